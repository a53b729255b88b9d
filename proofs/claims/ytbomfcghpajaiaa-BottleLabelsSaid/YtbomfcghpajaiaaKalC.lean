/- The operations that touch no memory, as steps of the calculus. No program. -/
import Derived.Test.YtbomfcghpajaiaaKalB
namespace Go.Dec
variable {κ : Option Nat}

theorem rUnd {P : Program} {t : TypeId} {d : TypeDesc} (h : P.underlying t = some d) (w : World) : (underlying t).run P w = .ok d w := by
  simp [underlying, h]

theorem rEqBoolIn {P : Program} {t : TypeId} (d : Nat) (h : P.underlying t = some .bool) (b c : Bool) (w : World) : (Op.equalIn (d + 1) t (.bool b) (.bool c)).run P w = .ok (b == c) w := by
  simp [Op.equalIn, rUnd h]
theorem rEqBool {P : Program} {t : TypeId} (h : P.underlying t = some .bool) (b c : Bool) (w : World) : (Op.equal t (.bool b) (.bool c)).run P w = .ok (b == c) w :=
  rEqBoolIn 9999 h b c w

/-! ### The general step -/
section
variable {β : Type} {P : Program} {ops : Array Oper} {rest : List Oper} {ks : List Kt} {Q : Exit → Act → World → Prop} {A : Act → World → Prop} {m : Option β} {r : β}

theorem GL.step {o : Oper} (hg : o.guard = none) (hnd : κ = none ∨ noDefer o.op = true) (h : m = some r → ∀ a w, A a w → ∃ v w', (execOp a.eval o).run P w = .ok (.value v) w' ∧ wpL κ P ops (interp κ P ks Q) rest (a.put o.dst v) w') :
    GL κ P ops (o :: rest) ks Q A m r := by
  intro hm a w ha
  obtain ⟨v, w', h1, h2⟩ := h hm a w ha
  unfold wpL
  rw [if_pos (by simp [Region.wanted, hg])]
  refine ⟨hnd, ?_⟩
  rw [h1]; exact h2

theorem GL.stepU {o : Oper} (hg : o.guard = none) (hnd : κ = none ∨ noDefer o.op = true) (h : m = some r → ∀ a w, A a w → ∃ w', (execOp a.eval o).run P w = .ok .skip w' ∧ wpL κ P ops (interp κ P ks Q) rest (a.put o.dst undef) w') :
    GL κ P ops (o :: rest) ks Q A m r := by
  intro hm a w ha
  obtain ⟨w', h1, h2⟩ := h hm a w ha
  unfold wpL
  rw [if_pos (by simp [Region.wanted, hg])]
  refine ⟨hnd, ?_⟩
  rw [h1]; exact h2

section
variable {n : Nat} {D : List Deferred} {S : List (Nat × Value)} {F : Fz} {hs : List HP}

theorem yielded_some {a : Act} {j t : Nat} {b : Bool} (hj : (ops[j]?).bind (·.dst) = some t) (hs : Sl n D S a) (hv : lookS S t = some (.bool b)) : yielded ops a.tmps j = some b := by
  have h := hs.2.2 t _ hv
  unfold yielded
  rw [hj]
  simp only [Option.bind_some]
  simp only [Array.getD_eq_getD_getElem?] at h
  cases e : a.tmps[t]? with
  | none => rw [e] at h; simp [undef] at h
  | some v => rw [e] at h; simp at h; subst h; rfl

theorem GL.on {dst : Option Tmp} {op : Op} {ty : TypeId} {pos : String} {after : Array Edge} {j t : Nat} {want : Bool} (hj : (ops[j]?).bind (·.dst) = some t) (hv : lookS S t = some (.bool want))
    (k : GL κ P ops (⟨dst, op, ty, pos, after, none⟩ :: rest) ks Q (Hd n D S F hs) m r) : GL κ P ops (⟨dst, op, ty, pos, after, some (j, want)⟩ :: rest) ks Q (Hd n D S F hs) m r := by
  intro hm a w ha
  have h := k hm a w ha
  have hy := yielded_some (ops := ops) hj ha.1 hv
  unfold wpL at h ⊢
  rw [if_pos (by simp [Region.wanted])] at h
  rw [if_pos (by simp [Region.wanted, hy])]
  exact h

def isNot : Value → Bool → Bool
  | .bool b, want => b != want
  | .tuple _, _ => true
  | _, _ => false

theorem GL.off {d : Nat} {op : Op} {ty : TypeId} {pos : String} {after : Array Edge} {j t : Nat} {want : Bool} {v : Value} (hd : Nat.blt d n = true) (hj : (ops[j]?).bind (·.dst) = some t) (hv : lookS S t = some v) (hx : isNot v want = true)
    (k : GL κ P ops rest ks Q (Hd n D ((d, undef) :: S) F hs) m r) : GL κ P ops (⟨some d, op, ty, pos, after, some (j, want)⟩ :: rest) ks Q (Hd n D S F hs) m r := by
  intro hm a w ha
  have hy : yielded ops a.tmps j ≠ some want := by
    have h := ha.1.2.2 t _ hv
    unfold yielded
    rw [hj]
    simp only [Option.bind_some]
    simp only [Array.getD_eq_getD_getElem?] at h
    cases e : a.tmps[t]? with
    | none => simp
    | some u =>
      rw [e] at h; simp at h; subst h
      cases u <;> simp [isNot] at hx ⊢
      exact hx
  unfold wpL
  rw [if_neg (by simp [Region.wanted, hy])]
  exact k hm _ w ⟨ha.1.put hd _, ha.2⟩

/-- An operation that yields v and leaves the world alone. -/
theorem GL.val {d : Nat} {op : Op} {ty : TypeId} {pos : String} {after : Array Edge} {v : Value} (hd : Nat.blt d n = true)
    (hrun : ∀ a w, Hd n D S F hs a w → (execOp a.eval ⟨some d, op, ty, pos, after, none⟩).run P w = .ok (.value v) w)
    (k : GL κ P ops rest ks Q (Hd n D ((d, v) :: S) F hs) m r) (hnd : noDefer op = true := by rfl) : GL κ P ops (⟨some d, op, ty, pos, after, none⟩ :: rest) ks Q (Hd n D S F hs) m r :=
  GL.step rfl (.inr hnd) fun hm a w ha => ⟨v, w, hrun a w ha, k hm _ w ⟨ha.1.put hd v, ha.2⟩⟩

section
variable {d : Nat} {ty t t' : TypeId} {pos : String} {after : Array Edge} {ox oy oz : Operand} {v u : Value} {kd : IntKind} {x y : Int}

theorem GL.move (hd : Nat.blt d n = true) (hx : evalS S ox = some v) (k : GL κ P ops rest ks Q (Hd n D ((d, v) :: S) F hs) m r) :
    GL κ P ops (⟨some d, .move ox, ty, pos, after, none⟩ :: rest) ks Q (Hd n D S F hs) m r :=
  GL.val hd (fun a w ha => by simp [execOp, ha.1.eval hx]) k
theorem GL.assign (hd : Nat.blt d n = true) (hx : evalS S ox = some v) (k : GL κ P ops rest ks Q (Hd n D ((d, v) :: S) F hs) m r) :
    GL κ P ops (⟨some d, .assign ox, ty, pos, after, none⟩ :: rest) ks Q (Hd n D S F hs) m r :=
  GL.val hd (fun a w ha => by simp [execOp, ha.1.eval hx]) k
theorem GL.moveL {f : Int → Option β} (hd : Nat.blt d n = true) (hx : evalS S ox = some (.int kd x)) (k : ∀ y, y = x → GL κ P ops rest ks Q (Hd n D ((d, .int kd y) :: S) F hs) (f y) r) :
    GL κ P ops (⟨some d, .move ox, ty, pos, after, none⟩ :: rest) ks Q (Hd n D S F hs) (bindv x f) r := GL.move hd hx (k x rfl)
theorem GL.assignL {f : Int → Option β} (hd : Nat.blt d n = true) (hx : evalS S ox = some (.int kd x)) (k : ∀ y, y = x → GL κ P ops rest ks Q (Hd n D ((d, .int kd y) :: S) F hs) (f y) r) :
    GL κ P ops (⟨some d, .assign ox, ty, pos, after, none⟩ :: rest) ks Q (Hd n D S F hs) (bindv x f) r := GL.assign hd hx (k x rfl)
theorem GL.assignB {b : Bool} {f : Bool → Option β} (hd : Nat.blt d n = true) (hx : evalS S ox = some (.bool b)) (k : ∀ y, y = b → GL κ P ops rest ks Q (Hd n D ((d, .bool y) :: S) F hs) (f y) r) :
    GL κ P ops (⟨some d, .assign ox, ty, pos, after, none⟩ :: rest) ks Q (Hd n D S F hs) (bindv b f) r := GL.assign hd hx (k b rfl)

theorem GL.pickT (hd : Nat.blt d n = true) (hz : evalS S oz = some (.bool true)) (hx : evalS S ox = some v) (k : GL κ P ops rest ks Q (Hd n D ((d, v) :: S) F hs) m r) :
    GL κ P ops (⟨some d, .pick oz ox oy, ty, pos, after, none⟩ :: rest) ks Q (Hd n D S F hs) m r :=
  GL.val hd (fun a w ha => by simp [execOp, ha.1.eval hx, ha.1.eval hz, asBool]) k
theorem GL.pickF (hd : Nat.blt d n = true) (hz : evalS S oz = some (.bool false)) (hy : evalS S oy = some v) (k : GL κ P ops rest ks Q (Hd n D ((d, v) :: S) F hs) m r) :
    GL κ P ops (⟨some d, .pick oz ox oy, ty, pos, after, none⟩ :: rest) ks Q (Hd n D S F hs) m r :=
  GL.val hd (fun a w ha => by simp [execOp, ha.1.eval hy, ha.1.eval hz, asBool]) k

theorem GL.add (hd : Nat.blt d n = true) (hx : evalS S ox = some (.int kd x)) (hy : evalS S oy = some (.int kd y)) (k : GL κ P ops rest ks Q (Hd n D ((d, .int kd (kd.wrap (x + y))) :: S) F hs) m r) :
    GL κ P ops (⟨some d, .binOp .add t ox oy t', ty, pos, after, none⟩ :: rest) ks Q (Hd n D S F hs) m r :=
  GL.val hd (fun a w ha => by simp [execOp, ha.1.eval hx, ha.1.eval hy, eqGuard, binOp, Op.intArith]) k
theorem GL.sub (hd : Nat.blt d n = true) (hx : evalS S ox = some (.int kd x)) (hy : evalS S oy = some (.int kd y)) (k : GL κ P ops rest ks Q (Hd n D ((d, .int kd (kd.wrap (x - y))) :: S) F hs) m r) :
    GL κ P ops (⟨some d, .binOp .sub t ox oy t', ty, pos, after, none⟩ :: rest) ks Q (Hd n D S F hs) m r :=
  GL.val hd (fun a w ha => by simp [execOp, ha.1.eval hx, ha.1.eval hy, eqGuard, binOp, Op.intArith]) k
theorem GL.mul (hd : Nat.blt d n = true) (hx : evalS S ox = some (.int kd x)) (hy : evalS S oy = some (.int kd y)) (k : GL κ P ops rest ks Q (Hd n D ((d, .int kd (kd.wrap (x * y))) :: S) F hs) m r) :
    GL κ P ops (⟨some d, .binOp .mul t ox oy t', ty, pos, after, none⟩ :: rest) ks Q (Hd n D S F hs) m r :=
  GL.val hd (fun a w ha => by simp [execOp, ha.1.eval hx, ha.1.eval hy, eqGuard, binOp, Op.intArith]) k

/-- Division: by what is not 0. -/
def quoK (kd : IntKind) (x y : Int) : Option Int := if y = 0 then none else some (kd.wrap (x.tdiv y))
def remK (x y : Int) : Option Int := if y = 0 then none else some (x.tmod y)
theorem GL.quoC (hd : Nat.blt d n = true) (h0 : y ≠ 0) (hx : evalS S ox = some (.int kd x)) (hy : evalS S oy = some (.int kd y)) (k : GL κ P ops rest ks Q (Hd n D ((d, .int kd (kd.wrap (x.tdiv y))) :: S) F hs) m r) :
    GL κ P ops (⟨some d, .binOp .quo t ox oy t', ty, pos, after, none⟩ :: rest) ks Q (Hd n D S F hs) m r :=
  GL.val hd (fun a w ha => by simp [execOp, ha.1.eval hx, ha.1.eval hy, eqGuard, binOp, Op.intDiv, h0]) k
theorem GL.remC (hd : Nat.blt d n = true) (h0 : y ≠ 0) (hx : evalS S ox = some (.int kd x)) (hy : evalS S oy = some (.int kd y)) (k : GL κ P ops rest ks Q (Hd n D ((d, .int kd (x.tmod y)) :: S) F hs) m r) :
    GL κ P ops (⟨some d, .binOp .rem t ox oy t', ty, pos, after, none⟩ :: rest) ks Q (Hd n D S F hs) m r :=
  GL.val hd (fun a w ha => by simp [execOp, ha.1.eval hx, ha.1.eval hy, eqGuard, binOp, Op.intDiv, h0]) k
theorem GL.quo {f : Int → Option β} (hd : Nat.blt d n = true) (hx : evalS S ox = some (.int kd x)) (hy : evalS S oy = some (.int kd y)) (k : ∀ z, quoK kd x y = some z → GL κ P ops rest ks Q (Hd n D ((d, .int kd z) :: S) F hs) (f z) r) :
    GL κ P ops (⟨some d, .binOp .quo t ox oy t', ty, pos, after, none⟩ :: rest) ks Q (Hd n D S F hs) ((quoK kd x y).bind f) r :=
  GL.bind fun z hz => by
    have h0 : y ≠ 0 := fun e => by simp [quoK, e] at hz
    have : z = kd.wrap (x.tdiv y) := by simpa [quoK, h0] using hz.symm
    have hk := k z hz
    rw [this] at hk ⊢
    exact GL.quoC hd h0 hx hy hk
theorem GL.rem {f : Int → Option β} (hd : Nat.blt d n = true) (hx : evalS S ox = some (.int kd x)) (hy : evalS S oy = some (.int kd y)) (k : ∀ z, remK x y = some z → GL κ P ops rest ks Q (Hd n D ((d, .int kd z) :: S) F hs) (f z) r) :
    GL κ P ops (⟨some d, .binOp .rem t ox oy t', ty, pos, after, none⟩ :: rest) ks Q (Hd n D S F hs) ((remK x y).bind f) r :=
  GL.bind fun z hz => by
    have h0 : y ≠ 0 := fun e => by simp [remK, e] at hz
    have : z = x.tmod y := by simpa [remK, h0] using hz.symm
    have hk := k z hz
    rw [this] at hk ⊢
    exact GL.remC hd h0 hx hy hk

theorem GL.eql (hd : Nat.blt d n = true) (hx : evalS S ox = some (.int kd x)) (hy : evalS S oy = some (.int kd y)) (k : GL κ P ops rest ks Q (Hd n D ((d, .bool (x == y)) :: S) F hs) m r) :
    GL κ P ops (⟨some d, .binOp .eql t ox oy t', ty, pos, after, none⟩ :: rest) ks Q (Hd n D S F hs) m r :=
  GL.val hd (fun a w ha => by simp [execOp, ha.1.eval hx, ha.1.eval hy, eqGuard, binOp, Op.intCmp]) k
theorem GL.neq (hd : Nat.blt d n = true) (hx : evalS S ox = some (.int kd x)) (hy : evalS S oy = some (.int kd y)) (k : GL κ P ops rest ks Q (Hd n D ((d, .bool (x != y)) :: S) F hs) m r) :
    GL κ P ops (⟨some d, .binOp .neq t ox oy t', ty, pos, after, none⟩ :: rest) ks Q (Hd n D S F hs) m r :=
  GL.val hd (fun a w ha => by simp [execOp, ha.1.eval hx, ha.1.eval hy, eqGuard, binOp, Op.intCmp]) k
theorem GL.lss (hd : Nat.blt d n = true) (hx : evalS S ox = some (.int kd x)) (hy : evalS S oy = some (.int kd y)) (k : GL κ P ops rest ks Q (Hd n D ((d, .bool (decide (x < y))) :: S) F hs) m r) :
    GL κ P ops (⟨some d, .binOp .lss t ox oy t', ty, pos, after, none⟩ :: rest) ks Q (Hd n D S F hs) m r :=
  GL.val hd (fun a w ha => by simp [execOp, ha.1.eval hx, ha.1.eval hy, eqGuard, binOp, Op.intCmp]) k
theorem GL.leq (hd : Nat.blt d n = true) (hx : evalS S ox = some (.int kd x)) (hy : evalS S oy = some (.int kd y)) (k : GL κ P ops rest ks Q (Hd n D ((d, .bool (decide (x ≤ y))) :: S) F hs) m r) :
    GL κ P ops (⟨some d, .binOp .leq t ox oy t', ty, pos, after, none⟩ :: rest) ks Q (Hd n D S F hs) m r :=
  GL.val hd (fun a w ha => by simp [execOp, ha.1.eval hx, ha.1.eval hy, eqGuard, binOp, Op.intCmp]) k
theorem GL.gtr (hd : Nat.blt d n = true) (hx : evalS S ox = some (.int kd x)) (hy : evalS S oy = some (.int kd y)) (k : GL κ P ops rest ks Q (Hd n D ((d, .bool (decide (x > y))) :: S) F hs) m r) :
    GL κ P ops (⟨some d, .binOp .gtr t ox oy t', ty, pos, after, none⟩ :: rest) ks Q (Hd n D S F hs) m r :=
  GL.val hd (fun a w ha => by simp [execOp, ha.1.eval hx, ha.1.eval hy, eqGuard, binOp, Op.intCmp]) k
theorem GL.geq (hd : Nat.blt d n = true) (hx : evalS S ox = some (.int kd x)) (hy : evalS S oy = some (.int kd y)) (k : GL κ P ops rest ks Q (Hd n D ((d, .bool (decide (x ≥ y))) :: S) F hs) m r) :
    GL κ P ops (⟨some d, .binOp .geq t ox oy t', ty, pos, after, none⟩ :: rest) ks Q (Hd n D S F hs) m r :=
  GL.val hd (fun a w ha => by simp [execOp, ha.1.eval hx, ha.1.eval hy, eqGuard, binOp, Op.intCmp]) k
theorem GL.eqlB {b c : Bool} (hd : Nat.blt d n = true) (ht : P.underlying t = some .bool) (hx : evalS S ox = some (.bool b)) (hy : evalS S oy = some (.bool c)) (k : GL κ P ops rest ks Q (Hd n D ((d, .bool (b == c)) :: S) F hs) m r) :
    GL κ P ops (⟨some d, .binOp .eql t ox oy t', ty, pos, after, none⟩ :: rest) ks Q (Hd n D S F hs) m r :=
  GL.val hd (fun a w ha => by simp [execOp, ha.1.eval hx, ha.1.eval hy, eqGuard, binOp, rEqBool ht]) k
theorem GL.neqB {b c : Bool} (hd : Nat.blt d n = true) (ht : P.underlying t = some .bool) (hx : evalS S ox = some (.bool b)) (hy : evalS S oy = some (.bool c)) (k : GL κ P ops rest ks Q (Hd n D ((d, .bool (!(b == c))) :: S) F hs) m r) :
    GL κ P ops (⟨some d, .binOp .neq t ox oy t', ty, pos, after, none⟩ :: rest) ks Q (Hd n D S F hs) m r :=
  GL.val hd (fun a w ha => by simp [execOp, ha.1.eval hx, ha.1.eval hy, eqGuard, binOp, rEqBool ht]) k

def andK (kd : IntKind) (x y : Int) : Int := kd.wrap (BitVec.ofInt kd.bits x &&& BitVec.ofInt kd.bits y).toNat
def orK (kd : IntKind) (x y : Int) : Int := kd.wrap (BitVec.ofInt kd.bits x ||| BitVec.ofInt kd.bits y).toNat
def shlK (kd : IntKind) (x y : Int) : Int := kd.wrap (x * 2 ^ (min y.toNat kd.bits))
def shrK (kd : IntKind) (x y : Int) : Int := x.fdiv (2 ^ (min y.toNat kd.bits))
theorem GL.andI (hd : Nat.blt d n = true) (hx : evalS S ox = some (.int kd x)) (hy : evalS S oy = some (.int kd y)) (k : GL κ P ops rest ks Q (Hd n D ((d, .int kd (andK kd x y)) :: S) F hs) m r) :
    GL κ P ops (⟨some d, .binOp .and t ox oy t', ty, pos, after, none⟩ :: rest) ks Q (Hd n D S F hs) m r :=
  GL.val hd (fun a w ha => by simp [execOp, ha.1.eval hx, ha.1.eval hy, eqGuard, binOp, Op.intBits, andK]) k
theorem GL.orI (hd : Nat.blt d n = true) (hx : evalS S ox = some (.int kd x)) (hy : evalS S oy = some (.int kd y)) (k : GL κ P ops rest ks Q (Hd n D ((d, .int kd (orK kd x y)) :: S) F hs) m r) :
    GL κ P ops (⟨some d, .binOp .or t ox oy t', ty, pos, after, none⟩ :: rest) ks Q (Hd n D S F hs) m r :=
  GL.val hd (fun a w ha => by simp [execOp, ha.1.eval hx, ha.1.eval hy, eqGuard, binOp, Op.intBits, orK]) k
theorem GL.shlC {kd' : IntKind} (hd : Nat.blt d n = true) (h0 : ¬ y < 0) (hx : evalS S ox = some (.int kd x)) (hy : evalS S oy = some (.int kd' y)) (k : GL κ P ops rest ks Q (Hd n D ((d, .int kd (shlK kd x y)) :: S) F hs) m r) :
    GL κ P ops (⟨some d, .binOp .shl t ox oy t', ty, pos, after, none⟩ :: rest) ks Q (Hd n D S F hs) m r :=
  GL.val hd (fun a w ha => by simp [execOp, ha.1.eval hx, ha.1.eval hy, eqGuard, binOp, Op.shift, h0, shlK]) k
theorem GL.shrC {kd' : IntKind} (hd : Nat.blt d n = true) (h0 : ¬ y < 0) (hx : evalS S ox = some (.int kd x)) (hy : evalS S oy = some (.int kd' y)) (k : GL κ P ops rest ks Q (Hd n D ((d, .int kd (shrK kd x y)) :: S) F hs) m r) :
    GL κ P ops (⟨some d, .binOp .shr t ox oy t', ty, pos, after, none⟩ :: rest) ks Q (Hd n D S F hs) m r :=
  GL.val hd (fun a w ha => by simp [execOp, ha.1.eval hx, ha.1.eval hy, eqGuard, binOp, Op.shift, h0, shrK]) k
/-- A shift by a count that may be below 0. -/
def shlO (kd : IntKind) (x y : Int) : Option Int := if y < 0 then none else some (shlK kd x y)
def shrO (kd : IntKind) (x y : Int) : Option Int := if y < 0 then none else some (shrK kd x y)
theorem GL.shl {kd' : IntKind} {f : Int → Option β} (hd : Nat.blt d n = true) (hx : evalS S ox = some (.int kd x)) (hy : evalS S oy = some (.int kd' y)) (k : ∀ z, shlO kd x y = some z → GL κ P ops rest ks Q (Hd n D ((d, .int kd z) :: S) F hs) (f z) r) :
    GL κ P ops (⟨some d, .binOp .shl t ox oy t', ty, pos, after, none⟩ :: rest) ks Q (Hd n D S F hs) ((shlO kd x y).bind f) r :=
  GL.bind fun z hz => by
    have h0 : ¬ y < 0 := fun e => by simp [shlO, e] at hz
    have : z = shlK kd x y := by simpa [shlO, h0] using hz.symm
    have hk := k z hz
    rw [this] at hk ⊢
    exact GL.shlC hd h0 hx hy hk
theorem GL.shr {kd' : IntKind} {f : Int → Option β} (hd : Nat.blt d n = true) (hx : evalS S ox = some (.int kd x)) (hy : evalS S oy = some (.int kd' y)) (k : ∀ z, shrO kd x y = some z → GL κ P ops rest ks Q (Hd n D ((d, .int kd z) :: S) F hs) (f z) r) :
    GL κ P ops (⟨some d, .binOp .shr t ox oy t', ty, pos, after, none⟩ :: rest) ks Q (Hd n D S F hs) ((shrO kd x y).bind f) r :=
  GL.bind fun z hz => by
    have h0 : ¬ y < 0 := fun e => by simp [shrO, e] at hz
    have : z = shrK kd x y := by simpa [shrO, h0] using hz.symm
    have hk := k z hz
    rw [this] at hk ⊢
    exact GL.shrC hd h0 hx hy hk

theorem GL.not {b : Bool} (hd : Nat.blt d n = true) (hx : evalS S ox = some (.bool b)) (k : GL κ P ops rest ks Q (Hd n D ((d, .bool (!b)) :: S) F hs) m r) :
    GL κ P ops (⟨some d, .unOp .not t ox, ty, pos, after, none⟩ :: rest) ks Q (Hd n D S F hs) m r :=
  GL.val hd (fun a w ha => by simp [execOp, ha.1.eval hx, Op.unary]) k
theorem GL.neg (hd : Nat.blt d n = true) (hx : evalS S ox = some (.int kd x)) (k : GL κ P ops rest ks Q (Hd n D ((d, .int kd (kd.wrap (0 - x))) :: S) F hs) m r) :
    GL κ P ops (⟨some d, .unOp .neg t ox, ty, pos, after, none⟩ :: rest) ks Q (Hd n D S F hs) m r :=
  GL.val hd (fun a w ha => by simp [execOp, ha.1.eval hx, Op.unary, Op.intArith]) k
theorem GL.convI {ds : TypeDesc} {kd' : IntKind} (hd : Nat.blt d n = true) (h1 : P.underlying t = some ds) (h2 : P.underlying t' = some (.int kd')) (hx : evalS S ox = some (.int kd x)) (k : GL κ P ops rest ks Q (Hd n D ((d, .int kd' (kd'.wrap x)) :: S) F hs) m r) :
    GL κ P ops (⟨some d, .convert t t' ox, ty, pos, after, none⟩ :: rest) ks Q (Hd n D S F hs) m r :=
  GL.val hd (fun a w ha => by
    simp only [execOp, ha.1.eval hx, convert, Sem.run_bind, rUnd h1, rUnd h2, Result.andThen]
    cases ds <;> simp [Conv.intToInt]) k
theorem GL.extract {i : Nat} {vs : Array Value} (hd : Nat.blt d n = true) (hx : evalS S ox = some (.tuple vs)) (hi : vs[i]? = some v) (k : GL κ P ops rest ks Q (Hd n D ((d, v) :: S) F hs) m r) :
    GL κ P ops (⟨some d, .extract ox i, ty, pos, after, none⟩ :: rest) ks Q (Hd n D S F hs) m r :=
  GL.val hd (fun a w ha => by simp [execOp, ha.1.eval hx, Instr.extract, hi]) k
theorem GL.field {i : Nat} {cs : Array Value} {fs : Array Field} {f : Field} (hd : Nat.blt d n = true) (ht : P.underlying t = some (.struct fs)) (hf : fs[i]? = some f) (hA : ∀ w, (isAgg f.type).run P w = .ok false w)
    (hx : evalS S ox = some (.agg cs)) (hi : cs[f.offset]? = some v) (k : GL κ P ops rest ks Q (Hd n D ((d, v) :: S) F hs) m r) :
    GL κ P ops (⟨some d, .field t ox i, ty, pos, after, none⟩ :: rest) ks Q (Hd n D S F hs) m r :=
  GL.val hd (fun a w ha => by simp [execOp, ha.1.eval hx, Instr.field, rUnd ht, hf, asAgg, part, hA, hi]) k
theorem GL.fieldA {i z : Nat} {cs vs : Array Value} {fs : Array Field} {f : Field} (hd : Nat.blt d n = true) (ht : P.underlying t = some (.struct fs)) (hf : fs[i]? = some f) (hA : ∀ w, (isAgg f.type).run P w = .ok true w) (hz : ∀ w, (sizeOf f.type).run P w = .ok z w)
    (hx : evalS S ox = some (.agg cs)) (hi : cs.extract f.offset (f.offset + z) = vs) (k : GL κ P ops rest ks Q (Hd n D ((d, .agg vs) :: S) F hs) m r) :
    GL κ P ops (⟨some d, .field t ox i, ty, pos, after, none⟩ :: rest) ks Q (Hd n D S F hs) m r :=
  GL.val hd (fun a w ha => by simp [execOp, ha.1.eval hx, Instr.field, rUnd ht, hf, asAgg, part, hA, hz, hi]) k

def evalL (S : List (Nat × Value)) : List Operand → Option (List Value)
  | [] => some []
  | o :: os => match evalS S o with
    | some v => match evalL S os with
      | some vs => some (v :: vs)
      | none => none
    | none => none
theorem evalL_map {a : Act} (hs : Sl n D S a) : ∀ {os : List Operand} {vs : List Value}, evalL S os = some vs → os.map a.eval = vs
  | [], vs, h => by simp [evalL] at h; simp [h]
  | o :: os, vs, h => by
    simp only [evalL] at h
    cases e : evalS S o with
    | none => rw [e] at h; cases h
    | some v =>
      rw [e] at h
      cases e2 : evalL S os with
      | none => rw [e2] at h; cases h
      | some us =>
        rw [e2] at h
        simp only [Option.some.injEq] at h
        subst h
        simp [hs.eval e, evalL_map hs e2]

theorem GL.makeFunc {fn : Fn} {caps : List Operand} {vs : List Value} (hd : Nat.blt d n = true) (hx : evalL S caps = some vs) (k : GL κ P ops rest ks Q (Hd n D ((d, .func fn #[] vs.toArray) :: S) F hs) m r) :
    GL κ P ops (⟨some d, .makeFunc fn #[] caps.toArray, ty, pos, after, none⟩ :: rest) ks Q (Hd n D S F hs) m r :=
  GL.val hd (fun a w ha => by simp [execOp, Instr.makeFunc, evalL_map ha.1 hx]) k

/-- A struct's value out of its parts. -/
def evalP (S : List (Nat × Value)) : List (Nat × Operand) → Option (List (Nat × Value))
  | [] => some []
  | (i, o) :: os => match evalS S o with
    | some v => match evalP S os with
      | some vs => some ((i, v) :: vs)
      | none => none
    | none => none
theorem evalP_map {a : Act} (hs : Sl n D S a) : ∀ {os : List (Nat × Operand)} {vs : List (Nat × Value)}, evalP S os = some vs → os.map (fun p => (p.1, a.eval p.2)) = vs
  | [], vs, h => by simp [evalP] at h; simp [h]
  | (i, o) :: os, vs, h => by
    simp only [evalP] at h
    cases e : evalS S o with
    | none => rw [e] at h; cases h
    | some v =>
      rw [e] at h
      cases e2 : evalP S os with
      | none => rw [e2] at h; cases h
      | some us =>
        rw [e2] at h
        simp only [Option.some.injEq] at h
        subst h
        simp [hs.eval e, evalP_map hs e2]

/-- Where the fields of a struct lie. -/
def Places (P : Program) (fs : Array Field) (pl : Array (Nat × Nat)) : Prop := ∀ w, (fs.mapM fun f => do pure (f.offset, ← sizeOf f.type) : Sem (Array (Nat × Nat))).run P w = .ok pl w

theorem GL.build {fs : Array Field} {pl : Array (Nat × Nat)} {zc cs : Array Value} {z : Value} {parts : List (Nat × Operand)} {ps : List (Nat × Value)} (hd : Nat.blt d n = true) (ht : P.underlying t = some (.struct fs)) (hz : ∀ w, (zeroValue t).run P w = .ok z w) (hpl : Places P fs pl)
    (hx : evalP S parts = some ps) (hc : z.cells = zc) (hi : Instr.fill (pl[·]?) zc ps = some cs) (k : GL κ P ops rest ks Q (Hd n D ((d, .agg cs) :: S) F hs) m r) :
    GL κ P ops (⟨some d, .build t parts.toArray, ty, pos, after, none⟩ :: rest) ks Q (Hd n D S F hs) m r :=
  GL.val hd (fun a w ha => by
    have hm := evalP_map ha.1 hx
    subst hc
    simp only [execOp, Instr.build, Sem.run_bind, hz, Result.andThen, rUnd ht, hpl w]
    simp [hm, hi]) k
theorem GL.buildA {len e sz : Nat} {zc cs : Array Value} {z : Value} {parts : List (Nat × Operand)} {ps : List (Nat × Value)} (hd : Nat.blt d n = true) (ht : P.underlying t = some (.array len e)) (hz : ∀ w, (zeroValue t).run P w = .ok z w) (hsz : ∀ w, (sizeOf e).run P w = .ok sz w)
    (hx : evalP S parts = some ps) (hc : z.cells = zc) (hi : Instr.fill (fun i => some (i * sz, sz)) zc ps = some cs) (k : GL κ P ops rest ks Q (Hd n D ((d, .agg cs) :: S) F hs) m r) :
    GL κ P ops (⟨some d, .build t parts.toArray, ty, pos, after, none⟩ :: rest) ks Q (Hd n D S F hs) m r :=
  GL.val hd (fun a w ha => by
    have hm := evalP_map ha.1 hx
    subst hc
    simp only [execOp, Instr.build, Sem.run_bind, hz, Result.andThen, rUnd ht, hsz w]
    simp [hm, hi]) k

theorem GL.makeIface (hd : Nat.blt d n = true) (hc : P.concrete t = true) (hx : evalS S ox = some v) (k : GL κ P ops rest ks Q (Hd n D ((d, .iface t v) :: S) F hs) m r) :
    GL κ P ops (⟨some d, .makeInterface t ox, ty, pos, after, none⟩ :: rest) ks Q (Hd n D S F hs) m r :=
  GL.val hd (fun a w ha => by simp [execOp, ha.1.eval hx, run_makeInterface w t v hc]) k

/-! Addresses -/
theorem add_addr (b o z : Nat) : (⟨b, o, none⟩ : Addr).add z = ⟨b, o + z, none⟩ := by
  unfold Addr.add; split
  · rename_i h; subst h; rfl
  · rfl
theorem GL.fieldAddr {i b o z : Nat} {fs : Array Field} {f : Field} (hd : Nat.blt d n = true) (ht : P.underlying t = some (.struct fs)) (hf : fs[i]? = some f) (hz : ∀ w, (sizeOf f.type).run P w = .ok (z + 1) w)
    (hx : evalS S ox = some (.pointer (some ⟨b, o, none⟩))) (k : GL κ P ops rest ks Q (Hd n D ((d, .pointer (some ⟨b, o + f.offset, none⟩)) :: S) F hs) m r) :
    GL κ P ops (⟨some d, .fieldAddr t ox i, ty, pos, after, none⟩ :: rest) ks Q (Hd n D S F hs) m r :=
  GL.val hd (fun a w ha => by simp [execOp, ha.1.eval hx, Instr.fieldAt, rUnd ht, hf, Instr.sureAddr, fieldPlace, hz, add_addr]) k
/-- An index within bounds. -/
def idxO (n : Nat) (i : Int) : Option Nat := if 0 ≤ i ∧ i < n then some i.toNat else none
theorem idxO_some {n k : Nat} {i : Int} (h : idxO n i = some k) : 0 ≤ i ∧ i < n ∧ k = i.toNat ∧ k < n := by
  unfold idxO at h
  split at h
  · rename_i hh; simp only [Option.some.injEq] at h; subst h; omega
  · cases h
/-- The address of an array's element. -/
theorem GL.indexAddrA {len e b o z j : Nat} (hd : Nat.blt d n = true) (ht : P.underlying t = some (.array len e)) (hz : ∀ w, (sizeOf e).run P w = .ok z w)
    (hx : evalS S ox = some (.pointer (some ⟨b, o, none⟩))) (hy : evalS S oy = some (.int kd x)) (hj : idxO len x = some j) (k : GL κ P ops rest ks Q (Hd n D ((d, .pointer (some ⟨b, o + j * z, none⟩)) :: S) F hs) m r) :
    GL κ P ops (⟨some d, .indexAddr t ox oy, ty, pos, after, none⟩ :: rest) ks Q (Hd n D S F hs) m r :=
  GL.val hd (fun a w ha => by
    obtain ⟨h0, h1, h2, _⟩ := idxO_some hj
    subst h2
    simp [execOp, ha.1.eval hx, ha.1.eval hy, Instr.indexAt, asIntOf, rUnd ht, Instr.sureAddr, h0, h1, hz, add_addr]) k
/-- The address of a slice's element. -/
theorem GL.indexAddrS {len cap e b o z j : Nat} (hd : Nat.blt d n = true) (ht : P.underlying t = some (.slice e)) (hz : ∀ w, (sizeOf e).run P w = .ok z w)
    (hx : evalS S ox = some (.slice (some ⟨b, o, none⟩) len cap)) (hy : evalS S oy = some (.int kd x)) (hj : idxO len x = some j) (k : GL κ P ops rest ks Q (Hd n D ((d, .pointer (some ⟨b, o + j * z, none⟩)) :: S) F hs) m r) :
    GL κ P ops (⟨some d, .indexAddr t ox oy, ty, pos, after, none⟩ :: rest) ks Q (Hd n D S F hs) m r :=
  GL.val hd (fun a w ha => by
    obtain ⟨h0, h1, h2, _⟩ := idxO_some hj
    subst h2
    simp [execOp, ha.1.eval hx, ha.1.eval hy, Instr.indexAt, asIntOf, rUnd ht, h0, h1, hz, add_addr]) k
/-- An element of an array's value. -/
theorem GL.indexA {len e z j : Nat} {cs : Array Value} (hd : Nat.blt d n = true) (ht : P.underlying t = some (.array len e)) (hA : ∀ w, (isAgg e).run P w = .ok false w) (hz : ∀ w, (sizeOf e).run P w = .ok z w)
    (hx : evalS S ox = some (.agg cs)) (hy : evalS S oy = some (.int kd x)) (hj : idxO len x = some j) (hc : cs[j * z]? = some v) (k : GL κ P ops rest ks Q (Hd n D ((d, v) :: S) F hs) m r) :
    GL κ P ops (⟨some d, .index t ox oy, ty, pos, after, none⟩ :: rest) ks Q (Hd n D S F hs) m r :=
  GL.val hd (fun a w ha => by
    obtain ⟨h0, h1, h2, _⟩ := idxO_some hj
    subst h2
    simp [execOp, ha.1.eval hx, ha.1.eval hy, Instr.index, asIntOf, rUnd ht, h0, h1, hz, part, hA, hc]) k

/-! Builtins that touch no memory -/
theorem GL.lenS {e len cap : Nat} {p : Option Addr} {T : Array TypeId} (hd : Nat.blt d n = true) (hT : T[0]? = some t) (ht : P.underlying t = some (.slice e)) (hx : evalS S ox = some (.slice p len cap)) (k : GL κ P ops rest ks Q (Hd n D ((d, .int .i64 len) :: S) F hs) m r) :
    GL κ P ops (⟨some d, .call ⟨.builtin .len, #[ox], T⟩, ty, pos, after, none⟩ :: rest) ks Q (Hd n D S F hs) m r :=
  GL.val hd (fun a w ha => by simp [execOp, resolve, invoke, builtin, Builtin.len_, ha.1.eval hx, hT, rUnd ht, goInt]) k
theorem GL.min2 {T : Array TypeId} (hd : Nat.blt d n = true) (hx : evalS S ox = some (.int kd x)) (hy : evalS S oy = some (.int kd y)) (k : GL κ P ops rest ks Q (Hd n D ((d, .int kd (if y < x then y else x)) :: S) F hs) m r) :
    GL κ P ops (⟨some d, .call ⟨.builtin .min, #[ox, oy], T⟩, ty, pos, after, none⟩ :: rest) ks Q (Hd n D S F hs) m r :=
  GL.val hd (fun a w ha => by simp [execOp, resolve, invoke, builtin, Builtin.min_, Builtin.min2, ha.1.eval hx, ha.1.eval hy]) k
theorem GL.max2 {T : Array TypeId} (hd : Nat.blt d n = true) (hx : evalS S ox = some (.int kd x)) (hy : evalS S oy = some (.int kd y)) (k : GL κ P ops rest ks Q (Hd n D ((d, .int kd (if x < y then y else x)) :: S) F hs) m r) :
    GL κ P ops (⟨some d, .call ⟨.builtin .max, #[ox, oy], T⟩, ty, pos, after, none⟩ :: rest) ks Q (Hd n D S F hs) m r :=
  GL.val hd (fun a w ha => by simp [execOp, resolve, invoke, builtin, Builtin.max_, Builtin.max2, ha.1.eval hx, ha.1.eval hy]) k
end
end
end
end Go.Dec
