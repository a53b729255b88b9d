/- What the printed walks use besides: arrays, function values, the ends of pieces. No program. -/
import Derived.Test.YtbomfcghpajaiaaKalG
namespace Go.Dec
variable {κ : Option Nat}

abbrev w64 (n : Int) : Int := IntKind.i64.wrap n
abbrev imin (x y : Int) : Int := if y < x then y else x
abbrev imax (x y : Int) : Int := if x < y then y else x
def cInt (k : IntKind) (x : Int) : List Value := [.int k x]
def cBool (x : Bool) : List Value := [.bool x]
def arrL {α : Type} (n : Nat) (f : Nat → α) : List α := (List.range n).map f
def cArr {α : Type} (n : Nat) (c : α → List Value) (f : Nat → α) : List Value := (arrL n f).flatMap c
def updN {α : Type} (f : Nat → α) (i : Nat) (x : α) : Nat → α := fun j => match Nat.beq j i with | true => x | false => f j
def arrOf {α : Type} (l : List α) (z : α) : Nat → α := fun i => l.getD i z
theorem arrL_len {α : Type} (n : Nat) (f : Nat → α) : (arrL n f).length = n := by simp [arrL]
theorem arrL_all {α : Type} {n : Nat} {f : Nat → α} {q : Nat → α → Prop} (h : ∀ j, j < n → q j (f j)) : ∀ i x, (arrL n f)[i]? = some x → q i x := by
  intro i x e
  simp only [arrL, List.getElem?_map] at e
  by_cases hi : i < n
  · simp [hi] at e; subst e; exact h i hi
  · simp [hi] at e

theorem allLt6 {p : Nat → Prop} (h0 : p 0) (h1 : p 1) (h2 : p 2) (h3 : p 3) (h4 : p 4) (h5 : p 5) : ∀ j, j < 6 → p j := by
  intro j hj; match j, hj with | 0, _ => exact h0 | 1, _ => exact h1 | 2, _ => exact h2 | 3, _ => exact h3 | 4, _ => exact h4 | 5, _ => exact h5
theorem allLt7 {p : Nat → Prop} (h0 : p 0) (h1 : p 1) (h2 : p 2) (h3 : p 3) (h4 : p 4) (h5 : p 5) (h6 : p 6) : ∀ j, j < 7 → p j := by
  intro j hj; match j, hj with | 0, _ => exact h0 | 1, _ => exact h1 | 2, _ => exact h2 | 3, _ => exact h3 | 4, _ => exact h4 | 5, _ => exact h5 | 6, _ => exact h6
theorem allLt8 {p : Nat → Prop} (h0 : p 0) (h1 : p 1) (h2 : p 2) (h3 : p 3) (h4 : p 4) (h5 : p 5) (h6 : p 6) (h7 : p 7) : ∀ j, j < 8 → p j := by
  intro j hj; match j, hj with | 0, _ => exact h0 | 1, _ => exact h1 | 2, _ => exact h2 | 3, _ => exact h3 | 4, _ => exact h4 | 5, _ => exact h5 | 6, _ => exact h6 | 7, _ => exact h7

/-- A function's value that does what a model says. -/
def RepFn {α γ : Type} (P : Program) (F : Fz) (f : FuncId) (caps : List Value) (arg : α → Fz → List Value → Prop) (res : γ → Fz → Value → Prop) (m : α → Option γ) : Prop :=
  (∀ args w, (callFunc f args).run P w = .ok (.enter f args) w) ∧ ∀ F', F ≤ F' → ∀ x vs, arg x F' vs → CT0 P f (vs ++ caps).toArray F' (m x) res
theorem RepFn.mono {α γ : Type} {P : Program} {F F' : Fz} {f : FuncId} {caps : List Value} {arg : α → Fz → List Value → Prop} {res : γ → Fz → Value → Prop} {m : α → Option γ} (h : RepFn P F f caps arg res m) (le : F ≤ F') : RepFn P F' f caps arg res m :=
  ⟨h.1, fun G le' x vs hv => h.2 G (Fz.le_trans le le') x vs hv⟩

/-- An element that is a slice, or a function's value. -/
def rSl {α : Type} (sz : Nat) (c : ERel α) : ERel (List α) := fun F x vs => ∃ p k, vs = [.slice p x.length k] ∧ RepSl sz c F p k x
def rFn {α γ : Type} (P : Program) (arg : α → Fz → List Value → Prop) (res : γ → Fz → Value → Prop) : ERel (α → Option γ) := fun F m vs => ∃ f caps, vs = [.func (.func f) #[] caps.toArray] ∧ RepFn P F f caps arg res m

section
variable {β : Type} {P : Program} {ops : Array Oper} {rest : List Oper} {ks : List Kt} {Q : Exit → Act → World → Prop} {A : Act → World → Prop} {m : Option β} {r : β}
variable {n : Nat} {D : List Deferred} {S S0 : List (Nat × Value)} {F F' : Fz} {hs : List HP}

theorem GC.ex {c : Code} (h : ∀ a w, A a w → ∃ A' : Act → World → Prop, A' a w ∧ GC κ P c ks Q A' m r) : GC κ P c ks Q A m r := fun hm a w ha => let ⟨_, h1, h2⟩ := h a w ha; h2 hm a w h1
theorem GE.ex (h : ∀ a w, A a w → ∃ A' : Act → World → Prop, A' a w ∧ GE κ P ks Q A' m r) : GE κ P ks Q A m r := fun hm a w ha => let ⟨_, h1, h2⟩ := h a w ha; h2 hm a w h1
theorem GE.app (h : GE κ P ks Q A m r) (hm : m = some r) (a : Act) (w : World) (ha : A a w) : interp κ P ks Q .normal a w := h hm a w ha
theorem GC.bind {α : Type} {c : Code} {e : Option α} {f : α → Option β} (h : ∀ y, e = some y → GC κ P c ks Q A (f y) r) : GC κ P c ks Q A (e.bind f) r :=
  fun hm => by
    cases e with
    | none => simp at hm
    | some y => exact h y rfl hm
theorem GC.letv {α : Type} {c : Code} {x : α} {f : α → Option β} (h : ∀ y, y = x → GC κ P c ks Q A (f y) r) : GC κ P c ks Q A (bindv x f) r := h x rfl
theorem GC.ite {c : Code} {b : Bool} {m1 m2 : Option β} (h1 : b = true → GC κ P c ks Q A m1 r) (h2 : b = false → GC κ P c ks Q A m2 r) : GC κ P c ks Q A (if b then m1 else m2) r := by
  cases hb : b with
  | true => rw [if_pos rfl]; exact h1 hb
  | false => rw [if_neg (by simp)]; exact h2 hb
theorem GC.drop {c : Code} (i : Nat) (k : GC κ P c ks Q (Hd n D S F (hs.eraseIdx i)) m r) : GC κ P c ks Q (Hd n D S F hs) m r := GC.weak (fun _ _ h => ⟨h.1, h.2.eraseAt i⟩) k

theorem LPost.norm {σ γ : Type} {I : σ → Act → World → Prop} {Dn : γ → Exit → Act → World → Prop} {s : σ} {ctl : Ctl σ γ} (h : ∀ a w, A a w → I s a w) : some (Ctl.next s) = some ctl → ∀ a w, A a w → LPost I Dn ctl .normal a w := fun e a w ha => by
  simp only [Option.some.injEq] at e; subst e; exact ⟨rfl, h a w ha⟩
theorem LPost.exit {σ γ : Type} {I : σ → Act → World → Prop} {Dn : γ → Exit → Act → World → Prop} {b : γ} {id : Nat} {ctl : Ctl σ γ} (h : ∀ a w, A a w → Dn b (.exit id) a w) : some (Ctl.done b) = some ctl → ∀ a w, A a w → LPost I Dn ctl (.exit id) a w := fun e a w ha => by
  simp only [Option.some.injEq] at e; subst e; exact ⟨by simp, h a w ha⟩
theorem LPost.ret {σ γ : Type} {I : σ → Act → World → Prop} {Dn : γ → Exit → Act → World → Prop} {b : γ} {ctl : Ctl σ γ} (h : ∀ a w, A a w → Dn b .ret a w) : some (Ctl.done b) = some ctl → ∀ a w, A a w → LPost I Dn ctl .ret a w := fun e a w ha => by
  simp only [Option.some.injEq] at e; subst e; exact ⟨by simp, h a w ha⟩
theorem join_norm {σ : Type} {I : σ → Act → World → Prop} {x s : σ} (h : ∀ a w, A a w → I x a w) : some x = some s → ∀ a w, A a w → (Exit.normal = .normal ∧ I s a w) := fun e a w ha => by
  simp only [Option.some.injEq] at e; subst e; exact ⟨rfl, h a w ha⟩

theorem GL.fin1 {d : Nat} {v : Value} {x : β} (le : F ≤ F') : GL κ P ops [] [] (SegPost n D d v S F hs) (Hd n D ((d, v) :: S) F' hs) (some x) x := fun _ _ _ ha => ⟨rfl, F', le, ha⟩
theorem GL.finZ {S' : List (Nat × Value)} {d : Nat} {x z : Bool} (j : Nat) (hv : lookS S' d = some (.bool x)) (hd : S'.drop j = S) (hf : fresh S (S'.take j) = true) (le : F ≤ F') :
    GL κ P ops [] [] (SegPost n D d (.bool z) S F hs) (Hd n D S' F' hs) (some x) z := fun e a w ha => by
  simp only [Option.some.injEq] at e; subst e
  exact ⟨rfl, F', le, ha.1.sub (Sub.cons hv (sub_of_drop j hd hf)), ha.2⟩
theorem GL.nilCheck {d : Nat} {ty : TypeId} {pos : String} {after : Array Edge} {ox : Operand} {p : Addr} (hd : Nat.blt d n = true) (hx : evalS S ox = some (.pointer (some p))) (k : GL κ P ops rest ks Q (Hd n D ((d, .pointer (some p)) :: S) F hs) m r) :
    GL κ P ops (⟨some d, .nilCheck ox, ty, pos, after, none⟩ :: rest) ks Q (Hd n D S F hs) m r :=
  GL.val hd (fun a w ha => by simp [execOp, ha.1.eval hx]) k
theorem GL.quoK {d : Nat} {ty t t' : TypeId} {pos : String} {after : Array Edge} {ox oy : Operand} {kd : IntKind} {x y z : Int} (hz : Dec.quoK kd x y = some z) (hd : Nat.blt d n = true) (hx : evalS S ox = some (.int kd x)) (hy : evalS S oy = some (.int kd y)) (k : GL κ P ops rest ks Q (Hd n D ((d, .int kd z) :: S) F hs) m r) :
    GL κ P ops (⟨some d, .binOp .quo t ox oy t', ty, pos, after, none⟩ :: rest) ks Q (Hd n D S F hs) m r := by
  have h0 : y ≠ 0 := fun e => by simp [Dec.quoK, e] at hz
  have : z = kd.wrap (x.tdiv y) := by simpa [Dec.quoK, h0] using hz.symm
  rw [this] at k
  exact GL.quoC hd h0 hx hy k
theorem GL.remK {d : Nat} {ty t t' : TypeId} {pos : String} {after : Array Edge} {ox oy : Operand} {kd : IntKind} {x y z : Int} (hz : Dec.remK x y = some z) (hd : Nat.blt d n = true) (hx : evalS S ox = some (.int kd x)) (hy : evalS S oy = some (.int kd y)) (k : GL κ P ops rest ks Q (Hd n D ((d, .int kd z) :: S) F hs) m r) :
    GL κ P ops (⟨some d, .binOp .rem t ox oy t', ty, pos, after, none⟩ :: rest) ks Q (Hd n D S F hs) m r := by
  have h0 : y ≠ 0 := fun e => by simp [Dec.remK, e] at hz
  have : z = x.tmod y := by simpa [Dec.remK, h0] using hz.symm
  rw [this] at k
  exact GL.remC hd h0 hx hy k
/-- == on structs and arrays. -/
theorem GL.eqlR {d : Nat} {ty t t' : TypeId} {pos : String} {after : Array Edge} {ox oy : Operand} {xs ys : Array Value} {b : Bool} (hd : Nat.blt d n = true) (hg : P.eqGuardType P.depth t = false) (hq : ∀ w, (Op.equal t (.agg xs) (.agg ys)).run P w = .ok b w)
    (hx : evalS S ox = some (.agg xs)) (hy : evalS S oy = some (.agg ys)) (k : GL κ P ops rest ks Q (Hd n D ((d, .bool b) :: S) F hs) m r) :
    GL κ P ops (⟨some d, .binOp .eql t ox oy t', ty, pos, after, none⟩ :: rest) ks Q (Hd n D S F hs) m r :=
  GL.val hd (fun a w ha => by simp [execOp, ha.1.eval hx, ha.1.eval hy, eqGuard, binOp, hg, hq]) k
theorem GL.neqR {d : Nat} {ty t t' : TypeId} {pos : String} {after : Array Edge} {ox oy : Operand} {xs ys : Array Value} {b : Bool} (hd : Nat.blt d n = true) (hg : P.eqGuardType P.depth t = false) (hq : ∀ w, (Op.equal t (.agg xs) (.agg ys)).run P w = .ok b w)
    (hx : evalS S ox = some (.agg xs)) (hy : evalS S oy = some (.agg ys)) (k : GL κ P ops rest ks Q (Hd n D ((d, .bool (!b)) :: S) F hs) m r) :
    GL κ P ops (⟨some d, .binOp .neq t ox oy t', ty, pos, after, none⟩ :: rest) ks Q (Hd n D S F hs) m r :=
  GL.val hd (fun a w ha => by simp [execOp, ha.1.eval hx, ha.1.eval hy, eqGuard, binOp, hg, hq]) k
end
end Go.Dec
