/- Guarded pieces of a region; regions that draw their order. No program. -/
import Derived.Test.YtbomfcghpajaiaaKalD
namespace Go.Dec
variable {κ : Option Nat}

section
variable {β : Type} {P : Program} {ops : Array Oper} {rest l : List Oper} {ks : List Kt} {Q : Exit → Act → World → Prop} {A : Act → World → Prop} {m : Option β} {r : β}
variable {n : Nat} {D : List Deferred} {S S0 : List (Nat × Value)} {F F' : Fz} {hs : List HP}

/-! ### A list of operations, cut in two -/
theorem wpL_append {Q1 Q2 : Exit → Act → World → Prop} (l2 : List Oper) (hq : ∀ a w, Q1 .normal a w → wpL κ P ops Q2 l2 a w) (hx : ∀ e a w, e ≠ .normal → Q1 e a w → Q2 e a w) : ∀ (l1 : List Oper) (a : Act) (w : World), wpL κ P ops Q1 l1 a w → wpL κ P ops Q2 (l1 ++ l2) a w
  | [], a, w, h => hq a w h
  | o :: l1, a, w, h => by
    simp only [List.cons_append]
    unfold wpL at h ⊢
    split
    · rename_i hw
      rw [if_pos hw] at h
      exact opW_imp (fun _ _ he => wpL_append l2 hq hx l1 _ _ he) hx h
    · rename_i hw
      rw [if_neg hw] at h
      exact wpL_append l2 hq hx l1 _ _ h

/-- What a piece of a region leaves: a value in slot d, all else as it was. -/
def SegPost (n : Nat) (D : List Deferred) (d : Nat) (v : Value) (S : List (Nat × Value)) (F : Fz) (hs : List HP) : Exit → Act → World → Prop :=
  fun e a w => e = .normal ∧ ∃ F', F ≤ F' ∧ Hd n D ((d, v) :: S) F' hs a w

theorem sub_of_drop {S' : List (Nat × Value)} (j : Nat) (hd : S'.drop j = S) (hf : fresh S (S'.take j) = true) : Sub S S' := fun i v h => by
  have := look_append_fresh hf h
  rw [← hd, List.take_append_drop] at this
  exact this

theorem GL.fin {S' : List (Nat × Value)} {d : Nat} {v : Value} {x : β} (j : Nat) (hv : lookS S' d = some v) (hd : S'.drop j = S) (hf : fresh S (S'.take j) = true) (le : F ≤ F') :
    GL κ P ops [] [] (SegPost n D d v S F hs) (Hd n D S' F' hs) (some x) x :=
  fun _ _ _ ha => ⟨rfl, F', le, ha.1.sub (Sub.cons hv (sub_of_drop j hd hf)), ha.2⟩
theorem GL.finE {S' : List (Nat × Value)} {d : Nat} {v v' : Value} {x : β} (j : Nat) (hv : lookS S' d = some v') (he : v' = v) (hd : S'.drop j = S) (hf : fresh S (S'.take j) = true) (le : F ≤ F') :
    GL κ P ops [] [] (SegPost n D d v S F hs) (Hd n D S' F' hs) (some x) x := he ▸ GL.fin j hv hd hf le

/-- A piece of k operations that leaves a value in slot d. -/
theorem GL.seg {α : Type} {m0 : Option α} {f : α → Option β} (k d : Nat) (V : α → Value) (h : ∀ z, GL κ P ops (l.take k) [] (SegPost n D d (V z) S F hs) (Hd n D S F hs) m0 z)
    (next : ∀ z F', m0 = some z → F ≤ F' → GL κ P ops (l.drop k) ks Q (Hd n D ((d, V z) :: S) F' hs) (f z) r) : GL κ P ops l ks Q (Hd n D S F hs) (m0.bind f) r := by
  intro hm a w ha
  cases hl : m0 with
  | none => rw [hl] at hm; cases hm
  | some z =>
    rw [hl] at hm
    have h1 := h z hl a w ha
    have := wpL_append (P := P) (ops := ops) (Q2 := interp κ P ks Q) (l.drop k) (Q1 := SegPost n D d (V z) S F hs) (fun a' w' hq => by
      obtain ⟨_, F', le, hq⟩ := hq; exact next z F' hl le hm a' w' hq) (fun e a' w' hne hq => absurd hq.1 hne) (l.take k) a w h1
    rwa [List.take_append_drop] at this
theorem GL.segP {v : Value} (k d : Nat) (h : GL κ P ops (l.take k) [] (SegPost n D d v S F hs) (Hd n D S F hs) (some ()) ())
    (next : ∀ F', F ≤ F' → GL κ P ops (l.drop k) ks Q (Hd n D ((d, v) :: S) F' hs) m r) : GL κ P ops l ks Q (Hd n D S F hs) m r := by
  intro hm a w ha
  have h1 := h rfl a w ha
  have := wpL_append (P := P) (ops := ops) (Q2 := interp κ P ks Q) (l.drop k) (Q1 := SegPost n D d v S F hs) (fun a' w' hq => by
    obtain ⟨_, F', le, hq⟩ := hq; exact next F' le hm a' w' hq) (fun e a' w' hne hq => absurd hq.1 hne) (l.take k) a w h1
  rwa [List.take_append_drop] at this

/-- x && y, x || y: k operations, the last one of which picks. -/
theorem GL.andP {b b' : Bool} (k d : Nat)
    (h1 : b = true → GL κ P ops (l.take k) [] (SegPost n D d (.bool b') S F hs) (Hd n D S F hs) (some ()) ())
    (h2 : b = false → GL κ P ops (l.take k) [] (SegPost n D d (.bool false) S F hs) (Hd n D S F hs) (some ()) ())
    (next : ∀ F', F ≤ F' → GL κ P ops (l.drop k) ks Q (Hd n D ((d, .bool (b && b')) :: S) F' hs) m r) : GL κ P ops l ks Q (Hd n D S F hs) m r :=
  GL.segP k d (by cases hb : b with | true => exact h1 hb | false => exact h2 hb) next
theorem GL.orP {b b' : Bool} (k d : Nat)
    (h1 : b = false → GL κ P ops (l.take k) [] (SegPost n D d (.bool b') S F hs) (Hd n D S F hs) (some ()) ())
    (h2 : b = true → GL κ P ops (l.take k) [] (SegPost n D d (.bool true) S F hs) (Hd n D S F hs) (some ()) ())
    (next : ∀ F', F ≤ F' → GL κ P ops (l.drop k) ks Q (Hd n D ((d, .bool (b || b')) :: S) F' hs) m r) : GL κ P ops l ks Q (Hd n D S F hs) m r :=
  GL.segP k d (by cases hb : b with | true => exact h2 hb | false => exact h1 hb) next
theorem GL.andM {b : Bool} {m1 : Option Bool} {f : Bool → Option β} (k d : Nat)
    (h1 : b = true → ∀ z, GL κ P ops (l.take k) [] (SegPost n D d (.bool z) S F hs) (Hd n D S F hs) m1 z)
    (h2 : b = false → GL κ P ops (l.take k) [] (SegPost n D d (.bool false) S F hs) (Hd n D S F hs) (some ()) ())
    (next : ∀ z F', F ≤ F' → GL κ P ops (l.drop k) ks Q (Hd n D ((d, .bool z) :: S) F' hs) (f z) r) : GL κ P ops l ks Q (Hd n D S F hs) ((if b then m1 else some false).bind f) r :=
  GL.seg k d (fun z => .bool z) (by
    intro z
    cases hb : b with
    | true => rw [if_pos rfl]; exact h1 hb z
    | false => rw [if_neg (by simp)]; intro e; simp only [Option.some.injEq] at e; subst e; exact h2 hb rfl) (fun z F' _ le => next z F' le)
theorem GL.orM {b : Bool} {m1 : Option Bool} {f : Bool → Option β} (k d : Nat)
    (h1 : b = false → ∀ z, GL κ P ops (l.take k) [] (SegPost n D d (.bool z) S F hs) (Hd n D S F hs) m1 z)
    (h2 : b = true → GL κ P ops (l.take k) [] (SegPost n D d (.bool true) S F hs) (Hd n D S F hs) (some ()) ())
    (next : ∀ z F', F ≤ F' → GL κ P ops (l.drop k) ks Q (Hd n D ((d, .bool z) :: S) F' hs) (f z) r) : GL κ P ops l ks Q (Hd n D S F hs) ((if b then some true else m1).bind f) r :=
  GL.seg k d (fun z => .bool z) (by
    intro z
    cases hb : b with
    | true => rw [if_pos rfl]; intro e; simp only [Option.some.injEq] at e; subst e; exact h2 hb rfl
    | false => rw [if_neg (by simp)]; exact h1 hb z) (fun z F' _ le => next z F' le)

theorem GL.onH {dst : Option Tmp} {op : Op} {ty : TypeId} {pos : String} {after : Array Edge} {j t : Nat} {b want : Bool} (hb : b = want) (hj : (ops[j]?).bind (·.dst) = some t) (hv : lookS S t = some (.bool b))
    (k : GL κ P ops (⟨dst, op, ty, pos, after, none⟩ :: rest) ks Q (Hd n D S F hs) m r) : GL κ P ops (⟨dst, op, ty, pos, after, some (j, want)⟩ :: rest) ks Q (Hd n D S F hs) m r :=
  GL.on hj (hb ▸ hv) k
theorem GL.offH {d : Nat} {op : Op} {ty : TypeId} {pos : String} {after : Array Edge} {j t : Nat} {b want : Bool} (hb : b = !want) (hd : Nat.blt d n = true) (hj : (ops[j]?).bind (·.dst) = some t) (hv : lookS S t = some (.bool b))
    (k : GL κ P ops rest ks Q (Hd n D ((d, undef) :: S) F hs) m r) : GL κ P ops (⟨some d, op, ty, pos, after, some (j, want)⟩ :: rest) ks Q (Hd n D S F hs) m r :=
  GL.off hd hj hv (by subst hb; cases want <;> rfl) k
theorem GL.pickTH {d : Nat} {ty : TypeId} {pos : String} {after : Array Edge} {ox oy oz : Operand} {v : Value} {b : Bool} (hb : b = true) (hd : Nat.blt d n = true) (hz : evalS S oz = some (.bool b)) (hx : evalS S ox = some v) (k : GL κ P ops rest ks Q (Hd n D ((d, v) :: S) F hs) m r) :
    GL κ P ops (⟨some d, .pick oz ox oy, ty, pos, after, none⟩ :: rest) ks Q (Hd n D S F hs) m r := GL.pickT hd (hb ▸ hz) hx k
theorem GL.pickFH {d : Nat} {ty : TypeId} {pos : String} {after : Array Edge} {ox oy oz : Operand} {v : Value} {b : Bool} (hb : b = false) (hd : Nat.blt d n = true) (hz : evalS S oz = some (.bool b)) (hy : evalS S oy = some v) (k : GL κ P ops rest ks Q (Hd n D ((d, v) :: S) F hs) m r) :
    GL κ P ops (⟨some d, .pick oz ox oy, ty, pos, after, none⟩ :: rest) ks Q (Hd n D S F hs) m r := GL.pickF hd (hb ▸ hz) hy k
end

/-! ### A region that draws its order, by an invariant over what has come -/
def updB (L : Nat → Bool) (i : Nat) : Nat → Bool := fun j => if j = i then true else L j

theorem wpAny_inv {P : Program} {ops : Array Oper} {Q : Exit → Act → World → Prop} (Inv : (Nat → Bool) → Act → World → Prop)
    (hord : ∀ i o, ops[i]? = some o → ∀ e ∈ o.after, Region.binds .any e = true → e.on < i)
    (hstep : ∀ L a w i o, ops[i]? = some o → L i = false → (∀ e ∈ o.after, Region.binds .any e = true → L e.on = true) → Inv L a w →
      if Region.wanted o (yielded ops a.tmps) then opW κ P o a w (Inv (updB L i)) Q else Inv (updB L i) (a.put o.dst undef) w)
    (hend : ∀ L a w, (∀ i, i < ops.size → L i = true) → Inv L a w → Q .normal a w) :
    ∀ (fuel : Nat) (listed : Array Bool) (a : Act) (w : World), listed.size = ops.size → (List.range ops.size).countP (fun i => !listed.getD i false) ≤ fuel → Inv (fun i => listed.getD i false) a w → wpAnyIn (fen κ) 0 P .any ops Q fuel listed a w := by
  have hready : ∀ (listed : Array Bool), listed.size = ops.size → Region.ready .any ops listed = [] → ∀ i, i < ops.size → listed.getD i false = true := by
    intro listed hs hr i
    induction i using Nat.strongRecOn with
    | _ i ih =>
      intro hi
      cases hl : listed.getD i false with
      | true => rfl
      | false =>
        have hmem : i ∈ Region.ready .any ops listed := by
          unfold Region.ready
          simp only [List.mem_filter, List.mem_range]
          refine ⟨hi, ?_⟩
          have h1 : listed.getD i true = false := by
            simp only [Array.getD_eq_getD_getElem?] at hl ⊢
            have : i < listed.size := by omega
            simp [this] at hl ⊢; exact hl
          have h2 : ops[i]? = some ops[i] := by simp [hi]
          rw [h1, h2]
          simp only [Bool.not_false, Option.map_some, Option.getD_some, Bool.true_and, Array.all_eq_true_iff_forall_mem, Bool.or_eq_true, Bool.not_eq_true']
          intro e he
          cases hb : Region.binds .any e with
          | false => exact .inl rfl
          | true =>
            have hlt := hord i _ h2 e he hb
            exact .inr (ih e.on hlt (by omega))
        rw [hr] at hmem; cases hmem
  intro fuel
  induction fuel with
  | zero =>
    intro listed a w hs hc hI
    have hall : ∀ i, i < ops.size → listed.getD i false = true := fun i hi => by
      have := List.countP_eq_zero.1 (Nat.le_zero.1 hc) i (List.mem_range.2 hi)
      simpa using this
    refine ⟨?_, hend _ a w hall hI⟩
    unfold Region.ready
    apply List.filter_eq_nil_iff.2
    intro i hi
    have h := hall i (List.mem_range.1 hi)
    have hi' : i < listed.size := by rw [hs]; exact List.mem_range.1 hi
    simp only [Array.getD_eq_getD_getElem?] at h
    simp [hi'] at h
    simp [hi', h]
  | succ fuel ih =>
    intro listed a w hs hc hI
    refine ⟨fun hr => hend _ a w (hready listed hs hr) hI, fun i hi => ?_⟩
    unfold Region.ready at hi
    simp only [List.mem_filter, List.mem_range, Bool.and_eq_true, Bool.not_eq_true'] at hi
    obtain ⟨hlt, hl, hdeps⟩ := hi
    have h2 : ops[i]? = some ops[i] := by simp [hlt]
    rw [h2] at hdeps
    simp only [Option.map_some, Option.getD_some, Array.all_eq_true_iff_forall_mem, Bool.or_eq_true, Bool.not_eq_true'] at hdeps
    have hl' : listed.getD i false = false := by
      have : i < listed.size := by omega
      simp only [Array.getD_eq_getD_getElem?] at hl ⊢
      simp [this] at hl ⊢; exact hl
    have hst := hstep _ a w i _ h2 hl' (fun e he hb => by
      rcases hdeps e he with h | h
      · rw [hb] at h; cases h
      · exact h) hI
    have hnext : ∀ a' w', Inv (updB (fun j => listed.getD j false) i) a' w' → wpAnyIn (fen κ) 0 P .any ops Q fuel (listed.setIfInBounds i true) a' w' := by
      intro a' w' h
      have he : (fun j => (listed.setIfInBounds i true).getD j false) = updB (fun j => listed.getD j false) i := by
        funext j
        simp only [updB, Array.getD_eq_getD_getElem?]
        by_cases hj : j = i
        · subst hj
          have : j < listed.size := by omega
          simp [this]
        · simp [hj, Ne.symm hj]
      refine ih _ a' w' (by simpa using hs) ?_ (by rw [he]; exact h)
      have hd : (List.range ops.size).countP (fun j => !(listed.setIfInBounds i true).getD j false) < (List.range ops.size).countP (fun j => !listed.getD j false) := by
        have e2 : (fun j => !(listed.setIfInBounds i true).getD j false) = fun j => (!(updB (fun j => listed.getD j false) i) j) := by
          funext j; rw [← he]
        rw [e2]
        refine countP_lt (x := i) ?_ (List.mem_range.2 hlt) (by simp [hl']) (by simp [updB])
        intro j hj
        simp only [updB, Bool.not_eq_true'] at hj ⊢
        by_cases e : j = i
        · simp [e] at hj
        · simpa [e] using hj
      omega
    unfold wpOpIn
    rw [h2]
    simp only []
    split
    · rename_i hw
      rw [if_pos hw] at hst
      exact (opW_mono hnext hst).wpIn
    · rename_i hw
      rw [if_neg hw] at hst
      exact ⟨fun f _ => fen_fn κ f, hnext _ _ hst⟩
where
  countP_lt {α : Type} {p q : α → Bool} {l : List α} {x : α} (h : ∀ y, p y = true → q y = true) (hx : x ∈ l) (hq : q x = true) (hp : p x = false) : l.countP p < l.countP q := by
    induction l with
    | nil => cases hx
    | cons y l ih =>
      simp only [List.countP_cons]
      have hle : l.countP p ≤ l.countP q := List.countP_mono_left fun z _ hz => h z hz
      rcases List.mem_cons.1 hx with rfl | hx'
      · simp [hq, hp]; omega
      · have := ih hx'
        have : (if p y = true then 1 else 0) ≤ (if q y = true then 1 else 0) := by
          split
          · rename_i hy; simp [h y hy]
          · omega
        omega

theorem wp_region_inv {P : Program} {ops : Array Oper} {Q : Exit → Act → World → Prop} {id : Nat} {a : Act} {w : World} (hm : P.follows .mixedOrders = true) (Inv : (Nat → Bool) → Act → World → Prop)
    (hord : ∀ i o, ops[i]? = some o → ∀ e ∈ o.after, Region.binds .any e = true → e.on < i)
    (h0 : Inv (fun _ => false) a { w with drawn := w.drawn + 1 })
    (hstep : ∀ L a w i o, ops[i]? = some o → L i = false → (∀ e ∈ o.after, Region.binds .any e = true → L e.on = true) → Inv L a w →
      if Region.wanted o (yielded ops a.tmps) then opW κ P o a w (Inv (updB L i)) Q else Inv (updB L i) (a.put o.dst undef) w)
    (hend : ∀ L a w, (∀ i, i < ops.size → L i = true) → Inv L a w → Q .normal a w) : (Code.region id ops true).wpIn (fen κ) 0 P Q a w := by
  refine wpIn_region_any hm (wpAny_inv Inv hord hstep hend _ _ _ _ (by simp) ?_ ?_)
  · exact Nat.le_trans List.countP_le_length (by simp)
  · have : (fun i => (Array.replicate ops.size false).getD i false) = fun _ => false := by
      funext i
      simp only [Array.getD_eq_getD_getElem?, Array.getElem?_replicate]
      split <;> rfl
    rw [this]; exact h0

/-! ### A region that draws: each operation has its value, whatever came before; what ends the region comes last -/
def ordB : Nat → List Oper → Bool
  | _, [] => true
  | i, o :: l => o.after.toList.all (fun e => !Region.binds .any e || Nat.blt e.on i) && ordB (i + 1) l
theorem ordB_spec : ∀ {k : Nat} {l : List Oper}, ordB k l = true → ∀ i o, l[i]? = some o → ∀ e ∈ o.after, Region.binds .any e = true → e.on < k + i
  | _, [], _, i, o, h, _, _, _ => by simp at h
  | k, x :: l, hb, 0, o, h, e, he, hbi => by
    simp at h; subst h
    simp only [ordB, Bool.and_eq_true, List.all_eq_true, Bool.or_eq_true, Bool.not_eq_true'] at hb
    rcases hb.1 e (by simpa using he) with h | h
    · rw [hbi] at h; cases h
    · have := Nat.le_of_ble_eq_true h; simp at this ⊢; omega
  | k, x :: l, hb, i + 1, o, h, e, he, hbi => by
    simp only [ordB, Bool.and_eq_true] at hb
    have := ordB_spec hb.2 i o (by simpa using h) e he hbi
    omega
/-- From number k on each operation waits for all that stand before it. -/
def tailB : Nat → List Oper → Bool
  | _, [] => true
  | i, o :: l => (List.range i).all (fun j => o.after.toList.any fun e => Nat.beq e.on j && Region.binds .any e) && tailB (i + 1) l
theorem tailB_spec : ∀ {k : Nat} {l : List Oper}, tailB k l = true → ∀ i o, l[i]? = some o → ∀ j, j < k + i → ∃ e ∈ o.after, e.on = j ∧ Region.binds .any e = true
  | _, [], _, i, o, h, _, _ => by simp at h
  | k, x :: l, hb, 0, o, h, j, hj => by
    simp at h; subst h
    simp only [tailB, Bool.and_eq_true, List.all_eq_true, List.mem_range, List.any_eq_true] at hb
    obtain ⟨e, he, h1, h2⟩ := hb.1 j (by simpa using hj)
    exact ⟨e, by simpa using he, Nat.eq_of_beq_eq_true h1, h2⟩
  | k, x :: l, hb, i + 1, o, h, j, hj => by
    simp only [tailB, Bool.and_eq_true] at hb
    exact tailB_spec hb.2 i o (by simpa using h) j (by omega)

/-- What is made new while the order is drawn: at most one variable (none: at_ is out of range). -/
structure New where
  at_ : Nat
  d : Nat
  cs : List Value
  T : TypeId

def depsOK (al : New) (V : List (Nat × Value)) (S : List (Nat × Value)) : List Edge → Prop
  | [] => True
  | e :: es => (Region.binds .any e = true → Nat.beq al.at_ e.on = false → ∀ d v, V[e.on]? = some (d, v) → lookS S d = some v) ∧ depsOK al V S es
theorem depsOK_mk {al : New} {V : List (Nat × Value)} {S : List (Nat × Value)} : ∀ {es : List Edge}, (∀ e ∈ es, Region.binds .any e = true → Nat.beq al.at_ e.on = false → ∀ d v, V[e.on]? = some (d, v) → lookS S d = some v) → depsOK al V S es
  | [], _ => trivial
  | e :: es, h => ⟨h e (by simp), depsOK_mk fun e' he' => h e' (by simp [he'])⟩

def OpOK (κ : Option Nat) (P : Program) (ops : Array Oper) (n : Nat) (D : List Deferred) (S0 : List (Nat × Value)) (F : Fz) (hs : List HP) (al : New) (V : List (Nat × Value)) (i : Nat) (o : Oper) : Prop :=
  match Nat.beq al.at_ i with
  | true => ∃ ty pos after z, o = ⟨some al.d, .alloc al.T, ty, pos, after, none⟩ ∧ Nat.blt al.d n = true ∧ (∀ w, (zeroValue al.T).run P w = .ok z w) ∧ z.cells = al.cs.toArray ∧ ∃ v, V[i]? = some (al.d, v)
  | false => ∃ d v Si, V[i]? = some (d, v) ∧ o.dst = some d ∧ Nat.blt d n = true ∧ (∀ S, Sub S0 S → depsOK al V S o.after.toList → Sub Si S) ∧ ∀ F' X, F ≤ F' → GL κ P ops [o] [] (SegPost n D d v Si F' (hs ++ X)) (Hd n D Si F' (hs ++ X)) (some ()) ()
theorem OpOK.mk {P : Program} {ops : Array Oper} {n : Nat} {D : List Deferred} {S0 : List (Nat × Value)} {F : Fz} {hs : List HP} {al : New} {V : List (Nat × Value)} {i : Nat} {o : Oper} (d : Nat) (v : Value) (Si : List (Nat × Value)) (hi : Nat.beq al.at_ i = false) (hv : V[i]? = some (d, v)) (hd : o.dst = some d) (hn : Nat.blt d n = true)
    (hS : ∀ S, Sub S0 S → depsOK al V S o.after.toList → Sub Si S) (h : ∀ F' X, F ≤ F' → GL κ P ops [o] [] (SegPost n D d v Si F' (hs ++ X)) (Hd n D Si F' (hs ++ X)) (some ()) ()) : OpOK κ P ops n D S0 F hs al V i o := by
  unfold OpOK; rw [hi]; exact ⟨d, v, Si, hv, hd, hn, hS, h⟩
theorem OpOK.new {P : Program} {ops : Array Oper} {n : Nat} {D : List Deferred} {S0 : List (Nat × Value)} {F : Fz} {hs : List HP} {al : New} {V : List (Nat × Value)} {i : Nat} {o : Oper} {ty : TypeId} {pos : String} {after : Array Edge} {z v : Value} (hi : Nat.beq al.at_ i = true) (ho : o = ⟨some al.d, .alloc al.T, ty, pos, after, none⟩) (hn : Nat.blt al.d n = true)
    (hz : ∀ w, (zeroValue al.T).run P w = .ok z w) (hc : z.cells = al.cs.toArray) (hv : V[i]? = some (al.d, v)) : OpOK κ P ops n D S0 F hs al V i o := by
  unfold OpOK; rw [hi]; exact ⟨ty, pos, after, z, ho, hn, hz, hc, v, hv⟩

def OpsOK (κ : Option Nat) (P : Program) (ops : Array Oper) (n : Nat) (D : List Deferred) (S0 : List (Nat × Value)) (F : Fz) (hs : List HP) (al : New) (V : List (Nat × Value)) : Nat → List Oper → Prop
  | _, [] => True
  | i, o :: l => OpOK κ P ops n D S0 F hs al V i o ∧ OpsOK κ P ops n D S0 F hs al V (i + 1) l

theorem OpsOK.cons {P : Program} {ops : Array Oper} {n : Nat} {D : List Deferred} {S0 : List (Nat × Value)} {F : Fz} {hs : List HP} {al : New} {V : List (Nat × Value)} {i : Nat} {o : Oper} {l : List Oper} (h : OpOK κ P ops n D S0 F hs al V i o) (k : OpsOK κ P ops n D S0 F hs al V (i + 1) l) : OpsOK κ P ops n D S0 F hs al V i (o :: l) := ⟨h, k⟩
theorem OpsOK.nil {P : Program} {ops : Array Oper} {n : Nat} {D : List Deferred} {S0 : List (Nat × Value)} {F : Fz} {hs : List HP} {al : New} {V : List (Nat × Value)} {i : Nat} : OpsOK κ P ops n D S0 F hs al V i [] := trivial

theorem OpsOK.get {P : Program} {ops : Array Oper} {n : Nat} {D : List Deferred} {S0 : List (Nat × Value)} {F : Fz} {hs : List HP} {al : New} {V : List (Nat × Value)} : ∀ {k : Nat} {l : List Oper}, OpsOK κ P ops n D S0 F hs al V k l → ∀ i o, l[i]? = some o → OpOK κ P ops n D S0 F hs al V (k + i) o
  | _, [], _, i, o, h => by simp at h
  | k, x :: l, hb, 0, o, h => by simp at h; subst h; exact hb.1
  | k, x :: l, hb, i + 1, o, h => by
    have := OpsOK.get hb.2 i o (by simpa using h)
    rw [show k + 1 + i = k + (i + 1) by omega] at this
    exact this

/-- The slots that are written are all different, and none of them was known. -/
def keysB (S0 : List (Nat × Value)) : List (Nat × Value) → Bool
  | [] => true
  | (d, _) :: l => !hasKey d S0 && !hasKey d l && keysB S0 l
theorem hasKey_get {d : Nat} {v : Value} : ∀ {l : List (Nat × Value)} {j : Nat}, l[j]? = some (d, v) → hasKey d l = true
  | [], _, h => by simp at h
  | (k, u) :: l, 0, h => by simp at h; simp [hasKey, h.1]
  | (k, u) :: l, j + 1, h => by simp [hasKey, hasKey_get (l := l) (j := j) (by simpa using h)]
theorem keysB_fresh {S0 : List (Nat × Value)} : ∀ {l : List (Nat × Value)}, keysB S0 l = true → ∀ (i d : Nat) (v : Value), l[i]? = some (d, v) → hasKey d S0 = false
  | [], _, i, d, v, h => by simp at h
  | (k, u) :: l, hb, i, d, v, h => by
    simp only [keysB, Bool.and_eq_true, Bool.not_eq_true'] at hb
    cases i with
    | zero => simp at h; obtain ⟨rfl, rfl⟩ := h; exact hb.1.1
    | succ i => exact keysB_fresh hb.2 i d v (by simpa using h)
theorem keysB_inj {S0 : List (Nat × Value)} : ∀ {l : List (Nat × Value)}, keysB S0 l = true → ∀ (i j d : Nat) (v u : Value), l[i]? = some (d, v) → l[j]? = some (d, u) → i = j
  | [], _, i, j, d, v, u, h, _ => by simp at h
  | (k, x) :: l, hb, i, j, d, v, u, h, h' => by
    simp only [keysB, Bool.and_eq_true, Bool.not_eq_true'] at hb
    cases i with
    | zero =>
      cases j with
      | zero => rfl
      | succ j =>
        simp at h; obtain ⟨rfl, rfl⟩ := h
        have := hasKey_get (l := l) (j := j) (by simpa using h')
        rw [hb.1.2] at this; cases this
    | succ i =>
      cases j with
      | zero =>
        simp at h'; obtain ⟨rfl, rfl⟩ := h'
        have := hasKey_get (l := l) (j := i) (by simpa using h)
        rw [hb.1.2] at this; cases this
      | succ j => rw [keysB_inj hb.2 i j d v u (by simpa using h) (by simpa using h')]

theorem sub_push {S0 S : List (Nat × Value)} (h : Sub S0 S) {d : Nat} (hk : hasKey d S0 = false) (v : Value) : Sub S0 ((d, v) :: S) := fun i u e => by
  simp only [lookS]
  cases hb : Nat.beq d i with
  | true =>
    have : d = i := Nat.eq_of_beq_eq_true hb
    subst this
    rw [hasKey_of_look e] at hk; cases hk
  | false => exact h i u e
theorem look_push {S : List (Nat × Value)} {d i : Nat} {v u : Value} (hne : d ≠ i) (e : lookS S i = some u) : lookS ((d, v) :: S) i = some u := by
  simp only [lookS]
  cases hb : Nat.beq d i with
  | true => exact absurd (Nat.eq_of_beq_eq_true hb) hne
  | false => exact e
theorem look_self {S : List (Nat × Value)} {d : Nat} {v : Value} : lookS ((d, v) :: S) d = some v := by simp [lookS]

theorem wp_of_seg {P : Program} {ops : Array Oper} {o : Oper} {a : Act} {w : World} {Q0 Q : Exit → Act → World → Prop} {K : Act → World → Prop} (hQ : ∀ e a w, e ≠ .normal → Q0 e a w → False) (hK : ∀ a w, Q0 .normal a w → K a w) (h : wpL κ P ops Q0 [o] a w) :
    if Region.wanted o (yielded ops a.tmps) then opW κ P o a w K Q else K (a.put o.dst undef) w := by
  unfold wpL at h
  split
  · rename_i hw
    rw [if_pos hw] at h
    exact opW_imp hK (fun e a w hne hq => (hQ e a w hne hq).elim) h
  · rename_i hw
    rw [if_neg hw] at h
    exact hK _ _ h

/-- An operation writes its own slot and no other: what was known besides stays known. -/
theorem seg_frame {P : Program} {ops : Array Oper} {o : Oper} {a : Act} {w : World} {n d : Nat} {v : Value} {D : List Deferred} {S Si : List (Nat × Value)} {F : Fz} {hs : List HP} (hdst : o.dst = some d) (hn : Nat.blt d n = true) (ha : Sl n D S a)
    (h : wpL κ P ops (SegPost n D d v Si F hs) [o] a w) : wpL κ P ops (SegPost n D d v S F hs) [o] a w := by
  have key : ∀ u w', SegPost n D d v Si F hs .normal (a.put o.dst u) w' → SegPost n D d v S F hs .normal (a.put o.dst u) w' := by
    rintro u w' ⟨_, F', le, hA⟩
    rw [hdst] at hA ⊢
    have h1 := ha.put hn u
    have e1 := h1.2.2 d u look_self
    have e2 := hA.1.2.2 d v look_self
    have : u = v := e1.symm.trans e2
    subst this
    exact ⟨rfl, F', le, h1, hA.2⟩
  have hno : ∀ e a w, e ≠ .normal → SegPost n D d v Si F hs e a w → False := fun e a w hne hq => hne hq.1
  unfold wpL at h ⊢
  split
  · rename_i hw
    rw [if_pos hw] at h
    refine opW_put key (fun dd w' h => ?_) (fun e a w hne hq => (hno e a w hne hq).elim) h
    obtain ⟨_, F', le, hA⟩ := h
    have h2 := hA.1.2.1
    rw [hdst] at h2
    simp only [Act.put] at h2
    rw [ha.2.1] at h2
    exact absurd (congrArg List.length h2) (by simp)
  · rename_i hw
    rw [if_neg hw] at h
    exact key undef w h

/-- What is known when L has come. -/
def XOK (al : New) (L : Nat → Bool) (S : List (Nat × Value)) (X : List HP) : Prop :=
  if L al.at_ then ∃ b, lookS S al.d = some (.pointer (some ⟨b, 0, none⟩)) ∧ X = [pt b (.cells al.cs.toArray al.T)] else X = []

/-- The slots behind the part whose order is drawn. -/
def outS (al : New) (b : Nat) : Nat → List (Nat × Value) → List (Nat × Value) → List (Nat × Value)
  | _, [], S => S
  | i, p :: V, S => (match Nat.beq al.at_ i with
    | true => (p.1, .pointer (some ⟨b, 0, none⟩))
    | false => p) :: outS al b (i + 1) V S
theorem sub_outS {al : New} {b : Nat} {S0 S : List (Nat × Value)} (h0 : Sub S0 S) : ∀ {V : List (Nat × Value)} {k : Nat}, (∀ (i d : Nat) (v : Value), V[i]? = some (d, v) → lookS S d = some (match Nat.beq al.at_ (k + i) with | true => .pointer (some ⟨b, 0, none⟩) | false => v)) → Sub (outS al b k V S0) S
  | [], _, _ => h0
  | (d, v) :: V, k, h => by
    have h1 := h 0 d v (by simp)
    have h2 : Sub (outS al b (k + 1) V S0) S := sub_outS h0 (V := V) (k := k + 1) fun i d v e => by
      have := h (i + 1) d v (by simpa using e)
      rwa [show k + (i + 1) = k + 1 + i by omega] at this
    simp only [outS]
    simp only [Nat.add_zero] at h1
    cases hb : Nat.beq al.at_ k with
    | true => rw [hb] at h1; exact Sub.cons h1 h2
    | false => rw [hb] at h1; exact Sub.cons h1 h2
def newH (al : New) (b : Nat) (n : Nat) : List HP := match Nat.blt al.at_ n with
  | true => [pt b (.cells al.cs.toArray al.T)]
  | false => []

section
variable {β : Type} {P : Program} {ks : List Kt} {Q : Exit → Act → World → Prop} {m : Option β} {r : β}
variable {n : Nat} {D : List Deferred} {S0 : List (Nat × Value)} {F : Fz} {hs : List HP}

theorem GC.draw {id : Nat} {l : List Oper} (al : New) (V : List (Nat × Value)) (hm : P.follows .mixedOrders = true) (hord : ordB 0 l = true) (htail : tailB V.length (l.drop V.length) = true)
    (hlen : Nat.ble V.length l.length = true) (hkeys : keysB S0 V = true)
    (hops : OpsOK κ P l.toArray n D S0 F hs al V 0 (l.take V.length))
    (tail : ∀ F' b, F ≤ F' → GL κ P l.toArray (l.drop V.length) ks Q (Hd n D (outS al b 0 V S0) F' (hs ++ newH al b V.length)) m r) :
    GC κ P (.region id l.toArray true) ks Q (Hd n D S0 F hs) m r := by
  intro hmr a w ha
  have hlen' : V.length ≤ l.length := Nat.le_of_ble_eq_true hlen
  let Free : (Nat → Bool) → Act → World → Prop := fun L a w => (∀ i, V.length ≤ i → L i = false) ∧ ∃ F' S X, F ≤ F' ∧ Sub S0 S ∧ (∀ (i d : Nat) (v : Value), L i = true → Nat.beq al.at_ i = false → V[i]? = some (d, v) → lookS S d = some v) ∧ XOK al L S X ∧ (L al.at_ = true → ∃ v, V[al.at_]? = some (al.d, v)) ∧ Hd n D S F' (hs ++ X) a w
  let Inv : (Nat → Bool) → Act → World → Prop := fun L a w => Free L a w ∨ ∃ i, V.length < i ∧ (∀ j, L j = true ↔ j < i) ∧ wpL κ P l.toArray (interp κ P ks Q) (l.drop i) a w
  have hend0 : ∀ L a w, (∀ i, i < V.length → L i = true) → Free L a w → wpL κ P l.toArray (interp κ P ks Q) (l.drop V.length) a w := by
    rintro L a w hall ⟨hout, F', S, X, le, hS, hV, hX, hal, hA⟩
    have hX' : ∃ b, Sub (outS al b 0 V S0) S ∧ X = newH al b V.length := by
      by_cases hin : al.at_ < V.length
      · have hL := hall _ hin
        unfold XOK at hX
        rw [if_pos hL] at hX
        obtain ⟨b, h1, h2⟩ := hX
        obtain ⟨v0, hv0⟩ := hal hL
        refine ⟨b, sub_outS hS fun i d v e => ?_, ?_⟩
        · simp only [Nat.zero_add]
          cases hb : Nat.beq al.at_ i with
          | true =>
            have : al.at_ = i := Nat.eq_of_beq_eq_true hb
            subst this
            rw [hv0] at e
            simp only [Option.some.injEq, Prod.mk.injEq] at e
            rw [← e.1]; exact h1
          | false =>
            refine hV i d v (hall i ?_) hb e
            rcases Nat.lt_or_ge i V.length with h | h
            · exact h
            · rw [List.getElem?_eq_none h] at e; cases e
        · have : Nat.blt al.at_ V.length = true := Nat.ble_eq_true_of_le hin
          simp [newH, this, h2]
      · have hL := hout al.at_ (by omega)
        unfold XOK at hX
        rw [if_neg (by simp [hL])] at hX
        refine ⟨0, sub_outS hS fun i d v e => ?_, ?_⟩
        · have hi : i < V.length := by
            rcases Nat.lt_or_ge i V.length with h | h
            · exact h
            · rw [List.getElem?_eq_none h] at e; cases e
          simp only [Nat.zero_add]
          cases hb : Nat.beq al.at_ i with
          | true => have : al.at_ = i := Nat.eq_of_beq_eq_true hb; omega
          | false => exact hV i d v (hall i hi) hb e
        · have : Nat.blt al.at_ V.length = false := by
            cases h : Nat.blt al.at_ V.length with
            | false => rfl
            | true => exact absurd (Nat.le_of_ble_eq_true h) hin
          simp [newH, this, hX]
    obtain ⟨b, hs1, rfl⟩ := hX'
    exact tail F' b le hmr a w ⟨hA.1.sub hs1, hA.2⟩
  refine wp_region_inv hm Inv (fun i o h e he hb => by have := ordB_spec hord i o (by simpa using h) e he hb; omega) ?_ ?_ ?_
  · refine .inl ⟨fun _ _ => rfl, F, S0, [], Fz.le_refl F, Sub.refl _, fun i d v h => by simp at h, ?_, fun h => by simp at h, ha.1, ?_⟩
    · unfold XOK; simp
    · rw [List.append_nil]; exact ha.2.drew _
  · intro L a w i o ho hLi hdeps hI
    have ho' : l[i]? = some o := by simpa using ho
    have hil : i < l.length := by
      rcases Nat.lt_or_ge i l.length with h | h
      · exact h
      · rw [List.getElem?_eq_none h] at ho'; cases ho'
    by_cases hi : i < V.length
    · -- a free operation
      rcases hI with hF | ⟨k, hk, hL, _⟩
      case inr => have := (hL i).2 (by omega); rw [hLi] at this; cases this
      obtain ⟨hout, F', S, X, le, hS, hV, hX, hal, hA⟩ := hF
      have hop := OpsOK.get hops i o (by rw [List.getElem?_take]; simp [hi, ho'])
      simp only [Nat.zero_add] at hop
      have houtL : ∀ j, V.length ≤ j → updB L i j = false := fun j hj => by
        simp only [updB]; rw [if_neg (by omega)]; exact hout j hj
      cases hb : Nat.beq al.at_ i with
      | true =>
        have hai : al.at_ = i := Nat.eq_of_beq_eq_true hb
        unfold OpOK at hop
        rw [hb] at hop
        obtain ⟨ty, pos, after, z, rfl, hd, hz, hc, v0, hv0⟩ := hop
        rw [if_pos (by simp [Region.wanted])]
        refine ⟨.inr rfl, ?_⟩
        have hrun : (execOp a.eval ⟨some al.d, .alloc al.T, ty, pos, after, none⟩).run P w = .ok (.value (.pointer (some ⟨w.heap.size, 0, none⟩))) (w.alloc (.cells al.cs.toArray al.T)) := by
          simp [execOp, Instr.alloc, hz, newVar, newRow, hc]
        rw [hrun]
        have hL0 : L al.at_ = false := by rw [hai]; exact hLi
        unfold XOK at hX
        rw [if_neg (by simp [hL0])] at hX
        subst hX
        refine .inl ⟨houtL, F', (al.d, .pointer (some ⟨w.heap.size, 0, none⟩)) :: S, [pt w.heap.size (.cells al.cs.toArray al.T)], le, sub_push hS (keysB_fresh hkeys i al.d v0 hv0) _, ?_, ?_, ?_, hA.1.put hd _, ?_⟩
        · intro j d v hj hbj e
          have hji : j ≠ i := fun h => by subst h; rw [hb] at hbj; cases hbj
          have hne : al.d ≠ d := fun h => by subst h; exact hji (keysB_inj hkeys j i _ _ _ e hv0)
          refine look_push hne (hV j d v ?_ hbj e)
          simpa [updB, hji] using hj
        · unfold XOK
          rw [if_pos (by simp [updB, hai])]
          exact ⟨_, look_self, rfl⟩
        · intro _; rw [hai]; exact ⟨v0, hv0⟩
        · have h2 := (hA.2.alloc (.cells al.cs.toArray al.T))
          refine h2.mono fun m' hm' => ?_
          simp only [List.append_nil] at hm'
          have h3 := stars_append_one (hs := hs) hm'
          exact h3
      | false =>
        unfold OpOK at hop
        rw [hb] at hop
        obtain ⟨d, v, Si, hv, hdst, hn, hSi, hstep⟩ := hop
        have hsub := hSi S hS (depsOK_mk fun e he hbi hbn d v hv => hV e.on d v (hdeps e (by simpa using he) hbi) hbn hv)
        have h1 := seg_frame hdst hn hA.1 (hstep F' X le rfl a w ⟨hA.1.sub hsub, hA.2⟩)
        refine wp_of_seg (fun e a w hne hq => absurd hq.1 hne) (fun a' w' hq => ?_) h1
        obtain ⟨_, F'', le', hA'⟩ := hq
        refine .inl ⟨houtL, F'', (d, v) :: S, X, Fz.le_trans le le', sub_push hS (keysB_fresh hkeys i d v hv) _, ?_, ?_, ?_, hA'⟩
        · intro j d' v' hj hbj e
          by_cases hji : j = i
          · subst hji
            rw [hv] at e; simp only [Option.some.injEq, Prod.mk.injEq] at e
            obtain ⟨rfl, rfl⟩ := e
            exact look_self
          · have hne : d ≠ d' := fun h => by subst h; exact hji (keysB_inj hkeys j i _ _ _ e hv)
            exact look_push hne (hV j d' v' (by simpa [updB, hji] using hj) hbj e)
        · have hai : al.at_ ≠ i := fun h => by subst h; simp at hb
          unfold XOK at hX ⊢
          have hu : updB L i al.at_ = L al.at_ := by simp [updB, hai]
          rw [hu]
          split
          · rename_i hL
            rw [if_pos hL] at hX
            obtain ⟨b, hb1, hb2⟩ := hX
            obtain ⟨v0, hv0⟩ := hal hL
            have hne : d ≠ al.d := fun h => by subst h; exact hai (keysB_inj hkeys _ _ _ _ _ hv0 hv)
            exact ⟨b, look_push hne hb1, hb2⟩
          · rename_i hL
            rw [if_neg hL] at hX; exact hX
        · intro hL
          have hai : al.at_ ≠ i := fun h => by subst h; simp at hb
          exact hal (by simpa [updB, hai] using hL)
    · -- the tail
      have hts := tailB_spec htail (i - V.length) o (by rw [List.getElem?_drop]; rw [show V.length + (i - V.length) = i by omega]; exact ho')
      have hall : ∀ j, j < i → L j = true := fun j hj => by
        obtain ⟨e, he, h1, h2⟩ := hts j (by omega)
        rw [← h1]; exact hdeps e he h2
      have hw : wpL κ P l.toArray (interp κ P ks Q) (l.drop i) a w := by
        rcases hI with hF | ⟨k, hk, hL, hwp⟩
        · have hiV : i = V.length := by
            rcases Nat.lt_or_ge V.length i with h | h
            · have := hall V.length h; rw [hF.1 _ (Nat.le_refl _)] at this; cases this
            · omega
          subst hiV
          exact hend0 L a w hall hF
        · have : k = i := by
            have h1 : ¬ i < k := fun h => by have := (hL i).2 h; rw [hLi] at this; cases this
            have h2 : ¬ k < i := fun h => by have := (hL k).1 (hall k h); omega
            omega
          subst this; exact hwp
      have hdrop : l.drop i = o :: l.drop (i + 1) := by
        have hg : l[i]'hil = o := by simpa [hil] using ho'
        rw [← hg]; exact List.drop_eq_getElem_cons hil
      rw [hdrop] at hw
      have hnext : ∀ a' w', wpL κ P l.toArray (interp κ P ks Q) (l.drop (i + 1)) a' w' → Inv (updB L i) a' w' := fun a' w' h =>
        .inr ⟨i + 1, by omega, fun j => by
          simp only [updB]
          by_cases hj : j = i
          · simp [hj]
          · simp only [hj, if_false]
            constructor
            · intro hLj
              have : j < i := by
                rcases Nat.lt_or_ge j i with h | h
                · exact h
                · rcases hI with hF | ⟨k, hk, hL, _⟩
                  · rw [hF.1 j (by omega)] at hLj; cases hLj
                  · have h1 := (hL j).1 hLj
                    have := (hL i).2 (by omega); rw [hLi] at this; cases this
              omega
            · intro hj'; exact hall j (by omega), h⟩
      unfold wpL at hw
      split
      · rename_i hwn
        rw [if_pos hwn] at hw
        exact opW_mono hnext hw
      · rename_i hwn
        rw [if_neg hwn] at hw
        exact hnext _ _ hw
  · intro L a w hall hI
    have hw : wpL κ P l.toArray (interp κ P ks Q) (l.drop l.length) a w := by
      rcases hI with hF | ⟨k, hk, hL, hwp⟩
      · have hVl : V.length = l.length := by
          rcases Nat.lt_or_ge V.length l.length with h | h
          · have := hall V.length (by simpa using h); rw [hF.1 _ (Nat.le_refl _)] at this; cases this
          · omega
        have := hend0 L a w (fun i hi => hall i (by simp; omega)) hF
        rwa [hVl] at this
      · have : l.length ≤ k := by
          rcases Nat.lt_or_ge k l.length with h | h
          · have := (hL k).1 (hall k (by simpa using h)); omega
          · exact h
        rw [List.drop_eq_nil_of_le this] at hwp
        rw [List.drop_eq_nil_of_le (Nat.le_refl _)]; exact hwp
    rw [List.drop_eq_nil_of_le (Nat.le_refl _)] at hw
    exact hw
where
  stars_append_one {hs : List HP} {p : HP} {m : Mem} (h : star p (stars hs) m) : stars (hs ++ [p]) m := by
    induction hs generalizing m with
    | nil => exact h
    | cons q hs ih => exact star_mono_right (fun m' h' => ih h') (star_swap h)
end
end Go.Dec
