/- Own texts and texts printed by a program of mine, for fileOwns_holds; only what it reaches. -/
import Derived.Test.YthnlglmjffdpfaaGreatDoorPo0
import Derived.Shelf.SlIterI.Nil
import Derived.Scope
import Derived.Laws.Strings
import Derived.Laws.BytesArg
import Derived.Laws.IdiomStrings
import Derived.Laws.AppendOwn
import Derived.Lib.AppendIntMem
import Derived.Lib.BufferKept
section
namespace Go.Dec
variable {κ : Option Nat}
open Go.Maps Go.WideElems Go.RowKit Go.MapKept Go.WideShapes
theorem SH.below {w w' : World} {F : Fz} {H : HP} (h : SH w F H) (hb : Below w.heap.size w w') : SH w' F H := by
  obtain ⟨m, a, k⟩ := h
  refine ⟨m, a, k.dj, fun b c e => ?_, k.gst, fun b o e => ?_, hb.os.trans k.os, hb.tape.trans k.tape, hb.output.trans k.out⟩
  · obtain ⟨o, e1, e2⟩ := k.own b c e
    exact ⟨o, e1, (hb.block b (lt_of_heap e2)).trans e2⟩
  · have := k.frz b o e
    exact (hb.block b (lt_of_heap this)).trans this
end Go.Dec
end

section
namespace Go.Dec
variable {κ : Option Nat}
def wpS (P : Program) (ops : Array Oper) (w : World) (K : Act → Prop) : List Oper → Act → Prop
  | [], a => K a
  | o :: rest, a => if Region.wanted o (yielded ops a.tmps) then ∃ v, (execOp a.eval o).run P w = .ok (.value v) w ∧ wpS P ops w K rest (a.put o.dst v) else wpS P ops w K rest (a.put o.dst undef)
def GS {β : Type} (P : Program) (ops : Array Oper) (l : List Oper) (E A : Act → World → Prop) (m : Option β) (r : β) : Prop :=
  m = some r → ∀ a w, A a w → wpS P ops w (fun a' => E a' w) l a
def StepV (P : Program) (ops : Array Oper) (w : World) (o : Oper) (v : Value) (a : Act) : Prop :=
  (Region.wanted o (yielded ops a.tmps) = true ∧ (execOp a.eval o).run P w = .ok (.value v) w) ∨ (Region.wanted o (yielded ops a.tmps) = false ∧ v = undef)
def putN : Act → List Oper → List Value → Act
  | a, o :: os, v :: vs => putN (a.put o.dst v) os vs
  | a, _, _ => a
theorem putN_snoc : ∀ {l : List Oper} {vs : List Value} {a : Act} {i : Nat} {o : Oper} {v : Value}, l[i]? = some o → vs[i]? = some v → putN a (l.take (i + 1)) (vs.take (i + 1)) = (putN a (l.take i) (vs.take i)).put o.dst v
  | [], _, _, _, _, _, h, _ => by simp at h
  | _ :: _, [], _, _, _, _, _, h => by simp at h
  | x :: l, u :: vs, a, 0, o, v, h, h' => by
    simp at h h'; subst h; subst h'; rfl
  | x :: l, u :: vs, a, i + 1, o, v, h, h' => by
    simp only [List.take_succ_cons, putN]
    exact putN_snoc (l := l) (by simpa using h) (by simpa using h')
theorem wpS_out {P : Program} {ops : Array Oper} {w : World} {K : Act → Prop} : ∀ {l : List Oper} {a : Act}, wpS P ops w K l a → ∃ vs : List Value, vs.length = l.length ∧ K (putN a l vs) ∧ ∀ i o v, l[i]? = some o → vs[i]? = some v → StepV P ops w o v (putN a (l.take i) (vs.take i))
  | [], a, h => ⟨[], rfl, h, fun i o v h => by simp at h⟩
  | x :: l, a, h => by
    have key : ∃ v, StepV P ops w x v a ∧ wpS P ops w K l (a.put x.dst v) := by
      unfold wpS at h
      split at h
      · rename_i hw
        obtain ⟨v, h1, h2⟩ := h
        exact ⟨v, .inl ⟨hw, h1⟩, h2⟩
      · rename_i hw
        exact ⟨undef, .inr ⟨by simpa using hw, rfl⟩, h⟩
    obtain ⟨v, h1, h2⟩ := key
    obtain ⟨vs, g1, g2, g3⟩ := wpS_out h2
    refine ⟨v :: vs, by simp [g1], g2, fun i o u ho hu => ?_⟩
    cases i with
    | zero => simp at ho hu; subst ho; subst hu; exact h1
    | succ i => exact g3 i o u (by simpa using ho) (by simpa using hu)
theorem yielded_getD (ops : Array Oper) (t : Array Value) (j : Nat) : yielded ops t j = match (ops[j]?).bind (·.dst) with
    | none => none
    | some d => match t.getD d undef with
      | .bool b => some b
      | _ => none := by
  unfold yielded
  cases (ops[j]?).bind (·.dst) with
  | none => rfl
  | some d =>
    simp only [Option.bind_some, Array.getD_eq_getD_getElem?]
    cases t[d]? with
    | none => rfl
    | some v => cases v <;> rfl
def looksB (l : List Oper) (k : Nat) (o : Oper) : Bool := (o.looksAt l.toArray).all fun t => (List.range k).all fun j => match dstOf l j with
  | none => true
  | some d => !Nat.beq d t || o.after.toList.any fun e => Region.binds .any e && Nat.beq e.on j
def noSel : Op → Bool
  | .select _ _ => false
  | _ => true
def slotsB (n : Nat) : List Oper → Bool
  | [] => true
  | o :: os => (match o.dst with
    | none => true
    | some d => Nat.blt d n && !os.any (sameDst d)) && slotsB n os
def maskOr : List Bool → List Bool → List Bool
  | a :: xs, b :: bs => (a || b) :: maskOr xs bs
  | [], bs => bs
  | xs, [] => xs
def setTrue : Nat → List Bool
  | 0 => [true]
  | n + 1 => false :: setTrue n
def closF (done : List (List Bool)) (o : Oper) : List Bool := o.after.toList.foldr (fun e m => bif Region.binds .any e then maskOr (maskOr (setTrue e.on) (done.getD e.on [])) m else m) []
def closL : List (List Bool) → List Oper → List (List Bool)
  | done, [] => done
  | done, o :: l => closL (done ++ [closF done o]) l
def allT : Nat → List Bool → Bool
  | 0, _ => true
  | n + 1, b :: bs => b && allT n bs
  | _ + 1, [] => false
def deepB (l : List Oper) (k : Nat) : Bool := (List.range l.length).all fun t => Nat.blt t k || allT t ((closL [] l).getD t [])
theorem maskOr_get : ∀ {a b : List Bool} {j : Nat}, (maskOr a b).getD j false = true → a.getD j false = true ∨ b.getD j false = true
  | [], bs, j, h => .inr h
  | a :: xs, [], j, h => .inl h
  | a :: xs, b :: bs, 0, h => by
    have h : (a || b) = true := h
    rcases Bool.or_eq_true_iff.1 h with h | h
    · exact .inl h
    · exact .inr h
  | a :: xs, b :: bs, j + 1, h => maskOr_get (a := xs) (b := bs) (j := j) h
theorem setTrue_get : ∀ {n j : Nat}, (setTrue n).getD j false = true → j = n
  | 0, 0, _ => rfl
  | 0, j + 1, h => by simp [setTrue] at h
  | n + 1, 0, h => by simp [setTrue] at h
  | n + 1, j + 1, h => by
    have : (setTrue n).getD j false = true := h
    rw [setTrue_get this]
def MaskOK (l : List Oper) (done : List (List Bool)) : Prop := ∀ t m, done[t]? = some m → ∀ j, m.getD j false = true → ∃ s, depB l s t j = true
theorem closF_spec {l : List Oper} {done : List (List Bool)} (hd : MaskOK l done) {t : Nat} {o : Oper} (ho : l[t]? = some o) : ∀ {j : Nat}, (closF done o).getD j false = true → ∃ s, depB l s t j = true := by
  have key : ∀ (es : List Edge), (∀ e ∈ es, e ∈ o.after.toList) → ∀ j, (es.foldr (fun e m => bif Region.binds .any e then maskOr (maskOr (setTrue e.on) (done.getD e.on [])) m else m) []).getD j false = true → ∃ s, depB l s t j = true := fun es => by
    induction es with
    | nil => intro _ j h; simp at h
    | cons e es ih =>
      intro hes j h
      have hes' := fun e' he' => hes e' (List.mem_cons_of_mem _ he')
      simp only [List.foldr_cons] at h
      cases hb : Region.binds .any e with
      | false => rw [hb] at h; simp only [cond_false] at h; exact ih hes' j h
      | true =>
        rw [hb] at h
        simp only [cond_true] at h
        have hmem := hes e (by simp)
        rcases maskOr_get h with h | h
        · rcases maskOr_get h with h | h
          · have := setTrue_get h
            subst this
            exact ⟨1, by simp only [depB, ho]; exact List.any_eq_true.2 ⟨e, hmem, by simp [hb]⟩⟩
          · rw [List.getD_eq_getElem?_getD] at h
            cases hm : done[e.on]? with
            | none => rw [List.getD_eq_getElem?_getD, hm] at h; simp at h
            | some m =>
              rw [List.getD_eq_getElem?_getD, hm] at h
              obtain ⟨s, hs⟩ := hd e.on m hm j (by rw [List.getD_eq_getElem?_getD]; exact h)
              exact ⟨s + 1, by simp only [depB, ho]; exact List.any_eq_true.2 ⟨e, hmem, by simp [hb, hs]⟩⟩
        · exact ih hes' j h
  intro j h
  exact key o.after.toList (fun _ h => h) j h
theorem closL_spec {l : List Oper} : ∀ {post pre : List Oper} {done : List (List Bool)}, l = pre ++ post → done.length = pre.length → MaskOK l done → MaskOK l (closL done post)
  | [], _, _, _, _, hd => hd
  | o :: post, pre, done, e, hl, hd => by
    refine closL_spec (pre := pre ++ [o]) (post := post) (by simp [e]) (by simp [hl]) fun t m hm j hj => ?_
    rcases Nat.lt_or_ge t done.length with h | h
    · rw [List.getElem?_append_left h] at hm; exact hd t m hm j hj
    · have ht : t = done.length := by
        have := (List.getElem?_eq_some_iff.1 hm).1
        simp at this; omega
      subst ht
      rw [List.getElem?_append_right (Nat.le_refl _)] at hm
      simp at hm; subst hm
      exact closF_spec hd (by rw [e, hl]; simp) hj
theorem allT_get : ∀ {n j : Nat} {m : List Bool}, allT n m = true → j < n → m.getD j false = true
  | 0, _, _, _, h => by omega
  | n + 1, j, [], h, _ => by cases h
  | n + 1, 0, b :: bs, h, _ => by
    have h : (b && allT n bs) = true := h
    exact ((Bool.and_eq_true _ _).mp h).1
  | n + 1, j + 1, b :: bs, h, hj => by
    have h : (b && allT n bs) = true := h
    exact allT_get (n := n) (j := j) (m := bs) ((Bool.and_eq_true _ _).mp h).2 (by omega)
theorem deepB_spec {l : List Oper} {k : Nat} (h : deepB l k = true) : ∀ t o, k ≤ t → l[t]? = some o → ∀ j, j < t → ∃ s, depB l s t j = true := fun t o hk ho j hj => by
  have hlt := lt_of_getEl ho
  have h1 := List.all_eq_true.1 h t (List.mem_range.2 hlt)
  have hb : Nat.blt t k = false := by
    cases hb : Nat.blt t k with
    | false => rfl
    | true => have := Nat.le_of_ble_eq_true hb; omega
  rw [hb, Bool.false_or] at h1
  have hM : MaskOK l (closL [] l) := closL_spec (pre := []) rfl rfl fun t m hm => by simp at hm
  have h2 := allT_get h1 hj
  cases hm : (closL [] l)[t]? with
  | none => rw [List.getD_eq_getElem?_getD (l := closL [] l), hm] at h2; simp at h2
  | some m => rw [List.getD_eq_getElem?_getD (l := closL [] l), hm] at h2; exact hM t m hm j h2
theorem slotsB_get : ∀ {n : Nat} {os : List Oper} {i : Nat} {o : Oper} {d : Nat}, slotsB n os = true → os[i]? = some o → o.dst = some d → d < n ∧ ∀ j o', os[j]? = some o' → o'.dst = some d → j = i
  | _, [], _, _, _, _, h, _ => by simp at h
  | n, x :: os, 0, o, d, hf, h, hd => by
    simp at h; subst h
    simp only [slotsB, hd, Bool.and_eq_true, Bool.not_eq_true'] at hf
    refine ⟨Nat.le_of_ble_eq_true hf.1.1, fun j o' hj hd' => ?_⟩
    cases j with
    | zero => rfl
    | succ j => exact (freshG_no hf.1.2 (by simpa using hj) hd').elim
  | n, x :: os, i + 1, o, d, hf, h, hd => by
    have hf' := hf
    simp only [slotsB, Bool.and_eq_true] at hf
    obtain ⟨g1, g2⟩ := slotsB_get (os := os) (i := i) hf.2 (by simpa using h) hd
    refine ⟨g1, fun j o' hj hd' => ?_⟩
    cases j with
    | zero =>
      simp at hj; subst hj
      simp only [slotsB, hd', Bool.and_eq_true, Bool.not_eq_true'] at hf'
      exact (freshG_no hf'.1.2 (by simpa using h) hd).elim
    | succ j => rw [g2 j o' (by simpa using hj) hd']
def drawB (n : Nat) (l : List Oper) (k : Nat) : Bool := ordB 0 l && deepB l k && Nat.ble k l.length && slotsB n (l.take k) && (l.take k).all fun o => looksB l k o && noSel o.op && noDefer o.op
section
variable {β : Type} {P : Program} {ks : List Kt} {Q : Exit → Act → World → Prop} {m : Option β} {r : β} {n : Nat} {D : List Deferred} {S0 : List (Nat × Value)} {F : Fz} {hs : List HP} {l : List Oper}
structure CharF (l : List Oper) (k n : Nat) (a0 : Act) (vs : List Value) (L : Nat → Bool) (a : Act) : Prop where
  size : a.tmps.size = n
  defs : a.defers = a0.defers
  got : ∀ (j : Nat) (v : Value) (t : Nat), j < k → L j = true → dstOf l j = some t → vs[j]? = some v → a.tmps.getD t undef = v
  old : ∀ t, (∀ j, j < k → L j = true → dstOf l j ≠ some t) → a.tmps.getD t undef = a0.tmps.getD t undef
theorem getD_set_self {t : Array Value} {d : Nat} {v : Value} (h : d < t.size) : (t.setIfInBounds d v).getD d undef = v := by simp [Array.getD_eq_getD_getElem?, h]
theorem getD_set_other {t : Array Value} {d e : Nat} {v : Value} (h : d ≠ e) : (t.setIfInBounds d v).getD e undef = t.getD e undef := by
  simp only [Array.getD_eq_getD_getElem?]
  rw [Array.getElem?_setIfInBounds_ne h]
theorem CharF.put {k : Nat} {a0 a : Act} {vs : List Value} {L : Nat → Bool} (c : CharF l k n a0 vs L a) (hsl : slotsB n (l.take k) = true) {i : Nat} {o : Oper} {v : Value} (hi : i < k) (ho : l[i]? = some o) (hv : vs[i]? = some v) : CharF l k n a0 vs (updB L i) (a.put o.dst v) := by
  have hdst : dstOf l i = o.dst := by simp [dstOf, ho]
  have hslot : ∀ d, o.dst = some d → d < n ∧ ∀ j, j < k → dstOf l j = some d → j = i := fun d hd => by
    obtain ⟨g1, g2⟩ := slotsB_get hsl (i := i) (o := o) (d := d) (by rw [List.getElem?_take, if_pos hi]; exact ho) hd
    refine ⟨g1, fun j hj e => ?_⟩
    cases hoj : l[j]? with
    | none => simp [dstOf, hoj] at e
    | some oj => exact g2 j oj (by rw [List.getElem?_take, if_pos hj]; exact hoj) (by simpa [dstOf, hoj] using e)
  cases hd : o.dst with
  | none =>
    refine ⟨c.size, c.defs, fun j u t hj hL e hu => ?_, fun t ht => c.old t fun j hj hL => ht j hj ?_⟩
    · by_cases hji : j = i
      · subst hji; rw [hdst, hd] at e; cases e
      · exact c.got j u t hj (by simpa [updB, hji] using hL) e hu
    · simp only [updB]; split
      · rfl
      · exact hL
  | some d =>
    obtain ⟨hdn, huniq⟩ := hslot d hd
    refine ⟨by simp [Act.put, c.size], c.defs, fun j u t hj hL e hu => ?_, fun t ht => ?_⟩
    · by_cases hji : j = i
      · subst hji
        rw [hdst, hd] at e; cases e
        rw [hv] at hu; cases hu
        exact getD_set_self (by rw [c.size]; exact hdn)
      · have hne : d ≠ t := fun e' => by subst e'; exact hji (huniq j hj e)
        show (a.tmps.setIfInBounds d v).getD t undef = u
        rw [getD_set_other hne]
        exact c.got j u t hj (by simpa [updB, hji] using hL) e hu
    · have hne : d ≠ t := fun e' => by subst e'; exact ht i hi (by simp [updB]) (by rw [hdst, hd])
      show (a.tmps.setIfInBounds d v).getD t undef = _
      rw [getD_set_other hne]
      exact c.old t fun j hj hL => ht j hj (by simp only [updB]; split <;> first | rfl | exact hL)
theorem CharF.same {k : Nat} {a0 a b : Act} {vs : List Value} {L L' : Nat → Bool} (c : CharF l k n a0 vs L a) (c' : CharF l k n a0 vs L' b) (hvs : k ≤ vs.length) {t : Nat} (ht : ∀ j, j < k → dstOf l j = some t → L j = true ∧ L' j = true) : a.tmps.getD t undef = b.tmps.getD t undef := by
  by_cases h : ∃ j, j < k ∧ dstOf l j = some t
  · obtain ⟨j, hj, e⟩ := h
    obtain ⟨h1, h2⟩ := ht j hj e
    have hv : vs[j]? = some vs[j] := List.getElem?_eq_getElem (by omega)
    rw [c.got j _ t hj h1 e hv, c'.got j _ t hj h2 e hv]
  · have hn : ∀ j, j < k → dstOf l j ≠ some t := fun j hj e => h ⟨j, hj, e⟩
    rw [c.old t fun j hj _ => hn j hj, c'.old t fun j hj _ => hn j hj]
theorem CharF.eq {k : Nat} {a0 a b : Act} {vs : List Value} {L : Nat → Bool} (c : CharF l k n a0 vs L a) (c' : CharF l k n a0 vs L b) (hvs : k ≤ vs.length) (hL : ∀ j, j < k → L j = true) : a = b := by
  have h : ∀ t, a.tmps.getD t undef = b.tmps.getD t undef := fun t => c.same c' hvs fun j hj _ => ⟨hL j hj, hL j hj⟩
  have ht : a.tmps = b.tmps := by
    apply Array.ext
    · rw [c.size, c'.size]
    · intro i h1 h2
      have := h i
      simpa [Array.getD_eq_getD_getElem?, h1, h2] using this
  have hd : a.defers = b.defers := by rw [c.defs, c'.defs]
  obtain ⟨ta, da⟩ := a
  obtain ⟨tb, db⟩ := b
  have ht : ta = tb := ht
  have hd : da = db := hd
  rw [ht, hd]
theorem StepV.of_same {ops : Array Oper} {w : World} {o : Oper} {v : Value} {a b : Act} (hs : noSel o.op = true) (h : StepV P ops w o v a) (he : ∀ t ∈ o.looksAt ops, a.tmps.getD t undef = b.tmps.getD t undef) : StepV P ops w o v b := by
  have hx : execOp a.eval o = execOp b.eval o := execOp_congr o (fun cs bb e => by rw [e] at hs; cases hs) fun x hx => by
    cases x with
    | tmp t => exact he t (List.mem_append_left _ (List.mem_filterMap.2 ⟨.tmp t, by simpa using hx, rfl⟩))
    | const v => rfl
    | global g => rfl
    | func f => rfl
  have hw : Region.wanted o (yielded ops a.tmps) = Region.wanted o (yielded ops b.tmps) := by
    unfold Region.wanted
    cases hg : o.guard with
    | none => rfl
    | some gw =>
      obtain ⟨g, want⟩ := gw
      have : yielded ops a.tmps g = yielded ops b.tmps g := by
        rw [yielded_getD, yielded_getD]
        cases ht : (ops[g]?).bind (·.dst) with
        | none => rfl
        | some t =>
          simp only []
          rw [he t (List.mem_append_right _ (by simp [hg, ht]))]
      simp only [this]
  unfold StepV at *
  rw [← hx, ← hw]; exact h
theorem char_seq {k : Nat} {a0 : Act} {vs : List Value} (hsz : a0.tmps.size = n) (hsl : slotsB n (l.take k) = true) (hk : k ≤ l.length) (hvs : vs.length = k) : ∀ i, i ≤ k → CharF l k n a0 vs (fun j => Nat.blt j i) (putN a0 ((l.take k).take i) (vs.take i))
  | 0, _ => by
    refine ⟨hsz, rfl, fun j v t _ hL => ?_, fun t _ => rfl⟩
    have : Nat.blt j 0 = true := hL
    have := Nat.le_of_ble_eq_true this; omega
  | i + 1, hi => by
    have ho : l[i]? = some l[i] := List.getElem?_eq_getElem (by omega)
    have hv : vs[i]? = some vs[i] := List.getElem?_eq_getElem (by omega)
    have h := (char_seq hsz hsl hk hvs i (by omega)).put hsl (by omega) ho hv
    rw [putN_snoc (l := l.take k) (o := l[i]) (v := vs[i]) (by rw [List.getElem?_take, if_pos (by omega)]; exact ho) hv]
    have e : (fun j => Nat.blt j (i + 1)) = updB (fun j => Nat.blt j i) i := by
      funext j
      simp only [updB]
      by_cases hj : j = i
      · subst hj; rw [if_pos rfl]; exact Nat.ble_eq_true_of_le (Nat.le_refl _)
      · rw [if_neg hj]
        cases h1 : Nat.blt j i with
        | true => have := Nat.le_of_ble_eq_true h1; exact Nat.ble_eq_true_of_le (show j + 1 ≤ i + 1 by omega)
        | false =>
          cases h2 : Nat.blt j (i + 1) with
          | false => rfl
          | true =>
            have := Nat.le_of_ble_eq_true h2
            have h3 : Nat.blt j i = true := Nat.ble_eq_true_of_le (show j + 1 ≤ i by omega)
            rw [h1] at h3; cases h3
    rw [e]; exact h
theorem GC.drawZ {id : Nat} (k : Nat) (hm : P.follows .mixedOrders = true) (hB : drawB n l k = true)
    (walk : GS P l.toArray (l.take k) (wpL κ P l.toArray (interp κ P ks Q) (l.drop k)) (Hd n D S0 F hs) m r) : GC κ P (.region id l.toArray true) ks Q (Hd n D S0 F hs) m r := by
  intro hmr a0 w ha
  simp only [drawB, Bool.and_eq_true, List.all_eq_true] at hB
  obtain ⟨⟨⟨⟨hord, hdeep⟩, hlen⟩, hsl⟩, hall⟩ := hB
  have htail := deepB_spec hdeep
  have hlen' : k ≤ l.length := Nat.le_of_ble_eq_true hlen
  have hw1 := walk hmr a0 { w with drawn := w.drawn + 1 } ⟨ha.1, ha.2.drew _⟩
  obtain ⟨vs, hvl, hK, hstep⟩ := wpS_out hw1
  have hvk : vs.length = k := by rw [hvl]; simp; omega
  have hseq := char_seq (a0 := a0) (vs := vs) (l := l) ha.1.1 hsl hlen' hvk
  let Free : (Nat → Bool) → Act → World → Prop := fun L a w' => Down l L ∧ (∀ i, k ≤ i → L i = false) ∧ w' = { w with drawn := w.drawn + 1 } ∧ CharF l k n a0 vs L a
  let Inv : (Nat → Bool) → Act → World → Prop := fun L a w => Free L a w ∨ ∃ i, k < i ∧ Down l L ∧ (∀ j, L j = true ↔ j < i) ∧ wpL κ P l.toArray (interp κ P ks Q) (l.drop i) a w
  have hend0 : ∀ L a w', (∀ i, i < k → L i = true) → Free L a w' → wpL κ P l.toArray (interp κ P ks Q) (l.drop k) a w' := by
    rintro L a w' hL ⟨_, hout, rfl, hc⟩
    have hLk : L = fun j => Nat.blt j k := by
      funext j
      rcases Nat.lt_or_ge j k with h | h
      · rw [hL j h]; exact (Nat.ble_eq_true_of_le h).symm
      · rw [hout j h]
        cases hb : Nat.blt j k with
        | false => rfl
        | true => have := Nat.le_of_ble_eq_true hb; omega
    have h2 := hseq k (Nat.le_refl _)
    rw [List.take_of_length_le (show (l.take k).length ≤ k by simp; omega), List.take_of_length_le (show vs.length ≤ k by omega)] at h2
    rw [hLk] at hc
    rw [hc.eq h2 (by omega) fun j hj => Nat.ble_eq_true_of_le hj]
    exact hK
  refine wp_region_inv hm Inv (fun i o h e he hb => by have := ordB_spec hord i o (by simpa using h) e he hb; omega) ?_ ?_ ?_
  · refine .inl ⟨fun i o _ h => (by cases h), fun _ _ => rfl, rfl, ⟨ha.1.1, rfl, fun j v t _ h => (by cases h), fun t _ => rfl⟩⟩
  · intro L a w' i o ho hLi hdeps hI
    have ho' : l[i]? = some o := by simpa using ho
    have hil : i < l.length := lt_of_getEl ho'
    by_cases hi : i < k
    · rcases hI with hF | ⟨k', hk, _, hL, _⟩
      case inr => have := (hL i).2 (by omega); rw [hLi] at this; cases this
      obtain ⟨hdn, hout, rfl, hc⟩ := hF
      have hot : (l.take k)[i]? = some o := by rw [List.getElem?_take, if_pos hi]; exact ho'
      have hmem : o ∈ l.take k := List.mem_of_getElem? hot
      have hoB := hall o hmem
      obtain ⟨⟨hlk, hns⟩, hnd⟩ := hoB
      have hv : vs[i]? = some vs[i] := List.getElem?_eq_getElem (by omega)
      have hst := hstep i o _ hot hv
      have hst' : StepV P l.toArray { w with drawn := w.drawn + 1 } o vs[i] a := hst.of_same hns fun t ht => by
        refine (hseq i (by omega)).same hc (by omega) fun j hj e => ?_
        have h1 := List.all_eq_true.1 (List.all_eq_true.1 hlk t ht) j (List.mem_range.2 hj)
        rw [e] at h1
        simp only [Nat.beq_refl, Bool.not_true, Bool.false_or, List.any_eq_true, Bool.and_eq_true] at h1
        obtain ⟨e', he', hb', hon⟩ := h1
        have hon : e'.on = j := Nat.eq_of_beq_eq_true hon
        have hmem' : e' ∈ o.after := by simpa using he'
        refine ⟨?_, by rw [← hon]; exact hdeps e' hmem' hb'⟩
        have := ordB_spec hord i o ho' e' hmem' hb'
        exact Nat.ble_eq_true_of_le (show j + 1 ≤ i by omega)
      have hnext : Inv (updB L i) (a.put o.dst vs[i]) { w with drawn := w.drawn + 1 } := by
        refine .inl ⟨?_, ?_, rfl, hc.put hsl hi ho' hv⟩
        · intro j oj hoj hj e he hb
          have : L e.on = true := by
            by_cases hji : j = i
            · subst hji; rw [ho'] at hoj; cases hoj; exact hdeps e he hb
            · exact hdn j oj hoj (by simpa [updB, hji] using hj) e he hb
          simp only [updB]; split
          · rfl
          · exact this
        · intro j hj; simp only [updB]; rw [if_neg (by omega)]; exact hout j hj
      rcases hst' with ⟨h1, h2⟩ | ⟨h1, h2⟩
      · rw [if_pos h1]
        refine ⟨.inr hnd, ?_⟩
        rw [h2]; exact hnext
      · rw [if_neg (by simp [h1]), ← h2]; exact hnext
    · have hdnL : Down l L := by
        rcases hI with hF | ⟨_, _, hd, _, _⟩
        · exact hF.1
        · exact hd
      have hallL : ∀ j, j < i → L j = true := fun j hj => by
        obtain ⟨s, hs⟩ := htail i o (by omega) ho' j hj
        exact dep_true hdnL hs fun o' ho'' e he hb => by rw [ho'] at ho''; cases ho''; exact hdeps e he hb
      have hdnU : Down l (updB L i) := fun j oj hoj hj e he hb => by
        have : L e.on = true := by
          by_cases hji : j = i
          · subst hji; rw [ho'] at hoj; cases hoj; exact hdeps e he hb
          · exact hdnL j oj hoj (by simpa [updB, hji] using hj) e he hb
        simp only [updB]; split
        · rfl
        · exact this
      have hw : wpL κ P l.toArray (interp κ P ks Q) (l.drop i) a w' := by
        rcases hI with hF | ⟨k', hk, _, hL, hwp⟩
        · have hiV : i = k := by
            rcases Nat.lt_or_ge k i with h | h
            · have := hallL k h; rw [hF.2.1 _ (Nat.le_refl _)] at this; cases this
            · omega
          subst hiV
          exact hend0 L a w' hallL hF
        · have : k' = i := by
            have h1 : ¬ i < k' := fun h => by have := (hL i).2 h; rw [hLi] at this; cases this
            have h2 : ¬ k' < i := fun h => by have := (hL k').1 (hallL k' h); omega
            omega
          subst this; exact hwp
      have hdrop : l.drop i = o :: l.drop (i + 1) := by
        have hg : l[i]'hil = o := by simpa [hil] using ho'
        rw [← hg]; exact List.drop_eq_getElem_cons hil
      rw [hdrop] at hw
      have hnext : ∀ a' w', wpL κ P l.toArray (interp κ P ks Q) (l.drop (i + 1)) a' w' → Inv (updB L i) a' w' := fun a' w' h =>
        .inr ⟨i + 1, by omega, hdnU, fun j => by
          simp only [updB]
          by_cases hj : j = i
          · simp [hj]
          · simp only [hj, if_false]
            constructor
            · intro hLj
              have : j < i := by
                rcases Nat.lt_or_ge j i with h | h
                · exact h
                · rcases hI with hF | ⟨k', hk, _, hL, _⟩
                  · rw [hF.2.1 j (by omega)] at hLj; cases hLj
                  · have h1 := (hL j).1 hLj
                    have := (hL i).2 (by omega); rw [hLi] at this; cases this
              omega
            · intro hj'; exact hallL j (by omega), h⟩
      unfold wpL at hw
      split
      · rename_i hwn
        rw [if_pos hwn] at hw
        exact opW_mono hnext hw
      · rename_i hwn
        rw [if_neg hwn] at hw
        exact hnext _ _ hw
  · intro L a w' hallL hI
    have hw : wpL κ P l.toArray (interp κ P ks Q) (l.drop l.length) a w' := by
      rcases hI with hF | ⟨k', hk, _, hL, hwp⟩
      · have hVl : k = l.length := by
          rcases Nat.lt_or_ge k l.length with h | h
          · have := hallL k (by simpa using h); rw [hF.2.1 _ (Nat.le_refl _)] at this; cases this
          · omega
        have := hend0 L a w' (fun i hi => hallL i (by simp; omega)) hF
        rwa [hVl] at this
      · have : l.length ≤ k' := by
          rcases Nat.lt_or_ge k' l.length with h | h
          · have := (hL k').1 (hallL k' (by simpa using h)); omega
          · exact h
        rw [List.drop_eq_nil_of_le this] at hwp
        rw [List.drop_eq_nil_of_le (Nat.le_refl _)]; exact hwp
    rw [List.drop_eq_nil_of_le (Nat.le_refl _)] at hw
    exact hw
end
section
variable {β : Type} {P : Program} {ops : Array Oper} {rest l : List Oper} {E A A' : Act → World → Prop} {m : Option β} {r : β}
variable {n : Nat} {D : List Deferred} {S S' : List (Nat × Value)} {F F' : Fz} {hs hs' : List HP}
theorem GS.step {o : Oper} (hg : o.guard = none) (h : m = some r → ∀ a w, A a w → ∃ v, (execOp a.eval o).run P w = .ok (.value v) w ∧ wpS P ops w (fun a' => E a' w) rest (a.put o.dst v)) : GS P ops (o :: rest) E A m r := by
  intro hm a w ha
  obtain ⟨v, h1, h2⟩ := h hm a w ha
  unfold wpS
  rw [if_pos (by simp [Region.wanted, hg])]
  exact ⟨v, h1, h2⟩
theorem GS.pend {κ : Option Nat} {tl : List Oper} {ks : List Kt} {Q : Exit → Act → World → Prop} (h : GL κ P ops tl ks Q A m r) : GS P ops [] (wpL κ P ops (interp κ P ks Q) tl) A m r := fun hm a w ha => h hm a w ha
end
section
section
variable {β : Type} {P : Program} {ops : Array Oper} {l rest : List Oper} {E : Act → World → Prop} {A A' : Act → World → Prop} {m : Option β} {r : β}
theorem GS.bind {α : Type} {e : Option α} {f : α → Option β} (h : ∀ y, e = some y → GS P ops l E A (f y) r) : GS P ops l E A (e.bind f) r :=
  fun hm => by
    cases e with
    | none => simp at hm
    | some y => exact h y rfl hm
end
end
section
section
variable {β : Type} {P : Program} {ops : Array Oper} {rest : List Oper} {E : Act → World → Prop} {A : Act → World → Prop} {m : Option β} {r : β}
section
variable {n : Nat} {D : List Deferred} {S : List (Nat × Value)} {F : Fz} {hs : List HP}
theorem GS.on {dst : Option Tmp} {op : Op} {ty : TypeId} {pos : String} {after : Array Edge} {j t : Nat} {want : Bool} (hj : (ops[j]?).bind (·.dst) = some t) (hv : lookS S t = some (.bool want))
    (k : GS P ops (⟨dst, op, ty, pos, after, none⟩ :: rest) E (Hd n D S F hs) m r) : GS P ops (⟨dst, op, ty, pos, after, some (j, want)⟩ :: rest) E (Hd n D S F hs) m r := by
  intro hm a w ha
  have h := k hm a w ha
  have hy := yielded_some (ops := ops) hj ha.1 hv
  unfold wpS at h ⊢
  rw [if_pos (by simp [Region.wanted])] at h
  rw [if_pos (by simp [Region.wanted, hy])]
  exact h
theorem GS.off {d : Nat} {op : Op} {ty : TypeId} {pos : String} {after : Array Edge} {j t : Nat} {want : Bool} {v : Value} (hd : Nat.blt d n = true) (hj : (ops[j]?).bind (·.dst) = some t) (hv : lookS S t = some v) (hx : isNot v want = true)
    (k : GS P ops rest E (Hd n D ((d, undef) :: S) F hs) m r) : GS P ops (⟨some d, op, ty, pos, after, some (j, want)⟩ :: rest) E (Hd n D S F hs) m r := by
  intro hm a w ha
  have hy : yielded ops a.tmps j ≠ some want := by
    have h := ha.1.2.2 t _ hv
    unfold yielded
    rw [hj]
    simp only [Option.bind_some]
    simp only [Array.getD_eq_getD_getElem?] at h
    cases e : a.tmps[t]? with
    | none => simp
    | some u =>
      rw [e] at h; simp at h; subst h
      cases u <;> simp [isNot] at hx ⊢
      exact hx
  unfold wpS
  rw [if_neg (by simp [Region.wanted, hy])]
  exact k hm _ w ⟨ha.1.put hd _, ha.2⟩
theorem GS.val {d : Nat} {op : Op} {ty : TypeId} {pos : String} {after : Array Edge} {v : Value} (hd : Nat.blt d n = true)
    (hrun : ∀ a w, Hd n D S F hs a w → (execOp a.eval ⟨some d, op, ty, pos, after, none⟩).run P w = .ok (.value v) w)
    (k : GS P ops rest E (Hd n D ((d, v) :: S) F hs) m r) (hnd : noDefer op = true := by rfl) : GS P ops (⟨some d, op, ty, pos, after, none⟩ :: rest) E (Hd n D S F hs) m r :=
  have _ := hnd
  GS.step rfl fun hm a w ha => ⟨v, hrun a w ha, k hm _ w ⟨ha.1.put hd v, ha.2⟩⟩
section
variable {d : Nat} {ty t t' : TypeId} {pos : String} {after : Array Edge} {ox oy oz : Operand} {v u : Value} {kd : IntKind} {x y : Int}
theorem GS.move (hd : Nat.blt d n = true) (hx : evalS S ox = some v) (k : GS P ops rest E (Hd n D ((d, v) :: S) F hs) m r) :
    GS P ops (⟨some d, .move ox, ty, pos, after, none⟩ :: rest) E (Hd n D S F hs) m r :=
  GS.val hd (fun a w ha => by simp [execOp, ha.1.eval hx]) k
theorem GS.assign (hd : Nat.blt d n = true) (hx : evalS S ox = some v) (k : GS P ops rest E (Hd n D ((d, v) :: S) F hs) m r) :
    GS P ops (⟨some d, .assign ox, ty, pos, after, none⟩ :: rest) E (Hd n D S F hs) m r :=
  GS.val hd (fun a w ha => by simp [execOp, ha.1.eval hx]) k
theorem GS.pickT (hd : Nat.blt d n = true) (hz : evalS S oz = some (.bool true)) (hx : evalS S ox = some v) (k : GS P ops rest E (Hd n D ((d, v) :: S) F hs) m r) :
    GS P ops (⟨some d, .pick oz ox oy, ty, pos, after, none⟩ :: rest) E (Hd n D S F hs) m r :=
  GS.val hd (fun a w ha => by simp [execOp, ha.1.eval hx, ha.1.eval hz, asBool]) k
theorem GS.pickF (hd : Nat.blt d n = true) (hz : evalS S oz = some (.bool false)) (hy : evalS S oy = some v) (k : GS P ops rest E (Hd n D ((d, v) :: S) F hs) m r) :
    GS P ops (⟨some d, .pick oz ox oy, ty, pos, after, none⟩ :: rest) E (Hd n D S F hs) m r :=
  GS.val hd (fun a w ha => by simp [execOp, ha.1.eval hy, ha.1.eval hz, asBool]) k
theorem GS.neq (hd : Nat.blt d n = true) (hx : evalS S ox = some (.int kd x)) (hy : evalS S oy = some (.int kd y)) (k : GS P ops rest E (Hd n D ((d, .bool (x != y)) :: S) F hs) m r) :
    GS P ops (⟨some d, .binOp .neq t ox oy t', ty, pos, after, none⟩ :: rest) E (Hd n D S F hs) m r :=
  GS.val hd (fun a w ha => by simp [execOp, ha.1.eval hx, ha.1.eval hy, eqGuard, binOp, Op.intCmp]) k
theorem GS.not {b : Bool} (hd : Nat.blt d n = true) (hx : evalS S ox = some (.bool b)) (k : GS P ops rest E (Hd n D ((d, .bool (!b)) :: S) F hs) m r) :
    GS P ops (⟨some d, .unOp .not t ox, ty, pos, after, none⟩ :: rest) E (Hd n D S F hs) m r :=
  GS.val hd (fun a w ha => by simp [execOp, ha.1.eval hx, Op.unary]) k
theorem GS.convI {ds : TypeDesc} {kd' : IntKind} (hd : Nat.blt d n = true) (h1 : P.underlying t = some ds) (h2 : P.underlying t' = some (.int kd')) (hx : evalS S ox = some (.int kd x)) (k : GS P ops rest E (Hd n D ((d, .int kd' (kd'.wrap x)) :: S) F hs) m r) :
    GS P ops (⟨some d, .convert t t' ox, ty, pos, after, none⟩ :: rest) E (Hd n D S F hs) m r :=
  GS.val hd (fun a w ha => by
    simp only [execOp, ha.1.eval hx, convert, Sem.run_bind, rUnd h1, rUnd h2, Result.andThen]
    cases ds <;> simp [Conv.intToInt]) k
theorem GS.fieldAddr {i b o z : Nat} {fs : Array Field} {f : Field} (hd : Nat.blt d n = true) (ht : P.underlying t = some (.struct fs)) (hf : fs[i]? = some f) (hz : ∀ w, (sizeOf f.type).run P w = .ok (z + 1) w)
    (hx : evalS S ox = some (.pointer (some ⟨b, o, none⟩))) (k : GS P ops rest E (Hd n D ((d, .pointer (some ⟨b, o + f.offset, none⟩)) :: S) F hs) m r) :
    GS P ops (⟨some d, .fieldAddr t ox i, ty, pos, after, none⟩ :: rest) E (Hd n D S F hs) m r :=
  GS.val hd (fun a w ha => by simp [execOp, ha.1.eval hx, Instr.fieldAt, rUnd ht, hf, Instr.sureAddr, fieldPlace, hz, add_addr]) k
theorem GS.indexAddrS {len cap e b o z j : Nat} (hd : Nat.blt d n = true) (ht : P.underlying t = some (.slice e)) (hz : ∀ w, (sizeOf e).run P w = .ok z w)
    (hx : evalS S ox = some (.slice (some ⟨b, o, none⟩) len cap)) (hy : evalS S oy = some (.int kd x)) (hj : idxO len x = some j) (k : GS P ops rest E (Hd n D ((d, .pointer (some ⟨b, o + j * z, none⟩)) :: S) F hs) m r) :
    GS P ops (⟨some d, .indexAddr t ox oy, ty, pos, after, none⟩ :: rest) E (Hd n D S F hs) m r :=
  GS.val hd (fun a w ha => by
    obtain ⟨h0, h1, h2, _⟩ := idxO_some hj
    subst h2
    simp [execOp, ha.1.eval hx, ha.1.eval hy, Instr.indexAt, asIntOf, rUnd ht, h0, h1, hz, add_addr]) k
end
end
end
end
section
section
variable {β : Type} {P : Program} {ops : Array Oper} {rest : List Oper} {E : Act → World → Prop} {m : Option β} {r : β}
variable {n : Nat} {D : List Deferred} {S : List (Nat × Value)} {F : Fz} {hs : List HP}
variable {d : Nat} {ty t t' : TypeId} {pos : String} {after : Array Edge} {ox oy oz : Operand} {v u : Value} {kd : IntKind} {x y : Int}
theorem GS.loadF {b o T : Nat} {cs : List Value} {fr : Nat × Nat} (hd : Nat.blt d n = true) (hA : ∀ w, (isAgg t).run P w = .ok false w) (hx : evalS S ox = some (.pointer (some ⟨b, o, none⟩))) (hb : F.mem b = some (.cells cs.toArray T fr)) (hv : cs[o]? = some v)
    (k : GS P ops rest E (Hd n D ((d, v) :: S) F hs) m r) : GS P ops (⟨some d, .load t ox, ty, pos, after, none⟩ :: rest) E (Hd n D S F hs) m r :=
  GS.val hd (fun a w ha => by simp [execOp, ha.1.eval hx, run_load1 hA (by rw [cell_of_heap (ha.2.frozen hb)]; exact hv)]) k
theorem GS.loadFA {b o T z : Nat} {cs vs : List Value} {fr : Nat × Nat} (hd : Nat.blt d n = true) (hA : ∀ w, (isAgg t).run P w = .ok true w) (hz : ∀ w, (sizeOf t).run P w = .ok z w) (hx : evalS S ox = some (.pointer (some ⟨b, o, none⟩))) (hb : F.mem b = some (.cells cs.toArray T fr)) (hv : (cs.drop o).take z = vs) (hl : vs.length = z)
    (k : GS P ops rest E (Hd n D ((d, .agg vs.toArray) :: S) F hs) m r) : GS P ops (⟨some d, .load t ox, ty, pos, after, none⟩ :: rest) E (Hd n D S F hs) m r :=
  GS.val hd (fun a w ha => by simp [execOp, ha.1.eval hx, run_loadA hA hz (ha.2.frozen hb) hv hl]) k
theorem GS.loadO {b o T i : Nat} {cs : List Value} {fr : Nat × Nat} (hd : Nat.blt d n = true) (hA : ∀ w, (isAgg t).run P w = .ok false w) (hx : evalS S ox = some (.pointer (some ⟨b, o, none⟩))) (hb : hs[i]? = some (pt b (.cells cs.toArray T fr))) (hv : cs[o]? = some v)
    (k : GS P ops rest E (Hd n D ((d, v) :: S) F hs) m r) : GS P ops (⟨some d, .load t ox, ty, pos, after, none⟩ :: rest) E (Hd n D S F hs) m r :=
  GS.val hd (fun a w ha => by simp [execOp, ha.1.eval hx, run_load1 hA (by rw [cell_of_heap (SH.ownedAt hb ha.2)]; exact hv)]) k
end
end
section
section
variable {β : Type} {P : Program} {ops : Array Oper} {rest l : List Oper} {E : Act → World → Prop} {A : Act → World → Prop} {m : Option β} {r : β}
variable {n : Nat} {D : List Deferred} {S S0 : List (Nat × Value)} {F F' : Fz} {hs : List HP}
theorem GS.onH {dst : Option Tmp} {op : Op} {ty : TypeId} {pos : String} {after : Array Edge} {j t : Nat} {b want : Bool} (hb : b = want) (hj : (ops[j]?).bind (·.dst) = some t) (hv : lookS S t = some (.bool b))
    (k : GS P ops (⟨dst, op, ty, pos, after, none⟩ :: rest) E (Hd n D S F hs) m r) : GS P ops (⟨dst, op, ty, pos, after, some (j, want)⟩ :: rest) E (Hd n D S F hs) m r :=
  GS.on hj (hb ▸ hv) k
theorem GS.offH {d : Nat} {op : Op} {ty : TypeId} {pos : String} {after : Array Edge} {j t : Nat} {b want : Bool} (hb : b = !want) (hd : Nat.blt d n = true) (hj : (ops[j]?).bind (·.dst) = some t) (hv : lookS S t = some (.bool b))
    (k : GS P ops rest E (Hd n D ((d, undef) :: S) F hs) m r) : GS P ops (⟨some d, op, ty, pos, after, some (j, want)⟩ :: rest) E (Hd n D S F hs) m r :=
  GS.off hd hj hv (by subst hb; cases want <;> rfl) k
theorem GS.pickTH {d : Nat} {ty : TypeId} {pos : String} {after : Array Edge} {ox oy oz : Operand} {v : Value} {b : Bool} (hb : b = true) (hd : Nat.blt d n = true) (hz : evalS S oz = some (.bool b)) (hx : evalS S ox = some v) (k : GS P ops rest E (Hd n D ((d, v) :: S) F hs) m r) :
    GS P ops (⟨some d, .pick oz ox oy, ty, pos, after, none⟩ :: rest) E (Hd n D S F hs) m r := GS.pickT hd (hb ▸ hz) hx k
theorem GS.pickFH {d : Nat} {ty : TypeId} {pos : String} {after : Array Edge} {ox oy oz : Operand} {v : Value} {b : Bool} (hb : b = false) (hd : Nat.blt d n = true) (hz : evalS S oz = some (.bool b)) (hy : evalS S oy = some v) (k : GS P ops rest E (Hd n D ((d, v) :: S) F hs) m r) :
    GS P ops (⟨some d, .pick oz ox oy, ty, pos, after, none⟩ :: rest) E (Hd n D S F hs) m r := GS.pickF hd (hb ▸ hz) hy k
end
end
section
section
variable {β : Type} {P : Program} {ops : Array Oper} {rest : List Oper} {E : Act → World → Prop} {m : Option β} {r : β}
variable {n : Nat} {D : List Deferred} {S : List (Nat × Value)} {F : Fz} {hs : List HP}
variable {d : Nat} {ty t t' : TypeId} {pos : String} {after : Array Edge} {ox oy oz : Operand} {v u : Value} {kd : IntKind} {x y : Int}
theorem GS.idxK {α : Type} {sz : Nat} {c : ERel α} {p : Option Addr} {cap e : Nat} {l : List α} {z : α} (hd : Nat.blt d n = true) (ht : P.underlying t = some (.slice e)) (hz : ∀ w, (sizeOf e).run P w = .ok sz w)
    (hr : RepSl sz c F p cap l) (hx : evalS S ox = some (.slice p l.length cap)) (hy : evalS S oy = some (.int kd x)) (hi : idxL l x = some z)
    (k : ∀ b o T fr cs, F.mem b = some (.cells (List.toArray cs) T fr) → c F z ((cs.drop o).take sz) → GS P ops rest E (Hd n D ((d, .pointer (some ⟨b, o, none⟩)) :: S) F hs) m r) :
    GS P ops (⟨some d, .indexAddr t ox oy, ty, pos, after, none⟩ :: rest) E (Hd n D S F hs) m r := by
  obtain ⟨h0, h1, h2⟩ := idxL_some hi
  obtain ⟨b, o, T, fr, cs, rfl, h3, h4⟩ := hr.at_ h2
  have hj : idxO l.length x = some x.toNat := by unfold idxO; rw [if_pos (by omega)]
  exact GS.indexAddrS hd ht hz hx hy hj (k b _ T fr cs h3 h4)
theorem GS.idx {α : Type} {sz : Nat} {c : ERel α} {p : Option Addr} {cap e : Nat} {l : List α} {f : α → Option β} (hd : Nat.blt d n = true) (ht : P.underlying t = some (.slice e)) (hz : ∀ w, (sizeOf e).run P w = .ok sz w)
    (hr : RepSl sz c F p cap l) (hx : evalS S ox = some (.slice p l.length cap)) (hy : evalS S oy = some (.int kd x))
    (k : ∀ z b o T fr cs, idxL l x = some z → F.mem b = some (.cells (List.toArray cs) T fr) → c F z ((cs.drop o).take sz) → GS P ops rest E (Hd n D ((d, .pointer (some ⟨b, o, none⟩)) :: S) F hs) (f z) r) :
    GS P ops (⟨some d, .indexAddr t ox oy, ty, pos, after, none⟩ :: rest) E (Hd n D S F hs) ((idxL l x).bind f) r :=
  GS.bind fun z hi => GS.idxK hd ht hz hr hx hy hi (fun b o T fr cs h1 h2 => k z b o T fr cs hi h1 h2)
end
end
section
section
variable {β : Type} {P : Program} {ops : Array Oper} {rest : List Oper} {E : Act → World → Prop} {A : Act → World → Prop} {m : Option β} {r : β}
variable {n : Nat} {D : List Deferred} {S S0 : List (Nat × Value)} {F F' : Fz} {hs : List HP}
theorem GS.neqR {d : Nat} {ty t t' : TypeId} {pos : String} {after : Array Edge} {ox oy : Operand} {xs ys : Array Value} {b : Bool} (hd : Nat.blt d n = true) (hg : P.eqGuardType P.depth t = false) (hq : ∀ w, (Op.equal t (.agg xs) (.agg ys)).run P w = .ok b w)
    (hx : evalS S ox = some (.agg xs)) (hy : evalS S oy = some (.agg ys)) (k : GS P ops rest E (Hd n D ((d, .bool (!b)) :: S) F hs) m r) :
    GS P ops (⟨some d, .binOp .neq t ox oy t', ty, pos, after, none⟩ :: rest) E (Hd n D S F hs) m r :=
  GS.val hd (fun a w ha => by simp [execOp, ha.1.eval hx, ha.1.eval hy, eqGuard, binOp, hg, hq]) k
end
end
end Go.Dec
end

section
namespace Go.Dec
section
variable {β : Type} {P : Program} {ops : Array Oper} {l : List Oper} {E A : Act → World → Prop} {r : β}
theorem GS.ite {b : Bool} {m1 m2 : Option β} (h1 : b = true → GS P ops l E A m1 r) (h2 : b = false → GS P ops l E A m2 r) : GS P ops l E A (if b then m1 else m2) r := by
  cases b with
  | true => exact h1 rfl
  | false => exact h2 rfl
end
section
variable {β : Type} {κ : Option Nat} {P : Program} {ks : List Kt} {Q : Exit → Act → World → Prop} {m : Option β} {r : β} {n : Nat} {D : List Deferred} {S0 : List (Nat × Value)} {F : Fz} {hs : List HP} {l : List Oper}
theorem CharF.same2 {k : Nat} {a0 a b : Act} {vs : List Value} {L L' : Nat → Bool} (c : CharF l k n a0 vs L a) (c' : CharF l k n a0 vs L' b) (hvs : k ≤ vs.length) {t : Nat} (ht : ∀ j, j < k → dstOf l j = some t → L j = L' j) : a.tmps.getD t undef = b.tmps.getD t undef := by
  by_cases h : ∃ j, j < k ∧ L j = true ∧ dstOf l j = some t
  · obtain ⟨j, hj, hL, e⟩ := h
    have hv : vs[j]? = some vs[j] := List.getElem?_eq_getElem (by omega)
    rw [c.got j _ t hj hL e hv, c'.got j _ t hj (by rw [← ht j hj e]; exact hL) e hv]
  · rw [c.old t fun j hj hL e => h ⟨j, hj, hL, e⟩, c'.old t fun j hj hL e => h ⟨j, hj, by rw [ht j hj e]; exact hL, e⟩]
end
end Go.Dec
end

section
namespace Go.Dec
theorem Fz.r {F : Fz} : F ≤ F := Fz.le_refl F
theorem Fz.t {F G H : Fz} (h : F ≤ G) (k : G ≤ H) : F ≤ H := Fz.le_trans h k
section
variable {κ : Option Nat}
def wpT (κ : Option Nat) (P : Program) (ops : Array Oper) (Q : Exit → Act → World → Prop) : List Nat → List Oper → Act → World → Prop
  | [], l, a, w => wpS P ops w (fun a' => Q .normal a' w) l a
  | p :: st, l, a, w => wpS P ops w (fun a' => wpL κ P ops (Exit.then (wpT κ P ops Q st (l.drop (p + 1))) Q) ((l.drop p).take 1) a' w) (l.take p) a
def looksT (l : List Oper) (c p i : Nat) (o : Oper) : Bool := (o.looksAt l.toArray).all fun t => (List.range p).all fun j => match dstOf l (c + j) with
  | none => true
  | some d => !Nat.beq d t || ((o.after.toList.any fun e => Region.binds .any e && Nat.beq e.on (c + j)) || (Nat.blt i j && match l[c + j]? with
    | none => false
    | some oj => oj.after.toList.any fun e => Region.binds .any e && Nat.beq e.on (c + i)))
def looksTL (l : List Oper) (c p : Nat) : Nat → List Oper → Bool
  | _, [] => true
  | i, o :: os => looksT l c p i o && looksTL l c p (i + 1) os
theorem looksTL_get {l : List Oper} {c p : Nat} : ∀ {os : List Oper} {i0 : Nat}, looksTL l c p i0 os = true → ∀ (i : Nat) (o : Oper), os[i]? = some o → looksT l c p (i0 + i) o = true
  | [], _, _, i, o, h => by simp at h
  | x :: os, i0, hl, i, o, h => by
    simp only [looksTL, Bool.and_eq_true] at hl
    cases i with
    | zero => simp at h; subst h; exact hl.1
    | succ i =>
      have := looksTL_get hl.2 i o (by simpa using h)
      rw [show i0 + 1 + i = i0 + (i + 1) by omega] at this
      exact this
def segB (n : Nat) (l : List Oper) (c p : Nat) : Bool := slotsB n ((l.drop c).take p) && looksTL l c p 0 ((l.drop c).take p) && ((l.drop c).take p).all fun o => noDefer o.op && noSel o.op
def barB (msk : List (List Bool)) (len d : Nat) : Bool := allT d (msk.getD d []) && (List.range len).all fun t => !Nat.blt d t || (msk.getD t []).getD d false
def stB (n : Nat) (l : List Oper) (msk : List (List Bool)) : List Nat → Nat → Bool
  | [], c => segB n l c (l.length - c)
  | p :: st, c => Nat.blt (c + p) l.length && segB n l c p && barB msk l.length (c + p) && stB n l msk st (c + p + 1)
def drawTB (n : Nat) (l : List Oper) (st : List Nat) : Bool := ordB 0 l && stB n l (closL [] l) st 0
def segLen (l : List Oper) : List Nat → Nat → Nat
  | [], c => l.length - c
  | p :: _, _ => p
def wpTail (κ : Option Nat) (P : Program) (l : List Oper) (Q : Exit → Act → World → Prop) : List Nat → Nat → Act → World → Prop
  | [], _, a, w => Q .normal a w
  | p :: st, c, a, w => wpL κ P l.toArray (Exit.then (wpT κ P l.toArray Q st (l.drop (c + p + 1))) Q) ((l.drop (c + p)).take 1) a w
theorem stB_seg {n : Nat} {l : List Oper} {msk : List (List Bool)} : ∀ {st : List Nat} {c : Nat}, stB n l msk st c = true → c ≤ l.length → segB n l c (segLen l st c) = true ∧ c + segLen l st c ≤ l.length
  | [], c, h, hc => ⟨h, by show c + (l.length - c) ≤ l.length; omega⟩
  | p :: st, c, h, _ => by
    simp only [stB, Bool.and_eq_true] at h
    exact ⟨h.1.1.2, Nat.le_of_lt (Nat.le_of_ble_eq_true h.1.1.1)⟩
theorem wpT_open {P : Program} {l : List Oper} {Q : Exit → Act → World → Prop} {w : World} : ∀ {st : List Nat} {c : Nat} {a : Act}, c ≤ l.length → wpT κ P l.toArray Q st (l.drop c) a w → wpS P l.toArray w (fun a' => wpTail κ P l Q st c a' w) ((l.drop c).take (segLen l st c)) a
  | [], c, a, hc, h => by
    have e : (l.drop c).take (segLen l [] c) = l.drop c := List.take_of_length_le (by show (l.drop c).length ≤ l.length - c; rw [List.length_drop]; exact Nat.le_refl _)
    rw [e]; exact h
  | p :: st, c, a, hc, h => by
    unfold wpT at h
    rw [List.drop_drop, List.drop_drop] at h
    exact h
structure InvT (κ : Option Nat) (P : Program) (l : List Oper) (n : Nat) (Q : Exit → Act → World → Prop) (dfs : List Deferred) (st : List Nat) (c : Nat) (a0 : Act) (vs : List Value) (L : Nat → Bool) (a : Act) (w : World) : Prop where
  stg : stB n l (closL [] l) st c = true
  cl : c ≤ l.length
  down : Down l L
  pre : ∀ j, j < c → L j = true
  out : ∀ j, c + segLen l st c ≤ j → L j = false
  size : a0.tmps.size = n
  len : vs.length = segLen l st c
  tail : wpTail κ P l Q st c (putN a0 ((l.drop c).take (segLen l st c)) vs) w
  step : ∀ i o v, ((l.drop c).take (segLen l st c))[i]? = some o → vs[i]? = some v → StepV P l.toArray w o v (putN a0 (((l.drop c).take (segLen l st c)).take i) (vs.take i))
  char : CharF (l.drop c) (segLen l st c) n a0 vs (fun j => L (c + j)) a
theorem InvT.enter {P : Program} {l : List Oper} {n : Nat} {Q : Exit → Act → World → Prop} {st : List Nat} {c : Nat} {a : Act} {L : Nat → Bool} {w : World} (hs : stB n l (closL [] l) st c = true) (hc : c ≤ l.length) (hd : Down l L) (hpre : ∀ j, j < c → L j = true) (hout : ∀ j, c ≤ j → L j = false) (hz : a.tmps.size = n) (hw : wpT κ P l.toArray Q st (l.drop c) a w) :
    ∃ vs, InvT κ P l n Q [] st c a vs L a w := by
  obtain ⟨vs, h1, h2, h3⟩ := wpS_out (wpT_open hc hw)
  have hlen := (stB_seg hs hc).2
  refine ⟨vs, hs, hc, hd, hpre, fun j hj => hout j (by omega), hz, ?_, h2, h3, ⟨hz, rfl, fun j v t _ hL => ?_, fun t _ => rfl⟩⟩
  · rw [h1, List.length_take, List.length_drop]; omega
  · have : L (c + j) = true := hL
    rw [hout (c + j) (by omega)] at this; cases this
section
variable {P : Program} {n : Nat} {D : List Deferred} {l : List Oper}
theorem put_size {a : Act} {d : Option Tmp} {v : Value} : (a.put d v).tmps.size = a.tmps.size := by
  cases d with
  | none => rfl
  | some t => show (a.tmps.setIfInBounds t v).size = _; simp
end
section
variable {β : Type} {P : Program} {ks : List Kt} {Q : Exit → Act → World → Prop} {m : Option β} {r : β} {n : Nat} {D : List Deferred} {S0 : List (Nat × Value)} {F : Fz} {hs : List HP} {l : List Oper}
theorem drawT_wp {id : Nat} (hm : P.follows .mixedOrders = true) (st0 : List Nat) (hB : drawTB n l st0 = true) {a0 : Act} {w0 : World} (hz0 : a0.tmps.size = n) (hw0 : wpT κ P l.toArray Q st0 l a0 { w0 with drawn := w0.drawn + 1 }) : (Code.region id l.toArray true).wpIn (fen κ) 0 P Q a0 w0 := by
  simp only [drawTB, Bool.and_eq_true] at hB
  obtain ⟨hord, hst⟩ := hB
  have hmask : MaskOK l (closL [] l) := closL_spec (pre := []) rfl rfl (fun t m h => by simp at h)
  refine wp_region_inv hm (fun L a w => ∃ st c a1 vs, InvT κ P l n Q [] st c a1 vs L a w) (fun i o h e he hb => by have := ordB_spec hord i o (by simpa using h) e he hb; omega) ?_ ?_ ?_
  · obtain ⟨vs, hI⟩ := InvT.enter (L := fun _ => false) hst (Nat.zero_le _) (fun i o _ h => (by cases h)) (fun j hj => absurd hj (by omega)) (fun _ _ => rfl) hz0 hw0
    exact ⟨_, _, _, _, hI⟩
  · rintro L a w i o ho hLi hdeps ⟨st, c, a1, vs, hI⟩
    have ho' : l[i]? = some o := by simpa using ho
    have hil : i < l.length := lt_of_getEl ho'
    have hci : c ≤ i := by
      rcases Nat.lt_or_ge i c with h | h
      · have := hI.pre i h; rw [hLi] at this; cases this
      · exact h
    obtain ⟨hseg, hle⟩ := stB_seg hI.stg hI.cl
    have hseq := char_seq (l := l.drop c) (k := segLen l st c) (a0 := a1) (vs := vs) hI.size (by simp only [segB, Bool.and_eq_true] at hseg; exact hseg.1.1) (by rw [List.length_drop]; omega) hI.len
    have hdnU : Down l (updB L i) := fun j oj hoj hj e he hb => by
      have : L e.on = true := by
        by_cases hji : j = i
        · subst hji; rw [ho'] at hoj; cases hoj; exact hdeps e he hb
        · exact hI.down j oj hoj (by simpa [updB, hji] using hj) e he hb
      simp only [updB]; split
      · rfl
      · exact this
    rcases Nat.lt_or_ge i (c + segLen l st c) with hi | hi
    ·
      obtain ⟨q, rfl⟩ : ∃ q, i = c + q := ⟨i - c, by omega⟩
      have hq : q < segLen l st c := by omega
      have hot : ((l.drop c).take (segLen l st c))[q]? = some o := by rw [List.getElem?_take, if_pos hq, List.getElem?_drop]; exact ho'
      have hod : (l.drop c)[q]? = some o := by rw [List.getElem?_drop]; exact ho'
      simp only [segB, Bool.and_eq_true, List.all_eq_true] at hseg
      obtain ⟨⟨hslots, hlooks⟩, hall⟩ := hseg
      obtain ⟨hnd, hns⟩ := hall o (List.mem_of_getElem? hot)
      have hlk := looksTL_get hlooks q o hot
      rw [Nat.zero_add] at hlk
      obtain ⟨v, hv⟩ : ∃ v, vs[q]? = some v := ⟨vs[q]'(by rw [hI.len]; exact hq), List.getElem?_eq_getElem _⟩
      have hst' : StepV P l.toArray w o v a := (hI.step q o _ hot hv).of_same hns fun t ht => by
        refine (hseq q (by omega)).same2 hI.char (by rw [hI.len]; exact Nat.le_refl _) fun j hj e => ?_
        have e' : dstOf l (c + j) = some t := by
          unfold dstOf at e ⊢; rw [List.getElem?_drop] at e; exact e
        have h1 := List.all_eq_true.1 (List.all_eq_true.1 hlk t ht) j (List.mem_range.2 hj)
        rw [e'] at h1
        simp only [Nat.beq_refl, Bool.not_true, Bool.false_or, Bool.or_eq_true] at h1
        rcases h1 with h1 | h1
        · simp only [List.any_eq_true, Bool.and_eq_true] at h1
          obtain ⟨e1, he', hb', hon⟩ := h1
          have hon : e1.on = c + j := Nat.eq_of_beq_eq_true hon
          have hmem' : e1 ∈ o.after := by simpa using he'
          have hL := hdeps e1 hmem' hb'
          have := ordB_spec hord (c + q) o ho' e1 hmem' hb'
          rw [hon] at hL
          show Nat.blt j q = L (c + j)
          rw [hL]
          exact Nat.ble_eq_true_of_le (show j + 1 ≤ q by omega)
        · simp only [Bool.and_eq_true] at h1
          obtain ⟨hij, h2⟩ := h1
          have hij : q < j := Nat.le_of_ble_eq_true hij
          have h3 : Nat.blt j q = false := by
            cases hb : Nat.blt j q with
            | false => rfl
            | true => have := Nat.le_of_ble_eq_true hb; omega
          show Nat.blt j q = L (c + j)
          rw [h3]
          cases hLj : L (c + j) with
          | false => rfl
          | true =>
            exfalso
            cases hoj : l[c + j]? with
            | none => rw [hoj] at h2; cases h2
            | some oj =>
              rw [hoj] at h2
              simp only [List.any_eq_true, Bool.and_eq_true] at h2
              obtain ⟨e1, he', hb', hon⟩ := h2
              have := hI.down (c + j) oj hoj hLj e1 (by simpa using he') hb'
              rw [Nat.eq_of_beq_eq_true hon, hLi] at this
              cases this
      have hnext : ∃ st2 c2 a2 vs2, InvT κ P l n Q [] st2 c2 a2 vs2 (updB L (c + q)) (a.put o.dst v) w := by
        refine ⟨st, c, a1, vs, hI.stg, hI.cl, hdnU, fun j hj => ?_, fun j hj => ?_, hI.size, hI.len, hI.tail, hI.step, ?_⟩
        · simp only [updB]; rw [if_neg (by omega)]; exact hI.pre j hj
        · simp only [updB]; rw [if_neg (by omega)]; exact hI.out j hj
        · have := hI.char.put hslots hq hod hv
          have e : (fun j => updB L (c + q) (c + j)) = updB (fun j => L (c + j)) q := by
            funext j
            simp only [updB]
            by_cases hj : j = q
            · subst hj; simp
            · rw [if_neg hj, if_neg (by omega)]
          rw [e]; exact this
      rcases hst' with ⟨h1, h2⟩ | ⟨h1, h2⟩
      · rw [if_pos h1]
        refine ⟨.inr hnd, ?_⟩
        rw [h2]; exact hnext
      · rw [if_neg (by simp [h1]), ← h2]; exact hnext
    ·
      cases st with
      | nil => exact absurd hil (by have : segLen l [] c = l.length - c := rfl; omega)
      | cons p st' =>
        have hsl : segLen l (p :: st') c = p := rfl
        rw [hsl] at hi hseq hle
        have hstg := hI.stg
        simp only [stB, barB, Bool.and_eq_true, List.all_eq_true] at hstg
        obtain ⟨⟨⟨hlt, _⟩, hbar1, hbar2⟩, hst'⟩ := hstg
        have hlt : c + p < l.length := Nat.le_of_ble_eq_true hlt
        have hdep : ∀ (t j : Nat) (m : List Bool), (closL [] l)[t]? = some m → m.getD j false = true → ∃ s, depB l s t j = true := fun t j m h1 h2 => hmask t m h1 j h2
        have hget : ∀ t, t < l.length → (closL [] l)[t]? = some ((closL [] l).getD t []) := fun t ht => by
          rw [List.getD_eq_getElem?_getD]
          cases h : (closL [] l)[t]? with
          | some m => rfl
          | none =>
            exfalso
            have : (closL [] l).length = l.length := by
              have gen : ∀ (os : List Oper) (d : List (List Bool)), (closL d os).length = d.length + os.length := by
                intro os
                induction os with
                | nil => intro d; simp [closL]
                | cons o os ih => intro d; rw [closL, ih]; simp; omega
              simpa using gen l []
            rw [List.getElem?_eq_none_iff] at h
            omega
        have hip : i = c + p := by
          rcases Nat.lt_or_ge (c + p) i with h | h
          · exfalso
            have h1 := hbar2 i (List.mem_range.2 hil)
            rw [show Nat.blt (c + p) i = true from Nat.ble_eq_true_of_le h] at h1
            simp only [Bool.not_true, Bool.false_or] at h1
            obtain ⟨s, hs⟩ := hdep i (c + p) _ (hget i hil) h1
            have := dep_true hI.down hs fun o' ho'' e he hb => by rw [ho'] at ho''; cases ho''; exact hdeps e he hb
            rw [hI.out (c + p) (by rw [hsl]; exact Nat.le_refl _)] at this
            cases this
          · omega
        subst hip
        have hallL : ∀ j, j < c + p → L j = true := fun j hj => by
          obtain ⟨s, hs⟩ := hdep (c + p) j _ (hget _ hil) (allT_get hbar1 hj)
          exact dep_true hI.down hs fun o' ho'' e he hb => by rw [ho'] at ho''; cases ho''; exact hdeps e he hb
        have hch := hI.char
        rw [hsl] at hch
        have hLk : (fun j => L (c + j)) = fun j => Nat.blt j p := by
          funext j
          rcases Nat.lt_or_ge j p with h | h
          · rw [hallL (c + j) (by omega)]; exact (Nat.ble_eq_true_of_le h).symm
          · rw [hI.out (c + j) (by rw [hsl]; omega)]
            cases hb : Nat.blt j p with
            | false => rfl
            | true => have := Nat.le_of_ble_eq_true hb; omega
        have hlen := hI.len
        rw [hsl] at hlen
        have h2 := hseq p (Nat.le_refl _)
        rw [List.take_of_length_le (show ((l.drop c).take p).length ≤ p by simp; omega), List.take_of_length_le (show vs.length ≤ p by omega)] at h2
        rw [hLk] at hch
        have hae := hch.eq h2 (by omega) fun j hj => Nat.ble_eq_true_of_le hj
        have htail := hI.tail
        rw [hsl, ← hae] at htail
        have hdrop : (l.drop (c + p)).take 1 = [o] := by
          have hg : l[c + p]'hil = o := by simpa [hil] using ho'
          rw [← hg, List.drop_eq_getElem_cons hil]; rfl
        change wpL κ P l.toArray (Exit.then (wpT κ P l.toArray Q st' (l.drop (c + p + 1))) Q) ((l.drop (c + p)).take 1) a w at htail
        rw [hdrop] at htail
        have hnext : ∀ a' w', a'.tmps.size = n → wpT κ P l.toArray Q st' (l.drop (c + p + 1)) a' w' → ∃ st2 c2 a2 vs2, InvT κ P l n Q [] st2 c2 a2 vs2 (updB L (c + p)) a' w' := fun a' w' hz h => by
          obtain ⟨vs', hI'⟩ := InvT.enter (L := updB L (c + p)) hst' (by omega) hdnU (fun j hj => by
            simp only [updB]
            by_cases hj' : j = c + p
            · rw [if_pos hj']
            · rw [if_neg hj']; exact hallL j (by omega)) (fun j hj => by
            simp only [updB]; rw [if_neg (by omega)]; exact hI.out j (by rw [hsl]; omega)) hz h
          exact ⟨_, _, _, _, hI'⟩
        unfold wpL at htail
        split
        · rename_i hwn
          rw [if_pos hwn] at htail
          refine opW_put (fun u w' h => hnext _ w' (by rw [put_size, hch.size]) h) (fun d w' h => hnext _ w' ?_ h) (fun e a w he hq => by cases e <;> first | exact absurd rfl he | exact hq) htail
          rw [put_size]; exact hch.size
        · rename_i hwn
          rw [if_neg hwn] at htail
          exact hnext _ _ (by rw [put_size, hch.size]) htail
  · rintro L a w hallL ⟨st, c, a1, vs, hI⟩
    obtain ⟨hseg, hle⟩ := stB_seg hI.stg hI.cl
    cases st with
    | cons p st' =>
      exfalso
      have hstg := hI.stg
      simp only [stB, Bool.and_eq_true] at hstg
      have hlt : c + p < l.length := Nat.le_of_ble_eq_true hstg.1.1.1
      have := hallL (c + p) (by simpa using hlt)
      rw [hI.out (c + p) (Nat.le_refl _)] at this
      cases this
    | nil =>
      have hseq := char_seq (l := l.drop c) (k := segLen l [] c) (a0 := a1) (vs := vs) hI.size (by simp only [segB, Bool.and_eq_true] at hseg; exact hseg.1.1) (by rw [List.length_drop]; exact Nat.le_refl _) hI.len
      have hsl : segLen l [] c = l.length - c := rfl
      have h2 := hseq (segLen l [] c) (Nat.le_refl _)
      rw [List.take_of_length_le (show ((l.drop c).take (segLen l [] c)).length ≤ segLen l [] c by simp; omega), List.take_of_length_le (show vs.length ≤ segLen l [] c by rw [hI.len]; exact Nat.le_refl _)] at h2
      have hLk : CharF (l.drop c) (segLen l [] c) n a1 vs (fun j => Nat.blt j (segLen l [] c)) a := by
        refine ⟨hI.char.size, hI.char.defs, fun j v t hj _ hd hv => hI.char.got j v t hj (hallL _ (by simp; omega)) hd hv, fun t ht => hI.char.old t fun j hj _ => ht j hj (Nat.ble_eq_true_of_le hj)⟩
      have hae := hLk.eq h2 (by rw [hI.len]; exact Nat.le_refl _) fun j hj => Nat.ble_eq_true_of_le hj
      have htail := hI.tail
      rw [← hae] at htail
      exact htail
theorem GC.drawT {id p : Nat} {st : List Nat} (hm : P.follows .mixedOrders = true) (hB : drawTB n l (p :: st) = true)
    (walk : GS P l.toArray (l.take p) (wpL κ P l.toArray (Exit.then (wpT κ P l.toArray (interp κ P ks Q) st (l.drop (p + 1))) (interp κ P ks Q)) ((l.drop p).take 1)) (Hd n D S0 F hs) m r) : GC κ P (.region id l.toArray true) ks Q (Hd n D S0 F hs) m r := by
  intro hmr a0 w ha
  exact drawT_wp hm (p :: st) hB ha.1.1 (walk hmr a0 { w with drawn := w.drawn + 1 } ⟨ha.1, ha.2.drew _⟩)
end
section
variable {β : Type} {P : Program} {ops : Array Oper} {l tl : List Oper} {ks : List Kt} {Q : Exit → Act → World → Prop} {A : Act → World → Prop} {K : Exit → Act → World → Prop} {m : Option β} {r : β}
theorem GS.pendT (h : GL κ P ops tl [] K A m r) : GS P ops [] (wpL κ P ops K tl) A m r := fun hm a w ha => h hm a w ha
theorem GS.endT (h : GE κ P ks Q A m r) : GS P ops [] (interp κ P ks Q .normal) A m r := fun hm a w ha => h hm a w ha
theorem GE.stageZ (h : GS P ops l (K .normal) A m r) : GE κ P [] (Exit.then (wpT κ P ops K [] l) K) A m r := fun hm a w ha => h hm a w ha
end
end
end Go.Dec
end

section
namespace Go.Dec
def bs (l : List UInt8) : ByteArray := ⟨l.toArray⟩
theorem bs_size {l : List UInt8} : (bs l).size = l.length := rfl
theorem bs_append {a b : List UInt8} : bs a ++ bs b = bs (a ++ b) := by
  apply ByteArray.ext
  show (bs a ++ bs b).data = (a ++ b).toArray
  rw [ByteArray.data_append]
  simp [bs]
theorem bs_toList {l : List UInt8} : (bs l).toList = l := ByteArray.toList_mk l
theorem bs_get {l : List UInt8} {i : Nat} : (bs l)[i]? = l[i]? := by
  by_cases h : i < l.length
  · have h' : i < (bs l).size := h
    rw [getElem?_pos (bs l) i h', getElem?_pos l i h]
    rfl
  · have h' : ¬ i < (bs l).size := h
    rw [getElem?_neg (bs l) i h', getElem?_neg l i h]
def u8s (l : List Int) : List UInt8 := l.map fun x => UInt8.ofNat x.toNat
def encS (n : Int) : List UInt8 := (Utf8.encode n).data.toList
def cStr (s : List UInt8) : List Value := [.string (bs s)]
section
variable {κ : Option Nat}
section
variable {P : Program} {a : Act} {S : List (Nat × Value)} {n : Nat} {D : List Deferred} {d : Nat} {ty t t' : TypeId} {pos : String} {after : Array Edge} {ox oy oz : Operand} {kd kd' : IntKind} {x y : Int} {s u : List UInt8} {w : World}
theorem run_catS (h : Sl n D S a) (hx : evalS S ox = some (.string (bs s))) (hy : evalS S oy = some (.string (bs u))) (hl : s.length + u.length ≤ 4294967296) :
    (execOp a.eval ⟨some d, .binOp .add t ox oy t', ty, pos, after, none⟩).run P w = .ok (.value (.string (bs (s ++ u)))) w := by
  simp [execOp, h.eval hx, h.eval hy, eqGuard, binOp, Op.stringOp, bs_append]
  rw [bs_size, bs_size]
  omega
theorem run_eqS (h : Sl n D S a) (ht : P.underlying t = some .string) (hx : evalS S ox = some (.string (bs s))) (hy : evalS S oy = some (.string (bs u))) :
    (execOp a.eval ⟨some d, .binOp .eql t ox oy t', ty, pos, after, none⟩).run P w = .ok (.value (.bool (s == u))) w := by
  simp [execOp, h.eval hx, h.eval hy, eqGuard, binOp, Op.stringOp, bs_toList]
theorem run_neS (h : Sl n D S a) (ht : P.underlying t = some .string) (hx : evalS S ox = some (.string (bs s))) (hy : evalS S oy = some (.string (bs u))) :
    (execOp a.eval ⟨some d, .binOp .neq t ox oy t', ty, pos, after, none⟩).run P w = .ok (.value (.bool (!(s == u)))) w := by
  simp [execOp, h.eval hx, h.eval hy, eqGuard, binOp, Op.stringOp, bs_toList]
theorem run_idxS (h : Sl n D S a) (ht : P.underlying t = some .string) (hx : evalS S ox = some (.string (bs s))) (hy : evalS S oy = some (.int kd x)) {c : UInt8} (hc : idxL s x = some c) :
    (execOp a.eval ⟨some d, .index t ox oy, ty, pos, after, none⟩).run P w = .ok (.value (.int .u8 c.toNat)) w := by
  obtain ⟨h0, _, h2⟩ := idxL_some hc
  simp [execOp, h.eval hx, h.eval hy, Instr.index, asIntOf, rUnd ht, h0, bs_get, h2]
theorem run_encS (h : Sl n D S a) (h1 : P.underlying t = some (.int kd)) (h2 : P.underlying t' = some .string) (hx : evalS S ox = some (.int kd x)) :
    (execOp a.eval ⟨some d, .convert t t' ox, ty, pos, after, none⟩).run P w = .ok (.value (.string (bs (encS x)))) w := by
  have e : bs (encS x) = Utf8.encode x := rfl
  simp [execOp, h.eval hx, convert, rUnd h1, rUnd h2, Conv.intToString, e]
end
section
variable {β : Type} {P : Program} {ops : Array Oper} {rest : List Oper} {ks : List Kt} {Q : Exit → Act → World → Prop} {m : Option β} {r : β}
variable {n : Nat} {D : List Deferred} {S : List (Nat × Value)} {F : Fz} {hs : List HP} {d : Nat} {ty t t' : TypeId} {pos : String} {after : Array Edge} {ox oy oz : Operand} {kd kd' : IntKind} {x y : Int} {s u : List UInt8}
theorem GL.eqlS (hd : Nat.blt d n = true) (ht : P.underlying t = some .string) (hx : evalS S ox = some (.string (bs s))) (hy : evalS S oy = some (.string (bs u))) (k : GL κ P ops rest ks Q (Hd n D ((d, .bool (s == u)) :: S) F hs) m r) :
    GL κ P ops (⟨some d, .binOp .eql t ox oy t', ty, pos, after, none⟩ :: rest) ks Q (Hd n D S F hs) m r :=
  GL.val hd (fun a w ha => run_eqS ha.1 ht hx hy) k
theorem GL.neqS (hd : Nat.blt d n = true) (ht : P.underlying t = some .string) (hx : evalS S ox = some (.string (bs s))) (hy : evalS S oy = some (.string (bs u))) (k : GL κ P ops rest ks Q (Hd n D ((d, .bool (!(s == u))) :: S) F hs) m r) :
    GL κ P ops (⟨some d, .binOp .neq t ox oy t', ty, pos, after, none⟩ :: rest) ks Q (Hd n D S F hs) m r :=
  GL.val hd (fun a w ha => run_neS ha.1 ht hx hy) k
theorem GL.idxStr {f : UInt8 → Option β} (hd : Nat.blt d n = true) (ht : P.underlying t = some .string) (hx : evalS S ox = some (.string (bs s))) (hy : evalS S oy = some (.int kd x)) (k : ∀ c, idxL s x = some c → GL κ P ops rest ks Q (Hd n D ((d, .int .u8 (c.toNat : Int)) :: S) F hs) (f c) r) :
    GL κ P ops (⟨some d, .index t ox oy, ty, pos, after, none⟩ :: rest) ks Q (Hd n D S F hs) ((idxL s x).bind f) r :=
  GL.bind fun c hc => GL.val hd (fun a w ha => run_idxS ha.1 ht hx hy hc) (k c hc)
end
section
variable {β : Type} {P : Program} {ops : Array Oper} {rest : List Oper} {E : Act → World → Prop} {m : Option β} {r : β}
variable {n : Nat} {D : List Deferred} {S : List (Nat × Value)} {F : Fz} {hs : List HP} {d : Nat} {ty t t' : TypeId} {pos : String} {after : Array Edge} {ox oy oz : Operand} {kd kd' : IntKind} {x y : Int} {s u : List UInt8}
theorem GS.eqlS (hd : Nat.blt d n = true) (ht : P.underlying t = some .string) (hx : evalS S ox = some (.string (bs s))) (hy : evalS S oy = some (.string (bs u))) (k : GS P ops rest E (Hd n D ((d, .bool (s == u)) :: S) F hs) m r) :
    GS P ops (⟨some d, .binOp .eql t ox oy t', ty, pos, after, none⟩ :: rest) E (Hd n D S F hs) m r :=
  GS.val hd (fun a w ha => run_eqS ha.1 ht hx hy) k
theorem GS.encStr (hd : Nat.blt d n = true) (h1 : P.underlying t = some (.int kd)) (h2 : P.underlying t' = some .string) (hx : evalS S ox = some (.int kd x)) (k : GS P ops rest E (Hd n D ((d, .string (bs (encS x))) :: S) F hs) m r) :
    GS P ops (⟨some d, .convert t t' ox, ty, pos, after, none⟩ :: rest) E (Hd n D S F hs) m r :=
  GS.val hd (fun a w ha => run_encS ha.1 h1 h2 hx) k
end
end
end Go.Dec
end

section
namespace Go.Dec
theorem bytes_core {P : Program} {w : World} {src dst e b o cap : Nat} {T : TypeId} {fr : Nat × Nat} {cs : List Value} {l : List Int} (hs : P.underlying src = some (.slice e)) (he : P.underlying e = some (.int .u8)) (hd : P.underlying dst = some .string)
    (hb : w.heap[b]? = some (.cells cs.toArray T fr)) (hp : ∀ (i : Nat) (x : Int), l[i]? = some x → (cs.drop (o + i * 1)).take 1 = [.int .u8 x]) :
    (convert src dst (.slice (some ⟨b, o, none⟩) l.length cap)).run P w = .ok (.string (bs (u8s l))) w := by
  have h := run_convert_bytes_arg (P := P) w src e hs he b o l.length cap l rfl (fun i hi => by
    have hx : l[i]? = some l[i] := List.getElem?_eq_getElem hi
    have h1 := hp i _ hx
    rw [cell_of_heap hb]
    rw [Nat.mul_one] at h1
    have h2 : ((cs.drop (o + i)).take 1)[0]? = some (.int .u8 l[i]) := by rw [h1]; rfl
    rw [List.getElem?_take, if_pos (by decide), List.getElem?_drop] at h2
    rw [Nat.add_zero] at h2
    rw [h2, List.getD_eq_getElem?_getD, hx]
    rfl) dst hd
  exact h
theorem bytes_zero {P : Program} (w : World) {src dst e : Nat} (hs : P.underlying src = some (.slice e)) (he : P.underlying e = some (.int .u8)) (hd : P.underlying dst = some .string) (p : Option Addr) (c : Nat) :
    (convert src dst (.slice p 0 c)).run P w = .ok (.string (bs [])) w := by
  cases p with
  | none => exact run_convert_bytes_nil w src e hs he 0 c dst hd
  | some a =>
    rw [run_convert_bytes_string w src dst e _ 0 c hs he hd, run_bytesToString w a 0 c [] (by simp [loadCells]; rfl)]
    rfl
theorem bytes_frozen {P : Program} {w : World} {F : Fz} {H : HP} {src dst e cap : Nat} {p : Option Addr} {l : List Int} (h : SH w F H) (hr : RepSl 1 (Ex (cInt .u8)) F p cap l) (hs : P.underlying src = some (.slice e)) (he : P.underlying e = some (.int .u8)) (hd : P.underlying dst = some .string) :
    (convert src dst (.slice p l.length cap)).run P w = .ok (.string (bs (u8s l))) w := by
  obtain ⟨_, _, h3⟩ := hr
  rcases h3 with rfl | ⟨b, o, cs, T, fr, rfl, hb, hp⟩
  · exact bytes_zero w hs he hd p cap
  · exact bytes_core (cs := cs.toList) hs he hd (by simpa using h.frozen hb) fun i x hx => hp i x hx F (Fz.le_refl F)
section
variable {κ : Option Nat}
section
variable {β : Type} {P : Program} {ops : Array Oper} {rest : List Oper} {ks : List Kt} {Q : Exit → Act → World → Prop} {m : Option β} {r : β}
variable {n : Nat} {D : List Deferred} {S : List (Nat × Value)} {F F0 : Fz} {hs : List HP} {d e cap T : Nat} {p : Option Addr} {l : List Int} {ty t t' : TypeId} {pos : String} {after : Array Edge} {ox oy oz : Operand} {kd kd' : IntKind} {x y : Int} {s u : List UInt8}
theorem GL.bytesStr (hd : Nat.blt d n = true) (h1 : P.underlying t = some (.slice e)) (h2 : P.underlying e = some (.int .u8)) (h3 : P.underlying t' = some .string) (hr : RepSl 1 (Ex (cInt .u8)) F p cap l) (hx : evalS S ox = some (.slice p l.length cap)) (k : GL κ P ops rest ks Q (Hd n D ((d, .string (bs (u8s l))) :: S) F hs) m r) :
    GL κ P ops (⟨some d, .convert t t' ox, ty, pos, after, none⟩ :: rest) ks Q (Hd n D S F hs) m r :=
  GL.val hd (fun a w ha => by simp [execOp, ha.1.eval hx, bytes_frozen ha.2 hr h1 h2 h3]) k
theorem GL.catSK {z : List UInt8} (hz : appO s u = some z) (hd : Nat.blt d n = true) (hx : evalS S ox = some (.string (bs s))) (hy : evalS S oy = some (.string (bs u))) (k : GL κ P ops rest ks Q (Hd n D ((d, .string (bs z)) :: S) F hs) m r) :
    GL κ P ops (⟨some d, .binOp .add t ox oy t', ty, pos, after, none⟩ :: rest) ks Q (Hd n D S F hs) m r := by
  unfold appO at hz
  split at hz
  · rename_i h
    simp only [Option.some.injEq] at hz
    subst hz
    exact GL.val hd (fun a w ha => run_catS ha.1 hx hy h) k
  · cases hz
def i8s (s : List UInt8) : List Int := s.map fun c => (c.toNat : Int)
end
end
end Go.Dec
end

section
namespace Go.Dec
open Go.RowKit
variable {κ : Option Nat}
structure BelM (B : Nat) (F : Fz) (R : HP) (m : Mem) : Prop where
  own : R m
  lt : ∀ b c, m (.blk b) = some c → b < B
  top : B = 0 ∨ (∃ c, m (.blk (B - 1)) = some c) ∨ ∃ o, F.mem (B - 1) = some o
def FB (F : Fz) (B : Nat) : Prop := ∀ b o, F.mem b = some o → b < B
theorem SH.bel {w : World} {F : Fz} {R : HP} (h : SH w F R) : ∃ B, FB F B ∧ SH w F (BelM B F R) := by
  obtain ⟨m, hR, k⟩ := h
  have main : ∀ n, (∀ b c, m (.blk b) = some c → b < n) → FB F n → ∃ B, FB F B ∧ BelM B F R m := by
    intro n
    induction n with
    | zero => exact fun h1 h2 => ⟨0, h2, hR, h1, .inl rfl⟩
    | succ n ih =>
      intro h1 h2
      by_cases ht : (∃ c, m (.blk n) = some c) ∨ ∃ o, F.mem n = some o
      · exact ⟨n + 1, h2, hR, h1, .inr ht⟩
      · refine ih (fun b c e => ?_) (fun b o e => ?_)
        · have := h1 b c e
          have hne : b ≠ n := fun e' => ht (.inl ⟨c, e' ▸ e⟩)
          omega
        · have := h2 b o e
          have hne : b ≠ n := fun e' => ht (.inr ⟨o, e' ▸ e⟩)
          omega
  obtain ⟨B, h1, h2⟩ := main w.heap.size (fun b c e => by obtain ⟨o, _, h⟩ := k.own b c e; exact lt_of_heap h) (fun b o e => lt_of_heap (k.frz b o e))
  exact ⟨B, h1, m, h2, k⟩
theorem SH.belSize {w : World} {F : Fz} {B : Nat} {R : HP} (h : SH w F (BelM B F R)) : B ≤ w.heap.size := by
  obtain ⟨m, hm, k⟩ := h
  rcases hm.top with h0 | ⟨c, hc⟩ | ⟨o, ho⟩
  · omega
  · obtain ⟨o, _, h⟩ := k.own _ _ hc; have := lt_of_heap h; omega
  · have := lt_of_heap (k.frz _ _ ho); omega
theorem SH.belowB {w w' : World} {F : Fz} {B : Nat} {R : HP} (hF : FB F B) (h : SH w F (BelM B F R)) (hb : Below B w w') : SH w' F (BelM B F R) := by
  obtain ⟨m, hm, k⟩ := h
  refine ⟨m, hm, k.dj, fun b c e => ?_, k.gst, fun b o e => ?_, hb.os.trans k.os, hb.tape.trans k.tape, hb.output.trans k.out⟩
  · obtain ⟨o, e1, e2⟩ := k.own b c e
    exact ⟨o, e1, (hb.block b (hm.lt b c e)).trans e2⟩
  · exact (hb.block b (hF b o e)).trans (k.frz b o e)
def bufV (B T : Nat) (v : Value) (l : List Int) : HP := fun m => (v = .slice none 0 0 ∧ l = []) ∨ ∃ g cap cur, v = .slice (some ⟨g, 0, none⟩) l.length cap ∧ B ≤ g ∧ pt g (.cells cur T (0, 0)) m ∧ l.length ≤ cap ∧ cap ≤ maxLen ∧ cur.size = cap * 1 ∧ cur.toList.take (l.length * 1) = l.map (Value.int .u8)
theorem bufV_nil {B T : Nat} {m : Mem} : bufV B T (.slice none 0 0) [] m := .inl ⟨rfl, rfl⟩
theorem SH.bufOut {w : World} {F : Fz} {B T : Nat} {v : Value} {l : List Int} {H : HP} (h : SH w F (star (bufV B T v l) H)) : w.ownsRow B T 1 v l.length (l.map (Value.int .u8)) := by
  obtain ⟨m, ⟨m1, m2, d, s1, s2, hp, hq⟩, k⟩ := h
  rcases hp with ⟨rfl, rfl⟩ | ⟨g, cap, cur, rfl, hB, hg, h1, h2, h3, h4⟩
  · exact World.ownsRow_nil _ _ _ _
  · exact ⟨by simp, .inr ⟨g, cap, cur, rfl, hB, k.ownO (s1 _ _ hg), h1, h2, h3, h4⟩⟩
theorem SH.bufIn {w w' : World} {F : Fz} {B T : Nat} {v : Value} {l : List Int} {R : HP} (hF : FB F B) (h : SH w F (BelM B F R)) (hb : Below B w w') (ho : w'.ownsRow B T 1 v l.length (l.map (Value.int .u8))) : SH w' F (stars [bufV B T v l, BelM B F R]) := by
  obtain ⟨m, hm, k⟩ := SH.belowB hF h hb
  rcases ho.2 with ⟨hv, h0⟩ | ⟨g, cap, cur, hv, hB, hg, h1, h2, h3, h4⟩
  · refine SH.two ⟨m, ⟨fun _ => none, m, fun _ => .inl rfl, fun _ _ e => by simp at e, Mem.sub.refl _, .inl ⟨hv, List.eq_nil_of_length_eq_zero h0⟩, hm⟩, k⟩
  · have hmg : m (.blk g) = none := by
      cases e : m (.blk g) with
      | none => rfl
      | some c => have := hm.lt g c e; omega
    refine SH.two ⟨m.set (.blk g) (.obj (.cells cur T (0, 0))), ⟨Mem.set (fun _ => none) (.blk g) (.obj (.cells cur T (0, 0))), m, ?_, ?_, ?_, .inr ⟨g, cap, cur, hv, hB, by simp [pt, Mem.set], h1, h2, h3, h4⟩, hm⟩, ?_⟩
    · intro b; by_cases e : b = .blk g
      · subst e; exact .inr hmg
      · exact .inl (by simp [Mem.set, e])
    · intro b x e
      by_cases e' : b = .blk g
      · simpa [Mem.set, e'] using e
      · simp [Mem.set, e'] at e
    · intro b x e
      by_cases e' : b = .blk g
      · subst e'; rw [hmg] at e; cases e
      · simpa [Mem.set, e'] using e
    · refine ⟨?_, ?_, ?_, k.frz, k.os, k.tape, k.out⟩
      · intro b; by_cases e : b = g
        · subst e
          right
          cases hf : F.mem b with
          | none => rfl
          | some o => have := hF b o hf; omega
        · rcases k.dj b with h | h
          · exact .inl (by simpa [Mem.set, e] using h)
          · exact .inr h
      · intro b x e
        by_cases e' : b = g
        · subst e'; simp [Mem.set] at e; subst e; exact ⟨_, rfl, hg⟩
        · simp [Mem.set, e'] at e; exact k.own b x e
      · intro γ c e; exact k.gst γ c (by simpa [Mem.set] using e)
def pow10Cells : Array Value := (Go.Lib.pow10Tab.map fun z => Value.int .u64 z).toArray
def FTab (P : Program) (F : Fz) (name : String) (cs : Array Value) : Prop := ∃ g T fr, P.globalNamed name = some g ∧ F.mem g = some (.cells cs T fr)
theorem FTab.mono {P : Program} {F F' : Fz} {name : String} {cs : Array Value} (h : FTab P F name cs) (le : F ≤ F') : FTab P F' name cs :=
  let ⟨g, T, fr, h1, h2⟩ := h; ⟨g, T, fr, h1, le.mem _ _ h2⟩
def AppIntC (P : Program) (f T : Nat) : Prop := ∀ (B n : Nat) (i : Int), -9223372036854775808 ≤ i → i ≤ 9223372036854775807 → ∀ (sv : Value) (xs : List Value) (w : World), w.ownsRow B T 1 sv n xs → B ≤ w.heap.size → n + 21 ≤ 140737488355328 →
  Go.Lib.TabBelow P B w "internal/strconv.uint64pow10" .u64 Go.Lib.pow10Tab → Calls P f #[sv, .int .i64 i, .int .i64 10] w fun e w' => ∃ v', e = .returned v' ∧ w'.ownsRow B T 1 v' (n + (Go.Lib.itoa i).length) (xs ++ Go.Lib.byteCells (Go.Lib.itoa i)) ∧ Below B w w'
def itoaI (n : Int) : List Int := (Go.Lib.itoa n).map fun b => (b.toNat : Int)
theorem itoaI_cells (n : Int) : (itoaI n).map (Value.int .u8) = Go.Lib.byteCells (Go.Lib.itoa n) := by simp [itoaI, Go.Lib.byteCells]
theorem itoaI_len (n : Int) : (itoaI n).length = (Go.Lib.itoa n).length := by simp [itoaI]
section
variable {β : Type} {P : Program} {ops : Array Oper} {rest : List Oper} {ks : List Kt} {Q : Exit → Act → World → Prop} {m : Option β} {r : β}
variable {n : Nat} {D : List Deferred} {S : List (Nat × Value)} {F : Fz} {hs : List HP}
variable {d : Nat} {ty t e : TypeId} {pos : String} {after : Array Edge} {ox oy oz : Operand} {v : Value} {kd : IntKind} {x : Int}
theorem GL.sliceNew {len sz : Nat} {z : Value} {cs zc : List Value} {parts : List (Nat × Operand)} {ps : List (Nat × Value)} (hd : Nat.blt d n = true) (ht : P.underlying t = some (.slice e)) (hz : ∀ w, (sizeOf e).run P w = .ok sz w) (hzero : ∀ w, (zeroValue e).run P w = .ok z w) (h0 : Nat.blt 0 (len * sz) = true) (hbig : Nat.ble (len * sz) 16777216 = true)
    (hx : evalP S parts = some ps) (hzc : (Array.range (len * sz)).map (fun i => z.cells[i % z.cells.size]!) = zc.toArray) (hfill : Instr.fill (fun i => some (i * sz, sz)) zc.toArray ps = some cs.toArray)
    (k : ∀ b, GL κ P ops rest ks Q (Hd n D ((d, .slice (some ⟨b, 0, none⟩) len len) :: S) F (pt b (.cells cs.toArray e) :: hs)) m r) :
    GL κ P ops (⟨some d, .buildSlice t len parts.toArray, ty, pos, after, none⟩ :: rest) ks Q (Hd n D S F hs) m r :=
  GL.step rfl (.inr rfl) fun hm a w ha => by
    have hb1 : 0 < len * sz := Nat.le_of_ble_eq_true h0
    have hb2 := Nat.le_of_ble_eq_true hbig
    have h1 := ha.2.alloc (.cells cs.toArray e)
    refine ⟨.slice (some ⟨w.heap.size, 0, none⟩) len len, w.alloc (.cells cs.toArray e), ?_, k w.heap.size hm _ _ ⟨ha.1.put hd _, h1⟩⟩
    have hm' := evalP_map ha.1 hx
    have hne : ¬ len * sz = 0 := by omega
    have hgt : ¬ len * sz > 16777216 := by omega
    simp only [execOp, Instr.buildSlice, Sem.run_bind, rUnd ht, hz, Result.andThen, List.map_toArray, hm']
    simp only [Nat.reducePow, hgt, hne, if_false, Sem.run_pure, Result.andThen, Sem.run_bind, hzero, hzc, hfill, newRow, run_newObj, World.alloc_eq]
variable {B T : Nat} {R : HP} {l : List Int}
theorem GL.appB {b ot : Nat} (hF : FB F B) (hd : Nat.blt d n = true) (ht : P.underlying t = some (.slice T)) (hinfo : (P.info? T).map (fun i => (i.zero, i.size, i.bytes)) = some (some (.int .u8 0), 1, 1)) (hlim : l.length + 1 ≤ 4294967296)
    (hx : evalS S ox = some v) (hy : evalS S oy = some (.slice (some ⟨b, 0, none⟩) 1 1))
    (k : ∀ v', GL κ P ops rest ks Q (Hd n D ((d, v') :: S) F [bufV B T v' (l ++ [x]), BelM B F R]) m r) (_ho : ot = T := by rfl) :
    GL κ P ops (⟨some d, .call ⟨.builtin .append, #[ox, oy], #[t, t]⟩, ty, pos, after, none⟩ :: rest) ks Q (Hd n D S F [pt b (.cells [Value.int .u8 x].toArray T), bufV B T v l, BelM B F R]) m r := by
  obtain ⟨i, hi, hz0, hz1, hz2⟩ := info_parts hinfo
  refine GL.step rfl (.inr rfl) fun hm a w ha => ?_
  have hbel := ha.2.only (k := 2) rfl
  have hsz := hbel.belSize
  have hown := SH.bufOut (ha.2.pull (k := 1) rfl)
  have hb := ha.2.ownedAt (k := 0) rfl
  obtain ⟨v', w', hrun, hown', hg, _⟩ := run_append_own (P := P) (w := w) B t ty T i (.int .u8 0) 1 1 ht hi hz0 hz1 hz2 rfl (by decide) v l.length _ hown ⟨b, 0, none⟩ 1 1 [Value.int .u8 x] rfl
    (by intro j u hj; match j, hj with | 0, hj => simp at hj; subst hj; simp [Addr.add, World.cell?, hb]) (by intro u hu; simp at hu; subst hu; rfl) (by unfold maxLen; omega) (by omega) hsz
  have hbw : Below B w w' := ⟨hg.os, hg.tape, hg.output, hg.size, fun k hk => hg.block k (by omega) fun e => by have := (hown.lt k e.symm).1; omega⟩
  refine ⟨v', w', ?_, k v' hm _ _ ⟨ha.1.put hd _, SH.bufIn hF hbel hbw ?_⟩⟩
  · simp [execOp, resolve, invoke, builtin, ha.1.eval hx, ha.1.eval hy, hrun]
  · simpa using hown'
theorem GL.appIntB {f : FuncId} {Ty : Array TypeId} {of : Operand} (hC : AppIntC P f T) (hF : FB F B) (hT : FTab P F "internal/strconv.uint64pow10" pow10Cells) (hd : Nat.blt d n = true) (hcall : ∀ args w, (callFunc f args).run P w = .ok (.enter f args) w) (hf : evalS S of = some (.func (.func f) #[] #[])) (h0 : -9223372036854775808 ≤ x) (h1 : x ≤ 9223372036854775807) (hlim : l.length ≤ 4294967296)
    (ha : evalL S [ox, oy, oz] = some [v, .int .i64 x, .int .i64 10])
    (k : ∀ v', GL κ P ops rest ks Q (Hd n D ((d, v') :: S) F [bufV B T v' (l ++ itoaI x), BelM B F R]) m r) :
    GL κ P ops (⟨some d, .call ⟨.value of, #[ox, oy, oz], Ty⟩, ty, pos, after, none⟩ :: rest) ks Q (Hd n D S F [bufV B T v l, BelM B F R]) m r :=
  GL.callG rfl (.inr rfl) fun hm a w hA => by
    have hbel := hA.2.only (k := 1) rfl
    have hsz := hbel.belSize
    have hown := SH.bufOut (hA.2.pull (k := 0) rfl)
    refine ⟨run_call (caps := []) (os := [ox, oy, oz]) hA.1 hcall hf ha, ?_⟩
    obtain ⟨g, T', fr, hg, hFg⟩ := hT
    refine (hC B l.length x h0 h1 v _ w hown hsz (by omega) fun w' hb => ?_).mono ?_
    · show World.var? P w' _ = _
      have hgw := hA.2.frozen hFg
      have := (hb.block g (hF g _ hFg)).trans hgw
      simp [World.var?, hg, this, pow10Cells]
    · rintro _ w' ⟨v', rfl, hown', hb⟩
      refine ⟨v', rfl, k v' hm _ _ ⟨hA.1.put hd _, SH.bufIn hF hbel hb ?_⟩⟩
      have e1 : (l ++ itoaI x).length = l.length + (Go.Lib.itoa x).length := by simp [itoaI_len]
      have e2 : (l ++ itoaI x).map (Value.int .u8) = l.map (Value.int .u8) ++ Go.Lib.byteCells (Go.Lib.itoa x) := by rw [List.map_append, itoaI_cells]
      rw [e1, e2]; exact hown'
theorem SH.freezeB {w : World} (h : SH w F (stars [bufV B T v l, BelM B F R])) : ∃ F' p c, F ≤ F' ∧ v = .slice p l.length c ∧ RepSl 1 (Ex (cInt .u8)) F' p c l ∧ SH w F' (stars [BelM B F R]) := by
  have h := h.pull (k := 0) rfl
  obtain ⟨m, ⟨m1, m2, d, s1, s2, hp, hq⟩, k⟩ := h
  rcases hp with ⟨rfl, rfl⟩ | ⟨g, cap, cur, rfl, hB, hg, h1, h2, h3, h4⟩
  · exact ⟨F, none, 0, Fz.le_refl _, rfl, RepSl.nil, m2, hq, k.sub s2⟩
  · have hh : SH w F (star (pt g (.cells cur T (0, 0))) (stars [BelM B F R])) := ⟨m, ⟨m1, m2, d, s1, s2, hg, hq⟩, k⟩
    obtain ⟨le, h'⟩ := hh.freeze
    refine ⟨_, some ⟨g, 0, none⟩, cap, le, rfl, ⟨h1, by unfold maxLen at h2; omega, .inr ⟨g, 0, cur, T, (0, 0), rfl, Fz.add_self _ _ _, fun i x hx F' _ => ?_⟩⟩, h'⟩
    have hi : i < l.length := by
      rcases Nat.lt_or_ge i l.length with h | h
      · exact h
      · rw [List.getElem?_eq_none h] at hx; cases hx
    have e := congrArg (fun z : List Value => z[i]?) h4
    simp only [List.getElem?_take, List.getElem?_map, hx, Option.map_some, Nat.mul_one, hi, if_true] at e
    simp only [Nat.zero_add, Nat.mul_one]
    show (cur.toList.drop i).take 1 = cInt .u8 x
    have hlt : i < cur.toList.length := by
      rcases Nat.lt_or_ge i cur.toList.length with h | h
      · exact h
      · rw [List.getElem?_eq_none h] at e; cases e
    rw [List.drop_eq_getElem_cons hlt]
    rw [List.getElem?_eq_getElem hlt] at e
    simp only [Option.some.injEq] at e
    simp [e, cInt]
theorem GC.freezeB {c : Code} (k : ∀ F' p cap, F ≤ F' → v = .slice p l.length cap → RepSl 1 (Ex (cInt .u8)) F' p cap l → GC κ P c ks Q (Hd n D S F' [BelM B F R]) m r) : GC κ P c ks Q (Hd n D S F [bufV B T v l, BelM B F R]) m r :=
  fun hm a w ha => by
    obtain ⟨F', p, cap, le, hv, hr, h⟩ := ha.2.freezeB
    exact k F' p cap le hv hr hm a w ⟨ha.1, h⟩
theorem GC.bufNil {c : Code} (T : Nat) (k : GC κ P c ks Q (Hd n D S F [bufV B T (.slice none 0 0) [], BelM B F R]) m r) : GC κ P c ks Q (Hd n D S F [BelM B F R]) m r :=
  fun hm a w ha => k hm a w ⟨ha.1, ha.2.mono fun m h => ⟨fun _ => none, m, fun _ => .inl rfl, fun _ _ e => by simp at e, Mem.sub.refl _, bufV_nil, h⟩⟩
theorem GL.assertT {ti ta : TypeId} {xs : Value} {dsc : TypeDesc} (hd : Nat.blt d n = true) (hu : P.underlying ta = some dsc) (hn : ∀ z, dsc ≠ .interface z) (hx : evalS S ox = some (.iface ta xs)) (k : GL κ P ops rest ks Q (Hd n D ((d, .tuple #[xs, .bool true]) :: S) F hs) m r) :
    GL κ P ops (⟨some d, .typeAssert ox ti ta true, ty, pos, after, none⟩ :: rest) ks Q (Hd n D S F hs) m r :=
  GL.val hd (fun a w ha => by
    simp only [execOp, ha.1.eval hx, Instr.typeAssert, Sem.run_bind, rUnd hu, Result.andThen]
    cases dsc with
    | interface z => exact absurd rfl (hn z)
    | _ => simp) k
theorem GL.assertF {ti ta td : TypeId} {xs z : Value} {dsc : TypeDesc} (hd : Nat.blt d n = true) (hu : P.underlying ta = some dsc) (hn : ∀ z, dsc ≠ .interface z) (hne : Nat.beq td ta = false) (hz : ∀ w, (zeroValue ta).run P w = .ok z w) (hx : evalS S ox = some (.iface td xs)) (k : GL κ P ops rest ks Q (Hd n D ((d, .tuple #[z, .bool false]) :: S) F hs) m r) :
    GL κ P ops (⟨some d, .typeAssert ox ti ta true, ty, pos, after, none⟩ :: rest) ks Q (Hd n D S F hs) m r :=
  GL.val hd (fun a w ha => by
    have h0 : ¬ td = ta := fun e => by subst e; simp at hne
    simp only [execOp, ha.1.eval hx, Instr.typeAssert, Sem.run_bind, rUnd hu, Result.andThen]
    cases dsc with
    | interface z => exact absurd rfl (hn z)
    | _ => simp [h0, hz]) k
theorem GL.mkIface {tx : TypeId} {xs : Value} {dsc : TypeDesc} (hd : Nat.blt d n = true) (hu : P.underlying tx = some dsc) (hn : ∀ z, dsc ≠ .interface z) (hx : evalS S ox = some xs) (k : GL κ P ops rest ks Q (Hd n D ((d, .iface tx xs) :: S) F hs) m r) :
    GL κ P ops (⟨some d, .makeInterface tx ox, ty, pos, after, none⟩ :: rest) ks Q (Hd n D S F hs) m r :=
  GL.val hd (fun a w ha => by
    simp only [execOp, ha.1.eval hx, Instr.makeInterface, Sem.run_bind, rUnd hu, Result.andThen]
    cases dsc with
    | interface z => exact absurd rfl (hn z)
    | _ => simp) k
end
inductive AnyV where
  | b (x : Int)
  | l (xs : List Int)
def rAny (tb tl : Nat) : ERel AnyV := fun F x vs => match x with
  | .b n => vs = [.iface tb (.int .u8 n)]
  | .l ns => ∃ p k, vs = [.iface tl (.slice p ns.length k)] ∧ RepSl 1 (Ex (cInt .i64)) F p k ns
theorem CT0.enterB {β : Type} {P : Program} {f : FuncId} {fn : Func} {c : Code} {args : List Value} {F : Fz} {m : Option β} {ρ : β → Fz → Value → Prop} {n : Nat}
    (hf : P.funcs[f]? = some fn) (hb : fn.body = some c) (hn : fn.ntmps = n) (ha : Nat.ble args.length n = true)
    (k : ∀ B r R, FB F B → GC none P c [] (fnPost0 P fn F (BelM B F R) ρ r) (Hd n [] (argS 0 args) F [BelM B F R]) m r) : CT0 P f args.toArray F m ρ := by
  intro r hm w R hw
  obtain ⟨B, hB, hw'⟩ := hw.bel
  have h0 : Calls P f args.toArray w (fun e w' => ∃ F' v, F ≤ F' ∧ e = .returned v ∧ ρ r F' v ∧ SH w' F' (BelM B F R)) := by
    refine calls_of_wp hf hb (wpIn_wide.1 (k B r R hB hm _ w ⟨?_, hw'.one⟩))
    rw [hn]; exact sl_enter ha
  refine h0.mono ?_
  rintro e w' ⟨F', v, le, h1, h2, h3⟩
  exact ⟨F', v, le, h1, h2, h3.mono fun m h => h.own⟩
def RepAny (tb tl : Nat) (F : Fz) (p : Value) (_ : Unit) (x : AnyV) : Prop := rAny tb tl F x [p]
theorem rAny_mono {tb tl : Nat} {F F' : Fz} {x : AnyV} {vs : List Value} (le : F ≤ F') (h : rAny tb tl F x vs) : rAny tb tl F' x vs := by
  cases x with
  | b n => exact h
  | l ns => obtain ⟨p, k, h1, h2⟩ := h; exact ⟨p, k, h1, h2.mono le⟩
theorem RepAny.mono {tb tl : Nat} {F F' : Fz} {p : Value} {u : Unit} {x : AnyV} (h : RepAny tb tl F p u x) (le : F ≤ F') : RepAny tb tl F' p u x := rAny_mono le h
theorem ElemOK.any {P : Program} {e tb tl : Nat} (size : ∀ w, (sizeOf e).run P w = .ok 1 w) (info : ∃ ti : TypeInfo, (∀ w, (typeInfo e).run P w = .ok ti w) ∧ ti.bytes ≠ 0 ∧ ti.bytes ≤ 4096) (zero : ∃ z, (∀ w, (zeroValue e).run P w = .ok z w) ∧ z.cells.size = 1) : ElemOK P e 1 (rAny tb tl) :=
  ⟨fun _ x vs h => by cases x with
    | b n => rw [show vs = _ from h]; rfl
    | l ns => obtain ⟨p, k, h1, h2⟩ := h; rw [h1]; rfl, fun _ x vs h => by cases x with
    | b n => rw [show vs = _ from h]; rfl
    | l ns => obtain ⟨p, k, h1, h2⟩ := h; rw [h1]; rfl, fun _ _ _ _ le h => rAny_mono le h, size, info, zero⟩
def RepErr (_ : Fz) (p : Value) (_ : Unit) (b : Bool) : Prop := match b with
  | true => ∃ t v, p = .iface t v
  | false => p = .nilIface
theorem RepSl.ofArrHi {α : Type} {sz : Nat} {c : α → List Value} {F : Fz} {b T k n : Nat} {f : Nat → α} {fr : Nat × Nat} (hc : ∀ x, (c x).length = sz) (hk : (Nat.ble k n && Nat.ble n 1000000) = true) (hb : F.mem b = some (.cells (cArr n c f).toArray T fr)) : RepSl sz (Ex c) F (some ⟨b, 0, none⟩) n (arrL k f) := by
  simp only [Bool.and_eq_true] at hk
  have h1 := Nat.le_of_ble_eq_true hk.1
  have h2 := Nat.le_of_ble_eq_true hk.2
  refine ⟨by rw [arrL_len]; exact h1, by omega, .inr ⟨b, 0, _, T, fr, rfl, hb, fun i x hx F' _ => ?_⟩⟩
  have hi : i < k ∧ f i = x := by
    have := arrL_all (n := k) (f := f) (q := fun j y => j < k ∧ f j = y) (fun j hj => ⟨hj, rfl⟩) i x hx
    exact this
  show ((cArr n c f).toArray.toList.drop (0 + i * sz)).take sz = c x
  simp only [Nat.zero_add]
  rw [← hi.2]
  have main : ∀ (l : List Nat) (j : Nat) (y : Nat), l[j]? = some y → (((l.map f).flatMap c).drop (j * sz)).take sz = c (f y) := by
    intro l
    induction l with
    | nil => intro j y h; simp at h
    | cons a l ih =>
      intro j y h
      cases j with
      | zero =>
        simp at h; subst h
        simp only [Nat.zero_mul, List.drop_zero, List.map_cons, List.flatMap_cons]
        rw [← hc (f a)]; exact List.take_left
      | succ j =>
        simp only [List.map_cons, List.flatMap_cons]
        rw [show (j + 1) * sz = (c (f a)).length + j * sz by rw [hc, Nat.add_mul]; omega, ← List.drop_drop, List.drop_left]
        exact ih j y (by simpa using h)
  exact main (List.range n) i i (List.getElem?_range (by have := hi.1; omega))
def copyN (f : Nat → Int) (k : Nat) (l : List Int) : Nat → Int := fun i => if i < min k l.length then l.getD i 0 else f i
section
variable {β : Type} {P : Program} {ops : Array Oper} {rest : List Oper} {ks : List Kt} {Q : Exit → Act → World → Prop} {m : Option β} {r : β}
variable {n : Nat} {D : List Deferred} {S : List (Nat × Value)} {F : Fz} {hs : List HP}
variable {d : Nat} {ty t t2 e : TypeId} {pos : String} {after : Array Edge} {ox oy oz : Operand} {v : Value} {kd : IntKind} {x : Int}
theorem GL.sliceArrHi {len e sz b o k : Nat} (hd : Nat.blt d n = true) (ht : P.underlying t = some (.array len e)) (hz : ∀ w, (sizeOf e).run P w = .ok sz w) (hx : evalS S ox = some (.pointer (some ⟨b, o, none⟩))) (hy : evalS S oy = some (.int kd (k : Int))) (hk : Nat.ble k len = true) (h0 : Nat.blt 0 len = true)
    (kk : GL κ P ops rest ks Q (Hd n D ((d, .slice (some ⟨b, o, none⟩) k len) :: S) F hs) m r) :
    GL κ P ops (⟨some d, .slice t ox none (some oy) none, ty, pos, after, none⟩ :: rest) ks Q (Hd n D S F hs) m r :=
  GL.val hd (fun a w ha => by
    have h1 : 0 < len := Nat.le_of_ble_eq_true h0
    have h2 : k ≤ len := Nat.le_of_ble_eq_true hk
    simp only [execOp, ha.1.eval hx, ha.1.eval hy, Instr.sliceAt, rUnd ht, Sem.run_bind, Result.andThen, Instr.sureAddr, Sem.run_pure, Instr.sliceBounds, Option.map_some, Option.map_none, Bool.false_eq_true, if_false]
    rw [run_bound (by omega)]
    simp [hz, add_addr]) kk
theorem GL.relen {p : Option Addr} {k k' c : Nat} (e : k = k') (h : GL κ P ops rest ks Q (Hd n D ((d, .slice p k' c) :: S) F hs) m r) : GL κ P ops rest ks Q (Hd n D ((d, .slice p k c) :: S) F hs) m r := e ▸ h
theorem GL.eqlErr {b : Bool} {p : Value} {ot : TypeId} {ms : Array (String × TypeId)} (hd : Nat.blt d n = true) (hr : RepErr F p () b) (ht : P.underlying t = some (.interface ms)) (hx : evalS S ox = some p)
    (k : GL κ P ops rest ks Q (Hd n D ((d, .bool (!b)) :: S) F hs) m r) :
    GL κ P ops (⟨some d, .binOp .eql t ox (.const .nilIface) ot, ty, pos, after, none⟩ :: rest) ks Q (Hd n D S F hs) m r :=
  GL.val hd (fun a w ha => by
    cases b with
    | true => obtain ⟨tt, vv, rfl⟩ := hr; have h1 : a.eval (.const .nilIface) = .nilIface := rfl; simp [execOp, ha.1.eval hx, h1, eqGuard, binOp, eqlIfaceNil ht]
    | false => obtain rfl : p = .nilIface := hr; have h1 : a.eval (.const .nilIface) = .nilIface := rfl; simp [execOp, ha.1.eval hx, h1, eqGuard, binOp, eqlNilI ht]) k
theorem cArr_int (kd : IntKind) (N : Nat) (f : Nat → Int) : cArr N (cInt kd) f = (List.range N).map fun i => Value.int kd (f i) := by
  unfold cArr arrL
  induction (List.range N) with
  | nil => rfl
  | cons a l ih => simp only [List.map_cons, List.flatMap_cons, ih]; rfl
theorem RepSl.takeN {α : Type} {sz : Nat} {c : ERel α} {F : Fz} {p : Option Addr} {cap : Nat} {l : List α} (h : RepSl sz c F p cap l) (k : Nat) : RepSl sz c F p cap (l.take k) := by
  obtain ⟨h0, h1, h2⟩ := h
  refine ⟨by simp; omega, h1, ?_⟩
  rcases h2 with rfl | ⟨b, o, cs, T, fr, rfl, hb, h⟩
  · exact .inl (by simp)
  · refine .inr ⟨b, o, cs, T, fr, rfl, hb, fun i x hx => h i x ?_⟩
    rw [List.getElem?_take] at hx
    split at hx
    · exact hx
    · cases hx
theorem parts_ints {kd : IntKind} {F : Fz} {l : List Int} {us : List Value} (hl : us.length = l.length) (h : Parts 1 (Ex (cInt kd)) F l us) : us = l.map (Value.int kd) := by
  apply List.ext_getElem?
  intro i
  rw [List.getElem?_map]
  rcases Nat.lt_or_ge i l.length with hi | hi
  · have e := h i l[i] (List.getElem?_eq_getElem hi) F (Fz.le_refl F)
    have e : (us.drop (i * 1)).take 1 = cInt kd l[i] := e
    have hu : i < us.length := by omega
    rw [Nat.mul_one, List.drop_eq_getElem_cons hu, List.take_succ_cons, List.take_zero] at e
    rw [List.getElem?_eq_getElem hu, List.getElem?_eq_getElem hi, (List.cons.inj e).1]; rfl
  · rw [List.getElem?_eq_none (by omega), List.getElem?_eq_none hi]; rfl
theorem setMany0 {cs vs : List Value} (h : vs.length ≤ cs.length) : setMany cs 0 vs = vs ++ cs.drop vs.length := by
  have h1 := setMany_take vs cs 0 (by omega)
  have h2 := setMany_drop_lt vs cs 0 vs.length (by omega)
  rw [← List.take_append_drop vs.length (setMany cs 0 vs), h2]
  simp only [Nat.zero_add, List.take_zero, List.nil_append] at h1
  rw [h1]
theorem GL.copyArr {N k T b e2 cap2 : Nat} {f f2 : Nat → Int} {l : List Int} {p2 : Option Addr} (i : Nat) (hi : hs[i]? = some (pt b (.cells (cArr N (cInt .u8) f).toArray T))) (hd : Nat.blt d n = true) (ht : P.underlying t = some (.slice e)) (_ht2 : P.underlying t2 = some (.slice e2)) (hz : ∀ w, (sizeOf e).run P w = .ok 1 w) (hk : Nat.ble k N = true)
    (hx : evalS S ox = some (.slice (some ⟨b, 0, none⟩) k N)) (hy : evalS S oy = some (.slice p2 l.length cap2)) (hr : RepSl 1 (Ex (cInt .u8)) F p2 cap2 l) (hf : f2 = copyN f k l)
    (kk : GL κ P ops rest ks Q (Hd n D ((d, .int .i64 (imin (l.length : Int) (k : Int))) :: S) F (hs.set i (pt b (.cells (cArr N (cInt .u8) f2).toArray T)))) m r) :
    GL κ P ops (⟨some d, .call ⟨.builtin .copy, #[ox, oy], #[t, t2]⟩, ty, pos, after, none⟩ :: rest) ks Q (Hd n D S F hs) m r := by
  refine GL.step rfl (.inr rfl) fun hm a w ha => ?_
  have hkN := Nat.le_of_ble_eq_true hk
  have hr' := hr.takeN (min l.length k)
  have hln : (l.take (min l.length k)).length = min l.length k := List.length_take.trans (by omega)
  obtain ⟨us, hus, hp, hall, hsrc⟩ := run_first (P := P) (k := l.length) (fun _ x vs h => by rw [show vs = _ from h]; rfl) (fun _ x vs h => by rw [show vs = _ from h]; rfl) hr'
  rw [Nat.mul_one] at hus
  have hue := parts_ints hus hp
  rw [hln] at hsrc
  have hw := hsrc w fun b o e => ha.2.frozen e
  have hb := ha.2.ownedAt hi
  have hcl : (cArr N (cInt .u8) f).length = N := by rw [cArr_int]; simp
  have hst := run_storeCells (P := P) (o := 0) (i := 0) hb (by rw [hcl, hus, hln]; omega) hall
  have he : setMany (cArr N (cInt .u8) f) (0 + 0) us = cArr N (cInt .u8) f2 := by
    rw [Nat.zero_add, setMany0 (by rw [hcl, hus, hln]; omega), hue, cArr_int, cArr_int, hf]
    apply List.ext_getElem?
    intro j
    rcases Nat.lt_or_ge j (min l.length k) with hj | hj
    · have hjl : j < l.length := by omega
      rw [List.getElem?_append_left (by simp; omega), List.getElem?_map, List.getElem?_take, if_pos hj, List.getElem?_map, List.getElem?_range (by omega)]
      have hj2 : j < min k l.length := by omega
      simp [copyN, hj2, List.getElem?_eq_getElem hjl]
    · rw [List.getElem?_append_right (by simp; omega), List.getElem?_drop, List.getElem?_map, List.getElem?_map]
      have e1 : ((l.take (min l.length k)).map (Value.int .u8)).length + (j - ((l.take (min l.length k)).map (Value.int .u8)).length) = j := by simp; omega
      rw [e1]
      rcases Nat.lt_or_ge j N with h | h
      · rw [List.getElem?_range h]
        have hj2 : ¬ j < min k l.length := by omega
        simp [copyN, hj2]
      · rw [List.getElem?_eq_none (by simpa using h)]; rfl
  rw [he] at hst
  refine ⟨.int .i64 (imin (l.length : Int) (k : Int)), _, ?_, kk hm _ _ ⟨ha.1.put hd _, SH.putAt hi ha.2 (.cells (cArr N (cInt .u8) f2).toArray T)⟩⟩
  have hmin : (imin (l.length : Int) (k : Int)) = ((min l.length k : Nat) : Int) := by
    unfold imin
    split <;> omega
  rw [hmin]
  have hmin' : Nat.min l.length k = min l.length k := rfl
  simp [execOp, resolve, invoke, builtin, ha.1.eval hx, ha.1.eval hy, Builtin.copy_, rUnd ht, Builtin.lenOf, hz, hmin', hw, hst, goInt]
theorem set_self {α : Type} : ∀ {l : List α} {i : Nat} {x : α}, l[i]? = some x → l.set i x = l
  | [], _, _, h => by simp at h
  | a :: l, 0, x, h => by simp at h; subst h; rfl
  | a :: l, i + 1, x, h => by simp at h ⊢; exact set_self h
theorem GL.callBox {α : Type} {f : FuncId} {b : Nat} {ob : Obj} {of : Operand} {Ty : Array TypeId} {ee : Option α} {g : α → Option β} {val : α → Value} (i : Nat) (hi : hs[i]? = some (pt b ob)) (hd : Nat.blt d n = true) (hcall : ∀ args w, (callFunc f args).run P w = .ok (.enter f args) w) (hf : evalS S of = some (.func (.func f) #[] #[])) (ha : evalL S [ox] = some [.pointer (some ⟨b, 0, none⟩)])
    (hc : CT P f #[.pointer (some ⟨b, 0, none⟩)] F (pt b ob) ee (fun x _ v => v = val x) (fun _ _ _ => pt b ob))
    (k : ∀ x F', F ≤ F' → GL κ P ops rest ks Q (Hd n D ((d, val x) :: S) F' hs) (g x) r) :
    GL κ P ops (⟨some d, .call ⟨.value of, #[ox], Ty⟩, ty, pos, after, none⟩ :: rest) ks Q (Hd n D S F hs) (ee.bind g) r :=
  GL.callG rfl (.inr rfl) fun hm a w hA => by
    refine ⟨run_call (caps := []) (os := [ox]) hA.1 hcall hf ha, ?_⟩
    cases he : ee with
    | none => rw [he] at hm; cases hm
    | some y =>
      rw [he] at hm
      refine (hc y he w _ (hA.2.pull hi)).mono ?_
      rintro _ w' ⟨F', v, le, rfl, rfl, hw⟩
      refine ⟨_, rfl, k y F' le hm _ _ ⟨hA.1.put hd _, ?_⟩⟩
      have := SH.push hi hw
      rwa [set_self hi] at this
end
end Go.Dec
end

section
namespace Go.Dec
section
variable {ε : Type} {P : Program} {penc : ε → Value} {fn : Func} {n i0 d0 : Nat} {args : List Value} {F : Fz} {Hs : List HP} {Hp : ε → Fz → List HP} {rest : Code} {T0 : Array TypeId} {ty0 : TypeId} {pos0 : String} {after0 : Array Edge}
theorem recover_region1 {a : Act} {cs cs' : List Frame} {w : World} {v : Value} {Q : Exit → Act → List Frame → World → Prop}
    {S : List (Nat × Value)} (hsl : Sl n [] S a) (hd0 : Nat.blt d0 n = true)
    (hrec : (match recoverD cs with | some (v, cs') => (v, cs') | none => (.nilIface, cs)) = (v, cs')) (hQ : ∀ a', Sl n [] ((d0, v) :: S) a' → Q .normal a' cs' w) : wpOpsSIn Fence.wide 0 P #[⟨some d0, .call ⟨.builtin .recover, #[], T0⟩, ty0, pos0, after0, none⟩] Q [0] a cs w :=
  opsS_recover (i := 0) (w' := w) (o := ⟨some d0, .call ⟨.builtin .recover, #[], T0⟩, ty0, pos0, after0, none⟩) rfl (by simp [Region.wanted]) run_recover hrec (hQ _ (hsl.put hd0 v))
theorem CTV.mk1 {f : FuncId} (hf : P.funcs[f]? = some fn) (hb : fn.body = some (.seq (.region i0 #[⟨some d0, .call ⟨.builtin .recover, #[], T0⟩, ty0, pos0, after0, none⟩] false) rest)) (hn : fn.ntmps = n) (ha : Nat.ble args.length n = true) (hd0 : Nat.blt d0 n = true)
    (h0 : ∀ R, GC none P rest [] (fnPostI P fn F Hs R) (Hd n [] ((d0, .nilIface) :: argS 0 args) F (Hs ++ [R])) (some ()) ())
    (h1 : ∀ q R, GC none P rest [] (fnPostV P fn F (Hp q) R) (Hd n [] ((d0, penc q) :: argS 0 args) F (Hs ++ [R])) (some ()) ()) : CTV P penc f args.toArray F Hs Hp := by
  refine ⟨fun w R hw => ?_, fun q w R hw => ?_⟩
  · refine callsDIn_of_wpSIn hf hb trivial fun c₀ cs hu => ?_
    refine wpSIn_seq (wpSIn_region (recover_region1 (n := n) (v := .nilIface) (cs' := c₀ :: cs) (S := argS 0 args) (by rw [hn]; exact sl_enter ha) hd0 (by simp [recoverD, hu]) fun a' ha' => ?_))
    refine wpSIn_of_wpIn rfl (wpIn_mono (h0 R rfl a' w ⟨ha', hw.mono fun m hm => stars_app (star_mono_right (fun _ h => stars_one h) hm)⟩) ?_)
    rintro e a2 w2 ⟨he, hd, ⟨v, hv⟩, hs⟩
    have hc : c₀ :: cs = { c₀ with mode := .returning } :: cs := by cases c₀; simp_all
    rcases he with rfl | rfl
    · exact ⟨hd, .returning, hc, v, hv, rfl, ⟨v, rfl⟩, hs⟩
    · exact ⟨hd, .returning, hc, v, hv, rfl, ⟨v, rfl⟩, hs⟩
  · refine callsDIn_of_wpSIn hf hb trivial fun c₀ cs hu => ?_
    refine wpSIn_seq (wpSIn_region (recover_region1 (n := n) (v := penc q) (cs' := { c₀ with mode := .panicking [{ v := penc q, recovered := true }] } :: cs) (S := argS 0 args) (by rw [hn]; exact sl_enter ha) hd0 (by simp [recoverD, hu]) fun a' ha' => ?_))
    refine wpSIn_of_wpIn rfl (wpIn_mono (h1 q R rfl a' w ⟨ha', hw.mono fun m hm => stars_app (star_mono_right (fun _ h => stars_one h) hm)⟩) ?_)
    rintro e a2 w2 ⟨he, hd, ⟨v, hv⟩, hs⟩
    rcases he with rfl | rfl
    · exact ⟨hd, _, rfl, v, hv, rfl, ⟨v, rfl⟩, hs⟩
    · exact ⟨hd, _, rfl, v, hv, rfl, ⟨v, rfl⟩, hs⟩
end
theorem CTO.plain {β : Type} {P : Program} {f : FuncId} {args : Array Value} {F : Fz} {m : Option β} {ρ : β → Fz → Value → Prop} (h : CTO (G := Unit) P f args F m (fun _ => ρ) (fun _ _ _ => [])) : CT0 P f args F m ρ := by
  intro r hm w R hw
  refine (h r hm w R hw).mono ?_
  rintro e w' ⟨_, F', v, le, h1, h2, h3⟩
  exact ⟨F', v, le, h1, h2, h3.drop⟩
def arrO (N : Nat) (l : List Int) : Option (Nat → Int) := if N ≤ l.length then some (fun i => l.getD i 0) else none
theorem RepSl.arr {kd : IntKind} {F : Fz} {p : Option Addr} {cap N : Nat} {l : List Int} {f : Nat → Int} (hr : RepSl 1 (Ex (cInt kd)) F p cap l) (hN : 0 < N) (hf : arrO N l = some f) : ∃ b o T fr, ∃ cs : List Value, p = some ⟨b, o, none⟩ ∧ F.mem b = some (.cells cs.toArray T fr) ∧ (cs.drop o).take N = cArr N (cInt kd) f := by
  unfold arrO at hf
  split at hf
  · rename_i hle
    simp only [Option.some.injEq] at hf
    subst hf
    obtain ⟨h0, h1, h2⟩ := hr
    rcases h2 with rfl | ⟨b, o, cs, T, fr, rfl, hb, h⟩
    · simp at hle; omega
    · refine ⟨b, o, T, fr, cs.toList, rfl, by simpa using hb, ?_⟩
      have hp : Parts 1 (Ex (cInt kd)) F l (cs.toList.drop o) := fun i x hx F' le => by rw [List.drop_drop]; exact h i x hx F' le
      have hl := hp.len (fun _ x vs h => by rw [show vs = _ from h]; rfl)
      rw [Nat.mul_one] at hl
      have hp2 : Parts 1 (Ex (cInt kd)) F (l.take N) ((cs.toList.drop o).take N) := by
        have h3 : Parts 1 (Ex (cInt kd)) F (l.take N) (cs.toList.drop o) := fun i x hx => hp i x (by
          rw [List.getElem?_take] at hx
          split at hx
          · exact hx
          · cases hx)
        have h4 := h3.take
        rw [Nat.mul_one, List.length_take, Nat.min_eq_left hle] at h4
        exact h4
      have e := parts_ints (by simp at hl ⊢; omega) hp2
      rw [e, cArr_int]
      apply List.ext_getElem?
      intro i
      rw [List.getElem?_map, List.getElem?_map, List.getElem?_take]
      rcases Nat.lt_or_ge i N with hi | hi
      · have hil : i < l.length := by omega
        rw [if_pos hi, List.getElem?_range hi]
        simp [List.getElem?_eq_getElem hil]
      · rw [if_neg (by omega), List.getElem?_eq_none (l := List.range N) (by simpa using hi)]; rfl
  · cases hf
def Fz.del (F : Fz) (b : Nat) : Fz := { F with mem := fun k => if k = b then none else F.mem k }
theorem SH.thaw {w : World} {F : Fz} {b : Nat} {o : Obj} {H : HP} (h : SH w F H) (hb : F.mem b = some o) : SH w (F.del b) (star (pt b o) H) := by
  obtain ⟨m, hm, k⟩ := h
  have hmb : m (.blk b) = none := by
    rcases k.dj b with h | h
    · exact h
    · rw [hb] at h; cases h
  refine ⟨m.set (.blk b) (.obj o), star_new hmb hm, ?_, ?_, ?_, ?_, k.os, k.tape, k.out⟩
  · intro x
    by_cases e : x = b
    · subst e; exact .inr (by simp [Fz.del])
    · rcases k.dj x with h | h
      · exact .inl (by simpa [Mem.set, e] using h)
      · exact .inr (by simpa [Fz.del, e] using h)
  · intro x c e
    by_cases e' : x = b
    · subst e'; simp [Mem.set] at e; subst e; exact ⟨o, rfl, k.frz _ _ hb⟩
    · simp [Mem.set, e'] at e; exact k.own x c e
  · intro γ c e; exact k.gst γ c (by simpa [Mem.set] using e)
  · intro x c e
    by_cases e' : x = b
    · subst e'; simp [Fz.del] at e
    · exact k.frz x c (by simpa [Fz.del, e'] using e)
section
variable {κ : Option Nat} {β : Type} {P : Program} {ops : Array Oper} {rest : List Oper} {ks : List Kt} {Q : Exit → Act → World → Prop} {m : Option β} {r : β}
variable {n : Nat} {D : List Deferred} {S : List (Nat × Value)} {F : Fz} {hs : List HP}
variable {d : Nat} {ty t : TypeId} {pos : String} {after : Array Edge} {ox : Operand}
theorem GL.toArrP {kd : IntKind} {ta e N cap : Nat} {p : Option Addr} {l : List Int} {g : (Nat → Int) → Option β} (hd : Nat.blt d n = true) (ht : P.underlying ta = some (.array N e)) (hN : Nat.blt 0 N = true) (hr : RepSl 1 (Ex (cInt kd)) F p cap l) (hx : evalS S ox = some (.slice p l.length cap))
    (k : ∀ f b o T fr cs, arrO N l = some f → F.mem b = some (.cells (List.toArray cs) T fr) → (cs.drop o).take N = cArr N (cInt kd) f → GL κ P ops rest ks Q (Hd n D ((d, .pointer (some ⟨b, o, none⟩)) :: S) F hs) (g f) r) :
    GL κ P ops (⟨some d, .sliceToArrayPointer ta ox, ty, pos, after, none⟩ :: rest) ks Q (Hd n D S F hs) ((arrO N l).bind g) r :=
  GL.bind fun f hf => by
    obtain ⟨b, o, T, fr, cs, rfl, hb, hc⟩ := hr.arr (Nat.le_of_ble_eq_true hN) hf
    refine GL.val hd (fun a w ha => ?_) (k f b o T fr cs hf hb hc)
    have hle : N ≤ l.length := by
      unfold arrO at hf
      split at hf
      · assumption
      · cases hf
    have hn : ¬ l.length < N := by omega
    simp [execOp, ha.1.eval hx, Instr.arrayAt, rUnd ht, hn]
theorem GL.callLend {α γ : Type} {sz e cap : Nat} {c : α → List Value} {F0 : Fz} {p : Option Addr} {l : List α} {f : FuncId} {caps ags vs : List Value} {of : Operand} {os : List Operand} {T : Array TypeId} {ee : Option γ} {val : γ → Value} {g : γ → Option β} (i : Nat) (hi : hs[i]? = some (ownSl sz (Ex c) F0 e p cap l)) (hd : Nat.blt d n = true)
    (hcall : ∀ args w, (callFunc f args).run P w = .ok (.enter f args) w) (hf : evalS S of = some (.func (.func f) #[] caps.toArray)) (ha : evalL S os = some vs) (has : vs ++ caps = ags)
    (hc : ∀ F1, F ≤ F1 → RepSl sz (Ex c) F1 p cap l → CT0 P f ags.toArray F1 ee (fun x _ v => v = val x))
    (k : ∀ x F', ee = some x → F ≤ F' → GL κ P ops rest ks Q (Hd n D ((d, val x) :: S) F' hs) (g x) r) :
    GL κ P ops (⟨some d, .call ⟨.value of, os.toArray, T⟩, ty, pos, after, none⟩ :: rest) ks Q (Hd n D S F hs) (ee.bind g) r :=
  GL.callG rfl (.inr rfl) fun hm a w hA => by
    subst has
    refine ⟨run_call hA.1 hcall hf ha, ?_⟩
    cases he : ee with
    | none => rw [he] at hm; cases hm
    | some y =>
      rw [he] at hm
      have hp := hA.2.pull hi
      obtain ⟨mm, ⟨m1, m2, dd, s1, s2, ⟨h1, h2, h3⟩, hq⟩, kk⟩ := hp
      rcases h3 with ⟨rfl, rfl⟩ | ⟨b, cs, rfl, hb, hl, hpp⟩
      · have e1 : l = [] := List.eq_nil_of_length_eq_zero (by omega)
        subst e1
        refine ((hc F (Fz.le_refl _) ⟨by simp, by simp, .inl rfl⟩) y he w _ hA.2).mono ?_
        rintro _ w' ⟨F', v, le, rfl, rfl, hw⟩
        exact ⟨_, rfl, k y F' he le hm _ _ ⟨hA.1.put hd _, hw⟩⟩
      · have hh : SH w F (star (pt b (.cells cs.toArray e (0, 0))) (stars (hs.eraseIdx i))) := ⟨mm, ⟨m1, m2, dd, s1, s2, hb, hq⟩, kk⟩
        have hbn : F.mem b = none := by
          rcases kk.dj b with h | h
          · have := s1 _ _ hb; rw [h] at this; cases this
          · exact h
        obtain ⟨le1, hw1⟩ := hh.freeze
        have hrep : RepSl sz (Ex c) (F.add b (.cells cs.toArray e (0, 0))) (some ⟨b, 0, none⟩) cap l := ⟨h1, h2, .inr ⟨b, 0, cs.toArray, e, (0, 0), rfl, Fz.add_self _ _ _, fun j x hx F' _ => by
          simpa using hpp j x hx F0 (Fz.le_refl _)⟩⟩
        refine (hc _ le1 hrep y he w _ hw1).mono ?_
        rintro _ w' ⟨F', v, le, rfl, rfl, hw⟩
        have hb' := le.mem _ _ (Fz.add_self F b (.cells cs.toArray e (0, 0)))
        have hle : F ≤ F'.del b := ⟨le.os, le.tape, le.out, fun k x hx => by
          have hk : k ≠ b := fun e => by rw [e, hbn] at hx; cases hx
          simp only [Fz.del, hk, if_false]
          exact le.mem _ _ (le1.mem _ _ hx), le.gh, le.gn⟩
        refine ⟨_, rfl, k y (F'.del b) he hle hm _ _ ⟨hA.1.put hd _, ?_⟩⟩
        have h5 := hw.thaw hb'
        have h6 : SH w' (F'.del b) (star (ownSl sz (Ex c) F0 e (some ⟨b, 0, none⟩) cap l) (stars (hs.eraseIdx i))) := h5.mono fun _ hm => star_mono_left (fun m' hm' => ⟨h1, h2, .inr ⟨b, cs, rfl, hm', hl, hpp⟩⟩) hm
        have h7 := SH.push hi h6
        rwa [set_self hi] at h7
end
section
variable {β : Type} {P : Program} {ops : Array Oper} {rest : List Oper} {E : Act → World → Prop} {m : Option β} {r : β}
variable {n : Nat} {D : List Deferred} {S : List (Nat × Value)} {F : Fz} {hs : List HP} {d : Nat} {ty t tx : TypeId} {pos : String} {after : Array Edge} {ox oy : Operand} {kd : IntKind} {xs : Value}
theorem GS.sliceArr {len e sz b o : Nat} (hd : Nat.blt d n = true) (ht : P.underlying t = some (.array len e)) (hz : ∀ w, (sizeOf e).run P w = .ok sz w) (hx : evalS S ox = some (.pointer (some ⟨b, o, none⟩))) (h0 : Nat.blt 0 len = true)
    (k : GS P ops rest E (Hd n D ((d, .slice (some ⟨b, o, none⟩) len len) :: S) F hs) m r) :
    GS P ops (⟨some d, .slice t ox none none none, ty, pos, after, none⟩ :: rest) E (Hd n D S F hs) m r :=
  GS.val hd (fun a w ha => by
    have : 0 < len := Nat.le_of_ble_eq_true h0
    simp [execOp, ha.1.eval hx, Instr.sliceAt, rUnd ht, Instr.sureAddr, Instr.sliceBounds, hz, add_addr]) k
end
end Go.Dec
end

section
namespace Go.Dec
abbrev Row96 := Nat → Int
def rowC (f : Row96) : List Value := cArr 96 (cInt .u8) f
theorem rowC_len (f : Row96) : (rowC f).length = 96 := by unfold rowC; rw [cArr_int]; simp
theorem rowC_all (f : Row96) : (rowC f).all Value.oneCell' = true := by unfold rowC; rw [cArr_int, List.all_map]; exact List.all_eq_true.2 fun _ _ => rfl
theorem rowC_take (f : Row96) : ((rowC f).drop 0).take 96 = rowC f := List.take_of_length_le (Nat.le_of_eq (rowC_len f))
def rowsF (L : List Row96) : List Value := L.flatMap rowC
theorem rowsF_len : ∀ (L : List Row96), (rowsF L).length = L.length * 96
  | [] => rfl
  | f :: L => by simp only [rowsF, List.flatMap_cons, List.length_append, List.length_cons, rowC_len]; have := rowsF_len L; unfold rowsF at this; omega
theorem rowsF_at : ∀ {L : List Row96} {k : Nat} {f : Row96}, L[k]? = some f → ((rowsF L).drop (k * 96)).take 96 = rowC f
  | [], _, _, h => by simp at h
  | g :: L, 0, f, h => by
    simp at h; subst h
    simp only [rowsF, List.flatMap_cons, Nat.zero_mul, List.drop_zero]
    rw [← rowC_len g]; exact List.take_left
  | g :: L, k + 1, f, h => by
    have e : rowsF (g :: L) = rowC g ++ rowsF L := rfl
    rw [e, show (k + 1) * 96 = (rowC g).length + k * 96 by rw [rowC_len]; omega, ← List.drop_drop, List.drop_left]
    exact rowsF_at (by simpa using h)
theorem rowsF_app (L K : List Row96) : rowsF (L ++ K) = rowsF L ++ rowsF K := by simp [rowsF]
theorem cArr_set {kd : IntKind} {N q : Nat} {f : Nat → Int} {v : Int} (hq : q < N) : setMany (cArr N (cInt kd) f) (0 + q * 1) [.int kd v] = cArr N (cInt kd) (updN f q v) := by
  rw [cArr_int, cArr_int]
  simp only [setMany, Nat.zero_add, Nat.mul_one]
  apply List.ext_getElem?
  intro i
  rw [List.getElem?_set, List.getElem?_map, List.getElem?_map]
  by_cases h : q = i
  · subst h
    have hn : Nat.beq q q = true := Nat.beq_refl q
    simp [hq, updN]
  · have hb : Nat.beq i q = false := by
      cases hb : Nat.beq i q with
      | false => rfl
      | true => exact absurd (Nat.eq_of_beq_eq_true hb).symm h
    rw [if_neg h]
    rcases Nat.lt_or_ge i N with hi | hi
    · rw [List.getElem?_range hi]; simp [updN, hb]
    · rw [List.getElem?_eq_none (by simpa using hi)]; rfl
theorem cArr_cell {kd : IntKind} {N : Nat} {f : Nat → Int} {j : Nat} (h : j < N) : (cArr N (cInt kd) f)[0 + j * 1]? = some (.int kd (f j)) := by
  rw [cArr_int, List.getElem?_map, List.getElem?_range (by omega)]; simp
theorem cArr_len {kd : IntKind} {N : Nat} {f : Nat → Int} : (cArr N (cInt kd) f).length = N := by rw [cArr_int]; simp
def rowB (T b : Nat) (pre : List Value) (L : List Row96) (post : List Value) : HP := pt b (.cells (pre ++ (rowsF L ++ post)).toArray T)
theorem row_cut {pre post : List Value} {L : List Row96} {k : Nat} {f : Row96} (h : L[k]? = some f) : ((pre ++ (rowsF L ++ post)).drop (pre.length + k * 96)).take 96 = rowC f := by
  have hk : k < L.length := by
    rcases Nat.lt_or_ge k L.length with h' | h'
    · exact h'
    · rw [List.getElem?_eq_none h'] at h; cases h
  rw [← List.drop_drop, List.drop_left, List.drop_append_of_le_length (by rw [rowsF_len]; omega), List.take_append_of_le_length (by rw [List.length_drop, rowsF_len]; omega)]
  exact rowsF_at h
theorem setMany_app {a vs b : List Value} : ∀ {o : Nat}, o + vs.length ≤ b.length → setMany (a ++ b) (a.length + o) vs = a ++ setMany b o vs := by
  induction vs generalizing b with
  | nil => intro o _; rfl
  | cons v vs ih =>
    intro o h
    simp only [List.length_cons] at h
    simp only [setMany]
    rw [List.set_append_right _ _ (by omega), show a.length + o - a.length = o by omega, show a.length + o + 1 = a.length + (o + 1) by omega]
    exact ih (by simp; omega)
theorem setMany_row {post : List Value} {f' : Row96} : ∀ {L : List Row96} {k : Nat}, k < L.length → setMany (rowsF L ++ post) (k * 96) (rowC f') = rowsF (L.set k f') ++ post
  | [], _, h => by simp at h
  | g :: L, 0, _ => by
    have e : rowsF (g :: L) ++ post = rowC g ++ (rowsF L ++ post) := by simp [rowsF]
    rw [e, Nat.zero_mul, setMany0 (by rw [List.length_append, rowC_len, rowC_len]; omega), rowC_len, ← rowC_len g, List.drop_left]
    simp [rowsF]
  | g :: L, k + 1, h => by
    have e : rowsF (g :: L) ++ post = rowC g ++ (rowsF L ++ post) := by simp [rowsF]
    have hk : k < L.length := by simpa using h
    rw [e, show (k + 1) * 96 = (rowC g).length + k * 96 by rw [rowC_len]; omega, setMany_app (by rw [List.length_append, rowC_len, rowsF_len]; omega), setMany_row hk]
    simp [rowsF]
section
variable {κ : Option Nat} {β : Type} {P : Program} {ops : Array Oper} {rest : List Oper} {ks : List Kt} {Q : Exit → Act → World → Prop} {m : Option β} {r : β}
variable {n : Nat} {D : List Deferred} {S : List (Nat × Value)} {F : Fz} {hs : List HP}
variable {d : Nat} {ty t : TypeId} {pos : String} {after : Array Edge} {ox oy : Operand} {T b k : Nat} {pre post : List Value} {L : List Row96} {f : Row96}
theorem GL.rowLoad {o i : Nat} (ho : o = pre.length + k * 96) (hd : Nat.blt d n = true) (hA : ∀ w, (isAgg t).run P w = .ok true w) (hz : ∀ w, (sizeOf t).run P w = .ok 96 w) (hx : evalS S ox = some (.pointer (some ⟨b, o, none⟩))) (hi : hs[i]? = some (rowB T b pre L post)) (hf : L[k]? = some f)
    (kk : GL κ P ops rest ks Q (Hd n D ((d, .agg (rowC f).toArray) :: S) F hs) m r) : GL κ P ops (⟨some d, .load t ox, ty, pos, after, none⟩ :: rest) ks Q (Hd n D S F hs) m r :=
  GL.loadOA hd hA hz hx hi (by subst ho; exact row_cut hf) (rowC_len f) kk
theorem GL.rowStore {o i : Nat} (ho : o = pre.length + k * 96) (hz : ∀ w, (sizeOf t).run P w = .ok 96 w) (hx : evalS S ox = some (.pointer (some ⟨b, o, none⟩))) (hy : evalS S oy = some (.agg (rowC f).toArray)) (hi : hs[i]? = some (rowB T b pre L post)) (hk : k < L.length)
    (kk : GL κ P ops rest ks Q (Hd n D S F (hs.set i (rowB T b pre (L.set k f) post))) m r) : GL κ P ops (⟨none, .store t ox oy, ty, pos, after, none⟩ :: rest) ks Q (Hd n D S F hs) m r := by
  have h1 := rowsF_len L
  have hl := rowC_len f
  refine GL.store hz hx hy rfl hl hi (by subst ho; rw [hl, List.length_append, List.length_append, h1]; omega) ?_ ?_ kk
  · unfold rowC; rw [cArr_int, List.all_map]; exact List.all_eq_true.2 fun _ _ => rfl
  · subst ho
    rw [setMany_app (by rw [hl, List.length_append, h1]; omega), setMany_row hk]
theorem GL.rowLend {γ : Type} {o q cap : Nat} {fn : FuncId} {caps ags vs : List Value} {of : Operand} {os : List Operand} {Ty : Array TypeId} {ee : Option γ} {val : γ → Value} {g : γ → Option β} (i : Nat) (hi : hs[i]? = some (rowB T b pre L post)) (ho : o = pre.length) (hq : q ≤ L.length) (hcap : q ≤ cap) (hcm : cap ≤ 9223372036854775807) (hd : Nat.blt d n = true)
    (hcall : ∀ args w, (callFunc fn args).run P w = .ok (.enter fn args) w) (hf : evalS S of = some (.func (.func fn) #[] caps.toArray)) (ha : evalL S os = some vs) (has : vs ++ caps = ags)
    (hc : ∀ F1, F ≤ F1 → RepSl 96 (Ex (cArr 96 (cInt .u8))) F1 (some ⟨b, o, none⟩) cap (L.take q) → CT0 P fn ags.toArray F1 ee (fun x _ v => v = val x))
    (kk : ∀ x F', ee = some x → F ≤ F' → GL κ P ops rest ks Q (Hd n D ((d, val x) :: S) F' hs) (g x) r) :
    GL κ P ops (⟨some d, .call ⟨.value of, os.toArray, Ty⟩, ty, pos, after, none⟩ :: rest) ks Q (Hd n D S F hs) (ee.bind g) r :=
  GL.callG rfl (.inr rfl) fun hm a w hA => by
    subst has
    subst ho
    refine ⟨run_call hA.1 hcall hf ha, ?_⟩
    cases he : ee with
    | none => rw [he] at hm; cases hm
    | some y =>
      rw [he] at hm
      have hh := hA.2.pull hi
      have hbn : F.mem b = none := by
        obtain ⟨mm, ⟨m1, m2, dd, s1, s2, hb, hq⟩, kk⟩ := hh
        rcases kk.dj b with h | h
        · have := s1 _ _ hb; rw [h] at this; cases this
        · exact h
      obtain ⟨le1, hw1⟩ := SH.freeze hh
      have hrep : RepSl 96 (Ex (cArr 96 (cInt .u8))) (F.add b (.cells (pre ++ (rowsF L ++ post)).toArray T)) (some ⟨b, pre.length, none⟩) cap (L.take q) := ⟨by simp; omega, hcm, .inr ⟨b, pre.length, _, T, (0, 0), rfl, Fz.add_self _ _ _, fun j x hx F' _ => by
        show ((pre ++ (rowsF L ++ post)).drop (pre.length + j * 96)).take 96 = rowC x
        refine row_cut ?_
        rw [List.getElem?_take] at hx
        split at hx
        · exact hx
        · cases hx⟩⟩
      refine (hc _ le1 hrep y he w _ hw1).mono ?_
      rintro _ w' ⟨F', v, le, rfl, rfl, hw⟩
      have hb' := le.mem _ _ (Fz.add_self F b _)
      have hle : F ≤ F'.del b := ⟨le.os, le.tape, le.out, fun k x hx => by
        have hk : k ≠ b := fun e => by rw [e, hbn] at hx; cases hx
        simp only [Fz.del, hk, if_false]
        exact le.mem _ _ (le1.mem _ _ hx), le.gh, le.gn⟩
      refine ⟨_, rfl, kk y (F'.del b) he hle hm _ _ ⟨hA.1.put hd _, ?_⟩⟩
      have h7 : SH w' (F'.del b) (stars (hs.set i (rowB T b pre L post))) := SH.push hi (hw.thaw hb')
      rwa [set_self hi] at h7
theorem GL.sliceRaw {p : Option Addr} {len cap e sz : Nat} {hi : Int} {kd : IntKind} (hd : Nat.blt d n = true) (ht : P.underlying t = some (.slice e)) (hz : ∀ w, (sizeOf e).run P w = .ok sz w) (hx : evalS S ox = some (.slice p len cap)) (hy : evalS S oy = some (.int kd hi)) (h : 0 ≤ hi ∧ hi ≤ cap)
    (kk : GL κ P ops rest ks Q (Hd n D ((d, .slice (if cap = 0 then p else p.map (·.add (0 * sz))) hi.toNat cap) :: S) F hs) m r) :
    GL κ P ops (⟨some d, .slice t ox none (some oy) none, ty, pos, after, none⟩ :: rest) ks Q (Hd n D S F hs) m r :=
  GL.val hd (fun a w ha => by
    simp only [execOp, ha.1.eval hx, ha.1.eval hy, Option.map_some, Option.map_none, Sem.run_bind]
    rw [run_slice_hi ht hz h]
    rfl) kk
theorem GL.sliceRows {o q len cap e sz : Nat} {kd : IntKind} (hd : Nat.blt d n = true) (ht : P.underlying t = some (.slice e)) (hz : ∀ w, (sizeOf e).run P w = .ok sz w) (hx : evalS S ox = some (.slice (some ⟨b, o, none⟩) len cap)) (hy : evalS S oy = some (.int kd (q : Int))) (h : q ≤ cap)
    (kk : GL κ P ops rest ks Q (Hd n D ((d, .slice (some ⟨b, o, none⟩) q cap) :: S) F hs) m r) :
    GL κ P ops (⟨some d, .slice t ox none (some oy) none, ty, pos, after, none⟩ :: rest) ks Q (Hd n D S F hs) m r := by
  refine GL.sliceRaw hd ht hz hx hy (by omega) ?_
  have e : (if cap = 0 then (some ⟨b, o, none⟩ : Option Addr) else (some ⟨b, o, none⟩ : Option Addr).map (·.add (0 * sz))) = some ⟨b, o, none⟩ := by split <;> simp [Addr.add]
  rw [e]; exact kk
theorem GC.hp {c : Code} (i : Nat) {p q : HP} (hi : hs[i]? = some p) (h : ∀ m, p m → q m) (k : GC κ P c ks Q (Hd n D S F (hs.set i q)) m r) : GC κ P c ks Q (Hd n D S F hs) m r :=
  fun hm a w ha => k hm a w ⟨ha.1, SH.push hi ((ha.2.pull hi).mono fun _ => star_mono_left h)⟩
theorem GL.callOwn {α γ : Type} {sz T0 : Nat} {c : α → List Value} {fn : FuncId} {caps ags vs : List Value} {of : Operand} {os : List Operand} {Ty : Array TypeId} {ee : Option γ} {val : γ → Option Addr → Nat → Value} {lst : γ → List α} {g : γ → Option β} (hd : Nat.blt d n = true)
    (hcall : ∀ args w, (callFunc fn args).run P w = .ok (.enter fn args) w) (hf : evalS S of = some (.func (.func fn) #[] caps.toArray)) (ha : evalL S os = some vs) (has : vs ++ caps = ags)
    (hc : CT P fn ags.toArray F emp ee (fun _ _ _ => True) (fun x F' v m => ∃ p q, v = val x p q ∧ ownSl sz (Ex c) F' T0 p q (lst x) m))
    (k : ∀ x F' p q, ee = some x → F ≤ F' → GL κ P ops rest ks Q (Hd n D ((d, val x p q) :: S) F' (ownSl sz (Ex c) F' T0 p q (lst x) :: hs)) (g x) r) :
    GL κ P ops (⟨some d, .call ⟨.value of, os.toArray, Ty⟩, ty, pos, after, none⟩ :: rest) ks Q (Hd n D S F hs) (ee.bind g) r :=
  GL.callG rfl (.inr rfl) fun hm a w hA => by
    subst has
    refine ⟨run_call hA.1 hcall hf ha, ?_⟩
    cases he : ee with
    | none => rw [he] at hm; cases hm
    | some y =>
      rw [he] at hm
      have h0 : SH w F (star emp (stars hs)) := hA.2.mono fun m hm => ⟨fun _ => none, m, fun _ => .inl rfl, fun _ _ e => by simp at e, Mem.sub.refl _, trivial, hm⟩
      refine (hc y he w _ h0).mono ?_
      rintro _ w' ⟨F', v, le, rfl, -, mm, ⟨m1, m2, dd, s1, s2, ⟨p, q, rfl, ho⟩, hR⟩, kk⟩
      exact ⟨_, rfl, k y F' p q he le hm _ _ ⟨hA.1.put hd _, mm, ⟨m1, m2, dd, s1, s2, ho, hR⟩, kk⟩⟩
theorem GL.callLendOwn {α α' γ : Type} {sz e cap sz2 T2 : Nat} {c : α → List Value} {c2 : α' → List Value} {F0 : Fz} {p : Option Addr} {l : List α} {fn : FuncId} {caps ags vs : List Value} {of : Operand} {os : List Operand} {Ty : Array TypeId} {ee : Option γ} {val : γ → Option Addr → Nat → Value} {lst : γ → List α'} {g : γ → Option β} (i : Nat) (hi : hs[i]? = some (ownSl sz (Ex c) F0 e p cap l)) (hd : Nat.blt d n = true)
    (hcall : ∀ args w, (callFunc fn args).run P w = .ok (.enter fn args) w) (hf : evalS S of = some (.func (.func fn) #[] caps.toArray)) (ha : evalL S os = some vs) (has : vs ++ caps = ags)
    (hc : ∀ F1, F ≤ F1 → RepSl sz (Ex c) F1 p cap l → CT P fn ags.toArray F1 emp ee (fun _ _ _ => True) (fun x F' v m => ∃ p q, v = val x p q ∧ ownSl sz2 (Ex c2) F' T2 p q (lst x) m))
    (k : ∀ x F' p2 q2, ee = some x → F ≤ F' → GL κ P ops rest ks Q (Hd n D ((d, val x p2 q2) :: S) F' (ownSl sz2 (Ex c2) F' T2 p2 q2 (lst x) :: hs)) (g x) r) :
    GL κ P ops (⟨some d, .call ⟨.value of, os.toArray, Ty⟩, ty, pos, after, none⟩ :: rest) ks Q (Hd n D S F hs) (ee.bind g) r :=
  GL.callG rfl (.inr rfl) fun hm a w hA => by
    subst has
    refine ⟨run_call hA.1 hcall hf ha, ?_⟩
    cases he : ee with
    | none => rw [he] at hm; cases hm
    | some y =>
      rw [he] at hm
      have hp := hA.2.pull hi
      obtain ⟨mm, ⟨m1, m2, dd, s1, s2, ⟨h1, h2, h3⟩, hq⟩, kk⟩ := hp
      have up : ∀ {F1 F2 : Fz} {p q m}, ownSl sz2 (Ex c2) F1 T2 p q (lst y) m → ownSl sz2 (Ex c2) F2 T2 p q (lst y) m := fun {F1 F2 p q m} h => by
        obtain ⟨g1, g2, g3⟩ := h
        rcases g3 with g3 | ⟨b, cs, e, hb, hl, hpp⟩
        · exact ⟨g1, g2, .inl g3⟩
        · exact ⟨g1, g2, .inr ⟨b, cs, e, hb, hl, fun j x hx F' _ => hpp j x hx F1 (Fz.le_refl _)⟩⟩
      rcases h3 with ⟨rfl, rfl⟩ | ⟨b, cs, rfl, hb, hl, hpp⟩
      · have e1 : l = [] := List.eq_nil_of_length_eq_zero (by omega)
        subst e1
        have h0 : SH w F (star emp (stars hs)) := hA.2.mono fun m hm => ⟨fun _ => none, m, fun _ => .inl rfl, fun _ _ e => by simp at e, Mem.sub.refl _, trivial, hm⟩
        refine ((hc F (Fz.le_refl _) ⟨by simp, by simp, .inl rfl⟩) y he w _ h0).mono ?_
        rintro _ w' ⟨F', v, le, rfl, -, mm, ⟨m1, m2, dd, s1, s2, ⟨p, q, rfl, ho⟩, hR⟩, kk⟩
        exact ⟨_, rfl, k y F' p q he le hm _ _ ⟨hA.1.put hd _, mm, ⟨m1, m2, dd, s1, s2, ho, hR⟩, kk⟩⟩
      · have hh : SH w F (star (pt b (.cells cs.toArray e (0, 0))) (stars (hs.eraseIdx i))) := ⟨mm, ⟨m1, m2, dd, s1, s2, hb, hq⟩, kk⟩
        have hbn : F.mem b = none := by
          rcases kk.dj b with h | h
          · have := s1 _ _ hb; rw [h] at this; cases this
          · exact h
        obtain ⟨le1, hw1⟩ := hh.freeze
        have hrep : RepSl sz (Ex c) (F.add b (.cells cs.toArray e (0, 0))) (some ⟨b, 0, none⟩) cap l := ⟨h1, h2, .inr ⟨b, 0, cs.toArray, e, (0, 0), rfl, Fz.add_self _ _ _, fun j x hx F' _ => by
          simpa using hpp j x hx F0 (Fz.le_refl _)⟩⟩
        have h0 : SH w (F.add b (.cells cs.toArray e (0, 0))) (star emp (stars (hs.eraseIdx i))) := hw1.mono fun m hm => ⟨fun _ => none, m, fun _ => .inl rfl, fun _ _ e => by simp at e, Mem.sub.refl _, trivial, hm⟩
        refine (hc _ le1 hrep y he w _ h0).mono ?_
        rintro _ w' ⟨F', v, le, rfl, -, hw⟩
        obtain ⟨mm3, ⟨m3, m4, dd3, s3, s4, ⟨p, q, rfl, ho⟩, hR⟩, kk3⟩ := hw
        have hw3 : SH w' F' (star (ownSl sz2 (Ex c2) F' T2 p q (lst y)) (stars (hs.eraseIdx i))) := ⟨mm3, ⟨m3, m4, dd3, s3, s4, ho, hR⟩, kk3⟩
        have hb' := le.mem _ _ (Fz.add_self F b (.cells cs.toArray e (0, 0)))
        have hle : F ≤ F'.del b := ⟨le.os, le.tape, le.out, fun k x hx => by
          have hk : k ≠ b := fun e => by rw [e, hbn] at hx; cases hx
          simp only [Fz.del, hk, if_false]
          exact le.mem _ _ (le1.mem _ _ hx), le.gh, le.gn⟩
        refine ⟨_, rfl, k y (F'.del b) p q he hle hm _ _ ⟨hA.1.put hd _, ?_⟩⟩
        have h5 := hw3.thaw hb'
        have h6 : SH w' (F'.del b) (star (ownSl sz2 (Ex c2) (F'.del b) T2 p q (lst y)) (star (ownSl sz (Ex c) F0 e (some ⟨b, 0, none⟩) cap l) (stars (hs.eraseIdx i)))) := h5.mono fun _ hm => star_mono_left (fun _ h => up h) (star_swap (star_mono_left (fun m' hm' => ⟨h1, h2, .inr ⟨b, cs, rfl, hm', hl, hpp⟩⟩) hm))
        refine h6.mono fun _ hm => star_mono_right (fun m' hm' => ?_) hm
        have h7 := stars_push hi hm'
        rwa [set_self hi] at h7
theorem parts_rows {F : Fz} : ∀ {L : List Row96} {cs : List Value}, L.length * 96 ≤ cs.length → Parts 96 (Ex (cArr 96 (cInt .u8))) F L cs → cs.take (L.length * 96) = rowsF L
  | [], _, _, _ => by simp [rowsF]
  | f :: L, cs, hl, h => by
    simp only [List.length_cons] at hl
    have h0 : cs.take 96 = rowC f := by
      have h9 : (cs.drop (0 * 96)).take 96 = rowC f := h 0 f rfl F (Fz.le_refl F)
      simpa using h9
    have h1 : Parts 96 (Ex (cArr 96 (cInt .u8))) F L (cs.drop 96) := fun i x hx F' le => by
      have := h (i + 1) x (by simpa using hx) F' le
      rw [List.drop_drop]
      rwa [show (i + 1) * 96 = 96 + i * 96 by omega] at this
    have h2 := parts_rows (by rw [List.length_drop]; omega) h1
    rw [List.length_cons, show (L.length + 1) * 96 = 96 + L.length * 96 by omega, List.take_add, h0, h2]
    rfl
theorem parts_of_rows {F : Fz} {L : List Row96} {post : List Value} : Parts 96 (Ex (cArr 96 (cInt .u8))) F L (rowsF L ++ post) := fun i x hx F' _ => by
  have h9 := row_cut (pre := []) (post := post) hx
  simp only [List.nil_append, List.length_nil, Nat.zero_add] at h9
  exact h9
theorem GL.ownRows {F0 : Fz} {p : Option Addr} {cap a q : Nat} {fn : FuncId} {of : Operand} {Ty : Array TypeId} {mm : List Row96 → Option (Bool × List Row96)} {g : Bool × List Row96 → Option β} (i : Nat) (hi : hs[i]? = some (ownSl 96 (Ex (cArr 96 (cInt .u8))) F0 T p cap L)) (hq : 1 ≤ q) (hle : a + q ≤ L.length) (hd : Nat.blt d n = true)
    (hcall : ∀ args w, (callFunc fn args).run P w = .ok (.enter fn args) w) (hf : evalS S of = some (.func (.func fn) #[] #[])) (ha : evalL S [ox] = some [.slice (p.map (·.add (a * 96))) q (cap - a)])
    (hlen : ∀ M x, mm M = some x → x.2.length = M.length)
    (hc : ∀ (b : Nat) (pre post : List Value) (M : List Row96) (c : Nat), M.length ≤ c → c ≤ 9223372036854775807 → CT P fn #[.slice (some ⟨b, pre.length, none⟩) M.length c] F (rowB T b pre M post) (mm M) (fun r _ v => v = .bool r.1) (fun r _ _ => rowB T b pre r.2 post))
    (kk : ∀ x F', mm ((L.drop a).take q) = some x → F ≤ F' → GL κ P ops rest ks Q (Hd n D ((d, .bool x.1) :: S) F' (hs.set i (ownSl 96 (Ex (cArr 96 (cInt .u8))) F' T p cap (L.take a ++ (x.2 ++ L.drop (a + q)))))) (g x) r) :
    GL κ P ops (⟨some d, .call ⟨.value of, #[ox], Ty⟩, ty, pos, after, none⟩ :: rest) ks Q (Hd n D S F hs) ((mm ((L.drop a).take q)).bind g) r :=
  GL.callG rfl (.inr rfl) fun hm a' w hA => by
    refine ⟨run_call (caps := []) (os := [ox]) hA.1 hcall hf ha, ?_⟩
    have hp := hA.2.pull hi
    obtain ⟨m0, ⟨m1, m2, dd, s1, s2, ⟨h1, h2, h3⟩, hqq⟩, kk0⟩ := hp
    rcases h3 with ⟨rfl, rfl⟩ | ⟨b, cs, rfl, hb, hl, hpp⟩
    · omega
    · have hMl : ((L.drop a).take q).length = q := by rw [List.length_take, List.length_drop]; omega
      have hAl : (L.take a).length = a := by rw [List.length_take]; omega
      have hcs : cs = rowsF L ++ cs.drop (L.length * 96) := by
        have := parts_rows (by rw [hl]; exact Nat.mul_le_mul_right _ h1) hpp
        rw [← this, List.take_append_drop]
      have hL : L = L.take a ++ ((L.drop a).take q ++ L.drop (a + q)) := by
        rw [← List.drop_drop, List.take_append_drop, List.take_append_drop]
      generalize cs.drop (L.length * 96) = post at hcs
      have hcs2 : cs = rowsF (L.take a) ++ (rowsF ((L.drop a).take q) ++ (rowsF (L.drop (a + q)) ++ post)) := by
        rw [hcs]
        conv => lhs; rw [hL]
        rw [rowsF_app, rowsF_app, List.append_assoc, List.append_assoc]
      have hpre : (rowsF (L.take a)).length = a * 96 := by rw [rowsF_len, hAl]
      have hh : SH w F (star (rowB T b (rowsF (L.take a)) ((L.drop a).take q) (rowsF (L.drop (a + q)) ++ post)) (stars (hs.eraseIdx i))) := ⟨m0, ⟨m1, m2, dd, s1, s2, by rw [hcs2] at hb; exact hb, hqq⟩, kk0⟩
      have hval : (#[.slice ((some ⟨b, 0, none⟩ : Option Addr).map (·.add (a * 96))) q (cap - a)] : Array Value) = #[.slice (some ⟨b, (rowsF (L.take a)).length, none⟩) ((L.drop a).take q).length (cap - a)] := by
        have ea : (⟨b, 0, none⟩ : Addr).add (a * 96) = ⟨b, a * 96, none⟩ := by rw [add_addr, Nat.zero_add]
        rw [hpre, hMl, Option.map_some, ea]
      cases he : mm ((L.drop a).take q) with
      | none => rw [he] at hm; cases hm
      | some y =>
        rw [he] at hm
        show Calls P fn #[.slice ((some ⟨b, 0, none⟩ : Option Addr).map (·.add (a * 96))) q (cap - a)] w _
        rw [hval]
        refine (hc b _ _ _ (cap - a) (by omega) (by omega) y he w _ hh).mono ?_
        rintro _ w' ⟨F', v, le, rfl, rfl, hw⟩
        refine ⟨_, rfl, kk y F' he le hm _ _ ⟨hA.1.put hd _, ?_⟩⟩
        have hy := hlen _ _ he
        rw [hMl] at hy
        have hw2 : SH w' F' (star (ownSl 96 (Ex (cArr 96 (cInt .u8))) F' T (some ⟨b, 0, none⟩) cap (L.take a ++ (y.2 ++ L.drop (a + q)))) (stars (hs.eraseIdx i))) := by
          refine hw.mono fun m hm => star_mono_left (fun m' hm' => ⟨?_, h2, .inr ⟨b, rowsF (L.take a ++ (y.2 ++ L.drop (a + q))) ++ post, rfl, ?_, ?_, parts_of_rows⟩⟩) hm
          · rw [List.length_append, List.length_append, hAl, hy, List.length_drop]; omega
          · have e : rowsF (L.take a ++ (y.2 ++ L.drop (a + q))) ++ post = rowsF (L.take a) ++ (rowsF y.2 ++ (rowsF (L.drop (a + q)) ++ post)) := by
              rw [rowsF_app, rowsF_app, List.append_assoc, List.append_assoc]
            rw [e]; exact hm'
          · have e2 := congrArg List.length hcs
            rw [List.length_append, rowsF_len] at e2
            rw [List.length_append, rowsF_len, List.length_append, List.length_append, hAl, hy, List.length_drop]
            omega
        exact SH.push hi hw2
end
end Go.Dec
end

section
namespace Go.Dec
def fnPostOM {G β : Type} (P : Program) (fn : Func) (F : Fz) (R : HP) (ρ : G → β → Fz → Value → Prop) (Hs' : G → β → Fz → List HP) (r : β) : Exit → Act → World → Prop :=
  bodyPostM Fence.wide 0 P fn (fun e w' => ∃ Γ F' v, F ≤ F' ∧ e = .returned v ∧ ρ Γ r F' v ∧ SH w' F' (star (stars (Hs' Γ r F')) R))
theorem CTO.enterM {G β : Type} {P : Program} {f : FuncId} {fn : Func} {c : Code} {args : List Value} {F : Fz} {m : Option β} {ρ : G → β → Fz → Value → Prop} {Hs' : G → β → Fz → List HP} {n : Nat}
    (hf : P.funcs[f]? = some fn) (hb : fn.body = some c) (hn : fn.ntmps = n) (ha : Nat.ble args.length n = true)
    (k : ∀ r R, GC none P c [] (fnPostOM P fn F R ρ Hs' r) (Hd n [] (argS 0 args) F [R]) m r) : CTO P f args.toArray F m ρ Hs' := by
  intro r hm w R hw
  refine (callsIn_wide (n := 0)).1 (callsIn_of_wp_marks hf hb trivial (k r R hm _ w ⟨?_, hw.one⟩))
  rw [hn]; exact sl_enter ha
section
variable {G β : Type} {P : Program} {κ : Option Nat} {n : Nat} {S : List (Nat × Value)} {F F' : Fz} {hs : List HP} {ks : List Kt} {fn : Func} {R : HP} {ρ : G → β → Fz → Value → Prop} {Hs' : G → β → Fz → List HP} {x r : β} {rs : List ResultVar} {vs : List Value} {ms : List (Nat × Nat)}
theorem ret_postOM (Γ : G) (is : List Nat) (ms : List (Nat × Nat)) (hr : fn.results = rs.toArray) (ho : okM hs ms) (h : Res P S F' (shutM hs ms) rs vs) (hi : pickR is (shutM hs ms) = Hs' Γ x F' ++ [R]) (le : F ≤ F') (hρ : ρ Γ x F' (tup vs)) :
    some x = some r → ∀ a w, Hd n (ms.map fun p => dmark p.2) S F' hs a w → fnPostOM P fn F R ρ Hs' r .ret a w := by
  intro e a w ha
  simp only [Option.some.injEq] at e
  subst e
  show LeavesInM _ _ _ _ _ _ a.defers _ _
  rw [ha.1.2.1]
  refine leavesM ha.2 ho fun w' h' => ?_
  exact ⟨_, run_results (n := n) (a := a) (D := a.defers) hr ⟨⟨ha.1.1, rfl, ha.1.2.2⟩, h'⟩ h, Γ, F', _, le, rfl, hρ, h'.mono fun m hm => by
    have h1 := stars_pick (ks := is) hm
    rw [hi] at h1
    exact star_one (stars_app' h1)⟩
end
abbrev CTW {α β : Type} (P : Program) (f : FuncId) (args : Array Value) (F : Fz) (m : Option β) (val : β → Option Addr → Nat → Value) (lst : β → List α) (sz : Nat) (c : α → List Value) (T : TypeId) : Prop :=
  CTO (G := Option Addr × Nat) P f args F m (fun Γ x _ v => v = val x Γ.1 Γ.2) (fun Γ x F' => [ownSl sz (Ex c) F' T Γ.1 Γ.2 (lst x)])
section
variable {α β γ : Type} {P : Program} {f : FuncId} {val : β → Option Addr → Nat → Value} {lst : β → List α} {sz : Nat} {c : α → List Value} {T : TypeId} {F : Fz} {m : Option β}
theorem CTW.frozen {args : Array Value} (h : CTW P f args F m val lst sz c T) : CT0 P f args F m (fun x F' v => ∃ p q, v = val x p q ∧ RepSl sz (Ex c) F' p q (lst x)) := by
  intro r hm w R hw
  refine (h r hm w R hw).mono ?_
  rintro e w' ⟨⟨p, q⟩, F', v, le, rfl, rfl, hS⟩
  have hS2 : SH w' F' (star (ownSl sz (Ex c) F' T p q (lst r)) R) := hS.mono fun m hm => by
    obtain ⟨m1, m2, d, s1, s2, ⟨m3, m4, d2, s3, s4, h1, h2⟩, h3⟩ := hm
    exact ⟨m3, m2, d.sub s3 (Mem.sub.refl _), s3.trans s1, s2, h1, h3⟩
  obtain ⟨F2, le2, h2, h3⟩ := hS2.freezeSl (Fz.le_refl _)
  exact ⟨F2, _, Fz.t le le2, rfl, ⟨p, q, rfl, h3⟩, h2⟩
theorem ret_postON {α : Type} {sz : Nat} {c : ERel α} {T : TypeId} {β : Type} {P : Program} {F : Fz} {n i : Nat} {S : List (Nat × Value)} {F' : Fz} {hs : List HP} {fn : Func} {R : HP} {ρ : Option Addr × Nat → β → Fz → Value → Prop} {Hs' : Option Addr × Nat → β → Fz → List HP} {x r : β} {rs : List ResultVar} {vs : List Value} (ms : List (Nat × Nat)) (hr : fn.results = rs.toArray) (ho : okM hs ms) (h : Res P S F' (shutM hs ms) rs vs) (hi : (shutM hs ms)[i]? = some R) (le : F ≤ F') (hv : ρ (none, 0) x F' (tup vs)) (hl : Hs' (none, 0) x F' = [ownSl sz c F' T none 0 []]) :
    some x = some r → ∀ a w, Hd n (ms.map fun p => dmark p.2) S F' hs a w → fnPostOM P fn F R ρ Hs' r .ret a w := by
  intro e a w ha
  simp only [Option.some.injEq] at e
  subst e
  show LeavesInM _ _ _ _ _ _ a.defers _ _
  rw [ha.1.2.1]
  refine leavesM ha.2 ho fun w' h' => ?_
  refine ⟨_, run_results (n := n) (a := a) (D := a.defers) hr ⟨⟨ha.1.1, rfl, ha.1.2.2⟩, h'⟩ h, (none, 0), F', _, le, rfl, hv, (h'.only hi).mono fun m hm => ?_⟩
  refine ⟨fun _ => none, m, fun _ => .inl rfl, fun _ _ e => by simp at e, Mem.sub.refl _, ?_, hm⟩
  rw [hl]; exact stars_one ownSl_nil
variable {κ : Option Nat} {ops : Array Oper} {rest : List Oper} {ks : List Kt} {Q : Exit → Act → World → Prop} {r : γ}
variable {n : Nat} {D : List Deferred} {S : List (Nat × Value)} {hs : List HP} {d : Nat} {ty : TypeId} {pos : String} {after : Array Edge}
theorem GL.ownLen {m : Option γ} {α : Type} {sz : Nat} {c : ERel α} {T : TypeId} {F0 : Fz} {p : Option Addr} {cap : Nat} {l : List α} {os : List Oper} (i : Nat) (hi : hs[i]? = some (ownSl sz c F0 T p cap l)) (k : l.length ≤ cap → cap ≤ 9223372036854775807 → GL κ P ops os ks Q (Hd n D S F hs) m r) : GL κ P ops os ks Q (Hd n D S F hs) m r :=
  fun hm a w ha => by
    obtain ⟨mm, ⟨m1, m2, dd, s1, s2, ⟨h1, h2, h3⟩, hq⟩, kk⟩ := ha.2.pull hi
    exact k h1 h2 hm a w ha
end
end Go.Dec
end
