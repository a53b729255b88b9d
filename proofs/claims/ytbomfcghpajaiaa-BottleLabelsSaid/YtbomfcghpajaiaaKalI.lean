/- A region that draws its order, whose last operations wait for all others but not for each other. No program. -/
import Derived.Test.YtbomfcghpajaiaaKalH
namespace Go.Dec
variable {κ : Option Nat}

/-- An operation that calls nothing. -/
def simpleOp : Op → Bool
  | .assign _ | .move _ | .store .. | .fieldAddr .. | .indexAddr .. | .binOp .. | .unOp .. | .extract .. | .build .. | .load .. => true
  | _ => false

theorem simple_run {P : Program} {ρ : Operand → Value} {o : Oper} (h : simpleOp o.op = true) (w : World) : (∃ v w', (execOp ρ o).run P w = .ok (.value v) w') ∨ (∃ w', (execOp ρ o).run P w = .ok .skip w') ∨ ∃ x w', (execOp ρ o).run P w = .halt x w' := by
  have hv : ∀ s : Sem Value, (∃ v w', (do pure (.value (← s)) : Sem Next).run P w = .ok (.value v) w') ∨ (∃ w', (do pure (.value (← s)) : Sem Next).run P w = .ok .skip w') ∨ ∃ x w', (do pure (.value (← s)) : Sem Next).run P w = .halt x w' := fun s => by
    rw [Sem.run_bind]
    cases s.run P w with
    | ok v w' => exact .inl ⟨v, w', rfl⟩
    | halt x w' => exact .inr (.inr ⟨x, w', rfl⟩)
  have hu : ∀ s : Sem Unit, (∃ v w', (do s; pure .skip : Sem Next).run P w = .ok (.value v) w') ∨ (∃ w', (do s; pure .skip : Sem Next).run P w = .ok .skip w') ∨ ∃ x w', (do s; pure .skip : Sem Next).run P w = .halt x w' := fun s => by
    rw [Sem.run_bind]
    cases s.run P w with
    | ok v w' => exact .inr (.inl ⟨w', rfl⟩)
    | halt x w' => exact .inr (.inr ⟨x, w', rfl⟩)
  obtain ⟨dst, op, ty, pos, after, guard⟩ := o
  cases op <;> simp only [simpleOp, Bool.false_eq_true] at h <;> simp only [execOp] <;> first | exact hv _ | exact hu _ | exact .inl ⟨_, w, rfl⟩

section
variable {β : Type} {P : Program} {ks : List Kt} {Q : Exit → Act → World → Prop} {m : Option β} {r : β}
variable {n : Nat} {D : List Deferred} {S0 : List (Nat × Value)} {F : Fz} {hs : List HP}

/-- One operation, what follows being many things at once. -/
theorem step_all {ι : Type} {ops : Array Oper} {o : Oper} {a : Act} {w : World} {L : ι → List Oper} {p : ι → Prop} (i0 : ι) (h0 : p i0) (hsimple : simpleOp o.op = true) (h : ∀ i, p i → wpL κ P ops Q (o :: L i) a w) :
    if Region.wanted o (yielded ops a.tmps) then opW κ P o a w (fun a' w' => ∀ i, p i → wpL κ P ops Q (L i) a' w') Q else (∀ i, p i → wpL κ P ops Q (L i) (a.put o.dst undef) w) := by
  split
  · rename_i hw
    have h' : ∀ i, p i → opW κ P o a w (wpL κ P ops Q (L i)) Q := fun i hi => by
      have := h i hi
      unfold wpL at this
      rw [if_pos hw] at this
      exact this
    refine ⟨(h' i0 h0).1, ?_⟩
    rcases simple_run (P := P) (ρ := a.eval) hsimple w with ⟨v, w', e⟩ | ⟨w', e⟩ | ⟨x, w', e⟩
    · rw [e]; exact fun i hi => by have := (h' i hi).2; rw [e] at this; exact this
    · rw [e]; exact fun i hi => by have := (h' i hi).2; rw [e] at this; exact this
    · have := (h' i0 h0).2
      rw [e] at this ⊢
      cases x <;> simp only [Oper.uponIn] at this ⊢ <;> exact this
  · rename_i hw
    intro i hi
    have := h i hi
    unfold wpL at this
    rw [if_neg hw] at this
    exact this

def tailFree : Nat → Nat → List Oper → Bool
  | _, _, [] => true
  | m, i, o :: l => (List.range m).all (fun j => o.after.toList.any fun e => Nat.beq e.on j && Region.binds .any e) && simpleOp o.op && tailFree m (i + 1) l
theorem tailFree_spec : ∀ {m k : Nat} {l : List Oper}, tailFree m k l = true → ∀ (i : Nat) (o : Oper), l[i]? = some o → (∀ j, j < m → ∃ e ∈ o.after, e.on = j ∧ Region.binds .any e = true) ∧ simpleOp o.op = true
  | _, _, [], _, i, o, h => by simp at h
  | m, k, x :: l, hb, 0, o, h => by
    simp at h; subst h
    simp only [tailFree, Bool.and_eq_true, List.all_eq_true, List.mem_range, List.any_eq_true] at hb
    refine ⟨fun j hj => ?_, hb.1.2⟩
    obtain ⟨e, he, h1, h2⟩ := hb.1.1 j hj
    exact ⟨e, by simpa using he, Nat.eq_of_beq_eq_true h1, h2⟩
  | m, k, x :: l, hb, i + 1, o, h => by
    simp only [tailFree, Bool.and_eq_true] at hb
    exact tailFree_spec hb.2 i o (by simpa using h)

theorem GC.drawP {id : Nat} {l : List Oper} (al : New) (V : List (Nat × Value)) (hm : P.follows .mixedOrders = true) (hord : ordB 0 l = true) (htail : tailFree V.length 0 (l.drop V.length) = true)
    (hlen : Nat.blt V.length l.length = true) (hkeys : keysB S0 V = true)
    (hops : OpsOK κ P l.toArray n D S0 F hs al V 0 (l.take V.length))
    (tail : ∀ F' b, F ≤ F' → ∀ ord : List Oper, ord.Perm (l.drop V.length) → GL κ P l.toArray ord ks Q (Hd n D (outS al b 0 V S0) F' (hs ++ newH al b V.length)) m r) :
    GC κ P (.region id l.toArray true) ks Q (Hd n D S0 F hs) m r := by
  intro hmr a w ha
  have hlen' : V.length < l.length := Nat.le_of_ble_eq_true hlen
  -- what is left of the tail, by what has come
  let left : (Nat → Bool) → List Oper := fun L => ((List.range' V.length (l.length - V.length)).filter (fun i => !L i)).map (fun i => l.getD i default)
  let Free : (Nat → Bool) → Act → World → Prop := fun L a w => (∀ i, V.length ≤ i → L i = false) ∧ ∃ F' S X, F ≤ F' ∧ Sub S0 S ∧ (∀ (i d : Nat) (v : Value), L i = true → Nat.beq al.at_ i = false → V[i]? = some (d, v) → lookS S d = some v) ∧ XOK al L S X ∧ (L al.at_ = true → ∃ v, V[al.at_]? = some (al.d, v)) ∧ Hd n D S F' (hs ++ X) a w
  let Inv : (Nat → Bool) → Act → World → Prop := fun L a w => Free L a w ∨ ((∀ j, j < V.length → L j = true) ∧ (∃ i, V.length ≤ i ∧ L i = true) ∧ ∀ ord : List Oper, ord.Perm (left L) → wpL κ P l.toArray (interp κ P ks Q) ord a w)
  have hleft0 : ∀ L : Nat → Bool, (∀ i, V.length ≤ i → L i = false) → left L = l.drop V.length := by
    intro L hL
    show ((List.range' V.length (l.length - V.length)).filter (fun i => !L i)).map (fun i => l.getD i default) = _
    have : (List.range' V.length (l.length - V.length)).filter (fun i => !L i) = List.range' V.length (l.length - V.length) :=
      List.filter_eq_self.2 fun i hi => by
        have := List.mem_range'_1.1 hi
        simp [hL i this.1]
    rw [this]
    apply List.ext_getElem?
    intro k
    simp only [List.getElem?_map, List.getElem?_drop]
    by_cases hk : k < l.length - V.length
    · have hi : V.length + k < l.length := by omega
      simp [hk, List.getD, hi]
    · simp [hk]; omega
  have hend0 : ∀ L a w, (∀ i, i < V.length → L i = true) → Free L a w → ∀ ord : List Oper, ord.Perm (l.drop V.length) → wpL κ P l.toArray (interp κ P ks Q) ord a w := by
    rintro L a w hall ⟨hout, F', S, X, le, hS, hV, hX, hal, hA⟩ ord hperm
    have hX' : ∃ b, Sub (outS al b 0 V S0) S ∧ X = newH al b V.length := by
      by_cases hin : al.at_ < V.length
      · have hL := hall _ hin
        unfold XOK at hX
        rw [if_pos hL] at hX
        obtain ⟨b, h1, h2⟩ := hX
        obtain ⟨v0, hv0⟩ := hal hL
        refine ⟨b, sub_outS hS fun i d v e => ?_, ?_⟩
        · simp only [Nat.zero_add]
          cases hb : Nat.beq al.at_ i with
          | true =>
            have : al.at_ = i := Nat.eq_of_beq_eq_true hb
            subst this
            rw [hv0] at e
            simp only [Option.some.injEq, Prod.mk.injEq] at e
            rw [← e.1]; exact h1
          | false =>
            refine hV i d v (hall i ?_) hb e
            rcases Nat.lt_or_ge i V.length with h | h
            · exact h
            · rw [List.getElem?_eq_none h] at e; cases e
        · have : Nat.blt al.at_ V.length = true := Nat.ble_eq_true_of_le hin
          simp [newH, this, h2]
      · have hL := hout al.at_ (by omega)
        unfold XOK at hX
        rw [if_neg (by simp [hL])] at hX
        refine ⟨0, sub_outS hS fun i d v e => ?_, ?_⟩
        · have hi : i < V.length := by
            rcases Nat.lt_or_ge i V.length with h | h
            · exact h
            · rw [List.getElem?_eq_none h] at e; cases e
          simp only [Nat.zero_add]
          cases hb : Nat.beq al.at_ i with
          | true => have : al.at_ = i := Nat.eq_of_beq_eq_true hb; omega
          | false => exact hV i d v (hall i hi) hb e
        · have : Nat.blt al.at_ V.length = false := by
            cases h : Nat.blt al.at_ V.length with
            | false => rfl
            | true => exact absurd (Nat.le_of_ble_eq_true h) hin
          simp [newH, this, hX]
    obtain ⟨b, hs1, rfl⟩ := hX'
    exact tail F' b le ord hperm hmr a w ⟨hA.1.sub hs1, hA.2⟩
  refine wp_region_inv hm Inv (fun i o h e he hb => by have := ordB_spec hord i o (by simpa using h) e he hb; omega) ?_ ?_ ?_
  · refine .inl ⟨fun _ _ => rfl, F, S0, [], Fz.le_refl F, Sub.refl _, fun i d v h => by simp at h, ?_, fun h => by simp at h, ha.1, ?_⟩
    · unfold XOK; simp
    · rw [List.append_nil]; exact ha.2.drew _
  · intro L a w i o ho hLi hdeps hI
    have ho' : l[i]? = some o := by simpa using ho
    have hil : i < l.length := by
      rcases Nat.lt_or_ge i l.length with h | h
      · exact h
      · rw [List.getElem?_eq_none h] at ho'; cases ho'
    by_cases hi : i < V.length
    · -- a free operation
      rcases hI with hF | ⟨hall, _⟩
      case inr => have := hall i hi; rw [hLi] at this; cases this
      obtain ⟨hout, F', S, X, le, hS, hV, hX, hal, hA⟩ := hF
      have hop := OpsOK.get hops i o (by rw [List.getElem?_take]; simp [hi, ho'])
      simp only [Nat.zero_add] at hop
      have houtL : ∀ j, V.length ≤ j → updB L i j = false := fun j hj => by
        simp only [updB]; rw [if_neg (by omega)]; exact hout j hj
      cases hb : Nat.beq al.at_ i with
      | true =>
        have hai : al.at_ = i := Nat.eq_of_beq_eq_true hb
        unfold OpOK at hop
        rw [hb] at hop
        obtain ⟨ty, pos, after, z, rfl, hd, hz, hc, v0, hv0⟩ := hop
        rw [if_pos (by simp [Region.wanted])]
        refine ⟨.inr rfl, ?_⟩
        have hrun : (execOp a.eval ⟨some al.d, .alloc al.T, ty, pos, after, none⟩).run P w = .ok (.value (.pointer (some ⟨w.heap.size, 0, none⟩))) (w.alloc (.cells al.cs.toArray al.T)) := by
          simp [execOp, Instr.alloc, hz, newVar, newRow, hc]
        rw [hrun]
        have hL0 : L al.at_ = false := by rw [hai]; exact hLi
        unfold XOK at hX
        rw [if_neg (by simp [hL0])] at hX
        subst hX
        refine .inl ⟨houtL, F', (al.d, .pointer (some ⟨w.heap.size, 0, none⟩)) :: S, [pt w.heap.size (.cells al.cs.toArray al.T)], le, sub_push hS (keysB_fresh hkeys i al.d v0 hv0) _, ?_, ?_, ?_, hA.1.put hd _, ?_⟩
        · intro j d v hj hbj e
          have hji : j ≠ i := fun h => by subst h; rw [hb] at hbj; cases hbj
          have hne : al.d ≠ d := fun h => by subst h; exact hji (keysB_inj hkeys j i _ _ _ e hv0)
          refine look_push hne (hV j d v ?_ hbj e)
          simpa [updB, hji] using hj
        · unfold XOK
          rw [if_pos (by simp [updB, hai])]
          exact ⟨_, look_self, rfl⟩
        · intro _; rw [hai]; exact ⟨v0, hv0⟩
        · have h2 := (hA.2.alloc (.cells al.cs.toArray al.T))
          refine h2.mono fun m' hm' => ?_
          simp only [List.append_nil] at hm'
          exact GC.draw.stars_append_one (hs := hs) hm'
      | false =>
        unfold OpOK at hop
        rw [hb] at hop
        obtain ⟨d, v, Si, hv, hdst, hn, hSi, hstep⟩ := hop
        have hsub := hSi S hS (depsOK_mk fun e he hbi hbn d v hv => hV e.on d v (hdeps e (by simpa using he) hbi) hbn hv)
        have h1 := seg_frame hdst hn hA.1 (hstep F' X le rfl a w ⟨hA.1.sub hsub, hA.2⟩)
        refine wp_of_seg (fun e a w hne hq => absurd hq.1 hne) (fun a' w' hq => ?_) h1
        obtain ⟨_, F'', le', hA'⟩ := hq
        refine .inl ⟨houtL, F'', (d, v) :: S, X, Fz.le_trans le le', sub_push hS (keysB_fresh hkeys i d v hv) _, ?_, ?_, ?_, hA'⟩
        · intro j d' v' hj hbj e
          by_cases hji : j = i
          · subst hji
            rw [hv] at e; simp only [Option.some.injEq, Prod.mk.injEq] at e
            obtain ⟨rfl, rfl⟩ := e
            exact look_self
          · have hne : d ≠ d' := fun h => by subst h; exact hji (keysB_inj hkeys j i _ _ _ e hv)
            exact look_push hne (hV j d' v' (by simpa [updB, hji] using hj) hbj e)
        · have hai : al.at_ ≠ i := fun h => by subst h; simp at hb
          unfold XOK at hX ⊢
          have hu : updB L i al.at_ = L al.at_ := by simp [updB, hai]
          rw [hu]
          split
          · rename_i hL
            rw [if_pos hL] at hX
            obtain ⟨b, hb1, hb2⟩ := hX
            obtain ⟨v0, hv0⟩ := hal hL
            have hne : d ≠ al.d := fun h => by subst h; exact hai (keysB_inj hkeys _ _ _ _ _ hv0 hv)
            exact ⟨b, look_push hne hb1, hb2⟩
          · rename_i hL
            rw [if_neg hL] at hX; exact hX
        · intro hL
          have hai : al.at_ ≠ i := fun h => by subst h; simp at hb
          exact hal (by simpa [updB, hai] using hL)
    · -- the tail
      have hts := tailFree_spec htail (i - V.length) o (by rw [List.getElem?_drop]; rw [show V.length + (i - V.length) = i by omega]; exact ho')
      have hall : ∀ j, j < V.length → L j = true := fun j hj => by
        obtain ⟨e, he, h1, h2⟩ := hts.1 j hj
        rw [← h1]; exact hdeps e he h2
      have hw : ∀ ord : List Oper, ord.Perm (left L) → wpL κ P l.toArray (interp κ P ks Q) ord a w := by
        rcases hI with hF | ⟨_, _, hwp⟩
        · rw [hleft0 L hF.1]; exact hend0 L a w hall hF
        · exact hwp
      have hgo : l.getD i default = o := by simp [List.getD, ho']
      have hperm : (o :: left (updB L i)).Perm (left L) := by
        have hp := (perm_filter i (List.nodup_range' (step := 1)) (List.mem_range'_1.2 ⟨show V.length ≤ i by omega, show i < V.length + (l.length - V.length) by omega⟩) hLi).map (fun i => l.getD i default)
        rw [← hgo]
        exact hp
      have hstep := step_all (P := P) (Q := interp κ P ks Q) (ops := l.toArray) (o := o) (a := a) (w := w) (L := fun ord : List Oper => ord) (p := fun ord => ord.Perm (left (updB L i))) (left (updB L i)) (List.Perm.refl _) hts.2 (fun ord hp => hw _ ((List.Perm.cons o hp).trans hperm))
      have hnext : ∀ a' w', (∀ ord : List Oper, ord.Perm (left (updB L i)) → wpL κ P l.toArray (interp κ P ks Q) ord a' w') → Inv (updB L i) a' w' := fun a' w' h =>
        .inr ⟨fun j hj => by simp only [updB]; split; rfl; exact hall j hj, ⟨i, by omega, by simp [updB]⟩, h⟩
      split
      · rename_i hwn
        rw [if_pos hwn] at hstep
        exact opW_mono hnext hstep
      · rename_i hwn
        rw [if_neg hwn] at hstep
        exact hnext _ _ hstep
  · intro L a w hall hI
    rcases hI with hF | ⟨_, _, hwp⟩
    · have := hall V.length (by simpa using hlen'); rw [hF.1 _ (Nat.le_refl _)] at this; cases this
    · have : left L = [] := by
        show ((List.range' V.length (l.length - V.length)).filter (fun i => !L i)).map _ = []
        rw [List.filter_eq_nil_iff.2 fun i hi => by
          have := List.mem_range'_1.1 hi
          simp [hall i (by simp; omega)]]
        rfl
      have h := hwp [] (by rw [this])
      exact h
where
  perm_filter {L : Nat → Bool} (i : Nat) {xs : List Nat} (hn : xs.Nodup) (hi : i ∈ xs) (hL : L i = false) : (i :: xs.filter (fun j => !updB L i j)).Perm (xs.filter (fun j => !L j)) := by
    induction xs with
    | nil => cases hi
    | cons x xs ih =>
      rw [List.nodup_cons] at hn
      by_cases hx : x = i
      · subst hx
        have e : xs.filter (fun j => !updB L x j) = xs.filter (fun j => !L j) := List.filter_congr fun j hj => by
          have : j ≠ x := fun h => hn.1 (h ▸ hj)
          simp [updB, this]
        rw [List.filter_cons_of_neg (by simp [updB]), List.filter_cons_of_pos (by simp [hL]), e]
      · have hi' : i ∈ xs := by
          rcases List.mem_cons.1 hi with h | h
          · exact absurd h.symm hx
          · exact h
        have ih' := ih hn.2 hi'
        have ex : updB L i x = L x := by simp [updB, hx]
        simp only [List.filter_cons, ex]
        split
        · exact (List.Perm.swap x i _).trans (List.Perm.cons x ih')
        · exact ih'
end
theorem perm2 {α : Type} {a b : α} {l : List α} (h : l.Perm [a, b]) : l = [a, b] ∨ l = [b, a] := by
  have hl := h.length_eq
  match l, hl with
  | [x, y], _ =>
    have h1 : x ∈ [a, b] := h.subset (by simp)
    have h2 : a ∈ [x, y] := h.symm.subset (by simp)
    have h3 : b ∈ [x, y] := h.symm.subset (by simp)
    simp only [List.mem_cons, List.not_mem_nil, or_false] at h1 h2 h3
    rcases h1 with rfl | rfl
    · left
      have : [y].Perm [b] := (List.perm_cons x).1 h
      have := List.perm_singleton.1 this
      simpa using this
    · right
      have h' : [x, y].Perm [x, a] := h.trans (List.Perm.swap x a [])
      have : [y].Perm [a] := (List.perm_cons x).1 h'
      have := List.perm_singleton.1 this
      simpa using this
end Go.Dec
