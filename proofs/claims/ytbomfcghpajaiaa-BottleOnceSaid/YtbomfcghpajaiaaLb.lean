/- Spans with some more numbers, and without some. -/
import Derived.Test.YtbomfcghpajaiaaLa
namespace Go.Proofs.Ytbomfcghpajaiaa
open Go.Dec

theorem grow_eq (n : Nat) (h : n ≤ 1000000) : m_slices_Grow_Span (n : Int) = some [] := by
  unfold m_slices_Grow_Span
  have e0 : w64 (0 - 0) = 0 := by rw [w64_id] <;> omega
  simp only [show ¬ ((n : Int) < 0) by omega, decide_false, Bool.false_eq_true, if_false, Option.bind_some, bindv, e0]
  rw [show ((n : Int) - 0) = n by omega, w64_id (by omega) (by omega)]
  by_cases hn : (n : Int) > 0
  · simp only [hn, decide_true, if_true]
    have : makeN (n : Int) = some n := by unfold makeN; rw [if_pos (by omega)]; simp
    rw [this]
    simp [sliceL]
  · simp only [hn, decide_false, Bool.false_eq_true, if_false, Option.bind_some]

theorem concat_eq (ls : List (List ApiSpan)) (h : ls.flatten.length ≤ 1000000) (h2 : ls.length ≤ 1000) : m_slices_Concat_Span ls = some ls.flatten := by
  unfold m_slices_Concat_Span
  have k1 := loop_list (body := b_slices_Concat_Span_1 ls) (fun (t : Int) i => (t, (i : Int))) (fun t _ x => if w64 (t + (x.length : Int)) < 0 then none else some (.next (w64 (t + (x.length : Int))))) (fun t => t) ls
    (fun t i x hx => by
      have hi := lt_of_getEl hx
      unfold b_slices_Concat_Span_1
      simp only [idxL_nat, hx, Option.bind_some, bindv]
      rw [w64_id (n := (i : Int) + 1) (by omega) (by omega)]
      simp only [show (decide ((i : Int) < (ls.length : Int))) = true by simpa using hi, if_true]
      by_cases hc : w64 (t + (x.length : Int)) < 0 <;> simp [hc, Ctl.mapN])
    (fun t => by unfold b_slices_Concat_Span_1; simp) 0
  have k2 := loop_list (body := b_slices_Concat_Span_2 ls) (fun (t : List ApiSpan) i => (t, (i : Int))) (fun t _ x => (appO t x).map .next) (fun t => t) ls
    (fun t i x hx => by
      have hi := lt_of_getEl hx
      unfold b_slices_Concat_Span_2
      simp only [idxL_nat, hx, Option.bind_some]
      rw [w64_id (n := (i : Int) + 1) (by omega) (by omega)]
      simp only [show (decide ((i : Int) < (ls.length : Int))) = true by simpa using hi, if_true]
      cases appO t x <;> simp [Ctl.mapN])
    (fun t => by unfold b_slices_Concat_Span_2; simp) []
  simp only [Int.natCast_zero] at k1 k2
  have g1 : ∀ (l : List (List ApiSpan)) (i : Nat) (t : Int), 0 ≤ t → t + l.flatten.length ≤ 1000000 → goL (fun (t : Int) _ (x : List ApiSpan) => if w64 (t + (x.length : Int)) < 0 then none else some (.next (w64 (t + (x.length : Int))))) (fun t => t) l i t = some (t + l.flatten.length) := by
    intro l
    induction l with
    | nil => intro i t h0 h1; simp [goL]
    | cons x l ih =>
      intro i t h0 h1
      simp only [List.flatten_cons, List.length_append, Int.natCast_add] at h1
      have e : w64 (t + (x.length : Int)) = t + x.length := w64_id (by omega) (by omega)
      simp only [goL, e, show ¬ (t + (x.length : Int) < 0) by omega, if_false]
      rw [ih _ _ (by omega) (by omega)]
      simp; omega
  have g2 : ∀ (l : List (List ApiSpan)) (i : Nat) (t : List ApiSpan), t.length + l.flatten.length ≤ 1000000 → goL (fun t _ x => (appO t x).map .next) (fun t => t) l i t = some (t ++ l.flatten) := by
    intro l
    induction l with
    | nil => intro i t h0; simp [goL]
    | cons x l ih =>
      intro i t h1
      simp only [List.flatten_cons, List.length_append] at h1
      have e : appO t x = some (t ++ x) := by unfold appO; rw [if_pos (by omega)]
      simp only [goL, e, Option.map_some]
      rw [ih _ _ (by rw [List.length_append]; omega)]
      simp
  rw [k1, g1 ls 0 0 (by omega) (by omega)]
  simp only [Option.bind_some, Int.zero_add]
  rw [grow_eq _ h]
  simp only [Option.bind_some]
  rw [k2, g2 ls 0 [] (by simpa using h)]
  simp

def okS (x : ApiSpan) : Prop := 0 ≤ x.Lo ∧ x.Lo ≤ x.Hi ∧ x.Hi ≤ 1099511627776

def mstep (t : ApiSpan) (i : Nat) (y : ApiSpan) : Option (Ctl ApiSpan (Int × ApiSpan)) :=
  if y.Lo ≤ t.Hi + 1 then some (.next (ApiSpan.mk (imin t.Lo y.Lo) (imax t.Hi y.Hi))) else some (.done ((i : Int), t))

theorem merge_spec : ∀ (r : List ApiSpan) (i : Nat) (x : ApiSpan), Norm r → okS x → (∀ y ∈ r, x.Lo ≤ y.Hi + 1) →
    ∃ r1 r2 x', r = r1 ++ r2 ∧ goL mstep (fun t => ((i + r.length : Nat), t)) r i x = some (((i + r1.length : Nat) : Int), x') ∧ okS x' ∧ (∀ z ∈ r2, x'.Hi + 1 < z.Lo) ∧ (∀ n, inS x' n ↔ inS x n ∨ mem r1 n) ∧ (∀ b, b < x.Lo → (∀ y ∈ r, b < y.Lo) → b < x'.Lo)
  | [], i, x, _, hx, _ => ⟨[], [], x, rfl, by simp [goL], hx, by simp, fun n => by simp [mem], fun b hb _ => hb⟩
  | y :: r, i, x, hr, hx, hy => by
    have oy := hr.ok y (by simp)
    have hy0 := hy y (by simp)
    have hap := (List.pairwise_cons.1 hr.apart).1
    by_cases hc : y.Lo ≤ x.Hi + 1
    · have ox : okS (ApiSpan.mk (imin x.Lo y.Lo) (imax x.Hi y.Hi)) := by
        simp only [okS, imin, imax] at hx ⊢
        split <;> split <;> omega
      obtain ⟨r1, r2, x', e, hg, h1, h2, h3, h4⟩ := merge_spec r (i + 1) (ApiSpan.mk (imin x.Lo y.Lo) (imax x.Hi y.Hi)) hr.tail ox (fun z hz => by
        have := hap z hz
        have oz := hr.ok z (by simp [hz])
        have := hy z (by simp [hz])
        show imin x.Lo y.Lo ≤ z.Hi + 1
        simp only [imin]; split <;> omega)
      refine ⟨y :: r1, r2, x', by rw [e]; rfl, ?_, h1, h2, fun n => ?_, fun b hb hbr => ?_⟩
      · simp only [goL, mstep, hc, if_true]
        rw [show (i + (y :: r).length) = (i + 1 + r.length) by simp; omega, show (i + (y :: r1).length) = (i + 1 + r1.length) by simp; omega]
        exact hg
      · rw [h3 n, mem_cons]
        simp only [okS] at hx
        simp only [inS, imin, imax]
        constructor
        · rintro (h | h)
          · by_cases h5 : x.Lo ≤ n ∧ n ≤ x.Hi
            · exact .inl h5
            · refine .inr (.inl ?_)
              split at h <;> split at h <;> omega
          · exact .inr (.inr h)
        · rintro (h | h | h)
          · left; split <;> split <;> omega
          · left; split <;> split <;> omega
          · exact .inr h
      · apply h4
        · have := hbr y (by simp)
          show b < imin x.Lo y.Lo
          simp only [imin]; split <;> omega
        · exact fun z hz => hbr z (by simp [hz])
    · refine ⟨[], y :: r, x, rfl, ?_, hx, fun z hz => ?_, fun n => by simp [mem], fun b hb _ => hb⟩
      · simp only [goL, mstep, hc, if_false]; simp
      · rcases List.mem_cons.1 hz with rfl | hz
        · omega
        · have := hap z hz; omega

theorem while_spec (f : ApiSpan → Bool) : ∀ (r : List ApiSpan) (i : Nat), goL (fun (_ : Unit) i x => if f x then some (.next ()) else some (.done (i : Int))) (fun _ => ((i + r.length : Nat) : Int)) r i () = some ((i + (r.takeWhile f).length : Nat) : Int)
  | [], i => by simp [goL]
  | x :: r, i => by
    cases hf : f x with
    | true =>
      simp only [goL, hf, if_true, List.takeWhile_cons, List.length_cons]
      have := while_spec f r (i + 1)
      rw [show i + (r.length + 1) = i + 1 + r.length by omega, show i + ((r.takeWhile f).length + 1) = i + 1 + (r.takeWhile f).length by omega]
      exact this
    | false => simp [goL, hf]

theorem with_spec {s : List ApiSpan} {x : ApiSpan} (hn : Norm s) (hl : s.length ≤ 1000) (hx : okS x) :
    ∃ s', m_bottle_spans_with s x = some s' ∧ Norm s' ∧ s'.length ≤ s.length + 1 ∧ ∀ n, mem s' n ↔ mem s n ∨ inS x n := by
  unfold m_bottle_spans_with
  have hx' := hx
  simp only [okS] at hx'
  have k1 := loop_list (body := b_bottle_spans_with_1 s x) (fun (_ : Unit) i => (i : Int)) (fun _ i y => if decide (y.Hi < x.Lo - 1) then some (.next ()) else some (.done (i : Int))) (fun _ => ((0 + s.length : Nat) : Int)) s
    (fun t i y hy => by
      have hi := lt_of_getEl hy
      unfold b_bottle_spans_with_1
      simp only [idxL_nat, hy, Option.bind_some, bindv]
      rw [w64_id (n := (i : Int) + 1) (by omega) (by omega), w64_id (n := x.Lo - 1) (by omega) (by omega)]
      simp only [show (decide ((i : Int) < (s.length : Int))) = true by simpa using hi, if_true, Option.bind_some]
      by_cases hc : y.Hi < x.Lo - 1 <;> simp [hc, Ctl.mapN])
    (fun t => by unfold b_bottle_spans_with_1; simp) ()
  simp only [Int.natCast_zero] at k1
  rw [k1, while_spec]
  simp only [Option.bind_some, Nat.zero_add]
  generalize hw : (fun y : ApiSpan => decide (y.Hi < x.Lo - 1)) = f
  generalize hs1 : s.takeWhile f = s1
  generalize hs2 : s.dropWhile f = s2
  have hs : s = s1 ++ s2 := by rw [← hs1, ← hs2, List.takeWhile_append_dropWhile]
  have hsp := hs ▸ hn
  obtain ⟨n1, n2, n12⟩ := hsp.split
  have h1 : ∀ y ∈ s1, y.Hi < x.Lo - 1 := by
    intro y hy
    rw [← hs1] at hy
    have := List.all_takeWhile (p := f) (l := s)
    rw [List.all_eq_true] at this
    have := this y hy
    rw [← hw] at this
    simpa using this
  have h2 : ∀ y ∈ s2, x.Lo ≤ y.Hi + 1 := by
    intro y hy
    cases h : s2 with
    | nil => rw [h] at hy; cases hy
    | cons z r =>
      have hz : ¬ z.Hi < x.Lo - 1 := by
        have := List.head?_dropWhile_not (p := f) (l := s)
        rw [hs2, h] at this
        simp at this
        rw [← hw] at this
        simpa using this
      rw [h] at hy n2
      rcases List.mem_cons.1 hy with rfl | hy
      · omega
      · have := (List.pairwise_cons.1 n2.apart).1 y hy
        have oy := n2.ok y (by simp [hy])
        have oz := n2.ok z (by simp)
        omega
  obtain ⟨r1, r2, x', er, hg, hx1, hx2, hx3, hx4⟩ := merge_spec s2 s1.length x n2 hx h2
  have k2 := loop_list_inv (body := b_bottle_spans_with_2 s) (fun (t : ApiSpan) i => ((i : Int), t)) mstep (fun t => (((s1.length + s2.length : Nat) : Int), t)) s (fun _ t => okS t)
    (fun t i y hy ot => by
      have hi := lt_of_getEl hy
      have oy : okS y := hn.ok y (List.mem_of_getElem? hy)
      simp only [okS] at ot oy
      unfold b_bottle_spans_with_2 mstep
      simp only [idxL_nat, hy, Option.bind_some, bindv]
      rw [w64_id (n := (i : Int) + 1) (by omega) (by omega), w64_id (n := t.Hi + 1) (by omega) (by omega)]
      simp only [show (decide ((i : Int) < (s.length : Int))) = true by simpa using hi, if_true, Option.bind_some]
      by_cases hc : y.Lo ≤ t.Hi + 1 <;> simp [hc, Ctl.mapN])
    (fun t i y t' hy ot h => by
      have oy : okS y := hn.ok y (List.mem_of_getElem? hy)
      unfold mstep at h
      split at h
      · simp only [Option.some.injEq, Ctl.next.injEq] at h
        subst h
        simp only [okS, imin, imax] at ot oy ⊢
        split <;> split <;> omega
      · simp at h)
    (fun t _ => by unfold b_bottle_spans_with_2; rw [hs]; simp) s2.length s1.length x (by rw [hs]; simp) hx
  have hd : s.drop s1.length = s2 := by rw [hs]; simp
  rw [k2, hd, hg]
  simp only [Option.bind_some]
  have hlen : s.length = s1.length + r1.length + r2.length := by rw [hs, er]; simp; omega
  have e1 : sliceL s 0 (s1.length : Int) = some s1 := by
    unfold sliceL; rw [if_pos (by omega)]; rw [hs]; simp
  have e2 : sliceL s ((s1.length + r1.length : Nat) : Int) (s.length : Int) = some r2 := by
    unfold sliceL; rw [if_pos (by omega)]
    simp only [Int.toNat_natCast]
    rw [hs, er]
    congr 1
    rw [← List.append_assoc, List.drop_append_of_le_length (by simp)]
    rw [List.drop_of_length_le (by simp), List.nil_append]
    apply List.take_of_length_le
    simp only [List.length_append]
    omega
  rw [e1, e2]
  simp only [Option.bind_some]
  rw [concat_eq _ (by simp; omega) (by simp)]
  refine ⟨s1 ++ x' :: r2, by simp, ?_, by simp; omega, fun n => ?_⟩
  · rw [er] at n2 n12
    obtain ⟨m1, m2, m12⟩ := n2.split
    refine n1.append (m2.mk_cons hx1 hx2) fun a ha b hb => ?_
    rcases List.mem_cons.1 hb with rfl | hb
    · have oa := n1.ok a ha
      apply hx4
      · have := h1 a ha; omega
      · intro y hy
        rw [er] at hy
        exact n12 a ha y hy
    · exact n12 a ha b (by simp [hb])
  · rw [mem_append, mem_cons, hx3, hs, er, mem_append, mem_append]
    constructor
    · rintro (h | (h | h) | h)
      · exact .inl (.inl h)
      · exact .inr h
      · exact .inl (.inr (.inl h))
      · exact .inl (.inr (.inr h))
    · rintro ((h | h | h) | h)
      · exact .inl h
      · exact .inr (.inl (.inr h))
      · exact .inr (.inr h)
      · exact .inr (.inl (.inl h))

end Go.Proofs.Ytbomfcghpajaiaa
