/- What the program's Stamps says of a list of events. -/
import Derived.Test.YtbomfcghpajaiaaLc
namespace Go.Proofs.Ytbomfcghpajaiaa
open Go.Dec

def noBook : ApiStampBook := ApiStampBook.mk [] 0 0 0
theorem stamps_prog (l : List ApiStampEvent) (h : l.length ≤ 256) :
    (∃ p x, FirstBad errAt l p x ∧ m_bottle_Stamps l = some (noBook, (p.length : Int), errAt p x)) ∨
    (AllOk errAt l ∧ ∃ hd, Norm hd ∧ (∀ n, mem hd n ↔ hand l n) ∧ hd.length ≤ l.length ∧ m_bottle_Stamps l = some ({ sumB l with Hand := hd }, (l.length : Int), 0)) := by
  unfold m_bottle_Stamps
  simp only [show ¬ ((l.length : Int) > 256) by omega, decide_false, Bool.false_eq_true, if_false]
  have key := loopM_ledger (body := b_bottle_Stamps_1 l) (fun i (t : ApiStampBook × BottlePile × Int) => ((i : Int), t)) errAt (fun i e => .inr (noBook, (i : Int), e)) (fun t => .inl (t.1, t.2.1, t.2.2)) (fun pre t => Inv pre t ∧ t.1 = sumB pre) l
    (fun pre x post t hl _ ht => by
      rcases stamps_step hl h ht.1 ht.2 with ⟨h1, h2⟩ | ⟨h1, t', h2, h3, h4⟩
      · exact .inl ⟨h1, h2⟩
      · exact .inr ⟨h1, t', h2, h3, h4⟩)
    (fun t _ _ => by unfold b_bottle_Stamps_1; simp)
    l [] (noBook, BottlePile.mk [] [], 0) rfl AllOk.nil ⟨⟨Norm.nil, Norm.nil, by simp, by simp, fun n => by simp [mem_nil, cur_nil], fun n => by simp [mem_nil, hand, cur_nil]⟩, rfl⟩
  simp only [List.length_nil, Int.natCast_zero] at key
  rcases key with ⟨p, x, hb, hr⟩ | ⟨ho, t, ⟨hI, hB⟩, hr⟩
  · refine .inl ⟨p, x, hb, ?_⟩
    refine bind_of hr ?_
    rfl
  · refine .inr ⟨ho, t.2.1.hand, hI.nh, hI.mh, hI.lh, ?_⟩
    refine bind_of hr ?_
    have hc : m_slices_Clone_Span t.2.1.hand = some t.2.1.hand := by
      unfold m_slices_Clone_Span
      have := hI.lh
      rw [appO_some (by simp only [List.length_nil]; omega)]
      simp
    simp only [hc, Option.bind_some, bindv, hB]

theorem stamps_long (l : List ApiStampEvent) (h : 256 < l.length) : m_bottle_Stamps l = some (noBook, 0, 3) := by
  unfold m_bottle_Stamps
  simp only [show ((l.length : Int) > 256) by omega, decide_true, if_true]
  rfl

/-! ### Whose -/
theorem errAt_ok {pre : List ApiStampEvent} {x : ApiStampEvent} (h : errAt pre x = 0) : okE x = true ∧ (x.Kind = 0 → ∀ n, has x n → cur pre n = none) ∧ (x.Kind ≠ 0 → ∀ n, has x n → hand pre n) := by
  unfold errAt at h
  split at h
  · cases h
  · rename_i h1
    split at h
    · cases h
    · rename_i h2
      split at h
      · cases h
      · rename_i h3
        refine ⟨by simpa using h1, fun hk n hn => ?_, fun hk n hn => ?_⟩
        · apply Classical.byContradiction
          exact fun hc => h2 ⟨hk, n, hn, hc⟩
        · apply Classical.byContradiction
          exact fun hc => h3 ⟨hk, n, hn, hc⟩
theorem ok_last {l : List ApiStampEvent} {x : ApiStampEvent} (h : AllOk errAt (l ++ [x])) : errAt l x = 0 := h l x [] rfl

/-- What holds of events none of which was refused: a stamp that is stuck stays where it is. -/
theorem whose_ok (n : Int) (l : List ApiStampEvent) : AllOk errAt l → l.find? (fun e => decide (e.Kind = 1 ∧ has e n)) = (cur l n).filter (fun e => decide (e.Kind = 1)) := by
  induction l using snoc_ind with
  | h0 => intro _; rfl
  | hs l x ih =>
    intro h
    have ih := ih h.init
    obtain ⟨_, h0, h1⟩ := errAt_ok (ok_last h)
    rw [List.find?_append, cur_snoc, ih]
    by_cases hn : has x n
    · by_cases hk : x.Kind = 0
      · simp [h0 hk n hn, hn, hk, Option.filter]
      · obtain ⟨e, he, hek⟩ := h1 hk n hn
        rw [he]
        by_cases hk1 : x.Kind = 1
        · simp [hek, hn, hk1, Option.filter]
        · simp [hek, hn, hk1, Option.filter]
    · simp [hn]

def whoOf (l : List ApiStampEvent) (n : Int) : Int × Int := match (cur l n).filter (fun e => decide (e.Kind = 1)) with | some e => (e.Batch, 0) | none => (0, 4)

theorem whose_loop (l : List ApiStampEvent) (n : Int) (h : l.length ≤ 256) : loopM (b_bottle_Whose_1 l n) 0 = some (match l.find? (fun e => decide (e.Kind = 1 ∧ has e n)) with | some e => .inr (e.Batch, 0) | none => .inl ()) := by
  have key := loop_list (body := b_bottle_Whose_1 l n) (fun (_ : Unit) i => (i : Int)) (fun _ _ x => if decide (x.Kind = 1 ∧ has x n) then some (.done (.inr (x.Batch, 0))) else some (.next ())) (fun _ => .inl ()) l
    (fun t i x hx => by
      have hi := lt_of_getEl hx
      unfold b_bottle_Whose_1
      simp only [idxL_nat, hx, Option.bind_some]
      rw [w64_id (by omega) (by omega)]
      simp only [show (decide ((i : Int) < (l.length : Int))) = true by simpa using hi, if_true]
      have e : (x.Kind == 1 && m_bottle_within n x.First x.Last) = decide (x.Kind = 1 ∧ has x n) := by
        rw [Bool.eq_iff_iff, decide_eq_true_iff]
        simp only [Bool.and_eq_true, beq_iff_eq, m_bottle_within, decide_eq_true_eq, ge_iff_le]
        exact Iff.rfl
      rw [e]
      by_cases hc : x.Kind = 1 ∧ has x n <;> simp [hc, Ctl.mapN])
    (fun t => by unfold b_bottle_Whose_1; simp) ()
  simp only [Int.natCast_zero] at key
  rw [key]
  clear key h
  generalize 0 = i
  induction l generalizing i with
  | nil => rfl
  | cons x l ih =>
    simp only [goL, List.find?_cons]
    by_cases hc : x.Kind = 1 ∧ has x n
    · simp [hc]
    · simp only [hc, decide_false, Bool.false_eq_true, if_false]; exact ih (i + 1)

theorem whose_prog {l : List ApiStampEvent} (n : Int) (h : l.length ≤ 256) (ho : AllOk errAt l) : m_bottle_Whose l n = some (whoOf l n) := by
  unfold m_bottle_Whose
  rcases stamps_prog l h with ⟨p, x, hb, _⟩ | ⟨_, hd, _, _, _, hr⟩
  · exact absurd ho hb.not_ok
  · refine bind_of hr ?_
    simp only [bne_self_eq_false, Bool.false_eq_true, if_false]
    rw [whose_loop l n h, whose_ok n l ho]
    unfold whoOf
    cases (cur l n).filter (fun e => decide (e.Kind = 1)) <;> simp
theorem whose_bad {l : List ApiStampEvent} (n : Int) {b : ApiStampBook} {i e : Int} (h : m_bottle_Stamps l = some (b, i, e)) (he : e ≠ 0) : m_bottle_Whose l n = some (0, e) := by
  unfold m_bottle_Whose
  refine bind_of h ?_
  simp only [show (e != 0) = true by simpa using he, if_true]

end Go.Proofs.Ytbomfcghpajaiaa
