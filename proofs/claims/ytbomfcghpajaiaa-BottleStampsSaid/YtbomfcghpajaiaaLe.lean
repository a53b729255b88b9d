/- What the document's Stamps says of a list of events. -/
import Derived.Test.YtbomfcghpajaiaaLd
import Derived.Test.YtbomfcghpajaiaaS4
namespace Go.Proofs.Ytbomfcghpajaiaa
open Go.Dec

/-- Valid numbers: what an argument of the law may hold ahead of any test. -/
def okN (x : ApiStampEvent) : Prop := -9223372036854775808 ≤ x.First ∧ x.First ≤ 9223372036854775807 ∧ -9223372036854775808 ≤ x.Last ∧ x.Last ≤ 9223372036854775807

def hasB (e : ApiStampEvent) (n : Int) : Bool := decide (has e n)
theorem ev_eq (x : ApiStampEvent) : m_wormtubref12_Event x = okE x := by
  rw [Bool.eq_iff_iff, okE_iff]
  simp only [m_wormtubref12_Event, m_wormtubref12_in, Bool.and_eq_true, Bool.or_eq_true, decide_eq_true_eq, bne_iff_ne, ne_eq]
  constructor
  · rintro ⟨h1, h2⟩
    refine ⟨by omega, fun h => ?_, by omega⟩
    rcases h2 with h2 | h2
    · exact absurd h h2
    · omega
  · rintro ⟨h1, h2, h3⟩
    refine ⟨by omega, ?_⟩
    by_cases h : x.Kind = 1
    · right; have := h2 h; omega
    · left; exact h

/-! ### last -/
def lastI (l : List ApiStampEvent) (n : Int) : Int := (l.foldl (fun (p : Int × Int) e => (if has e n then p.2 else p.1, p.2 + 1)) ((-1 : Int), (0 : Int))).1
theorem lastI_snd (l : List ApiStampEvent) (n : Int) : (l.foldl (fun (p : Int × Int) e => (if has e n then p.2 else p.1, p.2 + 1)) ((-1 : Int), (0 : Int))).2 = l.length := by
  induction l using snoc_ind with
  | h0 => rfl
  | hs l x ih => simp only [List.foldl_append, List.foldl_cons, List.foldl_nil, ih]; simp
theorem lastI_snoc (l : List ApiStampEvent) (x : ApiStampEvent) (n : Int) : lastI (l ++ [x]) n = if has x n then (l.length : Int) else lastI l n := by
  unfold lastI
  simp only [List.foldl_append, List.foldl_cons, List.foldl_nil, lastI_snd]
theorem lastI_cur (n : Int) (l : List ApiStampEvent) : (lastI l n = -1 ∧ cur l n = none) ∨ ∃ k e, lastI l n = (k : Nat) ∧ k < l.length ∧ l[k]? = some e ∧ cur l n = some e := by
  induction l using snoc_ind with
  | h0 => exact .inl ⟨rfl, rfl⟩
  | hs l x ih =>
    rw [lastI_snoc, cur_snoc]
    by_cases h : has x n
    · simp only [h, if_true]
      exact .inr ⟨l.length, x, rfl, by simp, by simp, rfl⟩
    · simp only [h, if_false]
      rcases ih with ih | ⟨k, e, h1, h2, h3, h4⟩
      · exact .inl ih
      · exact .inr ⟨k, e, h1, by simp; omega, by rw [List.getElem?_append_left h2]; exact h3, h4⟩

theorem last_eq (l : List ApiStampEvent) (n : Int) (h : l.length ≤ 256) : m_wormtubref12_last l n = some (lastI l n) := by
  unfold m_wormtubref12_last
  simp only [bindv]
  obtain ⟨t', h1, h2⟩ := loopM_pre (body := b_wormtubref12_last_1 l n) (fun i (t : Int) => (t, (i : Int))) (fun t => t) (fun pre t => t = lastI pre n) l
    (fun pre x post t hl ht => by
      have hg := getEl_mid hl
      have hi := lt_mid hl
      unfold b_wormtubref12_last_1
      simp only [idxL_nat, hg, Option.bind_some, bindv]
      rw [w64_id (by omega) (by omega)]
      simp only [show (decide ((pre.length : Int) < (l.length : Int))) = true by simpa using hi, if_true]
      refine ⟨lastI (pre ++ [x]) n, ?_, rfl⟩
      rw [lastI_snoc, ht]
      by_cases h1 : x.First ≤ n
      · by_cases h2 : n ≤ x.Last
        · simp [h1, h2, has]
        · simp [h1, h2, has]
      · simp [h1, has])
    (fun t _ => by unfold b_wormtubref12_last_1; simp) l [] (-1) rfl rfl
  simp only [List.length_nil, Int.natCast_zero] at h2
  rw [h2, h1]; rfl

open Classical in
theorem hand_eq (l : List ApiStampEvent) (n : Int) (h : l.length ≤ 256) : m_wormtubref12_hand l n = some (decide (hand l n)) := by
  unfold m_wormtubref12_hand
  rw [last_eq l n h]
  simp only [Option.bind_some]
  rcases lastI_cur n l with ⟨h1, h2⟩ | ⟨k, e, h1, h2, h3, h4⟩
  · rw [h1]
    simp [hand, h2]
  · rw [h1]
    simp only [show ((k : Int) ≥ 0) by omega, decide_true, if_true, idxL_nat, h3, Option.bind_some]
    rw [Option.some_inj, Bool.eq_iff_iff]
    simp [hand, h4]

/-! ### ends -/
structure EndsIs (l : List ApiStampEvent) (first to_ : Int) (at_ : List Int) : Prop where
  fst : first ∈ at_
  fs : ∀ e ∈ l, first < e.First → e.First ≤ to_ → e.First ∈ at_
  ls : ∀ e ∈ l, first < e.Last + 1 → e.Last + 1 ≤ to_ → e.Last + 1 ∈ at_
  bd : ∀ a ∈ at_, a = first ∨ (first < a ∧ a ≤ to_)
  len : at_.length ≤ 2 * l.length + 1

theorem ends_eq (l : List ApiStampEvent) (first to_ : Int) (h : l.length ≤ 256) (hok : ∀ e ∈ l, okE e = true) : ∃ at_, m_wormtubref12_ends l first to_ = some at_ ∧ EndsIs l first to_ at_ := by
  unfold m_wormtubref12_ends
  obtain ⟨t', h1, h2⟩ := loopM_pre (body := b_wormtubref12_ends_1 l first to_) (fun i (t : List Int) => (t, (i : Int))) (fun t => t) (fun pre t => EndsIs pre first to_ t) l
    (fun pre x post t hl ht => by
      have hg := getEl_mid hl
      have hi := lt_mid hl
      have hx := hok x (List.mem_of_getElem? hg)
      obtain ⟨_, _, hx0, hx1, hx2⟩ := (okE_iff x).1 hx
      have hlen := ht.len
      unfold b_wormtubref12_ends_1
      simp only [idxL_nat, hg, Option.bind_some, bindv]
      rw [w64_id (n := (pre.length : Int) + 1) (by omega) (by omega), w64_id (n := x.Last + 1) (by omega) (by omega)]
      simp only [show (decide ((pre.length : Int) < (l.length : Int))) = true by simpa using hi, if_true]
      generalize hA : (if first < x.First ∧ x.First ≤ to_ then [x.First] else []) = A
      generalize hB : (if first < x.Last + 1 ∧ x.Last + 1 ≤ to_ then [x.Last + 1] else []) = B
      have lA : A.length ≤ 1 := by rw [← hA]; split <;> simp
      have lB : B.length ≤ 1 := by rw [← hB]; split <;> simp
      refine ⟨t ++ A ++ B, ?_, ?_, ?_, ?_, ?_, ?_⟩
      · refine bind_of (a := t ++ A ++ B) ?_ (by simp)
        refine bind_of (a := decide (first < x.First ∧ x.First ≤ to_)) ?_ (bind_of (a := t ++ A) ?_ (bind_of (a := decide (first < x.Last + 1 ∧ x.Last + 1 ≤ to_)) ?_ (bind_of (a := t ++ A ++ B) ?_ rfl)))
        · by_cases h1 : x.First > first <;> simp [h1]
        · rw [← hA]
          by_cases hc : first < x.First ∧ x.First ≤ to_
          · simp only [hc, and_self, decide_true, if_true]
            rw [appO_some (by simp only [List.length_cons, List.length_nil]; omega)]; simp only [Option.bind_some]
          · simp [hc]
        · by_cases h1 : x.Last + 1 > first <;> simp [h1]
        · rw [← hB]
          by_cases hc : first < x.Last + 1 ∧ x.Last + 1 ≤ to_
          · simp only [hc, and_self, decide_true, if_true]
            rw [appO_some (by simp only [List.length_cons, List.length_nil, List.length_append]; omega)]; simp only [Option.bind_some]
          · simp [hc]
      · simp [ht.fst]
      · intro e he hf hto
        rcases List.mem_append.1 he with he | he
        · simp [ht.fs e he hf hto]
        · simp only [List.mem_singleton] at he; subst he
          rw [← hA, if_pos ⟨hf, hto⟩]; simp
      · intro e he hf hto
        rcases List.mem_append.1 he with he | he
        · simp [ht.ls e he hf hto]
        · simp only [List.mem_singleton] at he; subst he
          rw [← hB, if_pos ⟨hf, hto⟩]; simp
      · intro a ha
        simp only [List.mem_append] at ha
        rcases ha with (ha | ha) | ha
        · exact ht.bd a ha
        · rw [← hA] at ha
          split at ha
          · simp at ha; omega
          · simp at ha
        · rw [← hB] at ha
          split at ha
          · simp at ha; omega
          · simp at ha
      · simp only [List.length_append, List.length_cons, List.length_nil]; omega)
    (fun t _ => by unfold b_wormtubref12_ends_1; simp) l [] [first] rfl ⟨by simp, by simp, by simp, by simp, by simp⟩
  simp only [List.length_nil, Int.natCast_zero] at h2
  exact ⟨t', bind_of h2 rfl, h1⟩

theorem cur_congr {a n : Int} (l : List ApiStampEvent) : (∀ e ∈ l, has e a ↔ has e n) → cur l a = cur l n := by
  induction l using snoc_ind with
  | h0 => intro _; rfl
  | hs l x ih =>
    intro h
    rw [cur_snoc, cur_snoc, ih fun e he => h e (by simp [he])]
    have := h x (by simp)
    by_cases hx : has x n
    · rw [if_pos hx, if_pos (this.2 hx)]
    · rw [if_neg hx, if_neg fun k => hx (this.1 k)]

/-- Whatever lies between the ends is as an end is. -/
theorem ends_rep {l : List ApiStampEvent} {first to_ n : Int} {at_ : List Int} (h : EndsIs l first to_ at_) (h1 : first ≤ n) (h2 : n ≤ to_) : ∃ a ∈ at_, a ≤ n ∧ first ≤ a ∧ cur l a = cur l n := by
  obtain ⟨a, ha, han, hm⟩ := exists_max ⟨first, h.fst, h1⟩
  have hfa := hm first h.fst h1
  refine ⟨a, ha, han, hfa, cur_congr l fun e he => ?_⟩
  simp only [has]
  constructor
  · rintro ⟨h3, h4⟩
    refine ⟨by omega, ?_⟩
    apply Classical.byContradiction
    intro hc
    have := hm (e.Last + 1) (h.ls e he (by omega) (by omega)) (by omega)
    omega
  · rintro ⟨h3, h4⟩
    refine ⟨?_, by omega⟩
    by_cases hf : e.First ≤ first
    · omega
    · exact hm e.First (h.fs e he (by omega) (by omega)) h3

end Go.Proofs.Ytbomfcghpajaiaa
