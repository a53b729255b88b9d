/- Spans as sets of numbers: adding and taking away keep them rising and apart. Plain lemmas. -/
import Derived.Test.YtbomfcghpajaiaaDecQ
import Derived.Test.YtbomfcghpajaiaaS1
namespace Go.Proofs.Ytbomfcghpajaiaa
open Go.Dec

def inS (x : ApiSpan) (n : Int) : Prop := x.Lo ≤ n ∧ n ≤ x.Hi
def mem (s : List ApiSpan) (n : Int) : Prop := ∃ y ∈ s, inS y n
/-- Rising, valid, and apart. -/
structure Norm (s : List ApiSpan) : Prop where
  ok : ∀ y ∈ s, 0 ≤ y.Lo ∧ y.Lo ≤ y.Hi ∧ y.Hi ≤ 1099511627776
  apart : s.Pairwise fun a b => a.Hi + 1 < b.Lo

theorem mem_nil (n : Int) : ¬ mem [] n := by simp [mem]
theorem mem_cons (y : ApiSpan) (s : List ApiSpan) (n : Int) : mem (y :: s) n ↔ inS y n ∨ mem s n := by simp [mem]
theorem mem_append (s t : List ApiSpan) (n : Int) : mem (s ++ t) n ↔ mem s n ∨ mem t n := by
  simp only [mem, List.mem_append]
  constructor
  · rintro ⟨y, h | h, k⟩
    · exact .inl ⟨y, h, k⟩
    · exact .inr ⟨y, h, k⟩
  · rintro (⟨y, h, k⟩ | ⟨y, h, k⟩)
    · exact ⟨y, .inl h, k⟩
    · exact ⟨y, .inr h, k⟩

theorem Norm.nil : Norm [] := ⟨by simp, by simp⟩
theorem Norm.tail {y : ApiSpan} {s : List ApiSpan} (h : Norm (y :: s)) : Norm s := ⟨fun z hz => h.ok z (by simp [hz]), (List.pairwise_cons.1 h.apart).2⟩
theorem Norm.mk_cons {y : ApiSpan} {s : List ApiSpan} (h : Norm s) (hy : 0 ≤ y.Lo ∧ y.Lo ≤ y.Hi ∧ y.Hi ≤ 1099511627776) (hs : ∀ z ∈ s, y.Hi + 1 < z.Lo) : Norm (y :: s) := by
  refine ⟨fun z hz => ?_, List.pairwise_cons.2 ⟨hs, h.apart⟩⟩
  rcases List.mem_cons.1 hz with rfl | hz
  · exact hy
  · exact h.ok z hz
theorem Norm.append {s t : List ApiSpan} (h : Norm s) (k : Norm t) (hst : ∀ a ∈ s, ∀ b ∈ t, a.Hi + 1 < b.Lo) : Norm (s ++ t) := by
  refine ⟨fun z hz => ?_, List.pairwise_append.2 ⟨h.apart, k.apart, hst⟩⟩
  rcases List.mem_append.1 hz with hz | hz
  · exact h.ok z hz
  · exact k.ok z hz
theorem Norm.split {s t : List ApiSpan} (h : Norm (s ++ t)) : Norm s ∧ Norm t ∧ ∀ a ∈ s, ∀ b ∈ t, a.Hi + 1 < b.Lo := by
  have := List.pairwise_append.1 h.apart
  exact ⟨⟨fun z hz => h.ok z (by simp [hz]), this.1⟩, ⟨fun z hz => h.ok z (by simp [hz]), this.2.1⟩, this.2.2⟩

/-! ### The program's operations -/
theorem containsFunc_eq (s : List ApiSpan) (f : ApiSpan → Bool) (hl : s.length ≤ 1000000) : m_slices_IndexFunc_Span s (fun x => some (f x)) = some (match s.findIdx? f with | some i => (i : Int) | none => -1) := by
  unfold m_slices_IndexFunc_Span
  have key := loop_list (body := b_slices_IndexFunc_Span_1 s (fun x => some (f x))) (fun (_ : Unit) i => (i : Int)) (fun _ i x => if f x then some (.done (.inr (i : Int))) else some (.next ())) (fun _ => .inl ()) s
    (fun t i x hx => by
      have hi := lt_of_getEl hx
      unfold b_slices_IndexFunc_Span_1
      simp only [idxL_nat, hx, Option.bind_some]
      rw [w64_id (by omega) (by omega)]
      simp only [show (decide ((i : Int) < (s.length : Int))) = true by simpa using hi, if_true]
      cases f x <;> simp [Ctl.mapN])
    (fun t => by unfold b_slices_IndexFunc_Span_1; simp) ()
  simp only [Int.natCast_zero] at key
  rw [key]
  have gen : ∀ (l : List ApiSpan) (i : Nat), goL (fun (_ : Unit) i x => if f x then some (.done (.inr (i : Int))) else some (.next ())) (fun _ => (.inl () : Unit ⊕ Int)) l i () = some (match l.findIdx? f with | some k => .inr ((i + k : Nat) : Int) | none => .inl ()) := by
    intro l
    induction l with
    | nil => intro i; simp [goL]
    | cons x l ih =>
      intro i
      simp only [goL, List.findIdx?_cons]
      cases hf : f x with
      | true => simp
      | false =>
        simp only [Bool.false_eq_true, if_false]
        rw [ih]
        cases l.findIdx? f with
        | none => simp
        | some k => simp; omega
  rw [gen]
  cases s.findIdx? f <;> simp

theorem contains_any (s : List ApiSpan) (f : ApiSpan → Bool) (hl : s.length ≤ 1000000) : m_slices_ContainsFunc_Span s (fun x => some (f x)) = some (s.any f) := by
  unfold m_slices_ContainsFunc_Span
  rw [containsFunc_eq s f hl]
  simp only [Option.bind_some, Option.some.injEq]
  cases h : s.findIdx? f with
  | none =>
    rw [List.findIdx?_eq_none_iff] at h
    simp only [show ¬ ((-1 : Int) ≥ 0) by omega, decide_false]
    symm; simpa using h
  | some i =>
    rw [List.findIdx?_eq_some_iff_getElem] at h
    obtain ⟨hi, hf, _⟩ := h
    simp only [ge_iff_le, show (0 : Int) ≤ (i : Int) by omega, decide_true]
    symm; rw [List.any_eq_true]; exact ⟨_, List.getElem_mem hi, hf⟩

theorem overlaps_eq {s : List ApiSpan} {x : ApiSpan} (hl : s.length ≤ 1000000) (hn : Norm s) (hx : x.Lo ≤ x.Hi) : ∃ b, m_bottle_spans_overlaps s x = some b ∧ (b = true ↔ ∃ n, inS x n ∧ mem s n) := by
  refine ⟨_, by unfold m_bottle_spans_overlaps; rw [contains_any s _ hl]; rfl, ?_⟩
  rw [List.any_eq_true]
  simp only [m_bottle_spans_overlaps_1, Bool.and_eq_true, decide_eq_true_eq, mem, inS]
  constructor
  · rintro ⟨y, hy, h1, h2⟩
    have := hn.ok y hy
    by_cases h : x.Lo ≤ y.Lo
    · exact ⟨y.Lo, by omega, y, hy, by omega⟩
    · exact ⟨x.Lo, by omega, y, hy, by omega⟩
  · rintro ⟨n, hn', y, hy, h⟩
    exact ⟨y, hy, by omega, by omega⟩

theorem covers_iff {s : List ApiSpan} {x : ApiSpan} (hn : Norm s) (hx : x.Lo ≤ x.Hi) : (∃ y ∈ s, y.Lo ≤ x.Lo ∧ x.Hi ≤ y.Hi) ↔ ∀ n, inS x n → mem s n := by
  constructor
  · rintro ⟨y, hy, h1, h2⟩ n hn'
    exact ⟨y, hy, by simp only [inS] at hn' ⊢; omega⟩
  · intro h
    obtain ⟨y, hy, hm⟩ := h x.Lo ⟨by omega, hx⟩
    refine ⟨y, hy, hm.1, ?_⟩
    apply Classical.byContradiction
    intro hc
    simp only [inS] at hm h
    obtain ⟨z, hz, hm2⟩ := h (y.Hi + 1) ⟨by omega, by omega⟩
    simp only [inS] at hm2
    have hpw := hn.apart
    rw [List.pairwise_iff_getElem] at hpw
    obtain ⟨i, hi, ei⟩ := List.getElem_of_mem hy
    obtain ⟨j, hj, ej⟩ := List.getElem_of_mem hz
    have oy := hn.ok y hy
    have oz := hn.ok z hz
    rcases Nat.lt_trichotomy i j with h' | h' | h'
    · have := hpw i j hi hj h'; rw [ei, ej] at this; omega
    · subst h'; rw [ei] at ej; subst ej; omega
    · have := hpw j i hj hi h'; rw [ei, ej] at this; omega

theorem covers_eq {s : List ApiSpan} {x : ApiSpan} (hl : s.length ≤ 1000000) (hn : Norm s) (hx : x.Lo ≤ x.Hi) : ∃ b, m_bottle_spans_covers s x = some b ∧ (b = true ↔ ∀ n, inS x n → mem s n) := by
  refine ⟨_, by unfold m_bottle_spans_covers; rw [contains_any s _ hl]; rfl, ?_⟩
  rw [List.any_eq_true, ← covers_iff hn hx]
  simp only [m_bottle_spans_covers_1, Bool.and_eq_true, decide_eq_true_eq]

end Go.Proofs.Ytbomfcghpajaiaa
