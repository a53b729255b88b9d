/- How much water is right: what the program finds. -/
import Derived.Test.YtbomfcghpajaiaaLi
namespace Go.Proofs.Ytbomfcghpajaiaa
open Go.Dec

theorem up_le {a b k : Int} (h : 0 < b) : (a + b - 1) / b ≤ k ↔ a ≤ k * b := by
  have h1 : (a + b - 1) / b ≤ k ↔ (a + b - 1) / b < k + 1 := by omega
  rw [h1, Int.ediv_lt_iff_lt_mul h, Int.add_mul]
  omega
theorem up_anti {a b c : Int} (h0 : 0 ≤ a) (h1 : 0 < b) (h2 : b ≤ c) : (a + c - 1) / c ≤ (a + b - 1) / b := by
  rw [up_le (by omega)]
  have k1 := (up_le (a := a) (k := (a + b - 1) / b) h1).1 (Int.le_refl _)
  have k2 : 0 ≤ (a + b - 1) / b := Int.ediv_nonneg (by omega) (by omega)
  exact Int.le_trans k1 (Int.mul_le_mul_of_nonneg_left h2 k2)
theorem div_anti {a b c : Int} (h0 : 0 ≤ a) (h1 : 0 < b) (h2 : b ≤ c) : a / c ≤ a / b := by
  rw [Int.le_ediv_iff_mul_le h1]
  have k1 : a / c * c ≤ a := Int.ediv_mul_le a (by omega)
  have k2 : 0 ≤ a / c := Int.ediv_nonneg h0 (by omega)
  exact Int.le_trans (Int.mul_le_mul_of_nonneg_left h2 k2) k1
theorem imin_mono {k a b : Int} (h : a ≤ b) : imin k a ≤ imin k b := by
  simp only [imin]; split <;> split <;> omega

theorem str_anti {b : ApiBatch} {v w : Int} (h : Valid b) (h0 : 0 ≤ v) (h1 : v ≤ w) (h2 : w ≤ 17179869184) : (strF b w).Hi ≤ (strF b v).Hi ∧ (strF b w).Lo ≤ (strF b v).Lo := by
  have bv := bds h h0 (by omega : v ≤ 17179869184)
  have hb := bv.l; have h3 := bv.small; have h4 := bv.great
  have hs := h.shrink
  constructor
  · exact imin_mono (up_anti (by omega) (by omega) (Int.mul_le_mul_of_nonneg_right (by omega) (by omega)))
  · exact imin_mono (div_anti (by omega) (by omega) (Int.mul_le_mul_of_nonneg_right (by omega) (by omega)))
theorem str_le (b : ApiBatch) (w : Int) : (strF b w).Hi ≤ 10000 ∧ (strF b w).Lo ≤ 10000 := by
  simp only [strF, imin]; constructor <;> split <;> omega

/-- The first number for which something is so, and stays so. -/
theorem first_spec {f : Int → Bool} {is : Int → Option Bool} {lo hi : Int} (h0 : 0 ≤ lo) (h1 : lo ≤ hi) (h2 : hi ≤ 1099511627776) (h : ∀ w, lo ≤ w → w < hi → is w = some (f w)) (mono : ∀ v w, lo ≤ v → v ≤ w → w < hi → f v = true → f w = true) :
    ∃ r, m_bottle_first lo hi is = some r ∧ lo ≤ r ∧ r ≤ hi ∧ (∀ w, lo ≤ w → w < r → f w = false) ∧ ∀ w, r ≤ w → w < hi → f w = true := by
  unfold m_bottle_first
  obtain ⟨r, hr, hq⟩ := loop_inv (body := b_bottle_first_1 is) (fun s => lo ≤ s.1 ∧ s.1 ≤ s.2 ∧ s.2 ≤ hi ∧ (∀ w, lo ≤ w → w < s.1 → f w = false) ∧ ∀ w, s.2 ≤ w → w < hi → f w = true) (fun s => (s.2 - s.1).toNat)
    (fun r => lo ≤ r ∧ r ≤ hi ∧ (∀ w, lo ≤ w → w < r → f w = false) ∧ ∀ w, r ≤ w → w < hi → f w = true)
    (fun s ⟨i1, i2, i3, i4, i5⟩ => by
      obtain ⟨l, u⟩ := s
      simp only at i1 i2 i3 i4 i5
      unfold b_bottle_first_1
      by_cases hlt : l < u
      · left
        simp only [hlt, decide_true, if_true, bindv]
        rw [w64_id (n := u - l) (by omega) (by omega), Int.tdiv_eq_ediv_of_nonneg (by omega), w64_id (n := (u - l) / 2) (by omega) (by omega), w64_id (n := l + (u - l) / 2) (by omega) (by omega)]
        rw [h (l + (u - l) / 2) (by omega) (by omega)]
        simp only [Option.bind_some]
        cases hf : f (l + (u - l) / 2) with
        | true =>
          refine ⟨(l, l + (u - l) / 2), by simp, ⟨i1, by simp only; omega, by simp only; omega, i4, fun w hw1 hw2 => mono _ w (by omega) hw1 hw2 hf⟩, by simp only; omega⟩
        | false =>
          rw [w64_id (n := l + (u - l) / 2 + 1) (by omega) (by omega)]
          refine ⟨(l + (u - l) / 2 + 1, u), by simp, ⟨by simp only; omega, by simp only; omega, i3, fun w hw1 hw2 => ?_, i5⟩, by simp only; omega⟩
          cases hw : f w with
          | false => rfl
          | true => exact absurd (mono w (l + (u - l) / 2) hw1 (by simp only at hw2; omega) (by omega) hw) (by rw [hf]; simp)
      · right
        refine ⟨l, by simp [hlt], i1, by omega, i4, fun w hw1 hw2 => i5 w (by omega) hw2⟩)
    (hi - lo).toNat (lo, hi) (by simp) ⟨Int.le_refl _, h1, Int.le_refl _, fun w a b => by simp only at b; omega, fun w a b => by simp only at a; omega⟩
  exact ⟨r, bind_of hr rfl, hq⟩

/-- Is the strength right with so much water? -/
def rightW (b : ApiBatch) (least most w : Int) : Prop := (strF b w).Hi ≤ most ∧ least ≤ (strF b w).Lo
structure WaterIs (b : ApiBatch) (least most : Int) (r : ApiSpan × Int) : Prop where
  out : (r = (ApiSpan.mk 0 0, 4) ∧ ∀ w, 0 ≤ w → w ≤ 17179869184 → ¬ rightW b least most w) ∨
    (∃ lo hi, r = (ApiSpan.mk lo hi, 0) ∧ 0 ≤ lo ∧ lo ≤ hi ∧ hi ≤ 17179869184 ∧ ∀ w, 0 ≤ w → w ≤ 17179869184 → (rightW b least most w ↔ lo ≤ w ∧ w ≤ hi))
theorem WaterIs.unique {b : ApiBatch} {least most : Int} {r s : ApiSpan × Int} (h : WaterIs b least most r) (k : WaterIs b least most s) : r = s := by
  rcases h.out with ⟨e1, h1⟩ | ⟨lo, hi, e1, a1, a2, a3, h1⟩ <;> rcases k.out with ⟨e2, h2⟩ | ⟨lo', hi', e2, b1, b2, b3, h2⟩
  · rw [e1, e2]
  · exact absurd ((h2 lo' b1 (by omega)).2 ⟨Int.le_refl _, b2⟩) (h1 lo' b1 (by omega))
  · exact absurd ((h1 lo a1 (by omega)).2 ⟨Int.le_refl _, a2⟩) (h2 lo a1 (by omega))
  · have q1 := (h2 lo a1 (by omega)).1 ((h1 lo a1 (by omega)).2 ⟨Int.le_refl _, a2⟩)
    have q2 := (h2 hi (by omega) a3).1 ((h1 hi (by omega) a3).2 ⟨a2, Int.le_refl _⟩)
    have q3 := (h1 lo' b1 (by omega)).1 ((h2 lo' b1 (by omega)).2 ⟨Int.le_refl _, b2⟩)
    have q4 := (h1 hi' (by omega) b3).1 ((h2 hi' (by omega) b3).2 ⟨b2, Int.le_refl _⟩)
    rw [e1, e2, show lo = lo' by omega, show hi = hi' by omega]

theorem water_of {b : ApiBatch} {least most lo hi : Int} (hlo0 : 0 ≤ lo) (hhi1 : hi ≤ 17179869184)
    (a1 : ∀ w, 0 ≤ w → w < lo → ¬ (strF b w).Hi ≤ most) (a2 : ∀ w, lo ≤ w → w ≤ 17179869184 → (strF b w).Hi ≤ most)
    (b1 : ∀ w, 0 ≤ w → w ≤ hi → least ≤ (strF b w).Lo) (b2 : ∀ w, hi < w → w ≤ 17179869184 → ¬ least ≤ (strF b w).Lo) :
    WaterIs b least most (if lo > hi then (ApiSpan.mk 0 0, 4) else (ApiSpan.mk lo hi, 0)) := by
  constructor
  have key : ∀ w, 0 ≤ w → w ≤ 17179869184 → (rightW b least most w ↔ lo ≤ w ∧ w ≤ hi) := by
    intro w h0 h1
    constructor
    · rintro ⟨r1, r2⟩
      constructor
      · apply Classical.byContradiction
        intro hc; exact a1 w h0 (by omega) r1
      · apply Classical.byContradiction
        intro hc; exact b2 w (by omega) h1 r2
    · rintro ⟨r1, r2⟩
      exact ⟨a2 w r1 h1, b1 w h0 r2⟩
  by_cases hc : lo > hi
  · left
    rw [if_pos hc]
    refine ⟨rfl, fun w h0 h1 hr => ?_⟩
    have := (key w h0 h1).1 hr
    omega
  · right
    rw [if_neg hc]
    exact ⟨lo, hi, rfl, hlo0, by omega, hhi1, key⟩

def inStr (n : Int) : Bool := m_bottle_isStrength n
theorem water_prog (b : ApiBatch) (least most : Int) (hlen : b.Draughts.length ≤ 40) :
    (validB b = false ∧ m_bottle_Water b least most = some (ApiSpan.mk 0 0, 1)) ∨ (Valid b ∧ (inStr least && inStr most) = false ∧ m_bottle_Water b least most = some (ApiSpan.mk 0 0, 2)) ∨
    (Valid b ∧ (inStr least && inStr most) = true ∧ ∃ r, m_bottle_Water b least most = some r ∧ WaterIs b least most r) := by
  obtain ⟨x, he, hx⟩ := open_eq b hlen
  unfold m_bottle_Water
  cases hv : validB b with
  | false =>
    refine .inl ⟨rfl, bind_of he ?_⟩
    rw [hv]; rfl
  | true =>
    have h := (validB_iff b).1 hv
    have hx' := hx hv
    subst hx'
    right
    cases hr : (inStr least && inStr most) with
    | false =>
      refine .inl ⟨h, rfl, bind_of he ?_⟩
      rw [hv]
      unfold inStr at hr
      rw [← Bool.not_and, hr]; rfl
    | true =>
      refine .inr ⟨h, rfl, ?_⟩
      obtain ⟨r1, e1, l1, u1, p1, q1⟩ := first_spec (f := fun w => decide ((strF b w).Hi ≤ most)) (is := fun x => m_bottle_Water_1 x (BottleBatch.mk b (sumA b.Draughts) (sumLo b.Draughts) (sumHi b.Draughts)) most) (lo := 0) (hi := 17179869185) (by omega) (by omega) (by omega)
        (fun w h0 h1 => by unfold m_bottle_Water_1; rw [strength_eq h h0 (by omega)]; rfl)
        (fun v w h0 h1 h2 hf => by
          have := (str_anti h h0 h1 (by omega)).1
          simp only [decide_eq_true_eq] at hf ⊢; omega)
      obtain ⟨r2, e2, l2, u2, p2, q2⟩ := first_spec (f := fun w => decide ((strF b w).Lo < least)) (is := fun x => m_bottle_Water_2 x (BottleBatch.mk b (sumA b.Draughts) (sumLo b.Draughts) (sumHi b.Draughts)) least) (lo := 0) (hi := 17179869185) (by omega) (by omega) (by omega)
        (fun w h0 h1 => by unfold m_bottle_Water_2; rw [strength_eq h h0 (by omega)]; rfl)
        (fun v w h0 h1 h2 hf => by
          have := (str_anti h h0 h1 (by omega)).2
          simp only [decide_eq_true_eq] at hf ⊢; omega)
      simp only [decide_eq_true_eq, decide_eq_false_iff_not] at p1 q1 p2 q2
      refine ⟨if r1 > r2 - 1 then (ApiSpan.mk 0 0, 4) else (ApiSpan.mk r1 (r2 - 1), 0), bind_of he ?_, water_of l1 (by omega) (fun w a b => p1 w a b) (fun w a b => q1 w a (by omega)) (fun w a b => by have := p2 w a (by omega); omega) (fun w a b => by have := q2 w (by omega) (by omega); omega)⟩
      rw [hv]
      have hr' : (!m_bottle_isStrength least || !m_bottle_isStrength most) = false := by
        unfold inStr at hr
        rw [← Bool.not_and, hr]; rfl
      simp only [Bool.not_true, Bool.false_eq_true, if_false, hr']
      refine bind_of e1 (bind_of e2 ?_)
      simp only [bindv]
      rw [w64_id (by omega) (by omega)]
      by_cases hc : r1 > r2 - 1
      · simp only [hc, decide_true, if_true]
      · simp only [hc, decide_false, Bool.false_eq_true, if_false]

end Go.Proofs.Ytbomfcghpajaiaa
