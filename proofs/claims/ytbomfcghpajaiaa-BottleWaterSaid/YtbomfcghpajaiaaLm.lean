/-
  BottleWater: water is right just in the span that is told: at its ends, and not beyond them; and without one no water by a remainder is.
  No condition: the given statement, for every input.
-/
import Derived.Test.YtbomfcghpajaiaaLl
import Derived.Test.YtbomfcghpajaiaaS8
import Derived.Test.YtbomfcghpajaiaaSE0
import Derived.Test.YtbomfcghpajaiaaSF6
namespace Go.Proofs.Ytbomfcghpajaiaa
open Go.Dec

theorem awake_ok : m_wormtublaw12_awake = some true := (e_m_wormtublaw12_awake 100).out true (by decide +kernel)

open Classical in
theorem right_eq {b : ApiBatch} {n least most : Int} (h : Valid b) (h0 : 0 ≤ n) (h1 : n ≤ 17179869184) : m_wormtublaw12_BottleWater_1 n b least most = some (decide (rightW b least most n)) := by
  unfold m_wormtublaw12_BottleWater_1
  simp only [bindv]
  have hl := h.len
  have h' : Valid { b with Water := n } := ⟨h.ds, h.len, ⟨h0, h1⟩, h.shrink⟩
  rcases blend_prog { b with Water := n } (by show b.Draughts.length ≤ 40; omega) with ⟨hv, _⟩ | ⟨_, x, hr, hk⟩
  · rw [(validB_iff _).2 h'] at hv; cases hv
  · refine bind_of hr ?_
    have hs : x.Strength = strF b n := hk.str
    simp only [hs, beq_self_eq_true, Bool.true_and, Option.some.injEq]
    rw [Bool.eq_iff_iff, decide_eq_true_iff]
    simp only [Bool.and_eq_true, decide_eq_true_eq, ge_iff_le, rightW]
    exact And.comm

theorem law_BottleWater : LawBottleWater := by
  classical
  intro b least most by_ _ _ _ hby
  have hb1 := wf_u64 hby
  unfold m_wormtublaw12_BottleWater
  split
  · simp only [awake_ok, Option.bind_some]
  · rename_i hg
    simp only [decide_eq_true_eq, Int.not_lt, gt_iff_lt] at hg
    rcases water_prog b least most (by omega) with ⟨_, hr⟩ | ⟨_, _, hr⟩ | ⟨h, hi, r, hr, hw⟩
    · refine bind_of hr ?_
      simp [awake_ok, eq_36]
    · refine bind_of hr ?_
      simp [awake_ok, eq_36]
    · refine bind_of hr ?_
      have hmod : Int.tmod by_ 17179869185 = by_ % 17179869185 := Int.tmod_eq_emod_of_nonneg hb1.1
      have hn : 0 ≤ by_ % 17179869185 ∧ by_ % 17179869185 < 17179869185 := ⟨Int.emod_nonneg _ (by omega), Int.emod_lt_of_pos _ (by omega)⟩
      rw [hmod]
      generalize by_ % 17179869185 = n at hn
      rcases hw.out with ⟨e, hno⟩ | ⟨lo, hi', e, a1, a2, a3, hall⟩
      · subst e
        simp only [show ((4 : Int) == 1) = false from rfl, show ((4 : Int) == 2) = false from rfl, Bool.or_self, Bool.false_eq_true, if_false, bindv]
        rw [w64_id (by omega) (by omega), right_eq h (by omega) (by omega)]
        have := hno n (by omega) (by omega)
        simp [eq_36, this, awake_ok]
      · subst e
        simp only [show ((0 : Int) == 1) = false from rfl, show ((0 : Int) == 2) = false from rfl, Bool.or_self, Bool.false_eq_true, if_false, bindv, bne_self_eq_false]
        rw [w64_id (n := n) (by omega) (by omega), right_eq h a1 (by omega), right_eq (n := hi') h (by omega) a3, right_eq (n := n) h (by omega) (by omega)]
        have rlo := (hall lo a1 (by omega)).2 ⟨Int.le_refl _, a2⟩
        have rhi := (hall hi' (by omega) a3).2 ⟨a2, Int.le_refl _⟩
        have q1 : ¬ lo < 0 := by omega
        have q2 : ¬ hi' > 17179869184 := by omega
        have q3 : ¬ lo > hi' := by omega
        simp only [q1, q2, q3, decide_false, Bool.or_self, Bool.false_eq_true, if_false, Option.bind_some, rlo, rhi, decide_true, Bool.not_true]
        have c1 : ((if decide (lo > 0) = true then (m_wormtublaw12_BottleWater_1 (w64 (lo - 1)) b least most).bind fun r => some r else some false) : Option Bool) = some false := by
          by_cases hl : lo > 0
          · simp only [hl, decide_true, if_true]
            rw [w64_id (by omega) (by omega), right_eq h (by omega) (by omega)]
            have : ¬ rightW b least most (lo - 1) := fun hh => by have := (hall (lo - 1) (by omega) (by omega)).1 hh; omega
            simp [this]
          · simp only [hl, decide_false, Bool.false_eq_true, if_false]
        have c2 : ((if decide (hi' < 17179869184) = true then (m_wormtublaw12_BottleWater_1 (w64 (hi' + 1)) b least most).bind fun r => some r else some false) : Option Bool) = some false := by
          by_cases hl : hi' < 17179869184
          · simp only [hl, decide_true, if_true]
            rw [w64_id (by omega) (by omega), right_eq h (by omega) (by omega)]
            have : ¬ rightW b least most (hi' + 1) := fun hh => by have := (hall (hi' + 1) (by omega) (by omega)).1 hh; omega
            simp [this]
          · simp only [hl, decide_false, Bool.false_eq_true, if_false]
        rw [c1, c2]
        simp only [Option.bind_some, Bool.false_eq_true, if_false]
        have hiff := hall n (by omega) (by omega)
        by_cases hl : lo ≤ n
        · by_cases hu : n ≤ hi'
          · have : rightW b least most n := hiff.2 ⟨hl, hu⟩
            simp [hl, hu, this, awake_ok]
          · have : ¬ rightW b least most n := fun hh => hu (hiff.1 hh).2
            simp [hl, hu, this, awake_ok]
        · have : ¬ rightW b least most n := fun hh => hl (hiff.1 hh).1
          simp [hl, this, awake_ok]

theorem bottleWater_holds : Rows.BottleWaterSaid := said_BottleWater law_BottleWater
#print axioms bottleWater_holds

end Go.Proofs.Ytbomfcghpajaiaa
