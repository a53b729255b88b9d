/-
  BottleTrue: whatever is true within the spans, the volume and the strength of a batch are in theirs; a claim about the strength that is not called false is true then; and with water that is right the strength is right.
  No condition: the given statement, for every input.
-/
import Derived.Test.YtbomfcghpajaiaaLl
import Derived.Test.YtbomfcghpajaiaaLj
import Derived.Test.YtbomfcghpajaiaaS7
import Derived.Test.YtbomfcghpajaiaaSE0
import Derived.Test.YtbomfcghpajaiaaSF5
namespace Go.Proofs.Ytbomfcghpajaiaa
open Go.Dec

theorem awake_ok : m_wormtublaw12_awake = some true := (e_m_wormtublaw12_awake 100).out true (by decide +kernel)

theorem remK_pos {x y : Int} (h0 : 0 ≤ x) (h : 0 < y) : remK x y = some (x % y) ∧ 0 ≤ x % y ∧ x % y < y := by
  refine ⟨?_, Int.emod_nonneg _ (by omega), Int.emod_lt_of_pos _ h⟩
  unfold remK; rw [if_neg (by omega), Int.tmod_eq_emod_of_nonneg h0]
theorem by_get {l : List Int} (hl : l ≠ []) (hok : ∀ y ∈ l, (Lit.int .u32 y).wf = true) {i : Int} (h0 : 0 ≤ i) : ∃ q y, remK i (l.length : Int) = some q ∧ idxL l q = some y ∧ 0 ≤ y ∧ y ≤ 4294967295 := by
  have hpos : 0 < l.length := List.length_pos_iff.2 hl
  obtain ⟨h1, h2, h3⟩ := remK_pos h0 (show 0 < (l.length : Int) by omega)
  obtain ⟨y, hy, hy2⟩ := idxL_lt h2 h3
  exact ⟨_, y, h1, hy, wf_u32 (hok y (List.mem_of_getElem? hy2))⟩

theorem true_loop {b : ApiBatch} {l : List Int} (h : Valid b) (hl : l ≠ []) (hok : ∀ y ∈ l, (Lit.int .u32 y).wf = true) :
    ∃ p, loopM (b_wormtublaw12_BottleTrue_1 b l) (0, 0, 0) = some (sumA b.Draughts, p) ∧ sumLo b.Draughts ≤ p ∧ p ≤ sumHi b.Draughts := by
  have hlen := h.len
  obtain ⟨t', ⟨k1, k3, k4⟩, k2⟩ := loopM_pre (body := b_wormtublaw12_BottleTrue_1 b l) (fun i (t : Int × Int) => ((i : Int), t.1, t.2)) (fun t => (t.1, t.2)) (fun pre t => t.1 = sumA pre ∧ sumLo pre ≤ t.2 ∧ t.2 ≤ sumHi pre) b.Draughts
    (fun pre d post t hl' ⟨t1, t2, t3⟩ => by
      have hg := getEl_mid hl'
      have hi := lt_mid hl'
      have hd := h.ds d (List.mem_of_getElem? hg)
      have hs := hd.str
      have ha := hd.amt
      obtain ⟨b1, b2, b3, _⟩ := sums_bound pre fun x hx => h.ds x (by rw [hl']; simp [hx])
      obtain ⟨q, y, e1, e2, y0, y1⟩ := by_get hl hok (i := (pre.length : Int)) (by omega)
      have w1 : w64 (d.Strength.Hi - d.Strength.Lo) = d.Strength.Hi - d.Strength.Lo := w64_id (by omega) (by omega)
      have w2 : w64 (d.Strength.Hi - d.Strength.Lo + 1) = d.Strength.Hi - d.Strength.Lo + 1 := w64_id (by omega) (by omega)
      have w3 : w64 y = y := w64_id (by omega) (by omega)
      obtain ⟨e3, r0, r1⟩ := remK_pos y0 (show 0 < d.Strength.Hi - d.Strength.Lo + 1 by omega)
      generalize y % (d.Strength.Hi - d.Strength.Lo + 1) = r at e3 r0 r1
      have m0 := amount_bound hd (x := d.Strength.Lo + r) (by omega) (by omega)
      have m1 : d.Amount * d.Strength.Lo ≤ d.Amount * (d.Strength.Lo + r) := Int.mul_le_mul_of_nonneg_left (by omega) (by omega)
      have m2 : d.Amount * (d.Strength.Lo + r) ≤ d.Amount * d.Strength.Hi := Int.mul_le_mul_of_nonneg_left (by omega) (by omega)
      refine ⟨(t.1 + d.Amount, t.2 + d.Amount * (d.Strength.Lo + r)), ?_, by rw [sumA_snoc, t1], by rw [sumLo_snoc]; simp only; omega, by rw [sumHi_snoc]; simp only; omega⟩
      unfold b_wormtublaw12_BottleTrue_1
      simp only [idxL_nat, hg, Option.bind_some, bindv, e1, e2, w1, w2, w3, e3]
      simp only [show (decide ((pre.length : Int) < (b.Draughts.length : Int))) = true by simpa using hi, if_true]
      rw [w64_id (n := (pre.length : Int) + 1) (by omega) (by omega), w64_id (n := d.Strength.Lo + r) (by omega) (by omega), w64_id (n := d.Amount * (d.Strength.Lo + r)) (by omega) (by omega), w64_id (n := t.1 + d.Amount) (by omega) (by omega), w64_id (n := t.2 + d.Amount * (d.Strength.Lo + r)) (by omega) (by omega)]
      simp)
    (fun t _ => by unfold b_wormtublaw12_BottleTrue_1; simp) b.Draughts [] (0, 0) rfl ⟨rfl, by simp [sumLo], by simp [sumHi]⟩
  simp only [List.length_nil, Int.natCast_zero] at k2
  exact ⟨t'.2, by rw [k2, k1], k3, k4⟩

/-- Whatever is true within the spans lies in the strength that is told. -/
theorem inside_str {b : ApiBatch} {w p left : Int} (h : Valid b) (h0 : 0 ≤ w) (h1 : w ≤ 17179869184) (p1 : sumLo b.Draughts ≤ p) (p2 : p ≤ sumHi b.Draughts) (l1 : 10000 - b.Shrink.Hi ≤ left) (l2 : left ≤ 10000 - b.Shrink.Lo) :
    (strF b w).Lo ≤ p * 10000 / ((sumA b.Draughts + w) * left) ∧ ((strF b w).Hi = 10000 ∨ (p * 10000 + (sumA b.Draughts + w) * left - 1) / ((sumA b.Draughts + w) * left) ≤ (strF b w).Hi) ∧
    9000 ≤ (sumA b.Draughts + w) * left ∧ (sumA b.Draughts + w) * left ≤ 343597383680000 := by
  have hb := bds h h0 h1
  have b1 := hb.a; have b2 := hb.l; have b3 := hb.small; have b4 := hb.great
  have hs := h.shrink
  have v1 : (sumA b.Draughts + w) * (10000 - b.Shrink.Hi) ≤ (sumA b.Draughts + w) * left := Int.mul_le_mul_of_nonneg_left l1 (by omega)
  have v2 : (sumA b.Draughts + w) * left ≤ (sumA b.Draughts + w) * (10000 - b.Shrink.Lo) := Int.mul_le_mul_of_nonneg_left l2 (by omega)
  refine ⟨?_, ?_, by omega, by omega⟩
  · have d1 : sumLo b.Draughts * 10000 / ((sumA b.Draughts + w) * (10000 - b.Shrink.Lo)) ≤ sumLo b.Draughts * 10000 / ((sumA b.Draughts + w) * left) := div_anti (by omega) (by omega) v2
    have d2 : sumLo b.Draughts * 10000 / ((sumA b.Draughts + w) * left) ≤ p * 10000 / ((sumA b.Draughts + w) * left) := Int.ediv_le_ediv (by omega) (by omega)
    simp only [strF, imin]
    split <;> omega
  · have d1 : (p * 10000 + (sumA b.Draughts + w) * left - 1) / ((sumA b.Draughts + w) * left) ≤ (p * 10000 + (sumA b.Draughts + w) * (10000 - b.Shrink.Hi) - 1) / ((sumA b.Draughts + w) * (10000 - b.Shrink.Hi)) := up_anti (by omega) (by omega) v1
    have d2 : (p * 10000 + (sumA b.Draughts + w) * (10000 - b.Shrink.Hi) - 1) / ((sumA b.Draughts + w) * (10000 - b.Shrink.Hi)) ≤ (sumHi b.Draughts * 10000 + (sumA b.Draughts + w) * (10000 - b.Shrink.Hi) - 1) / ((sumA b.Draughts + w) * (10000 - b.Shrink.Hi)) := Int.ediv_le_ediv (by omega) (by omega)
    simp only [strF, imin]
    split
    · right; omega
    · left; rfl

theorem inside_eq {b : ApiBatch} {w p left lo hi : Int} (h : Valid b) (h0 : 0 ≤ w) (h1 : w ≤ 17179869184) (p1 : sumLo b.Draughts ≤ p) (p2 : p ≤ sumHi b.Draughts) (l1 : 10000 - b.Shrink.Hi ≤ left) (l2 : left ≤ 10000 - b.Shrink.Lo)
    (s1 : lo ≤ (strF b w).Lo) (s2 : (strF b w).Hi ≤ hi) (s3 : hi ≤ 10000) : m_wormtublaw12_BottleTrue_1 (ApiSpan.mk lo hi) w (sumA b.Draughts) left p = some true := by
  obtain ⟨i1, i2, i3, i4⟩ := inside_str h h0 h1 p1 p2 l1 l2
  have hb := bds h h0 h1
  have b1 := hb.a; have b2 := hb.l
  unfold m_wormtublaw12_BottleTrue_1
  simp only [bindv]
  rw [w64_id (n := sumA b.Draughts + w) (by omega) (by omega), w64_id (n := (sumA b.Draughts + w) * left) (by omega) (by omega), w64_id (n := p * 10000) (by omega) (by omega), w64_id (n := p * 10000 + (sumA b.Draughts + w) * left) (by omega) (by omega), w64_id (n := p * 10000 + (sumA b.Draughts + w) * left - 1) (by omega) (by omega)]
  rw [quoK_pos (by omega) (by omega) (by omega), quoK_pos (by omega) (by omega) (by omega)]
  simp only [Option.bind_some]
  rw [if_pos (by simp only [decide_eq_true_eq]; omega)]
  rcases i2 with i2 | i2
  · have e : hi = 10000 := by omega
    simp [e]
  · rw [if_pos (by simp only [decide_eq_true_eq]; omega)]

theorem law_BottleTrue : LawBottleTrue := by
  intro b least most what off by_ _ _ _ hwhat hoff hby
  have hw := wf_u16 hwhat
  have ho := wf_u16 hoff
  unfold m_wormtublaw12_BottleTrue
  split
  · simp only [awake_ok, Option.bind_some]
  · rename_i hg
    simp only [Bool.or_eq_true, decide_eq_true_eq, beq_iff_eq, not_or, Int.not_lt, gt_iff_lt] at hg
    have hne : by_ ≠ [] := fun e => hg.2 (by rw [e]; rfl)
    have hpos : 0 < by_.length := List.length_pos_iff.2 hne
    rcases false_prog b [ApiClaim.mk 7 (what % 10001) (off % 10001)] (by omega) (by simp) with ⟨hbad, _⟩ | ⟨h, _, hcok, x, hk, hx, hr⟩
    · -- the batch is not valid
      have hcl : claimsOK [ApiClaim.mk 7 (what % 10001) (off % 10001)] = true := by
        have a1 := Int.emod_nonneg what (show (10001 : Int) ≠ 0 by omega)
        have a2 := Int.emod_lt_of_pos what (show (0 : Int) < 10001 by omega)
        have a3 := Int.emod_nonneg off (show (10001 : Int) ≠ 0 by omega)
        have a4 := Int.emod_lt_of_pos off (show (0 : Int) < 10001 by omega)
        simp only [claimsOK, claimOK, m_bottle_isStrength, m_bottle_within, List.all_cons, List.all_nil, Bool.and_true, Bool.and_eq_true, decide_eq_true_eq]
        refine ⟨by simp, ?_⟩
        simp only [show ((7 : Int) == 0) = false from rfl, show ((7 : Int) == 1) = false from rfl, show ((7 : Int) == 2) = false from rfl, beq_self_eq_true, Bool.false_eq_true, if_false, if_true, Bool.and_eq_true, decide_eq_true_eq, ge_iff_le]
        omega
      rw [hcl, Bool.and_true] at hbad
      rcases blend_prog b (by omega) with ⟨_, hr⟩ | ⟨hv, _⟩
      · refine bind_of hr ?_
        simp [awake_ok, eq_56, eq_36, eq_47]
      · rw [(validB_iff b).2 hv] at hbad; cases hbad
    · have hlen := h.len
      have hs := h.shrink
      have hwt := h.water
      refine bind_of hx ?_
      simp only [bne_self_eq_false, Bool.false_eq_true, if_false]
      rw [refBatch_eq b (by omega), (validB_iff b).2 h]
      simp only [Option.bind_some, Bool.not_true, Bool.false_eq_true, if_false]
      obtain ⟨p, hp, p1, p2⟩ := true_loop h hne hby
      refine bind_of hp ?_
      obtain ⟨y0, hy0, hy0'⟩ := idxL_lt (l := by_) (i := 0) (Int.le_refl _) (by omega)
      have wy0 := wf_u32 (hby y0 (List.mem_of_getElem? hy0'))
      refine bind_of hy0 ?_
      have e1 : w64 y0 = y0 := w64_id (by omega) (by omega)
      have e2 : w64 (b.Shrink.Hi - b.Shrink.Lo) = b.Shrink.Hi - b.Shrink.Lo := w64_id (by omega) (by omega)
      have e3 : w64 (b.Shrink.Hi - b.Shrink.Lo + 1) = b.Shrink.Hi - b.Shrink.Lo + 1 := w64_id (by omega) (by omega)
      rw [e1, e2, e3]
      obtain ⟨hq, q0, q1⟩ := remK_pos wy0.1 (show 0 < b.Shrink.Hi - b.Shrink.Lo + 1 by omega)
      refine bind_of hq ?_
      generalize y0 % (b.Shrink.Hi - b.Shrink.Lo + 1) = q at q0 q1
      have e4 : w64 (10000 - b.Shrink.Lo) = 10000 - b.Shrink.Lo := w64_id (by omega) (by omega)
      have e5 : w64 (10000 - b.Shrink.Lo - q) = 10000 - b.Shrink.Lo - q := w64_id (by omega) (by omega)
      rw [e4, e5]
      generalize hleft : 10000 - b.Shrink.Lo - q = left
      have l1 : 10000 - b.Shrink.Hi ≤ left := by omega
      have l2 : left ≤ 10000 - b.Shrink.Lo := by omega
      obtain ⟨i1, i2, i3, i4⟩ := inside_str h hwt.1 hwt.2 p1 p2 l1 l2
      have hbd := bds h hwt.1 hwt.2
      have b1 := hbd.a
      have e6 : w64 (sumA b.Draughts + b.Water) = sumA b.Draughts + b.Water := w64_id (by omega) (by omega)
      have e7 : w64 ((sumA b.Draughts + b.Water) * left) = (sumA b.Draughts + b.Water) * left := w64_id (by omega) (by omega)
      have e8 : w64 ((sumA b.Draughts + b.Water) * left + 9999) = (sumA b.Draughts + b.Water) * left + 9999 := w64_id (by omega) (by omega)
      simp only [bindv, e6, e7, e8]
      rw [Int.tdiv_eq_ediv_of_nonneg (by omega), Int.tdiv_eq_ediv_of_nonneg (by omega)]
      have e9 : w64 ((sumA b.Draughts + b.Water) * left / 10000) = (sumA b.Draughts + b.Water) * left / 10000 := w64_id (by omega) (by omega)
      have e10 : w64 (((sumA b.Draughts + b.Water) * left + 9999) / 10000) = ((sumA b.Draughts + b.Water) * left + 9999) / 10000 := w64_id (by omega) (by omega)
      rw [e9, e10]
      have v1 : (sumA b.Draughts + b.Water) * (10000 - b.Shrink.Hi) ≤ (sumA b.Draughts + b.Water) * left := Int.mul_le_mul_of_nonneg_left l1 (by omega)
      have v2 : (sumA b.Draughts + b.Water) * left ≤ (sumA b.Draughts + b.Water) * (10000 - b.Shrink.Lo) := Int.mul_le_mul_of_nonneg_left l2 (by omega)
      have g1 : ¬ x.Volume.Lo > (sumA b.Draughts + b.Water) * left / 10000 := by
        rw [hk.vol]; simp only [volF]
        have := Int.ediv_le_ediv (show (0 : Int) < 10000 by omega) v1
        omega
      have g2 : ¬ x.Volume.Hi < ((sumA b.Draughts + b.Water) * left + 9999) / 10000 := by
        rw [hk.vol]; simp only [volF]
        have := Int.ediv_le_ediv (show (0 : Int) < 10000 by omega) (show (sumA b.Draughts + b.Water) * left + 9999 ≤ (sumA b.Draughts + b.Water) * (10000 - b.Shrink.Lo) + 10000 - 1 by omega)
        omega
      simp only [g1, g2, decide_false, Bool.or_self, Bool.false_eq_true, if_false]
      have sl := str_le b b.Water
      have hin1 : m_wormtublaw12_BottleTrue_1 x.Strength b.Water (sumA b.Draughts) left p = some true := by
        have : x.Strength = ApiSpan.mk (strF b b.Water).Lo (strF b b.Water).Hi := by rw [hk.str]
        rw [this]
        exact inside_eq h hwt.1 hwt.2 p1 p2 l1 l2 (Int.le_refl _) (Int.le_refl _) sl.1
      rw [hin1]
      simp only [Option.bind_some, Bool.not_true, Bool.false_eq_true, if_false]
      have ew : w64 what = what := w64_id (by omega) (by omega)
      have eo : w64 off = off := w64_id (by omega) (by omega)
      rw [ew, eo, Int.tmod_eq_emod_of_nonneg hw.1, Int.tmod_eq_emod_of_nonneg ho.1]
      have a1 := Int.emod_nonneg what (show (10001 : Int) ≠ 0 by omega)
      have a2 := Int.emod_lt_of_pos what (show (0 : Int) < 10001 by omega)
      have a3 := Int.emod_nonneg off (show (10001 : Int) ≠ 0 by omega)
      have a4 := Int.emod_lt_of_pos off (show (0 : Int) < 10001 by omega)
      generalize what % 10001 = cw at *
      generalize off % 10001 = cn at *
      refine bind_of hr ?_
      simp only [bne_self_eq_false, Bool.false_eq_true, if_false]
      -- the claim
      have hclaim : ((if (((liesAt (trueX b x) 0 [ApiClaim.mk 7 cw cn]).length : Int) == 0) then ((m_wormtublaw12_BottleTrue_1 (ApiSpan.mk (w64 (cw - cn)) (imin 10000 (w64 (cw + cn)))) b.Water (sumA b.Draughts) left p).bind fun r => some (!r)) else some false) : Option Bool) = some false := by
        by_cases ht : trueX b x (ApiClaim.mk 7 cw cn) = true
        · simp only [trueX, hk.str] at ht
          simp only [show ¬ ((7 : Int) = 0) by omega, show ¬ ((7 : Int) = 1) by omega, show ¬ ((7 : Int) = 2) by omega, show ¬ ((7 : Int) = 3) by omega, show ¬ ((7 : Int) = 4) by omega, show ¬ ((7 : Int) = 5) by omega, show ¬ ((7 : Int) = 6) by omega, if_false, Bool.and_eq_true, decide_eq_true_eq, ge_iff_le] at ht
          have hlo : imin 10000 (cw + cn) ≤ 10000 ∧ (strF b b.Water).Hi ≤ imin 10000 (cw + cn) := by
            simp only [imin]; split <;> omega
          rw [w64_id (by omega) (by omega), w64_id (by omega) (by omega), inside_eq h hwt.1 hwt.2 p1 p2 l1 l2 ht.1 hlo.2 hlo.1]
          simp
        · have : liesAt (trueX b x) 0 [ApiClaim.mk 7 cw cn] = [0] := by simp [liesAt, ht]
          rw [this]; simp
      rw [hclaim]
      simp only [Option.bind_some, Bool.false_eq_true, if_false]
      -- the water
      rcases water_prog b least most (by omega) with ⟨hv, _⟩ | ⟨_, _, hr2⟩ | ⟨_, hi, r, hr2, hwi⟩
      · rw [(validB_iff b).2 h] at hv; cases hv
      · refine bind_of hr2 ?_
        simp [awake_ok, eq_36]
      · refine bind_of hr2 ?_
        rcases hwi.out with ⟨e, _⟩ | ⟨lo, hi', e, c1, c2, c3, hall⟩
        · subst e; simp [awake_ok, eq_36]
        · subst e
          simp only [bne_self_eq_false, Bool.false_eq_true, if_false]
          have n1 : ¬ lo < 0 := by omega
          have n2 : ¬ lo > hi' := by omega
          have n3 : ¬ hi' > 17179869184 := by omega
          simp only [n1, n2, n3, decide_false, Bool.or_self, Bool.false_eq_true, if_false]
          obtain ⟨q2, y, f1, f2, y1, y2⟩ := by_get hne hby (i := 1) (by omega)
          refine bind_of f1 (bind_of f2 ?_)
          have f3 : w64 y = y := w64_id (by omega) (by omega)
          have f4 : w64 (hi' - lo) = hi' - lo := w64_id (by omega) (by omega)
          have f5 : w64 (hi' - lo + 1) = hi' - lo + 1 := w64_id (by omega) (by omega)
          rw [f3, f4, f5]
          obtain ⟨f6, r0, r1⟩ := remK_pos y1 (show 0 < hi' - lo + 1 by omega)
          refine bind_of f6 ?_
          generalize y % (hi' - lo + 1) = r at r0 r1
          rw [w64_id (by omega) (by omega)]
          have hrw := (hall (lo + r) (by omega) (by omega)).2 ⟨by omega, by omega⟩
          have hmost : most ≤ 10000 := by
            simp only [inStr, m_bottle_isStrength, m_bottle_within, Bool.and_eq_true, decide_eq_true_eq] at hi
            omega
          rw [inside_eq h (by omega) (by omega) p1 p2 l1 l2 hrw.2 hrw.1 hmost]
          simp [awake_ok]

theorem bottleTrue_holds : Rows.BottleTrueSaid := said_BottleTrue law_BottleTrue
#print axioms bottleTrue_holds

end Go.Proofs.Ytbomfcghpajaiaa
