/- The document: its blend, its rules, its claims. -/
import Derived.Test.YtbomfcghpajaiaaNj
namespace Go.Proofs.Ytbomfcghpajaiaa
open Go.Dec

/-! ### The document's blend -/
/-- What it holds behind some draughts. -/
structure BInv (b : ApiBatch) (pre : List ApiDraught) (t : Int × Int × Int × List Int × ApiBottling) : Prop where
  tot : t.1 = b.Water + sumA pre
  lo : t.2.1 = sumLo pre
  hi : t.2.2.1 = sumHi pre
  seen : t.2.2.2.1 = numF pre
  age : pre ≠ [] → t.2.2.2.2.Age = minW pre fun d => d.From.Age
  woods : pre ≠ [] → ∀ i, i < 8 → t.2.2.2.2.Woods i = minW pre fun d => d.From.Woods i
  places : pre ≠ [] → ∀ i, i < 8 → t.2.2.2.2.Places i = minW pre fun d => d.From.Places i

theorem woods_loop (d : ApiDraught) (x0 : ApiBottling) : ∃ f, loopM (b_wormtubref12_blend_2 d) (0, x0) = some { x0 with Woods := f } ∧ ∀ i, i < 8 → f i = imin (x0.Woods i) (d.From.Woods i) := by
  obtain ⟨x1, ⟨h1, h2, f, h3⟩, k⟩ := loopM_upto (body := b_wormtubref12_blend_2 d) (fun i (t : ApiBottling) => ((i : Int), t)) (fun t => t)
    (fun n t => (∀ i, i < n → t.Woods i = imin (x0.Woods i) (d.From.Woods i)) ∧ (∀ i, n ≤ i → t.Woods i = x0.Woods i) ∧ ∃ f, t = { x0 with Woods := f }) 8
    (fun i t hi ⟨h1, h2, f, h3⟩ => by
      refine ⟨{ t with Woods := updN t.Woods i (imin (t.Woods i) (d.From.Woods i)) }, ?_, fun j hj => ?_, fun j hj => ?_, ?_⟩
      · unfold b_wormtubref12_blend_2
        simp only [show (decide ((i : Int) < 8)) = true by simp; omega, if_true, idxO_nat hi, Option.bind_some, bindv]
        rw [w64_id (by omega) (by omega)]; simp
      · show updN t.Woods i _ j = _
        by_cases hji : j = i
        · subst hji; rw [updN_same, h2 j (Nat.le_refl _)]
        · rw [updN_other hji]; exact h1 j (by omega)
      · show updN t.Woods i _ j = _
        rw [updN_other (by omega)]; exact h2 j (by omega)
      · exact ⟨updN t.Woods i (imin (t.Woods i) (d.From.Woods i)), by rw [h3]⟩)
    (fun t _ => by unfold b_wormtubref12_blend_2; simp) 8 0 x0 rfl ⟨fun i hi => by omega, fun i _ => rfl, x0.Woods, rfl⟩
  simp only [Int.natCast_zero] at k
  rw [h3] at k h1
  exact ⟨f, k, h1⟩
theorem places_loop (d : ApiDraught) (x0 : ApiBottling) : ∃ f, loopM (b_wormtubref12_blend_3 d) (0, x0) = some { x0 with Places := f } ∧ ∀ i, i < 8 → f i = imin (x0.Places i) (d.From.Places i) := by
  obtain ⟨x1, ⟨h1, h2, f, h3⟩, k⟩ := loopM_upto (body := b_wormtubref12_blend_3 d) (fun i (t : ApiBottling) => ((i : Int), t)) (fun t => t)
    (fun n t => (∀ i, i < n → t.Places i = imin (x0.Places i) (d.From.Places i)) ∧ (∀ i, n ≤ i → t.Places i = x0.Places i) ∧ ∃ f, t = { x0 with Places := f }) 8
    (fun i t hi ⟨h1, h2, f, h3⟩ => by
      refine ⟨{ t with Places := updN t.Places i (imin (t.Places i) (d.From.Places i)) }, ?_, fun j hj => ?_, fun j hj => ?_, ?_⟩
      · unfold b_wormtubref12_blend_3
        simp only [show (decide ((i : Int) < 8)) = true by simp; omega, if_true, idxO_nat hi, Option.bind_some, bindv]
        rw [w64_id (by omega) (by omega)]; simp
      · show updN t.Places i _ j = _
        by_cases hji : j = i
        · subst hji; rw [updN_same, h2 j (Nat.le_refl _)]
        · rw [updN_other hji]; exact h1 j (by omega)
      · show updN t.Places i _ j = _
        rw [updN_other (by omega)]; exact h2 j (by omega)
      · exact ⟨updN t.Places i (imin (t.Places i) (d.From.Places i)), by rw [h3]⟩)
    (fun t _ => by unfold b_wormtubref12_blend_3; simp) 8 0 x0 rfl ⟨fun i hi => by omega, fun i _ => rfl, x0.Places, rfl⟩
  simp only [Int.natCast_zero] at k
  rw [h3] at k h1
  exact ⟨f, k, h1⟩
theorem seen_loop (s : Int × Int × Int × List Int × Int × ApiBottling) (d : ApiDraught) (h : s.2.2.2.1.length ≤ 1000) : loopM (b_wormtubref12_blend_4 s d) (false, 0) = some (decide (d.From.Number ∈ s.2.2.2.1)) := by
  obtain ⟨t', k1, k2⟩ := loopM_pre (body := b_wormtubref12_blend_4 s d) (fun i (t : Bool) => (t, (i : Int))) (fun t => t) (fun pre t => t = decide (d.From.Number ∈ pre)) s.2.2.2.1
    (fun pre x post t hl ht => by
      have hg := getEl_mid hl
      have hi := lt_mid hl
      refine ⟨decide (d.From.Number ∈ pre ++ [x]), ?_, rfl⟩
      unfold b_wormtubref12_blend_4
      simp only [idxL_nat, hg, Option.bind_some, bindv]
      rw [w64_id (by omega) (by omega)]
      simp only [show (decide ((pre.length : Int) < (s.2.2.2.1.length : Int))) = true by simpa using hi, if_true]
      by_cases h1 : d.From.Number ∈ pre
      · simp [ht, h1]
      · by_cases h2 : x = d.From.Number
        · simp [ht, h2]
        · have h3 : ¬ d.From.Number = x := fun e => h2 e.symm
          simp [ht, h1, h2, h3])
    (fun t _ => by unfold b_wormtubref12_blend_4; simp) s.2.2.2.1 [] false rfl (by simp)
  simp only [List.length_nil, Int.natCast_zero] at k2
  rw [k2, k1]

theorem blend_ref {b : ApiBatch} (h : Valid b) : ∃ y, m_wormtubref12_blend b = some y ∧ Known b b.Water y := by
  have hlen := h.len
  have hwt := h.water
  have hs := h.shrink
  have hne : b.Draughts ≠ [] := by intro e; rw [e] at hlen; simp at hlen
  unfold m_wormtubref12_blend
  obtain ⟨t, hI, hr⟩ := loopM_pre (body := b_wormtubref12_blend_1 b) (fun i (t : Int × Int × Int × List Int × ApiBottling) => (t.1, t.2.1, t.2.2.1, t.2.2.2.1, (i : Int), t.2.2.2.2)) (fun t => t) (fun pre t => BInv b pre t) b.Draughts
    (fun pre d post t hl ht => by
      obtain ⟨t1, t2, t3, t4, t5⟩ := t
      obtain ⟨i1, i2, i3, i4, i5, i6, i7⟩ := ht
      simp only at i1 i2 i3 i4 i5 i6 i7
      have hg := getEl_mid hl
      have hi := lt_mid hl
      have hd := h.ds d (List.mem_of_getElem? hg)
      have hst := hd.str
      have ha := hd.amt
      obtain ⟨b1, b2, b3, _⟩ := sums_bound pre fun x hx => h.ds x (by rw [hl]; simp [hx])
      have m0 := amount_bound hd (x := d.Strength.Lo) (by omega) (by omega)
      have m1 := amount_bound hd (x := d.Strength.Hi) (by omega) (by omega)
      have hnl := numF_len pre
      generalize hx0 : (if pre = [] then { t5 with Age := d.From.Age, Woods := d.From.Woods, Places := d.From.Places } else t5) = x0
      have e0 : ((if (((pre.length : Int)) == 0) = true then (bindv ({ t5 with Age := d.From.Age } : ApiBottling) fun x37 => bindv ({ x37 with Woods := d.From.Woods } : ApiBottling) fun x39 => bindv ({ x39 with Places := d.From.Places } : ApiBottling) fun x41 => some x41) else (some t5)) : Option ApiBottling) = some x0 := by
        rw [← hx0]
        cases pre with
        | nil => rfl
        | cons x r =>
          have : (((x :: r).length : Int) == 0) = false := by
            rw [beq_eq_false_iff_ne]; simp only [List.length_cons, ne_eq]; omega
          rw [this]; simp
      obtain ⟨fw, hw1, hw2⟩ := woods_loop d { x0 with Age := imin x0.Age d.From.Age }
      obtain ⟨fp, hp1, hp2⟩ := places_loop d { { x0 with Age := imin x0.Age d.From.Age } with Woods := fw }
      have hsn := seen_loop (t1, t2, t3, t4, (pre.length : Int), t5) d (by simp only; rw [i4]; omega)
      refine ⟨(t1 + d.Amount, t2 + d.Amount * d.Strength.Lo, t3 + d.Amount * d.Strength.Hi, numF (pre ++ [d]), { { { x0 with Age := imin x0.Age d.From.Age } with Woods := fw } with Places := fp }), ?_, ?_⟩
      · unfold b_wormtubref12_blend_1
        simp only [idxL_nat, hg, Option.bind_some]
        simp only [show (decide ((pre.length : Int) < (b.Draughts.length : Int))) = true by simpa using hi, if_true]
        refine bind_of (a := (t1 + d.Amount, t2 + d.Amount * d.Strength.Lo, t3 + d.Amount * d.Strength.Hi, numF (pre ++ [d]), ({ { { x0 with Age := imin x0.Age d.From.Age } with Woods := fw } with Places := fp } : ApiBottling))) ?_ ?_
        · have f1 : w64 (d.Amount * d.Strength.Lo) = d.Amount * d.Strength.Lo := w64_id (by omega) (by omega)
          have f2 : w64 (d.Amount * d.Strength.Hi) = d.Amount * d.Strength.Hi := w64_id (by omega) (by omega)
          have f3 : w64 (t1 + d.Amount) = t1 + d.Amount := w64_id (by omega) (by omega)
          have f4 : w64 (t2 + d.Amount * d.Strength.Lo) = t2 + d.Amount * d.Strength.Lo := w64_id (by omega) (by omega)
          have f5 : w64 (t3 + d.Amount * d.Strength.Hi) = t3 + d.Amount * d.Strength.Hi := w64_id (by omega) (by omega)
          rw [f1, f2, f3, f4, f5]
          simp only [bindv] at e0 ⊢
          refine bind_of e0 (bind_of hw1 (bind_of hp1 (bind_of hsn ?_)))
          refine bind_of (a := numF (pre ++ [d])) ?_ rfl
          rw [numF_snoc, i4]
          by_cases hm : d.From.Number ∈ numF pre
          · simp [hm]
          · simp only [hm, decide_false, Bool.not_false, if_true, if_false]
            rw [appO_some' (by simp only [List.length_cons, List.length_nil]; omega)]; rfl
        · simp only [bindv]
          rw [w64_id (by omega) (by omega)]; simp
      · by_cases hp : pre = []
        · subst hp
          simp only [if_true] at hx0
          have a0 : x0.Age = d.From.Age := by rw [← hx0]
          have a1 : x0.Woods = d.From.Woods := by rw [← hx0]
          have a2 : x0.Places = d.From.Places := by rw [← hx0]
          refine ⟨by rw [i1, sumA_snoc]; simp only; omega, by rw [i2, sumLo_snoc], by rw [i3, sumHi_snoc], rfl, fun _ => ?_, fun _ i hi8 => ?_, fun _ i hi8 => ?_⟩
          · simp only [a0]; simp [minW, imin]
          · show fw i = _
            rw [hw2 i hi8, a1]; simp [minW, imin]
          · show fp i = _
            rw [hp2 i hi8, a2]; simp [minW, imin]
        · rw [if_neg hp] at hx0
          subst hx0
          refine ⟨by rw [i1, sumA_snoc]; simp only; omega, by rw [i2, sumLo_snoc], by rw [i3, sumHi_snoc], rfl, fun _ => ?_, fun _ i hi8 => ?_, fun _ i hi8 => ?_⟩
          · rw [minW_snoc hp, ← i5 hp]
          · show fw i = _
            rw [hw2 i hi8, minW_snoc hp, ← i6 hp i hi8]
          · show fp i = _
            rw [hp2 i hi8, minW_snoc hp, ← i7 hp i hi8])
    (fun t _ => by unfold b_wormtubref12_blend_1; simp) b.Draughts [] (b.Water, 0, 0, [], (ApiBottling.mk (ApiSpan.mk 0 0) (ApiSpan.mk 0 0) 0 (fun _ => 0) (fun _ => 0) 0)) rfl ⟨by simp [sumA], rfl, rfl, rfl, fun h => absurd rfl h, fun h => absurd rfl h, fun h => absurd rfl h⟩
  simp only [List.length_nil, Int.natCast_zero] at hr
  obtain ⟨t1, t2, t3, t4, t5⟩ := t
  obtain ⟨i1, i2, i3, i4, i5, i6, i7⟩ := hI
  simp only at i1 i2 i3 i4 i5 i6 i7
  have hb := bds h hwt.1 hwt.2
  have b1 := hb.a; have b2 := hb.small; have b3 := hb.great; have b4 := hb.l
  have hcomm : b.Water + sumA b.Draughts = sumA b.Draughts + b.Water := Int.add_comm _ _
  refine ⟨{ t5 with Volume := volF b b.Water, Strength := strF b b.Water, Casks := ((numF b.Draughts).length : Int) }, ?_, ?_⟩
  · refine bind_of hr ?_
    simp only [bindv]
    rw [i1, i2, i3, i4, hcomm]
    unfold m_wormtubref12_up
    have g1 : w64 (10000 - b.Shrink.Lo) = 10000 - b.Shrink.Lo := w64_id (by omega) (by omega)
    have g2 : w64 (10000 - b.Shrink.Hi) = 10000 - b.Shrink.Hi := w64_id (by omega) (by omega)
    rw [g1, g2]
    have g3 : w64 ((sumA b.Draughts + b.Water) * (10000 - b.Shrink.Lo)) = (sumA b.Draughts + b.Water) * (10000 - b.Shrink.Lo) := w64_id (by omega) (by omega)
    have g4 : w64 ((sumA b.Draughts + b.Water) * (10000 - b.Shrink.Hi)) = (sumA b.Draughts + b.Water) * (10000 - b.Shrink.Hi) := w64_id (by omega) (by omega)
    rw [g3, g4]
    have g5 : w64 ((sumA b.Draughts + b.Water) * (10000 - b.Shrink.Lo) + 10000) = (sumA b.Draughts + b.Water) * (10000 - b.Shrink.Lo) + 10000 := w64_id (by omega) (by omega)
    have g6 : w64 ((sumA b.Draughts + b.Water) * (10000 - b.Shrink.Lo) + 10000 - 1) = (sumA b.Draughts + b.Water) * (10000 - b.Shrink.Lo) + 10000 - 1 := w64_id (by omega) (by omega)
    have g7 : w64 (sumLo b.Draughts * 10000) = sumLo b.Draughts * 10000 := w64_id (by omega) (by omega)
    have g8 : w64 (sumHi b.Draughts * 10000) = sumHi b.Draughts * 10000 := w64_id (by omega) (by omega)
    have g9 : w64 (sumHi b.Draughts * 10000 + (sumA b.Draughts + b.Water) * (10000 - b.Shrink.Hi)) = sumHi b.Draughts * 10000 + (sumA b.Draughts + b.Water) * (10000 - b.Shrink.Hi) := w64_id (by omega) (by omega)
    have g10 : w64 (sumHi b.Draughts * 10000 + (sumA b.Draughts + b.Water) * (10000 - b.Shrink.Hi) - 1) = sumHi b.Draughts * 10000 + (sumA b.Draughts + b.Water) * (10000 - b.Shrink.Hi) - 1 := w64_id (by omega) (by omega)
    rw [g5, g6, g7, g8, g9, g10]
    rw [quoK_pos (x := (sumA b.Draughts + b.Water) * (10000 - b.Shrink.Lo) + 10000 - 1) (by omega) (by omega) (by omega), quoK_pos (x := sumLo b.Draughts * 10000) (by omega) (by omega) (by omega), quoK_pos (x := sumHi b.Draughts * 10000 + (sumA b.Draughts + b.Water) * (10000 - b.Shrink.Hi) - 1) (by omega) (by omega) (by omega)]
    rw [Int.tdiv_eq_ediv_of_nonneg (by omega)]
    have g11 : w64 ((sumA b.Draughts + b.Water) * (10000 - b.Shrink.Hi) / 10000) = (sumA b.Draughts + b.Water) * (10000 - b.Shrink.Hi) / 10000 := w64_id (by omega) (by omega)
    rw [g11]
    rfl
  · exact ⟨rfl, rfl, i5 hne, i6 hne, i7 hne, rfl⟩

end Go.Proofs.Ytbomfcghpajaiaa
