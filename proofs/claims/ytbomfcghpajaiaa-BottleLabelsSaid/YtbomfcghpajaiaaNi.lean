/- What the program's Blend knows of a valid batch. -/
import Derived.Test.YtbomfcghpajaiaaNh
namespace Go.Proofs.Ytbomfcghpajaiaa
open Go.Dec

/-- The volume and the strength with so much water. -/
def volF (b : ApiBatch) (w : Int) : ApiSpan :=
  ApiSpan.mk ((sumA b.Draughts + w) * (10000 - b.Shrink.Hi) / 10000) (((sumA b.Draughts + w) * (10000 - b.Shrink.Lo) + 10000 - 1) / 10000)
def strF (b : ApiBatch) (w : Int) : ApiSpan :=
  ApiSpan.mk (imin 10000 (sumLo b.Draughts * 10000 / ((sumA b.Draughts + w) * (10000 - b.Shrink.Lo))))
    (imin 10000 ((sumHi b.Draughts * 10000 + (sumA b.Draughts + w) * (10000 - b.Shrink.Hi) - 1) / ((sumA b.Draughts + w) * (10000 - b.Shrink.Hi))))

structure Bds (b : ApiBatch) (w : Int) : Prop where
  a : 1 ≤ sumA b.Draughts ∧ sumA b.Draughts ≤ 17179869184
  l : 0 ≤ sumLo b.Draughts ∧ sumLo b.Draughts ≤ sumHi b.Draughts ∧ sumHi b.Draughts ≤ 171798691840000
  lh : sumHi b.Draughts ≤ 10000 * sumA b.Draughts
  small : 9000 ≤ (sumA b.Draughts + w) * (10000 - b.Shrink.Hi) ∧ (sumA b.Draughts + w) * (10000 - b.Shrink.Hi) ≤ 343597383680000
  great : 9000 ≤ (sumA b.Draughts + w) * (10000 - b.Shrink.Lo) ∧ (sumA b.Draughts + w) * (10000 - b.Shrink.Lo) ≤ 343597383680000
  le : (sumA b.Draughts + w) * (10000 - b.Shrink.Hi) ≤ (sumA b.Draughts + w) * (10000 - b.Shrink.Lo)
theorem bds {b : ApiBatch} {w : Int} (h : Valid b) (h0 : 0 ≤ w) (h1 : w ≤ 17179869184) : Bds b w := by
  obtain ⟨b1, b2, b3, b4⟩ := sums_bound b.Draughts h.ds
  have hl := h.len
  have hs := h.shrink
  have ha : 1 ≤ sumA b.Draughts ∧ sumA b.Draughts ≤ 17179869184 := by omega
  have mb : ∀ x : Int, 9000 ≤ x → x ≤ 10000 → 9000 ≤ (sumA b.Draughts + w) * x ∧ (sumA b.Draughts + w) * x ≤ 343597383680000 := by
    intro x hx1 hx2
    have m1 : 1 * 9000 ≤ (sumA b.Draughts + w) * x := Int.mul_le_mul (by omega) hx1 (by omega) (by omega)
    have m2 : (sumA b.Draughts + w) * x ≤ 34359738368 * 10000 := Int.mul_le_mul (by omega) hx2 (by omega) (by omega)
    omega
  exact ⟨ha, by omega, b4, mb _ (by omega) (by omega), mb _ (by omega) (by omega), Int.mul_le_mul_of_nonneg_left (by omega) (by omega)⟩

theorem volume_eq {b : ApiBatch} {w : Int} (h : Valid b) (h0 : 0 ≤ w) (h1 : w ≤ 17179869184) : m_bottle_batch_volume (BottleBatch.mk b (sumA b.Draughts) (sumLo b.Draughts) (sumHi b.Draughts)) w = some (volF b w) := by
  have hb := bds h h0 h1
  have b1 := hb.a; have b2 := hb.small; have b3 := hb.great
  have hs := h.shrink
  unfold m_bottle_batch_volume m_bottle_up
  simp only [bindv]
  rw [w64_id (n := sumA b.Draughts + w) (by omega) (by omega), w64_id (n := 10000 - b.Shrink.Lo) (by omega) (by omega), w64_id (n := 10000 - b.Shrink.Hi) (by omega) (by omega)]
  rw [w64_id (n := (sumA b.Draughts + w) * (10000 - b.Shrink.Lo)) (by omega) (by omega), w64_id (n := (sumA b.Draughts + w) * (10000 - b.Shrink.Hi)) (by omega) (by omega)]
  rw [w64_id (n := (sumA b.Draughts + w) * (10000 - b.Shrink.Lo) + 10000) (by omega) (by omega), w64_id (n := (sumA b.Draughts + w) * (10000 - b.Shrink.Lo) + 10000 - 1) (by omega) (by omega)]
  rw [quoK_pos (by omega) (by omega) (by omega)]
  simp only [Option.bind_some]
  rw [Int.tdiv_eq_ediv_of_nonneg (by omega), w64_id (by omega) (by omega)]
  rfl
theorem strength_eq {b : ApiBatch} {w : Int} (h : Valid b) (h0 : 0 ≤ w) (h1 : w ≤ 17179869184) : m_bottle_batch_strength (BottleBatch.mk b (sumA b.Draughts) (sumLo b.Draughts) (sumHi b.Draughts)) w = some (strF b w) := by
  have hb := bds h h0 h1
  have b1 := hb.a; have b2 := hb.small; have b3 := hb.great; have b4 := hb.l
  have hs := h.shrink
  unfold m_bottle_batch_strength m_bottle_up
  simp only [bindv]
  rw [w64_id (n := sumA b.Draughts + w) (by omega) (by omega), w64_id (n := 10000 - b.Shrink.Lo) (by omega) (by omega), w64_id (n := 10000 - b.Shrink.Hi) (by omega) (by omega)]
  rw [w64_id (n := (sumA b.Draughts + w) * (10000 - b.Shrink.Lo)) (by omega) (by omega), w64_id (n := (sumA b.Draughts + w) * (10000 - b.Shrink.Hi)) (by omega) (by omega)]
  rw [w64_id (n := sumLo b.Draughts * 10000) (by omega) (by omega), w64_id (n := sumHi b.Draughts * 10000) (by omega) (by omega)]
  rw [w64_id (n := sumHi b.Draughts * 10000 + (sumA b.Draughts + w) * (10000 - b.Shrink.Hi)) (by omega) (by omega), w64_id (n := sumHi b.Draughts * 10000 + (sumA b.Draughts + w) * (10000 - b.Shrink.Hi) - 1) (by omega) (by omega)]
  rw [quoK_pos (by omega) (by omega) (by omega), quoK_pos (by omega) (by omega) (by omega)]
  rfl

/-! ### The least of all draughts -/
def minW (l : List ApiDraught) (f : ApiDraught → Int) : Int := match l with
  | [] => 0
  | d :: r => r.foldl (fun m x => imin m (f x)) (f d)
theorem minW_fold (f : ApiDraught → Int) (c : Int) : ∀ (r : List ApiDraught) (m : Int), c ≤ r.foldl (fun m x => imin m (f x)) m ↔ c ≤ m ∧ ∀ d ∈ r, c ≤ f d
  | [], m => by simp
  | d :: r, m => by
    rw [List.foldl_cons, minW_fold f c r]
    simp only [imin, List.mem_cons, forall_eq_or_imp]
    constructor
    · rintro ⟨h1, h2⟩
      split at h1
      · exact ⟨by omega, by omega, h2⟩
      · exact ⟨by omega, by omega, h2⟩
    · rintro ⟨h1, h2, h3⟩
      exact ⟨by split <;> omega, h3⟩
theorem le_minW {l : List ApiDraught} {f : ApiDraught → Int} {c : Int} (hl : l ≠ []) : c ≤ minW l f ↔ ∀ d ∈ l, c ≤ f d := by
  cases l with
  | nil => exact absurd rfl hl
  | cons d r => simp [minW, minW_fold]
theorem minW_snoc {l : List ApiDraught} {d : ApiDraught} {f : ApiDraught → Int} (hl : l ≠ []) : minW (l ++ [d]) f = imin (minW l f) (f d) := by
  cases l with
  | nil => exact absurd rfl hl
  | cons x r => simp [minW]
theorem minW_mem {l : List ApiDraught} {f : ApiDraught → Int} (hl : l ≠ []) : ∃ d ∈ l, minW l f = f d := by
  induction l using snoc_ind with
  | h0 => exact absurd rfl hl
  | hs l d ih =>
    by_cases h : l = []
    · subst h; exact ⟨d, by simp, rfl⟩
    · obtain ⟨x, hx, e⟩ := ih h
      rw [minW_snoc h]
      simp only [imin]
      split
      · exact ⟨d, by simp, rfl⟩
      · exact ⟨x, by simp [hx], e⟩

theorem least_eq (l : List ApiDraught) (f : ApiDraught → Int) (hl : l ≠ []) (h : l.length ≤ 1000) : m_bottle_least_int l (fun d => some (f d)) = some (minW l f) := by
  cases l with
  | nil => exact absurd rfl hl
  | cons d r =>
    simp only [List.length_cons] at h
    unfold m_bottle_least_int
    have h0 : idxL (d :: r) 0 = some d := rfl
    have h1 : sliceL (d :: r) 1 ((d :: r).length : Int) = some r := by
      unfold sliceL; rw [if_pos (by simp only [List.length_cons]; omega)]
      simp
    refine bind_of h0 (bind_of rfl (bind_of h1 ?_))
    obtain ⟨t', k1, k2⟩ := loopM_pre (body := b_bottle_least_int_1 (fun d => some (f d)) r) (fun i (t : Int) => (t, (i : Int))) (fun t => t) (fun pre t => t = minW (d :: pre) f) r
      (fun pre x post t hl ht => by
        have hg := getEl_mid hl
        have hi := lt_mid hl
        unfold b_bottle_least_int_1
        simp only [idxL_nat, hg, Option.bind_some, bindv]
        rw [w64_id (by omega) (by omega)]
        simp only [show (decide ((pre.length : Int) < (r.length : Int))) = true by simpa using hi, if_true]
        refine ⟨_, rfl, ?_⟩
        rw [← List.cons_append, minW_snoc (by simp), ht])
      (fun t _ => by unfold b_bottle_least_int_1; simp) r [] (f d) rfl rfl
    simp only [List.length_nil, Int.natCast_zero] at k2
    exact bind_of k2 (by rw [k1])

/-! ### Of how many casks -/
def numF (l : List ApiDraught) : List Int := l.foldl (fun acc d => if d.From.Number ∈ acc then acc else acc ++ [d.From.Number]) []
theorem numF_snoc (l : List ApiDraught) (d : ApiDraught) : numF (l ++ [d]) = if d.From.Number ∈ numF l then numF l else numF l ++ [d.From.Number] := by
  unfold numF; rw [List.foldl_append]; rfl
theorem numF_mem (l : List ApiDraught) (n : Int) : n ∈ numF l ↔ ∃ d ∈ l, d.From.Number = n := by
  induction l using snoc_ind with
  | h0 => simp [numF]
  | hs l d ih =>
    rw [numF_snoc]
    have e : (∃ x ∈ l ++ [d], x.From.Number = n) ↔ (∃ x ∈ l, x.From.Number = n) ∨ d.From.Number = n := by
      constructor
      · rintro ⟨x, hx, h⟩
        rcases List.mem_append.1 hx with hx | hx
        · exact .inl ⟨x, hx, h⟩
        · simp only [List.mem_singleton] at hx; subst hx; exact .inr h
      · rintro (⟨x, hx, h⟩ | h)
        · exact ⟨x, by simp [hx], h⟩
        · exact ⟨d, by simp, h⟩
    rw [e, ← ih]
    split
    · rename_i h
      constructor
      · exact .inl
      · rintro (h' | h')
        · exact h'
        · rw [← h']; exact h
    · simp only [List.mem_append, List.mem_singleton]
      constructor
      · rintro (h | h)
        · exact .inl h
        · exact .inr h.symm
      · rintro (h | h)
        · exact .inl h
        · exact .inr h.symm
theorem numF_len (l : List ApiDraught) : (numF l).length ≤ l.length := by
  induction l using snoc_ind with
  | h0 => simp [numF]
  | hs l d ih =>
    rw [numF_snoc]
    split <;> simp <;> omega
theorem mapSet_keys (k : Int) : ∀ ks : List Int, mapSet (ks.map fun x => (x, true)) k true = (if k ∈ ks then ks else ks ++ [k]).map fun x => (x, true)
  | [] => by simp [mapSet]
  | x :: ks => by
    simp only [List.map_cons, mapSet]
    by_cases h : k = x
    · subst h; simp
    · have hb : (k == x) = false := by simpa using h
      simp only [hb, Bool.false_eq_true, if_false]
      rw [mapSet_keys k ks]
      by_cases hm : k ∈ ks <;> simp [hm, h]

theorem casks_eq (b : ApiBatch) (A L M : Int) (h : b.Draughts.length ≤ 1000) : m_bottle_batch_casks (BottleBatch.mk b A L M) = some ((numF b.Draughts).length : Int) := by
  unfold m_bottle_batch_casks
  obtain ⟨t', k1, k2⟩ := loopM_pre (body := b_bottle_batch_casks_1 (BottleBatch.mk b A L M)) (fun i (t : List (Int × Bool)) => (t, (i : Int))) (fun t => t) (fun pre t => t = (numF pre).map fun x => (x, true)) b.Draughts
    (fun pre x post t hl ht => by
      have hg := getEl_mid hl
      have hi := lt_mid hl
      unfold b_bottle_batch_casks_1
      simp only [idxL_nat, hg, Option.bind_some, bindv]
      rw [w64_id (by omega) (by omega)]
      simp only [show (decide ((pre.length : Int) < (b.Draughts.length : Int))) = true by simpa using hi, if_true]
      refine ⟨_, rfl, ?_⟩
      rw [ht, mapSet_keys, numF_snoc])
    (fun t _ => by unfold b_bottle_batch_casks_1; simp) b.Draughts [] [] rfl rfl
  simp only [List.length_nil, Int.natCast_zero] at k2
  exact bind_of k2 (by rw [k1]; simp)

/-! ### What is known -/
structure Known (b : ApiBatch) (w : Int) (x : ApiBottling) : Prop where
  vol : x.Volume = volF b w
  str : x.Strength = strF b w
  age : x.Age = minW b.Draughts fun d => d.From.Age
  woods : ∀ i, i < 8 → x.Woods i = minW b.Draughts fun d => d.From.Woods i
  places : ∀ i, i < 8 → x.Places i = minW b.Draughts fun d => d.From.Places i
  casks : x.Casks = ((numF b.Draughts).length : Int)
theorem updN_same {α : Type} (f : Nat → α) (i : Nat) (x : α) : updN f i x i = x := by simp [updN]
theorem updN_other {α : Type} {f : Nat → α} {i j : Nat} {x : α} (h : j ≠ i) : updN f i x j = f j := by
  have : Nat.beq j i = false := by
    cases hb : Nat.beq j i with
    | true => exact absurd (Nat.eq_of_beq_eq_true hb) h
    | false => rfl
  simp [updN, this]

theorem known_eq {b : ApiBatch} (h : Valid b) : ∃ x, m_bottle_batch_known (BottleBatch.mk b (sumA b.Draughts) (sumLo b.Draughts) (sumHi b.Draughts)) = some x ∧ Known b b.Water x := by
  have hl := h.len
  have hne : b.Draughts ≠ [] := by intro e; rw [e] at hl; simp at hl
  unfold m_bottle_batch_known
  have e1 := volume_eq h h.water.1 h.water.2
  have e2 := strength_eq h h.water.1 h.water.2
  have e3 := casks_eq b (sumA b.Draughts) (sumLo b.Draughts) (sumHi b.Draughts) (by omega)
  have e4 : m_bottle_least_int b.Draughts (fun x => some (m_bottle_batch_known_1 x)) = some (minW b.Draughts fun d => d.From.Age) := least_eq b.Draughts (fun d => d.From.Age) hne (by omega)
  generalize hx0 : ({ (ApiBottling.mk (volF b b.Water) (strF b b.Water) 0 (fun _ => 0) (fun _ => 0) ((numF b.Draughts).length : Int)) with Age := minW b.Draughts fun d => d.From.Age } : ApiBottling) = x0
  obtain ⟨x1, ⟨h1a, h1b⟩, k1⟩ := loopM_upto (body := b_bottle_batch_known_1 (BottleBatch.mk b (sumA b.Draughts) (sumLo b.Draughts) (sumHi b.Draughts))) (fun i (t : ApiBottling) => ((i : Int), t)) (fun t => t)
    (fun n t => (∀ i, i < n → t.Woods i = minW b.Draughts fun d => d.From.Woods i) ∧ ∃ f, t = { x0 with Woods := f }) 8
    (fun i t hi ⟨ht, f, hf⟩ => by
      have e5 : m_bottle_least_int b.Draughts (fun x => m_bottle_batch_known_2 x (i : Int)) = some (minW b.Draughts fun d => d.From.Woods i) := by
        rw [show (fun x => m_bottle_batch_known_2 x (i : Int)) = fun x => some (x.From.Woods i) from by
          funext x; unfold m_bottle_batch_known_2; rw [idxO_nat hi]; rfl]
        exact least_eq b.Draughts _ hne (by omega)
      refine ⟨{ t with Woods := updN t.Woods i (minW b.Draughts fun d => d.From.Woods i) }, ?_, fun j hj => ?_, ?_⟩
      · unfold b_bottle_batch_known_1
        simp only [show (decide ((i : Int) < 8)) = true by simp; omega, if_true]
        refine bind_of e5 (bind_of (idxO_nat hi) ?_)
        simp only [bindv]
        rw [w64_id (by omega) (by omega)]; simp
      · show updN t.Woods i _ j = _
        by_cases hji : j = i
        · subst hji; exact updN_same _ _ _
        · rw [updN_other hji]; exact ht j (by omega)
      · exact ⟨updN t.Woods i (minW b.Draughts fun d => d.From.Woods i), by rw [hf]⟩)
    (fun t _ => by unfold b_bottle_batch_known_1; simp) 8 0 x0 rfl ⟨fun i hi => by omega, x0.Woods, rfl⟩
  obtain ⟨x2, ⟨h2a, f2, h2b⟩, k2⟩ := loopM_upto (body := b_bottle_batch_known_2 (BottleBatch.mk b (sumA b.Draughts) (sumLo b.Draughts) (sumHi b.Draughts))) (fun i (t : ApiBottling) => ((i : Int), t)) (fun t => t)
    (fun n t => (∀ i, i < n → t.Places i = minW b.Draughts fun d => d.From.Places i) ∧ ∃ f, t = { x1 with Places := f }) 8
    (fun i t hi ⟨ht, f, hf⟩ => by
      have e5 : m_bottle_least_int b.Draughts (fun x => m_bottle_batch_known_3 x (i : Int)) = some (minW b.Draughts fun d => d.From.Places i) := by
        rw [show (fun x => m_bottle_batch_known_3 x (i : Int)) = fun x => some (x.From.Places i) from by
          funext x; unfold m_bottle_batch_known_3; rw [idxO_nat hi]; rfl]
        exact least_eq b.Draughts _ hne (by omega)
      refine ⟨{ t with Places := updN t.Places i (minW b.Draughts fun d => d.From.Places i) }, ?_, fun j hj => ?_, ?_⟩
      · unfold b_bottle_batch_known_2
        simp only [show (decide ((i : Int) < 8)) = true by simp; omega, if_true]
        refine bind_of e5 (bind_of (idxO_nat hi) ?_)
        simp only [bindv]
        rw [w64_id (by omega) (by omega)]; simp
      · show updN t.Places i _ j = _
        by_cases hji : j = i
        · subst hji; exact updN_same _ _ _
        · rw [updN_other hji]; exact ht j (by omega)
      · exact ⟨updN t.Places i (minW b.Draughts fun d => d.From.Places i), by rw [hf]⟩)
    (fun t _ => by unfold b_bottle_batch_known_2; simp) 8 0 x1 rfl ⟨fun i hi => by omega, x1.Places, rfl⟩
  simp only [Int.natCast_zero] at k1 k2
  obtain ⟨f1, h1c⟩ := h1b
  refine ⟨x2, ?_, ?_⟩
  · refine bind_of e1 (bind_of e2 (bind_of e3 (bind_of e4 ?_)))
    simp only [bindv]
    rw [hx0]
    exact bind_of k1 (bind_of k2 rfl)
  · have hw : x2.Woods = x1.Woods := by rw [h2b]
    refine ⟨by rw [h2b, h1c, ← hx0], by rw [h2b, h1c, ← hx0], by rw [h2b, h1c, ← hx0], fun i hi => by rw [hw]; exact h1a i hi, h2a, by rw [h2b, h1c, ← hx0]⟩

theorem blend_prog (b : ApiBatch) (hlen : b.Draughts.length ≤ 40) : (validB b = false ∧ m_bottle_Blend b = some (ApiBottling.mk (ApiSpan.mk 0 0) (ApiSpan.mk 0 0) 0 (fun _ => 0) (fun _ => 0) 0, 1)) ∨ (Valid b ∧ ∃ x, m_bottle_Blend b = some (x, 0) ∧ Known b b.Water x) := by
  obtain ⟨x, he, hx⟩ := open_eq b hlen
  unfold m_bottle_Blend
  cases hv : validB b with
  | false =>
    refine .inl ⟨rfl, bind_of he ?_⟩
    rw [hv]; rfl
  | true =>
    have h := (validB_iff b).1 hv
    obtain ⟨y, k1, k2⟩ := known_eq h
    refine .inr ⟨h, y, bind_of he ?_, k2⟩
    rw [hv, hx hv]
    simp only [Bool.not_true, Bool.false_eq_true, if_false]
    exact bind_of k1 rfl

end Go.Proofs.Ytbomfcghpajaiaa
