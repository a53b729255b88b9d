/- Claims: which are valid, which are not true; that the program and the document say so. -/
import Derived.Test.YtbomfcghpajaiaaNi
import Derived.Test.YtbomfcghpajaiaaT5
namespace Go.Proofs.Ytbomfcghpajaiaa
open Go.Dec

def claimOK (c : ApiClaim) : Bool :=
  if c.Kind == 0 then m_bottle_isDay c.Number else if c.Kind == 1 then m_bottle_isDay c.Number && m_bottle_within c.What 0 7 else if c.Kind == 2 then m_bottle_isDay c.Number && m_bottle_within c.What 0 7 else
  if c.Kind == 7 then m_bottle_isStrength c.What && m_bottle_isStrength c.Number else m_bottle_within c.Kind 0 7
theorem isClaim_eq (c : ApiClaim) : m_bottle_isClaim c = some (claimOK c) := by
  unfold m_bottle_isClaim claimOK
  repeat' split
  all_goals rfl
structure COK (c : ApiClaim) : Prop where
  kind : 0 ≤ c.Kind ∧ c.Kind ≤ 7
  what : c.Kind = 1 ∨ c.Kind = 2 → 0 ≤ c.What ∧ c.What ≤ 7
  str : c.Kind = 7 → (0 ≤ c.What ∧ c.What ≤ 10000) ∧ 0 ≤ c.Number ∧ c.Number ≤ 10000
theorem COK.of {c : ApiClaim} (h : claimOK c = true) : COK c := by
  unfold claimOK at h
  simp only [beq_iff_eq, m_bottle_within, m_bottle_isStrength] at h
  repeat' split at h
  all_goals simp only [Bool.and_eq_true, decide_eq_true_eq, ge_iff_le, day_iff] at h
  all_goals exact ⟨by omega, fun h => by omega, fun h => by omega⟩

theorem indexClaim_eq (s : List ApiClaim) (f : ApiClaim → Bool) (hl : s.length ≤ 1000000) : m_slices_ContainsFunc_Claim s (fun x => some (f x)) = some (s.any f) := by
  unfold m_slices_ContainsFunc_Claim m_slices_IndexFunc_Claim
  have key := loopM_ledger (body := b_slices_IndexFunc_Claim_1 s (fun x => some (f x))) (fun i (_ : Unit) => (i : Int)) (fun _ x => if f x then 1 else 0) (fun i _ => .inr (i : Int)) (fun _ => .inl ()) (fun _ _ => True) s
    (fun pre x post t hl ho ht => by
      have hg := getEl_mid hl
      have hi := lt_mid hl
      unfold b_slices_IndexFunc_Claim_1
      simp only [idxL_nat, hg, Option.bind_some]
      rw [w64_id (by omega) (by omega)]
      simp only [show (decide ((pre.length : Int) < (s.length : Int))) = true by simpa using hi, if_true]
      cases hx : f x with
      | true => left; simp
      | false => right; exact ⟨by simp, (), by simp⟩)
    (fun t _ _ => by unfold b_slices_IndexFunc_Claim_1; simp) s [] () rfl AllOk.nil trivial
  simp only [List.length_nil, Int.natCast_zero] at key
  rcases key with ⟨p, x, ⟨post, e, _, hx⟩, hr⟩ | ⟨ho, t, ht, hr⟩
  · have hfx : f x = true := by
      cases h : f x with
      | true => rfl
      | false => simp [h] at hx
    have : s.any f = true := by rw [e, List.any_append, List.any_cons, hfx]; simp
    rw [this]
    refine bind_of (bind_of hr rfl) ?_
    simp
  · have : s.any f = false := by
      rw [List.any_eq_false]
      intro y hy
      obtain ⟨a, b, e⟩ := List.append_of_mem hy
      have := ho a y b e
      intro h; simp [h] at this
    rw [this]
    exact bind_of (bind_of hr rfl) (by simp)

def claimsOK (l : List ApiClaim) : Bool := decide ((l.length : Int) ≤ 32) && l.all claimOK
theorem areClaims_eq (l : List ApiClaim) : m_bottle_areClaims l = some (claimsOK l) := by
  unfold m_bottle_areClaims claimsOK
  by_cases h : (l.length : Int) ≤ 32
  · have e : (fun x => m_bottle_areClaims_1 x) = fun x => some (!claimOK x) := by
      funext x; unfold m_bottle_areClaims_1; rw [isClaim_eq]; rfl
    simp only [h, decide_true, if_true, e]
    rw [indexClaim_eq l _ (by omega)]
    simp only [Option.bind_some, Bool.true_and, Option.some.injEq]
    rw [Bool.eq_iff_iff]
    simp [List.all_eq_true]
  · simp only [h, decide_false, Bool.false_eq_true, if_false, Option.bind_some, Bool.false_and]

/-! ### Which claims are not true -/
def liesAt (p : ApiClaim → Bool) : Nat → List ApiClaim → List Int
  | _, [] => []
  | i, c :: l => if p c then liesAt p (i + 1) l else (i : Int) :: liesAt p (i + 1) l
theorem liesAt_append (p : ApiClaim → Bool) : ∀ (l k : List ApiClaim) (i : Nat), liesAt p i (l ++ k) = liesAt p i l ++ liesAt p (i + l.length) k
  | [], k, i => by simp [liesAt]
  | c :: l, k, i => by
    simp only [List.cons_append, liesAt, List.length_cons, liesAt_append p l k (i + 1)]
    rw [show i + 1 + l.length = i + (l.length + 1) by omega]
    split <;> simp
theorem liesAt_le (p : ApiClaim → Bool) : ∀ (l : List ApiClaim) (i : Nat), ∀ x ∈ liesAt p i l, (i : Int) ≤ x
  | [], i, x, h => by simp [liesAt] at h
  | c :: l, i, x, h => by
    simp only [liesAt] at h
    split at h
    · have := liesAt_le p l (i + 1) x h; omega
    · rcases List.mem_cons.1 h with rfl | h
      · omega
      · have := liesAt_le p l (i + 1) x h; omega
theorem liesAt_len (p : ApiClaim → Bool) : ∀ (l : List ApiClaim) (i : Nat), (liesAt p i l).length ≤ l.length
  | [], i => by simp [liesAt]
  | c :: l, i => by
    have := liesAt_len p l (i + 1)
    simp only [liesAt]
    split <;> simp <;> omega
theorem liesAt_congr {p q : ApiClaim → Bool} : ∀ (l : List ApiClaim) (i : Nat), (∀ c ∈ l, p c = q c) → liesAt p i l = liesAt q i l
  | [], _, _ => rfl
  | c :: l, i, h => by
    simp only [liesAt, h c (by simp), liesAt_congr l (i + 1) fun x hx => h x (by simp [hx])]
theorem liesAt_mem (p : ApiClaim → Bool) : ∀ (l : List ApiClaim) (i : Nat) (x : Int), x ∈ liesAt p i l ↔ ∃ k c, l[k]? = some c ∧ x = ((i + k : Nat) : Int) ∧ p c = false
  | [], i, x => by simp [liesAt]
  | c :: l, i, x => by
    have ih := liesAt_mem p l (i + 1) x
    have key : (∃ k d, (c :: l)[k]? = some d ∧ x = ((i + k : Nat) : Int) ∧ p d = false) ↔ (x = (i : Int) ∧ p c = false) ∨ ∃ k d, l[k]? = some d ∧ x = ((i + 1 + k : Nat) : Int) ∧ p d = false := by
      constructor
      · rintro ⟨k, d, h1, h2, h3⟩
        cases k with
        | zero => simp at h1; subst h1; exact .inl ⟨h2, h3⟩
        | succ k => exact .inr ⟨k, d, by simpa using h1, by rw [h2]; congr 1; omega, h3⟩
      · rintro (⟨h1, h2⟩ | ⟨k, d, h1, h2, h3⟩)
        · exact ⟨0, c, rfl, h1, h2⟩
        · exact ⟨k + 1, d, by simpa using h1, by rw [h2]; congr 1; omega, h3⟩
    rw [key, ← ih]
    simp only [liesAt]
    cases hc : p c with
    | true => simp
    | false => simp

/-- Is a valid claim true of what is known? -/
def trueX (b : ApiBatch) (x : ApiBottling) (c : ApiClaim) : Bool :=
  if c.Kind = 0 then decide (x.Age ≥ c.Number) else if c.Kind = 1 then decide (x.Woods c.What.toNat ≥ c.Number) else if c.Kind = 2 then decide (x.Places c.What.toNat ≥ c.Number) else if c.Kind = 3 then x.Casks == 1 else
  if c.Kind = 4 then b.Water == 0 else if c.Kind = 5 then !b.Filtered else if c.Kind = 6 then !b.Coloured else decide (x.Strength.Lo ≥ c.What - c.Number) && decide (x.Strength.Hi ≤ c.What + c.Number)

theorem idxO_of {i : Int} {n : Nat} (h0 : 0 ≤ i) (h1 : i < n) : idxO n i = some i.toNat := by
  unfold idxO; rw [if_pos ⟨h0, h1⟩]

theorem test_eq (b : ApiBatch) (A L M : Int) (x : ApiBottling) (c : ApiClaim) (h : COK c) : ((m_bottle_label_tests (BottleLabel.mk (BottleBatch.mk b A L M) x)).bind fun r => (idxO 8 c.Kind).bind fun j => (r j) c) = some (trueX b x c) := by
  have hk := h.kind
  unfold m_bottle_label_tests
  simp only [Option.bind_some]
  rw [idxO_of (by omega) (by omega)]
  simp only [Option.bind_some]
  have hc : c.Kind = 0 ∨ c.Kind = 1 ∨ c.Kind = 2 ∨ c.Kind = 3 ∨ c.Kind = 4 ∨ c.Kind = 5 ∨ c.Kind = 6 ∨ c.Kind = 7 := by omega
  unfold trueX
  rcases hc with e | e | e | e | e | e | e | e
  · rw [e]; rfl
  · have hw := h.what (.inl e)
    rw [e]
    show m_bottle_label_tests_2 c _ = _
    unfold m_bottle_label_tests_2
    rw [idxO_of (by omega) (by omega)]; rfl
  · have hw := h.what (.inr e)
    rw [e]
    show m_bottle_label_tests_3 c _ = _
    unfold m_bottle_label_tests_3
    rw [idxO_of (by omega) (by omega)]; rfl
  · rw [e]; rfl
  · rw [e]; rfl
  · rw [e]; rfl
  · rw [e]; rfl
  · have hs := h.str e
    rw [e]
    show some (m_bottle_label_tests_8 c _) = _
    unfold m_bottle_label_tests_8
    rw [w64_id (by omega) (by omega), w64_id (by omega) (by omega)]; rfl

theorem lies_eq (b : ApiBatch) (A L M : Int) (x : ApiBottling) (l : List ApiClaim) (hl : l.length ≤ 1000) (h : ∀ c ∈ l, COK c) : m_bottle_label_lies (BottleLabel.mk (BottleBatch.mk b A L M) x) l = some (liesAt (trueX b x) 0 l) := by
  unfold m_bottle_label_lies
  obtain ⟨r, hr⟩ : ∃ r, m_bottle_label_tests (BottleLabel.mk (BottleBatch.mk b A L M) x) = some r := ⟨_, rfl⟩
  refine bind_of hr ?_
  obtain ⟨t', k1, k2⟩ := loopM_pre (body := b_bottle_label_lies_1 l r) (fun i (t : List Int) => (t, (i : Int))) (fun t => t) (fun pre t => t = liesAt (trueX b x) 0 pre) l
    (fun pre c post t hl' ht => by
      have hg := getEl_mid hl'
      have hi := lt_mid hl'
      have ht' := test_eq b A L M x c (h c (List.mem_of_getElem? hg))
      rw [hr] at ht'
      simp only [Option.bind_some] at ht'
      have hk := (h c (List.mem_of_getElem? hg)).kind
      rw [idxO_of (by omega) (by omega)] at ht'
      simp only [Option.bind_some] at ht'
      have hlen := liesAt_len (trueX b x) pre 0
      unfold b_bottle_label_lies_1
      simp only [idxL_nat, hg, Option.bind_some]
      rw [w64_id (by omega) (by omega), idxO_of (by omega) (by omega)]
      simp only [show (decide ((pre.length : Int) < (l.length : Int))) = true by simpa using hi, if_true, Option.bind_some, ht']
      rw [liesAt_append]
      simp only [liesAt, Nat.zero_add]
      cases hp : trueX b x c with
      | true => exact ⟨t, by simp, by simpa using ht⟩
      | false =>
        refine ⟨t ++ [(pre.length : Int)], ?_, by rw [ht]; simp⟩
        simp only [Bool.not_false, if_true]
        rw [appO_some' (by rw [ht]; simp only [List.length_cons, List.length_nil]; omega)]
        simp)
    (fun t _ => by unfold b_bottle_label_lies_1; simp) l [] [] rfl rfl
  simp only [List.length_nil, Int.natCast_zero] at k2
  exact bind_of k2 (by rw [k1])

theorem false_prog (b : ApiBatch) (l : List ApiClaim) (hb : b.Draughts.length ≤ 40) (hl : l.length ≤ 1000) :
    ((validB b && claimsOK l) = false ∧ m_bottle_False b l = some ([], 1)) ∨ (Valid b ∧ claimsOK l = true ∧ (∀ c ∈ l, COK c) ∧ ∃ x, Known b b.Water x ∧ m_bottle_Blend b = some (x, 0) ∧ m_bottle_False b l = some (liesAt (trueX b x) 0 l, 0)) := by
  obtain ⟨x, he, hx⟩ := open_eq b hb
  unfold m_bottle_False m_bottle_write m_bottle_Blend
  cases hv : validB b with
  | false =>
    refine .inl ⟨rfl, ?_⟩
    rw [he, hv]; rfl
  | true =>
    cases hc : claimsOK l with
    | false =>
      refine .inl ⟨rfl, ?_⟩
      rw [he, hv, areClaims_eq, hc]; rfl
    | true =>
      have h := (validB_iff b).1 hv
      obtain ⟨y, k1, k2⟩ := known_eq h
      have hall : ∀ c ∈ l, COK c := by
        simp only [claimsOK, Bool.and_eq_true, List.all_eq_true] at hc
        exact fun c hcl => COK.of (hc.2 c hcl)
      refine .inr ⟨h, rfl, hall, y, k2, ?_, ?_⟩
      · refine bind_of he ?_
        rw [hv, hx hv]
        simp only [Bool.not_true, Bool.false_eq_true, if_false]
        exact bind_of k1 rfl
      · rw [he, hv, areClaims_eq, hc, hx hv]
        simp only [Option.bind_some, Bool.not_true, Bool.false_eq_true, if_false, k1]
        exact bind_of (lies_eq b _ _ _ y l hl hall) rfl

/-! ### The document's Batch -/
theorem refFrom_eq (c : ApiCask) : m_wormtubref12_from c = some ((arrL 8 c.Woods).all m_bottle_isDay && (arrL 8 c.Places).all m_bottle_isDay && m_bottle_isDay c.Age && decide (c.Age ≥ imax (arrL 8 c.Woods).sum (arrL 8 c.Places).sum) && m_bottle_within c.Number 0 1073741824) := by
  unfold m_wormtubref12_from
  have hin : ∀ x : Int, m_wormtubref12_in x 0 65536 = m_bottle_isDay x := fun x => rfl
  have ssn : ∀ (f : Nat → Int) (n : Nat), (arrL (n + 1) f).sum = (arrL n f).sum + f n := fun f n => by
    simp [arrL, List.range_succ]
  have sbd : ∀ (f : Nat → Int) (n : Nat), (∀ j, j < n → m_bottle_isDay (f j) = true) → 0 ≤ (arrL n f).sum ∧ (arrL n f).sum ≤ 65536 * n := fun f n h => by
    have := sum_bound 65536 (by omega) (arrL n f) fun x hx => by
      simp only [arrL, List.mem_map, List.mem_range] at hx
      obtain ⟨j, hj, rfl⟩ := hx
      exact (day_iff _).1 (h j hj)
    rw [arrL_len] at this; exact this
  have go : ∀ (k i : Nat), i + k = 8 → (∀ j, j < i → m_bottle_isDay (c.Woods j) = true ∧ m_bottle_isDay (c.Places j) = true) →
      (loopM (b_wormtubref12_from_1 c) ((arrL i c.Woods).sum, (arrL i c.Places).sum, (i : Int)) = some (.inl ((arrL 8 c.Woods).sum, (arrL 8 c.Places).sum)) ∧ ((arrL 8 c.Woods).all m_bottle_isDay && (arrL 8 c.Places).all m_bottle_isDay) = true) ∨
      (loopM (b_wormtubref12_from_1 c) ((arrL i c.Woods).sum, (arrL i c.Places).sum, (i : Int)) = some (.inr false) ∧ ((arrL 8 c.Woods).all m_bottle_isDay && (arrL 8 c.Places).all m_bottle_isDay) = false) := by
    intro k
    induction k with
    | zero =>
      intro i hi hok
      have : i = 8 := by omega
      subst this
      left
      refine ⟨?_, ?_⟩
      · have hb : b_wormtubref12_from_1 c ((arrL 8 c.Woods).sum, (arrL 8 c.Places).sum, ((8 : Nat) : Int)) = some (.done (.inl ((arrL 8 c.Woods).sum, (arrL 8 c.Places).sum))) := by
          unfold b_wormtubref12_from_1; simp
        rw [loopM_eq, hb]
      · rw [Bool.and_eq_true, arrL_allI, arrL_allI]
        exact ⟨fun j hj => (hok j hj).1, fun j hj => (hok j hj).2⟩
    | succ k ih =>
      intro i hi hok
      have hlt : i < 8 := by omega
      by_cases hd : m_bottle_isDay (c.Woods i) = true ∧ m_bottle_isDay (c.Places i) = true
      · have b1 := sbd c.Woods i fun j hj => (hok j hj).1
        have b2 := sbd c.Places i fun j hj => (hok j hj).2
        have b3 := (day_iff _).1 hd.1
        have b4 := (day_iff _).1 hd.2
        have hb : b_wormtubref12_from_1 c ((arrL i c.Woods).sum, (arrL i c.Places).sum, (i : Int)) = some (.next ((arrL (i + 1) c.Woods).sum, (arrL (i + 1) c.Places).sum, ((i + 1 : Nat) : Int))) := by
          unfold b_wormtubref12_from_1
          simp only [show ((i : Int) < 8) by omega, decide_true, if_true, idxO_nat hlt, Option.bind_some, hin, hd.1, hd.2, Bool.not_true, Bool.false_eq_true, if_false, bindv, ssn]
          rw [w64_id (n := (i : Int) + 1) (by omega) (by omega), w64_id (by omega) (by omega), w64_id (by omega) (by omega)]
          simp
        rw [loopM_eq, hb]
        refine ih (i + 1) (by omega) fun j hj => ?_
        by_cases hji : j = i
        · subst hji; exact hd
        · exact hok j (by omega)
      · right
        have hb : b_wormtubref12_from_1 c ((arrL i c.Woods).sum, (arrL i c.Places).sum, (i : Int)) = some (.done (.inr false)) := by
          unfold b_wormtubref12_from_1
          simp only [show ((i : Int) < 8) by omega, decide_true, if_true, idxO_nat hlt, Option.bind_some, hin]
          cases h1 : m_bottle_isDay (c.Woods i) with
          | false => simp
          | true =>
            cases h2 : m_bottle_isDay (c.Places i) with
            | false => simp
            | true => exact absurd ⟨h1, h2⟩ hd
        refine ⟨by rw [loopM_eq, hb], ?_⟩
        cases hc : ((arrL 8 c.Woods).all m_bottle_isDay && (arrL 8 c.Places).all m_bottle_isDay) with
        | false => rfl
        | true =>
          rw [Bool.and_eq_true, arrL_allI, arrL_allI] at hc
          exact absurd ⟨hc.1 i hlt, hc.2 i hlt⟩ hd
  have h0 := go 8 0 rfl (fun j hj => by omega)
  have e0 : ∀ f : Nat → Int, (arrL 0 f).sum = 0 := fun f => rfl
  rw [e0, e0] at h0
  simp only [Int.natCast_zero] at h0
  rcases h0 with ⟨hr, ha⟩ | ⟨hr, ha⟩
  · refine bind_of hr ?_
    rw [ha]
    simp only [Bool.true_and, Option.some.injEq, m_wormtubref12_in, m_bottle_isDay, m_bottle_within, imax]
    rw [Bool.eq_iff_iff]
    simp only [Bool.and_eq_true, decide_eq_true_eq, ge_iff_le]
    constructor
    · rintro ⟨⟨⟨h1, h2⟩, h3⟩, h4⟩
      refine ⟨⟨h2, ?_⟩, h1⟩
      split <;> omega
    · rintro ⟨⟨h2, h3⟩, h1⟩
      refine ⟨⟨⟨h1, h2⟩, ?_⟩, ?_⟩
      · split at h3 <;> omega
      · split at h3 <;> omega
  · refine bind_of hr ?_
    rw [ha]; simp

theorem refBatch_eq (b : ApiBatch) (hb : b.Draughts.length ≤ 40) : m_wormtubref12_Batch b = some (validB b) := by
  unfold m_wormtubref12_Batch
  have hd : ∀ d : ApiDraught, ((!((arrL 8 d.From.Woods).all m_bottle_isDay && (arrL 8 d.From.Places).all m_bottle_isDay && m_bottle_isDay d.From.Age && decide (d.From.Age ≥ imax (arrL 8 d.From.Woods).sum (arrL 8 d.From.Places).sum) && m_bottle_within d.From.Number 0 1073741824)) || (!(m_wormtubref12_in d.Amount 1 1073741824)) || (!(m_wormtubref12_span d.Strength 10000))) = !dOK d := by
    intro d
    show ((!_) || (!(m_bottle_within d.Amount 1 1073741824)) || (!(m_bottle_isSpan d.Strength 10000))) = _
    unfold dOK
    simp only [Bool.not_and]
  have key := loopM_ledger (body := b_wormtubref12_Batch_1 b) (fun i (_ : Unit) => (i : Int)) (fun _ x => if dOK x then 0 else 1) (fun _ _ => .inr false) (fun _ => .inl ()) (fun _ _ => True) b.Draughts
    (fun pre x post t hl ho ht => by
      have hg := getEl_mid hl
      have hi := lt_mid hl
      unfold b_wormtubref12_Batch_1
      simp only [idxL_nat, hg, Option.bind_some, refFrom_eq, bindv, hd]
      rw [w64_id (by omega) (by omega)]
      simp only [show (decide ((pre.length : Int) < (b.Draughts.length : Int))) = true by simpa using hi, if_true]
      cases hx : dOK x with
      | false => left; simp
      | true => right; exact ⟨by simp, (), by simp⟩)
    (fun t _ _ => by unfold b_wormtubref12_Batch_1; simp) b.Draughts [] () rfl AllOk.nil trivial
  simp only [List.length_nil, Int.natCast_zero] at key
  rcases key with ⟨p, x, ⟨post, e, _, hx⟩, hr⟩ | ⟨ho, t, ht, hr⟩
  · refine bind_of hr ?_
    have : b.Draughts.all dOK = false := by
      rw [e, List.all_append, List.all_cons]
      cases hc : dOK x with
      | true => simp [hc] at hx
      | false => simp
    simp [validB, this]
  · refine bind_of hr ?_
    have : b.Draughts.all dOK = true := by
      rw [List.all_eq_true]
      intro y hy
      obtain ⟨s, r, e⟩ := List.append_of_mem hy
      have := ho s y r e
      cases hc : dOK y with
      | true => rfl
      | false => simp [hc] at this
    simp only [validB, this, Bool.true_and]
    rfl

end Go.Proofs.Ytbomfcghpajaiaa
