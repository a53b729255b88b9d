/- What a valid batch is, its sums; that the program's open says so. -/
import Derived.Test.YtbomfcghpajaiaaKalR
import Derived.Test.YtbomfcghpajaiaaT5
namespace Go.Proofs.Ytbomfcghpajaiaa
open Go.Dec

theorem day_iff (x : Int) : m_bottle_isDay x = true ↔ 0 ≤ x ∧ x ≤ 65536 := by
  simp only [m_bottle_isDay, m_bottle_within, Bool.and_eq_true, decide_eq_true_eq, ge_iff_le]

theorem sum_bound (p : Int) (hp : 0 ≤ p) : ∀ l : List Int, (∀ x ∈ l, 0 ≤ x ∧ x ≤ p) → 0 ≤ l.sum ∧ l.sum ≤ p * l.length
  | [], _ => by simp
  | x :: l, h => by
    have h1 := h x (by simp)
    have h2 := sum_bound p hp l fun y hy => h y (by simp [hy])
    rw [List.sum_cons, List.length_cons, Int.natCast_add, Int.mul_add]
    simp only [Int.natCast_one, Int.mul_one]
    omega

theorem sum_eq (l : List Int) (hl : l.length ≤ 1000) : m_bottle_sum l = some (if l.all m_bottle_isDay then (l.sum, true) else (0, false)) := by
  unfold m_bottle_sum
  have key := loopM_ledger (body := b_bottle_sum_1 l) (fun i (t : Int) => (t, (i : Int))) (fun _ x => if m_bottle_isDay x then 0 else 1) (fun _ _ => .inr (0, false)) (fun t => .inl t) (fun pre t => t = pre.sum) l
    (fun pre x post t hl' ho ht => by
      have hg := getEl_mid hl'
      have hi := lt_mid hl'
      unfold b_bottle_sum_1
      simp only [idxL_nat, hg, Option.bind_some, bindv]
      rw [w64_id (n := (pre.length : Int) + 1) (by omega) (by omega)]
      simp only [show (decide ((pre.length : Int) < (l.length : Int))) = true by simpa using hi, if_true]
      cases hx : m_bottle_isDay x with
      | false => left; simp
      | true =>
        right
        have hx' := (day_iff x).1 hx
        have hall : ∀ y ∈ pre, 0 ≤ y ∧ y ≤ 65536 := by
          intro y hy
          obtain ⟨s, r, rfl⟩ := List.append_of_mem hy
          have := ho s y r rfl
          cases hd : m_bottle_isDay y with
          | true => exact (day_iff y).1 hd
          | false => simp [hd] at this
        have hb := sum_bound 65536 (by omega) pre hall
        refine ⟨by simp, t + x, ?_, by rw [ht]; simp⟩
        simp only [Bool.not_true, Bool.false_eq_true, if_false]
        rw [w64_id (by omega) (by omega)]; simp)
    (fun t _ _ => by unfold b_bottle_sum_1; simp) l [] 0 rfl AllOk.nil rfl
  simp only [List.length_nil, Int.natCast_zero] at key
  rcases key with ⟨p, x, ⟨post, e, _, hx⟩, hr⟩ | ⟨ho, t, ht, hr⟩
  · have : l.all m_bottle_isDay = false := by
      rw [e, List.all_append, List.all_cons]
      cases hd : m_bottle_isDay x with
      | true => simp [hd] at hx
      | false => simp
    rw [this]
    exact bind_of hr rfl
  · have : l.all m_bottle_isDay = true := by
      rw [List.all_eq_true]
      intro y hy
      obtain ⟨s, r, rfl⟩ := List.append_of_mem hy
      have := ho s y r rfl
      cases hd : m_bottle_isDay y with
      | true => rfl
      | false => simp [hd] at this
    rw [this]
    exact bind_of hr (by rw [ht]; rfl)

def dOK (d : ApiDraught) : Bool :=
  (arrL 8 d.From.Woods).all m_bottle_isDay && (arrL 8 d.From.Places).all m_bottle_isDay && m_bottle_isDay d.From.Age && decide (d.From.Age ≥ imax (arrL 8 d.From.Woods).sum (arrL 8 d.From.Places).sum) &&
  m_bottle_within d.From.Number 0 1073741824 && m_bottle_within d.Amount 1 1073741824 && m_bottle_isSpan d.Strength 10000

structure DOK (d : ApiDraught) : Prop where
  woods : ∀ i, i < 8 → 0 ≤ d.From.Woods i ∧ d.From.Woods i ≤ 65536
  places : ∀ i, i < 8 → 0 ≤ d.From.Places i ∧ d.From.Places i ≤ 65536
  age : 0 ≤ d.From.Age ∧ d.From.Age ≤ 65536
  ageW : (arrL 8 d.From.Woods).sum ≤ d.From.Age
  ageP : (arrL 8 d.From.Places).sum ≤ d.From.Age
  num : 0 ≤ d.From.Number ∧ d.From.Number ≤ 1073741824
  amt : 1 ≤ d.Amount ∧ d.Amount ≤ 1073741824
  str : 0 ≤ d.Strength.Lo ∧ d.Strength.Lo ≤ d.Strength.Hi ∧ d.Strength.Hi ≤ 10000

theorem arrL_allI {f : Nat → Int} {p : Int → Bool} {n : Nat} : (arrL n f).all p = true ↔ ∀ i, i < n → p (f i) = true := by
  simp [arrL, List.all_eq_true]
theorem dOK_iff (d : ApiDraught) : dOK d = true ↔ DOK d := by
  simp only [dOK, Bool.and_eq_true, arrL_allI, day_iff, decide_eq_true_eq, m_bottle_within, m_bottle_isSpan, imax, ge_iff_le]
  constructor
  · rintro ⟨⟨⟨⟨⟨⟨h1, h2⟩, h3⟩, h4⟩, h5⟩, h6⟩, h7⟩
    refine ⟨h1, h2, h3, ?_, ?_, by omega, by omega, by omega⟩
    · split at h4 <;> omega
    · split at h4 <;> omega
  · rintro ⟨h1, h2, h3, h4, h5, h6, h7, h8⟩
    refine ⟨⟨⟨⟨⟨⟨h1, h2⟩, h3⟩, ?_⟩, by omega⟩, by omega⟩, by omega⟩
    split <;> omega
theorem isDraught_eq (d : ApiDraught) : m_bottle_isDraught d = some (dOK d) := by
  unfold m_bottle_isDraught
  rw [sum_eq _ (by simp [arrL]), sum_eq _ (by simp [arrL])]
  simp only [Option.bind_some, bindv, dOK]
  cases h1 : (arrL 8 d.From.Woods).all m_bottle_isDay <;> cases h2 : (arrL 8 d.From.Places).all m_bottle_isDay <;> simp

def sumA (l : List ApiDraught) : Int := (l.map fun d => d.Amount).sum
def sumLo (l : List ApiDraught) : Int := (l.map fun d => d.Amount * d.Strength.Lo).sum
def sumHi (l : List ApiDraught) : Int := (l.map fun d => d.Amount * d.Strength.Hi).sum
theorem sumA_snoc (l : List ApiDraught) (d : ApiDraught) : sumA (l ++ [d]) = sumA l + d.Amount := by simp [sumA]
theorem sumLo_snoc (l : List ApiDraught) (d : ApiDraught) : sumLo (l ++ [d]) = sumLo l + d.Amount * d.Strength.Lo := by simp [sumLo]
theorem sumHi_snoc (l : List ApiDraught) (d : ApiDraught) : sumHi (l ++ [d]) = sumHi l + d.Amount * d.Strength.Hi := by simp [sumHi]

theorem amount_bound {d : ApiDraught} (h : DOK d) {x : Int} (h0 : 0 ≤ x) (h1 : x ≤ 10000) : 0 ≤ d.Amount * x ∧ d.Amount * x ≤ 10737418240000 := by
  have ha := h.amt
  constructor
  · exact Int.mul_nonneg (by omega) h0
  · have := Int.mul_le_mul ha.2 h1 h0 (by omega)
    omega
theorem sums_bound (l : List ApiDraught) : (∀ d ∈ l, DOK d) → ((l.length : Int) ≤ sumA l ∧ sumA l ≤ 1073741824 * l.length) ∧ (0 ≤ sumLo l ∧ sumLo l ≤ sumHi l) ∧ sumHi l ≤ 10737418240000 * l.length ∧ sumHi l ≤ 10000 * sumA l := by
  induction l using snoc_ind with
  | h0 => intro _; simp [sumA, sumLo, sumHi]
  | hs l d ih =>
    intro h
    have hd := h d (by simp)
    obtain ⟨h1, h2, h3, h4⟩ := ih fun x hx => h x (by simp [hx])
    rw [sumA_snoc, sumLo_snoc, sumHi_snoc, List.length_append, List.length_singleton, Int.natCast_add]
    have ha := hd.amt
    have hs := hd.str
    have b1 := amount_bound hd (x := d.Strength.Lo) (by omega) (by omega)
    have b2 := amount_bound hd (x := d.Strength.Hi) (by omega) (by omega)
    have b3 : d.Amount * d.Strength.Lo ≤ d.Amount * d.Strength.Hi := Int.mul_le_mul_of_nonneg_left hs.2.1 (by omega)
    have b4 : d.Amount * d.Strength.Hi ≤ d.Amount * 10000 := Int.mul_le_mul_of_nonneg_left hs.2.2 (by omega)
    simp only [Int.natCast_one]
    refine ⟨by omega, by omega, by omega, by omega⟩

def validB (b : ApiBatch) : Bool := b.Draughts.all dOK && m_bottle_within (b.Draughts.length : Int) 1 16 && m_bottle_within b.Water 0 17179869184 && m_bottle_isSpan b.Shrink 1000
structure Valid (b : ApiBatch) : Prop where
  ds : ∀ d ∈ b.Draughts, DOK d
  len : 1 ≤ b.Draughts.length ∧ b.Draughts.length ≤ 16
  water : 0 ≤ b.Water ∧ b.Water ≤ 17179869184
  shrink : 0 ≤ b.Shrink.Lo ∧ b.Shrink.Lo ≤ b.Shrink.Hi ∧ b.Shrink.Hi ≤ 1000
theorem validB_iff (b : ApiBatch) : validB b = true ↔ Valid b := by
  simp only [validB, Bool.and_eq_true, List.all_eq_true, dOK_iff, m_bottle_within, m_bottle_isSpan, decide_eq_true_eq, ge_iff_le]
  constructor
  · rintro ⟨⟨⟨h1, h2⟩, h3⟩, h4⟩
    exact ⟨h1, by omega, h3, by omega⟩
  · rintro ⟨h1, h2, h3, h4⟩
    exact ⟨⟨⟨h1, by omega⟩, h3⟩, by omega⟩

theorem open_eq (b : ApiBatch) (hlen : b.Draughts.length ≤ 40) : ∃ x, m_bottle_open b = some (x, validB b) ∧ (validB b = true → x = BottleBatch.mk b (sumA b.Draughts) (sumLo b.Draughts) (sumHi b.Draughts)) := by
  unfold m_bottle_open
  have key : (∃ x, loopM (b_bottle_open_1 b) (0, BottleBatch.mk b 0 0 0) = some (.inr (x, false)) ∧ b.Draughts.all dOK = false) ∨ (loopM (b_bottle_open_1 b) (0, BottleBatch.mk b 0 0 0) = some (.inl (BottleBatch.mk b (sumA b.Draughts) (sumLo b.Draughts) (sumHi b.Draughts))) ∧ b.Draughts.all dOK = true) := by
    have go : ∀ (post pre : List ApiDraught), b.Draughts = pre ++ post → (∀ d ∈ pre, DOK d) → (∃ x, loopM (b_bottle_open_1 b) ((pre.length : Int), BottleBatch.mk b (sumA pre) (sumLo pre) (sumHi pre)) = some (.inr (x, false)) ∧ b.Draughts.all dOK = false) ∨ (loopM (b_bottle_open_1 b) ((pre.length : Int), BottleBatch.mk b (sumA pre) (sumLo pre) (sumHi pre)) = some (.inl (BottleBatch.mk b (sumA b.Draughts) (sumLo b.Draughts) (sumHi b.Draughts))) ∧ b.Draughts.all dOK = true) := by
      intro post
      induction post with
      | nil =>
        intro pre e h
        rw [List.append_nil] at e
        right
        rw [← e] at h ⊢
        refine ⟨?_, by rw [List.all_eq_true]; exact fun d hd => (dOK_iff d).2 (h d hd)⟩
        rw [loopM_eq]; unfold b_bottle_open_1; simp
      | cons d post ih =>
        intro pre e h
        have hg := getEl_mid e
        have hi := lt_mid e
        cases hd : dOK d with
        | false =>
          left
          have hb : b_bottle_open_1 b ((pre.length : Int), BottleBatch.mk b (sumA pre) (sumLo pre) (sumHi pre)) = some (.done (.inr (BottleBatch.mk b (sumA pre) (sumLo pre) (sumHi pre), false))) := by
            unfold b_bottle_open_1
            simp only [idxL_nat, hg, Option.bind_some, bindv, isDraught_eq, hd]
            simp only [show (decide ((pre.length : Int) < (b.Draughts.length : Int))) = true by simpa using hi, if_true]
            simp
          refine ⟨BottleBatch.mk b (sumA pre) (sumLo pre) (sumHi pre), ?_, ?_⟩
          · rw [loopM_eq, hb]
          · rw [e, List.all_append, List.all_cons, hd]; simp
        | true =>
          have hd' := (dOK_iff d).1 hd
          have hs := hd'.str
          obtain ⟨b1, b2, b3, _⟩ := sums_bound pre h
          have b4 := amount_bound hd' (x := d.Strength.Lo) (by omega) (by omega)
          have b5 := amount_bound hd' (x := d.Strength.Hi) (by omega) (by omega)
          have ha := hd'.amt
          have := ih (pre ++ [d]) (by rw [e]; simp) (fun x hx => by
            rcases List.mem_append.1 hx with hx | hx
            · exact h x hx
            · simp only [List.mem_singleton] at hx; subst hx; exact hd')
          have hb : b_bottle_open_1 b ((pre.length : Int), BottleBatch.mk b (sumA pre) (sumLo pre) (sumHi pre)) = some (.next (((pre ++ [d]).length : Int), BottleBatch.mk b (sumA (pre ++ [d])) (sumLo (pre ++ [d])) (sumHi (pre ++ [d])))) := by
            unfold b_bottle_open_1
            rw [sumA_snoc, sumLo_snoc, sumHi_snoc, List.length_append, List.length_singleton, Int.natCast_add]
            simp only [idxL_nat, hg, Option.bind_some, bindv, isDraught_eq, hd]
            simp only [show (decide ((pre.length : Int) < (b.Draughts.length : Int))) = true by simpa using hi, if_true]
            rw [w64_id (n := d.Amount * d.Strength.Lo) (by omega) (by omega), w64_id (n := d.Amount * d.Strength.Hi) (by omega) (by omega), w64_id (n := (pre.length : Int) + 1) (by omega) (by omega), w64_id (n := sumA pre + d.Amount) (by omega) (by omega), w64_id (n := sumLo pre + d.Amount * d.Strength.Lo) (by omega) (by omega), w64_id (n := sumHi pre + d.Amount * d.Strength.Hi) (by omega) (by omega)]
            simp
          rw [loopM_eq, hb]
          exact this
    exact go b.Draughts [] rfl (by simp)
  rcases key with ⟨x, hr, hall⟩ | ⟨hr, hall⟩
  · refine ⟨x, bind_of hr ?_, fun h => ?_⟩
    · simp only [validB, hall, Bool.false_and]
    · simp only [validB, hall, Bool.false_and] at h; cases h
  · refine ⟨BottleBatch.mk b (sumA b.Draughts) (sumLo b.Draughts) (sumHi b.Draughts), bind_of hr ?_, fun _ => rfl⟩
    simp only [validB, hall, Bool.true_and]
    cases m_bottle_within (b.Draughts.length : Int) 1 16 <;> cases m_bottle_within b.Water 0 17179869184 <;> simp

end Go.Proofs.Ytbomfcghpajaiaa
