/- Labels: the document's claims and rules, the kinds of claims as bits, the flags. -/
import Derived.Test.YtbomfcghpajaiaaNp
import Derived.Test.YtbomfcghpajaiaaTa
namespace Go.Proofs.Ytbomfcghpajaiaa
open Go.Dec

/-! ### The document's claims -/
theorem refClaim_eq (c : ApiClaim) : m_wormtubref12_claim c = some (claimOK c) := by
  have e : ∀ n a b : Int, m_wormtubref12_in n a b = m_bottle_within n a b := fun _ _ _ => rfl
  unfold m_wormtubref12_claim claimOK m_bottle_isDay m_bottle_isStrength
  simp only [e]
  repeat' split
  all_goals first | rfl | rw [Bool.and_comm]
theorem refClaims_eq (l : List ApiClaim) (hl : l.length ≤ 40) : m_wormtubref12_Claims l = some (claimsOK l) := by
  unfold m_wormtubref12_Claims claimsOK
  by_cases h : (l.length : Int) ≤ 32
  · have key := loopM_ledger (body := b_wormtubref12_Claims_1 l) (fun i (_ : Unit) => (i : Int)) (fun _ x => if claimOK x then 0 else 1) (fun _ _ => .inr false) (fun _ => .inl ()) (fun _ _ => True) l
      (fun pre x post t hl' ho ht => by
        have hg := getEl_mid hl'
        have hi := lt_mid hl'
        unfold b_wormtubref12_Claims_1
        simp only [idxL_nat, hg, Option.bind_some, refClaim_eq, bindv]
        rw [w64_id (by omega) (by omega)]
        simp only [show (decide ((pre.length : Int) < (l.length : Int))) = true by simpa using hi, show (decide ((pre.length : Int) ≤ 32)) = true by simp; omega, Bool.and_self, if_true]
        cases hx : claimOK x with
        | false => left; simp
        | true => right; exact ⟨by simp, (), by simp⟩)
      (fun t _ _ => by unfold b_wormtubref12_Claims_1; simp) l [] () rfl AllOk.nil trivial
    simp only [List.length_nil, Int.natCast_zero] at key
    rcases key with ⟨p, x, ⟨post, e, _, hx⟩, hr⟩ | ⟨ho, t, ht, hr⟩
    · refine bind_of hr ?_
      have : l.all claimOK = false := by
        rw [e, List.all_append, List.all_cons]
        cases hc : claimOK x with
        | true => simp [hc] at hx
        | false => simp
      simp [this]
    · refine bind_of hr ?_
      have : l.all claimOK = true := by
        rw [List.all_eq_true]
        intro y hy
        obtain ⟨s, r, e⟩ := List.append_of_mem hy
        have := ho s y r e
        cases hc : claimOK y with
        | true => rfl
        | false => simp [hc] at this
      simp [this]
  · have hlt : 32 < l.length := by omega
    have key := loopM_ledger (body := b_wormtubref12_Claims_1 l) (fun i (_ : Unit) => (i : Int)) (fun _ x => if claimOK x then 0 else 1) (fun _ _ => .inr false) (fun _ => .inl ()) (fun _ _ => True) (l.take 33)
      (fun pre x post t hl' ho ht => by
        have hg : l[pre.length]? = some x := by
          have h1 := getEl_mid hl'
          rw [List.getElem?_take] at h1
          split at h1
          · exact h1
          · cases h1
        have hi : pre.length < 33 := by have := lt_mid hl'; rw [List.length_take] at this; omega
        unfold b_wormtubref12_Claims_1
        simp only [idxL_nat, hg, Option.bind_some, refClaim_eq, bindv]
        rw [w64_id (by omega) (by omega)]
        simp only [show (decide ((pre.length : Int) < (l.length : Int))) = true by simp; omega, show (decide ((pre.length : Int) ≤ 32)) = true by simp; omega, Bool.and_self, if_true]
        cases hx : claimOK x with
        | false => left; simp
        | true => right; exact ⟨by simp, (), by simp⟩)
      (fun t _ _ => by
        have e : (l.take 33).length = 33 := by rw [List.length_take]; omega
        unfold b_wormtubref12_Claims_1
        rw [e]; simp) (l.take 33) [] () rfl AllOk.nil trivial
    simp only [List.length_nil, Int.natCast_zero] at key
    have hd : decide ((l.length : Int) ≤ 32) = false := by simpa using h
    rcases key with ⟨p, x, ⟨post, e, _, hx⟩, hr⟩ | ⟨ho, t, ht, hr⟩
    · exact bind_of hr (by simp [hd])
    · exact bind_of hr (by simp [hd])

/-- What is known of a batch says whether a claim is true. -/
theorem trueX_same {b : ApiBatch} {x y : ApiBottling} {c : ApiClaim} (hx : Known b b.Water x) (hy : Known b b.Water y) (hc : COK c) : trueX b x c = trueX b y c := by
  unfold trueX
  have hk := hc.kind
  by_cases h1 : c.Kind = 1
  · have hw := hc.what (.inl h1)
    simp only [h1, show ¬ ((1 : Int) = 0) by omega, if_false, if_true, hx.woods _ (show c.What.toNat < 8 by omega), hy.woods _ (show c.What.toNat < 8 by omega)]
  · by_cases h2 : c.Kind = 2
    · have hw := hc.what (.inr h2)
      simp only [h2, show ¬ ((2 : Int) = 0) by omega, show ¬ ((2 : Int) = 1) by omega, if_false, if_true, hx.places _ (show c.What.toNat < 8 by omega), hy.places _ (show c.What.toNat < 8 by omega)]
    · simp only [h1, h2, if_false, hx.age, hy.age, hx.casks, hy.casks, hx.str, hy.str]

theorem refTrue_eq {b : ApiBatch} {x : ApiBottling} {c : ApiClaim} (h : Valid b) (hx : Known b b.Water x) (hc : COK c) : m_wormtubref12_True b c = some (trueX b x c) := by
  obtain ⟨y, y1, y2⟩ := blend_ref h
  rw [trueX_same hx y2 hc]
  unfold m_wormtubref12_True
  refine bind_of y1 ?_
  have hk := hc.kind
  unfold trueX
  have hcs : c.Kind = 0 ∨ c.Kind = 1 ∨ c.Kind = 2 ∨ c.Kind = 3 ∨ c.Kind = 4 ∨ c.Kind = 5 ∨ c.Kind = 6 ∨ c.Kind = 7 := by omega
  rcases hcs with e | e | e | e | e | e | e | e
  · rw [e]; rfl
  · have hw := hc.what (.inl e)
    rw [e, idxO_of (by omega) (by omega)]; rfl
  · have hw := hc.what (.inr e)
    rw [e, idxO_of (i := c.What) (by omega) (by omega)]; rfl
  · rw [e]; rfl
  · rw [e]; rfl
  · rw [e]; rfl
  · rw [e]; rfl
  · have hs := hc.str e
    rw [e, w64_id (by omega) (by omega), w64_id (by omega) (by omega)]; rfl

theorem refFalse_eq {b : ApiBatch} {x : ApiBottling} {l : List ApiClaim} (hb : b.Draughts.length ≤ 40) (hl : l.length ≤ 40) (h : Valid b) (hc : claimsOK l = true) (hx : Known b b.Water x) (hall : ∀ c ∈ l, COK c) : m_wormtubref12_False b l = some (liesAt (trueX b x) 0 l, 0) := by
  unfold m_wormtubref12_False
  rw [refBatch_eq b hb, (validB_iff b).2 h, refClaims_eq l hl, hc]
  simp only [Option.bind_some, Bool.not_true, Bool.false_eq_true, if_false]
  obtain ⟨t', k1, k2⟩ := loopM_pre (body := b_wormtubref12_False_1 b l) (fun i (t : List Int) => (t, (i : Int))) (fun t => t) (fun pre t => t = liesAt (trueX b x) 0 pre) l
    (fun pre c post t hl' ht => by
      have hg := getEl_mid hl'
      have hi := lt_mid hl'
      have ht' := refTrue_eq h hx (hall c (List.mem_of_getElem? hg))
      have hlen := liesAt_len (trueX b x) pre 0
      unfold b_wormtubref12_False_1
      simp only [idxL_nat, hg, Option.bind_some, ht', bindv]
      rw [w64_id (by omega) (by omega)]
      simp only [show (decide ((pre.length : Int) < (l.length : Int))) = true by simpa using hi, if_true]
      rw [liesAt_append]
      simp only [liesAt, Nat.zero_add]
      cases hp : trueX b x c with
      | true => exact ⟨t, by simp, by simpa using ht⟩
      | false =>
        refine ⟨t ++ [(pre.length : Int)], ?_, by rw [ht]; simp⟩
        simp only [Bool.not_false, if_true]
        rw [appO_some' (by rw [ht]; simp only [List.length_cons, List.length_nil]; omega)]
        simp)
    (fun t _ => by unfold b_wormtubref12_False_1; simp) l [] [] rfl rfl
  simp only [List.length_nil, Int.natCast_zero] at k2
  exact bind_of k2 (by rw [k1])

/-! ### Rules -/
def ruleOK (r : ApiLabelRule) : Bool := m_bottle_within r.Country 0 255 && m_bottle_isStrength r.Least && m_bottle_isStrength r.Most && m_bottle_isDay r.Age && m_bottle_within r.Must 0 255 && m_bottle_within r.Never 0 255
def ruleErr (pre : List ApiLabelRule) (r : ApiLabelRule) : Int := if (pre.any fun x => x.Country == r.Country) || !ruleOK r then 1 else 0
open Classical in
noncomputable def rulesOK (l : List ApiLabelRule) : Bool := decide (AllOk ruleErr l) && decide ((l.length : Int) ≤ 64)

theorem mapGet_keys (k : Int) : ∀ ks : List Int, (mapGet (ks.map fun x => (x, true)) k).getD false = decide (k ∈ ks)
  | [] => by simp [mapGet]
  | x :: ks => by
    simp only [List.map_cons, mapGet]
    by_cases h : k = x
    · subst h; simp
    · have : (k == x) = false := by simpa using h
      rw [this]; simp only [Bool.false_eq_true, if_false, mapGet_keys k ks, List.mem_cons, h, false_or]

theorem areRules_eq (l : List ApiLabelRule) (hl : l.length ≤ 70) : m_bottle_areRules l = some (rulesOK l) := by
  unfold m_bottle_areRules rulesOK
  have key := loopM_ledger (body := b_bottle_areRules_1 l) (fun i (t : List (Int × Bool)) => (t, (i : Int))) ruleErr (fun _ _ => .inr false) (fun t => .inl t) (fun pre t => ∃ ks : List Int, t = ks.map (fun x => (x, true)) ∧ ∀ k, k ∈ ks ↔ ∃ r ∈ pre, r.Country = k) l
    (fun pre x post t hl' ho ht => by
      obtain ⟨ks, rfl, hks⟩ := ht
      have hg := getEl_mid hl'
      have hi := lt_mid hl'
      unfold b_bottle_areRules_1
      simp only [idxL_nat, hg, Option.bind_some, bindv, mapGet_keys]
      rw [w64_id (by omega) (by omega)]
      simp only [show (decide ((pre.length : Int) < (l.length : Int))) = true by simpa using hi, if_true]
      have e1 : decide (x.Country ∈ ks) = pre.any fun r => r.Country == x.Country := by
        rw [Bool.eq_iff_iff]; simp only [decide_eq_true_eq, hks, List.any_eq_true, beq_iff_eq]
      have e2 : ((((((decide (x.Country ∈ ks) || !m_bottle_within x.Country 0 255) || !m_bottle_isStrength x.Least) || !m_bottle_isStrength x.Most) || !m_bottle_isDay x.Age) || !m_bottle_within x.Must 0 255) || !m_bottle_within x.Never 0 255) = ((pre.any fun r => r.Country == x.Country) || !ruleOK x) := by
        rw [e1]; unfold ruleOK; simp only [Bool.not_and, Bool.or_assoc]
      rw [e2]
      unfold ruleErr
      cases hx : ((pre.any fun r => r.Country == x.Country) || !ruleOK x) with
      | true => left; simp
      | false =>
        right
        refine ⟨by simp, _, by simp; rfl, ?_⟩
        refine ⟨if x.Country ∈ ks then ks else ks ++ [x.Country], mapSet_keys _ _, fun k => ?_⟩
        split
        · rename_i hm
          rw [hks]
          constructor
          · rintro ⟨r, h1, h2⟩; exact ⟨r, by simp [h1], h2⟩
          · rintro ⟨r, h1, h2⟩
            rcases List.mem_append.1 h1 with h1 | h1
            · exact ⟨r, h1, h2⟩
            · simp at h1; subst h1; rw [← h2]; exact (hks _).1 hm
        · simp only [List.mem_append, List.mem_singleton, hks]
          constructor
          · rintro (⟨r, h1, h2⟩ | h)
            · exact ⟨r, .inl h1, h2⟩
            · exact ⟨x, .inr rfl, h.symm⟩
          · rintro ⟨r, h1 | h1, h2⟩
            · exact .inl ⟨r, h1, h2⟩
            · subst h1; exact .inr h2.symm)
    (fun t _ _ => by unfold b_bottle_areRules_1; simp) l [] [] rfl AllOk.nil ⟨[], rfl, by simp⟩
  simp only [List.length_nil, Int.natCast_zero] at key
  rcases key with ⟨p, x, hf, hr⟩ | ⟨ho, t, ht, hr⟩
  · refine bind_of hr ?_
    simp [hf.not_ok]
  · refine bind_of hr ?_
    simp [ho]

theorem refRules_eq (l : List ApiLabelRule) (hl : l.length ≤ 70) : m_wormtubref12_Rules l = some (rulesOK l) := by
  unfold m_wormtubref12_Rules rulesOK
  have key := loopM_ledger (body := b_wormtubref12_Rules_1 l) (fun i (_ : Unit) => (i : Int)) ruleErr (fun _ _ => .inr false) (fun _ => .inl ()) (fun _ _ => True) l
    (fun pre x post t hl' ho ht => by
      have hg := getEl_mid hl'
      have hi := lt_mid hl'
      have hin : loopM (b_wormtubref12_Rules_2 l (pre.length : Int) x) 0 = some (if (pre.any fun r => r.Country == x.Country) then .inr false else .inl ()) := by
        have key := loopM_ledger (body := b_wormtubref12_Rules_2 l (pre.length : Int) x) (fun i (_ : Unit) => (i : Int)) (fun _ (y : ApiLabelRule) => if y.Country == x.Country then 1 else 0) (fun _ _ => .inr false) (fun _ => .inl ()) (fun _ _ => True) pre
          (fun pre' y post' t hl2 ho2 ht2 => by
            have hi2 := lt_mid hl2
            have hg2 : l[pre'.length]? = some y := by
              rw [hl', List.getElem?_append_left hi2]; exact getEl_mid hl2
            unfold b_wormtubref12_Rules_2
            simp only [idxL_nat, hg2, Option.bind_some, bindv]
            rw [w64_id (by omega) (by omega)]
            simp only [show (decide ((pre'.length : Int) < (pre.length : Int))) = true by simpa using hi2, if_true]
            cases hx : y.Country == x.Country with
            | true => left; simp
            | false => right; exact ⟨by simp, (), by simp⟩)
          (fun t _ _ => by unfold b_wormtubref12_Rules_2; simp) pre [] () rfl AllOk.nil trivial
        simp only [List.length_nil, Int.natCast_zero] at key
        rcases key with ⟨p, y, ⟨post', e, _, hy⟩, hr⟩ | ⟨ho3, t, _, hr⟩
        · have : (pre.any fun r => r.Country == x.Country) = true := by
            rw [e, List.any_append, List.any_cons]
            cases hc : y.Country == x.Country with
            | true => simp
            | false => simp [hc] at hy
          rw [this]; exact hr
        · have : (pre.any fun r => r.Country == x.Country) = false := by
            rw [List.any_eq_false]
            intro y hy hc
            obtain ⟨a, c, e⟩ := List.append_of_mem hy
            have := ho3 a y c e
            simp [hc] at this
          rw [this]; exact hr
      unfold b_wormtubref12_Rules_1
      simp only [idxL_nat, hg, Option.bind_some, bindv, hin]
      rw [w64_id (by omega) (by omega)]
      simp only [show (decide ((pre.length : Int) < (l.length : Int))) = true by simpa using hi, if_true]
      have e : ∀ n a b : Int, m_wormtubref12_in n a b = m_bottle_within n a b := fun _ _ _ => rfl
      have e2 : (((((!m_wormtubref12_in x.Country 0 255 || !m_wormtubref12_in x.Least 0 10000) || !m_wormtubref12_in x.Most 0 10000) || !m_wormtubref12_in x.Age 0 65536) || !m_wormtubref12_in x.Must 0 255) || !m_wormtubref12_in x.Never 0 255) = !ruleOK x := by
        unfold ruleOK m_bottle_isDay m_bottle_isStrength; simp only [e, Bool.not_and]
      rw [e2]
      unfold ruleErr
      cases hr : ruleOK x with
      | false => left; simp
      | true =>
        cases ha : pre.any fun r => r.Country == x.Country with
        | true => left; simp
        | false => right; exact ⟨by simp, (), by simp⟩)
    (fun t _ _ => by unfold b_wormtubref12_Rules_1; simp) l [] () rfl AllOk.nil trivial
  simp only [List.length_nil, Int.natCast_zero] at key
  rcases key with ⟨p, x, hf, hr⟩ | ⟨ho, t, ht, hr⟩
  · refine bind_of hr ?_
    simp [hf.not_ok]
  · refine bind_of hr ?_
    simp [ho]

end Go.Proofs.Ytbomfcghpajaiaa
