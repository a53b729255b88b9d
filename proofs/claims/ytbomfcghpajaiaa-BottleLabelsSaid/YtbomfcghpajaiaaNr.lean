/-
  BottleLabels: the claims of any label that are not true, and what a country has against it, are the document's, or why there is nothing.
  No condition: the given statement, for every input.
-/
import Derived.Test.YtbomfcghpajaiaaNq
import Derived.Test.YtbomfcghpajaiaaTE0
import Derived.Test.YtbomfcghpajaiaaTF10
namespace Go.Proofs.Ytbomfcghpajaiaa
open Go.Dec

theorem awake_ok : m_wormtublaw12_awake = some true := (e_m_wormtublaw12_awake 100).out true (by decide +kernel)

/-! ### Bits -/
theorem andK_nat {a b : Nat} (ha : a < 256) (hb : b < 256) : andK .i64 (a : Int) (b : Int) = ((a &&& b : Nat) : Int) := by
  unfold andK
  have h1 : a &&& b ≤ a := Nat.and_le_left
  have e : ((BitVec.ofInt IntKind.i64.bits (a : Int)) &&& (BitVec.ofInt IntKind.i64.bits (b : Int))).toNat = a &&& b := by
    rw [BitVec.toNat_and, BitVec.ofInt_natCast, BitVec.ofInt_natCast, BitVec.toNat_ofNat, BitVec.toNat_ofNat]
    rw [Nat.mod_eq_of_lt (show a < 2 ^ IntKind.i64.bits by have : (2 : Nat) ^ IntKind.i64.bits = 18446744073709551616 := by decide
                                                           omega), Nat.mod_eq_of_lt (show b < 2 ^ IntKind.i64.bits by have : (2 : Nat) ^ IntKind.i64.bits = 18446744073709551616 := by decide
                                                                                                                      omega)]
  rw [e]
  exact w64_id (by omega) (by omega)
theorem orK_nat {a b : Nat} (ha : a < 256) (hb : b < 256) : orK .i64 (a : Int) (b : Int) = ((a ||| b : Nat) : Int) := by
  unfold orK
  have h1 : a ||| b < 2 ^ 8 := Nat.or_lt_two_pow (by omega) (by omega)
  have e : ((BitVec.ofInt IntKind.i64.bits (a : Int)) ||| (BitVec.ofInt IntKind.i64.bits (b : Int))).toNat = a ||| b := by
    rw [BitVec.toNat_or, BitVec.ofInt_natCast, BitVec.ofInt_natCast, BitVec.toNat_ofNat, BitVec.toNat_ofNat]
    rw [Nat.mod_eq_of_lt (show a < 2 ^ IntKind.i64.bits by have : (2 : Nat) ^ IntKind.i64.bits = 18446744073709551616 := by decide
                                                           omega), Nat.mod_eq_of_lt (show b < 2 ^ IntKind.i64.bits by have : (2 : Nat) ^ IntKind.i64.bits = 18446744073709551616 := by decide
                                                                                                                      omega)]
  rw [e]
  exact w64_id (by omega) (by omega)
theorem kbit_nat : ∀ k : Nat, k < 8 → ∀ m : Nat, m < 256 → kbit (m : Int) k = m.testBit k := by decide +kernel
theorem shl_one : ∀ k : Nat, k < 8 → shlK .i64 1 ((k : Nat) : Int) = ((2 ^ k : Nat) : Int) := by decide +kernel
theorem testBit_high {a k : Nat} (ha : a < 256) (hk : 8 ≤ k) : a.testBit k = false := by
  apply Nat.testBit_lt_two_pow
  exact Nat.lt_of_lt_of_le ha (Nat.pow_le_pow_right (n := 2) (by omega) hk)
theorem and_eq_iff {a b : Nat} (hb : b < 256) : (a &&& b = b) ↔ ∀ k, k < 8 → b.testBit k = true → a.testBit k = true := by
  constructor
  · intro h k _ hk
    have := congrArg (fun n => n.testBit k) h
    simp only [Nat.testBit_and, hk, Bool.and_true] at this
    exact this
  · intro h
    apply Nat.eq_of_testBit_eq
    intro k
    rw [Nat.testBit_and]
    by_cases hk : k < 8
    · cases hbk : b.testBit k with
      | false => simp
      | true => simp [h k hk hbk]
    · rw [testBit_high hb (by omega)]; simp
theorem and_zero_iff {a b : Nat} (hb : b < 256) : (a &&& b = 0) ↔ ∀ k, k < 8 → b.testBit k = true → a.testBit k = false := by
  constructor
  · intro h k _ hk
    have := congrArg (fun n => n.testBit k) h
    simpa only [Nat.testBit_and, hk, Bool.and_true, Nat.zero_testBit] using this
  · intro h
    apply Nat.eq_of_testBit_eq
    intro k
    rw [Nat.testBit_and, Nat.zero_testBit]
    by_cases hk : k < 8
    · cases hbk : b.testBit k with
      | false => simp
      | true => simp [h k hk hbk]
    · rw [testBit_high hb (by omega)]; simp

/-! ### Loops over kinds -/
theorem forL_any {α : Type} {b : α → Bool → Option Bool} {f : α → Bool} (h : ∀ x s, b x s = some (s || f x)) : ∀ (l : List α) (s : Bool), forL b l s = some (s || l.any f)
  | [], s => by simp [forL]
  | x :: l, s => by simp only [forL, h, Option.bind_some, forL_any h l, List.any_cons, Bool.or_assoc]

def hasK (l : List ApiClaim) (k : Int) : Bool := l.any fun c => c.Kind == k
theorem has_eq (l : List ApiClaim) (k : Int) (hl : l.length ≤ 40) : m_bottle_Problems_2 k l = some (hasK l k) := by
  unfold m_bottle_Problems_2 m_bottle_Problems_2_1
  exact bind_of (indexClaim_eq l (fun x => x.Kind == k) (by omega)) rfl
def kindsOf (set : Int) : List Int := ((List.range' 0 8).filter (kbit set)).map fun (k : Nat) => (k : Int)
theorem kinds_eq (set : Int) : m_bottle_kinds set = some (kindsOf set) := rfl

theorem missing_eq (l : List ApiClaim) (set : Int) (hl : l.length ≤ 40) : forL (b_bottle_Problems_1 l) (kindsOf set) false = some ((kindsOf set).any fun k => !hasK l k) := by
  rw [forL_any (f := fun k => !hasK l k)]
  · simp
  · intro x s
    unfold b_bottle_Problems_1
    rw [has_eq l x hl]
    cases s <;> simp
theorem banned_eq (l : List ApiClaim) (set : Int) (hl : l.length ≤ 40) : forL (b_bottle_Problems_2 l) (kindsOf set) false = some ((kindsOf set).any fun k => hasK l k) := by
  rw [forL_any (f := fun k => hasK l k)]
  · simp
  · intro x s
    unfold b_bottle_Problems_2
    rw [has_eq l x hl]
    cases s <;> simp

theorem mem_kindsOf {m : Nat} (hm : m < 256) (k : Int) : k ∈ kindsOf (m : Int) ↔ ∃ j : Nat, k = (j : Int) ∧ j < 8 ∧ m.testBit j = true := by
  unfold kindsOf
  simp only [List.mem_map, List.mem_filter, List.mem_range'_1]
  constructor
  · rintro ⟨j, ⟨⟨_, h1⟩, h2⟩, rfl⟩
    have h1' : j < 8 := by omega
    exact ⟨j, rfl, h1', by rw [← kbit_nat j h1' m hm]; exact h2⟩
  · rintro ⟨j, rfl, h1, h2⟩
    exact ⟨j, ⟨⟨by omega, by omega⟩, by rw [kbit_nat j h1 m hm]; exact h2⟩, rfl⟩

/-! ### Flags -/
def hits : Nat → List Bool → List Int
  | _, [] => []
  | i, b :: l => (if b then [(i : Int)] else []) ++ hits (i + 1) l
theorem hits_append : ∀ (l k : List Bool) (i : Nat), hits i (l ++ k) = hits i l ++ hits (i + l.length) k
  | [], k, i => by simp [hits]
  | b :: l, k, i => by
    simp only [List.cons_append, hits, hits_append l k (i + 1), List.length_cons, List.append_assoc]
    rw [show i + 1 + l.length = i + (l.length + 1) by omega]
theorem hits_len : ∀ (l : List Bool) (i : Nat), (hits i l).length ≤ l.length
  | [], i => by simp [hits]
  | b :: l, i => by
    have := hits_len l (i + 1)
    simp only [hits, List.length_append, List.length_cons]
    cases b <;> simp <;> omega

theorem flags_ref (r : ApiLabelRule) (x : ApiBottling) (t : Int × Bool) : loopM (b_wormtubref12_problems_2 r x t) ([], 0) = some (hits 0 [(decide (x.Strength.Lo < r.Least)), (decide (x.Strength.Hi > r.Most)), (decide (x.Age < r.Age)), ((andK .i64 t.1 r.Must) != r.Must), ((andK .i64 t.1 r.Never) != 0), t.2]) := by
  generalize hfl : [(decide (x.Strength.Lo < r.Least)), (decide (x.Strength.Hi > r.Most)), (decide (x.Age < r.Age)), ((andK .i64 t.1 r.Must) != r.Must), ((andK .i64 t.1 r.Never) != 0), t.2] = fl
  have hlen : fl.length = 6 := by rw [← hfl]; rfl
  obtain ⟨t', k1, k2⟩ := loopM_pre (body := b_wormtubref12_problems_2 r x t) (fun i (t : List Int) => (t, (i : Int))) (fun t => t) (fun pre t => t = hits 0 pre) fl
    (fun pre c post s hl' ht => by
      have hg := getEl_mid hl'
      have hi := lt_mid hl'
      have hh := hits_len pre 0
      unfold b_wormtubref12_problems_2
      simp only [hfl, idxL_nat, hg, Option.bind_some, bindv]
      rw [w64_id (by omega) (by omega)]
      simp only [show (decide ((pre.length : Int) < (fl.length : Int))) = true by simpa using hi, if_true]
      rw [hits_append]
      simp only [hits, Nat.zero_add]
      cases c with
      | false => exact ⟨s, by simp, by simpa using ht⟩
      | true =>
        refine ⟨s ++ [(pre.length : Int)], ?_, by rw [ht]; simp⟩
        simp only [if_true]
        rw [appO_some' (by rw [ht]; simp only [List.length_cons, List.length_nil]; omega)]
        simp)
    (fun s _ => by unfold b_wormtubref12_problems_2; simp only [hfl]; simp) fl [] [] rfl rfl
  simp only [List.length_nil, Int.natCast_zero] at k2
  rw [k2, k1]

theorem flags_prog (q : BottleLabel × Bool) (r : ApiLabelRule) (f3 f4 : Bool) (ls : List Int) : loopM (b_bottle_Problems_3 q r f3 f4 ls) ([], 0) = some (hits 0 [(decide (q.1.known.Strength.Lo < r.Least)), (decide (q.1.known.Strength.Hi > r.Most)), (decide (q.1.known.Age < r.Age)), f3, f4, (decide ((ls.length : Int) > 0))]) := by
  generalize hfl : [(decide (q.1.known.Strength.Lo < r.Least)), (decide (q.1.known.Strength.Hi > r.Most)), (decide (q.1.known.Age < r.Age)), f3, f4, (decide ((ls.length : Int) > 0))] = fl
  have hlen : fl.length = 6 := by rw [← hfl]; rfl
  obtain ⟨t', k1, k2⟩ := loopM_pre (body := b_bottle_Problems_3 q r f3 f4 ls) (fun i (t : List Int) => (t, (i : Int))) (fun t => t) (fun pre t => t = hits 0 pre) fl
    (fun pre c post s hl' ht => by
      have hg := getEl_mid hl'
      have hi := lt_mid hl'
      have hh := hits_len pre 0
      have ha : arrOf fl false pre.length = c := by unfold arrOf; simp only [List.getD, hg, Option.getD_some]
      unfold b_bottle_Problems_3
      simp only [hfl, idxO_nat (show pre.length < 6 by omega), Option.bind_some, bindv, ha]
      rw [w64_id (by omega) (by omega)]
      simp only [show (decide ((pre.length : Int) < 6)) = true by simp; omega, if_true]
      rw [hits_append]
      simp only [hits, Nat.zero_add]
      cases c with
      | false => exact ⟨s, by simp, by simpa using ht⟩
      | true =>
        refine ⟨s ++ [(pre.length : Int)], ?_, by rw [ht]; simp⟩
        simp only [if_true]
        rw [appO_some' (by rw [ht]; simp only [List.length_cons, List.length_nil]; omega)]
        simp)
    (fun s _ => by unfold b_bottle_Problems_3; rw [hlen]; simp) fl [] [] rfl rfl
  simp only [List.length_nil, Int.natCast_zero] at k2
  rw [k2, k1]

/-! ### The document's kinds -/
theorem refKinds {b : ApiBatch} {x : ApiBottling} {l : List ApiClaim} (h : Valid b) (hl : l.length ≤ 40) (hx : Known b b.Water x) (hall : ∀ c ∈ l, COK c) :
    ∃ K : Nat, K < 256 ∧ (∀ k : Nat, k < 8 → K.testBit k = hasK l (k : Int)) ∧ loopM (b_wormtubref12_problems_1 b l) (0, false, 0) = some ((K : Int), l.any fun c => !trueX b x c) := by
  obtain ⟨t', ⟨k0, k1, k2⟩, k3⟩ := loopM_pre (body := b_wormtubref12_problems_1 b l) (fun i (t : Nat × Bool) => (((t.1 : Nat) : Int), t.2, (i : Int))) (fun t => (((t.1 : Nat) : Int), t.2)) (fun pre t => t.1 < 256 ∧ (∀ k : Nat, k < 8 → t.1.testBit k = hasK pre (k : Int)) ∧ t.2 = pre.any fun c => !trueX b x c) l
    (fun pre c post t hl' ht => by
      obtain ⟨t1, t2⟩ := t
      obtain ⟨h0, h1, h2⟩ := ht
      simp only at h0 h1 h2
      have hg := getEl_mid hl'
      have hi := lt_mid hl'
      have hc := hall c (List.mem_of_getElem? hg)
      have ht' := refTrue_eq h hx hc
      have hk := hc.kind
      obtain ⟨j, hj⟩ : ∃ j : Nat, c.Kind = (j : Int) := ⟨c.Kind.toNat, by omega⟩
      have hj8 : j < 8 := by omega
      have hp : 2 ^ j < 256 := Nat.lt_of_lt_of_le (Nat.pow_lt_pow_right (a := 2) (by omega) hj8) (by decide)
      refine ⟨(t1 ||| 2 ^ j, t2 || !trueX b x c), ?_, Nat.or_lt_two_pow (n := 8) h0 hp, fun k hk8 => ?_, ?_⟩
      · unfold b_wormtubref12_problems_1
        simp only [idxL_nat, hg, Option.bind_some, bindv, ht']
        rw [w64_id (by omega) (by omega)]
        simp only [show (decide ((pre.length : Int) < (l.length : Int))) = true by simpa using hi, if_true]
        have e : shlO .i64 1 c.Kind = some ((2 ^ j : Nat) : Int) := by
          simp only [shlO, hj]; rw [if_neg (by omega), shl_one j hj8]
        rw [e]
        simp only [Option.bind_some, orK_nat h0 hp]
        cases t2 <;> simp
      · rw [Nat.testBit_or, h1 k hk8, Nat.testBit_two_pow]
        unfold hasK
        rw [List.any_append]
        simp only [List.any_cons, List.any_nil, Bool.or_false]
        congr 1
        rw [hj, Bool.eq_iff_iff]; simp only [decide_eq_true_eq, beq_iff_eq]; omega
      · simp only [h2, List.any_append, List.any_cons, List.any_nil, Bool.or_false])
    (fun t _ => by unfold b_wormtubref12_problems_1; simp) l [] (0, false) rfl ⟨by simp, fun k _ => by simp [hasK], by simp⟩
  simp only [List.length_nil, Int.natCast_zero] at k3
  exact ⟨t'.1, k0, k1, by rw [k3, k2]⟩

theorem lies_any (p : ApiClaim → Bool) : ∀ (l : List ApiClaim) (i : Nat), decide (((liesAt p i l).length : Int) > 0) = l.any fun c => !p c
  | [], i => by simp [liesAt]
  | c :: l, i => by
    have ih := lies_any p l (i + 1)
    cases hp : p c with
    | true => simp only [liesAt, List.any_cons, hp, if_true, Bool.not_true, Bool.false_or]; exact ih
    | false =>
      have e : liesAt p i (c :: l) = (i : Int) :: liesAt p (i + 1) l := by simp [liesAt, hp]
      rw [e, List.any_cons, hp]; simp

/-! ### Problems -/
theorem index_eq (rules : List ApiLabelRule) (country : Int) (hl : rules.length ≤ 70) :
    ((∃ pre x post, rules = pre ++ x :: post ∧ (∀ y ∈ pre, (y.Country == country) = false) ∧ (x.Country == country) = true ∧ m_slices_IndexFunc_LabelRule rules (fun x => some (m_bottle_Problems_1 x country)) = some (pre.length : Int)) ∨
    ((∀ y ∈ rules, (y.Country == country) = false) ∧ m_slices_IndexFunc_LabelRule rules (fun x => some (m_bottle_Problems_1 x country)) = some (-1))) := by
  have key := loopM_ledger (body := b_slices_IndexFunc_LabelRule_1 rules (fun x => some (m_bottle_Problems_1 x country))) (fun i (_ : Unit) => (i : Int)) (fun _ x => if x.Country == country then 1 else 0) (fun i _ => .inr (i : Int)) (fun _ => .inl ()) (fun _ _ => True) rules
    (fun pre x post t hl' ho ht => by
      have hg := getEl_mid hl'
      have hi := lt_mid hl'
      unfold b_slices_IndexFunc_LabelRule_1 m_bottle_Problems_1
      simp only [idxL_nat, hg, Option.bind_some]
      rw [w64_id (by omega) (by omega)]
      simp only [show (decide ((pre.length : Int) < (rules.length : Int))) = true by simpa using hi, if_true]
      cases hx : x.Country == country with
      | true => left; simp
      | false => right; exact ⟨by simp, (), by simp⟩)
    (fun t _ _ => by unfold b_slices_IndexFunc_LabelRule_1; simp) rules [] () rfl AllOk.nil trivial
  simp only [List.length_nil, Int.natCast_zero] at key
  have none_of : ∀ {l : List ApiLabelRule}, AllOk (fun _ x => if x.Country == country then 1 else 0) l → ∀ y ∈ l, (y.Country == country) = false := by
    intro l ho y hy
    obtain ⟨a, c, e⟩ := List.append_of_mem hy
    have := ho a y c e
    cases hc : y.Country == country with
    | false => rfl
    | true => simp [hc] at this
  rcases key with ⟨p, x, ⟨post, e, ho, hx⟩, hr⟩ | ⟨ho, t, ht, hr⟩
  · left
    refine ⟨p, x, post, e, none_of ho, ?_, ?_⟩
    · cases hc : x.Country == country with
      | true => rfl
      | false => simp [hc] at hx
    · unfold m_slices_IndexFunc_LabelRule; exact bind_of hr rfl
  · right
    refine ⟨none_of ho, ?_⟩
    unfold m_slices_IndexFunc_LabelRule; exact bind_of hr rfl

theorem refProblems_loop {b : ApiBatch} {l : List ApiClaim} {rules : List ApiLabelRule} {country : Int} (hl : rules.length ≤ 70) {pre post : List ApiLabelRule} {x : ApiLabelRule} {R : List Int} (e : rules = pre ++ x :: post) (h0 : ∀ y ∈ pre, (y.Country == country) = false) (h1 : (x.Country == country) = true)
    (hp : m_wormtubref12_problems b l x = some R) : ∀ (d : Nat) (p : List ApiLabelRule), p.length + d = pre.length → (∃ q, pre = p ++ q) → loopM (b_wormtubref12_Problems_1 b l rules country) (p.length : Int) = some (.inr (R, 0))
  | 0, p, hd, ⟨q, hq⟩ => by
    have hq0 : q = [] := by
      have := congrArg List.length hq
      simp only [List.length_append] at this
      exact List.length_eq_zero_iff.1 (by omega)
    subst hq0
    rw [List.append_nil] at hq
    subst hq
    have hg := getEl_mid e
    have hi := lt_mid e
    rw [loopM_eq]
    unfold b_wormtubref12_Problems_1
    simp only [idxL_nat, hg, Option.bind_some, h1, if_true, hp, show (decide ((pre.length : Int) < (rules.length : Int))) = true by simpa using hi]
  | d + 1, p, hd, ⟨q, hq⟩ => by
    cases q with
    | nil => rw [List.append_nil] at hq; subst hq; omega
    | cons y q =>
      have hg : rules[p.length]? = some y := by rw [e, hq]; simp
      have hi : p.length < rules.length := by have := lt_mid e; omega
      have ih := refProblems_loop hl e h0 h1 hp d (p ++ [y]) (by simp; omega) ⟨q, by rw [hq]; simp⟩
      rw [loopM_eq]
      unfold b_wormtubref12_Problems_1
      simp only [idxL_nat, hg, Option.bind_some, h0 y (by rw [hq]; simp), Bool.false_eq_true, if_false, bindv]
      rw [w64_id (by omega) (by omega)]
      simp only [show (decide ((p.length : Int) < (rules.length : Int))) = true by simpa using hi, if_true]
      have e2 : ((p.length : Int) + 1) = (((p ++ [y]).length : Nat) : Int) := by simp
      rw [e2]; exact ih
theorem refProblems_none {b : ApiBatch} {l : List ApiClaim} {rules : List ApiLabelRule} {country : Int} (hl : rules.length ≤ 70) (h0 : ∀ y ∈ rules, (y.Country == country) = false) : loopM (b_wormtubref12_Problems_1 b l rules country) 0 = some (.inl ()) := by
  obtain ⟨t', _, k⟩ := loopM_pre (body := b_wormtubref12_Problems_1 b l rules country) (fun i (_ : Unit) => (i : Int)) (fun _ => .inl ()) (fun _ _ => True) rules
    (fun pre x post t hl' _ => by
      have hg := getEl_mid hl'
      have hi := lt_mid hl'
      refine ⟨(), ?_, trivial⟩
      unfold b_wormtubref12_Problems_1
      simp only [idxL_nat, hg, Option.bind_some, h0 x (by rw [hl']; simp), Bool.false_eq_true, if_false, bindv]
      rw [w64_id (by omega) (by omega)]
      simp only [show (decide ((pre.length : Int) < (rules.length : Int))) = true by simpa using hi, if_true]
      simp)
    (fun t _ => by unfold b_wormtubref12_Problems_1; simp) rules [] () rfl trivial
  simpa using k

theorem ints_same (a : List Int) (h : a.length ≤ 1000000) : m_wormtubref12_Ints a a = some true := by
  unfold m_wormtubref12_Ints
  obtain ⟨t', _, k⟩ := loopM_pre (body := b_wormtubref12_Ints_1 a a) (fun i (_ : Unit) => (i : Int)) (fun _ => .inl ()) (fun _ _ => True) a
    (fun pre x post t hl' _ => by
      have hg := getEl_mid hl'
      have hi := lt_mid hl'
      refine ⟨(), ?_, trivial⟩
      unfold b_wormtubref12_Ints_1
      simp only [idxL_nat, hg, Option.bind_some, bindv]
      rw [w64_id (by omega) (by omega)]
      simp only [show (decide ((pre.length : Int) < (a.length : Int))) = true by simpa using hi, if_true]
      simp)
    (fun t _ => by unfold b_wormtubref12_Ints_1; simp) a [] () rfl trivial
  have k' : loopM (b_wormtubref12_Ints_1 a a) 0 = some (.inl ()) := by simpa using k
  rw [k']; simp

theorem law_BottleLabels : LawBottleLabels := by
  intro b l rules country _ _ _ _
  unfold m_wormtublaw12_BottleLabels
  split
  · simp only [awake_ok, Option.bind_some]
  · rename_i hg
    simp only [Bool.or_eq_true, decide_eq_true_eq, not_or, gt_iff_lt, Int.not_lt] at hg
    obtain ⟨⟨hb, hl⟩, hr⟩ := hg
    have hb' : b.Draughts.length ≤ 40 := by omega
    have hl' : l.length ≤ 40 := by omega
    have hr' : rules.length ≤ 70 := by omega
    have fin : ∀ {X Y : List Int × Int}, X.1.length ≤ 1000000 → Y.1.length ≤ 1000000 → m_bottle_False b l = some X → m_wormtubref12_False b l = some X → m_bottle_Problems b l rules country = some Y → m_wormtubref12_Problems b l rules country = some Y →
        ((m_bottle_False b l).bind fun r_32 => (m_wormtubref12_False b l).bind fun r_38 => (m_bottle_Problems b l rules country).bind fun r_44 => (m_wormtubref12_Problems b l rules country).bind fun r_50 => (m_wormtubref12_Ints r_32.1 r_38.1).bind fun r_56 => (if (r_56 && (r_32.2 == r_38.2)) then ((m_wormtubref12_Ints r_44.1 r_50.1).bind fun r_64 => some r_64) else some false).bind fun z68 => (if (z68 && (r_44.2 == r_50.2)) then ((m_wormtublaw12_awake).bind fun r_77 => some r_77) else some false).bind fun z81 => some z81) = some true := by
      intro X Y h0 h1 e1 e2 e3 e4
      refine bind_of e1 (bind_of e2 (bind_of e3 (bind_of e4 (bind_of (ints_same _ h0) ?_))))
      simp only [beq_self_eq_true, Bool.and_self, if_true, ints_same _ h1, awake_ok, Option.bind_some]
    rcases false_prog b l hb' (by omega) with ⟨hv, hf⟩ | ⟨h, hc, hall, x, hx, _, hf⟩
    · have hrf : m_wormtubref12_False b l = some ([], 1) := by
        unfold m_wormtubref12_False
        rw [refBatch_eq b hb', refClaims_eq l hl']
        simp only [Option.bind_some]
        cases hvb : validB b with
        | false => rfl
        | true => rw [hvb, Bool.true_and] at hv; rw [hv]; rfl
      have hrp : m_wormtubref12_Problems b l rules country = some ([], 1) := by
        unfold m_wormtubref12_Problems
        rw [refBatch_eq b hb', refClaims_eq l hl']
        simp only [Option.bind_some]
        cases hvb : validB b with
        | false => rfl
        | true => rw [hvb, Bool.true_and] at hv; rw [hv]; rfl
      have hp : m_bottle_Problems b l rules country = some ([], 1) := by
        obtain ⟨x, he, hx⟩ := open_eq b hb'
        unfold m_bottle_Problems m_bottle_write
        rw [he]
        simp only [Option.bind_some]
        cases hvb : validB b with
        | false => rfl
        | true => rw [hvb, Bool.true_and] at hv; rw [areClaims_eq, hv]; rfl
      exact fin (by simp) (by simp) hf hrf hp hrp
    · have hlen := liesAt_len (trueX b x) l 0
      have hrf := refFalse_eq hb' hl' h hc hx hall
      -- the program's own label
      obtain ⟨o, he, ho⟩ := open_eq b hb'
      have hvb := (validB_iff b).2 h
      obtain ⟨y, y1, y2⟩ := known_eq h
      have hw : m_bottle_write b l = some (BottleLabel.mk (BottleBatch.mk b (sumA b.Draughts) (sumLo b.Draughts) (sumHi b.Draughts)) y, true) := by
        unfold m_bottle_write
        rw [he, hvb, ho hvb, areClaims_eq, hc]
        simp only [Option.bind_some, Bool.not_true, Bool.false_eq_true, if_false]
        exact bind_of y1 rfl
      have hly := lies_eq b (sumA b.Draughts) (sumLo b.Draughts) (sumHi b.Draughts) y l (by omega) hall
      cases hro : rulesOK rules with
      | false =>
        have hp : m_bottle_Problems b l rules country = some ([], 1) := by
          unfold m_bottle_Problems
          refine bind_of hw ?_
          rw [areRules_eq rules hr', hro]; rfl
        have hrp : m_wormtubref12_Problems b l rules country = some ([], 1) := by
          unfold m_wormtubref12_Problems
          rw [refBatch_eq b hb', refClaims_eq l hl', refRules_eq rules hr', hro, hvb, hc]; rfl
        exact fin (by show (liesAt (trueX b x) 0 l).length ≤ _; omega) (by simp) hf hrf hp hrp
      | true =>
        have hrule : ∀ z ∈ rules, ruleOK z = true := by
          intro z hz
          unfold rulesOK at hro
          simp only [Bool.and_eq_true, decide_eq_true_eq] at hro
          obtain ⟨s, t, e⟩ := List.append_of_mem hz
          have := hro.1 s z t e
          unfold ruleErr at this
          cases hk : ruleOK z with
          | true => rfl
          | false => simp [hk] at this
        rcases index_eq rules country hr' with ⟨pre, z, post, e, h0, h1, hi⟩ | ⟨h0, hi⟩
        · have hz := hrule z (by rw [e]; simp)
          unfold ruleOK at hz
          simp only [Bool.and_eq_true, m_bottle_within, decide_eq_true_eq, ge_iff_le] at hz
          obtain ⟨⟨_, hm0, hm1⟩, hn0, hn1⟩ := hz
          obtain ⟨mu, hmu⟩ : ∃ mu : Nat, z.Must = (mu : Int) := ⟨z.Must.toNat, by omega⟩
          obtain ⟨ne, hne⟩ : ∃ ne : Nat, z.Never = (ne : Int) := ⟨z.Never.toNat, by omega⟩
          obtain ⟨K, hK, hKb, hKl⟩ := refKinds h hl' y2 hall
          have f3 : ((kindsOf z.Must).any fun k => !hasK l k) = (andK .i64 (K : Int) z.Must != z.Must) := by
            rw [hmu, andK_nat hK (by omega), Bool.eq_iff_iff]
            simp only [List.any_eq_true, bne_iff_ne, ne_eq, Int.natCast_inj, Bool.not_eq_true']
            rw [and_eq_iff (by omega)]
            constructor
            · rintro ⟨k, hk, hh⟩ hall2
              obtain ⟨j, rfl, hj, hb⟩ := (mem_kindsOf (by omega) k).1 hk
              have := hall2 j hj hb
              rw [hKb j hj, hh] at this; cases this
            · intro hne2
              apply Classical.byContradiction
              intro hcon
              apply hne2
              intro k hk hb
              cases hh : hasK l (k : Int) with
              | true => rw [hKb k hk]; exact hh
              | false => exact absurd ⟨(k : Int), (mem_kindsOf (by omega) _).2 ⟨k, rfl, hk, hb⟩, hh⟩ hcon
          have f4 : ((kindsOf z.Never).any fun k => hasK l k) = (andK .i64 (K : Int) z.Never != 0) := by
            rw [hne, andK_nat hK (by omega), Bool.eq_iff_iff]
            have e0 : (((K &&& ne : Nat) : Int) != 0) = true ↔ ¬ (K &&& ne = 0) := by simp only [bne_iff_ne, ne_eq]; omega
            rw [e0, and_zero_iff (by omega)]
            simp only [List.any_eq_true]
            constructor
            · rintro ⟨k, hk, hh⟩ hall2
              obtain ⟨j, rfl, hj, hb⟩ := (mem_kindsOf (by omega) k).1 hk
              have := hall2 j hj hb
              rw [hKb j hj, hh] at this; cases this
            · intro hne2
              apply Classical.byContradiction
              intro hcon
              apply hne2
              intro k hk hb
              cases hh : hasK l (k : Int) with
              | false => rw [hKb k hk]; exact hh
              | true => exact absurd ⟨(k : Int), (mem_kindsOf (by omega) _).2 ⟨k, rfl, hk, hb⟩, hh⟩ hcon
          obtain ⟨yr, yr1, yr2⟩ := blend_ref h
          let R := hits 0 [(decide (y.Strength.Lo < z.Least)), (decide (y.Strength.Hi > z.Most)), (decide (y.Age < z.Age)), (andK .i64 (K : Int) z.Must != z.Must), (andK .i64 (K : Int) z.Never != 0), l.any fun c => !trueX b y c]
          have hRl : R.length ≤ 6 := hits_len _ 0
          have hp : m_bottle_Problems b l rules country = some (R, 0) := by
            unfold m_bottle_Problems
            refine bind_of hw ?_
            rw [areRules_eq rules hr', hro]
            simp only [Option.bind_some, Bool.not_true, Bool.false_eq_true, if_false]
            refine bind_of hi ?_
            simp only [show (decide ((pre.length : Int) < 0)) = false by simp, Bool.false_eq_true, if_false, idxL_nat, getEl_mid e, Option.bind_some]
            refine bind_of (kinds_eq _) (bind_of (missing_eq l _ hl') (bind_of (kinds_eq _) (bind_of (banned_eq l _ hl') (bind_of hly (bind_of (flags_prog _ _ _ _ _) ?_)))))
            rw [f3, f4, lies_any]
          have hpr : m_wormtubref12_problems b l z = some R := by
            unfold m_wormtubref12_problems
            refine bind_of yr1 (bind_of hKl (bind_of (flags_ref _ _ _) ?_))
            simp only [yr2.str, yr2.age]
            simp only [R, y2.str, y2.age]
          have hrp : m_wormtubref12_Problems b l rules country = some (R, 0) := by
            unfold m_wormtubref12_Problems
            rw [refBatch_eq b hb', refClaims_eq l hl', refRules_eq rules hr', hro, hvb, hc]
            simp only [Option.bind_some, Bool.not_true, Bool.false_eq_true, if_false]
            have := refProblems_loop hr' e h0 h1 hpr pre.length [] (by simp) ⟨pre, rfl⟩
            simp only [List.length_nil, Int.natCast_zero] at this
            exact bind_of this rfl
          exact fin (by show (liesAt (trueX b x) 0 l).length ≤ _; omega) (by show R.length ≤ _; omega) hf hrf hp hrp
        · have hp : m_bottle_Problems b l rules country = some ([], 4) := by
            unfold m_bottle_Problems
            refine bind_of hw ?_
            rw [areRules_eq rules hr', hro]
            simp only [Option.bind_some, Bool.not_true, Bool.false_eq_true, if_false]
            refine bind_of hi ?_
            simp
          have hrp : m_wormtubref12_Problems b l rules country = some ([], 4) := by
            unfold m_wormtubref12_Problems
            rw [refBatch_eq b hb', refClaims_eq l hl', refRules_eq rules hr', hro, hvb, hc]
            simp only [Option.bind_some, Bool.not_true, Bool.false_eq_true, if_false]
            exact bind_of (refProblems_none hr' h0) rfl
          exact fin (by show (liesAt (trueX b x) 0 l).length ≤ _; omega) (by simp) hf hrf hp hrp

theorem bottleLabels_holds : Rows.BottleLabelsSaid := said_BottleLabels law_BottleLabels
#print axioms bottleLabels_holds

end Go.Proofs.Ytbomfcghpajaiaa
