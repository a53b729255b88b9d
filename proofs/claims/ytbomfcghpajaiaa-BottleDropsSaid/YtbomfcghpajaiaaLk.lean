/-
  BottleDrops: a claim about age, wood or place that is true of a batch is true of each drop in it, whichever draught it came from, and one that is not true is not true of some draught; and one about casks, water, filters or colours is true just if it is so.
  No condition: the given statement, for every input.
-/
import Derived.Test.YtbomfcghpajaiaaLj
import Derived.Test.YtbomfcghpajaiaaS6
import Derived.Test.YtbomfcghpajaiaaSE0
import Derived.Test.YtbomfcghpajaiaaSF4
namespace Go.Proofs.Ytbomfcghpajaiaa
open Go.Dec

theorem refClaim_eq (c : ApiClaim) : m_wormtubref12_claim c = some (claimOK c) := by
  unfold m_wormtubref12_claim claimOK
  simp only [m_wormtubref12_in, m_bottle_isDay, m_bottle_within, m_bottle_isStrength]
  repeat' split
  all_goals first | rfl | (rw [Bool.and_comm])
theorem refClaims_eq (l : List ApiClaim) (hl : l.length ≤ 1000) : m_wormtubref12_Claims l = some (claimsOK l) := by
  unfold m_wormtubref12_Claims
  have go : ∀ (k i : Nat), i + k = l.length → i ≤ 33 → (∀ j x, j < i → l[j]? = some x → claimOK x = true) → (loopM (b_wormtubref12_Claims_1 l) (i : Int) = some (.inl ()) ∧ (l.length ≤ 32 → l.all claimOK = true)) ∨ (loopM (b_wormtubref12_Claims_1 l) (i : Int) = some (.inr false) ∧ l.all claimOK = false) := by
    intro k
    induction k with
    | zero =>
      intro i hi h33 hok
      left
      refine ⟨?_, fun _ => ?_⟩
      · rw [loopM_eq]
        have : b_wormtubref12_Claims_1 l (i : Int) = some (.done (.inl ())) := by
          unfold b_wormtubref12_Claims_1
          simp only [show ¬ ((i : Int) < (l.length : Int)) by omega, decide_false, Bool.false_and, Bool.false_eq_true, if_false]
        rw [this]
      · rw [List.all_eq_true]
        intro x hx
        obtain ⟨j, hj, e⟩ := List.getElem_of_mem hx
        exact hok j x (by omega) (by rw [← e]; exact List.getElem?_eq_getElem hj)
    | succ k ih =>
      intro i hi h33 hok
      have hlt : i < l.length := by omega
      have hg : l[i]? = some l[i] := List.getElem?_eq_getElem hlt
      by_cases h32 : (i : Int) ≤ 32
      · cases hc : claimOK l[i] with
        | true =>
          have hb : b_wormtubref12_Claims_1 l (i : Int) = some (.next ((i + 1 : Nat) : Int)) := by
            unfold b_wormtubref12_Claims_1
            simp only [show ((i : Int) < (l.length : Int)) by omega, h32, decide_true, Bool.and_self, if_true, idxL_nat, hg, Option.bind_some, refClaim_eq, hc, Bool.not_true, Bool.false_eq_true, if_false, bindv]
            rw [w64_id (by omega) (by omega)]; simp
          rw [loopM_eq, hb]
          refine ih (i + 1) (by omega) (by omega) fun j x hj hx => ?_
          by_cases hji : j = i
          · subst hji; rw [hg] at hx; cases hx; exact hc
          · exact hok j x (by omega) hx
        | false =>
          right
          have hb : b_wormtubref12_Claims_1 l (i : Int) = some (.done (.inr false)) := by
            unfold b_wormtubref12_Claims_1
            simp only [show ((i : Int) < (l.length : Int)) by omega, h32, decide_true, Bool.and_self, if_true, idxL_nat, hg, Option.bind_some, refClaim_eq, hc, Bool.not_false]
          refine ⟨by rw [loopM_eq, hb], ?_⟩
          rw [List.all_eq_false]
          exact ⟨l[i], List.getElem_mem hlt, by simp [hc]⟩
      · left
        have hb : b_wormtubref12_Claims_1 l (i : Int) = some (.done (.inl ())) := by
          unfold b_wormtubref12_Claims_1
          simp only [h32, decide_false, Bool.and_false, Bool.false_eq_true, if_false]
        exact ⟨by rw [loopM_eq, hb], fun h => by omega⟩
  rcases go l.length 0 (by omega) (by omega) (fun j x hj _ => by omega) with ⟨h1, h2⟩ | ⟨h1, h2⟩
  · refine bind_of h1 ?_
    by_cases h : (l.length : Int) ≤ 32
    · simp [claimsOK, h, h2 (by omega)]
    · simp [claimsOK, h]
  · refine bind_of h1 ?_
    simp [claimsOK, h2]


theorem awake_ok : m_wormtublaw12_awake = some true := (e_m_wormtublaw12_awake 100).out true (by decide +kernel)

def firstD (b : ApiBatch) : ApiDraught := b.Draughts.headD (ApiDraught.mk (ApiCask.mk 0 0 0 0 0 0 0 0 (fun _ => 0) (fun _ => 0)) 0 (ApiSpan.mk 0 0))
/-- Is it so of a draught? -/
def isOne (b : ApiBatch) (c : ApiClaim) (d : ApiDraught) : Bool :=
  if c.Kind = 0 then decide (d.From.Age ≥ c.Number) else if c.Kind = 1 then decide (d.From.Woods c.What.toNat ≥ c.Number) else
  if c.Kind = 2 then decide (d.From.Places c.What.toNat ≥ c.Number) else if c.Kind = 3 then d.From.Number == (firstD b).From.Number else true

theorem inner_is {b : ApiBatch} {c : ApiClaim} (h : COK c) (hb : b.Draughts.length ≤ 40) : loopM (b_wormtublaw12_BottleDrops_2 b c) (true, 0) = some (b.Draughts.all (isOne b c)) := by
  have hk := h.kind
  obtain ⟨t', k1, k2⟩ := loopM_pre (body := b_wormtublaw12_BottleDrops_2 b c) (fun i (t : Bool) => (t, (i : Int))) (fun t => t) (fun pre t => t = pre.all (isOne b c)) b.Draughts
    (fun pre d post t hl ht => by
      have hg := getEl_mid hl
      have hi := lt_mid hl
      have h0 : idxL b.Draughts 0 = some (firstD b) := by
        unfold firstD
        cases hd : b.Draughts with
        | nil => rw [hd] at hi; simp at hi
        | cons x r => rfl
      refine ⟨t && isOne b c d, ?_, by rw [List.all_append, ← ht]; simp⟩
      unfold b_wormtublaw12_BottleDrops_2
      simp only [idxL_nat, hg, Option.bind_some, bindv]
      rw [w64_id (by omega) (by omega)]
      simp only [show (decide ((pre.length : Int) < (b.Draughts.length : Int))) = true by simpa using hi, if_true]
      have hc : c.Kind = 0 ∨ c.Kind = 1 ∨ c.Kind = 2 ∨ c.Kind = 3 ∨ (c.Kind ≠ 0 ∧ c.Kind ≠ 1 ∧ c.Kind ≠ 2 ∧ c.Kind ≠ 3) := by omega
      rcases hc with e | e | e | e | ⟨e0, e1, e2, e3⟩
      · simp [e, isOne]
      · have hw := h.what (.inl e)
        rw [idxO_of (by omega) (by omega)]
        cases t <;> simp [e, isOne]
      · have hw := h.what (.inr e)
        rw [idxO_of (by omega) (by omega)]
        cases t <;> simp [e, isOne]
      · rw [h0]
        cases t <;> simp [e, isOne]
      · simp [e0, e1, e2, e3, isOne])
    (fun t _ => by unfold b_wormtublaw12_BottleDrops_2; simp) b.Draughts [] true rfl rfl
  simp only [List.length_nil, Int.natCast_zero] at k2
  rw [k2, k1]

theorem numF_one {b : ApiBatch} (hne : b.Draughts ≠ []) : (((numF b.Draughts).length : Int) == 1) = b.Draughts.all (fun d => d.From.Number == (firstD b).From.Number) := by
  have hf : firstD b ∈ b.Draughts := by
    unfold firstD
    cases hd : b.Draughts with
    | nil => exact absurd hd hne
    | cons x r => simp
  rw [Bool.eq_iff_iff, beq_iff_eq, List.all_eq_true]
  constructor
  · intro h d hd
    have h1 : (numF b.Draughts).length = 1 := by omega
    obtain ⟨n, hn⟩ := List.length_eq_one_iff.1 h1
    have m1 := (numF_mem b.Draughts d.From.Number).2 ⟨d, hd, rfl⟩
    have m2 := (numF_mem b.Draughts (firstD b).From.Number).2 ⟨firstD b, hf, rfl⟩
    rw [hn] at m1 m2
    simp only [List.mem_singleton] at m1 m2
    rw [beq_iff_eq, m1, m2]
  · intro h
    have key : ∀ l : List ApiDraught, l ≠ [] → (∀ d ∈ l, d.From.Number = (firstD b).From.Number) → numF l = [(firstD b).From.Number] := by
      intro l
      induction l using snoc_ind with
      | h0 => intro h _; exact absurd rfl h
      | hs l d ih =>
        intro _ hall
        rw [numF_snoc]
        have hd := hall d (by simp)
        by_cases hl : l = []
        · subst hl; simp [numF, hd]
        · rw [ih hl fun x hx => hall x (by simp [hx]), hd]; simp
    rw [key b.Draughts hne fun d hd => by simpa using h d hd]; rfl

/-- What is true of the batch is so of each draught. -/
theorem true_iff {b : ApiBatch} {x : ApiBottling} {c : ApiClaim} (hb : Valid b) (hx : Known b b.Water x) (h : COK c) (h7 : c.Kind ≠ 7) :
    trueX b x c = if c.Kind = 4 then b.Water == 0 else if c.Kind = 5 then !b.Filtered else if c.Kind = 6 then !b.Coloured else b.Draughts.all (isOne b c) := by
  have hk := h.kind
  have hne : b.Draughts ≠ [] := by have := hb.len; intro e; rw [e] at this; simp at this
  have hc : c.Kind = 0 ∨ c.Kind = 1 ∨ c.Kind = 2 ∨ c.Kind = 3 ∨ c.Kind = 4 ∨ c.Kind = 5 ∨ c.Kind = 6 := by omega
  rcases hc with e | e | e | e | e | e | e
  · have hi : isOne b c = fun d => decide (d.From.Age ≥ c.Number) := by funext d; simp [isOne, e]
    rw [Bool.eq_iff_iff, hi]
    simp only [trueX, e, hx.age, if_true, decide_eq_true_eq, ge_iff_le, le_minW hne]
    simp
  · have hw := h.what (.inl e)
    have hi : isOne b c = fun d => decide (d.From.Woods c.What.toNat ≥ c.Number) := by funext d; simp [isOne, e]
    rw [Bool.eq_iff_iff, hi]
    simp only [trueX, e, hx.woods c.What.toNat (by omega)]
    simp [le_minW hne]
  · have hw := h.what (.inr e)
    have hi : isOne b c = fun d => decide (d.From.Places c.What.toNat ≥ c.Number) := by funext d; simp [isOne, e]
    rw [Bool.eq_iff_iff, hi]
    simp only [trueX, e, hx.places c.What.toNat (by omega)]
    simp [le_minW hne]
  · have hi : isOne b c = fun d => d.From.Number == (firstD b).From.Number := by funext d; simp [isOne, e]
    have := numF_one hne
    rw [hi, ← this]
    simp [trueX, e, hx.casks]
  · simp [trueX, e]
  · simp [trueX, e]
  · simp [trueX, e]

theorem drops_loop {b : ApiBatch} {l : List ApiClaim} {x : ApiBottling} {e : Int} (hb : Valid b) (hx : Known b b.Water x) (hall : ∀ c ∈ l, COK c) (hl : l.length ≤ 40) :
    loopM (b_wormtublaw12_BottleDrops_1 b l (liesAt (trueX b x) 0 l, e)) (0, 0) = some (.inl ((liesAt (trueX b x) 0 l).length : Int)) := by
  have hblen := hb.len
  obtain ⟨t', k1, k2⟩ := loopM_pre (body := b_wormtublaw12_BottleDrops_1 b l (liesAt (trueX b x) 0 l, e)) (fun i (t : Int) => (t, (i : Int))) (fun t => .inl t) (fun pre t => t = ((liesAt (trueX b x) 0 pre).length : Int)) l
    (fun pre c post t hl' ht => by
      have hg := getEl_mid hl'
      have hi := lt_mid hl'
      have hc := hall c (List.mem_of_getElem? hg)
      have hsplit : liesAt (trueX b x) 0 l = liesAt (trueX b x) 0 pre ++ liesAt (trueX b x) pre.length (c :: post) := by
        rw [hl', liesAt_append, Nat.zero_add]
      have hlen := liesAt_len (trueX b x) pre 0
      generalize hA : liesAt (trueX b x) 0 pre = A at *
      -- is the next lie this one?
      have hlie : ((if (decide (t < ((liesAt (trueX b x) 0 l).length : Int))) then ((idxL (liesAt (trueX b x) 0 l) t).bind fun x67 => some (x67 == (pre.length : Int))) else some false) : Option Bool) = some (!trueX b x c) := by
        rw [hsplit, ht]
        cases hp : trueX b x c with
        | false =>
          simp only [liesAt, hp, Bool.false_eq_true, if_false, List.length_append, List.length_cons]
          rw [if_pos (by simp only [decide_eq_true_eq]; omega), idxL_nat]
          simp
        | true =>
          simp only [liesAt, hp, if_true]
          by_cases hlt : (A.length : Int) < ((A ++ liesAt (trueX b x) (pre.length + 1) post).length : Int)
          · simp only [hlt, decide_true, if_true, idxL_nat]
            rw [List.length_append] at hlt
            have hj : 0 < (liesAt (trueX b x) (pre.length + 1) post).length := by omega
            rw [List.getElem?_append_right (Nat.le_refl _), Nat.sub_self, List.getElem?_eq_getElem hj]
            have := liesAt_le (trueX b x) post (pre.length + 1) _ (List.getElem_mem hj)
            simp only [Option.bind_some, Option.some.injEq, Bool.not_true, beq_eq_false_iff_ne, ne_eq]
            omega
          · simp only [hlt, decide_false, Bool.false_eq_true, if_false, Bool.not_true]
      have hnew : ((liesAt (trueX b x) 0 (pre ++ [c])).length : Int) = if (!trueX b x c) then t + 1 else t := by
        rw [liesAt_append, hA, ht]
        simp only [liesAt, List.length_append]
        cases trueX b x c <;> simp
      refine ⟨((liesAt (trueX b x) 0 (pre ++ [c])).length : Int), ?_, rfl⟩
      rw [hnew]
      have htb : 0 ≤ t ∧ t ≤ 40 := by rw [ht]; omega
      unfold b_wormtublaw12_BottleDrops_1
      simp only [idxL_nat, hg, Option.bind_some, bindv]
      rw [w64_id (n := (pre.length : Int) + 1) (by omega) (by omega), w64_id (n := t + 1) (by omega) (by omega)]
      simp only [show (decide ((pre.length : Int) < (l.length : Int))) = true by simpa using hi, if_true]
      rw [hlie]
      by_cases h7 : c.Kind = 7
      · simp only [h7, beq_self_eq_true, if_true, Option.bind_some]
        cases trueX b x c <;> simp
      · have b7 : (c.Kind == 7) = false := by simpa using h7
        have htr := true_iff hb hx hc h7
        rw [inner_is hc (by omega)]
        simp only [b7, Bool.false_eq_true, if_false, Option.bind_some]
        have hsel : ((if (c.Kind == 4) = true then some (b.Water == 0) else if (c.Kind == 5) = true then some (!b.Filtered) else if (c.Kind == 6) = true then some (!b.Coloured) else some (b.Draughts.all (isOne b c))) : Option Bool) = some (trueX b x c) := by
          rw [htr]
          simp only [beq_iff_eq]
          repeat' split
          all_goals rfl
        rw [hsel]
        cases trueX b x c <;> simp)
    (fun t _ => by unfold b_wormtublaw12_BottleDrops_1; simp) l [] 0 rfl (by simp [liesAt])
  simp only [List.length_nil, Int.natCast_zero] at k2
  rw [k2, k1]

theorem law_BottleDrops : LawBottleDrops := by
  intro b l _ _
  unfold m_wormtublaw12_BottleDrops
  split
  · simp only [awake_ok, Option.bind_some]
  · rename_i hg
    simp only [Bool.or_eq_true, decide_eq_true_eq, not_or, Int.not_lt, gt_iff_lt] at hg
    rcases false_prog b l (by omega) (by omega) with ⟨_, hr⟩ | ⟨hb, hc, hall, x, hx, _, hr⟩
    · refine bind_of hr ?_
      simp [awake_ok]
    · refine bind_of hr ?_
      simp only [bne_self_eq_false, Bool.false_eq_true, if_false]
      rw [refBatch_eq b (by omega), (validB_iff b).2 hb]
      simp only [Option.bind_some, Bool.not_true, Bool.false_eq_true, if_false]
      rw [refClaims_eq l (by omega), hc]
      simp only [Option.bind_some, Bool.not_true, Bool.false_eq_true, if_false]
      refine bind_of (drops_loop hb hx hall (by omega)) ?_
      simp [awake_ok]

theorem bottleDrops_holds : Rows.BottleDropsSaid := said_BottleDrops law_BottleDrops
#print axioms bottleDrops_holds

end Go.Proofs.Ytbomfcghpajaiaa
