/-
  BottleLess: a batch without one of its draughts makes no claim of age, wood or place false that was true; more water makes nothing stronger and changes no such claim; and the order of the draughts makes no difference.
  No condition: the given statement, for every input.
-/
import Derived.Test.YtbomfcghpajaiaaMj
import Derived.Test.YtbomfcghpajaiaaR3
import Derived.Test.YtbomfcghpajaiaaRE0
import Derived.Test.YtbomfcghpajaiaaRF7
namespace Go.Proofs.Ytbomfcghpajaiaa
open Go.Dec

theorem awake_ok : m_wormtublaw12_awake = some true := (e_m_wormtublaw12_awake 100).out true (by decide +kernel)

theorem up_le {a b k : Int} (h : 0 < b) : (a + b - 1) / b ≤ k ↔ a ≤ k * b := by
  have h1 : (a + b - 1) / b ≤ k ↔ (a + b - 1) / b < k + 1 := by omega
  rw [h1, Int.ediv_lt_iff_lt_mul h, Int.add_mul]
  omega
theorem up_anti {a b c : Int} (h0 : 0 ≤ a) (h1 : 0 < b) (h2 : b ≤ c) : (a + c - 1) / c ≤ (a + b - 1) / b := by
  rw [up_le (by omega)]
  have k1 := (up_le (a := a) (k := (a + b - 1) / b) h1).1 (Int.le_refl _)
  have k2 : 0 ≤ (a + b - 1) / b := Int.ediv_nonneg (by omega) (by omega)
  exact Int.le_trans k1 (Int.mul_le_mul_of_nonneg_left h2 k2)
theorem div_anti {a b c : Int} (h0 : 0 ≤ a) (h1 : 0 < b) (h2 : b ≤ c) : a / c ≤ a / b := by
  rw [Int.le_ediv_iff_mul_le h1]
  have k1 : a / c * c ≤ a := Int.ediv_mul_le a (by omega)
  have k2 : 0 ≤ a / c := Int.ediv_nonneg h0 (by omega)
  exact Int.le_trans (Int.mul_le_mul_of_nonneg_left h2 k2) k1
theorem imin_mono {k a b : Int} (h : a ≤ b) : imin k a ≤ imin k b := by
  simp only [imin]; split <;> split <;> omega

theorem str_anti' {b : ApiBatch} {v w : Int} (h : Valid b) (h0 : 0 ≤ v) (h1 : v ≤ w) (h2 : w ≤ 17179869184) : (strF b w).Hi ≤ (strF b v).Hi ∧ (strF b w).Lo ≤ (strF b v).Lo := by
  have bv := bds h h0 (by omega : v ≤ 17179869184)
  have hb := bv.l; have h3 := bv.small; have h4 := bv.great
  have hs := h.shrink
  constructor
  · exact imin_mono (up_anti (by omega) (by omega) (Int.mul_le_mul_of_nonneg_right (by omega) (by omega)))
  · exact imin_mono (div_anti (by omega) (by omega) (Int.mul_le_mul_of_nonneg_right (by omega) (by omega)))

/-! ### The order of the draughts -/
theorem sum_rev (f : ApiDraught → Int) (l : List ApiDraught) : (l.reverse.map f).sum = (l.map f).sum := by
  induction l with
  | nil => rfl
  | cons x l ih => simp [List.reverse_cons]; omega
theorem minW_eq {l k : List ApiDraught} (hl : l ≠ []) (h : ∀ d, d ∈ l ↔ d ∈ k) (f : ApiDraught → Int) : minW l f = minW k f := by
  have hk : k ≠ [] := by
    intro e; subst e
    cases l with
    | nil => exact hl rfl
    | cons x l => exact absurd ((h x).1 (by simp)) (by simp)
  have h1 : minW k f ≤ minW l f := (le_minW hl).2 fun d hd => (le_minW hk).1 (Int.le_refl _) d ((h d).1 hd)
  have h2 : minW l f ≤ minW k f := (le_minW hk).2 fun d hd => (le_minW hl).1 (Int.le_refl _) d ((h d).2 hd)
  omega
theorem len_sub : ∀ (l k : List Int), l.Nodup → (∀ x ∈ l, x ∈ k) → l.length ≤ k.length
  | [], _, _, _ => by simp
  | x :: l, k, hn, h => by
    have hx := h x (by simp)
    obtain ⟨h1, h2⟩ := List.nodup_cons.1 hn
    have := len_sub l (k.erase x) h2 fun y hy => (List.mem_erase_of_ne (by rintro rfl; exact h1 hy)).2 (h y (by simp [hy]))
    rw [List.length_erase_of_mem hx] at this
    have : 0 < k.length := List.length_pos_of_mem hx
    simp only [List.length_cons]; omega
theorem numF_nodup (l : List ApiDraught) : (numF l).Nodup := by
  induction l using snoc_ind with
  | h0 => simp [numF]
  | hs l d ih =>
    rw [numF_snoc]
    split
    · exact ih
    · rename_i h
      rw [List.nodup_append]
      refine ⟨ih, by simp, fun a ha b hb => ?_⟩
      simp only [List.mem_singleton] at hb
      subst hb
      rintro rfl; exact h ha
theorem numF_eq {l k : List ApiDraught} (h : ∀ d, d ∈ l ↔ d ∈ k) : (numF l).length = (numF k).length := by
  have hm : ∀ n, n ∈ numF l ↔ n ∈ numF k := fun n => by
    rw [numF_mem, numF_mem]
    exact ⟨fun ⟨d, hd, e⟩ => ⟨d, (h d).1 hd, e⟩, fun ⟨d, hd, e⟩ => ⟨d, (h d).2 hd, e⟩⟩
  have h1 := len_sub _ _ (numF_nodup l) fun x hx => (hm x).1 hx
  have h2 := len_sub _ _ (numF_nodup k) fun x hx => (hm x).2 hx
  omega
theorem known_rev {b : ApiBatch} {x : ApiBottling} (hb : Valid b) (h : Known { b with Draughts := b.Draughts.reverse } b.Water x) : Known b b.Water x := by
  have hne : b.Draughts ≠ [] := by have := hb.len; intro e; rw [e] at this; simp at this
  have hA : sumA b.Draughts.reverse = sumA b.Draughts := sum_rev _ _
  have hL : sumLo b.Draughts.reverse = sumLo b.Draughts := sum_rev _ _
  have hH : sumHi b.Draughts.reverse = sumHi b.Draughts := sum_rev _ _
  have hm : ∀ d, d ∈ b.Draughts.reverse ↔ d ∈ b.Draughts := fun d => by simp
  have hne' : b.Draughts.reverse ≠ [] := by simpa using hne
  refine ⟨?_, ?_, ?_, fun i hi => ?_, fun i hi => ?_, ?_⟩
  · rw [h.vol]; simp only [volF, hA]
  · rw [h.str]; simp only [strF, hA, hL, hH]
  · rw [h.age]; exact minW_eq hne' hm _
  · rw [h.woods i hi]; exact minW_eq hne' hm _
  · rw [h.places i hi]; exact minW_eq hne' hm _
  · rw [h.casks]; simp only [numF_eq hm]

theorem turn_loop {b : ApiBatch} (h : b.Draughts.length ≤ 16) : loopM (b_wormtublaw12_BottleLess_1 b) ((b.Draughts.length : Int) - 1, { b with Draughts := [] }) = some { b with Draughts := b.Draughts.reverse } := by
  obtain ⟨t, k1, k2⟩ := loopM_upto (body := b_wormtublaw12_BottleLess_1 b) (fun k (t : ApiBatch) => ((b.Draughts.length : Int) - 1 - (k : Int), t)) (fun t => t) (fun k t => t = { b with Draughts := (b.Draughts.drop (b.Draughts.length - k)).reverse }) b.Draughts.length
    (fun k t hk ht => by
      have hlt : b.Draughts.length - (k + 1) < b.Draughts.length := by omega
      have hg : b.Draughts[b.Draughts.length - (k + 1)]? = some b.Draughts[b.Draughts.length - (k + 1)] := List.getElem?_eq_getElem hlt
      refine ⟨{ b with Draughts := (b.Draughts.drop (b.Draughts.length - (k + 1))).reverse }, ?_, rfl⟩
      unfold b_wormtublaw12_BottleLess_1
      simp only [show ((b.Draughts.length : Int) - 1 - (k : Int)) ≥ 0 by omega, decide_true, if_true]
      rw [show ((b.Draughts.length : Int) - 1 - (k : Int)) = ((b.Draughts.length - (k + 1) : Nat) : Int) by omega, idxL_nat, hg, ht]
      simp only [Option.bind_some, bindv]
      rw [appO_some' (by simp only [List.length_reverse, List.length_drop, List.length_cons, List.length_nil]; omega)]
      simp only [Option.bind_some]
      rw [w64_id (by omega) (by omega)]
      have hd : b.Draughts.drop (b.Draughts.length - (k + 1)) = b.Draughts[b.Draughts.length - (k + 1)] :: b.Draughts.drop (b.Draughts.length - k) := by
        rw [List.drop_eq_getElem_cons hlt, show b.Draughts.length - (k + 1) + 1 = b.Draughts.length - k by omega]
      rw [hd, List.reverse_cons]
      rw [show ((b.Draughts.length - (k + 1) : Nat) : Int) - 1 = (b.Draughts.length : Int) - 1 - ((k + 1 : Nat) : Int) by omega])
    (fun t _ => by
      unfold b_wormtublaw12_BottleLess_1
      simp only [show ¬ ((b.Draughts.length : Int) - 1 - (b.Draughts.length : Int)) ≥ 0 by omega, decide_false, Bool.false_eq_true, if_false]) b.Draughts.length 0 { b with Draughts := [] } (by omega) (by simp)
  simp only [Int.natCast_zero, Int.sub_zero] at k2
  rw [k2, k1]; simp

theorem found_loop (lies some_ : List Int) (e e' : Int) (j : Nat) (x : Int) (hx : some_[j]? = some x) (h : lies.length ≤ 1000) : loopM (b_wormtublaw12_BottleLess_3 (lies, e) (some_, e') (j : Int)) (false, 0) = some (decide (x ∈ lies)) := by
  obtain ⟨t', k1, k2⟩ := loopM_pre (body := b_wormtublaw12_BottleLess_3 (lies, e) (some_, e') (j : Int)) (fun i (t : Bool) => (t, (i : Int))) (fun t => t) (fun pre t => t = decide (x ∈ pre)) lies
    (fun pre y post t hl ht => by
      have hg := getEl_mid hl
      have hi := lt_mid hl
      refine ⟨decide (x ∈ pre ++ [y]), ?_, rfl⟩
      unfold b_wormtublaw12_BottleLess_3
      simp only [idxL_nat, hg, hx, Option.bind_some, bindv]
      rw [w64_id (by omega) (by omega)]
      simp only [show (decide ((pre.length : Int) < (lies.length : Int))) = true by simpa using hi, if_true]
      by_cases h1 : x ∈ pre
      · simp [ht, h1]
      · by_cases h2 : y = x
        · simp [ht, h2]
        · have h3 : ¬ x = y := fun e => h2 e.symm
          simp [ht, h1, h2, h3])
    (fun t _ => by unfold b_wormtublaw12_BottleLess_3; simp) lies [] false rfl (by simp)
  simp only [List.length_nil, Int.natCast_zero] at k2
  rw [k2, k1]

theorem less_loop {l : List ApiClaim} {lies some_ : List Int} {e e' : Int} (hl : lies.length ≤ 1000) (hs : some_.length ≤ 1000)
    (h : ∀ x ∈ some_, ∃ (k : Nat) (c : ApiClaim), x = (k : Int) ∧ l[k]? = some c ∧ (c.Kind ≤ 2 → x ∈ lies)) : loopM (b_wormtublaw12_BottleLess_2 l (lies, e) (some_, e')) 0 = some (.inl ()) := by
  obtain ⟨t', _, k2⟩ := loopM_pre (body := b_wormtublaw12_BottleLess_2 l (lies, e) (some_, e')) (fun i (_ : Unit) => (i : Int)) (fun _ => .inl ()) (fun _ _ => True) some_
    (fun pre x post t hl' _ => by
      have hg := getEl_mid hl'
      have hi := lt_mid hl'
      obtain ⟨k, c, e1, e2, e3⟩ := h x (List.mem_of_getElem? hg)
      have hk := lt_of_getEl e2
      refine ⟨(), ?_, trivial⟩
      unfold b_wormtublaw12_BottleLess_2
      simp only [idxL_nat, hg, Option.bind_some, bindv]
      rw [w64_id (by omega) (by omega), found_loop lies some_ e e' pre.length x hg hl]
      have hx0 : ¬ x < 0 := by omega
      have hx1 : ¬ x ≥ (l.length : Int) := by omega
      have hx2 : idxL l x = some c := by rw [e1, idxL_nat]; exact e2
      simp only [show (decide ((pre.length : Int) < (some_.length : Int))) = true by simpa using hi, if_true, hx0, hx1, hx2, decide_false, Bool.false_eq_true, if_false, Option.bind_some]
      by_cases hc : c.Kind > 2
      · simp [hc]
      · have := e3 (by omega)
        simp [hc, this])
    (fun t _ => by unfold b_wormtublaw12_BottleLess_2; simp) some_ [] () rfl trivial
  simpa using k2

theorem law_BottleLess : LawBottleLess := by
  intro b l which more _ _ hw hm
  have hw' := wf_u8 hw
  have hm' := wf_u32 hm
  unfold m_wormtublaw12_BottleLess
  split
  · simp only [awake_ok, Option.bind_some]
  · rename_i hg
    simp only [Bool.or_eq_true, decide_eq_true_eq, not_or, Int.not_lt, gt_iff_lt] at hg
    rcases false_prog b l (by omega) (by omega) with ⟨_, hr⟩ | ⟨hb, hc, hall, x, hx, hbl, hr⟩
    · rcases blend_prog b (by omega) with ⟨_, hbl⟩ | ⟨_, x, hbl, _⟩
      · refine bind_of hbl (bind_of hr ?_)
        simp [awake_ok]
      · refine bind_of hbl (bind_of hr ?_)
        simp [awake_ok]
    · have hlen := hb.len
      have hwt := hb.water
      have hne : b.Draughts ≠ [] := by intro e; rw [e] at hlen; simp at hlen
      refine bind_of hbl (bind_of hr ?_)
      simp only [bne_self_eq_false, Bool.or_self, Bool.false_eq_true, if_false, bindv]
      have hn0 : ((b.Draughts.length : Int) == 0) = false := by rw [beq_eq_false_iff_ne]; omega
      simp only [hn0, Bool.false_eq_true, if_false]
      have e1 : w64 which = which := w64_id (by omega) (by omega)
      have e2 : w64 more = more := w64_id (by omega) (by omega)
      have e3 : w64 (b.Water + more) = b.Water + more := w64_id (by omega) (by omega)
      have e4 : w64 ((b.Draughts.length : Int) - 1) = (b.Draughts.length : Int) - 1 := w64_id (by omega) (by omega)
      rw [e1, e2, e3, e4]
      have hq : remK which (b.Draughts.length : Int) = some (which % b.Draughts.length) := by
        unfold remK; rw [if_neg (by omega), Int.tmod_eq_emod_of_nonneg hw'.1]
      have q0 := Int.emod_nonneg which (show (b.Draughts.length : Int) ≠ 0 by omega)
      have q1 := Int.emod_lt_of_pos which (show 0 < (b.Draughts.length : Int) by omega)
      refine bind_of hq ?_
      obtain ⟨q, hqn⟩ := Int.eq_ofNat_of_zero_le q0
      rw [hqn] at q1 ⊢
      have hs1 : sliceL b.Draughts 0 (q : Int) = some (b.Draughts.take q) := by unfold sliceL; rw [if_pos (by omega)]; simp
      have hs2 : sliceL b.Draughts ((q : Int) + 1) (b.Draughts.length : Int) = some (b.Draughts.drop (q + 1)) := by
        unfold sliceL; rw [if_pos (by omega)]
        rw [show ((q : Int) + 1).toNat = q + 1 by omega, List.take_of_length_le (by simp)]
      rw [w64_id (n := (q : Int) + 1) (by omega) (by omega)]
      have ht1 : (b.Draughts.take q).length ≤ 16 := by simp; omega
      have ht2 : (b.Draughts.drop (q + 1)).length ≤ 16 := by simp; omega
      refine bind_of hs1 (bind_of (appO_some' (by simp only [List.length_nil]; omega)) (bind_of hs2 (bind_of (appO_some' (by simp only [List.length_append, List.length_nil]; omega)) ?_)))
      simp only [List.nil_append]
      refine bind_of (turn_loop (by omega)) ?_
      -- more water
      generalize hw2 : imin 17179869184 (b.Water + more) = w2
      have w2b : b.Water ≤ w2 ∧ w2 ≤ 17179869184 := by rw [← hw2]; simp only [imin]; split <;> omega
      have hbw : Valid { b with Water := w2 } := ⟨hb.ds, hb.len, ⟨by show 0 ≤ w2; omega, w2b.2⟩, hb.shrink⟩
      have hbt : Valid { b with Draughts := b.Draughts.reverse } := ⟨fun d hd => hb.ds d (by simpa using hd), by show 1 ≤ b.Draughts.reverse.length ∧ _; simpa using hb.len, hb.water, hb.shrink⟩
      rcases blend_prog { b with Water := w2 } (by show b.Draughts.length ≤ 40; omega) with ⟨hv, _⟩ | ⟨_, y, hy, hyk⟩
      · rw [(validB_iff _).2 hbw] at hv; cases hv
      rcases blend_prog { b with Draughts := b.Draughts.reverse } (by show b.Draughts.reverse.length ≤ 40; simp; omega) with ⟨hv, _⟩ | ⟨_, z, hz, hzk⟩
      · rw [(validB_iff _).2 hbt] at hv; cases hv
      refine bind_of hy (bind_of hz ?_)
      have hz56 : eq_56 z x = true := (known_rev hb hzk).same hx
      have hys : y.Strength = strF b w2 := hyk.str
      have hyv : y.Volume = volF b w2 := hyk.vol
      have hanti := str_anti' hb hwt.1 w2b.1 w2b.2
      have g1 : ¬ y.Strength.Lo > x.Strength.Lo := by rw [hys, hx.str]; omega
      have g2 : ¬ y.Strength.Hi > x.Strength.Hi := by rw [hys, hx.str]; omega
      have g3 : ¬ y.Volume.Lo < x.Volume.Lo := by
        rw [hyv, hx.vol]
        have hs := hb.shrink
        have := Int.ediv_le_ediv (show (0 : Int) < 10000 by omega) (Int.mul_le_mul_of_nonneg_right (show sumA b.Draughts + b.Water ≤ sumA b.Draughts + w2 by omega) (show 0 ≤ 10000 - b.Shrink.Hi by omega))
        simp only [volF]; omega
      have g4 : (y.Age != x.Age) = false := by
        have : y.Age = x.Age := by rw [hyk.age, hx.age]
        simp [this]
      have g5 : eq_47 y.Woods x.Woods = true := by
        simp only [eq_47, List.all_cons, List.all_nil, Bool.and_true, id, Bool.and_eq_true, beq_iff_eq]
        simp [hyk.woods, hx.woods]
      have g6 : eq_47 y.Places x.Places = true := by
        simp only [eq_47, List.all_cons, List.all_nil, Bool.and_true, id, Bool.and_eq_true, beq_iff_eq]
        simp [hyk.places, hx.places]
      simp only [bne_self_eq_false, hz56, g1, g2, g3, g4, g5, g6, decide_false, Bool.not_true, Bool.or_self, Bool.false_eq_true, if_false]
      by_cases h1 : ((b.Draughts.length : Int) == 1) = true
      · simp only [h1, if_true, awake_ok, Option.bind_some]
      · simp only [h1]
        have hn2 : 2 ≤ b.Draughts.length := by
          rw [beq_iff_eq] at h1; omega
        have hlt : q < b.Draughts.length := by omega
        -- one less
        have hsub : ∀ d ∈ b.Draughts.take q ++ b.Draughts.drop (q + 1), d ∈ b.Draughts := by
          intro d hd
          rcases List.mem_append.1 hd with hd | hd
          · exact List.mem_of_mem_take hd
          · exact List.mem_of_mem_drop hd
        have hll : (b.Draughts.take q ++ b.Draughts.drop (q + 1)).length = b.Draughts.length - 1 := by
          rw [List.length_append, List.length_take, List.length_drop]; omega
        generalize hD : b.Draughts.take q ++ b.Draughts.drop (q + 1) = D at hsub hll
        have hDne : D ≠ [] := by intro e; rw [e] at hll; simp at hll; omega
        have hvl : Valid { b with Draughts := D } := ⟨fun d hd => hb.ds d (hsub d hd), by show 1 ≤ D.length ∧ D.length ≤ 16; omega, hb.water, hb.shrink⟩
        rcases false_prog { b with Draughts := D } l (by show D.length ≤ 40; omega) (by omega) with ⟨hbad, _⟩ | ⟨_, _, _, x', hx', _, hr'⟩
        · rw [(validB_iff _).2 hvl, hc] at hbad; cases hbad
        · refine bind_of hr' ?_
          simp only [bne_self_eq_false, Bool.false_eq_true, if_false]
          have hmono : ∀ f : ApiDraught → Int, minW b.Draughts f ≤ minW D f := fun f => (le_minW hDne).2 fun d hd => (le_minW hne).1 (Int.le_refl _) d (hsub d hd)
          have hloop := less_loop (l := l) (lies := liesAt (trueX b x) 0 l) (some_ := liesAt (trueX { b with Draughts := D } x') 0 l) (e := 0) (e' := 0)
            (by have := liesAt_len (trueX b x) l 0; omega) (by have := liesAt_len (trueX { b with Draughts := D } x') l 0; omega)
            (fun v hv => by
              obtain ⟨k, c, k1, k2, k3⟩ := (liesAt_mem _ l 0 v).1 hv
              rw [Nat.zero_add] at k2
              refine ⟨k, c, k2, k1, fun hk => ?_⟩
              rw [liesAt_mem]
              refine ⟨k, c, k1, by rw [Nat.zero_add]; exact k2, ?_⟩
              have hcok := hall c (List.mem_of_getElem? k1)
              have hkk := hcok.kind
              have hcase : c.Kind = 0 ∨ c.Kind = 1 ∨ c.Kind = 2 := by omega
              rcases hcase with e | e | e
              · simp only [trueX, e, if_true, decide_eq_false_iff_not, hx'.age, hx.age] at k3 ⊢
                have := hmono fun d => d.From.Age
                omega
              · have hwh := hcok.what (.inl e)
                simp only [trueX, e, hx'.woods c.What.toNat (by omega), hx.woods c.What.toNat (by omega)] at k3 ⊢
                have := hmono fun d => d.From.Woods c.What.toNat
                simp at k3 ⊢
                omega
              · have hwh := hcok.what (.inr e)
                simp only [trueX, e, hx'.places c.What.toNat (by omega), hx.places c.What.toNat (by omega)] at k3 ⊢
                have := hmono fun d => d.From.Places c.What.toNat
                simp at k3 ⊢
                omega)
          refine bind_of hloop ?_
          simp [awake_ok]

theorem bottleLess_holds : Rows.BottleLessSaid := said_BottleLess law_BottleLess
#print axioms bottleLess_holds

end Go.Proofs.Ytbomfcghpajaiaa
