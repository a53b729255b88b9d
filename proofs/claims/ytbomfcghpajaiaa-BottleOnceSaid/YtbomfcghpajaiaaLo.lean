/-
  BottleOnce: each stamp that was issued is in the hand, on one bottle, spoiled, or given back, and just one of these; as many were issued as there are in all; and nothing is told of a stamp that was not.
  No condition: the given statement, for every input.
-/
import Derived.Test.YtbomfcghpajaiaaLd
import Derived.Test.YtbomfcghpajaiaaS9
import Derived.Test.YtbomfcghpajaiaaSE0
import Derived.Test.YtbomfcghpajaiaaSF8
namespace Go.Proofs.Ytbomfcghpajaiaa
open Go.Dec

theorem awake_ok : m_wormtublaw12_awake = some true := (e_m_wormtublaw12_awake 100).out true (by decide +kernel)

/-! ### Counting -/
open Classical in
noncomputable def cnt (p : Int → Prop) : Nat → Int
  | 0 => 0
  | n + 1 => cnt p n + if p (n : Int) then 1 else 0
theorem cnt_congr {p q : Int → Prop} (h : ∀ n, p n ↔ q n) : ∀ n, cnt p n = cnt q n
  | 0 => rfl
  | n + 1 => by
    simp only [cnt, cnt_congr h n]
    by_cases hp : p (n : Int)
    · rw [if_pos hp, if_pos ((h _).1 hp)]
    · rw [if_neg hp, if_neg fun k => hp ((h _).2 k)]
theorem cnt_none {p : Int → Prop} (h : ∀ n, ¬ p n) : ∀ n, cnt p n = 0
  | 0 => rfl
  | n + 1 => by simp only [cnt, cnt_none h n, if_neg (h _)]; rfl
theorem cnt_or {p q : Int → Prop} (h : ∀ n, p n → ¬ q n) : ∀ n, cnt (fun x => p x ∨ q x) n = cnt p n + cnt q n
  | 0 => rfl
  | n + 1 => by
    have ih := cnt_or h n
    simp only [cnt, ih]
    by_cases hp : p (n : Int)
    · have hq := h _ hp
      simp only [hp, hq, or_false, if_true, if_false]; omega
    · by_cases hq : q (n : Int)
      · simp only [hp, hq, or_true, if_true, if_false]; omega
      · simp only [hp, hq, or_self, if_false]; omega
theorem cnt_span {lo hi : Int} (h0 : 0 ≤ lo) (h1 : lo ≤ hi) : ∀ n : Nat, cnt (fun x => lo ≤ x ∧ x ≤ hi) n = if (n : Int) ≤ lo then 0 else if (n : Int) ≤ hi + 1 then (n : Int) - lo else hi - lo + 1
  | 0 => by simp only [cnt, Int.natCast_zero]; rw [if_pos h0]
  | n + 1 => by
    simp only [cnt, cnt_span h0 h1 n, Int.natCast_add, Int.natCast_one]
    by_cases hp : lo ≤ (n : Int) ∧ (n : Int) ≤ hi
    · rw [if_pos hp]
      split <;> split <;> (try split) <;> omega
    · rw [if_neg hp]
      split <;> split <;> (try split) <;> (try split) <;> omega

def bigN : Nat := 1099511627777
theorem bigN_eq : bigN = 1099511627777 := rfl
theorem cnt_full {lo hi : Int} (h0 : 0 ≤ lo) (h1 : lo ≤ hi) (h2 : hi ≤ 1099511627776) : cnt (fun x => lo ≤ x ∧ x ≤ hi) bigN = hi - lo + 1 := by
  rw [cnt_span h0 h1]
  have : (bigN : Int) = 1099511627777 := by rw [bigN_eq]; rfl
  rw [this]
  split
  · omega
  · split <;> omega

def sizeS (s : List ApiSpan) : Int := (s.map fun y => y.Hi - y.Lo + 1).sum
theorem cnt_norm : ∀ s : List ApiSpan, Norm s → cnt (mem s) bigN = sizeS s
  | [], _ => by rw [cnt_none fun n => mem_nil n]; rfl
  | y :: s, h => by
    have oy := h.ok y (by simp)
    have hap := (List.pairwise_cons.1 h.apart).1
    have e : cnt (mem (y :: s)) bigN = cnt (fun x => (y.Lo ≤ x ∧ x ≤ y.Hi) ∨ mem s x) bigN := cnt_congr (fun n => mem_cons y s n) bigN
    rw [e, cnt_or (fun n hn hm => ?_), cnt_full oy.1 oy.2.1 oy.2.2, cnt_norm s h.tail]
    · simp [sizeS]
    · obtain ⟨z, hz, hin⟩ := hm
      have := hap z hz
      simp only [inS] at hin; omega

/-! ### The law of the sums -/
def sizeE (x : ApiStampEvent) : Int := x.Last - x.First + 1
def issuedN (l : List ApiStampEvent) : Int := (l.map fun x => if x.Kind = 0 then sizeE x else 0).sum
def awayN (l : List ApiStampEvent) : Int := (l.map fun x => if x.Kind = 0 then 0 else sizeE x).sum
theorem issuedN_snoc (l : List ApiStampEvent) (x : ApiStampEvent) : issuedN (l ++ [x]) = issuedN l + if x.Kind = 0 then sizeE x else 0 := by simp [issuedN]
theorem awayN_snoc (l : List ApiStampEvent) (x : ApiStampEvent) : awayN (l ++ [x]) = awayN l + if x.Kind = 0 then 0 else sizeE x := by simp [awayN]

theorem count_ok (l : List ApiStampEvent) : AllOk errAt l → cnt (hand l) bigN = issuedN l - awayN l := by
  induction l using snoc_ind with
  | h0 => intro _; rw [cnt_none fun n => by simp [hand, cur_nil]]; rfl
  | hs l x ih =>
    intro h
    have ih := ih h.init
    obtain ⟨hk, h0, h1⟩ := errAt_ok (ok_last h)
    obtain ⟨_, _, x0, x1, x2⟩ := (okE_iff x).1 hk
    have hfull := cnt_full x0 x1 x2
    rw [issuedN_snoc, awayN_snoc]
    by_cases hx : x.Kind = 0
    · have e : cnt (hand (l ++ [x])) bigN = cnt (fun n => hand l n ∨ (x.First ≤ n ∧ n ≤ x.Last)) bigN := cnt_congr (fun n => by
        rw [hand_snoc]
        by_cases hn : has x n
        · rw [if_pos hn]; exact ⟨fun _ => .inr hn, fun _ => hx⟩
        · rw [if_neg hn]; exact ⟨.inl, fun h => h.resolve_right hn⟩) bigN
      rw [e, cnt_or (fun n hn hm => ?_), hfull, ih]
      · simp only [hx, if_true, sizeE]; omega
      · obtain ⟨e, he, _⟩ := hn
        rw [h0 hx n hm] at he; cases he
    · have e : cnt (hand l) bigN = cnt (fun n => hand (l ++ [x]) n ∨ (x.First ≤ n ∧ n ≤ x.Last)) bigN := cnt_congr (fun n => by
        rw [hand_snoc]
        by_cases hn : has x n
        · rw [if_pos hn]; exact ⟨fun _ => .inr hn, fun _ => h1 hx n hn⟩
        · rw [if_neg hn]; exact ⟨.inl, fun h => h.resolve_right hn⟩) bigN
      rw [cnt_or (fun n hn hm => ?_), hfull] at e
      · simp only [hx, if_false, sizeE]; omega
      · rw [hand_snoc, if_pos (show has x n from hm)] at hn
        exact hx hn

theorem sums_ok (l : List ApiStampEvent) : AllOk errAt l → l.length ≤ 100 → (0 ≤ issuedN l ∧ issuedN l ≤ 1099511627777 * l.length) ∧ (0 ≤ (sumB l).Stuck ∧ 0 ≤ (sumB l).Spoiled ∧ 0 ≤ (sumB l).Returned) ∧
    (sumB l).Stuck + (sumB l).Spoiled + (sumB l).Returned = awayN l ∧ awayN l ≤ 1099511627777 * l.length := by
  induction l using snoc_ind with
  | h0 => intro _ _; simp [issuedN, awayN, sumB]
  | hs l x ih =>
    intro h hlen
    rw [List.length_append, List.length_singleton] at hlen
    obtain ⟨i1, i2, i3, i4⟩ := ih h.init (by omega)
    obtain ⟨hk, _, _⟩ := errAt_ok (ok_last h)
    obtain ⟨hkind, _, x0, x1, x2⟩ := (okE_iff x).1 hk
    have ha : amount x = sizeE x := by
      unfold amount sizeE
      rw [w64_id (n := x.Last - x.First) (by omega) (by omega), w64_id (by omega) (by omega)]
    have hsz : 1 ≤ sizeE x ∧ sizeE x ≤ 1099511627777 := by unfold sizeE; omega
    rw [issuedN_snoc, awayN_snoc, sumB_snoc, List.length_append, List.length_singleton, Int.natCast_add, Int.natCast_one]
    unfold addB
    rw [ha]
    by_cases k0 : x.Kind = 0
    · simp only [k0, show ¬ ((0 : Int) = 1) by omega, show ¬ ((0 : Int) = 2) by omega, show ¬ ((0 : Int) = 3) by omega, if_true, if_false]
      refine ⟨by omega, i2, by omega, by omega⟩
    · simp only [k0, if_false]
      have hc : x.Kind = 1 ∨ x.Kind = 2 ∨ x.Kind = 3 := by omega
      rcases hc with k | k | k
      · simp only [k, if_true]
        rw [w64_id (by omega) (by omega)]
        refine ⟨by omega, by omega, by omega, by omega⟩
      · simp only [k, show ¬ ((2 : Int) = 1) by omega, if_true, if_false]
        rw [w64_id (by omega) (by omega)]
        refine ⟨by omega, by omega, by omega, by omega⟩
      · simp only [k, show ¬ ((3 : Int) = 1) by omega, show ¬ ((3 : Int) = 2) by omega, if_true, if_false]
        rw [w64_id (by omega) (by omega)]
        refine ⟨by omega, by omega, by omega, by omega⟩

/-! ### Of one stamp -/
def issC (l : List ApiStampEvent) (n : Int) : Int := (l.map fun x => if x.Kind = 0 ∧ has x n then 1 else 0).sum
def awC (l : List ApiStampEvent) (n : Int) : Int := (l.map fun x => if x.Kind ≠ 0 ∧ has x n then 1 else 0).sum
def batC (l : List ApiStampEvent) (n : Int) : Int := l.foldl (fun o x => if x.Kind = 1 ∧ has x n then x.Batch else o) (-1)
theorem issC_snoc (l : List ApiStampEvent) (x : ApiStampEvent) (n : Int) : issC (l ++ [x]) n = issC l n + if x.Kind = 0 ∧ has x n then 1 else 0 := by simp [issC]
theorem awC_snoc (l : List ApiStampEvent) (x : ApiStampEvent) (n : Int) : awC (l ++ [x]) n = awC l n + if x.Kind ≠ 0 ∧ has x n then 1 else 0 := by simp [awC]
theorem batC_snoc (l : List ApiStampEvent) (x : ApiStampEvent) (n : Int) : batC (l ++ [x]) n = if x.Kind = 1 ∧ has x n then x.Batch else batC l n := by simp [batC]
theorem cnt_le (l : List ApiStampEvent) (n : Int) : (0 ≤ issC l n ∧ issC l n ≤ l.length) ∧ 0 ≤ awC l n ∧ awC l n ≤ l.length := by
  induction l using snoc_ind with
  | h0 => simp [issC, awC]
  | hs l x ih =>
    rw [issC_snoc, awC_snoc, List.length_append, List.length_singleton, Int.natCast_add, Int.natCast_one]
    constructor
    · split <;> omega
    · split <;> omega
theorem one_ok (n : Int) (l : List ApiStampEvent) : AllOk errAt l →
    (cur l n = none ∧ issC l n = 0 ∧ awC l n = 0 ∧ batC l n = -1) ∨ (∃ e, cur l n = some e ∧ e.Kind = 0 ∧ issC l n = 1 ∧ awC l n = 0 ∧ batC l n = -1) ∨
    (∃ e, cur l n = some e ∧ e.Kind ≠ 0 ∧ issC l n = 1 ∧ awC l n = 1 ∧ batC l n = if e.Kind = 1 then e.Batch else -1) := by
  induction l using snoc_ind with
  | h0 => intro _; exact .inl ⟨rfl, rfl, rfl, rfl⟩
  | hs l x ih =>
    intro h
    have ih := ih h.init
    obtain ⟨_, h0, h1⟩ := errAt_ok (ok_last h)
    rw [issC_snoc, awC_snoc, batC_snoc, cur_snoc]
    by_cases hn : has x n
    · simp only [hn, and_true, if_true]
      by_cases k0 : x.Kind = 0
      · have hc := h0 k0 n hn
        right; left
        refine ⟨x, rfl, k0, ?_⟩
        rcases ih with ⟨_, a, b, c⟩ | ⟨e, he, _⟩ | ⟨e, he, _⟩
        · simp [k0, a, b, c]
        · rw [hc] at he; cases he
        · rw [hc] at he; cases he
      · obtain ⟨e0, he0, hk0⟩ := h1 k0 n hn
        right; right
        refine ⟨x, rfl, k0, ?_⟩
        rcases ih with ⟨hc, _⟩ | ⟨e, he, _, a, b, c⟩ | ⟨e, he, hk, _⟩
        · rw [hc] at he0; cases he0
        · simp [k0, a, b, c]
        · rw [he0] at he; cases he; exact absurd hk0 hk
    · simp only [hn, and_false, if_false, Int.add_zero]
      exact ih

theorem once_loop1 {l : List ApiStampEvent} (n : Int) (hlen : l.length ≤ 40) (ho : AllOk errAt l) :
    loopM (b_wormtublaw12_BottleOnce_1 l n) (0, 0, 0, -1, 0) = some (issC l n, awC l n, issuedN l, batC l n) := by
  obtain ⟨t', k1, k2⟩ := loopM_pre (body := b_wormtublaw12_BottleOnce_1 l n) (fun i (t : Int × Int × Int × Int) => (t.1, t.2.1, t.2.2.1, t.2.2.2, (i : Int))) (fun t => (t.1, t.2.1, t.2.2.1, t.2.2.2)) (fun pre t => t = (issC pre n, awC pre n, issuedN pre, batC pre n)) l
    (fun pre x post t hl ht => by
      have hg := getEl_mid hl
      have hi := lt_mid hl
      have hpre : AllOk errAt pre := by rw [hl] at ho; exact ho.init
      have hx : okE x = true := (errAt_ok (ho pre x post hl)).1
      obtain ⟨hkind, _, x0, x1, x2⟩ := (okE_iff x).1 hx
      obtain ⟨b1, _, _, _⟩ := sums_ok pre hpre (by omega)
      obtain ⟨c1, c2⟩ := cnt_le pre n
      refine ⟨(issC (pre ++ [x]) n, awC (pre ++ [x]) n, issuedN (pre ++ [x]), batC (pre ++ [x]) n), ?_, rfl⟩
      subst ht
      unfold b_wormtublaw12_BottleOnce_1
      rw [issC_snoc, awC_snoc, issuedN_snoc, batC_snoc]
      simp only [idxL_nat, hg, Option.bind_some, bindv]
      rw [w64_id (n := (pre.length : Int) + 1) (by omega) (by omega), w64_id (n := issuedN pre + x.Last) (by omega) (by omega), w64_id (n := issuedN pre + x.Last - x.First) (by omega) (by omega), w64_id (n := issuedN pre + x.Last - x.First + 1) (by omega) (by omega), w64_id (n := issC pre n + 1) (by omega) (by omega), w64_id (n := awC pre n + 1) (by omega) (by omega)]
      simp only [show (decide ((pre.length : Int) < (l.length : Int))) = true by simpa using hi, if_true]
      have hsz : issuedN pre + x.Last - x.First + 1 = issuedN pre + sizeE x := by unfold sizeE; omega
      rw [hsz]
      have hhas : (decide (x.First ≤ n) && decide (n ≤ x.Last)) = decide (has x n) := by
        rw [Bool.eq_iff_iff, decide_eq_true_iff]
        simp only [Bool.and_eq_true, decide_eq_true_eq]; exact Iff.rfl
      rw [hhas]
      by_cases k0 : x.Kind = 0
      · by_cases hn : has x n <;> simp [k0, hn]
      · have kb : (x.Kind == 0) = false := by simpa using k0
        by_cases hn : has x n
        · by_cases k1 : x.Kind = 1
          · simp [k1, hn]
          · simp [k0, k1, hn]
        · simp [k0, hn])
    (fun t _ => by unfold b_wormtublaw12_BottleOnce_1; simp) l [] (0, 0, 0, -1) rfl rfl
  simp only [List.length_nil, Int.natCast_zero] at k2
  rw [k2, k1]

def heldC (s : List ApiSpan) (n : Int) : Int := (s.map fun y => if y.Lo ≤ n ∧ n ≤ y.Hi then 1 else 0).sum
theorem heldC_snoc (s : List ApiSpan) (y : ApiSpan) (n : Int) : heldC (s ++ [y]) n = heldC s n + if y.Lo ≤ n ∧ n ≤ y.Hi then 1 else 0 := by simp [heldC]
theorem heldC_norm (n : Int) : ∀ s : List ApiSpan, Norm s → (mem s n → heldC s n = 1) ∧ (¬ mem s n → heldC s n = 0)
  | [], _ => ⟨fun h => absurd h (mem_nil n), fun _ => rfl⟩
  | y :: s, h => by
    obtain ⟨h1, h2⟩ := heldC_norm n s h.tail
    have hap := (List.pairwise_cons.1 h.apart).1
    have e : heldC (y :: s) n = (if y.Lo ≤ n ∧ n ≤ y.Hi then 1 else 0) + heldC s n := by simp [heldC]
    rw [e, mem_cons]
    simp only [inS]
    by_cases hy : y.Lo ≤ n ∧ n ≤ y.Hi
    · have : ¬ mem s n := by
        rintro ⟨z, hz, hin⟩
        have := hap z hz
        simp only [inS] at hin; omega
      rw [if_pos hy, h2 this]
      exact ⟨fun _ => rfl, fun h => absurd (.inl hy) h⟩
    · rw [if_neg hy]
      constructor
      · intro hm
        rw [h1 (hm.resolve_left hy)]; rfl
      · intro hm
        rw [h2 fun k => hm (.inr k)]; rfl
theorem sizeS_snoc (s : List ApiSpan) (y : ApiSpan) : sizeS (s ++ [y]) = sizeS s + (y.Hi - y.Lo + 1) := by simp [sizeS]
theorem sizeS_le (s : List ApiSpan) : (∀ y ∈ s, 0 ≤ y.Lo ∧ y.Lo ≤ y.Hi ∧ y.Hi ≤ 1099511627776) → 0 ≤ sizeS s ∧ sizeS s ≤ 1099511627777 * s.length := by
  induction s using snoc_ind with
  | h0 => intro _; simp [sizeS]
  | hs s y ih =>
    intro h
    have hy := h y (by simp)
    have := ih fun z hz => h z (by simp [hz])
    rw [sizeS_snoc, List.length_append, List.length_singleton, Int.natCast_add, Int.natCast_one]
    omega
theorem heldC_le (s : List ApiSpan) (n : Int) : 0 ≤ heldC s n ∧ heldC s n ≤ s.length := by
  induction s using snoc_ind with
  | h0 => simp [heldC]
  | hs s y ih =>
    rw [heldC_snoc, List.length_append, List.length_singleton, Int.natCast_add, Int.natCast_one]
    split <;> omega

theorem once_loop2 {bk : ApiStampBook} {i e : Int} {sum0 : Int} (n : Int) (hn : Norm bk.Hand) (hlen : bk.Hand.length ≤ 100) (h0 : 0 ≤ sum0) (h1 : sum0 ≤ 1099511627777000) :
    loopM (b_wormtublaw12_BottleOnce_2 (bk, i, e) n) (0, sum0, 0) = some (.inl (heldC bk.Hand n, sum0 + sizeS bk.Hand)) := by
  obtain ⟨t', k1, k2⟩ := loopM_pre (body := b_wormtublaw12_BottleOnce_2 (bk, i, e) n) (fun i (t : Int × Int) => (t.1, t.2, (i : Int))) (fun t => .inl (t.1, t.2)) (fun pre t => t = (heldC pre n, sum0 + sizeS pre)) bk.Hand
    (fun pre x post t hl ht => by
      have hg := getEl_mid hl
      have hi := lt_mid hl
      have ox := hn.ok x (List.mem_of_getElem? hg)
      have hsz := sizeS_le pre fun y hy => hn.ok y (by rw [hl]; simp [hy])
      have hhd := heldC_le pre n
      refine ⟨(heldC (pre ++ [x]) n, sum0 + sizeS (pre ++ [x])), ?_, rfl⟩
      subst ht
      unfold b_wormtublaw12_BottleOnce_2
      rw [heldC_snoc, sizeS_snoc]
      simp only [idxL_nat, hg, Option.bind_some, bindv]
      rw [w64_id (n := (pre.length : Int) + 1) (by omega) (by omega), w64_id (n := heldC pre n + 1) (by omega) (by omega), w64_id (n := sum0 + sizeS pre + x.Hi) (by omega) (by omega), w64_id (n := sum0 + sizeS pre + x.Hi - x.Lo) (by omega) (by omega), w64_id (n := sum0 + sizeS pre + x.Hi - x.Lo + 1) (by omega) (by omega)]
      simp only [show (decide ((pre.length : Int) < (bk.Hand.length : Int))) = true by simpa using hi, if_true, show ¬ (x.Lo > x.Hi) by omega, decide_false, Bool.false_eq_true, if_false]
      have hprev : ((if decide ((pre.length : Int) > 0) = true then (idxL bk.Hand (w64 ((pre.length : Int) - 1))).bind fun x176 => some (decide (x.Lo ≤ w64 (x176.Hi + 1))) else some false) : Option Bool) = some false := by
        by_cases hp : (pre.length : Int) > 0
        · simp only [hp, decide_true, if_true]
          rw [w64_id (by omega) (by omega), show (pre.length : Int) - 1 = ((pre.length - 1 : Nat) : Int) by omega, idxL_nat]
          have hlt : pre.length - 1 < pre.length := by omega
          have hy : bk.Hand[pre.length - 1]? = some pre[pre.length - 1] := by
            rw [hl, List.getElem?_append_left hlt]; exact List.getElem?_eq_getElem hlt
          rw [hy]
          have oy := hn.ok _ (List.mem_of_getElem? hy)
          have hap := (hl ▸ hn : Norm (pre ++ x :: post)).split.2.2 pre[pre.length - 1] (List.getElem_mem hlt) x (by simp)
          simp only [Option.bind_some]
          rw [w64_id (by omega) (by omega)]
          simp only [show ¬ (x.Lo ≤ pre[pre.length - 1].Hi + 1) by omega, decide_false]
        · simp only [hp, decide_false, Bool.false_eq_true, if_false]
      rw [hprev]
      simp only [Option.bind_some, Bool.false_eq_true, if_false]
      have hs : sum0 + sizeS pre + x.Hi - x.Lo + 1 = sum0 + (sizeS pre + (x.Hi - x.Lo + 1)) := by omega
      rw [hs]
      by_cases hin : x.Lo ≤ n ∧ n ≤ x.Hi
      · simp [hin]
      · have : (decide (x.Lo ≤ n) && decide (n ≤ x.Hi)) = false := by
          rw [Bool.eq_false_iff]
          simp only [ne_eq, Bool.and_eq_true, decide_eq_true_eq]
          exact hin
        simp [hin, this])
    (fun t _ => by unfold b_wormtublaw12_BottleOnce_2; simp) bk.Hand [] (0, sum0) rfl (by simp [heldC, sizeS])
  simp only [List.length_nil, Int.natCast_zero] at k2
  rw [k2, k1]

theorem okAll' {l : List ApiStampEvent} (h : AllOk errAt l) : ∀ e n, cur l n = some e → e.Kind = 1 → 0 ≤ e.Batch := by
  intro e n
  induction l using snoc_ind with
  | h0 => intro he; cases he
  | hs l x ih =>
    intro he hk
    rw [cur_snoc] at he
    split at he
    · cases he
      have hx := (errAt_ok (ok_last h)).1
      exact (((okE_iff _).1 hx).2.1 hk).1
    · exact ih h.init he hk

theorem law_BottleOnce : LawBottleOnce := by
  intro l which near hl hw hn
  have hw' := wf_u8 hw
  have hn' := wf_i8 hn
  unfold m_wormtublaw12_BottleOnce
  split
  · simp only [awake_ok, Option.bind_some]
  · rename_i hg
    simp only [Bool.or_eq_true, decide_eq_true_eq, beq_iff_eq, not_or, Int.not_lt, gt_iff_lt] at hg
    rcases stamps_prog l (by omega) with ⟨p, x, hb, hr⟩ | ⟨ho, hd, n1, n2, n3, hr⟩
    · refine bind_of hr ?_
      obtain ⟨post, e, _, he⟩ := hb
      have hlt := lt_mid e
      simp [he, noBook, awake_ok, hlt]
    · refine bind_of hr ?_
      simp only [bne_self_eq_false, Bool.false_eq_true, if_false]
      have e1 : w64 which = which := w64_id (by omega) (by omega)
      have hq : remK which (l.length : Int) = some (which % l.length) := by
        unfold remK; rw [if_neg (by omega), Int.tmod_eq_emod_of_nonneg hw'.1]
      have q0 := Int.emod_nonneg which (show (l.length : Int) ≠ 0 by omega)
      have q1 := Int.emod_lt_of_pos which (show 0 < (l.length : Int) by omega)
      rw [e1]
      refine bind_of hq ?_
      obtain ⟨x, hx, hx2⟩ := idxL_lt q0 q1
      refine bind_of hx ?_
      simp only [bindv]
      generalize w64 (x.First + w64 near) = stamp
      refine bind_of (once_loop1 stamp (by omega) ho) ?_
      obtain ⟨s1, s2, s3, s4⟩ := sums_ok l ho (by omega)
      simp only
      have aw : 1099511627777 * (l.length : Int) ≤ 1099511627777 * 40 := Int.mul_le_mul_of_nonneg_left (by omega) (by omega)
      have e2 : w64 (w64 ((sumB l).Stuck + (sumB l).Spoiled) + (sumB l).Returned) = awayN l := by
        rw [w64_id (n := (sumB l).Stuck + (sumB l).Spoiled) (by omega) (by omega), w64_id (by omega) (by omega)]; omega
      rw [e2]
      have hl2 := once_loop2 (bk := { sumB l with Hand := hd }) (i := (l.length : Int)) (e := 0) (sum0 := awayN l) stamp n1 (by simp only; omega) (by omega) (by omega)
      refine bind_of hl2 ?_
      refine bind_of (whose_prog stamp (by omega) ho) ?_
      have hsize : sizeS hd = issuedN l - awayN l := by
        rw [← cnt_norm hd n1, cnt_congr n2, count_ok l ho]
      have hheld := heldC_norm stamp hd n1
      obtain ⟨c1, c2⟩ := cnt_le l stamp
      have hhl := heldC_le hd stamp
      simp only [hsize]
      have hall := okAll' ho
      unfold whoOf
      rcases one_ok stamp l ho with ⟨k1, k2, k3, k4⟩ | ⟨e, k1, k0, k2, k3, k4⟩ | ⟨e, k1, k0, k2, k3, k4⟩
      · have hm : ¬ mem hd stamp := fun h => by
          obtain ⟨e, he, _⟩ := (n2 stamp).1 h
          rw [k1] at he; cases he
        rw [k1, k2, k3, k4, hheld.2 hm]
        simp only [Option.filter]
        rw [w64_id (by omega) (by omega)]
        simp [awake_ok]
        omega
      · have hm : mem hd stamp := (n2 stamp).2 ⟨e, k1, k0⟩
        rw [k1, k2, k3, k4, hheld.1 hm]
        rw [w64_id (by omega) (by omega)]
        simp [awake_ok, Option.filter, k0]
        omega
      · have hm : ¬ mem hd stamp := fun h => by
          obtain ⟨e', he, hk⟩ := (n2 stamp).1 h
          rw [k1] at he; cases he; exact k0 hk
        rw [k1, k2, k3, k4, hheld.2 hm]
        rw [w64_id (by omega) (by omega)]
        by_cases kk : e.Kind = 1
        · have hb : 0 ≤ e.Batch := hall e stamp k1 kk
          simp [awake_ok, Option.filter, kk, hb, show ¬ e.Batch < 0 by omega]
          omega
        · simp [awake_ok, Option.filter, kk]
          omega

theorem bottleOnce_holds : Rows.BottleOnceSaid := said_BottleOnce law_BottleOnce
#print axioms bottleOnce_holds

end Go.Proofs.Ytbomfcghpajaiaa
