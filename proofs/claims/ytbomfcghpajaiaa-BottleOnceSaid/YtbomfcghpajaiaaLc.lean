/- Spans without some numbers; what the program's Stamps does. -/
import Derived.Test.YtbomfcghpajaiaaLb
namespace Go.Proofs.Ytbomfcghpajaiaa
open Go.Dec

theorem appO_some {α : Type} {l k : List α} (h : l.length + k.length ≤ 4294967296) : appO l k = some (l ++ k) := by
  unfold appO; rw [if_pos h]

theorem appO_one {α : Type} (x : α) : appO [] [x] = some [x] := by
  unfold appO; rw [if_pos (by simp)]; rfl
theorem mkO_zero {n : Int} (h0 : 0 ≤ n) (h : n ≤ 4294967296) : mkO 0 n = some 0 := by
  unfold mkO; rw [if_pos (by omega)]; simp only [Int.toNat_zero]
theorem without_spec {s : List ApiSpan} {x : ApiSpan} (hn : Norm s) (hl : s.length ≤ 1000) (hx : okS x) (hc : ∀ n, inS x n → mem s n) :
    ∃ s', m_bottle_spans_without s x = some s' ∧ Norm s' ∧ s'.length ≤ s.length + 1 ∧ ∀ n, mem s' n ↔ mem s n ∧ ¬ inS x n := by
  unfold m_bottle_spans_without
  have hx' := hx
  simp only [okS] at hx'
  obtain ⟨y0, hy0, hy1⟩ := (covers_iff hn hx'.2.1).2 hc
  generalize hf : (fun y => m_bottle_spans_without_1 y x) = f
  rw [show (fun z => some (m_bottle_spans_without_1 z x)) = fun z => some (f z) by rw [← hf]]
  rw [containsFunc_eq s f (by omega)]
  have hex : ∃ i, s.findIdx? f = some i := by
    cases h : s.findIdx? f with
    | some i => exact ⟨i, rfl⟩
    | none =>
      rw [List.findIdx?_eq_none_iff] at h
      have := h y0 hy0
      rw [← hf] at this
      simp [m_bottle_spans_without_1] at this
      omega
  obtain ⟨i, hi⟩ := hex
  rw [hi]
  rw [List.findIdx?_eq_some_iff_getElem] at hi
  obtain ⟨hlt, hfi, _⟩ := hi
  generalize hy : s[i] = y at hfi
  have hcov : y.Lo ≤ x.Lo ∧ x.Hi ≤ y.Hi := by
    rw [← hf] at hfi; simpa [m_bottle_spans_without_1] using hfi
  have hs : s = s.take i ++ y :: s.drop (i + 1) := by
    rw [← hy, ← List.drop_eq_getElem_cons hlt, List.take_append_drop]
  have hget : s[i]? = some y := by rw [← hy]; exact List.getElem?_eq_getElem hlt
  have oy := hn.ok y (List.mem_of_getElem? hget)
  simp only [Option.bind_some, idxL_nat, hget]
  rw [w64_id (n := x.Lo - 1) (by omega) (by omega), w64_id (n := x.Hi + 1) (by omega) (by omega), w64_id (n := (s.length : Int) + 1) (by omega) (by omega), w64_id (n := (i : Int) + 1) (by omega) (by omega)]
  have hm : mkO 0 ((s.length : Int) + 1) = some 0 := mkO_zero (by omega) (by omega)
  have hs0 : sliceL s 0 (i : Int) = some (s.take i) := by unfold sliceL; rw [if_pos (by omega)]; simp
  have hs1 : sliceL s ((i : Int) + 1) (s.length : Int) = some (s.drop (i + 1)) := by
    unfold sliceL; rw [if_pos (by omega)]
    rw [show ((i : Int) + 1).toNat = i + 1 by omega, List.take_of_length_le (by simp)]
  have ht : (s.take i).length = i := by simp; omega
  have hdl : (s.drop (i + 1)).length = s.length - (i + 1) := by simp
  generalize hta : s.take i = a at *
  generalize htb : s.drop (i + 1) = b at *
  obtain ⟨na, nyb, nab⟩ := (hs ▸ hn : Norm (a ++ y :: b)).split
  have nb := nyb.tail
  have yb := (List.pairwise_cons.1 nyb.apart).1
  generalize hl1 : (if x.Hi < y.Hi then [ApiSpan.mk (x.Hi + 1) y.Hi] else []) = pr
  generalize hl2 : (if y.Lo < x.Lo then [ApiSpan.mk y.Lo (x.Lo - 1)] else []) = pl
  have run : ((if decide (y.Lo < x.Lo) = true then (some y).bind fun x46 => (appO [] [ApiSpan.mk x46.Lo (x.Lo - 1)]).bind fun l_62 => some l_62 else some []) : Option (List ApiSpan)) = some pl := by
    rw [← hl2]
    by_cases h : y.Lo < x.Lo
    · simp only [h, decide_true, if_true, Option.bind_some, appO_one]
    · simp [h]
  have hpl : pl.length ≤ 1 := by rw [← hl2]; split <;> simp
  have hpr : pr.length ≤ 1 := by rw [← hl1]; split <;> simp
  have run2 : ((if decide (x.Hi < y.Hi) = true then (some y).bind fun x140 => (appO pl [ApiSpan.mk (x.Hi + 1) x140.Hi]).bind fun l_156 => some l_156 else some pl) : Option (List ApiSpan)) = some (pl ++ pr) := by
    rw [← hl1]
    by_cases h : x.Hi < y.Hi
    · simp only [h, decide_true, if_true, Option.bind_some]
      rw [appO_some (by simp only [List.length_cons, List.length_nil]; omega)]; simp only [Option.bind_some]
    · simp [h]
  simp only [Option.bind_some] at run run2
  suffices hrun : ∀ z, z = a ++ (pl ++ pr) ++ b → ∃ s', some z = some s' ∧ Norm s' ∧ s'.length ≤ s.length + 1 ∧ ∀ n, mem s' n ↔ mem s n ∧ ¬ inS x n by
    refine Exists.imp (fun s' h => ⟨Eq.trans ?_ h.1, h.2⟩) (hrun _ rfl)
    refine bind_of run (bind_of run2 (bind_of hm (bind_of hs0 (bind_of (a := a) ?_ (bind_of (a := a ++ (pl ++ pr)) ?_ (bind_of hs1 (bind_of (a := a ++ (pl ++ pr) ++ b) ?_ rfl)))))))
    · rw [List.replicate_zero, appO_some (by simp only [List.length_nil]; omega)]; rfl
    · exact appO_some (by simp only [List.length_append]; omega)
    · exact appO_some (by simp only [List.length_append]; omega)
  intro z hz
  subst hz
  have mpl : ∀ n, mem pl n ↔ y.Lo ≤ n ∧ n < x.Lo := by
    intro n; rw [← hl2]
    split
    · simp only [mem_cons, mem_nil, or_false, inS]; omega
    · simp only [mem_nil, false_iff]; omega
  have mpr : ∀ n, mem pr n ↔ x.Hi < n ∧ n ≤ y.Hi := by
    intro n; rw [← hl1]
    split
    · simp only [mem_cons, mem_nil, or_false, inS]; omega
    · simp only [mem_nil, false_iff]; omega
  have npl : Norm pl := by
    rw [← hl2]; split
    · exact Norm.nil.mk_cons (by simp only; omega) (by simp)
    · exact Norm.nil
  have npr : Norm pr := by
    rw [← hl1]; split
    · exact Norm.nil.mk_cons (by simp only; omega) (by simp)
    · exact Norm.nil
  have bpl : ∀ z ∈ pl, z.Lo = y.Lo ∧ z.Hi = x.Lo - 1 := by
    intro z hz; rw [← hl2] at hz; split at hz
    · simp at hz; subst hz; simp
    · simp at hz
  have bpr : ∀ z ∈ pr, z.Lo = x.Hi + 1 ∧ z.Hi = y.Hi := by
    intro z hz; rw [← hl1] at hz; split at hz
    · simp at hz; subst hz; simp
    · simp at hz
  refine ⟨_, rfl, ?_, ?_, fun n => ?_⟩
  · refine ((na.append (npl.append npr ?_) ?_).append nb ?_)
    · intro p hp q hq
      have := bpl p hp; have := bpr q hq; omega
    · intro p hp q hq
      have h1 := nab p hp y (by simp)
      rcases List.mem_append.1 hq with hq | hq
      · have := bpl q hq; omega
      · have := bpr q hq; omega
    · intro p hp q hq
      have h1 := yb q hq
      rcases List.mem_append.1 hp with hp | hp
      · exact nab p hp q (by simp [hq])
      · rcases List.mem_append.1 hp with hp | hp
        · have := bpl p hp; omega
        · have := bpr p hp; omega
  · simp only [List.length_append]; omega
  · rw [mem_append, mem_append, mem_append, mpl, mpr, hs, mem_append, mem_cons]
    simp only [inS]
    constructor
    · rintro ((h | h | h) | h)
      · refine ⟨.inl h, ?_⟩
        obtain ⟨z, hz, hm⟩ := h
        have := nab z hz y (by simp)
        simp only [inS] at hm; omega
      · exact ⟨.inr (.inl (by omega)), by omega⟩
      · exact ⟨.inr (.inl (by omega)), by omega⟩
      · refine ⟨.inr (.inr h), ?_⟩
        obtain ⟨z, hz, hm⟩ := h
        have := yb z hz
        simp only [inS] at hm; omega
    · rintro ⟨h | h | h, hno⟩
      · exact .inl (.inl h)
      · by_cases hlt : n < x.Lo
        · exact .inl (.inr (.inl ⟨h.1, hlt⟩))
        · exact .inl (.inr (.inr ⟨by omega, h.2⟩))
      · exact .inr h

/-! ### Events -/
def has (e : ApiStampEvent) (n : Int) : Prop := e.First ≤ n ∧ n ≤ e.Last
instance (e : ApiStampEvent) (n : Int) : Decidable (has e n) := by unfold has; infer_instance
/-- The last of some events that a stamp is in. -/
def cur : List ApiStampEvent → Int → Option ApiStampEvent := fun l n => l.foldl (fun o e => if has e n then some e else o) none
def hand (l : List ApiStampEvent) (n : Int) : Prop := ∃ e, cur l n = some e ∧ e.Kind = 0
theorem cur_nil (n : Int) : cur [] n = none := rfl
theorem cur_snoc (l : List ApiStampEvent) (e : ApiStampEvent) (n : Int) : cur (l ++ [e]) n = if has e n then some e else cur l n := by simp [cur]
theorem hand_snoc (l : List ApiStampEvent) (e : ApiStampEvent) (n : Int) : hand (l ++ [e]) n ↔ if has e n then e.Kind = 0 else hand l n := by
  unfold hand
  rw [cur_snoc]
  split <;> simp

def okE (x : ApiStampEvent) : Bool := m_bottle_isStamp x
theorem okE_iff (x : ApiStampEvent) : okE x = true ↔ (0 ≤ x.Kind ∧ x.Kind ≤ 3) ∧ (x.Kind = 1 → 0 ≤ x.Batch ∧ x.Batch ≤ 1073741824) ∧ 0 ≤ x.First ∧ x.First ≤ x.Last ∧ x.Last ≤ 1099511627776 := by
  simp only [okE, m_bottle_isStamp, m_bottle_within, m_bottle_isSpan, Bool.and_eq_true, Bool.or_eq_true, decide_eq_true_eq, bne_iff_ne, ne_eq]
  constructor
  · rintro ⟨⟨h1, h2⟩, h3⟩
    refine ⟨by omega, fun h => ?_, by omega⟩
    rcases h2 with h2 | h2
    · exact absurd h h2
    · omega
  · rintro ⟨h1, h2, h3⟩
    refine ⟨⟨by omega, ?_⟩, by omega⟩
    by_cases h : x.Kind = 1
    · right; have := h2 h; omega
    · left; exact h

open Classical in
/-- Why an event is refused behind some others; 0: it is not. -/
noncomputable def errAt (pre : List ApiStampEvent) (x : ApiStampEvent) : Int :=
  if okE x = false then 1 else if x.Kind = 0 ∧ ∃ n, has x n ∧ cur pre n ≠ none then 5 else if x.Kind ≠ 0 ∧ ∃ n, has x n ∧ ¬ hand pre n then 4 else 0

structure Inv (pre : List ApiStampEvent) (t : ApiStampBook × BottlePile × Int) : Prop where
  ni : Norm t.2.1.issued
  nh : Norm t.2.1.hand
  li : t.2.1.issued.length ≤ pre.length
  lh : t.2.1.hand.length ≤ pre.length
  mi : ∀ n, mem t.2.1.issued n ↔ cur pre n ≠ none
  mh : ∀ n, mem t.2.1.hand n ↔ hand pre n

def amount (x : ApiStampEvent) : Int := w64 (w64 (x.Last - x.First) + 1)
def addB (b : ApiStampBook) (x : ApiStampEvent) : ApiStampBook :=
  if x.Kind = 1 then { b with Stuck := w64 (b.Stuck + amount x) } else if x.Kind = 2 then { b with Spoiled := w64 (b.Spoiled + amount x) } else if x.Kind = 3 then { b with Returned := w64 (b.Returned + amount x) } else b
def sumB : List ApiStampEvent → ApiStampBook := fun l => l.foldl addB (ApiStampBook.mk [] 0 0 0)
theorem sumB_snoc (l : List ApiStampEvent) (x : ApiStampEvent) : sumB (l ++ [x]) = addB (sumB l) x := by simp [sumB]

theorem stamps_step {l pre post : List ApiStampEvent} {x : ApiStampEvent} {t : ApiStampBook × BottlePile × Int} (hl : l = pre ++ x :: post) (h256 : l.length ≤ 256) (hI : Inv pre t) (hB : t.1 = sumB pre) :
    (errAt pre x ≠ 0 ∧ b_bottle_Stamps_1 l ((pre.length : Int), t) = some (.done (.inr (ApiStampBook.mk [] 0 0 0, (pre.length : Int), errAt pre x)))) ∨
    (errAt pre x = 0 ∧ ∃ t', b_bottle_Stamps_1 l ((pre.length : Int), t) = some (.next (((pre.length + 1 : Nat) : Int), t')) ∧ Inv (pre ++ [x]) t' ∧ t'.1 = sumB (pre ++ [x])) := by
  have hget : l[pre.length]? = some x := by rw [hl]; simp
  have hlen : pre.length < l.length := by rw [hl]; simp
  unfold b_bottle_Stamps_1
  simp only [idxL_nat, hget, Option.bind_some, show (decide ((pre.length : Int) < (l.length : Int))) = true by simpa using hlen, if_true]
  by_cases hok : okE x = true
  · have hok' : m_bottle_isStamp x = true := hok
    obtain ⟨hk, _, hx0, hx1, hx2⟩ := (okE_iff x).1 hok
    have hxs : okS (ApiSpan.mk x.First x.Last) := ⟨hx0, hx1, hx2⟩
    have hin : ∀ n, inS (ApiSpan.mk x.First x.Last) n ↔ has x n := fun n => Iff.rfl
    have l1 := hI.li; have l2 := hI.lh
    simp only [hok', Bool.not_true, Bool.false_eq_true, if_false]
    rw [w64_id (n := (pre.length : Int) + 1) (by omega) (by omega)]
    by_cases hk0 : x.Kind = 0
    · -- issued
      obtain ⟨bo, ho, hb⟩ := overlaps_eq (s := t.2.1.issued) (x := ApiSpan.mk x.First x.Last) (by omega) hI.ni hx1
      simp only [hk0, beq_self_eq_true, if_true, ho, Option.bind_some]
      cases hbo : bo with
      | true =>
        left
        have : errAt pre x = 5 := by
          unfold errAt
          rw [if_neg (by simp [hok]), if_pos]
          refine ⟨hk0, ?_⟩
          obtain ⟨n, h1, h2⟩ := hb.1 hbo
          exact ⟨n, h1, (hI.mi n).1 h2⟩
        rw [this]; simp
      | false =>
        right
        have hno : ¬ ∃ n, inS (ApiSpan.mk x.First x.Last) n ∧ mem t.2.1.issued n := fun h => by have := hb.2 h; rw [hbo] at this; cases this
        have herr : errAt pre x = 0 := by
          unfold errAt
          rw [if_neg (by simp [hok]), if_neg, if_neg (by simp [hk0])]
          rintro ⟨_, n, h1, h2⟩
          exact hno ⟨n, h1, (hI.mi n).2 h2⟩
        obtain ⟨s1, e1, n1, len1, m1⟩ := with_spec hI.ni (by omega) hxs
        obtain ⟨s2, e2, n2, len2, m2⟩ := with_spec hI.nh (by omega) hxs
        simp only [Bool.false_eq_true, if_false, e1, e2, Option.bind_some, bindv]
        refine ⟨herr, _, rfl, ⟨n1, n2, by simp; omega, by simp; omega, fun n => ?_, fun n => ?_⟩, ?_⟩
        · rw [m1, cur_snoc, hI.mi, hin]
          split <;> simp_all
        · rw [m2, hand_snoc, hI.mh, hin]
          split <;> simp_all
        · rw [sumB_snoc]
          simp only [addB, hk0]
          simpa using hB
    · -- stuck, spoiled, returned
      have hkb : (x.Kind == 0) = false := by simpa using hk0
      simp only [hkb, Bool.false_eq_true, if_false, Option.bind_some]
      obtain ⟨bo, ho, hb⟩ := covers_eq (s := t.2.1.hand) (x := ApiSpan.mk x.First x.Last) (by omega) hI.nh hx1
      simp only [ho, Option.bind_some]
      cases hbo : bo with
      | false =>
        left
        have hno : ¬ ∀ n, inS (ApiSpan.mk x.First x.Last) n → mem t.2.1.hand n := fun h => by have := hb.2 h; rw [hbo] at this; cases this
        have : errAt pre x = 4 := by
          unfold errAt
          rw [if_neg (by simp [hok]), if_neg (by simp [hk0]), if_pos]
          refine ⟨hk0, ?_⟩
          obtain ⟨n, hn⟩ := Classical.not_forall.1 hno
          obtain ⟨h1, h2⟩ := Classical.not_imp.1 hn
          exact ⟨n, h1, fun h3 => h2 ((hI.mh n).2 h3)⟩
        rw [this]; simp
      | true =>
        right
        have hall := hb.1 hbo
        have herr : errAt pre x = 0 := by
          unfold errAt
          rw [if_neg (by simp [hok]), if_neg (by simp [hk0]), if_neg]
          rintro ⟨_, n, h1, h2⟩
          exact h2 ((hI.mh n).1 (hall n h1))
        obtain ⟨s2, e2, n2, len2, m2⟩ := without_spec hI.nh (by omega) hxs hall
        simp only [Bool.not_true, Bool.false_eq_true, if_false, e2, Option.bind_some, bindv]
        have hcur : ∀ n, has x n → cur pre n ≠ none := fun n h => by
          have := (hI.mh n).1 (hall n h)
          obtain ⟨e, he, _⟩ := this
          rw [he]; simp
        have inv' : ∀ (b : ApiStampBook) (z : Int), Inv (pre ++ [x]) (b, { t.2.1 with hand := s2 }, z) := fun b z => by
          refine ⟨hI.ni, n2, by simp; omega, by simp; omega, fun n => ?_, fun n => ?_⟩
          · show mem t.2.1.issued n ↔ _
            rw [cur_snoc, hI.mi]
            split
            · rename_i h; simp [hcur n h]
            · rfl
          · show mem s2 n ↔ _
            rw [m2, hand_snoc, hI.mh, hin]
            split
            · rename_i h; simp [h, hk0]
            · rename_i h; simp [h]
        have hcase : x.Kind = 1 ∨ x.Kind = 2 ∨ x.Kind = 3 := by omega
        rcases hcase with hk1 | hk1 | hk1
        · simp only [hk1, show idxO 4 1 = some 1 from rfl, Option.bind_some, show ((1 : Nat) == 0) = false from rfl, Bool.false_eq_true, if_false, beq_self_eq_true, if_true]
          exact ⟨herr, _, rfl, inv' _ _, by rw [sumB_snoc, ← hB]; simp [addB, hk1, amount]⟩
        · simp only [hk1, show idxO 4 2 = some 2 from rfl, Option.bind_some, show ((2 : Nat) == 0) = false from rfl, show ((2 : Nat) == 1) = false from rfl, Bool.false_eq_true, if_false, beq_self_eq_true, if_true]
          exact ⟨herr, _, rfl, inv' _ _, by rw [sumB_snoc, ← hB]; simp [addB, hk1, amount]⟩
        · simp only [hk1, show idxO 4 3 = some 3 from rfl, Option.bind_some, show ((3 : Nat) == 0) = false from rfl, show ((3 : Nat) == 1) = false from rfl, show ((3 : Nat) == 2) = false from rfl, Bool.false_eq_true, if_false]
          exact ⟨herr, _, rfl, inv' _ _, by rw [sumB_snoc, ← hB]; simp [addB, hk1, amount]⟩
  · left
    have hok' : m_bottle_isStamp x = false := by simpa [okE] using hok
    have : errAt pre x = 1 := by unfold errAt; rw [if_pos (by simpa using hok)]
    rw [this]
    simp [hok']

end Go.Proofs.Ytbomfcghpajaiaa
