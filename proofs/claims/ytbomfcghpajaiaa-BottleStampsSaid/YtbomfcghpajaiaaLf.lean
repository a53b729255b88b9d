/- The document's hand as spans, and its Stamps. -/
import Derived.Test.YtbomfcghpajaiaaLe
namespace Go.Proofs.Ytbomfcghpajaiaa
open Go.Dec

/-! ### next -/
open Classical in
theorem next_eq (l : List ApiStampEvent) (above : Int) (is : Bool) (h : l.length ≤ 256) (hok : ∀ e ∈ l, okE e = true) (h0 : -1 ≤ above) (h1 : above ≤ 1099511627777) :
    ∃ at_ t, EndsIs l (above + 1) 1099511627777 at_ ∧ m_wormtubref12_next l above is = some t ∧
      ((t = -1 ∧ ∀ a ∈ at_, decide (hand l a) ≠ is) ∨ (t ∈ at_ ∧ decide (hand l t) = is ∧ ∀ a ∈ at_, decide (hand l a) = is → t ≤ a)) := by
  obtain ⟨at_, he, hE⟩ := ends_eq l (above + 1) 1099511627777 h hok
  have hpos : ∀ a ∈ at_, 0 ≤ a := fun a ha => by have := hE.bd a ha; omega
  have hlen := hE.len
  obtain ⟨t', k1, k2⟩ := loopM_pre (body := b_wormtubref12_next_1 l is at_) (fun i (t : Int) => (t, (i : Int))) (fun t => t) (fun pre t => (t = -1 ∧ ∀ a ∈ pre, decide (hand l a) ≠ is) ∨ (t ∈ pre ∧ decide (hand l t) = is ∧ ∀ a ∈ pre, decide (hand l a) = is → t ≤ a)) at_
    (fun pre x post t hl ht => by
      have hg := getEl_mid hl
      have hi := lt_mid hl
      have hx := hpos x (List.mem_of_getElem? hg)
      have ht0 : t = -1 ∨ 0 ≤ t := by
        rcases ht with ht | ht
        · exact .inl ht.1
        · exact .inr (hpos t (by rw [hl]; simp [ht.1]))
      unfold b_wormtubref12_next_1
      simp only [idxL_nat, hg, Option.bind_some, bindv]
      rw [w64_id (by omega) (by omega), hand_eq l x h]
      simp only [show (decide ((pre.length : Int) < (at_.length : Int))) = true by simpa using hi, if_true, Option.bind_some]
      by_cases hc : decide (hand l x) = is
      · by_cases hlt : t < 0 ∨ x < t
        · refine ⟨x, ?_, .inr ⟨by simp, hc, fun a ha hia => ?_⟩⟩
          · by_cases h3 : t < 0
            · simp [hc, h3]
            · have : x < t := by omega
              simp [hc, h3, this]
          · rcases List.mem_append.1 ha with ha | ha
            · rcases ht with ht | ht
              · exact absurd hia (ht.2 a ha)
              · have := ht.2.2 a ha hia; have := hpos t (by rw [hl]; simp [ht.1]); omega
            · simp only [List.mem_singleton] at ha; omega
        · refine ⟨t, ?_, ?_⟩
          · have h3 : ¬ t < 0 := fun h => hlt (.inl h)
            have h4 : ¬ x < t := fun h => hlt (.inr h)
            simp [hc, h3, h4]
          · rcases ht with ht | ht
            · exact absurd (.inl (by omega)) hlt
            · refine .inr ⟨by simp [ht.1], ht.2.1, fun a ha hia => ?_⟩
              rcases List.mem_append.1 ha with ha | ha
              · exact ht.2.2 a ha hia
              · simp only [List.mem_singleton] at ha; omega
      · refine ⟨t, ?_, ?_⟩
        · have : (decide (hand l x) == is) = false := by simpa using hc
          simp [this]
        · rcases ht with ht | ht
          · refine .inl ⟨ht.1, fun a ha => ?_⟩
            rcases List.mem_append.1 ha with ha | ha
            · exact ht.2 a ha
            · simp only [List.mem_singleton] at ha; subst ha; exact hc
          · refine .inr ⟨by simp [ht.1], ht.2.1, fun a ha hia => ?_⟩
            rcases List.mem_append.1 ha with ha | ha
            · exact ht.2.2 a ha hia
            · simp only [List.mem_singleton] at ha; subst ha; exact absurd hia hc)
    (fun t _ => by unfold b_wormtubref12_next_1; simp) at_ [] (-1) rfl (.inl ⟨rfl, by simp⟩)
  simp only [List.length_nil, Int.natCast_zero] at k2
  refine ⟨at_, t', hE, ?_, k1⟩
  unfold m_wormtubref12_next
  rw [w64_id (by omega) (by omega), he]
  simp only [Option.bind_some, bindv]
  rw [k2]; rfl

theorem hand_congr {l : List ApiStampEvent} {a n : Int} (h : cur l a = cur l n) : hand l a ↔ hand l n := by unfold hand; rw [h]

open Classical in
theorem next_found {l : List ApiStampEvent} {above n0 : Int} {is : Bool} (h : l.length ≤ 256) (hok : ∀ e ∈ l, okE e = true) (h0 : -1 ≤ above) (h1 : above < n0) (h2 : n0 ≤ 1099511627777) (h3 : decide (hand l n0) = is) (h4 : ∀ n, above < n → n < n0 → decide (hand l n) ≠ is) :
    m_wormtubref12_next l above is = some n0 := by
  obtain ⟨at_, t, hE, hr, ht⟩ := next_eq l above is h hok h0 (by omega)
  obtain ⟨a, ha, han, hfa, hc⟩ := ends_rep hE (n := n0) (by omega) h2
  have hha : decide (hand l a) = is := by rw [← h3]; exact decide_eq_decide.2 (hand_congr hc)
  have hae : a = n0 := by
    apply Classical.byContradiction
    intro hne
    exact h4 a (by omega) (by omega) hha
  subst hae
  rcases ht with ht | ⟨ht1, ht2, ht3⟩
  · exact absurd hha (ht.2 a ha)
  · have := ht3 a ha hha
    have hb := hE.bd t ht1
    have : t = a := by
      apply Classical.byContradiction
      intro hne
      exact h4 t (by omega) (by omega) ht2
    rw [hr, this]
open Classical in
theorem next_none {l : List ApiStampEvent} {above : Int} {is : Bool} (h : l.length ≤ 256) (hok : ∀ e ∈ l, okE e = true) (h0 : -1 ≤ above) (h1 : above ≤ 1099511627777) (h4 : ∀ n, above < n → decide (hand l n) ≠ is) :
    m_wormtubref12_next l above is = some (-1) := by
  obtain ⟨at_, t, hE, hr, ht⟩ := next_eq l above is h hok h0 h1
  rcases ht with ht | ⟨ht1, ht2, _⟩
  · rw [hr, ht.1]
  · have hb := hE.bd t ht1
    exact absurd ht2 (h4 t (by omega))

/-! ### held -/
def nxt : List ApiSpan → Int
  | [] => -1
  | s :: _ => s.Lo
theorem next_true {l : List ApiStampEvent} {pre post : List ApiSpan} {above : Int} (h : l.length ≤ 256) (hok : ∀ e ∈ l, okE e = true) (hn : Norm (pre ++ post)) (hm : ∀ n, mem (pre ++ post) n ↔ hand l n) (h0 : -1 ≤ above) (h1 : above ≤ 1099511627777)
    (hp : ∀ y ∈ pre, y.Hi ≤ above) (hq : ∀ y ∈ post, above < y.Lo) : m_wormtubref12_next l above true = some (nxt post) := by
  have hgt : ∀ n, above < n → hand l n → mem post n := by
    intro n hn hh
    rcases (mem_append _ _ _).1 ((hm n).2 hh) with ⟨y, hy, hin⟩ | hm
    · have := hp y hy
      simp only [inS] at hin; omega
    · exact hm
  cases post with
  | nil =>
    refine next_none h hok h0 h1 fun n hn => ?_
    simp only [ne_eq, decide_eq_true_eq]
    exact fun hh => mem_nil n (hgt n hn hh)
  | cons s post =>
    have os := hn.ok s (by simp)
    have hap := (List.pairwise_cons.1 hn.split.2.1.apart).1
    refine next_found h hok h0 (hq s (by simp)) (by show s.Lo ≤ _; omega) ?_ fun n hn1 hn2 => ?_
    · simp only [decide_eq_true_eq]
      exact (hm _).1 ⟨s, by simp, by simp only [inS, nxt]; omega⟩
    · simp only [ne_eq, decide_eq_true_eq]
      intro hh
      obtain ⟨y, hy, hin⟩ := hgt n hn1 hh
      simp only [inS] at hin
      simp only [nxt] at hn2
      rcases List.mem_cons.1 hy with rfl | hy
      · omega
      · have := hap y hy; omega

theorem held_eq {l : List ApiStampEvent} {hd : List ApiSpan} (h : l.length ≤ 256) (hok : ∀ e ∈ l, okE e = true) (hn : Norm hd) (hm : ∀ n, mem hd n ↔ hand l n) (hlen : hd.length ≤ 256) : m_wormtubref12_held l = some hd := by
  unfold m_wormtubref12_held
  have h0 : m_wormtubref12_next l (-1) true = some (nxt hd) :=
    next_true (pre := []) (post := hd) h hok hn hm (by omega) (by omega) (by simp) (fun y hy => by have := hn.ok y hy; omega)
  refine bind_of h0 ?_
  obtain ⟨t', k1, k2⟩ := loopM_pre (body := b_wormtubref12_held_1 l) (fun i (t : List ApiSpan) => (t, nxt (hd.drop i))) (fun t => t) (fun pre t => t = pre) hd
    (fun pre x post t hl ht => by
      subst ht
      have hg := getEl_mid hl
      have hi := lt_mid hl
      have ox := hn.ok x (List.mem_of_getElem? hg)
      have hd0 : hd.drop t.length = x :: post := by rw [hl]; simp
      have hd1 : hd.drop (t.length + 1) = post := by rw [hl, ← List.drop_drop, List.drop_left]; rfl
      obtain ⟨np, nxp, hpx⟩ := (hl ▸ hn : Norm (t ++ x :: post)).split
      have hxp := (List.pairwise_cons.1 nxp.apart).1
      have hn1 : m_wormtubref12_next l x.Lo false = some (x.Hi + 1) := by
        refine next_found h hok (by omega) (by omega) (by omega) ?_ fun n h1 h2 => ?_
        · simp only [decide_eq_false_iff_not]
          intro hh
          obtain ⟨y, hy, hin⟩ := (hm _).2 hh
          simp only [inS] at hin
          rw [hl] at hy
          rcases List.mem_append.1 hy with hy | hy
          · have := hpx y hy x (by simp); omega
          · rcases List.mem_cons.1 hy with rfl | hy
            · omega
            · have := hxp y hy; omega
        · have : hand l n := (hm n).1 ⟨x, List.mem_of_getElem? hg, by simp only [inS]; omega⟩
          simp [this]
      have hn2 : m_wormtubref12_next l (x.Hi + 1) true = some (nxt post) := by
        have hn' : Norm ((t ++ [x]) ++ post) := by rw [List.append_assoc]; exact hl ▸ hn
        refine next_true (pre := t ++ [x]) (post := post) h hok hn' (fun n => ?_) (by omega) (by omega) (fun y hy => ?_) (fun y hy => hxp y hy)
        · rw [← hm n, hl]; simp
        · rcases List.mem_append.1 hy with hy | hy
          · have := hpx y hy x (by simp); omega
          · simp only [List.mem_singleton] at hy; subst hy; omega
      refine ⟨t ++ [x], ?_, rfl⟩
      unfold b_wormtubref12_held_1
      rw [hd0, hd1]
      simp only [nxt]
      simp only [show (x.Lo ≥ 0) by omega, decide_true, if_true]
      refine bind_of hn1 (bind_of (a := t ++ [x]) ?_ (bind_of hn2 rfl))
      rw [w64_id (by omega) (by omega), show x.Hi + 1 - 1 = x.Hi by omega]
      exact appO_some (by simp only [List.length_cons, List.length_nil]; omega))
    (fun t _ => by unfold b_wormtubref12_held_1; rw [List.drop_length]; simp [nxt]) hd [] [] rfl rfl
  simp only [List.length_nil, List.drop_zero] at k2
  refine bind_of k2 ?_
  rw [k1]

/-! ### Stamps -/
theorem okAll {l : List ApiStampEvent} (h : AllOk errAt l) : ∀ e ∈ l, okE e = true := by
  intro e he
  obtain ⟨s, t, rfl⟩ := List.append_of_mem he
  exact (errAt_ok (h s e t rfl)).1

open Classical in
theorem inner_eq {l pre post : List ApiStampEvent} {x : ApiStampEvent} {b : ApiStampBook} {at_ : List Int} (hl : l = pre ++ x :: post) (h : l.length ≤ 256) (hat : at_.length ≤ 600) :
    loopM (b_wormtubref12_Stamps_2 l ((pre.length : Int), b) x at_) 0 = some (if at_.any (fun a => if x.Kind = 0 then decide (cur pre a ≠ none) else !decide (hand pre a)) then .inr (noBook, (pre.length : Int), if x.Kind = 0 then 5 else 4) else .inl ()) := by
  have hi := lt_mid hl
  have hs : sliceL l 0 (pre.length : Int) = some pre := by
    unfold sliceL; rw [if_pos (by omega)]; simp [take_mid hl]
  have key := loop_list (body := b_wormtubref12_Stamps_2 l ((pre.length : Int), b) x at_) (fun (_ : Unit) i => (i : Int)) (fun _ _ a => if (if x.Kind = 0 then decide (cur pre a ≠ none) else !decide (hand pre a)) then some (.done (.inr (noBook, (pre.length : Int), if x.Kind = 0 then 5 else 4))) else some (.next ())) (fun _ => .inl ()) at_
    (fun t i a ha => by
      have hi := lt_of_getEl ha
      unfold b_wormtubref12_Stamps_2
      simp only [idxL_nat, ha, Option.bind_some, hs, bindv]
      rw [w64_id (by omega) (by omega), hand_eq pre a (by omega), last_eq pre a (by omega)]
      simp only [show (decide ((i : Int) < (at_.length : Int))) = true by simpa using hi, if_true, Option.bind_some]
      by_cases hk : x.Kind = 0
      · have hbad : decide (lastI pre a ≥ 0) = decide (cur pre a ≠ none) := by
          rcases lastI_cur a pre with ⟨h1, h2⟩ | ⟨k, e, h1, h2, h3, h4⟩
          · rw [h1, h2]; simp
          · rw [h1, h4]; simp
        simp only [hk, beq_self_eq_true, if_true, Option.bind_some, hbad]
        by_cases hb : cur pre a ≠ none
        · simp [hb, Ctl.mapN, noBook]
        · simp [hb, Ctl.mapN]
      · have hkb : (x.Kind == 0) = false := by simpa using hk
        have hkc : (x.Kind != 0) = true := by simpa using hk
        simp only [hkb, hkc, hk, Bool.false_eq_true, if_false, Option.bind_some, if_true]
        by_cases hb : hand pre a
        · simp [hb, Ctl.mapN]
        · simp [hb, Ctl.mapN, noBook])
    (fun t => by unfold b_wormtubref12_Stamps_2; simp) ()
  simp only [Int.natCast_zero] at key
  rw [key, goL_any]

theorem ref_step {l pre post : List ApiStampEvent} {x : ApiStampEvent} (hl : l = pre ++ x :: post) (h : l.length ≤ 256) (ho : AllOk errAt pre) :
    (errAt pre x ≠ 0 ∧ b_wormtubref12_Stamps_1 l ((pre.length : Int), sumB pre) = some (.done (.inr (noBook, (pre.length : Int), errAt pre x)))) ∨
    (errAt pre x = 0 ∧ b_wormtubref12_Stamps_1 l ((pre.length : Int), sumB pre) = some (.next (((pre.length + 1 : Nat) : Int), sumB (pre ++ [x])))) := by
  classical
  have hg := getEl_mid hl
  have hi := lt_mid hl
  have hs : sliceL l 0 (pre.length : Int) = some pre := by
    unfold sliceL; rw [if_pos (by omega)]; simp [take_mid hl]
  unfold b_wormtubref12_Stamps_1
  simp only [idxL_nat, hg, Option.bind_some, hs, ev_eq]
  simp only [show (decide ((pre.length : Int) < (l.length : Int))) = true by simpa using hi, if_true]
  by_cases hok : okE x = true
  · obtain ⟨_, _, hx0, hx1, hx2⟩ := (okE_iff x).1 hok
    obtain ⟨at_, he, hE⟩ := ends_eq pre x.First x.Last (by omega) (okAll ho)
    have hlen := hE.len
    have hin := inner_eq (b := sumB pre) hl h (at_ := at_) (by omega)
    simp only [hok, Bool.not_true, Bool.false_eq_true, if_false, he, hin, Option.bind_some]
    have hrep : ∀ n, has x n → ∃ a ∈ at_, has x a ∧ cur pre a = cur pre n := fun n hn => by
      obtain ⟨a, ha, h1, h2, h3⟩ := ends_rep hE hn.1 hn.2
      exact ⟨a, ha, ⟨h2, by have := hn.2; omega⟩, h3⟩
    have hbk : ∀ a ∈ at_, has x a := fun a ha => by
      have := hE.bd a ha
      simp only [has]; omega
    by_cases hbad : at_.any (fun a => if x.Kind = 0 then decide (cur pre a ≠ none) else !decide (hand pre a)) = true
    · left
      rw [List.any_eq_true] at hbad
      obtain ⟨a, ha, hb⟩ := hbad
      have herr : errAt pre x = if x.Kind = 0 then 5 else 4 := by
        unfold errAt
        rw [if_neg (by simp [hok])]
        by_cases hk : x.Kind = 0
        · rw [if_pos hk] at hb
          rw [if_pos ⟨hk, a, hbk a ha, by simpa using hb⟩, if_pos hk]
        · rw [if_neg hk] at hb
          rw [if_neg (fun h => hk h.1), if_pos ⟨hk, a, hbk a ha, by simpa using hb⟩, if_neg hk]
      have hany : at_.any (fun a => if x.Kind = 0 then decide (cur pre a ≠ none) else !decide (hand pre a)) = true := List.any_eq_true.2 ⟨a, ha, hb⟩
      refine ⟨by rw [herr]; split <;> decide, ?_⟩
      simp only [hany, if_true, herr]
    · right
      have hno : ∀ a ∈ at_, ¬ (if x.Kind = 0 then decide (cur pre a ≠ none) else !decide (hand pre a)) = true := fun a ha hb => hbad (List.any_eq_true.2 ⟨a, ha, hb⟩)
      have herr : errAt pre x = 0 := by
        unfold errAt
        rw [if_neg (by simp [hok]), if_neg, if_neg]
        · rintro ⟨hk, n, hn, hh⟩
          obtain ⟨a, ha, _, hc⟩ := hrep n hn
          refine hno a ha ?_
          rw [if_neg hk]
          simp only [Bool.not_eq_true', decide_eq_false_iff_not]
          exact fun k => hh ((hand_congr hc).1 k)
        · rintro ⟨hk, n, hn, hh⟩
          obtain ⟨a, ha, _, hc⟩ := hrep n hn
          refine hno a ha ?_
          rw [if_pos hk]
          simp only [decide_eq_true_eq]
          rw [hc]; exact hh
      refine ⟨herr, ?_⟩
      simp only [hbad, if_false, bindv]
      rw [w64_id (n := (pre.length : Int) + 1) (by omega) (by omega), sumB_snoc]
      simp only [addB, amount]
      by_cases h1 : x.Kind = 1
      · simp [h1]
      · by_cases h2 : x.Kind = 2
        · simp [h2]
        · by_cases h3 : x.Kind = 3
          · simp [h3]
          · simp [h1, h2, h3]
  · left
    have hok' : okE x = false := by simpa using hok
    have : errAt pre x = 1 := by unfold errAt; rw [if_pos hok']
    rw [this]
    simp [hok', noBook]

theorem stamps_ref (l : List ApiStampEvent) (h : l.length ≤ 256) {hd : List ApiSpan} (hn : AllOk errAt l → Norm hd ∧ (∀ n, mem hd n ↔ hand l n) ∧ hd.length ≤ l.length) :
    (∃ p x, FirstBad errAt l p x ∧ m_wormtubref12_Stamps l = some (noBook, (p.length : Int), errAt p x)) ∨
    (AllOk errAt l ∧ m_wormtubref12_Stamps l = some ({ sumB l with Hand := hd }, (l.length : Int), 0)) := by
  unfold m_wormtubref12_Stamps
  simp only [show ¬ ((l.length : Int) > 256) by omega, decide_false, Bool.false_eq_true, if_false]
  have key := loopM_ledger (body := b_wormtubref12_Stamps_1 l) (fun i (t : ApiStampBook) => ((i : Int), t)) errAt (fun i e => .inr (noBook, (i : Int), e)) (fun t => .inl t) (fun pre t => t = sumB pre) l
    (fun pre x post t hl ho ht => by
      subst ht
      rcases ref_step hl h ho with ⟨h1, h2⟩ | ⟨h1, h2⟩
      · exact .inl ⟨h1, h2⟩
      · exact .inr ⟨h1, _, h2, rfl⟩)
    (fun t _ _ => by unfold b_wormtubref12_Stamps_1; simp)
    l [] noBook rfl AllOk.nil rfl
  simp only [List.length_nil, Int.natCast_zero] at key
  rcases key with ⟨p, x, hb, hr⟩ | ⟨ho, t, ht, hr⟩
  · exact .inl ⟨p, x, hb, bind_of hr rfl⟩
  · obtain ⟨h1, h2, h3⟩ := hn ho
    refine .inr ⟨ho, bind_of hr ?_⟩
    refine bind_of (held_eq h (okAll ho) h1 h2 (by omega)) ?_
    rw [ht]; rfl

theorem stamps_ref_long (l : List ApiStampEvent) (h : 256 < l.length) : m_wormtubref12_Stamps l = some (noBook, 0, 3) := by
  unfold m_wormtubref12_Stamps
  simp only [show ((l.length : Int) > 256) by omega, decide_true, if_true]
  rfl

theorem whose_ref {l : List ApiStampEvent} (n : Int) (h : l.length ≤ 256) {b : ApiStampBook} {i : Int} (hr : m_wormtubref12_Stamps l = some (b, i, 0)) : m_wormtubref12_Whose l n = some (whoOf l n) := by
  unfold m_wormtubref12_Whose
  refine bind_of hr ?_
  simp only [bne_self_eq_false, Bool.false_eq_true, if_false]
  refine bind_of (last_eq l n h) ?_
  unfold whoOf
  rcases lastI_cur n l with ⟨h1, h2⟩ | ⟨k, e, h1, h2, h3, h4⟩
  · rw [h1, h2]; simp
  · rw [h1, h4]
    simp only [show ¬ ((k : Int) < 0) by omega, decide_false, Bool.false_eq_true, if_false, idxL_nat, h3, Option.bind_some]
    by_cases hk : e.Kind = 1 <;> simp [hk, Option.filter]
theorem whose_ref_bad {l : List ApiStampEvent} (n : Int) {b : ApiStampBook} {i e : Int} (h : m_wormtubref12_Stamps l = some (b, i, e)) (he : e ≠ 0) : m_wormtubref12_Whose l n = some (0, e) := by
  unfold m_wormtubref12_Whose
  refine bind_of h ?_
  simp only [show (e != 0) = true by simpa using he, if_true]

end Go.Proofs.Ytbomfcghpajaiaa
