/- Own texts and texts printed by a program of mine, for caskPledged_holds; only what it reaches. -/
import Derived.Test.YtkedjmhhcekmiaaPd5
import Derived.Test.YtkedjmhhcekmiaaRows
section
namespace Go.Proofs.Ytkedjmhhcekmiaa
open Go.Dec
theorem pour_prog {A1 : List CaskCask} {A3 : FM} {k j : Nat} {c : CaskCask} {h so : Held} {lj : List (Int × Bool)} {tm : CaskTimes} {n : Int} (hc : A1[k]? = some c) (hraw : h = rawOf c h.Fills) (hamt : 0 ≤ c.amount ∧ c.amount ≤ 1099511627776) (hn : 0 ≤ n ∧ n ≤ 1099511627776) (hfr : FR A3 c.fills h.Fills) (hne : 0 < c.amount → h.Fills ≠ [])
    (hj : A3[j]? = some lj) (hjn : (lj.map Prod.fst).Nodup) (hjF : ∀ x, x ∈ so.Fills ↔ x ∈ lj.map Prod.fst) (hq : c.fills ≠ some j) (ht : so.C.Age = tm.age ∧ so.C.Woods = tm.woods ∧ so.C.Places = tm.places) :
    ∃ c' A3', m_cask_cask_pour A1 A3 (some k) tm (some j) n = some (A1.set k c', A3') ∧ c'.number = c.number ∧ c'.since = c.since ∧ pourS h so n = rawOf c' (pourS h so n).Fills ∧ FR A3' c'.fills (pourS h so n).Fills ∧
      (∀ (q : Nat) lq, A3[q]? = some lq → c.fills ≠ some q → A3'[q]? = some lq) ∧ (c'.fills = c.fills ∨ c'.fills = some A3.length) := by
  have hk := (List.getElem?_eq_some_iff.1 hc).1
  have hca : h.C.Amount = c.amount := by rw [hraw]; rfl
  have hw : w64 (c.amount + n) = c.amount + n := w64_id (by omega) (by omega)
  unfold m_cask_cask_pour
  simp only [Option.bind_some, hc]
  by_cases e : (c.amount == 0) = true
  · have e' : (h.C.Amount == 0) = true := by rw [hca]; exact e
    refine ⟨{ c with times := tm, fills := some A3.length, amount := c.amount + n }, A3 ++ [lj], ?_, rfl, rfl, ?_, ?_, fun q lq h1 _ => ?_, .inr rfl⟩
    · simp only [e, if_true, m_maps_Clone_bool, cloneM, hj, Option.bind_some, bindv, List.set_set, List.getElem?_set_self hk, hw]
    · unfold pourS
      rw [if_pos e']
      rw [hraw]
      simp only [ht.1, ht.2.1, ht.2.2]
      rfl
    · unfold pourS
      rw [if_pos e']
      exact ⟨lj, by simp, hjn, hjF⟩
    · have := (List.getElem?_eq_some_iff.1 h1).1
      rw [List.getElem?_append_left this]; exact h1
  · have hpos : 0 < c.amount := by
      have : c.amount ≠ 0 := fun e0 => e (by simp [e0])
      omega
    have e' : ¬ (h.C.Amount == 0) = true := by rw [hca]; exact e
    cases hf : c.fills with
    | none => rw [hf] at hfr; exact absurd hfr (hne hpos)
    | some q =>
      rw [hf] at hfr
      obtain ⟨lq, hlq, hqn, hqF⟩ := hfr
      have hqj : q ≠ j := fun e0 => hq (by rw [hf, e0])
      have hql := (List.getElem?_eq_some_iff.1 hlq).1
      refine ⟨{ c with times := ⟨imin c.times.age tm.age, minN c.times.woods tm.woods, minN c.times.places tm.places⟩, amount := c.amount + n }, A3.set q (copyF lq lj), ?_, rfl, rfl, ?_, ?_, fun q' lq' h1 h2 => ?_, .inl hf⟩
      · simp only [e, if_false, Bool.false_eq_true, least_doc, Option.bind_some, bindv, hf, copy_prog hqj hlq hj hqn hjn, List.getElem?_set_self hk, List.set_set, hw]
      · unfold pourS
        rw [if_neg e']
        have h1 : h.C.Age = c.times.age := by rw [hraw]; rfl
        have h2 : h.C.Woods = c.times.woods := by rw [hraw]; rfl
        have h3 : h.C.Places = c.times.places := by rw [hraw]; rfl
        simp only [ht.1, ht.2.1, ht.2.2, h1, h2, h3]
        conv => lhs; rw [hraw]
        rfl
      · unfold pourS
        rw [if_neg e']
        show FR _ c.fills (uniS h.Fills so.Fills)
        rw [hf]
        refine ⟨copyF lq lj, List.getElem?_set_self hql, copy_nodup hqn, fun x => ?_⟩
        rw [mem_uniS, mem_copy, hqF, hjF]
      · rw [List.getElem?_set_ne (fun e0 => h2 (by rw [e0]))]; exact h1
section
variable {t : Int} {n : Nat} {all : List Held} {A1 : List CaskCask} {A3 : FM} {m : List (Int × Option Nat)} {b : CaskBook} {x : Ev}
theorem fr_lt {A3 : FM} {q : Nat} {F : List Int} (h : FR A3 (some q) F) : q < A3.length := by
  obtain ⟨l, h1, _⟩ := h; exact (List.getElem?_eq_some_iff.1 h1).1
theorem fill_prog (r : PR t n all A1 A3 m) (ho : AOk t n all) (h0 : 0 ≤ t) (ht : t ≤ 65536) (hb : b.casks = some 0) (hbe : b.event = n) (hv : evB x = true) (hk : x.Kind = 1) (hd : x.Day = t) : Does t n (doS all x n) (m_cask_book_fill A1 [b] A3 [m] (some 0) x) := by
  unfold m_cask_book_fill doS
  rw [if_neg (by rw [hk]; decide), hd]
  rcases find_prog (num := x.Cask) r (by omega) hb with ⟨hf, hm⟩ | ⟨k, h, c, hf, hh, hnum, hr, hc, hs, hraw, hok, hm⟩
  · rw [hf, hm]; exact ⟨rfl, by decide⟩
  · rw [hf, hm]
    simp only [hh, bindX, Option.bind_some, hc, bindv]
    have hact : actS all k h x n = fillD all k h x n := by unfold actS; rw [hk]; rfl
    rw [hact]
    have hcr := hr.each k c h hc hh
    have hca : h.C.Amount = c.amount := by rw [hraw]; rfl
    have hcro : h.C.Room = c.room := by rw [hraw]; rfl
    have hamt := hok.amt
    have hroom := hok.room
    rw [hca, hcro] at hamt
    rw [hcro] at hroom
    have ha := evAmt hv (.inl hk)
    have hw : w64 (c.amount + x.Amount) = c.amount + x.Amount := w64_id (by omega) (by omega)
    have hokd := fun l' (hl' : fillD all k h x n = .inl l') => fill_ok ho h0 hh ha.1 hl'
    unfold fillD at hokd ⊢
    rw [hca, hcro] at hokd ⊢
    rw [hw]
    by_cases h1 : c.amount + x.Amount > c.room
    · have e : decide (c.amount + x.Amount ≤ c.room) = false := decide_eq_false (by omega)
      simp only [h1, e, if_true]
      exact ⟨rfl, by decide⟩
    · have e : decide (c.amount + x.Amount ≤ c.room) = true := decide_eq_true (by omega)
      simp only [h1, if_false] at hokd
      simp only [h1, e, if_false]
      have hnew := hokd _ rfl
      have hql : ∀ q, c.fills = some q → q < A3.length := fun q hq => fr_lt (by rw [← hq]; exact hcr.fills)
      have hfr' : FR (A3 ++ [[((n : Int), true)]]) c.fills h.Fills := hcr.fills.keep fun q hq => List.getElem?_append_left (hql q hq)
      obtain ⟨c', A3', hp, hp1, hp2, hp3, hp4, hp5, hp6⟩ := pour_prog (A3 := A3 ++ [[((n : Int), true)]]) (j := A3.length) (lj := [((n : Int), true)]) (so := fillS n) (tm := ⟨0, zN, zN⟩) (n := x.Amount) hc hraw (by omega) (by omega) hfr' (fun hp => by rw [← hca] at hp; exact hok.some hp)
        (by simp) (by simp) (fun y => by simp [fillS]) (fun e => by have := hql _ e; omega) ⟨rfl, rfl, rfl⟩
      have hmod : m_cask_cask_pour (A1.set k c) (A3 ++ [mapSet [] b.event true]) (some k) (CaskTimes.mk 0 (fun _ => 0) (fun _ => 0)) (some A3.length) x.Amount = some ((A1.set k c).set k c', A3') := by rw [hbe]; exact hp
      have hmem : pourS h (fillS n) x.Amount ∈ all.set k (pourS h (fillS n) x.Amount) := List.mem_of_getElem? (List.getElem?_set_self (List.getElem?_eq_some_iff.1 hh).1)
      have hho := hnew.each _ hmem
      have hres : Does t n (.inl (all.set k (pourS h (fillS n) x.Amount))) (some (.ok ((A1.set k c).set k c', A3', [m]))) := by
        refine ⟨_, _, _, rfl, ?_⟩
        refine hr.set hc hh hp1 ?_ (fun i ci hi hne h1 h2 => ?_) (fun i ci q hne h1 h2 h3 => ?_)
        · rw [hp3]
          refine CR.of_raw h0 (by rw [hp2]; exact hs) (by rw [← hp3]; exact hho) ?_
          exact hp4
        · have hci := (hr.each i ci hi h1 h2).up
          refine ⟨hci.since, hci.ok, hci.eq, hci.fills.keep fun q hq => ?_⟩
          have hq2 := hci.fills
          rw [hq] at hq2
          obtain ⟨lq, g1, _⟩ := hq2
          have hql2 := (List.getElem?_eq_some_iff.1 g1).1
          rw [g1]
          exact hp5 q lq (by rw [List.getElem?_append_left hql2]; exact g1) (fun e => hne (hr.apart i k ci c q h1 hc hq e))
        · have hci := (hr.each i ci _ h1 (List.getElem?_eq_getElem (show i < all.length by rw [← hr.len]; exact (List.getElem?_eq_some_iff.1 h1).1))).fills
          rw [h2] at hci
          have := fr_lt hci
          rcases hp6 with hp6 | hp6
          · rw [hp6] at h3; exact hne (hr.apart i k ci c q h1 hc h2 h3)
          · rw [hp6] at h3
            simp only [Option.some.injEq, List.length_append, List.length_cons, List.length_nil] at h3
            omega
      show Does t n _ ((m_cask_cask_pour (A1.set k c) (A3 ++ [mapSet [] b.event true]) (some k) (CaskTimes.mk 0 (fun _ => 0) (fun _ => 0)) (some A3.length) x.Amount).bind fun r_106 => some (.ok (r_106.1, r_106.2, [m])))
      rw [hmod, Option.bind_some]
      exact hres
theorem rack_prog (r : PR t n all A1 A3 m) (ho : AOk t n all) (h0 : 0 ≤ t) (ht : t ≤ 65536) (hb : b.casks = some 0) (hv : evB x = true) (hk : x.Kind = 2) (hd : x.Day = t) : Does t n (doS all x n) (m_cask_book_rack A1 [b] A3 [m] (some 0) x) := by
  unfold m_cask_book_rack doS
  rw [if_neg (by rw [hk]; decide), hd]
  rcases find_prog (num := x.Cask) r (by omega) hb with ⟨hf, hm⟩ | ⟨i, h, c, hf, hh, hnum, hr, hc, hs, hraw, hok, hm⟩
  · rw [hf, hm]; exact ⟨rfl, by decide⟩
  · rw [hf, hm]
    have hact : actS all i h x n = rackD all i h x := by unfold actS; rw [hk]; rfl
    simp only [hh, hact]
    have hokd := fun l' (ha : 1 ≤ x.Amount) (hl' : rackD all i h x = .inl l') => rack_ok ho h0 hh ha hl'
    have ha := evAmt hv (.inr (.inl hk))
    have hokd := fun l' => hokd l' ha.1
    unfold rackD at hokd ⊢
    simp only [bindX]
    rcases find_prog (num := x.Other) hr (by omega) hb with ⟨hf2, hm2⟩ | ⟨k, ho2, o, hf2, hho, hnum2, hr2, hoc, hos, horaw, hook, hm2⟩
    · rw [hf2, hm2]; exact ⟨rfl, by decide⟩
    · rw [hf2, hm2]
      rw [hf2] at hokd
      simp only [hho] at hokd ⊢
      have hil : i < A1.length := by have := (List.getElem?_eq_some_iff.1 hc).1; simpa using this
      by_cases hik : i = k
      ·
        subst hik
        have hc2 : ((A1.set i c).set i o)[i]? = some o := hoc
        simp only [Option.bind_some, hc2]
        have e1 : (i != i) = false := by simp
        have e2 : (i == i) = true := by simp
        unfold rackD2
        simp only [e1, e2, if_true]
        exact ⟨rfl, by decide⟩
      · have hc2 : ((A1.set i c).set k o)[i]? = some c := by rw [List.getElem?_set_ne (fun e => hik e.symm)]; exact hc
        simp only [Option.bind_some, hc2, hoc]
        have e1 : (i != k) = true := by simpa using hik
        have e2 : (i == k) = false := by simpa using hik
        have hcr := hr2.each i c h hc2 hh
        have hor := hr2.each k o ho2 hoc hho
        have a1 : h.C.Owner = c.owner := by rw [hraw]; rfl
        have a2 : h.C.Creditor = c.creditor := by rw [hraw]; rfl
        have a3 : h.C.Amount = c.amount := by rw [hraw]; rfl
        have b1 : ho2.C.Owner = o.owner := by rw [horaw]; rfl
        have b2 : ho2.C.Creditor = o.creditor := by rw [horaw]; rfl
        have b3 : ho2.C.Amount = o.amount := by rw [horaw]; rfl
        have b4 : ho2.C.Room = o.room := by rw [horaw]; rfl
        have camt := hok.amt
        have croom := hok.room
        have ccred := hok.cred
        have oamt := hook.amt
        have oroom := hook.room
        have ocred := hook.cred
        rw [a2] at ccred; rw [b2] at ocred; rw [b3, b4] at oamt; rw [b4] at oroom; rw [a3] at camt
        unfold rackD2 at hokd ⊢
        rw [a1, a2, a3, b1, b2, b3, b4] at hokd ⊢
        simp only [e1, e2, Bool.false_eq_true, if_false, creq ccred.1, creq ocred.1] at hokd ⊢
        have n11 : m_cask_need false 11 = some (.pan ⟨11⟩) := rfl
        have n0 : ∀ e, m_cask_need true e = some (.ok ()) := fun _ => rfl
        have nf : ∀ e, m_cask_need false e = some (.pan ⟨e⟩) := fun _ => rfl
        by_cases c1 : c.owner = o.owner
        · have f1 : (c.owner == o.owner) = true := by simpa using c1
          have f2 : (c.owner != o.owner) = false := by simpa using c1
          simp only [f1, f2, if_true, Bool.false_or, n0] at hokd ⊢
          by_cases c2 : c.creditor ≥ 0
          · simp only [c2, decide_true, Bool.not_true, Bool.true_or, if_true, Bool.false_eq_true, if_false, nf, Option.bind_some]
            exact ⟨rfl, by decide⟩
          · simp only [c2, decide_false, Bool.not_false, Bool.false_or, if_true] at hokd ⊢
            by_cases c3 : o.creditor ≥ 0
            · simp only [c3, decide_true, Bool.not_true, if_true, nf, Option.bind_some]
              exact ⟨rfl, by decide⟩
            · simp only [c3, decide_false, Bool.not_false, n0, Option.bind_some, Bool.false_eq_true, if_false] at hokd ⊢
              by_cases c4 : c.amount < x.Amount
              · have g1 : decide (c.amount ≥ x.Amount) = false := decide_eq_false (by omega)
                simp only [c4, g1, if_true, nf]
                exact ⟨rfl, by decide⟩
              · have g1 : decide (c.amount ≥ x.Amount) = true := decide_eq_true (by omega)
                simp only [c4, g1, if_false, n0] at hokd ⊢
                have hw : w64 (o.amount + x.Amount) = o.amount + x.Amount := w64_id (by omega) (by omega)
                rw [hw]
                by_cases c5 : o.amount + x.Amount > o.room
                · have g2 : decide (o.amount + x.Amount ≤ o.room) = false := decide_eq_false (by omega)
                  simp only [c5, g2, if_true, nf]
                  exact ⟨rfl, by decide⟩
                · have g2 : decide (o.amount + x.Amount ≤ o.room) = true := decide_eq_true (by omega)
                  simp only [c5, g2, if_false, n0] at hokd ⊢
                  have hnew := hokd _ rfl
                  have hcf := hcr.fills
                  cases hfc : c.fills with
                  | none =>
                    rw [hfc] at hcf
                    exact absurd hcf (hok.some (by rw [a3]; omega))
                  | some j =>
                    rw [hfc] at hcf
                    obtain ⟨lj, hj, hjn, hjF⟩ := hcf
                    obtain ⟨o', A3', hp, hp1, hp2, hp3, hp4, hp5, hp6⟩ := pour_prog (A3 := A3) (j := j) (lj := lj) (so := h) (tm := c.times) (n := x.Amount) hoc horaw (by omega) (by omega) hor.fills (fun hp => by rw [← b3] at hp; exact hook.some hp)
                      hj hjn hjF (fun e => hik (hr2.apart i k c o j hc2 hoc hfc e)) ⟨by rw [hraw]; rfl, by rw [hraw]; rfl, by rw [hraw]; rfl⟩
                    have hc3 : (((A1.set i c).set k o).set k o')[i]? = some c := by rw [List.getElem?_set_ne (fun e => hik e.symm)]; exact hc2
                    rw [hp, Option.bind_some]
                    simp only
                    rw [draw_prog hc3 (by omega) (by omega), Option.bind_some]
                    have hjl : j < A3.length := (List.getElem?_eq_some_iff.1 hj).1
                    have hkall := (List.getElem?_eq_some_iff.1 hho).1
                    have hmem : pourS ho2 h x.Amount ∈ (all.set k (pourS ho2 h x.Amount)).set i (lessS h x.Amount) := List.mem_of_getElem? (i := k) (by rw [List.getElem?_set_ne hik]; exact List.getElem?_set_self hkall)
                    have hho' := hnew.each _ hmem
                    have hlmem : lessS h x.Amount ∈ (all.set k (pourS ho2 h x.Amount)).set i (lessS h x.Amount) := List.mem_of_getElem? (i := i) (List.getElem?_set_self (by simpa using (List.getElem?_eq_some_iff.1 hh).1))
                    have hlok := hnew.each _ hlmem
                    have hpr : PR t (n + 1) (all.set k (pourS ho2 h x.Amount)) (((A1.set i c).set k o).set k o') A3' m := by
                      refine hr2.set hoc hho hp1 ?_ (fun i' ci hi hne h1 h2 => ?_) (fun i' ci q hne h1 h2 h3 => ?_)
                      · rw [hp3]
                        refine CR.of_raw h0 (by rw [hp2]; exact hos) (by rw [← hp3]; exact hho') ?_
                        exact hp4
                      · have hci := (hr2.each i' ci hi h1 h2).up
                        refine ⟨hci.since, hci.ok, hci.eq, hci.fills.keep fun q hq => ?_⟩
                        have hq2 := hci.fills
                        rw [hq] at hq2
                        obtain ⟨lq, g1', _⟩ := hq2
                        rw [g1']
                        exact hp5 q lq g1' (fun e => hne (hr2.apart i' k ci o q h1 hoc hq e))
                      · have hci := (hr2.each i' ci _ h1 (List.getElem?_eq_getElem (show i' < all.length by rw [← hr2.len]; exact (List.getElem?_eq_some_iff.1 h1).1))).fills
                        rw [h2] at hci
                        have hlt := fr_lt hci
                        rcases hp6 with hp6 | hp6
                        · rw [hp6] at h3; exact hne (hr2.apart i' k ci o q h1 hoc h2 h3)
                        · rw [hp6] at h3
                          simp only [Option.some.injEq] at h3
                          omega
                    refine ⟨_, _, _, rfl, ?_⟩
                    have hh3 : (all.set k (pourS ho2 h x.Amount))[i]? = some h := by rw [List.getElem?_set_ne (fun e => hik e.symm)]; exact hh
                    have hcr3 := hpr.each i c h hc3 hh3
                    have hls : lessS h x.Amount = rawOf (drawC c x.Amount) (lessS (rawOf c h.Fills) x.Amount).Fills := by rw [← raw_draw, ← hraw]
                    refine hpr.set hc3 hh3 draw_number ?_ (fun i' ci hi _ h1 h2 => hpr.each i' ci hi h1 h2) (fun i' ci q hne h1 h2 h3 => ?_)
                    · rw [hls]
                      refine CR.of_raw h0 (by rw [draw_since]; exact hs) (by rw [← hls]; exact hlok) (draw_FR hcr3.fills)
                    · rcases draw_fills (c := c) (n := x.Amount) with e | e
                      · rw [e] at h3; exact hne (hpr.apart i' i ci c q h1 hc3 h2 h3)
                      · rw [e] at h3; cases h3
        · have f1 : (c.owner == o.owner) = false := by simpa using c1
          have f2 : (c.owner != o.owner) = true := by simpa using c1
          simp only [f1, f2, if_true, Bool.true_or, Bool.false_eq_true, if_false, n0, nf, Option.bind_some]
          exact ⟨rfl, by decide⟩
end
end Go.Proofs.Ytkedjmhhcekmiaa
end

section
namespace Go.Proofs.Ytkedjmhhcekmiaa
open Go.Dec
theorem Event_prog (x : Ev) : m_cask_isEvent x = some (evB x) := by
  rw [← Event_doc]; rfl
abbrev Deed := ((List CaskCask) × (List CaskBook) × FM × (List (List (Int × (Option Nat)))) × (Option Nat) × Ev) → Option (Out CaskMisfit ((List CaskCask) × FM × (List (List (Int × (Option Nat))))))
theorem deeds_some : ∃ D : List (Int × Deed), m_cask_deeds = some D ∧ ∀ (x : Ev), evB x = true → ∃ f, mapGet D x.Kind = some f ∧
    ∀ {t : Int} {n : Nat} {all : List Held} {A1 : List CaskCask} {A3 : FM} {m : List (Int × Option Nat)} {b : CaskBook}, PR t n all A1 A3 m → AOk t n all → 0 ≤ t → t ≤ 65536 → b.casks = some 0 → b.event = n → x.Day = t → Does t n (doS all x n) (f (A1, [b], A3, [m], some 0, x)) := by
  refine ⟨_, rfl, fun x hv => ?_⟩
  rcases kinds hv with k | k | k | k | k | k | k | k | k <;> rw [k]
  · exact ⟨_, rfl, fun r ho h0 ht hb _ hd => build_prog r ho h0 hb hv k hd⟩
  · exact ⟨_, rfl, fun r ho h0 ht hb hbe hd => fill_prog r ho h0 ht hb hbe hv k hd⟩
  · exact ⟨_, rfl, fun r ho h0 ht hb _ hd => rack_prog r ho h0 ht hb hv k hd⟩
  · exact ⟨_, rfl, fun r _ h0 ht hb _ hd => drain_prog r h0 ht hb hv k hd⟩
  · exact ⟨_, rfl, fun r _ h0 ht hb _ hd => carry_prog r h0 ht hb hv k hd⟩
  · exact ⟨_, rfl, fun r _ h0 ht hb _ hd => sell_prog r h0 ht hb hv k hd⟩
  · exact ⟨_, rfl, fun r _ h0 ht hb _ hd => pledge_prog r h0 ht hb hv k hd⟩
  · exact ⟨_, rfl, fun r _ h0 ht hb _ hd => free_prog r h0 ht hb hv k hd⟩
  · exact ⟨_, rfl, fun r _ h0 ht hb _ hd => char_prog r h0 ht hb hv k hd⟩
section
variable {D : List (Int × Deed)}
def DeedsOK (D : List (Int × Deed)) : Prop := ∀ (x : Ev), evB x = true → ∃ f, mapGet D x.Kind = some f ∧
    ∀ {t : Int} {n : Nat} {all : List Held} {A1 : List CaskCask} {A3 : FM} {m : List (Int × Option Nat)} {b : CaskBook}, PR t n all A1 A3 m → AOk t n all → 0 ≤ t → t ≤ 65536 → b.casks = some 0 → b.event = n → x.Day = t → Does t n (doS all x n) (f (A1, [b], A3, [m], some 0, x))
theorem step_prog (hD : DeedsOK D) {l : List Ev} {day : Int} {n : Nat} {s : Cur} {x : Ev} {A1 : List CaskCask} {A3 : FM} {m : List (Int × Option Nat)} {b : CaskBook} (hx : l[n]? = some x) (hn : n ≤ 4096) (ho : SOk n s) (hr : PR s.last n s.all A1 A3 m) (hb : b.casks = some 0) (hd : x.Day ≤ day) :
    match stepS n s x with
    | .inl s' => ∃ A1' A3' m', b_cask_play_1 l day D ((n : Int), s.last, A1, [b], A3, [m]) = some (.next (((n + 1 : Nat) : Int), s'.last, A1', [⟨some 0, n⟩], A3', [m'])) ∧ PR s'.last (n + 1) s'.all A1' A3' m'
    | .inr e => b_cask_play_1 l day D ((n : Int), s.last, A1, [b], A3, [m]) = some (.done (.inr (⟨e⟩, (n : Int), 0, some 0))) ∧ e ≠ 0 := by
  have hnl : n < l.length := (List.getElem?_eq_some_iff.1 hx).1
  have hw : w64 ((n : Int) + 1) = ((n + 1 : Nat) : Int) := by rw [w64_id (by omega) (by omega)]; rfl
  have h1 : decide ((n : Int) < (l.length : Int)) = true := decide_eq_true (by omega)
  have nt : ∀ e, m_cask_need true e = some (.ok ()) := fun _ => rfl
  have nf : ∀ e, m_cask_need false e = some (.pan ⟨e⟩) := fun _ => rfl
  unfold b_cask_play_1 stepS
  simp only [h1, if_true, idxL_nat, hx, Option.bind_some, hd, decide_true, Event_prog]
  cases hv : evB x with
  | false =>
    simp only [Bool.not_false, if_true, nf, bindX]
    exact ⟨trivial, by decide⟩
  | true =>
    simp only [Bool.not_true, Bool.false_eq_true, if_false, nt, bindX]
    by_cases hlt : x.Day < s.last
    · have e : decide (x.Day ≥ s.last) = false := decide_eq_false (by omega)
      simp only [hlt, e, if_true, nf]
      exact ⟨trivial, by decide⟩
    · have e : decide (x.Day ≥ s.last) = true := decide_eq_true (by omega)
      simp only [hlt, e, if_false, nt]
      have hday := evD hv
      have hsd := ho.day
      obtain ⟨f, hf, hdo⟩ := hD x hv
      have hok := older_all ho.ok (n := x.Day - s.last) (by omega)
      have e0 : s.last + (x.Day - s.last) = x.Day := by omega
      rw [e0] at hok
      have hdoes := hdo (b := ⟨some 0, (n : Int)⟩) (hr.shift (t' := x.Day) (by omega)) hok hday.1 hday.2 rfl rfl rfl
      have hbk : ({ b with event := (n : Int) } : CaskBook) = ⟨some 0, n⟩ := by rw [← hb]
      simp only [List.getElem?_cons_zero, Option.bind_some, bindv, List.set_cons_zero, hbk, hf]
      cases hds : doS (s.all.map (olderS (x.Day - s.last))) x n with
      | inl all' =>
        rw [hds] at hdoes
        obtain ⟨A1', A3', m', h2, h3⟩ := hdoes
        rw [h2]
        simp only [hw]
        exact ⟨A1', A3', m', rfl, h3⟩
      | inr er =>
        rw [hds] at hdoes
        obtain ⟨h2, h3⟩ := hdoes
        rw [h2]
        exact ⟨rfl, h3⟩
theorem stop_prog {l : List Ev} {day : Int} {n : Nat} {last : Int} {A1 : List CaskCask} {A2 : List CaskBook} {A3 : FM} {A4 : List (List (Int × Option Nat))} (h : ∀ x, l[n]? = some x → ¬ x.Day ≤ day) (hn : n ≤ l.length) :
    b_cask_play_1 l day D ((n : Int), last, A1, A2, A3, A4) = some (.done (.inl ((n : Int), A1, A2, A3, A4))) := by
  unfold b_cask_play_1
  cases hx : l[n]? with
  | none =>
    have : ¬ (n : Int) < (l.length : Int) := by
      have := List.getElem?_eq_none_iff.1 hx; omega
    simp [this]
  | some x =>
    have hnl : n < l.length := (List.getElem?_eq_some_iff.1 hx).1
    have h1 : decide ((n : Int) < (l.length : Int)) = true := decide_eq_true (by omega)
    have h2 : decide (x.Day ≤ day) = false := decide_eq_false (h x hx)
    simp only [h1, if_true, idxL_nat, hx, Option.bind_some, h2, Bool.false_eq_true, if_false]
theorem loop_prog (hD : DeedsOK D) {l : List Ev} {day : Int} (hl : l.length ≤ 4096) : ∀ (post pre : List Ev) (s : Cur) (A1 : List CaskCask) (A3 : FM) (m : List (Int × Option Nat)) (b : CaskBook), l = pre ++ post → SOk pre.length s → PR s.last pre.length s.all A1 A3 m → b.casks = some 0 →
    match goS day post pre.length s with
    | (.inl s', k) => ∃ A1' A3' m' b', loopM (b_cask_play_1 l day D) ((pre.length : Int), s.last, A1, [b], A3, [m]) = some (.inl ((k : Int), A1', [b'], A3', [m'])) ∧ PR s'.last k s'.all A1' A3' m' ∧ b'.casks = some 0
    | (.inr e, k) => loopM (b_cask_play_1 l day D) ((pre.length : Int), s.last, A1, [b], A3, [m]) = some (.inr (⟨e⟩, (k : Int), 0, some 0)) ∧ e ≠ 0
  | [], pre, s, A1, A3, m, b, e, ho, hr, hb => by
    simp only [goS]
    refine ⟨A1, A3, m, b, ?_, hr, hb⟩
    rw [loopM_eq, stop_prog (fun x hx => by rw [e] at hx; simp at hx) (by rw [e]; simp)]
  | x :: post, pre, s, A1, A3, m, b, e, ho, hr, hb => by
    have hx : l[pre.length]? = some x := getEl_mid e
    have hn : pre.length ≤ 4096 := by have := lt_mid e; omega
    rw [loopM_eq]
    by_cases hd : x.Day ≤ day
    · have hst := step_prog hD hx hn ho hr hb hd
      simp only [goS, hd, if_true]
      cases hs : stepS pre.length s x with
      | inl s' =>
        rw [hs] at hst
        obtain ⟨A1', A3', m', h1, h2⟩ := hst
        rw [h1]
        have ih := loop_prog hD (day := day) hl post (pre ++ [x]) s' A1' A3' m' ⟨some 0, (pre.length : Int)⟩ (by rw [e]; simp) (by simpa using (step_ok ho hs).1) (by simpa using h2) rfl
        simpa using ih
      | inr er =>
        rw [hs] at hst
        rw [hst.1]
        exact ⟨rfl, hst.2⟩
    · rw [stop_prog (fun y hy => by rw [hx] at hy; cases hy; exact hd) (by have := lt_mid e; omega)]
      simp only [goS, hd, if_false]
      exact ⟨A1, A3, m, b, rfl, hr, hb⟩
end
end Go.Proofs.Ytkedjmhhcekmiaa
end

section
namespace Go.Proofs.Ytkedjmhhcekmiaa
open Go.Dec
section
variable {t day : Int} {n : Nat} {all : List Held} {A1 : List CaskCask} {A3 : FM} {m : List (Int × Option Nat)}
theorem forL_rest (hday : day ≤ 1000000) (hok : ∀ (k : Nat) (c : CaskCask), A1[k]? = some c → 0 ≤ c.since ∧ c.since ≤ day ∧ ∃ F, HOk c.since n (rawOf c F)) : ∀ (L : List (Int × Option Nat)) (s : List CaskCask), (∀ e ∈ L, ∃ k, e.2 = some k ∧ k < A1.length) → (L.map Prod.snd).Nodup → s.length = A1.length → (∀ k, some k ∈ L.map Prod.snd → s[k]? = A1[k]?) →
    ∃ s', forL (b_cask_play_2 day) L s = some s' ∧ s'.length = A1.length ∧ ∀ i : Nat, s'[i]? = if some i ∈ L.map Prod.snd then (A1[i]?).map (restC day) else s[i]?
  | [], s, _, _, hl, _ => ⟨s, rfl, hl, fun i => by simp⟩
  | e :: L, s, hE, hN, hl, hs => by
    obtain ⟨k, hk, hkl⟩ := hE e (by simp)
    have hN' : some k ∉ L.map Prod.snd ∧ (L.map Prod.snd).Nodup := by
      have := List.nodup_cons.1 hN
      rw [hk] at this; exact this
    have hc : A1[k]? = some A1[k] := List.getElem?_eq_getElem hkl
    have hsk : s[k]? = some A1[k] := by rw [hs k (by simp [hk])]; exact hc
    obtain ⟨h0, h1, F, hF⟩ := hok k _ hc
    have hb : b_cask_play_2 day e s = some (s.set k (restC day A1[k])) := by
      unfold b_cask_play_2
      rw [hk, rest_prog hsk hF h0 h1 hday]
      rfl
    obtain ⟨s', g1, g2, g3⟩ := forL_rest hday hok L (s.set k (restC day A1[k])) (fun e' he' => hE e' (List.mem_cons_of_mem _ he')) hN'.2 (by simpa using hl) (fun k' hk' => by
      have hne : k ≠ k' := fun e' => hN'.1 (by rw [e']; exact hk')
      rw [List.getElem?_set_ne hne]
      exact hs k' (by rw [List.map_cons]; exact List.mem_cons_of_mem _ hk'))
    refine ⟨s', by simp only [forL, hb, Option.bind_some]; exact g1, g2, fun i => ?_⟩
    rw [g3 i]
    by_cases hi : some i ∈ L.map Prod.snd
    · rw [if_pos hi, if_pos (by rw [List.map_cons]; exact List.mem_cons_of_mem _ hi)]
    · rw [if_neg hi]
      by_cases e' : k = i
      · subst e'
        rw [List.getElem?_set_self (by rw [hl]; exact hkl), if_pos (by simp [hk]), hc]
        rfl
      · rw [List.getElem?_set_ne e', if_neg]
        rw [List.map_cons, List.mem_cons, hk]
        rintro (h | h)
        · exact e' (by simpa using h.symm)
        · exact hi h
theorem rest_all (r : PR t n all A1 A3 m) (hd : t ≤ day) (hday : day ≤ 65536) : permM (b_cask_play_2 day) m A1 = some (A1.map (restC day)) ∧ PR day n (all.map (olderS (day - t))) (A1.map (restC day)) A3 m ∧ ∀ c ∈ A1.map (restC day), c.since = day := by
  have hlook : ∀ (k : Nat) (c : CaskCask), A1[k]? = some c → ∃ h, all[k]? = some h ∧ CR t n A3 c h := fun k c hc => by
    have hk : k < all.length := by rw [← r.len]; exact (List.getElem?_eq_some_iff.1 hc).1
    exact ⟨all[k], List.getElem?_eq_getElem hk, r.each k c _ hc (List.getElem?_eq_getElem hk)⟩
  have hsnd : m.map Prod.snd = (List.range A1.length).map some := by
    rw [r.map]
    apply List.ext_getElem?
    intro i
    simp only [List.getElem?_map, List.getElem?_mapIdx]
    by_cases h : i < A1.length
    · simp [h]
    · simp [h]
  refine ⟨permM_of fun l' hl' => ?_, ⟨by simp [r.len], fun k c h hc hh => ?_, ?_, fun i j ci cj q h1 h2 h3 h4 => ?_⟩, fun c hc => ?_⟩
  · have hp := hl'.map Prod.snd
    have hmem : ∀ o, o ∈ l'.map Prod.snd ↔ ∃ i, i < A1.length ∧ o = some i := fun o => by
      rw [hp.mem_iff, hsnd]
      simp only [List.mem_map, List.mem_range]
      exact ⟨fun ⟨i, h1, h2⟩ => ⟨i, h1, h2.symm⟩, fun ⟨i, h1, h2⟩ => ⟨i, h1, h2.symm⟩⟩
    obtain ⟨s', g1, g2, g3⟩ := forL_rest (day := day) (A1 := A1) (n := n) (by omega) (fun k c hc => by
      obtain ⟨h, _, hcr⟩ := hlook k c hc
      exact ⟨hcr.since.1, by have := hcr.since.2; omega, _, hcr.ok⟩) l' A1 (fun e he => by
        obtain ⟨i, h1, h2⟩ := (hmem e.2).1 (List.mem_map_of_mem he)
        exact ⟨i, h2, h1⟩) (hp.nodup_iff.2 (by rw [hsnd]; exact List.nodup_range.map _ (fun a b hab e => hab (by simpa using e)))) rfl (fun _ _ => rfl)
    rw [g1]
    congr 1
    apply List.ext_getElem?
    intro i
    rw [g3 i, List.getElem?_map]
    by_cases h : i < A1.length
    · rw [if_pos ((hmem _).2 ⟨i, h, rfl⟩)]
    · rw [if_neg (fun h' => by
        obtain ⟨i', h1, h2⟩ := (hmem _).1 h'
        simp only [Option.some.injEq] at h2
        omega), List.getElem?_eq_none (by omega)]
      rfl
  · rw [List.getElem?_map] at hc hh
    cases h1 : A1[k]? with
    | none => rw [h1] at hc; cases hc
    | some c0 =>
      obtain ⟨h0, h2, hcr⟩ := hlook k c0 h1
      rw [h1] at hc; rw [h2] at hh
      simp only [Option.map_some, Option.some.injEq] at hc hh
      subst hc; subst hh
      exact (hcr.shift hd).rest
  · rw [r.map]
    apply List.ext_getElem?
    intro i
    simp only [List.getElem?_mapIdx, List.getElem?_map]
    cases A1[i]? with
    | none => rfl
    | some c => simp [rest_number]
  · rw [List.getElem?_map] at h1 h2
    cases g1 : A1[i]? with
    | none => rw [g1] at h1; cases h1
    | some c1 =>
      cases g2 : A1[j]? with
      | none => rw [g2] at h2; cases h2
      | some c2 =>
        rw [g1] at h1; rw [g2] at h2
        simp only [Option.map_some, Option.some.injEq] at h1 h2
        subst h1; subst h2
        rw [rest_fillsC] at h3 h4
        exact r.apart i j c1 c2 q g1 g2 h3 h4
  · obtain ⟨c0, _, rfl⟩ := List.mem_map.1 hc
    exact rest_since
end
theorem PR.start : PR 0 0 [] [] [] [] := ⟨rfl, fun _ _ _ h => by simp at h, rfl, fun _ _ _ _ _ h => by simp at h⟩
def PlayOK (day : Int) (r : (List Held ⊕ Int) × Nat) (o : Option ((Option Nat) × Int × Int × (List CaskCask) × (List CaskBook) × FM × (List (List (Int × Option Nat))))) : Prop := match r with
  | (.inl all, k) => ∃ A1 b A3 m, o = some (some 0, (k : Int), 0, A1, [b], A3, [m]) ∧ b.casks = some 0 ∧ PR day k all A1 A3 m ∧ (∀ c ∈ A1, c.since = day) ∧ AOk day k all ∧ k ≤ 4096 ∧ 0 ≤ day ∧ day ≤ 65536
  | (.inr e, k) => o = some (none, (k : Int), e, [], [], [], []) ∧ e ≠ 0
theorem play_prog (l : List Ev) (day : Int) : PlayOK day (playS l day) (m_cask_play l day) := by
  obtain ⟨D, hD, hOK⟩ := deeds_some
  unfold m_cask_play playS
  by_cases hl : l.length > 4096
  · have : decide ((l.length : Int) > 4096) = true := decide_eq_true (by omega)
    simp only [this, hl, if_true]
    exact ⟨rfl, by decide⟩
  · have : decide ((l.length : Int) > 4096) = false := decide_eq_false (by omega)
    simp only [this, hl, if_false, Bool.false_eq_true]
    have e : m_cask_within day 0 65536 = inB day 0 65536 := rfl
    rw [e]
    cases hb : inB day 0 65536 with
    | false => exact ⟨rfl, by decide⟩
    | true =>
      have hday := inB_iff.1 hb
      simp only [Bool.not_true, Bool.false_eq_true, if_false, bindv, hD, Option.bind_some, List.nil_append]
      have hloop := loop_prog (D := D) hOK (l := l) (day := day) (by omega) l [] ⟨[], 0⟩ [] [] [] ⟨some 0, 0⟩ rfl SOk.start PR.start rfl
      unfold runS
      cases hg : goS day l 0 ⟨[], 0⟩ with
      | mk r k =>
        have hg' : goS day l ([] : List Ev).length ⟨[], 0⟩ = (r, k) := hg
        rw [hg'] at hloop
        cases r with
        | inl s' =>
          obtain ⟨A1', A3', m', b', h1, h2, h3⟩ := hloop
          obtain ⟨g1, g2, g3, g4⟩ := go_ok l 0 ⟨[], 0⟩ s' k SOk.start (by show (0:Int) ≤ day; omega) hg
          have h1' : loopM (b_cask_play_1 l day D) (0, 0, [], [⟨some 0, 0⟩], [], [[]]) = _ := h1
          obtain ⟨p1, p2, p3⟩ := rest_all h2 g2 hday.2
          have hok := older_all g1.ok (n := day - s'.last) (by omega)
          rw [show s'.last + (day - s'.last) = day by omega] at hok
          refine ⟨A1'.map (restC day), b', A3', m', ?_, h3, p2, p3, hok, by omega, hday.1, hday.2⟩
          rw [h1', Option.bind_some]
          simp only [List.getElem?_cons_zero, Option.bind_some, h3, p1]
        | inr er =>
          have h1' : loopM (b_cask_play_1 l day D) (0, 0, [], [⟨some 0, 0⟩], [], [[]]) = _ := hloop.1
          refine ⟨?_, hloop.2⟩
          rw [h1', Option.bind_some]
end Go.Proofs.Ytkedjmhhcekmiaa
end

section
namespace Go.Proofs.Ytkedjmhhcekmiaa
open Go.Dec Go.Shelf Go.RowKit Go.Maps Go.Sort
noncomputable def m_wormtublaw06_awake  : Option Bool :=
 (m_wormtublaw06_sample).bind fun r_3 => (m_cask_At r_3 2 140).bind fun r_10 => (m_cask_At r_3 2 200).bind fun r_14 => (m_cask_Sources r_3 2 200).bind fun r_18 => (appO r_3 ([(ApiCaskEvent.mk 3 200 2 0 0 0 10 0)])).bind fun l_27 => (m_cask_Play l_27 200).bind fun r_37 => (m_cask_Owned r_3 30 200).bind fun r_43 => if ((((((((((((r_10.1.Amount != 150) || (r_10.1.Age != 140)) || ((r_10.1.Woods 2) != 100)) || ((r_10.1.Woods 3) != 40)) || ((r_10.1.Places 1) != 40)) || (r_10.1.Creditor != (-1))) || (r_10.2 != 0)) || (r_14.1.Amount != 200)) || (r_14.1.Age != 50)) || ((r_14.1.Woods 2) != 0)) || (r_14.1.Creditor != 30)) || (r_14.2 != 0)) then (some false) else ((m_wormtubref06_Ints r_18.1 ([2, 5])).bind fun r_102 => (if ((((r_102 && (r_18.2 == 0)) && (r_37.2.1 == 7)) && (r_37.2.2 == 11)) && ((r_43.1.length : Int) == 0)) then ((m_wormtubref06_Ints r_43.2.1 ([2])).bind fun r_127 => some r_127) else some false).bind fun z131 => some (z131 && (r_43.2.2 == 0)))
theorem c_wormtublaw06_awake (F0 : Fz)  : CT0 Try.prog 11 [].toArray F0 (m_wormtublaw06_awake) (fun r _ v => v = (.bool r)) := by
 refine CT0.enter Try.func11 rfl Try.ntmps11 rfl fun r R => ?_
 unfold m_wormtublaw06_awake
 refine .seq ?_
 refine .region ?_
 refine .assign rfl rfl ?_
 refine .nil ?_
 refine .code ?_
 refine .seq ?_
 refine .region ?_
 refine .call0 rfl Try.call23 rfl rfl rfl (c_wormtublaw06_sample _ ) ?_
 rintro r_3 F_1 _ - l_2 ⟨p4, k5, rfl, h6, hf7⟩
 refine .assign rfl rfl ?_
 refine .nil ?_
 refine .code ?_
 refine .seq ?_
 refine .region ?_
 refine .move rfl rfl ?_
 refine .call0 rfl Try.call14 rfl rfl rfl (c_cask_At _ r_3 p4 k5 h6 2 140) ?_
 rintro r_10 F_8 _ - l_9 rfl
 refine .move rfl rfl ?_
 refine .extract rfl rfl rfl ?_
 refine .extract rfl rfl rfl ?_
 refine .alloc (cs := (cApiCask (ApiCask.mk 0 0 0 0 0 0 0 0 (fun _ => 0) (fun _ => 0)))) rfl Try.zeroValue31 rfl (fun b11 => ?_)
 refine .store (cs' := (cApiCask r_10.1)) Try.sizeOf31 rfl rfl rfl rfl (i := 0) rfl (Nat.le_of_ble_eq_true rfl) rfl (setMany_all (by rfl)) ?_
 refine .assign rfl rfl ?_
 refine .nil ?_
 refine .code ?_
 refine .seq ?_
 refine .region ?_
 refine .move rfl rfl ?_
 refine .call0 rfl Try.call14 rfl rfl rfl (c_cask_At _ r_3 p4 k5 (h6.mono l_9) 2 200) ?_
 rintro r_14 F_12 _ - l_13 rfl
 refine .move rfl rfl ?_
 refine .extract rfl rfl rfl ?_
 refine .extract rfl rfl rfl ?_
 refine .alloc (cs := (cApiCask (ApiCask.mk 0 0 0 0 0 0 0 0 (fun _ => 0) (fun _ => 0)))) rfl Try.zeroValue31 rfl (fun b15 => ?_)
 refine .store (cs' := (cApiCask r_14.1)) Try.sizeOf31 rfl rfl rfl rfl (i := 0) rfl (Nat.le_of_ble_eq_true rfl) rfl (setMany_all (by rfl)) ?_
 refine .assign rfl rfl ?_
 refine .nil ?_
 refine .code ?_
 refine .seq ?_
 refine .region ?_
 refine .move rfl rfl ?_
 refine .call0 rfl Try.call19 rfl rfl rfl (c_cask_Sources _ r_3 p4 k5 (h6.mono (Fz.le_trans l_9 l_13)) 2 200) ?_
 rintro r_18 F_16 _ - l_17 ⟨p19, k20, rfl, h21⟩
 refine .move rfl rfl ?_
 refine .extract rfl rfl rfl ?_
 refine .extract rfl rfl rfl ?_
 refine .assign rfl rfl ?_
 refine .assign rfl rfl ?_
 refine .nil ?_
 refine .code ?_
 refine .seq ?_
 refine .region ?_
 refine .move rfl rfl ?_
 refine .build (cs := (cApiCaskEvent (ApiCaskEvent.mk 3 200 2 0 0 0 10 0)).toArray) rfl Try.underlying45 Try.zeroValue45 (plApiCaskEvent _ Try.underlying45) rfl rfl (by kernel_rfl) ?_
 refine .sliceLit (cs := [.int .i64 (ApiCaskEvent.mk 3 200 2 0 0 0 10 0).Kind, .int .i64 (ApiCaskEvent.mk 3 200 2 0 0 0 10 0).Day, .int .i64 (ApiCaskEvent.mk 3 200 2 0 0 0 10 0).Cask, .int .i64 (ApiCaskEvent.mk 3 200 2 0 0 0 10 0).Other, .int .i64 (ApiCaskEvent.mk 3 200 2 0 0 0 10 0).Person, .int .i64 (ApiCaskEvent.mk 3 200 2 0 0 0 10 0).To, .int .i64 (ApiCaskEvent.mk 3 200 2 0 0 0 10 0).Amount, .int .i64 (ApiCaskEvent.mk 3 200 2 0 0 0 10 0).Where]) (zc := [.int .i64 (ApiCaskEvent.mk 0 0 0 0 0 0 0 0).Kind, .int .i64 (ApiCaskEvent.mk 0 0 0 0 0 0 0 0).Day, .int .i64 (ApiCaskEvent.mk 0 0 0 0 0 0 0 0).Cask, .int .i64 (ApiCaskEvent.mk 0 0 0 0 0 0 0 0).Other, .int .i64 (ApiCaskEvent.mk 0 0 0 0 0 0 0 0).Person, .int .i64 (ApiCaskEvent.mk 0 0 0 0 0 0 0 0).To, .int .i64 (ApiCaskEvent.mk 0 0 0 0 0 0 0 0).Amount, .int .i64 (ApiCaskEvent.mk 0 0 0 0 0 0 0 0).Where]) rfl Try.underlying22 Try.sizeOf45 Try.zeroValue45 rfl rfl rfl (by kernel_rfl) (by kernel_rfl) (fun b22 F_23 l_24 hb25 => ?_)
 have h26 : RepSl 8 (Ex cApiCaskEvent) F_23 (some ⟨b22, 0, none⟩) 1 ([(ApiCaskEvent.mk 3 200 2 0 0 0 10 0)]) := RepSl.ofRow hb25 (.cons ok_t45.mono rfl .nil) rfl rfl
 refine .appendF ok_t45 rfl Try.underlying22 Try.underlying22 rfl rfl (h6.mono (Fz.le_trans l_9 (Fz.le_trans l_13 (Fz.le_trans l_17 l_24)))) h26 (by rw [hf7]; exact Nat.lt_add_of_pos_right (by decide)) rfl rfl (fun l_27 p28 k29 e30 => ?_)
 refine .freezeSl 0 rfl (Fz.le_refl _) (fun F_32 l_33 h34 => ?_)
 refine .call0 rfl Try.call12 rfl rfl rfl (c_cask_Play _ l_27 p28 k29 h34 200) ?_
 rintro r_37 F_35 _ - l_36 ⟨p38, k39, rfl, h40⟩
 refine .move rfl rfl ?_
 refine .extract rfl rfl rfl ?_
 refine .extract rfl rfl rfl ?_
 refine .extract rfl rfl rfl ?_
 refine .assign rfl rfl ?_
 refine .assign rfl rfl ?_
 refine .assign rfl rfl ?_
 refine .nil ?_
 refine .keep (.cons (k := 1) rfl (.cons (k := 2) rfl (.cons (k := 3) rfl (.cons (k := 4) rfl (.cons (k := 5) rfl (.cons (k := 6) rfl (.cons (k := 7) rfl (.cons (k := 9) rfl (.cons (k := 10) rfl (.nil _)))))))))) ?_
 refine .code ?_
 refine .seq ?_
 refine .region ?_
 refine .move rfl rfl ?_
 refine .call0 rfl Try.call17 rfl rfl rfl (c_cask_Owned _ r_3 p4 k5 (h6.mono (Fz.le_trans l_9 (Fz.le_trans l_13 (Fz.le_trans l_17 (Fz.le_trans l_24 (Fz.le_trans l_33 l_36)))))) 30 200) ?_
 rintro r_43 F_41 _ - l_42 ⟨p44, k45, p47, k48, rfl, h46, h49⟩
 refine .move rfl rfl ?_
 refine .extract rfl rfl rfl ?_
 refine .extract rfl rfl rfl ?_
 refine .extract rfl rfl rfl ?_
 refine .assign rfl rfl ?_
 refine .assign rfl rfl ?_
 refine .assign rfl rfl ?_
 refine .nil ?_
 refine .code ?_
 refine .seq ?_
 refine .seq ?_
 refine .region ?_
 refine .fieldAddr rfl Try.underlying31 rfl Try.sizeOf3 rfl ?_
 refine .loadO rfl Try.isAgg3 rfl (i := 1) rfl rfl ?_
 refine .neq rfl rfl rfl ?_
 refine .move rfl rfl ?_
 refine .orP (b := (r_10.1.Amount != 150)) (b' := (r_10.1.Age != 140)) 4 52 (fun hb50 => ?_) (fun hb51 => ?_) (fun F_52 l_53 => ?_)
 ·skip
  refine .onH hb50 rfl rfl ?_
  refine .fieldAddr rfl Try.underlying31 rfl Try.sizeOf3 rfl ?_
  refine .onH hb50 rfl rfl ?_
  refine .loadO rfl Try.isAgg3 rfl (i := 1) rfl rfl ?_
  refine .onH hb50 rfl rfl ?_
  refine .neq rfl rfl rfl ?_
  refine .pickFH hb50 rfl rfl rfl ?_
  exact .fin 4 rfl rfl (by kernel_rfl) (Fz.le_refl _)
 ·skip
  refine .offH hb51 rfl rfl rfl ?_
  refine .offH hb51 rfl rfl rfl ?_
  refine .offH hb51 rfl rfl rfl ?_
  refine .pickTH hb51 rfl rfl rfl ?_
  exact .fin 4 rfl rfl (by kernel_rfl) (Fz.le_refl _)
 refine .move rfl rfl ?_
 refine .orP (b := ((r_10.1.Amount != 150) || (r_10.1.Age != 140))) (b' := ((r_10.1.Woods 2) != 100)) 5 58 (fun hb54 => ?_) (fun hb55 => ?_) (fun F_56 l_57 => ?_)
 ·skip
  refine .onH hb54 rfl rfl ?_
  refine .fieldAddr rfl Try.underlying31 rfl Try.sizeOf29 rfl ?_
  refine .onH hb54 rfl rfl ?_
  refine .indexAddrA rfl Try.underlying29 Try.sizeOf3 rfl rfl (j := 2) rfl ?_
  refine .onH hb54 rfl rfl ?_
  refine .loadO rfl Try.isAgg3 rfl (i := 1) rfl rfl ?_
  refine .onH hb54 rfl rfl ?_
  refine .neq rfl rfl rfl ?_
  refine .pickFH hb54 rfl rfl rfl ?_
  exact .fin 5 rfl rfl (by kernel_rfl) (Fz.le_refl _)
 ·skip
  refine .offH hb55 rfl rfl rfl ?_
  refine .offH hb55 rfl rfl rfl ?_
  refine .offH hb55 rfl rfl rfl ?_
  refine .offH hb55 rfl rfl rfl ?_
  refine .pickTH hb55 rfl rfl rfl ?_
  exact .fin 5 rfl rfl (by kernel_rfl) (Fz.le_refl _)
 refine .move rfl rfl ?_
 refine .orP (b := (((r_10.1.Amount != 150) || (r_10.1.Age != 140)) || ((r_10.1.Woods 2) != 100))) (b' := ((r_10.1.Woods 3) != 40)) 5 64 (fun hb58 => ?_) (fun hb59 => ?_) (fun F_60 l_61 => ?_)
 ·skip
  refine .onH hb58 rfl rfl ?_
  refine .fieldAddr rfl Try.underlying31 rfl Try.sizeOf29 rfl ?_
  refine .onH hb58 rfl rfl ?_
  refine .indexAddrA rfl Try.underlying29 Try.sizeOf3 rfl rfl (j := 3) rfl ?_
  refine .onH hb58 rfl rfl ?_
  refine .loadO rfl Try.isAgg3 rfl (i := 1) rfl rfl ?_
  refine .onH hb58 rfl rfl ?_
  refine .neq rfl rfl rfl ?_
  refine .pickFH hb58 rfl rfl rfl ?_
  exact .fin 5 rfl rfl (by kernel_rfl) (Fz.le_refl _)
 ·skip
  refine .offH hb59 rfl rfl rfl ?_
  refine .offH hb59 rfl rfl rfl ?_
  refine .offH hb59 rfl rfl rfl ?_
  refine .offH hb59 rfl rfl rfl ?_
  refine .pickTH hb59 rfl rfl rfl ?_
  exact .fin 5 rfl rfl (by kernel_rfl) (Fz.le_refl _)
 refine .move rfl rfl ?_
 refine .orP (b := ((((r_10.1.Amount != 150) || (r_10.1.Age != 140)) || ((r_10.1.Woods 2) != 100)) || ((r_10.1.Woods 3) != 40))) (b' := ((r_10.1.Places 1) != 40)) 5 70 (fun hb62 => ?_) (fun hb63 => ?_) (fun F_64 l_65 => ?_)
 ·skip
  refine .onH hb62 rfl rfl ?_
  refine .fieldAddr rfl Try.underlying31 rfl Try.sizeOf29 rfl ?_
  refine .onH hb62 rfl rfl ?_
  refine .indexAddrA rfl Try.underlying29 Try.sizeOf3 rfl rfl (j := 1) rfl ?_
  refine .onH hb62 rfl rfl ?_
  refine .loadO rfl Try.isAgg3 rfl (i := 1) rfl rfl ?_
  refine .onH hb62 rfl rfl ?_
  refine .neq rfl rfl rfl ?_
  refine .pickFH hb62 rfl rfl rfl ?_
  exact .fin 5 rfl rfl (by kernel_rfl) (Fz.le_refl _)
 ·skip
  refine .offH hb63 rfl rfl rfl ?_
  refine .offH hb63 rfl rfl rfl ?_
  refine .offH hb63 rfl rfl rfl ?_
  refine .offH hb63 rfl rfl rfl ?_
  refine .pickTH hb63 rfl rfl rfl ?_
  exact .fin 5 rfl rfl (by kernel_rfl) (Fz.le_refl _)
 refine .move rfl rfl ?_
 refine .orP (b := (((((r_10.1.Amount != 150) || (r_10.1.Age != 140)) || ((r_10.1.Woods 2) != 100)) || ((r_10.1.Woods 3) != 40)) || ((r_10.1.Places 1) != 40))) (b' := (r_10.1.Creditor != (-1))) 4 75 (fun hb66 => ?_) (fun hb67 => ?_) (fun F_68 l_69 => ?_)
 ·skip
  refine .onH hb66 rfl rfl ?_
  refine .fieldAddr rfl Try.underlying31 rfl Try.sizeOf3 rfl ?_
  refine .onH hb66 rfl rfl ?_
  refine .loadO rfl Try.isAgg3 rfl (i := 1) rfl rfl ?_
  refine .onH hb66 rfl rfl ?_
  refine .neq rfl rfl rfl ?_
  refine .pickFH hb66 rfl rfl rfl ?_
  exact .fin 4 rfl rfl (by kernel_rfl) (Fz.le_refl _)
 ·skip
  refine .offH hb67 rfl rfl rfl ?_
  refine .offH hb67 rfl rfl rfl ?_
  refine .offH hb67 rfl rfl rfl ?_
  refine .pickTH hb67 rfl rfl rfl ?_
  exact .fin 4 rfl rfl (by kernel_rfl) (Fz.le_refl _)
 refine .move rfl rfl ?_
 refine .orP (b := ((((((r_10.1.Amount != 150) || (r_10.1.Age != 140)) || ((r_10.1.Woods 2) != 100)) || ((r_10.1.Woods 3) != 40)) || ((r_10.1.Places 1) != 40)) || (r_10.1.Creditor != (-1)))) (b' := (r_10.2 != 0)) 3 79 (fun hb70 => ?_) (fun hb71 => ?_) (fun F_72 l_73 => ?_)
 ·skip
  refine .onH hb70 rfl rfl ?_
  refine .move rfl rfl ?_
  refine .onH hb70 rfl rfl ?_
  refine .neq rfl rfl rfl ?_
  refine .pickFH hb70 rfl rfl rfl ?_
  exact .fin 3 rfl rfl (by kernel_rfl) (Fz.le_refl _)
 ·skip
  refine .offH hb71 rfl rfl rfl ?_
  refine .offH hb71 rfl rfl rfl ?_
  refine .pickTH hb71 rfl rfl rfl ?_
  exact .fin 3 rfl rfl (by kernel_rfl) (Fz.le_refl _)
 refine .move rfl rfl ?_
 refine .orP (b := (((((((r_10.1.Amount != 150) || (r_10.1.Age != 140)) || ((r_10.1.Woods 2) != 100)) || ((r_10.1.Woods 3) != 40)) || ((r_10.1.Places 1) != 40)) || (r_10.1.Creditor != (-1))) || (r_10.2 != 0))) (b' := (r_14.1.Amount != 200)) 4 84 (fun hb74 => ?_) (fun hb75 => ?_) (fun F_76 l_77 => ?_)
 ·skip
  refine .onH hb74 rfl rfl ?_
  refine .fieldAddr rfl Try.underlying31 rfl Try.sizeOf3 rfl ?_
  refine .onH hb74 rfl rfl ?_
  refine .loadO rfl Try.isAgg3 rfl (i := 0) rfl rfl ?_
  refine .onH hb74 rfl rfl ?_
  refine .neq rfl rfl rfl ?_
  refine .pickFH hb74 rfl rfl rfl ?_
  exact .fin 4 rfl rfl (by kernel_rfl) (Fz.le_refl _)
 ·skip
  refine .offH hb75 rfl rfl rfl ?_
  refine .offH hb75 rfl rfl rfl ?_
  refine .offH hb75 rfl rfl rfl ?_
  refine .pickTH hb75 rfl rfl rfl ?_
  exact .fin 4 rfl rfl (by kernel_rfl) (Fz.le_refl _)
 refine .move rfl rfl ?_
 refine .orP (b := ((((((((r_10.1.Amount != 150) || (r_10.1.Age != 140)) || ((r_10.1.Woods 2) != 100)) || ((r_10.1.Woods 3) != 40)) || ((r_10.1.Places 1) != 40)) || (r_10.1.Creditor != (-1))) || (r_10.2 != 0)) || (r_14.1.Amount != 200))) (b' := (r_14.1.Age != 50)) 4 89 (fun hb78 => ?_) (fun hb79 => ?_) (fun F_80 l_81 => ?_)
 ·skip
  refine .onH hb78 rfl rfl ?_
  refine .fieldAddr rfl Try.underlying31 rfl Try.sizeOf3 rfl ?_
  refine .onH hb78 rfl rfl ?_
  refine .loadO rfl Try.isAgg3 rfl (i := 0) rfl rfl ?_
  refine .onH hb78 rfl rfl ?_
  refine .neq rfl rfl rfl ?_
  refine .pickFH hb78 rfl rfl rfl ?_
  exact .fin 4 rfl rfl (by kernel_rfl) (Fz.le_refl _)
 ·skip
  refine .offH hb79 rfl rfl rfl ?_
  refine .offH hb79 rfl rfl rfl ?_
  refine .offH hb79 rfl rfl rfl ?_
  refine .pickTH hb79 rfl rfl rfl ?_
  exact .fin 4 rfl rfl (by kernel_rfl) (Fz.le_refl _)
 refine .move rfl rfl ?_
 refine .orP (b := (((((((((r_10.1.Amount != 150) || (r_10.1.Age != 140)) || ((r_10.1.Woods 2) != 100)) || ((r_10.1.Woods 3) != 40)) || ((r_10.1.Places 1) != 40)) || (r_10.1.Creditor != (-1))) || (r_10.2 != 0)) || (r_14.1.Amount != 200)) || (r_14.1.Age != 50))) (b' := ((r_14.1.Woods 2) != 0)) 5 95 (fun hb82 => ?_) (fun hb83 => ?_) (fun F_84 l_85 => ?_)
 ·skip
  refine .onH hb82 rfl rfl ?_
  refine .fieldAddr rfl Try.underlying31 rfl Try.sizeOf29 rfl ?_
  refine .onH hb82 rfl rfl ?_
  refine .indexAddrA rfl Try.underlying29 Try.sizeOf3 rfl rfl (j := 2) rfl ?_
  refine .onH hb82 rfl rfl ?_
  refine .loadO rfl Try.isAgg3 rfl (i := 0) rfl rfl ?_
  refine .onH hb82 rfl rfl ?_
  refine .neq rfl rfl rfl ?_
  refine .pickFH hb82 rfl rfl rfl ?_
  exact .fin 5 rfl rfl (by kernel_rfl) (Fz.le_refl _)
 ·skip
  refine .offH hb83 rfl rfl rfl ?_
  refine .offH hb83 rfl rfl rfl ?_
  refine .offH hb83 rfl rfl rfl ?_
  refine .offH hb83 rfl rfl rfl ?_
  refine .pickTH hb83 rfl rfl rfl ?_
  exact .fin 5 rfl rfl (by kernel_rfl) (Fz.le_refl _)
 refine .move rfl rfl ?_
 refine .orP (b := ((((((((((r_10.1.Amount != 150) || (r_10.1.Age != 140)) || ((r_10.1.Woods 2) != 100)) || ((r_10.1.Woods 3) != 40)) || ((r_10.1.Places 1) != 40)) || (r_10.1.Creditor != (-1))) || (r_10.2 != 0)) || (r_14.1.Amount != 200)) || (r_14.1.Age != 50)) || ((r_14.1.Woods 2) != 0))) (b' := (r_14.1.Creditor != 30)) 4 100 (fun hb86 => ?_) (fun hb87 => ?_) (fun F_88 l_89 => ?_)
 ·skip
  refine .onH hb86 rfl rfl ?_
  refine .fieldAddr rfl Try.underlying31 rfl Try.sizeOf3 rfl ?_
  refine .onH hb86 rfl rfl ?_
  refine .loadO rfl Try.isAgg3 rfl (i := 0) rfl rfl ?_
  refine .onH hb86 rfl rfl ?_
  refine .neq rfl rfl rfl ?_
  refine .pickFH hb86 rfl rfl rfl ?_
  exact .fin 4 rfl rfl (by kernel_rfl) (Fz.le_refl _)
 ·skip
  refine .offH hb87 rfl rfl rfl ?_
  refine .offH hb87 rfl rfl rfl ?_
  refine .offH hb87 rfl rfl rfl ?_
  refine .pickTH hb87 rfl rfl rfl ?_
  exact .fin 4 rfl rfl (by kernel_rfl) (Fz.le_refl _)
 refine .move rfl rfl ?_
 refine .orP (b := (((((((((((r_10.1.Amount != 150) || (r_10.1.Age != 140)) || ((r_10.1.Woods 2) != 100)) || ((r_10.1.Woods 3) != 40)) || ((r_10.1.Places 1) != 40)) || (r_10.1.Creditor != (-1))) || (r_10.2 != 0)) || (r_14.1.Amount != 200)) || (r_14.1.Age != 50)) || ((r_14.1.Woods 2) != 0)) || (r_14.1.Creditor != 30))) (b' := (r_14.2 != 0)) 3 104 (fun hb90 => ?_) (fun hb91 => ?_) (fun F_92 l_93 => ?_)
 ·skip
  refine .onH hb90 rfl rfl ?_
  refine .move rfl rfl ?_
  refine .onH hb90 rfl rfl ?_
  refine .neq rfl rfl rfl ?_
  refine .pickFH hb90 rfl rfl rfl ?_
  exact .fin 3 rfl rfl (by kernel_rfl) (Fz.le_refl _)
 ·skip
  refine .offH hb91 rfl rfl rfl ?_
  refine .offH hb91 rfl rfl rfl ?_
  refine .pickTH hb91 rfl rfl rfl ?_
  exact .fin 3 rfl rfl (by kernel_rfl) (Fz.le_refl _)
 refine .nil ?_
 refine .keep (.cons (k := 6) rfl (.cons (k := 7) rfl (.cons (k := 9) rfl (.cons (k := 10) rfl (.cons (k := 11) rfl (.cons (k := 12) rfl (.cons (k := 13) rfl (.cons (k := 104) rfl (.nil _))))))))) ?_
 refine .code ?_
 refine .cond rfl (fun hb94 => ?_) (fun hb94 => ?_)
 ·skip
  refine .seq ?_
  refine .region ?_
  refine .assign rfl rfl ?_
  refine .nil ?_
  refine .code ?_
  exact .ret0 Try.results11 (.tmp rfl (.nil)) (i := 2) rfl (Fz.le_trans l_2 (Fz.le_trans l_9 (Fz.le_trans l_13 (Fz.le_trans l_17 (Fz.le_trans l_24 (Fz.le_trans l_33 (Fz.le_trans l_36 (Fz.le_trans l_42 (Fz.le_trans l_53 (Fz.le_trans l_57 (Fz.le_trans l_61 (Fz.le_trans l_65 (Fz.le_trans l_69 (Fz.le_trans l_73 (Fz.le_trans l_77 (Fz.le_trans l_81 (Fz.le_trans l_85 (Fz.le_trans l_89 l_93)))))))))))))))))) rfl
 ·skip
  refine .skip ?_
  refine .code ?_
  refine .seq ?_
  refine .region ?_
  refine .move rfl rfl ?_
  refine .sliceLit (cs := [.int .i64 2, .int .i64 5]) (zc := [.int .i64 0, .int .i64 0]) rfl Try.underlying36 Try.sizeOf3 Try.zeroValue3 rfl rfl rfl (by kernel_rfl) (by kernel_rfl) (fun b95 F_96 l_97 hb98 => ?_)
  have h99 : RepSl 1 (Ex (cInt .i64)) F_96 (some ⟨b95, 0, none⟩) 2 ([2, 5]) := RepSl.ofRow hb98 (.cons ok_t3.mono rfl (.cons ok_t3.mono rfl .nil)) rfl rfl
  refine .call0 rfl Try.call21 rfl rfl rfl (c_wormtubref06_Ints _ r_18.1 p19 k20 (h21.mono (Fz.le_trans l_24 (Fz.le_trans l_33 (Fz.le_trans l_36 (Fz.le_trans l_42 (Fz.le_trans l_53 (Fz.le_trans l_57 (Fz.le_trans l_61 (Fz.le_trans l_65 (Fz.le_trans l_69 (Fz.le_trans l_73 (Fz.le_trans l_77 (Fz.le_trans l_81 (Fz.le_trans l_85 (Fz.le_trans l_89 (Fz.le_trans l_93 l_97)))))))))))))))) ([2, 5]) (some ⟨b95, 0, none⟩) 2 h99) ?_
  rintro r_102 F_100 _ - l_101 rfl
  refine .move rfl rfl ?_
  refine .andP (b := r_102) (b' := (r_18.2 == 0)) 3 111 (fun hb103 => ?_) (fun hb104 => ?_) (fun F_105 l_106 => ?_)
  ·skip
   refine .onH hb103 rfl rfl ?_
   refine .move rfl rfl ?_
   refine .onH hb103 rfl rfl ?_
   refine .eql rfl rfl rfl ?_
   refine .pickTH hb103 rfl rfl rfl ?_
   exact .fin 3 rfl rfl (by kernel_rfl) (Fz.le_refl _)
  ·skip
   refine .offH hb104 rfl rfl rfl ?_
   refine .offH hb104 rfl rfl rfl ?_
   refine .pickFH hb104 rfl rfl rfl ?_
   exact .fin 3 rfl rfl (by kernel_rfl) (Fz.le_refl _)
  refine .move rfl rfl ?_
  refine .andP (b := (r_102 && (r_18.2 == 0))) (b' := (r_37.2.1 == 7)) 3 115 (fun hb107 => ?_) (fun hb108 => ?_) (fun F_109 l_110 => ?_)
  ·skip
   refine .onH hb107 rfl rfl ?_
   refine .move rfl rfl ?_
   refine .onH hb107 rfl rfl ?_
   refine .eql rfl rfl rfl ?_
   refine .pickTH hb107 rfl rfl rfl ?_
   exact .fin 3 rfl rfl (by kernel_rfl) (Fz.le_refl _)
  ·skip
   refine .offH hb108 rfl rfl rfl ?_
   refine .offH hb108 rfl rfl rfl ?_
   refine .pickFH hb108 rfl rfl rfl ?_
   exact .fin 3 rfl rfl (by kernel_rfl) (Fz.le_refl _)
  refine .move rfl rfl ?_
  refine .andP (b := ((r_102 && (r_18.2 == 0)) && (r_37.2.1 == 7))) (b' := (r_37.2.2 == 11)) 3 119 (fun hb111 => ?_) (fun hb112 => ?_) (fun F_113 l_114 => ?_)
  ·skip
   refine .onH hb111 rfl rfl ?_
   refine .move rfl rfl ?_
   refine .onH hb111 rfl rfl ?_
   refine .eql rfl rfl rfl ?_
   refine .pickTH hb111 rfl rfl rfl ?_
   exact .fin 3 rfl rfl (by kernel_rfl) (Fz.le_refl _)
  ·skip
   refine .offH hb112 rfl rfl rfl ?_
   refine .offH hb112 rfl rfl rfl ?_
   refine .pickFH hb112 rfl rfl rfl ?_
   exact .fin 3 rfl rfl (by kernel_rfl) (Fz.le_refl _)
  refine .move rfl rfl ?_
  refine .andP (b := (((r_102 && (r_18.2 == 0)) && (r_37.2.1 == 7)) && (r_37.2.2 == 11))) (b' := ((r_43.1.length : Int) == 0)) 4 124 (fun hb115 => ?_) (fun hb116 => ?_) (fun F_117 l_118 => ?_)
  ·skip
   refine .onH hb115 rfl rfl ?_
   refine .move rfl rfl ?_
   refine .onH hb115 rfl rfl ?_
   refine .lenS rfl rfl Try.underlying36 rfl ?_
   refine .onH hb115 rfl rfl ?_
   refine .eql rfl rfl rfl ?_
   refine .pickTH hb115 rfl rfl rfl ?_
   exact .fin 4 rfl rfl (by kernel_rfl) (Fz.le_refl _)
  ·skip
   refine .offH hb116 rfl rfl rfl ?_
   refine .offH hb116 rfl rfl rfl ?_
   refine .offH hb116 rfl rfl rfl ?_
   refine .pickFH hb116 rfl rfl rfl ?_
   exact .fin 4 rfl rfl (by kernel_rfl) (Fz.le_refl _)
  refine .move rfl rfl ?_
  refine .andM (b := ((((r_102 && (r_18.2 == 0)) && (r_37.2.1 == 7)) && (r_37.2.2 == 11)) && ((r_43.1.length : Int) == 0))) 4 129 (fun hb119 z132 => ?_) (fun hb128 => ?_) (fun z131 F_129 l_130 => ?_)
  ·skip
   refine .onH hb119 rfl rfl ?_
   refine .move rfl rfl ?_
   refine .onH hb119 rfl rfl ?_
   refine .sliceLit (cs := [.int .i64 2]) (zc := [.int .i64 0]) rfl Try.underlying36 Try.sizeOf3 Try.zeroValue3 rfl rfl rfl (by kernel_rfl) (by kernel_rfl) (fun b120 F_121 l_122 hb123 => ?_)
   have h124 : RepSl 1 (Ex (cInt .i64)) F_121 (some ⟨b120, 0, none⟩) 1 ([2]) := RepSl.ofRow hb123 (.cons ok_t3.mono rfl .nil) rfl rfl
   refine .onH hb119 rfl rfl ?_
   refine .call0 rfl Try.call21 rfl rfl rfl (c_wormtubref06_Ints _ r_43.2.1 p47 k48 (h49.mono (Fz.le_trans l_53 (Fz.le_trans l_57 (Fz.le_trans l_61 (Fz.le_trans l_65 (Fz.le_trans l_69 (Fz.le_trans l_73 (Fz.le_trans l_77 (Fz.le_trans l_81 (Fz.le_trans l_85 (Fz.le_trans l_89 (Fz.le_trans l_93 (Fz.le_trans l_97 (Fz.le_trans l_101 (Fz.le_trans l_106 (Fz.le_trans l_110 (Fz.le_trans l_114 (Fz.le_trans l_118 l_122)))))))))))))))))) ([2]) (some ⟨b120, 0, none⟩) 1 h124) ?_
   rintro r_127 F_125 _ - l_126 rfl
   refine .pickTH hb119 rfl rfl rfl ?_
   exact .finZ 4 rfl rfl (by kernel_rfl) (Fz.le_trans l_122 l_126)
  ·skip
   refine .offH hb128 rfl rfl rfl ?_
   refine .offH hb128 rfl rfl rfl ?_
   refine .offH hb128 rfl rfl rfl ?_
   refine .pickFH hb128 rfl rfl rfl ?_
   exact .fin 4 rfl rfl (by kernel_rfl) (Fz.le_refl _)
  refine .move rfl rfl ?_
  refine .andP (b := z131) (b' := (r_43.2.2 == 0)) 3 133 (fun hb133 => ?_) (fun hb134 => ?_) (fun F_135 l_136 => ?_)
  ·skip
   refine .onH hb133 rfl rfl ?_
   refine .move rfl rfl ?_
   refine .onH hb133 rfl rfl ?_
   refine .eql rfl rfl rfl ?_
   refine .pickTH hb133 rfl rfl rfl ?_
   exact .fin 3 rfl rfl (by kernel_rfl) (Fz.le_refl _)
  ·skip
   refine .offH hb134 rfl rfl rfl ?_
   refine .offH hb134 rfl rfl rfl ?_
   refine .pickFH hb134 rfl rfl rfl ?_
   exact .fin 3 rfl rfl (by kernel_rfl) (Fz.le_refl _)
  refine .assign rfl rfl ?_
  refine .nil ?_
  refine .code ?_
  exact .ret0 Try.results11 (.tmp rfl (.nil)) (i := 2) rfl (Fz.le_trans l_2 (Fz.le_trans l_9 (Fz.le_trans l_13 (Fz.le_trans l_17 (Fz.le_trans l_24 (Fz.le_trans l_33 (Fz.le_trans l_36 (Fz.le_trans l_42 (Fz.le_trans l_53 (Fz.le_trans l_57 (Fz.le_trans l_61 (Fz.le_trans l_65 (Fz.le_trans l_69 (Fz.le_trans l_73 (Fz.le_trans l_77 (Fz.le_trans l_81 (Fz.le_trans l_85 (Fz.le_trans l_89 (Fz.le_trans l_93 (Fz.le_trans l_97 (Fz.le_trans l_101 (Fz.le_trans l_106 (Fz.le_trans l_110 (Fz.le_trans l_114 (Fz.le_trans l_118 (Fz.le_trans l_130 l_136)))))))))))))))))))))))))) rfl
end Go.Proofs.Ytkedjmhhcekmiaa
end

section
namespace Go.Proofs.Ytkedjmhhcekmiaa
open Go.Dec
def zC : ApiCask := ⟨0, 0, 0, 0, 0, 0, 0, 0, zN, zN⟩
def findH (all : List Held) (num : Int) : Option Held := (findS all num).bind fun i => all[i]?
def tellS (l : List Ev) (num day : Int) : ApiCask × Int := match (playS l day).1 with
  | .inr e => (zC, e)
  | .inl all => match findH all num with
    | none => (zC, 4)
    | some h => (h.C, 0)
def srcS (l : List Ev) (num day : Int) : List Int × Int := match (playS l day).1 with
  | .inr e => ([], e)
  | .inl all => match findH all num with
    | none => ([], 4)
    | some h => (h.Fills, 0)
theorem playS_err {l : List Ev} {day e : Int} {k : Nat} (h : playS l day = (.inr e, k)) : e ≠ 0 := by
  have := play_prog l day
  rw [h] at this
  exact this.2
theorem playS_ok {l : List Ev} {day : Int} {all : List Held} {k : Nat} (h : playS l day = (.inl all, k)) : AOk day k all ∧ k ≤ 4096 ∧ 0 ≤ day ∧ day ≤ 65536 := by
  have := play_prog l day
  rw [h] at this
  obtain ⟨_, _, _, _, _, _, _, _, h1, h2, h3, h4⟩ := this
  exact ⟨h1, h2, h3, h4⟩
theorem CR.now {t : Int} {n : Nat} {A3 : FM} {c : CaskCask} {h : Held} (r : CR t n A3 c h) (hs : c.since = t) : h = rawOf c h.Fills := by
  have := r.eq
  rw [hs, Int.sub_self, older_0] at this
  exact this
theorem find_look {all : List Held} {num : Int} {i : Nat} (h : findS all num = some i) : ∃ hh, all[i]? = some hh ∧ findH all num = some hh := by
  obtain ⟨hh, h1, _⟩ := find_some h
  exact ⟨hh, h1, by simp [findH, h, h1]⟩
theorem PR.look {t : Int} {n : Nat} {all : List Held} {A1 : List CaskCask} {A3 : FM} {m : List (Int × Option Nat)} (r : PR t n all A1 A3 m) (hs : ∀ c ∈ A1, c.since = t) {i : Nat} {h : Held} (hh : all[i]? = some h) : ∃ c, A1[i]? = some c ∧ h = rawOf c h.Fills ∧ FR A3 c.fills h.Fills := by
  have hi : i < A1.length := by rw [r.len]; exact (List.getElem?_eq_some_iff.1 hh).1
  have hc : A1[i]? = some A1[i] := List.getElem?_eq_getElem hi
  have hcr := r.each i _ h hc hh
  exact ⟨_, hc, hcr.now (hs _ (List.getElem_mem _)), hcr.fills⟩
theorem At_prog (l : List Ev) (num day : Int) : m_cask_At l num day = some (tellS l num day) := by
  have hp := play_prog l day
  unfold m_cask_At tellS
  cases hpl : playS l day with
  | mk r k =>
    rw [hpl] at hp
    cases r with
    | inr e =>
      rw [hp.1, Option.bind_some]
      have : (e != 0) = true := by simpa using hp.2
      simp only [this, if_true]
      rfl
    | inl all =>
      obtain ⟨A1, b, A3, m, h1, hb, hr, hs, _⟩ := hp
      rw [h1, Option.bind_some]
      have e0 : ((0 : Int) != 0) = false := rfl
      simp only [e0, Bool.false_eq_true, if_false, Option.bind_some, List.getElem?_cons_zero, hb, hr.get]
      cases hf : findS all num with
      | none => simp [findH, hf]; rfl
      | some i =>
        obtain ⟨h, hh, hfh⟩ := find_look hf
        obtain ⟨c, hc, hraw, _⟩ := hr.look hs hh
        simp only [Option.isNone_some, Bool.false_eq_true, if_false, hfh]
        unfold m_cask_cask_shown
        simp only [Option.bind_some, hc]
        have : h.C = (rawOf c h.Fills).C := by rw [← hraw]
        rw [this]; rfl
theorem sortedO_fills {A3 : FM} {p : Option Nat} {F : List Int} {n : Nat} (h : FR A3 p F) (hF : F.Pairwise (· < ·) ∧ ∀ f ∈ F, 0 ≤ f ∧ f < n) (hn : n ≤ 4096) : sortedO A3 p = some F := by
  cases p with
  | none => have : F = [] := h; subst this; rfl
  | some j =>
    obtain ⟨l, h1, h2, h3⟩ := h
    have hFn : F.Nodup := hF.1.imp fun h => Int.ne_of_lt h
    have hperm : (l.map Prod.fst).Perm F := (List.perm_ext_iff_of_nodup h2 hFn).2 fun x => (h3 x).symm
    have hlen : l.length = F.length := by rw [← hperm.length_eq]; simp
    have hfl := sorted_len 0 hF.1 (n := n) hF.2 (by omega)
    have hall : l.all (fun x => decide (-9223372036854775808 ≤ x.1 ∧ x.1 ≤ 9223372036854775807)) = true := List.all_eq_true.2 fun x hx => by
      have := hF.2 x.1 ((h3 x.1).2 (List.mem_map_of_mem hx))
      simp only [decide_eq_true_eq]
      omega
    have hk : keysS l = some ((l.map Prod.fst).mergeSort (fun a b => decide (a ≤ b))) := by
      unfold keysS; rw [if_pos ⟨hall, by omega⟩]
    have e : sortedO A3 (some j) = keysS l := by simp [sortedO, h1]
    rw [e, hk, sort_eq hperm]
    congr 1
    exact List.mergeSort_of_pairwise (hF.1.imp fun h => by simpa using Int.le_of_lt h)
theorem Sources_prog (l : List Ev) (num day : Int) : m_cask_Sources l num day = some (srcS l num day) := by
  have hp := play_prog l day
  unfold m_cask_Sources srcS
  cases hpl : playS l day with
  | mk r k =>
    rw [hpl] at hp
    cases r with
    | inr e =>
      rw [hp.1, Option.bind_some]
      have : (e != 0) = true := by simpa using hp.2
      simp only [this, if_true]
    | inl all =>
      obtain ⟨A1, b, A3, m, h1, hb, hr, hs, hok, hk, _⟩ := hp
      rw [h1, Option.bind_some]
      have e0 : ((0 : Int) != 0) = false := rfl
      simp only [e0, Bool.false_eq_true, if_false, Option.bind_some, List.getElem?_cons_zero, hb, hr.get]
      cases hf : findS all num with
      | none => simp [findH, hf]
      | some i =>
        obtain ⟨h, hh, hfh⟩ := find_look hf
        obtain ⟨c, hc, hraw, hfr⟩ := hr.look hs hh
        have hho := hok.each h (List.mem_of_getElem? hh)
        simp only [Option.isNone_some, Bool.false_eq_true, if_false, hfh, Option.bind_some, hc]
        rw [sortedO_fills hfr hho.fills hk]
        rfl
end Go.Proofs.Ytkedjmhhcekmiaa
end

section
namespace Go.Proofs.Ytkedjmhhcekmiaa
open Go.Dec
def numsS (all : List Held) : List Int := (all.map (·.C.Number)).mergeSort (fun a b => decide (a ≤ b))
def ordS (all : List Held) : List Held := (numsS all).filterMap (findH all)
theorem nums_perm (all : List Held) : (numsS all).Perm (all.map (·.C.Number)) := List.mergeSort_perm _ _
theorem nums_sorted {all : List Held} (hn : (all.map (·.C.Number)).Nodup) : (numsS all).Pairwise (· < ·) := by
  have h1 : (numsS all).Pairwise (fun a b => decide (a ≤ b) = true) := List.pairwise_mergeSort (fun a b c h1 h2 => by simp only [decide_eq_true_eq] at *; omega) (fun a b => by simp only [Bool.or_eq_true, decide_eq_true_eq]; omega) _
  have h2 : (numsS all).Nodup := ((nums_perm all).nodup_iff).2 hn
  exact (h1.and h2).imp fun ⟨a, b⟩ => by simp only [decide_eq_true_eq] at a; omega
theorem find_ex {all : List Held} {num : Int} (h : num ∈ all.map (·.C.Number)) : ∃ i hh, findS all num = some i ∧ all[i]? = some hh ∧ findH all num = some hh ∧ hh.C.Number = num := by
  cases hf : findS all num with
  | none =>
    obtain ⟨x, hx, e⟩ := List.mem_map.1 h
    exact absurd e (find_none hf x hx)
  | some i =>
    obtain ⟨hh, h1, h2⟩ := find_look hf
    obtain ⟨h', h3, h4⟩ := find_some hf
    rw [h1] at h3; cases h3
    exact ⟨i, hh, rfl, h1, h2, h4⟩
section
variable {t : Int} {n : Nat} {all : List Held} {A1 : List CaskCask} {A3 : FM} {m : List (Int × Option Nat)} {b : CaskBook}
theorem keys_of (r : PR t n all A1 A3 m) (ho : AOk t n all) : keysS m = some (numsS all) := by
  have hk : m.map Prod.fst = all.map (·.C.Number) := by
    rw [r.map]
    apply List.ext_getElem?
    intro i
    simp only [List.getElem?_map, List.getElem?_mapIdx]
    by_cases h : i < A1.length
    · have h2 : i < all.length := by rw [← r.len]; exact h
      rw [List.getElem?_eq_getElem h, List.getElem?_eq_getElem h2]
      simp only [Option.map_some]
      rw [(r.each i _ _ (List.getElem?_eq_getElem h) (List.getElem?_eq_getElem h2)).number]
    · rw [List.getElem?_eq_none (by omega), List.getElem?_eq_none (by rw [← r.len]; omega)]; rfl
  have hl : m.length = all.length := by rw [← List.length_map (f := Prod.fst), hk, List.length_map]
  have hall : m.all (fun x => decide (-9223372036854775808 ≤ x.1 ∧ x.1 ≤ 9223372036854775807)) = true := List.all_eq_true.2 fun x hx => by
    have h1 : x.1 ∈ all.map (·.C.Number) := by rw [← hk]; exact List.mem_map_of_mem hx
    obtain ⟨h, hh, e⟩ := List.mem_map.1 h1
    have := (ho.each h hh).num
    simp only [decide_eq_true_eq]
    omega
  unfold keysS
  rw [if_pos ⟨hall, by have := ho.few; omega⟩, hk]
  rfl
theorem ordered_prog (r : PR t n all A1 A3 m) (ho : AOk t n all) (hb : b.casks = some 0) : L_cask_book_ordered_1 [b] [m] (some 0) = some ((numsS all).map (findS all)) := by
  unfold L_cask_book_ordered_1
  simp only [Option.bind_some, List.getElem?_cons_zero, hb, keys_of r ho]
  congr 1
  exact List.map_congr_left fun k _ => r.get k
theorem forL_Play (hs : ∀ c ∈ A1, c.since = t) (r : PR t n all A1 A3 m) : ∀ (ks : List Int) (out : List ApiCask), (∀ k ∈ ks, k ∈ all.map (·.C.Number)) → out.length + ks.length ≤ 1000000 →
    forL b_cask_Play_1 (ks.map (findS all)) (out, A1) = some (out ++ (ks.filterMap (findH all)).map (·.C), A1)
  | [], out, _, _ => by simp [forL]
  | k :: ks, out, hk, hl => by
    obtain ⟨i, h, h1, h2, h3, h4⟩ := find_ex (hk k (by simp))
    obtain ⟨c, hc, hraw, _⟩ := r.look hs h2
    have hsh : m_cask_cask_shown A1 (some i) = some h.C := by
      unfold m_cask_cask_shown
      simp only [Option.bind_some, hc]
      have : h.C = (rawOf c h.Fills).C := by rw [← hraw]
      rw [this]; rfl
    have hb : b_cask_Play_1 (some i) (out, A1) = some (out ++ [h.C], A1) := by
      unfold b_cask_Play_1
      rw [hsh, Option.bind_some]
      simp only [List.length_cons] at hl
      rw [appO_some' (by simp; omega)]
      rfl
    simp only [List.map_cons, forL, h1, hb, Option.bind_some]
    rw [forL_Play hs r ks (out ++ [h.C]) (fun k' hk' => hk k' (List.mem_cons_of_mem _ hk')) (by simp at hl ⊢; omega)]
    rw [List.filterMap_cons, h3]
    simp
end
def allS' (l : List Ev) (day : Int) : List ApiCask × Int × Int := match playS l day with
  | (.inr e, k) => ([], (k : Int), e)
  | (.inl all, k) => ((ordS all).map (·.C), (k : Int), 0)
theorem Play_prog (l : List Ev) (day : Int) : m_cask_Play l day = some (allS' l day) := by
  have hp := play_prog l day
  unfold m_cask_Play allS'
  cases hpl : playS l day with
  | mk r k =>
    rw [hpl] at hp
    cases r with
    | inr e =>
      rw [hp.1, Option.bind_some]
      have : (e != 0) = true := by simpa using hp.2
      simp only [this, if_true]
    | inl all =>
      obtain ⟨A1, b, A3, m, h1, hb, hr, hs, hok, hk, _⟩ := hp
      rw [h1, Option.bind_some]
      have e0 : ((0 : Int) != 0) = false := rfl
      simp only [e0, Bool.false_eq_true, if_false, Option.bind_some]
      rw [ordered_prog hr hok hb, Option.bind_some]
      have hlen : (numsS all).length = all.length := by rw [(nums_perm all).length_eq]; simp
      rw [forL_Play hs hr (numsS all) [] (fun k hk => (nums_perm all).mem_iff.1 hk) (by have := hok.few; simp; omega), Option.bind_some]
      rfl
end Go.Proofs.Ytkedjmhhcekmiaa
end

section
namespace Go.Proofs.Ytkedjmhhcekmiaa
open Go.Dec
section
variable {all : List Held} {last : Int} {n : Nat}
theorem ord_len (_ho : AOk last n all) : (ordS all).length = all.length := by
  have h1 : (ordS all).length = (numsS all).length := by
    unfold ordS
    have : ∀ S : List Int, (∀ k ∈ S, (findH all k).isSome) → (S.filterMap (findH all)).length = S.length := fun S => by
      induction S with
      | nil => intro _; rfl
      | cons k S ih =>
        intro h
        obtain ⟨y, hy⟩ := Option.isSome_iff_exists.1 (h k (by simp))
        rw [List.filterMap_cons, hy]
        simp [ih (fun k' hk' => h k' (List.mem_cons_of_mem _ hk'))]
    refine this _ fun k hk => ?_
    obtain ⟨i, hh, _, _, h3, _⟩ := find_ex ((nums_perm all).mem_iff.1 hk)
    rw [h3]; rfl
  rw [h1, (nums_perm all).length_eq, List.length_map]
end
end Go.Proofs.Ytkedjmhhcekmiaa
end

section
namespace Go.Proofs.Ytkedjmhhcekmiaa
open Go.Dec
def ownC (p : Int) (l : List ApiCask) : List Int := (l.filter (fun c => c.Owner == p)).map (·.Number)
def plgC (p : Int) (l : List ApiCask) : List Int := (l.filter (fun c => c.Creditor == p && decide (p ≥ 0))).map (·.Number)
def ownS (l : List Ev) (p day : Int) : List Int × List Int × Int := (ownC p (allS' l day).1, plgC p (allS' l day).1, (allS' l day).2.2)
section
variable {t : Int} {n k : Nat} {all : List Held} {A1 : List CaskCask} {A3 : FM} {m : List (Int × Option Nat)} {b : CaskBook}
theorem forL_Owned (hs : ∀ c ∈ A1, c.since = t) (r : PR t n all A1 A3 m) (ho : AOk t n all) (p : Int) (Bk : List CaskBook) (M : List (List (Int × Option Nat))) : ∀ (ks : List Int) (o1 o2 : List Int), (∀ k ∈ ks, k ∈ all.map (·.C.Number)) → o1.length + ks.length ≤ 1000000 → o2.length + ks.length ≤ 1000000 →
    forL (b_cask_Owned_1 p (some 0, (k : Int), 0, A1, Bk, A3, M)) (ks.map (findS all)) (o1, o2) = some (o1 ++ ownC p ((ks.filterMap (findH all)).map (·.C)), o2 ++ plgC p ((ks.filterMap (findH all)).map (·.C)))
  | [], o1, o2, _, _, _ => by simp [forL, ownC, plgC]
  | kk :: ks, o1, o2, hk, hl1, hl2 => by
    obtain ⟨i, h, h1, h2, h3, h4⟩ := find_ex (hk kk (by simp))
    obtain ⟨c, hc, hraw, _⟩ := r.look hs h2
    have hh := ho.each h (List.mem_of_getElem? h2)
    have a1 : h.C.Owner = c.owner := by rw [hraw]; rfl
    have a2 : h.C.Creditor = c.creditor := by rw [hraw]; rfl
    have a3 : h.C.Number = c.number := by rw [hraw]; rfl
    have hcr := hh.cred
    rw [a2] at hcr
    simp only [List.length_cons] at hl1 hl2
    have p1 : appO o1 [c.number] = some (o1 ++ [c.number]) := appO_some' (by simp; omega)
    have p2 : appO o2 [c.number] = some (o2 ++ [c.number]) := appO_some' (by simp; omega)
    have hb : b_cask_Owned_1 p (some 0, (k : Int), 0, A1, Bk, A3, M) (some i) (o1, o2) = some (o1 ++ (if c.owner == p then [c.number] else []), o2 ++ (if c.creditor == p && decide (p ≥ 0) then [c.number] else [])) := by
      unfold b_cask_Owned_1
      simp only [Option.bind_some, hc, p1, p2]
      have key : (c.creditor == p) = true → (p != -1) = decide (p ≥ 0) := fun e => by
        have e' : c.creditor = p := by simpa using e
        by_cases hp : p ≥ 0
        · rw [decide_eq_true hp]; simp; omega
        · rw [decide_eq_false hp]; simp; omega
      cases e1 : c.owner == p with
      | true =>
        cases e2 : c.creditor == p with
        | true => rw [key e2]; cases decide (p ≥ 0) <;> simp
        | false => simp
      | false =>
        cases e2 : c.creditor == p with
        | true => rw [key e2]; cases decide (p ≥ 0) <;> simp
        | false => simp
    simp only [List.map_cons, forL, h1, hb, Option.bind_some]
    rw [forL_Owned hs r ho p Bk M ks _ _ (fun k' hk' => hk k' (List.mem_cons_of_mem _ hk')) (by split <;> simp <;> omega) (by split <;> simp <;> omega)]
    rw [List.filterMap_cons, h3]
    unfold ownC plgC
    simp only [List.map_cons, List.filter_cons, a1, a2]
    cases e1 : c.owner == p <;> cases e2 : (c.creditor == p && decide (p ≥ 0)) <;> simp [a3]
end
theorem Owned_prog (l : List Ev) (p day : Int) : m_cask_Owned l p day = some (ownS l p day) := by
  have hp := play_prog l day
  unfold m_cask_Owned ownS allS'
  cases hpl : playS l day with
  | mk r k =>
    rw [hpl] at hp
    cases r with
    | inr e =>
      rw [hp.1, Option.bind_some]
      have : (e != 0) = true := by simpa using hp.2
      simp only [this, if_true]
      rfl
    | inl all =>
      obtain ⟨A1, b, A3, m, h1, hb, hr, hs, hok, hk, _⟩ := hp
      rw [h1, Option.bind_some]
      have e0 : ((0 : Int) != 0) = false := rfl
      simp only [e0, Bool.false_eq_true, if_false, Option.bind_some]
      rw [ordered_prog hr hok hb, Option.bind_some]
      have hlen : (numsS all).length = all.length := by rw [(nums_perm all).length_eq]; simp
      have hfew := hok.few
      rw [forL_Owned hs hr hok p [b] [m] (numsS all) [] [] (fun k hk => (nums_perm all).mem_iff.1 hk) (by simp; omega) (by simp; omega), Option.bind_some]
      rfl
theorem Ints_self (a : List Int) (h : a.length ≤ 1000000) : m_wormtubref06_Ints a a = some true := by
  have hl := loop_list (body := b_wormtubref06_Ints_1 a a) (fun (_ : Unit) i => ((i : Nat) : Int)) (fun (_ : Unit) _ (_ : Int) => some (.next ())) (fun _ => (.inl () : Unit ⊕ Bool)) a (fun t i x hx => by
    have hi := (List.getElem?_eq_some_iff.1 hx).1
    have hw : w64 ((i : Int) + 1) = ((i + 1 : Nat) : Int) := by rw [w64_id (by omega) (by omega)]; rfl
    unfold b_wormtubref06_Ints_1
    rw [if_pos (by simp; omega)]
    simp only [idxL_nat, hx, Option.bind_some, bindv, hw, bne_self_eq_false, Bool.false_eq_true, if_false]
    rfl) (fun t => by unfold b_wormtubref06_Ints_1; rw [if_neg (by simp)]) ()
  have hg : ∀ (l : List Int) (i : Nat), goL (fun (_ : Unit) _ (_ : Int) => some (.next ())) (fun _ => (.inl () : Unit ⊕ Bool)) l i () = some (.inl ()) := fun l => by
    induction l with
    | nil => intro i; rfl
    | cons x l ih => intro i; simp only [goL]; exact ih (i + 1)
  rw [hg] at hl
  have hl' : loopM (b_wormtubref06_Ints_1 a a) 0 = some (.inl ()) := hl
  unfold m_wormtubref06_Ints
  rw [if_neg (by simp), hl']; rfl
end Go.Proofs.Ytkedjmhhcekmiaa
end

section
namespace Go.Proofs.Ytkedjmhhcekmiaa
open Go.Dec
def smp : List Ev := [(ApiCaskEvent.mk 0 0 1 2 9 0 500 0), (ApiCaskEvent.mk 0 0 2 3 9 0 300 1), (ApiCaskEvent.mk 1 0 1 0 0 0 400 0), (ApiCaskEvent.mk 2 100 1 2 0 0 150 0), (ApiCaskEvent.mk 4 150 1 0 0 0 0 4), (ApiCaskEvent.mk 1 150 2 0 0 0 50 0), (ApiCaskEvent.mk 6 200 2 0 9 30 0 0)]
def nbR (r : List Held ⊕ Int) : List Int := match r with
  | .inl a => a.map (·.C.Number)
  | .inr _ => []
def ocR (ks : List Int) (r : List Held ⊕ Int) : List ApiCask := match r with
  | .inl a => (ks.filterMap (findH a)).map (·.C)
  | .inr _ => []
theorem own_by {l : List Ev} {p day : Int} {ks : List Int} (hl : (playS l day).1.isLeft = true) (hn : nbR (playS l day).1 = ks) (hk : ks.Pairwise (· < ·)) : ownS l p day = (ownC p (ocR ks (playS l day).1), plgC p (ocR ks (playS l day).1), 0) := by
  unfold ownS allS'
  cases h : playS l day with
  | mk r k =>
    rw [h] at hl hn
    cases r with
    | inr e => cases hl
    | inl all =>
      obtain ⟨hok, _⟩ := playS_ok h
      have hn' : all.map (·.C.Number) = ks := hn
      have : numsS all = ks := sorted_ext (nums_sorted hok.nums) hk fun x => by rw [(nums_perm all).mem_iff, hn']
      simp only [ordS, this]
      rfl
theorem awake_true : m_wormtublaw06_awake = some true := by
  have hs : m_wormtublaw06_sample = some smp := rfl
  have ha : appO smp [(ApiCaskEvent.mk 3 200 2 0 0 0 10 0)] = some (smp ++ [(ApiCaskEvent.mk 3 200 2 0 0 0 10 0)]) := appO_some' (by decide)
  have e1 : ((((((((((((((tellS smp 2 140).1.Amount != 150) || ((tellS smp 2 140).1.Age != 140)) || (((tellS smp 2 140).1.Woods 2) != 100)) || (((tellS smp 2 140).1.Woods 3) != 40)) || (((tellS smp 2 140).1.Places 1) != 40)) || ((tellS smp 2 140).1.Creditor != (-1))) || ((tellS smp 2 140).2 != 0)) || ((tellS smp 2 200).1.Amount != 200)) || ((tellS smp 2 200).1.Age != 50)) || (((tellS smp 2 200).1.Woods 2) != 0)) || ((tellS smp 2 200).1.Creditor != 30)) || ((tellS smp 2 200).2 != 0)) || false) = false := by decide +kernel
  have e2 : srcS smp 2 200 = ([2, 5], 0) := by decide +kernel
  have e3 : (allS' (smp ++ [(ApiCaskEvent.mk 3 200 2 0 0 0 10 0)]) 200).2 = (7, 11) := by decide +kernel
  have e4 : ownS smp 30 200 = ([], [2], 0) := by
    rw [own_by (ks := [1, 2]) (by decide +kernel) (by decide +kernel) (by decide)]
    decide +kernel
  have i1 : m_wormtubref06_Ints [2, 5] [2, 5] = some true := Ints_self _ (by decide)
  have i2 : m_wormtubref06_Ints [2] [2] = some true := Ints_self _ (by decide)
  rw [Bool.or_false] at e1
  unfold m_wormtublaw06_awake
  refine bind_of hs (bind_of (At_prog _ _ _) (bind_of (At_prog _ _ _) (bind_of (Sources_prog _ _ _) (bind_of ha (bind_of (Play_prog _ _) (bind_of (Owned_prog _ _ _) ?_))))))
  rw [e1, e2, e4]
  have e5 : (allS' (smp ++ [(ApiCaskEvent.mk 3 200 2 0 0 0 10 0)]) 200).2.1 = 7 := by rw [e3]
  have e6 : (allS' (smp ++ [(ApiCaskEvent.mk 3 200 2 0 0 0 10 0)]) 200).2.2 = 11 := by rw [e3]
  simp only [Bool.false_eq_true, if_false, i1, Option.bind_some, e5, e6]
  simp [i2]
end Go.Proofs.Ytkedjmhhcekmiaa
end

section
namespace Go.Proofs.Ytkedjmhhcekmiaa
open Go.Dec
inductive EvD (l : List Held) (x : Ev) (num : Int) : List Held → Prop
  | make (k : x.Kind = 0) (f : findS l x.Cask = none) (n : l.length < 256) : EvD l x num (l ++ [newS x])
  | fill (k : x.Kind = 1) (i : Nat) (c : Held) (f : findS l x.Cask = some i) (h : l[i]? = some c) (r : c.C.Amount + x.Amount ≤ c.C.Room) : EvD l x num (l.set i (pourS c (fillS num) x.Amount))
  | rack (k : x.Kind = 2) (i : Nat) (c : Held) (f : findS l x.Cask = some i) (h : l[i]? = some c) (j : Nat) (o : Held) (f' : findS l x.Other = some j) (h' : l[j]? = some o) (ne : i ≠ j)
      (ow : c.C.Owner = o.C.Owner) (c1 : c.C.Creditor < 0) (c2 : o.C.Creditor < 0) (a : x.Amount ≤ c.C.Amount) (r : o.C.Amount + x.Amount ≤ o.C.Room) : EvD l x num ((l.set j (pourS o c x.Amount)).set i (lessS c x.Amount))
  | drain (k : x.Kind = 3) (i : Nat) (c : Held) (f : findS l x.Cask = some i) (h : l[i]? = some c) (c1 : c.C.Creditor < 0) (a : x.Amount ≤ c.C.Amount) : EvD l x num (l.set i (lessS c x.Amount))
  | carry (k : x.Kind = 4) (i : Nat) (c : Held) (f : findS l x.Cask = some i) (h : l[i]? = some c) : EvD l x num (l.set i { c with C := { c.C with Place := x.Where } })
  | sell (k : x.Kind = 5) (i : Nat) (c : Held) (f : findS l x.Cask = some i) (h : l[i]? = some c) (o : c.C.Owner = x.Person) (c1 : c.C.Creditor < 0) (t : x.To ≠ c.C.Owner) : EvD l x num (l.set i { c with C := { c.C with Owner := x.To } })
  | pledge (k : x.Kind = 6) (i : Nat) (c : Held) (f : findS l x.Cask = some i) (h : l[i]? = some c) (o : c.C.Owner = x.Person) (c1 : c.C.Creditor < 0) : EvD l x num (l.set i { c with C := { c.C with Creditor := x.To } })
  | free (k : x.Kind = 7) (i : Nat) (c : Held) (f : findS l x.Cask = some i) (h : l[i]? = some c) (c1 : c.C.Creditor = x.Person) : EvD l x num (l.set i { c with C := { c.C with Creditor := -1 } })
  | char (k : x.Kind = 8) (i : Nat) (c : Held) (f : findS l x.Cask = some i) (h : l[i]? = some c) (a : c.C.Amount ≤ 0) : EvD l x num (l.set i { c with C := { c.C with Wood := x.Where } })
theorem deed_act {l l' : List Held} {i : Nat} {c : Held} {x : Ev} {num : Int} (hv : evB x = true) (h0 : x.Kind ≠ 0) (f : findS l x.Cask = some i) (hc : l[i]? = some c) (h : actS l i c x num = .inl l') : EvD l x num l' := by
  rcases kinds hv with k | k | k | k | k | k | k | k | k
  · exact absurd k h0
  · have h : fillD l i c x num = .inl l' := by rw [← h]; unfold actS; rw [k]; rfl
    unfold fillD at h
    split at h
    · cases h
    · cases h; exact .fill k i c f hc (by omega)
  · have h : rackD l i c x = .inl l' := by rw [← h]; unfold actS; rw [k]; rfl
    unfold rackD at h
    split at h
    · cases h
    · rename_i j hj
      split at h
      · cases h
      · rename_i o ho
        unfold rackD2 at h
        split at h
        · cases h
        · rename_i hij
          split at h
          · cases h
          · rename_i hr
            split at h
            · cases h
            · split at h
              · cases h
              · cases h
                simp only [Bool.or_eq_true, bne_iff_ne, ne_eq, decide_eq_true_eq, not_or, Decidable.not_not, ge_iff_le] at hr
                exact .rack k i c f hc j o hj ho (fun e => hij (by simp [e])) hr.1.1 (by omega) (by omega) (by omega) (by omega)
  · have h : drainD l i c x = .inl l' := by rw [← h]; unfold actS; rw [k]; rfl
    unfold drainD at h
    split at h
    · cases h
    · split at h
      · cases h
      · cases h; exact .drain k i c f hc (by omega) (by omega)
  · have h : carryD l i c x = .inl l' := by rw [← h]; unfold actS; rw [k]; rfl
    cases h; exact .carry k i c f hc
  · have h : sellD l i c x = .inl l' := by rw [← h]; unfold actS; rw [k]; rfl
    unfold sellD at h
    split at h
    · cases h
    · rename_i hr
      split at h
      · cases h
      · rename_i ht
        cases h
        simp only [Bool.or_eq_true, bne_iff_ne, ne_eq, decide_eq_true_eq, not_or, Decidable.not_not, ge_iff_le] at hr
        exact .sell k i c f hc hr.1 (by omega) (fun e => ht (by simp [e]))
  · have h : pledgeD l i c x = .inl l' := by rw [← h]; unfold actS; rw [k]; rfl
    unfold pledgeD at h
    split at h
    · cases h
    · rename_i ho
      split at h
      · cases h
      · cases h
        exact .pledge k i c f hc (by simpa using ho) (by omega)
  · have h : freeD l i c x = .inl l' := by rw [← h]; unfold actS; rw [k]; rfl
    unfold freeD at h
    split at h
    · cases h
    · rename_i ho
      cases h
      exact .free k i c f hc (by simpa using ho)
  · have h : charD l i c x = .inl l' := by rw [← h]; unfold actS; rw [k]; rfl
    unfold charD at h
    split at h
    · cases h
    · cases h; exact .char k i c f hc (by omega)
theorem deed_of {l l' : List Held} {x : Ev} {num : Int} (hv : evB x = true) (h : doS l x num = .inl l') : EvD l x num l' := by
  unfold doS at h
  split at h
  · rename_i hk
    unfold makeD at h
    split at h
    · cases h
    · rename_i hf
      split at h
      · cases h
      · cases h
        exact .make (beq_iff_eq.1 hk) (by simpa using hf) (by omega)
  · rename_i hk
    split at h
    · cases h
    · rename_i i hi
      split at h
      · cases h
      · rename_i c hc
        exact deed_act hv (fun e => hk (by simp [e])) hi hc h
theorem step_deed {n : Nat} {s s' : Cur} {x : Ev} (h : stepS n s x = .inl s') : evB x = true ∧ s.last ≤ x.Day ∧ ∃ l', s' = ⟨l', x.Day⟩ ∧ EvD (atS x.Day s) x n l' := by
  unfold stepS at h
  split at h
  · cases h
  · rename_i hv
    have hv : evB x = true := by simpa using hv
    split at h
    · cases h
    · rename_i hd
      split at h
      · rename_i all hall
        cases h
        exact ⟨hv, by omega, all, rfl, deed_of hv hall⟩
      · cases h
theorem go_le {day : Int} : ∀ (l : List Ev) (n : Nat) (s : Cur) (r : Cur ⊕ Int) (k : Nat), goS day l n s = (r, k) → k ≤ n + l.length
  | [], n, s, r, k, h => by
    simp only [goS, Prod.mk.injEq] at h
    simp [← h.2]
  | x :: l, n, s, r, k, h => by
    simp only [goS] at h
    split at h
    · split at h
      · have := go_le l _ _ _ _ h
        simp; omega
      · simp only [Prod.mk.injEq] at h
        simp [← h.2]
    · simp only [Prod.mk.injEq] at h
      simp [← h.2]
theorem play_le {l : List Ev} {day : Int} {r : List Held ⊕ Int} {k : Nat} (h : playS l day = (r, k)) : k ≤ l.length := by
  unfold playS at h
  split at h
  · simp only [Prod.mk.injEq] at h; omega
  · split at h
    · simp only [Prod.mk.injEq] at h; omega
    · unfold runS at h
      cases hg : goS day l 0 ⟨[], 0⟩ with
      | mk r' q =>
        have := go_le _ _ _ _ _ hg
        rw [hg] at h
        cases r' <;> (simp only [Prod.mk.injEq] at h; omega)
theorem ord_perm {all : List Held} {last : Int} {n : Nat} (ho : AOk last n all) : (ordS all).Perm all := by
  have h1 : (ordS all).Perm ((all.map (·.C.Number)).filterMap (findH all)) := (nums_perm all).filterMap _
  have h2 : (all.map (·.C.Number)).filterMap (findH all) = all := by
    rw [List.filterMap_map]
    have : ∀ L : List Held, (∀ h ∈ L, findH all h.C.Number = some h) → L.filterMap (findH all ∘ fun h => h.C.Number) = L := fun L => by
      induction L with
      | nil => intro _; rfl
      | cons h L ih =>
        intro hh
        rw [List.filterMap_cons_some (b := h) (by simpa using hh h (by simp)), ih fun y hy => hh y (List.mem_cons_of_mem _ hy)]
    refine this all fun h hm => ?_
    obtain ⟨i, hi⟩ := List.mem_iff_getElem?.1 hm
    simp [findH, find_of ho.nums hi, hi]
  rwa [h2] at h1
end Go.Proofs.Ytkedjmhhcekmiaa
end

section
namespace Go.Proofs.Ytkedjmhhcekmiaa
open Go.Dec
def stG : Nat → Cur → List Ev → Option Cur
  | _, s, [] => some s
  | n, s, x :: l => match stepS n s x with
    | .inl s' => stG (n + 1) s' l
    | .inr _ => none
def stS (l : List Ev) : Option Cur := stG 0 ⟨[], 0⟩ l
theorem stG_app : ∀ (a b : List Ev) (n : Nat) (s : Cur), stG n s (a ++ b) = (stG n s a).bind fun s' => stG (n + a.length) s' b
  | [], b, n, s => rfl
  | x :: a, b, n, s => by
    simp only [List.cons_append, stG]
    cases stepS n s x with
    | inl s' =>
      simp only [List.length_cons]
      rw [stG_app a b (n + 1) s']
      have : n + 1 + a.length = n + (a.length + 1) := by omega
      rw [this]
    | inr e => rfl
theorem stG_ok : ∀ (l : List Ev) (n : Nat) (s s' : Cur), SOk n s → stG n s l = some s' → SOk (n + l.length) s'
  | [], n, s, s', ho, h => by simp only [stG, Option.some.injEq] at h; subst h; exact ho
  | x :: l, n, s, s', ho, h => by
    simp only [stG] at h
    cases hs : stepS n s x with
    | inl s1 =>
      rw [hs] at h
      have := stG_ok l (n + 1) s1 s' (step_ok ho hs).1 h
      rw [List.length_cons, show n + (l.length + 1) = n + 1 + l.length by omega]; exact this
    | inr e => rw [hs] at h; cases h
theorem st_ok {l : List Ev} {s : Cur} (h : stS l = some s) : SOk l.length s := by
  have := stG_ok l 0 ⟨[], 0⟩ s SOk.start h
  rwa [Nat.zero_add] at this
theorem st_next {L pre post : List Ev} {x : Ev} {sL s : Cur} (hL : stS L = some sL) (e : L = pre ++ x :: post) (hs : stS pre = some s) :
    ∃ l', stepS pre.length s x = .inl ⟨l', x.Day⟩ ∧ stS (pre ++ [x]) = some ⟨l', x.Day⟩ ∧ EvD (atS x.Day s) x pre.length l' ∧ evB x = true ∧ s.last ≤ x.Day ∧ SOk pre.length s := by
  have h := hL
  subst e
  unfold stS at h hs
  rw [stG_app, hs, Option.bind_some, Nat.zero_add] at h
  simp only [stG] at h
  cases hst : stepS pre.length s x with
  | inr e => rw [hst] at h; cases h
  | inl s1 =>
    obtain ⟨hv, hd, l', rfl, d⟩ := step_deed hst
    refine ⟨l', rfl, ?_, d, hv, hd, st_ok hs⟩
    unfold stS
    rw [stG_app, hs, Option.bind_some, Nat.zero_add]
    simp only [stG, hst]
theorem go_st {day : Int} : ∀ (l : List Ev) (n : Nat) (s s' : Cur) (k : Nat), goS day l n s = (.inl s', k) → ∃ q, k = n + q ∧ q ≤ l.length ∧ stG n s (l.take q) = some s' ∧ (s.last ≤ day → s'.last ≤ day) ∧ (∀ x ∈ l.take q, x.Day ≤ day) ∧ ∀ x, l[q]? = some x → day < x.Day
  | [], n, s, s', k, h => by
    simp only [goS, Prod.mk.injEq, Sum.inl.injEq] at h
    obtain ⟨rfl, rfl⟩ := h
    exact ⟨0, rfl, Nat.le_refl _, rfl, id, fun x hx => by simp at hx, fun x hx => by simp at hx⟩
  | x :: l, n, s, s', k, h => by
    simp only [goS] at h
    by_cases hx : x.Day ≤ day
    · rw [if_pos hx] at h
      cases hst : stepS n s x with
      | inl s1 =>
        rw [hst] at h
        obtain ⟨q, g1, g2, g3, g4, g5, g6⟩ := go_st l (n + 1) s1 s' k h
        obtain ⟨_, _, l', rfl, _⟩ := step_deed hst
        refine ⟨q + 1, by omega, by simp; omega, ?_, fun _ => g4 hx, fun y hy => ?_, fun y hy => g6 y (by simpa using hy)⟩
        · simp only [List.take_succ_cons, stG, hst]; exact g3
        · rw [List.take_succ_cons] at hy
          rcases List.mem_cons.1 hy with rfl | hy
          · exact hx
          · exact g5 y hy
      | inr e => rw [hst] at h; cases h
    · rw [if_neg hx] at h
      simp only [Prod.mk.injEq, Sum.inl.injEq] at h
      obtain ⟨rfl, rfl⟩ := h
      exact ⟨0, rfl, Nat.zero_le _, rfl, id, fun y hy => by simp at hy, fun y hy => by simp at hy; subst hy; omega⟩
theorem play_st {l : List Ev} {day : Int} {all : List Held} {k : Nat} (h : playS l day = (.inl all, k)) : ∃ s, all = atS day s ∧ stS (l.take k) = some s ∧ s.last ≤ day ∧ k ≤ l.length ∧ (∀ x ∈ l.take k, x.Day ≤ day) ∧ ∀ x, l[k]? = some x → day < x.Day := by
  unfold playS at h
  split at h
  · cases h
  · split at h
    · cases h
    · rename_i hb
      have hday : inB day 0 65536 = true := by simpa using hb
      have hday := inB_iff.1 hday
      unfold runS at h
      cases hg : goS day l 0 ⟨[], 0⟩ with
      | mk r q =>
        rw [hg] at h
        cases r with
        | inr e => cases h
        | inl s' =>
          cases h
          obtain ⟨p, g1, g2, g3, g4, g5, g6⟩ := go_st l 0 ⟨[], 0⟩ s' _ hg
          have : p = k := by omega
          subst this
          exact ⟨s', rfl, g3, g4 hday.1, g2, g5, g6⟩
section
variable {V : Type}
theorem mapGet_set {k n : Int} {v : V} : ∀ {l : List (Int × V)}, mapGet (mapSet l k v) n = if n == k then some v else mapGet l n
  | [] => by simp [mapSet, mapGet]
  | x :: l => by
    simp only [mapSet]
    by_cases h : k = x.1
    · have : (k == x.1) = true := by simp [h]
      rw [if_pos this]
      simp only [mapGet]
      by_cases h2 : n = k
      · subst h2; simp
      · have e1 : (n == k) = false := by simpa using h2
        have e2 : (n == x.1) = false := by simpa using fun e => h2 (by rw [e, h])
        simp [e1, e2]
    · have : (k == x.1) = false := by simpa using h
      rw [if_neg (by simp [this])]
      simp only [mapGet]
      rw [mapGet_set (l := l)]
      by_cases h2 : n = x.1
      · have e1 : (n == x.1) = true := by simp [h2]
        have e2 : (n == k) = false := by simpa using fun e => h (by rw [← e, h2])
        simp [e1, e2]
      · have e1 : (n == x.1) = false := by simpa using h2
        simp [e1]
theorem mapSet_new {k : Int} {v : V} : ∀ {l : List (Int × V)}, mapGet l k = none → (mapSet l k v).length = l.length + 1
  | [], _ => rfl
  | x :: l, h => by
    simp only [mapGet] at h
    by_cases e : (k == x.1) = true
    · rw [if_pos e] at h; cases h
    · rw [if_neg e] at h
      simp only [mapSet]
      rw [if_neg e, List.length_cons, mapSet_new h, List.length_cons]
theorem mapSet_old {k : Int} {u v : V} : ∀ {l : List (Int × V)}, mapGet l k = some u → (mapSet l k v).length = l.length
  | [], h => by cases h
  | x :: l, h => by
    simp only [mapGet] at h
    simp only [mapSet]
    by_cases e : (k == x.1) = true
    · rw [if_pos e]; rfl
    · rw [if_neg e] at h
      rw [if_neg e, List.length_cons, mapSet_old h, List.length_cons]
theorem mapSet_nd {k : Int} {v : V} {l : List (Int × V)} (hn : (l.map Prod.fst).Nodup) : ((mapSet l k v).map Prod.fst).Nodup := mapSet_nodup hn
theorem mapDel_nd {k : Int} {l : List (Int × V)} (hn : (l.map Prod.fst).Nodup) : ((mapDel l k).map Prod.fst).Nodup := mapDel_nodup hn
theorem mapGet_filter {k n : Int} : ∀ {l : List (Int × V)}, mapGet (l.filter (fun x => !(k == x.1))) n = if n == k then none else mapGet l n
  | [] => by simp [mapGet]
  | x :: l => by
    rw [List.filter_cons]
    by_cases h : k = x.1
    · have e : (k == x.1) = true := by simp [h]
      rw [if_neg (by simp [e]), mapGet_filter (l := l)]
      simp only [mapGet]
      by_cases h2 : n = k
      · simp [h2]
      · have e1 : (n == k) = false := by simpa using h2
        have e2 : (n == x.1) = false := by simpa using fun e => h2 (by rw [e, h])
        simp [e1, e2]
    · have e : (k == x.1) = false := by simpa using h
      rw [if_pos (by simp [e])]
      simp only [mapGet]
      rw [mapGet_filter (l := l)]
      by_cases h2 : n = x.1
      · have e1 : (n == x.1) = true := by simp [h2]
        have e2 : (n == k) = false := by simpa using fun e => h (by rw [← e, h2])
        simp [e1, e2]
      · have e1 : (n == x.1) = false := by simpa using h2
        simp [e1]
theorem mapGet_del {k n : Int} {l : List (Int × V)} (hn : (l.map Prod.fst).Nodup) : mapGet (mapDel l k) n = if n == k then none else mapGet l n := by
  rw [mapDel_filter hn, mapGet_filter]
end
end Go.Proofs.Ytkedjmhhcekmiaa
end

section
namespace Go.Proofs.Ytkedjmhhcekmiaa
open Go.Dec
theorem ownC_len (p : Int) (l : List ApiCask) : (ownC p l).length ≤ l.length := by
  unfold ownC; rw [List.length_map]; exact List.length_filter_le _ _
theorem plgC_len (p : Int) (l : List ApiCask) : (plgC p l).length ≤ l.length := by
  unfold plgC; rw [List.length_map]; exact List.length_filter_le _ _
theorem ownC_snoc (p : Int) (l : List ApiCask) (c : ApiCask) : ownC p (l ++ [c]) = ownC p l ++ (if c.Owner == p then [c.Number] else []) := by
  unfold ownC
  rw [List.filter_append, List.map_append]
  cases h : c.Owner == p <;> simp [h]
theorem plgC_snoc (p : Int) (l : List ApiCask) (c : ApiCask) : plgC p (l ++ [c]) = plgC p l ++ (if c.Creditor == p && decide (p ≥ 0) then [c.Number] else []) := by
  unfold plgC
  rw [List.filter_append, List.map_append]
  cases h : (c.Creditor == p && decide (p ≥ 0)) <;> simp [h]
end Go.Proofs.Ytkedjmhhcekmiaa
end

section
namespace Go.Proofs.Ytkedjmhhcekmiaa
open Go.Dec
theorem Try.own : ownKnob Try.prog.godebug = none := by kernel_rfl
theorem Try.laidOut : laidOutB Try.prog = true := by kernel_rfl
def okApiCaskEvent (x : ApiCaskEvent) : Prop := (Lit.int .i64 x.Kind).wf = true ∧ (Lit.int .i64 x.Day).wf = true ∧ (Lit.int .i64 x.Cask).wf = true ∧ (Lit.int .i64 x.Other).wf = true ∧ (Lit.int .i64 x.Person).wf = true ∧ (Lit.int .i64 x.To).wf = true ∧ (Lit.int .i64 x.Amount).wf = true ∧ (Lit.int .i64 x.Where).wf = true
theorem vApiCaskEvent {H : Type} {enc : TypeId × Value → H} {W : World} : Viewed enc Try.prog W 45 (Ex cApiCaskEvent) okApiCaskEvent := by
 intro sp held fuel cs x h
 obtain ⟨xs, k, _, _, hl, hxl, hx⟩ := DataW.trod_struct Try.underlying45 h
 have hl' : cs.length = 8 := hl.trans (by kernel_rfl)
 obtain ⟨y0, h0⟩ := some_of (hx 0 _ rfl) hxl rfl
 have e0 : Try.prog.cellsOf 3 = 1 := by kernel_rfl
 obtain ⟨m0, o0, q0⟩ := (Viewed.int Try.underlying3) _ _ _ _ _ h0
 obtain ⟨y1, h1⟩ := some_of (hx 1 _ rfl) hxl rfl
 have e1 : Try.prog.cellsOf 3 = 1 := by kernel_rfl
 obtain ⟨m1, o1, q1⟩ := (Viewed.int Try.underlying3) _ _ _ _ _ h1
 obtain ⟨y2, h2⟩ := some_of (hx 2 _ rfl) hxl rfl
 have e2 : Try.prog.cellsOf 3 = 1 := by kernel_rfl
 obtain ⟨m2, o2, q2⟩ := (Viewed.int Try.underlying3) _ _ _ _ _ h2
 obtain ⟨y3, h3⟩ := some_of (hx 3 _ rfl) hxl rfl
 have e3 : Try.prog.cellsOf 3 = 1 := by kernel_rfl
 obtain ⟨m3, o3, q3⟩ := (Viewed.int Try.underlying3) _ _ _ _ _ h3
 obtain ⟨y4, h4⟩ := some_of (hx 4 _ rfl) hxl rfl
 have e4 : Try.prog.cellsOf 3 = 1 := by kernel_rfl
 obtain ⟨m4, o4, q4⟩ := (Viewed.int Try.underlying3) _ _ _ _ _ h4
 obtain ⟨y5, h5⟩ := some_of (hx 5 _ rfl) hxl rfl
 have e5 : Try.prog.cellsOf 3 = 1 := by kernel_rfl
 obtain ⟨m5, o5, q5⟩ := (Viewed.int Try.underlying3) _ _ _ _ _ h5
 obtain ⟨y6, h6⟩ := some_of (hx 6 _ rfl) hxl rfl
 have e6 : Try.prog.cellsOf 3 = 1 := by kernel_rfl
 obtain ⟨m6, o6, q6⟩ := (Viewed.int Try.underlying3) _ _ _ _ _ h6
 obtain ⟨y7, h7⟩ := some_of (hx 7 _ rfl) hxl rfl
 have e7 : Try.prog.cellsOf 3 = 1 := by kernel_rfl
 obtain ⟨m7, o7, q7⟩ := (Viewed.int Try.underlying3) _ _ _ _ _ h7
 refine ⟨⟨m0, m1, m2, m3, m4, m5, m6, m7⟩, ⟨o0, o1, o2, o3, o4, o5, o6, o7⟩, fun F' le => ?_⟩
 have w0 : (cs.drop 0).take (Try.prog.cellsOf 3) = (cInt .i64) m0 := q0 F' le
 rw [e0] at w0
 have w1 : (cs.drop 1).take (Try.prog.cellsOf 3) = (cInt .i64) m1 := q1 F' le
 rw [e1] at w1
 have w2 : (cs.drop 2).take (Try.prog.cellsOf 3) = (cInt .i64) m2 := q2 F' le
 rw [e2] at w2
 have w3 : (cs.drop 3).take (Try.prog.cellsOf 3) = (cInt .i64) m3 := q3 F' le
 rw [e3] at w3
 have w4 : (cs.drop 4).take (Try.prog.cellsOf 3) = (cInt .i64) m4 := q4 F' le
 rw [e4] at w4
 have w5 : (cs.drop 5).take (Try.prog.cellsOf 3) = (cInt .i64) m5 := q5 F' le
 rw [e5] at w5
 have w6 : (cs.drop 6).take (Try.prog.cellsOf 3) = (cInt .i64) m6 := q6 F' le
 rw [e6] at w6
 have w7 : (cs.drop 7).take (Try.prog.cellsOf 3) = (cInt .i64) m7 := q7 F' le
 rw [e7] at w7
 exact (cat_cons w0 (cat_cons w1 (cat_cons w2 (cat_cons w3 (cat_cons w4 (cat_cons w5 (cat_cons w6 (cat_cons w7 (cat_nil hl')))))))))
theorem vt22 {H : Type} {enc : TypeId × Value → H} {W : World} : Viewed enc Try.prog W 22 (rSl 8 (Ex cApiCaskEvent)) (fun x => (∀ y1 ∈ x, okApiCaskEvent y1)) := (Viewed.slice (sz := 8) Try.underlying22 (by kernel_rfl) (by decide) vApiCaskEvent)
end Go.Proofs.Ytkedjmhhcekmiaa
end

section
namespace Go.Proofs.Ytkedjmhhcekmiaa
open Go.Dec Go.Shelf Go.RowKit Go.Maps Go.Sort
noncomputable def b_wormtublaw06_CaskPledged_1 (l_1 : (List ApiCaskEvent)) (r_13 : ((List ApiCask) × Int × Int)) (s30 : (List (Int × Int)) × (List (Int × Int)) × Int) : Option (Ctl ((List (Int × Int)) × (List (Int × Int)) × Int) (((List (Int × Int)) × (List (Int × Int))) ⊕ (Bool))) :=
 if (decide (s30.2.2 < r_13.2.1)) then ((idxL l_1 s30.2.2).bind fun x40 => bindv ((mapGet s30.2.1 x40.Cask).isSome) fun pledged51 => if (x40.Kind == 0) then (bindv ((mapGet s30.1 x40.Cask).isSome) fun is_54 => if is_54 then (some (.done (.inr false))) else (bindv (mapSet s30.1 x40.Cask x40.Person) fun m_57 => bindv (w64 (s30.2.2 + 1)) fun i59 => some (.next (m_57, s30.2.1, i59)))) else (if (x40.Kind == 5) then (if (pledged51 || (((mapGet s30.1 x40.Cask).getD 0) != x40.Person)) then (some (.done (.inr false))) else (bindv (mapSet s30.1 x40.Cask x40.To) fun m_67 => bindv (w64 (s30.2.2 + 1)) fun i69 => some (.next (m_67, s30.2.1, i69)))) else (if (x40.Kind == 6) then (if (pledged51 || (((mapGet s30.1 x40.Cask).getD 0) != x40.Person)) then (some (.done (.inr false))) else (bindv (mapSet s30.2.1 x40.Cask x40.To) fun m_77 => bindv (w64 (s30.2.2 + 1)) fun i79 => some (.next (s30.1, m_77, i79)))) else (if (x40.Kind == 7) then (if ((!pledged51) || (((mapGet s30.2.1 x40.Cask).getD 0) != x40.Person)) then (some (.done (.inr false))) else (bindv (w64 (s30.2.2 + 1)) fun i87 => some (.next (s30.1, (mapDel s30.2.1 x40.Cask), i87)))) else (if (x40.Kind == 3) then (if pledged51 then (some (.done (.inr false))) else (bindv (w64 (s30.2.2 + 1)) fun i91 => some (.next (s30.1, s30.2.1, i91)))) else (if (x40.Kind == 2) then (bindv ((mapGet s30.2.1 x40.Other).isSome) fun other94 => if ((pledged51 || other94) || (((mapGet s30.1 x40.Cask).getD 0) != ((mapGet s30.1 x40.Other).getD 0))) then (some (.done (.inr false))) else (bindv (w64 (s30.2.2 + 1)) fun i105 => some (.next (s30.1, s30.2.1, i105)))) else (bindv (w64 (s30.2.2 + 1)) fun i107 => some (.next (s30.1, s30.2.1, i107))))))))) else (some (.done (.inl (s30.1, s30.2.1))))
noncomputable def b_wormtublaw06_CaskPledged_2 (r_13 : ((List ApiCask) × Int × Int)) (b109 : (List (Int × Int)) × (List (Int × Int))) (s122 : (List Int) × Int) : Option (Ctl ((List Int) × Int) (((List Int)) ⊕ (Bool))) :=
 if (decide (s122.2 < (r_13.1.length : Int))) then ((idxL r_13.1 s122.2).bind fun x129 => bindv ((mapGet b109.2 x129.Number).getD 0) fun to_140 => bindv ((mapGet b109.2 x129.Number).isSome) fun pledged142 => (if (!pledged142) then (bindv (-1) fun to_145 => some to_145) else (some to_140) : Option (Int)).bind fun j147 => if ((x129.Owner != ((mapGet b109.1 x129.Number).getD 0)) || (x129.Creditor != j147)) then (some (.done (.inr false))) else ((appO s122.1 ([x129.Owner, x129.Creditor])).bind fun l_160 => bindv (w64 (s122.2 + 1)) fun i164 => some (.next (l_160, i164)))) else (some (.done (.inl s122.1)))
noncomputable def b_wormtublaw06_CaskPledged_3 (r_13 : ((List ApiCask) × Int × Int)) (x180 : Int) (r_186 : ((List Int) × (List Int) × Int)) (s194 : Int × Int × Int) : Option (Ctl (Int × Int × Int) ((Int × Int) ⊕ (Bool))) :=
 if (decide (s194.2.2 < (r_13.1.length : Int))) then ((idxL r_13.1 s194.2.2).bind fun x198 => if (x198.Owner == x180) then ((if (decide (s194.1 ≥ (r_186.1.length : Int))) then (some true) else ((idxL r_186.1 s194.1).bind fun x245 => (idxL r_13.1 s194.2.2).bind fun x255 => some (x245 != x255.Number)) : Option (Bool)).bind fun j300 => if j300 then (some (.done (.inr false))) else (bindv (w64 (s194.1 + 1)) fun a304 => (idxL r_13.1 s194.2.2).bind fun x306 => if ((x306.Creditor == x180) && (decide (x180 ≥ 0))) then ((if (decide (s194.2.1 ≥ (r_186.2.1.length : Int))) then (some true) else ((idxL r_186.2.1 s194.2.1).bind fun x357 => (idxL r_13.1 s194.2.2).bind fun x367 => some (x357 != x367.Number)) : Option (Bool)).bind fun j412 => if j412 then (some (.done (.inr false))) else (bindv (w64 (s194.2.1 + 1)) fun b416 => bindv (w64 (s194.2.2 + 1)) fun i418 => some (.next (a304, b416, i418)))) else (bindv (w64 (s194.2.2 + 1)) fun i420 => some (.next (a304, s194.2.1, i420))))) else ((idxL r_13.1 s194.2.2).bind fun x422 => if ((x422.Creditor == x180) && (decide (x180 ≥ 0))) then ((if (decide (s194.2.1 ≥ (r_186.2.1.length : Int))) then (some true) else ((idxL r_186.2.1 s194.2.1).bind fun x473 => (idxL r_13.1 s194.2.2).bind fun x483 => some (x473 != x483.Number)) : Option (Bool)).bind fun j528 => if j528 then (some (.done (.inr false))) else (bindv (w64 (s194.2.1 + 1)) fun b532 => bindv (w64 (s194.2.2 + 1)) fun i534 => some (.next (s194.1, b532, i534)))) else (bindv (w64 (s194.2.2 + 1)) fun i536 => some (.next (s194.1, s194.2.1, i536))))) else (some (.done (.inl (s194.1, s194.2.1))))
noncomputable def m_wormtublaw06_CaskPledged (l_1 : (List ApiCaskEvent)) (day5 : Int) (who6 : Int) : Option Bool :=
 if (decide ((l_1.length : Int) > 60)) then ((m_wormtublaw06_awake).bind fun r_10 => some r_10) else ((m_cask_Play l_1 day5).bind fun r_13 => if (r_13.2.2 != 0) then ((m_wormtublaw06_awake).bind fun r_20 => some r_20) else (if ((decide (r_13.2.1 < 0)) || (decide (r_13.2.1 > (l_1.length : Int)))) then (some false) else ((loopM (b_wormtublaw06_CaskPledged_1 l_1 r_13) ([], [], 0)).bind fun b0 => match b0 with | .inl b109 => (if ((r_13.1.length : Int) != (b109.1.length : Int)) then (some false) else ((loopM (b_wormtublaw06_CaskPledged_2 r_13 b109) ([], 0)).bind fun b0 => match b0 with | .inl b166 => (if ((b166.length : Int) == 0) then ((m_wormtublaw06_awake).bind fun r_177 => some r_177) else ((remK (w64 (who6)) (b166.length : Int)).bind fun q178 => (idxL b166 q178).bind fun x180 => (m_cask_Owned l_1 x180 day5).bind fun r_186 => if (r_186.2.2 != 0) then (some false) else ((loopM (b_wormtublaw06_CaskPledged_3 r_13 x180 r_186) (0, 0, 0)).bind fun b0 => match b0 with | .inl b538 => ((if ((b538.1 == (r_186.1.length : Int)) && (b538.2 == (r_186.2.1.length : Int))) then ((m_wormtublaw06_awake).bind fun r_550 => some r_550) else some false).bind fun z554 => some z554) | .inr b538 => (some b538)))) | .inr b166 => (some b166))) | .inr b109 => (some b109))))
set_option maxHeartbeats 4000000 in
theorem c_wormtublaw06_CaskPledged (F0 : Fz) (l_1 : (List ApiCaskEvent)) (p2 : Option Addr) (k3 : Nat) (h4 : RepSl 8 (Ex cApiCaskEvent) F0 p2 k3 l_1) (day5 : Int) (who6 : Int) : CT0 Try.prog 7 [(.slice p2 l_1.length k3), (.int .i64 day5), (.int .u8 who6)].toArray F0 (m_wormtublaw06_CaskPledged l_1 day5 who6) (fun r _ v => v = (.bool r)) := by
 refine CT0.enter Try.func7 rfl Try.ntmps7 rfl fun r R => ?_
 unfold m_wormtublaw06_CaskPledged
 refine .seq ?_
 refine .region ?_
 refine .assign rfl rfl ?_
 refine .nil ?_
 refine .code ?_
 refine .seq ?_
 refine .seq ?_
 refine .region ?_
 refine .move rfl rfl ?_
 refine .lenS rfl rfl Try.underlying22 rfl ?_
 refine .gtr rfl rfl rfl ?_
 refine .nil ?_
 refine .code ?_
 refine .cond rfl (fun hb7 => ?_) (fun hb7 => ?_)
 ·skip
  refine .seq ?_
  refine .region ?_
  refine .call0 rfl Try.call11 rfl rfl rfl (c_wormtublaw06_awake _ ) ?_
  rintro r_10 F_8 _ - l_9 rfl
  refine .assign rfl rfl ?_
  refine .nil ?_
  refine .code ?_
  exact .ret0 Try.results7 (.tmp rfl (.nil)) (i := 0) rfl l_9 rfl
 ·skip
  refine .skip ?_
  refine .code ?_
  refine .seq ?_
  refine .region ?_
  refine .move rfl rfl ?_
  refine .move rfl rfl ?_
  refine .call0 rfl Try.call12 rfl rfl rfl (c_cask_Play _ l_1 p2 k3 h4 day5) ?_
  rintro r_13 F_11 _ - l_12 ⟨p14, k15, rfl, h16⟩
  refine .move rfl rfl ?_
  refine .extract rfl rfl rfl ?_
  refine .extract rfl rfl rfl ?_
  refine .extract rfl rfl rfl ?_
  refine .assign rfl rfl ?_
  refine .assign rfl rfl ?_
  refine .assign rfl rfl ?_
  refine .nil ?_
  refine .code ?_
  refine .seq ?_
  refine .seq ?_
  refine .region ?_
  refine .move rfl rfl ?_
  refine .neq rfl rfl rfl ?_
  refine .nil ?_
  refine .code ?_
  refine .cond rfl (fun hb17 => ?_) (fun hb17 => ?_)
  ·skip
   refine .seq ?_
   refine .region ?_
   refine .call0 rfl Try.call11 rfl rfl rfl (c_wormtublaw06_awake _ ) ?_
   rintro r_20 F_18 _ - l_19 rfl
   refine .assign rfl rfl ?_
   refine .nil ?_
   refine .code ?_
   exact .ret0 Try.results7 (.tmp rfl (.nil)) (i := 0) rfl (Fz.le_trans l_12 l_19) rfl
  ·skip
   refine .skip ?_
   refine .code ?_
   refine .seq ?_
   refine .seq ?_
   refine .region ?_
   refine .move rfl rfl ?_
   refine .lss rfl rfl rfl ?_
   refine .move rfl rfl ?_
   refine .orP (b := (decide (r_13.2.1 < 0))) (b' := (decide (r_13.2.1 > (l_1.length : Int)))) 5 53 (fun hb21 => ?_) (fun hb22 => ?_) (fun F_23 l_24 => ?_)
   ·skip
    refine .onH hb21 rfl rfl ?_
    refine .move rfl rfl ?_
    refine .onH hb21 rfl rfl ?_
    refine .move rfl rfl ?_
    refine .onH hb21 rfl rfl ?_
    refine .lenS rfl rfl Try.underlying22 rfl ?_
    refine .onH hb21 rfl rfl ?_
    refine .gtr rfl rfl rfl ?_
    refine .pickFH hb21 rfl rfl rfl ?_
    exact .fin 5 rfl rfl (by kernel_rfl) (Fz.le_refl _)
   ·skip
    refine .offH hb22 rfl rfl rfl ?_
    refine .offH hb22 rfl rfl rfl ?_
    refine .offH hb22 rfl rfl rfl ?_
    refine .offH hb22 rfl rfl rfl ?_
    refine .pickTH hb22 rfl rfl rfl ?_
    exact .fin 5 rfl rfl (by kernel_rfl) (Fz.le_refl _)
   refine .nil ?_
   refine .code ?_
   refine .cond rfl (fun hb25 => ?_) (fun hb25 => ?_)
   ·skip
    refine .seq ?_
    refine .region ?_
    refine .assign rfl rfl ?_
    refine .nil ?_
    refine .code ?_
    exact .ret0 Try.results7 (.tmp rfl (.nil)) (i := 0) rfl (Fz.le_trans l_12 l_24) rfl
   ·skip
    refine .skip ?_
    refine .code ?_
    refine .seq ?_
    refine .region ?_
    refine .makeMap (fun x : Int => (.int .i64 x)) (fun _ x v => v = (fun x : Int => (.int .i64 x)) x) rfl (fun b26 => ?_)
    refine .makeMap (fun x : Int => (.int .i64 x)) (fun _ x v => v = (fun x : Int => (.int .i64 x)) x) rfl (fun b28 => ?_)
    refine .assign rfl rfl ?_
    refine .assign rfl rfl ?_
    refine .nil ?_
    refine .keep (.cons (k := 0) rfl (.cons (k := 1) rfl (.cons (k := 2) rfl (.cons (k := 7) rfl (.cons (k := 8) rfl (.cons (k := 10) rfl (.cons (k := 11) rfl (.nil _)))))))) ?_
    refine .code ?_
    refine .seq ?_
    refine .seq ?_
    refine .region ?_
    refine .assign rfl rfl ?_
    refine .nil ?_
    refine .code ?_
    refine .block ?_
    refine .keep (.cons (k := 0) rfl (.cons (k := 1) rfl (.cons (k := 2) rfl (.cons (k := 7) rfl (.cons (k := 8) rfl (.cons (k := 10) rfl (.cons (k := 11) rfl (.cons (k := 12) rfl (.nil _))))))))) ?_
    refine .loop (fun (s30 : (List (Int × Int)) × (List (Int × Int)) × Int) a w => ∃ (F_31 : Fz) (p33 : Nat) (k34 : Unit) (p36 : Nat) (k37 : Unit), F_23 ≤ F_31 ∧ Hd 305 [] [(0, (.slice p2 l_1.length k3)), (1, (.int .i64 day5)), (2, (.int .u8 who6)), (7, (.slice p14 r_13.1.length k15)), (8, (.int .i64 r_13.2.1)), (10, (.map (some p33))), (11, (.map (some p36))), (12, (.int .i64 s30.2.2))] F_31 [ownMap (fun x : Int => (.int .i64 x)) (fun _ x v => v = (fun x : Int => (.int .i64 x)) x) F_31 p36 s30.2.1, ownMap (fun x : Int => (.int .i64 x)) (fun _ x v => v = (fun x : Int => (.int .i64 x)) x) F_31 p33 s30.1, R] a w) (fun b0 e a w => match b0 with | .inl b109 => e = .exit 0 ∧ ∃ (F_110 : Fz) (p112 : Nat) (k113 : Unit) (p115 : Nat) (k116 : Unit), F_23 ≤ F_110 ∧ Hd 305 [] [(0, (.slice p2 l_1.length k3)), (1, (.int .i64 day5)), (2, (.int .u8 who6)), (7, (.slice p14 r_13.1.length k15)), (10, (.map (some p112))), (11, (.map (some p115)))] F_110 [ownMap (fun x : Int => (.int .i64 x)) (fun _ x v => v = (fun x : Int => (.int .i64 x)) x) F_110 p115 b109.2, ownMap (fun x : Int => (.int .i64 x)) (fun _ x v => v = (fun x : Int => (.int .i64 x)) x) F_110 p112 b109.1, R] a w | .inr b109 => e = .ret ∧ ∃ (F_118 : Fz), F_23 ≤ F_118 ∧ Hd 305 [] [(6, (.bool b109))] F_118 [R] a w) ?_ ?_ ?_
    ·exact fun a w h => ⟨F_23, b26, (), b28, (), (Fz.le_refl _), h.1.sub (.cons (k := 0) rfl (.cons (k := 1) rfl (.cons (k := 2) rfl (.cons (k := 7) rfl (.cons (k := 8) rfl (.cons (k := 10) rfl (.cons (k := 11) rfl (.cons (k := 12) rfl (.nil _))))))))), h.2⟩
    ·intro s30 ctl
     refine GC.ex (fun a w ⟨F_31, p33, k34, p36, k37, l_32, hA⟩ => ⟨_, hA, ?_⟩)
     unfold b_wormtublaw06_CaskPledged_1
     refine .seq ?_
     refine .seq ?_
     refine .region ?_
     refine .move rfl rfl ?_
     refine .move rfl rfl ?_
     refine .lss rfl rfl rfl ?_
     refine .nil ?_
     refine .code ?_
     refine .cond rfl (fun hb39 => ?_) (fun hb39 => ?_)
     ·skip
      refine .skip ?_
      refine .code ?_
      refine .seq ?_
      refine .block ?_
      refine .seq ?_
      refine .region ?_
      refine .move rfl rfl ?_
      refine .move rfl rfl ?_
      refine .idx rfl Try.underlying22 Try.sizeOf45 (h4.mono (Fz.le_trans l_12 (Fz.le_trans l_24 l_32))) rfl rfl (fun x40 b41 o42 T43 fr44 cs45 e46 hm47 hv48 => ?_)
      refine .loadFA rfl Try.isAgg45 Try.sizeOf45 rfl hm47 hv48 rfl ?_
      refine .alloc (cs := (cApiCaskEvent (ApiCaskEvent.mk 0 0 0 0 0 0 0 0))) rfl Try.zeroValue45 rfl (fun b50 => ?_)
      refine .store (cs' := (cApiCaskEvent x40)) Try.sizeOf45 rfl rfl rfl rfl (i := 0) rfl (Nat.le_of_ble_eq_true rfl) rfl (setMany_all (by rfl)) ?_
      refine .nil ?_
      refine .code ?_
      refine .seq ?_
      refine .region ?_
      refine .move rfl rfl ?_
      refine .fieldAddr rfl Try.underlying45 rfl Try.sizeOf3 rfl ?_
      refine .loadO rfl Try.isAgg3 rfl (i := 0) rfl rfl ?_
      refine .lookupX2 (cv := (fun x : Int => (.int .i64 x))) (key := x40.Cask) (z := 0) 1 rfl rfl Try.underlying50 (.int Try.underlying3) Try.zeroValue3 rfl rfl ?_
      refine .move rfl rfl ?_
      refine .extract rfl rfl rfl ?_
      refine .extract rfl rfl rfl ?_
      refine .assign rfl rfl ?_
      refine .assignB rfl rfl (fun pledged51 e52 => ?_)
      refine .nil ?_
      refine .keep (.cons (k := 0) rfl (.cons (k := 1) rfl (.cons (k := 2) rfl (.cons (k := 7) rfl (.cons (k := 8) rfl (.cons (k := 10) rfl (.cons (k := 11) rfl (.cons (k := 12) rfl (.cons (k := 13) rfl (.cons (k := 15) rfl (.nil _))))))))))) ?_
      refine .code ?_
      refine .seq ?_
      refine .region ?_
      refine .fieldAddr rfl Try.underlying45 rfl Try.sizeOf3 rfl ?_
      refine .loadO rfl Try.isAgg3 rfl (i := 0) rfl rfl ?_
      refine .nil ?_
      refine .code ?_
      refine .block ?_
      refine .seq ?_
      refine .region ?_
      refine .eql rfl rfl rfl ?_
      refine .assign rfl rfl ?_
      refine .nil ?_
      refine .code ?_
      refine .cond rfl (fun hb53 => ?_) (fun hb53 => ?_)
      ·skip
       refine .seq ?_
       refine .seq ?_
       refine .region ?_
       refine .move rfl rfl ?_
       refine .fieldAddr rfl Try.underlying45 rfl Try.sizeOf3 rfl ?_
       refine .loadO rfl Try.isAgg3 rfl (i := 0) rfl rfl ?_
       refine .lookupX2 (cv := (fun x : Int => (.int .i64 x))) (key := x40.Cask) (z := 0) 2 rfl rfl Try.underlying50 (.int Try.underlying3) Try.zeroValue3 rfl rfl ?_
       refine .move rfl rfl ?_
       refine .extract rfl rfl rfl ?_
       refine .extract rfl rfl rfl ?_
       refine .assign rfl rfl ?_
       refine .assignB rfl rfl (fun is_54 e55 => ?_)
       refine .nil ?_
       refine .code ?_
       refine .seq ?_
       refine .region ?_
       refine .move rfl rfl ?_
       refine .nil ?_
       refine .code ?_
       refine .cond rfl (fun hb56 => ?_) (fun hb56 => ?_)
       ·skip
        refine .seq ?_
        refine .region ?_
        refine .assign rfl rfl ?_
        refine .nil ?_
        refine .keep (.cons (k := 6) rfl (.nil _)) ?_
        refine .code ?_
        refine .drop 2 ?_
        refine .drop 1 ?_
        refine .drop 0 ?_
        refine .retQ (LPost.ret fun a w h => ⟨rfl, F_31, l_32, h.1.sub (.cons (k := 6) rfl (.nil _)), h.2⟩)
       ·skip
        refine .skip ?_
        refine .code ?_
        refine .region ?_
        refine .move rfl rfl ?_
        refine .fieldAddr rfl Try.underlying45 rfl Try.sizeOf3 rfl ?_
        refine .loadO rfl Try.isAgg3 rfl (i := 0) rfl rfl ?_
        refine .fieldAddr rfl Try.underlying45 rfl Try.sizeOf3 rfl ?_
        refine .loadO rfl Try.isAgg3 rfl (i := 0) rfl rfl ?_
        refine .letv (fun m_57 e58 => ?_)
        refine .mapUpdateE (key := x40.Cask) (val := x40.Person) 2 rfl (Fz.le_refl _) Try.underlying50 (.int Try.underlying3) rfl rfl rfl (fun _ _ => rfl) e58 ?_
        refine .nil ?_
        refine .block ?_
        refine .block ?_
        refine .keep (.cons (k := 0) rfl (.cons (k := 1) rfl (.cons (k := 2) rfl (.cons (k := 7) rfl (.cons (k := 8) rfl (.cons (k := 10) rfl (.cons (k := 11) rfl (.cons (k := 12) rfl (.nil _))))))))) ?_
        refine .code ?_
        refine .region ?_
        refine .move rfl rfl ?_
        refine .add rfl rfl rfl ?_
        refine .assignL rfl rfl (fun i59 e60 => ?_)
        refine .nil ?_
        refine .drop 0 ?_
        exact .nil (LPost.norm fun a w h => ⟨F_31, p33, k34, p36, k37, l_32, h.1.sub (.cons (k := 0) rfl (.cons (k := 1) rfl (.cons (k := 2) rfl (.cons (k := 7) rfl (.cons (k := 8) rfl (.cons (k := 10) rfl (.cons (k := 11) rfl (.cons (k := 12) rfl (.nil _))))))))), h.2⟩)
      ·skip
       refine .seq ?_
       refine .region ?_
       refine .eql rfl rfl rfl ?_
       refine .assign rfl rfl ?_
       refine .nil ?_
       refine .code ?_
       refine .cond rfl (fun hb61 => ?_) (fun hb61 => ?_)
       ·skip
        refine .seq ?_
        refine .seq ?_
        refine .region ?_
        refine .move rfl rfl ?_
        refine .move rfl rfl ?_
        refine .orP (b := pledged51) (b' := (((mapGet s30.1 x40.Cask).getD 0) != x40.Person)) 8 100 (fun hb62 => ?_) (fun hb63 => ?_) (fun F_64 l_65 => ?_)
        ·skip
         refine .onH hb62 rfl rfl ?_
         refine .move rfl rfl ?_
         refine .onH hb62 rfl rfl ?_
         refine .fieldAddr rfl Try.underlying45 rfl Try.sizeOf3 rfl ?_
         refine .onH hb62 rfl rfl ?_
         refine .loadO rfl Try.isAgg3 rfl (i := 0) rfl rfl ?_
         refine .onH hb62 rfl rfl ?_
         refine .lookupX (cv := (fun x : Int => (.int .i64 x))) (key := x40.Cask) (z := 0) 2 rfl rfl Try.underlying50 (.int Try.underlying3) Try.zeroValue3 rfl rfl ?_
         refine .onH hb62 rfl rfl ?_
         refine .fieldAddr rfl Try.underlying45 rfl Try.sizeOf3 rfl ?_
         refine .onH hb62 rfl rfl ?_
         refine .loadO rfl Try.isAgg3 rfl (i := 0) rfl rfl ?_
         refine .onH hb62 rfl rfl ?_
         refine .neq rfl rfl rfl ?_
         refine .pickFH hb62 rfl rfl rfl ?_
         exact .fin 8 rfl rfl (by kernel_rfl) (Fz.le_refl _)
        ·skip
         refine .offH hb63 rfl rfl rfl ?_
         refine .offH hb63 rfl rfl rfl ?_
         refine .offH hb63 rfl rfl rfl ?_
         refine .offH hb63 rfl rfl rfl ?_
         refine .offH hb63 rfl rfl rfl ?_
         refine .offH hb63 rfl rfl rfl ?_
         refine .offH hb63 rfl rfl rfl ?_
         refine .pickTH hb63 rfl rfl rfl ?_
         exact .fin 8 rfl rfl (by kernel_rfl) (Fz.le_refl _)
        refine .nil ?_
        refine .code ?_
        refine .cond rfl (fun hb66 => ?_) (fun hb66 => ?_)
        ·skip
         refine .seq ?_
         refine .region ?_
         refine .assign rfl rfl ?_
         refine .nil ?_
         refine .code ?_
         refine .drop 2 ?_
         refine .drop 1 ?_
         refine .drop 0 ?_
         refine .retQ (LPost.ret fun a w h => ⟨rfl, F_64, (Fz.le_trans l_32 l_65), h.1.sub (.cons (k := 6) rfl (.nil _)), h.2⟩)
        ·skip
         refine .skip ?_
         refine .code ?_
         refine .region ?_
         refine .move rfl rfl ?_
         refine .fieldAddr rfl Try.underlying45 rfl Try.sizeOf3 rfl ?_
         refine .loadO rfl Try.isAgg3 rfl (i := 0) rfl rfl ?_
         refine .fieldAddr rfl Try.underlying45 rfl Try.sizeOf3 rfl ?_
         refine .loadO rfl Try.isAgg3 rfl (i := 0) rfl rfl ?_
         refine .letv (fun m_67 e68 => ?_)
         refine .mapUpdateE (key := x40.Cask) (val := x40.To) 2 rfl l_65 Try.underlying50 (.int Try.underlying3) rfl rfl rfl (fun _ _ => rfl) e68 ?_
         refine .nil ?_
         refine .block ?_
         refine .block ?_
         refine .code ?_
         refine .region ?_
         refine .move rfl rfl ?_
         refine .add rfl rfl rfl ?_
         refine .assignL rfl rfl (fun i69 e70 => ?_)
         refine .nil ?_
         refine .drop 0 ?_
         refine .ownMapUp 0 l_65 rfl ?_
         exact .nil (LPost.norm fun a w h => ⟨F_64, p33, k34, p36, k37, (Fz.le_trans l_32 l_65), h.1.sub (.cons (k := 0) rfl (.cons (k := 1) rfl (.cons (k := 2) rfl (.cons (k := 7) rfl (.cons (k := 8) rfl (.cons (k := 10) rfl (.cons (k := 11) rfl (.cons (k := 12) rfl (.nil _))))))))), h.2⟩)
       ·skip
        refine .seq ?_
        refine .region ?_
        refine .eql rfl rfl rfl ?_
        refine .assign rfl rfl ?_
        refine .nil ?_
        refine .code ?_
        refine .cond rfl (fun hb71 => ?_) (fun hb71 => ?_)
        ·skip
         refine .seq ?_
         refine .seq ?_
         refine .region ?_
         refine .move rfl rfl ?_
         refine .move rfl rfl ?_
         refine .orP (b := pledged51) (b' := (((mapGet s30.1 x40.Cask).getD 0) != x40.Person)) 8 117 (fun hb72 => ?_) (fun hb73 => ?_) (fun F_74 l_75 => ?_)
         ·skip
          refine .onH hb72 rfl rfl ?_
          refine .move rfl rfl ?_
          refine .onH hb72 rfl rfl ?_
          refine .fieldAddr rfl Try.underlying45 rfl Try.sizeOf3 rfl ?_
          refine .onH hb72 rfl rfl ?_
          refine .loadO rfl Try.isAgg3 rfl (i := 0) rfl rfl ?_
          refine .onH hb72 rfl rfl ?_
          refine .lookupX (cv := (fun x : Int => (.int .i64 x))) (key := x40.Cask) (z := 0) 2 rfl rfl Try.underlying50 (.int Try.underlying3) Try.zeroValue3 rfl rfl ?_
          refine .onH hb72 rfl rfl ?_
          refine .fieldAddr rfl Try.underlying45 rfl Try.sizeOf3 rfl ?_
          refine .onH hb72 rfl rfl ?_
          refine .loadO rfl Try.isAgg3 rfl (i := 0) rfl rfl ?_
          refine .onH hb72 rfl rfl ?_
          refine .neq rfl rfl rfl ?_
          refine .pickFH hb72 rfl rfl rfl ?_
          exact .fin 8 rfl rfl (by kernel_rfl) (Fz.le_refl _)
         ·skip
          refine .offH hb73 rfl rfl rfl ?_
          refine .offH hb73 rfl rfl rfl ?_
          refine .offH hb73 rfl rfl rfl ?_
          refine .offH hb73 rfl rfl rfl ?_
          refine .offH hb73 rfl rfl rfl ?_
          refine .offH hb73 rfl rfl rfl ?_
          refine .offH hb73 rfl rfl rfl ?_
          refine .pickTH hb73 rfl rfl rfl ?_
          exact .fin 8 rfl rfl (by kernel_rfl) (Fz.le_refl _)
         refine .nil ?_
         refine .code ?_
         refine .cond rfl (fun hb76 => ?_) (fun hb76 => ?_)
         ·skip
          refine .seq ?_
          refine .region ?_
          refine .assign rfl rfl ?_
          refine .nil ?_
          refine .code ?_
          refine .drop 2 ?_
          refine .drop 1 ?_
          refine .drop 0 ?_
          refine .retQ (LPost.ret fun a w h => ⟨rfl, F_74, (Fz.le_trans l_32 l_75), h.1.sub (.cons (k := 6) rfl (.nil _)), h.2⟩)
         ·skip
          refine .skip ?_
          refine .code ?_
          refine .region ?_
          refine .move rfl rfl ?_
          refine .fieldAddr rfl Try.underlying45 rfl Try.sizeOf3 rfl ?_
          refine .loadO rfl Try.isAgg3 rfl (i := 0) rfl rfl ?_
          refine .fieldAddr rfl Try.underlying45 rfl Try.sizeOf3 rfl ?_
          refine .loadO rfl Try.isAgg3 rfl (i := 0) rfl rfl ?_
          refine .letv (fun m_77 e78 => ?_)
          refine .mapUpdateE (key := x40.Cask) (val := x40.To) 1 rfl l_75 Try.underlying50 (.int Try.underlying3) rfl rfl rfl (fun _ _ => rfl) e78 ?_
          refine .nil ?_
          refine .block ?_
          refine .block ?_
          refine .keep (.cons (k := 0) rfl (.cons (k := 1) rfl (.cons (k := 2) rfl (.cons (k := 7) rfl (.cons (k := 8) rfl (.cons (k := 10) rfl (.cons (k := 11) rfl (.cons (k := 12) rfl (.nil _))))))))) ?_
          refine .code ?_
          refine .region ?_
          refine .move rfl rfl ?_
          refine .add rfl rfl rfl ?_
          refine .assignL rfl rfl (fun i79 e80 => ?_)
          refine .nil ?_
          refine .drop 0 ?_
          refine .ownMapUp 1 l_75 rfl ?_
          exact .nil (LPost.norm fun a w h => ⟨F_74, p33, k34, p36, k37, (Fz.le_trans l_32 l_75), h.1.sub (.cons (k := 0) rfl (.cons (k := 1) rfl (.cons (k := 2) rfl (.cons (k := 7) rfl (.cons (k := 8) rfl (.cons (k := 10) rfl (.cons (k := 11) rfl (.cons (k := 12) rfl (.nil _))))))))), h.2⟩)
        ·skip
         refine .seq ?_
         refine .region ?_
         refine .eql rfl rfl rfl ?_
         refine .assign rfl rfl ?_
         refine .nil ?_
         refine .code ?_
         refine .cond rfl (fun hb81 => ?_) (fun hb81 => ?_)
         ·skip
          refine .seq ?_
          refine .seq ?_
          refine .region ?_
          refine .move rfl rfl ?_
          refine .not rfl rfl ?_
          refine .move rfl rfl ?_
          refine .orP (b := (!pledged51)) (b' := (((mapGet s30.2.1 x40.Cask).getD 0) != x40.Person)) 8 135 (fun hb82 => ?_) (fun hb83 => ?_) (fun F_84 l_85 => ?_)
          ·skip
           refine .onH hb82 rfl rfl ?_
           refine .move rfl rfl ?_
           refine .onH hb82 rfl rfl ?_
           refine .fieldAddr rfl Try.underlying45 rfl Try.sizeOf3 rfl ?_
           refine .onH hb82 rfl rfl ?_
           refine .loadO rfl Try.isAgg3 rfl (i := 0) rfl rfl ?_
           refine .onH hb82 rfl rfl ?_
           refine .lookupX (cv := (fun x : Int => (.int .i64 x))) (key := x40.Cask) (z := 0) 1 rfl rfl Try.underlying50 (.int Try.underlying3) Try.zeroValue3 rfl rfl ?_
           refine .onH hb82 rfl rfl ?_
           refine .fieldAddr rfl Try.underlying45 rfl Try.sizeOf3 rfl ?_
           refine .onH hb82 rfl rfl ?_
           refine .loadO rfl Try.isAgg3 rfl (i := 0) rfl rfl ?_
           refine .onH hb82 rfl rfl ?_
           refine .neq rfl rfl rfl ?_
           refine .pickFH hb82 rfl rfl rfl ?_
           exact .fin 8 rfl rfl (by kernel_rfl) (Fz.le_refl _)
          ·skip
           refine .offH hb83 rfl rfl rfl ?_
           refine .offH hb83 rfl rfl rfl ?_
           refine .offH hb83 rfl rfl rfl ?_
           refine .offH hb83 rfl rfl rfl ?_
           refine .offH hb83 rfl rfl rfl ?_
           refine .offH hb83 rfl rfl rfl ?_
           refine .offH hb83 rfl rfl rfl ?_
           refine .pickTH hb83 rfl rfl rfl ?_
           exact .fin 8 rfl rfl (by kernel_rfl) (Fz.le_refl _)
          refine .nil ?_
          refine .code ?_
          refine .cond rfl (fun hb86 => ?_) (fun hb86 => ?_)
          ·skip
           refine .seq ?_
           refine .region ?_
           refine .assign rfl rfl ?_
           refine .nil ?_
           refine .keep (.cons (k := 6) rfl (.nil _)) ?_
           refine .code ?_
           refine .drop 2 ?_
           refine .drop 1 ?_
           refine .drop 0 ?_
           refine .retQ (LPost.ret fun a w h => ⟨rfl, F_84, (Fz.le_trans l_32 l_85), h.1.sub (.cons (k := 6) rfl (.nil _)), h.2⟩)
          ·skip
           refine .skip ?_
           refine .code ?_
           refine .region ?_
           refine .move rfl rfl ?_
           refine .fieldAddr rfl Try.underlying45 rfl Try.sizeOf3 rfl ?_
           refine .loadO rfl Try.isAgg3 rfl (i := 0) rfl rfl ?_
           refine .deleteM (key := x40.Cask) 1 rfl (fun _ h => by cases h) rfl Try.underlying50 (.int Try.underlying3) rfl rfl ?_
           refine .nil ?_
           refine .block ?_
           refine .block ?_
           refine .keep (.cons (k := 0) rfl (.cons (k := 1) rfl (.cons (k := 2) rfl (.cons (k := 7) rfl (.cons (k := 8) rfl (.cons (k := 10) rfl (.cons (k := 11) rfl (.cons (k := 12) rfl (.nil _))))))))) ?_
           refine .code ?_
           refine .region ?_
           refine .move rfl rfl ?_
           refine .add rfl rfl rfl ?_
           refine .assignL rfl rfl (fun i87 e88 => ?_)
           refine .nil ?_
           refine .drop 0 ?_
           refine .ownMapUp 1 l_85 rfl ?_
           refine .ownMapUp 0 l_85 rfl ?_
           exact .nil (LPost.norm fun a w h => ⟨F_84, p33, k34, p36, k37, (Fz.le_trans l_32 l_85), h.1.sub (.cons (k := 0) rfl (.cons (k := 1) rfl (.cons (k := 2) rfl (.cons (k := 7) rfl (.cons (k := 8) rfl (.cons (k := 10) rfl (.cons (k := 11) rfl (.cons (k := 12) rfl (.nil _))))))))), h.2⟩)
         ·skip
          refine .seq ?_
          refine .region ?_
          refine .eql rfl rfl rfl ?_
          refine .assign rfl rfl ?_
          refine .nil ?_
          refine .code ?_
          refine .cond rfl (fun hb89 => ?_) (fun hb89 => ?_)
          ·skip
           refine .seq ?_
           refine .region ?_
           refine .move rfl rfl ?_
           refine .nil ?_
           refine .code ?_
           refine .cond rfl (fun hb90 => ?_) (fun hb90 => ?_)
           ·skip
            refine .seq ?_
            refine .region ?_
            refine .assign rfl rfl ?_
            refine .nil ?_
            refine .code ?_
            refine .drop 2 ?_
            refine .drop 1 ?_
            refine .drop 0 ?_
            refine .retQ (LPost.ret fun a w h => ⟨rfl, F_31, l_32, h.1.sub (.cons (k := 6) rfl (.nil _)), h.2⟩)
           ·skip
            refine .skip ?_
            refine .block ?_
            refine .block ?_
            refine .code ?_
            refine .region ?_
            refine .move rfl rfl ?_
            refine .add rfl rfl rfl ?_
            refine .assignL rfl rfl (fun i91 e92 => ?_)
            refine .nil ?_
            refine .drop 0 ?_
            exact .nil (LPost.norm fun a w h => ⟨F_31, p33, k34, p36, k37, l_32, h.1.sub (.cons (k := 0) rfl (.cons (k := 1) rfl (.cons (k := 2) rfl (.cons (k := 7) rfl (.cons (k := 8) rfl (.cons (k := 10) rfl (.cons (k := 11) rfl (.cons (k := 12) rfl (.nil _))))))))), h.2⟩)
          ·skip
           refine .seq ?_
           refine .region ?_
           refine .eql rfl rfl rfl ?_
           refine .assign rfl rfl ?_
           refine .nil ?_
           refine .code ?_
           refine .cond rfl (fun hb93 => ?_) (fun hb93 => ?_)
           ·skip
            refine .seq ?_
            refine .region ?_
            refine .move rfl rfl ?_
            refine .fieldAddr rfl Try.underlying45 rfl Try.sizeOf3 rfl ?_
            refine .loadO rfl Try.isAgg3 rfl (i := 0) rfl rfl ?_
            refine .lookupX2 (cv := (fun x : Int => (.int .i64 x))) (key := x40.Other) (z := 0) 1 rfl rfl Try.underlying50 (.int Try.underlying3) Try.zeroValue3 rfl rfl ?_
            refine .move rfl rfl ?_
            refine .extract rfl rfl rfl ?_
            refine .extract rfl rfl rfl ?_
            refine .assign rfl rfl ?_
            refine .assignB rfl rfl (fun other94 e95 => ?_)
            refine .nil ?_
            refine .keep (.cons (k := 0) rfl (.cons (k := 1) rfl (.cons (k := 2) rfl (.cons (k := 7) rfl (.cons (k := 8) rfl (.cons (k := 10) rfl (.cons (k := 11) rfl (.cons (k := 12) rfl (.cons (k := 13) rfl (.cons (k := 15) rfl (.cons (k := 19) rfl (.nil _)))))))))))) ?_
            refine .code ?_
            refine .seq ?_
            refine .region ?_
            refine .move rfl rfl ?_
            refine .move rfl rfl ?_
            refine .orP (b := pledged51) (b' := other94) 2 154 (fun hb96 => ?_) (fun hb97 => ?_) (fun F_98 l_99 => ?_)
            ·skip
             refine .onH hb96 rfl rfl ?_
             refine .move rfl rfl ?_
             refine .pickFH hb96 rfl rfl rfl ?_
             exact .fin 2 rfl rfl (by kernel_rfl) (Fz.le_refl _)
            ·skip
             refine .offH hb97 rfl rfl rfl ?_
             refine .pickTH hb97 rfl rfl rfl ?_
             exact .fin 2 rfl rfl (by kernel_rfl) (Fz.le_refl _)
            refine .move rfl rfl ?_
            refine .orP (b := (pledged51 || other94)) (b' := (((mapGet s30.1 x40.Cask).getD 0) != ((mapGet s30.1 x40.Other).getD 0))) 10 165 (fun hb100 => ?_) (fun hb101 => ?_) (fun F_102 l_103 => ?_)
            ·skip
             refine .onH hb100 rfl rfl ?_
             refine .move rfl rfl ?_
             refine .onH hb100 rfl rfl ?_
             refine .fieldAddr rfl Try.underlying45 rfl Try.sizeOf3 rfl ?_
             refine .onH hb100 rfl rfl ?_
             refine .loadO rfl Try.isAgg3 rfl (i := 0) rfl rfl ?_
             refine .onH hb100 rfl rfl ?_
             refine .lookupX (cv := (fun x : Int => (.int .i64 x))) (key := x40.Cask) (z := 0) 2 rfl rfl Try.underlying50 (.int Try.underlying3) Try.zeroValue3 rfl rfl ?_
             refine .onH hb100 rfl rfl ?_
             refine .move rfl rfl ?_
             refine .onH hb100 rfl rfl ?_
             refine .fieldAddr rfl Try.underlying45 rfl Try.sizeOf3 rfl ?_
             refine .onH hb100 rfl rfl ?_
             refine .loadO rfl Try.isAgg3 rfl (i := 0) rfl rfl ?_
             refine .onH hb100 rfl rfl ?_
             refine .lookupX (cv := (fun x : Int => (.int .i64 x))) (key := x40.Other) (z := 0) 2 rfl rfl Try.underlying50 (.int Try.underlying3) Try.zeroValue3 rfl rfl ?_
             refine .onH hb100 rfl rfl ?_
             refine .neq rfl rfl rfl ?_
             refine .pickFH hb100 rfl rfl rfl ?_
             exact .fin 10 rfl rfl (by kernel_rfl) (Fz.le_refl _)
            ·skip
             refine .offH hb101 rfl rfl rfl ?_
             refine .offH hb101 rfl rfl rfl ?_
             refine .offH hb101 rfl rfl rfl ?_
             refine .offH hb101 rfl rfl rfl ?_
             refine .offH hb101 rfl rfl rfl ?_
             refine .offH hb101 rfl rfl rfl ?_
             refine .offH hb101 rfl rfl rfl ?_
             refine .offH hb101 rfl rfl rfl ?_
             refine .offH hb101 rfl rfl rfl ?_
             refine .pickTH hb101 rfl rfl rfl ?_
             exact .fin 10 rfl rfl (by kernel_rfl) (Fz.le_refl _)
            refine .nil ?_
            refine .code ?_
            refine .cond rfl (fun hb104 => ?_) (fun hb104 => ?_)
            ·skip
             refine .seq ?_
             refine .region ?_
             refine .assign rfl rfl ?_
             refine .nil ?_
             refine .code ?_
             refine .drop 2 ?_
             refine .drop 1 ?_
             refine .drop 0 ?_
             refine .retQ (LPost.ret fun a w h => ⟨rfl, F_102, (Fz.le_trans l_32 (Fz.le_trans l_99 l_103)), h.1.sub (.cons (k := 6) rfl (.nil _)), h.2⟩)
            ·skip
             refine .skip ?_
             refine .block ?_
             refine .block ?_
             refine .code ?_
             refine .region ?_
             refine .move rfl rfl ?_
             refine .add rfl rfl rfl ?_
             refine .assignL rfl rfl (fun i105 e106 => ?_)
             refine .nil ?_
             refine .drop 0 ?_
             refine .ownMapUp 1 (Fz.le_trans l_99 l_103) rfl ?_
             refine .ownMapUp 0 (Fz.le_trans l_99 l_103) rfl ?_
             exact .nil (LPost.norm fun a w h => ⟨F_102, p33, k34, p36, k37, (Fz.le_trans l_32 (Fz.le_trans l_99 l_103)), h.1.sub (.cons (k := 0) rfl (.cons (k := 1) rfl (.cons (k := 2) rfl (.cons (k := 7) rfl (.cons (k := 8) rfl (.cons (k := 10) rfl (.cons (k := 11) rfl (.cons (k := 12) rfl (.nil _))))))))), h.2⟩)
           ·skip
            refine .skip ?_
            refine .block ?_
            refine .block ?_
            refine .code ?_
            refine .region ?_
            refine .move rfl rfl ?_
            refine .add rfl rfl rfl ?_
            refine .assignL rfl rfl (fun i107 e108 => ?_)
            refine .nil ?_
            refine .drop 0 ?_
            exact .nil (LPost.norm fun a w h => ⟨F_31, p33, k34, p36, k37, l_32, h.1.sub (.cons (k := 0) rfl (.cons (k := 1) rfl (.cons (k := 2) rfl (.cons (k := 7) rfl (.cons (k := 8) rfl (.cons (k := 10) rfl (.cons (k := 11) rfl (.cons (k := 12) rfl (.nil _))))))))), h.2⟩)
     ·skip
      refine .exitOut rfl (LPost.exit fun a w h => ⟨rfl, F_31, p33, k34, p36, k37, l_32, h.1.sub (.cons (k := 0) rfl (.cons (k := 1) rfl (.cons (k := 2) rfl (.cons (k := 7) rfl (.cons (k := 10) rfl (.cons (k := 11) rfl (.nil _))))))), h.2⟩)
    ·intro b109 hb0 hk e a w hD
     rcases b109 with b109 | b109
     ·skip
      obtain ⟨rfl, F_110, p112, k113, p115, k116, l_111, hA⟩ := hD
      refine interp_exit rfl (GE.app ?_ hk a w hA)
      refine .code ?_
      refine .seq ?_
      refine .seq ?_
      refine .region ?_
      refine .move rfl rfl ?_
      refine .lenS rfl rfl Try.underlying25 rfl ?_
      refine .move rfl rfl ?_
      refine .mapLen 1 rfl rfl rfl Try.underlying50 rfl ?_
      refine .neq rfl rfl rfl ?_
      refine .nil ?_
      refine .code ?_
      refine .cond rfl (fun hb120 => ?_) (fun hb120 => ?_)
      ·skip
       refine .seq ?_
       refine .region ?_
       refine .assign rfl rfl ?_
       refine .nil ?_
       refine .code ?_
       exact .ret0 Try.results7 (.tmp rfl (.nil)) (i := 2) rfl (Fz.le_trans l_12 (Fz.le_trans l_24 l_111)) rfl
      ·skip
       refine .skip ?_
       refine .code ?_
       refine .seq ?_
       refine .region ?_
       refine .assign rfl rfl ?_
       refine .nil ?_
       refine .code ?_
       refine .seq ?_
       refine .seq ?_
       refine .region ?_
       refine .assign rfl rfl ?_
       refine .nil ?_
       refine .code ?_
       refine .block ?_
       refine .ownNil 1 (Ex (cInt .i64)) 3 ?_
       refine .keep (.cons (k := 0) rfl (.cons (k := 1) rfl (.cons (k := 2) rfl (.cons (k := 7) rfl (.cons (k := 10) rfl (.cons (k := 11) rfl (.cons (k := 20) rfl (.cons (k := 21) rfl (.nil _))))))))) ?_
       refine .loop (fun (s122 : (List Int) × Int) a w => ∃ (F_123 : Fz) (p125 : Option Addr) (k126 : Nat), F_110 ≤ F_123 ∧ Hd 305 [] [(0, (.slice p2 l_1.length k3)), (1, (.int .i64 day5)), (2, (.int .u8 who6)), (7, (.slice p14 r_13.1.length k15)), (10, (.map (some p112))), (11, (.map (some p115))), (20, (.slice p125 s122.1.length k126)), (21, (.int .i64 s122.2))] F_123 [ownSl 1 (Ex (cInt .i64)) F_123 3 p125 k126 s122.1, ownMap (fun x : Int => (.int .i64 x)) (fun _ x v => v = (fun x : Int => (.int .i64 x)) x) F_110 p115 b109.2, ownMap (fun x : Int => (.int .i64 x)) (fun _ x v => v = (fun x : Int => (.int .i64 x)) x) F_110 p112 b109.1, R] a w) (fun b0 e a w => match b0 with | .inl b166 => e = .exit 3 ∧ ∃ (F_167 : Fz) (p169 : Option Addr) (k170 : Nat), F_110 ≤ F_167 ∧ Hd 305 [] [(0, (.slice p2 l_1.length k3)), (1, (.int .i64 day5)), (2, (.int .u8 who6)), (7, (.slice p14 r_13.1.length k15)), (20, (.slice p169 b166.length k170))] F_167 [ownSl 1 (Ex (cInt .i64)) F_167 3 p169 k170 b166, ownMap (fun x : Int => (.int .i64 x)) (fun _ x v => v = (fun x : Int => (.int .i64 x)) x) F_110 p115 b109.2, ownMap (fun x : Int => (.int .i64 x)) (fun _ x v => v = (fun x : Int => (.int .i64 x)) x) F_110 p112 b109.1, R] a w | .inr b166 => e = .ret ∧ ∃ (F_172 : Fz), F_110 ≤ F_172 ∧ Hd 305 [] [(6, (.bool b166))] F_172 [R] a w) ?_ ?_ ?_
       ·exact fun a w h => ⟨F_110, none, 0, (Fz.le_refl _), h.1.sub (.cons (k := 0) rfl (.cons (k := 1) rfl (.cons (k := 2) rfl (.cons (k := 7) rfl (.cons (k := 10) rfl (.cons (k := 11) rfl (.cons (k := 20) rfl (.cons (k := 21) rfl (.nil _))))))))), h.2⟩
       ·intro s122 ctl
        refine GC.ex (fun a w ⟨F_123, p125, k126, l_124, hA⟩ => ⟨_, hA, ?_⟩)
        unfold b_wormtublaw06_CaskPledged_2
        refine .seq ?_
        refine .seq ?_
        refine .region ?_
        refine .move rfl rfl ?_
        refine .move rfl rfl ?_
        refine .lenS rfl rfl Try.underlying25 rfl ?_
        refine .lss rfl rfl rfl ?_
        refine .nil ?_
        refine .code ?_
        refine .cond rfl (fun hb128 => ?_) (fun hb128 => ?_)
        ·skip
         refine .skip ?_
         refine .code ?_
         refine .seq ?_
         refine .block ?_
         refine .seq ?_
         refine .region ?_
         refine .move rfl rfl ?_
         refine .move rfl rfl ?_
         refine .idx rfl Try.underlying25 Try.sizeOf31 (h16.mono (Fz.le_trans l_24 (Fz.le_trans l_111 l_124))) rfl rfl (fun x129 b130 o131 T132 fr133 cs134 e135 hm136 hv137 => ?_)
         refine .loadFA rfl Try.isAgg31 Try.sizeOf31 rfl hm136 hv137 rfl ?_
         refine .alloc (cs := (cApiCask (ApiCask.mk 0 0 0 0 0 0 0 0 (fun _ => 0) (fun _ => 0)))) rfl Try.zeroValue31 rfl (fun b139 => ?_)
         refine .store (cs' := (cApiCask x129)) Try.sizeOf31 rfl rfl rfl rfl (i := 0) rfl (Nat.le_of_ble_eq_true rfl) rfl (setMany_all (by rfl)) ?_
         refine .nil ?_
         refine .code ?_
         refine .seq ?_
         refine .region ?_
         refine .move rfl rfl ?_
         refine .fieldAddr rfl Try.underlying31 rfl Try.sizeOf3 rfl ?_
         refine .loadO rfl Try.isAgg3 rfl (i := 0) rfl rfl ?_
         refine .lookupX2 (cv := (fun x : Int => (.int .i64 x))) (key := x129.Number) (z := 0) 2 rfl rfl Try.underlying50 (.int Try.underlying3) Try.zeroValue3 rfl rfl ?_
         refine .move rfl rfl ?_
         refine .extract rfl rfl rfl ?_
         refine .extract rfl rfl rfl ?_
         refine .assignL rfl rfl (fun to_140 e141 => ?_)
         refine .assignB rfl rfl (fun pledged142 e143 => ?_)
         refine .nil ?_
         refine .keep (.cons (k := 0) rfl (.cons (k := 1) rfl (.cons (k := 2) rfl (.cons (k := 7) rfl (.cons (k := 10) rfl (.cons (k := 11) rfl (.cons (k := 20) rfl (.cons (k := 21) rfl (.cons (k := 22) rfl (.cons (k := 23) rfl (.cons (k := 24) rfl (.nil _)))))))))))) ?_
         refine .code ?_
         refine .seq ?_
         refine .seq ?_
         refine .region ?_
         refine .move rfl rfl ?_
         refine .not rfl rfl ?_
         refine .nil ?_
         refine .code ?_
         refine .keep (.cons (k := 0) rfl (.cons (k := 1) rfl (.cons (k := 2) rfl (.cons (k := 7) rfl (.cons (k := 10) rfl (.cons (k := 11) rfl (.cons (k := 20) rfl (.cons (k := 21) rfl (.cons (k := 22) rfl (.cons (k := 23) rfl (.cons (k := 189) rfl (.nil _)))))))))))) ?_
         refine GC.join0 (σ := Int) (fun j147 a w => ∃ (F_148 : Fz), F_123 ≤ F_148 ∧ Hd 305 [] [(0, (.slice p2 l_1.length k3)), (1, (.int .i64 day5)), (2, (.int .u8 who6)), (7, (.slice p14 r_13.1.length k15)), (10, (.map (some p112))), (11, (.map (some p115))), (20, (.slice p125 s122.1.length k126)), (21, (.int .i64 s122.2)), (22, (.pointer (some ⟨b139, 0, none⟩))), (23, (.int .i64 j147))] F_148 [pt b139 (.cells (cApiCask x129).toArray 31), ownSl 1 (Ex (cInt .i64)) F_123 3 p125 k126 s122.1, ownMap (fun x : Int => (.int .i64 x)) (fun _ x v => v = (fun x : Int => (.int .i64 x)) x) F_110 p115 b109.2, ownMap (fun x : Int => (.int .i64 x)) (fun _ x v => v = (fun x : Int => (.int .i64 x)) x) F_110 p112 b109.1, R] a w) (fun sj => ?_) (fun j147 hs0 => GE.ex (fun a w ⟨F_148, l_149, hA⟩ => ⟨_, hA, ?_⟩))
         ·skip
          refine .cond rfl (fun hb144 => ?_) (fun hb144 => ?_)
          ·skip
           refine .region ?_
           refine .assignL rfl rfl (fun to_145 e146 => ?_)
           refine .nil ?_
           exact .nil fun e a w h => by cases e; exact ⟨rfl, ⟨F_123, (Fz.le_refl _), h.1.sub (.cons (k := 0) rfl (.cons (k := 1) rfl (.cons (k := 2) rfl (.cons (k := 7) rfl (.cons (k := 10) rfl (.cons (k := 11) rfl (.cons (k := 20) rfl (.cons (k := 21) rfl (.cons (k := 22) rfl (.cons (k := 23) rfl (.nil _))))))))))), h.2⟩⟩
          ·skip
           refine .skip ?_
           exact .nil fun e a w h => by cases e; exact ⟨rfl, ⟨F_123, (Fz.le_refl _), h.1.sub (.cons (k := 0) rfl (.cons (k := 1) rfl (.cons (k := 2) rfl (.cons (k := 7) rfl (.cons (k := 10) rfl (.cons (k := 11) rfl (.cons (k := 20) rfl (.cons (k := 21) rfl (.cons (k := 22) rfl (.cons (k := 23) rfl (.nil _))))))))))), h.2⟩⟩
         refine .code ?_
         refine .seq ?_
         refine .seq ?_
         refine .region ?_
         refine .fieldAddr rfl Try.underlying31 rfl Try.sizeOf3 rfl ?_
         refine .loadO rfl Try.isAgg3 rfl (i := 0) rfl rfl ?_
         refine .move rfl rfl ?_
         refine .fieldAddr rfl Try.underlying31 rfl Try.sizeOf3 rfl ?_
         refine .loadO rfl Try.isAgg3 rfl (i := 0) rfl rfl ?_
         refine .lookupX (cv := (fun x : Int => (.int .i64 x))) (key := x129.Number) (z := 0) 3 rfl rfl Try.underlying50 (.int Try.underlying3) Try.zeroValue3 rfl rfl ?_
         refine .neq rfl rfl rfl ?_
         refine .move rfl rfl ?_
         refine .orP (b := (x129.Owner != ((mapGet b109.1 x129.Number).getD 0))) (b' := (x129.Creditor != j147)) 5 202 (fun hb150 => ?_) (fun hb151 => ?_) (fun F_152 l_153 => ?_)
         ·skip
          refine .onH hb150 rfl rfl ?_
          refine .fieldAddr rfl Try.underlying31 rfl Try.sizeOf3 rfl ?_
          refine .onH hb150 rfl rfl ?_
          refine .loadO rfl Try.isAgg3 rfl (i := 0) rfl rfl ?_
          refine .onH hb150 rfl rfl ?_
          refine .move rfl rfl ?_
          refine .onH hb150 rfl rfl ?_
          refine .neq rfl rfl rfl ?_
          refine .pickFH hb150 rfl rfl rfl ?_
          exact .fin 5 rfl rfl (by kernel_rfl) (Fz.le_refl _)
         ·skip
          refine .offH hb151 rfl rfl rfl ?_
          refine .offH hb151 rfl rfl rfl ?_
          refine .offH hb151 rfl rfl rfl ?_
          refine .offH hb151 rfl rfl rfl ?_
          refine .pickTH hb151 rfl rfl rfl ?_
          exact .fin 5 rfl rfl (by kernel_rfl) (Fz.le_refl _)
         refine .nil ?_
         refine .code ?_
         refine .cond rfl (fun hb154 => ?_) (fun hb154 => ?_)
         ·skip
          refine .seq ?_
          refine .region ?_
          refine .assign rfl rfl ?_
          refine .nil ?_
          refine .code ?_
          refine .drop 3 ?_
          refine .drop 2 ?_
          refine .drop 1 ?_
          refine .drop 0 ?_
          refine .retQ (LPost.ret fun a w h => ⟨rfl, F_152, (Fz.le_trans l_124 (Fz.le_trans l_149 l_153)), h.1.sub (.cons (k := 6) rfl (.nil _)), h.2⟩)
         ·skip
          refine .skip ?_
          refine .code ?_
          refine .region ?_
          refine .move rfl rfl ?_
          refine .fieldAddr rfl Try.underlying31 rfl Try.sizeOf3 rfl ?_
          refine .loadO rfl Try.isAgg3 rfl (i := 0) rfl rfl ?_
          refine .fieldAddr rfl Try.underlying31 rfl Try.sizeOf3 rfl ?_
          refine .loadO rfl Try.isAgg3 rfl (i := 0) rfl rfl ?_
          refine .sliceLit (cs := [.int .i64 x129.Owner, .int .i64 x129.Creditor]) (zc := [.int .i64 0, .int .i64 0]) rfl Try.underlying36 Try.sizeOf3 Try.zeroValue3 rfl rfl rfl (by kernel_rfl) (by kernel_rfl) (fun b155 F_156 l_157 hb158 => ?_)
          have h159 : RepSl 1 (Ex (cInt .i64)) F_156 (some ⟨b155, 0, none⟩) 2 ([x129.Owner, x129.Creditor]) := RepSl.ofRow hb158 (.cons ok_t3.mono rfl (.cons ok_t3.mono rfl .nil)) rfl rfl
          refine .append 1 ok_t3 (Fz.le_trans l_149 (Fz.le_trans l_153 l_157)) rfl Try.underlying36 Try.underlying36 rfl rfl rfl h159 rfl rfl (fun l_160 p161 k162 e163 => ?_)
          refine .assign rfl rfl ?_
          refine .nil ?_
          refine .block ?_
          refine .keep (.cons (k := 0) rfl (.cons (k := 1) rfl (.cons (k := 2) rfl (.cons (k := 7) rfl (.cons (k := 10) rfl (.cons (k := 11) rfl (.cons (k := 20) rfl (.cons (k := 21) rfl (.nil _))))))))) ?_
          refine .code ?_
          refine .region ?_
          refine .move rfl rfl ?_
          refine .add rfl rfl rfl ?_
          refine .assignL rfl rfl (fun i164 e165 => ?_)
          refine .nil ?_
          refine .drop 0 ?_
          exact .nil (LPost.norm fun a w h => ⟨F_156, p161, k162, (Fz.le_trans l_124 (Fz.le_trans l_149 (Fz.le_trans l_153 l_157))), h.1.sub (.cons (k := 0) rfl (.cons (k := 1) rfl (.cons (k := 2) rfl (.cons (k := 7) rfl (.cons (k := 10) rfl (.cons (k := 11) rfl (.cons (k := 20) rfl (.cons (k := 21) rfl (.nil _))))))))), h.2⟩)
        ·skip
         refine .exitOut rfl (LPost.exit fun a w h => ⟨rfl, F_123, p125, k126, l_124, h.1.sub (.cons (k := 0) rfl (.cons (k := 1) rfl (.cons (k := 2) rfl (.cons (k := 7) rfl (.cons (k := 20) rfl (.nil _)))))), h.2⟩)
       ·intro b166 hb0 hk e a w hD
        rcases b166 with b166 | b166
        ·skip
         obtain ⟨rfl, F_167, p169, k170, l_168, hA⟩ := hD
         refine interp_exit rfl (GE.app ?_ hk a w hA)
         refine .code ?_
         refine .seq ?_
         refine .seq ?_
         refine .region ?_
         refine .move rfl rfl ?_
         refine .lenS rfl rfl Try.underlying36 rfl ?_
         refine .eql rfl rfl rfl ?_
         refine .nil ?_
         refine .code ?_
         refine .cond rfl (fun hb174 => ?_) (fun hb174 => ?_)
         ·skip
          refine .seq ?_
          refine .region ?_
          refine .call0 rfl Try.call11 rfl rfl rfl (c_wormtublaw06_awake _ ) ?_
          rintro r_177 F_175 _ - l_176 rfl
          refine .assign rfl rfl ?_
          refine .nil ?_
          refine .code ?_
          exact .ret0 Try.results7 (.tmp rfl (.nil)) (i := 3) rfl (Fz.le_trans l_12 (Fz.le_trans l_24 (Fz.le_trans l_111 (Fz.le_trans l_168 l_176)))) rfl
         ·skip
          refine .skip ?_
          refine .code ?_
          refine .seq ?_
          refine .region ?_
          refine .move rfl rfl ?_
          refine .move rfl rfl ?_
          refine .convI rfl Try.underlying5 Try.underlying3 rfl ?_
          refine .move rfl rfl ?_
          refine .lenS rfl rfl Try.underlying36 rfl ?_
          refine .rem rfl rfl rfl (fun q178 e179 => ?_)
          refine .bind (fun x180 e181 => ?_)
          refine .ownAddr 0 rfl e181 (fun b182 hp183 => ?_)
          refine .idxOwn rfl Try.underlying36 Try.sizeOf3 hp183 e181 rfl rfl ?_
          refine .loadOwn (off := 0) (Φ := fun v => v = (.int .i64 x180)) 0 rfl (Fz.le_refl _) rfl Try.isAgg3 hp183 e181 rfl rfl (fun vs h => ⟨_, by subst h; exact rfl, rfl⟩) (fun v hv => ?_)
          subst hv
          refine .assign rfl rfl ?_
          refine .nil ?_
          refine .code ?_
          refine .seq ?_
          refine .region ?_
          refine .move rfl rfl ?_
          refine .move rfl rfl ?_
          refine .move rfl rfl ?_
          refine .call0 rfl Try.call17 rfl rfl rfl (c_cask_Owned _ l_1 p2 k3 (h4.mono (Fz.le_trans l_12 (Fz.le_trans l_24 (Fz.le_trans l_111 l_168)))) x180 day5) ?_
          rintro r_186 F_184 _ - l_185 ⟨p187, k188, p190, k191, rfl, h189, h192⟩
          refine .move rfl rfl ?_
          refine .extract rfl rfl rfl ?_
          refine .extract rfl rfl rfl ?_
          refine .extract rfl rfl rfl ?_
          refine .assign rfl rfl ?_
          refine .assign rfl rfl ?_
          refine .assign rfl rfl ?_
          refine .nil ?_
          refine .keep (.cons (k := 7) rfl (.cons (k := 25) rfl (.cons (k := 26) rfl (.cons (k := 27) rfl (.cons (k := 28) rfl (.nil _)))))) ?_
          refine .code ?_
          refine .seq ?_
          refine .seq ?_
          refine .region ?_
          refine .move rfl rfl ?_
          refine .neq rfl rfl rfl ?_
          refine .nil ?_
          refine .code ?_
          refine .cond rfl (fun hb193 => ?_) (fun hb193 => ?_)
          ·skip
           refine .seq ?_
           refine .region ?_
           refine .assign rfl rfl ?_
           refine .nil ?_
           refine .code ?_
           exact .ret0 Try.results7 (.tmp rfl (.nil)) (i := 3) rfl (Fz.le_trans l_12 (Fz.le_trans l_24 (Fz.le_trans l_111 (Fz.le_trans l_168 l_185)))) rfl
          ·skip
           refine .skip ?_
           refine .code ?_
           refine .seq ?_
           refine .region ?_
           refine .assign rfl rfl ?_
           refine .assign rfl rfl ?_
           refine .nil ?_
           refine .code ?_
           refine .seq ?_
           refine .seq ?_
           refine .region ?_
           refine .assign rfl rfl ?_
           refine .nil ?_
           refine .code ?_
           refine .block ?_
           refine .keep (.cons (k := 7) rfl (.cons (k := 25) rfl (.cons (k := 26) rfl (.cons (k := 27) rfl (.cons (k := 29) rfl (.cons (k := 30) rfl (.cons (k := 31) rfl (.nil _)))))))) ?_
           refine .loop (fun (s194 : Int × Int × Int) a w => ∃ (F_195 : Fz), F_184 ≤ F_195 ∧ Hd 305 [] [(7, (.slice p14 r_13.1.length k15)), (25, (.int .i64 x180)), (26, (.slice p187 r_186.1.length k188)), (27, (.slice p190 r_186.2.1.length k191)), (29, (.int .i64 s194.1)), (30, (.int .i64 s194.2.1)), (31, (.int .i64 s194.2.2))] F_195 [ownSl 1 (Ex (cInt .i64)) F_167 3 p169 k170 b166, ownMap (fun x : Int => (.int .i64 x)) (fun _ x v => v = (fun x : Int => (.int .i64 x)) x) F_110 p115 b109.2, ownMap (fun x : Int => (.int .i64 x)) (fun _ x v => v = (fun x : Int => (.int .i64 x)) x) F_110 p112 b109.1, R] a w) (fun b0 e a w => match b0 with | .inl b538 => e = .exit 5 ∧ ∃ (F_539 : Fz), F_184 ≤ F_539 ∧ Hd 305 [] [(26, (.slice p187 r_186.1.length k188)), (27, (.slice p190 r_186.2.1.length k191)), (29, (.int .i64 b538.1)), (30, (.int .i64 b538.2))] F_539 [ownSl 1 (Ex (cInt .i64)) F_167 3 p169 k170 b166, ownMap (fun x : Int => (.int .i64 x)) (fun _ x v => v = (fun x : Int => (.int .i64 x)) x) F_110 p115 b109.2, ownMap (fun x : Int => (.int .i64 x)) (fun _ x v => v = (fun x : Int => (.int .i64 x)) x) F_110 p112 b109.1, R] a w | .inr b538 => e = .ret ∧ ∃ (F_541 : Fz), F_184 ≤ F_541 ∧ Hd 305 [] [(6, (.bool b538))] F_541 [R] a w) ?_ ?_ ?_
           ·exact fun a w h => ⟨F_184, (Fz.le_refl _), h.1.sub (.cons (k := 7) rfl (.cons (k := 25) rfl (.cons (k := 26) rfl (.cons (k := 27) rfl (.cons (k := 29) rfl (.cons (k := 30) rfl (.cons (k := 31) rfl (.nil _)))))))), h.2⟩
           ·intro s194 ctl
            refine GC.ex (fun a w ⟨F_195, l_196, hA⟩ => ⟨_, hA, ?_⟩)
            unfold b_wormtublaw06_CaskPledged_3
            refine .seq ?_
            refine .seq ?_
            refine .region ?_
            refine .move rfl rfl ?_
            refine .move rfl rfl ?_
            refine .lenS rfl rfl Try.underlying25 rfl ?_
            refine .lss rfl rfl rfl ?_
            refine .nil ?_
            refine .code ?_
            refine .cond rfl (fun hb197 => ?_) (fun hb197 => ?_)
            ·skip
             refine .skip ?_
             refine .code ?_
             refine .seq ?_
             refine .block ?_
             refine .seq ?_
             refine .seq ?_
             refine .region ?_
             refine .move rfl rfl ?_
             refine .move rfl rfl ?_
             refine .idx rfl Try.underlying25 Try.sizeOf31 (h16.mono (Fz.le_trans l_24 (Fz.le_trans l_111 (Fz.le_trans l_168 (Fz.le_trans l_185 l_196))))) rfl rfl (fun x198 b199 o200 T201 fr202 cs203 e204 hm205 hv206 => ?_)
             refine .fieldAddr rfl Try.underlying31 rfl Try.sizeOf3 rfl ?_
             refine .loadF rfl Try.isAgg3 rfl hm205 (cell_of_take (k := 4) hv206 rfl) ?_
             refine .move rfl rfl ?_
             refine .eql rfl rfl rfl ?_
             refine .nil ?_
             refine .code ?_
             refine .cond rfl (fun hb208 => ?_) (fun hb208 => ?_)
             ·skip
              refine .seq ?_
              refine .seq ?_
              refine .keep (.cons (k := 7) rfl (.cons (k := 25) rfl (.cons (k := 26) rfl (.cons (k := 27) rfl (.cons (k := 29) rfl (.cons (k := 30) rfl (.cons (k := 31) rfl (.nil _)))))))) ?_
              refine GC.join0 (σ := Bool) (fun j300 a w => ∃ (F_301 : Fz), F_195 ≤ F_301 ∧ Hd 305 [] [(7, (.slice p14 r_13.1.length k15)), (25, (.int .i64 x180)), (26, (.slice p187 r_186.1.length k188)), (27, (.slice p190 r_186.2.1.length k191)), (29, (.int .i64 s194.1)), (30, (.int .i64 s194.2.1)), (31, (.int .i64 s194.2.2)), (260, (.bool j300))] F_301 [ownSl 1 (Ex (cInt .i64)) F_167 3 p169 k170 b166, ownMap (fun x : Int => (.int .i64 x)) (fun _ x v => v = (fun x : Int => (.int .i64 x)) x) F_110 p115 b109.2, ownMap (fun x : Int => (.int .i64 x)) (fun _ x v => v = (fun x : Int => (.int .i64 x)) x) F_110 p112 b109.1, R] a w) (fun sj => ?_) (fun j300 hs0 => GE.ex (fun a w ⟨F_301, l_302, hA⟩ => ⟨_, hA, ?_⟩))
              ·skip
               refine .ite (fun hb209 => ?_) (fun hb209 => ?_)
               ·skip
                refine .draw ⟨1000000, 0, [], 0⟩ [(245, (.int .i64 s194.1)), (246, (.slice p187 r_186.1.length k188)), (247, (.int .i64 (r_186.1.length : Int))), (248, (.bool (decide (s194.1 ≥ (r_186.1.length : Int))))), (249, (.bool (decide (s194.1 ≥ (r_186.1.length : Int))))), (250, undef), (251, undef), (252, undef), (253, undef), (254, undef), (255, undef), (256, undef), (257, undef), (258, undef), (259, undef), (260, (.bool true))] mixedOK (by kernel_rfl) (by kernel_rfl) rfl (by kernel_rfl) ?_ (fun F_210 b211 l_212 => ?_)
                ·skip
                 refine .cons (.mk 245 (.int .i64 s194.1) [(29, (.int .i64 s194.1))] rfl rfl rfl rfl (fun S hS hd => (.cons (hS _ _ rfl) (Sub.nil _))) (fun F_213 X l_214 => ?_)) ?_
                 ·skip
                  refine .move rfl rfl ?_
                  exact .fin1 (Fz.le_refl _)
                 refine .cons (.mk 246 (.slice p187 r_186.1.length k188) [(26, (.slice p187 r_186.1.length k188))] rfl rfl rfl rfl (fun S hS hd => (.cons (hS _ _ rfl) (Sub.nil _))) (fun F_215 X l_216 => ?_)) ?_
                 ·skip
                  refine .move rfl rfl ?_
                  exact .fin1 (Fz.le_refl _)
                 refine .cons (.mk 247 (.int .i64 (r_186.1.length : Int)) [(246, (.slice p187 r_186.1.length k188))] rfl rfl rfl rfl (fun S hS hd => (.cons (hd.1 rfl rfl _ _ rfl) (Sub.nil _))) (fun F_217 X l_218 => ?_)) ?_
                 ·skip
                  refine .lenS rfl rfl Try.underlying36 rfl ?_
                  exact .fin1 (Fz.le_refl _)
                 refine .cons (.mk 248 (.bool (decide (s194.1 ≥ (r_186.1.length : Int)))) [(245, (.int .i64 s194.1)), (247, (.int .i64 (r_186.1.length : Int)))] rfl rfl rfl rfl (fun S hS hd => (.cons (hd.1 rfl rfl _ _ rfl) (.cons (hd.2.1 rfl rfl _ _ rfl) (Sub.nil _)))) (fun F_219 X l_220 => ?_)) ?_
                 ·skip
                  refine .geq rfl rfl rfl ?_
                  exact .fin1 (Fz.le_refl _)
                 refine .cons (.mk 249 (.bool (decide (s194.1 ≥ (r_186.1.length : Int)))) [(248, (.bool (decide (s194.1 ≥ (r_186.1.length : Int)))))] rfl rfl rfl rfl (fun S hS hd => (.cons (hd.1 rfl rfl _ _ rfl) (Sub.nil _))) (fun F_221 X l_222 => ?_)) ?_
                 ·skip
                  refine .move rfl rfl ?_
                  exact .fin1 (Fz.le_refl _)
                 refine .cons (.mk 250 undef [(26, (.slice p187 r_186.1.length k188)), (249, (.bool (decide (s194.1 ≥ (r_186.1.length : Int)))))] rfl rfl rfl rfl (fun S hS hd => (.cons (hS _ _ rfl) (.cons (hd.1 rfl rfl _ _ rfl) (Sub.nil _)))) (fun F_223 X l_224 => ?_)) ?_
                 ·skip
                  refine .offH hb209 rfl rfl rfl ?_
                  exact .fin1 (Fz.le_refl _)
                 refine .cons (.mk 251 undef [(29, (.int .i64 s194.1)), (249, (.bool (decide (s194.1 ≥ (r_186.1.length : Int)))))] rfl rfl rfl rfl (fun S hS hd => (.cons (hS _ _ rfl) (.cons (hd.1 rfl rfl _ _ rfl) (Sub.nil _)))) (fun F_225 X l_226 => ?_)) ?_
                 ·skip
                  refine .offH hb209 rfl rfl rfl ?_
                  exact .fin1 (Fz.le_refl _)
                 refine .cons (.mk 252 undef [(249, (.bool (decide (s194.1 ≥ (r_186.1.length : Int))))), (250, undef), (251, undef)] rfl rfl rfl rfl (fun S hS hd => (.cons (hd.2.2.1 rfl rfl _ _ rfl) (.cons (hd.1 rfl rfl _ _ rfl) (.cons (hd.2.1 rfl rfl _ _ rfl) (Sub.nil _))))) (fun F_227 X l_228 => ?_)) ?_
                 ·skip
                  refine .offH hb209 rfl rfl rfl ?_
                  exact .fin1 (Fz.le_refl _)
                 refine .cons (.mk 253 undef [(249, (.bool (decide (s194.1 ≥ (r_186.1.length : Int))))), (252, undef)] rfl rfl rfl rfl (fun S hS hd => (.cons (hd.2.1 rfl rfl _ _ rfl) (.cons (hd.1 rfl rfl _ _ rfl) (Sub.nil _)))) (fun F_229 X l_230 => ?_)) ?_
                 ·skip
                  refine .offH hb209 rfl rfl rfl ?_
                  exact .fin1 (Fz.le_refl _)
                 refine .cons (.mk 254 undef [(7, (.slice p14 r_13.1.length k15)), (249, (.bool (decide (s194.1 ≥ (r_186.1.length : Int)))))] rfl rfl rfl rfl (fun S hS hd => (.cons (hS _ _ rfl) (.cons (hd.1 rfl rfl _ _ rfl) (Sub.nil _)))) (fun F_231 X l_232 => ?_)) ?_
                 ·skip
                  refine .offH hb209 rfl rfl rfl ?_
                  exact .fin1 (Fz.le_refl _)
                 refine .cons (.mk 255 undef [(31, (.int .i64 s194.2.2)), (249, (.bool (decide (s194.1 ≥ (r_186.1.length : Int)))))] rfl rfl rfl rfl (fun S hS hd => (.cons (hS _ _ rfl) (.cons (hd.1 rfl rfl _ _ rfl) (Sub.nil _)))) (fun F_233 X l_234 => ?_)) ?_
                 ·skip
                  refine .offH hb209 rfl rfl rfl ?_
                  exact .fin1 (Fz.le_refl _)
                 refine .cons (.mk 256 undef [(249, (.bool (decide (s194.1 ≥ (r_186.1.length : Int))))), (254, undef), (255, undef)] rfl rfl rfl rfl (fun S hS hd => (.cons (hd.2.2.1 rfl rfl _ _ rfl) (.cons (hd.1 rfl rfl _ _ rfl) (.cons (hd.2.1 rfl rfl _ _ rfl) (Sub.nil _))))) (fun F_235 X l_236 => ?_)) ?_
                 ·skip
                  refine .offH hb209 rfl rfl rfl ?_
                  exact .fin1 (Fz.le_refl _)
                 refine .cons (.mk 257 undef [(249, (.bool (decide (s194.1 ≥ (r_186.1.length : Int))))), (256, undef)] rfl rfl rfl rfl (fun S hS hd => (.cons (hd.2.1 rfl rfl _ _ rfl) (.cons (hd.1 rfl rfl _ _ rfl) (Sub.nil _)))) (fun F_237 X l_238 => ?_)) ?_
                 ·skip
                  refine .offH hb209 rfl rfl rfl ?_
                  exact .fin1 (Fz.le_refl _)
                 refine .cons (.mk 258 undef [(249, (.bool (decide (s194.1 ≥ (r_186.1.length : Int))))), (257, undef)] rfl rfl rfl rfl (fun S hS hd => (.cons (hd.2.1 rfl rfl _ _ rfl) (.cons (hd.1 rfl rfl _ _ rfl) (Sub.nil _)))) (fun F_239 X l_240 => ?_)) ?_
                 ·skip
                  refine .offH hb209 rfl rfl rfl ?_
                  exact .fin1 (Fz.le_refl _)
                 refine .cons (.mk 259 undef [(249, (.bool (decide (s194.1 ≥ (r_186.1.length : Int))))), (253, undef), (258, undef)] rfl rfl rfl rfl (fun S hS hd => (.cons (hd.2.2.1 rfl rfl _ _ rfl) (.cons (hd.1 rfl rfl _ _ rfl) (.cons (hd.2.1 rfl rfl _ _ rfl) (Sub.nil _))))) (fun F_241 X l_242 => ?_)) ?_
                 ·skip
                  refine .offH hb209 rfl rfl rfl ?_
                  exact .fin1 (Fz.le_refl _)
                 refine .cons (.mk 260 (.bool true) [(249, (.bool (decide (s194.1 ≥ (r_186.1.length : Int))))), (259, undef)] rfl rfl rfl rfl (fun S hS hd => (.cons (hd.1 rfl rfl _ _ rfl) (.cons (hd.2.1 rfl rfl _ _ rfl) (Sub.nil _)))) (fun F_243 X l_244 => ?_)) ?_
                 ·skip
                  refine .pickTH hb209  rfl rfl rfl ?_
                  exact .fin1 (Fz.le_refl _)
                 exact .nil
                refine .nil ?_
                exact .nil fun e a w h => by cases e; exact ⟨rfl, ⟨F_210, l_212, h.1.sub (.cons (k := 7) rfl (.cons (k := 25) rfl (.cons (k := 26) rfl (.cons (k := 27) rfl (.cons (k := 29) rfl (.cons (k := 30) rfl (.cons (k := 31) rfl (.cons (k := 260) rfl (.nil _))))))))), h.2⟩⟩
               ·skip
                refine .bind (fun x245 e251 => ?_)
                obtain ⟨b246, o247, T248, fr249, cs250, hm252, hv253, hq254⟩ := RepSl.idxE (h189.mono l_196) e251
                refine .bind (fun x255 e261 => ?_)
                obtain ⟨b256, o257, T258, fr259, cs260, hm262, hv263, hq264⟩ := RepSl.idxE (h16.mono (Fz.le_trans l_24 (Fz.le_trans l_111 (Fz.le_trans l_168 (Fz.le_trans l_185 l_196))))) e261
                refine .draw ⟨1000000, 0, [], 0⟩ [(245, (.int .i64 s194.1)), (246, (.slice p187 r_186.1.length k188)), (247, (.int .i64 (r_186.1.length : Int))), (248, (.bool (decide (s194.1 ≥ (r_186.1.length : Int))))), (249, (.bool (decide (s194.1 ≥ (r_186.1.length : Int))))), (250, (.slice p187 r_186.1.length k188)), (251, (.int .i64 s194.1)), (252, (.pointer (some ⟨b246, o247, none⟩))), (253, (.int .i64 x245)), (254, (.slice p14 r_13.1.length k15)), (255, (.int .i64 s194.2.2)), (256, (.pointer (some ⟨b256, o257, none⟩))), (257, (.pointer (some ⟨b256, o257, none⟩))), (258, (.int .i64 x255.Number)), (259, (.bool (x245 != x255.Number))), (260, (.bool (x245 != x255.Number)))] mixedOK (by kernel_rfl) (by kernel_rfl) rfl (by kernel_rfl) ?_ (fun F_265 b266 l_267 => ?_)
                ·skip
                 refine .cons (.mk 245 (.int .i64 s194.1) [(29, (.int .i64 s194.1))] rfl rfl rfl rfl (fun S hS hd => (.cons (hS _ _ rfl) (Sub.nil _))) (fun F_268 X l_269 => ?_)) ?_
                 ·skip
                  refine .move rfl rfl ?_
                  exact .fin1 (Fz.le_refl _)
                 refine .cons (.mk 246 (.slice p187 r_186.1.length k188) [(26, (.slice p187 r_186.1.length k188))] rfl rfl rfl rfl (fun S hS hd => (.cons (hS _ _ rfl) (Sub.nil _))) (fun F_270 X l_271 => ?_)) ?_
                 ·skip
                  refine .move rfl rfl ?_
                  exact .fin1 (Fz.le_refl _)
                 refine .cons (.mk 247 (.int .i64 (r_186.1.length : Int)) [(246, (.slice p187 r_186.1.length k188))] rfl rfl rfl rfl (fun S hS hd => (.cons (hd.1 rfl rfl _ _ rfl) (Sub.nil _))) (fun F_272 X l_273 => ?_)) ?_
                 ·skip
                  refine .lenS rfl rfl Try.underlying36 rfl ?_
                  exact .fin1 (Fz.le_refl _)
                 refine .cons (.mk 248 (.bool (decide (s194.1 ≥ (r_186.1.length : Int)))) [(245, (.int .i64 s194.1)), (247, (.int .i64 (r_186.1.length : Int)))] rfl rfl rfl rfl (fun S hS hd => (.cons (hd.1 rfl rfl _ _ rfl) (.cons (hd.2.1 rfl rfl _ _ rfl) (Sub.nil _)))) (fun F_274 X l_275 => ?_)) ?_
                 ·skip
                  refine .geq rfl rfl rfl ?_
                  exact .fin1 (Fz.le_refl _)
                 refine .cons (.mk 249 (.bool (decide (s194.1 ≥ (r_186.1.length : Int)))) [(248, (.bool (decide (s194.1 ≥ (r_186.1.length : Int)))))] rfl rfl rfl rfl (fun S hS hd => (.cons (hd.1 rfl rfl _ _ rfl) (Sub.nil _))) (fun F_276 X l_277 => ?_)) ?_
                 ·skip
                  refine .move rfl rfl ?_
                  exact .fin1 (Fz.le_refl _)
                 refine .cons (.mk 250 (.slice p187 r_186.1.length k188) [(26, (.slice p187 r_186.1.length k188)), (249, (.bool (decide (s194.1 ≥ (r_186.1.length : Int)))))] rfl rfl rfl rfl (fun S hS hd => (.cons (hS _ _ rfl) (.cons (hd.1 rfl rfl _ _ rfl) (Sub.nil _)))) (fun F_278 X l_279 => ?_)) ?_
                 ·skip
                  refine .onH hb209 rfl rfl ?_
                  refine .move rfl rfl ?_
                  exact .fin1 (Fz.le_refl _)
                 refine .cons (.mk 251 (.int .i64 s194.1) [(29, (.int .i64 s194.1)), (249, (.bool (decide (s194.1 ≥ (r_186.1.length : Int)))))] rfl rfl rfl rfl (fun S hS hd => (.cons (hS _ _ rfl) (.cons (hd.1 rfl rfl _ _ rfl) (Sub.nil _)))) (fun F_280 X l_281 => ?_)) ?_
                 ·skip
                  refine .onH hb209 rfl rfl ?_
                  refine .move rfl rfl ?_
                  exact .fin1 (Fz.le_refl _)
                 refine .cons (.mk 252 (.pointer (some ⟨b246, o247, none⟩)) [(249, (.bool (decide (s194.1 ≥ (r_186.1.length : Int))))), (250, (.slice p187 r_186.1.length k188)), (251, (.int .i64 s194.1))] rfl rfl rfl rfl (fun S hS hd => (.cons (hd.2.2.1 rfl rfl _ _ rfl) (.cons (hd.1 rfl rfl _ _ rfl) (.cons (hd.2.1 rfl rfl _ _ rfl) (Sub.nil _))))) (fun F_282 X l_283 => ?_)) ?_
                 ·skip
                  refine .onH hb209 rfl rfl ?_
                  refine .idxQ rfl Try.underlying36 Try.sizeOf3 hq254 rfl rfl ?_
                  exact .fin1 (Fz.le_refl _)
                 refine .cons (.mk 253 (.int .i64 x245) [(249, (.bool (decide (s194.1 ≥ (r_186.1.length : Int))))), (252, (.pointer (some ⟨b246, o247, none⟩)))] rfl rfl rfl rfl (fun S hS hd => (.cons (hd.2.1 rfl rfl _ _ rfl) (.cons (hd.1 rfl rfl _ _ rfl) (Sub.nil _)))) (fun F_284 X l_285 => ?_)) ?_
                 ·skip
                  refine .onH hb209 rfl rfl ?_
                  refine .loadF rfl Try.isAgg3 rfl (l_285.mem _ _ hm252) (cell_of_take (k := 0) hv253 rfl) ?_
                  exact .fin1 (Fz.le_refl _)
                 refine .cons (.mk 254 (.slice p14 r_13.1.length k15) [(7, (.slice p14 r_13.1.length k15)), (249, (.bool (decide (s194.1 ≥ (r_186.1.length : Int)))))] rfl rfl rfl rfl (fun S hS hd => (.cons (hS _ _ rfl) (.cons (hd.1 rfl rfl _ _ rfl) (Sub.nil _)))) (fun F_286 X l_287 => ?_)) ?_
                 ·skip
                  refine .onH hb209 rfl rfl ?_
                  refine .move rfl rfl ?_
                  exact .fin1 (Fz.le_refl _)
                 refine .cons (.mk 255 (.int .i64 s194.2.2) [(31, (.int .i64 s194.2.2)), (249, (.bool (decide (s194.1 ≥ (r_186.1.length : Int)))))] rfl rfl rfl rfl (fun S hS hd => (.cons (hS _ _ rfl) (.cons (hd.1 rfl rfl _ _ rfl) (Sub.nil _)))) (fun F_288 X l_289 => ?_)) ?_
                 ·skip
                  refine .onH hb209 rfl rfl ?_
                  refine .move rfl rfl ?_
                  exact .fin1 (Fz.le_refl _)
                 refine .cons (.mk 256 (.pointer (some ⟨b256, o257, none⟩)) [(249, (.bool (decide (s194.1 ≥ (r_186.1.length : Int))))), (254, (.slice p14 r_13.1.length k15)), (255, (.int .i64 s194.2.2))] rfl rfl rfl rfl (fun S hS hd => (.cons (hd.2.2.1 rfl rfl _ _ rfl) (.cons (hd.1 rfl rfl _ _ rfl) (.cons (hd.2.1 rfl rfl _ _ rfl) (Sub.nil _))))) (fun F_290 X l_291 => ?_)) ?_
                 ·skip
                  refine .onH hb209 rfl rfl ?_
                  refine .idxQ rfl Try.underlying25 Try.sizeOf31 hq264 rfl rfl ?_
                  exact .fin1 (Fz.le_refl _)
                 refine .cons (.mk 257 (.pointer (some ⟨b256, o257, none⟩)) [(249, (.bool (decide (s194.1 ≥ (r_186.1.length : Int))))), (256, (.pointer (some ⟨b256, o257, none⟩)))] rfl rfl rfl rfl (fun S hS hd => (.cons (hd.2.1 rfl rfl _ _ rfl) (.cons (hd.1 rfl rfl _ _ rfl) (Sub.nil _)))) (fun F_292 X l_293 => ?_)) ?_
                 ·skip
                  refine .onH hb209 rfl rfl ?_
                  refine .fieldAddr rfl Try.underlying31 rfl Try.sizeOf3 rfl ?_
                  exact .fin1 (Fz.le_refl _)
                 refine .cons (.mk 258 (.int .i64 x255.Number) [(249, (.bool (decide (s194.1 ≥ (r_186.1.length : Int))))), (257, (.pointer (some ⟨b256, o257, none⟩)))] rfl rfl rfl rfl (fun S hS hd => (.cons (hd.2.1 rfl rfl _ _ rfl) (.cons (hd.1 rfl rfl _ _ rfl) (Sub.nil _)))) (fun F_294 X l_295 => ?_)) ?_
                 ·skip
                  refine .onH hb209 rfl rfl ?_
                  refine .loadF rfl Try.isAgg3 rfl (l_295.mem _ _ hm262) (cell_of_take (k := 0) hv263 rfl) ?_
                  exact .fin1 (Fz.le_refl _)
                 refine .cons (.mk 259 (.bool (x245 != x255.Number)) [(249, (.bool (decide (s194.1 ≥ (r_186.1.length : Int))))), (253, (.int .i64 x245)), (258, (.int .i64 x255.Number))] rfl rfl rfl rfl (fun S hS hd => (.cons (hd.2.2.1 rfl rfl _ _ rfl) (.cons (hd.1 rfl rfl _ _ rfl) (.cons (hd.2.1 rfl rfl _ _ rfl) (Sub.nil _))))) (fun F_296 X l_297 => ?_)) ?_
                 ·skip
                  refine .onH hb209 rfl rfl ?_
                  refine .neq rfl rfl rfl ?_
                  exact .fin1 (Fz.le_refl _)
                 refine .cons (.mk 260 (.bool (x245 != x255.Number)) [(249, (.bool (decide (s194.1 ≥ (r_186.1.length : Int))))), (259, (.bool (x245 != x255.Number)))] rfl rfl rfl rfl (fun S hS hd => (.cons (hd.1 rfl rfl _ _ rfl) (.cons (hd.2.1 rfl rfl _ _ rfl) (Sub.nil _)))) (fun F_298 X l_299 => ?_)) ?_
                 ·skip
                  refine .pickFH hb209  rfl rfl rfl ?_
                  exact .fin1 (Fz.le_refl _)
                 exact .nil
                refine .nil ?_
                exact .nil fun e a w h => by cases e; exact ⟨rfl, ⟨F_265, l_267, h.1.sub (.cons (k := 7) rfl (.cons (k := 25) rfl (.cons (k := 26) rfl (.cons (k := 27) rfl (.cons (k := 29) rfl (.cons (k := 30) rfl (.cons (k := 31) rfl (.cons (k := 260) rfl (.nil _))))))))), h.2⟩⟩
              refine .code ?_
              refine .cond rfl (fun hb303 => ?_) (fun hb303 => ?_)
              ·skip
               refine .seq ?_
               refine .region ?_
               refine .assign rfl rfl ?_
               refine .nil ?_
               refine .code ?_
               refine .drop 2 ?_
               refine .drop 1 ?_
               refine .drop 0 ?_
               refine .retQ (LPost.ret fun a w h => ⟨rfl, F_301, (Fz.le_trans l_196 l_302), h.1.sub (.cons (k := 6) rfl (.nil _)), h.2⟩)
              ·skip
               refine .skip ?_
               refine .code ?_
               refine .region ?_
               refine .move rfl rfl ?_
               refine .add rfl rfl rfl ?_
               refine .assignL rfl rfl (fun a304 e305 => ?_)
               refine .nil ?_
               refine .code ?_
               refine .seq ?_
               refine .region ?_
               refine .move rfl rfl ?_
               refine .move rfl rfl ?_
               refine .idx rfl Try.underlying25 Try.sizeOf31 (h16.mono (Fz.le_trans l_24 (Fz.le_trans l_111 (Fz.le_trans l_168 (Fz.le_trans l_185 (Fz.le_trans l_196 l_302)))))) rfl rfl (fun x306 b307 o308 T309 fr310 cs311 e312 hm313 hv314 => ?_)
               refine .fieldAddr rfl Try.underlying31 rfl Try.sizeOf3 rfl ?_
               refine .loadF rfl Try.isAgg3 rfl hm313 (cell_of_take (k := 5) hv314 rfl) ?_
               refine .move rfl rfl ?_
               refine .eql rfl rfl rfl ?_
               refine .move rfl rfl ?_
               refine .andP (b := (x306.Creditor == x180)) (b' := (decide (x180 ≥ 0))) 3 273 (fun hb316 => ?_) (fun hb317 => ?_) (fun F_318 l_319 => ?_)
               ·skip
                refine .onH hb316 rfl rfl ?_
                refine .move rfl rfl ?_
                refine .onH hb316 rfl rfl ?_
                refine .geq rfl rfl rfl ?_
                refine .pickTH hb316 rfl rfl rfl ?_
                exact .fin 3 rfl rfl (by kernel_rfl) (Fz.le_refl _)
               ·skip
                refine .offH hb317 rfl rfl rfl ?_
                refine .offH hb317 rfl rfl rfl ?_
                refine .pickFH hb317 rfl rfl rfl ?_
                exact .fin 3 rfl rfl (by kernel_rfl) (Fz.le_refl _)
               refine .nil ?_
               refine .code ?_
               refine .cond rfl (fun hb320 => ?_) (fun hb320 => ?_)
               ·skip
                refine .seq ?_
                refine .seq ?_
                refine .keep (.cons (k := 7) rfl (.cons (k := 25) rfl (.cons (k := 26) rfl (.cons (k := 27) rfl (.cons (k := 29) rfl (.cons (k := 30) rfl (.cons (k := 31) rfl (.nil _)))))))) ?_
                refine GC.join0 (σ := Bool) (fun j412 a w => ∃ (F_413 : Fz), F_318 ≤ F_413 ∧ Hd 305 [] [(7, (.slice p14 r_13.1.length k15)), (25, (.int .i64 x180)), (26, (.slice p187 r_186.1.length k188)), (27, (.slice p190 r_186.2.1.length k191)), (29, (.int .i64 a304)), (30, (.int .i64 s194.2.1)), (31, (.int .i64 s194.2.2)), (289, (.bool j412))] F_413 [ownSl 1 (Ex (cInt .i64)) F_167 3 p169 k170 b166, ownMap (fun x : Int => (.int .i64 x)) (fun _ x v => v = (fun x : Int => (.int .i64 x)) x) F_110 p115 b109.2, ownMap (fun x : Int => (.int .i64 x)) (fun _ x v => v = (fun x : Int => (.int .i64 x)) x) F_110 p112 b109.1, R] a w) (fun sj => ?_) (fun j412 hs0 => GE.ex (fun a w ⟨F_413, l_414, hA⟩ => ⟨_, hA, ?_⟩))
                ·skip
                 refine .ite (fun hb321 => ?_) (fun hb321 => ?_)
                 ·skip
                  refine .draw ⟨1000000, 0, [], 0⟩ [(274, (.int .i64 s194.2.1)), (275, (.slice p190 r_186.2.1.length k191)), (276, (.int .i64 (r_186.2.1.length : Int))), (277, (.bool (decide (s194.2.1 ≥ (r_186.2.1.length : Int))))), (278, (.bool (decide (s194.2.1 ≥ (r_186.2.1.length : Int))))), (279, undef), (280, undef), (281, undef), (282, undef), (283, undef), (284, undef), (285, undef), (286, undef), (287, undef), (288, undef), (289, (.bool true))] mixedOK (by kernel_rfl) (by kernel_rfl) rfl (by kernel_rfl) ?_ (fun F_322 b323 l_324 => ?_)
                  ·skip
                   refine .cons (.mk 274 (.int .i64 s194.2.1) [(30, (.int .i64 s194.2.1))] rfl rfl rfl rfl (fun S hS hd => (.cons (hS _ _ rfl) (Sub.nil _))) (fun F_325 X l_326 => ?_)) ?_
                   ·skip
                    refine .move rfl rfl ?_
                    exact .fin1 (Fz.le_refl _)
                   refine .cons (.mk 275 (.slice p190 r_186.2.1.length k191) [(27, (.slice p190 r_186.2.1.length k191))] rfl rfl rfl rfl (fun S hS hd => (.cons (hS _ _ rfl) (Sub.nil _))) (fun F_327 X l_328 => ?_)) ?_
                   ·skip
                    refine .move rfl rfl ?_
                    exact .fin1 (Fz.le_refl _)
                   refine .cons (.mk 276 (.int .i64 (r_186.2.1.length : Int)) [(275, (.slice p190 r_186.2.1.length k191))] rfl rfl rfl rfl (fun S hS hd => (.cons (hd.1 rfl rfl _ _ rfl) (Sub.nil _))) (fun F_329 X l_330 => ?_)) ?_
                   ·skip
                    refine .lenS rfl rfl Try.underlying36 rfl ?_
                    exact .fin1 (Fz.le_refl _)
                   refine .cons (.mk 277 (.bool (decide (s194.2.1 ≥ (r_186.2.1.length : Int)))) [(274, (.int .i64 s194.2.1)), (276, (.int .i64 (r_186.2.1.length : Int)))] rfl rfl rfl rfl (fun S hS hd => (.cons (hd.1 rfl rfl _ _ rfl) (.cons (hd.2.1 rfl rfl _ _ rfl) (Sub.nil _)))) (fun F_331 X l_332 => ?_)) ?_
                   ·skip
                    refine .geq rfl rfl rfl ?_
                    exact .fin1 (Fz.le_refl _)
                   refine .cons (.mk 278 (.bool (decide (s194.2.1 ≥ (r_186.2.1.length : Int)))) [(277, (.bool (decide (s194.2.1 ≥ (r_186.2.1.length : Int)))))] rfl rfl rfl rfl (fun S hS hd => (.cons (hd.1 rfl rfl _ _ rfl) (Sub.nil _))) (fun F_333 X l_334 => ?_)) ?_
                   ·skip
                    refine .move rfl rfl ?_
                    exact .fin1 (Fz.le_refl _)
                   refine .cons (.mk 279 undef [(27, (.slice p190 r_186.2.1.length k191)), (278, (.bool (decide (s194.2.1 ≥ (r_186.2.1.length : Int)))))] rfl rfl rfl rfl (fun S hS hd => (.cons (hS _ _ rfl) (.cons (hd.1 rfl rfl _ _ rfl) (Sub.nil _)))) (fun F_335 X l_336 => ?_)) ?_
                   ·skip
                    refine .offH hb321 rfl rfl rfl ?_
                    exact .fin1 (Fz.le_refl _)
                   refine .cons (.mk 280 undef [(30, (.int .i64 s194.2.1)), (278, (.bool (decide (s194.2.1 ≥ (r_186.2.1.length : Int)))))] rfl rfl rfl rfl (fun S hS hd => (.cons (hS _ _ rfl) (.cons (hd.1 rfl rfl _ _ rfl) (Sub.nil _)))) (fun F_337 X l_338 => ?_)) ?_
                   ·skip
                    refine .offH hb321 rfl rfl rfl ?_
                    exact .fin1 (Fz.le_refl _)
                   refine .cons (.mk 281 undef [(278, (.bool (decide (s194.2.1 ≥ (r_186.2.1.length : Int))))), (279, undef), (280, undef)] rfl rfl rfl rfl (fun S hS hd => (.cons (hd.2.2.1 rfl rfl _ _ rfl) (.cons (hd.1 rfl rfl _ _ rfl) (.cons (hd.2.1 rfl rfl _ _ rfl) (Sub.nil _))))) (fun F_339 X l_340 => ?_)) ?_
                   ·skip
                    refine .offH hb321 rfl rfl rfl ?_
                    exact .fin1 (Fz.le_refl _)
                   refine .cons (.mk 282 undef [(278, (.bool (decide (s194.2.1 ≥ (r_186.2.1.length : Int))))), (281, undef)] rfl rfl rfl rfl (fun S hS hd => (.cons (hd.2.1 rfl rfl _ _ rfl) (.cons (hd.1 rfl rfl _ _ rfl) (Sub.nil _)))) (fun F_341 X l_342 => ?_)) ?_
                   ·skip
                    refine .offH hb321 rfl rfl rfl ?_
                    exact .fin1 (Fz.le_refl _)
                   refine .cons (.mk 283 undef [(7, (.slice p14 r_13.1.length k15)), (278, (.bool (decide (s194.2.1 ≥ (r_186.2.1.length : Int)))))] rfl rfl rfl rfl (fun S hS hd => (.cons (hS _ _ rfl) (.cons (hd.1 rfl rfl _ _ rfl) (Sub.nil _)))) (fun F_343 X l_344 => ?_)) ?_
                   ·skip
                    refine .offH hb321 rfl rfl rfl ?_
                    exact .fin1 (Fz.le_refl _)
                   refine .cons (.mk 284 undef [(31, (.int .i64 s194.2.2)), (278, (.bool (decide (s194.2.1 ≥ (r_186.2.1.length : Int)))))] rfl rfl rfl rfl (fun S hS hd => (.cons (hS _ _ rfl) (.cons (hd.1 rfl rfl _ _ rfl) (Sub.nil _)))) (fun F_345 X l_346 => ?_)) ?_
                   ·skip
                    refine .offH hb321 rfl rfl rfl ?_
                    exact .fin1 (Fz.le_refl _)
                   refine .cons (.mk 285 undef [(278, (.bool (decide (s194.2.1 ≥ (r_186.2.1.length : Int))))), (283, undef), (284, undef)] rfl rfl rfl rfl (fun S hS hd => (.cons (hd.2.2.1 rfl rfl _ _ rfl) (.cons (hd.1 rfl rfl _ _ rfl) (.cons (hd.2.1 rfl rfl _ _ rfl) (Sub.nil _))))) (fun F_347 X l_348 => ?_)) ?_
                   ·skip
                    refine .offH hb321 rfl rfl rfl ?_
                    exact .fin1 (Fz.le_refl _)
                   refine .cons (.mk 286 undef [(278, (.bool (decide (s194.2.1 ≥ (r_186.2.1.length : Int))))), (285, undef)] rfl rfl rfl rfl (fun S hS hd => (.cons (hd.2.1 rfl rfl _ _ rfl) (.cons (hd.1 rfl rfl _ _ rfl) (Sub.nil _)))) (fun F_349 X l_350 => ?_)) ?_
                   ·skip
                    refine .offH hb321 rfl rfl rfl ?_
                    exact .fin1 (Fz.le_refl _)
                   refine .cons (.mk 287 undef [(278, (.bool (decide (s194.2.1 ≥ (r_186.2.1.length : Int))))), (286, undef)] rfl rfl rfl rfl (fun S hS hd => (.cons (hd.2.1 rfl rfl _ _ rfl) (.cons (hd.1 rfl rfl _ _ rfl) (Sub.nil _)))) (fun F_351 X l_352 => ?_)) ?_
                   ·skip
                    refine .offH hb321 rfl rfl rfl ?_
                    exact .fin1 (Fz.le_refl _)
                   refine .cons (.mk 288 undef [(278, (.bool (decide (s194.2.1 ≥ (r_186.2.1.length : Int))))), (282, undef), (287, undef)] rfl rfl rfl rfl (fun S hS hd => (.cons (hd.2.2.1 rfl rfl _ _ rfl) (.cons (hd.1 rfl rfl _ _ rfl) (.cons (hd.2.1 rfl rfl _ _ rfl) (Sub.nil _))))) (fun F_353 X l_354 => ?_)) ?_
                   ·skip
                    refine .offH hb321 rfl rfl rfl ?_
                    exact .fin1 (Fz.le_refl _)
                   refine .cons (.mk 289 (.bool true) [(278, (.bool (decide (s194.2.1 ≥ (r_186.2.1.length : Int))))), (288, undef)] rfl rfl rfl rfl (fun S hS hd => (.cons (hd.1 rfl rfl _ _ rfl) (.cons (hd.2.1 rfl rfl _ _ rfl) (Sub.nil _)))) (fun F_355 X l_356 => ?_)) ?_
                   ·skip
                    refine .pickTH hb321  rfl rfl rfl ?_
                    exact .fin1 (Fz.le_refl _)
                   exact .nil
                  refine .nil ?_
                  exact .nil fun e a w h => by cases e; exact ⟨rfl, ⟨F_322, l_324, h.1.sub (.cons (k := 7) rfl (.cons (k := 25) rfl (.cons (k := 26) rfl (.cons (k := 27) rfl (.cons (k := 29) rfl (.cons (k := 30) rfl (.cons (k := 31) rfl (.cons (k := 289) rfl (.nil _))))))))), h.2⟩⟩
                 ·skip
                  refine .bind (fun x357 e363 => ?_)
                  obtain ⟨b358, o359, T360, fr361, cs362, hm364, hv365, hq366⟩ := RepSl.idxE (h192.mono (Fz.le_trans l_196 (Fz.le_trans l_302 l_319))) e363
                  refine .bind (fun x367 e373 => ?_)
                  obtain ⟨b368, o369, T370, fr371, cs372, hm374, hv375, hq376⟩ := RepSl.idxE (h16.mono (Fz.le_trans l_24 (Fz.le_trans l_111 (Fz.le_trans l_168 (Fz.le_trans l_185 (Fz.le_trans l_196 (Fz.le_trans l_302 l_319))))))) e373
                  refine .draw ⟨1000000, 0, [], 0⟩ [(274, (.int .i64 s194.2.1)), (275, (.slice p190 r_186.2.1.length k191)), (276, (.int .i64 (r_186.2.1.length : Int))), (277, (.bool (decide (s194.2.1 ≥ (r_186.2.1.length : Int))))), (278, (.bool (decide (s194.2.1 ≥ (r_186.2.1.length : Int))))), (279, (.slice p190 r_186.2.1.length k191)), (280, (.int .i64 s194.2.1)), (281, (.pointer (some ⟨b358, o359, none⟩))), (282, (.int .i64 x357)), (283, (.slice p14 r_13.1.length k15)), (284, (.int .i64 s194.2.2)), (285, (.pointer (some ⟨b368, o369, none⟩))), (286, (.pointer (some ⟨b368, o369, none⟩))), (287, (.int .i64 x367.Number)), (288, (.bool (x357 != x367.Number))), (289, (.bool (x357 != x367.Number)))] mixedOK (by kernel_rfl) (by kernel_rfl) rfl (by kernel_rfl) ?_ (fun F_377 b378 l_379 => ?_)
                  ·skip
                   refine .cons (.mk 274 (.int .i64 s194.2.1) [(30, (.int .i64 s194.2.1))] rfl rfl rfl rfl (fun S hS hd => (.cons (hS _ _ rfl) (Sub.nil _))) (fun F_380 X l_381 => ?_)) ?_
                   ·skip
                    refine .move rfl rfl ?_
                    exact .fin1 (Fz.le_refl _)
                   refine .cons (.mk 275 (.slice p190 r_186.2.1.length k191) [(27, (.slice p190 r_186.2.1.length k191))] rfl rfl rfl rfl (fun S hS hd => (.cons (hS _ _ rfl) (Sub.nil _))) (fun F_382 X l_383 => ?_)) ?_
                   ·skip
                    refine .move rfl rfl ?_
                    exact .fin1 (Fz.le_refl _)
                   refine .cons (.mk 276 (.int .i64 (r_186.2.1.length : Int)) [(275, (.slice p190 r_186.2.1.length k191))] rfl rfl rfl rfl (fun S hS hd => (.cons (hd.1 rfl rfl _ _ rfl) (Sub.nil _))) (fun F_384 X l_385 => ?_)) ?_
                   ·skip
                    refine .lenS rfl rfl Try.underlying36 rfl ?_
                    exact .fin1 (Fz.le_refl _)
                   refine .cons (.mk 277 (.bool (decide (s194.2.1 ≥ (r_186.2.1.length : Int)))) [(274, (.int .i64 s194.2.1)), (276, (.int .i64 (r_186.2.1.length : Int)))] rfl rfl rfl rfl (fun S hS hd => (.cons (hd.1 rfl rfl _ _ rfl) (.cons (hd.2.1 rfl rfl _ _ rfl) (Sub.nil _)))) (fun F_386 X l_387 => ?_)) ?_
                   ·skip
                    refine .geq rfl rfl rfl ?_
                    exact .fin1 (Fz.le_refl _)
                   refine .cons (.mk 278 (.bool (decide (s194.2.1 ≥ (r_186.2.1.length : Int)))) [(277, (.bool (decide (s194.2.1 ≥ (r_186.2.1.length : Int)))))] rfl rfl rfl rfl (fun S hS hd => (.cons (hd.1 rfl rfl _ _ rfl) (Sub.nil _))) (fun F_388 X l_389 => ?_)) ?_
                   ·skip
                    refine .move rfl rfl ?_
                    exact .fin1 (Fz.le_refl _)
                   refine .cons (.mk 279 (.slice p190 r_186.2.1.length k191) [(27, (.slice p190 r_186.2.1.length k191)), (278, (.bool (decide (s194.2.1 ≥ (r_186.2.1.length : Int)))))] rfl rfl rfl rfl (fun S hS hd => (.cons (hS _ _ rfl) (.cons (hd.1 rfl rfl _ _ rfl) (Sub.nil _)))) (fun F_390 X l_391 => ?_)) ?_
                   ·skip
                    refine .onH hb321 rfl rfl ?_
                    refine .move rfl rfl ?_
                    exact .fin1 (Fz.le_refl _)
                   refine .cons (.mk 280 (.int .i64 s194.2.1) [(30, (.int .i64 s194.2.1)), (278, (.bool (decide (s194.2.1 ≥ (r_186.2.1.length : Int)))))] rfl rfl rfl rfl (fun S hS hd => (.cons (hS _ _ rfl) (.cons (hd.1 rfl rfl _ _ rfl) (Sub.nil _)))) (fun F_392 X l_393 => ?_)) ?_
                   ·skip
                    refine .onH hb321 rfl rfl ?_
                    refine .move rfl rfl ?_
                    exact .fin1 (Fz.le_refl _)
                   refine .cons (.mk 281 (.pointer (some ⟨b358, o359, none⟩)) [(278, (.bool (decide (s194.2.1 ≥ (r_186.2.1.length : Int))))), (279, (.slice p190 r_186.2.1.length k191)), (280, (.int .i64 s194.2.1))] rfl rfl rfl rfl (fun S hS hd => (.cons (hd.2.2.1 rfl rfl _ _ rfl) (.cons (hd.1 rfl rfl _ _ rfl) (.cons (hd.2.1 rfl rfl _ _ rfl) (Sub.nil _))))) (fun F_394 X l_395 => ?_)) ?_
                   ·skip
                    refine .onH hb321 rfl rfl ?_
                    refine .idxQ rfl Try.underlying36 Try.sizeOf3 hq366 rfl rfl ?_
                    exact .fin1 (Fz.le_refl _)
                   refine .cons (.mk 282 (.int .i64 x357) [(278, (.bool (decide (s194.2.1 ≥ (r_186.2.1.length : Int))))), (281, (.pointer (some ⟨b358, o359, none⟩)))] rfl rfl rfl rfl (fun S hS hd => (.cons (hd.2.1 rfl rfl _ _ rfl) (.cons (hd.1 rfl rfl _ _ rfl) (Sub.nil _)))) (fun F_396 X l_397 => ?_)) ?_
                   ·skip
                    refine .onH hb321 rfl rfl ?_
                    refine .loadF rfl Try.isAgg3 rfl (l_397.mem _ _ hm364) (cell_of_take (k := 0) hv365 rfl) ?_
                    exact .fin1 (Fz.le_refl _)
                   refine .cons (.mk 283 (.slice p14 r_13.1.length k15) [(7, (.slice p14 r_13.1.length k15)), (278, (.bool (decide (s194.2.1 ≥ (r_186.2.1.length : Int)))))] rfl rfl rfl rfl (fun S hS hd => (.cons (hS _ _ rfl) (.cons (hd.1 rfl rfl _ _ rfl) (Sub.nil _)))) (fun F_398 X l_399 => ?_)) ?_
                   ·skip
                    refine .onH hb321 rfl rfl ?_
                    refine .move rfl rfl ?_
                    exact .fin1 (Fz.le_refl _)
                   refine .cons (.mk 284 (.int .i64 s194.2.2) [(31, (.int .i64 s194.2.2)), (278, (.bool (decide (s194.2.1 ≥ (r_186.2.1.length : Int)))))] rfl rfl rfl rfl (fun S hS hd => (.cons (hS _ _ rfl) (.cons (hd.1 rfl rfl _ _ rfl) (Sub.nil _)))) (fun F_400 X l_401 => ?_)) ?_
                   ·skip
                    refine .onH hb321 rfl rfl ?_
                    refine .move rfl rfl ?_
                    exact .fin1 (Fz.le_refl _)
                   refine .cons (.mk 285 (.pointer (some ⟨b368, o369, none⟩)) [(278, (.bool (decide (s194.2.1 ≥ (r_186.2.1.length : Int))))), (283, (.slice p14 r_13.1.length k15)), (284, (.int .i64 s194.2.2))] rfl rfl rfl rfl (fun S hS hd => (.cons (hd.2.2.1 rfl rfl _ _ rfl) (.cons (hd.1 rfl rfl _ _ rfl) (.cons (hd.2.1 rfl rfl _ _ rfl) (Sub.nil _))))) (fun F_402 X l_403 => ?_)) ?_
                   ·skip
                    refine .onH hb321 rfl rfl ?_
                    refine .idxQ rfl Try.underlying25 Try.sizeOf31 hq376 rfl rfl ?_
                    exact .fin1 (Fz.le_refl _)
                   refine .cons (.mk 286 (.pointer (some ⟨b368, o369, none⟩)) [(278, (.bool (decide (s194.2.1 ≥ (r_186.2.1.length : Int))))), (285, (.pointer (some ⟨b368, o369, none⟩)))] rfl rfl rfl rfl (fun S hS hd => (.cons (hd.2.1 rfl rfl _ _ rfl) (.cons (hd.1 rfl rfl _ _ rfl) (Sub.nil _)))) (fun F_404 X l_405 => ?_)) ?_
                   ·skip
                    refine .onH hb321 rfl rfl ?_
                    refine .fieldAddr rfl Try.underlying31 rfl Try.sizeOf3 rfl ?_
                    exact .fin1 (Fz.le_refl _)
                   refine .cons (.mk 287 (.int .i64 x367.Number) [(278, (.bool (decide (s194.2.1 ≥ (r_186.2.1.length : Int))))), (286, (.pointer (some ⟨b368, o369, none⟩)))] rfl rfl rfl rfl (fun S hS hd => (.cons (hd.2.1 rfl rfl _ _ rfl) (.cons (hd.1 rfl rfl _ _ rfl) (Sub.nil _)))) (fun F_406 X l_407 => ?_)) ?_
                   ·skip
                    refine .onH hb321 rfl rfl ?_
                    refine .loadF rfl Try.isAgg3 rfl (l_407.mem _ _ hm374) (cell_of_take (k := 0) hv375 rfl) ?_
                    exact .fin1 (Fz.le_refl _)
                   refine .cons (.mk 288 (.bool (x357 != x367.Number)) [(278, (.bool (decide (s194.2.1 ≥ (r_186.2.1.length : Int))))), (282, (.int .i64 x357)), (287, (.int .i64 x367.Number))] rfl rfl rfl rfl (fun S hS hd => (.cons (hd.2.2.1 rfl rfl _ _ rfl) (.cons (hd.1 rfl rfl _ _ rfl) (.cons (hd.2.1 rfl rfl _ _ rfl) (Sub.nil _))))) (fun F_408 X l_409 => ?_)) ?_
                   ·skip
                    refine .onH hb321 rfl rfl ?_
                    refine .neq rfl rfl rfl ?_
                    exact .fin1 (Fz.le_refl _)
                   refine .cons (.mk 289 (.bool (x357 != x367.Number)) [(278, (.bool (decide (s194.2.1 ≥ (r_186.2.1.length : Int))))), (288, (.bool (x357 != x367.Number)))] rfl rfl rfl rfl (fun S hS hd => (.cons (hd.1 rfl rfl _ _ rfl) (.cons (hd.2.1 rfl rfl _ _ rfl) (Sub.nil _)))) (fun F_410 X l_411 => ?_)) ?_
                   ·skip
                    refine .pickFH hb321  rfl rfl rfl ?_
                    exact .fin1 (Fz.le_refl _)
                   exact .nil
                  refine .nil ?_
                  exact .nil fun e a w h => by cases e; exact ⟨rfl, ⟨F_377, l_379, h.1.sub (.cons (k := 7) rfl (.cons (k := 25) rfl (.cons (k := 26) rfl (.cons (k := 27) rfl (.cons (k := 29) rfl (.cons (k := 30) rfl (.cons (k := 31) rfl (.cons (k := 289) rfl (.nil _))))))))), h.2⟩⟩
                refine .code ?_
                refine .cond rfl (fun hb415 => ?_) (fun hb415 => ?_)
                ·skip
                 refine .seq ?_
                 refine .region ?_
                 refine .assign rfl rfl ?_
                 refine .nil ?_
                 refine .code ?_
                 refine .drop 2 ?_
                 refine .drop 1 ?_
                 refine .drop 0 ?_
                 refine .retQ (LPost.ret fun a w h => ⟨rfl, F_413, (Fz.le_trans l_196 (Fz.le_trans l_302 (Fz.le_trans l_319 l_414))), h.1.sub (.cons (k := 6) rfl (.nil _)), h.2⟩)
                ·skip
                 refine .skip ?_
                 refine .code ?_
                 refine .region ?_
                 refine .move rfl rfl ?_
                 refine .add rfl rfl rfl ?_
                 refine .assignL rfl rfl (fun b416 e417 => ?_)
                 refine .nil ?_
                 refine .block ?_
                 refine .code ?_
                 refine .region ?_
                 refine .move rfl rfl ?_
                 refine .add rfl rfl rfl ?_
                 refine .assignL rfl rfl (fun i418 e419 => ?_)
                 refine .nil ?_
                 exact .nil (LPost.norm fun a w h => ⟨F_413, (Fz.le_trans l_196 (Fz.le_trans l_302 (Fz.le_trans l_319 l_414))), h.1.sub (.cons (k := 7) rfl (.cons (k := 25) rfl (.cons (k := 26) rfl (.cons (k := 27) rfl (.cons (k := 29) rfl (.cons (k := 30) rfl (.cons (k := 31) rfl (.nil _)))))))), h.2⟩)
               ·skip
                refine .skip ?_
                refine .block ?_
                refine .code ?_
                refine .region ?_
                refine .move rfl rfl ?_
                refine .add rfl rfl rfl ?_
                refine .assignL rfl rfl (fun i420 e421 => ?_)
                refine .nil ?_
                exact .nil (LPost.norm fun a w h => ⟨F_318, (Fz.le_trans l_196 (Fz.le_trans l_302 l_319)), h.1.sub (.cons (k := 7) rfl (.cons (k := 25) rfl (.cons (k := 26) rfl (.cons (k := 27) rfl (.cons (k := 29) rfl (.cons (k := 30) rfl (.cons (k := 31) rfl (.nil _)))))))), h.2⟩)
             ·skip
              refine .skip ?_
              refine .code ?_
              refine .seq ?_
              refine .region ?_
              refine .move rfl rfl ?_
              refine .move rfl rfl ?_
              refine .idx rfl Try.underlying25 Try.sizeOf31 (h16.mono (Fz.le_trans l_24 (Fz.le_trans l_111 (Fz.le_trans l_168 (Fz.le_trans l_185 l_196))))) rfl rfl (fun x422 b423 o424 T425 fr426 cs427 e428 hm429 hv430 => ?_)
              refine .fieldAddr rfl Try.underlying31 rfl Try.sizeOf3 rfl ?_
              refine .loadF rfl Try.isAgg3 rfl hm429 (cell_of_take (k := 5) hv430 rfl) ?_
              refine .move rfl rfl ?_
              refine .eql rfl rfl rfl ?_
              refine .move rfl rfl ?_
              refine .andP (b := (x422.Creditor == x180)) (b' := (decide (x180 ≥ 0))) 3 273 (fun hb432 => ?_) (fun hb433 => ?_) (fun F_434 l_435 => ?_)
              ·skip
               refine .onH hb432 rfl rfl ?_
               refine .move rfl rfl ?_
               refine .onH hb432 rfl rfl ?_
               refine .geq rfl rfl rfl ?_
               refine .pickTH hb432 rfl rfl rfl ?_
               exact .fin 3 rfl rfl (by kernel_rfl) (Fz.le_refl _)
              ·skip
               refine .offH hb433 rfl rfl rfl ?_
               refine .offH hb433 rfl rfl rfl ?_
               refine .pickFH hb433 rfl rfl rfl ?_
               exact .fin 3 rfl rfl (by kernel_rfl) (Fz.le_refl _)
              refine .nil ?_
              refine .keep (.cons (k := 7) rfl (.cons (k := 25) rfl (.cons (k := 26) rfl (.cons (k := 27) rfl (.cons (k := 29) rfl (.cons (k := 30) rfl (.cons (k := 31) rfl (.cons (k := 273) rfl (.nil _))))))))) ?_
              refine .code ?_
              refine .cond rfl (fun hb436 => ?_) (fun hb436 => ?_)
              ·skip
               refine .seq ?_
               refine .seq ?_
               refine .keep (.cons (k := 7) rfl (.cons (k := 25) rfl (.cons (k := 26) rfl (.cons (k := 27) rfl (.cons (k := 29) rfl (.cons (k := 30) rfl (.cons (k := 31) rfl (.nil _)))))))) ?_
               refine GC.join0 (σ := Bool) (fun j528 a w => ∃ (F_529 : Fz), F_434 ≤ F_529 ∧ Hd 305 [] [(7, (.slice p14 r_13.1.length k15)), (25, (.int .i64 x180)), (26, (.slice p187 r_186.1.length k188)), (27, (.slice p190 r_186.2.1.length k191)), (29, (.int .i64 s194.1)), (30, (.int .i64 s194.2.1)), (31, (.int .i64 s194.2.2)), (289, (.bool j528))] F_529 [ownSl 1 (Ex (cInt .i64)) F_167 3 p169 k170 b166, ownMap (fun x : Int => (.int .i64 x)) (fun _ x v => v = (fun x : Int => (.int .i64 x)) x) F_110 p115 b109.2, ownMap (fun x : Int => (.int .i64 x)) (fun _ x v => v = (fun x : Int => (.int .i64 x)) x) F_110 p112 b109.1, R] a w) (fun sj => ?_) (fun j528 hs0 => GE.ex (fun a w ⟨F_529, l_530, hA⟩ => ⟨_, hA, ?_⟩))
               ·skip
                refine .ite (fun hb437 => ?_) (fun hb437 => ?_)
                ·skip
                 refine .draw ⟨1000000, 0, [], 0⟩ [(274, (.int .i64 s194.2.1)), (275, (.slice p190 r_186.2.1.length k191)), (276, (.int .i64 (r_186.2.1.length : Int))), (277, (.bool (decide (s194.2.1 ≥ (r_186.2.1.length : Int))))), (278, (.bool (decide (s194.2.1 ≥ (r_186.2.1.length : Int))))), (279, undef), (280, undef), (281, undef), (282, undef), (283, undef), (284, undef), (285, undef), (286, undef), (287, undef), (288, undef), (289, (.bool true))] mixedOK (by kernel_rfl) (by kernel_rfl) rfl (by kernel_rfl) ?_ (fun F_438 b439 l_440 => ?_)
                 ·skip
                  refine .cons (.mk 274 (.int .i64 s194.2.1) [(30, (.int .i64 s194.2.1))] rfl rfl rfl rfl (fun S hS hd => (.cons (hS _ _ rfl) (Sub.nil _))) (fun F_441 X l_442 => ?_)) ?_
                  ·skip
                   refine .move rfl rfl ?_
                   exact .fin1 (Fz.le_refl _)
                  refine .cons (.mk 275 (.slice p190 r_186.2.1.length k191) [(27, (.slice p190 r_186.2.1.length k191))] rfl rfl rfl rfl (fun S hS hd => (.cons (hS _ _ rfl) (Sub.nil _))) (fun F_443 X l_444 => ?_)) ?_
                  ·skip
                   refine .move rfl rfl ?_
                   exact .fin1 (Fz.le_refl _)
                  refine .cons (.mk 276 (.int .i64 (r_186.2.1.length : Int)) [(275, (.slice p190 r_186.2.1.length k191))] rfl rfl rfl rfl (fun S hS hd => (.cons (hd.1 rfl rfl _ _ rfl) (Sub.nil _))) (fun F_445 X l_446 => ?_)) ?_
                  ·skip
                   refine .lenS rfl rfl Try.underlying36 rfl ?_
                   exact .fin1 (Fz.le_refl _)
                  refine .cons (.mk 277 (.bool (decide (s194.2.1 ≥ (r_186.2.1.length : Int)))) [(274, (.int .i64 s194.2.1)), (276, (.int .i64 (r_186.2.1.length : Int)))] rfl rfl rfl rfl (fun S hS hd => (.cons (hd.1 rfl rfl _ _ rfl) (.cons (hd.2.1 rfl rfl _ _ rfl) (Sub.nil _)))) (fun F_447 X l_448 => ?_)) ?_
                  ·skip
                   refine .geq rfl rfl rfl ?_
                   exact .fin1 (Fz.le_refl _)
                  refine .cons (.mk 278 (.bool (decide (s194.2.1 ≥ (r_186.2.1.length : Int)))) [(277, (.bool (decide (s194.2.1 ≥ (r_186.2.1.length : Int)))))] rfl rfl rfl rfl (fun S hS hd => (.cons (hd.1 rfl rfl _ _ rfl) (Sub.nil _))) (fun F_449 X l_450 => ?_)) ?_
                  ·skip
                   refine .move rfl rfl ?_
                   exact .fin1 (Fz.le_refl _)
                  refine .cons (.mk 279 undef [(27, (.slice p190 r_186.2.1.length k191)), (278, (.bool (decide (s194.2.1 ≥ (r_186.2.1.length : Int)))))] rfl rfl rfl rfl (fun S hS hd => (.cons (hS _ _ rfl) (.cons (hd.1 rfl rfl _ _ rfl) (Sub.nil _)))) (fun F_451 X l_452 => ?_)) ?_
                  ·skip
                   refine .offH hb437 rfl rfl rfl ?_
                   exact .fin1 (Fz.le_refl _)
                  refine .cons (.mk 280 undef [(30, (.int .i64 s194.2.1)), (278, (.bool (decide (s194.2.1 ≥ (r_186.2.1.length : Int)))))] rfl rfl rfl rfl (fun S hS hd => (.cons (hS _ _ rfl) (.cons (hd.1 rfl rfl _ _ rfl) (Sub.nil _)))) (fun F_453 X l_454 => ?_)) ?_
                  ·skip
                   refine .offH hb437 rfl rfl rfl ?_
                   exact .fin1 (Fz.le_refl _)
                  refine .cons (.mk 281 undef [(278, (.bool (decide (s194.2.1 ≥ (r_186.2.1.length : Int))))), (279, undef), (280, undef)] rfl rfl rfl rfl (fun S hS hd => (.cons (hd.2.2.1 rfl rfl _ _ rfl) (.cons (hd.1 rfl rfl _ _ rfl) (.cons (hd.2.1 rfl rfl _ _ rfl) (Sub.nil _))))) (fun F_455 X l_456 => ?_)) ?_
                  ·skip
                   refine .offH hb437 rfl rfl rfl ?_
                   exact .fin1 (Fz.le_refl _)
                  refine .cons (.mk 282 undef [(278, (.bool (decide (s194.2.1 ≥ (r_186.2.1.length : Int))))), (281, undef)] rfl rfl rfl rfl (fun S hS hd => (.cons (hd.2.1 rfl rfl _ _ rfl) (.cons (hd.1 rfl rfl _ _ rfl) (Sub.nil _)))) (fun F_457 X l_458 => ?_)) ?_
                  ·skip
                   refine .offH hb437 rfl rfl rfl ?_
                   exact .fin1 (Fz.le_refl _)
                  refine .cons (.mk 283 undef [(7, (.slice p14 r_13.1.length k15)), (278, (.bool (decide (s194.2.1 ≥ (r_186.2.1.length : Int)))))] rfl rfl rfl rfl (fun S hS hd => (.cons (hS _ _ rfl) (.cons (hd.1 rfl rfl _ _ rfl) (Sub.nil _)))) (fun F_459 X l_460 => ?_)) ?_
                  ·skip
                   refine .offH hb437 rfl rfl rfl ?_
                   exact .fin1 (Fz.le_refl _)
                  refine .cons (.mk 284 undef [(31, (.int .i64 s194.2.2)), (278, (.bool (decide (s194.2.1 ≥ (r_186.2.1.length : Int)))))] rfl rfl rfl rfl (fun S hS hd => (.cons (hS _ _ rfl) (.cons (hd.1 rfl rfl _ _ rfl) (Sub.nil _)))) (fun F_461 X l_462 => ?_)) ?_
                  ·skip
                   refine .offH hb437 rfl rfl rfl ?_
                   exact .fin1 (Fz.le_refl _)
                  refine .cons (.mk 285 undef [(278, (.bool (decide (s194.2.1 ≥ (r_186.2.1.length : Int))))), (283, undef), (284, undef)] rfl rfl rfl rfl (fun S hS hd => (.cons (hd.2.2.1 rfl rfl _ _ rfl) (.cons (hd.1 rfl rfl _ _ rfl) (.cons (hd.2.1 rfl rfl _ _ rfl) (Sub.nil _))))) (fun F_463 X l_464 => ?_)) ?_
                  ·skip
                   refine .offH hb437 rfl rfl rfl ?_
                   exact .fin1 (Fz.le_refl _)
                  refine .cons (.mk 286 undef [(278, (.bool (decide (s194.2.1 ≥ (r_186.2.1.length : Int))))), (285, undef)] rfl rfl rfl rfl (fun S hS hd => (.cons (hd.2.1 rfl rfl _ _ rfl) (.cons (hd.1 rfl rfl _ _ rfl) (Sub.nil _)))) (fun F_465 X l_466 => ?_)) ?_
                  ·skip
                   refine .offH hb437 rfl rfl rfl ?_
                   exact .fin1 (Fz.le_refl _)
                  refine .cons (.mk 287 undef [(278, (.bool (decide (s194.2.1 ≥ (r_186.2.1.length : Int))))), (286, undef)] rfl rfl rfl rfl (fun S hS hd => (.cons (hd.2.1 rfl rfl _ _ rfl) (.cons (hd.1 rfl rfl _ _ rfl) (Sub.nil _)))) (fun F_467 X l_468 => ?_)) ?_
                  ·skip
                   refine .offH hb437 rfl rfl rfl ?_
                   exact .fin1 (Fz.le_refl _)
                  refine .cons (.mk 288 undef [(278, (.bool (decide (s194.2.1 ≥ (r_186.2.1.length : Int))))), (282, undef), (287, undef)] rfl rfl rfl rfl (fun S hS hd => (.cons (hd.2.2.1 rfl rfl _ _ rfl) (.cons (hd.1 rfl rfl _ _ rfl) (.cons (hd.2.1 rfl rfl _ _ rfl) (Sub.nil _))))) (fun F_469 X l_470 => ?_)) ?_
                  ·skip
                   refine .offH hb437 rfl rfl rfl ?_
                   exact .fin1 (Fz.le_refl _)
                  refine .cons (.mk 289 (.bool true) [(278, (.bool (decide (s194.2.1 ≥ (r_186.2.1.length : Int))))), (288, undef)] rfl rfl rfl rfl (fun S hS hd => (.cons (hd.1 rfl rfl _ _ rfl) (.cons (hd.2.1 rfl rfl _ _ rfl) (Sub.nil _)))) (fun F_471 X l_472 => ?_)) ?_
                  ·skip
                   refine .pickTH hb437  rfl rfl rfl ?_
                   exact .fin1 (Fz.le_refl _)
                  exact .nil
                 refine .nil ?_
                 exact .nil fun e a w h => by cases e; exact ⟨rfl, ⟨F_438, l_440, h.1.sub (.cons (k := 7) rfl (.cons (k := 25) rfl (.cons (k := 26) rfl (.cons (k := 27) rfl (.cons (k := 29) rfl (.cons (k := 30) rfl (.cons (k := 31) rfl (.cons (k := 289) rfl (.nil _))))))))), h.2⟩⟩
                ·skip
                 refine .bind (fun x473 e479 => ?_)
                 obtain ⟨b474, o475, T476, fr477, cs478, hm480, hv481, hq482⟩ := RepSl.idxE (h192.mono (Fz.le_trans l_196 l_435)) e479
                 refine .bind (fun x483 e489 => ?_)
                 obtain ⟨b484, o485, T486, fr487, cs488, hm490, hv491, hq492⟩ := RepSl.idxE (h16.mono (Fz.le_trans l_24 (Fz.le_trans l_111 (Fz.le_trans l_168 (Fz.le_trans l_185 (Fz.le_trans l_196 l_435)))))) e489
                 refine .draw ⟨1000000, 0, [], 0⟩ [(274, (.int .i64 s194.2.1)), (275, (.slice p190 r_186.2.1.length k191)), (276, (.int .i64 (r_186.2.1.length : Int))), (277, (.bool (decide (s194.2.1 ≥ (r_186.2.1.length : Int))))), (278, (.bool (decide (s194.2.1 ≥ (r_186.2.1.length : Int))))), (279, (.slice p190 r_186.2.1.length k191)), (280, (.int .i64 s194.2.1)), (281, (.pointer (some ⟨b474, o475, none⟩))), (282, (.int .i64 x473)), (283, (.slice p14 r_13.1.length k15)), (284, (.int .i64 s194.2.2)), (285, (.pointer (some ⟨b484, o485, none⟩))), (286, (.pointer (some ⟨b484, o485, none⟩))), (287, (.int .i64 x483.Number)), (288, (.bool (x473 != x483.Number))), (289, (.bool (x473 != x483.Number)))] mixedOK (by kernel_rfl) (by kernel_rfl) rfl (by kernel_rfl) ?_ (fun F_493 b494 l_495 => ?_)
                 ·skip
                  refine .cons (.mk 274 (.int .i64 s194.2.1) [(30, (.int .i64 s194.2.1))] rfl rfl rfl rfl (fun S hS hd => (.cons (hS _ _ rfl) (Sub.nil _))) (fun F_496 X l_497 => ?_)) ?_
                  ·skip
                   refine .move rfl rfl ?_
                   exact .fin1 (Fz.le_refl _)
                  refine .cons (.mk 275 (.slice p190 r_186.2.1.length k191) [(27, (.slice p190 r_186.2.1.length k191))] rfl rfl rfl rfl (fun S hS hd => (.cons (hS _ _ rfl) (Sub.nil _))) (fun F_498 X l_499 => ?_)) ?_
                  ·skip
                   refine .move rfl rfl ?_
                   exact .fin1 (Fz.le_refl _)
                  refine .cons (.mk 276 (.int .i64 (r_186.2.1.length : Int)) [(275, (.slice p190 r_186.2.1.length k191))] rfl rfl rfl rfl (fun S hS hd => (.cons (hd.1 rfl rfl _ _ rfl) (Sub.nil _))) (fun F_500 X l_501 => ?_)) ?_
                  ·skip
                   refine .lenS rfl rfl Try.underlying36 rfl ?_
                   exact .fin1 (Fz.le_refl _)
                  refine .cons (.mk 277 (.bool (decide (s194.2.1 ≥ (r_186.2.1.length : Int)))) [(274, (.int .i64 s194.2.1)), (276, (.int .i64 (r_186.2.1.length : Int)))] rfl rfl rfl rfl (fun S hS hd => (.cons (hd.1 rfl rfl _ _ rfl) (.cons (hd.2.1 rfl rfl _ _ rfl) (Sub.nil _)))) (fun F_502 X l_503 => ?_)) ?_
                  ·skip
                   refine .geq rfl rfl rfl ?_
                   exact .fin1 (Fz.le_refl _)
                  refine .cons (.mk 278 (.bool (decide (s194.2.1 ≥ (r_186.2.1.length : Int)))) [(277, (.bool (decide (s194.2.1 ≥ (r_186.2.1.length : Int)))))] rfl rfl rfl rfl (fun S hS hd => (.cons (hd.1 rfl rfl _ _ rfl) (Sub.nil _))) (fun F_504 X l_505 => ?_)) ?_
                  ·skip
                   refine .move rfl rfl ?_
                   exact .fin1 (Fz.le_refl _)
                  refine .cons (.mk 279 (.slice p190 r_186.2.1.length k191) [(27, (.slice p190 r_186.2.1.length k191)), (278, (.bool (decide (s194.2.1 ≥ (r_186.2.1.length : Int)))))] rfl rfl rfl rfl (fun S hS hd => (.cons (hS _ _ rfl) (.cons (hd.1 rfl rfl _ _ rfl) (Sub.nil _)))) (fun F_506 X l_507 => ?_)) ?_
                  ·skip
                   refine .onH hb437 rfl rfl ?_
                   refine .move rfl rfl ?_
                   exact .fin1 (Fz.le_refl _)
                  refine .cons (.mk 280 (.int .i64 s194.2.1) [(30, (.int .i64 s194.2.1)), (278, (.bool (decide (s194.2.1 ≥ (r_186.2.1.length : Int)))))] rfl rfl rfl rfl (fun S hS hd => (.cons (hS _ _ rfl) (.cons (hd.1 rfl rfl _ _ rfl) (Sub.nil _)))) (fun F_508 X l_509 => ?_)) ?_
                  ·skip
                   refine .onH hb437 rfl rfl ?_
                   refine .move rfl rfl ?_
                   exact .fin1 (Fz.le_refl _)
                  refine .cons (.mk 281 (.pointer (some ⟨b474, o475, none⟩)) [(278, (.bool (decide (s194.2.1 ≥ (r_186.2.1.length : Int))))), (279, (.slice p190 r_186.2.1.length k191)), (280, (.int .i64 s194.2.1))] rfl rfl rfl rfl (fun S hS hd => (.cons (hd.2.2.1 rfl rfl _ _ rfl) (.cons (hd.1 rfl rfl _ _ rfl) (.cons (hd.2.1 rfl rfl _ _ rfl) (Sub.nil _))))) (fun F_510 X l_511 => ?_)) ?_
                  ·skip
                   refine .onH hb437 rfl rfl ?_
                   refine .idxQ rfl Try.underlying36 Try.sizeOf3 hq482 rfl rfl ?_
                   exact .fin1 (Fz.le_refl _)
                  refine .cons (.mk 282 (.int .i64 x473) [(278, (.bool (decide (s194.2.1 ≥ (r_186.2.1.length : Int))))), (281, (.pointer (some ⟨b474, o475, none⟩)))] rfl rfl rfl rfl (fun S hS hd => (.cons (hd.2.1 rfl rfl _ _ rfl) (.cons (hd.1 rfl rfl _ _ rfl) (Sub.nil _)))) (fun F_512 X l_513 => ?_)) ?_
                  ·skip
                   refine .onH hb437 rfl rfl ?_
                   refine .loadF rfl Try.isAgg3 rfl (l_513.mem _ _ hm480) (cell_of_take (k := 0) hv481 rfl) ?_
                   exact .fin1 (Fz.le_refl _)
                  refine .cons (.mk 283 (.slice p14 r_13.1.length k15) [(7, (.slice p14 r_13.1.length k15)), (278, (.bool (decide (s194.2.1 ≥ (r_186.2.1.length : Int)))))] rfl rfl rfl rfl (fun S hS hd => (.cons (hS _ _ rfl) (.cons (hd.1 rfl rfl _ _ rfl) (Sub.nil _)))) (fun F_514 X l_515 => ?_)) ?_
                  ·skip
                   refine .onH hb437 rfl rfl ?_
                   refine .move rfl rfl ?_
                   exact .fin1 (Fz.le_refl _)
                  refine .cons (.mk 284 (.int .i64 s194.2.2) [(31, (.int .i64 s194.2.2)), (278, (.bool (decide (s194.2.1 ≥ (r_186.2.1.length : Int)))))] rfl rfl rfl rfl (fun S hS hd => (.cons (hS _ _ rfl) (.cons (hd.1 rfl rfl _ _ rfl) (Sub.nil _)))) (fun F_516 X l_517 => ?_)) ?_
                  ·skip
                   refine .onH hb437 rfl rfl ?_
                   refine .move rfl rfl ?_
                   exact .fin1 (Fz.le_refl _)
                  refine .cons (.mk 285 (.pointer (some ⟨b484, o485, none⟩)) [(278, (.bool (decide (s194.2.1 ≥ (r_186.2.1.length : Int))))), (283, (.slice p14 r_13.1.length k15)), (284, (.int .i64 s194.2.2))] rfl rfl rfl rfl (fun S hS hd => (.cons (hd.2.2.1 rfl rfl _ _ rfl) (.cons (hd.1 rfl rfl _ _ rfl) (.cons (hd.2.1 rfl rfl _ _ rfl) (Sub.nil _))))) (fun F_518 X l_519 => ?_)) ?_
                  ·skip
                   refine .onH hb437 rfl rfl ?_
                   refine .idxQ rfl Try.underlying25 Try.sizeOf31 hq492 rfl rfl ?_
                   exact .fin1 (Fz.le_refl _)
                  refine .cons (.mk 286 (.pointer (some ⟨b484, o485, none⟩)) [(278, (.bool (decide (s194.2.1 ≥ (r_186.2.1.length : Int))))), (285, (.pointer (some ⟨b484, o485, none⟩)))] rfl rfl rfl rfl (fun S hS hd => (.cons (hd.2.1 rfl rfl _ _ rfl) (.cons (hd.1 rfl rfl _ _ rfl) (Sub.nil _)))) (fun F_520 X l_521 => ?_)) ?_
                  ·skip
                   refine .onH hb437 rfl rfl ?_
                   refine .fieldAddr rfl Try.underlying31 rfl Try.sizeOf3 rfl ?_
                   exact .fin1 (Fz.le_refl _)
                  refine .cons (.mk 287 (.int .i64 x483.Number) [(278, (.bool (decide (s194.2.1 ≥ (r_186.2.1.length : Int))))), (286, (.pointer (some ⟨b484, o485, none⟩)))] rfl rfl rfl rfl (fun S hS hd => (.cons (hd.2.1 rfl rfl _ _ rfl) (.cons (hd.1 rfl rfl _ _ rfl) (Sub.nil _)))) (fun F_522 X l_523 => ?_)) ?_
                  ·skip
                   refine .onH hb437 rfl rfl ?_
                   refine .loadF rfl Try.isAgg3 rfl (l_523.mem _ _ hm490) (cell_of_take (k := 0) hv491 rfl) ?_
                   exact .fin1 (Fz.le_refl _)
                  refine .cons (.mk 288 (.bool (x473 != x483.Number)) [(278, (.bool (decide (s194.2.1 ≥ (r_186.2.1.length : Int))))), (282, (.int .i64 x473)), (287, (.int .i64 x483.Number))] rfl rfl rfl rfl (fun S hS hd => (.cons (hd.2.2.1 rfl rfl _ _ rfl) (.cons (hd.1 rfl rfl _ _ rfl) (.cons (hd.2.1 rfl rfl _ _ rfl) (Sub.nil _))))) (fun F_524 X l_525 => ?_)) ?_
                  ·skip
                   refine .onH hb437 rfl rfl ?_
                   refine .neq rfl rfl rfl ?_
                   exact .fin1 (Fz.le_refl _)
                  refine .cons (.mk 289 (.bool (x473 != x483.Number)) [(278, (.bool (decide (s194.2.1 ≥ (r_186.2.1.length : Int))))), (288, (.bool (x473 != x483.Number)))] rfl rfl rfl rfl (fun S hS hd => (.cons (hd.1 rfl rfl _ _ rfl) (.cons (hd.2.1 rfl rfl _ _ rfl) (Sub.nil _)))) (fun F_526 X l_527 => ?_)) ?_
                  ·skip
                   refine .pickFH hb437  rfl rfl rfl ?_
                   exact .fin1 (Fz.le_refl _)
                  exact .nil
                 refine .nil ?_
                 exact .nil fun e a w h => by cases e; exact ⟨rfl, ⟨F_493, l_495, h.1.sub (.cons (k := 7) rfl (.cons (k := 25) rfl (.cons (k := 26) rfl (.cons (k := 27) rfl (.cons (k := 29) rfl (.cons (k := 30) rfl (.cons (k := 31) rfl (.cons (k := 289) rfl (.nil _))))))))), h.2⟩⟩
               refine .code ?_
               refine .cond rfl (fun hb531 => ?_) (fun hb531 => ?_)
               ·skip
                refine .seq ?_
                refine .region ?_
                refine .assign rfl rfl ?_
                refine .nil ?_
                refine .code ?_
                refine .drop 2 ?_
                refine .drop 1 ?_
                refine .drop 0 ?_
                refine .retQ (LPost.ret fun a w h => ⟨rfl, F_529, (Fz.le_trans l_196 (Fz.le_trans l_435 l_530)), h.1.sub (.cons (k := 6) rfl (.nil _)), h.2⟩)
               ·skip
                refine .skip ?_
                refine .code ?_
                refine .region ?_
                refine .move rfl rfl ?_
                refine .add rfl rfl rfl ?_
                refine .assignL rfl rfl (fun b532 e533 => ?_)
                refine .nil ?_
                refine .block ?_
                refine .code ?_
                refine .region ?_
                refine .move rfl rfl ?_
                refine .add rfl rfl rfl ?_
                refine .assignL rfl rfl (fun i534 e535 => ?_)
                refine .nil ?_
                exact .nil (LPost.norm fun a w h => ⟨F_529, (Fz.le_trans l_196 (Fz.le_trans l_435 l_530)), h.1.sub (.cons (k := 7) rfl (.cons (k := 25) rfl (.cons (k := 26) rfl (.cons (k := 27) rfl (.cons (k := 29) rfl (.cons (k := 30) rfl (.cons (k := 31) rfl (.nil _)))))))), h.2⟩)
              ·skip
               refine .skip ?_
               refine .block ?_
               refine .code ?_
               refine .region ?_
               refine .move rfl rfl ?_
               refine .add rfl rfl rfl ?_
               refine .assignL rfl rfl (fun i536 e537 => ?_)
               refine .nil ?_
               exact .nil (LPost.norm fun a w h => ⟨F_434, (Fz.le_trans l_196 l_435), h.1.sub (.cons (k := 7) rfl (.cons (k := 25) rfl (.cons (k := 26) rfl (.cons (k := 27) rfl (.cons (k := 29) rfl (.cons (k := 30) rfl (.cons (k := 31) rfl (.nil _)))))))), h.2⟩)
            ·skip
             refine .exitOut rfl (LPost.exit fun a w h => ⟨rfl, F_195, l_196, h.1.sub (.cons (k := 26) rfl (.cons (k := 27) rfl (.cons (k := 29) rfl (.cons (k := 30) rfl (.nil _))))), h.2⟩)
           ·intro b538 hb0 hk e a w hD
            rcases b538 with b538 | b538
            ·skip
             obtain ⟨rfl, F_539, l_540, hA⟩ := hD
             refine interp_exit rfl (GE.app ?_ hk a w hA)
             refine .code ?_
             refine .seq ?_
             refine .region ?_
             refine .move rfl rfl ?_
             refine .move rfl rfl ?_
             refine .lenS rfl rfl Try.underlying36 rfl ?_
             refine .eql rfl rfl rfl ?_
             refine .move rfl rfl ?_
             refine .andP (b := (b538.1 == (r_186.1.length : Int))) (b' := (b538.2 == (r_186.2.1.length : Int))) 5 301 (fun hb543 => ?_) (fun hb544 => ?_) (fun F_545 l_546 => ?_)
             ·skip
              refine .onH hb543 rfl rfl ?_
              refine .move rfl rfl ?_
              refine .onH hb543 rfl rfl ?_
              refine .move rfl rfl ?_
              refine .onH hb543 rfl rfl ?_
              refine .lenS rfl rfl Try.underlying36 rfl ?_
              refine .onH hb543 rfl rfl ?_
              refine .eql rfl rfl rfl ?_
              refine .pickTH hb543 rfl rfl rfl ?_
              exact .fin 5 rfl rfl (by kernel_rfl) (Fz.le_refl _)
             ·skip
              refine .offH hb544 rfl rfl rfl ?_
              refine .offH hb544 rfl rfl rfl ?_
              refine .offH hb544 rfl rfl rfl ?_
              refine .offH hb544 rfl rfl rfl ?_
              refine .pickFH hb544 rfl rfl rfl ?_
              exact .fin 5 rfl rfl (by kernel_rfl) (Fz.le_refl _)
             refine .move rfl rfl ?_
             refine .andM (b := ((b538.1 == (r_186.1.length : Int)) && (b538.2 == (r_186.2.1.length : Int)))) 2 304 (fun hb547 z555 => ?_) (fun hb551 => ?_) (fun z554 F_552 l_553 => ?_)
             ·skip
              refine .onH hb547 rfl rfl ?_
              refine .call0 rfl Try.call11 rfl rfl rfl (c_wormtublaw06_awake _ ) ?_
              rintro r_550 F_548 _ - l_549 rfl
              refine .pickTH hb547 rfl rfl rfl ?_
              exact .finZ 2 rfl rfl (by kernel_rfl) l_549
             ·skip
              refine .offH hb551 rfl rfl rfl ?_
              refine .pickFH hb551 rfl rfl rfl ?_
              exact .fin 2 rfl rfl (by kernel_rfl) (Fz.le_refl _)
             refine .assign rfl rfl ?_
             refine .nil ?_
             refine .code ?_
             exact .ret0 Try.results7 (.tmp rfl (.nil)) (i := 3) rfl (Fz.le_trans l_12 (Fz.le_trans l_24 (Fz.le_trans l_111 (Fz.le_trans l_168 (Fz.le_trans l_185 (Fz.le_trans l_540 (Fz.le_trans l_546 l_553))))))) rfl
            obtain ⟨rfl, F_541, l_542, hA⟩ := hD
            exact interp_ret ((ret_post0 Try.results7 (.tmp rfl (.nil)) (i := 0) rfl (Fz.le_trans l_12 (Fz.le_trans l_24 (Fz.le_trans l_111 (Fz.le_trans l_168 (Fz.le_trans l_185 l_542))))) rfl) hk a w hA)
        obtain ⟨rfl, F_172, l_173, hA⟩ := hD
        exact interp_ret ((ret_post0 Try.results7 (.tmp rfl (.nil)) (i := 0) rfl (Fz.le_trans l_12 (Fz.le_trans l_24 (Fz.le_trans l_111 l_173))) rfl) hk a w hA)
     obtain ⟨rfl, F_118, l_119, hA⟩ := hD
     exact interp_ret ((ret_post0 Try.results7 (.tmp rfl (.nil)) (i := 0) rfl (Fz.le_trans l_12 (Fz.le_trans l_24 l_119)) rfl) hk a w hA)
end Go.Proofs.Ytkedjmhhcekmiaa
end

section
namespace Go.Proofs.Ytkedjmhhcekmiaa
open Go.Dec
open Go.ChangeShapes Go.WideShapes Go.ChangeAt Go.RowKit
def LawCaskPledged : Prop := ∀ (a0 : (List ApiCaskEvent)) (a1 : Int) (a2 : Int), (∀ y ∈ a0, okApiCaskEvent y) → (Lit.int .i64 a1).wf = true → (Lit.int .u8 a2).wf = true → m_wormtublaw06_CaskPledged a0 a1 a2 = some true
set_option maxRecDepth 100000 in
theorem lifted_CaskPledged (law : LawCaskPledged) (os : Os) (started : os.Started) (H : Type) (enc : TypeId × Value → H) :
  ReturnsInHanded {} Try.checked os 7 .any (Rows.caskPledgedSpec.pre6 enc Try.prog Try.f7 Rows.caskPledgedRow.domain false) (Rows.caskPledgedSpec.post enc Try.prog Try.f7 false true false false) := by
 refine returnsInHanded_of_change (C := Try.checked) Try.own started (by kernel_rfl) Try.func7 (ChangeSpec.witness6 (enc := enc) (C := Try.checked) false ⟨#[], #[.slice none 0 0, .int .i64 0, .int .u8 0], []⟩ 12 (by kernel_rfl) (by kernel_rfl) (by kernel_rfl) (by kernel_rfl)) ?_
 intro W base args ds gs before hval hW _ _
 refine law_contract (P := Try.prog) Try.laidOut (by kernel_rfl) rfl (by kernel_rfl : Try.f7.resultTypes = #[4]) Try.underlying4 (fun ds h => ?_) (fun W base args ds ps hval hA => ?_) W base args ds gs before hval hW
 ·match ds, h with
  | [d0, d1, d2], _ => rfl
 ·rw [Try.params7] at hA hval
  obtain ⟨v0, l0, _, _, _, _, e0, _, _, t0, hA⟩ := trodAll_cons hA
  obtain ⟨v1, l1, _, _, _, _, e1, _, _, t1, hA⟩ := trodAll_cons hA
  obtain ⟨v2, l2, _, _, _, _, e2, _, _, t2, hA⟩ := trodAll_cons hA
  obtain ⟨e3, _, _⟩ := trodAll_nil hA
  subst e3 e2 e1
  obtain rfl : args = [v0, v1, v2].toArray := by rw [← e0]
  obtain ⟨m0, p0, k0, o0, rfl, h0⟩ := argSlice Try.underlying22 vt22 (hval 0 _ _ rfl rfl) t0
  obtain ⟨m1, o1, rfl⟩ := argInt Try.underlying3 (hval 1 _ _ rfl rfl) t1
  obtain ⟨m2, o2, rfl⟩ := argInt Try.underlying5 (hval 2 _ _ rfl rfl) t2
  have hl := law m0 m1 m2 o0 o1 o2
  have hc := c_wormtublaw06_CaskPledged (FW W) m0 p0 k0 h0 m1 m2
  rw [hl] at hc
  exact hc
theorem said_CaskPledged (law : LawCaskPledged) : Rows.CaskPledgedSaid :=
 OpenClaim.holds_of_wide 7 Try.f7 rfl rfl rfl rfl rfl rfl rfl ⟨rfl, rfl, rfl, rfl, rfl⟩ rfl rfl rfl rfl rfl (by kernel_rfl) Try.func7 (by kernel_rfl)
  (of_decide_eq_true (by kernel_rfl)) (by unfold Func.isWrapper; first | (rw [if_pos (by decide +kernel)]; kernel_rfl) | (rw [if_neg (by decide +kernel)]; exact ⟨rfl, rfl⟩))
  (fun os started H enc _ => lifted_CaskPledged law os started H enc)
end Go.Proofs.Ytkedjmhhcekmiaa
end

section
namespace Go.Proofs.Ytkedjmhhcekmiaa
open Go.Dec
theorem find_same {n : Int} : ∀ {a b : List Held}, a.map (·.C.Number) = b.map (·.C.Number) → findS a n = findS b n
  | [], [], _ => rfl
  | [], _ :: _, h => by simp at h
  | _ :: _, [], h => by simp at h
  | x :: a, y :: b, h => by
    simp only [List.map_cons, List.cons.injEq] at h
    simp only [findS, h.1, find_same h.2]
theorem set_nums {l : List Held} {i : Nat} {c h' : Held} (hi : l[i]? = some c) (hn : h'.C.Number = c.C.Number) : (l.set i h').map (·.C.Number) = l.map (·.C.Number) := by
  apply List.ext_getElem?
  intro j
  simp only [List.getElem?_map, List.getElem?_set]
  by_cases e : i = j
  · subst e
    have hlt := (List.getElem?_eq_some_iff.1 hi).1
    have hh := (List.getElem?_eq_some_iff.1 hi).2
    simp [hlt, hn, hh]
  · simp [e]
theorem findH_set {l : List Held} {i : Nat} {c h' : Held} (hnd : (l.map (·.C.Number)).Nodup) (hi : l[i]? = some c) (hn : h'.C.Number = c.C.Number) (n : Int) : findH (l.set i h') n = if n = c.C.Number then some h' else findH l n := by
  unfold findH
  rw [find_same (set_nums hi hn)]
  have hlt := (List.getElem?_eq_some_iff.1 hi).1
  by_cases e : n = c.C.Number
  · subst e
    rw [if_pos rfl, find_of hnd hi, Option.bind_some, List.getElem?_set_self hlt]
  · rw [if_neg e]
    cases hf : findS l n with
    | none => rfl
    | some j =>
      obtain ⟨h, h1, h2⟩ := find_some hf
      have : i ≠ j := fun e' => by subst e'; rw [hi] at h1; cases h1; exact e h2.symm
      simp only [Option.bind_some]
      rw [List.getElem?_set_ne this]
theorem find_app_none {n : Int} {h : Held} : ∀ {l : List Held}, findS l n = none → findS (l ++ [h]) n = if h.C.Number == n then some l.length else none
  | [], _ => by simp [findS]
  | y :: l, e => by
    simp only [findS] at e
    by_cases hy : (y.C.Number == n) = true
    · rw [if_pos hy] at e; cases e
    · rw [if_neg hy] at e
      have e' : findS l n = none := by simpa using e
      simp only [List.cons_append, findS]
      rw [if_neg hy, find_app_none e']
      split <;> simp
theorem find_app_some {n : Int} {h : Held} {j : Nat} : ∀ {l : List Held}, findS l n = some j → findS (l ++ [h]) n = some j
  | [], e => by cases e
  | y :: l, e => by
    simp only [findS] at e
    simp only [List.cons_append, findS]
    by_cases hy : (y.C.Number == n) = true
    · rw [if_pos hy] at e ⊢; exact e
    · rw [if_neg hy] at e ⊢
      cases hf : findS l n with
      | none => rw [hf] at e; cases e
      | some q => rw [hf] at e; rw [find_app_some hf]; exact e
theorem findH_app {l : List Held} {h : Held} (hf : findS l h.C.Number = none) (n : Int) : findH (l ++ [h]) n = if n = h.C.Number then some h else findH l n := by
  unfold findH
  by_cases e : n = h.C.Number
  · subst e
    rw [if_pos rfl, find_app_none hf]
    simp
  · rw [if_neg e]
    cases hg : findS l n with
    | none =>
      rw [find_app_none hg]
      have : (h.C.Number == n) = false := by simpa using fun e' => e e'.symm
      simp [this]
    | some j =>
      rw [find_app_some hg]
      obtain ⟨x, h1, _⟩ := find_some hg
      simp only [Option.bind_some]
      rw [List.getElem?_append_left (List.getElem?_eq_some_iff.1 h1).1]
theorem findH_older (d : Int) (l : List Held) (n : Int) : findH (l.map (olderS d)) n = (findH l n).map (olderS d) := by
  unfold findH
  rw [find_map (fun h => older_num)]
  cases findS l n with
  | none => rfl
  | some i => simp
theorem findH_of {l : List Held} {n : Int} {i : Nat} {c : Held} (f : findS l n = some i) (h : l[i]? = some c) : findH l n = some c := by simp [findH, f, h]
theorem findH_num {l : List Held} {n : Int} {c : Held} (h : findH l n = some c) : c.C.Number = n ∧ c ∈ l := by
  unfold findH at h
  cases hf : findS l n with
  | none => rw [hf] at h; cases h
  | some i =>
    rw [hf, Option.bind_some] at h
    obtain ⟨c', h1, h2⟩ := find_some hf
    rw [h] at h1; cases h1
    exact ⟨h2, List.mem_of_getElem? h⟩
theorem find_num {l : List Held} {n : Int} {i : Nat} {c : Held} (f : findS l n = some i) (h : l[i]? = some c) : c.C.Number = n := (findH_num (findH_of f h)).1
def ownF (l : List Held) (n : Int) : Option Int := (findH l n).map (·.C.Owner)
def crdF (l : List Held) (n : Int) : Option Int := (findH l n).bind fun h => if 0 ≤ h.C.Creditor then some h.C.Creditor else none
structure Pld (l : List Held) (O C : List (Int × Int)) : Prop where
  own : ∀ n, mapGet O n = ownF l n
  crd : ∀ n, mapGet C n = crdF l n
  len : O.length = l.length
  nd : (C.map Prod.fst).Nodup
theorem Pld.older {l : List Held} {O C : List (Int × Int)} (h : Pld l O C) (d : Int) : Pld (l.map (olderS d)) O C := by
  refine ⟨fun n => ?_, fun n => ?_, by simp [h.len], h.nd⟩
  · rw [h.own]; unfold ownF; rw [findH_older]
    cases findH l n with
    | none => rfl
    | some x => simp only [Option.map_some]; unfold olderS; split <;> rfl
  · rw [h.crd]; unfold crdF; rw [findH_older]
    cases findH l n with
    | none => rfl
    | some x =>
      simp only [Option.map_some, Option.bind_some]
      have : (olderS d x).C.Creditor = x.C.Creditor := by unfold olderS; split <;> rfl
      rw [this]
section
variable {l : List Held} {O C : List (Int × Int)} {i : Nat} {c h' : Held} {n : Int}
theorem ownF_set (hnd : (l.map (·.C.Number)).Nodup) (hi : l[i]? = some c) (hn : h'.C.Number = c.C.Number) (n : Int) : ownF (l.set i h') n = if n = c.C.Number then some h'.C.Owner else ownF l n := by
  unfold ownF; rw [findH_set hnd hi hn]; split <;> rfl
theorem crdF_set (hnd : (l.map (·.C.Number)).Nodup) (hi : l[i]? = some c) (hn : h'.C.Number = c.C.Number) (n : Int) : crdF (l.set i h') n = if n = c.C.Number then (if 0 ≤ h'.C.Creditor then some h'.C.Creditor else none) else crdF l n := by
  unfold crdF; rw [findH_set hnd hi hn]; split <;> rfl
theorem own_at (hnd : (l.map (·.C.Number)).Nodup) (hi : l[i]? = some c) : ownF l c.C.Number = some c.C.Owner := by
  unfold ownF; rw [findH_of (find_of hnd hi) hi]; rfl
theorem crd_at (hnd : (l.map (·.C.Number)).Nodup) (hi : l[i]? = some c) : crdF l c.C.Number = if 0 ≤ c.C.Creditor then some c.C.Creditor else none := by
  unfold crdF; rw [findH_of (find_of hnd hi) hi]; rfl
theorem Pld.same (h : Pld l O C) (hnd : (l.map (·.C.Number)).Nodup) (hi : l[i]? = some c) (hn : h'.C.Number = c.C.Number) (ho : h'.C.Owner = c.C.Owner) (hc : h'.C.Creditor = c.C.Creditor) : Pld (l.set i h') O C := by
  refine ⟨fun n => ?_, fun n => ?_, by rw [h.len, List.length_set], h.nd⟩
  · rw [h.own, ownF_set hnd hi hn]
    split
    · rename_i e; rw [e, ho, own_at hnd hi]
    · rfl
  · rw [h.crd, crdF_set hnd hi hn]
    split
    · rename_i e; rw [e, hc, crd_at hnd hi]
    · rfl
end
theorem pour_keep (h s : Held) (n : Int) : (pourS h s n).C.Number = h.C.Number ∧ (pourS h s n).C.Owner = h.C.Owner ∧ (pourS h s n).C.Creditor = h.C.Creditor := by unfold pourS; split <;> exact ⟨rfl, rfl, rfl⟩
theorem less_keep (h : Held) (n : Int) : (lessS h n).C.Number = h.C.Number ∧ (lessS h n).C.Owner = h.C.Owner ∧ (lessS h n).C.Creditor = h.C.Creditor := by unfold lessS; split <;> exact ⟨rfl, rfl, rfl⟩
theorem ev7 {x : Ev} (h : evB x = true) (k : x.Kind = 7) : 0 ≤ x.Person := by
  have h := evTail h
  rw [k] at h
  exact (inB_iff.1 h).1
theorem pledge_step {l : List Ev} {r : List ApiCask × Int × Int} {pre : List Ev} {x : Ev} {s : Cur} {l' : List Held} {O C : List (Int × Int)} (hx : l[pre.length]? = some x) (hlen : pre.length < 60) (hr : (pre.length : Int) < r.2.1)
    (hv : evB x = true) (hd : s.last ≤ x.Day) (ho : SOk pre.length s) (d : EvD (atS x.Day s) x pre.length l') (h : Pld s.all O C) :
    ∃ O' C', b_wormtublaw06_CaskPledged_1 l r (O, C, (pre.length : Int)) = some (.next (O', C', ((pre.length + 1 : Nat) : Int))) ∧ Pld l' O' C' := by
  have hP : Pld (atS x.Day s) O C := h.older _
  have hok := older_all ho.ok (n := x.Day - s.last) (by omega)
  have hnd : ((atS x.Day s).map (·.C.Number)).Nodup := hok.nums
  generalize atS x.Day s = L at *
  have hw : w64 ((pre.length : Int) + 1) = ((pre.length + 1 : Nat) : Int) := by rw [w64_id (by omega) (by omega)]; rfl
  have hc : decide ((pre.length : Int) < r.2.1) = true := decide_eq_true hr
  have key : b_wormtublaw06_CaskPledged_1 l r (O, C, (pre.length : Int)) = (if (x.Kind == 0) then (if ((mapGet O x.Cask).isSome) then (some (.done (.inr false))) else (some (.next ((mapSet O x.Cask x.Person), C, ((pre.length + 1 : Nat) : Int))))) else (if (x.Kind == 5) then (if (((mapGet C x.Cask).isSome) || (((mapGet O x.Cask).getD 0) != x.Person)) then (some (.done (.inr false))) else (some (.next ((mapSet O x.Cask x.To), C, ((pre.length + 1 : Nat) : Int))))) else (if (x.Kind == 6) then (if (((mapGet C x.Cask).isSome) || (((mapGet O x.Cask).getD 0) != x.Person)) then (some (.done (.inr false))) else (some (.next (O, (mapSet C x.Cask x.To), ((pre.length + 1 : Nat) : Int))))) else (if (x.Kind == 7) then (if ((!((mapGet C x.Cask).isSome)) || (((mapGet C x.Cask).getD 0) != x.Person)) then (some (.done (.inr false))) else (some (.next (O, (mapDel C x.Cask), ((pre.length + 1 : Nat) : Int))))) else (if (x.Kind == 3) then (if ((mapGet C x.Cask).isSome) then (some (.done (.inr false))) else (some (.next (O, C, ((pre.length + 1 : Nat) : Int))))) else (if (x.Kind == 2) then (if ((((mapGet C x.Cask).isSome) || ((mapGet C x.Other).isSome)) || (((mapGet O x.Cask).getD 0) != ((mapGet O x.Other).getD 0))) then (some (.done (.inr false))) else (some (.next (O, C, ((pre.length + 1 : Nat) : Int))))) else (some (.next (O, C, ((pre.length + 1 : Nat) : Int)))))))))) := by
    unfold b_wormtublaw06_CaskPledged_1
    simp only [hc, if_true]
    rw [idxL_nat, hx]
    simp only [Option.bind_some, bindv, hw]
  rw [key]
  have hno : ∀ {i : Nat} {c : Held} {n : Int}, findS L n = some i → L[i]? = some c → c.C.Creditor < 0 → mapGet C n = none := fun {i c n} f g e => by
    have hn := find_num f g
    rw [hP.crd, ← hn, crd_at hnd g, if_neg (by omega)]
  have how : ∀ {i : Nat} {c : Held} {n : Int}, findS L n = some i → L[i]? = some c → mapGet O n = some c.C.Owner := fun {i c n} f g => by
    have hn := find_num f g
    rw [hP.own, ← hn, own_at hnd g]
  cases d with
  | make k f n =>
    have hn0 : findH L x.Cask = none := by simp [findH, f]
    have e1 : mapGet O x.Cask = none := by rw [hP.own]; unfold ownF; rw [hn0]; rfl
    have hF := findH_app (h := newS x) f
    refine ⟨mapSet O x.Cask x.Person, C, by simp [k, e1], fun n => ?_, fun n => ?_, by rw [mapSet_new e1, hP.len]; simp, hP.nd⟩
    · rw [mapGet_set, hP.own]
      unfold ownF
      rw [hF n]
      by_cases e : n = x.Cask
      · rw [if_pos (show n = (newS x).C.Number from e), if_pos (by simp [e])]; rfl
      · rw [if_neg (show ¬ n = (newS x).C.Number from e), if_neg (by simp [e])]
    · rw [hP.crd]
      unfold crdF
      rw [hF n]
      by_cases e : n = x.Cask
      · rw [if_pos (show n = (newS x).C.Number from e), e, hn0]; simp [newS]
      · rw [if_neg (show ¬ n = (newS x).C.Number from e)]
  | fill k i c f g r =>
    obtain ⟨h1, h2, h3⟩ := pour_keep c (fillS pre.length) x.Amount
    exact ⟨O, C, by simp [k], hP.same hnd g h1 h2 h3⟩
  | rack k i c f g j o f' g' ne ow c1 c2 a r =>
    obtain ⟨h1, h2, h3⟩ := pour_keep o c x.Amount
    obtain ⟨h4, h5, h6⟩ := less_keep c x.Amount
    have hP1 := hP.same hnd g' h1 h2 h3
    have g1 : (L.set j (pourS o c x.Amount))[i]? = some c := by rw [List.getElem?_set_ne (Ne.symm ne)]; exact g
    have hP2 := hP1.same (by rw [set_nums g' h1]; exact hnd) g1 h4 h5 h6
    refine ⟨O, C, ?_, hP2⟩
    simp [k, hno f g c1, hno f' g' c2, how f g, how f' g', ow]
  | drain k i c f g c1 a =>
    obtain ⟨h4, h5, h6⟩ := less_keep c x.Amount
    exact ⟨O, C, by simp [k, hno f g c1], hP.same hnd g h4 h5 h6⟩
  | carry k i c f g => exact ⟨O, C, by simp [k], hP.same hnd g rfl rfl rfl⟩
  | sell k i c f g o c1 t =>
    have hn := find_num f g
    refine ⟨mapSet O x.Cask x.To, C, by simp [k, hno f g c1, how f g, o], fun n => ?_, fun n => ?_, by rw [mapSet_old (how f g), hP.len]; simp, hP.nd⟩
    · rw [mapGet_set, hP.own, ownF_set (h' := { c with C := { c.C with Owner := x.To } }) hnd g rfl]
      by_cases e : n = x.Cask
      · rw [if_pos (by simp [e]), if_pos (by rw [hn]; exact e)]
      · rw [if_neg (by simp [e]), if_neg (by rw [hn]; exact e)]
    · rw [hP.crd, crdF_set (h' := { c with C := { c.C with Owner := x.To } }) hnd g rfl]
      split
      · rename_i e; rw [e, crd_at hnd g]
      · rfl
  | pledge k i c f g o c1 =>
    have hn := find_num f g
    have hto := (ev5 hv (.inr k)).1
    refine ⟨O, mapSet C x.Cask x.To, by simp [k, hno f g c1, how f g, o], fun n => ?_, fun n => ?_, by rw [hP.len]; simp, mapSet_nd hP.nd⟩
    · rw [hP.own, ownF_set (h' := { c with C := { c.C with Creditor := x.To } }) hnd g rfl]
      split
      · rename_i e; rw [e, own_at hnd g]
      · rfl
    · rw [mapGet_set, hP.crd, crdF_set (h' := { c with C := { c.C with Creditor := x.To } }) hnd g rfl]
      by_cases e : n = x.Cask
      · rw [if_pos (by simp [e]), if_pos (by rw [hn]; exact e), if_pos hto]
      · rw [if_neg (by simp [e]), if_neg (by rw [hn]; exact e)]
  | free k i c f g c1 =>
    have hn := find_num f g
    have hp := ev7 hv k
    have hcr : mapGet C x.Cask = some x.Person := by rw [hP.crd, ← hn, crd_at hnd g, if_pos (by omega), c1]
    refine ⟨O, mapDel C x.Cask, by simp [k, hcr], fun n => ?_, fun n => ?_, by rw [hP.len]; simp, mapDel_nd hP.nd⟩
    · rw [hP.own, ownF_set (h' := { c with C := { c.C with Creditor := -1 } }) hnd g rfl]
      split
      · rename_i e; rw [e, own_at hnd g]
      · rfl
    · rw [mapGet_del hP.nd, hP.crd, crdF_set (h' := { c with C := { c.C with Creditor := -1 } }) hnd g rfl]
      by_cases e : n = x.Cask
      · rw [if_pos (by simp [e]), if_pos (by rw [hn]; exact e)]; rfl
      · rw [if_neg (by simp [e]), if_neg (by rw [hn]; exact e)]
  | char k i c f g a => exact ⟨O, C, by simp [k], hP.same hnd g rfl rfl rfl⟩
end Go.Proofs.Ytkedjmhhcekmiaa
end

section
namespace Go.Proofs.Ytkedjmhhcekmiaa
open Go.Dec
def ppl (A : List Held) : List Int := A.flatMap fun h => [h.C.Owner, h.C.Creditor]
theorem ppl_snoc (A : List Held) (h : Held) : ppl (A ++ [h]) = ppl A ++ [h.C.Owner, h.C.Creditor] := by simp [ppl]
theorem ppl_len (A : List Held) : (ppl A).length = 2 * A.length := by
  induction A with
  | nil => rfl
  | cons h A ih => simp only [ppl, List.flatMap_cons, List.length_append, List.length_cons, List.length_nil] at ih ⊢; omega
theorem events7 {l : List Ev} {k : Nat} {r : List ApiCask × Int × Int} {s : Cur} (hs : stS (l.take k) = some s) (hk : k ≤ l.length) (h60 : l.length ≤ 60) (hr : r.2.1 = (k : Int)) :
    ∃ O C, loopM (b_wormtublaw06_CaskPledged_1 l r) ([], [], 0) = some (.inl (O, C)) ∧ Pld s.all O C := by
  have hlen : (l.take k).length = k := by simp; omega
  obtain ⟨t', ⟨s', h1, h2⟩, hl⟩ := loopM_pre (body := b_wormtublaw06_CaskPledged_1 l r) (fun i (t : List (Int × Int) × List (Int × Int)) => (t.1, t.2, (i : Int))) (fun t => (.inl t : (List (Int × Int) × List (Int × Int)) ⊕ Bool)) (fun pre t => ∃ s, stS pre = some s ∧ Pld s.all t.1 t.2) (l.take k)
    (fun pre x post t hl ht => by
      obtain ⟨s0, h1, h2⟩ := ht
      obtain ⟨l', _, hn, d, hv, hd, ho⟩ := st_next hs hl h1
      have hlt : pre.length < k := by have := lt_mid hl; omega
      have hx : l[pre.length]? = some x := by
        have := getEl_mid hl
        rwa [List.getElem?_take, if_pos hlt] at this
      obtain ⟨O', C', hb, hP⟩ := pledge_step (r := r) hx (by omega) (by omega) hv hd ho d h2
      exact ⟨(O', C'), hb, _, hn, hP⟩)
    (fun t ht => by
      unfold b_wormtublaw06_CaskPledged_1
      rw [if_neg (by simp [hr]; omega)]) (l.take k) [] ([], []) rfl ⟨⟨[], 0⟩, rfl, fun n => rfl, fun n => rfl, rfl, List.nodup_nil⟩
  rw [hs] at h1; cases h1
  exact ⟨t'.1, t'.2, hl, h2⟩
theorem casks7 {r : List ApiCask × Int × Int} {all A : List Held} {O C : List (Int × Int)} (hA : r.1 = A.map (·.C)) (hP : Pld all O C) (hm : ∀ h ∈ A, h ∈ all) (hnd : (all.map (·.C.Number)).Nodup) (hcr : ∀ h ∈ A, -1 ≤ h.C.Creditor) (h256 : A.length ≤ 256) :
    loopM (b_wormtublaw06_CaskPledged_2 r (O, C)) ([], 0) = some (.inl (ppl A)) := by
  obtain ⟨t', ht, hl⟩ := loopM_pre (body := b_wormtublaw06_CaskPledged_2 r (O, C)) (fun i (t : List Int) => (t, (i : Int))) (fun t => (.inl t : List Int ⊕ Bool)) (fun pre t => t = ppl pre) A
    (fun pre h post t hl ht => by
      subst ht
      have hlt := lt_mid hl
      have hh : h ∈ A := by rw [hl]; simp
      have hx : r.1[pre.length]? = some h.C := by rw [hA, List.getElem?_map, getEl_mid hl]; rfl
      have hpl := ppl_len pre
      have e1 : decide ((pre.length : Int) < (r.1.length : Int)) = true := decide_eq_true (by rw [hA]; simp; omega)
      have e3 : w64 ((pre.length : Int) + 1) = ((pre.length + 1 : Nat) : Int) := by rw [w64_id (by omega) (by omega)]; rfl
      have ea : appO (ppl pre) [h.C.Owner, h.C.Creditor] = some (ppl (pre ++ [h])) := by rw [appO_some' (by simp; omega), ppl_snoc]
      obtain ⟨i, hi⟩ := List.mem_iff_getElem?.1 (hm h hh)
      have eo : mapGet O h.C.Number = some h.C.Owner := by rw [hP.own, own_at hnd hi]
      have ec : mapGet C h.C.Number = if 0 ≤ h.C.Creditor then some h.C.Creditor else none := by rw [hP.crd, crd_at hnd hi]
      have hcr' := hcr h hh
      refine ⟨ppl (pre ++ [h]), ?_, rfl⟩
      unfold b_wormtublaw06_CaskPledged_2
      simp only [e1, if_true]
      rw [idxL_nat, hx]
      simp only [Option.bind_some, bindv, ec, eo, e3, ea]
      by_cases h0 : 0 ≤ h.C.Creditor
      · simp [h0]
      · have : h.C.Creditor = -1 := by omega
        simp [this])
    (fun t ht => by
      unfold b_wormtublaw06_CaskPledged_2
      rw [if_neg (by rw [hA]; simp)]) A [] [] rfl rfl
  rw [ht] at hl
  exact hl
theorem told7 {r : List ApiCask × Int × Int} {A : List Held} {p : Int} {q : List Int × List Int × Int} (hA : r.1 = A.map (·.C)) (hq1 : q.1 = ownC p r.1) (hq2 : q.2.1 = plgC p r.1) (h256 : A.length ≤ 256) :
    loopM (b_wormtublaw06_CaskPledged_3 r p q) (0, 0, 0) = some (.inl ((q.1.length : Int), (q.2.1.length : Int))) := by
  have hlenA : r.1.length = A.length := by rw [hA]; simp
  obtain ⟨t', ht, hl⟩ := loopM_pre (body := b_wormtublaw06_CaskPledged_3 r p q) (fun i (t : Int × Int) => (t.1, t.2, (i : Int))) (fun t => (.inl t : Int × Int ⊕ Bool)) (fun pre t => t = (((ownC p pre).length : Int), ((plgC p pre).length : Int))) r.1
    (fun pre x post t hl ht => by
      subst ht
      have hlt := lt_mid hl
      have hx : r.1[pre.length]? = some x := getEl_mid hl
      have l1 := ownC_len p pre
      have l2 := plgC_len p pre
      have e1 : decide ((pre.length : Int) < (r.1.length : Int)) = true := decide_eq_true (by omega)
      have e3 : w64 ((pre.length : Int) + 1) = ((pre.length + 1 : Nat) : Int) := by rw [w64_id (by omega) (by omega)]; rfl
      have ea : w64 (((ownC p pre).length : Int) + 1) = ((ownC p pre).length : Int) + 1 := w64_id (by omega) (by omega)
      have eb : w64 (((plgC p pre).length : Int) + 1) = ((plgC p pre).length : Int) + 1 := w64_id (by omega) (by omega)
      have o1 : q.1 = ownC p pre ++ ((if x.Owner == p then [x.Number] else []) ++ ownC p post) := by
        rw [hq1, hl, show pre ++ x :: post = (pre ++ [x]) ++ post by simp]
        unfold ownC
        rw [List.filter_append, List.filter_append, List.map_append, List.map_append]
        cases hb : x.Owner == p <;> simp [hb]
      have o2 : q.2.1 = plgC p pre ++ ((if x.Creditor == p && decide (p ≥ 0) then [x.Number] else []) ++ plgC p post) := by
        rw [hq2, hl, show pre ++ x :: post = (pre ++ [x]) ++ post by simp]
        unfold plgC
        rw [List.filter_append, List.filter_append, List.map_append, List.map_append]
        cases hb : (x.Creditor == p && decide (p ≥ 0)) <;> simp [hb]
      refine ⟨(((ownC p (pre ++ [x])).length : Int), ((plgC p (pre ++ [x])).length : Int)), ?_, rfl⟩
      rw [ownC_snoc, plgC_snoc]
      have k1 : (x.Owner == p) = true → (if decide (((ownC p pre).length : Int) ≥ (q.1.length : Int)) = true then (some true) else ((idxL q.1 ((ownC p pre).length : Int)).bind fun x245 => (idxL r.1 (pre.length : Int)).bind fun x255 => some (x245 != x255.Number))) = some false := fun hb => by
        rw [hb] at o1
        have hlq : (ownC p pre).length < q.1.length := by rw [o1]; simp
        rw [if_neg (by simp; omega), idxL_nat, idxL_nat, hx]
        have : q.1[(ownC p pre).length]? = some x.Number := by rw [o1, List.getElem?_append_right (Nat.le_refl _)]; simp
        rw [this]; simp
      have k2 : (x.Creditor == p && decide (p ≥ 0)) = true → (if decide (((plgC p pre).length : Int) ≥ (q.2.1.length : Int)) = true then (some true) else ((idxL q.2.1 ((plgC p pre).length : Int)).bind fun x245 => (idxL r.1 (pre.length : Int)).bind fun x255 => some (x245 != x255.Number))) = some false := fun hb => by
        rw [hb] at o2
        have hlq : (plgC p pre).length < q.2.1.length := by rw [o2]; simp
        rw [if_neg (by simp; omega), idxL_nat, idxL_nat, hx]
        have : q.2.1[(plgC p pre).length]? = some x.Number := by rw [o2, List.getElem?_append_right (Nat.le_refl _)]; simp
        rw [this]; simp
      unfold b_wormtublaw06_CaskPledged_3
      simp only [e1, if_true]
      have hxi : idxL r.1 (pre.length : Int) = some x := by rw [idxL_nat, hx]
      rw [hxi] at k1 k2 ⊢
      simp only [Option.bind_some, bindv, e3, ea, eb] at k1 k2 ⊢
      by_cases hb1 : (x.Owner == p) = true
      · rw [if_pos hb1, k1 hb1]
        simp only [Option.bind_some, Bool.false_eq_true, if_false]
        by_cases hb2 : (x.Creditor == p && decide (p ≥ 0)) = true
        · rw [if_pos hb2, k2 hb2, hb1, hb2]; simp
        · rw [if_neg hb2, hb1]
          have : (x.Creditor == p && decide (p ≥ 0)) = false := by simpa using hb2
          rw [this]; simp
      · have hb1' : (x.Owner == p) = false := by simpa using hb1
        rw [if_neg hb1]
        by_cases hb2 : (x.Creditor == p && decide (p ≥ 0)) = true
        · rw [if_pos hb2, k2 hb2, hb1', hb2]; simp
        · rw [if_neg hb2, hb1']
          have : (x.Creditor == p && decide (p ≥ 0)) = false := by simpa using hb2
          rw [this]; simp)
    (fun t ht => by
      unfold b_wormtublaw06_CaskPledged_3
      rw [if_neg (by simp)]) r.1 [] (0, 0) rfl rfl
  rw [ht, ← hq1, ← hq2] at hl
  exact hl
theorem law_CaskPledged : LawCaskPledged := fun a0 a1 a2 _ _ hwho => by
  unfold m_wormtublaw06_CaskPledged
  by_cases h60 : (a0.length : Int) > 60
  · rw [if_pos (by simpa using h60), awake_true]; rfl
  · rw [if_neg (by simpa using h60)]
    have hlen : a0.length ≤ 60 := by omega
    refine bind_of (Play_prog _ _) ?_
    cases hp : playS a0 a1 with
    | mk r k =>
      have hk := play_le hp
      cases r with
      | inr e =>
        have he := playS_err hp
        have hA : allS' a0 a1 = ([], (k : Int), e) := by unfold allS'; rw [hp]
        rw [hA]
        have e1 : (e != 0) = true := by simpa using he
        simp only [e1, if_true, awake_true]
        rfl
      | inl all =>
        have hA : allS' a0 a1 = ((ordS all).map (·.C), (k : Int), 0) := by unfold allS'; rw [hp]
        obtain ⟨hok, _, _, _⟩ := playS_ok hp
        obtain ⟨s, hall, hst, _, _, _, _⟩ := play_st hp
        have hOw := Owned_prog a0
        rw [hA]
        have e0 : ((0 : Int) != 0) = false := rfl
        have e1 : (decide ((k : Int) < 0) || decide ((k : Int) > (a0.length : Int))) = false := by
          rw [decide_eq_false (by omega), decide_eq_false (by omega)]; rfl
        simp only [e0, Bool.false_eq_true, if_false, e1]
        obtain ⟨O, C, hl1, hP0⟩ := events7 (r := ((ordS all).map (·.C), (k : Int), 0)) hst hk hlen rfl
        have hP : Pld all O C := by rw [hall]; exact hP0.older _
        have hperm := ord_perm hok
        have hmem : ∀ h ∈ ordS all, h ∈ all := fun h hh => hperm.mem_iff.1 hh
        have hol : (ordS all).length ≤ 256 := by rw [ord_len hok]; exact hok.few
        rw [hl1]
        simp only [Option.bind_some]
        have e2 : ((((ordS all).map (·.C)).length : Int) != (O.length : Int)) = false := by
          rw [List.length_map, ord_len hok, hP.len]; simp
        simp only [e2, Bool.false_eq_true, if_false]
        rw [casks7 (A := ordS all) rfl hP hmem hok.nums (fun h hh => (hok.each h (hmem h hh)).cred.1) hol]
        simp only [Option.bind_some]
        by_cases hz : (ppl (ordS all)).length = 0
        · have : (((ppl (ordS all)).length : Int) == 0) = true := by simp [hz]
          simp only [this, if_true, awake_true]; rfl
        · have : (((ppl (ordS all)).length : Int) == 0) = false := by rw [beq_eq_false_iff_ne]; omega
          simp only [this, Bool.false_eq_true, if_false]
          have hw := wf_u8 hwho
          have ew : w64 a2 = a2 := w64_id (by omega) (by omega)
          rw [ew]
          have hrem : remK a2 ((ppl (ordS all)).length : Int) = some (a2 % ((ppl (ordS all)).length : Int)) := by
            unfold remK; rw [if_neg (by omega), Int.tmod_eq_emod_of_nonneg hw.1]
          rw [hrem, Option.bind_some]
          have hm0 := Int.emod_nonneg a2 (show ((ppl (ordS all)).length : Int) ≠ 0 by omega)
          have hm1 := Int.emod_lt_of_pos a2 (show (0:Int) < ((ppl (ordS all)).length : Int) by omega)
          obtain ⟨p, hpi, _⟩ := idxL_lt (l := ppl (ordS all)) hm0 hm1
          rw [hpi, Option.bind_some, hOw, Option.bind_some]
          have hq : ownS a0 p a1 = (ownC p ((ordS all).map (·.C)), plgC p ((ordS all).map (·.C)), 0) := by unfold ownS; rw [hA]
          rw [hq]
          simp only [e0, Bool.false_eq_true, if_false]
          rw [told7 (A := ordS all) rfl rfl rfl hol]
          simp [awake_true]
theorem caskPledged_holds : Rows.CaskPledgedSaid := said_CaskPledged law_CaskPledged
end Go.Proofs.Ytkedjmhhcekmiaa
end
