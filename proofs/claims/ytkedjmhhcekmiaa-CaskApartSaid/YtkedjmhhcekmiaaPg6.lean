/- Own texts and texts printed by a program of mine, for caskApart_holds; only what it reaches. -/
import Derived.Test.YtkedjmhhcekmiaaPg5
import Derived.Test.YtkedjmhhcekmiaaRows
section
namespace Go.Proofs.Ytkedjmhhcekmiaa
open Go.Dec
theorem pour_prog {A1 : List CaskCask} {A3 : FM} {k j : Nat} {c : CaskCask} {h so : Held} {lj : List (Int × Bool)} {tm : CaskTimes} {n : Int} (hc : A1[k]? = some c) (hraw : h = rawOf c h.Fills) (hamt : 0 ≤ c.amount ∧ c.amount ≤ 1099511627776) (hn : 0 ≤ n ∧ n ≤ 1099511627776) (hfr : FR A3 c.fills h.Fills) (hne : 0 < c.amount → h.Fills ≠ [])
    (hj : A3[j]? = some lj) (hjn : (lj.map Prod.fst).Nodup) (hjF : ∀ x, x ∈ so.Fills ↔ x ∈ lj.map Prod.fst) (hq : c.fills ≠ some j) (ht : so.C.Age = tm.age ∧ so.C.Woods = tm.woods ∧ so.C.Places = tm.places) :
    ∃ c' A3', m_cask_cask_pour A1 A3 (some k) tm (some j) n = some (A1.set k c', A3') ∧ c'.number = c.number ∧ c'.since = c.since ∧ pourS h so n = rawOf c' (pourS h so n).Fills ∧ FR A3' c'.fills (pourS h so n).Fills ∧
      (∀ (q : Nat) lq, A3[q]? = some lq → c.fills ≠ some q → A3'[q]? = some lq) ∧ (c'.fills = c.fills ∨ c'.fills = some A3.length) := by
  have hk := (List.getElem?_eq_some_iff.1 hc).1
  have hca : h.C.Amount = c.amount := by rw [hraw]; rfl
  have hw : w64 (c.amount + n) = c.amount + n := w64_id (by omega) (by omega)
  unfold m_cask_cask_pour
  simp only [Option.bind_some, hc]
  by_cases e : (c.amount == 0) = true
  · have e' : (h.C.Amount == 0) = true := by rw [hca]; exact e
    refine ⟨{ c with times := tm, fills := some A3.length, amount := c.amount + n }, A3 ++ [lj], ?_, rfl, rfl, ?_, ?_, fun q lq h1 _ => ?_, .inr rfl⟩
    · simp only [e, if_true, m_maps_Clone_bool, cloneM, hj, Option.bind_some, bindv, List.set_set, List.getElem?_set_self hk, hw]
    · unfold pourS
      rw [if_pos e']
      rw [hraw]
      simp only [ht.1, ht.2.1, ht.2.2]
      rfl
    · unfold pourS
      rw [if_pos e']
      exact ⟨lj, by simp, hjn, hjF⟩
    · have := (List.getElem?_eq_some_iff.1 h1).1
      rw [List.getElem?_append_left this]; exact h1
  · have hpos : 0 < c.amount := by
      have : c.amount ≠ 0 := fun e0 => e (by simp [e0])
      omega
    have e' : ¬ (h.C.Amount == 0) = true := by rw [hca]; exact e
    cases hf : c.fills with
    | none => rw [hf] at hfr; exact absurd hfr (hne hpos)
    | some q =>
      rw [hf] at hfr
      obtain ⟨lq, hlq, hqn, hqF⟩ := hfr
      have hqj : q ≠ j := fun e0 => hq (by rw [hf, e0])
      have hql := (List.getElem?_eq_some_iff.1 hlq).1
      refine ⟨{ c with times := ⟨imin c.times.age tm.age, minN c.times.woods tm.woods, minN c.times.places tm.places⟩, amount := c.amount + n }, A3.set q (copyF lq lj), ?_, rfl, rfl, ?_, ?_, fun q' lq' h1 h2 => ?_, .inl hf⟩
      · simp only [e, if_false, Bool.false_eq_true, least_doc, Option.bind_some, bindv, hf, copy_prog hqj hlq hj hqn hjn, List.getElem?_set_self hk, List.set_set, hw]
      · unfold pourS
        rw [if_neg e']
        have h1 : h.C.Age = c.times.age := by rw [hraw]; rfl
        have h2 : h.C.Woods = c.times.woods := by rw [hraw]; rfl
        have h3 : h.C.Places = c.times.places := by rw [hraw]; rfl
        simp only [ht.1, ht.2.1, ht.2.2, h1, h2, h3]
        conv => lhs; rw [hraw]
        rfl
      · unfold pourS
        rw [if_neg e']
        show FR _ c.fills (uniS h.Fills so.Fills)
        rw [hf]
        refine ⟨copyF lq lj, List.getElem?_set_self hql, copy_nodup hqn, fun x => ?_⟩
        rw [mem_uniS, mem_copy, hqF, hjF]
      · rw [List.getElem?_set_ne (fun e0 => h2 (by rw [e0]))]; exact h1
section
variable {t : Int} {n : Nat} {all : List Held} {A1 : List CaskCask} {A3 : FM} {m : List (Int × Option Nat)} {b : CaskBook} {x : Ev}
theorem fr_lt {A3 : FM} {q : Nat} {F : List Int} (h : FR A3 (some q) F) : q < A3.length := by
  obtain ⟨l, h1, _⟩ := h; exact (List.getElem?_eq_some_iff.1 h1).1
theorem fill_prog (r : PR t n all A1 A3 m) (ho : AOk t n all) (h0 : 0 ≤ t) (ht : t ≤ 65536) (hb : b.casks = some 0) (hbe : b.event = n) (hv : evB x = true) (hk : x.Kind = 1) (hd : x.Day = t) : Does t n (doS all x n) (m_cask_book_fill A1 [b] A3 [m] (some 0) x) := by
  unfold m_cask_book_fill doS
  rw [if_neg (by rw [hk]; decide), hd]
  rcases find_prog (num := x.Cask) r (by omega) hb with ⟨hf, hm⟩ | ⟨k, h, c, hf, hh, hnum, hr, hc, hs, hraw, hok, hm⟩
  · rw [hf, hm]; exact ⟨rfl, by decide⟩
  · rw [hf, hm]
    simp only [hh, bindX, Option.bind_some, hc, bindv]
    have hact : actS all k h x n = fillD all k h x n := by unfold actS; rw [hk]; rfl
    rw [hact]
    have hcr := hr.each k c h hc hh
    have hca : h.C.Amount = c.amount := by rw [hraw]; rfl
    have hcro : h.C.Room = c.room := by rw [hraw]; rfl
    have hamt := hok.amt
    have hroom := hok.room
    rw [hca, hcro] at hamt
    rw [hcro] at hroom
    have ha := evAmt hv (.inl hk)
    have hw : w64 (c.amount + x.Amount) = c.amount + x.Amount := w64_id (by omega) (by omega)
    have hokd := fun l' (hl' : fillD all k h x n = .inl l') => fill_ok ho h0 hh ha.1 hl'
    unfold fillD at hokd ⊢
    rw [hca, hcro] at hokd ⊢
    rw [hw]
    by_cases h1 : c.amount + x.Amount > c.room
    · have e : decide (c.amount + x.Amount ≤ c.room) = false := decide_eq_false (by omega)
      simp only [h1, e, if_true]
      exact ⟨rfl, by decide⟩
    · have e : decide (c.amount + x.Amount ≤ c.room) = true := decide_eq_true (by omega)
      simp only [h1, if_false] at hokd
      simp only [h1, e, if_false]
      have hnew := hokd _ rfl
      have hql : ∀ q, c.fills = some q → q < A3.length := fun q hq => fr_lt (by rw [← hq]; exact hcr.fills)
      have hfr' : FR (A3 ++ [[((n : Int), true)]]) c.fills h.Fills := hcr.fills.keep fun q hq => List.getElem?_append_left (hql q hq)
      obtain ⟨c', A3', hp, hp1, hp2, hp3, hp4, hp5, hp6⟩ := pour_prog (A3 := A3 ++ [[((n : Int), true)]]) (j := A3.length) (lj := [((n : Int), true)]) (so := fillS n) (tm := ⟨0, zN, zN⟩) (n := x.Amount) hc hraw (by omega) (by omega) hfr' (fun hp => by rw [← hca] at hp; exact hok.some hp)
        (by simp) (by simp) (fun y => by simp [fillS]) (fun e => by have := hql _ e; omega) ⟨rfl, rfl, rfl⟩
      have hmod : m_cask_cask_pour (A1.set k c) (A3 ++ [mapSet [] b.event true]) (some k) (CaskTimes.mk 0 (fun _ => 0) (fun _ => 0)) (some A3.length) x.Amount = some ((A1.set k c).set k c', A3') := by rw [hbe]; exact hp
      have hmem : pourS h (fillS n) x.Amount ∈ all.set k (pourS h (fillS n) x.Amount) := List.mem_of_getElem? (List.getElem?_set_self (List.getElem?_eq_some_iff.1 hh).1)
      have hho := hnew.each _ hmem
      have hres : Does t n (.inl (all.set k (pourS h (fillS n) x.Amount))) (some (.ok ((A1.set k c).set k c', A3', [m]))) := by
        refine ⟨_, _, _, rfl, ?_⟩
        refine hr.set hc hh hp1 ?_ (fun i ci hi hne h1 h2 => ?_) (fun i ci q hne h1 h2 h3 => ?_)
        · rw [hp3]
          refine CR.of_raw h0 (by rw [hp2]; exact hs) (by rw [← hp3]; exact hho) ?_
          exact hp4
        · have hci := (hr.each i ci hi h1 h2).up
          refine ⟨hci.since, hci.ok, hci.eq, hci.fills.keep fun q hq => ?_⟩
          have hq2 := hci.fills
          rw [hq] at hq2
          obtain ⟨lq, g1, _⟩ := hq2
          have hql2 := (List.getElem?_eq_some_iff.1 g1).1
          rw [g1]
          exact hp5 q lq (by rw [List.getElem?_append_left hql2]; exact g1) (fun e => hne (hr.apart i k ci c q h1 hc hq e))
        · have hci := (hr.each i ci _ h1 (List.getElem?_eq_getElem (show i < all.length by rw [← hr.len]; exact (List.getElem?_eq_some_iff.1 h1).1))).fills
          rw [h2] at hci
          have := fr_lt hci
          rcases hp6 with hp6 | hp6
          · rw [hp6] at h3; exact hne (hr.apart i k ci c q h1 hc h2 h3)
          · rw [hp6] at h3
            simp only [Option.some.injEq, List.length_append, List.length_cons, List.length_nil] at h3
            omega
      show Does t n _ ((m_cask_cask_pour (A1.set k c) (A3 ++ [mapSet [] b.event true]) (some k) (CaskTimes.mk 0 (fun _ => 0) (fun _ => 0)) (some A3.length) x.Amount).bind fun r_106 => some (.ok (r_106.1, r_106.2, [m])))
      rw [hmod, Option.bind_some]
      exact hres
theorem rack_prog (r : PR t n all A1 A3 m) (ho : AOk t n all) (h0 : 0 ≤ t) (ht : t ≤ 65536) (hb : b.casks = some 0) (hv : evB x = true) (hk : x.Kind = 2) (hd : x.Day = t) : Does t n (doS all x n) (m_cask_book_rack A1 [b] A3 [m] (some 0) x) := by
  unfold m_cask_book_rack doS
  rw [if_neg (by rw [hk]; decide), hd]
  rcases find_prog (num := x.Cask) r (by omega) hb with ⟨hf, hm⟩ | ⟨i, h, c, hf, hh, hnum, hr, hc, hs, hraw, hok, hm⟩
  · rw [hf, hm]; exact ⟨rfl, by decide⟩
  · rw [hf, hm]
    have hact : actS all i h x n = rackD all i h x := by unfold actS; rw [hk]; rfl
    simp only [hh, hact]
    have hokd := fun l' (ha : 1 ≤ x.Amount) (hl' : rackD all i h x = .inl l') => rack_ok ho h0 hh ha hl'
    have ha := evAmt hv (.inr (.inl hk))
    have hokd := fun l' => hokd l' ha.1
    unfold rackD at hokd ⊢
    simp only [bindX]
    rcases find_prog (num := x.Other) hr (by omega) hb with ⟨hf2, hm2⟩ | ⟨k, ho2, o, hf2, hho, hnum2, hr2, hoc, hos, horaw, hook, hm2⟩
    · rw [hf2, hm2]; exact ⟨rfl, by decide⟩
    · rw [hf2, hm2]
      rw [hf2] at hokd
      simp only [hho] at hokd ⊢
      have hil : i < A1.length := by have := (List.getElem?_eq_some_iff.1 hc).1; simpa using this
      by_cases hik : i = k
      ·
        subst hik
        have hc2 : ((A1.set i c).set i o)[i]? = some o := hoc
        simp only [Option.bind_some, hc2]
        have e1 : (i != i) = false := by simp
        have e2 : (i == i) = true := by simp
        unfold rackD2
        simp only [e1, e2, if_true]
        exact ⟨rfl, by decide⟩
      · have hc2 : ((A1.set i c).set k o)[i]? = some c := by rw [List.getElem?_set_ne (fun e => hik e.symm)]; exact hc
        simp only [Option.bind_some, hc2, hoc]
        have e1 : (i != k) = true := by simpa using hik
        have e2 : (i == k) = false := by simpa using hik
        have hcr := hr2.each i c h hc2 hh
        have hor := hr2.each k o ho2 hoc hho
        have a1 : h.C.Owner = c.owner := by rw [hraw]; rfl
        have a2 : h.C.Creditor = c.creditor := by rw [hraw]; rfl
        have a3 : h.C.Amount = c.amount := by rw [hraw]; rfl
        have b1 : ho2.C.Owner = o.owner := by rw [horaw]; rfl
        have b2 : ho2.C.Creditor = o.creditor := by rw [horaw]; rfl
        have b3 : ho2.C.Amount = o.amount := by rw [horaw]; rfl
        have b4 : ho2.C.Room = o.room := by rw [horaw]; rfl
        have camt := hok.amt
        have croom := hok.room
        have ccred := hok.cred
        have oamt := hook.amt
        have oroom := hook.room
        have ocred := hook.cred
        rw [a2] at ccred; rw [b2] at ocred; rw [b3, b4] at oamt; rw [b4] at oroom; rw [a3] at camt
        unfold rackD2 at hokd ⊢
        rw [a1, a2, a3, b1, b2, b3, b4] at hokd ⊢
        simp only [e1, e2, Bool.false_eq_true, if_false, creq ccred.1, creq ocred.1] at hokd ⊢
        have n11 : m_cask_need false 11 = some (.pan ⟨11⟩) := rfl
        have n0 : ∀ e, m_cask_need true e = some (.ok ()) := fun _ => rfl
        have nf : ∀ e, m_cask_need false e = some (.pan ⟨e⟩) := fun _ => rfl
        by_cases c1 : c.owner = o.owner
        · have f1 : (c.owner == o.owner) = true := by simpa using c1
          have f2 : (c.owner != o.owner) = false := by simpa using c1
          simp only [f1, f2, if_true, Bool.false_or, n0] at hokd ⊢
          by_cases c2 : c.creditor ≥ 0
          · simp only [c2, decide_true, Bool.not_true, Bool.true_or, if_true, Bool.false_eq_true, if_false, nf, Option.bind_some]
            exact ⟨rfl, by decide⟩
          · simp only [c2, decide_false, Bool.not_false, Bool.false_or, if_true] at hokd ⊢
            by_cases c3 : o.creditor ≥ 0
            · simp only [c3, decide_true, Bool.not_true, if_true, nf, Option.bind_some]
              exact ⟨rfl, by decide⟩
            · simp only [c3, decide_false, Bool.not_false, n0, Option.bind_some, Bool.false_eq_true, if_false] at hokd ⊢
              by_cases c4 : c.amount < x.Amount
              · have g1 : decide (c.amount ≥ x.Amount) = false := decide_eq_false (by omega)
                simp only [c4, g1, if_true, nf]
                exact ⟨rfl, by decide⟩
              · have g1 : decide (c.amount ≥ x.Amount) = true := decide_eq_true (by omega)
                simp only [c4, g1, if_false, n0] at hokd ⊢
                have hw : w64 (o.amount + x.Amount) = o.amount + x.Amount := w64_id (by omega) (by omega)
                rw [hw]
                by_cases c5 : o.amount + x.Amount > o.room
                · have g2 : decide (o.amount + x.Amount ≤ o.room) = false := decide_eq_false (by omega)
                  simp only [c5, g2, if_true, nf]
                  exact ⟨rfl, by decide⟩
                · have g2 : decide (o.amount + x.Amount ≤ o.room) = true := decide_eq_true (by omega)
                  simp only [c5, g2, if_false, n0] at hokd ⊢
                  have hnew := hokd _ rfl
                  have hcf := hcr.fills
                  cases hfc : c.fills with
                  | none =>
                    rw [hfc] at hcf
                    exact absurd hcf (hok.some (by rw [a3]; omega))
                  | some j =>
                    rw [hfc] at hcf
                    obtain ⟨lj, hj, hjn, hjF⟩ := hcf
                    obtain ⟨o', A3', hp, hp1, hp2, hp3, hp4, hp5, hp6⟩ := pour_prog (A3 := A3) (j := j) (lj := lj) (so := h) (tm := c.times) (n := x.Amount) hoc horaw (by omega) (by omega) hor.fills (fun hp => by rw [← b3] at hp; exact hook.some hp)
                      hj hjn hjF (fun e => hik (hr2.apart i k c o j hc2 hoc hfc e)) ⟨by rw [hraw]; rfl, by rw [hraw]; rfl, by rw [hraw]; rfl⟩
                    have hc3 : (((A1.set i c).set k o).set k o')[i]? = some c := by rw [List.getElem?_set_ne (fun e => hik e.symm)]; exact hc2
                    rw [hp, Option.bind_some]
                    simp only
                    rw [draw_prog hc3 (by omega) (by omega), Option.bind_some]
                    have hjl : j < A3.length := (List.getElem?_eq_some_iff.1 hj).1
                    have hkall := (List.getElem?_eq_some_iff.1 hho).1
                    have hmem : pourS ho2 h x.Amount ∈ (all.set k (pourS ho2 h x.Amount)).set i (lessS h x.Amount) := List.mem_of_getElem? (i := k) (by rw [List.getElem?_set_ne hik]; exact List.getElem?_set_self hkall)
                    have hho' := hnew.each _ hmem
                    have hlmem : lessS h x.Amount ∈ (all.set k (pourS ho2 h x.Amount)).set i (lessS h x.Amount) := List.mem_of_getElem? (i := i) (List.getElem?_set_self (by simpa using (List.getElem?_eq_some_iff.1 hh).1))
                    have hlok := hnew.each _ hlmem
                    have hpr : PR t (n + 1) (all.set k (pourS ho2 h x.Amount)) (((A1.set i c).set k o).set k o') A3' m := by
                      refine hr2.set hoc hho hp1 ?_ (fun i' ci hi hne h1 h2 => ?_) (fun i' ci q hne h1 h2 h3 => ?_)
                      · rw [hp3]
                        refine CR.of_raw h0 (by rw [hp2]; exact hos) (by rw [← hp3]; exact hho') ?_
                        exact hp4
                      · have hci := (hr2.each i' ci hi h1 h2).up
                        refine ⟨hci.since, hci.ok, hci.eq, hci.fills.keep fun q hq => ?_⟩
                        have hq2 := hci.fills
                        rw [hq] at hq2
                        obtain ⟨lq, g1', _⟩ := hq2
                        rw [g1']
                        exact hp5 q lq g1' (fun e => hne (hr2.apart i' k ci o q h1 hoc hq e))
                      · have hci := (hr2.each i' ci _ h1 (List.getElem?_eq_getElem (show i' < all.length by rw [← hr2.len]; exact (List.getElem?_eq_some_iff.1 h1).1))).fills
                        rw [h2] at hci
                        have hlt := fr_lt hci
                        rcases hp6 with hp6 | hp6
                        · rw [hp6] at h3; exact hne (hr2.apart i' k ci o q h1 hoc h2 h3)
                        · rw [hp6] at h3
                          simp only [Option.some.injEq] at h3
                          omega
                    refine ⟨_, _, _, rfl, ?_⟩
                    have hh3 : (all.set k (pourS ho2 h x.Amount))[i]? = some h := by rw [List.getElem?_set_ne (fun e => hik e.symm)]; exact hh
                    have hcr3 := hpr.each i c h hc3 hh3
                    have hls : lessS h x.Amount = rawOf (drawC c x.Amount) (lessS (rawOf c h.Fills) x.Amount).Fills := by rw [← raw_draw, ← hraw]
                    refine hpr.set hc3 hh3 draw_number ?_ (fun i' ci hi _ h1 h2 => hpr.each i' ci hi h1 h2) (fun i' ci q hne h1 h2 h3 => ?_)
                    · rw [hls]
                      refine CR.of_raw h0 (by rw [draw_since]; exact hs) (by rw [← hls]; exact hlok) (draw_FR hcr3.fills)
                    · rcases draw_fills (c := c) (n := x.Amount) with e | e
                      · rw [e] at h3; exact hne (hpr.apart i' i ci c q h1 hc3 h2 h3)
                      · rw [e] at h3; cases h3
        · have f1 : (c.owner == o.owner) = false := by simpa using c1
          have f2 : (c.owner != o.owner) = true := by simpa using c1
          simp only [f1, f2, if_true, Bool.true_or, Bool.false_eq_true, if_false, n0, nf, Option.bind_some]
          exact ⟨rfl, by decide⟩
end
end Go.Proofs.Ytkedjmhhcekmiaa
end

section
namespace Go.Proofs.Ytkedjmhhcekmiaa
open Go.Dec
theorem Event_prog (x : Ev) : m_cask_isEvent x = some (evB x) := by
  rw [← Event_doc]; rfl
abbrev Deed := ((List CaskCask) × (List CaskBook) × FM × (List (List (Int × (Option Nat)))) × (Option Nat) × Ev) → Option (Out CaskMisfit ((List CaskCask) × FM × (List (List (Int × (Option Nat))))))
theorem deeds_some : ∃ D : List (Int × Deed), m_cask_deeds = some D ∧ ∀ (x : Ev), evB x = true → ∃ f, mapGet D x.Kind = some f ∧
    ∀ {t : Int} {n : Nat} {all : List Held} {A1 : List CaskCask} {A3 : FM} {m : List (Int × Option Nat)} {b : CaskBook}, PR t n all A1 A3 m → AOk t n all → 0 ≤ t → t ≤ 65536 → b.casks = some 0 → b.event = n → x.Day = t → Does t n (doS all x n) (f (A1, [b], A3, [m], some 0, x)) := by
  refine ⟨_, rfl, fun x hv => ?_⟩
  rcases kinds hv with k | k | k | k | k | k | k | k | k <;> rw [k]
  · exact ⟨_, rfl, fun r ho h0 ht hb _ hd => build_prog r ho h0 hb hv k hd⟩
  · exact ⟨_, rfl, fun r ho h0 ht hb hbe hd => fill_prog r ho h0 ht hb hbe hv k hd⟩
  · exact ⟨_, rfl, fun r ho h0 ht hb _ hd => rack_prog r ho h0 ht hb hv k hd⟩
  · exact ⟨_, rfl, fun r _ h0 ht hb _ hd => drain_prog r h0 ht hb hv k hd⟩
  · exact ⟨_, rfl, fun r _ h0 ht hb _ hd => carry_prog r h0 ht hb hv k hd⟩
  · exact ⟨_, rfl, fun r _ h0 ht hb _ hd => sell_prog r h0 ht hb hv k hd⟩
  · exact ⟨_, rfl, fun r _ h0 ht hb _ hd => pledge_prog r h0 ht hb hv k hd⟩
  · exact ⟨_, rfl, fun r _ h0 ht hb _ hd => free_prog r h0 ht hb hv k hd⟩
  · exact ⟨_, rfl, fun r _ h0 ht hb _ hd => char_prog r h0 ht hb hv k hd⟩
section
variable {D : List (Int × Deed)}
def DeedsOK (D : List (Int × Deed)) : Prop := ∀ (x : Ev), evB x = true → ∃ f, mapGet D x.Kind = some f ∧
    ∀ {t : Int} {n : Nat} {all : List Held} {A1 : List CaskCask} {A3 : FM} {m : List (Int × Option Nat)} {b : CaskBook}, PR t n all A1 A3 m → AOk t n all → 0 ≤ t → t ≤ 65536 → b.casks = some 0 → b.event = n → x.Day = t → Does t n (doS all x n) (f (A1, [b], A3, [m], some 0, x))
theorem step_prog (hD : DeedsOK D) {l : List Ev} {day : Int} {n : Nat} {s : Cur} {x : Ev} {A1 : List CaskCask} {A3 : FM} {m : List (Int × Option Nat)} {b : CaskBook} (hx : l[n]? = some x) (hn : n ≤ 4096) (ho : SOk n s) (hr : PR s.last n s.all A1 A3 m) (hb : b.casks = some 0) (hd : x.Day ≤ day) :
    match stepS n s x with
    | .inl s' => ∃ A1' A3' m', b_cask_play_1 l day D ((n : Int), s.last, A1, [b], A3, [m]) = some (.next (((n + 1 : Nat) : Int), s'.last, A1', [⟨some 0, n⟩], A3', [m'])) ∧ PR s'.last (n + 1) s'.all A1' A3' m'
    | .inr e => b_cask_play_1 l day D ((n : Int), s.last, A1, [b], A3, [m]) = some (.done (.inr (⟨e⟩, (n : Int), 0, some 0))) ∧ e ≠ 0 := by
  have hnl : n < l.length := (List.getElem?_eq_some_iff.1 hx).1
  have hw : w64 ((n : Int) + 1) = ((n + 1 : Nat) : Int) := by rw [w64_id (by omega) (by omega)]; rfl
  have h1 : decide ((n : Int) < (l.length : Int)) = true := decide_eq_true (by omega)
  have nt : ∀ e, m_cask_need true e = some (.ok ()) := fun _ => rfl
  have nf : ∀ e, m_cask_need false e = some (.pan ⟨e⟩) := fun _ => rfl
  unfold b_cask_play_1 stepS
  simp only [h1, if_true, idxL_nat, hx, Option.bind_some, hd, decide_true, Event_prog]
  cases hv : evB x with
  | false =>
    simp only [Bool.not_false, if_true, nf, bindX]
    exact ⟨trivial, by decide⟩
  | true =>
    simp only [Bool.not_true, Bool.false_eq_true, if_false, nt, bindX]
    by_cases hlt : x.Day < s.last
    · have e : decide (x.Day ≥ s.last) = false := decide_eq_false (by omega)
      simp only [hlt, e, if_true, nf]
      exact ⟨trivial, by decide⟩
    · have e : decide (x.Day ≥ s.last) = true := decide_eq_true (by omega)
      simp only [hlt, e, if_false, nt]
      have hday := evD hv
      have hsd := ho.day
      obtain ⟨f, hf, hdo⟩ := hD x hv
      have hok := older_all ho.ok (n := x.Day - s.last) (by omega)
      have e0 : s.last + (x.Day - s.last) = x.Day := by omega
      rw [e0] at hok
      have hdoes := hdo (b := ⟨some 0, (n : Int)⟩) (hr.shift (t' := x.Day) (by omega)) hok hday.1 hday.2 rfl rfl rfl
      have hbk : ({ b with event := (n : Int) } : CaskBook) = ⟨some 0, n⟩ := by rw [← hb]
      simp only [List.getElem?_cons_zero, Option.bind_some, bindv, List.set_cons_zero, hbk, hf]
      cases hds : doS (s.all.map (olderS (x.Day - s.last))) x n with
      | inl all' =>
        rw [hds] at hdoes
        obtain ⟨A1', A3', m', h2, h3⟩ := hdoes
        rw [h2]
        simp only [hw]
        exact ⟨A1', A3', m', rfl, h3⟩
      | inr er =>
        rw [hds] at hdoes
        obtain ⟨h2, h3⟩ := hdoes
        rw [h2]
        exact ⟨rfl, h3⟩
theorem stop_prog {l : List Ev} {day : Int} {n : Nat} {last : Int} {A1 : List CaskCask} {A2 : List CaskBook} {A3 : FM} {A4 : List (List (Int × Option Nat))} (h : ∀ x, l[n]? = some x → ¬ x.Day ≤ day) (hn : n ≤ l.length) :
    b_cask_play_1 l day D ((n : Int), last, A1, A2, A3, A4) = some (.done (.inl ((n : Int), A1, A2, A3, A4))) := by
  unfold b_cask_play_1
  cases hx : l[n]? with
  | none =>
    have : ¬ (n : Int) < (l.length : Int) := by
      have := List.getElem?_eq_none_iff.1 hx; omega
    simp [this]
  | some x =>
    have hnl : n < l.length := (List.getElem?_eq_some_iff.1 hx).1
    have h1 : decide ((n : Int) < (l.length : Int)) = true := decide_eq_true (by omega)
    have h2 : decide (x.Day ≤ day) = false := decide_eq_false (h x hx)
    simp only [h1, if_true, idxL_nat, hx, Option.bind_some, h2, Bool.false_eq_true, if_false]
theorem loop_prog (hD : DeedsOK D) {l : List Ev} {day : Int} (hl : l.length ≤ 4096) : ∀ (post pre : List Ev) (s : Cur) (A1 : List CaskCask) (A3 : FM) (m : List (Int × Option Nat)) (b : CaskBook), l = pre ++ post → SOk pre.length s → PR s.last pre.length s.all A1 A3 m → b.casks = some 0 →
    match goS day post pre.length s with
    | (.inl s', k) => ∃ A1' A3' m' b', loopM (b_cask_play_1 l day D) ((pre.length : Int), s.last, A1, [b], A3, [m]) = some (.inl ((k : Int), A1', [b'], A3', [m'])) ∧ PR s'.last k s'.all A1' A3' m' ∧ b'.casks = some 0
    | (.inr e, k) => loopM (b_cask_play_1 l day D) ((pre.length : Int), s.last, A1, [b], A3, [m]) = some (.inr (⟨e⟩, (k : Int), 0, some 0)) ∧ e ≠ 0
  | [], pre, s, A1, A3, m, b, e, ho, hr, hb => by
    simp only [goS]
    refine ⟨A1, A3, m, b, ?_, hr, hb⟩
    rw [loopM_eq, stop_prog (fun x hx => by rw [e] at hx; simp at hx) (by rw [e]; simp)]
  | x :: post, pre, s, A1, A3, m, b, e, ho, hr, hb => by
    have hx : l[pre.length]? = some x := getEl_mid e
    have hn : pre.length ≤ 4096 := by have := lt_mid e; omega
    rw [loopM_eq]
    by_cases hd : x.Day ≤ day
    · have hst := step_prog hD hx hn ho hr hb hd
      simp only [goS, hd, if_true]
      cases hs : stepS pre.length s x with
      | inl s' =>
        rw [hs] at hst
        obtain ⟨A1', A3', m', h1, h2⟩ := hst
        rw [h1]
        have ih := loop_prog hD (day := day) hl post (pre ++ [x]) s' A1' A3' m' ⟨some 0, (pre.length : Int)⟩ (by rw [e]; simp) (by simpa using (step_ok ho hs).1) (by simpa using h2) rfl
        simpa using ih
      | inr er =>
        rw [hs] at hst
        rw [hst.1]
        exact ⟨rfl, hst.2⟩
    · rw [stop_prog (fun y hy => by rw [hx] at hy; cases hy; exact hd) (by have := lt_mid e; omega)]
      simp only [goS, hd, if_false]
      exact ⟨A1, A3, m, b, rfl, hr, hb⟩
end
end Go.Proofs.Ytkedjmhhcekmiaa
end

section
namespace Go.Proofs.Ytkedjmhhcekmiaa
open Go.Dec
section
variable {t day : Int} {n : Nat} {all : List Held} {A1 : List CaskCask} {A3 : FM} {m : List (Int × Option Nat)}
theorem forL_rest (hday : day ≤ 1000000) (hok : ∀ (k : Nat) (c : CaskCask), A1[k]? = some c → 0 ≤ c.since ∧ c.since ≤ day ∧ ∃ F, HOk c.since n (rawOf c F)) : ∀ (L : List (Int × Option Nat)) (s : List CaskCask), (∀ e ∈ L, ∃ k, e.2 = some k ∧ k < A1.length) → (L.map Prod.snd).Nodup → s.length = A1.length → (∀ k, some k ∈ L.map Prod.snd → s[k]? = A1[k]?) →
    ∃ s', forL (b_cask_play_2 day) L s = some s' ∧ s'.length = A1.length ∧ ∀ i : Nat, s'[i]? = if some i ∈ L.map Prod.snd then (A1[i]?).map (restC day) else s[i]?
  | [], s, _, _, hl, _ => ⟨s, rfl, hl, fun i => by simp⟩
  | e :: L, s, hE, hN, hl, hs => by
    obtain ⟨k, hk, hkl⟩ := hE e (by simp)
    have hN' : some k ∉ L.map Prod.snd ∧ (L.map Prod.snd).Nodup := by
      have := List.nodup_cons.1 hN
      rw [hk] at this; exact this
    have hc : A1[k]? = some A1[k] := List.getElem?_eq_getElem hkl
    have hsk : s[k]? = some A1[k] := by rw [hs k (by simp [hk])]; exact hc
    obtain ⟨h0, h1, F, hF⟩ := hok k _ hc
    have hb : b_cask_play_2 day e s = some (s.set k (restC day A1[k])) := by
      unfold b_cask_play_2
      rw [hk, rest_prog hsk hF h0 h1 hday]
      rfl
    obtain ⟨s', g1, g2, g3⟩ := forL_rest hday hok L (s.set k (restC day A1[k])) (fun e' he' => hE e' (List.mem_cons_of_mem _ he')) hN'.2 (by simpa using hl) (fun k' hk' => by
      have hne : k ≠ k' := fun e' => hN'.1 (by rw [e']; exact hk')
      rw [List.getElem?_set_ne hne]
      exact hs k' (by rw [List.map_cons]; exact List.mem_cons_of_mem _ hk'))
    refine ⟨s', by simp only [forL, hb, Option.bind_some]; exact g1, g2, fun i => ?_⟩
    rw [g3 i]
    by_cases hi : some i ∈ L.map Prod.snd
    · rw [if_pos hi, if_pos (by rw [List.map_cons]; exact List.mem_cons_of_mem _ hi)]
    · rw [if_neg hi]
      by_cases e' : k = i
      · subst e'
        rw [List.getElem?_set_self (by rw [hl]; exact hkl), if_pos (by simp [hk]), hc]
        rfl
      · rw [List.getElem?_set_ne e', if_neg]
        rw [List.map_cons, List.mem_cons, hk]
        rintro (h | h)
        · exact e' (by simpa using h.symm)
        · exact hi h
theorem rest_all (r : PR t n all A1 A3 m) (hd : t ≤ day) (hday : day ≤ 65536) : permM (b_cask_play_2 day) m A1 = some (A1.map (restC day)) ∧ PR day n (all.map (olderS (day - t))) (A1.map (restC day)) A3 m ∧ ∀ c ∈ A1.map (restC day), c.since = day := by
  have hlook : ∀ (k : Nat) (c : CaskCask), A1[k]? = some c → ∃ h, all[k]? = some h ∧ CR t n A3 c h := fun k c hc => by
    have hk : k < all.length := by rw [← r.len]; exact (List.getElem?_eq_some_iff.1 hc).1
    exact ⟨all[k], List.getElem?_eq_getElem hk, r.each k c _ hc (List.getElem?_eq_getElem hk)⟩
  have hsnd : m.map Prod.snd = (List.range A1.length).map some := by
    rw [r.map]
    apply List.ext_getElem?
    intro i
    simp only [List.getElem?_map, List.getElem?_mapIdx]
    by_cases h : i < A1.length
    · simp [h]
    · simp [h]
  refine ⟨permM_of fun l' hl' => ?_, ⟨by simp [r.len], fun k c h hc hh => ?_, ?_, fun i j ci cj q h1 h2 h3 h4 => ?_⟩, fun c hc => ?_⟩
  · have hp := hl'.map Prod.snd
    have hmem : ∀ o, o ∈ l'.map Prod.snd ↔ ∃ i, i < A1.length ∧ o = some i := fun o => by
      rw [hp.mem_iff, hsnd]
      simp only [List.mem_map, List.mem_range]
      exact ⟨fun ⟨i, h1, h2⟩ => ⟨i, h1, h2.symm⟩, fun ⟨i, h1, h2⟩ => ⟨i, h1, h2.symm⟩⟩
    obtain ⟨s', g1, g2, g3⟩ := forL_rest (day := day) (A1 := A1) (n := n) (by omega) (fun k c hc => by
      obtain ⟨h, _, hcr⟩ := hlook k c hc
      exact ⟨hcr.since.1, by have := hcr.since.2; omega, _, hcr.ok⟩) l' A1 (fun e he => by
        obtain ⟨i, h1, h2⟩ := (hmem e.2).1 (List.mem_map_of_mem he)
        exact ⟨i, h2, h1⟩) (hp.nodup_iff.2 (by rw [hsnd]; exact List.nodup_range.map _ (fun a b hab e => hab (by simpa using e)))) rfl (fun _ _ => rfl)
    rw [g1]
    congr 1
    apply List.ext_getElem?
    intro i
    rw [g3 i, List.getElem?_map]
    by_cases h : i < A1.length
    · rw [if_pos ((hmem _).2 ⟨i, h, rfl⟩)]
    · rw [if_neg (fun h' => by
        obtain ⟨i', h1, h2⟩ := (hmem _).1 h'
        simp only [Option.some.injEq] at h2
        omega), List.getElem?_eq_none (by omega)]
      rfl
  · rw [List.getElem?_map] at hc hh
    cases h1 : A1[k]? with
    | none => rw [h1] at hc; cases hc
    | some c0 =>
      obtain ⟨h0, h2, hcr⟩ := hlook k c0 h1
      rw [h1] at hc; rw [h2] at hh
      simp only [Option.map_some, Option.some.injEq] at hc hh
      subst hc; subst hh
      exact (hcr.shift hd).rest
  · rw [r.map]
    apply List.ext_getElem?
    intro i
    simp only [List.getElem?_mapIdx, List.getElem?_map]
    cases A1[i]? with
    | none => rfl
    | some c => simp [rest_number]
  · rw [List.getElem?_map] at h1 h2
    cases g1 : A1[i]? with
    | none => rw [g1] at h1; cases h1
    | some c1 =>
      cases g2 : A1[j]? with
      | none => rw [g2] at h2; cases h2
      | some c2 =>
        rw [g1] at h1; rw [g2] at h2
        simp only [Option.map_some, Option.some.injEq] at h1 h2
        subst h1; subst h2
        rw [rest_fillsC] at h3 h4
        exact r.apart i j c1 c2 q g1 g2 h3 h4
  · obtain ⟨c0, _, rfl⟩ := List.mem_map.1 hc
    exact rest_since
end
theorem PR.start : PR 0 0 [] [] [] [] := ⟨rfl, fun _ _ _ h => by simp at h, rfl, fun _ _ _ _ _ h => by simp at h⟩
def PlayOK (day : Int) (r : (List Held ⊕ Int) × Nat) (o : Option ((Option Nat) × Int × Int × (List CaskCask) × (List CaskBook) × FM × (List (List (Int × Option Nat))))) : Prop := match r with
  | (.inl all, k) => ∃ A1 b A3 m, o = some (some 0, (k : Int), 0, A1, [b], A3, [m]) ∧ b.casks = some 0 ∧ PR day k all A1 A3 m ∧ (∀ c ∈ A1, c.since = day) ∧ AOk day k all ∧ k ≤ 4096 ∧ 0 ≤ day ∧ day ≤ 65536
  | (.inr e, k) => o = some (none, (k : Int), e, [], [], [], []) ∧ e ≠ 0
theorem play_prog (l : List Ev) (day : Int) : PlayOK day (playS l day) (m_cask_play l day) := by
  obtain ⟨D, hD, hOK⟩ := deeds_some
  unfold m_cask_play playS
  by_cases hl : l.length > 4096
  · have : decide ((l.length : Int) > 4096) = true := decide_eq_true (by omega)
    simp only [this, hl, if_true]
    exact ⟨rfl, by decide⟩
  · have : decide ((l.length : Int) > 4096) = false := decide_eq_false (by omega)
    simp only [this, hl, if_false, Bool.false_eq_true]
    have e : m_cask_within day 0 65536 = inB day 0 65536 := rfl
    rw [e]
    cases hb : inB day 0 65536 with
    | false => exact ⟨rfl, by decide⟩
    | true =>
      have hday := inB_iff.1 hb
      simp only [Bool.not_true, Bool.false_eq_true, if_false, bindv, hD, Option.bind_some, List.nil_append]
      have hloop := loop_prog (D := D) hOK (l := l) (day := day) (by omega) l [] ⟨[], 0⟩ [] [] [] ⟨some 0, 0⟩ rfl SOk.start PR.start rfl
      unfold runS
      cases hg : goS day l 0 ⟨[], 0⟩ with
      | mk r k =>
        have hg' : goS day l ([] : List Ev).length ⟨[], 0⟩ = (r, k) := hg
        rw [hg'] at hloop
        cases r with
        | inl s' =>
          obtain ⟨A1', A3', m', b', h1, h2, h3⟩ := hloop
          obtain ⟨g1, g2, g3, g4⟩ := go_ok l 0 ⟨[], 0⟩ s' k SOk.start (by show (0:Int) ≤ day; omega) hg
          have h1' : loopM (b_cask_play_1 l day D) (0, 0, [], [⟨some 0, 0⟩], [], [[]]) = _ := h1
          obtain ⟨p1, p2, p3⟩ := rest_all h2 g2 hday.2
          have hok := older_all g1.ok (n := day - s'.last) (by omega)
          rw [show s'.last + (day - s'.last) = day by omega] at hok
          refine ⟨A1'.map (restC day), b', A3', m', ?_, h3, p2, p3, hok, by omega, hday.1, hday.2⟩
          rw [h1', Option.bind_some]
          simp only [List.getElem?_cons_zero, Option.bind_some, h3, p1]
        | inr er =>
          have h1' : loopM (b_cask_play_1 l day D) (0, 0, [], [⟨some 0, 0⟩], [], [[]]) = _ := hloop.1
          refine ⟨?_, hloop.2⟩
          rw [h1', Option.bind_some]
end Go.Proofs.Ytkedjmhhcekmiaa
end

section
namespace Go.Proofs.Ytkedjmhhcekmiaa
open Go.Dec Go.Shelf Go.RowKit Go.Maps Go.Sort
noncomputable def m_wormtublaw06_awake  : Option Bool :=
 (m_wormtublaw06_sample).bind fun r_3 => (m_cask_At r_3 2 140).bind fun r_10 => (m_cask_At r_3 2 200).bind fun r_14 => (m_cask_Sources r_3 2 200).bind fun r_18 => (appO r_3 ([(ApiCaskEvent.mk 3 200 2 0 0 0 10 0)])).bind fun l_27 => (m_cask_Play l_27 200).bind fun r_37 => (m_cask_Owned r_3 30 200).bind fun r_43 => if ((((((((((((r_10.1.Amount != 150) || (r_10.1.Age != 140)) || ((r_10.1.Woods 2) != 100)) || ((r_10.1.Woods 3) != 40)) || ((r_10.1.Places 1) != 40)) || (r_10.1.Creditor != (-1))) || (r_10.2 != 0)) || (r_14.1.Amount != 200)) || (r_14.1.Age != 50)) || ((r_14.1.Woods 2) != 0)) || (r_14.1.Creditor != 30)) || (r_14.2 != 0)) then (some false) else ((m_wormtubref06_Ints r_18.1 ([2, 5])).bind fun r_102 => (if ((((r_102 && (r_18.2 == 0)) && (r_37.2.1 == 7)) && (r_37.2.2 == 11)) && ((r_43.1.length : Int) == 0)) then ((m_wormtubref06_Ints r_43.2.1 ([2])).bind fun r_127 => some r_127) else some false).bind fun z131 => some (z131 && (r_43.2.2 == 0)))
theorem c_wormtublaw06_awake (F0 : Fz)  : CT0 Try.prog 11 [].toArray F0 (m_wormtublaw06_awake) (fun r _ v => v = (.bool r)) := by
 refine CT0.enter Try.func11 rfl Try.ntmps11 rfl fun r R => ?_
 unfold m_wormtublaw06_awake
 refine .seq ?_
 refine .region ?_
 refine .assign rfl rfl ?_
 refine .nil ?_
 refine .code ?_
 refine .seq ?_
 refine .region ?_
 refine .call0 rfl Try.call23 rfl rfl rfl (c_wormtublaw06_sample _ ) ?_
 rintro r_3 F_1 _ - l_2 ⟨p4, k5, rfl, h6, hf7⟩
 refine .assign rfl rfl ?_
 refine .nil ?_
 refine .code ?_
 refine .seq ?_
 refine .region ?_
 refine .move rfl rfl ?_
 refine .call0 rfl Try.call14 rfl rfl rfl (c_cask_At _ r_3 p4 k5 h6 2 140) ?_
 rintro r_10 F_8 _ - l_9 rfl
 refine .move rfl rfl ?_
 refine .extract rfl rfl rfl ?_
 refine .extract rfl rfl rfl ?_
 refine .alloc (cs := (cApiCask (ApiCask.mk 0 0 0 0 0 0 0 0 (fun _ => 0) (fun _ => 0)))) rfl Try.zeroValue31 rfl (fun b11 => ?_)
 refine .store (cs' := (cApiCask r_10.1)) Try.sizeOf31 rfl rfl rfl rfl (i := 0) rfl (Nat.le_of_ble_eq_true rfl) rfl (setMany_all (by rfl)) ?_
 refine .assign rfl rfl ?_
 refine .nil ?_
 refine .code ?_
 refine .seq ?_
 refine .region ?_
 refine .move rfl rfl ?_
 refine .call0 rfl Try.call14 rfl rfl rfl (c_cask_At _ r_3 p4 k5 (h6.mono l_9) 2 200) ?_
 rintro r_14 F_12 _ - l_13 rfl
 refine .move rfl rfl ?_
 refine .extract rfl rfl rfl ?_
 refine .extract rfl rfl rfl ?_
 refine .alloc (cs := (cApiCask (ApiCask.mk 0 0 0 0 0 0 0 0 (fun _ => 0) (fun _ => 0)))) rfl Try.zeroValue31 rfl (fun b15 => ?_)
 refine .store (cs' := (cApiCask r_14.1)) Try.sizeOf31 rfl rfl rfl rfl (i := 0) rfl (Nat.le_of_ble_eq_true rfl) rfl (setMany_all (by rfl)) ?_
 refine .assign rfl rfl ?_
 refine .nil ?_
 refine .code ?_
 refine .seq ?_
 refine .region ?_
 refine .move rfl rfl ?_
 refine .call0 rfl Try.call19 rfl rfl rfl (c_cask_Sources _ r_3 p4 k5 (h6.mono (Fz.le_trans l_9 l_13)) 2 200) ?_
 rintro r_18 F_16 _ - l_17 ⟨p19, k20, rfl, h21⟩
 refine .move rfl rfl ?_
 refine .extract rfl rfl rfl ?_
 refine .extract rfl rfl rfl ?_
 refine .assign rfl rfl ?_
 refine .assign rfl rfl ?_
 refine .nil ?_
 refine .code ?_
 refine .seq ?_
 refine .region ?_
 refine .move rfl rfl ?_
 refine .build (cs := (cApiCaskEvent (ApiCaskEvent.mk 3 200 2 0 0 0 10 0)).toArray) rfl Try.underlying45 Try.zeroValue45 (plApiCaskEvent _ Try.underlying45) rfl rfl (by kernel_rfl) ?_
 refine .sliceLit (cs := [.int .i64 (ApiCaskEvent.mk 3 200 2 0 0 0 10 0).Kind, .int .i64 (ApiCaskEvent.mk 3 200 2 0 0 0 10 0).Day, .int .i64 (ApiCaskEvent.mk 3 200 2 0 0 0 10 0).Cask, .int .i64 (ApiCaskEvent.mk 3 200 2 0 0 0 10 0).Other, .int .i64 (ApiCaskEvent.mk 3 200 2 0 0 0 10 0).Person, .int .i64 (ApiCaskEvent.mk 3 200 2 0 0 0 10 0).To, .int .i64 (ApiCaskEvent.mk 3 200 2 0 0 0 10 0).Amount, .int .i64 (ApiCaskEvent.mk 3 200 2 0 0 0 10 0).Where]) (zc := [.int .i64 (ApiCaskEvent.mk 0 0 0 0 0 0 0 0).Kind, .int .i64 (ApiCaskEvent.mk 0 0 0 0 0 0 0 0).Day, .int .i64 (ApiCaskEvent.mk 0 0 0 0 0 0 0 0).Cask, .int .i64 (ApiCaskEvent.mk 0 0 0 0 0 0 0 0).Other, .int .i64 (ApiCaskEvent.mk 0 0 0 0 0 0 0 0).Person, .int .i64 (ApiCaskEvent.mk 0 0 0 0 0 0 0 0).To, .int .i64 (ApiCaskEvent.mk 0 0 0 0 0 0 0 0).Amount, .int .i64 (ApiCaskEvent.mk 0 0 0 0 0 0 0 0).Where]) rfl Try.underlying22 Try.sizeOf45 Try.zeroValue45 rfl rfl rfl (by kernel_rfl) (by kernel_rfl) (fun b22 F_23 l_24 hb25 => ?_)
 have h26 : RepSl 8 (Ex cApiCaskEvent) F_23 (some ⟨b22, 0, none⟩) 1 ([(ApiCaskEvent.mk 3 200 2 0 0 0 10 0)]) := RepSl.ofRow hb25 (.cons ok_t45.mono rfl .nil) rfl rfl
 refine .appendF ok_t45 rfl Try.underlying22 Try.underlying22 rfl rfl (h6.mono (Fz.le_trans l_9 (Fz.le_trans l_13 (Fz.le_trans l_17 l_24)))) h26 (by rw [hf7]; exact Nat.lt_add_of_pos_right (by decide)) rfl rfl (fun l_27 p28 k29 e30 => ?_)
 refine .freezeSl 0 rfl (Fz.le_refl _) (fun F_32 l_33 h34 => ?_)
 refine .call0 rfl Try.call12 rfl rfl rfl (c_cask_Play _ l_27 p28 k29 h34 200) ?_
 rintro r_37 F_35 _ - l_36 ⟨p38, k39, rfl, h40⟩
 refine .move rfl rfl ?_
 refine .extract rfl rfl rfl ?_
 refine .extract rfl rfl rfl ?_
 refine .extract rfl rfl rfl ?_
 refine .assign rfl rfl ?_
 refine .assign rfl rfl ?_
 refine .assign rfl rfl ?_
 refine .nil ?_
 refine .keep (.cons (k := 1) rfl (.cons (k := 2) rfl (.cons (k := 3) rfl (.cons (k := 4) rfl (.cons (k := 5) rfl (.cons (k := 6) rfl (.cons (k := 7) rfl (.cons (k := 9) rfl (.cons (k := 10) rfl (.nil _)))))))))) ?_
 refine .code ?_
 refine .seq ?_
 refine .region ?_
 refine .move rfl rfl ?_
 refine .call0 rfl Try.call17 rfl rfl rfl (c_cask_Owned _ r_3 p4 k5 (h6.mono (Fz.le_trans l_9 (Fz.le_trans l_13 (Fz.le_trans l_17 (Fz.le_trans l_24 (Fz.le_trans l_33 l_36)))))) 30 200) ?_
 rintro r_43 F_41 _ - l_42 ⟨p44, k45, p47, k48, rfl, h46, h49⟩
 refine .move rfl rfl ?_
 refine .extract rfl rfl rfl ?_
 refine .extract rfl rfl rfl ?_
 refine .extract rfl rfl rfl ?_
 refine .assign rfl rfl ?_
 refine .assign rfl rfl ?_
 refine .assign rfl rfl ?_
 refine .nil ?_
 refine .code ?_
 refine .seq ?_
 refine .seq ?_
 refine .region ?_
 refine .fieldAddr rfl Try.underlying31 rfl Try.sizeOf3 rfl ?_
 refine .loadO rfl Try.isAgg3 rfl (i := 1) rfl rfl ?_
 refine .neq rfl rfl rfl ?_
 refine .move rfl rfl ?_
 refine .orP (b := (r_10.1.Amount != 150)) (b' := (r_10.1.Age != 140)) 4 52 (fun hb50 => ?_) (fun hb51 => ?_) (fun F_52 l_53 => ?_)
 ·skip
  refine .onH hb50 rfl rfl ?_
  refine .fieldAddr rfl Try.underlying31 rfl Try.sizeOf3 rfl ?_
  refine .onH hb50 rfl rfl ?_
  refine .loadO rfl Try.isAgg3 rfl (i := 1) rfl rfl ?_
  refine .onH hb50 rfl rfl ?_
  refine .neq rfl rfl rfl ?_
  refine .pickFH hb50 rfl rfl rfl ?_
  exact .fin 4 rfl rfl (by kernel_rfl) (Fz.le_refl _)
 ·skip
  refine .offH hb51 rfl rfl rfl ?_
  refine .offH hb51 rfl rfl rfl ?_
  refine .offH hb51 rfl rfl rfl ?_
  refine .pickTH hb51 rfl rfl rfl ?_
  exact .fin 4 rfl rfl (by kernel_rfl) (Fz.le_refl _)
 refine .move rfl rfl ?_
 refine .orP (b := ((r_10.1.Amount != 150) || (r_10.1.Age != 140))) (b' := ((r_10.1.Woods 2) != 100)) 5 58 (fun hb54 => ?_) (fun hb55 => ?_) (fun F_56 l_57 => ?_)
 ·skip
  refine .onH hb54 rfl rfl ?_
  refine .fieldAddr rfl Try.underlying31 rfl Try.sizeOf29 rfl ?_
  refine .onH hb54 rfl rfl ?_
  refine .indexAddrA rfl Try.underlying29 Try.sizeOf3 rfl rfl (j := 2) rfl ?_
  refine .onH hb54 rfl rfl ?_
  refine .loadO rfl Try.isAgg3 rfl (i := 1) rfl rfl ?_
  refine .onH hb54 rfl rfl ?_
  refine .neq rfl rfl rfl ?_
  refine .pickFH hb54 rfl rfl rfl ?_
  exact .fin 5 rfl rfl (by kernel_rfl) (Fz.le_refl _)
 ·skip
  refine .offH hb55 rfl rfl rfl ?_
  refine .offH hb55 rfl rfl rfl ?_
  refine .offH hb55 rfl rfl rfl ?_
  refine .offH hb55 rfl rfl rfl ?_
  refine .pickTH hb55 rfl rfl rfl ?_
  exact .fin 5 rfl rfl (by kernel_rfl) (Fz.le_refl _)
 refine .move rfl rfl ?_
 refine .orP (b := (((r_10.1.Amount != 150) || (r_10.1.Age != 140)) || ((r_10.1.Woods 2) != 100))) (b' := ((r_10.1.Woods 3) != 40)) 5 64 (fun hb58 => ?_) (fun hb59 => ?_) (fun F_60 l_61 => ?_)
 ·skip
  refine .onH hb58 rfl rfl ?_
  refine .fieldAddr rfl Try.underlying31 rfl Try.sizeOf29 rfl ?_
  refine .onH hb58 rfl rfl ?_
  refine .indexAddrA rfl Try.underlying29 Try.sizeOf3 rfl rfl (j := 3) rfl ?_
  refine .onH hb58 rfl rfl ?_
  refine .loadO rfl Try.isAgg3 rfl (i := 1) rfl rfl ?_
  refine .onH hb58 rfl rfl ?_
  refine .neq rfl rfl rfl ?_
  refine .pickFH hb58 rfl rfl rfl ?_
  exact .fin 5 rfl rfl (by kernel_rfl) (Fz.le_refl _)
 ·skip
  refine .offH hb59 rfl rfl rfl ?_
  refine .offH hb59 rfl rfl rfl ?_
  refine .offH hb59 rfl rfl rfl ?_
  refine .offH hb59 rfl rfl rfl ?_
  refine .pickTH hb59 rfl rfl rfl ?_
  exact .fin 5 rfl rfl (by kernel_rfl) (Fz.le_refl _)
 refine .move rfl rfl ?_
 refine .orP (b := ((((r_10.1.Amount != 150) || (r_10.1.Age != 140)) || ((r_10.1.Woods 2) != 100)) || ((r_10.1.Woods 3) != 40))) (b' := ((r_10.1.Places 1) != 40)) 5 70 (fun hb62 => ?_) (fun hb63 => ?_) (fun F_64 l_65 => ?_)
 ·skip
  refine .onH hb62 rfl rfl ?_
  refine .fieldAddr rfl Try.underlying31 rfl Try.sizeOf29 rfl ?_
  refine .onH hb62 rfl rfl ?_
  refine .indexAddrA rfl Try.underlying29 Try.sizeOf3 rfl rfl (j := 1) rfl ?_
  refine .onH hb62 rfl rfl ?_
  refine .loadO rfl Try.isAgg3 rfl (i := 1) rfl rfl ?_
  refine .onH hb62 rfl rfl ?_
  refine .neq rfl rfl rfl ?_
  refine .pickFH hb62 rfl rfl rfl ?_
  exact .fin 5 rfl rfl (by kernel_rfl) (Fz.le_refl _)
 ·skip
  refine .offH hb63 rfl rfl rfl ?_
  refine .offH hb63 rfl rfl rfl ?_
  refine .offH hb63 rfl rfl rfl ?_
  refine .offH hb63 rfl rfl rfl ?_
  refine .pickTH hb63 rfl rfl rfl ?_
  exact .fin 5 rfl rfl (by kernel_rfl) (Fz.le_refl _)
 refine .move rfl rfl ?_
 refine .orP (b := (((((r_10.1.Amount != 150) || (r_10.1.Age != 140)) || ((r_10.1.Woods 2) != 100)) || ((r_10.1.Woods 3) != 40)) || ((r_10.1.Places 1) != 40))) (b' := (r_10.1.Creditor != (-1))) 4 75 (fun hb66 => ?_) (fun hb67 => ?_) (fun F_68 l_69 => ?_)
 ·skip
  refine .onH hb66 rfl rfl ?_
  refine .fieldAddr rfl Try.underlying31 rfl Try.sizeOf3 rfl ?_
  refine .onH hb66 rfl rfl ?_
  refine .loadO rfl Try.isAgg3 rfl (i := 1) rfl rfl ?_
  refine .onH hb66 rfl rfl ?_
  refine .neq rfl rfl rfl ?_
  refine .pickFH hb66 rfl rfl rfl ?_
  exact .fin 4 rfl rfl (by kernel_rfl) (Fz.le_refl _)
 ·skip
  refine .offH hb67 rfl rfl rfl ?_
  refine .offH hb67 rfl rfl rfl ?_
  refine .offH hb67 rfl rfl rfl ?_
  refine .pickTH hb67 rfl rfl rfl ?_
  exact .fin 4 rfl rfl (by kernel_rfl) (Fz.le_refl _)
 refine .move rfl rfl ?_
 refine .orP (b := ((((((r_10.1.Amount != 150) || (r_10.1.Age != 140)) || ((r_10.1.Woods 2) != 100)) || ((r_10.1.Woods 3) != 40)) || ((r_10.1.Places 1) != 40)) || (r_10.1.Creditor != (-1)))) (b' := (r_10.2 != 0)) 3 79 (fun hb70 => ?_) (fun hb71 => ?_) (fun F_72 l_73 => ?_)
 ·skip
  refine .onH hb70 rfl rfl ?_
  refine .move rfl rfl ?_
  refine .onH hb70 rfl rfl ?_
  refine .neq rfl rfl rfl ?_
  refine .pickFH hb70 rfl rfl rfl ?_
  exact .fin 3 rfl rfl (by kernel_rfl) (Fz.le_refl _)
 ·skip
  refine .offH hb71 rfl rfl rfl ?_
  refine .offH hb71 rfl rfl rfl ?_
  refine .pickTH hb71 rfl rfl rfl ?_
  exact .fin 3 rfl rfl (by kernel_rfl) (Fz.le_refl _)
 refine .move rfl rfl ?_
 refine .orP (b := (((((((r_10.1.Amount != 150) || (r_10.1.Age != 140)) || ((r_10.1.Woods 2) != 100)) || ((r_10.1.Woods 3) != 40)) || ((r_10.1.Places 1) != 40)) || (r_10.1.Creditor != (-1))) || (r_10.2 != 0))) (b' := (r_14.1.Amount != 200)) 4 84 (fun hb74 => ?_) (fun hb75 => ?_) (fun F_76 l_77 => ?_)
 ·skip
  refine .onH hb74 rfl rfl ?_
  refine .fieldAddr rfl Try.underlying31 rfl Try.sizeOf3 rfl ?_
  refine .onH hb74 rfl rfl ?_
  refine .loadO rfl Try.isAgg3 rfl (i := 0) rfl rfl ?_
  refine .onH hb74 rfl rfl ?_
  refine .neq rfl rfl rfl ?_
  refine .pickFH hb74 rfl rfl rfl ?_
  exact .fin 4 rfl rfl (by kernel_rfl) (Fz.le_refl _)
 ·skip
  refine .offH hb75 rfl rfl rfl ?_
  refine .offH hb75 rfl rfl rfl ?_
  refine .offH hb75 rfl rfl rfl ?_
  refine .pickTH hb75 rfl rfl rfl ?_
  exact .fin 4 rfl rfl (by kernel_rfl) (Fz.le_refl _)
 refine .move rfl rfl ?_
 refine .orP (b := ((((((((r_10.1.Amount != 150) || (r_10.1.Age != 140)) || ((r_10.1.Woods 2) != 100)) || ((r_10.1.Woods 3) != 40)) || ((r_10.1.Places 1) != 40)) || (r_10.1.Creditor != (-1))) || (r_10.2 != 0)) || (r_14.1.Amount != 200))) (b' := (r_14.1.Age != 50)) 4 89 (fun hb78 => ?_) (fun hb79 => ?_) (fun F_80 l_81 => ?_)
 ·skip
  refine .onH hb78 rfl rfl ?_
  refine .fieldAddr rfl Try.underlying31 rfl Try.sizeOf3 rfl ?_
  refine .onH hb78 rfl rfl ?_
  refine .loadO rfl Try.isAgg3 rfl (i := 0) rfl rfl ?_
  refine .onH hb78 rfl rfl ?_
  refine .neq rfl rfl rfl ?_
  refine .pickFH hb78 rfl rfl rfl ?_
  exact .fin 4 rfl rfl (by kernel_rfl) (Fz.le_refl _)
 ·skip
  refine .offH hb79 rfl rfl rfl ?_
  refine .offH hb79 rfl rfl rfl ?_
  refine .offH hb79 rfl rfl rfl ?_
  refine .pickTH hb79 rfl rfl rfl ?_
  exact .fin 4 rfl rfl (by kernel_rfl) (Fz.le_refl _)
 refine .move rfl rfl ?_
 refine .orP (b := (((((((((r_10.1.Amount != 150) || (r_10.1.Age != 140)) || ((r_10.1.Woods 2) != 100)) || ((r_10.1.Woods 3) != 40)) || ((r_10.1.Places 1) != 40)) || (r_10.1.Creditor != (-1))) || (r_10.2 != 0)) || (r_14.1.Amount != 200)) || (r_14.1.Age != 50))) (b' := ((r_14.1.Woods 2) != 0)) 5 95 (fun hb82 => ?_) (fun hb83 => ?_) (fun F_84 l_85 => ?_)
 ·skip
  refine .onH hb82 rfl rfl ?_
  refine .fieldAddr rfl Try.underlying31 rfl Try.sizeOf29 rfl ?_
  refine .onH hb82 rfl rfl ?_
  refine .indexAddrA rfl Try.underlying29 Try.sizeOf3 rfl rfl (j := 2) rfl ?_
  refine .onH hb82 rfl rfl ?_
  refine .loadO rfl Try.isAgg3 rfl (i := 0) rfl rfl ?_
  refine .onH hb82 rfl rfl ?_
  refine .neq rfl rfl rfl ?_
  refine .pickFH hb82 rfl rfl rfl ?_
  exact .fin 5 rfl rfl (by kernel_rfl) (Fz.le_refl _)
 ·skip
  refine .offH hb83 rfl rfl rfl ?_
  refine .offH hb83 rfl rfl rfl ?_
  refine .offH hb83 rfl rfl rfl ?_
  refine .offH hb83 rfl rfl rfl ?_
  refine .pickTH hb83 rfl rfl rfl ?_
  exact .fin 5 rfl rfl (by kernel_rfl) (Fz.le_refl _)
 refine .move rfl rfl ?_
 refine .orP (b := ((((((((((r_10.1.Amount != 150) || (r_10.1.Age != 140)) || ((r_10.1.Woods 2) != 100)) || ((r_10.1.Woods 3) != 40)) || ((r_10.1.Places 1) != 40)) || (r_10.1.Creditor != (-1))) || (r_10.2 != 0)) || (r_14.1.Amount != 200)) || (r_14.1.Age != 50)) || ((r_14.1.Woods 2) != 0))) (b' := (r_14.1.Creditor != 30)) 4 100 (fun hb86 => ?_) (fun hb87 => ?_) (fun F_88 l_89 => ?_)
 ·skip
  refine .onH hb86 rfl rfl ?_
  refine .fieldAddr rfl Try.underlying31 rfl Try.sizeOf3 rfl ?_
  refine .onH hb86 rfl rfl ?_
  refine .loadO rfl Try.isAgg3 rfl (i := 0) rfl rfl ?_
  refine .onH hb86 rfl rfl ?_
  refine .neq rfl rfl rfl ?_
  refine .pickFH hb86 rfl rfl rfl ?_
  exact .fin 4 rfl rfl (by kernel_rfl) (Fz.le_refl _)
 ·skip
  refine .offH hb87 rfl rfl rfl ?_
  refine .offH hb87 rfl rfl rfl ?_
  refine .offH hb87 rfl rfl rfl ?_
  refine .pickTH hb87 rfl rfl rfl ?_
  exact .fin 4 rfl rfl (by kernel_rfl) (Fz.le_refl _)
 refine .move rfl rfl ?_
 refine .orP (b := (((((((((((r_10.1.Amount != 150) || (r_10.1.Age != 140)) || ((r_10.1.Woods 2) != 100)) || ((r_10.1.Woods 3) != 40)) || ((r_10.1.Places 1) != 40)) || (r_10.1.Creditor != (-1))) || (r_10.2 != 0)) || (r_14.1.Amount != 200)) || (r_14.1.Age != 50)) || ((r_14.1.Woods 2) != 0)) || (r_14.1.Creditor != 30))) (b' := (r_14.2 != 0)) 3 104 (fun hb90 => ?_) (fun hb91 => ?_) (fun F_92 l_93 => ?_)
 ·skip
  refine .onH hb90 rfl rfl ?_
  refine .move rfl rfl ?_
  refine .onH hb90 rfl rfl ?_
  refine .neq rfl rfl rfl ?_
  refine .pickFH hb90 rfl rfl rfl ?_
  exact .fin 3 rfl rfl (by kernel_rfl) (Fz.le_refl _)
 ·skip
  refine .offH hb91 rfl rfl rfl ?_
  refine .offH hb91 rfl rfl rfl ?_
  refine .pickTH hb91 rfl rfl rfl ?_
  exact .fin 3 rfl rfl (by kernel_rfl) (Fz.le_refl _)
 refine .nil ?_
 refine .keep (.cons (k := 6) rfl (.cons (k := 7) rfl (.cons (k := 9) rfl (.cons (k := 10) rfl (.cons (k := 11) rfl (.cons (k := 12) rfl (.cons (k := 13) rfl (.cons (k := 104) rfl (.nil _))))))))) ?_
 refine .code ?_
 refine .cond rfl (fun hb94 => ?_) (fun hb94 => ?_)
 ·skip
  refine .seq ?_
  refine .region ?_
  refine .assign rfl rfl ?_
  refine .nil ?_
  refine .code ?_
  exact .ret0 Try.results11 (.tmp rfl (.nil)) (i := 2) rfl (Fz.le_trans l_2 (Fz.le_trans l_9 (Fz.le_trans l_13 (Fz.le_trans l_17 (Fz.le_trans l_24 (Fz.le_trans l_33 (Fz.le_trans l_36 (Fz.le_trans l_42 (Fz.le_trans l_53 (Fz.le_trans l_57 (Fz.le_trans l_61 (Fz.le_trans l_65 (Fz.le_trans l_69 (Fz.le_trans l_73 (Fz.le_trans l_77 (Fz.le_trans l_81 (Fz.le_trans l_85 (Fz.le_trans l_89 l_93)))))))))))))))))) rfl
 ·skip
  refine .skip ?_
  refine .code ?_
  refine .seq ?_
  refine .region ?_
  refine .move rfl rfl ?_
  refine .sliceLit (cs := [.int .i64 2, .int .i64 5]) (zc := [.int .i64 0, .int .i64 0]) rfl Try.underlying36 Try.sizeOf3 Try.zeroValue3 rfl rfl rfl (by kernel_rfl) (by kernel_rfl) (fun b95 F_96 l_97 hb98 => ?_)
  have h99 : RepSl 1 (Ex (cInt .i64)) F_96 (some ⟨b95, 0, none⟩) 2 ([2, 5]) := RepSl.ofRow hb98 (.cons ok_t3.mono rfl (.cons ok_t3.mono rfl .nil)) rfl rfl
  refine .call0 rfl Try.call21 rfl rfl rfl (c_wormtubref06_Ints _ r_18.1 p19 k20 (h21.mono (Fz.le_trans l_24 (Fz.le_trans l_33 (Fz.le_trans l_36 (Fz.le_trans l_42 (Fz.le_trans l_53 (Fz.le_trans l_57 (Fz.le_trans l_61 (Fz.le_trans l_65 (Fz.le_trans l_69 (Fz.le_trans l_73 (Fz.le_trans l_77 (Fz.le_trans l_81 (Fz.le_trans l_85 (Fz.le_trans l_89 (Fz.le_trans l_93 l_97)))))))))))))))) ([2, 5]) (some ⟨b95, 0, none⟩) 2 h99) ?_
  rintro r_102 F_100 _ - l_101 rfl
  refine .move rfl rfl ?_
  refine .andP (b := r_102) (b' := (r_18.2 == 0)) 3 111 (fun hb103 => ?_) (fun hb104 => ?_) (fun F_105 l_106 => ?_)
  ·skip
   refine .onH hb103 rfl rfl ?_
   refine .move rfl rfl ?_
   refine .onH hb103 rfl rfl ?_
   refine .eql rfl rfl rfl ?_
   refine .pickTH hb103 rfl rfl rfl ?_
   exact .fin 3 rfl rfl (by kernel_rfl) (Fz.le_refl _)
  ·skip
   refine .offH hb104 rfl rfl rfl ?_
   refine .offH hb104 rfl rfl rfl ?_
   refine .pickFH hb104 rfl rfl rfl ?_
   exact .fin 3 rfl rfl (by kernel_rfl) (Fz.le_refl _)
  refine .move rfl rfl ?_
  refine .andP (b := (r_102 && (r_18.2 == 0))) (b' := (r_37.2.1 == 7)) 3 115 (fun hb107 => ?_) (fun hb108 => ?_) (fun F_109 l_110 => ?_)
  ·skip
   refine .onH hb107 rfl rfl ?_
   refine .move rfl rfl ?_
   refine .onH hb107 rfl rfl ?_
   refine .eql rfl rfl rfl ?_
   refine .pickTH hb107 rfl rfl rfl ?_
   exact .fin 3 rfl rfl (by kernel_rfl) (Fz.le_refl _)
  ·skip
   refine .offH hb108 rfl rfl rfl ?_
   refine .offH hb108 rfl rfl rfl ?_
   refine .pickFH hb108 rfl rfl rfl ?_
   exact .fin 3 rfl rfl (by kernel_rfl) (Fz.le_refl _)
  refine .move rfl rfl ?_
  refine .andP (b := ((r_102 && (r_18.2 == 0)) && (r_37.2.1 == 7))) (b' := (r_37.2.2 == 11)) 3 119 (fun hb111 => ?_) (fun hb112 => ?_) (fun F_113 l_114 => ?_)
  ·skip
   refine .onH hb111 rfl rfl ?_
   refine .move rfl rfl ?_
   refine .onH hb111 rfl rfl ?_
   refine .eql rfl rfl rfl ?_
   refine .pickTH hb111 rfl rfl rfl ?_
   exact .fin 3 rfl rfl (by kernel_rfl) (Fz.le_refl _)
  ·skip
   refine .offH hb112 rfl rfl rfl ?_
   refine .offH hb112 rfl rfl rfl ?_
   refine .pickFH hb112 rfl rfl rfl ?_
   exact .fin 3 rfl rfl (by kernel_rfl) (Fz.le_refl _)
  refine .move rfl rfl ?_
  refine .andP (b := (((r_102 && (r_18.2 == 0)) && (r_37.2.1 == 7)) && (r_37.2.2 == 11))) (b' := ((r_43.1.length : Int) == 0)) 4 124 (fun hb115 => ?_) (fun hb116 => ?_) (fun F_117 l_118 => ?_)
  ·skip
   refine .onH hb115 rfl rfl ?_
   refine .move rfl rfl ?_
   refine .onH hb115 rfl rfl ?_
   refine .lenS rfl rfl Try.underlying36 rfl ?_
   refine .onH hb115 rfl rfl ?_
   refine .eql rfl rfl rfl ?_
   refine .pickTH hb115 rfl rfl rfl ?_
   exact .fin 4 rfl rfl (by kernel_rfl) (Fz.le_refl _)
  ·skip
   refine .offH hb116 rfl rfl rfl ?_
   refine .offH hb116 rfl rfl rfl ?_
   refine .offH hb116 rfl rfl rfl ?_
   refine .pickFH hb116 rfl rfl rfl ?_
   exact .fin 4 rfl rfl (by kernel_rfl) (Fz.le_refl _)
  refine .move rfl rfl ?_
  refine .andM (b := ((((r_102 && (r_18.2 == 0)) && (r_37.2.1 == 7)) && (r_37.2.2 == 11)) && ((r_43.1.length : Int) == 0))) 4 129 (fun hb119 z132 => ?_) (fun hb128 => ?_) (fun z131 F_129 l_130 => ?_)
  ·skip
   refine .onH hb119 rfl rfl ?_
   refine .move rfl rfl ?_
   refine .onH hb119 rfl rfl ?_
   refine .sliceLit (cs := [.int .i64 2]) (zc := [.int .i64 0]) rfl Try.underlying36 Try.sizeOf3 Try.zeroValue3 rfl rfl rfl (by kernel_rfl) (by kernel_rfl) (fun b120 F_121 l_122 hb123 => ?_)
   have h124 : RepSl 1 (Ex (cInt .i64)) F_121 (some ⟨b120, 0, none⟩) 1 ([2]) := RepSl.ofRow hb123 (.cons ok_t3.mono rfl .nil) rfl rfl
   refine .onH hb119 rfl rfl ?_
   refine .call0 rfl Try.call21 rfl rfl rfl (c_wormtubref06_Ints _ r_43.2.1 p47 k48 (h49.mono (Fz.le_trans l_53 (Fz.le_trans l_57 (Fz.le_trans l_61 (Fz.le_trans l_65 (Fz.le_trans l_69 (Fz.le_trans l_73 (Fz.le_trans l_77 (Fz.le_trans l_81 (Fz.le_trans l_85 (Fz.le_trans l_89 (Fz.le_trans l_93 (Fz.le_trans l_97 (Fz.le_trans l_101 (Fz.le_trans l_106 (Fz.le_trans l_110 (Fz.le_trans l_114 (Fz.le_trans l_118 l_122)))))))))))))))))) ([2]) (some ⟨b120, 0, none⟩) 1 h124) ?_
   rintro r_127 F_125 _ - l_126 rfl
   refine .pickTH hb119 rfl rfl rfl ?_
   exact .finZ 4 rfl rfl (by kernel_rfl) (Fz.le_trans l_122 l_126)
  ·skip
   refine .offH hb128 rfl rfl rfl ?_
   refine .offH hb128 rfl rfl rfl ?_
   refine .offH hb128 rfl rfl rfl ?_
   refine .pickFH hb128 rfl rfl rfl ?_
   exact .fin 4 rfl rfl (by kernel_rfl) (Fz.le_refl _)
  refine .move rfl rfl ?_
  refine .andP (b := z131) (b' := (r_43.2.2 == 0)) 3 133 (fun hb133 => ?_) (fun hb134 => ?_) (fun F_135 l_136 => ?_)
  ·skip
   refine .onH hb133 rfl rfl ?_
   refine .move rfl rfl ?_
   refine .onH hb133 rfl rfl ?_
   refine .eql rfl rfl rfl ?_
   refine .pickTH hb133 rfl rfl rfl ?_
   exact .fin 3 rfl rfl (by kernel_rfl) (Fz.le_refl _)
  ·skip
   refine .offH hb134 rfl rfl rfl ?_
   refine .offH hb134 rfl rfl rfl ?_
   refine .pickFH hb134 rfl rfl rfl ?_
   exact .fin 3 rfl rfl (by kernel_rfl) (Fz.le_refl _)
  refine .assign rfl rfl ?_
  refine .nil ?_
  refine .code ?_
  exact .ret0 Try.results11 (.tmp rfl (.nil)) (i := 2) rfl (Fz.le_trans l_2 (Fz.le_trans l_9 (Fz.le_trans l_13 (Fz.le_trans l_17 (Fz.le_trans l_24 (Fz.le_trans l_33 (Fz.le_trans l_36 (Fz.le_trans l_42 (Fz.le_trans l_53 (Fz.le_trans l_57 (Fz.le_trans l_61 (Fz.le_trans l_65 (Fz.le_trans l_69 (Fz.le_trans l_73 (Fz.le_trans l_77 (Fz.le_trans l_81 (Fz.le_trans l_85 (Fz.le_trans l_89 (Fz.le_trans l_93 (Fz.le_trans l_97 (Fz.le_trans l_101 (Fz.le_trans l_106 (Fz.le_trans l_110 (Fz.le_trans l_114 (Fz.le_trans l_118 (Fz.le_trans l_130 l_136)))))))))))))))))))))))))) rfl
end Go.Proofs.Ytkedjmhhcekmiaa
end

section
namespace Go.Proofs.Ytkedjmhhcekmiaa
open Go.Dec Go.Shelf Go.RowKit Go.Maps Go.Sort
noncomputable def b_wormtubref06_Same_1 (a1 : (List ApiCask)) (b5 : (List ApiCask)) (s10 : Int) : Option (Ctl (Int) ((Unit) ⊕ (Bool))) :=
 if (decide (s10 < (a1.length : Int))) then ((idxL a1 s10).bind fun x15 => (idxL b5 s10).bind fun x25 => if (!(eq_31 x15 x25)) then (some (.done (.inr false))) else (bindv (w64 (s10 + 1)) fun i54 => some (.next i54))) else (some (.done (.inl ())))
noncomputable def m_wormtubref06_Same (a1 : (List ApiCask)) (b5 : (List ApiCask)) : Option Bool :=
 if ((a1.length : Int) != (b5.length : Int)) then (some false) else ((loopM (b_wormtubref06_Same_1 a1 b5) 0).bind fun b0 => match b0 with | .inl _b56 => (some true) | .inr b56 => (some b56))
theorem c_wormtubref06_Same (F0 : Fz) (a1 : (List ApiCask)) (p2 : Option Addr) (k3 : Nat) (h4 : RepSl 24 (Ex cApiCask) F0 p2 k3 a1) (b5 : (List ApiCask)) (p6 : Option Addr) (k7 : Nat) (h8 : RepSl 24 (Ex cApiCask) F0 p6 k7 b5) : CT0 Try.prog 16 [(.slice p2 a1.length k3), (.slice p6 b5.length k7)].toArray F0 (m_wormtubref06_Same a1 b5) (fun r _ v => v = (.bool r)) := by
 refine CT0.enter Try.func16 rfl Try.ntmps16 rfl fun r R => ?_
 unfold m_wormtubref06_Same
 refine .seq ?_
 refine .region ?_
 refine .assign rfl rfl ?_
 refine .nil ?_
 refine .code ?_
 refine .seq ?_
 refine .seq ?_
 refine .region ?_
 refine .move rfl rfl ?_
 refine .lenS rfl rfl Try.underlying25 rfl ?_
 refine .move rfl rfl ?_
 refine .lenS rfl rfl Try.underlying25 rfl ?_
 refine .neq rfl rfl rfl ?_
 refine .nil ?_
 refine .code ?_
 refine .cond rfl (fun hb9 => ?_) (fun hb9 => ?_)
 ·skip
  refine .seq ?_
  refine .region ?_
  refine .assign rfl rfl ?_
  refine .nil ?_
  refine .code ?_
  exact .ret0 Try.results16 (.tmp rfl (.nil)) (i := 0) rfl (Fz.le_refl _) rfl
 ·skip
  refine .skip ?_
  refine .code ?_
  refine .seq ?_
  refine .seq ?_
  refine .region ?_
  refine .assign rfl rfl ?_
  refine .nil ?_
  refine .code ?_
  refine .block ?_
  refine .keep (.cons (k := 0) rfl (.cons (k := 1) rfl (.cons (k := 5) rfl (.nil _)))) ?_
  refine .loop (fun (s10 : Int) a w => ∃ (F_11 : Fz), F0 ≤ F_11 ∧ Hd 26 [] [(0, (.slice p2 a1.length k3)), (1, (.slice p6 b5.length k7)), (5, (.int .i64 s10))] F_11 [R] a w) (fun b0 e a w => match b0 with | .inl b56 => e = .exit 0 ∧ ∃ (F_57 : Fz), F0 ≤ F_57 ∧ Hd 26 [] [] F_57 [R] a w | .inr b56 => e = .ret ∧ ∃ (F_59 : Fz), F0 ≤ F_59 ∧ Hd 26 [] [(4, (.bool b56))] F_59 [R] a w) ?_ ?_ ?_
  ·exact fun a w h => ⟨F0, (Fz.le_refl _), h.1.sub (.cons (k := 0) rfl (.cons (k := 1) rfl (.cons (k := 5) rfl (.nil _)))), h.2⟩
  ·intro s10 ctl
   refine GC.ex (fun a w ⟨F_11, l_12, hA⟩ => ⟨_, hA, ?_⟩)
   unfold b_wormtubref06_Same_1
   refine .seq ?_
   refine .seq ?_
   refine .region ?_
   refine .move rfl rfl ?_
   refine .move rfl rfl ?_
   refine .lenS rfl rfl Try.underlying25 rfl ?_
   refine .lss rfl rfl rfl ?_
   refine .nil ?_
   refine .code ?_
   refine .cond rfl (fun hb13 => ?_) (fun hb13 => ?_)
   ·skip
    refine .skip ?_
    refine .code ?_
    refine .seq ?_
    refine .block ?_
    refine .seq ?_
    refine .keep (.cons (k := 0) rfl (.cons (k := 1) rfl (.cons (k := 5) rfl (.nil _)))) ?_
    refine .bind (fun x15 e21 => ?_)
    obtain ⟨b16, o17, T18, fr19, cs20, hm22, hv23, hq24⟩ := RepSl.idxE (h4.mono l_12) e21
    refine .bind (fun x25 e31 => ?_)
    obtain ⟨b26, o27, T28, fr29, cs30, hm32, hv33, hq34⟩ := RepSl.idxE (h8.mono l_12) e31
    refine .drawGD 8 0 (fun env14 => [((.slice p2 a1.length k3), fun _ => True), ((.int .i64 s10), fun _ => True), ((.pointer (some ⟨b16, o17, none⟩)), fun _ => True), ((eApiCask x15), fun _ => True), ((.slice p6 b5.length k7), fun _ => True), ((.int .i64 s10), fun _ => True), ((.pointer (some ⟨b26, o27, none⟩)), fun _ => True), ((eApiCask x25), fun _ => True)]) (fun L env14 => [R]) mixedOK (by kernel_rfl) (deepN (k := 8) (n := 9) rfl (allLt9 (p := fun t => 8 ≤ t → ∀ j, j < t → ∃ s, depB _ s t j = true) (fun h => absurd h (by decide)) (fun h => absurd h (by decide)) (fun h => absurd h (by decide)) (fun h => absurd h (by decide)) (fun h => absurd h (by decide)) (fun h => absurd h (by decide)) (fun h => absurd h (by decide)) (fun h => absurd h (by decide)) (fun _ => allLt8 (p := fun j => ∃ s, depB _ s 8 j = true) ⟨3, rfl⟩ ⟨3, rfl⟩ ⟨2, rfl⟩ ⟨1, rfl⟩ ⟨3, rfl⟩ ⟨3, rfl⟩ ⟨2, rfl⟩ ⟨1, rfl⟩))) rfl (fun _ => rfl) (by kernel_rfl) (fun _ => rfl) ?_ (fun env14 F_35 l_36 hphi => ?_)
    ·skip
     refine .cons (fun L env14 F_37 l_38 hL hdn hup hphi => ⟨[(0, (.slice p2 a1.length k3))], fun S hS hV => (.cons (hS _ _ rfl) (Sub.nil _)), ?_⟩) ?_
     ·skip
      refine .move rfl rfl ?_
      exact .finV rfl rfl (Fz.le_refl _)
     refine .cons (fun L env14 F_39 l_40 hL hdn hup hphi => ⟨[(5, (.int .i64 s10))], fun S hS hV => (.cons (hS _ _ rfl) (Sub.nil _)), ?_⟩) ?_
     ·skip
      refine .move rfl rfl ?_
      exact .finV rfl rfl (Fz.le_refl _)
     refine .cons (fun L env14 F_41 l_42 hL hdn hup hphi => ⟨[(17, (.slice p2 a1.length k3)), (18, (.int .i64 s10))], fun S hS hV => (.cons (hV 0 17 _ (hdn 1 0 rfl) rfl rfl) (.cons (hV 1 18 _ (hdn 1 1 rfl) rfl rfl) (Sub.nil _))), ?_⟩) ?_
     ·skip
      refine .idxQ rfl Try.underlying25 Try.sizeOf31 hq24 rfl rfl ?_
      exact .finV rfl rfl (Fz.le_refl _)
     refine .cons (fun L env14 F_43 l_44 hL hdn hup hphi => ⟨[(19, (.pointer (some ⟨b16, o17, none⟩)))], fun S hS hV => (.cons (hV 2 19 _ (hdn 1 2 rfl) rfl rfl) (Sub.nil _)), ?_⟩) ?_
     ·skip
      refine .loadFA rfl Try.isAgg31 Try.sizeOf31 rfl (l_44.mem _ _ hm22) hv23 rfl ?_
      exact .finV rfl rfl (Fz.le_refl _)
     refine .cons (fun L env14 F_45 l_46 hL hdn hup hphi => ⟨[(1, (.slice p6 b5.length k7))], fun S hS hV => (.cons (hS _ _ rfl) (Sub.nil _)), ?_⟩) ?_
     ·skip
      refine .move rfl rfl ?_
      exact .finV rfl rfl (Fz.le_refl _)
     refine .cons (fun L env14 F_47 l_48 hL hdn hup hphi => ⟨[(5, (.int .i64 s10))], fun S hS hV => (.cons (hS _ _ rfl) (Sub.nil _)), ?_⟩) ?_
     ·skip
      refine .move rfl rfl ?_
      exact .finV rfl rfl (Fz.le_refl _)
     refine .cons (fun L env14 F_49 l_50 hL hdn hup hphi => ⟨[(21, (.slice p6 b5.length k7)), (22, (.int .i64 s10))], fun S hS hV => (.cons (hV 4 21 _ (hdn 1 4 rfl) rfl rfl) (.cons (hV 5 22 _ (hdn 1 5 rfl) rfl rfl) (Sub.nil _))), ?_⟩) ?_
     ·skip
      refine .idxQ rfl Try.underlying25 Try.sizeOf31 hq34 rfl rfl ?_
      exact .finV rfl rfl (Fz.le_refl _)
     refine .cons (fun L env14 F_51 l_52 hL hdn hup hphi => ⟨[(23, (.pointer (some ⟨b26, o27, none⟩)))], fun S hS hV => (.cons (hV 6 23 _ (hdn 1 6 rfl) rfl rfl) (Sub.nil _)), ?_⟩) ?_
     ·skip
      refine .loadFA rfl Try.isAgg31 Try.sizeOf31 rfl (l_52.mem _ _ hm32) hv33 rfl ?_
      exact .finV rfl rfl (Fz.le_refl _)
     exact .nil
    refine .norm (S' := [(0, (.slice p2 a1.length k3)), (1, (.slice p6 b5.length k7)), (5, (.int .i64 s10)), (17, (.slice p2 a1.length k3)), (18, (.int .i64 s10)), (19, (.pointer (some ⟨b16, o17, none⟩))), (20, (eApiCask x15)), (21, (.slice p6 b5.length k7)), (22, (.int .i64 s10)), (23, (.pointer (some ⟨b26, o27, none⟩))), (24, (eApiCask x25))]) (.cons (k := 0) rfl (.cons (k := 1) rfl (.cons (k := 5) rfl (.cons (k := 17) rfl (.cons (k := 18) rfl (.cons (k := 19) rfl (.cons (k := 20) rfl (.cons (k := 21) rfl (.cons (k := 22) rfl (.cons (k := 23) rfl (.cons (k := 24) rfl (.nil _)))))))))))) (rfl : _ = [R]) ?_
    refine .neqR rfl Try.eqGuardType31 (fun w => req_31 x15 x25 w) rfl rfl ?_
    refine .nil ?_
    refine .code ?_
    refine .cond rfl (fun hb53 => ?_) (fun hb53 => ?_)
    ·skip
     refine .seq ?_
     refine .region ?_
     refine .assign rfl rfl ?_
     refine .nil ?_
     refine .code ?_
     refine .retQ (LPost.ret fun a w h => ⟨rfl, F_35, (Fz.le_trans l_12 l_36), h.1.sub (.cons (k := 4) rfl (.nil _)), h.2⟩)
    ·skip
     refine .skip ?_
     refine .block ?_
     refine .code ?_
     refine .region ?_
     refine .move rfl rfl ?_
     refine .add rfl rfl rfl ?_
     refine .assignL rfl rfl (fun i54 e55 => ?_)
     refine .nil ?_
     exact .nil (LPost.norm fun a w h => ⟨F_35, (Fz.le_trans l_12 l_36), h.1.sub (.cons (k := 0) rfl (.cons (k := 1) rfl (.cons (k := 5) rfl (.nil _)))), h.2⟩)
   ·skip
    refine .exitOut rfl (LPost.exit fun a w h => ⟨rfl, F_11, l_12, h.1.sub (.nil _), h.2⟩)
  ·intro b56 hb0 hk e a w hD
   rcases b56 with b56 | b56
   ·skip
    obtain ⟨rfl, F_57, l_58, hA⟩ := hD
    refine interp_exit rfl (GE.app ?_ hk a w hA)
    refine .code ?_
    refine .seq ?_
    refine .region ?_
    refine .assign rfl rfl ?_
    refine .nil ?_
    refine .code ?_
    exact .ret0 Try.results16 (.tmp rfl (.nil)) (i := 0) rfl l_58 rfl
   obtain ⟨rfl, F_59, l_60, hA⟩ := hD
   exact interp_ret ((ret_post0 Try.results16 (.tmp rfl (.nil)) (i := 0) rfl l_60 rfl) hk a w hA)
end Go.Proofs.Ytkedjmhhcekmiaa
end

section
namespace Go.Proofs.Ytkedjmhhcekmiaa
open Go.Dec
def zC : ApiCask := ⟨0, 0, 0, 0, 0, 0, 0, 0, zN, zN⟩
def findH (all : List Held) (num : Int) : Option Held := (findS all num).bind fun i => all[i]?
def tellS (l : List Ev) (num day : Int) : ApiCask × Int := match (playS l day).1 with
  | .inr e => (zC, e)
  | .inl all => match findH all num with
    | none => (zC, 4)
    | some h => (h.C, 0)
def srcS (l : List Ev) (num day : Int) : List Int × Int := match (playS l day).1 with
  | .inr e => ([], e)
  | .inl all => match findH all num with
    | none => ([], 4)
    | some h => (h.Fills, 0)
theorem playS_err {l : List Ev} {day e : Int} {k : Nat} (h : playS l day = (.inr e, k)) : e ≠ 0 := by
  have := play_prog l day
  rw [h] at this
  exact this.2
theorem playS_ok {l : List Ev} {day : Int} {all : List Held} {k : Nat} (h : playS l day = (.inl all, k)) : AOk day k all ∧ k ≤ 4096 ∧ 0 ≤ day ∧ day ≤ 65536 := by
  have := play_prog l day
  rw [h] at this
  obtain ⟨_, _, _, _, _, _, _, _, h1, h2, h3, h4⟩ := this
  exact ⟨h1, h2, h3, h4⟩
theorem CR.now {t : Int} {n : Nat} {A3 : FM} {c : CaskCask} {h : Held} (r : CR t n A3 c h) (hs : c.since = t) : h = rawOf c h.Fills := by
  have := r.eq
  rw [hs, Int.sub_self, older_0] at this
  exact this
theorem find_look {all : List Held} {num : Int} {i : Nat} (h : findS all num = some i) : ∃ hh, all[i]? = some hh ∧ findH all num = some hh := by
  obtain ⟨hh, h1, _⟩ := find_some h
  exact ⟨hh, h1, by simp [findH, h, h1]⟩
theorem PR.look {t : Int} {n : Nat} {all : List Held} {A1 : List CaskCask} {A3 : FM} {m : List (Int × Option Nat)} (r : PR t n all A1 A3 m) (hs : ∀ c ∈ A1, c.since = t) {i : Nat} {h : Held} (hh : all[i]? = some h) : ∃ c, A1[i]? = some c ∧ h = rawOf c h.Fills ∧ FR A3 c.fills h.Fills := by
  have hi : i < A1.length := by rw [r.len]; exact (List.getElem?_eq_some_iff.1 hh).1
  have hc : A1[i]? = some A1[i] := List.getElem?_eq_getElem hi
  have hcr := r.each i _ h hc hh
  exact ⟨_, hc, hcr.now (hs _ (List.getElem_mem _)), hcr.fills⟩
theorem At_prog (l : List Ev) (num day : Int) : m_cask_At l num day = some (tellS l num day) := by
  have hp := play_prog l day
  unfold m_cask_At tellS
  cases hpl : playS l day with
  | mk r k =>
    rw [hpl] at hp
    cases r with
    | inr e =>
      rw [hp.1, Option.bind_some]
      have : (e != 0) = true := by simpa using hp.2
      simp only [this, if_true]
      rfl
    | inl all =>
      obtain ⟨A1, b, A3, m, h1, hb, hr, hs, _⟩ := hp
      rw [h1, Option.bind_some]
      have e0 : ((0 : Int) != 0) = false := rfl
      simp only [e0, Bool.false_eq_true, if_false, Option.bind_some, List.getElem?_cons_zero, hb, hr.get]
      cases hf : findS all num with
      | none => simp [findH, hf]; rfl
      | some i =>
        obtain ⟨h, hh, hfh⟩ := find_look hf
        obtain ⟨c, hc, hraw, _⟩ := hr.look hs hh
        simp only [Option.isNone_some, Bool.false_eq_true, if_false, hfh]
        unfold m_cask_cask_shown
        simp only [Option.bind_some, hc]
        have : h.C = (rawOf c h.Fills).C := by rw [← hraw]
        rw [this]; rfl
theorem sortedO_fills {A3 : FM} {p : Option Nat} {F : List Int} {n : Nat} (h : FR A3 p F) (hF : F.Pairwise (· < ·) ∧ ∀ f ∈ F, 0 ≤ f ∧ f < n) (hn : n ≤ 4096) : sortedO A3 p = some F := by
  cases p with
  | none => have : F = [] := h; subst this; rfl
  | some j =>
    obtain ⟨l, h1, h2, h3⟩ := h
    have hFn : F.Nodup := hF.1.imp fun h => Int.ne_of_lt h
    have hperm : (l.map Prod.fst).Perm F := (List.perm_ext_iff_of_nodup h2 hFn).2 fun x => (h3 x).symm
    have hlen : l.length = F.length := by rw [← hperm.length_eq]; simp
    have hfl := sorted_len 0 hF.1 (n := n) hF.2 (by omega)
    have hall : l.all (fun x => decide (-9223372036854775808 ≤ x.1 ∧ x.1 ≤ 9223372036854775807)) = true := List.all_eq_true.2 fun x hx => by
      have := hF.2 x.1 ((h3 x.1).2 (List.mem_map_of_mem hx))
      simp only [decide_eq_true_eq]
      omega
    have hk : keysS l = some ((l.map Prod.fst).mergeSort (fun a b => decide (a ≤ b))) := by
      unfold keysS; rw [if_pos ⟨hall, by omega⟩]
    have e : sortedO A3 (some j) = keysS l := by simp [sortedO, h1]
    rw [e, hk, sort_eq hperm]
    congr 1
    exact List.mergeSort_of_pairwise (hF.1.imp fun h => by simpa using Int.le_of_lt h)
theorem Sources_prog (l : List Ev) (num day : Int) : m_cask_Sources l num day = some (srcS l num day) := by
  have hp := play_prog l day
  unfold m_cask_Sources srcS
  cases hpl : playS l day with
  | mk r k =>
    rw [hpl] at hp
    cases r with
    | inr e =>
      rw [hp.1, Option.bind_some]
      have : (e != 0) = true := by simpa using hp.2
      simp only [this, if_true]
    | inl all =>
      obtain ⟨A1, b, A3, m, h1, hb, hr, hs, hok, hk, _⟩ := hp
      rw [h1, Option.bind_some]
      have e0 : ((0 : Int) != 0) = false := rfl
      simp only [e0, Bool.false_eq_true, if_false, Option.bind_some, List.getElem?_cons_zero, hb, hr.get]
      cases hf : findS all num with
      | none => simp [findH, hf]
      | some i =>
        obtain ⟨h, hh, hfh⟩ := find_look hf
        obtain ⟨c, hc, hraw, hfr⟩ := hr.look hs hh
        have hho := hok.each h (List.mem_of_getElem? hh)
        simp only [Option.isNone_some, Bool.false_eq_true, if_false, hfh, Option.bind_some, hc]
        rw [sortedO_fills hfr hho.fills hk]
        rfl
end Go.Proofs.Ytkedjmhhcekmiaa
end

section
namespace Go.Proofs.Ytkedjmhhcekmiaa
open Go.Dec
def numsS (all : List Held) : List Int := (all.map (·.C.Number)).mergeSort (fun a b => decide (a ≤ b))
def ordS (all : List Held) : List Held := (numsS all).filterMap (findH all)
theorem nums_perm (all : List Held) : (numsS all).Perm (all.map (·.C.Number)) := List.mergeSort_perm _ _
theorem nums_sorted {all : List Held} (hn : (all.map (·.C.Number)).Nodup) : (numsS all).Pairwise (· < ·) := by
  have h1 : (numsS all).Pairwise (fun a b => decide (a ≤ b) = true) := List.pairwise_mergeSort (fun a b c h1 h2 => by simp only [decide_eq_true_eq] at *; omega) (fun a b => by simp only [Bool.or_eq_true, decide_eq_true_eq]; omega) _
  have h2 : (numsS all).Nodup := ((nums_perm all).nodup_iff).2 hn
  exact (h1.and h2).imp fun ⟨a, b⟩ => by simp only [decide_eq_true_eq] at a; omega
theorem find_ex {all : List Held} {num : Int} (h : num ∈ all.map (·.C.Number)) : ∃ i hh, findS all num = some i ∧ all[i]? = some hh ∧ findH all num = some hh ∧ hh.C.Number = num := by
  cases hf : findS all num with
  | none =>
    obtain ⟨x, hx, e⟩ := List.mem_map.1 h
    exact absurd e (find_none hf x hx)
  | some i =>
    obtain ⟨hh, h1, h2⟩ := find_look hf
    obtain ⟨h', h3, h4⟩ := find_some hf
    rw [h1] at h3; cases h3
    exact ⟨i, hh, rfl, h1, h2, h4⟩
section
variable {t : Int} {n : Nat} {all : List Held} {A1 : List CaskCask} {A3 : FM} {m : List (Int × Option Nat)} {b : CaskBook}
theorem keys_of (r : PR t n all A1 A3 m) (ho : AOk t n all) : keysS m = some (numsS all) := by
  have hk : m.map Prod.fst = all.map (·.C.Number) := by
    rw [r.map]
    apply List.ext_getElem?
    intro i
    simp only [List.getElem?_map, List.getElem?_mapIdx]
    by_cases h : i < A1.length
    · have h2 : i < all.length := by rw [← r.len]; exact h
      rw [List.getElem?_eq_getElem h, List.getElem?_eq_getElem h2]
      simp only [Option.map_some]
      rw [(r.each i _ _ (List.getElem?_eq_getElem h) (List.getElem?_eq_getElem h2)).number]
    · rw [List.getElem?_eq_none (by omega), List.getElem?_eq_none (by rw [← r.len]; omega)]; rfl
  have hl : m.length = all.length := by rw [← List.length_map (f := Prod.fst), hk, List.length_map]
  have hall : m.all (fun x => decide (-9223372036854775808 ≤ x.1 ∧ x.1 ≤ 9223372036854775807)) = true := List.all_eq_true.2 fun x hx => by
    have h1 : x.1 ∈ all.map (·.C.Number) := by rw [← hk]; exact List.mem_map_of_mem hx
    obtain ⟨h, hh, e⟩ := List.mem_map.1 h1
    have := (ho.each h hh).num
    simp only [decide_eq_true_eq]
    omega
  unfold keysS
  rw [if_pos ⟨hall, by have := ho.few; omega⟩, hk]
  rfl
theorem ordered_prog (r : PR t n all A1 A3 m) (ho : AOk t n all) (hb : b.casks = some 0) : L_cask_book_ordered_1 [b] [m] (some 0) = some ((numsS all).map (findS all)) := by
  unfold L_cask_book_ordered_1
  simp only [Option.bind_some, List.getElem?_cons_zero, hb, keys_of r ho]
  congr 1
  exact List.map_congr_left fun k _ => r.get k
theorem forL_Play (hs : ∀ c ∈ A1, c.since = t) (r : PR t n all A1 A3 m) : ∀ (ks : List Int) (out : List ApiCask), (∀ k ∈ ks, k ∈ all.map (·.C.Number)) → out.length + ks.length ≤ 1000000 →
    forL b_cask_Play_1 (ks.map (findS all)) (out, A1) = some (out ++ (ks.filterMap (findH all)).map (·.C), A1)
  | [], out, _, _ => by simp [forL]
  | k :: ks, out, hk, hl => by
    obtain ⟨i, h, h1, h2, h3, h4⟩ := find_ex (hk k (by simp))
    obtain ⟨c, hc, hraw, _⟩ := r.look hs h2
    have hsh : m_cask_cask_shown A1 (some i) = some h.C := by
      unfold m_cask_cask_shown
      simp only [Option.bind_some, hc]
      have : h.C = (rawOf c h.Fills).C := by rw [← hraw]
      rw [this]; rfl
    have hb : b_cask_Play_1 (some i) (out, A1) = some (out ++ [h.C], A1) := by
      unfold b_cask_Play_1
      rw [hsh, Option.bind_some]
      simp only [List.length_cons] at hl
      rw [appO_some' (by simp; omega)]
      rfl
    simp only [List.map_cons, forL, h1, hb, Option.bind_some]
    rw [forL_Play hs r ks (out ++ [h.C]) (fun k' hk' => hk k' (List.mem_cons_of_mem _ hk')) (by simp at hl ⊢; omega)]
    rw [List.filterMap_cons, h3]
    simp
end
def allS' (l : List Ev) (day : Int) : List ApiCask × Int × Int := match playS l day with
  | (.inr e, k) => ([], (k : Int), e)
  | (.inl all, k) => ((ordS all).map (·.C), (k : Int), 0)
theorem Play_prog (l : List Ev) (day : Int) : m_cask_Play l day = some (allS' l day) := by
  have hp := play_prog l day
  unfold m_cask_Play allS'
  cases hpl : playS l day with
  | mk r k =>
    rw [hpl] at hp
    cases r with
    | inr e =>
      rw [hp.1, Option.bind_some]
      have : (e != 0) = true := by simpa using hp.2
      simp only [this, if_true]
    | inl all =>
      obtain ⟨A1, b, A3, m, h1, hb, hr, hs, hok, hk, _⟩ := hp
      rw [h1, Option.bind_some]
      have e0 : ((0 : Int) != 0) = false := rfl
      simp only [e0, Bool.false_eq_true, if_false, Option.bind_some]
      rw [ordered_prog hr hok hb, Option.bind_some]
      have hlen : (numsS all).length = all.length := by rw [(nums_perm all).length_eq]; simp
      rw [forL_Play hs hr (numsS all) [] (fun k hk => (nums_perm all).mem_iff.1 hk) (by have := hok.few; simp; omega), Option.bind_some]
      rfl
end Go.Proofs.Ytkedjmhhcekmiaa
end

section
namespace Go.Proofs.Ytkedjmhhcekmiaa
open Go.Dec
section
variable {all : List Held} {last : Int} {n : Nat}
theorem ord_len (_ho : AOk last n all) : (ordS all).length = all.length := by
  have h1 : (ordS all).length = (numsS all).length := by
    unfold ordS
    have : ∀ S : List Int, (∀ k ∈ S, (findH all k).isSome) → (S.filterMap (findH all)).length = S.length := fun S => by
      induction S with
      | nil => intro _; rfl
      | cons k S ih =>
        intro h
        obtain ⟨y, hy⟩ := Option.isSome_iff_exists.1 (h k (by simp))
        rw [List.filterMap_cons, hy]
        simp [ih (fun k' hk' => h k' (List.mem_cons_of_mem _ hk'))]
    refine this _ fun k hk => ?_
    obtain ⟨i, hh, _, _, h3, _⟩ := find_ex ((nums_perm all).mem_iff.1 hk)
    rw [h3]; rfl
  rw [h1, (nums_perm all).length_eq, List.length_map]
end
end Go.Proofs.Ytkedjmhhcekmiaa
end

section
namespace Go.Proofs.Ytkedjmhhcekmiaa
open Go.Dec
def ownC (p : Int) (l : List ApiCask) : List Int := (l.filter (fun c => c.Owner == p)).map (·.Number)
def plgC (p : Int) (l : List ApiCask) : List Int := (l.filter (fun c => c.Creditor == p && decide (p ≥ 0))).map (·.Number)
def ownS (l : List Ev) (p day : Int) : List Int × List Int × Int := (ownC p (allS' l day).1, plgC p (allS' l day).1, (allS' l day).2.2)
section
variable {t : Int} {n k : Nat} {all : List Held} {A1 : List CaskCask} {A3 : FM} {m : List (Int × Option Nat)} {b : CaskBook}
theorem forL_Owned (hs : ∀ c ∈ A1, c.since = t) (r : PR t n all A1 A3 m) (ho : AOk t n all) (p : Int) (Bk : List CaskBook) (M : List (List (Int × Option Nat))) : ∀ (ks : List Int) (o1 o2 : List Int), (∀ k ∈ ks, k ∈ all.map (·.C.Number)) → o1.length + ks.length ≤ 1000000 → o2.length + ks.length ≤ 1000000 →
    forL (b_cask_Owned_1 p (some 0, (k : Int), 0, A1, Bk, A3, M)) (ks.map (findS all)) (o1, o2) = some (o1 ++ ownC p ((ks.filterMap (findH all)).map (·.C)), o2 ++ plgC p ((ks.filterMap (findH all)).map (·.C)))
  | [], o1, o2, _, _, _ => by simp [forL, ownC, plgC]
  | kk :: ks, o1, o2, hk, hl1, hl2 => by
    obtain ⟨i, h, h1, h2, h3, h4⟩ := find_ex (hk kk (by simp))
    obtain ⟨c, hc, hraw, _⟩ := r.look hs h2
    have hh := ho.each h (List.mem_of_getElem? h2)
    have a1 : h.C.Owner = c.owner := by rw [hraw]; rfl
    have a2 : h.C.Creditor = c.creditor := by rw [hraw]; rfl
    have a3 : h.C.Number = c.number := by rw [hraw]; rfl
    have hcr := hh.cred
    rw [a2] at hcr
    simp only [List.length_cons] at hl1 hl2
    have p1 : appO o1 [c.number] = some (o1 ++ [c.number]) := appO_some' (by simp; omega)
    have p2 : appO o2 [c.number] = some (o2 ++ [c.number]) := appO_some' (by simp; omega)
    have hb : b_cask_Owned_1 p (some 0, (k : Int), 0, A1, Bk, A3, M) (some i) (o1, o2) = some (o1 ++ (if c.owner == p then [c.number] else []), o2 ++ (if c.creditor == p && decide (p ≥ 0) then [c.number] else [])) := by
      unfold b_cask_Owned_1
      simp only [Option.bind_some, hc, p1, p2]
      have key : (c.creditor == p) = true → (p != -1) = decide (p ≥ 0) := fun e => by
        have e' : c.creditor = p := by simpa using e
        by_cases hp : p ≥ 0
        · rw [decide_eq_true hp]; simp; omega
        · rw [decide_eq_false hp]; simp; omega
      cases e1 : c.owner == p with
      | true =>
        cases e2 : c.creditor == p with
        | true => rw [key e2]; cases decide (p ≥ 0) <;> simp
        | false => simp
      | false =>
        cases e2 : c.creditor == p with
        | true => rw [key e2]; cases decide (p ≥ 0) <;> simp
        | false => simp
    simp only [List.map_cons, forL, h1, hb, Option.bind_some]
    rw [forL_Owned hs r ho p Bk M ks _ _ (fun k' hk' => hk k' (List.mem_cons_of_mem _ hk')) (by split <;> simp <;> omega) (by split <;> simp <;> omega)]
    rw [List.filterMap_cons, h3]
    unfold ownC plgC
    simp only [List.map_cons, List.filter_cons, a1, a2]
    cases e1 : c.owner == p <;> cases e2 : (c.creditor == p && decide (p ≥ 0)) <;> simp [a3]
end
theorem Owned_prog (l : List Ev) (p day : Int) : m_cask_Owned l p day = some (ownS l p day) := by
  have hp := play_prog l day
  unfold m_cask_Owned ownS allS'
  cases hpl : playS l day with
  | mk r k =>
    rw [hpl] at hp
    cases r with
    | inr e =>
      rw [hp.1, Option.bind_some]
      have : (e != 0) = true := by simpa using hp.2
      simp only [this, if_true]
      rfl
    | inl all =>
      obtain ⟨A1, b, A3, m, h1, hb, hr, hs, hok, hk, _⟩ := hp
      rw [h1, Option.bind_some]
      have e0 : ((0 : Int) != 0) = false := rfl
      simp only [e0, Bool.false_eq_true, if_false, Option.bind_some]
      rw [ordered_prog hr hok hb, Option.bind_some]
      have hlen : (numsS all).length = all.length := by rw [(nums_perm all).length_eq]; simp
      have hfew := hok.few
      rw [forL_Owned hs hr hok p [b] [m] (numsS all) [] [] (fun k hk => (nums_perm all).mem_iff.1 hk) (by simp; omega) (by simp; omega), Option.bind_some]
      rfl
theorem same_refl (c : ApiCask) : eq_31 c c = true := by simp [eq_31, eq_29]
theorem Same_self (a : List ApiCask) (h : a.length ≤ 1000000) : m_wormtubref06_Same a a = some true := by
  have hl := loop_list (body := b_wormtubref06_Same_1 a a) (fun (_ : Unit) i => ((i : Nat) : Int)) (fun (_ : Unit) _ (_ : ApiCask) => some (.next ())) (fun _ => (.inl () : Unit ⊕ Bool)) a (fun t i x hx => by
    have hi := (List.getElem?_eq_some_iff.1 hx).1
    have hw : w64 ((i : Int) + 1) = ((i + 1 : Nat) : Int) := by rw [w64_id (by omega) (by omega)]; rfl
    unfold b_wormtubref06_Same_1
    rw [if_pos (by simp; omega)]
    simp only [idxL_nat, hx, Option.bind_some, same_refl, Bool.not_true, Bool.false_eq_true, if_false, bindv, hw]
    rfl) (fun t => by unfold b_wormtubref06_Same_1; rw [if_neg (by simp)]) ()
  have hg : ∀ (l : List ApiCask) (i : Nat), goL (fun (_ : Unit) _ (_ : ApiCask) => some (.next ())) (fun _ => (.inl () : Unit ⊕ Bool)) l i () = some (.inl ()) := fun l => by
    induction l with
    | nil => intro i; rfl
    | cons x l ih => intro i; simp only [goL]; exact ih (i + 1)
  rw [hg] at hl
  have hl' : loopM (b_wormtubref06_Same_1 a a) 0 = some (.inl ()) := hl
  unfold m_wormtubref06_Same
  rw [if_neg (by simp), hl']; rfl
theorem Ints_self (a : List Int) (h : a.length ≤ 1000000) : m_wormtubref06_Ints a a = some true := by
  have hl := loop_list (body := b_wormtubref06_Ints_1 a a) (fun (_ : Unit) i => ((i : Nat) : Int)) (fun (_ : Unit) _ (_ : Int) => some (.next ())) (fun _ => (.inl () : Unit ⊕ Bool)) a (fun t i x hx => by
    have hi := (List.getElem?_eq_some_iff.1 hx).1
    have hw : w64 ((i : Int) + 1) = ((i + 1 : Nat) : Int) := by rw [w64_id (by omega) (by omega)]; rfl
    unfold b_wormtubref06_Ints_1
    rw [if_pos (by simp; omega)]
    simp only [idxL_nat, hx, Option.bind_some, bindv, hw, bne_self_eq_false, Bool.false_eq_true, if_false]
    rfl) (fun t => by unfold b_wormtubref06_Ints_1; rw [if_neg (by simp)]) ()
  have hg : ∀ (l : List Int) (i : Nat), goL (fun (_ : Unit) _ (_ : Int) => some (.next ())) (fun _ => (.inl () : Unit ⊕ Bool)) l i () = some (.inl ()) := fun l => by
    induction l with
    | nil => intro i; rfl
    | cons x l ih => intro i; simp only [goL]; exact ih (i + 1)
  rw [hg] at hl
  have hl' : loopM (b_wormtubref06_Ints_1 a a) 0 = some (.inl ()) := hl
  unfold m_wormtubref06_Ints
  rw [if_neg (by simp), hl']; rfl
end Go.Proofs.Ytkedjmhhcekmiaa
end

section
namespace Go.Proofs.Ytkedjmhhcekmiaa
open Go.Dec
def smp : List Ev := [(ApiCaskEvent.mk 0 0 1 2 9 0 500 0), (ApiCaskEvent.mk 0 0 2 3 9 0 300 1), (ApiCaskEvent.mk 1 0 1 0 0 0 400 0), (ApiCaskEvent.mk 2 100 1 2 0 0 150 0), (ApiCaskEvent.mk 4 150 1 0 0 0 0 4), (ApiCaskEvent.mk 1 150 2 0 0 0 50 0), (ApiCaskEvent.mk 6 200 2 0 9 30 0 0)]
def nbR (r : List Held ⊕ Int) : List Int := match r with
  | .inl a => a.map (·.C.Number)
  | .inr _ => []
def ocR (ks : List Int) (r : List Held ⊕ Int) : List ApiCask := match r with
  | .inl a => (ks.filterMap (findH a)).map (·.C)
  | .inr _ => []
theorem own_by {l : List Ev} {p day : Int} {ks : List Int} (hl : (playS l day).1.isLeft = true) (hn : nbR (playS l day).1 = ks) (hk : ks.Pairwise (· < ·)) : ownS l p day = (ownC p (ocR ks (playS l day).1), plgC p (ocR ks (playS l day).1), 0) := by
  unfold ownS allS'
  cases h : playS l day with
  | mk r k =>
    rw [h] at hl hn
    cases r with
    | inr e => cases hl
    | inl all =>
      obtain ⟨hok, _⟩ := playS_ok h
      have hn' : all.map (·.C.Number) = ks := hn
      have : numsS all = ks := sorted_ext (nums_sorted hok.nums) hk fun x => by rw [(nums_perm all).mem_iff, hn']
      simp only [ordS, this]
      rfl
theorem awake_true : m_wormtublaw06_awake = some true := by
  have hs : m_wormtublaw06_sample = some smp := rfl
  have ha : appO smp [(ApiCaskEvent.mk 3 200 2 0 0 0 10 0)] = some (smp ++ [(ApiCaskEvent.mk 3 200 2 0 0 0 10 0)]) := appO_some' (by decide)
  have e1 : ((((((((((((((tellS smp 2 140).1.Amount != 150) || ((tellS smp 2 140).1.Age != 140)) || (((tellS smp 2 140).1.Woods 2) != 100)) || (((tellS smp 2 140).1.Woods 3) != 40)) || (((tellS smp 2 140).1.Places 1) != 40)) || ((tellS smp 2 140).1.Creditor != (-1))) || ((tellS smp 2 140).2 != 0)) || ((tellS smp 2 200).1.Amount != 200)) || ((tellS smp 2 200).1.Age != 50)) || (((tellS smp 2 200).1.Woods 2) != 0)) || ((tellS smp 2 200).1.Creditor != 30)) || ((tellS smp 2 200).2 != 0)) || false) = false := by decide +kernel
  have e2 : srcS smp 2 200 = ([2, 5], 0) := by decide +kernel
  have e3 : (allS' (smp ++ [(ApiCaskEvent.mk 3 200 2 0 0 0 10 0)]) 200).2 = (7, 11) := by decide +kernel
  have e4 : ownS smp 30 200 = ([], [2], 0) := by
    rw [own_by (ks := [1, 2]) (by decide +kernel) (by decide +kernel) (by decide)]
    decide +kernel
  have i1 : m_wormtubref06_Ints [2, 5] [2, 5] = some true := Ints_self _ (by decide)
  have i2 : m_wormtubref06_Ints [2] [2] = some true := Ints_self _ (by decide)
  rw [Bool.or_false] at e1
  unfold m_wormtublaw06_awake
  refine bind_of hs (bind_of (At_prog _ _ _) (bind_of (At_prog _ _ _) (bind_of (Sources_prog _ _ _) (bind_of ha (bind_of (Play_prog _ _) (bind_of (Owned_prog _ _ _) ?_))))))
  rw [e1, e2, e4]
  have e5 : (allS' (smp ++ [(ApiCaskEvent.mk 3 200 2 0 0 0 10 0)]) 200).2.1 = 7 := by rw [e3]
  have e6 : (allS' (smp ++ [(ApiCaskEvent.mk 3 200 2 0 0 0 10 0)]) 200).2.2 = 11 := by rw [e3]
  simp only [Bool.false_eq_true, if_false, i1, Option.bind_some, e5, e6]
  simp [i2]
end Go.Proofs.Ytkedjmhhcekmiaa
end

section
namespace Go.Proofs.Ytkedjmhhcekmiaa
open Go.Dec
inductive EvD (l : List Held) (x : Ev) (num : Int) : List Held → Prop
  | make (k : x.Kind = 0) (f : findS l x.Cask = none) (n : l.length < 256) : EvD l x num (l ++ [newS x])
  | fill (k : x.Kind = 1) (i : Nat) (c : Held) (f : findS l x.Cask = some i) (h : l[i]? = some c) (r : c.C.Amount + x.Amount ≤ c.C.Room) : EvD l x num (l.set i (pourS c (fillS num) x.Amount))
  | rack (k : x.Kind = 2) (i : Nat) (c : Held) (f : findS l x.Cask = some i) (h : l[i]? = some c) (j : Nat) (o : Held) (f' : findS l x.Other = some j) (h' : l[j]? = some o) (ne : i ≠ j)
      (ow : c.C.Owner = o.C.Owner) (c1 : c.C.Creditor < 0) (c2 : o.C.Creditor < 0) (a : x.Amount ≤ c.C.Amount) (r : o.C.Amount + x.Amount ≤ o.C.Room) : EvD l x num ((l.set j (pourS o c x.Amount)).set i (lessS c x.Amount))
  | drain (k : x.Kind = 3) (i : Nat) (c : Held) (f : findS l x.Cask = some i) (h : l[i]? = some c) (c1 : c.C.Creditor < 0) (a : x.Amount ≤ c.C.Amount) : EvD l x num (l.set i (lessS c x.Amount))
  | carry (k : x.Kind = 4) (i : Nat) (c : Held) (f : findS l x.Cask = some i) (h : l[i]? = some c) : EvD l x num (l.set i { c with C := { c.C with Place := x.Where } })
  | sell (k : x.Kind = 5) (i : Nat) (c : Held) (f : findS l x.Cask = some i) (h : l[i]? = some c) (o : c.C.Owner = x.Person) (c1 : c.C.Creditor < 0) (t : x.To ≠ c.C.Owner) : EvD l x num (l.set i { c with C := { c.C with Owner := x.To } })
  | pledge (k : x.Kind = 6) (i : Nat) (c : Held) (f : findS l x.Cask = some i) (h : l[i]? = some c) (o : c.C.Owner = x.Person) (c1 : c.C.Creditor < 0) : EvD l x num (l.set i { c with C := { c.C with Creditor := x.To } })
  | free (k : x.Kind = 7) (i : Nat) (c : Held) (f : findS l x.Cask = some i) (h : l[i]? = some c) (c1 : c.C.Creditor = x.Person) : EvD l x num (l.set i { c with C := { c.C with Creditor := -1 } })
  | char (k : x.Kind = 8) (i : Nat) (c : Held) (f : findS l x.Cask = some i) (h : l[i]? = some c) (a : c.C.Amount ≤ 0) : EvD l x num (l.set i { c with C := { c.C with Wood := x.Where } })
theorem deed_act {l l' : List Held} {i : Nat} {c : Held} {x : Ev} {num : Int} (hv : evB x = true) (h0 : x.Kind ≠ 0) (f : findS l x.Cask = some i) (hc : l[i]? = some c) (h : actS l i c x num = .inl l') : EvD l x num l' := by
  rcases kinds hv with k | k | k | k | k | k | k | k | k
  · exact absurd k h0
  · have h : fillD l i c x num = .inl l' := by rw [← h]; unfold actS; rw [k]; rfl
    unfold fillD at h
    split at h
    · cases h
    · cases h; exact .fill k i c f hc (by omega)
  · have h : rackD l i c x = .inl l' := by rw [← h]; unfold actS; rw [k]; rfl
    unfold rackD at h
    split at h
    · cases h
    · rename_i j hj
      split at h
      · cases h
      · rename_i o ho
        unfold rackD2 at h
        split at h
        · cases h
        · rename_i hij
          split at h
          · cases h
          · rename_i hr
            split at h
            · cases h
            · split at h
              · cases h
              · cases h
                simp only [Bool.or_eq_true, bne_iff_ne, ne_eq, decide_eq_true_eq, not_or, Decidable.not_not, ge_iff_le] at hr
                exact .rack k i c f hc j o hj ho (fun e => hij (by simp [e])) hr.1.1 (by omega) (by omega) (by omega) (by omega)
  · have h : drainD l i c x = .inl l' := by rw [← h]; unfold actS; rw [k]; rfl
    unfold drainD at h
    split at h
    · cases h
    · split at h
      · cases h
      · cases h; exact .drain k i c f hc (by omega) (by omega)
  · have h : carryD l i c x = .inl l' := by rw [← h]; unfold actS; rw [k]; rfl
    cases h; exact .carry k i c f hc
  · have h : sellD l i c x = .inl l' := by rw [← h]; unfold actS; rw [k]; rfl
    unfold sellD at h
    split at h
    · cases h
    · rename_i hr
      split at h
      · cases h
      · rename_i ht
        cases h
        simp only [Bool.or_eq_true, bne_iff_ne, ne_eq, decide_eq_true_eq, not_or, Decidable.not_not, ge_iff_le] at hr
        exact .sell k i c f hc hr.1 (by omega) (fun e => ht (by simp [e]))
  · have h : pledgeD l i c x = .inl l' := by rw [← h]; unfold actS; rw [k]; rfl
    unfold pledgeD at h
    split at h
    · cases h
    · rename_i ho
      split at h
      · cases h
      · cases h
        exact .pledge k i c f hc (by simpa using ho) (by omega)
  · have h : freeD l i c x = .inl l' := by rw [← h]; unfold actS; rw [k]; rfl
    unfold freeD at h
    split at h
    · cases h
    · rename_i ho
      cases h
      exact .free k i c f hc (by simpa using ho)
  · have h : charD l i c x = .inl l' := by rw [← h]; unfold actS; rw [k]; rfl
    unfold charD at h
    split at h
    · cases h
    · cases h; exact .char k i c f hc (by omega)
theorem deed_of {l l' : List Held} {x : Ev} {num : Int} (hv : evB x = true) (h : doS l x num = .inl l') : EvD l x num l' := by
  unfold doS at h
  split at h
  · rename_i hk
    unfold makeD at h
    split at h
    · cases h
    · rename_i hf
      split at h
      · cases h
      · cases h
        exact .make (beq_iff_eq.1 hk) (by simpa using hf) (by omega)
  · rename_i hk
    split at h
    · cases h
    · rename_i i hi
      split at h
      · cases h
      · rename_i c hc
        exact deed_act hv (fun e => hk (by simp [e])) hi hc h
theorem step_deed {n : Nat} {s s' : Cur} {x : Ev} (h : stepS n s x = .inl s') : evB x = true ∧ s.last ≤ x.Day ∧ ∃ l', s' = ⟨l', x.Day⟩ ∧ EvD (atS x.Day s) x n l' := by
  unfold stepS at h
  split at h
  · cases h
  · rename_i hv
    have hv : evB x = true := by simpa using hv
    split at h
    · cases h
    · rename_i hd
      split at h
      · rename_i all hall
        cases h
        exact ⟨hv, by omega, all, rfl, deed_of hv hall⟩
      · cases h
theorem go_hist {day : Int} (I : List Ev → Cur → Prop) (hs : ∀ pre x s l', I pre s → SOk pre.length s → evB x = true → s.last ≤ x.Day → x.Day ≤ day → EvD (atS x.Day s) x pre.length l' → I (pre ++ [x]) ⟨l', x.Day⟩) :
    ∀ (l pre : List Ev) (s s' : Cur) (k : Nat), I pre s → SOk pre.length s → goS day l pre.length s = (.inl s', k) → ∃ q, k = pre.length + q ∧ q ≤ l.length ∧ I (pre ++ l.take q) s' ∧ SOk k s' ∧ (s.last ≤ day → s'.last ≤ day) ∧ ∀ x, l[q]? = some x → day < x.Day
  | [], pre, s, s', k, hI, ho, h => by
    simp only [goS, Prod.mk.injEq, Sum.inl.injEq] at h
    obtain ⟨rfl, rfl⟩ := h
    exact ⟨0, rfl, Nat.le_refl _, by simpa using hI, ho, id, fun x hx => by simp at hx⟩
  | x :: l, pre, s, s', k, hI, ho, h => by
    simp only [goS] at h
    by_cases hx : x.Day ≤ day
    · rw [if_pos hx] at h
      cases hst : stepS pre.length s x with
      | inl s1 =>
        rw [hst] at h
        obtain ⟨hv, hd, l', rfl, hdeed⟩ := step_deed hst
        obtain ⟨h1, _, _, h4⟩ := step_ok ho hst
        have hI' := hs pre x s l' hI ho hv hd hx hdeed
        have e : (pre ++ [x]).length = pre.length + 1 := by simp
        obtain ⟨q, g1, g2, g3, g4, g5, g6⟩ := go_hist I hs l (pre ++ [x]) ⟨l', x.Day⟩ s' k hI' (by rw [e]; exact h1) (by rw [e]; exact h)
        refine ⟨q + 1, by rw [g1, e]; omega, by simp; omega, by simpa using g3, g4, fun _ => g5 hx, fun y hy => g6 y (by simpa using hy)⟩
      | inr e => rw [hst] at h; cases h
    · rw [if_neg hx] at h
      simp only [Prod.mk.injEq, Sum.inl.injEq] at h
      obtain ⟨rfl, rfl⟩ := h
      exact ⟨0, rfl, Nat.zero_le _, by simpa using hI, ho, id, fun y hy => by simp at hy; subst hy; omega⟩
theorem play_hist {l : List Ev} {day : Int} {all : List Held} {k : Nat} (I : List Ev → Cur → Prop) (h0 : I [] ⟨[], 0⟩) (hs : ∀ pre x s l', I pre s → SOk pre.length s → evB x = true → s.last ≤ x.Day → x.Day ≤ day → EvD (atS x.Day s) x pre.length l' → I (pre ++ [x]) ⟨l', x.Day⟩)
    (h : playS l day = (.inl all, k)) : ∃ s, all = atS day s ∧ I (l.take k) s ∧ SOk k s ∧ s.last ≤ day ∧ 0 ≤ day ∧ day ≤ 65536 ∧ k ≤ l.length ∧ ∀ x, l[k]? = some x → day < x.Day := by
  unfold playS at h
  split at h
  · cases h
  · split at h
    · cases h
    · rename_i hb
      have hday : inB day 0 65536 = true := by simpa using hb
      have hday := inB_iff.1 hday
      unfold runS at h
      cases hg : goS day l 0 ⟨[], 0⟩ with
      | mk r q =>
        rw [hg] at h
        cases r with
        | inr e => cases h
        | inl s' =>
          cases h
          obtain ⟨p, g1, g2, g3, g4, g5, g6⟩ := go_hist I hs l [] ⟨[], 0⟩ s' _ h0 SOk.start hg
          have : p = k := by rw [g1]; simp
          subst this
          exact ⟨s', rfl, by simpa using g3, g4, g5 hday.1, hday.1, hday.2, g2, g6⟩
theorem go_le {day : Int} : ∀ (l : List Ev) (n : Nat) (s : Cur) (r : Cur ⊕ Int) (k : Nat), goS day l n s = (r, k) → k ≤ n + l.length
  | [], n, s, r, k, h => by
    simp only [goS, Prod.mk.injEq] at h
    simp [← h.2]
  | x :: l, n, s, r, k, h => by
    simp only [goS] at h
    split at h
    · split at h
      · have := go_le l _ _ _ _ h
        simp; omega
      · simp only [Prod.mk.injEq] at h
        simp [← h.2]
    · simp only [Prod.mk.injEq] at h
      simp [← h.2]
theorem play_le {l : List Ev} {day : Int} {r : List Held ⊕ Int} {k : Nat} (h : playS l day = (r, k)) : k ≤ l.length := by
  unfold playS at h
  split at h
  · simp only [Prod.mk.injEq] at h; omega
  · split at h
    · simp only [Prod.mk.injEq] at h; omega
    · unfold runS at h
      cases hg : goS day l 0 ⟨[], 0⟩ with
      | mk r' q =>
        have := go_le _ _ _ _ _ hg
        rw [hg] at h
        cases r' <;> (simp only [Prod.mk.injEq] at h; omega)
end Go.Proofs.Ytkedjmhhcekmiaa
end

section
namespace Go.Proofs.Ytkedjmhhcekmiaa
open Go.Dec
def stG : Nat → Cur → List Ev → Option Cur
  | _, s, [] => some s
  | n, s, x :: l => match stepS n s x with
    | .inl s' => stG (n + 1) s' l
    | .inr _ => none
def stS (l : List Ev) : Option Cur := stG 0 ⟨[], 0⟩ l
theorem go_st {day : Int} : ∀ (l : List Ev) (n : Nat) (s s' : Cur) (k : Nat), goS day l n s = (.inl s', k) → ∃ q, k = n + q ∧ q ≤ l.length ∧ stG n s (l.take q) = some s' ∧ (s.last ≤ day → s'.last ≤ day) ∧ (∀ x ∈ l.take q, x.Day ≤ day) ∧ ∀ x, l[q]? = some x → day < x.Day
  | [], n, s, s', k, h => by
    simp only [goS, Prod.mk.injEq, Sum.inl.injEq] at h
    obtain ⟨rfl, rfl⟩ := h
    exact ⟨0, rfl, Nat.le_refl _, rfl, id, fun x hx => by simp at hx, fun x hx => by simp at hx⟩
  | x :: l, n, s, s', k, h => by
    simp only [goS] at h
    by_cases hx : x.Day ≤ day
    · rw [if_pos hx] at h
      cases hst : stepS n s x with
      | inl s1 =>
        rw [hst] at h
        obtain ⟨q, g1, g2, g3, g4, g5, g6⟩ := go_st l (n + 1) s1 s' k h
        obtain ⟨_, _, l', rfl, _⟩ := step_deed hst
        refine ⟨q + 1, by omega, by simp; omega, ?_, fun _ => g4 hx, fun y hy => ?_, fun y hy => g6 y (by simpa using hy)⟩
        · simp only [List.take_succ_cons, stG, hst]; exact g3
        · rw [List.take_succ_cons] at hy
          rcases List.mem_cons.1 hy with rfl | hy
          · exact hx
          · exact g5 y hy
      | inr e => rw [hst] at h; cases h
    · rw [if_neg hx] at h
      simp only [Prod.mk.injEq, Sum.inl.injEq] at h
      obtain ⟨rfl, rfl⟩ := h
      exact ⟨0, rfl, Nat.zero_le _, rfl, id, fun y hy => by simp at hy, fun y hy => by simp at hy; subst hy; omega⟩
theorem play_st {l : List Ev} {day : Int} {all : List Held} {k : Nat} (h : playS l day = (.inl all, k)) : ∃ s, all = atS day s ∧ stS (l.take k) = some s ∧ s.last ≤ day ∧ k ≤ l.length ∧ (∀ x ∈ l.take k, x.Day ≤ day) ∧ ∀ x, l[k]? = some x → day < x.Day := by
  unfold playS at h
  split at h
  · cases h
  · split at h
    · cases h
    · rename_i hb
      have hday : inB day 0 65536 = true := by simpa using hb
      have hday := inB_iff.1 hday
      unfold runS at h
      cases hg : goS day l 0 ⟨[], 0⟩ with
      | mk r q =>
        rw [hg] at h
        cases r with
        | inr e => cases h
        | inl s' =>
          cases h
          obtain ⟨p, g1, g2, g3, g4, g5, g6⟩ := go_st l 0 ⟨[], 0⟩ s' _ hg
          have : p = k := by omega
          subst this
          exact ⟨s', rfl, g3, g4 hday.1, g2, g5, g6⟩
end Go.Proofs.Ytkedjmhhcekmiaa
end

section
namespace Go.Proofs.Ytkedjmhhcekmiaa
open Go.Dec
theorem find_same {n : Int} : ∀ {a b : List Held}, a.map (·.C.Number) = b.map (·.C.Number) → findS a n = findS b n
  | [], [], _ => rfl
  | [], _ :: _, h => by simp at h
  | _ :: _, [], h => by simp at h
  | x :: a, y :: b, h => by
    simp only [List.map_cons, List.cons.injEq] at h
    simp only [findS, h.1, find_same h.2]
theorem set_nums {l : List Held} {i : Nat} {c h' : Held} (hi : l[i]? = some c) (hn : h'.C.Number = c.C.Number) : (l.set i h').map (·.C.Number) = l.map (·.C.Number) := by
  apply List.ext_getElem?
  intro j
  simp only [List.getElem?_map, List.getElem?_set]
  by_cases e : i = j
  · subst e
    have hlt := (List.getElem?_eq_some_iff.1 hi).1
    have hh := (List.getElem?_eq_some_iff.1 hi).2
    simp [hlt, hn, hh]
  · simp [e]
theorem findH_set {l : List Held} {i : Nat} {c h' : Held} (hnd : (l.map (·.C.Number)).Nodup) (hi : l[i]? = some c) (hn : h'.C.Number = c.C.Number) (n : Int) : findH (l.set i h') n = if n = c.C.Number then some h' else findH l n := by
  unfold findH
  rw [find_same (set_nums hi hn)]
  have hlt := (List.getElem?_eq_some_iff.1 hi).1
  by_cases e : n = c.C.Number
  · subst e
    rw [if_pos rfl, find_of hnd hi, Option.bind_some, List.getElem?_set_self hlt]
  · rw [if_neg e]
    cases hf : findS l n with
    | none => rfl
    | some j =>
      obtain ⟨h, h1, h2⟩ := find_some hf
      have : i ≠ j := fun e' => by subst e'; rw [hi] at h1; cases h1; exact e h2.symm
      simp only [Option.bind_some]
      rw [List.getElem?_set_ne this]
theorem find_app_none {n : Int} {h : Held} : ∀ {l : List Held}, findS l n = none → findS (l ++ [h]) n = if h.C.Number == n then some l.length else none
  | [], _ => by simp [findS]
  | y :: l, e => by
    simp only [findS] at e
    by_cases hy : (y.C.Number == n) = true
    · rw [if_pos hy] at e; cases e
    · rw [if_neg hy] at e
      have e' : findS l n = none := by simpa using e
      simp only [List.cons_append, findS]
      rw [if_neg hy, find_app_none e']
      split <;> simp
theorem find_app_some {n : Int} {h : Held} {j : Nat} : ∀ {l : List Held}, findS l n = some j → findS (l ++ [h]) n = some j
  | [], e => by cases e
  | y :: l, e => by
    simp only [findS] at e
    simp only [List.cons_append, findS]
    by_cases hy : (y.C.Number == n) = true
    · rw [if_pos hy] at e ⊢; exact e
    · rw [if_neg hy] at e ⊢
      cases hf : findS l n with
      | none => rw [hf] at e; cases e
      | some q => rw [hf] at e; rw [find_app_some hf]; exact e
theorem findH_app {l : List Held} {h : Held} (hf : findS l h.C.Number = none) (n : Int) : findH (l ++ [h]) n = if n = h.C.Number then some h else findH l n := by
  unfold findH
  by_cases e : n = h.C.Number
  · subst e
    rw [if_pos rfl, find_app_none hf]
    simp
  · rw [if_neg e]
    cases hg : findS l n with
    | none =>
      rw [find_app_none hg]
      have : (h.C.Number == n) = false := by simpa using fun e' => e e'.symm
      simp [this]
    | some j =>
      rw [find_app_some hg]
      obtain ⟨x, h1, _⟩ := find_some hg
      simp only [Option.bind_some]
      rw [List.getElem?_append_left (List.getElem?_eq_some_iff.1 h1).1]
theorem findH_older (d : Int) (l : List Held) (n : Int) : findH (l.map (olderS d)) n = (findH l n).map (olderS d) := by
  unfold findH
  rw [find_map (fun h => older_num)]
  cases findS l n with
  | none => rfl
  | some i => simp
theorem findH_of {l : List Held} {n : Int} {i : Nat} {c : Held} (f : findS l n = some i) (h : l[i]? = some c) : findH l n = some c := by simp [findH, f, h]
theorem findH_num {l : List Held} {n : Int} {c : Held} (h : findH l n = some c) : c.C.Number = n ∧ c ∈ l := by
  unfold findH at h
  cases hf : findS l n with
  | none => rw [hf] at h; cases h
  | some i =>
    rw [hf, Option.bind_some] at h
    obtain ⟨c', h1, h2⟩ := find_some hf
    rw [h] at h1; cases h1
    exact ⟨h2, List.mem_of_getElem? h⟩
theorem find_num {l : List Held} {n : Int} {i : Nat} {c : Held} (f : findS l n = some i) (h : l[i]? = some c) : c.C.Number = n := (findH_num (findH_of f h)).1
end Go.Proofs.Ytkedjmhhcekmiaa
end

section
namespace Go.Proofs.Ytkedjmhhcekmiaa
open Go.Dec
abbrev CV := Int → Option ApiCask
def updV (V : CV) (q : Int) (c : ApiCask) : CV := fun n => if n = q then some c else V n
def pourC (c s : ApiCask) (n : Int) : ApiCask := (pourS ⟨c, []⟩ ⟨s, []⟩ n).C
def lessC (c : ApiCask) (n : Int) : ApiCask := (lessS ⟨c, []⟩ n).C
def olderC (n : Int) (c : ApiCask) : ApiCask := (olderS n ⟨c, []⟩).C
theorem pour_C (h s : Held) (n : Int) : (pourS h s n).C = pourC h.C s.C n := by unfold pourC pourS; split <;> rfl
theorem less_C (h : Held) (n : Int) : (lessS h n).C = lessC h.C n := by unfold lessC lessS; split <;> rfl
theorem older_Cc (n : Int) (h : Held) : (olderS n h).C = olderC n h.C := by unfold olderC olderS; split <;> rfl
def ageV (n : Int) (V : CV) : CV := fun q => (V q).map (olderC n)
def RelV (l : List Held) (V : CV) : Prop := ∀ n, (findH l n).map (·.C) = V n
inductive EvV (V : CV) (x : Ev) : CV → Prop
  | make (k : x.Kind = 0) (f : V x.Cask = none) : EvV V x (updV V x.Cask (newS x).C)
  | fill (k : x.Kind = 1) (c : ApiCask) (f : V x.Cask = some c) (r : c.Amount + x.Amount ≤ c.Room) : EvV V x (updV V x.Cask (pourC c (fillS 0).C x.Amount))
  | rack (k : x.Kind = 2) (c o : ApiCask) (f : V x.Cask = some c) (f' : V x.Other = some o) (ne : x.Cask ≠ x.Other) (ow : c.Owner = o.Owner) (c1 : c.Creditor < 0) (c2 : o.Creditor < 0) (a : x.Amount ≤ c.Amount) (r : o.Amount + x.Amount ≤ o.Room) :
      EvV V x (updV (updV V x.Other (pourC o c x.Amount)) x.Cask (lessC c x.Amount))
  | drain (k : x.Kind = 3) (c : ApiCask) (f : V x.Cask = some c) (c1 : c.Creditor < 0) (a : x.Amount ≤ c.Amount) : EvV V x (updV V x.Cask (lessC c x.Amount))
  | carry (k : x.Kind = 4) (c : ApiCask) (f : V x.Cask = some c) : EvV V x (updV V x.Cask { c with Place := x.Where })
  | sell (k : x.Kind = 5) (c : ApiCask) (f : V x.Cask = some c) (o : c.Owner = x.Person) (c1 : c.Creditor < 0) (t : x.To ≠ c.Owner) : EvV V x (updV V x.Cask { c with Owner := x.To })
  | pledge (k : x.Kind = 6) (c : ApiCask) (f : V x.Cask = some c) (o : c.Owner = x.Person) (c1 : c.Creditor < 0) : EvV V x (updV V x.Cask { c with Creditor := x.To })
  | free (k : x.Kind = 7) (c : ApiCask) (f : V x.Cask = some c) (c1 : c.Creditor = x.Person) : EvV V x (updV V x.Cask { c with Creditor := -1 })
  | char (k : x.Kind = 8) (c : ApiCask) (f : V x.Cask = some c) (a : c.Amount ≤ 0) : EvV V x (updV V x.Cask { c with Wood := x.Where })
section
variable {l l' : List Held} {V V' : CV} {x : Ev} {num : Int} {i : Nat} {c h' : Held} {n : Int}
theorem RelV.at_ (r : RelV l V) (f : findS l n = some i) (h : l[i]? = some c) : V n = some c.C := by rw [← r n, findH_of f h]; rfl
theorem RelV.upd (r : RelV l V) (hnd : (l.map (·.C.Number)).Nodup) (f : findS l n = some i) (h : l[i]? = some c) (hn : h'.C.Number = c.C.Number) {u : ApiCask} (hu : h'.C = u) : RelV (l.set i h') (updV V n u) := fun q => by
  have hq := find_num f h
  rw [findH_set hnd h hn, hq]
  unfold updV
  by_cases e : q = n
  · rw [if_pos e, if_pos e, ← hu]; rfl
  · rw [if_neg e, if_neg e]; exact r q
theorem fwd (r : RelV l V) (hnd : (l.map (·.C.Number)).Nodup) (d : EvD l x num l') : ∃ V', EvV V x V' ∧ RelV l' V' := by
  cases d with
  | make k f n =>
    have h0 : V x.Cask = none := by rw [← r x.Cask]; simp [findH, f]
    refine ⟨_, .make k h0, fun q => ?_⟩
    rw [findH_app (h := newS x) f]
    unfold updV
    by_cases e : q = x.Cask
    · rw [if_pos (show q = (newS x).C.Number from e), if_pos e]; rfl
    · rw [if_neg (show ¬ q = (newS x).C.Number from e), if_neg e]; exact r q
  | fill k i c f h rm => exact ⟨_, .fill k c.C (r.at_ f h) rm, r.upd hnd f h (by unfold pourS; split <;> rfl) (pour_C _ _ _)⟩
  | rack k i c f h j o f' h2 ne ow c1 c2 a rm =>
    have hne : x.Cask ≠ x.Other := fun e => by rw [e, f'] at f; cases f; exact ne rfl
    have hn : (pourS o c x.Amount).C.Number = o.C.Number := by unfold pourS; split <;> rfl
    refine ⟨_, .rack k c.C o.C (r.at_ f h) (r.at_ f' h2) hne ow c1 c2 a rm, ?_⟩
    have r1 := r.upd hnd f' h2 hn (pour_C o c x.Amount)
    have hnd1 : ((l.set j (pourS o c x.Amount)).map (·.C.Number)).Nodup := by rw [set_nums h2 hn]; exact hnd
    refine r1.upd hnd1 (i := i) (c := c) ?_ ?_ (by unfold lessS; split <;> rfl) (less_C c x.Amount)
    · rw [find_same (set_nums h2 hn)]; exact f
    · rw [List.getElem?_set_ne (Ne.symm ne)]; exact h
  | drain k i c f h c1 a => exact ⟨_, .drain k c.C (r.at_ f h) c1 a, r.upd hnd f h (by unfold lessS; split <;> rfl) (less_C _ _)⟩
  | carry k i c f h => exact ⟨_, .carry k c.C (r.at_ f h), r.upd (h' := { c with C := { c.C with Place := x.Where } }) hnd f h rfl rfl⟩
  | sell k i c f h o c1 t => exact ⟨_, .sell k c.C (r.at_ f h) o c1 t, r.upd (h' := { c with C := { c.C with Owner := x.To } }) hnd f h rfl rfl⟩
  | pledge k i c f h o c1 => exact ⟨_, .pledge k c.C (r.at_ f h) o c1, r.upd (h' := { c with C := { c.C with Creditor := x.To } }) hnd f h rfl rfl⟩
  | free k i c f h c1 => exact ⟨_, .free k c.C (r.at_ f h) c1, r.upd (h' := { c with C := { c.C with Creditor := -1 } }) hnd f h rfl rfl⟩
  | char k i c f h a => exact ⟨_, .char k c.C (r.at_ f h) a, r.upd (h' := { c with C := { c.C with Wood := x.Where } }) hnd f h rfl rfl⟩
theorem RelV.find (r : RelV l V) {u : ApiCask} (h : V n = some u) : ∃ i c, findS l n = some i ∧ l[i]? = some c ∧ c.C = u := by
  rw [← r n] at h
  unfold findH at h
  cases hf : findS l n with
  | none => rw [hf] at h; cases h
  | some i =>
    rw [hf, Option.bind_some] at h
    obtain ⟨c, hc, _⟩ := find_some hf
    rw [hc] at h
    exact ⟨i, c, rfl, hc, by simpa using h⟩
theorem do_act (f : findS l x.Cask = some i) (h : l[i]? = some c) (k : x.Kind ≠ 0) : doS l x num = actS l i c x num := by
  have : (x.Kind == 0) = false := by simpa using k
  unfold doS
  rw [this, f]
  simp only [h]; rfl
theorem bwd (r : RelV l V) (hnd : (l.map (·.C.Number)).Nodup) (hlen : l.length < 256) (d : EvV V x V') : ∃ l', doS l x num = .inl l' ∧ RelV l' V' ∧ l'.length ≤ l.length + 1 := by
  cases d with
  | make k f =>
    have hf : findS l x.Cask = none := by
      cases hf : findS l x.Cask with
      | none => rfl
      | some i =>
        obtain ⟨c, hc, _⟩ := find_some hf
        rw [r.at_ hf hc] at f; cases f
    refine ⟨l ++ [newS x], ?_, fun q => ?_, by simp⟩
    · unfold doS makeD
      rw [if_pos (by simp [k]), hf, if_neg (by simp), if_neg (by omega)]
    · rw [findH_app (h := newS x) hf]
      unfold updV
      by_cases e : q = x.Cask
      · rw [if_pos (show q = (newS x).C.Number from e), if_pos e]; rfl
      · rw [if_neg (show ¬ q = (newS x).C.Number from e), if_neg e]; exact r q
  | fill k u f rm =>
    obtain ⟨i, c, g1, g2, rfl⟩ := r.find f
    refine ⟨l.set i (pourS c (fillS num) x.Amount), ?_, r.upd hnd g1 g2 (by unfold pourS; split <;> rfl) (pour_C _ _ _), by simp⟩
    rw [do_act g1 g2 (by omega)]
    have : actS l i c x num = fillD l i c x num := by unfold actS; rw [k]; rfl
    rw [this]; unfold fillD; rw [if_neg (by omega)]
  | rack k u v f f' hne ow c1 c2 a rm =>
    obtain ⟨i, c, g1, g2, rfl⟩ := r.find f
    obtain ⟨j, o, g3, g4, rfl⟩ := r.find f'
    have hn : (pourS o c x.Amount).C.Number = o.C.Number := by unfold pourS; split <;> rfl
    have hij : i ≠ j := fun e => by
      subst e
      rw [g2] at g4; cases g4
      exact hne ((find_num g1 g2).symm.trans (find_num g3 g2))
    refine ⟨(l.set j (pourS o c x.Amount)).set i (lessS c x.Amount), ?_, ?_, by simp⟩
    · rw [do_act g1 g2 (by omega)]
      have : actS l i c x num = rackD l i c x := by unfold actS; rw [k]; rfl
      rw [this]; unfold rackD
      rw [g3]
      simp only [g4]
      unfold rackD2
      rw [if_neg (by simpa using hij), if_neg (by simp [ow]; omega), if_neg (by omega), if_neg (by omega)]
    · have r1 := r.upd hnd g3 g4 hn (pour_C o c x.Amount)
      have hnd1 : ((l.set j (pourS o c x.Amount)).map (·.C.Number)).Nodup := by rw [set_nums g4 hn]; exact hnd
      refine r1.upd hnd1 (i := i) (c := c) ?_ ?_ (by unfold lessS; split <;> rfl) (less_C c x.Amount)
      · rw [find_same (set_nums g4 hn)]; exact g1
      · rw [List.getElem?_set_ne (Ne.symm hij)]; exact g2
  | drain k u f c1 a =>
    obtain ⟨i, c, g1, g2, rfl⟩ := r.find f
    refine ⟨l.set i (lessS c x.Amount), ?_, r.upd hnd g1 g2 (by unfold lessS; split <;> rfl) (less_C _ _), by simp⟩
    rw [do_act g1 g2 (by omega)]
    have : actS l i c x num = drainD l i c x := by unfold actS; rw [k]; rfl
    rw [this]; unfold drainD; rw [if_neg (by omega), if_neg (by omega)]
  | carry k u f =>
    obtain ⟨i, c, g1, g2, rfl⟩ := r.find f
    refine ⟨l.set i { c with C := { c.C with Place := x.Where } }, ?_, r.upd (h' := { c with C := { c.C with Place := x.Where } }) hnd g1 g2 rfl rfl, by simp⟩
    rw [do_act g1 g2 (by omega)]
    unfold actS; rw [k]; rfl
  | sell k u f o c1 t =>
    obtain ⟨i, c, g1, g2, rfl⟩ := r.find f
    refine ⟨l.set i { c with C := { c.C with Owner := x.To } }, ?_, r.upd (h' := { c with C := { c.C with Owner := x.To } }) hnd g1 g2 rfl rfl, by simp⟩
    rw [do_act g1 g2 (by omega)]
    have : actS l i c x num = sellD l i c x := by unfold actS; rw [k]; rfl
    rw [this]; unfold sellD; rw [if_neg (by simp [o]; omega), if_neg (by simpa using t)]
  | pledge k u f o c1 =>
    obtain ⟨i, c, g1, g2, rfl⟩ := r.find f
    refine ⟨l.set i { c with C := { c.C with Creditor := x.To } }, ?_, r.upd (h' := { c with C := { c.C with Creditor := x.To } }) hnd g1 g2 rfl rfl, by simp⟩
    rw [do_act g1 g2 (by omega)]
    have : actS l i c x num = pledgeD l i c x := by unfold actS; rw [k]; rfl
    rw [this]; unfold pledgeD; rw [if_neg (by simp [o]), if_neg (by omega)]
  | free k u f c1 =>
    obtain ⟨i, c, g1, g2, rfl⟩ := r.find f
    refine ⟨l.set i { c with C := { c.C with Creditor := -1 } }, ?_, r.upd (h' := { c with C := { c.C with Creditor := -1 } }) hnd g1 g2 rfl rfl, by simp⟩
    rw [do_act g1 g2 (by omega)]
    have : actS l i c x num = freeD l i c x := by unfold actS; rw [k]; rfl
    rw [this]; unfold freeD; rw [if_neg (by simp [c1])]
  | char k u f a =>
    obtain ⟨i, c, g1, g2, rfl⟩ := r.find f
    refine ⟨l.set i { c with C := { c.C with Wood := x.Where } }, ?_, r.upd (h' := { c with C := { c.C with Wood := x.Where } }) hnd g1 g2 rfl rfl, by simp⟩
    rw [do_act g1 g2 (by omega)]
    have : actS l i c x num = charD l i c x := by unfold actS; rw [k]; rfl
    rw [this]; unfold charD; rw [if_neg (by omega)]
theorem RelV.older (r : RelV l V) (d : Int) : RelV (l.map (olderS d)) (ageV d V) := fun n => by
  rw [findH_older]
  unfold ageV
  rw [← r n]
  cases findH l n with
  | none => rfl
  | some c => simp only [Option.map_some, older_Cc]
end
theorem olderC_0 (c : ApiCask) : olderC 0 c = c := by
  unfold olderC
  rw [older_0]
def par_ (n : Int) : Int := Int.tmod n 2
def OneP (x : Ev) : Prop := x.Kind = 2 → par_ x.Cask = par_ x.Other
theorem ev_local {V V' W : CV} {x : Ev} {p : Int} (d : EvV V x V') (ho : OneP x) (hp : par_ x.Cask = p) (hw : ∀ n, par_ n = p → W n = V n) : ∃ W', EvV W x W' ∧ (∀ n, par_ n = p → W' n = V' n) ∧ (∀ n, par_ n ≠ p → W' n = W n) ∧ ∀ n, par_ n ≠ p → V' n = V n := by
  have hc := hw x.Cask hp
  have one : ∀ (u : ApiCask), (∀ n, par_ n = p → updV W x.Cask u n = updV V x.Cask u n) ∧ (∀ n, par_ n ≠ p → updV W x.Cask u n = W n) ∧ ∀ n, par_ n ≠ p → updV V x.Cask u n = V n := fun u => by
    refine ⟨fun n hn => ?_, fun n hn => ?_, fun n hn => ?_⟩
    · unfold updV; split
      · rfl
      · exact hw n hn
    · unfold updV; rw [if_neg (fun e => hn (by rw [e]; exact hp))]
    · unfold updV; rw [if_neg (fun e => hn (by rw [e]; exact hp))]
  cases d with
  | make k f => exact ⟨_, .make k (by rw [hc]; exact f), one _⟩
  | fill k c f r => exact ⟨_, .fill k c (by rw [hc]; exact f) r, one _⟩
  | rack k c o f f' ne ow c1 c2 a r =>
    have hpo : par_ x.Other = p := by rw [← ho k]; exact hp
    refine ⟨_, .rack k c o (by rw [hc]; exact f) (by rw [hw _ hpo]; exact f') ne ow c1 c2 a r, fun n hn => ?_, fun n hn => ?_, fun n hn => ?_⟩
    · unfold updV; split
      · rfl
      · split
        · rfl
        · exact hw n hn
    · unfold updV; rw [if_neg (fun e => hn (by rw [e]; exact hp)), if_neg (fun e => hn (by rw [e]; exact hpo))]
    · unfold updV; rw [if_neg (fun e => hn (by rw [e]; exact hp)), if_neg (fun e => hn (by rw [e]; exact hpo))]
  | drain k c f c1 a => exact ⟨_, .drain k c (by rw [hc]; exact f) c1 a, one _⟩
  | carry k c f => exact ⟨_, .carry k c (by rw [hc]; exact f), one _⟩
  | sell k c f o c1 t => exact ⟨_, .sell k c (by rw [hc]; exact f) o c1 t, one _⟩
  | pledge k c f o c1 => exact ⟨_, .pledge k c (by rw [hc]; exact f) o c1, one _⟩
  | free k c f c1 => exact ⟨_, .free k c (by rw [hc]; exact f) c1, one _⟩
  | char k c f a => exact ⟨_, .char k c (by rw [hc]; exact f) a, one _⟩
inductive RunG : CV → List Ev → CV → Prop
  | nil (V : CV) : RunG V [] V
  | cons {V V1 V' : CV} {x : Ev} {l : List Ev} (d : EvV V x V1) (r : RunG V1 l V') : RunG V (x :: l) V'
theorem RunG.app {V V1 V' : CV} {a b : List Ev} (h : RunG V a V1) (k : RunG V1 b V') : RunG V (a ++ b) V' := by
  induction h with
  | nil V => exact k
  | cons d _ ih => exact .cons d (ih k)
theorem part_run {V V' : CV} {G : List Ev} (h : RunG V G V') : ∀ {W : CV} {p : Int}, (∀ x ∈ G, OneP x) → (∀ n, par_ n = p → W n = V n) → ∃ W', RunG W (G.filter fun x => par_ x.Cask == p) W' ∧ (∀ n, par_ n = p → W' n = V' n) ∧ ∀ n, par_ n ≠ p → W' n = W n := by
  induction h with
  | nil V => intro W p _ hw; exact ⟨W, .nil W, hw, fun _ _ => rfl⟩
  | @cons V V1 V' x l d _ ih =>
    intro W p ho hw
    by_cases hp : par_ x.Cask = p
    · obtain ⟨W1, d1, h1, h2, h3⟩ := ev_local d (ho x (by simp)) hp hw
      obtain ⟨W', r', k1, k2⟩ := ih (fun y hy => ho y (List.mem_cons_of_mem _ hy)) h1
      refine ⟨W', ?_, k1, fun n hn => by rw [k2 n hn, h2 n hn]⟩
      rw [List.filter_cons, if_pos (by simp [hp])]
      exact .cons d1 r'
    · obtain ⟨_, _, _, _, h3⟩ := ev_local (W := V) d (ho x (by simp)) rfl (fun _ _ => rfl)
      obtain ⟨W', r', k1, k2⟩ := ih (W := W) (p := p) (fun y hy => ho y (List.mem_cons_of_mem _ hy)) (fun n hn => by rw [hw n hn, h3 n (fun e => hp (by rw [← e]; exact hn))])
      refine ⟨W', ?_, k1, k2⟩
      rw [List.filter_cons, if_neg (by simp [hp])]
      exact r'
theorem par_two (n : Int) : n < 0 ∨ par_ n = 0 ∨ par_ n = 1 := by
  unfold par_
  by_cases h : n < 0
  · exact .inl h
  · have := Int.tmod_eq_emod_of_nonneg (b := 2) (show 0 ≤ n by omega)
    omega
end Go.Proofs.Ytkedjmhhcekmiaa
end

section
namespace Go.Proofs.Ytkedjmhhcekmiaa
open Go.Dec
theorem Try.own : ownKnob Try.prog.godebug = none := by kernel_rfl
theorem Try.laidOut : laidOutB Try.prog = true := by kernel_rfl
def okApiCaskEvent (x : ApiCaskEvent) : Prop := (Lit.int .i64 x.Kind).wf = true ∧ (Lit.int .i64 x.Day).wf = true ∧ (Lit.int .i64 x.Cask).wf = true ∧ (Lit.int .i64 x.Other).wf = true ∧ (Lit.int .i64 x.Person).wf = true ∧ (Lit.int .i64 x.To).wf = true ∧ (Lit.int .i64 x.Amount).wf = true ∧ (Lit.int .i64 x.Where).wf = true
theorem vApiCaskEvent {H : Type} {enc : TypeId × Value → H} {W : World} : Viewed enc Try.prog W 45 (Ex cApiCaskEvent) okApiCaskEvent := by
 intro sp held fuel cs x h
 obtain ⟨xs, k, _, _, hl, hxl, hx⟩ := DataW.trod_struct Try.underlying45 h
 have hl' : cs.length = 8 := hl.trans (by kernel_rfl)
 obtain ⟨y0, h0⟩ := some_of (hx 0 _ rfl) hxl rfl
 have e0 : Try.prog.cellsOf 3 = 1 := by kernel_rfl
 obtain ⟨m0, o0, q0⟩ := (Viewed.int Try.underlying3) _ _ _ _ _ h0
 obtain ⟨y1, h1⟩ := some_of (hx 1 _ rfl) hxl rfl
 have e1 : Try.prog.cellsOf 3 = 1 := by kernel_rfl
 obtain ⟨m1, o1, q1⟩ := (Viewed.int Try.underlying3) _ _ _ _ _ h1
 obtain ⟨y2, h2⟩ := some_of (hx 2 _ rfl) hxl rfl
 have e2 : Try.prog.cellsOf 3 = 1 := by kernel_rfl
 obtain ⟨m2, o2, q2⟩ := (Viewed.int Try.underlying3) _ _ _ _ _ h2
 obtain ⟨y3, h3⟩ := some_of (hx 3 _ rfl) hxl rfl
 have e3 : Try.prog.cellsOf 3 = 1 := by kernel_rfl
 obtain ⟨m3, o3, q3⟩ := (Viewed.int Try.underlying3) _ _ _ _ _ h3
 obtain ⟨y4, h4⟩ := some_of (hx 4 _ rfl) hxl rfl
 have e4 : Try.prog.cellsOf 3 = 1 := by kernel_rfl
 obtain ⟨m4, o4, q4⟩ := (Viewed.int Try.underlying3) _ _ _ _ _ h4
 obtain ⟨y5, h5⟩ := some_of (hx 5 _ rfl) hxl rfl
 have e5 : Try.prog.cellsOf 3 = 1 := by kernel_rfl
 obtain ⟨m5, o5, q5⟩ := (Viewed.int Try.underlying3) _ _ _ _ _ h5
 obtain ⟨y6, h6⟩ := some_of (hx 6 _ rfl) hxl rfl
 have e6 : Try.prog.cellsOf 3 = 1 := by kernel_rfl
 obtain ⟨m6, o6, q6⟩ := (Viewed.int Try.underlying3) _ _ _ _ _ h6
 obtain ⟨y7, h7⟩ := some_of (hx 7 _ rfl) hxl rfl
 have e7 : Try.prog.cellsOf 3 = 1 := by kernel_rfl
 obtain ⟨m7, o7, q7⟩ := (Viewed.int Try.underlying3) _ _ _ _ _ h7
 refine ⟨⟨m0, m1, m2, m3, m4, m5, m6, m7⟩, ⟨o0, o1, o2, o3, o4, o5, o6, o7⟩, fun F' le => ?_⟩
 have w0 : (cs.drop 0).take (Try.prog.cellsOf 3) = (cInt .i64) m0 := q0 F' le
 rw [e0] at w0
 have w1 : (cs.drop 1).take (Try.prog.cellsOf 3) = (cInt .i64) m1 := q1 F' le
 rw [e1] at w1
 have w2 : (cs.drop 2).take (Try.prog.cellsOf 3) = (cInt .i64) m2 := q2 F' le
 rw [e2] at w2
 have w3 : (cs.drop 3).take (Try.prog.cellsOf 3) = (cInt .i64) m3 := q3 F' le
 rw [e3] at w3
 have w4 : (cs.drop 4).take (Try.prog.cellsOf 3) = (cInt .i64) m4 := q4 F' le
 rw [e4] at w4
 have w5 : (cs.drop 5).take (Try.prog.cellsOf 3) = (cInt .i64) m5 := q5 F' le
 rw [e5] at w5
 have w6 : (cs.drop 6).take (Try.prog.cellsOf 3) = (cInt .i64) m6 := q6 F' le
 rw [e6] at w6
 have w7 : (cs.drop 7).take (Try.prog.cellsOf 3) = (cInt .i64) m7 := q7 F' le
 rw [e7] at w7
 exact (cat_cons w0 (cat_cons w1 (cat_cons w2 (cat_cons w3 (cat_cons w4 (cat_cons w5 (cat_cons w6 (cat_cons w7 (cat_nil hl')))))))))
theorem vt22 {H : Type} {enc : TypeId × Value → H} {W : World} : Viewed enc Try.prog W 22 (rSl 8 (Ex cApiCaskEvent)) (fun x => (∀ y1 ∈ x, okApiCaskEvent y1)) := (Viewed.slice (sz := 8) Try.underlying22 (by kernel_rfl) (by decide) vApiCaskEvent)
end Go.Proofs.Ytkedjmhhcekmiaa
end

section
namespace Go.Proofs.Ytkedjmhhcekmiaa
open Go.Dec Go.Shelf Go.RowKit Go.Maps Go.Sort
noncomputable def b_wormtublaw06_CaskApart_2 (l_1 : (List ApiCaskEvent)) (r_12 : ((List ApiCask) × Int × Int)) (s35 : (List ApiCaskEvent) × Int) (s42 : Int) : Option (Ctl (Int) ((Int) ⊕ (Bool))) :=
 (if (decide (s42 < r_12.2.1)) then ((idxL l_1 s42).bind fun x46 => (idxL l_1 s35.2).bind fun x56 => some (x46.Day == x56.Day)) else (some false) : Option (Bool)).bind fun j136 => if j136 then (((idxL l_1 s42).bind fun x140 => if (x140.Kind == 2) then ((idxL l_1 s42).bind fun x151 => (idxL l_1 s42).bind fun x161 => some ((Int.tmod (w64 (x151.Cask - x161.Other)) 2) != 0)) else (some false) : Option (Bool)).bind fun j261 => if j261 then ((m_wormtublaw06_awake).bind fun r_267 => some (.done (.inr r_267))) else (bindv (w64 (s42 + 1)) fun k268 => some (.next k268))) else (some (.done (.inl s42)))
noncomputable def b_wormtublaw06_CaskApart_4 (l_1 : (List ApiCaskEvent)) (b270 : Int) (s275 : (List ApiCaskEvent) × Int) (s282 : (List ApiCaskEvent) × Int) : Option (Ctl ((List ApiCaskEvent) × Int) (((List ApiCaskEvent)))) :=
 if (decide (s282.2 < b270)) then (((idxL l_1 s282.2).bind fun x289 => (if ((Int.tmod x289.Cask 2) == s275.2) then ((idxL l_1 s282.2).bind fun x300 => (appO s282.1 ([x300])).bind fun l_315 => some l_315) else (some s282.1) : Option ((List ApiCaskEvent))).bind fun j319 => some j319 : Option ((List ApiCaskEvent))).bind fun j325 => bindv (w64 (s282.2 + 1)) fun j331 => some (.next (j325, j331))) else (some (.done s282.1))
noncomputable def b_wormtublaw06_CaskApart_3 (l_1 : (List ApiCaskEvent)) (s35 : (List ApiCaskEvent) × Int) (b270 : Int) (s275 : (List ApiCaskEvent) × Int) : Option (Ctl ((List ApiCaskEvent) × Int) (((List ApiCaskEvent)))) :=
 if (decide (s275.2 < 2)) then ((loopM (b_wormtublaw06_CaskApart_4 l_1 b270 s275) (s275.1, s35.2)).bind fun b333 => bindv (w64 (s275.2 + 1)) fun part339 => some (.next (b333, part339))) else (some (.done s275.1))
noncomputable def b_wormtublaw06_CaskApart_1 (l_1 : (List ApiCaskEvent)) (r_12 : ((List ApiCask) × Int × Int)) (s35 : (List ApiCaskEvent) × Int) : Option (Ctl ((List ApiCaskEvent) × Int) (((List ApiCaskEvent)) ⊕ (Bool))) :=
 if (decide (s35.2 < r_12.2.1)) then ((loopM (b_wormtublaw06_CaskApart_2 l_1 r_12 s35) s35.2).bind fun b0 => match b0 with | .inl b270 => ((loopM (b_wormtublaw06_CaskApart_3 l_1 s35 b270) (s35.1, 0)).bind fun b341 => some (.next (b341, b270))) | .inr b270 => (some (.done (.inr b270)))) else (some (.done (.inl s35.1)))
noncomputable def m_wormtublaw06_CaskApart (l_1 : (List ApiCaskEvent)) (day5 : Int) : Option Bool :=
 if (decide ((l_1.length : Int) > 40)) then ((m_wormtublaw06_awake).bind fun r_9 => some r_9) else ((m_cask_Play l_1 day5).bind fun r_12 => if (((r_12.2.2 != 0) || (decide (r_12.2.1 < 0))) || (decide (r_12.2.1 > (l_1.length : Int)))) then ((if (r_12.2.2 != 0) then ((m_wormtublaw06_awake).bind fun r_28 => some r_28) else some false).bind fun z32 => some z32) else ((loopM (b_wormtublaw06_CaskApart_1 l_1 r_12) ([], 0)).bind fun b0 => match b0 with | .inl b347 => ((m_cask_Play b347 day5).bind fun r_360 => (if ((r_360.2.2 == 0) && (r_360.2.1 == r_12.2.1)) then ((m_wormtubref06_Same r_12.1 r_360.1).bind fun r_371 => some r_371) else some false).bind fun z375 => (if z375 then ((m_wormtublaw06_awake).bind fun r_380 => some r_380) else some false).bind fun z384 => some z384) | .inr b347 => (some b347)))
set_option maxHeartbeats 4000000 in
theorem c_wormtublaw06_CaskApart (F0 : Fz) (l_1 : (List ApiCaskEvent)) (p2 : Option Addr) (k3 : Nat) (h4 : RepSl 8 (Ex cApiCaskEvent) F0 p2 k3 l_1) (day5 : Int) : CT0 Try.prog 9 [(.slice p2 l_1.length k3), (.int .i64 day5)].toArray F0 (m_wormtublaw06_CaskApart l_1 day5) (fun r _ v => v = (.bool r)) := by
 refine CT0.enter Try.func9 rfl Try.ntmps9 rfl fun r R => ?_
 unfold m_wormtublaw06_CaskApart
 refine .seq ?_
 refine .region ?_
 refine .assign rfl rfl ?_
 refine .nil ?_
 refine .code ?_
 refine .seq ?_
 refine .seq ?_
 refine .region ?_
 refine .move rfl rfl ?_
 refine .lenS rfl rfl Try.underlying22 rfl ?_
 refine .gtr rfl rfl rfl ?_
 refine .nil ?_
 refine .code ?_
 refine .cond rfl (fun hb6 => ?_) (fun hb6 => ?_)
 ·skip
  refine .seq ?_
  refine .region ?_
  refine .call0 rfl Try.call11 rfl rfl rfl (c_wormtublaw06_awake _ ) ?_
  rintro r_9 F_7 _ - l_8 rfl
  refine .assign rfl rfl ?_
  refine .nil ?_
  refine .code ?_
  exact .ret0 Try.results9 (.tmp rfl (.nil)) (i := 0) rfl l_8 rfl
 ·skip
  refine .skip ?_
  refine .code ?_
  refine .seq ?_
  refine .region ?_
  refine .move rfl rfl ?_
  refine .move rfl rfl ?_
  refine .call0 rfl Try.call12 rfl rfl rfl (c_cask_Play _ l_1 p2 k3 h4 day5) ?_
  rintro r_12 F_10 _ - l_11 ⟨p13, k14, rfl, h15⟩
  refine .move rfl rfl ?_
  refine .extract rfl rfl rfl ?_
  refine .extract rfl rfl rfl ?_
  refine .extract rfl rfl rfl ?_
  refine .assign rfl rfl ?_
  refine .assign rfl rfl ?_
  refine .assign rfl rfl ?_
  refine .nil ?_
  refine .code ?_
  refine .seq ?_
  refine .seq ?_
  refine .region ?_
  refine .move rfl rfl ?_
  refine .neq rfl rfl rfl ?_
  refine .move rfl rfl ?_
  refine .orP (b := (r_12.2.2 != 0)) (b' := (decide (r_12.2.1 < 0))) 3 32 (fun hb16 => ?_) (fun hb17 => ?_) (fun F_18 l_19 => ?_)
  ·skip
   refine .onH hb16 rfl rfl ?_
   refine .move rfl rfl ?_
   refine .onH hb16 rfl rfl ?_
   refine .lss rfl rfl rfl ?_
   refine .pickFH hb16 rfl rfl rfl ?_
   exact .fin 3 rfl rfl (by kernel_rfl) (Fz.le_refl _)
  ·skip
   refine .offH hb17 rfl rfl rfl ?_
   refine .offH hb17 rfl rfl rfl ?_
   refine .pickTH hb17 rfl rfl rfl ?_
   exact .fin 3 rfl rfl (by kernel_rfl) (Fz.le_refl _)
  refine .move rfl rfl ?_
  refine .orP (b := ((r_12.2.2 != 0) || (decide (r_12.2.1 < 0)))) (b' := (decide (r_12.2.1 > (l_1.length : Int)))) 5 38 (fun hb20 => ?_) (fun hb21 => ?_) (fun F_22 l_23 => ?_)
  ·skip
   refine .onH hb20 rfl rfl ?_
   refine .move rfl rfl ?_
   refine .onH hb20 rfl rfl ?_
   refine .move rfl rfl ?_
   refine .onH hb20 rfl rfl ?_
   refine .lenS rfl rfl Try.underlying22 rfl ?_
   refine .onH hb20 rfl rfl ?_
   refine .gtr rfl rfl rfl ?_
   refine .pickFH hb20 rfl rfl rfl ?_
   exact .fin 5 rfl rfl (by kernel_rfl) (Fz.le_refl _)
  ·skip
   refine .offH hb21 rfl rfl rfl ?_
   refine .offH hb21 rfl rfl rfl ?_
   refine .offH hb21 rfl rfl rfl ?_
   refine .offH hb21 rfl rfl rfl ?_
   refine .pickTH hb21 rfl rfl rfl ?_
   exact .fin 5 rfl rfl (by kernel_rfl) (Fz.le_refl _)
  refine .nil ?_
  refine .code ?_
  refine .cond rfl (fun hb24 => ?_) (fun hb24 => ?_)
  ·skip
   refine .seq ?_
   refine .region ?_
   refine .move rfl rfl ?_
   refine .neq rfl rfl rfl ?_
   refine .move rfl rfl ?_
   refine .andM (b := (r_12.2.2 != 0)) 2 43 (fun hb25 z33 => ?_) (fun hb29 => ?_) (fun z32 F_30 l_31 => ?_)
   ·skip
    refine .onH hb25 rfl rfl ?_
    refine .call0 rfl Try.call11 rfl rfl rfl (c_wormtublaw06_awake _ ) ?_
    rintro r_28 F_26 _ - l_27 rfl
    refine .pickTH hb25 rfl rfl rfl ?_
    exact .finZ 2 rfl rfl (by kernel_rfl) l_27
   ·skip
    refine .offH hb29 rfl rfl rfl ?_
    refine .pickFH hb29 rfl rfl rfl ?_
    exact .fin 2 rfl rfl (by kernel_rfl) (Fz.le_refl _)
   refine .assign rfl rfl ?_
   refine .nil ?_
   refine .keep (.cons (k := 4) rfl (.nil _)) ?_
   refine .code ?_
   exact .ret0 Try.results9 (.tmp rfl (.nil)) (i := 0) rfl (Fz.le_trans l_11 (Fz.le_trans l_19 (Fz.le_trans l_23 l_31))) rfl
  ·skip
   refine .skip ?_
   refine .code ?_
   refine .seq ?_
   refine .region ?_
   refine .assign rfl rfl ?_
   refine .nil ?_
   refine .code ?_
   refine .seq ?_
   refine .seq ?_
   refine .region ?_
   refine .assign rfl rfl ?_
   refine .nil ?_
   refine .code ?_
   refine .block ?_
   refine .ownNil 8 (Ex cApiCaskEvent) 45 ?_
   refine .keep (.cons (k := 0) rfl (.cons (k := 1) rfl (.cons (k := 5) rfl (.cons (k := 6) rfl (.cons (k := 8) rfl (.cons (k := 9) rfl (.nil _))))))) ?_
   refine .loop (fun (s35 : (List ApiCaskEvent) × Int) a w => ∃ (F_36 : Fz) (p38 : Option Addr) (k39 : Nat), F_22 ≤ F_36 ∧ Hd 136 [] [(0, (.slice p2 l_1.length k3)), (1, (.int .i64 day5)), (5, (.slice p13 r_12.1.length k14)), (6, (.int .i64 r_12.2.1)), (8, (.slice p38 s35.1.length k39)), (9, (.int .i64 s35.2))] F_36 [ownSl 8 (Ex cApiCaskEvent) F_36 45 p38 k39 s35.1, R] a w) (fun b0 e a w => match b0 with | .inl b347 => e = .exit 0 ∧ ∃ (F_348 : Fz) (p350 : Option Addr) (k351 : Nat), F_22 ≤ F_348 ∧ Hd 136 [] [(1, (.int .i64 day5)), (5, (.slice p13 r_12.1.length k14)), (6, (.int .i64 r_12.2.1)), (8, (.slice p350 b347.length k351))] F_348 [ownSl 8 (Ex cApiCaskEvent) F_348 45 p350 k351 b347, R] a w | .inr b347 => e = .ret ∧ ∃ (F_353 : Fz), F_22 ≤ F_353 ∧ Hd 136 [] [(4, (.bool b347))] F_353 [R] a w) ?_ ?_ ?_
   ·exact fun a w h => ⟨F_22, none, 0, (Fz.le_refl _), h.1.sub (.cons (k := 0) rfl (.cons (k := 1) rfl (.cons (k := 5) rfl (.cons (k := 6) rfl (.cons (k := 8) rfl (.cons (k := 9) rfl (.nil _))))))), h.2⟩
   ·intro s35 ctl
    refine GC.ex (fun a w ⟨F_36, p38, k39, l_37, hA⟩ => ⟨_, hA, ?_⟩)
    unfold b_wormtublaw06_CaskApart_1
    refine .seq ?_
    refine .seq ?_
    refine .region ?_
    refine .move rfl rfl ?_
    refine .move rfl rfl ?_
    refine .lss rfl rfl rfl ?_
    refine .nil ?_
    refine .code ?_
    refine .cond rfl (fun hb41 => ?_) (fun hb41 => ?_)
    ·skip
     refine .skip ?_
     refine .code ?_
     refine .block ?_
     refine .seq ?_
     refine .region ?_
     refine .move rfl rfl ?_
     refine .assign rfl rfl ?_
     refine .nil ?_
     refine .code ?_
     refine .seq ?_
     refine .block ?_
     refine .keep (.cons (k := 0) rfl (.cons (k := 1) rfl (.cons (k := 5) rfl (.cons (k := 6) rfl (.cons (k := 8) rfl (.cons (k := 9) rfl (.cons (k := 10) rfl (.nil _)))))))) ?_
     refine .loop (fun (s42 : Int) a w => ∃ (F_43 : Fz), F_36 ≤ F_43 ∧ Hd 136 [] [(0, (.slice p2 l_1.length k3)), (1, (.int .i64 day5)), (5, (.slice p13 r_12.1.length k14)), (6, (.int .i64 r_12.2.1)), (8, (.slice p38 s35.1.length k39)), (9, (.int .i64 s35.2)), (10, (.int .i64 s42))] F_43 [ownSl 8 (Ex cApiCaskEvent) F_36 45 p38 k39 s35.1, R] a w) (fun b0 e a w => match b0 with | .inl b270 => e = .exit 2 ∧ ∃ (F_271 : Fz), F_36 ≤ F_271 ∧ Hd 136 [] [(0, (.slice p2 l_1.length k3)), (1, (.int .i64 day5)), (5, (.slice p13 r_12.1.length k14)), (6, (.int .i64 r_12.2.1)), (8, (.slice p38 s35.1.length k39)), (9, (.int .i64 s35.2)), (10, (.int .i64 b270))] F_271 [ownSl 8 (Ex cApiCaskEvent) F_36 45 p38 k39 s35.1, R] a w | .inr b270 => e = .ret ∧ ∃ (F_273 : Fz), F_36 ≤ F_273 ∧ Hd 136 [] [(4, (.bool b270))] F_273 [R] a w) ?_ ?_ ?_
     ·exact fun a w h => ⟨F_36, (Fz.le_refl _), h.1.sub (.cons (k := 0) rfl (.cons (k := 1) rfl (.cons (k := 5) rfl (.cons (k := 6) rfl (.cons (k := 8) rfl (.cons (k := 9) rfl (.cons (k := 10) rfl (.nil _)))))))), h.2⟩
     ·intro s42 ctl
      refine GC.ex (fun a w ⟨F_43, l_44, hA⟩ => ⟨_, hA, ?_⟩)
      unfold b_wormtublaw06_CaskApart_2
      refine .seq ?_
      refine .seq ?_
      refine .keep (.cons (k := 0) rfl (.cons (k := 1) rfl (.cons (k := 5) rfl (.cons (k := 6) rfl (.cons (k := 8) rfl (.cons (k := 9) rfl (.cons (k := 10) rfl (.nil _)))))))) ?_
      refine GC.join0 (σ := Bool) (fun j136 a w => ∃ (F_137 : Fz), F_43 ≤ F_137 ∧ Hd 136 [] [(0, (.slice p2 l_1.length k3)), (1, (.int .i64 day5)), (5, (.slice p13 r_12.1.length k14)), (6, (.int .i64 r_12.2.1)), (8, (.slice p38 s35.1.length k39)), (9, (.int .i64 s35.2)), (10, (.int .i64 s42)), (63, (.bool j136))] F_137 [ownSl 8 (Ex cApiCaskEvent) F_36 45 p38 k39 s35.1, R] a w) (fun sj => ?_) (fun j136 hs0 => GE.ex (fun a w ⟨F_137, l_138, hA⟩ => ⟨_, hA, ?_⟩))
      ·skip
       refine .ite (fun hb45 => ?_) (fun hb45 => ?_)
       ·skip
        refine .bind (fun x46 e52 => ?_)
        obtain ⟨b47, o48, T49, fr50, cs51, hm53, hv54, hq55⟩ := RepSl.idxE (h4.mono (Fz.le_trans l_11 (Fz.le_trans l_19 (Fz.le_trans l_23 (Fz.le_trans l_37 l_44))))) e52
        refine .bind (fun x56 e62 => ?_)
        obtain ⟨b57, o58, T59, fr60, cs61, hm63, hv64, hq65⟩ := RepSl.idxE (h4.mono (Fz.le_trans l_11 (Fz.le_trans l_19 (Fz.le_trans l_23 (Fz.le_trans l_37 l_44))))) e62
        refine .draw ⟨1000000, 0, [], 0⟩ [(48, (.int .i64 s42)), (49, (.int .i64 r_12.2.1)), (50, (.bool (decide (s42 < r_12.2.1)))), (51, (.bool (decide (s42 < r_12.2.1)))), (52, (.slice p2 l_1.length k3)), (53, (.int .i64 s42)), (54, (.pointer (some ⟨b47, o48, none⟩))), (55, (.pointer (some ⟨b47, o48 + 1, none⟩))), (56, (.int .i64 x46.Day)), (57, (.slice p2 l_1.length k3)), (58, (.int .i64 s35.2)), (59, (.pointer (some ⟨b57, o58, none⟩))), (60, (.pointer (some ⟨b57, o58 + 1, none⟩))), (61, (.int .i64 x56.Day)), (62, (.bool (x46.Day == x56.Day))), (63, (.bool (x46.Day == x56.Day)))] mixedOK (by kernel_rfl) (by kernel_rfl) rfl (by kernel_rfl) ?_ (fun F_66 b67 l_68 => ?_)
        ·skip
         refine .cons (.mk 48 (.int .i64 s42) [(10, (.int .i64 s42))] rfl rfl rfl rfl (fun S hS hd => (.cons (hS _ _ rfl) (Sub.nil _))) (fun F_69 X l_70 => ?_)) ?_
         ·skip
          refine .move rfl rfl ?_
          exact .fin1 (Fz.le_refl _)
         refine .cons (.mk 49 (.int .i64 r_12.2.1) [(6, (.int .i64 r_12.2.1))] rfl rfl rfl rfl (fun S hS hd => (.cons (hS _ _ rfl) (Sub.nil _))) (fun F_71 X l_72 => ?_)) ?_
         ·skip
          refine .move rfl rfl ?_
          exact .fin1 (Fz.le_refl _)
         refine .cons (.mk 50 (.bool (decide (s42 < r_12.2.1))) [(48, (.int .i64 s42)), (49, (.int .i64 r_12.2.1))] rfl rfl rfl rfl (fun S hS hd => (.cons (hd.1 rfl rfl _ _ rfl) (.cons (hd.2.1 rfl rfl _ _ rfl) (Sub.nil _)))) (fun F_73 X l_74 => ?_)) ?_
         ·skip
          refine .lss rfl rfl rfl ?_
          exact .fin1 (Fz.le_refl _)
         refine .cons (.mk 51 (.bool (decide (s42 < r_12.2.1))) [(50, (.bool (decide (s42 < r_12.2.1))))] rfl rfl rfl rfl (fun S hS hd => (.cons (hd.1 rfl rfl _ _ rfl) (Sub.nil _))) (fun F_75 X l_76 => ?_)) ?_
         ·skip
          refine .move rfl rfl ?_
          exact .fin1 (Fz.le_refl _)
         refine .cons (.mk 52 (.slice p2 l_1.length k3) [(0, (.slice p2 l_1.length k3)), (51, (.bool (decide (s42 < r_12.2.1))))] rfl rfl rfl rfl (fun S hS hd => (.cons (hS _ _ rfl) (.cons (hd.1 rfl rfl _ _ rfl) (Sub.nil _)))) (fun F_77 X l_78 => ?_)) ?_
         ·skip
          refine .onH hb45 rfl rfl ?_
          refine .move rfl rfl ?_
          exact .fin1 (Fz.le_refl _)
         refine .cons (.mk 53 (.int .i64 s42) [(10, (.int .i64 s42)), (51, (.bool (decide (s42 < r_12.2.1))))] rfl rfl rfl rfl (fun S hS hd => (.cons (hS _ _ rfl) (.cons (hd.1 rfl rfl _ _ rfl) (Sub.nil _)))) (fun F_79 X l_80 => ?_)) ?_
         ·skip
          refine .onH hb45 rfl rfl ?_
          refine .move rfl rfl ?_
          exact .fin1 (Fz.le_refl _)
         refine .cons (.mk 54 (.pointer (some ⟨b47, o48, none⟩)) [(51, (.bool (decide (s42 < r_12.2.1)))), (52, (.slice p2 l_1.length k3)), (53, (.int .i64 s42))] rfl rfl rfl rfl (fun S hS hd => (.cons (hd.2.2.1 rfl rfl _ _ rfl) (.cons (hd.1 rfl rfl _ _ rfl) (.cons (hd.2.1 rfl rfl _ _ rfl) (Sub.nil _))))) (fun F_81 X l_82 => ?_)) ?_
         ·skip
          refine .onH hb45 rfl rfl ?_
          refine .idxQ rfl Try.underlying22 Try.sizeOf45 hq55 rfl rfl ?_
          exact .fin1 (Fz.le_refl _)
         refine .cons (.mk 55 (.pointer (some ⟨b47, o48 + 1, none⟩)) [(51, (.bool (decide (s42 < r_12.2.1)))), (54, (.pointer (some ⟨b47, o48, none⟩)))] rfl rfl rfl rfl (fun S hS hd => (.cons (hd.2.1 rfl rfl _ _ rfl) (.cons (hd.1 rfl rfl _ _ rfl) (Sub.nil _)))) (fun F_83 X l_84 => ?_)) ?_
         ·skip
          refine .onH hb45 rfl rfl ?_
          refine .fieldAddr rfl Try.underlying45 rfl Try.sizeOf3 rfl ?_
          exact .fin1 (Fz.le_refl _)
         refine .cons (.mk 56 (.int .i64 x46.Day) [(51, (.bool (decide (s42 < r_12.2.1)))), (55, (.pointer (some ⟨b47, o48 + 1, none⟩)))] rfl rfl rfl rfl (fun S hS hd => (.cons (hd.2.1 rfl rfl _ _ rfl) (.cons (hd.1 rfl rfl _ _ rfl) (Sub.nil _)))) (fun F_85 X l_86 => ?_)) ?_
         ·skip
          refine .onH hb45 rfl rfl ?_
          refine .loadF rfl Try.isAgg3 rfl (l_86.mem _ _ hm53) (cell_of_take (k := 1) hv54 rfl) ?_
          exact .fin1 (Fz.le_refl _)
         refine .cons (.mk 57 (.slice p2 l_1.length k3) [(0, (.slice p2 l_1.length k3)), (51, (.bool (decide (s42 < r_12.2.1))))] rfl rfl rfl rfl (fun S hS hd => (.cons (hS _ _ rfl) (.cons (hd.1 rfl rfl _ _ rfl) (Sub.nil _)))) (fun F_87 X l_88 => ?_)) ?_
         ·skip
          refine .onH hb45 rfl rfl ?_
          refine .move rfl rfl ?_
          exact .fin1 (Fz.le_refl _)
         refine .cons (.mk 58 (.int .i64 s35.2) [(9, (.int .i64 s35.2)), (51, (.bool (decide (s42 < r_12.2.1))))] rfl rfl rfl rfl (fun S hS hd => (.cons (hS _ _ rfl) (.cons (hd.1 rfl rfl _ _ rfl) (Sub.nil _)))) (fun F_89 X l_90 => ?_)) ?_
         ·skip
          refine .onH hb45 rfl rfl ?_
          refine .move rfl rfl ?_
          exact .fin1 (Fz.le_refl _)
         refine .cons (.mk 59 (.pointer (some ⟨b57, o58, none⟩)) [(51, (.bool (decide (s42 < r_12.2.1)))), (57, (.slice p2 l_1.length k3)), (58, (.int .i64 s35.2))] rfl rfl rfl rfl (fun S hS hd => (.cons (hd.2.2.1 rfl rfl _ _ rfl) (.cons (hd.1 rfl rfl _ _ rfl) (.cons (hd.2.1 rfl rfl _ _ rfl) (Sub.nil _))))) (fun F_91 X l_92 => ?_)) ?_
         ·skip
          refine .onH hb45 rfl rfl ?_
          refine .idxQ rfl Try.underlying22 Try.sizeOf45 hq65 rfl rfl ?_
          exact .fin1 (Fz.le_refl _)
         refine .cons (.mk 60 (.pointer (some ⟨b57, o58 + 1, none⟩)) [(51, (.bool (decide (s42 < r_12.2.1)))), (59, (.pointer (some ⟨b57, o58, none⟩)))] rfl rfl rfl rfl (fun S hS hd => (.cons (hd.2.1 rfl rfl _ _ rfl) (.cons (hd.1 rfl rfl _ _ rfl) (Sub.nil _)))) (fun F_93 X l_94 => ?_)) ?_
         ·skip
          refine .onH hb45 rfl rfl ?_
          refine .fieldAddr rfl Try.underlying45 rfl Try.sizeOf3 rfl ?_
          exact .fin1 (Fz.le_refl _)
         refine .cons (.mk 61 (.int .i64 x56.Day) [(51, (.bool (decide (s42 < r_12.2.1)))), (60, (.pointer (some ⟨b57, o58 + 1, none⟩)))] rfl rfl rfl rfl (fun S hS hd => (.cons (hd.2.1 rfl rfl _ _ rfl) (.cons (hd.1 rfl rfl _ _ rfl) (Sub.nil _)))) (fun F_95 X l_96 => ?_)) ?_
         ·skip
          refine .onH hb45 rfl rfl ?_
          refine .loadF rfl Try.isAgg3 rfl (l_96.mem _ _ hm63) (cell_of_take (k := 1) hv64 rfl) ?_
          exact .fin1 (Fz.le_refl _)
         refine .cons (.mk 62 (.bool (x46.Day == x56.Day)) [(51, (.bool (decide (s42 < r_12.2.1)))), (56, (.int .i64 x46.Day)), (61, (.int .i64 x56.Day))] rfl rfl rfl rfl (fun S hS hd => (.cons (hd.2.2.1 rfl rfl _ _ rfl) (.cons (hd.1 rfl rfl _ _ rfl) (.cons (hd.2.1 rfl rfl _ _ rfl) (Sub.nil _))))) (fun F_97 X l_98 => ?_)) ?_
         ·skip
          refine .onH hb45 rfl rfl ?_
          refine .eql rfl rfl rfl ?_
          exact .fin1 (Fz.le_refl _)
         refine .cons (.mk 63 (.bool (x46.Day == x56.Day)) [(51, (.bool (decide (s42 < r_12.2.1)))), (62, (.bool (x46.Day == x56.Day)))] rfl rfl rfl rfl (fun S hS hd => (.cons (hd.1 rfl rfl _ _ rfl) (.cons (hd.2.1 rfl rfl _ _ rfl) (Sub.nil _)))) (fun F_99 X l_100 => ?_)) ?_
         ·skip
          refine .pickTH hb45  rfl rfl rfl ?_
          exact .fin1 (Fz.le_refl _)
         exact .nil
        refine .nil ?_
        exact .nil fun e a w h => by cases e; exact ⟨rfl, ⟨F_66, l_68, h.1.sub (.cons (k := 0) rfl (.cons (k := 1) rfl (.cons (k := 5) rfl (.cons (k := 6) rfl (.cons (k := 8) rfl (.cons (k := 9) rfl (.cons (k := 10) rfl (.cons (k := 63) rfl (.nil _))))))))), h.2⟩⟩
       ·skip
        refine .draw ⟨1000000, 0, [], 0⟩ [(48, (.int .i64 s42)), (49, (.int .i64 r_12.2.1)), (50, (.bool (decide (s42 < r_12.2.1)))), (51, (.bool (decide (s42 < r_12.2.1)))), (52, undef), (53, undef), (54, undef), (55, undef), (56, undef), (57, undef), (58, undef), (59, undef), (60, undef), (61, undef), (62, undef), (63, (.bool false))] mixedOK (by kernel_rfl) (by kernel_rfl) rfl (by kernel_rfl) ?_ (fun F_101 b102 l_103 => ?_)
        ·skip
         refine .cons (.mk 48 (.int .i64 s42) [(10, (.int .i64 s42))] rfl rfl rfl rfl (fun S hS hd => (.cons (hS _ _ rfl) (Sub.nil _))) (fun F_104 X l_105 => ?_)) ?_
         ·skip
          refine .move rfl rfl ?_
          exact .fin1 (Fz.le_refl _)
         refine .cons (.mk 49 (.int .i64 r_12.2.1) [(6, (.int .i64 r_12.2.1))] rfl rfl rfl rfl (fun S hS hd => (.cons (hS _ _ rfl) (Sub.nil _))) (fun F_106 X l_107 => ?_)) ?_
         ·skip
          refine .move rfl rfl ?_
          exact .fin1 (Fz.le_refl _)
         refine .cons (.mk 50 (.bool (decide (s42 < r_12.2.1))) [(48, (.int .i64 s42)), (49, (.int .i64 r_12.2.1))] rfl rfl rfl rfl (fun S hS hd => (.cons (hd.1 rfl rfl _ _ rfl) (.cons (hd.2.1 rfl rfl _ _ rfl) (Sub.nil _)))) (fun F_108 X l_109 => ?_)) ?_
         ·skip
          refine .lss rfl rfl rfl ?_
          exact .fin1 (Fz.le_refl _)
         refine .cons (.mk 51 (.bool (decide (s42 < r_12.2.1))) [(50, (.bool (decide (s42 < r_12.2.1))))] rfl rfl rfl rfl (fun S hS hd => (.cons (hd.1 rfl rfl _ _ rfl) (Sub.nil _))) (fun F_110 X l_111 => ?_)) ?_
         ·skip
          refine .move rfl rfl ?_
          exact .fin1 (Fz.le_refl _)
         refine .cons (.mk 52 undef [(0, (.slice p2 l_1.length k3)), (51, (.bool (decide (s42 < r_12.2.1))))] rfl rfl rfl rfl (fun S hS hd => (.cons (hS _ _ rfl) (.cons (hd.1 rfl rfl _ _ rfl) (Sub.nil _)))) (fun F_112 X l_113 => ?_)) ?_
         ·skip
          refine .offH hb45 rfl rfl rfl ?_
          exact .fin1 (Fz.le_refl _)
         refine .cons (.mk 53 undef [(10, (.int .i64 s42)), (51, (.bool (decide (s42 < r_12.2.1))))] rfl rfl rfl rfl (fun S hS hd => (.cons (hS _ _ rfl) (.cons (hd.1 rfl rfl _ _ rfl) (Sub.nil _)))) (fun F_114 X l_115 => ?_)) ?_
         ·skip
          refine .offH hb45 rfl rfl rfl ?_
          exact .fin1 (Fz.le_refl _)
         refine .cons (.mk 54 undef [(51, (.bool (decide (s42 < r_12.2.1)))), (52, undef), (53, undef)] rfl rfl rfl rfl (fun S hS hd => (.cons (hd.2.2.1 rfl rfl _ _ rfl) (.cons (hd.1 rfl rfl _ _ rfl) (.cons (hd.2.1 rfl rfl _ _ rfl) (Sub.nil _))))) (fun F_116 X l_117 => ?_)) ?_
         ·skip
          refine .offH hb45 rfl rfl rfl ?_
          exact .fin1 (Fz.le_refl _)
         refine .cons (.mk 55 undef [(51, (.bool (decide (s42 < r_12.2.1)))), (54, undef)] rfl rfl rfl rfl (fun S hS hd => (.cons (hd.2.1 rfl rfl _ _ rfl) (.cons (hd.1 rfl rfl _ _ rfl) (Sub.nil _)))) (fun F_118 X l_119 => ?_)) ?_
         ·skip
          refine .offH hb45 rfl rfl rfl ?_
          exact .fin1 (Fz.le_refl _)
         refine .cons (.mk 56 undef [(51, (.bool (decide (s42 < r_12.2.1)))), (55, undef)] rfl rfl rfl rfl (fun S hS hd => (.cons (hd.2.1 rfl rfl _ _ rfl) (.cons (hd.1 rfl rfl _ _ rfl) (Sub.nil _)))) (fun F_120 X l_121 => ?_)) ?_
         ·skip
          refine .offH hb45 rfl rfl rfl ?_
          exact .fin1 (Fz.le_refl _)
         refine .cons (.mk 57 undef [(0, (.slice p2 l_1.length k3)), (51, (.bool (decide (s42 < r_12.2.1))))] rfl rfl rfl rfl (fun S hS hd => (.cons (hS _ _ rfl) (.cons (hd.1 rfl rfl _ _ rfl) (Sub.nil _)))) (fun F_122 X l_123 => ?_)) ?_
         ·skip
          refine .offH hb45 rfl rfl rfl ?_
          exact .fin1 (Fz.le_refl _)
         refine .cons (.mk 58 undef [(9, (.int .i64 s35.2)), (51, (.bool (decide (s42 < r_12.2.1))))] rfl rfl rfl rfl (fun S hS hd => (.cons (hS _ _ rfl) (.cons (hd.1 rfl rfl _ _ rfl) (Sub.nil _)))) (fun F_124 X l_125 => ?_)) ?_
         ·skip
          refine .offH hb45 rfl rfl rfl ?_
          exact .fin1 (Fz.le_refl _)
         refine .cons (.mk 59 undef [(51, (.bool (decide (s42 < r_12.2.1)))), (57, undef), (58, undef)] rfl rfl rfl rfl (fun S hS hd => (.cons (hd.2.2.1 rfl rfl _ _ rfl) (.cons (hd.1 rfl rfl _ _ rfl) (.cons (hd.2.1 rfl rfl _ _ rfl) (Sub.nil _))))) (fun F_126 X l_127 => ?_)) ?_
         ·skip
          refine .offH hb45 rfl rfl rfl ?_
          exact .fin1 (Fz.le_refl _)
         refine .cons (.mk 60 undef [(51, (.bool (decide (s42 < r_12.2.1)))), (59, undef)] rfl rfl rfl rfl (fun S hS hd => (.cons (hd.2.1 rfl rfl _ _ rfl) (.cons (hd.1 rfl rfl _ _ rfl) (Sub.nil _)))) (fun F_128 X l_129 => ?_)) ?_
         ·skip
          refine .offH hb45 rfl rfl rfl ?_
          exact .fin1 (Fz.le_refl _)
         refine .cons (.mk 61 undef [(51, (.bool (decide (s42 < r_12.2.1)))), (60, undef)] rfl rfl rfl rfl (fun S hS hd => (.cons (hd.2.1 rfl rfl _ _ rfl) (.cons (hd.1 rfl rfl _ _ rfl) (Sub.nil _)))) (fun F_130 X l_131 => ?_)) ?_
         ·skip
          refine .offH hb45 rfl rfl rfl ?_
          exact .fin1 (Fz.le_refl _)
         refine .cons (.mk 62 undef [(51, (.bool (decide (s42 < r_12.2.1)))), (56, undef), (61, undef)] rfl rfl rfl rfl (fun S hS hd => (.cons (hd.2.2.1 rfl rfl _ _ rfl) (.cons (hd.1 rfl rfl _ _ rfl) (.cons (hd.2.1 rfl rfl _ _ rfl) (Sub.nil _))))) (fun F_132 X l_133 => ?_)) ?_
         ·skip
          refine .offH hb45 rfl rfl rfl ?_
          exact .fin1 (Fz.le_refl _)
         refine .cons (.mk 63 (.bool false) [(51, (.bool (decide (s42 < r_12.2.1)))), (62, undef)] rfl rfl rfl rfl (fun S hS hd => (.cons (hd.1 rfl rfl _ _ rfl) (.cons (hd.2.1 rfl rfl _ _ rfl) (Sub.nil _)))) (fun F_134 X l_135 => ?_)) ?_
         ·skip
          refine .pickFH hb45  rfl rfl rfl ?_
          exact .fin1 (Fz.le_refl _)
         exact .nil
        refine .nil ?_
        exact .nil fun e a w h => by cases e; exact ⟨rfl, ⟨F_101, l_103, h.1.sub (.cons (k := 0) rfl (.cons (k := 1) rfl (.cons (k := 5) rfl (.cons (k := 6) rfl (.cons (k := 8) rfl (.cons (k := 9) rfl (.cons (k := 10) rfl (.cons (k := 63) rfl (.nil _))))))))), h.2⟩⟩
      refine .code ?_
      refine .cond rfl (fun hb139 => ?_) (fun hb139 => ?_)
      ·skip
       refine .skip ?_
       refine .code ?_
       refine .block ?_
       refine .seq ?_
       refine .seq ?_
       refine .keep (.cons (k := 0) rfl (.cons (k := 1) rfl (.cons (k := 5) rfl (.cons (k := 6) rfl (.cons (k := 8) rfl (.cons (k := 9) rfl (.cons (k := 10) rfl (.nil _)))))))) ?_
       refine GC.join0 (σ := Bool) (fun j261 a w => ∃ (F_262 : Fz), F_137 ≤ F_262 ∧ Hd 136 [] [(0, (.slice p2 l_1.length k3)), (1, (.int .i64 day5)), (5, (.slice p13 r_12.1.length k14)), (6, (.int .i64 r_12.2.1)), (8, (.slice p38 s35.1.length k39)), (9, (.int .i64 s35.2)), (10, (.int .i64 s42)), (84, (.bool j261))] F_262 [ownSl 8 (Ex cApiCaskEvent) F_36 45 p38 k39 s35.1, R] a w) (fun sj => ?_) (fun j261 hs0 => GE.ex (fun a w ⟨F_262, l_263, hA⟩ => ⟨_, hA, ?_⟩))
       ·skip
        refine .bind (fun x140 e146 => ?_)
        obtain ⟨b141, o142, T143, fr144, cs145, hm147, hv148, hq149⟩ := RepSl.idxE (h4.mono (Fz.le_trans l_11 (Fz.le_trans l_19 (Fz.le_trans l_23 (Fz.le_trans l_37 (Fz.le_trans l_44 l_138)))))) e146
        refine .ite (fun hb150 => ?_) (fun hb150 => ?_)
        ·skip
         refine .bind (fun x151 e157 => ?_)
         obtain ⟨b152, o153, T154, fr155, cs156, hm158, hv159, hq160⟩ := RepSl.idxE (h4.mono (Fz.le_trans l_11 (Fz.le_trans l_19 (Fz.le_trans l_23 (Fz.le_trans l_37 (Fz.le_trans l_44 l_138)))))) e157
         refine .bind (fun x161 e167 => ?_)
         obtain ⟨b162, o163, T164, fr165, cs166, hm168, hv169, hq170⟩ := RepSl.idxE (h4.mono (Fz.le_trans l_11 (Fz.le_trans l_19 (Fz.le_trans l_23 (Fz.le_trans l_37 (Fz.le_trans l_44 l_138)))))) e167
         refine .draw ⟨1000000, 0, [], 0⟩ [(64, (.slice p2 l_1.length k3)), (65, (.int .i64 s42)), (66, (.pointer (some ⟨b141, o142, none⟩))), (67, (.pointer (some ⟨b141, o142, none⟩))), (68, (.int .i64 x140.Kind)), (69, (.bool (x140.Kind == 2))), (70, (.bool (x140.Kind == 2))), (71, (.slice p2 l_1.length k3)), (72, (.int .i64 s42)), (73, (.pointer (some ⟨b152, o153, none⟩))), (74, (.pointer (some ⟨b152, o153 + 2, none⟩))), (75, (.int .i64 x151.Cask)), (76, (.slice p2 l_1.length k3)), (77, (.int .i64 s42)), (78, (.pointer (some ⟨b162, o163, none⟩))), (79, (.pointer (some ⟨b162, o163 + 3, none⟩))), (80, (.int .i64 x161.Other)), (81, (.int .i64 (w64 (x151.Cask - x161.Other)))), (82, (.int .i64 (Int.tmod (w64 (x151.Cask - x161.Other)) 2))), (83, (.bool ((Int.tmod (w64 (x151.Cask - x161.Other)) 2) != 0))), (84, (.bool ((Int.tmod (w64 (x151.Cask - x161.Other)) 2) != 0)))] mixedOK (by kernel_rfl) (by kernel_rfl) rfl (by kernel_rfl) ?_ (fun F_171 b172 l_173 => ?_)
         ·skip
          refine .cons (.mk 64 (.slice p2 l_1.length k3) [(0, (.slice p2 l_1.length k3))] rfl rfl rfl rfl (fun S hS hd => (.cons (hS _ _ rfl) (Sub.nil _))) (fun F_174 X l_175 => ?_)) ?_
          ·skip
           refine .move rfl rfl ?_
           exact .fin1 (Fz.le_refl _)
          refine .cons (.mk 65 (.int .i64 s42) [(10, (.int .i64 s42))] rfl rfl rfl rfl (fun S hS hd => (.cons (hS _ _ rfl) (Sub.nil _))) (fun F_176 X l_177 => ?_)) ?_
          ·skip
           refine .move rfl rfl ?_
           exact .fin1 (Fz.le_refl _)
          refine .cons (.mk 66 (.pointer (some ⟨b141, o142, none⟩)) [(64, (.slice p2 l_1.length k3)), (65, (.int .i64 s42))] rfl rfl rfl rfl (fun S hS hd => (.cons (hd.1 rfl rfl _ _ rfl) (.cons (hd.2.1 rfl rfl _ _ rfl) (Sub.nil _)))) (fun F_178 X l_179 => ?_)) ?_
          ·skip
           refine .idxQ rfl Try.underlying22 Try.sizeOf45 hq149 rfl rfl ?_
           exact .fin1 (Fz.le_refl _)
          refine .cons (.mk 67 (.pointer (some ⟨b141, o142, none⟩)) [(66, (.pointer (some ⟨b141, o142, none⟩)))] rfl rfl rfl rfl (fun S hS hd => (.cons (hd.1 rfl rfl _ _ rfl) (Sub.nil _))) (fun F_180 X l_181 => ?_)) ?_
          ·skip
           refine .fieldAddr rfl Try.underlying45 rfl Try.sizeOf3 rfl ?_
           exact .fin1 (Fz.le_refl _)
          refine .cons (.mk 68 (.int .i64 x140.Kind) [(67, (.pointer (some ⟨b141, o142, none⟩)))] rfl rfl rfl rfl (fun S hS hd => (.cons (hd.1 rfl rfl _ _ rfl) (Sub.nil _))) (fun F_182 X l_183 => ?_)) ?_
          ·skip
           refine .loadF rfl Try.isAgg3 rfl (l_183.mem _ _ hm147) (cell_of_take (k := 0) hv148 rfl) ?_
           exact .fin1 (Fz.le_refl _)
          refine .cons (.mk 69 (.bool (x140.Kind == 2)) [(68, (.int .i64 x140.Kind))] rfl rfl rfl rfl (fun S hS hd => (.cons (hd.1 rfl rfl _ _ rfl) (Sub.nil _))) (fun F_184 X l_185 => ?_)) ?_
          ·skip
           refine .eql rfl rfl rfl ?_
           exact .fin1 (Fz.le_refl _)
          refine .cons (.mk 70 (.bool (x140.Kind == 2)) [(69, (.bool (x140.Kind == 2)))] rfl rfl rfl rfl (fun S hS hd => (.cons (hd.1 rfl rfl _ _ rfl) (Sub.nil _))) (fun F_186 X l_187 => ?_)) ?_
          ·skip
           refine .move rfl rfl ?_
           exact .fin1 (Fz.le_refl _)
          refine .cons (.mk 71 (.slice p2 l_1.length k3) [(0, (.slice p2 l_1.length k3)), (70, (.bool (x140.Kind == 2)))] rfl rfl rfl rfl (fun S hS hd => (.cons (hS _ _ rfl) (.cons (hd.1 rfl rfl _ _ rfl) (Sub.nil _)))) (fun F_188 X l_189 => ?_)) ?_
          ·skip
           refine .onH hb150 rfl rfl ?_
           refine .move rfl rfl ?_
           exact .fin1 (Fz.le_refl _)
          refine .cons (.mk 72 (.int .i64 s42) [(10, (.int .i64 s42)), (70, (.bool (x140.Kind == 2)))] rfl rfl rfl rfl (fun S hS hd => (.cons (hS _ _ rfl) (.cons (hd.1 rfl rfl _ _ rfl) (Sub.nil _)))) (fun F_190 X l_191 => ?_)) ?_
          ·skip
           refine .onH hb150 rfl rfl ?_
           refine .move rfl rfl ?_
           exact .fin1 (Fz.le_refl _)
          refine .cons (.mk 73 (.pointer (some ⟨b152, o153, none⟩)) [(70, (.bool (x140.Kind == 2))), (71, (.slice p2 l_1.length k3)), (72, (.int .i64 s42))] rfl rfl rfl rfl (fun S hS hd => (.cons (hd.2.2.1 rfl rfl _ _ rfl) (.cons (hd.1 rfl rfl _ _ rfl) (.cons (hd.2.1 rfl rfl _ _ rfl) (Sub.nil _))))) (fun F_192 X l_193 => ?_)) ?_
          ·skip
           refine .onH hb150 rfl rfl ?_
           refine .idxQ rfl Try.underlying22 Try.sizeOf45 hq160 rfl rfl ?_
           exact .fin1 (Fz.le_refl _)
          refine .cons (.mk 74 (.pointer (some ⟨b152, o153 + 2, none⟩)) [(70, (.bool (x140.Kind == 2))), (73, (.pointer (some ⟨b152, o153, none⟩)))] rfl rfl rfl rfl (fun S hS hd => (.cons (hd.2.1 rfl rfl _ _ rfl) (.cons (hd.1 rfl rfl _ _ rfl) (Sub.nil _)))) (fun F_194 X l_195 => ?_)) ?_
          ·skip
           refine .onH hb150 rfl rfl ?_
           refine .fieldAddr rfl Try.underlying45 rfl Try.sizeOf3 rfl ?_
           exact .fin1 (Fz.le_refl _)
          refine .cons (.mk 75 (.int .i64 x151.Cask) [(70, (.bool (x140.Kind == 2))), (74, (.pointer (some ⟨b152, o153 + 2, none⟩)))] rfl rfl rfl rfl (fun S hS hd => (.cons (hd.2.1 rfl rfl _ _ rfl) (.cons (hd.1 rfl rfl _ _ rfl) (Sub.nil _)))) (fun F_196 X l_197 => ?_)) ?_
          ·skip
           refine .onH hb150 rfl rfl ?_
           refine .loadF rfl Try.isAgg3 rfl (l_197.mem _ _ hm158) (cell_of_take (k := 2) hv159 rfl) ?_
           exact .fin1 (Fz.le_refl _)
          refine .cons (.mk 76 (.slice p2 l_1.length k3) [(0, (.slice p2 l_1.length k3)), (70, (.bool (x140.Kind == 2)))] rfl rfl rfl rfl (fun S hS hd => (.cons (hS _ _ rfl) (.cons (hd.1 rfl rfl _ _ rfl) (Sub.nil _)))) (fun F_198 X l_199 => ?_)) ?_
          ·skip
           refine .onH hb150 rfl rfl ?_
           refine .move rfl rfl ?_
           exact .fin1 (Fz.le_refl _)
          refine .cons (.mk 77 (.int .i64 s42) [(10, (.int .i64 s42)), (70, (.bool (x140.Kind == 2)))] rfl rfl rfl rfl (fun S hS hd => (.cons (hS _ _ rfl) (.cons (hd.1 rfl rfl _ _ rfl) (Sub.nil _)))) (fun F_200 X l_201 => ?_)) ?_
          ·skip
           refine .onH hb150 rfl rfl ?_
           refine .move rfl rfl ?_
           exact .fin1 (Fz.le_refl _)
          refine .cons (.mk 78 (.pointer (some ⟨b162, o163, none⟩)) [(70, (.bool (x140.Kind == 2))), (76, (.slice p2 l_1.length k3)), (77, (.int .i64 s42))] rfl rfl rfl rfl (fun S hS hd => (.cons (hd.2.2.1 rfl rfl _ _ rfl) (.cons (hd.1 rfl rfl _ _ rfl) (.cons (hd.2.1 rfl rfl _ _ rfl) (Sub.nil _))))) (fun F_202 X l_203 => ?_)) ?_
          ·skip
           refine .onH hb150 rfl rfl ?_
           refine .idxQ rfl Try.underlying22 Try.sizeOf45 hq170 rfl rfl ?_
           exact .fin1 (Fz.le_refl _)
          refine .cons (.mk 79 (.pointer (some ⟨b162, o163 + 3, none⟩)) [(70, (.bool (x140.Kind == 2))), (78, (.pointer (some ⟨b162, o163, none⟩)))] rfl rfl rfl rfl (fun S hS hd => (.cons (hd.2.1 rfl rfl _ _ rfl) (.cons (hd.1 rfl rfl _ _ rfl) (Sub.nil _)))) (fun F_204 X l_205 => ?_)) ?_
          ·skip
           refine .onH hb150 rfl rfl ?_
           refine .fieldAddr rfl Try.underlying45 rfl Try.sizeOf3 rfl ?_
           exact .fin1 (Fz.le_refl _)
          refine .cons (.mk 80 (.int .i64 x161.Other) [(70, (.bool (x140.Kind == 2))), (79, (.pointer (some ⟨b162, o163 + 3, none⟩)))] rfl rfl rfl rfl (fun S hS hd => (.cons (hd.2.1 rfl rfl _ _ rfl) (.cons (hd.1 rfl rfl _ _ rfl) (Sub.nil _)))) (fun F_206 X l_207 => ?_)) ?_
          ·skip
           refine .onH hb150 rfl rfl ?_
           refine .loadF rfl Try.isAgg3 rfl (l_207.mem _ _ hm168) (cell_of_take (k := 3) hv169 rfl) ?_
           exact .fin1 (Fz.le_refl _)
          refine .cons (.mk 81 (.int .i64 (w64 (x151.Cask - x161.Other))) [(70, (.bool (x140.Kind == 2))), (75, (.int .i64 x151.Cask)), (80, (.int .i64 x161.Other))] rfl rfl rfl rfl (fun S hS hd => (.cons (hd.2.2.1 rfl rfl _ _ rfl) (.cons (hd.1 rfl rfl _ _ rfl) (.cons (hd.2.1 rfl rfl _ _ rfl) (Sub.nil _))))) (fun F_208 X l_209 => ?_)) ?_
          ·skip
           refine .onH hb150 rfl rfl ?_
           refine .sub rfl rfl rfl ?_
           exact .fin1 (Fz.le_refl _)
          refine .cons (.mk 82 (.int .i64 (Int.tmod (w64 (x151.Cask - x161.Other)) 2)) [(70, (.bool (x140.Kind == 2))), (81, (.int .i64 (w64 (x151.Cask - x161.Other))))] rfl rfl rfl rfl (fun S hS hd => (.cons (hd.2.1 rfl rfl _ _ rfl) (.cons (hd.1 rfl rfl _ _ rfl) (Sub.nil _)))) (fun F_210 X l_211 => ?_)) ?_
          ·skip
           refine .onH hb150 rfl rfl ?_
           refine .remC rfl (by decide) rfl rfl ?_
           exact .fin1 (Fz.le_refl _)
          refine .cons (.mk 83 (.bool ((Int.tmod (w64 (x151.Cask - x161.Other)) 2) != 0)) [(70, (.bool (x140.Kind == 2))), (82, (.int .i64 (Int.tmod (w64 (x151.Cask - x161.Other)) 2)))] rfl rfl rfl rfl (fun S hS hd => (.cons (hd.2.1 rfl rfl _ _ rfl) (.cons (hd.1 rfl rfl _ _ rfl) (Sub.nil _)))) (fun F_212 X l_213 => ?_)) ?_
          ·skip
           refine .onH hb150 rfl rfl ?_
           refine .neq rfl rfl rfl ?_
           exact .fin1 (Fz.le_refl _)
          refine .cons (.mk 84 (.bool ((Int.tmod (w64 (x151.Cask - x161.Other)) 2) != 0)) [(70, (.bool (x140.Kind == 2))), (83, (.bool ((Int.tmod (w64 (x151.Cask - x161.Other)) 2) != 0)))] rfl rfl rfl rfl (fun S hS hd => (.cons (hd.1 rfl rfl _ _ rfl) (.cons (hd.2.1 rfl rfl _ _ rfl) (Sub.nil _)))) (fun F_214 X l_215 => ?_)) ?_
          ·skip
           refine .pickTH hb150  rfl rfl rfl ?_
           exact .fin1 (Fz.le_refl _)
          exact .nil
         refine .nil ?_
         exact .nil fun e a w h => by cases e; exact ⟨rfl, ⟨F_171, l_173, h.1.sub (.cons (k := 0) rfl (.cons (k := 1) rfl (.cons (k := 5) rfl (.cons (k := 6) rfl (.cons (k := 8) rfl (.cons (k := 9) rfl (.cons (k := 10) rfl (.cons (k := 84) rfl (.nil _))))))))), h.2⟩⟩
        ·skip
         refine .draw ⟨1000000, 0, [], 0⟩ [(64, (.slice p2 l_1.length k3)), (65, (.int .i64 s42)), (66, (.pointer (some ⟨b141, o142, none⟩))), (67, (.pointer (some ⟨b141, o142, none⟩))), (68, (.int .i64 x140.Kind)), (69, (.bool (x140.Kind == 2))), (70, (.bool (x140.Kind == 2))), (71, undef), (72, undef), (73, undef), (74, undef), (75, undef), (76, undef), (77, undef), (78, undef), (79, undef), (80, undef), (81, undef), (82, undef), (83, undef), (84, (.bool false))] mixedOK (by kernel_rfl) (by kernel_rfl) rfl (by kernel_rfl) ?_ (fun F_216 b217 l_218 => ?_)
         ·skip
          refine .cons (.mk 64 (.slice p2 l_1.length k3) [(0, (.slice p2 l_1.length k3))] rfl rfl rfl rfl (fun S hS hd => (.cons (hS _ _ rfl) (Sub.nil _))) (fun F_219 X l_220 => ?_)) ?_
          ·skip
           refine .move rfl rfl ?_
           exact .fin1 (Fz.le_refl _)
          refine .cons (.mk 65 (.int .i64 s42) [(10, (.int .i64 s42))] rfl rfl rfl rfl (fun S hS hd => (.cons (hS _ _ rfl) (Sub.nil _))) (fun F_221 X l_222 => ?_)) ?_
          ·skip
           refine .move rfl rfl ?_
           exact .fin1 (Fz.le_refl _)
          refine .cons (.mk 66 (.pointer (some ⟨b141, o142, none⟩)) [(64, (.slice p2 l_1.length k3)), (65, (.int .i64 s42))] rfl rfl rfl rfl (fun S hS hd => (.cons (hd.1 rfl rfl _ _ rfl) (.cons (hd.2.1 rfl rfl _ _ rfl) (Sub.nil _)))) (fun F_223 X l_224 => ?_)) ?_
          ·skip
           refine .idxQ rfl Try.underlying22 Try.sizeOf45 hq149 rfl rfl ?_
           exact .fin1 (Fz.le_refl _)
          refine .cons (.mk 67 (.pointer (some ⟨b141, o142, none⟩)) [(66, (.pointer (some ⟨b141, o142, none⟩)))] rfl rfl rfl rfl (fun S hS hd => (.cons (hd.1 rfl rfl _ _ rfl) (Sub.nil _))) (fun F_225 X l_226 => ?_)) ?_
          ·skip
           refine .fieldAddr rfl Try.underlying45 rfl Try.sizeOf3 rfl ?_
           exact .fin1 (Fz.le_refl _)
          refine .cons (.mk 68 (.int .i64 x140.Kind) [(67, (.pointer (some ⟨b141, o142, none⟩)))] rfl rfl rfl rfl (fun S hS hd => (.cons (hd.1 rfl rfl _ _ rfl) (Sub.nil _))) (fun F_227 X l_228 => ?_)) ?_
          ·skip
           refine .loadF rfl Try.isAgg3 rfl (l_228.mem _ _ hm147) (cell_of_take (k := 0) hv148 rfl) ?_
           exact .fin1 (Fz.le_refl _)
          refine .cons (.mk 69 (.bool (x140.Kind == 2)) [(68, (.int .i64 x140.Kind))] rfl rfl rfl rfl (fun S hS hd => (.cons (hd.1 rfl rfl _ _ rfl) (Sub.nil _))) (fun F_229 X l_230 => ?_)) ?_
          ·skip
           refine .eql rfl rfl rfl ?_
           exact .fin1 (Fz.le_refl _)
          refine .cons (.mk 70 (.bool (x140.Kind == 2)) [(69, (.bool (x140.Kind == 2)))] rfl rfl rfl rfl (fun S hS hd => (.cons (hd.1 rfl rfl _ _ rfl) (Sub.nil _))) (fun F_231 X l_232 => ?_)) ?_
          ·skip
           refine .move rfl rfl ?_
           exact .fin1 (Fz.le_refl _)
          refine .cons (.mk 71 undef [(0, (.slice p2 l_1.length k3)), (70, (.bool (x140.Kind == 2)))] rfl rfl rfl rfl (fun S hS hd => (.cons (hS _ _ rfl) (.cons (hd.1 rfl rfl _ _ rfl) (Sub.nil _)))) (fun F_233 X l_234 => ?_)) ?_
          ·skip
           refine .offH hb150 rfl rfl rfl ?_
           exact .fin1 (Fz.le_refl _)
          refine .cons (.mk 72 undef [(10, (.int .i64 s42)), (70, (.bool (x140.Kind == 2)))] rfl rfl rfl rfl (fun S hS hd => (.cons (hS _ _ rfl) (.cons (hd.1 rfl rfl _ _ rfl) (Sub.nil _)))) (fun F_235 X l_236 => ?_)) ?_
          ·skip
           refine .offH hb150 rfl rfl rfl ?_
           exact .fin1 (Fz.le_refl _)
          refine .cons (.mk 73 undef [(70, (.bool (x140.Kind == 2))), (71, undef), (72, undef)] rfl rfl rfl rfl (fun S hS hd => (.cons (hd.2.2.1 rfl rfl _ _ rfl) (.cons (hd.1 rfl rfl _ _ rfl) (.cons (hd.2.1 rfl rfl _ _ rfl) (Sub.nil _))))) (fun F_237 X l_238 => ?_)) ?_
          ·skip
           refine .offH hb150 rfl rfl rfl ?_
           exact .fin1 (Fz.le_refl _)
          refine .cons (.mk 74 undef [(70, (.bool (x140.Kind == 2))), (73, undef)] rfl rfl rfl rfl (fun S hS hd => (.cons (hd.2.1 rfl rfl _ _ rfl) (.cons (hd.1 rfl rfl _ _ rfl) (Sub.nil _)))) (fun F_239 X l_240 => ?_)) ?_
          ·skip
           refine .offH hb150 rfl rfl rfl ?_
           exact .fin1 (Fz.le_refl _)
          refine .cons (.mk 75 undef [(70, (.bool (x140.Kind == 2))), (74, undef)] rfl rfl rfl rfl (fun S hS hd => (.cons (hd.2.1 rfl rfl _ _ rfl) (.cons (hd.1 rfl rfl _ _ rfl) (Sub.nil _)))) (fun F_241 X l_242 => ?_)) ?_
          ·skip
           refine .offH hb150 rfl rfl rfl ?_
           exact .fin1 (Fz.le_refl _)
          refine .cons (.mk 76 undef [(0, (.slice p2 l_1.length k3)), (70, (.bool (x140.Kind == 2)))] rfl rfl rfl rfl (fun S hS hd => (.cons (hS _ _ rfl) (.cons (hd.1 rfl rfl _ _ rfl) (Sub.nil _)))) (fun F_243 X l_244 => ?_)) ?_
          ·skip
           refine .offH hb150 rfl rfl rfl ?_
           exact .fin1 (Fz.le_refl _)
          refine .cons (.mk 77 undef [(10, (.int .i64 s42)), (70, (.bool (x140.Kind == 2)))] rfl rfl rfl rfl (fun S hS hd => (.cons (hS _ _ rfl) (.cons (hd.1 rfl rfl _ _ rfl) (Sub.nil _)))) (fun F_245 X l_246 => ?_)) ?_
          ·skip
           refine .offH hb150 rfl rfl rfl ?_
           exact .fin1 (Fz.le_refl _)
          refine .cons (.mk 78 undef [(70, (.bool (x140.Kind == 2))), (76, undef), (77, undef)] rfl rfl rfl rfl (fun S hS hd => (.cons (hd.2.2.1 rfl rfl _ _ rfl) (.cons (hd.1 rfl rfl _ _ rfl) (.cons (hd.2.1 rfl rfl _ _ rfl) (Sub.nil _))))) (fun F_247 X l_248 => ?_)) ?_
          ·skip
           refine .offH hb150 rfl rfl rfl ?_
           exact .fin1 (Fz.le_refl _)
          refine .cons (.mk 79 undef [(70, (.bool (x140.Kind == 2))), (78, undef)] rfl rfl rfl rfl (fun S hS hd => (.cons (hd.2.1 rfl rfl _ _ rfl) (.cons (hd.1 rfl rfl _ _ rfl) (Sub.nil _)))) (fun F_249 X l_250 => ?_)) ?_
          ·skip
           refine .offH hb150 rfl rfl rfl ?_
           exact .fin1 (Fz.le_refl _)
          refine .cons (.mk 80 undef [(70, (.bool (x140.Kind == 2))), (79, undef)] rfl rfl rfl rfl (fun S hS hd => (.cons (hd.2.1 rfl rfl _ _ rfl) (.cons (hd.1 rfl rfl _ _ rfl) (Sub.nil _)))) (fun F_251 X l_252 => ?_)) ?_
          ·skip
           refine .offH hb150 rfl rfl rfl ?_
           exact .fin1 (Fz.le_refl _)
          refine .cons (.mk 81 undef [(70, (.bool (x140.Kind == 2))), (75, undef), (80, undef)] rfl rfl rfl rfl (fun S hS hd => (.cons (hd.2.2.1 rfl rfl _ _ rfl) (.cons (hd.1 rfl rfl _ _ rfl) (.cons (hd.2.1 rfl rfl _ _ rfl) (Sub.nil _))))) (fun F_253 X l_254 => ?_)) ?_
          ·skip
           refine .offH hb150 rfl rfl rfl ?_
           exact .fin1 (Fz.le_refl _)
          refine .cons (.mk 82 undef [(70, (.bool (x140.Kind == 2))), (81, undef)] rfl rfl rfl rfl (fun S hS hd => (.cons (hd.2.1 rfl rfl _ _ rfl) (.cons (hd.1 rfl rfl _ _ rfl) (Sub.nil _)))) (fun F_255 X l_256 => ?_)) ?_
          ·skip
           refine .offH hb150 rfl rfl rfl ?_
           exact .fin1 (Fz.le_refl _)
          refine .cons (.mk 83 undef [(70, (.bool (x140.Kind == 2))), (82, undef)] rfl rfl rfl rfl (fun S hS hd => (.cons (hd.2.1 rfl rfl _ _ rfl) (.cons (hd.1 rfl rfl _ _ rfl) (Sub.nil _)))) (fun F_257 X l_258 => ?_)) ?_
          ·skip
           refine .offH hb150 rfl rfl rfl ?_
           exact .fin1 (Fz.le_refl _)
          refine .cons (.mk 84 (.bool false) [(70, (.bool (x140.Kind == 2))), (83, undef)] rfl rfl rfl rfl (fun S hS hd => (.cons (hd.1 rfl rfl _ _ rfl) (.cons (hd.2.1 rfl rfl _ _ rfl) (Sub.nil _)))) (fun F_259 X l_260 => ?_)) ?_
          ·skip
           refine .pickFH hb150  rfl rfl rfl ?_
           exact .fin1 (Fz.le_refl _)
          exact .nil
         refine .nil ?_
         exact .nil fun e a w h => by cases e; exact ⟨rfl, ⟨F_216, l_218, h.1.sub (.cons (k := 0) rfl (.cons (k := 1) rfl (.cons (k := 5) rfl (.cons (k := 6) rfl (.cons (k := 8) rfl (.cons (k := 9) rfl (.cons (k := 10) rfl (.cons (k := 84) rfl (.nil _))))))))), h.2⟩⟩
       refine .code ?_
       refine .cond rfl (fun hb264 => ?_) (fun hb264 => ?_)
       ·skip
        refine .seq ?_
        refine .region ?_
        refine .call0 rfl Try.call11 rfl rfl rfl (c_wormtublaw06_awake _ ) ?_
        rintro r_267 F_265 _ - l_266 rfl
        refine .assign rfl rfl ?_
        refine .nil ?_
        refine .code ?_
        refine .drop 0 ?_
        refine .retQ (LPost.ret fun a w h => ⟨rfl, F_265, (Fz.le_trans l_44 (Fz.le_trans l_138 (Fz.le_trans l_263 l_266))), h.1.sub (.cons (k := 4) rfl (.nil _)), h.2⟩)
       ·skip
        refine .skip ?_
        refine .code ?_
        refine .region ?_
        refine .move rfl rfl ?_
        refine .add rfl rfl rfl ?_
        refine .assignL rfl rfl (fun k268 e269 => ?_)
        refine .nil ?_
        refine .block ?_
        exact .nil (LPost.norm fun a w h => ⟨F_262, (Fz.le_trans l_44 (Fz.le_trans l_138 l_263)), h.1.sub (.cons (k := 0) rfl (.cons (k := 1) rfl (.cons (k := 5) rfl (.cons (k := 6) rfl (.cons (k := 8) rfl (.cons (k := 9) rfl (.cons (k := 10) rfl (.nil _)))))))), h.2⟩)
      ·skip
       refine .exitOut rfl (LPost.exit fun a w h => ⟨rfl, F_137, (Fz.le_trans l_44 l_138), h.1.sub (.cons (k := 0) rfl (.cons (k := 1) rfl (.cons (k := 5) rfl (.cons (k := 6) rfl (.cons (k := 8) rfl (.cons (k := 9) rfl (.cons (k := 10) rfl (.nil _)))))))), h.2⟩)
     ·intro b270 hb0 hk e a w hD
      rcases b270 with b270 | b270
      ·skip
       obtain ⟨rfl, F_271, l_272, hA⟩ := hD
       refine interp_exit rfl (GE.app ?_ hk a w hA)
       refine .code ?_
       refine .seq ?_
       refine .seq ?_
       refine .region ?_
       refine .assign rfl rfl ?_
       refine .nil ?_
       refine .code ?_
       refine .block ?_
       refine .keep (.cons (k := 0) rfl (.cons (k := 1) rfl (.cons (k := 5) rfl (.cons (k := 6) rfl (.cons (k := 8) rfl (.cons (k := 9) rfl (.cons (k := 10) rfl (.cons (k := 11) rfl (.nil _))))))))) ?_
       refine .ownUp 0 l_272 rfl ?_
       refine .loop (fun (s275 : (List ApiCaskEvent) × Int) a w => ∃ (F_276 : Fz) (p278 : Option Addr) (k279 : Nat), F_271 ≤ F_276 ∧ Hd 136 [] [(0, (.slice p2 l_1.length k3)), (1, (.int .i64 day5)), (5, (.slice p13 r_12.1.length k14)), (6, (.int .i64 r_12.2.1)), (8, (.slice p278 s275.1.length k279)), (9, (.int .i64 s35.2)), (10, (.int .i64 b270)), (11, (.int .i64 s275.2))] F_276 [ownSl 8 (Ex cApiCaskEvent) F_276 45 p278 k279 s275.1, R] a w) (fun b341 e a w => e = .exit 4 ∧ ∃ (F_342 : Fz) (p344 : Option Addr) (k345 : Nat), F_271 ≤ F_342 ∧ Hd 136 [] [(0, (.slice p2 l_1.length k3)), (1, (.int .i64 day5)), (5, (.slice p13 r_12.1.length k14)), (6, (.int .i64 r_12.2.1)), (8, (.slice p344 b341.length k345)), (10, (.int .i64 b270))] F_342 [ownSl 8 (Ex cApiCaskEvent) F_342 45 p344 k345 b341, R] a w) ?_ ?_ ?_
       ·exact fun a w h => ⟨F_271, p38, k39, (Fz.le_refl _), h.1.sub (.cons (k := 0) rfl (.cons (k := 1) rfl (.cons (k := 5) rfl (.cons (k := 6) rfl (.cons (k := 8) rfl (.cons (k := 9) rfl (.cons (k := 10) rfl (.cons (k := 11) rfl (.nil _))))))))), h.2⟩
       ·intro s275 ctl
        refine GC.ex (fun a w ⟨F_276, p278, k279, l_277, hA⟩ => ⟨_, hA, ?_⟩)
        unfold b_wormtublaw06_CaskApart_3
        refine .seq ?_
        refine .seq ?_
        refine .region ?_
        refine .move rfl rfl ?_
        refine .lss rfl rfl rfl ?_
        refine .nil ?_
        refine .code ?_
        refine .cond rfl (fun hb281 => ?_) (fun hb281 => ?_)
        ·skip
         refine .skip ?_
         refine .code ?_
         refine .seq ?_
         refine .block ?_
         refine .seq ?_
         refine .region ?_
         refine .move rfl rfl ?_
         refine .assign rfl rfl ?_
         refine .nil ?_
         refine .code ?_
         refine .block ?_
         refine .keep (.cons (k := 0) rfl (.cons (k := 1) rfl (.cons (k := 5) rfl (.cons (k := 6) rfl (.cons (k := 8) rfl (.cons (k := 9) rfl (.cons (k := 10) rfl (.cons (k := 11) rfl (.cons (k := 12) rfl (.nil _)))))))))) ?_
         refine .loop (fun (s282 : (List ApiCaskEvent) × Int) a w => ∃ (F_283 : Fz) (p285 : Option Addr) (k286 : Nat), F_276 ≤ F_283 ∧ Hd 136 [] [(0, (.slice p2 l_1.length k3)), (1, (.int .i64 day5)), (5, (.slice p13 r_12.1.length k14)), (6, (.int .i64 r_12.2.1)), (8, (.slice p285 s282.1.length k286)), (9, (.int .i64 s35.2)), (10, (.int .i64 b270)), (11, (.int .i64 s275.2)), (12, (.int .i64 s282.2))] F_283 [ownSl 8 (Ex cApiCaskEvent) F_283 45 p285 k286 s282.1, R] a w) (fun b333 e a w => e = .exit 6 ∧ ∃ (F_334 : Fz) (p336 : Option Addr) (k337 : Nat), F_276 ≤ F_334 ∧ Hd 136 [] [(0, (.slice p2 l_1.length k3)), (1, (.int .i64 day5)), (5, (.slice p13 r_12.1.length k14)), (6, (.int .i64 r_12.2.1)), (8, (.slice p336 b333.length k337)), (9, (.int .i64 s35.2)), (10, (.int .i64 b270)), (11, (.int .i64 s275.2))] F_334 [ownSl 8 (Ex cApiCaskEvent) F_334 45 p336 k337 b333, R] a w) ?_ ?_ ?_
         ·exact fun a w h => ⟨F_276, p278, k279, (Fz.le_refl _), h.1.sub (.cons (k := 0) rfl (.cons (k := 1) rfl (.cons (k := 5) rfl (.cons (k := 6) rfl (.cons (k := 8) rfl (.cons (k := 9) rfl (.cons (k := 10) rfl (.cons (k := 11) rfl (.cons (k := 12) rfl (.nil _)))))))))), h.2⟩
         ·intro s282 ctl
          refine GC.ex (fun a w ⟨F_283, p285, k286, l_284, hA⟩ => ⟨_, hA, ?_⟩)
          unfold b_wormtublaw06_CaskApart_4
          refine .seq ?_
          refine .seq ?_
          refine .region ?_
          refine .move rfl rfl ?_
          refine .move rfl rfl ?_
          refine .lss rfl rfl rfl ?_
          refine .nil ?_
          refine .code ?_
          refine .cond rfl (fun hb288 => ?_) (fun hb288 => ?_)
          ·skip
           refine .skip ?_
           refine .code ?_
           refine .seq ?_
           refine .keep (.cons (k := 0) rfl (.cons (k := 1) rfl (.cons (k := 5) rfl (.cons (k := 6) rfl (.cons (k := 8) rfl (.cons (k := 9) rfl (.cons (k := 10) rfl (.cons (k := 11) rfl (.cons (k := 12) rfl (.nil _)))))))))) ?_
           refine GC.join0 (σ := (List ApiCaskEvent)) (fun j325 a w => ∃ (F_326 : Fz) (p328 : Option Addr) (k329 : Nat), F_283 ≤ F_326 ∧ Hd 136 [] [(0, (.slice p2 l_1.length k3)), (1, (.int .i64 day5)), (5, (.slice p13 r_12.1.length k14)), (6, (.int .i64 r_12.2.1)), (8, (.slice p328 j325.length k329)), (9, (.int .i64 s35.2)), (10, (.int .i64 b270)), (11, (.int .i64 s275.2)), (12, (.int .i64 s282.2))] F_326 [ownSl 8 (Ex cApiCaskEvent) F_326 45 p328 k329 j325, R] a w) (fun sj => ?_) (fun j325 hs0 => GE.ex (fun a w ⟨F_326, p328, k329, l_327, hA⟩ => ⟨_, hA, ?_⟩))
           ·skip
            refine .block ?_
            refine .seq ?_
            refine .region ?_
            refine .move rfl rfl ?_
            refine .move rfl rfl ?_
            refine .idx rfl Try.underlying22 Try.sizeOf45 (h4.mono (Fz.le_trans l_11 (Fz.le_trans l_19 (Fz.le_trans l_23 (Fz.le_trans l_37 (Fz.le_trans l_272 (Fz.le_trans l_277 l_284))))))) rfl rfl (fun x289 b290 o291 T292 fr293 cs294 e295 hm296 hv297 => ?_)
            refine .fieldAddr rfl Try.underlying45 rfl Try.sizeOf3 rfl ?_
            refine .loadF rfl Try.isAgg3 rfl hm296 (cell_of_take (k := 2) hv297 rfl) ?_
            refine .remC rfl (by decide) rfl rfl ?_
            refine .move rfl rfl ?_
            refine .eql rfl rfl rfl ?_
            refine .nil ?_
            refine .code ?_
            refine .keep (.cons (k := 0) rfl (.cons (k := 1) rfl (.cons (k := 5) rfl (.cons (k := 6) rfl (.cons (k := 8) rfl (.cons (k := 9) rfl (.cons (k := 10) rfl (.cons (k := 11) rfl (.cons (k := 12) rfl (.cons (k := 105) rfl (.nil _))))))))))) ?_
            refine GC.join0 (σ := (List ApiCaskEvent)) (fun j319 a w => ∃ (F_320 : Fz) (p322 : Option Addr) (k323 : Nat), F_283 ≤ F_320 ∧ Hd 136 [] [(0, (.slice p2 l_1.length k3)), (1, (.int .i64 day5)), (5, (.slice p13 r_12.1.length k14)), (6, (.int .i64 r_12.2.1)), (8, (.slice p322 j319.length k323)), (9, (.int .i64 s35.2)), (10, (.int .i64 b270)), (11, (.int .i64 s275.2)), (12, (.int .i64 s282.2))] F_320 [ownSl 8 (Ex cApiCaskEvent) F_320 45 p322 k323 j319, R] a w) (fun sj => ?_) (fun j319 hs0 => GE.ex (fun a w ⟨F_320, p322, k323, l_321, hA⟩ => ⟨_, hA, ?_⟩))
            ·skip
             refine .cond rfl (fun hb299 => ?_) (fun hb299 => ?_)
             ·skip
              refine .region ?_
              refine .move rfl rfl ?_
              refine .move rfl rfl ?_
              refine .move rfl rfl ?_
              refine .idx rfl Try.underlying22 Try.sizeOf45 (h4.mono (Fz.le_trans l_11 (Fz.le_trans l_19 (Fz.le_trans l_23 (Fz.le_trans l_37 (Fz.le_trans l_272 (Fz.le_trans l_277 l_284))))))) rfl rfl (fun x300 b301 o302 T303 fr304 cs305 e306 hm307 hv308 => ?_)
              refine .loadFA rfl Try.isAgg45 Try.sizeOf45 rfl hm307 hv308 rfl ?_
              refine .sliceLit (cs := [.int .i64 x300.Kind, .int .i64 x300.Day, .int .i64 x300.Cask, .int .i64 x300.Other, .int .i64 x300.Person, .int .i64 x300.To, .int .i64 x300.Amount, .int .i64 x300.Where]) (zc := [.int .i64 (ApiCaskEvent.mk 0 0 0 0 0 0 0 0).Kind, .int .i64 (ApiCaskEvent.mk 0 0 0 0 0 0 0 0).Day, .int .i64 (ApiCaskEvent.mk 0 0 0 0 0 0 0 0).Cask, .int .i64 (ApiCaskEvent.mk 0 0 0 0 0 0 0 0).Other, .int .i64 (ApiCaskEvent.mk 0 0 0 0 0 0 0 0).Person, .int .i64 (ApiCaskEvent.mk 0 0 0 0 0 0 0 0).To, .int .i64 (ApiCaskEvent.mk 0 0 0 0 0 0 0 0).Amount, .int .i64 (ApiCaskEvent.mk 0 0 0 0 0 0 0 0).Where]) rfl Try.underlying22 Try.sizeOf45 Try.zeroValue45 rfl rfl rfl (by kernel_rfl) (by kernel_rfl) (fun b310 F_311 l_312 hb313 => ?_)
              have h314 : RepSl 8 (Ex cApiCaskEvent) F_311 (some ⟨b310, 0, none⟩) 1 ([x300]) := RepSl.ofRow hb313 (.cons ok_t45.mono rfl .nil) rfl rfl
              refine .append 0 ok_t45 l_312 rfl Try.underlying22 Try.underlying22 rfl rfl rfl h314 rfl rfl (fun l_315 p316 k317 e318 => ?_)
              refine .assign rfl rfl ?_
              refine .nil ?_
              exact .nil fun e a w h => by cases e; exact ⟨rfl, ⟨F_311, p316, k317, l_312, h.1.sub (.cons (k := 0) rfl (.cons (k := 1) rfl (.cons (k := 5) rfl (.cons (k := 6) rfl (.cons (k := 8) rfl (.cons (k := 9) rfl (.cons (k := 10) rfl (.cons (k := 11) rfl (.cons (k := 12) rfl (.nil _)))))))))), h.2⟩⟩
             ·skip
              refine .skip ?_
              exact .nil fun e a w h => by cases e; exact ⟨rfl, ⟨F_283, p285, k286, (Fz.le_refl _), h.1.sub (.cons (k := 0) rfl (.cons (k := 1) rfl (.cons (k := 5) rfl (.cons (k := 6) rfl (.cons (k := 8) rfl (.cons (k := 9) rfl (.cons (k := 10) rfl (.cons (k := 11) rfl (.cons (k := 12) rfl (.nil _)))))))))), h.2⟩⟩
            refine .block ?_
            exact .nil fun e a w h => by cases e; exact ⟨rfl, ⟨F_320, p322, k323, l_321, h.1.sub (.cons (k := 0) rfl (.cons (k := 1) rfl (.cons (k := 5) rfl (.cons (k := 6) rfl (.cons (k := 8) rfl (.cons (k := 9) rfl (.cons (k := 10) rfl (.cons (k := 11) rfl (.cons (k := 12) rfl (.nil _)))))))))), h.2⟩⟩
           refine .code ?_
           refine .region ?_
           refine .move rfl rfl ?_
           refine .add rfl rfl rfl ?_
           refine .assignL rfl rfl (fun j331 e332 => ?_)
           refine .nil ?_
           exact .nil (LPost.norm fun a w h => ⟨F_326, p328, k329, (Fz.le_trans l_284 l_327), h.1.sub (.cons (k := 0) rfl (.cons (k := 1) rfl (.cons (k := 5) rfl (.cons (k := 6) rfl (.cons (k := 8) rfl (.cons (k := 9) rfl (.cons (k := 10) rfl (.cons (k := 11) rfl (.cons (k := 12) rfl (.nil _)))))))))), h.2⟩)
          ·skip
           refine .exitOut rfl (LPost.exit fun a w h => ⟨rfl, F_283, p285, k286, l_284, h.1.sub (.cons (k := 0) rfl (.cons (k := 1) rfl (.cons (k := 5) rfl (.cons (k := 6) rfl (.cons (k := 8) rfl (.cons (k := 9) rfl (.cons (k := 10) rfl (.cons (k := 11) rfl (.nil _))))))))), h.2⟩)
         ·intro b333 hb0 hk e a w hD
          obtain ⟨rfl, F_334, p336, k337, l_335, hA⟩ := hD
          refine interp_exit rfl (GE.app ?_ hk a w hA)
          refine .block ?_
          refine .code ?_
          refine .region ?_
          refine .move rfl rfl ?_
          refine .add rfl rfl rfl ?_
          refine .assignL rfl rfl (fun part339 e340 => ?_)
          refine .nil ?_
          exact .nil (LPost.norm fun a w h => ⟨F_334, p336, k337, (Fz.le_trans l_277 l_335), h.1.sub (.cons (k := 0) rfl (.cons (k := 1) rfl (.cons (k := 5) rfl (.cons (k := 6) rfl (.cons (k := 8) rfl (.cons (k := 9) rfl (.cons (k := 10) rfl (.cons (k := 11) rfl (.nil _))))))))), h.2⟩)
        ·skip
         refine .exitOut rfl (LPost.exit fun a w h => ⟨rfl, F_276, p278, k279, l_277, h.1.sub (.cons (k := 0) rfl (.cons (k := 1) rfl (.cons (k := 5) rfl (.cons (k := 6) rfl (.cons (k := 8) rfl (.cons (k := 10) rfl (.nil _))))))), h.2⟩)
       ·intro b341 hb0 hk e a w hD
        obtain ⟨rfl, F_342, p344, k345, l_343, hA⟩ := hD
        refine interp_exit rfl (GE.app ?_ hk a w hA)
        refine .code ?_
        refine .region ?_
        refine .move rfl rfl ?_
        refine .assign rfl rfl ?_
        refine .nil ?_
        refine .block ?_
        exact .nil (LPost.norm fun a w h => ⟨F_342, p344, k345, (Fz.le_trans l_37 (Fz.le_trans l_272 l_343)), h.1.sub (.cons (k := 0) rfl (.cons (k := 1) rfl (.cons (k := 5) rfl (.cons (k := 6) rfl (.cons (k := 8) rfl (.cons (k := 9) rfl (.nil _))))))), h.2⟩)
      obtain ⟨rfl, F_273, l_274, hA⟩ := hD
      exact interp_ret ((LPost.ret fun a w h => ⟨rfl, F_273, (Fz.le_trans l_37 l_274), h.1.sub (.cons (k := 4) rfl (.nil _)), h.2⟩) hk a w hA)
    ·skip
     refine .exitOut rfl (LPost.exit fun a w h => ⟨rfl, F_36, p38, k39, l_37, h.1.sub (.cons (k := 1) rfl (.cons (k := 5) rfl (.cons (k := 6) rfl (.cons (k := 8) rfl (.nil _))))), h.2⟩)
   ·intro b347 hb0 hk e a w hD
    rcases b347 with b347 | b347
    ·skip
     obtain ⟨rfl, F_348, p350, k351, l_349, hA⟩ := hD
     refine interp_exit rfl (GE.app ?_ hk a w hA)
     refine .code ?_
     refine .seq ?_
     refine .region ?_
     refine .move rfl rfl ?_
     refine .move rfl rfl ?_
     refine .freezeSl 0 rfl (Fz.le_refl _) (fun F_355 l_356 h357 => ?_)
     refine .call0 rfl Try.call12 rfl rfl rfl (c_cask_Play _ b347 p350 k351 h357 day5) ?_
     rintro r_360 F_358 _ - l_359 ⟨p361, k362, rfl, h363⟩
     refine .move rfl rfl ?_
     refine .extract rfl rfl rfl ?_
     refine .extract rfl rfl rfl ?_
     refine .extract rfl rfl rfl ?_
     refine .assign rfl rfl ?_
     refine .assign rfl rfl ?_
     refine .assign rfl rfl ?_
     refine .nil ?_
     refine .code ?_
     refine .seq ?_
     refine .region ?_
     refine .move rfl rfl ?_
     refine .eql rfl rfl rfl ?_
     refine .move rfl rfl ?_
     refine .andP (b := (r_360.2.2 == 0)) (b' := (r_360.2.1 == r_12.2.1)) 4 127 (fun hb364 => ?_) (fun hb365 => ?_) (fun F_366 l_367 => ?_)
     ·skip
      refine .onH hb364 rfl rfl ?_
      refine .move rfl rfl ?_
      refine .onH hb364 rfl rfl ?_
      refine .move rfl rfl ?_
      refine .onH hb364 rfl rfl ?_
      refine .eql rfl rfl rfl ?_
      refine .pickTH hb364 rfl rfl rfl ?_
      exact .fin 4 rfl rfl (by kernel_rfl) (Fz.le_refl _)
     ·skip
      refine .offH hb365 rfl rfl rfl ?_
      refine .offH hb365 rfl rfl rfl ?_
      refine .offH hb365 rfl rfl rfl ?_
      refine .pickFH hb365 rfl rfl rfl ?_
      exact .fin 4 rfl rfl (by kernel_rfl) (Fz.le_refl _)
     refine .move rfl rfl ?_
     refine .andM (b := ((r_360.2.2 == 0) && (r_360.2.1 == r_12.2.1))) 4 132 (fun hb368 z376 => ?_) (fun hb372 => ?_) (fun z375 F_373 l_374 => ?_)
     ·skip
      refine .onH hb368 rfl rfl ?_
      refine .move rfl rfl ?_
      refine .onH hb368 rfl rfl ?_
      refine .move rfl rfl ?_
      refine .onH hb368 rfl rfl ?_
      refine .call0 rfl Try.call16 rfl rfl rfl (c_wormtubref06_Same _ r_12.1 p13 k14 (h15.mono (Fz.le_trans l_19 (Fz.le_trans l_23 (Fz.le_trans l_349 (Fz.le_trans l_356 (Fz.le_trans l_359 l_367)))))) r_360.1 p361 k362 (h363.mono l_367)) ?_
      rintro r_371 F_369 _ - l_370 rfl
      refine .pickTH hb368 rfl rfl rfl ?_
      exact .finZ 4 rfl rfl (by kernel_rfl) l_370
     ·skip
      refine .offH hb372 rfl rfl rfl ?_
      refine .offH hb372 rfl rfl rfl ?_
      refine .offH hb372 rfl rfl rfl ?_
      refine .pickFH hb372 rfl rfl rfl ?_
      exact .fin 4 rfl rfl (by kernel_rfl) (Fz.le_refl _)
     refine .move rfl rfl ?_
     refine .andM (b := z375) 2 135 (fun hb377 z385 => ?_) (fun hb381 => ?_) (fun z384 F_382 l_383 => ?_)
     ·skip
      refine .onH hb377 rfl rfl ?_
      refine .call0 rfl Try.call11 rfl rfl rfl (c_wormtublaw06_awake _ ) ?_
      rintro r_380 F_378 _ - l_379 rfl
      refine .pickTH hb377 rfl rfl rfl ?_
      exact .finZ 2 rfl rfl (by kernel_rfl) l_379
     ·skip
      refine .offH hb381 rfl rfl rfl ?_
      refine .pickFH hb381 rfl rfl rfl ?_
      exact .fin 2 rfl rfl (by kernel_rfl) (Fz.le_refl _)
     refine .assign rfl rfl ?_
     refine .nil ?_
     refine .code ?_
     exact .ret0 Try.results9 (.tmp rfl (.nil)) (i := 0) rfl (Fz.le_trans l_11 (Fz.le_trans l_19 (Fz.le_trans l_23 (Fz.le_trans l_349 (Fz.le_trans l_356 (Fz.le_trans l_359 (Fz.le_trans l_367 (Fz.le_trans l_374 l_383)))))))) rfl
    obtain ⟨rfl, F_353, l_354, hA⟩ := hD
    exact interp_ret ((ret_post0 Try.results9 (.tmp rfl (.nil)) (i := 0) rfl (Fz.le_trans l_11 (Fz.le_trans l_19 (Fz.le_trans l_23 l_354))) rfl) hk a w hA)
end Go.Proofs.Ytkedjmhhcekmiaa
end

section
namespace Go.Proofs.Ytkedjmhhcekmiaa
open Go.Dec
open Go.ChangeShapes Go.WideShapes Go.ChangeAt Go.RowKit
def LawCaskApart : Prop := ∀ (a0 : (List ApiCaskEvent)) (a1 : Int), (∀ y ∈ a0, okApiCaskEvent y) → (Lit.int .i64 a1).wf = true → m_wormtublaw06_CaskApart a0 a1 = some true
set_option maxRecDepth 100000 in
theorem lifted_CaskApart (law : LawCaskApart) (os : Os) (started : os.Started) (H : Type) (enc : TypeId × Value → H) :
  ReturnsInHanded {} Try.checked os 9 .any (Rows.caskApartSpec.pre6 enc Try.prog Try.f9 Rows.caskApartRow.domain false) (Rows.caskApartSpec.post enc Try.prog Try.f9 false true false false) := by
 refine returnsInHanded_of_change (C := Try.checked) Try.own started (by kernel_rfl) Try.func9 (ChangeSpec.witness6 (enc := enc) (C := Try.checked) false ⟨#[], #[.slice none 0 0, .int .i64 0], []⟩ 12 (by kernel_rfl) (by kernel_rfl) (by kernel_rfl) (by kernel_rfl)) ?_
 intro W base args ds gs before hval hW _ _
 refine law_contract (P := Try.prog) Try.laidOut (by kernel_rfl) rfl (by kernel_rfl : Try.f9.resultTypes = #[4]) Try.underlying4 (fun ds h => ?_) (fun W base args ds ps hval hA => ?_) W base args ds gs before hval hW
 ·match ds, h with
  | [d0, d1], _ => rfl
 ·rw [Try.params9] at hA hval
  obtain ⟨v0, l0, _, _, _, _, e0, _, _, t0, hA⟩ := trodAll_cons hA
  obtain ⟨v1, l1, _, _, _, _, e1, _, _, t1, hA⟩ := trodAll_cons hA
  obtain ⟨e2, _, _⟩ := trodAll_nil hA
  subst e2 e1
  obtain rfl : args = [v0, v1].toArray := by rw [← e0]
  obtain ⟨m0, p0, k0, o0, rfl, h0⟩ := argSlice Try.underlying22 vt22 (hval 0 _ _ rfl rfl) t0
  obtain ⟨m1, o1, rfl⟩ := argInt Try.underlying3 (hval 1 _ _ rfl rfl) t1
  have hl := law m0 m1 o0 o1
  have hc := c_wormtublaw06_CaskApart (FW W) m0 p0 k0 h0 m1
  rw [hl] at hc
  exact hc
theorem said_CaskApart (law : LawCaskApart) : Rows.CaskApartSaid :=
 OpenClaim.holds_of_wide 9 Try.f9 rfl rfl rfl rfl rfl rfl rfl ⟨rfl, rfl, rfl, rfl, rfl⟩ rfl rfl rfl rfl rfl (by kernel_rfl) Try.func9 (by kernel_rfl)
  (of_decide_eq_true (by kernel_rfl)) (by unfold Func.isWrapper; first | (rw [if_pos (by decide +kernel)]; kernel_rfl) | (rw [if_neg (by decide +kernel)]; exact ⟨rfl, rfl⟩))
  (fun os started H enc _ => lifted_CaskApart law os started H enc)
end Go.Proofs.Ytkedjmhhcekmiaa
end

section
namespace Go.Proofs.Ytkedjmhhcekmiaa
open Go.Dec
theorem run_other {V V' : CV} {G : List Ev} (h : RunG V G V') : (∀ x ∈ G, OneP x ∧ 0 ≤ x.Cask) → ∀ n, par_ n ≠ 0 → par_ n ≠ 1 → V' n = V n := by
  induction h with
  | nil V => intro _ n _ _; rfl
  | @cons V V1 V' x l d _ ih =>
    intro ho n h0 h1
    obtain ⟨o1, o2⟩ := ho x (by simp)
    obtain ⟨_, _, _, _, h3⟩ := ev_local (W := V) d o1 rfl (fun _ _ => rfl)
    rw [ih (fun y hy => ho y (List.mem_cons_of_mem _ hy)) n h0 h1, h3 n]
    rcases par_two x.Cask with h | h | h <;> omega
theorem group_all {V V' : CV} {G : List Ev} (h : RunG V G V') (ho : ∀ x ∈ G, OneP x ∧ 0 ≤ x.Cask) : RunG V ((G.filter fun x => par_ x.Cask == 0) ++ (G.filter fun x => par_ x.Cask == 1)) V' := by
  have ho1 : ∀ x ∈ G, OneP x := fun x hx => (ho x hx).1
  obtain ⟨W1, r1, a1, a2⟩ := part_run (W := V) (p := 0) h ho1 (fun _ _ => rfl)
  obtain ⟨W2, r2, b1, b2⟩ := part_run (W := W1) (p := 1) h ho1 (fun n hn => a2 n (by omega))
  have e : W2 = V' := funext fun n => by
    by_cases h0 : par_ n = 0
    · rw [b2 n (by omega), a1 n h0]
    · by_cases h1 : par_ n = 1
      · exact b1 n h1
      · rw [b2 n h1, a2 n h0, run_other h ho n h0 h1]
  rw [← e]; exact r1.app r2
inductive RunV : CV → Int → List Ev → CV → Int → Prop
  | nil (V : CV) (d : Int) : RunV V d [] V d
  | cons {V V1 V' : CV} {d d' : Int} {x : Ev} {l : List Ev} (hd : d ≤ x.Day) (hv : evB x = true) (ev : EvV (ageV (x.Day - d) V) x V1) (r : RunV V1 x.Day l V' d') : RunV V d (x :: l) V' d'
theorem RunV.app {V V1 V' : CV} {d d1 d' : Int} {a b : List Ev} (h : RunV V d a V1 d1) (k : RunV V1 d1 b V' d') : RunV V d (a ++ b) V' d' := by
  induction h with
  | nil V d => exact k
  | cons hd hv ev _ ih => exact .cons hd hv ev (ih k)
theorem RunV.split : ∀ {a b : List Ev} {V V' : CV} {d d' : Int}, RunV V d (a ++ b) V' d' → ∃ V1 d1, RunV V d a V1 d1 ∧ RunV V1 d1 b V' d'
  | [], b, V, V', d, d', h => ⟨V, d, .nil V d, h⟩
  | x :: a, b, V, V', d, d', h => by
    cases h with
    | cons hd hv ev r =>
      obtain ⟨V1, d1, r1, r2⟩ := RunV.split r
      exact ⟨V1, d1, .cons hd hv ev r1, r2⟩
theorem ageV_0 (V : CV) : ageV 0 V = V := funext fun n => by
  unfold ageV
  cases V n with
  | none => rfl
  | some c => simp only [Option.map_some, olderC_0]
theorem day_run {D : Int} : ∀ {G : List Ev} {V V' : CV}, RunG V G V' → (∀ x ∈ G, x.Day = D ∧ evB x = true) → RunV V D G V' D := fun {G} {V V'} h => by
  induction h with
  | nil V => intro _; exact .nil V D
  | @cons V V1 V' x l d _ ih =>
    intro hG
    have := (hG x (by simp)).1
    refine .cons (V1 := V1) (by omega) (hG x (by simp)).2 ?_ ?_
    · rw [this, Int.sub_self, ageV_0]; exact d
    · rw [this]; exact ih fun y hy => hG y (List.mem_cons_of_mem _ hy)
theorem run_day {D : Int} : ∀ {G : List Ev} {V V' : CV} {d' : Int}, RunV V D G V' d' → (∀ x ∈ G, x.Day = D) → RunG V G V' ∧ d' = D ∧ ∀ x ∈ G, evB x = true
  | [], V, V', d', h, _ => by cases h; exact ⟨.nil V, rfl, fun _ h => by cases h⟩
  | x :: G, V, V', d', h, hG => by
    cases h with
    | cons hd hv ev r =>
      have e := hG x (by simp)
      rw [e, Int.sub_self, ageV_0] at ev
      rw [e] at r
      obtain ⟨h1, h2, h3⟩ := run_day r fun y hy => hG y (List.mem_cons_of_mem _ hy)
      refine ⟨.cons ev h1, h2, fun y hy => ?_⟩
      rcases List.mem_cons.1 hy with rfl | hy
      · exact hv
      · exact h3 y hy
theorem RunG.head {V V' : CV} {x : Ev} {l : List Ev} (h : RunG V (x :: l) V') : ∃ V1, EvV V x V1 ∧ RunG V1 l V' := by cases h with | cons d r => exact ⟨_, d, r⟩
def evens (G : List Ev) : List Ev := (G.filter fun x => par_ x.Cask == 0) ++ (G.filter fun x => par_ x.Cask == 1)
theorem mem_evens {G : List Ev} {x : Ev} (h : x ∈ evens G) : x ∈ G := by
  rcases List.mem_append.1 h with h | h
  · exact (List.mem_filter.1 h).1
  · exact (List.mem_filter.1 h).1
theorem evens_len {G : List Ev} (ho : ∀ x ∈ G, 0 ≤ x.Cask) : (evens G).length = G.length := by
  unfold evens
  rw [List.length_append]
  induction G with
  | nil => rfl
  | cons x G ih =>
    have h1 := ih fun y hy => ho y (List.mem_cons_of_mem _ hy)
    have h2 := ho x (by simp)
    rw [List.filter_cons, List.filter_cons, List.length_cons]
    rcases par_two x.Cask with h | h | h
    · omega
    · rw [if_pos (by simp [h]), if_neg (by simp [h]), List.length_cons]; omega
    · rw [if_neg (by simp [h]), if_pos (by simp [h]), List.length_cons]; omega
theorem day_group {V V' : CV} {d d' D : Int} {x : Ev} {G : List Ev} (h : RunV V d (x :: G) V' d') (hD : ∀ y ∈ x :: G, y.Day = D) (ho : ∀ y ∈ x :: G, OneP y ∧ 0 ≤ y.Cask) : RunV V d (evens (x :: G)) V' d' := by
  cases h with
  | cons hd hv ev r =>
    have e := hD x (by simp)
    rw [e] at r hd ev
    obtain ⟨g1, g2, g3⟩ := run_day r fun y hy => hD y (List.mem_cons_of_mem _ hy)
    subst g2
    have g := group_all (RunG.cons ev g1) ho
    have hev : ∀ y ∈ evens (x :: G), y.Day = d' ∧ evB y = true := fun y hy => by
      have hm := mem_evens hy
      refine ⟨hD y hm, ?_⟩
      rcases List.mem_cons.1 hm with rfl | hm
      · exact hv
      · exact g3 y hm
    have hlen := evens_len (G := x :: G) fun y hy => (ho y hy).2
    have g : RunG (ageV (d' - d) V) (evens (x :: G)) V' := g
    cases he : evens (x :: G) with
    | nil => rw [he] at hlen; simp at hlen
    | cons y E =>
      rw [he] at g hev
      obtain ⟨V1, g4, g5⟩ := g.head
      have hy := hev y (by simp)
      refine .cons (by rw [hy.1]; exact hd) hy.2 (by rw [hy.1]; exact g4) ?_
      rw [hy.1]
      exact day_run g5 fun z hz => hev z (List.mem_cons_of_mem _ hz)
def HstV (pre : List Ev) (s : Cur) : Prop := ∃ V, RunV (fun _ => none) 0 pre V s.last ∧ RelV s.all V
theorem HstV.step {pre : List Ev} {x : Ev} {s : Cur} {l' : List Held} (h : HstV pre s) (ho : SOk pre.length s) (hv : evB x = true) (hd : s.last ≤ x.Day) (d : EvD (atS x.Day s) x pre.length l') : HstV (pre ++ [x]) ⟨l', x.Day⟩ := by
  obtain ⟨V, h1, h2⟩ := h
  have hok := older_all ho.ok (n := x.Day - s.last) (by omega)
  obtain ⟨V', g1, g2⟩ := fwd (V := ageV (x.Day - s.last) V) (h2.older _) hok.nums d
  exact ⟨V', h1.app (.cons hd hv g1 (.nil _ _)), g2⟩
theorem back : ∀ {l : List Ev} {V V' : CV} {d' : Int} {n : Nat} {s : Cur}, RunV V s.last l V' d' → RelV s.all V → SOk n s → s.all.length + l.length ≤ 256 → ∃ s', stG n s l = some s' ∧ RelV s'.all V' ∧ s'.last = d'
  | [], V, V', d', n, s, h, r, _, _ => by cases h; exact ⟨s, rfl, r, rfl⟩
  | x :: l, V, V', d', n, s, h, r, ho, hl => by
    cases h with
    | cons hd hv ev k =>
      rw [List.length_cons] at hl
      have hok := older_all ho.ok (n := x.Day - s.last) (by omega)
      obtain ⟨l', g1, g2, g3⟩ := bwd (num := (n : Int)) (r.older (x.Day - s.last)) hok.nums (by simp; omega) ev
      have hst : stepS n s x = .inl ⟨l', x.Day⟩ := by
        unfold stepS
        rw [hv]
        simp only [Bool.not_true, Bool.false_eq_true, if_false]
        rw [if_neg (by omega), g1]
      have ho' := (step_ok ho hst).1
      obtain ⟨s', k1, k2, k3⟩ := back (n := n + 1) (s := ⟨l', x.Day⟩) k g2 ho' (by simp at g3; show l'.length + l.length ≤ 256; omega)
      refine ⟨s', ?_, k2, k3⟩
      simp only [stG, hst]; exact k1
theorem rel_nums {a b : List Held} {V : CV} (ra : RelV a V) (rb : RelV b V) (na : (a.map (·.C.Number)).Nodup) (nb : (b.map (·.C.Number)).Nodup) : numsS a = numsS b := by
  have key : ∀ {c : List Held}, RelV c V → ∀ x, x ∈ numsS c ↔ V x ≠ none := fun {c} rc x => by
    rw [(nums_perm c).mem_iff, ← rc x]
    constructor
    · intro h
      obtain ⟨i, hh, _, _, f3, _⟩ := find_ex h
      rw [f3]; simp
    · intro h
      cases hf : findH c x with
      | none => rw [hf] at h; exact absurd rfl h
      | some y =>
        obtain ⟨h1, h2⟩ := findH_num hf
        rw [← h1]; exact List.mem_map_of_mem h2
  exact sorted_ext (nums_sorted na) (nums_sorted nb) fun x => by rw [key ra, key rb]
theorem rel_ord {a b : List Held} {V : CV} (ra : RelV a V) (rb : RelV b V) (na : (a.map (·.C.Number)).Nodup) (nb : (b.map (·.C.Number)).Nodup) : (ordS a).map (·.C) = (ordS b).map (·.C) := by
  unfold ordS
  rw [rel_nums ra rb na nb, List.map_filterMap, List.map_filterMap]
  congr 1
  funext n
  rw [ra n, rb n]
theorem par_range {x : Ev} (h : evB x = true) : 0 ≤ x.Cask := (evB_base h).2.1
theorem cross_ev {x : Ev} (hv : evB x = true) (k : x.Kind = 2) (h : (Int.tmod (w64 (x.Cask - x.Other)) 2 != 0) = false) : par_ x.Cask = par_ x.Other := by
  have h1 := (evB_base hv).2
  have h2 : 0 ≤ x.Other ∧ x.Other ≤ 1073741824 := by
    have h := evTail hv
    rw [k] at h
    exact inB_iff.1 ((Bool.and_eq_true _ _).mp h).1
  have e : w64 (x.Cask - x.Other) = x.Cask - x.Other := w64_id (by omega) (by omega)
  rw [e] at h
  have h3 : Int.tmod (x.Cask - x.Other) 2 = 0 := by simpa using h
  have h4 := (Int.dvd_iff_tmod_eq_zero).2 h3
  unfold par_
  rw [Int.tmod_eq_emod_of_nonneg h1.1, Int.tmod_eq_emod_of_nonneg h2.1]
  omega
section
variable {l : List Ev} {k : Nat} {r : List ApiCask × Int × Int}
theorem day_loop (hk : k ≤ l.length) (h40 : l.length ≤ 40) (hr : r.2.1 = (k : Int)) (hok : ∀ x ∈ l.take k, evB x = true) {S : List Ev} {i : Nat} {x0 : Ev} (hi : i < k) (hx0 : l[i]? = some x0) :
    (loopM (b_wormtublaw06_CaskApart_2 l r (S, (i : Int))) (i : Int) = some (.inr true)) ∨ ∃ j, i < j ∧ j ≤ k ∧ loopM (b_wormtublaw06_CaskApart_2 l r (S, (i : Int))) (i : Int) = some (.inl (j : Int)) ∧ ∀ q y, i ≤ q → q < j → l[q]? = some y → y.Day = x0.Day ∧ OneP y := by
  obtain ⟨b, hb1, hb2⟩ := loop_inv (body := b_wormtublaw06_CaskApart_2 l r (S, (i : Int)))
    (fun s => ∃ j : Nat, s = (j : Int) ∧ i ≤ j ∧ j ≤ k ∧ ∀ q y, i ≤ q → q < j → l[q]? = some y → y.Day = x0.Day ∧ OneP y)
    (fun s => ((k : Int) + 1 - s).toNat)
    (fun b => match b with
      | .inl v => ∃ j : Nat, v = (j : Int) ∧ i < j ∧ j ≤ k ∧ ∀ q y, i ≤ q → q < j → l[q]? = some y → y.Day = x0.Day ∧ OneP y
      | .inr v => v = true)
    (fun s ⟨j, e1, e2, e3, e4⟩ => by
      subst e1
      have hx0i : idxL l (i : Int) = some x0 := by rw [idxL_nat, hx0]
      by_cases hjk : j < k
      · have hy : l[j]? = some l[j] := List.getElem?_eq_getElem (by omega)
        have hyi : idxL l (j : Int) = some l[j] := by rw [idxL_nat, hy]
        have c1 : decide ((j : Int) < r.2.1) = true := decide_eq_true (by omega)
        have hv : evB l[j] = true := hok _ (by
          have : (l.take k)[j]? = some l[j] := by rw [List.getElem?_take, if_pos hjk]; exact hy
          exact List.mem_of_getElem? this)
        by_cases hday : l[j].Day = x0.Day
        · have hsum : ∃ cr : Bool, (if (l[j].Kind == 2) = true then (some ((Int.tmod (w64 (l[j].Cask - l[j].Other)) 2) != 0)) else (some false)) = some cr ∧ (cr = false → OneP l[j]) := by
            by_cases hk2 : l[j].Kind = 2
            · rw [if_pos (by simp [hk2])]
              exact ⟨_, rfl, fun h _ => cross_ev hv hk2 h⟩
            · rw [if_neg (by simp [hk2])]
              exact ⟨false, rfl, fun _ h => absurd h hk2⟩
          obtain ⟨cr, g1, g2⟩ := hsum
          have c3 : w64 ((j : Int) + 1) = ((j + 1 : Nat) : Int) := by rw [w64_id (by omega) (by omega)]; rfl
          have hbody : b_wormtublaw06_CaskApart_2 l r (S, (i : Int)) (j : Int) = if cr then some (.done (.inr true)) else some (.next ((j + 1 : Nat) : Int)) := by
            unfold b_wormtublaw06_CaskApart_2
            simp only [c1, if_true, hyi, hx0i, Option.bind_some, hday, beq_self_eq_true]
            rw [g1]
            simp only [Option.bind_some, awake_true, bindv, c3]
          cases cr with
          | true => exact .inr ⟨.inr true, by rw [hbody]; rfl, rfl⟩
          | false =>
            refine .inl ⟨((j + 1 : Nat) : Int), by rw [hbody]; rfl, ⟨j + 1, rfl, by omega, by omega, fun q y h1 h2 h3 => ?_⟩, by omega⟩
            by_cases e : q = j
            · subst e; rw [hy] at h3; cases h3; exact ⟨hday, g2 rfl⟩
            · exact e4 q y h1 (by omega) h3
        · refine .inr ⟨.inl (j : Int), ?_, j, rfl, ?_, e3, e4⟩
          · have : (l[j].Day == x0.Day) = false := by simpa using hday
            unfold b_wormtublaw06_CaskApart_2
            simp only [c1, if_true, hyi, hx0i, Option.bind_some, this, Bool.false_eq_true, if_false]
          · rcases Nat.lt_or_ge i j with h | h
            · exact h
            · have : j = i := by omega
              subst this
              have e : l[j] = x0 := Option.some.inj (hy.symm.trans hx0)
              exact absurd (by rw [e]) hday
      · refine .inr ⟨.inl (j : Int), ?_, j, rfl, by omega, e3, e4⟩
        have c1 : decide ((j : Int) < r.2.1) = false := decide_eq_false (by omega)
        unfold b_wormtublaw06_CaskApart_2
        simp only [c1, Bool.false_eq_true, if_false, Option.bind_some]) _ (i : Int) (Nat.le_refl _) ⟨i, rfl, Nat.le_refl _, by omega, fun q y h1 h2 => by omega⟩
  cases b with
  | inr v => left; rw [hb1, show v = true from hb2]
  | inl v =>
    obtain ⟨j, h1, h2, h3, h4⟩ := hb2
    right; exact ⟨j, h2, h3, by rw [hb1, h1], h4⟩
theorem part_loop {S : List Ev} {p : Int} {j : Nat} (h40 : l.length ≤ 40) (hS : S.length ≤ 1000) (hj : j ≤ l.length) : ∀ (q i : Nat) (T : List Ev), i + q = j → T.length + q ≤ 2000 → loopM (b_wormtublaw06_CaskApart_4 l (j : Int) (S, p)) (T, (i : Int)) = some (T ++ ((l.drop i).take q).filter fun x => par_ x.Cask == p)
  | 0, i, T, hi, _ => by
    rw [loopM_eq]
    unfold b_wormtublaw06_CaskApart_4
    rw [if_neg (by simp; omega)]
    simp
  | q + 1, i, T, hi, hT => by
    have hx : l[i]? = some l[i] := List.getElem?_eq_getElem (by omega)
    have hxi : idxL l (i : Int) = some l[i] := by rw [idxL_nat, hx]
    have c1 : decide ((i : Int) < (j : Int)) = true := decide_eq_true (by omega)
    have c3 : w64 ((i : Int) + 1) = ((i + 1 : Nat) : Int) := by rw [w64_id (by omega) (by omega)]; rfl
    have hd : (l.drop i).take (q + 1) = l[i] :: (l.drop (i + 1)).take q := by
      rw [List.drop_eq_getElem_cons (by omega), List.take_succ_cons]
    have ha : appO T [l[i]] = some (T ++ [l[i]]) := appO_some' (by simp; omega)
    rw [loopM_eq]
    by_cases hp : par_ l[i].Cask = p
    · have hb : b_wormtublaw06_CaskApart_4 l (j : Int) (S, p) (T, (i : Int)) = some (.next (T ++ [l[i]], ((i + 1 : Nat) : Int))) := by
        unfold b_wormtublaw06_CaskApart_4
        simp only [c1, if_true, hxi, Option.bind_some, ha]
        rw [if_pos (by rw [beq_iff_eq]; exact hp)]
        simp only [Option.bind_some, bindv, c3]
      rw [hb]
      simp only []
      rw [part_loop h40 hS hj q (i + 1) (T ++ [l[i]]) (by omega) (by simp; omega), hd, List.filter_cons, if_pos (by simp [hp])]
      simp
    · have hb : b_wormtublaw06_CaskApart_4 l (j : Int) (S, p) (T, (i : Int)) = some (.next (T, ((i + 1 : Nat) : Int))) := by
        unfold b_wormtublaw06_CaskApart_4
        simp only [c1, if_true, hxi, Option.bind_some]
        rw [if_neg (by rw [beq_iff_eq]; exact hp)]
        simp only [Option.bind_some, bindv, c3]
      rw [hb]
      simp only []
      rw [part_loop h40 hS hj q (i + 1) T (by omega) (by omega), hd, List.filter_cons, if_neg (by simp [hp])]
theorem parts_loop {S : List Ev} {i j : Nat} (h40 : l.length ≤ 40) (hS : S.length ≤ 40) (hij : i ≤ j) (hj : j ≤ l.length) : loopM (b_wormtublaw06_CaskApart_3 l (S, (i : Int)) (j : Int)) (S, 0) = some (S ++ evens ((l.drop i).take (j - i))) := by
  have hl : ((l.drop i).take (j - i)).length ≤ 40 := by simp; omega
  have step : ∀ (T : List Ev) (p : Nat), p < 2 → T.length ≤ 100 → b_wormtublaw06_CaskApart_3 l (S, (i : Int)) (j : Int) (T, (p : Int)) = some (.next (T ++ ((l.drop i).take (j - i)).filter (fun x => par_ x.Cask == (p : Int)), ((p + 1 : Nat) : Int))) := fun T p hp hT => by
    have c1 : decide ((p : Int) < 2) = true := decide_eq_true (by omega)
    have c3 : w64 ((p : Int) + 1) = ((p + 1 : Nat) : Int) := by rw [w64_id (by omega) (by omega)]; rfl
    unfold b_wormtublaw06_CaskApart_3
    simp only [c1, if_true]
    rw [part_loop h40 (by omega) hj (j - i) i T (by omega) (by omega)]
    simp only [Option.bind_some, bindv, c3]
  have h0 := step S 0 (by omega) (by omega)
  have h1 := step (S ++ ((l.drop i).take (j - i)).filter (fun x => par_ x.Cask == ((0 : Nat) : Int))) 1 (by omega) (by
    rw [List.length_append]
    have := List.length_filter_le (fun x : Ev => par_ x.Cask == ((0 : Nat) : Int)) ((l.drop i).take (j - i))
    omega)
  rw [loopM_eq]
  have h0' : b_wormtublaw06_CaskApart_3 l (S, (i : Int)) (j : Int) (S, 0) = _ := h0
  rw [h0']
  simp only []
  rw [loopM_eq, h1]
  simp only []
  rw [loopM_eq]
  have h2 : ∀ T : List Ev, b_wormtublaw06_CaskApart_3 l (S, (i : Int)) (j : Int) (T, ((1 + 1 : Nat) : Int)) = some (.done T) := fun T => by
    unfold b_wormtublaw06_CaskApart_3
    rw [if_neg (by simp)]
  rw [h2]
  simp only [evens, List.append_assoc]
  rfl
theorem sort_loop (hk : k ≤ l.length) (h40 : l.length ≤ 40) (hr : r.2.1 = (k : Int)) {V : CV} {d : Int} (hrun : RunV (fun _ => none) 0 (l.take k) V d) (hok : ∀ x ∈ l.take k, evB x = true) :
    (loopM (b_wormtublaw06_CaskApart_1 l r) ([], 0) = some (.inr true)) ∨ ∃ S, loopM (b_wormtublaw06_CaskApart_1 l r) ([], 0) = some (.inl S) ∧ RunV (fun _ => none) 0 S V d ∧ S.length = k ∧ ∀ x ∈ S, x ∈ l.take k := by
  have hlk : (l.take k).length = k := by simp; omega
  obtain ⟨b, hb1, hb2⟩ := loop_inv (body := b_wormtublaw06_CaskApart_1 l r)
    (fun s => ∃ (S : List Ev) (i : Nat), s = (S, (i : Int)) ∧ i ≤ k ∧ S.length = i ∧ (∀ x ∈ S, x ∈ l.take k) ∧ ∃ V1 d1, RunV (fun _ => none) 0 S V1 d1 ∧ RunV V1 d1 ((l.take k).drop i) V d)
    (fun s => ((k : Int) + 1 - s.2).toNat)
    (fun b => match b with
      | .inl S => RunV (fun _ => none) 0 S V d ∧ S.length = k ∧ ∀ x ∈ S, x ∈ l.take k
      | .inr v => v = true)
    (fun s ⟨S, i, e1, e2, e3, e4, V1, d1, e5, e6⟩ => by
      subst e1
      by_cases hik : i < k
      · have hx : l[i]? = some l[i] := List.getElem?_eq_getElem (by omega)
        have c1 : decide ((i : Int) < r.2.1) = true := decide_eq_true (by omega)
        rcases day_loop (r := r) (S := S) hk h40 hr hok hik hx with h1 | ⟨j, h1, h2, h3, h4⟩
        · refine .inr ⟨.inr true, ?_, rfl⟩
          unfold b_wormtublaw06_CaskApart_1
          simp only [c1, if_true, h1, Option.bind_some]
        · have hp := parts_loop (S := S) (i := i) (j := j) h40 (by omega) (by omega) (by omega)
          refine .inl ⟨(S ++ evens ((l.drop i).take (j - i)), (j : Int)), ?_, ⟨_, j, rfl, h2, ?_, ?_, ?_⟩, ?_⟩
          · unfold b_wormtublaw06_CaskApart_1
            simp only [c1, if_true, h3, Option.bind_some]
            rw [hp]
            rfl
          all_goals
            have hG : (l.drop i).take (j - i) = ((l.take k).drop i).take (j - i) := by
              rw [List.drop_take, List.take_take, Nat.min_eq_left (by omega)]
          · have hc : ∀ y ∈ (l.drop i).take (j - i), 0 ≤ y.Cask := fun y hy => par_range (hok y (by
              rw [hG] at hy; exact List.mem_of_mem_drop (List.mem_of_mem_take hy)))
            rw [List.length_append, evens_len hc]
            simp; omega
          · intro y hy
            rcases List.mem_append.1 hy with hy | hy
            · exact e4 y hy
            · have := mem_evens hy
              rw [hG] at this
              exact List.mem_of_mem_drop (List.mem_of_mem_take this)
          · have hcut : (l.take k).drop i = ((l.take k).drop i).take (j - i) ++ (l.take k).drop j := by
              have := (List.take_append_drop (j - i) ((l.take k).drop i)).symm
              rwa [List.drop_drop, show i + (j - i) = j by omega] at this
            rw [hcut, ← hG] at e6
            obtain ⟨V2, d2, r1, r2⟩ := e6.split
            refine ⟨V2, d2, e5.app ?_, r2⟩
            have hmem : ∀ y ∈ (l.drop i).take (j - i), ∃ q, i ≤ q ∧ q < j ∧ l[q]? = some y := fun y hy => by
              obtain ⟨q, hq⟩ := List.mem_iff_getElem?.1 hy
              rw [List.getElem?_take] at hq
              split at hq
              · rw [List.getElem?_drop] at hq
                exact ⟨i + q, by omega, by omega, hq⟩
              · cases hq
            cases hg : (l.drop i).take (j - i) with
            | nil => rw [hg] at r1; exact r1
            | cons y G =>
              rw [hg] at r1 hmem
              refine day_group (D := l[i].Day) r1 (fun z hz => ?_) (fun z hz => ?_)
              · obtain ⟨q, q1, q2, q3⟩ := hmem z hz
                exact (h4 q z q1 q2 q3).1
              · obtain ⟨q, q1, q2, q3⟩ := hmem z hz
                refine ⟨(h4 q z q1 q2 q3).2, par_range (hok z ?_)⟩
                have : (l.take k)[q]? = some z := by rw [List.getElem?_take, if_pos (by omega)]; exact q3
                exact List.mem_of_getElem? this
          · show ((k : Int) + 1 - (j : Int)).toNat < ((k : Int) + 1 - (i : Int)).toNat
            omega
      · have hik' : i = k := by omega
        have c1 : decide ((i : Int) < r.2.1) = false := decide_eq_false (by omega)
        refine .inr ⟨.inl S, ?_, ?_, by omega, e4⟩
        · unfold b_wormtublaw06_CaskApart_1
          simp only [c1, Bool.false_eq_true, if_false]
        · rw [hik', List.drop_eq_nil_of_le (by omega)] at e6
          cases e6
          exact e5) _ ([], 0) (Nat.le_refl _) ⟨[], 0, rfl, Nat.zero_le _, rfl, fun _ h => (by cases h), _, _, .nil _ _, by rw [List.drop_zero]; exact hrun⟩
  cases b with
  | inr v => left; rw [hb1, show v = true from hb2]
  | inl S => right; exact ⟨S, hb1, hb2⟩
end
theorem law_CaskApart : LawCaskApart := fun a0 a1 _ _ => by
  unfold m_wormtublaw06_CaskApart
  by_cases h40 : (a0.length : Int) > 40
  · rw [if_pos (by simpa using h40), awake_true]; rfl
  · rw [if_neg (by simpa using h40)]
    have hlen : a0.length ≤ 40 := by omega
    refine bind_of (Play_prog _ _) ?_
    cases hp : playS a0 a1 with
    | mk r k =>
      have hk := play_le hp
      cases r with
      | inr e =>
        have he := playS_err hp
        have hA : allS' a0 a1 = ([], (k : Int), e) := by unfold allS'; rw [hp]
        rw [hA]
        have e1 : (e != 0) = true := by simpa using he
        simp only [e1, Bool.true_or, if_true, awake_true]
        rfl
      | inl all =>
        have hA : allS' a0 a1 = ((ordS all).map (·.C), (k : Int), 0) := by unfold allS'; rw [hp]
        obtain ⟨hok, _, hd0, hd1⟩ := playS_ok hp
        obtain ⟨s, hall, hst, hsl, _, hdays, _⟩ := play_st hp
        obtain ⟨s2, hall2, ⟨⟨V, hrun, hrel⟩, hevs⟩, hso, hsl2, _, _, _, _⟩ := play_hist (fun pre s => HstV pre s ∧ ∀ x ∈ pre, evB x = true) ⟨⟨_, .nil _ _, fun n => rfl⟩, fun _ h => by cases h⟩ (fun pre x s l' h ho hv hd _ d => ⟨h.1.step ho hv hd d, fun y hy => by
          rcases List.mem_append.1 hy with hy | hy
          · exact h.2 y hy
          · simp at hy; subst hy; exact hv⟩) hp
        have hPl := Play_prog
        have hSm := Same_self
        rw [hA]
        have e0 : ((0 : Int) != 0) = false := rfl
        have e1 : (((0 : Int) != 0) || decide ((k : Int) < 0) || decide ((k : Int) > (a0.length : Int))) = false := by
          rw [decide_eq_false (by omega), decide_eq_false (by omega)]; rfl
        simp only [e1, Bool.false_eq_true, if_false]
        rcases sort_loop (r := ((ordS all).map (·.C), (k : Int), 0)) hk hlen rfl hrun hevs with h1 | ⟨S, h1, h2, h3, h4⟩
        · rw [h1]; rfl
        · rw [h1]
          simp only [Option.bind_some]
          obtain ⟨s3, g1, g2, g3⟩ := back (n := 0) (s := ⟨[], 0⟩) h2 (fun n => rfl) SOk.start (by simp; omega)
          have hpl : playS S a1 = (.inl (atS a1 s3), k) := by
            unfold playS
            rw [if_neg (by omega), if_neg (by simp [inB]; omega)]
            unfold runS
            have := go_of2 S 0 ⟨[], 0⟩ s3 g1 (fun x hx => hdays x (h4 x hx))
            rw [this, h3, Nat.zero_add]
          obtain ⟨hok3, _⟩ := playS_ok hpl
          have hB : allS' S a1 = ((ordS (atS a1 s3)).map (·.C), (k : Int), 0) := by unfold allS'; rw [hpl]
          have heq : (ordS all).map (·.C) = (ordS (atS a1 s3)).map (·.C) := by
            have r1 : RelV all (ageV (a1 - s2.last) V) := by rw [hall2]; exact hrel.older _
            have r2 : RelV (atS a1 s3) (ageV (a1 - s2.last) V) := by
              have := g2.older (a1 - s3.last)
              rw [g3] at this
              unfold atS
              rw [g3]; exact this
            exact rel_ord r1 r2 hok.nums hok3.nums
          rw [hPl, Option.bind_some, hB, ← heq]
          have hle : ((ordS all).map (·.C)).length ≤ 1000000 := by rw [List.length_map, ord_len hok]; have := hok.few; omega
          simp [hSm _ hle, awake_true]
where
  go_of2 {day : Int} : ∀ (l : List Ev) (n : Nat) (s s' : Cur), stG n s l = some s' → (∀ x ∈ l, x.Day ≤ day) → goS day l n s = (.inl s', n + l.length)
    | [], n, s, s', h, _ => by simp only [stG, Option.some.injEq] at h; subst h; rfl
    | x :: l, n, s, s', h, hd => by
      simp only [stG] at h
      simp only [goS]
      rw [if_pos (hd x (by simp))]
      cases hst : stepS n s x with
      | inl s1 =>
        rw [hst] at h
        simp only []
        rw [go_of2 l (n + 1) s1 s' h fun y hy => hd y (List.mem_cons_of_mem _ hy), List.length_cons, show n + 1 + l.length = n + (l.length + 1) by omega]
      | inr e => rw [hst] at h; cases h
theorem caskApart_holds : Rows.CaskApartSaid := said_CaskApart law_CaskApart
end Go.Proofs.Ytkedjmhhcekmiaa
end
