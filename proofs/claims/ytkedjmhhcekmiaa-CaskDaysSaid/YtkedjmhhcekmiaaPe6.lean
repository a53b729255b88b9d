/- Own texts and texts printed by a program of mine, for caskDays_holds; only what it reaches. -/
import Derived.Test.YtkedjmhhcekmiaaPe5
import Derived.Test.YtkedjmhhcekmiaaRows
section
namespace Go.Proofs.Ytkedjmhhcekmiaa
open Go.Dec
theorem pour_prog {A1 : List CaskCask} {A3 : FM} {k j : Nat} {c : CaskCask} {h so : Held} {lj : List (Int × Bool)} {tm : CaskTimes} {n : Int} (hc : A1[k]? = some c) (hraw : h = rawOf c h.Fills) (hamt : 0 ≤ c.amount ∧ c.amount ≤ 1099511627776) (hn : 0 ≤ n ∧ n ≤ 1099511627776) (hfr : FR A3 c.fills h.Fills) (hne : 0 < c.amount → h.Fills ≠ [])
    (hj : A3[j]? = some lj) (hjn : (lj.map Prod.fst).Nodup) (hjF : ∀ x, x ∈ so.Fills ↔ x ∈ lj.map Prod.fst) (hq : c.fills ≠ some j) (ht : so.C.Age = tm.age ∧ so.C.Woods = tm.woods ∧ so.C.Places = tm.places) :
    ∃ c' A3', m_cask_cask_pour A1 A3 (some k) tm (some j) n = some (A1.set k c', A3') ∧ c'.number = c.number ∧ c'.since = c.since ∧ pourS h so n = rawOf c' (pourS h so n).Fills ∧ FR A3' c'.fills (pourS h so n).Fills ∧
      (∀ (q : Nat) lq, A3[q]? = some lq → c.fills ≠ some q → A3'[q]? = some lq) ∧ (c'.fills = c.fills ∨ c'.fills = some A3.length) := by
  have hk := (List.getElem?_eq_some_iff.1 hc).1
  have hca : h.C.Amount = c.amount := by rw [hraw]; rfl
  have hw : w64 (c.amount + n) = c.amount + n := w64_id (by omega) (by omega)
  unfold m_cask_cask_pour
  simp only [Option.bind_some, hc]
  by_cases e : (c.amount == 0) = true
  · have e' : (h.C.Amount == 0) = true := by rw [hca]; exact e
    refine ⟨{ c with times := tm, fills := some A3.length, amount := c.amount + n }, A3 ++ [lj], ?_, rfl, rfl, ?_, ?_, fun q lq h1 _ => ?_, .inr rfl⟩
    · simp only [e, if_true, m_maps_Clone_bool, cloneM, hj, Option.bind_some, bindv, List.set_set, List.getElem?_set_self hk, hw]
    · unfold pourS
      rw [if_pos e']
      rw [hraw]
      simp only [ht.1, ht.2.1, ht.2.2]
      rfl
    · unfold pourS
      rw [if_pos e']
      exact ⟨lj, by simp, hjn, hjF⟩
    · have := (List.getElem?_eq_some_iff.1 h1).1
      rw [List.getElem?_append_left this]; exact h1
  · have hpos : 0 < c.amount := by
      have : c.amount ≠ 0 := fun e0 => e (by simp [e0])
      omega
    have e' : ¬ (h.C.Amount == 0) = true := by rw [hca]; exact e
    cases hf : c.fills with
    | none => rw [hf] at hfr; exact absurd hfr (hne hpos)
    | some q =>
      rw [hf] at hfr
      obtain ⟨lq, hlq, hqn, hqF⟩ := hfr
      have hqj : q ≠ j := fun e0 => hq (by rw [hf, e0])
      have hql := (List.getElem?_eq_some_iff.1 hlq).1
      refine ⟨{ c with times := ⟨imin c.times.age tm.age, minN c.times.woods tm.woods, minN c.times.places tm.places⟩, amount := c.amount + n }, A3.set q (copyF lq lj), ?_, rfl, rfl, ?_, ?_, fun q' lq' h1 h2 => ?_, .inl hf⟩
      · simp only [e, if_false, Bool.false_eq_true, least_doc, Option.bind_some, bindv, hf, copy_prog hqj hlq hj hqn hjn, List.getElem?_set_self hk, List.set_set, hw]
      · unfold pourS
        rw [if_neg e']
        have h1 : h.C.Age = c.times.age := by rw [hraw]; rfl
        have h2 : h.C.Woods = c.times.woods := by rw [hraw]; rfl
        have h3 : h.C.Places = c.times.places := by rw [hraw]; rfl
        simp only [ht.1, ht.2.1, ht.2.2, h1, h2, h3]
        conv => lhs; rw [hraw]
        rfl
      · unfold pourS
        rw [if_neg e']
        show FR _ c.fills (uniS h.Fills so.Fills)
        rw [hf]
        refine ⟨copyF lq lj, List.getElem?_set_self hql, copy_nodup hqn, fun x => ?_⟩
        rw [mem_uniS, mem_copy, hqF, hjF]
      · rw [List.getElem?_set_ne (fun e0 => h2 (by rw [e0]))]; exact h1
section
variable {t : Int} {n : Nat} {all : List Held} {A1 : List CaskCask} {A3 : FM} {m : List (Int × Option Nat)} {b : CaskBook} {x : Ev}
theorem fr_lt {A3 : FM} {q : Nat} {F : List Int} (h : FR A3 (some q) F) : q < A3.length := by
  obtain ⟨l, h1, _⟩ := h; exact (List.getElem?_eq_some_iff.1 h1).1
theorem fill_prog (r : PR t n all A1 A3 m) (ho : AOk t n all) (h0 : 0 ≤ t) (ht : t ≤ 65536) (hb : b.casks = some 0) (hbe : b.event = n) (hv : evB x = true) (hk : x.Kind = 1) (hd : x.Day = t) : Does t n (doS all x n) (m_cask_book_fill A1 [b] A3 [m] (some 0) x) := by
  unfold m_cask_book_fill doS
  rw [if_neg (by rw [hk]; decide), hd]
  rcases find_prog (num := x.Cask) r (by omega) hb with ⟨hf, hm⟩ | ⟨k, h, c, hf, hh, hnum, hr, hc, hs, hraw, hok, hm⟩
  · rw [hf, hm]; exact ⟨rfl, by decide⟩
  · rw [hf, hm]
    simp only [hh, bindX, Option.bind_some, hc, bindv]
    have hact : actS all k h x n = fillD all k h x n := by unfold actS; rw [hk]; rfl
    rw [hact]
    have hcr := hr.each k c h hc hh
    have hca : h.C.Amount = c.amount := by rw [hraw]; rfl
    have hcro : h.C.Room = c.room := by rw [hraw]; rfl
    have hamt := hok.amt
    have hroom := hok.room
    rw [hca, hcro] at hamt
    rw [hcro] at hroom
    have ha := evAmt hv (.inl hk)
    have hw : w64 (c.amount + x.Amount) = c.amount + x.Amount := w64_id (by omega) (by omega)
    have hokd := fun l' (hl' : fillD all k h x n = .inl l') => fill_ok ho h0 hh ha.1 hl'
    unfold fillD at hokd ⊢
    rw [hca, hcro] at hokd ⊢
    rw [hw]
    by_cases h1 : c.amount + x.Amount > c.room
    · have e : decide (c.amount + x.Amount ≤ c.room) = false := decide_eq_false (by omega)
      simp only [h1, e, if_true]
      exact ⟨rfl, by decide⟩
    · have e : decide (c.amount + x.Amount ≤ c.room) = true := decide_eq_true (by omega)
      simp only [h1, if_false] at hokd
      simp only [h1, e, if_false]
      have hnew := hokd _ rfl
      have hql : ∀ q, c.fills = some q → q < A3.length := fun q hq => fr_lt (by rw [← hq]; exact hcr.fills)
      have hfr' : FR (A3 ++ [[((n : Int), true)]]) c.fills h.Fills := hcr.fills.keep fun q hq => List.getElem?_append_left (hql q hq)
      obtain ⟨c', A3', hp, hp1, hp2, hp3, hp4, hp5, hp6⟩ := pour_prog (A3 := A3 ++ [[((n : Int), true)]]) (j := A3.length) (lj := [((n : Int), true)]) (so := fillS n) (tm := ⟨0, zN, zN⟩) (n := x.Amount) hc hraw (by omega) (by omega) hfr' (fun hp => by rw [← hca] at hp; exact hok.some hp)
        (by simp) (by simp) (fun y => by simp [fillS]) (fun e => by have := hql _ e; omega) ⟨rfl, rfl, rfl⟩
      have hmod : m_cask_cask_pour (A1.set k c) (A3 ++ [mapSet [] b.event true]) (some k) (CaskTimes.mk 0 (fun _ => 0) (fun _ => 0)) (some A3.length) x.Amount = some ((A1.set k c).set k c', A3') := by rw [hbe]; exact hp
      have hmem : pourS h (fillS n) x.Amount ∈ all.set k (pourS h (fillS n) x.Amount) := List.mem_of_getElem? (List.getElem?_set_self (List.getElem?_eq_some_iff.1 hh).1)
      have hho := hnew.each _ hmem
      have hres : Does t n (.inl (all.set k (pourS h (fillS n) x.Amount))) (some (.ok ((A1.set k c).set k c', A3', [m]))) := by
        refine ⟨_, _, _, rfl, ?_⟩
        refine hr.set hc hh hp1 ?_ (fun i ci hi hne h1 h2 => ?_) (fun i ci q hne h1 h2 h3 => ?_)
        · rw [hp3]
          refine CR.of_raw h0 (by rw [hp2]; exact hs) (by rw [← hp3]; exact hho) ?_
          exact hp4
        · have hci := (hr.each i ci hi h1 h2).up
          refine ⟨hci.since, hci.ok, hci.eq, hci.fills.keep fun q hq => ?_⟩
          have hq2 := hci.fills
          rw [hq] at hq2
          obtain ⟨lq, g1, _⟩ := hq2
          have hql2 := (List.getElem?_eq_some_iff.1 g1).1
          rw [g1]
          exact hp5 q lq (by rw [List.getElem?_append_left hql2]; exact g1) (fun e => hne (hr.apart i k ci c q h1 hc hq e))
        · have hci := (hr.each i ci _ h1 (List.getElem?_eq_getElem (show i < all.length by rw [← hr.len]; exact (List.getElem?_eq_some_iff.1 h1).1))).fills
          rw [h2] at hci
          have := fr_lt hci
          rcases hp6 with hp6 | hp6
          · rw [hp6] at h3; exact hne (hr.apart i k ci c q h1 hc h2 h3)
          · rw [hp6] at h3
            simp only [Option.some.injEq, List.length_append, List.length_cons, List.length_nil] at h3
            omega
      show Does t n _ ((m_cask_cask_pour (A1.set k c) (A3 ++ [mapSet [] b.event true]) (some k) (CaskTimes.mk 0 (fun _ => 0) (fun _ => 0)) (some A3.length) x.Amount).bind fun r_106 => some (.ok (r_106.1, r_106.2, [m])))
      rw [hmod, Option.bind_some]
      exact hres
theorem rack_prog (r : PR t n all A1 A3 m) (ho : AOk t n all) (h0 : 0 ≤ t) (ht : t ≤ 65536) (hb : b.casks = some 0) (hv : evB x = true) (hk : x.Kind = 2) (hd : x.Day = t) : Does t n (doS all x n) (m_cask_book_rack A1 [b] A3 [m] (some 0) x) := by
  unfold m_cask_book_rack doS
  rw [if_neg (by rw [hk]; decide), hd]
  rcases find_prog (num := x.Cask) r (by omega) hb with ⟨hf, hm⟩ | ⟨i, h, c, hf, hh, hnum, hr, hc, hs, hraw, hok, hm⟩
  · rw [hf, hm]; exact ⟨rfl, by decide⟩
  · rw [hf, hm]
    have hact : actS all i h x n = rackD all i h x := by unfold actS; rw [hk]; rfl
    simp only [hh, hact]
    have hokd := fun l' (ha : 1 ≤ x.Amount) (hl' : rackD all i h x = .inl l') => rack_ok ho h0 hh ha hl'
    have ha := evAmt hv (.inr (.inl hk))
    have hokd := fun l' => hokd l' ha.1
    unfold rackD at hokd ⊢
    simp only [bindX]
    rcases find_prog (num := x.Other) hr (by omega) hb with ⟨hf2, hm2⟩ | ⟨k, ho2, o, hf2, hho, hnum2, hr2, hoc, hos, horaw, hook, hm2⟩
    · rw [hf2, hm2]; exact ⟨rfl, by decide⟩
    · rw [hf2, hm2]
      rw [hf2] at hokd
      simp only [hho] at hokd ⊢
      have hil : i < A1.length := by have := (List.getElem?_eq_some_iff.1 hc).1; simpa using this
      by_cases hik : i = k
      ·
        subst hik
        have hc2 : ((A1.set i c).set i o)[i]? = some o := hoc
        simp only [Option.bind_some, hc2]
        have e1 : (i != i) = false := by simp
        have e2 : (i == i) = true := by simp
        unfold rackD2
        simp only [e1, e2, if_true]
        exact ⟨rfl, by decide⟩
      · have hc2 : ((A1.set i c).set k o)[i]? = some c := by rw [List.getElem?_set_ne (fun e => hik e.symm)]; exact hc
        simp only [Option.bind_some, hc2, hoc]
        have e1 : (i != k) = true := by simpa using hik
        have e2 : (i == k) = false := by simpa using hik
        have hcr := hr2.each i c h hc2 hh
        have hor := hr2.each k o ho2 hoc hho
        have a1 : h.C.Owner = c.owner := by rw [hraw]; rfl
        have a2 : h.C.Creditor = c.creditor := by rw [hraw]; rfl
        have a3 : h.C.Amount = c.amount := by rw [hraw]; rfl
        have b1 : ho2.C.Owner = o.owner := by rw [horaw]; rfl
        have b2 : ho2.C.Creditor = o.creditor := by rw [horaw]; rfl
        have b3 : ho2.C.Amount = o.amount := by rw [horaw]; rfl
        have b4 : ho2.C.Room = o.room := by rw [horaw]; rfl
        have camt := hok.amt
        have croom := hok.room
        have ccred := hok.cred
        have oamt := hook.amt
        have oroom := hook.room
        have ocred := hook.cred
        rw [a2] at ccred; rw [b2] at ocred; rw [b3, b4] at oamt; rw [b4] at oroom; rw [a3] at camt
        unfold rackD2 at hokd ⊢
        rw [a1, a2, a3, b1, b2, b3, b4] at hokd ⊢
        simp only [e1, e2, Bool.false_eq_true, if_false, creq ccred.1, creq ocred.1] at hokd ⊢
        have n11 : m_cask_need false 11 = some (.pan ⟨11⟩) := rfl
        have n0 : ∀ e, m_cask_need true e = some (.ok ()) := fun _ => rfl
        have nf : ∀ e, m_cask_need false e = some (.pan ⟨e⟩) := fun _ => rfl
        by_cases c1 : c.owner = o.owner
        · have f1 : (c.owner == o.owner) = true := by simpa using c1
          have f2 : (c.owner != o.owner) = false := by simpa using c1
          simp only [f1, f2, if_true, Bool.false_or, n0] at hokd ⊢
          by_cases c2 : c.creditor ≥ 0
          · simp only [c2, decide_true, Bool.not_true, Bool.true_or, if_true, Bool.false_eq_true, if_false, nf, Option.bind_some]
            exact ⟨rfl, by decide⟩
          · simp only [c2, decide_false, Bool.not_false, Bool.false_or, if_true] at hokd ⊢
            by_cases c3 : o.creditor ≥ 0
            · simp only [c3, decide_true, Bool.not_true, if_true, nf, Option.bind_some]
              exact ⟨rfl, by decide⟩
            · simp only [c3, decide_false, Bool.not_false, n0, Option.bind_some, Bool.false_eq_true, if_false] at hokd ⊢
              by_cases c4 : c.amount < x.Amount
              · have g1 : decide (c.amount ≥ x.Amount) = false := decide_eq_false (by omega)
                simp only [c4, g1, if_true, nf]
                exact ⟨rfl, by decide⟩
              · have g1 : decide (c.amount ≥ x.Amount) = true := decide_eq_true (by omega)
                simp only [c4, g1, if_false, n0] at hokd ⊢
                have hw : w64 (o.amount + x.Amount) = o.amount + x.Amount := w64_id (by omega) (by omega)
                rw [hw]
                by_cases c5 : o.amount + x.Amount > o.room
                · have g2 : decide (o.amount + x.Amount ≤ o.room) = false := decide_eq_false (by omega)
                  simp only [c5, g2, if_true, nf]
                  exact ⟨rfl, by decide⟩
                · have g2 : decide (o.amount + x.Amount ≤ o.room) = true := decide_eq_true (by omega)
                  simp only [c5, g2, if_false, n0] at hokd ⊢
                  have hnew := hokd _ rfl
                  have hcf := hcr.fills
                  cases hfc : c.fills with
                  | none =>
                    rw [hfc] at hcf
                    exact absurd hcf (hok.some (by rw [a3]; omega))
                  | some j =>
                    rw [hfc] at hcf
                    obtain ⟨lj, hj, hjn, hjF⟩ := hcf
                    obtain ⟨o', A3', hp, hp1, hp2, hp3, hp4, hp5, hp6⟩ := pour_prog (A3 := A3) (j := j) (lj := lj) (so := h) (tm := c.times) (n := x.Amount) hoc horaw (by omega) (by omega) hor.fills (fun hp => by rw [← b3] at hp; exact hook.some hp)
                      hj hjn hjF (fun e => hik (hr2.apart i k c o j hc2 hoc hfc e)) ⟨by rw [hraw]; rfl, by rw [hraw]; rfl, by rw [hraw]; rfl⟩
                    have hc3 : (((A1.set i c).set k o).set k o')[i]? = some c := by rw [List.getElem?_set_ne (fun e => hik e.symm)]; exact hc2
                    rw [hp, Option.bind_some]
                    simp only
                    rw [draw_prog hc3 (by omega) (by omega), Option.bind_some]
                    have hjl : j < A3.length := (List.getElem?_eq_some_iff.1 hj).1
                    have hkall := (List.getElem?_eq_some_iff.1 hho).1
                    have hmem : pourS ho2 h x.Amount ∈ (all.set k (pourS ho2 h x.Amount)).set i (lessS h x.Amount) := List.mem_of_getElem? (i := k) (by rw [List.getElem?_set_ne hik]; exact List.getElem?_set_self hkall)
                    have hho' := hnew.each _ hmem
                    have hlmem : lessS h x.Amount ∈ (all.set k (pourS ho2 h x.Amount)).set i (lessS h x.Amount) := List.mem_of_getElem? (i := i) (List.getElem?_set_self (by simpa using (List.getElem?_eq_some_iff.1 hh).1))
                    have hlok := hnew.each _ hlmem
                    have hpr : PR t (n + 1) (all.set k (pourS ho2 h x.Amount)) (((A1.set i c).set k o).set k o') A3' m := by
                      refine hr2.set hoc hho hp1 ?_ (fun i' ci hi hne h1 h2 => ?_) (fun i' ci q hne h1 h2 h3 => ?_)
                      · rw [hp3]
                        refine CR.of_raw h0 (by rw [hp2]; exact hos) (by rw [← hp3]; exact hho') ?_
                        exact hp4
                      · have hci := (hr2.each i' ci hi h1 h2).up
                        refine ⟨hci.since, hci.ok, hci.eq, hci.fills.keep fun q hq => ?_⟩
                        have hq2 := hci.fills
                        rw [hq] at hq2
                        obtain ⟨lq, g1', _⟩ := hq2
                        rw [g1']
                        exact hp5 q lq g1' (fun e => hne (hr2.apart i' k ci o q h1 hoc hq e))
                      · have hci := (hr2.each i' ci _ h1 (List.getElem?_eq_getElem (show i' < all.length by rw [← hr2.len]; exact (List.getElem?_eq_some_iff.1 h1).1))).fills
                        rw [h2] at hci
                        have hlt := fr_lt hci
                        rcases hp6 with hp6 | hp6
                        · rw [hp6] at h3; exact hne (hr2.apart i' k ci o q h1 hoc h2 h3)
                        · rw [hp6] at h3
                          simp only [Option.some.injEq] at h3
                          omega
                    refine ⟨_, _, _, rfl, ?_⟩
                    have hh3 : (all.set k (pourS ho2 h x.Amount))[i]? = some h := by rw [List.getElem?_set_ne (fun e => hik e.symm)]; exact hh
                    have hcr3 := hpr.each i c h hc3 hh3
                    have hls : lessS h x.Amount = rawOf (drawC c x.Amount) (lessS (rawOf c h.Fills) x.Amount).Fills := by rw [← raw_draw, ← hraw]
                    refine hpr.set hc3 hh3 draw_number ?_ (fun i' ci hi _ h1 h2 => hpr.each i' ci hi h1 h2) (fun i' ci q hne h1 h2 h3 => ?_)
                    · rw [hls]
                      refine CR.of_raw h0 (by rw [draw_since]; exact hs) (by rw [← hls]; exact hlok) (draw_FR hcr3.fills)
                    · rcases draw_fills (c := c) (n := x.Amount) with e | e
                      · rw [e] at h3; exact hne (hpr.apart i' i ci c q h1 hc3 h2 h3)
                      · rw [e] at h3; cases h3
        · have f1 : (c.owner == o.owner) = false := by simpa using c1
          have f2 : (c.owner != o.owner) = true := by simpa using c1
          simp only [f1, f2, if_true, Bool.true_or, Bool.false_eq_true, if_false, n0, nf, Option.bind_some]
          exact ⟨rfl, by decide⟩
end
end Go.Proofs.Ytkedjmhhcekmiaa
end

section
namespace Go.Proofs.Ytkedjmhhcekmiaa
open Go.Dec
theorem Event_prog (x : Ev) : m_cask_isEvent x = some (evB x) := by
  rw [← Event_doc]; rfl
abbrev Deed := ((List CaskCask) × (List CaskBook) × FM × (List (List (Int × (Option Nat)))) × (Option Nat) × Ev) → Option (Out CaskMisfit ((List CaskCask) × FM × (List (List (Int × (Option Nat))))))
theorem deeds_some : ∃ D : List (Int × Deed), m_cask_deeds = some D ∧ ∀ (x : Ev), evB x = true → ∃ f, mapGet D x.Kind = some f ∧
    ∀ {t : Int} {n : Nat} {all : List Held} {A1 : List CaskCask} {A3 : FM} {m : List (Int × Option Nat)} {b : CaskBook}, PR t n all A1 A3 m → AOk t n all → 0 ≤ t → t ≤ 65536 → b.casks = some 0 → b.event = n → x.Day = t → Does t n (doS all x n) (f (A1, [b], A3, [m], some 0, x)) := by
  refine ⟨_, rfl, fun x hv => ?_⟩
  rcases kinds hv with k | k | k | k | k | k | k | k | k <;> rw [k]
  · exact ⟨_, rfl, fun r ho h0 ht hb _ hd => build_prog r ho h0 hb hv k hd⟩
  · exact ⟨_, rfl, fun r ho h0 ht hb hbe hd => fill_prog r ho h0 ht hb hbe hv k hd⟩
  · exact ⟨_, rfl, fun r ho h0 ht hb _ hd => rack_prog r ho h0 ht hb hv k hd⟩
  · exact ⟨_, rfl, fun r _ h0 ht hb _ hd => drain_prog r h0 ht hb hv k hd⟩
  · exact ⟨_, rfl, fun r _ h0 ht hb _ hd => carry_prog r h0 ht hb hv k hd⟩
  · exact ⟨_, rfl, fun r _ h0 ht hb _ hd => sell_prog r h0 ht hb hv k hd⟩
  · exact ⟨_, rfl, fun r _ h0 ht hb _ hd => pledge_prog r h0 ht hb hv k hd⟩
  · exact ⟨_, rfl, fun r _ h0 ht hb _ hd => free_prog r h0 ht hb hv k hd⟩
  · exact ⟨_, rfl, fun r _ h0 ht hb _ hd => char_prog r h0 ht hb hv k hd⟩
section
variable {D : List (Int × Deed)}
def DeedsOK (D : List (Int × Deed)) : Prop := ∀ (x : Ev), evB x = true → ∃ f, mapGet D x.Kind = some f ∧
    ∀ {t : Int} {n : Nat} {all : List Held} {A1 : List CaskCask} {A3 : FM} {m : List (Int × Option Nat)} {b : CaskBook}, PR t n all A1 A3 m → AOk t n all → 0 ≤ t → t ≤ 65536 → b.casks = some 0 → b.event = n → x.Day = t → Does t n (doS all x n) (f (A1, [b], A3, [m], some 0, x))
theorem step_prog (hD : DeedsOK D) {l : List Ev} {day : Int} {n : Nat} {s : Cur} {x : Ev} {A1 : List CaskCask} {A3 : FM} {m : List (Int × Option Nat)} {b : CaskBook} (hx : l[n]? = some x) (hn : n ≤ 4096) (ho : SOk n s) (hr : PR s.last n s.all A1 A3 m) (hb : b.casks = some 0) (hd : x.Day ≤ day) :
    match stepS n s x with
    | .inl s' => ∃ A1' A3' m', b_cask_play_1 l day D ((n : Int), s.last, A1, [b], A3, [m]) = some (.next (((n + 1 : Nat) : Int), s'.last, A1', [⟨some 0, n⟩], A3', [m'])) ∧ PR s'.last (n + 1) s'.all A1' A3' m'
    | .inr e => b_cask_play_1 l day D ((n : Int), s.last, A1, [b], A3, [m]) = some (.done (.inr (⟨e⟩, (n : Int), 0, some 0))) ∧ e ≠ 0 := by
  have hnl : n < l.length := (List.getElem?_eq_some_iff.1 hx).1
  have hw : w64 ((n : Int) + 1) = ((n + 1 : Nat) : Int) := by rw [w64_id (by omega) (by omega)]; rfl
  have h1 : decide ((n : Int) < (l.length : Int)) = true := decide_eq_true (by omega)
  have nt : ∀ e, m_cask_need true e = some (.ok ()) := fun _ => rfl
  have nf : ∀ e, m_cask_need false e = some (.pan ⟨e⟩) := fun _ => rfl
  unfold b_cask_play_1 stepS
  simp only [h1, if_true, idxL_nat, hx, Option.bind_some, hd, decide_true, Event_prog]
  cases hv : evB x with
  | false =>
    simp only [Bool.not_false, if_true, nf, bindX]
    exact ⟨trivial, by decide⟩
  | true =>
    simp only [Bool.not_true, Bool.false_eq_true, if_false, nt, bindX]
    by_cases hlt : x.Day < s.last
    · have e : decide (x.Day ≥ s.last) = false := decide_eq_false (by omega)
      simp only [hlt, e, if_true, nf]
      exact ⟨trivial, by decide⟩
    · have e : decide (x.Day ≥ s.last) = true := decide_eq_true (by omega)
      simp only [hlt, e, if_false, nt]
      have hday := evD hv
      have hsd := ho.day
      obtain ⟨f, hf, hdo⟩ := hD x hv
      have hok := older_all ho.ok (n := x.Day - s.last) (by omega)
      have e0 : s.last + (x.Day - s.last) = x.Day := by omega
      rw [e0] at hok
      have hdoes := hdo (b := ⟨some 0, (n : Int)⟩) (hr.shift (t' := x.Day) (by omega)) hok hday.1 hday.2 rfl rfl rfl
      have hbk : ({ b with event := (n : Int) } : CaskBook) = ⟨some 0, n⟩ := by rw [← hb]
      simp only [List.getElem?_cons_zero, Option.bind_some, bindv, List.set_cons_zero, hbk, hf]
      cases hds : doS (s.all.map (olderS (x.Day - s.last))) x n with
      | inl all' =>
        rw [hds] at hdoes
        obtain ⟨A1', A3', m', h2, h3⟩ := hdoes
        rw [h2]
        simp only [hw]
        exact ⟨A1', A3', m', rfl, h3⟩
      | inr er =>
        rw [hds] at hdoes
        obtain ⟨h2, h3⟩ := hdoes
        rw [h2]
        exact ⟨rfl, h3⟩
theorem stop_prog {l : List Ev} {day : Int} {n : Nat} {last : Int} {A1 : List CaskCask} {A2 : List CaskBook} {A3 : FM} {A4 : List (List (Int × Option Nat))} (h : ∀ x, l[n]? = some x → ¬ x.Day ≤ day) (hn : n ≤ l.length) :
    b_cask_play_1 l day D ((n : Int), last, A1, A2, A3, A4) = some (.done (.inl ((n : Int), A1, A2, A3, A4))) := by
  unfold b_cask_play_1
  cases hx : l[n]? with
  | none =>
    have : ¬ (n : Int) < (l.length : Int) := by
      have := List.getElem?_eq_none_iff.1 hx; omega
    simp [this]
  | some x =>
    have hnl : n < l.length := (List.getElem?_eq_some_iff.1 hx).1
    have h1 : decide ((n : Int) < (l.length : Int)) = true := decide_eq_true (by omega)
    have h2 : decide (x.Day ≤ day) = false := decide_eq_false (h x hx)
    simp only [h1, if_true, idxL_nat, hx, Option.bind_some, h2, Bool.false_eq_true, if_false]
theorem loop_prog (hD : DeedsOK D) {l : List Ev} {day : Int} (hl : l.length ≤ 4096) : ∀ (post pre : List Ev) (s : Cur) (A1 : List CaskCask) (A3 : FM) (m : List (Int × Option Nat)) (b : CaskBook), l = pre ++ post → SOk pre.length s → PR s.last pre.length s.all A1 A3 m → b.casks = some 0 →
    match goS day post pre.length s with
    | (.inl s', k) => ∃ A1' A3' m' b', loopM (b_cask_play_1 l day D) ((pre.length : Int), s.last, A1, [b], A3, [m]) = some (.inl ((k : Int), A1', [b'], A3', [m'])) ∧ PR s'.last k s'.all A1' A3' m' ∧ b'.casks = some 0
    | (.inr e, k) => loopM (b_cask_play_1 l day D) ((pre.length : Int), s.last, A1, [b], A3, [m]) = some (.inr (⟨e⟩, (k : Int), 0, some 0)) ∧ e ≠ 0
  | [], pre, s, A1, A3, m, b, e, ho, hr, hb => by
    simp only [goS]
    refine ⟨A1, A3, m, b, ?_, hr, hb⟩
    rw [loopM_eq, stop_prog (fun x hx => by rw [e] at hx; simp at hx) (by rw [e]; simp)]
  | x :: post, pre, s, A1, A3, m, b, e, ho, hr, hb => by
    have hx : l[pre.length]? = some x := getEl_mid e
    have hn : pre.length ≤ 4096 := by have := lt_mid e; omega
    rw [loopM_eq]
    by_cases hd : x.Day ≤ day
    · have hst := step_prog hD hx hn ho hr hb hd
      simp only [goS, hd, if_true]
      cases hs : stepS pre.length s x with
      | inl s' =>
        rw [hs] at hst
        obtain ⟨A1', A3', m', h1, h2⟩ := hst
        rw [h1]
        have ih := loop_prog hD (day := day) hl post (pre ++ [x]) s' A1' A3' m' ⟨some 0, (pre.length : Int)⟩ (by rw [e]; simp) (by simpa using (step_ok ho hs).1) (by simpa using h2) rfl
        simpa using ih
      | inr er =>
        rw [hs] at hst
        rw [hst.1]
        exact ⟨rfl, hst.2⟩
    · rw [stop_prog (fun y hy => by rw [hx] at hy; cases hy; exact hd) (by have := lt_mid e; omega)]
      simp only [goS, hd, if_false]
      exact ⟨A1, A3, m, b, rfl, hr, hb⟩
end
end Go.Proofs.Ytkedjmhhcekmiaa
end

section
namespace Go.Proofs.Ytkedjmhhcekmiaa
open Go.Dec
section
variable {t day : Int} {n : Nat} {all : List Held} {A1 : List CaskCask} {A3 : FM} {m : List (Int × Option Nat)}
theorem forL_rest (hday : day ≤ 1000000) (hok : ∀ (k : Nat) (c : CaskCask), A1[k]? = some c → 0 ≤ c.since ∧ c.since ≤ day ∧ ∃ F, HOk c.since n (rawOf c F)) : ∀ (L : List (Int × Option Nat)) (s : List CaskCask), (∀ e ∈ L, ∃ k, e.2 = some k ∧ k < A1.length) → (L.map Prod.snd).Nodup → s.length = A1.length → (∀ k, some k ∈ L.map Prod.snd → s[k]? = A1[k]?) →
    ∃ s', forL (b_cask_play_2 day) L s = some s' ∧ s'.length = A1.length ∧ ∀ i : Nat, s'[i]? = if some i ∈ L.map Prod.snd then (A1[i]?).map (restC day) else s[i]?
  | [], s, _, _, hl, _ => ⟨s, rfl, hl, fun i => by simp⟩
  | e :: L, s, hE, hN, hl, hs => by
    obtain ⟨k, hk, hkl⟩ := hE e (by simp)
    have hN' : some k ∉ L.map Prod.snd ∧ (L.map Prod.snd).Nodup := by
      have := List.nodup_cons.1 hN
      rw [hk] at this; exact this
    have hc : A1[k]? = some A1[k] := List.getElem?_eq_getElem hkl
    have hsk : s[k]? = some A1[k] := by rw [hs k (by simp [hk])]; exact hc
    obtain ⟨h0, h1, F, hF⟩ := hok k _ hc
    have hb : b_cask_play_2 day e s = some (s.set k (restC day A1[k])) := by
      unfold b_cask_play_2
      rw [hk, rest_prog hsk hF h0 h1 hday]
      rfl
    obtain ⟨s', g1, g2, g3⟩ := forL_rest hday hok L (s.set k (restC day A1[k])) (fun e' he' => hE e' (List.mem_cons_of_mem _ he')) hN'.2 (by simpa using hl) (fun k' hk' => by
      have hne : k ≠ k' := fun e' => hN'.1 (by rw [e']; exact hk')
      rw [List.getElem?_set_ne hne]
      exact hs k' (by rw [List.map_cons]; exact List.mem_cons_of_mem _ hk'))
    refine ⟨s', by simp only [forL, hb, Option.bind_some]; exact g1, g2, fun i => ?_⟩
    rw [g3 i]
    by_cases hi : some i ∈ L.map Prod.snd
    · rw [if_pos hi, if_pos (by rw [List.map_cons]; exact List.mem_cons_of_mem _ hi)]
    · rw [if_neg hi]
      by_cases e' : k = i
      · subst e'
        rw [List.getElem?_set_self (by rw [hl]; exact hkl), if_pos (by simp [hk]), hc]
        rfl
      · rw [List.getElem?_set_ne e', if_neg]
        rw [List.map_cons, List.mem_cons, hk]
        rintro (h | h)
        · exact e' (by simpa using h.symm)
        · exact hi h
theorem rest_all (r : PR t n all A1 A3 m) (hd : t ≤ day) (hday : day ≤ 65536) : permM (b_cask_play_2 day) m A1 = some (A1.map (restC day)) ∧ PR day n (all.map (olderS (day - t))) (A1.map (restC day)) A3 m ∧ ∀ c ∈ A1.map (restC day), c.since = day := by
  have hlook : ∀ (k : Nat) (c : CaskCask), A1[k]? = some c → ∃ h, all[k]? = some h ∧ CR t n A3 c h := fun k c hc => by
    have hk : k < all.length := by rw [← r.len]; exact (List.getElem?_eq_some_iff.1 hc).1
    exact ⟨all[k], List.getElem?_eq_getElem hk, r.each k c _ hc (List.getElem?_eq_getElem hk)⟩
  have hsnd : m.map Prod.snd = (List.range A1.length).map some := by
    rw [r.map]
    apply List.ext_getElem?
    intro i
    simp only [List.getElem?_map, List.getElem?_mapIdx]
    by_cases h : i < A1.length
    · simp [h]
    · simp [h]
  refine ⟨permM_of fun l' hl' => ?_, ⟨by simp [r.len], fun k c h hc hh => ?_, ?_, fun i j ci cj q h1 h2 h3 h4 => ?_⟩, fun c hc => ?_⟩
  · have hp := hl'.map Prod.snd
    have hmem : ∀ o, o ∈ l'.map Prod.snd ↔ ∃ i, i < A1.length ∧ o = some i := fun o => by
      rw [hp.mem_iff, hsnd]
      simp only [List.mem_map, List.mem_range]
      exact ⟨fun ⟨i, h1, h2⟩ => ⟨i, h1, h2.symm⟩, fun ⟨i, h1, h2⟩ => ⟨i, h1, h2.symm⟩⟩
    obtain ⟨s', g1, g2, g3⟩ := forL_rest (day := day) (A1 := A1) (n := n) (by omega) (fun k c hc => by
      obtain ⟨h, _, hcr⟩ := hlook k c hc
      exact ⟨hcr.since.1, by have := hcr.since.2; omega, _, hcr.ok⟩) l' A1 (fun e he => by
        obtain ⟨i, h1, h2⟩ := (hmem e.2).1 (List.mem_map_of_mem he)
        exact ⟨i, h2, h1⟩) (hp.nodup_iff.2 (by rw [hsnd]; exact List.nodup_range.map _ (fun a b hab e => hab (by simpa using e)))) rfl (fun _ _ => rfl)
    rw [g1]
    congr 1
    apply List.ext_getElem?
    intro i
    rw [g3 i, List.getElem?_map]
    by_cases h : i < A1.length
    · rw [if_pos ((hmem _).2 ⟨i, h, rfl⟩)]
    · rw [if_neg (fun h' => by
        obtain ⟨i', h1, h2⟩ := (hmem _).1 h'
        simp only [Option.some.injEq] at h2
        omega), List.getElem?_eq_none (by omega)]
      rfl
  · rw [List.getElem?_map] at hc hh
    cases h1 : A1[k]? with
    | none => rw [h1] at hc; cases hc
    | some c0 =>
      obtain ⟨h0, h2, hcr⟩ := hlook k c0 h1
      rw [h1] at hc; rw [h2] at hh
      simp only [Option.map_some, Option.some.injEq] at hc hh
      subst hc; subst hh
      exact (hcr.shift hd).rest
  · rw [r.map]
    apply List.ext_getElem?
    intro i
    simp only [List.getElem?_mapIdx, List.getElem?_map]
    cases A1[i]? with
    | none => rfl
    | some c => simp [rest_number]
  · rw [List.getElem?_map] at h1 h2
    cases g1 : A1[i]? with
    | none => rw [g1] at h1; cases h1
    | some c1 =>
      cases g2 : A1[j]? with
      | none => rw [g2] at h2; cases h2
      | some c2 =>
        rw [g1] at h1; rw [g2] at h2
        simp only [Option.map_some, Option.some.injEq] at h1 h2
        subst h1; subst h2
        rw [rest_fillsC] at h3 h4
        exact r.apart i j c1 c2 q g1 g2 h3 h4
  · obtain ⟨c0, _, rfl⟩ := List.mem_map.1 hc
    exact rest_since
end
theorem PR.start : PR 0 0 [] [] [] [] := ⟨rfl, fun _ _ _ h => by simp at h, rfl, fun _ _ _ _ _ h => by simp at h⟩
def PlayOK (day : Int) (r : (List Held ⊕ Int) × Nat) (o : Option ((Option Nat) × Int × Int × (List CaskCask) × (List CaskBook) × FM × (List (List (Int × Option Nat))))) : Prop := match r with
  | (.inl all, k) => ∃ A1 b A3 m, o = some (some 0, (k : Int), 0, A1, [b], A3, [m]) ∧ b.casks = some 0 ∧ PR day k all A1 A3 m ∧ (∀ c ∈ A1, c.since = day) ∧ AOk day k all ∧ k ≤ 4096 ∧ 0 ≤ day ∧ day ≤ 65536
  | (.inr e, k) => o = some (none, (k : Int), e, [], [], [], []) ∧ e ≠ 0
theorem play_prog (l : List Ev) (day : Int) : PlayOK day (playS l day) (m_cask_play l day) := by
  obtain ⟨D, hD, hOK⟩ := deeds_some
  unfold m_cask_play playS
  by_cases hl : l.length > 4096
  · have : decide ((l.length : Int) > 4096) = true := decide_eq_true (by omega)
    simp only [this, hl, if_true]
    exact ⟨rfl, by decide⟩
  · have : decide ((l.length : Int) > 4096) = false := decide_eq_false (by omega)
    simp only [this, hl, if_false, Bool.false_eq_true]
    have e : m_cask_within day 0 65536 = inB day 0 65536 := rfl
    rw [e]
    cases hb : inB day 0 65536 with
    | false => exact ⟨rfl, by decide⟩
    | true =>
      have hday := inB_iff.1 hb
      simp only [Bool.not_true, Bool.false_eq_true, if_false, bindv, hD, Option.bind_some, List.nil_append]
      have hloop := loop_prog (D := D) hOK (l := l) (day := day) (by omega) l [] ⟨[], 0⟩ [] [] [] ⟨some 0, 0⟩ rfl SOk.start PR.start rfl
      unfold runS
      cases hg : goS day l 0 ⟨[], 0⟩ with
      | mk r k =>
        have hg' : goS day l ([] : List Ev).length ⟨[], 0⟩ = (r, k) := hg
        rw [hg'] at hloop
        cases r with
        | inl s' =>
          obtain ⟨A1', A3', m', b', h1, h2, h3⟩ := hloop
          obtain ⟨g1, g2, g3, g4⟩ := go_ok l 0 ⟨[], 0⟩ s' k SOk.start (by show (0:Int) ≤ day; omega) hg
          have h1' : loopM (b_cask_play_1 l day D) (0, 0, [], [⟨some 0, 0⟩], [], [[]]) = _ := h1
          obtain ⟨p1, p2, p3⟩ := rest_all h2 g2 hday.2
          have hok := older_all g1.ok (n := day - s'.last) (by omega)
          rw [show s'.last + (day - s'.last) = day by omega] at hok
          refine ⟨A1'.map (restC day), b', A3', m', ?_, h3, p2, p3, hok, by omega, hday.1, hday.2⟩
          rw [h1', Option.bind_some]
          simp only [List.getElem?_cons_zero, Option.bind_some, h3, p1]
        | inr er =>
          have h1' : loopM (b_cask_play_1 l day D) (0, 0, [], [⟨some 0, 0⟩], [], [[]]) = _ := hloop.1
          refine ⟨?_, hloop.2⟩
          rw [h1', Option.bind_some]
end Go.Proofs.Ytkedjmhhcekmiaa
end

section
namespace Go.Proofs.Ytkedjmhhcekmiaa
open Go.Dec Go.Shelf Go.RowKit Go.Maps Go.Sort
noncomputable def m_wormtublaw06_awake  : Option Bool :=
 (m_wormtublaw06_sample).bind fun r_3 => (m_cask_At r_3 2 140).bind fun r_10 => (m_cask_At r_3 2 200).bind fun r_14 => (m_cask_Sources r_3 2 200).bind fun r_18 => (appO r_3 ([(ApiCaskEvent.mk 3 200 2 0 0 0 10 0)])).bind fun l_27 => (m_cask_Play l_27 200).bind fun r_37 => (m_cask_Owned r_3 30 200).bind fun r_43 => if ((((((((((((r_10.1.Amount != 150) || (r_10.1.Age != 140)) || ((r_10.1.Woods 2) != 100)) || ((r_10.1.Woods 3) != 40)) || ((r_10.1.Places 1) != 40)) || (r_10.1.Creditor != (-1))) || (r_10.2 != 0)) || (r_14.1.Amount != 200)) || (r_14.1.Age != 50)) || ((r_14.1.Woods 2) != 0)) || (r_14.1.Creditor != 30)) || (r_14.2 != 0)) then (some false) else ((m_wormtubref06_Ints r_18.1 ([2, 5])).bind fun r_102 => (if ((((r_102 && (r_18.2 == 0)) && (r_37.2.1 == 7)) && (r_37.2.2 == 11)) && ((r_43.1.length : Int) == 0)) then ((m_wormtubref06_Ints r_43.2.1 ([2])).bind fun r_127 => some r_127) else some false).bind fun z131 => some (z131 && (r_43.2.2 == 0)))
theorem c_wormtublaw06_awake (F0 : Fz)  : CT0 Try.prog 11 [].toArray F0 (m_wormtublaw06_awake) (fun r _ v => v = (.bool r)) := by
 refine CT0.enter Try.func11 rfl Try.ntmps11 rfl fun r R => ?_
 unfold m_wormtublaw06_awake
 refine .seq ?_
 refine .region ?_
 refine .assign rfl rfl ?_
 refine .nil ?_
 refine .code ?_
 refine .seq ?_
 refine .region ?_
 refine .call0 rfl Try.call23 rfl rfl rfl (c_wormtublaw06_sample _ ) ?_
 rintro r_3 F_1 _ - l_2 ⟨p4, k5, rfl, h6, hf7⟩
 refine .assign rfl rfl ?_
 refine .nil ?_
 refine .code ?_
 refine .seq ?_
 refine .region ?_
 refine .move rfl rfl ?_
 refine .call0 rfl Try.call14 rfl rfl rfl (c_cask_At _ r_3 p4 k5 h6 2 140) ?_
 rintro r_10 F_8 _ - l_9 rfl
 refine .move rfl rfl ?_
 refine .extract rfl rfl rfl ?_
 refine .extract rfl rfl rfl ?_
 refine .alloc (cs := (cApiCask (ApiCask.mk 0 0 0 0 0 0 0 0 (fun _ => 0) (fun _ => 0)))) rfl Try.zeroValue31 rfl (fun b11 => ?_)
 refine .store (cs' := (cApiCask r_10.1)) Try.sizeOf31 rfl rfl rfl rfl (i := 0) rfl (Nat.le_of_ble_eq_true rfl) rfl (setMany_all (by rfl)) ?_
 refine .assign rfl rfl ?_
 refine .nil ?_
 refine .code ?_
 refine .seq ?_
 refine .region ?_
 refine .move rfl rfl ?_
 refine .call0 rfl Try.call14 rfl rfl rfl (c_cask_At _ r_3 p4 k5 (h6.mono l_9) 2 200) ?_
 rintro r_14 F_12 _ - l_13 rfl
 refine .move rfl rfl ?_
 refine .extract rfl rfl rfl ?_
 refine .extract rfl rfl rfl ?_
 refine .alloc (cs := (cApiCask (ApiCask.mk 0 0 0 0 0 0 0 0 (fun _ => 0) (fun _ => 0)))) rfl Try.zeroValue31 rfl (fun b15 => ?_)
 refine .store (cs' := (cApiCask r_14.1)) Try.sizeOf31 rfl rfl rfl rfl (i := 0) rfl (Nat.le_of_ble_eq_true rfl) rfl (setMany_all (by rfl)) ?_
 refine .assign rfl rfl ?_
 refine .nil ?_
 refine .code ?_
 refine .seq ?_
 refine .region ?_
 refine .move rfl rfl ?_
 refine .call0 rfl Try.call19 rfl rfl rfl (c_cask_Sources _ r_3 p4 k5 (h6.mono (Fz.le_trans l_9 l_13)) 2 200) ?_
 rintro r_18 F_16 _ - l_17 ⟨p19, k20, rfl, h21⟩
 refine .move rfl rfl ?_
 refine .extract rfl rfl rfl ?_
 refine .extract rfl rfl rfl ?_
 refine .assign rfl rfl ?_
 refine .assign rfl rfl ?_
 refine .nil ?_
 refine .code ?_
 refine .seq ?_
 refine .region ?_
 refine .move rfl rfl ?_
 refine .build (cs := (cApiCaskEvent (ApiCaskEvent.mk 3 200 2 0 0 0 10 0)).toArray) rfl Try.underlying45 Try.zeroValue45 (plApiCaskEvent _ Try.underlying45) rfl rfl (by kernel_rfl) ?_
 refine .sliceLit (cs := [.int .i64 (ApiCaskEvent.mk 3 200 2 0 0 0 10 0).Kind, .int .i64 (ApiCaskEvent.mk 3 200 2 0 0 0 10 0).Day, .int .i64 (ApiCaskEvent.mk 3 200 2 0 0 0 10 0).Cask, .int .i64 (ApiCaskEvent.mk 3 200 2 0 0 0 10 0).Other, .int .i64 (ApiCaskEvent.mk 3 200 2 0 0 0 10 0).Person, .int .i64 (ApiCaskEvent.mk 3 200 2 0 0 0 10 0).To, .int .i64 (ApiCaskEvent.mk 3 200 2 0 0 0 10 0).Amount, .int .i64 (ApiCaskEvent.mk 3 200 2 0 0 0 10 0).Where]) (zc := [.int .i64 (ApiCaskEvent.mk 0 0 0 0 0 0 0 0).Kind, .int .i64 (ApiCaskEvent.mk 0 0 0 0 0 0 0 0).Day, .int .i64 (ApiCaskEvent.mk 0 0 0 0 0 0 0 0).Cask, .int .i64 (ApiCaskEvent.mk 0 0 0 0 0 0 0 0).Other, .int .i64 (ApiCaskEvent.mk 0 0 0 0 0 0 0 0).Person, .int .i64 (ApiCaskEvent.mk 0 0 0 0 0 0 0 0).To, .int .i64 (ApiCaskEvent.mk 0 0 0 0 0 0 0 0).Amount, .int .i64 (ApiCaskEvent.mk 0 0 0 0 0 0 0 0).Where]) rfl Try.underlying22 Try.sizeOf45 Try.zeroValue45 rfl rfl rfl (by kernel_rfl) (by kernel_rfl) (fun b22 F_23 l_24 hb25 => ?_)
 have h26 : RepSl 8 (Ex cApiCaskEvent) F_23 (some ⟨b22, 0, none⟩) 1 ([(ApiCaskEvent.mk 3 200 2 0 0 0 10 0)]) := RepSl.ofRow hb25 (.cons ok_t45.mono rfl .nil) rfl rfl
 refine .appendF ok_t45 rfl Try.underlying22 Try.underlying22 rfl rfl (h6.mono (Fz.le_trans l_9 (Fz.le_trans l_13 (Fz.le_trans l_17 l_24)))) h26 (by rw [hf7]; exact Nat.lt_add_of_pos_right (by decide)) rfl rfl (fun l_27 p28 k29 e30 => ?_)
 refine .freezeSl 0 rfl (Fz.le_refl _) (fun F_32 l_33 h34 => ?_)
 refine .call0 rfl Try.call12 rfl rfl rfl (c_cask_Play _ l_27 p28 k29 h34 200) ?_
 rintro r_37 F_35 _ - l_36 ⟨p38, k39, rfl, h40⟩
 refine .move rfl rfl ?_
 refine .extract rfl rfl rfl ?_
 refine .extract rfl rfl rfl ?_
 refine .extract rfl rfl rfl ?_
 refine .assign rfl rfl ?_
 refine .assign rfl rfl ?_
 refine .assign rfl rfl ?_
 refine .nil ?_
 refine .keep (.cons (k := 1) rfl (.cons (k := 2) rfl (.cons (k := 3) rfl (.cons (k := 4) rfl (.cons (k := 5) rfl (.cons (k := 6) rfl (.cons (k := 7) rfl (.cons (k := 9) rfl (.cons (k := 10) rfl (.nil _)))))))))) ?_
 refine .code ?_
 refine .seq ?_
 refine .region ?_
 refine .move rfl rfl ?_
 refine .call0 rfl Try.call17 rfl rfl rfl (c_cask_Owned _ r_3 p4 k5 (h6.mono (Fz.le_trans l_9 (Fz.le_trans l_13 (Fz.le_trans l_17 (Fz.le_trans l_24 (Fz.le_trans l_33 l_36)))))) 30 200) ?_
 rintro r_43 F_41 _ - l_42 ⟨p44, k45, p47, k48, rfl, h46, h49⟩
 refine .move rfl rfl ?_
 refine .extract rfl rfl rfl ?_
 refine .extract rfl rfl rfl ?_
 refine .extract rfl rfl rfl ?_
 refine .assign rfl rfl ?_
 refine .assign rfl rfl ?_
 refine .assign rfl rfl ?_
 refine .nil ?_
 refine .code ?_
 refine .seq ?_
 refine .seq ?_
 refine .region ?_
 refine .fieldAddr rfl Try.underlying31 rfl Try.sizeOf3 rfl ?_
 refine .loadO rfl Try.isAgg3 rfl (i := 1) rfl rfl ?_
 refine .neq rfl rfl rfl ?_
 refine .move rfl rfl ?_
 refine .orP (b := (r_10.1.Amount != 150)) (b' := (r_10.1.Age != 140)) 4 52 (fun hb50 => ?_) (fun hb51 => ?_) (fun F_52 l_53 => ?_)
 ·skip
  refine .onH hb50 rfl rfl ?_
  refine .fieldAddr rfl Try.underlying31 rfl Try.sizeOf3 rfl ?_
  refine .onH hb50 rfl rfl ?_
  refine .loadO rfl Try.isAgg3 rfl (i := 1) rfl rfl ?_
  refine .onH hb50 rfl rfl ?_
  refine .neq rfl rfl rfl ?_
  refine .pickFH hb50 rfl rfl rfl ?_
  exact .fin 4 rfl rfl (by kernel_rfl) (Fz.le_refl _)
 ·skip
  refine .offH hb51 rfl rfl rfl ?_
  refine .offH hb51 rfl rfl rfl ?_
  refine .offH hb51 rfl rfl rfl ?_
  refine .pickTH hb51 rfl rfl rfl ?_
  exact .fin 4 rfl rfl (by kernel_rfl) (Fz.le_refl _)
 refine .move rfl rfl ?_
 refine .orP (b := ((r_10.1.Amount != 150) || (r_10.1.Age != 140))) (b' := ((r_10.1.Woods 2) != 100)) 5 58 (fun hb54 => ?_) (fun hb55 => ?_) (fun F_56 l_57 => ?_)
 ·skip
  refine .onH hb54 rfl rfl ?_
  refine .fieldAddr rfl Try.underlying31 rfl Try.sizeOf29 rfl ?_
  refine .onH hb54 rfl rfl ?_
  refine .indexAddrA rfl Try.underlying29 Try.sizeOf3 rfl rfl (j := 2) rfl ?_
  refine .onH hb54 rfl rfl ?_
  refine .loadO rfl Try.isAgg3 rfl (i := 1) rfl rfl ?_
  refine .onH hb54 rfl rfl ?_
  refine .neq rfl rfl rfl ?_
  refine .pickFH hb54 rfl rfl rfl ?_
  exact .fin 5 rfl rfl (by kernel_rfl) (Fz.le_refl _)
 ·skip
  refine .offH hb55 rfl rfl rfl ?_
  refine .offH hb55 rfl rfl rfl ?_
  refine .offH hb55 rfl rfl rfl ?_
  refine .offH hb55 rfl rfl rfl ?_
  refine .pickTH hb55 rfl rfl rfl ?_
  exact .fin 5 rfl rfl (by kernel_rfl) (Fz.le_refl _)
 refine .move rfl rfl ?_
 refine .orP (b := (((r_10.1.Amount != 150) || (r_10.1.Age != 140)) || ((r_10.1.Woods 2) != 100))) (b' := ((r_10.1.Woods 3) != 40)) 5 64 (fun hb58 => ?_) (fun hb59 => ?_) (fun F_60 l_61 => ?_)
 ·skip
  refine .onH hb58 rfl rfl ?_
  refine .fieldAddr rfl Try.underlying31 rfl Try.sizeOf29 rfl ?_
  refine .onH hb58 rfl rfl ?_
  refine .indexAddrA rfl Try.underlying29 Try.sizeOf3 rfl rfl (j := 3) rfl ?_
  refine .onH hb58 rfl rfl ?_
  refine .loadO rfl Try.isAgg3 rfl (i := 1) rfl rfl ?_
  refine .onH hb58 rfl rfl ?_
  refine .neq rfl rfl rfl ?_
  refine .pickFH hb58 rfl rfl rfl ?_
  exact .fin 5 rfl rfl (by kernel_rfl) (Fz.le_refl _)
 ·skip
  refine .offH hb59 rfl rfl rfl ?_
  refine .offH hb59 rfl rfl rfl ?_
  refine .offH hb59 rfl rfl rfl ?_
  refine .offH hb59 rfl rfl rfl ?_
  refine .pickTH hb59 rfl rfl rfl ?_
  exact .fin 5 rfl rfl (by kernel_rfl) (Fz.le_refl _)
 refine .move rfl rfl ?_
 refine .orP (b := ((((r_10.1.Amount != 150) || (r_10.1.Age != 140)) || ((r_10.1.Woods 2) != 100)) || ((r_10.1.Woods 3) != 40))) (b' := ((r_10.1.Places 1) != 40)) 5 70 (fun hb62 => ?_) (fun hb63 => ?_) (fun F_64 l_65 => ?_)
 ·skip
  refine .onH hb62 rfl rfl ?_
  refine .fieldAddr rfl Try.underlying31 rfl Try.sizeOf29 rfl ?_
  refine .onH hb62 rfl rfl ?_
  refine .indexAddrA rfl Try.underlying29 Try.sizeOf3 rfl rfl (j := 1) rfl ?_
  refine .onH hb62 rfl rfl ?_
  refine .loadO rfl Try.isAgg3 rfl (i := 1) rfl rfl ?_
  refine .onH hb62 rfl rfl ?_
  refine .neq rfl rfl rfl ?_
  refine .pickFH hb62 rfl rfl rfl ?_
  exact .fin 5 rfl rfl (by kernel_rfl) (Fz.le_refl _)
 ·skip
  refine .offH hb63 rfl rfl rfl ?_
  refine .offH hb63 rfl rfl rfl ?_
  refine .offH hb63 rfl rfl rfl ?_
  refine .offH hb63 rfl rfl rfl ?_
  refine .pickTH hb63 rfl rfl rfl ?_
  exact .fin 5 rfl rfl (by kernel_rfl) (Fz.le_refl _)
 refine .move rfl rfl ?_
 refine .orP (b := (((((r_10.1.Amount != 150) || (r_10.1.Age != 140)) || ((r_10.1.Woods 2) != 100)) || ((r_10.1.Woods 3) != 40)) || ((r_10.1.Places 1) != 40))) (b' := (r_10.1.Creditor != (-1))) 4 75 (fun hb66 => ?_) (fun hb67 => ?_) (fun F_68 l_69 => ?_)
 ·skip
  refine .onH hb66 rfl rfl ?_
  refine .fieldAddr rfl Try.underlying31 rfl Try.sizeOf3 rfl ?_
  refine .onH hb66 rfl rfl ?_
  refine .loadO rfl Try.isAgg3 rfl (i := 1) rfl rfl ?_
  refine .onH hb66 rfl rfl ?_
  refine .neq rfl rfl rfl ?_
  refine .pickFH hb66 rfl rfl rfl ?_
  exact .fin 4 rfl rfl (by kernel_rfl) (Fz.le_refl _)
 ·skip
  refine .offH hb67 rfl rfl rfl ?_
  refine .offH hb67 rfl rfl rfl ?_
  refine .offH hb67 rfl rfl rfl ?_
  refine .pickTH hb67 rfl rfl rfl ?_
  exact .fin 4 rfl rfl (by kernel_rfl) (Fz.le_refl _)
 refine .move rfl rfl ?_
 refine .orP (b := ((((((r_10.1.Amount != 150) || (r_10.1.Age != 140)) || ((r_10.1.Woods 2) != 100)) || ((r_10.1.Woods 3) != 40)) || ((r_10.1.Places 1) != 40)) || (r_10.1.Creditor != (-1)))) (b' := (r_10.2 != 0)) 3 79 (fun hb70 => ?_) (fun hb71 => ?_) (fun F_72 l_73 => ?_)
 ·skip
  refine .onH hb70 rfl rfl ?_
  refine .move rfl rfl ?_
  refine .onH hb70 rfl rfl ?_
  refine .neq rfl rfl rfl ?_
  refine .pickFH hb70 rfl rfl rfl ?_
  exact .fin 3 rfl rfl (by kernel_rfl) (Fz.le_refl _)
 ·skip
  refine .offH hb71 rfl rfl rfl ?_
  refine .offH hb71 rfl rfl rfl ?_
  refine .pickTH hb71 rfl rfl rfl ?_
  exact .fin 3 rfl rfl (by kernel_rfl) (Fz.le_refl _)
 refine .move rfl rfl ?_
 refine .orP (b := (((((((r_10.1.Amount != 150) || (r_10.1.Age != 140)) || ((r_10.1.Woods 2) != 100)) || ((r_10.1.Woods 3) != 40)) || ((r_10.1.Places 1) != 40)) || (r_10.1.Creditor != (-1))) || (r_10.2 != 0))) (b' := (r_14.1.Amount != 200)) 4 84 (fun hb74 => ?_) (fun hb75 => ?_) (fun F_76 l_77 => ?_)
 ·skip
  refine .onH hb74 rfl rfl ?_
  refine .fieldAddr rfl Try.underlying31 rfl Try.sizeOf3 rfl ?_
  refine .onH hb74 rfl rfl ?_
  refine .loadO rfl Try.isAgg3 rfl (i := 0) rfl rfl ?_
  refine .onH hb74 rfl rfl ?_
  refine .neq rfl rfl rfl ?_
  refine .pickFH hb74 rfl rfl rfl ?_
  exact .fin 4 rfl rfl (by kernel_rfl) (Fz.le_refl _)
 ·skip
  refine .offH hb75 rfl rfl rfl ?_
  refine .offH hb75 rfl rfl rfl ?_
  refine .offH hb75 rfl rfl rfl ?_
  refine .pickTH hb75 rfl rfl rfl ?_
  exact .fin 4 rfl rfl (by kernel_rfl) (Fz.le_refl _)
 refine .move rfl rfl ?_
 refine .orP (b := ((((((((r_10.1.Amount != 150) || (r_10.1.Age != 140)) || ((r_10.1.Woods 2) != 100)) || ((r_10.1.Woods 3) != 40)) || ((r_10.1.Places 1) != 40)) || (r_10.1.Creditor != (-1))) || (r_10.2 != 0)) || (r_14.1.Amount != 200))) (b' := (r_14.1.Age != 50)) 4 89 (fun hb78 => ?_) (fun hb79 => ?_) (fun F_80 l_81 => ?_)
 ·skip
  refine .onH hb78 rfl rfl ?_
  refine .fieldAddr rfl Try.underlying31 rfl Try.sizeOf3 rfl ?_
  refine .onH hb78 rfl rfl ?_
  refine .loadO rfl Try.isAgg3 rfl (i := 0) rfl rfl ?_
  refine .onH hb78 rfl rfl ?_
  refine .neq rfl rfl rfl ?_
  refine .pickFH hb78 rfl rfl rfl ?_
  exact .fin 4 rfl rfl (by kernel_rfl) (Fz.le_refl _)
 ·skip
  refine .offH hb79 rfl rfl rfl ?_
  refine .offH hb79 rfl rfl rfl ?_
  refine .offH hb79 rfl rfl rfl ?_
  refine .pickTH hb79 rfl rfl rfl ?_
  exact .fin 4 rfl rfl (by kernel_rfl) (Fz.le_refl _)
 refine .move rfl rfl ?_
 refine .orP (b := (((((((((r_10.1.Amount != 150) || (r_10.1.Age != 140)) || ((r_10.1.Woods 2) != 100)) || ((r_10.1.Woods 3) != 40)) || ((r_10.1.Places 1) != 40)) || (r_10.1.Creditor != (-1))) || (r_10.2 != 0)) || (r_14.1.Amount != 200)) || (r_14.1.Age != 50))) (b' := ((r_14.1.Woods 2) != 0)) 5 95 (fun hb82 => ?_) (fun hb83 => ?_) (fun F_84 l_85 => ?_)
 ·skip
  refine .onH hb82 rfl rfl ?_
  refine .fieldAddr rfl Try.underlying31 rfl Try.sizeOf29 rfl ?_
  refine .onH hb82 rfl rfl ?_
  refine .indexAddrA rfl Try.underlying29 Try.sizeOf3 rfl rfl (j := 2) rfl ?_
  refine .onH hb82 rfl rfl ?_
  refine .loadO rfl Try.isAgg3 rfl (i := 0) rfl rfl ?_
  refine .onH hb82 rfl rfl ?_
  refine .neq rfl rfl rfl ?_
  refine .pickFH hb82 rfl rfl rfl ?_
  exact .fin 5 rfl rfl (by kernel_rfl) (Fz.le_refl _)
 ·skip
  refine .offH hb83 rfl rfl rfl ?_
  refine .offH hb83 rfl rfl rfl ?_
  refine .offH hb83 rfl rfl rfl ?_
  refine .offH hb83 rfl rfl rfl ?_
  refine .pickTH hb83 rfl rfl rfl ?_
  exact .fin 5 rfl rfl (by kernel_rfl) (Fz.le_refl _)
 refine .move rfl rfl ?_
 refine .orP (b := ((((((((((r_10.1.Amount != 150) || (r_10.1.Age != 140)) || ((r_10.1.Woods 2) != 100)) || ((r_10.1.Woods 3) != 40)) || ((r_10.1.Places 1) != 40)) || (r_10.1.Creditor != (-1))) || (r_10.2 != 0)) || (r_14.1.Amount != 200)) || (r_14.1.Age != 50)) || ((r_14.1.Woods 2) != 0))) (b' := (r_14.1.Creditor != 30)) 4 100 (fun hb86 => ?_) (fun hb87 => ?_) (fun F_88 l_89 => ?_)
 ·skip
  refine .onH hb86 rfl rfl ?_
  refine .fieldAddr rfl Try.underlying31 rfl Try.sizeOf3 rfl ?_
  refine .onH hb86 rfl rfl ?_
  refine .loadO rfl Try.isAgg3 rfl (i := 0) rfl rfl ?_
  refine .onH hb86 rfl rfl ?_
  refine .neq rfl rfl rfl ?_
  refine .pickFH hb86 rfl rfl rfl ?_
  exact .fin 4 rfl rfl (by kernel_rfl) (Fz.le_refl _)
 ·skip
  refine .offH hb87 rfl rfl rfl ?_
  refine .offH hb87 rfl rfl rfl ?_
  refine .offH hb87 rfl rfl rfl ?_
  refine .pickTH hb87 rfl rfl rfl ?_
  exact .fin 4 rfl rfl (by kernel_rfl) (Fz.le_refl _)
 refine .move rfl rfl ?_
 refine .orP (b := (((((((((((r_10.1.Amount != 150) || (r_10.1.Age != 140)) || ((r_10.1.Woods 2) != 100)) || ((r_10.1.Woods 3) != 40)) || ((r_10.1.Places 1) != 40)) || (r_10.1.Creditor != (-1))) || (r_10.2 != 0)) || (r_14.1.Amount != 200)) || (r_14.1.Age != 50)) || ((r_14.1.Woods 2) != 0)) || (r_14.1.Creditor != 30))) (b' := (r_14.2 != 0)) 3 104 (fun hb90 => ?_) (fun hb91 => ?_) (fun F_92 l_93 => ?_)
 ·skip
  refine .onH hb90 rfl rfl ?_
  refine .move rfl rfl ?_
  refine .onH hb90 rfl rfl ?_
  refine .neq rfl rfl rfl ?_
  refine .pickFH hb90 rfl rfl rfl ?_
  exact .fin 3 rfl rfl (by kernel_rfl) (Fz.le_refl _)
 ·skip
  refine .offH hb91 rfl rfl rfl ?_
  refine .offH hb91 rfl rfl rfl ?_
  refine .pickTH hb91 rfl rfl rfl ?_
  exact .fin 3 rfl rfl (by kernel_rfl) (Fz.le_refl _)
 refine .nil ?_
 refine .keep (.cons (k := 6) rfl (.cons (k := 7) rfl (.cons (k := 9) rfl (.cons (k := 10) rfl (.cons (k := 11) rfl (.cons (k := 12) rfl (.cons (k := 13) rfl (.cons (k := 104) rfl (.nil _))))))))) ?_
 refine .code ?_
 refine .cond rfl (fun hb94 => ?_) (fun hb94 => ?_)
 ·skip
  refine .seq ?_
  refine .region ?_
  refine .assign rfl rfl ?_
  refine .nil ?_
  refine .code ?_
  exact .ret0 Try.results11 (.tmp rfl (.nil)) (i := 2) rfl (Fz.le_trans l_2 (Fz.le_trans l_9 (Fz.le_trans l_13 (Fz.le_trans l_17 (Fz.le_trans l_24 (Fz.le_trans l_33 (Fz.le_trans l_36 (Fz.le_trans l_42 (Fz.le_trans l_53 (Fz.le_trans l_57 (Fz.le_trans l_61 (Fz.le_trans l_65 (Fz.le_trans l_69 (Fz.le_trans l_73 (Fz.le_trans l_77 (Fz.le_trans l_81 (Fz.le_trans l_85 (Fz.le_trans l_89 l_93)))))))))))))))))) rfl
 ·skip
  refine .skip ?_
  refine .code ?_
  refine .seq ?_
  refine .region ?_
  refine .move rfl rfl ?_
  refine .sliceLit (cs := [.int .i64 2, .int .i64 5]) (zc := [.int .i64 0, .int .i64 0]) rfl Try.underlying36 Try.sizeOf3 Try.zeroValue3 rfl rfl rfl (by kernel_rfl) (by kernel_rfl) (fun b95 F_96 l_97 hb98 => ?_)
  have h99 : RepSl 1 (Ex (cInt .i64)) F_96 (some ⟨b95, 0, none⟩) 2 ([2, 5]) := RepSl.ofRow hb98 (.cons ok_t3.mono rfl (.cons ok_t3.mono rfl .nil)) rfl rfl
  refine .call0 rfl Try.call21 rfl rfl rfl (c_wormtubref06_Ints _ r_18.1 p19 k20 (h21.mono (Fz.le_trans l_24 (Fz.le_trans l_33 (Fz.le_trans l_36 (Fz.le_trans l_42 (Fz.le_trans l_53 (Fz.le_trans l_57 (Fz.le_trans l_61 (Fz.le_trans l_65 (Fz.le_trans l_69 (Fz.le_trans l_73 (Fz.le_trans l_77 (Fz.le_trans l_81 (Fz.le_trans l_85 (Fz.le_trans l_89 (Fz.le_trans l_93 l_97)))))))))))))))) ([2, 5]) (some ⟨b95, 0, none⟩) 2 h99) ?_
  rintro r_102 F_100 _ - l_101 rfl
  refine .move rfl rfl ?_
  refine .andP (b := r_102) (b' := (r_18.2 == 0)) 3 111 (fun hb103 => ?_) (fun hb104 => ?_) (fun F_105 l_106 => ?_)
  ·skip
   refine .onH hb103 rfl rfl ?_
   refine .move rfl rfl ?_
   refine .onH hb103 rfl rfl ?_
   refine .eql rfl rfl rfl ?_
   refine .pickTH hb103 rfl rfl rfl ?_
   exact .fin 3 rfl rfl (by kernel_rfl) (Fz.le_refl _)
  ·skip
   refine .offH hb104 rfl rfl rfl ?_
   refine .offH hb104 rfl rfl rfl ?_
   refine .pickFH hb104 rfl rfl rfl ?_
   exact .fin 3 rfl rfl (by kernel_rfl) (Fz.le_refl _)
  refine .move rfl rfl ?_
  refine .andP (b := (r_102 && (r_18.2 == 0))) (b' := (r_37.2.1 == 7)) 3 115 (fun hb107 => ?_) (fun hb108 => ?_) (fun F_109 l_110 => ?_)
  ·skip
   refine .onH hb107 rfl rfl ?_
   refine .move rfl rfl ?_
   refine .onH hb107 rfl rfl ?_
   refine .eql rfl rfl rfl ?_
   refine .pickTH hb107 rfl rfl rfl ?_
   exact .fin 3 rfl rfl (by kernel_rfl) (Fz.le_refl _)
  ·skip
   refine .offH hb108 rfl rfl rfl ?_
   refine .offH hb108 rfl rfl rfl ?_
   refine .pickFH hb108 rfl rfl rfl ?_
   exact .fin 3 rfl rfl (by kernel_rfl) (Fz.le_refl _)
  refine .move rfl rfl ?_
  refine .andP (b := ((r_102 && (r_18.2 == 0)) && (r_37.2.1 == 7))) (b' := (r_37.2.2 == 11)) 3 119 (fun hb111 => ?_) (fun hb112 => ?_) (fun F_113 l_114 => ?_)
  ·skip
   refine .onH hb111 rfl rfl ?_
   refine .move rfl rfl ?_
   refine .onH hb111 rfl rfl ?_
   refine .eql rfl rfl rfl ?_
   refine .pickTH hb111 rfl rfl rfl ?_
   exact .fin 3 rfl rfl (by kernel_rfl) (Fz.le_refl _)
  ·skip
   refine .offH hb112 rfl rfl rfl ?_
   refine .offH hb112 rfl rfl rfl ?_
   refine .pickFH hb112 rfl rfl rfl ?_
   exact .fin 3 rfl rfl (by kernel_rfl) (Fz.le_refl _)
  refine .move rfl rfl ?_
  refine .andP (b := (((r_102 && (r_18.2 == 0)) && (r_37.2.1 == 7)) && (r_37.2.2 == 11))) (b' := ((r_43.1.length : Int) == 0)) 4 124 (fun hb115 => ?_) (fun hb116 => ?_) (fun F_117 l_118 => ?_)
  ·skip
   refine .onH hb115 rfl rfl ?_
   refine .move rfl rfl ?_
   refine .onH hb115 rfl rfl ?_
   refine .lenS rfl rfl Try.underlying36 rfl ?_
   refine .onH hb115 rfl rfl ?_
   refine .eql rfl rfl rfl ?_
   refine .pickTH hb115 rfl rfl rfl ?_
   exact .fin 4 rfl rfl (by kernel_rfl) (Fz.le_refl _)
  ·skip
   refine .offH hb116 rfl rfl rfl ?_
   refine .offH hb116 rfl rfl rfl ?_
   refine .offH hb116 rfl rfl rfl ?_
   refine .pickFH hb116 rfl rfl rfl ?_
   exact .fin 4 rfl rfl (by kernel_rfl) (Fz.le_refl _)
  refine .move rfl rfl ?_
  refine .andM (b := ((((r_102 && (r_18.2 == 0)) && (r_37.2.1 == 7)) && (r_37.2.2 == 11)) && ((r_43.1.length : Int) == 0))) 4 129 (fun hb119 z132 => ?_) (fun hb128 => ?_) (fun z131 F_129 l_130 => ?_)
  ·skip
   refine .onH hb119 rfl rfl ?_
   refine .move rfl rfl ?_
   refine .onH hb119 rfl rfl ?_
   refine .sliceLit (cs := [.int .i64 2]) (zc := [.int .i64 0]) rfl Try.underlying36 Try.sizeOf3 Try.zeroValue3 rfl rfl rfl (by kernel_rfl) (by kernel_rfl) (fun b120 F_121 l_122 hb123 => ?_)
   have h124 : RepSl 1 (Ex (cInt .i64)) F_121 (some ⟨b120, 0, none⟩) 1 ([2]) := RepSl.ofRow hb123 (.cons ok_t3.mono rfl .nil) rfl rfl
   refine .onH hb119 rfl rfl ?_
   refine .call0 rfl Try.call21 rfl rfl rfl (c_wormtubref06_Ints _ r_43.2.1 p47 k48 (h49.mono (Fz.le_trans l_53 (Fz.le_trans l_57 (Fz.le_trans l_61 (Fz.le_trans l_65 (Fz.le_trans l_69 (Fz.le_trans l_73 (Fz.le_trans l_77 (Fz.le_trans l_81 (Fz.le_trans l_85 (Fz.le_trans l_89 (Fz.le_trans l_93 (Fz.le_trans l_97 (Fz.le_trans l_101 (Fz.le_trans l_106 (Fz.le_trans l_110 (Fz.le_trans l_114 (Fz.le_trans l_118 l_122)))))))))))))))))) ([2]) (some ⟨b120, 0, none⟩) 1 h124) ?_
   rintro r_127 F_125 _ - l_126 rfl
   refine .pickTH hb119 rfl rfl rfl ?_
   exact .finZ 4 rfl rfl (by kernel_rfl) (Fz.le_trans l_122 l_126)
  ·skip
   refine .offH hb128 rfl rfl rfl ?_
   refine .offH hb128 rfl rfl rfl ?_
   refine .offH hb128 rfl rfl rfl ?_
   refine .pickFH hb128 rfl rfl rfl ?_
   exact .fin 4 rfl rfl (by kernel_rfl) (Fz.le_refl _)
  refine .move rfl rfl ?_
  refine .andP (b := z131) (b' := (r_43.2.2 == 0)) 3 133 (fun hb133 => ?_) (fun hb134 => ?_) (fun F_135 l_136 => ?_)
  ·skip
   refine .onH hb133 rfl rfl ?_
   refine .move rfl rfl ?_
   refine .onH hb133 rfl rfl ?_
   refine .eql rfl rfl rfl ?_
   refine .pickTH hb133 rfl rfl rfl ?_
   exact .fin 3 rfl rfl (by kernel_rfl) (Fz.le_refl _)
  ·skip
   refine .offH hb134 rfl rfl rfl ?_
   refine .offH hb134 rfl rfl rfl ?_
   refine .pickFH hb134 rfl rfl rfl ?_
   exact .fin 3 rfl rfl (by kernel_rfl) (Fz.le_refl _)
  refine .assign rfl rfl ?_
  refine .nil ?_
  refine .code ?_
  exact .ret0 Try.results11 (.tmp rfl (.nil)) (i := 2) rfl (Fz.le_trans l_2 (Fz.le_trans l_9 (Fz.le_trans l_13 (Fz.le_trans l_17 (Fz.le_trans l_24 (Fz.le_trans l_33 (Fz.le_trans l_36 (Fz.le_trans l_42 (Fz.le_trans l_53 (Fz.le_trans l_57 (Fz.le_trans l_61 (Fz.le_trans l_65 (Fz.le_trans l_69 (Fz.le_trans l_73 (Fz.le_trans l_77 (Fz.le_trans l_81 (Fz.le_trans l_85 (Fz.le_trans l_89 (Fz.le_trans l_93 (Fz.le_trans l_97 (Fz.le_trans l_101 (Fz.le_trans l_106 (Fz.le_trans l_110 (Fz.le_trans l_114 (Fz.le_trans l_118 (Fz.le_trans l_130 l_136)))))))))))))))))))))))))) rfl
end Go.Proofs.Ytkedjmhhcekmiaa
end

section
namespace Go.Proofs.Ytkedjmhhcekmiaa
open Go.Dec Go.Shelf Go.RowKit Go.Maps Go.Sort
noncomputable def b_wormtubref06_Same_1 (a1 : (List ApiCask)) (b5 : (List ApiCask)) (s10 : Int) : Option (Ctl (Int) ((Unit) ⊕ (Bool))) :=
 if (decide (s10 < (a1.length : Int))) then ((idxL a1 s10).bind fun x15 => (idxL b5 s10).bind fun x25 => if (!(eq_31 x15 x25)) then (some (.done (.inr false))) else (bindv (w64 (s10 + 1)) fun i54 => some (.next i54))) else (some (.done (.inl ())))
noncomputable def m_wormtubref06_Same (a1 : (List ApiCask)) (b5 : (List ApiCask)) : Option Bool :=
 if ((a1.length : Int) != (b5.length : Int)) then (some false) else ((loopM (b_wormtubref06_Same_1 a1 b5) 0).bind fun b0 => match b0 with | .inl _b56 => (some true) | .inr b56 => (some b56))
theorem c_wormtubref06_Same (F0 : Fz) (a1 : (List ApiCask)) (p2 : Option Addr) (k3 : Nat) (h4 : RepSl 24 (Ex cApiCask) F0 p2 k3 a1) (b5 : (List ApiCask)) (p6 : Option Addr) (k7 : Nat) (h8 : RepSl 24 (Ex cApiCask) F0 p6 k7 b5) : CT0 Try.prog 16 [(.slice p2 a1.length k3), (.slice p6 b5.length k7)].toArray F0 (m_wormtubref06_Same a1 b5) (fun r _ v => v = (.bool r)) := by
 refine CT0.enter Try.func16 rfl Try.ntmps16 rfl fun r R => ?_
 unfold m_wormtubref06_Same
 refine .seq ?_
 refine .region ?_
 refine .assign rfl rfl ?_
 refine .nil ?_
 refine .code ?_
 refine .seq ?_
 refine .seq ?_
 refine .region ?_
 refine .move rfl rfl ?_
 refine .lenS rfl rfl Try.underlying25 rfl ?_
 refine .move rfl rfl ?_
 refine .lenS rfl rfl Try.underlying25 rfl ?_
 refine .neq rfl rfl rfl ?_
 refine .nil ?_
 refine .code ?_
 refine .cond rfl (fun hb9 => ?_) (fun hb9 => ?_)
 ·skip
  refine .seq ?_
  refine .region ?_
  refine .assign rfl rfl ?_
  refine .nil ?_
  refine .code ?_
  exact .ret0 Try.results16 (.tmp rfl (.nil)) (i := 0) rfl (Fz.le_refl _) rfl
 ·skip
  refine .skip ?_
  refine .code ?_
  refine .seq ?_
  refine .seq ?_
  refine .region ?_
  refine .assign rfl rfl ?_
  refine .nil ?_
  refine .code ?_
  refine .block ?_
  refine .keep (.cons (k := 0) rfl (.cons (k := 1) rfl (.cons (k := 5) rfl (.nil _)))) ?_
  refine .loop (fun (s10 : Int) a w => ∃ (F_11 : Fz), F0 ≤ F_11 ∧ Hd 26 [] [(0, (.slice p2 a1.length k3)), (1, (.slice p6 b5.length k7)), (5, (.int .i64 s10))] F_11 [R] a w) (fun b0 e a w => match b0 with | .inl b56 => e = .exit 0 ∧ ∃ (F_57 : Fz), F0 ≤ F_57 ∧ Hd 26 [] [] F_57 [R] a w | .inr b56 => e = .ret ∧ ∃ (F_59 : Fz), F0 ≤ F_59 ∧ Hd 26 [] [(4, (.bool b56))] F_59 [R] a w) ?_ ?_ ?_
  ·exact fun a w h => ⟨F0, (Fz.le_refl _), h.1.sub (.cons (k := 0) rfl (.cons (k := 1) rfl (.cons (k := 5) rfl (.nil _)))), h.2⟩
  ·intro s10 ctl
   refine GC.ex (fun a w ⟨F_11, l_12, hA⟩ => ⟨_, hA, ?_⟩)
   unfold b_wormtubref06_Same_1
   refine .seq ?_
   refine .seq ?_
   refine .region ?_
   refine .move rfl rfl ?_
   refine .move rfl rfl ?_
   refine .lenS rfl rfl Try.underlying25 rfl ?_
   refine .lss rfl rfl rfl ?_
   refine .nil ?_
   refine .code ?_
   refine .cond rfl (fun hb13 => ?_) (fun hb13 => ?_)
   ·skip
    refine .skip ?_
    refine .code ?_
    refine .seq ?_
    refine .block ?_
    refine .seq ?_
    refine .keep (.cons (k := 0) rfl (.cons (k := 1) rfl (.cons (k := 5) rfl (.nil _)))) ?_
    refine .bind (fun x15 e21 => ?_)
    obtain ⟨b16, o17, T18, fr19, cs20, hm22, hv23, hq24⟩ := RepSl.idxE (h4.mono l_12) e21
    refine .bind (fun x25 e31 => ?_)
    obtain ⟨b26, o27, T28, fr29, cs30, hm32, hv33, hq34⟩ := RepSl.idxE (h8.mono l_12) e31
    refine .drawGD 8 0 (fun env14 => [((.slice p2 a1.length k3), fun _ => True), ((.int .i64 s10), fun _ => True), ((.pointer (some ⟨b16, o17, none⟩)), fun _ => True), ((eApiCask x15), fun _ => True), ((.slice p6 b5.length k7), fun _ => True), ((.int .i64 s10), fun _ => True), ((.pointer (some ⟨b26, o27, none⟩)), fun _ => True), ((eApiCask x25), fun _ => True)]) (fun L env14 => [R]) mixedOK (by kernel_rfl) (deepN (k := 8) (n := 9) rfl (allLt9 (p := fun t => 8 ≤ t → ∀ j, j < t → ∃ s, depB _ s t j = true) (fun h => absurd h (by decide)) (fun h => absurd h (by decide)) (fun h => absurd h (by decide)) (fun h => absurd h (by decide)) (fun h => absurd h (by decide)) (fun h => absurd h (by decide)) (fun h => absurd h (by decide)) (fun h => absurd h (by decide)) (fun _ => allLt8 (p := fun j => ∃ s, depB _ s 8 j = true) ⟨3, rfl⟩ ⟨3, rfl⟩ ⟨2, rfl⟩ ⟨1, rfl⟩ ⟨3, rfl⟩ ⟨3, rfl⟩ ⟨2, rfl⟩ ⟨1, rfl⟩))) rfl (fun _ => rfl) (by kernel_rfl) (fun _ => rfl) ?_ (fun env14 F_35 l_36 hphi => ?_)
    ·skip
     refine .cons (fun L env14 F_37 l_38 hL hdn hup hphi => ⟨[(0, (.slice p2 a1.length k3))], fun S hS hV => (.cons (hS _ _ rfl) (Sub.nil _)), ?_⟩) ?_
     ·skip
      refine .move rfl rfl ?_
      exact .finV rfl rfl (Fz.le_refl _)
     refine .cons (fun L env14 F_39 l_40 hL hdn hup hphi => ⟨[(5, (.int .i64 s10))], fun S hS hV => (.cons (hS _ _ rfl) (Sub.nil _)), ?_⟩) ?_
     ·skip
      refine .move rfl rfl ?_
      exact .finV rfl rfl (Fz.le_refl _)
     refine .cons (fun L env14 F_41 l_42 hL hdn hup hphi => ⟨[(17, (.slice p2 a1.length k3)), (18, (.int .i64 s10))], fun S hS hV => (.cons (hV 0 17 _ (hdn 1 0 rfl) rfl rfl) (.cons (hV 1 18 _ (hdn 1 1 rfl) rfl rfl) (Sub.nil _))), ?_⟩) ?_
     ·skip
      refine .idxQ rfl Try.underlying25 Try.sizeOf31 hq24 rfl rfl ?_
      exact .finV rfl rfl (Fz.le_refl _)
     refine .cons (fun L env14 F_43 l_44 hL hdn hup hphi => ⟨[(19, (.pointer (some ⟨b16, o17, none⟩)))], fun S hS hV => (.cons (hV 2 19 _ (hdn 1 2 rfl) rfl rfl) (Sub.nil _)), ?_⟩) ?_
     ·skip
      refine .loadFA rfl Try.isAgg31 Try.sizeOf31 rfl (l_44.mem _ _ hm22) hv23 rfl ?_
      exact .finV rfl rfl (Fz.le_refl _)
     refine .cons (fun L env14 F_45 l_46 hL hdn hup hphi => ⟨[(1, (.slice p6 b5.length k7))], fun S hS hV => (.cons (hS _ _ rfl) (Sub.nil _)), ?_⟩) ?_
     ·skip
      refine .move rfl rfl ?_
      exact .finV rfl rfl (Fz.le_refl _)
     refine .cons (fun L env14 F_47 l_48 hL hdn hup hphi => ⟨[(5, (.int .i64 s10))], fun S hS hV => (.cons (hS _ _ rfl) (Sub.nil _)), ?_⟩) ?_
     ·skip
      refine .move rfl rfl ?_
      exact .finV rfl rfl (Fz.le_refl _)
     refine .cons (fun L env14 F_49 l_50 hL hdn hup hphi => ⟨[(21, (.slice p6 b5.length k7)), (22, (.int .i64 s10))], fun S hS hV => (.cons (hV 4 21 _ (hdn 1 4 rfl) rfl rfl) (.cons (hV 5 22 _ (hdn 1 5 rfl) rfl rfl) (Sub.nil _))), ?_⟩) ?_
     ·skip
      refine .idxQ rfl Try.underlying25 Try.sizeOf31 hq34 rfl rfl ?_
      exact .finV rfl rfl (Fz.le_refl _)
     refine .cons (fun L env14 F_51 l_52 hL hdn hup hphi => ⟨[(23, (.pointer (some ⟨b26, o27, none⟩)))], fun S hS hV => (.cons (hV 6 23 _ (hdn 1 6 rfl) rfl rfl) (Sub.nil _)), ?_⟩) ?_
     ·skip
      refine .loadFA rfl Try.isAgg31 Try.sizeOf31 rfl (l_52.mem _ _ hm32) hv33 rfl ?_
      exact .finV rfl rfl (Fz.le_refl _)
     exact .nil
    refine .norm (S' := [(0, (.slice p2 a1.length k3)), (1, (.slice p6 b5.length k7)), (5, (.int .i64 s10)), (17, (.slice p2 a1.length k3)), (18, (.int .i64 s10)), (19, (.pointer (some ⟨b16, o17, none⟩))), (20, (eApiCask x15)), (21, (.slice p6 b5.length k7)), (22, (.int .i64 s10)), (23, (.pointer (some ⟨b26, o27, none⟩))), (24, (eApiCask x25))]) (.cons (k := 0) rfl (.cons (k := 1) rfl (.cons (k := 5) rfl (.cons (k := 17) rfl (.cons (k := 18) rfl (.cons (k := 19) rfl (.cons (k := 20) rfl (.cons (k := 21) rfl (.cons (k := 22) rfl (.cons (k := 23) rfl (.cons (k := 24) rfl (.nil _)))))))))))) (rfl : _ = [R]) ?_
    refine .neqR rfl Try.eqGuardType31 (fun w => req_31 x15 x25 w) rfl rfl ?_
    refine .nil ?_
    refine .code ?_
    refine .cond rfl (fun hb53 => ?_) (fun hb53 => ?_)
    ·skip
     refine .seq ?_
     refine .region ?_
     refine .assign rfl rfl ?_
     refine .nil ?_
     refine .code ?_
     refine .retQ (LPost.ret fun a w h => ⟨rfl, F_35, (Fz.le_trans l_12 l_36), h.1.sub (.cons (k := 4) rfl (.nil _)), h.2⟩)
    ·skip
     refine .skip ?_
     refine .block ?_
     refine .code ?_
     refine .region ?_
     refine .move rfl rfl ?_
     refine .add rfl rfl rfl ?_
     refine .assignL rfl rfl (fun i54 e55 => ?_)
     refine .nil ?_
     exact .nil (LPost.norm fun a w h => ⟨F_35, (Fz.le_trans l_12 l_36), h.1.sub (.cons (k := 0) rfl (.cons (k := 1) rfl (.cons (k := 5) rfl (.nil _)))), h.2⟩)
   ·skip
    refine .exitOut rfl (LPost.exit fun a w h => ⟨rfl, F_11, l_12, h.1.sub (.nil _), h.2⟩)
  ·intro b56 hb0 hk e a w hD
   rcases b56 with b56 | b56
   ·skip
    obtain ⟨rfl, F_57, l_58, hA⟩ := hD
    refine interp_exit rfl (GE.app ?_ hk a w hA)
    refine .code ?_
    refine .seq ?_
    refine .region ?_
    refine .assign rfl rfl ?_
    refine .nil ?_
    refine .code ?_
    exact .ret0 Try.results16 (.tmp rfl (.nil)) (i := 0) rfl l_58 rfl
   obtain ⟨rfl, F_59, l_60, hA⟩ := hD
   exact interp_ret ((ret_post0 Try.results16 (.tmp rfl (.nil)) (i := 0) rfl l_60 rfl) hk a w hA)
end Go.Proofs.Ytkedjmhhcekmiaa
end

section
namespace Go.Proofs.Ytkedjmhhcekmiaa
open Go.Dec
def zC : ApiCask := ⟨0, 0, 0, 0, 0, 0, 0, 0, zN, zN⟩
def findH (all : List Held) (num : Int) : Option Held := (findS all num).bind fun i => all[i]?
def tellS (l : List Ev) (num day : Int) : ApiCask × Int := match (playS l day).1 with
  | .inr e => (zC, e)
  | .inl all => match findH all num with
    | none => (zC, 4)
    | some h => (h.C, 0)
def srcS (l : List Ev) (num day : Int) : List Int × Int := match (playS l day).1 with
  | .inr e => ([], e)
  | .inl all => match findH all num with
    | none => ([], 4)
    | some h => (h.Fills, 0)
theorem playS_err {l : List Ev} {day e : Int} {k : Nat} (h : playS l day = (.inr e, k)) : e ≠ 0 := by
  have := play_prog l day
  rw [h] at this
  exact this.2
theorem playS_ok {l : List Ev} {day : Int} {all : List Held} {k : Nat} (h : playS l day = (.inl all, k)) : AOk day k all ∧ k ≤ 4096 ∧ 0 ≤ day ∧ day ≤ 65536 := by
  have := play_prog l day
  rw [h] at this
  obtain ⟨_, _, _, _, _, _, _, _, h1, h2, h3, h4⟩ := this
  exact ⟨h1, h2, h3, h4⟩
theorem CR.now {t : Int} {n : Nat} {A3 : FM} {c : CaskCask} {h : Held} (r : CR t n A3 c h) (hs : c.since = t) : h = rawOf c h.Fills := by
  have := r.eq
  rw [hs, Int.sub_self, older_0] at this
  exact this
theorem find_look {all : List Held} {num : Int} {i : Nat} (h : findS all num = some i) : ∃ hh, all[i]? = some hh ∧ findH all num = some hh := by
  obtain ⟨hh, h1, _⟩ := find_some h
  exact ⟨hh, h1, by simp [findH, h, h1]⟩
theorem PR.look {t : Int} {n : Nat} {all : List Held} {A1 : List CaskCask} {A3 : FM} {m : List (Int × Option Nat)} (r : PR t n all A1 A3 m) (hs : ∀ c ∈ A1, c.since = t) {i : Nat} {h : Held} (hh : all[i]? = some h) : ∃ c, A1[i]? = some c ∧ h = rawOf c h.Fills ∧ FR A3 c.fills h.Fills := by
  have hi : i < A1.length := by rw [r.len]; exact (List.getElem?_eq_some_iff.1 hh).1
  have hc : A1[i]? = some A1[i] := List.getElem?_eq_getElem hi
  have hcr := r.each i _ h hc hh
  exact ⟨_, hc, hcr.now (hs _ (List.getElem_mem _)), hcr.fills⟩
theorem At_prog (l : List Ev) (num day : Int) : m_cask_At l num day = some (tellS l num day) := by
  have hp := play_prog l day
  unfold m_cask_At tellS
  cases hpl : playS l day with
  | mk r k =>
    rw [hpl] at hp
    cases r with
    | inr e =>
      rw [hp.1, Option.bind_some]
      have : (e != 0) = true := by simpa using hp.2
      simp only [this, if_true]
      rfl
    | inl all =>
      obtain ⟨A1, b, A3, m, h1, hb, hr, hs, _⟩ := hp
      rw [h1, Option.bind_some]
      have e0 : ((0 : Int) != 0) = false := rfl
      simp only [e0, Bool.false_eq_true, if_false, Option.bind_some, List.getElem?_cons_zero, hb, hr.get]
      cases hf : findS all num with
      | none => simp [findH, hf]; rfl
      | some i =>
        obtain ⟨h, hh, hfh⟩ := find_look hf
        obtain ⟨c, hc, hraw, _⟩ := hr.look hs hh
        simp only [Option.isNone_some, Bool.false_eq_true, if_false, hfh]
        unfold m_cask_cask_shown
        simp only [Option.bind_some, hc]
        have : h.C = (rawOf c h.Fills).C := by rw [← hraw]
        rw [this]; rfl
theorem sortedO_fills {A3 : FM} {p : Option Nat} {F : List Int} {n : Nat} (h : FR A3 p F) (hF : F.Pairwise (· < ·) ∧ ∀ f ∈ F, 0 ≤ f ∧ f < n) (hn : n ≤ 4096) : sortedO A3 p = some F := by
  cases p with
  | none => have : F = [] := h; subst this; rfl
  | some j =>
    obtain ⟨l, h1, h2, h3⟩ := h
    have hFn : F.Nodup := hF.1.imp fun h => Int.ne_of_lt h
    have hperm : (l.map Prod.fst).Perm F := (List.perm_ext_iff_of_nodup h2 hFn).2 fun x => (h3 x).symm
    have hlen : l.length = F.length := by rw [← hperm.length_eq]; simp
    have hfl := sorted_len 0 hF.1 (n := n) hF.2 (by omega)
    have hall : l.all (fun x => decide (-9223372036854775808 ≤ x.1 ∧ x.1 ≤ 9223372036854775807)) = true := List.all_eq_true.2 fun x hx => by
      have := hF.2 x.1 ((h3 x.1).2 (List.mem_map_of_mem hx))
      simp only [decide_eq_true_eq]
      omega
    have hk : keysS l = some ((l.map Prod.fst).mergeSort (fun a b => decide (a ≤ b))) := by
      unfold keysS; rw [if_pos ⟨hall, by omega⟩]
    have e : sortedO A3 (some j) = keysS l := by simp [sortedO, h1]
    rw [e, hk, sort_eq hperm]
    congr 1
    exact List.mergeSort_of_pairwise (hF.1.imp fun h => by simpa using Int.le_of_lt h)
theorem Sources_prog (l : List Ev) (num day : Int) : m_cask_Sources l num day = some (srcS l num day) := by
  have hp := play_prog l day
  unfold m_cask_Sources srcS
  cases hpl : playS l day with
  | mk r k =>
    rw [hpl] at hp
    cases r with
    | inr e =>
      rw [hp.1, Option.bind_some]
      have : (e != 0) = true := by simpa using hp.2
      simp only [this, if_true]
    | inl all =>
      obtain ⟨A1, b, A3, m, h1, hb, hr, hs, hok, hk, _⟩ := hp
      rw [h1, Option.bind_some]
      have e0 : ((0 : Int) != 0) = false := rfl
      simp only [e0, Bool.false_eq_true, if_false, Option.bind_some, List.getElem?_cons_zero, hb, hr.get]
      cases hf : findS all num with
      | none => simp [findH, hf]
      | some i =>
        obtain ⟨h, hh, hfh⟩ := find_look hf
        obtain ⟨c, hc, hraw, hfr⟩ := hr.look hs hh
        have hho := hok.each h (List.mem_of_getElem? hh)
        simp only [Option.isNone_some, Bool.false_eq_true, if_false, hfh, Option.bind_some, hc]
        rw [sortedO_fills hfr hho.fills hk]
        rfl
end Go.Proofs.Ytkedjmhhcekmiaa
end

section
namespace Go.Proofs.Ytkedjmhhcekmiaa
open Go.Dec
def numsS (all : List Held) : List Int := (all.map (·.C.Number)).mergeSort (fun a b => decide (a ≤ b))
def ordS (all : List Held) : List Held := (numsS all).filterMap (findH all)
theorem nums_perm (all : List Held) : (numsS all).Perm (all.map (·.C.Number)) := List.mergeSort_perm _ _
theorem nums_sorted {all : List Held} (hn : (all.map (·.C.Number)).Nodup) : (numsS all).Pairwise (· < ·) := by
  have h1 : (numsS all).Pairwise (fun a b => decide (a ≤ b) = true) := List.pairwise_mergeSort (fun a b c h1 h2 => by simp only [decide_eq_true_eq] at *; omega) (fun a b => by simp only [Bool.or_eq_true, decide_eq_true_eq]; omega) _
  have h2 : (numsS all).Nodup := ((nums_perm all).nodup_iff).2 hn
  exact (h1.and h2).imp fun ⟨a, b⟩ => by simp only [decide_eq_true_eq] at a; omega
theorem find_ex {all : List Held} {num : Int} (h : num ∈ all.map (·.C.Number)) : ∃ i hh, findS all num = some i ∧ all[i]? = some hh ∧ findH all num = some hh ∧ hh.C.Number = num := by
  cases hf : findS all num with
  | none =>
    obtain ⟨x, hx, e⟩ := List.mem_map.1 h
    exact absurd e (find_none hf x hx)
  | some i =>
    obtain ⟨hh, h1, h2⟩ := find_look hf
    obtain ⟨h', h3, h4⟩ := find_some hf
    rw [h1] at h3; cases h3
    exact ⟨i, hh, rfl, h1, h2, h4⟩
section
variable {t : Int} {n : Nat} {all : List Held} {A1 : List CaskCask} {A3 : FM} {m : List (Int × Option Nat)} {b : CaskBook}
theorem keys_of (r : PR t n all A1 A3 m) (ho : AOk t n all) : keysS m = some (numsS all) := by
  have hk : m.map Prod.fst = all.map (·.C.Number) := by
    rw [r.map]
    apply List.ext_getElem?
    intro i
    simp only [List.getElem?_map, List.getElem?_mapIdx]
    by_cases h : i < A1.length
    · have h2 : i < all.length := by rw [← r.len]; exact h
      rw [List.getElem?_eq_getElem h, List.getElem?_eq_getElem h2]
      simp only [Option.map_some]
      rw [(r.each i _ _ (List.getElem?_eq_getElem h) (List.getElem?_eq_getElem h2)).number]
    · rw [List.getElem?_eq_none (by omega), List.getElem?_eq_none (by rw [← r.len]; omega)]; rfl
  have hl : m.length = all.length := by rw [← List.length_map (f := Prod.fst), hk, List.length_map]
  have hall : m.all (fun x => decide (-9223372036854775808 ≤ x.1 ∧ x.1 ≤ 9223372036854775807)) = true := List.all_eq_true.2 fun x hx => by
    have h1 : x.1 ∈ all.map (·.C.Number) := by rw [← hk]; exact List.mem_map_of_mem hx
    obtain ⟨h, hh, e⟩ := List.mem_map.1 h1
    have := (ho.each h hh).num
    simp only [decide_eq_true_eq]
    omega
  unfold keysS
  rw [if_pos ⟨hall, by have := ho.few; omega⟩, hk]
  rfl
theorem ordered_prog (r : PR t n all A1 A3 m) (ho : AOk t n all) (hb : b.casks = some 0) : L_cask_book_ordered_1 [b] [m] (some 0) = some ((numsS all).map (findS all)) := by
  unfold L_cask_book_ordered_1
  simp only [Option.bind_some, List.getElem?_cons_zero, hb, keys_of r ho]
  congr 1
  exact List.map_congr_left fun k _ => r.get k
theorem forL_Play (hs : ∀ c ∈ A1, c.since = t) (r : PR t n all A1 A3 m) : ∀ (ks : List Int) (out : List ApiCask), (∀ k ∈ ks, k ∈ all.map (·.C.Number)) → out.length + ks.length ≤ 1000000 →
    forL b_cask_Play_1 (ks.map (findS all)) (out, A1) = some (out ++ (ks.filterMap (findH all)).map (·.C), A1)
  | [], out, _, _ => by simp [forL]
  | k :: ks, out, hk, hl => by
    obtain ⟨i, h, h1, h2, h3, h4⟩ := find_ex (hk k (by simp))
    obtain ⟨c, hc, hraw, _⟩ := r.look hs h2
    have hsh : m_cask_cask_shown A1 (some i) = some h.C := by
      unfold m_cask_cask_shown
      simp only [Option.bind_some, hc]
      have : h.C = (rawOf c h.Fills).C := by rw [← hraw]
      rw [this]; rfl
    have hb : b_cask_Play_1 (some i) (out, A1) = some (out ++ [h.C], A1) := by
      unfold b_cask_Play_1
      rw [hsh, Option.bind_some]
      simp only [List.length_cons] at hl
      rw [appO_some' (by simp; omega)]
      rfl
    simp only [List.map_cons, forL, h1, hb, Option.bind_some]
    rw [forL_Play hs r ks (out ++ [h.C]) (fun k' hk' => hk k' (List.mem_cons_of_mem _ hk')) (by simp at hl ⊢; omega)]
    rw [List.filterMap_cons, h3]
    simp
end
def allS' (l : List Ev) (day : Int) : List ApiCask × Int × Int := match playS l day with
  | (.inr e, k) => ([], (k : Int), e)
  | (.inl all, k) => ((ordS all).map (·.C), (k : Int), 0)
theorem Play_prog (l : List Ev) (day : Int) : m_cask_Play l day = some (allS' l day) := by
  have hp := play_prog l day
  unfold m_cask_Play allS'
  cases hpl : playS l day with
  | mk r k =>
    rw [hpl] at hp
    cases r with
    | inr e =>
      rw [hp.1, Option.bind_some]
      have : (e != 0) = true := by simpa using hp.2
      simp only [this, if_true]
    | inl all =>
      obtain ⟨A1, b, A3, m, h1, hb, hr, hs, hok, hk, _⟩ := hp
      rw [h1, Option.bind_some]
      have e0 : ((0 : Int) != 0) = false := rfl
      simp only [e0, Bool.false_eq_true, if_false, Option.bind_some]
      rw [ordered_prog hr hok hb, Option.bind_some]
      have hlen : (numsS all).length = all.length := by rw [(nums_perm all).length_eq]; simp
      rw [forL_Play hs hr (numsS all) [] (fun k hk => (nums_perm all).mem_iff.1 hk) (by have := hok.few; simp; omega), Option.bind_some]
      rfl
end Go.Proofs.Ytkedjmhhcekmiaa
end

section
namespace Go.Proofs.Ytkedjmhhcekmiaa
open Go.Dec
section
variable {all : List Held} {last : Int} {n : Nat}
theorem ord_len (_ho : AOk last n all) : (ordS all).length = all.length := by
  have h1 : (ordS all).length = (numsS all).length := by
    unfold ordS
    have : ∀ S : List Int, (∀ k ∈ S, (findH all k).isSome) → (S.filterMap (findH all)).length = S.length := fun S => by
      induction S with
      | nil => intro _; rfl
      | cons k S ih =>
        intro h
        obtain ⟨y, hy⟩ := Option.isSome_iff_exists.1 (h k (by simp))
        rw [List.filterMap_cons, hy]
        simp [ih (fun k' hk' => h k' (List.mem_cons_of_mem _ hk'))]
    refine this _ fun k hk => ?_
    obtain ⟨i, hh, _, _, h3, _⟩ := find_ex ((nums_perm all).mem_iff.1 hk)
    rw [h3]; rfl
  rw [h1, (nums_perm all).length_eq, List.length_map]
end
end Go.Proofs.Ytkedjmhhcekmiaa
end

section
namespace Go.Proofs.Ytkedjmhhcekmiaa
open Go.Dec
def ownC (p : Int) (l : List ApiCask) : List Int := (l.filter (fun c => c.Owner == p)).map (·.Number)
def plgC (p : Int) (l : List ApiCask) : List Int := (l.filter (fun c => c.Creditor == p && decide (p ≥ 0))).map (·.Number)
def ownS (l : List Ev) (p day : Int) : List Int × List Int × Int := (ownC p (allS' l day).1, plgC p (allS' l day).1, (allS' l day).2.2)
section
variable {t : Int} {n k : Nat} {all : List Held} {A1 : List CaskCask} {A3 : FM} {m : List (Int × Option Nat)} {b : CaskBook}
theorem forL_Owned (hs : ∀ c ∈ A1, c.since = t) (r : PR t n all A1 A3 m) (ho : AOk t n all) (p : Int) (Bk : List CaskBook) (M : List (List (Int × Option Nat))) : ∀ (ks : List Int) (o1 o2 : List Int), (∀ k ∈ ks, k ∈ all.map (·.C.Number)) → o1.length + ks.length ≤ 1000000 → o2.length + ks.length ≤ 1000000 →
    forL (b_cask_Owned_1 p (some 0, (k : Int), 0, A1, Bk, A3, M)) (ks.map (findS all)) (o1, o2) = some (o1 ++ ownC p ((ks.filterMap (findH all)).map (·.C)), o2 ++ plgC p ((ks.filterMap (findH all)).map (·.C)))
  | [], o1, o2, _, _, _ => by simp [forL, ownC, plgC]
  | kk :: ks, o1, o2, hk, hl1, hl2 => by
    obtain ⟨i, h, h1, h2, h3, h4⟩ := find_ex (hk kk (by simp))
    obtain ⟨c, hc, hraw, _⟩ := r.look hs h2
    have hh := ho.each h (List.mem_of_getElem? h2)
    have a1 : h.C.Owner = c.owner := by rw [hraw]; rfl
    have a2 : h.C.Creditor = c.creditor := by rw [hraw]; rfl
    have a3 : h.C.Number = c.number := by rw [hraw]; rfl
    have hcr := hh.cred
    rw [a2] at hcr
    simp only [List.length_cons] at hl1 hl2
    have p1 : appO o1 [c.number] = some (o1 ++ [c.number]) := appO_some' (by simp; omega)
    have p2 : appO o2 [c.number] = some (o2 ++ [c.number]) := appO_some' (by simp; omega)
    have hb : b_cask_Owned_1 p (some 0, (k : Int), 0, A1, Bk, A3, M) (some i) (o1, o2) = some (o1 ++ (if c.owner == p then [c.number] else []), o2 ++ (if c.creditor == p && decide (p ≥ 0) then [c.number] else [])) := by
      unfold b_cask_Owned_1
      simp only [Option.bind_some, hc, p1, p2]
      have key : (c.creditor == p) = true → (p != -1) = decide (p ≥ 0) := fun e => by
        have e' : c.creditor = p := by simpa using e
        by_cases hp : p ≥ 0
        · rw [decide_eq_true hp]; simp; omega
        · rw [decide_eq_false hp]; simp; omega
      cases e1 : c.owner == p with
      | true =>
        cases e2 : c.creditor == p with
        | true => rw [key e2]; cases decide (p ≥ 0) <;> simp
        | false => simp
      | false =>
        cases e2 : c.creditor == p with
        | true => rw [key e2]; cases decide (p ≥ 0) <;> simp
        | false => simp
    simp only [List.map_cons, forL, h1, hb, Option.bind_some]
    rw [forL_Owned hs r ho p Bk M ks _ _ (fun k' hk' => hk k' (List.mem_cons_of_mem _ hk')) (by split <;> simp <;> omega) (by split <;> simp <;> omega)]
    rw [List.filterMap_cons, h3]
    unfold ownC plgC
    simp only [List.map_cons, List.filter_cons, a1, a2]
    cases e1 : c.owner == p <;> cases e2 : (c.creditor == p && decide (p ≥ 0)) <;> simp [a3]
end
theorem Owned_prog (l : List Ev) (p day : Int) : m_cask_Owned l p day = some (ownS l p day) := by
  have hp := play_prog l day
  unfold m_cask_Owned ownS allS'
  cases hpl : playS l day with
  | mk r k =>
    rw [hpl] at hp
    cases r with
    | inr e =>
      rw [hp.1, Option.bind_some]
      have : (e != 0) = true := by simpa using hp.2
      simp only [this, if_true]
      rfl
    | inl all =>
      obtain ⟨A1, b, A3, m, h1, hb, hr, hs, hok, hk, _⟩ := hp
      rw [h1, Option.bind_some]
      have e0 : ((0 : Int) != 0) = false := rfl
      simp only [e0, Bool.false_eq_true, if_false, Option.bind_some]
      rw [ordered_prog hr hok hb, Option.bind_some]
      have hlen : (numsS all).length = all.length := by rw [(nums_perm all).length_eq]; simp
      have hfew := hok.few
      rw [forL_Owned hs hr hok p [b] [m] (numsS all) [] [] (fun k hk => (nums_perm all).mem_iff.1 hk) (by simp; omega) (by simp; omega), Option.bind_some]
      rfl
theorem same_refl (c : ApiCask) : eq_31 c c = true := by simp [eq_31, eq_29]
theorem Same_self (a : List ApiCask) (h : a.length ≤ 1000000) : m_wormtubref06_Same a a = some true := by
  have hl := loop_list (body := b_wormtubref06_Same_1 a a) (fun (_ : Unit) i => ((i : Nat) : Int)) (fun (_ : Unit) _ (_ : ApiCask) => some (.next ())) (fun _ => (.inl () : Unit ⊕ Bool)) a (fun t i x hx => by
    have hi := (List.getElem?_eq_some_iff.1 hx).1
    have hw : w64 ((i : Int) + 1) = ((i + 1 : Nat) : Int) := by rw [w64_id (by omega) (by omega)]; rfl
    unfold b_wormtubref06_Same_1
    rw [if_pos (by simp; omega)]
    simp only [idxL_nat, hx, Option.bind_some, same_refl, Bool.not_true, Bool.false_eq_true, if_false, bindv, hw]
    rfl) (fun t => by unfold b_wormtubref06_Same_1; rw [if_neg (by simp)]) ()
  have hg : ∀ (l : List ApiCask) (i : Nat), goL (fun (_ : Unit) _ (_ : ApiCask) => some (.next ())) (fun _ => (.inl () : Unit ⊕ Bool)) l i () = some (.inl ()) := fun l => by
    induction l with
    | nil => intro i; rfl
    | cons x l ih => intro i; simp only [goL]; exact ih (i + 1)
  rw [hg] at hl
  have hl' : loopM (b_wormtubref06_Same_1 a a) 0 = some (.inl ()) := hl
  unfold m_wormtubref06_Same
  rw [if_neg (by simp), hl']; rfl
theorem Ints_self (a : List Int) (h : a.length ≤ 1000000) : m_wormtubref06_Ints a a = some true := by
  have hl := loop_list (body := b_wormtubref06_Ints_1 a a) (fun (_ : Unit) i => ((i : Nat) : Int)) (fun (_ : Unit) _ (_ : Int) => some (.next ())) (fun _ => (.inl () : Unit ⊕ Bool)) a (fun t i x hx => by
    have hi := (List.getElem?_eq_some_iff.1 hx).1
    have hw : w64 ((i : Int) + 1) = ((i + 1 : Nat) : Int) := by rw [w64_id (by omega) (by omega)]; rfl
    unfold b_wormtubref06_Ints_1
    rw [if_pos (by simp; omega)]
    simp only [idxL_nat, hx, Option.bind_some, bindv, hw, bne_self_eq_false, Bool.false_eq_true, if_false]
    rfl) (fun t => by unfold b_wormtubref06_Ints_1; rw [if_neg (by simp)]) ()
  have hg : ∀ (l : List Int) (i : Nat), goL (fun (_ : Unit) _ (_ : Int) => some (.next ())) (fun _ => (.inl () : Unit ⊕ Bool)) l i () = some (.inl ()) := fun l => by
    induction l with
    | nil => intro i; rfl
    | cons x l ih => intro i; simp only [goL]; exact ih (i + 1)
  rw [hg] at hl
  have hl' : loopM (b_wormtubref06_Ints_1 a a) 0 = some (.inl ()) := hl
  unfold m_wormtubref06_Ints
  rw [if_neg (by simp), hl']; rfl
end Go.Proofs.Ytkedjmhhcekmiaa
end

section
namespace Go.Proofs.Ytkedjmhhcekmiaa
open Go.Dec
def smp : List Ev := [(ApiCaskEvent.mk 0 0 1 2 9 0 500 0), (ApiCaskEvent.mk 0 0 2 3 9 0 300 1), (ApiCaskEvent.mk 1 0 1 0 0 0 400 0), (ApiCaskEvent.mk 2 100 1 2 0 0 150 0), (ApiCaskEvent.mk 4 150 1 0 0 0 0 4), (ApiCaskEvent.mk 1 150 2 0 0 0 50 0), (ApiCaskEvent.mk 6 200 2 0 9 30 0 0)]
def nbR (r : List Held ⊕ Int) : List Int := match r with
  | .inl a => a.map (·.C.Number)
  | .inr _ => []
def ocR (ks : List Int) (r : List Held ⊕ Int) : List ApiCask := match r with
  | .inl a => (ks.filterMap (findH a)).map (·.C)
  | .inr _ => []
theorem own_by {l : List Ev} {p day : Int} {ks : List Int} (hl : (playS l day).1.isLeft = true) (hn : nbR (playS l day).1 = ks) (hk : ks.Pairwise (· < ·)) : ownS l p day = (ownC p (ocR ks (playS l day).1), plgC p (ocR ks (playS l day).1), 0) := by
  unfold ownS allS'
  cases h : playS l day with
  | mk r k =>
    rw [h] at hl hn
    cases r with
    | inr e => cases hl
    | inl all =>
      obtain ⟨hok, _⟩ := playS_ok h
      have hn' : all.map (·.C.Number) = ks := hn
      have : numsS all = ks := sorted_ext (nums_sorted hok.nums) hk fun x => by rw [(nums_perm all).mem_iff, hn']
      simp only [ordS, this]
      rfl
theorem awake_true : m_wormtublaw06_awake = some true := by
  have hs : m_wormtublaw06_sample = some smp := rfl
  have ha : appO smp [(ApiCaskEvent.mk 3 200 2 0 0 0 10 0)] = some (smp ++ [(ApiCaskEvent.mk 3 200 2 0 0 0 10 0)]) := appO_some' (by decide)
  have e1 : ((((((((((((((tellS smp 2 140).1.Amount != 150) || ((tellS smp 2 140).1.Age != 140)) || (((tellS smp 2 140).1.Woods 2) != 100)) || (((tellS smp 2 140).1.Woods 3) != 40)) || (((tellS smp 2 140).1.Places 1) != 40)) || ((tellS smp 2 140).1.Creditor != (-1))) || ((tellS smp 2 140).2 != 0)) || ((tellS smp 2 200).1.Amount != 200)) || ((tellS smp 2 200).1.Age != 50)) || (((tellS smp 2 200).1.Woods 2) != 0)) || ((tellS smp 2 200).1.Creditor != 30)) || ((tellS smp 2 200).2 != 0)) || false) = false := by decide +kernel
  have e2 : srcS smp 2 200 = ([2, 5], 0) := by decide +kernel
  have e3 : (allS' (smp ++ [(ApiCaskEvent.mk 3 200 2 0 0 0 10 0)]) 200).2 = (7, 11) := by decide +kernel
  have e4 : ownS smp 30 200 = ([], [2], 0) := by
    rw [own_by (ks := [1, 2]) (by decide +kernel) (by decide +kernel) (by decide)]
    decide +kernel
  have i1 : m_wormtubref06_Ints [2, 5] [2, 5] = some true := Ints_self _ (by decide)
  have i2 : m_wormtubref06_Ints [2] [2] = some true := Ints_self _ (by decide)
  rw [Bool.or_false] at e1
  unfold m_wormtublaw06_awake
  refine bind_of hs (bind_of (At_prog _ _ _) (bind_of (At_prog _ _ _) (bind_of (Sources_prog _ _ _) (bind_of ha (bind_of (Play_prog _ _) (bind_of (Owned_prog _ _ _) ?_))))))
  rw [e1, e2, e4]
  have e5 : (allS' (smp ++ [(ApiCaskEvent.mk 3 200 2 0 0 0 10 0)]) 200).2.1 = 7 := by rw [e3]
  have e6 : (allS' (smp ++ [(ApiCaskEvent.mk 3 200 2 0 0 0 10 0)]) 200).2.2 = 11 := by rw [e3]
  simp only [Bool.false_eq_true, if_false, i1, Option.bind_some, e5, e6]
  simp [i2]
end Go.Proofs.Ytkedjmhhcekmiaa
end

section
namespace Go.Proofs.Ytkedjmhhcekmiaa
open Go.Dec
inductive EvD (l : List Held) (x : Ev) (num : Int) : List Held → Prop
  | make (k : x.Kind = 0) (f : findS l x.Cask = none) (n : l.length < 256) : EvD l x num (l ++ [newS x])
  | fill (k : x.Kind = 1) (i : Nat) (c : Held) (f : findS l x.Cask = some i) (h : l[i]? = some c) (r : c.C.Amount + x.Amount ≤ c.C.Room) : EvD l x num (l.set i (pourS c (fillS num) x.Amount))
  | rack (k : x.Kind = 2) (i : Nat) (c : Held) (f : findS l x.Cask = some i) (h : l[i]? = some c) (j : Nat) (o : Held) (f' : findS l x.Other = some j) (h' : l[j]? = some o) (ne : i ≠ j)
      (ow : c.C.Owner = o.C.Owner) (c1 : c.C.Creditor < 0) (c2 : o.C.Creditor < 0) (a : x.Amount ≤ c.C.Amount) (r : o.C.Amount + x.Amount ≤ o.C.Room) : EvD l x num ((l.set j (pourS o c x.Amount)).set i (lessS c x.Amount))
  | drain (k : x.Kind = 3) (i : Nat) (c : Held) (f : findS l x.Cask = some i) (h : l[i]? = some c) (c1 : c.C.Creditor < 0) (a : x.Amount ≤ c.C.Amount) : EvD l x num (l.set i (lessS c x.Amount))
  | carry (k : x.Kind = 4) (i : Nat) (c : Held) (f : findS l x.Cask = some i) (h : l[i]? = some c) : EvD l x num (l.set i { c with C := { c.C with Place := x.Where } })
  | sell (k : x.Kind = 5) (i : Nat) (c : Held) (f : findS l x.Cask = some i) (h : l[i]? = some c) (o : c.C.Owner = x.Person) (c1 : c.C.Creditor < 0) (t : x.To ≠ c.C.Owner) : EvD l x num (l.set i { c with C := { c.C with Owner := x.To } })
  | pledge (k : x.Kind = 6) (i : Nat) (c : Held) (f : findS l x.Cask = some i) (h : l[i]? = some c) (o : c.C.Owner = x.Person) (c1 : c.C.Creditor < 0) : EvD l x num (l.set i { c with C := { c.C with Creditor := x.To } })
  | free (k : x.Kind = 7) (i : Nat) (c : Held) (f : findS l x.Cask = some i) (h : l[i]? = some c) (c1 : c.C.Creditor = x.Person) : EvD l x num (l.set i { c with C := { c.C with Creditor := -1 } })
  | char (k : x.Kind = 8) (i : Nat) (c : Held) (f : findS l x.Cask = some i) (h : l[i]? = some c) (a : c.C.Amount ≤ 0) : EvD l x num (l.set i { c with C := { c.C with Wood := x.Where } })
theorem deed_act {l l' : List Held} {i : Nat} {c : Held} {x : Ev} {num : Int} (hv : evB x = true) (h0 : x.Kind ≠ 0) (f : findS l x.Cask = some i) (hc : l[i]? = some c) (h : actS l i c x num = .inl l') : EvD l x num l' := by
  rcases kinds hv with k | k | k | k | k | k | k | k | k
  · exact absurd k h0
  · have h : fillD l i c x num = .inl l' := by rw [← h]; unfold actS; rw [k]; rfl
    unfold fillD at h
    split at h
    · cases h
    · cases h; exact .fill k i c f hc (by omega)
  · have h : rackD l i c x = .inl l' := by rw [← h]; unfold actS; rw [k]; rfl
    unfold rackD at h
    split at h
    · cases h
    · rename_i j hj
      split at h
      · cases h
      · rename_i o ho
        unfold rackD2 at h
        split at h
        · cases h
        · rename_i hij
          split at h
          · cases h
          · rename_i hr
            split at h
            · cases h
            · split at h
              · cases h
              · cases h
                simp only [Bool.or_eq_true, bne_iff_ne, ne_eq, decide_eq_true_eq, not_or, Decidable.not_not, ge_iff_le] at hr
                exact .rack k i c f hc j o hj ho (fun e => hij (by simp [e])) hr.1.1 (by omega) (by omega) (by omega) (by omega)
  · have h : drainD l i c x = .inl l' := by rw [← h]; unfold actS; rw [k]; rfl
    unfold drainD at h
    split at h
    · cases h
    · split at h
      · cases h
      · cases h; exact .drain k i c f hc (by omega) (by omega)
  · have h : carryD l i c x = .inl l' := by rw [← h]; unfold actS; rw [k]; rfl
    cases h; exact .carry k i c f hc
  · have h : sellD l i c x = .inl l' := by rw [← h]; unfold actS; rw [k]; rfl
    unfold sellD at h
    split at h
    · cases h
    · rename_i hr
      split at h
      · cases h
      · rename_i ht
        cases h
        simp only [Bool.or_eq_true, bne_iff_ne, ne_eq, decide_eq_true_eq, not_or, Decidable.not_not, ge_iff_le] at hr
        exact .sell k i c f hc hr.1 (by omega) (fun e => ht (by simp [e]))
  · have h : pledgeD l i c x = .inl l' := by rw [← h]; unfold actS; rw [k]; rfl
    unfold pledgeD at h
    split at h
    · cases h
    · rename_i ho
      split at h
      · cases h
      · cases h
        exact .pledge k i c f hc (by simpa using ho) (by omega)
  · have h : freeD l i c x = .inl l' := by rw [← h]; unfold actS; rw [k]; rfl
    unfold freeD at h
    split at h
    · cases h
    · rename_i ho
      cases h
      exact .free k i c f hc (by simpa using ho)
  · have h : charD l i c x = .inl l' := by rw [← h]; unfold actS; rw [k]; rfl
    unfold charD at h
    split at h
    · cases h
    · cases h; exact .char k i c f hc (by omega)
theorem deed_of {l l' : List Held} {x : Ev} {num : Int} (hv : evB x = true) (h : doS l x num = .inl l') : EvD l x num l' := by
  unfold doS at h
  split at h
  · rename_i hk
    unfold makeD at h
    split at h
    · cases h
    · rename_i hf
      split at h
      · cases h
      · cases h
        exact .make (beq_iff_eq.1 hk) (by simpa using hf) (by omega)
  · rename_i hk
    split at h
    · cases h
    · rename_i i hi
      split at h
      · cases h
      · rename_i c hc
        exact deed_act hv (fun e => hk (by simp [e])) hi hc h
theorem step_deed {n : Nat} {s s' : Cur} {x : Ev} (h : stepS n s x = .inl s') : evB x = true ∧ s.last ≤ x.Day ∧ ∃ l', s' = ⟨l', x.Day⟩ ∧ EvD (atS x.Day s) x n l' := by
  unfold stepS at h
  split at h
  · cases h
  · rename_i hv
    have hv : evB x = true := by simpa using hv
    split at h
    · cases h
    · rename_i hd
      split at h
      · rename_i all hall
        cases h
        exact ⟨hv, by omega, all, rfl, deed_of hv hall⟩
      · cases h
theorem go_le {day : Int} : ∀ (l : List Ev) (n : Nat) (s : Cur) (r : Cur ⊕ Int) (k : Nat), goS day l n s = (r, k) → k ≤ n + l.length
  | [], n, s, r, k, h => by
    simp only [goS, Prod.mk.injEq] at h
    simp [← h.2]
  | x :: l, n, s, r, k, h => by
    simp only [goS] at h
    split at h
    · split at h
      · have := go_le l _ _ _ _ h
        simp; omega
      · simp only [Prod.mk.injEq] at h
        simp [← h.2]
    · simp only [Prod.mk.injEq] at h
      simp [← h.2]
theorem play_le {l : List Ev} {day : Int} {r : List Held ⊕ Int} {k : Nat} (h : playS l day = (r, k)) : k ≤ l.length := by
  unfold playS at h
  split at h
  · simp only [Prod.mk.injEq] at h; omega
  · split at h
    · simp only [Prod.mk.injEq] at h; omega
    · unfold runS at h
      cases hg : goS day l 0 ⟨[], 0⟩ with
      | mk r' q =>
        have := go_le _ _ _ _ _ hg
        rw [hg] at h
        cases r' <;> (simp only [Prod.mk.injEq] at h; omega)
theorem ord_perm {all : List Held} {last : Int} {n : Nat} (ho : AOk last n all) : (ordS all).Perm all := by
  have h1 : (ordS all).Perm ((all.map (·.C.Number)).filterMap (findH all)) := (nums_perm all).filterMap _
  have h2 : (all.map (·.C.Number)).filterMap (findH all) = all := by
    rw [List.filterMap_map]
    have : ∀ L : List Held, (∀ h ∈ L, findH all h.C.Number = some h) → L.filterMap (findH all ∘ fun h => h.C.Number) = L := fun L => by
      induction L with
      | nil => intro _; rfl
      | cons h L ih =>
        intro hh
        rw [List.filterMap_cons_some (b := h) (by simpa using hh h (by simp)), ih fun y hy => hh y (List.mem_cons_of_mem _ hy)]
    refine this all fun h hm => ?_
    obtain ⟨i, hi⟩ := List.mem_iff_getElem?.1 hm
    simp [findH, find_of ho.nums hi, hi]
  rwa [h2] at h1
end Go.Proofs.Ytkedjmhhcekmiaa
end

section
namespace Go.Proofs.Ytkedjmhhcekmiaa
open Go.Dec
def stG : Nat → Cur → List Ev → Option Cur
  | _, s, [] => some s
  | n, s, x :: l => match stepS n s x with
    | .inl s' => stG (n + 1) s' l
    | .inr _ => none
def stS (l : List Ev) : Option Cur := stG 0 ⟨[], 0⟩ l
theorem go_st {day : Int} : ∀ (l : List Ev) (n : Nat) (s s' : Cur) (k : Nat), goS day l n s = (.inl s', k) → ∃ q, k = n + q ∧ q ≤ l.length ∧ stG n s (l.take q) = some s' ∧ (s.last ≤ day → s'.last ≤ day) ∧ (∀ x ∈ l.take q, x.Day ≤ day) ∧ ∀ x, l[q]? = some x → day < x.Day
  | [], n, s, s', k, h => by
    simp only [goS, Prod.mk.injEq, Sum.inl.injEq] at h
    obtain ⟨rfl, rfl⟩ := h
    exact ⟨0, rfl, Nat.le_refl _, rfl, id, fun x hx => by simp at hx, fun x hx => by simp at hx⟩
  | x :: l, n, s, s', k, h => by
    simp only [goS] at h
    by_cases hx : x.Day ≤ day
    · rw [if_pos hx] at h
      cases hst : stepS n s x with
      | inl s1 =>
        rw [hst] at h
        obtain ⟨q, g1, g2, g3, g4, g5, g6⟩ := go_st l (n + 1) s1 s' k h
        obtain ⟨_, _, l', rfl, _⟩ := step_deed hst
        refine ⟨q + 1, by omega, by simp; omega, ?_, fun _ => g4 hx, fun y hy => ?_, fun y hy => g6 y (by simpa using hy)⟩
        · simp only [List.take_succ_cons, stG, hst]; exact g3
        · rw [List.take_succ_cons] at hy
          rcases List.mem_cons.1 hy with rfl | hy
          · exact hx
          · exact g5 y hy
      | inr e => rw [hst] at h; cases h
    · rw [if_neg hx] at h
      simp only [Prod.mk.injEq, Sum.inl.injEq] at h
      obtain ⟨rfl, rfl⟩ := h
      exact ⟨0, rfl, Nat.zero_le _, rfl, id, fun y hy => by simp at hy, fun y hy => by simp at hy; subst hy; omega⟩
theorem play_st {l : List Ev} {day : Int} {all : List Held} {k : Nat} (h : playS l day = (.inl all, k)) : ∃ s, all = atS day s ∧ stS (l.take k) = some s ∧ s.last ≤ day ∧ k ≤ l.length ∧ (∀ x ∈ l.take k, x.Day ≤ day) ∧ ∀ x, l[k]? = some x → day < x.Day := by
  unfold playS at h
  split at h
  · cases h
  · split at h
    · cases h
    · rename_i hb
      have hday : inB day 0 65536 = true := by simpa using hb
      have hday := inB_iff.1 hday
      unfold runS at h
      cases hg : goS day l 0 ⟨[], 0⟩ with
      | mk r q =>
        rw [hg] at h
        cases r with
        | inr e => cases h
        | inl s' =>
          cases h
          obtain ⟨p, g1, g2, g3, g4, g5, g6⟩ := go_st l 0 ⟨[], 0⟩ s' _ hg
          have : p = k := by omega
          subst this
          exact ⟨s', rfl, g3, g4 hday.1, g2, g5, g6⟩
end Go.Proofs.Ytkedjmhhcekmiaa
end

section
namespace Go.Proofs.Ytkedjmhhcekmiaa
open Go.Dec
theorem Try.own : ownKnob Try.prog.godebug = none := by kernel_rfl
theorem Try.laidOut : laidOutB Try.prog = true := by kernel_rfl
def okApiCaskEvent (x : ApiCaskEvent) : Prop := (Lit.int .i64 x.Kind).wf = true ∧ (Lit.int .i64 x.Day).wf = true ∧ (Lit.int .i64 x.Cask).wf = true ∧ (Lit.int .i64 x.Other).wf = true ∧ (Lit.int .i64 x.Person).wf = true ∧ (Lit.int .i64 x.To).wf = true ∧ (Lit.int .i64 x.Amount).wf = true ∧ (Lit.int .i64 x.Where).wf = true
theorem vApiCaskEvent {H : Type} {enc : TypeId × Value → H} {W : World} : Viewed enc Try.prog W 45 (Ex cApiCaskEvent) okApiCaskEvent := by
 intro sp held fuel cs x h
 obtain ⟨xs, k, _, _, hl, hxl, hx⟩ := DataW.trod_struct Try.underlying45 h
 have hl' : cs.length = 8 := hl.trans (by kernel_rfl)
 obtain ⟨y0, h0⟩ := some_of (hx 0 _ rfl) hxl rfl
 have e0 : Try.prog.cellsOf 3 = 1 := by kernel_rfl
 obtain ⟨m0, o0, q0⟩ := (Viewed.int Try.underlying3) _ _ _ _ _ h0
 obtain ⟨y1, h1⟩ := some_of (hx 1 _ rfl) hxl rfl
 have e1 : Try.prog.cellsOf 3 = 1 := by kernel_rfl
 obtain ⟨m1, o1, q1⟩ := (Viewed.int Try.underlying3) _ _ _ _ _ h1
 obtain ⟨y2, h2⟩ := some_of (hx 2 _ rfl) hxl rfl
 have e2 : Try.prog.cellsOf 3 = 1 := by kernel_rfl
 obtain ⟨m2, o2, q2⟩ := (Viewed.int Try.underlying3) _ _ _ _ _ h2
 obtain ⟨y3, h3⟩ := some_of (hx 3 _ rfl) hxl rfl
 have e3 : Try.prog.cellsOf 3 = 1 := by kernel_rfl
 obtain ⟨m3, o3, q3⟩ := (Viewed.int Try.underlying3) _ _ _ _ _ h3
 obtain ⟨y4, h4⟩ := some_of (hx 4 _ rfl) hxl rfl
 have e4 : Try.prog.cellsOf 3 = 1 := by kernel_rfl
 obtain ⟨m4, o4, q4⟩ := (Viewed.int Try.underlying3) _ _ _ _ _ h4
 obtain ⟨y5, h5⟩ := some_of (hx 5 _ rfl) hxl rfl
 have e5 : Try.prog.cellsOf 3 = 1 := by kernel_rfl
 obtain ⟨m5, o5, q5⟩ := (Viewed.int Try.underlying3) _ _ _ _ _ h5
 obtain ⟨y6, h6⟩ := some_of (hx 6 _ rfl) hxl rfl
 have e6 : Try.prog.cellsOf 3 = 1 := by kernel_rfl
 obtain ⟨m6, o6, q6⟩ := (Viewed.int Try.underlying3) _ _ _ _ _ h6
 obtain ⟨y7, h7⟩ := some_of (hx 7 _ rfl) hxl rfl
 have e7 : Try.prog.cellsOf 3 = 1 := by kernel_rfl
 obtain ⟨m7, o7, q7⟩ := (Viewed.int Try.underlying3) _ _ _ _ _ h7
 refine ⟨⟨m0, m1, m2, m3, m4, m5, m6, m7⟩, ⟨o0, o1, o2, o3, o4, o5, o6, o7⟩, fun F' le => ?_⟩
 have w0 : (cs.drop 0).take (Try.prog.cellsOf 3) = (cInt .i64) m0 := q0 F' le
 rw [e0] at w0
 have w1 : (cs.drop 1).take (Try.prog.cellsOf 3) = (cInt .i64) m1 := q1 F' le
 rw [e1] at w1
 have w2 : (cs.drop 2).take (Try.prog.cellsOf 3) = (cInt .i64) m2 := q2 F' le
 rw [e2] at w2
 have w3 : (cs.drop 3).take (Try.prog.cellsOf 3) = (cInt .i64) m3 := q3 F' le
 rw [e3] at w3
 have w4 : (cs.drop 4).take (Try.prog.cellsOf 3) = (cInt .i64) m4 := q4 F' le
 rw [e4] at w4
 have w5 : (cs.drop 5).take (Try.prog.cellsOf 3) = (cInt .i64) m5 := q5 F' le
 rw [e5] at w5
 have w6 : (cs.drop 6).take (Try.prog.cellsOf 3) = (cInt .i64) m6 := q6 F' le
 rw [e6] at w6
 have w7 : (cs.drop 7).take (Try.prog.cellsOf 3) = (cInt .i64) m7 := q7 F' le
 rw [e7] at w7
 exact (cat_cons w0 (cat_cons w1 (cat_cons w2 (cat_cons w3 (cat_cons w4 (cat_cons w5 (cat_cons w6 (cat_cons w7 (cat_nil hl')))))))))
theorem vt22 {H : Type} {enc : TypeId × Value → H} {W : World} : Viewed enc Try.prog W 22 (rSl 8 (Ex cApiCaskEvent)) (fun x => (∀ y1 ∈ x, okApiCaskEvent y1)) := (Viewed.slice (sz := 8) Try.underlying22 (by kernel_rfl) (by decide) vApiCaskEvent)
end Go.Proofs.Ytkedjmhhcekmiaa
end

section
namespace Go.Proofs.Ytkedjmhhcekmiaa
open Go.Dec Go.Shelf Go.RowKit Go.Maps Go.Sort
noncomputable def b_wormtublaw06_CaskDays_1 (day5 : Int) (r_13 : ((List ApiCask) × Int × Int)) (to_81 : Int) (r_90 : ((List ApiCask) × Int × Int)) (s103 : Int) : Option (Ctl (Int) ((Unit) ⊕ (Bool))) :=
 if (decide (s103 < (r_13.1.length : Int))) then ((idxL r_13.1 s103).bind fun x107 => if ((((decide (x107.Wood < 0)) || (decide (x107.Wood ≥ 8))) || (decide (x107.Place < 0))) || (decide (x107.Place ≥ 8))) then (some (.done (.inr false))) else ((if (decide (x107.Amount > 0)) then (bindv ({ x107 with Age := (w64 ((w64 (x107.Age + to_81)) - day5)) }) fun x132 => (idxO 8 x132.Wood).bind fun j135 => (idxO 8 x132.Wood).bind fun j163 => bindv ({ x132 with Woods := updN x132.Woods j163 (w64 ((w64 ((x132.Woods j135) + to_81)) - day5)) }) fun x165 => (idxO 8 x165.Place).bind fun j168 => (idxO 8 x165.Place).bind fun j196 => bindv ({ x165 with Places := updN x165.Places j196 (w64 ((w64 ((x165.Places j168) + to_81)) - day5)) }) fun x198 => some x198) else (some x107) : Option (ApiCask)).bind fun j200 => (idxL r_90.1 s103).bind fun x204 => if (!(eq_31 x204 j200)) then (some (.done (.inr false))) else (bindv (w64 (s103 + 1)) fun i227 => some (.next i227)))) else (some (.done (.inl ())))
noncomputable def m_wormtublaw06_CaskDays (l_1 : (List ApiCaskEvent)) (day5 : Int) (later6 : Int) : Option Bool :=
 if (decide ((l_1.length : Int) > 60)) then ((m_wormtublaw06_awake).bind fun r_10 => some r_10) else ((m_cask_Play l_1 day5).bind fun r_13 => if ((r_13.2.2 == 3) || (r_13.2.2 == 2)) then ((m_wormtublaw06_awake).bind fun r_24 => some r_24) else (if ((decide (r_13.2.1 < 0)) || (decide (r_13.2.1 > (l_1.length : Int)))) then (some false) else (if (r_13.2.2 != 0) then (if (r_13.2.1 == (l_1.length : Int)) then (some false) else ((sliceL l_1 0 (w64 (r_13.2.1 + 1))).bind fun l_32 => (m_cask_Play l_32 day5).bind fun r_39 => (if ((r_39.2.1 == r_13.2.1) && (r_39.2.2 == r_13.2.2)) then ((m_wormtublaw06_awake).bind fun r_50 => some r_50) else some false).bind fun z54 => some z54)) else ((sliceL l_1 0 r_13.2.1).bind fun l_56 => (m_cask_Play l_56 day5).bind fun r_63 => (if ((r_63.2.1 != r_13.2.1) || (r_63.2.2 != 0)) then some true else ((m_wormtubref06_Same r_13.1 r_63.1).bind fun r_74 => some (!r_74))).bind fun z78 => if z78 then (some false) else (bindv (imin 65536 (w64 (day5 + (w64 (later6))))) fun to_81 => (sliceL l_1 0 r_13.2.1).bind fun l_83 => (m_cask_Play l_83 to_81).bind fun r_90 => if (((r_90.2.1 != r_13.2.1) || (r_90.2.2 != 0)) || ((r_90.1.length : Int) != (r_13.1.length : Int))) then (some false) else ((loopM (b_wormtublaw06_CaskDays_1 day5 r_13 to_81 r_90) 0).bind fun b0 => match b0 with | .inl _b229 => ((m_wormtublaw06_awake).bind fun r_236 => some r_236) | .inr b229 => (some b229)))))))
set_option maxHeartbeats 4000000 in
theorem c_wormtublaw06_CaskDays (F0 : Fz) (l_1 : (List ApiCaskEvent)) (p2 : Option Addr) (k3 : Nat) (h4 : RepSl 8 (Ex cApiCaskEvent) F0 p2 k3 l_1) (day5 : Int) (later6 : Int) : CT0 Try.prog 8 [(.slice p2 l_1.length k3), (.int .i64 day5), (.int .u8 later6)].toArray F0 (m_wormtublaw06_CaskDays l_1 day5 later6) (fun r _ v => v = (.bool r)) := by
 refine CT0.enter Try.func8 rfl Try.ntmps8 rfl fun r R => ?_
 unfold m_wormtublaw06_CaskDays
 refine .seq ?_
 refine .region ?_
 refine .assign rfl rfl ?_
 refine .nil ?_
 refine .code ?_
 refine .seq ?_
 refine .seq ?_
 refine .region ?_
 refine .move rfl rfl ?_
 refine .lenS rfl rfl Try.underlying22 rfl ?_
 refine .gtr rfl rfl rfl ?_
 refine .nil ?_
 refine .code ?_
 refine .cond rfl (fun hb7 => ?_) (fun hb7 => ?_)
 ·skip
  refine .seq ?_
  refine .region ?_
  refine .call0 rfl Try.call11 rfl rfl rfl (c_wormtublaw06_awake _ ) ?_
  rintro r_10 F_8 _ - l_9 rfl
  refine .assign rfl rfl ?_
  refine .nil ?_
  refine .code ?_
  exact .ret0 Try.results8 (.tmp rfl (.nil)) (i := 0) rfl l_9 rfl
 ·skip
  refine .skip ?_
  refine .code ?_
  refine .seq ?_
  refine .region ?_
  refine .move rfl rfl ?_
  refine .move rfl rfl ?_
  refine .call0 rfl Try.call12 rfl rfl rfl (c_cask_Play _ l_1 p2 k3 h4 day5) ?_
  rintro r_13 F_11 _ - l_12 ⟨p14, k15, rfl, h16⟩
  refine .move rfl rfl ?_
  refine .extract rfl rfl rfl ?_
  refine .extract rfl rfl rfl ?_
  refine .extract rfl rfl rfl ?_
  refine .assign rfl rfl ?_
  refine .assign rfl rfl ?_
  refine .assign rfl rfl ?_
  refine .nil ?_
  refine .code ?_
  refine .seq ?_
  refine .seq ?_
  refine .region ?_
  refine .move rfl rfl ?_
  refine .eql rfl rfl rfl ?_
  refine .move rfl rfl ?_
  refine .orP (b := (r_13.2.2 == 3)) (b' := (r_13.2.2 == 2)) 3 36 (fun hb17 => ?_) (fun hb18 => ?_) (fun F_19 l_20 => ?_)
  ·skip
   refine .onH hb17 rfl rfl ?_
   refine .move rfl rfl ?_
   refine .onH hb17 rfl rfl ?_
   refine .eql rfl rfl rfl ?_
   refine .pickFH hb17 rfl rfl rfl ?_
   exact .fin 3 rfl rfl (by kernel_rfl) (Fz.le_refl _)
  ·skip
   refine .offH hb18 rfl rfl rfl ?_
   refine .offH hb18 rfl rfl rfl ?_
   refine .pickTH hb18 rfl rfl rfl ?_
   exact .fin 3 rfl rfl (by kernel_rfl) (Fz.le_refl _)
  refine .nil ?_
  refine .code ?_
  refine .cond rfl (fun hb21 => ?_) (fun hb21 => ?_)
  ·skip
   refine .seq ?_
   refine .region ?_
   refine .call0 rfl Try.call11 rfl rfl rfl (c_wormtublaw06_awake _ ) ?_
   rintro r_24 F_22 _ - l_23 rfl
   refine .assign rfl rfl ?_
   refine .nil ?_
   refine .code ?_
   exact .ret0 Try.results8 (.tmp rfl (.nil)) (i := 0) rfl (Fz.le_trans l_12 (Fz.le_trans l_20 l_23)) rfl
  ·skip
   refine .skip ?_
   refine .code ?_
   refine .seq ?_
   refine .seq ?_
   refine .region ?_
   refine .move rfl rfl ?_
   refine .lss rfl rfl rfl ?_
   refine .move rfl rfl ?_
   refine .orP (b := (decide (r_13.2.1 < 0))) (b' := (decide (r_13.2.1 > (l_1.length : Int)))) 5 45 (fun hb25 => ?_) (fun hb26 => ?_) (fun F_27 l_28 => ?_)
   ·skip
    refine .onH hb25 rfl rfl ?_
    refine .move rfl rfl ?_
    refine .onH hb25 rfl rfl ?_
    refine .move rfl rfl ?_
    refine .onH hb25 rfl rfl ?_
    refine .lenS rfl rfl Try.underlying22 rfl ?_
    refine .onH hb25 rfl rfl ?_
    refine .gtr rfl rfl rfl ?_
    refine .pickFH hb25 rfl rfl rfl ?_
    exact .fin 5 rfl rfl (by kernel_rfl) (Fz.le_refl _)
   ·skip
    refine .offH hb26 rfl rfl rfl ?_
    refine .offH hb26 rfl rfl rfl ?_
    refine .offH hb26 rfl rfl rfl ?_
    refine .offH hb26 rfl rfl rfl ?_
    refine .pickTH hb26 rfl rfl rfl ?_
    exact .fin 5 rfl rfl (by kernel_rfl) (Fz.le_refl _)
   refine .nil ?_
   refine .keep (.cons (k := 0) rfl (.cons (k := 1) rfl (.cons (k := 2) rfl (.cons (k := 7) rfl (.cons (k := 8) rfl (.cons (k := 9) rfl (.cons (k := 45) rfl (.nil _)))))))) ?_
   refine .code ?_
   refine .cond rfl (fun hb29 => ?_) (fun hb29 => ?_)
   ·skip
    refine .seq ?_
    refine .region ?_
    refine .assign rfl rfl ?_
    refine .nil ?_
    refine .code ?_
    exact .ret0 Try.results8 (.tmp rfl (.nil)) (i := 0) rfl (Fz.le_trans l_12 (Fz.le_trans l_20 l_28)) rfl
   ·skip
    refine .skip ?_
    refine .code ?_
    refine .seq ?_
    refine .seq ?_
    refine .region ?_
    refine .move rfl rfl ?_
    refine .neq rfl rfl rfl ?_
    refine .nil ?_
    refine .code ?_
    refine .cond rfl (fun hb30 => ?_) (fun hb30 => ?_)
    ·skip
     refine .seq ?_
     refine .seq ?_
     refine .region ?_
     refine .move rfl rfl ?_
     refine .move rfl rfl ?_
     refine .lenS rfl rfl Try.underlying22 rfl ?_
     refine .eql rfl rfl rfl ?_
     refine .nil ?_
     refine .code ?_
     refine .cond rfl (fun hb31 => ?_) (fun hb31 => ?_)
     ·skip
      refine .seq ?_
      refine .region ?_
      refine .assign rfl rfl ?_
      refine .nil ?_
      refine .code ?_
      exact .ret0 Try.results8 (.tmp rfl (.nil)) (i := 0) rfl (Fz.le_trans l_12 (Fz.le_trans l_20 l_28)) rfl
     ·skip
      refine .skip ?_
      refine .code ?_
      refine .seq ?_
      refine .region ?_
      refine .move rfl rfl ?_
      refine .move rfl rfl ?_
      refine .add rfl rfl rfl ?_
      refine .sliceHi rfl Try.underlying22 Try.sizeOf45 (h4.mono (Fz.le_trans l_12 (Fz.le_trans l_20 l_28))) rfl rfl (fun l_32 p33 k34 e35 h36 => ?_)
      refine .move rfl rfl ?_
      refine .call0 rfl Try.call12 rfl rfl rfl (c_cask_Play _ l_32 p33 k34 h36 day5) ?_
      rintro r_39 F_37 _ - l_38 ⟨p40, k41, rfl, h42⟩
      refine .move rfl rfl ?_
      refine .extract rfl rfl rfl ?_
      refine .extract rfl rfl rfl ?_
      refine .extract rfl rfl rfl ?_
      refine .assign rfl rfl ?_
      refine .assign rfl rfl ?_
      refine .assign rfl rfl ?_
      refine .nil ?_
      refine .keep (.cons (k := 8) rfl (.cons (k := 9) rfl (.cons (k := 11) rfl (.cons (k := 12) rfl (.nil _))))) ?_
      refine .code ?_
      refine .seq ?_
      refine .region ?_
      refine .move rfl rfl ?_
      refine .move rfl rfl ?_
      refine .eql rfl rfl rfl ?_
      refine .move rfl rfl ?_
      refine .andP (b := (r_39.2.1 == r_13.2.1)) (b' := (r_39.2.2 == r_13.2.2)) 4 69 (fun hb43 => ?_) (fun hb44 => ?_) (fun F_45 l_46 => ?_)
      ·skip
       refine .onH hb43 rfl rfl ?_
       refine .move rfl rfl ?_
       refine .onH hb43 rfl rfl ?_
       refine .move rfl rfl ?_
       refine .onH hb43 rfl rfl ?_
       refine .eql rfl rfl rfl ?_
       refine .pickTH hb43 rfl rfl rfl ?_
       exact .fin 4 rfl rfl (by kernel_rfl) (Fz.le_refl _)
      ·skip
       refine .offH hb44 rfl rfl rfl ?_
       refine .offH hb44 rfl rfl rfl ?_
       refine .offH hb44 rfl rfl rfl ?_
       refine .pickFH hb44 rfl rfl rfl ?_
       exact .fin 4 rfl rfl (by kernel_rfl) (Fz.le_refl _)
      refine .move rfl rfl ?_
      refine .andM (b := ((r_39.2.1 == r_13.2.1) && (r_39.2.2 == r_13.2.2))) 2 72 (fun hb47 z55 => ?_) (fun hb51 => ?_) (fun z54 F_52 l_53 => ?_)
      ·skip
       refine .onH hb47 rfl rfl ?_
       refine .call0 rfl Try.call11 rfl rfl rfl (c_wormtublaw06_awake _ ) ?_
       rintro r_50 F_48 _ - l_49 rfl
       refine .pickTH hb47 rfl rfl rfl ?_
       exact .finZ 2 rfl rfl (by kernel_rfl) l_49
      ·skip
       refine .offH hb51 rfl rfl rfl ?_
       refine .pickFH hb51 rfl rfl rfl ?_
       exact .fin 2 rfl rfl (by kernel_rfl) (Fz.le_refl _)
      refine .assign rfl rfl ?_
      refine .nil ?_
      refine .code ?_
      exact .ret0 Try.results8 (.tmp rfl (.nil)) (i := 0) rfl (Fz.le_trans l_12 (Fz.le_trans l_20 (Fz.le_trans l_28 (Fz.le_trans l_38 (Fz.le_trans l_46 l_53))))) rfl
    ·skip
     refine .skip ?_
     refine .code ?_
     refine .seq ?_
     refine .region ?_
     refine .move rfl rfl ?_
     refine .move rfl rfl ?_
     refine .sliceHi rfl Try.underlying22 Try.sizeOf45 (h4.mono (Fz.le_trans l_12 (Fz.le_trans l_20 l_28))) rfl rfl (fun l_56 p57 k58 e59 h60 => ?_)
     refine .move rfl rfl ?_
     refine .call0 rfl Try.call12 rfl rfl rfl (c_cask_Play _ l_56 p57 k58 h60 day5) ?_
     rintro r_63 F_61 _ - l_62 ⟨p64, k65, rfl, h66⟩
     refine .move rfl rfl ?_
     refine .extract rfl rfl rfl ?_
     refine .extract rfl rfl rfl ?_
     refine .extract rfl rfl rfl ?_
     refine .assign rfl rfl ?_
     refine .assign rfl rfl ?_
     refine .assign rfl rfl ?_
     refine .nil ?_
     refine .code ?_
     refine .seq ?_
     refine .seq ?_
     refine .region ?_
     refine .move rfl rfl ?_
     refine .move rfl rfl ?_
     refine .neq rfl rfl rfl ?_
     refine .move rfl rfl ?_
     refine .orP (b := (r_63.2.1 != r_13.2.1)) (b' := (r_63.2.2 != 0)) 3 88 (fun hb67 => ?_) (fun hb68 => ?_) (fun F_69 l_70 => ?_)
     ·skip
      refine .onH hb67 rfl rfl ?_
      refine .move rfl rfl ?_
      refine .onH hb67 rfl rfl ?_
      refine .neq rfl rfl rfl ?_
      refine .pickFH hb67 rfl rfl rfl ?_
      exact .fin 3 rfl rfl (by kernel_rfl) (Fz.le_refl _)
     ·skip
      refine .offH hb68 rfl rfl rfl ?_
      refine .offH hb68 rfl rfl rfl ?_
      refine .pickTH hb68 rfl rfl rfl ?_
      exact .fin 3 rfl rfl (by kernel_rfl) (Fz.le_refl _)
     refine .move rfl rfl ?_
     refine .orM (b := ((r_63.2.1 != r_13.2.1) || (r_63.2.2 != 0))) 5 94 (fun hb71 z79 => ?_) (fun hb75 => ?_) (fun z78 F_76 l_77 => ?_)
     ·skip
      refine .onH hb71 rfl rfl ?_
      refine .move rfl rfl ?_
      refine .onH hb71 rfl rfl ?_
      refine .move rfl rfl ?_
      refine .onH hb71 rfl rfl ?_
      refine .call0 rfl Try.call16 rfl rfl rfl (c_wormtubref06_Same _ r_13.1 p14 k15 (h16.mono (Fz.le_trans l_20 (Fz.le_trans l_28 (Fz.le_trans l_62 l_70)))) r_63.1 p64 k65 (h66.mono l_70)) ?_
      rintro r_74 F_72 _ - l_73 rfl
      refine .onH hb71 rfl rfl ?_
      refine .not rfl rfl ?_
      refine .pickFH hb71 rfl rfl rfl ?_
      exact .finZ 5 rfl rfl (by kernel_rfl) l_73
     ·skip
      refine .offH hb75 rfl rfl rfl ?_
      refine .offH hb75 rfl rfl rfl ?_
      refine .offH hb75 rfl rfl rfl ?_
      refine .offH hb75 rfl rfl rfl ?_
      refine .pickTH hb75 rfl rfl rfl ?_
      exact .fin 5 rfl rfl (by kernel_rfl) (Fz.le_refl _)
     refine .nil ?_
     refine .keep (.cons (k := 0) rfl (.cons (k := 1) rfl (.cons (k := 2) rfl (.cons (k := 7) rfl (.cons (k := 8) rfl (.cons (k := 94) rfl (.nil _))))))) ?_
     refine .code ?_
     refine .cond rfl (fun hb80 => ?_) (fun hb80 => ?_)
     ·skip
      refine .seq ?_
      refine .region ?_
      refine .assign rfl rfl ?_
      refine .nil ?_
      refine .code ?_
      exact .ret0 Try.results8 (.tmp rfl (.nil)) (i := 0) rfl (Fz.le_trans l_12 (Fz.le_trans l_20 (Fz.le_trans l_28 (Fz.le_trans l_62 (Fz.le_trans l_70 l_77))))) rfl
     ·skip
      refine .skip ?_
      refine .code ?_
      refine .seq ?_
      refine .region ?_
      refine .move rfl rfl ?_
      refine .move rfl rfl ?_
      refine .convI rfl Try.underlying5 Try.underlying3 rfl ?_
      refine .add rfl rfl rfl ?_
      refine .min2 rfl rfl rfl ?_
      refine .assignL rfl rfl (fun to_81 e82 => ?_)
      refine .nil ?_
      refine .code ?_
      refine .seq ?_
      refine .region ?_
      refine .move rfl rfl ?_
      refine .move rfl rfl ?_
      refine .sliceHi rfl Try.underlying22 Try.sizeOf45 (h4.mono (Fz.le_trans l_12 (Fz.le_trans l_20 (Fz.le_trans l_28 (Fz.le_trans l_62 (Fz.le_trans l_70 l_77)))))) rfl rfl (fun l_83 p84 k85 e86 h87 => ?_)
      refine .move rfl rfl ?_
      refine .call0 rfl Try.call12 rfl rfl rfl (c_cask_Play _ l_83 p84 k85 h87 to_81) ?_
      rintro r_90 F_88 _ - l_89 ⟨p91, k92, rfl, h93⟩
      refine .move rfl rfl ?_
      refine .extract rfl rfl rfl ?_
      refine .extract rfl rfl rfl ?_
      refine .extract rfl rfl rfl ?_
      refine .assign rfl rfl ?_
      refine .assign rfl rfl ?_
      refine .assign rfl rfl ?_
      refine .nil ?_
      refine .code ?_
      refine .seq ?_
      refine .seq ?_
      refine .region ?_
      refine .move rfl rfl ?_
      refine .move rfl rfl ?_
      refine .neq rfl rfl rfl ?_
      refine .move rfl rfl ?_
      refine .orP (b := (r_90.2.1 != r_13.2.1)) (b' := (r_90.2.2 != 0)) 3 115 (fun hb94 => ?_) (fun hb95 => ?_) (fun F_96 l_97 => ?_)
      ·skip
       refine .onH hb94 rfl rfl ?_
       refine .move rfl rfl ?_
       refine .onH hb94 rfl rfl ?_
       refine .neq rfl rfl rfl ?_
       refine .pickFH hb94 rfl rfl rfl ?_
       exact .fin 3 rfl rfl (by kernel_rfl) (Fz.le_refl _)
      ·skip
       refine .offH hb95 rfl rfl rfl ?_
       refine .offH hb95 rfl rfl rfl ?_
       refine .pickTH hb95 rfl rfl rfl ?_
       exact .fin 3 rfl rfl (by kernel_rfl) (Fz.le_refl _)
      refine .move rfl rfl ?_
      refine .orP (b := ((r_90.2.1 != r_13.2.1) || (r_90.2.2 != 0))) (b' := ((r_90.1.length : Int) != (r_13.1.length : Int))) 6 122 (fun hb98 => ?_) (fun hb99 => ?_) (fun F_100 l_101 => ?_)
      ·skip
       refine .onH hb98 rfl rfl ?_
       refine .move rfl rfl ?_
       refine .onH hb98 rfl rfl ?_
       refine .lenS rfl rfl Try.underlying25 rfl ?_
       refine .onH hb98 rfl rfl ?_
       refine .move rfl rfl ?_
       refine .onH hb98 rfl rfl ?_
       refine .lenS rfl rfl Try.underlying25 rfl ?_
       refine .onH hb98 rfl rfl ?_
       refine .neq rfl rfl rfl ?_
       refine .pickFH hb98 rfl rfl rfl ?_
       exact .fin 6 rfl rfl (by kernel_rfl) (Fz.le_refl _)
      ·skip
       refine .offH hb99 rfl rfl rfl ?_
       refine .offH hb99 rfl rfl rfl ?_
       refine .offH hb99 rfl rfl rfl ?_
       refine .offH hb99 rfl rfl rfl ?_
       refine .offH hb99 rfl rfl rfl ?_
       refine .pickTH hb99 rfl rfl rfl ?_
       exact .fin 6 rfl rfl (by kernel_rfl) (Fz.le_refl _)
      refine .nil ?_
      refine .keep (.cons (k := 1) rfl (.cons (k := 7) rfl (.cons (k := 16) rfl (.cons (k := 17) rfl (.cons (k := 122) rfl (.nil _)))))) ?_
      refine .code ?_
      refine .cond rfl (fun hb102 => ?_) (fun hb102 => ?_)
      ·skip
       refine .seq ?_
       refine .region ?_
       refine .assign rfl rfl ?_
       refine .nil ?_
       refine .code ?_
       exact .ret0 Try.results8 (.tmp rfl (.nil)) (i := 0) rfl (Fz.le_trans l_12 (Fz.le_trans l_20 (Fz.le_trans l_28 (Fz.le_trans l_62 (Fz.le_trans l_70 (Fz.le_trans l_77 (Fz.le_trans l_89 (Fz.le_trans l_97 l_101)))))))) rfl
      ·skip
       refine .skip ?_
       refine .code ?_
       refine .seq ?_
       refine .seq ?_
       refine .region ?_
       refine .assign rfl rfl ?_
       refine .nil ?_
       refine .code ?_
       refine .block ?_
       refine .keep (.cons (k := 1) rfl (.cons (k := 7) rfl (.cons (k := 16) rfl (.cons (k := 17) rfl (.cons (k := 18) rfl (.nil _)))))) ?_
       refine .loop (fun (s103 : Int) a w => ∃ (F_104 : Fz), F_100 ≤ F_104 ∧ Hd 194 [] [(1, (.int .i64 day5)), (7, (.slice p14 r_13.1.length k15)), (16, (.int .i64 to_81)), (17, (.slice p91 r_90.1.length k92)), (18, (.int .i64 s103))] F_104 [R] a w) (fun b0 e a w => match b0 with | .inl b229 => e = .exit 0 ∧ ∃ (F_230 : Fz), F_100 ≤ F_230 ∧ Hd 194 [] [] F_230 [R] a w | .inr b229 => e = .ret ∧ ∃ (F_232 : Fz), F_100 ≤ F_232 ∧ Hd 194 [] [(6, (.bool b229))] F_232 [R] a w) ?_ ?_ ?_
       ·exact fun a w h => ⟨F_100, (Fz.le_refl _), h.1.sub (.cons (k := 1) rfl (.cons (k := 7) rfl (.cons (k := 16) rfl (.cons (k := 17) rfl (.cons (k := 18) rfl (.nil _)))))), h.2⟩
       ·intro s103 ctl
        refine GC.ex (fun a w ⟨F_104, l_105, hA⟩ => ⟨_, hA, ?_⟩)
        unfold b_wormtublaw06_CaskDays_1
        refine .seq ?_
        refine .seq ?_
        refine .region ?_
        refine .move rfl rfl ?_
        refine .move rfl rfl ?_
        refine .lenS rfl rfl Try.underlying25 rfl ?_
        refine .lss rfl rfl rfl ?_
        refine .nil ?_
        refine .code ?_
        refine .cond rfl (fun hb106 => ?_) (fun hb106 => ?_)
        ·skip
         refine .skip ?_
         refine .code ?_
         refine .seq ?_
         refine .block ?_
         refine .seq ?_
         refine .region ?_
         refine .move rfl rfl ?_
         refine .move rfl rfl ?_
         refine .idx rfl Try.underlying25 Try.sizeOf31 (h16.mono (Fz.le_trans l_20 (Fz.le_trans l_28 (Fz.le_trans l_62 (Fz.le_trans l_70 (Fz.le_trans l_77 (Fz.le_trans l_89 (Fz.le_trans l_97 (Fz.le_trans l_101 l_105))))))))) rfl rfl (fun x107 b108 o109 T110 fr111 cs112 e113 hm114 hv115 => ?_)
         refine .loadFA rfl Try.isAgg31 Try.sizeOf31 rfl hm114 hv115 rfl ?_
         refine .alloc (cs := (cApiCask (ApiCask.mk 0 0 0 0 0 0 0 0 (fun _ => 0) (fun _ => 0)))) rfl Try.zeroValue31 rfl (fun b117 => ?_)
         refine .store (cs' := (cApiCask x107)) Try.sizeOf31 rfl rfl rfl rfl (i := 0) rfl (Nat.le_of_ble_eq_true rfl) rfl (setMany_all (by rfl)) ?_
         refine .nil ?_
         refine .code ?_
         refine .seq ?_
         refine .seq ?_
         refine .region ?_
         refine .fieldAddr rfl Try.underlying31 rfl Try.sizeOf3 rfl ?_
         refine .loadO rfl Try.isAgg3 rfl (i := 0) rfl rfl ?_
         refine .lss rfl rfl rfl ?_
         refine .move rfl rfl ?_
         refine .orP (b := (decide (x107.Wood < 0))) (b' := (decide (x107.Wood ≥ 8))) 4 140 (fun hb118 => ?_) (fun hb119 => ?_) (fun F_120 l_121 => ?_)
         ·skip
          refine .onH hb118 rfl rfl ?_
          refine .fieldAddr rfl Try.underlying31 rfl Try.sizeOf3 rfl ?_
          refine .onH hb118 rfl rfl ?_
          refine .loadO rfl Try.isAgg3 rfl (i := 0) rfl rfl ?_
          refine .onH hb118 rfl rfl ?_
          refine .geq rfl rfl rfl ?_
          refine .pickFH hb118 rfl rfl rfl ?_
          exact .fin 4 rfl rfl (by kernel_rfl) (Fz.le_refl _)
         ·skip
          refine .offH hb119 rfl rfl rfl ?_
          refine .offH hb119 rfl rfl rfl ?_
          refine .offH hb119 rfl rfl rfl ?_
          refine .pickTH hb119 rfl rfl rfl ?_
          exact .fin 4 rfl rfl (by kernel_rfl) (Fz.le_refl _)
         refine .move rfl rfl ?_
         refine .orP (b := ((decide (x107.Wood < 0)) || (decide (x107.Wood ≥ 8)))) (b' := (decide (x107.Place < 0))) 4 145 (fun hb122 => ?_) (fun hb123 => ?_) (fun F_124 l_125 => ?_)
         ·skip
          refine .onH hb122 rfl rfl ?_
          refine .fieldAddr rfl Try.underlying31 rfl Try.sizeOf3 rfl ?_
          refine .onH hb122 rfl rfl ?_
          refine .loadO rfl Try.isAgg3 rfl (i := 0) rfl rfl ?_
          refine .onH hb122 rfl rfl ?_
          refine .lss rfl rfl rfl ?_
          refine .pickFH hb122 rfl rfl rfl ?_
          exact .fin 4 rfl rfl (by kernel_rfl) (Fz.le_refl _)
         ·skip
          refine .offH hb123 rfl rfl rfl ?_
          refine .offH hb123 rfl rfl rfl ?_
          refine .offH hb123 rfl rfl rfl ?_
          refine .pickTH hb123 rfl rfl rfl ?_
          exact .fin 4 rfl rfl (by kernel_rfl) (Fz.le_refl _)
         refine .move rfl rfl ?_
         refine .orP (b := (((decide (x107.Wood < 0)) || (decide (x107.Wood ≥ 8))) || (decide (x107.Place < 0)))) (b' := (decide (x107.Place ≥ 8))) 4 150 (fun hb126 => ?_) (fun hb127 => ?_) (fun F_128 l_129 => ?_)
         ·skip
          refine .onH hb126 rfl rfl ?_
          refine .fieldAddr rfl Try.underlying31 rfl Try.sizeOf3 rfl ?_
          refine .onH hb126 rfl rfl ?_
          refine .loadO rfl Try.isAgg3 rfl (i := 0) rfl rfl ?_
          refine .onH hb126 rfl rfl ?_
          refine .geq rfl rfl rfl ?_
          refine .pickFH hb126 rfl rfl rfl ?_
          exact .fin 4 rfl rfl (by kernel_rfl) (Fz.le_refl _)
         ·skip
          refine .offH hb127 rfl rfl rfl ?_
          refine .offH hb127 rfl rfl rfl ?_
          refine .offH hb127 rfl rfl rfl ?_
          refine .pickTH hb127 rfl rfl rfl ?_
          exact .fin 4 rfl rfl (by kernel_rfl) (Fz.le_refl _)
         refine .nil ?_
         refine .code ?_
         refine .cond rfl (fun hb130 => ?_) (fun hb130 => ?_)
         ·skip
          refine .seq ?_
          refine .region ?_
          refine .assign rfl rfl ?_
          refine .nil ?_
          refine .code ?_
          refine .drop 0 ?_
          refine .retQ (LPost.ret fun a w h => ⟨rfl, F_128, (Fz.le_trans l_105 (Fz.le_trans l_121 (Fz.le_trans l_125 l_129))), h.1.sub (.cons (k := 6) rfl (.nil _)), h.2⟩)
         ·skip
          refine .skip ?_
          refine .code ?_
          refine .seq ?_
          refine .seq ?_
          refine .region ?_
          refine .fieldAddr rfl Try.underlying31 rfl Try.sizeOf3 rfl ?_
          refine .loadO rfl Try.isAgg3 rfl (i := 0) rfl rfl ?_
          refine .gtr rfl rfl rfl ?_
          refine .nil ?_
          refine .keep (.cons (k := 1) rfl (.cons (k := 7) rfl (.cons (k := 16) rfl (.cons (k := 17) rfl (.cons (k := 18) rfl (.cons (k := 19) rfl (.cons (k := 153) rfl (.nil _)))))))) ?_
          refine .code ?_
          refine .keep (.cons (k := 1) rfl (.cons (k := 7) rfl (.cons (k := 16) rfl (.cons (k := 17) rfl (.cons (k := 18) rfl (.cons (k := 19) rfl (.cons (k := 153) rfl (.nil _)))))))) ?_
          refine GC.join0 (σ := ApiCask) (fun j200 a w => ∃ (F_201 : Fz), F_128 ≤ F_201 ∧ Hd 194 [] [(1, (.int .i64 day5)), (7, (.slice p14 r_13.1.length k15)), (16, (.int .i64 to_81)), (17, (.slice p91 r_90.1.length k92)), (18, (.int .i64 s103)), (19, (.pointer (some ⟨b117, 0, none⟩)))] F_201 [pt b117 (.cells (cApiCask j200).toArray 31), R] a w) (fun sj => ?_) (fun j200 hs0 => GE.ex (fun a w ⟨F_201, l_202, hA⟩ => ⟨_, hA, ?_⟩))
          ·skip
           refine .cond rfl (fun hb131 => ?_) (fun hb131 => ?_)
           ·skip
            refine .seq ?_
            refine .region ?_
            refine .fieldAddr rfl Try.underlying31 rfl Try.sizeOf3 rfl ?_
            refine .loadO rfl Try.isAgg3 rfl (i := 0) rfl rfl ?_
            refine .move rfl rfl ?_
            refine .add rfl rfl rfl ?_
            refine .move rfl rfl ?_
            refine .sub rfl rfl rfl ?_
            refine .fieldAddr rfl Try.underlying31 rfl Try.sizeOf3 rfl ?_
            refine .letv (fun x132 e133 => ?_)
            refine .store (cs' := (cApiCask x132)) Try.sizeOf3 rfl rfl rfl rfl (i := 0) rfl (Nat.le_of_ble_eq_true rfl) rfl (by rw [e133]; kernel_rfl) ?_
            refine .nil ?_
            refine .code ?_
            refine .seq ?_
            refine .keep (.cons (k := 1) rfl (.cons (k := 7) rfl (.cons (k := 16) rfl (.cons (k := 17) rfl (.cons (k := 18) rfl (.cons (k := 19) rfl (.nil _))))))) ?_
            refine .bind (fun j135 hj136 => ?_)
            refine .drawGD 12 0 (fun env134 => [((.pointer (some ⟨b117, 0 + 1, none⟩)), fun _ => True), ((.int .i64 x132.Wood), fun _ => True), ((.pointer (some ⟨b117, 0 + 1, none⟩)), fun _ => True), ((.int .i64 x132.Wood), fun _ => True), ((.pointer (some ⟨b117, 0 + 8, none⟩)), fun _ => True), ((.pointer (some ⟨b117, 0 + 8 + j135 * 1, none⟩)), fun _ => True), ((.int .i64 (x132.Woods j135)), fun _ => True), ((.int .i64 to_81), fun _ => True), ((.int .i64 (w64 ((x132.Woods j135) + to_81))), fun _ => True), ((.int .i64 day5), fun _ => True), ((.int .i64 (w64 ((w64 ((x132.Woods j135) + to_81)) - day5))), fun _ => True), ((.pointer (some ⟨b117, 0 + 8, none⟩)), fun _ => True)]) (fun L env134 => [pt b117 (.cells (cApiCask x132).toArray 31), R]) mixedOK (by kernel_rfl) (deepN (k := 12) (n := 14) rfl (allLt14 (p := fun t => 12 ≤ t → ∀ j, j < t → ∃ s, depB _ s t j = true) (fun h => absurd h (by decide)) (fun h => absurd h (by decide)) (fun h => absurd h (by decide)) (fun h => absurd h (by decide)) (fun h => absurd h (by decide)) (fun h => absurd h (by decide)) (fun h => absurd h (by decide)) (fun h => absurd h (by decide)) (fun h => absurd h (by decide)) (fun h => absurd h (by decide)) (fun h => absurd h (by decide)) (fun h => absurd h (by decide)) (fun _ => allLt12 (p := fun j => ∃ s, depB _ s 12 j = true) ⟨1, rfl⟩ ⟨1, rfl⟩ ⟨1, rfl⟩ ⟨1, rfl⟩ ⟨1, rfl⟩ ⟨1, rfl⟩ ⟨1, rfl⟩ ⟨1, rfl⟩ ⟨1, rfl⟩ ⟨1, rfl⟩ ⟨1, rfl⟩ ⟨1, rfl⟩) (fun _ => allLt13 (p := fun j => ∃ s, depB _ s 13 j = true) ⟨1, rfl⟩ ⟨1, rfl⟩ ⟨1, rfl⟩ ⟨1, rfl⟩ ⟨1, rfl⟩ ⟨1, rfl⟩ ⟨1, rfl⟩ ⟨1, rfl⟩ ⟨1, rfl⟩ ⟨1, rfl⟩ ⟨1, rfl⟩ ⟨2, rfl⟩ ⟨1, rfl⟩))) rfl (fun _ => rfl) (by kernel_rfl) (fun _ => rfl) ?_ (fun env134 F_137 l_138 hphi => ?_)
            ·skip
             refine .cons (fun L env134 F_139 l_140 hL hdn hup hphi => ⟨[(19, (.pointer (some ⟨b117, 0, none⟩)))], fun S hS hV => (.cons (hS _ _ rfl) (Sub.nil _)), ?_⟩) ?_
             ·skip
              refine .fieldAddr rfl Try.underlying31 rfl Try.sizeOf3 rfl ?_
              exact .finV rfl rfl (Fz.le_refl _)
             refine .cons (fun L env134 F_141 l_142 hL hdn hup hphi => ⟨[(161, (.pointer (some ⟨b117, 0 + 1, none⟩)))], fun S hS hV => (.cons (hV 0 161 _ (hdn 1 0 rfl) rfl rfl) (Sub.nil _)), ?_⟩) ?_
             ·skip
              refine .loadO rfl Try.isAgg3 rfl (i := 0) rfl rfl ?_
              exact .finV rfl rfl (Fz.le_refl _)
             refine .cons (fun L env134 F_143 l_144 hL hdn hup hphi => ⟨[(19, (.pointer (some ⟨b117, 0, none⟩)))], fun S hS hV => (.cons (hS _ _ rfl) (Sub.nil _)), ?_⟩) ?_
             ·skip
              refine .fieldAddr rfl Try.underlying31 rfl Try.sizeOf3 rfl ?_
              exact .finV rfl rfl (Fz.le_refl _)
             refine .cons (fun L env134 F_145 l_146 hL hdn hup hphi => ⟨[(163, (.pointer (some ⟨b117, 0 + 1, none⟩)))], fun S hS hV => (.cons (hV 2 163 _ (hdn 1 2 rfl) rfl rfl) (Sub.nil _)), ?_⟩) ?_
             ·skip
              refine .loadO rfl Try.isAgg3 rfl (i := 0) rfl rfl ?_
              exact .finV rfl rfl (Fz.le_refl _)
             refine .cons (fun L env134 F_147 l_148 hL hdn hup hphi => ⟨[(19, (.pointer (some ⟨b117, 0, none⟩)))], fun S hS hV => (.cons (hS _ _ rfl) (Sub.nil _)), ?_⟩) ?_
             ·skip
              refine .fieldAddr rfl Try.underlying31 rfl Try.sizeOf29 rfl ?_
              exact .finV rfl rfl (Fz.le_refl _)
             refine .cons (fun L env134 F_149 l_150 hL hdn hup hphi => ⟨[(164, (.int .i64 x132.Wood)), (165, (.pointer (some ⟨b117, 0 + 8, none⟩)))], fun S hS hV => (.cons (hV 3 164 _ (hdn 1 3 rfl) rfl rfl) (.cons (hV 4 165 _ (hdn 1 4 rfl) rfl rfl) (Sub.nil _))), ?_⟩) ?_
             ·skip
              refine .indexAddrA rfl Try.underlying29 Try.sizeOf3 rfl rfl hj136 ?_
              exact .finV rfl rfl (Fz.le_refl _)
             refine .cons (fun L env134 F_151 l_152 hL hdn hup hphi => ⟨[(166, (.pointer (some ⟨b117, 0 + 8 + j135 * 1, none⟩)))], fun S hS hV => (.cons (hV 5 166 _ (hdn 1 5 rfl) rfl rfl) (Sub.nil _)), ?_⟩) ?_
             ·skip
              refine .loadO rfl Try.isAgg3 rfl (i := 0) rfl (allLt8 (p := fun j135 => ((cApiCask x132))[0 + 8 + j135 * 1]? = some (.int .i64 (x132.Woods j135))) rfl rfl rfl rfl rfl rfl rfl rfl _ (idxO_some hj136).2.2.2) ?_
              exact .finV rfl rfl (Fz.le_refl _)
             refine .cons (fun L env134 F_153 l_154 hL hdn hup hphi => ⟨[(16, (.int .i64 to_81))], fun S hS hV => (.cons (hS _ _ rfl) (Sub.nil _)), ?_⟩) ?_
             ·skip
              refine .move rfl rfl ?_
              exact .finV rfl rfl (Fz.le_refl _)
             refine .cons (fun L env134 F_155 l_156 hL hdn hup hphi => ⟨[(167, (.int .i64 (x132.Woods j135))), (168, (.int .i64 to_81))], fun S hS hV => (.cons (hV 6 167 _ (hdn 1 6 rfl) rfl rfl) (.cons (hV 7 168 _ (hdn 1 7 rfl) rfl rfl) (Sub.nil _))), ?_⟩) ?_
             ·skip
              refine .add rfl rfl rfl ?_
              exact .finV rfl rfl (Fz.le_refl _)
             refine .cons (fun L env134 F_157 l_158 hL hdn hup hphi => ⟨[(1, (.int .i64 day5))], fun S hS hV => (.cons (hS _ _ rfl) (Sub.nil _)), ?_⟩) ?_
             ·skip
              refine .move rfl rfl ?_
              exact .finV rfl rfl (Fz.le_refl _)
             refine .cons (fun L env134 F_159 l_160 hL hdn hup hphi => ⟨[(169, (.int .i64 (w64 ((x132.Woods j135) + to_81)))), (170, (.int .i64 day5))], fun S hS hV => (.cons (hV 8 169 _ (hdn 1 8 rfl) rfl rfl) (.cons (hV 9 170 _ (hdn 1 9 rfl) rfl rfl) (Sub.nil _))), ?_⟩) ?_
             ·skip
              refine .sub rfl rfl rfl ?_
              exact .finV rfl rfl (Fz.le_refl _)
             refine .cons (fun L env134 F_161 l_162 hL hdn hup hphi => ⟨[(19, (.pointer (some ⟨b117, 0, none⟩)))], fun S hS hV => (.cons (hS _ _ rfl) (Sub.nil _)), ?_⟩) ?_
             ·skip
              refine .fieldAddr rfl Try.underlying31 rfl Try.sizeOf29 rfl ?_
              exact .finV rfl rfl (Fz.le_refl _)
             exact .nil
            refine .norm (S' := [(1, (.int .i64 day5)), (7, (.slice p14 r_13.1.length k15)), (16, (.int .i64 to_81)), (17, (.slice p91 r_90.1.length k92)), (18, (.int .i64 s103)), (19, (.pointer (some ⟨b117, 0, none⟩))), (161, (.pointer (some ⟨b117, 0 + 1, none⟩))), (162, (.int .i64 x132.Wood)), (163, (.pointer (some ⟨b117, 0 + 1, none⟩))), (164, (.int .i64 x132.Wood)), (165, (.pointer (some ⟨b117, 0 + 8, none⟩))), (166, (.pointer (some ⟨b117, 0 + 8 + j135 * 1, none⟩))), (167, (.int .i64 (x132.Woods j135))), (168, (.int .i64 to_81)), (169, (.int .i64 (w64 ((x132.Woods j135) + to_81)))), (170, (.int .i64 day5)), (171, (.int .i64 (w64 ((w64 ((x132.Woods j135) + to_81)) - day5)))), (172, (.pointer (some ⟨b117, 0 + 8, none⟩)))]) (.cons (k := 1) rfl (.cons (k := 7) rfl (.cons (k := 16) rfl (.cons (k := 17) rfl (.cons (k := 18) rfl (.cons (k := 19) rfl (.cons (k := 161) rfl (.cons (k := 162) rfl (.cons (k := 163) rfl (.cons (k := 164) rfl (.cons (k := 165) rfl (.cons (k := 166) rfl (.cons (k := 167) rfl (.cons (k := 168) rfl (.cons (k := 169) rfl (.cons (k := 170) rfl (.cons (k := 171) rfl (.cons (k := 172) rfl (.nil _))))))))))))))))))) (rfl : _ = [pt b117 (.cells (cApiCask x132).toArray 31), R]) ?_
            refine .bind (fun j163 hj164 => ?_)
            refine .indexAddrA rfl Try.underlying29 Try.sizeOf3 rfl rfl hj164 ?_
            refine .letv (fun x165 e166 => ?_)
            refine .store (cs' := (cApiCask x165)) Try.sizeOf3 rfl rfl rfl rfl (i := 0) rfl (allLt8 (p := fun j163 => 0 + 8 + j163 * 1 + 1 ≤ 24) (by decide) (by decide) (by decide) (by decide) (by decide) (by decide) (by decide) (by decide) _ (idxO_some hj164).2.2.2) rfl (by rw [e166]; exact (allLt8 (p := fun j163 => setMany ((cApiCask x132)) (0 + 8 + j163 * 1) [(.int .i64 (w64 ((w64 ((x132.Woods j135) + to_81)) - day5)))] = (cApiCask ({ x132 with Woods := updN x132.Woods j163 (w64 ((w64 ((x132.Woods j135) + to_81)) - day5)) }))) rfl rfl rfl rfl rfl rfl rfl rfl _ (idxO_some hj164).2.2.2)) ?_
            refine .nil ?_
            refine .code ?_
            refine .keep (.cons (k := 1) rfl (.cons (k := 7) rfl (.cons (k := 16) rfl (.cons (k := 17) rfl (.cons (k := 18) rfl (.cons (k := 19) rfl (.nil _))))))) ?_
            refine .bind (fun j168 hj169 => ?_)
            refine .drawGD 12 0 (fun env167 => [((.pointer (some ⟨b117, 0 + 2, none⟩)), fun _ => True), ((.int .i64 x165.Place), fun _ => True), ((.pointer (some ⟨b117, 0 + 2, none⟩)), fun _ => True), ((.int .i64 x165.Place), fun _ => True), ((.pointer (some ⟨b117, 0 + 16, none⟩)), fun _ => True), ((.pointer (some ⟨b117, 0 + 16 + j168 * 1, none⟩)), fun _ => True), ((.int .i64 (x165.Places j168)), fun _ => True), ((.int .i64 to_81), fun _ => True), ((.int .i64 (w64 ((x165.Places j168) + to_81))), fun _ => True), ((.int .i64 day5), fun _ => True), ((.int .i64 (w64 ((w64 ((x165.Places j168) + to_81)) - day5))), fun _ => True), ((.pointer (some ⟨b117, 0 + 16, none⟩)), fun _ => True)]) (fun L env167 => [pt b117 (.cells (cApiCask x165).toArray 31), R]) mixedOK (by kernel_rfl) (deepN (k := 12) (n := 14) rfl (allLt14 (p := fun t => 12 ≤ t → ∀ j, j < t → ∃ s, depB _ s t j = true) (fun h => absurd h (by decide)) (fun h => absurd h (by decide)) (fun h => absurd h (by decide)) (fun h => absurd h (by decide)) (fun h => absurd h (by decide)) (fun h => absurd h (by decide)) (fun h => absurd h (by decide)) (fun h => absurd h (by decide)) (fun h => absurd h (by decide)) (fun h => absurd h (by decide)) (fun h => absurd h (by decide)) (fun h => absurd h (by decide)) (fun _ => allLt12 (p := fun j => ∃ s, depB _ s 12 j = true) ⟨1, rfl⟩ ⟨1, rfl⟩ ⟨1, rfl⟩ ⟨1, rfl⟩ ⟨1, rfl⟩ ⟨1, rfl⟩ ⟨1, rfl⟩ ⟨1, rfl⟩ ⟨1, rfl⟩ ⟨1, rfl⟩ ⟨1, rfl⟩ ⟨1, rfl⟩) (fun _ => allLt13 (p := fun j => ∃ s, depB _ s 13 j = true) ⟨1, rfl⟩ ⟨1, rfl⟩ ⟨1, rfl⟩ ⟨1, rfl⟩ ⟨1, rfl⟩ ⟨1, rfl⟩ ⟨1, rfl⟩ ⟨1, rfl⟩ ⟨1, rfl⟩ ⟨1, rfl⟩ ⟨1, rfl⟩ ⟨2, rfl⟩ ⟨1, rfl⟩))) rfl (fun _ => rfl) (by kernel_rfl) (fun _ => rfl) ?_ (fun env167 F_170 l_171 hphi => ?_)
            ·skip
             refine .cons (fun L env167 F_172 l_173 hL hdn hup hphi => ⟨[(19, (.pointer (some ⟨b117, 0, none⟩)))], fun S hS hV => (.cons (hS _ _ rfl) (Sub.nil _)), ?_⟩) ?_
             ·skip
              refine .fieldAddr rfl Try.underlying31 rfl Try.sizeOf3 rfl ?_
              exact .finV rfl rfl (Fz.le_refl _)
             refine .cons (fun L env167 F_174 l_175 hL hdn hup hphi => ⟨[(174, (.pointer (some ⟨b117, 0 + 2, none⟩)))], fun S hS hV => (.cons (hV 0 174 _ (hdn 1 0 rfl) rfl rfl) (Sub.nil _)), ?_⟩) ?_
             ·skip
              refine .loadO rfl Try.isAgg3 rfl (i := 0) rfl rfl ?_
              exact .finV rfl rfl (Fz.le_refl _)
             refine .cons (fun L env167 F_176 l_177 hL hdn hup hphi => ⟨[(19, (.pointer (some ⟨b117, 0, none⟩)))], fun S hS hV => (.cons (hS _ _ rfl) (Sub.nil _)), ?_⟩) ?_
             ·skip
              refine .fieldAddr rfl Try.underlying31 rfl Try.sizeOf3 rfl ?_
              exact .finV rfl rfl (Fz.le_refl _)
             refine .cons (fun L env167 F_178 l_179 hL hdn hup hphi => ⟨[(176, (.pointer (some ⟨b117, 0 + 2, none⟩)))], fun S hS hV => (.cons (hV 2 176 _ (hdn 1 2 rfl) rfl rfl) (Sub.nil _)), ?_⟩) ?_
             ·skip
              refine .loadO rfl Try.isAgg3 rfl (i := 0) rfl rfl ?_
              exact .finV rfl rfl (Fz.le_refl _)
             refine .cons (fun L env167 F_180 l_181 hL hdn hup hphi => ⟨[(19, (.pointer (some ⟨b117, 0, none⟩)))], fun S hS hV => (.cons (hS _ _ rfl) (Sub.nil _)), ?_⟩) ?_
             ·skip
              refine .fieldAddr rfl Try.underlying31 rfl Try.sizeOf29 rfl ?_
              exact .finV rfl rfl (Fz.le_refl _)
             refine .cons (fun L env167 F_182 l_183 hL hdn hup hphi => ⟨[(177, (.int .i64 x165.Place)), (178, (.pointer (some ⟨b117, 0 + 16, none⟩)))], fun S hS hV => (.cons (hV 3 177 _ (hdn 1 3 rfl) rfl rfl) (.cons (hV 4 178 _ (hdn 1 4 rfl) rfl rfl) (Sub.nil _))), ?_⟩) ?_
             ·skip
              refine .indexAddrA rfl Try.underlying29 Try.sizeOf3 rfl rfl hj169 ?_
              exact .finV rfl rfl (Fz.le_refl _)
             refine .cons (fun L env167 F_184 l_185 hL hdn hup hphi => ⟨[(179, (.pointer (some ⟨b117, 0 + 16 + j168 * 1, none⟩)))], fun S hS hV => (.cons (hV 5 179 _ (hdn 1 5 rfl) rfl rfl) (Sub.nil _)), ?_⟩) ?_
             ·skip
              refine .loadO rfl Try.isAgg3 rfl (i := 0) rfl (allLt8 (p := fun j168 => ((cApiCask x165))[0 + 16 + j168 * 1]? = some (.int .i64 (x165.Places j168))) rfl rfl rfl rfl rfl rfl rfl rfl _ (idxO_some hj169).2.2.2) ?_
              exact .finV rfl rfl (Fz.le_refl _)
             refine .cons (fun L env167 F_186 l_187 hL hdn hup hphi => ⟨[(16, (.int .i64 to_81))], fun S hS hV => (.cons (hS _ _ rfl) (Sub.nil _)), ?_⟩) ?_
             ·skip
              refine .move rfl rfl ?_
              exact .finV rfl rfl (Fz.le_refl _)
             refine .cons (fun L env167 F_188 l_189 hL hdn hup hphi => ⟨[(180, (.int .i64 (x165.Places j168))), (181, (.int .i64 to_81))], fun S hS hV => (.cons (hV 6 180 _ (hdn 1 6 rfl) rfl rfl) (.cons (hV 7 181 _ (hdn 1 7 rfl) rfl rfl) (Sub.nil _))), ?_⟩) ?_
             ·skip
              refine .add rfl rfl rfl ?_
              exact .finV rfl rfl (Fz.le_refl _)
             refine .cons (fun L env167 F_190 l_191 hL hdn hup hphi => ⟨[(1, (.int .i64 day5))], fun S hS hV => (.cons (hS _ _ rfl) (Sub.nil _)), ?_⟩) ?_
             ·skip
              refine .move rfl rfl ?_
              exact .finV rfl rfl (Fz.le_refl _)
             refine .cons (fun L env167 F_192 l_193 hL hdn hup hphi => ⟨[(182, (.int .i64 (w64 ((x165.Places j168) + to_81)))), (183, (.int .i64 day5))], fun S hS hV => (.cons (hV 8 182 _ (hdn 1 8 rfl) rfl rfl) (.cons (hV 9 183 _ (hdn 1 9 rfl) rfl rfl) (Sub.nil _))), ?_⟩) ?_
             ·skip
              refine .sub rfl rfl rfl ?_
              exact .finV rfl rfl (Fz.le_refl _)
             refine .cons (fun L env167 F_194 l_195 hL hdn hup hphi => ⟨[(19, (.pointer (some ⟨b117, 0, none⟩)))], fun S hS hV => (.cons (hS _ _ rfl) (Sub.nil _)), ?_⟩) ?_
             ·skip
              refine .fieldAddr rfl Try.underlying31 rfl Try.sizeOf29 rfl ?_
              exact .finV rfl rfl (Fz.le_refl _)
             exact .nil
            refine .norm (S' := [(1, (.int .i64 day5)), (7, (.slice p14 r_13.1.length k15)), (16, (.int .i64 to_81)), (17, (.slice p91 r_90.1.length k92)), (18, (.int .i64 s103)), (19, (.pointer (some ⟨b117, 0, none⟩))), (174, (.pointer (some ⟨b117, 0 + 2, none⟩))), (175, (.int .i64 x165.Place)), (176, (.pointer (some ⟨b117, 0 + 2, none⟩))), (177, (.int .i64 x165.Place)), (178, (.pointer (some ⟨b117, 0 + 16, none⟩))), (179, (.pointer (some ⟨b117, 0 + 16 + j168 * 1, none⟩))), (180, (.int .i64 (x165.Places j168))), (181, (.int .i64 to_81)), (182, (.int .i64 (w64 ((x165.Places j168) + to_81)))), (183, (.int .i64 day5)), (184, (.int .i64 (w64 ((w64 ((x165.Places j168) + to_81)) - day5)))), (185, (.pointer (some ⟨b117, 0 + 16, none⟩)))]) (.cons (k := 1) rfl (.cons (k := 7) rfl (.cons (k := 16) rfl (.cons (k := 17) rfl (.cons (k := 18) rfl (.cons (k := 19) rfl (.cons (k := 174) rfl (.cons (k := 175) rfl (.cons (k := 176) rfl (.cons (k := 177) rfl (.cons (k := 178) rfl (.cons (k := 179) rfl (.cons (k := 180) rfl (.cons (k := 181) rfl (.cons (k := 182) rfl (.cons (k := 183) rfl (.cons (k := 184) rfl (.cons (k := 185) rfl (.nil _))))))))))))))))))) (rfl : _ = [pt b117 (.cells (cApiCask x165).toArray 31), R]) ?_
            refine .bind (fun j196 hj197 => ?_)
            refine .indexAddrA rfl Try.underlying29 Try.sizeOf3 rfl rfl hj197 ?_
            refine .letv (fun x198 e199 => ?_)
            refine .store (cs' := (cApiCask x198)) Try.sizeOf3 rfl rfl rfl rfl (i := 0) rfl (allLt8 (p := fun j196 => 0 + 16 + j196 * 1 + 1 ≤ 24) (by decide) (by decide) (by decide) (by decide) (by decide) (by decide) (by decide) (by decide) _ (idxO_some hj197).2.2.2) rfl (by rw [e199]; exact (allLt8 (p := fun j196 => setMany ((cApiCask x165)) (0 + 16 + j196 * 1) [(.int .i64 (w64 ((w64 ((x165.Places j168) + to_81)) - day5)))] = (cApiCask ({ x165 with Places := updN x165.Places j196 (w64 ((w64 ((x165.Places j168) + to_81)) - day5)) }))) rfl rfl rfl rfl rfl rfl rfl rfl _ (idxO_some hj197).2.2.2)) ?_
            refine .nil ?_
            exact .nil fun e a w h => by cases e; exact ⟨rfl, ⟨F_170, (Fz.le_trans l_138 l_171), h.1.sub (.cons (k := 1) rfl (.cons (k := 7) rfl (.cons (k := 16) rfl (.cons (k := 17) rfl (.cons (k := 18) rfl (.cons (k := 19) rfl (.nil _))))))), h.2⟩⟩
           ·skip
            refine .skip ?_
            exact .nil fun e a w h => by cases e; exact ⟨rfl, ⟨F_128, (Fz.le_refl _), h.1.sub (.cons (k := 1) rfl (.cons (k := 7) rfl (.cons (k := 16) rfl (.cons (k := 17) rfl (.cons (k := 18) rfl (.cons (k := 19) rfl (.nil _))))))), h.2⟩⟩
          refine .code ?_
          refine .seq ?_
          refine .keep (.cons (k := 1) rfl (.cons (k := 7) rfl (.cons (k := 16) rfl (.cons (k := 17) rfl (.cons (k := 18) rfl (.cons (k := 19) rfl (.nil _))))))) ?_
          refine .bind (fun x204 e210 => ?_)
          obtain ⟨b205, o206, T207, fr208, cs209, hm211, hv212, hq213⟩ := RepSl.idxE (h93.mono (Fz.le_trans l_97 (Fz.le_trans l_101 (Fz.le_trans l_105 (Fz.le_trans l_121 (Fz.le_trans l_125 (Fz.le_trans l_129 l_202))))))) e210
          refine .drawGD 5 0 (fun env203 => [((.slice p91 r_90.1.length k92), fun _ => True), ((.int .i64 s103), fun _ => True), ((.pointer (some ⟨b205, o206, none⟩)), fun _ => True), ((eApiCask x204), fun _ => True), ((eApiCask j200), fun _ => True)]) (fun L env203 => [pt b117 (.cells (cApiCask j200).toArray 31), R]) mixedOK (by kernel_rfl) (deepN (k := 5) (n := 6) rfl (allLt6 (p := fun t => 5 ≤ t → ∀ j, j < t → ∃ s, depB _ s t j = true) (fun h => absurd h (by decide)) (fun h => absurd h (by decide)) (fun h => absurd h (by decide)) (fun h => absurd h (by decide)) (fun h => absurd h (by decide)) (fun _ => allLt5 (p := fun j => ∃ s, depB _ s 5 j = true) ⟨3, rfl⟩ ⟨3, rfl⟩ ⟨2, rfl⟩ ⟨1, rfl⟩ ⟨1, rfl⟩))) rfl (fun _ => rfl) (by kernel_rfl) (fun _ => rfl) ?_ (fun env203 F_214 l_215 hphi => ?_)
          ·skip
           refine .cons (fun L env203 F_216 l_217 hL hdn hup hphi => ⟨[(17, (.slice p91 r_90.1.length k92))], fun S hS hV => (.cons (hS _ _ rfl) (Sub.nil _)), ?_⟩) ?_
           ·skip
            refine .move rfl rfl ?_
            exact .finV rfl rfl (Fz.le_refl _)
           refine .cons (fun L env203 F_218 l_219 hL hdn hup hphi => ⟨[(18, (.int .i64 s103))], fun S hS hV => (.cons (hS _ _ rfl) (Sub.nil _)), ?_⟩) ?_
           ·skip
            refine .move rfl rfl ?_
            exact .finV rfl rfl (Fz.le_refl _)
           refine .cons (fun L env203 F_220 l_221 hL hdn hup hphi => ⟨[(187, (.slice p91 r_90.1.length k92)), (188, (.int .i64 s103))], fun S hS hV => (.cons (hV 0 187 _ (hdn 1 0 rfl) rfl rfl) (.cons (hV 1 188 _ (hdn 1 1 rfl) rfl rfl) (Sub.nil _))), ?_⟩) ?_
           ·skip
            refine .idxQ rfl Try.underlying25 Try.sizeOf31 hq213 rfl rfl ?_
            exact .finV rfl rfl (Fz.le_refl _)
           refine .cons (fun L env203 F_222 l_223 hL hdn hup hphi => ⟨[(189, (.pointer (some ⟨b205, o206, none⟩)))], fun S hS hV => (.cons (hV 2 189 _ (hdn 1 2 rfl) rfl rfl) (Sub.nil _)), ?_⟩) ?_
           ·skip
            refine .loadFA rfl Try.isAgg31 Try.sizeOf31 rfl (l_223.mem _ _ hm211) hv212 rfl ?_
            exact .finV rfl rfl (Fz.le_refl _)
           refine .cons (fun L env203 F_224 l_225 hL hdn hup hphi => ⟨[(19, (.pointer (some ⟨b117, 0, none⟩)))], fun S hS hV => (.cons (hS _ _ rfl) (Sub.nil _)), ?_⟩) ?_
           ·skip
            refine .loadOA rfl Try.isAgg31 Try.sizeOf31 rfl (i := 0) rfl (vs := (cApiCask j200)) (by kernel_rfl) rfl ?_
            exact .finV rfl rfl (Fz.le_refl _)
           exact .nil
          refine .norm (S' := [(1, (.int .i64 day5)), (7, (.slice p14 r_13.1.length k15)), (16, (.int .i64 to_81)), (17, (.slice p91 r_90.1.length k92)), (18, (.int .i64 s103)), (19, (.pointer (some ⟨b117, 0, none⟩))), (187, (.slice p91 r_90.1.length k92)), (188, (.int .i64 s103)), (189, (.pointer (some ⟨b205, o206, none⟩))), (190, (eApiCask x204)), (191, (eApiCask j200))]) (.cons (k := 1) rfl (.cons (k := 7) rfl (.cons (k := 16) rfl (.cons (k := 17) rfl (.cons (k := 18) rfl (.cons (k := 19) rfl (.cons (k := 187) rfl (.cons (k := 188) rfl (.cons (k := 189) rfl (.cons (k := 190) rfl (.cons (k := 191) rfl (.nil _)))))))))))) (rfl : _ = [pt b117 (.cells (cApiCask j200).toArray 31), R]) ?_
          refine .neqR rfl Try.eqGuardType31 (fun w => req_31 x204 j200 w) rfl rfl ?_
          refine .nil ?_
          refine .code ?_
          refine .cond rfl (fun hb226 => ?_) (fun hb226 => ?_)
          ·skip
           refine .seq ?_
           refine .region ?_
           refine .assign rfl rfl ?_
           refine .nil ?_
           refine .code ?_
           refine .drop 0 ?_
           refine .retQ (LPost.ret fun a w h => ⟨rfl, F_214, (Fz.le_trans l_105 (Fz.le_trans l_121 (Fz.le_trans l_125 (Fz.le_trans l_129 (Fz.le_trans l_202 l_215))))), h.1.sub (.cons (k := 6) rfl (.nil _)), h.2⟩)
          ·skip
           refine .skip ?_
           refine .block ?_
           refine .code ?_
           refine .region ?_
           refine .move rfl rfl ?_
           refine .add rfl rfl rfl ?_
           refine .assignL rfl rfl (fun i227 e228 => ?_)
           refine .nil ?_
           refine .drop 0 ?_
           exact .nil (LPost.norm fun a w h => ⟨F_214, (Fz.le_trans l_105 (Fz.le_trans l_121 (Fz.le_trans l_125 (Fz.le_trans l_129 (Fz.le_trans l_202 l_215))))), h.1.sub (.cons (k := 1) rfl (.cons (k := 7) rfl (.cons (k := 16) rfl (.cons (k := 17) rfl (.cons (k := 18) rfl (.nil _)))))), h.2⟩)
        ·skip
         refine .exitOut rfl (LPost.exit fun a w h => ⟨rfl, F_104, l_105, h.1.sub (.nil _), h.2⟩)
       ·intro b229 hb0 hk e a w hD
        rcases b229 with b229 | b229
        ·skip
         obtain ⟨rfl, F_230, l_231, hA⟩ := hD
         refine interp_exit rfl (GE.app ?_ hk a w hA)
         refine .code ?_
         refine .seq ?_
         refine .region ?_
         refine .call0 rfl Try.call11 rfl rfl rfl (c_wormtublaw06_awake _ ) ?_
         rintro r_236 F_234 _ - l_235 rfl
         refine .assign rfl rfl ?_
         refine .nil ?_
         refine .code ?_
         exact .ret0 Try.results8 (.tmp rfl (.nil)) (i := 0) rfl (Fz.le_trans l_12 (Fz.le_trans l_20 (Fz.le_trans l_28 (Fz.le_trans l_62 (Fz.le_trans l_70 (Fz.le_trans l_77 (Fz.le_trans l_89 (Fz.le_trans l_97 (Fz.le_trans l_101 (Fz.le_trans l_231 l_235)))))))))) rfl
        obtain ⟨rfl, F_232, l_233, hA⟩ := hD
        exact interp_ret ((ret_post0 Try.results8 (.tmp rfl (.nil)) (i := 0) rfl (Fz.le_trans l_12 (Fz.le_trans l_20 (Fz.le_trans l_28 (Fz.le_trans l_62 (Fz.le_trans l_70 (Fz.le_trans l_77 (Fz.le_trans l_89 (Fz.le_trans l_97 (Fz.le_trans l_101 l_233))))))))) rfl) hk a w hA)
end Go.Proofs.Ytkedjmhhcekmiaa
end

section
namespace Go.Proofs.Ytkedjmhhcekmiaa
open Go.Dec
open Go.ChangeShapes Go.WideShapes Go.ChangeAt Go.RowKit
def LawCaskDays : Prop := ∀ (a0 : (List ApiCaskEvent)) (a1 : Int) (a2 : Int), (∀ y ∈ a0, okApiCaskEvent y) → (Lit.int .i64 a1).wf = true → (Lit.int .u8 a2).wf = true → m_wormtublaw06_CaskDays a0 a1 a2 = some true
set_option maxRecDepth 100000 in
theorem lifted_CaskDays (law : LawCaskDays) (os : Os) (started : os.Started) (H : Type) (enc : TypeId × Value → H) :
  ReturnsInHanded {} Try.checked os 8 .any (Rows.caskDaysSpec.pre6 enc Try.prog Try.f8 Rows.caskDaysRow.domain false) (Rows.caskDaysSpec.post enc Try.prog Try.f8 false true false false) := by
 refine returnsInHanded_of_change (C := Try.checked) Try.own started (by kernel_rfl) Try.func8 (ChangeSpec.witness6 (enc := enc) (C := Try.checked) false ⟨#[], #[.slice none 0 0, .int .i64 0, .int .u8 0], []⟩ 12 (by kernel_rfl) (by kernel_rfl) (by kernel_rfl) (by kernel_rfl)) ?_
 intro W base args ds gs before hval hW _ _
 refine law_contract (P := Try.prog) Try.laidOut (by kernel_rfl) rfl (by kernel_rfl : Try.f8.resultTypes = #[4]) Try.underlying4 (fun ds h => ?_) (fun W base args ds ps hval hA => ?_) W base args ds gs before hval hW
 ·match ds, h with
  | [d0, d1, d2], _ => rfl
 ·rw [Try.params8] at hA hval
  obtain ⟨v0, l0, _, _, _, _, e0, _, _, t0, hA⟩ := trodAll_cons hA
  obtain ⟨v1, l1, _, _, _, _, e1, _, _, t1, hA⟩ := trodAll_cons hA
  obtain ⟨v2, l2, _, _, _, _, e2, _, _, t2, hA⟩ := trodAll_cons hA
  obtain ⟨e3, _, _⟩ := trodAll_nil hA
  subst e3 e2 e1
  obtain rfl : args = [v0, v1, v2].toArray := by rw [← e0]
  obtain ⟨m0, p0, k0, o0, rfl, h0⟩ := argSlice Try.underlying22 vt22 (hval 0 _ _ rfl rfl) t0
  obtain ⟨m1, o1, rfl⟩ := argInt Try.underlying3 (hval 1 _ _ rfl rfl) t1
  obtain ⟨m2, o2, rfl⟩ := argInt Try.underlying5 (hval 2 _ _ rfl rfl) t2
  have hl := law m0 m1 m2 o0 o1 o2
  have hc := c_wormtublaw06_CaskDays (FW W) m0 p0 k0 h0 m1 m2
  rw [hl] at hc
  exact hc
theorem said_CaskDays (law : LawCaskDays) : Rows.CaskDaysSaid :=
 OpenClaim.holds_of_wide 8 Try.f8 rfl rfl rfl rfl rfl rfl rfl ⟨rfl, rfl, rfl, rfl, rfl⟩ rfl rfl rfl rfl rfl (by kernel_rfl) Try.func8 (by kernel_rfl)
  (of_decide_eq_true (by kernel_rfl)) (by unfold Func.isWrapper; first | (rw [if_pos (by decide +kernel)]; kernel_rfl) | (rw [if_neg (by decide +kernel)]; exact ⟨rfl, rfl⟩))
  (fun os started H enc _ => lifted_CaskDays law os started H enc)
end Go.Proofs.Ytkedjmhhcekmiaa
end

section
namespace Go.Proofs.Ytkedjmhhcekmiaa
open Go.Dec
theorem go_err {day e : Int} : ∀ (l : List Ev) (n : Nat) (s : Cur) (k : Nat), goS day l n s = (.inr e, k) → ∃ q, k = n + q ∧ q < l.length ∧ goS day (l.take (q + 1)) n s = (.inr e, k)
  | [], n, s, k, h => by simp [goS] at h
  | x :: l, n, s, k, h => by
    simp only [goS] at h
    by_cases hx : x.Day ≤ day
    · rw [if_pos hx] at h
      cases hst : stepS n s x with
      | inl s1 =>
        rw [hst] at h
        obtain ⟨q, g1, g2, g3⟩ := go_err l (n + 1) s1 k h
        refine ⟨q + 1, by omega, by simp; omega, ?_⟩
        rw [List.take_succ_cons]
        simp only [goS]
        rw [if_pos hx, hst]; exact g3
      | inr e' =>
        rw [hst] at h
        simp only [Prod.mk.injEq, Sum.inr.injEq] at h
        obtain ⟨rfl, rfl⟩ := h
        refine ⟨0, rfl, by simp, ?_⟩
        simp only [List.take_succ_cons, goS]
        rw [if_pos hx, hst]
    · rw [if_neg hx] at h; cases h
theorem play_err_take {l : List Ev} {day e : Int} {k : Nat} (h : playS l day = (.inr e, k)) (h2 : e ≠ 2) (h3 : e ≠ 3) : k < l.length ∧ playS (l.take (k + 1)) day = (.inr e, k) := by
  unfold playS at h
  split at h
  · simp only [Prod.mk.injEq, Sum.inr.injEq] at h; exact absurd h.1.symm h3
  · rename_i hl
    split at h
    · simp only [Prod.mk.injEq, Sum.inr.injEq] at h; exact absurd h.1.symm h2
    · rename_i hb
      unfold runS at h
      cases hg : goS day l 0 ⟨[], 0⟩ with
      | mk r q =>
        rw [hg] at h
        cases r with
        | inl s' => cases h
        | inr e' =>
          cases h
          obtain ⟨p, g1, g2, g3⟩ := go_err l 0 ⟨[], 0⟩ _ hg
          have : p = k := by omega
          subst this
          refine ⟨g2, ?_⟩
          unfold playS
          rw [if_neg (by simp; omega), if_neg hb]
          unfold runS
          rw [g3]
theorem go_of {day : Int} : ∀ (l : List Ev) (n : Nat) (s s' : Cur), stG n s l = some s' → (∀ x ∈ l, x.Day ≤ day) → goS day l n s = (.inl s', n + l.length)
  | [], n, s, s', h, _ => by simp only [stG, Option.some.injEq] at h; subst h; rfl
  | x :: l, n, s, s', h, hd => by
    simp only [stG] at h
    simp only [goS]
    rw [if_pos (hd x (by simp))]
    cases hst : stepS n s x with
    | inl s1 =>
      rw [hst] at h
      simp only []
      rw [go_of l (n + 1) s1 s' h fun y hy => hd y (List.mem_cons_of_mem _ hy), List.length_cons, show n + 1 + l.length = n + (l.length + 1) by omega]
    | inr e => rw [hst] at h; cases h
theorem play_of {l : List Ev} {day : Int} {s : Cur} (h : stS l = some s) (hd : ∀ x ∈ l, x.Day ≤ day) (h0 : 0 ≤ day) (h1 : day ≤ 65536) (hl : l.length ≤ 4096) : playS l day = (.inl (atS day s), l.length) := by
  unfold playS
  rw [if_neg (by omega), if_neg (by simp [inB]; omega)]
  unfold runS
  rw [go_of l 0 _ s h hd, Nat.zero_add]
theorem at_later {s : Cur} {day to_ : Int} : atS to_ s = (atS day s).map (olderS (to_ - day)) := by
  unfold atS
  rw [List.map_map]
  refine List.map_congr_left fun h _ => ?_
  show _ = olderS _ (olderS _ h)
  rw [older_add, show day - s.last + (to_ - day) = to_ - s.last by omega]
theorem ord_older (d : Int) (l : List Held) : ordS (l.map (olderS d)) = (ordS l).map (olderS d) := by
  have e : numsS (l.map (olderS d)) = numsS l := by
    unfold numsS
    rw [List.map_map]
    have : ((fun x : Held => x.C.Number) ∘ olderS d) = fun x => x.C.Number := funext fun x => older_num
    rw [this]
  unfold ordS
  rw [e, List.map_filterMap]
  congr 1
  funext n
  unfold findH
  rw [find_map (fun h => older_num)]
  cases findS l n with
  | none => rfl
  | some i => simp
theorem take_slice {l : List Ev} {k : Nat} (h : k ≤ l.length) : sliceL l 0 (k : Int) = some (l.take k) := by
  unfold sliceL
  rw [if_pos (by omega)]
  simp
theorem older_C {n : Int} {h : Held} : (olderS n h).C = if 0 < h.C.Amount then { h.C with Age := h.C.Age + n, Woods := updN h.C.Woods h.C.Wood.toNat (h.C.Woods h.C.Wood.toNat + n), Places := updN h.C.Places h.C.Place.toNat (h.C.Places h.C.Place.toNat + n) } else h.C := by
  unfold olderS; split <;> rfl
theorem idxO_bound {x : Int} (h0 : 0 ≤ x) (h1 : x ≤ 7) : idxO 8 x = some x.toNat := by
  have := idxO_nat (n := 8) (i := x.toNat) (by omega)
  rwa [Int.toNat_of_nonneg h0] at this
theorem older_loop {day to_ last : Int} {n : Nat} {A : List Held} {r q : List ApiCask × Int × Int} (hr : r.1 = A.map (·.C)) (hq : q.1 = (A.map (olderS (to_ - day))).map (·.C)) (hok : ∀ h ∈ A, HOk last n h) (hl : last ≤ 65536) (h0 : 0 ≤ day) (hd : day ≤ to_) (h1 : to_ ≤ 65536) (h256 : A.length ≤ 256) :
    loopM (b_wormtublaw06_CaskDays_1 day r to_ q) 0 = some (.inl ()) := by
  obtain ⟨t', _, hloop⟩ := loopM_pre (body := b_wormtublaw06_CaskDays_1 day r to_ q) (fun i (_ : Unit) => (i : Int)) (fun _ => (.inl () : Unit ⊕ Bool)) (fun _ _ => True) A
    (fun pre h post t hl' _ => by
      have hho := hok h (by rw [hl']; simp)
      have hlt := lt_mid hl'
      have hx : r.1[pre.length]? = some h.C := by rw [hr, List.getElem?_map, getEl_mid hl']; rfl
      have hy : q.1[pre.length]? = some (olderS (to_ - day) h).C := by rw [hq, List.getElem?_map, List.getElem?_map, getEl_mid hl']; rfl
      have e1 : decide ((pre.length : Int) < (r.1.length : Int)) = true := decide_eq_true (by rw [hr]; simp; omega)
      have e3 : w64 ((pre.length : Int) + 1) = ((pre.length + 1 : Nat) : Int) := by rw [w64_id (by omega) (by omega)]; rfl
      have hw := hho.wood
      have hp := hho.place
      have hage := hho.age
      have hwk := hho.woods.le h.C.Wood.toNat
      have hpk := hho.places.le h.C.Place.toNat
      have eA : w64 (w64 (h.C.Age + to_) - day) = h.C.Age + (to_ - day) := by
        rw [show w64 (h.C.Age + to_) = h.C.Age + to_ from w64_id (by omega) (by omega), w64_id (by omega) (by omega)]; omega
      have eW : w64 (w64 (h.C.Woods h.C.Wood.toNat + to_) - day) = h.C.Woods h.C.Wood.toNat + (to_ - day) := by
        rw [show w64 (h.C.Woods h.C.Wood.toNat + to_) = h.C.Woods h.C.Wood.toNat + to_ from w64_id (by omega) (by omega), w64_id (by omega) (by omega)]; omega
      have eP : w64 (w64 (h.C.Places h.C.Place.toNat + to_) - day) = h.C.Places h.C.Place.toNat + (to_ - day) := by
        rw [show w64 (h.C.Places h.C.Place.toNat + to_) = h.C.Places h.C.Place.toNat + to_ from w64_id (by omega) (by omega), w64_id (by omega) (by omega)]; omega
      have eb : ((((decide (h.C.Wood < 0)) || (decide (h.C.Wood ≥ 8))) || (decide (h.C.Place < 0))) || (decide (h.C.Place ≥ 8))) = false := by
        rw [decide_eq_false (by omega), decide_eq_false (by omega), decide_eq_false (by omega), decide_eq_false (by omega)]; rfl
      refine ⟨(), ?_, trivial⟩
      unfold b_wormtublaw06_CaskDays_1
      simp only [e1, if_true, idxL_nat, hx, hy, Option.bind_some, eb, Bool.false_eq_true, if_false, bindv, eA, idxO_bound hw.1 hw.2, idxO_bound hp.1 hp.2, eW, eP, e3]
      by_cases ha : 0 < h.C.Amount
      · simp only [older_C, if_pos ha]
        rw [if_pos (decide_eq_true ha)]
        simp only [Option.bind_some, same_refl, Bool.not_true, Bool.false_eq_true, if_false]
      · simp only [older_C, if_neg ha]
        rw [if_neg (by simpa using ha)]
        simp only [Option.bind_some, same_refl, Bool.not_true, Bool.false_eq_true, if_false])
    (fun t ht => by
      unfold b_wormtublaw06_CaskDays_1
      rw [if_neg (by rw [hr]; simp)]) A [] () rfl trivial
  exact hloop
theorem imin_days {day later : Int} (hd : day ≤ 65536) (hl : 0 ≤ later) : day ≤ imin 65536 (day + later) ∧ imin 65536 (day + later) ≤ 65536 := by
  unfold imin; split <;> omega
theorem law_CaskDays : LawCaskDays := fun a0 a1 a2 _ _ hlat => by
  unfold m_wormtublaw06_CaskDays
  by_cases h60 : (a0.length : Int) > 60
  · rw [if_pos (by simpa using h60), awake_true]; rfl
  · rw [if_neg (by simpa using h60)]
    have hlen : a0.length ≤ 60 := by omega
    refine bind_of (Play_prog _ _) ?_
    cases hp : playS a0 a1 with
    | mk r k =>
      have hk := play_le hp
      have e1 : (decide ((k : Int) < 0) || decide ((k : Int) > (a0.length : Int))) = false := by
        rw [decide_eq_false (by omega), decide_eq_false (by omega)]; rfl
      cases r with
      | inr e =>
        have he := playS_err hp
        have hA : allS' a0 a1 = ([], (k : Int), e) := by unfold allS'; rw [hp]
        rw [hA]
        simp only [e1, Bool.false_eq_true, if_false]
        by_cases h23 : e = 3 ∨ e = 2
        · have : (e == 3 || e == 2) = true := by rcases h23 with h | h <;> simp [h]
          simp only [this, if_true, awake_true]; rfl
        · have h3 : e ≠ 3 := fun h => h23 (.inl h)
          have h2 : e ≠ 2 := fun h => h23 (.inr h)
          have : (e == 3 || e == 2) = false := by simp [h3, h2]
          obtain ⟨hk', hpt⟩ := play_err_take hp h2 h3
          have hB : allS' (a0.take (k + 1)) a1 = ([], (k : Int), e) := by unfold allS'; rw [hpt]
          have e0 : (e != 0) = true := by simpa using he
          have e2 : ((k : Int) == (a0.length : Int)) = false := by rw [beq_eq_false_iff_ne]; omega
          have e3 : w64 ((k : Int) + 1) = ((k + 1 : Nat) : Int) := by rw [w64_id (by omega) (by omega)]; rfl
          simp only [this, Bool.false_eq_true, if_false, e0, if_true, e2, e3]
          rw [take_slice (by omega), Option.bind_some, Play_prog, Option.bind_some, hB]
          simp [awake_true]
      | inl all =>
        have hA : allS' a0 a1 = ((ordS all).map (·.C), (k : Int), 0) := by unfold allS'; rw [hp]
        obtain ⟨hok, _, hd0, hd1⟩ := playS_ok hp
        obtain ⟨s, hall, hst, hsl, _, hdays, _⟩ := play_st hp
        have hlk : (a0.take k).length = k := by simp; omega
        have hw := wf_u8 hlat
        have hS := Same_self
        have hP := Play_prog
        rw [hA]
        have e0 : ((0 : Int) != 0) = false := rfl
        have e4 : ((0 : Int) == 3 || (0 : Int) == 2) = false := rfl
        simp only [e4, Bool.false_eq_true, if_false, e1, e0]
        have p1 := play_of hst hdays hd0 hd1 (by omega)
        rw [hlk] at p1
        have hB : allS' (a0.take k) a1 = ((ordS all).map (·.C), (k : Int), 0) := by unfold allS'; rw [p1, ← hall]
        have ew : w64 a2 = a2 := w64_id (by omega) (by omega)
        have ed : w64 (a1 + a2) = a1 + a2 := w64_id (by omega) (by omega)
        obtain ⟨t0, t1⟩ := imin_days (later := a2) hd1 hw.1
        generalize hto : imin 65536 (a1 + a2) = to_ at *
        have p2 := play_of (day := to_) hst (fun x hx => by have := hdays x hx; omega) (by omega) t1 (by omega)
        rw [hlk] at p2
        have hC : allS' (a0.take k) to_ = (((ordS all).map (olderS (to_ - a1))).map (·.C), (k : Int), 0) := by
          unfold allS'; rw [p2, at_later (day := a1), ← hall]
          simp only [ord_older]
        have hol : (ordS all).length ≤ 256 := by rw [ord_len hok]; exact hok.few
        rw [take_slice hk, Option.bind_some, hP, Option.bind_some, hB]
        have e5 : ((k : Int) != (k : Int)) = false := by simp
        simp only [e5, Bool.or_self, Bool.false_eq_true, if_false, e0]
        rw [hS _ (by simp; omega)]
        simp only [Option.bind_some, Bool.not_true, Bool.false_eq_true, if_false, bindv, ew, ed, hto]
        rw [hP, Option.bind_some, hC]
        have e6 : (((((ordS all).map (olderS (to_ - a1))).map (·.C)).length : Int) != (((ordS all).map (·.C)).length : Int)) = false := by simp
        simp only [e5, e6, e0, Bool.or_self, Bool.false_eq_true, if_false]
        rw [older_loop (A := ordS all) (last := a1) rfl rfl (fun h hh => hok.each h ((ord_perm hok).mem_iff.1 hh)) hd1 hd0 t0 t1 hol]
        simp [awake_true]
theorem caskDays_holds : Rows.CaskDaysSaid := said_CaskDays law_CaskDays
end Go.Proofs.Ytkedjmhhcekmiaa
end
