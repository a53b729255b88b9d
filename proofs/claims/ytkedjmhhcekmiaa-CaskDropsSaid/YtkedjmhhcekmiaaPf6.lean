/- Own texts and texts printed by a program of mine, for caskDrops_holds; only what it reaches. -/
import Derived.Test.YtkedjmhhcekmiaaPf5
import Derived.Test.YtkedjmhhcekmiaaRows
section
namespace Go.Proofs.Ytkedjmhhcekmiaa
open Go.Dec
theorem pour_prog {A1 : List CaskCask} {A3 : FM} {k j : Nat} {c : CaskCask} {h so : Held} {lj : List (Int × Bool)} {tm : CaskTimes} {n : Int} (hc : A1[k]? = some c) (hraw : h = rawOf c h.Fills) (hamt : 0 ≤ c.amount ∧ c.amount ≤ 1099511627776) (hn : 0 ≤ n ∧ n ≤ 1099511627776) (hfr : FR A3 c.fills h.Fills) (hne : 0 < c.amount → h.Fills ≠ [])
    (hj : A3[j]? = some lj) (hjn : (lj.map Prod.fst).Nodup) (hjF : ∀ x, x ∈ so.Fills ↔ x ∈ lj.map Prod.fst) (hq : c.fills ≠ some j) (ht : so.C.Age = tm.age ∧ so.C.Woods = tm.woods ∧ so.C.Places = tm.places) :
    ∃ c' A3', m_cask_cask_pour A1 A3 (some k) tm (some j) n = some (A1.set k c', A3') ∧ c'.number = c.number ∧ c'.since = c.since ∧ pourS h so n = rawOf c' (pourS h so n).Fills ∧ FR A3' c'.fills (pourS h so n).Fills ∧
      (∀ (q : Nat) lq, A3[q]? = some lq → c.fills ≠ some q → A3'[q]? = some lq) ∧ (c'.fills = c.fills ∨ c'.fills = some A3.length) := by
  have hk := (List.getElem?_eq_some_iff.1 hc).1
  have hca : h.C.Amount = c.amount := by rw [hraw]; rfl
  have hw : w64 (c.amount + n) = c.amount + n := w64_id (by omega) (by omega)
  unfold m_cask_cask_pour
  simp only [Option.bind_some, hc]
  by_cases e : (c.amount == 0) = true
  · have e' : (h.C.Amount == 0) = true := by rw [hca]; exact e
    refine ⟨{ c with times := tm, fills := some A3.length, amount := c.amount + n }, A3 ++ [lj], ?_, rfl, rfl, ?_, ?_, fun q lq h1 _ => ?_, .inr rfl⟩
    · simp only [e, if_true, m_maps_Clone_bool, cloneM, hj, Option.bind_some, bindv, List.set_set, List.getElem?_set_self hk, hw]
    · unfold pourS
      rw [if_pos e']
      rw [hraw]
      simp only [ht.1, ht.2.1, ht.2.2]
      rfl
    · unfold pourS
      rw [if_pos e']
      exact ⟨lj, by simp, hjn, hjF⟩
    · have := (List.getElem?_eq_some_iff.1 h1).1
      rw [List.getElem?_append_left this]; exact h1
  · have hpos : 0 < c.amount := by
      have : c.amount ≠ 0 := fun e0 => e (by simp [e0])
      omega
    have e' : ¬ (h.C.Amount == 0) = true := by rw [hca]; exact e
    cases hf : c.fills with
    | none => rw [hf] at hfr; exact absurd hfr (hne hpos)
    | some q =>
      rw [hf] at hfr
      obtain ⟨lq, hlq, hqn, hqF⟩ := hfr
      have hqj : q ≠ j := fun e0 => hq (by rw [hf, e0])
      have hql := (List.getElem?_eq_some_iff.1 hlq).1
      refine ⟨{ c with times := ⟨imin c.times.age tm.age, minN c.times.woods tm.woods, minN c.times.places tm.places⟩, amount := c.amount + n }, A3.set q (copyF lq lj), ?_, rfl, rfl, ?_, ?_, fun q' lq' h1 h2 => ?_, .inl hf⟩
      · simp only [e, if_false, Bool.false_eq_true, least_doc, Option.bind_some, bindv, hf, copy_prog hqj hlq hj hqn hjn, List.getElem?_set_self hk, List.set_set, hw]
      · unfold pourS
        rw [if_neg e']
        have h1 : h.C.Age = c.times.age := by rw [hraw]; rfl
        have h2 : h.C.Woods = c.times.woods := by rw [hraw]; rfl
        have h3 : h.C.Places = c.times.places := by rw [hraw]; rfl
        simp only [ht.1, ht.2.1, ht.2.2, h1, h2, h3]
        conv => lhs; rw [hraw]
        rfl
      · unfold pourS
        rw [if_neg e']
        show FR _ c.fills (uniS h.Fills so.Fills)
        rw [hf]
        refine ⟨copyF lq lj, List.getElem?_set_self hql, copy_nodup hqn, fun x => ?_⟩
        rw [mem_uniS, mem_copy, hqF, hjF]
      · rw [List.getElem?_set_ne (fun e0 => h2 (by rw [e0]))]; exact h1
section
variable {t : Int} {n : Nat} {all : List Held} {A1 : List CaskCask} {A3 : FM} {m : List (Int × Option Nat)} {b : CaskBook} {x : Ev}
theorem fr_lt {A3 : FM} {q : Nat} {F : List Int} (h : FR A3 (some q) F) : q < A3.length := by
  obtain ⟨l, h1, _⟩ := h; exact (List.getElem?_eq_some_iff.1 h1).1
theorem fill_prog (r : PR t n all A1 A3 m) (ho : AOk t n all) (h0 : 0 ≤ t) (ht : t ≤ 65536) (hb : b.casks = some 0) (hbe : b.event = n) (hv : evB x = true) (hk : x.Kind = 1) (hd : x.Day = t) : Does t n (doS all x n) (m_cask_book_fill A1 [b] A3 [m] (some 0) x) := by
  unfold m_cask_book_fill doS
  rw [if_neg (by rw [hk]; decide), hd]
  rcases find_prog (num := x.Cask) r (by omega) hb with ⟨hf, hm⟩ | ⟨k, h, c, hf, hh, hnum, hr, hc, hs, hraw, hok, hm⟩
  · rw [hf, hm]; exact ⟨rfl, by decide⟩
  · rw [hf, hm]
    simp only [hh, bindX, Option.bind_some, hc, bindv]
    have hact : actS all k h x n = fillD all k h x n := by unfold actS; rw [hk]; rfl
    rw [hact]
    have hcr := hr.each k c h hc hh
    have hca : h.C.Amount = c.amount := by rw [hraw]; rfl
    have hcro : h.C.Room = c.room := by rw [hraw]; rfl
    have hamt := hok.amt
    have hroom := hok.room
    rw [hca, hcro] at hamt
    rw [hcro] at hroom
    have ha := evAmt hv (.inl hk)
    have hw : w64 (c.amount + x.Amount) = c.amount + x.Amount := w64_id (by omega) (by omega)
    have hokd := fun l' (hl' : fillD all k h x n = .inl l') => fill_ok ho h0 hh ha.1 hl'
    unfold fillD at hokd ⊢
    rw [hca, hcro] at hokd ⊢
    rw [hw]
    by_cases h1 : c.amount + x.Amount > c.room
    · have e : decide (c.amount + x.Amount ≤ c.room) = false := decide_eq_false (by omega)
      simp only [h1, e, if_true]
      exact ⟨rfl, by decide⟩
    · have e : decide (c.amount + x.Amount ≤ c.room) = true := decide_eq_true (by omega)
      simp only [h1, if_false] at hokd
      simp only [h1, e, if_false]
      have hnew := hokd _ rfl
      have hql : ∀ q, c.fills = some q → q < A3.length := fun q hq => fr_lt (by rw [← hq]; exact hcr.fills)
      have hfr' : FR (A3 ++ [[((n : Int), true)]]) c.fills h.Fills := hcr.fills.keep fun q hq => List.getElem?_append_left (hql q hq)
      obtain ⟨c', A3', hp, hp1, hp2, hp3, hp4, hp5, hp6⟩ := pour_prog (A3 := A3 ++ [[((n : Int), true)]]) (j := A3.length) (lj := [((n : Int), true)]) (so := fillS n) (tm := ⟨0, zN, zN⟩) (n := x.Amount) hc hraw (by omega) (by omega) hfr' (fun hp => by rw [← hca] at hp; exact hok.some hp)
        (by simp) (by simp) (fun y => by simp [fillS]) (fun e => by have := hql _ e; omega) ⟨rfl, rfl, rfl⟩
      have hmod : m_cask_cask_pour (A1.set k c) (A3 ++ [mapSet [] b.event true]) (some k) (CaskTimes.mk 0 (fun _ => 0) (fun _ => 0)) (some A3.length) x.Amount = some ((A1.set k c).set k c', A3') := by rw [hbe]; exact hp
      have hmem : pourS h (fillS n) x.Amount ∈ all.set k (pourS h (fillS n) x.Amount) := List.mem_of_getElem? (List.getElem?_set_self (List.getElem?_eq_some_iff.1 hh).1)
      have hho := hnew.each _ hmem
      have hres : Does t n (.inl (all.set k (pourS h (fillS n) x.Amount))) (some (.ok ((A1.set k c).set k c', A3', [m]))) := by
        refine ⟨_, _, _, rfl, ?_⟩
        refine hr.set hc hh hp1 ?_ (fun i ci hi hne h1 h2 => ?_) (fun i ci q hne h1 h2 h3 => ?_)
        · rw [hp3]
          refine CR.of_raw h0 (by rw [hp2]; exact hs) (by rw [← hp3]; exact hho) ?_
          exact hp4
        · have hci := (hr.each i ci hi h1 h2).up
          refine ⟨hci.since, hci.ok, hci.eq, hci.fills.keep fun q hq => ?_⟩
          have hq2 := hci.fills
          rw [hq] at hq2
          obtain ⟨lq, g1, _⟩ := hq2
          have hql2 := (List.getElem?_eq_some_iff.1 g1).1
          rw [g1]
          exact hp5 q lq (by rw [List.getElem?_append_left hql2]; exact g1) (fun e => hne (hr.apart i k ci c q h1 hc hq e))
        · have hci := (hr.each i ci _ h1 (List.getElem?_eq_getElem (show i < all.length by rw [← hr.len]; exact (List.getElem?_eq_some_iff.1 h1).1))).fills
          rw [h2] at hci
          have := fr_lt hci
          rcases hp6 with hp6 | hp6
          · rw [hp6] at h3; exact hne (hr.apart i k ci c q h1 hc h2 h3)
          · rw [hp6] at h3
            simp only [Option.some.injEq, List.length_append, List.length_cons, List.length_nil] at h3
            omega
      show Does t n _ ((m_cask_cask_pour (A1.set k c) (A3 ++ [mapSet [] b.event true]) (some k) (CaskTimes.mk 0 (fun _ => 0) (fun _ => 0)) (some A3.length) x.Amount).bind fun r_106 => some (.ok (r_106.1, r_106.2, [m])))
      rw [hmod, Option.bind_some]
      exact hres
theorem rack_prog (r : PR t n all A1 A3 m) (ho : AOk t n all) (h0 : 0 ≤ t) (ht : t ≤ 65536) (hb : b.casks = some 0) (hv : evB x = true) (hk : x.Kind = 2) (hd : x.Day = t) : Does t n (doS all x n) (m_cask_book_rack A1 [b] A3 [m] (some 0) x) := by
  unfold m_cask_book_rack doS
  rw [if_neg (by rw [hk]; decide), hd]
  rcases find_prog (num := x.Cask) r (by omega) hb with ⟨hf, hm⟩ | ⟨i, h, c, hf, hh, hnum, hr, hc, hs, hraw, hok, hm⟩
  · rw [hf, hm]; exact ⟨rfl, by decide⟩
  · rw [hf, hm]
    have hact : actS all i h x n = rackD all i h x := by unfold actS; rw [hk]; rfl
    simp only [hh, hact]
    have hokd := fun l' (ha : 1 ≤ x.Amount) (hl' : rackD all i h x = .inl l') => rack_ok ho h0 hh ha hl'
    have ha := evAmt hv (.inr (.inl hk))
    have hokd := fun l' => hokd l' ha.1
    unfold rackD at hokd ⊢
    simp only [bindX]
    rcases find_prog (num := x.Other) hr (by omega) hb with ⟨hf2, hm2⟩ | ⟨k, ho2, o, hf2, hho, hnum2, hr2, hoc, hos, horaw, hook, hm2⟩
    · rw [hf2, hm2]; exact ⟨rfl, by decide⟩
    · rw [hf2, hm2]
      rw [hf2] at hokd
      simp only [hho] at hokd ⊢
      have hil : i < A1.length := by have := (List.getElem?_eq_some_iff.1 hc).1; simpa using this
      by_cases hik : i = k
      ·
        subst hik
        have hc2 : ((A1.set i c).set i o)[i]? = some o := hoc
        simp only [Option.bind_some, hc2]
        have e1 : (i != i) = false := by simp
        have e2 : (i == i) = true := by simp
        unfold rackD2
        simp only [e1, e2, if_true]
        exact ⟨rfl, by decide⟩
      · have hc2 : ((A1.set i c).set k o)[i]? = some c := by rw [List.getElem?_set_ne (fun e => hik e.symm)]; exact hc
        simp only [Option.bind_some, hc2, hoc]
        have e1 : (i != k) = true := by simpa using hik
        have e2 : (i == k) = false := by simpa using hik
        have hcr := hr2.each i c h hc2 hh
        have hor := hr2.each k o ho2 hoc hho
        have a1 : h.C.Owner = c.owner := by rw [hraw]; rfl
        have a2 : h.C.Creditor = c.creditor := by rw [hraw]; rfl
        have a3 : h.C.Amount = c.amount := by rw [hraw]; rfl
        have b1 : ho2.C.Owner = o.owner := by rw [horaw]; rfl
        have b2 : ho2.C.Creditor = o.creditor := by rw [horaw]; rfl
        have b3 : ho2.C.Amount = o.amount := by rw [horaw]; rfl
        have b4 : ho2.C.Room = o.room := by rw [horaw]; rfl
        have camt := hok.amt
        have croom := hok.room
        have ccred := hok.cred
        have oamt := hook.amt
        have oroom := hook.room
        have ocred := hook.cred
        rw [a2] at ccred; rw [b2] at ocred; rw [b3, b4] at oamt; rw [b4] at oroom; rw [a3] at camt
        unfold rackD2 at hokd ⊢
        rw [a1, a2, a3, b1, b2, b3, b4] at hokd ⊢
        simp only [e1, e2, Bool.false_eq_true, if_false, creq ccred.1, creq ocred.1] at hokd ⊢
        have n11 : m_cask_need false 11 = some (.pan ⟨11⟩) := rfl
        have n0 : ∀ e, m_cask_need true e = some (.ok ()) := fun _ => rfl
        have nf : ∀ e, m_cask_need false e = some (.pan ⟨e⟩) := fun _ => rfl
        by_cases c1 : c.owner = o.owner
        · have f1 : (c.owner == o.owner) = true := by simpa using c1
          have f2 : (c.owner != o.owner) = false := by simpa using c1
          simp only [f1, f2, if_true, Bool.false_or, n0] at hokd ⊢
          by_cases c2 : c.creditor ≥ 0
          · simp only [c2, decide_true, Bool.not_true, Bool.true_or, if_true, Bool.false_eq_true, if_false, nf, Option.bind_some]
            exact ⟨rfl, by decide⟩
          · simp only [c2, decide_false, Bool.not_false, Bool.false_or, if_true] at hokd ⊢
            by_cases c3 : o.creditor ≥ 0
            · simp only [c3, decide_true, Bool.not_true, if_true, nf, Option.bind_some]
              exact ⟨rfl, by decide⟩
            · simp only [c3, decide_false, Bool.not_false, n0, Option.bind_some, Bool.false_eq_true, if_false] at hokd ⊢
              by_cases c4 : c.amount < x.Amount
              · have g1 : decide (c.amount ≥ x.Amount) = false := decide_eq_false (by omega)
                simp only [c4, g1, if_true, nf]
                exact ⟨rfl, by decide⟩
              · have g1 : decide (c.amount ≥ x.Amount) = true := decide_eq_true (by omega)
                simp only [c4, g1, if_false, n0] at hokd ⊢
                have hw : w64 (o.amount + x.Amount) = o.amount + x.Amount := w64_id (by omega) (by omega)
                rw [hw]
                by_cases c5 : o.amount + x.Amount > o.room
                · have g2 : decide (o.amount + x.Amount ≤ o.room) = false := decide_eq_false (by omega)
                  simp only [c5, g2, if_true, nf]
                  exact ⟨rfl, by decide⟩
                · have g2 : decide (o.amount + x.Amount ≤ o.room) = true := decide_eq_true (by omega)
                  simp only [c5, g2, if_false, n0] at hokd ⊢
                  have hnew := hokd _ rfl
                  have hcf := hcr.fills
                  cases hfc : c.fills with
                  | none =>
                    rw [hfc] at hcf
                    exact absurd hcf (hok.some (by rw [a3]; omega))
                  | some j =>
                    rw [hfc] at hcf
                    obtain ⟨lj, hj, hjn, hjF⟩ := hcf
                    obtain ⟨o', A3', hp, hp1, hp2, hp3, hp4, hp5, hp6⟩ := pour_prog (A3 := A3) (j := j) (lj := lj) (so := h) (tm := c.times) (n := x.Amount) hoc horaw (by omega) (by omega) hor.fills (fun hp => by rw [← b3] at hp; exact hook.some hp)
                      hj hjn hjF (fun e => hik (hr2.apart i k c o j hc2 hoc hfc e)) ⟨by rw [hraw]; rfl, by rw [hraw]; rfl, by rw [hraw]; rfl⟩
                    have hc3 : (((A1.set i c).set k o).set k o')[i]? = some c := by rw [List.getElem?_set_ne (fun e => hik e.symm)]; exact hc2
                    rw [hp, Option.bind_some]
                    simp only
                    rw [draw_prog hc3 (by omega) (by omega), Option.bind_some]
                    have hjl : j < A3.length := (List.getElem?_eq_some_iff.1 hj).1
                    have hkall := (List.getElem?_eq_some_iff.1 hho).1
                    have hmem : pourS ho2 h x.Amount ∈ (all.set k (pourS ho2 h x.Amount)).set i (lessS h x.Amount) := List.mem_of_getElem? (i := k) (by rw [List.getElem?_set_ne hik]; exact List.getElem?_set_self hkall)
                    have hho' := hnew.each _ hmem
                    have hlmem : lessS h x.Amount ∈ (all.set k (pourS ho2 h x.Amount)).set i (lessS h x.Amount) := List.mem_of_getElem? (i := i) (List.getElem?_set_self (by simpa using (List.getElem?_eq_some_iff.1 hh).1))
                    have hlok := hnew.each _ hlmem
                    have hpr : PR t (n + 1) (all.set k (pourS ho2 h x.Amount)) (((A1.set i c).set k o).set k o') A3' m := by
                      refine hr2.set hoc hho hp1 ?_ (fun i' ci hi hne h1 h2 => ?_) (fun i' ci q hne h1 h2 h3 => ?_)
                      · rw [hp3]
                        refine CR.of_raw h0 (by rw [hp2]; exact hos) (by rw [← hp3]; exact hho') ?_
                        exact hp4
                      · have hci := (hr2.each i' ci hi h1 h2).up
                        refine ⟨hci.since, hci.ok, hci.eq, hci.fills.keep fun q hq => ?_⟩
                        have hq2 := hci.fills
                        rw [hq] at hq2
                        obtain ⟨lq, g1', _⟩ := hq2
                        rw [g1']
                        exact hp5 q lq g1' (fun e => hne (hr2.apart i' k ci o q h1 hoc hq e))
                      · have hci := (hr2.each i' ci _ h1 (List.getElem?_eq_getElem (show i' < all.length by rw [← hr2.len]; exact (List.getElem?_eq_some_iff.1 h1).1))).fills
                        rw [h2] at hci
                        have hlt := fr_lt hci
                        rcases hp6 with hp6 | hp6
                        · rw [hp6] at h3; exact hne (hr2.apart i' k ci o q h1 hoc h2 h3)
                        · rw [hp6] at h3
                          simp only [Option.some.injEq] at h3
                          omega
                    refine ⟨_, _, _, rfl, ?_⟩
                    have hh3 : (all.set k (pourS ho2 h x.Amount))[i]? = some h := by rw [List.getElem?_set_ne (fun e => hik e.symm)]; exact hh
                    have hcr3 := hpr.each i c h hc3 hh3
                    have hls : lessS h x.Amount = rawOf (drawC c x.Amount) (lessS (rawOf c h.Fills) x.Amount).Fills := by rw [← raw_draw, ← hraw]
                    refine hpr.set hc3 hh3 draw_number ?_ (fun i' ci hi _ h1 h2 => hpr.each i' ci hi h1 h2) (fun i' ci q hne h1 h2 h3 => ?_)
                    · rw [hls]
                      refine CR.of_raw h0 (by rw [draw_since]; exact hs) (by rw [← hls]; exact hlok) (draw_FR hcr3.fills)
                    · rcases draw_fills (c := c) (n := x.Amount) with e | e
                      · rw [e] at h3; exact hne (hpr.apart i' i ci c q h1 hc3 h2 h3)
                      · rw [e] at h3; cases h3
        · have f1 : (c.owner == o.owner) = false := by simpa using c1
          have f2 : (c.owner != o.owner) = true := by simpa using c1
          simp only [f1, f2, if_true, Bool.true_or, Bool.false_eq_true, if_false, n0, nf, Option.bind_some]
          exact ⟨rfl, by decide⟩
end
end Go.Proofs.Ytkedjmhhcekmiaa
end

section
namespace Go.Proofs.Ytkedjmhhcekmiaa
open Go.Dec
theorem Event_prog (x : Ev) : m_cask_isEvent x = some (evB x) := by
  rw [← Event_doc]; rfl
abbrev Deed := ((List CaskCask) × (List CaskBook) × FM × (List (List (Int × (Option Nat)))) × (Option Nat) × Ev) → Option (Out CaskMisfit ((List CaskCask) × FM × (List (List (Int × (Option Nat))))))
theorem deeds_some : ∃ D : List (Int × Deed), m_cask_deeds = some D ∧ ∀ (x : Ev), evB x = true → ∃ f, mapGet D x.Kind = some f ∧
    ∀ {t : Int} {n : Nat} {all : List Held} {A1 : List CaskCask} {A3 : FM} {m : List (Int × Option Nat)} {b : CaskBook}, PR t n all A1 A3 m → AOk t n all → 0 ≤ t → t ≤ 65536 → b.casks = some 0 → b.event = n → x.Day = t → Does t n (doS all x n) (f (A1, [b], A3, [m], some 0, x)) := by
  refine ⟨_, rfl, fun x hv => ?_⟩
  rcases kinds hv with k | k | k | k | k | k | k | k | k <;> rw [k]
  · exact ⟨_, rfl, fun r ho h0 ht hb _ hd => build_prog r ho h0 hb hv k hd⟩
  · exact ⟨_, rfl, fun r ho h0 ht hb hbe hd => fill_prog r ho h0 ht hb hbe hv k hd⟩
  · exact ⟨_, rfl, fun r ho h0 ht hb _ hd => rack_prog r ho h0 ht hb hv k hd⟩
  · exact ⟨_, rfl, fun r _ h0 ht hb _ hd => drain_prog r h0 ht hb hv k hd⟩
  · exact ⟨_, rfl, fun r _ h0 ht hb _ hd => carry_prog r h0 ht hb hv k hd⟩
  · exact ⟨_, rfl, fun r _ h0 ht hb _ hd => sell_prog r h0 ht hb hv k hd⟩
  · exact ⟨_, rfl, fun r _ h0 ht hb _ hd => pledge_prog r h0 ht hb hv k hd⟩
  · exact ⟨_, rfl, fun r _ h0 ht hb _ hd => free_prog r h0 ht hb hv k hd⟩
  · exact ⟨_, rfl, fun r _ h0 ht hb _ hd => char_prog r h0 ht hb hv k hd⟩
section
variable {D : List (Int × Deed)}
def DeedsOK (D : List (Int × Deed)) : Prop := ∀ (x : Ev), evB x = true → ∃ f, mapGet D x.Kind = some f ∧
    ∀ {t : Int} {n : Nat} {all : List Held} {A1 : List CaskCask} {A3 : FM} {m : List (Int × Option Nat)} {b : CaskBook}, PR t n all A1 A3 m → AOk t n all → 0 ≤ t → t ≤ 65536 → b.casks = some 0 → b.event = n → x.Day = t → Does t n (doS all x n) (f (A1, [b], A3, [m], some 0, x))
theorem step_prog (hD : DeedsOK D) {l : List Ev} {day : Int} {n : Nat} {s : Cur} {x : Ev} {A1 : List CaskCask} {A3 : FM} {m : List (Int × Option Nat)} {b : CaskBook} (hx : l[n]? = some x) (hn : n ≤ 4096) (ho : SOk n s) (hr : PR s.last n s.all A1 A3 m) (hb : b.casks = some 0) (hd : x.Day ≤ day) :
    match stepS n s x with
    | .inl s' => ∃ A1' A3' m', b_cask_play_1 l day D ((n : Int), s.last, A1, [b], A3, [m]) = some (.next (((n + 1 : Nat) : Int), s'.last, A1', [⟨some 0, n⟩], A3', [m'])) ∧ PR s'.last (n + 1) s'.all A1' A3' m'
    | .inr e => b_cask_play_1 l day D ((n : Int), s.last, A1, [b], A3, [m]) = some (.done (.inr (⟨e⟩, (n : Int), 0, some 0))) ∧ e ≠ 0 := by
  have hnl : n < l.length := (List.getElem?_eq_some_iff.1 hx).1
  have hw : w64 ((n : Int) + 1) = ((n + 1 : Nat) : Int) := by rw [w64_id (by omega) (by omega)]; rfl
  have h1 : decide ((n : Int) < (l.length : Int)) = true := decide_eq_true (by omega)
  have nt : ∀ e, m_cask_need true e = some (.ok ()) := fun _ => rfl
  have nf : ∀ e, m_cask_need false e = some (.pan ⟨e⟩) := fun _ => rfl
  unfold b_cask_play_1 stepS
  simp only [h1, if_true, idxL_nat, hx, Option.bind_some, hd, decide_true, Event_prog]
  cases hv : evB x with
  | false =>
    simp only [Bool.not_false, if_true, nf, bindX]
    exact ⟨trivial, by decide⟩
  | true =>
    simp only [Bool.not_true, Bool.false_eq_true, if_false, nt, bindX]
    by_cases hlt : x.Day < s.last
    · have e : decide (x.Day ≥ s.last) = false := decide_eq_false (by omega)
      simp only [hlt, e, if_true, nf]
      exact ⟨trivial, by decide⟩
    · have e : decide (x.Day ≥ s.last) = true := decide_eq_true (by omega)
      simp only [hlt, e, if_false, nt]
      have hday := evD hv
      have hsd := ho.day
      obtain ⟨f, hf, hdo⟩ := hD x hv
      have hok := older_all ho.ok (n := x.Day - s.last) (by omega)
      have e0 : s.last + (x.Day - s.last) = x.Day := by omega
      rw [e0] at hok
      have hdoes := hdo (b := ⟨some 0, (n : Int)⟩) (hr.shift (t' := x.Day) (by omega)) hok hday.1 hday.2 rfl rfl rfl
      have hbk : ({ b with event := (n : Int) } : CaskBook) = ⟨some 0, n⟩ := by rw [← hb]
      simp only [List.getElem?_cons_zero, Option.bind_some, bindv, List.set_cons_zero, hbk, hf]
      cases hds : doS (s.all.map (olderS (x.Day - s.last))) x n with
      | inl all' =>
        rw [hds] at hdoes
        obtain ⟨A1', A3', m', h2, h3⟩ := hdoes
        rw [h2]
        simp only [hw]
        exact ⟨A1', A3', m', rfl, h3⟩
      | inr er =>
        rw [hds] at hdoes
        obtain ⟨h2, h3⟩ := hdoes
        rw [h2]
        exact ⟨rfl, h3⟩
theorem stop_prog {l : List Ev} {day : Int} {n : Nat} {last : Int} {A1 : List CaskCask} {A2 : List CaskBook} {A3 : FM} {A4 : List (List (Int × Option Nat))} (h : ∀ x, l[n]? = some x → ¬ x.Day ≤ day) (hn : n ≤ l.length) :
    b_cask_play_1 l day D ((n : Int), last, A1, A2, A3, A4) = some (.done (.inl ((n : Int), A1, A2, A3, A4))) := by
  unfold b_cask_play_1
  cases hx : l[n]? with
  | none =>
    have : ¬ (n : Int) < (l.length : Int) := by
      have := List.getElem?_eq_none_iff.1 hx; omega
    simp [this]
  | some x =>
    have hnl : n < l.length := (List.getElem?_eq_some_iff.1 hx).1
    have h1 : decide ((n : Int) < (l.length : Int)) = true := decide_eq_true (by omega)
    have h2 : decide (x.Day ≤ day) = false := decide_eq_false (h x hx)
    simp only [h1, if_true, idxL_nat, hx, Option.bind_some, h2, Bool.false_eq_true, if_false]
theorem loop_prog (hD : DeedsOK D) {l : List Ev} {day : Int} (hl : l.length ≤ 4096) : ∀ (post pre : List Ev) (s : Cur) (A1 : List CaskCask) (A3 : FM) (m : List (Int × Option Nat)) (b : CaskBook), l = pre ++ post → SOk pre.length s → PR s.last pre.length s.all A1 A3 m → b.casks = some 0 →
    match goS day post pre.length s with
    | (.inl s', k) => ∃ A1' A3' m' b', loopM (b_cask_play_1 l day D) ((pre.length : Int), s.last, A1, [b], A3, [m]) = some (.inl ((k : Int), A1', [b'], A3', [m'])) ∧ PR s'.last k s'.all A1' A3' m' ∧ b'.casks = some 0
    | (.inr e, k) => loopM (b_cask_play_1 l day D) ((pre.length : Int), s.last, A1, [b], A3, [m]) = some (.inr (⟨e⟩, (k : Int), 0, some 0)) ∧ e ≠ 0
  | [], pre, s, A1, A3, m, b, e, ho, hr, hb => by
    simp only [goS]
    refine ⟨A1, A3, m, b, ?_, hr, hb⟩
    rw [loopM_eq, stop_prog (fun x hx => by rw [e] at hx; simp at hx) (by rw [e]; simp)]
  | x :: post, pre, s, A1, A3, m, b, e, ho, hr, hb => by
    have hx : l[pre.length]? = some x := getEl_mid e
    have hn : pre.length ≤ 4096 := by have := lt_mid e; omega
    rw [loopM_eq]
    by_cases hd : x.Day ≤ day
    · have hst := step_prog hD hx hn ho hr hb hd
      simp only [goS, hd, if_true]
      cases hs : stepS pre.length s x with
      | inl s' =>
        rw [hs] at hst
        obtain ⟨A1', A3', m', h1, h2⟩ := hst
        rw [h1]
        have ih := loop_prog hD (day := day) hl post (pre ++ [x]) s' A1' A3' m' ⟨some 0, (pre.length : Int)⟩ (by rw [e]; simp) (by simpa using (step_ok ho hs).1) (by simpa using h2) rfl
        simpa using ih
      | inr er =>
        rw [hs] at hst
        rw [hst.1]
        exact ⟨rfl, hst.2⟩
    · rw [stop_prog (fun y hy => by rw [hx] at hy; cases hy; exact hd) (by have := lt_mid e; omega)]
      simp only [goS, hd, if_false]
      exact ⟨A1, A3, m, b, rfl, hr, hb⟩
end
end Go.Proofs.Ytkedjmhhcekmiaa
end

section
namespace Go.Proofs.Ytkedjmhhcekmiaa
open Go.Dec
section
variable {t day : Int} {n : Nat} {all : List Held} {A1 : List CaskCask} {A3 : FM} {m : List (Int × Option Nat)}
theorem forL_rest (hday : day ≤ 1000000) (hok : ∀ (k : Nat) (c : CaskCask), A1[k]? = some c → 0 ≤ c.since ∧ c.since ≤ day ∧ ∃ F, HOk c.since n (rawOf c F)) : ∀ (L : List (Int × Option Nat)) (s : List CaskCask), (∀ e ∈ L, ∃ k, e.2 = some k ∧ k < A1.length) → (L.map Prod.snd).Nodup → s.length = A1.length → (∀ k, some k ∈ L.map Prod.snd → s[k]? = A1[k]?) →
    ∃ s', forL (b_cask_play_2 day) L s = some s' ∧ s'.length = A1.length ∧ ∀ i : Nat, s'[i]? = if some i ∈ L.map Prod.snd then (A1[i]?).map (restC day) else s[i]?
  | [], s, _, _, hl, _ => ⟨s, rfl, hl, fun i => by simp⟩
  | e :: L, s, hE, hN, hl, hs => by
    obtain ⟨k, hk, hkl⟩ := hE e (by simp)
    have hN' : some k ∉ L.map Prod.snd ∧ (L.map Prod.snd).Nodup := by
      have := List.nodup_cons.1 hN
      rw [hk] at this; exact this
    have hc : A1[k]? = some A1[k] := List.getElem?_eq_getElem hkl
    have hsk : s[k]? = some A1[k] := by rw [hs k (by simp [hk])]; exact hc
    obtain ⟨h0, h1, F, hF⟩ := hok k _ hc
    have hb : b_cask_play_2 day e s = some (s.set k (restC day A1[k])) := by
      unfold b_cask_play_2
      rw [hk, rest_prog hsk hF h0 h1 hday]
      rfl
    obtain ⟨s', g1, g2, g3⟩ := forL_rest hday hok L (s.set k (restC day A1[k])) (fun e' he' => hE e' (List.mem_cons_of_mem _ he')) hN'.2 (by simpa using hl) (fun k' hk' => by
      have hne : k ≠ k' := fun e' => hN'.1 (by rw [e']; exact hk')
      rw [List.getElem?_set_ne hne]
      exact hs k' (by rw [List.map_cons]; exact List.mem_cons_of_mem _ hk'))
    refine ⟨s', by simp only [forL, hb, Option.bind_some]; exact g1, g2, fun i => ?_⟩
    rw [g3 i]
    by_cases hi : some i ∈ L.map Prod.snd
    · rw [if_pos hi, if_pos (by rw [List.map_cons]; exact List.mem_cons_of_mem _ hi)]
    · rw [if_neg hi]
      by_cases e' : k = i
      · subst e'
        rw [List.getElem?_set_self (by rw [hl]; exact hkl), if_pos (by simp [hk]), hc]
        rfl
      · rw [List.getElem?_set_ne e', if_neg]
        rw [List.map_cons, List.mem_cons, hk]
        rintro (h | h)
        · exact e' (by simpa using h.symm)
        · exact hi h
theorem rest_all (r : PR t n all A1 A3 m) (hd : t ≤ day) (hday : day ≤ 65536) : permM (b_cask_play_2 day) m A1 = some (A1.map (restC day)) ∧ PR day n (all.map (olderS (day - t))) (A1.map (restC day)) A3 m ∧ ∀ c ∈ A1.map (restC day), c.since = day := by
  have hlook : ∀ (k : Nat) (c : CaskCask), A1[k]? = some c → ∃ h, all[k]? = some h ∧ CR t n A3 c h := fun k c hc => by
    have hk : k < all.length := by rw [← r.len]; exact (List.getElem?_eq_some_iff.1 hc).1
    exact ⟨all[k], List.getElem?_eq_getElem hk, r.each k c _ hc (List.getElem?_eq_getElem hk)⟩
  have hsnd : m.map Prod.snd = (List.range A1.length).map some := by
    rw [r.map]
    apply List.ext_getElem?
    intro i
    simp only [List.getElem?_map, List.getElem?_mapIdx]
    by_cases h : i < A1.length
    · simp [h]
    · simp [h]
  refine ⟨permM_of fun l' hl' => ?_, ⟨by simp [r.len], fun k c h hc hh => ?_, ?_, fun i j ci cj q h1 h2 h3 h4 => ?_⟩, fun c hc => ?_⟩
  · have hp := hl'.map Prod.snd
    have hmem : ∀ o, o ∈ l'.map Prod.snd ↔ ∃ i, i < A1.length ∧ o = some i := fun o => by
      rw [hp.mem_iff, hsnd]
      simp only [List.mem_map, List.mem_range]
      exact ⟨fun ⟨i, h1, h2⟩ => ⟨i, h1, h2.symm⟩, fun ⟨i, h1, h2⟩ => ⟨i, h1, h2.symm⟩⟩
    obtain ⟨s', g1, g2, g3⟩ := forL_rest (day := day) (A1 := A1) (n := n) (by omega) (fun k c hc => by
      obtain ⟨h, _, hcr⟩ := hlook k c hc
      exact ⟨hcr.since.1, by have := hcr.since.2; omega, _, hcr.ok⟩) l' A1 (fun e he => by
        obtain ⟨i, h1, h2⟩ := (hmem e.2).1 (List.mem_map_of_mem he)
        exact ⟨i, h2, h1⟩) (hp.nodup_iff.2 (by rw [hsnd]; exact List.nodup_range.map _ (fun a b hab e => hab (by simpa using e)))) rfl (fun _ _ => rfl)
    rw [g1]
    congr 1
    apply List.ext_getElem?
    intro i
    rw [g3 i, List.getElem?_map]
    by_cases h : i < A1.length
    · rw [if_pos ((hmem _).2 ⟨i, h, rfl⟩)]
    · rw [if_neg (fun h' => by
        obtain ⟨i', h1, h2⟩ := (hmem _).1 h'
        simp only [Option.some.injEq] at h2
        omega), List.getElem?_eq_none (by omega)]
      rfl
  · rw [List.getElem?_map] at hc hh
    cases h1 : A1[k]? with
    | none => rw [h1] at hc; cases hc
    | some c0 =>
      obtain ⟨h0, h2, hcr⟩ := hlook k c0 h1
      rw [h1] at hc; rw [h2] at hh
      simp only [Option.map_some, Option.some.injEq] at hc hh
      subst hc; subst hh
      exact (hcr.shift hd).rest
  · rw [r.map]
    apply List.ext_getElem?
    intro i
    simp only [List.getElem?_mapIdx, List.getElem?_map]
    cases A1[i]? with
    | none => rfl
    | some c => simp [rest_number]
  · rw [List.getElem?_map] at h1 h2
    cases g1 : A1[i]? with
    | none => rw [g1] at h1; cases h1
    | some c1 =>
      cases g2 : A1[j]? with
      | none => rw [g2] at h2; cases h2
      | some c2 =>
        rw [g1] at h1; rw [g2] at h2
        simp only [Option.map_some, Option.some.injEq] at h1 h2
        subst h1; subst h2
        rw [rest_fillsC] at h3 h4
        exact r.apart i j c1 c2 q g1 g2 h3 h4
  · obtain ⟨c0, _, rfl⟩ := List.mem_map.1 hc
    exact rest_since
end
theorem PR.start : PR 0 0 [] [] [] [] := ⟨rfl, fun _ _ _ h => by simp at h, rfl, fun _ _ _ _ _ h => by simp at h⟩
def PlayOK (day : Int) (r : (List Held ⊕ Int) × Nat) (o : Option ((Option Nat) × Int × Int × (List CaskCask) × (List CaskBook) × FM × (List (List (Int × Option Nat))))) : Prop := match r with
  | (.inl all, k) => ∃ A1 b A3 m, o = some (some 0, (k : Int), 0, A1, [b], A3, [m]) ∧ b.casks = some 0 ∧ PR day k all A1 A3 m ∧ (∀ c ∈ A1, c.since = day) ∧ AOk day k all ∧ k ≤ 4096 ∧ 0 ≤ day ∧ day ≤ 65536
  | (.inr e, k) => o = some (none, (k : Int), e, [], [], [], []) ∧ e ≠ 0
theorem play_prog (l : List Ev) (day : Int) : PlayOK day (playS l day) (m_cask_play l day) := by
  obtain ⟨D, hD, hOK⟩ := deeds_some
  unfold m_cask_play playS
  by_cases hl : l.length > 4096
  · have : decide ((l.length : Int) > 4096) = true := decide_eq_true (by omega)
    simp only [this, hl, if_true]
    exact ⟨rfl, by decide⟩
  · have : decide ((l.length : Int) > 4096) = false := decide_eq_false (by omega)
    simp only [this, hl, if_false, Bool.false_eq_true]
    have e : m_cask_within day 0 65536 = inB day 0 65536 := rfl
    rw [e]
    cases hb : inB day 0 65536 with
    | false => exact ⟨rfl, by decide⟩
    | true =>
      have hday := inB_iff.1 hb
      simp only [Bool.not_true, Bool.false_eq_true, if_false, bindv, hD, Option.bind_some, List.nil_append]
      have hloop := loop_prog (D := D) hOK (l := l) (day := day) (by omega) l [] ⟨[], 0⟩ [] [] [] ⟨some 0, 0⟩ rfl SOk.start PR.start rfl
      unfold runS
      cases hg : goS day l 0 ⟨[], 0⟩ with
      | mk r k =>
        have hg' : goS day l ([] : List Ev).length ⟨[], 0⟩ = (r, k) := hg
        rw [hg'] at hloop
        cases r with
        | inl s' =>
          obtain ⟨A1', A3', m', b', h1, h2, h3⟩ := hloop
          obtain ⟨g1, g2, g3, g4⟩ := go_ok l 0 ⟨[], 0⟩ s' k SOk.start (by show (0:Int) ≤ day; omega) hg
          have h1' : loopM (b_cask_play_1 l day D) (0, 0, [], [⟨some 0, 0⟩], [], [[]]) = _ := h1
          obtain ⟨p1, p2, p3⟩ := rest_all h2 g2 hday.2
          have hok := older_all g1.ok (n := day - s'.last) (by omega)
          rw [show s'.last + (day - s'.last) = day by omega] at hok
          refine ⟨A1'.map (restC day), b', A3', m', ?_, h3, p2, p3, hok, by omega, hday.1, hday.2⟩
          rw [h1', Option.bind_some]
          simp only [List.getElem?_cons_zero, Option.bind_some, h3, p1]
        | inr er =>
          have h1' : loopM (b_cask_play_1 l day D) (0, 0, [], [⟨some 0, 0⟩], [], [[]]) = _ := hloop.1
          refine ⟨?_, hloop.2⟩
          rw [h1', Option.bind_some]
end Go.Proofs.Ytkedjmhhcekmiaa
end

section
namespace Go.Proofs.Ytkedjmhhcekmiaa
open Go.Dec Go.Shelf Go.RowKit Go.Maps Go.Sort
noncomputable def m_wormtublaw06_awake  : Option Bool :=
 (m_wormtublaw06_sample).bind fun r_3 => (m_cask_At r_3 2 140).bind fun r_10 => (m_cask_At r_3 2 200).bind fun r_14 => (m_cask_Sources r_3 2 200).bind fun r_18 => (appO r_3 ([(ApiCaskEvent.mk 3 200 2 0 0 0 10 0)])).bind fun l_27 => (m_cask_Play l_27 200).bind fun r_37 => (m_cask_Owned r_3 30 200).bind fun r_43 => if ((((((((((((r_10.1.Amount != 150) || (r_10.1.Age != 140)) || ((r_10.1.Woods 2) != 100)) || ((r_10.1.Woods 3) != 40)) || ((r_10.1.Places 1) != 40)) || (r_10.1.Creditor != (-1))) || (r_10.2 != 0)) || (r_14.1.Amount != 200)) || (r_14.1.Age != 50)) || ((r_14.1.Woods 2) != 0)) || (r_14.1.Creditor != 30)) || (r_14.2 != 0)) then (some false) else ((m_wormtubref06_Ints r_18.1 ([2, 5])).bind fun r_102 => (if ((((r_102 && (r_18.2 == 0)) && (r_37.2.1 == 7)) && (r_37.2.2 == 11)) && ((r_43.1.length : Int) == 0)) then ((m_wormtubref06_Ints r_43.2.1 ([2])).bind fun r_127 => some r_127) else some false).bind fun z131 => some (z131 && (r_43.2.2 == 0)))
theorem c_wormtublaw06_awake (F0 : Fz)  : CT0 Try.prog 11 [].toArray F0 (m_wormtublaw06_awake) (fun r _ v => v = (.bool r)) := by
 refine CT0.enter Try.func11 rfl Try.ntmps11 rfl fun r R => ?_
 unfold m_wormtublaw06_awake
 refine .seq ?_
 refine .region ?_
 refine .assign rfl rfl ?_
 refine .nil ?_
 refine .code ?_
 refine .seq ?_
 refine .region ?_
 refine .call0 rfl Try.call23 rfl rfl rfl (c_wormtublaw06_sample _ ) ?_
 rintro r_3 F_1 _ - l_2 ⟨p4, k5, rfl, h6, hf7⟩
 refine .assign rfl rfl ?_
 refine .nil ?_
 refine .code ?_
 refine .seq ?_
 refine .region ?_
 refine .move rfl rfl ?_
 refine .call0 rfl Try.call14 rfl rfl rfl (c_cask_At _ r_3 p4 k5 h6 2 140) ?_
 rintro r_10 F_8 _ - l_9 rfl
 refine .move rfl rfl ?_
 refine .extract rfl rfl rfl ?_
 refine .extract rfl rfl rfl ?_
 refine .alloc (cs := (cApiCask (ApiCask.mk 0 0 0 0 0 0 0 0 (fun _ => 0) (fun _ => 0)))) rfl Try.zeroValue31 rfl (fun b11 => ?_)
 refine .store (cs' := (cApiCask r_10.1)) Try.sizeOf31 rfl rfl rfl rfl (i := 0) rfl (Nat.le_of_ble_eq_true rfl) rfl (setMany_all (by rfl)) ?_
 refine .assign rfl rfl ?_
 refine .nil ?_
 refine .code ?_
 refine .seq ?_
 refine .region ?_
 refine .move rfl rfl ?_
 refine .call0 rfl Try.call14 rfl rfl rfl (c_cask_At _ r_3 p4 k5 (h6.mono l_9) 2 200) ?_
 rintro r_14 F_12 _ - l_13 rfl
 refine .move rfl rfl ?_
 refine .extract rfl rfl rfl ?_
 refine .extract rfl rfl rfl ?_
 refine .alloc (cs := (cApiCask (ApiCask.mk 0 0 0 0 0 0 0 0 (fun _ => 0) (fun _ => 0)))) rfl Try.zeroValue31 rfl (fun b15 => ?_)
 refine .store (cs' := (cApiCask r_14.1)) Try.sizeOf31 rfl rfl rfl rfl (i := 0) rfl (Nat.le_of_ble_eq_true rfl) rfl (setMany_all (by rfl)) ?_
 refine .assign rfl rfl ?_
 refine .nil ?_
 refine .code ?_
 refine .seq ?_
 refine .region ?_
 refine .move rfl rfl ?_
 refine .call0 rfl Try.call19 rfl rfl rfl (c_cask_Sources _ r_3 p4 k5 (h6.mono (Fz.le_trans l_9 l_13)) 2 200) ?_
 rintro r_18 F_16 _ - l_17 ⟨p19, k20, rfl, h21⟩
 refine .move rfl rfl ?_
 refine .extract rfl rfl rfl ?_
 refine .extract rfl rfl rfl ?_
 refine .assign rfl rfl ?_
 refine .assign rfl rfl ?_
 refine .nil ?_
 refine .code ?_
 refine .seq ?_
 refine .region ?_
 refine .move rfl rfl ?_
 refine .build (cs := (cApiCaskEvent (ApiCaskEvent.mk 3 200 2 0 0 0 10 0)).toArray) rfl Try.underlying45 Try.zeroValue45 (plApiCaskEvent _ Try.underlying45) rfl rfl (by kernel_rfl) ?_
 refine .sliceLit (cs := [.int .i64 (ApiCaskEvent.mk 3 200 2 0 0 0 10 0).Kind, .int .i64 (ApiCaskEvent.mk 3 200 2 0 0 0 10 0).Day, .int .i64 (ApiCaskEvent.mk 3 200 2 0 0 0 10 0).Cask, .int .i64 (ApiCaskEvent.mk 3 200 2 0 0 0 10 0).Other, .int .i64 (ApiCaskEvent.mk 3 200 2 0 0 0 10 0).Person, .int .i64 (ApiCaskEvent.mk 3 200 2 0 0 0 10 0).To, .int .i64 (ApiCaskEvent.mk 3 200 2 0 0 0 10 0).Amount, .int .i64 (ApiCaskEvent.mk 3 200 2 0 0 0 10 0).Where]) (zc := [.int .i64 (ApiCaskEvent.mk 0 0 0 0 0 0 0 0).Kind, .int .i64 (ApiCaskEvent.mk 0 0 0 0 0 0 0 0).Day, .int .i64 (ApiCaskEvent.mk 0 0 0 0 0 0 0 0).Cask, .int .i64 (ApiCaskEvent.mk 0 0 0 0 0 0 0 0).Other, .int .i64 (ApiCaskEvent.mk 0 0 0 0 0 0 0 0).Person, .int .i64 (ApiCaskEvent.mk 0 0 0 0 0 0 0 0).To, .int .i64 (ApiCaskEvent.mk 0 0 0 0 0 0 0 0).Amount, .int .i64 (ApiCaskEvent.mk 0 0 0 0 0 0 0 0).Where]) rfl Try.underlying22 Try.sizeOf45 Try.zeroValue45 rfl rfl rfl (by kernel_rfl) (by kernel_rfl) (fun b22 F_23 l_24 hb25 => ?_)
 have h26 : RepSl 8 (Ex cApiCaskEvent) F_23 (some ⟨b22, 0, none⟩) 1 ([(ApiCaskEvent.mk 3 200 2 0 0 0 10 0)]) := RepSl.ofRow hb25 (.cons ok_t45.mono rfl .nil) rfl rfl
 refine .appendF ok_t45 rfl Try.underlying22 Try.underlying22 rfl rfl (h6.mono (Fz.le_trans l_9 (Fz.le_trans l_13 (Fz.le_trans l_17 l_24)))) h26 (by rw [hf7]; exact Nat.lt_add_of_pos_right (by decide)) rfl rfl (fun l_27 p28 k29 e30 => ?_)
 refine .freezeSl 0 rfl (Fz.le_refl _) (fun F_32 l_33 h34 => ?_)
 refine .call0 rfl Try.call12 rfl rfl rfl (c_cask_Play _ l_27 p28 k29 h34 200) ?_
 rintro r_37 F_35 _ - l_36 ⟨p38, k39, rfl, h40⟩
 refine .move rfl rfl ?_
 refine .extract rfl rfl rfl ?_
 refine .extract rfl rfl rfl ?_
 refine .extract rfl rfl rfl ?_
 refine .assign rfl rfl ?_
 refine .assign rfl rfl ?_
 refine .assign rfl rfl ?_
 refine .nil ?_
 refine .keep (.cons (k := 1) rfl (.cons (k := 2) rfl (.cons (k := 3) rfl (.cons (k := 4) rfl (.cons (k := 5) rfl (.cons (k := 6) rfl (.cons (k := 7) rfl (.cons (k := 9) rfl (.cons (k := 10) rfl (.nil _)))))))))) ?_
 refine .code ?_
 refine .seq ?_
 refine .region ?_
 refine .move rfl rfl ?_
 refine .call0 rfl Try.call17 rfl rfl rfl (c_cask_Owned _ r_3 p4 k5 (h6.mono (Fz.le_trans l_9 (Fz.le_trans l_13 (Fz.le_trans l_17 (Fz.le_trans l_24 (Fz.le_trans l_33 l_36)))))) 30 200) ?_
 rintro r_43 F_41 _ - l_42 ⟨p44, k45, p47, k48, rfl, h46, h49⟩
 refine .move rfl rfl ?_
 refine .extract rfl rfl rfl ?_
 refine .extract rfl rfl rfl ?_
 refine .extract rfl rfl rfl ?_
 refine .assign rfl rfl ?_
 refine .assign rfl rfl ?_
 refine .assign rfl rfl ?_
 refine .nil ?_
 refine .code ?_
 refine .seq ?_
 refine .seq ?_
 refine .region ?_
 refine .fieldAddr rfl Try.underlying31 rfl Try.sizeOf3 rfl ?_
 refine .loadO rfl Try.isAgg3 rfl (i := 1) rfl rfl ?_
 refine .neq rfl rfl rfl ?_
 refine .move rfl rfl ?_
 refine .orP (b := (r_10.1.Amount != 150)) (b' := (r_10.1.Age != 140)) 4 52 (fun hb50 => ?_) (fun hb51 => ?_) (fun F_52 l_53 => ?_)
 ·skip
  refine .onH hb50 rfl rfl ?_
  refine .fieldAddr rfl Try.underlying31 rfl Try.sizeOf3 rfl ?_
  refine .onH hb50 rfl rfl ?_
  refine .loadO rfl Try.isAgg3 rfl (i := 1) rfl rfl ?_
  refine .onH hb50 rfl rfl ?_
  refine .neq rfl rfl rfl ?_
  refine .pickFH hb50 rfl rfl rfl ?_
  exact .fin 4 rfl rfl (by kernel_rfl) (Fz.le_refl _)
 ·skip
  refine .offH hb51 rfl rfl rfl ?_
  refine .offH hb51 rfl rfl rfl ?_
  refine .offH hb51 rfl rfl rfl ?_
  refine .pickTH hb51 rfl rfl rfl ?_
  exact .fin 4 rfl rfl (by kernel_rfl) (Fz.le_refl _)
 refine .move rfl rfl ?_
 refine .orP (b := ((r_10.1.Amount != 150) || (r_10.1.Age != 140))) (b' := ((r_10.1.Woods 2) != 100)) 5 58 (fun hb54 => ?_) (fun hb55 => ?_) (fun F_56 l_57 => ?_)
 ·skip
  refine .onH hb54 rfl rfl ?_
  refine .fieldAddr rfl Try.underlying31 rfl Try.sizeOf29 rfl ?_
  refine .onH hb54 rfl rfl ?_
  refine .indexAddrA rfl Try.underlying29 Try.sizeOf3 rfl rfl (j := 2) rfl ?_
  refine .onH hb54 rfl rfl ?_
  refine .loadO rfl Try.isAgg3 rfl (i := 1) rfl rfl ?_
  refine .onH hb54 rfl rfl ?_
  refine .neq rfl rfl rfl ?_
  refine .pickFH hb54 rfl rfl rfl ?_
  exact .fin 5 rfl rfl (by kernel_rfl) (Fz.le_refl _)
 ·skip
  refine .offH hb55 rfl rfl rfl ?_
  refine .offH hb55 rfl rfl rfl ?_
  refine .offH hb55 rfl rfl rfl ?_
  refine .offH hb55 rfl rfl rfl ?_
  refine .pickTH hb55 rfl rfl rfl ?_
  exact .fin 5 rfl rfl (by kernel_rfl) (Fz.le_refl _)
 refine .move rfl rfl ?_
 refine .orP (b := (((r_10.1.Amount != 150) || (r_10.1.Age != 140)) || ((r_10.1.Woods 2) != 100))) (b' := ((r_10.1.Woods 3) != 40)) 5 64 (fun hb58 => ?_) (fun hb59 => ?_) (fun F_60 l_61 => ?_)
 ·skip
  refine .onH hb58 rfl rfl ?_
  refine .fieldAddr rfl Try.underlying31 rfl Try.sizeOf29 rfl ?_
  refine .onH hb58 rfl rfl ?_
  refine .indexAddrA rfl Try.underlying29 Try.sizeOf3 rfl rfl (j := 3) rfl ?_
  refine .onH hb58 rfl rfl ?_
  refine .loadO rfl Try.isAgg3 rfl (i := 1) rfl rfl ?_
  refine .onH hb58 rfl rfl ?_
  refine .neq rfl rfl rfl ?_
  refine .pickFH hb58 rfl rfl rfl ?_
  exact .fin 5 rfl rfl (by kernel_rfl) (Fz.le_refl _)
 ·skip
  refine .offH hb59 rfl rfl rfl ?_
  refine .offH hb59 rfl rfl rfl ?_
  refine .offH hb59 rfl rfl rfl ?_
  refine .offH hb59 rfl rfl rfl ?_
  refine .pickTH hb59 rfl rfl rfl ?_
  exact .fin 5 rfl rfl (by kernel_rfl) (Fz.le_refl _)
 refine .move rfl rfl ?_
 refine .orP (b := ((((r_10.1.Amount != 150) || (r_10.1.Age != 140)) || ((r_10.1.Woods 2) != 100)) || ((r_10.1.Woods 3) != 40))) (b' := ((r_10.1.Places 1) != 40)) 5 70 (fun hb62 => ?_) (fun hb63 => ?_) (fun F_64 l_65 => ?_)
 ·skip
  refine .onH hb62 rfl rfl ?_
  refine .fieldAddr rfl Try.underlying31 rfl Try.sizeOf29 rfl ?_
  refine .onH hb62 rfl rfl ?_
  refine .indexAddrA rfl Try.underlying29 Try.sizeOf3 rfl rfl (j := 1) rfl ?_
  refine .onH hb62 rfl rfl ?_
  refine .loadO rfl Try.isAgg3 rfl (i := 1) rfl rfl ?_
  refine .onH hb62 rfl rfl ?_
  refine .neq rfl rfl rfl ?_
  refine .pickFH hb62 rfl rfl rfl ?_
  exact .fin 5 rfl rfl (by kernel_rfl) (Fz.le_refl _)
 ·skip
  refine .offH hb63 rfl rfl rfl ?_
  refine .offH hb63 rfl rfl rfl ?_
  refine .offH hb63 rfl rfl rfl ?_
  refine .offH hb63 rfl rfl rfl ?_
  refine .pickTH hb63 rfl rfl rfl ?_
  exact .fin 5 rfl rfl (by kernel_rfl) (Fz.le_refl _)
 refine .move rfl rfl ?_
 refine .orP (b := (((((r_10.1.Amount != 150) || (r_10.1.Age != 140)) || ((r_10.1.Woods 2) != 100)) || ((r_10.1.Woods 3) != 40)) || ((r_10.1.Places 1) != 40))) (b' := (r_10.1.Creditor != (-1))) 4 75 (fun hb66 => ?_) (fun hb67 => ?_) (fun F_68 l_69 => ?_)
 ·skip
  refine .onH hb66 rfl rfl ?_
  refine .fieldAddr rfl Try.underlying31 rfl Try.sizeOf3 rfl ?_
  refine .onH hb66 rfl rfl ?_
  refine .loadO rfl Try.isAgg3 rfl (i := 1) rfl rfl ?_
  refine .onH hb66 rfl rfl ?_
  refine .neq rfl rfl rfl ?_
  refine .pickFH hb66 rfl rfl rfl ?_
  exact .fin 4 rfl rfl (by kernel_rfl) (Fz.le_refl _)
 ·skip
  refine .offH hb67 rfl rfl rfl ?_
  refine .offH hb67 rfl rfl rfl ?_
  refine .offH hb67 rfl rfl rfl ?_
  refine .pickTH hb67 rfl rfl rfl ?_
  exact .fin 4 rfl rfl (by kernel_rfl) (Fz.le_refl _)
 refine .move rfl rfl ?_
 refine .orP (b := ((((((r_10.1.Amount != 150) || (r_10.1.Age != 140)) || ((r_10.1.Woods 2) != 100)) || ((r_10.1.Woods 3) != 40)) || ((r_10.1.Places 1) != 40)) || (r_10.1.Creditor != (-1)))) (b' := (r_10.2 != 0)) 3 79 (fun hb70 => ?_) (fun hb71 => ?_) (fun F_72 l_73 => ?_)
 ·skip
  refine .onH hb70 rfl rfl ?_
  refine .move rfl rfl ?_
  refine .onH hb70 rfl rfl ?_
  refine .neq rfl rfl rfl ?_
  refine .pickFH hb70 rfl rfl rfl ?_
  exact .fin 3 rfl rfl (by kernel_rfl) (Fz.le_refl _)
 ·skip
  refine .offH hb71 rfl rfl rfl ?_
  refine .offH hb71 rfl rfl rfl ?_
  refine .pickTH hb71 rfl rfl rfl ?_
  exact .fin 3 rfl rfl (by kernel_rfl) (Fz.le_refl _)
 refine .move rfl rfl ?_
 refine .orP (b := (((((((r_10.1.Amount != 150) || (r_10.1.Age != 140)) || ((r_10.1.Woods 2) != 100)) || ((r_10.1.Woods 3) != 40)) || ((r_10.1.Places 1) != 40)) || (r_10.1.Creditor != (-1))) || (r_10.2 != 0))) (b' := (r_14.1.Amount != 200)) 4 84 (fun hb74 => ?_) (fun hb75 => ?_) (fun F_76 l_77 => ?_)
 ·skip
  refine .onH hb74 rfl rfl ?_
  refine .fieldAddr rfl Try.underlying31 rfl Try.sizeOf3 rfl ?_
  refine .onH hb74 rfl rfl ?_
  refine .loadO rfl Try.isAgg3 rfl (i := 0) rfl rfl ?_
  refine .onH hb74 rfl rfl ?_
  refine .neq rfl rfl rfl ?_
  refine .pickFH hb74 rfl rfl rfl ?_
  exact .fin 4 rfl rfl (by kernel_rfl) (Fz.le_refl _)
 ·skip
  refine .offH hb75 rfl rfl rfl ?_
  refine .offH hb75 rfl rfl rfl ?_
  refine .offH hb75 rfl rfl rfl ?_
  refine .pickTH hb75 rfl rfl rfl ?_
  exact .fin 4 rfl rfl (by kernel_rfl) (Fz.le_refl _)
 refine .move rfl rfl ?_
 refine .orP (b := ((((((((r_10.1.Amount != 150) || (r_10.1.Age != 140)) || ((r_10.1.Woods 2) != 100)) || ((r_10.1.Woods 3) != 40)) || ((r_10.1.Places 1) != 40)) || (r_10.1.Creditor != (-1))) || (r_10.2 != 0)) || (r_14.1.Amount != 200))) (b' := (r_14.1.Age != 50)) 4 89 (fun hb78 => ?_) (fun hb79 => ?_) (fun F_80 l_81 => ?_)
 ·skip
  refine .onH hb78 rfl rfl ?_
  refine .fieldAddr rfl Try.underlying31 rfl Try.sizeOf3 rfl ?_
  refine .onH hb78 rfl rfl ?_
  refine .loadO rfl Try.isAgg3 rfl (i := 0) rfl rfl ?_
  refine .onH hb78 rfl rfl ?_
  refine .neq rfl rfl rfl ?_
  refine .pickFH hb78 rfl rfl rfl ?_
  exact .fin 4 rfl rfl (by kernel_rfl) (Fz.le_refl _)
 ·skip
  refine .offH hb79 rfl rfl rfl ?_
  refine .offH hb79 rfl rfl rfl ?_
  refine .offH hb79 rfl rfl rfl ?_
  refine .pickTH hb79 rfl rfl rfl ?_
  exact .fin 4 rfl rfl (by kernel_rfl) (Fz.le_refl _)
 refine .move rfl rfl ?_
 refine .orP (b := (((((((((r_10.1.Amount != 150) || (r_10.1.Age != 140)) || ((r_10.1.Woods 2) != 100)) || ((r_10.1.Woods 3) != 40)) || ((r_10.1.Places 1) != 40)) || (r_10.1.Creditor != (-1))) || (r_10.2 != 0)) || (r_14.1.Amount != 200)) || (r_14.1.Age != 50))) (b' := ((r_14.1.Woods 2) != 0)) 5 95 (fun hb82 => ?_) (fun hb83 => ?_) (fun F_84 l_85 => ?_)
 ·skip
  refine .onH hb82 rfl rfl ?_
  refine .fieldAddr rfl Try.underlying31 rfl Try.sizeOf29 rfl ?_
  refine .onH hb82 rfl rfl ?_
  refine .indexAddrA rfl Try.underlying29 Try.sizeOf3 rfl rfl (j := 2) rfl ?_
  refine .onH hb82 rfl rfl ?_
  refine .loadO rfl Try.isAgg3 rfl (i := 0) rfl rfl ?_
  refine .onH hb82 rfl rfl ?_
  refine .neq rfl rfl rfl ?_
  refine .pickFH hb82 rfl rfl rfl ?_
  exact .fin 5 rfl rfl (by kernel_rfl) (Fz.le_refl _)
 ·skip
  refine .offH hb83 rfl rfl rfl ?_
  refine .offH hb83 rfl rfl rfl ?_
  refine .offH hb83 rfl rfl rfl ?_
  refine .offH hb83 rfl rfl rfl ?_
  refine .pickTH hb83 rfl rfl rfl ?_
  exact .fin 5 rfl rfl (by kernel_rfl) (Fz.le_refl _)
 refine .move rfl rfl ?_
 refine .orP (b := ((((((((((r_10.1.Amount != 150) || (r_10.1.Age != 140)) || ((r_10.1.Woods 2) != 100)) || ((r_10.1.Woods 3) != 40)) || ((r_10.1.Places 1) != 40)) || (r_10.1.Creditor != (-1))) || (r_10.2 != 0)) || (r_14.1.Amount != 200)) || (r_14.1.Age != 50)) || ((r_14.1.Woods 2) != 0))) (b' := (r_14.1.Creditor != 30)) 4 100 (fun hb86 => ?_) (fun hb87 => ?_) (fun F_88 l_89 => ?_)
 ·skip
  refine .onH hb86 rfl rfl ?_
  refine .fieldAddr rfl Try.underlying31 rfl Try.sizeOf3 rfl ?_
  refine .onH hb86 rfl rfl ?_
  refine .loadO rfl Try.isAgg3 rfl (i := 0) rfl rfl ?_
  refine .onH hb86 rfl rfl ?_
  refine .neq rfl rfl rfl ?_
  refine .pickFH hb86 rfl rfl rfl ?_
  exact .fin 4 rfl rfl (by kernel_rfl) (Fz.le_refl _)
 ·skip
  refine .offH hb87 rfl rfl rfl ?_
  refine .offH hb87 rfl rfl rfl ?_
  refine .offH hb87 rfl rfl rfl ?_
  refine .pickTH hb87 rfl rfl rfl ?_
  exact .fin 4 rfl rfl (by kernel_rfl) (Fz.le_refl _)
 refine .move rfl rfl ?_
 refine .orP (b := (((((((((((r_10.1.Amount != 150) || (r_10.1.Age != 140)) || ((r_10.1.Woods 2) != 100)) || ((r_10.1.Woods 3) != 40)) || ((r_10.1.Places 1) != 40)) || (r_10.1.Creditor != (-1))) || (r_10.2 != 0)) || (r_14.1.Amount != 200)) || (r_14.1.Age != 50)) || ((r_14.1.Woods 2) != 0)) || (r_14.1.Creditor != 30))) (b' := (r_14.2 != 0)) 3 104 (fun hb90 => ?_) (fun hb91 => ?_) (fun F_92 l_93 => ?_)
 ·skip
  refine .onH hb90 rfl rfl ?_
  refine .move rfl rfl ?_
  refine .onH hb90 rfl rfl ?_
  refine .neq rfl rfl rfl ?_
  refine .pickFH hb90 rfl rfl rfl ?_
  exact .fin 3 rfl rfl (by kernel_rfl) (Fz.le_refl _)
 ·skip
  refine .offH hb91 rfl rfl rfl ?_
  refine .offH hb91 rfl rfl rfl ?_
  refine .pickTH hb91 rfl rfl rfl ?_
  exact .fin 3 rfl rfl (by kernel_rfl) (Fz.le_refl _)
 refine .nil ?_
 refine .keep (.cons (k := 6) rfl (.cons (k := 7) rfl (.cons (k := 9) rfl (.cons (k := 10) rfl (.cons (k := 11) rfl (.cons (k := 12) rfl (.cons (k := 13) rfl (.cons (k := 104) rfl (.nil _))))))))) ?_
 refine .code ?_
 refine .cond rfl (fun hb94 => ?_) (fun hb94 => ?_)
 ·skip
  refine .seq ?_
  refine .region ?_
  refine .assign rfl rfl ?_
  refine .nil ?_
  refine .code ?_
  exact .ret0 Try.results11 (.tmp rfl (.nil)) (i := 2) rfl (Fz.le_trans l_2 (Fz.le_trans l_9 (Fz.le_trans l_13 (Fz.le_trans l_17 (Fz.le_trans l_24 (Fz.le_trans l_33 (Fz.le_trans l_36 (Fz.le_trans l_42 (Fz.le_trans l_53 (Fz.le_trans l_57 (Fz.le_trans l_61 (Fz.le_trans l_65 (Fz.le_trans l_69 (Fz.le_trans l_73 (Fz.le_trans l_77 (Fz.le_trans l_81 (Fz.le_trans l_85 (Fz.le_trans l_89 l_93)))))))))))))))))) rfl
 ·skip
  refine .skip ?_
  refine .code ?_
  refine .seq ?_
  refine .region ?_
  refine .move rfl rfl ?_
  refine .sliceLit (cs := [.int .i64 2, .int .i64 5]) (zc := [.int .i64 0, .int .i64 0]) rfl Try.underlying36 Try.sizeOf3 Try.zeroValue3 rfl rfl rfl (by kernel_rfl) (by kernel_rfl) (fun b95 F_96 l_97 hb98 => ?_)
  have h99 : RepSl 1 (Ex (cInt .i64)) F_96 (some ⟨b95, 0, none⟩) 2 ([2, 5]) := RepSl.ofRow hb98 (.cons ok_t3.mono rfl (.cons ok_t3.mono rfl .nil)) rfl rfl
  refine .call0 rfl Try.call21 rfl rfl rfl (c_wormtubref06_Ints _ r_18.1 p19 k20 (h21.mono (Fz.le_trans l_24 (Fz.le_trans l_33 (Fz.le_trans l_36 (Fz.le_trans l_42 (Fz.le_trans l_53 (Fz.le_trans l_57 (Fz.le_trans l_61 (Fz.le_trans l_65 (Fz.le_trans l_69 (Fz.le_trans l_73 (Fz.le_trans l_77 (Fz.le_trans l_81 (Fz.le_trans l_85 (Fz.le_trans l_89 (Fz.le_trans l_93 l_97)))))))))))))))) ([2, 5]) (some ⟨b95, 0, none⟩) 2 h99) ?_
  rintro r_102 F_100 _ - l_101 rfl
  refine .move rfl rfl ?_
  refine .andP (b := r_102) (b' := (r_18.2 == 0)) 3 111 (fun hb103 => ?_) (fun hb104 => ?_) (fun F_105 l_106 => ?_)
  ·skip
   refine .onH hb103 rfl rfl ?_
   refine .move rfl rfl ?_
   refine .onH hb103 rfl rfl ?_
   refine .eql rfl rfl rfl ?_
   refine .pickTH hb103 rfl rfl rfl ?_
   exact .fin 3 rfl rfl (by kernel_rfl) (Fz.le_refl _)
  ·skip
   refine .offH hb104 rfl rfl rfl ?_
   refine .offH hb104 rfl rfl rfl ?_
   refine .pickFH hb104 rfl rfl rfl ?_
   exact .fin 3 rfl rfl (by kernel_rfl) (Fz.le_refl _)
  refine .move rfl rfl ?_
  refine .andP (b := (r_102 && (r_18.2 == 0))) (b' := (r_37.2.1 == 7)) 3 115 (fun hb107 => ?_) (fun hb108 => ?_) (fun F_109 l_110 => ?_)
  ·skip
   refine .onH hb107 rfl rfl ?_
   refine .move rfl rfl ?_
   refine .onH hb107 rfl rfl ?_
   refine .eql rfl rfl rfl ?_
   refine .pickTH hb107 rfl rfl rfl ?_
   exact .fin 3 rfl rfl (by kernel_rfl) (Fz.le_refl _)
  ·skip
   refine .offH hb108 rfl rfl rfl ?_
   refine .offH hb108 rfl rfl rfl ?_
   refine .pickFH hb108 rfl rfl rfl ?_
   exact .fin 3 rfl rfl (by kernel_rfl) (Fz.le_refl _)
  refine .move rfl rfl ?_
  refine .andP (b := ((r_102 && (r_18.2 == 0)) && (r_37.2.1 == 7))) (b' := (r_37.2.2 == 11)) 3 119 (fun hb111 => ?_) (fun hb112 => ?_) (fun F_113 l_114 => ?_)
  ·skip
   refine .onH hb111 rfl rfl ?_
   refine .move rfl rfl ?_
   refine .onH hb111 rfl rfl ?_
   refine .eql rfl rfl rfl ?_
   refine .pickTH hb111 rfl rfl rfl ?_
   exact .fin 3 rfl rfl (by kernel_rfl) (Fz.le_refl _)
  ·skip
   refine .offH hb112 rfl rfl rfl ?_
   refine .offH hb112 rfl rfl rfl ?_
   refine .pickFH hb112 rfl rfl rfl ?_
   exact .fin 3 rfl rfl (by kernel_rfl) (Fz.le_refl _)
  refine .move rfl rfl ?_
  refine .andP (b := (((r_102 && (r_18.2 == 0)) && (r_37.2.1 == 7)) && (r_37.2.2 == 11))) (b' := ((r_43.1.length : Int) == 0)) 4 124 (fun hb115 => ?_) (fun hb116 => ?_) (fun F_117 l_118 => ?_)
  ·skip
   refine .onH hb115 rfl rfl ?_
   refine .move rfl rfl ?_
   refine .onH hb115 rfl rfl ?_
   refine .lenS rfl rfl Try.underlying36 rfl ?_
   refine .onH hb115 rfl rfl ?_
   refine .eql rfl rfl rfl ?_
   refine .pickTH hb115 rfl rfl rfl ?_
   exact .fin 4 rfl rfl (by kernel_rfl) (Fz.le_refl _)
  ·skip
   refine .offH hb116 rfl rfl rfl ?_
   refine .offH hb116 rfl rfl rfl ?_
   refine .offH hb116 rfl rfl rfl ?_
   refine .pickFH hb116 rfl rfl rfl ?_
   exact .fin 4 rfl rfl (by kernel_rfl) (Fz.le_refl _)
  refine .move rfl rfl ?_
  refine .andM (b := ((((r_102 && (r_18.2 == 0)) && (r_37.2.1 == 7)) && (r_37.2.2 == 11)) && ((r_43.1.length : Int) == 0))) 4 129 (fun hb119 z132 => ?_) (fun hb128 => ?_) (fun z131 F_129 l_130 => ?_)
  ·skip
   refine .onH hb119 rfl rfl ?_
   refine .move rfl rfl ?_
   refine .onH hb119 rfl rfl ?_
   refine .sliceLit (cs := [.int .i64 2]) (zc := [.int .i64 0]) rfl Try.underlying36 Try.sizeOf3 Try.zeroValue3 rfl rfl rfl (by kernel_rfl) (by kernel_rfl) (fun b120 F_121 l_122 hb123 => ?_)
   have h124 : RepSl 1 (Ex (cInt .i64)) F_121 (some ⟨b120, 0, none⟩) 1 ([2]) := RepSl.ofRow hb123 (.cons ok_t3.mono rfl .nil) rfl rfl
   refine .onH hb119 rfl rfl ?_
   refine .call0 rfl Try.call21 rfl rfl rfl (c_wormtubref06_Ints _ r_43.2.1 p47 k48 (h49.mono (Fz.le_trans l_53 (Fz.le_trans l_57 (Fz.le_trans l_61 (Fz.le_trans l_65 (Fz.le_trans l_69 (Fz.le_trans l_73 (Fz.le_trans l_77 (Fz.le_trans l_81 (Fz.le_trans l_85 (Fz.le_trans l_89 (Fz.le_trans l_93 (Fz.le_trans l_97 (Fz.le_trans l_101 (Fz.le_trans l_106 (Fz.le_trans l_110 (Fz.le_trans l_114 (Fz.le_trans l_118 l_122)))))))))))))))))) ([2]) (some ⟨b120, 0, none⟩) 1 h124) ?_
   rintro r_127 F_125 _ - l_126 rfl
   refine .pickTH hb119 rfl rfl rfl ?_
   exact .finZ 4 rfl rfl (by kernel_rfl) (Fz.le_trans l_122 l_126)
  ·skip
   refine .offH hb128 rfl rfl rfl ?_
   refine .offH hb128 rfl rfl rfl ?_
   refine .offH hb128 rfl rfl rfl ?_
   refine .pickFH hb128 rfl rfl rfl ?_
   exact .fin 4 rfl rfl (by kernel_rfl) (Fz.le_refl _)
  refine .move rfl rfl ?_
  refine .andP (b := z131) (b' := (r_43.2.2 == 0)) 3 133 (fun hb133 => ?_) (fun hb134 => ?_) (fun F_135 l_136 => ?_)
  ·skip
   refine .onH hb133 rfl rfl ?_
   refine .move rfl rfl ?_
   refine .onH hb133 rfl rfl ?_
   refine .eql rfl rfl rfl ?_
   refine .pickTH hb133 rfl rfl rfl ?_
   exact .fin 3 rfl rfl (by kernel_rfl) (Fz.le_refl _)
  ·skip
   refine .offH hb134 rfl rfl rfl ?_
   refine .offH hb134 rfl rfl rfl ?_
   refine .pickFH hb134 rfl rfl rfl ?_
   exact .fin 3 rfl rfl (by kernel_rfl) (Fz.le_refl _)
  refine .assign rfl rfl ?_
  refine .nil ?_
  refine .code ?_
  exact .ret0 Try.results11 (.tmp rfl (.nil)) (i := 2) rfl (Fz.le_trans l_2 (Fz.le_trans l_9 (Fz.le_trans l_13 (Fz.le_trans l_17 (Fz.le_trans l_24 (Fz.le_trans l_33 (Fz.le_trans l_36 (Fz.le_trans l_42 (Fz.le_trans l_53 (Fz.le_trans l_57 (Fz.le_trans l_61 (Fz.le_trans l_65 (Fz.le_trans l_69 (Fz.le_trans l_73 (Fz.le_trans l_77 (Fz.le_trans l_81 (Fz.le_trans l_85 (Fz.le_trans l_89 (Fz.le_trans l_93 (Fz.le_trans l_97 (Fz.le_trans l_101 (Fz.le_trans l_106 (Fz.le_trans l_110 (Fz.le_trans l_114 (Fz.le_trans l_118 (Fz.le_trans l_130 l_136)))))))))))))))))))))))))) rfl
end Go.Proofs.Ytkedjmhhcekmiaa
end

section
namespace Go.Proofs.Ytkedjmhhcekmiaa
open Go.Dec
def zC : ApiCask := ⟨0, 0, 0, 0, 0, 0, 0, 0, zN, zN⟩
def findH (all : List Held) (num : Int) : Option Held := (findS all num).bind fun i => all[i]?
def tellS (l : List Ev) (num day : Int) : ApiCask × Int := match (playS l day).1 with
  | .inr e => (zC, e)
  | .inl all => match findH all num with
    | none => (zC, 4)
    | some h => (h.C, 0)
def srcS (l : List Ev) (num day : Int) : List Int × Int := match (playS l day).1 with
  | .inr e => ([], e)
  | .inl all => match findH all num with
    | none => ([], 4)
    | some h => (h.Fills, 0)
theorem playS_err {l : List Ev} {day e : Int} {k : Nat} (h : playS l day = (.inr e, k)) : e ≠ 0 := by
  have := play_prog l day
  rw [h] at this
  exact this.2
theorem playS_ok {l : List Ev} {day : Int} {all : List Held} {k : Nat} (h : playS l day = (.inl all, k)) : AOk day k all ∧ k ≤ 4096 ∧ 0 ≤ day ∧ day ≤ 65536 := by
  have := play_prog l day
  rw [h] at this
  obtain ⟨_, _, _, _, _, _, _, _, h1, h2, h3, h4⟩ := this
  exact ⟨h1, h2, h3, h4⟩
theorem CR.now {t : Int} {n : Nat} {A3 : FM} {c : CaskCask} {h : Held} (r : CR t n A3 c h) (hs : c.since = t) : h = rawOf c h.Fills := by
  have := r.eq
  rw [hs, Int.sub_self, older_0] at this
  exact this
theorem find_look {all : List Held} {num : Int} {i : Nat} (h : findS all num = some i) : ∃ hh, all[i]? = some hh ∧ findH all num = some hh := by
  obtain ⟨hh, h1, _⟩ := find_some h
  exact ⟨hh, h1, by simp [findH, h, h1]⟩
theorem PR.look {t : Int} {n : Nat} {all : List Held} {A1 : List CaskCask} {A3 : FM} {m : List (Int × Option Nat)} (r : PR t n all A1 A3 m) (hs : ∀ c ∈ A1, c.since = t) {i : Nat} {h : Held} (hh : all[i]? = some h) : ∃ c, A1[i]? = some c ∧ h = rawOf c h.Fills ∧ FR A3 c.fills h.Fills := by
  have hi : i < A1.length := by rw [r.len]; exact (List.getElem?_eq_some_iff.1 hh).1
  have hc : A1[i]? = some A1[i] := List.getElem?_eq_getElem hi
  have hcr := r.each i _ h hc hh
  exact ⟨_, hc, hcr.now (hs _ (List.getElem_mem _)), hcr.fills⟩
theorem At_prog (l : List Ev) (num day : Int) : m_cask_At l num day = some (tellS l num day) := by
  have hp := play_prog l day
  unfold m_cask_At tellS
  cases hpl : playS l day with
  | mk r k =>
    rw [hpl] at hp
    cases r with
    | inr e =>
      rw [hp.1, Option.bind_some]
      have : (e != 0) = true := by simpa using hp.2
      simp only [this, if_true]
      rfl
    | inl all =>
      obtain ⟨A1, b, A3, m, h1, hb, hr, hs, _⟩ := hp
      rw [h1, Option.bind_some]
      have e0 : ((0 : Int) != 0) = false := rfl
      simp only [e0, Bool.false_eq_true, if_false, Option.bind_some, List.getElem?_cons_zero, hb, hr.get]
      cases hf : findS all num with
      | none => simp [findH, hf]; rfl
      | some i =>
        obtain ⟨h, hh, hfh⟩ := find_look hf
        obtain ⟨c, hc, hraw, _⟩ := hr.look hs hh
        simp only [Option.isNone_some, Bool.false_eq_true, if_false, hfh]
        unfold m_cask_cask_shown
        simp only [Option.bind_some, hc]
        have : h.C = (rawOf c h.Fills).C := by rw [← hraw]
        rw [this]; rfl
theorem sortedO_fills {A3 : FM} {p : Option Nat} {F : List Int} {n : Nat} (h : FR A3 p F) (hF : F.Pairwise (· < ·) ∧ ∀ f ∈ F, 0 ≤ f ∧ f < n) (hn : n ≤ 4096) : sortedO A3 p = some F := by
  cases p with
  | none => have : F = [] := h; subst this; rfl
  | some j =>
    obtain ⟨l, h1, h2, h3⟩ := h
    have hFn : F.Nodup := hF.1.imp fun h => Int.ne_of_lt h
    have hperm : (l.map Prod.fst).Perm F := (List.perm_ext_iff_of_nodup h2 hFn).2 fun x => (h3 x).symm
    have hlen : l.length = F.length := by rw [← hperm.length_eq]; simp
    have hfl := sorted_len 0 hF.1 (n := n) hF.2 (by omega)
    have hall : l.all (fun x => decide (-9223372036854775808 ≤ x.1 ∧ x.1 ≤ 9223372036854775807)) = true := List.all_eq_true.2 fun x hx => by
      have := hF.2 x.1 ((h3 x.1).2 (List.mem_map_of_mem hx))
      simp only [decide_eq_true_eq]
      omega
    have hk : keysS l = some ((l.map Prod.fst).mergeSort (fun a b => decide (a ≤ b))) := by
      unfold keysS; rw [if_pos ⟨hall, by omega⟩]
    have e : sortedO A3 (some j) = keysS l := by simp [sortedO, h1]
    rw [e, hk, sort_eq hperm]
    congr 1
    exact List.mergeSort_of_pairwise (hF.1.imp fun h => by simpa using Int.le_of_lt h)
theorem Sources_prog (l : List Ev) (num day : Int) : m_cask_Sources l num day = some (srcS l num day) := by
  have hp := play_prog l day
  unfold m_cask_Sources srcS
  cases hpl : playS l day with
  | mk r k =>
    rw [hpl] at hp
    cases r with
    | inr e =>
      rw [hp.1, Option.bind_some]
      have : (e != 0) = true := by simpa using hp.2
      simp only [this, if_true]
    | inl all =>
      obtain ⟨A1, b, A3, m, h1, hb, hr, hs, hok, hk, _⟩ := hp
      rw [h1, Option.bind_some]
      have e0 : ((0 : Int) != 0) = false := rfl
      simp only [e0, Bool.false_eq_true, if_false, Option.bind_some, List.getElem?_cons_zero, hb, hr.get]
      cases hf : findS all num with
      | none => simp [findH, hf]
      | some i =>
        obtain ⟨h, hh, hfh⟩ := find_look hf
        obtain ⟨c, hc, hraw, hfr⟩ := hr.look hs hh
        have hho := hok.each h (List.mem_of_getElem? hh)
        simp only [Option.isNone_some, Bool.false_eq_true, if_false, hfh, Option.bind_some, hc]
        rw [sortedO_fills hfr hho.fills hk]
        rfl
end Go.Proofs.Ytkedjmhhcekmiaa
end

section
namespace Go.Proofs.Ytkedjmhhcekmiaa
open Go.Dec
def numsS (all : List Held) : List Int := (all.map (·.C.Number)).mergeSort (fun a b => decide (a ≤ b))
def ordS (all : List Held) : List Held := (numsS all).filterMap (findH all)
theorem nums_perm (all : List Held) : (numsS all).Perm (all.map (·.C.Number)) := List.mergeSort_perm _ _
theorem nums_sorted {all : List Held} (hn : (all.map (·.C.Number)).Nodup) : (numsS all).Pairwise (· < ·) := by
  have h1 : (numsS all).Pairwise (fun a b => decide (a ≤ b) = true) := List.pairwise_mergeSort (fun a b c h1 h2 => by simp only [decide_eq_true_eq] at *; omega) (fun a b => by simp only [Bool.or_eq_true, decide_eq_true_eq]; omega) _
  have h2 : (numsS all).Nodup := ((nums_perm all).nodup_iff).2 hn
  exact (h1.and h2).imp fun ⟨a, b⟩ => by simp only [decide_eq_true_eq] at a; omega
theorem find_ex {all : List Held} {num : Int} (h : num ∈ all.map (·.C.Number)) : ∃ i hh, findS all num = some i ∧ all[i]? = some hh ∧ findH all num = some hh ∧ hh.C.Number = num := by
  cases hf : findS all num with
  | none =>
    obtain ⟨x, hx, e⟩ := List.mem_map.1 h
    exact absurd e (find_none hf x hx)
  | some i =>
    obtain ⟨hh, h1, h2⟩ := find_look hf
    obtain ⟨h', h3, h4⟩ := find_some hf
    rw [h1] at h3; cases h3
    exact ⟨i, hh, rfl, h1, h2, h4⟩
section
variable {t : Int} {n : Nat} {all : List Held} {A1 : List CaskCask} {A3 : FM} {m : List (Int × Option Nat)} {b : CaskBook}
theorem keys_of (r : PR t n all A1 A3 m) (ho : AOk t n all) : keysS m = some (numsS all) := by
  have hk : m.map Prod.fst = all.map (·.C.Number) := by
    rw [r.map]
    apply List.ext_getElem?
    intro i
    simp only [List.getElem?_map, List.getElem?_mapIdx]
    by_cases h : i < A1.length
    · have h2 : i < all.length := by rw [← r.len]; exact h
      rw [List.getElem?_eq_getElem h, List.getElem?_eq_getElem h2]
      simp only [Option.map_some]
      rw [(r.each i _ _ (List.getElem?_eq_getElem h) (List.getElem?_eq_getElem h2)).number]
    · rw [List.getElem?_eq_none (by omega), List.getElem?_eq_none (by rw [← r.len]; omega)]; rfl
  have hl : m.length = all.length := by rw [← List.length_map (f := Prod.fst), hk, List.length_map]
  have hall : m.all (fun x => decide (-9223372036854775808 ≤ x.1 ∧ x.1 ≤ 9223372036854775807)) = true := List.all_eq_true.2 fun x hx => by
    have h1 : x.1 ∈ all.map (·.C.Number) := by rw [← hk]; exact List.mem_map_of_mem hx
    obtain ⟨h, hh, e⟩ := List.mem_map.1 h1
    have := (ho.each h hh).num
    simp only [decide_eq_true_eq]
    omega
  unfold keysS
  rw [if_pos ⟨hall, by have := ho.few; omega⟩, hk]
  rfl
theorem ordered_prog (r : PR t n all A1 A3 m) (ho : AOk t n all) (hb : b.casks = some 0) : L_cask_book_ordered_1 [b] [m] (some 0) = some ((numsS all).map (findS all)) := by
  unfold L_cask_book_ordered_1
  simp only [Option.bind_some, List.getElem?_cons_zero, hb, keys_of r ho]
  congr 1
  exact List.map_congr_left fun k _ => r.get k
theorem forL_Play (hs : ∀ c ∈ A1, c.since = t) (r : PR t n all A1 A3 m) : ∀ (ks : List Int) (out : List ApiCask), (∀ k ∈ ks, k ∈ all.map (·.C.Number)) → out.length + ks.length ≤ 1000000 →
    forL b_cask_Play_1 (ks.map (findS all)) (out, A1) = some (out ++ (ks.filterMap (findH all)).map (·.C), A1)
  | [], out, _, _ => by simp [forL]
  | k :: ks, out, hk, hl => by
    obtain ⟨i, h, h1, h2, h3, h4⟩ := find_ex (hk k (by simp))
    obtain ⟨c, hc, hraw, _⟩ := r.look hs h2
    have hsh : m_cask_cask_shown A1 (some i) = some h.C := by
      unfold m_cask_cask_shown
      simp only [Option.bind_some, hc]
      have : h.C = (rawOf c h.Fills).C := by rw [← hraw]
      rw [this]; rfl
    have hb : b_cask_Play_1 (some i) (out, A1) = some (out ++ [h.C], A1) := by
      unfold b_cask_Play_1
      rw [hsh, Option.bind_some]
      simp only [List.length_cons] at hl
      rw [appO_some' (by simp; omega)]
      rfl
    simp only [List.map_cons, forL, h1, hb, Option.bind_some]
    rw [forL_Play hs r ks (out ++ [h.C]) (fun k' hk' => hk k' (List.mem_cons_of_mem _ hk')) (by simp at hl ⊢; omega)]
    rw [List.filterMap_cons, h3]
    simp
end
def allS' (l : List Ev) (day : Int) : List ApiCask × Int × Int := match playS l day with
  | (.inr e, k) => ([], (k : Int), e)
  | (.inl all, k) => ((ordS all).map (·.C), (k : Int), 0)
theorem Play_prog (l : List Ev) (day : Int) : m_cask_Play l day = some (allS' l day) := by
  have hp := play_prog l day
  unfold m_cask_Play allS'
  cases hpl : playS l day with
  | mk r k =>
    rw [hpl] at hp
    cases r with
    | inr e =>
      rw [hp.1, Option.bind_some]
      have : (e != 0) = true := by simpa using hp.2
      simp only [this, if_true]
    | inl all =>
      obtain ⟨A1, b, A3, m, h1, hb, hr, hs, hok, hk, _⟩ := hp
      rw [h1, Option.bind_some]
      have e0 : ((0 : Int) != 0) = false := rfl
      simp only [e0, Bool.false_eq_true, if_false, Option.bind_some]
      rw [ordered_prog hr hok hb, Option.bind_some]
      have hlen : (numsS all).length = all.length := by rw [(nums_perm all).length_eq]; simp
      rw [forL_Play hs hr (numsS all) [] (fun k hk => (nums_perm all).mem_iff.1 hk) (by have := hok.few; simp; omega), Option.bind_some]
      rfl
end Go.Proofs.Ytkedjmhhcekmiaa
end

section
namespace Go.Proofs.Ytkedjmhhcekmiaa
open Go.Dec
def ownC (p : Int) (l : List ApiCask) : List Int := (l.filter (fun c => c.Owner == p)).map (·.Number)
def plgC (p : Int) (l : List ApiCask) : List Int := (l.filter (fun c => c.Creditor == p && decide (p ≥ 0))).map (·.Number)
def ownS (l : List Ev) (p day : Int) : List Int × List Int × Int := (ownC p (allS' l day).1, plgC p (allS' l day).1, (allS' l day).2.2)
section
variable {t : Int} {n k : Nat} {all : List Held} {A1 : List CaskCask} {A3 : FM} {m : List (Int × Option Nat)} {b : CaskBook}
theorem forL_Owned (hs : ∀ c ∈ A1, c.since = t) (r : PR t n all A1 A3 m) (ho : AOk t n all) (p : Int) (Bk : List CaskBook) (M : List (List (Int × Option Nat))) : ∀ (ks : List Int) (o1 o2 : List Int), (∀ k ∈ ks, k ∈ all.map (·.C.Number)) → o1.length + ks.length ≤ 1000000 → o2.length + ks.length ≤ 1000000 →
    forL (b_cask_Owned_1 p (some 0, (k : Int), 0, A1, Bk, A3, M)) (ks.map (findS all)) (o1, o2) = some (o1 ++ ownC p ((ks.filterMap (findH all)).map (·.C)), o2 ++ plgC p ((ks.filterMap (findH all)).map (·.C)))
  | [], o1, o2, _, _, _ => by simp [forL, ownC, plgC]
  | kk :: ks, o1, o2, hk, hl1, hl2 => by
    obtain ⟨i, h, h1, h2, h3, h4⟩ := find_ex (hk kk (by simp))
    obtain ⟨c, hc, hraw, _⟩ := r.look hs h2
    have hh := ho.each h (List.mem_of_getElem? h2)
    have a1 : h.C.Owner = c.owner := by rw [hraw]; rfl
    have a2 : h.C.Creditor = c.creditor := by rw [hraw]; rfl
    have a3 : h.C.Number = c.number := by rw [hraw]; rfl
    have hcr := hh.cred
    rw [a2] at hcr
    simp only [List.length_cons] at hl1 hl2
    have p1 : appO o1 [c.number] = some (o1 ++ [c.number]) := appO_some' (by simp; omega)
    have p2 : appO o2 [c.number] = some (o2 ++ [c.number]) := appO_some' (by simp; omega)
    have hb : b_cask_Owned_1 p (some 0, (k : Int), 0, A1, Bk, A3, M) (some i) (o1, o2) = some (o1 ++ (if c.owner == p then [c.number] else []), o2 ++ (if c.creditor == p && decide (p ≥ 0) then [c.number] else [])) := by
      unfold b_cask_Owned_1
      simp only [Option.bind_some, hc, p1, p2]
      have key : (c.creditor == p) = true → (p != -1) = decide (p ≥ 0) := fun e => by
        have e' : c.creditor = p := by simpa using e
        by_cases hp : p ≥ 0
        · rw [decide_eq_true hp]; simp; omega
        · rw [decide_eq_false hp]; simp; omega
      cases e1 : c.owner == p with
      | true =>
        cases e2 : c.creditor == p with
        | true => rw [key e2]; cases decide (p ≥ 0) <;> simp
        | false => simp
      | false =>
        cases e2 : c.creditor == p with
        | true => rw [key e2]; cases decide (p ≥ 0) <;> simp
        | false => simp
    simp only [List.map_cons, forL, h1, hb, Option.bind_some]
    rw [forL_Owned hs r ho p Bk M ks _ _ (fun k' hk' => hk k' (List.mem_cons_of_mem _ hk')) (by split <;> simp <;> omega) (by split <;> simp <;> omega)]
    rw [List.filterMap_cons, h3]
    unfold ownC plgC
    simp only [List.map_cons, List.filter_cons, a1, a2]
    cases e1 : c.owner == p <;> cases e2 : (c.creditor == p && decide (p ≥ 0)) <;> simp [a3]
end
theorem Owned_prog (l : List Ev) (p day : Int) : m_cask_Owned l p day = some (ownS l p day) := by
  have hp := play_prog l day
  unfold m_cask_Owned ownS allS'
  cases hpl : playS l day with
  | mk r k =>
    rw [hpl] at hp
    cases r with
    | inr e =>
      rw [hp.1, Option.bind_some]
      have : (e != 0) = true := by simpa using hp.2
      simp only [this, if_true]
      rfl
    | inl all =>
      obtain ⟨A1, b, A3, m, h1, hb, hr, hs, hok, hk, _⟩ := hp
      rw [h1, Option.bind_some]
      have e0 : ((0 : Int) != 0) = false := rfl
      simp only [e0, Bool.false_eq_true, if_false, Option.bind_some]
      rw [ordered_prog hr hok hb, Option.bind_some]
      have hlen : (numsS all).length = all.length := by rw [(nums_perm all).length_eq]; simp
      have hfew := hok.few
      rw [forL_Owned hs hr hok p [b] [m] (numsS all) [] [] (fun k hk => (nums_perm all).mem_iff.1 hk) (by simp; omega) (by simp; omega), Option.bind_some]
      rfl
theorem Ints_self (a : List Int) (h : a.length ≤ 1000000) : m_wormtubref06_Ints a a = some true := by
  have hl := loop_list (body := b_wormtubref06_Ints_1 a a) (fun (_ : Unit) i => ((i : Nat) : Int)) (fun (_ : Unit) _ (_ : Int) => some (.next ())) (fun _ => (.inl () : Unit ⊕ Bool)) a (fun t i x hx => by
    have hi := (List.getElem?_eq_some_iff.1 hx).1
    have hw : w64 ((i : Int) + 1) = ((i + 1 : Nat) : Int) := by rw [w64_id (by omega) (by omega)]; rfl
    unfold b_wormtubref06_Ints_1
    rw [if_pos (by simp; omega)]
    simp only [idxL_nat, hx, Option.bind_some, bindv, hw, bne_self_eq_false, Bool.false_eq_true, if_false]
    rfl) (fun t => by unfold b_wormtubref06_Ints_1; rw [if_neg (by simp)]) ()
  have hg : ∀ (l : List Int) (i : Nat), goL (fun (_ : Unit) _ (_ : Int) => some (.next ())) (fun _ => (.inl () : Unit ⊕ Bool)) l i () = some (.inl ()) := fun l => by
    induction l with
    | nil => intro i; rfl
    | cons x l ih => intro i; simp only [goL]; exact ih (i + 1)
  rw [hg] at hl
  have hl' : loopM (b_wormtubref06_Ints_1 a a) 0 = some (.inl ()) := hl
  unfold m_wormtubref06_Ints
  rw [if_neg (by simp), hl']; rfl
end Go.Proofs.Ytkedjmhhcekmiaa
end

section
namespace Go.Proofs.Ytkedjmhhcekmiaa
open Go.Dec
def smp : List Ev := [(ApiCaskEvent.mk 0 0 1 2 9 0 500 0), (ApiCaskEvent.mk 0 0 2 3 9 0 300 1), (ApiCaskEvent.mk 1 0 1 0 0 0 400 0), (ApiCaskEvent.mk 2 100 1 2 0 0 150 0), (ApiCaskEvent.mk 4 150 1 0 0 0 0 4), (ApiCaskEvent.mk 1 150 2 0 0 0 50 0), (ApiCaskEvent.mk 6 200 2 0 9 30 0 0)]
def nbR (r : List Held ⊕ Int) : List Int := match r with
  | .inl a => a.map (·.C.Number)
  | .inr _ => []
def ocR (ks : List Int) (r : List Held ⊕ Int) : List ApiCask := match r with
  | .inl a => (ks.filterMap (findH a)).map (·.C)
  | .inr _ => []
theorem own_by {l : List Ev} {p day : Int} {ks : List Int} (hl : (playS l day).1.isLeft = true) (hn : nbR (playS l day).1 = ks) (hk : ks.Pairwise (· < ·)) : ownS l p day = (ownC p (ocR ks (playS l day).1), plgC p (ocR ks (playS l day).1), 0) := by
  unfold ownS allS'
  cases h : playS l day with
  | mk r k =>
    rw [h] at hl hn
    cases r with
    | inr e => cases hl
    | inl all =>
      obtain ⟨hok, _⟩ := playS_ok h
      have hn' : all.map (·.C.Number) = ks := hn
      have : numsS all = ks := sorted_ext (nums_sorted hok.nums) hk fun x => by rw [(nums_perm all).mem_iff, hn']
      simp only [ordS, this]
      rfl
theorem awake_true : m_wormtublaw06_awake = some true := by
  have hs : m_wormtublaw06_sample = some smp := rfl
  have ha : appO smp [(ApiCaskEvent.mk 3 200 2 0 0 0 10 0)] = some (smp ++ [(ApiCaskEvent.mk 3 200 2 0 0 0 10 0)]) := appO_some' (by decide)
  have e1 : ((((((((((((((tellS smp 2 140).1.Amount != 150) || ((tellS smp 2 140).1.Age != 140)) || (((tellS smp 2 140).1.Woods 2) != 100)) || (((tellS smp 2 140).1.Woods 3) != 40)) || (((tellS smp 2 140).1.Places 1) != 40)) || ((tellS smp 2 140).1.Creditor != (-1))) || ((tellS smp 2 140).2 != 0)) || ((tellS smp 2 200).1.Amount != 200)) || ((tellS smp 2 200).1.Age != 50)) || (((tellS smp 2 200).1.Woods 2) != 0)) || ((tellS smp 2 200).1.Creditor != 30)) || ((tellS smp 2 200).2 != 0)) || false) = false := by decide +kernel
  have e2 : srcS smp 2 200 = ([2, 5], 0) := by decide +kernel
  have e3 : (allS' (smp ++ [(ApiCaskEvent.mk 3 200 2 0 0 0 10 0)]) 200).2 = (7, 11) := by decide +kernel
  have e4 : ownS smp 30 200 = ([], [2], 0) := by
    rw [own_by (ks := [1, 2]) (by decide +kernel) (by decide +kernel) (by decide)]
    decide +kernel
  have i1 : m_wormtubref06_Ints [2, 5] [2, 5] = some true := Ints_self _ (by decide)
  have i2 : m_wormtubref06_Ints [2] [2] = some true := Ints_self _ (by decide)
  rw [Bool.or_false] at e1
  unfold m_wormtublaw06_awake
  refine bind_of hs (bind_of (At_prog _ _ _) (bind_of (At_prog _ _ _) (bind_of (Sources_prog _ _ _) (bind_of ha (bind_of (Play_prog _ _) (bind_of (Owned_prog _ _ _) ?_))))))
  rw [e1, e2, e4]
  have e5 : (allS' (smp ++ [(ApiCaskEvent.mk 3 200 2 0 0 0 10 0)]) 200).2.1 = 7 := by rw [e3]
  have e6 : (allS' (smp ++ [(ApiCaskEvent.mk 3 200 2 0 0 0 10 0)]) 200).2.2 = 11 := by rw [e3]
  simp only [Bool.false_eq_true, if_false, i1, Option.bind_some, e5, e6]
  simp [i2]
end Go.Proofs.Ytkedjmhhcekmiaa
end

section
namespace Go.Proofs.Ytkedjmhhcekmiaa
open Go.Dec
inductive EvD (l : List Held) (x : Ev) (num : Int) : List Held → Prop
  | make (k : x.Kind = 0) (f : findS l x.Cask = none) (n : l.length < 256) : EvD l x num (l ++ [newS x])
  | fill (k : x.Kind = 1) (i : Nat) (c : Held) (f : findS l x.Cask = some i) (h : l[i]? = some c) (r : c.C.Amount + x.Amount ≤ c.C.Room) : EvD l x num (l.set i (pourS c (fillS num) x.Amount))
  | rack (k : x.Kind = 2) (i : Nat) (c : Held) (f : findS l x.Cask = some i) (h : l[i]? = some c) (j : Nat) (o : Held) (f' : findS l x.Other = some j) (h' : l[j]? = some o) (ne : i ≠ j)
      (ow : c.C.Owner = o.C.Owner) (c1 : c.C.Creditor < 0) (c2 : o.C.Creditor < 0) (a : x.Amount ≤ c.C.Amount) (r : o.C.Amount + x.Amount ≤ o.C.Room) : EvD l x num ((l.set j (pourS o c x.Amount)).set i (lessS c x.Amount))
  | drain (k : x.Kind = 3) (i : Nat) (c : Held) (f : findS l x.Cask = some i) (h : l[i]? = some c) (c1 : c.C.Creditor < 0) (a : x.Amount ≤ c.C.Amount) : EvD l x num (l.set i (lessS c x.Amount))
  | carry (k : x.Kind = 4) (i : Nat) (c : Held) (f : findS l x.Cask = some i) (h : l[i]? = some c) : EvD l x num (l.set i { c with C := { c.C with Place := x.Where } })
  | sell (k : x.Kind = 5) (i : Nat) (c : Held) (f : findS l x.Cask = some i) (h : l[i]? = some c) (o : c.C.Owner = x.Person) (c1 : c.C.Creditor < 0) (t : x.To ≠ c.C.Owner) : EvD l x num (l.set i { c with C := { c.C with Owner := x.To } })
  | pledge (k : x.Kind = 6) (i : Nat) (c : Held) (f : findS l x.Cask = some i) (h : l[i]? = some c) (o : c.C.Owner = x.Person) (c1 : c.C.Creditor < 0) : EvD l x num (l.set i { c with C := { c.C with Creditor := x.To } })
  | free (k : x.Kind = 7) (i : Nat) (c : Held) (f : findS l x.Cask = some i) (h : l[i]? = some c) (c1 : c.C.Creditor = x.Person) : EvD l x num (l.set i { c with C := { c.C with Creditor := -1 } })
  | char (k : x.Kind = 8) (i : Nat) (c : Held) (f : findS l x.Cask = some i) (h : l[i]? = some c) (a : c.C.Amount ≤ 0) : EvD l x num (l.set i { c with C := { c.C with Wood := x.Where } })
theorem deed_act {l l' : List Held} {i : Nat} {c : Held} {x : Ev} {num : Int} (hv : evB x = true) (h0 : x.Kind ≠ 0) (f : findS l x.Cask = some i) (hc : l[i]? = some c) (h : actS l i c x num = .inl l') : EvD l x num l' := by
  rcases kinds hv with k | k | k | k | k | k | k | k | k
  · exact absurd k h0
  · have h : fillD l i c x num = .inl l' := by rw [← h]; unfold actS; rw [k]; rfl
    unfold fillD at h
    split at h
    · cases h
    · cases h; exact .fill k i c f hc (by omega)
  · have h : rackD l i c x = .inl l' := by rw [← h]; unfold actS; rw [k]; rfl
    unfold rackD at h
    split at h
    · cases h
    · rename_i j hj
      split at h
      · cases h
      · rename_i o ho
        unfold rackD2 at h
        split at h
        · cases h
        · rename_i hij
          split at h
          · cases h
          · rename_i hr
            split at h
            · cases h
            · split at h
              · cases h
              · cases h
                simp only [Bool.or_eq_true, bne_iff_ne, ne_eq, decide_eq_true_eq, not_or, Decidable.not_not, ge_iff_le] at hr
                exact .rack k i c f hc j o hj ho (fun e => hij (by simp [e])) hr.1.1 (by omega) (by omega) (by omega) (by omega)
  · have h : drainD l i c x = .inl l' := by rw [← h]; unfold actS; rw [k]; rfl
    unfold drainD at h
    split at h
    · cases h
    · split at h
      · cases h
      · cases h; exact .drain k i c f hc (by omega) (by omega)
  · have h : carryD l i c x = .inl l' := by rw [← h]; unfold actS; rw [k]; rfl
    cases h; exact .carry k i c f hc
  · have h : sellD l i c x = .inl l' := by rw [← h]; unfold actS; rw [k]; rfl
    unfold sellD at h
    split at h
    · cases h
    · rename_i hr
      split at h
      · cases h
      · rename_i ht
        cases h
        simp only [Bool.or_eq_true, bne_iff_ne, ne_eq, decide_eq_true_eq, not_or, Decidable.not_not, ge_iff_le] at hr
        exact .sell k i c f hc hr.1 (by omega) (fun e => ht (by simp [e]))
  · have h : pledgeD l i c x = .inl l' := by rw [← h]; unfold actS; rw [k]; rfl
    unfold pledgeD at h
    split at h
    · cases h
    · rename_i ho
      split at h
      · cases h
      · cases h
        exact .pledge k i c f hc (by simpa using ho) (by omega)
  · have h : freeD l i c x = .inl l' := by rw [← h]; unfold actS; rw [k]; rfl
    unfold freeD at h
    split at h
    · cases h
    · rename_i ho
      cases h
      exact .free k i c f hc (by simpa using ho)
  · have h : charD l i c x = .inl l' := by rw [← h]; unfold actS; rw [k]; rfl
    unfold charD at h
    split at h
    · cases h
    · cases h; exact .char k i c f hc (by omega)
theorem deed_of {l l' : List Held} {x : Ev} {num : Int} (hv : evB x = true) (h : doS l x num = .inl l') : EvD l x num l' := by
  unfold doS at h
  split at h
  · rename_i hk
    unfold makeD at h
    split at h
    · cases h
    · rename_i hf
      split at h
      · cases h
      · cases h
        exact .make (beq_iff_eq.1 hk) (by simpa using hf) (by omega)
  · rename_i hk
    split at h
    · cases h
    · rename_i i hi
      split at h
      · cases h
      · rename_i c hc
        exact deed_act hv (fun e => hk (by simp [e])) hi hc h
theorem step_deed {n : Nat} {s s' : Cur} {x : Ev} (h : stepS n s x = .inl s') : evB x = true ∧ s.last ≤ x.Day ∧ ∃ l', s' = ⟨l', x.Day⟩ ∧ EvD (atS x.Day s) x n l' := by
  unfold stepS at h
  split at h
  · cases h
  · rename_i hv
    have hv : evB x = true := by simpa using hv
    split at h
    · cases h
    · rename_i hd
      split at h
      · rename_i all hall
        cases h
        exact ⟨hv, by omega, all, rfl, deed_of hv hall⟩
      · cases h
theorem go_hist {day : Int} (I : List Ev → Cur → Prop) (hs : ∀ pre x s l', I pre s → SOk pre.length s → evB x = true → s.last ≤ x.Day → x.Day ≤ day → EvD (atS x.Day s) x pre.length l' → I (pre ++ [x]) ⟨l', x.Day⟩) :
    ∀ (l pre : List Ev) (s s' : Cur) (k : Nat), I pre s → SOk pre.length s → goS day l pre.length s = (.inl s', k) → ∃ q, k = pre.length + q ∧ q ≤ l.length ∧ I (pre ++ l.take q) s' ∧ SOk k s' ∧ (s.last ≤ day → s'.last ≤ day) ∧ ∀ x, l[q]? = some x → day < x.Day
  | [], pre, s, s', k, hI, ho, h => by
    simp only [goS, Prod.mk.injEq, Sum.inl.injEq] at h
    obtain ⟨rfl, rfl⟩ := h
    exact ⟨0, rfl, Nat.le_refl _, by simpa using hI, ho, id, fun x hx => by simp at hx⟩
  | x :: l, pre, s, s', k, hI, ho, h => by
    simp only [goS] at h
    by_cases hx : x.Day ≤ day
    · rw [if_pos hx] at h
      cases hst : stepS pre.length s x with
      | inl s1 =>
        rw [hst] at h
        obtain ⟨hv, hd, l', rfl, hdeed⟩ := step_deed hst
        obtain ⟨h1, _, _, h4⟩ := step_ok ho hst
        have hI' := hs pre x s l' hI ho hv hd hx hdeed
        have e : (pre ++ [x]).length = pre.length + 1 := by simp
        obtain ⟨q, g1, g2, g3, g4, g5, g6⟩ := go_hist I hs l (pre ++ [x]) ⟨l', x.Day⟩ s' k hI' (by rw [e]; exact h1) (by rw [e]; exact h)
        refine ⟨q + 1, by rw [g1, e]; omega, by simp; omega, by simpa using g3, g4, fun _ => g5 hx, fun y hy => g6 y (by simpa using hy)⟩
      | inr e => rw [hst] at h; cases h
    · rw [if_neg hx] at h
      simp only [Prod.mk.injEq, Sum.inl.injEq] at h
      obtain ⟨rfl, rfl⟩ := h
      exact ⟨0, rfl, Nat.zero_le _, by simpa using hI, ho, id, fun y hy => by simp at hy; subst hy; omega⟩
theorem play_hist {l : List Ev} {day : Int} {all : List Held} {k : Nat} (I : List Ev → Cur → Prop) (h0 : I [] ⟨[], 0⟩) (hs : ∀ pre x s l', I pre s → SOk pre.length s → evB x = true → s.last ≤ x.Day → x.Day ≤ day → EvD (atS x.Day s) x pre.length l' → I (pre ++ [x]) ⟨l', x.Day⟩)
    (h : playS l day = (.inl all, k)) : ∃ s, all = atS day s ∧ I (l.take k) s ∧ SOk k s ∧ s.last ≤ day ∧ 0 ≤ day ∧ day ≤ 65536 ∧ k ≤ l.length ∧ ∀ x, l[k]? = some x → day < x.Day := by
  unfold playS at h
  split at h
  · cases h
  · split at h
    · cases h
    · rename_i hb
      have hday : inB day 0 65536 = true := by simpa using hb
      have hday := inB_iff.1 hday
      unfold runS at h
      cases hg : goS day l 0 ⟨[], 0⟩ with
      | mk r q =>
        rw [hg] at h
        cases r with
        | inr e => cases h
        | inl s' =>
          cases h
          obtain ⟨p, g1, g2, g3, g4, g5, g6⟩ := go_hist I hs l [] ⟨[], 0⟩ s' _ h0 SOk.start hg
          have : p = k := by rw [g1]; simp
          subst this
          exact ⟨s', rfl, by simpa using g3, g4, g5 hday.1, hday.1, hday.2, g2, g6⟩
theorem go_le {day : Int} : ∀ (l : List Ev) (n : Nat) (s : Cur) (r : Cur ⊕ Int) (k : Nat), goS day l n s = (r, k) → k ≤ n + l.length
  | [], n, s, r, k, h => by
    simp only [goS, Prod.mk.injEq] at h
    simp [← h.2]
  | x :: l, n, s, r, k, h => by
    simp only [goS] at h
    split at h
    · split at h
      · have := go_le l _ _ _ _ h
        simp; omega
      · simp only [Prod.mk.injEq] at h
        simp [← h.2]
    · simp only [Prod.mk.injEq] at h
      simp [← h.2]
theorem play_le {l : List Ev} {day : Int} {r : List Held ⊕ Int} {k : Nat} (h : playS l day = (r, k)) : k ≤ l.length := by
  unfold playS at h
  split at h
  · simp only [Prod.mk.injEq] at h; omega
  · split at h
    · simp only [Prod.mk.injEq] at h; omega
    · unfold runS at h
      cases hg : goS day l 0 ⟨[], 0⟩ with
      | mk r' q =>
        have := go_le _ _ _ _ _ hg
        rw [hg] at h
        cases r' <;> (simp only [Prod.mk.injEq] at h; omega)
end Go.Proofs.Ytkedjmhhcekmiaa
end

section
namespace Go.Proofs.Ytkedjmhhcekmiaa
open Go.Dec
def stG : Nat → Cur → List Ev → Option Cur
  | _, s, [] => some s
  | n, s, x :: l => match stepS n s x with
    | .inl s' => stG (n + 1) s' l
    | .inr _ => none
def stS (l : List Ev) : Option Cur := stG 0 ⟨[], 0⟩ l
theorem stG_app : ∀ (a b : List Ev) (n : Nat) (s : Cur), stG n s (a ++ b) = (stG n s a).bind fun s' => stG (n + a.length) s' b
  | [], b, n, s => rfl
  | x :: a, b, n, s => by
    simp only [List.cons_append, stG]
    cases stepS n s x with
    | inl s' =>
      simp only [List.length_cons]
      rw [stG_app a b (n + 1) s']
      have : n + 1 + a.length = n + (a.length + 1) := by omega
      rw [this]
    | inr e => rfl
theorem stG_ok : ∀ (l : List Ev) (n : Nat) (s s' : Cur), SOk n s → stG n s l = some s' → SOk (n + l.length) s'
  | [], n, s, s', ho, h => by simp only [stG, Option.some.injEq] at h; subst h; exact ho
  | x :: l, n, s, s', ho, h => by
    simp only [stG] at h
    cases hs : stepS n s x with
    | inl s1 =>
      rw [hs] at h
      have := stG_ok l (n + 1) s1 s' (step_ok ho hs).1 h
      rw [List.length_cons, show n + (l.length + 1) = n + 1 + l.length by omega]; exact this
    | inr e => rw [hs] at h; cases h
theorem st_ok {l : List Ev} {s : Cur} (h : stS l = some s) : SOk l.length s := by
  have := stG_ok l 0 ⟨[], 0⟩ s SOk.start h
  rwa [Nat.zero_add] at this
theorem st_next {L pre post : List Ev} {x : Ev} {sL s : Cur} (hL : stS L = some sL) (e : L = pre ++ x :: post) (hs : stS pre = some s) :
    ∃ l', stepS pre.length s x = .inl ⟨l', x.Day⟩ ∧ stS (pre ++ [x]) = some ⟨l', x.Day⟩ ∧ EvD (atS x.Day s) x pre.length l' ∧ evB x = true ∧ s.last ≤ x.Day ∧ SOk pre.length s := by
  have h := hL
  subst e
  unfold stS at h hs
  rw [stG_app, hs, Option.bind_some, Nat.zero_add] at h
  simp only [stG] at h
  cases hst : stepS pre.length s x with
  | inr e => rw [hst] at h; cases h
  | inl s1 =>
    obtain ⟨hv, hd, l', rfl, d⟩ := step_deed hst
    refine ⟨l', rfl, ?_, d, hv, hd, st_ok hs⟩
    unfold stS
    rw [stG_app, hs, Option.bind_some, Nat.zero_add]
    simp only [stG, hst]
theorem go_st {day : Int} : ∀ (l : List Ev) (n : Nat) (s s' : Cur) (k : Nat), goS day l n s = (.inl s', k) → ∃ q, k = n + q ∧ q ≤ l.length ∧ stG n s (l.take q) = some s' ∧ (s.last ≤ day → s'.last ≤ day) ∧ (∀ x ∈ l.take q, x.Day ≤ day) ∧ ∀ x, l[q]? = some x → day < x.Day
  | [], n, s, s', k, h => by
    simp only [goS, Prod.mk.injEq, Sum.inl.injEq] at h
    obtain ⟨rfl, rfl⟩ := h
    exact ⟨0, rfl, Nat.le_refl _, rfl, id, fun x hx => by simp at hx, fun x hx => by simp at hx⟩
  | x :: l, n, s, s', k, h => by
    simp only [goS] at h
    by_cases hx : x.Day ≤ day
    · rw [if_pos hx] at h
      cases hst : stepS n s x with
      | inl s1 =>
        rw [hst] at h
        obtain ⟨q, g1, g2, g3, g4, g5, g6⟩ := go_st l (n + 1) s1 s' k h
        obtain ⟨_, _, l', rfl, _⟩ := step_deed hst
        refine ⟨q + 1, by omega, by simp; omega, ?_, fun _ => g4 hx, fun y hy => ?_, fun y hy => g6 y (by simpa using hy)⟩
        · simp only [List.take_succ_cons, stG, hst]; exact g3
        · rw [List.take_succ_cons] at hy
          rcases List.mem_cons.1 hy with rfl | hy
          · exact hx
          · exact g5 y hy
      | inr e => rw [hst] at h; cases h
    · rw [if_neg hx] at h
      simp only [Prod.mk.injEq, Sum.inl.injEq] at h
      obtain ⟨rfl, rfl⟩ := h
      exact ⟨0, rfl, Nat.zero_le _, rfl, id, fun y hy => by simp at hy, fun y hy => by simp at hy; subst hy; omega⟩
theorem play_st {l : List Ev} {day : Int} {all : List Held} {k : Nat} (h : playS l day = (.inl all, k)) : ∃ s, all = atS day s ∧ stS (l.take k) = some s ∧ s.last ≤ day ∧ k ≤ l.length ∧ (∀ x ∈ l.take k, x.Day ≤ day) ∧ ∀ x, l[k]? = some x → day < x.Day := by
  unfold playS at h
  split at h
  · cases h
  · split at h
    · cases h
    · rename_i hb
      have hday : inB day 0 65536 = true := by simpa using hb
      have hday := inB_iff.1 hday
      unfold runS at h
      cases hg : goS day l 0 ⟨[], 0⟩ with
      | mk r q =>
        rw [hg] at h
        cases r with
        | inr e => cases h
        | inl s' =>
          cases h
          obtain ⟨p, g1, g2, g3, g4, g5, g6⟩ := go_st l 0 ⟨[], 0⟩ s' _ hg
          have : p = k := by omega
          subst this
          exact ⟨s', rfl, g3, g4 hday.1, g2, g5, g6⟩
section
variable {V : Type}
theorem mapGet_set {k n : Int} {v : V} : ∀ {l : List (Int × V)}, mapGet (mapSet l k v) n = if n == k then some v else mapGet l n
  | [] => by simp [mapSet, mapGet]
  | x :: l => by
    simp only [mapSet]
    by_cases h : k = x.1
    · have : (k == x.1) = true := by simp [h]
      rw [if_pos this]
      simp only [mapGet]
      by_cases h2 : n = k
      · subst h2; simp
      · have e1 : (n == k) = false := by simpa using h2
        have e2 : (n == x.1) = false := by simpa using fun e => h2 (by rw [e, h])
        simp [e1, e2]
    · have : (k == x.1) = false := by simpa using h
      rw [if_neg (by simp [this])]
      simp only [mapGet]
      rw [mapGet_set (l := l)]
      by_cases h2 : n = x.1
      · have e1 : (n == x.1) = true := by simp [h2]
        have e2 : (n == k) = false := by simpa using fun e => h (by rw [← e, h2])
        simp [e1, e2]
      · have e1 : (n == x.1) = false := by simpa using h2
        simp [e1]
end
end Go.Proofs.Ytkedjmhhcekmiaa
end

section
namespace Go.Proofs.Ytkedjmhhcekmiaa
open Go.Dec
theorem find_same {n : Int} : ∀ {a b : List Held}, a.map (·.C.Number) = b.map (·.C.Number) → findS a n = findS b n
  | [], [], _ => rfl
  | [], _ :: _, h => by simp at h
  | _ :: _, [], h => by simp at h
  | x :: a, y :: b, h => by
    simp only [List.map_cons, List.cons.injEq] at h
    simp only [findS, h.1, find_same h.2]
theorem set_nums {l : List Held} {i : Nat} {c h' : Held} (hi : l[i]? = some c) (hn : h'.C.Number = c.C.Number) : (l.set i h').map (·.C.Number) = l.map (·.C.Number) := by
  apply List.ext_getElem?
  intro j
  simp only [List.getElem?_map, List.getElem?_set]
  by_cases e : i = j
  · subst e
    have hlt := (List.getElem?_eq_some_iff.1 hi).1
    have hh := (List.getElem?_eq_some_iff.1 hi).2
    simp [hlt, hn, hh]
  · simp [e]
theorem findH_set {l : List Held} {i : Nat} {c h' : Held} (hnd : (l.map (·.C.Number)).Nodup) (hi : l[i]? = some c) (hn : h'.C.Number = c.C.Number) (n : Int) : findH (l.set i h') n = if n = c.C.Number then some h' else findH l n := by
  unfold findH
  rw [find_same (set_nums hi hn)]
  have hlt := (List.getElem?_eq_some_iff.1 hi).1
  by_cases e : n = c.C.Number
  · subst e
    rw [if_pos rfl, find_of hnd hi, Option.bind_some, List.getElem?_set_self hlt]
  · rw [if_neg e]
    cases hf : findS l n with
    | none => rfl
    | some j =>
      obtain ⟨h, h1, h2⟩ := find_some hf
      have : i ≠ j := fun e' => by subst e'; rw [hi] at h1; cases h1; exact e h2.symm
      simp only [Option.bind_some]
      rw [List.getElem?_set_ne this]
theorem find_app_none {n : Int} {h : Held} : ∀ {l : List Held}, findS l n = none → findS (l ++ [h]) n = if h.C.Number == n then some l.length else none
  | [], _ => by simp [findS]
  | y :: l, e => by
    simp only [findS] at e
    by_cases hy : (y.C.Number == n) = true
    · rw [if_pos hy] at e; cases e
    · rw [if_neg hy] at e
      have e' : findS l n = none := by simpa using e
      simp only [List.cons_append, findS]
      rw [if_neg hy, find_app_none e']
      split <;> simp
theorem find_app_some {n : Int} {h : Held} {j : Nat} : ∀ {l : List Held}, findS l n = some j → findS (l ++ [h]) n = some j
  | [], e => by cases e
  | y :: l, e => by
    simp only [findS] at e
    simp only [List.cons_append, findS]
    by_cases hy : (y.C.Number == n) = true
    · rw [if_pos hy] at e ⊢; exact e
    · rw [if_neg hy] at e ⊢
      cases hf : findS l n with
      | none => rw [hf] at e; cases e
      | some q => rw [hf] at e; rw [find_app_some hf]; exact e
theorem findH_app {l : List Held} {h : Held} (hf : findS l h.C.Number = none) (n : Int) : findH (l ++ [h]) n = if n = h.C.Number then some h else findH l n := by
  unfold findH
  by_cases e : n = h.C.Number
  · subst e
    rw [if_pos rfl, find_app_none hf]
    simp
  · rw [if_neg e]
    cases hg : findS l n with
    | none =>
      rw [find_app_none hg]
      have : (h.C.Number == n) = false := by simpa using fun e' => e e'.symm
      simp [this]
    | some j =>
      rw [find_app_some hg]
      obtain ⟨x, h1, _⟩ := find_some hg
      simp only [Option.bind_some]
      rw [List.getElem?_append_left (List.getElem?_eq_some_iff.1 h1).1]
theorem findH_older (d : Int) (l : List Held) (n : Int) : findH (l.map (olderS d)) n = (findH l n).map (olderS d) := by
  unfold findH
  rw [find_map (fun h => older_num)]
  cases findS l n with
  | none => rfl
  | some i => simp
theorem findH_of {l : List Held} {n : Int} {i : Nat} {c : Held} (f : findS l n = some i) (h : l[i]? = some c) : findH l n = some c := by simp [findH, f, h]
theorem findH_num {l : List Held} {n : Int} {c : Held} (h : findH l n = some c) : c.C.Number = n ∧ c ∈ l := by
  unfold findH at h
  cases hf : findS l n with
  | none => rw [hf] at h; cases h
  | some i =>
    rw [hf, Option.bind_some] at h
    obtain ⟨c', h1, h2⟩ := find_some hf
    rw [h] at h1; cases h1
    exact ⟨h2, List.mem_of_getElem? h⟩
theorem find_num {l : List Held} {n : Int} {i : Nat} {c : Held} (f : findS l n = some i) (h : l[i]? = some c) : c.C.Number = n := (findH_num (findH_of f h)).1
end Go.Proofs.Ytkedjmhhcekmiaa
end

section
namespace Go.Proofs.Ytkedjmhhcekmiaa
open Go.Dec
def amtF (l : List Held) (n : Int) : Int := ((findH l n).map (·.C.Amount)).getD 0
structure Dr (f : Nat) (age : Int) (iw ap : Nat → Int) (h : Held) : Prop where
  amt : 0 < h.C.Amount
  age : h.C.Age ≤ age
  iw : ∀ k, h.C.Woods k ≤ iw k
  ap : ∀ k, h.C.Places k ≤ ap k
  fill : (f : Int) ∈ h.Fills
structure DropE (f cnt : Nat) (now : Int) (l : List Held) (am wo pl : List (Int × Int)) (age here : Int) (iw ap : Nat → Int) : Prop where
  am : ∀ n, (mapGet am n).getD 0 = amtF l n
  wo : ∀ n h, findH l n = some h → mapGet wo n = some h.C.Wood
  pl : ∀ n h, findH l n = some h → mapGet pl n = some h.C.Place
  ag : 0 ≤ age ∧ age ≤ now
  wi : ∀ k, 0 ≤ iw k ∧ iw k ≤ now
  pa : ∀ k, 0 ≤ ap k ∧ ap k ≤ now
  drop : (here = -1 ∧ cnt ≤ f) ∨ (f < cnt ∧ ∃ h, findH l here = some h ∧ Dr f age iw ap h)
section
variable {f cnt : Nat} {last age here n : Int} {l : List Held} {am wo pl : List (Int × Int)} {iw ap : Nat → Int} {h o c s : Held}
theorem Dr.of_pour (d : Dr f age iw ap s) (ho : HOk last cnt o) (ha : 0 < n) (hi : ∀ k, 0 ≤ iw k) (hp : ∀ k, 0 ≤ ap k) : Dr f age iw ap (pourS o s n) := by
  have h0 := ho.amt.1
  refine ⟨by rw [pour_amt']; omega, ?_, fun k => ?_, fun k => ?_, ?_⟩
  · unfold pourS
    split
    · exact d.age
    · have := d.age; have := imin_le (a := o.C.Age) (b := s.C.Age); show imin _ _ ≤ _; omega
  · unfold pourS
    split
    · exact d.iw k
    · show minN _ _ k ≤ _
      unfold minN
      have := d.iw k; have := imin_le (a := o.C.Woods k) (b := s.C.Woods k)
      split
      · omega
      · have := ho.woods.out k (by omega); have := hi k; omega
  · unfold pourS
    split
    · exact d.ap k
    · show minN _ _ k ≤ _
      unfold minN
      have := d.ap k; have := imin_le (a := o.C.Places k) (b := s.C.Places k)
      split
      · omega
      · have := ho.places.out k (by omega); have := hp k; omega
  · unfold pourS
    split
    · exact d.fill
    · exact mem_uniS.2 (.inr d.fill)
where
  pour_amt' : (pourS o s n).C.Amount = o.C.Amount + n := by unfold pourS; split <;> rfl
theorem Dr.to_pour (d : Dr f age iw ap o) (ha : 0 < n) : Dr f age iw ap (pourS o s n) := by
  have h0 := d.amt
  have hb : (o.C.Amount == 0) = false := by rw [beq_eq_false_iff_ne]; omega
  unfold pourS
  rw [if_neg (by simp [hb])]
  refine ⟨by show 0 < o.C.Amount + n; omega, ?_, fun k => ?_, fun k => ?_, mem_uniS.2 (.inl d.fill)⟩
  · have := d.age; have := imin_le (a := o.C.Age) (b := s.C.Age); show imin _ _ ≤ _; omega
  · show minN _ _ k ≤ _
    unfold minN
    have := d.iw k; have := imin_le (a := o.C.Woods k) (b := s.C.Woods k)
    split <;> omega
  · show minN _ _ k ≤ _
    unfold minN
    have := d.ap k; have := imin_le (a := o.C.Places k) (b := s.C.Places k)
    split <;> omega
theorem Dr.less (d : Dr f age iw ap c) (ha : n < c.C.Amount) : Dr f age iw ap (lessS c n) := by
  have hb : (c.C.Amount - n == 0) = false := by rw [beq_eq_false_iff_ne]; omega
  unfold lessS
  rw [if_neg (by simp [hb])]
  exact ⟨by show 0 < c.C.Amount - n; omega, d.age, d.iw, d.ap, d.fill⟩
theorem Dr.filled (ho : HOk last cnt o) (ha : 0 < n) (h0 : 0 ≤ age) (hi : ∀ k, 0 ≤ iw k) (hp : ∀ k, 0 ≤ ap k) : Dr f age iw ap (pourS o (fillS f) n) := by
  have h1 := ho.amt.1
  have hag := ho.age.1
  refine ⟨by rw [show (pourS o (fillS f) n).C.Amount = o.C.Amount + n by unfold pourS; split <;> rfl]; omega, ?_, fun k => ?_, fun k => ?_, ?_⟩
  · unfold pourS
    split
    · exact h0
    · have := imin_le (a := o.C.Age) (b := 0); show imin o.C.Age 0 ≤ _; omega
  · unfold pourS
    split
    · exact hi k
    · show minN _ zN k ≤ _
      unfold minN
      have := hi k; have := imin_le (a := o.C.Woods k) (b := zN k)
      split
      · have : zN k = 0 := rfl; omega
      · have := ho.woods.out k (by omega); omega
  · unfold pourS
    split
    · exact hp k
    · show minN _ zN k ≤ _
      unfold minN
      have := hp k; have := imin_le (a := o.C.Places k) (b := zN k)
      split
      · have : zN k = 0 := rfl; omega
      · have := ho.places.out k (by omega); omega
  · unfold pourS
    split
    · simp [fillS]
    · exact mem_uniS.2 (.inr (by simp [fillS]))
theorem Dr.older (d : Dr f age iw ap h) {w p : Nat} (hw : h.C.Wood.toNat = w) (hp : h.C.Place.toNat = p) : Dr f (age + n) (updN iw w (iw w + n)) (updN ap p (ap p + n)) (olderS n h) := by
  subst hw; subst hp
  have hi : ∀ (g u : Nat → Int) (j k : Nat), g k ≤ u k → g j ≤ u j → updN g j (g j + n) k ≤ updN u j (u j + n) k := fun g u j k h1 h2 => by
    by_cases e : k = j
    · subst e; rw [updN_self, updN_self]; omega
    · rw [updN_ne e, updN_ne e]; exact h1
  unfold olderS
  rw [if_pos d.amt]
  exact ⟨d.amt, by have := d.age; show h.C.Age + n ≤ age + n; omega, fun k => hi _ _ _ k (d.iw k) (d.iw _), fun k => hi _ _ _ k (d.ap k) (d.ap _), d.fill⟩
theorem amtF_older : amtF (l.map (olderS n)) = amtF l := by
  funext m
  unfold amtF
  rw [findH_older]
  cases findH l m with
  | none => rfl
  | some x => simp only [Option.map_some]; unfold olderS; split <;> rfl
theorem upd_range {g : Nat → Int} {last n : Int} {j : Nat} (h : ∀ k, 0 ≤ g k ∧ g k ≤ last) (hn : 0 ≤ n) (k : Nat) : 0 ≤ updN g j (g j + n) k ∧ updN g j (g j + n) k ≤ last + n := by
  by_cases e : k = j
  · subst e; rw [updN_self]; have := h k; omega
  · rw [updN_ne e]; have := h k; omega
theorem DropE.older (d : DropE f cnt last l am wo pl age here iw ap) (ho : AOk last cnt l) (hn : 0 ≤ n) {w p : Nat} (hw : ((mapGet wo here).getD 0).toNat = w) (hp : ((mapGet pl here).getD 0).toNat = p) :
    (here < 0 → DropE f cnt (last + n) (l.map (olderS n)) am wo pl age here iw ap) ∧ (0 ≤ here → DropE f cnt (last + n) (l.map (olderS n)) am wo pl (age + n) here (updN iw w (iw w + n)) (updN ap p (ap p + n))) := by
  have hwo : ∀ m h, findH (l.map (olderS n)) m = some h → mapGet wo m = some h.C.Wood := fun m h hh => by
    rw [findH_older] at hh
    cases e : findH l m with
    | none => rw [e] at hh; cases hh
    | some y =>
      rw [e] at hh; simp only [Option.map_some, Option.some.injEq] at hh
      rw [d.wo m y e, ← hh]; unfold olderS; split <;> rfl
  have hpl : ∀ m h, findH (l.map (olderS n)) m = some h → mapGet pl m = some h.C.Place := fun m h hh => by
    rw [findH_older] at hh
    cases e : findH l m with
    | none => rw [e] at hh; cases hh
    | some y =>
      rw [e] at hh; simp only [Option.map_some, Option.some.injEq] at hh
      rw [d.pl m y e, ← hh]; unfold olderS; split <;> rfl
  have ha := d.ag
  refine ⟨fun hneg => ⟨fun m => by rw [amtF_older]; exact d.am m, hwo, hpl, by omega, fun k => by have := d.wi k; omega, fun k => by have := d.pa k; omega, ?_⟩, fun hpos => ⟨fun m => by rw [amtF_older]; exact d.am m, hwo, hpl, by omega, upd_range d.wi hn, upd_range d.pa hn, ?_⟩⟩
  · rcases d.drop with h1 | ⟨h1, h, h2, h3⟩
    · exact .inl h1
    · have hnum := findH_num h2
      have := (ho.each h hnum.2).num
      omega
  · rcases d.drop with h1 | ⟨h1, h, h2, h3⟩
    · omega
    · have hnum := findH_num h2
      refine .inr ⟨h1, olderS n h, by rw [findH_older, h2]; rfl, h3.older ?_ ?_⟩
      · rw [← hw, d.wo _ h h2]; rfl
      · rw [← hp, d.pl _ h h2]; rfl
end
end Go.Proofs.Ytkedjmhhcekmiaa
end

section
namespace Go.Proofs.Ytkedjmhhcekmiaa
open Go.Dec
section
variable {f cnt : Nat} {now age here : Int} {L : List Held} {am wo pl : List (Int × Int)} {iw ap : Nat → Int} {x : Ev} {i : Nat} {c h' : Held}
theorem amtF_at (hnd : (L.map (·.C.Number)).Nodup) (hi : L[i]? = some c) : amtF L c.C.Number = c.C.Amount := by
  unfold amtF; rw [findH_of (find_of hnd hi) hi]; rfl
theorem am_set (hnd : (L.map (·.C.Number)).Nodup) (hi : L[i]? = some c) (hn : h'.C.Number = c.C.Number) (ha : ∀ n, (mapGet am n).getD 0 = amtF L n) (q : Int) (hq : c.C.Number = q) (v : Int) (hv : v = h'.C.Amount) (n : Int) : (mapGet (mapSet am q v) n).getD 0 = amtF (L.set i h') n := by
  rw [mapGet_set]
  unfold amtF
  rw [findH_set hnd hi hn, hq]
  by_cases e : n = q
  · rw [if_pos (by simp [e]), if_pos e, hv]; rfl
  · rw [if_neg (by simp [e]), if_neg e]; exact ha n
theorem am_same (hnd : (L.map (·.C.Number)).Nodup) (hi : L[i]? = some c) (hn : h'.C.Number = c.C.Number) (ha : ∀ n, (mapGet am n).getD 0 = amtF L n) (hv : h'.C.Amount = c.C.Amount) (n : Int) : (mapGet am n).getD 0 = amtF (L.set i h') n := by
  rw [ha]
  unfold amtF
  rw [findH_set hnd hi hn]
  split
  · rename_i e; subst e; rw [findH_of (find_of hnd hi) hi]; simp [hv]
  · rfl
theorem wp_same {W : ApiCask → Int} (hnd : (L.map (·.C.Number)).Nodup) (hi : L[i]? = some c) (hn : h'.C.Number = c.C.Number) (hw : ∀ n h, findH L n = some h → mapGet wo n = some (W h.C)) (hv : W h'.C = W c.C) (n : Int) (h : Held) (hh : findH (L.set i h') n = some h) : mapGet wo n = some (W h.C) := by
  rw [findH_set hnd hi hn] at hh
  split at hh
  · rename_i e
    cases hh
    rw [e, hw _ c (findH_of (find_of hnd hi) hi), hv]
  · exact hw n h hh
theorem wp_set {W : ApiCask → Int} (hnd : (L.map (·.C.Number)).Nodup) (hi : L[i]? = some c) (hn : h'.C.Number = c.C.Number) (hw : ∀ n h, findH L n = some h → mapGet wo n = some (W h.C)) (q : Int) (hq : c.C.Number = q) (v : Int) (hv : v = W h'.C) (n : Int) (h : Held) (hh : findH (L.set i h') n = some h) : mapGet (mapSet wo q v) n = some (W h.C) := by
  rw [mapGet_set]
  rw [findH_set hnd hi hn, hq] at hh
  by_cases e : n = q
  · rw [if_pos e] at hh; cases hh; rw [if_pos (by simp [e]), hv]
  · rw [if_neg e] at hh; rw [if_neg (by simp [e])]; exact hw n h hh
theorem drop_set (hnd : (L.map (·.C.Number)).Nodup) (hi : L[i]? = some c) (hn : h'.C.Number = c.C.Number) (hd : (here = -1 ∧ cnt ≤ f) ∨ (f < cnt ∧ ∃ h, findH L here = some h ∧ Dr f age iw ap h)) (hf : cnt ≠ f) (hk : here = c.C.Number → Dr f age iw ap c → Dr f age iw ap h') :
    (here = -1 ∧ cnt + 1 ≤ f) ∨ (f < cnt + 1 ∧ ∃ h, findH (L.set i h') here = some h ∧ Dr f age iw ap h) := by
  rcases hd with ⟨h1, h2⟩ | ⟨h1, h, h2, h3⟩
  · exact .inl ⟨h1, by omega⟩
  · refine .inr ⟨by omega, ?_⟩
    rw [findH_set hnd hi hn]
    by_cases e : here = c.C.Number
    · rw [if_pos e]
      rw [e, findH_of (find_of hnd hi) hi] at h2
      cases h2
      exact ⟨_, rfl, hk e h3⟩
    · rw [if_neg e]; exact ⟨h, h2, h3⟩
theorem DropE.make (d : DropE f cnt now L am wo pl age here iw ap) (hv : evB x = true) (hf : cnt ≠ f) (fn : findS L x.Cask = none) : DropE f (cnt + 1) now (L ++ [newS x]) am (mapSet wo x.Cask x.Other) (mapSet pl x.Cask x.Where) age here iw ap := by
  have hF := findH_app (h := newS x) fn
  have h0 : findH L x.Cask = none := by simp [findH, fn]
  have hne : (newS x).C.Number = x.Cask := rfl
  have hcask := (evB_base hv).2.1
  refine ⟨fun n => ?_, fun n h hh => ?_, fun n h hh => ?_, d.ag, d.wi, d.pa, ?_⟩
  · rw [d.am]; unfold amtF; rw [hF n]
    split
    · rename_i e; rw [hne] at e; subst e; rw [h0]; rfl
    · rfl
  · rw [hF n] at hh
    rw [mapGet_set]
    by_cases e : n = x.Cask
    · rw [if_pos (by rw [hne]; exact e)] at hh; cases hh; rw [if_pos (by simp [e])]; rfl
    · rw [if_neg (by rw [hne]; exact e)] at hh; rw [if_neg (by simp [e])]; exact d.wo n h hh
  · rw [hF n] at hh
    rw [mapGet_set]
    by_cases e : n = x.Cask
    · rw [if_pos (by rw [hne]; exact e)] at hh; cases hh; rw [if_pos (by simp [e])]; rfl
    · rw [if_neg (by rw [hne]; exact e)] at hh; rw [if_neg (by simp [e])]; exact d.pl n h hh
  · rcases d.drop with ⟨h1, h2⟩ | ⟨h1, h, h2, h3⟩
    · exact .inl ⟨h1, by omega⟩
    · refine .inr ⟨by omega, h, ?_, h3⟩
      rw [hF here, if_neg]
      · exact h2
      · rw [hne]; intro e; rw [e, h0] at h2; cases h2
variable (d : DropE f cnt now L am wo pl age here iw ap) (hnd : (L.map (·.C.Number)).Nodup)
include d hnd
theorem DropE.fill (ho : HOk now cnt c) (hx : x.Kind = 1) (hv : evB x = true) (fn : findS L x.Cask = some i) (hi : L[i]? = some c) :
    DropE f (cnt + 1) now (L.set i (pourS c (fillS cnt) x.Amount)) (mapSet am x.Cask (c.C.Amount + x.Amount)) wo pl age (if cnt = f then x.Cask else here) iw ap := by
  have hq := find_num fn hi
  have ha := (evAmt hv (.inl hx)).1
  have hn : (pourS c (fillS cnt) x.Amount).C.Number = c.C.Number := by unfold pourS; split <;> rfl
  refine ⟨am_set hnd hi hn d.am _ hq _ (by unfold pourS; split <;> rfl), wp_same (W := (·.Wood)) hnd hi hn d.wo (by unfold pourS; split <;> rfl), wp_same (W := (·.Place)) hnd hi hn d.pl (by unfold pourS; split <;> rfl), d.ag, d.wi, d.pa, ?_⟩
  by_cases e : cnt = f
  · rw [if_pos e]
    refine .inr ⟨by omega, pourS c (fillS cnt) x.Amount, ?_, ?_⟩
    · rw [findH_set hnd hi hn, if_pos hq.symm]
    · subst e; exact Dr.filled ho (by omega) d.ag.1 (fun k => (d.wi k).1) (fun k => (d.pa k).1)
  · rw [if_neg e]
    exact drop_set hnd hi hn d.drop e fun _ h => h.to_pour (by omega)
theorem DropE.rack {j : Nat} {o : Held} {goes : Bool} (hoo : HOk now cnt o) (hx : x.Kind = 2) (hv : evB x = true) (hf : cnt ≠ f) (fn : findS L x.Cask = some i) (hi : L[i]? = some c) (fo : findS L x.Other = some j) (hj : L[j]? = some o) (ne : i ≠ j) (le : x.Amount ≤ c.C.Amount)
    (g1 : goes = true → here = x.Cask) (g2 : here = x.Cask → x.Amount = c.C.Amount → goes = true) :
    DropE f (cnt + 1) now ((L.set j (pourS o c x.Amount)).set i (lessS c x.Amount)) (mapSet (mapSet am x.Cask (c.C.Amount - x.Amount)) x.Other (o.C.Amount + x.Amount)) wo pl age (if goes = true then x.Other else here) iw ap ∧ x.Cask ≠ x.Other := by
  have hq := find_num fn hi
  have hqo := find_num fo hj
  have hne : x.Cask ≠ x.Other := fun e => by rw [e, fo] at fn; cases fn; exact ne rfl
  have ha := (evAmt hv (.inr (.inl hx))).1
  have hn : (pourS o c x.Amount).C.Number = o.C.Number := by unfold pourS; split <;> rfl
  have hnl : (lessS c x.Amount).C.Number = c.C.Number := by unfold lessS; split <;> rfl
  rw [List.set_comm _ _ (Ne.symm ne)]
  have hnd' : ((L.set i (lessS c x.Amount)).map (·.C.Number)).Nodup := by rw [set_nums hi hnl]; exact hnd
  have hj' : (L.set i (lessS c x.Amount))[j]? = some o := by rw [List.getElem?_set_ne ne]; exact hj
  refine ⟨⟨am_set hnd' hj' hn (am_set hnd hi hnl d.am _ hq _ (less_amt' c x.Amount).symm) _ hqo _ (by unfold pourS; split <;> rfl), wp_same (W := (·.Wood)) hnd' hj' hn (wp_same (W := (·.Wood)) hnd hi hnl d.wo (by unfold lessS; split <;> rfl)) (by unfold pourS; split <;> rfl), wp_same (W := (·.Place)) hnd' hj' hn (wp_same (W := (·.Place)) hnd hi hnl d.pl (by unfold lessS; split <;> rfl)) (by unfold pourS; split <;> rfl), d.ag, d.wi, d.pa, ?_⟩, hne⟩
  rcases d.drop with ⟨h1, h2⟩ | ⟨h1, h, h2, h3⟩
  · have hc0 := (evB_base hv).2.1
    have : goes = false := by
      cases hg : goes with
      | false => rfl
      | true => have := g1 hg; omega
    rw [this, if_neg (by simp)]
    exact .inl ⟨h1, by omega⟩
  · refine .inr ⟨by omega, ?_⟩
    rw [findH_set hnd' hj' hn]
    cases hg : goes with
    | true =>
      have e := g1 hg
      rw [if_pos rfl, if_pos hqo.symm]
      rw [e, ← hq, findH_of (find_of hnd hi) hi] at h2
      cases h2
      exact ⟨_, rfl, h3.of_pour hoo (by omega) (fun k => (d.wi k).1) (fun k => (d.pa k).1)⟩
    | false =>
      simp only [Bool.false_eq_true, if_false]
      rw [findH_set hnd hi hnl, hqo, hq]
      by_cases e1 : here = x.Other
      · rw [if_pos e1]
        rw [e1, ← hqo, findH_of (find_of hnd hj) hj] at h2
        cases h2
        exact ⟨_, rfl, h3.to_pour (by omega)⟩
      · rw [if_neg e1]
        by_cases e2 : here = x.Cask
        · rw [if_pos e2]
          have hne2 : x.Amount ≠ c.C.Amount := fun e => by have := g2 e2 e; rw [hg] at this; cases this
          rw [e2, ← hq, findH_of (find_of hnd hi) hi] at h2
          cases h2
          exact ⟨_, rfl, h3.less (by omega)⟩
        · rw [if_neg e2]; exact ⟨h, h2, h3⟩
where
  less_amt' (h : Held) (n : Int) : (lessS h n).C.Amount = h.C.Amount - n := by
    unfold lessS
    split
    · rename_i e; have := beq_iff_eq.1 e; show (0 : Int) = _; omega
    · rfl
theorem DropE.drain (hf : cnt ≠ f) (fn : findS L x.Cask = some i) (hi : L[i]? = some c) (le : x.Amount ≤ c.C.Amount) (g2 : here = x.Cask → x.Amount ≠ c.C.Amount) :
    DropE f (cnt + 1) now (L.set i (lessS c x.Amount)) (mapSet am x.Cask (c.C.Amount - x.Amount)) wo pl age here iw ap := by
  have hq := find_num fn hi
  have hnl : (lessS c x.Amount).C.Number = c.C.Number := by unfold lessS; split <;> rfl
  have hla : (lessS c x.Amount).C.Amount = c.C.Amount - x.Amount := by
    unfold lessS
    split
    · rename_i e; have := beq_iff_eq.1 e; show (0 : Int) = _; omega
    · rfl
  refine ⟨am_set hnd hi hnl d.am _ hq _ hla.symm, wp_same (W := (·.Wood)) hnd hi hnl d.wo (by unfold lessS; split <;> rfl), wp_same (W := (·.Place)) hnd hi hnl d.pl (by unfold lessS; split <;> rfl), d.ag, d.wi, d.pa, ?_⟩
  refine drop_set hnd hi hnl d.drop hf fun e h => h.less ?_
  have := g2 (e.trans hq)
  omega
theorem DropE.carry (hf : cnt ≠ f) (fn : findS L x.Cask = some i) (hi : L[i]? = some c) :
    DropE f (cnt + 1) now (L.set i { c with C := { c.C with Place := x.Where } }) am wo (mapSet pl x.Cask x.Where) age here iw ap := by
  have hq := find_num fn hi
  refine ⟨am_same hnd hi rfl d.am rfl, wp_same (W := (·.Wood)) hnd hi rfl d.wo rfl, wp_set (W := (·.Place)) (h' := { c with C := { c.C with Place := x.Where } }) hnd hi rfl d.pl _ hq _ rfl, d.ag, d.wi, d.pa, ?_⟩
  exact drop_set hnd hi rfl d.drop hf fun _ h => ⟨h.amt, h.age, h.iw, h.ap, h.fill⟩
theorem DropE.char (hf : cnt ≠ f) (fn : findS L x.Cask = some i) (hi : L[i]? = some c) (ha : c.C.Amount ≤ 0) :
    DropE f (cnt + 1) now (L.set i { c with C := { c.C with Wood := x.Where } }) am (mapSet wo x.Cask x.Where) pl age here iw ap := by
  have hq := find_num fn hi
  refine ⟨am_same hnd hi rfl d.am rfl, wp_set (W := (·.Wood)) (h' := { c with C := { c.C with Wood := x.Where } }) hnd hi rfl d.wo _ hq _ rfl, wp_same (W := (·.Place)) hnd hi rfl d.pl rfl, d.ag, d.wi, d.pa, ?_⟩
  exact drop_set hnd hi rfl d.drop hf fun _ h => by have := h.amt; omega
theorem DropE.other (hf : cnt ≠ f) (hi : L[i]? = some c) (h0 : h'.C.Number = c.C.Number) (h1 : h'.C.Amount = c.C.Amount) (h2 : h'.C.Wood = c.C.Wood) (h3 : h'.C.Place = c.C.Place) (h4 : h'.C.Age = c.C.Age) (h5 : h'.C.Woods = c.C.Woods) (h6 : h'.C.Places = c.C.Places) (h7 : h'.Fills = c.Fills) :
    DropE f (cnt + 1) now (L.set i h') am wo pl age here iw ap := by
  refine ⟨am_same hnd hi h0 d.am h1, wp_same (W := (·.Wood)) hnd hi h0 d.wo h2, wp_same (W := (·.Place)) hnd hi h0 d.pl h3, d.ag, d.wi, d.pa, ?_⟩
  exact drop_set hnd hi h0 d.drop hf fun _ h => ⟨by rw [h1]; exact h.amt, by rw [h4]; exact h.age, by rw [h5]; exact h.iw, by rw [h6]; exact h.ap, by rw [h7]; exact h.fill⟩
end
end Go.Proofs.Ytkedjmhhcekmiaa
end

section
namespace Go.Proofs.Ytkedjmhhcekmiaa
open Go.Dec
theorem Try.own : ownKnob Try.prog.godebug = none := by kernel_rfl
theorem Try.laidOut : laidOutB Try.prog = true := by kernel_rfl
def okApiCaskEvent (x : ApiCaskEvent) : Prop := (Lit.int .i64 x.Kind).wf = true ∧ (Lit.int .i64 x.Day).wf = true ∧ (Lit.int .i64 x.Cask).wf = true ∧ (Lit.int .i64 x.Other).wf = true ∧ (Lit.int .i64 x.Person).wf = true ∧ (Lit.int .i64 x.To).wf = true ∧ (Lit.int .i64 x.Amount).wf = true ∧ (Lit.int .i64 x.Where).wf = true
theorem vApiCaskEvent {H : Type} {enc : TypeId × Value → H} {W : World} : Viewed enc Try.prog W 45 (Ex cApiCaskEvent) okApiCaskEvent := by
 intro sp held fuel cs x h
 obtain ⟨xs, k, _, _, hl, hxl, hx⟩ := DataW.trod_struct Try.underlying45 h
 have hl' : cs.length = 8 := hl.trans (by kernel_rfl)
 obtain ⟨y0, h0⟩ := some_of (hx 0 _ rfl) hxl rfl
 have e0 : Try.prog.cellsOf 3 = 1 := by kernel_rfl
 obtain ⟨m0, o0, q0⟩ := (Viewed.int Try.underlying3) _ _ _ _ _ h0
 obtain ⟨y1, h1⟩ := some_of (hx 1 _ rfl) hxl rfl
 have e1 : Try.prog.cellsOf 3 = 1 := by kernel_rfl
 obtain ⟨m1, o1, q1⟩ := (Viewed.int Try.underlying3) _ _ _ _ _ h1
 obtain ⟨y2, h2⟩ := some_of (hx 2 _ rfl) hxl rfl
 have e2 : Try.prog.cellsOf 3 = 1 := by kernel_rfl
 obtain ⟨m2, o2, q2⟩ := (Viewed.int Try.underlying3) _ _ _ _ _ h2
 obtain ⟨y3, h3⟩ := some_of (hx 3 _ rfl) hxl rfl
 have e3 : Try.prog.cellsOf 3 = 1 := by kernel_rfl
 obtain ⟨m3, o3, q3⟩ := (Viewed.int Try.underlying3) _ _ _ _ _ h3
 obtain ⟨y4, h4⟩ := some_of (hx 4 _ rfl) hxl rfl
 have e4 : Try.prog.cellsOf 3 = 1 := by kernel_rfl
 obtain ⟨m4, o4, q4⟩ := (Viewed.int Try.underlying3) _ _ _ _ _ h4
 obtain ⟨y5, h5⟩ := some_of (hx 5 _ rfl) hxl rfl
 have e5 : Try.prog.cellsOf 3 = 1 := by kernel_rfl
 obtain ⟨m5, o5, q5⟩ := (Viewed.int Try.underlying3) _ _ _ _ _ h5
 obtain ⟨y6, h6⟩ := some_of (hx 6 _ rfl) hxl rfl
 have e6 : Try.prog.cellsOf 3 = 1 := by kernel_rfl
 obtain ⟨m6, o6, q6⟩ := (Viewed.int Try.underlying3) _ _ _ _ _ h6
 obtain ⟨y7, h7⟩ := some_of (hx 7 _ rfl) hxl rfl
 have e7 : Try.prog.cellsOf 3 = 1 := by kernel_rfl
 obtain ⟨m7, o7, q7⟩ := (Viewed.int Try.underlying3) _ _ _ _ _ h7
 refine ⟨⟨m0, m1, m2, m3, m4, m5, m6, m7⟩, ⟨o0, o1, o2, o3, o4, o5, o6, o7⟩, fun F' le => ?_⟩
 have w0 : (cs.drop 0).take (Try.prog.cellsOf 3) = (cInt .i64) m0 := q0 F' le
 rw [e0] at w0
 have w1 : (cs.drop 1).take (Try.prog.cellsOf 3) = (cInt .i64) m1 := q1 F' le
 rw [e1] at w1
 have w2 : (cs.drop 2).take (Try.prog.cellsOf 3) = (cInt .i64) m2 := q2 F' le
 rw [e2] at w2
 have w3 : (cs.drop 3).take (Try.prog.cellsOf 3) = (cInt .i64) m3 := q3 F' le
 rw [e3] at w3
 have w4 : (cs.drop 4).take (Try.prog.cellsOf 3) = (cInt .i64) m4 := q4 F' le
 rw [e4] at w4
 have w5 : (cs.drop 5).take (Try.prog.cellsOf 3) = (cInt .i64) m5 := q5 F' le
 rw [e5] at w5
 have w6 : (cs.drop 6).take (Try.prog.cellsOf 3) = (cInt .i64) m6 := q6 F' le
 rw [e6] at w6
 have w7 : (cs.drop 7).take (Try.prog.cellsOf 3) = (cInt .i64) m7 := q7 F' le
 rw [e7] at w7
 exact (cat_cons w0 (cat_cons w1 (cat_cons w2 (cat_cons w3 (cat_cons w4 (cat_cons w5 (cat_cons w6 (cat_cons w7 (cat_nil hl')))))))))
theorem vt22 {H : Type} {enc : TypeId × Value → H} {W : World} : Viewed enc Try.prog W 22 (rSl 8 (Ex cApiCaskEvent)) (fun x => (∀ y1 ∈ x, okApiCaskEvent y1)) := (Viewed.slice (sz := 8) Try.underlying22 (by kernel_rfl) (by decide) vApiCaskEvent)
theorem vt43 {H : Type} {enc : TypeId × Value → H} {W : World} : Viewed enc Try.prog W 43 (rSl 1 (Ex (cInt .u8))) (fun x => (∀ y1 ∈ x, (Lit.int .u8 y1).wf = true)) := (Viewed.slice (sz := 1) Try.underlying43 (by kernel_rfl) (by decide) (Viewed.int Try.underlying5))
end Go.Proofs.Ytkedjmhhcekmiaa
end

section
namespace Go.Proofs.Ytkedjmhhcekmiaa
open Go.Dec Go.Shelf Go.RowKit Go.Maps Go.Sort
noncomputable def b_wormtublaw06_drop_1 (l_1 : (List ApiCaskEvent)) (fill5 : Int) (day6 : Int) (by_7 : (List Int)) (s23 : (List (Int × Int)) × (List (Int × Int)) × (List (Int × Int)) × Int × Int × Int × Int × (Nat → Int) × (Nat → Int)) : Option (Ctl ((List (Int × Int)) × (List (Int × Int)) × (List (Int × Int)) × Int × Int × Int × Int × (Nat → Int) × (Nat → Int)) (((List (Int × Int)) × (List (Int × Int)) × (List (Int × Int)) × Int × Int × (Nat → Int) × (Nat → Int)) ⊕ (Int × Int × (Nat → Int) × (Nat → Int) × Bool))) :=
 if (decide (s23.2.2.2.2.2.2.1 ≤ (l_1.length : Int))) then ((if (decide (s23.2.2.2.2.2.2.1 < (l_1.length : Int))) then ((idxL l_1 s23.2.2.2.2.2.2.1).bind fun x37 => some (decide (x37.Day ≤ day6))) else some false).bind fun z50 => (if z50 then ((idxL l_1 s23.2.2.2.2.2.2.1).bind fun x53 => some x53.Day) else (some day6) : Option (Int)).bind fun j63 => (if (decide (s23.2.2.2.2.1 ≥ 0)) then (bindv (w64 ((w64 (s23.2.2.2.1 + j63)) - s23.2.2.2.2.2.1)) fun age67 => (idxO 8 ((mapGet s23.2.1 s23.2.2.2.2.1).getD 0)).bind fun j69 => (idxO 8 ((mapGet s23.2.1 s23.2.2.2.2.1).getD 0)).bind fun j98 => bindv (updN s23.2.2.2.2.2.2.2.1 j98 (w64 ((w64 ((s23.2.2.2.2.2.2.2.1 j69) + j63)) - s23.2.2.2.2.2.1))) fun x100 => (idxO 8 ((mapGet s23.2.2.1 s23.2.2.2.2.1).getD 0)).bind fun j102 => (idxO 8 ((mapGet s23.2.2.1 s23.2.2.2.2.1).getD 0)).bind fun j131 => bindv (updN s23.2.2.2.2.2.2.2.2 j131 (w64 ((w64 ((s23.2.2.2.2.2.2.2.2 j102) + j63)) - s23.2.2.2.2.2.1))) fun x133 => some (age67, x100, x133)) else (some (s23.2.2.2.1, s23.2.2.2.2.2.2.2.1, s23.2.2.2.2.2.2.2.2)) : Option (Int × (Nat → Int) × (Nat → Int))).bind fun j135 => (if (s23.2.2.2.2.2.2.1 == (l_1.length : Int)) then some true else ((idxL l_1 s23.2.2.2.2.2.2.1).bind fun x139 => some (decide (x139.Day > day6)))).bind fun z152 => if z152 then (some (.done (.inl (s23.1, s23.2.1, s23.2.2.1, j135.1, s23.2.2.2.2.1, j135.2.1, j135.2.2)))) else ((idxL l_1 s23.2.2.2.2.2.2.1).bind fun x155 => (if (s23.2.2.2.2.1 == x155.Cask) then ((if (x155.Amount == ((mapGet s23.1 x155.Cask).getD 0)) then some true else ((remK s23.2.2.2.2.2.2.1 (by_7.length : Int)).bind fun q168 => (idxL by_7 q168).bind fun x170 => some ((Int.tmod x170 2) == 1))).bind fun z183 => some z183) else some false).bind fun z188 => if (x155.Kind == 0) then (bindv (mapSet s23.2.1 x155.Cask x155.Other) fun m_191 => bindv (mapSet s23.2.2.1 x155.Cask x155.Where) fun m_193 => bindv (w64 (s23.2.2.2.2.2.2.1 + 1)) fun i195 => some (.next (s23.1, m_191, m_193, j135.1, s23.2.2.2.2.1, j63, i195, j135.2.1, j135.2.2))) else (if (x155.Kind == 1) then (bindv (mapSet s23.1 x155.Cask (w64 (((mapGet s23.1 x155.Cask).getD 0) + x155.Amount))) fun m_198 => (if (s23.2.2.2.2.2.2.1 == fill5) then (some x155.Cask) else (some s23.2.2.2.2.1) : Option (Int)).bind fun j201 => bindv (w64 (s23.2.2.2.2.2.2.1 + 1)) fun i204 => some (.next (m_198, s23.2.1, s23.2.2.1, j135.1, j201, j63, i204, j135.2.1, j135.2.2))) else (if (x155.Kind == 2) then (bindv (mapSet s23.1 x155.Cask (w64 (((mapGet s23.1 x155.Cask).getD 0) - x155.Amount))) fun m_207 => bindv (mapSet m_207 x155.Other (w64 (((mapGet m_207 x155.Other).getD 0) + x155.Amount))) fun m_209 => (if z188 then (some x155.Other) else (some s23.2.2.2.2.1) : Option (Int)).bind fun j212 => bindv (w64 (s23.2.2.2.2.2.2.1 + 1)) fun i215 => some (.next (m_209, s23.2.1, s23.2.2.1, j135.1, j212, j63, i215, j135.2.1, j135.2.2))) else (if (x155.Kind == 3) then (bindv (mapSet s23.1 x155.Cask (w64 (((mapGet s23.1 x155.Cask).getD 0) - x155.Amount))) fun m_218 => if z188 then (some (.done (.inr ((-1), 0, j135.2.1, j135.2.2, false)))) else (bindv (w64 (s23.2.2.2.2.2.2.1 + 1)) fun i241 => some (.next (m_218, s23.2.1, s23.2.2.1, j135.1, s23.2.2.2.2.1, j63, i241, j135.2.1, j135.2.2)))) else ((if (x155.Kind == 4) then (bindv (mapSet s23.2.2.1 x155.Cask x155.Where) fun m_244 => some (s23.2.1, m_244)) else (if (x155.Kind == 8) then (bindv (mapSet s23.2.1 x155.Cask x155.Where) fun m_247 => some (m_247, s23.2.2.1)) else (some (s23.2.1, s23.2.2.1))) : Option ((List (Int × Int)) × (List (Int × Int)))).bind fun j249 => bindv (w64 (s23.2.2.2.2.2.2.1 + 1)) fun i258 => some (.next (s23.1, j249.1, j249.2, j135.1, s23.2.2.2.2.1, j63, i258, j135.2.1, j135.2.2)))))))) else (some (.done (.inl (s23.1, s23.2.1, s23.2.2.1, s23.2.2.2.1, s23.2.2.2.2.1, s23.2.2.2.2.2.2.2.1, s23.2.2.2.2.2.2.2.2))))
noncomputable def m_wormtublaw06_drop (l_1 : (List ApiCaskEvent)) (fill5 : Int) (day6 : Int) (by_7 : (List Int)) : Option (Int × Int × (Nat → Int) × (Nat → Int) × Bool) :=
 bindv (-1) fun here21 => (loopM (b_wormtublaw06_drop_1 l_1 fill5 day6 by_7) ([], [], [], 0, here21, 0, 0, (fun _ => 0), (fun _ => 0))).bind fun b0 => match b0 with | .inl b260 => (some (b260.2.2.2.2.1, b260.2.2.2.1, b260.2.2.2.2.2.1, b260.2.2.2.2.2.2, (decide (b260.2.2.2.2.1 ≥ 0)))) | .inr b260 => (some (b260.1, b260.2.1, b260.2.2.1, b260.2.2.2.1, b260.2.2.2.2))
set_option maxHeartbeats 4000000 in
theorem c_wormtublaw06_drop (F0 : Fz) (l_1 : (List ApiCaskEvent)) (p2 : Option Addr) (k3 : Nat) (h4 : RepSl 8 (Ex cApiCaskEvent) F0 p2 k3 l_1) (fill5 : Int) (day6 : Int) (by_7 : (List Int)) (p8 : Option Addr) (k9 : Nat) (h10 : RepSl 1 (Ex (cInt .u8)) F0 p8 k9 by_7) : CT0 Try.prog 22 [(.slice p2 l_1.length k3), (.int .i64 fill5), (.int .i64 day6), (.slice p8 by_7.length k9)].toArray F0 (m_wormtublaw06_drop l_1 fill5 day6 by_7) (fun r _ v => v = .tuple #[(.int .i64 r.1), (.int .i64 r.2.1), (.agg ((cArr 8 (cInt .i64)) r.2.2.1).toArray), (.agg ((cArr 8 (cInt .i64)) r.2.2.2.1).toArray), (.bool r.2.2.2.2)]) := by
 refine CT0.enter Try.func22 rfl Try.ntmps22 rfl fun r R => ?_
 unfold m_wormtublaw06_drop
 refine .seq ?_
 refine .region ?_
 refine .assign rfl rfl ?_
 refine .assign rfl rfl ?_
 refine .alloc (cs := ((cArr 8 (cInt .i64)) (fun _ => 0))) rfl Try.zeroValue29 rfl (fun b11 => ?_)
 refine .alloc (cs := ((cArr 8 (cInt .i64)) (fun _ => 0))) rfl Try.zeroValue29 rfl (fun b12 => ?_)
 refine .assign rfl rfl ?_
 refine .nil ?_
 refine .code ?_
 refine .seq ?_
 refine .region ?_
 refine .makeMap (fun x : Int => (.int .i64 x)) (fun _ x v => v = (fun x : Int => (.int .i64 x)) x) rfl (fun b13 => ?_)
 refine .makeMap (fun x : Int => (.int .i64 x)) (fun _ x v => v = (fun x : Int => (.int .i64 x)) x) rfl (fun b15 => ?_)
 refine .makeMap (fun x : Int => (.int .i64 x)) (fun _ x v => v = (fun x : Int => (.int .i64 x)) x) rfl (fun b17 => ?_)
 refine .assign rfl rfl ?_
 refine .assign rfl rfl ?_
 refine .assign rfl rfl ?_
 refine .nil ?_
 refine .code ?_
 refine .seq ?_
 refine .region ?_
 refine .alloc (cs := ((cArr 8 (cInt .i64)) (fun _ => 0))) rfl Try.zeroValue29 rfl (fun b19 => ?_)
 refine .nil ?_
 refine .code ?_
 refine .seq ?_
 refine .region ?_
 refine .alloc (cs := ((cArr 8 (cInt .i64)) (fun _ => 0))) rfl Try.zeroValue29 rfl (fun b20 => ?_)
 refine .nil ?_
 refine .code ?_
 refine .seq ?_
 refine .region ?_
 refine .assign rfl rfl ?_
 refine .assignL rfl rfl (fun here21 e22 => ?_)
 refine .assign rfl rfl ?_
 refine .nil ?_
 refine .code ?_
 refine .seq ?_
 refine .seq ?_
 refine .region ?_
 refine .assign rfl rfl ?_
 refine .nil ?_
 refine .code ?_
 refine .block ?_
 refine .keep (.cons (k := 0) rfl (.cons (k := 1) rfl (.cons (k := 2) rfl (.cons (k := 3) rfl (.cons (k := 10) rfl (.cons (k := 11) rfl (.cons (k := 13) rfl (.cons (k := 14) rfl (.cons (k := 15) rfl (.cons (k := 16) rfl (.cons (k := 17) rfl (.cons (k := 18) rfl (.cons (k := 19) rfl (.cons (k := 20) rfl (.cons (k := 21) rfl (.nil _)))))))))))))))) ?_
 refine .loop (fun (s23 : (List (Int × Int)) × (List (Int × Int)) × (List (Int × Int)) × Int × Int × Int × Int × (Nat → Int) × (Nat → Int)) a w => ∃ (F_24 : Fz) (p26 : Nat) (k27 : Unit) (p29 : Nat) (k30 : Unit) (p32 : Nat) (k33 : Unit), F0 ≤ F_24 ∧ Hd 219 [] [(0, (.slice p2 l_1.length k3)), (1, (.int .i64 fill5)), (2, (.int .i64 day6)), (3, (.slice p8 by_7.length k9)), (10, (.pointer (some ⟨b11, 0, none⟩))), (11, (.pointer (some ⟨b12, 0, none⟩))), (13, (.map (some p26))), (14, (.map (some p29))), (15, (.map (some p32))), (16, (.pointer (some ⟨b19, 0, none⟩))), (17, (.pointer (some ⟨b20, 0, none⟩))), (18, (.int .i64 s23.2.2.2.1)), (19, (.int .i64 s23.2.2.2.2.1)), (20, (.int .i64 s23.2.2.2.2.2.1)), (21, (.int .i64 s23.2.2.2.2.2.2.1))] F_24 [pt b20 (.cells ((cArr 8 (cInt .i64)) s23.2.2.2.2.2.2.2.2).toArray 29), pt b19 (.cells ((cArr 8 (cInt .i64)) s23.2.2.2.2.2.2.2.1).toArray 29), ownMap (fun x : Int => (.int .i64 x)) (fun _ x v => v = (fun x : Int => (.int .i64 x)) x) F_24 p32 s23.2.2.1, ownMap (fun x : Int => (.int .i64 x)) (fun _ x v => v = (fun x : Int => (.int .i64 x)) x) F_24 p29 s23.2.1, ownMap (fun x : Int => (.int .i64 x)) (fun _ x v => v = (fun x : Int => (.int .i64 x)) x) F_24 p26 s23.1, pt b12 (.cells ((cArr 8 (cInt .i64)) (fun _ => 0)).toArray 29), pt b11 (.cells ((cArr 8 (cInt .i64)) (fun _ => 0)).toArray 29), R] a w) (fun b0 e a w => match b0 with | .inl b260 => e = .exit 0 ∧ ∃ (F_261 : Fz) (p263 : Nat) (k264 : Unit) (p266 : Nat) (k267 : Unit) (p269 : Nat) (k270 : Unit), F0 ≤ F_261 ∧ Hd 219 [] [(10, (.pointer (some ⟨b11, 0, none⟩))), (11, (.pointer (some ⟨b12, 0, none⟩))), (13, (.map (some p263))), (14, (.map (some p266))), (15, (.map (some p269))), (16, (.pointer (some ⟨b19, 0, none⟩))), (17, (.pointer (some ⟨b20, 0, none⟩))), (18, (.int .i64 b260.2.2.2.1)), (19, (.int .i64 b260.2.2.2.2.1))] F_261 [pt b20 (.cells ((cArr 8 (cInt .i64)) b260.2.2.2.2.2.2).toArray 29), pt b19 (.cells ((cArr 8 (cInt .i64)) b260.2.2.2.2.2.1).toArray 29), ownMap (fun x : Int => (.int .i64 x)) (fun _ x v => v = (fun x : Int => (.int .i64 x)) x) F_261 p269 b260.2.2.1, ownMap (fun x : Int => (.int .i64 x)) (fun _ x v => v = (fun x : Int => (.int .i64 x)) x) F_261 p266 b260.2.1, ownMap (fun x : Int => (.int .i64 x)) (fun _ x v => v = (fun x : Int => (.int .i64 x)) x) F_261 p263 b260.1, pt b12 (.cells ((cArr 8 (cInt .i64)) (fun _ => 0)).toArray 29), pt b11 (.cells ((cArr 8 (cInt .i64)) (fun _ => 0)).toArray 29), R] a w | .inr b260 => e = .ret ∧ ∃ (F_272 : Fz), F0 ≤ F_272 ∧ Hd 219 [] [(8, (.int .i64 b260.1)), (9, (.int .i64 b260.2.1)), (10, (.pointer (some ⟨b11, 0, none⟩))), (11, (.pointer (some ⟨b12, 0, none⟩))), (12, (.bool b260.2.2.2.2))] F_272 [pt b12 (.cells ((cArr 8 (cInt .i64)) b260.2.2.2.1).toArray 29), pt b11 (.cells ((cArr 8 (cInt .i64)) b260.2.2.1).toArray 29), R] a w) ?_ ?_ ?_
 ·exact fun a w h => ⟨F0, b13, (), b15, (), b17, (), (Fz.le_refl _), h.1.sub (.cons (k := 0) rfl (.cons (k := 1) rfl (.cons (k := 2) rfl (.cons (k := 3) rfl (.cons (k := 10) rfl (.cons (k := 11) rfl (.cons (k := 13) rfl (.cons (k := 14) rfl (.cons (k := 15) rfl (.cons (k := 16) rfl (.cons (k := 17) rfl (.cons (k := 18) rfl (.cons (k := 19) rfl (.cons (k := 20) rfl (.cons (k := 21) rfl (.nil _)))))))))))))))), h.2⟩
 ·intro s23 ctl
  refine GC.ex (fun a w ⟨F_24, p26, k27, p29, k30, p32, k33, l_25, hA⟩ => ⟨_, hA, ?_⟩)
  unfold b_wormtublaw06_drop_1
  refine .seq ?_
  refine .seq ?_
  refine .region ?_
  refine .move rfl rfl ?_
  refine .move rfl rfl ?_
  refine .lenS rfl rfl Try.underlying22 rfl ?_
  refine .leq rfl rfl rfl ?_
  refine .nil ?_
  refine .code ?_
  refine .cond rfl (fun hb35 => ?_) (fun hb35 => ?_)
  ·skip
   refine .skip ?_
   refine .code ?_
   refine .seq ?_
   refine .block ?_
   refine .seq ?_
   refine .region ?_
   refine .move rfl rfl ?_
   refine .assign rfl rfl ?_
   refine .nil ?_
   refine .code ?_
   refine .seq ?_
   refine .seq ?_
   refine .region ?_
   refine .move rfl rfl ?_
   refine .move rfl rfl ?_
   refine .lenS rfl rfl Try.underlying22 rfl ?_
   refine .lss rfl rfl rfl ?_
   refine .move rfl rfl ?_
   refine .andM (b := (decide (s23.2.2.2.2.2.2.1 < (l_1.length : Int)))) 8 47 (fun hb36 z51 => ?_) (fun hb47 => ?_) (fun z50 F_48 l_49 => ?_)
   ·skip
    refine .onH hb36 rfl rfl ?_
    refine .move rfl rfl ?_
    refine .onH hb36 rfl rfl ?_
    refine .move rfl rfl ?_
    refine .onH hb36 rfl rfl ?_
    refine .idx rfl Try.underlying22 Try.sizeOf45 (h4.mono l_25) rfl rfl (fun x37 b38 o39 T40 fr41 cs42 e43 hm44 hv45 => ?_)
    refine .onH hb36 rfl rfl ?_
    refine .fieldAddr rfl Try.underlying45 rfl Try.sizeOf3 rfl ?_
    refine .onH hb36 rfl rfl ?_
    refine .loadF rfl Try.isAgg3 rfl hm44 (cell_of_take (k := 1) hv45 rfl) ?_
    refine .onH hb36 rfl rfl ?_
    refine .move rfl rfl ?_
    refine .onH hb36 rfl rfl ?_
    refine .leq rfl rfl rfl ?_
    refine .pickTH hb36 rfl rfl rfl ?_
    exact .finZ 8 rfl rfl (by kernel_rfl) (Fz.le_refl _)
   ·skip
    refine .offH hb47 rfl rfl rfl ?_
    refine .offH hb47 rfl rfl rfl ?_
    refine .offH hb47 rfl rfl rfl ?_
    refine .offH hb47 rfl rfl rfl ?_
    refine .offH hb47 rfl rfl rfl ?_
    refine .offH hb47 rfl rfl rfl ?_
    refine .offH hb47 rfl rfl rfl ?_
    refine .pickFH hb47 rfl rfl rfl ?_
    exact .fin 8 rfl rfl (by kernel_rfl) (Fz.le_refl _)
   refine .nil ?_
   refine .keep (.cons (k := 0) rfl (.cons (k := 1) rfl (.cons (k := 2) rfl (.cons (k := 3) rfl (.cons (k := 10) rfl (.cons (k := 11) rfl (.cons (k := 13) rfl (.cons (k := 14) rfl (.cons (k := 15) rfl (.cons (k := 16) rfl (.cons (k := 17) rfl (.cons (k := 18) rfl (.cons (k := 19) rfl (.cons (k := 20) rfl (.cons (k := 21) rfl (.cons (k := 22) rfl (.cons (k := 47) rfl (.nil _)))))))))))))))))) ?_
   refine .code ?_
   refine .keep (.cons (k := 0) rfl (.cons (k := 1) rfl (.cons (k := 2) rfl (.cons (k := 3) rfl (.cons (k := 10) rfl (.cons (k := 11) rfl (.cons (k := 13) rfl (.cons (k := 14) rfl (.cons (k := 15) rfl (.cons (k := 16) rfl (.cons (k := 17) rfl (.cons (k := 18) rfl (.cons (k := 19) rfl (.cons (k := 20) rfl (.cons (k := 21) rfl (.cons (k := 22) rfl (.cons (k := 47) rfl (.nil _)))))))))))))))))) ?_
   refine GC.join0 (σ := Int) (fun j63 a w => ∃ (F_64 : Fz), F_48 ≤ F_64 ∧ Hd 219 [] [(0, (.slice p2 l_1.length k3)), (1, (.int .i64 fill5)), (2, (.int .i64 day6)), (3, (.slice p8 by_7.length k9)), (10, (.pointer (some ⟨b11, 0, none⟩))), (11, (.pointer (some ⟨b12, 0, none⟩))), (13, (.map (some p26))), (14, (.map (some p29))), (15, (.map (some p32))), (16, (.pointer (some ⟨b19, 0, none⟩))), (17, (.pointer (some ⟨b20, 0, none⟩))), (18, (.int .i64 s23.2.2.2.1)), (19, (.int .i64 s23.2.2.2.2.1)), (20, (.int .i64 s23.2.2.2.2.2.1)), (21, (.int .i64 s23.2.2.2.2.2.2.1)), (22, (.int .i64 j63))] F_64 [pt b20 (.cells ((cArr 8 (cInt .i64)) s23.2.2.2.2.2.2.2.2).toArray 29), pt b19 (.cells ((cArr 8 (cInt .i64)) s23.2.2.2.2.2.2.2.1).toArray 29), ownMap (fun x : Int => (.int .i64 x)) (fun _ x v => v = (fun x : Int => (.int .i64 x)) x) F_24 p32 s23.2.2.1, ownMap (fun x : Int => (.int .i64 x)) (fun _ x v => v = (fun x : Int => (.int .i64 x)) x) F_24 p29 s23.2.1, ownMap (fun x : Int => (.int .i64 x)) (fun _ x v => v = (fun x : Int => (.int .i64 x)) x) F_24 p26 s23.1, pt b12 (.cells ((cArr 8 (cInt .i64)) (fun _ => 0)).toArray 29), pt b11 (.cells ((cArr 8 (cInt .i64)) (fun _ => 0)).toArray 29), R] a w) (fun sj => ?_) (fun j63 hs0 => GE.ex (fun a w ⟨F_64, l_65, hA⟩ => ⟨_, hA, ?_⟩))
   ·skip
    refine .cond rfl (fun hb52 => ?_) (fun hb52 => ?_)
    ·skip
     refine .region ?_
     refine .move rfl rfl ?_
     refine .move rfl rfl ?_
     refine .idx rfl Try.underlying22 Try.sizeOf45 (h4.mono (Fz.le_trans l_25 l_49)) rfl rfl (fun x53 b54 o55 T56 fr57 cs58 e59 hm60 hv61 => ?_)
     refine .fieldAddr rfl Try.underlying45 rfl Try.sizeOf3 rfl ?_
     refine .loadF rfl Try.isAgg3 rfl hm60 (cell_of_take (k := 1) hv61 rfl) ?_
     refine .assign rfl rfl ?_
     refine .nil ?_
     exact .nil fun e a w h => by cases e; exact ⟨rfl, ⟨F_48, (Fz.le_refl _), h.1.sub (.cons (k := 0) rfl (.cons (k := 1) rfl (.cons (k := 2) rfl (.cons (k := 3) rfl (.cons (k := 10) rfl (.cons (k := 11) rfl (.cons (k := 13) rfl (.cons (k := 14) rfl (.cons (k := 15) rfl (.cons (k := 16) rfl (.cons (k := 17) rfl (.cons (k := 18) rfl (.cons (k := 19) rfl (.cons (k := 20) rfl (.cons (k := 21) rfl (.cons (k := 22) rfl (.nil _))))))))))))))))), h.2⟩⟩
    ·skip
     refine .skip ?_
     exact .nil fun e a w h => by cases e; exact ⟨rfl, ⟨F_48, (Fz.le_refl _), h.1.sub (.cons (k := 0) rfl (.cons (k := 1) rfl (.cons (k := 2) rfl (.cons (k := 3) rfl (.cons (k := 10) rfl (.cons (k := 11) rfl (.cons (k := 13) rfl (.cons (k := 14) rfl (.cons (k := 15) rfl (.cons (k := 16) rfl (.cons (k := 17) rfl (.cons (k := 18) rfl (.cons (k := 19) rfl (.cons (k := 20) rfl (.cons (k := 21) rfl (.cons (k := 22) rfl (.nil _))))))))))))))))), h.2⟩⟩
   refine .code ?_
   refine .seq ?_
   refine .seq ?_
   refine .region ?_
   refine .move rfl rfl ?_
   refine .geq rfl rfl rfl ?_
   refine .nil ?_
   refine .code ?_
   refine .keep (.cons (k := 0) rfl (.cons (k := 1) rfl (.cons (k := 2) rfl (.cons (k := 3) rfl (.cons (k := 10) rfl (.cons (k := 11) rfl (.cons (k := 13) rfl (.cons (k := 14) rfl (.cons (k := 15) rfl (.cons (k := 16) rfl (.cons (k := 17) rfl (.cons (k := 18) rfl (.cons (k := 19) rfl (.cons (k := 20) rfl (.cons (k := 21) rfl (.cons (k := 22) rfl (.cons (k := 54) rfl (.nil _)))))))))))))))))) ?_
   refine GC.join0 (σ := Int × (Nat → Int) × (Nat → Int)) (fun j135 a w => ∃ (F_136 : Fz), F_64 ≤ F_136 ∧ Hd 219 [] [(0, (.slice p2 l_1.length k3)), (1, (.int .i64 fill5)), (2, (.int .i64 day6)), (3, (.slice p8 by_7.length k9)), (10, (.pointer (some ⟨b11, 0, none⟩))), (11, (.pointer (some ⟨b12, 0, none⟩))), (13, (.map (some p26))), (14, (.map (some p29))), (15, (.map (some p32))), (16, (.pointer (some ⟨b19, 0, none⟩))), (17, (.pointer (some ⟨b20, 0, none⟩))), (18, (.int .i64 j135.1)), (19, (.int .i64 s23.2.2.2.2.1)), (21, (.int .i64 s23.2.2.2.2.2.2.1)), (22, (.int .i64 j63))] F_136 [pt b20 (.cells ((cArr 8 (cInt .i64)) j135.2.2).toArray 29), pt b19 (.cells ((cArr 8 (cInt .i64)) j135.2.1).toArray 29), ownMap (fun x : Int => (.int .i64 x)) (fun _ x v => v = (fun x : Int => (.int .i64 x)) x) F_24 p32 s23.2.2.1, ownMap (fun x : Int => (.int .i64 x)) (fun _ x v => v = (fun x : Int => (.int .i64 x)) x) F_24 p29 s23.2.1, ownMap (fun x : Int => (.int .i64 x)) (fun _ x v => v = (fun x : Int => (.int .i64 x)) x) F_24 p26 s23.1, pt b12 (.cells ((cArr 8 (cInt .i64)) (fun _ => 0)).toArray 29), pt b11 (.cells ((cArr 8 (cInt .i64)) (fun _ => 0)).toArray 29), R] a w) (fun sj => ?_) (fun j135 hs0 => GE.ex (fun a w ⟨F_136, l_137, hA⟩ => ⟨_, hA, ?_⟩))
   ·skip
    refine .cond rfl (fun hb66 => ?_) (fun hb66 => ?_)
    ·skip
     refine .seq ?_
     refine .region ?_
     refine .move rfl rfl ?_
     refine .move rfl rfl ?_
     refine .add rfl rfl rfl ?_
     refine .move rfl rfl ?_
     refine .sub rfl rfl rfl ?_
     refine .assignL rfl rfl (fun age67 e68 => ?_)
     refine .nil ?_
     refine .code ?_
     refine .seq ?_
     refine .keep (.cons (k := 0) rfl (.cons (k := 1) rfl (.cons (k := 2) rfl (.cons (k := 3) rfl (.cons (k := 10) rfl (.cons (k := 11) rfl (.cons (k := 13) rfl (.cons (k := 14) rfl (.cons (k := 15) rfl (.cons (k := 16) rfl (.cons (k := 17) rfl (.cons (k := 18) rfl (.cons (k := 19) rfl (.cons (k := 20) rfl (.cons (k := 21) rfl (.cons (k := 22) rfl (.nil _))))))))))))))))) ?_
     refine .bind (fun j69 hj70 => ?_)
     refine .draw ⟨1000000, 0, [], 0⟩ [(60, (.map (some p29))), (61, (.int .i64 s23.2.2.2.2.1)), (62, (.int .i64 ((mapGet s23.2.1 s23.2.2.2.2.1).getD 0))), (63, (.map (some p29))), (64, (.int .i64 s23.2.2.2.2.1)), (65, (.int .i64 ((mapGet s23.2.1 s23.2.2.2.2.1).getD 0))), (66, (.pointer (some ⟨b19, 0 + j69 * 1, none⟩))), (67, (.int .i64 (s23.2.2.2.2.2.2.2.1 j69))), (68, (.int .i64 j63)), (69, (.int .i64 (w64 ((s23.2.2.2.2.2.2.2.1 j69) + j63)))), (70, (.int .i64 s23.2.2.2.2.2.1)), (71, (.int .i64 (w64 ((w64 ((s23.2.2.2.2.2.2.2.1 j69) + j63)) - s23.2.2.2.2.2.1))))] mixedOK (by kernel_rfl) (by kernel_rfl) rfl (by kernel_rfl) ?_ (fun F_71 b72 l_73 => ?_)
     ·skip
      refine .cons (.mk 60 (.map (some p29)) [(14, (.map (some p29)))] rfl rfl rfl rfl (fun S hS hd => (.cons (hS _ _ rfl) (Sub.nil _))) (fun F_74 X l_75 => ?_)) ?_
      ·skip
       refine .move rfl rfl ?_
       exact .fin1 (Fz.le_refl _)
      refine .cons (.mk 61 (.int .i64 s23.2.2.2.2.1) [(19, (.int .i64 s23.2.2.2.2.1))] rfl rfl rfl rfl (fun S hS hd => (.cons (hS _ _ rfl) (Sub.nil _))) (fun F_76 X l_77 => ?_)) ?_
      ·skip
       refine .move rfl rfl ?_
       exact .fin1 (Fz.le_refl _)
      refine .cons (.mk 62 (.int .i64 ((mapGet s23.2.1 s23.2.2.2.2.1).getD 0)) [(60, (.map (some p29))), (61, (.int .i64 s23.2.2.2.2.1))] rfl rfl rfl rfl (fun S hS hd => (.cons (hd.1 rfl rfl _ _ rfl) (.cons (hd.2.1 rfl rfl _ _ rfl) (Sub.nil _)))) (fun F_78 X l_79 => ?_)) ?_
      ·skip
       refine .lookupX (cv := (fun x : Int => (.int .i64 x))) (key := s23.2.2.2.2.1) (z := 0) 3 rfl rfl Try.underlying50 (.int Try.underlying3) Try.zeroValue3 rfl rfl ?_
       exact .fin1 (Fz.le_refl _)
      refine .cons (.mk 63 (.map (some p29)) [(14, (.map (some p29)))] rfl rfl rfl rfl (fun S hS hd => (.cons (hS _ _ rfl) (Sub.nil _))) (fun F_80 X l_81 => ?_)) ?_
      ·skip
       refine .move rfl rfl ?_
       exact .fin1 (Fz.le_refl _)
      refine .cons (.mk 64 (.int .i64 s23.2.2.2.2.1) [(19, (.int .i64 s23.2.2.2.2.1))] rfl rfl rfl rfl (fun S hS hd => (.cons (hS _ _ rfl) (Sub.nil _))) (fun F_82 X l_83 => ?_)) ?_
      ·skip
       refine .move rfl rfl ?_
       exact .fin1 (Fz.le_refl _)
      refine .cons (.mk 65 (.int .i64 ((mapGet s23.2.1 s23.2.2.2.2.1).getD 0)) [(63, (.map (some p29))), (64, (.int .i64 s23.2.2.2.2.1))] rfl rfl rfl rfl (fun S hS hd => (.cons (hd.1 rfl rfl _ _ rfl) (.cons (hd.2.1 rfl rfl _ _ rfl) (Sub.nil _)))) (fun F_84 X l_85 => ?_)) ?_
      ·skip
       refine .lookupX (cv := (fun x : Int => (.int .i64 x))) (key := s23.2.2.2.2.1) (z := 0) 3 rfl rfl Try.underlying50 (.int Try.underlying3) Try.zeroValue3 rfl rfl ?_
       exact .fin1 (Fz.le_refl _)
      refine .cons (.mk 66 (.pointer (some ⟨b19, 0 + j69 * 1, none⟩)) [(16, (.pointer (some ⟨b19, 0, none⟩))), (65, (.int .i64 ((mapGet s23.2.1 s23.2.2.2.2.1).getD 0)))] rfl rfl rfl rfl (fun S hS hd => (.cons (hS _ _ rfl) (.cons (hd.1 rfl rfl _ _ rfl) (Sub.nil _)))) (fun F_86 X l_87 => ?_)) ?_
      ·skip
       refine .indexAddrA rfl Try.underlying29 Try.sizeOf3 rfl rfl hj70 ?_
       exact .fin1 (Fz.le_refl _)
      refine .cons (.mk 67 (.int .i64 (s23.2.2.2.2.2.2.2.1 j69)) [(66, (.pointer (some ⟨b19, 0 + j69 * 1, none⟩)))] rfl rfl rfl rfl (fun S hS hd => (.cons (hd.1 rfl rfl _ _ rfl) (Sub.nil _))) (fun F_88 X l_89 => ?_)) ?_
      ·skip
       refine .loadO rfl Try.isAgg3 rfl (i := 1) rfl (allLt8 (p := fun j69 => (((cArr 8 (cInt .i64)) s23.2.2.2.2.2.2.2.1))[0 + j69 * 1]? = some (.int .i64 (s23.2.2.2.2.2.2.2.1 j69))) rfl rfl rfl rfl rfl rfl rfl rfl _ (idxO_some hj70).2.2.2) ?_
       exact .fin1 (Fz.le_refl _)
      refine .cons (.mk 68 (.int .i64 j63) [(22, (.int .i64 j63))] rfl rfl rfl rfl (fun S hS hd => (.cons (hS _ _ rfl) (Sub.nil _))) (fun F_90 X l_91 => ?_)) ?_
      ·skip
       refine .move rfl rfl ?_
       exact .fin1 (Fz.le_refl _)
      refine .cons (.mk 69 (.int .i64 (w64 ((s23.2.2.2.2.2.2.2.1 j69) + j63))) [(67, (.int .i64 (s23.2.2.2.2.2.2.2.1 j69))), (68, (.int .i64 j63))] rfl rfl rfl rfl (fun S hS hd => (.cons (hd.1 rfl rfl _ _ rfl) (.cons (hd.2.1 rfl rfl _ _ rfl) (Sub.nil _)))) (fun F_92 X l_93 => ?_)) ?_
      ·skip
       refine .add rfl rfl rfl ?_
       exact .fin1 (Fz.le_refl _)
      refine .cons (.mk 70 (.int .i64 s23.2.2.2.2.2.1) [(20, (.int .i64 s23.2.2.2.2.2.1))] rfl rfl rfl rfl (fun S hS hd => (.cons (hS _ _ rfl) (Sub.nil _))) (fun F_94 X l_95 => ?_)) ?_
      ·skip
       refine .move rfl rfl ?_
       exact .fin1 (Fz.le_refl _)
      refine .cons (.mk 71 (.int .i64 (w64 ((w64 ((s23.2.2.2.2.2.2.2.1 j69) + j63)) - s23.2.2.2.2.2.1))) [(69, (.int .i64 (w64 ((s23.2.2.2.2.2.2.2.1 j69) + j63)))), (70, (.int .i64 s23.2.2.2.2.2.1))] rfl rfl rfl rfl (fun S hS hd => (.cons (hd.1 rfl rfl _ _ rfl) (.cons (hd.2.1 rfl rfl _ _ rfl) (Sub.nil _)))) (fun F_96 X l_97 => ?_)) ?_
      ·skip
       refine .sub rfl rfl rfl ?_
       exact .fin1 (Fz.le_refl _)
      exact .nil
     refine .bind (fun j98 hj99 => ?_)
     refine .indexAddrA rfl Try.underlying29 Try.sizeOf3 rfl rfl hj99 ?_
     refine .letv (fun x100 e101 => ?_)
     refine .store (cs' := ((cArr 8 (cInt .i64)) x100)) Try.sizeOf3 rfl rfl rfl rfl (i := 1) rfl (allLt8 (p := fun j98 => 0 + j98 * 1 + 1 ≤ 8) (by decide) (by decide) (by decide) (by decide) (by decide) (by decide) (by decide) (by decide) _ (idxO_some hj99).2.2.2) rfl (by rw [e101]; exact (allLt8 (p := fun j98 => setMany (((cArr 8 (cInt .i64)) s23.2.2.2.2.2.2.2.1)) (0 + j98 * 1) [(.int .i64 (w64 ((w64 ((s23.2.2.2.2.2.2.2.1 j69) + j63)) - s23.2.2.2.2.2.1)))] = ((cArr 8 (cInt .i64)) (updN s23.2.2.2.2.2.2.2.1 j98 (w64 ((w64 ((s23.2.2.2.2.2.2.2.1 j69) + j63)) - s23.2.2.2.2.2.1))))) rfl rfl rfl rfl rfl rfl rfl rfl _ (idxO_some hj99).2.2.2)) ?_
     refine .nil ?_
     refine .keep (.cons (k := 0) rfl (.cons (k := 1) rfl (.cons (k := 2) rfl (.cons (k := 3) rfl (.cons (k := 10) rfl (.cons (k := 11) rfl (.cons (k := 13) rfl (.cons (k := 14) rfl (.cons (k := 15) rfl (.cons (k := 16) rfl (.cons (k := 17) rfl (.cons (k := 18) rfl (.cons (k := 19) rfl (.cons (k := 20) rfl (.cons (k := 21) rfl (.cons (k := 22) rfl (.nil _))))))))))))))))) ?_
     refine .code ?_
     refine .keep (.cons (k := 0) rfl (.cons (k := 1) rfl (.cons (k := 2) rfl (.cons (k := 3) rfl (.cons (k := 10) rfl (.cons (k := 11) rfl (.cons (k := 13) rfl (.cons (k := 14) rfl (.cons (k := 15) rfl (.cons (k := 16) rfl (.cons (k := 17) rfl (.cons (k := 18) rfl (.cons (k := 19) rfl (.cons (k := 20) rfl (.cons (k := 21) rfl (.cons (k := 22) rfl (.nil _))))))))))))))))) ?_
     refine .bind (fun j102 hj103 => ?_)
     refine .draw ⟨1000000, 0, [], 0⟩ [(73, (.map (some p32))), (74, (.int .i64 s23.2.2.2.2.1)), (75, (.int .i64 ((mapGet s23.2.2.1 s23.2.2.2.2.1).getD 0))), (76, (.map (some p32))), (77, (.int .i64 s23.2.2.2.2.1)), (78, (.int .i64 ((mapGet s23.2.2.1 s23.2.2.2.2.1).getD 0))), (79, (.pointer (some ⟨b20, 0 + j102 * 1, none⟩))), (80, (.int .i64 (s23.2.2.2.2.2.2.2.2 j102))), (81, (.int .i64 j63)), (82, (.int .i64 (w64 ((s23.2.2.2.2.2.2.2.2 j102) + j63)))), (83, (.int .i64 s23.2.2.2.2.2.1)), (84, (.int .i64 (w64 ((w64 ((s23.2.2.2.2.2.2.2.2 j102) + j63)) - s23.2.2.2.2.2.1))))] mixedOK (by kernel_rfl) (by kernel_rfl) rfl (by kernel_rfl) ?_ (fun F_104 b105 l_106 => ?_)
     ·skip
      refine .cons (.mk 73 (.map (some p32)) [(15, (.map (some p32)))] rfl rfl rfl rfl (fun S hS hd => (.cons (hS _ _ rfl) (Sub.nil _))) (fun F_107 X l_108 => ?_)) ?_
      ·skip
       refine .move rfl rfl ?_
       exact .fin1 (Fz.le_refl _)
      refine .cons (.mk 74 (.int .i64 s23.2.2.2.2.1) [(19, (.int .i64 s23.2.2.2.2.1))] rfl rfl rfl rfl (fun S hS hd => (.cons (hS _ _ rfl) (Sub.nil _))) (fun F_109 X l_110 => ?_)) ?_
      ·skip
       refine .move rfl rfl ?_
       exact .fin1 (Fz.le_refl _)
      refine .cons (.mk 75 (.int .i64 ((mapGet s23.2.2.1 s23.2.2.2.2.1).getD 0)) [(73, (.map (some p32))), (74, (.int .i64 s23.2.2.2.2.1))] rfl rfl rfl rfl (fun S hS hd => (.cons (hd.1 rfl rfl _ _ rfl) (.cons (hd.2.1 rfl rfl _ _ rfl) (Sub.nil _)))) (fun F_111 X l_112 => ?_)) ?_
      ·skip
       refine .lookupX (cv := (fun x : Int => (.int .i64 x))) (key := s23.2.2.2.2.1) (z := 0) 2 rfl rfl Try.underlying50 (.int Try.underlying3) Try.zeroValue3 rfl rfl ?_
       exact .fin1 (Fz.le_refl _)
      refine .cons (.mk 76 (.map (some p32)) [(15, (.map (some p32)))] rfl rfl rfl rfl (fun S hS hd => (.cons (hS _ _ rfl) (Sub.nil _))) (fun F_113 X l_114 => ?_)) ?_
      ·skip
       refine .move rfl rfl ?_
       exact .fin1 (Fz.le_refl _)
      refine .cons (.mk 77 (.int .i64 s23.2.2.2.2.1) [(19, (.int .i64 s23.2.2.2.2.1))] rfl rfl rfl rfl (fun S hS hd => (.cons (hS _ _ rfl) (Sub.nil _))) (fun F_115 X l_116 => ?_)) ?_
      ·skip
       refine .move rfl rfl ?_
       exact .fin1 (Fz.le_refl _)
      refine .cons (.mk 78 (.int .i64 ((mapGet s23.2.2.1 s23.2.2.2.2.1).getD 0)) [(76, (.map (some p32))), (77, (.int .i64 s23.2.2.2.2.1))] rfl rfl rfl rfl (fun S hS hd => (.cons (hd.1 rfl rfl _ _ rfl) (.cons (hd.2.1 rfl rfl _ _ rfl) (Sub.nil _)))) (fun F_117 X l_118 => ?_)) ?_
      ·skip
       refine .lookupX (cv := (fun x : Int => (.int .i64 x))) (key := s23.2.2.2.2.1) (z := 0) 2 rfl rfl Try.underlying50 (.int Try.underlying3) Try.zeroValue3 rfl rfl ?_
       exact .fin1 (Fz.le_refl _)
      refine .cons (.mk 79 (.pointer (some ⟨b20, 0 + j102 * 1, none⟩)) [(17, (.pointer (some ⟨b20, 0, none⟩))), (78, (.int .i64 ((mapGet s23.2.2.1 s23.2.2.2.2.1).getD 0)))] rfl rfl rfl rfl (fun S hS hd => (.cons (hS _ _ rfl) (.cons (hd.1 rfl rfl _ _ rfl) (Sub.nil _)))) (fun F_119 X l_120 => ?_)) ?_
      ·skip
       refine .indexAddrA rfl Try.underlying29 Try.sizeOf3 rfl rfl hj103 ?_
       exact .fin1 (Fz.le_refl _)
      refine .cons (.mk 80 (.int .i64 (s23.2.2.2.2.2.2.2.2 j102)) [(79, (.pointer (some ⟨b20, 0 + j102 * 1, none⟩)))] rfl rfl rfl rfl (fun S hS hd => (.cons (hd.1 rfl rfl _ _ rfl) (Sub.nil _))) (fun F_121 X l_122 => ?_)) ?_
      ·skip
       refine .loadO rfl Try.isAgg3 rfl (i := 0) rfl (allLt8 (p := fun j102 => (((cArr 8 (cInt .i64)) s23.2.2.2.2.2.2.2.2))[0 + j102 * 1]? = some (.int .i64 (s23.2.2.2.2.2.2.2.2 j102))) rfl rfl rfl rfl rfl rfl rfl rfl _ (idxO_some hj103).2.2.2) ?_
       exact .fin1 (Fz.le_refl _)
      refine .cons (.mk 81 (.int .i64 j63) [(22, (.int .i64 j63))] rfl rfl rfl rfl (fun S hS hd => (.cons (hS _ _ rfl) (Sub.nil _))) (fun F_123 X l_124 => ?_)) ?_
      ·skip
       refine .move rfl rfl ?_
       exact .fin1 (Fz.le_refl _)
      refine .cons (.mk 82 (.int .i64 (w64 ((s23.2.2.2.2.2.2.2.2 j102) + j63))) [(80, (.int .i64 (s23.2.2.2.2.2.2.2.2 j102))), (81, (.int .i64 j63))] rfl rfl rfl rfl (fun S hS hd => (.cons (hd.1 rfl rfl _ _ rfl) (.cons (hd.2.1 rfl rfl _ _ rfl) (Sub.nil _)))) (fun F_125 X l_126 => ?_)) ?_
      ·skip
       refine .add rfl rfl rfl ?_
       exact .fin1 (Fz.le_refl _)
      refine .cons (.mk 83 (.int .i64 s23.2.2.2.2.2.1) [(20, (.int .i64 s23.2.2.2.2.2.1))] rfl rfl rfl rfl (fun S hS hd => (.cons (hS _ _ rfl) (Sub.nil _))) (fun F_127 X l_128 => ?_)) ?_
      ·skip
       refine .move rfl rfl ?_
       exact .fin1 (Fz.le_refl _)
      refine .cons (.mk 84 (.int .i64 (w64 ((w64 ((s23.2.2.2.2.2.2.2.2 j102) + j63)) - s23.2.2.2.2.2.1))) [(82, (.int .i64 (w64 ((s23.2.2.2.2.2.2.2.2 j102) + j63)))), (83, (.int .i64 s23.2.2.2.2.2.1))] rfl rfl rfl rfl (fun S hS hd => (.cons (hd.1 rfl rfl _ _ rfl) (.cons (hd.2.1 rfl rfl _ _ rfl) (Sub.nil _)))) (fun F_129 X l_130 => ?_)) ?_
      ·skip
       refine .sub rfl rfl rfl ?_
       exact .fin1 (Fz.le_refl _)
      exact .nil
     refine .bind (fun j131 hj132 => ?_)
     refine .indexAddrA rfl Try.underlying29 Try.sizeOf3 rfl rfl hj132 ?_
     refine .letv (fun x133 e134 => ?_)
     refine .store (cs' := ((cArr 8 (cInt .i64)) x133)) Try.sizeOf3 rfl rfl rfl rfl (i := 0) rfl (allLt8 (p := fun j131 => 0 + j131 * 1 + 1 ≤ 8) (by decide) (by decide) (by decide) (by decide) (by decide) (by decide) (by decide) (by decide) _ (idxO_some hj132).2.2.2) rfl (by rw [e134]; exact (allLt8 (p := fun j131 => setMany (((cArr 8 (cInt .i64)) s23.2.2.2.2.2.2.2.2)) (0 + j131 * 1) [(.int .i64 (w64 ((w64 ((s23.2.2.2.2.2.2.2.2 j102) + j63)) - s23.2.2.2.2.2.1)))] = ((cArr 8 (cInt .i64)) (updN s23.2.2.2.2.2.2.2.2 j131 (w64 ((w64 ((s23.2.2.2.2.2.2.2.2 j102) + j63)) - s23.2.2.2.2.2.1))))) rfl rfl rfl rfl rfl rfl rfl rfl _ (idxO_some hj132).2.2.2)) ?_
     refine .nil ?_
     exact .nil fun e a w h => by cases e; exact ⟨rfl, ⟨F_104, (Fz.le_trans l_73 l_106), h.1.sub (.cons (k := 0) rfl (.cons (k := 1) rfl (.cons (k := 2) rfl (.cons (k := 3) rfl (.cons (k := 10) rfl (.cons (k := 11) rfl (.cons (k := 13) rfl (.cons (k := 14) rfl (.cons (k := 15) rfl (.cons (k := 16) rfl (.cons (k := 17) rfl (.cons (k := 18) rfl (.cons (k := 19) rfl (.cons (k := 21) rfl (.cons (k := 22) rfl (.nil _)))))))))))))))), h.2⟩⟩
    ·skip
     refine .skip ?_
     exact .nil fun e a w h => by cases e; exact ⟨rfl, ⟨F_64, (Fz.le_refl _), h.1.sub (.cons (k := 0) rfl (.cons (k := 1) rfl (.cons (k := 2) rfl (.cons (k := 3) rfl (.cons (k := 10) rfl (.cons (k := 11) rfl (.cons (k := 13) rfl (.cons (k := 14) rfl (.cons (k := 15) rfl (.cons (k := 16) rfl (.cons (k := 17) rfl (.cons (k := 18) rfl (.cons (k := 19) rfl (.cons (k := 21) rfl (.cons (k := 22) rfl (.nil _)))))))))))))))), h.2⟩⟩
   refine .code ?_
   refine .seq ?_
   refine .region ?_
   refine .move rfl rfl ?_
   refine .assign rfl rfl ?_
   refine .nil ?_
   refine .code ?_
   refine .seq ?_
   refine .seq ?_
   refine .region ?_
   refine .move rfl rfl ?_
   refine .move rfl rfl ?_
   refine .lenS rfl rfl Try.underlying22 rfl ?_
   refine .eql rfl rfl rfl ?_
   refine .move rfl rfl ?_
   refine .orM (b := (s23.2.2.2.2.2.2.1 == (l_1.length : Int))) 8 99 (fun hb138 z153 => ?_) (fun hb149 => ?_) (fun z152 F_150 l_151 => ?_)
   ·skip
    refine .onH hb138 rfl rfl ?_
    refine .move rfl rfl ?_
    refine .onH hb138 rfl rfl ?_
    refine .move rfl rfl ?_
    refine .onH hb138 rfl rfl ?_
    refine .idx rfl Try.underlying22 Try.sizeOf45 (h4.mono (Fz.le_trans l_25 (Fz.le_trans l_49 (Fz.le_trans l_65 l_137)))) rfl rfl (fun x139 b140 o141 T142 fr143 cs144 e145 hm146 hv147 => ?_)
    refine .onH hb138 rfl rfl ?_
    refine .fieldAddr rfl Try.underlying45 rfl Try.sizeOf3 rfl ?_
    refine .onH hb138 rfl rfl ?_
    refine .loadF rfl Try.isAgg3 rfl hm146 (cell_of_take (k := 1) hv147 rfl) ?_
    refine .onH hb138 rfl rfl ?_
    refine .move rfl rfl ?_
    refine .onH hb138 rfl rfl ?_
    refine .gtr rfl rfl rfl ?_
    refine .pickFH hb138 rfl rfl rfl ?_
    exact .finZ 8 rfl rfl (by kernel_rfl) (Fz.le_refl _)
   ·skip
    refine .offH hb149 rfl rfl rfl ?_
    refine .offH hb149 rfl rfl rfl ?_
    refine .offH hb149 rfl rfl rfl ?_
    refine .offH hb149 rfl rfl rfl ?_
    refine .offH hb149 rfl rfl rfl ?_
    refine .offH hb149 rfl rfl rfl ?_
    refine .offH hb149 rfl rfl rfl ?_
    refine .pickTH hb149 rfl rfl rfl ?_
    exact .fin 8 rfl rfl (by kernel_rfl) (Fz.le_refl _)
   refine .nil ?_
   refine .code ?_
   refine .cond rfl (fun hb154 => ?_) (fun hb154 => ?_)
   ·skip
    refine .ownMapUp 4 (Fz.le_trans l_49 (Fz.le_trans l_65 (Fz.le_trans l_137 l_151))) rfl ?_
    refine .ownMapUp 3 (Fz.le_trans l_49 (Fz.le_trans l_65 (Fz.le_trans l_137 l_151))) rfl ?_
    refine .ownMapUp 2 (Fz.le_trans l_49 (Fz.le_trans l_65 (Fz.le_trans l_137 l_151))) rfl ?_
    refine .exitOut rfl (LPost.exit fun a w h => ⟨rfl, F_150, p26, k27, p29, k30, p32, k33, (Fz.le_trans l_25 (Fz.le_trans l_49 (Fz.le_trans l_65 (Fz.le_trans l_137 l_151)))), h.1.sub (.cons (k := 10) rfl (.cons (k := 11) rfl (.cons (k := 13) rfl (.cons (k := 14) rfl (.cons (k := 15) rfl (.cons (k := 16) rfl (.cons (k := 17) rfl (.cons (k := 18) rfl (.cons (k := 19) rfl (.nil _)))))))))), h.2⟩)
   ·skip
    refine .skip ?_
    refine .code ?_
    refine .seq ?_
    refine .region ?_
    refine .move rfl rfl ?_
    refine .move rfl rfl ?_
    refine .idx rfl Try.underlying22 Try.sizeOf45 (h4.mono (Fz.le_trans l_25 (Fz.le_trans l_49 (Fz.le_trans l_65 (Fz.le_trans l_137 l_151))))) rfl rfl (fun x155 b156 o157 T158 fr159 cs160 e161 hm162 hv163 => ?_)
    refine .loadFA rfl Try.isAgg45 Try.sizeOf45 rfl hm162 hv163 rfl ?_
    refine .alloc (cs := (cApiCaskEvent (ApiCaskEvent.mk 0 0 0 0 0 0 0 0))) rfl Try.zeroValue45 rfl (fun b165 => ?_)
    refine .store (cs' := (cApiCaskEvent x155)) Try.sizeOf45 rfl rfl rfl rfl (i := 0) rfl (Nat.le_of_ble_eq_true rfl) rfl (setMany_all (by rfl)) ?_
    refine .nil ?_
    refine .keep (.cons (k := 0) rfl (.cons (k := 1) rfl (.cons (k := 2) rfl (.cons (k := 3) rfl (.cons (k := 10) rfl (.cons (k := 11) rfl (.cons (k := 13) rfl (.cons (k := 14) rfl (.cons (k := 15) rfl (.cons (k := 16) rfl (.cons (k := 17) rfl (.cons (k := 18) rfl (.cons (k := 19) rfl (.cons (k := 20) rfl (.cons (k := 21) rfl (.cons (k := 23) rfl (.nil _))))))))))))))))) ?_
    refine .code ?_
    refine .seq ?_
    refine .region ?_
    refine .move rfl rfl ?_
    refine .fieldAddr rfl Try.underlying45 rfl Try.sizeOf3 rfl ?_
    refine .loadO rfl Try.isAgg3 rfl (i := 0) rfl rfl ?_
    refine .eql rfl rfl rfl ?_
    refine .move rfl rfl ?_
    refine .andM (b := (s23.2.2.2.2.1 == x155.Cask)) 19 127 (fun hb166 z189 => ?_) (fun hb185 => ?_) (fun z188 F_186 l_187 => ?_)
    ·skip
     refine .onH hb166 rfl rfl ?_
     refine .fieldAddr rfl Try.underlying45 rfl Try.sizeOf3 rfl ?_
     refine .onH hb166 rfl rfl ?_
     refine .loadO rfl Try.isAgg3 rfl (i := 0) rfl rfl ?_
     refine .onH hb166 rfl rfl ?_
     refine .move rfl rfl ?_
     refine .onH hb166 rfl rfl ?_
     refine .fieldAddr rfl Try.underlying45 rfl Try.sizeOf3 rfl ?_
     refine .onH hb166 rfl rfl ?_
     refine .loadO rfl Try.isAgg3 rfl (i := 0) rfl rfl ?_
     refine .onH hb166 rfl rfl ?_
     refine .lookupX (cv := (fun x : Int => (.int .i64 x))) (key := x155.Cask) (z := 0) 5 rfl rfl Try.underlying50 (.int Try.underlying3) Try.zeroValue3 rfl rfl ?_
     refine .onH hb166 rfl rfl ?_
     refine .eql rfl rfl rfl ?_
     refine .onH hb166 rfl rfl ?_
     refine .move rfl rfl ?_
     refine .orM (b := (x155.Amount == ((mapGet s23.1 x155.Cask).getD 0))) 10 126 (fun hb167 z184 => ?_) (fun hb180 => ?_) (fun z183 F_181 l_182 => ?_)
     ·skip
      refine .onH hb167 rfl rfl ?_
      refine .move rfl rfl ?_
      refine .onH hb167 rfl rfl ?_
      refine .move rfl rfl ?_
      refine .onH hb167 rfl rfl ?_
      refine .move rfl rfl ?_
      refine .onH hb167 rfl rfl ?_
      refine .lenS rfl rfl Try.underlying43 rfl ?_
      refine .onH hb167 rfl rfl ?_
      refine .rem rfl rfl rfl (fun q168 e169 => ?_)
      refine .onH hb167 rfl rfl ?_
      refine .idx rfl Try.underlying43 Try.sizeOf5 (h10.mono (Fz.le_trans l_25 (Fz.le_trans l_49 (Fz.le_trans l_65 (Fz.le_trans l_137 l_151))))) rfl rfl (fun x170 b171 o172 T173 fr174 cs175 e176 hm177 hv178 => ?_)
      refine .onH hb167 rfl rfl ?_
      refine .loadF rfl Try.isAgg5 rfl hm177 (cell_of_take (k := 0) hv178 rfl) ?_
      refine .onH hb167 rfl rfl ?_
      refine .remC rfl (by decide) rfl rfl ?_
      refine .onH hb167 rfl rfl ?_
      refine .eql rfl rfl rfl ?_
      refine .onH hb166 rfl rfl ?_
      refine .pickFH hb167 rfl rfl rfl ?_
      exact .finZ 10 rfl rfl (by kernel_rfl) (Fz.le_refl _)
     ·skip
      refine .offH hb180 rfl rfl rfl ?_
      refine .offH hb180 rfl rfl rfl ?_
      refine .offH hb180 rfl rfl rfl ?_
      refine .offH hb180 rfl rfl rfl ?_
      refine .offH hb180 rfl rfl rfl ?_
      refine .offH hb180 rfl rfl rfl ?_
      refine .offH hb180 rfl rfl rfl ?_
      refine .offH hb180 rfl rfl rfl ?_
      refine .offH hb180 rfl rfl rfl ?_
      refine .onH hb166 rfl rfl ?_
      refine .pickTH hb180 rfl rfl rfl ?_
      exact .fin 10 rfl rfl (by kernel_rfl) (Fz.le_refl _)
     refine .pickTH hb166 rfl rfl rfl ?_
     exact .finZ 10 rfl rfl (by kernel_rfl) l_182
    ·skip
     refine .offH hb185 rfl rfl rfl ?_
     refine .offH hb185 rfl rfl rfl ?_
     refine .offH hb185 rfl rfl rfl ?_
     refine .offH hb185 rfl rfl rfl ?_
     refine .offH hb185 rfl rfl rfl ?_
     refine .offH hb185 rfl rfl rfl ?_
     refine .offH hb185 rfl rfl rfl ?_
     refine .offH hb185 rfl rfl rfl ?_
     refine .off rfl rfl rfl rfl ?_
     refine .off rfl rfl rfl rfl ?_
     refine .off rfl rfl rfl rfl ?_
     refine .off rfl rfl rfl rfl ?_
     refine .off rfl rfl rfl rfl ?_
     refine .off rfl rfl rfl rfl ?_
     refine .off rfl rfl rfl rfl ?_
     refine .off rfl rfl rfl rfl ?_
     refine .off rfl rfl rfl rfl ?_
     refine .offH hb185 rfl rfl rfl ?_
     refine .pickFH hb185 rfl rfl rfl ?_
     exact .fin 19 rfl rfl (by kernel_rfl) (Fz.le_refl _)
    refine .assign rfl rfl ?_
    refine .nil ?_
    refine .code ?_
    refine .seq ?_
    refine .region ?_
    refine .fieldAddr rfl Try.underlying45 rfl Try.sizeOf3 rfl ?_
    refine .loadO rfl Try.isAgg3 rfl (i := 0) rfl rfl ?_
    refine .nil ?_
    refine .keep (.cons (k := 0) rfl (.cons (k := 1) rfl (.cons (k := 2) rfl (.cons (k := 3) rfl (.cons (k := 10) rfl (.cons (k := 11) rfl (.cons (k := 13) rfl (.cons (k := 14) rfl (.cons (k := 15) rfl (.cons (k := 16) rfl (.cons (k := 17) rfl (.cons (k := 18) rfl (.cons (k := 19) rfl (.cons (k := 20) rfl (.cons (k := 21) rfl (.cons (k := 23) rfl (.cons (k := 24) rfl (.cons (k := 129) rfl (.nil _))))))))))))))))))) ?_
    refine .code ?_
    refine .block ?_
    refine .seq ?_
    refine .region ?_
    refine .eql rfl rfl rfl ?_
    refine .assign rfl rfl ?_
    refine .nil ?_
    refine .code ?_
    refine .cond rfl (fun hb190 => ?_) (fun hb190 => ?_)
    ·skip
     refine .seq ?_
     refine .region ?_
     refine .move rfl rfl ?_
     refine .fieldAddr rfl Try.underlying45 rfl Try.sizeOf3 rfl ?_
     refine .loadO rfl Try.isAgg3 rfl (i := 0) rfl rfl ?_
     refine .fieldAddr rfl Try.underlying45 rfl Try.sizeOf3 rfl ?_
     refine .loadO rfl Try.isAgg3 rfl (i := 0) rfl rfl ?_
     refine .letv (fun m_191 e192 => ?_)
     refine .mapUpdateE (key := x155.Cask) (val := x155.Other) 4 rfl (Fz.le_trans l_49 (Fz.le_trans l_65 (Fz.le_trans l_137 (Fz.le_trans l_151 l_187)))) Try.underlying50 (.int Try.underlying3) rfl rfl rfl (fun _ _ => rfl) e192 ?_
     refine .nil ?_
     refine .keep (.cons (k := 0) rfl (.cons (k := 1) rfl (.cons (k := 2) rfl (.cons (k := 3) rfl (.cons (k := 10) rfl (.cons (k := 11) rfl (.cons (k := 13) rfl (.cons (k := 14) rfl (.cons (k := 15) rfl (.cons (k := 16) rfl (.cons (k := 17) rfl (.cons (k := 18) rfl (.cons (k := 19) rfl (.cons (k := 20) rfl (.cons (k := 21) rfl (.cons (k := 23) rfl (.nil _))))))))))))))))) ?_
     refine .code ?_
     refine .region ?_
     refine .move rfl rfl ?_
     refine .fieldAddr rfl Try.underlying45 rfl Try.sizeOf3 rfl ?_
     refine .loadO rfl Try.isAgg3 rfl (i := 0) rfl rfl ?_
     refine .fieldAddr rfl Try.underlying45 rfl Try.sizeOf3 rfl ?_
     refine .loadO rfl Try.isAgg3 rfl (i := 0) rfl rfl ?_
     refine .letv (fun m_193 e194 => ?_)
     refine .mapUpdateE (key := x155.Cask) (val := x155.Where) 3 rfl (Fz.le_trans l_49 (Fz.le_trans l_65 (Fz.le_trans l_137 (Fz.le_trans l_151 l_187)))) Try.underlying50 (.int Try.underlying3) rfl rfl rfl (fun _ _ => rfl) e194 ?_
     refine .nil ?_
     refine .block ?_
     refine .block ?_
     refine .code ?_
     refine .region ?_
     refine .move rfl rfl ?_
     refine .add rfl rfl rfl ?_
     refine .assignL rfl rfl (fun i195 e196 => ?_)
     refine .nil ?_
     refine .drop 0 ?_
     refine .ownMapUp 4 (Fz.le_trans l_49 (Fz.le_trans l_65 (Fz.le_trans l_137 (Fz.le_trans l_151 l_187)))) rfl ?_
     exact .nil (LPost.norm fun a w h => ⟨F_186, p26, k27, p29, k30, p32, k33, (Fz.le_trans l_25 (Fz.le_trans l_49 (Fz.le_trans l_65 (Fz.le_trans l_137 (Fz.le_trans l_151 l_187))))), h.1.sub (.cons (k := 0) rfl (.cons (k := 1) rfl (.cons (k := 2) rfl (.cons (k := 3) rfl (.cons (k := 10) rfl (.cons (k := 11) rfl (.cons (k := 13) rfl (.cons (k := 14) rfl (.cons (k := 15) rfl (.cons (k := 16) rfl (.cons (k := 17) rfl (.cons (k := 18) rfl (.cons (k := 19) rfl (.cons (k := 20) rfl (.cons (k := 21) rfl (.nil _)))))))))))))))), h.2⟩)
    ·skip
     refine .seq ?_
     refine .region ?_
     refine .eql rfl rfl rfl ?_
     refine .assign rfl rfl ?_
     refine .nil ?_
     refine .code ?_
     refine .cond rfl (fun hb197 => ?_) (fun hb197 => ?_)
     ·skip
      refine .seq ?_
      refine .region ?_
      refine .move rfl rfl ?_
      refine .fieldAddr rfl Try.underlying45 rfl Try.sizeOf3 rfl ?_
      refine .loadO rfl Try.isAgg3 rfl (i := 0) rfl rfl ?_
      refine .move rfl rfl ?_
      refine .fieldAddr rfl Try.underlying45 rfl Try.sizeOf3 rfl ?_
      refine .loadO rfl Try.isAgg3 rfl (i := 0) rfl rfl ?_
      refine .lookupX (cv := (fun x : Int => (.int .i64 x))) (key := x155.Cask) (z := 0) 5 rfl rfl Try.underlying50 (.int Try.underlying3) Try.zeroValue3 rfl rfl ?_
      refine .fieldAddr rfl Try.underlying45 rfl Try.sizeOf3 rfl ?_
      refine .loadO rfl Try.isAgg3 rfl (i := 0) rfl rfl ?_
      refine .add rfl rfl rfl ?_
      refine .letv (fun m_198 e199 => ?_)
      refine .mapUpdateE (key := x155.Cask) (val := (w64 (((mapGet s23.1 x155.Cask).getD 0) + x155.Amount))) 5 rfl (Fz.le_trans l_49 (Fz.le_trans l_65 (Fz.le_trans l_137 (Fz.le_trans l_151 l_187)))) Try.underlying50 (.int Try.underlying3) rfl rfl rfl (fun _ _ => rfl) e199 ?_
      refine .nil ?_
      refine .keep (.cons (k := 0) rfl (.cons (k := 1) rfl (.cons (k := 2) rfl (.cons (k := 3) rfl (.cons (k := 10) rfl (.cons (k := 11) rfl (.cons (k := 13) rfl (.cons (k := 14) rfl (.cons (k := 15) rfl (.cons (k := 16) rfl (.cons (k := 17) rfl (.cons (k := 18) rfl (.cons (k := 19) rfl (.cons (k := 20) rfl (.cons (k := 21) rfl (.cons (k := 23) rfl (.nil _))))))))))))))))) ?_
      refine .code ?_
      refine .seq ?_
      refine .region ?_
      refine .move rfl rfl ?_
      refine .move rfl rfl ?_
      refine .eql rfl rfl rfl ?_
      refine .nil ?_
      refine .code ?_
      refine .keep (.cons (k := 0) rfl (.cons (k := 1) rfl (.cons (k := 2) rfl (.cons (k := 3) rfl (.cons (k := 10) rfl (.cons (k := 11) rfl (.cons (k := 13) rfl (.cons (k := 14) rfl (.cons (k := 15) rfl (.cons (k := 16) rfl (.cons (k := 17) rfl (.cons (k := 18) rfl (.cons (k := 19) rfl (.cons (k := 20) rfl (.cons (k := 21) rfl (.cons (k := 23) rfl (.cons (k := 156) rfl (.nil _)))))))))))))))))) ?_
      refine GC.join0 (σ := Int) (fun j201 a w => ∃ (F_202 : Fz), F_186 ≤ F_202 ∧ Hd 219 [] [(0, (.slice p2 l_1.length k3)), (1, (.int .i64 fill5)), (2, (.int .i64 day6)), (3, (.slice p8 by_7.length k9)), (10, (.pointer (some ⟨b11, 0, none⟩))), (11, (.pointer (some ⟨b12, 0, none⟩))), (13, (.map (some p26))), (14, (.map (some p29))), (15, (.map (some p32))), (16, (.pointer (some ⟨b19, 0, none⟩))), (17, (.pointer (some ⟨b20, 0, none⟩))), (18, (.int .i64 j135.1)), (19, (.int .i64 j201)), (20, (.int .i64 j63)), (21, (.int .i64 s23.2.2.2.2.2.2.1))] F_202 [pt b165 (.cells (cApiCaskEvent x155).toArray 45), pt b20 (.cells ((cArr 8 (cInt .i64)) j135.2.2).toArray 29), pt b19 (.cells ((cArr 8 (cInt .i64)) j135.2.1).toArray 29), ownMap (fun x : Int => (.int .i64 x)) (fun _ x v => v = (fun x : Int => (.int .i64 x)) x) F_24 p32 s23.2.2.1, ownMap (fun x : Int => (.int .i64 x)) (fun _ x v => v = (fun x : Int => (.int .i64 x)) x) F_24 p29 s23.2.1, ownMap (fun x : Int => (.int .i64 x)) (fun _ x v => v = (fun x : Int => (.int .i64 x)) x) F_186 p26 m_198, pt b12 (.cells ((cArr 8 (cInt .i64)) (fun _ => 0)).toArray 29), pt b11 (.cells ((cArr 8 (cInt .i64)) (fun _ => 0)).toArray 29), R] a w) (fun sj => ?_) (fun j201 hs0 => GE.ex (fun a w ⟨F_202, l_203, hA⟩ => ⟨_, hA, ?_⟩))
      ·skip
       refine .cond rfl (fun hb200 => ?_) (fun hb200 => ?_)
       ·skip
        refine .region ?_
        refine .fieldAddr rfl Try.underlying45 rfl Try.sizeOf3 rfl ?_
        refine .loadO rfl Try.isAgg3 rfl (i := 0) rfl rfl ?_
        refine .assign rfl rfl ?_
        refine .nil ?_
        exact .nil fun e a w h => by cases e; exact ⟨rfl, ⟨F_186, (Fz.le_refl _), h.1.sub (.cons (k := 0) rfl (.cons (k := 1) rfl (.cons (k := 2) rfl (.cons (k := 3) rfl (.cons (k := 10) rfl (.cons (k := 11) rfl (.cons (k := 13) rfl (.cons (k := 14) rfl (.cons (k := 15) rfl (.cons (k := 16) rfl (.cons (k := 17) rfl (.cons (k := 18) rfl (.cons (k := 19) rfl (.cons (k := 20) rfl (.cons (k := 21) rfl (.nil _)))))))))))))))), h.2⟩⟩
       ·skip
        refine .skip ?_
        exact .nil fun e a w h => by cases e; exact ⟨rfl, ⟨F_186, (Fz.le_refl _), h.1.sub (.cons (k := 0) rfl (.cons (k := 1) rfl (.cons (k := 2) rfl (.cons (k := 3) rfl (.cons (k := 10) rfl (.cons (k := 11) rfl (.cons (k := 13) rfl (.cons (k := 14) rfl (.cons (k := 15) rfl (.cons (k := 16) rfl (.cons (k := 17) rfl (.cons (k := 18) rfl (.cons (k := 19) rfl (.cons (k := 20) rfl (.cons (k := 21) rfl (.nil _)))))))))))))))), h.2⟩⟩
      refine .block ?_
      refine .block ?_
      refine .code ?_
      refine .region ?_
      refine .move rfl rfl ?_
      refine .add rfl rfl rfl ?_
      refine .assignL rfl rfl (fun i204 e205 => ?_)
      refine .nil ?_
      refine .drop 0 ?_
      refine .ownMapUp 4 l_203 rfl ?_
      refine .ownMapUp 3 (Fz.le_trans l_49 (Fz.le_trans l_65 (Fz.le_trans l_137 (Fz.le_trans l_151 (Fz.le_trans l_187 l_203))))) rfl ?_
      refine .ownMapUp 2 (Fz.le_trans l_49 (Fz.le_trans l_65 (Fz.le_trans l_137 (Fz.le_trans l_151 (Fz.le_trans l_187 l_203))))) rfl ?_
      exact .nil (LPost.norm fun a w h => ⟨F_202, p26, k27, p29, k30, p32, k33, (Fz.le_trans l_25 (Fz.le_trans l_49 (Fz.le_trans l_65 (Fz.le_trans l_137 (Fz.le_trans l_151 (Fz.le_trans l_187 l_203)))))), h.1.sub (.cons (k := 0) rfl (.cons (k := 1) rfl (.cons (k := 2) rfl (.cons (k := 3) rfl (.cons (k := 10) rfl (.cons (k := 11) rfl (.cons (k := 13) rfl (.cons (k := 14) rfl (.cons (k := 15) rfl (.cons (k := 16) rfl (.cons (k := 17) rfl (.cons (k := 18) rfl (.cons (k := 19) rfl (.cons (k := 20) rfl (.cons (k := 21) rfl (.nil _)))))))))))))))), h.2⟩)
     ·skip
      refine .seq ?_
      refine .region ?_
      refine .eql rfl rfl rfl ?_
      refine .assign rfl rfl ?_
      refine .nil ?_
      refine .code ?_
      refine .cond rfl (fun hb206 => ?_) (fun hb206 => ?_)
      ·skip
       refine .seq ?_
       refine .region ?_
       refine .move rfl rfl ?_
       refine .fieldAddr rfl Try.underlying45 rfl Try.sizeOf3 rfl ?_
       refine .loadO rfl Try.isAgg3 rfl (i := 0) rfl rfl ?_
       refine .move rfl rfl ?_
       refine .fieldAddr rfl Try.underlying45 rfl Try.sizeOf3 rfl ?_
       refine .loadO rfl Try.isAgg3 rfl (i := 0) rfl rfl ?_
       refine .lookupX (cv := (fun x : Int => (.int .i64 x))) (key := x155.Cask) (z := 0) 5 rfl rfl Try.underlying50 (.int Try.underlying3) Try.zeroValue3 rfl rfl ?_
       refine .fieldAddr rfl Try.underlying45 rfl Try.sizeOf3 rfl ?_
       refine .loadO rfl Try.isAgg3 rfl (i := 0) rfl rfl ?_
       refine .sub rfl rfl rfl ?_
       refine .letv (fun m_207 e208 => ?_)
       refine .mapUpdateE (key := x155.Cask) (val := (w64 (((mapGet s23.1 x155.Cask).getD 0) - x155.Amount))) 5 rfl (Fz.le_trans l_49 (Fz.le_trans l_65 (Fz.le_trans l_137 (Fz.le_trans l_151 l_187)))) Try.underlying50 (.int Try.underlying3) rfl rfl rfl (fun _ _ => rfl) e208 ?_
       refine .nil ?_
       refine .keep (.cons (k := 0) rfl (.cons (k := 1) rfl (.cons (k := 2) rfl (.cons (k := 3) rfl (.cons (k := 10) rfl (.cons (k := 11) rfl (.cons (k := 13) rfl (.cons (k := 14) rfl (.cons (k := 15) rfl (.cons (k := 16) rfl (.cons (k := 17) rfl (.cons (k := 18) rfl (.cons (k := 19) rfl (.cons (k := 20) rfl (.cons (k := 21) rfl (.cons (k := 23) rfl (.cons (k := 24) rfl (.nil _)))))))))))))))))) ?_
       refine .code ?_
       refine .seq ?_
       refine .region ?_
       refine .move rfl rfl ?_
       refine .fieldAddr rfl Try.underlying45 rfl Try.sizeOf3 rfl ?_
       refine .loadO rfl Try.isAgg3 rfl (i := 0) rfl rfl ?_
       refine .move rfl rfl ?_
       refine .fieldAddr rfl Try.underlying45 rfl Try.sizeOf3 rfl ?_
       refine .loadO rfl Try.isAgg3 rfl (i := 0) rfl rfl ?_
       refine .lookupX (cv := (fun x : Int => (.int .i64 x))) (key := x155.Other) (z := 0) 5 rfl rfl Try.underlying50 (.int Try.underlying3) Try.zeroValue3 rfl rfl ?_
       refine .fieldAddr rfl Try.underlying45 rfl Try.sizeOf3 rfl ?_
       refine .loadO rfl Try.isAgg3 rfl (i := 0) rfl rfl ?_
       refine .add rfl rfl rfl ?_
       refine .letv (fun m_209 e210 => ?_)
       refine .mapUpdateE (key := x155.Other) (val := (w64 (((mapGet m_207 x155.Other).getD 0) + x155.Amount))) 5 rfl (Fz.le_refl _) Try.underlying50 (.int Try.underlying3) rfl rfl rfl (fun _ _ => rfl) e210 ?_
       refine .nil ?_
       refine .keep (.cons (k := 0) rfl (.cons (k := 1) rfl (.cons (k := 2) rfl (.cons (k := 3) rfl (.cons (k := 10) rfl (.cons (k := 11) rfl (.cons (k := 13) rfl (.cons (k := 14) rfl (.cons (k := 15) rfl (.cons (k := 16) rfl (.cons (k := 17) rfl (.cons (k := 18) rfl (.cons (k := 19) rfl (.cons (k := 20) rfl (.cons (k := 21) rfl (.cons (k := 23) rfl (.cons (k := 24) rfl (.nil _)))))))))))))))))) ?_
       refine .code ?_
       refine .seq ?_
       refine .region ?_
       refine .move rfl rfl ?_
       refine .nil ?_
       refine .code ?_
       refine .keep (.cons (k := 0) rfl (.cons (k := 1) rfl (.cons (k := 2) rfl (.cons (k := 3) rfl (.cons (k := 10) rfl (.cons (k := 11) rfl (.cons (k := 13) rfl (.cons (k := 14) rfl (.cons (k := 15) rfl (.cons (k := 16) rfl (.cons (k := 17) rfl (.cons (k := 18) rfl (.cons (k := 19) rfl (.cons (k := 20) rfl (.cons (k := 21) rfl (.cons (k := 23) rfl (.cons (k := 181) rfl (.nil _)))))))))))))))))) ?_
       refine GC.join0 (σ := Int) (fun j212 a w => ∃ (F_213 : Fz), F_186 ≤ F_213 ∧ Hd 219 [] [(0, (.slice p2 l_1.length k3)), (1, (.int .i64 fill5)), (2, (.int .i64 day6)), (3, (.slice p8 by_7.length k9)), (10, (.pointer (some ⟨b11, 0, none⟩))), (11, (.pointer (some ⟨b12, 0, none⟩))), (13, (.map (some p26))), (14, (.map (some p29))), (15, (.map (some p32))), (16, (.pointer (some ⟨b19, 0, none⟩))), (17, (.pointer (some ⟨b20, 0, none⟩))), (18, (.int .i64 j135.1)), (19, (.int .i64 j212)), (20, (.int .i64 j63)), (21, (.int .i64 s23.2.2.2.2.2.2.1))] F_213 [pt b165 (.cells (cApiCaskEvent x155).toArray 45), pt b20 (.cells ((cArr 8 (cInt .i64)) j135.2.2).toArray 29), pt b19 (.cells ((cArr 8 (cInt .i64)) j135.2.1).toArray 29), ownMap (fun x : Int => (.int .i64 x)) (fun _ x v => v = (fun x : Int => (.int .i64 x)) x) F_24 p32 s23.2.2.1, ownMap (fun x : Int => (.int .i64 x)) (fun _ x v => v = (fun x : Int => (.int .i64 x)) x) F_24 p29 s23.2.1, ownMap (fun x : Int => (.int .i64 x)) (fun _ x v => v = (fun x : Int => (.int .i64 x)) x) F_186 p26 m_209, pt b12 (.cells ((cArr 8 (cInt .i64)) (fun _ => 0)).toArray 29), pt b11 (.cells ((cArr 8 (cInt .i64)) (fun _ => 0)).toArray 29), R] a w) (fun sj => ?_) (fun j212 hs0 => GE.ex (fun a w ⟨F_213, l_214, hA⟩ => ⟨_, hA, ?_⟩))
       ·skip
        refine .cond rfl (fun hb211 => ?_) (fun hb211 => ?_)
        ·skip
         refine .region ?_
         refine .fieldAddr rfl Try.underlying45 rfl Try.sizeOf3 rfl ?_
         refine .loadO rfl Try.isAgg3 rfl (i := 0) rfl rfl ?_
         refine .assign rfl rfl ?_
         refine .nil ?_
         exact .nil fun e a w h => by cases e; exact ⟨rfl, ⟨F_186, (Fz.le_refl _), h.1.sub (.cons (k := 0) rfl (.cons (k := 1) rfl (.cons (k := 2) rfl (.cons (k := 3) rfl (.cons (k := 10) rfl (.cons (k := 11) rfl (.cons (k := 13) rfl (.cons (k := 14) rfl (.cons (k := 15) rfl (.cons (k := 16) rfl (.cons (k := 17) rfl (.cons (k := 18) rfl (.cons (k := 19) rfl (.cons (k := 20) rfl (.cons (k := 21) rfl (.nil _)))))))))))))))), h.2⟩⟩
        ·skip
         refine .skip ?_
         exact .nil fun e a w h => by cases e; exact ⟨rfl, ⟨F_186, (Fz.le_refl _), h.1.sub (.cons (k := 0) rfl (.cons (k := 1) rfl (.cons (k := 2) rfl (.cons (k := 3) rfl (.cons (k := 10) rfl (.cons (k := 11) rfl (.cons (k := 13) rfl (.cons (k := 14) rfl (.cons (k := 15) rfl (.cons (k := 16) rfl (.cons (k := 17) rfl (.cons (k := 18) rfl (.cons (k := 19) rfl (.cons (k := 20) rfl (.cons (k := 21) rfl (.nil _)))))))))))))))), h.2⟩⟩
       refine .block ?_
       refine .block ?_
       refine .code ?_
       refine .region ?_
       refine .move rfl rfl ?_
       refine .add rfl rfl rfl ?_
       refine .assignL rfl rfl (fun i215 e216 => ?_)
       refine .nil ?_
       refine .drop 0 ?_
       refine .ownMapUp 4 l_214 rfl ?_
       refine .ownMapUp 3 (Fz.le_trans l_49 (Fz.le_trans l_65 (Fz.le_trans l_137 (Fz.le_trans l_151 (Fz.le_trans l_187 l_214))))) rfl ?_
       refine .ownMapUp 2 (Fz.le_trans l_49 (Fz.le_trans l_65 (Fz.le_trans l_137 (Fz.le_trans l_151 (Fz.le_trans l_187 l_214))))) rfl ?_
       exact .nil (LPost.norm fun a w h => ⟨F_213, p26, k27, p29, k30, p32, k33, (Fz.le_trans l_25 (Fz.le_trans l_49 (Fz.le_trans l_65 (Fz.le_trans l_137 (Fz.le_trans l_151 (Fz.le_trans l_187 l_214)))))), h.1.sub (.cons (k := 0) rfl (.cons (k := 1) rfl (.cons (k := 2) rfl (.cons (k := 3) rfl (.cons (k := 10) rfl (.cons (k := 11) rfl (.cons (k := 13) rfl (.cons (k := 14) rfl (.cons (k := 15) rfl (.cons (k := 16) rfl (.cons (k := 17) rfl (.cons (k := 18) rfl (.cons (k := 19) rfl (.cons (k := 20) rfl (.cons (k := 21) rfl (.nil _)))))))))))))))), h.2⟩)
      ·skip
       refine .seq ?_
       refine .region ?_
       refine .eql rfl rfl rfl ?_
       refine .assign rfl rfl ?_
       refine .nil ?_
       refine .keep (.cons (k := 0) rfl (.cons (k := 1) rfl (.cons (k := 2) rfl (.cons (k := 3) rfl (.cons (k := 10) rfl (.cons (k := 11) rfl (.cons (k := 13) rfl (.cons (k := 14) rfl (.cons (k := 15) rfl (.cons (k := 16) rfl (.cons (k := 17) rfl (.cons (k := 18) rfl (.cons (k := 19) rfl (.cons (k := 20) rfl (.cons (k := 21) rfl (.cons (k := 23) rfl (.cons (k := 24) rfl (.cons (k := 129) rfl (.cons (k := 184) rfl (.nil _)))))))))))))))))))) ?_
       refine .code ?_
       refine .cond rfl (fun hb217 => ?_) (fun hb217 => ?_)
       ·skip
        refine .seq ?_
        refine .region ?_
        refine .move rfl rfl ?_
        refine .fieldAddr rfl Try.underlying45 rfl Try.sizeOf3 rfl ?_
        refine .loadO rfl Try.isAgg3 rfl (i := 0) rfl rfl ?_
        refine .move rfl rfl ?_
        refine .fieldAddr rfl Try.underlying45 rfl Try.sizeOf3 rfl ?_
        refine .loadO rfl Try.isAgg3 rfl (i := 0) rfl rfl ?_
        refine .lookupX (cv := (fun x : Int => (.int .i64 x))) (key := x155.Cask) (z := 0) 5 rfl rfl Try.underlying50 (.int Try.underlying3) Try.zeroValue3 rfl rfl ?_
        refine .fieldAddr rfl Try.underlying45 rfl Try.sizeOf3 rfl ?_
        refine .loadO rfl Try.isAgg3 rfl (i := 0) rfl rfl ?_
        refine .sub rfl rfl rfl ?_
        refine .letv (fun m_218 e219 => ?_)
        refine .mapUpdateE (key := x155.Cask) (val := (w64 (((mapGet s23.1 x155.Cask).getD 0) - x155.Amount))) 5 rfl (Fz.le_trans l_49 (Fz.le_trans l_65 (Fz.le_trans l_137 (Fz.le_trans l_151 l_187)))) Try.underlying50 (.int Try.underlying3) rfl rfl rfl (fun _ _ => rfl) e219 ?_
        refine .nil ?_
        refine .keep (.cons (k := 0) rfl (.cons (k := 1) rfl (.cons (k := 2) rfl (.cons (k := 3) rfl (.cons (k := 10) rfl (.cons (k := 11) rfl (.cons (k := 13) rfl (.cons (k := 14) rfl (.cons (k := 15) rfl (.cons (k := 16) rfl (.cons (k := 17) rfl (.cons (k := 18) rfl (.cons (k := 19) rfl (.cons (k := 20) rfl (.cons (k := 21) rfl (.cons (k := 24) rfl (.nil _))))))))))))))))) ?_
        refine .code ?_
        refine .seq ?_
        refine .region ?_
        refine .move rfl rfl ?_
        refine .nil ?_
        refine .code ?_
        refine .cond rfl (fun hb220 => ?_) (fun hb220 => ?_)
        ·skip
         refine .seq ?_
         refine .keep (.cons (k := 10) rfl (.cons (k := 11) rfl (.cons (k := 16) rfl (.cons (k := 17) rfl (.nil _))))) ?_
         refine .drawG 5 0 (fun env228 => [((.agg ((cArr 8 (cInt .i64)) j135.2.1).toArray), fun _ => True), ((.agg ((cArr 8 (cInt .i64)) j135.2.2).toArray), fun _ => True), ((.int .i64 (-1)), fun _ => True), ((.int .i64 0), fun _ => True), (undef, fun _ => True)]) (fun L env228 => [pt b165 (.cells (cApiCaskEvent x155).toArray 45), pt b20 (.cells ((cArr 8 (cInt .i64)) j135.2.2).toArray 29), pt b19 (.cells ((cArr 8 (cInt .i64)) j135.2.1).toArray 29), ownMap (fun x : Int => (.int .i64 x)) (fun _ x v => v = (fun x : Int => (.int .i64 x)) x) F_24 p32 s23.2.2.1, ownMap (fun x : Int => (.int .i64 x)) (fun _ x v => v = (fun x : Int => (.int .i64 x)) x) F_24 p29 s23.2.1, ownMap (fun x : Int => (.int .i64 x)) (fun _ x v => v = (fun x : Int => (.int .i64 x)) x) F_186 p26 m_218, pt b12 (.cells ((cArr 8 (cInt .i64)) (fun _ => 0)).toArray 29), (bif L 4 then (pt b11 (.cells ((cArr 8 (cInt .i64)) j135.2.1).toArray 29)) else (pt b11 (.cells ((cArr 8 (cInt .i64)) (fun _ => 0)).toArray 29))), R]) mixedOK (by kernel_rfl) (by kernel_rfl) rfl (fun _ => rfl) (by kernel_rfl) (fun _ => rfl) ?_ (fun env228 F_229 l_230 hphi => ?_)
         ·skip
          refine .cons (fun L env228 F_231 l_232 hL hdn hup hphi => ⟨[(16, (.pointer (some ⟨b19, 0, none⟩)))], fun S hS hV => (.cons (hS _ _ rfl) (Sub.nil _)), ?_⟩) ?_
          ·skip
           refine .loadOA rfl Try.isAgg29 Try.sizeOf29 rfl (i := 2) rfl (vs := ((cArr 8 (cInt .i64)) j135.2.1)) (by kernel_rfl) rfl ?_
           exact .finV rfl rfl (Fz.le_refl _)
          refine .cons (fun L env228 F_233 l_234 hL hdn hup hphi => ⟨[(17, (.pointer (some ⟨b20, 0, none⟩)))], fun S hS hV => (.cons (hS _ _ rfl) (Sub.nil _)), ?_⟩) ?_
          ·skip
           refine .loadOA rfl Try.isAgg29 Try.sizeOf29 rfl (i := 1) rfl (vs := ((cArr 8 (cInt .i64)) j135.2.2)) (by kernel_rfl) rfl ?_
           exact .finV rfl rfl (Fz.le_refl _)
          refine .cons (fun L env228 F_235 l_236 hL hdn hup hphi => ⟨[], fun S hS hV => (Sub.nil _), ?_⟩) ?_
          ·skip
           refine .assign rfl rfl ?_
           exact .finV rfl rfl (Fz.le_refl _)
          refine .cons (fun L env228 F_237 l_238 hL hdn hup hphi => ⟨[], fun S hS hV => (Sub.nil _), ?_⟩) ?_
          ·skip
           refine .assign rfl rfl ?_
           exact .finV rfl rfl (Fz.le_refl _)
          refine .cons (fun L env228 F_239 l_240 hL hdn hup hphi => ⟨[(10, (.pointer (some ⟨b11, 0, none⟩))), (197, (.agg ((cArr 8 (cInt .i64)) j135.2.1).toArray))], fun S hS hV => (.cons (hS _ _ rfl) (.cons (hV 0 197 _ (hdn 1 0 rfl) rfl rfl) (Sub.nil _))), ?_⟩) ?_
          ·skip
           refine .store (cs' := ((cArr 8 (cInt .i64)) j135.2.1)) Try.sizeOf29 rfl rfl rfl rfl (i := 7) (congrArg some (condF hL)) (Nat.le_of_ble_eq_true rfl) rfl (setMany_all (by rfl)) ?_
           exact .finS rfl (Fz.le_refl _) (setC 7 (condT rfl))
          exact .nil
         refine .norm (S' := [(8, (.int .i64 (-1))), (9, (.int .i64 0)), (10, (.pointer (some ⟨b11, 0, none⟩))), (11, (.pointer (some ⟨b12, 0, none⟩))), (16, (.pointer (some ⟨b19, 0, none⟩))), (17, (.pointer (some ⟨b20, 0, none⟩))), (197, (.agg ((cArr 8 (cInt .i64)) j135.2.1).toArray)), (198, (.agg ((cArr 8 (cInt .i64)) j135.2.2).toArray))]) (.cons (k := 8) rfl (.cons (k := 9) rfl (.cons (k := 10) rfl (.cons (k := 11) rfl (.cons (k := 16) rfl (.cons (k := 17) rfl (.cons (k := 197) rfl (.cons (k := 198) rfl (.nil _))))))))) (rfl : _ = [pt b165 (.cells (cApiCaskEvent x155).toArray 45), pt b20 (.cells ((cArr 8 (cInt .i64)) j135.2.2).toArray 29), pt b19 (.cells ((cArr 8 (cInt .i64)) j135.2.1).toArray 29), ownMap (fun x : Int => (.int .i64 x)) (fun _ x v => v = (fun x : Int => (.int .i64 x)) x) F_24 p32 s23.2.2.1, ownMap (fun x : Int => (.int .i64 x)) (fun _ x v => v = (fun x : Int => (.int .i64 x)) x) F_24 p29 s23.2.1, ownMap (fun x : Int => (.int .i64 x)) (fun _ x v => v = (fun x : Int => (.int .i64 x)) x) F_186 p26 m_218, pt b12 (.cells ((cArr 8 (cInt .i64)) (fun _ => 0)).toArray 29), pt b11 (.cells ((cArr 8 (cInt .i64)) j135.2.1).toArray 29), R]) ?_
         refine .store (cs' := ((cArr 8 (cInt .i64)) j135.2.2)) Try.sizeOf29 rfl rfl rfl rfl (i := 6) rfl (Nat.le_of_ble_eq_true rfl) rfl (setMany_all (by rfl)) ?_
         refine .assign rfl rfl ?_
         refine .nil ?_
         refine .code ?_
         refine .drop 5 ?_
         refine .drop 4 ?_
         refine .drop 3 ?_
         refine .drop 2 ?_
         refine .drop 1 ?_
         refine .drop 0 ?_
         refine .retQ (LPost.ret fun a w h => ⟨rfl, F_229, (Fz.le_trans l_25 (Fz.le_trans l_49 (Fz.le_trans l_65 (Fz.le_trans l_137 (Fz.le_trans l_151 (Fz.le_trans l_187 l_230)))))), h.1.sub (.cons (k := 8) rfl (.cons (k := 9) rfl (.cons (k := 10) rfl (.cons (k := 11) rfl (.cons (k := 12) rfl (.nil _)))))), h.2⟩)
        ·skip
         refine .skip ?_
         refine .block ?_
         refine .block ?_
         refine .code ?_
         refine .region ?_
         refine .move rfl rfl ?_
         refine .add rfl rfl rfl ?_
         refine .assignL rfl rfl (fun i241 e242 => ?_)
         refine .nil ?_
         refine .drop 0 ?_
         refine .ownMapUp 3 (Fz.le_trans l_49 (Fz.le_trans l_65 (Fz.le_trans l_137 (Fz.le_trans l_151 l_187)))) rfl ?_
         refine .ownMapUp 2 (Fz.le_trans l_49 (Fz.le_trans l_65 (Fz.le_trans l_137 (Fz.le_trans l_151 l_187)))) rfl ?_
         exact .nil (LPost.norm fun a w h => ⟨F_186, p26, k27, p29, k30, p32, k33, (Fz.le_trans l_25 (Fz.le_trans l_49 (Fz.le_trans l_65 (Fz.le_trans l_137 (Fz.le_trans l_151 l_187))))), h.1.sub (.cons (k := 0) rfl (.cons (k := 1) rfl (.cons (k := 2) rfl (.cons (k := 3) rfl (.cons (k := 10) rfl (.cons (k := 11) rfl (.cons (k := 13) rfl (.cons (k := 14) rfl (.cons (k := 15) rfl (.cons (k := 16) rfl (.cons (k := 17) rfl (.cons (k := 18) rfl (.cons (k := 19) rfl (.cons (k := 20) rfl (.cons (k := 21) rfl (.nil _)))))))))))))))), h.2⟩)
       ·skip
        refine .seq ?_
        refine .region ?_
        refine .eql rfl rfl rfl ?_
        refine .assign rfl rfl ?_
        refine .nil ?_
        refine .code ?_
        refine .keep (.cons (k := 0) rfl (.cons (k := 1) rfl (.cons (k := 2) rfl (.cons (k := 3) rfl (.cons (k := 10) rfl (.cons (k := 11) rfl (.cons (k := 13) rfl (.cons (k := 14) rfl (.cons (k := 15) rfl (.cons (k := 16) rfl (.cons (k := 17) rfl (.cons (k := 18) rfl (.cons (k := 19) rfl (.cons (k := 20) rfl (.cons (k := 21) rfl (.cons (k := 23) rfl (.cons (k := 129) rfl (.cons (k := 199) rfl (.nil _))))))))))))))))))) ?_
        refine GC.join0 (σ := (List (Int × Int)) × (List (Int × Int))) (fun j249 a w => ∃ (F_250 : Fz) (p252 : Nat) (k253 : Unit) (p255 : Nat) (k256 : Unit), F_186 ≤ F_250 ∧ Hd 219 [] [(0, (.slice p2 l_1.length k3)), (1, (.int .i64 fill5)), (2, (.int .i64 day6)), (3, (.slice p8 by_7.length k9)), (10, (.pointer (some ⟨b11, 0, none⟩))), (11, (.pointer (some ⟨b12, 0, none⟩))), (13, (.map (some p26))), (14, (.map (some p252))), (15, (.map (some p255))), (16, (.pointer (some ⟨b19, 0, none⟩))), (17, (.pointer (some ⟨b20, 0, none⟩))), (18, (.int .i64 j135.1)), (19, (.int .i64 s23.2.2.2.2.1)), (20, (.int .i64 j63)), (21, (.int .i64 s23.2.2.2.2.2.2.1))] F_250 [pt b165 (.cells (cApiCaskEvent x155).toArray 45), pt b20 (.cells ((cArr 8 (cInt .i64)) j135.2.2).toArray 29), pt b19 (.cells ((cArr 8 (cInt .i64)) j135.2.1).toArray 29), ownMap (fun x : Int => (.int .i64 x)) (fun _ x v => v = (fun x : Int => (.int .i64 x)) x) F_250 p255 j249.2, ownMap (fun x : Int => (.int .i64 x)) (fun _ x v => v = (fun x : Int => (.int .i64 x)) x) F_250 p252 j249.1, ownMap (fun x : Int => (.int .i64 x)) (fun _ x v => v = (fun x : Int => (.int .i64 x)) x) F_24 p26 s23.1, pt b12 (.cells ((cArr 8 (cInt .i64)) (fun _ => 0)).toArray 29), pt b11 (.cells ((cArr 8 (cInt .i64)) (fun _ => 0)).toArray 29), R] a w) (fun sj => ?_) (fun j249 hs0 => GE.ex (fun a w ⟨F_250, p252, k253, p255, k256, l_251, hA⟩ => ⟨_, hA, ?_⟩))
        ·skip
         refine .cond rfl (fun hb243 => ?_) (fun hb243 => ?_)
         ·skip
          refine .region ?_
          refine .move rfl rfl ?_
          refine .fieldAddr rfl Try.underlying45 rfl Try.sizeOf3 rfl ?_
          refine .loadO rfl Try.isAgg3 rfl (i := 0) rfl rfl ?_
          refine .fieldAddr rfl Try.underlying45 rfl Try.sizeOf3 rfl ?_
          refine .loadO rfl Try.isAgg3 rfl (i := 0) rfl rfl ?_
          refine .letv (fun m_244 e245 => ?_)
          refine .mapUpdateE (key := x155.Cask) (val := x155.Where) 3 rfl (Fz.le_trans l_49 (Fz.le_trans l_65 (Fz.le_trans l_137 (Fz.le_trans l_151 l_187)))) Try.underlying50 (.int Try.underlying3) rfl rfl rfl (fun _ _ => rfl) e245 ?_
          refine .nil ?_
          refine .ownMapUp 4 (Fz.le_trans l_49 (Fz.le_trans l_65 (Fz.le_trans l_137 (Fz.le_trans l_151 l_187)))) rfl ?_
          exact .nil fun e a w h => by cases e; exact ⟨rfl, ⟨F_186, p29, k30, p32, k33, (Fz.le_refl _), h.1.sub (.cons (k := 0) rfl (.cons (k := 1) rfl (.cons (k := 2) rfl (.cons (k := 3) rfl (.cons (k := 10) rfl (.cons (k := 11) rfl (.cons (k := 13) rfl (.cons (k := 14) rfl (.cons (k := 15) rfl (.cons (k := 16) rfl (.cons (k := 17) rfl (.cons (k := 18) rfl (.cons (k := 19) rfl (.cons (k := 20) rfl (.cons (k := 21) rfl (.nil _)))))))))))))))), h.2⟩⟩
         ·skip
          refine .seq ?_
          refine .region ?_
          refine .eql rfl rfl rfl ?_
          refine .assign rfl rfl ?_
          refine .nil ?_
          refine .code ?_
          refine .cond rfl (fun hb246 => ?_) (fun hb246 => ?_)
          ·skip
           refine .region ?_
           refine .move rfl rfl ?_
           refine .fieldAddr rfl Try.underlying45 rfl Try.sizeOf3 rfl ?_
           refine .loadO rfl Try.isAgg3 rfl (i := 0) rfl rfl ?_
           refine .fieldAddr rfl Try.underlying45 rfl Try.sizeOf3 rfl ?_
           refine .loadO rfl Try.isAgg3 rfl (i := 0) rfl rfl ?_
           refine .letv (fun m_247 e248 => ?_)
           refine .mapUpdateE (key := x155.Cask) (val := x155.Where) 4 rfl (Fz.le_trans l_49 (Fz.le_trans l_65 (Fz.le_trans l_137 (Fz.le_trans l_151 l_187)))) Try.underlying50 (.int Try.underlying3) rfl rfl rfl (fun _ _ => rfl) e248 ?_
           refine .nil ?_
           refine .ownMapUp 3 (Fz.le_trans l_49 (Fz.le_trans l_65 (Fz.le_trans l_137 (Fz.le_trans l_151 l_187)))) rfl ?_
           exact .nil fun e a w h => by cases e; exact ⟨rfl, ⟨F_186, p29, k30, p32, k33, (Fz.le_refl _), h.1.sub (.cons (k := 0) rfl (.cons (k := 1) rfl (.cons (k := 2) rfl (.cons (k := 3) rfl (.cons (k := 10) rfl (.cons (k := 11) rfl (.cons (k := 13) rfl (.cons (k := 14) rfl (.cons (k := 15) rfl (.cons (k := 16) rfl (.cons (k := 17) rfl (.cons (k := 18) rfl (.cons (k := 19) rfl (.cons (k := 20) rfl (.cons (k := 21) rfl (.nil _)))))))))))))))), h.2⟩⟩
          ·skip
           refine .skip ?_
           refine .ownMapUp 4 (Fz.le_trans l_49 (Fz.le_trans l_65 (Fz.le_trans l_137 (Fz.le_trans l_151 l_187)))) rfl ?_
           refine .ownMapUp 3 (Fz.le_trans l_49 (Fz.le_trans l_65 (Fz.le_trans l_137 (Fz.le_trans l_151 l_187)))) rfl ?_
           exact .nil fun e a w h => by cases e; exact ⟨rfl, ⟨F_186, p29, k30, p32, k33, (Fz.le_refl _), h.1.sub (.cons (k := 0) rfl (.cons (k := 1) rfl (.cons (k := 2) rfl (.cons (k := 3) rfl (.cons (k := 10) rfl (.cons (k := 11) rfl (.cons (k := 13) rfl (.cons (k := 14) rfl (.cons (k := 15) rfl (.cons (k := 16) rfl (.cons (k := 17) rfl (.cons (k := 18) rfl (.cons (k := 19) rfl (.cons (k := 20) rfl (.cons (k := 21) rfl (.nil _)))))))))))))))), h.2⟩⟩
        refine .block ?_
        refine .block ?_
        refine .code ?_
        refine .region ?_
        refine .move rfl rfl ?_
        refine .add rfl rfl rfl ?_
        refine .assignL rfl rfl (fun i258 e259 => ?_)
        refine .nil ?_
        refine .drop 0 ?_
        refine .ownMapUp 4 (Fz.le_trans l_49 (Fz.le_trans l_65 (Fz.le_trans l_137 (Fz.le_trans l_151 (Fz.le_trans l_187 l_251))))) rfl ?_
        exact .nil (LPost.norm fun a w h => ⟨F_250, p26, k27, p252, k253, p255, k256, (Fz.le_trans l_25 (Fz.le_trans l_49 (Fz.le_trans l_65 (Fz.le_trans l_137 (Fz.le_trans l_151 (Fz.le_trans l_187 l_251)))))), h.1.sub (.cons (k := 0) rfl (.cons (k := 1) rfl (.cons (k := 2) rfl (.cons (k := 3) rfl (.cons (k := 10) rfl (.cons (k := 11) rfl (.cons (k := 13) rfl (.cons (k := 14) rfl (.cons (k := 15) rfl (.cons (k := 16) rfl (.cons (k := 17) rfl (.cons (k := 18) rfl (.cons (k := 19) rfl (.cons (k := 20) rfl (.cons (k := 21) rfl (.nil _)))))))))))))))), h.2⟩)
  ·skip
   refine .exitOut rfl (LPost.exit fun a w h => ⟨rfl, F_24, p26, k27, p29, k30, p32, k33, l_25, h.1.sub (.cons (k := 10) rfl (.cons (k := 11) rfl (.cons (k := 13) rfl (.cons (k := 14) rfl (.cons (k := 15) rfl (.cons (k := 16) rfl (.cons (k := 17) rfl (.cons (k := 18) rfl (.cons (k := 19) rfl (.nil _)))))))))), h.2⟩)
 ·intro b260 hb0 hk e a w hD
  rcases b260 with b260 | b260
  ·skip
   obtain ⟨rfl, F_261, p263, k264, p266, k267, p269, k270, l_262, hA⟩ := hD
   refine interp_exit rfl (GE.app ?_ hk a w hA)
   refine .code ?_
   refine .seq ?_
   refine .keep (.cons (k := 10) rfl (.cons (k := 11) rfl (.cons (k := 16) rfl (.cons (k := 17) rfl (.cons (k := 18) rfl (.cons (k := 19) rfl (.nil _))))))) ?_
   refine .drawG 10 0 (fun env274 => [((.int .i64 b260.2.2.2.2.1), fun _ => True), ((.int .i64 b260.2.2.2.1), fun _ => True), ((.agg ((cArr 8 (cInt .i64)) b260.2.2.2.2.2.1).toArray), fun _ => True), ((.agg ((cArr 8 (cInt .i64)) b260.2.2.2.2.2.2).toArray), fun _ => True), ((.int .i64 b260.2.2.2.2.1), fun _ => True), ((.bool (decide (b260.2.2.2.2.1 ≥ 0))), fun _ => True), ((.int .i64 b260.2.2.2.2.1), fun _ => True), ((.int .i64 b260.2.2.2.1), fun _ => True), (undef, fun _ => True), (undef, fun _ => True)]) (fun L env274 => [pt b20 (.cells ((cArr 8 (cInt .i64)) b260.2.2.2.2.2.2).toArray 29), pt b19 (.cells ((cArr 8 (cInt .i64)) b260.2.2.2.2.2.1).toArray 29), ownMap (fun x : Int => (.int .i64 x)) (fun _ x v => v = (fun x : Int => (.int .i64 x)) x) F_261 p269 b260.2.2.1, ownMap (fun x : Int => (.int .i64 x)) (fun _ x v => v = (fun x : Int => (.int .i64 x)) x) F_261 p266 b260.2.1, ownMap (fun x : Int => (.int .i64 x)) (fun _ x v => v = (fun x : Int => (.int .i64 x)) x) F_261 p263 b260.1, (bif L 9 then (pt b12 (.cells ((cArr 8 (cInt .i64)) b260.2.2.2.2.2.2).toArray 29)) else (pt b12 (.cells ((cArr 8 (cInt .i64)) (fun _ => 0)).toArray 29))), (bif L 8 then (pt b11 (.cells ((cArr 8 (cInt .i64)) b260.2.2.2.2.2.1).toArray 29)) else (pt b11 (.cells ((cArr 8 (cInt .i64)) (fun _ => 0)).toArray 29))), R]) mixedOK (by kernel_rfl) (by kernel_rfl) rfl (fun _ => rfl) (by kernel_rfl) (fun _ => rfl) ?_ (fun env274 F_275 l_276 hphi => ?_)
   ·skip
    refine .cons (fun L env274 F_277 l_278 hL hdn hup hphi => ⟨[(19, (.int .i64 b260.2.2.2.2.1))], fun S hS hV => (.cons (hS _ _ rfl) (Sub.nil _)), ?_⟩) ?_
    ·skip
     refine .move rfl rfl ?_
     exact .finV rfl rfl (Fz.le_refl _)
    refine .cons (fun L env274 F_279 l_280 hL hdn hup hphi => ⟨[(18, (.int .i64 b260.2.2.2.1))], fun S hS hV => (.cons (hS _ _ rfl) (Sub.nil _)), ?_⟩) ?_
    ·skip
     refine .move rfl rfl ?_
     exact .finV rfl rfl (Fz.le_refl _)
    refine .cons (fun L env274 F_281 l_282 hL hdn hup hphi => ⟨[(16, (.pointer (some ⟨b19, 0, none⟩)))], fun S hS hV => (.cons (hS _ _ rfl) (Sub.nil _)), ?_⟩) ?_
    ·skip
     refine .loadOA rfl Try.isAgg29 Try.sizeOf29 rfl (i := 1) rfl (vs := ((cArr 8 (cInt .i64)) b260.2.2.2.2.2.1)) (by kernel_rfl) rfl ?_
     exact .finV rfl rfl (Fz.le_refl _)
    refine .cons (fun L env274 F_283 l_284 hL hdn hup hphi => ⟨[(17, (.pointer (some ⟨b20, 0, none⟩)))], fun S hS hV => (.cons (hS _ _ rfl) (Sub.nil _)), ?_⟩) ?_
    ·skip
     refine .loadOA rfl Try.isAgg29 Try.sizeOf29 rfl (i := 0) rfl (vs := ((cArr 8 (cInt .i64)) b260.2.2.2.2.2.2)) (by kernel_rfl) rfl ?_
     exact .finV rfl rfl (Fz.le_refl _)
    refine .cons (fun L env274 F_285 l_286 hL hdn hup hphi => ⟨[(19, (.int .i64 b260.2.2.2.2.1))], fun S hS hV => (.cons (hS _ _ rfl) (Sub.nil _)), ?_⟩) ?_
    ·skip
     refine .move rfl rfl ?_
     exact .finV rfl rfl (Fz.le_refl _)
    refine .cons (fun L env274 F_287 l_288 hL hdn hup hphi => ⟨[(217, (.int .i64 b260.2.2.2.2.1))], fun S hS hV => (.cons (hV 4 217 _ (hdn 1 4 rfl) rfl rfl) (Sub.nil _)), ?_⟩) ?_
    ·skip
     refine .geq rfl rfl rfl ?_
     exact .finV rfl rfl (Fz.le_refl _)
    refine .cons (fun L env274 F_289 l_290 hL hdn hup hphi => ⟨[(213, (.int .i64 b260.2.2.2.2.1))], fun S hS hV => (.cons (hV 0 213 _ (hdn 1 0 rfl) rfl rfl) (Sub.nil _)), ?_⟩) ?_
    ·skip
     refine .assign rfl rfl ?_
     exact .finV rfl rfl (Fz.le_refl _)
    refine .cons (fun L env274 F_291 l_292 hL hdn hup hphi => ⟨[(214, (.int .i64 b260.2.2.2.1))], fun S hS hV => (.cons (hV 1 214 _ (hdn 1 1 rfl) rfl rfl) (Sub.nil _)), ?_⟩) ?_
    ·skip
     refine .assign rfl rfl ?_
     exact .finV rfl rfl (Fz.le_refl _)
    refine .cons (fun L env274 F_293 l_294 hL hdn hup hphi => ⟨[(10, (.pointer (some ⟨b11, 0, none⟩))), (215, (.agg ((cArr 8 (cInt .i64)) b260.2.2.2.2.2.1).toArray))], fun S hS hV => (.cons (hS _ _ rfl) (.cons (hV 2 215 _ (hdn 1 2 rfl) rfl rfl) (Sub.nil _))), ?_⟩) ?_
    ·skip
     refine .store (cs' := ((cArr 8 (cInt .i64)) b260.2.2.2.2.2.1)) Try.sizeOf29 rfl rfl rfl rfl (i := 6) (congrArg some (condF hL)) (Nat.le_of_ble_eq_true rfl) rfl (setMany_all (by rfl)) ?_
     exact .finS rfl (Fz.le_refl _) (setC 6 (condT rfl))
    refine .cons (fun L env274 F_295 l_296 hL hdn hup hphi => ⟨[(11, (.pointer (some ⟨b12, 0, none⟩))), (216, (.agg ((cArr 8 (cInt .i64)) b260.2.2.2.2.2.2).toArray))], fun S hS hV => (.cons (hS _ _ rfl) (.cons (hV 3 216 _ (hdn 1 3 rfl) rfl rfl) (Sub.nil _))), ?_⟩) ?_
    ·skip
     refine .store (cs' := ((cArr 8 (cInt .i64)) b260.2.2.2.2.2.2)) Try.sizeOf29 rfl rfl rfl rfl (i := 5) (congrArg some (condF hL)) (Nat.le_of_ble_eq_true rfl) rfl (setMany_all (by rfl)) ?_
     exact .finS rfl (Fz.le_refl _) (setC 5 (condT rfl))
    exact .nil
   refine .norm (S' := [(8, (.int .i64 b260.2.2.2.2.1)), (9, (.int .i64 b260.2.2.2.1)), (10, (.pointer (some ⟨b11, 0, none⟩))), (11, (.pointer (some ⟨b12, 0, none⟩))), (16, (.pointer (some ⟨b19, 0, none⟩))), (17, (.pointer (some ⟨b20, 0, none⟩))), (18, (.int .i64 b260.2.2.2.1)), (19, (.int .i64 b260.2.2.2.2.1)), (213, (.int .i64 b260.2.2.2.2.1)), (214, (.int .i64 b260.2.2.2.1)), (215, (.agg ((cArr 8 (cInt .i64)) b260.2.2.2.2.2.1).toArray)), (216, (.agg ((cArr 8 (cInt .i64)) b260.2.2.2.2.2.2).toArray)), (217, (.int .i64 b260.2.2.2.2.1)), (218, (.bool (decide (b260.2.2.2.2.1 ≥ 0))))]) (.cons (k := 8) rfl (.cons (k := 9) rfl (.cons (k := 10) rfl (.cons (k := 11) rfl (.cons (k := 16) rfl (.cons (k := 17) rfl (.cons (k := 18) rfl (.cons (k := 19) rfl (.cons (k := 213) rfl (.cons (k := 214) rfl (.cons (k := 215) rfl (.cons (k := 216) rfl (.cons (k := 217) rfl (.cons (k := 218) rfl (.nil _))))))))))))))) (rfl : _ = [pt b20 (.cells ((cArr 8 (cInt .i64)) b260.2.2.2.2.2.2).toArray 29), pt b19 (.cells ((cArr 8 (cInt .i64)) b260.2.2.2.2.2.1).toArray 29), ownMap (fun x : Int => (.int .i64 x)) (fun _ x v => v = (fun x : Int => (.int .i64 x)) x) F_261 p269 b260.2.2.1, ownMap (fun x : Int => (.int .i64 x)) (fun _ x v => v = (fun x : Int => (.int .i64 x)) x) F_261 p266 b260.2.1, ownMap (fun x : Int => (.int .i64 x)) (fun _ x v => v = (fun x : Int => (.int .i64 x)) x) F_261 p263 b260.1, pt b12 (.cells ((cArr 8 (cInt .i64)) b260.2.2.2.2.2.2).toArray 29), pt b11 (.cells ((cArr 8 (cInt .i64)) b260.2.2.2.2.2.1).toArray 29), R]) ?_
   refine .assign rfl rfl ?_
   refine .nil ?_
   refine .code ?_
   exact .ret0 Try.results22 (.tmp rfl (.tmp rfl (.agg rfl Try.isAgg29 Try.sizeOf29 (i := 6) rfl (vs' := ((cArr 8 (cInt .i64)) b260.2.2.2.2.2.1)) (by kernel_rfl) rfl (.agg rfl Try.isAgg29 Try.sizeOf29 (i := 5) rfl (vs' := ((cArr 8 (cInt .i64)) b260.2.2.2.2.2.2)) (by kernel_rfl) rfl (.tmp rfl (.nil)))))) (i := 7) rfl (Fz.le_trans l_262 l_276) rfl
  obtain ⟨rfl, F_272, l_273, hA⟩ := hD
  exact interp_ret ((ret_post0 Try.results22 (.tmp rfl (.tmp rfl (.agg rfl Try.isAgg29 Try.sizeOf29 (i := 1) rfl (vs' := ((cArr 8 (cInt .i64)) b260.2.2.1)) (by kernel_rfl) rfl (.agg rfl Try.isAgg29 Try.sizeOf29 (i := 0) rfl (vs' := ((cArr 8 (cInt .i64)) b260.2.2.2.1)) (by kernel_rfl) rfl (.tmp rfl (.nil)))))) (i := 2) rfl l_273 rfl) hk a w hA)
end Go.Proofs.Ytkedjmhhcekmiaa
end
