/- Own texts and texts printed by a program of mine, for topForged_holds; only what it reaches. -/
import Derived.Test.YtkffpbnbjnadnaaPb2
section
namespace Go.Proofs.Ytkffpbnbjnadnaa
open Go.Dec Go.Shelf Go.RowKit Go.Maps Go.Sort
noncomputable def m_cask_book_rack (A1 : List CaskCask) (A2 : List CaskBook) (A3 : List (List (Int × Bool))) (A4 : List (List (Int × (Option Nat)))) (b5 : (Option Nat)) (x9 : ApiCaskEvent) : Option (Out CaskMisfit ((List CaskCask) × (List (List (Int × Bool))) × (List (List (Int × (Option Nat)))))) :=
 bindX (m_cask_book_find A1 A2 A4 b5 x9.Cask x9.Day) (fun q18 => some (.pan q18)) fun r_15 => bindX (m_cask_book_find r_15.2 A2 A4 b5 x9.Other x9.Day) (fun q59 => some (.pan q59)) fun r_50 => (r_15.1).bind fun i60 => (r_50.1).bind fun i65 => (r_50.2[i60]?).bind fun x70 => (r_50.2[i65]?).bind fun x72 => bindX (m_cask_need (i60 != i65) 5) (fun q80 => some (.pan q80)) fun _r_74 => (if (x70.owner == x72.owner) then (if (x70.creditor == (-1)) then (bindX (m_cask_need (x72.creditor == (-1)) 11) (fun q138 => some (.done q138)) fun _r_132 => some (.next ())) else (bindX (m_cask_need false 11) (fun q193 => some (.done q193)) fun _r_187 => some (.next ()))) else (bindX (m_cask_need false 11) (fun q248 => some (.done q248)) fun _r_242 => some (.next ())) : Option (Ctl (Unit) (CaskMisfit))).bind fun j255 => match j255 with | .next _j249 => (bindX (m_cask_need (decide (x70.amount ≥ x9.Amount)) 10) (fun q277 => some (.pan q277)) fun _r_271 => bindX (m_cask_need (decide ((w64 (x72.amount + x9.Amount)) ≤ x72.room)) 9) (fun q309 => some (.pan q309)) fun _r_303 => (m_cask_cask_pour r_50.2 A3 r_50.1 x70.times x70.fills x9.Amount).bind fun r_342 => (m_cask_cask_draw r_342.1 r_15.1 x9.Amount).bind fun r_346 => some (.ok (r_346, r_342.2, A4))) | .done b252 => (some (.pan b252))
set_option maxHeartbeats 4000000 in
theorem c_cask_book_rack (F0 : Fz) (Γ : Gam) (A1 : List CaskCask) (A2 : List CaskBook) (A3 : List (List (Int × Bool))) (A4 : List (List (Int × (Option Nat)))) (b5 : (Option Nat)) (p6 : Option Addr) (k7 : Unit) (h8 : RepPtr Γ.g92 F0 p6 b5) (x9 : ApiCaskEvent) : CTX Try.prog penc 67 [(.pointer p6), (eApiCaskEvent x9)].toArray F0 [arena Γ.g119 (C119 Γ) F0 A1, arena Γ.g92 (C92 Γ) F0 A2, arena Γ.g117 (C117 Γ) F0 A3, arena Γ.g90 (C90 Γ) F0 A4] (m_cask_book_rack A1 A2 A3 A4 b5 x9) (fun (_r : (List CaskCask) × (List (List (Int × Bool))) × (List (List (Int × (Option Nat))))) _ v => v = .tuple #[]) (fun (r : (List CaskCask) × (List (List (Int × Bool))) × (List (List (Int × (Option Nat))))) F' _ => [arena Γ.g119 (C119 Γ) F' r.1, arena Γ.g92 (C92 Γ) F' A2, arena Γ.g117 (C117 Γ) F' r.2.1, arena Γ.g90 (C90 Γ) F' r.2.2]) := by
 refine CTX.enter Try.func67 rfl Try.ntmps67 rfl fun r R => ?_
 refine .norm (Sub.refl _) (rfl : _ = [arena Γ.g119 (C119 Γ) F0 A1, arena Γ.g92 (C92 Γ) F0 A2, arena Γ.g117 (C117 Γ) F0 A3, arena Γ.g90 (C90 Γ) F0 A4, R]) ?_
 unfold m_cask_book_rack
 refine .seq (.region (.boxF (cs := (cApiCaskEvent x9)) rfl rfl rfl (fun b10 F_11 l_12 hb13 => ?_)))
 refine .nil (.code (.seq (.keep (.cons (k := 0) rfl (.cons (k := 3) rfl (.nil _))) (.outsB (fun r_15 e16 => ?_) (fun q18 e19 => ?_)))))
 ·skip
  refine .drawGD 11 0 (fun env14 => [((.pointer p6), fun _ => True), ((.pointer (some ⟨b10, 0 + 2, none⟩)), fun _ => True), ((.int .i64 x9.Cask), fun _ => True), ((.pointer (some ⟨b10, 0 + 1, none⟩)), fun _ => True), ((.int .i64 x9.Day), fun _ => True), ((.pointer (env14.a 50)), fun G => env14.f 50 ≤ G ∧ RepPtr Γ.g119 G (env14.a 50) r_15.1), ((.pointer p6), fun _ => True), ((.pointer (some ⟨b10, 0 + 3, none⟩)), fun _ => True), ((.int .i64 x9.Other), fun _ => True), ((.pointer (some ⟨b10, 0 + 1, none⟩)), fun _ => True), ((.int .i64 x9.Day), fun _ => True)]) (fun L env14 => [(bif L 5 then (arena Γ.g119 (C119 Γ) (env14.f 50) r_15.2) else (arena Γ.g119 (C119 Γ) F0 A1)), (bif L 5 then (arena Γ.g92 (C92 Γ) (env14.f 50) A2) else (arena Γ.g92 (C92 Γ) F0 A2)), arena Γ.g117 (C117 Γ) F0 A3, (bif L 5 then (arena Γ.g90 (C90 Γ) (env14.f 50) A4) else (arena Γ.g90 (C90 Γ) F0 A4)), R]) mixedOK (by kernel_rfl) (deepN (k := 11) (n := 14) rfl (allLt14 (p := fun t => 11 ≤ t → ∀ j, j < t → ∃ s, depB _ s t j = true) (fun h => absurd h (by decide)) (fun h => absurd h (by decide)) (fun h => absurd h (by decide)) (fun h => absurd h (by decide)) (fun h => absurd h (by decide)) (fun h => absurd h (by decide)) (fun h => absurd h (by decide)) (fun h => absurd h (by decide)) (fun h => absurd h (by decide)) (fun h => absurd h (by decide)) (fun h => absurd h (by decide)) (fun _ => allLt11 (p := fun j => ∃ s, depB _ s 11 j = true) ⟨2, rfl⟩ ⟨3, rfl⟩ ⟨2, rfl⟩ ⟨3, rfl⟩ ⟨2, rfl⟩ ⟨1, rfl⟩ ⟨1, rfl⟩ ⟨2, rfl⟩ ⟨1, rfl⟩ ⟨2, rfl⟩ ⟨1, rfl⟩) (fun _ => allLt12 (p := fun j => ∃ s, depB _ s 12 j = true) ⟨1, rfl⟩ ⟨1, rfl⟩ ⟨1, rfl⟩ ⟨1, rfl⟩ ⟨1, rfl⟩ ⟨1, rfl⟩ ⟨2, rfl⟩ ⟨3, rfl⟩ ⟨2, rfl⟩ ⟨3, rfl⟩ ⟨2, rfl⟩ ⟨1, rfl⟩) (fun _ => allLt13 (p := fun j => ∃ s, depB _ s 13 j = true) ⟨1, rfl⟩ ⟨1, rfl⟩ ⟨1, rfl⟩ ⟨1, rfl⟩ ⟨1, rfl⟩ ⟨1, rfl⟩ ⟨1, rfl⟩ ⟨1, rfl⟩ ⟨1, rfl⟩ ⟨1, rfl⟩ ⟨1, rfl⟩ ⟨1, rfl⟩ ⟨1, rfl⟩))) rfl (fun _ => rfl) (by kernel_rfl) (fun _ => rfl) ?_ (fun env14 F_20 l_21 hphi => ?_)
  ·skip
   refine .cons (fun L env14 F_23 l_24 hL hdn hup hphi => ⟨[(0, (.pointer p6))], fun S hS hV => (.cons (hS _ _ rfl) (Sub.nil _)), ?_⟩) ?_
   ·skip
    refine .move rfl rfl ?_
    exact .finV rfl rfl Fz.r
   refine .cons (fun L env14 F_25 l_26 hL hdn hup hphi => ⟨[(3, (.pointer (some ⟨b10, 0, none⟩)))], fun S hS hV => (.cons (hS _ _ rfl) (Sub.nil _)), ?_⟩) ?_
   ·skip
    refine .fieldAddr rfl Try.underlying62 rfl Try.sizeOf3 rfl ?_
    exact .finV rfl rfl Fz.r
   refine .cons (fun L env14 F_27 l_28 hL hdn hup hphi => ⟨[(7, (.pointer (some ⟨b10, 0 + 2, none⟩)))], fun S hS hV => (.cons (hV 1 7 _ (hdn 1 1 rfl) rfl rfl) (Sub.nil _)), ?_⟩) ?_
   ·skip
    refine .loadF rfl Try.isAgg3 rfl (l_28.mem _ _ hb13) rfl ?_
    exact .finV rfl rfl Fz.r
   refine .cons (fun L env14 F_29 l_30 hL hdn hup hphi => ⟨[(3, (.pointer (some ⟨b10, 0, none⟩)))], fun S hS hV => (.cons (hS _ _ rfl) (Sub.nil _)), ?_⟩) ?_
   ·skip
    refine .fieldAddr rfl Try.underlying62 rfl Try.sizeOf3 rfl ?_
    exact .finV rfl rfl Fz.r
   refine .cons (fun L env14 F_31 l_32 hL hdn hup hphi => ⟨[(9, (.pointer (some ⟨b10, 0 + 1, none⟩)))], fun S hS hV => (.cons (hV 3 9 _ (hdn 1 3 rfl) rfl rfl) (Sub.nil _)), ?_⟩) ?_
   ·skip
    refine .loadF rfl Try.isAgg3 rfl (l_32.mem _ _ hb13) rfl ?_
    exact .finV rfl rfl Fz.r
   refine .cons (fun L env14 F_33 l_34 hL hdn hup hphi => ⟨[(6, (.pointer p6)), (8, (.int .i64 x9.Cask)), (10, (.int .i64 x9.Day))], fun S hS hV => (.cons (hV 0 6 _ (hdn 1 0 rfl) rfl rfl) (.cons (hV 2 8 _ (hdn 1 2 rfl) rfl rfl) (.cons (hV 4 10 _ (hdn 1 4 rfl) rfl rfl) (Sub.nil _)))), ?_⟩) ?_
   ·skip
    refine .norm (Sub.refl _) ((cons_eq (condF hL) (cons_eq (condF hL) (cons_eq rfl (cons_eq (condF hL) (cons_eq rfl rfl))))) : _ = [arena Γ.g119 (C119 Γ) F0 A1, arena Γ.g92 (C92 Γ) F0 A2, arena Γ.g117 (C117 Γ) F0 A3, arena Γ.g90 (C90 Γ) F0 A4, R]) (.upR 0 (stays119 Γ) (Fz.t l_12 l_34) rfl (.upR 1 (stays92 Γ) (Fz.t l_12 l_34) rfl (.upR 3 (stays90 Γ) (Fz.t l_12 l_34) rfl ?_)))
    refine .callBK e16 [0, 0, 1] rfl Try.call84 rfl rfl rfl rfl (c_cask_book_find _ Γ A1 A2 A4 b5 p6 k7 (h8.mono (Fz.t l_12 l_34)) x9.Cask x9.Day) ?_
    rintro F_35 _ l_36 ⟨p37, k38, rfl, h39⟩
    refine .pick [0, 0, 1, 0, 0] (rfl : _ = [arena Γ.g119 (C119 Γ) F_35 r_15.2, arena Γ.g92 (C92 Γ) F_35 A2, arena Γ.g117 (C117 Γ) F0 A3, arena Γ.g90 (C90 Γ) F_35 A4, R]) ?_
    exact .finQ ({ env14 with a := (updN env14.a 50 p37), o := env14.o, f := (updN env14.f 50 F_35) }) [true, true, true, true, true, false, true, true, true, true, true] rfl (by kernel_rfl) rfl rfl l_36 (fun _ le => ⟨le, h39.mono le⟩) (cons_eq (condT rfl) (cons_eq (condT rfl) (cons_eq rfl (cons_eq (condT rfl) (cons_eq rfl rfl)))))
   refine .cons (fun L env14 F_40 l_41 hL hdn hup hphi => ⟨[(0, (.pointer p6))], fun S hS hV => (.cons (hS _ _ rfl) (Sub.nil _)), ?_⟩) ?_
   ·skip
    refine .move rfl rfl ?_
    exact .finV rfl rfl Fz.r
   refine .cons (fun L env14 F_42 l_43 hL hdn hup hphi => ⟨[(3, (.pointer (some ⟨b10, 0, none⟩)))], fun S hS hV => (.cons (hS _ _ rfl) (Sub.nil _)), ?_⟩) ?_
   ·skip
    refine .fieldAddr rfl Try.underlying62 rfl Try.sizeOf3 rfl ?_
    exact .finV rfl rfl Fz.r
   refine .cons (fun L env14 F_44 l_45 hL hdn hup hphi => ⟨[(13, (.pointer (some ⟨b10, 0 + 3, none⟩)))], fun S hS hV => (.cons (hV 7 13 _ (hdn 1 7 rfl) rfl rfl) (Sub.nil _)), ?_⟩) ?_
   ·skip
    refine .loadF rfl Try.isAgg3 rfl (l_45.mem _ _ hb13) rfl ?_
    exact .finV rfl rfl Fz.r
   refine .cons (fun L env14 F_46 l_47 hL hdn hup hphi => ⟨[(3, (.pointer (some ⟨b10, 0, none⟩)))], fun S hS hV => (.cons (hS _ _ rfl) (Sub.nil _)), ?_⟩) ?_
   ·skip
    refine .fieldAddr rfl Try.underlying62 rfl Try.sizeOf3 rfl ?_
    exact .finV rfl rfl Fz.r
   refine .cons (fun L env14 F_48 l_49 hL hdn hup hphi => ⟨[(15, (.pointer (some ⟨b10, 0 + 1, none⟩)))], fun S hS hV => (.cons (hV 9 15 _ (hdn 1 9 rfl) rfl rfl) (Sub.nil _)), ?_⟩) ?_
   ·skip
    refine .loadF rfl Try.isAgg3 rfl (l_49.mem _ _ hb13) rfl ?_
    exact .finV rfl rfl Fz.r
   exact .nil
  obtain ⟨l_22, h17⟩ := hphi 5 _ rfl
  refine .norm (S' := [(0, (.pointer p6)), (3, (.pointer (some ⟨b10, 0, none⟩))), (6, (.pointer p6)), (7, (.pointer (some ⟨b10, 0 + 2, none⟩))), (8, (.int .i64 x9.Cask)), (9, (.pointer (some ⟨b10, 0 + 1, none⟩))), (10, (.int .i64 x9.Day)), (11, (.pointer (env14.a 50))), (12, (.pointer p6)), (13, (.pointer (some ⟨b10, 0 + 3, none⟩))), (14, (.int .i64 x9.Other)), (15, (.pointer (some ⟨b10, 0 + 1, none⟩))), (16, (.int .i64 x9.Day))]) (.cons (k := 0) rfl (.cons (k := 3) rfl (.cons (k := 6) rfl (.cons (k := 7) rfl (.cons (k := 8) rfl (.cons (k := 9) rfl (.cons (k := 10) rfl (.cons (k := 11) rfl (.cons (k := 12) rfl (.cons (k := 13) rfl (.cons (k := 14) rfl (.cons (k := 15) rfl (.cons (k := 16) rfl (.nil _)))))))))))))) (rfl : _ = [arena Γ.g119 (C119 Γ) (env14.f 50) r_15.2, arena Γ.g92 (C92 Γ) (env14.f 50) A2, arena Γ.g117 (C117 Γ) F0 A3, arena Γ.g90 (C90 Γ) (env14.f 50) A4, R]) ?_
  refine .upR 0 (stays119 Γ) l_22 rfl (.upR 1 (stays92 Γ) l_22 rfl (.upR 3 (stays90 Γ) l_22 rfl (.callB [0, 0, 1] rfl Try.call84 rfl rfl rfl rfl (c_cask_book_find _ Γ r_15.2 A2 A4 b5 p6 k7 (h8.mono (Fz.t l_12 l_21)) x9.Other x9.Day) ?_ (fun q59 F_57 _ l_58 => (pan_postX (i := 1) rfl (Fz.t l_12 (Fz.t l_21 l_58)))))))
  rintro r_50 F_51 _ e53 l_52 ⟨p54, k55, rfl, h56⟩
  refine .pick [0, 0, 1, 0, 0] (rfl : _ = [arena Γ.g119 (C119 Γ) F_51 r_50.2, arena Γ.g92 (C92 Γ) F_51 A2, arena Γ.g117 (C117 Γ) F0 A3, arena Γ.g90 (C90 Γ) F_51 A4, R]) (.assign rfl rfl (.assign rfl rfl (.nil (.code (.seq (.region (.move rfl rfl (.move rfl rfl (.bind (fun i60 e61 => ?_))))))))))
  obtain ⟨b62, hb63, hp64⟩ := (h17.mono l_52).at e61
  refine .bind (fun i65 e66 => ?_)
  obtain ⟨b67, hb68, hp69⟩ := h56.at e66
  refine .bind (fun x70 e71 => ?_)
  refine .bind (fun x72 e73 => ?_)
  refine .neqPtr 0 rfl hb63 hp64 hb68 hp69 e71 e73 rfl Try.underlying88 Try.sizeOf119 rfl rfl (.callB [] rfl Try.call50 rfl rfl rfl rfl (c_cask_need _ (i60 != i65) 5) ?_ (fun q80 F_78 _ l_79 => (pan_postX (i := 4) rfl (Fz.t l_12 (Fz.t l_21 (Fz.t l_52 l_79))))))
  rintro r_74 F_75 _ e77 l_76 rfl
  refine .pick [0, 0, 0, 0, 0] (rfl : _ = [arena Γ.g119 (C119 Γ) F_51 r_50.2, arena Γ.g92 (C92 Γ) F_51 A2, arena Γ.g117 (C117 Γ) F0 A3, arena Γ.g90 (C90 Γ) F_51 A4, R]) (.nil (.code (.seq (.keep (.cons (k := 3) rfl (.cons (k := 4) rfl (.cons (k := 5) rfl (.nil _)))) ?_))))
  refine GC.join (σ := Unit) (γ := CaskMisfit) (fun j249 a w => ∃ (F_250 : Fz), F_75 ≤ F_250 ∧ Hd 83 [] [(3, (.pointer (some ⟨b10, 0, none⟩))), (4, (.pointer (env14.a 50))), (5, (.pointer p54))] F_250 [arena Γ.g119 (C119 Γ) F_51 r_50.2, arena Γ.g92 (C92 Γ) F_51 A2, arena Γ.g117 (C117 Γ) F0 A3, arena Γ.g90 (C90 Γ) F_51 A4, R] a w) (fun b252 e a w => e = .panic [{ v := penc b252, recovered := false }] ∧ ∃ (F_253 : Fz), F_75 ≤ F_253 ∧ Hd 83 [] [] F_253 [R] a w) (fun sj => ?_) (fun j249 hs0 => GE.ex (fun a w ⟨F_250, l_251, hA⟩ => ⟨_, hA, ?_⟩)) ?_
  ·skip
   refine .ite (fun hb82 => ?_) (fun hb82 => ?_)
   ·skip
    refine .ite (fun hb83 => ?_) (fun hb83 => ?_)
    ·skip
     refine .drawGD 23 0 (fun env81 => [((.pointer (env14.a 50)), fun _ => True), ((.pointer (some ⟨b62, 0, none⟩)), fun _ => True), ((.pointer (some ⟨b62, 0 + 4, none⟩)), fun _ => True), ((.int .i64 x70.owner), fun _ => True), ((.pointer p54), fun _ => True), ((.pointer (some ⟨b67, 0, none⟩)), fun _ => True), ((.pointer (some ⟨b67, 0 + 4, none⟩)), fun _ => True), ((.int .i64 x72.owner), fun _ => True), ((.bool (x70.owner == x72.owner)), fun _ => True), ((.bool (x70.owner == x72.owner)), fun _ => True), ((.pointer (env14.a 50)), fun _ => True), ((.pointer (some ⟨b62, 0, none⟩)), fun _ => True), ((.pointer (some ⟨b62, 0 + 5, none⟩)), fun _ => True), ((.int .i64 x70.creditor), fun _ => True), ((.bool (x70.creditor == (-1))), fun _ => True), ((.bool (x70.creditor == (-1))), fun _ => True), ((.bool (x70.creditor == (-1))), fun _ => True), ((.pointer p54), fun _ => True), ((.pointer (some ⟨b67, 0, none⟩)), fun _ => True), ((.pointer (some ⟨b67, 0 + 5, none⟩)), fun _ => True), ((.int .i64 x72.creditor), fun _ => True), ((.bool (x72.creditor == (-1))), fun _ => True), ((.bool (x72.creditor == (-1))), fun _ => True)]) (fun L env81 => [arena Γ.g119 (C119 Γ) F_51 r_50.2, arena Γ.g92 (C92 Γ) F_51 A2, arena Γ.g117 (C117 Γ) F0 A3, arena Γ.g90 (C90 Γ) F_51 A4, R]) mixedOK (by kernel_rfl) (deepN (k := 23) (n := 24) rfl (allLt24 (p := fun t => 23 ≤ t → ∀ j, j < t → ∃ s, depB _ s t j = true) (fun h => absurd h (by decide)) (fun h => absurd h (by decide)) (fun h => absurd h (by decide)) (fun h => absurd h (by decide)) (fun h => absurd h (by decide)) (fun h => absurd h (by decide)) (fun h => absurd h (by decide)) (fun h => absurd h (by decide)) (fun h => absurd h (by decide)) (fun h => absurd h (by decide)) (fun h => absurd h (by decide)) (fun h => absurd h (by decide)) (fun h => absurd h (by decide)) (fun h => absurd h (by decide)) (fun h => absurd h (by decide)) (fun h => absurd h (by decide)) (fun h => absurd h (by decide)) (fun h => absurd h (by decide)) (fun h => absurd h (by decide)) (fun h => absurd h (by decide)) (fun h => absurd h (by decide)) (fun h => absurd h (by decide)) (fun h => absurd h (by decide)) (fun _ => allLt23 (p := fun j => ∃ s, depB _ s 23 j = true) ⟨7, rfl⟩ ⟨6, rfl⟩ ⟨5, rfl⟩ ⟨4, rfl⟩ ⟨7, rfl⟩ ⟨6, rfl⟩ ⟨5, rfl⟩ ⟨4, rfl⟩ ⟨3, rfl⟩ ⟨2, rfl⟩ ⟨7, rfl⟩ ⟨6, rfl⟩ ⟨5, rfl⟩ ⟨4, rfl⟩ ⟨3, rfl⟩ ⟨2, rfl⟩ ⟨1, rfl⟩ ⟨6, rfl⟩ ⟨5, rfl⟩ ⟨4, rfl⟩ ⟨3, rfl⟩ ⟨2, rfl⟩ ⟨1, rfl⟩))) rfl (fun _ => rfl) (by kernel_rfl) (fun _ => rfl) ?_ (fun env81 F_84 l_85 hphi => ?_)
     ·skip
      refine .cons (fun L env81 F_86 l_87 hL hdn hup hphi => ⟨[(4, (.pointer (env14.a 50)))], fun S hS hV => (.cons (hS _ _ rfl) (Sub.nil _)), ?_⟩) ?_
      ·skip
       refine .move rfl rfl ?_
       exact .finV rfl rfl Fz.r
      refine .cons (fun L env81 F_88 l_89 hL hdn hup hphi => ⟨[(22, (.pointer (env14.a 50)))], fun S hS hV => (.cons (hV 0 22 _ (hdn 1 0 rfl) rfl rfl) (Sub.nil _)), ?_⟩) ?_
      ·skip
       refine .nilCheckR hp64 rfl rfl ?_
       exact .finV rfl rfl Fz.r
      refine .cons (fun L env81 F_90 l_91 hL hdn hup hphi => ⟨[(23, (.pointer (some ⟨b62, 0, none⟩)))], fun S hS hV => (.cons (hV 1 23 _ (hdn 1 1 rfl) rfl rfl) (Sub.nil _)), ?_⟩) ?_
      ·skip
       refine .fieldAddr rfl Try.underlying119 rfl Try.sizeOf3 rfl ?_
       exact .finV rfl rfl Fz.r
      refine .cons (fun L env81 F_92 l_93 hL hdn hup hphi => ⟨[(24, (.pointer (some ⟨b62, 0 + 4, none⟩)))], fun S hS hV => (.cons (hV 2 24 _ (hdn 1 2 rfl) rfl rfl) (Sub.nil _)), ?_⟩) ?_
      ·skip
       refine .loadR (Φ := fun v => v = (.int .i64 x70.owner)) 0 rfl (Fz.t l_76 l_93) (hb63.mono (Fz.t l_76 l_93)) e71 rfl Try.isAgg3 rfl (fun vs ⟨q0, q1, h, r0⟩ => ⟨_, by subst h; exact rfl, rfl⟩) (fun v hv => ?_)
       subst hv
       exact .finV rfl rfl Fz.r
      refine .cons (fun L env81 F_94 l_95 hL hdn hup hphi => ⟨[(5, (.pointer p54))], fun S hS hV => (.cons (hS _ _ rfl) (Sub.nil _)), ?_⟩) ?_
      ·skip
       refine .move rfl rfl ?_
       exact .finV rfl rfl Fz.r
      refine .cons (fun L env81 F_96 l_97 hL hdn hup hphi => ⟨[(26, (.pointer p54))], fun S hS hV => (.cons (hV 4 26 _ (hdn 1 4 rfl) rfl rfl) (Sub.nil _)), ?_⟩) ?_
      ·skip
       refine .nilCheckR hp69 rfl rfl ?_
       exact .finV rfl rfl Fz.r
      refine .cons (fun L env81 F_98 l_99 hL hdn hup hphi => ⟨[(27, (.pointer (some ⟨b67, 0, none⟩)))], fun S hS hV => (.cons (hV 5 27 _ (hdn 1 5 rfl) rfl rfl) (Sub.nil _)), ?_⟩) ?_
      ·skip
       refine .fieldAddr rfl Try.underlying119 rfl Try.sizeOf3 rfl ?_
       exact .finV rfl rfl Fz.r
      refine .cons (fun L env81 F_100 l_101 hL hdn hup hphi => ⟨[(28, (.pointer (some ⟨b67, 0 + 4, none⟩)))], fun S hS hV => (.cons (hV 6 28 _ (hdn 1 6 rfl) rfl rfl) (Sub.nil _)), ?_⟩) ?_
      ·skip
       refine .loadR (Φ := fun v => v = (.int .i64 x72.owner)) 0 rfl (Fz.t l_76 l_101) (hb68.mono (Fz.t l_76 l_101)) e73 rfl Try.isAgg3 rfl (fun vs ⟨q0, q1, h, r0⟩ => ⟨_, by subst h; exact rfl, rfl⟩) (fun v hv => ?_)
       subst hv
       exact .finV rfl rfl Fz.r
      refine .cons (fun L env81 F_102 l_103 hL hdn hup hphi => ⟨[(25, (.int .i64 x70.owner)), (29, (.int .i64 x72.owner))], fun S hS hV => (.cons (hV 3 25 _ (hdn 1 3 rfl) rfl rfl) (.cons (hV 7 29 _ (hdn 1 7 rfl) rfl rfl) (Sub.nil _))), ?_⟩) ?_
      ·skip
       refine .eql rfl rfl rfl ?_
       exact .finV rfl rfl Fz.r
      refine .cons (fun L env81 F_104 l_105 hL hdn hup hphi => ⟨[(30, (.bool (x70.owner == x72.owner)))], fun S hS hV => (.cons (hV 8 30 _ (hdn 1 8 rfl) rfl rfl) (Sub.nil _)), ?_⟩) ?_
      ·skip
       refine .move rfl rfl ?_
       exact .finV rfl rfl Fz.r
      refine .cons (fun L env81 F_106 l_107 hL hdn hup hphi => ⟨[(4, (.pointer (env14.a 50))), (31, (.bool (x70.owner == x72.owner)))], fun S hS hV => (.cons (hS _ _ rfl) (.cons (hV 9 31 _ (hdn 1 9 rfl) rfl rfl) (Sub.nil _))), ?_⟩) ?_
      ·skip
       refine .onH hb82 rfl rfl (.move rfl rfl ?_)
       exact .finV rfl rfl Fz.r
      refine .cons (fun L env81 F_108 l_109 hL hdn hup hphi => ⟨[(31, (.bool (x70.owner == x72.owner))), (32, (.pointer (env14.a 50)))], fun S hS hV => (.cons (hV 9 31 _ (hdn 1 9 rfl) rfl rfl) (.cons (hV 10 32 _ (hdn 1 10 rfl) rfl rfl) (Sub.nil _))), ?_⟩) ?_
      ·skip
       refine .onH hb82 rfl rfl (.nilCheckR hp64 rfl rfl ?_)
       exact .finV rfl rfl Fz.r
      refine .cons (fun L env81 F_110 l_111 hL hdn hup hphi => ⟨[(31, (.bool (x70.owner == x72.owner))), (33, (.pointer (some ⟨b62, 0, none⟩)))], fun S hS hV => (.cons (hV 9 31 _ (hdn 1 9 rfl) rfl rfl) (.cons (hV 11 33 _ (hdn 1 11 rfl) rfl rfl) (Sub.nil _))), ?_⟩) ?_
      ·skip
       refine .onH hb82 rfl rfl (.fieldAddr rfl Try.underlying119 rfl Try.sizeOf3 rfl ?_)
       exact .finV rfl rfl Fz.r
      refine .cons (fun L env81 F_112 l_113 hL hdn hup hphi => ⟨[(31, (.bool (x70.owner == x72.owner))), (34, (.pointer (some ⟨b62, 0 + 5, none⟩)))], fun S hS hV => (.cons (hV 9 31 _ (hdn 1 9 rfl) rfl rfl) (.cons (hV 12 34 _ (hdn 1 12 rfl) rfl rfl) (Sub.nil _))), ?_⟩) ?_
      ·skip
       refine .onH hb82 rfl rfl (.loadR (Φ := fun v => v = (.int .i64 x70.creditor)) 0 rfl (Fz.t l_76 l_113) (hb63.mono (Fz.t l_76 l_113)) e71 rfl Try.isAgg3 rfl (fun vs ⟨q0, q1, h, r0⟩ => ⟨_, by subst h; exact rfl, rfl⟩) (fun v hv => ?_))
       subst hv
       exact .finV rfl rfl Fz.r
      refine .cons (fun L env81 F_114 l_115 hL hdn hup hphi => ⟨[(31, (.bool (x70.owner == x72.owner))), (35, (.int .i64 x70.creditor))], fun S hS hV => (.cons (hV 9 31 _ (hdn 1 9 rfl) rfl rfl) (.cons (hV 13 35 _ (hdn 1 13 rfl) rfl rfl) (Sub.nil _))), ?_⟩) ?_
      ·skip
       refine .onH hb82 rfl rfl (.eql rfl rfl rfl ?_)
       exact .finV rfl rfl Fz.r
      refine .cons (fun L env81 F_116 l_117 hL hdn hup hphi => ⟨[(31, (.bool (x70.owner == x72.owner))), (36, (.bool (x70.creditor == (-1))))], fun S hS hV => (.cons (hV 9 31 _ (hdn 1 9 rfl) rfl rfl) (.cons (hV 14 36 _ (hdn 1 14 rfl) rfl rfl) (Sub.nil _))), ?_⟩) ?_
      ·skip
       refine .pickTH hb82  rfl rfl rfl ?_
       exact .finV rfl rfl Fz.r
      refine .cons (fun L env81 F_118 l_119 hL hdn hup hphi => ⟨[(37, (.bool (x70.creditor == (-1))))], fun S hS hV => (.cons (hV 15 37 _ (hdn 1 15 rfl) rfl rfl) (Sub.nil _)), ?_⟩) ?_
      ·skip
       refine .move rfl rfl ?_
       exact .finV rfl rfl Fz.r
      refine .cons (fun L env81 F_120 l_121 hL hdn hup hphi => ⟨[(5, (.pointer p54)), (38, (.bool (x70.creditor == (-1))))], fun S hS hV => (.cons (hS _ _ rfl) (.cons (hV 16 38 _ (hdn 1 16 rfl) rfl rfl) (Sub.nil _))), ?_⟩) ?_
      ·skip
       refine .onH hb83 rfl rfl (.move rfl rfl ?_)
       exact .finV rfl rfl Fz.r
      refine .cons (fun L env81 F_122 l_123 hL hdn hup hphi => ⟨[(38, (.bool (x70.creditor == (-1)))), (39, (.pointer p54))], fun S hS hV => (.cons (hV 16 38 _ (hdn 1 16 rfl) rfl rfl) (.cons (hV 17 39 _ (hdn 1 17 rfl) rfl rfl) (Sub.nil _))), ?_⟩) ?_
      ·skip
       refine .onH hb83 rfl rfl (.nilCheckR hp69 rfl rfl ?_)
       exact .finV rfl rfl Fz.r
      refine .cons (fun L env81 F_124 l_125 hL hdn hup hphi => ⟨[(38, (.bool (x70.creditor == (-1)))), (40, (.pointer (some ⟨b67, 0, none⟩)))], fun S hS hV => (.cons (hV 16 38 _ (hdn 1 16 rfl) rfl rfl) (.cons (hV 18 40 _ (hdn 1 18 rfl) rfl rfl) (Sub.nil _))), ?_⟩) ?_
      ·skip
       refine .onH hb83 rfl rfl (.fieldAddr rfl Try.underlying119 rfl Try.sizeOf3 rfl ?_)
       exact .finV rfl rfl Fz.r
      refine .cons (fun L env81 F_126 l_127 hL hdn hup hphi => ⟨[(38, (.bool (x70.creditor == (-1)))), (41, (.pointer (some ⟨b67, 0 + 5, none⟩)))], fun S hS hV => (.cons (hV 16 38 _ (hdn 1 16 rfl) rfl rfl) (.cons (hV 19 41 _ (hdn 1 19 rfl) rfl rfl) (Sub.nil _))), ?_⟩) ?_
      ·skip
       refine .onH hb83 rfl rfl (.loadR (Φ := fun v => v = (.int .i64 x72.creditor)) 0 rfl (Fz.t l_76 l_127) (hb68.mono (Fz.t l_76 l_127)) e73 rfl Try.isAgg3 rfl (fun vs ⟨q0, q1, h, r0⟩ => ⟨_, by subst h; exact rfl, rfl⟩) (fun v hv => ?_))
       subst hv
       exact .finV rfl rfl Fz.r
      refine .cons (fun L env81 F_128 l_129 hL hdn hup hphi => ⟨[(38, (.bool (x70.creditor == (-1)))), (42, (.int .i64 x72.creditor))], fun S hS hV => (.cons (hV 16 38 _ (hdn 1 16 rfl) rfl rfl) (.cons (hV 20 42 _ (hdn 1 20 rfl) rfl rfl) (Sub.nil _))), ?_⟩) ?_
      ·skip
       refine .onH hb83 rfl rfl (.eql rfl rfl rfl ?_)
       exact .finV rfl rfl Fz.r
      refine .cons (fun L env81 F_130 l_131 hL hdn hup hphi => ⟨[(38, (.bool (x70.creditor == (-1)))), (43, (.bool (x72.creditor == (-1))))], fun S hS hV => (.cons (hV 16 38 _ (hdn 1 16 rfl) rfl rfl) (.cons (hV 21 43 _ (hdn 1 21 rfl) rfl rfl) (Sub.nil _))), ?_⟩) ?_
      ·skip
       refine .pickTH hb83  rfl rfl rfl ?_
       exact .finV rfl rfl Fz.r
      exact .nil
     refine .norm (S' := [(3, (.pointer (some ⟨b10, 0, none⟩))), (4, (.pointer (env14.a 50))), (5, (.pointer p54)), (22, (.pointer (env14.a 50))), (23, (.pointer (some ⟨b62, 0, none⟩))), (24, (.pointer (some ⟨b62, 0 + 4, none⟩))), (25, (.int .i64 x70.owner)), (26, (.pointer p54)), (27, (.pointer (some ⟨b67, 0, none⟩))), (28, (.pointer (some ⟨b67, 0 + 4, none⟩))), (29, (.int .i64 x72.owner)), (30, (.bool (x70.owner == x72.owner))), (31, (.bool (x70.owner == x72.owner))), (32, (.pointer (env14.a 50))), (33, (.pointer (some ⟨b62, 0, none⟩))), (34, (.pointer (some ⟨b62, 0 + 5, none⟩))), (35, (.int .i64 x70.creditor)), (36, (.bool (x70.creditor == (-1)))), (37, (.bool (x70.creditor == (-1)))), (38, (.bool (x70.creditor == (-1)))), (39, (.pointer p54)), (40, (.pointer (some ⟨b67, 0, none⟩))), (41, (.pointer (some ⟨b67, 0 + 5, none⟩))), (42, (.int .i64 x72.creditor)), (43, (.bool (x72.creditor == (-1)))), (44, (.bool (x72.creditor == (-1))))]) (.cons (k := 3) rfl (.cons (k := 4) rfl (.cons (k := 5) rfl (.cons (k := 22) rfl (.cons (k := 23) rfl (.cons (k := 24) rfl (.cons (k := 25) rfl (.cons (k := 26) rfl (.cons (k := 27) rfl (.cons (k := 28) rfl (.cons (k := 29) rfl (.cons (k := 30) rfl (.cons (k := 31) rfl (.cons (k := 32) rfl (.cons (k := 33) rfl (.cons (k := 34) rfl (.cons (k := 35) rfl (.cons (k := 36) rfl (.cons (k := 37) rfl (.cons (k := 38) rfl (.cons (k := 39) rfl (.cons (k := 40) rfl (.cons (k := 41) rfl (.cons (k := 42) rfl (.cons (k := 43) rfl (.cons (k := 44) rfl (.nil _))))))))))))))))))))))))))) (rfl : _ = [arena Γ.g119 (C119 Γ) F_51 r_50.2, arena Γ.g92 (C92 Γ) F_51 A2, arena Γ.g117 (C117 Γ) F0 A3, arena Γ.g90 (C90 Γ) F_51 A4, R]) ?_
     refine .callB [] rfl Try.call50 rfl rfl rfl rfl (c_cask_need _ (x72.creditor == (-1)) 11) ?_ (fun q138 F_136 _ l_137 => (LPost.panQ fun a w h => ⟨rfl, F_136, (Fz.t l_85 l_137), h.1.sub (.nil _), SH.picks [4] rfl h.2⟩))
     rintro r_132 F_133 _ e135 l_134 rfl
     refine .pick [0, 0, 0, 0, 0] (rfl : _ = [arena Γ.g119 (C119 Γ) F_51 r_50.2, arena Γ.g92 (C92 Γ) F_51 A2, arena Γ.g117 (C117 Γ) F0 A3, arena Γ.g90 (C90 Γ) F_51 A4, R]) (.nil ?_)
     exact .nil (LPost.norm fun a w h => ⟨F_133, (Fz.t l_85 l_134), h.1.sub (.cons (k := 3) rfl (.cons (k := 4) rfl (.cons (k := 5) rfl (.nil _)))), h.2⟩)
    ·skip
     refine .drawGD 23 0 (fun env81 => [((.pointer (env14.a 50)), fun _ => True), ((.pointer (some ⟨b62, 0, none⟩)), fun _ => True), ((.pointer (some ⟨b62, 0 + 4, none⟩)), fun _ => True), ((.int .i64 x70.owner), fun _ => True), ((.pointer p54), fun _ => True), ((.pointer (some ⟨b67, 0, none⟩)), fun _ => True), ((.pointer (some ⟨b67, 0 + 4, none⟩)), fun _ => True), ((.int .i64 x72.owner), fun _ => True), ((.bool (x70.owner == x72.owner)), fun _ => True), ((.bool (x70.owner == x72.owner)), fun _ => True), ((.pointer (env14.a 50)), fun _ => True), ((.pointer (some ⟨b62, 0, none⟩)), fun _ => True), ((.pointer (some ⟨b62, 0 + 5, none⟩)), fun _ => True), ((.int .i64 x70.creditor), fun _ => True), ((.bool (x70.creditor == (-1))), fun _ => True), ((.bool (x70.creditor == (-1))), fun _ => True), ((.bool (x70.creditor == (-1))), fun _ => True), (undef, fun _ => True), (undef, fun _ => True), (undef, fun _ => True), (undef, fun _ => True), (undef, fun _ => True), ((.bool false), fun _ => True)]) (fun L env81 => [arena Γ.g119 (C119 Γ) F_51 r_50.2, arena Γ.g92 (C92 Γ) F_51 A2, arena Γ.g117 (C117 Γ) F0 A3, arena Γ.g90 (C90 Γ) F_51 A4, R]) mixedOK (by kernel_rfl) (deepN (k := 23) (n := 24) rfl (allLt24 (p := fun t => 23 ≤ t → ∀ j, j < t → ∃ s, depB _ s t j = true) (fun h => absurd h (by decide)) (fun h => absurd h (by decide)) (fun h => absurd h (by decide)) (fun h => absurd h (by decide)) (fun h => absurd h (by decide)) (fun h => absurd h (by decide)) (fun h => absurd h (by decide)) (fun h => absurd h (by decide)) (fun h => absurd h (by decide)) (fun h => absurd h (by decide)) (fun h => absurd h (by decide)) (fun h => absurd h (by decide)) (fun h => absurd h (by decide)) (fun h => absurd h (by decide)) (fun h => absurd h (by decide)) (fun h => absurd h (by decide)) (fun h => absurd h (by decide)) (fun h => absurd h (by decide)) (fun h => absurd h (by decide)) (fun h => absurd h (by decide)) (fun h => absurd h (by decide)) (fun h => absurd h (by decide)) (fun h => absurd h (by decide)) (fun _ => allLt23 (p := fun j => ∃ s, depB _ s 23 j = true) ⟨7, rfl⟩ ⟨6, rfl⟩ ⟨5, rfl⟩ ⟨4, rfl⟩ ⟨7, rfl⟩ ⟨6, rfl⟩ ⟨5, rfl⟩ ⟨4, rfl⟩ ⟨3, rfl⟩ ⟨2, rfl⟩ ⟨7, rfl⟩ ⟨6, rfl⟩ ⟨5, rfl⟩ ⟨4, rfl⟩ ⟨3, rfl⟩ ⟨2, rfl⟩ ⟨1, rfl⟩ ⟨6, rfl⟩ ⟨5, rfl⟩ ⟨4, rfl⟩ ⟨3, rfl⟩ ⟨2, rfl⟩ ⟨1, rfl⟩))) rfl (fun _ => rfl) (by kernel_rfl) (fun _ => rfl) ?_ (fun env81 F_139 l_140 hphi => ?_)
     ·skip
      refine .cons (fun L env81 F_141 l_142 hL hdn hup hphi => ⟨[(4, (.pointer (env14.a 50)))], fun S hS hV => (.cons (hS _ _ rfl) (Sub.nil _)), ?_⟩) ?_
      ·skip
       refine .move rfl rfl ?_
       exact .finV rfl rfl Fz.r
      refine .cons (fun L env81 F_143 l_144 hL hdn hup hphi => ⟨[(22, (.pointer (env14.a 50)))], fun S hS hV => (.cons (hV 0 22 _ (hdn 1 0 rfl) rfl rfl) (Sub.nil _)), ?_⟩) ?_
      ·skip
       refine .nilCheckR hp64 rfl rfl ?_
       exact .finV rfl rfl Fz.r
      refine .cons (fun L env81 F_145 l_146 hL hdn hup hphi => ⟨[(23, (.pointer (some ⟨b62, 0, none⟩)))], fun S hS hV => (.cons (hV 1 23 _ (hdn 1 1 rfl) rfl rfl) (Sub.nil _)), ?_⟩) ?_
      ·skip
       refine .fieldAddr rfl Try.underlying119 rfl Try.sizeOf3 rfl ?_
       exact .finV rfl rfl Fz.r
      refine .cons (fun L env81 F_147 l_148 hL hdn hup hphi => ⟨[(24, (.pointer (some ⟨b62, 0 + 4, none⟩)))], fun S hS hV => (.cons (hV 2 24 _ (hdn 1 2 rfl) rfl rfl) (Sub.nil _)), ?_⟩) ?_
      ·skip
       refine .loadR (Φ := fun v => v = (.int .i64 x70.owner)) 0 rfl (Fz.t l_76 l_148) (hb63.mono (Fz.t l_76 l_148)) e71 rfl Try.isAgg3 rfl (fun vs ⟨q0, q1, h, r0⟩ => ⟨_, by subst h; exact rfl, rfl⟩) (fun v hv => ?_)
       subst hv
       exact .finV rfl rfl Fz.r
      refine .cons (fun L env81 F_149 l_150 hL hdn hup hphi => ⟨[(5, (.pointer p54))], fun S hS hV => (.cons (hS _ _ rfl) (Sub.nil _)), ?_⟩) ?_
      ·skip
       refine .move rfl rfl ?_
       exact .finV rfl rfl Fz.r
      refine .cons (fun L env81 F_151 l_152 hL hdn hup hphi => ⟨[(26, (.pointer p54))], fun S hS hV => (.cons (hV 4 26 _ (hdn 1 4 rfl) rfl rfl) (Sub.nil _)), ?_⟩) ?_
      ·skip
       refine .nilCheckR hp69 rfl rfl ?_
       exact .finV rfl rfl Fz.r
      refine .cons (fun L env81 F_153 l_154 hL hdn hup hphi => ⟨[(27, (.pointer (some ⟨b67, 0, none⟩)))], fun S hS hV => (.cons (hV 5 27 _ (hdn 1 5 rfl) rfl rfl) (Sub.nil _)), ?_⟩) ?_
      ·skip
       refine .fieldAddr rfl Try.underlying119 rfl Try.sizeOf3 rfl ?_
       exact .finV rfl rfl Fz.r
      refine .cons (fun L env81 F_155 l_156 hL hdn hup hphi => ⟨[(28, (.pointer (some ⟨b67, 0 + 4, none⟩)))], fun S hS hV => (.cons (hV 6 28 _ (hdn 1 6 rfl) rfl rfl) (Sub.nil _)), ?_⟩) ?_
      ·skip
       refine .loadR (Φ := fun v => v = (.int .i64 x72.owner)) 0 rfl (Fz.t l_76 l_156) (hb68.mono (Fz.t l_76 l_156)) e73 rfl Try.isAgg3 rfl (fun vs ⟨q0, q1, h, r0⟩ => ⟨_, by subst h; exact rfl, rfl⟩) (fun v hv => ?_)
       subst hv
       exact .finV rfl rfl Fz.r
      refine .cons (fun L env81 F_157 l_158 hL hdn hup hphi => ⟨[(25, (.int .i64 x70.owner)), (29, (.int .i64 x72.owner))], fun S hS hV => (.cons (hV 3 25 _ (hdn 1 3 rfl) rfl rfl) (.cons (hV 7 29 _ (hdn 1 7 rfl) rfl rfl) (Sub.nil _))), ?_⟩) ?_
      ·skip
       refine .eql rfl rfl rfl ?_
       exact .finV rfl rfl Fz.r
      refine .cons (fun L env81 F_159 l_160 hL hdn hup hphi => ⟨[(30, (.bool (x70.owner == x72.owner)))], fun S hS hV => (.cons (hV 8 30 _ (hdn 1 8 rfl) rfl rfl) (Sub.nil _)), ?_⟩) ?_
      ·skip
       refine .move rfl rfl ?_
       exact .finV rfl rfl Fz.r
      refine .cons (fun L env81 F_161 l_162 hL hdn hup hphi => ⟨[(4, (.pointer (env14.a 50))), (31, (.bool (x70.owner == x72.owner)))], fun S hS hV => (.cons (hS _ _ rfl) (.cons (hV 9 31 _ (hdn 1 9 rfl) rfl rfl) (Sub.nil _))), ?_⟩) ?_
      ·skip
       refine .onH hb82 rfl rfl (.move rfl rfl ?_)
       exact .finV rfl rfl Fz.r
      refine .cons (fun L env81 F_163 l_164 hL hdn hup hphi => ⟨[(31, (.bool (x70.owner == x72.owner))), (32, (.pointer (env14.a 50)))], fun S hS hV => (.cons (hV 9 31 _ (hdn 1 9 rfl) rfl rfl) (.cons (hV 10 32 _ (hdn 1 10 rfl) rfl rfl) (Sub.nil _))), ?_⟩) ?_
      ·skip
       refine .onH hb82 rfl rfl (.nilCheckR hp64 rfl rfl ?_)
       exact .finV rfl rfl Fz.r
      refine .cons (fun L env81 F_165 l_166 hL hdn hup hphi => ⟨[(31, (.bool (x70.owner == x72.owner))), (33, (.pointer (some ⟨b62, 0, none⟩)))], fun S hS hV => (.cons (hV 9 31 _ (hdn 1 9 rfl) rfl rfl) (.cons (hV 11 33 _ (hdn 1 11 rfl) rfl rfl) (Sub.nil _))), ?_⟩) ?_
      ·skip
       refine .onH hb82 rfl rfl (.fieldAddr rfl Try.underlying119 rfl Try.sizeOf3 rfl ?_)
       exact .finV rfl rfl Fz.r
      refine .cons (fun L env81 F_167 l_168 hL hdn hup hphi => ⟨[(31, (.bool (x70.owner == x72.owner))), (34, (.pointer (some ⟨b62, 0 + 5, none⟩)))], fun S hS hV => (.cons (hV 9 31 _ (hdn 1 9 rfl) rfl rfl) (.cons (hV 12 34 _ (hdn 1 12 rfl) rfl rfl) (Sub.nil _))), ?_⟩) ?_
      ·skip
       refine .onH hb82 rfl rfl (.loadR (Φ := fun v => v = (.int .i64 x70.creditor)) 0 rfl (Fz.t l_76 l_168) (hb63.mono (Fz.t l_76 l_168)) e71 rfl Try.isAgg3 rfl (fun vs ⟨q0, q1, h, r0⟩ => ⟨_, by subst h; exact rfl, rfl⟩) (fun v hv => ?_))
       subst hv
       exact .finV rfl rfl Fz.r
      refine .cons (fun L env81 F_169 l_170 hL hdn hup hphi => ⟨[(31, (.bool (x70.owner == x72.owner))), (35, (.int .i64 x70.creditor))], fun S hS hV => (.cons (hV 9 31 _ (hdn 1 9 rfl) rfl rfl) (.cons (hV 13 35 _ (hdn 1 13 rfl) rfl rfl) (Sub.nil _))), ?_⟩) ?_
      ·skip
       refine .onH hb82 rfl rfl (.eql rfl rfl rfl ?_)
       exact .finV rfl rfl Fz.r
      refine .cons (fun L env81 F_171 l_172 hL hdn hup hphi => ⟨[(31, (.bool (x70.owner == x72.owner))), (36, (.bool (x70.creditor == (-1))))], fun S hS hV => (.cons (hV 9 31 _ (hdn 1 9 rfl) rfl rfl) (.cons (hV 14 36 _ (hdn 1 14 rfl) rfl rfl) (Sub.nil _))), ?_⟩) ?_
      ·skip
       refine .pickTH hb82  rfl rfl rfl ?_
       exact .finV rfl rfl Fz.r
      refine .cons (fun L env81 F_173 l_174 hL hdn hup hphi => ⟨[(37, (.bool (x70.creditor == (-1))))], fun S hS hV => (.cons (hV 15 37 _ (hdn 1 15 rfl) rfl rfl) (Sub.nil _)), ?_⟩) ?_
      ·skip
       refine .move rfl rfl ?_
       exact .finV rfl rfl Fz.r
      refine .cons (fun L env81 F_175 l_176 hL hdn hup hphi => ⟨[(5, (.pointer p54)), (38, (.bool (x70.creditor == (-1))))], fun S hS hV => (.cons (hS _ _ rfl) (.cons (hV 16 38 _ (hdn 1 16 rfl) rfl rfl) (Sub.nil _))), ?_⟩) ?_
      ·skip
       refine .offH hb83 rfl rfl rfl ?_
       exact .finV rfl rfl Fz.r
      refine .cons (fun L env81 F_177 l_178 hL hdn hup hphi => ⟨[(38, (.bool (x70.creditor == (-1)))), (39, undef)], fun S hS hV => (.cons (hV 16 38 _ (hdn 1 16 rfl) rfl rfl) (.cons (hV 17 39 _ (hdn 1 17 rfl) rfl rfl) (Sub.nil _))), ?_⟩) ?_
      ·skip
       refine .offH hb83 rfl rfl rfl ?_
       exact .finV rfl rfl Fz.r
      refine .cons (fun L env81 F_179 l_180 hL hdn hup hphi => ⟨[(38, (.bool (x70.creditor == (-1)))), (40, undef)], fun S hS hV => (.cons (hV 16 38 _ (hdn 1 16 rfl) rfl rfl) (.cons (hV 18 40 _ (hdn 1 18 rfl) rfl rfl) (Sub.nil _))), ?_⟩) ?_
      ·skip
       refine .offH hb83 rfl rfl rfl ?_
       exact .finV rfl rfl Fz.r
      refine .cons (fun L env81 F_181 l_182 hL hdn hup hphi => ⟨[(38, (.bool (x70.creditor == (-1)))), (41, undef)], fun S hS hV => (.cons (hV 16 38 _ (hdn 1 16 rfl) rfl rfl) (.cons (hV 19 41 _ (hdn 1 19 rfl) rfl rfl) (Sub.nil _))), ?_⟩) ?_
      ·skip
       refine .offH hb83 rfl rfl rfl ?_
       exact .finV rfl rfl Fz.r
      refine .cons (fun L env81 F_183 l_184 hL hdn hup hphi => ⟨[(38, (.bool (x70.creditor == (-1)))), (42, undef)], fun S hS hV => (.cons (hV 16 38 _ (hdn 1 16 rfl) rfl rfl) (.cons (hV 20 42 _ (hdn 1 20 rfl) rfl rfl) (Sub.nil _))), ?_⟩) ?_
      ·skip
       refine .offH hb83 rfl rfl rfl ?_
       exact .finV rfl rfl Fz.r
      refine .cons (fun L env81 F_185 l_186 hL hdn hup hphi => ⟨[(38, (.bool (x70.creditor == (-1)))), (43, undef)], fun S hS hV => (.cons (hV 16 38 _ (hdn 1 16 rfl) rfl rfl) (.cons (hV 21 43 _ (hdn 1 21 rfl) rfl rfl) (Sub.nil _))), ?_⟩) ?_
      ·skip
       refine .pickFH hb83  rfl rfl rfl ?_
       exact .finV rfl rfl Fz.r
      exact .nil
     refine .norm (S' := [(3, (.pointer (some ⟨b10, 0, none⟩))), (4, (.pointer (env14.a 50))), (5, (.pointer p54)), (22, (.pointer (env14.a 50))), (23, (.pointer (some ⟨b62, 0, none⟩))), (24, (.pointer (some ⟨b62, 0 + 4, none⟩))), (25, (.int .i64 x70.owner)), (26, (.pointer p54)), (27, (.pointer (some ⟨b67, 0, none⟩))), (28, (.pointer (some ⟨b67, 0 + 4, none⟩))), (29, (.int .i64 x72.owner)), (30, (.bool (x70.owner == x72.owner))), (31, (.bool (x70.owner == x72.owner))), (32, (.pointer (env14.a 50))), (33, (.pointer (some ⟨b62, 0, none⟩))), (34, (.pointer (some ⟨b62, 0 + 5, none⟩))), (35, (.int .i64 x70.creditor)), (36, (.bool (x70.creditor == (-1)))), (37, (.bool (x70.creditor == (-1)))), (38, (.bool (x70.creditor == (-1)))), (44, (.bool false))]) (.cons (k := 3) rfl (.cons (k := 4) rfl (.cons (k := 5) rfl (.cons (k := 22) rfl (.cons (k := 23) rfl (.cons (k := 24) rfl (.cons (k := 25) rfl (.cons (k := 26) rfl (.cons (k := 27) rfl (.cons (k := 28) rfl (.cons (k := 29) rfl (.cons (k := 30) rfl (.cons (k := 31) rfl (.cons (k := 32) rfl (.cons (k := 33) rfl (.cons (k := 34) rfl (.cons (k := 35) rfl (.cons (k := 36) rfl (.cons (k := 37) rfl (.cons (k := 38) rfl (.cons (k := 44) rfl (.nil _)))))))))))))))))))))) (rfl : _ = [arena Γ.g119 (C119 Γ) F_51 r_50.2, arena Γ.g92 (C92 Γ) F_51 A2, arena Γ.g117 (C117 Γ) F0 A3, arena Γ.g90 (C90 Γ) F_51 A4, R]) ?_
     refine .callB [] rfl Try.call50 rfl rfl rfl rfl (c_cask_need _ false 11) ?_ (fun q193 F_191 _ l_192 => (LPost.panQ fun a w h => ⟨rfl, F_191, (Fz.t l_140 l_192), h.1.sub (.nil _), SH.picks [4] rfl h.2⟩))
     rintro r_187 F_188 _ e190 l_189 rfl
     refine .pick [0, 0, 0, 0, 0] (rfl : _ = [arena Γ.g119 (C119 Γ) F_51 r_50.2, arena Γ.g92 (C92 Γ) F_51 A2, arena Γ.g117 (C117 Γ) F0 A3, arena Γ.g90 (C90 Γ) F_51 A4, R]) (.nil ?_)
     exact .nil (LPost.norm fun a w h => ⟨F_188, (Fz.t l_140 l_189), h.1.sub (.cons (k := 3) rfl (.cons (k := 4) rfl (.cons (k := 5) rfl (.nil _)))), h.2⟩)
   ·skip
    refine .drawGD 23 0 (fun env81 => [((.pointer (env14.a 50)), fun _ => True), ((.pointer (some ⟨b62, 0, none⟩)), fun _ => True), ((.pointer (some ⟨b62, 0 + 4, none⟩)), fun _ => True), ((.int .i64 x70.owner), fun _ => True), ((.pointer p54), fun _ => True), ((.pointer (some ⟨b67, 0, none⟩)), fun _ => True), ((.pointer (some ⟨b67, 0 + 4, none⟩)), fun _ => True), ((.int .i64 x72.owner), fun _ => True), ((.bool (x70.owner == x72.owner)), fun _ => True), ((.bool (x70.owner == x72.owner)), fun _ => True), (undef, fun _ => True), (undef, fun _ => True), (undef, fun _ => True), (undef, fun _ => True), (undef, fun _ => True), ((.bool false), fun _ => True), ((.bool false), fun _ => True), (undef, fun _ => True), (undef, fun _ => True), (undef, fun _ => True), (undef, fun _ => True), (undef, fun _ => True), ((.bool false), fun _ => True)]) (fun L env81 => [arena Γ.g119 (C119 Γ) F_51 r_50.2, arena Γ.g92 (C92 Γ) F_51 A2, arena Γ.g117 (C117 Γ) F0 A3, arena Γ.g90 (C90 Γ) F_51 A4, R]) mixedOK (by kernel_rfl) (deepN (k := 23) (n := 24) rfl (allLt24 (p := fun t => 23 ≤ t → ∀ j, j < t → ∃ s, depB _ s t j = true) (fun h => absurd h (by decide)) (fun h => absurd h (by decide)) (fun h => absurd h (by decide)) (fun h => absurd h (by decide)) (fun h => absurd h (by decide)) (fun h => absurd h (by decide)) (fun h => absurd h (by decide)) (fun h => absurd h (by decide)) (fun h => absurd h (by decide)) (fun h => absurd h (by decide)) (fun h => absurd h (by decide)) (fun h => absurd h (by decide)) (fun h => absurd h (by decide)) (fun h => absurd h (by decide)) (fun h => absurd h (by decide)) (fun h => absurd h (by decide)) (fun h => absurd h (by decide)) (fun h => absurd h (by decide)) (fun h => absurd h (by decide)) (fun h => absurd h (by decide)) (fun h => absurd h (by decide)) (fun h => absurd h (by decide)) (fun h => absurd h (by decide)) (fun _ => allLt23 (p := fun j => ∃ s, depB _ s 23 j = true) ⟨7, rfl⟩ ⟨6, rfl⟩ ⟨5, rfl⟩ ⟨4, rfl⟩ ⟨7, rfl⟩ ⟨6, rfl⟩ ⟨5, rfl⟩ ⟨4, rfl⟩ ⟨3, rfl⟩ ⟨2, rfl⟩ ⟨7, rfl⟩ ⟨6, rfl⟩ ⟨5, rfl⟩ ⟨4, rfl⟩ ⟨3, rfl⟩ ⟨2, rfl⟩ ⟨1, rfl⟩ ⟨6, rfl⟩ ⟨5, rfl⟩ ⟨4, rfl⟩ ⟨3, rfl⟩ ⟨2, rfl⟩ ⟨1, rfl⟩))) rfl (fun _ => rfl) (by kernel_rfl) (fun _ => rfl) ?_ (fun env81 F_194 l_195 hphi => ?_)
    ·skip
     refine .cons (fun L env81 F_196 l_197 hL hdn hup hphi => ⟨[(4, (.pointer (env14.a 50)))], fun S hS hV => (.cons (hS _ _ rfl) (Sub.nil _)), ?_⟩) ?_
     ·skip
      refine .move rfl rfl ?_
      exact .finV rfl rfl Fz.r
     refine .cons (fun L env81 F_198 l_199 hL hdn hup hphi => ⟨[(22, (.pointer (env14.a 50)))], fun S hS hV => (.cons (hV 0 22 _ (hdn 1 0 rfl) rfl rfl) (Sub.nil _)), ?_⟩) ?_
     ·skip
      refine .nilCheckR hp64 rfl rfl ?_
      exact .finV rfl rfl Fz.r
     refine .cons (fun L env81 F_200 l_201 hL hdn hup hphi => ⟨[(23, (.pointer (some ⟨b62, 0, none⟩)))], fun S hS hV => (.cons (hV 1 23 _ (hdn 1 1 rfl) rfl rfl) (Sub.nil _)), ?_⟩) ?_
     ·skip
      refine .fieldAddr rfl Try.underlying119 rfl Try.sizeOf3 rfl ?_
      exact .finV rfl rfl Fz.r
     refine .cons (fun L env81 F_202 l_203 hL hdn hup hphi => ⟨[(24, (.pointer (some ⟨b62, 0 + 4, none⟩)))], fun S hS hV => (.cons (hV 2 24 _ (hdn 1 2 rfl) rfl rfl) (Sub.nil _)), ?_⟩) ?_
     ·skip
      refine .loadR (Φ := fun v => v = (.int .i64 x70.owner)) 0 rfl (Fz.t l_76 l_203) (hb63.mono (Fz.t l_76 l_203)) e71 rfl Try.isAgg3 rfl (fun vs ⟨q0, q1, h, r0⟩ => ⟨_, by subst h; exact rfl, rfl⟩) (fun v hv => ?_)
      subst hv
      exact .finV rfl rfl Fz.r
     refine .cons (fun L env81 F_204 l_205 hL hdn hup hphi => ⟨[(5, (.pointer p54))], fun S hS hV => (.cons (hS _ _ rfl) (Sub.nil _)), ?_⟩) ?_
     ·skip
      refine .move rfl rfl ?_
      exact .finV rfl rfl Fz.r
     refine .cons (fun L env81 F_206 l_207 hL hdn hup hphi => ⟨[(26, (.pointer p54))], fun S hS hV => (.cons (hV 4 26 _ (hdn 1 4 rfl) rfl rfl) (Sub.nil _)), ?_⟩) ?_
     ·skip
      refine .nilCheckR hp69 rfl rfl ?_
      exact .finV rfl rfl Fz.r
     refine .cons (fun L env81 F_208 l_209 hL hdn hup hphi => ⟨[(27, (.pointer (some ⟨b67, 0, none⟩)))], fun S hS hV => (.cons (hV 5 27 _ (hdn 1 5 rfl) rfl rfl) (Sub.nil _)), ?_⟩) ?_
     ·skip
      refine .fieldAddr rfl Try.underlying119 rfl Try.sizeOf3 rfl ?_
      exact .finV rfl rfl Fz.r
     refine .cons (fun L env81 F_210 l_211 hL hdn hup hphi => ⟨[(28, (.pointer (some ⟨b67, 0 + 4, none⟩)))], fun S hS hV => (.cons (hV 6 28 _ (hdn 1 6 rfl) rfl rfl) (Sub.nil _)), ?_⟩) ?_
     ·skip
      refine .loadR (Φ := fun v => v = (.int .i64 x72.owner)) 0 rfl (Fz.t l_76 l_211) (hb68.mono (Fz.t l_76 l_211)) e73 rfl Try.isAgg3 rfl (fun vs ⟨q0, q1, h, r0⟩ => ⟨_, by subst h; exact rfl, rfl⟩) (fun v hv => ?_)
      subst hv
      exact .finV rfl rfl Fz.r
     refine .cons (fun L env81 F_212 l_213 hL hdn hup hphi => ⟨[(25, (.int .i64 x70.owner)), (29, (.int .i64 x72.owner))], fun S hS hV => (.cons (hV 3 25 _ (hdn 1 3 rfl) rfl rfl) (.cons (hV 7 29 _ (hdn 1 7 rfl) rfl rfl) (Sub.nil _))), ?_⟩) ?_
     ·skip
      refine .eql rfl rfl rfl ?_
      exact .finV rfl rfl Fz.r
     refine .cons (fun L env81 F_214 l_215 hL hdn hup hphi => ⟨[(30, (.bool (x70.owner == x72.owner)))], fun S hS hV => (.cons (hV 8 30 _ (hdn 1 8 rfl) rfl rfl) (Sub.nil _)), ?_⟩) ?_
     ·skip
      refine .move rfl rfl ?_
      exact .finV rfl rfl Fz.r
     refine .cons (fun L env81 F_216 l_217 hL hdn hup hphi => ⟨[(4, (.pointer (env14.a 50))), (31, (.bool (x70.owner == x72.owner)))], fun S hS hV => (.cons (hS _ _ rfl) (.cons (hV 9 31 _ (hdn 1 9 rfl) rfl rfl) (Sub.nil _))), ?_⟩) ?_
     ·skip
      refine .offH hb82 rfl rfl rfl ?_
      exact .finV rfl rfl Fz.r
     refine .cons (fun L env81 F_218 l_219 hL hdn hup hphi => ⟨[(31, (.bool (x70.owner == x72.owner))), (32, undef)], fun S hS hV => (.cons (hV 9 31 _ (hdn 1 9 rfl) rfl rfl) (.cons (hV 10 32 _ (hdn 1 10 rfl) rfl rfl) (Sub.nil _))), ?_⟩) ?_
     ·skip
      refine .offH hb82 rfl rfl rfl ?_
      exact .finV rfl rfl Fz.r
     refine .cons (fun L env81 F_220 l_221 hL hdn hup hphi => ⟨[(31, (.bool (x70.owner == x72.owner))), (33, undef)], fun S hS hV => (.cons (hV 9 31 _ (hdn 1 9 rfl) rfl rfl) (.cons (hV 11 33 _ (hdn 1 11 rfl) rfl rfl) (Sub.nil _))), ?_⟩) ?_
     ·skip
      refine .offH hb82 rfl rfl rfl ?_
      exact .finV rfl rfl Fz.r
     refine .cons (fun L env81 F_222 l_223 hL hdn hup hphi => ⟨[(31, (.bool (x70.owner == x72.owner))), (34, undef)], fun S hS hV => (.cons (hV 9 31 _ (hdn 1 9 rfl) rfl rfl) (.cons (hV 12 34 _ (hdn 1 12 rfl) rfl rfl) (Sub.nil _))), ?_⟩) ?_
     ·skip
      refine .offH hb82 rfl rfl rfl ?_
      exact .finV rfl rfl Fz.r
     refine .cons (fun L env81 F_224 l_225 hL hdn hup hphi => ⟨[(31, (.bool (x70.owner == x72.owner))), (35, undef)], fun S hS hV => (.cons (hV 9 31 _ (hdn 1 9 rfl) rfl rfl) (.cons (hV 13 35 _ (hdn 1 13 rfl) rfl rfl) (Sub.nil _))), ?_⟩) ?_
     ·skip
      refine .offH hb82 rfl rfl rfl ?_
      exact .finV rfl rfl Fz.r
     refine .cons (fun L env81 F_226 l_227 hL hdn hup hphi => ⟨[(31, (.bool (x70.owner == x72.owner))), (36, undef)], fun S hS hV => (.cons (hV 9 31 _ (hdn 1 9 rfl) rfl rfl) (.cons (hV 14 36 _ (hdn 1 14 rfl) rfl rfl) (Sub.nil _))), ?_⟩) ?_
     ·skip
      refine .pickFH hb82  rfl rfl rfl ?_
      exact .finV rfl rfl Fz.r
     refine .cons (fun L env81 F_228 l_229 hL hdn hup hphi => ⟨[(37, (.bool false))], fun S hS hV => (.cons (hV 15 37 _ (hdn 1 15 rfl) rfl rfl) (Sub.nil _)), ?_⟩) ?_
     ·skip
      refine .move rfl rfl ?_
      exact .finV rfl rfl Fz.r
     refine .cons (fun L env81 F_230 l_231 hL hdn hup hphi => ⟨[(5, (.pointer p54)), (38, (.bool false))], fun S hS hV => (.cons (hS _ _ rfl) (.cons (hV 16 38 _ (hdn 1 16 rfl) rfl rfl) (Sub.nil _))), ?_⟩) ?_
     ·skip
      refine .off rfl rfl rfl rfl ?_
      exact .finV rfl rfl Fz.r
     refine .cons (fun L env81 F_232 l_233 hL hdn hup hphi => ⟨[(38, (.bool false)), (39, undef)], fun S hS hV => (.cons (hV 16 38 _ (hdn 1 16 rfl) rfl rfl) (.cons (hV 17 39 _ (hdn 1 17 rfl) rfl rfl) (Sub.nil _))), ?_⟩) ?_
     ·skip
      refine .off rfl rfl rfl rfl ?_
      exact .finV rfl rfl Fz.r
     refine .cons (fun L env81 F_234 l_235 hL hdn hup hphi => ⟨[(38, (.bool false)), (40, undef)], fun S hS hV => (.cons (hV 16 38 _ (hdn 1 16 rfl) rfl rfl) (.cons (hV 18 40 _ (hdn 1 18 rfl) rfl rfl) (Sub.nil _))), ?_⟩) ?_
     ·skip
      refine .off rfl rfl rfl rfl ?_
      exact .finV rfl rfl Fz.r
     refine .cons (fun L env81 F_236 l_237 hL hdn hup hphi => ⟨[(38, (.bool false)), (41, undef)], fun S hS hV => (.cons (hV 16 38 _ (hdn 1 16 rfl) rfl rfl) (.cons (hV 19 41 _ (hdn 1 19 rfl) rfl rfl) (Sub.nil _))), ?_⟩) ?_
     ·skip
      refine .off rfl rfl rfl rfl ?_
      exact .finV rfl rfl Fz.r
     refine .cons (fun L env81 F_238 l_239 hL hdn hup hphi => ⟨[(38, (.bool false)), (42, undef)], fun S hS hV => (.cons (hV 16 38 _ (hdn 1 16 rfl) rfl rfl) (.cons (hV 20 42 _ (hdn 1 20 rfl) rfl rfl) (Sub.nil _))), ?_⟩) ?_
     ·skip
      refine .off rfl rfl rfl rfl ?_
      exact .finV rfl rfl Fz.r
     refine .cons (fun L env81 F_240 l_241 hL hdn hup hphi => ⟨[(38, (.bool false)), (43, undef)], fun S hS hV => (.cons (hV 16 38 _ (hdn 1 16 rfl) rfl rfl) (.cons (hV 21 43 _ (hdn 1 21 rfl) rfl rfl) (Sub.nil _))), ?_⟩) ?_
     ·skip
      refine .pickF  rfl rfl rfl ?_
      exact .finV rfl rfl Fz.r
     exact .nil
    refine .norm (S' := [(3, (.pointer (some ⟨b10, 0, none⟩))), (4, (.pointer (env14.a 50))), (5, (.pointer p54)), (22, (.pointer (env14.a 50))), (23, (.pointer (some ⟨b62, 0, none⟩))), (24, (.pointer (some ⟨b62, 0 + 4, none⟩))), (25, (.int .i64 x70.owner)), (26, (.pointer p54)), (27, (.pointer (some ⟨b67, 0, none⟩))), (28, (.pointer (some ⟨b67, 0 + 4, none⟩))), (29, (.int .i64 x72.owner)), (30, (.bool (x70.owner == x72.owner))), (31, (.bool (x70.owner == x72.owner))), (37, (.bool false)), (38, (.bool false)), (44, (.bool false))]) (.cons (k := 3) rfl (.cons (k := 4) rfl (.cons (k := 5) rfl (.cons (k := 22) rfl (.cons (k := 23) rfl (.cons (k := 24) rfl (.cons (k := 25) rfl (.cons (k := 26) rfl (.cons (k := 27) rfl (.cons (k := 28) rfl (.cons (k := 29) rfl (.cons (k := 30) rfl (.cons (k := 31) rfl (.cons (k := 37) rfl (.cons (k := 38) rfl (.cons (k := 44) rfl (.nil _))))))))))))))))) (rfl : _ = [arena Γ.g119 (C119 Γ) F_51 r_50.2, arena Γ.g92 (C92 Γ) F_51 A2, arena Γ.g117 (C117 Γ) F0 A3, arena Γ.g90 (C90 Γ) F_51 A4, R]) ?_
    refine .callB [] rfl Try.call50 rfl rfl rfl rfl (c_cask_need _ false 11) ?_ (fun q248 F_246 _ l_247 => (LPost.panQ fun a w h => ⟨rfl, F_246, (Fz.t l_195 l_247), h.1.sub (.nil _), SH.picks [4] rfl h.2⟩))
    rintro r_242 F_243 _ e245 l_244 rfl
    refine .pick [0, 0, 0, 0, 0] (rfl : _ = [arena Γ.g119 (C119 Γ) F_51 r_50.2, arena Γ.g92 (C92 Γ) F_51 A2, arena Γ.g117 (C117 Γ) F0 A3, arena Γ.g90 (C90 Γ) F_51 A4, R]) (.nil ?_)
    exact .nil (LPost.norm fun a w h => ⟨F_243, (Fz.t l_195 l_244), h.1.sub (.cons (k := 3) rfl (.cons (k := 4) rfl (.cons (k := 5) rfl (.nil _)))), h.2⟩)
  ·skip
   refine .code (.seq (.keep (.cons (k := 3) rfl (.cons (k := 4) rfl (.cons (k := 5) rfl (.nil _)))) ?_))
   refine .drawGD 6 0 (fun env256 => [((.pointer (env14.a 50)), fun _ => True), ((.pointer (some ⟨b62, 0, none⟩)), fun _ => True), ((.pointer (some ⟨b62, 0 + 6, none⟩)), fun _ => True), ((.int .i64 x70.amount), fun _ => True), ((.pointer (some ⟨b10, 0 + 6, none⟩)), fun _ => True), ((.int .i64 x9.Amount), fun _ => True)]) (fun L env256 => [arena Γ.g119 (C119 Γ) F_51 r_50.2, arena Γ.g92 (C92 Γ) F_51 A2, arena Γ.g117 (C117 Γ) F0 A3, arena Γ.g90 (C90 Γ) F_51 A4, R]) mixedOK (by kernel_rfl) (deepN (k := 6) (n := 8) rfl (allLt8 (p := fun t => 6 ≤ t → ∀ j, j < t → ∃ s, depB _ s t j = true) (fun h => absurd h (by decide)) (fun h => absurd h (by decide)) (fun h => absurd h (by decide)) (fun h => absurd h (by decide)) (fun h => absurd h (by decide)) (fun h => absurd h (by decide)) (fun _ => allLt6 (p := fun j => ∃ s, depB _ s 6 j = true) ⟨4, rfl⟩ ⟨3, rfl⟩ ⟨2, rfl⟩ ⟨1, rfl⟩ ⟨2, rfl⟩ ⟨1, rfl⟩) (fun _ => allLt7 (p := fun j => ∃ s, depB _ s 7 j = true) ⟨5, rfl⟩ ⟨4, rfl⟩ ⟨3, rfl⟩ ⟨2, rfl⟩ ⟨3, rfl⟩ ⟨2, rfl⟩ ⟨1, rfl⟩))) rfl (fun _ => rfl) (by kernel_rfl) (fun _ => rfl) ?_ (fun env256 F_257 l_258 hphi => ?_)
   ·skip
    refine .cons (fun L env256 F_259 l_260 hL hdn hup hphi => ⟨[(4, (.pointer (env14.a 50)))], fun S hS hV => (.cons (hS _ _ rfl) (Sub.nil _)), ?_⟩) ?_
    ·skip
     refine .move rfl rfl ?_
     exact .finV rfl rfl Fz.r
    refine .cons (fun L env256 F_261 l_262 hL hdn hup hphi => ⟨[(46, (.pointer (env14.a 50)))], fun S hS hV => (.cons (hV 0 46 _ (hdn 1 0 rfl) rfl rfl) (Sub.nil _)), ?_⟩) ?_
    ·skip
     refine .nilCheckR hp64 rfl rfl ?_
     exact .finV rfl rfl Fz.r
    refine .cons (fun L env256 F_263 l_264 hL hdn hup hphi => ⟨[(47, (.pointer (some ⟨b62, 0, none⟩)))], fun S hS hV => (.cons (hV 1 47 _ (hdn 1 1 rfl) rfl rfl) (Sub.nil _)), ?_⟩) ?_
    ·skip
     refine .fieldAddr rfl Try.underlying119 rfl Try.sizeOf3 rfl ?_
     exact .finV rfl rfl Fz.r
    refine .cons (fun L env256 F_265 l_266 hL hdn hup hphi => ⟨[(48, (.pointer (some ⟨b62, 0 + 6, none⟩)))], fun S hS hV => (.cons (hV 2 48 _ (hdn 1 2 rfl) rfl rfl) (Sub.nil _)), ?_⟩) ?_
    ·skip
     refine .loadR (Φ := fun v => v = (.int .i64 x70.amount)) 0 rfl (Fz.t l_76 (Fz.t l_251 l_266)) (hb63.mono (Fz.t l_76 (Fz.t l_251 l_266))) e71 rfl Try.isAgg3 rfl (fun vs ⟨q0, q1, h, r0⟩ => ⟨_, by subst h; exact rfl, rfl⟩) (fun v hv => ?_)
     subst hv
     exact .finV rfl rfl Fz.r
    refine .cons (fun L env256 F_267 l_268 hL hdn hup hphi => ⟨[(3, (.pointer (some ⟨b10, 0, none⟩)))], fun S hS hV => (.cons (hS _ _ rfl) (Sub.nil _)), ?_⟩) ?_
    ·skip
     refine .fieldAddr rfl Try.underlying62 rfl Try.sizeOf3 rfl ?_
     exact .finV rfl rfl Fz.r
    refine .cons (fun L env256 F_269 l_270 hL hdn hup hphi => ⟨[(50, (.pointer (some ⟨b10, 0 + 6, none⟩)))], fun S hS hV => (.cons (hV 4 50 _ (hdn 1 4 rfl) rfl rfl) (Sub.nil _)), ?_⟩) ?_
    ·skip
     refine .loadF rfl Try.isAgg3 rfl ((Fz.t l_21 (Fz.t l_52 (Fz.t l_76 (Fz.t l_251 l_270)))).mem _ _ hb13) rfl ?_
     exact .finV rfl rfl Fz.r
    exact .nil
   refine .norm (S' := [(3, (.pointer (some ⟨b10, 0, none⟩))), (4, (.pointer (env14.a 50))), (5, (.pointer p54)), (46, (.pointer (env14.a 50))), (47, (.pointer (some ⟨b62, 0, none⟩))), (48, (.pointer (some ⟨b62, 0 + 6, none⟩))), (49, (.int .i64 x70.amount)), (50, (.pointer (some ⟨b10, 0 + 6, none⟩))), (51, (.int .i64 x9.Amount))]) (.cons (k := 3) rfl (.cons (k := 4) rfl (.cons (k := 5) rfl (.cons (k := 46) rfl (.cons (k := 47) rfl (.cons (k := 48) rfl (.cons (k := 49) rfl (.cons (k := 50) rfl (.cons (k := 51) rfl (.nil _)))))))))) (rfl : _ = [arena Γ.g119 (C119 Γ) F_51 r_50.2, arena Γ.g92 (C92 Γ) F_51 A2, arena Γ.g117 (C117 Γ) F0 A3, arena Γ.g90 (C90 Γ) F_51 A4, R]) ?_
   refine .geq rfl rfl rfl (.callB [] rfl Try.call50 rfl rfl rfl rfl (c_cask_need _ (decide (x70.amount ≥ x9.Amount)) 10) ?_ (fun q277 F_275 _ l_276 => (pan_postX (i := 4) rfl (Fz.t l_12 (Fz.t l_21 (Fz.t l_52 (Fz.t l_76 (Fz.t l_251 (Fz.t l_258 l_276)))))))))
   rintro r_271 F_272 _ e274 l_273 rfl
   refine .pick [0, 0, 0, 0, 0] (rfl : _ = [arena Γ.g119 (C119 Γ) F_51 r_50.2, arena Γ.g92 (C92 Γ) F_51 A2, arena Γ.g117 (C117 Γ) F0 A3, arena Γ.g90 (C90 Γ) F_51 A4, R]) (.nil (.code (.seq (.keep (.cons (k := 3) rfl (.cons (k := 4) rfl (.cons (k := 5) rfl (.nil _)))) ?_))))
   refine .drawGD 11 0 (fun env278 => [((.pointer p54), fun _ => True), ((.pointer (some ⟨b67, 0, none⟩)), fun _ => True), ((.pointer (some ⟨b67, 0 + 6, none⟩)), fun _ => True), ((.int .i64 x72.amount), fun _ => True), ((.pointer (some ⟨b10, 0 + 6, none⟩)), fun _ => True), ((.int .i64 x9.Amount), fun _ => True), ((.int .i64 (w64 (x72.amount + x9.Amount))), fun _ => True), ((.pointer p54), fun _ => True), ((.pointer (some ⟨b67, 0, none⟩)), fun _ => True), ((.pointer (some ⟨b67, 0 + 3, none⟩)), fun _ => True), ((.int .i64 x72.room), fun _ => True)]) (fun L env278 => [arena Γ.g119 (C119 Γ) F_51 r_50.2, arena Γ.g92 (C92 Γ) F_51 A2, arena Γ.g117 (C117 Γ) F0 A3, arena Γ.g90 (C90 Γ) F_51 A4, R]) mixedOK (by kernel_rfl) (deepN (k := 11) (n := 13) rfl (allLt13 (p := fun t => 11 ≤ t → ∀ j, j < t → ∃ s, depB _ s t j = true) (fun h => absurd h (by decide)) (fun h => absurd h (by decide)) (fun h => absurd h (by decide)) (fun h => absurd h (by decide)) (fun h => absurd h (by decide)) (fun h => absurd h (by decide)) (fun h => absurd h (by decide)) (fun h => absurd h (by decide)) (fun h => absurd h (by decide)) (fun h => absurd h (by decide)) (fun h => absurd h (by decide)) (fun _ => allLt11 (p := fun j => ∃ s, depB _ s 11 j = true) ⟨5, rfl⟩ ⟨4, rfl⟩ ⟨3, rfl⟩ ⟨2, rfl⟩ ⟨3, rfl⟩ ⟨2, rfl⟩ ⟨1, rfl⟩ ⟨4, rfl⟩ ⟨3, rfl⟩ ⟨2, rfl⟩ ⟨1, rfl⟩) (fun _ => allLt12 (p := fun j => ∃ s, depB _ s 12 j = true) ⟨6, rfl⟩ ⟨5, rfl⟩ ⟨4, rfl⟩ ⟨3, rfl⟩ ⟨4, rfl⟩ ⟨3, rfl⟩ ⟨2, rfl⟩ ⟨5, rfl⟩ ⟨4, rfl⟩ ⟨3, rfl⟩ ⟨2, rfl⟩ ⟨1, rfl⟩))) rfl (fun _ => rfl) (by kernel_rfl) (fun _ => rfl) ?_ (fun env278 F_279 l_280 hphi => ?_)
   ·skip
    refine .cons (fun L env278 F_281 l_282 hL hdn hup hphi => ⟨[(5, (.pointer p54))], fun S hS hV => (.cons (hS _ _ rfl) (Sub.nil _)), ?_⟩) ?_
    ·skip
     refine .move rfl rfl ?_
     exact .finV rfl rfl Fz.r
    refine .cons (fun L env278 F_283 l_284 hL hdn hup hphi => ⟨[(54, (.pointer p54))], fun S hS hV => (.cons (hV 0 54 _ (hdn 1 0 rfl) rfl rfl) (Sub.nil _)), ?_⟩) ?_
    ·skip
     refine .nilCheckR hp69 rfl rfl ?_
     exact .finV rfl rfl Fz.r
    refine .cons (fun L env278 F_285 l_286 hL hdn hup hphi => ⟨[(55, (.pointer (some ⟨b67, 0, none⟩)))], fun S hS hV => (.cons (hV 1 55 _ (hdn 1 1 rfl) rfl rfl) (Sub.nil _)), ?_⟩) ?_
    ·skip
     refine .fieldAddr rfl Try.underlying119 rfl Try.sizeOf3 rfl ?_
     exact .finV rfl rfl Fz.r
    refine .cons (fun L env278 F_287 l_288 hL hdn hup hphi => ⟨[(56, (.pointer (some ⟨b67, 0 + 6, none⟩)))], fun S hS hV => (.cons (hV 2 56 _ (hdn 1 2 rfl) rfl rfl) (Sub.nil _)), ?_⟩) ?_
    ·skip
     refine .loadR (Φ := fun v => v = (.int .i64 x72.amount)) 0 rfl (Fz.t l_76 (Fz.t l_251 (Fz.t l_258 (Fz.t l_273 l_288)))) (hb68.mono (Fz.t l_76 (Fz.t l_251 (Fz.t l_258 (Fz.t l_273 l_288))))) e73 rfl Try.isAgg3 rfl (fun vs ⟨q0, q1, h, r0⟩ => ⟨_, by subst h; exact rfl, rfl⟩) (fun v hv => ?_)
     subst hv
     exact .finV rfl rfl Fz.r
    refine .cons (fun L env278 F_289 l_290 hL hdn hup hphi => ⟨[(3, (.pointer (some ⟨b10, 0, none⟩)))], fun S hS hV => (.cons (hS _ _ rfl) (Sub.nil _)), ?_⟩) ?_
    ·skip
     refine .fieldAddr rfl Try.underlying62 rfl Try.sizeOf3 rfl ?_
     exact .finV rfl rfl Fz.r
    refine .cons (fun L env278 F_291 l_292 hL hdn hup hphi => ⟨[(58, (.pointer (some ⟨b10, 0 + 6, none⟩)))], fun S hS hV => (.cons (hV 4 58 _ (hdn 1 4 rfl) rfl rfl) (Sub.nil _)), ?_⟩) ?_
    ·skip
     refine .loadF rfl Try.isAgg3 rfl ((Fz.t l_21 (Fz.t l_52 (Fz.t l_76 (Fz.t l_251 (Fz.t l_258 (Fz.t l_273 l_292)))))).mem _ _ hb13) rfl ?_
     exact .finV rfl rfl Fz.r
    refine .cons (fun L env278 F_293 l_294 hL hdn hup hphi => ⟨[(57, (.int .i64 x72.amount)), (59, (.int .i64 x9.Amount))], fun S hS hV => (.cons (hV 3 57 _ (hdn 1 3 rfl) rfl rfl) (.cons (hV 5 59 _ (hdn 1 5 rfl) rfl rfl) (Sub.nil _))), ?_⟩) ?_
    ·skip
     refine .add rfl rfl rfl ?_
     exact .finV rfl rfl Fz.r
    refine .cons (fun L env278 F_295 l_296 hL hdn hup hphi => ⟨[(5, (.pointer p54))], fun S hS hV => (.cons (hS _ _ rfl) (Sub.nil _)), ?_⟩) ?_
    ·skip
     refine .move rfl rfl ?_
     exact .finV rfl rfl Fz.r
    refine .cons (fun L env278 F_297 l_298 hL hdn hup hphi => ⟨[(61, (.pointer p54))], fun S hS hV => (.cons (hV 7 61 _ (hdn 1 7 rfl) rfl rfl) (Sub.nil _)), ?_⟩) ?_
    ·skip
     refine .nilCheckR hp69 rfl rfl ?_
     exact .finV rfl rfl Fz.r
    refine .cons (fun L env278 F_299 l_300 hL hdn hup hphi => ⟨[(62, (.pointer (some ⟨b67, 0, none⟩)))], fun S hS hV => (.cons (hV 8 62 _ (hdn 1 8 rfl) rfl rfl) (Sub.nil _)), ?_⟩) ?_
    ·skip
     refine .fieldAddr rfl Try.underlying119 rfl Try.sizeOf3 rfl ?_
     exact .finV rfl rfl Fz.r
    refine .cons (fun L env278 F_301 l_302 hL hdn hup hphi => ⟨[(63, (.pointer (some ⟨b67, 0 + 3, none⟩)))], fun S hS hV => (.cons (hV 9 63 _ (hdn 1 9 rfl) rfl rfl) (Sub.nil _)), ?_⟩) ?_
    ·skip
     refine .loadR (Φ := fun v => v = (.int .i64 x72.room)) 0 rfl (Fz.t l_76 (Fz.t l_251 (Fz.t l_258 (Fz.t l_273 l_302)))) (hb68.mono (Fz.t l_76 (Fz.t l_251 (Fz.t l_258 (Fz.t l_273 l_302))))) e73 rfl Try.isAgg3 rfl (fun vs ⟨q0, q1, h, r0⟩ => ⟨_, by subst h; exact rfl, rfl⟩) (fun v hv => ?_)
     subst hv
     exact .finV rfl rfl Fz.r
    exact .nil
   refine .norm (S' := [(3, (.pointer (some ⟨b10, 0, none⟩))), (4, (.pointer (env14.a 50))), (5, (.pointer p54)), (54, (.pointer p54)), (55, (.pointer (some ⟨b67, 0, none⟩))), (56, (.pointer (some ⟨b67, 0 + 6, none⟩))), (57, (.int .i64 x72.amount)), (58, (.pointer (some ⟨b10, 0 + 6, none⟩))), (59, (.int .i64 x9.Amount)), (60, (.int .i64 (w64 (x72.amount + x9.Amount)))), (61, (.pointer p54)), (62, (.pointer (some ⟨b67, 0, none⟩))), (63, (.pointer (some ⟨b67, 0 + 3, none⟩))), (64, (.int .i64 x72.room))]) (.cons (k := 3) rfl (.cons (k := 4) rfl (.cons (k := 5) rfl (.cons (k := 54) rfl (.cons (k := 55) rfl (.cons (k := 56) rfl (.cons (k := 57) rfl (.cons (k := 58) rfl (.cons (k := 59) rfl (.cons (k := 60) rfl (.cons (k := 61) rfl (.cons (k := 62) rfl (.cons (k := 63) rfl (.cons (k := 64) rfl (.nil _))))))))))))))) (rfl : _ = [arena Γ.g119 (C119 Γ) F_51 r_50.2, arena Γ.g92 (C92 Γ) F_51 A2, arena Γ.g117 (C117 Γ) F0 A3, arena Γ.g90 (C90 Γ) F_51 A4, R]) ?_
   refine .leq rfl rfl rfl (.callB [] rfl Try.call50 rfl rfl rfl rfl (c_cask_need _ (decide ((w64 (x72.amount + x9.Amount)) ≤ x72.room)) 9) ?_ (fun q309 F_307 _ l_308 => (pan_postX (i := 4) rfl (Fz.t l_12 (Fz.t l_21 (Fz.t l_52 (Fz.t l_76 (Fz.t l_251 (Fz.t l_258 (Fz.t l_273 (Fz.t l_280 l_308)))))))))))
   rintro r_303 F_304 _ e306 l_305 rfl
   refine .pick [0, 0, 0, 0, 0] (rfl : _ = [arena Γ.g119 (C119 Γ) F_51 r_50.2, arena Γ.g92 (C92 Γ) F_51 A2, arena Γ.g117 (C117 Γ) F0 A3, arena Γ.g90 (C90 Γ) F_51 A4, R]) (.nil (.code (.seq (.keep (.cons (k := 3) rfl (.cons (k := 4) rfl (.cons (k := 5) rfl (.nil _)))) ?_))))
   refine .drawGD 11 0 (fun env310 => [((.pointer p54), fun _ => True), ((.pointer (env14.a 50)), fun _ => True), ((.pointer (some ⟨b62, 0, none⟩)), fun _ => True), ((.pointer (some ⟨b62, 0 + 8, none⟩)), fun _ => True), ((eCaskTimes x70.times), fun _ => True), ((.pointer (env14.a 50)), fun _ => True), ((.pointer (some ⟨b62, 0, none⟩)), fun _ => True), ((.pointer (some ⟨b62, 0 + 25, none⟩)), fun _ => True), ((.map (env310.o 80)), fun G => RepRef Γ.g117 G (env310.o 80) x70.fills), ((.pointer (some ⟨b10, 0 + 6, none⟩)), fun _ => True), ((.int .i64 x9.Amount), fun _ => True)]) (fun L env310 => [arena Γ.g119 (C119 Γ) F_51 r_50.2, arena Γ.g92 (C92 Γ) F_51 A2, arena Γ.g117 (C117 Γ) F0 A3, arena Γ.g90 (C90 Γ) F_51 A4, R]) mixedOK (by kernel_rfl) (deepN (k := 11) (n := 12) rfl (allLt12 (p := fun t => 11 ≤ t → ∀ j, j < t → ∃ s, depB _ s t j = true) (fun h => absurd h (by decide)) (fun h => absurd h (by decide)) (fun h => absurd h (by decide)) (fun h => absurd h (by decide)) (fun h => absurd h (by decide)) (fun h => absurd h (by decide)) (fun h => absurd h (by decide)) (fun h => absurd h (by decide)) (fun h => absurd h (by decide)) (fun h => absurd h (by decide)) (fun h => absurd h (by decide)) (fun _ => allLt11 (p := fun j => ∃ s, depB _ s 11 j = true) ⟨1, rfl⟩ ⟨4, rfl⟩ ⟨3, rfl⟩ ⟨2, rfl⟩ ⟨1, rfl⟩ ⟨4, rfl⟩ ⟨3, rfl⟩ ⟨2, rfl⟩ ⟨1, rfl⟩ ⟨2, rfl⟩ ⟨1, rfl⟩))) rfl (fun _ => rfl) (by kernel_rfl) (fun _ => rfl) ?_ (fun env310 F_315 l_316 hphi => ?_)
   ·skip
    refine .cons (fun L env310 F_317 l_318 hL hdn hup hphi => ⟨[(5, (.pointer p54))], fun S hS hV => (.cons (hS _ _ rfl) (Sub.nil _)), ?_⟩) ?_
    ·skip
     refine .move rfl rfl ?_
     exact .finV rfl rfl Fz.r
    refine .cons (fun L env310 F_319 l_320 hL hdn hup hphi => ⟨[(4, (.pointer (env14.a 50)))], fun S hS hV => (.cons (hS _ _ rfl) (Sub.nil _)), ?_⟩) ?_
    ·skip
     refine .move rfl rfl ?_
     exact .finV rfl rfl Fz.r
    refine .cons (fun L env310 F_321 l_322 hL hdn hup hphi => ⟨[(68, (.pointer (env14.a 50)))], fun S hS hV => (.cons (hV 1 68 _ (hdn 1 1 rfl) rfl rfl) (Sub.nil _)), ?_⟩) ?_
    ·skip
     refine .nilCheckR hp64 rfl rfl ?_
     exact .finV rfl rfl Fz.r
    refine .cons (fun L env310 F_323 l_324 hL hdn hup hphi => ⟨[(69, (.pointer (some ⟨b62, 0, none⟩)))], fun S hS hV => (.cons (hV 2 69 _ (hdn 1 2 rfl) rfl rfl) (Sub.nil _)), ?_⟩) ?_
    ·skip
     refine .fieldAddr rfl Try.underlying119 rfl Try.sizeOf116 rfl ?_
     exact .finV rfl rfl Fz.r
    refine .cons (fun L env310 F_325 l_326 hL hdn hup hphi => ⟨[(70, (.pointer (some ⟨b62, 0 + 8, none⟩)))], fun S hS hV => (.cons (hV 3 70 _ (hdn 1 3 rfl) rfl rfl) (Sub.nil _)), ?_⟩) ?_
    ·skip
     refine .loadRA (Φ := fun us => us = (cCaskTimes x70.times)) 0 rfl (Fz.t l_76 (Fz.t l_251 (Fz.t l_258 (Fz.t l_273 (Fz.t l_280 (Fz.t l_305 l_326)))))) (hb63.mono (Fz.t l_76 (Fz.t l_251 (Fz.t l_258 (Fz.t l_273 (Fz.t l_280 (Fz.t l_305 l_326))))))) e71 rfl Try.isAgg116 Try.sizeOf116 rfl (fun vs ⟨q0, q1, h, r0⟩ => ⟨_, by subst h; rfl, rfl, rfl⟩) (fun us hv => ?_)
     subst hv
     exact .finV rfl rfl Fz.r
    refine .cons (fun L env310 F_327 l_328 hL hdn hup hphi => ⟨[(4, (.pointer (env14.a 50)))], fun S hS hV => (.cons (hS _ _ rfl) (Sub.nil _)), ?_⟩) ?_
    ·skip
     refine .move rfl rfl ?_
     exact .finV rfl rfl Fz.r
    refine .cons (fun L env310 F_329 l_330 hL hdn hup hphi => ⟨[(72, (.pointer (env14.a 50)))], fun S hS hV => (.cons (hV 5 72 _ (hdn 1 5 rfl) rfl rfl) (Sub.nil _)), ?_⟩) ?_
    ·skip
     refine .nilCheckR hp64 rfl rfl ?_
     exact .finV rfl rfl Fz.r
    refine .cons (fun L env310 F_331 l_332 hL hdn hup hphi => ⟨[(73, (.pointer (some ⟨b62, 0, none⟩)))], fun S hS hV => (.cons (hV 6 73 _ (hdn 1 6 rfl) rfl rfl) (Sub.nil _)), ?_⟩) ?_
    ·skip
     refine .fieldAddr rfl Try.underlying119 rfl Try.sizeOf117 rfl ?_
     exact .finV rfl rfl Fz.r
    refine .cons (fun L env310 F_333 l_334 hL hdn hup hphi => ⟨[(74, (.pointer (some ⟨b62, 0 + 25, none⟩)))], fun S hS hV => (.cons (hV 7 74 _ (hdn 1 7 rfl) rfl rfl) (Sub.nil _)), ?_⟩) ?_
    ·skip
     refine .loadR (Φ := fun v => ∃ (p335 : Option Nat) (k336 : Unit), v = (.map p335) ∧ RepRef Γ.g117 F_333 p335 x70.fills) 0 rfl (Fz.t l_76 (Fz.t l_251 (Fz.t l_258 (Fz.t l_273 (Fz.t l_280 (Fz.t l_305 l_334)))))) (hb63.mono (Fz.t l_76 (Fz.t l_251 (Fz.t l_258 (Fz.t l_273 (Fz.t l_280 (Fz.t l_305 l_334))))))) e71 rfl Try.isAgg117 rfl (fun vs ⟨q0, q1, h, r0⟩ => ⟨_, by subst h; exact rfl, q0, q1, rfl, r0⟩) (fun v hv => ?_)
     obtain ⟨p335, k336, rfl, h337⟩ := hv
     exact .finQ ({ env310 with a := env310.a, n := env310.n, c := env310.c, o := (updN env310.o 80 p335) }) [true, true, true, true, true, true, true, true, false, true, true] rfl (by kernel_rfl) rfl rfl Fz.r (fun _ le => h337.mono le) (cons_eq rfl (cons_eq rfl (cons_eq rfl (cons_eq rfl (cons_eq rfl rfl)))))
    refine .cons (fun L env310 F_338 l_339 hL hdn hup hphi => ⟨[(3, (.pointer (some ⟨b10, 0, none⟩)))], fun S hS hV => (.cons (hS _ _ rfl) (Sub.nil _)), ?_⟩) ?_
    ·skip
     refine .fieldAddr rfl Try.underlying62 rfl Try.sizeOf3 rfl ?_
     exact .finV rfl rfl Fz.r
    refine .cons (fun L env310 F_340 l_341 hL hdn hup hphi => ⟨[(76, (.pointer (some ⟨b10, 0 + 6, none⟩)))], fun S hS hV => (.cons (hV 9 76 _ (hdn 1 9 rfl) rfl rfl) (Sub.nil _)), ?_⟩) ?_
    ·skip
     refine .loadF rfl Try.isAgg3 rfl ((Fz.t l_21 (Fz.t l_52 (Fz.t l_76 (Fz.t l_251 (Fz.t l_258 (Fz.t l_273 (Fz.t l_280 (Fz.t l_305 l_341)))))))).mem _ _ hb13) rfl ?_
     exact .finV rfl rfl Fz.r
    exact .nil
   have h314 := hphi 8 _ rfl
   refine .norm (S' := [(3, (.pointer (some ⟨b10, 0, none⟩))), (4, (.pointer (env14.a 50))), (5, (.pointer p54)), (67, (.pointer p54)), (68, (.pointer (env14.a 50))), (69, (.pointer (some ⟨b62, 0, none⟩))), (70, (.pointer (some ⟨b62, 0 + 8, none⟩))), (71, (eCaskTimes x70.times)), (72, (.pointer (env14.a 50))), (73, (.pointer (some ⟨b62, 0, none⟩))), (74, (.pointer (some ⟨b62, 0 + 25, none⟩))), (75, (.map (env310.o 80))), (76, (.pointer (some ⟨b10, 0 + 6, none⟩))), (77, (.int .i64 x9.Amount))]) (.cons (k := 3) rfl (.cons (k := 4) rfl (.cons (k := 5) rfl (.cons (k := 67) rfl (.cons (k := 68) rfl (.cons (k := 69) rfl (.cons (k := 70) rfl (.cons (k := 71) rfl (.cons (k := 72) rfl (.cons (k := 73) rfl (.cons (k := 74) rfl (.cons (k := 75) rfl (.cons (k := 76) rfl (.cons (k := 77) rfl (.nil _))))))))))))))) (rfl : _ = [arena Γ.g119 (C119 Γ) F_51 r_50.2, arena Γ.g92 (C92 Γ) F_51 A2, arena Γ.g117 (C117 Γ) F0 A3, arena Γ.g90 (C90 Γ) F_51 A4, R]) ?_
   refine .upR 0 (stays119 Γ) (Fz.t l_76 (Fz.t l_251 (Fz.t l_258 (Fz.t l_273 (Fz.t l_280 (Fz.t l_305 l_316)))))) rfl (.upR 2 (stays117 Γ) (Fz.t l_12 (Fz.t l_21 (Fz.t l_52 (Fz.t l_76 (Fz.t l_251 (Fz.t l_258 (Fz.t l_273 (Fz.t l_280 (Fz.t l_305 l_316))))))))) rfl ?_)
   refine .callT [0, 1] rfl Try.call85 rfl rfl rfl rfl (c_cask_cask_pour _ Γ r_50.2 A3 r_50.1 p54 k55 (h56.mono (Fz.t l_76 (Fz.t l_251 (Fz.t l_258 (Fz.t l_273 (Fz.t l_280 (Fz.t l_305 l_316))))))) x70.times x70.fills (env310.o 80) () h314 x9.Amount) ?_
   rintro r_342 F_343 _ e345 l_344 rfl
   refine .pick [0, 1, 0, 0, 0] (rfl : _ = [arena Γ.g119 (C119 Γ) F_343 r_342.1, arena Γ.g92 (C92 Γ) F_51 A2, arena Γ.g117 (C117 Γ) F_343 r_342.2, arena Γ.g90 (C90 Γ) F_51 A4, R]) (.nil (.code (.region (.move rfl rfl (.fieldAddr rfl Try.underlying62 rfl Try.sizeOf3 rfl ?_)))))
   refine .loadF rfl Try.isAgg3 rfl ((Fz.t l_21 (Fz.t l_52 (Fz.t l_76 (Fz.t l_251 (Fz.t l_258 (Fz.t l_273 (Fz.t l_280 (Fz.t l_305 (Fz.t l_316 l_344))))))))).mem _ _ hb13) rfl (.callT [0] rfl Try.call86 rfl rfl rfl rfl (c_cask_cask_draw _ Γ r_342.1 r_15.1 (env14.a 50) () (h17.mono (Fz.t l_52 (Fz.t l_76 (Fz.t l_251 (Fz.t l_258 (Fz.t l_273 (Fz.t l_280 (Fz.t l_305 (Fz.t l_316 l_344))))))))) x9.Amount) ?_)
   rintro r_346 F_347 _ e349 l_348 rfl
   refine .pick [0, 0, 0, 0, 0] (rfl : _ = [arena Γ.g119 (C119 Γ) F_347 r_346, arena Γ.g92 (C92 Γ) F_51 A2, arena Γ.g117 (C117 Γ) F_343 r_342.2, arena Γ.g90 (C90 Γ) F_51 A4, R]) (.nil (.upR 1 (stays92 Γ) (Fz.t l_76 (Fz.t l_251 (Fz.t l_258 (Fz.t l_273 (Fz.t l_280 (Fz.t l_305 (Fz.t l_316 (Fz.t l_344 l_348)))))))) rfl (.upR 2 (stays117 Γ) l_348 rfl ?_)))
   refine .upR 3 (stays90 Γ) (Fz.t l_76 (Fz.t l_251 (Fz.t l_258 (Fz.t l_273 (Fz.t l_280 (Fz.t l_305 (Fz.t l_316 (Fz.t l_344 l_348)))))))) rfl ?_
   exact .endX [0, 0, 0, 0, 0] Try.results67 (.nil) rfl (Fz.t l_12 (Fz.t l_21 (Fz.t l_52 (Fz.t l_76 (Fz.t l_251 (Fz.t l_258 (Fz.t l_273 (Fz.t l_280 (Fz.t l_305 (Fz.t l_316 (Fz.t l_344 l_348))))))))))) rfl
  ·intro b252 hb0 hk e a w hD
   obtain ⟨rfl, F_253, l_254, hA⟩ := hD
   exact interp_panic ((pan_postX (i := 0) rfl (Fz.t l_12 (Fz.t l_21 (Fz.t l_52 (Fz.t l_76 l_254))))) hk a w hA)
 ·skip
  refine .drawGP 5 0 (fun env350 => [((.pointer p6), fun _ => True), ((.pointer (some ⟨b10, 0 + 2, none⟩)), fun _ => True), ((.int .i64 x9.Cask), fun _ => True), ((.pointer (some ⟨b10, 0 + 1, none⟩)), fun _ => True), ((.int .i64 x9.Day), fun _ => True), (undef, fun _ => True), ((.pointer p6), fun _ => True), ((.pointer (some ⟨b10, 0 + 3, none⟩)), fun _ => True), ((.int .i64 x9.Other), fun _ => True), ((.pointer (some ⟨b10, 0 + 1, none⟩)), fun _ => True), ((.int .i64 x9.Day), fun _ => True), (undef, fun _ => True), (undef, fun _ => True), (undef, fun _ => True)]) (fun L env350 => [arena Γ.g119 (C119 Γ) F0 A1, arena Γ.g92 (C92 Γ) F0 A2, arena Γ.g117 (C117 Γ) F0 A3, arena Γ.g90 (C90 Γ) F0 A4, R]) mixedOK (by kernel_rfl) rfl (fun _ => rfl) (by kernel_rfl) (fun _ => rfl) ?_
  ·skip
   refine .cons (by decide) (fun L env350 F_353 l_354 hL hdn hup hphi => ⟨[(0, (.pointer p6))], fun S hS hV => (.cons (hS _ _ rfl) (Sub.nil _)), ?_⟩) ?_
   ·skip
    refine .move rfl rfl ?_
    exact .finV rfl rfl Fz.r
   refine .cons (by decide) (fun L env350 F_355 l_356 hL hdn hup hphi => ⟨[(3, (.pointer (some ⟨b10, 0, none⟩)))], fun S hS hV => (.cons (hS _ _ rfl) (Sub.nil _)), ?_⟩) ?_
   ·skip
    refine .fieldAddr rfl Try.underlying62 rfl Try.sizeOf3 rfl ?_
    exact .finV rfl rfl Fz.r
   refine .cons (by decide) (fun L env350 F_357 l_358 hL hdn hup hphi => ⟨[(7, (.pointer (some ⟨b10, 0 + 2, none⟩)))], fun S hS hV => (.cons (hV 1 7 _ (hdn 1 1 rfl) rfl rfl) (Sub.nil _)), ?_⟩) ?_
   ·skip
    refine .loadF rfl Try.isAgg3 rfl (l_358.mem _ _ hb13) rfl ?_
    exact .finV rfl rfl Fz.r
   refine .cons (by decide) (fun L env350 F_359 l_360 hL hdn hup hphi => ⟨[(3, (.pointer (some ⟨b10, 0, none⟩)))], fun S hS hV => (.cons (hS _ _ rfl) (Sub.nil _)), ?_⟩) ?_
   ·skip
    refine .fieldAddr rfl Try.underlying62 rfl Try.sizeOf3 rfl ?_
    exact .finV rfl rfl Fz.r
   refine .cons (by decide) (fun L env350 F_361 l_362 hL hdn hup hphi => ⟨[(9, (.pointer (some ⟨b10, 0 + 1, none⟩)))], fun S hS hV => (.cons (hV 3 9 _ (hdn 1 3 rfl) rfl rfl) (Sub.nil _)), ?_⟩) ?_
   ·skip
    refine .loadF rfl Try.isAgg3 rfl (l_362.mem _ _ hb13) rfl ?_
    exact .finV rfl rfl Fz.r
   refine .at_ (fun L env350 F_363 l_364 hL hdn hup hphi => ⟨[(6, (.pointer p6)), (8, (.int .i64 x9.Cask)), (10, (.int .i64 x9.Day))], fun S hS hV => (.cons (hV 0 6 _ (hdn 1 0 rfl) rfl rfl) (.cons (hV 2 8 _ (hdn 1 2 rfl) rfl rfl) (.cons (hV 4 10 _ (hdn 1 4 rfl) rfl rfl) (Sub.nil _)))), ?_⟩) ?_
   ·skip
    refine .norm (Sub.refl _) ((cons_eq rfl (cons_eq rfl (cons_eq rfl (cons_eq rfl (cons_eq rfl rfl))))) : _ = [arena Γ.g119 (C119 Γ) F0 A1, arena Γ.g92 (C92 Γ) F0 A2, arena Γ.g117 (C117 Γ) F0 A3, arena Γ.g90 (C90 Γ) F0 A4, R]) (.upR 0 (stays119 Γ) (Fz.t l_12 l_364) rfl (.upR 1 (stays92 Γ) (Fz.t l_12 l_364) rfl (.upR 3 (stays90 Γ) (Fz.t l_12 l_364) rfl ?_)))
    exact .callBP e19 [0, 0, 1] rfl Try.call84 rfl rfl rfl rfl (c_cask_book_find _ Γ A1 A2 A4 b5 p6 k7 (h8.mono (Fz.t l_12 l_364)) x9.Cask x9.Day) (fun F_365 l_366 => GL.ppost (pan_postX (i := 1) rfl (Fz.t l_12 (Fz.t l_364 l_366))))
   refine .cons (by decide) (fun L env350 F_367 l_368 hL hdn hup hphi => ⟨[(0, (.pointer p6))], fun S hS hV => (.cons (hS _ _ rfl) (Sub.nil _)), ?_⟩) ?_
   ·skip
    refine .move rfl rfl ?_
    exact .finV rfl rfl Fz.r
   refine .cons (by decide) (fun L env350 F_369 l_370 hL hdn hup hphi => ⟨[(3, (.pointer (some ⟨b10, 0, none⟩)))], fun S hS hV => (.cons (hS _ _ rfl) (Sub.nil _)), ?_⟩) ?_
   ·skip
    refine .fieldAddr rfl Try.underlying62 rfl Try.sizeOf3 rfl ?_
    exact .finV rfl rfl Fz.r
   refine .cons (by decide) (fun L env350 F_371 l_372 hL hdn hup hphi => ⟨[(13, (.pointer (some ⟨b10, 0 + 3, none⟩)))], fun S hS hV => (.cons (hV 7 13 _ (hdn 1 7 rfl) rfl rfl) (Sub.nil _)), ?_⟩) ?_
   ·skip
    refine .loadF rfl Try.isAgg3 rfl (l_372.mem _ _ hb13) rfl ?_
    exact .finV rfl rfl Fz.r
   refine .cons (by decide) (fun L env350 F_373 l_374 hL hdn hup hphi => ⟨[(3, (.pointer (some ⟨b10, 0, none⟩)))], fun S hS hV => (.cons (hS _ _ rfl) (Sub.nil _)), ?_⟩) ?_
   ·skip
    refine .fieldAddr rfl Try.underlying62 rfl Try.sizeOf3 rfl ?_
    exact .finV rfl rfl Fz.r
   refine .cons (by decide) (fun L env350 F_375 l_376 hL hdn hup hphi => ⟨[(15, (.pointer (some ⟨b10, 0 + 1, none⟩)))], fun S hS hV => (.cons (hV 9 15 _ (hdn 1 9 rfl) rfl rfl) (Sub.nil _)), ?_⟩) ?_
   ·skip
    refine .loadF rfl Try.isAgg3 rfl (l_376.mem _ _ hb13) rfl ?_
    exact .finV rfl rfl Fz.r
   refine .dep 1 rfl (.dep 1 rfl (.dep 1 rfl ?_))
   exact .nil
noncomputable def m_cask_book_drain (A1 : List CaskCask) (A2 : List CaskBook) (A3 : List (List (Int × Bool))) (A4 : List (List (Int × (Option Nat)))) (b5 : (Option Nat)) (x9 : ApiCaskEvent) : Option (Out CaskMisfit ((List CaskCask) × (List (List (Int × Bool))) × (List (List (Int × (Option Nat)))))) :=
 bindX (m_cask_book_find A1 A2 A4 b5 x9.Cask x9.Day) (fun q23 => some (.pan q23)) fun r_14 => (r_14.1).bind fun i24 => (r_14.2[i24]?).bind fun x29 => bindX (m_cask_need (x29.creditor == (-1)) 11) (fun q37 => some (.pan q37)) fun _r_31 => bindX (m_cask_need (decide (x29.amount ≥ x9.Amount)) 10) (fun q59 => some (.pan q59)) fun _r_53 => (m_cask_cask_draw r_14.2 r_14.1 x9.Amount).bind fun r_60 => some (.ok (r_60, A3, A4))
set_option maxHeartbeats 4000000 in
theorem c_cask_book_drain (F0 : Fz) (Γ : Gam) (A1 : List CaskCask) (A2 : List CaskBook) (A3 : List (List (Int × Bool))) (A4 : List (List (Int × (Option Nat)))) (b5 : (Option Nat)) (p6 : Option Addr) (k7 : Unit) (h8 : RepPtr Γ.g92 F0 p6 b5) (x9 : ApiCaskEvent) : CTX Try.prog penc 68 [(.pointer p6), (eApiCaskEvent x9)].toArray F0 [arena Γ.g119 (C119 Γ) F0 A1, arena Γ.g92 (C92 Γ) F0 A2, arena Γ.g117 (C117 Γ) F0 A3, arena Γ.g90 (C90 Γ) F0 A4] (m_cask_book_drain A1 A2 A3 A4 b5 x9) (fun (_r : (List CaskCask) × (List (List (Int × Bool))) × (List (List (Int × (Option Nat))))) _ v => v = .tuple #[]) (fun (r : (List CaskCask) × (List (List (Int × Bool))) × (List (List (Int × (Option Nat))))) F' _ => [arena Γ.g119 (C119 Γ) F' r.1, arena Γ.g92 (C92 Γ) F' A2, arena Γ.g117 (C117 Γ) F' r.2.1, arena Γ.g90 (C90 Γ) F' r.2.2]) := by
 refine CTX.enter Try.func68 rfl Try.ntmps68 rfl fun r R => ?_
 refine .norm (Sub.refl _) (rfl : _ = [arena Γ.g119 (C119 Γ) F0 A1, arena Γ.g92 (C92 Γ) F0 A2, arena Γ.g117 (C117 Γ) F0 A3, arena Γ.g90 (C90 Γ) F0 A4, R]) ?_
 unfold m_cask_book_drain
 refine .seq (.region (.boxF (cs := (cApiCaskEvent x9)) rfl rfl rfl (fun b10 F_11 l_12 hb13 => ?_)))
 refine .nil (.code (.seq (.region (.move rfl rfl (.fieldAddr rfl Try.underlying62 rfl Try.sizeOf3 rfl (.loadF rfl Try.isAgg3 rfl hb13 rfl (.fieldAddr rfl Try.underlying62 rfl Try.sizeOf3 rfl (.loadF rfl Try.isAgg3 rfl hb13 rfl (.upR 0 (stays119 Γ) l_12 rfl (.upR 1 (stays92 Γ) l_12 rfl (.upR 3 (stays90 Γ) l_12 rfl ?_)))))))))))
 refine .callB [0, 0, 1] rfl Try.call84 rfl rfl rfl rfl (c_cask_book_find _ Γ A1 A2 A4 b5 p6 k7 (h8.mono l_12) x9.Cask x9.Day) ?_ (fun q23 F_21 _ l_22 => (pan_postX (i := 1) rfl (Fz.t l_12 l_22)))
 rintro r_14 F_15 _ e17 l_16 ⟨p18, k19, rfl, h20⟩
 refine .pick [0, 0, 1, 0, 0] (rfl : _ = [arena Γ.g119 (C119 Γ) F_15 r_14.2, arena Γ.g92 (C92 Γ) F_15 A2, arena Γ.g117 (C117 Γ) F0 A3, arena Γ.g90 (C90 Γ) F_15 A4, R]) (.assign rfl rfl (.nil (.code (.seq (.region (.move rfl rfl (.bind (fun i24 e25 => ?_))))))))
 obtain ⟨b26, hb27, hp28⟩ := h20.at e25
 refine .nilCheckR hp28 rfl rfl (.fieldAddr rfl Try.underlying119 rfl Try.sizeOf3 rfl (.bind (fun x29 e30 => ?_)))
 refine .loadR (Φ := fun v => v = (.int .i64 x29.creditor)) 0 rfl Fz.r hb27 e30 rfl Try.isAgg3 rfl (fun vs ⟨q0, q1, h, r0⟩ => ⟨_, by subst h; exact rfl, rfl⟩) (fun v hv => ?_)
 subst hv
 refine .eql rfl rfl rfl (.callB [] rfl Try.call50 rfl rfl rfl rfl (c_cask_need _ (x29.creditor == (-1)) 11) ?_ (fun q37 F_35 _ l_36 => (pan_postX (i := 4) rfl (Fz.t l_12 (Fz.t l_16 l_36)))))
 rintro r_31 F_32 _ e34 l_33 rfl
 refine .pick [0, 0, 0, 0, 0] (rfl : _ = [arena Γ.g119 (C119 Γ) F_15 r_14.2, arena Γ.g92 (C92 Γ) F_15 A2, arena Γ.g117 (C117 Γ) F0 A3, arena Γ.g90 (C90 Γ) F_15 A4, R]) (.nil (.code (.seq (.keep (.cons (k := 3) rfl (.cons (k := 4) rfl (.nil _))) ?_))))
 refine .drawGD 6 0 (fun env38 => [((.pointer p18), fun _ => True), ((.pointer (some ⟨b26, 0, none⟩)), fun _ => True), ((.pointer (some ⟨b26, 0 + 6, none⟩)), fun _ => True), ((.int .i64 x29.amount), fun _ => True), ((.pointer (some ⟨b10, 0 + 6, none⟩)), fun _ => True), ((.int .i64 x9.Amount), fun _ => True)]) (fun L env38 => [arena Γ.g119 (C119 Γ) F_15 r_14.2, arena Γ.g92 (C92 Γ) F_15 A2, arena Γ.g117 (C117 Γ) F0 A3, arena Γ.g90 (C90 Γ) F_15 A4, R]) mixedOK (by kernel_rfl) (deepN (k := 6) (n := 8) rfl (allLt8 (p := fun t => 6 ≤ t → ∀ j, j < t → ∃ s, depB _ s t j = true) (fun h => absurd h (by decide)) (fun h => absurd h (by decide)) (fun h => absurd h (by decide)) (fun h => absurd h (by decide)) (fun h => absurd h (by decide)) (fun h => absurd h (by decide)) (fun _ => allLt6 (p := fun j => ∃ s, depB _ s 6 j = true) ⟨4, rfl⟩ ⟨3, rfl⟩ ⟨2, rfl⟩ ⟨1, rfl⟩ ⟨2, rfl⟩ ⟨1, rfl⟩) (fun _ => allLt7 (p := fun j => ∃ s, depB _ s 7 j = true) ⟨5, rfl⟩ ⟨4, rfl⟩ ⟨3, rfl⟩ ⟨2, rfl⟩ ⟨3, rfl⟩ ⟨2, rfl⟩ ⟨1, rfl⟩))) rfl (fun _ => rfl) (by kernel_rfl) (fun _ => rfl) ?_ (fun env38 F_39 l_40 hphi => ?_)
 ·skip
  refine .cons (fun L env38 F_41 l_42 hL hdn hup hphi => ⟨[(4, (.pointer p18))], fun S hS hV => (.cons (hS _ _ rfl) (Sub.nil _)), ?_⟩) ?_
  ·skip
   refine .move rfl rfl ?_
   exact .finV rfl rfl Fz.r
  refine .cons (fun L env38 F_43 l_44 hL hdn hup hphi => ⟨[(17, (.pointer p18))], fun S hS hV => (.cons (hV 0 17 _ (hdn 1 0 rfl) rfl rfl) (Sub.nil _)), ?_⟩) ?_
  ·skip
   refine .nilCheckR hp28 rfl rfl ?_
   exact .finV rfl rfl Fz.r
  refine .cons (fun L env38 F_45 l_46 hL hdn hup hphi => ⟨[(18, (.pointer (some ⟨b26, 0, none⟩)))], fun S hS hV => (.cons (hV 1 18 _ (hdn 1 1 rfl) rfl rfl) (Sub.nil _)), ?_⟩) ?_
  ·skip
   refine .fieldAddr rfl Try.underlying119 rfl Try.sizeOf3 rfl ?_
   exact .finV rfl rfl Fz.r
  refine .cons (fun L env38 F_47 l_48 hL hdn hup hphi => ⟨[(19, (.pointer (some ⟨b26, 0 + 6, none⟩)))], fun S hS hV => (.cons (hV 2 19 _ (hdn 1 2 rfl) rfl rfl) (Sub.nil _)), ?_⟩) ?_
  ·skip
   refine .loadR (Φ := fun v => v = (.int .i64 x29.amount)) 0 rfl (Fz.t l_33 l_48) (hb27.mono (Fz.t l_33 l_48)) e30 rfl Try.isAgg3 rfl (fun vs ⟨q0, q1, h, r0⟩ => ⟨_, by subst h; exact rfl, rfl⟩) (fun v hv => ?_)
   subst hv
   exact .finV rfl rfl Fz.r
  refine .cons (fun L env38 F_49 l_50 hL hdn hup hphi => ⟨[(3, (.pointer (some ⟨b10, 0, none⟩)))], fun S hS hV => (.cons (hS _ _ rfl) (Sub.nil _)), ?_⟩) ?_
  ·skip
   refine .fieldAddr rfl Try.underlying62 rfl Try.sizeOf3 rfl ?_
   exact .finV rfl rfl Fz.r
  refine .cons (fun L env38 F_51 l_52 hL hdn hup hphi => ⟨[(21, (.pointer (some ⟨b10, 0 + 6, none⟩)))], fun S hS hV => (.cons (hV 4 21 _ (hdn 1 4 rfl) rfl rfl) (Sub.nil _)), ?_⟩) ?_
  ·skip
   refine .loadF rfl Try.isAgg3 rfl ((Fz.t l_16 (Fz.t l_33 l_52)).mem _ _ hb13) rfl ?_
   exact .finV rfl rfl Fz.r
  exact .nil
 refine .norm (S' := [(3, (.pointer (some ⟨b10, 0, none⟩))), (4, (.pointer p18)), (17, (.pointer p18)), (18, (.pointer (some ⟨b26, 0, none⟩))), (19, (.pointer (some ⟨b26, 0 + 6, none⟩))), (20, (.int .i64 x29.amount)), (21, (.pointer (some ⟨b10, 0 + 6, none⟩))), (22, (.int .i64 x9.Amount))]) (.cons (k := 3) rfl (.cons (k := 4) rfl (.cons (k := 17) rfl (.cons (k := 18) rfl (.cons (k := 19) rfl (.cons (k := 20) rfl (.cons (k := 21) rfl (.cons (k := 22) rfl (.nil _))))))))) (rfl : _ = [arena Γ.g119 (C119 Γ) F_15 r_14.2, arena Γ.g92 (C92 Γ) F_15 A2, arena Γ.g117 (C117 Γ) F0 A3, arena Γ.g90 (C90 Γ) F_15 A4, R]) ?_
 refine .geq rfl rfl rfl (.callB [] rfl Try.call50 rfl rfl rfl rfl (c_cask_need _ (decide (x29.amount ≥ x9.Amount)) 10) ?_ (fun q59 F_57 _ l_58 => (pan_postX (i := 4) rfl (Fz.t l_12 (Fz.t l_16 (Fz.t l_33 (Fz.t l_40 l_58)))))))
 rintro r_53 F_54 _ e56 l_55 rfl
 refine .pick [0, 0, 0, 0, 0] (rfl : _ = [arena Γ.g119 (C119 Γ) F_15 r_14.2, arena Γ.g92 (C92 Γ) F_15 A2, arena Γ.g117 (C117 Γ) F0 A3, arena Γ.g90 (C90 Γ) F_15 A4, R]) (.nil (.code (.region (.move rfl rfl (.fieldAddr rfl Try.underlying62 rfl Try.sizeOf3 rfl (.loadF rfl Try.isAgg3 rfl ((Fz.t l_16 (Fz.t l_33 (Fz.t l_40 l_55))).mem _ _ hb13) rfl (.upR 0 (stays119 Γ) (Fz.t l_33 (Fz.t l_40 l_55)) rfl ?_)))))))
 refine .callT [0] rfl Try.call86 rfl rfl rfl rfl (c_cask_cask_draw _ Γ r_14.2 r_14.1 p18 k19 (h20.mono (Fz.t l_33 (Fz.t l_40 l_55))) x9.Amount) ?_
 rintro r_60 F_61 _ e63 l_62 rfl
 refine .pick [0, 0, 0, 0, 0] (rfl : _ = [arena Γ.g119 (C119 Γ) F_61 r_60, arena Γ.g92 (C92 Γ) F_15 A2, arena Γ.g117 (C117 Γ) F0 A3, arena Γ.g90 (C90 Γ) F_15 A4, R]) (.nil (.upR 1 (stays92 Γ) (Fz.t l_33 (Fz.t l_40 (Fz.t l_55 l_62))) rfl (.upR 2 (stays117 Γ) (Fz.t l_12 (Fz.t l_16 (Fz.t l_33 (Fz.t l_40 (Fz.t l_55 l_62))))) rfl (.upR 3 (stays90 Γ) (Fz.t l_33 (Fz.t l_40 (Fz.t l_55 l_62))) rfl ?_))))
 exact .endX [0, 0, 0, 0, 0] Try.results68 (.nil) rfl (Fz.t l_12 (Fz.t l_16 (Fz.t l_33 (Fz.t l_40 (Fz.t l_55 l_62))))) rfl
noncomputable def m_cask_book_carry (A1 : List CaskCask) (A2 : List CaskBook) (A3 : List (List (Int × Bool))) (A4 : List (List (Int × (Option Nat)))) (b5 : (Option Nat)) (x9 : ApiCaskEvent) : Option (Out CaskMisfit ((List CaskCask) × (List (List (Int × Bool))) × (List (List (Int × (Option Nat)))))) :=
 bindX (m_cask_book_find A1 A2 A4 b5 x9.Cask x9.Day) (fun q18 => some (.pan q18)) fun r_15 => (r_15.1).bind fun i44 => (r_15.2[i44]?).bind fun x49 => bindv ({ x49 with place := x9.Where }) fun x51 => bindv (List.set r_15.2 i44 x51) fun A53 => some (.ok (A53, A3, A4))
set_option maxHeartbeats 4000000 in
theorem c_cask_book_carry (F0 : Fz) (Γ : Gam) (A1 : List CaskCask) (A2 : List CaskBook) (A3 : List (List (Int × Bool))) (A4 : List (List (Int × (Option Nat)))) (b5 : (Option Nat)) (p6 : Option Addr) (k7 : Unit) (h8 : RepPtr Γ.g92 F0 p6 b5) (x9 : ApiCaskEvent) : CTX Try.prog penc 69 [(.pointer p6), (eApiCaskEvent x9)].toArray F0 [arena Γ.g119 (C119 Γ) F0 A1, arena Γ.g92 (C92 Γ) F0 A2, arena Γ.g117 (C117 Γ) F0 A3, arena Γ.g90 (C90 Γ) F0 A4] (m_cask_book_carry A1 A2 A3 A4 b5 x9) (fun (_r : (List CaskCask) × (List (List (Int × Bool))) × (List (List (Int × (Option Nat))))) _ v => v = .tuple #[]) (fun (r : (List CaskCask) × (List (List (Int × Bool))) × (List (List (Int × (Option Nat))))) F' _ => [arena Γ.g119 (C119 Γ) F' r.1, arena Γ.g92 (C92 Γ) F' A2, arena Γ.g117 (C117 Γ) F' r.2.1, arena Γ.g90 (C90 Γ) F' r.2.2]) := by
 refine CTX.enter Try.func69 rfl Try.ntmps69 rfl fun r R => ?_
 refine .norm (Sub.refl _) (rfl : _ = [arena Γ.g119 (C119 Γ) F0 A1, arena Γ.g92 (C92 Γ) F0 A2, arena Γ.g117 (C117 Γ) F0 A3, arena Γ.g90 (C90 Γ) F0 A4, R]) ?_
 unfold m_cask_book_carry
 refine .seq (.region (.boxF (cs := (cApiCaskEvent x9)) rfl rfl rfl (fun b10 F_11 l_12 hb13 => ?_)))
 refine .nil (.code (.keep (.cons (k := 0) rfl (.cons (k := 3) rfl (.nil _))) (.outsB (fun r_15 e16 => ?_) (fun q18 e19 => ?_))))
 ·skip
  refine .drawGD 8 0 (fun env14 => [((.pointer p6), fun _ => True), ((.pointer (some ⟨b10, 0 + 2, none⟩)), fun _ => True), ((.int .i64 x9.Cask), fun _ => True), ((.pointer (some ⟨b10, 0 + 1, none⟩)), fun _ => True), ((.int .i64 x9.Day), fun _ => True), ((.pointer (env14.a 50)), fun G => env14.f 50 ≤ G ∧ RepPtr Γ.g119 G (env14.a 50) r_15.1), ((.pointer (some ⟨b10, 0 + 7, none⟩)), fun _ => True), ((.int .i64 x9.Where), fun _ => True)]) (fun L env14 => [(bif L 5 then (arena Γ.g119 (C119 Γ) (env14.f 50) r_15.2) else (arena Γ.g119 (C119 Γ) F0 A1)), (bif L 5 then (arena Γ.g92 (C92 Γ) (env14.f 50) A2) else (arena Γ.g92 (C92 Γ) F0 A2)), arena Γ.g117 (C117 Γ) F0 A3, (bif L 5 then (arena Γ.g90 (C90 Γ) (env14.f 50) A4) else (arena Γ.g90 (C90 Γ) F0 A4)), R]) mixedOK (by kernel_rfl) (deepN (k := 8) (n := 11) rfl (allLt11 (p := fun t => 8 ≤ t → ∀ j, j < t → ∃ s, depB _ s t j = true) (fun h => absurd h (by decide)) (fun h => absurd h (by decide)) (fun h => absurd h (by decide)) (fun h => absurd h (by decide)) (fun h => absurd h (by decide)) (fun h => absurd h (by decide)) (fun h => absurd h (by decide)) (fun h => absurd h (by decide)) (fun _ => allLt8 (p := fun j => ∃ s, depB _ s 8 j = true) ⟨1, rfl⟩ ⟨1, rfl⟩ ⟨1, rfl⟩ ⟨1, rfl⟩ ⟨1, rfl⟩ ⟨1, rfl⟩ ⟨1, rfl⟩ ⟨1, rfl⟩) (fun _ => allLt9 (p := fun j => ∃ s, depB _ s 9 j = true) ⟨1, rfl⟩ ⟨1, rfl⟩ ⟨1, rfl⟩ ⟨1, rfl⟩ ⟨1, rfl⟩ ⟨1, rfl⟩ ⟨1, rfl⟩ ⟨1, rfl⟩ ⟨1, rfl⟩) (fun _ => allLt10 (p := fun j => ∃ s, depB _ s 10 j = true) ⟨1, rfl⟩ ⟨1, rfl⟩ ⟨1, rfl⟩ ⟨1, rfl⟩ ⟨1, rfl⟩ ⟨1, rfl⟩ ⟨1, rfl⟩ ⟨1, rfl⟩ ⟨2, rfl⟩ ⟨1, rfl⟩))) rfl (fun _ => rfl) (by kernel_rfl) (fun _ => rfl) ?_ (fun env14 F_20 l_21 hphi => ?_)
  ·skip
   refine .cons (fun L env14 F_23 l_24 hL hdn hup hphi => ⟨[(0, (.pointer p6))], fun S hS hV => (.cons (hS _ _ rfl) (Sub.nil _)), ?_⟩) ?_
   ·skip
    refine .move rfl rfl ?_
    exact .finV rfl rfl Fz.r
   refine .cons (fun L env14 F_25 l_26 hL hdn hup hphi => ⟨[(3, (.pointer (some ⟨b10, 0, none⟩)))], fun S hS hV => (.cons (hS _ _ rfl) (Sub.nil _)), ?_⟩) ?_
   ·skip
    refine .fieldAddr rfl Try.underlying62 rfl Try.sizeOf3 rfl ?_
    exact .finV rfl rfl Fz.r
   refine .cons (fun L env14 F_27 l_28 hL hdn hup hphi => ⟨[(5, (.pointer (some ⟨b10, 0 + 2, none⟩)))], fun S hS hV => (.cons (hV 1 5 _ (hdn 1 1 rfl) rfl rfl) (Sub.nil _)), ?_⟩) ?_
   ·skip
    refine .loadF rfl Try.isAgg3 rfl (l_28.mem _ _ hb13) rfl ?_
    exact .finV rfl rfl Fz.r
   refine .cons (fun L env14 F_29 l_30 hL hdn hup hphi => ⟨[(3, (.pointer (some ⟨b10, 0, none⟩)))], fun S hS hV => (.cons (hS _ _ rfl) (Sub.nil _)), ?_⟩) ?_
   ·skip
    refine .fieldAddr rfl Try.underlying62 rfl Try.sizeOf3 rfl ?_
    exact .finV rfl rfl Fz.r
   refine .cons (fun L env14 F_31 l_32 hL hdn hup hphi => ⟨[(7, (.pointer (some ⟨b10, 0 + 1, none⟩)))], fun S hS hV => (.cons (hV 3 7 _ (hdn 1 3 rfl) rfl rfl) (Sub.nil _)), ?_⟩) ?_
   ·skip
    refine .loadF rfl Try.isAgg3 rfl (l_32.mem _ _ hb13) rfl ?_
    exact .finV rfl rfl Fz.r
   refine .cons (fun L env14 F_33 l_34 hL hdn hup hphi => ⟨[(4, (.pointer p6)), (6, (.int .i64 x9.Cask)), (8, (.int .i64 x9.Day))], fun S hS hV => (.cons (hV 0 4 _ (hdn 1 0 rfl) rfl rfl) (.cons (hV 2 6 _ (hdn 1 2 rfl) rfl rfl) (.cons (hV 4 8 _ (hdn 1 4 rfl) rfl rfl) (Sub.nil _)))), ?_⟩) ?_
   ·skip
    refine .norm (Sub.refl _) ((cons_eq (condF hL) (cons_eq (condF hL) (cons_eq rfl (cons_eq (condF hL) (cons_eq rfl rfl))))) : _ = [arena Γ.g119 (C119 Γ) F0 A1, arena Γ.g92 (C92 Γ) F0 A2, arena Γ.g117 (C117 Γ) F0 A3, arena Γ.g90 (C90 Γ) F0 A4, R]) (.upR 0 (stays119 Γ) (Fz.t l_12 l_34) rfl (.upR 1 (stays92 Γ) (Fz.t l_12 l_34) rfl (.upR 3 (stays90 Γ) (Fz.t l_12 l_34) rfl ?_)))
    refine .callBK e16 [0, 0, 1] rfl Try.call84 rfl rfl rfl rfl (c_cask_book_find _ Γ A1 A2 A4 b5 p6 k7 (h8.mono (Fz.t l_12 l_34)) x9.Cask x9.Day) ?_
    rintro F_35 _ l_36 ⟨p37, k38, rfl, h39⟩
    refine .pick [0, 0, 1, 0, 0] (rfl : _ = [arena Γ.g119 (C119 Γ) F_35 r_15.2, arena Γ.g92 (C92 Γ) F_35 A2, arena Γ.g117 (C117 Γ) F0 A3, arena Γ.g90 (C90 Γ) F_35 A4, R]) ?_
    exact .finQ ({ env14 with a := (updN env14.a 50 p37), o := env14.o, f := (updN env14.f 50 F_35) }) [true, true, true, true, true, false, true, true] rfl (by kernel_rfl) rfl rfl l_36 (fun _ le => ⟨le, h39.mono le⟩) (cons_eq (condT rfl) (cons_eq (condT rfl) (cons_eq rfl (cons_eq (condT rfl) (cons_eq rfl rfl)))))
   refine .cons (fun L env14 F_40 l_41 hL hdn hup hphi => ⟨[(3, (.pointer (some ⟨b10, 0, none⟩)))], fun S hS hV => (.cons (hS _ _ rfl) (Sub.nil _)), ?_⟩) ?_
   ·skip
    refine .fieldAddr rfl Try.underlying62 rfl Try.sizeOf3 rfl ?_
    exact .finV rfl rfl Fz.r
   refine .cons (fun L env14 F_42 l_43 hL hdn hup hphi => ⟨[(10, (.pointer (some ⟨b10, 0 + 7, none⟩)))], fun S hS hV => (.cons (hV 6 10 _ (hdn 1 6 rfl) rfl rfl) (Sub.nil _)), ?_⟩) ?_
   ·skip
    refine .loadF rfl Try.isAgg3 rfl (l_43.mem _ _ hb13) rfl ?_
    exact .finV rfl rfl Fz.r
   exact .nil
  obtain ⟨l_22, h17⟩ := hphi 5 _ rfl
  refine .norm (S' := [(0, (.pointer p6)), (3, (.pointer (some ⟨b10, 0, none⟩))), (4, (.pointer p6)), (5, (.pointer (some ⟨b10, 0 + 2, none⟩))), (6, (.int .i64 x9.Cask)), (7, (.pointer (some ⟨b10, 0 + 1, none⟩))), (8, (.int .i64 x9.Day)), (9, (.pointer (env14.a 50))), (10, (.pointer (some ⟨b10, 0 + 7, none⟩))), (11, (.int .i64 x9.Where))]) (.cons (k := 0) rfl (.cons (k := 3) rfl (.cons (k := 4) rfl (.cons (k := 5) rfl (.cons (k := 6) rfl (.cons (k := 7) rfl (.cons (k := 8) rfl (.cons (k := 9) rfl (.cons (k := 10) rfl (.cons (k := 11) rfl (.nil _))))))))))) (rfl : _ = [arena Γ.g119 (C119 Γ) (env14.f 50) r_15.2, arena Γ.g92 (C92 Γ) (env14.f 50) A2, arena Γ.g117 (C117 Γ) F0 A3, arena Γ.g90 (C90 Γ) (env14.f 50) A4, R]) ?_
  refine .bind (fun i44 e45 => ?_)
  obtain ⟨b46, hb47, hp48⟩ := h17.at e45
  refine .nilCheckR hp48 rfl rfl (.fieldAddr rfl Try.underlying119 rfl Try.sizeOf3 rfl (.bind (fun x49 e50 => ?_)))
  refine .letv (fun x51 e52 => ?_)
  refine .letv (fun A53 e54 => ?_)
  refine .storeR (xs' := A53) (x' := { x49 with place := x9.Where }) (us := [(.int .i64 x9.Where)]) 0 rfl l_22 Fz.r (len119 Γ) Try.sizeOf3 hb47 e50 rfl rfl rfl rfl rfl rfl (fun F' vs le ⟨q0, q1, h, r0⟩ => ⟨q0, q1, by subst h; exact rfl, r0⟩) (by rw [e54, e52] <;> rfl) (.nil (.upR 1 (stays92 Γ) l_22 rfl (.upR 2 (stays117 Γ) (Fz.t l_12 l_21) rfl (.upR 3 (stays90 Γ) l_22 rfl ?_))))
  exact .endX [0, 0, 0, 0, 0] Try.results69 (.nil) rfl (Fz.t l_12 l_21) rfl
 ·skip
  refine .drawGP 5 0 (fun env55 => [((.pointer p6), fun _ => True), ((.pointer (some ⟨b10, 0 + 2, none⟩)), fun _ => True), ((.int .i64 x9.Cask), fun _ => True), ((.pointer (some ⟨b10, 0 + 1, none⟩)), fun _ => True), ((.int .i64 x9.Day), fun _ => True), (undef, fun _ => True), ((.pointer (some ⟨b10, 0 + 7, none⟩)), fun _ => True), ((.int .i64 x9.Where), fun _ => True), (undef, fun _ => True), (undef, fun _ => True), (undef, fun _ => True)]) (fun L env55 => [arena Γ.g119 (C119 Γ) F0 A1, arena Γ.g92 (C92 Γ) F0 A2, arena Γ.g117 (C117 Γ) F0 A3, arena Γ.g90 (C90 Γ) F0 A4, R]) mixedOK (by kernel_rfl) rfl (fun _ => rfl) (by kernel_rfl) (fun _ => rfl) ?_
  ·skip
   refine .cons (by decide) (fun L env55 F_58 l_59 hL hdn hup hphi => ⟨[(0, (.pointer p6))], fun S hS hV => (.cons (hS _ _ rfl) (Sub.nil _)), ?_⟩) ?_
   ·skip
    refine .move rfl rfl ?_
    exact .finV rfl rfl Fz.r
   refine .cons (by decide) (fun L env55 F_60 l_61 hL hdn hup hphi => ⟨[(3, (.pointer (some ⟨b10, 0, none⟩)))], fun S hS hV => (.cons (hS _ _ rfl) (Sub.nil _)), ?_⟩) ?_
   ·skip
    refine .fieldAddr rfl Try.underlying62 rfl Try.sizeOf3 rfl ?_
    exact .finV rfl rfl Fz.r
   refine .cons (by decide) (fun L env55 F_62 l_63 hL hdn hup hphi => ⟨[(5, (.pointer (some ⟨b10, 0 + 2, none⟩)))], fun S hS hV => (.cons (hV 1 5 _ (hdn 1 1 rfl) rfl rfl) (Sub.nil _)), ?_⟩) ?_
   ·skip
    refine .loadF rfl Try.isAgg3 rfl (l_63.mem _ _ hb13) rfl ?_
    exact .finV rfl rfl Fz.r
   refine .cons (by decide) (fun L env55 F_64 l_65 hL hdn hup hphi => ⟨[(3, (.pointer (some ⟨b10, 0, none⟩)))], fun S hS hV => (.cons (hS _ _ rfl) (Sub.nil _)), ?_⟩) ?_
   ·skip
    refine .fieldAddr rfl Try.underlying62 rfl Try.sizeOf3 rfl ?_
    exact .finV rfl rfl Fz.r
   refine .cons (by decide) (fun L env55 F_66 l_67 hL hdn hup hphi => ⟨[(7, (.pointer (some ⟨b10, 0 + 1, none⟩)))], fun S hS hV => (.cons (hV 3 7 _ (hdn 1 3 rfl) rfl rfl) (Sub.nil _)), ?_⟩) ?_
   ·skip
    refine .loadF rfl Try.isAgg3 rfl (l_67.mem _ _ hb13) rfl ?_
    exact .finV rfl rfl Fz.r
   refine .at_ (fun L env55 F_68 l_69 hL hdn hup hphi => ⟨[(4, (.pointer p6)), (6, (.int .i64 x9.Cask)), (8, (.int .i64 x9.Day))], fun S hS hV => (.cons (hV 0 4 _ (hdn 1 0 rfl) rfl rfl) (.cons (hV 2 6 _ (hdn 1 2 rfl) rfl rfl) (.cons (hV 4 8 _ (hdn 1 4 rfl) rfl rfl) (Sub.nil _)))), ?_⟩) ?_
   ·skip
    refine .norm (Sub.refl _) ((cons_eq rfl (cons_eq rfl (cons_eq rfl (cons_eq rfl (cons_eq rfl rfl))))) : _ = [arena Γ.g119 (C119 Γ) F0 A1, arena Γ.g92 (C92 Γ) F0 A2, arena Γ.g117 (C117 Γ) F0 A3, arena Γ.g90 (C90 Γ) F0 A4, R]) (.upR 0 (stays119 Γ) (Fz.t l_12 l_69) rfl (.upR 1 (stays92 Γ) (Fz.t l_12 l_69) rfl (.upR 3 (stays90 Γ) (Fz.t l_12 l_69) rfl ?_)))
    exact .callBP e19 [0, 0, 1] rfl Try.call84 rfl rfl rfl rfl (c_cask_book_find _ Γ A1 A2 A4 b5 p6 k7 (h8.mono (Fz.t l_12 l_69)) x9.Cask x9.Day) (fun F_70 l_71 => GL.ppost (pan_postX (i := 1) rfl (Fz.t l_12 (Fz.t l_69 l_71))))
   refine .cons (by decide) (fun L env55 F_72 l_73 hL hdn hup hphi => ⟨[(3, (.pointer (some ⟨b10, 0, none⟩)))], fun S hS hV => (.cons (hS _ _ rfl) (Sub.nil _)), ?_⟩) ?_
   ·skip
    refine .fieldAddr rfl Try.underlying62 rfl Try.sizeOf3 rfl ?_
    exact .finV rfl rfl Fz.r
   refine .cons (by decide) (fun L env55 F_74 l_75 hL hdn hup hphi => ⟨[(10, (.pointer (some ⟨b10, 0 + 7, none⟩)))], fun S hS hV => (.cons (hV 6 10 _ (hdn 1 6 rfl) rfl rfl) (Sub.nil _)), ?_⟩) ?_
   ·skip
    refine .loadF rfl Try.isAgg3 rfl (l_75.mem _ _ hb13) rfl ?_
    exact .finV rfl rfl Fz.r
   refine .dep 1 rfl (.dep 1 rfl (.dep 1 rfl ?_))
   exact .nil
noncomputable def m_cask_book_sell (A1 : List CaskCask) (A2 : List CaskBook) (A3 : List (List (Int × Bool))) (A4 : List (List (Int × (Option Nat)))) (b5 : (Option Nat)) (x9 : ApiCaskEvent) : Option (Out CaskMisfit ((List CaskCask) × (List (List (Int × Bool))) × (List (List (Int × (Option Nat)))))) :=
 bindX (m_cask_book_find A1 A2 A4 b5 x9.Cask x9.Day) (fun q23 => some (.pan q23)) fun r_14 => ((r_14.1).bind fun i25 => (r_14.2[i25]?).bind fun x30 => if (x30.owner == x9.Person) then (bindX (m_cask_need (x30.creditor == (-1)) 11) (fun q69 => some (.done q69)) fun _r_63 => some (.next ())) else (bindX (m_cask_need false 11) (fun q106 => some (.done q106)) fun _r_100 => some (.next ())) : Option (Ctl (Unit) (CaskMisfit))).bind fun j113 => match j113 with | .next _j107 => ((r_14.1).bind fun i115 => (r_14.2[i115]?).bind fun x120 => bindX (m_cask_need (x9.To != x120.owner) 5) (fun q142 => some (.pan q142)) fun _r_136 => (r_14.1).bind fun i143 => (r_14.2[i143]?).bind fun x148 => bindv ({ x148 with owner := x9.To }) fun x150 => bindv (List.set r_14.2 i143 x150) fun A152 => some (.ok (A152, A3, A4))) | .done b110 => (some (.pan b110))
set_option maxHeartbeats 4000000 in
theorem c_cask_book_sell (F0 : Fz) (Γ : Gam) (A1 : List CaskCask) (A2 : List CaskBook) (A3 : List (List (Int × Bool))) (A4 : List (List (Int × (Option Nat)))) (b5 : (Option Nat)) (p6 : Option Addr) (k7 : Unit) (h8 : RepPtr Γ.g92 F0 p6 b5) (x9 : ApiCaskEvent) : CTX Try.prog penc 70 [(.pointer p6), (eApiCaskEvent x9)].toArray F0 [arena Γ.g119 (C119 Γ) F0 A1, arena Γ.g92 (C92 Γ) F0 A2, arena Γ.g117 (C117 Γ) F0 A3, arena Γ.g90 (C90 Γ) F0 A4] (m_cask_book_sell A1 A2 A3 A4 b5 x9) (fun (_r : (List CaskCask) × (List (List (Int × Bool))) × (List (List (Int × (Option Nat))))) _ v => v = .tuple #[]) (fun (r : (List CaskCask) × (List (List (Int × Bool))) × (List (List (Int × (Option Nat))))) F' _ => [arena Γ.g119 (C119 Γ) F' r.1, arena Γ.g92 (C92 Γ) F' A2, arena Γ.g117 (C117 Γ) F' r.2.1, arena Γ.g90 (C90 Γ) F' r.2.2]) := by
 refine CTX.enter Try.func70 rfl Try.ntmps70 rfl fun r R => ?_
 refine .norm (Sub.refl _) (rfl : _ = [arena Γ.g119 (C119 Γ) F0 A1, arena Γ.g92 (C92 Γ) F0 A2, arena Γ.g117 (C117 Γ) F0 A3, arena Γ.g90 (C90 Γ) F0 A4, R]) ?_
 unfold m_cask_book_sell
 refine .seq (.region (.boxF (cs := (cApiCaskEvent x9)) rfl rfl rfl (fun b10 F_11 l_12 hb13 => ?_)))
 refine .nil (.code (.seq (.region (.move rfl rfl (.fieldAddr rfl Try.underlying62 rfl Try.sizeOf3 rfl (.loadF rfl Try.isAgg3 rfl hb13 rfl (.fieldAddr rfl Try.underlying62 rfl Try.sizeOf3 rfl (.loadF rfl Try.isAgg3 rfl hb13 rfl (.upR 0 (stays119 Γ) l_12 rfl (.upR 1 (stays92 Γ) l_12 rfl (.upR 3 (stays90 Γ) l_12 rfl ?_)))))))))))
 refine .callB [0, 0, 1] rfl Try.call84 rfl rfl rfl rfl (c_cask_book_find _ Γ A1 A2 A4 b5 p6 k7 (h8.mono l_12) x9.Cask x9.Day) ?_ (fun q23 F_21 _ l_22 => (pan_postX (i := 1) rfl (Fz.t l_12 l_22)))
 rintro r_14 F_15 _ e17 l_16 ⟨p18, k19, rfl, h20⟩
 refine .pick [0, 0, 1, 0, 0] (rfl : _ = [arena Γ.g119 (C119 Γ) F_15 r_14.2, arena Γ.g92 (C92 Γ) F_15 A2, arena Γ.g117 (C117 Γ) F0 A3, arena Γ.g90 (C90 Γ) F_15 A4, R]) (.assign rfl rfl (.nil (.code (.seq (.keep (.cons (k := 3) rfl (.cons (k := 4) rfl (.nil _))) ?_)))))
 refine GC.join (σ := Unit) (γ := CaskMisfit) (fun j107 a w => ∃ (F_108 : Fz), F_15 ≤ F_108 ∧ Hd 39 [] [(3, (.pointer (some ⟨b10, 0, none⟩))), (4, (.pointer p18))] F_108 [arena Γ.g119 (C119 Γ) F_15 r_14.2, arena Γ.g92 (C92 Γ) F_15 A2, arena Γ.g117 (C117 Γ) F0 A3, arena Γ.g90 (C90 Γ) F_15 A4, R] a w) (fun b110 e a w => e = .panic [{ v := penc b110, recovered := false }] ∧ ∃ (F_111 : Fz), F_15 ≤ F_111 ∧ Hd 39 [] [] F_111 [R] a w) (fun sj => ?_) (fun j107 hs0 => GE.ex (fun a w ⟨F_108, l_109, hA⟩ => ⟨_, hA, ?_⟩)) ?_
 ·skip
  refine .bind (fun i25 e26 => ?_)
  obtain ⟨b27, hb28, hp29⟩ := h20.at e26
  refine .bind (fun x30 e31 => ?_)
  refine .ite (fun hb32 => ?_) (fun hb32 => ?_)
  ·skip
   refine .drawGD 14 0 (fun env24 => [((.pointer p18), fun _ => True), ((.pointer (some ⟨b27, 0, none⟩)), fun _ => True), ((.pointer (some ⟨b27, 0 + 4, none⟩)), fun _ => True), ((.int .i64 x30.owner), fun _ => True), ((.pointer (some ⟨b10, 0 + 4, none⟩)), fun _ => True), ((.int .i64 x9.Person), fun _ => True), ((.bool (x30.owner == x9.Person)), fun _ => True), ((.bool (x30.owner == x9.Person)), fun _ => True), ((.pointer p18), fun _ => True), ((.pointer (some ⟨b27, 0, none⟩)), fun _ => True), ((.pointer (some ⟨b27, 0 + 5, none⟩)), fun _ => True), ((.int .i64 x30.creditor), fun _ => True), ((.bool (x30.creditor == (-1))), fun _ => True), ((.bool (x30.creditor == (-1))), fun _ => True)]) (fun L env24 => [arena Γ.g119 (C119 Γ) F_15 r_14.2, arena Γ.g92 (C92 Γ) F_15 A2, arena Γ.g117 (C117 Γ) F0 A3, arena Γ.g90 (C90 Γ) F_15 A4, R]) mixedOK (by kernel_rfl) (deepN (k := 14) (n := 15) rfl (allLt15 (p := fun t => 14 ≤ t → ∀ j, j < t → ∃ s, depB _ s t j = true) (fun h => absurd h (by decide)) (fun h => absurd h (by decide)) (fun h => absurd h (by decide)) (fun h => absurd h (by decide)) (fun h => absurd h (by decide)) (fun h => absurd h (by decide)) (fun h => absurd h (by decide)) (fun h => absurd h (by decide)) (fun h => absurd h (by decide)) (fun h => absurd h (by decide)) (fun h => absurd h (by decide)) (fun h => absurd h (by decide)) (fun h => absurd h (by decide)) (fun h => absurd h (by decide)) (fun _ => allLt14 (p := fun j => ∃ s, depB _ s 14 j = true) ⟨6, rfl⟩ ⟨5, rfl⟩ ⟨4, rfl⟩ ⟨3, rfl⟩ ⟨4, rfl⟩ ⟨3, rfl⟩ ⟨2, rfl⟩ ⟨1, rfl⟩ ⟨6, rfl⟩ ⟨5, rfl⟩ ⟨4, rfl⟩ ⟨3, rfl⟩ ⟨2, rfl⟩ ⟨1, rfl⟩))) rfl (fun _ => rfl) (by kernel_rfl) (fun _ => rfl) ?_ (fun env24 F_33 l_34 hphi => ?_)
   ·skip
    refine .cons (fun L env24 F_35 l_36 hL hdn hup hphi => ⟨[(4, (.pointer p18))], fun S hS hV => (.cons (hS _ _ rfl) (Sub.nil _)), ?_⟩) ?_
    ·skip
     refine .move rfl rfl ?_
     exact .finV rfl rfl Fz.r
    refine .cons (fun L env24 F_37 l_38 hL hdn hup hphi => ⟨[(11, (.pointer p18))], fun S hS hV => (.cons (hV 0 11 _ (hdn 1 0 rfl) rfl rfl) (Sub.nil _)), ?_⟩) ?_
    ·skip
     refine .nilCheckR hp29 rfl rfl ?_
     exact .finV rfl rfl Fz.r
    refine .cons (fun L env24 F_39 l_40 hL hdn hup hphi => ⟨[(12, (.pointer (some ⟨b27, 0, none⟩)))], fun S hS hV => (.cons (hV 1 12 _ (hdn 1 1 rfl) rfl rfl) (Sub.nil _)), ?_⟩) ?_
    ·skip
     refine .fieldAddr rfl Try.underlying119 rfl Try.sizeOf3 rfl ?_
     exact .finV rfl rfl Fz.r
    refine .cons (fun L env24 F_41 l_42 hL hdn hup hphi => ⟨[(13, (.pointer (some ⟨b27, 0 + 4, none⟩)))], fun S hS hV => (.cons (hV 2 13 _ (hdn 1 2 rfl) rfl rfl) (Sub.nil _)), ?_⟩) ?_
    ·skip
     refine .loadR (Φ := fun v => v = (.int .i64 x30.owner)) 0 rfl l_42 (hb28.mono l_42) e31 rfl Try.isAgg3 rfl (fun vs ⟨q0, q1, h, r0⟩ => ⟨_, by subst h; exact rfl, rfl⟩) (fun v hv => ?_)
     subst hv
     exact .finV rfl rfl Fz.r
    refine .cons (fun L env24 F_43 l_44 hL hdn hup hphi => ⟨[(3, (.pointer (some ⟨b10, 0, none⟩)))], fun S hS hV => (.cons (hS _ _ rfl) (Sub.nil _)), ?_⟩) ?_
    ·skip
     refine .fieldAddr rfl Try.underlying62 rfl Try.sizeOf3 rfl ?_
     exact .finV rfl rfl Fz.r
    refine .cons (fun L env24 F_45 l_46 hL hdn hup hphi => ⟨[(15, (.pointer (some ⟨b10, 0 + 4, none⟩)))], fun S hS hV => (.cons (hV 4 15 _ (hdn 1 4 rfl) rfl rfl) (Sub.nil _)), ?_⟩) ?_
    ·skip
     refine .loadF rfl Try.isAgg3 rfl ((Fz.t l_16 l_46).mem _ _ hb13) rfl ?_
     exact .finV rfl rfl Fz.r
    refine .cons (fun L env24 F_47 l_48 hL hdn hup hphi => ⟨[(14, (.int .i64 x30.owner)), (16, (.int .i64 x9.Person))], fun S hS hV => (.cons (hV 3 14 _ (hdn 1 3 rfl) rfl rfl) (.cons (hV 5 16 _ (hdn 1 5 rfl) rfl rfl) (Sub.nil _))), ?_⟩) ?_
    ·skip
     refine .eql rfl rfl rfl ?_
     exact .finV rfl rfl Fz.r
    refine .cons (fun L env24 F_49 l_50 hL hdn hup hphi => ⟨[(17, (.bool (x30.owner == x9.Person)))], fun S hS hV => (.cons (hV 6 17 _ (hdn 1 6 rfl) rfl rfl) (Sub.nil _)), ?_⟩) ?_
    ·skip
     refine .move rfl rfl ?_
     exact .finV rfl rfl Fz.r
    refine .cons (fun L env24 F_51 l_52 hL hdn hup hphi => ⟨[(4, (.pointer p18)), (18, (.bool (x30.owner == x9.Person)))], fun S hS hV => (.cons (hS _ _ rfl) (.cons (hV 7 18 _ (hdn 1 7 rfl) rfl rfl) (Sub.nil _))), ?_⟩) ?_
    ·skip
     refine .onH hb32 rfl rfl (.move rfl rfl ?_)
     exact .finV rfl rfl Fz.r
    refine .cons (fun L env24 F_53 l_54 hL hdn hup hphi => ⟨[(18, (.bool (x30.owner == x9.Person))), (19, (.pointer p18))], fun S hS hV => (.cons (hV 7 18 _ (hdn 1 7 rfl) rfl rfl) (.cons (hV 8 19 _ (hdn 1 8 rfl) rfl rfl) (Sub.nil _))), ?_⟩) ?_
    ·skip
     refine .onH hb32 rfl rfl (.nilCheckR hp29 rfl rfl ?_)
     exact .finV rfl rfl Fz.r
    refine .cons (fun L env24 F_55 l_56 hL hdn hup hphi => ⟨[(18, (.bool (x30.owner == x9.Person))), (20, (.pointer (some ⟨b27, 0, none⟩)))], fun S hS hV => (.cons (hV 7 18 _ (hdn 1 7 rfl) rfl rfl) (.cons (hV 9 20 _ (hdn 1 9 rfl) rfl rfl) (Sub.nil _))), ?_⟩) ?_
    ·skip
     refine .onH hb32 rfl rfl (.fieldAddr rfl Try.underlying119 rfl Try.sizeOf3 rfl ?_)
     exact .finV rfl rfl Fz.r
    refine .cons (fun L env24 F_57 l_58 hL hdn hup hphi => ⟨[(18, (.bool (x30.owner == x9.Person))), (21, (.pointer (some ⟨b27, 0 + 5, none⟩)))], fun S hS hV => (.cons (hV 7 18 _ (hdn 1 7 rfl) rfl rfl) (.cons (hV 10 21 _ (hdn 1 10 rfl) rfl rfl) (Sub.nil _))), ?_⟩) ?_
    ·skip
     refine .onH hb32 rfl rfl (.loadR (Φ := fun v => v = (.int .i64 x30.creditor)) 0 rfl l_58 (hb28.mono l_58) e31 rfl Try.isAgg3 rfl (fun vs ⟨q0, q1, h, r0⟩ => ⟨_, by subst h; exact rfl, rfl⟩) (fun v hv => ?_))
     subst hv
     exact .finV rfl rfl Fz.r
    refine .cons (fun L env24 F_59 l_60 hL hdn hup hphi => ⟨[(18, (.bool (x30.owner == x9.Person))), (22, (.int .i64 x30.creditor))], fun S hS hV => (.cons (hV 7 18 _ (hdn 1 7 rfl) rfl rfl) (.cons (hV 11 22 _ (hdn 1 11 rfl) rfl rfl) (Sub.nil _))), ?_⟩) ?_
    ·skip
     refine .onH hb32 rfl rfl (.eql rfl rfl rfl ?_)
     exact .finV rfl rfl Fz.r
    refine .cons (fun L env24 F_61 l_62 hL hdn hup hphi => ⟨[(18, (.bool (x30.owner == x9.Person))), (23, (.bool (x30.creditor == (-1))))], fun S hS hV => (.cons (hV 7 18 _ (hdn 1 7 rfl) rfl rfl) (.cons (hV 12 23 _ (hdn 1 12 rfl) rfl rfl) (Sub.nil _))), ?_⟩) ?_
    ·skip
     refine .pickTH hb32  rfl rfl rfl ?_
     exact .finV rfl rfl Fz.r
    exact .nil
   refine .norm (S' := [(3, (.pointer (some ⟨b10, 0, none⟩))), (4, (.pointer p18)), (11, (.pointer p18)), (12, (.pointer (some ⟨b27, 0, none⟩))), (13, (.pointer (some ⟨b27, 0 + 4, none⟩))), (14, (.int .i64 x30.owner)), (15, (.pointer (some ⟨b10, 0 + 4, none⟩))), (16, (.int .i64 x9.Person)), (17, (.bool (x30.owner == x9.Person))), (18, (.bool (x30.owner == x9.Person))), (19, (.pointer p18)), (20, (.pointer (some ⟨b27, 0, none⟩))), (21, (.pointer (some ⟨b27, 0 + 5, none⟩))), (22, (.int .i64 x30.creditor)), (23, (.bool (x30.creditor == (-1)))), (24, (.bool (x30.creditor == (-1))))]) (.cons (k := 3) rfl (.cons (k := 4) rfl (.cons (k := 11) rfl (.cons (k := 12) rfl (.cons (k := 13) rfl (.cons (k := 14) rfl (.cons (k := 15) rfl (.cons (k := 16) rfl (.cons (k := 17) rfl (.cons (k := 18) rfl (.cons (k := 19) rfl (.cons (k := 20) rfl (.cons (k := 21) rfl (.cons (k := 22) rfl (.cons (k := 23) rfl (.cons (k := 24) rfl (.nil _))))))))))))))))) (rfl : _ = [arena Γ.g119 (C119 Γ) F_15 r_14.2, arena Γ.g92 (C92 Γ) F_15 A2, arena Γ.g117 (C117 Γ) F0 A3, arena Γ.g90 (C90 Γ) F_15 A4, R]) ?_
   refine .callB [] rfl Try.call50 rfl rfl rfl rfl (c_cask_need _ (x30.creditor == (-1)) 11) ?_ (fun q69 F_67 _ l_68 => (LPost.panQ fun a w h => ⟨rfl, F_67, (Fz.t l_34 l_68), h.1.sub (.nil _), SH.picks [4] rfl h.2⟩))
   rintro r_63 F_64 _ e66 l_65 rfl
   refine .pick [0, 0, 0, 0, 0] (rfl : _ = [arena Γ.g119 (C119 Γ) F_15 r_14.2, arena Γ.g92 (C92 Γ) F_15 A2, arena Γ.g117 (C117 Γ) F0 A3, arena Γ.g90 (C90 Γ) F_15 A4, R]) (.nil ?_)
   exact .nil (LPost.norm fun a w h => ⟨F_64, (Fz.t l_34 l_65), h.1.sub (.cons (k := 3) rfl (.cons (k := 4) rfl (.nil _))), h.2⟩)
  ·skip
   refine .drawGD 14 0 (fun env24 => [((.pointer p18), fun _ => True), ((.pointer (some ⟨b27, 0, none⟩)), fun _ => True), ((.pointer (some ⟨b27, 0 + 4, none⟩)), fun _ => True), ((.int .i64 x30.owner), fun _ => True), ((.pointer (some ⟨b10, 0 + 4, none⟩)), fun _ => True), ((.int .i64 x9.Person), fun _ => True), ((.bool (x30.owner == x9.Person)), fun _ => True), ((.bool (x30.owner == x9.Person)), fun _ => True), (undef, fun _ => True), (undef, fun _ => True), (undef, fun _ => True), (undef, fun _ => True), (undef, fun _ => True), ((.bool false), fun _ => True)]) (fun L env24 => [arena Γ.g119 (C119 Γ) F_15 r_14.2, arena Γ.g92 (C92 Γ) F_15 A2, arena Γ.g117 (C117 Γ) F0 A3, arena Γ.g90 (C90 Γ) F_15 A4, R]) mixedOK (by kernel_rfl) (deepN (k := 14) (n := 15) rfl (allLt15 (p := fun t => 14 ≤ t → ∀ j, j < t → ∃ s, depB _ s t j = true) (fun h => absurd h (by decide)) (fun h => absurd h (by decide)) (fun h => absurd h (by decide)) (fun h => absurd h (by decide)) (fun h => absurd h (by decide)) (fun h => absurd h (by decide)) (fun h => absurd h (by decide)) (fun h => absurd h (by decide)) (fun h => absurd h (by decide)) (fun h => absurd h (by decide)) (fun h => absurd h (by decide)) (fun h => absurd h (by decide)) (fun h => absurd h (by decide)) (fun h => absurd h (by decide)) (fun _ => allLt14 (p := fun j => ∃ s, depB _ s 14 j = true) ⟨6, rfl⟩ ⟨5, rfl⟩ ⟨4, rfl⟩ ⟨3, rfl⟩ ⟨4, rfl⟩ ⟨3, rfl⟩ ⟨2, rfl⟩ ⟨1, rfl⟩ ⟨6, rfl⟩ ⟨5, rfl⟩ ⟨4, rfl⟩ ⟨3, rfl⟩ ⟨2, rfl⟩ ⟨1, rfl⟩))) rfl (fun _ => rfl) (by kernel_rfl) (fun _ => rfl) ?_ (fun env24 F_70 l_71 hphi => ?_)
   ·skip
    refine .cons (fun L env24 F_72 l_73 hL hdn hup hphi => ⟨[(4, (.pointer p18))], fun S hS hV => (.cons (hS _ _ rfl) (Sub.nil _)), ?_⟩) ?_
    ·skip
     refine .move rfl rfl ?_
     exact .finV rfl rfl Fz.r
    refine .cons (fun L env24 F_74 l_75 hL hdn hup hphi => ⟨[(11, (.pointer p18))], fun S hS hV => (.cons (hV 0 11 _ (hdn 1 0 rfl) rfl rfl) (Sub.nil _)), ?_⟩) ?_
    ·skip
     refine .nilCheckR hp29 rfl rfl ?_
     exact .finV rfl rfl Fz.r
    refine .cons (fun L env24 F_76 l_77 hL hdn hup hphi => ⟨[(12, (.pointer (some ⟨b27, 0, none⟩)))], fun S hS hV => (.cons (hV 1 12 _ (hdn 1 1 rfl) rfl rfl) (Sub.nil _)), ?_⟩) ?_
    ·skip
     refine .fieldAddr rfl Try.underlying119 rfl Try.sizeOf3 rfl ?_
     exact .finV rfl rfl Fz.r
    refine .cons (fun L env24 F_78 l_79 hL hdn hup hphi => ⟨[(13, (.pointer (some ⟨b27, 0 + 4, none⟩)))], fun S hS hV => (.cons (hV 2 13 _ (hdn 1 2 rfl) rfl rfl) (Sub.nil _)), ?_⟩) ?_
    ·skip
     refine .loadR (Φ := fun v => v = (.int .i64 x30.owner)) 0 rfl l_79 (hb28.mono l_79) e31 rfl Try.isAgg3 rfl (fun vs ⟨q0, q1, h, r0⟩ => ⟨_, by subst h; exact rfl, rfl⟩) (fun v hv => ?_)
     subst hv
     exact .finV rfl rfl Fz.r
    refine .cons (fun L env24 F_80 l_81 hL hdn hup hphi => ⟨[(3, (.pointer (some ⟨b10, 0, none⟩)))], fun S hS hV => (.cons (hS _ _ rfl) (Sub.nil _)), ?_⟩) ?_
    ·skip
     refine .fieldAddr rfl Try.underlying62 rfl Try.sizeOf3 rfl ?_
     exact .finV rfl rfl Fz.r
    refine .cons (fun L env24 F_82 l_83 hL hdn hup hphi => ⟨[(15, (.pointer (some ⟨b10, 0 + 4, none⟩)))], fun S hS hV => (.cons (hV 4 15 _ (hdn 1 4 rfl) rfl rfl) (Sub.nil _)), ?_⟩) ?_
    ·skip
     refine .loadF rfl Try.isAgg3 rfl ((Fz.t l_16 l_83).mem _ _ hb13) rfl ?_
     exact .finV rfl rfl Fz.r
    refine .cons (fun L env24 F_84 l_85 hL hdn hup hphi => ⟨[(14, (.int .i64 x30.owner)), (16, (.int .i64 x9.Person))], fun S hS hV => (.cons (hV 3 14 _ (hdn 1 3 rfl) rfl rfl) (.cons (hV 5 16 _ (hdn 1 5 rfl) rfl rfl) (Sub.nil _))), ?_⟩) ?_
    ·skip
     refine .eql rfl rfl rfl ?_
     exact .finV rfl rfl Fz.r
    refine .cons (fun L env24 F_86 l_87 hL hdn hup hphi => ⟨[(17, (.bool (x30.owner == x9.Person)))], fun S hS hV => (.cons (hV 6 17 _ (hdn 1 6 rfl) rfl rfl) (Sub.nil _)), ?_⟩) ?_
    ·skip
     refine .move rfl rfl ?_
     exact .finV rfl rfl Fz.r
    refine .cons (fun L env24 F_88 l_89 hL hdn hup hphi => ⟨[(4, (.pointer p18)), (18, (.bool (x30.owner == x9.Person)))], fun S hS hV => (.cons (hS _ _ rfl) (.cons (hV 7 18 _ (hdn 1 7 rfl) rfl rfl) (Sub.nil _))), ?_⟩) ?_
    ·skip
     refine .offH hb32 rfl rfl rfl ?_
     exact .finV rfl rfl Fz.r
    refine .cons (fun L env24 F_90 l_91 hL hdn hup hphi => ⟨[(18, (.bool (x30.owner == x9.Person))), (19, undef)], fun S hS hV => (.cons (hV 7 18 _ (hdn 1 7 rfl) rfl rfl) (.cons (hV 8 19 _ (hdn 1 8 rfl) rfl rfl) (Sub.nil _))), ?_⟩) ?_
    ·skip
     refine .offH hb32 rfl rfl rfl ?_
     exact .finV rfl rfl Fz.r
    refine .cons (fun L env24 F_92 l_93 hL hdn hup hphi => ⟨[(18, (.bool (x30.owner == x9.Person))), (20, undef)], fun S hS hV => (.cons (hV 7 18 _ (hdn 1 7 rfl) rfl rfl) (.cons (hV 9 20 _ (hdn 1 9 rfl) rfl rfl) (Sub.nil _))), ?_⟩) ?_
    ·skip
     refine .offH hb32 rfl rfl rfl ?_
     exact .finV rfl rfl Fz.r
    refine .cons (fun L env24 F_94 l_95 hL hdn hup hphi => ⟨[(18, (.bool (x30.owner == x9.Person))), (21, undef)], fun S hS hV => (.cons (hV 7 18 _ (hdn 1 7 rfl) rfl rfl) (.cons (hV 10 21 _ (hdn 1 10 rfl) rfl rfl) (Sub.nil _))), ?_⟩) ?_
    ·skip
     refine .offH hb32 rfl rfl rfl ?_
     exact .finV rfl rfl Fz.r
    refine .cons (fun L env24 F_96 l_97 hL hdn hup hphi => ⟨[(18, (.bool (x30.owner == x9.Person))), (22, undef)], fun S hS hV => (.cons (hV 7 18 _ (hdn 1 7 rfl) rfl rfl) (.cons (hV 11 22 _ (hdn 1 11 rfl) rfl rfl) (Sub.nil _))), ?_⟩) ?_
    ·skip
     refine .offH hb32 rfl rfl rfl ?_
     exact .finV rfl rfl Fz.r
    refine .cons (fun L env24 F_98 l_99 hL hdn hup hphi => ⟨[(18, (.bool (x30.owner == x9.Person))), (23, undef)], fun S hS hV => (.cons (hV 7 18 _ (hdn 1 7 rfl) rfl rfl) (.cons (hV 12 23 _ (hdn 1 12 rfl) rfl rfl) (Sub.nil _))), ?_⟩) ?_
    ·skip
     refine .pickFH hb32  rfl rfl rfl ?_
     exact .finV rfl rfl Fz.r
    exact .nil
   refine .norm (S' := [(3, (.pointer (some ⟨b10, 0, none⟩))), (4, (.pointer p18)), (11, (.pointer p18)), (12, (.pointer (some ⟨b27, 0, none⟩))), (13, (.pointer (some ⟨b27, 0 + 4, none⟩))), (14, (.int .i64 x30.owner)), (15, (.pointer (some ⟨b10, 0 + 4, none⟩))), (16, (.int .i64 x9.Person)), (17, (.bool (x30.owner == x9.Person))), (18, (.bool (x30.owner == x9.Person))), (24, (.bool false))]) (.cons (k := 3) rfl (.cons (k := 4) rfl (.cons (k := 11) rfl (.cons (k := 12) rfl (.cons (k := 13) rfl (.cons (k := 14) rfl (.cons (k := 15) rfl (.cons (k := 16) rfl (.cons (k := 17) rfl (.cons (k := 18) rfl (.cons (k := 24) rfl (.nil _)))))))))))) (rfl : _ = [arena Γ.g119 (C119 Γ) F_15 r_14.2, arena Γ.g92 (C92 Γ) F_15 A2, arena Γ.g117 (C117 Γ) F0 A3, arena Γ.g90 (C90 Γ) F_15 A4, R]) ?_
   refine .callB [] rfl Try.call50 rfl rfl rfl rfl (c_cask_need _ false 11) ?_ (fun q106 F_104 _ l_105 => (LPost.panQ fun a w h => ⟨rfl, F_104, (Fz.t l_71 l_105), h.1.sub (.nil _), SH.picks [4] rfl h.2⟩))
   rintro r_100 F_101 _ e103 l_102 rfl
   refine .pick [0, 0, 0, 0, 0] (rfl : _ = [arena Γ.g119 (C119 Γ) F_15 r_14.2, arena Γ.g92 (C92 Γ) F_15 A2, arena Γ.g117 (C117 Γ) F0 A3, arena Γ.g90 (C90 Γ) F_15 A4, R]) (.nil ?_)
   exact .nil (LPost.norm fun a w h => ⟨F_101, (Fz.t l_71 l_102), h.1.sub (.cons (k := 3) rfl (.cons (k := 4) rfl (.nil _))), h.2⟩)
 ·skip
  refine .code (.seq (.keep (.cons (k := 3) rfl (.cons (k := 4) rfl (.nil _))) (.bind (fun i115 e116 => ?_))))
  obtain ⟨b117, hb118, hp119⟩ := (h20.mono l_109).at e116
  refine .bind (fun x120 e121 => ?_)
  refine .drawGD 6 0 (fun env114 => [((.pointer (some ⟨b10, 0 + 5, none⟩)), fun _ => True), ((.int .i64 x9.To), fun _ => True), ((.pointer p18), fun _ => True), ((.pointer (some ⟨b117, 0, none⟩)), fun _ => True), ((.pointer (some ⟨b117, 0 + 4, none⟩)), fun _ => True), ((.int .i64 x120.owner), fun _ => True)]) (fun L env114 => [arena Γ.g119 (C119 Γ) F_15 r_14.2, arena Γ.g92 (C92 Γ) F_15 A2, arena Γ.g117 (C117 Γ) F0 A3, arena Γ.g90 (C90 Γ) F_15 A4, R]) mixedOK (by kernel_rfl) (deepN (k := 6) (n := 8) rfl (allLt8 (p := fun t => 6 ≤ t → ∀ j, j < t → ∃ s, depB _ s t j = true) (fun h => absurd h (by decide)) (fun h => absurd h (by decide)) (fun h => absurd h (by decide)) (fun h => absurd h (by decide)) (fun h => absurd h (by decide)) (fun h => absurd h (by decide)) (fun _ => allLt6 (p := fun j => ∃ s, depB _ s 6 j = true) ⟨2, rfl⟩ ⟨1, rfl⟩ ⟨4, rfl⟩ ⟨3, rfl⟩ ⟨2, rfl⟩ ⟨1, rfl⟩) (fun _ => allLt7 (p := fun j => ∃ s, depB _ s 7 j = true) ⟨3, rfl⟩ ⟨2, rfl⟩ ⟨5, rfl⟩ ⟨4, rfl⟩ ⟨3, rfl⟩ ⟨2, rfl⟩ ⟨1, rfl⟩))) rfl (fun _ => rfl) (by kernel_rfl) (fun _ => rfl) ?_ (fun env114 F_122 l_123 hphi => ?_)
  ·skip
   refine .cons (fun L env114 F_124 l_125 hL hdn hup hphi => ⟨[(3, (.pointer (some ⟨b10, 0, none⟩)))], fun S hS hV => (.cons (hS _ _ rfl) (Sub.nil _)), ?_⟩) ?_
   ·skip
    refine .fieldAddr rfl Try.underlying62 rfl Try.sizeOf3 rfl ?_
    exact .finV rfl rfl Fz.r
   refine .cons (fun L env114 F_126 l_127 hL hdn hup hphi => ⟨[(26, (.pointer (some ⟨b10, 0 + 5, none⟩)))], fun S hS hV => (.cons (hV 0 26 _ (hdn 1 0 rfl) rfl rfl) (Sub.nil _)), ?_⟩) ?_
   ·skip
    refine .loadF rfl Try.isAgg3 rfl ((Fz.t l_16 (Fz.t l_109 l_127)).mem _ _ hb13) rfl ?_
    exact .finV rfl rfl Fz.r
   refine .cons (fun L env114 F_128 l_129 hL hdn hup hphi => ⟨[(4, (.pointer p18))], fun S hS hV => (.cons (hS _ _ rfl) (Sub.nil _)), ?_⟩) ?_
   ·skip
    refine .move rfl rfl ?_
    exact .finV rfl rfl Fz.r
   refine .cons (fun L env114 F_130 l_131 hL hdn hup hphi => ⟨[(28, (.pointer p18))], fun S hS hV => (.cons (hV 2 28 _ (hdn 1 2 rfl) rfl rfl) (Sub.nil _)), ?_⟩) ?_
   ·skip
    refine .nilCheckR hp119 rfl rfl ?_
    exact .finV rfl rfl Fz.r
   refine .cons (fun L env114 F_132 l_133 hL hdn hup hphi => ⟨[(29, (.pointer (some ⟨b117, 0, none⟩)))], fun S hS hV => (.cons (hV 3 29 _ (hdn 1 3 rfl) rfl rfl) (Sub.nil _)), ?_⟩) ?_
   ·skip
    refine .fieldAddr rfl Try.underlying119 rfl Try.sizeOf3 rfl ?_
    exact .finV rfl rfl Fz.r
   refine .cons (fun L env114 F_134 l_135 hL hdn hup hphi => ⟨[(30, (.pointer (some ⟨b117, 0 + 4, none⟩)))], fun S hS hV => (.cons (hV 4 30 _ (hdn 1 4 rfl) rfl rfl) (Sub.nil _)), ?_⟩) ?_
   ·skip
    refine .loadR (Φ := fun v => v = (.int .i64 x120.owner)) 0 rfl (Fz.t l_109 l_135) (hb118.mono l_135) e121 rfl Try.isAgg3 rfl (fun vs ⟨q0, q1, h, r0⟩ => ⟨_, by subst h; exact rfl, rfl⟩) (fun v hv => ?_)
    subst hv
    exact .finV rfl rfl Fz.r
   exact .nil
  refine .norm (S' := [(3, (.pointer (some ⟨b10, 0, none⟩))), (4, (.pointer p18)), (26, (.pointer (some ⟨b10, 0 + 5, none⟩))), (27, (.int .i64 x9.To)), (28, (.pointer p18)), (29, (.pointer (some ⟨b117, 0, none⟩))), (30, (.pointer (some ⟨b117, 0 + 4, none⟩))), (31, (.int .i64 x120.owner))]) (.cons (k := 3) rfl (.cons (k := 4) rfl (.cons (k := 26) rfl (.cons (k := 27) rfl (.cons (k := 28) rfl (.cons (k := 29) rfl (.cons (k := 30) rfl (.cons (k := 31) rfl (.nil _))))))))) (rfl : _ = [arena Γ.g119 (C119 Γ) F_15 r_14.2, arena Γ.g92 (C92 Γ) F_15 A2, arena Γ.g117 (C117 Γ) F0 A3, arena Γ.g90 (C90 Γ) F_15 A4, R]) ?_
  refine .neq rfl rfl rfl (.callB [] rfl Try.call50 rfl rfl rfl rfl (c_cask_need _ (x9.To != x120.owner) 5) ?_ (fun q142 F_140 _ l_141 => (pan_postX (i := 4) rfl (Fz.t l_12 (Fz.t l_16 (Fz.t l_109 (Fz.t l_123 l_141)))))))
  rintro r_136 F_137 _ e139 l_138 rfl
  refine .pick [0, 0, 0, 0, 0] (rfl : _ = [arena Γ.g119 (C119 Γ) F_15 r_14.2, arena Γ.g92 (C92 Γ) F_15 A2, arena Γ.g117 (C117 Γ) F0 A3, arena Γ.g90 (C90 Γ) F_15 A4, R]) (.nil (.code (.region (.move rfl rfl (.fieldAddr rfl Try.underlying62 rfl Try.sizeOf3 rfl (.loadF rfl Try.isAgg3 rfl ((Fz.t l_16 (Fz.t l_109 (Fz.t l_123 l_138))).mem _ _ hb13) rfl (.bind (fun i143 e144 => ?_))))))))
  obtain ⟨b145, hb146, hp147⟩ := (h20.mono (Fz.t l_109 (Fz.t l_123 l_138))).at e144
  refine .nilCheckR hp147 rfl rfl (.fieldAddr rfl Try.underlying119 rfl Try.sizeOf3 rfl (.bind (fun x148 e149 => ?_)))
  refine .letv (fun x150 e151 => ?_)
  refine .letv (fun A152 e153 => ?_)
  refine .storeR (xs' := A152) (x' := { x148 with owner := x9.To }) (us := [(.int .i64 x9.To)]) 0 rfl (Fz.t l_109 (Fz.t l_123 l_138)) Fz.r (len119 Γ) Try.sizeOf3 hb146 e149 rfl rfl rfl rfl rfl rfl (fun F' vs le ⟨q0, q1, h, r0⟩ => ⟨q0, q1, by subst h; exact rfl, r0⟩) (by rw [e153, e151] <;> rfl) (.nil (.upR 1 (stays92 Γ) (Fz.t l_109 (Fz.t l_123 l_138)) rfl ?_))
  refine .upR 2 (stays117 Γ) (Fz.t l_12 (Fz.t l_16 (Fz.t l_109 (Fz.t l_123 l_138)))) rfl (.upR 3 (stays90 Γ) (Fz.t l_109 (Fz.t l_123 l_138)) rfl ?_)
  exact .endX [0, 0, 0, 0, 0] Try.results70 (.nil) rfl (Fz.t l_12 (Fz.t l_16 (Fz.t l_109 (Fz.t l_123 l_138)))) rfl
 ·intro b110 hb0 hk e a w hD
  obtain ⟨rfl, F_111, l_112, hA⟩ := hD
  exact interp_panic ((pan_postX (i := 0) rfl (Fz.t l_12 (Fz.t l_16 l_112))) hk a w hA)
noncomputable def m_cask_book_pledge (A1 : List CaskCask) (A2 : List CaskBook) (A3 : List (List (Int × Bool))) (A4 : List (List (Int × (Option Nat)))) (b5 : (Option Nat)) (x9 : ApiCaskEvent) : Option (Out CaskMisfit ((List CaskCask) × (List (List (Int × Bool))) × (List (List (Int × (Option Nat)))))) :=
 bindX (m_cask_book_find A1 A2 A4 b5 x9.Cask x9.Day) (fun q23 => some (.pan q23)) fun r_14 => (r_14.1).bind fun i25 => (r_14.2[i25]?).bind fun x30 => bindX (m_cask_need (x30.owner == x9.Person) 11) (fun q52 => some (.pan q52)) fun _r_46 => (r_14.1).bind fun i53 => (r_14.2[i53]?).bind fun x58 => bindX (m_cask_need (x58.creditor == (-1)) 5) (fun q66 => some (.pan q66)) fun _r_60 => bindv ({ x58 with creditor := x9.To }) fun x67 => bindv (List.set r_14.2 i53 x67) fun A69 => some (.ok (A69, A3, A4))
set_option maxHeartbeats 4000000 in
theorem c_cask_book_pledge (F0 : Fz) (Γ : Gam) (A1 : List CaskCask) (A2 : List CaskBook) (A3 : List (List (Int × Bool))) (A4 : List (List (Int × (Option Nat)))) (b5 : (Option Nat)) (p6 : Option Addr) (k7 : Unit) (h8 : RepPtr Γ.g92 F0 p6 b5) (x9 : ApiCaskEvent) : CTX Try.prog penc 71 [(.pointer p6), (eApiCaskEvent x9)].toArray F0 [arena Γ.g119 (C119 Γ) F0 A1, arena Γ.g92 (C92 Γ) F0 A2, arena Γ.g117 (C117 Γ) F0 A3, arena Γ.g90 (C90 Γ) F0 A4] (m_cask_book_pledge A1 A2 A3 A4 b5 x9) (fun (_r : (List CaskCask) × (List (List (Int × Bool))) × (List (List (Int × (Option Nat))))) _ v => v = .tuple #[]) (fun (r : (List CaskCask) × (List (List (Int × Bool))) × (List (List (Int × (Option Nat))))) F' _ => [arena Γ.g119 (C119 Γ) F' r.1, arena Γ.g92 (C92 Γ) F' A2, arena Γ.g117 (C117 Γ) F' r.2.1, arena Γ.g90 (C90 Γ) F' r.2.2]) := by
 refine CTX.enter Try.func71 rfl Try.ntmps71 rfl fun r R => ?_
 refine .norm (Sub.refl _) (rfl : _ = [arena Γ.g119 (C119 Γ) F0 A1, arena Γ.g92 (C92 Γ) F0 A2, arena Γ.g117 (C117 Γ) F0 A3, arena Γ.g90 (C90 Γ) F0 A4, R]) ?_
 unfold m_cask_book_pledge
 refine .seq (.region (.boxF (cs := (cApiCaskEvent x9)) rfl rfl rfl (fun b10 F_11 l_12 hb13 => ?_)))
 refine .nil (.code (.seq (.region (.move rfl rfl (.fieldAddr rfl Try.underlying62 rfl Try.sizeOf3 rfl (.loadF rfl Try.isAgg3 rfl hb13 rfl (.fieldAddr rfl Try.underlying62 rfl Try.sizeOf3 rfl (.loadF rfl Try.isAgg3 rfl hb13 rfl (.upR 0 (stays119 Γ) l_12 rfl (.upR 1 (stays92 Γ) l_12 rfl (.upR 3 (stays90 Γ) l_12 rfl ?_)))))))))))
 refine .callB [0, 0, 1] rfl Try.call84 rfl rfl rfl rfl (c_cask_book_find _ Γ A1 A2 A4 b5 p6 k7 (h8.mono l_12) x9.Cask x9.Day) ?_ (fun q23 F_21 _ l_22 => (pan_postX (i := 1) rfl (Fz.t l_12 l_22)))
 rintro r_14 F_15 _ e17 l_16 ⟨p18, k19, rfl, h20⟩
 refine .pick [0, 0, 1, 0, 0] (rfl : _ = [arena Γ.g119 (C119 Γ) F_15 r_14.2, arena Γ.g92 (C92 Γ) F_15 A2, arena Γ.g117 (C117 Γ) F0 A3, arena Γ.g90 (C90 Γ) F_15 A4, R]) (.assign rfl rfl (.nil (.code (.seq (.keep (.cons (k := 3) rfl (.cons (k := 4) rfl (.nil _))) (.bind (fun i25 e26 => ?_)))))))
 obtain ⟨b27, hb28, hp29⟩ := h20.at e26
 refine .bind (fun x30 e31 => ?_)
 refine .drawGD 6 0 (fun env24 => [((.pointer p18), fun _ => True), ((.pointer (some ⟨b27, 0, none⟩)), fun _ => True), ((.pointer (some ⟨b27, 0 + 4, none⟩)), fun _ => True), ((.int .i64 x30.owner), fun _ => True), ((.pointer (some ⟨b10, 0 + 4, none⟩)), fun _ => True), ((.int .i64 x9.Person), fun _ => True)]) (fun L env24 => [arena Γ.g119 (C119 Γ) F_15 r_14.2, arena Γ.g92 (C92 Γ) F_15 A2, arena Γ.g117 (C117 Γ) F0 A3, arena Γ.g90 (C90 Γ) F_15 A4, R]) mixedOK (by kernel_rfl) (deepN (k := 6) (n := 8) rfl (allLt8 (p := fun t => 6 ≤ t → ∀ j, j < t → ∃ s, depB _ s t j = true) (fun h => absurd h (by decide)) (fun h => absurd h (by decide)) (fun h => absurd h (by decide)) (fun h => absurd h (by decide)) (fun h => absurd h (by decide)) (fun h => absurd h (by decide)) (fun _ => allLt6 (p := fun j => ∃ s, depB _ s 6 j = true) ⟨4, rfl⟩ ⟨3, rfl⟩ ⟨2, rfl⟩ ⟨1, rfl⟩ ⟨2, rfl⟩ ⟨1, rfl⟩) (fun _ => allLt7 (p := fun j => ∃ s, depB _ s 7 j = true) ⟨5, rfl⟩ ⟨4, rfl⟩ ⟨3, rfl⟩ ⟨2, rfl⟩ ⟨3, rfl⟩ ⟨2, rfl⟩ ⟨1, rfl⟩))) rfl (fun _ => rfl) (by kernel_rfl) (fun _ => rfl) ?_ (fun env24 F_32 l_33 hphi => ?_)
 ·skip
  refine .cons (fun L env24 F_34 l_35 hL hdn hup hphi => ⟨[(4, (.pointer p18))], fun S hS hV => (.cons (hS _ _ rfl) (Sub.nil _)), ?_⟩) ?_
  ·skip
   refine .move rfl rfl ?_
   exact .finV rfl rfl Fz.r
  refine .cons (fun L env24 F_36 l_37 hL hdn hup hphi => ⟨[(11, (.pointer p18))], fun S hS hV => (.cons (hV 0 11 _ (hdn 1 0 rfl) rfl rfl) (Sub.nil _)), ?_⟩) ?_
  ·skip
   refine .nilCheckR hp29 rfl rfl ?_
   exact .finV rfl rfl Fz.r
  refine .cons (fun L env24 F_38 l_39 hL hdn hup hphi => ⟨[(12, (.pointer (some ⟨b27, 0, none⟩)))], fun S hS hV => (.cons (hV 1 12 _ (hdn 1 1 rfl) rfl rfl) (Sub.nil _)), ?_⟩) ?_
  ·skip
   refine .fieldAddr rfl Try.underlying119 rfl Try.sizeOf3 rfl ?_
   exact .finV rfl rfl Fz.r
  refine .cons (fun L env24 F_40 l_41 hL hdn hup hphi => ⟨[(13, (.pointer (some ⟨b27, 0 + 4, none⟩)))], fun S hS hV => (.cons (hV 2 13 _ (hdn 1 2 rfl) rfl rfl) (Sub.nil _)), ?_⟩) ?_
  ·skip
   refine .loadR (Φ := fun v => v = (.int .i64 x30.owner)) 0 rfl l_41 (hb28.mono l_41) e31 rfl Try.isAgg3 rfl (fun vs ⟨q0, q1, h, r0⟩ => ⟨_, by subst h; exact rfl, rfl⟩) (fun v hv => ?_)
   subst hv
   exact .finV rfl rfl Fz.r
  refine .cons (fun L env24 F_42 l_43 hL hdn hup hphi => ⟨[(3, (.pointer (some ⟨b10, 0, none⟩)))], fun S hS hV => (.cons (hS _ _ rfl) (Sub.nil _)), ?_⟩) ?_
  ·skip
   refine .fieldAddr rfl Try.underlying62 rfl Try.sizeOf3 rfl ?_
   exact .finV rfl rfl Fz.r
  refine .cons (fun L env24 F_44 l_45 hL hdn hup hphi => ⟨[(15, (.pointer (some ⟨b10, 0 + 4, none⟩)))], fun S hS hV => (.cons (hV 4 15 _ (hdn 1 4 rfl) rfl rfl) (Sub.nil _)), ?_⟩) ?_
  ·skip
   refine .loadF rfl Try.isAgg3 rfl ((Fz.t l_16 l_45).mem _ _ hb13) rfl ?_
   exact .finV rfl rfl Fz.r
  exact .nil
 refine .norm (S' := [(3, (.pointer (some ⟨b10, 0, none⟩))), (4, (.pointer p18)), (11, (.pointer p18)), (12, (.pointer (some ⟨b27, 0, none⟩))), (13, (.pointer (some ⟨b27, 0 + 4, none⟩))), (14, (.int .i64 x30.owner)), (15, (.pointer (some ⟨b10, 0 + 4, none⟩))), (16, (.int .i64 x9.Person))]) (.cons (k := 3) rfl (.cons (k := 4) rfl (.cons (k := 11) rfl (.cons (k := 12) rfl (.cons (k := 13) rfl (.cons (k := 14) rfl (.cons (k := 15) rfl (.cons (k := 16) rfl (.nil _))))))))) (rfl : _ = [arena Γ.g119 (C119 Γ) F_15 r_14.2, arena Γ.g92 (C92 Γ) F_15 A2, arena Γ.g117 (C117 Γ) F0 A3, arena Γ.g90 (C90 Γ) F_15 A4, R]) ?_
 refine .eql rfl rfl rfl (.callB [] rfl Try.call50 rfl rfl rfl rfl (c_cask_need _ (x30.owner == x9.Person) 11) ?_ (fun q52 F_50 _ l_51 => (pan_postX (i := 4) rfl (Fz.t l_12 (Fz.t l_16 (Fz.t l_33 l_51))))))
 rintro r_46 F_47 _ e49 l_48 rfl
 refine .pick [0, 0, 0, 0, 0] (rfl : _ = [arena Γ.g119 (C119 Γ) F_15 r_14.2, arena Γ.g92 (C92 Γ) F_15 A2, arena Γ.g117 (C117 Γ) F0 A3, arena Γ.g90 (C90 Γ) F_15 A4, R]) (.nil (.code (.seq (.region (.move rfl rfl (.bind (fun i53 e54 => ?_)))))))
 obtain ⟨b55, hb56, hp57⟩ := (h20.mono (Fz.t l_33 l_48)).at e54
 refine .nilCheckR hp57 rfl rfl (.fieldAddr rfl Try.underlying119 rfl Try.sizeOf3 rfl (.bind (fun x58 e59 => ?_)))
 refine .loadR (Φ := fun v => v = (.int .i64 x58.creditor)) 0 rfl (Fz.t l_33 l_48) hb56 e59 rfl Try.isAgg3 rfl (fun vs ⟨q0, q1, h, r0⟩ => ⟨_, by subst h; exact rfl, rfl⟩) (fun v hv => ?_)
 subst hv
 refine .eql rfl rfl rfl (.callB [] rfl Try.call50 rfl rfl rfl rfl (c_cask_need _ (x58.creditor == (-1)) 5) ?_ (fun q66 F_64 _ l_65 => (pan_postX (i := 4) rfl (Fz.t l_12 (Fz.t l_16 (Fz.t l_33 (Fz.t l_48 l_65)))))))
 rintro r_60 F_61 _ e63 l_62 rfl
 refine .pick [0, 0, 0, 0, 0] (rfl : _ = [arena Γ.g119 (C119 Γ) F_15 r_14.2, arena Γ.g92 (C92 Γ) F_15 A2, arena Γ.g117 (C117 Γ) F0 A3, arena Γ.g90 (C90 Γ) F_15 A4, R]) (.nil (.code (.region (.move rfl rfl (.fieldAddr rfl Try.underlying62 rfl Try.sizeOf3 rfl (.loadF rfl Try.isAgg3 rfl ((Fz.t l_16 (Fz.t l_33 (Fz.t l_48 l_62))).mem _ _ hb13) rfl (.nilCheckR hp57 rfl rfl ?_)))))))
 refine .fieldAddr rfl Try.underlying119 rfl Try.sizeOf3 rfl (.letv (fun x67 e68 => ?_))
 refine .letv (fun A69 e70 => ?_)
 refine .storeR (xs' := A69) (x' := { x58 with creditor := x9.To }) (us := [(.int .i64 x9.To)]) 0 rfl (Fz.t l_33 (Fz.t l_48 l_62)) Fz.r (len119 Γ) Try.sizeOf3 (hb56.mono l_62) e59 rfl rfl rfl rfl rfl rfl (fun F' vs le ⟨q0, q1, h, r0⟩ => ⟨q0, q1, by subst h; exact rfl, r0⟩) (by rw [e70, e68] <;> rfl) (.nil (.upR 1 (stays92 Γ) (Fz.t l_33 (Fz.t l_48 l_62)) rfl ?_))
 refine .upR 2 (stays117 Γ) (Fz.t l_12 (Fz.t l_16 (Fz.t l_33 (Fz.t l_48 l_62)))) rfl (.upR 3 (stays90 Γ) (Fz.t l_33 (Fz.t l_48 l_62)) rfl ?_)
 exact .endX [0, 0, 0, 0, 0] Try.results71 (.nil) rfl (Fz.t l_12 (Fz.t l_16 (Fz.t l_33 (Fz.t l_48 l_62)))) rfl
noncomputable def m_cask_book_free (A1 : List CaskCask) (A2 : List CaskBook) (A3 : List (List (Int × Bool))) (A4 : List (List (Int × (Option Nat)))) (b5 : (Option Nat)) (x9 : ApiCaskEvent) : Option (Out CaskMisfit ((List CaskCask) × (List (List (Int × Bool))) × (List (List (Int × (Option Nat)))))) :=
 bindX (m_cask_book_find A1 A2 A4 b5 x9.Cask x9.Day) (fun q23 => some (.pan q23)) fun r_14 => (r_14.1).bind fun i25 => (r_14.2[i25]?).bind fun x30 => bindX (m_cask_need (x30.creditor == x9.Person) 11) (fun q52 => some (.pan q52)) fun _r_46 => (r_14.1).bind fun i53 => (r_14.2[i53]?).bind fun x58 => bindv ({ x58 with creditor := (-1) }) fun x60 => bindv (List.set r_14.2 i53 x60) fun A62 => some (.ok (A62, A3, A4))
set_option maxHeartbeats 4000000 in
theorem c_cask_book_free (F0 : Fz) (Γ : Gam) (A1 : List CaskCask) (A2 : List CaskBook) (A3 : List (List (Int × Bool))) (A4 : List (List (Int × (Option Nat)))) (b5 : (Option Nat)) (p6 : Option Addr) (k7 : Unit) (h8 : RepPtr Γ.g92 F0 p6 b5) (x9 : ApiCaskEvent) : CTX Try.prog penc 72 [(.pointer p6), (eApiCaskEvent x9)].toArray F0 [arena Γ.g119 (C119 Γ) F0 A1, arena Γ.g92 (C92 Γ) F0 A2, arena Γ.g117 (C117 Γ) F0 A3, arena Γ.g90 (C90 Γ) F0 A4] (m_cask_book_free A1 A2 A3 A4 b5 x9) (fun (_r : (List CaskCask) × (List (List (Int × Bool))) × (List (List (Int × (Option Nat))))) _ v => v = .tuple #[]) (fun (r : (List CaskCask) × (List (List (Int × Bool))) × (List (List (Int × (Option Nat))))) F' _ => [arena Γ.g119 (C119 Γ) F' r.1, arena Γ.g92 (C92 Γ) F' A2, arena Γ.g117 (C117 Γ) F' r.2.1, arena Γ.g90 (C90 Γ) F' r.2.2]) := by
 refine CTX.enter Try.func72 rfl Try.ntmps72 rfl fun r R => ?_
 refine .norm (Sub.refl _) (rfl : _ = [arena Γ.g119 (C119 Γ) F0 A1, arena Γ.g92 (C92 Γ) F0 A2, arena Γ.g117 (C117 Γ) F0 A3, arena Γ.g90 (C90 Γ) F0 A4, R]) ?_
 unfold m_cask_book_free
 refine .seq (.region (.boxF (cs := (cApiCaskEvent x9)) rfl rfl rfl (fun b10 F_11 l_12 hb13 => ?_)))
 refine .nil (.code (.seq (.region (.move rfl rfl (.fieldAddr rfl Try.underlying62 rfl Try.sizeOf3 rfl (.loadF rfl Try.isAgg3 rfl hb13 rfl (.fieldAddr rfl Try.underlying62 rfl Try.sizeOf3 rfl (.loadF rfl Try.isAgg3 rfl hb13 rfl (.upR 0 (stays119 Γ) l_12 rfl (.upR 1 (stays92 Γ) l_12 rfl (.upR 3 (stays90 Γ) l_12 rfl ?_)))))))))))
 refine .callB [0, 0, 1] rfl Try.call84 rfl rfl rfl rfl (c_cask_book_find _ Γ A1 A2 A4 b5 p6 k7 (h8.mono l_12) x9.Cask x9.Day) ?_ (fun q23 F_21 _ l_22 => (pan_postX (i := 1) rfl (Fz.t l_12 l_22)))
 rintro r_14 F_15 _ e17 l_16 ⟨p18, k19, rfl, h20⟩
 refine .pick [0, 0, 1, 0, 0] (rfl : _ = [arena Γ.g119 (C119 Γ) F_15 r_14.2, arena Γ.g92 (C92 Γ) F_15 A2, arena Γ.g117 (C117 Γ) F0 A3, arena Γ.g90 (C90 Γ) F_15 A4, R]) (.assign rfl rfl (.nil (.code (.seq (.keep (.cons (k := 3) rfl (.cons (k := 4) rfl (.nil _))) (.bind (fun i25 e26 => ?_)))))))
 obtain ⟨b27, hb28, hp29⟩ := h20.at e26
 refine .bind (fun x30 e31 => ?_)
 refine .drawGD 6 0 (fun env24 => [((.pointer p18), fun _ => True), ((.pointer (some ⟨b27, 0, none⟩)), fun _ => True), ((.pointer (some ⟨b27, 0 + 5, none⟩)), fun _ => True), ((.int .i64 x30.creditor), fun _ => True), ((.pointer (some ⟨b10, 0 + 4, none⟩)), fun _ => True), ((.int .i64 x9.Person), fun _ => True)]) (fun L env24 => [arena Γ.g119 (C119 Γ) F_15 r_14.2, arena Γ.g92 (C92 Γ) F_15 A2, arena Γ.g117 (C117 Γ) F0 A3, arena Γ.g90 (C90 Γ) F_15 A4, R]) mixedOK (by kernel_rfl) (deepN (k := 6) (n := 8) rfl (allLt8 (p := fun t => 6 ≤ t → ∀ j, j < t → ∃ s, depB _ s t j = true) (fun h => absurd h (by decide)) (fun h => absurd h (by decide)) (fun h => absurd h (by decide)) (fun h => absurd h (by decide)) (fun h => absurd h (by decide)) (fun h => absurd h (by decide)) (fun _ => allLt6 (p := fun j => ∃ s, depB _ s 6 j = true) ⟨4, rfl⟩ ⟨3, rfl⟩ ⟨2, rfl⟩ ⟨1, rfl⟩ ⟨2, rfl⟩ ⟨1, rfl⟩) (fun _ => allLt7 (p := fun j => ∃ s, depB _ s 7 j = true) ⟨5, rfl⟩ ⟨4, rfl⟩ ⟨3, rfl⟩ ⟨2, rfl⟩ ⟨3, rfl⟩ ⟨2, rfl⟩ ⟨1, rfl⟩))) rfl (fun _ => rfl) (by kernel_rfl) (fun _ => rfl) ?_ (fun env24 F_32 l_33 hphi => ?_)
 ·skip
  refine .cons (fun L env24 F_34 l_35 hL hdn hup hphi => ⟨[(4, (.pointer p18))], fun S hS hV => (.cons (hS _ _ rfl) (Sub.nil _)), ?_⟩) ?_
  ·skip
   refine .move rfl rfl ?_
   exact .finV rfl rfl Fz.r
  refine .cons (fun L env24 F_36 l_37 hL hdn hup hphi => ⟨[(11, (.pointer p18))], fun S hS hV => (.cons (hV 0 11 _ (hdn 1 0 rfl) rfl rfl) (Sub.nil _)), ?_⟩) ?_
  ·skip
   refine .nilCheckR hp29 rfl rfl ?_
   exact .finV rfl rfl Fz.r
  refine .cons (fun L env24 F_38 l_39 hL hdn hup hphi => ⟨[(12, (.pointer (some ⟨b27, 0, none⟩)))], fun S hS hV => (.cons (hV 1 12 _ (hdn 1 1 rfl) rfl rfl) (Sub.nil _)), ?_⟩) ?_
  ·skip
   refine .fieldAddr rfl Try.underlying119 rfl Try.sizeOf3 rfl ?_
   exact .finV rfl rfl Fz.r
  refine .cons (fun L env24 F_40 l_41 hL hdn hup hphi => ⟨[(13, (.pointer (some ⟨b27, 0 + 5, none⟩)))], fun S hS hV => (.cons (hV 2 13 _ (hdn 1 2 rfl) rfl rfl) (Sub.nil _)), ?_⟩) ?_
  ·skip
   refine .loadR (Φ := fun v => v = (.int .i64 x30.creditor)) 0 rfl l_41 (hb28.mono l_41) e31 rfl Try.isAgg3 rfl (fun vs ⟨q0, q1, h, r0⟩ => ⟨_, by subst h; exact rfl, rfl⟩) (fun v hv => ?_)
   subst hv
   exact .finV rfl rfl Fz.r
  refine .cons (fun L env24 F_42 l_43 hL hdn hup hphi => ⟨[(3, (.pointer (some ⟨b10, 0, none⟩)))], fun S hS hV => (.cons (hS _ _ rfl) (Sub.nil _)), ?_⟩) ?_
  ·skip
   refine .fieldAddr rfl Try.underlying62 rfl Try.sizeOf3 rfl ?_
   exact .finV rfl rfl Fz.r
  refine .cons (fun L env24 F_44 l_45 hL hdn hup hphi => ⟨[(15, (.pointer (some ⟨b10, 0 + 4, none⟩)))], fun S hS hV => (.cons (hV 4 15 _ (hdn 1 4 rfl) rfl rfl) (Sub.nil _)), ?_⟩) ?_
  ·skip
   refine .loadF rfl Try.isAgg3 rfl ((Fz.t l_16 l_45).mem _ _ hb13) rfl ?_
   exact .finV rfl rfl Fz.r
  exact .nil
 refine .norm (S' := [(3, (.pointer (some ⟨b10, 0, none⟩))), (4, (.pointer p18)), (11, (.pointer p18)), (12, (.pointer (some ⟨b27, 0, none⟩))), (13, (.pointer (some ⟨b27, 0 + 5, none⟩))), (14, (.int .i64 x30.creditor)), (15, (.pointer (some ⟨b10, 0 + 4, none⟩))), (16, (.int .i64 x9.Person))]) (.cons (k := 3) rfl (.cons (k := 4) rfl (.cons (k := 11) rfl (.cons (k := 12) rfl (.cons (k := 13) rfl (.cons (k := 14) rfl (.cons (k := 15) rfl (.cons (k := 16) rfl (.nil _))))))))) (rfl : _ = [arena Γ.g119 (C119 Γ) F_15 r_14.2, arena Γ.g92 (C92 Γ) F_15 A2, arena Γ.g117 (C117 Γ) F0 A3, arena Γ.g90 (C90 Γ) F_15 A4, R]) ?_
 refine .eql rfl rfl rfl (.callB [] rfl Try.call50 rfl rfl rfl rfl (c_cask_need _ (x30.creditor == x9.Person) 11) ?_ (fun q52 F_50 _ l_51 => (pan_postX (i := 4) rfl (Fz.t l_12 (Fz.t l_16 (Fz.t l_33 l_51))))))
 rintro r_46 F_47 _ e49 l_48 rfl
 refine .pick [0, 0, 0, 0, 0] (rfl : _ = [arena Γ.g119 (C119 Γ) F_15 r_14.2, arena Γ.g92 (C92 Γ) F_15 A2, arena Γ.g117 (C117 Γ) F0 A3, arena Γ.g90 (C90 Γ) F_15 A4, R]) (.nil (.code (.region (.move rfl rfl (.bind (fun i53 e54 => ?_))))))
 obtain ⟨b55, hb56, hp57⟩ := (h20.mono (Fz.t l_33 l_48)).at e54
 refine .nilCheckR hp57 rfl rfl (.fieldAddr rfl Try.underlying119 rfl Try.sizeOf3 rfl (.bind (fun x58 e59 => ?_)))
 refine .letv (fun x60 e61 => ?_)
 refine .letv (fun A62 e63 => ?_)
 refine .storeR (xs' := A62) (x' := { x58 with creditor := (-1) }) (us := [(.int .i64 (-1))]) 0 rfl (Fz.t l_33 l_48) Fz.r (len119 Γ) Try.sizeOf3 hb56 e59 rfl rfl rfl rfl rfl rfl (fun F' vs le ⟨q0, q1, h, r0⟩ => ⟨q0, q1, by subst h; exact rfl, r0⟩) (by rw [e63, e61] <;> rfl) (.nil (.upR 1 (stays92 Γ) (Fz.t l_33 l_48) rfl (.upR 2 (stays117 Γ) (Fz.t l_12 (Fz.t l_16 (Fz.t l_33 l_48))) rfl ?_)))
 refine .upR 3 (stays90 Γ) (Fz.t l_33 l_48) rfl ?_
 exact .endX [0, 0, 0, 0, 0] Try.results72 (.nil) rfl (Fz.t l_12 (Fz.t l_16 (Fz.t l_33 l_48))) rfl
noncomputable def m_cask_book_char (A1 : List CaskCask) (A2 : List CaskBook) (A3 : List (List (Int × Bool))) (A4 : List (List (Int × (Option Nat)))) (b5 : (Option Nat)) (x9 : ApiCaskEvent) : Option (Out CaskMisfit ((List CaskCask) × (List (List (Int × Bool))) × (List (List (Int × (Option Nat)))))) :=
 bindX (m_cask_book_find A1 A2 A4 b5 x9.Cask x9.Day) (fun q23 => some (.pan q23)) fun r_14 => (r_14.1).bind fun i24 => (r_14.2[i24]?).bind fun x29 => bindX (m_cask_need (x29.amount == 0) 6) (fun q37 => some (.pan q37)) fun _r_31 => bindv ({ x29 with wood := x9.Where }) fun x38 => bindv (List.set r_14.2 i24 x38) fun A40 => some (.ok (A40, A3, A4))
set_option maxHeartbeats 4000000 in
theorem c_cask_book_char (F0 : Fz) (Γ : Gam) (A1 : List CaskCask) (A2 : List CaskBook) (A3 : List (List (Int × Bool))) (A4 : List (List (Int × (Option Nat)))) (b5 : (Option Nat)) (p6 : Option Addr) (k7 : Unit) (h8 : RepPtr Γ.g92 F0 p6 b5) (x9 : ApiCaskEvent) : CTX Try.prog penc 73 [(.pointer p6), (eApiCaskEvent x9)].toArray F0 [arena Γ.g119 (C119 Γ) F0 A1, arena Γ.g92 (C92 Γ) F0 A2, arena Γ.g117 (C117 Γ) F0 A3, arena Γ.g90 (C90 Γ) F0 A4] (m_cask_book_char A1 A2 A3 A4 b5 x9) (fun (_r : (List CaskCask) × (List (List (Int × Bool))) × (List (List (Int × (Option Nat))))) _ v => v = .tuple #[]) (fun (r : (List CaskCask) × (List (List (Int × Bool))) × (List (List (Int × (Option Nat))))) F' _ => [arena Γ.g119 (C119 Γ) F' r.1, arena Γ.g92 (C92 Γ) F' A2, arena Γ.g117 (C117 Γ) F' r.2.1, arena Γ.g90 (C90 Γ) F' r.2.2]) := by
 refine CTX.enter Try.func73 rfl Try.ntmps73 rfl fun r R => ?_
 refine .norm (Sub.refl _) (rfl : _ = [arena Γ.g119 (C119 Γ) F0 A1, arena Γ.g92 (C92 Γ) F0 A2, arena Γ.g117 (C117 Γ) F0 A3, arena Γ.g90 (C90 Γ) F0 A4, R]) ?_
 unfold m_cask_book_char
 refine .seq (.region (.boxF (cs := (cApiCaskEvent x9)) rfl rfl rfl (fun b10 F_11 l_12 hb13 => ?_)))
 refine .nil (.code (.seq (.region (.move rfl rfl (.fieldAddr rfl Try.underlying62 rfl Try.sizeOf3 rfl (.loadF rfl Try.isAgg3 rfl hb13 rfl (.fieldAddr rfl Try.underlying62 rfl Try.sizeOf3 rfl (.loadF rfl Try.isAgg3 rfl hb13 rfl (.upR 0 (stays119 Γ) l_12 rfl (.upR 1 (stays92 Γ) l_12 rfl (.upR 3 (stays90 Γ) l_12 rfl ?_)))))))))))
 refine .callB [0, 0, 1] rfl Try.call84 rfl rfl rfl rfl (c_cask_book_find _ Γ A1 A2 A4 b5 p6 k7 (h8.mono l_12) x9.Cask x9.Day) ?_ (fun q23 F_21 _ l_22 => (pan_postX (i := 1) rfl (Fz.t l_12 l_22)))
 rintro r_14 F_15 _ e17 l_16 ⟨p18, k19, rfl, h20⟩
 refine .pick [0, 0, 1, 0, 0] (rfl : _ = [arena Γ.g119 (C119 Γ) F_15 r_14.2, arena Γ.g92 (C92 Γ) F_15 A2, arena Γ.g117 (C117 Γ) F0 A3, arena Γ.g90 (C90 Γ) F_15 A4, R]) (.assign rfl rfl (.nil (.code (.seq (.region (.move rfl rfl (.bind (fun i24 e25 => ?_))))))))
 obtain ⟨b26, hb27, hp28⟩ := h20.at e25
 refine .nilCheckR hp28 rfl rfl (.fieldAddr rfl Try.underlying119 rfl Try.sizeOf3 rfl (.bind (fun x29 e30 => ?_)))
 refine .loadR (Φ := fun v => v = (.int .i64 x29.amount)) 0 rfl Fz.r hb27 e30 rfl Try.isAgg3 rfl (fun vs ⟨q0, q1, h, r0⟩ => ⟨_, by subst h; exact rfl, rfl⟩) (fun v hv => ?_)
 subst hv
 refine .eql rfl rfl rfl (.callB [] rfl Try.call50 rfl rfl rfl rfl (c_cask_need _ (x29.amount == 0) 6) ?_ (fun q37 F_35 _ l_36 => (pan_postX (i := 4) rfl (Fz.t l_12 (Fz.t l_16 l_36)))))
 rintro r_31 F_32 _ e34 l_33 rfl
 refine .pick [0, 0, 0, 0, 0] (rfl : _ = [arena Γ.g119 (C119 Γ) F_15 r_14.2, arena Γ.g92 (C92 Γ) F_15 A2, arena Γ.g117 (C117 Γ) F0 A3, arena Γ.g90 (C90 Γ) F_15 A4, R]) (.nil (.code (.region (.move rfl rfl (.fieldAddr rfl Try.underlying62 rfl Try.sizeOf3 rfl (.loadF rfl Try.isAgg3 rfl ((Fz.t l_16 l_33).mem _ _ hb13) rfl (.nilCheckR hp28 rfl rfl (.fieldAddr rfl Try.underlying119 rfl Try.sizeOf3 rfl ?_))))))))
 refine .letv (fun x38 e39 => ?_)
 refine .letv (fun A40 e41 => ?_)
 refine .storeR (xs' := A40) (x' := { x29 with wood := x9.Where }) (us := [(.int .i64 x9.Where)]) 0 rfl l_33 Fz.r (len119 Γ) Try.sizeOf3 (hb27.mono l_33) e30 rfl rfl rfl rfl rfl rfl (fun F' vs le ⟨q0, q1, h, r0⟩ => ⟨q0, q1, by subst h; exact rfl, r0⟩) (by rw [e41, e39] <;> rfl) (.nil (.upR 1 (stays92 Γ) l_33 rfl (.upR 2 (stays117 Γ) (Fz.t l_12 (Fz.t l_16 l_33)) rfl (.upR 3 (stays90 Γ) l_33 rfl ?_))))
 exact .endX [0, 0, 0, 0, 0] Try.results73 (.nil) rfl (Fz.t l_12 (Fz.t l_16 l_33)) rfl
noncomputable def m_cask_deeds  : Option (List (Int × (((List CaskCask) × (List CaskBook) × (List (List (Int × Bool))) × (List (List (Int × (Option Nat)))) × (Option Nat) × ApiCaskEvent) → Option (Out CaskMisfit ((List CaskCask) × (List (List (Int × Bool))) × (List (List (Int × (Option Nat))))))))) :=
 bindv (mapSet ([]) (0 : Int) (fun (x : ((List CaskCask) × (List CaskBook) × (List (List (Int × Bool))) × (List (List (Int × (Option Nat)))) × (Option Nat) × ApiCaskEvent)) => m_cask_book_build x.1 x.2.1 x.2.2.1 x.2.2.2.1 x.2.2.2.2.1 x.2.2.2.2.2)) fun m_4 => bindv (mapSet m_4 (1 : Int) (fun (x : ((List CaskCask) × (List CaskBook) × (List (List (Int × Bool))) × (List (List (Int × (Option Nat)))) × (Option Nat) × ApiCaskEvent)) => m_cask_book_fill x.1 x.2.1 x.2.2.1 x.2.2.2.1 x.2.2.2.2.1 x.2.2.2.2.2)) fun m_7 => bindv (mapSet m_7 (2 : Int) (fun (x : ((List CaskCask) × (List CaskBook) × (List (List (Int × Bool))) × (List (List (Int × (Option Nat)))) × (Option Nat) × ApiCaskEvent)) => m_cask_book_rack x.1 x.2.1 x.2.2.1 x.2.2.2.1 x.2.2.2.2.1 x.2.2.2.2.2)) fun m_10 => bindv (mapSet m_10 (3 : Int) (fun (x : ((List CaskCask) × (List CaskBook) × (List (List (Int × Bool))) × (List (List (Int × (Option Nat)))) × (Option Nat) × ApiCaskEvent)) => m_cask_book_drain x.1 x.2.1 x.2.2.1 x.2.2.2.1 x.2.2.2.2.1 x.2.2.2.2.2)) fun m_13 => bindv (mapSet m_13 (4 : Int) (fun (x : ((List CaskCask) × (List CaskBook) × (List (List (Int × Bool))) × (List (List (Int × (Option Nat)))) × (Option Nat) × ApiCaskEvent)) => m_cask_book_carry x.1 x.2.1 x.2.2.1 x.2.2.2.1 x.2.2.2.2.1 x.2.2.2.2.2)) fun m_16 => bindv (mapSet m_16 (5 : Int) (fun (x : ((List CaskCask) × (List CaskBook) × (List (List (Int × Bool))) × (List (List (Int × (Option Nat)))) × (Option Nat) × ApiCaskEvent)) => m_cask_book_sell x.1 x.2.1 x.2.2.1 x.2.2.2.1 x.2.2.2.2.1 x.2.2.2.2.2)) fun m_19 => bindv (mapSet m_19 (6 : Int) (fun (x : ((List CaskCask) × (List CaskBook) × (List (List (Int × Bool))) × (List (List (Int × (Option Nat)))) × (Option Nat) × ApiCaskEvent)) => m_cask_book_pledge x.1 x.2.1 x.2.2.1 x.2.2.2.1 x.2.2.2.2.1 x.2.2.2.2.2)) fun m_22 => bindv (mapSet m_22 (7 : Int) (fun (x : ((List CaskCask) × (List CaskBook) × (List (List (Int × Bool))) × (List (List (Int × (Option Nat)))) × (Option Nat) × ApiCaskEvent)) => m_cask_book_free x.1 x.2.1 x.2.2.1 x.2.2.2.1 x.2.2.2.2.1 x.2.2.2.2.2)) fun m_25 => bindv (mapSet m_25 (8 : Int) (fun (x : ((List CaskCask) × (List CaskBook) × (List (List (Int × Bool))) × (List (List (Int × (Option Nat)))) × (Option Nat) × ApiCaskEvent)) => m_cask_book_char x.1 x.2.1 x.2.2.1 x.2.2.2.1 x.2.2.2.2.1 x.2.2.2.2.2)) fun m_28 => some m_28
theorem c_cask_deeds (F0 : Fz) (Γ : Gam) : CT0 Try.prog 49 [].toArray F0 (m_cask_deeds) (fun r F v => ∃ (p0 : Nat) (_k0 : Unit), v = (.map (some p0)) ∧ RepMapF (fun x : Int => (.int .i64 x)) (fun F (x : (((List CaskCask) × (List CaskBook) × (List (List (Int × Bool))) × (List (List (Int × (Option Nat)))) × (Option Nat) × ApiCaskEvent) → Option (Out CaskMisfit ((List CaskCask) × (List (List (Int × Bool))) × (List (List (Int × (Option Nat)))))))) v => ∃ (p0 : FuncId) (k0 : List Value × List Value), v = (.func (.func p0) k0.1.toArray k0.2.toArray) ∧ RepFnX Try.prog penc F p0 k0 (fun (x : ((List CaskCask) × (List CaskBook) × (List (List (Int × Bool))) × (List (List (Int × (Option Nat)))) × (Option Nat) × ApiCaskEvent)) F vs => ∃ (p0 : Option Addr) (_k0 : Unit), vs = [(.pointer p0), (eApiCaskEvent x.2.2.2.2.2)] ∧ RepPtr Γ.g92 F p0 x.2.2.2.2.1) (fun F (x : ((List CaskCask) × (List CaskBook) × (List (List (Int × Bool))) × (List (List (Int × (Option Nat)))) × (Option Nat) × ApiCaskEvent)) => [arena Γ.g119 (C119 Γ) F x.1, arena Γ.g92 (C92 Γ) F x.2.1, arena Γ.g117 (C117 Γ) F x.2.2.1, arena Γ.g90 (C90 Γ) F x.2.2.2.1]) (fun (_r : (List CaskCask) × (List (List (Int × Bool))) × (List (List (Int × (Option Nat))))) _ v => v = .tuple #[]) (fun F (x : ((List CaskCask) × (List CaskBook) × (List (List (Int × Bool))) × (List (List (Int × (Option Nat)))) × (Option Nat) × ApiCaskEvent)) (r : (List CaskCask) × (List (List (Int × Bool))) × (List (List (Int × (Option Nat))))) => [arena Γ.g119 (C119 Γ) F r.1, arena Γ.g92 (C92 Γ) F x.2.1, arena Γ.g117 (C117 Γ) F r.2.1, arena Γ.g90 (C90 Γ) F r.2.2]) x) F p0 r) := by
 refine CT0.enter Try.func49 rfl Try.ntmps49 rfl fun r R => ?_
 unfold m_cask_deeds
 refine .seq (.region (.assign rfl rfl (.nil (.code (.seq (.region ?_))))))
 refine .makeMapP (fun x : Int => (.int .i64 x)) (fun F (x : (((List CaskCask) × (List CaskBook) × (List (List (Int × Bool))) × (List (List (Int × (Option Nat)))) × (Option Nat) × ApiCaskEvent) → Option (Out CaskMisfit ((List CaskCask) × (List (List (Int × Bool))) × (List (List (Int × (Option Nat)))))))) v => ∃ (p0 : FuncId) (k0 : List Value × List Value), v = (.func (.func p0) k0.1.toArray k0.2.toArray) ∧ RepFnX Try.prog penc F p0 k0 (fun (x : ((List CaskCask) × (List CaskBook) × (List (List (Int × Bool))) × (List (List (Int × (Option Nat)))) × (Option Nat) × ApiCaskEvent)) F vs => ∃ (p0 : Option Addr) (k0 : Unit), vs = [(.pointer p0), (eApiCaskEvent x.2.2.2.2.2)] ∧ RepPtr Γ.g92 F p0 x.2.2.2.2.1) (fun F (x : ((List CaskCask) × (List CaskBook) × (List (List (Int × Bool))) × (List (List (Int × (Option Nat)))) × (Option Nat) × ApiCaskEvent)) => [arena Γ.g119 (C119 Γ) F x.1, arena Γ.g92 (C92 Γ) F x.2.1, arena Γ.g117 (C117 Γ) F x.2.2.1, arena Γ.g90 (C90 Γ) F x.2.2.2.1]) (fun (r : (List CaskCask) × (List (List (Int × Bool))) × (List (List (Int × (Option Nat))))) _ v => v = .tuple #[]) (fun F (x : ((List CaskCask) × (List CaskBook) × (List (List (Int × Bool))) × (List (List (Int × (Option Nat)))) × (Option Nat) × ApiCaskEvent)) (r : (List CaskCask) × (List (List (Int × Bool))) × (List (List (Int × (Option Nat))))) => [arena Γ.g119 (C119 Γ) F r.1, arena Γ.g92 (C92 Γ) F x.2.1, arena Γ.g117 (C117 Γ) F r.2.1, arena Γ.g90 (C90 Γ) F r.2.2]) x) rfl (fun b1 => ?_)
 have hf3 : RepFnX Try.prog penc F0 65 ([], []) (fun (x : ((List CaskCask) × (List CaskBook) × (List (List (Int × Bool))) × (List (List (Int × (Option Nat)))) × (Option Nat) × ApiCaskEvent)) F vs => ∃ (p0 : Option Addr) (k0 : Unit), vs = [(.pointer p0), (eApiCaskEvent x.2.2.2.2.2)] ∧ RepPtr Γ.g92 F p0 x.2.2.2.2.1) (fun F (x : ((List CaskCask) × (List CaskBook) × (List (List (Int × Bool))) × (List (List (Int × (Option Nat)))) × (Option Nat) × ApiCaskEvent)) => [arena Γ.g119 (C119 Γ) F x.1, arena Γ.g92 (C92 Γ) F x.2.1, arena Γ.g117 (C117 Γ) F x.2.2.1, arena Γ.g90 (C90 Γ) F x.2.2.2.1]) (fun (r : (List CaskCask) × (List (List (Int × Bool))) × (List (List (Int × (Option Nat))))) _ v => v = .tuple #[]) (fun F (x : ((List CaskCask) × (List CaskBook) × (List (List (Int × Bool))) × (List (List (Int × (Option Nat)))) × (Option Nat) × ApiCaskEvent)) (r : (List CaskCask) × (List (List (Int × Bool))) × (List (List (Int × (Option Nat))))) => [arena Γ.g119 (C119 Γ) F r.1, arena Γ.g92 (C92 Γ) F x.2.1, arena Γ.g117 (C117 Γ) F r.2.1, arena Γ.g90 (C90 Γ) F r.2.2]) (fun (x : ((List CaskCask) × (List CaskBook) × (List (List (Int × Bool))) × (List (List (Int × (Option Nat)))) × (Option Nat) × ApiCaskEvent)) => m_cask_book_build x.1 x.2.1 x.2.2.1 x.2.2.2.1 x.2.2.2.2.1 x.2.2.2.2.2) := ⟨Try.call65, fun F' le' x vs hv => by obtain ⟨pp0, kk0, rfl, hq0⟩ := hv; exact c_cask_book_build F' _ x.1 x.2.1 x.2.2.1 x.2.2.2.1 x.2.2.2.2.1 pp0 kk0 hq0 x.2.2.2.2.2⟩
 refine .letv (fun m_4 e5 => ?_)
 refine .insertO (key := (0 : Int)) (val := (fun (x : ((List CaskCask) × (List CaskBook) × (List (List (Int × Bool))) × (List (List (Int × (Option Nat)))) × (Option Nat) × ApiCaskEvent)) => m_cask_book_build x.1 x.2.1 x.2.2.1 x.2.2.2.1 x.2.2.2.2.1 x.2.2.2.2.2)) 0 rfl Fz.r Try.underlying106 (.int Try.underlying3) rfl rfl rfl (fun _ l => ⟨65, ([], []), rfl, (hf3).mono l⟩) e5 ?_
 have hf6 : RepFnX Try.prog penc F0 66 ([], []) (fun (x : ((List CaskCask) × (List CaskBook) × (List (List (Int × Bool))) × (List (List (Int × (Option Nat)))) × (Option Nat) × ApiCaskEvent)) F vs => ∃ (p0 : Option Addr) (k0 : Unit), vs = [(.pointer p0), (eApiCaskEvent x.2.2.2.2.2)] ∧ RepPtr Γ.g92 F p0 x.2.2.2.2.1) (fun F (x : ((List CaskCask) × (List CaskBook) × (List (List (Int × Bool))) × (List (List (Int × (Option Nat)))) × (Option Nat) × ApiCaskEvent)) => [arena Γ.g119 (C119 Γ) F x.1, arena Γ.g92 (C92 Γ) F x.2.1, arena Γ.g117 (C117 Γ) F x.2.2.1, arena Γ.g90 (C90 Γ) F x.2.2.2.1]) (fun (r : (List CaskCask) × (List (List (Int × Bool))) × (List (List (Int × (Option Nat))))) _ v => v = .tuple #[]) (fun F (x : ((List CaskCask) × (List CaskBook) × (List (List (Int × Bool))) × (List (List (Int × (Option Nat)))) × (Option Nat) × ApiCaskEvent)) (r : (List CaskCask) × (List (List (Int × Bool))) × (List (List (Int × (Option Nat))))) => [arena Γ.g119 (C119 Γ) F r.1, arena Γ.g92 (C92 Γ) F x.2.1, arena Γ.g117 (C117 Γ) F r.2.1, arena Γ.g90 (C90 Γ) F r.2.2]) (fun (x : ((List CaskCask) × (List CaskBook) × (List (List (Int × Bool))) × (List (List (Int × (Option Nat)))) × (Option Nat) × ApiCaskEvent)) => m_cask_book_fill x.1 x.2.1 x.2.2.1 x.2.2.2.1 x.2.2.2.2.1 x.2.2.2.2.2) := ⟨Try.call66, fun F' le' x vs hv => by obtain ⟨pp0, kk0, rfl, hq0⟩ := hv; exact c_cask_book_fill F' _ x.1 x.2.1 x.2.2.1 x.2.2.2.1 x.2.2.2.2.1 pp0 kk0 hq0 x.2.2.2.2.2⟩
 refine .letv (fun m_7 e8 => ?_)
 refine .insertO (key := (1 : Int)) (val := (fun (x : ((List CaskCask) × (List CaskBook) × (List (List (Int × Bool))) × (List (List (Int × (Option Nat)))) × (Option Nat) × ApiCaskEvent)) => m_cask_book_fill x.1 x.2.1 x.2.2.1 x.2.2.2.1 x.2.2.2.2.1 x.2.2.2.2.2)) 0 rfl Fz.r Try.underlying106 (.int Try.underlying3) rfl rfl rfl (fun _ l => ⟨66, ([], []), rfl, (hf6).mono l⟩) e8 ?_
 have hf9 : RepFnX Try.prog penc F0 67 ([], []) (fun (x : ((List CaskCask) × (List CaskBook) × (List (List (Int × Bool))) × (List (List (Int × (Option Nat)))) × (Option Nat) × ApiCaskEvent)) F vs => ∃ (p0 : Option Addr) (k0 : Unit), vs = [(.pointer p0), (eApiCaskEvent x.2.2.2.2.2)] ∧ RepPtr Γ.g92 F p0 x.2.2.2.2.1) (fun F (x : ((List CaskCask) × (List CaskBook) × (List (List (Int × Bool))) × (List (List (Int × (Option Nat)))) × (Option Nat) × ApiCaskEvent)) => [arena Γ.g119 (C119 Γ) F x.1, arena Γ.g92 (C92 Γ) F x.2.1, arena Γ.g117 (C117 Γ) F x.2.2.1, arena Γ.g90 (C90 Γ) F x.2.2.2.1]) (fun (r : (List CaskCask) × (List (List (Int × Bool))) × (List (List (Int × (Option Nat))))) _ v => v = .tuple #[]) (fun F (x : ((List CaskCask) × (List CaskBook) × (List (List (Int × Bool))) × (List (List (Int × (Option Nat)))) × (Option Nat) × ApiCaskEvent)) (r : (List CaskCask) × (List (List (Int × Bool))) × (List (List (Int × (Option Nat))))) => [arena Γ.g119 (C119 Γ) F r.1, arena Γ.g92 (C92 Γ) F x.2.1, arena Γ.g117 (C117 Γ) F r.2.1, arena Γ.g90 (C90 Γ) F r.2.2]) (fun (x : ((List CaskCask) × (List CaskBook) × (List (List (Int × Bool))) × (List (List (Int × (Option Nat)))) × (Option Nat) × ApiCaskEvent)) => m_cask_book_rack x.1 x.2.1 x.2.2.1 x.2.2.2.1 x.2.2.2.2.1 x.2.2.2.2.2) := ⟨Try.call67, fun F' le' x vs hv => by obtain ⟨pp0, kk0, rfl, hq0⟩ := hv; exact c_cask_book_rack F' _ x.1 x.2.1 x.2.2.1 x.2.2.2.1 x.2.2.2.2.1 pp0 kk0 hq0 x.2.2.2.2.2⟩
 refine .letv (fun m_10 e11 => ?_)
 refine .insertO (key := (2 : Int)) (val := (fun (x : ((List CaskCask) × (List CaskBook) × (List (List (Int × Bool))) × (List (List (Int × (Option Nat)))) × (Option Nat) × ApiCaskEvent)) => m_cask_book_rack x.1 x.2.1 x.2.2.1 x.2.2.2.1 x.2.2.2.2.1 x.2.2.2.2.2)) 0 rfl Fz.r Try.underlying106 (.int Try.underlying3) rfl rfl rfl (fun _ l => ⟨67, ([], []), rfl, (hf9).mono l⟩) e11 ?_
 have hf12 : RepFnX Try.prog penc F0 68 ([], []) (fun (x : ((List CaskCask) × (List CaskBook) × (List (List (Int × Bool))) × (List (List (Int × (Option Nat)))) × (Option Nat) × ApiCaskEvent)) F vs => ∃ (p0 : Option Addr) (k0 : Unit), vs = [(.pointer p0), (eApiCaskEvent x.2.2.2.2.2)] ∧ RepPtr Γ.g92 F p0 x.2.2.2.2.1) (fun F (x : ((List CaskCask) × (List CaskBook) × (List (List (Int × Bool))) × (List (List (Int × (Option Nat)))) × (Option Nat) × ApiCaskEvent)) => [arena Γ.g119 (C119 Γ) F x.1, arena Γ.g92 (C92 Γ) F x.2.1, arena Γ.g117 (C117 Γ) F x.2.2.1, arena Γ.g90 (C90 Γ) F x.2.2.2.1]) (fun (r : (List CaskCask) × (List (List (Int × Bool))) × (List (List (Int × (Option Nat))))) _ v => v = .tuple #[]) (fun F (x : ((List CaskCask) × (List CaskBook) × (List (List (Int × Bool))) × (List (List (Int × (Option Nat)))) × (Option Nat) × ApiCaskEvent)) (r : (List CaskCask) × (List (List (Int × Bool))) × (List (List (Int × (Option Nat))))) => [arena Γ.g119 (C119 Γ) F r.1, arena Γ.g92 (C92 Γ) F x.2.1, arena Γ.g117 (C117 Γ) F r.2.1, arena Γ.g90 (C90 Γ) F r.2.2]) (fun (x : ((List CaskCask) × (List CaskBook) × (List (List (Int × Bool))) × (List (List (Int × (Option Nat)))) × (Option Nat) × ApiCaskEvent)) => m_cask_book_drain x.1 x.2.1 x.2.2.1 x.2.2.2.1 x.2.2.2.2.1 x.2.2.2.2.2) := ⟨Try.call68, fun F' le' x vs hv => by obtain ⟨pp0, kk0, rfl, hq0⟩ := hv; exact c_cask_book_drain F' _ x.1 x.2.1 x.2.2.1 x.2.2.2.1 x.2.2.2.2.1 pp0 kk0 hq0 x.2.2.2.2.2⟩
 refine .letv (fun m_13 e14 => ?_)
 refine .insertO (key := (3 : Int)) (val := (fun (x : ((List CaskCask) × (List CaskBook) × (List (List (Int × Bool))) × (List (List (Int × (Option Nat)))) × (Option Nat) × ApiCaskEvent)) => m_cask_book_drain x.1 x.2.1 x.2.2.1 x.2.2.2.1 x.2.2.2.2.1 x.2.2.2.2.2)) 0 rfl Fz.r Try.underlying106 (.int Try.underlying3) rfl rfl rfl (fun _ l => ⟨68, ([], []), rfl, (hf12).mono l⟩) e14 ?_
 have hf15 : RepFnX Try.prog penc F0 69 ([], []) (fun (x : ((List CaskCask) × (List CaskBook) × (List (List (Int × Bool))) × (List (List (Int × (Option Nat)))) × (Option Nat) × ApiCaskEvent)) F vs => ∃ (p0 : Option Addr) (k0 : Unit), vs = [(.pointer p0), (eApiCaskEvent x.2.2.2.2.2)] ∧ RepPtr Γ.g92 F p0 x.2.2.2.2.1) (fun F (x : ((List CaskCask) × (List CaskBook) × (List (List (Int × Bool))) × (List (List (Int × (Option Nat)))) × (Option Nat) × ApiCaskEvent)) => [arena Γ.g119 (C119 Γ) F x.1, arena Γ.g92 (C92 Γ) F x.2.1, arena Γ.g117 (C117 Γ) F x.2.2.1, arena Γ.g90 (C90 Γ) F x.2.2.2.1]) (fun (r : (List CaskCask) × (List (List (Int × Bool))) × (List (List (Int × (Option Nat))))) _ v => v = .tuple #[]) (fun F (x : ((List CaskCask) × (List CaskBook) × (List (List (Int × Bool))) × (List (List (Int × (Option Nat)))) × (Option Nat) × ApiCaskEvent)) (r : (List CaskCask) × (List (List (Int × Bool))) × (List (List (Int × (Option Nat))))) => [arena Γ.g119 (C119 Γ) F r.1, arena Γ.g92 (C92 Γ) F x.2.1, arena Γ.g117 (C117 Γ) F r.2.1, arena Γ.g90 (C90 Γ) F r.2.2]) (fun (x : ((List CaskCask) × (List CaskBook) × (List (List (Int × Bool))) × (List (List (Int × (Option Nat)))) × (Option Nat) × ApiCaskEvent)) => m_cask_book_carry x.1 x.2.1 x.2.2.1 x.2.2.2.1 x.2.2.2.2.1 x.2.2.2.2.2) := ⟨Try.call69, fun F' le' x vs hv => by obtain ⟨pp0, kk0, rfl, hq0⟩ := hv; exact c_cask_book_carry F' _ x.1 x.2.1 x.2.2.1 x.2.2.2.1 x.2.2.2.2.1 pp0 kk0 hq0 x.2.2.2.2.2⟩
 refine .letv (fun m_16 e17 => ?_)
 refine .insertO (key := (4 : Int)) (val := (fun (x : ((List CaskCask) × (List CaskBook) × (List (List (Int × Bool))) × (List (List (Int × (Option Nat)))) × (Option Nat) × ApiCaskEvent)) => m_cask_book_carry x.1 x.2.1 x.2.2.1 x.2.2.2.1 x.2.2.2.2.1 x.2.2.2.2.2)) 0 rfl Fz.r Try.underlying106 (.int Try.underlying3) rfl rfl rfl (fun _ l => ⟨69, ([], []), rfl, (hf15).mono l⟩) e17 ?_
 have hf18 : RepFnX Try.prog penc F0 70 ([], []) (fun (x : ((List CaskCask) × (List CaskBook) × (List (List (Int × Bool))) × (List (List (Int × (Option Nat)))) × (Option Nat) × ApiCaskEvent)) F vs => ∃ (p0 : Option Addr) (k0 : Unit), vs = [(.pointer p0), (eApiCaskEvent x.2.2.2.2.2)] ∧ RepPtr Γ.g92 F p0 x.2.2.2.2.1) (fun F (x : ((List CaskCask) × (List CaskBook) × (List (List (Int × Bool))) × (List (List (Int × (Option Nat)))) × (Option Nat) × ApiCaskEvent)) => [arena Γ.g119 (C119 Γ) F x.1, arena Γ.g92 (C92 Γ) F x.2.1, arena Γ.g117 (C117 Γ) F x.2.2.1, arena Γ.g90 (C90 Γ) F x.2.2.2.1]) (fun (r : (List CaskCask) × (List (List (Int × Bool))) × (List (List (Int × (Option Nat))))) _ v => v = .tuple #[]) (fun F (x : ((List CaskCask) × (List CaskBook) × (List (List (Int × Bool))) × (List (List (Int × (Option Nat)))) × (Option Nat) × ApiCaskEvent)) (r : (List CaskCask) × (List (List (Int × Bool))) × (List (List (Int × (Option Nat))))) => [arena Γ.g119 (C119 Γ) F r.1, arena Γ.g92 (C92 Γ) F x.2.1, arena Γ.g117 (C117 Γ) F r.2.1, arena Γ.g90 (C90 Γ) F r.2.2]) (fun (x : ((List CaskCask) × (List CaskBook) × (List (List (Int × Bool))) × (List (List (Int × (Option Nat)))) × (Option Nat) × ApiCaskEvent)) => m_cask_book_sell x.1 x.2.1 x.2.2.1 x.2.2.2.1 x.2.2.2.2.1 x.2.2.2.2.2) := ⟨Try.call70, fun F' le' x vs hv => by obtain ⟨pp0, kk0, rfl, hq0⟩ := hv; exact c_cask_book_sell F' _ x.1 x.2.1 x.2.2.1 x.2.2.2.1 x.2.2.2.2.1 pp0 kk0 hq0 x.2.2.2.2.2⟩
 refine .letv (fun m_19 e20 => ?_)
 refine .insertO (key := (5 : Int)) (val := (fun (x : ((List CaskCask) × (List CaskBook) × (List (List (Int × Bool))) × (List (List (Int × (Option Nat)))) × (Option Nat) × ApiCaskEvent)) => m_cask_book_sell x.1 x.2.1 x.2.2.1 x.2.2.2.1 x.2.2.2.2.1 x.2.2.2.2.2)) 0 rfl Fz.r Try.underlying106 (.int Try.underlying3) rfl rfl rfl (fun _ l => ⟨70, ([], []), rfl, (hf18).mono l⟩) e20 ?_
 have hf21 : RepFnX Try.prog penc F0 71 ([], []) (fun (x : ((List CaskCask) × (List CaskBook) × (List (List (Int × Bool))) × (List (List (Int × (Option Nat)))) × (Option Nat) × ApiCaskEvent)) F vs => ∃ (p0 : Option Addr) (k0 : Unit), vs = [(.pointer p0), (eApiCaskEvent x.2.2.2.2.2)] ∧ RepPtr Γ.g92 F p0 x.2.2.2.2.1) (fun F (x : ((List CaskCask) × (List CaskBook) × (List (List (Int × Bool))) × (List (List (Int × (Option Nat)))) × (Option Nat) × ApiCaskEvent)) => [arena Γ.g119 (C119 Γ) F x.1, arena Γ.g92 (C92 Γ) F x.2.1, arena Γ.g117 (C117 Γ) F x.2.2.1, arena Γ.g90 (C90 Γ) F x.2.2.2.1]) (fun (r : (List CaskCask) × (List (List (Int × Bool))) × (List (List (Int × (Option Nat))))) _ v => v = .tuple #[]) (fun F (x : ((List CaskCask) × (List CaskBook) × (List (List (Int × Bool))) × (List (List (Int × (Option Nat)))) × (Option Nat) × ApiCaskEvent)) (r : (List CaskCask) × (List (List (Int × Bool))) × (List (List (Int × (Option Nat))))) => [arena Γ.g119 (C119 Γ) F r.1, arena Γ.g92 (C92 Γ) F x.2.1, arena Γ.g117 (C117 Γ) F r.2.1, arena Γ.g90 (C90 Γ) F r.2.2]) (fun (x : ((List CaskCask) × (List CaskBook) × (List (List (Int × Bool))) × (List (List (Int × (Option Nat)))) × (Option Nat) × ApiCaskEvent)) => m_cask_book_pledge x.1 x.2.1 x.2.2.1 x.2.2.2.1 x.2.2.2.2.1 x.2.2.2.2.2) := ⟨Try.call71, fun F' le' x vs hv => by obtain ⟨pp0, kk0, rfl, hq0⟩ := hv; exact c_cask_book_pledge F' _ x.1 x.2.1 x.2.2.1 x.2.2.2.1 x.2.2.2.2.1 pp0 kk0 hq0 x.2.2.2.2.2⟩
 refine .letv (fun m_22 e23 => ?_)
 refine .insertO (key := (6 : Int)) (val := (fun (x : ((List CaskCask) × (List CaskBook) × (List (List (Int × Bool))) × (List (List (Int × (Option Nat)))) × (Option Nat) × ApiCaskEvent)) => m_cask_book_pledge x.1 x.2.1 x.2.2.1 x.2.2.2.1 x.2.2.2.2.1 x.2.2.2.2.2)) 0 rfl Fz.r Try.underlying106 (.int Try.underlying3) rfl rfl rfl (fun _ l => ⟨71, ([], []), rfl, (hf21).mono l⟩) e23 ?_
 have hf24 : RepFnX Try.prog penc F0 72 ([], []) (fun (x : ((List CaskCask) × (List CaskBook) × (List (List (Int × Bool))) × (List (List (Int × (Option Nat)))) × (Option Nat) × ApiCaskEvent)) F vs => ∃ (p0 : Option Addr) (k0 : Unit), vs = [(.pointer p0), (eApiCaskEvent x.2.2.2.2.2)] ∧ RepPtr Γ.g92 F p0 x.2.2.2.2.1) (fun F (x : ((List CaskCask) × (List CaskBook) × (List (List (Int × Bool))) × (List (List (Int × (Option Nat)))) × (Option Nat) × ApiCaskEvent)) => [arena Γ.g119 (C119 Γ) F x.1, arena Γ.g92 (C92 Γ) F x.2.1, arena Γ.g117 (C117 Γ) F x.2.2.1, arena Γ.g90 (C90 Γ) F x.2.2.2.1]) (fun (r : (List CaskCask) × (List (List (Int × Bool))) × (List (List (Int × (Option Nat))))) _ v => v = .tuple #[]) (fun F (x : ((List CaskCask) × (List CaskBook) × (List (List (Int × Bool))) × (List (List (Int × (Option Nat)))) × (Option Nat) × ApiCaskEvent)) (r : (List CaskCask) × (List (List (Int × Bool))) × (List (List (Int × (Option Nat))))) => [arena Γ.g119 (C119 Γ) F r.1, arena Γ.g92 (C92 Γ) F x.2.1, arena Γ.g117 (C117 Γ) F r.2.1, arena Γ.g90 (C90 Γ) F r.2.2]) (fun (x : ((List CaskCask) × (List CaskBook) × (List (List (Int × Bool))) × (List (List (Int × (Option Nat)))) × (Option Nat) × ApiCaskEvent)) => m_cask_book_free x.1 x.2.1 x.2.2.1 x.2.2.2.1 x.2.2.2.2.1 x.2.2.2.2.2) := ⟨Try.call72, fun F' le' x vs hv => by obtain ⟨pp0, kk0, rfl, hq0⟩ := hv; exact c_cask_book_free F' _ x.1 x.2.1 x.2.2.1 x.2.2.2.1 x.2.2.2.2.1 pp0 kk0 hq0 x.2.2.2.2.2⟩
 refine .letv (fun m_25 e26 => ?_)
 refine .insertO (key := (7 : Int)) (val := (fun (x : ((List CaskCask) × (List CaskBook) × (List (List (Int × Bool))) × (List (List (Int × (Option Nat)))) × (Option Nat) × ApiCaskEvent)) => m_cask_book_free x.1 x.2.1 x.2.2.1 x.2.2.2.1 x.2.2.2.2.1 x.2.2.2.2.2)) 0 rfl Fz.r Try.underlying106 (.int Try.underlying3) rfl rfl rfl (fun _ l => ⟨72, ([], []), rfl, (hf24).mono l⟩) e26 ?_
 have hf27 : RepFnX Try.prog penc F0 73 ([], []) (fun (x : ((List CaskCask) × (List CaskBook) × (List (List (Int × Bool))) × (List (List (Int × (Option Nat)))) × (Option Nat) × ApiCaskEvent)) F vs => ∃ (p0 : Option Addr) (k0 : Unit), vs = [(.pointer p0), (eApiCaskEvent x.2.2.2.2.2)] ∧ RepPtr Γ.g92 F p0 x.2.2.2.2.1) (fun F (x : ((List CaskCask) × (List CaskBook) × (List (List (Int × Bool))) × (List (List (Int × (Option Nat)))) × (Option Nat) × ApiCaskEvent)) => [arena Γ.g119 (C119 Γ) F x.1, arena Γ.g92 (C92 Γ) F x.2.1, arena Γ.g117 (C117 Γ) F x.2.2.1, arena Γ.g90 (C90 Γ) F x.2.2.2.1]) (fun (r : (List CaskCask) × (List (List (Int × Bool))) × (List (List (Int × (Option Nat))))) _ v => v = .tuple #[]) (fun F (x : ((List CaskCask) × (List CaskBook) × (List (List (Int × Bool))) × (List (List (Int × (Option Nat)))) × (Option Nat) × ApiCaskEvent)) (r : (List CaskCask) × (List (List (Int × Bool))) × (List (List (Int × (Option Nat))))) => [arena Γ.g119 (C119 Γ) F r.1, arena Γ.g92 (C92 Γ) F x.2.1, arena Γ.g117 (C117 Γ) F r.2.1, arena Γ.g90 (C90 Γ) F r.2.2]) (fun (x : ((List CaskCask) × (List CaskBook) × (List (List (Int × Bool))) × (List (List (Int × (Option Nat)))) × (Option Nat) × ApiCaskEvent)) => m_cask_book_char x.1 x.2.1 x.2.2.1 x.2.2.2.1 x.2.2.2.2.1 x.2.2.2.2.2) := ⟨Try.call73, fun F' le' x vs hv => by obtain ⟨pp0, kk0, rfl, hq0⟩ := hv; exact c_cask_book_char F' _ x.1 x.2.1 x.2.2.1 x.2.2.2.1 x.2.2.2.2.1 pp0 kk0 hq0 x.2.2.2.2.2⟩
 refine .letv (fun m_28 e29 => ?_)
 refine .insertO (key := (8 : Int)) (val := (fun (x : ((List CaskCask) × (List CaskBook) × (List (List (Int × Bool))) × (List (List (Int × (Option Nat)))) × (Option Nat) × ApiCaskEvent)) => m_cask_book_char x.1 x.2.1 x.2.2.1 x.2.2.2.1 x.2.2.2.2.1 x.2.2.2.2.2)) 0 rfl Fz.r Try.underlying106 (.int Try.underlying3) rfl rfl rfl (fun _ l => ⟨73, ([], []), rfl, (hf27).mono l⟩) e29 (.move rfl rfl ?_)
 refine .freezeMap 0 rfl Fz.r (fun F_30 l_31 h32 => ?_)
 refine .assign rfl rfl (.nil (.code ?_))
 exact .ret0 Try.results49 (.tmp rfl (.nil)) (i := 0) rfl l_31 ⟨b1, (), rfl, h32⟩
def m_cask_isNumber (n_1 : Int) : Bool :=
 (m_cask_within n_1 0 1073741824)
theorem c_cask_isNumber (F0 : Fz) (n_1 : Int) : CT0 Try.prog 74 [(.int .i64 n_1)].toArray F0 (some (m_cask_isNumber n_1)) (fun r _ v => v = (.bool r)) := by
 refine CT0.enter Try.func74 rfl Try.ntmps74 rfl fun r R => ?_
 refine .seq (.region (.assign rfl rfl (.nil (.code (.seq (.region (.move rfl rfl (.callP rfl Try.call47 rfl rfl rfl (c_cask_within _ n_1 0 1073741824) ?_))))))))
 rintro F_2 _ l_3 rfl
 refine .assign rfl rfl (.nil (.code ?_))
 exact .ret0 Try.results74 (.tmp rfl (.nil)) (i := 0) rfl l_3 rfl
def m_cask_isWood (n_1 : Int) : Bool :=
 (m_cask_within n_1 0 7)
theorem c_cask_isWood (F0 : Fz) (n_1 : Int) : CT0 Try.prog 75 [(.int .i64 n_1)].toArray F0 (some (m_cask_isWood n_1)) (fun r _ v => v = (.bool r)) := by
 refine CT0.enter Try.func75 rfl Try.ntmps75 rfl fun r R => ?_
 refine .seq (.region (.assign rfl rfl (.nil (.code (.seq (.region (.move rfl rfl (.callP rfl Try.call47 rfl rfl rfl (c_cask_within _ n_1 0 7) ?_))))))))
 rintro F_2 _ l_3 rfl
 refine .assign rfl rfl (.nil (.code ?_))
 exact .ret0 Try.results75 (.tmp rfl (.nil)) (i := 0) rfl l_3 rfl
def m_cask_isPlace (n_1 : Int) : Bool :=
 (m_cask_within n_1 0 7)
theorem c_cask_isPlace (F0 : Fz) (n_1 : Int) : CT0 Try.prog 76 [(.int .i64 n_1)].toArray F0 (some (m_cask_isPlace n_1)) (fun r _ v => v = (.bool r)) := by
 refine CT0.enter Try.func76 rfl Try.ntmps76 rfl fun r R => ?_
 refine .seq (.region (.assign rfl rfl (.nil (.code (.seq (.region (.move rfl rfl (.callP rfl Try.call47 rfl rfl rfl (c_cask_within _ n_1 0 7) ?_))))))))
 rintro F_2 _ l_3 rfl
 refine .assign rfl rfl (.nil (.code ?_))
 exact .ret0 Try.results76 (.tmp rfl (.nil)) (i := 0) rfl l_3 rfl
def m_cask_isAmount (n_1 : Int) : Bool :=
 (m_cask_within n_1 1 1099511627776)
theorem c_cask_isAmount (F0 : Fz) (n_1 : Int) : CT0 Try.prog 77 [(.int .i64 n_1)].toArray F0 (some (m_cask_isAmount n_1)) (fun r _ v => v = (.bool r)) := by
 refine CT0.enter Try.func77 rfl Try.ntmps77 rfl fun r R => ?_
 refine .seq (.region (.assign rfl rfl (.nil (.code (.seq (.region (.move rfl rfl (.callP rfl Try.call47 rfl rfl rfl (c_cask_within _ n_1 1 1099511627776) ?_))))))))
 rintro F_2 _ l_3 rfl
 refine .assign rfl rfl (.nil (.code ?_))
 exact .ret0 Try.results77 (.tmp rfl (.nil)) (i := 0) rfl l_3 rfl
def m_cask_isPerson (n_1 : Int) : Bool :=
 (m_cask_within n_1 0 1073741824)
theorem c_cask_isPerson (F0 : Fz) (n_1 : Int) : CT0 Try.prog 78 [(.int .i64 n_1)].toArray F0 (some (m_cask_isPerson n_1)) (fun r _ v => v = (.bool r)) := by
 refine CT0.enter Try.func78 rfl Try.ntmps78 rfl fun r R => ?_
 refine .seq (.region (.assign rfl rfl (.nil (.code (.seq (.region (.move rfl rfl (.callP rfl Try.call47 rfl rfl rfl (c_cask_within _ n_1 0 1073741824) ?_))))))))
 rintro F_2 _ l_3 rfl
 refine .assign rfl rfl (.nil (.code ?_))
 exact .ret0 Try.results78 (.tmp rfl (.nil)) (i := 0) rfl l_3 rfl
noncomputable def m_cask_isEvent (x1 : ApiCaskEvent) : Option Bool :=
 if ((!(m_cask_within x1.Day 0 65536)) || (!(m_cask_isNumber x1.Cask))) then (some false) else (if (x1.Kind == 0) then (some ((((m_cask_isWood x1.Other) && (m_cask_isPlace x1.Where)) && (m_cask_isAmount x1.Amount)) && (m_cask_isPerson x1.Person))) else ((if (x1.Kind == 1) then (some (x1.Kind == 1)) else (some (x1.Kind == 3)) : Option (Bool)).bind fun j37 => if j37 then (some (m_cask_isAmount x1.Amount)) else (if (x1.Kind == 2) then (some ((m_cask_isNumber x1.Other) && (m_cask_isAmount x1.Amount))) else (if (x1.Kind == 4) then (some (m_cask_isPlace x1.Where)) else ((if (x1.Kind == 5) then (some (x1.Kind == 5)) else (some (x1.Kind == 6)) : Option (Bool)).bind fun j56 => if j56 then (some ((m_cask_isPerson x1.Person) && (m_cask_isPerson x1.To))) else (if (x1.Kind == 7) then (some (m_cask_isPerson x1.Person)) else (if (x1.Kind == 8) then (some (m_cask_isWood x1.Where)) else (some false))))))))
theorem c_cask_isEvent (F0 : Fz) (x1 : ApiCaskEvent) : CT0 Try.prog 51 [(eApiCaskEvent x1)].toArray F0 (m_cask_isEvent x1) (fun r _ v => v = (.bool r)) := by
 refine CT0.enter Try.func51 rfl Try.ntmps51 rfl fun r R => ?_
 unfold m_cask_isEvent
 refine .seq (.region (.boxF (cs := (cApiCaskEvent x1)) rfl rfl rfl (fun b2 F_3 l_4 hb5 => ?_)))
 refine .assign rfl rfl (.nil (.code (.seq (.seq (.region (.fieldAddr rfl Try.underlying62 rfl Try.sizeOf3 rfl (.loadF rfl Try.isAgg3 rfl hb5 rfl (.callP rfl Try.call47 rfl rfl rfl (c_cask_within _ x1.Day 0 65536) ?_))))))))
 rintro F_6 _ l_7 rfl
 refine .not rfl rfl (.move rfl rfl (.orP (b := (!(m_cask_within x1.Day 0 65536))) (b' := (!(m_cask_isNumber x1.Cask))) 5 12 (fun hb8 => ?_) (fun hb11 => ?_) (fun F_12 l_13 => ?_)))
 ·skip
  refine .onH hb8 rfl rfl (.fieldAddr rfl Try.underlying62 rfl Try.sizeOf3 rfl (.onH hb8 rfl rfl (.loadF rfl Try.isAgg3 rfl (l_7.mem _ _ hb5) rfl (.onH hb8 rfl rfl (.callP rfl Try.call74 rfl rfl rfl (c_cask_isNumber _ x1.Cask) ?_)))))
  rintro F_9 _ l_10 rfl
  refine .onH hb8 rfl rfl (.not rfl rfl (.pickFH hb8 rfl rfl rfl ?_))
  exact .fin 5 rfl rfl (by kernel_rfl) l_10
 ·skip
  refine .offH hb11 rfl rfl rfl (.offH hb11 rfl rfl rfl (.offH hb11 rfl rfl rfl (.offH hb11 rfl rfl rfl (.pickTH hb11 rfl rfl rfl ?_))))
  exact .fin 5 rfl rfl (by kernel_rfl) Fz.r
 refine .nil (.code (.cond rfl (fun hb14 => ?_) (fun hb14 => ?_)))
 ·skip
  refine .seq (.region (.assign rfl rfl (.nil (.code ?_))))
  exact .ret0 Try.results51 (.tmp rfl (.nil)) (i := 0) rfl (Fz.t l_4 (Fz.t l_7 l_13)) rfl
 ·skip
  refine .skip (.code (.seq (.seq (.region (.fieldAddr rfl Try.underlying62 rfl Try.sizeOf3 rfl (.loadF rfl Try.isAgg3 rfl ((Fz.t l_7 l_13).mem _ _ hb5) rfl (.nil (.code (.block (.seq (.region ?_)))))))))))
  refine .eql rfl rfl rfl (.assign rfl rfl (.nil (.code (.cond rfl (fun hb15 => ?_) (fun hb15 => ?_)))))
  ·skip
   refine .seq (.region (.fieldAddr rfl Try.underlying62 rfl Try.sizeOf3 rfl (.loadF rfl Try.isAgg3 rfl ((Fz.t l_7 l_13).mem _ _ hb5) rfl (.callP rfl Try.call75 rfl rfl rfl (c_cask_isWood _ x1.Other) ?_))))
   rintro F_16 _ l_17 rfl
   refine .move rfl rfl (.andP (b := (m_cask_isWood x1.Other)) (b' := (m_cask_isPlace x1.Where)) 4 24 (fun hb18 => ?_) (fun hb21 => ?_) (fun F_22 l_23 => ?_))
   ·skip
    refine .onH hb18 rfl rfl (.fieldAddr rfl Try.underlying62 rfl Try.sizeOf3 rfl (.onH hb18 rfl rfl (.loadF rfl Try.isAgg3 rfl ((Fz.t l_7 (Fz.t l_13 l_17)).mem _ _ hb5) rfl (.onH hb18 rfl rfl (.callP rfl Try.call76 rfl rfl rfl (c_cask_isPlace _ x1.Where) ?_)))))
    rintro F_19 _ l_20 rfl
    refine .pickTH hb18 rfl rfl rfl ?_
    exact .fin 4 rfl rfl (by kernel_rfl) l_20
   ·skip
    refine .offH hb21 rfl rfl rfl (.offH hb21 rfl rfl rfl (.offH hb21 rfl rfl rfl (.pickFH hb21 rfl rfl rfl ?_)))
    exact .fin 4 rfl rfl (by kernel_rfl) Fz.r
   refine .move rfl rfl (.andP (b := ((m_cask_isWood x1.Other) && (m_cask_isPlace x1.Where))) (b' := (m_cask_isAmount x1.Amount)) 4 29 (fun hb24 => ?_) (fun hb27 => ?_) (fun F_28 l_29 => ?_))
   ·skip
    refine .onH hb24 rfl rfl (.fieldAddr rfl Try.underlying62 rfl Try.sizeOf3 rfl (.onH hb24 rfl rfl (.loadF rfl Try.isAgg3 rfl ((Fz.t l_7 (Fz.t l_13 (Fz.t l_17 l_23))).mem _ _ hb5) rfl (.onH hb24 rfl rfl (.callP rfl Try.call77 rfl rfl rfl (c_cask_isAmount _ x1.Amount) ?_)))))
    rintro F_25 _ l_26 rfl
    refine .pickTH hb24 rfl rfl rfl ?_
    exact .fin 4 rfl rfl (by kernel_rfl) l_26
   ·skip
    refine .offH hb27 rfl rfl rfl (.offH hb27 rfl rfl rfl (.offH hb27 rfl rfl rfl (.pickFH hb27 rfl rfl rfl ?_)))
    exact .fin 4 rfl rfl (by kernel_rfl) Fz.r
   refine .move rfl rfl (.andP (b := (((m_cask_isWood x1.Other) && (m_cask_isPlace x1.Where)) && (m_cask_isAmount x1.Amount))) (b' := (m_cask_isPerson x1.Person)) 4 34 (fun hb30 => ?_) (fun hb33 => ?_) (fun F_34 l_35 => ?_))
   ·skip
    refine .onH hb30 rfl rfl (.fieldAddr rfl Try.underlying62 rfl Try.sizeOf3 rfl (.onH hb30 rfl rfl (.loadF rfl Try.isAgg3 rfl ((Fz.t l_7 (Fz.t l_13 (Fz.t l_17 (Fz.t l_23 l_29)))).mem _ _ hb5) rfl (.onH hb30 rfl rfl (.callP rfl Try.call78 rfl rfl rfl (c_cask_isPerson _ x1.Person) ?_)))))
    rintro F_31 _ l_32 rfl
    refine .pickTH hb30 rfl rfl rfl ?_
    exact .fin 4 rfl rfl (by kernel_rfl) l_32
   ·skip
    refine .offH hb33 rfl rfl rfl (.offH hb33 rfl rfl rfl (.offH hb33 rfl rfl rfl (.pickFH hb33 rfl rfl rfl ?_)))
    exact .fin 4 rfl rfl (by kernel_rfl) Fz.r
   refine .assign rfl rfl (.nil (.code ?_))
   exact .ret0 Try.results51 (.tmp rfl (.nil)) (i := 0) rfl (Fz.t l_4 (Fz.t l_7 (Fz.t l_13 (Fz.t l_17 (Fz.t l_23 (Fz.t l_29 l_35)))))) rfl
  ·skip
   refine .seq (.seq (.region (.eql rfl rfl rfl (.assign rfl rfl (.nil (.code (.keep (.cons (k := 1) rfl (.cons (k := 14) rfl (.cons (k := 35) rfl (.nil _)))) ?_)))))))
   refine GC.join0 (σ := Bool) (fun j37 a w => ∃ (F_38 : Fz), F_12 ≤ F_38 ∧ Hd 77 [] [(1, (.pointer (some ⟨b2, 0, none⟩))), (14, (.int .i64 x1.Kind)), (35, (.bool j37))] F_38 [R] a w) (fun sj => ?_) (fun j37 hs0 => GE.ex (fun a w ⟨F_38, l_39, hA⟩ => ⟨_, hA, ?_⟩))
   ·skip
    refine .cond rfl (fun hb36 => ?_) (fun hb36 => ?_)
    ·skip
     refine .skip ?_
     exact .nil fun e a w h => by cases e; exact ⟨rfl, ⟨F_12, Fz.r, h.1.sub (.cons (k := 1) rfl (.cons (k := 14) rfl (.cons (k := 35) rfl (.nil _)))), h.2⟩⟩
    ·skip
     refine .region (.eql rfl rfl rfl (.assign rfl rfl (.nil ?_)))
     exact .nil fun e a w h => by cases e; exact ⟨rfl, ⟨F_12, Fz.r, h.1.sub (.cons (k := 1) rfl (.cons (k := 14) rfl (.cons (k := 35) rfl (.nil _)))), h.2⟩⟩
   refine .code (.cond rfl (fun hb40 => ?_) (fun hb40 => ?_))
   ·skip
    refine .seq (.region (.fieldAddr rfl Try.underlying62 rfl Try.sizeOf3 rfl (.loadF rfl Try.isAgg3 rfl ((Fz.t l_7 (Fz.t l_13 l_39)).mem _ _ hb5) rfl (.callP rfl Try.call77 rfl rfl rfl (c_cask_isAmount _ x1.Amount) ?_))))
    rintro F_41 _ l_42 rfl
    refine .assign rfl rfl (.nil (.code ?_))
    exact .ret0 Try.results51 (.tmp rfl (.nil)) (i := 0) rfl (Fz.t l_4 (Fz.t l_7 (Fz.t l_13 (Fz.t l_39 l_42)))) rfl
   ·skip
    refine .seq (.region (.eql rfl rfl rfl (.assign rfl rfl (.nil (.code (.cond rfl (fun hb43 => ?_) (fun hb43 => ?_)))))))
    ·skip
     refine .seq (.region (.fieldAddr rfl Try.underlying62 rfl Try.sizeOf3 rfl (.loadF rfl Try.isAgg3 rfl ((Fz.t l_7 (Fz.t l_13 l_39)).mem _ _ hb5) rfl (.callP rfl Try.call74 rfl rfl rfl (c_cask_isNumber _ x1.Other) ?_))))
     rintro F_44 _ l_45 rfl
     refine .move rfl rfl (.andP (b := (m_cask_isNumber x1.Other)) (b' := (m_cask_isAmount x1.Amount)) 4 50 (fun hb46 => ?_) (fun hb49 => ?_) (fun F_50 l_51 => ?_))
     ·skip
      refine .onH hb46 rfl rfl (.fieldAddr rfl Try.underlying62 rfl Try.sizeOf3 rfl (.onH hb46 rfl rfl (.loadF rfl Try.isAgg3 rfl ((Fz.t l_7 (Fz.t l_13 (Fz.t l_39 l_45))).mem _ _ hb5) rfl (.onH hb46 rfl rfl (.callP rfl Try.call77 rfl rfl rfl (c_cask_isAmount _ x1.Amount) ?_)))))
      rintro F_47 _ l_48 rfl
      refine .pickTH hb46 rfl rfl rfl ?_
      exact .fin 4 rfl rfl (by kernel_rfl) l_48
     ·skip
      refine .offH hb49 rfl rfl rfl (.offH hb49 rfl rfl rfl (.offH hb49 rfl rfl rfl (.pickFH hb49 rfl rfl rfl ?_)))
      exact .fin 4 rfl rfl (by kernel_rfl) Fz.r
     refine .assign rfl rfl (.nil (.code ?_))
     exact .ret0 Try.results51 (.tmp rfl (.nil)) (i := 0) rfl (Fz.t l_4 (Fz.t l_7 (Fz.t l_13 (Fz.t l_39 (Fz.t l_45 l_51))))) rfl
    ·skip
     refine .seq (.region (.eql rfl rfl rfl (.assign rfl rfl (.nil (.code (.cond rfl (fun hb52 => ?_) (fun hb52 => ?_)))))))
     ·skip
      refine .seq (.region (.fieldAddr rfl Try.underlying62 rfl Try.sizeOf3 rfl (.loadF rfl Try.isAgg3 rfl ((Fz.t l_7 (Fz.t l_13 l_39)).mem _ _ hb5) rfl (.callP rfl Try.call76 rfl rfl rfl (c_cask_isPlace _ x1.Where) ?_))))
      rintro F_53 _ l_54 rfl
      refine .assign rfl rfl (.nil (.code ?_))
      exact .ret0 Try.results51 (.tmp rfl (.nil)) (i := 0) rfl (Fz.t l_4 (Fz.t l_7 (Fz.t l_13 (Fz.t l_39 l_54)))) rfl
     ·skip
      refine .seq (.seq (.region (.eql rfl rfl rfl (.assign rfl rfl (.nil (.code (.keep (.cons (k := 1) rfl (.cons (k := 14) rfl (.cons (k := 56) rfl (.nil _)))) ?_)))))))
      refine GC.join0 (σ := Bool) (fun j56 a w => ∃ (F_57 : Fz), F_38 ≤ F_57 ∧ Hd 77 [] [(1, (.pointer (some ⟨b2, 0, none⟩))), (14, (.int .i64 x1.Kind)), (56, (.bool j56))] F_57 [R] a w) (fun sj => ?_) (fun j56 hs0 => GE.ex (fun a w ⟨F_57, l_58, hA⟩ => ⟨_, hA, ?_⟩))
      ·skip
       refine .cond rfl (fun hb55 => ?_) (fun hb55 => ?_)
       ·skip
        refine .skip ?_
        exact .nil fun e a w h => by cases e; exact ⟨rfl, ⟨F_38, Fz.r, h.1.sub (.cons (k := 1) rfl (.cons (k := 14) rfl (.cons (k := 56) rfl (.nil _)))), h.2⟩⟩
       ·skip
        refine .region (.eql rfl rfl rfl (.assign rfl rfl (.nil ?_)))
        exact .nil fun e a w h => by cases e; exact ⟨rfl, ⟨F_38, Fz.r, h.1.sub (.cons (k := 1) rfl (.cons (k := 14) rfl (.cons (k := 56) rfl (.nil _)))), h.2⟩⟩
      refine .code (.cond rfl (fun hb59 => ?_) (fun hb59 => ?_))
      ·skip
       refine .seq (.region (.fieldAddr rfl Try.underlying62 rfl Try.sizeOf3 rfl (.loadF rfl Try.isAgg3 rfl ((Fz.t l_7 (Fz.t l_13 (Fz.t l_39 l_58))).mem _ _ hb5) rfl (.callP rfl Try.call78 rfl rfl rfl (c_cask_isPerson _ x1.Person) ?_))))
       rintro F_60 _ l_61 rfl
       refine .move rfl rfl (.andP (b := (m_cask_isPerson x1.Person)) (b' := (m_cask_isPerson x1.To)) 4 66 (fun hb62 => ?_) (fun hb65 => ?_) (fun F_66 l_67 => ?_))
       ·skip
        refine .onH hb62 rfl rfl (.fieldAddr rfl Try.underlying62 rfl Try.sizeOf3 rfl (.onH hb62 rfl rfl (.loadF rfl Try.isAgg3 rfl ((Fz.t l_7 (Fz.t l_13 (Fz.t l_39 (Fz.t l_58 l_61)))).mem _ _ hb5) rfl (.onH hb62 rfl rfl (.callP rfl Try.call78 rfl rfl rfl (c_cask_isPerson _ x1.To) ?_)))))
        rintro F_63 _ l_64 rfl
        refine .pickTH hb62 rfl rfl rfl ?_
        exact .fin 4 rfl rfl (by kernel_rfl) l_64
       ·skip
        refine .offH hb65 rfl rfl rfl (.offH hb65 rfl rfl rfl (.offH hb65 rfl rfl rfl (.pickFH hb65 rfl rfl rfl ?_)))
        exact .fin 4 rfl rfl (by kernel_rfl) Fz.r
       refine .assign rfl rfl (.nil (.code ?_))
       exact .ret0 Try.results51 (.tmp rfl (.nil)) (i := 0) rfl (Fz.t l_4 (Fz.t l_7 (Fz.t l_13 (Fz.t l_39 (Fz.t l_58 (Fz.t l_61 l_67)))))) rfl
      ·skip
       refine .seq (.region (.eql rfl rfl rfl (.assign rfl rfl (.nil (.code (.cond rfl (fun hb68 => ?_) (fun hb68 => ?_)))))))
       ·skip
        refine .seq (.region (.fieldAddr rfl Try.underlying62 rfl Try.sizeOf3 rfl (.loadF rfl Try.isAgg3 rfl ((Fz.t l_7 (Fz.t l_13 (Fz.t l_39 l_58))).mem _ _ hb5) rfl (.callP rfl Try.call78 rfl rfl rfl (c_cask_isPerson _ x1.Person) ?_))))
        rintro F_69 _ l_70 rfl
        refine .assign rfl rfl (.nil (.code ?_))
        exact .ret0 Try.results51 (.tmp rfl (.nil)) (i := 0) rfl (Fz.t l_4 (Fz.t l_7 (Fz.t l_13 (Fz.t l_39 (Fz.t l_58 l_70))))) rfl
       ·skip
        refine .seq (.region (.eql rfl rfl rfl (.assign rfl rfl (.nil (.code (.cond rfl (fun hb71 => ?_) (fun hb71 => ?_)))))))
        ·skip
         refine .seq (.region (.fieldAddr rfl Try.underlying62 rfl Try.sizeOf3 rfl (.loadF rfl Try.isAgg3 rfl ((Fz.t l_7 (Fz.t l_13 (Fz.t l_39 l_58))).mem _ _ hb5) rfl (.callP rfl Try.call75 rfl rfl rfl (c_cask_isWood _ x1.Where) ?_))))
         rintro F_72 _ l_73 rfl
         refine .assign rfl rfl (.nil (.code ?_))
         exact .ret0 Try.results51 (.tmp rfl (.nil)) (i := 0) rfl (Fz.t l_4 (Fz.t l_7 (Fz.t l_13 (Fz.t l_39 (Fz.t l_58 l_73))))) rfl
        ·skip
         refine .skip (.block (.code (.seq (.region (.assign rfl rfl (.nil (.code ?_)))))))
         exact .ret0 Try.results51 (.tmp rfl (.nil)) (i := 0) rfl (Fz.t l_4 (Fz.t l_7 (Fz.t l_13 (Fz.t l_39 l_58)))) rfl
noncomputable def b_cask_play_1 (l_1 : (List ApiCaskEvent)) (day5 : Int) (r_41 : (List (Int × (((List CaskCask) × (List CaskBook) × (List (List (Int × Bool))) × (List (List (Int × (Option Nat)))) × (Option Nat) × ApiCaskEvent) → Option (Out CaskMisfit ((List CaskCask) × (List (List (Int × Bool))) × (List (List (Int × (Option Nat)))))))))) (s45 : Int × Int × (List CaskCask) × (List CaskBook) × (List (List (Int × Bool))) × (List (List (Int × (Option Nat))))) : Option (Ctl (Int × Int × (List CaskCask) × (List CaskBook) × (List (List (Int × Bool))) × (List (List (Int × (Option Nat))))) ((Int × (List CaskCask) × (List CaskBook) × (List (List (Int × Bool))) × (List (List (Int × (Option Nat))))) ⊕ (CaskMisfit × Int × Int × (Option Nat)))) :=
 (if (decide (s45.1 < (l_1.length : Int))) then ((idxL l_1 s45.1).bind fun x49 => some (decide (x49.Day ≤ day5))) else some false).bind fun z62 => if z62 then ((idxL l_1 s45.1).bind fun x65 => (m_cask_isEvent x65).bind fun r_78 => bindX (m_cask_need r_78 1) (fun q85 => some (.done (.inr (q85, s45.1, 0, (some 0))))) fun _r_79 => bindX (m_cask_need (decide (x65.Day ≥ s45.2.1)) 7) (fun q92 => some (.done (.inr (q92, s45.1, 0, (some 0))))) fun _r_86 => (s45.2.2.2.1[0]?).bind fun x111 => bindv ({ x111 with event := s45.1 }) fun x113 => bindv (List.set s45.2.2.2.1 0 x113) fun A115 => (mapGet r_41 x65.Kind).bind fun x134 => bindX (x134 (s45.2.2.1, A115, s45.2.2.2.2.1, s45.2.2.2.2.2, (some 0), x65)) (fun q145 => some (.done (.inr (q145, s45.1, 0, (some 0))))) fun r_139 => bindv (w64 (s45.1 + 1)) fun n_146 => some (.next (n_146, x65.Day, r_139.1, A115, r_139.2.1, r_139.2.2))) else (some (.done (.inl (s45.1, s45.2.2.1, s45.2.2.2.1, s45.2.2.2.2.1, s45.2.2.2.2.2))))
noncomputable def b_cask_play_2 (day5 : Int) (x181 : (Int × (Option Nat))) (s173 : (List CaskCask)) : Option ((List CaskCask)) :=
 (m_cask_cask_rest s173 x181.2 day5).bind fun r_191 => some r_191
noncomputable def m_cask_play (l_1 : (List ApiCaskEvent)) (day5 : Int) : Option ((Option Nat) × Int × Int × (List CaskCask) × (List CaskBook) × (List (List (Int × Bool))) × (List (List (Int × (Option Nat))))) :=
 if (decide ((l_1.length : Int) > 4096)) then (some (none, 0, 3, [], [], [], [])) else (if (!(m_cask_within day5 0 65536)) then (some (none, 0, 2, [], [], [], [])) else (bindv (([]) ++ [[]]) fun A26 => bindv (CaskBook.mk (some 0) 0) fun x32 => bindv (([]) ++ [x32]) fun A34 => (m_cask_deeds).bind fun r_41 => (loopM (b_cask_play_1 l_1 day5 r_41) (0, 0, [], A34, [], A26)).bind fun b0 => match b0 with | .inl b148 => ((b148.2.2.1[0]?).bind fun x156 => (x156.casks).bind fun i161 => (b148.2.2.2.2[i161]?).bind fun x166 => (permM (b_cask_play_2 day5) x166 b148.2.1).bind fun R_195 => some ((some 0), b148.1, 0, R_195, b148.2.2.1, b148.2.2.2.1, b148.2.2.2.2)) | .inr b148 => (some (none, b148.2.1, b148.1.e, [], [], [], []))))
set_option maxHeartbeats 8000000 in
theorem c_cask_play (F0 : Fz) (l_1 : (List ApiCaskEvent)) (p2 : Option Addr) (k3 : Nat) (h4 : RepSl 8 (Ex cApiCaskEvent) F0 p2 k3 l_1) (day5 : Int) : CTO Try.prog 28 [(.slice p2 l_1.length k3), (.int .i64 day5)].toArray F0 (m_cask_play l_1 day5) (fun (Γ : Gam) (r : (Option Nat) × Int × Int × (List CaskCask) × (List CaskBook) × (List (List (Int × Bool))) × (List (List (Int × (Option Nat))))) F v => ∃ (p0 : Option Addr) (_k0 : Unit), v = .tuple #[(.pointer p0), (.int .i64 r.2.1), (.int .i64 r.2.2.1)] ∧ RepPtr Γ.g92 F p0 r.1) (fun (Γ : Gam) (r : (Option Nat) × Int × Int × (List CaskCask) × (List CaskBook) × (List (List (Int × Bool))) × (List (List (Int × (Option Nat))))) F' => [arena Γ.g119 (C119 Γ) F' r.2.2.2.1, arena Γ.g92 (C92 Γ) F' r.2.2.2.2.1, arena Γ.g117 (C117 Γ) F' r.2.2.2.2.2.1, arena Γ.g90 (C90 Γ) F' r.2.2.2.2.2.2]) := by
 refine CTO.enter Try.func28 rfl Try.ntmps28 rfl fun r R => ?_
 refine .newG (fun x6 F_7 l_8 => ?_)
 refine .newG (fun x9 F_10 l_11 => ?_)
 refine .newG (fun x12 F_13 l_14 => ?_)
 refine .newG (fun x15 F_16 l_17 => ?_)
 refine .newA (C119 (Gam.mk x6 x9 x12 x15)) 3 rfl (.newA (C92 (Gam.mk x6 x9 x12 x15)) 2 rfl (.newA (C117 (Gam.mk x6 x9 x12 x15)) 1 rfl (.newA (C90 (Gam.mk x6 x9 x12 x15)) 0 rfl ?_)))
 refine .pick [3, 2, 1, 0, 0] (rfl : _ = [arena (Gam.mk x6 x9 x12 x15).g119 (C119 (Gam.mk x6 x9 x12 x15)) F_16 ([]), arena (Gam.mk x6 x9 x12 x15).g92 (C92 (Gam.mk x6 x9 x12 x15)) F_16 ([]), arena (Gam.mk x6 x9 x12 x15).g117 (C117 (Gam.mk x6 x9 x12 x15)) F_16 ([]), arena (Gam.mk x6 x9 x12 x15).g90 (C90 (Gam.mk x6 x9 x12 x15)) F_16 ([]), R]) ?_
 generalize (Gam.mk x6 x9 x12 x15) = Γ
 unfold m_cask_play
 refine .seq (.region (.alloc (cs := [(.pointer none)]) rfl Try.zeroValue82 rfl (fun b18 => ?_)))
 refine .assign rfl rfl (.alloc (cs := [(.int .i64 0)]) rfl Try.zeroValue34 rfl (fun b19 => ?_))
 refine .nil (.code (.seq (.block (.seq (.region (.move rfl rfl (.lenS rfl rfl Try.underlying57 rfl (.gtr rfl rfl rfl (.assign rfl rfl (.nil (.code ?_)))))))))))
 refine .cond rfl (fun hb20 => ?_) (fun hb20 => ?_)
 ·skip
  refine .seq (.region (.store (cs' := [(.pointer none)]) Try.sizeOf82 rfl rfl rfl rfl (i := 1) rfl (Nat.le_of_ble_eq_true rfl) rfl rfl (.assign rfl rfl (.store (cs' := [(.int .i64 3)]) Try.sizeOf34 rfl rfl rfl rfl (i := 0) rfl (Nat.le_of_ble_eq_true rfl) rfl rfl (.nil (.code ?_))))))
  exact .retQ (ret_postO (Γ := Γ) [2, 2, 2, 2, 2] Try.results28 (.cell rfl Try.isAgg82 (i := 1) rfl rfl (.tmp rfl (.cell rfl Try.isAgg34 (i := 0) rfl rfl (.nil)))) rfl (Fz.t l_8 (Fz.t l_11 (Fz.t l_14 l_17))) ⟨none, (), rfl, (RepPtr.nil.mono (Fz.t l_8 (Fz.t l_11 (Fz.t l_14 l_17))))⟩)
 ·skip
  refine .seq (.region (.move rfl rfl (.callP rfl Try.call47 rfl rfl rfl (c_cask_within _ day5 0 65536) ?_)))
  rintro F_21 _ l_22 rfl
  refine .not rfl rfl (.assign rfl rfl (.nil (.code (.cond rfl (fun hb23 => ?_) (fun hb23 => ?_)))))
  ·skip
   refine .seq (.region (.store (cs' := [(.pointer none)]) Try.sizeOf82 rfl rfl rfl rfl (i := 1) rfl (Nat.le_of_ble_eq_true rfl) rfl rfl (.assign rfl rfl (.store (cs' := [(.int .i64 2)]) Try.sizeOf34 rfl rfl rfl rfl (i := 0) rfl (Nat.le_of_ble_eq_true rfl) rfl rfl (.nil (.code (.upR 2 (stays119 Γ) l_22 rfl (.upR 3 (stays92 Γ) l_22 rfl (.upR 4 (stays117 Γ) l_22 rfl (.upR 5 (stays90 Γ) l_22 rfl ?_))))))))))
   exact .retQ (ret_postO (Γ := Γ) [2, 2, 2, 2, 2] Try.results28 (.cell rfl Try.isAgg82 (i := 1) rfl rfl (.tmp rfl (.cell rfl Try.isAgg34 (i := 0) rfl rfl (.nil)))) rfl (Fz.t l_8 (Fz.t l_11 (Fz.t l_14 (Fz.t l_17 l_22)))) ⟨none, (), rfl, (RepPtr.nil.mono (Fz.t l_8 (Fz.t l_11 (Fz.t l_14 (Fz.t l_17 l_22)))))⟩)
  ·skip
   refine .skip (.block (.code (.seq (.region (.makeFunc rfl rfl (.defer rfl (.nil (.code (.seq (.region (.makeMapP (fun x : Int => (.int .i64 x)) (fun F (x : (Option Nat)) v => ∃ (p0 : Option Addr) (k0 : Unit), v = (.pointer p0) ∧ RepPtr Γ.g119 F p0 x) rfl (fun b24 => ?_))))))))))))
   refine .letv (fun A26 e27 => ?_)
   refine .intoAt 0 5 rfl rfl (stays90 Γ) l_22 (fun G m l hm => ownMapP_up (Fz.t Fz.r l) hm) e27 (fun F_28 l_29 hb30 => ?_)
   refine .build (cs := (cCaskBook (CaskBook.mk (some 0) 0) (some b24) ()).toArray) rfl Try.underlying92 Try.zeroValue92 (plCaskBook _ Try.underlying92) rfl rfl (by kernel_rfl) (.box (cs := (cCaskBook (CaskBook.mk (some 0) 0) (some b24) ())) rfl rfl rfl (fun b31 => ?_))
   refine .letv (fun x32 e33 => ?_)
   refine .letv (fun A34 e35 => ?_)
   refine .intoAt 0 3 rfl rfl (stays92 Γ) (Fz.t l_22 l_29) (fun G m l hm => ⟨_, fun G' l' => by subst e33; exact ⟨(some b24), (), rfl, ((RepRef.of hb30)).mono (Fz.t l l')⟩, hm⟩) e35 (fun F_36 l_37 hb38 => ?_)
   refine .store (cs' := [(.pointer (some ⟨b31, 0, none⟩))]) Try.sizeOf82 rfl rfl rfl rfl (i := 1) rfl (Nat.le_of_ble_eq_true rfl) rfl rfl (.nil (.code (.seq (.region (.call0 rfl Try.call49 rfl rfl rfl (c_cask_deeds _ Γ) ?_)))))
   rintro r_41 F_39 _ - l_40 ⟨p42, k43, rfl, h44⟩
   refine .assign rfl rfl (.assign rfl rfl (.nil (.code (.seq (.block (.keep (.cons (k := 0) rfl (.cons (k := 1) rfl (.cons (k := 4) rfl (.cons (k := 5) rfl (.cons (k := 6) rfl (.cons (k := 7) rfl (.cons (k := 8) rfl (.nil _)))))))) (.upR 2 (stays119 Γ) (Fz.t l_22 (Fz.t l_29 (Fz.t l_37 l_40))) rfl (.upR 3 (stays92 Γ) l_40 rfl (.upR 4 (stays117 Γ) (Fz.t l_22 (Fz.t l_29 (Fz.t l_37 l_40))) rfl ?_)))))))))
   refine .upR 5 (stays90 Γ) (Fz.t l_37 l_40) rfl ?_
   refine .loop (fun (s45 : Int × Int × (List CaskCask) × (List CaskBook) × (List (List (Int × Bool))) × (List (List (Int × (Option Nat))))) a w => ∃ (F_46 : Fz), F_39 ≤ F_46 ∧ Hd 79 [(dclo 48 [(.pointer (some ⟨b18, 0, none⟩)), (.pointer (some ⟨b19, 0, none⟩))])] [(0, (.slice p2 l_1.length k3)), (1, (.int .i64 day5)), (4, (.pointer (some ⟨b18, 0, none⟩))), (5, (.int .i64 s45.1)), (6, (.pointer (some ⟨b19, 0, none⟩))), (7, (.int .i64 s45.2.1)), (8, (.map (some p42)))] F_46 [pt b19 (.cells [(.int .i64 0)].toArray 34), pt b18 (.cells [(.pointer (some ⟨b31, 0, none⟩))].toArray 82), arena Γ.g119 (C119 Γ) F_46 s45.2.2.1, arena Γ.g92 (C92 Γ) F_46 s45.2.2.2.1, arena Γ.g117 (C117 Γ) F_46 s45.2.2.2.2.1, arena Γ.g90 (C90 Γ) F_46 s45.2.2.2.2.2, R] a w) (fun b0 e a w => match b0 with | .inl b148 => e = .exit 1 ∧ ∃ (F_149 : Fz), F_39 ≤ F_149 ∧ Hd 79 [(dclo 48 [(.pointer (some ⟨b18, 0, none⟩)), (.pointer (some ⟨b19, 0, none⟩))])] [(1, (.int .i64 day5)), (4, (.pointer (some ⟨b18, 0, none⟩))), (5, (.int .i64 b148.1)), (6, (.pointer (some ⟨b19, 0, none⟩)))] F_149 [pt b19 (.cells [(.int .i64 0)].toArray 34), pt b18 (.cells [(.pointer (some ⟨b31, 0, none⟩))].toArray 82), arena Γ.g119 (C119 Γ) F_149 b148.2.1, arena Γ.g92 (C92 Γ) F_149 b148.2.2.1, arena Γ.g117 (C117 Γ) F_149 b148.2.2.2.1, arena Γ.g90 (C90 Γ) F_149 b148.2.2.2.2, R] a w | .inr b148 => e = .panic [{ v := penc b148.1, recovered := false }] ∧ ∃ (F_151 : Fz) (p153 : Option Addr) (k154 : Unit), F_39 ≤ F_151 ∧ RepPtr Γ.g92 F_151 p153 b148.2.2.2 ∧ Hd 79 [(dclo 48 [(.pointer (some ⟨b18, 0, none⟩)), (.pointer (some ⟨b19, 0, none⟩))])] [(4, (.pointer (some ⟨b18, 0, none⟩))), (5, (.int .i64 b148.2.1)), (6, (.pointer (some ⟨b19, 0, none⟩)))] F_151 [pt b19 (.cells [(.int .i64 b148.2.2.1)].toArray 34), pt b18 (.cells [(.pointer p153)].toArray 82), R] a w) ?_ ?_ ?_
   ·exact fun a w h => ⟨F_39, Fz.r, h.1.sub (.cons (k := 0) rfl (.cons (k := 1) rfl (.cons (k := 4) rfl (.cons (k := 5) rfl (.cons (k := 6) rfl (.cons (k := 7) rfl (.cons (k := 8) rfl (.nil _)))))))), h.2⟩
   ·intro s45 ctl
    refine GC.ex (fun a w ⟨F_46, l_47, hA⟩ => ⟨_, hA, ?_⟩)
    unfold b_cask_play_1
    refine .seq (.seq (.region (.move rfl rfl (.move rfl rfl (.lenS rfl rfl Try.underlying57 rfl (.lss rfl rfl rfl (.move rfl rfl (.andM (b := (decide (s45.1 < (l_1.length : Int)))) 8 37 (fun hb48 z63 => ?_) (fun hb59 => ?_) (fun z62 F_60 l_61 => ?_)))))))))
    ·skip
     refine .onH hb48 rfl rfl (.move rfl rfl (.onH hb48 rfl rfl (.move rfl rfl (.onH hb48 rfl rfl (.idx rfl Try.underlying57 Try.sizeOf62 (h4.mono (Fz.t l_8 (Fz.t l_11 (Fz.t l_14 (Fz.t l_17 (Fz.t l_22 (Fz.t l_29 (Fz.t l_37 (Fz.t l_40 l_47))))))))) rfl rfl (fun x49 b50 o51 T52 fr53 cs54 e55 hm56 hv57 => ?_))))))
     refine .onH hb48 rfl rfl (.fieldAddr rfl Try.underlying62 rfl Try.sizeOf3 rfl (.onH hb48 rfl rfl (.loadF rfl Try.isAgg3 rfl hm56 (cell_of_take (k := 1) hv57 rfl) (.onH hb48 rfl rfl (.move rfl rfl (.onH hb48 rfl rfl (.leq rfl rfl rfl (.pickTH hb48 rfl rfl rfl ?_))))))))
     exact .finZ 8 rfl rfl (by kernel_rfl) Fz.r
    ·skip
     refine .offH hb59 rfl rfl rfl (.offH hb59 rfl rfl rfl (.offH hb59 rfl rfl rfl (.offH hb59 rfl rfl rfl (.offH hb59 rfl rfl rfl (.offH hb59 rfl rfl rfl (.offH hb59 rfl rfl rfl (.pickFH hb59 rfl rfl rfl ?_)))))))
     exact .fin 8 rfl rfl (by kernel_rfl) Fz.r
    refine .nil (.code (.cond rfl (fun hb64 => ?_) (fun hb64 => ?_)))
    ·skip
     refine .skip (.code (.block (.seq (.region (.move rfl rfl (.move rfl rfl (.idx rfl Try.underlying57 Try.sizeOf62 (h4.mono (Fz.t l_8 (Fz.t l_11 (Fz.t l_14 (Fz.t l_17 (Fz.t l_22 (Fz.t l_29 (Fz.t l_37 (Fz.t l_40 (Fz.t l_47 l_61)))))))))) rfl rfl (fun x65 b66 o67 T68 fr69 cs70 e71 hm72 hv73 => ?_))))))))
     refine .loadFA rfl Try.isAgg62 Try.sizeOf62 rfl hm72 hv73 rfl (.alloc (cs := (cApiCaskEvent (ApiCaskEvent.mk 0 0 0 0 0 0 0 0))) rfl Try.zeroValue62 rfl (fun b75 => ?_))
     refine .store (cs' := (cApiCaskEvent x65)) Try.sizeOf62 rfl rfl rfl rfl (i := 0) rfl (Nat.le_of_ble_eq_true rfl) rfl (setMany_all (by rfl)) (.nil (.code (.seq (.region (.loadOA rfl Try.isAgg62 Try.sizeOf62 rfl (i := 0) rfl (vs := (cApiCaskEvent x65)) (by kernel_rfl) rfl (.call0 rfl Try.call51 rfl rfl rfl (c_cask_isEvent _ x65) ?_))))))
     rintro r_78 F_76 _ - l_77 rfl
     refine .callB [] rfl Try.call50 rfl rfl rfl rfl (c_cask_need _ r_78 1) ?_ (fun q85 F_83 _ l_84 => (LPost.panQ fun a w h => ⟨rfl, F_83, (some ⟨b31, 0, none⟩), (), (Fz.t l_47 (Fz.t l_61 (Fz.t l_77 l_84))), ((RepPtr.of hb38).mono (Fz.t l_40 (Fz.t l_47 (Fz.t l_61 (Fz.t l_77 l_84))))), h.1.sub (.cons (k := 4) rfl (.cons (k := 5) rfl (.cons (k := 6) rfl (.nil _)))), SH.picks [1, 1, 5] rfl h.2⟩))
     rintro r_79 F_80 _ e82 l_81 rfl
     refine .pick [0, 0, 0, 0, 0, 0, 0, 0] (rfl : _ = [pt b75 (.cells (cApiCaskEvent x65).toArray 62), pt b19 (.cells [(.int .i64 0)].toArray 34), pt b18 (.cells [(.pointer (some ⟨b31, 0, none⟩))].toArray 82), arena Γ.g119 (C119 Γ) F_46 s45.2.2.1, arena Γ.g92 (C92 Γ) F_46 s45.2.2.2.1, arena Γ.g117 (C117 Γ) F_46 s45.2.2.2.2.1, arena Γ.g90 (C90 Γ) F_46 s45.2.2.2.2.2, R]) (.nil (.code (.seq (.region ?_))))
     refine .fieldAddr rfl Try.underlying62 rfl Try.sizeOf3 rfl (.loadO rfl Try.isAgg3 rfl (i := 0) rfl rfl (.move rfl rfl (.geq rfl rfl rfl ?_)))
     refine .callB [] rfl Try.call50 rfl rfl rfl rfl (c_cask_need _ (decide (x65.Day ≥ s45.2.1)) 7) ?_ (fun q92 F_90 _ l_91 => (LPost.panQ fun a w h => ⟨rfl, F_90, (some ⟨b31, 0, none⟩), (), (Fz.t l_47 (Fz.t l_61 (Fz.t l_77 (Fz.t l_81 l_91)))), ((RepPtr.of hb38).mono (Fz.t l_40 (Fz.t l_47 (Fz.t l_61 (Fz.t l_77 (Fz.t l_81 l_91)))))), h.1.sub (.cons (k := 4) rfl (.cons (k := 5) rfl (.cons (k := 6) rfl (.nil _)))), SH.picks [1, 1, 5] rfl h.2⟩))
     rintro r_86 F_87 _ e89 l_88 rfl
     refine .pick [0, 0, 0, 0, 0, 0, 0, 0] (rfl : _ = [pt b75 (.cells (cApiCaskEvent x65).toArray 62), pt b19 (.cells [(.int .i64 0)].toArray 34), pt b18 (.cells [(.pointer (some ⟨b31, 0, none⟩))].toArray 82), arena Γ.g119 (C119 Γ) F_46 s45.2.2.1, arena Γ.g92 (C92 Γ) F_46 s45.2.2.2.1, arena Γ.g117 (C117 Γ) F_46 s45.2.2.2.2.1, arena Γ.g90 (C90 Γ) F_46 s45.2.2.2.2.2, R]) (.nil ?_)
     refine .keep (.cons (k := 0) rfl (.cons (k := 1) rfl (.cons (k := 4) rfl (.cons (k := 5) rfl (.cons (k := 6) rfl (.cons (k := 8) rfl (.cons (k := 9) rfl (.nil _)))))))) (.code (.seq (.keep (.cons (k := 0) rfl (.cons (k := 1) rfl (.cons (k := 4) rfl (.cons (k := 5) rfl (.cons (k := 6) rfl (.cons (k := 8) rfl (.cons (k := 9) rfl (.nil _)))))))) (.bind (fun x111 e112 => ?_)))))
     refine .letv (fun x113 e114 => ?_)
     refine .letv (fun A115 e116 => ?_)
     refine .drawG 7 0 (fun env110 => [((.pointer (some ⟨b31, 0, none⟩)), fun _ => True), ((.int .i64 s45.1), fun _ => True), ((.pointer (some ⟨b75, 0 + 1, none⟩)), fun _ => True), ((.int .i64 x65.Day), fun _ => True), ((.pointer (some ⟨b31, 0, none⟩)), fun _ => True), ((.pointer (some ⟨b31, 0 + 1, none⟩)), fun _ => True), (undef, fun G => env110.f 60 ≤ G)]) (fun L env110 => [pt b75 (.cells (cApiCaskEvent x65).toArray 62), pt b19 (.cells [(.int .i64 0)].toArray 34), pt b18 (.cells [(.pointer (some ⟨b31, 0, none⟩))].toArray 82), arena Γ.g119 (C119 Γ) F_46 s45.2.2.1, (bif L 6 then (arena Γ.g92 (C92 Γ) (env110.f 60) A115) else (arena Γ.g92 (C92 Γ) F_46 s45.2.2.2.1)), arena Γ.g117 (C117 Γ) F_46 s45.2.2.2.2.1, arena Γ.g90 (C90 Γ) F_46 s45.2.2.2.2.2, R]) mixedOK (by kernel_rfl) (by kernel_rfl) rfl (fun _ => rfl) (by kernel_rfl) (fun _ => rfl) ?_ (fun env110 F_117 l_118 hphi => ?_)
     ·skip
      refine .cons (fun L env110 F_120 l_121 hL hdn hup hphi => ⟨[(4, (.pointer (some ⟨b18, 0, none⟩)))], fun S hS hV => (.cons (hS _ _ rfl) (Sub.nil _)), ?_⟩) ?_
      ·skip
       refine .loadO rfl Try.isAgg82 rfl (i := 2) rfl rfl ?_
       exact .finV rfl rfl Fz.r
      refine .cons (fun L env110 F_122 l_123 hL hdn hup hphi => ⟨[(5, (.int .i64 s45.1))], fun S hS hV => (.cons (hS _ _ rfl) (Sub.nil _)), ?_⟩) ?_
      ·skip
       refine .move rfl rfl ?_
       exact .finV rfl rfl Fz.r
      refine .cons (fun L env110 F_124 l_125 hL hdn hup hphi => ⟨[(9, (.pointer (some ⟨b75, 0, none⟩)))], fun S hS hV => (.cons (hS _ _ rfl) (Sub.nil _)), ?_⟩) ?_
      ·skip
       refine .fieldAddr rfl Try.underlying62 rfl Try.sizeOf3 rfl ?_
       exact .finV rfl rfl Fz.r
      refine .cons (fun L env110 F_126 l_127 hL hdn hup hphi => ⟨[(52, (.pointer (some ⟨b75, 0 + 1, none⟩)))], fun S hS hV => (.cons (hV 2 52 _ (hdn 1 2 rfl) rfl rfl) (Sub.nil _)), ?_⟩) ?_
      ·skip
       refine .loadO rfl Try.isAgg3 rfl (i := 0) rfl rfl ?_
       exact .finV rfl rfl Fz.r
      refine .cons (fun L env110 F_128 l_129 hL hdn hup hphi => ⟨[(50, (.pointer (some ⟨b31, 0, none⟩)))], fun S hS hV => (.cons (hV 0 50 _ (hdn 1 0 rfl) rfl rfl) (Sub.nil _)), ?_⟩) ?_
      ·skip
       refine .nilCheckR rfl rfl rfl ?_
       exact .finV rfl rfl Fz.r
      refine .cons (fun L env110 F_130 l_131 hL hdn hup hphi => ⟨[(54, (.pointer (some ⟨b31, 0, none⟩)))], fun S hS hV => (.cons (hV 4 54 _ (hdn 1 4 rfl) rfl rfl) (Sub.nil _)), ?_⟩) ?_
      ·skip
       refine .fieldAddr rfl Try.underlying92 rfl Try.sizeOf3 rfl ?_
       exact .finV rfl rfl Fz.r
      refine .cons (fun L env110 F_132 l_133 hL hdn hup hphi => ⟨[(51, (.int .i64 s45.1)), (55, (.pointer (some ⟨b31, 0 + 1, none⟩)))], fun S hS hV => (.cons (hV 1 51 _ (hdn 1 1 rfl) rfl rfl) (.cons (hV 5 55 _ (hdn 1 5 rfl) rfl rfl) (Sub.nil _))), ?_⟩) ?_
      ·skip
       refine .storeR (xs' := A115) (x' := { x111 with event := s45.1 }) (us := [(.int .i64 s45.1)]) 4 (congrArg some (condF hL)) (Fz.t l_61 (Fz.t l_77 (Fz.t l_81 (Fz.t l_88 l_133)))) Fz.r (len92 Γ) Try.sizeOf3 (hb38.mono (Fz.t l_40 (Fz.t l_47 (Fz.t l_61 (Fz.t l_77 (Fz.t l_81 (Fz.t l_88 l_133))))))) e112 rfl rfl rfl rfl rfl rfl (fun F' vs le ⟨q0, q1, h, r0⟩ => ⟨q0, q1, by subst h; exact rfl, r0⟩) (by rw [e116, e114] <;> rfl) ?_
       exact .finQS ({ env110 with f := updN env110.f 60 F_132 }) [true, true, true, true, true, true, false] rfl (by kernel_rfl) rfl rfl Fz.r (fun _ le => le) (cons_eq rfl (cons_eq rfl (cons_eq rfl (cons_eq rfl (cons_eq (condT rfl) (cons_eq rfl (cons_eq rfl (cons_eq rfl rfl))))))))
      exact .nil
     have l_119 := hphi 6 _ rfl
     refine .norm (S' := [(0, (.slice p2 l_1.length k3)), (1, (.int .i64 day5)), (4, (.pointer (some ⟨b18, 0, none⟩))), (5, (.int .i64 s45.1)), (6, (.pointer (some ⟨b19, 0, none⟩))), (8, (.map (some p42))), (9, (.pointer (some ⟨b75, 0, none⟩))), (50, (.pointer (some ⟨b31, 0, none⟩))), (51, (.int .i64 s45.1)), (52, (.pointer (some ⟨b75, 0 + 1, none⟩))), (53, (.int .i64 x65.Day)), (54, (.pointer (some ⟨b31, 0, none⟩))), (55, (.pointer (some ⟨b31, 0 + 1, none⟩)))]) (.cons (k := 0) rfl (.cons (k := 1) rfl (.cons (k := 4) rfl (.cons (k := 5) rfl (.cons (k := 6) rfl (.cons (k := 8) rfl (.cons (k := 9) rfl (.cons (k := 50) rfl (.cons (k := 51) rfl (.cons (k := 52) rfl (.cons (k := 53) rfl (.cons (k := 54) rfl (.cons (k := 55) rfl (.nil _)))))))))))))) (rfl : _ = [pt b75 (.cells (cApiCaskEvent x65).toArray 62), pt b19 (.cells [(.int .i64 0)].toArray 34), pt b18 (.cells [(.pointer (some ⟨b31, 0, none⟩))].toArray 82), arena Γ.g119 (C119 Γ) F_46 s45.2.2.1, arena Γ.g92 (C92 Γ) (env110.f 60) A115, arena Γ.g117 (C117 Γ) F_46 s45.2.2.2.2.1, arena Γ.g90 (C90 Γ) F_46 s45.2.2.2.2.2, R]) ?_
     refine .assign rfl rfl (.nil (.code (.seq (.region (.move rfl rfl (.fieldAddr rfl Try.underlying62 rfl Try.sizeOf3 rfl (.loadO rfl Try.isAgg3 rfl (i := 0) rfl rfl (.bind (fun x134 e135 => ?_)))))))))
     refine .lookupF (h44.mono (Fz.t l_47 (Fz.t l_61 (Fz.t l_77 (Fz.t l_81 (Fz.t l_88 l_118)))))) e135 rfl Try.underlying106 (.int Try.underlying3) rfl rfl ?_
     intro v hv
     obtain ⟨p136, k137, rfl, h138⟩ := hv
     refine .loadO rfl Try.isAgg82 rfl (i := 2) rfl rfl (.loadOA rfl Try.isAgg62 Try.sizeOf62 rfl (i := 0) rfl (vs := (cApiCaskEvent x65)) (by kernel_rfl) rfl (.upR 3 (stays119 Γ) (Fz.t l_61 (Fz.t l_77 (Fz.t l_81 (Fz.t l_88 l_118)))) rfl (.upR 4 (stays92 Γ) l_119 rfl (.upR 5 (stays117 Γ) (Fz.t l_61 (Fz.t l_77 (Fz.t l_81 (Fz.t l_88 l_118)))) rfl ?_))))
     refine .upR 6 (stays90 Γ) (Fz.t l_61 (Fz.t l_77 (Fz.t l_81 (Fz.t l_88 l_118)))) rfl ?_
     refine .callF [3, 3, 3, 3] rfl h138 rfl rfl ⟨(some ⟨b31, 0, none⟩), (), rfl, ((RepPtr.of hb38).mono (Fz.t l_40 (Fz.t l_47 (Fz.t l_61 (Fz.t l_77 (Fz.t l_81 (Fz.t l_88 l_118)))))))⟩ rfl rfl ?_ (fun q145 F_143 _ l_144 => (LPost.panQ fun a w h => ⟨rfl, F_143, (some ⟨b31, 0, none⟩), (), (Fz.t l_47 (Fz.t l_61 (Fz.t l_77 (Fz.t l_81 (Fz.t l_88 (Fz.t l_118 l_144)))))), ((RepPtr.of hb38).mono (Fz.t l_40 (Fz.t l_47 (Fz.t l_61 (Fz.t l_77 (Fz.t l_81 (Fz.t l_88 (Fz.t l_118 l_144)))))))), h.1.sub (.cons (k := 4) rfl (.cons (k := 5) rfl (.cons (k := 6) rfl (.nil _)))), SH.picks [1, 1, 1] rfl h.2⟩))
     rintro r_139 F_140 _ e142 l_141 rfl
     refine .pick [4, 4, 4, 0, 0, 0, 0, 0] (rfl : _ = [pt b75 (.cells (cApiCaskEvent x65).toArray 62), pt b19 (.cells [(.int .i64 0)].toArray 34), pt b18 (.cells [(.pointer (some ⟨b31, 0, none⟩))].toArray 82), arena Γ.g119 (C119 Γ) F_140 r_139.1, arena Γ.g92 (C92 Γ) F_140 A115, arena Γ.g117 (C117 Γ) F_140 r_139.2.1, arena Γ.g90 (C90 Γ) F_140 r_139.2.2, R]) (.nil (.code (.region (.move rfl rfl (.add rfl rfl rfl ?_)))))
     refine .assignL rfl rfl (fun n_146 e147 => ?_)
     refine .nil (.block (.drop 0 ?_))
     exact .nil (LPost.norm fun a w h => ⟨F_140, (Fz.t l_47 (Fz.t l_61 (Fz.t l_77 (Fz.t l_81 (Fz.t l_88 (Fz.t l_118 l_141)))))), h.1.sub (.cons (k := 0) rfl (.cons (k := 1) rfl (.cons (k := 4) rfl (.cons (k := 5) rfl (.cons (k := 6) rfl (.cons (k := 7) rfl (.cons (k := 8) rfl (.nil _)))))))), h.2⟩)
    ·skip
     refine .upR 2 (stays119 Γ) l_61 rfl (.upR 3 (stays92 Γ) l_61 rfl (.upR 4 (stays117 Γ) l_61 rfl (.upR 5 (stays90 Γ) l_61 rfl (.exitOut rfl (LPost.exit fun a w h => ⟨rfl, F_60, (Fz.t l_47 l_61), h.1.sub (.cons (k := 1) rfl (.cons (k := 4) rfl (.cons (k := 5) rfl (.cons (k := 6) rfl (.nil _))))), h.2⟩)))))
   ·intro b148 hb0 hk e a w hD
    rcases b148 with b148 | b148
    ·skip
     obtain ⟨rfl, F_149, l_150, hA⟩ := hD
     refine interp_exit rfl (GE.app ?_ hk a w hA)
     refine .code (.seq (.seq (.region (.loadO rfl Try.isAgg82 rfl (i := 1) rfl rfl (.nilCheckR rfl rfl rfl (.fieldAddr rfl Try.underlying92 rfl Try.sizeOf90 rfl (.bind (fun x156 e157 => ?_))))))))
     refine .loadR (Φ := fun v => ∃ (p158 : Option Nat) (k159 : Unit), v = (.map p158) ∧ RepRef Γ.g90 F_149 p158 x156.casks) 3 rfl Fz.r (hb38.mono (Fz.t l_40 l_150)) e157 rfl Try.isAgg90 rfl (fun vs ⟨q0, q1, h, r0⟩ => ⟨_, by subst h; exact rfl, q0, q1, rfl, r0⟩) (fun v hv => ?_)
     obtain ⟨p158, k159, rfl, h160⟩ := hv
     refine .bind (fun i161 e162 => ?_)
     obtain ⟨b163, hb164, hp165⟩ := h160.at e162
     refine .bind (fun x166 e167 => ?_)
     refine .rangeR 5 rfl hb164 hp165 e167 rfl Try.underlying90 rfl (fun it168 hn169 => ?_)
     refine .nil (.code (.block (.keep (.cons (k := 1) rfl (.cons (k := 4) rfl (.cons (k := 5) rfl (.cons (k := 6) rfl (.cons (k := 69) rfl (.nil _)))))) ?_)))
     refine .mapLoop (B := 3) (b := (b_cask_play_2 day5)) (fun td171 dn172 (s173 : (List CaskCask)) a w => ∃ (F_175 : Fz), F_149 ≤ F_175 ∧ Hd 79 [(dclo 48 [(.pointer (some ⟨b18, 0, none⟩)), (.pointer (some ⟨b19, 0, none⟩))])] [(1, (.int .i64 day5)), (4, (.pointer (some ⟨b18, 0, none⟩))), (5, (.int .i64 b148.1)), (6, (.pointer (some ⟨b19, 0, none⟩))), (69, (.pointer (some ⟨it168, 0, none⟩)))] F_175 [ownIter (fun x : Int => (.int .i64 x)) (fun F (x : (Option Nat)) v => ∃ (p0 : Option Addr) (k0 : Unit), v = (.pointer p0) ∧ RepPtr Γ.g119 F p0 x) F_149 b163 it168 td171 dn172, pt b19 (.cells [(.int .i64 0)].toArray 34), pt b18 (.cells [(.pointer (some ⟨b31, 0, none⟩))].toArray 82), arena Γ.g119 (C119 Γ) F_175 s173, arena Γ.g92 (C92 Γ) F_149 b148.2.2.1, arena Γ.g117 (C117 Γ) F_149 b148.2.2.2.1, hole Γ.g90 (C90 Γ) F_149 i161 b163 b148.2.2.2.2, R] a w) rfl ?_ ?_ ?_
     ·exact fun a w h => ⟨F_149, Fz.r, h.1.sub (.cons (k := 1) rfl (.cons (k := 4) rfl (.cons (k := 5) rfl (.cons (k := 6) rfl (.cons (k := 69) rfl (.nil _)))))), h.2⟩
     ·intro td171 dn172 s173 hall174
      rcases td171 with _ | ⟨y, ys⟩
      ·skip
       refine GC.ex (fun a w ⟨F_177, l_178, hA⟩ => ⟨_, hA, ?_⟩)
       refine .seq (.region (.nextM0 0 rfl rfl rfl rfl (.extract rfl rfl rfl (.nil (.code (.seq (.condF rfl ?_)))))))
       exact .exitOut rfl (MPost.over fun a w h => ⟨F_177, l_178, h.1.sub (.cons (k := 1) rfl (.cons (k := 4) rfl (.cons (k := 5) rfl (.cons (k := 6) rfl (.cons (k := 69) rfl (.nil _)))))), h.2⟩)
      ·skip
       refine GC.ex (fun a w ⟨F_179, l_180, hA⟩ => ⟨_, hA, ?_⟩)
       refine .seq (.region (.nextM1 0 rfl (List.cons_ne_nil _ _) rfl rfl rfl (fun x181 todo182 v183 hp184 hv185 => ?_)))
       obtain ⟨s186, hs187⟩ := hall174 x181 (hp184.mem_iff.1 (List.mem_cons_self ..))
       refine .use hs187 ?_
       unfold b_cask_play_2
       refine .extract rfl rfl rfl (.nil (.code (.seq (.condT rfl (.skip (.code (.block (.seq (.region (.entryM 0 rfl rfl rfl rfl (fun v hv => ?_)))))))))))
       obtain ⟨p188, k189, rfl, h190⟩ := hv _ l_180
       refine .extract rfl rfl rfl (.assign rfl rfl (.nil (.code (.region (.move rfl rfl (.move rfl rfl (.callT [3] rfl Try.call52 rfl rfl rfl rfl (c_cask_cask_rest _ Γ s173 x181.2 p188 k189 h190 day5) ?_)))))))
       rintro r_191 F_192 _ e194 l_193 rfl
       refine .pick [1, 1, 1, 0, 0, 0, 0, 0] (rfl : _ = [ownIter (fun x : Int => (.int .i64 x)) (fun F (x : (Option Nat)) v => ∃ (p0 : Option Addr) (k0 : Unit), v = (.pointer p0) ∧ RepPtr Γ.g119 F p0 x) F_149 b163 it168 todo182 (x181 :: dn172), pt b19 (.cells [(.int .i64 0)].toArray 34), pt b18 (.cells [(.pointer (some ⟨b31, 0, none⟩))].toArray 82), arena Γ.g119 (C119 Γ) F_192 r_191, arena Γ.g92 (C92 Γ) F_149 b148.2.2.1, arena Γ.g117 (C117 Γ) F_149 b148.2.2.2.1, hole Γ.g90 (C90 Γ) F_149 i161 b163 b148.2.2.2.2, R]) ?_
       refine .nil (.block ?_)
       exact .nil (MPost.norm hp184 hs187 fun a w h => ⟨F_192, (Fz.t l_180 l_193), h.1.sub (.cons (k := 1) rfl (.cons (k := 4) rfl (.cons (k := 5) rfl (.cons (k := 6) rfl (.cons (k := 69) rfl (.nil _)))))), h.2⟩)
     ·intro dn172 R_195 hR196 hp197
      refine GE.ex (fun a w ⟨F_198, l_199, hA⟩ => ⟨_, hA, ?_⟩)
      refine .iterBack 0 5 rfl rfl l_199 l_199 hp197 hn169 (set_back e167) (.code (.seq (.region (.loadO rfl Try.isAgg82 rfl (i := 1) rfl rfl (.move rfl rfl (.store (cs' := [(.pointer (some ⟨b31, 0, none⟩))]) Try.sizeOf82 rfl rfl rfl rfl (i := 1) rfl (Nat.le_of_ble_eq_true rfl) rfl rfl (.assign rfl rfl (.store (cs' := [(.int .i64 0)]) Try.sizeOf34 rfl rfl rfl rfl (i := 0) rfl (Nat.le_of_ble_eq_true rfl) rfl rfl ?_))))))))
      refine .nil (.code (.upR 3 (stays92 Γ) l_199 rfl (.upR 4 (stays117 Γ) l_199 rfl ?_)))
      exact .retQ (ret_postE (Γ := Γ) [1, 0] Try.call48 (c_cask_play_1 _ b18 (some 0) (some ⟨b31, 0, none⟩) () b19 0) rfl [2, 2, 2, 2, 2] Try.results28 (.cell rfl Try.isAgg82 (i := 0) rfl rfl (.tmp rfl (.cell rfl Try.isAgg34 (i := 1) rfl rfl (.nil)))) rfl (Fz.t l_8 (Fz.t l_11 (Fz.t l_14 (Fz.t l_17 (Fz.t l_22 (Fz.t l_29 (Fz.t l_37 (Fz.t l_40 (Fz.t l_150 l_199))))))))) ⟨(some ⟨b31, 0, none⟩), (), rfl, ((RepPtr.of hb38).mono (Fz.t l_40 (Fz.t l_150 l_199)))⟩)
    obtain ⟨rfl, F_151, p153, k154, l_152, h155, hA⟩ := hD
    exact interp_panic ((pan_postE 2 Try.call48 (c_cask_play_1 _ b18 b148.2.2.2 p153 k154 b19 b148.2.2.1) [1, 0] rfl Try.results28 (fun F'' le'' => .cell rfl Try.isAgg82 (i := 0) rfl rfl (.tmp rfl (.cell rfl Try.isAgg34 (i := 1) rfl rfl (.nil)))) (fun _ => rfl) (Fz.t l_8 (Fz.t l_11 (Fz.t l_14 (Fz.t l_17 (Fz.t l_22 (Fz.t l_29 (Fz.t l_37 (Fz.t l_40 l_152)))))))) (fun w F R h => by obtain ⟨l1, h1⟩ := h.newG; obtain ⟨l2, h2⟩ := h1.newG; obtain ⟨l3, h3⟩ := h2.newG; obtain ⟨l4, h4⟩ := h3.newG; exact ⟨⟨_, _, _, _⟩, _, (Fz.t (Fz.t (Fz.t l1 l2) l3) l4), h4.mono fun m hm => news_cons (news_cons (news_cons (news_cons (news_nil hm))))⟩) (fun Γ F'' => ⟨none, (), rfl, RepPtr.nil⟩)) hk a w hA)
noncomputable def m_cask_cask_shown (A1 : List CaskCask) (c2 : (Option Nat)) : Option ((ApiCask)) :=
 (c2).bind fun i7 => (A1[i7]?).bind fun x12 => some (ApiCask.mk x12.number x12.wood x12.place x12.room x12.owner x12.creditor x12.amount x12.times.age x12.times.woods x12.times.places)
set_option maxHeartbeats 4000000 in
theorem c_cask_cask_shown (F0 : Fz) (Γ : Gam) (A1 : List CaskCask) (c2 : (Option Nat)) (p3 : Option Addr) (_k4 : Unit) (h5 : RepPtr Γ.g119 F0 p3 c2) : CTH Try.prog 30 [(.pointer p3)].toArray F0 [arena Γ.g119 (C119 Γ) F0 A1] (m_cask_cask_shown A1 c2) (fun (r : ApiCask) _ v => v = (eApiCask r)) (fun (_r : ApiCask) F' => [arena Γ.g119 (C119 Γ) F' A1]) := by
 refine CTH.enter Try.func30 rfl Try.ntmps30 rfl fun r R => ?_
 refine .norm (Sub.refl _) (rfl : _ = [arena Γ.g119 (C119 Γ) F0 A1, R]) ?_
 unfold m_cask_cask_shown
 refine .seq (.region (.alloc (cs := (cApiCask (ApiCask.mk 0 0 0 0 0 0 0 0 (fun _ => 0) (fun _ => 0)))) rfl Try.zeroValue38 rfl (fun b6 => ?_)))
 refine .nil (.code (.seq (.keep (.cons (k := 0) rfl (.cons (k := 2) rfl (.nil _))) (.drawZ 44 mixedOK (by kernel_rfl) (.move rfl rfl (.bind (fun i7 e8 => ?_)))))))
 obtain ⟨b9, hb10, hp11⟩ := h5.at e8
 refine .nilCheckR hp11 rfl rfl (.fieldAddr rfl Try.underlying119 rfl Try.sizeOf3 rfl (.bind (fun x12 e13 => ?_)))
 refine .loadR (Φ := fun v => v = (.int .i64 x12.number)) 1 rfl Fz.r hb10 e13 rfl Try.isAgg3 rfl (fun vs ⟨q0, q1, h, r0⟩ => ⟨_, by subst h; exact rfl, rfl⟩) (fun v hv => ?_)
 subst hv
 refine .move rfl rfl (.nilCheckR hp11 rfl rfl (.fieldAddr rfl Try.underlying119 rfl Try.sizeOf3 rfl (.loadR (Φ := fun v => v = (.int .i64 x12.wood)) 1 rfl Fz.r hb10 e13 rfl Try.isAgg3 rfl (fun vs ⟨q0, q1, h, r0⟩ => ⟨_, by subst h; exact rfl, rfl⟩) (fun v hv => ?_))))
 subst hv
 refine .move rfl rfl (.nilCheckR hp11 rfl rfl (.fieldAddr rfl Try.underlying119 rfl Try.sizeOf3 rfl (.loadR (Φ := fun v => v = (.int .i64 x12.place)) 1 rfl Fz.r hb10 e13 rfl Try.isAgg3 rfl (fun vs ⟨q0, q1, h, r0⟩ => ⟨_, by subst h; exact rfl, rfl⟩) (fun v hv => ?_))))
 subst hv
 refine .move rfl rfl (.nilCheckR hp11 rfl rfl (.fieldAddr rfl Try.underlying119 rfl Try.sizeOf3 rfl (.loadR (Φ := fun v => v = (.int .i64 x12.room)) 1 rfl Fz.r hb10 e13 rfl Try.isAgg3 rfl (fun vs ⟨q0, q1, h, r0⟩ => ⟨_, by subst h; exact rfl, rfl⟩) (fun v hv => ?_))))
 subst hv
 refine .move rfl rfl (.nilCheckR hp11 rfl rfl (.fieldAddr rfl Try.underlying119 rfl Try.sizeOf3 rfl (.loadR (Φ := fun v => v = (.int .i64 x12.owner)) 1 rfl Fz.r hb10 e13 rfl Try.isAgg3 rfl (fun vs ⟨q0, q1, h, r0⟩ => ⟨_, by subst h; exact rfl, rfl⟩) (fun v hv => ?_))))
 subst hv
 refine .move rfl rfl (.nilCheckR hp11 rfl rfl (.fieldAddr rfl Try.underlying119 rfl Try.sizeOf3 rfl (.loadR (Φ := fun v => v = (.int .i64 x12.creditor)) 1 rfl Fz.r hb10 e13 rfl Try.isAgg3 rfl (fun vs ⟨q0, q1, h, r0⟩ => ⟨_, by subst h; exact rfl, rfl⟩) (fun v hv => ?_))))
 subst hv
 refine .move rfl rfl (.nilCheckR hp11 rfl rfl (.fieldAddr rfl Try.underlying119 rfl Try.sizeOf3 rfl (.loadR (Φ := fun v => v = (.int .i64 x12.amount)) 1 rfl Fz.r hb10 e13 rfl Try.isAgg3 rfl (fun vs ⟨q0, q1, h, r0⟩ => ⟨_, by subst h; exact rfl, rfl⟩) (fun v hv => ?_))))
 subst hv
 refine .move rfl rfl (.nilCheckR hp11 rfl rfl (.fieldAddr rfl Try.underlying119 rfl Try.sizeOf116 rfl (.fieldAddr rfl Try.underlying116 rfl Try.sizeOf3 rfl (.loadR (Φ := fun v => v = (.int .i64 x12.times.age)) 1 rfl Fz.r hb10 e13 rfl Try.isAgg3 rfl (fun vs ⟨q0, q1, h, r0⟩ => ⟨_, by subst h; exact rfl, rfl⟩) (fun v hv => ?_)))))
 subst hv
 refine .move rfl rfl (.nilCheckR hp11 rfl rfl (.fieldAddr rfl Try.underlying119 rfl Try.sizeOf116 rfl (.fieldAddr rfl Try.underlying116 rfl Try.sizeOf31 rfl (.loadRA (Φ := fun us => us = ((cArr 8 (cInt .i64)) x12.times.woods)) 1 rfl Fz.r hb10 e13 rfl Try.isAgg31 Try.sizeOf31 rfl (fun vs ⟨q0, q1, h, r0⟩ => ⟨_, by subst h; rfl, rfl, rfl⟩) (fun us hv => ?_)))))
 subst hv
 refine .move rfl rfl (.nilCheckR hp11 rfl rfl (.fieldAddr rfl Try.underlying119 rfl Try.sizeOf116 rfl (.fieldAddr rfl Try.underlying116 rfl Try.sizeOf31 rfl (.loadRA (Φ := fun us => us = ((cArr 8 (cInt .i64)) x12.times.places)) 1 rfl Fz.r hb10 e13 rfl Try.isAgg31 Try.sizeOf31 rfl (fun vs ⟨q0, q1, h, r0⟩ => ⟨_, by subst h; rfl, rfl, rfl⟩) (fun us hv => ?_)))))
 subst hv
 refine .build (cs := (cApiCask (ApiCask.mk x12.number x12.wood x12.place x12.room x12.owner x12.creditor x12.amount x12.times.age x12.times.woods x12.times.places)).toArray) rfl Try.underlying38 Try.zeroValue38 (plApiCask _ Try.underlying38) rfl rfl (by kernel_rfl) (.pend ?_)
 refine .store (cs' := (cApiCask (ApiCask.mk x12.number x12.wood x12.place x12.room x12.owner x12.creditor x12.amount x12.times.age x12.times.woods x12.times.places))) Try.sizeOf38 rfl rfl rfl rfl (i := 0) rfl (Nat.le_of_ble_eq_true rfl) rfl (setMany_all (by rfl)) (.nil (.keep (.cons (k := 2) rfl (.nil _)) (.code ?_)))
 exact .retH [1, 1] Try.results30 (.agg rfl Try.isAgg38 Try.sizeOf38 (i := 0) rfl (vs' := (cApiCask (ApiCask.mk x12.number x12.wood x12.place x12.room x12.owner x12.creditor x12.amount x12.times.age x12.times.woods x12.times.places))) (by kernel_rfl) rfl (.nil)) rfl Fz.r rfl
noncomputable def m_cask_At (l_1 : (List ApiCaskEvent)) (cask5 : Int) (day6 : Int) : Option (ApiCask × Int) :=
 (m_cask_play l_1 day6).bind fun r_8 => if (r_8.2.2.1 != 0) then (some ((ApiCask.mk 0 0 0 0 0 0 0 0 (fun _ => 0) (fun _ => 0)), r_8.2.2.1)) else ((r_8.1).bind fun i17 => (r_8.2.2.2.2.1[i17]?).bind fun x22 => (x22.casks).bind fun i27 => (r_8.2.2.2.2.2.2[i27]?).bind fun x32 => if (((mapGet x32 cask5).getD none)).isNone then (some ((ApiCask.mk 0 0 0 0 0 0 0 0 (fun _ => 0) (fun _ => 0)), 4)) else ((m_cask_cask_shown r_8.2.2.2.1 ((mapGet x32 cask5).getD none)).bind fun r_38 => some (r_38, 0)))
theorem c_cask_At (F0 : Fz) (l_1 : (List ApiCaskEvent)) (p2 : Option Addr) (k3 : Nat) (h4 : RepSl 8 (Ex cApiCaskEvent) F0 p2 k3 l_1) (cask5 : Int) (day6 : Int) : CT0 Try.prog 14 [(.slice p2 l_1.length k3), (.int .i64 cask5), (.int .i64 day6)].toArray F0 (m_cask_At l_1 cask5 day6) (fun r _ v => v = .tuple #[(eApiCask r.1), (.int .i64 r.2)]) := by
 refine CT0.enter Try.func14 rfl Try.ntmps14 rfl fun r R => ?_
 unfold m_cask_At
 refine .seq (.region (.alloc (cs := (cApiCask (ApiCask.mk 0 0 0 0 0 0 0 0 (fun _ => 0) (fun _ => 0)))) rfl Try.zeroValue38 rfl (fun b7 => ?_)))
 refine .assign rfl rfl (.nil (.code (.seq (.region (.move rfl rfl (.move rfl rfl (.callO rfl Try.call28 rfl rfl rfl (c_cask_play _ l_1 p2 k3 h4 day6) ?_)))))))
 rintro r_8 _12 F_9 _ e11 l_10 ⟨p13, k14, rfl, h15⟩
 refine .norm (Sub.refl _) (rfl : _ = [arena _12.g119 (C119 _12) F_9 r_8.2.2.2.1, arena _12.g92 (C92 _12) F_9 r_8.2.2.2.2.1, arena _12.g117 (C117 _12) F_9 r_8.2.2.2.2.2.1, arena _12.g90 (C90 _12) F_9 r_8.2.2.2.2.2.2, pt b7 (.cells (cApiCask (ApiCask.mk 0 0 0 0 0 0 0 0 (fun _ => 0) (fun _ => 0))).toArray 38), R]) (.move rfl rfl (.extract rfl rfl rfl (.extract rfl rfl rfl (.extract rfl rfl rfl ?_))))
 refine .assign rfl rfl (.assign rfl rfl (.assign rfl rfl (.nil (.code (.seq (.seq (.region (.move rfl rfl (.neq rfl rfl rfl (.nil (.code ?_)))))))))))
 refine .cond rfl (fun hb16 => ?_) (fun hb16 => ?_)
 ·skip
  refine .seq (.region (.build (cs := (cApiCask (ApiCask.mk 0 0 0 0 0 0 0 0 (fun _ => 0) (fun _ => 0))).toArray) rfl Try.underlying38 Try.zeroValue38 (plApiCask _ Try.underlying38) rfl rfl (by kernel_rfl) (.move rfl rfl (.store (cs' := (cApiCask (ApiCask.mk 0 0 0 0 0 0 0 0 (fun _ => 0) (fun _ => 0)))) Try.sizeOf38 rfl rfl rfl rfl (i := 4) rfl (Nat.le_of_ble_eq_true rfl) rfl (setMany_all (by rfl)) ?_))))
  refine .assign rfl rfl (.nil (.code ?_))
  exact .ret0 Try.results14 (.agg rfl Try.isAgg38 Try.sizeOf38 (i := 4) rfl (vs' := (cApiCask (ApiCask.mk 0 0 0 0 0 0 0 0 (fun _ => 0) (fun _ => 0)))) (by kernel_rfl) rfl (.tmp rfl (.nil))) (i := 5) rfl l_10 rfl
 ·skip
  refine .skip (.code (.seq (.region (.move rfl rfl (.bind (fun i17 e18 => ?_))))))
  obtain ⟨b19, hb20, hp21⟩ := h15.at e18
  refine .nilCheckR hp21 rfl rfl (.fieldAddr rfl Try.underlying92 rfl Try.sizeOf90 rfl (.bind (fun x22 e23 => ?_)))
  refine .loadR (Φ := fun v => ∃ (p24 : Option Nat) (k25 : Unit), v = (.map p24) ∧ RepRef _12.g90 F_9 p24 x22.casks) 1 rfl Fz.r hb20 e23 rfl Try.isAgg90 rfl (fun vs ⟨q0, q1, h, r0⟩ => ⟨_, by subst h; exact rfl, q0, q1, rfl, r0⟩) (fun v hv => ?_)
  obtain ⟨p24, k25, rfl, h26⟩ := hv
  refine .move rfl rfl (.bind (fun i27 e28 => ?_))
  obtain ⟨b29, hb30, hp31⟩ := h26.at e28
  refine .bind (fun x32 e33 => ?_)
  refine .lookupR (key := cask5) (z := none) 3 rfl Fz.r hb30 hp31 e33 rfl Try.underlying90 (.int Try.underlying3) Try.zeroValue88 ⟨none, (), rfl, RepPtr.nil⟩ rfl rfl ?_
  intro v hv
  obtain ⟨p34, k35, rfl, h36⟩ := hv
  refine .assign rfl rfl (.nil (.code (.seq (.seq (.region (.move rfl rfl (.eqlPtrNil h36 rfl Try.underlying88 rfl rfl (.nil (.keep (.cons (k := 6) rfl (.cons (k := 11) rfl (.cons (k := 30) rfl (.nil _)))) (.code (.cond rfl (fun hb37 => ?_) (fun hb37 => ?_))))))))))))
  ·skip
   refine .seq (.region (.build (cs := (cApiCask (ApiCask.mk 0 0 0 0 0 0 0 0 (fun _ => 0) (fun _ => 0))).toArray) rfl Try.underlying38 Try.zeroValue38 (plApiCask _ Try.underlying38) rfl rfl (by kernel_rfl) (.store (cs' := (cApiCask (ApiCask.mk 0 0 0 0 0 0 0 0 (fun _ => 0) (fun _ => 0)))) Try.sizeOf38 rfl rfl rfl rfl (i := 4) rfl (Nat.le_of_ble_eq_true rfl) rfl (setMany_all (by rfl)) (.assign rfl rfl (.nil ?_)))))
   refine .code ?_
   exact .ret0 Try.results14 (.agg rfl Try.isAgg38 Try.sizeOf38 (i := 4) rfl (vs' := (cApiCask (ApiCask.mk 0 0 0 0 0 0 0 0 (fun _ => 0) (fun _ => 0)))) (by kernel_rfl) rfl (.tmp rfl (.nil))) (i := 5) rfl l_10 rfl
  ·skip
   refine .skip (.code (.seq (.region (.move rfl rfl (.callT [0] rfl Try.call30 rfl rfl rfl rfl (c_cask_cask_shown _ _12 r_8.2.2.2.1 ((mapGet x32 cask5).getD none) p34 k35 h36) ?_)))))
   rintro r_38 F_39 _ e41 l_40 rfl
   refine .pick [0, 0, 0, 0, 0, 0] (rfl : _ = [arena _12.g119 (C119 _12) F_39 r_8.2.2.2.1, arena _12.g92 (C92 _12) F_9 r_8.2.2.2.2.1, arena _12.g117 (C117 _12) F_9 r_8.2.2.2.2.2.1, arena _12.g90 (C90 _12) F_9 r_8.2.2.2.2.2.2, pt b7 (.cells (cApiCask (ApiCask.mk 0 0 0 0 0 0 0 0 (fun _ => 0) (fun _ => 0))).toArray 38), R]) ?_
   refine .store (cs' := (cApiCask r_38)) Try.sizeOf38 rfl rfl rfl rfl (i := 4) rfl (Nat.le_of_ble_eq_true rfl) rfl (setMany_all (by rfl)) (.assign rfl rfl (.nil (.code ?_)))
   exact .ret0 Try.results14 (.agg rfl Try.isAgg38 Try.sizeOf38 (i := 4) rfl (vs' := (cApiCask r_38)) (by kernel_rfl) rfl (.tmp rfl (.nil))) (i := 5) rfl (Fz.t l_10 l_40) rfl
end Go.Proofs.Ytkffpbnbjnadnaa
end

section
namespace Go.Proofs.Ytkffpbnbjnadnaa
open Go.Dec Go.Shelf Go.RowKit Go.Maps Go.Sort
noncomputable def m_wormtubtop_awake12  : Option Bool :=
 (m_cask_At ([(ApiCaskEvent.mk 0 0 1 2 9 0 500 0), (ApiCaskEvent.mk 1 0 1 0 0 0 400 0)]) 1 99).bind fun r_8 => (m_bottle_Blend (ApiBatch.mk ([(ApiDraught.mk r_8.1 400 (ApiSpan.mk 6000 6000))]) 0 (ApiSpan.mk 0 0) false false)).bind fun r_17 => some ((((((((r_8.1.Age == 99) && ((r_8.1.Woods 2) == 99)) && (r_8.2 == 0)) && (r_17.1.Age == 99)) && ((r_17.1.Woods 2) == 99)) && (r_17.1.Casks == 1)) && (eq_24 r_17.1.Volume (ApiSpan.mk 400 400))) && (r_17.2 == 0))
theorem c_wormtubtop_awake12 (F0 : Fz)  : CT0 Try.prog 12 [].toArray F0 (m_wormtubtop_awake12) (fun r _ v => v = (.bool r)) := by
 refine CT0.enter Try.func12 rfl Try.ntmps12 rfl fun r R => ?_
 unfold m_wormtubtop_awake12
 refine .seq (.region (.assign rfl rfl (.nil (.code (.seq (.region (.build (cs := (cApiCaskEvent (ApiCaskEvent.mk 0 0 1 2 9 0 500 0)).toArray) rfl Try.underlying62 Try.zeroValue62 (plApiCaskEvent _ Try.underlying62) rfl rfl (by kernel_rfl) ?_)))))))
 refine .build (cs := (cApiCaskEvent (ApiCaskEvent.mk 1 0 1 0 0 0 400 0)).toArray) rfl Try.underlying62 Try.zeroValue62 (plApiCaskEvent _ Try.underlying62) rfl rfl (by kernel_rfl) ?_
 refine .sliceLit (cs := [.int .i64 (ApiCaskEvent.mk 0 0 1 2 9 0 500 0).Kind, .int .i64 (ApiCaskEvent.mk 0 0 1 2 9 0 500 0).Day, .int .i64 (ApiCaskEvent.mk 0 0 1 2 9 0 500 0).Cask, .int .i64 (ApiCaskEvent.mk 0 0 1 2 9 0 500 0).Other, .int .i64 (ApiCaskEvent.mk 0 0 1 2 9 0 500 0).Person, .int .i64 (ApiCaskEvent.mk 0 0 1 2 9 0 500 0).To, .int .i64 (ApiCaskEvent.mk 0 0 1 2 9 0 500 0).Amount, .int .i64 (ApiCaskEvent.mk 0 0 1 2 9 0 500 0).Where, .int .i64 (ApiCaskEvent.mk 1 0 1 0 0 0 400 0).Kind, .int .i64 (ApiCaskEvent.mk 1 0 1 0 0 0 400 0).Day, .int .i64 (ApiCaskEvent.mk 1 0 1 0 0 0 400 0).Cask, .int .i64 (ApiCaskEvent.mk 1 0 1 0 0 0 400 0).Other, .int .i64 (ApiCaskEvent.mk 1 0 1 0 0 0 400 0).Person, .int .i64 (ApiCaskEvent.mk 1 0 1 0 0 0 400 0).To, .int .i64 (ApiCaskEvent.mk 1 0 1 0 0 0 400 0).Amount, .int .i64 (ApiCaskEvent.mk 1 0 1 0 0 0 400 0).Where]) (zc := [.int .i64 (ApiCaskEvent.mk 0 0 0 0 0 0 0 0).Kind, .int .i64 (ApiCaskEvent.mk 0 0 0 0 0 0 0 0).Day, .int .i64 (ApiCaskEvent.mk 0 0 0 0 0 0 0 0).Cask, .int .i64 (ApiCaskEvent.mk 0 0 0 0 0 0 0 0).Other, .int .i64 (ApiCaskEvent.mk 0 0 0 0 0 0 0 0).Person, .int .i64 (ApiCaskEvent.mk 0 0 0 0 0 0 0 0).To, .int .i64 (ApiCaskEvent.mk 0 0 0 0 0 0 0 0).Amount, .int .i64 (ApiCaskEvent.mk 0 0 0 0 0 0 0 0).Where, .int .i64 (ApiCaskEvent.mk 0 0 0 0 0 0 0 0).Kind, .int .i64 (ApiCaskEvent.mk 0 0 0 0 0 0 0 0).Day, .int .i64 (ApiCaskEvent.mk 0 0 0 0 0 0 0 0).Cask, .int .i64 (ApiCaskEvent.mk 0 0 0 0 0 0 0 0).Other, .int .i64 (ApiCaskEvent.mk 0 0 0 0 0 0 0 0).Person, .int .i64 (ApiCaskEvent.mk 0 0 0 0 0 0 0 0).To, .int .i64 (ApiCaskEvent.mk 0 0 0 0 0 0 0 0).Amount, .int .i64 (ApiCaskEvent.mk 0 0 0 0 0 0 0 0).Where]) rfl Try.underlying57 Try.sizeOf62 Try.zeroValue62 rfl rfl rfl (by kernel_rfl) (by kernel_rfl) (fun b1 F_2 l_3 hb4 => ?_)
 have h5 : RepSl 8 (Ex cApiCaskEvent) F_2 (some ⟨b1, 0, none⟩) 2 ([(ApiCaskEvent.mk 0 0 1 2 9 0 500 0), (ApiCaskEvent.mk 1 0 1 0 0 0 400 0)]) := RepSl.ofRow hb4 (.cons ok_t62.mono rfl (.cons ok_t62.mono rfl .nil)) rfl rfl
 refine .assign rfl rfl (.nil (.code (.seq (.region (.move rfl rfl (.call0 rfl Try.call14 rfl rfl rfl (c_cask_At _ ([(ApiCaskEvent.mk 0 0 1 2 9 0 500 0), (ApiCaskEvent.mk 1 0 1 0 0 0 400 0)]) (some ⟨b1, 0, none⟩) 2 h5 1 99) ?_))))))
 rintro r_8 F_6 _ - l_7 rfl
 refine .move rfl rfl (.extract rfl rfl rfl (.extract rfl rfl rfl (.alloc (cs := (cApiCask (ApiCask.mk 0 0 0 0 0 0 0 0 (fun _ => 0) (fun _ => 0)))) rfl Try.zeroValue38 rfl (fun b9 => ?_))))
 refine .store (cs' := (cApiCask r_8.1)) Try.sizeOf38 rfl rfl rfl rfl (i := 0) rfl (Nat.le_of_ble_eq_true rfl) rfl (setMany_all (by rfl)) (.assign rfl rfl (.nil (.code (.seq (.region (.loadOA rfl Try.isAgg38 Try.sizeOf38 rfl (i := 0) rfl (vs := (cApiCask r_8.1)) (by kernel_rfl) rfl ?_))))))
 refine .build (cs := (cApiSpan (ApiSpan.mk 6000 6000)).toArray) rfl Try.underlying24 Try.zeroValue24 (plApiSpan _ Try.underlying24) rfl rfl (by kernel_rfl) (.build (cs := (cApiDraught (ApiDraught.mk r_8.1 400 (ApiSpan.mk 6000 6000))).toArray) rfl Try.underlying40 Try.zeroValue40 (plApiDraught _ Try.underlying40) rfl rfl (by kernel_rfl) ?_)
 refine .sliceLit (cs := [.int .i64 (ApiDraught.mk r_8.1 400 (ApiSpan.mk 6000 6000)).From.Number, .int .i64 (ApiDraught.mk r_8.1 400 (ApiSpan.mk 6000 6000)).From.Wood, .int .i64 (ApiDraught.mk r_8.1 400 (ApiSpan.mk 6000 6000)).From.Place, .int .i64 (ApiDraught.mk r_8.1 400 (ApiSpan.mk 6000 6000)).From.Room, .int .i64 (ApiDraught.mk r_8.1 400 (ApiSpan.mk 6000 6000)).From.Owner, .int .i64 (ApiDraught.mk r_8.1 400 (ApiSpan.mk 6000 6000)).From.Creditor, .int .i64 (ApiDraught.mk r_8.1 400 (ApiSpan.mk 6000 6000)).From.Amount, .int .i64 (ApiDraught.mk r_8.1 400 (ApiSpan.mk 6000 6000)).From.Age, .int .i64 ((ApiDraught.mk r_8.1 400 (ApiSpan.mk 6000 6000)).From.Woods 0), .int .i64 ((ApiDraught.mk r_8.1 400 (ApiSpan.mk 6000 6000)).From.Woods 1), .int .i64 ((ApiDraught.mk r_8.1 400 (ApiSpan.mk 6000 6000)).From.Woods 2), .int .i64 ((ApiDraught.mk r_8.1 400 (ApiSpan.mk 6000 6000)).From.Woods 3), .int .i64 ((ApiDraught.mk r_8.1 400 (ApiSpan.mk 6000 6000)).From.Woods 4), .int .i64 ((ApiDraught.mk r_8.1 400 (ApiSpan.mk 6000 6000)).From.Woods 5), .int .i64 ((ApiDraught.mk r_8.1 400 (ApiSpan.mk 6000 6000)).From.Woods 6), .int .i64 ((ApiDraught.mk r_8.1 400 (ApiSpan.mk 6000 6000)).From.Woods 7), .int .i64 ((ApiDraught.mk r_8.1 400 (ApiSpan.mk 6000 6000)).From.Places 0), .int .i64 ((ApiDraught.mk r_8.1 400 (ApiSpan.mk 6000 6000)).From.Places 1), .int .i64 ((ApiDraught.mk r_8.1 400 (ApiSpan.mk 6000 6000)).From.Places 2), .int .i64 ((ApiDraught.mk r_8.1 400 (ApiSpan.mk 6000 6000)).From.Places 3), .int .i64 ((ApiDraught.mk r_8.1 400 (ApiSpan.mk 6000 6000)).From.Places 4), .int .i64 ((ApiDraught.mk r_8.1 400 (ApiSpan.mk 6000 6000)).From.Places 5), .int .i64 ((ApiDraught.mk r_8.1 400 (ApiSpan.mk 6000 6000)).From.Places 6), .int .i64 ((ApiDraught.mk r_8.1 400 (ApiSpan.mk 6000 6000)).From.Places 7), .int .i64 (ApiDraught.mk r_8.1 400 (ApiSpan.mk 6000 6000)).Amount, .int .i64 (ApiDraught.mk r_8.1 400 (ApiSpan.mk 6000 6000)).Strength.Lo, .int .i64 (ApiDraught.mk r_8.1 400 (ApiSpan.mk 6000 6000)).Strength.Hi]) (zc := [.int .i64 (ApiDraught.mk (ApiCask.mk 0 0 0 0 0 0 0 0 (fun _ => 0) (fun _ => 0)) 0 (ApiSpan.mk 0 0)).From.Number, .int .i64 (ApiDraught.mk (ApiCask.mk 0 0 0 0 0 0 0 0 (fun _ => 0) (fun _ => 0)) 0 (ApiSpan.mk 0 0)).From.Wood, .int .i64 (ApiDraught.mk (ApiCask.mk 0 0 0 0 0 0 0 0 (fun _ => 0) (fun _ => 0)) 0 (ApiSpan.mk 0 0)).From.Place, .int .i64 (ApiDraught.mk (ApiCask.mk 0 0 0 0 0 0 0 0 (fun _ => 0) (fun _ => 0)) 0 (ApiSpan.mk 0 0)).From.Room, .int .i64 (ApiDraught.mk (ApiCask.mk 0 0 0 0 0 0 0 0 (fun _ => 0) (fun _ => 0)) 0 (ApiSpan.mk 0 0)).From.Owner, .int .i64 (ApiDraught.mk (ApiCask.mk 0 0 0 0 0 0 0 0 (fun _ => 0) (fun _ => 0)) 0 (ApiSpan.mk 0 0)).From.Creditor, .int .i64 (ApiDraught.mk (ApiCask.mk 0 0 0 0 0 0 0 0 (fun _ => 0) (fun _ => 0)) 0 (ApiSpan.mk 0 0)).From.Amount, .int .i64 (ApiDraught.mk (ApiCask.mk 0 0 0 0 0 0 0 0 (fun _ => 0) (fun _ => 0)) 0 (ApiSpan.mk 0 0)).From.Age, .int .i64 ((ApiDraught.mk (ApiCask.mk 0 0 0 0 0 0 0 0 (fun _ => 0) (fun _ => 0)) 0 (ApiSpan.mk 0 0)).From.Woods 0), .int .i64 ((ApiDraught.mk (ApiCask.mk 0 0 0 0 0 0 0 0 (fun _ => 0) (fun _ => 0)) 0 (ApiSpan.mk 0 0)).From.Woods 1), .int .i64 ((ApiDraught.mk (ApiCask.mk 0 0 0 0 0 0 0 0 (fun _ => 0) (fun _ => 0)) 0 (ApiSpan.mk 0 0)).From.Woods 2), .int .i64 ((ApiDraught.mk (ApiCask.mk 0 0 0 0 0 0 0 0 (fun _ => 0) (fun _ => 0)) 0 (ApiSpan.mk 0 0)).From.Woods 3), .int .i64 ((ApiDraught.mk (ApiCask.mk 0 0 0 0 0 0 0 0 (fun _ => 0) (fun _ => 0)) 0 (ApiSpan.mk 0 0)).From.Woods 4), .int .i64 ((ApiDraught.mk (ApiCask.mk 0 0 0 0 0 0 0 0 (fun _ => 0) (fun _ => 0)) 0 (ApiSpan.mk 0 0)).From.Woods 5), .int .i64 ((ApiDraught.mk (ApiCask.mk 0 0 0 0 0 0 0 0 (fun _ => 0) (fun _ => 0)) 0 (ApiSpan.mk 0 0)).From.Woods 6), .int .i64 ((ApiDraught.mk (ApiCask.mk 0 0 0 0 0 0 0 0 (fun _ => 0) (fun _ => 0)) 0 (ApiSpan.mk 0 0)).From.Woods 7), .int .i64 ((ApiDraught.mk (ApiCask.mk 0 0 0 0 0 0 0 0 (fun _ => 0) (fun _ => 0)) 0 (ApiSpan.mk 0 0)).From.Places 0), .int .i64 ((ApiDraught.mk (ApiCask.mk 0 0 0 0 0 0 0 0 (fun _ => 0) (fun _ => 0)) 0 (ApiSpan.mk 0 0)).From.Places 1), .int .i64 ((ApiDraught.mk (ApiCask.mk 0 0 0 0 0 0 0 0 (fun _ => 0) (fun _ => 0)) 0 (ApiSpan.mk 0 0)).From.Places 2), .int .i64 ((ApiDraught.mk (ApiCask.mk 0 0 0 0 0 0 0 0 (fun _ => 0) (fun _ => 0)) 0 (ApiSpan.mk 0 0)).From.Places 3), .int .i64 ((ApiDraught.mk (ApiCask.mk 0 0 0 0 0 0 0 0 (fun _ => 0) (fun _ => 0)) 0 (ApiSpan.mk 0 0)).From.Places 4), .int .i64 ((ApiDraught.mk (ApiCask.mk 0 0 0 0 0 0 0 0 (fun _ => 0) (fun _ => 0)) 0 (ApiSpan.mk 0 0)).From.Places 5), .int .i64 ((ApiDraught.mk (ApiCask.mk 0 0 0 0 0 0 0 0 (fun _ => 0) (fun _ => 0)) 0 (ApiSpan.mk 0 0)).From.Places 6), .int .i64 ((ApiDraught.mk (ApiCask.mk 0 0 0 0 0 0 0 0 (fun _ => 0) (fun _ => 0)) 0 (ApiSpan.mk 0 0)).From.Places 7), .int .i64 (ApiDraught.mk (ApiCask.mk 0 0 0 0 0 0 0 0 (fun _ => 0) (fun _ => 0)) 0 (ApiSpan.mk 0 0)).Amount, .int .i64 (ApiDraught.mk (ApiCask.mk 0 0 0 0 0 0 0 0 (fun _ => 0) (fun _ => 0)) 0 (ApiSpan.mk 0 0)).Strength.Lo, .int .i64 (ApiDraught.mk (ApiCask.mk 0 0 0 0 0 0 0 0 (fun _ => 0) (fun _ => 0)) 0 (ApiSpan.mk 0 0)).Strength.Hi]) rfl Try.underlying22 Try.sizeOf40 Try.zeroValue40 rfl rfl rfl (by kernel_rfl) (by kernel_rfl) (fun b10 F_11 l_12 hb13 => ?_)
 have h14 : RepSl 27 (Ex cApiDraught) F_11 (some ⟨b10, 0, none⟩) 1 ([(ApiDraught.mk r_8.1 400 (ApiSpan.mk 6000 6000))]) := RepSl.ofRow hb13 (.cons ok_t40.mono rfl .nil) rfl rfl
 refine .build (cs := (cApiBatch (ApiBatch.mk ([(ApiDraught.mk r_8.1 400 (ApiSpan.mk 6000 6000))]) 0 (ApiSpan.mk 0 0) false false) (some ⟨b10, 0, none⟩) 1).toArray) rfl Try.underlying26 Try.zeroValue26 (plApiBatch _ Try.underlying26) rfl rfl (by kernel_rfl) ?_
 refine .call0 rfl Try.call7 rfl rfl rfl (c_bottle_Blend _ (ApiBatch.mk ([(ApiDraught.mk r_8.1 400 (ApiSpan.mk 6000 6000))]) 0 (ApiSpan.mk 0 0) false false) (some ⟨b10, 0, none⟩) 1 h14) ?_
 rintro r_17 F_15 _ - l_16 rfl
 refine .move rfl rfl (.extract rfl rfl rfl (.extract rfl rfl rfl (.alloc (cs := (cApiBottling (ApiBottling.mk (ApiSpan.mk 0 0) (ApiSpan.mk 0 0) 0 (fun _ => 0) (fun _ => 0) 0))) rfl Try.zeroValue33 rfl (fun b18 => ?_))))
 refine .store (cs' := (cApiBottling r_17.1)) Try.sizeOf33 rfl rfl rfl rfl (i := 0) rfl (Nat.le_of_ble_eq_true rfl) rfl (setMany_all (by rfl)) (.assign rfl rfl (.nil (.code (.seq (.region (.fieldAddr rfl Try.underlying38 rfl Try.sizeOf3 rfl (.loadO rfl Try.isAgg3 rfl (i := 1) rfl rfl (.eql rfl rfl rfl (.move rfl rfl ?_)))))))))
 refine .andP (b := (r_8.1.Age == 99)) (b' := ((r_8.1.Woods 2) == 99)) 5 31 (fun hb19 => ?_) (fun hb20 => ?_) (fun F_21 l_22 => ?_)
 ·skip
  refine .onH hb19 rfl rfl (.fieldAddr rfl Try.underlying38 rfl Try.sizeOf31 rfl (.onH hb19 rfl rfl (.indexAddrA rfl Try.underlying31 Try.sizeOf3 rfl rfl (j := 2) rfl (.onH hb19 rfl rfl (.loadO rfl Try.isAgg3 rfl (i := 1) rfl rfl (.onH hb19 rfl rfl (.eql rfl rfl rfl (.pickTH hb19 rfl rfl rfl ?_))))))))
  exact .fin 5 rfl rfl (by kernel_rfl) Fz.r
 ·skip
  refine .offH hb20 rfl rfl rfl (.offH hb20 rfl rfl rfl (.offH hb20 rfl rfl rfl (.offH hb20 rfl rfl rfl (.pickFH hb20 rfl rfl rfl ?_))))
  exact .fin 5 rfl rfl (by kernel_rfl) Fz.r
 refine .move rfl rfl (.andP (b := ((r_8.1.Age == 99) && ((r_8.1.Woods 2) == 99))) (b' := (r_8.2 == 0)) 3 35 (fun hb23 => ?_) (fun hb24 => ?_) (fun F_25 l_26 => ?_))
 ·skip
  refine .onH hb23 rfl rfl (.move rfl rfl (.onH hb23 rfl rfl (.eql rfl rfl rfl (.pickTH hb23 rfl rfl rfl ?_))))
  exact .fin 3 rfl rfl (by kernel_rfl) Fz.r
 ·skip
  refine .offH hb24 rfl rfl rfl (.offH hb24 rfl rfl rfl (.pickFH hb24 rfl rfl rfl ?_))
  exact .fin 3 rfl rfl (by kernel_rfl) Fz.r
 refine .move rfl rfl (.andP (b := (((r_8.1.Age == 99) && ((r_8.1.Woods 2) == 99)) && (r_8.2 == 0))) (b' := (r_17.1.Age == 99)) 4 40 (fun hb27 => ?_) (fun hb28 => ?_) (fun F_29 l_30 => ?_))
 ·skip
  refine .onH hb27 rfl rfl (.fieldAddr rfl Try.underlying33 rfl Try.sizeOf3 rfl (.onH hb27 rfl rfl (.loadO rfl Try.isAgg3 rfl (i := 0) rfl rfl (.onH hb27 rfl rfl (.eql rfl rfl rfl (.pickTH hb27 rfl rfl rfl ?_))))))
  exact .fin 4 rfl rfl (by kernel_rfl) Fz.r
 ·skip
  refine .offH hb28 rfl rfl rfl (.offH hb28 rfl rfl rfl (.offH hb28 rfl rfl rfl (.pickFH hb28 rfl rfl rfl ?_)))
  exact .fin 4 rfl rfl (by kernel_rfl) Fz.r
 refine .move rfl rfl (.andP (b := ((((r_8.1.Age == 99) && ((r_8.1.Woods 2) == 99)) && (r_8.2 == 0)) && (r_17.1.Age == 99))) (b' := ((r_17.1.Woods 2) == 99)) 5 46 (fun hb31 => ?_) (fun hb32 => ?_) (fun F_33 l_34 => ?_))
 ·skip
  refine .onH hb31 rfl rfl (.fieldAddr rfl Try.underlying33 rfl Try.sizeOf31 rfl (.onH hb31 rfl rfl (.indexAddrA rfl Try.underlying31 Try.sizeOf3 rfl rfl (j := 2) rfl (.onH hb31 rfl rfl (.loadO rfl Try.isAgg3 rfl (i := 0) rfl rfl (.onH hb31 rfl rfl (.eql rfl rfl rfl (.pickTH hb31 rfl rfl rfl ?_))))))))
  exact .fin 5 rfl rfl (by kernel_rfl) Fz.r
 ·skip
  refine .offH hb32 rfl rfl rfl (.offH hb32 rfl rfl rfl (.offH hb32 rfl rfl rfl (.offH hb32 rfl rfl rfl (.pickFH hb32 rfl rfl rfl ?_))))
  exact .fin 5 rfl rfl (by kernel_rfl) Fz.r
 refine .move rfl rfl (.andP (b := (((((r_8.1.Age == 99) && ((r_8.1.Woods 2) == 99)) && (r_8.2 == 0)) && (r_17.1.Age == 99)) && ((r_17.1.Woods 2) == 99))) (b' := (r_17.1.Casks == 1)) 4 51 (fun hb35 => ?_) (fun hb36 => ?_) (fun F_37 l_38 => ?_))
 ·skip
  refine .onH hb35 rfl rfl (.fieldAddr rfl Try.underlying33 rfl Try.sizeOf3 rfl (.onH hb35 rfl rfl (.loadO rfl Try.isAgg3 rfl (i := 0) rfl rfl (.onH hb35 rfl rfl (.eql rfl rfl rfl (.pickTH hb35 rfl rfl rfl ?_))))))
  exact .fin 4 rfl rfl (by kernel_rfl) Fz.r
 ·skip
  refine .offH hb36 rfl rfl rfl (.offH hb36 rfl rfl rfl (.offH hb36 rfl rfl rfl (.pickFH hb36 rfl rfl rfl ?_)))
  exact .fin 4 rfl rfl (by kernel_rfl) Fz.r
 refine .move rfl rfl (.andP (b := ((((((r_8.1.Age == 99) && ((r_8.1.Woods 2) == 99)) && (r_8.2 == 0)) && (r_17.1.Age == 99)) && ((r_17.1.Woods 2) == 99)) && (r_17.1.Casks == 1))) (b' := (eq_24 r_17.1.Volume (ApiSpan.mk 400 400))) 5 57 (fun hb39 => ?_) (fun hb40 => ?_) (fun F_41 l_42 => ?_))
 ·skip
  refine .onH hb39 rfl rfl (.fieldAddr rfl Try.underlying33 rfl Try.sizeOf24 rfl (.onH hb39 rfl rfl (.loadOA rfl Try.isAgg24 Try.sizeOf24 rfl (i := 0) rfl (vs := (cApiSpan r_17.1.Volume)) (by kernel_rfl) rfl (.onH hb39 rfl rfl (.build (cs := (cApiSpan (ApiSpan.mk 400 400)).toArray) rfl Try.underlying24 Try.zeroValue24 (plApiSpan _ Try.underlying24) rfl rfl (by kernel_rfl) (.onH hb39 rfl rfl ?_))))))
  refine .eqlR rfl Try.eqGuardType24 (fun w => req_24 r_17.1.Volume (ApiSpan.mk 400 400) w) rfl rfl (.pickTH hb39 rfl rfl rfl ?_)
  exact .fin 5 rfl rfl (by kernel_rfl) Fz.r
 ·skip
  refine .offH hb40 rfl rfl rfl (.offH hb40 rfl rfl rfl (.offH hb40 rfl rfl rfl (.offH hb40 rfl rfl rfl (.pickFH hb40 rfl rfl rfl ?_))))
  exact .fin 5 rfl rfl (by kernel_rfl) Fz.r
 refine .move rfl rfl (.andP (b := (((((((r_8.1.Age == 99) && ((r_8.1.Woods 2) == 99)) && (r_8.2 == 0)) && (r_17.1.Age == 99)) && ((r_17.1.Woods 2) == 99)) && (r_17.1.Casks == 1)) && (eq_24 r_17.1.Volume (ApiSpan.mk 400 400)))) (b' := (r_17.2 == 0)) 3 61 (fun hb43 => ?_) (fun hb44 => ?_) (fun F_45 l_46 => ?_))
 ·skip
  refine .onH hb43 rfl rfl (.move rfl rfl (.onH hb43 rfl rfl (.eql rfl rfl rfl (.pickTH hb43 rfl rfl rfl ?_))))
  exact .fin 3 rfl rfl (by kernel_rfl) Fz.r
 ·skip
  refine .offH hb44 rfl rfl rfl (.offH hb44 rfl rfl rfl (.pickFH hb44 rfl rfl rfl ?_))
  exact .fin 3 rfl rfl (by kernel_rfl) Fz.r
 refine .assign rfl rfl (.nil (.keep (.cons (k := 0) rfl (.nil _)) (.code ?_)))
 exact .ret0 Try.results12 (.tmp rfl (.nil)) (i := 2) rfl (Fz.t l_3 (Fz.t l_7 (Fz.t l_12 (Fz.t l_16 (Fz.t l_22 (Fz.t l_26 (Fz.t l_30 (Fz.t l_34 (Fz.t l_38 (Fz.t l_42 l_46)))))))))) rfl
end Go.Proofs.Ytkffpbnbjnadnaa
end
