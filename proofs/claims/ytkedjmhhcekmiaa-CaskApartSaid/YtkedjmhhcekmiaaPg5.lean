/- Own texts and texts printed by a program of mine, for caskApart_holds; only what it reaches. -/
import Derived.Test.YtkedjmhhcekmiaaPg4
section
namespace Go.Proofs.Ytkedjmhhcekmiaa
open Go.Dec Go.Shelf Go.RowKit Go.Maps Go.Sort
noncomputable def m_cask_book_sell (A1 : List CaskCask) (A2 : List CaskBook) (A3 : List (List (Int × Bool))) (A4 : List (List (Int × (Option Nat)))) (b5 : (Option Nat)) (x9 : ApiCaskEvent) : Option (Out CaskMisfit ((List CaskCask) × (List (List (Int × Bool))) × (List (List (Int × (Option Nat)))))) :=
 bindX (m_cask_book_find A1 A2 A4 b5 x9.Cask x9.Day) (fun q23 => some (.pan q23)) fun r_14 => ((r_14.1).bind fun i25 => (r_14.2[i25]?).bind fun x30 => if (x30.owner == x9.Person) then (bindX (m_cask_need (x30.creditor == (-1)) 11) (fun q69 => some (.done q69)) fun _r_63 => some (.next ())) else (bindX (m_cask_need false 11) (fun q106 => some (.done q106)) fun _r_100 => some (.next ())) : Option (Ctl (Unit) (CaskMisfit))).bind fun j113 => match j113 with | .next _j107 => ((r_14.1).bind fun i115 => (r_14.2[i115]?).bind fun x120 => bindX (m_cask_need (x9.To != x120.owner) 5) (fun q142 => some (.pan q142)) fun _r_136 => (r_14.1).bind fun i143 => (r_14.2[i143]?).bind fun x148 => bindv ({ x148 with owner := x9.To }) fun x150 => bindv (List.set r_14.2 i143 x150) fun A152 => some (.ok (A152, A3, A4))) | .done b110 => (some (.pan b110))
set_option maxHeartbeats 4000000 in
theorem c_cask_book_sell (F0 : Fz) (Γ : Gam) (A1 : List CaskCask) (A2 : List CaskBook) (A3 : List (List (Int × Bool))) (A4 : List (List (Int × (Option Nat)))) (b5 : (Option Nat)) (p6 : Option Addr) (k7 : Unit) (h8 : RepPtr Γ.g69 F0 p6 b5) (x9 : ApiCaskEvent) : CTX Try.prog penc 51 [(.pointer p6), (eApiCaskEvent x9)].toArray F0 [arena Γ.g75 (C75 Γ) F0 A1, arena Γ.g69 (C69 Γ) F0 A2, arena Γ.g73 (C73 Γ) F0 A3, arena Γ.g67 (C67 Γ) F0 A4] (m_cask_book_sell A1 A2 A3 A4 b5 x9) (fun (_r : (List CaskCask) × (List (List (Int × Bool))) × (List (List (Int × (Option Nat))))) _ v => v = .tuple #[]) (fun (r : (List CaskCask) × (List (List (Int × Bool))) × (List (List (Int × (Option Nat))))) F' _ => [arena Γ.g75 (C75 Γ) F' r.1, arena Γ.g69 (C69 Γ) F' A2, arena Γ.g73 (C73 Γ) F' r.2.1, arena Γ.g67 (C67 Γ) F' r.2.2]) := by
 refine CTX.enter Try.func51 rfl Try.ntmps51 rfl fun r R => ?_
 refine .norm (Sub.refl _) (rfl : _ = [arena Γ.g75 (C75 Γ) F0 A1, arena Γ.g69 (C69 Γ) F0 A2, arena Γ.g73 (C73 Γ) F0 A3, arena Γ.g67 (C67 Γ) F0 A4, R]) ?_
 unfold m_cask_book_sell
 refine .seq ?_
 refine .region ?_
 refine .boxF (cs := (cApiCaskEvent x9)) rfl rfl rfl (fun b10 F_11 l_12 hb13 => ?_)
 refine .nil ?_
 refine .code ?_
 refine .seq ?_
 refine .region ?_
 refine .move rfl rfl ?_
 refine .fieldAddr rfl Try.underlying45 rfl Try.sizeOf3 rfl ?_
 refine .loadF rfl Try.isAgg3 rfl hb13 rfl ?_
 refine .fieldAddr rfl Try.underlying45 rfl Try.sizeOf3 rfl ?_
 refine .loadF rfl Try.isAgg3 rfl hb13 rfl ?_
 refine .upR 0 (stays75 Γ) l_12 rfl ?_
 refine .upR 1 (stays69 Γ) l_12 rfl ?_
 refine .upR 3 (stays67 Γ) l_12 rfl ?_
 refine .callB [0, 0, 1] rfl Try.call66 rfl rfl rfl rfl (c_cask_book_find _ Γ A1 A2 A4 b5 p6 k7 (h8.mono l_12) x9.Cask x9.Day) ?_ (fun q23 F_21 _ l_22 => (pan_postX (i := 1) rfl (Fz.le_trans l_12 l_22)))
 rintro r_14 F_15 _ e17 l_16 ⟨p18, k19, rfl, h20⟩
 refine .pick [0, 0, 1, 0, 0] (rfl : _ = [arena Γ.g75 (C75 Γ) F_15 r_14.2, arena Γ.g69 (C69 Γ) F_15 A2, arena Γ.g73 (C73 Γ) F0 A3, arena Γ.g67 (C67 Γ) F_15 A4, R]) ?_
 refine .assign rfl rfl ?_
 refine .nil ?_
 refine .code ?_
 refine .seq ?_
 refine .keep (.cons (k := 3) rfl (.cons (k := 4) rfl (.nil _))) ?_
 refine GC.join (σ := Unit) (γ := CaskMisfit) (fun j107 a w => ∃ (F_108 : Fz), F_15 ≤ F_108 ∧ Hd 39 [] [(3, (.pointer (some ⟨b10, 0, none⟩))), (4, (.pointer p18))] F_108 [arena Γ.g75 (C75 Γ) F_15 r_14.2, arena Γ.g69 (C69 Γ) F_15 A2, arena Γ.g73 (C73 Γ) F0 A3, arena Γ.g67 (C67 Γ) F_15 A4, R] a w) (fun b110 e a w => e = .panic [{ v := penc b110, recovered := false }] ∧ ∃ (F_111 : Fz), F_15 ≤ F_111 ∧ Hd 39 [] [] F_111 [R] a w) (fun sj => ?_) (fun j107 hs0 => GE.ex (fun a w ⟨F_108, l_109, hA⟩ => ⟨_, hA, ?_⟩)) ?_
 ·skip
  refine .bind (fun i25 e26 => ?_)
  obtain ⟨b27, hb28, hp29⟩ := h20.at e26
  refine .bind (fun x30 e31 => ?_)
  refine .ite (fun hb32 => ?_) (fun hb32 => ?_)
  ·skip
   refine .drawGD 14 0 (fun env24 => [((.pointer p18), fun _ => True), ((.pointer (some ⟨b27, 0, none⟩)), fun _ => True), ((.pointer (some ⟨b27, 0 + 4, none⟩)), fun _ => True), ((.int .i64 x30.owner), fun _ => True), ((.pointer (some ⟨b10, 0 + 4, none⟩)), fun _ => True), ((.int .i64 x9.Person), fun _ => True), ((.bool (x30.owner == x9.Person)), fun _ => True), ((.bool (x30.owner == x9.Person)), fun _ => True), ((.pointer p18), fun _ => True), ((.pointer (some ⟨b27, 0, none⟩)), fun _ => True), ((.pointer (some ⟨b27, 0 + 5, none⟩)), fun _ => True), ((.int .i64 x30.creditor), fun _ => True), ((.bool (x30.creditor == (-1))), fun _ => True), ((.bool (x30.creditor == (-1))), fun _ => True)]) (fun L env24 => [arena Γ.g75 (C75 Γ) F_15 r_14.2, arena Γ.g69 (C69 Γ) F_15 A2, arena Γ.g73 (C73 Γ) F0 A3, arena Γ.g67 (C67 Γ) F_15 A4, R]) mixedOK (by kernel_rfl) (deepN (k := 14) (n := 15) rfl (allLt15 (p := fun t => 14 ≤ t → ∀ j, j < t → ∃ s, depB _ s t j = true) (fun h => absurd h (by decide)) (fun h => absurd h (by decide)) (fun h => absurd h (by decide)) (fun h => absurd h (by decide)) (fun h => absurd h (by decide)) (fun h => absurd h (by decide)) (fun h => absurd h (by decide)) (fun h => absurd h (by decide)) (fun h => absurd h (by decide)) (fun h => absurd h (by decide)) (fun h => absurd h (by decide)) (fun h => absurd h (by decide)) (fun h => absurd h (by decide)) (fun h => absurd h (by decide)) (fun _ => allLt14 (p := fun j => ∃ s, depB _ s 14 j = true) ⟨6, rfl⟩ ⟨5, rfl⟩ ⟨4, rfl⟩ ⟨3, rfl⟩ ⟨4, rfl⟩ ⟨3, rfl⟩ ⟨2, rfl⟩ ⟨1, rfl⟩ ⟨6, rfl⟩ ⟨5, rfl⟩ ⟨4, rfl⟩ ⟨3, rfl⟩ ⟨2, rfl⟩ ⟨1, rfl⟩))) rfl (fun _ => rfl) (by kernel_rfl) (fun _ => rfl) ?_ (fun env24 F_33 l_34 hphi => ?_)
   ·skip
    refine .cons (fun L env24 F_35 l_36 hL hdn hup hphi => ⟨[(4, (.pointer p18))], fun S hS hV => (.cons (hS _ _ rfl) (Sub.nil _)), ?_⟩) ?_
    ·skip
     refine .move rfl rfl ?_
     exact .finV rfl rfl (Fz.le_refl _)
    refine .cons (fun L env24 F_37 l_38 hL hdn hup hphi => ⟨[(11, (.pointer p18))], fun S hS hV => (.cons (hV 0 11 _ (hdn 1 0 rfl) rfl rfl) (Sub.nil _)), ?_⟩) ?_
    ·skip
     refine .nilCheckR hp29 rfl rfl ?_
     exact .finV rfl rfl (Fz.le_refl _)
    refine .cons (fun L env24 F_39 l_40 hL hdn hup hphi => ⟨[(12, (.pointer (some ⟨b27, 0, none⟩)))], fun S hS hV => (.cons (hV 1 12 _ (hdn 1 1 rfl) rfl rfl) (Sub.nil _)), ?_⟩) ?_
    ·skip
     refine .fieldAddr rfl Try.underlying75 rfl Try.sizeOf3 rfl ?_
     exact .finV rfl rfl (Fz.le_refl _)
    refine .cons (fun L env24 F_41 l_42 hL hdn hup hphi => ⟨[(13, (.pointer (some ⟨b27, 0 + 4, none⟩)))], fun S hS hV => (.cons (hV 2 13 _ (hdn 1 2 rfl) rfl rfl) (Sub.nil _)), ?_⟩) ?_
    ·skip
     refine .loadR (Φ := fun v => v = (.int .i64 x30.owner)) 0 rfl l_42 (hb28.mono l_42) e31 rfl Try.isAgg3 rfl (fun vs ⟨q0, q1, h, r0⟩ => ⟨_, by subst h; exact rfl, rfl⟩) (fun v hv => ?_)
     subst hv
     exact .finV rfl rfl (Fz.le_refl _)
    refine .cons (fun L env24 F_43 l_44 hL hdn hup hphi => ⟨[(3, (.pointer (some ⟨b10, 0, none⟩)))], fun S hS hV => (.cons (hS _ _ rfl) (Sub.nil _)), ?_⟩) ?_
    ·skip
     refine .fieldAddr rfl Try.underlying45 rfl Try.sizeOf3 rfl ?_
     exact .finV rfl rfl (Fz.le_refl _)
    refine .cons (fun L env24 F_45 l_46 hL hdn hup hphi => ⟨[(15, (.pointer (some ⟨b10, 0 + 4, none⟩)))], fun S hS hV => (.cons (hV 4 15 _ (hdn 1 4 rfl) rfl rfl) (Sub.nil _)), ?_⟩) ?_
    ·skip
     refine .loadF rfl Try.isAgg3 rfl ((Fz.le_trans l_16 l_46).mem _ _ hb13) rfl ?_
     exact .finV rfl rfl (Fz.le_refl _)
    refine .cons (fun L env24 F_47 l_48 hL hdn hup hphi => ⟨[(14, (.int .i64 x30.owner)), (16, (.int .i64 x9.Person))], fun S hS hV => (.cons (hV 3 14 _ (hdn 1 3 rfl) rfl rfl) (.cons (hV 5 16 _ (hdn 1 5 rfl) rfl rfl) (Sub.nil _))), ?_⟩) ?_
    ·skip
     refine .eql rfl rfl rfl ?_
     exact .finV rfl rfl (Fz.le_refl _)
    refine .cons (fun L env24 F_49 l_50 hL hdn hup hphi => ⟨[(17, (.bool (x30.owner == x9.Person)))], fun S hS hV => (.cons (hV 6 17 _ (hdn 1 6 rfl) rfl rfl) (Sub.nil _)), ?_⟩) ?_
    ·skip
     refine .move rfl rfl ?_
     exact .finV rfl rfl (Fz.le_refl _)
    refine .cons (fun L env24 F_51 l_52 hL hdn hup hphi => ⟨[(4, (.pointer p18)), (18, (.bool (x30.owner == x9.Person)))], fun S hS hV => (.cons (hS _ _ rfl) (.cons (hV 7 18 _ (hdn 1 7 rfl) rfl rfl) (Sub.nil _))), ?_⟩) ?_
    ·skip
     refine .onH hb32 rfl rfl ?_
     refine .move rfl rfl ?_
     exact .finV rfl rfl (Fz.le_refl _)
    refine .cons (fun L env24 F_53 l_54 hL hdn hup hphi => ⟨[(18, (.bool (x30.owner == x9.Person))), (19, (.pointer p18))], fun S hS hV => (.cons (hV 7 18 _ (hdn 1 7 rfl) rfl rfl) (.cons (hV 8 19 _ (hdn 1 8 rfl) rfl rfl) (Sub.nil _))), ?_⟩) ?_
    ·skip
     refine .onH hb32 rfl rfl ?_
     refine .nilCheckR hp29 rfl rfl ?_
     exact .finV rfl rfl (Fz.le_refl _)
    refine .cons (fun L env24 F_55 l_56 hL hdn hup hphi => ⟨[(18, (.bool (x30.owner == x9.Person))), (20, (.pointer (some ⟨b27, 0, none⟩)))], fun S hS hV => (.cons (hV 7 18 _ (hdn 1 7 rfl) rfl rfl) (.cons (hV 9 20 _ (hdn 1 9 rfl) rfl rfl) (Sub.nil _))), ?_⟩) ?_
    ·skip
     refine .onH hb32 rfl rfl ?_
     refine .fieldAddr rfl Try.underlying75 rfl Try.sizeOf3 rfl ?_
     exact .finV rfl rfl (Fz.le_refl _)
    refine .cons (fun L env24 F_57 l_58 hL hdn hup hphi => ⟨[(18, (.bool (x30.owner == x9.Person))), (21, (.pointer (some ⟨b27, 0 + 5, none⟩)))], fun S hS hV => (.cons (hV 7 18 _ (hdn 1 7 rfl) rfl rfl) (.cons (hV 10 21 _ (hdn 1 10 rfl) rfl rfl) (Sub.nil _))), ?_⟩) ?_
    ·skip
     refine .onH hb32 rfl rfl ?_
     refine .loadR (Φ := fun v => v = (.int .i64 x30.creditor)) 0 rfl l_58 (hb28.mono l_58) e31 rfl Try.isAgg3 rfl (fun vs ⟨q0, q1, h, r0⟩ => ⟨_, by subst h; exact rfl, rfl⟩) (fun v hv => ?_)
     subst hv
     exact .finV rfl rfl (Fz.le_refl _)
    refine .cons (fun L env24 F_59 l_60 hL hdn hup hphi => ⟨[(18, (.bool (x30.owner == x9.Person))), (22, (.int .i64 x30.creditor))], fun S hS hV => (.cons (hV 7 18 _ (hdn 1 7 rfl) rfl rfl) (.cons (hV 11 22 _ (hdn 1 11 rfl) rfl rfl) (Sub.nil _))), ?_⟩) ?_
    ·skip
     refine .onH hb32 rfl rfl ?_
     refine .eql rfl rfl rfl ?_
     exact .finV rfl rfl (Fz.le_refl _)
    refine .cons (fun L env24 F_61 l_62 hL hdn hup hphi => ⟨[(18, (.bool (x30.owner == x9.Person))), (23, (.bool (x30.creditor == (-1))))], fun S hS hV => (.cons (hV 7 18 _ (hdn 1 7 rfl) rfl rfl) (.cons (hV 12 23 _ (hdn 1 12 rfl) rfl rfl) (Sub.nil _))), ?_⟩) ?_
    ·skip
     refine .pickTH hb32  rfl rfl rfl ?_
     exact .finV rfl rfl (Fz.le_refl _)
    exact .nil
   refine .norm (S' := [(3, (.pointer (some ⟨b10, 0, none⟩))), (4, (.pointer p18)), (11, (.pointer p18)), (12, (.pointer (some ⟨b27, 0, none⟩))), (13, (.pointer (some ⟨b27, 0 + 4, none⟩))), (14, (.int .i64 x30.owner)), (15, (.pointer (some ⟨b10, 0 + 4, none⟩))), (16, (.int .i64 x9.Person)), (17, (.bool (x30.owner == x9.Person))), (18, (.bool (x30.owner == x9.Person))), (19, (.pointer p18)), (20, (.pointer (some ⟨b27, 0, none⟩))), (21, (.pointer (some ⟨b27, 0 + 5, none⟩))), (22, (.int .i64 x30.creditor)), (23, (.bool (x30.creditor == (-1)))), (24, (.bool (x30.creditor == (-1))))]) (.cons (k := 3) rfl (.cons (k := 4) rfl (.cons (k := 11) rfl (.cons (k := 12) rfl (.cons (k := 13) rfl (.cons (k := 14) rfl (.cons (k := 15) rfl (.cons (k := 16) rfl (.cons (k := 17) rfl (.cons (k := 18) rfl (.cons (k := 19) rfl (.cons (k := 20) rfl (.cons (k := 21) rfl (.cons (k := 22) rfl (.cons (k := 23) rfl (.cons (k := 24) rfl (.nil _))))))))))))))))) (rfl : _ = [arena Γ.g75 (C75 Γ) F_15 r_14.2, arena Γ.g69 (C69 Γ) F_15 A2, arena Γ.g73 (C73 Γ) F0 A3, arena Γ.g67 (C67 Γ) F_15 A4, R]) ?_
   refine .callB [] rfl Try.call34 rfl rfl rfl rfl (c_cask_need _ (x30.creditor == (-1)) 11) ?_ (fun q69 F_67 _ l_68 => (LPost.panQ fun a w h => ⟨rfl, F_67, (Fz.le_trans l_34 l_68), h.1.sub (.nil _), SH.picks [4] rfl h.2⟩))
   rintro r_63 F_64 _ e66 l_65 rfl
   refine .pick [0, 0, 0, 0, 0] (rfl : _ = [arena Γ.g75 (C75 Γ) F_15 r_14.2, arena Γ.g69 (C69 Γ) F_15 A2, arena Γ.g73 (C73 Γ) F0 A3, arena Γ.g67 (C67 Γ) F_15 A4, R]) ?_
   refine .nil ?_
   exact .nil (LPost.norm fun a w h => ⟨F_64, (Fz.le_trans l_34 l_65), h.1.sub (.cons (k := 3) rfl (.cons (k := 4) rfl (.nil _))), h.2⟩)
  ·skip
   refine .drawGD 14 0 (fun env24 => [((.pointer p18), fun _ => True), ((.pointer (some ⟨b27, 0, none⟩)), fun _ => True), ((.pointer (some ⟨b27, 0 + 4, none⟩)), fun _ => True), ((.int .i64 x30.owner), fun _ => True), ((.pointer (some ⟨b10, 0 + 4, none⟩)), fun _ => True), ((.int .i64 x9.Person), fun _ => True), ((.bool (x30.owner == x9.Person)), fun _ => True), ((.bool (x30.owner == x9.Person)), fun _ => True), (undef, fun _ => True), (undef, fun _ => True), (undef, fun _ => True), (undef, fun _ => True), (undef, fun _ => True), ((.bool false), fun _ => True)]) (fun L env24 => [arena Γ.g75 (C75 Γ) F_15 r_14.2, arena Γ.g69 (C69 Γ) F_15 A2, arena Γ.g73 (C73 Γ) F0 A3, arena Γ.g67 (C67 Γ) F_15 A4, R]) mixedOK (by kernel_rfl) (deepN (k := 14) (n := 15) rfl (allLt15 (p := fun t => 14 ≤ t → ∀ j, j < t → ∃ s, depB _ s t j = true) (fun h => absurd h (by decide)) (fun h => absurd h (by decide)) (fun h => absurd h (by decide)) (fun h => absurd h (by decide)) (fun h => absurd h (by decide)) (fun h => absurd h (by decide)) (fun h => absurd h (by decide)) (fun h => absurd h (by decide)) (fun h => absurd h (by decide)) (fun h => absurd h (by decide)) (fun h => absurd h (by decide)) (fun h => absurd h (by decide)) (fun h => absurd h (by decide)) (fun h => absurd h (by decide)) (fun _ => allLt14 (p := fun j => ∃ s, depB _ s 14 j = true) ⟨6, rfl⟩ ⟨5, rfl⟩ ⟨4, rfl⟩ ⟨3, rfl⟩ ⟨4, rfl⟩ ⟨3, rfl⟩ ⟨2, rfl⟩ ⟨1, rfl⟩ ⟨6, rfl⟩ ⟨5, rfl⟩ ⟨4, rfl⟩ ⟨3, rfl⟩ ⟨2, rfl⟩ ⟨1, rfl⟩))) rfl (fun _ => rfl) (by kernel_rfl) (fun _ => rfl) ?_ (fun env24 F_70 l_71 hphi => ?_)
   ·skip
    refine .cons (fun L env24 F_72 l_73 hL hdn hup hphi => ⟨[(4, (.pointer p18))], fun S hS hV => (.cons (hS _ _ rfl) (Sub.nil _)), ?_⟩) ?_
    ·skip
     refine .move rfl rfl ?_
     exact .finV rfl rfl (Fz.le_refl _)
    refine .cons (fun L env24 F_74 l_75 hL hdn hup hphi => ⟨[(11, (.pointer p18))], fun S hS hV => (.cons (hV 0 11 _ (hdn 1 0 rfl) rfl rfl) (Sub.nil _)), ?_⟩) ?_
    ·skip
     refine .nilCheckR hp29 rfl rfl ?_
     exact .finV rfl rfl (Fz.le_refl _)
    refine .cons (fun L env24 F_76 l_77 hL hdn hup hphi => ⟨[(12, (.pointer (some ⟨b27, 0, none⟩)))], fun S hS hV => (.cons (hV 1 12 _ (hdn 1 1 rfl) rfl rfl) (Sub.nil _)), ?_⟩) ?_
    ·skip
     refine .fieldAddr rfl Try.underlying75 rfl Try.sizeOf3 rfl ?_
     exact .finV rfl rfl (Fz.le_refl _)
    refine .cons (fun L env24 F_78 l_79 hL hdn hup hphi => ⟨[(13, (.pointer (some ⟨b27, 0 + 4, none⟩)))], fun S hS hV => (.cons (hV 2 13 _ (hdn 1 2 rfl) rfl rfl) (Sub.nil _)), ?_⟩) ?_
    ·skip
     refine .loadR (Φ := fun v => v = (.int .i64 x30.owner)) 0 rfl l_79 (hb28.mono l_79) e31 rfl Try.isAgg3 rfl (fun vs ⟨q0, q1, h, r0⟩ => ⟨_, by subst h; exact rfl, rfl⟩) (fun v hv => ?_)
     subst hv
     exact .finV rfl rfl (Fz.le_refl _)
    refine .cons (fun L env24 F_80 l_81 hL hdn hup hphi => ⟨[(3, (.pointer (some ⟨b10, 0, none⟩)))], fun S hS hV => (.cons (hS _ _ rfl) (Sub.nil _)), ?_⟩) ?_
    ·skip
     refine .fieldAddr rfl Try.underlying45 rfl Try.sizeOf3 rfl ?_
     exact .finV rfl rfl (Fz.le_refl _)
    refine .cons (fun L env24 F_82 l_83 hL hdn hup hphi => ⟨[(15, (.pointer (some ⟨b10, 0 + 4, none⟩)))], fun S hS hV => (.cons (hV 4 15 _ (hdn 1 4 rfl) rfl rfl) (Sub.nil _)), ?_⟩) ?_
    ·skip
     refine .loadF rfl Try.isAgg3 rfl ((Fz.le_trans l_16 l_83).mem _ _ hb13) rfl ?_
     exact .finV rfl rfl (Fz.le_refl _)
    refine .cons (fun L env24 F_84 l_85 hL hdn hup hphi => ⟨[(14, (.int .i64 x30.owner)), (16, (.int .i64 x9.Person))], fun S hS hV => (.cons (hV 3 14 _ (hdn 1 3 rfl) rfl rfl) (.cons (hV 5 16 _ (hdn 1 5 rfl) rfl rfl) (Sub.nil _))), ?_⟩) ?_
    ·skip
     refine .eql rfl rfl rfl ?_
     exact .finV rfl rfl (Fz.le_refl _)
    refine .cons (fun L env24 F_86 l_87 hL hdn hup hphi => ⟨[(17, (.bool (x30.owner == x9.Person)))], fun S hS hV => (.cons (hV 6 17 _ (hdn 1 6 rfl) rfl rfl) (Sub.nil _)), ?_⟩) ?_
    ·skip
     refine .move rfl rfl ?_
     exact .finV rfl rfl (Fz.le_refl _)
    refine .cons (fun L env24 F_88 l_89 hL hdn hup hphi => ⟨[(4, (.pointer p18)), (18, (.bool (x30.owner == x9.Person)))], fun S hS hV => (.cons (hS _ _ rfl) (.cons (hV 7 18 _ (hdn 1 7 rfl) rfl rfl) (Sub.nil _))), ?_⟩) ?_
    ·skip
     refine .offH hb32 rfl rfl rfl ?_
     exact .finV rfl rfl (Fz.le_refl _)
    refine .cons (fun L env24 F_90 l_91 hL hdn hup hphi => ⟨[(18, (.bool (x30.owner == x9.Person))), (19, undef)], fun S hS hV => (.cons (hV 7 18 _ (hdn 1 7 rfl) rfl rfl) (.cons (hV 8 19 _ (hdn 1 8 rfl) rfl rfl) (Sub.nil _))), ?_⟩) ?_
    ·skip
     refine .offH hb32 rfl rfl rfl ?_
     exact .finV rfl rfl (Fz.le_refl _)
    refine .cons (fun L env24 F_92 l_93 hL hdn hup hphi => ⟨[(18, (.bool (x30.owner == x9.Person))), (20, undef)], fun S hS hV => (.cons (hV 7 18 _ (hdn 1 7 rfl) rfl rfl) (.cons (hV 9 20 _ (hdn 1 9 rfl) rfl rfl) (Sub.nil _))), ?_⟩) ?_
    ·skip
     refine .offH hb32 rfl rfl rfl ?_
     exact .finV rfl rfl (Fz.le_refl _)
    refine .cons (fun L env24 F_94 l_95 hL hdn hup hphi => ⟨[(18, (.bool (x30.owner == x9.Person))), (21, undef)], fun S hS hV => (.cons (hV 7 18 _ (hdn 1 7 rfl) rfl rfl) (.cons (hV 10 21 _ (hdn 1 10 rfl) rfl rfl) (Sub.nil _))), ?_⟩) ?_
    ·skip
     refine .offH hb32 rfl rfl rfl ?_
     exact .finV rfl rfl (Fz.le_refl _)
    refine .cons (fun L env24 F_96 l_97 hL hdn hup hphi => ⟨[(18, (.bool (x30.owner == x9.Person))), (22, undef)], fun S hS hV => (.cons (hV 7 18 _ (hdn 1 7 rfl) rfl rfl) (.cons (hV 11 22 _ (hdn 1 11 rfl) rfl rfl) (Sub.nil _))), ?_⟩) ?_
    ·skip
     refine .offH hb32 rfl rfl rfl ?_
     exact .finV rfl rfl (Fz.le_refl _)
    refine .cons (fun L env24 F_98 l_99 hL hdn hup hphi => ⟨[(18, (.bool (x30.owner == x9.Person))), (23, undef)], fun S hS hV => (.cons (hV 7 18 _ (hdn 1 7 rfl) rfl rfl) (.cons (hV 12 23 _ (hdn 1 12 rfl) rfl rfl) (Sub.nil _))), ?_⟩) ?_
    ·skip
     refine .pickFH hb32  rfl rfl rfl ?_
     exact .finV rfl rfl (Fz.le_refl _)
    exact .nil
   refine .norm (S' := [(3, (.pointer (some ⟨b10, 0, none⟩))), (4, (.pointer p18)), (11, (.pointer p18)), (12, (.pointer (some ⟨b27, 0, none⟩))), (13, (.pointer (some ⟨b27, 0 + 4, none⟩))), (14, (.int .i64 x30.owner)), (15, (.pointer (some ⟨b10, 0 + 4, none⟩))), (16, (.int .i64 x9.Person)), (17, (.bool (x30.owner == x9.Person))), (18, (.bool (x30.owner == x9.Person))), (24, (.bool false))]) (.cons (k := 3) rfl (.cons (k := 4) rfl (.cons (k := 11) rfl (.cons (k := 12) rfl (.cons (k := 13) rfl (.cons (k := 14) rfl (.cons (k := 15) rfl (.cons (k := 16) rfl (.cons (k := 17) rfl (.cons (k := 18) rfl (.cons (k := 24) rfl (.nil _)))))))))))) (rfl : _ = [arena Γ.g75 (C75 Γ) F_15 r_14.2, arena Γ.g69 (C69 Γ) F_15 A2, arena Γ.g73 (C73 Γ) F0 A3, arena Γ.g67 (C67 Γ) F_15 A4, R]) ?_
   refine .callB [] rfl Try.call34 rfl rfl rfl rfl (c_cask_need _ false 11) ?_ (fun q106 F_104 _ l_105 => (LPost.panQ fun a w h => ⟨rfl, F_104, (Fz.le_trans l_71 l_105), h.1.sub (.nil _), SH.picks [4] rfl h.2⟩))
   rintro r_100 F_101 _ e103 l_102 rfl
   refine .pick [0, 0, 0, 0, 0] (rfl : _ = [arena Γ.g75 (C75 Γ) F_15 r_14.2, arena Γ.g69 (C69 Γ) F_15 A2, arena Γ.g73 (C73 Γ) F0 A3, arena Γ.g67 (C67 Γ) F_15 A4, R]) ?_
   refine .nil ?_
   exact .nil (LPost.norm fun a w h => ⟨F_101, (Fz.le_trans l_71 l_102), h.1.sub (.cons (k := 3) rfl (.cons (k := 4) rfl (.nil _))), h.2⟩)
 ·skip
  refine .code ?_
  refine .seq ?_
  refine .keep (.cons (k := 3) rfl (.cons (k := 4) rfl (.nil _))) ?_
  refine .bind (fun i115 e116 => ?_)
  obtain ⟨b117, hb118, hp119⟩ := (h20.mono l_109).at e116
  refine .bind (fun x120 e121 => ?_)
  refine .drawGD 6 0 (fun env114 => [((.pointer (some ⟨b10, 0 + 5, none⟩)), fun _ => True), ((.int .i64 x9.To), fun _ => True), ((.pointer p18), fun _ => True), ((.pointer (some ⟨b117, 0, none⟩)), fun _ => True), ((.pointer (some ⟨b117, 0 + 4, none⟩)), fun _ => True), ((.int .i64 x120.owner), fun _ => True)]) (fun L env114 => [arena Γ.g75 (C75 Γ) F_15 r_14.2, arena Γ.g69 (C69 Γ) F_15 A2, arena Γ.g73 (C73 Γ) F0 A3, arena Γ.g67 (C67 Γ) F_15 A4, R]) mixedOK (by kernel_rfl) (deepN (k := 6) (n := 8) rfl (allLt8 (p := fun t => 6 ≤ t → ∀ j, j < t → ∃ s, depB _ s t j = true) (fun h => absurd h (by decide)) (fun h => absurd h (by decide)) (fun h => absurd h (by decide)) (fun h => absurd h (by decide)) (fun h => absurd h (by decide)) (fun h => absurd h (by decide)) (fun _ => allLt6 (p := fun j => ∃ s, depB _ s 6 j = true) ⟨2, rfl⟩ ⟨1, rfl⟩ ⟨4, rfl⟩ ⟨3, rfl⟩ ⟨2, rfl⟩ ⟨1, rfl⟩) (fun _ => allLt7 (p := fun j => ∃ s, depB _ s 7 j = true) ⟨3, rfl⟩ ⟨2, rfl⟩ ⟨5, rfl⟩ ⟨4, rfl⟩ ⟨3, rfl⟩ ⟨2, rfl⟩ ⟨1, rfl⟩))) rfl (fun _ => rfl) (by kernel_rfl) (fun _ => rfl) ?_ (fun env114 F_122 l_123 hphi => ?_)
  ·skip
   refine .cons (fun L env114 F_124 l_125 hL hdn hup hphi => ⟨[(3, (.pointer (some ⟨b10, 0, none⟩)))], fun S hS hV => (.cons (hS _ _ rfl) (Sub.nil _)), ?_⟩) ?_
   ·skip
    refine .fieldAddr rfl Try.underlying45 rfl Try.sizeOf3 rfl ?_
    exact .finV rfl rfl (Fz.le_refl _)
   refine .cons (fun L env114 F_126 l_127 hL hdn hup hphi => ⟨[(26, (.pointer (some ⟨b10, 0 + 5, none⟩)))], fun S hS hV => (.cons (hV 0 26 _ (hdn 1 0 rfl) rfl rfl) (Sub.nil _)), ?_⟩) ?_
   ·skip
    refine .loadF rfl Try.isAgg3 rfl ((Fz.le_trans l_16 (Fz.le_trans l_109 l_127)).mem _ _ hb13) rfl ?_
    exact .finV rfl rfl (Fz.le_refl _)
   refine .cons (fun L env114 F_128 l_129 hL hdn hup hphi => ⟨[(4, (.pointer p18))], fun S hS hV => (.cons (hS _ _ rfl) (Sub.nil _)), ?_⟩) ?_
   ·skip
    refine .move rfl rfl ?_
    exact .finV rfl rfl (Fz.le_refl _)
   refine .cons (fun L env114 F_130 l_131 hL hdn hup hphi => ⟨[(28, (.pointer p18))], fun S hS hV => (.cons (hV 2 28 _ (hdn 1 2 rfl) rfl rfl) (Sub.nil _)), ?_⟩) ?_
   ·skip
    refine .nilCheckR hp119 rfl rfl ?_
    exact .finV rfl rfl (Fz.le_refl _)
   refine .cons (fun L env114 F_132 l_133 hL hdn hup hphi => ⟨[(29, (.pointer (some ⟨b117, 0, none⟩)))], fun S hS hV => (.cons (hV 3 29 _ (hdn 1 3 rfl) rfl rfl) (Sub.nil _)), ?_⟩) ?_
   ·skip
    refine .fieldAddr rfl Try.underlying75 rfl Try.sizeOf3 rfl ?_
    exact .finV rfl rfl (Fz.le_refl _)
   refine .cons (fun L env114 F_134 l_135 hL hdn hup hphi => ⟨[(30, (.pointer (some ⟨b117, 0 + 4, none⟩)))], fun S hS hV => (.cons (hV 4 30 _ (hdn 1 4 rfl) rfl rfl) (Sub.nil _)), ?_⟩) ?_
   ·skip
    refine .loadR (Φ := fun v => v = (.int .i64 x120.owner)) 0 rfl (Fz.le_trans l_109 l_135) (hb118.mono l_135) e121 rfl Try.isAgg3 rfl (fun vs ⟨q0, q1, h, r0⟩ => ⟨_, by subst h; exact rfl, rfl⟩) (fun v hv => ?_)
    subst hv
    exact .finV rfl rfl (Fz.le_refl _)
   exact .nil
  refine .norm (S' := [(3, (.pointer (some ⟨b10, 0, none⟩))), (4, (.pointer p18)), (26, (.pointer (some ⟨b10, 0 + 5, none⟩))), (27, (.int .i64 x9.To)), (28, (.pointer p18)), (29, (.pointer (some ⟨b117, 0, none⟩))), (30, (.pointer (some ⟨b117, 0 + 4, none⟩))), (31, (.int .i64 x120.owner))]) (.cons (k := 3) rfl (.cons (k := 4) rfl (.cons (k := 26) rfl (.cons (k := 27) rfl (.cons (k := 28) rfl (.cons (k := 29) rfl (.cons (k := 30) rfl (.cons (k := 31) rfl (.nil _))))))))) (rfl : _ = [arena Γ.g75 (C75 Γ) F_15 r_14.2, arena Γ.g69 (C69 Γ) F_15 A2, arena Γ.g73 (C73 Γ) F0 A3, arena Γ.g67 (C67 Γ) F_15 A4, R]) ?_
  refine .neq rfl rfl rfl ?_
  refine .callB [] rfl Try.call34 rfl rfl rfl rfl (c_cask_need _ (x9.To != x120.owner) 5) ?_ (fun q142 F_140 _ l_141 => (pan_postX (i := 4) rfl (Fz.le_trans l_12 (Fz.le_trans l_16 (Fz.le_trans l_109 (Fz.le_trans l_123 l_141))))))
  rintro r_136 F_137 _ e139 l_138 rfl
  refine .pick [0, 0, 0, 0, 0] (rfl : _ = [arena Γ.g75 (C75 Γ) F_15 r_14.2, arena Γ.g69 (C69 Γ) F_15 A2, arena Γ.g73 (C73 Γ) F0 A3, arena Γ.g67 (C67 Γ) F_15 A4, R]) ?_
  refine .nil ?_
  refine .code ?_
  refine .region ?_
  refine .move rfl rfl ?_
  refine .fieldAddr rfl Try.underlying45 rfl Try.sizeOf3 rfl ?_
  refine .loadF rfl Try.isAgg3 rfl ((Fz.le_trans l_16 (Fz.le_trans l_109 (Fz.le_trans l_123 l_138))).mem _ _ hb13) rfl ?_
  refine .bind (fun i143 e144 => ?_)
  obtain ⟨b145, hb146, hp147⟩ := (h20.mono (Fz.le_trans l_109 (Fz.le_trans l_123 l_138))).at e144
  refine .nilCheckR hp147 rfl rfl ?_
  refine .fieldAddr rfl Try.underlying75 rfl Try.sizeOf3 rfl ?_
  refine .bind (fun x148 e149 => ?_)
  refine .letv (fun x150 e151 => ?_)
  refine .letv (fun A152 e153 => ?_)
  refine .storeR (xs' := A152) (x' := { x148 with owner := x9.To }) (us := [(.int .i64 x9.To)]) 0 rfl (Fz.le_trans l_109 (Fz.le_trans l_123 l_138)) (Fz.le_refl _) (len75 Γ) Try.sizeOf3 hb146 e149 rfl rfl rfl rfl rfl rfl (fun F' vs le ⟨q0, q1, h, r0⟩ => ⟨q0, q1, by subst h; exact rfl, r0⟩) (by rw [e153, e151] <;> rfl) ?_
  refine .nil ?_
  refine .upR 1 (stays69 Γ) (Fz.le_trans l_109 (Fz.le_trans l_123 l_138)) rfl ?_
  refine .upR 2 (stays73 Γ) (Fz.le_trans l_12 (Fz.le_trans l_16 (Fz.le_trans l_109 (Fz.le_trans l_123 l_138)))) rfl ?_
  refine .upR 3 (stays67 Γ) (Fz.le_trans l_109 (Fz.le_trans l_123 l_138)) rfl ?_
  exact .endX [0, 0, 0, 0, 0] Try.results51 (.nil) rfl (Fz.le_trans l_12 (Fz.le_trans l_16 (Fz.le_trans l_109 (Fz.le_trans l_123 l_138)))) rfl
 ·intro b110 hb0 hk e a w hD
  obtain ⟨rfl, F_111, l_112, hA⟩ := hD
  exact interp_panic ((pan_postX (i := 0) rfl (Fz.le_trans l_12 (Fz.le_trans l_16 l_112))) hk a w hA)
noncomputable def m_cask_book_pledge (A1 : List CaskCask) (A2 : List CaskBook) (A3 : List (List (Int × Bool))) (A4 : List (List (Int × (Option Nat)))) (b5 : (Option Nat)) (x9 : ApiCaskEvent) : Option (Out CaskMisfit ((List CaskCask) × (List (List (Int × Bool))) × (List (List (Int × (Option Nat)))))) :=
 bindX (m_cask_book_find A1 A2 A4 b5 x9.Cask x9.Day) (fun q23 => some (.pan q23)) fun r_14 => (r_14.1).bind fun i25 => (r_14.2[i25]?).bind fun x30 => bindX (m_cask_need (x30.owner == x9.Person) 11) (fun q52 => some (.pan q52)) fun _r_46 => (r_14.1).bind fun i53 => (r_14.2[i53]?).bind fun x58 => bindX (m_cask_need (x58.creditor == (-1)) 5) (fun q66 => some (.pan q66)) fun _r_60 => bindv ({ x58 with creditor := x9.To }) fun x67 => bindv (List.set r_14.2 i53 x67) fun A69 => some (.ok (A69, A3, A4))
set_option maxHeartbeats 4000000 in
theorem c_cask_book_pledge (F0 : Fz) (Γ : Gam) (A1 : List CaskCask) (A2 : List CaskBook) (A3 : List (List (Int × Bool))) (A4 : List (List (Int × (Option Nat)))) (b5 : (Option Nat)) (p6 : Option Addr) (k7 : Unit) (h8 : RepPtr Γ.g69 F0 p6 b5) (x9 : ApiCaskEvent) : CTX Try.prog penc 52 [(.pointer p6), (eApiCaskEvent x9)].toArray F0 [arena Γ.g75 (C75 Γ) F0 A1, arena Γ.g69 (C69 Γ) F0 A2, arena Γ.g73 (C73 Γ) F0 A3, arena Γ.g67 (C67 Γ) F0 A4] (m_cask_book_pledge A1 A2 A3 A4 b5 x9) (fun (_r : (List CaskCask) × (List (List (Int × Bool))) × (List (List (Int × (Option Nat))))) _ v => v = .tuple #[]) (fun (r : (List CaskCask) × (List (List (Int × Bool))) × (List (List (Int × (Option Nat))))) F' _ => [arena Γ.g75 (C75 Γ) F' r.1, arena Γ.g69 (C69 Γ) F' A2, arena Γ.g73 (C73 Γ) F' r.2.1, arena Γ.g67 (C67 Γ) F' r.2.2]) := by
 refine CTX.enter Try.func52 rfl Try.ntmps52 rfl fun r R => ?_
 refine .norm (Sub.refl _) (rfl : _ = [arena Γ.g75 (C75 Γ) F0 A1, arena Γ.g69 (C69 Γ) F0 A2, arena Γ.g73 (C73 Γ) F0 A3, arena Γ.g67 (C67 Γ) F0 A4, R]) ?_
 unfold m_cask_book_pledge
 refine .seq ?_
 refine .region ?_
 refine .boxF (cs := (cApiCaskEvent x9)) rfl rfl rfl (fun b10 F_11 l_12 hb13 => ?_)
 refine .nil ?_
 refine .code ?_
 refine .seq ?_
 refine .region ?_
 refine .move rfl rfl ?_
 refine .fieldAddr rfl Try.underlying45 rfl Try.sizeOf3 rfl ?_
 refine .loadF rfl Try.isAgg3 rfl hb13 rfl ?_
 refine .fieldAddr rfl Try.underlying45 rfl Try.sizeOf3 rfl ?_
 refine .loadF rfl Try.isAgg3 rfl hb13 rfl ?_
 refine .upR 0 (stays75 Γ) l_12 rfl ?_
 refine .upR 1 (stays69 Γ) l_12 rfl ?_
 refine .upR 3 (stays67 Γ) l_12 rfl ?_
 refine .callB [0, 0, 1] rfl Try.call66 rfl rfl rfl rfl (c_cask_book_find _ Γ A1 A2 A4 b5 p6 k7 (h8.mono l_12) x9.Cask x9.Day) ?_ (fun q23 F_21 _ l_22 => (pan_postX (i := 1) rfl (Fz.le_trans l_12 l_22)))
 rintro r_14 F_15 _ e17 l_16 ⟨p18, k19, rfl, h20⟩
 refine .pick [0, 0, 1, 0, 0] (rfl : _ = [arena Γ.g75 (C75 Γ) F_15 r_14.2, arena Γ.g69 (C69 Γ) F_15 A2, arena Γ.g73 (C73 Γ) F0 A3, arena Γ.g67 (C67 Γ) F_15 A4, R]) ?_
 refine .assign rfl rfl ?_
 refine .nil ?_
 refine .code ?_
 refine .seq ?_
 refine .keep (.cons (k := 3) rfl (.cons (k := 4) rfl (.nil _))) ?_
 refine .bind (fun i25 e26 => ?_)
 obtain ⟨b27, hb28, hp29⟩ := h20.at e26
 refine .bind (fun x30 e31 => ?_)
 refine .drawGD 6 0 (fun env24 => [((.pointer p18), fun _ => True), ((.pointer (some ⟨b27, 0, none⟩)), fun _ => True), ((.pointer (some ⟨b27, 0 + 4, none⟩)), fun _ => True), ((.int .i64 x30.owner), fun _ => True), ((.pointer (some ⟨b10, 0 + 4, none⟩)), fun _ => True), ((.int .i64 x9.Person), fun _ => True)]) (fun L env24 => [arena Γ.g75 (C75 Γ) F_15 r_14.2, arena Γ.g69 (C69 Γ) F_15 A2, arena Γ.g73 (C73 Γ) F0 A3, arena Γ.g67 (C67 Γ) F_15 A4, R]) mixedOK (by kernel_rfl) (deepN (k := 6) (n := 8) rfl (allLt8 (p := fun t => 6 ≤ t → ∀ j, j < t → ∃ s, depB _ s t j = true) (fun h => absurd h (by decide)) (fun h => absurd h (by decide)) (fun h => absurd h (by decide)) (fun h => absurd h (by decide)) (fun h => absurd h (by decide)) (fun h => absurd h (by decide)) (fun _ => allLt6 (p := fun j => ∃ s, depB _ s 6 j = true) ⟨4, rfl⟩ ⟨3, rfl⟩ ⟨2, rfl⟩ ⟨1, rfl⟩ ⟨2, rfl⟩ ⟨1, rfl⟩) (fun _ => allLt7 (p := fun j => ∃ s, depB _ s 7 j = true) ⟨5, rfl⟩ ⟨4, rfl⟩ ⟨3, rfl⟩ ⟨2, rfl⟩ ⟨3, rfl⟩ ⟨2, rfl⟩ ⟨1, rfl⟩))) rfl (fun _ => rfl) (by kernel_rfl) (fun _ => rfl) ?_ (fun env24 F_32 l_33 hphi => ?_)
 ·skip
  refine .cons (fun L env24 F_34 l_35 hL hdn hup hphi => ⟨[(4, (.pointer p18))], fun S hS hV => (.cons (hS _ _ rfl) (Sub.nil _)), ?_⟩) ?_
  ·skip
   refine .move rfl rfl ?_
   exact .finV rfl rfl (Fz.le_refl _)
  refine .cons (fun L env24 F_36 l_37 hL hdn hup hphi => ⟨[(11, (.pointer p18))], fun S hS hV => (.cons (hV 0 11 _ (hdn 1 0 rfl) rfl rfl) (Sub.nil _)), ?_⟩) ?_
  ·skip
   refine .nilCheckR hp29 rfl rfl ?_
   exact .finV rfl rfl (Fz.le_refl _)
  refine .cons (fun L env24 F_38 l_39 hL hdn hup hphi => ⟨[(12, (.pointer (some ⟨b27, 0, none⟩)))], fun S hS hV => (.cons (hV 1 12 _ (hdn 1 1 rfl) rfl rfl) (Sub.nil _)), ?_⟩) ?_
  ·skip
   refine .fieldAddr rfl Try.underlying75 rfl Try.sizeOf3 rfl ?_
   exact .finV rfl rfl (Fz.le_refl _)
  refine .cons (fun L env24 F_40 l_41 hL hdn hup hphi => ⟨[(13, (.pointer (some ⟨b27, 0 + 4, none⟩)))], fun S hS hV => (.cons (hV 2 13 _ (hdn 1 2 rfl) rfl rfl) (Sub.nil _)), ?_⟩) ?_
  ·skip
   refine .loadR (Φ := fun v => v = (.int .i64 x30.owner)) 0 rfl l_41 (hb28.mono l_41) e31 rfl Try.isAgg3 rfl (fun vs ⟨q0, q1, h, r0⟩ => ⟨_, by subst h; exact rfl, rfl⟩) (fun v hv => ?_)
   subst hv
   exact .finV rfl rfl (Fz.le_refl _)
  refine .cons (fun L env24 F_42 l_43 hL hdn hup hphi => ⟨[(3, (.pointer (some ⟨b10, 0, none⟩)))], fun S hS hV => (.cons (hS _ _ rfl) (Sub.nil _)), ?_⟩) ?_
  ·skip
   refine .fieldAddr rfl Try.underlying45 rfl Try.sizeOf3 rfl ?_
   exact .finV rfl rfl (Fz.le_refl _)
  refine .cons (fun L env24 F_44 l_45 hL hdn hup hphi => ⟨[(15, (.pointer (some ⟨b10, 0 + 4, none⟩)))], fun S hS hV => (.cons (hV 4 15 _ (hdn 1 4 rfl) rfl rfl) (Sub.nil _)), ?_⟩) ?_
  ·skip
   refine .loadF rfl Try.isAgg3 rfl ((Fz.le_trans l_16 l_45).mem _ _ hb13) rfl ?_
   exact .finV rfl rfl (Fz.le_refl _)
  exact .nil
 refine .norm (S' := [(3, (.pointer (some ⟨b10, 0, none⟩))), (4, (.pointer p18)), (11, (.pointer p18)), (12, (.pointer (some ⟨b27, 0, none⟩))), (13, (.pointer (some ⟨b27, 0 + 4, none⟩))), (14, (.int .i64 x30.owner)), (15, (.pointer (some ⟨b10, 0 + 4, none⟩))), (16, (.int .i64 x9.Person))]) (.cons (k := 3) rfl (.cons (k := 4) rfl (.cons (k := 11) rfl (.cons (k := 12) rfl (.cons (k := 13) rfl (.cons (k := 14) rfl (.cons (k := 15) rfl (.cons (k := 16) rfl (.nil _))))))))) (rfl : _ = [arena Γ.g75 (C75 Γ) F_15 r_14.2, arena Γ.g69 (C69 Γ) F_15 A2, arena Γ.g73 (C73 Γ) F0 A3, arena Γ.g67 (C67 Γ) F_15 A4, R]) ?_
 refine .eql rfl rfl rfl ?_
 refine .callB [] rfl Try.call34 rfl rfl rfl rfl (c_cask_need _ (x30.owner == x9.Person) 11) ?_ (fun q52 F_50 _ l_51 => (pan_postX (i := 4) rfl (Fz.le_trans l_12 (Fz.le_trans l_16 (Fz.le_trans l_33 l_51)))))
 rintro r_46 F_47 _ e49 l_48 rfl
 refine .pick [0, 0, 0, 0, 0] (rfl : _ = [arena Γ.g75 (C75 Γ) F_15 r_14.2, arena Γ.g69 (C69 Γ) F_15 A2, arena Γ.g73 (C73 Γ) F0 A3, arena Γ.g67 (C67 Γ) F_15 A4, R]) ?_
 refine .nil ?_
 refine .code ?_
 refine .seq ?_
 refine .region ?_
 refine .move rfl rfl ?_
 refine .bind (fun i53 e54 => ?_)
 obtain ⟨b55, hb56, hp57⟩ := (h20.mono (Fz.le_trans l_33 l_48)).at e54
 refine .nilCheckR hp57 rfl rfl ?_
 refine .fieldAddr rfl Try.underlying75 rfl Try.sizeOf3 rfl ?_
 refine .bind (fun x58 e59 => ?_)
 refine .loadR (Φ := fun v => v = (.int .i64 x58.creditor)) 0 rfl (Fz.le_trans l_33 l_48) hb56 e59 rfl Try.isAgg3 rfl (fun vs ⟨q0, q1, h, r0⟩ => ⟨_, by subst h; exact rfl, rfl⟩) (fun v hv => ?_)
 subst hv
 refine .eql rfl rfl rfl ?_
 refine .callB [] rfl Try.call34 rfl rfl rfl rfl (c_cask_need _ (x58.creditor == (-1)) 5) ?_ (fun q66 F_64 _ l_65 => (pan_postX (i := 4) rfl (Fz.le_trans l_12 (Fz.le_trans l_16 (Fz.le_trans l_33 (Fz.le_trans l_48 l_65))))))
 rintro r_60 F_61 _ e63 l_62 rfl
 refine .pick [0, 0, 0, 0, 0] (rfl : _ = [arena Γ.g75 (C75 Γ) F_15 r_14.2, arena Γ.g69 (C69 Γ) F_15 A2, arena Γ.g73 (C73 Γ) F0 A3, arena Γ.g67 (C67 Γ) F_15 A4, R]) ?_
 refine .nil ?_
 refine .code ?_
 refine .region ?_
 refine .move rfl rfl ?_
 refine .fieldAddr rfl Try.underlying45 rfl Try.sizeOf3 rfl ?_
 refine .loadF rfl Try.isAgg3 rfl ((Fz.le_trans l_16 (Fz.le_trans l_33 (Fz.le_trans l_48 l_62))).mem _ _ hb13) rfl ?_
 refine .nilCheckR hp57 rfl rfl ?_
 refine .fieldAddr rfl Try.underlying75 rfl Try.sizeOf3 rfl ?_
 refine .letv (fun x67 e68 => ?_)
 refine .letv (fun A69 e70 => ?_)
 refine .storeR (xs' := A69) (x' := { x58 with creditor := x9.To }) (us := [(.int .i64 x9.To)]) 0 rfl (Fz.le_trans l_33 (Fz.le_trans l_48 l_62)) (Fz.le_refl _) (len75 Γ) Try.sizeOf3 (hb56.mono l_62) e59 rfl rfl rfl rfl rfl rfl (fun F' vs le ⟨q0, q1, h, r0⟩ => ⟨q0, q1, by subst h; exact rfl, r0⟩) (by rw [e70, e68] <;> rfl) ?_
 refine .nil ?_
 refine .upR 1 (stays69 Γ) (Fz.le_trans l_33 (Fz.le_trans l_48 l_62)) rfl ?_
 refine .upR 2 (stays73 Γ) (Fz.le_trans l_12 (Fz.le_trans l_16 (Fz.le_trans l_33 (Fz.le_trans l_48 l_62)))) rfl ?_
 refine .upR 3 (stays67 Γ) (Fz.le_trans l_33 (Fz.le_trans l_48 l_62)) rfl ?_
 exact .endX [0, 0, 0, 0, 0] Try.results52 (.nil) rfl (Fz.le_trans l_12 (Fz.le_trans l_16 (Fz.le_trans l_33 (Fz.le_trans l_48 l_62)))) rfl
noncomputable def m_cask_book_free (A1 : List CaskCask) (A2 : List CaskBook) (A3 : List (List (Int × Bool))) (A4 : List (List (Int × (Option Nat)))) (b5 : (Option Nat)) (x9 : ApiCaskEvent) : Option (Out CaskMisfit ((List CaskCask) × (List (List (Int × Bool))) × (List (List (Int × (Option Nat)))))) :=
 bindX (m_cask_book_find A1 A2 A4 b5 x9.Cask x9.Day) (fun q23 => some (.pan q23)) fun r_14 => (r_14.1).bind fun i25 => (r_14.2[i25]?).bind fun x30 => bindX (m_cask_need (x30.creditor == x9.Person) 11) (fun q52 => some (.pan q52)) fun _r_46 => (r_14.1).bind fun i53 => (r_14.2[i53]?).bind fun x58 => bindv ({ x58 with creditor := (-1) }) fun x60 => bindv (List.set r_14.2 i53 x60) fun A62 => some (.ok (A62, A3, A4))
set_option maxHeartbeats 4000000 in
theorem c_cask_book_free (F0 : Fz) (Γ : Gam) (A1 : List CaskCask) (A2 : List CaskBook) (A3 : List (List (Int × Bool))) (A4 : List (List (Int × (Option Nat)))) (b5 : (Option Nat)) (p6 : Option Addr) (k7 : Unit) (h8 : RepPtr Γ.g69 F0 p6 b5) (x9 : ApiCaskEvent) : CTX Try.prog penc 53 [(.pointer p6), (eApiCaskEvent x9)].toArray F0 [arena Γ.g75 (C75 Γ) F0 A1, arena Γ.g69 (C69 Γ) F0 A2, arena Γ.g73 (C73 Γ) F0 A3, arena Γ.g67 (C67 Γ) F0 A4] (m_cask_book_free A1 A2 A3 A4 b5 x9) (fun (_r : (List CaskCask) × (List (List (Int × Bool))) × (List (List (Int × (Option Nat))))) _ v => v = .tuple #[]) (fun (r : (List CaskCask) × (List (List (Int × Bool))) × (List (List (Int × (Option Nat))))) F' _ => [arena Γ.g75 (C75 Γ) F' r.1, arena Γ.g69 (C69 Γ) F' A2, arena Γ.g73 (C73 Γ) F' r.2.1, arena Γ.g67 (C67 Γ) F' r.2.2]) := by
 refine CTX.enter Try.func53 rfl Try.ntmps53 rfl fun r R => ?_
 refine .norm (Sub.refl _) (rfl : _ = [arena Γ.g75 (C75 Γ) F0 A1, arena Γ.g69 (C69 Γ) F0 A2, arena Γ.g73 (C73 Γ) F0 A3, arena Γ.g67 (C67 Γ) F0 A4, R]) ?_
 unfold m_cask_book_free
 refine .seq ?_
 refine .region ?_
 refine .boxF (cs := (cApiCaskEvent x9)) rfl rfl rfl (fun b10 F_11 l_12 hb13 => ?_)
 refine .nil ?_
 refine .code ?_
 refine .seq ?_
 refine .region ?_
 refine .move rfl rfl ?_
 refine .fieldAddr rfl Try.underlying45 rfl Try.sizeOf3 rfl ?_
 refine .loadF rfl Try.isAgg3 rfl hb13 rfl ?_
 refine .fieldAddr rfl Try.underlying45 rfl Try.sizeOf3 rfl ?_
 refine .loadF rfl Try.isAgg3 rfl hb13 rfl ?_
 refine .upR 0 (stays75 Γ) l_12 rfl ?_
 refine .upR 1 (stays69 Γ) l_12 rfl ?_
 refine .upR 3 (stays67 Γ) l_12 rfl ?_
 refine .callB [0, 0, 1] rfl Try.call66 rfl rfl rfl rfl (c_cask_book_find _ Γ A1 A2 A4 b5 p6 k7 (h8.mono l_12) x9.Cask x9.Day) ?_ (fun q23 F_21 _ l_22 => (pan_postX (i := 1) rfl (Fz.le_trans l_12 l_22)))
 rintro r_14 F_15 _ e17 l_16 ⟨p18, k19, rfl, h20⟩
 refine .pick [0, 0, 1, 0, 0] (rfl : _ = [arena Γ.g75 (C75 Γ) F_15 r_14.2, arena Γ.g69 (C69 Γ) F_15 A2, arena Γ.g73 (C73 Γ) F0 A3, arena Γ.g67 (C67 Γ) F_15 A4, R]) ?_
 refine .assign rfl rfl ?_
 refine .nil ?_
 refine .code ?_
 refine .seq ?_
 refine .keep (.cons (k := 3) rfl (.cons (k := 4) rfl (.nil _))) ?_
 refine .bind (fun i25 e26 => ?_)
 obtain ⟨b27, hb28, hp29⟩ := h20.at e26
 refine .bind (fun x30 e31 => ?_)
 refine .drawGD 6 0 (fun env24 => [((.pointer p18), fun _ => True), ((.pointer (some ⟨b27, 0, none⟩)), fun _ => True), ((.pointer (some ⟨b27, 0 + 5, none⟩)), fun _ => True), ((.int .i64 x30.creditor), fun _ => True), ((.pointer (some ⟨b10, 0 + 4, none⟩)), fun _ => True), ((.int .i64 x9.Person), fun _ => True)]) (fun L env24 => [arena Γ.g75 (C75 Γ) F_15 r_14.2, arena Γ.g69 (C69 Γ) F_15 A2, arena Γ.g73 (C73 Γ) F0 A3, arena Γ.g67 (C67 Γ) F_15 A4, R]) mixedOK (by kernel_rfl) (deepN (k := 6) (n := 8) rfl (allLt8 (p := fun t => 6 ≤ t → ∀ j, j < t → ∃ s, depB _ s t j = true) (fun h => absurd h (by decide)) (fun h => absurd h (by decide)) (fun h => absurd h (by decide)) (fun h => absurd h (by decide)) (fun h => absurd h (by decide)) (fun h => absurd h (by decide)) (fun _ => allLt6 (p := fun j => ∃ s, depB _ s 6 j = true) ⟨4, rfl⟩ ⟨3, rfl⟩ ⟨2, rfl⟩ ⟨1, rfl⟩ ⟨2, rfl⟩ ⟨1, rfl⟩) (fun _ => allLt7 (p := fun j => ∃ s, depB _ s 7 j = true) ⟨5, rfl⟩ ⟨4, rfl⟩ ⟨3, rfl⟩ ⟨2, rfl⟩ ⟨3, rfl⟩ ⟨2, rfl⟩ ⟨1, rfl⟩))) rfl (fun _ => rfl) (by kernel_rfl) (fun _ => rfl) ?_ (fun env24 F_32 l_33 hphi => ?_)
 ·skip
  refine .cons (fun L env24 F_34 l_35 hL hdn hup hphi => ⟨[(4, (.pointer p18))], fun S hS hV => (.cons (hS _ _ rfl) (Sub.nil _)), ?_⟩) ?_
  ·skip
   refine .move rfl rfl ?_
   exact .finV rfl rfl (Fz.le_refl _)
  refine .cons (fun L env24 F_36 l_37 hL hdn hup hphi => ⟨[(11, (.pointer p18))], fun S hS hV => (.cons (hV 0 11 _ (hdn 1 0 rfl) rfl rfl) (Sub.nil _)), ?_⟩) ?_
  ·skip
   refine .nilCheckR hp29 rfl rfl ?_
   exact .finV rfl rfl (Fz.le_refl _)
  refine .cons (fun L env24 F_38 l_39 hL hdn hup hphi => ⟨[(12, (.pointer (some ⟨b27, 0, none⟩)))], fun S hS hV => (.cons (hV 1 12 _ (hdn 1 1 rfl) rfl rfl) (Sub.nil _)), ?_⟩) ?_
  ·skip
   refine .fieldAddr rfl Try.underlying75 rfl Try.sizeOf3 rfl ?_
   exact .finV rfl rfl (Fz.le_refl _)
  refine .cons (fun L env24 F_40 l_41 hL hdn hup hphi => ⟨[(13, (.pointer (some ⟨b27, 0 + 5, none⟩)))], fun S hS hV => (.cons (hV 2 13 _ (hdn 1 2 rfl) rfl rfl) (Sub.nil _)), ?_⟩) ?_
  ·skip
   refine .loadR (Φ := fun v => v = (.int .i64 x30.creditor)) 0 rfl l_41 (hb28.mono l_41) e31 rfl Try.isAgg3 rfl (fun vs ⟨q0, q1, h, r0⟩ => ⟨_, by subst h; exact rfl, rfl⟩) (fun v hv => ?_)
   subst hv
   exact .finV rfl rfl (Fz.le_refl _)
  refine .cons (fun L env24 F_42 l_43 hL hdn hup hphi => ⟨[(3, (.pointer (some ⟨b10, 0, none⟩)))], fun S hS hV => (.cons (hS _ _ rfl) (Sub.nil _)), ?_⟩) ?_
  ·skip
   refine .fieldAddr rfl Try.underlying45 rfl Try.sizeOf3 rfl ?_
   exact .finV rfl rfl (Fz.le_refl _)
  refine .cons (fun L env24 F_44 l_45 hL hdn hup hphi => ⟨[(15, (.pointer (some ⟨b10, 0 + 4, none⟩)))], fun S hS hV => (.cons (hV 4 15 _ (hdn 1 4 rfl) rfl rfl) (Sub.nil _)), ?_⟩) ?_
  ·skip
   refine .loadF rfl Try.isAgg3 rfl ((Fz.le_trans l_16 l_45).mem _ _ hb13) rfl ?_
   exact .finV rfl rfl (Fz.le_refl _)
  exact .nil
 refine .norm (S' := [(3, (.pointer (some ⟨b10, 0, none⟩))), (4, (.pointer p18)), (11, (.pointer p18)), (12, (.pointer (some ⟨b27, 0, none⟩))), (13, (.pointer (some ⟨b27, 0 + 5, none⟩))), (14, (.int .i64 x30.creditor)), (15, (.pointer (some ⟨b10, 0 + 4, none⟩))), (16, (.int .i64 x9.Person))]) (.cons (k := 3) rfl (.cons (k := 4) rfl (.cons (k := 11) rfl (.cons (k := 12) rfl (.cons (k := 13) rfl (.cons (k := 14) rfl (.cons (k := 15) rfl (.cons (k := 16) rfl (.nil _))))))))) (rfl : _ = [arena Γ.g75 (C75 Γ) F_15 r_14.2, arena Γ.g69 (C69 Γ) F_15 A2, arena Γ.g73 (C73 Γ) F0 A3, arena Γ.g67 (C67 Γ) F_15 A4, R]) ?_
 refine .eql rfl rfl rfl ?_
 refine .callB [] rfl Try.call34 rfl rfl rfl rfl (c_cask_need _ (x30.creditor == x9.Person) 11) ?_ (fun q52 F_50 _ l_51 => (pan_postX (i := 4) rfl (Fz.le_trans l_12 (Fz.le_trans l_16 (Fz.le_trans l_33 l_51)))))
 rintro r_46 F_47 _ e49 l_48 rfl
 refine .pick [0, 0, 0, 0, 0] (rfl : _ = [arena Γ.g75 (C75 Γ) F_15 r_14.2, arena Γ.g69 (C69 Γ) F_15 A2, arena Γ.g73 (C73 Γ) F0 A3, arena Γ.g67 (C67 Γ) F_15 A4, R]) ?_
 refine .nil ?_
 refine .code ?_
 refine .region ?_
 refine .move rfl rfl ?_
 refine .bind (fun i53 e54 => ?_)
 obtain ⟨b55, hb56, hp57⟩ := (h20.mono (Fz.le_trans l_33 l_48)).at e54
 refine .nilCheckR hp57 rfl rfl ?_
 refine .fieldAddr rfl Try.underlying75 rfl Try.sizeOf3 rfl ?_
 refine .bind (fun x58 e59 => ?_)
 refine .letv (fun x60 e61 => ?_)
 refine .letv (fun A62 e63 => ?_)
 refine .storeR (xs' := A62) (x' := { x58 with creditor := (-1) }) (us := [(.int .i64 (-1))]) 0 rfl (Fz.le_trans l_33 l_48) (Fz.le_refl _) (len75 Γ) Try.sizeOf3 hb56 e59 rfl rfl rfl rfl rfl rfl (fun F' vs le ⟨q0, q1, h, r0⟩ => ⟨q0, q1, by subst h; exact rfl, r0⟩) (by rw [e63, e61] <;> rfl) ?_
 refine .nil ?_
 refine .upR 1 (stays69 Γ) (Fz.le_trans l_33 l_48) rfl ?_
 refine .upR 2 (stays73 Γ) (Fz.le_trans l_12 (Fz.le_trans l_16 (Fz.le_trans l_33 l_48))) rfl ?_
 refine .upR 3 (stays67 Γ) (Fz.le_trans l_33 l_48) rfl ?_
 exact .endX [0, 0, 0, 0, 0] Try.results53 (.nil) rfl (Fz.le_trans l_12 (Fz.le_trans l_16 (Fz.le_trans l_33 l_48))) rfl
noncomputable def m_cask_book_char (A1 : List CaskCask) (A2 : List CaskBook) (A3 : List (List (Int × Bool))) (A4 : List (List (Int × (Option Nat)))) (b5 : (Option Nat)) (x9 : ApiCaskEvent) : Option (Out CaskMisfit ((List CaskCask) × (List (List (Int × Bool))) × (List (List (Int × (Option Nat)))))) :=
 bindX (m_cask_book_find A1 A2 A4 b5 x9.Cask x9.Day) (fun q23 => some (.pan q23)) fun r_14 => (r_14.1).bind fun i24 => (r_14.2[i24]?).bind fun x29 => bindX (m_cask_need (x29.amount == 0) 6) (fun q37 => some (.pan q37)) fun _r_31 => bindv ({ x29 with wood := x9.Where }) fun x38 => bindv (List.set r_14.2 i24 x38) fun A40 => some (.ok (A40, A3, A4))
set_option maxHeartbeats 4000000 in
theorem c_cask_book_char (F0 : Fz) (Γ : Gam) (A1 : List CaskCask) (A2 : List CaskBook) (A3 : List (List (Int × Bool))) (A4 : List (List (Int × (Option Nat)))) (b5 : (Option Nat)) (p6 : Option Addr) (k7 : Unit) (h8 : RepPtr Γ.g69 F0 p6 b5) (x9 : ApiCaskEvent) : CTX Try.prog penc 54 [(.pointer p6), (eApiCaskEvent x9)].toArray F0 [arena Γ.g75 (C75 Γ) F0 A1, arena Γ.g69 (C69 Γ) F0 A2, arena Γ.g73 (C73 Γ) F0 A3, arena Γ.g67 (C67 Γ) F0 A4] (m_cask_book_char A1 A2 A3 A4 b5 x9) (fun (_r : (List CaskCask) × (List (List (Int × Bool))) × (List (List (Int × (Option Nat))))) _ v => v = .tuple #[]) (fun (r : (List CaskCask) × (List (List (Int × Bool))) × (List (List (Int × (Option Nat))))) F' _ => [arena Γ.g75 (C75 Γ) F' r.1, arena Γ.g69 (C69 Γ) F' A2, arena Γ.g73 (C73 Γ) F' r.2.1, arena Γ.g67 (C67 Γ) F' r.2.2]) := by
 refine CTX.enter Try.func54 rfl Try.ntmps54 rfl fun r R => ?_
 refine .norm (Sub.refl _) (rfl : _ = [arena Γ.g75 (C75 Γ) F0 A1, arena Γ.g69 (C69 Γ) F0 A2, arena Γ.g73 (C73 Γ) F0 A3, arena Γ.g67 (C67 Γ) F0 A4, R]) ?_
 unfold m_cask_book_char
 refine .seq ?_
 refine .region ?_
 refine .boxF (cs := (cApiCaskEvent x9)) rfl rfl rfl (fun b10 F_11 l_12 hb13 => ?_)
 refine .nil ?_
 refine .code ?_
 refine .seq ?_
 refine .region ?_
 refine .move rfl rfl ?_
 refine .fieldAddr rfl Try.underlying45 rfl Try.sizeOf3 rfl ?_
 refine .loadF rfl Try.isAgg3 rfl hb13 rfl ?_
 refine .fieldAddr rfl Try.underlying45 rfl Try.sizeOf3 rfl ?_
 refine .loadF rfl Try.isAgg3 rfl hb13 rfl ?_
 refine .upR 0 (stays75 Γ) l_12 rfl ?_
 refine .upR 1 (stays69 Γ) l_12 rfl ?_
 refine .upR 3 (stays67 Γ) l_12 rfl ?_
 refine .callB [0, 0, 1] rfl Try.call66 rfl rfl rfl rfl (c_cask_book_find _ Γ A1 A2 A4 b5 p6 k7 (h8.mono l_12) x9.Cask x9.Day) ?_ (fun q23 F_21 _ l_22 => (pan_postX (i := 1) rfl (Fz.le_trans l_12 l_22)))
 rintro r_14 F_15 _ e17 l_16 ⟨p18, k19, rfl, h20⟩
 refine .pick [0, 0, 1, 0, 0] (rfl : _ = [arena Γ.g75 (C75 Γ) F_15 r_14.2, arena Γ.g69 (C69 Γ) F_15 A2, arena Γ.g73 (C73 Γ) F0 A3, arena Γ.g67 (C67 Γ) F_15 A4, R]) ?_
 refine .assign rfl rfl ?_
 refine .nil ?_
 refine .code ?_
 refine .seq ?_
 refine .region ?_
 refine .move rfl rfl ?_
 refine .bind (fun i24 e25 => ?_)
 obtain ⟨b26, hb27, hp28⟩ := h20.at e25
 refine .nilCheckR hp28 rfl rfl ?_
 refine .fieldAddr rfl Try.underlying75 rfl Try.sizeOf3 rfl ?_
 refine .bind (fun x29 e30 => ?_)
 refine .loadR (Φ := fun v => v = (.int .i64 x29.amount)) 0 rfl (Fz.le_refl _) hb27 e30 rfl Try.isAgg3 rfl (fun vs ⟨q0, q1, h, r0⟩ => ⟨_, by subst h; exact rfl, rfl⟩) (fun v hv => ?_)
 subst hv
 refine .eql rfl rfl rfl ?_
 refine .callB [] rfl Try.call34 rfl rfl rfl rfl (c_cask_need _ (x29.amount == 0) 6) ?_ (fun q37 F_35 _ l_36 => (pan_postX (i := 4) rfl (Fz.le_trans l_12 (Fz.le_trans l_16 l_36))))
 rintro r_31 F_32 _ e34 l_33 rfl
 refine .pick [0, 0, 0, 0, 0] (rfl : _ = [arena Γ.g75 (C75 Γ) F_15 r_14.2, arena Γ.g69 (C69 Γ) F_15 A2, arena Γ.g73 (C73 Γ) F0 A3, arena Γ.g67 (C67 Γ) F_15 A4, R]) ?_
 refine .nil ?_
 refine .code ?_
 refine .region ?_
 refine .move rfl rfl ?_
 refine .fieldAddr rfl Try.underlying45 rfl Try.sizeOf3 rfl ?_
 refine .loadF rfl Try.isAgg3 rfl ((Fz.le_trans l_16 l_33).mem _ _ hb13) rfl ?_
 refine .nilCheckR hp28 rfl rfl ?_
 refine .fieldAddr rfl Try.underlying75 rfl Try.sizeOf3 rfl ?_
 refine .letv (fun x38 e39 => ?_)
 refine .letv (fun A40 e41 => ?_)
 refine .storeR (xs' := A40) (x' := { x29 with wood := x9.Where }) (us := [(.int .i64 x9.Where)]) 0 rfl l_33 (Fz.le_refl _) (len75 Γ) Try.sizeOf3 (hb27.mono l_33) e30 rfl rfl rfl rfl rfl rfl (fun F' vs le ⟨q0, q1, h, r0⟩ => ⟨q0, q1, by subst h; exact rfl, r0⟩) (by rw [e41, e39] <;> rfl) ?_
 refine .nil ?_
 refine .upR 1 (stays69 Γ) l_33 rfl ?_
 refine .upR 2 (stays73 Γ) (Fz.le_trans l_12 (Fz.le_trans l_16 l_33)) rfl ?_
 refine .upR 3 (stays67 Γ) l_33 rfl ?_
 exact .endX [0, 0, 0, 0, 0] Try.results54 (.nil) rfl (Fz.le_trans l_12 (Fz.le_trans l_16 l_33)) rfl
noncomputable def m_cask_deeds  : Option (List (Int × (((List CaskCask) × (List CaskBook) × (List (List (Int × Bool))) × (List (List (Int × (Option Nat)))) × (Option Nat) × ApiCaskEvent) → Option (Out CaskMisfit ((List CaskCask) × (List (List (Int × Bool))) × (List (List (Int × (Option Nat))))))))) :=
 bindv (mapSet ([]) (0 : Int) (fun (x : ((List CaskCask) × (List CaskBook) × (List (List (Int × Bool))) × (List (List (Int × (Option Nat)))) × (Option Nat) × ApiCaskEvent)) => m_cask_book_build x.1 x.2.1 x.2.2.1 x.2.2.2.1 x.2.2.2.2.1 x.2.2.2.2.2)) fun m_4 => bindv (mapSet m_4 (1 : Int) (fun (x : ((List CaskCask) × (List CaskBook) × (List (List (Int × Bool))) × (List (List (Int × (Option Nat)))) × (Option Nat) × ApiCaskEvent)) => m_cask_book_fill x.1 x.2.1 x.2.2.1 x.2.2.2.1 x.2.2.2.2.1 x.2.2.2.2.2)) fun m_7 => bindv (mapSet m_7 (2 : Int) (fun (x : ((List CaskCask) × (List CaskBook) × (List (List (Int × Bool))) × (List (List (Int × (Option Nat)))) × (Option Nat) × ApiCaskEvent)) => m_cask_book_rack x.1 x.2.1 x.2.2.1 x.2.2.2.1 x.2.2.2.2.1 x.2.2.2.2.2)) fun m_10 => bindv (mapSet m_10 (3 : Int) (fun (x : ((List CaskCask) × (List CaskBook) × (List (List (Int × Bool))) × (List (List (Int × (Option Nat)))) × (Option Nat) × ApiCaskEvent)) => m_cask_book_drain x.1 x.2.1 x.2.2.1 x.2.2.2.1 x.2.2.2.2.1 x.2.2.2.2.2)) fun m_13 => bindv (mapSet m_13 (4 : Int) (fun (x : ((List CaskCask) × (List CaskBook) × (List (List (Int × Bool))) × (List (List (Int × (Option Nat)))) × (Option Nat) × ApiCaskEvent)) => m_cask_book_carry x.1 x.2.1 x.2.2.1 x.2.2.2.1 x.2.2.2.2.1 x.2.2.2.2.2)) fun m_16 => bindv (mapSet m_16 (5 : Int) (fun (x : ((List CaskCask) × (List CaskBook) × (List (List (Int × Bool))) × (List (List (Int × (Option Nat)))) × (Option Nat) × ApiCaskEvent)) => m_cask_book_sell x.1 x.2.1 x.2.2.1 x.2.2.2.1 x.2.2.2.2.1 x.2.2.2.2.2)) fun m_19 => bindv (mapSet m_19 (6 : Int) (fun (x : ((List CaskCask) × (List CaskBook) × (List (List (Int × Bool))) × (List (List (Int × (Option Nat)))) × (Option Nat) × ApiCaskEvent)) => m_cask_book_pledge x.1 x.2.1 x.2.2.1 x.2.2.2.1 x.2.2.2.2.1 x.2.2.2.2.2)) fun m_22 => bindv (mapSet m_22 (7 : Int) (fun (x : ((List CaskCask) × (List CaskBook) × (List (List (Int × Bool))) × (List (List (Int × (Option Nat)))) × (Option Nat) × ApiCaskEvent)) => m_cask_book_free x.1 x.2.1 x.2.2.1 x.2.2.2.1 x.2.2.2.2.1 x.2.2.2.2.2)) fun m_25 => bindv (mapSet m_25 (8 : Int) (fun (x : ((List CaskCask) × (List CaskBook) × (List (List (Int × Bool))) × (List (List (Int × (Option Nat)))) × (Option Nat) × ApiCaskEvent)) => m_cask_book_char x.1 x.2.1 x.2.2.1 x.2.2.2.1 x.2.2.2.2.1 x.2.2.2.2.2)) fun m_28 => some m_28
theorem c_cask_deeds (F0 : Fz) (Γ : Gam) : CT0 Try.prog 33 [].toArray F0 (m_cask_deeds) (fun r F v => ∃ (p0 : Nat) (_k0 : Unit), v = (.map (some p0)) ∧ RepMapF (fun x : Int => (.int .i64 x)) (fun F (x : (((List CaskCask) × (List CaskBook) × (List (List (Int × Bool))) × (List (List (Int × (Option Nat)))) × (Option Nat) × ApiCaskEvent) → Option (Out CaskMisfit ((List CaskCask) × (List (List (Int × Bool))) × (List (List (Int × (Option Nat)))))))) v => ∃ (p0 : FuncId) (k0 : List Value × List Value), v = (.func (.func p0) k0.1.toArray k0.2.toArray) ∧ RepFnX Try.prog penc F p0 k0 (fun (x : ((List CaskCask) × (List CaskBook) × (List (List (Int × Bool))) × (List (List (Int × (Option Nat)))) × (Option Nat) × ApiCaskEvent)) F vs => ∃ (p0 : Option Addr) (_k0 : Unit), vs = [(.pointer p0), (eApiCaskEvent x.2.2.2.2.2)] ∧ RepPtr Γ.g69 F p0 x.2.2.2.2.1) (fun F (x : ((List CaskCask) × (List CaskBook) × (List (List (Int × Bool))) × (List (List (Int × (Option Nat)))) × (Option Nat) × ApiCaskEvent)) => [arena Γ.g75 (C75 Γ) F x.1, arena Γ.g69 (C69 Γ) F x.2.1, arena Γ.g73 (C73 Γ) F x.2.2.1, arena Γ.g67 (C67 Γ) F x.2.2.2.1]) (fun (_r : (List CaskCask) × (List (List (Int × Bool))) × (List (List (Int × (Option Nat))))) _ v => v = .tuple #[]) (fun F (x : ((List CaskCask) × (List CaskBook) × (List (List (Int × Bool))) × (List (List (Int × (Option Nat)))) × (Option Nat) × ApiCaskEvent)) (r : (List CaskCask) × (List (List (Int × Bool))) × (List (List (Int × (Option Nat))))) => [arena Γ.g75 (C75 Γ) F r.1, arena Γ.g69 (C69 Γ) F x.2.1, arena Γ.g73 (C73 Γ) F r.2.1, arena Γ.g67 (C67 Γ) F r.2.2]) x) F p0 r) := by
 refine CT0.enter Try.func33 rfl Try.ntmps33 rfl fun r R => ?_
 unfold m_cask_deeds
 refine .seq ?_
 refine .region ?_
 refine .assign rfl rfl ?_
 refine .nil ?_
 refine .code ?_
 refine .seq ?_
 refine .region ?_
 refine .makeMapP (fun x : Int => (.int .i64 x)) (fun F (x : (((List CaskCask) × (List CaskBook) × (List (List (Int × Bool))) × (List (List (Int × (Option Nat)))) × (Option Nat) × ApiCaskEvent) → Option (Out CaskMisfit ((List CaskCask) × (List (List (Int × Bool))) × (List (List (Int × (Option Nat)))))))) v => ∃ (p0 : FuncId) (k0 : List Value × List Value), v = (.func (.func p0) k0.1.toArray k0.2.toArray) ∧ RepFnX Try.prog penc F p0 k0 (fun (x : ((List CaskCask) × (List CaskBook) × (List (List (Int × Bool))) × (List (List (Int × (Option Nat)))) × (Option Nat) × ApiCaskEvent)) F vs => ∃ (p0 : Option Addr) (k0 : Unit), vs = [(.pointer p0), (eApiCaskEvent x.2.2.2.2.2)] ∧ RepPtr Γ.g69 F p0 x.2.2.2.2.1) (fun F (x : ((List CaskCask) × (List CaskBook) × (List (List (Int × Bool))) × (List (List (Int × (Option Nat)))) × (Option Nat) × ApiCaskEvent)) => [arena Γ.g75 (C75 Γ) F x.1, arena Γ.g69 (C69 Γ) F x.2.1, arena Γ.g73 (C73 Γ) F x.2.2.1, arena Γ.g67 (C67 Γ) F x.2.2.2.1]) (fun (r : (List CaskCask) × (List (List (Int × Bool))) × (List (List (Int × (Option Nat))))) _ v => v = .tuple #[]) (fun F (x : ((List CaskCask) × (List CaskBook) × (List (List (Int × Bool))) × (List (List (Int × (Option Nat)))) × (Option Nat) × ApiCaskEvent)) (r : (List CaskCask) × (List (List (Int × Bool))) × (List (List (Int × (Option Nat))))) => [arena Γ.g75 (C75 Γ) F r.1, arena Γ.g69 (C69 Γ) F x.2.1, arena Γ.g73 (C73 Γ) F r.2.1, arena Γ.g67 (C67 Γ) F r.2.2]) x) rfl (fun b1 => ?_)
 have hf3 : RepFnX Try.prog penc F0 46 ([], []) (fun (x : ((List CaskCask) × (List CaskBook) × (List (List (Int × Bool))) × (List (List (Int × (Option Nat)))) × (Option Nat) × ApiCaskEvent)) F vs => ∃ (p0 : Option Addr) (k0 : Unit), vs = [(.pointer p0), (eApiCaskEvent x.2.2.2.2.2)] ∧ RepPtr Γ.g69 F p0 x.2.2.2.2.1) (fun F (x : ((List CaskCask) × (List CaskBook) × (List (List (Int × Bool))) × (List (List (Int × (Option Nat)))) × (Option Nat) × ApiCaskEvent)) => [arena Γ.g75 (C75 Γ) F x.1, arena Γ.g69 (C69 Γ) F x.2.1, arena Γ.g73 (C73 Γ) F x.2.2.1, arena Γ.g67 (C67 Γ) F x.2.2.2.1]) (fun (r : (List CaskCask) × (List (List (Int × Bool))) × (List (List (Int × (Option Nat))))) _ v => v = .tuple #[]) (fun F (x : ((List CaskCask) × (List CaskBook) × (List (List (Int × Bool))) × (List (List (Int × (Option Nat)))) × (Option Nat) × ApiCaskEvent)) (r : (List CaskCask) × (List (List (Int × Bool))) × (List (List (Int × (Option Nat))))) => [arena Γ.g75 (C75 Γ) F r.1, arena Γ.g69 (C69 Γ) F x.2.1, arena Γ.g73 (C73 Γ) F r.2.1, arena Γ.g67 (C67 Γ) F r.2.2]) (fun (x : ((List CaskCask) × (List CaskBook) × (List (List (Int × Bool))) × (List (List (Int × (Option Nat)))) × (Option Nat) × ApiCaskEvent)) => m_cask_book_build x.1 x.2.1 x.2.2.1 x.2.2.2.1 x.2.2.2.2.1 x.2.2.2.2.2) := ⟨Try.call46, fun F' le' x vs hv => by obtain ⟨pp0, kk0, rfl, hq0⟩ := hv; exact c_cask_book_build F' _ x.1 x.2.1 x.2.2.1 x.2.2.2.1 x.2.2.2.2.1 pp0 kk0 hq0 x.2.2.2.2.2⟩
 refine .letv (fun m_4 e5 => ?_)
 refine .insertO (key := (0 : Int)) (val := (fun (x : ((List CaskCask) × (List CaskBook) × (List (List (Int × Bool))) × (List (List (Int × (Option Nat)))) × (Option Nat) × ApiCaskEvent)) => m_cask_book_build x.1 x.2.1 x.2.2.1 x.2.2.2.1 x.2.2.2.2.1 x.2.2.2.2.2)) 0 rfl (Fz.le_refl _) Try.underlying84 (.int Try.underlying3) rfl rfl rfl (fun _ l => ⟨46, ([], []), rfl, (hf3).mono l⟩) e5 ?_
 have hf6 : RepFnX Try.prog penc F0 47 ([], []) (fun (x : ((List CaskCask) × (List CaskBook) × (List (List (Int × Bool))) × (List (List (Int × (Option Nat)))) × (Option Nat) × ApiCaskEvent)) F vs => ∃ (p0 : Option Addr) (k0 : Unit), vs = [(.pointer p0), (eApiCaskEvent x.2.2.2.2.2)] ∧ RepPtr Γ.g69 F p0 x.2.2.2.2.1) (fun F (x : ((List CaskCask) × (List CaskBook) × (List (List (Int × Bool))) × (List (List (Int × (Option Nat)))) × (Option Nat) × ApiCaskEvent)) => [arena Γ.g75 (C75 Γ) F x.1, arena Γ.g69 (C69 Γ) F x.2.1, arena Γ.g73 (C73 Γ) F x.2.2.1, arena Γ.g67 (C67 Γ) F x.2.2.2.1]) (fun (r : (List CaskCask) × (List (List (Int × Bool))) × (List (List (Int × (Option Nat))))) _ v => v = .tuple #[]) (fun F (x : ((List CaskCask) × (List CaskBook) × (List (List (Int × Bool))) × (List (List (Int × (Option Nat)))) × (Option Nat) × ApiCaskEvent)) (r : (List CaskCask) × (List (List (Int × Bool))) × (List (List (Int × (Option Nat))))) => [arena Γ.g75 (C75 Γ) F r.1, arena Γ.g69 (C69 Γ) F x.2.1, arena Γ.g73 (C73 Γ) F r.2.1, arena Γ.g67 (C67 Γ) F r.2.2]) (fun (x : ((List CaskCask) × (List CaskBook) × (List (List (Int × Bool))) × (List (List (Int × (Option Nat)))) × (Option Nat) × ApiCaskEvent)) => m_cask_book_fill x.1 x.2.1 x.2.2.1 x.2.2.2.1 x.2.2.2.2.1 x.2.2.2.2.2) := ⟨Try.call47, fun F' le' x vs hv => by obtain ⟨pp0, kk0, rfl, hq0⟩ := hv; exact c_cask_book_fill F' _ x.1 x.2.1 x.2.2.1 x.2.2.2.1 x.2.2.2.2.1 pp0 kk0 hq0 x.2.2.2.2.2⟩
 refine .letv (fun m_7 e8 => ?_)
 refine .insertO (key := (1 : Int)) (val := (fun (x : ((List CaskCask) × (List CaskBook) × (List (List (Int × Bool))) × (List (List (Int × (Option Nat)))) × (Option Nat) × ApiCaskEvent)) => m_cask_book_fill x.1 x.2.1 x.2.2.1 x.2.2.2.1 x.2.2.2.2.1 x.2.2.2.2.2)) 0 rfl (Fz.le_refl _) Try.underlying84 (.int Try.underlying3) rfl rfl rfl (fun _ l => ⟨47, ([], []), rfl, (hf6).mono l⟩) e8 ?_
 have hf9 : RepFnX Try.prog penc F0 48 ([], []) (fun (x : ((List CaskCask) × (List CaskBook) × (List (List (Int × Bool))) × (List (List (Int × (Option Nat)))) × (Option Nat) × ApiCaskEvent)) F vs => ∃ (p0 : Option Addr) (k0 : Unit), vs = [(.pointer p0), (eApiCaskEvent x.2.2.2.2.2)] ∧ RepPtr Γ.g69 F p0 x.2.2.2.2.1) (fun F (x : ((List CaskCask) × (List CaskBook) × (List (List (Int × Bool))) × (List (List (Int × (Option Nat)))) × (Option Nat) × ApiCaskEvent)) => [arena Γ.g75 (C75 Γ) F x.1, arena Γ.g69 (C69 Γ) F x.2.1, arena Γ.g73 (C73 Γ) F x.2.2.1, arena Γ.g67 (C67 Γ) F x.2.2.2.1]) (fun (r : (List CaskCask) × (List (List (Int × Bool))) × (List (List (Int × (Option Nat))))) _ v => v = .tuple #[]) (fun F (x : ((List CaskCask) × (List CaskBook) × (List (List (Int × Bool))) × (List (List (Int × (Option Nat)))) × (Option Nat) × ApiCaskEvent)) (r : (List CaskCask) × (List (List (Int × Bool))) × (List (List (Int × (Option Nat))))) => [arena Γ.g75 (C75 Γ) F r.1, arena Γ.g69 (C69 Γ) F x.2.1, arena Γ.g73 (C73 Γ) F r.2.1, arena Γ.g67 (C67 Γ) F r.2.2]) (fun (x : ((List CaskCask) × (List CaskBook) × (List (List (Int × Bool))) × (List (List (Int × (Option Nat)))) × (Option Nat) × ApiCaskEvent)) => m_cask_book_rack x.1 x.2.1 x.2.2.1 x.2.2.2.1 x.2.2.2.2.1 x.2.2.2.2.2) := ⟨Try.call48, fun F' le' x vs hv => by obtain ⟨pp0, kk0, rfl, hq0⟩ := hv; exact c_cask_book_rack F' _ x.1 x.2.1 x.2.2.1 x.2.2.2.1 x.2.2.2.2.1 pp0 kk0 hq0 x.2.2.2.2.2⟩
 refine .letv (fun m_10 e11 => ?_)
 refine .insertO (key := (2 : Int)) (val := (fun (x : ((List CaskCask) × (List CaskBook) × (List (List (Int × Bool))) × (List (List (Int × (Option Nat)))) × (Option Nat) × ApiCaskEvent)) => m_cask_book_rack x.1 x.2.1 x.2.2.1 x.2.2.2.1 x.2.2.2.2.1 x.2.2.2.2.2)) 0 rfl (Fz.le_refl _) Try.underlying84 (.int Try.underlying3) rfl rfl rfl (fun _ l => ⟨48, ([], []), rfl, (hf9).mono l⟩) e11 ?_
 have hf12 : RepFnX Try.prog penc F0 49 ([], []) (fun (x : ((List CaskCask) × (List CaskBook) × (List (List (Int × Bool))) × (List (List (Int × (Option Nat)))) × (Option Nat) × ApiCaskEvent)) F vs => ∃ (p0 : Option Addr) (k0 : Unit), vs = [(.pointer p0), (eApiCaskEvent x.2.2.2.2.2)] ∧ RepPtr Γ.g69 F p0 x.2.2.2.2.1) (fun F (x : ((List CaskCask) × (List CaskBook) × (List (List (Int × Bool))) × (List (List (Int × (Option Nat)))) × (Option Nat) × ApiCaskEvent)) => [arena Γ.g75 (C75 Γ) F x.1, arena Γ.g69 (C69 Γ) F x.2.1, arena Γ.g73 (C73 Γ) F x.2.2.1, arena Γ.g67 (C67 Γ) F x.2.2.2.1]) (fun (r : (List CaskCask) × (List (List (Int × Bool))) × (List (List (Int × (Option Nat))))) _ v => v = .tuple #[]) (fun F (x : ((List CaskCask) × (List CaskBook) × (List (List (Int × Bool))) × (List (List (Int × (Option Nat)))) × (Option Nat) × ApiCaskEvent)) (r : (List CaskCask) × (List (List (Int × Bool))) × (List (List (Int × (Option Nat))))) => [arena Γ.g75 (C75 Γ) F r.1, arena Γ.g69 (C69 Γ) F x.2.1, arena Γ.g73 (C73 Γ) F r.2.1, arena Γ.g67 (C67 Γ) F r.2.2]) (fun (x : ((List CaskCask) × (List CaskBook) × (List (List (Int × Bool))) × (List (List (Int × (Option Nat)))) × (Option Nat) × ApiCaskEvent)) => m_cask_book_drain x.1 x.2.1 x.2.2.1 x.2.2.2.1 x.2.2.2.2.1 x.2.2.2.2.2) := ⟨Try.call49, fun F' le' x vs hv => by obtain ⟨pp0, kk0, rfl, hq0⟩ := hv; exact c_cask_book_drain F' _ x.1 x.2.1 x.2.2.1 x.2.2.2.1 x.2.2.2.2.1 pp0 kk0 hq0 x.2.2.2.2.2⟩
 refine .letv (fun m_13 e14 => ?_)
 refine .insertO (key := (3 : Int)) (val := (fun (x : ((List CaskCask) × (List CaskBook) × (List (List (Int × Bool))) × (List (List (Int × (Option Nat)))) × (Option Nat) × ApiCaskEvent)) => m_cask_book_drain x.1 x.2.1 x.2.2.1 x.2.2.2.1 x.2.2.2.2.1 x.2.2.2.2.2)) 0 rfl (Fz.le_refl _) Try.underlying84 (.int Try.underlying3) rfl rfl rfl (fun _ l => ⟨49, ([], []), rfl, (hf12).mono l⟩) e14 ?_
 have hf15 : RepFnX Try.prog penc F0 50 ([], []) (fun (x : ((List CaskCask) × (List CaskBook) × (List (List (Int × Bool))) × (List (List (Int × (Option Nat)))) × (Option Nat) × ApiCaskEvent)) F vs => ∃ (p0 : Option Addr) (k0 : Unit), vs = [(.pointer p0), (eApiCaskEvent x.2.2.2.2.2)] ∧ RepPtr Γ.g69 F p0 x.2.2.2.2.1) (fun F (x : ((List CaskCask) × (List CaskBook) × (List (List (Int × Bool))) × (List (List (Int × (Option Nat)))) × (Option Nat) × ApiCaskEvent)) => [arena Γ.g75 (C75 Γ) F x.1, arena Γ.g69 (C69 Γ) F x.2.1, arena Γ.g73 (C73 Γ) F x.2.2.1, arena Γ.g67 (C67 Γ) F x.2.2.2.1]) (fun (r : (List CaskCask) × (List (List (Int × Bool))) × (List (List (Int × (Option Nat))))) _ v => v = .tuple #[]) (fun F (x : ((List CaskCask) × (List CaskBook) × (List (List (Int × Bool))) × (List (List (Int × (Option Nat)))) × (Option Nat) × ApiCaskEvent)) (r : (List CaskCask) × (List (List (Int × Bool))) × (List (List (Int × (Option Nat))))) => [arena Γ.g75 (C75 Γ) F r.1, arena Γ.g69 (C69 Γ) F x.2.1, arena Γ.g73 (C73 Γ) F r.2.1, arena Γ.g67 (C67 Γ) F r.2.2]) (fun (x : ((List CaskCask) × (List CaskBook) × (List (List (Int × Bool))) × (List (List (Int × (Option Nat)))) × (Option Nat) × ApiCaskEvent)) => m_cask_book_carry x.1 x.2.1 x.2.2.1 x.2.2.2.1 x.2.2.2.2.1 x.2.2.2.2.2) := ⟨Try.call50, fun F' le' x vs hv => by obtain ⟨pp0, kk0, rfl, hq0⟩ := hv; exact c_cask_book_carry F' _ x.1 x.2.1 x.2.2.1 x.2.2.2.1 x.2.2.2.2.1 pp0 kk0 hq0 x.2.2.2.2.2⟩
 refine .letv (fun m_16 e17 => ?_)
 refine .insertO (key := (4 : Int)) (val := (fun (x : ((List CaskCask) × (List CaskBook) × (List (List (Int × Bool))) × (List (List (Int × (Option Nat)))) × (Option Nat) × ApiCaskEvent)) => m_cask_book_carry x.1 x.2.1 x.2.2.1 x.2.2.2.1 x.2.2.2.2.1 x.2.2.2.2.2)) 0 rfl (Fz.le_refl _) Try.underlying84 (.int Try.underlying3) rfl rfl rfl (fun _ l => ⟨50, ([], []), rfl, (hf15).mono l⟩) e17 ?_
 have hf18 : RepFnX Try.prog penc F0 51 ([], []) (fun (x : ((List CaskCask) × (List CaskBook) × (List (List (Int × Bool))) × (List (List (Int × (Option Nat)))) × (Option Nat) × ApiCaskEvent)) F vs => ∃ (p0 : Option Addr) (k0 : Unit), vs = [(.pointer p0), (eApiCaskEvent x.2.2.2.2.2)] ∧ RepPtr Γ.g69 F p0 x.2.2.2.2.1) (fun F (x : ((List CaskCask) × (List CaskBook) × (List (List (Int × Bool))) × (List (List (Int × (Option Nat)))) × (Option Nat) × ApiCaskEvent)) => [arena Γ.g75 (C75 Γ) F x.1, arena Γ.g69 (C69 Γ) F x.2.1, arena Γ.g73 (C73 Γ) F x.2.2.1, arena Γ.g67 (C67 Γ) F x.2.2.2.1]) (fun (r : (List CaskCask) × (List (List (Int × Bool))) × (List (List (Int × (Option Nat))))) _ v => v = .tuple #[]) (fun F (x : ((List CaskCask) × (List CaskBook) × (List (List (Int × Bool))) × (List (List (Int × (Option Nat)))) × (Option Nat) × ApiCaskEvent)) (r : (List CaskCask) × (List (List (Int × Bool))) × (List (List (Int × (Option Nat))))) => [arena Γ.g75 (C75 Γ) F r.1, arena Γ.g69 (C69 Γ) F x.2.1, arena Γ.g73 (C73 Γ) F r.2.1, arena Γ.g67 (C67 Γ) F r.2.2]) (fun (x : ((List CaskCask) × (List CaskBook) × (List (List (Int × Bool))) × (List (List (Int × (Option Nat)))) × (Option Nat) × ApiCaskEvent)) => m_cask_book_sell x.1 x.2.1 x.2.2.1 x.2.2.2.1 x.2.2.2.2.1 x.2.2.2.2.2) := ⟨Try.call51, fun F' le' x vs hv => by obtain ⟨pp0, kk0, rfl, hq0⟩ := hv; exact c_cask_book_sell F' _ x.1 x.2.1 x.2.2.1 x.2.2.2.1 x.2.2.2.2.1 pp0 kk0 hq0 x.2.2.2.2.2⟩
 refine .letv (fun m_19 e20 => ?_)
 refine .insertO (key := (5 : Int)) (val := (fun (x : ((List CaskCask) × (List CaskBook) × (List (List (Int × Bool))) × (List (List (Int × (Option Nat)))) × (Option Nat) × ApiCaskEvent)) => m_cask_book_sell x.1 x.2.1 x.2.2.1 x.2.2.2.1 x.2.2.2.2.1 x.2.2.2.2.2)) 0 rfl (Fz.le_refl _) Try.underlying84 (.int Try.underlying3) rfl rfl rfl (fun _ l => ⟨51, ([], []), rfl, (hf18).mono l⟩) e20 ?_
 have hf21 : RepFnX Try.prog penc F0 52 ([], []) (fun (x : ((List CaskCask) × (List CaskBook) × (List (List (Int × Bool))) × (List (List (Int × (Option Nat)))) × (Option Nat) × ApiCaskEvent)) F vs => ∃ (p0 : Option Addr) (k0 : Unit), vs = [(.pointer p0), (eApiCaskEvent x.2.2.2.2.2)] ∧ RepPtr Γ.g69 F p0 x.2.2.2.2.1) (fun F (x : ((List CaskCask) × (List CaskBook) × (List (List (Int × Bool))) × (List (List (Int × (Option Nat)))) × (Option Nat) × ApiCaskEvent)) => [arena Γ.g75 (C75 Γ) F x.1, arena Γ.g69 (C69 Γ) F x.2.1, arena Γ.g73 (C73 Γ) F x.2.2.1, arena Γ.g67 (C67 Γ) F x.2.2.2.1]) (fun (r : (List CaskCask) × (List (List (Int × Bool))) × (List (List (Int × (Option Nat))))) _ v => v = .tuple #[]) (fun F (x : ((List CaskCask) × (List CaskBook) × (List (List (Int × Bool))) × (List (List (Int × (Option Nat)))) × (Option Nat) × ApiCaskEvent)) (r : (List CaskCask) × (List (List (Int × Bool))) × (List (List (Int × (Option Nat))))) => [arena Γ.g75 (C75 Γ) F r.1, arena Γ.g69 (C69 Γ) F x.2.1, arena Γ.g73 (C73 Γ) F r.2.1, arena Γ.g67 (C67 Γ) F r.2.2]) (fun (x : ((List CaskCask) × (List CaskBook) × (List (List (Int × Bool))) × (List (List (Int × (Option Nat)))) × (Option Nat) × ApiCaskEvent)) => m_cask_book_pledge x.1 x.2.1 x.2.2.1 x.2.2.2.1 x.2.2.2.2.1 x.2.2.2.2.2) := ⟨Try.call52, fun F' le' x vs hv => by obtain ⟨pp0, kk0, rfl, hq0⟩ := hv; exact c_cask_book_pledge F' _ x.1 x.2.1 x.2.2.1 x.2.2.2.1 x.2.2.2.2.1 pp0 kk0 hq0 x.2.2.2.2.2⟩
 refine .letv (fun m_22 e23 => ?_)
 refine .insertO (key := (6 : Int)) (val := (fun (x : ((List CaskCask) × (List CaskBook) × (List (List (Int × Bool))) × (List (List (Int × (Option Nat)))) × (Option Nat) × ApiCaskEvent)) => m_cask_book_pledge x.1 x.2.1 x.2.2.1 x.2.2.2.1 x.2.2.2.2.1 x.2.2.2.2.2)) 0 rfl (Fz.le_refl _) Try.underlying84 (.int Try.underlying3) rfl rfl rfl (fun _ l => ⟨52, ([], []), rfl, (hf21).mono l⟩) e23 ?_
 have hf24 : RepFnX Try.prog penc F0 53 ([], []) (fun (x : ((List CaskCask) × (List CaskBook) × (List (List (Int × Bool))) × (List (List (Int × (Option Nat)))) × (Option Nat) × ApiCaskEvent)) F vs => ∃ (p0 : Option Addr) (k0 : Unit), vs = [(.pointer p0), (eApiCaskEvent x.2.2.2.2.2)] ∧ RepPtr Γ.g69 F p0 x.2.2.2.2.1) (fun F (x : ((List CaskCask) × (List CaskBook) × (List (List (Int × Bool))) × (List (List (Int × (Option Nat)))) × (Option Nat) × ApiCaskEvent)) => [arena Γ.g75 (C75 Γ) F x.1, arena Γ.g69 (C69 Γ) F x.2.1, arena Γ.g73 (C73 Γ) F x.2.2.1, arena Γ.g67 (C67 Γ) F x.2.2.2.1]) (fun (r : (List CaskCask) × (List (List (Int × Bool))) × (List (List (Int × (Option Nat))))) _ v => v = .tuple #[]) (fun F (x : ((List CaskCask) × (List CaskBook) × (List (List (Int × Bool))) × (List (List (Int × (Option Nat)))) × (Option Nat) × ApiCaskEvent)) (r : (List CaskCask) × (List (List (Int × Bool))) × (List (List (Int × (Option Nat))))) => [arena Γ.g75 (C75 Γ) F r.1, arena Γ.g69 (C69 Γ) F x.2.1, arena Γ.g73 (C73 Γ) F r.2.1, arena Γ.g67 (C67 Γ) F r.2.2]) (fun (x : ((List CaskCask) × (List CaskBook) × (List (List (Int × Bool))) × (List (List (Int × (Option Nat)))) × (Option Nat) × ApiCaskEvent)) => m_cask_book_free x.1 x.2.1 x.2.2.1 x.2.2.2.1 x.2.2.2.2.1 x.2.2.2.2.2) := ⟨Try.call53, fun F' le' x vs hv => by obtain ⟨pp0, kk0, rfl, hq0⟩ := hv; exact c_cask_book_free F' _ x.1 x.2.1 x.2.2.1 x.2.2.2.1 x.2.2.2.2.1 pp0 kk0 hq0 x.2.2.2.2.2⟩
 refine .letv (fun m_25 e26 => ?_)
 refine .insertO (key := (7 : Int)) (val := (fun (x : ((List CaskCask) × (List CaskBook) × (List (List (Int × Bool))) × (List (List (Int × (Option Nat)))) × (Option Nat) × ApiCaskEvent)) => m_cask_book_free x.1 x.2.1 x.2.2.1 x.2.2.2.1 x.2.2.2.2.1 x.2.2.2.2.2)) 0 rfl (Fz.le_refl _) Try.underlying84 (.int Try.underlying3) rfl rfl rfl (fun _ l => ⟨53, ([], []), rfl, (hf24).mono l⟩) e26 ?_
 have hf27 : RepFnX Try.prog penc F0 54 ([], []) (fun (x : ((List CaskCask) × (List CaskBook) × (List (List (Int × Bool))) × (List (List (Int × (Option Nat)))) × (Option Nat) × ApiCaskEvent)) F vs => ∃ (p0 : Option Addr) (k0 : Unit), vs = [(.pointer p0), (eApiCaskEvent x.2.2.2.2.2)] ∧ RepPtr Γ.g69 F p0 x.2.2.2.2.1) (fun F (x : ((List CaskCask) × (List CaskBook) × (List (List (Int × Bool))) × (List (List (Int × (Option Nat)))) × (Option Nat) × ApiCaskEvent)) => [arena Γ.g75 (C75 Γ) F x.1, arena Γ.g69 (C69 Γ) F x.2.1, arena Γ.g73 (C73 Γ) F x.2.2.1, arena Γ.g67 (C67 Γ) F x.2.2.2.1]) (fun (r : (List CaskCask) × (List (List (Int × Bool))) × (List (List (Int × (Option Nat))))) _ v => v = .tuple #[]) (fun F (x : ((List CaskCask) × (List CaskBook) × (List (List (Int × Bool))) × (List (List (Int × (Option Nat)))) × (Option Nat) × ApiCaskEvent)) (r : (List CaskCask) × (List (List (Int × Bool))) × (List (List (Int × (Option Nat))))) => [arena Γ.g75 (C75 Γ) F r.1, arena Γ.g69 (C69 Γ) F x.2.1, arena Γ.g73 (C73 Γ) F r.2.1, arena Γ.g67 (C67 Γ) F r.2.2]) (fun (x : ((List CaskCask) × (List CaskBook) × (List (List (Int × Bool))) × (List (List (Int × (Option Nat)))) × (Option Nat) × ApiCaskEvent)) => m_cask_book_char x.1 x.2.1 x.2.2.1 x.2.2.2.1 x.2.2.2.2.1 x.2.2.2.2.2) := ⟨Try.call54, fun F' le' x vs hv => by obtain ⟨pp0, kk0, rfl, hq0⟩ := hv; exact c_cask_book_char F' _ x.1 x.2.1 x.2.2.1 x.2.2.2.1 x.2.2.2.2.1 pp0 kk0 hq0 x.2.2.2.2.2⟩
 refine .letv (fun m_28 e29 => ?_)
 refine .insertO (key := (8 : Int)) (val := (fun (x : ((List CaskCask) × (List CaskBook) × (List (List (Int × Bool))) × (List (List (Int × (Option Nat)))) × (Option Nat) × ApiCaskEvent)) => m_cask_book_char x.1 x.2.1 x.2.2.1 x.2.2.2.1 x.2.2.2.2.1 x.2.2.2.2.2)) 0 rfl (Fz.le_refl _) Try.underlying84 (.int Try.underlying3) rfl rfl rfl (fun _ l => ⟨54, ([], []), rfl, (hf27).mono l⟩) e29 ?_
 refine .move rfl rfl ?_
 refine .freezeMap 0 rfl (Fz.le_refl _) (fun F_30 l_31 h32 => ?_)
 refine .assign rfl rfl ?_
 refine .nil ?_
 refine .code ?_
 exact .ret0 Try.results33 (.tmp rfl (.nil)) (i := 0) rfl l_31 ⟨b1, (), rfl, h32⟩
def m_cask_isNumber (n_1 : Int) : Bool :=
 (m_cask_within n_1 0 1073741824)
theorem c_cask_isNumber (F0 : Fz) (n_1 : Int) : CT0 Try.prog 55 [(.int .i64 n_1)].toArray F0 (some (m_cask_isNumber n_1)) (fun r _ v => v = (.bool r)) := by
 refine CT0.enter Try.func55 rfl Try.ntmps55 rfl fun r R => ?_
 refine .seq ?_
 refine .region ?_
 refine .assign rfl rfl ?_
 refine .nil ?_
 refine .code ?_
 refine .seq ?_
 refine .region ?_
 refine .move rfl rfl ?_
 refine .callP rfl Try.call31 rfl rfl rfl (c_cask_within _ n_1 0 1073741824) ?_
 rintro F_2 _ l_3 rfl
 refine .assign rfl rfl ?_
 refine .nil ?_
 refine .code ?_
 exact .ret0 Try.results55 (.tmp rfl (.nil)) (i := 0) rfl l_3 rfl
def m_cask_isWood (n_1 : Int) : Bool :=
 (m_cask_within n_1 0 7)
theorem c_cask_isWood (F0 : Fz) (n_1 : Int) : CT0 Try.prog 56 [(.int .i64 n_1)].toArray F0 (some (m_cask_isWood n_1)) (fun r _ v => v = (.bool r)) := by
 refine CT0.enter Try.func56 rfl Try.ntmps56 rfl fun r R => ?_
 refine .seq ?_
 refine .region ?_
 refine .assign rfl rfl ?_
 refine .nil ?_
 refine .code ?_
 refine .seq ?_
 refine .region ?_
 refine .move rfl rfl ?_
 refine .callP rfl Try.call31 rfl rfl rfl (c_cask_within _ n_1 0 7) ?_
 rintro F_2 _ l_3 rfl
 refine .assign rfl rfl ?_
 refine .nil ?_
 refine .code ?_
 exact .ret0 Try.results56 (.tmp rfl (.nil)) (i := 0) rfl l_3 rfl
def m_cask_isPlace (n_1 : Int) : Bool :=
 (m_cask_within n_1 0 7)
theorem c_cask_isPlace (F0 : Fz) (n_1 : Int) : CT0 Try.prog 57 [(.int .i64 n_1)].toArray F0 (some (m_cask_isPlace n_1)) (fun r _ v => v = (.bool r)) := by
 refine CT0.enter Try.func57 rfl Try.ntmps57 rfl fun r R => ?_
 refine .seq ?_
 refine .region ?_
 refine .assign rfl rfl ?_
 refine .nil ?_
 refine .code ?_
 refine .seq ?_
 refine .region ?_
 refine .move rfl rfl ?_
 refine .callP rfl Try.call31 rfl rfl rfl (c_cask_within _ n_1 0 7) ?_
 rintro F_2 _ l_3 rfl
 refine .assign rfl rfl ?_
 refine .nil ?_
 refine .code ?_
 exact .ret0 Try.results57 (.tmp rfl (.nil)) (i := 0) rfl l_3 rfl
def m_cask_isAmount (n_1 : Int) : Bool :=
 (m_cask_within n_1 1 1099511627776)
theorem c_cask_isAmount (F0 : Fz) (n_1 : Int) : CT0 Try.prog 58 [(.int .i64 n_1)].toArray F0 (some (m_cask_isAmount n_1)) (fun r _ v => v = (.bool r)) := by
 refine CT0.enter Try.func58 rfl Try.ntmps58 rfl fun r R => ?_
 refine .seq ?_
 refine .region ?_
 refine .assign rfl rfl ?_
 refine .nil ?_
 refine .code ?_
 refine .seq ?_
 refine .region ?_
 refine .move rfl rfl ?_
 refine .callP rfl Try.call31 rfl rfl rfl (c_cask_within _ n_1 1 1099511627776) ?_
 rintro F_2 _ l_3 rfl
 refine .assign rfl rfl ?_
 refine .nil ?_
 refine .code ?_
 exact .ret0 Try.results58 (.tmp rfl (.nil)) (i := 0) rfl l_3 rfl
def m_cask_isPerson (n_1 : Int) : Bool :=
 (m_cask_within n_1 0 1073741824)
theorem c_cask_isPerson (F0 : Fz) (n_1 : Int) : CT0 Try.prog 59 [(.int .i64 n_1)].toArray F0 (some (m_cask_isPerson n_1)) (fun r _ v => v = (.bool r)) := by
 refine CT0.enter Try.func59 rfl Try.ntmps59 rfl fun r R => ?_
 refine .seq ?_
 refine .region ?_
 refine .assign rfl rfl ?_
 refine .nil ?_
 refine .code ?_
 refine .seq ?_
 refine .region ?_
 refine .move rfl rfl ?_
 refine .callP rfl Try.call31 rfl rfl rfl (c_cask_within _ n_1 0 1073741824) ?_
 rintro F_2 _ l_3 rfl
 refine .assign rfl rfl ?_
 refine .nil ?_
 refine .code ?_
 exact .ret0 Try.results59 (.tmp rfl (.nil)) (i := 0) rfl l_3 rfl
noncomputable def m_cask_isEvent (x1 : ApiCaskEvent) : Option Bool :=
 if ((!(m_cask_within x1.Day 0 65536)) || (!(m_cask_isNumber x1.Cask))) then (some false) else (if (x1.Kind == 0) then (some ((((m_cask_isWood x1.Other) && (m_cask_isPlace x1.Where)) && (m_cask_isAmount x1.Amount)) && (m_cask_isPerson x1.Person))) else ((if (x1.Kind == 1) then (some (x1.Kind == 1)) else (some (x1.Kind == 3)) : Option (Bool)).bind fun j37 => if j37 then (some (m_cask_isAmount x1.Amount)) else (if (x1.Kind == 2) then (some ((m_cask_isNumber x1.Other) && (m_cask_isAmount x1.Amount))) else (if (x1.Kind == 4) then (some (m_cask_isPlace x1.Where)) else ((if (x1.Kind == 5) then (some (x1.Kind == 5)) else (some (x1.Kind == 6)) : Option (Bool)).bind fun j56 => if j56 then (some ((m_cask_isPerson x1.Person) && (m_cask_isPerson x1.To))) else (if (x1.Kind == 7) then (some (m_cask_isPerson x1.Person)) else (if (x1.Kind == 8) then (some (m_cask_isWood x1.Where)) else (some false))))))))
theorem c_cask_isEvent (F0 : Fz) (x1 : ApiCaskEvent) : CT0 Try.prog 35 [(eApiCaskEvent x1)].toArray F0 (m_cask_isEvent x1) (fun r _ v => v = (.bool r)) := by
 refine CT0.enter Try.func35 rfl Try.ntmps35 rfl fun r R => ?_
 unfold m_cask_isEvent
 refine .seq ?_
 refine .region ?_
 refine .boxF (cs := (cApiCaskEvent x1)) rfl rfl rfl (fun b2 F_3 l_4 hb5 => ?_)
 refine .assign rfl rfl ?_
 refine .nil ?_
 refine .code ?_
 refine .seq ?_
 refine .seq ?_
 refine .region ?_
 refine .fieldAddr rfl Try.underlying45 rfl Try.sizeOf3 rfl ?_
 refine .loadF rfl Try.isAgg3 rfl hb5 rfl ?_
 refine .callP rfl Try.call31 rfl rfl rfl (c_cask_within _ x1.Day 0 65536) ?_
 rintro F_6 _ l_7 rfl
 refine .not rfl rfl ?_
 refine .move rfl rfl ?_
 refine .orP (b := (!(m_cask_within x1.Day 0 65536))) (b' := (!(m_cask_isNumber x1.Cask))) 5 12 (fun hb8 => ?_) (fun hb11 => ?_) (fun F_12 l_13 => ?_)
 ·skip
  refine .onH hb8 rfl rfl ?_
  refine .fieldAddr rfl Try.underlying45 rfl Try.sizeOf3 rfl ?_
  refine .onH hb8 rfl rfl ?_
  refine .loadF rfl Try.isAgg3 rfl (l_7.mem _ _ hb5) rfl ?_
  refine .onH hb8 rfl rfl ?_
  refine .callP rfl Try.call55 rfl rfl rfl (c_cask_isNumber _ x1.Cask) ?_
  rintro F_9 _ l_10 rfl
  refine .onH hb8 rfl rfl ?_
  refine .not rfl rfl ?_
  refine .pickFH hb8 rfl rfl rfl ?_
  exact .fin 5 rfl rfl (by kernel_rfl) l_10
 ·skip
  refine .offH hb11 rfl rfl rfl ?_
  refine .offH hb11 rfl rfl rfl ?_
  refine .offH hb11 rfl rfl rfl ?_
  refine .offH hb11 rfl rfl rfl ?_
  refine .pickTH hb11 rfl rfl rfl ?_
  exact .fin 5 rfl rfl (by kernel_rfl) (Fz.le_refl _)
 refine .nil ?_
 refine .code ?_
 refine .cond rfl (fun hb14 => ?_) (fun hb14 => ?_)
 ·skip
  refine .seq ?_
  refine .region ?_
  refine .assign rfl rfl ?_
  refine .nil ?_
  refine .code ?_
  exact .ret0 Try.results35 (.tmp rfl (.nil)) (i := 0) rfl (Fz.le_trans l_4 (Fz.le_trans l_7 l_13)) rfl
 ·skip
  refine .skip ?_
  refine .code ?_
  refine .seq ?_
  refine .seq ?_
  refine .region ?_
  refine .fieldAddr rfl Try.underlying45 rfl Try.sizeOf3 rfl ?_
  refine .loadF rfl Try.isAgg3 rfl ((Fz.le_trans l_7 l_13).mem _ _ hb5) rfl ?_
  refine .nil ?_
  refine .code ?_
  refine .block ?_
  refine .seq ?_
  refine .region ?_
  refine .eql rfl rfl rfl ?_
  refine .assign rfl rfl ?_
  refine .nil ?_
  refine .code ?_
  refine .cond rfl (fun hb15 => ?_) (fun hb15 => ?_)
  ·skip
   refine .seq ?_
   refine .region ?_
   refine .fieldAddr rfl Try.underlying45 rfl Try.sizeOf3 rfl ?_
   refine .loadF rfl Try.isAgg3 rfl ((Fz.le_trans l_7 l_13).mem _ _ hb5) rfl ?_
   refine .callP rfl Try.call56 rfl rfl rfl (c_cask_isWood _ x1.Other) ?_
   rintro F_16 _ l_17 rfl
   refine .move rfl rfl ?_
   refine .andP (b := (m_cask_isWood x1.Other)) (b' := (m_cask_isPlace x1.Where)) 4 24 (fun hb18 => ?_) (fun hb21 => ?_) (fun F_22 l_23 => ?_)
   ·skip
    refine .onH hb18 rfl rfl ?_
    refine .fieldAddr rfl Try.underlying45 rfl Try.sizeOf3 rfl ?_
    refine .onH hb18 rfl rfl ?_
    refine .loadF rfl Try.isAgg3 rfl ((Fz.le_trans l_7 (Fz.le_trans l_13 l_17)).mem _ _ hb5) rfl ?_
    refine .onH hb18 rfl rfl ?_
    refine .callP rfl Try.call57 rfl rfl rfl (c_cask_isPlace _ x1.Where) ?_
    rintro F_19 _ l_20 rfl
    refine .pickTH hb18 rfl rfl rfl ?_
    exact .fin 4 rfl rfl (by kernel_rfl) l_20
   ·skip
    refine .offH hb21 rfl rfl rfl ?_
    refine .offH hb21 rfl rfl rfl ?_
    refine .offH hb21 rfl rfl rfl ?_
    refine .pickFH hb21 rfl rfl rfl ?_
    exact .fin 4 rfl rfl (by kernel_rfl) (Fz.le_refl _)
   refine .move rfl rfl ?_
   refine .andP (b := ((m_cask_isWood x1.Other) && (m_cask_isPlace x1.Where))) (b' := (m_cask_isAmount x1.Amount)) 4 29 (fun hb24 => ?_) (fun hb27 => ?_) (fun F_28 l_29 => ?_)
   ·skip
    refine .onH hb24 rfl rfl ?_
    refine .fieldAddr rfl Try.underlying45 rfl Try.sizeOf3 rfl ?_
    refine .onH hb24 rfl rfl ?_
    refine .loadF rfl Try.isAgg3 rfl ((Fz.le_trans l_7 (Fz.le_trans l_13 (Fz.le_trans l_17 l_23))).mem _ _ hb5) rfl ?_
    refine .onH hb24 rfl rfl ?_
    refine .callP rfl Try.call58 rfl rfl rfl (c_cask_isAmount _ x1.Amount) ?_
    rintro F_25 _ l_26 rfl
    refine .pickTH hb24 rfl rfl rfl ?_
    exact .fin 4 rfl rfl (by kernel_rfl) l_26
   ·skip
    refine .offH hb27 rfl rfl rfl ?_
    refine .offH hb27 rfl rfl rfl ?_
    refine .offH hb27 rfl rfl rfl ?_
    refine .pickFH hb27 rfl rfl rfl ?_
    exact .fin 4 rfl rfl (by kernel_rfl) (Fz.le_refl _)
   refine .move rfl rfl ?_
   refine .andP (b := (((m_cask_isWood x1.Other) && (m_cask_isPlace x1.Where)) && (m_cask_isAmount x1.Amount))) (b' := (m_cask_isPerson x1.Person)) 4 34 (fun hb30 => ?_) (fun hb33 => ?_) (fun F_34 l_35 => ?_)
   ·skip
    refine .onH hb30 rfl rfl ?_
    refine .fieldAddr rfl Try.underlying45 rfl Try.sizeOf3 rfl ?_
    refine .onH hb30 rfl rfl ?_
    refine .loadF rfl Try.isAgg3 rfl ((Fz.le_trans l_7 (Fz.le_trans l_13 (Fz.le_trans l_17 (Fz.le_trans l_23 l_29)))).mem _ _ hb5) rfl ?_
    refine .onH hb30 rfl rfl ?_
    refine .callP rfl Try.call59 rfl rfl rfl (c_cask_isPerson _ x1.Person) ?_
    rintro F_31 _ l_32 rfl
    refine .pickTH hb30 rfl rfl rfl ?_
    exact .fin 4 rfl rfl (by kernel_rfl) l_32
   ·skip
    refine .offH hb33 rfl rfl rfl ?_
    refine .offH hb33 rfl rfl rfl ?_
    refine .offH hb33 rfl rfl rfl ?_
    refine .pickFH hb33 rfl rfl rfl ?_
    exact .fin 4 rfl rfl (by kernel_rfl) (Fz.le_refl _)
   refine .assign rfl rfl ?_
   refine .nil ?_
   refine .code ?_
   exact .ret0 Try.results35 (.tmp rfl (.nil)) (i := 0) rfl (Fz.le_trans l_4 (Fz.le_trans l_7 (Fz.le_trans l_13 (Fz.le_trans l_17 (Fz.le_trans l_23 (Fz.le_trans l_29 l_35)))))) rfl
  ·skip
   refine .seq ?_
   refine .seq ?_
   refine .region ?_
   refine .eql rfl rfl rfl ?_
   refine .assign rfl rfl ?_
   refine .nil ?_
   refine .code ?_
   refine .keep (.cons (k := 1) rfl (.cons (k := 14) rfl (.cons (k := 35) rfl (.nil _)))) ?_
   refine GC.join0 (σ := Bool) (fun j37 a w => ∃ (F_38 : Fz), F_12 ≤ F_38 ∧ Hd 77 [] [(1, (.pointer (some ⟨b2, 0, none⟩))), (14, (.int .i64 x1.Kind)), (35, (.bool j37))] F_38 [R] a w) (fun sj => ?_) (fun j37 hs0 => GE.ex (fun a w ⟨F_38, l_39, hA⟩ => ⟨_, hA, ?_⟩))
   ·skip
    refine .cond rfl (fun hb36 => ?_) (fun hb36 => ?_)
    ·skip
     refine .skip ?_
     exact .nil fun e a w h => by cases e; exact ⟨rfl, ⟨F_12, (Fz.le_refl _), h.1.sub (.cons (k := 1) rfl (.cons (k := 14) rfl (.cons (k := 35) rfl (.nil _)))), h.2⟩⟩
    ·skip
     refine .region ?_
     refine .eql rfl rfl rfl ?_
     refine .assign rfl rfl ?_
     refine .nil ?_
     exact .nil fun e a w h => by cases e; exact ⟨rfl, ⟨F_12, (Fz.le_refl _), h.1.sub (.cons (k := 1) rfl (.cons (k := 14) rfl (.cons (k := 35) rfl (.nil _)))), h.2⟩⟩
   refine .code ?_
   refine .cond rfl (fun hb40 => ?_) (fun hb40 => ?_)
   ·skip
    refine .seq ?_
    refine .region ?_
    refine .fieldAddr rfl Try.underlying45 rfl Try.sizeOf3 rfl ?_
    refine .loadF rfl Try.isAgg3 rfl ((Fz.le_trans l_7 (Fz.le_trans l_13 l_39)).mem _ _ hb5) rfl ?_
    refine .callP rfl Try.call58 rfl rfl rfl (c_cask_isAmount _ x1.Amount) ?_
    rintro F_41 _ l_42 rfl
    refine .assign rfl rfl ?_
    refine .nil ?_
    refine .code ?_
    exact .ret0 Try.results35 (.tmp rfl (.nil)) (i := 0) rfl (Fz.le_trans l_4 (Fz.le_trans l_7 (Fz.le_trans l_13 (Fz.le_trans l_39 l_42)))) rfl
   ·skip
    refine .seq ?_
    refine .region ?_
    refine .eql rfl rfl rfl ?_
    refine .assign rfl rfl ?_
    refine .nil ?_
    refine .code ?_
    refine .cond rfl (fun hb43 => ?_) (fun hb43 => ?_)
    ·skip
     refine .seq ?_
     refine .region ?_
     refine .fieldAddr rfl Try.underlying45 rfl Try.sizeOf3 rfl ?_
     refine .loadF rfl Try.isAgg3 rfl ((Fz.le_trans l_7 (Fz.le_trans l_13 l_39)).mem _ _ hb5) rfl ?_
     refine .callP rfl Try.call55 rfl rfl rfl (c_cask_isNumber _ x1.Other) ?_
     rintro F_44 _ l_45 rfl
     refine .move rfl rfl ?_
     refine .andP (b := (m_cask_isNumber x1.Other)) (b' := (m_cask_isAmount x1.Amount)) 4 50 (fun hb46 => ?_) (fun hb49 => ?_) (fun F_50 l_51 => ?_)
     ·skip
      refine .onH hb46 rfl rfl ?_
      refine .fieldAddr rfl Try.underlying45 rfl Try.sizeOf3 rfl ?_
      refine .onH hb46 rfl rfl ?_
      refine .loadF rfl Try.isAgg3 rfl ((Fz.le_trans l_7 (Fz.le_trans l_13 (Fz.le_trans l_39 l_45))).mem _ _ hb5) rfl ?_
      refine .onH hb46 rfl rfl ?_
      refine .callP rfl Try.call58 rfl rfl rfl (c_cask_isAmount _ x1.Amount) ?_
      rintro F_47 _ l_48 rfl
      refine .pickTH hb46 rfl rfl rfl ?_
      exact .fin 4 rfl rfl (by kernel_rfl) l_48
     ·skip
      refine .offH hb49 rfl rfl rfl ?_
      refine .offH hb49 rfl rfl rfl ?_
      refine .offH hb49 rfl rfl rfl ?_
      refine .pickFH hb49 rfl rfl rfl ?_
      exact .fin 4 rfl rfl (by kernel_rfl) (Fz.le_refl _)
     refine .assign rfl rfl ?_
     refine .nil ?_
     refine .code ?_
     exact .ret0 Try.results35 (.tmp rfl (.nil)) (i := 0) rfl (Fz.le_trans l_4 (Fz.le_trans l_7 (Fz.le_trans l_13 (Fz.le_trans l_39 (Fz.le_trans l_45 l_51))))) rfl
    ·skip
     refine .seq ?_
     refine .region ?_
     refine .eql rfl rfl rfl ?_
     refine .assign rfl rfl ?_
     refine .nil ?_
     refine .code ?_
     refine .cond rfl (fun hb52 => ?_) (fun hb52 => ?_)
     ·skip
      refine .seq ?_
      refine .region ?_
      refine .fieldAddr rfl Try.underlying45 rfl Try.sizeOf3 rfl ?_
      refine .loadF rfl Try.isAgg3 rfl ((Fz.le_trans l_7 (Fz.le_trans l_13 l_39)).mem _ _ hb5) rfl ?_
      refine .callP rfl Try.call57 rfl rfl rfl (c_cask_isPlace _ x1.Where) ?_
      rintro F_53 _ l_54 rfl
      refine .assign rfl rfl ?_
      refine .nil ?_
      refine .code ?_
      exact .ret0 Try.results35 (.tmp rfl (.nil)) (i := 0) rfl (Fz.le_trans l_4 (Fz.le_trans l_7 (Fz.le_trans l_13 (Fz.le_trans l_39 l_54)))) rfl
     ·skip
      refine .seq ?_
      refine .seq ?_
      refine .region ?_
      refine .eql rfl rfl rfl ?_
      refine .assign rfl rfl ?_
      refine .nil ?_
      refine .code ?_
      refine .keep (.cons (k := 1) rfl (.cons (k := 14) rfl (.cons (k := 56) rfl (.nil _)))) ?_
      refine GC.join0 (σ := Bool) (fun j56 a w => ∃ (F_57 : Fz), F_38 ≤ F_57 ∧ Hd 77 [] [(1, (.pointer (some ⟨b2, 0, none⟩))), (14, (.int .i64 x1.Kind)), (56, (.bool j56))] F_57 [R] a w) (fun sj => ?_) (fun j56 hs0 => GE.ex (fun a w ⟨F_57, l_58, hA⟩ => ⟨_, hA, ?_⟩))
      ·skip
       refine .cond rfl (fun hb55 => ?_) (fun hb55 => ?_)
       ·skip
        refine .skip ?_
        exact .nil fun e a w h => by cases e; exact ⟨rfl, ⟨F_38, (Fz.le_refl _), h.1.sub (.cons (k := 1) rfl (.cons (k := 14) rfl (.cons (k := 56) rfl (.nil _)))), h.2⟩⟩
       ·skip
        refine .region ?_
        refine .eql rfl rfl rfl ?_
        refine .assign rfl rfl ?_
        refine .nil ?_
        exact .nil fun e a w h => by cases e; exact ⟨rfl, ⟨F_38, (Fz.le_refl _), h.1.sub (.cons (k := 1) rfl (.cons (k := 14) rfl (.cons (k := 56) rfl (.nil _)))), h.2⟩⟩
      refine .code ?_
      refine .cond rfl (fun hb59 => ?_) (fun hb59 => ?_)
      ·skip
       refine .seq ?_
       refine .region ?_
       refine .fieldAddr rfl Try.underlying45 rfl Try.sizeOf3 rfl ?_
       refine .loadF rfl Try.isAgg3 rfl ((Fz.le_trans l_7 (Fz.le_trans l_13 (Fz.le_trans l_39 l_58))).mem _ _ hb5) rfl ?_
       refine .callP rfl Try.call59 rfl rfl rfl (c_cask_isPerson _ x1.Person) ?_
       rintro F_60 _ l_61 rfl
       refine .move rfl rfl ?_
       refine .andP (b := (m_cask_isPerson x1.Person)) (b' := (m_cask_isPerson x1.To)) 4 66 (fun hb62 => ?_) (fun hb65 => ?_) (fun F_66 l_67 => ?_)
       ·skip
        refine .onH hb62 rfl rfl ?_
        refine .fieldAddr rfl Try.underlying45 rfl Try.sizeOf3 rfl ?_
        refine .onH hb62 rfl rfl ?_
        refine .loadF rfl Try.isAgg3 rfl ((Fz.le_trans l_7 (Fz.le_trans l_13 (Fz.le_trans l_39 (Fz.le_trans l_58 l_61)))).mem _ _ hb5) rfl ?_
        refine .onH hb62 rfl rfl ?_
        refine .callP rfl Try.call59 rfl rfl rfl (c_cask_isPerson _ x1.To) ?_
        rintro F_63 _ l_64 rfl
        refine .pickTH hb62 rfl rfl rfl ?_
        exact .fin 4 rfl rfl (by kernel_rfl) l_64
       ·skip
        refine .offH hb65 rfl rfl rfl ?_
        refine .offH hb65 rfl rfl rfl ?_
        refine .offH hb65 rfl rfl rfl ?_
        refine .pickFH hb65 rfl rfl rfl ?_
        exact .fin 4 rfl rfl (by kernel_rfl) (Fz.le_refl _)
       refine .assign rfl rfl ?_
       refine .nil ?_
       refine .code ?_
       exact .ret0 Try.results35 (.tmp rfl (.nil)) (i := 0) rfl (Fz.le_trans l_4 (Fz.le_trans l_7 (Fz.le_trans l_13 (Fz.le_trans l_39 (Fz.le_trans l_58 (Fz.le_trans l_61 l_67)))))) rfl
      ·skip
       refine .seq ?_
       refine .region ?_
       refine .eql rfl rfl rfl ?_
       refine .assign rfl rfl ?_
       refine .nil ?_
       refine .code ?_
       refine .cond rfl (fun hb68 => ?_) (fun hb68 => ?_)
       ·skip
        refine .seq ?_
        refine .region ?_
        refine .fieldAddr rfl Try.underlying45 rfl Try.sizeOf3 rfl ?_
        refine .loadF rfl Try.isAgg3 rfl ((Fz.le_trans l_7 (Fz.le_trans l_13 (Fz.le_trans l_39 l_58))).mem _ _ hb5) rfl ?_
        refine .callP rfl Try.call59 rfl rfl rfl (c_cask_isPerson _ x1.Person) ?_
        rintro F_69 _ l_70 rfl
        refine .assign rfl rfl ?_
        refine .nil ?_
        refine .code ?_
        exact .ret0 Try.results35 (.tmp rfl (.nil)) (i := 0) rfl (Fz.le_trans l_4 (Fz.le_trans l_7 (Fz.le_trans l_13 (Fz.le_trans l_39 (Fz.le_trans l_58 l_70))))) rfl
       ·skip
        refine .seq ?_
        refine .region ?_
        refine .eql rfl rfl rfl ?_
        refine .assign rfl rfl ?_
        refine .nil ?_
        refine .code ?_
        refine .cond rfl (fun hb71 => ?_) (fun hb71 => ?_)
        ·skip
         refine .seq ?_
         refine .region ?_
         refine .fieldAddr rfl Try.underlying45 rfl Try.sizeOf3 rfl ?_
         refine .loadF rfl Try.isAgg3 rfl ((Fz.le_trans l_7 (Fz.le_trans l_13 (Fz.le_trans l_39 l_58))).mem _ _ hb5) rfl ?_
         refine .callP rfl Try.call56 rfl rfl rfl (c_cask_isWood _ x1.Where) ?_
         rintro F_72 _ l_73 rfl
         refine .assign rfl rfl ?_
         refine .nil ?_
         refine .code ?_
         exact .ret0 Try.results35 (.tmp rfl (.nil)) (i := 0) rfl (Fz.le_trans l_4 (Fz.le_trans l_7 (Fz.le_trans l_13 (Fz.le_trans l_39 (Fz.le_trans l_58 l_73))))) rfl
        ·skip
         refine .skip ?_
         refine .block ?_
         refine .code ?_
         refine .seq ?_
         refine .region ?_
         refine .assign rfl rfl ?_
         refine .nil ?_
         refine .code ?_
         exact .ret0 Try.results35 (.tmp rfl (.nil)) (i := 0) rfl (Fz.le_trans l_4 (Fz.le_trans l_7 (Fz.le_trans l_13 (Fz.le_trans l_39 l_58)))) rfl
noncomputable def b_cask_play_1 (l_1 : (List ApiCaskEvent)) (day5 : Int) (r_41 : (List (Int × (((List CaskCask) × (List CaskBook) × (List (List (Int × Bool))) × (List (List (Int × (Option Nat)))) × (Option Nat) × ApiCaskEvent) → Option (Out CaskMisfit ((List CaskCask) × (List (List (Int × Bool))) × (List (List (Int × (Option Nat)))))))))) (s45 : Int × Int × (List CaskCask) × (List CaskBook) × (List (List (Int × Bool))) × (List (List (Int × (Option Nat))))) : Option (Ctl (Int × Int × (List CaskCask) × (List CaskBook) × (List (List (Int × Bool))) × (List (List (Int × (Option Nat))))) ((Int × (List CaskCask) × (List CaskBook) × (List (List (Int × Bool))) × (List (List (Int × (Option Nat))))) ⊕ (CaskMisfit × Int × Int × (Option Nat)))) :=
 (if (decide (s45.1 < (l_1.length : Int))) then ((idxL l_1 s45.1).bind fun x49 => some (decide (x49.Day ≤ day5))) else some false).bind fun z62 => if z62 then ((idxL l_1 s45.1).bind fun x65 => (m_cask_isEvent x65).bind fun r_78 => bindX (m_cask_need r_78 1) (fun q85 => some (.done (.inr (q85, s45.1, 0, (some 0))))) fun _r_79 => bindX (m_cask_need (decide (x65.Day ≥ s45.2.1)) 7) (fun q92 => some (.done (.inr (q92, s45.1, 0, (some 0))))) fun _r_86 => (s45.2.2.2.1[0]?).bind fun x111 => bindv ({ x111 with event := s45.1 }) fun x113 => bindv (List.set s45.2.2.2.1 0 x113) fun A115 => (mapGet r_41 x65.Kind).bind fun x134 => bindX (x134 (s45.2.2.1, A115, s45.2.2.2.2.1, s45.2.2.2.2.2, (some 0), x65)) (fun q145 => some (.done (.inr (q145, s45.1, 0, (some 0))))) fun r_139 => bindv (w64 (s45.1 + 1)) fun n_146 => some (.next (n_146, x65.Day, r_139.1, A115, r_139.2.1, r_139.2.2))) else (some (.done (.inl (s45.1, s45.2.2.1, s45.2.2.2.1, s45.2.2.2.2.1, s45.2.2.2.2.2))))
noncomputable def b_cask_play_2 (day5 : Int) (x181 : (Int × (Option Nat))) (s173 : (List CaskCask)) : Option ((List CaskCask)) :=
 (m_cask_cask_rest s173 x181.2 day5).bind fun r_191 => some r_191
noncomputable def m_cask_play (l_1 : (List ApiCaskEvent)) (day5 : Int) : Option ((Option Nat) × Int × Int × (List CaskCask) × (List CaskBook) × (List (List (Int × Bool))) × (List (List (Int × (Option Nat))))) :=
 if (decide ((l_1.length : Int) > 4096)) then (some (none, 0, 3, [], [], [], [])) else (if (!(m_cask_within day5 0 65536)) then (some (none, 0, 2, [], [], [], [])) else (bindv (([]) ++ [[]]) fun A26 => bindv (CaskBook.mk (some 0) 0) fun x32 => bindv (([]) ++ [x32]) fun A34 => (m_cask_deeds).bind fun r_41 => (loopM (b_cask_play_1 l_1 day5 r_41) (0, 0, [], A34, [], A26)).bind fun b0 => match b0 with | .inl b148 => ((b148.2.2.1[0]?).bind fun x156 => (x156.casks).bind fun i161 => (b148.2.2.2.2[i161]?).bind fun x166 => (permM (b_cask_play_2 day5) x166 b148.2.1).bind fun R_195 => some ((some 0), b148.1, 0, R_195, b148.2.2.1, b148.2.2.2.1, b148.2.2.2.2)) | .inr b148 => (some (none, b148.2.1, b148.1.e, [], [], [], []))))
set_option maxHeartbeats 8000000 in
theorem c_cask_play (F0 : Fz) (l_1 : (List ApiCaskEvent)) (p2 : Option Addr) (k3 : Nat) (h4 : RepSl 8 (Ex cApiCaskEvent) F0 p2 k3 l_1) (day5 : Int) : CTO Try.prog 24 [(.slice p2 l_1.length k3), (.int .i64 day5)].toArray F0 (m_cask_play l_1 day5) (fun (Γ : Gam) (r : (Option Nat) × Int × Int × (List CaskCask) × (List CaskBook) × (List (List (Int × Bool))) × (List (List (Int × (Option Nat))))) F v => ∃ (p0 : Option Addr) (_k0 : Unit), v = .tuple #[(.pointer p0), (.int .i64 r.2.1), (.int .i64 r.2.2.1)] ∧ RepPtr Γ.g69 F p0 r.1) (fun (Γ : Gam) (r : (Option Nat) × Int × Int × (List CaskCask) × (List CaskBook) × (List (List (Int × Bool))) × (List (List (Int × (Option Nat))))) F' => [arena Γ.g75 (C75 Γ) F' r.2.2.2.1, arena Γ.g69 (C69 Γ) F' r.2.2.2.2.1, arena Γ.g73 (C73 Γ) F' r.2.2.2.2.2.1, arena Γ.g67 (C67 Γ) F' r.2.2.2.2.2.2]) := by
 refine CTO.enter Try.func24 rfl Try.ntmps24 rfl fun r R => ?_
 refine .newG (fun x6 F_7 l_8 => ?_)
 refine .newG (fun x9 F_10 l_11 => ?_)
 refine .newG (fun x12 F_13 l_14 => ?_)
 refine .newG (fun x15 F_16 l_17 => ?_)
 refine .newA (C75 (Gam.mk x6 x9 x12 x15)) 3 rfl ?_
 refine .newA (C69 (Gam.mk x6 x9 x12 x15)) 2 rfl ?_
 refine .newA (C73 (Gam.mk x6 x9 x12 x15)) 1 rfl ?_
 refine .newA (C67 (Gam.mk x6 x9 x12 x15)) 0 rfl ?_
 refine .pick [3, 2, 1, 0, 0] (rfl : _ = [arena (Gam.mk x6 x9 x12 x15).g75 (C75 (Gam.mk x6 x9 x12 x15)) F_16 ([]), arena (Gam.mk x6 x9 x12 x15).g69 (C69 (Gam.mk x6 x9 x12 x15)) F_16 ([]), arena (Gam.mk x6 x9 x12 x15).g73 (C73 (Gam.mk x6 x9 x12 x15)) F_16 ([]), arena (Gam.mk x6 x9 x12 x15).g67 (C67 (Gam.mk x6 x9 x12 x15)) F_16 ([]), R]) ?_
 generalize (Gam.mk x6 x9 x12 x15) = Γ
 unfold m_cask_play
 refine .seq ?_
 refine .region ?_
 refine .alloc (cs := [(.pointer none)]) rfl Try.zeroValue54 rfl (fun b18 => ?_)
 refine .assign rfl rfl ?_
 refine .alloc (cs := [(.int .i64 0)]) rfl Try.zeroValue26 rfl (fun b19 => ?_)
 refine .nil ?_
 refine .code ?_
 refine .seq ?_
 refine .block ?_
 refine .seq ?_
 refine .region ?_
 refine .move rfl rfl ?_
 refine .lenS rfl rfl Try.underlying22 rfl ?_
 refine .gtr rfl rfl rfl ?_
 refine .assign rfl rfl ?_
 refine .nil ?_
 refine .code ?_
 refine .cond rfl (fun hb20 => ?_) (fun hb20 => ?_)
 ·skip
  refine .seq ?_
  refine .region ?_
  refine .store (cs' := [(.pointer none)]) Try.sizeOf54 rfl rfl rfl rfl (i := 1) rfl (Nat.le_of_ble_eq_true rfl) rfl rfl ?_
  refine .assign rfl rfl ?_
  refine .store (cs' := [(.int .i64 3)]) Try.sizeOf26 rfl rfl rfl rfl (i := 0) rfl (Nat.le_of_ble_eq_true rfl) rfl rfl ?_
  refine .nil ?_
  refine .code ?_
  exact .retQ (ret_postO (Γ := Γ) [2, 2, 2, 2, 2] Try.results24 (.cell rfl Try.isAgg54 (i := 1) rfl rfl (.tmp rfl (.cell rfl Try.isAgg26 (i := 0) rfl rfl (.nil)))) rfl (Fz.le_trans l_8 (Fz.le_trans l_11 (Fz.le_trans l_14 l_17))) ⟨none, (), rfl, (RepPtr.nil.mono (Fz.le_trans l_8 (Fz.le_trans l_11 (Fz.le_trans l_14 l_17))))⟩)
 ·skip
  refine .seq ?_
  refine .region ?_
  refine .move rfl rfl ?_
  refine .callP rfl Try.call31 rfl rfl rfl (c_cask_within _ day5 0 65536) ?_
  rintro F_21 _ l_22 rfl
  refine .not rfl rfl ?_
  refine .assign rfl rfl ?_
  refine .nil ?_
  refine .code ?_
  refine .cond rfl (fun hb23 => ?_) (fun hb23 => ?_)
  ·skip
   refine .seq ?_
   refine .region ?_
   refine .store (cs' := [(.pointer none)]) Try.sizeOf54 rfl rfl rfl rfl (i := 1) rfl (Nat.le_of_ble_eq_true rfl) rfl rfl ?_
   refine .assign rfl rfl ?_
   refine .store (cs' := [(.int .i64 2)]) Try.sizeOf26 rfl rfl rfl rfl (i := 0) rfl (Nat.le_of_ble_eq_true rfl) rfl rfl ?_
   refine .nil ?_
   refine .code ?_
   refine .upR 2 (stays75 Γ) l_22 rfl ?_
   refine .upR 3 (stays69 Γ) l_22 rfl ?_
   refine .upR 4 (stays73 Γ) l_22 rfl ?_
   refine .upR 5 (stays67 Γ) l_22 rfl ?_
   exact .retQ (ret_postO (Γ := Γ) [2, 2, 2, 2, 2] Try.results24 (.cell rfl Try.isAgg54 (i := 1) rfl rfl (.tmp rfl (.cell rfl Try.isAgg26 (i := 0) rfl rfl (.nil)))) rfl (Fz.le_trans l_8 (Fz.le_trans l_11 (Fz.le_trans l_14 (Fz.le_trans l_17 l_22)))) ⟨none, (), rfl, (RepPtr.nil.mono (Fz.le_trans l_8 (Fz.le_trans l_11 (Fz.le_trans l_14 (Fz.le_trans l_17 l_22)))))⟩)
  ·skip
   refine .skip ?_
   refine .block ?_
   refine .code ?_
   refine .seq ?_
   refine .region ?_
   refine .makeFunc rfl rfl ?_
   refine .defer rfl ?_
   refine .nil ?_
   refine .code ?_
   refine .seq ?_
   refine .region ?_
   refine .makeMapP (fun x : Int => (.int .i64 x)) (fun F (x : (Option Nat)) v => ∃ (p0 : Option Addr) (k0 : Unit), v = (.pointer p0) ∧ RepPtr Γ.g75 F p0 x) rfl (fun b24 => ?_)
   refine .letv (fun A26 e27 => ?_)
   refine .intoAt 0 5 rfl rfl (stays67 Γ) l_22 (fun G m l hm => ownMapP_up (Fz.le_trans (Fz.le_refl _) l) hm) e27 (fun F_28 l_29 hb30 => ?_)
   refine .build (cs := (cCaskBook (CaskBook.mk (some 0) 0) (some b24) ()).toArray) rfl Try.underlying69 Try.zeroValue69 (plCaskBook _ Try.underlying69) rfl rfl (by kernel_rfl) ?_
   refine .box (cs := (cCaskBook (CaskBook.mk (some 0) 0) (some b24) ())) rfl rfl rfl (fun b31 => ?_)
   refine .letv (fun x32 e33 => ?_)
   refine .letv (fun A34 e35 => ?_)
   refine .intoAt 0 3 rfl rfl (stays69 Γ) (Fz.le_trans l_22 l_29) (fun G m l hm => ⟨_, fun G' l' => by subst e33; exact ⟨(some b24), (), rfl, ((RepRef.of hb30)).mono (Fz.le_trans l l')⟩, hm⟩) e35 (fun F_36 l_37 hb38 => ?_)
   refine .store (cs' := [(.pointer (some ⟨b31, 0, none⟩))]) Try.sizeOf54 rfl rfl rfl rfl (i := 1) rfl (Nat.le_of_ble_eq_true rfl) rfl rfl ?_
   refine .nil ?_
   refine .code ?_
   refine .seq ?_
   refine .region ?_
   refine .call0 rfl Try.call33 rfl rfl rfl (c_cask_deeds _ Γ) ?_
   rintro r_41 F_39 _ - l_40 ⟨p42, k43, rfl, h44⟩
   refine .assign rfl rfl ?_
   refine .assign rfl rfl ?_
   refine .nil ?_
   refine .code ?_
   refine .seq ?_
   refine .block ?_
   refine .keep (.cons (k := 0) rfl (.cons (k := 1) rfl (.cons (k := 4) rfl (.cons (k := 5) rfl (.cons (k := 6) rfl (.cons (k := 7) rfl (.cons (k := 8) rfl (.nil _)))))))) ?_
   refine .upR 2 (stays75 Γ) (Fz.le_trans l_22 (Fz.le_trans l_29 (Fz.le_trans l_37 l_40))) rfl ?_
   refine .upR 3 (stays69 Γ) l_40 rfl ?_
   refine .upR 4 (stays73 Γ) (Fz.le_trans l_22 (Fz.le_trans l_29 (Fz.le_trans l_37 l_40))) rfl ?_
   refine .upR 5 (stays67 Γ) (Fz.le_trans l_37 l_40) rfl ?_
   refine .loop (fun (s45 : Int × Int × (List CaskCask) × (List CaskBook) × (List (List (Int × Bool))) × (List (List (Int × (Option Nat))))) a w => ∃ (F_46 : Fz), F_39 ≤ F_46 ∧ Hd 79 [(dclo 32 [(.pointer (some ⟨b18, 0, none⟩)), (.pointer (some ⟨b19, 0, none⟩))])] [(0, (.slice p2 l_1.length k3)), (1, (.int .i64 day5)), (4, (.pointer (some ⟨b18, 0, none⟩))), (5, (.int .i64 s45.1)), (6, (.pointer (some ⟨b19, 0, none⟩))), (7, (.int .i64 s45.2.1)), (8, (.map (some p42)))] F_46 [pt b19 (.cells [(.int .i64 0)].toArray 26), pt b18 (.cells [(.pointer (some ⟨b31, 0, none⟩))].toArray 54), arena Γ.g75 (C75 Γ) F_46 s45.2.2.1, arena Γ.g69 (C69 Γ) F_46 s45.2.2.2.1, arena Γ.g73 (C73 Γ) F_46 s45.2.2.2.2.1, arena Γ.g67 (C67 Γ) F_46 s45.2.2.2.2.2, R] a w) (fun b0 e a w => match b0 with | .inl b148 => e = .exit 1 ∧ ∃ (F_149 : Fz), F_39 ≤ F_149 ∧ Hd 79 [(dclo 32 [(.pointer (some ⟨b18, 0, none⟩)), (.pointer (some ⟨b19, 0, none⟩))])] [(1, (.int .i64 day5)), (4, (.pointer (some ⟨b18, 0, none⟩))), (5, (.int .i64 b148.1)), (6, (.pointer (some ⟨b19, 0, none⟩)))] F_149 [pt b19 (.cells [(.int .i64 0)].toArray 26), pt b18 (.cells [(.pointer (some ⟨b31, 0, none⟩))].toArray 54), arena Γ.g75 (C75 Γ) F_149 b148.2.1, arena Γ.g69 (C69 Γ) F_149 b148.2.2.1, arena Γ.g73 (C73 Γ) F_149 b148.2.2.2.1, arena Γ.g67 (C67 Γ) F_149 b148.2.2.2.2, R] a w | .inr b148 => e = .panic [{ v := penc b148.1, recovered := false }] ∧ ∃ (F_151 : Fz) (p153 : Option Addr) (k154 : Unit), F_39 ≤ F_151 ∧ RepPtr Γ.g69 F_151 p153 b148.2.2.2 ∧ Hd 79 [(dclo 32 [(.pointer (some ⟨b18, 0, none⟩)), (.pointer (some ⟨b19, 0, none⟩))])] [(4, (.pointer (some ⟨b18, 0, none⟩))), (5, (.int .i64 b148.2.1)), (6, (.pointer (some ⟨b19, 0, none⟩)))] F_151 [pt b19 (.cells [(.int .i64 b148.2.2.1)].toArray 26), pt b18 (.cells [(.pointer p153)].toArray 54), R] a w) ?_ ?_ ?_
   ·exact fun a w h => ⟨F_39, (Fz.le_refl _), h.1.sub (.cons (k := 0) rfl (.cons (k := 1) rfl (.cons (k := 4) rfl (.cons (k := 5) rfl (.cons (k := 6) rfl (.cons (k := 7) rfl (.cons (k := 8) rfl (.nil _)))))))), h.2⟩
   ·intro s45 ctl
    refine GC.ex (fun a w ⟨F_46, l_47, hA⟩ => ⟨_, hA, ?_⟩)
    unfold b_cask_play_1
    refine .seq ?_
    refine .seq ?_
    refine .region ?_
    refine .move rfl rfl ?_
    refine .move rfl rfl ?_
    refine .lenS rfl rfl Try.underlying22 rfl ?_
    refine .lss rfl rfl rfl ?_
    refine .move rfl rfl ?_
    refine .andM (b := (decide (s45.1 < (l_1.length : Int)))) 8 37 (fun hb48 z63 => ?_) (fun hb59 => ?_) (fun z62 F_60 l_61 => ?_)
    ·skip
     refine .onH hb48 rfl rfl ?_
     refine .move rfl rfl ?_
     refine .onH hb48 rfl rfl ?_
     refine .move rfl rfl ?_
     refine .onH hb48 rfl rfl ?_
     refine .idx rfl Try.underlying22 Try.sizeOf45 (h4.mono (Fz.le_trans l_8 (Fz.le_trans l_11 (Fz.le_trans l_14 (Fz.le_trans l_17 (Fz.le_trans l_22 (Fz.le_trans l_29 (Fz.le_trans l_37 (Fz.le_trans l_40 l_47))))))))) rfl rfl (fun x49 b50 o51 T52 fr53 cs54 e55 hm56 hv57 => ?_)
     refine .onH hb48 rfl rfl ?_
     refine .fieldAddr rfl Try.underlying45 rfl Try.sizeOf3 rfl ?_
     refine .onH hb48 rfl rfl ?_
     refine .loadF rfl Try.isAgg3 rfl hm56 (cell_of_take (k := 1) hv57 rfl) ?_
     refine .onH hb48 rfl rfl ?_
     refine .move rfl rfl ?_
     refine .onH hb48 rfl rfl ?_
     refine .leq rfl rfl rfl ?_
     refine .pickTH hb48 rfl rfl rfl ?_
     exact .finZ 8 rfl rfl (by kernel_rfl) (Fz.le_refl _)
    ·skip
     refine .offH hb59 rfl rfl rfl ?_
     refine .offH hb59 rfl rfl rfl ?_
     refine .offH hb59 rfl rfl rfl ?_
     refine .offH hb59 rfl rfl rfl ?_
     refine .offH hb59 rfl rfl rfl ?_
     refine .offH hb59 rfl rfl rfl ?_
     refine .offH hb59 rfl rfl rfl ?_
     refine .pickFH hb59 rfl rfl rfl ?_
     exact .fin 8 rfl rfl (by kernel_rfl) (Fz.le_refl _)
    refine .nil ?_
    refine .code ?_
    refine .cond rfl (fun hb64 => ?_) (fun hb64 => ?_)
    ·skip
     refine .skip ?_
     refine .code ?_
     refine .block ?_
     refine .seq ?_
     refine .region ?_
     refine .move rfl rfl ?_
     refine .move rfl rfl ?_
     refine .idx rfl Try.underlying22 Try.sizeOf45 (h4.mono (Fz.le_trans l_8 (Fz.le_trans l_11 (Fz.le_trans l_14 (Fz.le_trans l_17 (Fz.le_trans l_22 (Fz.le_trans l_29 (Fz.le_trans l_37 (Fz.le_trans l_40 (Fz.le_trans l_47 l_61)))))))))) rfl rfl (fun x65 b66 o67 T68 fr69 cs70 e71 hm72 hv73 => ?_)
     refine .loadFA rfl Try.isAgg45 Try.sizeOf45 rfl hm72 hv73 rfl ?_
     refine .alloc (cs := (cApiCaskEvent (ApiCaskEvent.mk 0 0 0 0 0 0 0 0))) rfl Try.zeroValue45 rfl (fun b75 => ?_)
     refine .store (cs' := (cApiCaskEvent x65)) Try.sizeOf45 rfl rfl rfl rfl (i := 0) rfl (Nat.le_of_ble_eq_true rfl) rfl (setMany_all (by rfl)) ?_
     refine .nil ?_
     refine .code ?_
     refine .seq ?_
     refine .region ?_
     refine .loadOA rfl Try.isAgg45 Try.sizeOf45 rfl (i := 0) rfl (vs := (cApiCaskEvent x65)) (by kernel_rfl) rfl ?_
     refine .call0 rfl Try.call35 rfl rfl rfl (c_cask_isEvent _ x65) ?_
     rintro r_78 F_76 _ - l_77 rfl
     refine .callB [] rfl Try.call34 rfl rfl rfl rfl (c_cask_need _ r_78 1) ?_ (fun q85 F_83 _ l_84 => (LPost.panQ fun a w h => ⟨rfl, F_83, (some ⟨b31, 0, none⟩), (), (Fz.le_trans l_47 (Fz.le_trans l_61 (Fz.le_trans l_77 l_84))), ((RepPtr.of hb38).mono (Fz.le_trans l_40 (Fz.le_trans l_47 (Fz.le_trans l_61 (Fz.le_trans l_77 l_84))))), h.1.sub (.cons (k := 4) rfl (.cons (k := 5) rfl (.cons (k := 6) rfl (.nil _)))), SH.picks [1, 1, 5] rfl h.2⟩))
     rintro r_79 F_80 _ e82 l_81 rfl
     refine .pick [0, 0, 0, 0, 0, 0, 0, 0] (rfl : _ = [pt b75 (.cells (cApiCaskEvent x65).toArray 45), pt b19 (.cells [(.int .i64 0)].toArray 26), pt b18 (.cells [(.pointer (some ⟨b31, 0, none⟩))].toArray 54), arena Γ.g75 (C75 Γ) F_46 s45.2.2.1, arena Γ.g69 (C69 Γ) F_46 s45.2.2.2.1, arena Γ.g73 (C73 Γ) F_46 s45.2.2.2.2.1, arena Γ.g67 (C67 Γ) F_46 s45.2.2.2.2.2, R]) ?_
     refine .nil ?_
     refine .code ?_
     refine .seq ?_
     refine .region ?_
     refine .fieldAddr rfl Try.underlying45 rfl Try.sizeOf3 rfl ?_
     refine .loadO rfl Try.isAgg3 rfl (i := 0) rfl rfl ?_
     refine .move rfl rfl ?_
     refine .geq rfl rfl rfl ?_
     refine .callB [] rfl Try.call34 rfl rfl rfl rfl (c_cask_need _ (decide (x65.Day ≥ s45.2.1)) 7) ?_ (fun q92 F_90 _ l_91 => (LPost.panQ fun a w h => ⟨rfl, F_90, (some ⟨b31, 0, none⟩), (), (Fz.le_trans l_47 (Fz.le_trans l_61 (Fz.le_trans l_77 (Fz.le_trans l_81 l_91)))), ((RepPtr.of hb38).mono (Fz.le_trans l_40 (Fz.le_trans l_47 (Fz.le_trans l_61 (Fz.le_trans l_77 (Fz.le_trans l_81 l_91)))))), h.1.sub (.cons (k := 4) rfl (.cons (k := 5) rfl (.cons (k := 6) rfl (.nil _)))), SH.picks [1, 1, 5] rfl h.2⟩))
     rintro r_86 F_87 _ e89 l_88 rfl
     refine .pick [0, 0, 0, 0, 0, 0, 0, 0] (rfl : _ = [pt b75 (.cells (cApiCaskEvent x65).toArray 45), pt b19 (.cells [(.int .i64 0)].toArray 26), pt b18 (.cells [(.pointer (some ⟨b31, 0, none⟩))].toArray 54), arena Γ.g75 (C75 Γ) F_46 s45.2.2.1, arena Γ.g69 (C69 Γ) F_46 s45.2.2.2.1, arena Γ.g73 (C73 Γ) F_46 s45.2.2.2.2.1, arena Γ.g67 (C67 Γ) F_46 s45.2.2.2.2.2, R]) ?_
     refine .nil ?_
     refine .keep (.cons (k := 0) rfl (.cons (k := 1) rfl (.cons (k := 4) rfl (.cons (k := 5) rfl (.cons (k := 6) rfl (.cons (k := 8) rfl (.cons (k := 9) rfl (.nil _)))))))) ?_
     refine .code ?_
     refine .seq ?_
     refine .keep (.cons (k := 0) rfl (.cons (k := 1) rfl (.cons (k := 4) rfl (.cons (k := 5) rfl (.cons (k := 6) rfl (.cons (k := 8) rfl (.cons (k := 9) rfl (.nil _)))))))) ?_
     refine .bind (fun x111 e112 => ?_)
     refine .letv (fun x113 e114 => ?_)
     refine .letv (fun A115 e116 => ?_)
     refine .drawG 7 0 (fun env110 => [((.pointer (some ⟨b31, 0, none⟩)), fun _ => True), ((.int .i64 s45.1), fun _ => True), ((.pointer (some ⟨b75, 0 + 1, none⟩)), fun _ => True), ((.int .i64 x65.Day), fun _ => True), ((.pointer (some ⟨b31, 0, none⟩)), fun _ => True), ((.pointer (some ⟨b31, 0 + 1, none⟩)), fun _ => True), (undef, fun G => env110.f 60 ≤ G)]) (fun L env110 => [pt b75 (.cells (cApiCaskEvent x65).toArray 45), pt b19 (.cells [(.int .i64 0)].toArray 26), pt b18 (.cells [(.pointer (some ⟨b31, 0, none⟩))].toArray 54), arena Γ.g75 (C75 Γ) F_46 s45.2.2.1, (bif L 6 then (arena Γ.g69 (C69 Γ) (env110.f 60) A115) else (arena Γ.g69 (C69 Γ) F_46 s45.2.2.2.1)), arena Γ.g73 (C73 Γ) F_46 s45.2.2.2.2.1, arena Γ.g67 (C67 Γ) F_46 s45.2.2.2.2.2, R]) mixedOK (by kernel_rfl) (by kernel_rfl) rfl (fun _ => rfl) (by kernel_rfl) (fun _ => rfl) ?_ (fun env110 F_117 l_118 hphi => ?_)
     ·skip
      refine .cons (fun L env110 F_120 l_121 hL hdn hup hphi => ⟨[(4, (.pointer (some ⟨b18, 0, none⟩)))], fun S hS hV => (.cons (hS _ _ rfl) (Sub.nil _)), ?_⟩) ?_
      ·skip
       refine .loadO rfl Try.isAgg54 rfl (i := 2) rfl rfl ?_
       exact .finV rfl rfl (Fz.le_refl _)
      refine .cons (fun L env110 F_122 l_123 hL hdn hup hphi => ⟨[(5, (.int .i64 s45.1))], fun S hS hV => (.cons (hS _ _ rfl) (Sub.nil _)), ?_⟩) ?_
      ·skip
       refine .move rfl rfl ?_
       exact .finV rfl rfl (Fz.le_refl _)
      refine .cons (fun L env110 F_124 l_125 hL hdn hup hphi => ⟨[(9, (.pointer (some ⟨b75, 0, none⟩)))], fun S hS hV => (.cons (hS _ _ rfl) (Sub.nil _)), ?_⟩) ?_
      ·skip
       refine .fieldAddr rfl Try.underlying45 rfl Try.sizeOf3 rfl ?_
       exact .finV rfl rfl (Fz.le_refl _)
      refine .cons (fun L env110 F_126 l_127 hL hdn hup hphi => ⟨[(52, (.pointer (some ⟨b75, 0 + 1, none⟩)))], fun S hS hV => (.cons (hV 2 52 _ (hdn 1 2 rfl) rfl rfl) (Sub.nil _)), ?_⟩) ?_
      ·skip
       refine .loadO rfl Try.isAgg3 rfl (i := 0) rfl rfl ?_
       exact .finV rfl rfl (Fz.le_refl _)
      refine .cons (fun L env110 F_128 l_129 hL hdn hup hphi => ⟨[(50, (.pointer (some ⟨b31, 0, none⟩)))], fun S hS hV => (.cons (hV 0 50 _ (hdn 1 0 rfl) rfl rfl) (Sub.nil _)), ?_⟩) ?_
      ·skip
       refine .nilCheckR rfl rfl rfl ?_
       exact .finV rfl rfl (Fz.le_refl _)
      refine .cons (fun L env110 F_130 l_131 hL hdn hup hphi => ⟨[(54, (.pointer (some ⟨b31, 0, none⟩)))], fun S hS hV => (.cons (hV 4 54 _ (hdn 1 4 rfl) rfl rfl) (Sub.nil _)), ?_⟩) ?_
      ·skip
       refine .fieldAddr rfl Try.underlying69 rfl Try.sizeOf3 rfl ?_
       exact .finV rfl rfl (Fz.le_refl _)
      refine .cons (fun L env110 F_132 l_133 hL hdn hup hphi => ⟨[(51, (.int .i64 s45.1)), (55, (.pointer (some ⟨b31, 0 + 1, none⟩)))], fun S hS hV => (.cons (hV 1 51 _ (hdn 1 1 rfl) rfl rfl) (.cons (hV 5 55 _ (hdn 1 5 rfl) rfl rfl) (Sub.nil _))), ?_⟩) ?_
      ·skip
       refine .storeR (xs' := A115) (x' := { x111 with event := s45.1 }) (us := [(.int .i64 s45.1)]) 4 (congrArg some (condF hL)) (Fz.le_trans l_61 (Fz.le_trans l_77 (Fz.le_trans l_81 (Fz.le_trans l_88 l_133)))) (Fz.le_refl _) (len69 Γ) Try.sizeOf3 (hb38.mono (Fz.le_trans l_40 (Fz.le_trans l_47 (Fz.le_trans l_61 (Fz.le_trans l_77 (Fz.le_trans l_81 (Fz.le_trans l_88 l_133))))))) e112 rfl rfl rfl rfl rfl rfl (fun F' vs le ⟨q0, q1, h, r0⟩ => ⟨q0, q1, by subst h; exact rfl, r0⟩) (by rw [e116, e114] <;> rfl) ?_
       exact .finQS ({ env110 with f := updN env110.f 60 F_132 }) [true, true, true, true, true, true, false] rfl (by kernel_rfl) rfl rfl (Fz.le_refl _) (fun _ le => le) (cons_eq rfl (cons_eq rfl (cons_eq rfl (cons_eq rfl (cons_eq (condT rfl) (cons_eq rfl (cons_eq rfl (cons_eq rfl rfl))))))))
      exact .nil
     have l_119 := hphi 6 _ rfl
     refine .norm (S' := [(0, (.slice p2 l_1.length k3)), (1, (.int .i64 day5)), (4, (.pointer (some ⟨b18, 0, none⟩))), (5, (.int .i64 s45.1)), (6, (.pointer (some ⟨b19, 0, none⟩))), (8, (.map (some p42))), (9, (.pointer (some ⟨b75, 0, none⟩))), (50, (.pointer (some ⟨b31, 0, none⟩))), (51, (.int .i64 s45.1)), (52, (.pointer (some ⟨b75, 0 + 1, none⟩))), (53, (.int .i64 x65.Day)), (54, (.pointer (some ⟨b31, 0, none⟩))), (55, (.pointer (some ⟨b31, 0 + 1, none⟩)))]) (.cons (k := 0) rfl (.cons (k := 1) rfl (.cons (k := 4) rfl (.cons (k := 5) rfl (.cons (k := 6) rfl (.cons (k := 8) rfl (.cons (k := 9) rfl (.cons (k := 50) rfl (.cons (k := 51) rfl (.cons (k := 52) rfl (.cons (k := 53) rfl (.cons (k := 54) rfl (.cons (k := 55) rfl (.nil _)))))))))))))) (rfl : _ = [pt b75 (.cells (cApiCaskEvent x65).toArray 45), pt b19 (.cells [(.int .i64 0)].toArray 26), pt b18 (.cells [(.pointer (some ⟨b31, 0, none⟩))].toArray 54), arena Γ.g75 (C75 Γ) F_46 s45.2.2.1, arena Γ.g69 (C69 Γ) (env110.f 60) A115, arena Γ.g73 (C73 Γ) F_46 s45.2.2.2.2.1, arena Γ.g67 (C67 Γ) F_46 s45.2.2.2.2.2, R]) ?_
     refine .assign rfl rfl ?_
     refine .nil ?_
     refine .code ?_
     refine .seq ?_
     refine .region ?_
     refine .move rfl rfl ?_
     refine .fieldAddr rfl Try.underlying45 rfl Try.sizeOf3 rfl ?_
     refine .loadO rfl Try.isAgg3 rfl (i := 0) rfl rfl ?_
     refine .bind (fun x134 e135 => ?_)
     refine .lookupF (h44.mono (Fz.le_trans l_47 (Fz.le_trans l_61 (Fz.le_trans l_77 (Fz.le_trans l_81 (Fz.le_trans l_88 l_118)))))) e135 rfl Try.underlying84 (.int Try.underlying3) rfl rfl ?_
     intro v hv
     obtain ⟨p136, k137, rfl, h138⟩ := hv
     refine .loadO rfl Try.isAgg54 rfl (i := 2) rfl rfl ?_
     refine .loadOA rfl Try.isAgg45 Try.sizeOf45 rfl (i := 0) rfl (vs := (cApiCaskEvent x65)) (by kernel_rfl) rfl ?_
     refine .upR 3 (stays75 Γ) (Fz.le_trans l_61 (Fz.le_trans l_77 (Fz.le_trans l_81 (Fz.le_trans l_88 l_118)))) rfl ?_
     refine .upR 4 (stays69 Γ) l_119 rfl ?_
     refine .upR 5 (stays73 Γ) (Fz.le_trans l_61 (Fz.le_trans l_77 (Fz.le_trans l_81 (Fz.le_trans l_88 l_118)))) rfl ?_
     refine .upR 6 (stays67 Γ) (Fz.le_trans l_61 (Fz.le_trans l_77 (Fz.le_trans l_81 (Fz.le_trans l_88 l_118)))) rfl ?_
     refine .callF [3, 3, 3, 3] rfl h138 rfl rfl ⟨(some ⟨b31, 0, none⟩), (), rfl, ((RepPtr.of hb38).mono (Fz.le_trans l_40 (Fz.le_trans l_47 (Fz.le_trans l_61 (Fz.le_trans l_77 (Fz.le_trans l_81 (Fz.le_trans l_88 l_118)))))))⟩ rfl rfl ?_ (fun q145 F_143 _ l_144 => (LPost.panQ fun a w h => ⟨rfl, F_143, (some ⟨b31, 0, none⟩), (), (Fz.le_trans l_47 (Fz.le_trans l_61 (Fz.le_trans l_77 (Fz.le_trans l_81 (Fz.le_trans l_88 (Fz.le_trans l_118 l_144)))))), ((RepPtr.of hb38).mono (Fz.le_trans l_40 (Fz.le_trans l_47 (Fz.le_trans l_61 (Fz.le_trans l_77 (Fz.le_trans l_81 (Fz.le_trans l_88 (Fz.le_trans l_118 l_144)))))))), h.1.sub (.cons (k := 4) rfl (.cons (k := 5) rfl (.cons (k := 6) rfl (.nil _)))), SH.picks [1, 1, 1] rfl h.2⟩))
     rintro r_139 F_140 _ e142 l_141 rfl
     refine .pick [4, 4, 4, 0, 0, 0, 0, 0] (rfl : _ = [pt b75 (.cells (cApiCaskEvent x65).toArray 45), pt b19 (.cells [(.int .i64 0)].toArray 26), pt b18 (.cells [(.pointer (some ⟨b31, 0, none⟩))].toArray 54), arena Γ.g75 (C75 Γ) F_140 r_139.1, arena Γ.g69 (C69 Γ) F_140 A115, arena Γ.g73 (C73 Γ) F_140 r_139.2.1, arena Γ.g67 (C67 Γ) F_140 r_139.2.2, R]) ?_
     refine .nil ?_
     refine .code ?_
     refine .region ?_
     refine .move rfl rfl ?_
     refine .add rfl rfl rfl ?_
     refine .assignL rfl rfl (fun n_146 e147 => ?_)
     refine .nil ?_
     refine .block ?_
     refine .drop 0 ?_
     exact .nil (LPost.norm fun a w h => ⟨F_140, (Fz.le_trans l_47 (Fz.le_trans l_61 (Fz.le_trans l_77 (Fz.le_trans l_81 (Fz.le_trans l_88 (Fz.le_trans l_118 l_141)))))), h.1.sub (.cons (k := 0) rfl (.cons (k := 1) rfl (.cons (k := 4) rfl (.cons (k := 5) rfl (.cons (k := 6) rfl (.cons (k := 7) rfl (.cons (k := 8) rfl (.nil _)))))))), h.2⟩)
    ·skip
     refine .upR 2 (stays75 Γ) l_61 rfl ?_
     refine .upR 3 (stays69 Γ) l_61 rfl ?_
     refine .upR 4 (stays73 Γ) l_61 rfl ?_
     refine .upR 5 (stays67 Γ) l_61 rfl ?_
     refine .exitOut rfl (LPost.exit fun a w h => ⟨rfl, F_60, (Fz.le_trans l_47 l_61), h.1.sub (.cons (k := 1) rfl (.cons (k := 4) rfl (.cons (k := 5) rfl (.cons (k := 6) rfl (.nil _))))), h.2⟩)
   ·intro b148 hb0 hk e a w hD
    rcases b148 with b148 | b148
    ·skip
     obtain ⟨rfl, F_149, l_150, hA⟩ := hD
     refine interp_exit rfl (GE.app ?_ hk a w hA)
     refine .code ?_
     refine .seq ?_
     refine .seq ?_
     refine .region ?_
     refine .loadO rfl Try.isAgg54 rfl (i := 1) rfl rfl ?_
     refine .nilCheckR rfl rfl rfl ?_
     refine .fieldAddr rfl Try.underlying69 rfl Try.sizeOf67 rfl ?_
     refine .bind (fun x156 e157 => ?_)
     refine .loadR (Φ := fun v => ∃ (p158 : Option Nat) (k159 : Unit), v = (.map p158) ∧ RepRef Γ.g67 F_149 p158 x156.casks) 3 rfl (Fz.le_refl _) (hb38.mono (Fz.le_trans l_40 l_150)) e157 rfl Try.isAgg67 rfl (fun vs ⟨q0, q1, h, r0⟩ => ⟨_, by subst h; exact rfl, q0, q1, rfl, r0⟩) (fun v hv => ?_)
     obtain ⟨p158, k159, rfl, h160⟩ := hv
     refine .bind (fun i161 e162 => ?_)
     obtain ⟨b163, hb164, hp165⟩ := h160.at e162
     refine .bind (fun x166 e167 => ?_)
     refine .rangeR 5 rfl hb164 hp165 e167 rfl Try.underlying67 rfl (fun it168 hn169 => ?_)
     refine .nil ?_
     refine .code ?_
     refine .block ?_
     refine .keep (.cons (k := 1) rfl (.cons (k := 4) rfl (.cons (k := 5) rfl (.cons (k := 6) rfl (.cons (k := 69) rfl (.nil _)))))) ?_
     refine .mapLoop (B := 3) (b := (b_cask_play_2 day5)) (fun td171 dn172 (s173 : (List CaskCask)) a w => ∃ (F_175 : Fz), F_149 ≤ F_175 ∧ Hd 79 [(dclo 32 [(.pointer (some ⟨b18, 0, none⟩)), (.pointer (some ⟨b19, 0, none⟩))])] [(1, (.int .i64 day5)), (4, (.pointer (some ⟨b18, 0, none⟩))), (5, (.int .i64 b148.1)), (6, (.pointer (some ⟨b19, 0, none⟩))), (69, (.pointer (some ⟨it168, 0, none⟩)))] F_175 [ownIter (fun x : Int => (.int .i64 x)) (fun F (x : (Option Nat)) v => ∃ (p0 : Option Addr) (k0 : Unit), v = (.pointer p0) ∧ RepPtr Γ.g75 F p0 x) F_149 b163 it168 td171 dn172, pt b19 (.cells [(.int .i64 0)].toArray 26), pt b18 (.cells [(.pointer (some ⟨b31, 0, none⟩))].toArray 54), arena Γ.g75 (C75 Γ) F_175 s173, arena Γ.g69 (C69 Γ) F_149 b148.2.2.1, arena Γ.g73 (C73 Γ) F_149 b148.2.2.2.1, hole Γ.g67 (C67 Γ) F_149 i161 b163 b148.2.2.2.2, R] a w) rfl ?_ ?_ ?_
     ·exact fun a w h => ⟨F_149, (Fz.le_refl _), h.1.sub (.cons (k := 1) rfl (.cons (k := 4) rfl (.cons (k := 5) rfl (.cons (k := 6) rfl (.cons (k := 69) rfl (.nil _)))))), h.2⟩
     ·intro td171 dn172 s173 hall174
      rcases td171 with _ | ⟨y, ys⟩
      ·skip
       refine GC.ex (fun a w ⟨F_177, l_178, hA⟩ => ⟨_, hA, ?_⟩)
       refine .seq ?_
       refine .region ?_
       refine .nextM0 0 rfl rfl rfl rfl ?_
       refine .extract rfl rfl rfl ?_
       refine .nil ?_
       refine .code ?_
       refine .seq ?_
       refine .condF rfl ?_
       exact .exitOut rfl (MPost.over fun a w h => ⟨F_177, l_178, h.1.sub (.cons (k := 1) rfl (.cons (k := 4) rfl (.cons (k := 5) rfl (.cons (k := 6) rfl (.cons (k := 69) rfl (.nil _)))))), h.2⟩)
      ·skip
       refine GC.ex (fun a w ⟨F_179, l_180, hA⟩ => ⟨_, hA, ?_⟩)
       refine .seq ?_
       refine .region ?_
       refine .nextM1 0 rfl (List.cons_ne_nil _ _) rfl rfl rfl (fun x181 todo182 v183 hp184 hv185 => ?_)
       obtain ⟨s186, hs187⟩ := hall174 x181 (hp184.mem_iff.1 (List.mem_cons_self ..))
       refine .use hs187 ?_
       unfold b_cask_play_2
       refine .extract rfl rfl rfl ?_
       refine .nil ?_
       refine .code ?_
       refine .seq ?_
       refine .condT rfl ?_
       refine .skip ?_
       refine .code ?_
       refine .block ?_
       refine .seq ?_
       refine .region ?_
       refine .entryM 0 rfl rfl rfl rfl (fun v hv => ?_)
       obtain ⟨p188, k189, rfl, h190⟩ := hv _ l_180
       refine .extract rfl rfl rfl ?_
       refine .assign rfl rfl ?_
       refine .nil ?_
       refine .code ?_
       refine .region ?_
       refine .move rfl rfl ?_
       refine .move rfl rfl ?_
       refine .callT [3] rfl Try.call36 rfl rfl rfl rfl (c_cask_cask_rest _ Γ s173 x181.2 p188 k189 h190 day5) ?_
       rintro r_191 F_192 _ e194 l_193 rfl
       refine .pick [1, 1, 1, 0, 0, 0, 0, 0] (rfl : _ = [ownIter (fun x : Int => (.int .i64 x)) (fun F (x : (Option Nat)) v => ∃ (p0 : Option Addr) (k0 : Unit), v = (.pointer p0) ∧ RepPtr Γ.g75 F p0 x) F_149 b163 it168 todo182 (x181 :: dn172), pt b19 (.cells [(.int .i64 0)].toArray 26), pt b18 (.cells [(.pointer (some ⟨b31, 0, none⟩))].toArray 54), arena Γ.g75 (C75 Γ) F_192 r_191, arena Γ.g69 (C69 Γ) F_149 b148.2.2.1, arena Γ.g73 (C73 Γ) F_149 b148.2.2.2.1, hole Γ.g67 (C67 Γ) F_149 i161 b163 b148.2.2.2.2, R]) ?_
       refine .nil ?_
       refine .block ?_
       exact .nil (MPost.norm hp184 hs187 fun a w h => ⟨F_192, (Fz.le_trans l_180 l_193), h.1.sub (.cons (k := 1) rfl (.cons (k := 4) rfl (.cons (k := 5) rfl (.cons (k := 6) rfl (.cons (k := 69) rfl (.nil _)))))), h.2⟩)
     ·intro dn172 R_195 hR196 hp197
      refine GE.ex (fun a w ⟨F_198, l_199, hA⟩ => ⟨_, hA, ?_⟩)
      refine .iterBack 0 5 rfl rfl l_199 l_199 hp197 hn169 (set_back e167) ?_
      refine .code ?_
      refine .seq ?_
      refine .region ?_
      refine .loadO rfl Try.isAgg54 rfl (i := 1) rfl rfl ?_
      refine .move rfl rfl ?_
      refine .store (cs' := [(.pointer (some ⟨b31, 0, none⟩))]) Try.sizeOf54 rfl rfl rfl rfl (i := 1) rfl (Nat.le_of_ble_eq_true rfl) rfl rfl ?_
      refine .assign rfl rfl ?_
      refine .store (cs' := [(.int .i64 0)]) Try.sizeOf26 rfl rfl rfl rfl (i := 0) rfl (Nat.le_of_ble_eq_true rfl) rfl rfl ?_
      refine .nil ?_
      refine .code ?_
      refine .upR 3 (stays69 Γ) l_199 rfl ?_
      refine .upR 4 (stays73 Γ) l_199 rfl ?_
      exact .retQ (ret_postE (Γ := Γ) [1, 0] Try.call32 (c_cask_play_1 _ b18 (some 0) (some ⟨b31, 0, none⟩) () b19 0) rfl [2, 2, 2, 2, 2] Try.results24 (.cell rfl Try.isAgg54 (i := 0) rfl rfl (.tmp rfl (.cell rfl Try.isAgg26 (i := 1) rfl rfl (.nil)))) rfl (Fz.le_trans l_8 (Fz.le_trans l_11 (Fz.le_trans l_14 (Fz.le_trans l_17 (Fz.le_trans l_22 (Fz.le_trans l_29 (Fz.le_trans l_37 (Fz.le_trans l_40 (Fz.le_trans l_150 l_199))))))))) ⟨(some ⟨b31, 0, none⟩), (), rfl, ((RepPtr.of hb38).mono (Fz.le_trans l_40 (Fz.le_trans l_150 l_199)))⟩)
    obtain ⟨rfl, F_151, p153, k154, l_152, h155, hA⟩ := hD
    exact interp_panic ((pan_postE 2 Try.call32 (c_cask_play_1 _ b18 b148.2.2.2 p153 k154 b19 b148.2.2.1) [1, 0] rfl Try.results24 (fun F'' le'' => .cell rfl Try.isAgg54 (i := 0) rfl rfl (.tmp rfl (.cell rfl Try.isAgg26 (i := 1) rfl rfl (.nil)))) (fun _ => rfl) (Fz.le_trans l_8 (Fz.le_trans l_11 (Fz.le_trans l_14 (Fz.le_trans l_17 (Fz.le_trans l_22 (Fz.le_trans l_29 (Fz.le_trans l_37 (Fz.le_trans l_40 l_152)))))))) (fun w F R h => by obtain ⟨l1, h1⟩ := h.newG; obtain ⟨l2, h2⟩ := h1.newG; obtain ⟨l3, h3⟩ := h2.newG; obtain ⟨l4, h4⟩ := h3.newG; exact ⟨⟨_, _, _, _⟩, _, (Fz.le_trans (Fz.le_trans (Fz.le_trans l1 l2) l3) l4), h4.mono fun m hm => news_cons (news_cons (news_cons (news_cons (news_nil hm))))⟩) (fun Γ F'' => ⟨none, (), rfl, RepPtr.nil⟩)) hk a w hA)
theorem c_cask_book_ordered (F0 : Fz) (p : Option Addr) : CT0 Try.prog 25 [(.pointer p)].toArray F0 (some ()) (fun (_ : Unit) F v => ∃ b, v = .func (.func 37) #[] #[.pointer (some ⟨b, 0, none⟩)] ∧ F.mem b = some (.cells [(.pointer p)].toArray 54)) := by
 refine CT0.enter Try.func25 rfl Try.ntmps25 rfl fun r R => ?_
 refine .seq ?_
 refine .region ?_
 refine .boxF (cs := [(.pointer p)]) rfl rfl rfl (fun b1 F_2 l_3 hb4 => ?_)
 refine .assign rfl rfl ?_
 refine .nil ?_
 refine .code ?_
 refine .seq ?_
 refine .region ?_
 refine .makeFunc rfl rfl ?_
 refine .assign rfl rfl ?_
 refine .nil ?_
 refine .code ?_
 exact .ret0 Try.results25 (.tmp rfl (.nil)) (i := 0) rfl l_3 ⟨_, rfl, hb4⟩
noncomputable def m_cask_cask_shown (A1 : List CaskCask) (c2 : (Option Nat)) : Option ((ApiCask)) :=
 (c2).bind fun i8 => (A1[i8]?).bind fun x13 => some (ApiCask.mk x13.number x13.wood x13.place x13.room x13.owner x13.creditor x13.amount x13.times.age x13.times.woods x13.times.places)
set_option maxHeartbeats 4000000 in
theorem c_cask_cask_shown (F0 : Fz) (Γ : Gam) (A1 : List CaskCask) (c2 : (Option Nat)) (p3 : Option Addr) (_k4 : Unit) (h5 : RepPtr Γ.g75 F0 p3 c2) : CTH Try.prog 26 [(.pointer p3)].toArray F0 [arena Γ.g75 (C75 Γ) F0 A1] (m_cask_cask_shown A1 c2) (fun (r : ApiCask) _ v => v = (eApiCask r)) (fun (_r : ApiCask) F' => [arena Γ.g75 (C75 Γ) F' A1]) := by
 refine CTH.enter Try.func26 rfl Try.ntmps26 rfl fun r R => ?_
 refine .norm (Sub.refl _) (rfl : _ = [arena Γ.g75 (C75 Γ) F0 A1, R]) ?_
 unfold m_cask_cask_shown
 refine .seq ?_
 refine .region ?_
 refine .alloc (cs := (cApiCask (ApiCask.mk 0 0 0 0 0 0 0 0 (fun _ => 0) (fun _ => 0)))) rfl Try.zeroValue31 rfl (fun b6 => ?_)
 refine .nil ?_
 refine .code ?_
 refine .seq ?_
 refine .keep (.cons (k := 0) rfl (.cons (k := 2) rfl (.nil _))) ?_
 refine .bind (fun i8 e9 => ?_)
 obtain ⟨b10, hb11, hp12⟩ := h5.at e9
 refine .bind (fun x13 e14 => ?_)
 refine .drawGD 43 0 (fun env7 => [((.pointer p3), fun _ => True), ((.pointer (some ⟨b10, 0, none⟩)), fun _ => True), ((.pointer (some ⟨b10, 0 + 0, none⟩)), fun _ => True), ((.int .i64 x13.number), fun _ => True), ((.pointer p3), fun _ => True), ((.pointer (some ⟨b10, 0, none⟩)), fun _ => True), ((.pointer (some ⟨b10, 0 + 1, none⟩)), fun _ => True), ((.int .i64 x13.wood), fun _ => True), ((.pointer p3), fun _ => True), ((.pointer (some ⟨b10, 0, none⟩)), fun _ => True), ((.pointer (some ⟨b10, 0 + 2, none⟩)), fun _ => True), ((.int .i64 x13.place), fun _ => True), ((.pointer p3), fun _ => True), ((.pointer (some ⟨b10, 0, none⟩)), fun _ => True), ((.pointer (some ⟨b10, 0 + 3, none⟩)), fun _ => True), ((.int .i64 x13.room), fun _ => True), ((.pointer p3), fun _ => True), ((.pointer (some ⟨b10, 0, none⟩)), fun _ => True), ((.pointer (some ⟨b10, 0 + 4, none⟩)), fun _ => True), ((.int .i64 x13.owner), fun _ => True), ((.pointer p3), fun _ => True), ((.pointer (some ⟨b10, 0, none⟩)), fun _ => True), ((.pointer (some ⟨b10, 0 + 5, none⟩)), fun _ => True), ((.int .i64 x13.creditor), fun _ => True), ((.pointer p3), fun _ => True), ((.pointer (some ⟨b10, 0, none⟩)), fun _ => True), ((.pointer (some ⟨b10, 0 + 6, none⟩)), fun _ => True), ((.int .i64 x13.amount), fun _ => True), ((.pointer p3), fun _ => True), ((.pointer (some ⟨b10, 0, none⟩)), fun _ => True), ((.pointer (some ⟨b10, 0 + 8, none⟩)), fun _ => True), ((.pointer (some ⟨b10, 0 + 8 + 0, none⟩)), fun _ => True), ((.int .i64 x13.times.age), fun _ => True), ((.pointer p3), fun _ => True), ((.pointer (some ⟨b10, 0, none⟩)), fun _ => True), ((.pointer (some ⟨b10, 0 + 8, none⟩)), fun _ => True), ((.pointer (some ⟨b10, 0 + 8 + 1, none⟩)), fun _ => True), ((.agg ((cArr 8 (cInt .i64)) x13.times.woods).toArray), fun _ => True), ((.pointer p3), fun _ => True), ((.pointer (some ⟨b10, 0, none⟩)), fun _ => True), ((.pointer (some ⟨b10, 0 + 8, none⟩)), fun _ => True), ((.pointer (some ⟨b10, 0 + 8 + 9, none⟩)), fun _ => True), ((.agg ((cArr 8 (cInt .i64)) x13.times.places).toArray), fun _ => True)]) (fun L env7 => [pt b6 (.cells (cApiCask (ApiCask.mk 0 0 0 0 0 0 0 0 (fun _ => 0) (fun _ => 0))).toArray 31), arena Γ.g75 (C75 Γ) F0 A1, R]) mixedOK (by kernel_rfl) (deepN (k := 43) (n := 45) rfl (allLt45 (p := fun t => 43 ≤ t → ∀ j, j < t → ∃ s, depB _ s t j = true) (fun h => absurd h (by decide)) (fun h => absurd h (by decide)) (fun h => absurd h (by decide)) (fun h => absurd h (by decide)) (fun h => absurd h (by decide)) (fun h => absurd h (by decide)) (fun h => absurd h (by decide)) (fun h => absurd h (by decide)) (fun h => absurd h (by decide)) (fun h => absurd h (by decide)) (fun h => absurd h (by decide)) (fun h => absurd h (by decide)) (fun h => absurd h (by decide)) (fun h => absurd h (by decide)) (fun h => absurd h (by decide)) (fun h => absurd h (by decide)) (fun h => absurd h (by decide)) (fun h => absurd h (by decide)) (fun h => absurd h (by decide)) (fun h => absurd h (by decide)) (fun h => absurd h (by decide)) (fun h => absurd h (by decide)) (fun h => absurd h (by decide)) (fun h => absurd h (by decide)) (fun h => absurd h (by decide)) (fun h => absurd h (by decide)) (fun h => absurd h (by decide)) (fun h => absurd h (by decide)) (fun h => absurd h (by decide)) (fun h => absurd h (by decide)) (fun h => absurd h (by decide)) (fun h => absurd h (by decide)) (fun h => absurd h (by decide)) (fun h => absurd h (by decide)) (fun h => absurd h (by decide)) (fun h => absurd h (by decide)) (fun h => absurd h (by decide)) (fun h => absurd h (by decide)) (fun h => absurd h (by decide)) (fun h => absurd h (by decide)) (fun h => absurd h (by decide)) (fun h => absurd h (by decide)) (fun h => absurd h (by decide)) (fun _ => allLt43 (p := fun j => ∃ s, depB _ s 43 j = true) ⟨4, rfl⟩ ⟨3, rfl⟩ ⟨2, rfl⟩ ⟨1, rfl⟩ ⟨4, rfl⟩ ⟨3, rfl⟩ ⟨2, rfl⟩ ⟨1, rfl⟩ ⟨4, rfl⟩ ⟨3, rfl⟩ ⟨2, rfl⟩ ⟨1, rfl⟩ ⟨4, rfl⟩ ⟨3, rfl⟩ ⟨2, rfl⟩ ⟨1, rfl⟩ ⟨4, rfl⟩ ⟨3, rfl⟩ ⟨2, rfl⟩ ⟨1, rfl⟩ ⟨4, rfl⟩ ⟨3, rfl⟩ ⟨2, rfl⟩ ⟨1, rfl⟩ ⟨4, rfl⟩ ⟨3, rfl⟩ ⟨2, rfl⟩ ⟨1, rfl⟩ ⟨5, rfl⟩ ⟨4, rfl⟩ ⟨3, rfl⟩ ⟨2, rfl⟩ ⟨1, rfl⟩ ⟨5, rfl⟩ ⟨4, rfl⟩ ⟨3, rfl⟩ ⟨2, rfl⟩ ⟨1, rfl⟩ ⟨5, rfl⟩ ⟨4, rfl⟩ ⟨3, rfl⟩ ⟨2, rfl⟩ ⟨1, rfl⟩) (fun _ => allLt44 (p := fun j => ∃ s, depB _ s 44 j = true) ⟨1, rfl⟩ ⟨1, rfl⟩ ⟨1, rfl⟩ ⟨1, rfl⟩ ⟨1, rfl⟩ ⟨1, rfl⟩ ⟨1, rfl⟩ ⟨1, rfl⟩ ⟨1, rfl⟩ ⟨1, rfl⟩ ⟨1, rfl⟩ ⟨1, rfl⟩ ⟨1, rfl⟩ ⟨1, rfl⟩ ⟨1, rfl⟩ ⟨1, rfl⟩ ⟨1, rfl⟩ ⟨1, rfl⟩ ⟨1, rfl⟩ ⟨1, rfl⟩ ⟨1, rfl⟩ ⟨1, rfl⟩ ⟨1, rfl⟩ ⟨1, rfl⟩ ⟨1, rfl⟩ ⟨1, rfl⟩ ⟨1, rfl⟩ ⟨1, rfl⟩ ⟨1, rfl⟩ ⟨1, rfl⟩ ⟨1, rfl⟩ ⟨1, rfl⟩ ⟨1, rfl⟩ ⟨1, rfl⟩ ⟨1, rfl⟩ ⟨1, rfl⟩ ⟨1, rfl⟩ ⟨1, rfl⟩ ⟨1, rfl⟩ ⟨1, rfl⟩ ⟨1, rfl⟩ ⟨1, rfl⟩ ⟨1, rfl⟩ ⟨1, rfl⟩))) rfl (fun _ => rfl) (by kernel_rfl) (fun _ => rfl) ?_ (fun env7 F_15 l_16 hphi => ?_)
 ·skip
  refine .cons (fun L env7 F_17 l_18 hL hdn hup hphi => ⟨[(0, (.pointer p3))], fun S hS hV => (.cons (hS _ _ rfl) (Sub.nil _)), ?_⟩) ?_
  ·skip
   refine .move rfl rfl ?_
   exact .finV rfl rfl (Fz.le_refl _)
  refine .cons (fun L env7 F_19 l_20 hL hdn hup hphi => ⟨[(3, (.pointer p3))], fun S hS hV => (.cons (hV 0 3 _ (hdn 1 0 rfl) rfl rfl) (Sub.nil _)), ?_⟩) ?_
  ·skip
   refine .nilCheckR hp12 rfl rfl ?_
   exact .finV rfl rfl (Fz.le_refl _)
  refine .cons (fun L env7 F_21 l_22 hL hdn hup hphi => ⟨[(4, (.pointer (some ⟨b10, 0, none⟩)))], fun S hS hV => (.cons (hV 1 4 _ (hdn 1 1 rfl) rfl rfl) (Sub.nil _)), ?_⟩) ?_
  ·skip
   refine .fieldAddr rfl Try.underlying75 rfl Try.sizeOf3 rfl ?_
   exact .finV rfl rfl (Fz.le_refl _)
  refine .cons (fun L env7 F_23 l_24 hL hdn hup hphi => ⟨[(5, (.pointer (some ⟨b10, 0 + 0, none⟩)))], fun S hS hV => (.cons (hV 2 5 _ (hdn 1 2 rfl) rfl rfl) (Sub.nil _)), ?_⟩) ?_
  ·skip
   refine .loadR (Φ := fun v => v = (.int .i64 x13.number)) 1 rfl l_24 (hb11.mono l_24) e14 rfl Try.isAgg3 rfl (fun vs ⟨q0, q1, h, r0⟩ => ⟨_, by subst h; exact rfl, rfl⟩) (fun v hv => ?_)
   subst hv
   exact .finV rfl rfl (Fz.le_refl _)
  refine .cons (fun L env7 F_25 l_26 hL hdn hup hphi => ⟨[(0, (.pointer p3))], fun S hS hV => (.cons (hS _ _ rfl) (Sub.nil _)), ?_⟩) ?_
  ·skip
   refine .move rfl rfl ?_
   exact .finV rfl rfl (Fz.le_refl _)
  refine .cons (fun L env7 F_27 l_28 hL hdn hup hphi => ⟨[(7, (.pointer p3))], fun S hS hV => (.cons (hV 4 7 _ (hdn 1 4 rfl) rfl rfl) (Sub.nil _)), ?_⟩) ?_
  ·skip
   refine .nilCheckR hp12 rfl rfl ?_
   exact .finV rfl rfl (Fz.le_refl _)
  refine .cons (fun L env7 F_29 l_30 hL hdn hup hphi => ⟨[(8, (.pointer (some ⟨b10, 0, none⟩)))], fun S hS hV => (.cons (hV 5 8 _ (hdn 1 5 rfl) rfl rfl) (Sub.nil _)), ?_⟩) ?_
  ·skip
   refine .fieldAddr rfl Try.underlying75 rfl Try.sizeOf3 rfl ?_
   exact .finV rfl rfl (Fz.le_refl _)
  refine .cons (fun L env7 F_31 l_32 hL hdn hup hphi => ⟨[(9, (.pointer (some ⟨b10, 0 + 1, none⟩)))], fun S hS hV => (.cons (hV 6 9 _ (hdn 1 6 rfl) rfl rfl) (Sub.nil _)), ?_⟩) ?_
  ·skip
   refine .loadR (Φ := fun v => v = (.int .i64 x13.wood)) 1 rfl l_32 (hb11.mono l_32) e14 rfl Try.isAgg3 rfl (fun vs ⟨q0, q1, h, r0⟩ => ⟨_, by subst h; exact rfl, rfl⟩) (fun v hv => ?_)
   subst hv
   exact .finV rfl rfl (Fz.le_refl _)
  refine .cons (fun L env7 F_33 l_34 hL hdn hup hphi => ⟨[(0, (.pointer p3))], fun S hS hV => (.cons (hS _ _ rfl) (Sub.nil _)), ?_⟩) ?_
  ·skip
   refine .move rfl rfl ?_
   exact .finV rfl rfl (Fz.le_refl _)
  refine .cons (fun L env7 F_35 l_36 hL hdn hup hphi => ⟨[(11, (.pointer p3))], fun S hS hV => (.cons (hV 8 11 _ (hdn 1 8 rfl) rfl rfl) (Sub.nil _)), ?_⟩) ?_
  ·skip
   refine .nilCheckR hp12 rfl rfl ?_
   exact .finV rfl rfl (Fz.le_refl _)
  refine .cons (fun L env7 F_37 l_38 hL hdn hup hphi => ⟨[(12, (.pointer (some ⟨b10, 0, none⟩)))], fun S hS hV => (.cons (hV 9 12 _ (hdn 1 9 rfl) rfl rfl) (Sub.nil _)), ?_⟩) ?_
  ·skip
   refine .fieldAddr rfl Try.underlying75 rfl Try.sizeOf3 rfl ?_
   exact .finV rfl rfl (Fz.le_refl _)
  refine .cons (fun L env7 F_39 l_40 hL hdn hup hphi => ⟨[(13, (.pointer (some ⟨b10, 0 + 2, none⟩)))], fun S hS hV => (.cons (hV 10 13 _ (hdn 1 10 rfl) rfl rfl) (Sub.nil _)), ?_⟩) ?_
  ·skip
   refine .loadR (Φ := fun v => v = (.int .i64 x13.place)) 1 rfl l_40 (hb11.mono l_40) e14 rfl Try.isAgg3 rfl (fun vs ⟨q0, q1, h, r0⟩ => ⟨_, by subst h; exact rfl, rfl⟩) (fun v hv => ?_)
   subst hv
   exact .finV rfl rfl (Fz.le_refl _)
  refine .cons (fun L env7 F_41 l_42 hL hdn hup hphi => ⟨[(0, (.pointer p3))], fun S hS hV => (.cons (hS _ _ rfl) (Sub.nil _)), ?_⟩) ?_
  ·skip
   refine .move rfl rfl ?_
   exact .finV rfl rfl (Fz.le_refl _)
  refine .cons (fun L env7 F_43 l_44 hL hdn hup hphi => ⟨[(15, (.pointer p3))], fun S hS hV => (.cons (hV 12 15 _ (hdn 1 12 rfl) rfl rfl) (Sub.nil _)), ?_⟩) ?_
  ·skip
   refine .nilCheckR hp12 rfl rfl ?_
   exact .finV rfl rfl (Fz.le_refl _)
  refine .cons (fun L env7 F_45 l_46 hL hdn hup hphi => ⟨[(16, (.pointer (some ⟨b10, 0, none⟩)))], fun S hS hV => (.cons (hV 13 16 _ (hdn 1 13 rfl) rfl rfl) (Sub.nil _)), ?_⟩) ?_
  ·skip
   refine .fieldAddr rfl Try.underlying75 rfl Try.sizeOf3 rfl ?_
   exact .finV rfl rfl (Fz.le_refl _)
  refine .cons (fun L env7 F_47 l_48 hL hdn hup hphi => ⟨[(17, (.pointer (some ⟨b10, 0 + 3, none⟩)))], fun S hS hV => (.cons (hV 14 17 _ (hdn 1 14 rfl) rfl rfl) (Sub.nil _)), ?_⟩) ?_
  ·skip
   refine .loadR (Φ := fun v => v = (.int .i64 x13.room)) 1 rfl l_48 (hb11.mono l_48) e14 rfl Try.isAgg3 rfl (fun vs ⟨q0, q1, h, r0⟩ => ⟨_, by subst h; exact rfl, rfl⟩) (fun v hv => ?_)
   subst hv
   exact .finV rfl rfl (Fz.le_refl _)
  refine .cons (fun L env7 F_49 l_50 hL hdn hup hphi => ⟨[(0, (.pointer p3))], fun S hS hV => (.cons (hS _ _ rfl) (Sub.nil _)), ?_⟩) ?_
  ·skip
   refine .move rfl rfl ?_
   exact .finV rfl rfl (Fz.le_refl _)
  refine .cons (fun L env7 F_51 l_52 hL hdn hup hphi => ⟨[(19, (.pointer p3))], fun S hS hV => (.cons (hV 16 19 _ (hdn 1 16 rfl) rfl rfl) (Sub.nil _)), ?_⟩) ?_
  ·skip
   refine .nilCheckR hp12 rfl rfl ?_
   exact .finV rfl rfl (Fz.le_refl _)
  refine .cons (fun L env7 F_53 l_54 hL hdn hup hphi => ⟨[(20, (.pointer (some ⟨b10, 0, none⟩)))], fun S hS hV => (.cons (hV 17 20 _ (hdn 1 17 rfl) rfl rfl) (Sub.nil _)), ?_⟩) ?_
  ·skip
   refine .fieldAddr rfl Try.underlying75 rfl Try.sizeOf3 rfl ?_
   exact .finV rfl rfl (Fz.le_refl _)
  refine .cons (fun L env7 F_55 l_56 hL hdn hup hphi => ⟨[(21, (.pointer (some ⟨b10, 0 + 4, none⟩)))], fun S hS hV => (.cons (hV 18 21 _ (hdn 1 18 rfl) rfl rfl) (Sub.nil _)), ?_⟩) ?_
  ·skip
   refine .loadR (Φ := fun v => v = (.int .i64 x13.owner)) 1 rfl l_56 (hb11.mono l_56) e14 rfl Try.isAgg3 rfl (fun vs ⟨q0, q1, h, r0⟩ => ⟨_, by subst h; exact rfl, rfl⟩) (fun v hv => ?_)
   subst hv
   exact .finV rfl rfl (Fz.le_refl _)
  refine .cons (fun L env7 F_57 l_58 hL hdn hup hphi => ⟨[(0, (.pointer p3))], fun S hS hV => (.cons (hS _ _ rfl) (Sub.nil _)), ?_⟩) ?_
  ·skip
   refine .move rfl rfl ?_
   exact .finV rfl rfl (Fz.le_refl _)
  refine .cons (fun L env7 F_59 l_60 hL hdn hup hphi => ⟨[(23, (.pointer p3))], fun S hS hV => (.cons (hV 20 23 _ (hdn 1 20 rfl) rfl rfl) (Sub.nil _)), ?_⟩) ?_
  ·skip
   refine .nilCheckR hp12 rfl rfl ?_
   exact .finV rfl rfl (Fz.le_refl _)
  refine .cons (fun L env7 F_61 l_62 hL hdn hup hphi => ⟨[(24, (.pointer (some ⟨b10, 0, none⟩)))], fun S hS hV => (.cons (hV 21 24 _ (hdn 1 21 rfl) rfl rfl) (Sub.nil _)), ?_⟩) ?_
  ·skip
   refine .fieldAddr rfl Try.underlying75 rfl Try.sizeOf3 rfl ?_
   exact .finV rfl rfl (Fz.le_refl _)
  refine .cons (fun L env7 F_63 l_64 hL hdn hup hphi => ⟨[(25, (.pointer (some ⟨b10, 0 + 5, none⟩)))], fun S hS hV => (.cons (hV 22 25 _ (hdn 1 22 rfl) rfl rfl) (Sub.nil _)), ?_⟩) ?_
  ·skip
   refine .loadR (Φ := fun v => v = (.int .i64 x13.creditor)) 1 rfl l_64 (hb11.mono l_64) e14 rfl Try.isAgg3 rfl (fun vs ⟨q0, q1, h, r0⟩ => ⟨_, by subst h; exact rfl, rfl⟩) (fun v hv => ?_)
   subst hv
   exact .finV rfl rfl (Fz.le_refl _)
  refine .cons (fun L env7 F_65 l_66 hL hdn hup hphi => ⟨[(0, (.pointer p3))], fun S hS hV => (.cons (hS _ _ rfl) (Sub.nil _)), ?_⟩) ?_
  ·skip
   refine .move rfl rfl ?_
   exact .finV rfl rfl (Fz.le_refl _)
  refine .cons (fun L env7 F_67 l_68 hL hdn hup hphi => ⟨[(27, (.pointer p3))], fun S hS hV => (.cons (hV 24 27 _ (hdn 1 24 rfl) rfl rfl) (Sub.nil _)), ?_⟩) ?_
  ·skip
   refine .nilCheckR hp12 rfl rfl ?_
   exact .finV rfl rfl (Fz.le_refl _)
  refine .cons (fun L env7 F_69 l_70 hL hdn hup hphi => ⟨[(28, (.pointer (some ⟨b10, 0, none⟩)))], fun S hS hV => (.cons (hV 25 28 _ (hdn 1 25 rfl) rfl rfl) (Sub.nil _)), ?_⟩) ?_
  ·skip
   refine .fieldAddr rfl Try.underlying75 rfl Try.sizeOf3 rfl ?_
   exact .finV rfl rfl (Fz.le_refl _)
  refine .cons (fun L env7 F_71 l_72 hL hdn hup hphi => ⟨[(29, (.pointer (some ⟨b10, 0 + 6, none⟩)))], fun S hS hV => (.cons (hV 26 29 _ (hdn 1 26 rfl) rfl rfl) (Sub.nil _)), ?_⟩) ?_
  ·skip
   refine .loadR (Φ := fun v => v = (.int .i64 x13.amount)) 1 rfl l_72 (hb11.mono l_72) e14 rfl Try.isAgg3 rfl (fun vs ⟨q0, q1, h, r0⟩ => ⟨_, by subst h; exact rfl, rfl⟩) (fun v hv => ?_)
   subst hv
   exact .finV rfl rfl (Fz.le_refl _)
  refine .cons (fun L env7 F_73 l_74 hL hdn hup hphi => ⟨[(0, (.pointer p3))], fun S hS hV => (.cons (hS _ _ rfl) (Sub.nil _)), ?_⟩) ?_
  ·skip
   refine .move rfl rfl ?_
   exact .finV rfl rfl (Fz.le_refl _)
  refine .cons (fun L env7 F_75 l_76 hL hdn hup hphi => ⟨[(31, (.pointer p3))], fun S hS hV => (.cons (hV 28 31 _ (hdn 1 28 rfl) rfl rfl) (Sub.nil _)), ?_⟩) ?_
  ·skip
   refine .nilCheckR hp12 rfl rfl ?_
   exact .finV rfl rfl (Fz.le_refl _)
  refine .cons (fun L env7 F_77 l_78 hL hdn hup hphi => ⟨[(32, (.pointer (some ⟨b10, 0, none⟩)))], fun S hS hV => (.cons (hV 29 32 _ (hdn 1 29 rfl) rfl rfl) (Sub.nil _)), ?_⟩) ?_
  ·skip
   refine .fieldAddr rfl Try.underlying75 rfl Try.sizeOf72 rfl ?_
   exact .finV rfl rfl (Fz.le_refl _)
  refine .cons (fun L env7 F_79 l_80 hL hdn hup hphi => ⟨[(33, (.pointer (some ⟨b10, 0 + 8, none⟩)))], fun S hS hV => (.cons (hV 30 33 _ (hdn 1 30 rfl) rfl rfl) (Sub.nil _)), ?_⟩) ?_
  ·skip
   refine .fieldAddr rfl Try.underlying72 rfl Try.sizeOf3 rfl ?_
   exact .finV rfl rfl (Fz.le_refl _)
  refine .cons (fun L env7 F_81 l_82 hL hdn hup hphi => ⟨[(34, (.pointer (some ⟨b10, 0 + 8 + 0, none⟩)))], fun S hS hV => (.cons (hV 31 34 _ (hdn 1 31 rfl) rfl rfl) (Sub.nil _)), ?_⟩) ?_
  ·skip
   refine .loadR (Φ := fun v => v = (.int .i64 x13.times.age)) 1 rfl l_82 (hb11.mono l_82) e14 rfl Try.isAgg3 rfl (fun vs ⟨q0, q1, h, r0⟩ => ⟨_, by subst h; exact rfl, rfl⟩) (fun v hv => ?_)
   subst hv
   exact .finV rfl rfl (Fz.le_refl _)
  refine .cons (fun L env7 F_83 l_84 hL hdn hup hphi => ⟨[(0, (.pointer p3))], fun S hS hV => (.cons (hS _ _ rfl) (Sub.nil _)), ?_⟩) ?_
  ·skip
   refine .move rfl rfl ?_
   exact .finV rfl rfl (Fz.le_refl _)
  refine .cons (fun L env7 F_85 l_86 hL hdn hup hphi => ⟨[(36, (.pointer p3))], fun S hS hV => (.cons (hV 33 36 _ (hdn 1 33 rfl) rfl rfl) (Sub.nil _)), ?_⟩) ?_
  ·skip
   refine .nilCheckR hp12 rfl rfl ?_
   exact .finV rfl rfl (Fz.le_refl _)
  refine .cons (fun L env7 F_87 l_88 hL hdn hup hphi => ⟨[(37, (.pointer (some ⟨b10, 0, none⟩)))], fun S hS hV => (.cons (hV 34 37 _ (hdn 1 34 rfl) rfl rfl) (Sub.nil _)), ?_⟩) ?_
  ·skip
   refine .fieldAddr rfl Try.underlying75 rfl Try.sizeOf72 rfl ?_
   exact .finV rfl rfl (Fz.le_refl _)
  refine .cons (fun L env7 F_89 l_90 hL hdn hup hphi => ⟨[(38, (.pointer (some ⟨b10, 0 + 8, none⟩)))], fun S hS hV => (.cons (hV 35 38 _ (hdn 1 35 rfl) rfl rfl) (Sub.nil _)), ?_⟩) ?_
  ·skip
   refine .fieldAddr rfl Try.underlying72 rfl Try.sizeOf29 rfl ?_
   exact .finV rfl rfl (Fz.le_refl _)
  refine .cons (fun L env7 F_91 l_92 hL hdn hup hphi => ⟨[(39, (.pointer (some ⟨b10, 0 + 8 + 1, none⟩)))], fun S hS hV => (.cons (hV 36 39 _ (hdn 1 36 rfl) rfl rfl) (Sub.nil _)), ?_⟩) ?_
  ·skip
   refine .loadRA (Φ := fun us => us = ((cArr 8 (cInt .i64)) x13.times.woods)) 1 rfl l_92 (hb11.mono l_92) e14 rfl Try.isAgg29 Try.sizeOf29 rfl (fun vs ⟨q0, q1, h, r0⟩ => ⟨_, by subst h; rfl, rfl, rfl⟩) (fun us hv => ?_)
   subst hv
   exact .finV rfl rfl (Fz.le_refl _)
  refine .cons (fun L env7 F_93 l_94 hL hdn hup hphi => ⟨[(0, (.pointer p3))], fun S hS hV => (.cons (hS _ _ rfl) (Sub.nil _)), ?_⟩) ?_
  ·skip
   refine .move rfl rfl ?_
   exact .finV rfl rfl (Fz.le_refl _)
  refine .cons (fun L env7 F_95 l_96 hL hdn hup hphi => ⟨[(41, (.pointer p3))], fun S hS hV => (.cons (hV 38 41 _ (hdn 1 38 rfl) rfl rfl) (Sub.nil _)), ?_⟩) ?_
  ·skip
   refine .nilCheckR hp12 rfl rfl ?_
   exact .finV rfl rfl (Fz.le_refl _)
  refine .cons (fun L env7 F_97 l_98 hL hdn hup hphi => ⟨[(42, (.pointer (some ⟨b10, 0, none⟩)))], fun S hS hV => (.cons (hV 39 42 _ (hdn 1 39 rfl) rfl rfl) (Sub.nil _)), ?_⟩) ?_
  ·skip
   refine .fieldAddr rfl Try.underlying75 rfl Try.sizeOf72 rfl ?_
   exact .finV rfl rfl (Fz.le_refl _)
  refine .cons (fun L env7 F_99 l_100 hL hdn hup hphi => ⟨[(43, (.pointer (some ⟨b10, 0 + 8, none⟩)))], fun S hS hV => (.cons (hV 40 43 _ (hdn 1 40 rfl) rfl rfl) (Sub.nil _)), ?_⟩) ?_
  ·skip
   refine .fieldAddr rfl Try.underlying72 rfl Try.sizeOf29 rfl ?_
   exact .finV rfl rfl (Fz.le_refl _)
  refine .cons (fun L env7 F_101 l_102 hL hdn hup hphi => ⟨[(44, (.pointer (some ⟨b10, 0 + 8 + 9, none⟩)))], fun S hS hV => (.cons (hV 41 44 _ (hdn 1 41 rfl) rfl rfl) (Sub.nil _)), ?_⟩) ?_
  ·skip
   refine .loadRA (Φ := fun us => us = ((cArr 8 (cInt .i64)) x13.times.places)) 1 rfl l_102 (hb11.mono l_102) e14 rfl Try.isAgg29 Try.sizeOf29 rfl (fun vs ⟨q0, q1, h, r0⟩ => ⟨_, by subst h; rfl, rfl, rfl⟩) (fun us hv => ?_)
   subst hv
   exact .finV rfl rfl (Fz.le_refl _)
  exact .nil
 refine .norm (S' := [(0, (.pointer p3)), (2, (.pointer (some ⟨b6, 0, none⟩))), (3, (.pointer p3)), (4, (.pointer (some ⟨b10, 0, none⟩))), (5, (.pointer (some ⟨b10, 0 + 0, none⟩))), (6, (.int .i64 x13.number)), (7, (.pointer p3)), (8, (.pointer (some ⟨b10, 0, none⟩))), (9, (.pointer (some ⟨b10, 0 + 1, none⟩))), (10, (.int .i64 x13.wood)), (11, (.pointer p3)), (12, (.pointer (some ⟨b10, 0, none⟩))), (13, (.pointer (some ⟨b10, 0 + 2, none⟩))), (14, (.int .i64 x13.place)), (15, (.pointer p3)), (16, (.pointer (some ⟨b10, 0, none⟩))), (17, (.pointer (some ⟨b10, 0 + 3, none⟩))), (18, (.int .i64 x13.room)), (19, (.pointer p3)), (20, (.pointer (some ⟨b10, 0, none⟩))), (21, (.pointer (some ⟨b10, 0 + 4, none⟩))), (22, (.int .i64 x13.owner)), (23, (.pointer p3)), (24, (.pointer (some ⟨b10, 0, none⟩))), (25, (.pointer (some ⟨b10, 0 + 5, none⟩))), (26, (.int .i64 x13.creditor)), (27, (.pointer p3)), (28, (.pointer (some ⟨b10, 0, none⟩))), (29, (.pointer (some ⟨b10, 0 + 6, none⟩))), (30, (.int .i64 x13.amount)), (31, (.pointer p3)), (32, (.pointer (some ⟨b10, 0, none⟩))), (33, (.pointer (some ⟨b10, 0 + 8, none⟩))), (34, (.pointer (some ⟨b10, 0 + 8 + 0, none⟩))), (35, (.int .i64 x13.times.age)), (36, (.pointer p3)), (37, (.pointer (some ⟨b10, 0, none⟩))), (38, (.pointer (some ⟨b10, 0 + 8, none⟩))), (39, (.pointer (some ⟨b10, 0 + 8 + 1, none⟩))), (40, (.agg ((cArr 8 (cInt .i64)) x13.times.woods).toArray)), (41, (.pointer p3)), (42, (.pointer (some ⟨b10, 0, none⟩))), (43, (.pointer (some ⟨b10, 0 + 8, none⟩))), (44, (.pointer (some ⟨b10, 0 + 8 + 9, none⟩))), (45, (.agg ((cArr 8 (cInt .i64)) x13.times.places).toArray))]) (.cons (k := 0) rfl (.cons (k := 2) rfl (.cons (k := 3) rfl (.cons (k := 4) rfl (.cons (k := 5) rfl (.cons (k := 6) rfl (.cons (k := 7) rfl (.cons (k := 8) rfl (.cons (k := 9) rfl (.cons (k := 10) rfl (.cons (k := 11) rfl (.cons (k := 12) rfl (.cons (k := 13) rfl (.cons (k := 14) rfl (.cons (k := 15) rfl (.cons (k := 16) rfl (.cons (k := 17) rfl (.cons (k := 18) rfl (.cons (k := 19) rfl (.cons (k := 20) rfl (.cons (k := 21) rfl (.cons (k := 22) rfl (.cons (k := 23) rfl (.cons (k := 24) rfl (.cons (k := 25) rfl (.cons (k := 26) rfl (.cons (k := 27) rfl (.cons (k := 28) rfl (.cons (k := 29) rfl (.cons (k := 30) rfl (.cons (k := 31) rfl (.cons (k := 32) rfl (.cons (k := 33) rfl (.cons (k := 34) rfl (.cons (k := 35) rfl (.cons (k := 36) rfl (.cons (k := 37) rfl (.cons (k := 38) rfl (.cons (k := 39) rfl (.cons (k := 40) rfl (.cons (k := 41) rfl (.cons (k := 42) rfl (.cons (k := 43) rfl (.cons (k := 44) rfl (.cons (k := 45) rfl (.nil _)))))))))))))))))))))))))))))))))))))))))))))) (rfl : _ = [pt b6 (.cells (cApiCask (ApiCask.mk 0 0 0 0 0 0 0 0 (fun _ => 0) (fun _ => 0))).toArray 31), arena Γ.g75 (C75 Γ) F0 A1, R]) ?_
 refine .build (cs := (cApiCask (ApiCask.mk x13.number x13.wood x13.place x13.room x13.owner x13.creditor x13.amount x13.times.age x13.times.woods x13.times.places)).toArray) rfl Try.underlying31 Try.zeroValue31 (plApiCask _ Try.underlying31) rfl rfl (by kernel_rfl) ?_
 refine .store (cs' := (cApiCask (ApiCask.mk x13.number x13.wood x13.place x13.room x13.owner x13.creditor x13.amount x13.times.age x13.times.woods x13.times.places))) Try.sizeOf31 rfl rfl rfl rfl (i := 0) rfl (Nat.le_of_ble_eq_true rfl) rfl (setMany_all (by rfl)) ?_
 refine .nil ?_
 refine .keep (.cons (k := 2) rfl (.nil _)) ?_
 refine .code ?_
 refine .upR 1 (stays75 Γ) l_16 rfl ?_
 exact .retH [1, 1] Try.results26 (.agg rfl Try.isAgg31 Try.sizeOf31 (i := 0) rfl (vs' := (cApiCask (ApiCask.mk x13.number x13.wood x13.place x13.room x13.owner x13.creditor x13.amount x13.times.age x13.times.woods x13.times.places))) (by kernel_rfl) rfl (.nil)) rfl l_16 rfl
noncomputable def b_cask_Play_1  (x31 : (Option Nat)) (s29 : (List ApiCask) × (List CaskCask)) : Option ((List ApiCask) × (List CaskCask)) :=
 (m_cask_cask_shown s29.2 x31).bind fun r_42 => (appO s29.1 ([r_42])).bind fun l_68 => some (l_68, s29.2)
noncomputable def m_cask_Play (l_1 : (List ApiCaskEvent)) (day5 : Int) : Option ((List ApiCask) × Int × Int) :=
 (m_cask_play l_1 day5).bind fun r_8 => if (r_8.2.2.1 != 0) then (some ([], r_8.2.1, r_8.2.2.1)) else ((some ()).bind fun _r_21 => (L_cask_book_ordered_1 r_8.2.2.2.2.1 r_8.2.2.2.2.2.2 r_8.1).bind fun l_26 => (forL b_cask_Play_1 l_26 ([], r_8.2.2.2.1)).bind fun s73 => some (s73.1, r_8.2.1, 0))
theorem c_cask_Play (F0 : Fz) (l_1 : (List ApiCaskEvent)) (p2 : Option Addr) (k3 : Nat) (h4 : RepSl 8 (Ex cApiCaskEvent) F0 p2 k3 l_1) (day5 : Int) : CT0 Try.prog 12 [(.slice p2 l_1.length k3), (.int .i64 day5)].toArray F0 (m_cask_Play l_1 day5) (fun r F v => ∃ (p0 : Option Addr) (k0 : Nat), v = .tuple #[(.slice p0 r.1.length k0), (.int .i64 r.2.1), (.int .i64 r.2.2)] ∧ RepSl 24 (Ex cApiCask) F p0 k0 r.1) := by
 refine CT0.enterM Try.func12 rfl Try.ntmps12 rfl fun r R => ?_
 unfold m_cask_Play
 refine .seq ?_
 refine .region ?_
 refine .alloc (cs := [(.slice none 0 0)]) rfl Try.zeroValue25 rfl (fun b6 => ?_)
 refine .ownNil 24 (Ex cApiCask) 31 ?_
 refine .assign rfl rfl ?_
 refine .assign rfl rfl ?_
 refine .nil ?_
 refine .code ?_
 refine .seq ?_
 refine .region ?_
 refine .move rfl rfl ?_
 refine .move rfl rfl ?_
 refine .callO rfl Try.call24 rfl rfl rfl (c_cask_play _ l_1 p2 k3 h4 day5) ?_
 rintro r_8 _12 F_9 _ e11 l_10 ⟨p13, k14, rfl, h15⟩
 refine .norm (Sub.refl _) (rfl : _ = [arena _12.g75 (C75 _12) F_9 r_8.2.2.2.1, arena _12.g69 (C69 _12) F_9 r_8.2.2.2.2.1, arena _12.g73 (C73 _12) F_9 r_8.2.2.2.2.2.1, arena _12.g67 (C67 _12) F_9 r_8.2.2.2.2.2.2, ownSl 24 (Ex cApiCask) F0 31 none 0 ([]), pt b6 (.cells [(.slice none 0 0)].toArray 25), R]) ?_
 refine .move rfl rfl ?_
 refine .extract rfl rfl rfl ?_
 refine .extract rfl rfl rfl ?_
 refine .extract rfl rfl rfl ?_
 refine .assign rfl rfl ?_
 refine .assign rfl rfl ?_
 refine .assign rfl rfl ?_
 refine .nil ?_
 refine .code ?_
 refine .seq ?_
 refine .seq ?_
 refine .region ?_
 refine .move rfl rfl ?_
 refine .neq rfl rfl rfl ?_
 refine .nil ?_
 refine .code ?_
 refine .cond rfl (fun hb16 => ?_) (fun hb16 => ?_)
 ·skip
  refine .seq ?_
  refine .region ?_
  refine .move rfl rfl ?_
  refine .move rfl rfl ?_
  refine .ownNil 24 (Ex cApiCask) 31 ?_
  refine .store (cs' := [(.slice none 0 0)]) Try.sizeOf25 rfl rfl rfl rfl (i := 6) rfl (Nat.le_of_ble_eq_true rfl) rfl rfl ?_
  refine .assign rfl rfl ?_
  refine .assign rfl rfl ?_
  refine .nil ?_
  refine .code ?_
  refine .freezeSl 0 rfl (Fz.le_refl _) (fun F_18 l_19 h20 => ?_)
  exact .ret0M [] Try.results12 trivial (.cell rfl Try.isAgg25 (i := 5) rfl rfl (.tmp rfl (.tmp rfl (.nil)))) (i := 6) rfl (Fz.le_trans l_10 l_19) ⟨none, 0, rfl, h20⟩
 ·skip
  refine .skip ?_
  refine .code ?_
  refine .seq ?_
  refine .seq ?_
  refine .region ?_
  refine .move rfl rfl ?_
  refine .call0 rfl Try.call25 rfl rfl rfl (c_cask_book_ordered _ p13) ?_
  rintro r_21 F_22 _ - l_23 ⟨b24, rfl, hb25⟩
  refine .nil ?_
  refine .code ?_
  refine .block ?_
  refine .keep (.cons (k := 4) rfl (.cons (k := 8) rfl (.cons (k := 22) rfl (.nil _)))) ?_
  refine .upR 1 (stays69 _12) l_23 rfl ?_
  refine .upR 3 (stays67 _12) l_23 rfl ?_
  refine .bind (fun l_26 e27 => ?_)
  have hit28 : IterH Try.prog F_22 37 [.pointer (some ⟨b24, 0, none⟩)] (fun (x : (Option Nat)) F vs => ∃ (p0 : Option Addr) (k0 : Unit), vs = [(.pointer p0)] ∧ RepPtr _12.g75 F p0 x) (fun F => [arena _12.g69 (C69 _12) F r_8.2.2.2.2.1, arena _12.g67 (C67 _12) F r_8.2.2.2.2.2.2]) l_26 := IterH.mk' Try.call37 (fun σ ly Y y F' le' hy s => ⟨_, c_cask_book_ordered_1 F' _12 σ ly Y y hy r_8.2.2.2.2.1 r_8.2.2.2.2.2.2 r_8.1 b24 p13 k14 (le'.mem _ _ hb25) ((h15.mono l_23).mono le') s, fun r hr => it_cask_book_ordered_1 e27 hr⟩)
  refine .upR 0 (stays75 _12) l_23 rfl ?_
  refine .ownUp 4 (Fz.le_trans l_10 l_23) rfl ?_
  refine .rangeForH (τ := (List ApiCask) × (List CaskCask)) (fun F => [arena _12.g69 (C69 _12) F r_8.2.2.2.2.1, arena _12.g67 (C67 _12) F r_8.2.2.2.2.2.2]) [1, 2] (fun s29 F_30 hs' => ∃ (p35 : Option Addr) (k36 : Nat), hs' = [arena _12.g75 (C75 _12) F_30 s29.2, arena _12.g73 (C73 _12) F_9 r_8.2.2.2.2.2.1, ownSl 24 (Ex cApiCask) F_30 31 p35 k36 s29.1, pt b6 (.cells [(.slice p35 s29.1.length k36)].toArray 25), R]) rfl hit28 rfl (fun _ _ _ h => by obtain ⟨_, _, h, _⟩ := h; rw [h]; rfl) rfl ⟨none, 0, rfl⟩ ?_ ?_
  ·intro lp Lp F_30 F_34 x31 vs s29 ctl Rp hs' l_32 l_33 hx hI
   obtain ⟨p38, k39, rfl, h40⟩ := hx
   obtain ⟨p35, k36, rfl⟩ := hI
   unfold b_cask_Play_1
   refine .keep (.cons (k := 4) rfl (.cons (k := 8) rfl (.cons (k := 22) rfl (.cons (k := 23) rfl (.nil _))))) ?_
   refine .region ?_
   refine .assign rfl rfl ?_
   refine .nil ?_
   refine GE.begin 0 rfl ?_
   refine .block ?_
   refine .keep (.cons (k := 4) rfl (.cons (k := 9) rfl (.nil _))) ?_
   refine .bind (fun r_42 e43 => ?_)
   refine .drawGD 4 0 (fun env41 => [((.slice p35 s29.1.length k36), fun _ => True), ((.pointer p38), fun _ => True), ((eApiCask r_42), fun G => env41.f 20 ≤ G), ((.slice (some ⟨env41.n 30, 0, none⟩) ([r_42]).length 1), fun G => RepSl 24 (Ex cApiCask) G (some ⟨env41.n 30, 0, none⟩) 1 ([r_42]))]) (fun L env41 => [pt lp (lbusy Lp), Rp, (bif L 2 then (arena _12.g75 (C75 _12) (env41.f 20) s29.2) else (arena _12.g75 (C75 _12) F_30 s29.2)), arena _12.g73 (C73 _12) F_9 r_8.2.2.2.2.2.1, ownSl 24 (Ex cApiCask) F_30 31 p35 k36 s29.1, pt b6 (.cells [(.slice p35 s29.1.length k36)].toArray 25), R]) mixedOK (by kernel_rfl) (deepN (k := 4) (n := 6) rfl (allLt6 (p := fun t => 4 ≤ t → ∀ j, j < t → ∃ s, depB _ s t j = true) (fun h => absurd h (by decide)) (fun h => absurd h (by decide)) (fun h => absurd h (by decide)) (fun h => absurd h (by decide)) (fun _ => allLt4 (p := fun j => ∃ s, depB _ s 4 j = true) ⟨1, rfl⟩ ⟨2, rfl⟩ ⟨1, rfl⟩ ⟨1, rfl⟩) (fun _ => allLt5 (p := fun j => ∃ s, depB _ s 5 j = true) ⟨1, rfl⟩ ⟨1, rfl⟩ ⟨1, rfl⟩ ⟨1, rfl⟩ ⟨1, rfl⟩))) rfl (fun _ => rfl) (by kernel_rfl) (fun _ => rfl) ?_ (fun env41 F_50 l_51 hphi => ?_)
   ·skip
    refine .cons (fun L env41 F_53 l_54 hL hdn hup hphi => ⟨[(4, (.pointer (some ⟨b6, 0, none⟩)))], fun S hS hV => (.cons (hS _ _ rfl) (Sub.nil _)), ?_⟩) ?_
    ·skip
     refine .loadO rfl Try.isAgg25 rfl (i := 5) rfl rfl ?_
     exact .finV rfl rfl (Fz.le_refl _)
    refine .cons (fun L env41 F_55 l_56 hL hdn hup hphi => ⟨[(9, (.pointer p38))], fun S hS hV => (.cons (hS _ _ rfl) (Sub.nil _)), ?_⟩) ?_
    ·skip
     refine .move rfl rfl ?_
     exact .finV rfl rfl (Fz.le_refl _)
    refine .cons (fun L env41 F_57 l_58 hL hdn hup hphi => ⟨[(25, (.pointer p38))], fun S hS hV => (.cons (hV 1 25 _ (hdn 1 1 rfl) rfl rfl) (Sub.nil _)), ?_⟩) ?_
    ·skip
     refine .norm (Sub.refl _) ((cons_eq rfl (cons_eq rfl (cons_eq (condF hL) (cons_eq rfl (cons_eq rfl (cons_eq rfl (cons_eq rfl rfl))))))) : _ = [pt lp (lbusy Lp), Rp, arena _12.g75 (C75 _12) F_30 s29.2, arena _12.g73 (C73 _12) F_9 r_8.2.2.2.2.2.1, ownSl 24 (Ex cApiCask) F_30 31 p35 k36 s29.1, pt b6 (.cells [(.slice p35 s29.1.length k36)].toArray 25), R]) ?_
     refine .upR 2 (stays75 _12) (Fz.le_trans l_33 l_58) rfl ?_
     refine .callTK e43 [2] rfl Try.call26 rfl rfl rfl rfl (c_cask_cask_shown _ _12 s29.2 x31 p38 k39 (h40.mono l_58)) ?_
     rintro F_59 _ l_60 rfl
     refine .pick [1, 1, 0, 0, 0, 0, 0] (rfl : _ = [pt lp (lbusy Lp), Rp, arena _12.g75 (C75 _12) F_59 s29.2, arena _12.g73 (C73 _12) F_9 r_8.2.2.2.2.2.1, ownSl 24 (Ex cApiCask) F_30 31 p35 k36 s29.1, pt b6 (.cells [(.slice p35 s29.1.length k36)].toArray 25), R]) ?_
     exact .finQ ({ env41 with a := env41.a, o := env41.o, f := (updN env41.f 20 F_59) }) [true, true, false, false] rfl (by kernel_rfl) rfl rfl l_60 (fun _ le => le) (cons_eq rfl (cons_eq rfl (cons_eq (condT rfl) (cons_eq rfl (cons_eq rfl (cons_eq rfl (cons_eq rfl rfl)))))))
    refine .cons (fun L env41 F_61 l_62 hL hdn hup hphi => ⟨[(26, (eApiCask r_42))], fun S hS hV => (.cons (hV 2 26 _ (hdn 1 2 rfl) rfl rfl) (Sub.nil _)), ?_⟩) ?_
    ·skip
     have l_52 := hphi 2 _ (hdn 1 2 rfl) rfl _ (Fz.le_refl _)
     refine .sliceLit (cs := [.int .i64 r_42.Number, .int .i64 r_42.Wood, .int .i64 r_42.Place, .int .i64 r_42.Room, .int .i64 r_42.Owner, .int .i64 r_42.Creditor, .int .i64 r_42.Amount, .int .i64 r_42.Age, .int .i64 (r_42.Woods 0), .int .i64 (r_42.Woods 1), .int .i64 (r_42.Woods 2), .int .i64 (r_42.Woods 3), .int .i64 (r_42.Woods 4), .int .i64 (r_42.Woods 5), .int .i64 (r_42.Woods 6), .int .i64 (r_42.Woods 7), .int .i64 (r_42.Places 0), .int .i64 (r_42.Places 1), .int .i64 (r_42.Places 2), .int .i64 (r_42.Places 3), .int .i64 (r_42.Places 4), .int .i64 (r_42.Places 5), .int .i64 (r_42.Places 6), .int .i64 (r_42.Places 7)]) (zc := [.int .i64 (ApiCask.mk 0 0 0 0 0 0 0 0 (fun _ => 0) (fun _ => 0)).Number, .int .i64 (ApiCask.mk 0 0 0 0 0 0 0 0 (fun _ => 0) (fun _ => 0)).Wood, .int .i64 (ApiCask.mk 0 0 0 0 0 0 0 0 (fun _ => 0) (fun _ => 0)).Place, .int .i64 (ApiCask.mk 0 0 0 0 0 0 0 0 (fun _ => 0) (fun _ => 0)).Room, .int .i64 (ApiCask.mk 0 0 0 0 0 0 0 0 (fun _ => 0) (fun _ => 0)).Owner, .int .i64 (ApiCask.mk 0 0 0 0 0 0 0 0 (fun _ => 0) (fun _ => 0)).Creditor, .int .i64 (ApiCask.mk 0 0 0 0 0 0 0 0 (fun _ => 0) (fun _ => 0)).Amount, .int .i64 (ApiCask.mk 0 0 0 0 0 0 0 0 (fun _ => 0) (fun _ => 0)).Age, .int .i64 ((ApiCask.mk 0 0 0 0 0 0 0 0 (fun _ => 0) (fun _ => 0)).Woods 0), .int .i64 ((ApiCask.mk 0 0 0 0 0 0 0 0 (fun _ => 0) (fun _ => 0)).Woods 1), .int .i64 ((ApiCask.mk 0 0 0 0 0 0 0 0 (fun _ => 0) (fun _ => 0)).Woods 2), .int .i64 ((ApiCask.mk 0 0 0 0 0 0 0 0 (fun _ => 0) (fun _ => 0)).Woods 3), .int .i64 ((ApiCask.mk 0 0 0 0 0 0 0 0 (fun _ => 0) (fun _ => 0)).Woods 4), .int .i64 ((ApiCask.mk 0 0 0 0 0 0 0 0 (fun _ => 0) (fun _ => 0)).Woods 5), .int .i64 ((ApiCask.mk 0 0 0 0 0 0 0 0 (fun _ => 0) (fun _ => 0)).Woods 6), .int .i64 ((ApiCask.mk 0 0 0 0 0 0 0 0 (fun _ => 0) (fun _ => 0)).Woods 7), .int .i64 ((ApiCask.mk 0 0 0 0 0 0 0 0 (fun _ => 0) (fun _ => 0)).Places 0), .int .i64 ((ApiCask.mk 0 0 0 0 0 0 0 0 (fun _ => 0) (fun _ => 0)).Places 1), .int .i64 ((ApiCask.mk 0 0 0 0 0 0 0 0 (fun _ => 0) (fun _ => 0)).Places 2), .int .i64 ((ApiCask.mk 0 0 0 0 0 0 0 0 (fun _ => 0) (fun _ => 0)).Places 3), .int .i64 ((ApiCask.mk 0 0 0 0 0 0 0 0 (fun _ => 0) (fun _ => 0)).Places 4), .int .i64 ((ApiCask.mk 0 0 0 0 0 0 0 0 (fun _ => 0) (fun _ => 0)).Places 5), .int .i64 ((ApiCask.mk 0 0 0 0 0 0 0 0 (fun _ => 0) (fun _ => 0)).Places 6), .int .i64 ((ApiCask.mk 0 0 0 0 0 0 0 0 (fun _ => 0) (fun _ => 0)).Places 7)]) rfl Try.underlying25 Try.sizeOf31 Try.zeroValue31 rfl rfl rfl (by kernel_rfl) (by kernel_rfl) (fun b63 F_64 l_65 hb66 => ?_)
     have h67 : RepSl 24 (Ex cApiCask) F_64 (some ⟨b63, 0, none⟩) 1 ([r_42]) := RepSl.ofRow hb66 (.cons ok_t31.mono rfl .nil) rfl rfl
     exact .finQ ({ env41 with a := env41.a, n := (updN env41.n 30 b63), c := env41.c, o := env41.o }) [true, true, true, false] rfl (by kernel_rfl) rfl rfl l_65 (fun _ le => h67.mono le) (cons_eq rfl (cons_eq rfl (cons_eq rfl (cons_eq rfl (cons_eq rfl (cons_eq rfl (cons_eq rfl rfl)))))))
    exact .nil
   have l_52 := hphi 2 _ rfl
   have h49 := hphi 3 _ rfl
   refine .norm (S' := [(4, (.pointer (some ⟨b6, 0, none⟩))), (9, (.pointer p38)), (24, (.slice p35 s29.1.length k36)), (25, (.pointer p38)), (26, (eApiCask r_42)), (27, (.slice (some ⟨env41.n 30, 0, none⟩) ([r_42]).length 1))]) (.cons (k := 4) rfl (.cons (k := 9) rfl (.cons (k := 24) rfl (.cons (k := 25) rfl (.cons (k := 26) rfl (.cons (k := 27) rfl (.nil _))))))) (rfl : _ = [pt lp (lbusy Lp), Rp, arena _12.g75 (C75 _12) (env41.f 20) s29.2, arena _12.g73 (C73 _12) F_9 r_8.2.2.2.2.2.1, ownSl 24 (Ex cApiCask) F_30 31 p35 k36 s29.1, pt b6 (.cells [(.slice p35 s29.1.length k36)].toArray 25), R]) ?_
   refine .append 4 ok_t31 (Fz.le_trans l_33 l_51) rfl Try.underlying25 Try.underlying25 rfl rfl rfl h49 rfl rfl (fun l_68 p69 k70 e71 => ?_)
   refine .store (cs' := [(.slice p69 l_68.length k70)]) Try.sizeOf25 rfl rfl rfl rfl (i := 5) rfl (Nat.le_of_ble_eq_true rfl) rfl rfl ?_
   refine .nil ?_
   refine .block ?_
   refine .upR 2 (stays75 _12) l_52 rfl ?_
   exact .nil (RP.normF l_51 ⟨p69, k70, rfl⟩ rfl)
  ·intro q72 F_74 F_75 s73 hs' l_76 l_77 he hI
   obtain ⟨p78, k79, rfl⟩ := hI
   refine .norm (Sub.refl _) (rfl : _ = [pt q72 (.deferred (some [])), arena _12.g69 (C69 _12) F_75 r_8.2.2.2.2.1, arena _12.g67 (C67 _12) F_75 r_8.2.2.2.2.2.2, arena _12.g75 (C75 _12) F_74 s73.2, arena _12.g73 (C73 _12) F_9 r_8.2.2.2.2.2.1, ownSl 24 (Ex cApiCask) F_74 31 p78 k79 s73.1, pt b6 (.cells [(.slice p78 s73.1.length k79)].toArray 25), R]) ?_
   refine .block ?_
   refine .code ?_
   refine .seq ?_
   refine .region ?_
   refine .loadO rfl Try.isAgg25 rfl (i := 6) rfl rfl ?_
   refine .move rfl rfl ?_
   refine .store (cs' := [(.slice p78 s73.1.length k79)]) Try.sizeOf25 rfl rfl rfl rfl (i := 6) rfl (Nat.le_of_ble_eq_true rfl) rfl rfl ?_
   refine .assign rfl rfl ?_
   refine .assign rfl rfl ?_
   refine .nil ?_
   refine .code ?_
   refine .freezeSl 5 rfl l_77 (fun F_81 l_82 h83 => ?_)
   exact .ret0M [(0, q72)] Try.results12 ⟨rfl, trivial⟩ (.cell rfl Try.isAgg25 (i := 5) rfl rfl (.tmp rfl (.tmp rfl (.nil)))) (i := 6) rfl (Fz.le_trans l_10 (Fz.le_trans l_23 (Fz.le_trans l_76 (Fz.le_trans l_77 l_82)))) ⟨p78, k79, rfl, h83⟩
noncomputable def m_cask_At (l_1 : (List ApiCaskEvent)) (cask5 : Int) (day6 : Int) : Option (ApiCask × Int) :=
 (m_cask_play l_1 day6).bind fun r_8 => if (r_8.2.2.1 != 0) then (some ((ApiCask.mk 0 0 0 0 0 0 0 0 (fun _ => 0) (fun _ => 0)), r_8.2.2.1)) else ((r_8.1).bind fun i17 => (r_8.2.2.2.2.1[i17]?).bind fun x22 => (x22.casks).bind fun i27 => (r_8.2.2.2.2.2.2[i27]?).bind fun x32 => if (((mapGet x32 cask5).getD none)).isNone then (some ((ApiCask.mk 0 0 0 0 0 0 0 0 (fun _ => 0) (fun _ => 0)), 4)) else ((m_cask_cask_shown r_8.2.2.2.1 ((mapGet x32 cask5).getD none)).bind fun r_38 => some (r_38, 0)))
theorem c_cask_At (F0 : Fz) (l_1 : (List ApiCaskEvent)) (p2 : Option Addr) (k3 : Nat) (h4 : RepSl 8 (Ex cApiCaskEvent) F0 p2 k3 l_1) (cask5 : Int) (day6 : Int) : CT0 Try.prog 14 [(.slice p2 l_1.length k3), (.int .i64 cask5), (.int .i64 day6)].toArray F0 (m_cask_At l_1 cask5 day6) (fun r _ v => v = .tuple #[(eApiCask r.1), (.int .i64 r.2)]) := by
 refine CT0.enter Try.func14 rfl Try.ntmps14 rfl fun r R => ?_
 unfold m_cask_At
 refine .seq ?_
 refine .region ?_
 refine .alloc (cs := (cApiCask (ApiCask.mk 0 0 0 0 0 0 0 0 (fun _ => 0) (fun _ => 0)))) rfl Try.zeroValue31 rfl (fun b7 => ?_)
 refine .assign rfl rfl ?_
 refine .nil ?_
 refine .code ?_
 refine .seq ?_
 refine .region ?_
 refine .move rfl rfl ?_
 refine .move rfl rfl ?_
 refine .callO rfl Try.call24 rfl rfl rfl (c_cask_play _ l_1 p2 k3 h4 day6) ?_
 rintro r_8 _12 F_9 _ e11 l_10 ⟨p13, k14, rfl, h15⟩
 refine .norm (Sub.refl _) (rfl : _ = [arena _12.g75 (C75 _12) F_9 r_8.2.2.2.1, arena _12.g69 (C69 _12) F_9 r_8.2.2.2.2.1, arena _12.g73 (C73 _12) F_9 r_8.2.2.2.2.2.1, arena _12.g67 (C67 _12) F_9 r_8.2.2.2.2.2.2, pt b7 (.cells (cApiCask (ApiCask.mk 0 0 0 0 0 0 0 0 (fun _ => 0) (fun _ => 0))).toArray 31), R]) ?_
 refine .move rfl rfl ?_
 refine .extract rfl rfl rfl ?_
 refine .extract rfl rfl rfl ?_
 refine .extract rfl rfl rfl ?_
 refine .assign rfl rfl ?_
 refine .assign rfl rfl ?_
 refine .assign rfl rfl ?_
 refine .nil ?_
 refine .code ?_
 refine .seq ?_
 refine .seq ?_
 refine .region ?_
 refine .move rfl rfl ?_
 refine .neq rfl rfl rfl ?_
 refine .nil ?_
 refine .code ?_
 refine .cond rfl (fun hb16 => ?_) (fun hb16 => ?_)
 ·skip
  refine .seq ?_
  refine .region ?_
  refine .build (cs := (cApiCask (ApiCask.mk 0 0 0 0 0 0 0 0 (fun _ => 0) (fun _ => 0))).toArray) rfl Try.underlying31 Try.zeroValue31 (plApiCask _ Try.underlying31) rfl rfl (by kernel_rfl) ?_
  refine .move rfl rfl ?_
  refine .store (cs' := (cApiCask (ApiCask.mk 0 0 0 0 0 0 0 0 (fun _ => 0) (fun _ => 0)))) Try.sizeOf31 rfl rfl rfl rfl (i := 4) rfl (Nat.le_of_ble_eq_true rfl) rfl (setMany_all (by rfl)) ?_
  refine .assign rfl rfl ?_
  refine .nil ?_
  refine .code ?_
  exact .ret0 Try.results14 (.agg rfl Try.isAgg31 Try.sizeOf31 (i := 4) rfl (vs' := (cApiCask (ApiCask.mk 0 0 0 0 0 0 0 0 (fun _ => 0) (fun _ => 0)))) (by kernel_rfl) rfl (.tmp rfl (.nil))) (i := 5) rfl l_10 rfl
 ·skip
  refine .skip ?_
  refine .code ?_
  refine .seq ?_
  refine .region ?_
  refine .move rfl rfl ?_
  refine .bind (fun i17 e18 => ?_)
  obtain ⟨b19, hb20, hp21⟩ := h15.at e18
  refine .nilCheckR hp21 rfl rfl ?_
  refine .fieldAddr rfl Try.underlying69 rfl Try.sizeOf67 rfl ?_
  refine .bind (fun x22 e23 => ?_)
  refine .loadR (Φ := fun v => ∃ (p24 : Option Nat) (k25 : Unit), v = (.map p24) ∧ RepRef _12.g67 F_9 p24 x22.casks) 1 rfl (Fz.le_refl _) hb20 e23 rfl Try.isAgg67 rfl (fun vs ⟨q0, q1, h, r0⟩ => ⟨_, by subst h; exact rfl, q0, q1, rfl, r0⟩) (fun v hv => ?_)
  obtain ⟨p24, k25, rfl, h26⟩ := hv
  refine .move rfl rfl ?_
  refine .bind (fun i27 e28 => ?_)
  obtain ⟨b29, hb30, hp31⟩ := h26.at e28
  refine .bind (fun x32 e33 => ?_)
  refine .lookupR (key := cask5) (z := none) 3 rfl (Fz.le_refl _) hb30 hp31 e33 rfl Try.underlying67 (.int Try.underlying3) Try.zeroValue60 ⟨none, (), rfl, RepPtr.nil⟩ rfl rfl ?_
  intro v hv
  obtain ⟨p34, k35, rfl, h36⟩ := hv
  refine .assign rfl rfl ?_
  refine .nil ?_
  refine .code ?_
  refine .seq ?_
  refine .seq ?_
  refine .region ?_
  refine .move rfl rfl ?_
  refine .eqlPtrNil h36 rfl Try.underlying60 rfl rfl ?_
  refine .nil ?_
  refine .keep (.cons (k := 6) rfl (.cons (k := 11) rfl (.cons (k := 30) rfl (.nil _)))) ?_
  refine .code ?_
  refine .cond rfl (fun hb37 => ?_) (fun hb37 => ?_)
  ·skip
   refine .seq ?_
   refine .region ?_
   refine .build (cs := (cApiCask (ApiCask.mk 0 0 0 0 0 0 0 0 (fun _ => 0) (fun _ => 0))).toArray) rfl Try.underlying31 Try.zeroValue31 (plApiCask _ Try.underlying31) rfl rfl (by kernel_rfl) ?_
   refine .store (cs' := (cApiCask (ApiCask.mk 0 0 0 0 0 0 0 0 (fun _ => 0) (fun _ => 0)))) Try.sizeOf31 rfl rfl rfl rfl (i := 4) rfl (Nat.le_of_ble_eq_true rfl) rfl (setMany_all (by rfl)) ?_
   refine .assign rfl rfl ?_
   refine .nil ?_
   refine .code ?_
   exact .ret0 Try.results14 (.agg rfl Try.isAgg31 Try.sizeOf31 (i := 4) rfl (vs' := (cApiCask (ApiCask.mk 0 0 0 0 0 0 0 0 (fun _ => 0) (fun _ => 0)))) (by kernel_rfl) rfl (.tmp rfl (.nil))) (i := 5) rfl l_10 rfl
  ·skip
   refine .skip ?_
   refine .code ?_
   refine .seq ?_
   refine .region ?_
   refine .move rfl rfl ?_
   refine .callT [0] rfl Try.call26 rfl rfl rfl rfl (c_cask_cask_shown _ _12 r_8.2.2.2.1 ((mapGet x32 cask5).getD none) p34 k35 h36) ?_
   rintro r_38 F_39 _ e41 l_40 rfl
   refine .pick [0, 0, 0, 0, 0, 0] (rfl : _ = [arena _12.g75 (C75 _12) F_39 r_8.2.2.2.1, arena _12.g69 (C69 _12) F_9 r_8.2.2.2.2.1, arena _12.g73 (C73 _12) F_9 r_8.2.2.2.2.2.1, arena _12.g67 (C67 _12) F_9 r_8.2.2.2.2.2.2, pt b7 (.cells (cApiCask (ApiCask.mk 0 0 0 0 0 0 0 0 (fun _ => 0) (fun _ => 0))).toArray 31), R]) ?_
   refine .store (cs' := (cApiCask r_38)) Try.sizeOf31 rfl rfl rfl rfl (i := 4) rfl (Nat.le_of_ble_eq_true rfl) rfl (setMany_all (by rfl)) ?_
   refine .assign rfl rfl ?_
   refine .nil ?_
   refine .code ?_
   exact .ret0 Try.results14 (.agg rfl Try.isAgg31 Try.sizeOf31 (i := 4) rfl (vs' := (cApiCask r_38)) (by kernel_rfl) rfl (.tmp rfl (.nil))) (i := 5) rfl (Fz.le_trans l_10 l_40) rfl
noncomputable def b_cask_Owned_1 (person5 : Int) (r_15 : (Option Nat) × Int × Int × (List CaskCask) × (List CaskBook) × (List (List (Int × Bool))) × (List (List (Int × (Option Nat))))) (x42 : (Option Nat)) (s40 : (List Int) × (List Int)) : Option ((List Int) × (List Int)) :=
 ((x42).bind fun i56 => (r_15.2.2.2.1[i56]?).bind fun x61 => (if (x61.owner == person5) then ((x42).bind fun i77 => (r_15.2.2.2.1[i77]?).bind fun x82 => (appO s40.1 ([x82.number])).bind fun l_109 => some l_109) else (some s40.1) : Option ((List Int))).bind fun j113 => ((x42).bind fun i119 => (r_15.2.2.2.1[i119]?).bind fun x124 => if (x124.creditor == person5) then (some (person5 != (-1))) else (some false) : Option (Bool)).bind fun j173 => (if j173 then ((x42).bind fun i178 => (r_15.2.2.2.1[i178]?).bind fun x183 => (appO s40.2 ([x183.number])).bind fun l_210 => some l_210) else (some s40.2) : Option ((List Int))).bind fun j214 => some (j113, j214) : Option ((List Int) × (List Int))).bind fun j220 => some (j220.1, j220.2)
noncomputable def m_cask_Owned (l_1 : (List ApiCaskEvent)) (person5 : Int) (day6 : Int) : Option ((List Int) × (List Int) × Int) :=
 (m_cask_play l_1 day6).bind fun r_15 => if (r_15.2.2.1 != 0) then (some ([], [], r_15.2.2.1)) else ((some ()).bind fun _r_32 => (L_cask_book_ordered_1 r_15.2.2.2.2.1 r_15.2.2.2.2.2.2 r_15.1).bind fun l_37 => (forL (b_cask_Owned_1 person5 r_15) l_37 ([], [])).bind fun s230 => some (s230.1, s230.2, 0))
theorem c_cask_Owned (F0 : Fz) (l_1 : (List ApiCaskEvent)) (p2 : Option Addr) (k3 : Nat) (h4 : RepSl 8 (Ex cApiCaskEvent) F0 p2 k3 l_1) (person5 : Int) (day6 : Int) : CT0 Try.prog 17 [(.slice p2 l_1.length k3), (.int .i64 person5), (.int .i64 day6)].toArray F0 (m_cask_Owned l_1 person5 day6) (fun r F v => ∃ (p0 : Option Addr) (k0 : Nat) (p1 : Option Addr) (k1 : Nat), v = .tuple #[(.slice p0 r.1.length k0), (.slice p1 r.2.1.length k1), (.int .i64 r.2.2)] ∧ RepSl 1 (Ex (cInt .i64)) F p0 k0 r.1 ∧ RepSl 1 (Ex (cInt .i64)) F p1 k1 r.2.1) := by
 refine CT0.enterM Try.func17 rfl Try.ntmps17 rfl fun r R => ?_
 unfold m_cask_Owned
 refine .seq ?_
 refine .region ?_
 refine .boxF (cs := [(.int .i64 person5)]) rfl rfl rfl (fun b7 F_8 l_9 hb10 => ?_)
 refine .alloc (cs := [(.slice none 0 0)]) rfl Try.zeroValue36 rfl (fun b11 => ?_)
 refine .ownNil 1 (Ex (cInt .i64)) 3 ?_
 refine .alloc (cs := [(.slice none 0 0)]) rfl Try.zeroValue36 rfl (fun b13 => ?_)
 refine .ownNil 1 (Ex (cInt .i64)) 3 ?_
 refine .assign rfl rfl ?_
 refine .nil ?_
 refine .code ?_
 refine .seq ?_
 refine .region ?_
 refine .move rfl rfl ?_
 refine .move rfl rfl ?_
 refine .callO rfl Try.call24 rfl rfl rfl (c_cask_play _ l_1 p2 k3 (h4.mono l_9) day6) ?_
 rintro r_15 _19 F_16 _ e18 l_17 ⟨p20, k21, rfl, h22⟩
 refine .norm (Sub.refl _) (rfl : _ = [arena _19.g75 (C75 _19) F_16 r_15.2.2.2.1, arena _19.g69 (C69 _19) F_16 r_15.2.2.2.2.1, arena _19.g73 (C73 _19) F_16 r_15.2.2.2.2.2.1, arena _19.g67 (C67 _19) F_16 r_15.2.2.2.2.2.2, ownSl 1 (Ex (cInt .i64)) F_8 3 none 0 ([]), pt b13 (.cells [(.slice none 0 0)].toArray 36), ownSl 1 (Ex (cInt .i64)) F_8 3 none 0 ([]), pt b11 (.cells [(.slice none 0 0)].toArray 36), R]) ?_
 refine .move rfl rfl ?_
 refine .extract rfl rfl rfl ?_
 refine .extract rfl rfl rfl ?_
 refine .extract rfl rfl rfl ?_
 refine .assign rfl rfl ?_
 refine .assign rfl rfl ?_
 refine .assign rfl rfl ?_
 refine .nil ?_
 refine .code ?_
 refine .seq ?_
 refine .seq ?_
 refine .region ?_
 refine .move rfl rfl ?_
 refine .neq rfl rfl rfl ?_
 refine .nil ?_
 refine .code ?_
 refine .cond rfl (fun hb23 => ?_) (fun hb23 => ?_)
 ·skip
  refine .seq ?_
  refine .region ?_
  refine .move rfl rfl ?_
  refine .ownNil 1 (Ex (cInt .i64)) 3 ?_
  refine .store (cs' := [(.slice none 0 0)]) Try.sizeOf36 rfl rfl rfl rfl (i := 8) rfl (Nat.le_of_ble_eq_true rfl) rfl rfl ?_
  refine .ownNil 1 (Ex (cInt .i64)) 3 ?_
  refine .store (cs' := [(.slice none 0 0)]) Try.sizeOf36 rfl rfl rfl rfl (i := 7) rfl (Nat.le_of_ble_eq_true rfl) rfl rfl ?_
  refine .assign rfl rfl ?_
  refine .nil ?_
  refine .code ?_
  refine .freezeSl 1 rfl (Fz.le_refl _) (fun F_26 l_27 h28 => ?_)
  refine .freezeSl 0 rfl l_27 (fun F_29 l_30 h31 => ?_)
  exact .ret0M [] Try.results17 trivial (.cell rfl Try.isAgg36 (i := 7) rfl rfl (.cell rfl Try.isAgg36 (i := 5) rfl rfl (.tmp rfl (.nil)))) (i := 8) rfl (Fz.le_trans l_9 (Fz.le_trans l_17 (Fz.le_trans l_27 l_30))) ⟨none, 0, none, 0, rfl, (h28.mono l_30), h31⟩
 ·skip
  refine .skip ?_
  refine .code ?_
  refine .seq ?_
  refine .seq ?_
  refine .region ?_
  refine .move rfl rfl ?_
  refine .call0 rfl Try.call25 rfl rfl rfl (c_cask_book_ordered _ p20) ?_
  rintro r_32 F_33 _ - l_34 ⟨b35, rfl, hb36⟩
  refine .nil ?_
  refine .code ?_
  refine .block ?_
  refine .keep (.cons (k := 4) rfl (.cons (k := 6) rfl (.cons (k := 7) rfl (.cons (k := 23) rfl (.nil _))))) ?_
  refine .upR 1 (stays69 _19) l_34 rfl ?_
  refine .upR 3 (stays67 _19) l_34 rfl ?_
  refine .bind (fun l_37 e38 => ?_)
  have hit39 : IterH Try.prog F_33 37 [.pointer (some ⟨b35, 0, none⟩)] (fun (x : (Option Nat)) F vs => ∃ (p0 : Option Addr) (k0 : Unit), vs = [(.pointer p0)] ∧ RepPtr _19.g75 F p0 x) (fun F => [arena _19.g69 (C69 _19) F r_15.2.2.2.2.1, arena _19.g67 (C67 _19) F r_15.2.2.2.2.2.2]) l_37 := IterH.mk' Try.call37 (fun σ ly Y y F' le' hy s => ⟨_, c_cask_book_ordered_1 F' _19 σ ly Y y hy r_15.2.2.2.2.1 r_15.2.2.2.2.2.2 r_15.1 b35 p20 k21 (le'.mem _ _ hb36) ((h22.mono l_34).mono le') s, fun r hr => it_cask_book_ordered_1 e38 hr⟩)
  refine .ownUp 6 (Fz.le_trans l_17 l_34) rfl ?_
  refine .ownUp 4 (Fz.le_trans l_17 l_34) rfl ?_
  refine .rangeForH (τ := (List Int) × (List Int)) (fun F => [arena _19.g69 (C69 _19) F r_15.2.2.2.2.1, arena _19.g67 (C67 _19) F r_15.2.2.2.2.2.2]) [1, 2] (fun s40 F_41 hs' => ∃ (p46 : Option Addr) (k47 : Nat) (p49 : Option Addr) (k50 : Nat), hs' = [arena _19.g75 (C75 _19) F_16 r_15.2.2.2.1, arena _19.g73 (C73 _19) F_16 r_15.2.2.2.2.2.1, ownSl 1 (Ex (cInt .i64)) F_41 3 p49 k50 s40.2, pt b13 (.cells [(.slice p49 s40.2.length k50)].toArray 36), ownSl 1 (Ex (cInt .i64)) F_41 3 p46 k47 s40.1, pt b11 (.cells [(.slice p46 s40.1.length k47)].toArray 36), R]) rfl hit39 rfl (fun _ _ _ h => by obtain ⟨_, _, h, _⟩ := h; rw [h]; rfl) rfl ⟨none, 0, none, 0, rfl⟩ ?_ ?_
  ·intro lp Lp F_41 F_45 x42 vs s40 ctl Rp hs' l_43 l_44 hx hI
   obtain ⟨p52, k53, rfl, h54⟩ := hx
   obtain ⟨p46, k47, p49, k50, rfl⟩ := hI
   unfold b_cask_Owned_1
   refine .keep (.cons (k := 4) rfl (.cons (k := 6) rfl (.cons (k := 7) rfl (.cons (k := 23) rfl (.cons (k := 24) rfl (.nil _)))))) ?_
   refine .region ?_
   refine .assign rfl rfl ?_
   refine .nil ?_
   refine GE.begin 0 rfl ?_
   refine .keep (.cons (k := 4) rfl (.cons (k := 6) rfl (.cons (k := 7) rfl (.cons (k := 11) rfl (.nil _))))) ?_
   refine GC.join0 (σ := (List Int) × (List Int)) (fun j220 a w => ∃ (F_221 : Fz) (p223 : Option Addr) (k224 : Nat) (p226 : Option Addr) (k227 : Nat), F_45 ≤ F_221 ∧ Hd 57 [] [] F_221 [pt lp (lbusy Lp), Rp, arena _19.g75 (C75 _19) F_16 r_15.2.2.2.1, arena _19.g73 (C73 _19) F_16 r_15.2.2.2.2.2.1, ownSl 1 (Ex (cInt .i64)) F_221 3 p226 k227 j220.2, pt b13 (.cells [(.slice p226 j220.2.length k227)].toArray 36), ownSl 1 (Ex (cInt .i64)) F_221 3 p223 k224 j220.1, pt b11 (.cells [(.slice p223 j220.1.length k224)].toArray 36), R] a w) (fun sj => ?_) (fun j220 hs0 => GE.ex (fun a w ⟨F_221, p223, k224, p226, k227, l_222, hA⟩ => ⟨_, hA, ?_⟩))
   ·skip
    refine .block ?_
    refine .seq ?_
    refine .seq ?_
    refine .keep (.cons (k := 4) rfl (.cons (k := 6) rfl (.cons (k := 7) rfl (.cons (k := 11) rfl (.nil _))))) ?_
    refine .bind (fun i56 e57 => ?_)
    obtain ⟨b58, hb59, hp60⟩ := h54.at e57
    refine .bind (fun x61 e62 => ?_)
    refine .drawGD 5 0 (fun env55 => [((.pointer p52), fun _ => True), ((.pointer (some ⟨b58, 0, none⟩)), fun _ => True), ((.pointer (some ⟨b58, 0 + 4, none⟩)), fun _ => True), ((.int .i64 x61.owner), fun _ => True), ((.int .i64 person5), fun _ => True)]) (fun L env55 => [pt lp (lbusy Lp), Rp, arena _19.g75 (C75 _19) F_16 r_15.2.2.2.1, arena _19.g73 (C73 _19) F_16 r_15.2.2.2.2.2.1, ownSl 1 (Ex (cInt .i64)) F_41 3 p49 k50 s40.2, pt b13 (.cells [(.slice p49 s40.2.length k50)].toArray 36), ownSl 1 (Ex (cInt .i64)) F_41 3 p46 k47 s40.1, pt b11 (.cells [(.slice p46 s40.1.length k47)].toArray 36), R]) mixedOK (by kernel_rfl) (deepN (k := 5) (n := 6) rfl (allLt6 (p := fun t => 5 ≤ t → ∀ j, j < t → ∃ s, depB _ s t j = true) (fun h => absurd h (by decide)) (fun h => absurd h (by decide)) (fun h => absurd h (by decide)) (fun h => absurd h (by decide)) (fun h => absurd h (by decide)) (fun _ => allLt5 (p := fun j => ∃ s, depB _ s 5 j = true) ⟨4, rfl⟩ ⟨3, rfl⟩ ⟨2, rfl⟩ ⟨1, rfl⟩ ⟨1, rfl⟩))) rfl (fun _ => rfl) (by kernel_rfl) (fun _ => rfl) ?_ (fun env55 F_63 l_64 hphi => ?_)
    ·skip
     refine .cons (fun L env55 F_65 l_66 hL hdn hup hphi => ⟨[(11, (.pointer p52))], fun S hS hV => (.cons (hS _ _ rfl) (Sub.nil _)), ?_⟩) ?_
     ·skip
      refine .move rfl rfl ?_
      exact .finV rfl rfl (Fz.le_refl _)
     refine .cons (fun L env55 F_67 l_68 hL hdn hup hphi => ⟨[(25, (.pointer p52))], fun S hS hV => (.cons (hV 0 25 _ (hdn 1 0 rfl) rfl rfl) (Sub.nil _)), ?_⟩) ?_
     ·skip
      refine .nilCheckR hp60 rfl rfl ?_
      exact .finV rfl rfl (Fz.le_refl _)
     refine .cons (fun L env55 F_69 l_70 hL hdn hup hphi => ⟨[(26, (.pointer (some ⟨b58, 0, none⟩)))], fun S hS hV => (.cons (hV 1 26 _ (hdn 1 1 rfl) rfl rfl) (Sub.nil _)), ?_⟩) ?_
     ·skip
      refine .fieldAddr rfl Try.underlying75 rfl Try.sizeOf3 rfl ?_
      exact .finV rfl rfl (Fz.le_refl _)
     refine .cons (fun L env55 F_71 l_72 hL hdn hup hphi => ⟨[(27, (.pointer (some ⟨b58, 0 + 4, none⟩)))], fun S hS hV => (.cons (hV 2 27 _ (hdn 1 2 rfl) rfl rfl) (Sub.nil _)), ?_⟩) ?_
     ·skip
      refine .loadR (Φ := fun v => v = (.int .i64 x61.owner)) 2 rfl (Fz.le_trans l_34 (Fz.le_trans l_43 (Fz.le_trans l_44 l_72))) (hb59.mono l_72) e62 rfl Try.isAgg3 rfl (fun vs ⟨q0, q1, h, r0⟩ => ⟨_, by subst h; exact rfl, rfl⟩) (fun v hv => ?_)
      subst hv
      exact .finV rfl rfl (Fz.le_refl _)
     refine .cons (fun L env55 F_73 l_74 hL hdn hup hphi => ⟨[(4, (.pointer (some ⟨b7, 0, none⟩)))], fun S hS hV => (.cons (hS _ _ rfl) (Sub.nil _)), ?_⟩) ?_
     ·skip
      refine .loadF rfl Try.isAgg3 rfl ((Fz.le_trans l_17 (Fz.le_trans l_34 (Fz.le_trans l_43 (Fz.le_trans l_44 l_74)))).mem _ _ hb10) rfl ?_
      exact .finV rfl rfl (Fz.le_refl _)
     exact .nil
    refine .norm (S' := [(4, (.pointer (some ⟨b7, 0, none⟩))), (6, (.pointer (some ⟨b11, 0, none⟩))), (7, (.pointer (some ⟨b13, 0, none⟩))), (11, (.pointer p52)), (25, (.pointer p52)), (26, (.pointer (some ⟨b58, 0, none⟩))), (27, (.pointer (some ⟨b58, 0 + 4, none⟩))), (28, (.int .i64 x61.owner)), (29, (.int .i64 person5))]) (.cons (k := 4) rfl (.cons (k := 6) rfl (.cons (k := 7) rfl (.cons (k := 11) rfl (.cons (k := 25) rfl (.cons (k := 26) rfl (.cons (k := 27) rfl (.cons (k := 28) rfl (.cons (k := 29) rfl (.nil _)))))))))) (rfl : _ = [pt lp (lbusy Lp), Rp, arena _19.g75 (C75 _19) F_16 r_15.2.2.2.1, arena _19.g73 (C73 _19) F_16 r_15.2.2.2.2.2.1, ownSl 1 (Ex (cInt .i64)) F_41 3 p49 k50 s40.2, pt b13 (.cells [(.slice p49 s40.2.length k50)].toArray 36), ownSl 1 (Ex (cInt .i64)) F_41 3 p46 k47 s40.1, pt b11 (.cells [(.slice p46 s40.1.length k47)].toArray 36), R]) ?_
    refine .eql rfl rfl rfl ?_
    refine .nil ?_
    refine .code ?_
    refine .keep (.cons (k := 4) rfl (.cons (k := 6) rfl (.cons (k := 7) rfl (.cons (k := 11) rfl (.cons (k := 30) rfl (.nil _)))))) ?_
    refine GC.join0 (σ := (List Int)) (fun j113 a w => ∃ (F_114 : Fz) (p116 : Option Addr) (k117 : Nat), F_63 ≤ F_114 ∧ Hd 57 [] [(4, (.pointer (some ⟨b7, 0, none⟩))), (7, (.pointer (some ⟨b13, 0, none⟩))), (11, (.pointer p52))] F_114 [pt lp (lbusy Lp), Rp, arena _19.g75 (C75 _19) F_16 r_15.2.2.2.1, arena _19.g73 (C73 _19) F_16 r_15.2.2.2.2.2.1, ownSl 1 (Ex (cInt .i64)) F_41 3 p49 k50 s40.2, pt b13 (.cells [(.slice p49 s40.2.length k50)].toArray 36), ownSl 1 (Ex (cInt .i64)) F_114 3 p116 k117 j113, pt b11 (.cells [(.slice p116 j113.length k117)].toArray 36), R] a w) (fun sj => ?_) (fun j113 hs0 => GE.ex (fun a w ⟨F_114, p116, k117, l_115, hA⟩ => ⟨_, hA, ?_⟩))
    ·skip
     refine .cond rfl (fun hb75 => ?_) (fun hb75 => ?_)
     ·skip
      refine .keep (.cons (k := 4) rfl (.cons (k := 6) rfl (.cons (k := 7) rfl (.cons (k := 11) rfl (.nil _))))) ?_
      refine .bind (fun i77 e78 => ?_)
      obtain ⟨b79, hb80, hp81⟩ := (h54.mono l_64).at e78
      refine .bind (fun x82 e83 => ?_)
      refine .drawGD 6 0 (fun env76 => [((.slice p46 s40.1.length k47), fun _ => True), ((.pointer p52), fun _ => True), ((.pointer (some ⟨b79, 0, none⟩)), fun _ => True), ((.pointer (some ⟨b79, 0 + 0, none⟩)), fun _ => True), ((.int .i64 x82.number), fun _ => True), ((.slice (some ⟨env76.n 50, 0, none⟩) ([x82.number]).length 1), fun G => RepSl 1 (Ex (cInt .i64)) G (some ⟨env76.n 50, 0, none⟩) 1 ([x82.number]))]) (fun L env76 => [pt lp (lbusy Lp), Rp, arena _19.g75 (C75 _19) F_16 r_15.2.2.2.1, arena _19.g73 (C73 _19) F_16 r_15.2.2.2.2.2.1, ownSl 1 (Ex (cInt .i64)) F_41 3 p49 k50 s40.2, pt b13 (.cells [(.slice p49 s40.2.length k50)].toArray 36), ownSl 1 (Ex (cInt .i64)) F_41 3 p46 k47 s40.1, pt b11 (.cells [(.slice p46 s40.1.length k47)].toArray 36), R]) mixedOK (by kernel_rfl) (deepN (k := 6) (n := 8) rfl (allLt8 (p := fun t => 6 ≤ t → ∀ j, j < t → ∃ s, depB _ s t j = true) (fun h => absurd h (by decide)) (fun h => absurd h (by decide)) (fun h => absurd h (by decide)) (fun h => absurd h (by decide)) (fun h => absurd h (by decide)) (fun h => absurd h (by decide)) (fun _ => allLt6 (p := fun j => ∃ s, depB _ s 6 j = true) ⟨1, rfl⟩ ⟨5, rfl⟩ ⟨4, rfl⟩ ⟨3, rfl⟩ ⟨2, rfl⟩ ⟨1, rfl⟩) (fun _ => allLt7 (p := fun j => ∃ s, depB _ s 7 j = true) ⟨1, rfl⟩ ⟨1, rfl⟩ ⟨1, rfl⟩ ⟨1, rfl⟩ ⟨1, rfl⟩ ⟨1, rfl⟩ ⟨1, rfl⟩))) rfl (fun _ => rfl) (by kernel_rfl) (fun _ => rfl) ?_ (fun env76 F_90 l_91 hphi => ?_)
      ·skip
       refine .cons (fun L env76 F_92 l_93 hL hdn hup hphi => ⟨[(6, (.pointer (some ⟨b11, 0, none⟩)))], fun S hS hV => (.cons (hS _ _ rfl) (Sub.nil _)), ?_⟩) ?_
       ·skip
        refine .loadO rfl Try.isAgg36 rfl (i := 7) rfl rfl ?_
        exact .finV rfl rfl (Fz.le_refl _)
       refine .cons (fun L env76 F_94 l_95 hL hdn hup hphi => ⟨[(11, (.pointer p52))], fun S hS hV => (.cons (hS _ _ rfl) (Sub.nil _)), ?_⟩) ?_
       ·skip
        refine .move rfl rfl ?_
        exact .finV rfl rfl (Fz.le_refl _)
       refine .cons (fun L env76 F_96 l_97 hL hdn hup hphi => ⟨[(32, (.pointer p52))], fun S hS hV => (.cons (hV 1 32 _ (hdn 1 1 rfl) rfl rfl) (Sub.nil _)), ?_⟩) ?_
       ·skip
        refine .nilCheckR hp81 rfl rfl ?_
        exact .finV rfl rfl (Fz.le_refl _)
       refine .cons (fun L env76 F_98 l_99 hL hdn hup hphi => ⟨[(33, (.pointer (some ⟨b79, 0, none⟩)))], fun S hS hV => (.cons (hV 2 33 _ (hdn 1 2 rfl) rfl rfl) (Sub.nil _)), ?_⟩) ?_
       ·skip
        refine .fieldAddr rfl Try.underlying75 rfl Try.sizeOf3 rfl ?_
        exact .finV rfl rfl (Fz.le_refl _)
       refine .cons (fun L env76 F_100 l_101 hL hdn hup hphi => ⟨[(34, (.pointer (some ⟨b79, 0 + 0, none⟩)))], fun S hS hV => (.cons (hV 3 34 _ (hdn 1 3 rfl) rfl rfl) (Sub.nil _)), ?_⟩) ?_
       ·skip
        refine .loadR (Φ := fun v => v = (.int .i64 x82.number)) 2 rfl (Fz.le_trans l_34 (Fz.le_trans l_43 (Fz.le_trans l_44 (Fz.le_trans l_64 l_101)))) (hb80.mono l_101) e83 rfl Try.isAgg3 rfl (fun vs ⟨q0, q1, h, r0⟩ => ⟨_, by subst h; exact rfl, rfl⟩) (fun v hv => ?_)
        subst hv
        exact .finV rfl rfl (Fz.le_refl _)
       refine .cons (fun L env76 F_102 l_103 hL hdn hup hphi => ⟨[(35, (.int .i64 x82.number))], fun S hS hV => (.cons (hV 4 35 _ (hdn 1 4 rfl) rfl rfl) (Sub.nil _)), ?_⟩) ?_
       ·skip
        refine .sliceLit (cs := [.int .i64 x82.number]) (zc := [.int .i64 0]) rfl Try.underlying36 Try.sizeOf3 Try.zeroValue3 rfl rfl rfl (by kernel_rfl) (by kernel_rfl) (fun b104 F_105 l_106 hb107 => ?_)
        have h108 : RepSl 1 (Ex (cInt .i64)) F_105 (some ⟨b104, 0, none⟩) 1 ([x82.number]) := RepSl.ofRow hb107 (.cons ok_t3.mono rfl .nil) rfl rfl
        exact .finQ ({ env76 with a := env76.a, n := (updN env76.n 50 b104), c := env76.c, o := env76.o }) [true, true, true, true, true, false] rfl (by kernel_rfl) rfl rfl l_106 (fun _ le => h108.mono le) (cons_eq rfl (cons_eq rfl (cons_eq rfl (cons_eq rfl (cons_eq rfl (cons_eq rfl (cons_eq rfl (cons_eq rfl (cons_eq rfl rfl)))))))))
       exact .nil
      have h89 := hphi 5 _ rfl
      refine .norm (S' := [(4, (.pointer (some ⟨b7, 0, none⟩))), (6, (.pointer (some ⟨b11, 0, none⟩))), (7, (.pointer (some ⟨b13, 0, none⟩))), (11, (.pointer p52)), (31, (.slice p46 s40.1.length k47)), (32, (.pointer p52)), (33, (.pointer (some ⟨b79, 0, none⟩))), (34, (.pointer (some ⟨b79, 0 + 0, none⟩))), (35, (.int .i64 x82.number)), (36, (.slice (some ⟨env76.n 50, 0, none⟩) ([x82.number]).length 1))]) (.cons (k := 4) rfl (.cons (k := 6) rfl (.cons (k := 7) rfl (.cons (k := 11) rfl (.cons (k := 31) rfl (.cons (k := 32) rfl (.cons (k := 33) rfl (.cons (k := 34) rfl (.cons (k := 35) rfl (.cons (k := 36) rfl (.nil _))))))))))) (rfl : _ = [pt lp (lbusy Lp), Rp, arena _19.g75 (C75 _19) F_16 r_15.2.2.2.1, arena _19.g73 (C73 _19) F_16 r_15.2.2.2.2.2.1, ownSl 1 (Ex (cInt .i64)) F_41 3 p49 k50 s40.2, pt b13 (.cells [(.slice p49 s40.2.length k50)].toArray 36), ownSl 1 (Ex (cInt .i64)) F_41 3 p46 k47 s40.1, pt b11 (.cells [(.slice p46 s40.1.length k47)].toArray 36), R]) ?_
      refine .append 6 ok_t3 (Fz.le_trans l_44 (Fz.le_trans l_64 l_91)) rfl Try.underlying36 Try.underlying36 rfl rfl rfl h89 rfl rfl (fun l_109 p110 k111 e112 => ?_)
      refine .store (cs' := [(.slice p110 l_109.length k111)]) Try.sizeOf36 rfl rfl rfl rfl (i := 7) rfl (Nat.le_of_ble_eq_true rfl) rfl rfl ?_
      refine .nil ?_
      exact .nil fun e a w h => by cases e; exact ⟨rfl, ⟨F_90, p110, k111, l_91, h.1.sub (.cons (k := 4) rfl (.cons (k := 7) rfl (.cons (k := 11) rfl (.nil _)))), h.2⟩⟩
     ·skip
      refine .skip ?_
      refine .ownUp 6 (Fz.le_trans l_44 l_64) rfl ?_
      exact .nil fun e a w h => by cases e; exact ⟨rfl, ⟨F_63, p46, k47, (Fz.le_refl _), h.1.sub (.cons (k := 4) rfl (.cons (k := 7) rfl (.cons (k := 11) rfl (.nil _)))), h.2⟩⟩
    refine .code ?_
    refine .seq ?_
    refine .keep (.cons (k := 4) rfl (.cons (k := 7) rfl (.cons (k := 11) rfl (.nil _)))) ?_
    refine GC.join0 (σ := Bool) (fun j173 a w => ∃ (F_174 : Fz), F_114 ≤ F_174 ∧ Hd 57 [] [(7, (.pointer (some ⟨b13, 0, none⟩))), (11, (.pointer p52)), (47, (.bool j173))] F_174 [pt lp (lbusy Lp), Rp, arena _19.g75 (C75 _19) F_16 r_15.2.2.2.1, arena _19.g73 (C73 _19) F_16 r_15.2.2.2.2.2.1, ownSl 1 (Ex (cInt .i64)) F_41 3 p49 k50 s40.2, pt b13 (.cells [(.slice p49 s40.2.length k50)].toArray 36), ownSl 1 (Ex (cInt .i64)) F_114 3 p116 k117 j113, pt b11 (.cells [(.slice p116 j113.length k117)].toArray 36), R] a w) (fun sj => ?_) (fun j173 hs0 => GE.ex (fun a w ⟨F_174, l_175, hA⟩ => ⟨_, hA, ?_⟩))
    ·skip
     refine .bind (fun i119 e120 => ?_)
     obtain ⟨b121, hb122, hp123⟩ := (h54.mono (Fz.le_trans l_64 l_115)).at e120
     refine .bind (fun x124 e125 => ?_)
     refine .ite (fun hb126 => ?_) (fun hb126 => ?_)
     ·skip
      refine .draw ⟨1000000, 0, [], 0⟩ [(38, (.pointer p52)), (39, (.pointer (some ⟨b121, 0, none⟩))), (40, (.pointer (some ⟨b121, 0 + 5, none⟩))), (41, (.int .i64 x124.creditor)), (42, (.int .i64 person5)), (43, (.bool (x124.creditor == person5))), (44, (.bool (x124.creditor == person5))), (45, (.int .i64 person5)), (46, (.bool (person5 != (-1)))), (47, (.bool (person5 != (-1))))] mixedOK (by kernel_rfl) (by kernel_rfl) rfl (by kernel_rfl) ?_ (fun F_127 b128 l_129 => ?_)
      ·skip
       refine .cons (.mk 38 (.pointer p52) [(11, (.pointer p52))] rfl rfl rfl rfl (fun S hS hd => (.cons (hS _ _ rfl) (Sub.nil _))) (fun F_130 X l_131 => ?_)) ?_
       ·skip
        refine .move rfl rfl ?_
        exact .fin1 (Fz.le_refl _)
       refine .cons (.mk 39 (.pointer (some ⟨b121, 0, none⟩)) [(38, (.pointer p52))] rfl rfl rfl rfl (fun S hS hd => (.cons (hd.1 rfl rfl _ _ rfl) (Sub.nil _))) (fun F_132 X l_133 => ?_)) ?_
       ·skip
        refine .nilCheckR hp123 rfl rfl ?_
        exact .fin1 (Fz.le_refl _)
       refine .cons (.mk 40 (.pointer (some ⟨b121, 0 + 5, none⟩)) [(39, (.pointer (some ⟨b121, 0, none⟩)))] rfl rfl rfl rfl (fun S hS hd => (.cons (hd.1 rfl rfl _ _ rfl) (Sub.nil _))) (fun F_134 X l_135 => ?_)) ?_
       ·skip
        refine .fieldAddr rfl Try.underlying75 rfl Try.sizeOf3 rfl ?_
        exact .fin1 (Fz.le_refl _)
       refine .cons (.mk 41 (.int .i64 x124.creditor) [(40, (.pointer (some ⟨b121, 0 + 5, none⟩)))] rfl rfl rfl rfl (fun S hS hd => (.cons (hd.1 rfl rfl _ _ rfl) (Sub.nil _))) (fun F_136 X l_137 => ?_)) ?_
       ·skip
        refine .loadR (Φ := fun v => v = (.int .i64 x124.creditor)) 2 rfl (Fz.le_trans l_34 (Fz.le_trans l_43 (Fz.le_trans l_44 (Fz.le_trans l_64 (Fz.le_trans l_115 l_137))))) (hb122.mono l_137) e125 rfl Try.isAgg3 rfl (fun vs ⟨q0, q1, h, r0⟩ => ⟨_, by subst h; exact rfl, rfl⟩) (fun v hv => ?_)
        subst hv
        exact .fin1 (Fz.le_refl _)
       refine .cons (.mk 42 (.int .i64 person5) [(4, (.pointer (some ⟨b7, 0, none⟩)))] rfl rfl rfl rfl (fun S hS hd => (.cons (hS _ _ rfl) (Sub.nil _))) (fun F_138 X l_139 => ?_)) ?_
       ·skip
        refine .loadF rfl Try.isAgg3 rfl ((Fz.le_trans l_17 (Fz.le_trans l_34 (Fz.le_trans l_43 (Fz.le_trans l_44 (Fz.le_trans l_64 (Fz.le_trans l_115 l_139)))))).mem _ _ hb10) rfl ?_
        exact .fin1 (Fz.le_refl _)
       refine .cons (.mk 43 (.bool (x124.creditor == person5)) [(41, (.int .i64 x124.creditor)), (42, (.int .i64 person5))] rfl rfl rfl rfl (fun S hS hd => (.cons (hd.1 rfl rfl _ _ rfl) (.cons (hd.2.1 rfl rfl _ _ rfl) (Sub.nil _)))) (fun F_140 X l_141 => ?_)) ?_
       ·skip
        refine .eql rfl rfl rfl ?_
        exact .fin1 (Fz.le_refl _)
       refine .cons (.mk 44 (.bool (x124.creditor == person5)) [(43, (.bool (x124.creditor == person5)))] rfl rfl rfl rfl (fun S hS hd => (.cons (hd.1 rfl rfl _ _ rfl) (Sub.nil _))) (fun F_142 X l_143 => ?_)) ?_
       ·skip
        refine .move rfl rfl ?_
        exact .fin1 (Fz.le_refl _)
       refine .cons (.mk 45 (.int .i64 person5) [(4, (.pointer (some ⟨b7, 0, none⟩))), (44, (.bool (x124.creditor == person5)))] rfl rfl rfl rfl (fun S hS hd => (.cons (hS _ _ rfl) (.cons (hd.1 rfl rfl _ _ rfl) (Sub.nil _)))) (fun F_144 X l_145 => ?_)) ?_
       ·skip
        refine .onH hb126 rfl rfl ?_
        refine .loadF rfl Try.isAgg3 rfl ((Fz.le_trans l_17 (Fz.le_trans l_34 (Fz.le_trans l_43 (Fz.le_trans l_44 (Fz.le_trans l_64 (Fz.le_trans l_115 l_145)))))).mem _ _ hb10) rfl ?_
        exact .fin1 (Fz.le_refl _)
       refine .cons (.mk 46 (.bool (person5 != (-1))) [(44, (.bool (x124.creditor == person5))), (45, (.int .i64 person5))] rfl rfl rfl rfl (fun S hS hd => (.cons (hd.2.1 rfl rfl _ _ rfl) (.cons (hd.1 rfl rfl _ _ rfl) (Sub.nil _)))) (fun F_146 X l_147 => ?_)) ?_
       ·skip
        refine .onH hb126 rfl rfl ?_
        refine .neq rfl rfl rfl ?_
        exact .fin1 (Fz.le_refl _)
       refine .cons (.mk 47 (.bool (person5 != (-1))) [(44, (.bool (x124.creditor == person5))), (46, (.bool (person5 != (-1))))] rfl rfl rfl rfl (fun S hS hd => (.cons (hd.1 rfl rfl _ _ rfl) (.cons (hd.2.1 rfl rfl _ _ rfl) (Sub.nil _)))) (fun F_148 X l_149 => ?_)) ?_
       ·skip
        refine .pickTH hb126  rfl rfl rfl ?_
        exact .fin1 (Fz.le_refl _)
       exact .nil
      refine .nil ?_
      exact .nil fun e a w h => by cases e; exact ⟨rfl, ⟨F_127, l_129, h.1.sub (.cons (k := 7) rfl (.cons (k := 11) rfl (.cons (k := 47) rfl (.nil _)))), h.2⟩⟩
     ·skip
      refine .draw ⟨1000000, 0, [], 0⟩ [(38, (.pointer p52)), (39, (.pointer (some ⟨b121, 0, none⟩))), (40, (.pointer (some ⟨b121, 0 + 5, none⟩))), (41, (.int .i64 x124.creditor)), (42, (.int .i64 person5)), (43, (.bool (x124.creditor == person5))), (44, (.bool (x124.creditor == person5))), (45, undef), (46, undef), (47, (.bool false))] mixedOK (by kernel_rfl) (by kernel_rfl) rfl (by kernel_rfl) ?_ (fun F_150 b151 l_152 => ?_)
      ·skip
       refine .cons (.mk 38 (.pointer p52) [(11, (.pointer p52))] rfl rfl rfl rfl (fun S hS hd => (.cons (hS _ _ rfl) (Sub.nil _))) (fun F_153 X l_154 => ?_)) ?_
       ·skip
        refine .move rfl rfl ?_
        exact .fin1 (Fz.le_refl _)
       refine .cons (.mk 39 (.pointer (some ⟨b121, 0, none⟩)) [(38, (.pointer p52))] rfl rfl rfl rfl (fun S hS hd => (.cons (hd.1 rfl rfl _ _ rfl) (Sub.nil _))) (fun F_155 X l_156 => ?_)) ?_
       ·skip
        refine .nilCheckR hp123 rfl rfl ?_
        exact .fin1 (Fz.le_refl _)
       refine .cons (.mk 40 (.pointer (some ⟨b121, 0 + 5, none⟩)) [(39, (.pointer (some ⟨b121, 0, none⟩)))] rfl rfl rfl rfl (fun S hS hd => (.cons (hd.1 rfl rfl _ _ rfl) (Sub.nil _))) (fun F_157 X l_158 => ?_)) ?_
       ·skip
        refine .fieldAddr rfl Try.underlying75 rfl Try.sizeOf3 rfl ?_
        exact .fin1 (Fz.le_refl _)
       refine .cons (.mk 41 (.int .i64 x124.creditor) [(40, (.pointer (some ⟨b121, 0 + 5, none⟩)))] rfl rfl rfl rfl (fun S hS hd => (.cons (hd.1 rfl rfl _ _ rfl) (Sub.nil _))) (fun F_159 X l_160 => ?_)) ?_
       ·skip
        refine .loadR (Φ := fun v => v = (.int .i64 x124.creditor)) 2 rfl (Fz.le_trans l_34 (Fz.le_trans l_43 (Fz.le_trans l_44 (Fz.le_trans l_64 (Fz.le_trans l_115 l_160))))) (hb122.mono l_160) e125 rfl Try.isAgg3 rfl (fun vs ⟨q0, q1, h, r0⟩ => ⟨_, by subst h; exact rfl, rfl⟩) (fun v hv => ?_)
        subst hv
        exact .fin1 (Fz.le_refl _)
       refine .cons (.mk 42 (.int .i64 person5) [(4, (.pointer (some ⟨b7, 0, none⟩)))] rfl rfl rfl rfl (fun S hS hd => (.cons (hS _ _ rfl) (Sub.nil _))) (fun F_161 X l_162 => ?_)) ?_
       ·skip
        refine .loadF rfl Try.isAgg3 rfl ((Fz.le_trans l_17 (Fz.le_trans l_34 (Fz.le_trans l_43 (Fz.le_trans l_44 (Fz.le_trans l_64 (Fz.le_trans l_115 l_162)))))).mem _ _ hb10) rfl ?_
        exact .fin1 (Fz.le_refl _)
       refine .cons (.mk 43 (.bool (x124.creditor == person5)) [(41, (.int .i64 x124.creditor)), (42, (.int .i64 person5))] rfl rfl rfl rfl (fun S hS hd => (.cons (hd.1 rfl rfl _ _ rfl) (.cons (hd.2.1 rfl rfl _ _ rfl) (Sub.nil _)))) (fun F_163 X l_164 => ?_)) ?_
       ·skip
        refine .eql rfl rfl rfl ?_
        exact .fin1 (Fz.le_refl _)
       refine .cons (.mk 44 (.bool (x124.creditor == person5)) [(43, (.bool (x124.creditor == person5)))] rfl rfl rfl rfl (fun S hS hd => (.cons (hd.1 rfl rfl _ _ rfl) (Sub.nil _))) (fun F_165 X l_166 => ?_)) ?_
       ·skip
        refine .move rfl rfl ?_
        exact .fin1 (Fz.le_refl _)
       refine .cons (.mk 45 undef [(4, (.pointer (some ⟨b7, 0, none⟩))), (44, (.bool (x124.creditor == person5)))] rfl rfl rfl rfl (fun S hS hd => (.cons (hS _ _ rfl) (.cons (hd.1 rfl rfl _ _ rfl) (Sub.nil _)))) (fun F_167 X l_168 => ?_)) ?_
       ·skip
        refine .offH hb126 rfl rfl rfl ?_
        exact .fin1 (Fz.le_refl _)
       refine .cons (.mk 46 undef [(44, (.bool (x124.creditor == person5))), (45, undef)] rfl rfl rfl rfl (fun S hS hd => (.cons (hd.2.1 rfl rfl _ _ rfl) (.cons (hd.1 rfl rfl _ _ rfl) (Sub.nil _)))) (fun F_169 X l_170 => ?_)) ?_
       ·skip
        refine .offH hb126 rfl rfl rfl ?_
        exact .fin1 (Fz.le_refl _)
       refine .cons (.mk 47 (.bool false) [(44, (.bool (x124.creditor == person5))), (46, undef)] rfl rfl rfl rfl (fun S hS hd => (.cons (hd.1 rfl rfl _ _ rfl) (.cons (hd.2.1 rfl rfl _ _ rfl) (Sub.nil _)))) (fun F_171 X l_172 => ?_)) ?_
       ·skip
        refine .pickFH hb126  rfl rfl rfl ?_
        exact .fin1 (Fz.le_refl _)
       exact .nil
      refine .nil ?_
      exact .nil fun e a w h => by cases e; exact ⟨rfl, ⟨F_150, l_152, h.1.sub (.cons (k := 7) rfl (.cons (k := 11) rfl (.cons (k := 47) rfl (.nil _)))), h.2⟩⟩
    refine .code ?_
    refine .keep (.cons (k := 7) rfl (.cons (k := 11) rfl (.cons (k := 47) rfl (.nil _)))) ?_
    refine GC.join0 (σ := (List Int)) (fun j214 a w => ∃ (F_215 : Fz) (p217 : Option Addr) (k218 : Nat), F_174 ≤ F_215 ∧ Hd 57 [] [] F_215 [pt lp (lbusy Lp), Rp, arena _19.g75 (C75 _19) F_16 r_15.2.2.2.1, arena _19.g73 (C73 _19) F_16 r_15.2.2.2.2.2.1, ownSl 1 (Ex (cInt .i64)) F_215 3 p217 k218 j214, pt b13 (.cells [(.slice p217 j214.length k218)].toArray 36), ownSl 1 (Ex (cInt .i64)) F_114 3 p116 k117 j113, pt b11 (.cells [(.slice p116 j113.length k117)].toArray 36), R] a w) (fun sj => ?_) (fun j214 hs0 => GE.ex (fun a w ⟨F_215, p217, k218, l_216, hA⟩ => ⟨_, hA, ?_⟩))
    ·skip
     refine .cond rfl (fun hb176 => ?_) (fun hb176 => ?_)
     ·skip
      refine .keep (.cons (k := 7) rfl (.cons (k := 11) rfl (.nil _))) ?_
      refine .bind (fun i178 e179 => ?_)
      obtain ⟨b180, hb181, hp182⟩ := (h54.mono (Fz.le_trans l_64 (Fz.le_trans l_115 l_175))).at e179
      refine .bind (fun x183 e184 => ?_)
      refine .drawGD 6 0 (fun env177 => [((.slice p49 s40.2.length k50), fun _ => True), ((.pointer p52), fun _ => True), ((.pointer (some ⟨b180, 0, none⟩)), fun _ => True), ((.pointer (some ⟨b180, 0 + 0, none⟩)), fun _ => True), ((.int .i64 x183.number), fun _ => True), ((.slice (some ⟨env177.n 50, 0, none⟩) ([x183.number]).length 1), fun G => RepSl 1 (Ex (cInt .i64)) G (some ⟨env177.n 50, 0, none⟩) 1 ([x183.number]))]) (fun L env177 => [pt lp (lbusy Lp), Rp, arena _19.g75 (C75 _19) F_16 r_15.2.2.2.1, arena _19.g73 (C73 _19) F_16 r_15.2.2.2.2.2.1, ownSl 1 (Ex (cInt .i64)) F_41 3 p49 k50 s40.2, pt b13 (.cells [(.slice p49 s40.2.length k50)].toArray 36), ownSl 1 (Ex (cInt .i64)) F_114 3 p116 k117 j113, pt b11 (.cells [(.slice p116 j113.length k117)].toArray 36), R]) mixedOK (by kernel_rfl) (deepN (k := 6) (n := 8) rfl (allLt8 (p := fun t => 6 ≤ t → ∀ j, j < t → ∃ s, depB _ s t j = true) (fun h => absurd h (by decide)) (fun h => absurd h (by decide)) (fun h => absurd h (by decide)) (fun h => absurd h (by decide)) (fun h => absurd h (by decide)) (fun h => absurd h (by decide)) (fun _ => allLt6 (p := fun j => ∃ s, depB _ s 6 j = true) ⟨1, rfl⟩ ⟨5, rfl⟩ ⟨4, rfl⟩ ⟨3, rfl⟩ ⟨2, rfl⟩ ⟨1, rfl⟩) (fun _ => allLt7 (p := fun j => ∃ s, depB _ s 7 j = true) ⟨1, rfl⟩ ⟨1, rfl⟩ ⟨1, rfl⟩ ⟨1, rfl⟩ ⟨1, rfl⟩ ⟨1, rfl⟩ ⟨1, rfl⟩))) rfl (fun _ => rfl) (by kernel_rfl) (fun _ => rfl) ?_ (fun env177 F_191 l_192 hphi => ?_)
      ·skip
       refine .cons (fun L env177 F_193 l_194 hL hdn hup hphi => ⟨[(7, (.pointer (some ⟨b13, 0, none⟩)))], fun S hS hV => (.cons (hS _ _ rfl) (Sub.nil _)), ?_⟩) ?_
       ·skip
        refine .loadO rfl Try.isAgg36 rfl (i := 5) rfl rfl ?_
        exact .finV rfl rfl (Fz.le_refl _)
       refine .cons (fun L env177 F_195 l_196 hL hdn hup hphi => ⟨[(11, (.pointer p52))], fun S hS hV => (.cons (hS _ _ rfl) (Sub.nil _)), ?_⟩) ?_
       ·skip
        refine .move rfl rfl ?_
        exact .finV rfl rfl (Fz.le_refl _)
       refine .cons (fun L env177 F_197 l_198 hL hdn hup hphi => ⟨[(49, (.pointer p52))], fun S hS hV => (.cons (hV 1 49 _ (hdn 1 1 rfl) rfl rfl) (Sub.nil _)), ?_⟩) ?_
       ·skip
        refine .nilCheckR hp182 rfl rfl ?_
        exact .finV rfl rfl (Fz.le_refl _)
       refine .cons (fun L env177 F_199 l_200 hL hdn hup hphi => ⟨[(50, (.pointer (some ⟨b180, 0, none⟩)))], fun S hS hV => (.cons (hV 2 50 _ (hdn 1 2 rfl) rfl rfl) (Sub.nil _)), ?_⟩) ?_
       ·skip
        refine .fieldAddr rfl Try.underlying75 rfl Try.sizeOf3 rfl ?_
        exact .finV rfl rfl (Fz.le_refl _)
       refine .cons (fun L env177 F_201 l_202 hL hdn hup hphi => ⟨[(51, (.pointer (some ⟨b180, 0 + 0, none⟩)))], fun S hS hV => (.cons (hV 3 51 _ (hdn 1 3 rfl) rfl rfl) (Sub.nil _)), ?_⟩) ?_
       ·skip
        refine .loadR (Φ := fun v => v = (.int .i64 x183.number)) 2 rfl (Fz.le_trans l_34 (Fz.le_trans l_43 (Fz.le_trans l_44 (Fz.le_trans l_64 (Fz.le_trans l_115 (Fz.le_trans l_175 l_202)))))) (hb181.mono l_202) e184 rfl Try.isAgg3 rfl (fun vs ⟨q0, q1, h, r0⟩ => ⟨_, by subst h; exact rfl, rfl⟩) (fun v hv => ?_)
        subst hv
        exact .finV rfl rfl (Fz.le_refl _)
       refine .cons (fun L env177 F_203 l_204 hL hdn hup hphi => ⟨[(52, (.int .i64 x183.number))], fun S hS hV => (.cons (hV 4 52 _ (hdn 1 4 rfl) rfl rfl) (Sub.nil _)), ?_⟩) ?_
       ·skip
        refine .sliceLit (cs := [.int .i64 x183.number]) (zc := [.int .i64 0]) rfl Try.underlying36 Try.sizeOf3 Try.zeroValue3 rfl rfl rfl (by kernel_rfl) (by kernel_rfl) (fun b205 F_206 l_207 hb208 => ?_)
        have h209 : RepSl 1 (Ex (cInt .i64)) F_206 (some ⟨b205, 0, none⟩) 1 ([x183.number]) := RepSl.ofRow hb208 (.cons ok_t3.mono rfl .nil) rfl rfl
        exact .finQ ({ env177 with a := env177.a, n := (updN env177.n 50 b205), c := env177.c, o := env177.o }) [true, true, true, true, true, false] rfl (by kernel_rfl) rfl rfl l_207 (fun _ le => h209.mono le) (cons_eq rfl (cons_eq rfl (cons_eq rfl (cons_eq rfl (cons_eq rfl (cons_eq rfl (cons_eq rfl (cons_eq rfl (cons_eq rfl rfl)))))))))
       exact .nil
      have h190 := hphi 5 _ rfl
      refine .norm (S' := [(7, (.pointer (some ⟨b13, 0, none⟩))), (11, (.pointer p52)), (48, (.slice p49 s40.2.length k50)), (49, (.pointer p52)), (50, (.pointer (some ⟨b180, 0, none⟩))), (51, (.pointer (some ⟨b180, 0 + 0, none⟩))), (52, (.int .i64 x183.number)), (53, (.slice (some ⟨env177.n 50, 0, none⟩) ([x183.number]).length 1))]) (.cons (k := 7) rfl (.cons (k := 11) rfl (.cons (k := 48) rfl (.cons (k := 49) rfl (.cons (k := 50) rfl (.cons (k := 51) rfl (.cons (k := 52) rfl (.cons (k := 53) rfl (.nil _))))))))) (rfl : _ = [pt lp (lbusy Lp), Rp, arena _19.g75 (C75 _19) F_16 r_15.2.2.2.1, arena _19.g73 (C73 _19) F_16 r_15.2.2.2.2.2.1, ownSl 1 (Ex (cInt .i64)) F_41 3 p49 k50 s40.2, pt b13 (.cells [(.slice p49 s40.2.length k50)].toArray 36), ownSl 1 (Ex (cInt .i64)) F_114 3 p116 k117 j113, pt b11 (.cells [(.slice p116 j113.length k117)].toArray 36), R]) ?_
      refine .append 4 ok_t3 (Fz.le_trans l_44 (Fz.le_trans l_64 (Fz.le_trans l_115 (Fz.le_trans l_175 l_192)))) rfl Try.underlying36 Try.underlying36 rfl rfl rfl h190 rfl rfl (fun l_210 p211 k212 e213 => ?_)
      refine .store (cs' := [(.slice p211 l_210.length k212)]) Try.sizeOf36 rfl rfl rfl rfl (i := 5) rfl (Nat.le_of_ble_eq_true rfl) rfl rfl ?_
      refine .nil ?_
      exact .nil fun e a w h => by cases e; exact ⟨rfl, ⟨F_191, p211, k212, l_192, h.1.sub (.nil _), h.2⟩⟩
     ·skip
      refine .skip ?_
      refine .ownUp 4 (Fz.le_trans l_44 (Fz.le_trans l_64 (Fz.le_trans l_115 l_175))) rfl ?_
      exact .nil fun e a w h => by cases e; exact ⟨rfl, ⟨F_174, p49, k50, (Fz.le_refl _), h.1.sub (.nil _), h.2⟩⟩
    refine .block ?_
    refine .ownUp 6 (Fz.le_trans l_175 l_216) rfl ?_
    exact .nil fun e a w h => by cases e; exact ⟨rfl, ⟨F_215, p116, k117, p217, k218, (Fz.le_trans l_64 (Fz.le_trans l_115 (Fz.le_trans l_175 l_216))), h.1.sub (.nil _), h.2⟩⟩
   exact .nil (RP.normF l_222 ⟨p223, k224, p226, k227, rfl⟩ rfl)
  ·intro q229 F_231 F_232 s230 hs' l_233 l_234 he hI
   obtain ⟨p235, k236, p238, k239, rfl⟩ := hI
   refine .norm (Sub.refl _) (rfl : _ = [pt q229 (.deferred (some [])), arena _19.g69 (C69 _19) F_232 r_15.2.2.2.2.1, arena _19.g67 (C67 _19) F_232 r_15.2.2.2.2.2.2, arena _19.g75 (C75 _19) F_16 r_15.2.2.2.1, arena _19.g73 (C73 _19) F_16 r_15.2.2.2.2.2.1, ownSl 1 (Ex (cInt .i64)) F_231 3 p238 k239 s230.2, pt b13 (.cells [(.slice p238 s230.2.length k239)].toArray 36), ownSl 1 (Ex (cInt .i64)) F_231 3 p235 k236 s230.1, pt b11 (.cells [(.slice p235 s230.1.length k236)].toArray 36), R]) ?_
   refine .block ?_
   refine .code ?_
   refine .seq ?_
   refine .freezeSl 7 rfl l_234 (fun F_241 l_242 h243 => ?_)
   refine .freezeSl 5 rfl (Fz.le_trans l_234 l_242) (fun F_244 l_245 h246 => ?_)
   refine .keep (.cons (k := 6) rfl (.cons (k := 7) rfl (.nil _))) ?_
   refine .drawG 3 0 (fun env254 => [((.slice p235 s230.1.length k236), fun _ => True), ((.slice p238 s230.2.length k239), fun _ => True), (undef, fun _ => True)]) (fun L env254 => [pt q229 (.deferred (some [])), arena _19.g69 (C69 _19) F_232 r_15.2.2.2.2.1, arena _19.g67 (C67 _19) F_232 r_15.2.2.2.2.2.2, arena _19.g75 (C75 _19) F_16 r_15.2.2.2.1, arena _19.g73 (C73 _19) F_16 r_15.2.2.2.2.2.1, pt b13 (.cells [(.slice p238 s230.2.length k239)].toArray 36), (bif L 2 then (pt b11 (.cells [(.slice p235 s230.1.length k236)].toArray 36)) else (pt b11 (.cells [(.slice p235 s230.1.length k236)].toArray 36))), R]) mixedOK (by kernel_rfl) (by kernel_rfl) rfl (fun _ => rfl) (by kernel_rfl) (fun _ => rfl) ?_ (fun env254 F_255 l_256 hphi => ?_)
   ·skip
    refine .cons (fun L env254 F_257 l_258 hL hdn hup hphi => ⟨[(6, (.pointer (some ⟨b11, 0, none⟩)))], fun S hS hV => (.cons (hS _ _ rfl) (Sub.nil _)), ?_⟩) ?_
    ·skip
     refine .loadO rfl Try.isAgg36 rfl (i := 6) (congrArg some (condF (hup 1 2 rfl))) rfl ?_
     exact .finV rfl rfl (Fz.le_refl _)
    refine .cons (fun L env254 F_259 l_260 hL hdn hup hphi => ⟨[(7, (.pointer (some ⟨b13, 0, none⟩)))], fun S hS hV => (.cons (hS _ _ rfl) (Sub.nil _)), ?_⟩) ?_
    ·skip
     refine .loadO rfl Try.isAgg36 rfl (i := 5) rfl rfl ?_
     exact .finV rfl rfl (Fz.le_refl _)
    refine .cons (fun L env254 F_261 l_262 hL hdn hup hphi => ⟨[(6, (.pointer (some ⟨b11, 0, none⟩))), (55, (.slice p235 s230.1.length k236))], fun S hS hV => (.cons (hS _ _ rfl) (.cons (hV 0 55 _ (hdn 1 0 rfl) rfl rfl) (Sub.nil _))), ?_⟩) ?_
    ·skip
     refine .store (cs' := [(.slice p235 s230.1.length k236)]) Try.sizeOf36 rfl rfl rfl rfl (i := 6) (congrArg some (condF hL)) (Nat.le_of_ble_eq_true rfl) rfl rfl ?_
     exact .finS rfl (Fz.le_refl _) (setC 6 (condT rfl))
    exact .nil
   refine .norm (S' := [(6, (.pointer (some ⟨b11, 0, none⟩))), (7, (.pointer (some ⟨b13, 0, none⟩))), (55, (.slice p235 s230.1.length k236)), (56, (.slice p238 s230.2.length k239))]) (.cons (k := 6) rfl (.cons (k := 7) rfl (.cons (k := 55) rfl (.cons (k := 56) rfl (.nil _))))) (rfl : _ = [pt q229 (.deferred (some [])), arena _19.g69 (C69 _19) F_232 r_15.2.2.2.2.1, arena _19.g67 (C67 _19) F_232 r_15.2.2.2.2.2.2, arena _19.g75 (C75 _19) F_16 r_15.2.2.2.1, arena _19.g73 (C73 _19) F_16 r_15.2.2.2.2.2.1, pt b13 (.cells [(.slice p238 s230.2.length k239)].toArray 36), pt b11 (.cells [(.slice p235 s230.1.length k236)].toArray 36), R]) ?_
   refine .store (cs' := [(.slice p238 s230.2.length k239)]) Try.sizeOf36 rfl rfl rfl rfl (i := 5) rfl (Nat.le_of_ble_eq_true rfl) rfl rfl ?_
   refine .assign rfl rfl ?_
   refine .nil ?_
   refine .code ?_
   exact .ret0M [(0, q229)] Try.results17 ⟨rfl, trivial⟩ (.cell rfl Try.isAgg36 (i := 6) rfl rfl (.cell rfl Try.isAgg36 (i := 5) rfl rfl (.tmp rfl (.nil)))) (i := 7) rfl (Fz.le_trans l_9 (Fz.le_trans l_17 (Fz.le_trans l_34 (Fz.le_trans l_233 (Fz.le_trans l_234 (Fz.le_trans l_242 (Fz.le_trans l_245 l_256))))))) ⟨p235, k236, p238, k239, rfl, (h243.mono (Fz.le_trans l_245 l_256)), (h246.mono l_256)⟩
noncomputable def m_cask_Sources (l_1 : (List ApiCaskEvent)) (cask5 : Int) (day6 : Int) : Option ((List Int) × Int) :=
 (m_cask_play l_1 day6).bind fun r_7 => if (r_7.2.2.1 != 0) then (some ([], r_7.2.2.1)) else ((r_7.1).bind fun i16 => (r_7.2.2.2.2.1[i16]?).bind fun x21 => (x21.casks).bind fun i26 => (r_7.2.2.2.2.2.2[i26]?).bind fun x31 => if (((mapGet x31 cask5).getD none)).isNone then (some ([], 4)) else ((((mapGet x31 cask5).getD none)).bind fun i37 => (r_7.2.2.2.1[i37]?).bind fun x42 => (sortedO r_7.2.2.2.2.2.1 x42.fills).bind fun ks51 => some (ks51, 0)))
theorem c_cask_Sources (F0 : Fz) (l_1 : (List ApiCaskEvent)) (p2 : Option Addr) (k3 : Nat) (h4 : RepSl 8 (Ex cApiCaskEvent) F0 p2 k3 l_1) (cask5 : Int) (day6 : Int) : CT0 Try.prog 19 [(.slice p2 l_1.length k3), (.int .i64 cask5), (.int .i64 day6)].toArray F0 (m_cask_Sources l_1 cask5 day6) (fun r F v => ∃ (p0 : Option Addr) (k0 : Nat), v = .tuple #[(.slice p0 r.1.length k0), (.int .i64 r.2)] ∧ RepSl 1 (Ex (cInt .i64)) F p0 k0 r.1) := by
 refine CT0.enter Try.func19 rfl Try.ntmps19 rfl fun r R => ?_
 unfold m_cask_Sources
 refine .seq ?_
 refine .region ?_
 refine .assign rfl rfl ?_
 refine .assign rfl rfl ?_
 refine .nil ?_
 refine .code ?_
 refine .seq ?_
 refine .region ?_
 refine .move rfl rfl ?_
 refine .move rfl rfl ?_
 refine .callO rfl Try.call24 rfl rfl rfl (c_cask_play _ l_1 p2 k3 h4 day6) ?_
 rintro r_7 _11 F_8 _ e10 l_9 ⟨p12, k13, rfl, h14⟩
 refine .norm (Sub.refl _) (rfl : _ = [arena _11.g75 (C75 _11) F_8 r_7.2.2.2.1, arena _11.g69 (C69 _11) F_8 r_7.2.2.2.2.1, arena _11.g73 (C73 _11) F_8 r_7.2.2.2.2.2.1, arena _11.g67 (C67 _11) F_8 r_7.2.2.2.2.2.2, R]) ?_
 refine .move rfl rfl ?_
 refine .extract rfl rfl rfl ?_
 refine .extract rfl rfl rfl ?_
 refine .extract rfl rfl rfl ?_
 refine .assign rfl rfl ?_
 refine .assign rfl rfl ?_
 refine .assign rfl rfl ?_
 refine .nil ?_
 refine .code ?_
 refine .seq ?_
 refine .seq ?_
 refine .region ?_
 refine .move rfl rfl ?_
 refine .neq rfl rfl rfl ?_
 refine .nil ?_
 refine .code ?_
 refine .cond rfl (fun hb15 => ?_) (fun hb15 => ?_)
 ·skip
  refine .seq ?_
  refine .region ?_
  refine .move rfl rfl ?_
  refine .assign rfl rfl ?_
  refine .assign rfl rfl ?_
  refine .nil ?_
  refine .code ?_
  exact .ret0 Try.results19 (.tmp rfl (.tmp rfl (.nil))) (i := 4) rfl l_9 ⟨none, 0, rfl, (RepSl.nil.mono l_9)⟩
 ·skip
  refine .skip ?_
  refine .code ?_
  refine .seq ?_
  refine .region ?_
  refine .move rfl rfl ?_
  refine .bind (fun i16 e17 => ?_)
  obtain ⟨b18, hb19, hp20⟩ := h14.at e17
  refine .nilCheckR hp20 rfl rfl ?_
  refine .fieldAddr rfl Try.underlying69 rfl Try.sizeOf67 rfl ?_
  refine .bind (fun x21 e22 => ?_)
  refine .loadR (Φ := fun v => ∃ (p23 : Option Nat) (k24 : Unit), v = (.map p23) ∧ RepRef _11.g67 F_8 p23 x21.casks) 1 rfl (Fz.le_refl _) hb19 e22 rfl Try.isAgg67 rfl (fun vs ⟨q0, q1, h, r0⟩ => ⟨_, by subst h; exact rfl, q0, q1, rfl, r0⟩) (fun v hv => ?_)
  obtain ⟨p23, k24, rfl, h25⟩ := hv
  refine .move rfl rfl ?_
  refine .bind (fun i26 e27 => ?_)
  obtain ⟨b28, hb29, hp30⟩ := h25.at e27
  refine .bind (fun x31 e32 => ?_)
  refine .lookupR (key := cask5) (z := none) 3 rfl (Fz.le_refl _) hb29 hp30 e32 rfl Try.underlying67 (.int Try.underlying3) Try.zeroValue60 ⟨none, (), rfl, RepPtr.nil⟩ rfl rfl ?_
  intro v hv
  obtain ⟨p33, k34, rfl, h35⟩ := hv
  refine .assign rfl rfl ?_
  refine .nil ?_
  refine .code ?_
  refine .seq ?_
  refine .seq ?_
  refine .region ?_
  refine .move rfl rfl ?_
  refine .eqlPtrNil h35 rfl Try.underlying60 rfl rfl ?_
  refine .nil ?_
  refine .keep (.cons (k := 11) rfl (.cons (k := 29) rfl (.nil _))) ?_
  refine .code ?_
  refine .cond rfl (fun hb36 => ?_) (fun hb36 => ?_)
  ·skip
   refine .seq ?_
   refine .region ?_
   refine .assign rfl rfl ?_
   refine .assign rfl rfl ?_
   refine .nil ?_
   refine .code ?_
   exact .ret0 Try.results19 (.tmp rfl (.tmp rfl (.nil))) (i := 4) rfl l_9 ⟨none, 0, rfl, (RepSl.nil.mono l_9)⟩
  ·skip
   refine .skip ?_
   refine .code ?_
   refine .seq ?_
   refine .region ?_
   refine .move rfl rfl ?_
   refine .bind (fun i37 e38 => ?_)
   obtain ⟨b39, hb40, hp41⟩ := h35.at e38
   refine .nilCheckR hp41 rfl rfl ?_
   refine .fieldAddr rfl Try.underlying75 rfl Try.sizeOf73 rfl ?_
   refine .bind (fun x42 e43 => ?_)
   refine .loadR (Φ := fun v => ∃ (p44 : Option Nat) (k45 : Unit), v = (.map p44) ∧ RepRef _11.g73 F_8 p44 x42.fills) 0 rfl (Fz.le_refl _) hb40 e43 rfl Try.isAgg73 rfl (fun vs ⟨q0, q1, h, r0⟩ => ⟨_, by subst h; exact rfl, q0, q1, rfl, r0⟩) (fun v hv => ?_)
   obtain ⟨p44, k45, rfl, h46⟩ := hv
   refine .keysC keysOf30 rfl Try.call30 rfl rfl (fun b47 F_48 l_49 hb50 => ?_)
   refine .sortedX Try.underlying3 sortedKeys45 (c := (Ex (cInt .i64))) (fun _ _ => rfl) (hb50) 2 rfl (h46.mono l_49) rfl Try.call29 rfl rfl (fun ks51 F_52 p53 c54 e55 l_56 h57 => ?_)
   refine .assign rfl rfl ?_
   refine .assign rfl rfl ?_
   refine .nil ?_
   refine .code ?_
   exact .ret0 Try.results19 (.tmp rfl (.tmp rfl (.nil))) (i := 4) rfl (Fz.le_trans l_9 (Fz.le_trans l_49 l_56)) ⟨p53, c54, rfl, h57⟩
noncomputable def b_wormtubref06_Ints_1 (a1 : (List Int)) (b5 : (List Int)) (s10 : Int) : Option (Ctl (Int) ((Unit) ⊕ (Bool))) :=
 if (decide (s10 < (a1.length : Int))) then ((idxL a1 s10).bind fun x15 => (idxL b5 s10).bind fun x25 => if (x15 != x25) then (some (.done (.inr false))) else (bindv (w64 (s10 + 1)) fun i54 => some (.next i54))) else (some (.done (.inl ())))
noncomputable def m_wormtubref06_Ints (a1 : (List Int)) (b5 : (List Int)) : Option Bool :=
 if ((a1.length : Int) != (b5.length : Int)) then (some false) else ((loopM (b_wormtubref06_Ints_1 a1 b5) 0).bind fun b0 => match b0 with | .inl _b56 => (some true) | .inr b56 => (some b56))
theorem c_wormtubref06_Ints (F0 : Fz) (a1 : (List Int)) (p2 : Option Addr) (k3 : Nat) (h4 : RepSl 1 (Ex (cInt .i64)) F0 p2 k3 a1) (b5 : (List Int)) (p6 : Option Addr) (k7 : Nat) (h8 : RepSl 1 (Ex (cInt .i64)) F0 p6 k7 b5) : CT0 Try.prog 21 [(.slice p2 a1.length k3), (.slice p6 b5.length k7)].toArray F0 (m_wormtubref06_Ints a1 b5) (fun r _ v => v = (.bool r)) := by
 refine CT0.enter Try.func21 rfl Try.ntmps21 rfl fun r R => ?_
 unfold m_wormtubref06_Ints
 refine .seq ?_
 refine .region ?_
 refine .assign rfl rfl ?_
 refine .nil ?_
 refine .code ?_
 refine .seq ?_
 refine .seq ?_
 refine .region ?_
 refine .move rfl rfl ?_
 refine .lenS rfl rfl Try.underlying36 rfl ?_
 refine .move rfl rfl ?_
 refine .lenS rfl rfl Try.underlying36 rfl ?_
 refine .neq rfl rfl rfl ?_
 refine .nil ?_
 refine .code ?_
 refine .cond rfl (fun hb9 => ?_) (fun hb9 => ?_)
 ·skip
  refine .seq ?_
  refine .region ?_
  refine .assign rfl rfl ?_
  refine .nil ?_
  refine .code ?_
  exact .ret0 Try.results21 (.tmp rfl (.nil)) (i := 0) rfl (Fz.le_refl _) rfl
 ·skip
  refine .skip ?_
  refine .code ?_
  refine .seq ?_
  refine .seq ?_
  refine .region ?_
  refine .assign rfl rfl ?_
  refine .nil ?_
  refine .code ?_
  refine .block ?_
  refine .keep (.cons (k := 0) rfl (.cons (k := 1) rfl (.cons (k := 5) rfl (.nil _)))) ?_
  refine .loop (fun (s10 : Int) a w => ∃ (F_11 : Fz), F0 ≤ F_11 ∧ Hd 26 [] [(0, (.slice p2 a1.length k3)), (1, (.slice p6 b5.length k7)), (5, (.int .i64 s10))] F_11 [R] a w) (fun b0 e a w => match b0 with | .inl b56 => e = .exit 0 ∧ ∃ (F_57 : Fz), F0 ≤ F_57 ∧ Hd 26 [] [] F_57 [R] a w | .inr b56 => e = .ret ∧ ∃ (F_59 : Fz), F0 ≤ F_59 ∧ Hd 26 [] [(4, (.bool b56))] F_59 [R] a w) ?_ ?_ ?_
  ·exact fun a w h => ⟨F0, (Fz.le_refl _), h.1.sub (.cons (k := 0) rfl (.cons (k := 1) rfl (.cons (k := 5) rfl (.nil _)))), h.2⟩
  ·intro s10 ctl
   refine GC.ex (fun a w ⟨F_11, l_12, hA⟩ => ⟨_, hA, ?_⟩)
   unfold b_wormtubref06_Ints_1
   refine .seq ?_
   refine .seq ?_
   refine .region ?_
   refine .move rfl rfl ?_
   refine .move rfl rfl ?_
   refine .lenS rfl rfl Try.underlying36 rfl ?_
   refine .lss rfl rfl rfl ?_
   refine .nil ?_
   refine .code ?_
   refine .cond rfl (fun hb13 => ?_) (fun hb13 => ?_)
   ·skip
    refine .skip ?_
    refine .code ?_
    refine .seq ?_
    refine .block ?_
    refine .seq ?_
    refine .keep (.cons (k := 0) rfl (.cons (k := 1) rfl (.cons (k := 5) rfl (.nil _)))) ?_
    refine .bind (fun x15 e21 => ?_)
    obtain ⟨b16, o17, T18, fr19, cs20, hm22, hv23, hq24⟩ := RepSl.idxE (h4.mono l_12) e21
    refine .bind (fun x25 e31 => ?_)
    obtain ⟨b26, o27, T28, fr29, cs30, hm32, hv33, hq34⟩ := RepSl.idxE (h8.mono l_12) e31
    refine .drawGD 8 0 (fun env14 => [((.slice p2 a1.length k3), fun _ => True), ((.int .i64 s10), fun _ => True), ((.pointer (some ⟨b16, o17, none⟩)), fun _ => True), ((.int .i64 x15), fun _ => True), ((.slice p6 b5.length k7), fun _ => True), ((.int .i64 s10), fun _ => True), ((.pointer (some ⟨b26, o27, none⟩)), fun _ => True), ((.int .i64 x25), fun _ => True)]) (fun L env14 => [R]) mixedOK (by kernel_rfl) (deepN (k := 8) (n := 9) rfl (allLt9 (p := fun t => 8 ≤ t → ∀ j, j < t → ∃ s, depB _ s t j = true) (fun h => absurd h (by decide)) (fun h => absurd h (by decide)) (fun h => absurd h (by decide)) (fun h => absurd h (by decide)) (fun h => absurd h (by decide)) (fun h => absurd h (by decide)) (fun h => absurd h (by decide)) (fun h => absurd h (by decide)) (fun _ => allLt8 (p := fun j => ∃ s, depB _ s 8 j = true) ⟨3, rfl⟩ ⟨3, rfl⟩ ⟨2, rfl⟩ ⟨1, rfl⟩ ⟨3, rfl⟩ ⟨3, rfl⟩ ⟨2, rfl⟩ ⟨1, rfl⟩))) rfl (fun _ => rfl) (by kernel_rfl) (fun _ => rfl) ?_ (fun env14 F_35 l_36 hphi => ?_)
    ·skip
     refine .cons (fun L env14 F_37 l_38 hL hdn hup hphi => ⟨[(0, (.slice p2 a1.length k3))], fun S hS hV => (.cons (hS _ _ rfl) (Sub.nil _)), ?_⟩) ?_
     ·skip
      refine .move rfl rfl ?_
      exact .finV rfl rfl (Fz.le_refl _)
     refine .cons (fun L env14 F_39 l_40 hL hdn hup hphi => ⟨[(5, (.int .i64 s10))], fun S hS hV => (.cons (hS _ _ rfl) (Sub.nil _)), ?_⟩) ?_
     ·skip
      refine .move rfl rfl ?_
      exact .finV rfl rfl (Fz.le_refl _)
     refine .cons (fun L env14 F_41 l_42 hL hdn hup hphi => ⟨[(17, (.slice p2 a1.length k3)), (18, (.int .i64 s10))], fun S hS hV => (.cons (hV 0 17 _ (hdn 1 0 rfl) rfl rfl) (.cons (hV 1 18 _ (hdn 1 1 rfl) rfl rfl) (Sub.nil _))), ?_⟩) ?_
     ·skip
      refine .idxQ rfl Try.underlying36 Try.sizeOf3 hq24 rfl rfl ?_
      exact .finV rfl rfl (Fz.le_refl _)
     refine .cons (fun L env14 F_43 l_44 hL hdn hup hphi => ⟨[(19, (.pointer (some ⟨b16, o17, none⟩)))], fun S hS hV => (.cons (hV 2 19 _ (hdn 1 2 rfl) rfl rfl) (Sub.nil _)), ?_⟩) ?_
     ·skip
      refine .loadF rfl Try.isAgg3 rfl (l_44.mem _ _ hm22) (cell_of_take (k := 0) hv23 rfl) ?_
      exact .finV rfl rfl (Fz.le_refl _)
     refine .cons (fun L env14 F_45 l_46 hL hdn hup hphi => ⟨[(1, (.slice p6 b5.length k7))], fun S hS hV => (.cons (hS _ _ rfl) (Sub.nil _)), ?_⟩) ?_
     ·skip
      refine .move rfl rfl ?_
      exact .finV rfl rfl (Fz.le_refl _)
     refine .cons (fun L env14 F_47 l_48 hL hdn hup hphi => ⟨[(5, (.int .i64 s10))], fun S hS hV => (.cons (hS _ _ rfl) (Sub.nil _)), ?_⟩) ?_
     ·skip
      refine .move rfl rfl ?_
      exact .finV rfl rfl (Fz.le_refl _)
     refine .cons (fun L env14 F_49 l_50 hL hdn hup hphi => ⟨[(21, (.slice p6 b5.length k7)), (22, (.int .i64 s10))], fun S hS hV => (.cons (hV 4 21 _ (hdn 1 4 rfl) rfl rfl) (.cons (hV 5 22 _ (hdn 1 5 rfl) rfl rfl) (Sub.nil _))), ?_⟩) ?_
     ·skip
      refine .idxQ rfl Try.underlying36 Try.sizeOf3 hq34 rfl rfl ?_
      exact .finV rfl rfl (Fz.le_refl _)
     refine .cons (fun L env14 F_51 l_52 hL hdn hup hphi => ⟨[(23, (.pointer (some ⟨b26, o27, none⟩)))], fun S hS hV => (.cons (hV 6 23 _ (hdn 1 6 rfl) rfl rfl) (Sub.nil _)), ?_⟩) ?_
     ·skip
      refine .loadF rfl Try.isAgg3 rfl (l_52.mem _ _ hm32) (cell_of_take (k := 0) hv33 rfl) ?_
      exact .finV rfl rfl (Fz.le_refl _)
     exact .nil
    refine .norm (S' := [(0, (.slice p2 a1.length k3)), (1, (.slice p6 b5.length k7)), (5, (.int .i64 s10)), (17, (.slice p2 a1.length k3)), (18, (.int .i64 s10)), (19, (.pointer (some ⟨b16, o17, none⟩))), (20, (.int .i64 x15)), (21, (.slice p6 b5.length k7)), (22, (.int .i64 s10)), (23, (.pointer (some ⟨b26, o27, none⟩))), (24, (.int .i64 x25))]) (.cons (k := 0) rfl (.cons (k := 1) rfl (.cons (k := 5) rfl (.cons (k := 17) rfl (.cons (k := 18) rfl (.cons (k := 19) rfl (.cons (k := 20) rfl (.cons (k := 21) rfl (.cons (k := 22) rfl (.cons (k := 23) rfl (.cons (k := 24) rfl (.nil _)))))))))))) (rfl : _ = [R]) ?_
    refine .neq rfl rfl rfl ?_
    refine .nil ?_
    refine .code ?_
    refine .cond rfl (fun hb53 => ?_) (fun hb53 => ?_)
    ·skip
     refine .seq ?_
     refine .region ?_
     refine .assign rfl rfl ?_
     refine .nil ?_
     refine .code ?_
     refine .retQ (LPost.ret fun a w h => ⟨rfl, F_35, (Fz.le_trans l_12 l_36), h.1.sub (.cons (k := 4) rfl (.nil _)), h.2⟩)
    ·skip
     refine .skip ?_
     refine .block ?_
     refine .code ?_
     refine .region ?_
     refine .move rfl rfl ?_
     refine .add rfl rfl rfl ?_
     refine .assignL rfl rfl (fun i54 e55 => ?_)
     refine .nil ?_
     exact .nil (LPost.norm fun a w h => ⟨F_35, (Fz.le_trans l_12 l_36), h.1.sub (.cons (k := 0) rfl (.cons (k := 1) rfl (.cons (k := 5) rfl (.nil _)))), h.2⟩)
   ·skip
    refine .exitOut rfl (LPost.exit fun a w h => ⟨rfl, F_11, l_12, h.1.sub (.nil _), h.2⟩)
  ·intro b56 hb0 hk e a w hD
   rcases b56 with b56 | b56
   ·skip
    obtain ⟨rfl, F_57, l_58, hA⟩ := hD
    refine interp_exit rfl (GE.app ?_ hk a w hA)
    refine .code ?_
    refine .seq ?_
    refine .region ?_
    refine .assign rfl rfl ?_
    refine .nil ?_
    refine .code ?_
    exact .ret0 Try.results21 (.tmp rfl (.nil)) (i := 0) rfl l_58 rfl
   obtain ⟨rfl, F_59, l_60, hA⟩ := hD
   exact interp_ret ((ret_post0 Try.results21 (.tmp rfl (.nil)) (i := 0) rfl l_60 rfl) hk a w hA)
noncomputable def m_wormtublaw06_sample  : Option (List ApiCaskEvent) :=
 some ([(ApiCaskEvent.mk 0 0 1 2 9 0 500 0), (ApiCaskEvent.mk 0 0 2 3 9 0 300 1), (ApiCaskEvent.mk 1 0 1 0 0 0 400 0), (ApiCaskEvent.mk 2 100 1 2 0 0 150 0), (ApiCaskEvent.mk 4 150 1 0 0 0 0 4), (ApiCaskEvent.mk 1 150 2 0 0 0 50 0), (ApiCaskEvent.mk 6 200 2 0 9 30 0 0)])
theorem c_wormtublaw06_sample (F0 : Fz)  : CT0 Try.prog 23 [].toArray F0 (m_wormtublaw06_sample) (fun r F v => ∃ (p0 : Option Addr) (k0 : Nat), v = (.slice p0 r.length k0) ∧ RepSl 8 (Ex cApiCaskEvent) F p0 k0 r ∧ k0 = r.length) := by
 refine CT0.enter Try.func23 rfl Try.ntmps23 rfl fun r R => ?_
 unfold m_wormtublaw06_sample
 refine .seq ?_
 refine .region ?_
 refine .assign rfl rfl ?_
 refine .nil ?_
 refine .code ?_
 refine .seq ?_
 refine .region ?_
 refine .build (cs := (cApiCaskEvent (ApiCaskEvent.mk 0 0 1 2 9 0 500 0)).toArray) rfl Try.underlying45 Try.zeroValue45 (plApiCaskEvent _ Try.underlying45) rfl rfl (by kernel_rfl) ?_
 refine .build (cs := (cApiCaskEvent (ApiCaskEvent.mk 0 0 2 3 9 0 300 1)).toArray) rfl Try.underlying45 Try.zeroValue45 (plApiCaskEvent _ Try.underlying45) rfl rfl (by kernel_rfl) ?_
 refine .build (cs := (cApiCaskEvent (ApiCaskEvent.mk 1 0 1 0 0 0 400 0)).toArray) rfl Try.underlying45 Try.zeroValue45 (plApiCaskEvent _ Try.underlying45) rfl rfl (by kernel_rfl) ?_
 refine .build (cs := (cApiCaskEvent (ApiCaskEvent.mk 2 100 1 2 0 0 150 0)).toArray) rfl Try.underlying45 Try.zeroValue45 (plApiCaskEvent _ Try.underlying45) rfl rfl (by kernel_rfl) ?_
 refine .build (cs := (cApiCaskEvent (ApiCaskEvent.mk 4 150 1 0 0 0 0 4)).toArray) rfl Try.underlying45 Try.zeroValue45 (plApiCaskEvent _ Try.underlying45) rfl rfl (by kernel_rfl) ?_
 refine .build (cs := (cApiCaskEvent (ApiCaskEvent.mk 1 150 2 0 0 0 50 0)).toArray) rfl Try.underlying45 Try.zeroValue45 (plApiCaskEvent _ Try.underlying45) rfl rfl (by kernel_rfl) ?_
 refine .build (cs := (cApiCaskEvent (ApiCaskEvent.mk 6 200 2 0 9 30 0 0)).toArray) rfl Try.underlying45 Try.zeroValue45 (plApiCaskEvent _ Try.underlying45) rfl rfl (by kernel_rfl) ?_
 refine .sliceLit (cs := [.int .i64 (ApiCaskEvent.mk 0 0 1 2 9 0 500 0).Kind, .int .i64 (ApiCaskEvent.mk 0 0 1 2 9 0 500 0).Day, .int .i64 (ApiCaskEvent.mk 0 0 1 2 9 0 500 0).Cask, .int .i64 (ApiCaskEvent.mk 0 0 1 2 9 0 500 0).Other, .int .i64 (ApiCaskEvent.mk 0 0 1 2 9 0 500 0).Person, .int .i64 (ApiCaskEvent.mk 0 0 1 2 9 0 500 0).To, .int .i64 (ApiCaskEvent.mk 0 0 1 2 9 0 500 0).Amount, .int .i64 (ApiCaskEvent.mk 0 0 1 2 9 0 500 0).Where, .int .i64 (ApiCaskEvent.mk 0 0 2 3 9 0 300 1).Kind, .int .i64 (ApiCaskEvent.mk 0 0 2 3 9 0 300 1).Day, .int .i64 (ApiCaskEvent.mk 0 0 2 3 9 0 300 1).Cask, .int .i64 (ApiCaskEvent.mk 0 0 2 3 9 0 300 1).Other, .int .i64 (ApiCaskEvent.mk 0 0 2 3 9 0 300 1).Person, .int .i64 (ApiCaskEvent.mk 0 0 2 3 9 0 300 1).To, .int .i64 (ApiCaskEvent.mk 0 0 2 3 9 0 300 1).Amount, .int .i64 (ApiCaskEvent.mk 0 0 2 3 9 0 300 1).Where, .int .i64 (ApiCaskEvent.mk 1 0 1 0 0 0 400 0).Kind, .int .i64 (ApiCaskEvent.mk 1 0 1 0 0 0 400 0).Day, .int .i64 (ApiCaskEvent.mk 1 0 1 0 0 0 400 0).Cask, .int .i64 (ApiCaskEvent.mk 1 0 1 0 0 0 400 0).Other, .int .i64 (ApiCaskEvent.mk 1 0 1 0 0 0 400 0).Person, .int .i64 (ApiCaskEvent.mk 1 0 1 0 0 0 400 0).To, .int .i64 (ApiCaskEvent.mk 1 0 1 0 0 0 400 0).Amount, .int .i64 (ApiCaskEvent.mk 1 0 1 0 0 0 400 0).Where, .int .i64 (ApiCaskEvent.mk 2 100 1 2 0 0 150 0).Kind, .int .i64 (ApiCaskEvent.mk 2 100 1 2 0 0 150 0).Day, .int .i64 (ApiCaskEvent.mk 2 100 1 2 0 0 150 0).Cask, .int .i64 (ApiCaskEvent.mk 2 100 1 2 0 0 150 0).Other, .int .i64 (ApiCaskEvent.mk 2 100 1 2 0 0 150 0).Person, .int .i64 (ApiCaskEvent.mk 2 100 1 2 0 0 150 0).To, .int .i64 (ApiCaskEvent.mk 2 100 1 2 0 0 150 0).Amount, .int .i64 (ApiCaskEvent.mk 2 100 1 2 0 0 150 0).Where, .int .i64 (ApiCaskEvent.mk 4 150 1 0 0 0 0 4).Kind, .int .i64 (ApiCaskEvent.mk 4 150 1 0 0 0 0 4).Day, .int .i64 (ApiCaskEvent.mk 4 150 1 0 0 0 0 4).Cask, .int .i64 (ApiCaskEvent.mk 4 150 1 0 0 0 0 4).Other, .int .i64 (ApiCaskEvent.mk 4 150 1 0 0 0 0 4).Person, .int .i64 (ApiCaskEvent.mk 4 150 1 0 0 0 0 4).To, .int .i64 (ApiCaskEvent.mk 4 150 1 0 0 0 0 4).Amount, .int .i64 (ApiCaskEvent.mk 4 150 1 0 0 0 0 4).Where, .int .i64 (ApiCaskEvent.mk 1 150 2 0 0 0 50 0).Kind, .int .i64 (ApiCaskEvent.mk 1 150 2 0 0 0 50 0).Day, .int .i64 (ApiCaskEvent.mk 1 150 2 0 0 0 50 0).Cask, .int .i64 (ApiCaskEvent.mk 1 150 2 0 0 0 50 0).Other, .int .i64 (ApiCaskEvent.mk 1 150 2 0 0 0 50 0).Person, .int .i64 (ApiCaskEvent.mk 1 150 2 0 0 0 50 0).To, .int .i64 (ApiCaskEvent.mk 1 150 2 0 0 0 50 0).Amount, .int .i64 (ApiCaskEvent.mk 1 150 2 0 0 0 50 0).Where, .int .i64 (ApiCaskEvent.mk 6 200 2 0 9 30 0 0).Kind, .int .i64 (ApiCaskEvent.mk 6 200 2 0 9 30 0 0).Day, .int .i64 (ApiCaskEvent.mk 6 200 2 0 9 30 0 0).Cask, .int .i64 (ApiCaskEvent.mk 6 200 2 0 9 30 0 0).Other, .int .i64 (ApiCaskEvent.mk 6 200 2 0 9 30 0 0).Person, .int .i64 (ApiCaskEvent.mk 6 200 2 0 9 30 0 0).To, .int .i64 (ApiCaskEvent.mk 6 200 2 0 9 30 0 0).Amount, .int .i64 (ApiCaskEvent.mk 6 200 2 0 9 30 0 0).Where]) (zc := [.int .i64 (ApiCaskEvent.mk 0 0 0 0 0 0 0 0).Kind, .int .i64 (ApiCaskEvent.mk 0 0 0 0 0 0 0 0).Day, .int .i64 (ApiCaskEvent.mk 0 0 0 0 0 0 0 0).Cask, .int .i64 (ApiCaskEvent.mk 0 0 0 0 0 0 0 0).Other, .int .i64 (ApiCaskEvent.mk 0 0 0 0 0 0 0 0).Person, .int .i64 (ApiCaskEvent.mk 0 0 0 0 0 0 0 0).To, .int .i64 (ApiCaskEvent.mk 0 0 0 0 0 0 0 0).Amount, .int .i64 (ApiCaskEvent.mk 0 0 0 0 0 0 0 0).Where, .int .i64 (ApiCaskEvent.mk 0 0 0 0 0 0 0 0).Kind, .int .i64 (ApiCaskEvent.mk 0 0 0 0 0 0 0 0).Day, .int .i64 (ApiCaskEvent.mk 0 0 0 0 0 0 0 0).Cask, .int .i64 (ApiCaskEvent.mk 0 0 0 0 0 0 0 0).Other, .int .i64 (ApiCaskEvent.mk 0 0 0 0 0 0 0 0).Person, .int .i64 (ApiCaskEvent.mk 0 0 0 0 0 0 0 0).To, .int .i64 (ApiCaskEvent.mk 0 0 0 0 0 0 0 0).Amount, .int .i64 (ApiCaskEvent.mk 0 0 0 0 0 0 0 0).Where, .int .i64 (ApiCaskEvent.mk 0 0 0 0 0 0 0 0).Kind, .int .i64 (ApiCaskEvent.mk 0 0 0 0 0 0 0 0).Day, .int .i64 (ApiCaskEvent.mk 0 0 0 0 0 0 0 0).Cask, .int .i64 (ApiCaskEvent.mk 0 0 0 0 0 0 0 0).Other, .int .i64 (ApiCaskEvent.mk 0 0 0 0 0 0 0 0).Person, .int .i64 (ApiCaskEvent.mk 0 0 0 0 0 0 0 0).To, .int .i64 (ApiCaskEvent.mk 0 0 0 0 0 0 0 0).Amount, .int .i64 (ApiCaskEvent.mk 0 0 0 0 0 0 0 0).Where, .int .i64 (ApiCaskEvent.mk 0 0 0 0 0 0 0 0).Kind, .int .i64 (ApiCaskEvent.mk 0 0 0 0 0 0 0 0).Day, .int .i64 (ApiCaskEvent.mk 0 0 0 0 0 0 0 0).Cask, .int .i64 (ApiCaskEvent.mk 0 0 0 0 0 0 0 0).Other, .int .i64 (ApiCaskEvent.mk 0 0 0 0 0 0 0 0).Person, .int .i64 (ApiCaskEvent.mk 0 0 0 0 0 0 0 0).To, .int .i64 (ApiCaskEvent.mk 0 0 0 0 0 0 0 0).Amount, .int .i64 (ApiCaskEvent.mk 0 0 0 0 0 0 0 0).Where, .int .i64 (ApiCaskEvent.mk 0 0 0 0 0 0 0 0).Kind, .int .i64 (ApiCaskEvent.mk 0 0 0 0 0 0 0 0).Day, .int .i64 (ApiCaskEvent.mk 0 0 0 0 0 0 0 0).Cask, .int .i64 (ApiCaskEvent.mk 0 0 0 0 0 0 0 0).Other, .int .i64 (ApiCaskEvent.mk 0 0 0 0 0 0 0 0).Person, .int .i64 (ApiCaskEvent.mk 0 0 0 0 0 0 0 0).To, .int .i64 (ApiCaskEvent.mk 0 0 0 0 0 0 0 0).Amount, .int .i64 (ApiCaskEvent.mk 0 0 0 0 0 0 0 0).Where, .int .i64 (ApiCaskEvent.mk 0 0 0 0 0 0 0 0).Kind, .int .i64 (ApiCaskEvent.mk 0 0 0 0 0 0 0 0).Day, .int .i64 (ApiCaskEvent.mk 0 0 0 0 0 0 0 0).Cask, .int .i64 (ApiCaskEvent.mk 0 0 0 0 0 0 0 0).Other, .int .i64 (ApiCaskEvent.mk 0 0 0 0 0 0 0 0).Person, .int .i64 (ApiCaskEvent.mk 0 0 0 0 0 0 0 0).To, .int .i64 (ApiCaskEvent.mk 0 0 0 0 0 0 0 0).Amount, .int .i64 (ApiCaskEvent.mk 0 0 0 0 0 0 0 0).Where, .int .i64 (ApiCaskEvent.mk 0 0 0 0 0 0 0 0).Kind, .int .i64 (ApiCaskEvent.mk 0 0 0 0 0 0 0 0).Day, .int .i64 (ApiCaskEvent.mk 0 0 0 0 0 0 0 0).Cask, .int .i64 (ApiCaskEvent.mk 0 0 0 0 0 0 0 0).Other, .int .i64 (ApiCaskEvent.mk 0 0 0 0 0 0 0 0).Person, .int .i64 (ApiCaskEvent.mk 0 0 0 0 0 0 0 0).To, .int .i64 (ApiCaskEvent.mk 0 0 0 0 0 0 0 0).Amount, .int .i64 (ApiCaskEvent.mk 0 0 0 0 0 0 0 0).Where]) rfl Try.underlying22 Try.sizeOf45 Try.zeroValue45 rfl rfl rfl (by kernel_rfl) (by kernel_rfl) (fun b1 F_2 l_3 hb4 => ?_)
 have h5 : RepSl 8 (Ex cApiCaskEvent) F_2 (some ⟨b1, 0, none⟩) 7 ([(ApiCaskEvent.mk 0 0 1 2 9 0 500 0), (ApiCaskEvent.mk 0 0 2 3 9 0 300 1), (ApiCaskEvent.mk 1 0 1 0 0 0 400 0), (ApiCaskEvent.mk 2 100 1 2 0 0 150 0), (ApiCaskEvent.mk 4 150 1 0 0 0 0 4), (ApiCaskEvent.mk 1 150 2 0 0 0 50 0), (ApiCaskEvent.mk 6 200 2 0 9 30 0 0)]) := RepSl.ofRow hb4 (.cons ok_t45.mono rfl (.cons ok_t45.mono rfl (.cons ok_t45.mono rfl (.cons ok_t45.mono rfl (.cons ok_t45.mono rfl (.cons ok_t45.mono rfl (.cons ok_t45.mono rfl .nil))))))) rfl rfl
 refine .assign rfl rfl ?_
 refine .nil ?_
 refine .code ?_
 exact .ret0 Try.results23 (.tmp rfl (.nil)) (i := 0) rfl l_3 ⟨(some ⟨b1, 0, none⟩), 7, rfl, h5, rfl⟩
end Go.Proofs.Ytkedjmhhcekmiaa
end

section
namespace Go.Proofs.Ytkedjmhhcekmiaa
open Go.Dec
abbrev FM := List (List (Int × Bool))
def rawOf (c : CaskCask) (F : List Int) : Held := ⟨⟨c.number, c.wood, c.place, c.room, c.owner, c.creditor, c.amount, c.times.age, c.times.woods, c.times.places⟩, F⟩
def FR (A3 : FM) (p : Option Nat) (F : List Int) : Prop := match p with
  | none => F = []
  | some j => ∃ l, A3[j]? = some l ∧ (l.map Prod.fst).Nodup ∧ ∀ x, x ∈ F ↔ x ∈ l.map Prod.fst
structure CR (t : Int) (n : Nat) (A3 : FM) (c : CaskCask) (h : Held) : Prop where
  since : 0 ≤ c.since ∧ c.since ≤ t
  ok : HOk c.since n (rawOf c h.Fills)
  eq : h = olderS (t - c.since) (rawOf c h.Fills)
  fills : FR A3 c.fills h.Fills
structure PR (t : Int) (n : Nat) (all : List Held) (A1 : List CaskCask) (A3 : FM) (m : List (Int × Option Nat)) : Prop where
  len : A1.length = all.length
  each : ∀ (k : Nat) (c : CaskCask) (h : Held), A1[k]? = some c → all[k]? = some h → CR t n A3 c h
  map : m = A1.mapIdx (fun k c => (c.number, some k))
  apart : ∀ (i j : Nat) (ci cj : CaskCask) (q : Nat), A1[i]? = some ci → A1[j]? = some cj → ci.fills = some q → cj.fills = some q → i = j
theorem older_fills {n : Int} {h : Held} : (olderS n h).Fills = h.Fills := by unfold olderS; split <;> rfl
theorem older_0 {h : Held} : olderS 0 h = h := by
  unfold olderS
  split
  · have e : ∀ (f : Nat → Int) (j : Nat), updN f j (f j) = f := fun f j => by
      funext k
      by_cases e : k = j
      · subst e; rw [updN_self]
      · rw [updN_ne e]
    simp only [Int.add_zero, e]
  · rfl
theorem CR.number {t : Int} {n : Nat} {A3 : FM} {c : CaskCask} {h : Held} (r : CR t n A3 c h) : h.C.Number = c.number := by rw [r.eq, older_num]; rfl
theorem CR.shift {t t' : Int} {n : Nat} {A3 : FM} {c : CaskCask} {h : Held} (r : CR t n A3 c h) (le : t ≤ t') : CR t' n A3 c (olderS (t' - t) h) := by
  refine ⟨⟨r.since.1, by have := r.since.2; omega⟩, ?_, ?_, ?_⟩
  · rw [older_fills]; exact r.ok
  · rw [older_fills]
    conv => lhs; rw [r.eq]
    rw [older_add]
    congr 1
    omega
  · rw [older_fills]; exact r.fills
theorem PR.shift {t t' : Int} {n : Nat} {all : List Held} {A1 : List CaskCask} {A3 : FM} {m : List (Int × Option Nat)} (r : PR t n all A1 A3 m) (le : t ≤ t') : PR t' n (all.map (olderS (t' - t))) A1 A3 m := by
  refine ⟨by simpa using r.len, fun k c h hc hh => ?_, r.map, r.apart⟩
  rw [List.getElem?_map] at hh
  cases h0 : all[k]? with
  | none => rw [h0] at hh; cases hh
  | some h1 =>
    rw [h0] at hh
    simp only [Option.map_some, Option.some.injEq] at hh
    subst hh
    exact (r.each k c h1 hc h0).shift le
def restC (t : Int) (c : CaskCask) : CaskCask :=
  if 0 < c.amount then { c with since := t, times := ⟨c.times.age + (t - c.since), updN c.times.woods c.wood.toNat (c.times.woods c.wood.toNat + (t - c.since)), updN c.times.places c.place.toNat (c.times.places c.place.toNat + (t - c.since))⟩ } else { c with since := t }
theorem raw_rest {t : Int} {c : CaskCask} {F : List Int} : rawOf (restC t c) F = olderS (t - c.since) (rawOf c F) := by
  unfold restC olderS
  by_cases h : 0 < c.amount
  · rw [if_pos h, if_pos (show 0 < (rawOf c F).C.Amount from h)]; rfl
  · rw [if_neg h, if_neg (show ¬ 0 < (rawOf c F).C.Amount from h)]; rfl
theorem rest_since {t : Int} {c : CaskCask} : (restC t c).since = t := by unfold restC; split <;> rfl
theorem rest_number {t : Int} {c : CaskCask} : (restC t c).number = c.number := by unfold restC; split <;> rfl
theorem rest_fillsC {t : Int} {c : CaskCask} : (restC t c).fills = c.fills := by unfold restC; split <;> rfl
theorem CR.rest {t : Int} {n : Nat} {A3 : FM} {c : CaskCask} {h : Held} (r : CR t n A3 c h) : CR t n A3 (restC t c) h := by
  refine ⟨⟨by rw [rest_since]; have := r.since; omega, by rw [rest_since]; exact Int.le_refl t⟩, ?_, ?_, by rw [rest_fillsC]; exact r.fills⟩
  · rw [raw_rest, rest_since]
    have := older_ok r.ok (n := t - c.since) (by have := r.since; omega)
    have e : c.since + (t - c.since) = t := by omega
    rwa [e] at this
  · rw [raw_rest, rest_since, Int.sub_self, older_0]
    exact r.eq
theorem rest_prog {A1 : List CaskCask} {k : Nat} {c : CaskCask} {t : Int} {n : Nat} {F : List Int} (hc : A1[k]? = some c) (ho : HOk c.since n (rawOf c F)) (_h0 : 0 ≤ c.since) (h1 : c.since ≤ t) (ht : t ≤ 1000000) :
    m_cask_cask_rest A1 (some k) t = some (A1.set k (restC t c)) := by
  have hk : k < A1.length := (List.getElem?_eq_some_iff.1 hc).1
  have hage := ho.age
  have hwood := ho.wood
  have hplace := ho.place
  have ew : idxO 8 c.wood = some c.wood.toNat := by unfold idxO; rw [if_pos (by have : 0 ≤ c.wood ∧ c.wood ≤ 7 := hwood; omega)]
  have ep : idxO 8 c.place = some c.place.toNat := by unfold idxO; rw [if_pos (by have : 0 ≤ c.place ∧ c.place ≤ 7 := hplace; omega)]
  have w1 : 0 ≤ c.times.woods c.wood.toNat ∧ c.times.woods c.wood.toNat ≤ c.times.age := ho.woods.le _
  have p1 : 0 ≤ c.times.places c.place.toNat ∧ c.times.places c.place.toNat ≤ c.times.age := ho.places.le _
  have ha : 0 ≤ c.times.age ∧ c.times.age ≤ c.since := hage
  unfold m_cask_cask_rest
  simp only [Option.bind_some, hc, bindv]
  rw [w64_id (n := t - c.since) (by omega) (by omega)]
  by_cases hp : 0 < c.amount
  · rw [if_pos (by simpa using hp)]
    simp only [ew, ep, Option.bind_some, List.set_set]
    rw [w64_id (n := c.times.age + (t - c.since)) (by omega) (by omega), w64_id (n := c.times.woods c.wood.toNat + (t - c.since)) (by omega) (by omega), w64_id (n := c.times.places c.place.toNat + (t - c.since)) (by omega) (by omega)]
    simp only [restC, hp, if_true]
  · rw [if_neg (by simpa using hp)]
    simp only [restC, hp, if_false]
theorem mapGet_idx {num : Int} : ∀ (A1 : List CaskCask) (all : List Held) (k0 : Nat), A1.length = all.length → (∀ (k : Nat) (c : CaskCask) (h : Held), A1[k]? = some c → all[k]? = some h → h.C.Number = c.number) →
    (mapGet (A1.mapIdx (fun k c => (c.number, some (k0 + k)))) num).getD none = (findS all num).map (k0 + ·)
  | [], [], _, _, _ => rfl
  | [], _ :: _, _, h, _ => by simp at h
  | _ :: _, [], _, h, _ => by simp at h
  | c :: A1, h :: all, k0, hl, hn => by
    have h0 := hn 0 c h rfl rfl
    rw [List.mapIdx_cons]
    simp only [mapGet, findS]
    by_cases e : num = c.number
    · have e1 : (num == c.number) = true := by simpa using e
      have e2 : (h.C.Number == num) = true := by simp [h0, e]
      simp [e1, e2]
    · have e1 : (num == c.number) = false := by simpa using e
      have e2 : (h.C.Number == num) = false := by simp [h0]; exact fun e' => e e'.symm
      have ih := mapGet_idx (num := num) A1 all (k0 + 1) (by simpa using hl) (fun k c h h1 h2 => hn (k + 1) c h (by simpa using h1) (by simpa using h2))
      simp only [e1, e2, Bool.false_eq_true, if_false]
      have e3 : (fun (i : Nat) (a : CaskCask) => (a.number, some (k0 + (i + 1)))) = fun k c => (c.number, some (k0 + 1 + k)) := by funext i a; rw [show k0 + (i + 1) = k0 + 1 + i by omega]
      rw [e3, ih]
      cases findS all num with
      | none => rfl
      | some j => simp; omega
theorem PR.get {t : Int} {n : Nat} {all : List Held} {A1 : List CaskCask} {A3 : FM} {m : List (Int × Option Nat)} (r : PR t n all A1 A3 m) (num : Int) : (mapGet m num).getD none = findS all num := by
  have := mapGet_idx (num := num) A1 all 0 r.len (fun k c h h1 h2 => (r.each k c h h1 h2).number)
  rw [r.map]
  simpa using this
end Go.Proofs.Ytkedjmhhcekmiaa
end

section
namespace Go.Proofs.Ytkedjmhhcekmiaa
open Go.Dec
theorem CR.up {t : Int} {n : Nat} {A3 : FM} {c : CaskCask} {h : Held} (r : CR t n A3 c h) : CR t (n + 1) A3 c h := ⟨r.since, r.ok.up, r.eq, r.fills⟩
theorem FR.keep {A3 A3' : FM} {p : Option Nat} {F : List Int} (r : FR A3 p F) (h : ∀ q, p = some q → A3'[q]? = A3[q]?) : FR A3' p F := by
  cases p with
  | none => exact r
  | some q => obtain ⟨l, h1, h2⟩ := r; exact ⟨l, by rw [h q rfl]; exact h1, h2⟩
theorem mapIdx_set {A1 : List CaskCask} {k : Nat} {c c' : CaskCask} (hc : A1[k]? = some c) (hn : c'.number = c.number) : (A1.set k c').mapIdx (fun k c => (c.number, some k)) = A1.mapIdx (fun k (c : CaskCask) => (c.number, some k)) := by
  apply List.ext_getElem?
  intro i
  simp only [List.getElem?_mapIdx, List.getElem?_set]
  by_cases e : k = i
  · subst e
    have hlt := (List.getElem?_eq_some_iff.1 hc).1
    have hx := (List.getElem?_eq_some_iff.1 hc).2
    simp [hlt, hn, hx]
  · simp [e]
section
variable {t : Int} {n n' : Nat} {all : List Held} {A1 : List CaskCask} {A3 A3' : FM} {m : List (Int × Option Nat)} {k : Nat} {c c' : CaskCask} {h h' : Held}
theorem PR.set (r : PR t n all A1 A3 m) (hc : A1[k]? = some c) (hh : all[k]? = some h) (hn' : c'.number = c.number) (hcr : CR t n' A3' c' h') (hother : ∀ (i : Nat) (ci : CaskCask) (hi : Held), i ≠ k → A1[i]? = some ci → all[i]? = some hi → CR t n' A3' ci hi)
    (hap : ∀ (i : Nat) (ci : CaskCask) (q : Nat), i ≠ k → A1[i]? = some ci → ci.fills = some q → c'.fills ≠ some q) : PR t n' (all.set k h') (A1.set k c') A3' m := by
  have hk := (List.getElem?_eq_some_iff.1 hc).1
  have hk2 := (List.getElem?_eq_some_iff.1 hh).1
  refine ⟨by simpa using r.len, fun i ci hi h1 h2 => ?_, by rw [mapIdx_set hc hn']; exact r.map, fun i j ci cj q h1 h2 h3 h4 => ?_⟩
  · by_cases e : k = i
    · subst e
      rw [List.getElem?_set_self hk] at h1
      rw [List.getElem?_set_self hk2] at h2
      cases h1; cases h2; exact hcr
    · rw [List.getElem?_set_ne e] at h1 h2
      exact hother i ci hi (fun e' => e e'.symm) h1 h2
  · by_cases e : k = i
    · by_cases e2 : k = j
      · rw [← e, ← e2]
      · subst e
        rw [List.getElem?_set_self hk] at h1
        rw [List.getElem?_set_ne e2] at h2
        cases h1
        exact absurd h3 (hap j cj q (fun e' => e2 e'.symm) h2 h4)
    · rw [List.getElem?_set_ne e] at h1
      by_cases e2 : k = j
      · subst e2
        rw [List.getElem?_set_self hk] at h2
        cases h2
        exact absurd h4 (hap i ci q (fun e' => e e'.symm) h1 h3)
      · rw [List.getElem?_set_ne e2] at h2
        exact r.apart i j ci cj q h1 h2 h3 h4
theorem PR.set1 (r : PR t n all A1 A3 m) (hc : A1[k]? = some c) (hh : all[k]? = some h) (hn' : c'.number = c.number) (hcr : CR t (n + 1) A3 c' h') (hf : c'.fills = c.fills ∨ c'.fills = none) : PR t (n + 1) (all.set k h') (A1.set k c') A3 m :=
  r.set hc hh hn' hcr (fun i ci hi _ h1 h2 => (r.each i ci hi h1 h2).up) (fun i ci q hi h1 h2 h3 => by
    rcases hf with hf | hf
    · rw [hf] at h3; exact hi (r.apart i k ci c q h1 hc h2 h3)
    · rw [hf] at h3; cases h3)
theorem PR.rest (r : PR t n all A1 A3 m) (hc : A1[k]? = some c) : PR t n all (A1.set k (restC t c)) A3 m := by
  have hk := (List.getElem?_eq_some_iff.1 hc).1
  have hk2 : k < all.length := by rw [← r.len]; exact hk
  have hh : all[k]? = some all[k] := List.getElem?_eq_getElem hk2
  have := r.set (n' := n) (A3' := A3) (c' := restC t c) (h' := all[k]) hc hh rest_number (r.each k c _ hc hh).rest (fun i ci hi _ h1 h2 => r.each i ci hi h1 h2) (fun i ci q hi h1 h2 h3 => by
    rw [rest_fillsC] at h3; exact hi (r.apart i k ci c q h1 hc h2 h3))
  rwa [List.set_getElem_self] at this
theorem find_prog {x20 : CaskBook} {num : Int} (r : PR t n all A1 A3 m) (ht : t ≤ 1000000) (hb : x20.casks = some 0) :
    (findS all num = none ∧ m_cask_book_find A1 [x20] [m] (some 0) num t = some (.pan ⟨4⟩)) ∨
    (∃ k h c, findS all num = some k ∧ all[k]? = some h ∧ h.C.Number = num ∧ PR t n all (A1.set k c) A3 m ∧ (A1.set k c)[k]? = some c ∧ c.since = t ∧ h = rawOf c h.Fills ∧ HOk t n h ∧ m_cask_book_find A1 [x20] [m] (some 0) num t = some (.ok (some k, A1.set k c))) := by
  have hget := r.get num
  unfold m_cask_book_find
  simp only [Option.bind_some, List.getElem?_cons_zero, hb, hget]
  cases hf : findS all num with
  | none =>
    left
    exact ⟨rfl, rfl⟩
  | some k =>
    right
    obtain ⟨h, hh, hnum⟩ := find_some hf
    have hk2 := (List.getElem?_eq_some_iff.1 hh).1
    have hk : k < A1.length := by rw [r.len]; exact hk2
    have hc : A1[k]? = some A1[k] := List.getElem?_eq_getElem hk
    have hcr := r.each k _ h hc hh
    have hcr2 := hcr.rest
    have hraw : h = rawOf (restC t A1[k]) h.Fills := by
      have := hcr2.eq
      rw [rest_since, Int.sub_self, older_0] at this
      exact this
    have hok : HOk t n h := by
      have := hcr2.ok
      rw [rest_since, ← hraw] at this
      exact this
    refine ⟨k, h, restC t A1[k], rfl, hh, hnum, r.rest hc, List.getElem?_set_self hk, rest_since, hraw, hok, ?_⟩
    show bindX (m_cask_need true 4) _ _ = _
    have e1 : m_cask_need true 4 = some (.ok ()) := rfl
    rw [e1]
    simp only [bindX]
    rw [rest_prog hc hcr.ok hcr.since.1 hcr.since.2 ht]
    rfl
end
def Does (t : Int) (n : Nat) (r : List Held ⊕ Int) (o : Option (Out CaskMisfit (List CaskCask × FM × List (List (Int × Option Nat))))) : Prop := match r with
  | .inl all' => ∃ A1' A3' m', o = some (.ok (A1', A3', [m'])) ∧ PR t (n + 1) all' A1' A3' m'
  | .inr e => o = some (.pan ⟨e⟩) ∧ e ≠ 0
section
variable {t : Int} {n : Nat} {all : List Held} {A1 : List CaskCask} {A3 : FM} {m : List (Int × Option Nat)} {b : CaskBook} {x : Ev}
theorem CR.of_raw {c : CaskCask} {F : List Int} (h0 : 0 ≤ t) (hs : c.since = t) (ho : HOk t n (rawOf c F)) (hf : FR A3 c.fills F) : CR t n A3 c (rawOf c F) :=
  ⟨by omega, by rw [hs]; exact ho, by rw [hs, Int.sub_self, older_0]; rfl, hf⟩
theorem carry_prog (r : PR t n all A1 A3 m) (h0 : 0 ≤ t) (ht : t ≤ 65536) (hb : b.casks = some 0) (hv : evB x = true) (hk : x.Kind = 4) (hd : x.Day = t) : Does t n (doS all x n) (m_cask_book_carry A1 [b] A3 [m] (some 0) x) := by
  unfold m_cask_book_carry doS
  rw [if_neg (by rw [hk]; decide), hd]
  rcases find_prog (num := x.Cask) r (by omega) hb with ⟨hf, hm⟩ | ⟨k, h, c, hf, hh, hnum, hr, hc, hs, hraw, hok, hm⟩
  · rw [hf, hm]; exact ⟨rfl, by decide⟩
  · rw [hf, hm]
    simp only [hh, bindX, Option.bind_some, hc, bindv, List.set_set]
    have hact : actS all k h x n = carryD all k h x := by unfold actS; rw [hk]; rfl
    rw [hact]
    refine ⟨_, _, _, rfl, ?_⟩
    have hcr := hr.each k c h hc hh
    have h2 : PR t (n + 1) (all.set k (rawOf { c with place := x.Where } h.Fills)) ((A1.set k c).set k { c with place := x.Where }) A3 m := hr.set1 hc hh rfl (CR.of_raw h0 hs (by
      have := hok.up
      rw [hraw] at this
      exact { this with place := ev4 hv (.inl hk) }) hcr.fills) (.inl rfl)
    rw [List.set_set] at h2
    have e : rawOf { c with place := x.Where } h.Fills = { h with C := { h.C with Place := x.Where } } := by
      conv => rhs; rw [hraw]
      rfl
    rw [e] at h2
    exact h2
theorem turn1 {k : Nat} {h h' : Held} {c c' : CaskCask} {r : List Held ⊕ Int} (hr : PR t n all (A1.set k c) A3 m) (hh : all[k]? = some h) (hc : (A1.set k c)[k]? = some c) (h0 : 0 ≤ t) (hs : c'.since = t) (hn : c'.number = c.number) (hf : c'.fills = c.fills ∨ c'.fills = none) {F : List Int} (he : h' = rawOf c' F) (ho : HOk t (n + 1) h') (hfr : FR A3 c'.fills F) (hres : r = .inl (all.set k h')) : Does t n r (some (.ok (A1.set k c', A3, [m]))) := by
  subst hres
  subst he
  refine ⟨_, _, _, rfl, ?_⟩
  have h2 := hr.set1 hc hh hn (CR.of_raw h0 hs ho hfr) hf
  rwa [List.set_set] at h2
theorem creq {a : Int} (h : -1 ≤ a) : (a == (-1)) = !decide (a ≥ 0) := by
  by_cases e : a = -1
  · subst e; rfl
  · have h1 : (a == (-1)) = false := by simpa using e
    rw [h1, decide_eq_true (show a ≥ 0 by omega)]; rfl
theorem sell_prog (r : PR t n all A1 A3 m) (h0 : 0 ≤ t) (ht : t ≤ 65536) (hb : b.casks = some 0) (hv : evB x = true) (hk : x.Kind = 5) (hd : x.Day = t) : Does t n (doS all x n) (m_cask_book_sell A1 [b] A3 [m] (some 0) x) := by
  unfold m_cask_book_sell doS
  rw [if_neg (by rw [hk]; decide), hd]
  rcases find_prog (num := x.Cask) r (by omega) hb with ⟨hf, hm⟩ | ⟨k, h, c, hf, hh, hnum, hr, hc, hs, hraw, hok, hm⟩
  · rw [hf, hm]; exact ⟨rfl, by decide⟩
  · rw [hf, hm]
    simp only [hh, bindX, Option.bind_some, hc, bindv, List.set_set]
    have hact : actS all k h x n = sellD all k h x := by unfold actS; rw [hk]; rfl
    rw [hact]
    have hcr := hr.each k c h hc hh
    have ho : h.C.Owner = c.owner := by rw [hraw]; rfl
    have hcd : h.C.Creditor = c.creditor := by rw [hraw]; rfl
    have hcred := hok.cred
    rw [hcd] at hcred
    unfold sellD
    rw [ho, hcd]
    by_cases h1 : c.owner = x.Person
    · have e1 : (c.owner == x.Person) = true := by simpa using h1
      have e2 : (c.owner != x.Person) = false := by simpa using h1
      simp only [e1, e2, if_true, Bool.false_or, creq hcred.1]
      by_cases h2 : c.creditor ≥ 0
      · simp only [h2, decide_true, Bool.not_true, if_true]
        exact ⟨rfl, by decide⟩
      · simp only [h2, decide_false, Bool.not_false, Bool.false_eq_true, if_false]
        by_cases h3 : x.To = c.owner
        · have e3 : (x.To == c.owner) = true := by simpa using h3
          have e4 : (x.To != c.owner) = false := by simpa using h3
          simp only [e3, e4, if_true]
          exact ⟨rfl, by decide⟩
        · have e3 : (x.To == c.owner) = false := by simpa using h3
          have e4 : (x.To != c.owner) = true := by simpa using h3
          simp only [e3, e4, Bool.false_eq_true, if_false]
          exact turn1 (h' := { h with C := { h.C with Owner := x.To } }) (c' := { c with owner := x.To }) (F := h.Fills) hr hh hc h0 hs rfl (.inl rfl) (congrArg (fun z : Held => { z with C := { z.C with Owner := x.To } }) hraw) { hok.up with owner := ev5 hv (.inl hk) } hcr.fills rfl
    · have e1 : (c.owner == x.Person) = false := by simpa using h1
      have e2 : (c.owner != x.Person) = true := by simpa using h1
      simp only [e1, e2, Bool.true_or, if_true, Bool.false_eq_true, if_false]
      exact ⟨rfl, by decide⟩
theorem pledge_prog (r : PR t n all A1 A3 m) (h0 : 0 ≤ t) (ht : t ≤ 65536) (hb : b.casks = some 0) (hv : evB x = true) (hk : x.Kind = 6) (hd : x.Day = t) : Does t n (doS all x n) (m_cask_book_pledge A1 [b] A3 [m] (some 0) x) := by
  unfold m_cask_book_pledge doS
  rw [if_neg (by rw [hk]; decide), hd]
  rcases find_prog (num := x.Cask) r (by omega) hb with ⟨hf, hm⟩ | ⟨k, h, c, hf, hh, hnum, hr, hc, hs, hraw, hok, hm⟩
  · rw [hf, hm]; exact ⟨rfl, by decide⟩
  · rw [hf, hm]
    simp only [hh, bindX, Option.bind_some, hc, bindv, List.set_set]
    have hact : actS all k h x n = pledgeD all k h x := by unfold actS; rw [hk]; rfl
    rw [hact]
    have hcr := hr.each k c h hc hh
    have ho : h.C.Owner = c.owner := by rw [hraw]; rfl
    have hcd : h.C.Creditor = c.creditor := by rw [hraw]; rfl
    have hcred := hok.cred
    rw [hcd] at hcred
    unfold pledgeD
    rw [ho, hcd]
    by_cases h1 : c.owner = x.Person
    · have e1 : (c.owner == x.Person) = true := by simpa using h1
      have e2 : (c.owner != x.Person) = false := by simpa using h1
      simp only [e1, e2, Bool.false_eq_true, if_false, creq hcred.1]
      by_cases h2 : c.creditor ≥ 0
      · simp only [h2, decide_true, Bool.not_true, if_true]
        exact ⟨rfl, by decide⟩
      · simp only [h2, decide_false, Bool.not_false, if_false]
        have := ev5 hv (.inr hk)
        exact turn1 (h' := { h with C := { h.C with Creditor := x.To } }) (c' := { c with creditor := x.To }) (F := h.Fills) hr hh hc h0 hs rfl (.inl rfl) (congrArg (fun z : Held => { z with C := { z.C with Creditor := x.To } }) hraw) { hok.up with cred := ⟨by show -1 ≤ x.To; omega, this.2⟩ } hcr.fills rfl
    · have e1 : (c.owner == x.Person) = false := by simpa using h1
      have e2 : (c.owner != x.Person) = true := by simpa using h1
      simp only [e1, e2, if_true]
      exact ⟨rfl, by decide⟩
theorem free_prog (r : PR t n all A1 A3 m) (h0 : 0 ≤ t) (ht : t ≤ 65536) (hb : b.casks = some 0) (_hv : evB x = true) (hk : x.Kind = 7) (hd : x.Day = t) : Does t n (doS all x n) (m_cask_book_free A1 [b] A3 [m] (some 0) x) := by
  unfold m_cask_book_free doS
  rw [if_neg (by rw [hk]; decide), hd]
  rcases find_prog (num := x.Cask) r (by omega) hb with ⟨hf, hm⟩ | ⟨k, h, c, hf, hh, hnum, hr, hc, hs, hraw, hok, hm⟩
  · rw [hf, hm]; exact ⟨rfl, by decide⟩
  · rw [hf, hm]
    simp only [hh, bindX, Option.bind_some, hc, bindv, List.set_set]
    have hact : actS all k h x n = freeD all k h x := by unfold actS; rw [hk]; rfl
    rw [hact]
    have hcr := hr.each k c h hc hh
    have hcd : h.C.Creditor = c.creditor := by rw [hraw]; rfl
    unfold freeD
    rw [hcd]
    by_cases h1 : c.creditor = x.Person
    · have e1 : (c.creditor == x.Person) = true := by simpa using h1
      have e2 : (c.creditor != x.Person) = false := by simpa using h1
      simp only [e1, e2, Bool.false_eq_true, if_false]
      exact turn1 (h' := { h with C := { h.C with Creditor := -1 } }) (c' := { c with creditor := -1 }) (F := h.Fills) hr hh hc h0 hs rfl (.inl rfl) (congrArg (fun z : Held => { z with C := { z.C with Creditor := -1 } }) hraw) { hok.up with cred := ⟨Int.le_refl _, by show (-1:Int) ≤ _; omega⟩ } hcr.fills rfl
    · have e1 : (c.creditor == x.Person) = false := by simpa using h1
      have e2 : (c.creditor != x.Person) = true := by simpa using h1
      simp only [e1, e2, if_true]
      exact ⟨rfl, by decide⟩
theorem char_prog (r : PR t n all A1 A3 m) (h0 : 0 ≤ t) (ht : t ≤ 65536) (hb : b.casks = some 0) (hv : evB x = true) (hk : x.Kind = 8) (hd : x.Day = t) : Does t n (doS all x n) (m_cask_book_char A1 [b] A3 [m] (some 0) x) := by
  unfold m_cask_book_char doS
  rw [if_neg (by rw [hk]; decide), hd]
  rcases find_prog (num := x.Cask) r (by omega) hb with ⟨hf, hm⟩ | ⟨k, h, c, hf, hh, hnum, hr, hc, hs, hraw, hok, hm⟩
  · rw [hf, hm]; exact ⟨rfl, by decide⟩
  · rw [hf, hm]
    simp only [hh, bindX, Option.bind_some, hc, bindv, List.set_set]
    have hact : actS all k h x n = charD all k h x := by unfold actS; rw [hk]; rfl
    rw [hact]
    have hcr := hr.each k c h hc hh
    have hca : h.C.Amount = c.amount := by rw [hraw]; rfl
    have hamt := hok.amt
    rw [hca] at hamt
    unfold charD
    rw [hca]
    by_cases h1 : c.amount = 0
    · have e1 : (c.amount == 0) = true := by simpa using h1
      have e2 : ¬ c.amount > 0 := by omega
      simp only [e1, e2, if_false]
      exact turn1 (h' := { h with C := { h.C with Wood := x.Where } }) (c' := { c with wood := x.Where }) (F := h.Fills) hr hh hc h0 hs rfl (.inl rfl) (congrArg (fun z : Held => { z with C := { z.C with Wood := x.Where } }) hraw) { hok.up with wood := ev4 hv (.inr hk) } hcr.fills rfl
    · have e1 : (c.amount == 0) = false := by simpa using h1
      have e2 : c.amount > 0 := by omega
      simp only [e1, e2, if_true]
      exact ⟨rfl, by decide⟩
end
end Go.Proofs.Ytkedjmhhcekmiaa
end

section
namespace Go.Proofs.Ytkedjmhhcekmiaa
open Go.Dec
def drawC (c : CaskCask) (n : Int) : CaskCask := if c.amount - n == 0 then { c with amount := 0, times := ⟨0, zN, zN⟩, fills := none } else { c with amount := c.amount - n }
theorem raw_draw {c : CaskCask} {n : Int} {F : List Int} : lessS (rawOf c F) n = rawOf (drawC c n) (lessS (rawOf c F) n).Fills := by
  unfold lessS drawC
  by_cases e : (c.amount - n == 0) = true
  · rw [if_pos e, if_pos (show ((rawOf c F).C.Amount - n == 0) = true from e)]; rfl
  · rw [if_neg e, if_neg (show ¬ ((rawOf c F).C.Amount - n == 0) = true from e)]; rfl
theorem draw_fills {c : CaskCask} {n : Int} : (drawC c n).fills = c.fills ∨ (drawC c n).fills = none := by
  unfold drawC; split
  · exact .inr rfl
  · exact .inl rfl
theorem draw_since {c : CaskCask} {n : Int} : (drawC c n).since = c.since := by unfold drawC; split <;> rfl
theorem draw_number {c : CaskCask} {n : Int} : (drawC c n).number = c.number := by unfold drawC; split <;> rfl
theorem draw_FR {A3 : FM} {c : CaskCask} {n : Int} {F : List Int} (h : FR A3 c.fills F) : FR A3 (drawC c n).fills (lessS (rawOf c F) n).Fills := by
  unfold lessS drawC
  by_cases e : (c.amount - n == 0) = true
  · rw [if_pos e, if_pos (show ((rawOf c F).C.Amount - n == 0) = true from e)]; rfl
  · rw [if_neg e, if_neg (show ¬ ((rawOf c F).C.Amount - n == 0) = true from e)]; exact h
theorem draw_prog {A1 : List CaskCask} {k : Nat} {c : CaskCask} {n : Int} (hc : A1[k]? = some c) (h1 : 0 ≤ c.amount ∧ c.amount ≤ 1099511627776) (h2 : 0 ≤ n ∧ n ≤ 1099511627776) : m_cask_cask_draw A1 (some k) n = some (A1.set k (drawC c n)) := by
  unfold m_cask_cask_draw
  simp only [Option.bind_some, hc, bindv, List.set_set]
  rw [w64_id (n := c.amount - n) (by omega) (by omega)]
  unfold drawC
  by_cases e : (c.amount - n == 0) = true
  · have e0 : c.amount - n = 0 := beq_iff_eq.1 e
    rw [if_pos e, if_pos e]
    simp only [e0]
  · rw [if_neg e, if_neg e]
section
variable {t : Int} {n : Nat} {all : List Held} {A1 : List CaskCask} {A3 : FM} {m : List (Int × Option Nat)} {b : CaskBook} {x : Ev}
theorem drain_prog (r : PR t n all A1 A3 m) (h0 : 0 ≤ t) (ht : t ≤ 65536) (hb : b.casks = some 0) (hv : evB x = true) (hk : x.Kind = 3) (hd : x.Day = t) : Does t n (doS all x n) (m_cask_book_drain A1 [b] A3 [m] (some 0) x) := by
  unfold m_cask_book_drain doS
  rw [if_neg (by rw [hk]; decide), hd]
  rcases find_prog (num := x.Cask) r (by omega) hb with ⟨hf, hm⟩ | ⟨k, h, c, hf, hh, hnum, hr, hc, hs, hraw, hok, hm⟩
  · rw [hf, hm]; exact ⟨rfl, by decide⟩
  · rw [hf, hm]
    simp only [hh, bindX, Option.bind_some, hc]
    have hact : actS all k h x n = drainD all k h x := by unfold actS; rw [hk]; rfl
    rw [hact]
    have hcr := hr.each k c h hc hh
    have hca : h.C.Amount = c.amount := by rw [hraw]; rfl
    have hcd : h.C.Creditor = c.creditor := by rw [hraw]; rfl
    have hcred := hok.cred
    have hamt := hok.amt
    have hroom := hok.room
    rw [hca] at hamt
    rw [hcd] at hcred
    have ha := evAmt hv (.inr (.inr hk))
    unfold drainD
    rw [hca, hcd, creq hcred.1]
    by_cases h1 : c.creditor ≥ 0
    · simp only [h1, decide_true, Bool.not_true, if_true]
      exact ⟨rfl, by decide⟩
    · simp only [h1, decide_false, Bool.not_false, if_false]
      by_cases h2 : c.amount < x.Amount
      · have e2 : decide (c.amount ≥ x.Amount) = false := decide_eq_false (by omega)
        simp only [h2, e2, if_true]
        exact ⟨rfl, by decide⟩
      · have e2 : decide (c.amount ≥ x.Amount) = true := decide_eq_true (by omega)
        simp only [h2, e2, if_false]
        show Does t n _ ((m_cask_cask_draw (A1.set k c) (some k) x.Amount).bind fun r_60 => some (.ok (r_60, A3, [m])))
        rw [draw_prog hc (by omega) (by omega), Option.bind_some, List.set_set]
        have hls : lessS h x.Amount = rawOf (drawC c x.Amount) (lessS (rawOf c h.Fills) x.Amount).Fills := by rw [← raw_draw, ← hraw]
        exact turn1 (h' := lessS h x.Amount) (c' := drawC c x.Amount) hr hh hc h0 (by rw [draw_since]; exact hs) draw_number draw_fills hls (less_ok hok.up ha.1 (by omega) h0) (draw_FR hcr.fills) rfl
theorem mapSet_idx {num : Int} {v : Option Nat} : ∀ (A1 : List CaskCask) (k0 : Nat), (∀ c ∈ A1, c.number ≠ num) → mapSet (A1.mapIdx (fun k c => (c.number, some (k0 + k)))) num v = A1.mapIdx (fun k c => (c.number, some (k0 + k))) ++ [(num, v)]
  | [], _, _ => rfl
  | c :: A1, k0, h => by
    rw [List.mapIdx_cons]
    have e1 : (num == c.number) = false := by simpa using (fun e => h c (by simp) e.symm)
    have e3 : (fun (i : Nat) (a : CaskCask) => (a.number, some (k0 + (i + 1)))) = fun k c => (c.number, some (k0 + 1 + k)) := by funext i a; rw [show k0 + (i + 1) = k0 + 1 + i by omega]
    simp only [mapSet, e1, Bool.false_eq_true, if_false, e3, List.cons_append]
    rw [mapSet_idx A1 (k0 + 1) (fun c hc => h c (List.mem_cons_of_mem _ hc))]
def newC (x : Ev) : CaskCask := ⟨x.Cask, x.Other, x.Where, x.Amount, x.Person, -1, 0, x.Day, ⟨0, zN, zN⟩, none⟩
theorem build_prog (r : PR t n all A1 A3 m) (ho : AOk t n all) (h0 : 0 ≤ t) (hb : b.casks = some 0) (hv : evB x = true) (hk : x.Kind = 0) (hd : x.Day = t) : Does t n (doS all x n) (m_cask_book_build A1 [b] A3 [m] (some 0) x) := by
  have hmk := fun l' h => make_ok (l' := l') ho h0 hv hk h
  have hml : m.length = all.length := by rw [r.map, List.length_mapIdx, r.len]
  unfold m_cask_book_build doS
  rw [if_pos (by rw [hk]; rfl)]
  simp only [Option.bind_some, List.getElem?_cons_zero, hb, r.get]
  unfold makeD at hmk ⊢
  cases hf : findS all x.Cask with
  | some k =>
    simp only [Option.isSome_some, if_true]
    exact ⟨rfl, by decide⟩
  | none =>
    rw [hf] at hmk
    simp only [Option.isSome_none, Bool.false_eq_true, if_false] at hmk ⊢
    by_cases hfull : 256 ≤ all.length
    · have e : decide ((m.length : Int) < 256) = false := decide_eq_false (by omega)
      simp only [hfull, e, if_true]
      exact ⟨rfl, by decide⟩
    · have e : decide ((m.length : Int) < 256) = true := decide_eq_true (by omega)
      simp only [hfull, e, if_false] at hmk ⊢
      have hnew := hmk _ rfl
      have hokn : HOk t (n + 1) (newS x) := hnew.each _ (by simp)
      refine ⟨A1 ++ [newC x], A3, mapSet m x.Cask (some A1.length), ?_, ?_⟩
      · rfl
      · refine ⟨by simp [r.len], fun k c h hc hh => ?_, ?_, fun i j ci cj q h1 h2 h3 h4 => ?_⟩
        · by_cases e : k < A1.length
          · rw [List.getElem?_append_left e] at hc
            rw [List.getElem?_append_left (by rw [← r.len]; exact e)] at hh
            exact (r.each k c h hc hh).up
          · have hk1 := (List.getElem?_eq_some_iff.1 hc).1
            have ek : k = A1.length := by simp at hk1; omega
            rw [ek, List.getElem?_append_right (Nat.le_refl _)] at hc
            rw [ek, r.len, List.getElem?_append_right (Nat.le_refl _)] at hh
            simp only [Nat.sub_self, List.getElem?_cons_zero, Option.some.injEq] at hc hh
            subst hc; subst hh
            exact CR.of_raw (c := newC x) (F := []) h0 hd hokn rfl
        · rw [r.map]
          have h1 : ∀ c ∈ A1, c.number ≠ x.Cask := fun c hc => by
            obtain ⟨k, hk⟩ := List.getElem?_of_mem hc
            have hk1 := (List.getElem?_eq_some_iff.1 hk).1
            have hk2 : all[k]? = some (all[k]'(by rw [← r.len]; exact hk1)) := List.getElem?_eq_getElem _
            have := find_none hf _ (List.mem_of_getElem? hk2)
            rw [(r.each k c _ hk hk2).number] at this
            exact this
          have h2 := mapSet_idx (num := x.Cask) (v := some A1.length) A1 0 h1
          simp only [Nat.zero_add] at h2
          rw [h2]
          apply List.ext_getElem?
          intro i
          simp only [List.getElem?_mapIdx, List.getElem?_append, List.length_mapIdx]
          by_cases e : i < A1.length
          · simp [e]
          · simp only [e, if_false]
            by_cases e2 : i = A1.length
            · subst e2; simp [newC]
            · have : ∃ d, i - A1.length = d + 1 := ⟨i - A1.length - 1, by omega⟩
              obtain ⟨d, hd'⟩ := this
              rw [hd']; simp
        · by_cases e : i < A1.length
          · rw [List.getElem?_append_left e] at h1
            by_cases e2 : j < A1.length
            · rw [List.getElem?_append_left e2] at h2
              exact r.apart i j ci cj q h1 h2 h3 h4
            · have hj1 := (List.getElem?_eq_some_iff.1 h2).1
              have ek : j = A1.length := by simp at hj1; omega
              rw [ek, List.getElem?_append_right (Nat.le_refl _)] at h2
              simp only [Nat.sub_self, List.getElem?_cons_zero, Option.some.injEq] at h2
              subst h2; cases h4
          · have hj1 := (List.getElem?_eq_some_iff.1 h1).1
            have ek : i = A1.length := by simp at hj1; omega
            rw [ek, List.getElem?_append_right (Nat.le_refl _)] at h1
            simp only [Nat.sub_self, List.getElem?_cons_zero, Option.some.injEq] at h1
            subst h1; cases h3
end
end Go.Proofs.Ytkedjmhhcekmiaa
end

section
namespace Go.Proofs.Ytkedjmhhcekmiaa
open Go.Dec
section
variable {V : Type}
theorem mem_mapSet {x k : Int} {v : V} : ∀ {l : List (Int × V)}, x ∈ (mapSet l k v).map Prod.fst ↔ x = k ∨ x ∈ l.map Prod.fst
  | [] => by simp [mapSet]
  | y :: l => by
    simp only [mapSet]
    by_cases e : k = y.1
    · have e1 : (k == y.1) = true := by simpa using e
      rw [if_pos e1]
      simp [e]
    · have e1 : (k == y.1) = false := by simpa using e
      rw [e1]
      simp only [Bool.false_eq_true, if_false, List.map_cons, List.mem_cons, mem_mapSet (l := l)]
      constructor
      · rintro (h | h | h)
        · exact .inr (.inl h)
        · exact .inl h
        · exact .inr (.inr h)
      · rintro (h | h | h)
        · exact .inr (.inl h)
        · exact .inl h
        · exact .inr (.inr h)
def copyF (a l : List (Int × V)) : List (Int × V) := l.foldl (fun a x => mapSet a x.1 x.2) a
theorem copy_nodup : ∀ {l a : List (Int × V)}, (a.map Prod.fst).Nodup → ((copyF a l).map Prod.fst).Nodup
  | [], _, h => h
  | x :: l, a, h => copy_nodup (l := l) (a := mapSet a x.1 x.2) (mapSet_nodup h)
theorem mem_copy {x : Int} : ∀ {l a : List (Int × V)}, x ∈ (copyF a l).map Prod.fst ↔ x ∈ a.map Prod.fst ∨ x ∈ l.map Prod.fst
  | [], a => by simp [copyF]
  | y :: l, a => by
    have := mem_copy (x := x) (l := l) (a := mapSet a y.1 y.2)
    have e : copyF a (y :: l) = copyF (mapSet a y.1 y.2) l := rfl
    rw [e, this, mem_mapSet]
    simp only [List.map_cons, List.mem_cons]
    constructor
    · rintro ((h | h) | h)
      · exact .inr (.inl h)
      · exact .inl h
      · exact .inr (.inr h)
    · rintro (h | h | h)
      · exact .inl (.inr h)
      · exact .inl (.inl h)
      · exact .inr h
theorem copy_base : ∀ {l a a' : List (Int × V)}, a'.Perm a → (a.map Prod.fst).Nodup → (copyF a' l).Perm (copyF a l)
  | [], _, _, h, _ => h
  | _x :: l, _a, _a', h, hn => copy_base (l := l) (mapSet_perm h hn) (mapSet_nodup hn)
theorem mapSet_comm {a : List (Int × V)} {x y : Int} {u v : V} (hn : (a.map Prod.fst).Nodup) (h : x ≠ y) : (mapSet (mapSet a x u) y v).Perm (mapSet (mapSet a y v) x u) := by
  have h1 : (mapSet (mapSet a x u) y v).Perm ((y, v) :: (x, u) :: (a.filter (fun z => !(x == z.1))).filter (fun z => !(y == z.1))) := by
    refine (mapSet_filter (mapSet_nodup hn)).trans (.cons _ ?_)
    refine ((mapSet_filter hn).filter _).trans (.of_eq ?_)
    rw [List.filter_cons, if_pos (by simpa using h.symm)]
  have h2 : (mapSet (mapSet a y v) x u).Perm ((x, u) :: (y, v) :: (a.filter (fun z => !(y == z.1))).filter (fun z => !(x == z.1))) := by
    refine (mapSet_filter (mapSet_nodup hn)).trans (.cons _ ?_)
    refine ((mapSet_filter hn).filter _).trans (.of_eq ?_)
    rw [List.filter_cons, if_pos (by simpa using h)]
  refine h1.trans ((List.Perm.swap _ _ _).trans ?_)
  refine List.Perm.trans (.of_eq ?_) h2.symm
  congr 2
  rw [List.filter_filter, List.filter_filter]
  exact List.filter_congr fun z _ => Bool.and_comm _ _
theorem copy_perm {l l' : List (Int × V)} (h : l'.Perm l) : ∀ {a : List (Int × V)}, (a.map Prod.fst).Nodup → (l.map Prod.fst).Nodup → (copyF a l').Perm (copyF a l) := by
  induction h with
  | nil => intro a _ _; exact .refl _
  | cons x _ ih =>
    intro a ha hl
    simp only [List.map_cons, List.nodup_cons] at hl
    exact ih (mapSet_nodup ha) hl.2
  | swap x y l =>
    intro a ha hl
    simp only [List.map_cons, List.nodup_cons, List.mem_cons, not_or] at hl
    exact copy_base (mapSet_comm ha (fun e => hl.1.1 e.symm)) (mapSet_nodup (mapSet_nodup ha))
  | trans h1 h2 ih1 ih2 =>
    intro a ha hl
    exact (ih1 ha ((h2.map Prod.fst).nodup_iff.2 hl)).trans (ih2 ha hl)
end
theorem forL_copy {q j : Nat} (hq : q ≠ j) : ∀ (l : List (Int × Bool)) (s : FM) (lq : List (Int × Bool)), s[q]? = some lq → forL (b_maps_Copy_bool_1 (some q) j) l s = some (s.set q (copyF lq l))
  | [], s, lq, h => by
    have := set_back h
    simp only [forL, copyF, List.foldl_nil]
    rw [← this]
  | x :: l, s, lq, h => by
    have hlt := (List.getElem?_eq_some_iff.1 h).1
    have e : b_maps_Copy_bool_1 (some q) j x s = some (s.set q (mapSet lq x.1 x.2)) := by
      unfold b_maps_Copy_bool_1 neO
      simp only [Option.bind_some, if_neg hq, h, bindv]
    simp only [forL, e, Option.bind_some]
    rw [forL_copy hq l _ (mapSet lq x.1 x.2) (List.getElem?_set_self hlt), List.set_set]
    rfl
theorem copy_prog {A : FM} {q j : Nat} {lq lj : List (Int × Bool)} (hq : q ≠ j) (h1 : A[q]? = some lq) (h2 : A[j]? = some lj) (hn : (lq.map Prod.fst).Nodup) (hn2 : (lj.map Prod.fst).Nodup) : m_maps_Copy_bool A (some q) (some j) = some (A.set q (copyF lq lj)) := by
  unfold m_maps_Copy_bool
  simp only [Option.bind_some, h2]
  have hp : permE PermL (b_maps_Copy_bool_1 (some q) j) lj A = some (A.set q (copyF lq lj)) := by
    refine permE_of (forL_copy hq lj A lq h1) fun l' hl' => ⟨_, forL_copy hq l' A lq h1, by simp, fun i x y hx hy => ?_⟩
    have hlt := (List.getElem?_eq_some_iff.1 h1).1
    by_cases e : q = i
    · subst e
      rw [List.getElem?_set_self hlt] at hx hy
      cases hx; cases hy
      exact copy_perm hl' hn hn2
    · rw [List.getElem?_set_ne e] at hx hy
      rw [hx] at hy; cases hy; exact .refl _
  rw [hp, Option.bind_some]
  have : (A.set q (copyF lq lj))[j]? = some lj := by rw [List.getElem?_set_ne hq]; exact h2
  rw [← set_back this]
theorem least_doc (a u : CaskTimes) : m_cask_times_least a u = some ⟨imin a.age u.age, minN a.woods u.woods, minN a.places u.places⟩ := by
  obtain ⟨t1, ht1, hl1⟩ := loopM_upto (body := b_cask_times_least_1 u) (fun i (t : CaskTimes) => ((i : Int), t)) (fun t => t) (fun i t => t = { a with age := imin a.age u.age, woods := minI i a.woods u.woods }) 8
    (fun i t hi ht => by
      have hw : w64 ((i : Int) + 1) = ((i + 1 : Nat) : Int) := by rw [w64_id (by omega) (by omega)]; rfl
      have hm : (minI i a.woods u.woods) i = a.woods i := by unfold minI; rw [if_neg (by omega)]
      refine ⟨_, ?_, rfl⟩
      unfold b_cask_times_least_1
      rw [if_pos (by simp; omega), idxO_nat hi]
      simp only [Option.bind_some, bindv, hw, ht, hm]
      rw [minI_step])
    (fun t ht => by
      unfold b_cask_times_least_1
      rw [if_neg (by simp)]) 8 0 { a with age := imin a.age u.age } rfl (by rw [minI_0])
  obtain ⟨t2, ht2, hl2⟩ := loopM_upto (body := b_cask_times_least_2 u) (fun i (t : CaskTimes) => ((i : Int), t)) (fun t => t) (fun i t => t = { a with age := imin a.age u.age, woods := minN a.woods u.woods, places := minI i a.places u.places }) 8
    (fun i t hi ht => by
      have hw : w64 ((i : Int) + 1) = ((i + 1 : Nat) : Int) := by rw [w64_id (by omega) (by omega)]; rfl
      have hm : (minI i a.places u.places) i = a.places i := by unfold minI; rw [if_neg (by omega)]
      refine ⟨_, ?_, rfl⟩
      unfold b_cask_times_least_2
      rw [if_pos (by simp; omega), idxO_nat hi]
      simp only [Option.bind_some, bindv, hw, ht, hm]
      rw [minI_step])
    (fun t ht => by
      unfold b_cask_times_least_2
      rw [if_neg (by simp)]) 8 0 t1 rfl (by rw [ht1, minI_0]; rfl)
  unfold m_cask_times_least
  simp only [bindv]
  have h1 : loopM (b_cask_times_least_1 u) (0, { a with age := imin a.age u.age }) = some t1 := hl1
  have h2 : loopM (b_cask_times_least_2 u) (0, t1) = some t2 := hl2
  refine bind_of h1 (bind_of h2 ?_)
  rw [ht2]; rfl
end Go.Proofs.Ytkedjmhhcekmiaa
end
