/- Own texts and texts printed by a program of mine, for caskApart_holds; only what it reaches. -/
import Derived.Test.YtkedjmhhcekmiaaPg3
section
namespace Go.Proofs.Ytkedjmhhcekmiaa
open Go.Dec Go.Shelf Go.RowKit Go.Maps Go.Sort
def m_cask_within (n_1 : Int) (least2 : Int) (most3 : Int) : Bool :=
 ((decide (n_1 ≥ least2)) && (decide (n_1 ≤ most3)))
theorem c_cask_within (F0 : Fz) (n_1 : Int) (least2 : Int) (most3 : Int) : CT0 Try.prog 31 [(.int .i64 n_1), (.int .i64 least2), (.int .i64 most3)].toArray F0 (some (m_cask_within n_1 least2 most3)) (fun r _ v => v = (.bool r)) := by
 refine CT0.enter Try.func31 rfl Try.ntmps31 rfl fun r R => ?_
 refine .seq ?_
 refine .region ?_
 refine .assign rfl rfl ?_
 refine .nil ?_
 refine .code ?_
 refine .seq ?_
 refine .region ?_
 refine .move rfl rfl ?_
 refine .move rfl rfl ?_
 refine .geq rfl rfl rfl ?_
 refine .move rfl rfl ?_
 refine .andP (b := (decide (n_1 ≥ least2))) (b' := (decide (n_1 ≤ most3))) 4 14 (fun hb4 => ?_) (fun hb5 => ?_) (fun F_6 l_7 => ?_)
 ·skip
  refine .onH hb4 rfl rfl ?_
  refine .move rfl rfl ?_
  refine .onH hb4 rfl rfl ?_
  refine .move rfl rfl ?_
  refine .onH hb4 rfl rfl ?_
  refine .leq rfl rfl rfl ?_
  refine .pickTH hb4 rfl rfl rfl ?_
  exact .fin 4 rfl rfl (by kernel_rfl) (Fz.le_refl _)
 ·skip
  refine .offH hb5 rfl rfl rfl ?_
  refine .offH hb5 rfl rfl rfl ?_
  refine .offH hb5 rfl rfl rfl ?_
  refine .pickFH hb5 rfl rfl rfl ?_
  exact .fin 4 rfl rfl (by kernel_rfl) (Fz.le_refl _)
 refine .assign rfl rfl ?_
 refine .nil ?_
 refine .code ?_
 exact .ret0 Try.results31 (.tmp rfl (.nil)) (i := 0) rfl l_7 rfl
set_option maxHeartbeats 4000000 in
theorem c_cask_play_1 (F0 : Fz) (b1 : Nat) (_x2 : (Option Nat)) (p3 : Option Addr) (_k4 : Unit) (b5 : Nat) (x6 : Int) : CTV Try.prog penc 32 [(.pointer (some ⟨b1, 0, none⟩)), (.pointer (some ⟨b5, 0, none⟩))].toArray F0 [pt b1 (.cells [(.pointer p3)].toArray 54), pt b5 (.cells [(.int .i64 x6)].toArray 26)] (fun (q : CaskMisfit) _F' => [pt b1 (.cells [(.pointer none)].toArray 54), pt b5 (.cells [(.int .i64 q.e)].toArray 26)]) := by
 refine CTV.mk (n := 18) Try.func32 rfl Try.ntmps32 rfl rfl rfl (fun R => ?_) (fun q R => ?_)
 ·skip
  refine .norm (Sub.refl _) (rfl : _ = [pt b1 (.cells [(.pointer p3)].toArray 54), pt b5 (.cells [(.int .i64 x6)].toArray 26), R]) ?_
  refine .seq ?_
  refine .region ?_
  refine .move rfl rfl ?_
  refine .neqNil0 rfl Try.underlying20 rfl ?_
  refine .nil ?_
  refine .code ?_
  refine .condF rfl ?_
  refine .skip ?_
  exact .nil (end_postI [0, 0, 0] Try.results32 rfl)
 ·skip
  refine .norm (Sub.refl _) (rfl : _ = [pt b1 (.cells [(.pointer p3)].toArray 54), pt b5 (.cells [(.int .i64 x6)].toArray 26), R]) ?_
  refine .seq ?_
  refine .region ?_
  refine .move rfl rfl ?_
  refine .neqNil1 rfl Try.underlying20 rfl ?_
  refine .nil ?_
  refine .code ?_
  refine .condT rfl ?_
  refine .seq ?_
  refine .region ?_
  refine .move rfl rfl ?_
  refine .assertOk rfl Try.underlying82 (by intro ms h; cases h) rfl ?_
  refine .move rfl rfl ?_
  refine .extract rfl rfl rfl ?_
  refine .extract rfl rfl rfl ?_
  refine .alloc (cs := (cCaskMisfit (CaskMisfit.mk 0))) rfl Try.zeroValue82 rfl (fun b7 => ?_)
  refine .store (cs' := (cCaskMisfit q)) Try.sizeOf82 rfl rfl rfl rfl (i := 0) rfl (Nat.le_of_ble_eq_true rfl) rfl rfl ?_
  refine .assign rfl rfl ?_
  refine .nil ?_
  refine .code ?_
  refine .seq ?_
  refine .seq ?_
  refine .region ?_
  refine .move rfl rfl ?_
  refine .not rfl rfl ?_
  refine .nil ?_
  refine .code ?_
  refine .condF rfl ?_
  refine .skip ?_
  refine .code ?_
  refine .keep (.cons (k := 0) rfl (.cons (k := 1) rfl (.cons (k := 3) rfl (.nil _)))) ?_
  refine .drawG 3 0 (fun env15 => [((.pointer (some ⟨b7, 0 + 0, none⟩)), fun _ => True), ((.int .i64 q.e), fun _ => True), (undef, fun _ => True)]) (fun L env15 => [pt b7 (.cells (cCaskMisfit q).toArray 82), (bif L 2 then (pt b1 (.cells [(.pointer none)].toArray 54)) else (pt b1 (.cells [(.pointer p3)].toArray 54))), pt b5 (.cells [(.int .i64 x6)].toArray 26), R]) mixedOK (by kernel_rfl) (by kernel_rfl) rfl (fun _ => rfl) (by kernel_rfl) (fun _ => rfl) ?_ (fun env15 F_16 l_17 hphi => ?_)
  ·skip
   refine .cons (fun L env15 F_18 l_19 hL hdn hup hphi => ⟨[(3, (.pointer (some ⟨b7, 0, none⟩)))], fun S hS hV => (.cons (hS _ _ rfl) (Sub.nil _)), ?_⟩) ?_
   ·skip
    refine .fieldAddr rfl Try.underlying82 rfl Try.sizeOf26 rfl ?_
    exact .finV rfl rfl (Fz.le_refl _)
   refine .cons (fun L env15 F_20 l_21 hL hdn hup hphi => ⟨[(16, (.pointer (some ⟨b7, 0 + 0, none⟩)))], fun S hS hV => (.cons (hV 0 16 _ (hdn 1 0 rfl) rfl rfl) (Sub.nil _)), ?_⟩) ?_
   ·skip
    refine .loadO rfl Try.isAgg26 rfl (i := 0) rfl rfl ?_
    exact .finV rfl rfl (Fz.le_refl _)
   refine .cons (fun L env15 F_22 l_23 hL hdn hup hphi => ⟨[(0, (.pointer (some ⟨b1, 0, none⟩)))], fun S hS hV => (.cons (hS _ _ rfl) (Sub.nil _)), ?_⟩) ?_
   ·skip
    refine .store (cs' := [(.pointer none)]) Try.sizeOf54 rfl rfl rfl rfl (i := 1) (congrArg some (condF hL)) (Nat.le_of_ble_eq_true rfl) rfl rfl ?_
    exact .finS rfl (Fz.le_refl _) (setC 1 (condT rfl))
   exact .nil
  refine .norm (S' := [(0, (.pointer (some ⟨b1, 0, none⟩))), (1, (.pointer (some ⟨b5, 0, none⟩))), (3, (.pointer (some ⟨b7, 0, none⟩))), (16, (.pointer (some ⟨b7, 0 + 0, none⟩))), (17, (.int .i64 q.e))]) (.cons (k := 0) rfl (.cons (k := 1) rfl (.cons (k := 3) rfl (.cons (k := 16) rfl (.cons (k := 17) rfl (.nil _)))))) (rfl : _ = [pt b7 (.cells (cCaskMisfit q).toArray 82), pt b1 (.cells [(.pointer none)].toArray 54), pt b5 (.cells [(.int .i64 x6)].toArray 26), R]) ?_
  refine .store (cs' := [(.int .i64 q.e)]) Try.sizeOf26 rfl rfl rfl rfl (i := 2) rfl (Nat.le_of_ble_eq_true rfl) rfl rfl ?_
  refine .nil ?_
  exact .nil (end_postV [1, 1, 1] Try.results32 rfl l_17)
noncomputable def m_cask_need (is_1 : Bool) (e2 : Int) : Option (Out CaskMisfit (Unit)) :=
 if (!is_1) then (some (.pan (CaskMisfit.mk e2))) else (some (.ok ()))
set_option maxHeartbeats 4000000 in
theorem c_cask_need (F0 : Fz) (is_1 : Bool) (e2 : Int) : CTX Try.prog penc 34 [(.bool is_1), (.int .i64 e2)].toArray F0 [] (m_cask_need is_1 e2) (fun (_r : Unit) _ v => v = .tuple #[]) (fun (_r : Unit) _F' _ => []) := by
 refine CTX.enter Try.func34 rfl Try.ntmps34 rfl fun r R => ?_
 refine .norm (Sub.refl _) (rfl : _ = [R]) ?_
 unfold m_cask_need
 refine .seq ?_
 refine .region ?_
 refine .move rfl rfl ?_
 refine .not rfl rfl ?_
 refine .nil ?_
 refine .code ?_
 refine .cond rfl (fun hb3 => ?_) (fun hb3 => ?_)
 ·skip
  refine .region ?_
  refine .move rfl rfl ?_
  refine .build (cs := (cCaskMisfit (CaskMisfit.mk e2)).toArray) rfl Try.underlying82 Try.zeroValue82 (plCaskMisfit _ Try.underlying82) rfl rfl (by kernel_rfl) ?_
  refine .makeIface rfl (by kernel_rfl) rfl ?_
  exact .panicQ rfl (pan_postX (i := 0) rfl (Fz.le_refl _))
 ·skip
  refine .skip ?_
  exact .endX [0] Try.results34 (.nil) rfl (Fz.le_refl _) rfl
noncomputable def m_cask_book_build (A1 : List CaskCask) (A2 : List CaskBook) (A3 : List (List (Int × Bool))) (A4 : List (List (Int × (Option Nat)))) (b5 : (Option Nat)) (x9 : ApiCaskEvent) : Option (Out CaskMisfit ((List CaskCask) × (List (List (Int × Bool))) × (List (List (Int × (Option Nat)))))) :=
 (b5).bind fun i15 => (A2[i15]?).bind fun x20 => (x20.casks).bind fun i43 => (A4[i43]?).bind fun x48 => bindX (m_cask_need ((((mapGet x48 x9.Cask).getD none)).isNone) 5) (fun q59 => some (.pan q59)) fun _r_53 => (b5).bind fun i60 => (A2[i60]?).bind fun x65 => (x65.casks).bind fun i70 => (A4[i70]?).bind fun x75 => bindX (m_cask_need (decide ((x75.length : Int) < 256)) 9) (fun q83 => some (.pan q83)) fun _r_77 => bindv (CaskCask.mk x9.Cask x9.Other x9.Where x9.Amount x9.Person (-1) 0 x9.Day (CaskTimes.mk 0 (fun _ => 0) (fun _ => 0)) none) fun x135 => bindv (A1 ++ [x135]) fun A137 => (x65.casks).bind fun i144 => (A4[i144]?).bind fun x149 => bindv (List.set A4 i144 (mapSet x149 x9.Cask (some A1.length))) fun m_142 => some (.ok (A137, A3, m_142))
set_option maxHeartbeats 4000000 in
theorem c_cask_book_build (F0 : Fz) (Γ : Gam) (A1 : List CaskCask) (A2 : List CaskBook) (A3 : List (List (Int × Bool))) (A4 : List (List (Int × (Option Nat)))) (b5 : (Option Nat)) (p6 : Option Addr) (_k7 : Unit) (h8 : RepPtr Γ.g69 F0 p6 b5) (x9 : ApiCaskEvent) : CTX Try.prog penc 46 [(.pointer p6), (eApiCaskEvent x9)].toArray F0 [arena Γ.g75 (C75 Γ) F0 A1, arena Γ.g69 (C69 Γ) F0 A2, arena Γ.g73 (C73 Γ) F0 A3, arena Γ.g67 (C67 Γ) F0 A4] (m_cask_book_build A1 A2 A3 A4 b5 x9) (fun (_r : (List CaskCask) × (List (List (Int × Bool))) × (List (List (Int × (Option Nat))))) _ v => v = .tuple #[]) (fun (r : (List CaskCask) × (List (List (Int × Bool))) × (List (List (Int × (Option Nat))))) F' _ => [arena Γ.g75 (C75 Γ) F' r.1, arena Γ.g69 (C69 Γ) F' A2, arena Γ.g73 (C73 Γ) F' r.2.1, arena Γ.g67 (C67 Γ) F' r.2.2]) := by
 refine CTX.enter Try.func46 rfl Try.ntmps46 rfl fun r R => ?_
 refine .norm (Sub.refl _) (rfl : _ = [arena Γ.g75 (C75 Γ) F0 A1, arena Γ.g69 (C69 Γ) F0 A2, arena Γ.g73 (C73 Γ) F0 A3, arena Γ.g67 (C67 Γ) F0 A4, R]) ?_
 unfold m_cask_book_build
 refine .seq ?_
 refine .region ?_
 refine .boxF (cs := (cApiCaskEvent x9)) rfl rfl rfl (fun b10 F_11 l_12 hb13 => ?_)
 refine .nil ?_
 refine .code ?_
 refine .seq ?_
 refine .keep (.cons (k := 0) rfl (.cons (k := 3) rfl (.nil _))) ?_
 refine .bind (fun i15 e16 => ?_)
 obtain ⟨b17, hb18, hp19⟩ := (h8.mono l_12).at e16
 refine .bind (fun x20 e21 => ?_)
 refine .drawGD 6 0 (fun env14 => [((.pointer p6), fun _ => True), ((.pointer (some ⟨b17, 0, none⟩)), fun _ => True), ((.pointer (some ⟨b17, 0 + 0, none⟩)), fun _ => True), ((.map (env14.o 30)), fun G => RepRef Γ.g67 G (env14.o 30) x20.casks), ((.pointer (some ⟨b10, 0 + 2, none⟩)), fun _ => True), ((.int .i64 x9.Cask), fun _ => True)]) (fun L env14 => [arena Γ.g75 (C75 Γ) F0 A1, arena Γ.g69 (C69 Γ) F0 A2, arena Γ.g73 (C73 Γ) F0 A3, arena Γ.g67 (C67 Γ) F0 A4, R]) mixedOK (by kernel_rfl) (deepN (k := 6) (n := 9) rfl (allLt9 (p := fun t => 6 ≤ t → ∀ j, j < t → ∃ s, depB _ s t j = true) (fun h => absurd h (by decide)) (fun h => absurd h (by decide)) (fun h => absurd h (by decide)) (fun h => absurd h (by decide)) (fun h => absurd h (by decide)) (fun h => absurd h (by decide)) (fun _ => allLt6 (p := fun j => ∃ s, depB _ s 6 j = true) ⟨4, rfl⟩ ⟨3, rfl⟩ ⟨2, rfl⟩ ⟨1, rfl⟩ ⟨2, rfl⟩ ⟨1, rfl⟩) (fun _ => allLt7 (p := fun j => ∃ s, depB _ s 7 j = true) ⟨5, rfl⟩ ⟨4, rfl⟩ ⟨3, rfl⟩ ⟨2, rfl⟩ ⟨3, rfl⟩ ⟨2, rfl⟩ ⟨1, rfl⟩) (fun _ => allLt8 (p := fun j => ∃ s, depB _ s 8 j = true) ⟨6, rfl⟩ ⟨5, rfl⟩ ⟨4, rfl⟩ ⟨3, rfl⟩ ⟨4, rfl⟩ ⟨3, rfl⟩ ⟨2, rfl⟩ ⟨1, rfl⟩))) rfl (fun _ => rfl) (by kernel_rfl) (fun _ => rfl) ?_ (fun env14 F_26 l_27 hphi => ?_)
 ·skip
  refine .cons (fun L env14 F_28 l_29 hL hdn hup hphi => ⟨[(0, (.pointer p6))], fun S hS hV => (.cons (hS _ _ rfl) (Sub.nil _)), ?_⟩) ?_
  ·skip
   refine .move rfl rfl ?_
   exact .finV rfl rfl (Fz.le_refl _)
  refine .cons (fun L env14 F_30 l_31 hL hdn hup hphi => ⟨[(4, (.pointer p6))], fun S hS hV => (.cons (hV 0 4 _ (hdn 1 0 rfl) rfl rfl) (Sub.nil _)), ?_⟩) ?_
  ·skip
   refine .nilCheckR hp19 rfl rfl ?_
   exact .finV rfl rfl (Fz.le_refl _)
  refine .cons (fun L env14 F_32 l_33 hL hdn hup hphi => ⟨[(5, (.pointer (some ⟨b17, 0, none⟩)))], fun S hS hV => (.cons (hV 1 5 _ (hdn 1 1 rfl) rfl rfl) (Sub.nil _)), ?_⟩) ?_
  ·skip
   refine .fieldAddr rfl Try.underlying69 rfl Try.sizeOf67 rfl ?_
   exact .finV rfl rfl (Fz.le_refl _)
  refine .cons (fun L env14 F_34 l_35 hL hdn hup hphi => ⟨[(6, (.pointer (some ⟨b17, 0 + 0, none⟩)))], fun S hS hV => (.cons (hV 2 6 _ (hdn 1 2 rfl) rfl rfl) (Sub.nil _)), ?_⟩) ?_
  ·skip
   refine .loadR (Φ := fun v => ∃ (p36 : Option Nat) (k37 : Unit), v = (.map p36) ∧ RepRef Γ.g67 F_34 p36 x20.casks) 1 rfl (Fz.le_trans l_12 l_35) (hb18.mono l_35) e21 rfl Try.isAgg67 rfl (fun vs ⟨q0, q1, h, r0⟩ => ⟨_, by subst h; exact rfl, q0, q1, rfl, r0⟩) (fun v hv => ?_)
   obtain ⟨p36, k37, rfl, h38⟩ := hv
   exact .finQ ({ env14 with a := env14.a, n := env14.n, c := env14.c, o := (updN env14.o 30 p36) }) [true, true, true, false, true, true] rfl (by kernel_rfl) rfl rfl (Fz.le_refl _) (fun _ le => h38.mono le) (cons_eq rfl (cons_eq rfl (cons_eq rfl (cons_eq rfl (cons_eq rfl rfl)))))
  refine .cons (fun L env14 F_39 l_40 hL hdn hup hphi => ⟨[(3, (.pointer (some ⟨b10, 0, none⟩)))], fun S hS hV => (.cons (hS _ _ rfl) (Sub.nil _)), ?_⟩) ?_
  ·skip
   refine .fieldAddr rfl Try.underlying45 rfl Try.sizeOf3 rfl ?_
   exact .finV rfl rfl (Fz.le_refl _)
  refine .cons (fun L env14 F_41 l_42 hL hdn hup hphi => ⟨[(8, (.pointer (some ⟨b10, 0 + 2, none⟩)))], fun S hS hV => (.cons (hV 4 8 _ (hdn 1 4 rfl) rfl rfl) (Sub.nil _)), ?_⟩) ?_
  ·skip
   refine .loadF rfl Try.isAgg3 rfl (l_42.mem _ _ hb13) rfl ?_
   exact .finV rfl rfl (Fz.le_refl _)
  exact .nil
 have h25 := hphi 3 _ rfl
 refine .norm (S' := [(0, (.pointer p6)), (3, (.pointer (some ⟨b10, 0, none⟩))), (4, (.pointer p6)), (5, (.pointer (some ⟨b17, 0, none⟩))), (6, (.pointer (some ⟨b17, 0 + 0, none⟩))), (7, (.map (env14.o 30))), (8, (.pointer (some ⟨b10, 0 + 2, none⟩))), (9, (.int .i64 x9.Cask))]) (.cons (k := 0) rfl (.cons (k := 3) rfl (.cons (k := 4) rfl (.cons (k := 5) rfl (.cons (k := 6) rfl (.cons (k := 7) rfl (.cons (k := 8) rfl (.cons (k := 9) rfl (.nil _))))))))) (rfl : _ = [arena Γ.g75 (C75 Γ) F0 A1, arena Γ.g69 (C69 Γ) F0 A2, arena Γ.g73 (C73 Γ) F0 A3, arena Γ.g67 (C67 Γ) F0 A4, R]) ?_
 refine .bind (fun i43 e44 => ?_)
 obtain ⟨b45, hb46, hp47⟩ := h25.at e44
 refine .bind (fun x48 e49 => ?_)
 refine .lookupR (key := x9.Cask) (z := none) 3 rfl (Fz.le_trans l_12 l_27) hb46 hp47 e49 rfl Try.underlying67 (.int Try.underlying3) Try.zeroValue60 ⟨none, (), rfl, RepPtr.nil⟩ rfl rfl ?_
 intro v hv
 obtain ⟨p50, k51, rfl, h52⟩ := hv
 refine .eqlPtrNil h52 rfl Try.underlying60 rfl rfl ?_
 refine .callB [] rfl Try.call34 rfl rfl rfl rfl (c_cask_need _ ((((mapGet x48 x9.Cask).getD none)).isNone) 5) ?_ (fun q59 F_57 _ l_58 => (pan_postX (i := 4) rfl (Fz.le_trans l_12 (Fz.le_trans l_27 l_58))))
 rintro r_53 F_54 _ e56 l_55 rfl
 refine .pick [0, 0, 0, 0, 0] (rfl : _ = [arena Γ.g75 (C75 Γ) F0 A1, arena Γ.g69 (C69 Γ) F0 A2, arena Γ.g73 (C73 Γ) F0 A3, arena Γ.g67 (C67 Γ) F0 A4, R]) ?_
 refine .nil ?_
 refine .code ?_
 refine .seq ?_
 refine .region ?_
 refine .move rfl rfl ?_
 refine .bind (fun i60 e61 => ?_)
 obtain ⟨b62, hb63, hp64⟩ := (h8.mono (Fz.le_trans l_12 (Fz.le_trans l_27 l_55))).at e61
 refine .nilCheckR hp64 rfl rfl ?_
 refine .fieldAddr rfl Try.underlying69 rfl Try.sizeOf67 rfl ?_
 refine .bind (fun x65 e66 => ?_)
 refine .loadR (Φ := fun v => ∃ (p67 : Option Nat) (k68 : Unit), v = (.map p67) ∧ RepRef Γ.g67 F_54 p67 x65.casks) 1 rfl (Fz.le_trans l_12 (Fz.le_trans l_27 l_55)) hb63 e66 rfl Try.isAgg67 rfl (fun vs ⟨q0, q1, h, r0⟩ => ⟨_, by subst h; exact rfl, q0, q1, rfl, r0⟩) (fun v hv => ?_)
 obtain ⟨p67, k68, rfl, h69⟩ := hv
 refine .bind (fun i70 e71 => ?_)
 obtain ⟨b72, hb73, hp74⟩ := h69.at e71
 refine .bind (fun x75 e76 => ?_)
 refine .mapLenR 3 rfl hb73 hp74 e76 rfl rfl Try.underlying67 rfl ?_
 refine .lss rfl rfl rfl ?_
 refine .callB [] rfl Try.call34 rfl rfl rfl rfl (c_cask_need _ (decide ((x75.length : Int) < 256)) 9) ?_ (fun q83 F_81 _ l_82 => (pan_postX (i := 4) rfl (Fz.le_trans l_12 (Fz.le_trans l_27 (Fz.le_trans l_55 l_82)))))
 rintro r_77 F_78 _ e80 l_79 rfl
 refine .pick [0, 0, 0, 0, 0] (rfl : _ = [arena Γ.g75 (C75 Γ) F0 A1, arena Γ.g69 (C69 Γ) F0 A2, arena Γ.g73 (C73 Γ) F0 A3, arena Γ.g67 (C67 Γ) F0 A4, R]) ?_
 refine .nil ?_
 refine .code ?_
 refine .keep (.cons (k := 0) rfl (.cons (k := 3) rfl (.nil _))) ?_
 refine .drawG 20 1 (fun env84 => [((.pointer p6), fun _ => True), ((.pointer (some ⟨b62, 0, none⟩)), fun _ => True), ((.pointer (some ⟨b62, 0 + 0, none⟩)), fun _ => True), ((.map (env84.o 30)), fun G => RepRef Γ.g67 G (env84.o 30) x65.casks), ((.pointer (some ⟨b10, 0 + 2, none⟩)), fun _ => True), ((.int .i64 x9.Cask), fun _ => True), ((.pointer (some ⟨b10, 0 + 2, none⟩)), fun _ => True), ((.int .i64 x9.Cask), fun _ => True), ((.pointer (some ⟨b10, 0 + 3, none⟩)), fun _ => True), ((.int .i64 x9.Other), fun _ => True), ((.pointer (some ⟨b10, 0 + 7, none⟩)), fun _ => True), ((.int .i64 x9.Where), fun _ => True), ((.pointer (some ⟨b10, 0 + 6, none⟩)), fun _ => True), ((.int .i64 x9.Amount), fun _ => True), ((.pointer (some ⟨b10, 0 + 4, none⟩)), fun _ => True), ((.int .i64 x9.Person), fun _ => True), ((.pointer (some ⟨b10, 0 + 1, none⟩)), fun _ => True), ((.int .i64 x9.Day), fun _ => True), ((eCaskCask (CaskCask.mk x9.Cask x9.Other x9.Where x9.Amount x9.Person (-1) 0 x9.Day (CaskTimes.mk 0 (fun _ => 0) (fun _ => 0)) none) none ()), fun _ => True), ((.pointer (some ⟨(env84.n 190), 0, none⟩)), fun _ => True)]) (fun L env84 => [arena Γ.g75 (C75 Γ) F0 A1, arena Γ.g69 (C69 Γ) F0 A2, arena Γ.g73 (C73 Γ) F0 A3, arena Γ.g67 (C67 Γ) F0 A4, R, (bif L 19 then (pt (env84.n 190) (.cells (cCaskCask (CaskCask.mk x9.Cask x9.Other x9.Where x9.Amount x9.Person (-1) 0 x9.Day (CaskTimes.mk 0 (fun _ => 0) (fun _ => 0)) none) none ()).toArray 75)) else emp)]) mixedOK (by kernel_rfl) (by kernel_rfl) rfl (fun _ => rfl) (by kernel_rfl) (fun _ => rfl) ?_ (fun env84 F_89 l_90 hphi => ?_)
 ·skip
  refine .cons (fun L env84 F_91 l_92 hL hdn hup hphi => ⟨[(0, (.pointer p6))], fun S hS hV => (.cons (hS _ _ rfl) (Sub.nil _)), ?_⟩) ?_
  ·skip
   refine .move rfl rfl ?_
   exact .finV rfl rfl (Fz.le_refl _)
  refine .cons (fun L env84 F_93 l_94 hL hdn hup hphi => ⟨[(20, (.pointer p6))], fun S hS hV => (.cons (hV 0 20 _ (hdn 1 0 rfl) rfl rfl) (Sub.nil _)), ?_⟩) ?_
  ·skip
   refine .nilCheckR hp64 rfl rfl ?_
   exact .finV rfl rfl (Fz.le_refl _)
  refine .cons (fun L env84 F_95 l_96 hL hdn hup hphi => ⟨[(21, (.pointer (some ⟨b62, 0, none⟩)))], fun S hS hV => (.cons (hV 1 21 _ (hdn 1 1 rfl) rfl rfl) (Sub.nil _)), ?_⟩) ?_
  ·skip
   refine .fieldAddr rfl Try.underlying69 rfl Try.sizeOf67 rfl ?_
   exact .finV rfl rfl (Fz.le_refl _)
  refine .cons (fun L env84 F_97 l_98 hL hdn hup hphi => ⟨[(22, (.pointer (some ⟨b62, 0 + 0, none⟩)))], fun S hS hV => (.cons (hV 2 22 _ (hdn 1 2 rfl) rfl rfl) (Sub.nil _)), ?_⟩) ?_
  ·skip
   refine .loadR (Φ := fun v => ∃ (p99 : Option Nat) (k100 : Unit), v = (.map p99) ∧ RepRef Γ.g67 F_97 p99 x65.casks) 1 rfl (Fz.le_trans l_12 (Fz.le_trans l_27 (Fz.le_trans l_55 (Fz.le_trans l_79 l_98)))) (hb63.mono (Fz.le_trans l_79 l_98)) e66 rfl Try.isAgg67 rfl (fun vs ⟨q0, q1, h, r0⟩ => ⟨_, by subst h; exact rfl, q0, q1, rfl, r0⟩) (fun v hv => ?_)
   obtain ⟨p99, k100, rfl, h101⟩ := hv
   exact .finQ ({ env84 with a := env84.a, n := env84.n, c := env84.c, o := (updN env84.o 30 p99) }) [true, true, true, false, true, true, true, true, true, true, true, true, true, true, true, true, true, true, true, true] rfl (by kernel_rfl) rfl rfl (Fz.le_refl _) (fun _ le => h101.mono le) (cons_eq rfl (cons_eq rfl (cons_eq rfl (cons_eq rfl (cons_eq rfl (cons_eq rfl rfl))))))
  refine .cons (fun L env84 F_102 l_103 hL hdn hup hphi => ⟨[(3, (.pointer (some ⟨b10, 0, none⟩)))], fun S hS hV => (.cons (hS _ _ rfl) (Sub.nil _)), ?_⟩) ?_
  ·skip
   refine .fieldAddr rfl Try.underlying45 rfl Try.sizeOf3 rfl ?_
   exact .finV rfl rfl (Fz.le_refl _)
  refine .cons (fun L env84 F_104 l_105 hL hdn hup hphi => ⟨[(24, (.pointer (some ⟨b10, 0 + 2, none⟩)))], fun S hS hV => (.cons (hV 4 24 _ (hdn 1 4 rfl) rfl rfl) (Sub.nil _)), ?_⟩) ?_
  ·skip
   refine .loadF rfl Try.isAgg3 rfl ((Fz.le_trans l_27 (Fz.le_trans l_55 (Fz.le_trans l_79 l_105))).mem _ _ hb13) rfl ?_
   exact .finV rfl rfl (Fz.le_refl _)
  refine .cons (fun L env84 F_106 l_107 hL hdn hup hphi => ⟨[(3, (.pointer (some ⟨b10, 0, none⟩)))], fun S hS hV => (.cons (hS _ _ rfl) (Sub.nil _)), ?_⟩) ?_
  ·skip
   refine .fieldAddr rfl Try.underlying45 rfl Try.sizeOf3 rfl ?_
   exact .finV rfl rfl (Fz.le_refl _)
  refine .cons (fun L env84 F_108 l_109 hL hdn hup hphi => ⟨[(26, (.pointer (some ⟨b10, 0 + 2, none⟩)))], fun S hS hV => (.cons (hV 6 26 _ (hdn 1 6 rfl) rfl rfl) (Sub.nil _)), ?_⟩) ?_
  ·skip
   refine .loadF rfl Try.isAgg3 rfl ((Fz.le_trans l_27 (Fz.le_trans l_55 (Fz.le_trans l_79 l_109))).mem _ _ hb13) rfl ?_
   exact .finV rfl rfl (Fz.le_refl _)
  refine .cons (fun L env84 F_110 l_111 hL hdn hup hphi => ⟨[(3, (.pointer (some ⟨b10, 0, none⟩)))], fun S hS hV => (.cons (hS _ _ rfl) (Sub.nil _)), ?_⟩) ?_
  ·skip
   refine .fieldAddr rfl Try.underlying45 rfl Try.sizeOf3 rfl ?_
   exact .finV rfl rfl (Fz.le_refl _)
  refine .cons (fun L env84 F_112 l_113 hL hdn hup hphi => ⟨[(28, (.pointer (some ⟨b10, 0 + 3, none⟩)))], fun S hS hV => (.cons (hV 8 28 _ (hdn 1 8 rfl) rfl rfl) (Sub.nil _)), ?_⟩) ?_
  ·skip
   refine .loadF rfl Try.isAgg3 rfl ((Fz.le_trans l_27 (Fz.le_trans l_55 (Fz.le_trans l_79 l_113))).mem _ _ hb13) rfl ?_
   exact .finV rfl rfl (Fz.le_refl _)
  refine .cons (fun L env84 F_114 l_115 hL hdn hup hphi => ⟨[(3, (.pointer (some ⟨b10, 0, none⟩)))], fun S hS hV => (.cons (hS _ _ rfl) (Sub.nil _)), ?_⟩) ?_
  ·skip
   refine .fieldAddr rfl Try.underlying45 rfl Try.sizeOf3 rfl ?_
   exact .finV rfl rfl (Fz.le_refl _)
  refine .cons (fun L env84 F_116 l_117 hL hdn hup hphi => ⟨[(30, (.pointer (some ⟨b10, 0 + 7, none⟩)))], fun S hS hV => (.cons (hV 10 30 _ (hdn 1 10 rfl) rfl rfl) (Sub.nil _)), ?_⟩) ?_
  ·skip
   refine .loadF rfl Try.isAgg3 rfl ((Fz.le_trans l_27 (Fz.le_trans l_55 (Fz.le_trans l_79 l_117))).mem _ _ hb13) rfl ?_
   exact .finV rfl rfl (Fz.le_refl _)
  refine .cons (fun L env84 F_118 l_119 hL hdn hup hphi => ⟨[(3, (.pointer (some ⟨b10, 0, none⟩)))], fun S hS hV => (.cons (hS _ _ rfl) (Sub.nil _)), ?_⟩) ?_
  ·skip
   refine .fieldAddr rfl Try.underlying45 rfl Try.sizeOf3 rfl ?_
   exact .finV rfl rfl (Fz.le_refl _)
  refine .cons (fun L env84 F_120 l_121 hL hdn hup hphi => ⟨[(32, (.pointer (some ⟨b10, 0 + 6, none⟩)))], fun S hS hV => (.cons (hV 12 32 _ (hdn 1 12 rfl) rfl rfl) (Sub.nil _)), ?_⟩) ?_
  ·skip
   refine .loadF rfl Try.isAgg3 rfl ((Fz.le_trans l_27 (Fz.le_trans l_55 (Fz.le_trans l_79 l_121))).mem _ _ hb13) rfl ?_
   exact .finV rfl rfl (Fz.le_refl _)
  refine .cons (fun L env84 F_122 l_123 hL hdn hup hphi => ⟨[(3, (.pointer (some ⟨b10, 0, none⟩)))], fun S hS hV => (.cons (hS _ _ rfl) (Sub.nil _)), ?_⟩) ?_
  ·skip
   refine .fieldAddr rfl Try.underlying45 rfl Try.sizeOf3 rfl ?_
   exact .finV rfl rfl (Fz.le_refl _)
  refine .cons (fun L env84 F_124 l_125 hL hdn hup hphi => ⟨[(34, (.pointer (some ⟨b10, 0 + 4, none⟩)))], fun S hS hV => (.cons (hV 14 34 _ (hdn 1 14 rfl) rfl rfl) (Sub.nil _)), ?_⟩) ?_
  ·skip
   refine .loadF rfl Try.isAgg3 rfl ((Fz.le_trans l_27 (Fz.le_trans l_55 (Fz.le_trans l_79 l_125))).mem _ _ hb13) rfl ?_
   exact .finV rfl rfl (Fz.le_refl _)
  refine .cons (fun L env84 F_126 l_127 hL hdn hup hphi => ⟨[(3, (.pointer (some ⟨b10, 0, none⟩)))], fun S hS hV => (.cons (hS _ _ rfl) (Sub.nil _)), ?_⟩) ?_
  ·skip
   refine .fieldAddr rfl Try.underlying45 rfl Try.sizeOf3 rfl ?_
   exact .finV rfl rfl (Fz.le_refl _)
  refine .cons (fun L env84 F_128 l_129 hL hdn hup hphi => ⟨[(36, (.pointer (some ⟨b10, 0 + 1, none⟩)))], fun S hS hV => (.cons (hV 16 36 _ (hdn 1 16 rfl) rfl rfl) (Sub.nil _)), ?_⟩) ?_
  ·skip
   refine .loadF rfl Try.isAgg3 rfl ((Fz.le_trans l_27 (Fz.le_trans l_55 (Fz.le_trans l_79 l_129))).mem _ _ hb13) rfl ?_
   exact .finV rfl rfl (Fz.le_refl _)
  refine .cons (fun L env84 F_130 l_131 hL hdn hup hphi => ⟨[(27, (.int .i64 x9.Cask)), (29, (.int .i64 x9.Other)), (31, (.int .i64 x9.Where)), (33, (.int .i64 x9.Amount)), (35, (.int .i64 x9.Person)), (37, (.int .i64 x9.Day))], fun S hS hV => (.cons (hV 7 27 _ (hdn 1 7 rfl) rfl rfl) (.cons (hV 9 29 _ (hdn 1 9 rfl) rfl rfl) (.cons (hV 11 31 _ (hdn 1 11 rfl) rfl rfl) (.cons (hV 13 33 _ (hdn 1 13 rfl) rfl rfl) (.cons (hV 15 35 _ (hdn 1 15 rfl) rfl rfl) (.cons (hV 17 37 _ (hdn 1 17 rfl) rfl rfl) (Sub.nil _))))))), ?_⟩) ?_
  ·skip
   refine .build (cs := (cCaskCask (CaskCask.mk x9.Cask x9.Other x9.Where x9.Amount x9.Person (-1) 0 x9.Day (CaskTimes.mk 0 (fun _ => 0) (fun _ => 0)) none) none ()).toArray) rfl Try.underlying75 Try.zeroValue75 (plCaskCask _ Try.underlying75) rfl rfl (by kernel_rfl) ?_
   exact .finV rfl rfl (Fz.le_refl _)
  refine .cons (fun L env84 F_132 l_133 hL hdn hup hphi => ⟨[(38, (eCaskCask (CaskCask.mk x9.Cask x9.Other x9.Where x9.Amount x9.Person (-1) 0 x9.Day (CaskTimes.mk 0 (fun _ => 0) (fun _ => 0)) none) none ()))], fun S hS hV => (.cons (hV 18 38 _ (hdn 1 18 rfl) rfl rfl) (Sub.nil _)), ?_⟩) ?_
  ·skip
   refine .box (cs := (cCaskCask (CaskCask.mk x9.Cask x9.Other x9.Where x9.Amount x9.Person (-1) 0 x9.Day (CaskTimes.mk 0 (fun _ => 0) (fun _ => 0)) none) none ())) rfl rfl rfl (fun b134 => ?_)
   exact .finG ({ env84 with n := updN env84.n 190 b134 }) [true, true, true, true, true, true, true, true, true, true, true, true, true, true, true, true, true, true, true, false] rfl (by kernel_rfl) rfl rfl (Fz.le_refl _) (fun _ _ => trivial) (fun _ h => SH.placeC 5 (congrArg some (condF hL)) (condT rfl) h)
  exact .nil
 have h88 := hphi 3 _ rfl
 refine .norm (S' := [(0, (.pointer p6)), (3, (.pointer (some ⟨b10, 0, none⟩))), (20, (.pointer p6)), (21, (.pointer (some ⟨b62, 0, none⟩))), (22, (.pointer (some ⟨b62, 0 + 0, none⟩))), (23, (.map (env84.o 30))), (24, (.pointer (some ⟨b10, 0 + 2, none⟩))), (25, (.int .i64 x9.Cask)), (26, (.pointer (some ⟨b10, 0 + 2, none⟩))), (27, (.int .i64 x9.Cask)), (28, (.pointer (some ⟨b10, 0 + 3, none⟩))), (29, (.int .i64 x9.Other)), (30, (.pointer (some ⟨b10, 0 + 7, none⟩))), (31, (.int .i64 x9.Where)), (32, (.pointer (some ⟨b10, 0 + 6, none⟩))), (33, (.int .i64 x9.Amount)), (34, (.pointer (some ⟨b10, 0 + 4, none⟩))), (35, (.int .i64 x9.Person)), (36, (.pointer (some ⟨b10, 0 + 1, none⟩))), (37, (.int .i64 x9.Day)), (38, (eCaskCask (CaskCask.mk x9.Cask x9.Other x9.Where x9.Amount x9.Person (-1) 0 x9.Day (CaskTimes.mk 0 (fun _ => 0) (fun _ => 0)) none) none ())), (39, (.pointer (some ⟨(env84.n 190), 0, none⟩)))]) (.cons (k := 0) rfl (.cons (k := 3) rfl (.cons (k := 20) rfl (.cons (k := 21) rfl (.cons (k := 22) rfl (.cons (k := 23) rfl (.cons (k := 24) rfl (.cons (k := 25) rfl (.cons (k := 26) rfl (.cons (k := 27) rfl (.cons (k := 28) rfl (.cons (k := 29) rfl (.cons (k := 30) rfl (.cons (k := 31) rfl (.cons (k := 32) rfl (.cons (k := 33) rfl (.cons (k := 34) rfl (.cons (k := 35) rfl (.cons (k := 36) rfl (.cons (k := 37) rfl (.cons (k := 38) rfl (.cons (k := 39) rfl (.nil _))))))))))))))))))))))) (rfl : _ = [arena Γ.g75 (C75 Γ) F0 A1, arena Γ.g69 (C69 Γ) F0 A2, arena Γ.g73 (C73 Γ) F0 A3, arena Γ.g67 (C67 Γ) F0 A4, R, pt (env84.n 190) (.cells (cCaskCask (CaskCask.mk x9.Cask x9.Other x9.Where x9.Amount x9.Person (-1) 0 x9.Day (CaskTimes.mk 0 (fun _ => 0) (fun _ => 0)) none) none ()).toArray 75)]) ?_
 refine .letv (fun x135 e136 => ?_)
 refine .letv (fun A137 e138 => ?_)
 refine .intoAt 5 0 rfl rfl (stays75 Γ) (Fz.le_trans l_12 (Fz.le_trans l_27 (Fz.le_trans l_55 (Fz.le_trans l_79 l_90)))) (fun G m l hm => ⟨_, fun G' l' => by subst e136; exact ⟨none, (), rfl, ((RepRef.nil.mono (Fz.le_trans l_12 (Fz.le_trans l_27 (Fz.le_trans l_55 (Fz.le_trans l_79 l_90)))))).mono (Fz.le_trans l l')⟩, hm⟩) e138 (fun F_139 l_140 hb141 => ?_)
 refine .bind (fun i144 e145 => ?_)
 obtain ⟨b146, hb147, hp148⟩ := (h88.mono l_140).at e145
 refine .bind (fun x149 e150 => ?_)
 refine .letv (fun m_142 e143 => ?_)
 refine .mapUpdateR (key := x9.Cask) (val := (some A1.length)) 3 rfl (Fz.le_trans l_12 (Fz.le_trans l_27 (Fz.le_trans l_55 (Fz.le_trans l_79 (Fz.le_trans l_90 l_140))))) hb147 hp148 e150 Try.underlying67 (.int Try.underlying3) rfl rfl rfl (fun _ l => ⟨(some ⟨(env84.n 190), 0, none⟩), (), rfl, ((RepPtr.of hb141)).mono l⟩) e143 ?_
 refine .nil ?_
 refine .upR 1 (stays69 Γ) (Fz.le_trans l_12 (Fz.le_trans l_27 (Fz.le_trans l_55 (Fz.le_trans l_79 (Fz.le_trans l_90 l_140))))) rfl ?_
 refine .upR 2 (stays73 Γ) (Fz.le_trans l_12 (Fz.le_trans l_27 (Fz.le_trans l_55 (Fz.le_trans l_79 (Fz.le_trans l_90 l_140))))) rfl ?_
 exact .endX [0, 0, 0, 0, 0] Try.results46 (.nil) rfl (Fz.le_trans l_12 (Fz.le_trans l_27 (Fz.le_trans l_55 (Fz.le_trans l_79 (Fz.le_trans l_90 l_140))))) rfl
noncomputable def m_cask_cask_rest (A1 : List CaskCask) (c2 : (Option Nat)) (day6 : Int) : Option (((List CaskCask))) :=
 (c2).bind fun i7 => (A1[i7]?).bind fun x12 => bindv (w64 (day6 - x12.since)) fun n_14 => bindv ({ x12 with since := day6 }) fun x16 => bindv (List.set A1 i7 x16) fun A18 => if (decide (x16.amount > 0)) then (bindv ({ x16 with times := { x16.times with age := (w64 (x16.times.age + n_14)) } }) fun x21 => bindv (List.set A18 i7 x21) fun A23 => (idxO 8 x21.wood).bind fun j26 => (idxO 8 x21.wood).bind fun j60 => bindv ({ x21 with times := { x21.times with woods := updN x21.times.woods j60 (w64 ((x21.times.woods j26) + n_14)) } }) fun x62 => bindv (List.set A23 i7 x62) fun A64 => (idxO 8 x62.place).bind fun j67 => (idxO 8 x62.place).bind fun j101 => bindv ({ x62 with times := { x62.times with places := updN x62.times.places j101 (w64 ((x62.times.places j67) + n_14)) } }) fun x103 => bindv (List.set A64 i7 x103) fun A105 => some A105) else (some A18)
set_option maxHeartbeats 4000000 in
theorem c_cask_cask_rest (F0 : Fz) (Γ : Gam) (A1 : List CaskCask) (c2 : (Option Nat)) (p3 : Option Addr) (_k4 : Unit) (h5 : RepPtr Γ.g75 F0 p3 c2) (day6 : Int) : CTH Try.prog 36 [(.pointer p3), (.int .i64 day6)].toArray F0 [arena Γ.g75 (C75 Γ) F0 A1] (m_cask_cask_rest A1 c2 day6) (fun (_r : (List CaskCask)) _ v => v = .tuple #[]) (fun (r : (List CaskCask)) F' => [arena Γ.g75 (C75 Γ) F' r]) := by
 refine CTH.enter Try.func36 rfl Try.ntmps36 rfl fun r R => ?_
 refine .norm (Sub.refl _) (rfl : _ = [arena Γ.g75 (C75 Γ) F0 A1, R]) ?_
 unfold m_cask_cask_rest
 refine .seq ?_
 refine .region ?_
 refine .move rfl rfl ?_
 refine .move rfl rfl ?_
 refine .bind (fun i7 e8 => ?_)
 obtain ⟨b9, hb10, hp11⟩ := h5.at e8
 refine .nilCheckR hp11 rfl rfl ?_
 refine .fieldAddr rfl Try.underlying75 rfl Try.sizeOf3 rfl ?_
 refine .bind (fun x12 e13 => ?_)
 refine .loadR (Φ := fun v => v = (.int .i64 x12.since)) 0 rfl (Fz.le_refl _) hb10 e13 rfl Try.isAgg3 rfl (fun vs ⟨q0, q1, h, r0⟩ => ⟨_, by subst h; exact rfl, rfl⟩) (fun v hv => ?_)
 subst hv
 refine .sub rfl rfl rfl ?_
 refine .assignL rfl rfl (fun n_14 e15 => ?_)
 refine .nil ?_
 refine .code ?_
 refine .seq ?_
 refine .region ?_
 refine .move rfl rfl ?_
 refine .move rfl rfl ?_
 refine .nilCheckR hp11 rfl rfl ?_
 refine .fieldAddr rfl Try.underlying75 rfl Try.sizeOf3 rfl ?_
 refine .letv (fun x16 e17 => ?_)
 refine .letv (fun A18 e19 => ?_)
 refine .storeR (xs' := A18) (x' := { x12 with since := day6 }) (us := [(.int .i64 day6)]) 0 rfl (Fz.le_refl _) (Fz.le_refl _) (len75 Γ) Try.sizeOf3 hb10 e13 rfl rfl rfl rfl rfl rfl (fun F' vs le ⟨q0, q1, h, r0⟩ => ⟨q0, q1, by subst h; exact rfl, r0⟩) (by rw [e19, e17] <;> rfl) ?_
 refine .nil ?_
 refine .code ?_
 refine .seq ?_
 refine .region ?_
 refine .move rfl rfl ?_
 refine .nilCheckR hp11 rfl rfl ?_
 refine .fieldAddr rfl Try.underlying75 rfl Try.sizeOf3 rfl ?_
 refine .loadR (Φ := fun v => v = (.int .i64 x16.amount)) 0 rfl (Fz.le_refl _) hb10 (get_set e13 e19) rfl Try.isAgg3 rfl (fun vs ⟨q0, q1, h, r0⟩ => ⟨_, by subst h; exact rfl, rfl⟩) (fun v hv => ?_)
 subst hv
 refine .gtr rfl rfl rfl ?_
 refine .nil ?_
 refine .code ?_
 refine .cond rfl (fun hb20 => ?_) (fun hb20 => ?_)
 ·skip
  refine .seq ?_
  refine .region ?_
  refine .move rfl rfl ?_
  refine .nilCheckR hp11 rfl rfl ?_
  refine .fieldAddr rfl Try.underlying75 rfl Try.sizeOf72 rfl ?_
  refine .fieldAddr rfl Try.underlying72 rfl Try.sizeOf3 rfl ?_
  refine .loadR (Φ := fun v => v = (.int .i64 x16.times.age)) 0 rfl (Fz.le_refl _) hb10 (get_set e13 e19) rfl Try.isAgg3 rfl (fun vs ⟨q0, q1, h, r0⟩ => ⟨_, by subst h; exact rfl, rfl⟩) (fun v hv => ?_)
  subst hv
  refine .move rfl rfl ?_
  refine .add rfl rfl rfl ?_
  refine .nilCheckR hp11 rfl rfl ?_
  refine .fieldAddr rfl Try.underlying75 rfl Try.sizeOf72 rfl ?_
  refine .fieldAddr rfl Try.underlying72 rfl Try.sizeOf3 rfl ?_
  refine .letv (fun x21 e22 => ?_)
  refine .letv (fun A23 e24 => ?_)
  refine .storeR (xs' := A23) (x' := { x16 with times := { x16.times with age := (w64 (x16.times.age + n_14)) } }) (us := [(.int .i64 (w64 (x16.times.age + n_14)))]) 0 rfl (Fz.le_refl _) (Fz.le_refl _) (len75 Γ) Try.sizeOf3 hb10 (get_set e13 e19) rfl rfl rfl rfl rfl rfl (fun F' vs le ⟨q0, q1, h, r0⟩ => ⟨q0, q1, by subst h; exact rfl, r0⟩) (by rw [e24, e22] <;> rfl) ?_
  refine .nil ?_
  refine .keep (.cons (k := 0) rfl (.cons (k := 4) rfl (.nil _))) ?_
  refine .code ?_
  refine .seq ?_
  refine .keep (.cons (k := 0) rfl (.cons (k := 4) rfl (.nil _))) ?_
  refine .bind (fun j26 hj27 => ?_)
  refine .drawGD 15 0 (fun env25 => [((.pointer p3), fun _ => True), ((.pointer p3), fun _ => True), ((.pointer (some ⟨b9, 0, none⟩)), fun _ => True), ((.pointer (some ⟨b9, 0 + 1, none⟩)), fun _ => True), ((.int .i64 x21.wood), fun _ => True), ((.pointer (some ⟨b9, 0, none⟩)), fun _ => True), ((.pointer (some ⟨b9, 0 + 8, none⟩)), fun _ => True), ((.pointer (some ⟨b9, 0 + 8 + 1, none⟩)), fun _ => True), ((.pointer (some ⟨b9, 0 + 8 + 1 + j26 * 1, none⟩)), fun _ => True), ((.int .i64 (x21.times.woods j26)), fun _ => True), ((.int .i64 n_14), fun _ => True), ((.int .i64 (w64 ((x21.times.woods j26) + n_14))), fun _ => True), ((.pointer (some ⟨b9, 0, none⟩)), fun _ => True), ((.pointer (some ⟨b9, 0 + 8, none⟩)), fun _ => True), ((.pointer (some ⟨b9, 0 + 8 + 1, none⟩)), fun _ => True)]) (fun L env25 => [arena Γ.g75 (C75 Γ) F0 A23, R]) mixedOK (by kernel_rfl) (deepN (k := 15) (n := 17) rfl (allLt17 (p := fun t => 15 ≤ t → ∀ j, j < t → ∃ s, depB _ s t j = true) (fun h => absurd h (by decide)) (fun h => absurd h (by decide)) (fun h => absurd h (by decide)) (fun h => absurd h (by decide)) (fun h => absurd h (by decide)) (fun h => absurd h (by decide)) (fun h => absurd h (by decide)) (fun h => absurd h (by decide)) (fun h => absurd h (by decide)) (fun h => absurd h (by decide)) (fun h => absurd h (by decide)) (fun h => absurd h (by decide)) (fun h => absurd h (by decide)) (fun h => absurd h (by decide)) (fun h => absurd h (by decide)) (fun _ => allLt15 (p := fun j => ∃ s, depB _ s 15 j = true) ⟨1, rfl⟩ ⟨1, rfl⟩ ⟨1, rfl⟩ ⟨1, rfl⟩ ⟨1, rfl⟩ ⟨1, rfl⟩ ⟨1, rfl⟩ ⟨1, rfl⟩ ⟨1, rfl⟩ ⟨1, rfl⟩ ⟨1, rfl⟩ ⟨1, rfl⟩ ⟨3, rfl⟩ ⟨2, rfl⟩ ⟨1, rfl⟩) (fun _ => allLt16 (p := fun j => ∃ s, depB _ s 16 j = true) ⟨1, rfl⟩ ⟨1, rfl⟩ ⟨1, rfl⟩ ⟨1, rfl⟩ ⟨1, rfl⟩ ⟨1, rfl⟩ ⟨1, rfl⟩ ⟨1, rfl⟩ ⟨1, rfl⟩ ⟨1, rfl⟩ ⟨1, rfl⟩ ⟨1, rfl⟩ ⟨4, rfl⟩ ⟨3, rfl⟩ ⟨2, rfl⟩ ⟨1, rfl⟩))) rfl (fun _ => rfl) (by kernel_rfl) (fun _ => rfl) ?_ (fun env25 F_28 l_29 hphi => ?_)
  ·skip
   refine .cons (fun L env25 F_30 l_31 hL hdn hup hphi => ⟨[(0, (.pointer p3))], fun S hS hV => (.cons (hS _ _ rfl) (Sub.nil _)), ?_⟩) ?_
   ·skip
    refine .move rfl rfl ?_
    exact .finV rfl rfl (Fz.le_refl _)
   refine .cons (fun L env25 F_32 l_33 hL hdn hup hphi => ⟨[(0, (.pointer p3))], fun S hS hV => (.cons (hS _ _ rfl) (Sub.nil _)), ?_⟩) ?_
   ·skip
    refine .move rfl rfl ?_
    exact .finV rfl rfl (Fz.le_refl _)
   refine .cons (fun L env25 F_34 l_35 hL hdn hup hphi => ⟨[(31, (.pointer p3))], fun S hS hV => (.cons (hV 1 31 _ (hdn 1 1 rfl) rfl rfl) (Sub.nil _)), ?_⟩) ?_
   ·skip
    refine .nilCheckR hp11 rfl rfl ?_
    exact .finV rfl rfl (Fz.le_refl _)
   refine .cons (fun L env25 F_36 l_37 hL hdn hup hphi => ⟨[(32, (.pointer (some ⟨b9, 0, none⟩)))], fun S hS hV => (.cons (hV 2 32 _ (hdn 1 2 rfl) rfl rfl) (Sub.nil _)), ?_⟩) ?_
   ·skip
    refine .fieldAddr rfl Try.underlying75 rfl Try.sizeOf3 rfl ?_
    exact .finV rfl rfl (Fz.le_refl _)
   refine .cons (fun L env25 F_38 l_39 hL hdn hup hphi => ⟨[(33, (.pointer (some ⟨b9, 0 + 1, none⟩)))], fun S hS hV => (.cons (hV 3 33 _ (hdn 1 3 rfl) rfl rfl) (Sub.nil _)), ?_⟩) ?_
   ·skip
    refine .loadR (Φ := fun v => v = (.int .i64 x21.wood)) 0 rfl l_39 (hb10.mono l_39) (get_set (get_set e13 e19) e24) rfl Try.isAgg3 rfl (fun vs ⟨q0, q1, h, r0⟩ => ⟨_, by subst h; exact rfl, rfl⟩) (fun v hv => ?_)
    subst hv
    exact .finV rfl rfl (Fz.le_refl _)
   refine .cons (fun L env25 F_40 l_41 hL hdn hup hphi => ⟨[(30, (.pointer p3))], fun S hS hV => (.cons (hV 0 30 _ (hdn 1 0 rfl) rfl rfl) (Sub.nil _)), ?_⟩) ?_
   ·skip
    refine .nilCheckR hp11 rfl rfl ?_
    exact .finV rfl rfl (Fz.le_refl _)
   refine .cons (fun L env25 F_42 l_43 hL hdn hup hphi => ⟨[(35, (.pointer (some ⟨b9, 0, none⟩)))], fun S hS hV => (.cons (hV 5 35 _ (hdn 1 5 rfl) rfl rfl) (Sub.nil _)), ?_⟩) ?_
   ·skip
    refine .fieldAddr rfl Try.underlying75 rfl Try.sizeOf72 rfl ?_
    exact .finV rfl rfl (Fz.le_refl _)
   refine .cons (fun L env25 F_44 l_45 hL hdn hup hphi => ⟨[(36, (.pointer (some ⟨b9, 0 + 8, none⟩)))], fun S hS hV => (.cons (hV 6 36 _ (hdn 1 6 rfl) rfl rfl) (Sub.nil _)), ?_⟩) ?_
   ·skip
    refine .fieldAddr rfl Try.underlying72 rfl Try.sizeOf29 rfl ?_
    exact .finV rfl rfl (Fz.le_refl _)
   refine .cons (fun L env25 F_46 l_47 hL hdn hup hphi => ⟨[(34, (.int .i64 x21.wood)), (37, (.pointer (some ⟨b9, 0 + 8 + 1, none⟩)))], fun S hS hV => (.cons (hV 4 34 _ (hdn 1 4 rfl) rfl rfl) (.cons (hV 7 37 _ (hdn 1 7 rfl) rfl rfl) (Sub.nil _))), ?_⟩) ?_
   ·skip
    refine .indexAddrA rfl Try.underlying29 Try.sizeOf3 rfl rfl hj27 ?_
    exact .finV rfl rfl (Fz.le_refl _)
   refine .cons (fun L env25 F_48 l_49 hL hdn hup hphi => ⟨[(38, (.pointer (some ⟨b9, 0 + 8 + 1 + j26 * 1, none⟩)))], fun S hS hV => (.cons (hV 8 38 _ (hdn 1 8 rfl) rfl rfl) (Sub.nil _)), ?_⟩) ?_
   ·skip
    refine .loadR (Φ := fun v => v = (.int .i64 (x21.times.woods j26))) 0 rfl l_49 (hb10.mono l_49) (get_set (get_set e13 e19) e24) rfl Try.isAgg3 rfl (fun vs ⟨q0, q1, h, r0⟩ => ⟨_, by subst h; exact (allLt8 (p := fun j26 => ((cCaskCask x21 q0 q1))[0 + 8 + 1 + j26 * 1]? = some (.int .i64 (x21.times.woods j26))) rfl rfl rfl rfl rfl rfl rfl rfl _ (idxO_some hj27).2.2.2), rfl⟩) (fun v hv => ?_)
    subst hv
    exact .finV rfl rfl (Fz.le_refl _)
   refine .cons (fun L env25 F_50 l_51 hL hdn hup hphi => ⟨[(4, (.int .i64 n_14))], fun S hS hV => (.cons (hS _ _ rfl) (Sub.nil _)), ?_⟩) ?_
   ·skip
    refine .move rfl rfl ?_
    exact .finV rfl rfl (Fz.le_refl _)
   refine .cons (fun L env25 F_52 l_53 hL hdn hup hphi => ⟨[(39, (.int .i64 (x21.times.woods j26))), (40, (.int .i64 n_14))], fun S hS hV => (.cons (hV 9 39 _ (hdn 1 9 rfl) rfl rfl) (.cons (hV 10 40 _ (hdn 1 10 rfl) rfl rfl) (Sub.nil _))), ?_⟩) ?_
   ·skip
    refine .add rfl rfl rfl ?_
    exact .finV rfl rfl (Fz.le_refl _)
   refine .cons (fun L env25 F_54 l_55 hL hdn hup hphi => ⟨[(30, (.pointer p3))], fun S hS hV => (.cons (hV 0 30 _ (hdn 1 0 rfl) rfl rfl) (Sub.nil _)), ?_⟩) ?_
   ·skip
    refine .nilCheckR hp11 rfl rfl ?_
    exact .finV rfl rfl (Fz.le_refl _)
   refine .cons (fun L env25 F_56 l_57 hL hdn hup hphi => ⟨[(42, (.pointer (some ⟨b9, 0, none⟩)))], fun S hS hV => (.cons (hV 12 42 _ (hdn 1 12 rfl) rfl rfl) (Sub.nil _)), ?_⟩) ?_
   ·skip
    refine .fieldAddr rfl Try.underlying75 rfl Try.sizeOf72 rfl ?_
    exact .finV rfl rfl (Fz.le_refl _)
   refine .cons (fun L env25 F_58 l_59 hL hdn hup hphi => ⟨[(43, (.pointer (some ⟨b9, 0 + 8, none⟩)))], fun S hS hV => (.cons (hV 13 43 _ (hdn 1 13 rfl) rfl rfl) (Sub.nil _)), ?_⟩) ?_
   ·skip
    refine .fieldAddr rfl Try.underlying72 rfl Try.sizeOf29 rfl ?_
    exact .finV rfl rfl (Fz.le_refl _)
   exact .nil
  refine .norm (S' := [(0, (.pointer p3)), (4, (.int .i64 n_14)), (30, (.pointer p3)), (31, (.pointer p3)), (32, (.pointer (some ⟨b9, 0, none⟩))), (33, (.pointer (some ⟨b9, 0 + 1, none⟩))), (34, (.int .i64 x21.wood)), (35, (.pointer (some ⟨b9, 0, none⟩))), (36, (.pointer (some ⟨b9, 0 + 8, none⟩))), (37, (.pointer (some ⟨b9, 0 + 8 + 1, none⟩))), (38, (.pointer (some ⟨b9, 0 + 8 + 1 + j26 * 1, none⟩))), (39, (.int .i64 (x21.times.woods j26))), (40, (.int .i64 n_14)), (41, (.int .i64 (w64 ((x21.times.woods j26) + n_14)))), (42, (.pointer (some ⟨b9, 0, none⟩))), (43, (.pointer (some ⟨b9, 0 + 8, none⟩))), (44, (.pointer (some ⟨b9, 0 + 8 + 1, none⟩)))]) (.cons (k := 0) rfl (.cons (k := 4) rfl (.cons (k := 30) rfl (.cons (k := 31) rfl (.cons (k := 32) rfl (.cons (k := 33) rfl (.cons (k := 34) rfl (.cons (k := 35) rfl (.cons (k := 36) rfl (.cons (k := 37) rfl (.cons (k := 38) rfl (.cons (k := 39) rfl (.cons (k := 40) rfl (.cons (k := 41) rfl (.cons (k := 42) rfl (.cons (k := 43) rfl (.cons (k := 44) rfl (.nil _)))))))))))))))))) (rfl : _ = [arena Γ.g75 (C75 Γ) F0 A23, R]) ?_
  refine .bind (fun j60 hj61 => ?_)
  refine .indexAddrA rfl Try.underlying29 Try.sizeOf3 rfl rfl hj61 ?_
  refine .letv (fun x62 e63 => ?_)
  refine .letv (fun A64 e65 => ?_)
  refine .storeR (xs' := A64) (x' := { x21 with times := { x21.times with woods := updN x21.times.woods j60 (w64 ((x21.times.woods j26) + n_14)) } }) (us := [(.int .i64 (w64 ((x21.times.woods j26) + n_14)))]) 0 rfl l_29 (Fz.le_refl _) (len75 Γ) Try.sizeOf3 (hb10.mono l_29) (get_set (get_set e13 e19) e24) rfl rfl rfl rfl rfl (allLt8 (p := fun j60 => Nat.ble (0 + 8 + 1 + j60 * 1 + 1) 26 = true) rfl rfl rfl rfl rfl rfl rfl rfl _ (idxO_some hj61).2.2.2) (fun F' vs le ⟨q0, q1, h, r0⟩ => ⟨q0, q1, by subst h; exact (allLt8 (p := fun j60 => setMany (cCaskCask x21 q0 q1) (0 + 8 + 1 + j60 * 1) [(.int .i64 (w64 ((x21.times.woods j26) + n_14)))] = (cCaskCask ({ x21 with times := { x21.times with woods := updN x21.times.woods j60 (w64 ((x21.times.woods j26) + n_14)) } }) q0 q1)) rfl rfl rfl rfl rfl rfl rfl rfl _ (idxO_some hj61).2.2.2), r0⟩) (by rw [e65, e63] <;> rfl) ?_
  refine .nil ?_
  refine .code ?_
  refine .keep (.cons (k := 0) rfl (.cons (k := 4) rfl (.nil _))) ?_
  refine .bind (fun j67 hj68 => ?_)
  refine .drawGD 15 0 (fun env66 => [((.pointer p3), fun _ => True), ((.pointer p3), fun _ => True), ((.pointer (some ⟨b9, 0, none⟩)), fun _ => True), ((.pointer (some ⟨b9, 0 + 2, none⟩)), fun _ => True), ((.int .i64 x62.place), fun _ => True), ((.pointer (some ⟨b9, 0, none⟩)), fun _ => True), ((.pointer (some ⟨b9, 0 + 8, none⟩)), fun _ => True), ((.pointer (some ⟨b9, 0 + 8 + 9, none⟩)), fun _ => True), ((.pointer (some ⟨b9, 0 + 8 + 9 + j67 * 1, none⟩)), fun _ => True), ((.int .i64 (x62.times.places j67)), fun _ => True), ((.int .i64 n_14), fun _ => True), ((.int .i64 (w64 ((x62.times.places j67) + n_14))), fun _ => True), ((.pointer (some ⟨b9, 0, none⟩)), fun _ => True), ((.pointer (some ⟨b9, 0 + 8, none⟩)), fun _ => True), ((.pointer (some ⟨b9, 0 + 8 + 9, none⟩)), fun _ => True)]) (fun L env66 => [arena Γ.g75 (C75 Γ) F_28 A64, R]) mixedOK (by kernel_rfl) (deepN (k := 15) (n := 17) rfl (allLt17 (p := fun t => 15 ≤ t → ∀ j, j < t → ∃ s, depB _ s t j = true) (fun h => absurd h (by decide)) (fun h => absurd h (by decide)) (fun h => absurd h (by decide)) (fun h => absurd h (by decide)) (fun h => absurd h (by decide)) (fun h => absurd h (by decide)) (fun h => absurd h (by decide)) (fun h => absurd h (by decide)) (fun h => absurd h (by decide)) (fun h => absurd h (by decide)) (fun h => absurd h (by decide)) (fun h => absurd h (by decide)) (fun h => absurd h (by decide)) (fun h => absurd h (by decide)) (fun h => absurd h (by decide)) (fun _ => allLt15 (p := fun j => ∃ s, depB _ s 15 j = true) ⟨1, rfl⟩ ⟨1, rfl⟩ ⟨1, rfl⟩ ⟨1, rfl⟩ ⟨1, rfl⟩ ⟨1, rfl⟩ ⟨1, rfl⟩ ⟨1, rfl⟩ ⟨1, rfl⟩ ⟨1, rfl⟩ ⟨1, rfl⟩ ⟨1, rfl⟩ ⟨3, rfl⟩ ⟨2, rfl⟩ ⟨1, rfl⟩) (fun _ => allLt16 (p := fun j => ∃ s, depB _ s 16 j = true) ⟨1, rfl⟩ ⟨1, rfl⟩ ⟨1, rfl⟩ ⟨1, rfl⟩ ⟨1, rfl⟩ ⟨1, rfl⟩ ⟨1, rfl⟩ ⟨1, rfl⟩ ⟨1, rfl⟩ ⟨1, rfl⟩ ⟨1, rfl⟩ ⟨1, rfl⟩ ⟨4, rfl⟩ ⟨3, rfl⟩ ⟨2, rfl⟩ ⟨1, rfl⟩))) rfl (fun _ => rfl) (by kernel_rfl) (fun _ => rfl) ?_ (fun env66 F_69 l_70 hphi => ?_)
  ·skip
   refine .cons (fun L env66 F_71 l_72 hL hdn hup hphi => ⟨[(0, (.pointer p3))], fun S hS hV => (.cons (hS _ _ rfl) (Sub.nil _)), ?_⟩) ?_
   ·skip
    refine .move rfl rfl ?_
    exact .finV rfl rfl (Fz.le_refl _)
   refine .cons (fun L env66 F_73 l_74 hL hdn hup hphi => ⟨[(0, (.pointer p3))], fun S hS hV => (.cons (hS _ _ rfl) (Sub.nil _)), ?_⟩) ?_
   ·skip
    refine .move rfl rfl ?_
    exact .finV rfl rfl (Fz.le_refl _)
   refine .cons (fun L env66 F_75 l_76 hL hdn hup hphi => ⟨[(47, (.pointer p3))], fun S hS hV => (.cons (hV 1 47 _ (hdn 1 1 rfl) rfl rfl) (Sub.nil _)), ?_⟩) ?_
   ·skip
    refine .nilCheckR hp11 rfl rfl ?_
    exact .finV rfl rfl (Fz.le_refl _)
   refine .cons (fun L env66 F_77 l_78 hL hdn hup hphi => ⟨[(48, (.pointer (some ⟨b9, 0, none⟩)))], fun S hS hV => (.cons (hV 2 48 _ (hdn 1 2 rfl) rfl rfl) (Sub.nil _)), ?_⟩) ?_
   ·skip
    refine .fieldAddr rfl Try.underlying75 rfl Try.sizeOf3 rfl ?_
    exact .finV rfl rfl (Fz.le_refl _)
   refine .cons (fun L env66 F_79 l_80 hL hdn hup hphi => ⟨[(49, (.pointer (some ⟨b9, 0 + 2, none⟩)))], fun S hS hV => (.cons (hV 3 49 _ (hdn 1 3 rfl) rfl rfl) (Sub.nil _)), ?_⟩) ?_
   ·skip
    refine .loadR (Φ := fun v => v = (.int .i64 x62.place)) 0 rfl l_80 (hb10.mono (Fz.le_trans l_29 l_80)) (get_set (get_set (get_set e13 e19) e24) e65) rfl Try.isAgg3 rfl (fun vs ⟨q0, q1, h, r0⟩ => ⟨_, by subst h; exact rfl, rfl⟩) (fun v hv => ?_)
    subst hv
    exact .finV rfl rfl (Fz.le_refl _)
   refine .cons (fun L env66 F_81 l_82 hL hdn hup hphi => ⟨[(46, (.pointer p3))], fun S hS hV => (.cons (hV 0 46 _ (hdn 1 0 rfl) rfl rfl) (Sub.nil _)), ?_⟩) ?_
   ·skip
    refine .nilCheckR hp11 rfl rfl ?_
    exact .finV rfl rfl (Fz.le_refl _)
   refine .cons (fun L env66 F_83 l_84 hL hdn hup hphi => ⟨[(51, (.pointer (some ⟨b9, 0, none⟩)))], fun S hS hV => (.cons (hV 5 51 _ (hdn 1 5 rfl) rfl rfl) (Sub.nil _)), ?_⟩) ?_
   ·skip
    refine .fieldAddr rfl Try.underlying75 rfl Try.sizeOf72 rfl ?_
    exact .finV rfl rfl (Fz.le_refl _)
   refine .cons (fun L env66 F_85 l_86 hL hdn hup hphi => ⟨[(52, (.pointer (some ⟨b9, 0 + 8, none⟩)))], fun S hS hV => (.cons (hV 6 52 _ (hdn 1 6 rfl) rfl rfl) (Sub.nil _)), ?_⟩) ?_
   ·skip
    refine .fieldAddr rfl Try.underlying72 rfl Try.sizeOf29 rfl ?_
    exact .finV rfl rfl (Fz.le_refl _)
   refine .cons (fun L env66 F_87 l_88 hL hdn hup hphi => ⟨[(50, (.int .i64 x62.place)), (53, (.pointer (some ⟨b9, 0 + 8 + 9, none⟩)))], fun S hS hV => (.cons (hV 4 50 _ (hdn 1 4 rfl) rfl rfl) (.cons (hV 7 53 _ (hdn 1 7 rfl) rfl rfl) (Sub.nil _))), ?_⟩) ?_
   ·skip
    refine .indexAddrA rfl Try.underlying29 Try.sizeOf3 rfl rfl hj68 ?_
    exact .finV rfl rfl (Fz.le_refl _)
   refine .cons (fun L env66 F_89 l_90 hL hdn hup hphi => ⟨[(54, (.pointer (some ⟨b9, 0 + 8 + 9 + j67 * 1, none⟩)))], fun S hS hV => (.cons (hV 8 54 _ (hdn 1 8 rfl) rfl rfl) (Sub.nil _)), ?_⟩) ?_
   ·skip
    refine .loadR (Φ := fun v => v = (.int .i64 (x62.times.places j67))) 0 rfl l_90 (hb10.mono (Fz.le_trans l_29 l_90)) (get_set (get_set (get_set e13 e19) e24) e65) rfl Try.isAgg3 rfl (fun vs ⟨q0, q1, h, r0⟩ => ⟨_, by subst h; exact (allLt8 (p := fun j67 => ((cCaskCask x62 q0 q1))[0 + 8 + 9 + j67 * 1]? = some (.int .i64 (x62.times.places j67))) rfl rfl rfl rfl rfl rfl rfl rfl _ (idxO_some hj68).2.2.2), rfl⟩) (fun v hv => ?_)
    subst hv
    exact .finV rfl rfl (Fz.le_refl _)
   refine .cons (fun L env66 F_91 l_92 hL hdn hup hphi => ⟨[(4, (.int .i64 n_14))], fun S hS hV => (.cons (hS _ _ rfl) (Sub.nil _)), ?_⟩) ?_
   ·skip
    refine .move rfl rfl ?_
    exact .finV rfl rfl (Fz.le_refl _)
   refine .cons (fun L env66 F_93 l_94 hL hdn hup hphi => ⟨[(55, (.int .i64 (x62.times.places j67))), (56, (.int .i64 n_14))], fun S hS hV => (.cons (hV 9 55 _ (hdn 1 9 rfl) rfl rfl) (.cons (hV 10 56 _ (hdn 1 10 rfl) rfl rfl) (Sub.nil _))), ?_⟩) ?_
   ·skip
    refine .add rfl rfl rfl ?_
    exact .finV rfl rfl (Fz.le_refl _)
   refine .cons (fun L env66 F_95 l_96 hL hdn hup hphi => ⟨[(46, (.pointer p3))], fun S hS hV => (.cons (hV 0 46 _ (hdn 1 0 rfl) rfl rfl) (Sub.nil _)), ?_⟩) ?_
   ·skip
    refine .nilCheckR hp11 rfl rfl ?_
    exact .finV rfl rfl (Fz.le_refl _)
   refine .cons (fun L env66 F_97 l_98 hL hdn hup hphi => ⟨[(58, (.pointer (some ⟨b9, 0, none⟩)))], fun S hS hV => (.cons (hV 12 58 _ (hdn 1 12 rfl) rfl rfl) (Sub.nil _)), ?_⟩) ?_
   ·skip
    refine .fieldAddr rfl Try.underlying75 rfl Try.sizeOf72 rfl ?_
    exact .finV rfl rfl (Fz.le_refl _)
   refine .cons (fun L env66 F_99 l_100 hL hdn hup hphi => ⟨[(59, (.pointer (some ⟨b9, 0 + 8, none⟩)))], fun S hS hV => (.cons (hV 13 59 _ (hdn 1 13 rfl) rfl rfl) (Sub.nil _)), ?_⟩) ?_
   ·skip
    refine .fieldAddr rfl Try.underlying72 rfl Try.sizeOf29 rfl ?_
    exact .finV rfl rfl (Fz.le_refl _)
   exact .nil
  refine .norm (S' := [(0, (.pointer p3)), (4, (.int .i64 n_14)), (46, (.pointer p3)), (47, (.pointer p3)), (48, (.pointer (some ⟨b9, 0, none⟩))), (49, (.pointer (some ⟨b9, 0 + 2, none⟩))), (50, (.int .i64 x62.place)), (51, (.pointer (some ⟨b9, 0, none⟩))), (52, (.pointer (some ⟨b9, 0 + 8, none⟩))), (53, (.pointer (some ⟨b9, 0 + 8 + 9, none⟩))), (54, (.pointer (some ⟨b9, 0 + 8 + 9 + j67 * 1, none⟩))), (55, (.int .i64 (x62.times.places j67))), (56, (.int .i64 n_14)), (57, (.int .i64 (w64 ((x62.times.places j67) + n_14)))), (58, (.pointer (some ⟨b9, 0, none⟩))), (59, (.pointer (some ⟨b9, 0 + 8, none⟩))), (60, (.pointer (some ⟨b9, 0 + 8 + 9, none⟩)))]) (.cons (k := 0) rfl (.cons (k := 4) rfl (.cons (k := 46) rfl (.cons (k := 47) rfl (.cons (k := 48) rfl (.cons (k := 49) rfl (.cons (k := 50) rfl (.cons (k := 51) rfl (.cons (k := 52) rfl (.cons (k := 53) rfl (.cons (k := 54) rfl (.cons (k := 55) rfl (.cons (k := 56) rfl (.cons (k := 57) rfl (.cons (k := 58) rfl (.cons (k := 59) rfl (.cons (k := 60) rfl (.nil _)))))))))))))))))) (rfl : _ = [arena Γ.g75 (C75 Γ) F_28 A64, R]) ?_
  refine .bind (fun j101 hj102 => ?_)
  refine .indexAddrA rfl Try.underlying29 Try.sizeOf3 rfl rfl hj102 ?_
  refine .letv (fun x103 e104 => ?_)
  refine .letv (fun A105 e106 => ?_)
  refine .storeR (xs' := A105) (x' := { x62 with times := { x62.times with places := updN x62.times.places j101 (w64 ((x62.times.places j67) + n_14)) } }) (us := [(.int .i64 (w64 ((x62.times.places j67) + n_14)))]) 0 rfl l_70 (Fz.le_refl _) (len75 Γ) Try.sizeOf3 (hb10.mono (Fz.le_trans l_29 l_70)) (get_set (get_set (get_set e13 e19) e24) e65) rfl rfl rfl rfl rfl (allLt8 (p := fun j101 => Nat.ble (0 + 8 + 9 + j101 * 1 + 1) 26 = true) rfl rfl rfl rfl rfl rfl rfl rfl _ (idxO_some hj102).2.2.2) (fun F' vs le ⟨q0, q1, h, r0⟩ => ⟨q0, q1, by subst h; exact (allLt8 (p := fun j101 => setMany (cCaskCask x62 q0 q1) (0 + 8 + 9 + j101 * 1) [(.int .i64 (w64 ((x62.times.places j67) + n_14)))] = (cCaskCask ({ x62 with times := { x62.times with places := updN x62.times.places j101 (w64 ((x62.times.places j67) + n_14)) } }) q0 q1)) rfl rfl rfl rfl rfl rfl rfl rfl _ (idxO_some hj102).2.2.2), r0⟩) (by rw [e106, e104] <;> rfl) ?_
  refine .nil ?_
  exact .endH [0, 0] Try.results36 (.nil) rfl (Fz.le_trans l_29 l_70) rfl
 ·skip
  refine .skip ?_
  exact .endH [0, 0] Try.results36 (.nil) rfl (Fz.le_refl _) rfl
noncomputable def m_cask_book_find (A1 : List CaskCask) (A2 : List CaskBook) (A3 : List (List (Int × (Option Nat)))) (b4 : (Option Nat)) (number8 : Int) (day9 : Int) : Option (Out CaskMisfit ((Option Nat) × (List CaskCask))) :=
 (b4).bind fun i10 => (A2[i10]?).bind fun x15 => (x15.casks).bind fun i20 => (A3[i20]?).bind fun x25 => bindX (m_cask_need (!(((mapGet x25 number8).getD none)).isNone) 4) (fun q36 => some (.pan q36)) fun _r_30 => (m_cask_cask_rest A1 ((mapGet x25 number8).getD none) day9).bind fun r_37 => some (.ok (((mapGet x25 number8).getD none), r_37))
set_option maxHeartbeats 4000000 in
theorem c_cask_book_find (F0 : Fz) (Γ : Gam) (A1 : List CaskCask) (A2 : List CaskBook) (A3 : List (List (Int × (Option Nat)))) (b4 : (Option Nat)) (p5 : Option Addr) (_k6 : Unit) (h7 : RepPtr Γ.g69 F0 p5 b4) (number8 : Int) (day9 : Int) : CTX Try.prog penc 66 [(.pointer p5), (.int .i64 number8), (.int .i64 day9)].toArray F0 [arena Γ.g75 (C75 Γ) F0 A1, arena Γ.g69 (C69 Γ) F0 A2, arena Γ.g67 (C67 Γ) F0 A3] (m_cask_book_find A1 A2 A3 b4 number8 day9) (fun (r : (Option Nat) × (List CaskCask)) F v => ∃ (p0 : Option Addr) (_k0 : Unit), v = (.pointer p0) ∧ RepPtr Γ.g75 F p0 r.1) (fun (r : (Option Nat) × (List CaskCask)) F' _ => [arena Γ.g75 (C75 Γ) F' r.2, arena Γ.g69 (C69 Γ) F' A2, arena Γ.g67 (C67 Γ) F' A3]) := by
 refine CTX.enter Try.func66 rfl Try.ntmps66 rfl fun r R => ?_
 refine .norm (Sub.refl _) (rfl : _ = [arena Γ.g75 (C75 Γ) F0 A1, arena Γ.g69 (C69 Γ) F0 A2, arena Γ.g67 (C67 Γ) F0 A3, R]) ?_
 unfold m_cask_book_find
 refine .seq ?_
 refine .region ?_
 refine .assign rfl rfl ?_
 refine .nil ?_
 refine .code ?_
 refine .seq ?_
 refine .region ?_
 refine .move rfl rfl ?_
 refine .bind (fun i10 e11 => ?_)
 obtain ⟨b12, hb13, hp14⟩ := h7.at e11
 refine .nilCheckR hp14 rfl rfl ?_
 refine .fieldAddr rfl Try.underlying69 rfl Try.sizeOf67 rfl ?_
 refine .bind (fun x15 e16 => ?_)
 refine .loadR (Φ := fun v => ∃ (p17 : Option Nat) (k18 : Unit), v = (.map p17) ∧ RepRef Γ.g67 F0 p17 x15.casks) 1 rfl (Fz.le_refl _) hb13 e16 rfl Try.isAgg67 rfl (fun vs ⟨q0, q1, h, r0⟩ => ⟨_, by subst h; exact rfl, q0, q1, rfl, r0⟩) (fun v hv => ?_)
 obtain ⟨p17, k18, rfl, h19⟩ := hv
 refine .move rfl rfl ?_
 refine .bind (fun i20 e21 => ?_)
 obtain ⟨b22, hb23, hp24⟩ := h19.at e21
 refine .bind (fun x25 e26 => ?_)
 refine .lookupR (key := number8) (z := none) 2 rfl (Fz.le_refl _) hb23 hp24 e26 rfl Try.underlying67 (.int Try.underlying3) Try.zeroValue60 ⟨none, (), rfl, RepPtr.nil⟩ rfl rfl ?_
 intro v hv
 obtain ⟨p27, k28, rfl, h29⟩ := hv
 refine .assign rfl rfl ?_
 refine .nil ?_
 refine .code ?_
 refine .seq ?_
 refine .region ?_
 refine .move rfl rfl ?_
 refine .neqPtrNil h29 rfl Try.underlying60 rfl rfl ?_
 refine .callB [] rfl Try.call34 rfl rfl rfl rfl (c_cask_need _ (!(((mapGet x25 number8).getD none)).isNone) 4) ?_ (fun q36 F_34 _ l_35 => (pan_postX (i := 3) rfl l_35))
 rintro r_30 F_31 _ e33 l_32 rfl
 refine .pick [0, 0, 0, 0] (rfl : _ = [arena Γ.g75 (C75 Γ) F0 A1, arena Γ.g69 (C69 Γ) F0 A2, arena Γ.g67 (C67 Γ) F0 A3, R]) ?_
 refine .nil ?_
 refine .code ?_
 refine .seq ?_
 refine .region ?_
 refine .move rfl rfl ?_
 refine .move rfl rfl ?_
 refine .upR 0 (stays75 Γ) l_32 rfl ?_
 refine .callT [0] rfl Try.call36 rfl rfl rfl rfl (c_cask_cask_rest _ Γ A1 ((mapGet x25 number8).getD none) p27 k28 (h29.mono l_32) day9) ?_
 rintro r_37 F_38 _ e40 l_39 rfl
 refine .pick [0, 0, 0, 0] (rfl : _ = [arena Γ.g75 (C75 Γ) F_38 r_37, arena Γ.g69 (C69 Γ) F0 A2, arena Γ.g67 (C67 Γ) F0 A3, R]) ?_
 refine .nil ?_
 refine .code ?_
 refine .seq ?_
 refine .region ?_
 refine .move rfl rfl ?_
 refine .assign rfl rfl ?_
 refine .nil ?_
 refine .code ?_
 refine .upR 1 (stays69 Γ) (Fz.le_trans l_32 l_39) rfl ?_
 refine .upR 2 (stays67 Γ) (Fz.le_trans l_32 l_39) rfl ?_
 exact .retX [0, 0, 0, 0] Try.results66 (.tmp rfl (.nil)) rfl (Fz.le_trans l_32 l_39) ⟨p27, k28, rfl, (h29.mono (Fz.le_trans l_32 l_39))⟩
def Try.clone81_ren : Go.Shelf.Ren := ⟨fun | 5 => 81 | 7 => 90 | n => n, fun | 23 => 73 | 25 => 3 | 3 => 4 | 4 => 4 | 20 => 20 | n => n, fun | n => n⟩
theorem Try.clone81 : Go.Proofs.SlLaysW.n5 Try.prog Try.clone81_ren := {
 mixed := by kernel_rfl
 f5 := ⟨Try.f81.name, by decide, Try.func81.trans (congrArg some (by kernel_rfl))⟩
 f7 := Try.func90.trans (congrArg some (by kernel_rfl))
 t4 := Try.underlying4
 a4 := Try.isAgg4
 z4 := Try.sizeOf4
 v4 := Try.zeroValue4
 t20 := Try.underlying20
 a20 := Try.isAgg20
 z20 := Try.sizeOf20
 v20 := Try.zeroValue20
 t23 := Try.underlying73
 a23 := Try.isAgg73
 z23 := Try.sizeOf73
 v23 := Try.zeroValue73 }
noncomputable def m_maps_Clone_bool (A1 : List (List (Int × Bool))) (c2 : Option Nat) : Option (Option Nat × List ((List (Int × Bool)))) := cloneM A1 c2
theorem c_maps_Clone_bool (F0 : Fz) (Γ : Gam) (A1 : List (List (Int × Bool))) (c2 : Option Nat) (p3 : Option Nat) (_k4 : Unit) (h5 : RepRef Γ.g73 F0 p3 c2) : CTH Try.prog 81 [(.map p3)].toArray F0 [arena Γ.g73 (C73 Γ) F0 A1] (m_maps_Clone_bool A1 c2) (fun (r : (Option Nat) × (List (List (Int × Bool)))) F v => ∃ (p0 : Option Nat) (_k0 : Unit), v = (.map p0) ∧ RepRef Γ.g73 F p0 r.1) (fun (r : (Option Nat × List ((List (Int × Bool))))) F' => [arena Γ.g73 (C73 Γ) F' r.2]) :=
 cloneH h5 (fun b es cl w hb => Go.Proofs.AnyW.maps_Clone Try.clone81 b es cl w hb) (fun w => Go.Proofs.AnyW.maps_Clone_nil Try.clone81 w)
noncomputable def b_cask_times_least_1 (u2 : CaskTimes) (s11 : Int × CaskTimes) : Option (Ctl (Int × CaskTimes) ((CaskTimes))) :=
 if (decide (s11.1 < 8)) then ((idxO 8 s11.1).bind fun j16 => (idxO 8 s11.1).bind fun j18 => (idxO 8 s11.1).bind fun j44 => bindv ({ s11.2 with woods := updN s11.2.woods j44 (imin (s11.2.woods j16) (u2.woods j18)) }) fun x46 => some (.next ((w64 (s11.1 + 1)), x46))) else (some (.done s11.2))
noncomputable def b_cask_times_least_2 (u2 : CaskTimes) (s51 : Int × CaskTimes) : Option (Ctl (Int × CaskTimes) ((CaskTimes))) :=
 if (decide (s51.1 < 8)) then ((idxO 8 s51.1).bind fun j56 => (idxO 8 s51.1).bind fun j58 => (idxO 8 s51.1).bind fun j84 => bindv ({ s51.2 with places := updN s51.2.places j84 (imin (s51.2.places j56) (u2.places j58)) }) fun x86 => some (.next ((w64 (s51.1 + 1)), x86))) else (some (.done s51.2))
noncomputable def m_cask_times_least (t1 : CaskTimes) (u2 : CaskTimes) : Option CaskTimes :=
 bindv ({ t1 with age := (imin t1.age u2.age) }) fun x9 => (loopM (b_cask_times_least_1 u2) (0, x9)).bind fun b48 => (loopM (b_cask_times_least_2 u2) (0, b48)).bind fun b88 => some b88
theorem c_cask_times_least (F0 : Fz) (t1 : CaskTimes) (u2 : CaskTimes) : CT0 Try.prog 82 [(eCaskTimes t1), (eCaskTimes u2)].toArray F0 (m_cask_times_least t1 u2) (fun r _ v => v = (eCaskTimes r)) := by
 refine CT0.enter Try.func82 rfl Try.ntmps82 rfl fun r R => ?_
 unfold m_cask_times_least
 refine .seq ?_
 refine .region ?_
 refine .box (cs := (cCaskTimes t1)) rfl rfl rfl (fun b3 => ?_)
 refine .boxF (cs := (cCaskTimes u2)) rfl rfl rfl (fun b4 F_5 l_6 hb7 => ?_)
 refine .alloc (cs := (cCaskTimes (CaskTimes.mk 0 (fun _ => 0) (fun _ => 0)))) rfl Try.zeroValue72 rfl (fun b8 => ?_)
 refine .nil ?_
 refine .code ?_
 refine .seq ?_
 refine .region ?_
 refine .fieldAddr rfl Try.underlying72 rfl Try.sizeOf3 rfl ?_
 refine .loadO rfl Try.isAgg3 rfl (i := 1) rfl rfl ?_
 refine .fieldAddr rfl Try.underlying72 rfl Try.sizeOf3 rfl ?_
 refine .loadF rfl Try.isAgg3 rfl hb7 rfl ?_
 refine .min2 rfl rfl rfl ?_
 refine .fieldAddr rfl Try.underlying72 rfl Try.sizeOf3 rfl ?_
 refine .letv (fun x9 e10 => ?_)
 refine .store (cs' := (cCaskTimes x9)) Try.sizeOf3 rfl rfl rfl rfl (i := 1) rfl (Nat.le_of_ble_eq_true rfl) rfl (by rw [e10]; kernel_rfl) ?_
 refine .nil ?_
 refine .code ?_
 refine .seq ?_
 refine .seq ?_
 refine .region ?_
 refine .move rfl rfl ?_
 refine .nil ?_
 refine .code ?_
 refine .block ?_
 refine .keep (.cons (k := 2) rfl (.cons (k := 3) rfl (.cons (k := 4) rfl (.cons (k := 13) rfl (.nil _))))) ?_
 refine .loop (fun (s11 : Int × CaskTimes) a w => ∃ (F_12 : Fz), F_5 ≤ F_12 ∧ Hd 46 [] [(2, (.pointer (some ⟨b3, 0, none⟩))), (3, (.pointer (some ⟨b4, 0, none⟩))), (4, (.pointer (some ⟨b8, 0, none⟩))), (13, (.int .i64 s11.1))] F_12 [pt b8 (.cells (cCaskTimes (CaskTimes.mk 0 (fun _ => 0) (fun _ => 0))).toArray 72), pt b3 (.cells (cCaskTimes s11.2).toArray 72), R] a w) (fun b48 e a w => e = .exit 0 ∧ ∃ (F_49 : Fz), F_5 ≤ F_49 ∧ Hd 46 [] [(2, (.pointer (some ⟨b3, 0, none⟩))), (3, (.pointer (some ⟨b4, 0, none⟩))), (4, (.pointer (some ⟨b8, 0, none⟩)))] F_49 [pt b8 (.cells (cCaskTimes (CaskTimes.mk 0 (fun _ => 0) (fun _ => 0))).toArray 72), pt b3 (.cells (cCaskTimes b48).toArray 72), R] a w) ?_ ?_ ?_
 ·exact fun a w h => ⟨F_5, (Fz.le_refl _), h.1.sub (.cons (k := 2) rfl (.cons (k := 3) rfl (.cons (k := 4) rfl (.cons (k := 13) rfl (.nil _))))), h.2⟩
 ·intro s11 ctl
  refine GC.ex (fun a w ⟨F_12, l_13, hA⟩ => ⟨_, hA, ?_⟩)
  unfold b_cask_times_least_1
  refine .seq ?_
  refine .region ?_
  refine .lss rfl rfl rfl ?_
  refine .nil ?_
  refine .code ?_
  refine .seq ?_
  refine .cond rfl (fun hb14 => ?_) (fun hb14 => ?_)
  ·skip
   refine .skip ?_
   refine .code ?_
   refine .seq ?_
   refine .block ?_
   refine .seq ?_
   refine .region ?_
   refine .move rfl rfl ?_
   refine .assign rfl rfl ?_
   refine .nil ?_
   refine .code ?_
   refine .keep (.cons (k := 2) rfl (.cons (k := 3) rfl (.cons (k := 4) rfl (.cons (k := 5) rfl (.cons (k := 13) rfl (.nil _)))))) ?_
   refine .bind (fun j16 hj17 => ?_)
   refine .bind (fun j18 hj19 => ?_)
   refine .drawGD 11 0 (fun env15 => [((.int .i64 s11.1), fun _ => True), ((.int .i64 s11.1), fun _ => True), ((.pointer (some ⟨b3, 0 + 1, none⟩)), fun _ => True), ((.pointer (some ⟨b3, 0 + 1 + j16 * 1, none⟩)), fun _ => True), ((.int .i64 (s11.2.woods j16)), fun _ => True), ((.int .i64 s11.1), fun _ => True), ((.pointer (some ⟨b4, 0 + 1, none⟩)), fun _ => True), ((.pointer (some ⟨b4, 0 + 1 + j18 * 1, none⟩)), fun _ => True), ((.int .i64 (u2.woods j18)), fun _ => True), ((.int .i64 (imin (s11.2.woods j16) (u2.woods j18))), fun _ => True), ((.pointer (some ⟨b3, 0 + 1, none⟩)), fun _ => True)]) (fun L env15 => [pt b8 (.cells (cCaskTimes (CaskTimes.mk 0 (fun _ => 0) (fun _ => 0))).toArray 72), pt b3 (.cells (cCaskTimes s11.2).toArray 72), R]) mixedOK (by kernel_rfl) (deepN (k := 11) (n := 13) rfl (allLt13 (p := fun t => 11 ≤ t → ∀ j, j < t → ∃ s, depB _ s t j = true) (fun h => absurd h (by decide)) (fun h => absurd h (by decide)) (fun h => absurd h (by decide)) (fun h => absurd h (by decide)) (fun h => absurd h (by decide)) (fun h => absurd h (by decide)) (fun h => absurd h (by decide)) (fun h => absurd h (by decide)) (fun h => absurd h (by decide)) (fun h => absurd h (by decide)) (fun h => absurd h (by decide)) (fun _ => allLt11 (p := fun j => ∃ s, depB _ s 11 j = true) ⟨1, rfl⟩ ⟨1, rfl⟩ ⟨1, rfl⟩ ⟨1, rfl⟩ ⟨1, rfl⟩ ⟨1, rfl⟩ ⟨1, rfl⟩ ⟨1, rfl⟩ ⟨1, rfl⟩ ⟨1, rfl⟩ ⟨1, rfl⟩) (fun _ => allLt12 (p := fun j => ∃ s, depB _ s 12 j = true) ⟨1, rfl⟩ ⟨1, rfl⟩ ⟨1, rfl⟩ ⟨1, rfl⟩ ⟨1, rfl⟩ ⟨1, rfl⟩ ⟨1, rfl⟩ ⟨1, rfl⟩ ⟨1, rfl⟩ ⟨1, rfl⟩ ⟨2, rfl⟩ ⟨1, rfl⟩))) rfl (fun _ => rfl) (by kernel_rfl) (fun _ => rfl) ?_ (fun env15 F_20 l_21 hphi => ?_)
   ·skip
    refine .cons (fun L env15 F_22 l_23 hL hdn hup hphi => ⟨[(5, (.int .i64 s11.1))], fun S hS hV => (.cons (hS _ _ rfl) (Sub.nil _)), ?_⟩) ?_
    ·skip
     refine .move rfl rfl ?_
     exact .finV rfl rfl (Fz.le_refl _)
    refine .cons (fun L env15 F_24 l_25 hL hdn hup hphi => ⟨[(5, (.int .i64 s11.1))], fun S hS hV => (.cons (hS _ _ rfl) (Sub.nil _)), ?_⟩) ?_
    ·skip
     refine .move rfl rfl ?_
     exact .finV rfl rfl (Fz.le_refl _)
    refine .cons (fun L env15 F_26 l_27 hL hdn hup hphi => ⟨[(2, (.pointer (some ⟨b3, 0, none⟩)))], fun S hS hV => (.cons (hS _ _ rfl) (Sub.nil _)), ?_⟩) ?_
    ·skip
     refine .fieldAddr rfl Try.underlying72 rfl Try.sizeOf29 rfl ?_
     exact .finV rfl rfl (Fz.le_refl _)
    refine .cons (fun L env15 F_28 l_29 hL hdn hup hphi => ⟨[(17, (.int .i64 s11.1)), (18, (.pointer (some ⟨b3, 0 + 1, none⟩)))], fun S hS hV => (.cons (hV 1 17 _ (hdn 1 1 rfl) rfl rfl) (.cons (hV 2 18 _ (hdn 1 2 rfl) rfl rfl) (Sub.nil _))), ?_⟩) ?_
    ·skip
     refine .indexAddrA rfl Try.underlying29 Try.sizeOf3 rfl rfl hj17 ?_
     exact .finV rfl rfl (Fz.le_refl _)
    refine .cons (fun L env15 F_30 l_31 hL hdn hup hphi => ⟨[(19, (.pointer (some ⟨b3, 0 + 1 + j16 * 1, none⟩)))], fun S hS hV => (.cons (hV 3 19 _ (hdn 1 3 rfl) rfl rfl) (Sub.nil _)), ?_⟩) ?_
    ·skip
     refine .loadO rfl Try.isAgg3 rfl (i := 1) rfl (allLt8 (p := fun j16 => ((cCaskTimes s11.2))[0 + 1 + j16 * 1]? = some (.int .i64 (s11.2.woods j16))) rfl rfl rfl rfl rfl rfl rfl rfl _ (idxO_some hj17).2.2.2) ?_
     exact .finV rfl rfl (Fz.le_refl _)
    refine .cons (fun L env15 F_32 l_33 hL hdn hup hphi => ⟨[(5, (.int .i64 s11.1))], fun S hS hV => (.cons (hS _ _ rfl) (Sub.nil _)), ?_⟩) ?_
    ·skip
     refine .move rfl rfl ?_
     exact .finV rfl rfl (Fz.le_refl _)
    refine .cons (fun L env15 F_34 l_35 hL hdn hup hphi => ⟨[(3, (.pointer (some ⟨b4, 0, none⟩)))], fun S hS hV => (.cons (hS _ _ rfl) (Sub.nil _)), ?_⟩) ?_
    ·skip
     refine .fieldAddr rfl Try.underlying72 rfl Try.sizeOf29 rfl ?_
     exact .finV rfl rfl (Fz.le_refl _)
    refine .cons (fun L env15 F_36 l_37 hL hdn hup hphi => ⟨[(21, (.int .i64 s11.1)), (22, (.pointer (some ⟨b4, 0 + 1, none⟩)))], fun S hS hV => (.cons (hV 5 21 _ (hdn 1 5 rfl) rfl rfl) (.cons (hV 6 22 _ (hdn 1 6 rfl) rfl rfl) (Sub.nil _))), ?_⟩) ?_
    ·skip
     refine .indexAddrA rfl Try.underlying29 Try.sizeOf3 rfl rfl hj19 ?_
     exact .finV rfl rfl (Fz.le_refl _)
    refine .cons (fun L env15 F_38 l_39 hL hdn hup hphi => ⟨[(23, (.pointer (some ⟨b4, 0 + 1 + j18 * 1, none⟩)))], fun S hS hV => (.cons (hV 7 23 _ (hdn 1 7 rfl) rfl rfl) (Sub.nil _)), ?_⟩) ?_
    ·skip
     refine .loadF rfl Try.isAgg3 rfl ((Fz.le_trans l_13 l_39).mem _ _ hb7) (allLt8 (p := fun j18 => ((cCaskTimes u2))[0 + 1 + j18 * 1]? = some (.int .i64 (u2.woods j18))) rfl rfl rfl rfl rfl rfl rfl rfl _ (idxO_some hj19).2.2.2) ?_
     exact .finV rfl rfl (Fz.le_refl _)
    refine .cons (fun L env15 F_40 l_41 hL hdn hup hphi => ⟨[(20, (.int .i64 (s11.2.woods j16))), (24, (.int .i64 (u2.woods j18)))], fun S hS hV => (.cons (hV 4 20 _ (hdn 1 4 rfl) rfl rfl) (.cons (hV 8 24 _ (hdn 1 8 rfl) rfl rfl) (Sub.nil _))), ?_⟩) ?_
    ·skip
     refine .min2 rfl rfl rfl ?_
     exact .finV rfl rfl (Fz.le_refl _)
    refine .cons (fun L env15 F_42 l_43 hL hdn hup hphi => ⟨[(2, (.pointer (some ⟨b3, 0, none⟩)))], fun S hS hV => (.cons (hS _ _ rfl) (Sub.nil _)), ?_⟩) ?_
    ·skip
     refine .fieldAddr rfl Try.underlying72 rfl Try.sizeOf29 rfl ?_
     exact .finV rfl rfl (Fz.le_refl _)
    exact .nil
   refine .norm (S' := [(2, (.pointer (some ⟨b3, 0, none⟩))), (3, (.pointer (some ⟨b4, 0, none⟩))), (4, (.pointer (some ⟨b8, 0, none⟩))), (5, (.int .i64 s11.1)), (13, (.int .i64 s11.1)), (16, (.int .i64 s11.1)), (17, (.int .i64 s11.1)), (18, (.pointer (some ⟨b3, 0 + 1, none⟩))), (19, (.pointer (some ⟨b3, 0 + 1 + j16 * 1, none⟩))), (20, (.int .i64 (s11.2.woods j16))), (21, (.int .i64 s11.1)), (22, (.pointer (some ⟨b4, 0 + 1, none⟩))), (23, (.pointer (some ⟨b4, 0 + 1 + j18 * 1, none⟩))), (24, (.int .i64 (u2.woods j18))), (25, (.int .i64 (imin (s11.2.woods j16) (u2.woods j18)))), (26, (.pointer (some ⟨b3, 0 + 1, none⟩)))]) (.cons (k := 2) rfl (.cons (k := 3) rfl (.cons (k := 4) rfl (.cons (k := 5) rfl (.cons (k := 13) rfl (.cons (k := 16) rfl (.cons (k := 17) rfl (.cons (k := 18) rfl (.cons (k := 19) rfl (.cons (k := 20) rfl (.cons (k := 21) rfl (.cons (k := 22) rfl (.cons (k := 23) rfl (.cons (k := 24) rfl (.cons (k := 25) rfl (.cons (k := 26) rfl (.nil _))))))))))))))))) (rfl : _ = [pt b8 (.cells (cCaskTimes (CaskTimes.mk 0 (fun _ => 0) (fun _ => 0))).toArray 72), pt b3 (.cells (cCaskTimes s11.2).toArray 72), R]) ?_
   refine .bind (fun j44 hj45 => ?_)
   refine .indexAddrA rfl Try.underlying29 Try.sizeOf3 rfl rfl hj45 ?_
   refine .letv (fun x46 e47 => ?_)
   refine .store (cs' := (cCaskTimes x46)) Try.sizeOf3 rfl rfl rfl rfl (i := 1) rfl (allLt8 (p := fun j44 => 0 + 1 + j44 * 1 + 1 ≤ 17) (by decide) (by decide) (by decide) (by decide) (by decide) (by decide) (by decide) (by decide) _ (idxO_some hj45).2.2.2) rfl (by rw [e47]; exact (allLt8 (p := fun j44 => setMany ((cCaskTimes s11.2)) (0 + 1 + j44 * 1) [(.int .i64 (imin (s11.2.woods j16) (u2.woods j18)))] = (cCaskTimes ({ s11.2 with woods := updN s11.2.woods j44 (imin (s11.2.woods j16) (u2.woods j18)) }))) rfl rfl rfl rfl rfl rfl rfl rfl _ (idxO_some hj45).2.2.2)) ?_
   refine .nil ?_
   refine .block ?_
   refine .code ?_
   refine .region ?_
   refine .add rfl rfl rfl ?_
   refine .move rfl rfl ?_
   refine .nil ?_
   exact .nil (LPost.norm fun a w h => ⟨F_20, (Fz.le_trans l_13 l_21), h.1.sub (.cons (k := 2) rfl (.cons (k := 3) rfl (.cons (k := 4) rfl (.cons (k := 13) rfl (.nil _))))), h.2⟩)
  ·skip
   refine .exitOut rfl (LPost.exit fun a w h => ⟨rfl, F_12, l_13, h.1.sub (.cons (k := 2) rfl (.cons (k := 3) rfl (.cons (k := 4) rfl (.nil _)))), h.2⟩)
 ·intro b48 hb0 hk e a w hD
  obtain ⟨rfl, F_49, l_50, hA⟩ := hD
  refine interp_exit rfl (GE.app ?_ hk a w hA)
  refine .code ?_
  refine .seq ?_
  refine .seq ?_
  refine .region ?_
  refine .move rfl rfl ?_
  refine .nil ?_
  refine .code ?_
  refine .block ?_
  refine .keep (.cons (k := 2) rfl (.cons (k := 3) rfl (.cons (k := 4) rfl (.cons (k := 29) rfl (.nil _))))) ?_
  refine .loop (fun (s51 : Int × CaskTimes) a w => ∃ (F_52 : Fz), F_49 ≤ F_52 ∧ Hd 46 [] [(2, (.pointer (some ⟨b3, 0, none⟩))), (3, (.pointer (some ⟨b4, 0, none⟩))), (4, (.pointer (some ⟨b8, 0, none⟩))), (29, (.int .i64 s51.1))] F_52 [pt b8 (.cells (cCaskTimes (CaskTimes.mk 0 (fun _ => 0) (fun _ => 0))).toArray 72), pt b3 (.cells (cCaskTimes s51.2).toArray 72), R] a w) (fun b88 e a w => e = .exit 2 ∧ ∃ (F_89 : Fz), F_49 ≤ F_89 ∧ Hd 46 [] [(2, (.pointer (some ⟨b3, 0, none⟩))), (4, (.pointer (some ⟨b8, 0, none⟩)))] F_89 [pt b8 (.cells (cCaskTimes (CaskTimes.mk 0 (fun _ => 0) (fun _ => 0))).toArray 72), pt b3 (.cells (cCaskTimes b88).toArray 72), R] a w) ?_ ?_ ?_
  ·exact fun a w h => ⟨F_49, (Fz.le_refl _), h.1.sub (.cons (k := 2) rfl (.cons (k := 3) rfl (.cons (k := 4) rfl (.cons (k := 29) rfl (.nil _))))), h.2⟩
  ·intro s51 ctl
   refine GC.ex (fun a w ⟨F_52, l_53, hA⟩ => ⟨_, hA, ?_⟩)
   unfold b_cask_times_least_2
   refine .seq ?_
   refine .region ?_
   refine .lss rfl rfl rfl ?_
   refine .nil ?_
   refine .code ?_
   refine .seq ?_
   refine .cond rfl (fun hb54 => ?_) (fun hb54 => ?_)
   ·skip
    refine .skip ?_
    refine .code ?_
    refine .seq ?_
    refine .block ?_
    refine .seq ?_
    refine .region ?_
    refine .move rfl rfl ?_
    refine .assign rfl rfl ?_
    refine .nil ?_
    refine .code ?_
    refine .keep (.cons (k := 2) rfl (.cons (k := 3) rfl (.cons (k := 4) rfl (.cons (k := 6) rfl (.cons (k := 29) rfl (.nil _)))))) ?_
    refine .bind (fun j56 hj57 => ?_)
    refine .bind (fun j58 hj59 => ?_)
    refine .drawGD 11 0 (fun env55 => [((.int .i64 s51.1), fun _ => True), ((.int .i64 s51.1), fun _ => True), ((.pointer (some ⟨b3, 0 + 9, none⟩)), fun _ => True), ((.pointer (some ⟨b3, 0 + 9 + j56 * 1, none⟩)), fun _ => True), ((.int .i64 (s51.2.places j56)), fun _ => True), ((.int .i64 s51.1), fun _ => True), ((.pointer (some ⟨b4, 0 + 9, none⟩)), fun _ => True), ((.pointer (some ⟨b4, 0 + 9 + j58 * 1, none⟩)), fun _ => True), ((.int .i64 (u2.places j58)), fun _ => True), ((.int .i64 (imin (s51.2.places j56) (u2.places j58))), fun _ => True), ((.pointer (some ⟨b3, 0 + 9, none⟩)), fun _ => True)]) (fun L env55 => [pt b8 (.cells (cCaskTimes (CaskTimes.mk 0 (fun _ => 0) (fun _ => 0))).toArray 72), pt b3 (.cells (cCaskTimes s51.2).toArray 72), R]) mixedOK (by kernel_rfl) (deepN (k := 11) (n := 13) rfl (allLt13 (p := fun t => 11 ≤ t → ∀ j, j < t → ∃ s, depB _ s t j = true) (fun h => absurd h (by decide)) (fun h => absurd h (by decide)) (fun h => absurd h (by decide)) (fun h => absurd h (by decide)) (fun h => absurd h (by decide)) (fun h => absurd h (by decide)) (fun h => absurd h (by decide)) (fun h => absurd h (by decide)) (fun h => absurd h (by decide)) (fun h => absurd h (by decide)) (fun h => absurd h (by decide)) (fun _ => allLt11 (p := fun j => ∃ s, depB _ s 11 j = true) ⟨1, rfl⟩ ⟨1, rfl⟩ ⟨1, rfl⟩ ⟨1, rfl⟩ ⟨1, rfl⟩ ⟨1, rfl⟩ ⟨1, rfl⟩ ⟨1, rfl⟩ ⟨1, rfl⟩ ⟨1, rfl⟩ ⟨1, rfl⟩) (fun _ => allLt12 (p := fun j => ∃ s, depB _ s 12 j = true) ⟨1, rfl⟩ ⟨1, rfl⟩ ⟨1, rfl⟩ ⟨1, rfl⟩ ⟨1, rfl⟩ ⟨1, rfl⟩ ⟨1, rfl⟩ ⟨1, rfl⟩ ⟨1, rfl⟩ ⟨1, rfl⟩ ⟨2, rfl⟩ ⟨1, rfl⟩))) rfl (fun _ => rfl) (by kernel_rfl) (fun _ => rfl) ?_ (fun env55 F_60 l_61 hphi => ?_)
    ·skip
     refine .cons (fun L env55 F_62 l_63 hL hdn hup hphi => ⟨[(6, (.int .i64 s51.1))], fun S hS hV => (.cons (hS _ _ rfl) (Sub.nil _)), ?_⟩) ?_
     ·skip
      refine .move rfl rfl ?_
      exact .finV rfl rfl (Fz.le_refl _)
     refine .cons (fun L env55 F_64 l_65 hL hdn hup hphi => ⟨[(6, (.int .i64 s51.1))], fun S hS hV => (.cons (hS _ _ rfl) (Sub.nil _)), ?_⟩) ?_
     ·skip
      refine .move rfl rfl ?_
      exact .finV rfl rfl (Fz.le_refl _)
     refine .cons (fun L env55 F_66 l_67 hL hdn hup hphi => ⟨[(2, (.pointer (some ⟨b3, 0, none⟩)))], fun S hS hV => (.cons (hS _ _ rfl) (Sub.nil _)), ?_⟩) ?_
     ·skip
      refine .fieldAddr rfl Try.underlying72 rfl Try.sizeOf29 rfl ?_
      exact .finV rfl rfl (Fz.le_refl _)
     refine .cons (fun L env55 F_68 l_69 hL hdn hup hphi => ⟨[(33, (.int .i64 s51.1)), (34, (.pointer (some ⟨b3, 0 + 9, none⟩)))], fun S hS hV => (.cons (hV 1 33 _ (hdn 1 1 rfl) rfl rfl) (.cons (hV 2 34 _ (hdn 1 2 rfl) rfl rfl) (Sub.nil _))), ?_⟩) ?_
     ·skip
      refine .indexAddrA rfl Try.underlying29 Try.sizeOf3 rfl rfl hj57 ?_
      exact .finV rfl rfl (Fz.le_refl _)
     refine .cons (fun L env55 F_70 l_71 hL hdn hup hphi => ⟨[(35, (.pointer (some ⟨b3, 0 + 9 + j56 * 1, none⟩)))], fun S hS hV => (.cons (hV 3 35 _ (hdn 1 3 rfl) rfl rfl) (Sub.nil _)), ?_⟩) ?_
     ·skip
      refine .loadO rfl Try.isAgg3 rfl (i := 1) rfl (allLt8 (p := fun j56 => ((cCaskTimes s51.2))[0 + 9 + j56 * 1]? = some (.int .i64 (s51.2.places j56))) rfl rfl rfl rfl rfl rfl rfl rfl _ (idxO_some hj57).2.2.2) ?_
      exact .finV rfl rfl (Fz.le_refl _)
     refine .cons (fun L env55 F_72 l_73 hL hdn hup hphi => ⟨[(6, (.int .i64 s51.1))], fun S hS hV => (.cons (hS _ _ rfl) (Sub.nil _)), ?_⟩) ?_
     ·skip
      refine .move rfl rfl ?_
      exact .finV rfl rfl (Fz.le_refl _)
     refine .cons (fun L env55 F_74 l_75 hL hdn hup hphi => ⟨[(3, (.pointer (some ⟨b4, 0, none⟩)))], fun S hS hV => (.cons (hS _ _ rfl) (Sub.nil _)), ?_⟩) ?_
     ·skip
      refine .fieldAddr rfl Try.underlying72 rfl Try.sizeOf29 rfl ?_
      exact .finV rfl rfl (Fz.le_refl _)
     refine .cons (fun L env55 F_76 l_77 hL hdn hup hphi => ⟨[(37, (.int .i64 s51.1)), (38, (.pointer (some ⟨b4, 0 + 9, none⟩)))], fun S hS hV => (.cons (hV 5 37 _ (hdn 1 5 rfl) rfl rfl) (.cons (hV 6 38 _ (hdn 1 6 rfl) rfl rfl) (Sub.nil _))), ?_⟩) ?_
     ·skip
      refine .indexAddrA rfl Try.underlying29 Try.sizeOf3 rfl rfl hj59 ?_
      exact .finV rfl rfl (Fz.le_refl _)
     refine .cons (fun L env55 F_78 l_79 hL hdn hup hphi => ⟨[(39, (.pointer (some ⟨b4, 0 + 9 + j58 * 1, none⟩)))], fun S hS hV => (.cons (hV 7 39 _ (hdn 1 7 rfl) rfl rfl) (Sub.nil _)), ?_⟩) ?_
     ·skip
      refine .loadF rfl Try.isAgg3 rfl ((Fz.le_trans l_50 (Fz.le_trans l_53 l_79)).mem _ _ hb7) (allLt8 (p := fun j58 => ((cCaskTimes u2))[0 + 9 + j58 * 1]? = some (.int .i64 (u2.places j58))) rfl rfl rfl rfl rfl rfl rfl rfl _ (idxO_some hj59).2.2.2) ?_
      exact .finV rfl rfl (Fz.le_refl _)
     refine .cons (fun L env55 F_80 l_81 hL hdn hup hphi => ⟨[(36, (.int .i64 (s51.2.places j56))), (40, (.int .i64 (u2.places j58)))], fun S hS hV => (.cons (hV 4 36 _ (hdn 1 4 rfl) rfl rfl) (.cons (hV 8 40 _ (hdn 1 8 rfl) rfl rfl) (Sub.nil _))), ?_⟩) ?_
     ·skip
      refine .min2 rfl rfl rfl ?_
      exact .finV rfl rfl (Fz.le_refl _)
     refine .cons (fun L env55 F_82 l_83 hL hdn hup hphi => ⟨[(2, (.pointer (some ⟨b3, 0, none⟩)))], fun S hS hV => (.cons (hS _ _ rfl) (Sub.nil _)), ?_⟩) ?_
     ·skip
      refine .fieldAddr rfl Try.underlying72 rfl Try.sizeOf29 rfl ?_
      exact .finV rfl rfl (Fz.le_refl _)
     exact .nil
    refine .norm (S' := [(2, (.pointer (some ⟨b3, 0, none⟩))), (3, (.pointer (some ⟨b4, 0, none⟩))), (4, (.pointer (some ⟨b8, 0, none⟩))), (6, (.int .i64 s51.1)), (29, (.int .i64 s51.1)), (32, (.int .i64 s51.1)), (33, (.int .i64 s51.1)), (34, (.pointer (some ⟨b3, 0 + 9, none⟩))), (35, (.pointer (some ⟨b3, 0 + 9 + j56 * 1, none⟩))), (36, (.int .i64 (s51.2.places j56))), (37, (.int .i64 s51.1)), (38, (.pointer (some ⟨b4, 0 + 9, none⟩))), (39, (.pointer (some ⟨b4, 0 + 9 + j58 * 1, none⟩))), (40, (.int .i64 (u2.places j58))), (41, (.int .i64 (imin (s51.2.places j56) (u2.places j58)))), (42, (.pointer (some ⟨b3, 0 + 9, none⟩)))]) (.cons (k := 2) rfl (.cons (k := 3) rfl (.cons (k := 4) rfl (.cons (k := 6) rfl (.cons (k := 29) rfl (.cons (k := 32) rfl (.cons (k := 33) rfl (.cons (k := 34) rfl (.cons (k := 35) rfl (.cons (k := 36) rfl (.cons (k := 37) rfl (.cons (k := 38) rfl (.cons (k := 39) rfl (.cons (k := 40) rfl (.cons (k := 41) rfl (.cons (k := 42) rfl (.nil _))))))))))))))))) (rfl : _ = [pt b8 (.cells (cCaskTimes (CaskTimes.mk 0 (fun _ => 0) (fun _ => 0))).toArray 72), pt b3 (.cells (cCaskTimes s51.2).toArray 72), R]) ?_
    refine .bind (fun j84 hj85 => ?_)
    refine .indexAddrA rfl Try.underlying29 Try.sizeOf3 rfl rfl hj85 ?_
    refine .letv (fun x86 e87 => ?_)
    refine .store (cs' := (cCaskTimes x86)) Try.sizeOf3 rfl rfl rfl rfl (i := 1) rfl (allLt8 (p := fun j84 => 0 + 9 + j84 * 1 + 1 ≤ 17) (by decide) (by decide) (by decide) (by decide) (by decide) (by decide) (by decide) (by decide) _ (idxO_some hj85).2.2.2) rfl (by rw [e87]; exact (allLt8 (p := fun j84 => setMany ((cCaskTimes s51.2)) (0 + 9 + j84 * 1) [(.int .i64 (imin (s51.2.places j56) (u2.places j58)))] = (cCaskTimes ({ s51.2 with places := updN s51.2.places j84 (imin (s51.2.places j56) (u2.places j58)) }))) rfl rfl rfl rfl rfl rfl rfl rfl _ (idxO_some hj85).2.2.2)) ?_
    refine .nil ?_
    refine .block ?_
    refine .code ?_
    refine .region ?_
    refine .add rfl rfl rfl ?_
    refine .move rfl rfl ?_
    refine .nil ?_
    exact .nil (LPost.norm fun a w h => ⟨F_60, (Fz.le_trans l_53 l_61), h.1.sub (.cons (k := 2) rfl (.cons (k := 3) rfl (.cons (k := 4) rfl (.cons (k := 29) rfl (.nil _))))), h.2⟩)
   ·skip
    refine .exitOut rfl (LPost.exit fun a w h => ⟨rfl, F_52, l_53, h.1.sub (.cons (k := 2) rfl (.cons (k := 4) rfl (.nil _))), h.2⟩)
  ·intro b88 hb0 hk e a w hD
   obtain ⟨rfl, F_89, l_90, hA⟩ := hD
   refine interp_exit rfl (GE.app ?_ hk a w hA)
   refine .code ?_
   refine .seq ?_
   refine .region ?_
   refine .loadOA rfl Try.isAgg72 Try.sizeOf72 rfl (i := 1) rfl (vs := (cCaskTimes b88)) (by kernel_rfl) rfl ?_
   refine .store (cs' := (cCaskTimes b88)) Try.sizeOf72 rfl rfl rfl rfl (i := 0) rfl (Nat.le_of_ble_eq_true rfl) rfl (setMany_all (by rfl)) ?_
   refine .nil ?_
   refine .code ?_
   exact .ret0 Try.results82 (.agg rfl Try.isAgg72 Try.sizeOf72 (i := 0) rfl (vs' := (cCaskTimes b88)) (by kernel_rfl) rfl (.nil)) (i := 2) rfl (Fz.le_trans l_6 (Fz.le_trans l_50 l_90)) rfl
noncomputable def b_maps_Copy_bool_1 (dst2 : (Option Nat)) (i10 : Nat) (x30 : (Int × Bool)) (s22 : (List (List (Int × Bool)))) : Option ((List (List (Int × Bool)))) :=
 (dst2).bind fun i37 => (neO i37 i10).bind fun _ => (s22[i37]?).bind fun x42 => bindv (List.set s22 i37 (mapSet x42 x30.1 x30.2)) fun m_44 => some m_44
noncomputable def m_maps_Copy_bool (A1 : List (List (Int × Bool))) (dst2 : (Option Nat)) (src6 : (Option Nat)) : Option (((List (List (Int × Bool))))) :=
 (src6).bind fun i10 => (A1[i10]?).bind fun x15 => (permE PermL (b_maps_Copy_bool_1 dst2 i10) x15 A1).bind fun R_51 => some (List.set R_51 i10 x15)
set_option maxHeartbeats 4000000 in
theorem c_maps_Copy_bool (F0 : Fz) (Γ : Gam) (A1 : List (List (Int × Bool))) (dst2 : (Option Nat)) (p3 : Option Nat) (_k4 : Unit) (h5 : RepRef Γ.g73 F0 p3 dst2) (src6 : (Option Nat)) (p7 : Option Nat) (_k8 : Unit) (h9 : RepRef Γ.g73 F0 p7 src6) : CTH Try.prog 83 [(.map p3), (.map p7)].toArray F0 [arena Γ.g73 (C73 Γ) F0 A1] (m_maps_Copy_bool A1 dst2 src6) (fun (_r : (List (List (Int × Bool)))) _ v => v = .tuple #[]) (fun (r : (List (List (Int × Bool)))) F' => [arena Γ.g73 (C73 Γ) F' r]) := by
 refine CTH.enter Try.func83 rfl Try.ntmps83 rfl fun r R => ?_
 refine .norm (Sub.refl _) (rfl : _ = [arena Γ.g73 (C73 Γ) F0 A1, R]) ?_
 unfold m_maps_Copy_bool
 refine .seq ?_
 refine .region ?_
 refine .move rfl rfl ?_
 refine .bind (fun i10 e11 => ?_)
 obtain ⟨b12, hb13, hp14⟩ := h9.at e11
 refine .bind (fun x15 e16 => ?_)
 refine .rangeR 0 rfl hb13 hp14 e16 rfl Try.underlying73 rfl (fun it17 hn18 => ?_)
 refine .nil ?_
 refine .code ?_
 refine .block ?_
 refine .keep (.cons (k := 0) rfl (.cons (k := 7) rfl (.nil _))) ?_
 refine .mapLoopE (B := 0) (b := (b_maps_Copy_bool_1 dst2 i10)) PermL (fun td20 dn21 (s22 : (List (List (Int × Bool)))) a w => ∃ (F_24 : Fz), F0 ≤ F_24 ∧ Hd 16 [] [(0, (.map p3)), (7, (.pointer (some ⟨it17, 0, none⟩)))] F_24 [ownIter (fun x : Int => (.int .i64 x)) (fun _ (x : Bool) v => v = (.bool x)) F0 b12 it17 td20 dn21, hole Γ.g73 (C73 Γ) F_24 i10 b12 s22, R] a w) rfl ?_ ?_ ?_ ?_
 ·exact fun a w h => ⟨F0, (Fz.le_refl _), h.1.sub (.cons (k := 0) rfl (.cons (k := 7) rfl (.nil _))), h.2⟩
 ·exact fun dn21 R_47 R_48 a w hE ⟨F_49, l_50, hA⟩ => ⟨F_49, l_50, Hd.holeE 1 rfl (hb13.mono l_50) hE hA⟩
 ·intro td20 dn21 s22 hall23
  rcases td20 with _ | ⟨y, ys⟩
  ·skip
   refine GC.ex (fun a w ⟨F_26, l_27, hA⟩ => ⟨_, hA, ?_⟩)
   refine .seq ?_
   refine .region ?_
   refine .nextM0 0 rfl rfl rfl rfl ?_
   refine .extract rfl rfl rfl ?_
   refine .nil ?_
   refine .code ?_
   refine .seq ?_
   refine .condF rfl ?_
   exact .exitOut rfl (MPost.over fun a w h => ⟨F_26, l_27, h.1.sub (.cons (k := 0) rfl (.cons (k := 7) rfl (.nil _))), h.2⟩)
  ·skip
   refine GC.ex (fun a w ⟨F_28, l_29, hA⟩ => ⟨_, hA, ?_⟩)
   refine .seq ?_
   refine .region ?_
   refine .nextM1 0 rfl (List.cons_ne_nil _ _) rfl rfl rfl (fun x30 todo31 v32 hp33 hv34 => ?_)
   obtain ⟨s35, hs36⟩ := hall23 x30 (hp33.mem_iff.1 (List.mem_cons_self ..))
   refine .use hs36 ?_
   unfold b_maps_Copy_bool_1
   refine .extract rfl rfl rfl ?_
   refine .nil ?_
   refine .code ?_
   refine .seq ?_
   refine .condT rfl ?_
   refine .skip ?_
   refine .code ?_
   refine .block ?_
   refine .seq ?_
   refine .region ?_
   refine .entryM 0 rfl rfl rfl rfl (fun v hv => ?_)
   obtain rfl := hv _ l_29
   refine .extract rfl rfl rfl ?_
   refine .extract rfl rfl rfl ?_
   refine .assign rfl rfl ?_
   refine .assign rfl rfl ?_
   refine .nil ?_
   refine .code ?_
   refine .region ?_
   refine .move rfl rfl ?_
   refine .move rfl rfl ?_
   refine .move rfl rfl ?_
   refine .bind (fun i37 e38 => ?_)
   obtain ⟨b39, hb40, hp41⟩ := (h5.mono l_29).at e38
   refine .bind (fun _ e46 => ?_)
   refine .bind (fun x42 e43 => ?_)
   refine .letv (fun m_44 e45 => ?_)
   refine .mapUpdateH (key := x30.1) (val := x30.2) 1 rfl (Fz.le_refl _) (hb13.mono l_29) hb40 hp41 (neO_some e46) e43 Try.underlying73 (.int Try.underlying3) rfl rfl rfl (fun _ _ => rfl) e45 ?_
   refine .nil ?_
   refine .block ?_
   exact .nil (MPost.norm hp33 hs36 fun a w h => ⟨F_28, l_29, h.1.sub (.cons (k := 0) rfl (.cons (k := 7) rfl (.nil _))), h.2⟩)
 ·intro dn21 R_51 hR52 hp53
  refine GE.ex (fun a w ⟨F_54, l_55, hA⟩ => ⟨_, hA, ?_⟩)
  refine .iterBack 0 0 rfl rfl l_55 (Fz.le_refl _) hp53 hn18 rfl ?_
  exact .endH [0, 0] Try.results83 (.nil) rfl l_55 rfl
noncomputable def m_cask_cask_pour (A1 : List CaskCask) (A2 : List (List (Int × Bool))) (c3 : (Option Nat)) (t7 : CaskTimes) (fills8 : (Option Nat)) (n_12 : Int) : Option (((List CaskCask) × (List (List (Int × Bool))))) :=
 (c3).bind fun i17 => (A1[i17]?).bind fun x22 => (if (x22.amount == 0) then ((m_maps_Clone_bool A2 fills8).bind fun r_26 => bindv ({ x22 with times := t7 }) fun x29 => bindv (List.set A1 i17 x29) fun A31 => (A31[i17]?).bind fun x58 => bindv ({ x58 with fills := r_26.1 }) fun x60 => bindv (List.set A31 i17 x60) fun A62 => some (A62, r_26.2)) else ((m_cask_times_least x22.times t7).bind fun r_67 => bindv ({ x22 with times := r_67 }) fun x87 => bindv (List.set A1 i17 x87) fun A89 => (m_maps_Copy_bool A2 x87.fills fills8).bind fun r_94 => some (A89, r_94)) : Option ((List CaskCask) × (List (List (Int × Bool))))).bind fun j98 => (j98.1[i17]?).bind fun x101 => bindv ({ x101 with amount := (w64 (x101.amount + n_12)) }) fun x103 => bindv (List.set j98.1 i17 x103) fun A105 => some (A105, j98.2)
set_option maxHeartbeats 4000000 in
theorem c_cask_cask_pour (F0 : Fz) (Γ : Gam) (A1 : List CaskCask) (A2 : List (List (Int × Bool))) (c3 : (Option Nat)) (p4 : Option Addr) (_k5 : Unit) (h6 : RepPtr Γ.g75 F0 p4 c3) (t7 : CaskTimes) (fills8 : (Option Nat)) (p9 : Option Nat) (k10 : Unit) (h11 : RepRef Γ.g73 F0 p9 fills8) (n_12 : Int) : CTH Try.prog 67 [(.pointer p4), (eCaskTimes t7), (.map p9), (.int .i64 n_12)].toArray F0 [arena Γ.g75 (C75 Γ) F0 A1, arena Γ.g73 (C73 Γ) F0 A2] (m_cask_cask_pour A1 A2 c3 t7 fills8 n_12) (fun (_r : (List CaskCask) × (List (List (Int × Bool)))) _ v => v = .tuple #[]) (fun (r : (List CaskCask) × (List (List (Int × Bool)))) F' => [arena Γ.g75 (C75 Γ) F' r.1, arena Γ.g73 (C73 Γ) F' r.2]) := by
 refine CTH.enter Try.func67 rfl Try.ntmps67 rfl fun r R => ?_
 refine .norm (Sub.refl _) (rfl : _ = [arena Γ.g75 (C75 Γ) F0 A1, arena Γ.g73 (C73 Γ) F0 A2, R]) ?_
 unfold m_cask_cask_pour
 refine .seq ?_
 refine .region ?_
 refine .boxF (cs := (cCaskTimes t7)) rfl rfl rfl (fun b13 F_14 l_15 hb16 => ?_)
 refine .nil ?_
 refine .code ?_
 refine .seq ?_
 refine .seq ?_
 refine .region ?_
 refine .move rfl rfl ?_
 refine .bind (fun i17 e18 => ?_)
 obtain ⟨b19, hb20, hp21⟩ := (h6.mono l_15).at e18
 refine .nilCheckR hp21 rfl rfl ?_
 refine .fieldAddr rfl Try.underlying75 rfl Try.sizeOf3 rfl ?_
 refine .bind (fun x22 e23 => ?_)
 refine .loadR (Φ := fun v => v = (.int .i64 x22.amount)) 0 rfl l_15 hb20 e23 rfl Try.isAgg3 rfl (fun vs ⟨q0, q1, h, r0⟩ => ⟨_, by subst h; exact rfl, rfl⟩) (fun v hv => ?_)
 subst hv
 refine .eql rfl rfl rfl ?_
 refine .nil ?_
 refine .code ?_
 refine .keep (.cons (k := 0) rfl (.cons (k := 2) rfl (.cons (k := 3) rfl (.cons (k := 5) rfl (.cons (k := 12) rfl (.nil _)))))) ?_
 refine GC.join0 (σ := (List CaskCask) × (List (List (Int × Bool)))) (fun j98 a w => ∃ (F_99 : Fz), F_14 ≤ F_99 ∧ Hd 45 [] [(0, (.pointer p4)), (3, (.int .i64 n_12))] F_99 [arena Γ.g75 (C75 Γ) F_99 j98.1, arena Γ.g73 (C73 Γ) F_99 j98.2, R] a w) (fun sj => ?_) (fun j98 hs0 => GE.ex (fun a w ⟨F_99, l_100, hA⟩ => ⟨_, hA, ?_⟩))
 ·skip
  refine .cond rfl (fun hb24 => ?_) (fun hb24 => ?_)
  ·skip
   refine .keep (.cons (k := 0) rfl (.cons (k := 2) rfl (.cons (k := 3) rfl (.cons (k := 5) rfl (.nil _))))) ?_
   refine .bind (fun r_26 e27 => ?_)
   refine .letv (fun x29 e30 => ?_)
   refine .letv (fun A31 e32 => ?_)
   refine .drawGD 8 0 (fun env25 => [((.pointer p4), fun _ => True), ((.pointer p4), fun _ => True), ((eCaskTimes t7), fun _ => True), ((.map p9), fun _ => True), ((.map (env25.o 40)), fun G => env25.f 40 ≤ G ∧ RepRef Γ.g73 G (env25.o 40) r_26.1), ((.pointer (some ⟨b19, 0, none⟩)), fun _ => True), ((.pointer (some ⟨b19, 0 + 8, none⟩)), fun _ => True), (undef, fun G => env25.f 70 ≤ G)]) (fun L env25 => [(bif L 7 then (arena Γ.g75 (C75 Γ) (env25.f 70) A31) else (arena Γ.g75 (C75 Γ) F0 A1)), (bif L 4 then (arena Γ.g73 (C73 Γ) (env25.f 40) r_26.2) else (arena Γ.g73 (C73 Γ) F0 A2)), R]) mixedOK (by kernel_rfl) (deepN (k := 8) (n := 11) rfl (allLt11 (p := fun t => 8 ≤ t → ∀ j, j < t → ∃ s, depB _ s t j = true) (fun h => absurd h (by decide)) (fun h => absurd h (by decide)) (fun h => absurd h (by decide)) (fun h => absurd h (by decide)) (fun h => absurd h (by decide)) (fun h => absurd h (by decide)) (fun h => absurd h (by decide)) (fun h => absurd h (by decide)) (fun _ => allLt8 (p := fun j => ∃ s, depB _ s 8 j = true) ⟨1, rfl⟩ ⟨1, rfl⟩ ⟨1, rfl⟩ ⟨1, rfl⟩ ⟨1, rfl⟩ ⟨1, rfl⟩ ⟨1, rfl⟩ ⟨1, rfl⟩) (fun _ => allLt9 (p := fun j => ∃ s, depB _ s 9 j = true) ⟨1, rfl⟩ ⟨1, rfl⟩ ⟨1, rfl⟩ ⟨1, rfl⟩ ⟨1, rfl⟩ ⟨1, rfl⟩ ⟨1, rfl⟩ ⟨1, rfl⟩ ⟨1, rfl⟩) (fun _ => allLt10 (p := fun j => ∃ s, depB _ s 10 j = true) ⟨1, rfl⟩ ⟨1, rfl⟩ ⟨1, rfl⟩ ⟨1, rfl⟩ ⟨1, rfl⟩ ⟨1, rfl⟩ ⟨1, rfl⟩ ⟨1, rfl⟩ ⟨2, rfl⟩ ⟨1, rfl⟩))) rfl (fun _ => rfl) (by kernel_rfl) (fun _ => rfl) ?_ (fun env25 F_33 l_34 hphi => ?_)
   ·skip
    refine .cons (fun L env25 F_37 l_38 hL hdn hup hphi => ⟨[(0, (.pointer p4))], fun S hS hV => (.cons (hS _ _ rfl) (Sub.nil _)), ?_⟩) ?_
    ·skip
     refine .move rfl rfl ?_
     exact .finV rfl rfl (Fz.le_refl _)
    refine .cons (fun L env25 F_39 l_40 hL hdn hup hphi => ⟨[(0, (.pointer p4))], fun S hS hV => (.cons (hS _ _ rfl) (Sub.nil _)), ?_⟩) ?_
    ·skip
     refine .move rfl rfl ?_
     exact .finV rfl rfl (Fz.le_refl _)
    refine .cons (fun L env25 F_41 l_42 hL hdn hup hphi => ⟨[(5, (.pointer (some ⟨b13, 0, none⟩)))], fun S hS hV => (.cons (hS _ _ rfl) (Sub.nil _)), ?_⟩) ?_
    ·skip
     refine .loadFA rfl Try.isAgg72 Try.sizeOf72 rfl (l_42.mem _ _ hb16) (vs := (cCaskTimes t7)) (by kernel_rfl) rfl ?_
     exact .finV rfl rfl (Fz.le_refl _)
    refine .cons (fun L env25 F_43 l_44 hL hdn hup hphi => ⟨[(2, (.map p9))], fun S hS hV => (.cons (hS _ _ rfl) (Sub.nil _)), ?_⟩) ?_
    ·skip
     refine .move rfl rfl ?_
     exact .finV rfl rfl (Fz.le_refl _)
    refine .cons (fun L env25 F_45 l_46 hL hdn hup hphi => ⟨[(16, (.map p9))], fun S hS hV => (.cons (hV 3 16 _ (hdn 1 3 rfl) rfl rfl) (Sub.nil _)), ?_⟩) ?_
    ·skip
     refine .norm (Sub.refl _) ((cons_eq (condF (hup 1 7 rfl)) (cons_eq (condF hL) (cons_eq rfl rfl))) : _ = [arena Γ.g75 (C75 Γ) F0 A1, arena Γ.g73 (C73 Γ) F0 A2, R]) ?_
     refine .upR 1 (stays73 Γ) (Fz.le_trans l_15 l_46) rfl ?_
     refine .callTK e27 [1] rfl Try.call81 rfl rfl rfl rfl (c_maps_Clone_bool _ Γ A2 fills8 p9 k10 (h11.mono (Fz.le_trans l_15 l_46))) ?_
     rintro F_47 _ l_48 ⟨p49, k50, rfl, h51⟩
     refine .pick [1, 0, 0] (rfl : _ = [arena Γ.g75 (C75 Γ) F0 A1, arena Γ.g73 (C73 Γ) F_47 r_26.2, R]) ?_
     exact .finQ ({ env25 with a := env25.a, o := (updN env25.o 40 p49), f := (updN env25.f 40 F_47) }) [true, true, true, true, false, false, false, false] rfl (by kernel_rfl) rfl rfl l_48 (fun _ le => ⟨le, h51.mono le⟩) (cons_eq (condF (b := updB L 4 7) (hup 1 7 rfl)) (cons_eq (condT rfl) (cons_eq rfl rfl)))
    refine .cons (fun L env25 F_52 l_53 hL hdn hup hphi => ⟨[(13, (.pointer p4))], fun S hS hV => (.cons (hV 0 13 _ (hdn 1 0 rfl) rfl rfl) (Sub.nil _)), ?_⟩) ?_
    ·skip
     obtain ⟨l_35, h28⟩ := hphi 4 _ (hdn 1 4 rfl) rfl _ (Fz.le_refl _)
     refine .nilCheckR hp21 rfl rfl ?_
     exact .finV rfl rfl (Fz.le_refl _)
    refine .cons (fun L env25 F_54 l_55 hL hdn hup hphi => ⟨[(18, (.pointer (some ⟨b19, 0, none⟩)))], fun S hS hV => (.cons (hV 5 18 _ (hdn 1 5 rfl) rfl rfl) (Sub.nil _)), ?_⟩) ?_
    ·skip
     obtain ⟨l_35, h28⟩ := hphi 4 _ (hdn 1 4 rfl) rfl _ (Fz.le_refl _)
     refine .fieldAddr rfl Try.underlying75 rfl Try.sizeOf72 rfl ?_
     exact .finV rfl rfl (Fz.le_refl _)
    refine .cons (fun L env25 F_56 l_57 hL hdn hup hphi => ⟨[(15, (eCaskTimes t7)), (19, (.pointer (some ⟨b19, 0 + 8, none⟩)))], fun S hS hV => (.cons (hV 2 15 _ (hdn 1 2 rfl) rfl rfl) (.cons (hV 6 19 _ (hdn 1 6 rfl) rfl rfl) (Sub.nil _))), ?_⟩) ?_
    ·skip
     obtain ⟨l_35, h28⟩ := hphi 4 _ (hdn 1 4 rfl) rfl _ (Fz.le_refl _)
     refine .storeR (xs' := A31) (x' := { x22 with times := t7 }) (us := (cCaskTimes t7)) 0 (congrArg some (condF hL)) (Fz.le_trans l_15 l_57) (Fz.le_refl _) (len75 Γ) Try.sizeOf72 (hb20.mono l_57) e23 rfl rfl rfl rfl rfl rfl (fun F' vs le ⟨q0, q1, h, r0⟩ => ⟨q0, q1, by subst h; exact (by kernel_rfl), r0⟩) (by rw [e32, e30] <;> rfl) ?_
     exact .finQS ({ env25 with f := updN env25.f 70 F_56 }) [true, true, true, true, true, true, true, false] rfl (by kernel_rfl) rfl rfl (Fz.le_refl _) (fun _ le => le) (cons_eq (condT rfl) (cons_eq rfl (cons_eq rfl rfl)))
    exact .nil
   obtain ⟨l_35, h28⟩ := hphi 4 _ rfl
   have l_36 := hphi 7 _ rfl
   refine .norm (S' := [(0, (.pointer p4)), (2, (.map p9)), (3, (.int .i64 n_12)), (5, (.pointer (some ⟨b13, 0, none⟩))), (13, (.pointer p4)), (14, (.pointer p4)), (15, (eCaskTimes t7)), (16, (.map p9)), (17, (.map (env25.o 40))), (18, (.pointer (some ⟨b19, 0, none⟩))), (19, (.pointer (some ⟨b19, 0 + 8, none⟩)))]) (.cons (k := 0) rfl (.cons (k := 2) rfl (.cons (k := 3) rfl (.cons (k := 5) rfl (.cons (k := 13) rfl (.cons (k := 14) rfl (.cons (k := 15) rfl (.cons (k := 16) rfl (.cons (k := 17) rfl (.cons (k := 18) rfl (.cons (k := 19) rfl (.nil _)))))))))))) (rfl : _ = [arena Γ.g75 (C75 Γ) (env25.f 70) A31, arena Γ.g73 (C73 Γ) (env25.f 40) r_26.2, R]) ?_
   refine .nilCheckR hp21 rfl rfl ?_
   refine .fieldAddr rfl Try.underlying75 rfl Try.sizeOf73 rfl ?_
   refine .bind (fun x58 e59 => ?_)
   refine .letv (fun x60 e61 => ?_)
   refine .letv (fun A62 e63 => ?_)
   refine .storeR (xs' := A62) (x' := { x58 with fills := r_26.1 }) (us := [(.map (env25.o 40))]) 0 rfl l_36 (Fz.le_refl _) (len75 Γ) Try.sizeOf73 (hb20.mono l_34) e59 rfl rfl rfl rfl rfl rfl (fun F' vs le ⟨q0, q1, h, r0⟩ => ⟨(env25.o 40), (), by subst h; exact rfl, (h28.mono le)⟩) (by rw [e63, e61] <;> rfl) ?_
   refine .nil ?_
   refine .upR 1 (stays73 Γ) l_35 rfl ?_
   exact .nil fun e a w h => by cases e; exact ⟨rfl, ⟨F_33, l_34, h.1.sub (.cons (k := 0) rfl (.cons (k := 3) rfl (.nil _))), h.2⟩⟩
  ·skip
   refine .seq ?_
   refine .keep (.cons (k := 0) rfl (.cons (k := 2) rfl (.cons (k := 3) rfl (.cons (k := 5) rfl (.nil _))))) ?_
   refine .bind (fun r_67 hx68 => ?_)
   refine .drawGD 7 0 (fun env64 => [((.pointer p4), fun _ => True), ((.pointer p4), fun _ => True), ((.pointer (some ⟨b19, 0, none⟩)), fun _ => True), ((.pointer (some ⟨b19, 0 + 8, none⟩)), fun _ => True), ((eCaskTimes x22.times), fun _ => True), ((eCaskTimes t7), fun _ => True), ((eCaskTimes r_67), fun _ => True)]) (fun L env64 => [arena Γ.g75 (C75 Γ) F0 A1, arena Γ.g73 (C73 Γ) F0 A2, R]) mixedOK (by kernel_rfl) (deepN (k := 7) (n := 10) rfl (allLt10 (p := fun t => 7 ≤ t → ∀ j, j < t → ∃ s, depB _ s t j = true) (fun h => absurd h (by decide)) (fun h => absurd h (by decide)) (fun h => absurd h (by decide)) (fun h => absurd h (by decide)) (fun h => absurd h (by decide)) (fun h => absurd h (by decide)) (fun h => absurd h (by decide)) (fun _ => allLt7 (p := fun j => ∃ s, depB _ s 7 j = true) ⟨1, rfl⟩ ⟨1, rfl⟩ ⟨1, rfl⟩ ⟨1, rfl⟩ ⟨1, rfl⟩ ⟨1, rfl⟩ ⟨1, rfl⟩) (fun _ => allLt8 (p := fun j => ∃ s, depB _ s 8 j = true) ⟨1, rfl⟩ ⟨1, rfl⟩ ⟨1, rfl⟩ ⟨1, rfl⟩ ⟨1, rfl⟩ ⟨1, rfl⟩ ⟨1, rfl⟩ ⟨1, rfl⟩) (fun _ => allLt9 (p := fun j => ∃ s, depB _ s 9 j = true) ⟨1, rfl⟩ ⟨1, rfl⟩ ⟨1, rfl⟩ ⟨1, rfl⟩ ⟨1, rfl⟩ ⟨1, rfl⟩ ⟨1, rfl⟩ ⟨2, rfl⟩ ⟨1, rfl⟩))) rfl (fun _ => rfl) (by kernel_rfl) (fun _ => rfl) ?_ (fun env64 F_69 l_70 hphi => ?_)
   ·skip
    refine .cons (fun L env64 F_71 l_72 hL hdn hup hphi => ⟨[(0, (.pointer p4))], fun S hS hV => (.cons (hS _ _ rfl) (Sub.nil _)), ?_⟩) ?_
    ·skip
     refine .move rfl rfl ?_
     exact .finV rfl rfl (Fz.le_refl _)
    refine .cons (fun L env64 F_73 l_74 hL hdn hup hphi => ⟨[(0, (.pointer p4))], fun S hS hV => (.cons (hS _ _ rfl) (Sub.nil _)), ?_⟩) ?_
    ·skip
     refine .move rfl rfl ?_
     exact .finV rfl rfl (Fz.le_refl _)
    refine .cons (fun L env64 F_75 l_76 hL hdn hup hphi => ⟨[(23, (.pointer p4))], fun S hS hV => (.cons (hV 1 23 _ (hdn 1 1 rfl) rfl rfl) (Sub.nil _)), ?_⟩) ?_
    ·skip
     refine .nilCheckR hp21 rfl rfl ?_
     exact .finV rfl rfl (Fz.le_refl _)
    refine .cons (fun L env64 F_77 l_78 hL hdn hup hphi => ⟨[(24, (.pointer (some ⟨b19, 0, none⟩)))], fun S hS hV => (.cons (hV 2 24 _ (hdn 1 2 rfl) rfl rfl) (Sub.nil _)), ?_⟩) ?_
    ·skip
     refine .fieldAddr rfl Try.underlying75 rfl Try.sizeOf72 rfl ?_
     exact .finV rfl rfl (Fz.le_refl _)
    refine .cons (fun L env64 F_79 l_80 hL hdn hup hphi => ⟨[(25, (.pointer (some ⟨b19, 0 + 8, none⟩)))], fun S hS hV => (.cons (hV 3 25 _ (hdn 1 3 rfl) rfl rfl) (Sub.nil _)), ?_⟩) ?_
    ·skip
     refine .loadRA (Φ := fun us => us = (cCaskTimes x22.times)) 0 rfl (Fz.le_trans l_15 l_80) (hb20.mono l_80) e23 rfl Try.isAgg72 Try.sizeOf72 rfl (fun vs ⟨q0, q1, h, r0⟩ => ⟨_, by subst h; rfl, rfl, rfl⟩) (fun us hv => ?_)
     subst hv
     exact .finV rfl rfl (Fz.le_refl _)
    refine .cons (fun L env64 F_81 l_82 hL hdn hup hphi => ⟨[(5, (.pointer (some ⟨b13, 0, none⟩)))], fun S hS hV => (.cons (hS _ _ rfl) (Sub.nil _)), ?_⟩) ?_
    ·skip
     refine .loadFA rfl Try.isAgg72 Try.sizeOf72 rfl (l_82.mem _ _ hb16) (vs := (cCaskTimes t7)) (by kernel_rfl) rfl ?_
     exact .finV rfl rfl (Fz.le_refl _)
    refine .cons (fun L env64 F_83 l_84 hL hdn hup hphi => ⟨[(26, (eCaskTimes x22.times)), (27, (eCaskTimes t7))], fun S hS hV => (.cons (hV 4 26 _ (hdn 1 4 rfl) rfl rfl) (.cons (hV 5 27 _ (hdn 1 5 rfl) rfl rfl) (Sub.nil _))), ?_⟩) ?_
    ·skip
     refine .callK hx68 rfl Try.call82 rfl rfl rfl (c_cask_times_least _ x22.times t7) ?_
     rintro F_85 _ l_86 rfl
     exact .finV rfl rfl l_86
    exact .nil
   refine .norm (S' := [(0, (.pointer p4)), (2, (.map p9)), (3, (.int .i64 n_12)), (5, (.pointer (some ⟨b13, 0, none⟩))), (22, (.pointer p4)), (23, (.pointer p4)), (24, (.pointer (some ⟨b19, 0, none⟩))), (25, (.pointer (some ⟨b19, 0 + 8, none⟩))), (26, (eCaskTimes x22.times)), (27, (eCaskTimes t7)), (28, (eCaskTimes r_67))]) (.cons (k := 0) rfl (.cons (k := 2) rfl (.cons (k := 3) rfl (.cons (k := 5) rfl (.cons (k := 22) rfl (.cons (k := 23) rfl (.cons (k := 24) rfl (.cons (k := 25) rfl (.cons (k := 26) rfl (.cons (k := 27) rfl (.cons (k := 28) rfl (.nil _)))))))))))) (rfl : _ = [arena Γ.g75 (C75 Γ) F0 A1, arena Γ.g73 (C73 Γ) F0 A2, R]) ?_
   refine .nilCheckR hp21 rfl rfl ?_
   refine .fieldAddr rfl Try.underlying75 rfl Try.sizeOf72 rfl ?_
   refine .letv (fun x87 e88 => ?_)
   refine .letv (fun A89 e90 => ?_)
   refine .storeR (xs' := A89) (x' := { x22 with times := r_67 }) (us := (cCaskTimes r_67)) 0 rfl (Fz.le_trans l_15 l_70) (Fz.le_refl _) (len75 Γ) Try.sizeOf72 (hb20.mono l_70) e23 rfl rfl rfl rfl rfl rfl (fun F' vs le ⟨q0, q1, h, r0⟩ => ⟨q0, q1, by subst h; exact (by kernel_rfl), r0⟩) (by rw [e90, e88] <;> rfl) ?_
   refine .nil ?_
   refine .code ?_
   refine .region ?_
   refine .move rfl rfl ?_
   refine .nilCheckR hp21 rfl rfl ?_
   refine .fieldAddr rfl Try.underlying75 rfl Try.sizeOf73 rfl ?_
   refine .loadR (Φ := fun v => ∃ (p91 : Option Nat) (k92 : Unit), v = (.map p91) ∧ RepRef Γ.g73 F_69 p91 x87.fills) 0 rfl (Fz.le_refl _) (hb20.mono l_70) (get_set e23 e90) rfl Try.isAgg73 rfl (fun vs ⟨q0, q1, h, r0⟩ => ⟨_, by subst h; exact rfl, q0, q1, rfl, r0⟩) (fun v hv => ?_)
   obtain ⟨p91, k92, rfl, h93⟩ := hv
   refine .move rfl rfl ?_
   refine .upR 1 (stays73 Γ) (Fz.le_trans l_15 l_70) rfl ?_
   refine .callT [1] rfl Try.call83 rfl rfl rfl rfl (c_maps_Copy_bool _ Γ A2 x87.fills p91 k92 h93 fills8 p9 k10 (h11.mono (Fz.le_trans l_15 l_70))) ?_
   rintro r_94 F_95 _ e97 l_96 rfl
   refine .pick [1, 0, 0] (rfl : _ = [arena Γ.g75 (C75 Γ) F_69 A89, arena Γ.g73 (C73 Γ) F_95 r_94, R]) ?_
   refine .nil ?_
   refine .upR 0 (stays75 Γ) l_96 rfl ?_
   exact .nil fun e a w h => by cases e; exact ⟨rfl, ⟨F_95, (Fz.le_trans l_70 l_96), h.1.sub (.cons (k := 0) rfl (.cons (k := 3) rfl (.nil _))), h.2⟩⟩
 refine .code ?_
 refine .region ?_
 refine .move rfl rfl ?_
 refine .nilCheckR hp21 rfl rfl ?_
 refine .fieldAddr rfl Try.underlying75 rfl Try.sizeOf3 rfl ?_
 refine .bind (fun x101 e102 => ?_)
 refine .loadR (Φ := fun v => v = (.int .i64 x101.amount)) 0 rfl (Fz.le_refl _) (hb20.mono l_100) e102 rfl Try.isAgg3 rfl (fun vs ⟨q0, q1, h, r0⟩ => ⟨_, by subst h; exact rfl, rfl⟩) (fun v hv => ?_)
 subst hv
 refine .move rfl rfl ?_
 refine .add rfl rfl rfl ?_
 refine .nilCheckR hp21 rfl rfl ?_
 refine .fieldAddr rfl Try.underlying75 rfl Try.sizeOf3 rfl ?_
 refine .letv (fun x103 e104 => ?_)
 refine .letv (fun A105 e106 => ?_)
 refine .storeR (xs' := A105) (x' := { x101 with amount := (w64 (x101.amount + n_12)) }) (us := [(.int .i64 (w64 (x101.amount + n_12)))]) 0 rfl (Fz.le_refl _) (Fz.le_refl _) (len75 Γ) Try.sizeOf3 (hb20.mono l_100) e102 rfl rfl rfl rfl rfl rfl (fun F' vs le ⟨q0, q1, h, r0⟩ => ⟨q0, q1, by subst h; exact rfl, r0⟩) (by rw [e106, e104] <;> rfl) ?_
 refine .nil ?_
 exact .endH [0, 0, 0] Try.results67 (.nil) rfl (Fz.le_trans l_15 l_100) rfl
noncomputable def m_cask_book_fill (A1 : List CaskCask) (A2 : List CaskBook) (A3 : List (List (Int × Bool))) (A4 : List (List (Int × (Option Nat)))) (b5 : (Option Nat)) (x9 : ApiCaskEvent) : Option (Out CaskMisfit ((List CaskCask) × (List (List (Int × Bool))) × (List (List (Int × (Option Nat)))))) :=
 bindX (m_cask_book_find A1 A2 A4 b5 x9.Cask x9.Day) (fun q23 => some (.pan q23)) fun r_14 => (r_14.1).bind fun i25 => (r_14.2[i25]?).bind fun x30 => bindX (m_cask_need (decide ((w64 (x30.amount + x9.Amount)) ≤ x30.room)) 9) (fun q62 => some (.pan q62)) fun _r_56 => (b5).bind fun i65 => (A2[i65]?).bind fun x70 => bindv (mapSet ([]) x70.event true) fun m_72 => bindv (A3 ++ [m_72]) fun A101 => (m_cask_cask_pour r_14.2 A101 r_14.1 (CaskTimes.mk 0 (fun _ => 0) (fun _ => 0)) (some A3.length) x9.Amount).bind fun r_106 => some (.ok (r_106.1, r_106.2, A4))
set_option maxHeartbeats 4000000 in
theorem c_cask_book_fill (F0 : Fz) (Γ : Gam) (A1 : List CaskCask) (A2 : List CaskBook) (A3 : List (List (Int × Bool))) (A4 : List (List (Int × (Option Nat)))) (b5 : (Option Nat)) (p6 : Option Addr) (k7 : Unit) (h8 : RepPtr Γ.g69 F0 p6 b5) (x9 : ApiCaskEvent) : CTX Try.prog penc 47 [(.pointer p6), (eApiCaskEvent x9)].toArray F0 [arena Γ.g75 (C75 Γ) F0 A1, arena Γ.g69 (C69 Γ) F0 A2, arena Γ.g73 (C73 Γ) F0 A3, arena Γ.g67 (C67 Γ) F0 A4] (m_cask_book_fill A1 A2 A3 A4 b5 x9) (fun (_r : (List CaskCask) × (List (List (Int × Bool))) × (List (List (Int × (Option Nat))))) _ v => v = .tuple #[]) (fun (r : (List CaskCask) × (List (List (Int × Bool))) × (List (List (Int × (Option Nat))))) F' _ => [arena Γ.g75 (C75 Γ) F' r.1, arena Γ.g69 (C69 Γ) F' A2, arena Γ.g73 (C73 Γ) F' r.2.1, arena Γ.g67 (C67 Γ) F' r.2.2]) := by
 refine CTX.enter Try.func47 rfl Try.ntmps47 rfl fun r R => ?_
 refine .norm (Sub.refl _) (rfl : _ = [arena Γ.g75 (C75 Γ) F0 A1, arena Γ.g69 (C69 Γ) F0 A2, arena Γ.g73 (C73 Γ) F0 A3, arena Γ.g67 (C67 Γ) F0 A4, R]) ?_
 unfold m_cask_book_fill
 refine .seq ?_
 refine .region ?_
 refine .boxF (cs := (cApiCaskEvent x9)) rfl rfl rfl (fun b10 F_11 l_12 hb13 => ?_)
 refine .nil ?_
 refine .code ?_
 refine .seq ?_
 refine .region ?_
 refine .move rfl rfl ?_
 refine .fieldAddr rfl Try.underlying45 rfl Try.sizeOf3 rfl ?_
 refine .loadF rfl Try.isAgg3 rfl hb13 rfl ?_
 refine .fieldAddr rfl Try.underlying45 rfl Try.sizeOf3 rfl ?_
 refine .loadF rfl Try.isAgg3 rfl hb13 rfl ?_
 refine .upR 0 (stays75 Γ) l_12 rfl ?_
 refine .upR 1 (stays69 Γ) l_12 rfl ?_
 refine .upR 3 (stays67 Γ) l_12 rfl ?_
 refine .callB [0, 0, 1] rfl Try.call66 rfl rfl rfl rfl (c_cask_book_find _ Γ A1 A2 A4 b5 p6 k7 (h8.mono l_12) x9.Cask x9.Day) ?_ (fun q23 F_21 _ l_22 => (pan_postX (i := 1) rfl (Fz.le_trans l_12 l_22)))
 rintro r_14 F_15 _ e17 l_16 ⟨p18, k19, rfl, h20⟩
 refine .pick [0, 0, 1, 0, 0] (rfl : _ = [arena Γ.g75 (C75 Γ) F_15 r_14.2, arena Γ.g69 (C69 Γ) F_15 A2, arena Γ.g73 (C73 Γ) F0 A3, arena Γ.g67 (C67 Γ) F_15 A4, R]) ?_
 refine .assign rfl rfl ?_
 refine .nil ?_
 refine .code ?_
 refine .seq ?_
 refine .keep (.cons (k := 0) rfl (.cons (k := 3) rfl (.cons (k := 4) rfl (.nil _)))) ?_
 refine .bind (fun i25 e26 => ?_)
 obtain ⟨b27, hb28, hp29⟩ := h20.at e26
 refine .bind (fun x30 e31 => ?_)
 refine .drawGD 11 0 (fun env24 => [((.pointer p18), fun _ => True), ((.pointer (some ⟨b27, 0, none⟩)), fun _ => True), ((.pointer (some ⟨b27, 0 + 6, none⟩)), fun _ => True), ((.int .i64 x30.amount), fun _ => True), ((.pointer (some ⟨b10, 0 + 6, none⟩)), fun _ => True), ((.int .i64 x9.Amount), fun _ => True), ((.int .i64 (w64 (x30.amount + x9.Amount))), fun _ => True), ((.pointer p18), fun _ => True), ((.pointer (some ⟨b27, 0, none⟩)), fun _ => True), ((.pointer (some ⟨b27, 0 + 3, none⟩)), fun _ => True), ((.int .i64 x30.room), fun _ => True)]) (fun L env24 => [arena Γ.g75 (C75 Γ) F_15 r_14.2, arena Γ.g69 (C69 Γ) F_15 A2, arena Γ.g73 (C73 Γ) F0 A3, arena Γ.g67 (C67 Γ) F_15 A4, R]) mixedOK (by kernel_rfl) (deepN (k := 11) (n := 13) rfl (allLt13 (p := fun t => 11 ≤ t → ∀ j, j < t → ∃ s, depB _ s t j = true) (fun h => absurd h (by decide)) (fun h => absurd h (by decide)) (fun h => absurd h (by decide)) (fun h => absurd h (by decide)) (fun h => absurd h (by decide)) (fun h => absurd h (by decide)) (fun h => absurd h (by decide)) (fun h => absurd h (by decide)) (fun h => absurd h (by decide)) (fun h => absurd h (by decide)) (fun h => absurd h (by decide)) (fun _ => allLt11 (p := fun j => ∃ s, depB _ s 11 j = true) ⟨5, rfl⟩ ⟨4, rfl⟩ ⟨3, rfl⟩ ⟨2, rfl⟩ ⟨3, rfl⟩ ⟨2, rfl⟩ ⟨1, rfl⟩ ⟨4, rfl⟩ ⟨3, rfl⟩ ⟨2, rfl⟩ ⟨1, rfl⟩) (fun _ => allLt12 (p := fun j => ∃ s, depB _ s 12 j = true) ⟨6, rfl⟩ ⟨5, rfl⟩ ⟨4, rfl⟩ ⟨3, rfl⟩ ⟨4, rfl⟩ ⟨3, rfl⟩ ⟨2, rfl⟩ ⟨5, rfl⟩ ⟨4, rfl⟩ ⟨3, rfl⟩ ⟨2, rfl⟩ ⟨1, rfl⟩))) rfl (fun _ => rfl) (by kernel_rfl) (fun _ => rfl) ?_ (fun env24 F_32 l_33 hphi => ?_)
 ·skip
  refine .cons (fun L env24 F_34 l_35 hL hdn hup hphi => ⟨[(4, (.pointer p18))], fun S hS hV => (.cons (hS _ _ rfl) (Sub.nil _)), ?_⟩) ?_
  ·skip
   refine .move rfl rfl ?_
   exact .finV rfl rfl (Fz.le_refl _)
  refine .cons (fun L env24 F_36 l_37 hL hdn hup hphi => ⟨[(11, (.pointer p18))], fun S hS hV => (.cons (hV 0 11 _ (hdn 1 0 rfl) rfl rfl) (Sub.nil _)), ?_⟩) ?_
  ·skip
   refine .nilCheckR hp29 rfl rfl ?_
   exact .finV rfl rfl (Fz.le_refl _)
  refine .cons (fun L env24 F_38 l_39 hL hdn hup hphi => ⟨[(12, (.pointer (some ⟨b27, 0, none⟩)))], fun S hS hV => (.cons (hV 1 12 _ (hdn 1 1 rfl) rfl rfl) (Sub.nil _)), ?_⟩) ?_
  ·skip
   refine .fieldAddr rfl Try.underlying75 rfl Try.sizeOf3 rfl ?_
   exact .finV rfl rfl (Fz.le_refl _)
  refine .cons (fun L env24 F_40 l_41 hL hdn hup hphi => ⟨[(13, (.pointer (some ⟨b27, 0 + 6, none⟩)))], fun S hS hV => (.cons (hV 2 13 _ (hdn 1 2 rfl) rfl rfl) (Sub.nil _)), ?_⟩) ?_
  ·skip
   refine .loadR (Φ := fun v => v = (.int .i64 x30.amount)) 0 rfl l_41 (hb28.mono l_41) e31 rfl Try.isAgg3 rfl (fun vs ⟨q0, q1, h, r0⟩ => ⟨_, by subst h; exact rfl, rfl⟩) (fun v hv => ?_)
   subst hv
   exact .finV rfl rfl (Fz.le_refl _)
  refine .cons (fun L env24 F_42 l_43 hL hdn hup hphi => ⟨[(3, (.pointer (some ⟨b10, 0, none⟩)))], fun S hS hV => (.cons (hS _ _ rfl) (Sub.nil _)), ?_⟩) ?_
  ·skip
   refine .fieldAddr rfl Try.underlying45 rfl Try.sizeOf3 rfl ?_
   exact .finV rfl rfl (Fz.le_refl _)
  refine .cons (fun L env24 F_44 l_45 hL hdn hup hphi => ⟨[(15, (.pointer (some ⟨b10, 0 + 6, none⟩)))], fun S hS hV => (.cons (hV 4 15 _ (hdn 1 4 rfl) rfl rfl) (Sub.nil _)), ?_⟩) ?_
  ·skip
   refine .loadF rfl Try.isAgg3 rfl ((Fz.le_trans l_16 l_45).mem _ _ hb13) rfl ?_
   exact .finV rfl rfl (Fz.le_refl _)
  refine .cons (fun L env24 F_46 l_47 hL hdn hup hphi => ⟨[(14, (.int .i64 x30.amount)), (16, (.int .i64 x9.Amount))], fun S hS hV => (.cons (hV 3 14 _ (hdn 1 3 rfl) rfl rfl) (.cons (hV 5 16 _ (hdn 1 5 rfl) rfl rfl) (Sub.nil _))), ?_⟩) ?_
  ·skip
   refine .add rfl rfl rfl ?_
   exact .finV rfl rfl (Fz.le_refl _)
  refine .cons (fun L env24 F_48 l_49 hL hdn hup hphi => ⟨[(4, (.pointer p18))], fun S hS hV => (.cons (hS _ _ rfl) (Sub.nil _)), ?_⟩) ?_
  ·skip
   refine .move rfl rfl ?_
   exact .finV rfl rfl (Fz.le_refl _)
  refine .cons (fun L env24 F_50 l_51 hL hdn hup hphi => ⟨[(18, (.pointer p18))], fun S hS hV => (.cons (hV 7 18 _ (hdn 1 7 rfl) rfl rfl) (Sub.nil _)), ?_⟩) ?_
  ·skip
   refine .nilCheckR hp29 rfl rfl ?_
   exact .finV rfl rfl (Fz.le_refl _)
  refine .cons (fun L env24 F_52 l_53 hL hdn hup hphi => ⟨[(19, (.pointer (some ⟨b27, 0, none⟩)))], fun S hS hV => (.cons (hV 8 19 _ (hdn 1 8 rfl) rfl rfl) (Sub.nil _)), ?_⟩) ?_
  ·skip
   refine .fieldAddr rfl Try.underlying75 rfl Try.sizeOf3 rfl ?_
   exact .finV rfl rfl (Fz.le_refl _)
  refine .cons (fun L env24 F_54 l_55 hL hdn hup hphi => ⟨[(20, (.pointer (some ⟨b27, 0 + 3, none⟩)))], fun S hS hV => (.cons (hV 9 20 _ (hdn 1 9 rfl) rfl rfl) (Sub.nil _)), ?_⟩) ?_
  ·skip
   refine .loadR (Φ := fun v => v = (.int .i64 x30.room)) 0 rfl l_55 (hb28.mono l_55) e31 rfl Try.isAgg3 rfl (fun vs ⟨q0, q1, h, r0⟩ => ⟨_, by subst h; exact rfl, rfl⟩) (fun v hv => ?_)
   subst hv
   exact .finV rfl rfl (Fz.le_refl _)
  exact .nil
 refine .norm (S' := [(0, (.pointer p6)), (3, (.pointer (some ⟨b10, 0, none⟩))), (4, (.pointer p18)), (11, (.pointer p18)), (12, (.pointer (some ⟨b27, 0, none⟩))), (13, (.pointer (some ⟨b27, 0 + 6, none⟩))), (14, (.int .i64 x30.amount)), (15, (.pointer (some ⟨b10, 0 + 6, none⟩))), (16, (.int .i64 x9.Amount)), (17, (.int .i64 (w64 (x30.amount + x9.Amount)))), (18, (.pointer p18)), (19, (.pointer (some ⟨b27, 0, none⟩))), (20, (.pointer (some ⟨b27, 0 + 3, none⟩))), (21, (.int .i64 x30.room))]) (.cons (k := 0) rfl (.cons (k := 3) rfl (.cons (k := 4) rfl (.cons (k := 11) rfl (.cons (k := 12) rfl (.cons (k := 13) rfl (.cons (k := 14) rfl (.cons (k := 15) rfl (.cons (k := 16) rfl (.cons (k := 17) rfl (.cons (k := 18) rfl (.cons (k := 19) rfl (.cons (k := 20) rfl (.cons (k := 21) rfl (.nil _))))))))))))))) (rfl : _ = [arena Γ.g75 (C75 Γ) F_15 r_14.2, arena Γ.g69 (C69 Γ) F_15 A2, arena Γ.g73 (C73 Γ) F0 A3, arena Γ.g67 (C67 Γ) F_15 A4, R]) ?_
 refine .leq rfl rfl rfl ?_
 refine .callB [] rfl Try.call34 rfl rfl rfl rfl (c_cask_need _ (decide ((w64 (x30.amount + x9.Amount)) ≤ x30.room)) 9) ?_ (fun q62 F_60 _ l_61 => (pan_postX (i := 4) rfl (Fz.le_trans l_12 (Fz.le_trans l_16 (Fz.le_trans l_33 l_61)))))
 rintro r_56 F_57 _ e59 l_58 rfl
 refine .pick [0, 0, 0, 0, 0] (rfl : _ = [arena Γ.g75 (C75 Γ) F_15 r_14.2, arena Γ.g69 (C69 Γ) F_15 A2, arena Γ.g73 (C73 Γ) F0 A3, arena Γ.g67 (C67 Γ) F_15 A4, R]) ?_
 refine .nil ?_
 refine .code ?_
 refine .keep (.cons (k := 0) rfl (.cons (k := 3) rfl (.cons (k := 4) rfl (.nil _)))) ?_
 refine .bind (fun i65 e66 => ?_)
 obtain ⟨b67, hb68, hp69⟩ := (h8.mono (Fz.le_trans l_12 (Fz.le_trans l_16 (Fz.le_trans l_33 l_58)))).at e66
 refine .bind (fun x70 e71 => ?_)
 refine .letv (fun m_72 e73 => ?_)
 refine .drawGD 11 1 (fun env63 => [((.pointer p18), fun _ => True), ((eCaskTimes (CaskTimes.mk 0 (fun _ => 0) (fun _ => 0))), fun _ => True), ((.map (some (env63.n 20))), fun G => env63.f 20 ≤ G), ((.pointer p6), fun _ => True), ((.pointer (some ⟨b67, 0, none⟩)), fun _ => True), ((.pointer (some ⟨b67, 0 + 1, none⟩)), fun _ => True), ((.int .i64 x70.event), fun _ => True), (undef, fun G => env63.f 70 ≤ G), ((.map (some (env63.n 20))), fun _ => True), ((.pointer (some ⟨b10, 0 + 6, none⟩)), fun _ => True), ((.int .i64 x9.Amount), fun _ => True)]) (fun L env63 => [arena Γ.g75 (C75 Γ) F_15 r_14.2, arena Γ.g69 (C69 Γ) F_15 A2, arena Γ.g73 (C73 Γ) F0 A3, arena Γ.g67 (C67 Γ) F_15 A4, R, (bif L 7 then (ownMapP (fun x : Int => (.int .i64 x)) (fun _ (x : Bool) v => v = (.bool x)) (env63.f 70) (env63.n 20) m_72) else (bif L 2 then (ownMapP (fun x : Int => (.int .i64 x)) (fun _ (x : Bool) v => v = (.bool x)) (env63.f 20) (env63.n 20) ([])) else emp))]) mixedOK (by kernel_rfl) (deepN (k := 11) (n := 12) rfl (allLt12 (p := fun t => 11 ≤ t → ∀ j, j < t → ∃ s, depB _ s t j = true) (fun h => absurd h (by decide)) (fun h => absurd h (by decide)) (fun h => absurd h (by decide)) (fun h => absurd h (by decide)) (fun h => absurd h (by decide)) (fun h => absurd h (by decide)) (fun h => absurd h (by decide)) (fun h => absurd h (by decide)) (fun h => absurd h (by decide)) (fun h => absurd h (by decide)) (fun h => absurd h (by decide)) (fun _ => allLt11 (p := fun j => ∃ s, depB _ s 11 j = true) ⟨1, rfl⟩ ⟨1, rfl⟩ ⟨2, rfl⟩ ⟨2, rfl⟩ ⟨2, rfl⟩ ⟨2, rfl⟩ ⟨2, rfl⟩ ⟨2, rfl⟩ ⟨1, rfl⟩ ⟨2, rfl⟩ ⟨1, rfl⟩))) rfl (fun _ => rfl) (by kernel_rfl) (fun _ => rfl) ?_ (fun env63 F_74 l_75 hphi => ?_)
 ·skip
  refine .cons (fun L env63 F_78 l_79 hL hdn hup hphi => ⟨[(4, (.pointer p18))], fun S hS hV => (.cons (hS _ _ rfl) (Sub.nil _)), ?_⟩) ?_
  ·skip
   refine .move rfl rfl ?_
   exact .finV rfl rfl (Fz.le_refl _)
  refine .cons (fun L env63 F_80 l_81 hL hdn hup hphi => ⟨[], fun S hS hV => (Sub.nil _), ?_⟩) ?_
  ·skip
   refine .build (cs := (cCaskTimes (CaskTimes.mk 0 (fun _ => 0) (fun _ => 0))).toArray) rfl Try.underlying72 Try.zeroValue72 (plCaskTimes _ Try.underlying72) rfl rfl (by kernel_rfl) ?_
   exact .finV rfl rfl (Fz.le_refl _)
  refine .cons (fun L env63 F_82 l_83 hL hdn hup hphi => ⟨[], fun S hS hV => (Sub.nil _), ?_⟩) ?_
  ·skip
   refine .makeMapP (fun x : Int => (.int .i64 x)) (fun _ (x : Bool) v => v = (.bool x)) rfl (fun b84 => ?_)
   exact .finG ({ env63 with n := updN env63.n 20 b84, f := updN env63.f 20 F_82 }) [true, true, false, true, true, true, true, false, false, true, true] rfl (by kernel_rfl) rfl rfl (Fz.le_refl _) (fun _ le => le) (fun _ h => SH.placeC 5 (congrArg some ((condF (hup 1 7 rfl)).trans (condF hL))) ((condF (b := updB L 2 7) (hup 1 7 rfl)).trans (condT rfl)) h)
  refine .cons (fun L env63 F_85 l_86 hL hdn hup hphi => ⟨[(0, (.pointer p6))], fun S hS hV => (.cons (hS _ _ rfl) (Sub.nil _)), ?_⟩) ?_
  ·skip
   refine .move rfl rfl ?_
   exact .finV rfl rfl (Fz.le_refl _)
  refine .cons (fun L env63 F_87 l_88 hL hdn hup hphi => ⟨[(27, (.pointer p6))], fun S hS hV => (.cons (hV 3 27 _ (hdn 1 3 rfl) rfl rfl) (Sub.nil _)), ?_⟩) ?_
  ·skip
   refine .nilCheckR hp69 rfl rfl ?_
   exact .finV rfl rfl (Fz.le_refl _)
  refine .cons (fun L env63 F_89 l_90 hL hdn hup hphi => ⟨[(28, (.pointer (some ⟨b67, 0, none⟩)))], fun S hS hV => (.cons (hV 4 28 _ (hdn 1 4 rfl) rfl rfl) (Sub.nil _)), ?_⟩) ?_
  ·skip
   refine .fieldAddr rfl Try.underlying69 rfl Try.sizeOf3 rfl ?_
   exact .finV rfl rfl (Fz.le_refl _)
  refine .cons (fun L env63 F_91 l_92 hL hdn hup hphi => ⟨[(29, (.pointer (some ⟨b67, 0 + 1, none⟩)))], fun S hS hV => (.cons (hV 5 29 _ (hdn 1 5 rfl) rfl rfl) (Sub.nil _)), ?_⟩) ?_
  ·skip
   refine .loadR (Φ := fun v => v = (.int .i64 x70.event)) 1 rfl (Fz.le_trans l_33 (Fz.le_trans l_58 l_92)) (hb68.mono l_92) e71 rfl Try.isAgg3 rfl (fun vs ⟨q0, q1, h, r0⟩ => ⟨_, by subst h; exact rfl, rfl⟩) (fun v hv => ?_)
   subst hv
   exact .finV rfl rfl (Fz.le_refl _)
  refine .cons (fun L env63 F_93 l_94 hL hdn hup hphi => ⟨[(26, (.map (some (env63.n 20)))), (30, (.int .i64 x70.event))], fun S hS hV => (.cons (hV 2 26 _ (hdn 1 2 rfl) rfl rfl) (.cons (hV 6 30 _ (hdn 1 6 rfl) rfl rfl) (Sub.nil _))), ?_⟩) ?_
  ·skip
   have l_76 := hphi 2 _ (hdn 1 2 rfl) rfl _ (Fz.le_refl _)
   refine .insertO (key := x70.event) (val := true) 5 (congrArg some ((condF hL).trans (condT (hdn 1 2 rfl)))) l_76 Try.underlying73 (.int Try.underlying3) rfl rfl rfl (fun _ _ => rfl) e73 ?_
   exact .finQS ({ env63 with f := updN env63.f 70 F_93 }) [true, true, true, true, true, true, true, false, false, true, true] rfl (by kernel_rfl) rfl rfl (Fz.le_refl _) (fun _ le => le) (cons_eq rfl (cons_eq rfl (cons_eq rfl (cons_eq rfl (cons_eq rfl (cons_eq (condT rfl) rfl))))))
  refine .cons (fun L env63 F_95 l_96 hL hdn hup hphi => ⟨[(26, (.map (some (env63.n 20))))], fun S hS hV => (.cons (hV 2 26 _ (hdn 1 2 rfl) rfl rfl) (Sub.nil _)), ?_⟩) ?_
  ·skip
   have l_76 := hphi 2 _ (hdn 1 2 rfl) rfl _ (Fz.le_refl _)
   have l_77 := hphi 7 _ (hdn 1 7 rfl) rfl _ (Fz.le_refl _)
   refine .move rfl rfl ?_
   exact .finV rfl rfl (Fz.le_refl _)
  refine .cons (fun L env63 F_97 l_98 hL hdn hup hphi => ⟨[(3, (.pointer (some ⟨b10, 0, none⟩)))], fun S hS hV => (.cons (hS _ _ rfl) (Sub.nil _)), ?_⟩) ?_
  ·skip
   refine .fieldAddr rfl Try.underlying45 rfl Try.sizeOf3 rfl ?_
   exact .finV rfl rfl (Fz.le_refl _)
  refine .cons (fun L env63 F_99 l_100 hL hdn hup hphi => ⟨[(32, (.pointer (some ⟨b10, 0 + 6, none⟩)))], fun S hS hV => (.cons (hV 9 32 _ (hdn 1 9 rfl) rfl rfl) (Sub.nil _)), ?_⟩) ?_
  ·skip
   refine .loadF rfl Try.isAgg3 rfl ((Fz.le_trans l_16 (Fz.le_trans l_33 (Fz.le_trans l_58 l_100))).mem _ _ hb13) rfl ?_
   exact .finV rfl rfl (Fz.le_refl _)
  exact .nil
 have l_76 := hphi 2 _ rfl
 have l_77 := hphi 7 _ rfl
 refine .norm (S' := [(0, (.pointer p6)), (3, (.pointer (some ⟨b10, 0, none⟩))), (4, (.pointer p18)), (24, (.pointer p18)), (25, (eCaskTimes (CaskTimes.mk 0 (fun _ => 0) (fun _ => 0)))), (26, (.map (some (env63.n 20)))), (27, (.pointer p6)), (28, (.pointer (some ⟨b67, 0, none⟩))), (29, (.pointer (some ⟨b67, 0 + 1, none⟩))), (30, (.int .i64 x70.event)), (31, (.map (some (env63.n 20)))), (32, (.pointer (some ⟨b10, 0 + 6, none⟩))), (33, (.int .i64 x9.Amount))]) (.cons (k := 0) rfl (.cons (k := 3) rfl (.cons (k := 4) rfl (.cons (k := 24) rfl (.cons (k := 25) rfl (.cons (k := 26) rfl (.cons (k := 27) rfl (.cons (k := 28) rfl (.cons (k := 29) rfl (.cons (k := 30) rfl (.cons (k := 31) rfl (.cons (k := 32) rfl (.cons (k := 33) rfl (.nil _)))))))))))))) (rfl : _ = [arena Γ.g75 (C75 Γ) F_15 r_14.2, arena Γ.g69 (C69 Γ) F_15 A2, arena Γ.g73 (C73 Γ) F0 A3, arena Γ.g67 (C67 Γ) F_15 A4, R, ownMapP (fun x : Int => (.int .i64 x)) (fun _ (x : Bool) v => v = (.bool x)) (env63.f 70) (env63.n 20) m_72]) ?_
 refine .letv (fun A101 e102 => ?_)
 refine .intoAt 5 2 rfl rfl (stays73 Γ) (Fz.le_trans l_12 (Fz.le_trans l_16 (Fz.le_trans l_33 (Fz.le_trans l_58 l_75)))) (fun G m l hm => ownMapP_up (Fz.le_trans l_77 l) hm) e102 (fun F_103 l_104 hb105 => ?_)
 refine .upR 0 (stays75 Γ) (Fz.le_trans l_33 (Fz.le_trans l_58 (Fz.le_trans l_75 l_104))) rfl ?_
 refine .callT [0, 1] rfl Try.call67 rfl rfl rfl rfl (c_cask_cask_pour _ Γ r_14.2 A101 r_14.1 p18 k19 (h20.mono (Fz.le_trans l_33 (Fz.le_trans l_58 (Fz.le_trans l_75 l_104)))) (CaskTimes.mk 0 (fun _ => 0) (fun _ => 0)) (some A3.length) (some (env63.n 20)) () (RepRef.of hb105) x9.Amount) ?_
 rintro r_106 F_107 _ e109 l_108 rfl
 refine .pick [0, 1, 0, 0, 0] (rfl : _ = [arena Γ.g75 (C75 Γ) F_107 r_106.1, arena Γ.g69 (C69 Γ) F_15 A2, arena Γ.g73 (C73 Γ) F_107 r_106.2, arena Γ.g67 (C67 Γ) F_15 A4, R]) ?_
 refine .nil ?_
 refine .upR 1 (stays69 Γ) (Fz.le_trans l_33 (Fz.le_trans l_58 (Fz.le_trans l_75 (Fz.le_trans l_104 l_108)))) rfl ?_
 refine .upR 3 (stays67 Γ) (Fz.le_trans l_33 (Fz.le_trans l_58 (Fz.le_trans l_75 (Fz.le_trans l_104 l_108)))) rfl ?_
 exact .endX [0, 0, 0, 0, 0] Try.results47 (.nil) rfl (Fz.le_trans l_12 (Fz.le_trans l_16 (Fz.le_trans l_33 (Fz.le_trans l_58 (Fz.le_trans l_75 (Fz.le_trans l_104 l_108)))))) rfl
noncomputable def m_cask_cask_draw (A1 : List CaskCask) (c2 : (Option Nat)) (n_6 : Int) : Option (((List CaskCask))) :=
 (c2).bind fun i7 => (A1[i7]?).bind fun x12 => bindv ({ x12 with amount := (w64 (x12.amount - n_6)) }) fun x14 => bindv (List.set A1 i7 x14) fun A16 => if (x14.amount == 0) then (bindv ({ x14 with times := (CaskTimes.mk 0 (fun _ => 0) (fun _ => 0)) }) fun x19 => bindv (List.set A16 i7 x19) fun A21 => bindv ({ x19 with fills := none }) fun x23 => bindv (List.set A21 i7 x23) fun A25 => some A25) else (some A16)
set_option maxHeartbeats 4000000 in
theorem c_cask_cask_draw (F0 : Fz) (Γ : Gam) (A1 : List CaskCask) (c2 : (Option Nat)) (p3 : Option Addr) (_k4 : Unit) (h5 : RepPtr Γ.g75 F0 p3 c2) (n_6 : Int) : CTH Try.prog 68 [(.pointer p3), (.int .i64 n_6)].toArray F0 [arena Γ.g75 (C75 Γ) F0 A1] (m_cask_cask_draw A1 c2 n_6) (fun (_r : (List CaskCask)) _ v => v = .tuple #[]) (fun (r : (List CaskCask)) F' => [arena Γ.g75 (C75 Γ) F' r]) := by
 refine CTH.enter Try.func68 rfl Try.ntmps68 rfl fun r R => ?_
 refine .norm (Sub.refl _) (rfl : _ = [arena Γ.g75 (C75 Γ) F0 A1, R]) ?_
 unfold m_cask_cask_draw
 refine .seq ?_
 refine .region ?_
 refine .move rfl rfl ?_
 refine .bind (fun i7 e8 => ?_)
 obtain ⟨b9, hb10, hp11⟩ := h5.at e8
 refine .nilCheckR hp11 rfl rfl ?_
 refine .fieldAddr rfl Try.underlying75 rfl Try.sizeOf3 rfl ?_
 refine .bind (fun x12 e13 => ?_)
 refine .loadR (Φ := fun v => v = (.int .i64 x12.amount)) 0 rfl (Fz.le_refl _) hb10 e13 rfl Try.isAgg3 rfl (fun vs ⟨q0, q1, h, r0⟩ => ⟨_, by subst h; exact rfl, rfl⟩) (fun v hv => ?_)
 subst hv
 refine .move rfl rfl ?_
 refine .sub rfl rfl rfl ?_
 refine .nilCheckR hp11 rfl rfl ?_
 refine .fieldAddr rfl Try.underlying75 rfl Try.sizeOf3 rfl ?_
 refine .letv (fun x14 e15 => ?_)
 refine .letv (fun A16 e17 => ?_)
 refine .storeR (xs' := A16) (x' := { x12 with amount := (w64 (x12.amount - n_6)) }) (us := [(.int .i64 (w64 (x12.amount - n_6)))]) 0 rfl (Fz.le_refl _) (Fz.le_refl _) (len75 Γ) Try.sizeOf3 hb10 e13 rfl rfl rfl rfl rfl rfl (fun F' vs le ⟨q0, q1, h, r0⟩ => ⟨q0, q1, by subst h; exact rfl, r0⟩) (by rw [e17, e15] <;> rfl) ?_
 refine .nil ?_
 refine .code ?_
 refine .seq ?_
 refine .region ?_
 refine .move rfl rfl ?_
 refine .nilCheckR hp11 rfl rfl ?_
 refine .fieldAddr rfl Try.underlying75 rfl Try.sizeOf3 rfl ?_
 refine .loadR (Φ := fun v => v = (.int .i64 x14.amount)) 0 rfl (Fz.le_refl _) hb10 (get_set e13 e17) rfl Try.isAgg3 rfl (fun vs ⟨q0, q1, h, r0⟩ => ⟨_, by subst h; exact rfl, rfl⟩) (fun v hv => ?_)
 subst hv
 refine .eql rfl rfl rfl ?_
 refine .nil ?_
 refine .code ?_
 refine .cond rfl (fun hb18 => ?_) (fun hb18 => ?_)
 ·skip
  refine .region ?_
  refine .move rfl rfl ?_
  refine .move rfl rfl ?_
  refine .build (cs := (cCaskTimes (CaskTimes.mk 0 (fun _ => 0) (fun _ => 0))).toArray) rfl Try.underlying72 Try.zeroValue72 (plCaskTimes _ Try.underlying72) rfl rfl (by kernel_rfl) ?_
  refine .nilCheckR hp11 rfl rfl ?_
  refine .fieldAddr rfl Try.underlying75 rfl Try.sizeOf72 rfl ?_
  refine .letv (fun x19 e20 => ?_)
  refine .letv (fun A21 e22 => ?_)
  refine .storeR (xs' := A21) (x' := { x14 with times := (CaskTimes.mk 0 (fun _ => 0) (fun _ => 0)) }) (us := (cCaskTimes (CaskTimes.mk 0 (fun _ => 0) (fun _ => 0)))) 0 rfl (Fz.le_refl _) (Fz.le_refl _) (len75 Γ) Try.sizeOf72 hb10 (get_set e13 e17) rfl rfl rfl rfl rfl rfl (fun F' vs le ⟨q0, q1, h, r0⟩ => ⟨q0, q1, by subst h; exact (by kernel_rfl), r0⟩) (by rw [e22, e20] <;> rfl) ?_
  refine .nilCheckR hp11 rfl rfl ?_
  refine .fieldAddr rfl Try.underlying75 rfl Try.sizeOf73 rfl ?_
  refine .letv (fun x23 e24 => ?_)
  refine .letv (fun A25 e26 => ?_)
  refine .storeR (xs' := A25) (x' := { x19 with fills := none }) (us := [(.map none)]) 0 rfl (Fz.le_refl _) (Fz.le_refl _) (len75 Γ) Try.sizeOf73 hb10 (get_set (get_set e13 e17) e22) rfl rfl rfl rfl rfl rfl (fun F' vs le ⟨q0, q1, h, r0⟩ => ⟨none, (), by subst h; exact rfl, (RepRef.nil.mono le)⟩) (by rw [e26, e24] <;> rfl) ?_
  refine .nil ?_
  exact .endH [0, 0] Try.results68 (.nil) rfl (Fz.le_refl _) rfl
 ·skip
  refine .skip ?_
  exact .endH [0, 0] Try.results68 (.nil) rfl (Fz.le_refl _) rfl
noncomputable def m_cask_book_rack (A1 : List CaskCask) (A2 : List CaskBook) (A3 : List (List (Int × Bool))) (A4 : List (List (Int × (Option Nat)))) (b5 : (Option Nat)) (x9 : ApiCaskEvent) : Option (Out CaskMisfit ((List CaskCask) × (List (List (Int × Bool))) × (List (List (Int × (Option Nat)))))) :=
 bindX (m_cask_book_find A1 A2 A4 b5 x9.Cask x9.Day) (fun q18 => some (.pan q18)) fun r_15 => bindX (m_cask_book_find r_15.2 A2 A4 b5 x9.Other x9.Day) (fun q59 => some (.pan q59)) fun r_50 => (r_15.1).bind fun i60 => (r_50.1).bind fun i65 => (r_50.2[i60]?).bind fun x70 => (r_50.2[i65]?).bind fun x72 => bindX (m_cask_need (i60 != i65) 5) (fun q80 => some (.pan q80)) fun _r_74 => (if (x70.owner == x72.owner) then (if (x70.creditor == (-1)) then (bindX (m_cask_need (x72.creditor == (-1)) 11) (fun q138 => some (.done q138)) fun _r_132 => some (.next ())) else (bindX (m_cask_need false 11) (fun q193 => some (.done q193)) fun _r_187 => some (.next ()))) else (bindX (m_cask_need false 11) (fun q248 => some (.done q248)) fun _r_242 => some (.next ())) : Option (Ctl (Unit) (CaskMisfit))).bind fun j255 => match j255 with | .next _j249 => (bindX (m_cask_need (decide (x70.amount ≥ x9.Amount)) 10) (fun q277 => some (.pan q277)) fun _r_271 => bindX (m_cask_need (decide ((w64 (x72.amount + x9.Amount)) ≤ x72.room)) 9) (fun q309 => some (.pan q309)) fun _r_303 => (m_cask_cask_pour r_50.2 A3 r_50.1 x70.times x70.fills x9.Amount).bind fun r_342 => (m_cask_cask_draw r_342.1 r_15.1 x9.Amount).bind fun r_346 => some (.ok (r_346, r_342.2, A4))) | .done b252 => (some (.pan b252))
set_option maxHeartbeats 4000000 in
theorem c_cask_book_rack (F0 : Fz) (Γ : Gam) (A1 : List CaskCask) (A2 : List CaskBook) (A3 : List (List (Int × Bool))) (A4 : List (List (Int × (Option Nat)))) (b5 : (Option Nat)) (p6 : Option Addr) (k7 : Unit) (h8 : RepPtr Γ.g69 F0 p6 b5) (x9 : ApiCaskEvent) : CTX Try.prog penc 48 [(.pointer p6), (eApiCaskEvent x9)].toArray F0 [arena Γ.g75 (C75 Γ) F0 A1, arena Γ.g69 (C69 Γ) F0 A2, arena Γ.g73 (C73 Γ) F0 A3, arena Γ.g67 (C67 Γ) F0 A4] (m_cask_book_rack A1 A2 A3 A4 b5 x9) (fun (_r : (List CaskCask) × (List (List (Int × Bool))) × (List (List (Int × (Option Nat))))) _ v => v = .tuple #[]) (fun (r : (List CaskCask) × (List (List (Int × Bool))) × (List (List (Int × (Option Nat))))) F' _ => [arena Γ.g75 (C75 Γ) F' r.1, arena Γ.g69 (C69 Γ) F' A2, arena Γ.g73 (C73 Γ) F' r.2.1, arena Γ.g67 (C67 Γ) F' r.2.2]) := by
 refine CTX.enter Try.func48 rfl Try.ntmps48 rfl fun r R => ?_
 refine .norm (Sub.refl _) (rfl : _ = [arena Γ.g75 (C75 Γ) F0 A1, arena Γ.g69 (C69 Γ) F0 A2, arena Γ.g73 (C73 Γ) F0 A3, arena Γ.g67 (C67 Γ) F0 A4, R]) ?_
 unfold m_cask_book_rack
 refine .seq ?_
 refine .region ?_
 refine .boxF (cs := (cApiCaskEvent x9)) rfl rfl rfl (fun b10 F_11 l_12 hb13 => ?_)
 refine .nil ?_
 refine .code ?_
 refine .seq ?_
 refine .keep (.cons (k := 0) rfl (.cons (k := 3) rfl (.nil _))) ?_
 refine .outsB (fun r_15 e16 => ?_) (fun q18 e19 => ?_)
 ·skip
  refine .drawGD 11 0 (fun env14 => [((.pointer p6), fun _ => True), ((.pointer (some ⟨b10, 0 + 2, none⟩)), fun _ => True), ((.int .i64 x9.Cask), fun _ => True), ((.pointer (some ⟨b10, 0 + 1, none⟩)), fun _ => True), ((.int .i64 x9.Day), fun _ => True), ((.pointer (env14.a 50)), fun G => env14.f 50 ≤ G ∧ RepPtr Γ.g75 G (env14.a 50) r_15.1), ((.pointer p6), fun _ => True), ((.pointer (some ⟨b10, 0 + 3, none⟩)), fun _ => True), ((.int .i64 x9.Other), fun _ => True), ((.pointer (some ⟨b10, 0 + 1, none⟩)), fun _ => True), ((.int .i64 x9.Day), fun _ => True)]) (fun L env14 => [(bif L 5 then (arena Γ.g75 (C75 Γ) (env14.f 50) r_15.2) else (arena Γ.g75 (C75 Γ) F0 A1)), (bif L 5 then (arena Γ.g69 (C69 Γ) (env14.f 50) A2) else (arena Γ.g69 (C69 Γ) F0 A2)), arena Γ.g73 (C73 Γ) F0 A3, (bif L 5 then (arena Γ.g67 (C67 Γ) (env14.f 50) A4) else (arena Γ.g67 (C67 Γ) F0 A4)), R]) mixedOK (by kernel_rfl) (deepN (k := 11) (n := 14) rfl (allLt14 (p := fun t => 11 ≤ t → ∀ j, j < t → ∃ s, depB _ s t j = true) (fun h => absurd h (by decide)) (fun h => absurd h (by decide)) (fun h => absurd h (by decide)) (fun h => absurd h (by decide)) (fun h => absurd h (by decide)) (fun h => absurd h (by decide)) (fun h => absurd h (by decide)) (fun h => absurd h (by decide)) (fun h => absurd h (by decide)) (fun h => absurd h (by decide)) (fun h => absurd h (by decide)) (fun _ => allLt11 (p := fun j => ∃ s, depB _ s 11 j = true) ⟨2, rfl⟩ ⟨3, rfl⟩ ⟨2, rfl⟩ ⟨3, rfl⟩ ⟨2, rfl⟩ ⟨1, rfl⟩ ⟨1, rfl⟩ ⟨2, rfl⟩ ⟨1, rfl⟩ ⟨2, rfl⟩ ⟨1, rfl⟩) (fun _ => allLt12 (p := fun j => ∃ s, depB _ s 12 j = true) ⟨1, rfl⟩ ⟨1, rfl⟩ ⟨1, rfl⟩ ⟨1, rfl⟩ ⟨1, rfl⟩ ⟨1, rfl⟩ ⟨2, rfl⟩ ⟨3, rfl⟩ ⟨2, rfl⟩ ⟨3, rfl⟩ ⟨2, rfl⟩ ⟨1, rfl⟩) (fun _ => allLt13 (p := fun j => ∃ s, depB _ s 13 j = true) ⟨1, rfl⟩ ⟨1, rfl⟩ ⟨1, rfl⟩ ⟨1, rfl⟩ ⟨1, rfl⟩ ⟨1, rfl⟩ ⟨1, rfl⟩ ⟨1, rfl⟩ ⟨1, rfl⟩ ⟨1, rfl⟩ ⟨1, rfl⟩ ⟨1, rfl⟩ ⟨1, rfl⟩))) rfl (fun _ => rfl) (by kernel_rfl) (fun _ => rfl) ?_ (fun env14 F_20 l_21 hphi => ?_)
  ·skip
   refine .cons (fun L env14 F_23 l_24 hL hdn hup hphi => ⟨[(0, (.pointer p6))], fun S hS hV => (.cons (hS _ _ rfl) (Sub.nil _)), ?_⟩) ?_
   ·skip
    refine .move rfl rfl ?_
    exact .finV rfl rfl (Fz.le_refl _)
   refine .cons (fun L env14 F_25 l_26 hL hdn hup hphi => ⟨[(3, (.pointer (some ⟨b10, 0, none⟩)))], fun S hS hV => (.cons (hS _ _ rfl) (Sub.nil _)), ?_⟩) ?_
   ·skip
    refine .fieldAddr rfl Try.underlying45 rfl Try.sizeOf3 rfl ?_
    exact .finV rfl rfl (Fz.le_refl _)
   refine .cons (fun L env14 F_27 l_28 hL hdn hup hphi => ⟨[(7, (.pointer (some ⟨b10, 0 + 2, none⟩)))], fun S hS hV => (.cons (hV 1 7 _ (hdn 1 1 rfl) rfl rfl) (Sub.nil _)), ?_⟩) ?_
   ·skip
    refine .loadF rfl Try.isAgg3 rfl (l_28.mem _ _ hb13) rfl ?_
    exact .finV rfl rfl (Fz.le_refl _)
   refine .cons (fun L env14 F_29 l_30 hL hdn hup hphi => ⟨[(3, (.pointer (some ⟨b10, 0, none⟩)))], fun S hS hV => (.cons (hS _ _ rfl) (Sub.nil _)), ?_⟩) ?_
   ·skip
    refine .fieldAddr rfl Try.underlying45 rfl Try.sizeOf3 rfl ?_
    exact .finV rfl rfl (Fz.le_refl _)
   refine .cons (fun L env14 F_31 l_32 hL hdn hup hphi => ⟨[(9, (.pointer (some ⟨b10, 0 + 1, none⟩)))], fun S hS hV => (.cons (hV 3 9 _ (hdn 1 3 rfl) rfl rfl) (Sub.nil _)), ?_⟩) ?_
   ·skip
    refine .loadF rfl Try.isAgg3 rfl (l_32.mem _ _ hb13) rfl ?_
    exact .finV rfl rfl (Fz.le_refl _)
   refine .cons (fun L env14 F_33 l_34 hL hdn hup hphi => ⟨[(6, (.pointer p6)), (8, (.int .i64 x9.Cask)), (10, (.int .i64 x9.Day))], fun S hS hV => (.cons (hV 0 6 _ (hdn 1 0 rfl) rfl rfl) (.cons (hV 2 8 _ (hdn 1 2 rfl) rfl rfl) (.cons (hV 4 10 _ (hdn 1 4 rfl) rfl rfl) (Sub.nil _)))), ?_⟩) ?_
   ·skip
    refine .norm (Sub.refl _) ((cons_eq (condF hL) (cons_eq (condF hL) (cons_eq rfl (cons_eq (condF hL) (cons_eq rfl rfl))))) : _ = [arena Γ.g75 (C75 Γ) F0 A1, arena Γ.g69 (C69 Γ) F0 A2, arena Γ.g73 (C73 Γ) F0 A3, arena Γ.g67 (C67 Γ) F0 A4, R]) ?_
    refine .upR 0 (stays75 Γ) (Fz.le_trans l_12 l_34) rfl ?_
    refine .upR 1 (stays69 Γ) (Fz.le_trans l_12 l_34) rfl ?_
    refine .upR 3 (stays67 Γ) (Fz.le_trans l_12 l_34) rfl ?_
    refine .callBK e16 [0, 0, 1] rfl Try.call66 rfl rfl rfl rfl (c_cask_book_find _ Γ A1 A2 A4 b5 p6 k7 (h8.mono (Fz.le_trans l_12 l_34)) x9.Cask x9.Day) ?_
    rintro F_35 _ l_36 ⟨p37, k38, rfl, h39⟩
    refine .pick [0, 0, 1, 0, 0] (rfl : _ = [arena Γ.g75 (C75 Γ) F_35 r_15.2, arena Γ.g69 (C69 Γ) F_35 A2, arena Γ.g73 (C73 Γ) F0 A3, arena Γ.g67 (C67 Γ) F_35 A4, R]) ?_
    exact .finQ ({ env14 with a := (updN env14.a 50 p37), o := env14.o, f := (updN env14.f 50 F_35) }) [true, true, true, true, true, false, true, true, true, true, true] rfl (by kernel_rfl) rfl rfl l_36 (fun _ le => ⟨le, h39.mono le⟩) (cons_eq (condT rfl) (cons_eq (condT rfl) (cons_eq rfl (cons_eq (condT rfl) (cons_eq rfl rfl)))))
   refine .cons (fun L env14 F_40 l_41 hL hdn hup hphi => ⟨[(0, (.pointer p6))], fun S hS hV => (.cons (hS _ _ rfl) (Sub.nil _)), ?_⟩) ?_
   ·skip
    refine .move rfl rfl ?_
    exact .finV rfl rfl (Fz.le_refl _)
   refine .cons (fun L env14 F_42 l_43 hL hdn hup hphi => ⟨[(3, (.pointer (some ⟨b10, 0, none⟩)))], fun S hS hV => (.cons (hS _ _ rfl) (Sub.nil _)), ?_⟩) ?_
   ·skip
    refine .fieldAddr rfl Try.underlying45 rfl Try.sizeOf3 rfl ?_
    exact .finV rfl rfl (Fz.le_refl _)
   refine .cons (fun L env14 F_44 l_45 hL hdn hup hphi => ⟨[(13, (.pointer (some ⟨b10, 0 + 3, none⟩)))], fun S hS hV => (.cons (hV 7 13 _ (hdn 1 7 rfl) rfl rfl) (Sub.nil _)), ?_⟩) ?_
   ·skip
    refine .loadF rfl Try.isAgg3 rfl (l_45.mem _ _ hb13) rfl ?_
    exact .finV rfl rfl (Fz.le_refl _)
   refine .cons (fun L env14 F_46 l_47 hL hdn hup hphi => ⟨[(3, (.pointer (some ⟨b10, 0, none⟩)))], fun S hS hV => (.cons (hS _ _ rfl) (Sub.nil _)), ?_⟩) ?_
   ·skip
    refine .fieldAddr rfl Try.underlying45 rfl Try.sizeOf3 rfl ?_
    exact .finV rfl rfl (Fz.le_refl _)
   refine .cons (fun L env14 F_48 l_49 hL hdn hup hphi => ⟨[(15, (.pointer (some ⟨b10, 0 + 1, none⟩)))], fun S hS hV => (.cons (hV 9 15 _ (hdn 1 9 rfl) rfl rfl) (Sub.nil _)), ?_⟩) ?_
   ·skip
    refine .loadF rfl Try.isAgg3 rfl (l_49.mem _ _ hb13) rfl ?_
    exact .finV rfl rfl (Fz.le_refl _)
   exact .nil
  obtain ⟨l_22, h17⟩ := hphi 5 _ rfl
  refine .norm (S' := [(0, (.pointer p6)), (3, (.pointer (some ⟨b10, 0, none⟩))), (6, (.pointer p6)), (7, (.pointer (some ⟨b10, 0 + 2, none⟩))), (8, (.int .i64 x9.Cask)), (9, (.pointer (some ⟨b10, 0 + 1, none⟩))), (10, (.int .i64 x9.Day)), (11, (.pointer (env14.a 50))), (12, (.pointer p6)), (13, (.pointer (some ⟨b10, 0 + 3, none⟩))), (14, (.int .i64 x9.Other)), (15, (.pointer (some ⟨b10, 0 + 1, none⟩))), (16, (.int .i64 x9.Day))]) (.cons (k := 0) rfl (.cons (k := 3) rfl (.cons (k := 6) rfl (.cons (k := 7) rfl (.cons (k := 8) rfl (.cons (k := 9) rfl (.cons (k := 10) rfl (.cons (k := 11) rfl (.cons (k := 12) rfl (.cons (k := 13) rfl (.cons (k := 14) rfl (.cons (k := 15) rfl (.cons (k := 16) rfl (.nil _)))))))))))))) (rfl : _ = [arena Γ.g75 (C75 Γ) (env14.f 50) r_15.2, arena Γ.g69 (C69 Γ) (env14.f 50) A2, arena Γ.g73 (C73 Γ) F0 A3, arena Γ.g67 (C67 Γ) (env14.f 50) A4, R]) ?_
  refine .upR 0 (stays75 Γ) l_22 rfl ?_
  refine .upR 1 (stays69 Γ) l_22 rfl ?_
  refine .upR 3 (stays67 Γ) l_22 rfl ?_
  refine .callB [0, 0, 1] rfl Try.call66 rfl rfl rfl rfl (c_cask_book_find _ Γ r_15.2 A2 A4 b5 p6 k7 (h8.mono (Fz.le_trans l_12 l_21)) x9.Other x9.Day) ?_ (fun q59 F_57 _ l_58 => (pan_postX (i := 1) rfl (Fz.le_trans l_12 (Fz.le_trans l_21 l_58))))
  rintro r_50 F_51 _ e53 l_52 ⟨p54, k55, rfl, h56⟩
  refine .pick [0, 0, 1, 0, 0] (rfl : _ = [arena Γ.g75 (C75 Γ) F_51 r_50.2, arena Γ.g69 (C69 Γ) F_51 A2, arena Γ.g73 (C73 Γ) F0 A3, arena Γ.g67 (C67 Γ) F_51 A4, R]) ?_
  refine .assign rfl rfl ?_
  refine .assign rfl rfl ?_
  refine .nil ?_
  refine .code ?_
  refine .seq ?_
  refine .region ?_
  refine .move rfl rfl ?_
  refine .move rfl rfl ?_
  refine .bind (fun i60 e61 => ?_)
  obtain ⟨b62, hb63, hp64⟩ := (h17.mono l_52).at e61
  refine .bind (fun i65 e66 => ?_)
  obtain ⟨b67, hb68, hp69⟩ := h56.at e66
  refine .bind (fun x70 e71 => ?_)
  refine .bind (fun x72 e73 => ?_)
  refine .neqPtr 0 rfl hb63 hp64 hb68 hp69 e71 e73 rfl Try.underlying60 Try.sizeOf75 rfl rfl ?_
  refine .callB [] rfl Try.call34 rfl rfl rfl rfl (c_cask_need _ (i60 != i65) 5) ?_ (fun q80 F_78 _ l_79 => (pan_postX (i := 4) rfl (Fz.le_trans l_12 (Fz.le_trans l_21 (Fz.le_trans l_52 l_79)))))
  rintro r_74 F_75 _ e77 l_76 rfl
  refine .pick [0, 0, 0, 0, 0] (rfl : _ = [arena Γ.g75 (C75 Γ) F_51 r_50.2, arena Γ.g69 (C69 Γ) F_51 A2, arena Γ.g73 (C73 Γ) F0 A3, arena Γ.g67 (C67 Γ) F_51 A4, R]) ?_
  refine .nil ?_
  refine .code ?_
  refine .seq ?_
  refine .keep (.cons (k := 3) rfl (.cons (k := 4) rfl (.cons (k := 5) rfl (.nil _)))) ?_
  refine GC.join (σ := Unit) (γ := CaskMisfit) (fun j249 a w => ∃ (F_250 : Fz), F_75 ≤ F_250 ∧ Hd 83 [] [(3, (.pointer (some ⟨b10, 0, none⟩))), (4, (.pointer (env14.a 50))), (5, (.pointer p54))] F_250 [arena Γ.g75 (C75 Γ) F_51 r_50.2, arena Γ.g69 (C69 Γ) F_51 A2, arena Γ.g73 (C73 Γ) F0 A3, arena Γ.g67 (C67 Γ) F_51 A4, R] a w) (fun b252 e a w => e = .panic [{ v := penc b252, recovered := false }] ∧ ∃ (F_253 : Fz), F_75 ≤ F_253 ∧ Hd 83 [] [] F_253 [R] a w) (fun sj => ?_) (fun j249 hs0 => GE.ex (fun a w ⟨F_250, l_251, hA⟩ => ⟨_, hA, ?_⟩)) ?_
  ·skip
   refine .ite (fun hb82 => ?_) (fun hb82 => ?_)
   ·skip
    refine .ite (fun hb83 => ?_) (fun hb83 => ?_)
    ·skip
     refine .drawGD 23 0 (fun env81 => [((.pointer (env14.a 50)), fun _ => True), ((.pointer (some ⟨b62, 0, none⟩)), fun _ => True), ((.pointer (some ⟨b62, 0 + 4, none⟩)), fun _ => True), ((.int .i64 x70.owner), fun _ => True), ((.pointer p54), fun _ => True), ((.pointer (some ⟨b67, 0, none⟩)), fun _ => True), ((.pointer (some ⟨b67, 0 + 4, none⟩)), fun _ => True), ((.int .i64 x72.owner), fun _ => True), ((.bool (x70.owner == x72.owner)), fun _ => True), ((.bool (x70.owner == x72.owner)), fun _ => True), ((.pointer (env14.a 50)), fun _ => True), ((.pointer (some ⟨b62, 0, none⟩)), fun _ => True), ((.pointer (some ⟨b62, 0 + 5, none⟩)), fun _ => True), ((.int .i64 x70.creditor), fun _ => True), ((.bool (x70.creditor == (-1))), fun _ => True), ((.bool (x70.creditor == (-1))), fun _ => True), ((.bool (x70.creditor == (-1))), fun _ => True), ((.pointer p54), fun _ => True), ((.pointer (some ⟨b67, 0, none⟩)), fun _ => True), ((.pointer (some ⟨b67, 0 + 5, none⟩)), fun _ => True), ((.int .i64 x72.creditor), fun _ => True), ((.bool (x72.creditor == (-1))), fun _ => True), ((.bool (x72.creditor == (-1))), fun _ => True)]) (fun L env81 => [arena Γ.g75 (C75 Γ) F_51 r_50.2, arena Γ.g69 (C69 Γ) F_51 A2, arena Γ.g73 (C73 Γ) F0 A3, arena Γ.g67 (C67 Γ) F_51 A4, R]) mixedOK (by kernel_rfl) (deepN (k := 23) (n := 24) rfl (allLt24 (p := fun t => 23 ≤ t → ∀ j, j < t → ∃ s, depB _ s t j = true) (fun h => absurd h (by decide)) (fun h => absurd h (by decide)) (fun h => absurd h (by decide)) (fun h => absurd h (by decide)) (fun h => absurd h (by decide)) (fun h => absurd h (by decide)) (fun h => absurd h (by decide)) (fun h => absurd h (by decide)) (fun h => absurd h (by decide)) (fun h => absurd h (by decide)) (fun h => absurd h (by decide)) (fun h => absurd h (by decide)) (fun h => absurd h (by decide)) (fun h => absurd h (by decide)) (fun h => absurd h (by decide)) (fun h => absurd h (by decide)) (fun h => absurd h (by decide)) (fun h => absurd h (by decide)) (fun h => absurd h (by decide)) (fun h => absurd h (by decide)) (fun h => absurd h (by decide)) (fun h => absurd h (by decide)) (fun h => absurd h (by decide)) (fun _ => allLt23 (p := fun j => ∃ s, depB _ s 23 j = true) ⟨7, rfl⟩ ⟨6, rfl⟩ ⟨5, rfl⟩ ⟨4, rfl⟩ ⟨7, rfl⟩ ⟨6, rfl⟩ ⟨5, rfl⟩ ⟨4, rfl⟩ ⟨3, rfl⟩ ⟨2, rfl⟩ ⟨7, rfl⟩ ⟨6, rfl⟩ ⟨5, rfl⟩ ⟨4, rfl⟩ ⟨3, rfl⟩ ⟨2, rfl⟩ ⟨1, rfl⟩ ⟨6, rfl⟩ ⟨5, rfl⟩ ⟨4, rfl⟩ ⟨3, rfl⟩ ⟨2, rfl⟩ ⟨1, rfl⟩))) rfl (fun _ => rfl) (by kernel_rfl) (fun _ => rfl) ?_ (fun env81 F_84 l_85 hphi => ?_)
     ·skip
      refine .cons (fun L env81 F_86 l_87 hL hdn hup hphi => ⟨[(4, (.pointer (env14.a 50)))], fun S hS hV => (.cons (hS _ _ rfl) (Sub.nil _)), ?_⟩) ?_
      ·skip
       refine .move rfl rfl ?_
       exact .finV rfl rfl (Fz.le_refl _)
      refine .cons (fun L env81 F_88 l_89 hL hdn hup hphi => ⟨[(22, (.pointer (env14.a 50)))], fun S hS hV => (.cons (hV 0 22 _ (hdn 1 0 rfl) rfl rfl) (Sub.nil _)), ?_⟩) ?_
      ·skip
       refine .nilCheckR hp64 rfl rfl ?_
       exact .finV rfl rfl (Fz.le_refl _)
      refine .cons (fun L env81 F_90 l_91 hL hdn hup hphi => ⟨[(23, (.pointer (some ⟨b62, 0, none⟩)))], fun S hS hV => (.cons (hV 1 23 _ (hdn 1 1 rfl) rfl rfl) (Sub.nil _)), ?_⟩) ?_
      ·skip
       refine .fieldAddr rfl Try.underlying75 rfl Try.sizeOf3 rfl ?_
       exact .finV rfl rfl (Fz.le_refl _)
      refine .cons (fun L env81 F_92 l_93 hL hdn hup hphi => ⟨[(24, (.pointer (some ⟨b62, 0 + 4, none⟩)))], fun S hS hV => (.cons (hV 2 24 _ (hdn 1 2 rfl) rfl rfl) (Sub.nil _)), ?_⟩) ?_
      ·skip
       refine .loadR (Φ := fun v => v = (.int .i64 x70.owner)) 0 rfl (Fz.le_trans l_76 l_93) (hb63.mono (Fz.le_trans l_76 l_93)) e71 rfl Try.isAgg3 rfl (fun vs ⟨q0, q1, h, r0⟩ => ⟨_, by subst h; exact rfl, rfl⟩) (fun v hv => ?_)
       subst hv
       exact .finV rfl rfl (Fz.le_refl _)
      refine .cons (fun L env81 F_94 l_95 hL hdn hup hphi => ⟨[(5, (.pointer p54))], fun S hS hV => (.cons (hS _ _ rfl) (Sub.nil _)), ?_⟩) ?_
      ·skip
       refine .move rfl rfl ?_
       exact .finV rfl rfl (Fz.le_refl _)
      refine .cons (fun L env81 F_96 l_97 hL hdn hup hphi => ⟨[(26, (.pointer p54))], fun S hS hV => (.cons (hV 4 26 _ (hdn 1 4 rfl) rfl rfl) (Sub.nil _)), ?_⟩) ?_
      ·skip
       refine .nilCheckR hp69 rfl rfl ?_
       exact .finV rfl rfl (Fz.le_refl _)
      refine .cons (fun L env81 F_98 l_99 hL hdn hup hphi => ⟨[(27, (.pointer (some ⟨b67, 0, none⟩)))], fun S hS hV => (.cons (hV 5 27 _ (hdn 1 5 rfl) rfl rfl) (Sub.nil _)), ?_⟩) ?_
      ·skip
       refine .fieldAddr rfl Try.underlying75 rfl Try.sizeOf3 rfl ?_
       exact .finV rfl rfl (Fz.le_refl _)
      refine .cons (fun L env81 F_100 l_101 hL hdn hup hphi => ⟨[(28, (.pointer (some ⟨b67, 0 + 4, none⟩)))], fun S hS hV => (.cons (hV 6 28 _ (hdn 1 6 rfl) rfl rfl) (Sub.nil _)), ?_⟩) ?_
      ·skip
       refine .loadR (Φ := fun v => v = (.int .i64 x72.owner)) 0 rfl (Fz.le_trans l_76 l_101) (hb68.mono (Fz.le_trans l_76 l_101)) e73 rfl Try.isAgg3 rfl (fun vs ⟨q0, q1, h, r0⟩ => ⟨_, by subst h; exact rfl, rfl⟩) (fun v hv => ?_)
       subst hv
       exact .finV rfl rfl (Fz.le_refl _)
      refine .cons (fun L env81 F_102 l_103 hL hdn hup hphi => ⟨[(25, (.int .i64 x70.owner)), (29, (.int .i64 x72.owner))], fun S hS hV => (.cons (hV 3 25 _ (hdn 1 3 rfl) rfl rfl) (.cons (hV 7 29 _ (hdn 1 7 rfl) rfl rfl) (Sub.nil _))), ?_⟩) ?_
      ·skip
       refine .eql rfl rfl rfl ?_
       exact .finV rfl rfl (Fz.le_refl _)
      refine .cons (fun L env81 F_104 l_105 hL hdn hup hphi => ⟨[(30, (.bool (x70.owner == x72.owner)))], fun S hS hV => (.cons (hV 8 30 _ (hdn 1 8 rfl) rfl rfl) (Sub.nil _)), ?_⟩) ?_
      ·skip
       refine .move rfl rfl ?_
       exact .finV rfl rfl (Fz.le_refl _)
      refine .cons (fun L env81 F_106 l_107 hL hdn hup hphi => ⟨[(4, (.pointer (env14.a 50))), (31, (.bool (x70.owner == x72.owner)))], fun S hS hV => (.cons (hS _ _ rfl) (.cons (hV 9 31 _ (hdn 1 9 rfl) rfl rfl) (Sub.nil _))), ?_⟩) ?_
      ·skip
       refine .onH hb82 rfl rfl ?_
       refine .move rfl rfl ?_
       exact .finV rfl rfl (Fz.le_refl _)
      refine .cons (fun L env81 F_108 l_109 hL hdn hup hphi => ⟨[(31, (.bool (x70.owner == x72.owner))), (32, (.pointer (env14.a 50)))], fun S hS hV => (.cons (hV 9 31 _ (hdn 1 9 rfl) rfl rfl) (.cons (hV 10 32 _ (hdn 1 10 rfl) rfl rfl) (Sub.nil _))), ?_⟩) ?_
      ·skip
       refine .onH hb82 rfl rfl ?_
       refine .nilCheckR hp64 rfl rfl ?_
       exact .finV rfl rfl (Fz.le_refl _)
      refine .cons (fun L env81 F_110 l_111 hL hdn hup hphi => ⟨[(31, (.bool (x70.owner == x72.owner))), (33, (.pointer (some ⟨b62, 0, none⟩)))], fun S hS hV => (.cons (hV 9 31 _ (hdn 1 9 rfl) rfl rfl) (.cons (hV 11 33 _ (hdn 1 11 rfl) rfl rfl) (Sub.nil _))), ?_⟩) ?_
      ·skip
       refine .onH hb82 rfl rfl ?_
       refine .fieldAddr rfl Try.underlying75 rfl Try.sizeOf3 rfl ?_
       exact .finV rfl rfl (Fz.le_refl _)
      refine .cons (fun L env81 F_112 l_113 hL hdn hup hphi => ⟨[(31, (.bool (x70.owner == x72.owner))), (34, (.pointer (some ⟨b62, 0 + 5, none⟩)))], fun S hS hV => (.cons (hV 9 31 _ (hdn 1 9 rfl) rfl rfl) (.cons (hV 12 34 _ (hdn 1 12 rfl) rfl rfl) (Sub.nil _))), ?_⟩) ?_
      ·skip
       refine .onH hb82 rfl rfl ?_
       refine .loadR (Φ := fun v => v = (.int .i64 x70.creditor)) 0 rfl (Fz.le_trans l_76 l_113) (hb63.mono (Fz.le_trans l_76 l_113)) e71 rfl Try.isAgg3 rfl (fun vs ⟨q0, q1, h, r0⟩ => ⟨_, by subst h; exact rfl, rfl⟩) (fun v hv => ?_)
       subst hv
       exact .finV rfl rfl (Fz.le_refl _)
      refine .cons (fun L env81 F_114 l_115 hL hdn hup hphi => ⟨[(31, (.bool (x70.owner == x72.owner))), (35, (.int .i64 x70.creditor))], fun S hS hV => (.cons (hV 9 31 _ (hdn 1 9 rfl) rfl rfl) (.cons (hV 13 35 _ (hdn 1 13 rfl) rfl rfl) (Sub.nil _))), ?_⟩) ?_
      ·skip
       refine .onH hb82 rfl rfl ?_
       refine .eql rfl rfl rfl ?_
       exact .finV rfl rfl (Fz.le_refl _)
      refine .cons (fun L env81 F_116 l_117 hL hdn hup hphi => ⟨[(31, (.bool (x70.owner == x72.owner))), (36, (.bool (x70.creditor == (-1))))], fun S hS hV => (.cons (hV 9 31 _ (hdn 1 9 rfl) rfl rfl) (.cons (hV 14 36 _ (hdn 1 14 rfl) rfl rfl) (Sub.nil _))), ?_⟩) ?_
      ·skip
       refine .pickTH hb82  rfl rfl rfl ?_
       exact .finV rfl rfl (Fz.le_refl _)
      refine .cons (fun L env81 F_118 l_119 hL hdn hup hphi => ⟨[(37, (.bool (x70.creditor == (-1))))], fun S hS hV => (.cons (hV 15 37 _ (hdn 1 15 rfl) rfl rfl) (Sub.nil _)), ?_⟩) ?_
      ·skip
       refine .move rfl rfl ?_
       exact .finV rfl rfl (Fz.le_refl _)
      refine .cons (fun L env81 F_120 l_121 hL hdn hup hphi => ⟨[(5, (.pointer p54)), (38, (.bool (x70.creditor == (-1))))], fun S hS hV => (.cons (hS _ _ rfl) (.cons (hV 16 38 _ (hdn 1 16 rfl) rfl rfl) (Sub.nil _))), ?_⟩) ?_
      ·skip
       refine .onH hb83 rfl rfl ?_
       refine .move rfl rfl ?_
       exact .finV rfl rfl (Fz.le_refl _)
      refine .cons (fun L env81 F_122 l_123 hL hdn hup hphi => ⟨[(38, (.bool (x70.creditor == (-1)))), (39, (.pointer p54))], fun S hS hV => (.cons (hV 16 38 _ (hdn 1 16 rfl) rfl rfl) (.cons (hV 17 39 _ (hdn 1 17 rfl) rfl rfl) (Sub.nil _))), ?_⟩) ?_
      ·skip
       refine .onH hb83 rfl rfl ?_
       refine .nilCheckR hp69 rfl rfl ?_
       exact .finV rfl rfl (Fz.le_refl _)
      refine .cons (fun L env81 F_124 l_125 hL hdn hup hphi => ⟨[(38, (.bool (x70.creditor == (-1)))), (40, (.pointer (some ⟨b67, 0, none⟩)))], fun S hS hV => (.cons (hV 16 38 _ (hdn 1 16 rfl) rfl rfl) (.cons (hV 18 40 _ (hdn 1 18 rfl) rfl rfl) (Sub.nil _))), ?_⟩) ?_
      ·skip
       refine .onH hb83 rfl rfl ?_
       refine .fieldAddr rfl Try.underlying75 rfl Try.sizeOf3 rfl ?_
       exact .finV rfl rfl (Fz.le_refl _)
      refine .cons (fun L env81 F_126 l_127 hL hdn hup hphi => ⟨[(38, (.bool (x70.creditor == (-1)))), (41, (.pointer (some ⟨b67, 0 + 5, none⟩)))], fun S hS hV => (.cons (hV 16 38 _ (hdn 1 16 rfl) rfl rfl) (.cons (hV 19 41 _ (hdn 1 19 rfl) rfl rfl) (Sub.nil _))), ?_⟩) ?_
      ·skip
       refine .onH hb83 rfl rfl ?_
       refine .loadR (Φ := fun v => v = (.int .i64 x72.creditor)) 0 rfl (Fz.le_trans l_76 l_127) (hb68.mono (Fz.le_trans l_76 l_127)) e73 rfl Try.isAgg3 rfl (fun vs ⟨q0, q1, h, r0⟩ => ⟨_, by subst h; exact rfl, rfl⟩) (fun v hv => ?_)
       subst hv
       exact .finV rfl rfl (Fz.le_refl _)
      refine .cons (fun L env81 F_128 l_129 hL hdn hup hphi => ⟨[(38, (.bool (x70.creditor == (-1)))), (42, (.int .i64 x72.creditor))], fun S hS hV => (.cons (hV 16 38 _ (hdn 1 16 rfl) rfl rfl) (.cons (hV 20 42 _ (hdn 1 20 rfl) rfl rfl) (Sub.nil _))), ?_⟩) ?_
      ·skip
       refine .onH hb83 rfl rfl ?_
       refine .eql rfl rfl rfl ?_
       exact .finV rfl rfl (Fz.le_refl _)
      refine .cons (fun L env81 F_130 l_131 hL hdn hup hphi => ⟨[(38, (.bool (x70.creditor == (-1)))), (43, (.bool (x72.creditor == (-1))))], fun S hS hV => (.cons (hV 16 38 _ (hdn 1 16 rfl) rfl rfl) (.cons (hV 21 43 _ (hdn 1 21 rfl) rfl rfl) (Sub.nil _))), ?_⟩) ?_
      ·skip
       refine .pickTH hb83  rfl rfl rfl ?_
       exact .finV rfl rfl (Fz.le_refl _)
      exact .nil
     refine .norm (S' := [(3, (.pointer (some ⟨b10, 0, none⟩))), (4, (.pointer (env14.a 50))), (5, (.pointer p54)), (22, (.pointer (env14.a 50))), (23, (.pointer (some ⟨b62, 0, none⟩))), (24, (.pointer (some ⟨b62, 0 + 4, none⟩))), (25, (.int .i64 x70.owner)), (26, (.pointer p54)), (27, (.pointer (some ⟨b67, 0, none⟩))), (28, (.pointer (some ⟨b67, 0 + 4, none⟩))), (29, (.int .i64 x72.owner)), (30, (.bool (x70.owner == x72.owner))), (31, (.bool (x70.owner == x72.owner))), (32, (.pointer (env14.a 50))), (33, (.pointer (some ⟨b62, 0, none⟩))), (34, (.pointer (some ⟨b62, 0 + 5, none⟩))), (35, (.int .i64 x70.creditor)), (36, (.bool (x70.creditor == (-1)))), (37, (.bool (x70.creditor == (-1)))), (38, (.bool (x70.creditor == (-1)))), (39, (.pointer p54)), (40, (.pointer (some ⟨b67, 0, none⟩))), (41, (.pointer (some ⟨b67, 0 + 5, none⟩))), (42, (.int .i64 x72.creditor)), (43, (.bool (x72.creditor == (-1)))), (44, (.bool (x72.creditor == (-1))))]) (.cons (k := 3) rfl (.cons (k := 4) rfl (.cons (k := 5) rfl (.cons (k := 22) rfl (.cons (k := 23) rfl (.cons (k := 24) rfl (.cons (k := 25) rfl (.cons (k := 26) rfl (.cons (k := 27) rfl (.cons (k := 28) rfl (.cons (k := 29) rfl (.cons (k := 30) rfl (.cons (k := 31) rfl (.cons (k := 32) rfl (.cons (k := 33) rfl (.cons (k := 34) rfl (.cons (k := 35) rfl (.cons (k := 36) rfl (.cons (k := 37) rfl (.cons (k := 38) rfl (.cons (k := 39) rfl (.cons (k := 40) rfl (.cons (k := 41) rfl (.cons (k := 42) rfl (.cons (k := 43) rfl (.cons (k := 44) rfl (.nil _))))))))))))))))))))))))))) (rfl : _ = [arena Γ.g75 (C75 Γ) F_51 r_50.2, arena Γ.g69 (C69 Γ) F_51 A2, arena Γ.g73 (C73 Γ) F0 A3, arena Γ.g67 (C67 Γ) F_51 A4, R]) ?_
     refine .callB [] rfl Try.call34 rfl rfl rfl rfl (c_cask_need _ (x72.creditor == (-1)) 11) ?_ (fun q138 F_136 _ l_137 => (LPost.panQ fun a w h => ⟨rfl, F_136, (Fz.le_trans l_85 l_137), h.1.sub (.nil _), SH.picks [4] rfl h.2⟩))
     rintro r_132 F_133 _ e135 l_134 rfl
     refine .pick [0, 0, 0, 0, 0] (rfl : _ = [arena Γ.g75 (C75 Γ) F_51 r_50.2, arena Γ.g69 (C69 Γ) F_51 A2, arena Γ.g73 (C73 Γ) F0 A3, arena Γ.g67 (C67 Γ) F_51 A4, R]) ?_
     refine .nil ?_
     exact .nil (LPost.norm fun a w h => ⟨F_133, (Fz.le_trans l_85 l_134), h.1.sub (.cons (k := 3) rfl (.cons (k := 4) rfl (.cons (k := 5) rfl (.nil _)))), h.2⟩)
    ·skip
     refine .drawGD 23 0 (fun env81 => [((.pointer (env14.a 50)), fun _ => True), ((.pointer (some ⟨b62, 0, none⟩)), fun _ => True), ((.pointer (some ⟨b62, 0 + 4, none⟩)), fun _ => True), ((.int .i64 x70.owner), fun _ => True), ((.pointer p54), fun _ => True), ((.pointer (some ⟨b67, 0, none⟩)), fun _ => True), ((.pointer (some ⟨b67, 0 + 4, none⟩)), fun _ => True), ((.int .i64 x72.owner), fun _ => True), ((.bool (x70.owner == x72.owner)), fun _ => True), ((.bool (x70.owner == x72.owner)), fun _ => True), ((.pointer (env14.a 50)), fun _ => True), ((.pointer (some ⟨b62, 0, none⟩)), fun _ => True), ((.pointer (some ⟨b62, 0 + 5, none⟩)), fun _ => True), ((.int .i64 x70.creditor), fun _ => True), ((.bool (x70.creditor == (-1))), fun _ => True), ((.bool (x70.creditor == (-1))), fun _ => True), ((.bool (x70.creditor == (-1))), fun _ => True), (undef, fun _ => True), (undef, fun _ => True), (undef, fun _ => True), (undef, fun _ => True), (undef, fun _ => True), ((.bool false), fun _ => True)]) (fun L env81 => [arena Γ.g75 (C75 Γ) F_51 r_50.2, arena Γ.g69 (C69 Γ) F_51 A2, arena Γ.g73 (C73 Γ) F0 A3, arena Γ.g67 (C67 Γ) F_51 A4, R]) mixedOK (by kernel_rfl) (deepN (k := 23) (n := 24) rfl (allLt24 (p := fun t => 23 ≤ t → ∀ j, j < t → ∃ s, depB _ s t j = true) (fun h => absurd h (by decide)) (fun h => absurd h (by decide)) (fun h => absurd h (by decide)) (fun h => absurd h (by decide)) (fun h => absurd h (by decide)) (fun h => absurd h (by decide)) (fun h => absurd h (by decide)) (fun h => absurd h (by decide)) (fun h => absurd h (by decide)) (fun h => absurd h (by decide)) (fun h => absurd h (by decide)) (fun h => absurd h (by decide)) (fun h => absurd h (by decide)) (fun h => absurd h (by decide)) (fun h => absurd h (by decide)) (fun h => absurd h (by decide)) (fun h => absurd h (by decide)) (fun h => absurd h (by decide)) (fun h => absurd h (by decide)) (fun h => absurd h (by decide)) (fun h => absurd h (by decide)) (fun h => absurd h (by decide)) (fun h => absurd h (by decide)) (fun _ => allLt23 (p := fun j => ∃ s, depB _ s 23 j = true) ⟨7, rfl⟩ ⟨6, rfl⟩ ⟨5, rfl⟩ ⟨4, rfl⟩ ⟨7, rfl⟩ ⟨6, rfl⟩ ⟨5, rfl⟩ ⟨4, rfl⟩ ⟨3, rfl⟩ ⟨2, rfl⟩ ⟨7, rfl⟩ ⟨6, rfl⟩ ⟨5, rfl⟩ ⟨4, rfl⟩ ⟨3, rfl⟩ ⟨2, rfl⟩ ⟨1, rfl⟩ ⟨6, rfl⟩ ⟨5, rfl⟩ ⟨4, rfl⟩ ⟨3, rfl⟩ ⟨2, rfl⟩ ⟨1, rfl⟩))) rfl (fun _ => rfl) (by kernel_rfl) (fun _ => rfl) ?_ (fun env81 F_139 l_140 hphi => ?_)
     ·skip
      refine .cons (fun L env81 F_141 l_142 hL hdn hup hphi => ⟨[(4, (.pointer (env14.a 50)))], fun S hS hV => (.cons (hS _ _ rfl) (Sub.nil _)), ?_⟩) ?_
      ·skip
       refine .move rfl rfl ?_
       exact .finV rfl rfl (Fz.le_refl _)
      refine .cons (fun L env81 F_143 l_144 hL hdn hup hphi => ⟨[(22, (.pointer (env14.a 50)))], fun S hS hV => (.cons (hV 0 22 _ (hdn 1 0 rfl) rfl rfl) (Sub.nil _)), ?_⟩) ?_
      ·skip
       refine .nilCheckR hp64 rfl rfl ?_
       exact .finV rfl rfl (Fz.le_refl _)
      refine .cons (fun L env81 F_145 l_146 hL hdn hup hphi => ⟨[(23, (.pointer (some ⟨b62, 0, none⟩)))], fun S hS hV => (.cons (hV 1 23 _ (hdn 1 1 rfl) rfl rfl) (Sub.nil _)), ?_⟩) ?_
      ·skip
       refine .fieldAddr rfl Try.underlying75 rfl Try.sizeOf3 rfl ?_
       exact .finV rfl rfl (Fz.le_refl _)
      refine .cons (fun L env81 F_147 l_148 hL hdn hup hphi => ⟨[(24, (.pointer (some ⟨b62, 0 + 4, none⟩)))], fun S hS hV => (.cons (hV 2 24 _ (hdn 1 2 rfl) rfl rfl) (Sub.nil _)), ?_⟩) ?_
      ·skip
       refine .loadR (Φ := fun v => v = (.int .i64 x70.owner)) 0 rfl (Fz.le_trans l_76 l_148) (hb63.mono (Fz.le_trans l_76 l_148)) e71 rfl Try.isAgg3 rfl (fun vs ⟨q0, q1, h, r0⟩ => ⟨_, by subst h; exact rfl, rfl⟩) (fun v hv => ?_)
       subst hv
       exact .finV rfl rfl (Fz.le_refl _)
      refine .cons (fun L env81 F_149 l_150 hL hdn hup hphi => ⟨[(5, (.pointer p54))], fun S hS hV => (.cons (hS _ _ rfl) (Sub.nil _)), ?_⟩) ?_
      ·skip
       refine .move rfl rfl ?_
       exact .finV rfl rfl (Fz.le_refl _)
      refine .cons (fun L env81 F_151 l_152 hL hdn hup hphi => ⟨[(26, (.pointer p54))], fun S hS hV => (.cons (hV 4 26 _ (hdn 1 4 rfl) rfl rfl) (Sub.nil _)), ?_⟩) ?_
      ·skip
       refine .nilCheckR hp69 rfl rfl ?_
       exact .finV rfl rfl (Fz.le_refl _)
      refine .cons (fun L env81 F_153 l_154 hL hdn hup hphi => ⟨[(27, (.pointer (some ⟨b67, 0, none⟩)))], fun S hS hV => (.cons (hV 5 27 _ (hdn 1 5 rfl) rfl rfl) (Sub.nil _)), ?_⟩) ?_
      ·skip
       refine .fieldAddr rfl Try.underlying75 rfl Try.sizeOf3 rfl ?_
       exact .finV rfl rfl (Fz.le_refl _)
      refine .cons (fun L env81 F_155 l_156 hL hdn hup hphi => ⟨[(28, (.pointer (some ⟨b67, 0 + 4, none⟩)))], fun S hS hV => (.cons (hV 6 28 _ (hdn 1 6 rfl) rfl rfl) (Sub.nil _)), ?_⟩) ?_
      ·skip
       refine .loadR (Φ := fun v => v = (.int .i64 x72.owner)) 0 rfl (Fz.le_trans l_76 l_156) (hb68.mono (Fz.le_trans l_76 l_156)) e73 rfl Try.isAgg3 rfl (fun vs ⟨q0, q1, h, r0⟩ => ⟨_, by subst h; exact rfl, rfl⟩) (fun v hv => ?_)
       subst hv
       exact .finV rfl rfl (Fz.le_refl _)
      refine .cons (fun L env81 F_157 l_158 hL hdn hup hphi => ⟨[(25, (.int .i64 x70.owner)), (29, (.int .i64 x72.owner))], fun S hS hV => (.cons (hV 3 25 _ (hdn 1 3 rfl) rfl rfl) (.cons (hV 7 29 _ (hdn 1 7 rfl) rfl rfl) (Sub.nil _))), ?_⟩) ?_
      ·skip
       refine .eql rfl rfl rfl ?_
       exact .finV rfl rfl (Fz.le_refl _)
      refine .cons (fun L env81 F_159 l_160 hL hdn hup hphi => ⟨[(30, (.bool (x70.owner == x72.owner)))], fun S hS hV => (.cons (hV 8 30 _ (hdn 1 8 rfl) rfl rfl) (Sub.nil _)), ?_⟩) ?_
      ·skip
       refine .move rfl rfl ?_
       exact .finV rfl rfl (Fz.le_refl _)
      refine .cons (fun L env81 F_161 l_162 hL hdn hup hphi => ⟨[(4, (.pointer (env14.a 50))), (31, (.bool (x70.owner == x72.owner)))], fun S hS hV => (.cons (hS _ _ rfl) (.cons (hV 9 31 _ (hdn 1 9 rfl) rfl rfl) (Sub.nil _))), ?_⟩) ?_
      ·skip
       refine .onH hb82 rfl rfl ?_
       refine .move rfl rfl ?_
       exact .finV rfl rfl (Fz.le_refl _)
      refine .cons (fun L env81 F_163 l_164 hL hdn hup hphi => ⟨[(31, (.bool (x70.owner == x72.owner))), (32, (.pointer (env14.a 50)))], fun S hS hV => (.cons (hV 9 31 _ (hdn 1 9 rfl) rfl rfl) (.cons (hV 10 32 _ (hdn 1 10 rfl) rfl rfl) (Sub.nil _))), ?_⟩) ?_
      ·skip
       refine .onH hb82 rfl rfl ?_
       refine .nilCheckR hp64 rfl rfl ?_
       exact .finV rfl rfl (Fz.le_refl _)
      refine .cons (fun L env81 F_165 l_166 hL hdn hup hphi => ⟨[(31, (.bool (x70.owner == x72.owner))), (33, (.pointer (some ⟨b62, 0, none⟩)))], fun S hS hV => (.cons (hV 9 31 _ (hdn 1 9 rfl) rfl rfl) (.cons (hV 11 33 _ (hdn 1 11 rfl) rfl rfl) (Sub.nil _))), ?_⟩) ?_
      ·skip
       refine .onH hb82 rfl rfl ?_
       refine .fieldAddr rfl Try.underlying75 rfl Try.sizeOf3 rfl ?_
       exact .finV rfl rfl (Fz.le_refl _)
      refine .cons (fun L env81 F_167 l_168 hL hdn hup hphi => ⟨[(31, (.bool (x70.owner == x72.owner))), (34, (.pointer (some ⟨b62, 0 + 5, none⟩)))], fun S hS hV => (.cons (hV 9 31 _ (hdn 1 9 rfl) rfl rfl) (.cons (hV 12 34 _ (hdn 1 12 rfl) rfl rfl) (Sub.nil _))), ?_⟩) ?_
      ·skip
       refine .onH hb82 rfl rfl ?_
       refine .loadR (Φ := fun v => v = (.int .i64 x70.creditor)) 0 rfl (Fz.le_trans l_76 l_168) (hb63.mono (Fz.le_trans l_76 l_168)) e71 rfl Try.isAgg3 rfl (fun vs ⟨q0, q1, h, r0⟩ => ⟨_, by subst h; exact rfl, rfl⟩) (fun v hv => ?_)
       subst hv
       exact .finV rfl rfl (Fz.le_refl _)
      refine .cons (fun L env81 F_169 l_170 hL hdn hup hphi => ⟨[(31, (.bool (x70.owner == x72.owner))), (35, (.int .i64 x70.creditor))], fun S hS hV => (.cons (hV 9 31 _ (hdn 1 9 rfl) rfl rfl) (.cons (hV 13 35 _ (hdn 1 13 rfl) rfl rfl) (Sub.nil _))), ?_⟩) ?_
      ·skip
       refine .onH hb82 rfl rfl ?_
       refine .eql rfl rfl rfl ?_
       exact .finV rfl rfl (Fz.le_refl _)
      refine .cons (fun L env81 F_171 l_172 hL hdn hup hphi => ⟨[(31, (.bool (x70.owner == x72.owner))), (36, (.bool (x70.creditor == (-1))))], fun S hS hV => (.cons (hV 9 31 _ (hdn 1 9 rfl) rfl rfl) (.cons (hV 14 36 _ (hdn 1 14 rfl) rfl rfl) (Sub.nil _))), ?_⟩) ?_
      ·skip
       refine .pickTH hb82  rfl rfl rfl ?_
       exact .finV rfl rfl (Fz.le_refl _)
      refine .cons (fun L env81 F_173 l_174 hL hdn hup hphi => ⟨[(37, (.bool (x70.creditor == (-1))))], fun S hS hV => (.cons (hV 15 37 _ (hdn 1 15 rfl) rfl rfl) (Sub.nil _)), ?_⟩) ?_
      ·skip
       refine .move rfl rfl ?_
       exact .finV rfl rfl (Fz.le_refl _)
      refine .cons (fun L env81 F_175 l_176 hL hdn hup hphi => ⟨[(5, (.pointer p54)), (38, (.bool (x70.creditor == (-1))))], fun S hS hV => (.cons (hS _ _ rfl) (.cons (hV 16 38 _ (hdn 1 16 rfl) rfl rfl) (Sub.nil _))), ?_⟩) ?_
      ·skip
       refine .offH hb83 rfl rfl rfl ?_
       exact .finV rfl rfl (Fz.le_refl _)
      refine .cons (fun L env81 F_177 l_178 hL hdn hup hphi => ⟨[(38, (.bool (x70.creditor == (-1)))), (39, undef)], fun S hS hV => (.cons (hV 16 38 _ (hdn 1 16 rfl) rfl rfl) (.cons (hV 17 39 _ (hdn 1 17 rfl) rfl rfl) (Sub.nil _))), ?_⟩) ?_
      ·skip
       refine .offH hb83 rfl rfl rfl ?_
       exact .finV rfl rfl (Fz.le_refl _)
      refine .cons (fun L env81 F_179 l_180 hL hdn hup hphi => ⟨[(38, (.bool (x70.creditor == (-1)))), (40, undef)], fun S hS hV => (.cons (hV 16 38 _ (hdn 1 16 rfl) rfl rfl) (.cons (hV 18 40 _ (hdn 1 18 rfl) rfl rfl) (Sub.nil _))), ?_⟩) ?_
      ·skip
       refine .offH hb83 rfl rfl rfl ?_
       exact .finV rfl rfl (Fz.le_refl _)
      refine .cons (fun L env81 F_181 l_182 hL hdn hup hphi => ⟨[(38, (.bool (x70.creditor == (-1)))), (41, undef)], fun S hS hV => (.cons (hV 16 38 _ (hdn 1 16 rfl) rfl rfl) (.cons (hV 19 41 _ (hdn 1 19 rfl) rfl rfl) (Sub.nil _))), ?_⟩) ?_
      ·skip
       refine .offH hb83 rfl rfl rfl ?_
       exact .finV rfl rfl (Fz.le_refl _)
      refine .cons (fun L env81 F_183 l_184 hL hdn hup hphi => ⟨[(38, (.bool (x70.creditor == (-1)))), (42, undef)], fun S hS hV => (.cons (hV 16 38 _ (hdn 1 16 rfl) rfl rfl) (.cons (hV 20 42 _ (hdn 1 20 rfl) rfl rfl) (Sub.nil _))), ?_⟩) ?_
      ·skip
       refine .offH hb83 rfl rfl rfl ?_
       exact .finV rfl rfl (Fz.le_refl _)
      refine .cons (fun L env81 F_185 l_186 hL hdn hup hphi => ⟨[(38, (.bool (x70.creditor == (-1)))), (43, undef)], fun S hS hV => (.cons (hV 16 38 _ (hdn 1 16 rfl) rfl rfl) (.cons (hV 21 43 _ (hdn 1 21 rfl) rfl rfl) (Sub.nil _))), ?_⟩) ?_
      ·skip
       refine .pickFH hb83  rfl rfl rfl ?_
       exact .finV rfl rfl (Fz.le_refl _)
      exact .nil
     refine .norm (S' := [(3, (.pointer (some ⟨b10, 0, none⟩))), (4, (.pointer (env14.a 50))), (5, (.pointer p54)), (22, (.pointer (env14.a 50))), (23, (.pointer (some ⟨b62, 0, none⟩))), (24, (.pointer (some ⟨b62, 0 + 4, none⟩))), (25, (.int .i64 x70.owner)), (26, (.pointer p54)), (27, (.pointer (some ⟨b67, 0, none⟩))), (28, (.pointer (some ⟨b67, 0 + 4, none⟩))), (29, (.int .i64 x72.owner)), (30, (.bool (x70.owner == x72.owner))), (31, (.bool (x70.owner == x72.owner))), (32, (.pointer (env14.a 50))), (33, (.pointer (some ⟨b62, 0, none⟩))), (34, (.pointer (some ⟨b62, 0 + 5, none⟩))), (35, (.int .i64 x70.creditor)), (36, (.bool (x70.creditor == (-1)))), (37, (.bool (x70.creditor == (-1)))), (38, (.bool (x70.creditor == (-1)))), (44, (.bool false))]) (.cons (k := 3) rfl (.cons (k := 4) rfl (.cons (k := 5) rfl (.cons (k := 22) rfl (.cons (k := 23) rfl (.cons (k := 24) rfl (.cons (k := 25) rfl (.cons (k := 26) rfl (.cons (k := 27) rfl (.cons (k := 28) rfl (.cons (k := 29) rfl (.cons (k := 30) rfl (.cons (k := 31) rfl (.cons (k := 32) rfl (.cons (k := 33) rfl (.cons (k := 34) rfl (.cons (k := 35) rfl (.cons (k := 36) rfl (.cons (k := 37) rfl (.cons (k := 38) rfl (.cons (k := 44) rfl (.nil _)))))))))))))))))))))) (rfl : _ = [arena Γ.g75 (C75 Γ) F_51 r_50.2, arena Γ.g69 (C69 Γ) F_51 A2, arena Γ.g73 (C73 Γ) F0 A3, arena Γ.g67 (C67 Γ) F_51 A4, R]) ?_
     refine .callB [] rfl Try.call34 rfl rfl rfl rfl (c_cask_need _ false 11) ?_ (fun q193 F_191 _ l_192 => (LPost.panQ fun a w h => ⟨rfl, F_191, (Fz.le_trans l_140 l_192), h.1.sub (.nil _), SH.picks [4] rfl h.2⟩))
     rintro r_187 F_188 _ e190 l_189 rfl
     refine .pick [0, 0, 0, 0, 0] (rfl : _ = [arena Γ.g75 (C75 Γ) F_51 r_50.2, arena Γ.g69 (C69 Γ) F_51 A2, arena Γ.g73 (C73 Γ) F0 A3, arena Γ.g67 (C67 Γ) F_51 A4, R]) ?_
     refine .nil ?_
     exact .nil (LPost.norm fun a w h => ⟨F_188, (Fz.le_trans l_140 l_189), h.1.sub (.cons (k := 3) rfl (.cons (k := 4) rfl (.cons (k := 5) rfl (.nil _)))), h.2⟩)
   ·skip
    refine .drawGD 23 0 (fun env81 => [((.pointer (env14.a 50)), fun _ => True), ((.pointer (some ⟨b62, 0, none⟩)), fun _ => True), ((.pointer (some ⟨b62, 0 + 4, none⟩)), fun _ => True), ((.int .i64 x70.owner), fun _ => True), ((.pointer p54), fun _ => True), ((.pointer (some ⟨b67, 0, none⟩)), fun _ => True), ((.pointer (some ⟨b67, 0 + 4, none⟩)), fun _ => True), ((.int .i64 x72.owner), fun _ => True), ((.bool (x70.owner == x72.owner)), fun _ => True), ((.bool (x70.owner == x72.owner)), fun _ => True), (undef, fun _ => True), (undef, fun _ => True), (undef, fun _ => True), (undef, fun _ => True), (undef, fun _ => True), ((.bool false), fun _ => True), ((.bool false), fun _ => True), (undef, fun _ => True), (undef, fun _ => True), (undef, fun _ => True), (undef, fun _ => True), (undef, fun _ => True), ((.bool false), fun _ => True)]) (fun L env81 => [arena Γ.g75 (C75 Γ) F_51 r_50.2, arena Γ.g69 (C69 Γ) F_51 A2, arena Γ.g73 (C73 Γ) F0 A3, arena Γ.g67 (C67 Γ) F_51 A4, R]) mixedOK (by kernel_rfl) (deepN (k := 23) (n := 24) rfl (allLt24 (p := fun t => 23 ≤ t → ∀ j, j < t → ∃ s, depB _ s t j = true) (fun h => absurd h (by decide)) (fun h => absurd h (by decide)) (fun h => absurd h (by decide)) (fun h => absurd h (by decide)) (fun h => absurd h (by decide)) (fun h => absurd h (by decide)) (fun h => absurd h (by decide)) (fun h => absurd h (by decide)) (fun h => absurd h (by decide)) (fun h => absurd h (by decide)) (fun h => absurd h (by decide)) (fun h => absurd h (by decide)) (fun h => absurd h (by decide)) (fun h => absurd h (by decide)) (fun h => absurd h (by decide)) (fun h => absurd h (by decide)) (fun h => absurd h (by decide)) (fun h => absurd h (by decide)) (fun h => absurd h (by decide)) (fun h => absurd h (by decide)) (fun h => absurd h (by decide)) (fun h => absurd h (by decide)) (fun h => absurd h (by decide)) (fun _ => allLt23 (p := fun j => ∃ s, depB _ s 23 j = true) ⟨7, rfl⟩ ⟨6, rfl⟩ ⟨5, rfl⟩ ⟨4, rfl⟩ ⟨7, rfl⟩ ⟨6, rfl⟩ ⟨5, rfl⟩ ⟨4, rfl⟩ ⟨3, rfl⟩ ⟨2, rfl⟩ ⟨7, rfl⟩ ⟨6, rfl⟩ ⟨5, rfl⟩ ⟨4, rfl⟩ ⟨3, rfl⟩ ⟨2, rfl⟩ ⟨1, rfl⟩ ⟨6, rfl⟩ ⟨5, rfl⟩ ⟨4, rfl⟩ ⟨3, rfl⟩ ⟨2, rfl⟩ ⟨1, rfl⟩))) rfl (fun _ => rfl) (by kernel_rfl) (fun _ => rfl) ?_ (fun env81 F_194 l_195 hphi => ?_)
    ·skip
     refine .cons (fun L env81 F_196 l_197 hL hdn hup hphi => ⟨[(4, (.pointer (env14.a 50)))], fun S hS hV => (.cons (hS _ _ rfl) (Sub.nil _)), ?_⟩) ?_
     ·skip
      refine .move rfl rfl ?_
      exact .finV rfl rfl (Fz.le_refl _)
     refine .cons (fun L env81 F_198 l_199 hL hdn hup hphi => ⟨[(22, (.pointer (env14.a 50)))], fun S hS hV => (.cons (hV 0 22 _ (hdn 1 0 rfl) rfl rfl) (Sub.nil _)), ?_⟩) ?_
     ·skip
      refine .nilCheckR hp64 rfl rfl ?_
      exact .finV rfl rfl (Fz.le_refl _)
     refine .cons (fun L env81 F_200 l_201 hL hdn hup hphi => ⟨[(23, (.pointer (some ⟨b62, 0, none⟩)))], fun S hS hV => (.cons (hV 1 23 _ (hdn 1 1 rfl) rfl rfl) (Sub.nil _)), ?_⟩) ?_
     ·skip
      refine .fieldAddr rfl Try.underlying75 rfl Try.sizeOf3 rfl ?_
      exact .finV rfl rfl (Fz.le_refl _)
     refine .cons (fun L env81 F_202 l_203 hL hdn hup hphi => ⟨[(24, (.pointer (some ⟨b62, 0 + 4, none⟩)))], fun S hS hV => (.cons (hV 2 24 _ (hdn 1 2 rfl) rfl rfl) (Sub.nil _)), ?_⟩) ?_
     ·skip
      refine .loadR (Φ := fun v => v = (.int .i64 x70.owner)) 0 rfl (Fz.le_trans l_76 l_203) (hb63.mono (Fz.le_trans l_76 l_203)) e71 rfl Try.isAgg3 rfl (fun vs ⟨q0, q1, h, r0⟩ => ⟨_, by subst h; exact rfl, rfl⟩) (fun v hv => ?_)
      subst hv
      exact .finV rfl rfl (Fz.le_refl _)
     refine .cons (fun L env81 F_204 l_205 hL hdn hup hphi => ⟨[(5, (.pointer p54))], fun S hS hV => (.cons (hS _ _ rfl) (Sub.nil _)), ?_⟩) ?_
     ·skip
      refine .move rfl rfl ?_
      exact .finV rfl rfl (Fz.le_refl _)
     refine .cons (fun L env81 F_206 l_207 hL hdn hup hphi => ⟨[(26, (.pointer p54))], fun S hS hV => (.cons (hV 4 26 _ (hdn 1 4 rfl) rfl rfl) (Sub.nil _)), ?_⟩) ?_
     ·skip
      refine .nilCheckR hp69 rfl rfl ?_
      exact .finV rfl rfl (Fz.le_refl _)
     refine .cons (fun L env81 F_208 l_209 hL hdn hup hphi => ⟨[(27, (.pointer (some ⟨b67, 0, none⟩)))], fun S hS hV => (.cons (hV 5 27 _ (hdn 1 5 rfl) rfl rfl) (Sub.nil _)), ?_⟩) ?_
     ·skip
      refine .fieldAddr rfl Try.underlying75 rfl Try.sizeOf3 rfl ?_
      exact .finV rfl rfl (Fz.le_refl _)
     refine .cons (fun L env81 F_210 l_211 hL hdn hup hphi => ⟨[(28, (.pointer (some ⟨b67, 0 + 4, none⟩)))], fun S hS hV => (.cons (hV 6 28 _ (hdn 1 6 rfl) rfl rfl) (Sub.nil _)), ?_⟩) ?_
     ·skip
      refine .loadR (Φ := fun v => v = (.int .i64 x72.owner)) 0 rfl (Fz.le_trans l_76 l_211) (hb68.mono (Fz.le_trans l_76 l_211)) e73 rfl Try.isAgg3 rfl (fun vs ⟨q0, q1, h, r0⟩ => ⟨_, by subst h; exact rfl, rfl⟩) (fun v hv => ?_)
      subst hv
      exact .finV rfl rfl (Fz.le_refl _)
     refine .cons (fun L env81 F_212 l_213 hL hdn hup hphi => ⟨[(25, (.int .i64 x70.owner)), (29, (.int .i64 x72.owner))], fun S hS hV => (.cons (hV 3 25 _ (hdn 1 3 rfl) rfl rfl) (.cons (hV 7 29 _ (hdn 1 7 rfl) rfl rfl) (Sub.nil _))), ?_⟩) ?_
     ·skip
      refine .eql rfl rfl rfl ?_
      exact .finV rfl rfl (Fz.le_refl _)
     refine .cons (fun L env81 F_214 l_215 hL hdn hup hphi => ⟨[(30, (.bool (x70.owner == x72.owner)))], fun S hS hV => (.cons (hV 8 30 _ (hdn 1 8 rfl) rfl rfl) (Sub.nil _)), ?_⟩) ?_
     ·skip
      refine .move rfl rfl ?_
      exact .finV rfl rfl (Fz.le_refl _)
     refine .cons (fun L env81 F_216 l_217 hL hdn hup hphi => ⟨[(4, (.pointer (env14.a 50))), (31, (.bool (x70.owner == x72.owner)))], fun S hS hV => (.cons (hS _ _ rfl) (.cons (hV 9 31 _ (hdn 1 9 rfl) rfl rfl) (Sub.nil _))), ?_⟩) ?_
     ·skip
      refine .offH hb82 rfl rfl rfl ?_
      exact .finV rfl rfl (Fz.le_refl _)
     refine .cons (fun L env81 F_218 l_219 hL hdn hup hphi => ⟨[(31, (.bool (x70.owner == x72.owner))), (32, undef)], fun S hS hV => (.cons (hV 9 31 _ (hdn 1 9 rfl) rfl rfl) (.cons (hV 10 32 _ (hdn 1 10 rfl) rfl rfl) (Sub.nil _))), ?_⟩) ?_
     ·skip
      refine .offH hb82 rfl rfl rfl ?_
      exact .finV rfl rfl (Fz.le_refl _)
     refine .cons (fun L env81 F_220 l_221 hL hdn hup hphi => ⟨[(31, (.bool (x70.owner == x72.owner))), (33, undef)], fun S hS hV => (.cons (hV 9 31 _ (hdn 1 9 rfl) rfl rfl) (.cons (hV 11 33 _ (hdn 1 11 rfl) rfl rfl) (Sub.nil _))), ?_⟩) ?_
     ·skip
      refine .offH hb82 rfl rfl rfl ?_
      exact .finV rfl rfl (Fz.le_refl _)
     refine .cons (fun L env81 F_222 l_223 hL hdn hup hphi => ⟨[(31, (.bool (x70.owner == x72.owner))), (34, undef)], fun S hS hV => (.cons (hV 9 31 _ (hdn 1 9 rfl) rfl rfl) (.cons (hV 12 34 _ (hdn 1 12 rfl) rfl rfl) (Sub.nil _))), ?_⟩) ?_
     ·skip
      refine .offH hb82 rfl rfl rfl ?_
      exact .finV rfl rfl (Fz.le_refl _)
     refine .cons (fun L env81 F_224 l_225 hL hdn hup hphi => ⟨[(31, (.bool (x70.owner == x72.owner))), (35, undef)], fun S hS hV => (.cons (hV 9 31 _ (hdn 1 9 rfl) rfl rfl) (.cons (hV 13 35 _ (hdn 1 13 rfl) rfl rfl) (Sub.nil _))), ?_⟩) ?_
     ·skip
      refine .offH hb82 rfl rfl rfl ?_
      exact .finV rfl rfl (Fz.le_refl _)
     refine .cons (fun L env81 F_226 l_227 hL hdn hup hphi => ⟨[(31, (.bool (x70.owner == x72.owner))), (36, undef)], fun S hS hV => (.cons (hV 9 31 _ (hdn 1 9 rfl) rfl rfl) (.cons (hV 14 36 _ (hdn 1 14 rfl) rfl rfl) (Sub.nil _))), ?_⟩) ?_
     ·skip
      refine .pickFH hb82  rfl rfl rfl ?_
      exact .finV rfl rfl (Fz.le_refl _)
     refine .cons (fun L env81 F_228 l_229 hL hdn hup hphi => ⟨[(37, (.bool false))], fun S hS hV => (.cons (hV 15 37 _ (hdn 1 15 rfl) rfl rfl) (Sub.nil _)), ?_⟩) ?_
     ·skip
      refine .move rfl rfl ?_
      exact .finV rfl rfl (Fz.le_refl _)
     refine .cons (fun L env81 F_230 l_231 hL hdn hup hphi => ⟨[(5, (.pointer p54)), (38, (.bool false))], fun S hS hV => (.cons (hS _ _ rfl) (.cons (hV 16 38 _ (hdn 1 16 rfl) rfl rfl) (Sub.nil _))), ?_⟩) ?_
     ·skip
      refine .off rfl rfl rfl rfl ?_
      exact .finV rfl rfl (Fz.le_refl _)
     refine .cons (fun L env81 F_232 l_233 hL hdn hup hphi => ⟨[(38, (.bool false)), (39, undef)], fun S hS hV => (.cons (hV 16 38 _ (hdn 1 16 rfl) rfl rfl) (.cons (hV 17 39 _ (hdn 1 17 rfl) rfl rfl) (Sub.nil _))), ?_⟩) ?_
     ·skip
      refine .off rfl rfl rfl rfl ?_
      exact .finV rfl rfl (Fz.le_refl _)
     refine .cons (fun L env81 F_234 l_235 hL hdn hup hphi => ⟨[(38, (.bool false)), (40, undef)], fun S hS hV => (.cons (hV 16 38 _ (hdn 1 16 rfl) rfl rfl) (.cons (hV 18 40 _ (hdn 1 18 rfl) rfl rfl) (Sub.nil _))), ?_⟩) ?_
     ·skip
      refine .off rfl rfl rfl rfl ?_
      exact .finV rfl rfl (Fz.le_refl _)
     refine .cons (fun L env81 F_236 l_237 hL hdn hup hphi => ⟨[(38, (.bool false)), (41, undef)], fun S hS hV => (.cons (hV 16 38 _ (hdn 1 16 rfl) rfl rfl) (.cons (hV 19 41 _ (hdn 1 19 rfl) rfl rfl) (Sub.nil _))), ?_⟩) ?_
     ·skip
      refine .off rfl rfl rfl rfl ?_
      exact .finV rfl rfl (Fz.le_refl _)
     refine .cons (fun L env81 F_238 l_239 hL hdn hup hphi => ⟨[(38, (.bool false)), (42, undef)], fun S hS hV => (.cons (hV 16 38 _ (hdn 1 16 rfl) rfl rfl) (.cons (hV 20 42 _ (hdn 1 20 rfl) rfl rfl) (Sub.nil _))), ?_⟩) ?_
     ·skip
      refine .off rfl rfl rfl rfl ?_
      exact .finV rfl rfl (Fz.le_refl _)
     refine .cons (fun L env81 F_240 l_241 hL hdn hup hphi => ⟨[(38, (.bool false)), (43, undef)], fun S hS hV => (.cons (hV 16 38 _ (hdn 1 16 rfl) rfl rfl) (.cons (hV 21 43 _ (hdn 1 21 rfl) rfl rfl) (Sub.nil _))), ?_⟩) ?_
     ·skip
      refine .pickF  rfl rfl rfl ?_
      exact .finV rfl rfl (Fz.le_refl _)
     exact .nil
    refine .norm (S' := [(3, (.pointer (some ⟨b10, 0, none⟩))), (4, (.pointer (env14.a 50))), (5, (.pointer p54)), (22, (.pointer (env14.a 50))), (23, (.pointer (some ⟨b62, 0, none⟩))), (24, (.pointer (some ⟨b62, 0 + 4, none⟩))), (25, (.int .i64 x70.owner)), (26, (.pointer p54)), (27, (.pointer (some ⟨b67, 0, none⟩))), (28, (.pointer (some ⟨b67, 0 + 4, none⟩))), (29, (.int .i64 x72.owner)), (30, (.bool (x70.owner == x72.owner))), (31, (.bool (x70.owner == x72.owner))), (37, (.bool false)), (38, (.bool false)), (44, (.bool false))]) (.cons (k := 3) rfl (.cons (k := 4) rfl (.cons (k := 5) rfl (.cons (k := 22) rfl (.cons (k := 23) rfl (.cons (k := 24) rfl (.cons (k := 25) rfl (.cons (k := 26) rfl (.cons (k := 27) rfl (.cons (k := 28) rfl (.cons (k := 29) rfl (.cons (k := 30) rfl (.cons (k := 31) rfl (.cons (k := 37) rfl (.cons (k := 38) rfl (.cons (k := 44) rfl (.nil _))))))))))))))))) (rfl : _ = [arena Γ.g75 (C75 Γ) F_51 r_50.2, arena Γ.g69 (C69 Γ) F_51 A2, arena Γ.g73 (C73 Γ) F0 A3, arena Γ.g67 (C67 Γ) F_51 A4, R]) ?_
    refine .callB [] rfl Try.call34 rfl rfl rfl rfl (c_cask_need _ false 11) ?_ (fun q248 F_246 _ l_247 => (LPost.panQ fun a w h => ⟨rfl, F_246, (Fz.le_trans l_195 l_247), h.1.sub (.nil _), SH.picks [4] rfl h.2⟩))
    rintro r_242 F_243 _ e245 l_244 rfl
    refine .pick [0, 0, 0, 0, 0] (rfl : _ = [arena Γ.g75 (C75 Γ) F_51 r_50.2, arena Γ.g69 (C69 Γ) F_51 A2, arena Γ.g73 (C73 Γ) F0 A3, arena Γ.g67 (C67 Γ) F_51 A4, R]) ?_
    refine .nil ?_
    exact .nil (LPost.norm fun a w h => ⟨F_243, (Fz.le_trans l_195 l_244), h.1.sub (.cons (k := 3) rfl (.cons (k := 4) rfl (.cons (k := 5) rfl (.nil _)))), h.2⟩)
  ·skip
   refine .code ?_
   refine .seq ?_
   refine .keep (.cons (k := 3) rfl (.cons (k := 4) rfl (.cons (k := 5) rfl (.nil _)))) ?_
   refine .drawGD 6 0 (fun env256 => [((.pointer (env14.a 50)), fun _ => True), ((.pointer (some ⟨b62, 0, none⟩)), fun _ => True), ((.pointer (some ⟨b62, 0 + 6, none⟩)), fun _ => True), ((.int .i64 x70.amount), fun _ => True), ((.pointer (some ⟨b10, 0 + 6, none⟩)), fun _ => True), ((.int .i64 x9.Amount), fun _ => True)]) (fun L env256 => [arena Γ.g75 (C75 Γ) F_51 r_50.2, arena Γ.g69 (C69 Γ) F_51 A2, arena Γ.g73 (C73 Γ) F0 A3, arena Γ.g67 (C67 Γ) F_51 A4, R]) mixedOK (by kernel_rfl) (deepN (k := 6) (n := 8) rfl (allLt8 (p := fun t => 6 ≤ t → ∀ j, j < t → ∃ s, depB _ s t j = true) (fun h => absurd h (by decide)) (fun h => absurd h (by decide)) (fun h => absurd h (by decide)) (fun h => absurd h (by decide)) (fun h => absurd h (by decide)) (fun h => absurd h (by decide)) (fun _ => allLt6 (p := fun j => ∃ s, depB _ s 6 j = true) ⟨4, rfl⟩ ⟨3, rfl⟩ ⟨2, rfl⟩ ⟨1, rfl⟩ ⟨2, rfl⟩ ⟨1, rfl⟩) (fun _ => allLt7 (p := fun j => ∃ s, depB _ s 7 j = true) ⟨5, rfl⟩ ⟨4, rfl⟩ ⟨3, rfl⟩ ⟨2, rfl⟩ ⟨3, rfl⟩ ⟨2, rfl⟩ ⟨1, rfl⟩))) rfl (fun _ => rfl) (by kernel_rfl) (fun _ => rfl) ?_ (fun env256 F_257 l_258 hphi => ?_)
   ·skip
    refine .cons (fun L env256 F_259 l_260 hL hdn hup hphi => ⟨[(4, (.pointer (env14.a 50)))], fun S hS hV => (.cons (hS _ _ rfl) (Sub.nil _)), ?_⟩) ?_
    ·skip
     refine .move rfl rfl ?_
     exact .finV rfl rfl (Fz.le_refl _)
    refine .cons (fun L env256 F_261 l_262 hL hdn hup hphi => ⟨[(46, (.pointer (env14.a 50)))], fun S hS hV => (.cons (hV 0 46 _ (hdn 1 0 rfl) rfl rfl) (Sub.nil _)), ?_⟩) ?_
    ·skip
     refine .nilCheckR hp64 rfl rfl ?_
     exact .finV rfl rfl (Fz.le_refl _)
    refine .cons (fun L env256 F_263 l_264 hL hdn hup hphi => ⟨[(47, (.pointer (some ⟨b62, 0, none⟩)))], fun S hS hV => (.cons (hV 1 47 _ (hdn 1 1 rfl) rfl rfl) (Sub.nil _)), ?_⟩) ?_
    ·skip
     refine .fieldAddr rfl Try.underlying75 rfl Try.sizeOf3 rfl ?_
     exact .finV rfl rfl (Fz.le_refl _)
    refine .cons (fun L env256 F_265 l_266 hL hdn hup hphi => ⟨[(48, (.pointer (some ⟨b62, 0 + 6, none⟩)))], fun S hS hV => (.cons (hV 2 48 _ (hdn 1 2 rfl) rfl rfl) (Sub.nil _)), ?_⟩) ?_
    ·skip
     refine .loadR (Φ := fun v => v = (.int .i64 x70.amount)) 0 rfl (Fz.le_trans l_76 (Fz.le_trans l_251 l_266)) (hb63.mono (Fz.le_trans l_76 (Fz.le_trans l_251 l_266))) e71 rfl Try.isAgg3 rfl (fun vs ⟨q0, q1, h, r0⟩ => ⟨_, by subst h; exact rfl, rfl⟩) (fun v hv => ?_)
     subst hv
     exact .finV rfl rfl (Fz.le_refl _)
    refine .cons (fun L env256 F_267 l_268 hL hdn hup hphi => ⟨[(3, (.pointer (some ⟨b10, 0, none⟩)))], fun S hS hV => (.cons (hS _ _ rfl) (Sub.nil _)), ?_⟩) ?_
    ·skip
     refine .fieldAddr rfl Try.underlying45 rfl Try.sizeOf3 rfl ?_
     exact .finV rfl rfl (Fz.le_refl _)
    refine .cons (fun L env256 F_269 l_270 hL hdn hup hphi => ⟨[(50, (.pointer (some ⟨b10, 0 + 6, none⟩)))], fun S hS hV => (.cons (hV 4 50 _ (hdn 1 4 rfl) rfl rfl) (Sub.nil _)), ?_⟩) ?_
    ·skip
     refine .loadF rfl Try.isAgg3 rfl ((Fz.le_trans l_21 (Fz.le_trans l_52 (Fz.le_trans l_76 (Fz.le_trans l_251 l_270)))).mem _ _ hb13) rfl ?_
     exact .finV rfl rfl (Fz.le_refl _)
    exact .nil
   refine .norm (S' := [(3, (.pointer (some ⟨b10, 0, none⟩))), (4, (.pointer (env14.a 50))), (5, (.pointer p54)), (46, (.pointer (env14.a 50))), (47, (.pointer (some ⟨b62, 0, none⟩))), (48, (.pointer (some ⟨b62, 0 + 6, none⟩))), (49, (.int .i64 x70.amount)), (50, (.pointer (some ⟨b10, 0 + 6, none⟩))), (51, (.int .i64 x9.Amount))]) (.cons (k := 3) rfl (.cons (k := 4) rfl (.cons (k := 5) rfl (.cons (k := 46) rfl (.cons (k := 47) rfl (.cons (k := 48) rfl (.cons (k := 49) rfl (.cons (k := 50) rfl (.cons (k := 51) rfl (.nil _)))))))))) (rfl : _ = [arena Γ.g75 (C75 Γ) F_51 r_50.2, arena Γ.g69 (C69 Γ) F_51 A2, arena Γ.g73 (C73 Γ) F0 A3, arena Γ.g67 (C67 Γ) F_51 A4, R]) ?_
   refine .geq rfl rfl rfl ?_
   refine .callB [] rfl Try.call34 rfl rfl rfl rfl (c_cask_need _ (decide (x70.amount ≥ x9.Amount)) 10) ?_ (fun q277 F_275 _ l_276 => (pan_postX (i := 4) rfl (Fz.le_trans l_12 (Fz.le_trans l_21 (Fz.le_trans l_52 (Fz.le_trans l_76 (Fz.le_trans l_251 (Fz.le_trans l_258 l_276))))))))
   rintro r_271 F_272 _ e274 l_273 rfl
   refine .pick [0, 0, 0, 0, 0] (rfl : _ = [arena Γ.g75 (C75 Γ) F_51 r_50.2, arena Γ.g69 (C69 Γ) F_51 A2, arena Γ.g73 (C73 Γ) F0 A3, arena Γ.g67 (C67 Γ) F_51 A4, R]) ?_
   refine .nil ?_
   refine .code ?_
   refine .seq ?_
   refine .keep (.cons (k := 3) rfl (.cons (k := 4) rfl (.cons (k := 5) rfl (.nil _)))) ?_
   refine .drawGD 11 0 (fun env278 => [((.pointer p54), fun _ => True), ((.pointer (some ⟨b67, 0, none⟩)), fun _ => True), ((.pointer (some ⟨b67, 0 + 6, none⟩)), fun _ => True), ((.int .i64 x72.amount), fun _ => True), ((.pointer (some ⟨b10, 0 + 6, none⟩)), fun _ => True), ((.int .i64 x9.Amount), fun _ => True), ((.int .i64 (w64 (x72.amount + x9.Amount))), fun _ => True), ((.pointer p54), fun _ => True), ((.pointer (some ⟨b67, 0, none⟩)), fun _ => True), ((.pointer (some ⟨b67, 0 + 3, none⟩)), fun _ => True), ((.int .i64 x72.room), fun _ => True)]) (fun L env278 => [arena Γ.g75 (C75 Γ) F_51 r_50.2, arena Γ.g69 (C69 Γ) F_51 A2, arena Γ.g73 (C73 Γ) F0 A3, arena Γ.g67 (C67 Γ) F_51 A4, R]) mixedOK (by kernel_rfl) (deepN (k := 11) (n := 13) rfl (allLt13 (p := fun t => 11 ≤ t → ∀ j, j < t → ∃ s, depB _ s t j = true) (fun h => absurd h (by decide)) (fun h => absurd h (by decide)) (fun h => absurd h (by decide)) (fun h => absurd h (by decide)) (fun h => absurd h (by decide)) (fun h => absurd h (by decide)) (fun h => absurd h (by decide)) (fun h => absurd h (by decide)) (fun h => absurd h (by decide)) (fun h => absurd h (by decide)) (fun h => absurd h (by decide)) (fun _ => allLt11 (p := fun j => ∃ s, depB _ s 11 j = true) ⟨5, rfl⟩ ⟨4, rfl⟩ ⟨3, rfl⟩ ⟨2, rfl⟩ ⟨3, rfl⟩ ⟨2, rfl⟩ ⟨1, rfl⟩ ⟨4, rfl⟩ ⟨3, rfl⟩ ⟨2, rfl⟩ ⟨1, rfl⟩) (fun _ => allLt12 (p := fun j => ∃ s, depB _ s 12 j = true) ⟨6, rfl⟩ ⟨5, rfl⟩ ⟨4, rfl⟩ ⟨3, rfl⟩ ⟨4, rfl⟩ ⟨3, rfl⟩ ⟨2, rfl⟩ ⟨5, rfl⟩ ⟨4, rfl⟩ ⟨3, rfl⟩ ⟨2, rfl⟩ ⟨1, rfl⟩))) rfl (fun _ => rfl) (by kernel_rfl) (fun _ => rfl) ?_ (fun env278 F_279 l_280 hphi => ?_)
   ·skip
    refine .cons (fun L env278 F_281 l_282 hL hdn hup hphi => ⟨[(5, (.pointer p54))], fun S hS hV => (.cons (hS _ _ rfl) (Sub.nil _)), ?_⟩) ?_
    ·skip
     refine .move rfl rfl ?_
     exact .finV rfl rfl (Fz.le_refl _)
    refine .cons (fun L env278 F_283 l_284 hL hdn hup hphi => ⟨[(54, (.pointer p54))], fun S hS hV => (.cons (hV 0 54 _ (hdn 1 0 rfl) rfl rfl) (Sub.nil _)), ?_⟩) ?_
    ·skip
     refine .nilCheckR hp69 rfl rfl ?_
     exact .finV rfl rfl (Fz.le_refl _)
    refine .cons (fun L env278 F_285 l_286 hL hdn hup hphi => ⟨[(55, (.pointer (some ⟨b67, 0, none⟩)))], fun S hS hV => (.cons (hV 1 55 _ (hdn 1 1 rfl) rfl rfl) (Sub.nil _)), ?_⟩) ?_
    ·skip
     refine .fieldAddr rfl Try.underlying75 rfl Try.sizeOf3 rfl ?_
     exact .finV rfl rfl (Fz.le_refl _)
    refine .cons (fun L env278 F_287 l_288 hL hdn hup hphi => ⟨[(56, (.pointer (some ⟨b67, 0 + 6, none⟩)))], fun S hS hV => (.cons (hV 2 56 _ (hdn 1 2 rfl) rfl rfl) (Sub.nil _)), ?_⟩) ?_
    ·skip
     refine .loadR (Φ := fun v => v = (.int .i64 x72.amount)) 0 rfl (Fz.le_trans l_76 (Fz.le_trans l_251 (Fz.le_trans l_258 (Fz.le_trans l_273 l_288)))) (hb68.mono (Fz.le_trans l_76 (Fz.le_trans l_251 (Fz.le_trans l_258 (Fz.le_trans l_273 l_288))))) e73 rfl Try.isAgg3 rfl (fun vs ⟨q0, q1, h, r0⟩ => ⟨_, by subst h; exact rfl, rfl⟩) (fun v hv => ?_)
     subst hv
     exact .finV rfl rfl (Fz.le_refl _)
    refine .cons (fun L env278 F_289 l_290 hL hdn hup hphi => ⟨[(3, (.pointer (some ⟨b10, 0, none⟩)))], fun S hS hV => (.cons (hS _ _ rfl) (Sub.nil _)), ?_⟩) ?_
    ·skip
     refine .fieldAddr rfl Try.underlying45 rfl Try.sizeOf3 rfl ?_
     exact .finV rfl rfl (Fz.le_refl _)
    refine .cons (fun L env278 F_291 l_292 hL hdn hup hphi => ⟨[(58, (.pointer (some ⟨b10, 0 + 6, none⟩)))], fun S hS hV => (.cons (hV 4 58 _ (hdn 1 4 rfl) rfl rfl) (Sub.nil _)), ?_⟩) ?_
    ·skip
     refine .loadF rfl Try.isAgg3 rfl ((Fz.le_trans l_21 (Fz.le_trans l_52 (Fz.le_trans l_76 (Fz.le_trans l_251 (Fz.le_trans l_258 (Fz.le_trans l_273 l_292)))))).mem _ _ hb13) rfl ?_
     exact .finV rfl rfl (Fz.le_refl _)
    refine .cons (fun L env278 F_293 l_294 hL hdn hup hphi => ⟨[(57, (.int .i64 x72.amount)), (59, (.int .i64 x9.Amount))], fun S hS hV => (.cons (hV 3 57 _ (hdn 1 3 rfl) rfl rfl) (.cons (hV 5 59 _ (hdn 1 5 rfl) rfl rfl) (Sub.nil _))), ?_⟩) ?_
    ·skip
     refine .add rfl rfl rfl ?_
     exact .finV rfl rfl (Fz.le_refl _)
    refine .cons (fun L env278 F_295 l_296 hL hdn hup hphi => ⟨[(5, (.pointer p54))], fun S hS hV => (.cons (hS _ _ rfl) (Sub.nil _)), ?_⟩) ?_
    ·skip
     refine .move rfl rfl ?_
     exact .finV rfl rfl (Fz.le_refl _)
    refine .cons (fun L env278 F_297 l_298 hL hdn hup hphi => ⟨[(61, (.pointer p54))], fun S hS hV => (.cons (hV 7 61 _ (hdn 1 7 rfl) rfl rfl) (Sub.nil _)), ?_⟩) ?_
    ·skip
     refine .nilCheckR hp69 rfl rfl ?_
     exact .finV rfl rfl (Fz.le_refl _)
    refine .cons (fun L env278 F_299 l_300 hL hdn hup hphi => ⟨[(62, (.pointer (some ⟨b67, 0, none⟩)))], fun S hS hV => (.cons (hV 8 62 _ (hdn 1 8 rfl) rfl rfl) (Sub.nil _)), ?_⟩) ?_
    ·skip
     refine .fieldAddr rfl Try.underlying75 rfl Try.sizeOf3 rfl ?_
     exact .finV rfl rfl (Fz.le_refl _)
    refine .cons (fun L env278 F_301 l_302 hL hdn hup hphi => ⟨[(63, (.pointer (some ⟨b67, 0 + 3, none⟩)))], fun S hS hV => (.cons (hV 9 63 _ (hdn 1 9 rfl) rfl rfl) (Sub.nil _)), ?_⟩) ?_
    ·skip
     refine .loadR (Φ := fun v => v = (.int .i64 x72.room)) 0 rfl (Fz.le_trans l_76 (Fz.le_trans l_251 (Fz.le_trans l_258 (Fz.le_trans l_273 l_302)))) (hb68.mono (Fz.le_trans l_76 (Fz.le_trans l_251 (Fz.le_trans l_258 (Fz.le_trans l_273 l_302))))) e73 rfl Try.isAgg3 rfl (fun vs ⟨q0, q1, h, r0⟩ => ⟨_, by subst h; exact rfl, rfl⟩) (fun v hv => ?_)
     subst hv
     exact .finV rfl rfl (Fz.le_refl _)
    exact .nil
   refine .norm (S' := [(3, (.pointer (some ⟨b10, 0, none⟩))), (4, (.pointer (env14.a 50))), (5, (.pointer p54)), (54, (.pointer p54)), (55, (.pointer (some ⟨b67, 0, none⟩))), (56, (.pointer (some ⟨b67, 0 + 6, none⟩))), (57, (.int .i64 x72.amount)), (58, (.pointer (some ⟨b10, 0 + 6, none⟩))), (59, (.int .i64 x9.Amount)), (60, (.int .i64 (w64 (x72.amount + x9.Amount)))), (61, (.pointer p54)), (62, (.pointer (some ⟨b67, 0, none⟩))), (63, (.pointer (some ⟨b67, 0 + 3, none⟩))), (64, (.int .i64 x72.room))]) (.cons (k := 3) rfl (.cons (k := 4) rfl (.cons (k := 5) rfl (.cons (k := 54) rfl (.cons (k := 55) rfl (.cons (k := 56) rfl (.cons (k := 57) rfl (.cons (k := 58) rfl (.cons (k := 59) rfl (.cons (k := 60) rfl (.cons (k := 61) rfl (.cons (k := 62) rfl (.cons (k := 63) rfl (.cons (k := 64) rfl (.nil _))))))))))))))) (rfl : _ = [arena Γ.g75 (C75 Γ) F_51 r_50.2, arena Γ.g69 (C69 Γ) F_51 A2, arena Γ.g73 (C73 Γ) F0 A3, arena Γ.g67 (C67 Γ) F_51 A4, R]) ?_
   refine .leq rfl rfl rfl ?_
   refine .callB [] rfl Try.call34 rfl rfl rfl rfl (c_cask_need _ (decide ((w64 (x72.amount + x9.Amount)) ≤ x72.room)) 9) ?_ (fun q309 F_307 _ l_308 => (pan_postX (i := 4) rfl (Fz.le_trans l_12 (Fz.le_trans l_21 (Fz.le_trans l_52 (Fz.le_trans l_76 (Fz.le_trans l_251 (Fz.le_trans l_258 (Fz.le_trans l_273 (Fz.le_trans l_280 l_308))))))))))
   rintro r_303 F_304 _ e306 l_305 rfl
   refine .pick [0, 0, 0, 0, 0] (rfl : _ = [arena Γ.g75 (C75 Γ) F_51 r_50.2, arena Γ.g69 (C69 Γ) F_51 A2, arena Γ.g73 (C73 Γ) F0 A3, arena Γ.g67 (C67 Γ) F_51 A4, R]) ?_
   refine .nil ?_
   refine .code ?_
   refine .seq ?_
   refine .keep (.cons (k := 3) rfl (.cons (k := 4) rfl (.cons (k := 5) rfl (.nil _)))) ?_
   refine .drawGD 11 0 (fun env310 => [((.pointer p54), fun _ => True), ((.pointer (env14.a 50)), fun _ => True), ((.pointer (some ⟨b62, 0, none⟩)), fun _ => True), ((.pointer (some ⟨b62, 0 + 8, none⟩)), fun _ => True), ((eCaskTimes x70.times), fun _ => True), ((.pointer (env14.a 50)), fun _ => True), ((.pointer (some ⟨b62, 0, none⟩)), fun _ => True), ((.pointer (some ⟨b62, 0 + 25, none⟩)), fun _ => True), ((.map (env310.o 80)), fun G => RepRef Γ.g73 G (env310.o 80) x70.fills), ((.pointer (some ⟨b10, 0 + 6, none⟩)), fun _ => True), ((.int .i64 x9.Amount), fun _ => True)]) (fun L env310 => [arena Γ.g75 (C75 Γ) F_51 r_50.2, arena Γ.g69 (C69 Γ) F_51 A2, arena Γ.g73 (C73 Γ) F0 A3, arena Γ.g67 (C67 Γ) F_51 A4, R]) mixedOK (by kernel_rfl) (deepN (k := 11) (n := 12) rfl (allLt12 (p := fun t => 11 ≤ t → ∀ j, j < t → ∃ s, depB _ s t j = true) (fun h => absurd h (by decide)) (fun h => absurd h (by decide)) (fun h => absurd h (by decide)) (fun h => absurd h (by decide)) (fun h => absurd h (by decide)) (fun h => absurd h (by decide)) (fun h => absurd h (by decide)) (fun h => absurd h (by decide)) (fun h => absurd h (by decide)) (fun h => absurd h (by decide)) (fun h => absurd h (by decide)) (fun _ => allLt11 (p := fun j => ∃ s, depB _ s 11 j = true) ⟨1, rfl⟩ ⟨4, rfl⟩ ⟨3, rfl⟩ ⟨2, rfl⟩ ⟨1, rfl⟩ ⟨4, rfl⟩ ⟨3, rfl⟩ ⟨2, rfl⟩ ⟨1, rfl⟩ ⟨2, rfl⟩ ⟨1, rfl⟩))) rfl (fun _ => rfl) (by kernel_rfl) (fun _ => rfl) ?_ (fun env310 F_315 l_316 hphi => ?_)
   ·skip
    refine .cons (fun L env310 F_317 l_318 hL hdn hup hphi => ⟨[(5, (.pointer p54))], fun S hS hV => (.cons (hS _ _ rfl) (Sub.nil _)), ?_⟩) ?_
    ·skip
     refine .move rfl rfl ?_
     exact .finV rfl rfl (Fz.le_refl _)
    refine .cons (fun L env310 F_319 l_320 hL hdn hup hphi => ⟨[(4, (.pointer (env14.a 50)))], fun S hS hV => (.cons (hS _ _ rfl) (Sub.nil _)), ?_⟩) ?_
    ·skip
     refine .move rfl rfl ?_
     exact .finV rfl rfl (Fz.le_refl _)
    refine .cons (fun L env310 F_321 l_322 hL hdn hup hphi => ⟨[(68, (.pointer (env14.a 50)))], fun S hS hV => (.cons (hV 1 68 _ (hdn 1 1 rfl) rfl rfl) (Sub.nil _)), ?_⟩) ?_
    ·skip
     refine .nilCheckR hp64 rfl rfl ?_
     exact .finV rfl rfl (Fz.le_refl _)
    refine .cons (fun L env310 F_323 l_324 hL hdn hup hphi => ⟨[(69, (.pointer (some ⟨b62, 0, none⟩)))], fun S hS hV => (.cons (hV 2 69 _ (hdn 1 2 rfl) rfl rfl) (Sub.nil _)), ?_⟩) ?_
    ·skip
     refine .fieldAddr rfl Try.underlying75 rfl Try.sizeOf72 rfl ?_
     exact .finV rfl rfl (Fz.le_refl _)
    refine .cons (fun L env310 F_325 l_326 hL hdn hup hphi => ⟨[(70, (.pointer (some ⟨b62, 0 + 8, none⟩)))], fun S hS hV => (.cons (hV 3 70 _ (hdn 1 3 rfl) rfl rfl) (Sub.nil _)), ?_⟩) ?_
    ·skip
     refine .loadRA (Φ := fun us => us = (cCaskTimes x70.times)) 0 rfl (Fz.le_trans l_76 (Fz.le_trans l_251 (Fz.le_trans l_258 (Fz.le_trans l_273 (Fz.le_trans l_280 (Fz.le_trans l_305 l_326)))))) (hb63.mono (Fz.le_trans l_76 (Fz.le_trans l_251 (Fz.le_trans l_258 (Fz.le_trans l_273 (Fz.le_trans l_280 (Fz.le_trans l_305 l_326))))))) e71 rfl Try.isAgg72 Try.sizeOf72 rfl (fun vs ⟨q0, q1, h, r0⟩ => ⟨_, by subst h; rfl, rfl, rfl⟩) (fun us hv => ?_)
     subst hv
     exact .finV rfl rfl (Fz.le_refl _)
    refine .cons (fun L env310 F_327 l_328 hL hdn hup hphi => ⟨[(4, (.pointer (env14.a 50)))], fun S hS hV => (.cons (hS _ _ rfl) (Sub.nil _)), ?_⟩) ?_
    ·skip
     refine .move rfl rfl ?_
     exact .finV rfl rfl (Fz.le_refl _)
    refine .cons (fun L env310 F_329 l_330 hL hdn hup hphi => ⟨[(72, (.pointer (env14.a 50)))], fun S hS hV => (.cons (hV 5 72 _ (hdn 1 5 rfl) rfl rfl) (Sub.nil _)), ?_⟩) ?_
    ·skip
     refine .nilCheckR hp64 rfl rfl ?_
     exact .finV rfl rfl (Fz.le_refl _)
    refine .cons (fun L env310 F_331 l_332 hL hdn hup hphi => ⟨[(73, (.pointer (some ⟨b62, 0, none⟩)))], fun S hS hV => (.cons (hV 6 73 _ (hdn 1 6 rfl) rfl rfl) (Sub.nil _)), ?_⟩) ?_
    ·skip
     refine .fieldAddr rfl Try.underlying75 rfl Try.sizeOf73 rfl ?_
     exact .finV rfl rfl (Fz.le_refl _)
    refine .cons (fun L env310 F_333 l_334 hL hdn hup hphi => ⟨[(74, (.pointer (some ⟨b62, 0 + 25, none⟩)))], fun S hS hV => (.cons (hV 7 74 _ (hdn 1 7 rfl) rfl rfl) (Sub.nil _)), ?_⟩) ?_
    ·skip
     refine .loadR (Φ := fun v => ∃ (p335 : Option Nat) (k336 : Unit), v = (.map p335) ∧ RepRef Γ.g73 F_333 p335 x70.fills) 0 rfl (Fz.le_trans l_76 (Fz.le_trans l_251 (Fz.le_trans l_258 (Fz.le_trans l_273 (Fz.le_trans l_280 (Fz.le_trans l_305 l_334)))))) (hb63.mono (Fz.le_trans l_76 (Fz.le_trans l_251 (Fz.le_trans l_258 (Fz.le_trans l_273 (Fz.le_trans l_280 (Fz.le_trans l_305 l_334))))))) e71 rfl Try.isAgg73 rfl (fun vs ⟨q0, q1, h, r0⟩ => ⟨_, by subst h; exact rfl, q0, q1, rfl, r0⟩) (fun v hv => ?_)
     obtain ⟨p335, k336, rfl, h337⟩ := hv
     exact .finQ ({ env310 with a := env310.a, n := env310.n, c := env310.c, o := (updN env310.o 80 p335) }) [true, true, true, true, true, true, true, true, false, true, true] rfl (by kernel_rfl) rfl rfl (Fz.le_refl _) (fun _ le => h337.mono le) (cons_eq rfl (cons_eq rfl (cons_eq rfl (cons_eq rfl (cons_eq rfl rfl)))))
    refine .cons (fun L env310 F_338 l_339 hL hdn hup hphi => ⟨[(3, (.pointer (some ⟨b10, 0, none⟩)))], fun S hS hV => (.cons (hS _ _ rfl) (Sub.nil _)), ?_⟩) ?_
    ·skip
     refine .fieldAddr rfl Try.underlying45 rfl Try.sizeOf3 rfl ?_
     exact .finV rfl rfl (Fz.le_refl _)
    refine .cons (fun L env310 F_340 l_341 hL hdn hup hphi => ⟨[(76, (.pointer (some ⟨b10, 0 + 6, none⟩)))], fun S hS hV => (.cons (hV 9 76 _ (hdn 1 9 rfl) rfl rfl) (Sub.nil _)), ?_⟩) ?_
    ·skip
     refine .loadF rfl Try.isAgg3 rfl ((Fz.le_trans l_21 (Fz.le_trans l_52 (Fz.le_trans l_76 (Fz.le_trans l_251 (Fz.le_trans l_258 (Fz.le_trans l_273 (Fz.le_trans l_280 (Fz.le_trans l_305 l_341)))))))).mem _ _ hb13) rfl ?_
     exact .finV rfl rfl (Fz.le_refl _)
    exact .nil
   have h314 := hphi 8 _ rfl
   refine .norm (S' := [(3, (.pointer (some ⟨b10, 0, none⟩))), (4, (.pointer (env14.a 50))), (5, (.pointer p54)), (67, (.pointer p54)), (68, (.pointer (env14.a 50))), (69, (.pointer (some ⟨b62, 0, none⟩))), (70, (.pointer (some ⟨b62, 0 + 8, none⟩))), (71, (eCaskTimes x70.times)), (72, (.pointer (env14.a 50))), (73, (.pointer (some ⟨b62, 0, none⟩))), (74, (.pointer (some ⟨b62, 0 + 25, none⟩))), (75, (.map (env310.o 80))), (76, (.pointer (some ⟨b10, 0 + 6, none⟩))), (77, (.int .i64 x9.Amount))]) (.cons (k := 3) rfl (.cons (k := 4) rfl (.cons (k := 5) rfl (.cons (k := 67) rfl (.cons (k := 68) rfl (.cons (k := 69) rfl (.cons (k := 70) rfl (.cons (k := 71) rfl (.cons (k := 72) rfl (.cons (k := 73) rfl (.cons (k := 74) rfl (.cons (k := 75) rfl (.cons (k := 76) rfl (.cons (k := 77) rfl (.nil _))))))))))))))) (rfl : _ = [arena Γ.g75 (C75 Γ) F_51 r_50.2, arena Γ.g69 (C69 Γ) F_51 A2, arena Γ.g73 (C73 Γ) F0 A3, arena Γ.g67 (C67 Γ) F_51 A4, R]) ?_
   refine .upR 0 (stays75 Γ) (Fz.le_trans l_76 (Fz.le_trans l_251 (Fz.le_trans l_258 (Fz.le_trans l_273 (Fz.le_trans l_280 (Fz.le_trans l_305 l_316)))))) rfl ?_
   refine .upR 2 (stays73 Γ) (Fz.le_trans l_12 (Fz.le_trans l_21 (Fz.le_trans l_52 (Fz.le_trans l_76 (Fz.le_trans l_251 (Fz.le_trans l_258 (Fz.le_trans l_273 (Fz.le_trans l_280 (Fz.le_trans l_305 l_316))))))))) rfl ?_
   refine .callT [0, 1] rfl Try.call67 rfl rfl rfl rfl (c_cask_cask_pour _ Γ r_50.2 A3 r_50.1 p54 k55 (h56.mono (Fz.le_trans l_76 (Fz.le_trans l_251 (Fz.le_trans l_258 (Fz.le_trans l_273 (Fz.le_trans l_280 (Fz.le_trans l_305 l_316))))))) x70.times x70.fills (env310.o 80) () h314 x9.Amount) ?_
   rintro r_342 F_343 _ e345 l_344 rfl
   refine .pick [0, 1, 0, 0, 0] (rfl : _ = [arena Γ.g75 (C75 Γ) F_343 r_342.1, arena Γ.g69 (C69 Γ) F_51 A2, arena Γ.g73 (C73 Γ) F_343 r_342.2, arena Γ.g67 (C67 Γ) F_51 A4, R]) ?_
   refine .nil ?_
   refine .code ?_
   refine .region ?_
   refine .move rfl rfl ?_
   refine .fieldAddr rfl Try.underlying45 rfl Try.sizeOf3 rfl ?_
   refine .loadF rfl Try.isAgg3 rfl ((Fz.le_trans l_21 (Fz.le_trans l_52 (Fz.le_trans l_76 (Fz.le_trans l_251 (Fz.le_trans l_258 (Fz.le_trans l_273 (Fz.le_trans l_280 (Fz.le_trans l_305 (Fz.le_trans l_316 l_344))))))))).mem _ _ hb13) rfl ?_
   refine .callT [0] rfl Try.call68 rfl rfl rfl rfl (c_cask_cask_draw _ Γ r_342.1 r_15.1 (env14.a 50) () (h17.mono (Fz.le_trans l_52 (Fz.le_trans l_76 (Fz.le_trans l_251 (Fz.le_trans l_258 (Fz.le_trans l_273 (Fz.le_trans l_280 (Fz.le_trans l_305 (Fz.le_trans l_316 l_344))))))))) x9.Amount) ?_
   rintro r_346 F_347 _ e349 l_348 rfl
   refine .pick [0, 0, 0, 0, 0] (rfl : _ = [arena Γ.g75 (C75 Γ) F_347 r_346, arena Γ.g69 (C69 Γ) F_51 A2, arena Γ.g73 (C73 Γ) F_343 r_342.2, arena Γ.g67 (C67 Γ) F_51 A4, R]) ?_
   refine .nil ?_
   refine .upR 1 (stays69 Γ) (Fz.le_trans l_76 (Fz.le_trans l_251 (Fz.le_trans l_258 (Fz.le_trans l_273 (Fz.le_trans l_280 (Fz.le_trans l_305 (Fz.le_trans l_316 (Fz.le_trans l_344 l_348)))))))) rfl ?_
   refine .upR 2 (stays73 Γ) l_348 rfl ?_
   refine .upR 3 (stays67 Γ) (Fz.le_trans l_76 (Fz.le_trans l_251 (Fz.le_trans l_258 (Fz.le_trans l_273 (Fz.le_trans l_280 (Fz.le_trans l_305 (Fz.le_trans l_316 (Fz.le_trans l_344 l_348)))))))) rfl ?_
   exact .endX [0, 0, 0, 0, 0] Try.results48 (.nil) rfl (Fz.le_trans l_12 (Fz.le_trans l_21 (Fz.le_trans l_52 (Fz.le_trans l_76 (Fz.le_trans l_251 (Fz.le_trans l_258 (Fz.le_trans l_273 (Fz.le_trans l_280 (Fz.le_trans l_305 (Fz.le_trans l_316 (Fz.le_trans l_344 l_348))))))))))) rfl
  ·intro b252 hb0 hk e a w hD
   obtain ⟨rfl, F_253, l_254, hA⟩ := hD
   exact interp_panic ((pan_postX (i := 0) rfl (Fz.le_trans l_12 (Fz.le_trans l_21 (Fz.le_trans l_52 (Fz.le_trans l_76 l_254))))) hk a w hA)
 ·skip
  refine .drawGP 5 0 (fun env350 => [((.pointer p6), fun _ => True), ((.pointer (some ⟨b10, 0 + 2, none⟩)), fun _ => True), ((.int .i64 x9.Cask), fun _ => True), ((.pointer (some ⟨b10, 0 + 1, none⟩)), fun _ => True), ((.int .i64 x9.Day), fun _ => True), (undef, fun _ => True), ((.pointer p6), fun _ => True), ((.pointer (some ⟨b10, 0 + 3, none⟩)), fun _ => True), ((.int .i64 x9.Other), fun _ => True), ((.pointer (some ⟨b10, 0 + 1, none⟩)), fun _ => True), ((.int .i64 x9.Day), fun _ => True), (undef, fun _ => True), (undef, fun _ => True), (undef, fun _ => True)]) (fun L env350 => [arena Γ.g75 (C75 Γ) F0 A1, arena Γ.g69 (C69 Γ) F0 A2, arena Γ.g73 (C73 Γ) F0 A3, arena Γ.g67 (C67 Γ) F0 A4, R]) mixedOK (by kernel_rfl) rfl (fun _ => rfl) (by kernel_rfl) (fun _ => rfl) ?_
  ·skip
   refine .cons (by decide) (fun L env350 F_353 l_354 hL hdn hup hphi => ⟨[(0, (.pointer p6))], fun S hS hV => (.cons (hS _ _ rfl) (Sub.nil _)), ?_⟩) ?_
   ·skip
    refine .move rfl rfl ?_
    exact .finV rfl rfl (Fz.le_refl _)
   refine .cons (by decide) (fun L env350 F_355 l_356 hL hdn hup hphi => ⟨[(3, (.pointer (some ⟨b10, 0, none⟩)))], fun S hS hV => (.cons (hS _ _ rfl) (Sub.nil _)), ?_⟩) ?_
   ·skip
    refine .fieldAddr rfl Try.underlying45 rfl Try.sizeOf3 rfl ?_
    exact .finV rfl rfl (Fz.le_refl _)
   refine .cons (by decide) (fun L env350 F_357 l_358 hL hdn hup hphi => ⟨[(7, (.pointer (some ⟨b10, 0 + 2, none⟩)))], fun S hS hV => (.cons (hV 1 7 _ (hdn 1 1 rfl) rfl rfl) (Sub.nil _)), ?_⟩) ?_
   ·skip
    refine .loadF rfl Try.isAgg3 rfl (l_358.mem _ _ hb13) rfl ?_
    exact .finV rfl rfl (Fz.le_refl _)
   refine .cons (by decide) (fun L env350 F_359 l_360 hL hdn hup hphi => ⟨[(3, (.pointer (some ⟨b10, 0, none⟩)))], fun S hS hV => (.cons (hS _ _ rfl) (Sub.nil _)), ?_⟩) ?_
   ·skip
    refine .fieldAddr rfl Try.underlying45 rfl Try.sizeOf3 rfl ?_
    exact .finV rfl rfl (Fz.le_refl _)
   refine .cons (by decide) (fun L env350 F_361 l_362 hL hdn hup hphi => ⟨[(9, (.pointer (some ⟨b10, 0 + 1, none⟩)))], fun S hS hV => (.cons (hV 3 9 _ (hdn 1 3 rfl) rfl rfl) (Sub.nil _)), ?_⟩) ?_
   ·skip
    refine .loadF rfl Try.isAgg3 rfl (l_362.mem _ _ hb13) rfl ?_
    exact .finV rfl rfl (Fz.le_refl _)
   refine .at_ (fun L env350 F_363 l_364 hL hdn hup hphi => ⟨[(6, (.pointer p6)), (8, (.int .i64 x9.Cask)), (10, (.int .i64 x9.Day))], fun S hS hV => (.cons (hV 0 6 _ (hdn 1 0 rfl) rfl rfl) (.cons (hV 2 8 _ (hdn 1 2 rfl) rfl rfl) (.cons (hV 4 10 _ (hdn 1 4 rfl) rfl rfl) (Sub.nil _)))), ?_⟩) ?_
   ·skip
    refine .norm (Sub.refl _) ((cons_eq rfl (cons_eq rfl (cons_eq rfl (cons_eq rfl (cons_eq rfl rfl))))) : _ = [arena Γ.g75 (C75 Γ) F0 A1, arena Γ.g69 (C69 Γ) F0 A2, arena Γ.g73 (C73 Γ) F0 A3, arena Γ.g67 (C67 Γ) F0 A4, R]) ?_
    refine .upR 0 (stays75 Γ) (Fz.le_trans l_12 l_364) rfl ?_
    refine .upR 1 (stays69 Γ) (Fz.le_trans l_12 l_364) rfl ?_
    refine .upR 3 (stays67 Γ) (Fz.le_trans l_12 l_364) rfl ?_
    exact .callBP e19 [0, 0, 1] rfl Try.call66 rfl rfl rfl rfl (c_cask_book_find _ Γ A1 A2 A4 b5 p6 k7 (h8.mono (Fz.le_trans l_12 l_364)) x9.Cask x9.Day) (fun F_365 l_366 => GL.ppost (pan_postX (i := 1) rfl (Fz.le_trans l_12 (Fz.le_trans l_364 l_366))))
   refine .cons (by decide) (fun L env350 F_367 l_368 hL hdn hup hphi => ⟨[(0, (.pointer p6))], fun S hS hV => (.cons (hS _ _ rfl) (Sub.nil _)), ?_⟩) ?_
   ·skip
    refine .move rfl rfl ?_
    exact .finV rfl rfl (Fz.le_refl _)
   refine .cons (by decide) (fun L env350 F_369 l_370 hL hdn hup hphi => ⟨[(3, (.pointer (some ⟨b10, 0, none⟩)))], fun S hS hV => (.cons (hS _ _ rfl) (Sub.nil _)), ?_⟩) ?_
   ·skip
    refine .fieldAddr rfl Try.underlying45 rfl Try.sizeOf3 rfl ?_
    exact .finV rfl rfl (Fz.le_refl _)
   refine .cons (by decide) (fun L env350 F_371 l_372 hL hdn hup hphi => ⟨[(13, (.pointer (some ⟨b10, 0 + 3, none⟩)))], fun S hS hV => (.cons (hV 7 13 _ (hdn 1 7 rfl) rfl rfl) (Sub.nil _)), ?_⟩) ?_
   ·skip
    refine .loadF rfl Try.isAgg3 rfl (l_372.mem _ _ hb13) rfl ?_
    exact .finV rfl rfl (Fz.le_refl _)
   refine .cons (by decide) (fun L env350 F_373 l_374 hL hdn hup hphi => ⟨[(3, (.pointer (some ⟨b10, 0, none⟩)))], fun S hS hV => (.cons (hS _ _ rfl) (Sub.nil _)), ?_⟩) ?_
   ·skip
    refine .fieldAddr rfl Try.underlying45 rfl Try.sizeOf3 rfl ?_
    exact .finV rfl rfl (Fz.le_refl _)
   refine .cons (by decide) (fun L env350 F_375 l_376 hL hdn hup hphi => ⟨[(15, (.pointer (some ⟨b10, 0 + 1, none⟩)))], fun S hS hV => (.cons (hV 9 15 _ (hdn 1 9 rfl) rfl rfl) (Sub.nil _)), ?_⟩) ?_
   ·skip
    refine .loadF rfl Try.isAgg3 rfl (l_376.mem _ _ hb13) rfl ?_
    exact .finV rfl rfl (Fz.le_refl _)
   refine .dep 1 rfl ?_
   refine .dep 1 rfl ?_
   refine .dep 1 rfl ?_
   exact .nil
noncomputable def m_cask_book_drain (A1 : List CaskCask) (A2 : List CaskBook) (A3 : List (List (Int × Bool))) (A4 : List (List (Int × (Option Nat)))) (b5 : (Option Nat)) (x9 : ApiCaskEvent) : Option (Out CaskMisfit ((List CaskCask) × (List (List (Int × Bool))) × (List (List (Int × (Option Nat)))))) :=
 bindX (m_cask_book_find A1 A2 A4 b5 x9.Cask x9.Day) (fun q23 => some (.pan q23)) fun r_14 => (r_14.1).bind fun i24 => (r_14.2[i24]?).bind fun x29 => bindX (m_cask_need (x29.creditor == (-1)) 11) (fun q37 => some (.pan q37)) fun _r_31 => bindX (m_cask_need (decide (x29.amount ≥ x9.Amount)) 10) (fun q59 => some (.pan q59)) fun _r_53 => (m_cask_cask_draw r_14.2 r_14.1 x9.Amount).bind fun r_60 => some (.ok (r_60, A3, A4))
set_option maxHeartbeats 4000000 in
theorem c_cask_book_drain (F0 : Fz) (Γ : Gam) (A1 : List CaskCask) (A2 : List CaskBook) (A3 : List (List (Int × Bool))) (A4 : List (List (Int × (Option Nat)))) (b5 : (Option Nat)) (p6 : Option Addr) (k7 : Unit) (h8 : RepPtr Γ.g69 F0 p6 b5) (x9 : ApiCaskEvent) : CTX Try.prog penc 49 [(.pointer p6), (eApiCaskEvent x9)].toArray F0 [arena Γ.g75 (C75 Γ) F0 A1, arena Γ.g69 (C69 Γ) F0 A2, arena Γ.g73 (C73 Γ) F0 A3, arena Γ.g67 (C67 Γ) F0 A4] (m_cask_book_drain A1 A2 A3 A4 b5 x9) (fun (_r : (List CaskCask) × (List (List (Int × Bool))) × (List (List (Int × (Option Nat))))) _ v => v = .tuple #[]) (fun (r : (List CaskCask) × (List (List (Int × Bool))) × (List (List (Int × (Option Nat))))) F' _ => [arena Γ.g75 (C75 Γ) F' r.1, arena Γ.g69 (C69 Γ) F' A2, arena Γ.g73 (C73 Γ) F' r.2.1, arena Γ.g67 (C67 Γ) F' r.2.2]) := by
 refine CTX.enter Try.func49 rfl Try.ntmps49 rfl fun r R => ?_
 refine .norm (Sub.refl _) (rfl : _ = [arena Γ.g75 (C75 Γ) F0 A1, arena Γ.g69 (C69 Γ) F0 A2, arena Γ.g73 (C73 Γ) F0 A3, arena Γ.g67 (C67 Γ) F0 A4, R]) ?_
 unfold m_cask_book_drain
 refine .seq ?_
 refine .region ?_
 refine .boxF (cs := (cApiCaskEvent x9)) rfl rfl rfl (fun b10 F_11 l_12 hb13 => ?_)
 refine .nil ?_
 refine .code ?_
 refine .seq ?_
 refine .region ?_
 refine .move rfl rfl ?_
 refine .fieldAddr rfl Try.underlying45 rfl Try.sizeOf3 rfl ?_
 refine .loadF rfl Try.isAgg3 rfl hb13 rfl ?_
 refine .fieldAddr rfl Try.underlying45 rfl Try.sizeOf3 rfl ?_
 refine .loadF rfl Try.isAgg3 rfl hb13 rfl ?_
 refine .upR 0 (stays75 Γ) l_12 rfl ?_
 refine .upR 1 (stays69 Γ) l_12 rfl ?_
 refine .upR 3 (stays67 Γ) l_12 rfl ?_
 refine .callB [0, 0, 1] rfl Try.call66 rfl rfl rfl rfl (c_cask_book_find _ Γ A1 A2 A4 b5 p6 k7 (h8.mono l_12) x9.Cask x9.Day) ?_ (fun q23 F_21 _ l_22 => (pan_postX (i := 1) rfl (Fz.le_trans l_12 l_22)))
 rintro r_14 F_15 _ e17 l_16 ⟨p18, k19, rfl, h20⟩
 refine .pick [0, 0, 1, 0, 0] (rfl : _ = [arena Γ.g75 (C75 Γ) F_15 r_14.2, arena Γ.g69 (C69 Γ) F_15 A2, arena Γ.g73 (C73 Γ) F0 A3, arena Γ.g67 (C67 Γ) F_15 A4, R]) ?_
 refine .assign rfl rfl ?_
 refine .nil ?_
 refine .code ?_
 refine .seq ?_
 refine .region ?_
 refine .move rfl rfl ?_
 refine .bind (fun i24 e25 => ?_)
 obtain ⟨b26, hb27, hp28⟩ := h20.at e25
 refine .nilCheckR hp28 rfl rfl ?_
 refine .fieldAddr rfl Try.underlying75 rfl Try.sizeOf3 rfl ?_
 refine .bind (fun x29 e30 => ?_)
 refine .loadR (Φ := fun v => v = (.int .i64 x29.creditor)) 0 rfl (Fz.le_refl _) hb27 e30 rfl Try.isAgg3 rfl (fun vs ⟨q0, q1, h, r0⟩ => ⟨_, by subst h; exact rfl, rfl⟩) (fun v hv => ?_)
 subst hv
 refine .eql rfl rfl rfl ?_
 refine .callB [] rfl Try.call34 rfl rfl rfl rfl (c_cask_need _ (x29.creditor == (-1)) 11) ?_ (fun q37 F_35 _ l_36 => (pan_postX (i := 4) rfl (Fz.le_trans l_12 (Fz.le_trans l_16 l_36))))
 rintro r_31 F_32 _ e34 l_33 rfl
 refine .pick [0, 0, 0, 0, 0] (rfl : _ = [arena Γ.g75 (C75 Γ) F_15 r_14.2, arena Γ.g69 (C69 Γ) F_15 A2, arena Γ.g73 (C73 Γ) F0 A3, arena Γ.g67 (C67 Γ) F_15 A4, R]) ?_
 refine .nil ?_
 refine .code ?_
 refine .seq ?_
 refine .keep (.cons (k := 3) rfl (.cons (k := 4) rfl (.nil _))) ?_
 refine .drawGD 6 0 (fun env38 => [((.pointer p18), fun _ => True), ((.pointer (some ⟨b26, 0, none⟩)), fun _ => True), ((.pointer (some ⟨b26, 0 + 6, none⟩)), fun _ => True), ((.int .i64 x29.amount), fun _ => True), ((.pointer (some ⟨b10, 0 + 6, none⟩)), fun _ => True), ((.int .i64 x9.Amount), fun _ => True)]) (fun L env38 => [arena Γ.g75 (C75 Γ) F_15 r_14.2, arena Γ.g69 (C69 Γ) F_15 A2, arena Γ.g73 (C73 Γ) F0 A3, arena Γ.g67 (C67 Γ) F_15 A4, R]) mixedOK (by kernel_rfl) (deepN (k := 6) (n := 8) rfl (allLt8 (p := fun t => 6 ≤ t → ∀ j, j < t → ∃ s, depB _ s t j = true) (fun h => absurd h (by decide)) (fun h => absurd h (by decide)) (fun h => absurd h (by decide)) (fun h => absurd h (by decide)) (fun h => absurd h (by decide)) (fun h => absurd h (by decide)) (fun _ => allLt6 (p := fun j => ∃ s, depB _ s 6 j = true) ⟨4, rfl⟩ ⟨3, rfl⟩ ⟨2, rfl⟩ ⟨1, rfl⟩ ⟨2, rfl⟩ ⟨1, rfl⟩) (fun _ => allLt7 (p := fun j => ∃ s, depB _ s 7 j = true) ⟨5, rfl⟩ ⟨4, rfl⟩ ⟨3, rfl⟩ ⟨2, rfl⟩ ⟨3, rfl⟩ ⟨2, rfl⟩ ⟨1, rfl⟩))) rfl (fun _ => rfl) (by kernel_rfl) (fun _ => rfl) ?_ (fun env38 F_39 l_40 hphi => ?_)
 ·skip
  refine .cons (fun L env38 F_41 l_42 hL hdn hup hphi => ⟨[(4, (.pointer p18))], fun S hS hV => (.cons (hS _ _ rfl) (Sub.nil _)), ?_⟩) ?_
  ·skip
   refine .move rfl rfl ?_
   exact .finV rfl rfl (Fz.le_refl _)
  refine .cons (fun L env38 F_43 l_44 hL hdn hup hphi => ⟨[(17, (.pointer p18))], fun S hS hV => (.cons (hV 0 17 _ (hdn 1 0 rfl) rfl rfl) (Sub.nil _)), ?_⟩) ?_
  ·skip
   refine .nilCheckR hp28 rfl rfl ?_
   exact .finV rfl rfl (Fz.le_refl _)
  refine .cons (fun L env38 F_45 l_46 hL hdn hup hphi => ⟨[(18, (.pointer (some ⟨b26, 0, none⟩)))], fun S hS hV => (.cons (hV 1 18 _ (hdn 1 1 rfl) rfl rfl) (Sub.nil _)), ?_⟩) ?_
  ·skip
   refine .fieldAddr rfl Try.underlying75 rfl Try.sizeOf3 rfl ?_
   exact .finV rfl rfl (Fz.le_refl _)
  refine .cons (fun L env38 F_47 l_48 hL hdn hup hphi => ⟨[(19, (.pointer (some ⟨b26, 0 + 6, none⟩)))], fun S hS hV => (.cons (hV 2 19 _ (hdn 1 2 rfl) rfl rfl) (Sub.nil _)), ?_⟩) ?_
  ·skip
   refine .loadR (Φ := fun v => v = (.int .i64 x29.amount)) 0 rfl (Fz.le_trans l_33 l_48) (hb27.mono (Fz.le_trans l_33 l_48)) e30 rfl Try.isAgg3 rfl (fun vs ⟨q0, q1, h, r0⟩ => ⟨_, by subst h; exact rfl, rfl⟩) (fun v hv => ?_)
   subst hv
   exact .finV rfl rfl (Fz.le_refl _)
  refine .cons (fun L env38 F_49 l_50 hL hdn hup hphi => ⟨[(3, (.pointer (some ⟨b10, 0, none⟩)))], fun S hS hV => (.cons (hS _ _ rfl) (Sub.nil _)), ?_⟩) ?_
  ·skip
   refine .fieldAddr rfl Try.underlying45 rfl Try.sizeOf3 rfl ?_
   exact .finV rfl rfl (Fz.le_refl _)
  refine .cons (fun L env38 F_51 l_52 hL hdn hup hphi => ⟨[(21, (.pointer (some ⟨b10, 0 + 6, none⟩)))], fun S hS hV => (.cons (hV 4 21 _ (hdn 1 4 rfl) rfl rfl) (Sub.nil _)), ?_⟩) ?_
  ·skip
   refine .loadF rfl Try.isAgg3 rfl ((Fz.le_trans l_16 (Fz.le_trans l_33 l_52)).mem _ _ hb13) rfl ?_
   exact .finV rfl rfl (Fz.le_refl _)
  exact .nil
 refine .norm (S' := [(3, (.pointer (some ⟨b10, 0, none⟩))), (4, (.pointer p18)), (17, (.pointer p18)), (18, (.pointer (some ⟨b26, 0, none⟩))), (19, (.pointer (some ⟨b26, 0 + 6, none⟩))), (20, (.int .i64 x29.amount)), (21, (.pointer (some ⟨b10, 0 + 6, none⟩))), (22, (.int .i64 x9.Amount))]) (.cons (k := 3) rfl (.cons (k := 4) rfl (.cons (k := 17) rfl (.cons (k := 18) rfl (.cons (k := 19) rfl (.cons (k := 20) rfl (.cons (k := 21) rfl (.cons (k := 22) rfl (.nil _))))))))) (rfl : _ = [arena Γ.g75 (C75 Γ) F_15 r_14.2, arena Γ.g69 (C69 Γ) F_15 A2, arena Γ.g73 (C73 Γ) F0 A3, arena Γ.g67 (C67 Γ) F_15 A4, R]) ?_
 refine .geq rfl rfl rfl ?_
 refine .callB [] rfl Try.call34 rfl rfl rfl rfl (c_cask_need _ (decide (x29.amount ≥ x9.Amount)) 10) ?_ (fun q59 F_57 _ l_58 => (pan_postX (i := 4) rfl (Fz.le_trans l_12 (Fz.le_trans l_16 (Fz.le_trans l_33 (Fz.le_trans l_40 l_58))))))
 rintro r_53 F_54 _ e56 l_55 rfl
 refine .pick [0, 0, 0, 0, 0] (rfl : _ = [arena Γ.g75 (C75 Γ) F_15 r_14.2, arena Γ.g69 (C69 Γ) F_15 A2, arena Γ.g73 (C73 Γ) F0 A3, arena Γ.g67 (C67 Γ) F_15 A4, R]) ?_
 refine .nil ?_
 refine .code ?_
 refine .region ?_
 refine .move rfl rfl ?_
 refine .fieldAddr rfl Try.underlying45 rfl Try.sizeOf3 rfl ?_
 refine .loadF rfl Try.isAgg3 rfl ((Fz.le_trans l_16 (Fz.le_trans l_33 (Fz.le_trans l_40 l_55))).mem _ _ hb13) rfl ?_
 refine .upR 0 (stays75 Γ) (Fz.le_trans l_33 (Fz.le_trans l_40 l_55)) rfl ?_
 refine .callT [0] rfl Try.call68 rfl rfl rfl rfl (c_cask_cask_draw _ Γ r_14.2 r_14.1 p18 k19 (h20.mono (Fz.le_trans l_33 (Fz.le_trans l_40 l_55))) x9.Amount) ?_
 rintro r_60 F_61 _ e63 l_62 rfl
 refine .pick [0, 0, 0, 0, 0] (rfl : _ = [arena Γ.g75 (C75 Γ) F_61 r_60, arena Γ.g69 (C69 Γ) F_15 A2, arena Γ.g73 (C73 Γ) F0 A3, arena Γ.g67 (C67 Γ) F_15 A4, R]) ?_
 refine .nil ?_
 refine .upR 1 (stays69 Γ) (Fz.le_trans l_33 (Fz.le_trans l_40 (Fz.le_trans l_55 l_62))) rfl ?_
 refine .upR 2 (stays73 Γ) (Fz.le_trans l_12 (Fz.le_trans l_16 (Fz.le_trans l_33 (Fz.le_trans l_40 (Fz.le_trans l_55 l_62))))) rfl ?_
 refine .upR 3 (stays67 Γ) (Fz.le_trans l_33 (Fz.le_trans l_40 (Fz.le_trans l_55 l_62))) rfl ?_
 exact .endX [0, 0, 0, 0, 0] Try.results49 (.nil) rfl (Fz.le_trans l_12 (Fz.le_trans l_16 (Fz.le_trans l_33 (Fz.le_trans l_40 (Fz.le_trans l_55 l_62))))) rfl
noncomputable def m_cask_book_carry (A1 : List CaskCask) (A2 : List CaskBook) (A3 : List (List (Int × Bool))) (A4 : List (List (Int × (Option Nat)))) (b5 : (Option Nat)) (x9 : ApiCaskEvent) : Option (Out CaskMisfit ((List CaskCask) × (List (List (Int × Bool))) × (List (List (Int × (Option Nat)))))) :=
 bindX (m_cask_book_find A1 A2 A4 b5 x9.Cask x9.Day) (fun q18 => some (.pan q18)) fun r_15 => (r_15.1).bind fun i44 => (r_15.2[i44]?).bind fun x49 => bindv ({ x49 with place := x9.Where }) fun x51 => bindv (List.set r_15.2 i44 x51) fun A53 => some (.ok (A53, A3, A4))
set_option maxHeartbeats 4000000 in
theorem c_cask_book_carry (F0 : Fz) (Γ : Gam) (A1 : List CaskCask) (A2 : List CaskBook) (A3 : List (List (Int × Bool))) (A4 : List (List (Int × (Option Nat)))) (b5 : (Option Nat)) (p6 : Option Addr) (k7 : Unit) (h8 : RepPtr Γ.g69 F0 p6 b5) (x9 : ApiCaskEvent) : CTX Try.prog penc 50 [(.pointer p6), (eApiCaskEvent x9)].toArray F0 [arena Γ.g75 (C75 Γ) F0 A1, arena Γ.g69 (C69 Γ) F0 A2, arena Γ.g73 (C73 Γ) F0 A3, arena Γ.g67 (C67 Γ) F0 A4] (m_cask_book_carry A1 A2 A3 A4 b5 x9) (fun (_r : (List CaskCask) × (List (List (Int × Bool))) × (List (List (Int × (Option Nat))))) _ v => v = .tuple #[]) (fun (r : (List CaskCask) × (List (List (Int × Bool))) × (List (List (Int × (Option Nat))))) F' _ => [arena Γ.g75 (C75 Γ) F' r.1, arena Γ.g69 (C69 Γ) F' A2, arena Γ.g73 (C73 Γ) F' r.2.1, arena Γ.g67 (C67 Γ) F' r.2.2]) := by
 refine CTX.enter Try.func50 rfl Try.ntmps50 rfl fun r R => ?_
 refine .norm (Sub.refl _) (rfl : _ = [arena Γ.g75 (C75 Γ) F0 A1, arena Γ.g69 (C69 Γ) F0 A2, arena Γ.g73 (C73 Γ) F0 A3, arena Γ.g67 (C67 Γ) F0 A4, R]) ?_
 unfold m_cask_book_carry
 refine .seq ?_
 refine .region ?_
 refine .boxF (cs := (cApiCaskEvent x9)) rfl rfl rfl (fun b10 F_11 l_12 hb13 => ?_)
 refine .nil ?_
 refine .code ?_
 refine .keep (.cons (k := 0) rfl (.cons (k := 3) rfl (.nil _))) ?_
 refine .outsB (fun r_15 e16 => ?_) (fun q18 e19 => ?_)
 ·skip
  refine .drawGD 8 0 (fun env14 => [((.pointer p6), fun _ => True), ((.pointer (some ⟨b10, 0 + 2, none⟩)), fun _ => True), ((.int .i64 x9.Cask), fun _ => True), ((.pointer (some ⟨b10, 0 + 1, none⟩)), fun _ => True), ((.int .i64 x9.Day), fun _ => True), ((.pointer (env14.a 50)), fun G => env14.f 50 ≤ G ∧ RepPtr Γ.g75 G (env14.a 50) r_15.1), ((.pointer (some ⟨b10, 0 + 7, none⟩)), fun _ => True), ((.int .i64 x9.Where), fun _ => True)]) (fun L env14 => [(bif L 5 then (arena Γ.g75 (C75 Γ) (env14.f 50) r_15.2) else (arena Γ.g75 (C75 Γ) F0 A1)), (bif L 5 then (arena Γ.g69 (C69 Γ) (env14.f 50) A2) else (arena Γ.g69 (C69 Γ) F0 A2)), arena Γ.g73 (C73 Γ) F0 A3, (bif L 5 then (arena Γ.g67 (C67 Γ) (env14.f 50) A4) else (arena Γ.g67 (C67 Γ) F0 A4)), R]) mixedOK (by kernel_rfl) (deepN (k := 8) (n := 11) rfl (allLt11 (p := fun t => 8 ≤ t → ∀ j, j < t → ∃ s, depB _ s t j = true) (fun h => absurd h (by decide)) (fun h => absurd h (by decide)) (fun h => absurd h (by decide)) (fun h => absurd h (by decide)) (fun h => absurd h (by decide)) (fun h => absurd h (by decide)) (fun h => absurd h (by decide)) (fun h => absurd h (by decide)) (fun _ => allLt8 (p := fun j => ∃ s, depB _ s 8 j = true) ⟨1, rfl⟩ ⟨1, rfl⟩ ⟨1, rfl⟩ ⟨1, rfl⟩ ⟨1, rfl⟩ ⟨1, rfl⟩ ⟨1, rfl⟩ ⟨1, rfl⟩) (fun _ => allLt9 (p := fun j => ∃ s, depB _ s 9 j = true) ⟨1, rfl⟩ ⟨1, rfl⟩ ⟨1, rfl⟩ ⟨1, rfl⟩ ⟨1, rfl⟩ ⟨1, rfl⟩ ⟨1, rfl⟩ ⟨1, rfl⟩ ⟨1, rfl⟩) (fun _ => allLt10 (p := fun j => ∃ s, depB _ s 10 j = true) ⟨1, rfl⟩ ⟨1, rfl⟩ ⟨1, rfl⟩ ⟨1, rfl⟩ ⟨1, rfl⟩ ⟨1, rfl⟩ ⟨1, rfl⟩ ⟨1, rfl⟩ ⟨2, rfl⟩ ⟨1, rfl⟩))) rfl (fun _ => rfl) (by kernel_rfl) (fun _ => rfl) ?_ (fun env14 F_20 l_21 hphi => ?_)
  ·skip
   refine .cons (fun L env14 F_23 l_24 hL hdn hup hphi => ⟨[(0, (.pointer p6))], fun S hS hV => (.cons (hS _ _ rfl) (Sub.nil _)), ?_⟩) ?_
   ·skip
    refine .move rfl rfl ?_
    exact .finV rfl rfl (Fz.le_refl _)
   refine .cons (fun L env14 F_25 l_26 hL hdn hup hphi => ⟨[(3, (.pointer (some ⟨b10, 0, none⟩)))], fun S hS hV => (.cons (hS _ _ rfl) (Sub.nil _)), ?_⟩) ?_
   ·skip
    refine .fieldAddr rfl Try.underlying45 rfl Try.sizeOf3 rfl ?_
    exact .finV rfl rfl (Fz.le_refl _)
   refine .cons (fun L env14 F_27 l_28 hL hdn hup hphi => ⟨[(5, (.pointer (some ⟨b10, 0 + 2, none⟩)))], fun S hS hV => (.cons (hV 1 5 _ (hdn 1 1 rfl) rfl rfl) (Sub.nil _)), ?_⟩) ?_
   ·skip
    refine .loadF rfl Try.isAgg3 rfl (l_28.mem _ _ hb13) rfl ?_
    exact .finV rfl rfl (Fz.le_refl _)
   refine .cons (fun L env14 F_29 l_30 hL hdn hup hphi => ⟨[(3, (.pointer (some ⟨b10, 0, none⟩)))], fun S hS hV => (.cons (hS _ _ rfl) (Sub.nil _)), ?_⟩) ?_
   ·skip
    refine .fieldAddr rfl Try.underlying45 rfl Try.sizeOf3 rfl ?_
    exact .finV rfl rfl (Fz.le_refl _)
   refine .cons (fun L env14 F_31 l_32 hL hdn hup hphi => ⟨[(7, (.pointer (some ⟨b10, 0 + 1, none⟩)))], fun S hS hV => (.cons (hV 3 7 _ (hdn 1 3 rfl) rfl rfl) (Sub.nil _)), ?_⟩) ?_
   ·skip
    refine .loadF rfl Try.isAgg3 rfl (l_32.mem _ _ hb13) rfl ?_
    exact .finV rfl rfl (Fz.le_refl _)
   refine .cons (fun L env14 F_33 l_34 hL hdn hup hphi => ⟨[(4, (.pointer p6)), (6, (.int .i64 x9.Cask)), (8, (.int .i64 x9.Day))], fun S hS hV => (.cons (hV 0 4 _ (hdn 1 0 rfl) rfl rfl) (.cons (hV 2 6 _ (hdn 1 2 rfl) rfl rfl) (.cons (hV 4 8 _ (hdn 1 4 rfl) rfl rfl) (Sub.nil _)))), ?_⟩) ?_
   ·skip
    refine .norm (Sub.refl _) ((cons_eq (condF hL) (cons_eq (condF hL) (cons_eq rfl (cons_eq (condF hL) (cons_eq rfl rfl))))) : _ = [arena Γ.g75 (C75 Γ) F0 A1, arena Γ.g69 (C69 Γ) F0 A2, arena Γ.g73 (C73 Γ) F0 A3, arena Γ.g67 (C67 Γ) F0 A4, R]) ?_
    refine .upR 0 (stays75 Γ) (Fz.le_trans l_12 l_34) rfl ?_
    refine .upR 1 (stays69 Γ) (Fz.le_trans l_12 l_34) rfl ?_
    refine .upR 3 (stays67 Γ) (Fz.le_trans l_12 l_34) rfl ?_
    refine .callBK e16 [0, 0, 1] rfl Try.call66 rfl rfl rfl rfl (c_cask_book_find _ Γ A1 A2 A4 b5 p6 k7 (h8.mono (Fz.le_trans l_12 l_34)) x9.Cask x9.Day) ?_
    rintro F_35 _ l_36 ⟨p37, k38, rfl, h39⟩
    refine .pick [0, 0, 1, 0, 0] (rfl : _ = [arena Γ.g75 (C75 Γ) F_35 r_15.2, arena Γ.g69 (C69 Γ) F_35 A2, arena Γ.g73 (C73 Γ) F0 A3, arena Γ.g67 (C67 Γ) F_35 A4, R]) ?_
    exact .finQ ({ env14 with a := (updN env14.a 50 p37), o := env14.o, f := (updN env14.f 50 F_35) }) [true, true, true, true, true, false, true, true] rfl (by kernel_rfl) rfl rfl l_36 (fun _ le => ⟨le, h39.mono le⟩) (cons_eq (condT rfl) (cons_eq (condT rfl) (cons_eq rfl (cons_eq (condT rfl) (cons_eq rfl rfl)))))
   refine .cons (fun L env14 F_40 l_41 hL hdn hup hphi => ⟨[(3, (.pointer (some ⟨b10, 0, none⟩)))], fun S hS hV => (.cons (hS _ _ rfl) (Sub.nil _)), ?_⟩) ?_
   ·skip
    refine .fieldAddr rfl Try.underlying45 rfl Try.sizeOf3 rfl ?_
    exact .finV rfl rfl (Fz.le_refl _)
   refine .cons (fun L env14 F_42 l_43 hL hdn hup hphi => ⟨[(10, (.pointer (some ⟨b10, 0 + 7, none⟩)))], fun S hS hV => (.cons (hV 6 10 _ (hdn 1 6 rfl) rfl rfl) (Sub.nil _)), ?_⟩) ?_
   ·skip
    refine .loadF rfl Try.isAgg3 rfl (l_43.mem _ _ hb13) rfl ?_
    exact .finV rfl rfl (Fz.le_refl _)
   exact .nil
  obtain ⟨l_22, h17⟩ := hphi 5 _ rfl
  refine .norm (S' := [(0, (.pointer p6)), (3, (.pointer (some ⟨b10, 0, none⟩))), (4, (.pointer p6)), (5, (.pointer (some ⟨b10, 0 + 2, none⟩))), (6, (.int .i64 x9.Cask)), (7, (.pointer (some ⟨b10, 0 + 1, none⟩))), (8, (.int .i64 x9.Day)), (9, (.pointer (env14.a 50))), (10, (.pointer (some ⟨b10, 0 + 7, none⟩))), (11, (.int .i64 x9.Where))]) (.cons (k := 0) rfl (.cons (k := 3) rfl (.cons (k := 4) rfl (.cons (k := 5) rfl (.cons (k := 6) rfl (.cons (k := 7) rfl (.cons (k := 8) rfl (.cons (k := 9) rfl (.cons (k := 10) rfl (.cons (k := 11) rfl (.nil _))))))))))) (rfl : _ = [arena Γ.g75 (C75 Γ) (env14.f 50) r_15.2, arena Γ.g69 (C69 Γ) (env14.f 50) A2, arena Γ.g73 (C73 Γ) F0 A3, arena Γ.g67 (C67 Γ) (env14.f 50) A4, R]) ?_
  refine .bind (fun i44 e45 => ?_)
  obtain ⟨b46, hb47, hp48⟩ := h17.at e45
  refine .nilCheckR hp48 rfl rfl ?_
  refine .fieldAddr rfl Try.underlying75 rfl Try.sizeOf3 rfl ?_
  refine .bind (fun x49 e50 => ?_)
  refine .letv (fun x51 e52 => ?_)
  refine .letv (fun A53 e54 => ?_)
  refine .storeR (xs' := A53) (x' := { x49 with place := x9.Where }) (us := [(.int .i64 x9.Where)]) 0 rfl l_22 (Fz.le_refl _) (len75 Γ) Try.sizeOf3 hb47 e50 rfl rfl rfl rfl rfl rfl (fun F' vs le ⟨q0, q1, h, r0⟩ => ⟨q0, q1, by subst h; exact rfl, r0⟩) (by rw [e54, e52] <;> rfl) ?_
  refine .nil ?_
  refine .upR 1 (stays69 Γ) l_22 rfl ?_
  refine .upR 2 (stays73 Γ) (Fz.le_trans l_12 l_21) rfl ?_
  refine .upR 3 (stays67 Γ) l_22 rfl ?_
  exact .endX [0, 0, 0, 0, 0] Try.results50 (.nil) rfl (Fz.le_trans l_12 l_21) rfl
 ·skip
  refine .drawGP 5 0 (fun env55 => [((.pointer p6), fun _ => True), ((.pointer (some ⟨b10, 0 + 2, none⟩)), fun _ => True), ((.int .i64 x9.Cask), fun _ => True), ((.pointer (some ⟨b10, 0 + 1, none⟩)), fun _ => True), ((.int .i64 x9.Day), fun _ => True), (undef, fun _ => True), ((.pointer (some ⟨b10, 0 + 7, none⟩)), fun _ => True), ((.int .i64 x9.Where), fun _ => True), (undef, fun _ => True), (undef, fun _ => True), (undef, fun _ => True)]) (fun L env55 => [arena Γ.g75 (C75 Γ) F0 A1, arena Γ.g69 (C69 Γ) F0 A2, arena Γ.g73 (C73 Γ) F0 A3, arena Γ.g67 (C67 Γ) F0 A4, R]) mixedOK (by kernel_rfl) rfl (fun _ => rfl) (by kernel_rfl) (fun _ => rfl) ?_
  ·skip
   refine .cons (by decide) (fun L env55 F_58 l_59 hL hdn hup hphi => ⟨[(0, (.pointer p6))], fun S hS hV => (.cons (hS _ _ rfl) (Sub.nil _)), ?_⟩) ?_
   ·skip
    refine .move rfl rfl ?_
    exact .finV rfl rfl (Fz.le_refl _)
   refine .cons (by decide) (fun L env55 F_60 l_61 hL hdn hup hphi => ⟨[(3, (.pointer (some ⟨b10, 0, none⟩)))], fun S hS hV => (.cons (hS _ _ rfl) (Sub.nil _)), ?_⟩) ?_
   ·skip
    refine .fieldAddr rfl Try.underlying45 rfl Try.sizeOf3 rfl ?_
    exact .finV rfl rfl (Fz.le_refl _)
   refine .cons (by decide) (fun L env55 F_62 l_63 hL hdn hup hphi => ⟨[(5, (.pointer (some ⟨b10, 0 + 2, none⟩)))], fun S hS hV => (.cons (hV 1 5 _ (hdn 1 1 rfl) rfl rfl) (Sub.nil _)), ?_⟩) ?_
   ·skip
    refine .loadF rfl Try.isAgg3 rfl (l_63.mem _ _ hb13) rfl ?_
    exact .finV rfl rfl (Fz.le_refl _)
   refine .cons (by decide) (fun L env55 F_64 l_65 hL hdn hup hphi => ⟨[(3, (.pointer (some ⟨b10, 0, none⟩)))], fun S hS hV => (.cons (hS _ _ rfl) (Sub.nil _)), ?_⟩) ?_
   ·skip
    refine .fieldAddr rfl Try.underlying45 rfl Try.sizeOf3 rfl ?_
    exact .finV rfl rfl (Fz.le_refl _)
   refine .cons (by decide) (fun L env55 F_66 l_67 hL hdn hup hphi => ⟨[(7, (.pointer (some ⟨b10, 0 + 1, none⟩)))], fun S hS hV => (.cons (hV 3 7 _ (hdn 1 3 rfl) rfl rfl) (Sub.nil _)), ?_⟩) ?_
   ·skip
    refine .loadF rfl Try.isAgg3 rfl (l_67.mem _ _ hb13) rfl ?_
    exact .finV rfl rfl (Fz.le_refl _)
   refine .at_ (fun L env55 F_68 l_69 hL hdn hup hphi => ⟨[(4, (.pointer p6)), (6, (.int .i64 x9.Cask)), (8, (.int .i64 x9.Day))], fun S hS hV => (.cons (hV 0 4 _ (hdn 1 0 rfl) rfl rfl) (.cons (hV 2 6 _ (hdn 1 2 rfl) rfl rfl) (.cons (hV 4 8 _ (hdn 1 4 rfl) rfl rfl) (Sub.nil _)))), ?_⟩) ?_
   ·skip
    refine .norm (Sub.refl _) ((cons_eq rfl (cons_eq rfl (cons_eq rfl (cons_eq rfl (cons_eq rfl rfl))))) : _ = [arena Γ.g75 (C75 Γ) F0 A1, arena Γ.g69 (C69 Γ) F0 A2, arena Γ.g73 (C73 Γ) F0 A3, arena Γ.g67 (C67 Γ) F0 A4, R]) ?_
    refine .upR 0 (stays75 Γ) (Fz.le_trans l_12 l_69) rfl ?_
    refine .upR 1 (stays69 Γ) (Fz.le_trans l_12 l_69) rfl ?_
    refine .upR 3 (stays67 Γ) (Fz.le_trans l_12 l_69) rfl ?_
    exact .callBP e19 [0, 0, 1] rfl Try.call66 rfl rfl rfl rfl (c_cask_book_find _ Γ A1 A2 A4 b5 p6 k7 (h8.mono (Fz.le_trans l_12 l_69)) x9.Cask x9.Day) (fun F_70 l_71 => GL.ppost (pan_postX (i := 1) rfl (Fz.le_trans l_12 (Fz.le_trans l_69 l_71))))
   refine .cons (by decide) (fun L env55 F_72 l_73 hL hdn hup hphi => ⟨[(3, (.pointer (some ⟨b10, 0, none⟩)))], fun S hS hV => (.cons (hS _ _ rfl) (Sub.nil _)), ?_⟩) ?_
   ·skip
    refine .fieldAddr rfl Try.underlying45 rfl Try.sizeOf3 rfl ?_
    exact .finV rfl rfl (Fz.le_refl _)
   refine .cons (by decide) (fun L env55 F_74 l_75 hL hdn hup hphi => ⟨[(10, (.pointer (some ⟨b10, 0 + 7, none⟩)))], fun S hS hV => (.cons (hV 6 10 _ (hdn 1 6 rfl) rfl rfl) (Sub.nil _)), ?_⟩) ?_
   ·skip
    refine .loadF rfl Try.isAgg3 rfl (l_75.mem _ _ hb13) rfl ?_
    exact .finV rfl rfl (Fz.le_refl _)
   refine .dep 1 rfl ?_
   refine .dep 1 rfl ?_
   refine .dep 1 rfl ?_
   exact .nil
end Go.Proofs.Ytkedjmhhcekmiaa
end

section
namespace Go.Proofs.Ytkedjmhhcekmiaa
open Go.Dec Go.Shelf Go.RowKit Go.Maps Go.Sort
noncomputable def b_cask_book_ordered_1_1 {σ : Type} (y : (Option Nat) → σ → Option (σ × Bool)) (A2 : List (List (Int × (Option Nat)))) (x14 : CaskBook) (ks23 : (List Int)) (s30 : Int × σ) : Option (Ctl (Int × σ) ((σ) ⊕ (σ))) :=
 if (decide (s30.1 < (ks23.length : Int))) then ((idxL ks23 s30.1).bind fun x34 => (x14.casks).bind fun i47 => (A2[i47]?).bind fun x52 => (y ((mapGet x52 x34).getD none) s30.2).bind fun p57 => if (!p57.2) then (some (.done (.inr p57.1))) else (some (.next ((w64 (s30.1 + 1)), p57.1)))) else (some (.done (.inl s30.2)))
noncomputable def m_cask_book_ordered_1 {σ : Type} (y : (Option Nat) → σ → Option (σ × Bool)) (A1 : List CaskBook) (A2 : List (List (Int × (Option Nat)))) (c3 : (Option Nat)) (s0 : σ) : Option σ :=
 (c3).bind fun i9 => (A1[i9]?).bind fun x14 => (sortedO A2 x14.casks).bind fun ks23 => (loopM (b_cask_book_ordered_1_1 y A2 x14 ks23) (0, s0)).bind fun b0 => match b0 with | .inl b62 => (some b62) | .inr b62 => (some b62)
set_option maxHeartbeats 4000000 in
theorem c_cask_book_ordered_1 (F0 : Fz) (Γ : Gam) (σ : Type) (ly : Nat) (Y : σ → Fz → HP) (y : (Option Nat) → σ → Option (σ × Bool)) (hy : YieldOK Try.prog ly F0 (fun (x : (Option Nat)) F vs => ∃ (p0 : Option Addr) (_k0 : Unit), vs = [(.pointer p0)] ∧ RepPtr Γ.g75 F p0 x) Y y) (A1 : List CaskBook) (A2 : List (List (Int × (Option Nat)))) (c3 : (Option Nat)) (b4 : Nat) (p6 : Option Addr) (_k7 : Unit) (hb5 : F0.mem b4 = some (.cells [(.pointer p6)].toArray 54)) (h8 : RepPtr Γ.g69 F0 p6 c3) (s0 : σ) : CTH Try.prog 37 [(.func (.yield ly) #[] #[]), (.pointer (some ⟨b4, 0, none⟩))].toArray F0 [arena Γ.g69 (C69 Γ) F0 A1, arena Γ.g67 (C67 Γ) F0 A2, Y s0 F0] (m_cask_book_ordered_1 y A1 A2 c3 s0) (fun _ _ _ => True) (fun s' F' => [arena Γ.g69 (C69 Γ) F' A1, arena Γ.g67 (C67 Γ) F' A2, Y s' F']) := by
 refine CTH.enter Try.func37 rfl Try.ntmps37 rfl fun r R => ?_
 refine .norm (Sub.refl _) (rfl : _ = [arena Γ.g69 (C69 Γ) F0 A1, arena Γ.g67 (C67 Γ) F0 A2, Y s0 F0, R]) ?_
 unfold m_cask_book_ordered_1
 refine .seq ?_
 refine .region ?_
 refine .loadF rfl Try.isAgg54 rfl hb5 rfl ?_
 refine .bind (fun i9 e10 => ?_)
 obtain ⟨b11, hb12, hp13⟩ := h8.at e10
 refine .nilCheckR hp13 rfl rfl ?_
 refine .fieldAddr rfl Try.underlying69 rfl Try.sizeOf67 rfl ?_
 refine .bind (fun x14 e15 => ?_)
 refine .loadR (Φ := fun v => ∃ (p16 : Option Nat) (k17 : Unit), v = (.map p16) ∧ RepRef Γ.g67 F0 p16 x14.casks) 0 rfl (Fz.le_refl _) hb12 e15 rfl Try.isAgg67 rfl (fun vs ⟨q0, q1, h, r0⟩ => ⟨_, by subst h; exact rfl, q0, q1, rfl, r0⟩) (fun v hv => ?_)
 obtain ⟨p16, k17, rfl, h18⟩ := hv
 refine .keysC keysOf38 rfl Try.call38 rfl rfl (fun b19 F_20 l_21 hb22 => ?_)
 refine .sortedX Try.underlying3 sortedKeys60 (c := (Ex (cInt .i64))) (fun _ _ => rfl) (hb22) 1 rfl (h18.mono l_21) rfl Try.call29 rfl rfl (fun ks23 F_24 p25 c26 e27 l_28 h29 => ?_)
 refine .lenS rfl rfl Try.underlying36 rfl ?_
 refine .move rfl rfl ?_
 refine .nil ?_
 refine .code ?_
 refine .block ?_
 refine .keep (.cons (k := 0) rfl (.cons (k := 1) rfl (.cons (k := 10) rfl (.cons (k := 11) rfl (.cons (k := 12) rfl (.nil _)))))) ?_
 refine .yUp 2 hy rfl (Fz.le_refl _) (Fz.le_trans l_21 l_28) ?_
 refine .loop (fun (s30 : Int × σ) a w => ∃ (F_31 : Fz), F_24 ≤ F_31 ∧ Hd 26 [] [(0, (.func (.yield ly) #[] #[])), (1, (.pointer (some ⟨b4, 0, none⟩))), (10, (.slice p25 ks23.length c26)), (11, (.int .i64 (ks23.length : Int))), (12, (.int .i64 s30.1))] F_31 [arena Γ.g69 (C69 Γ) F0 A1, arena Γ.g67 (C67 Γ) F0 A2, Y s30.2 F_31, R] a w) (fun b0 e a w => match b0 with | .inl b62 => e = .exit 0 ∧ ∃ (F_63 : Fz), F_24 ≤ F_63 ∧ Hd 26 [] [] F_63 [arena Γ.g69 (C69 Γ) F0 A1, arena Γ.g67 (C67 Γ) F0 A2, Y b62 F_63, R] a w | .inr b62 => e = .ret ∧ ∃ (F_65 : Fz), F_24 ≤ F_65 ∧ Hd 26 [] [] F_65 [arena Γ.g69 (C69 Γ) F0 A1, arena Γ.g67 (C67 Γ) F0 A2, Y b62 F_65, R] a w) ?_ ?_ ?_
 ·exact fun a w h => ⟨F_24, (Fz.le_refl _), h.1.sub (.cons (k := 0) rfl (.cons (k := 1) rfl (.cons (k := 10) rfl (.cons (k := 11) rfl (.cons (k := 12) rfl (.nil _)))))), h.2⟩
 ·intro s30 ctl
  refine GC.ex (fun a w ⟨F_31, l_32, hA⟩ => ⟨_, hA, ?_⟩)
  unfold b_cask_book_ordered_1_1
  refine .seq ?_
  refine .region ?_
  refine .lss rfl rfl rfl ?_
  refine .nil ?_
  refine .code ?_
  refine .seq ?_
  refine .cond rfl (fun hb33 => ?_) (fun hb33 => ?_)
  ·skip
   refine .skip ?_
   refine .code ?_
   refine .seq ?_
   refine .block ?_
   refine .seq ?_
   refine .region ?_
   refine .idx rfl Try.underlying36 Try.sizeOf3 (h29.mono l_32) rfl rfl (fun x34 b35 o36 T37 fr38 cs39 e40 hm41 hv42 => ?_)
   refine .loadF rfl Try.isAgg3 rfl hm41 (cell_of_take (k := 0) hv42 rfl) ?_
   refine .assign rfl rfl ?_
   refine .nil ?_
   refine .code ?_
   refine .seq ?_
   refine .region ?_
   refine .move rfl rfl ?_
   refine .loadF rfl Try.isAgg54 rfl ((Fz.le_trans l_21 (Fz.le_trans l_28 l_32)).mem _ _ hb5) rfl ?_
   refine .nilCheckR hp13 rfl rfl ?_
   refine .fieldAddr rfl Try.underlying69 rfl Try.sizeOf67 rfl ?_
   refine .loadR (Φ := fun v => ∃ (p44 : Option Nat) (k45 : Unit), v = (.map p44) ∧ RepRef Γ.g67 F_31 p44 x14.casks) 0 rfl (Fz.le_trans l_21 (Fz.le_trans l_28 l_32)) (hb12.mono (Fz.le_trans l_21 (Fz.le_trans l_28 l_32))) e15 rfl Try.isAgg67 rfl (fun vs ⟨q0, q1, h, r0⟩ => ⟨_, by subst h; exact rfl, q0, q1, rfl, r0⟩) (fun v hv => ?_)
   obtain ⟨p44, k45, rfl, h46⟩ := hv
   refine .move rfl rfl ?_
   refine .bind (fun i47 e48 => ?_)
   obtain ⟨b49, hb50, hp51⟩ := h46.at e48
   refine .bind (fun x52 e53 => ?_)
   refine .lookupR (key := x34) (z := none) 1 rfl (Fz.le_trans l_21 (Fz.le_trans l_28 l_32)) hb50 hp51 e53 rfl Try.underlying67 (.int Try.underlying3) Try.zeroValue60 ⟨none, (), rfl, RepPtr.nil⟩ rfl rfl ?_
   intro v hv
   obtain ⟨p54, k55, rfl, h56⟩ := hv
   refine .callY rfl hy rfl rfl ⟨p54, k55, rfl, h56⟩ (i := 2) rfl (Fz.le_trans l_21 (Fz.le_trans l_28 l_32)) (Fz.le_refl _) (fun p57 F_58 e60 l_59 => ?_)
   refine .not rfl rfl ?_
   refine .nil ?_
   refine .code ?_
   refine .cond rfl (fun hb61 => ?_) (fun hb61 => ?_)
   ·skip
    refine .retQ (LPost.ret fun a w h => ⟨rfl, F_58, (Fz.le_trans l_32 l_59), h.1.sub (.nil _), h.2⟩)
   ·skip
    refine .skip ?_
    refine .block ?_
    refine .code ?_
    refine .region ?_
    refine .add rfl rfl rfl ?_
    refine .move rfl rfl ?_
    refine .nil ?_
    exact .nil (LPost.norm fun a w h => ⟨F_58, (Fz.le_trans l_32 l_59), h.1.sub (.cons (k := 0) rfl (.cons (k := 1) rfl (.cons (k := 10) rfl (.cons (k := 11) rfl (.cons (k := 12) rfl (.nil _)))))), h.2⟩)
  ·skip
   refine .exitOut rfl (LPost.exit fun a w h => ⟨rfl, F_31, l_32, h.1.sub (.nil _), h.2⟩)
 ·intro b62 hb0 hk e a w hD
  rcases b62 with b62 | b62
  ·skip
   obtain ⟨rfl, F_63, l_64, hA⟩ := hD
   refine interp_exit rfl (GE.app ?_ hk a w hA)
   refine .upR 0 (stays69 Γ) (Fz.le_trans l_21 (Fz.le_trans l_28 l_64)) rfl ?_
   refine .upR 1 (stays67 Γ) (Fz.le_trans l_21 (Fz.le_trans l_28 l_64)) rfl ?_
   exact .endH [0, 0, 0, 0] Try.results37 .nil rfl (Fz.le_trans l_21 (Fz.le_trans l_28 l_64)) trivial
  obtain ⟨rfl, F_65, l_66, hA⟩ := hD
  exact interp_ret ((fun e a w h => ret_postH [0, 0, 0, 0] Try.results37 .nil rfl (Fz.le_trans l_21 (Fz.le_trans l_28 l_66)) trivial e a w (Hd.upR 1 (stays67 Γ) (Fz.le_trans l_21 (Fz.le_trans l_28 l_66)) rfl (Hd.upR 0 (stays69 Γ) (Fz.le_trans l_21 (Fz.le_trans l_28 l_66)) rfl h))) hk a w hA)
noncomputable def L_cask_book_ordered_1 (A1 : List CaskBook) (A2 : List (List (Int × Option Nat))) (c : Option Nat) : Option (List (Option Nat)) :=
 c.bind fun i => (A1[i]?).bind fun b => (b.casks).bind fun j => (A2[j]?).bind fun l => (keysS l).bind fun ks => some (ks.map fun k => (mapGet l k).getD none)
theorem ordered_aux {σ : Type} {y : Option Nat → σ → Option (σ × Bool)} {A2 : List (List (Int × Option Nat))} {x : CaskBook} {j : Nat} {l : List (Int × Option Nat)} {ks : List Int} (hj : x.casks = some j) (hl : A2[j]? = some l) (hn : ks.length ≤ 1000000) : ∀ (d k : Nat) (s r : σ), k + d = ks.length → foldY y ((ks.drop k).map fun k => (mapGet l k).getD none) s = some r →
  loopM (b_cask_book_ordered_1_1 y A2 x ks) ((k : Int), s) = some (.inl r) ∨ loopM (b_cask_book_ordered_1_1 y A2 x ks) ((k : Int), s) = some (.inr r)
 | 0, k, s, r, hk, h => by
  rw [List.drop_eq_nil_of_le (by omega)] at h
  simp only [List.map_nil, foldY, Option.some.injEq] at h
  subst h
  left
  rw [loopM_eq]
  have : ¬ k < ks.length := by omega
  simp [b_cask_book_ordered_1_1, this]
 | d + 1, k, s, r, hk, h => by
  have hkl : k < ks.length := by omega
  have hw : w64 ((k : Int) + 1) = ((k + 1 : Nat) : Int) := by rw [w64_id (by omega) (by omega)]; rfl
  rw [List.drop_eq_getElem_cons hkl] at h
  have hi : idxL ks (k : Int) = some ks[k] := by simp [idxL, hkl]
  simp only [List.map_cons, foldY] at h
  rw [loopM_eq]
  cases hy : y ((mapGet l ks[k]).getD none) s with
  | none => rw [hy] at h; cases h
  | some p =>
   rw [hy] at h
   simp only [Option.bind_some] at h
   by_cases hp : p.2 = true
   ·rw [if_pos hp] at h
    have := ordered_aux hj hl hn d (k + 1) p.1 r (by omega) h
    simpa [b_cask_book_ordered_1_1, hkl, hi, hj, hl, hy, hp, hw] using this
   ·rw [if_neg hp] at h
    simp only [Option.some.injEq] at h
    right
    simp [b_cask_book_ordered_1_1, hkl, hi, hj, hl, hy, hp, h]
theorem it_cask_book_ordered_1 {σ : Type} {y : Option Nat → σ → Option (σ × Bool)} {A1 : List CaskBook} {A2 : List (List (Int × Option Nat))} {c : Option Nat} {l : List (Option Nat)} {s r : σ} (hl : L_cask_book_ordered_1 A1 A2 c = some l) (hr : foldY y l s = some r) : m_cask_book_ordered_1 y A1 A2 c s = some r := by
 simp only [L_cask_book_ordered_1, Option.bind_eq_some_iff] at hl
 obtain ⟨i, hi, b, hb, j, hj, m, hm, ks, hks, hl⟩ := hl
 simp only [Option.some.injEq] at hl
 subst hl
 have hn : ks.length ≤ 1000000 := by
  unfold keysS at hks
  split at hks
  ·rename_i h
   simp only [Option.some.injEq] at hks
   rw [← hks]; simpa using h.2
  ·cases hks
 have hs : sortedO A2 b.casks = some ks := by simp [sortedO, hj, hm, hks]
 unfold m_cask_book_ordered_1
 rw [hi, Option.bind_some, hb, Option.bind_some, hs, Option.bind_some]
 rcases ordered_aux (y := y) hj hm hn ks.length 0 s r (by omega) (by simpa using hr) with e | e
 ·have e' : loopM (b_cask_book_ordered_1_1 y A2 b ks) (0, s) = some (.inl r) := e
  rw [e']; rfl
 ·have e' : loopM (b_cask_book_ordered_1_1 y A2 b ks) (0, s) = some (.inr r) := e
  rw [e']; rfl
end Go.Proofs.Ytkedjmhhcekmiaa
end
