/- Printed by gen.py: plain models of the program's functions, and that the code does what they say. -/
import Derived.Test.YtbomfcghpajaiaaR0
import Derived.Test.YtbomfcghpajaiaaR2
namespace Go.Proofs.Ytbomfcghpajaiaa
open Go.Dec

noncomputable def b_wormtublaw12_BottleLess_1 (b1 : ApiBatch) (s166 : Int × ApiBatch) : Option (Ctl (Int × ApiBatch) ((ApiBatch))) :=
  if (decide (s166.1 ≥ 0)) then ((idxL b1.Draughts s166.1).bind fun x174 => (appO s166.2.Draughts ([x174])).bind fun l_190 => bindv ({ s166.2 with Draughts := l_190 }) fun x225 => bindv (w64 (s166.1 - 1)) fun i227 => some (.next (i227, x225))) else (some (.done s166.2))
noncomputable def b_wormtublaw12_BottleLess_3 (r_29 : ((List Int) × Int)) (r_285 : ((List Int) × Int)) (s290 : Int) (s344 : Bool × Int) : Option (Ctl (Bool × Int) ((Bool))) :=
  if (decide (s344.2 < (r_29.1.length : Int))) then ((if s344.1 then (some true) else ((idxL r_29.1 s344.2).bind fun x376 => (idxL r_285.1 s290).bind fun x386 => bindv (x376 == x386) fun found423 => some found423) : Option (Bool)).bind fun j425 => bindv (w64 (s344.2 + 1)) fun m_428 => some (.next (j425, m_428))) else (some (.done s344.1))
noncomputable def b_wormtublaw12_BottleLess_2 (l_5 : (List ApiClaim)) (r_29 : ((List Int) × Int)) (r_285 : ((List Int) × Int)) (s290 : Int) : Option (Ctl (Int) ((Unit) ⊕ (Bool))) :=
  if (decide (s290 < (r_285.1.length : Int))) then ((idxL r_285.1 s290).bind fun x294 => (if (decide (x294 < 0)) then some true else ((idxL r_285.1 s290).bind fun x305 => some (decide (x305 ≥ (l_5.length : Int))))).bind fun z318 => if z318 then (some (.done (.inr false))) else ((idxL r_285.1 s290).bind fun x321 => (idxL l_5 x321).bind fun x331 => if (decide (x331.Kind > 2)) then (bindv (w64 (s290 + 1)) fun j342 => some (.next j342)) else ((loopM (b_wormtublaw12_BottleLess_3 r_29 r_285 s290) (false, 0)).bind fun b430 => if (!b430) then (some (.done (.inr false))) else (bindv (w64 (s290 + 1)) fun j434 => some (.next j434))))) else (some (.done (.inl ())))
noncomputable def m_wormtublaw12_BottleLess (b1 : ApiBatch) (l_5 : (List ApiClaim)) (which9 : Int) (more10 : Int) : Option Bool :=
  if ((decide ((b1.Draughts.length : Int) > 16)) || (decide ((l_5.length : Int) > 20))) then ((m_wormtublaw12_awake).bind fun r_22 => some r_22) else ((m_bottle_Blend b1).bind fun r_25 => (m_bottle_False b1 l_5).bind fun r_29 => if ((r_25.2 != 0) || (r_29.2 != 0)) then ((if ((r_25.2 == 0) || (r_29.2 != 0)) then ((m_wormtublaw12_awake).bind fun r_45 => some r_45) else some false).bind fun z49 => some z49) else (bindv (b1.Draughts.length : Int) fun n_51 => if (n_51 == 0) then (some false) else ((remK (w64 (which9)) n_51).bind fun q54 => (sliceL b1.Draughts 0 q54).bind fun l_80 => (appO ([]) l_80).bind fun l_87 => (sliceL b1.Draughts (w64 (q54 + 1)) b1.Draughts.length).bind fun l_92 => (appO l_87 l_92).bind fun l_99 => bindv ({ b1 with Draughts := l_99 }) fun x155 => bindv ({ b1 with Water := (imin 17179869184 (w64 (b1.Water + (w64 (more10))))) }) fun x158 => bindv ({ b1 with Draughts := [] }) fun x162 => bindv (w64 (n_51 - 1)) fun i164 => (loopM (b_wormtublaw12_BottleLess_1 b1) (i164, x162)).bind fun b229 => (m_bottle_Blend x158).bind fun r_237 => (m_bottle_Blend b229).bind fun r_244 => if (((((((((r_237.2 != 0) || (r_244.2 != 0)) || (!(eq_56 r_244.1 r_25.1))) || (decide (r_237.1.Strength.Lo > r_25.1.Strength.Lo))) || (decide (r_237.1.Strength.Hi > r_25.1.Strength.Hi))) || (decide (r_237.1.Volume.Lo < r_25.1.Volume.Lo))) || (r_237.1.Age != r_25.1.Age)) || (!(eq_47 r_237.1.Woods r_25.1.Woods))) || (!(eq_47 r_237.1.Places r_25.1.Places))) then (some false) else (if (n_51 == 1) then ((m_wormtublaw12_awake).bind fun r_282 => some r_282) else ((m_bottle_False x155 l_5).bind fun r_285 => if (r_285.2 != 0) then (some false) else ((loopM (b_wormtublaw12_BottleLess_2 l_5 r_29 r_285) 0).bind fun b0 => match b0 with | .inl _b436 => ((m_wormtublaw12_awake).bind fun r_443 => some r_443) | .inr b436 => (some b436)))))))
theorem c_wormtublaw12_BottleLess (F0 : Fz) (b1 : ApiBatch) (p2 : Option Addr) (k3 : Nat) (h4 : RepSl 27 (Ex cApiDraught) F0 p2 k3 b1.Draughts) (l_5 : (List ApiClaim)) (p6 : Option Addr) (k7 : Nat) (h8 : RepSl 3 (Ex cApiClaim) F0 p6 k7 l_5) (which9 : Int) (more10 : Int) : CT0 Try.prog 7 [(eApiBatch b1 p2 k3), (.slice p6 l_5.length k7), (.int .u8 which9), (.int .u32 more10)].toArray F0 (m_wormtublaw12_BottleLess b1 l_5 which9 more10) (fun r _ v => v = (.bool r)) := by
  refine CT0.enter Try.func7 rfl Try.ntmps7 rfl fun r R => ?_
  unfold m_wormtublaw12_BottleLess
  refine .seq ?_
  refine .region ?_
  refine .boxF (cs := (cApiBatch b1 p2 k3)) rfl rfl rfl (fun b11 F_12 l_13 hb14 => ?_)
  refine .assign rfl rfl ?_
  refine .nil ?_
  refine .code ?_
  refine .seq ?_
  refine .seq ?_
  refine .region ?_
  refine .fieldAddr rfl Try.underlying38 rfl Try.sizeOf34 rfl ?_
  refine .loadF rfl Try.isAgg34 rfl hb14 rfl ?_
  refine .lenS rfl rfl Try.underlying34 rfl ?_
  refine .gtr rfl rfl rfl ?_
  refine .move rfl rfl ?_
  refine .orP (b := (decide ((b1.Draughts.length : Int) > 16))) (b' := (decide ((l_5.length : Int) > 20))) 4 36 (fun hb15 => ?_) (fun hb16 => ?_) (fun F_17 l_18 => ?_)
  · skip
    refine .onH hb15 rfl rfl ?_
    refine .move rfl rfl ?_
    refine .onH hb15 rfl rfl ?_
    refine .lenS rfl rfl Try.underlying39 rfl ?_
    refine .onH hb15 rfl rfl ?_
    refine .gtr rfl rfl rfl ?_
    refine .pickFH hb15 rfl rfl rfl ?_
    exact .fin 4 rfl rfl (by kernel_rfl) (Fz.le_refl _)
  · skip
    refine .offH hb16 rfl rfl rfl ?_
    refine .offH hb16 rfl rfl rfl ?_
    refine .offH hb16 rfl rfl rfl ?_
    refine .pickTH hb16 rfl rfl rfl ?_
    exact .fin 4 rfl rfl (by kernel_rfl) (Fz.le_refl _)
  refine .nil ?_
  refine .code ?_
  refine .cond rfl (fun hb19 => ?_) (fun hb19 => ?_)
  · skip
    refine .seq ?_
    refine .region ?_
    refine .call0 rfl Try.call11 rfl rfl rfl (c_wormtublaw12_awake _ ) ?_
    rintro r_22 F_20 _ - l_21 rfl
    refine .assign rfl rfl ?_
    refine .nil ?_
    refine .code ?_
    exact .ret0 Try.results7 (.tmp rfl (.nil)) (i := 0) rfl (Fz.le_trans l_13 (Fz.le_trans l_18 l_21)) rfl
  · skip
    refine .skip ?_
    refine .code ?_
    refine .seq ?_
    refine .region ?_
    refine .loadFA rfl Try.isAgg38 Try.sizeOf38 rfl (l_18.mem _ _ hb14) (vs := (cApiBatch b1 p2 k3)) (by kernel_rfl) rfl ?_
    refine .call0 rfl Try.call20 rfl rfl rfl (c_bottle_Blend _ b1 p2 k3 (h4.mono (Fz.le_trans l_13 l_18))) ?_
    rintro r_25 F_23 _ - l_24 rfl
    refine .move rfl rfl ?_
    refine .extract rfl rfl rfl ?_
    refine .extract rfl rfl rfl ?_
    refine .alloc (cs := (cApiBottling (ApiBottling.mk (ApiSpan.mk 0 0) (ApiSpan.mk 0 0) 0 (fun _ => 0) (fun _ => 0) 0))) rfl Try.zeroValue56 rfl (fun b26 => ?_)
    refine .store (cs' := (cApiBottling r_25.1)) Try.sizeOf56 rfl rfl rfl rfl (i := 0) rfl (Nat.le_of_ble_eq_true rfl) rfl (setMany_all (by rfl)) ?_
    refine .assign rfl rfl ?_
    refine .nil ?_
    refine .code ?_
    refine .seq ?_
    refine .region ?_
    refine .loadFA rfl Try.isAgg38 Try.sizeOf38 rfl ((Fz.le_trans l_18 l_24).mem _ _ hb14) (vs := (cApiBatch b1 p2 k3)) (by kernel_rfl) rfl ?_
    refine .move rfl rfl ?_
    refine .call0 rfl Try.call17 rfl rfl rfl (c_bottle_False _ b1 p2 k3 (h4.mono (Fz.le_trans l_13 (Fz.le_trans l_18 l_24))) l_5 p6 k7 (h8.mono (Fz.le_trans l_13 (Fz.le_trans l_18 l_24)))) ?_
    rintro r_29 F_27 _ - l_28 ⟨p30, k31, rfl, h32⟩
    refine .move rfl rfl ?_
    refine .extract rfl rfl rfl ?_
    refine .extract rfl rfl rfl ?_
    refine .assign rfl rfl ?_
    refine .assign rfl rfl ?_
    refine .nil ?_
    refine .keep (.cons (k := 1) rfl (.cons (k := 2) rfl (.cons (k := 3) rfl (.cons (k := 4) rfl (.cons (k := 9) rfl (.cons (k := 10) rfl (.cons (k := 11) rfl (.cons (k := 12) rfl (.nil _))))))))) ?_
    refine .code ?_
    refine .seq ?_
    refine .seq ?_
    refine .region ?_
    refine .move rfl rfl ?_
    refine .neq rfl rfl rfl ?_
    refine .move rfl rfl ?_
    refine .orP (b := (r_25.2 != 0)) (b' := (r_29.2 != 0)) 3 54 (fun hb33 => ?_) (fun hb34 => ?_) (fun F_35 l_36 => ?_)
    · skip
      refine .onH hb33 rfl rfl ?_
      refine .move rfl rfl ?_
      refine .onH hb33 rfl rfl ?_
      refine .neq rfl rfl rfl ?_
      refine .pickFH hb33 rfl rfl rfl ?_
      exact .fin 3 rfl rfl (by kernel_rfl) (Fz.le_refl _)
    · skip
      refine .offH hb34 rfl rfl rfl ?_
      refine .offH hb34 rfl rfl rfl ?_
      refine .pickTH hb34 rfl rfl rfl ?_
      exact .fin 3 rfl rfl (by kernel_rfl) (Fz.le_refl _)
    refine .nil ?_
    refine .code ?_
    refine .cond rfl (fun hb37 => ?_) (fun hb37 => ?_)
    · skip
      refine .seq ?_
      refine .region ?_
      refine .move rfl rfl ?_
      refine .eql rfl rfl rfl ?_
      refine .move rfl rfl ?_
      refine .orP (b := (r_25.2 == 0)) (b' := (r_29.2 != 0)) 3 60 (fun hb38 => ?_) (fun hb39 => ?_) (fun F_40 l_41 => ?_)
      · skip
        refine .onH hb38 rfl rfl ?_
        refine .move rfl rfl ?_
        refine .onH hb38 rfl rfl ?_
        refine .neq rfl rfl rfl ?_
        refine .pickFH hb38 rfl rfl rfl ?_
        exact .fin 3 rfl rfl (by kernel_rfl) (Fz.le_refl _)
      · skip
        refine .offH hb39 rfl rfl rfl ?_
        refine .offH hb39 rfl rfl rfl ?_
        refine .pickTH hb39 rfl rfl rfl ?_
        exact .fin 3 rfl rfl (by kernel_rfl) (Fz.le_refl _)
      refine .move rfl rfl ?_
      refine .andM (b := ((r_25.2 == 0) || (r_29.2 != 0))) 2 63 (fun hb42 z50 => ?_) (fun hb46 => ?_) (fun z49 F_47 l_48 => ?_)
      · skip
        refine .onH hb42 rfl rfl ?_
        refine .call0 rfl Try.call11 rfl rfl rfl (c_wormtublaw12_awake _ ) ?_
        rintro r_45 F_43 _ - l_44 rfl
        refine .pickTH hb42 rfl rfl rfl ?_
        exact .finZ 2 rfl rfl (by kernel_rfl) l_44
      · skip
        refine .offH hb46 rfl rfl rfl ?_
        refine .pickFH hb46 rfl rfl rfl ?_
        exact .fin 2 rfl rfl (by kernel_rfl) (Fz.le_refl _)
      refine .assign rfl rfl ?_
      refine .nil ?_
      refine .code ?_
      exact .ret0 Try.results7 (.tmp rfl (.nil)) (i := 1) rfl (Fz.le_trans l_13 (Fz.le_trans l_18 (Fz.le_trans l_24 (Fz.le_trans l_28 (Fz.le_trans l_36 (Fz.le_trans l_41 l_48)))))) rfl
    · skip
      refine .skip ?_
      refine .code ?_
      refine .seq ?_
      refine .region ?_
      refine .fieldAddr rfl Try.underlying38 rfl Try.sizeOf34 rfl ?_
      refine .loadF rfl Try.isAgg34 rfl ((Fz.le_trans l_18 (Fz.le_trans l_24 (Fz.le_trans l_28 l_36))).mem _ _ hb14) rfl ?_
      refine .lenS rfl rfl Try.underlying34 rfl ?_
      refine .assignL rfl rfl (fun n_51 e52 => ?_)
      refine .nil ?_
      refine .code ?_
      refine .seq ?_
      refine .seq ?_
      refine .region ?_
      refine .move rfl rfl ?_
      refine .eql rfl rfl rfl ?_
      refine .nil ?_
      refine .code ?_
      refine .cond rfl (fun hb53 => ?_) (fun hb53 => ?_)
      · skip
        refine .seq ?_
        refine .region ?_
        refine .assign rfl rfl ?_
        refine .nil ?_
        refine .code ?_
        exact .ret0 Try.results7 (.tmp rfl (.nil)) (i := 1) rfl (Fz.le_trans l_13 (Fz.le_trans l_18 (Fz.le_trans l_24 (Fz.le_trans l_28 l_36)))) rfl
      · skip
        refine .skip ?_
        refine .code ?_
        refine .seq ?_
        refine .region ?_
        refine .move rfl rfl ?_
        refine .convI rfl Try.underlying5 Try.underlying3 rfl ?_
        refine .move rfl rfl ?_
        refine .rem rfl rfl rfl (fun q54 e55 => ?_)
        refine .assign rfl rfl ?_
        refine .nil ?_
        refine .code ?_
        refine .seq ?_
        refine .keep (.cons (k := 1) rfl (.cons (k := 3) rfl (.cons (k := 4) rfl (.cons (k := 9) rfl (.cons (k := 11) rfl (.cons (k := 13) rfl (.cons (k := 14) rfl (.nil _)))))))) ?_
        refine .drawG 8 3 (fun env56 => [((eApiBatch b1 p2 k3), fun _ => True), ((eApiBatch b1 p2 k3), fun _ => True), ((eApiBatch b1 p2 k3), fun _ => True), ((.pointer (some ⟨(env56.n 30), 0, none⟩)), fun _ => True), ((.pointer (some ⟨(env56.n 40), 0, none⟩)), fun _ => True), ((.pointer (some ⟨(env56.n 50), 0, none⟩)), fun _ => True), (undef, fun _ => True), (undef, fun _ => True)]) (fun L env56 => [pt b26 (.cells (cApiBottling r_25.1).toArray 56), R, (bif L 6 then (pt (env56.n 30) (.cells (cApiBatch b1 p2 k3).toArray 38)) else (bif L 3 then (pt (env56.n 30) (.cells (cApiBatch (ApiBatch.mk ([]) 0 (ApiSpan.mk 0 0) false false) none 0).toArray 38)) else emp)), (bif L 7 then (pt (env56.n 40) (.cells (cApiBatch b1 p2 k3).toArray 38)) else (bif L 4 then (pt (env56.n 40) (.cells (cApiBatch (ApiBatch.mk ([]) 0 (ApiSpan.mk 0 0) false false) none 0).toArray 38)) else emp)), (bif L 5 then (pt (env56.n 50) (.cells (cApiBatch (ApiBatch.mk ([]) 0 (ApiSpan.mk 0 0) false false) none 0).toArray 38)) else emp)]) mixedOK (by kernel_rfl) (by kernel_rfl) rfl (fun _ => rfl) (by kernel_rfl) (fun _ => rfl) ?_ (fun env56 F_57 l_58 hphi => ?_)
        · skip
          refine .cons (fun L env56 F_59 l_60 hL hdn hup hphi => ⟨[(4, (.pointer (some ⟨b11, 0, none⟩)))], fun S hS hV => (.cons (hS _ _ rfl) (Sub.nil _)), ?_⟩) ?_
          · skip
            refine .loadFA rfl Try.isAgg38 Try.sizeOf38 rfl ((Fz.le_trans l_18 (Fz.le_trans l_24 (Fz.le_trans l_28 (Fz.le_trans l_36 l_60)))).mem _ _ hb14) (vs := (cApiBatch b1 p2 k3)) (by kernel_rfl) rfl ?_
            exact .finV rfl rfl (Fz.le_refl _)
          refine .cons (fun L env56 F_61 l_62 hL hdn hup hphi => ⟨[(4, (.pointer (some ⟨b11, 0, none⟩)))], fun S hS hV => (.cons (hS _ _ rfl) (Sub.nil _)), ?_⟩) ?_
          · skip
            refine .loadFA rfl Try.isAgg38 Try.sizeOf38 rfl ((Fz.le_trans l_18 (Fz.le_trans l_24 (Fz.le_trans l_28 (Fz.le_trans l_36 l_62)))).mem _ _ hb14) (vs := (cApiBatch b1 p2 k3)) (by kernel_rfl) rfl ?_
            exact .finV rfl rfl (Fz.le_refl _)
          refine .cons (fun L env56 F_63 l_64 hL hdn hup hphi => ⟨[(4, (.pointer (some ⟨b11, 0, none⟩)))], fun S hS hV => (.cons (hS _ _ rfl) (Sub.nil _)), ?_⟩) ?_
          · skip
            refine .loadFA rfl Try.isAgg38 Try.sizeOf38 rfl ((Fz.le_trans l_18 (Fz.le_trans l_24 (Fz.le_trans l_28 (Fz.le_trans l_36 l_64)))).mem _ _ hb14) (vs := (cApiBatch b1 p2 k3)) (by kernel_rfl) rfl ?_
            exact .finV rfl rfl (Fz.le_refl _)
          refine .cons (fun L env56 F_65 l_66 hL hdn hup hphi => ⟨[], fun S hS hV => (Sub.nil _), ?_⟩) ?_
          · skip
            refine .alloc (cs := (cApiBatch (ApiBatch.mk ([]) 0 (ApiSpan.mk 0 0) false false) none 0)) rfl Try.zeroValue38 rfl (fun b67 => ?_)
            exact .finG ({ env56 with n := updN env56.n 30 b67 }) [true, true, true, false, true, true, false, false] rfl (by kernel_rfl) rfl rfl (Fz.le_refl _) (fun _ _ => trivial) (fun _ h => SH.placeC 2 (congrArg some ((condF (hup 1 6 rfl)).trans (condF hL))) ((condF (b := updB L 3 6) (hup 1 6 rfl)).trans (condT rfl)) h)
          refine .cons (fun L env56 F_68 l_69 hL hdn hup hphi => ⟨[], fun S hS hV => (Sub.nil _), ?_⟩) ?_
          · skip
            refine .alloc (cs := (cApiBatch (ApiBatch.mk ([]) 0 (ApiSpan.mk 0 0) false false) none 0)) rfl Try.zeroValue38 rfl (fun b70 => ?_)
            exact .finG ({ env56 with n := updN env56.n 40 b70 }) [true, true, true, true, false, true, false, false] rfl (by kernel_rfl) rfl rfl (Fz.le_refl _) (fun _ _ => trivial) (fun _ h => SH.placeC 3 (congrArg some ((condF (hup 1 7 rfl)).trans (condF hL))) ((condF (b := updB L 4 7) (hup 1 7 rfl)).trans (condT rfl)) h)
          refine .cons (fun L env56 F_71 l_72 hL hdn hup hphi => ⟨[], fun S hS hV => (Sub.nil _), ?_⟩) ?_
          · skip
            refine .alloc (cs := (cApiBatch (ApiBatch.mk ([]) 0 (ApiSpan.mk 0 0) false false) none 0)) rfl Try.zeroValue38 rfl (fun b73 => ?_)
            exact .finG ({ env56 with n := updN env56.n 50 b73 }) [true, true, true, true, true, false, false, false] rfl (by kernel_rfl) rfl rfl (Fz.le_refl _) (fun _ _ => trivial) (fun _ h => SH.placeC 4 (congrArg some (condF hL)) (condT rfl) h)
          refine .cons (fun L env56 F_74 l_75 hL hdn hup hphi => ⟨[(15, (.pointer (some ⟨(env56.n 30), 0, none⟩))), (73, (eApiBatch b1 p2 k3))], fun S hS hV => (.cons (hV 3 15 _ (hdn 1 3 rfl) rfl rfl) (.cons (hV 0 73 _ (hdn 1 0 rfl) rfl rfl) (Sub.nil _))), ?_⟩) ?_
          · skip
            refine .store (cs' := (cApiBatch b1 p2 k3)) Try.sizeOf38 rfl rfl rfl rfl (i := 2) (congrArg some ((condF hL).trans (condT (hdn 1 3 rfl)))) (Nat.le_of_ble_eq_true rfl) rfl (setMany_all (by rfl)) ?_
            exact .finS rfl (Fz.le_refl _) (setC 2 (condT rfl))
          refine .cons (fun L env56 F_76 l_77 hL hdn hup hphi => ⟨[(16, (.pointer (some ⟨(env56.n 40), 0, none⟩))), (74, (eApiBatch b1 p2 k3))], fun S hS hV => (.cons (hV 4 16 _ (hdn 1 4 rfl) rfl rfl) (.cons (hV 1 74 _ (hdn 1 1 rfl) rfl rfl) (Sub.nil _))), ?_⟩) ?_
          · skip
            refine .store (cs' := (cApiBatch b1 p2 k3)) Try.sizeOf38 rfl rfl rfl rfl (i := 3) (congrArg some ((condF hL).trans (condT (hdn 1 4 rfl)))) (Nat.le_of_ble_eq_true rfl) rfl (setMany_all (by rfl)) ?_
            exact .finS rfl (Fz.le_refl _) (setC 3 (condT rfl))
          exact .nil
        refine .norm (S' := [(1, (.slice p6 l_5.length k7)), (3, (.int .u32 more10)), (4, (.pointer (some ⟨b11, 0, none⟩))), (9, (.pointer (some ⟨b26, 0, none⟩))), (11, (.slice p30 r_29.1.length k31)), (13, (.int .i64 n_51)), (14, (.int .i64 q54)), (15, (.pointer (some ⟨(env56.n 30), 0, none⟩))), (16, (.pointer (some ⟨(env56.n 40), 0, none⟩))), (17, (.pointer (some ⟨(env56.n 50), 0, none⟩))), (73, (eApiBatch b1 p2 k3)), (74, (eApiBatch b1 p2 k3)), (75, (eApiBatch b1 p2 k3))]) (.cons (k := 1) rfl (.cons (k := 3) rfl (.cons (k := 4) rfl (.cons (k := 9) rfl (.cons (k := 11) rfl (.cons (k := 13) rfl (.cons (k := 14) rfl (.cons (k := 15) rfl (.cons (k := 16) rfl (.cons (k := 17) rfl (.cons (k := 73) rfl (.cons (k := 74) rfl (.cons (k := 75) rfl (.nil _)))))))))))))) (rfl : _ = [pt b26 (.cells (cApiBottling r_25.1).toArray 56), R, pt (env56.n 30) (.cells (cApiBatch b1 p2 k3).toArray 38), pt (env56.n 40) (.cells (cApiBatch b1 p2 k3).toArray 38), pt (env56.n 50) (.cells (cApiBatch (ApiBatch.mk ([]) 0 (ApiSpan.mk 0 0) false false) none 0).toArray 38)]) ?_
        refine .store (cs' := (cApiBatch b1 p2 k3)) Try.sizeOf38 rfl rfl rfl rfl (i := 4) rfl (Nat.le_of_ble_eq_true rfl) rfl (setMany_all (by rfl)) ?_
        refine .nil ?_
        refine .code ?_
        refine .seq ?_
        refine .keep (.cons (k := 1) rfl (.cons (k := 3) rfl (.cons (k := 4) rfl (.cons (k := 9) rfl (.cons (k := 11) rfl (.cons (k := 13) rfl (.cons (k := 14) rfl (.cons (k := 15) rfl (.cons (k := 16) rfl (.cons (k := 17) rfl (.nil _))))))))))) ?_
        refine .bind (fun l_80 hx86 => ?_)
        refine .bind (fun l_87 hx91 => ?_)
        refine .bind (fun l_92 hx98 => ?_)
        refine .bind (fun l_99 hx103 => ?_)
        refine .drawG 12 1 (fun env78 => [((.slice (some ⟨env78.n 0, 0, none⟩) 0 0), fun G => env78.f 0 ≤ G), ((.pointer (some ⟨b11, 0 + 0, none⟩)), fun _ => True), ((.slice p2 b1.Draughts.length k3), fun _ => True), ((.int .i64 q54), fun _ => True), ((.slice (env78.a 40) l_80.length (env78.n 40)), fun G => RepSl 27 (Ex cApiDraught) G (env78.a 40) (env78.n 40) l_80), ((.slice (env78.a 50) l_87.length (env78.n 50)), fun G => env78.f 50 ≤ G), ((.pointer (some ⟨b11, 0 + 0, none⟩)), fun _ => True), ((.slice p2 b1.Draughts.length k3), fun _ => True), ((.int .i64 q54), fun _ => True), ((.int .i64 (w64 (q54 + 1))), fun _ => True), ((.slice (env78.a 100) l_92.length (env78.n 100)), fun G => RepSl 27 (Ex cApiDraught) G (env78.a 100) (env78.n 100) l_92), ((.slice (env78.a 110) l_99.length (env78.n 110)), fun G => env78.f 110 ≤ G)]) (fun L env78 => [pt b26 (.cells (cApiBottling r_25.1).toArray 56), R, pt (env56.n 30) (.cells (cApiBatch b1 p2 k3).toArray 38), pt (env56.n 40) (.cells (cApiBatch b1 p2 k3).toArray 38), pt (env56.n 50) (.cells (cApiBatch b1 p2 k3).toArray 38), (bif L 11 then (ownSl 27 (Ex cApiDraught) (env78.f 110) 51 (env78.a 110) (env78.n 110) l_99) else (bif L 5 then (ownSl 27 (Ex cApiDraught) (env78.f 50) 51 (env78.a 50) (env78.n 50) l_87) else (bif L 0 then (ownSl 27 (Ex cApiDraught) (env78.f 0) 51 (some ⟨env78.n 0, 0, none⟩) 0 ([])) else emp)))]) mixedOK (by kernel_rfl) (by kernel_rfl) rfl (fun _ => rfl) (by kernel_rfl) (fun _ => rfl) ?_ (fun env78 F_104 l_105 hphi => ?_)
        · skip
          refine .cons (fun L env78 F_109 l_110 hL hdn hup hphi => ⟨[], fun S hS hV => (Sub.nil _), ?_⟩) ?_
          · skip
            refine .sliceOwn0 (Ex cApiDraught) rfl Try.underlying34 Try.sizeOf51 (fun b111 => ?_)
            exact .finG ({ env78 with n := updN env78.n 0 b111, f := updN env78.f 0 F_109 }) [false, true, true, true, true, false, true, true, true, true, true, false] rfl (by kernel_rfl) rfl rfl (Fz.le_refl _) (fun _ le => le) (fun _ h => SH.placeC 5 (congrArg some ((condF (hup 2 11 rfl)).trans ((condF (hup 1 5 rfl)).trans (condF hL)))) ((condF (b := updB L 0 11) (hup 2 11 rfl)).trans ((condF (b := updB L 0 5) (hup 1 5 rfl)).trans (condT rfl))) h)
          refine .cons (fun L env78 F_112 l_113 hL hdn hup hphi => ⟨[(4, (.pointer (some ⟨b11, 0, none⟩)))], fun S hS hV => (.cons (hS _ _ rfl) (Sub.nil _)), ?_⟩) ?_
          · skip
            refine .fieldAddr rfl Try.underlying38 rfl Try.sizeOf34 rfl ?_
            exact .finV rfl rfl (Fz.le_refl _)
          refine .cons (fun L env78 F_114 l_115 hL hdn hup hphi => ⟨[(77, (.pointer (some ⟨b11, 0 + 0, none⟩)))], fun S hS hV => (.cons (hV 1 77 _ (hdn 1 1 rfl) rfl rfl) (Sub.nil _)), ?_⟩) ?_
          · skip
            refine .loadF rfl Try.isAgg34 rfl ((Fz.le_trans l_18 (Fz.le_trans l_24 (Fz.le_trans l_28 (Fz.le_trans l_36 (Fz.le_trans l_58 l_115))))).mem _ _ hb14) rfl ?_
            exact .finV rfl rfl (Fz.le_refl _)
          refine .cons (fun L env78 F_116 l_117 hL hdn hup hphi => ⟨[(14, (.int .i64 q54))], fun S hS hV => (.cons (hS _ _ rfl) (Sub.nil _)), ?_⟩) ?_
          · skip
            refine .move rfl rfl ?_
            exact .finV rfl rfl (Fz.le_refl _)
          refine .cons (fun L env78 F_118 l_119 hL hdn hup hphi => ⟨[(78, (.slice p2 b1.Draughts.length k3)), (79, (.int .i64 q54))], fun S hS hV => (.cons (hV 2 78 _ (hdn 1 2 rfl) rfl rfl) (.cons (hV 3 79 _ (hdn 1 3 rfl) rfl rfl) (Sub.nil _))), ?_⟩) ?_
          · skip
            refine .sliceHiK hx86 rfl Try.underlying34 Try.sizeOf51 (h4.mono (Fz.le_trans l_13 (Fz.le_trans l_18 (Fz.le_trans l_24 (Fz.le_trans l_28 (Fz.le_trans l_36 (Fz.le_trans l_58 l_119))))))) rfl rfl (fun p121 k122 h124 => ?_)
            exact .finQ ({ env78 with a := (updN env78.a 40 p121), n := (updN env78.n 40 k122), c := env78.c }) [true, true, true, true, false, false, true, true, true, true, true, false] rfl (by kernel_rfl) rfl rfl (Fz.le_refl _) (fun _ le => h124.mono le) (cons_eq rfl (cons_eq rfl (cons_eq rfl (cons_eq rfl (cons_eq rfl (cons_eq (((condF (b := updB L 4 11) (hup 2 11 rfl)).trans (condF (b := updB L 4 5) (hup 1 5 rfl))).trans ((condF (hup 2 11 rfl)).trans (condF (hup 1 5 rfl))).symm) rfl))))))
          refine .cons (fun L env78 F_125 l_126 hL hdn hup hphi => ⟨[(76, (.slice (some ⟨env78.n 0, 0, none⟩) 0 0)), (80, (.slice (env78.a 40) l_80.length (env78.n 40)))], fun S hS hV => (.cons (hV 0 76 _ (hdn 1 0 rfl) rfl rfl) (.cons (hV 4 80 _ (hdn 1 4 rfl) rfl rfl) (Sub.nil _))), ?_⟩) ?_
          · skip
            have l_106 := hphi 0 _ (hdn 1 0 rfl) rfl _ (Fz.le_refl _)
            have h85 := hphi 4 _ (hdn 1 4 rfl) rfl _ (Fz.le_refl _)
            refine .appendK hx91 5 ok_t51 l_106 rfl Try.underlying34 Try.underlying34 rfl rfl (congrArg some ((condF (hup 1 11 rfl)).trans ((condF hL).trans (condT (hdn 1 0 rfl))))) h85 rfl rfl (fun p128 k129 => ?_)
            exact .finQ ({ env78 with a := updN env78.a 50 p128, n := updN env78.n 50 k129, f := updN env78.f 50 F_125 }) [true, true, true, true, true, false, true, true, true, true, true, false] rfl (by kernel_rfl) rfl rfl (Fz.le_refl _) (fun _ le => le) (cons_eq rfl (cons_eq rfl (cons_eq rfl (cons_eq rfl (cons_eq rfl (cons_eq ((condF (b := updB L 5 11) (hup 1 11 rfl)).trans (condT rfl)) rfl))))))
          refine .cons (fun L env78 F_131 l_132 hL hdn hup hphi => ⟨[(4, (.pointer (some ⟨b11, 0, none⟩)))], fun S hS hV => (.cons (hS _ _ rfl) (Sub.nil _)), ?_⟩) ?_
          · skip
            refine .fieldAddr rfl Try.underlying38 rfl Try.sizeOf34 rfl ?_
            exact .finV rfl rfl (Fz.le_refl _)
          refine .cons (fun L env78 F_133 l_134 hL hdn hup hphi => ⟨[(82, (.pointer (some ⟨b11, 0 + 0, none⟩)))], fun S hS hV => (.cons (hV 6 82 _ (hdn 1 6 rfl) rfl rfl) (Sub.nil _)), ?_⟩) ?_
          · skip
            refine .loadF rfl Try.isAgg34 rfl ((Fz.le_trans l_18 (Fz.le_trans l_24 (Fz.le_trans l_28 (Fz.le_trans l_36 (Fz.le_trans l_58 l_134))))).mem _ _ hb14) rfl ?_
            exact .finV rfl rfl (Fz.le_refl _)
          refine .cons (fun L env78 F_135 l_136 hL hdn hup hphi => ⟨[(14, (.int .i64 q54))], fun S hS hV => (.cons (hS _ _ rfl) (Sub.nil _)), ?_⟩) ?_
          · skip
            refine .move rfl rfl ?_
            exact .finV rfl rfl (Fz.le_refl _)
          refine .cons (fun L env78 F_137 l_138 hL hdn hup hphi => ⟨[(84, (.int .i64 q54))], fun S hS hV => (.cons (hV 8 84 _ (hdn 1 8 rfl) rfl rfl) (Sub.nil _)), ?_⟩) ?_
          · skip
            refine .add rfl rfl rfl ?_
            exact .finV rfl rfl (Fz.le_refl _)
          refine .cons (fun L env78 F_139 l_140 hL hdn hup hphi => ⟨[(83, (.slice p2 b1.Draughts.length k3)), (85, (.int .i64 (w64 (q54 + 1))))], fun S hS hV => (.cons (hV 7 83 _ (hdn 1 7 rfl) rfl rfl) (.cons (hV 9 85 _ (hdn 1 9 rfl) rfl rfl) (Sub.nil _))), ?_⟩) ?_
          · skip
            refine .sliceLoK hx98 rfl Try.underlying34 Try.sizeOf51 (h4.mono (Fz.le_trans l_13 (Fz.le_trans l_18 (Fz.le_trans l_24 (Fz.le_trans l_28 (Fz.le_trans l_36 (Fz.le_trans l_58 l_140))))))) rfl rfl (fun p142 k143 h145 => ?_)
            exact .finQ ({ env78 with a := (updN env78.a 100 p142), n := (updN env78.n 100 k143), c := env78.c }) [true, true, true, true, true, true, true, true, true, true, false, false] rfl (by kernel_rfl) rfl rfl (Fz.le_refl _) (fun _ le => h145.mono le) (cons_eq rfl (cons_eq rfl (cons_eq rfl (cons_eq rfl (cons_eq rfl (cons_eq ((condF (b := updB L 10 11) (hup 1 11 rfl)).trans (condF (hup 1 11 rfl)).symm) rfl))))))
          refine .cons (fun L env78 F_146 l_147 hL hdn hup hphi => ⟨[(81, (.slice (env78.a 50) l_87.length (env78.n 50))), (86, (.slice (env78.a 100) l_92.length (env78.n 100)))], fun S hS hV => (.cons (hV 5 81 _ (hdn 1 5 rfl) rfl rfl) (.cons (hV 10 86 _ (hdn 1 10 rfl) rfl rfl) (Sub.nil _))), ?_⟩) ?_
          · skip
            have l_106 := hphi 0 _ (hdn 2 0 rfl) rfl _ (Fz.le_refl _)
            have h85 := hphi 4 _ (hdn 2 4 rfl) rfl _ (Fz.le_refl _)
            have l_107 := hphi 5 _ (hdn 1 5 rfl) rfl _ (Fz.le_refl _)
            have h97 := hphi 10 _ (hdn 1 10 rfl) rfl _ (Fz.le_refl _)
            refine .appendK hx103 5 ok_t51 l_107 rfl Try.underlying34 Try.underlying34 rfl rfl (congrArg some ((condF hL).trans (condT (hdn 1 5 rfl)))) h97 rfl rfl (fun p149 k150 => ?_)
            exact .finQ ({ env78 with a := updN env78.a 110 p149, n := updN env78.n 110 k150, f := updN env78.f 110 F_146 }) [true, true, true, true, true, true, true, true, true, true, true, false] rfl (by kernel_rfl) rfl rfl (Fz.le_refl _) (fun _ le => le) (cons_eq rfl (cons_eq rfl (cons_eq rfl (cons_eq rfl (cons_eq rfl (cons_eq (condT rfl) rfl))))))
          exact .nil
        have l_106 := hphi 0 _ rfl
        have h85 := hphi 4 _ rfl
        have l_107 := hphi 5 _ rfl
        have h97 := hphi 10 _ rfl
        have l_108 := hphi 11 _ rfl
        refine .norm (S' := [(1, (.slice p6 l_5.length k7)), (3, (.int .u32 more10)), (4, (.pointer (some ⟨b11, 0, none⟩))), (9, (.pointer (some ⟨b26, 0, none⟩))), (11, (.slice p30 r_29.1.length k31)), (13, (.int .i64 n_51)), (14, (.int .i64 q54)), (15, (.pointer (some ⟨(env56.n 30), 0, none⟩))), (16, (.pointer (some ⟨(env56.n 40), 0, none⟩))), (17, (.pointer (some ⟨(env56.n 50), 0, none⟩))), (76, (.slice (some ⟨env78.n 0, 0, none⟩) 0 0)), (77, (.pointer (some ⟨b11, 0 + 0, none⟩))), (78, (.slice p2 b1.Draughts.length k3)), (79, (.int .i64 q54)), (80, (.slice (env78.a 40) l_80.length (env78.n 40))), (81, (.slice (env78.a 50) l_87.length (env78.n 50))), (82, (.pointer (some ⟨b11, 0 + 0, none⟩))), (83, (.slice p2 b1.Draughts.length k3)), (84, (.int .i64 q54)), (85, (.int .i64 (w64 (q54 + 1)))), (86, (.slice (env78.a 100) l_92.length (env78.n 100))), (87, (.slice (env78.a 110) l_99.length (env78.n 110)))]) (.cons (k := 1) rfl (.cons (k := 3) rfl (.cons (k := 4) rfl (.cons (k := 9) rfl (.cons (k := 11) rfl (.cons (k := 13) rfl (.cons (k := 14) rfl (.cons (k := 15) rfl (.cons (k := 16) rfl (.cons (k := 17) rfl (.cons (k := 76) rfl (.cons (k := 77) rfl (.cons (k := 78) rfl (.cons (k := 79) rfl (.cons (k := 80) rfl (.cons (k := 81) rfl (.cons (k := 82) rfl (.cons (k := 83) rfl (.cons (k := 84) rfl (.cons (k := 85) rfl (.cons (k := 86) rfl (.cons (k := 87) rfl (.nil _))))))))))))))))))))))) (rfl : _ = [pt b26 (.cells (cApiBottling r_25.1).toArray 56), R, pt (env56.n 30) (.cells (cApiBatch b1 p2 k3).toArray 38), pt (env56.n 40) (.cells (cApiBatch b1 p2 k3).toArray 38), pt (env56.n 50) (.cells (cApiBatch b1 p2 k3).toArray 38), ownSl 27 (Ex cApiDraught) (env78.f 110) 51 (env78.a 110) (env78.n 110) l_99]) ?_
        refine .fieldAddr rfl Try.underlying38 rfl Try.sizeOf34 rfl ?_
        refine .freezeSl 5 rfl l_108 (fun F_152 l_153 h154 => ?_)
        refine .letv (fun x155 e156 => ?_)
        have h157 : RepSl 27 (Ex cApiDraught) F_152 (env78.a 110) (env78.n 110) x155.Draughts := by rw [e156]; exact h154
        refine .store (cs' := (cApiBatch x155 (env78.a 110) (env78.n 110))) Try.sizeOf34 rfl rfl rfl rfl (i := 2) rfl (Nat.le_of_ble_eq_true rfl) rfl (by rw [e156]; kernel_rfl) ?_
        refine .nil ?_
        refine .code ?_
        refine .seq ?_
        refine .region ?_
        refine .fieldAddr rfl Try.underlying38 rfl Try.sizeOf3 rfl ?_
        refine .loadF rfl Try.isAgg3 rfl ((Fz.le_trans l_18 (Fz.le_trans l_24 (Fz.le_trans l_28 (Fz.le_trans l_36 (Fz.le_trans l_58 (Fz.le_trans l_105 l_153)))))).mem _ _ hb14) rfl ?_
        refine .move rfl rfl ?_
        refine .convI rfl Try.underlying59 Try.underlying3 rfl ?_
        refine .add rfl rfl rfl ?_
        refine .min2 rfl rfl rfl ?_
        refine .fieldAddr rfl Try.underlying38 rfl Try.sizeOf3 rfl ?_
        refine .letv (fun x158 e159 => ?_)
        have h160 : RepSl 27 (Ex cApiDraught) F_152 p2 k3 x158.Draughts := by rw [e159]; exact (h4.mono (Fz.le_trans l_13 (Fz.le_trans l_18 (Fz.le_trans l_24 (Fz.le_trans l_28 (Fz.le_trans l_36 (Fz.le_trans l_58 (Fz.le_trans l_105 l_153))))))))
        refine .store (cs' := (cApiBatch x158 p2 k3)) Try.sizeOf3 rfl rfl rfl rfl (i := 3) rfl (Nat.le_of_ble_eq_true rfl) rfl (by rw [e159]; kernel_rfl) ?_
        refine .nil ?_
        refine .keep (.cons (k := 1) rfl (.cons (k := 4) rfl (.cons (k := 9) rfl (.cons (k := 11) rfl (.cons (k := 13) rfl (.cons (k := 15) rfl (.cons (k := 16) rfl (.cons (k := 17) rfl (.nil _))))))))) ?_
        refine .code ?_
        refine .seq ?_
        refine .region ?_
        refine .fieldAddr rfl Try.underlying38 rfl Try.sizeOf34 rfl ?_
        refine .ownNil 27 (Ex cApiDraught) 51 ?_
        refine .letv (fun x162 e163 => ?_)
        refine .ownConv 0 rfl (show ([]) = x162.Draughts by rw [e163]) ?_
        refine .store (cs' := (cApiBatch x162 none 0)) Try.sizeOf34 rfl rfl rfl rfl (i := 5) rfl (Nat.le_of_ble_eq_true rfl) rfl (by rw [e163]; kernel_rfl) ?_
        refine .nil ?_
        refine .code ?_
        refine .seq ?_
        refine .seq ?_
        refine .region ?_
        refine .move rfl rfl ?_
        refine .sub rfl rfl rfl ?_
        refine .assignL rfl rfl (fun i164 e165 => ?_)
        refine .nil ?_
        refine .code ?_
        refine .block ?_
        refine .keep (.cons (k := 1) rfl (.cons (k := 4) rfl (.cons (k := 9) rfl (.cons (k := 11) rfl (.cons (k := 13) rfl (.cons (k := 15) rfl (.cons (k := 16) rfl (.cons (k := 17) rfl (.cons (k := 18) rfl (.nil _)))))))))) ?_
        refine .loop (fun (s166 : Int × ApiBatch) a w => ∃ (F_167 : Fz) (p169 : Option Addr) (k170 : Nat), F_152 ≤ F_167 ∧ Hd 243 [] [(1, (.slice p6 l_5.length k7)), (4, (.pointer (some ⟨b11, 0, none⟩))), (9, (.pointer (some ⟨b26, 0, none⟩))), (11, (.slice p30 r_29.1.length k31)), (13, (.int .i64 n_51)), (15, (.pointer (some ⟨(env56.n 30), 0, none⟩))), (16, (.pointer (some ⟨(env56.n 40), 0, none⟩))), (17, (.pointer (some ⟨(env56.n 50), 0, none⟩))), (18, (.int .i64 s166.1))] F_167 [ownSl 27 (Ex cApiDraught) F_167 51 p169 k170 s166.2.Draughts, pt b26 (.cells (cApiBottling r_25.1).toArray 56), R, pt (env56.n 30) (.cells (cApiBatch x155 (env78.a 110) (env78.n 110)).toArray 38), pt (env56.n 40) (.cells (cApiBatch x158 p2 k3).toArray 38), pt (env56.n 50) (.cells (cApiBatch s166.2 p169 k170).toArray 38)] a w) (fun b229 e a w => e = .exit 0 ∧ ∃ (F_230 : Fz) (p232 : Option Addr) (k233 : Nat), F_152 ≤ F_230 ∧ Hd 243 [] [(1, (.slice p6 l_5.length k7)), (9, (.pointer (some ⟨b26, 0, none⟩))), (11, (.slice p30 r_29.1.length k31)), (13, (.int .i64 n_51)), (15, (.pointer (some ⟨(env56.n 30), 0, none⟩))), (16, (.pointer (some ⟨(env56.n 40), 0, none⟩))), (17, (.pointer (some ⟨(env56.n 50), 0, none⟩)))] F_230 [ownSl 27 (Ex cApiDraught) F_230 51 p232 k233 b229.Draughts, pt b26 (.cells (cApiBottling r_25.1).toArray 56), R, pt (env56.n 30) (.cells (cApiBatch x155 (env78.a 110) (env78.n 110)).toArray 38), pt (env56.n 40) (.cells (cApiBatch x158 p2 k3).toArray 38), pt (env56.n 50) (.cells (cApiBatch b229 p232 k233).toArray 38)] a w) ?_ ?_ ?_
        · exact fun a w h => ⟨F_152, none, 0, (Fz.le_refl _), h.1.sub (.cons (k := 1) rfl (.cons (k := 4) rfl (.cons (k := 9) rfl (.cons (k := 11) rfl (.cons (k := 13) rfl (.cons (k := 15) rfl (.cons (k := 16) rfl (.cons (k := 17) rfl (.cons (k := 18) rfl (.nil _)))))))))), h.2⟩
        · intro s166 ctl
          refine GC.ex (fun a w ⟨F_167, p169, k170, l_168, hA⟩ => ⟨_, hA, ?_⟩)
          unfold b_wormtublaw12_BottleLess_1
          refine .seq ?_
          refine .seq ?_
          refine .region ?_
          refine .move rfl rfl ?_
          refine .geq rfl rfl rfl ?_
          refine .nil ?_
          refine .code ?_
          refine .cond rfl (fun hb172 => ?_) (fun hb172 => ?_)
          · skip
            refine .skip ?_
            refine .code ?_
            refine .seq ?_
            refine .block ?_
            refine .keep (.cons (k := 1) rfl (.cons (k := 4) rfl (.cons (k := 9) rfl (.cons (k := 11) rfl (.cons (k := 13) rfl (.cons (k := 15) rfl (.cons (k := 16) rfl (.cons (k := 17) rfl (.cons (k := 18) rfl (.nil _)))))))))) ?_
            refine .bind (fun x174 e180 => ?_)
            obtain ⟨b175, o176, T177, fr178, cs179, hm181, hv182, hq183⟩ := RepSl.idxE (h4.mono (Fz.le_trans l_13 (Fz.le_trans l_18 (Fz.le_trans l_24 (Fz.le_trans l_28 (Fz.le_trans l_36 (Fz.le_trans l_58 (Fz.le_trans l_105 (Fz.le_trans l_153 l_168))))))))) e180
            refine .bind (fun l_190 hx194 => ?_)
            refine .drawG 9 0 (fun env173 => [((.pointer (some ⟨(env56.n 50), 0 + 0, none⟩)), fun _ => True), ((.slice p169 s166.2.Draughts.length k170), fun _ => True), ((.pointer (some ⟨b11, 0 + 0, none⟩)), fun _ => True), ((.slice p2 b1.Draughts.length k3), fun _ => True), ((.int .i64 s166.1), fun _ => True), ((.pointer (some ⟨b175, o176, none⟩)), fun _ => True), ((eApiDraught x174), fun _ => True), ((.slice (some ⟨env173.n 70, 0, none⟩) ([x174]).length 1), fun G => RepSl 27 (Ex cApiDraught) G (some ⟨env173.n 70, 0, none⟩) 1 ([x174])), ((.slice (env173.a 80) l_190.length (env173.n 80)), fun G => env173.f 80 ≤ G)]) (fun L env173 => [(bif L 8 then (ownSl 27 (Ex cApiDraught) (env173.f 80) 51 (env173.a 80) (env173.n 80) l_190) else (ownSl 27 (Ex cApiDraught) F_167 51 p169 k170 s166.2.Draughts)), pt b26 (.cells (cApiBottling r_25.1).toArray 56), R, pt (env56.n 30) (.cells (cApiBatch x155 (env78.a 110) (env78.n 110)).toArray 38), pt (env56.n 40) (.cells (cApiBatch x158 p2 k3).toArray 38), pt (env56.n 50) (.cells (cApiBatch s166.2 p169 k170).toArray 38)]) mixedOK (by kernel_rfl) (by kernel_rfl) rfl (fun _ => rfl) (by kernel_rfl) (fun _ => rfl) ?_ (fun env173 F_195 l_196 hphi => ?_)
            · skip
              refine .cons (fun L env173 F_198 l_199 hL hdn hup hphi => ⟨[(17, (.pointer (some ⟨(env56.n 50), 0, none⟩)))], fun S hS hV => (.cons (hS _ _ rfl) (Sub.nil _)), ?_⟩) ?_
              · skip
                refine .fieldAddr rfl Try.underlying38 rfl Try.sizeOf34 rfl ?_
                exact .finV rfl rfl (Fz.le_refl _)
              refine .cons (fun L env173 F_200 l_201 hL hdn hup hphi => ⟨[(103, (.pointer (some ⟨(env56.n 50), 0 + 0, none⟩)))], fun S hS hV => (.cons (hV 0 103 _ (hdn 1 0 rfl) rfl rfl) (Sub.nil _)), ?_⟩) ?_
              · skip
                refine .loadO rfl Try.isAgg34 rfl (i := 5) rfl rfl ?_
                exact .finV rfl rfl (Fz.le_refl _)
              refine .cons (fun L env173 F_202 l_203 hL hdn hup hphi => ⟨[(4, (.pointer (some ⟨b11, 0, none⟩)))], fun S hS hV => (.cons (hS _ _ rfl) (Sub.nil _)), ?_⟩) ?_
              · skip
                refine .fieldAddr rfl Try.underlying38 rfl Try.sizeOf34 rfl ?_
                exact .finV rfl rfl (Fz.le_refl _)
              refine .cons (fun L env173 F_204 l_205 hL hdn hup hphi => ⟨[(105, (.pointer (some ⟨b11, 0 + 0, none⟩)))], fun S hS hV => (.cons (hV 2 105 _ (hdn 1 2 rfl) rfl rfl) (Sub.nil _)), ?_⟩) ?_
              · skip
                refine .loadF rfl Try.isAgg34 rfl ((Fz.le_trans l_18 (Fz.le_trans l_24 (Fz.le_trans l_28 (Fz.le_trans l_36 (Fz.le_trans l_58 (Fz.le_trans l_105 (Fz.le_trans l_153 (Fz.le_trans l_168 l_205)))))))).mem _ _ hb14) rfl ?_
                exact .finV rfl rfl (Fz.le_refl _)
              refine .cons (fun L env173 F_206 l_207 hL hdn hup hphi => ⟨[(18, (.int .i64 s166.1))], fun S hS hV => (.cons (hS _ _ rfl) (Sub.nil _)), ?_⟩) ?_
              · skip
                refine .move rfl rfl ?_
                exact .finV rfl rfl (Fz.le_refl _)
              refine .cons (fun L env173 F_208 l_209 hL hdn hup hphi => ⟨[(106, (.slice p2 b1.Draughts.length k3)), (107, (.int .i64 s166.1))], fun S hS hV => (.cons (hV 3 106 _ (hdn 1 3 rfl) rfl rfl) (.cons (hV 4 107 _ (hdn 1 4 rfl) rfl rfl) (Sub.nil _))), ?_⟩) ?_
              · skip
                refine .idxQ rfl Try.underlying34 Try.sizeOf51 hq183 rfl rfl ?_
                exact .finV rfl rfl (Fz.le_refl _)
              refine .cons (fun L env173 F_210 l_211 hL hdn hup hphi => ⟨[(108, (.pointer (some ⟨b175, o176, none⟩)))], fun S hS hV => (.cons (hV 5 108 _ (hdn 1 5 rfl) rfl rfl) (Sub.nil _)), ?_⟩) ?_
              · skip
                refine .loadFA rfl Try.isAgg51 Try.sizeOf51 rfl (l_211.mem _ _ hm181) hv182 rfl ?_
                exact .finV rfl rfl (Fz.le_refl _)
              refine .cons (fun L env173 F_212 l_213 hL hdn hup hphi => ⟨[(109, (eApiDraught x174))], fun S hS hV => (.cons (hV 6 109 _ (hdn 1 6 rfl) rfl rfl) (Sub.nil _)), ?_⟩) ?_
              · skip
                refine .sliceLit (cs := [.int .i64 x174.From.Number, .int .i64 x174.From.Wood, .int .i64 x174.From.Place, .int .i64 x174.From.Room, .int .i64 x174.From.Owner, .int .i64 x174.From.Creditor, .int .i64 x174.From.Amount, .int .i64 x174.From.Age, .int .i64 (x174.From.Woods 0), .int .i64 (x174.From.Woods 1), .int .i64 (x174.From.Woods 2), .int .i64 (x174.From.Woods 3), .int .i64 (x174.From.Woods 4), .int .i64 (x174.From.Woods 5), .int .i64 (x174.From.Woods 6), .int .i64 (x174.From.Woods 7), .int .i64 (x174.From.Places 0), .int .i64 (x174.From.Places 1), .int .i64 (x174.From.Places 2), .int .i64 (x174.From.Places 3), .int .i64 (x174.From.Places 4), .int .i64 (x174.From.Places 5), .int .i64 (x174.From.Places 6), .int .i64 (x174.From.Places 7), .int .i64 x174.Amount, .int .i64 x174.Strength.Lo, .int .i64 x174.Strength.Hi]) (zc := [.int .i64 (ApiDraught.mk (ApiCask.mk 0 0 0 0 0 0 0 0 (fun _ => 0) (fun _ => 0)) 0 (ApiSpan.mk 0 0)).From.Number, .int .i64 (ApiDraught.mk (ApiCask.mk 0 0 0 0 0 0 0 0 (fun _ => 0) (fun _ => 0)) 0 (ApiSpan.mk 0 0)).From.Wood, .int .i64 (ApiDraught.mk (ApiCask.mk 0 0 0 0 0 0 0 0 (fun _ => 0) (fun _ => 0)) 0 (ApiSpan.mk 0 0)).From.Place, .int .i64 (ApiDraught.mk (ApiCask.mk 0 0 0 0 0 0 0 0 (fun _ => 0) (fun _ => 0)) 0 (ApiSpan.mk 0 0)).From.Room, .int .i64 (ApiDraught.mk (ApiCask.mk 0 0 0 0 0 0 0 0 (fun _ => 0) (fun _ => 0)) 0 (ApiSpan.mk 0 0)).From.Owner, .int .i64 (ApiDraught.mk (ApiCask.mk 0 0 0 0 0 0 0 0 (fun _ => 0) (fun _ => 0)) 0 (ApiSpan.mk 0 0)).From.Creditor, .int .i64 (ApiDraught.mk (ApiCask.mk 0 0 0 0 0 0 0 0 (fun _ => 0) (fun _ => 0)) 0 (ApiSpan.mk 0 0)).From.Amount, .int .i64 (ApiDraught.mk (ApiCask.mk 0 0 0 0 0 0 0 0 (fun _ => 0) (fun _ => 0)) 0 (ApiSpan.mk 0 0)).From.Age, .int .i64 ((ApiDraught.mk (ApiCask.mk 0 0 0 0 0 0 0 0 (fun _ => 0) (fun _ => 0)) 0 (ApiSpan.mk 0 0)).From.Woods 0), .int .i64 ((ApiDraught.mk (ApiCask.mk 0 0 0 0 0 0 0 0 (fun _ => 0) (fun _ => 0)) 0 (ApiSpan.mk 0 0)).From.Woods 1), .int .i64 ((ApiDraught.mk (ApiCask.mk 0 0 0 0 0 0 0 0 (fun _ => 0) (fun _ => 0)) 0 (ApiSpan.mk 0 0)).From.Woods 2), .int .i64 ((ApiDraught.mk (ApiCask.mk 0 0 0 0 0 0 0 0 (fun _ => 0) (fun _ => 0)) 0 (ApiSpan.mk 0 0)).From.Woods 3), .int .i64 ((ApiDraught.mk (ApiCask.mk 0 0 0 0 0 0 0 0 (fun _ => 0) (fun _ => 0)) 0 (ApiSpan.mk 0 0)).From.Woods 4), .int .i64 ((ApiDraught.mk (ApiCask.mk 0 0 0 0 0 0 0 0 (fun _ => 0) (fun _ => 0)) 0 (ApiSpan.mk 0 0)).From.Woods 5), .int .i64 ((ApiDraught.mk (ApiCask.mk 0 0 0 0 0 0 0 0 (fun _ => 0) (fun _ => 0)) 0 (ApiSpan.mk 0 0)).From.Woods 6), .int .i64 ((ApiDraught.mk (ApiCask.mk 0 0 0 0 0 0 0 0 (fun _ => 0) (fun _ => 0)) 0 (ApiSpan.mk 0 0)).From.Woods 7), .int .i64 ((ApiDraught.mk (ApiCask.mk 0 0 0 0 0 0 0 0 (fun _ => 0) (fun _ => 0)) 0 (ApiSpan.mk 0 0)).From.Places 0), .int .i64 ((ApiDraught.mk (ApiCask.mk 0 0 0 0 0 0 0 0 (fun _ => 0) (fun _ => 0)) 0 (ApiSpan.mk 0 0)).From.Places 1), .int .i64 ((ApiDraught.mk (ApiCask.mk 0 0 0 0 0 0 0 0 (fun _ => 0) (fun _ => 0)) 0 (ApiSpan.mk 0 0)).From.Places 2), .int .i64 ((ApiDraught.mk (ApiCask.mk 0 0 0 0 0 0 0 0 (fun _ => 0) (fun _ => 0)) 0 (ApiSpan.mk 0 0)).From.Places 3), .int .i64 ((ApiDraught.mk (ApiCask.mk 0 0 0 0 0 0 0 0 (fun _ => 0) (fun _ => 0)) 0 (ApiSpan.mk 0 0)).From.Places 4), .int .i64 ((ApiDraught.mk (ApiCask.mk 0 0 0 0 0 0 0 0 (fun _ => 0) (fun _ => 0)) 0 (ApiSpan.mk 0 0)).From.Places 5), .int .i64 ((ApiDraught.mk (ApiCask.mk 0 0 0 0 0 0 0 0 (fun _ => 0) (fun _ => 0)) 0 (ApiSpan.mk 0 0)).From.Places 6), .int .i64 ((ApiDraught.mk (ApiCask.mk 0 0 0 0 0 0 0 0 (fun _ => 0) (fun _ => 0)) 0 (ApiSpan.mk 0 0)).From.Places 7), .int .i64 (ApiDraught.mk (ApiCask.mk 0 0 0 0 0 0 0 0 (fun _ => 0) (fun _ => 0)) 0 (ApiSpan.mk 0 0)).Amount, .int .i64 (ApiDraught.mk (ApiCask.mk 0 0 0 0 0 0 0 0 (fun _ => 0) (fun _ => 0)) 0 (ApiSpan.mk 0 0)).Strength.Lo, .int .i64 (ApiDraught.mk (ApiCask.mk 0 0 0 0 0 0 0 0 (fun _ => 0) (fun _ => 0)) 0 (ApiSpan.mk 0 0)).Strength.Hi]) rfl Try.underlying34 Try.sizeOf51 Try.zeroValue51 rfl rfl rfl (by kernel_rfl) (by kernel_rfl) (fun b214 F_215 l_216 hb217 => ?_)
                have h218 : RepSl 27 (Ex cApiDraught) F_215 (some ⟨b214, 0, none⟩) 1 ([x174]) := RepSl.ofRow hb217 (.cons ok_t51.mono rfl .nil) rfl rfl
                exact .finQ ({ env173 with a := env173.a, n := (updN env173.n 70 b214), c := env173.c }) [true, true, true, true, true, true, true, false, false] rfl (by kernel_rfl) rfl rfl l_216 (fun _ le => h218.mono le) (cons_eq ((condF (b := updB L 7 8) (hup 1 8 rfl)).trans (condF (hup 1 8 rfl)).symm) (cons_eq rfl (cons_eq rfl (cons_eq rfl (cons_eq rfl (cons_eq rfl rfl))))))
              refine .cons (fun L env173 F_219 l_220 hL hdn hup hphi => ⟨[(104, (.slice p169 s166.2.Draughts.length k170)), (110, (.slice (some ⟨env173.n 70, 0, none⟩) ([x174]).length 1))], fun S hS hV => (.cons (hV 1 104 _ (hdn 1 1 rfl) rfl rfl) (.cons (hV 7 110 _ (hdn 1 7 rfl) rfl rfl) (Sub.nil _))), ?_⟩) ?_
              · skip
                have h189 := hphi 7 _ (hdn 1 7 rfl) rfl _ (Fz.le_refl _)
                refine .appendK hx194 0 ok_t51 l_220 rfl Try.underlying34 Try.underlying34 rfl rfl (congrArg some (condF hL)) h189 rfl rfl (fun p222 k223 => ?_)
                exact .finQ ({ env173 with a := updN env173.a 80 p222, n := updN env173.n 80 k223, f := updN env173.f 80 F_219 }) [true, true, true, true, true, true, true, true, false] rfl (by kernel_rfl) rfl rfl (Fz.le_refl _) (fun _ le => le) (cons_eq (condT rfl) (cons_eq rfl (cons_eq rfl (cons_eq rfl (cons_eq rfl (cons_eq rfl rfl))))))
              exact .nil
            have h189 := hphi 7 _ rfl
            have l_197 := hphi 8 _ rfl
            refine .norm (S' := [(1, (.slice p6 l_5.length k7)), (4, (.pointer (some ⟨b11, 0, none⟩))), (9, (.pointer (some ⟨b26, 0, none⟩))), (11, (.slice p30 r_29.1.length k31)), (13, (.int .i64 n_51)), (15, (.pointer (some ⟨(env56.n 30), 0, none⟩))), (16, (.pointer (some ⟨(env56.n 40), 0, none⟩))), (17, (.pointer (some ⟨(env56.n 50), 0, none⟩))), (18, (.int .i64 s166.1)), (103, (.pointer (some ⟨(env56.n 50), 0 + 0, none⟩))), (104, (.slice p169 s166.2.Draughts.length k170)), (105, (.pointer (some ⟨b11, 0 + 0, none⟩))), (106, (.slice p2 b1.Draughts.length k3)), (107, (.int .i64 s166.1)), (108, (.pointer (some ⟨b175, o176, none⟩))), (109, (eApiDraught x174)), (110, (.slice (some ⟨env173.n 70, 0, none⟩) ([x174]).length 1)), (111, (.slice (env173.a 80) l_190.length (env173.n 80)))]) (.cons (k := 1) rfl (.cons (k := 4) rfl (.cons (k := 9) rfl (.cons (k := 11) rfl (.cons (k := 13) rfl (.cons (k := 15) rfl (.cons (k := 16) rfl (.cons (k := 17) rfl (.cons (k := 18) rfl (.cons (k := 103) rfl (.cons (k := 104) rfl (.cons (k := 105) rfl (.cons (k := 106) rfl (.cons (k := 107) rfl (.cons (k := 108) rfl (.cons (k := 109) rfl (.cons (k := 110) rfl (.cons (k := 111) rfl (.nil _))))))))))))))))))) (rfl : _ = [ownSl 27 (Ex cApiDraught) (env173.f 80) 51 (env173.a 80) (env173.n 80) l_190, pt b26 (.cells (cApiBottling r_25.1).toArray 56), R, pt (env56.n 30) (.cells (cApiBatch x155 (env78.a 110) (env78.n 110)).toArray 38), pt (env56.n 40) (.cells (cApiBatch x158 p2 k3).toArray 38), pt (env56.n 50) (.cells (cApiBatch s166.2 p169 k170).toArray 38)]) ?_
            refine .fieldAddr rfl Try.underlying38 rfl Try.sizeOf34 rfl ?_
            refine .letv (fun x225 e226 => ?_)
            refine .ownConv 0 rfl (show l_190 = x225.Draughts by rw [e226]) ?_
            refine .store (cs' := (cApiBatch x225 (env173.a 80) (env173.n 80))) Try.sizeOf34 rfl rfl rfl rfl (i := 5) rfl (Nat.le_of_ble_eq_true rfl) rfl (by rw [e226]; kernel_rfl) ?_
            refine .nil ?_
            refine .block ?_
            refine .code ?_
            refine .region ?_
            refine .move rfl rfl ?_
            refine .sub rfl rfl rfl ?_
            refine .assignL rfl rfl (fun i227 e228 => ?_)
            refine .nil ?_
            refine .ownUp 0 l_197 rfl ?_
            exact .nil (LPost.norm fun a w h => ⟨F_195, (env173.a 80), (env173.n 80), (Fz.le_trans l_168 l_196), h.1.sub (.cons (k := 1) rfl (.cons (k := 4) rfl (.cons (k := 9) rfl (.cons (k := 11) rfl (.cons (k := 13) rfl (.cons (k := 15) rfl (.cons (k := 16) rfl (.cons (k := 17) rfl (.cons (k := 18) rfl (.nil _)))))))))), h.2⟩)
          · skip
            refine .exitOut rfl (LPost.exit fun a w h => ⟨rfl, F_167, p169, k170, l_168, h.1.sub (.cons (k := 1) rfl (.cons (k := 9) rfl (.cons (k := 11) rfl (.cons (k := 13) rfl (.cons (k := 15) rfl (.cons (k := 16) rfl (.cons (k := 17) rfl (.nil _)))))))), h.2⟩)
        · intro b229 hb0 hk e a w hD
          obtain ⟨rfl, F_230, p232, k233, l_231, hA⟩ := hD
          refine interp_exit rfl (GE.app ?_ hk a w hA)
          refine .code ?_
          refine .seq ?_
          refine .region ?_
          refine .loadOA rfl Try.isAgg38 Try.sizeOf38 rfl (i := 4) rfl (vs := (cApiBatch x158 p2 k3)) (by kernel_rfl) rfl ?_
          refine .call0 rfl Try.call20 rfl rfl rfl (c_bottle_Blend _ x158 p2 k3 (h160.mono l_231)) ?_
          rintro r_237 F_235 _ - l_236 rfl
          refine .move rfl rfl ?_
          refine .extract rfl rfl rfl ?_
          refine .extract rfl rfl rfl ?_
          refine .alloc (cs := (cApiBottling (ApiBottling.mk (ApiSpan.mk 0 0) (ApiSpan.mk 0 0) 0 (fun _ => 0) (fun _ => 0) 0))) rfl Try.zeroValue56 rfl (fun b238 => ?_)
          refine .store (cs' := (cApiBottling r_237.1)) Try.sizeOf56 rfl rfl rfl rfl (i := 0) rfl (Nat.le_of_ble_eq_true rfl) rfl (setMany_all (by rfl)) ?_
          refine .assign rfl rfl ?_
          refine .nil ?_
          refine .code ?_
          refine .seq ?_
          refine .region ?_
          refine .loadOA rfl Try.isAgg38 Try.sizeOf38 rfl (i := 6) rfl (vs := (cApiBatch b229 p232 k233)) (by kernel_rfl) rfl ?_
          refine .freezeSl 1 rfl l_236 (fun F_239 l_240 h241 => ?_)
          refine .call0 rfl Try.call20 rfl rfl rfl (c_bottle_Blend _ b229 p232 k233 h241) ?_
          rintro r_244 F_242 _ - l_243 rfl
          refine .move rfl rfl ?_
          refine .extract rfl rfl rfl ?_
          refine .extract rfl rfl rfl ?_
          refine .alloc (cs := (cApiBottling (ApiBottling.mk (ApiSpan.mk 0 0) (ApiSpan.mk 0 0) 0 (fun _ => 0) (fun _ => 0) 0))) rfl Try.zeroValue56 rfl (fun b245 => ?_)
          refine .store (cs' := (cApiBottling r_244.1)) Try.sizeOf56 rfl rfl rfl rfl (i := 0) rfl (Nat.le_of_ble_eq_true rfl) rfl (setMany_all (by rfl)) ?_
          refine .assign rfl rfl ?_
          refine .nil ?_
          refine .code ?_
          refine .seq ?_
          refine .seq ?_
          refine .region ?_
          refine .move rfl rfl ?_
          refine .neq rfl rfl rfl ?_
          refine .move rfl rfl ?_
          refine .orP (b := (r_237.2 != 0)) (b' := (r_244.2 != 0)) 3 128 (fun hb246 => ?_) (fun hb247 => ?_) (fun F_248 l_249 => ?_)
          · skip
            refine .onH hb246 rfl rfl ?_
            refine .move rfl rfl ?_
            refine .onH hb246 rfl rfl ?_
            refine .neq rfl rfl rfl ?_
            refine .pickFH hb246 rfl rfl rfl ?_
            exact .fin 3 rfl rfl (by kernel_rfl) (Fz.le_refl _)
          · skip
            refine .offH hb247 rfl rfl rfl ?_
            refine .offH hb247 rfl rfl rfl ?_
            refine .pickTH hb247 rfl rfl rfl ?_
            exact .fin 3 rfl rfl (by kernel_rfl) (Fz.le_refl _)
          refine .move rfl rfl ?_
          refine .orP (b := ((r_237.2 != 0) || (r_244.2 != 0))) (b' := (!(eq_56 r_244.1 r_25.1))) 4 133 (fun hb250 => ?_) (fun hb251 => ?_) (fun F_252 l_253 => ?_)
          · skip
            refine .onH hb250 rfl rfl ?_
            refine .loadOA rfl Try.isAgg56 Try.sizeOf56 rfl (i := 0) rfl (vs := (cApiBottling r_244.1)) (by kernel_rfl) rfl ?_
            refine .onH hb250 rfl rfl ?_
            refine .loadOA rfl Try.isAgg56 Try.sizeOf56 rfl (i := 2) rfl (vs := (cApiBottling r_25.1)) (by kernel_rfl) rfl ?_
            refine .onH hb250 rfl rfl ?_
            refine .neqR rfl Try.eqGuardType56 (fun w => req_56 r_244.1 r_25.1 w) rfl rfl ?_
            refine .pickFH hb250 rfl rfl rfl ?_
            exact .fin 4 rfl rfl (by kernel_rfl) (Fz.le_refl _)
          · skip
            refine .offH hb251 rfl rfl rfl ?_
            refine .offH hb251 rfl rfl rfl ?_
            refine .offH hb251 rfl rfl rfl ?_
            refine .pickTH hb251 rfl rfl rfl ?_
            exact .fin 4 rfl rfl (by kernel_rfl) (Fz.le_refl _)
          refine .move rfl rfl ?_
          refine .orP (b := (((r_237.2 != 0) || (r_244.2 != 0)) || (!(eq_56 r_244.1 r_25.1)))) (b' := (decide (r_237.1.Strength.Lo > r_25.1.Strength.Lo))) 8 142 (fun hb254 => ?_) (fun hb255 => ?_) (fun F_256 l_257 => ?_)
          · skip
            refine .onH hb254 rfl rfl ?_
            refine .fieldAddr rfl Try.underlying56 rfl Try.sizeOf36 rfl ?_
            refine .onH hb254 rfl rfl ?_
            refine .fieldAddr rfl Try.underlying36 rfl Try.sizeOf3 rfl ?_
            refine .onH hb254 rfl rfl ?_
            refine .loadO rfl Try.isAgg3 rfl (i := 1) rfl rfl ?_
            refine .onH hb254 rfl rfl ?_
            refine .fieldAddr rfl Try.underlying56 rfl Try.sizeOf36 rfl ?_
            refine .onH hb254 rfl rfl ?_
            refine .fieldAddr rfl Try.underlying36 rfl Try.sizeOf3 rfl ?_
            refine .onH hb254 rfl rfl ?_
            refine .loadO rfl Try.isAgg3 rfl (i := 2) rfl rfl ?_
            refine .onH hb254 rfl rfl ?_
            refine .gtr rfl rfl rfl ?_
            refine .pickFH hb254 rfl rfl rfl ?_
            exact .fin 8 rfl rfl (by kernel_rfl) (Fz.le_refl _)
          · skip
            refine .offH hb255 rfl rfl rfl ?_
            refine .offH hb255 rfl rfl rfl ?_
            refine .offH hb255 rfl rfl rfl ?_
            refine .offH hb255 rfl rfl rfl ?_
            refine .offH hb255 rfl rfl rfl ?_
            refine .offH hb255 rfl rfl rfl ?_
            refine .offH hb255 rfl rfl rfl ?_
            refine .pickTH hb255 rfl rfl rfl ?_
            exact .fin 8 rfl rfl (by kernel_rfl) (Fz.le_refl _)
          refine .move rfl rfl ?_
          refine .orP (b := ((((r_237.2 != 0) || (r_244.2 != 0)) || (!(eq_56 r_244.1 r_25.1))) || (decide (r_237.1.Strength.Lo > r_25.1.Strength.Lo)))) (b' := (decide (r_237.1.Strength.Hi > r_25.1.Strength.Hi))) 8 151 (fun hb258 => ?_) (fun hb259 => ?_) (fun F_260 l_261 => ?_)
          · skip
            refine .onH hb258 rfl rfl ?_
            refine .fieldAddr rfl Try.underlying56 rfl Try.sizeOf36 rfl ?_
            refine .onH hb258 rfl rfl ?_
            refine .fieldAddr rfl Try.underlying36 rfl Try.sizeOf3 rfl ?_
            refine .onH hb258 rfl rfl ?_
            refine .loadO rfl Try.isAgg3 rfl (i := 1) rfl rfl ?_
            refine .onH hb258 rfl rfl ?_
            refine .fieldAddr rfl Try.underlying56 rfl Try.sizeOf36 rfl ?_
            refine .onH hb258 rfl rfl ?_
            refine .fieldAddr rfl Try.underlying36 rfl Try.sizeOf3 rfl ?_
            refine .onH hb258 rfl rfl ?_
            refine .loadO rfl Try.isAgg3 rfl (i := 2) rfl rfl ?_
            refine .onH hb258 rfl rfl ?_
            refine .gtr rfl rfl rfl ?_
            refine .pickFH hb258 rfl rfl rfl ?_
            exact .fin 8 rfl rfl (by kernel_rfl) (Fz.le_refl _)
          · skip
            refine .offH hb259 rfl rfl rfl ?_
            refine .offH hb259 rfl rfl rfl ?_
            refine .offH hb259 rfl rfl rfl ?_
            refine .offH hb259 rfl rfl rfl ?_
            refine .offH hb259 rfl rfl rfl ?_
            refine .offH hb259 rfl rfl rfl ?_
            refine .offH hb259 rfl rfl rfl ?_
            refine .pickTH hb259 rfl rfl rfl ?_
            exact .fin 8 rfl rfl (by kernel_rfl) (Fz.le_refl _)
          refine .move rfl rfl ?_
          refine .orP (b := (((((r_237.2 != 0) || (r_244.2 != 0)) || (!(eq_56 r_244.1 r_25.1))) || (decide (r_237.1.Strength.Lo > r_25.1.Strength.Lo))) || (decide (r_237.1.Strength.Hi > r_25.1.Strength.Hi)))) (b' := (decide (r_237.1.Volume.Lo < r_25.1.Volume.Lo))) 8 160 (fun hb262 => ?_) (fun hb263 => ?_) (fun F_264 l_265 => ?_)
          · skip
            refine .onH hb262 rfl rfl ?_
            refine .fieldAddr rfl Try.underlying56 rfl Try.sizeOf36 rfl ?_
            refine .onH hb262 rfl rfl ?_
            refine .fieldAddr rfl Try.underlying36 rfl Try.sizeOf3 rfl ?_
            refine .onH hb262 rfl rfl ?_
            refine .loadO rfl Try.isAgg3 rfl (i := 1) rfl rfl ?_
            refine .onH hb262 rfl rfl ?_
            refine .fieldAddr rfl Try.underlying56 rfl Try.sizeOf36 rfl ?_
            refine .onH hb262 rfl rfl ?_
            refine .fieldAddr rfl Try.underlying36 rfl Try.sizeOf3 rfl ?_
            refine .onH hb262 rfl rfl ?_
            refine .loadO rfl Try.isAgg3 rfl (i := 2) rfl rfl ?_
            refine .onH hb262 rfl rfl ?_
            refine .lss rfl rfl rfl ?_
            refine .pickFH hb262 rfl rfl rfl ?_
            exact .fin 8 rfl rfl (by kernel_rfl) (Fz.le_refl _)
          · skip
            refine .offH hb263 rfl rfl rfl ?_
            refine .offH hb263 rfl rfl rfl ?_
            refine .offH hb263 rfl rfl rfl ?_
            refine .offH hb263 rfl rfl rfl ?_
            refine .offH hb263 rfl rfl rfl ?_
            refine .offH hb263 rfl rfl rfl ?_
            refine .offH hb263 rfl rfl rfl ?_
            refine .pickTH hb263 rfl rfl rfl ?_
            exact .fin 8 rfl rfl (by kernel_rfl) (Fz.le_refl _)
          refine .move rfl rfl ?_
          refine .orP (b := ((((((r_237.2 != 0) || (r_244.2 != 0)) || (!(eq_56 r_244.1 r_25.1))) || (decide (r_237.1.Strength.Lo > r_25.1.Strength.Lo))) || (decide (r_237.1.Strength.Hi > r_25.1.Strength.Hi))) || (decide (r_237.1.Volume.Lo < r_25.1.Volume.Lo)))) (b' := (r_237.1.Age != r_25.1.Age)) 6 167 (fun hb266 => ?_) (fun hb267 => ?_) (fun F_268 l_269 => ?_)
          · skip
            refine .onH hb266 rfl rfl ?_
            refine .fieldAddr rfl Try.underlying56 rfl Try.sizeOf3 rfl ?_
            refine .onH hb266 rfl rfl ?_
            refine .loadO rfl Try.isAgg3 rfl (i := 1) rfl rfl ?_
            refine .onH hb266 rfl rfl ?_
            refine .fieldAddr rfl Try.underlying56 rfl Try.sizeOf3 rfl ?_
            refine .onH hb266 rfl rfl ?_
            refine .loadO rfl Try.isAgg3 rfl (i := 2) rfl rfl ?_
            refine .onH hb266 rfl rfl ?_
            refine .neq rfl rfl rfl ?_
            refine .pickFH hb266 rfl rfl rfl ?_
            exact .fin 6 rfl rfl (by kernel_rfl) (Fz.le_refl _)
          · skip
            refine .offH hb267 rfl rfl rfl ?_
            refine .offH hb267 rfl rfl rfl ?_
            refine .offH hb267 rfl rfl rfl ?_
            refine .offH hb267 rfl rfl rfl ?_
            refine .offH hb267 rfl rfl rfl ?_
            refine .pickTH hb267 rfl rfl rfl ?_
            exact .fin 6 rfl rfl (by kernel_rfl) (Fz.le_refl _)
          refine .move rfl rfl ?_
          refine .orP (b := (((((((r_237.2 != 0) || (r_244.2 != 0)) || (!(eq_56 r_244.1 r_25.1))) || (decide (r_237.1.Strength.Lo > r_25.1.Strength.Lo))) || (decide (r_237.1.Strength.Hi > r_25.1.Strength.Hi))) || (decide (r_237.1.Volume.Lo < r_25.1.Volume.Lo))) || (r_237.1.Age != r_25.1.Age))) (b' := (!(eq_47 r_237.1.Woods r_25.1.Woods))) 6 174 (fun hb270 => ?_) (fun hb271 => ?_) (fun F_272 l_273 => ?_)
          · skip
            refine .onH hb270 rfl rfl ?_
            refine .fieldAddr rfl Try.underlying56 rfl Try.sizeOf47 rfl ?_
            refine .onH hb270 rfl rfl ?_
            refine .loadOA rfl Try.isAgg47 Try.sizeOf47 rfl (i := 1) rfl (vs := ((cArr 8 (cInt .i64)) r_237.1.Woods)) (by kernel_rfl) rfl ?_
            refine .onH hb270 rfl rfl ?_
            refine .fieldAddr rfl Try.underlying56 rfl Try.sizeOf47 rfl ?_
            refine .onH hb270 rfl rfl ?_
            refine .loadOA rfl Try.isAgg47 Try.sizeOf47 rfl (i := 2) rfl (vs := ((cArr 8 (cInt .i64)) r_25.1.Woods)) (by kernel_rfl) rfl ?_
            refine .onH hb270 rfl rfl ?_
            refine .neqR rfl Try.eqGuardType47 (fun w => req_47 r_237.1.Woods r_25.1.Woods w) rfl rfl ?_
            refine .pickFH hb270 rfl rfl rfl ?_
            exact .fin 6 rfl rfl (by kernel_rfl) (Fz.le_refl _)
          · skip
            refine .offH hb271 rfl rfl rfl ?_
            refine .offH hb271 rfl rfl rfl ?_
            refine .offH hb271 rfl rfl rfl ?_
            refine .offH hb271 rfl rfl rfl ?_
            refine .offH hb271 rfl rfl rfl ?_
            refine .pickTH hb271 rfl rfl rfl ?_
            exact .fin 6 rfl rfl (by kernel_rfl) (Fz.le_refl _)
          refine .move rfl rfl ?_
          refine .orP (b := ((((((((r_237.2 != 0) || (r_244.2 != 0)) || (!(eq_56 r_244.1 r_25.1))) || (decide (r_237.1.Strength.Lo > r_25.1.Strength.Lo))) || (decide (r_237.1.Strength.Hi > r_25.1.Strength.Hi))) || (decide (r_237.1.Volume.Lo < r_25.1.Volume.Lo))) || (r_237.1.Age != r_25.1.Age)) || (!(eq_47 r_237.1.Woods r_25.1.Woods)))) (b' := (!(eq_47 r_237.1.Places r_25.1.Places))) 6 181 (fun hb274 => ?_) (fun hb275 => ?_) (fun F_276 l_277 => ?_)
          · skip
            refine .onH hb274 rfl rfl ?_
            refine .fieldAddr rfl Try.underlying56 rfl Try.sizeOf47 rfl ?_
            refine .onH hb274 rfl rfl ?_
            refine .loadOA rfl Try.isAgg47 Try.sizeOf47 rfl (i := 1) rfl (vs := ((cArr 8 (cInt .i64)) r_237.1.Places)) (by kernel_rfl) rfl ?_
            refine .onH hb274 rfl rfl ?_
            refine .fieldAddr rfl Try.underlying56 rfl Try.sizeOf47 rfl ?_
            refine .onH hb274 rfl rfl ?_
            refine .loadOA rfl Try.isAgg47 Try.sizeOf47 rfl (i := 2) rfl (vs := ((cArr 8 (cInt .i64)) r_25.1.Places)) (by kernel_rfl) rfl ?_
            refine .onH hb274 rfl rfl ?_
            refine .neqR rfl Try.eqGuardType47 (fun w => req_47 r_237.1.Places r_25.1.Places w) rfl rfl ?_
            refine .pickFH hb274 rfl rfl rfl ?_
            exact .fin 6 rfl rfl (by kernel_rfl) (Fz.le_refl _)
          · skip
            refine .offH hb275 rfl rfl rfl ?_
            refine .offH hb275 rfl rfl rfl ?_
            refine .offH hb275 rfl rfl rfl ?_
            refine .offH hb275 rfl rfl rfl ?_
            refine .offH hb275 rfl rfl rfl ?_
            refine .pickTH hb275 rfl rfl rfl ?_
            exact .fin 6 rfl rfl (by kernel_rfl) (Fz.le_refl _)
          refine .nil ?_
          refine .keep (.cons (k := 1) rfl (.cons (k := 11) rfl (.cons (k := 13) rfl (.cons (k := 15) rfl (.cons (k := 181) rfl (.nil _)))))) ?_
          refine .code ?_
          refine .cond rfl (fun hb278 => ?_) (fun hb278 => ?_)
          · skip
            refine .seq ?_
            refine .region ?_
            refine .assign rfl rfl ?_
            refine .nil ?_
            refine .code ?_
            exact .ret0 Try.results7 (.tmp rfl (.nil)) (i := 3) rfl (Fz.le_trans l_13 (Fz.le_trans l_18 (Fz.le_trans l_24 (Fz.le_trans l_28 (Fz.le_trans l_36 (Fz.le_trans l_58 (Fz.le_trans l_105 (Fz.le_trans l_153 (Fz.le_trans l_231 (Fz.le_trans l_236 (Fz.le_trans l_240 (Fz.le_trans l_243 (Fz.le_trans l_249 (Fz.le_trans l_253 (Fz.le_trans l_257 (Fz.le_trans l_261 (Fz.le_trans l_265 (Fz.le_trans l_269 (Fz.le_trans l_273 l_277))))))))))))))))))) rfl
          · skip
            refine .skip ?_
            refine .code ?_
            refine .seq ?_
            refine .seq ?_
            refine .region ?_
            refine .move rfl rfl ?_
            refine .eql rfl rfl rfl ?_
            refine .nil ?_
            refine .code ?_
            refine .cond rfl (fun hb279 => ?_) (fun hb279 => ?_)
            · skip
              refine .seq ?_
              refine .region ?_
              refine .call0 rfl Try.call11 rfl rfl rfl (c_wormtublaw12_awake _ ) ?_
              rintro r_282 F_280 _ - l_281 rfl
              refine .assign rfl rfl ?_
              refine .nil ?_
              refine .code ?_
              exact .ret0 Try.results7 (.tmp rfl (.nil)) (i := 3) rfl (Fz.le_trans l_13 (Fz.le_trans l_18 (Fz.le_trans l_24 (Fz.le_trans l_28 (Fz.le_trans l_36 (Fz.le_trans l_58 (Fz.le_trans l_105 (Fz.le_trans l_153 (Fz.le_trans l_231 (Fz.le_trans l_236 (Fz.le_trans l_240 (Fz.le_trans l_243 (Fz.le_trans l_249 (Fz.le_trans l_253 (Fz.le_trans l_257 (Fz.le_trans l_261 (Fz.le_trans l_265 (Fz.le_trans l_269 (Fz.le_trans l_273 (Fz.le_trans l_277 l_281)))))))))))))))))))) rfl
            · skip
              refine .skip ?_
              refine .code ?_
              refine .seq ?_
              refine .region ?_
              refine .loadOA rfl Try.isAgg38 Try.sizeOf38 rfl (i := 4) rfl (vs := (cApiBatch x155 (env78.a 110) (env78.n 110))) (by kernel_rfl) rfl ?_
              refine .move rfl rfl ?_
              refine .call0 rfl Try.call17 rfl rfl rfl (c_bottle_False _ x155 (env78.a 110) (env78.n 110) (h157.mono (Fz.le_trans l_231 (Fz.le_trans l_236 (Fz.le_trans l_240 (Fz.le_trans l_243 (Fz.le_trans l_249 (Fz.le_trans l_253 (Fz.le_trans l_257 (Fz.le_trans l_261 (Fz.le_trans l_265 (Fz.le_trans l_269 (Fz.le_trans l_273 l_277)))))))))))) l_5 p6 k7 (h8.mono (Fz.le_trans l_13 (Fz.le_trans l_18 (Fz.le_trans l_24 (Fz.le_trans l_28 (Fz.le_trans l_36 (Fz.le_trans l_58 (Fz.le_trans l_105 (Fz.le_trans l_153 (Fz.le_trans l_231 (Fz.le_trans l_236 (Fz.le_trans l_240 (Fz.le_trans l_243 (Fz.le_trans l_249 (Fz.le_trans l_253 (Fz.le_trans l_257 (Fz.le_trans l_261 (Fz.le_trans l_265 (Fz.le_trans l_269 (Fz.le_trans l_273 l_277))))))))))))))))))))) ?_
              rintro r_285 F_283 _ - l_284 ⟨p286, k287, rfl, h288⟩
              refine .move rfl rfl ?_
              refine .extract rfl rfl rfl ?_
              refine .extract rfl rfl rfl ?_
              refine .assign rfl rfl ?_
              refine .assign rfl rfl ?_
              refine .nil ?_
              refine .code ?_
              refine .seq ?_
              refine .seq ?_
              refine .region ?_
              refine .move rfl rfl ?_
              refine .neq rfl rfl rfl ?_
              refine .nil ?_
              refine .code ?_
              refine .cond rfl (fun hb289 => ?_) (fun hb289 => ?_)
              · skip
                refine .seq ?_
                refine .region ?_
                refine .assign rfl rfl ?_
                refine .nil ?_
                refine .code ?_
                exact .ret0 Try.results7 (.tmp rfl (.nil)) (i := 3) rfl (Fz.le_trans l_13 (Fz.le_trans l_18 (Fz.le_trans l_24 (Fz.le_trans l_28 (Fz.le_trans l_36 (Fz.le_trans l_58 (Fz.le_trans l_105 (Fz.le_trans l_153 (Fz.le_trans l_231 (Fz.le_trans l_236 (Fz.le_trans l_240 (Fz.le_trans l_243 (Fz.le_trans l_249 (Fz.le_trans l_253 (Fz.le_trans l_257 (Fz.le_trans l_261 (Fz.le_trans l_265 (Fz.le_trans l_269 (Fz.le_trans l_273 (Fz.le_trans l_277 l_284)))))))))))))))))))) rfl
              · skip
                refine .skip ?_
                refine .code ?_
                refine .seq ?_
                refine .seq ?_
                refine .region ?_
                refine .assign rfl rfl ?_
                refine .nil ?_
                refine .code ?_
                refine .block ?_
                refine .keep (.cons (k := 1) rfl (.cons (k := 11) rfl (.cons (k := 23) rfl (.cons (k := 25) rfl (.nil _))))) ?_
                refine .loop (fun (s290 : Int) a w => ∃ (F_291 : Fz), F_283 ≤ F_291 ∧ Hd 243 [] [(1, (.slice p6 l_5.length k7)), (11, (.slice p30 r_29.1.length k31)), (23, (.slice p286 r_285.1.length k287)), (25, (.int .i64 s290))] F_291 [pt b245 (.cells (cApiBottling r_244.1).toArray 56), pt b238 (.cells (cApiBottling r_237.1).toArray 56), pt b26 (.cells (cApiBottling r_25.1).toArray 56), R, pt (env56.n 30) (.cells (cApiBatch x155 (env78.a 110) (env78.n 110)).toArray 38), pt (env56.n 40) (.cells (cApiBatch x158 p2 k3).toArray 38), pt (env56.n 50) (.cells (cApiBatch b229 p232 k233).toArray 38)] a w) (fun b0 e a w => match b0 with | .inl b436 => e = .exit 2 ∧ ∃ (F_437 : Fz), F_283 ≤ F_437 ∧ Hd 243 [] [] F_437 [pt b245 (.cells (cApiBottling r_244.1).toArray 56), pt b238 (.cells (cApiBottling r_237.1).toArray 56), pt b26 (.cells (cApiBottling r_25.1).toArray 56), R, pt (env56.n 30) (.cells (cApiBatch x155 (env78.a 110) (env78.n 110)).toArray 38), pt (env56.n 40) (.cells (cApiBatch x158 p2 k3).toArray 38), pt (env56.n 50) (.cells (cApiBatch b229 p232 k233).toArray 38)] a w | .inr b436 => e = .ret ∧ ∃ (F_439 : Fz), F_283 ≤ F_439 ∧ Hd 243 [] [(8, (.bool b436))] F_439 [R] a w) ?_ ?_ ?_
                · exact fun a w h => ⟨F_283, (Fz.le_refl _), h.1.sub (.cons (k := 1) rfl (.cons (k := 11) rfl (.cons (k := 23) rfl (.cons (k := 25) rfl (.nil _))))), h.2⟩
                · intro s290 ctl
                  refine GC.ex (fun a w ⟨F_291, l_292, hA⟩ => ⟨_, hA, ?_⟩)
                  unfold b_wormtublaw12_BottleLess_2
                  refine .seq ?_
                  refine .seq ?_
                  refine .region ?_
                  refine .move rfl rfl ?_
                  refine .move rfl rfl ?_
                  refine .lenS rfl rfl Try.underlying40 rfl ?_
                  refine .lss rfl rfl rfl ?_
                  refine .nil ?_
                  refine .code ?_
                  refine .cond rfl (fun hb293 => ?_) (fun hb293 => ?_)
                  · skip
                    refine .skip ?_
                    refine .code ?_
                    refine .seq ?_
                    refine .block ?_
                    refine .seq ?_
                    refine .seq ?_
                    refine .region ?_
                    refine .move rfl rfl ?_
                    refine .move rfl rfl ?_
                    refine .idx rfl Try.underlying40 Try.sizeOf3 (h288.mono l_292) rfl rfl (fun x294 b295 o296 T297 fr298 cs299 e300 hm301 hv302 => ?_)
                    refine .loadF rfl Try.isAgg3 rfl hm301 (cell_of_take (k := 0) hv302 rfl) ?_
                    refine .lss rfl rfl rfl ?_
                    refine .move rfl rfl ?_
                    refine .orM (b := (decide (x294 < 0))) 8 212 (fun hb304 z319 => ?_) (fun hb315 => ?_) (fun z318 F_316 l_317 => ?_)
                    · skip
                      refine .onH hb304 rfl rfl ?_
                      refine .move rfl rfl ?_
                      refine .onH hb304 rfl rfl ?_
                      refine .move rfl rfl ?_
                      refine .onH hb304 rfl rfl ?_
                      refine .idx rfl Try.underlying40 Try.sizeOf3 (h288.mono l_292) rfl rfl (fun x305 b306 o307 T308 fr309 cs310 e311 hm312 hv313 => ?_)
                      refine .onH hb304 rfl rfl ?_
                      refine .loadF rfl Try.isAgg3 rfl hm312 (cell_of_take (k := 0) hv313 rfl) ?_
                      refine .onH hb304 rfl rfl ?_
                      refine .move rfl rfl ?_
                      refine .onH hb304 rfl rfl ?_
                      refine .lenS rfl rfl Try.underlying39 rfl ?_
                      refine .onH hb304 rfl rfl ?_
                      refine .geq rfl rfl rfl ?_
                      refine .pickFH hb304 rfl rfl rfl ?_
                      exact .finZ 8 rfl rfl (by kernel_rfl) (Fz.le_refl _)
                    · skip
                      refine .offH hb315 rfl rfl rfl ?_
                      refine .offH hb315 rfl rfl rfl ?_
                      refine .offH hb315 rfl rfl rfl ?_
                      refine .offH hb315 rfl rfl rfl ?_
                      refine .offH hb315 rfl rfl rfl ?_
                      refine .offH hb315 rfl rfl rfl ?_
                      refine .offH hb315 rfl rfl rfl ?_
                      refine .pickTH hb315 rfl rfl rfl ?_
                      exact .fin 8 rfl rfl (by kernel_rfl) (Fz.le_refl _)
                    refine .nil ?_
                    refine .code ?_
                    refine .cond rfl (fun hb320 => ?_) (fun hb320 => ?_)
                    · skip
                      refine .seq ?_
                      refine .region ?_
                      refine .assign rfl rfl ?_
                      refine .nil ?_
                      refine .code ?_
                      refine .drop 6 ?_
                      refine .drop 5 ?_
                      refine .drop 4 ?_
                      refine .drop 2 ?_
                      refine .drop 1 ?_
                      refine .drop 0 ?_
                      refine .retQ (LPost.ret fun a w h => ⟨rfl, F_316, (Fz.le_trans l_292 l_317), h.1.sub (.cons (k := 8) rfl (.nil _)), h.2⟩)
                    · skip
                      refine .skip ?_
                      refine .code ?_
                      refine .seq ?_
                      refine .seq ?_
                      refine .region ?_
                      refine .move rfl rfl ?_
                      refine .move rfl rfl ?_
                      refine .move rfl rfl ?_
                      refine .idx rfl Try.underlying40 Try.sizeOf3 (h288.mono (Fz.le_trans l_292 l_317)) rfl rfl (fun x321 b322 o323 T324 fr325 cs326 e327 hm328 hv329 => ?_)
                      refine .loadF rfl Try.isAgg3 rfl hm328 (cell_of_take (k := 0) hv329 rfl) ?_
                      refine .idx rfl Try.underlying39 Try.sizeOf46 (h8.mono (Fz.le_trans l_13 (Fz.le_trans l_18 (Fz.le_trans l_24 (Fz.le_trans l_28 (Fz.le_trans l_36 (Fz.le_trans l_58 (Fz.le_trans l_105 (Fz.le_trans l_153 (Fz.le_trans l_231 (Fz.le_trans l_236 (Fz.le_trans l_240 (Fz.le_trans l_243 (Fz.le_trans l_249 (Fz.le_trans l_253 (Fz.le_trans l_257 (Fz.le_trans l_261 (Fz.le_trans l_265 (Fz.le_trans l_269 (Fz.le_trans l_273 (Fz.le_trans l_277 (Fz.le_trans l_284 (Fz.le_trans l_292 l_317))))))))))))))))))))))) rfl rfl (fun x331 b332 o333 T334 fr335 cs336 e337 hm338 hv339 => ?_)
                      refine .fieldAddr rfl Try.underlying46 rfl Try.sizeOf3 rfl ?_
                      refine .loadF rfl Try.isAgg3 rfl hm338 (cell_of_take (k := 0) hv339 rfl) ?_
                      refine .gtr rfl rfl rfl ?_
                      refine .nil ?_
                      refine .code ?_
                      refine .cond rfl (fun hb341 => ?_) (fun hb341 => ?_)
                      · skip
                        refine .exit rfl ?_
                        refine .code ?_
                        refine .region ?_
                        refine .move rfl rfl ?_
                        refine .add rfl rfl rfl ?_
                        refine .assignL rfl rfl (fun j342 e343 => ?_)
                        refine .nil ?_
                        exact .nil (LPost.norm fun a w h => ⟨F_316, (Fz.le_trans l_292 l_317), h.1.sub (.cons (k := 1) rfl (.cons (k := 11) rfl (.cons (k := 23) rfl (.cons (k := 25) rfl (.nil _))))), h.2⟩)
                      · skip
                        refine .skip ?_
                        refine .code ?_
                        refine .seq ?_
                        refine .region ?_
                        refine .assign rfl rfl ?_
                        refine .nil ?_
                        refine .keep (.cons (k := 1) rfl (.cons (k := 11) rfl (.cons (k := 23) rfl (.cons (k := 25) rfl (.cons (k := 26) rfl (.nil _)))))) ?_
                        refine .code ?_
                        refine .seq ?_
                        refine .seq ?_
                        refine .region ?_
                        refine .assign rfl rfl ?_
                        refine .nil ?_
                        refine .code ?_
                        refine .block ?_
                        refine .keep (.cons (k := 1) rfl (.cons (k := 11) rfl (.cons (k := 23) rfl (.cons (k := 25) rfl (.cons (k := 26) rfl (.cons (k := 27) rfl (.nil _))))))) ?_
                        refine .loop (fun (s344 : Bool × Int) a w => ∃ (F_345 : Fz), F_316 ≤ F_345 ∧ Hd 243 [] [(1, (.slice p6 l_5.length k7)), (11, (.slice p30 r_29.1.length k31)), (23, (.slice p286 r_285.1.length k287)), (25, (.int .i64 s290)), (26, (.bool s344.1)), (27, (.int .i64 s344.2))] F_345 [pt b245 (.cells (cApiBottling r_244.1).toArray 56), pt b238 (.cells (cApiBottling r_237.1).toArray 56), pt b26 (.cells (cApiBottling r_25.1).toArray 56), R, pt (env56.n 30) (.cells (cApiBatch x155 (env78.a 110) (env78.n 110)).toArray 38), pt (env56.n 40) (.cells (cApiBatch x158 p2 k3).toArray 38), pt (env56.n 50) (.cells (cApiBatch b229 p232 k233).toArray 38)] a w) (fun b430 e a w => e = .exit 4 ∧ ∃ (F_431 : Fz), F_316 ≤ F_431 ∧ Hd 243 [] [(1, (.slice p6 l_5.length k7)), (11, (.slice p30 r_29.1.length k31)), (23, (.slice p286 r_285.1.length k287)), (25, (.int .i64 s290)), (26, (.bool b430))] F_431 [pt b245 (.cells (cApiBottling r_244.1).toArray 56), pt b238 (.cells (cApiBottling r_237.1).toArray 56), pt b26 (.cells (cApiBottling r_25.1).toArray 56), R, pt (env56.n 30) (.cells (cApiBatch x155 (env78.a 110) (env78.n 110)).toArray 38), pt (env56.n 40) (.cells (cApiBatch x158 p2 k3).toArray 38), pt (env56.n 50) (.cells (cApiBatch b229 p232 k233).toArray 38)] a w) ?_ ?_ ?_
                        · exact fun a w h => ⟨F_316, (Fz.le_refl _), h.1.sub (.cons (k := 1) rfl (.cons (k := 11) rfl (.cons (k := 23) rfl (.cons (k := 25) rfl (.cons (k := 26) rfl (.cons (k := 27) rfl (.nil _))))))), h.2⟩
                        · intro s344 ctl
                          refine GC.ex (fun a w ⟨F_345, l_346, hA⟩ => ⟨_, hA, ?_⟩)
                          unfold b_wormtublaw12_BottleLess_3
                          refine .seq ?_
                          refine .seq ?_
                          refine .region ?_
                          refine .move rfl rfl ?_
                          refine .move rfl rfl ?_
                          refine .lenS rfl rfl Try.underlying40 rfl ?_
                          refine .lss rfl rfl rfl ?_
                          refine .nil ?_
                          refine .code ?_
                          refine .cond rfl (fun hb347 => ?_) (fun hb347 => ?_)
                          · skip
                            refine .skip ?_
                            refine .code ?_
                            refine .seq ?_
                            refine .block ?_
                            refine .keep (.cons (k := 1) rfl (.cons (k := 11) rfl (.cons (k := 23) rfl (.cons (k := 25) rfl (.cons (k := 26) rfl (.cons (k := 27) rfl (.nil _))))))) ?_
                            refine GC.join0 (σ := Bool) (fun j425 a w => ∃ (F_426 : Fz), F_345 ≤ F_426 ∧ Hd 243 [] [(1, (.slice p6 l_5.length k7)), (11, (.slice p30 r_29.1.length k31)), (23, (.slice p286 r_285.1.length k287)), (25, (.int .i64 s290)), (26, (.bool j425)), (27, (.int .i64 s344.2))] F_426 [pt b245 (.cells (cApiBottling r_244.1).toArray 56), pt b238 (.cells (cApiBottling r_237.1).toArray 56), pt b26 (.cells (cApiBottling r_25.1).toArray 56), R, pt (env56.n 30) (.cells (cApiBatch x155 (env78.a 110) (env78.n 110)).toArray 38), pt (env56.n 40) (.cells (cApiBatch x158 p2 k3).toArray 38), pt (env56.n 50) (.cells (cApiBatch b229 p232 k233).toArray 38)] a w) (fun sj => ?_) (fun j425 hs0 => GE.ex (fun a w ⟨F_426, l_427, hA⟩ => ⟨_, hA, ?_⟩))
                            · skip
                              refine .ite (fun hb348 => ?_) (fun hb348 => ?_)
                              · skip
                                refine .draw ⟨1000000, 0, [], 0⟩ [(228, (.bool s344.1)), (229, (.bool s344.1)), (230, undef), (231, undef), (232, undef), (233, undef), (234, undef), (235, undef), (236, undef), (237, undef), (238, undef), (239, (.bool true))] mixedOK (by kernel_rfl) (by kernel_rfl) rfl (by kernel_rfl) ?_ (fun F_349 b350 l_351 => ?_)
                                · skip
                                  refine .cons (.mk 228 (.bool s344.1) [(26, (.bool s344.1))] rfl rfl rfl rfl (fun S hS hd => (.cons (hS _ _ rfl) (Sub.nil _))) (fun F_352 X l_353 => ?_)) ?_
                                  · skip
                                    refine .move rfl rfl ?_
                                    exact .fin1 (Fz.le_refl _)
                                  refine .cons (.mk 229 (.bool s344.1) [(228, (.bool s344.1))] rfl rfl rfl rfl (fun S hS hd => (.cons (hd.1 rfl rfl _ _ rfl) (Sub.nil _))) (fun F_354 X l_355 => ?_)) ?_
                                  · skip
                                    refine .move rfl rfl ?_
                                    exact .fin1 (Fz.le_refl _)
                                  refine .cons (.mk 230 undef [(11, (.slice p30 r_29.1.length k31)), (229, (.bool s344.1))] rfl rfl rfl rfl (fun S hS hd => (.cons (hS _ _ rfl) (.cons (hd.1 rfl rfl _ _ rfl) (Sub.nil _)))) (fun F_356 X l_357 => ?_)) ?_
                                  · skip
                                    refine .offH hb348 rfl rfl rfl ?_
                                    exact .fin1 (Fz.le_refl _)
                                  refine .cons (.mk 231 undef [(27, (.int .i64 s344.2)), (229, (.bool s344.1))] rfl rfl rfl rfl (fun S hS hd => (.cons (hS _ _ rfl) (.cons (hd.1 rfl rfl _ _ rfl) (Sub.nil _)))) (fun F_358 X l_359 => ?_)) ?_
                                  · skip
                                    refine .offH hb348 rfl rfl rfl ?_
                                    exact .fin1 (Fz.le_refl _)
                                  refine .cons (.mk 232 undef [(229, (.bool s344.1)), (230, undef), (231, undef)] rfl rfl rfl rfl (fun S hS hd => (.cons (hd.2.2.1 rfl rfl _ _ rfl) (.cons (hd.1 rfl rfl _ _ rfl) (.cons (hd.2.1 rfl rfl _ _ rfl) (Sub.nil _))))) (fun F_360 X l_361 => ?_)) ?_
                                  · skip
                                    refine .offH hb348 rfl rfl rfl ?_
                                    exact .fin1 (Fz.le_refl _)
                                  refine .cons (.mk 233 undef [(229, (.bool s344.1)), (232, undef)] rfl rfl rfl rfl (fun S hS hd => (.cons (hd.2.1 rfl rfl _ _ rfl) (.cons (hd.1 rfl rfl _ _ rfl) (Sub.nil _)))) (fun F_362 X l_363 => ?_)) ?_
                                  · skip
                                    refine .offH hb348 rfl rfl rfl ?_
                                    exact .fin1 (Fz.le_refl _)
                                  refine .cons (.mk 234 undef [(23, (.slice p286 r_285.1.length k287)), (229, (.bool s344.1))] rfl rfl rfl rfl (fun S hS hd => (.cons (hS _ _ rfl) (.cons (hd.1 rfl rfl _ _ rfl) (Sub.nil _)))) (fun F_364 X l_365 => ?_)) ?_
                                  · skip
                                    refine .offH hb348 rfl rfl rfl ?_
                                    exact .fin1 (Fz.le_refl _)
                                  refine .cons (.mk 235 undef [(25, (.int .i64 s290)), (229, (.bool s344.1))] rfl rfl rfl rfl (fun S hS hd => (.cons (hS _ _ rfl) (.cons (hd.1 rfl rfl _ _ rfl) (Sub.nil _)))) (fun F_366 X l_367 => ?_)) ?_
                                  · skip
                                    refine .offH hb348 rfl rfl rfl ?_
                                    exact .fin1 (Fz.le_refl _)
                                  refine .cons (.mk 236 undef [(229, (.bool s344.1)), (234, undef), (235, undef)] rfl rfl rfl rfl (fun S hS hd => (.cons (hd.2.2.1 rfl rfl _ _ rfl) (.cons (hd.1 rfl rfl _ _ rfl) (.cons (hd.2.1 rfl rfl _ _ rfl) (Sub.nil _))))) (fun F_368 X l_369 => ?_)) ?_
                                  · skip
                                    refine .offH hb348 rfl rfl rfl ?_
                                    exact .fin1 (Fz.le_refl _)
                                  refine .cons (.mk 237 undef [(229, (.bool s344.1)), (236, undef)] rfl rfl rfl rfl (fun S hS hd => (.cons (hd.2.1 rfl rfl _ _ rfl) (.cons (hd.1 rfl rfl _ _ rfl) (Sub.nil _)))) (fun F_370 X l_371 => ?_)) ?_
                                  · skip
                                    refine .offH hb348 rfl rfl rfl ?_
                                    exact .fin1 (Fz.le_refl _)
                                  refine .cons (.mk 238 undef [(229, (.bool s344.1)), (233, undef), (237, undef)] rfl rfl rfl rfl (fun S hS hd => (.cons (hd.2.2.1 rfl rfl _ _ rfl) (.cons (hd.1 rfl rfl _ _ rfl) (.cons (hd.2.1 rfl rfl _ _ rfl) (Sub.nil _))))) (fun F_372 X l_373 => ?_)) ?_
                                  · skip
                                    refine .offH hb348 rfl rfl rfl ?_
                                    exact .fin1 (Fz.le_refl _)
                                  refine .cons (.mk 239 (.bool true) [(229, (.bool s344.1)), (238, undef)] rfl rfl rfl rfl (fun S hS hd => (.cons (hd.1 rfl rfl _ _ rfl) (.cons (hd.2.1 rfl rfl _ _ rfl) (Sub.nil _)))) (fun F_374 X l_375 => ?_)) ?_
                                  · skip
                                    refine .pickTH hb348  rfl rfl rfl ?_
                                    exact .fin1 (Fz.le_refl _)
                                  exact .nil
                                refine .assign rfl rfl ?_
                                refine .nil ?_
                                exact .nil fun e a w h => by cases e; exact ⟨rfl, ⟨F_349, l_351, h.1.sub (.cons (k := 1) rfl (.cons (k := 11) rfl (.cons (k := 23) rfl (.cons (k := 25) rfl (.cons (k := 26) rfl (.cons (k := 27) rfl (.nil _))))))), h.2⟩⟩
                              · skip
                                refine .bind (fun x376 e382 => ?_)
                                obtain ⟨b377, o378, T379, fr380, cs381, hm383, hv384, hq385⟩ := RepSl.idxE (h32.mono (Fz.le_trans l_36 (Fz.le_trans l_58 (Fz.le_trans l_105 (Fz.le_trans l_153 (Fz.le_trans l_231 (Fz.le_trans l_236 (Fz.le_trans l_240 (Fz.le_trans l_243 (Fz.le_trans l_249 (Fz.le_trans l_253 (Fz.le_trans l_257 (Fz.le_trans l_261 (Fz.le_trans l_265 (Fz.le_trans l_269 (Fz.le_trans l_273 (Fz.le_trans l_277 (Fz.le_trans l_284 (Fz.le_trans l_292 (Fz.le_trans l_317 l_346)))))))))))))))))))) e382
                                refine .bind (fun x386 e392 => ?_)
                                obtain ⟨b387, o388, T389, fr390, cs391, hm393, hv394, hq395⟩ := RepSl.idxE (h288.mono (Fz.le_trans l_292 (Fz.le_trans l_317 l_346))) e392
                                refine .draw ⟨1000000, 0, [], 0⟩ [(228, (.bool s344.1)), (229, (.bool s344.1)), (230, (.slice p30 r_29.1.length k31)), (231, (.int .i64 s344.2)), (232, (.pointer (some ⟨b377, o378, none⟩))), (233, (.int .i64 x376)), (234, (.slice p286 r_285.1.length k287)), (235, (.int .i64 s290)), (236, (.pointer (some ⟨b387, o388, none⟩))), (237, (.int .i64 x386)), (238, (.bool (x376 == x386))), (239, (.bool (x376 == x386)))] mixedOK (by kernel_rfl) (by kernel_rfl) rfl (by kernel_rfl) ?_ (fun F_396 b397 l_398 => ?_)
                                · skip
                                  refine .cons (.mk 228 (.bool s344.1) [(26, (.bool s344.1))] rfl rfl rfl rfl (fun S hS hd => (.cons (hS _ _ rfl) (Sub.nil _))) (fun F_399 X l_400 => ?_)) ?_
                                  · skip
                                    refine .move rfl rfl ?_
                                    exact .fin1 (Fz.le_refl _)
                                  refine .cons (.mk 229 (.bool s344.1) [(228, (.bool s344.1))] rfl rfl rfl rfl (fun S hS hd => (.cons (hd.1 rfl rfl _ _ rfl) (Sub.nil _))) (fun F_401 X l_402 => ?_)) ?_
                                  · skip
                                    refine .move rfl rfl ?_
                                    exact .fin1 (Fz.le_refl _)
                                  refine .cons (.mk 230 (.slice p30 r_29.1.length k31) [(11, (.slice p30 r_29.1.length k31)), (229, (.bool s344.1))] rfl rfl rfl rfl (fun S hS hd => (.cons (hS _ _ rfl) (.cons (hd.1 rfl rfl _ _ rfl) (Sub.nil _)))) (fun F_403 X l_404 => ?_)) ?_
                                  · skip
                                    refine .onH hb348 rfl rfl ?_
                                    refine .move rfl rfl ?_
                                    exact .fin1 (Fz.le_refl _)
                                  refine .cons (.mk 231 (.int .i64 s344.2) [(27, (.int .i64 s344.2)), (229, (.bool s344.1))] rfl rfl rfl rfl (fun S hS hd => (.cons (hS _ _ rfl) (.cons (hd.1 rfl rfl _ _ rfl) (Sub.nil _)))) (fun F_405 X l_406 => ?_)) ?_
                                  · skip
                                    refine .onH hb348 rfl rfl ?_
                                    refine .move rfl rfl ?_
                                    exact .fin1 (Fz.le_refl _)
                                  refine .cons (.mk 232 (.pointer (some ⟨b377, o378, none⟩)) [(229, (.bool s344.1)), (230, (.slice p30 r_29.1.length k31)), (231, (.int .i64 s344.2))] rfl rfl rfl rfl (fun S hS hd => (.cons (hd.2.2.1 rfl rfl _ _ rfl) (.cons (hd.1 rfl rfl _ _ rfl) (.cons (hd.2.1 rfl rfl _ _ rfl) (Sub.nil _))))) (fun F_407 X l_408 => ?_)) ?_
                                  · skip
                                    refine .onH hb348 rfl rfl ?_
                                    refine .idxQ rfl Try.underlying40 Try.sizeOf3 hq385 rfl rfl ?_
                                    exact .fin1 (Fz.le_refl _)
                                  refine .cons (.mk 233 (.int .i64 x376) [(229, (.bool s344.1)), (232, (.pointer (some ⟨b377, o378, none⟩)))] rfl rfl rfl rfl (fun S hS hd => (.cons (hd.2.1 rfl rfl _ _ rfl) (.cons (hd.1 rfl rfl _ _ rfl) (Sub.nil _)))) (fun F_409 X l_410 => ?_)) ?_
                                  · skip
                                    refine .onH hb348 rfl rfl ?_
                                    refine .loadF rfl Try.isAgg3 rfl (l_410.mem _ _ hm383) (cell_of_take (k := 0) hv384 rfl) ?_
                                    exact .fin1 (Fz.le_refl _)
                                  refine .cons (.mk 234 (.slice p286 r_285.1.length k287) [(23, (.slice p286 r_285.1.length k287)), (229, (.bool s344.1))] rfl rfl rfl rfl (fun S hS hd => (.cons (hS _ _ rfl) (.cons (hd.1 rfl rfl _ _ rfl) (Sub.nil _)))) (fun F_411 X l_412 => ?_)) ?_
                                  · skip
                                    refine .onH hb348 rfl rfl ?_
                                    refine .move rfl rfl ?_
                                    exact .fin1 (Fz.le_refl _)
                                  refine .cons (.mk 235 (.int .i64 s290) [(25, (.int .i64 s290)), (229, (.bool s344.1))] rfl rfl rfl rfl (fun S hS hd => (.cons (hS _ _ rfl) (.cons (hd.1 rfl rfl _ _ rfl) (Sub.nil _)))) (fun F_413 X l_414 => ?_)) ?_
                                  · skip
                                    refine .onH hb348 rfl rfl ?_
                                    refine .move rfl rfl ?_
                                    exact .fin1 (Fz.le_refl _)
                                  refine .cons (.mk 236 (.pointer (some ⟨b387, o388, none⟩)) [(229, (.bool s344.1)), (234, (.slice p286 r_285.1.length k287)), (235, (.int .i64 s290))] rfl rfl rfl rfl (fun S hS hd => (.cons (hd.2.2.1 rfl rfl _ _ rfl) (.cons (hd.1 rfl rfl _ _ rfl) (.cons (hd.2.1 rfl rfl _ _ rfl) (Sub.nil _))))) (fun F_415 X l_416 => ?_)) ?_
                                  · skip
                                    refine .onH hb348 rfl rfl ?_
                                    refine .idxQ rfl Try.underlying40 Try.sizeOf3 hq395 rfl rfl ?_
                                    exact .fin1 (Fz.le_refl _)
                                  refine .cons (.mk 237 (.int .i64 x386) [(229, (.bool s344.1)), (236, (.pointer (some ⟨b387, o388, none⟩)))] rfl rfl rfl rfl (fun S hS hd => (.cons (hd.2.1 rfl rfl _ _ rfl) (.cons (hd.1 rfl rfl _ _ rfl) (Sub.nil _)))) (fun F_417 X l_418 => ?_)) ?_
                                  · skip
                                    refine .onH hb348 rfl rfl ?_
                                    refine .loadF rfl Try.isAgg3 rfl (l_418.mem _ _ hm393) (cell_of_take (k := 0) hv394 rfl) ?_
                                    exact .fin1 (Fz.le_refl _)
                                  refine .cons (.mk 238 (.bool (x376 == x386)) [(229, (.bool s344.1)), (233, (.int .i64 x376)), (237, (.int .i64 x386))] rfl rfl rfl rfl (fun S hS hd => (.cons (hd.2.2.1 rfl rfl _ _ rfl) (.cons (hd.1 rfl rfl _ _ rfl) (.cons (hd.2.1 rfl rfl _ _ rfl) (Sub.nil _))))) (fun F_419 X l_420 => ?_)) ?_
                                  · skip
                                    refine .onH hb348 rfl rfl ?_
                                    refine .eql rfl rfl rfl ?_
                                    exact .fin1 (Fz.le_refl _)
                                  refine .cons (.mk 239 (.bool (x376 == x386)) [(229, (.bool s344.1)), (238, (.bool (x376 == x386)))] rfl rfl rfl rfl (fun S hS hd => (.cons (hd.1 rfl rfl _ _ rfl) (.cons (hd.2.1 rfl rfl _ _ rfl) (Sub.nil _)))) (fun F_421 X l_422 => ?_)) ?_
                                  · skip
                                    refine .pickFH hb348  rfl rfl rfl ?_
                                    exact .fin1 (Fz.le_refl _)
                                  exact .nil
                                refine .assignB rfl rfl (fun found423 e424 => ?_)
                                refine .nil ?_
                                exact .nil fun e a w h => by cases e; exact ⟨rfl, ⟨F_396, l_398, h.1.sub (.cons (k := 1) rfl (.cons (k := 11) rfl (.cons (k := 23) rfl (.cons (k := 25) rfl (.cons (k := 26) rfl (.cons (k := 27) rfl (.nil _))))))), h.2⟩⟩
                            refine .block ?_
                            refine .code ?_
                            refine .region ?_
                            refine .move rfl rfl ?_
                            refine .add rfl rfl rfl ?_
                            refine .assignL rfl rfl (fun m_428 e429 => ?_)
                            refine .nil ?_
                            exact .nil (LPost.norm fun a w h => ⟨F_426, (Fz.le_trans l_346 l_427), h.1.sub (.cons (k := 1) rfl (.cons (k := 11) rfl (.cons (k := 23) rfl (.cons (k := 25) rfl (.cons (k := 26) rfl (.cons (k := 27) rfl (.nil _))))))), h.2⟩)
                          · skip
                            refine .exitOut rfl (LPost.exit fun a w h => ⟨rfl, F_345, l_346, h.1.sub (.cons (k := 1) rfl (.cons (k := 11) rfl (.cons (k := 23) rfl (.cons (k := 25) rfl (.cons (k := 26) rfl (.nil _)))))), h.2⟩)
                        · intro b430 hb0 hk e a w hD
                          obtain ⟨rfl, F_431, l_432, hA⟩ := hD
                          refine interp_exit rfl (GE.app ?_ hk a w hA)
                          refine .code ?_
                          refine .seq ?_
                          refine .region ?_
                          refine .move rfl rfl ?_
                          refine .not rfl rfl ?_
                          refine .nil ?_
                          refine .code ?_
                          refine .cond rfl (fun hb433 => ?_) (fun hb433 => ?_)
                          · skip
                            refine .seq ?_
                            refine .region ?_
                            refine .assign rfl rfl ?_
                            refine .nil ?_
                            refine .code ?_
                            refine .drop 6 ?_
                            refine .drop 5 ?_
                            refine .drop 4 ?_
                            refine .drop 2 ?_
                            refine .drop 1 ?_
                            refine .drop 0 ?_
                            refine .retQ (LPost.ret fun a w h => ⟨rfl, F_431, (Fz.le_trans l_292 (Fz.le_trans l_317 l_432)), h.1.sub (.cons (k := 8) rfl (.nil _)), h.2⟩)
                          · skip
                            refine .skip ?_
                            refine .block ?_
                            refine .code ?_
                            refine .region ?_
                            refine .move rfl rfl ?_
                            refine .add rfl rfl rfl ?_
                            refine .assignL rfl rfl (fun j434 e435 => ?_)
                            refine .nil ?_
                            exact .nil (LPost.norm fun a w h => ⟨F_431, (Fz.le_trans l_292 (Fz.le_trans l_317 l_432)), h.1.sub (.cons (k := 1) rfl (.cons (k := 11) rfl (.cons (k := 23) rfl (.cons (k := 25) rfl (.nil _))))), h.2⟩)
                  · skip
                    refine .exitOut rfl (LPost.exit fun a w h => ⟨rfl, F_291, l_292, h.1.sub (.nil _), h.2⟩)
                · intro b436 hb0 hk e a w hD
                  rcases b436 with b436 | b436
                  · skip
                    obtain ⟨rfl, F_437, l_438, hA⟩ := hD
                    refine interp_exit rfl (GE.app ?_ hk a w hA)
                    refine .code ?_
                    refine .seq ?_
                    refine .region ?_
                    refine .call0 rfl Try.call11 rfl rfl rfl (c_wormtublaw12_awake _ ) ?_
                    rintro r_443 F_441 _ - l_442 rfl
                    refine .assign rfl rfl ?_
                    refine .nil ?_
                    refine .code ?_
                    exact .ret0 Try.results7 (.tmp rfl (.nil)) (i := 3) rfl (Fz.le_trans l_13 (Fz.le_trans l_18 (Fz.le_trans l_24 (Fz.le_trans l_28 (Fz.le_trans l_36 (Fz.le_trans l_58 (Fz.le_trans l_105 (Fz.le_trans l_153 (Fz.le_trans l_231 (Fz.le_trans l_236 (Fz.le_trans l_240 (Fz.le_trans l_243 (Fz.le_trans l_249 (Fz.le_trans l_253 (Fz.le_trans l_257 (Fz.le_trans l_261 (Fz.le_trans l_265 (Fz.le_trans l_269 (Fz.le_trans l_273 (Fz.le_trans l_277 (Fz.le_trans l_284 (Fz.le_trans l_438 l_442)))))))))))))))))))))) rfl
                  obtain ⟨rfl, F_439, l_440, hA⟩ := hD
                  exact interp_ret ((ret_post0 Try.results7 (.tmp rfl (.nil)) (i := 0) rfl (Fz.le_trans l_13 (Fz.le_trans l_18 (Fz.le_trans l_24 (Fz.le_trans l_28 (Fz.le_trans l_36 (Fz.le_trans l_58 (Fz.le_trans l_105 (Fz.le_trans l_153 (Fz.le_trans l_231 (Fz.le_trans l_236 (Fz.le_trans l_240 (Fz.le_trans l_243 (Fz.le_trans l_249 (Fz.le_trans l_253 (Fz.le_trans l_257 (Fz.le_trans l_261 (Fz.le_trans l_265 (Fz.le_trans l_269 (Fz.le_trans l_273 (Fz.le_trans l_277 (Fz.le_trans l_284 l_440))))))))))))))))))))) rfl) hk a w hA)

end Go.Proofs.Ytbomfcghpajaiaa
