/- Printed by gen.py: plain models of the program's functions, and that the code does what they say. -/
import Derived.Test.YtbomfcghpajaiaaS0
import Derived.Test.YtbomfcghpajaiaaS2
namespace Go.Proofs.Ytbomfcghpajaiaa
open Go.Dec

noncomputable def m_wormtublaw12_BottleWater_1 (n_1 : Int) (c2 : ApiBatch) (c8 : Int) (c11 : Int) : Option Bool :=
  bindv ({ c2 with Water := n_1 }) fun x15 => (m_bottle_Blend x15).bind fun r_20 => some (((r_20.2 == 0) && (decide (r_20.1.Strength.Lo ≥ c8))) && (decide (r_20.1.Strength.Hi ≤ c11)))
theorem c_wormtublaw12_BottleWater_1 (F0 : Fz) (n_1 : Int) (c2 : ApiBatch) (b3 : Nat) (p5 : Option Addr) (k6 : Nat) (hb4 : F0.mem b3 = some (.cells (cApiBatch c2 p5 k6).toArray 38)) (h7 : RepSl 27 (Ex cApiDraught) F0 p5 k6 c2.Draughts) (c8 : Int) (b9 : Nat) (hb10 : F0.mem b9 = some (.cells [(.int .i64 c8)].toArray 3)) (c11 : Int) (b12 : Nat) (hb13 : F0.mem b12 = some (.cells [(.int .i64 c11)].toArray 3)) : CT0 Try.prog 23 [(.int .i64 n_1), (.pointer (some ⟨b3, 0, none⟩)), (.pointer (some ⟨b9, 0, none⟩)), (.pointer (some ⟨b12, 0, none⟩))].toArray F0 (m_wormtublaw12_BottleWater_1 n_1 c2 c8 c11) (fun r _ v => v = (.bool r)) := by
  refine CT0.enter Try.func23 rfl Try.ntmps23 rfl fun r R => ?_
  unfold m_wormtublaw12_BottleWater_1
  refine .seq ?_
  refine .region ?_
  refine .assign rfl rfl ?_
  refine .nil ?_
  refine .code ?_
  refine .seq ?_
  refine .region ?_
  refine .loadFA rfl Try.isAgg38 Try.sizeOf38 rfl hb4 (vs := (cApiBatch c2 p5 k6)) (by kernel_rfl) rfl ?_
  refine .alloc (cs := (cApiBatch (ApiBatch.mk ([]) 0 (ApiSpan.mk 0 0) false false) none 0)) rfl Try.zeroValue38 rfl (fun b14 => ?_)
  refine .store (cs' := (cApiBatch c2 p5 k6)) Try.sizeOf38 rfl rfl rfl rfl (i := 0) rfl (Nat.le_of_ble_eq_true rfl) rfl (setMany_all (by rfl)) ?_
  refine .nil ?_
  refine .code ?_
  refine .seq ?_
  refine .region ?_
  refine .move rfl rfl ?_
  refine .fieldAddr rfl Try.underlying38 rfl Try.sizeOf3 rfl ?_
  refine .letv (fun x15 e16 => ?_)
  have h17 : RepSl 27 (Ex cApiDraught) F0 p5 k6 x15.Draughts := by rw [e16]; exact h7
  refine .store (cs' := (cApiBatch x15 p5 k6)) Try.sizeOf3 rfl rfl rfl rfl (i := 0) rfl (Nat.le_of_ble_eq_true rfl) rfl (by rw [e16]; kernel_rfl) ?_
  refine .nil ?_
  refine .code ?_
  refine .seq ?_
  refine .region ?_
  refine .loadOA rfl Try.isAgg38 Try.sizeOf38 rfl (i := 0) rfl (vs := (cApiBatch x15 p5 k6)) (by kernel_rfl) rfl ?_
  refine .call0 rfl Try.call20 rfl rfl rfl (c_bottle_Blend _ x15 p5 k6 h17) ?_
  rintro r_20 F_18 _ - l_19 rfl
  refine .move rfl rfl ?_
  refine .extract rfl rfl rfl ?_
  refine .extract rfl rfl rfl ?_
  refine .alloc (cs := (cApiBottling (ApiBottling.mk (ApiSpan.mk 0 0) (ApiSpan.mk 0 0) 0 (fun _ => 0) (fun _ => 0) 0))) rfl Try.zeroValue56 rfl (fun b21 => ?_)
  refine .store (cs' := (cApiBottling r_20.1)) Try.sizeOf56 rfl rfl rfl rfl (i := 0) rfl (Nat.le_of_ble_eq_true rfl) rfl (setMany_all (by rfl)) ?_
  refine .assign rfl rfl ?_
  refine .nil ?_
  refine .code ?_
  refine .seq ?_
  refine .region ?_
  refine .move rfl rfl ?_
  refine .eql rfl rfl rfl ?_
  refine .move rfl rfl ?_
  refine .andP (b := (r_20.2 == 0)) (b' := (decide (r_20.1.Strength.Lo ≥ c8))) 6 25 (fun hb22 => ?_) (fun hb23 => ?_) (fun F_24 l_25 => ?_)
  · skip
    refine .onH hb22 rfl rfl ?_
    refine .fieldAddr rfl Try.underlying56 rfl Try.sizeOf36 rfl ?_
    refine .onH hb22 rfl rfl ?_
    refine .fieldAddr rfl Try.underlying36 rfl Try.sizeOf3 rfl ?_
    refine .onH hb22 rfl rfl ?_
    refine .loadO rfl Try.isAgg3 rfl (i := 0) rfl rfl ?_
    refine .onH hb22 rfl rfl ?_
    refine .loadF rfl Try.isAgg3 rfl (l_19.mem _ _ hb10) rfl ?_
    refine .onH hb22 rfl rfl ?_
    refine .geq rfl rfl rfl ?_
    refine .pickTH hb22 rfl rfl rfl ?_
    exact .fin 6 rfl rfl (by kernel_rfl) (Fz.le_refl _)
  · skip
    refine .offH hb23 rfl rfl rfl ?_
    refine .offH hb23 rfl rfl rfl ?_
    refine .offH hb23 rfl rfl rfl ?_
    refine .offH hb23 rfl rfl rfl ?_
    refine .offH hb23 rfl rfl rfl ?_
    refine .pickFH hb23 rfl rfl rfl ?_
    exact .fin 6 rfl rfl (by kernel_rfl) (Fz.le_refl _)
  refine .move rfl rfl ?_
  refine .andP (b := ((r_20.2 == 0) && (decide (r_20.1.Strength.Lo ≥ c8)))) (b' := (decide (r_20.1.Strength.Hi ≤ c11))) 6 32 (fun hb26 => ?_) (fun hb27 => ?_) (fun F_28 l_29 => ?_)
  · skip
    refine .onH hb26 rfl rfl ?_
    refine .fieldAddr rfl Try.underlying56 rfl Try.sizeOf36 rfl ?_
    refine .onH hb26 rfl rfl ?_
    refine .fieldAddr rfl Try.underlying36 rfl Try.sizeOf3 rfl ?_
    refine .onH hb26 rfl rfl ?_
    refine .loadO rfl Try.isAgg3 rfl (i := 0) rfl rfl ?_
    refine .onH hb26 rfl rfl ?_
    refine .loadF rfl Try.isAgg3 rfl ((Fz.le_trans l_19 l_25).mem _ _ hb13) rfl ?_
    refine .onH hb26 rfl rfl ?_
    refine .leq rfl rfl rfl ?_
    refine .pickTH hb26 rfl rfl rfl ?_
    exact .fin 6 rfl rfl (by kernel_rfl) (Fz.le_refl _)
  · skip
    refine .offH hb27 rfl rfl rfl ?_
    refine .offH hb27 rfl rfl rfl ?_
    refine .offH hb27 rfl rfl rfl ?_
    refine .offH hb27 rfl rfl rfl ?_
    refine .offH hb27 rfl rfl rfl ?_
    refine .pickFH hb27 rfl rfl rfl ?_
    exact .fin 6 rfl rfl (by kernel_rfl) (Fz.le_refl _)
  refine .assign rfl rfl ?_
  refine .nil ?_
  refine .code ?_
  exact .ret0 Try.results23 (.tmp rfl (.nil)) (i := 2) rfl (Fz.le_trans l_19 (Fz.le_trans l_25 l_29)) rfl

noncomputable def m_wormtublaw12_BottleWater (b1 : ApiBatch) (least5 : Int) (most6 : Int) (by_7 : Int) : Option Bool :=
  if (decide ((b1.Draughts.length : Int) > 16)) then ((m_wormtublaw12_awake).bind fun r_23 => some r_23) else ((m_bottle_Water b1 least5 most6).bind fun r_26 => if ((r_26.2 == 1) || (r_26.2 == 2)) then ((if (eq_36 r_26.1 (ApiSpan.mk 0 0)) then ((m_wormtublaw12_awake).bind fun r_36 => some r_36) else some false).bind fun z40 => some z40) else (bindv (w64 ((Int.tmod by_7 17179869185))) fun n_42 => if (r_26.2 != 0) then ((if ((r_26.2 == 4) && (eq_36 r_26.1 (ApiSpan.mk 0 0))) then ((m_wormtublaw12_BottleWater_1 n_42 b1 least5 most6).bind fun r_52 => some (!r_52)) else some false).bind fun z56 => (if z56 then ((m_wormtublaw12_awake).bind fun r_61 => some r_61) else some false).bind fun z65 => some z65) else ((if (((decide (r_26.1.Lo < 0)) || (decide (r_26.1.Hi > 17179869184))) || (decide (r_26.1.Lo > r_26.1.Hi))) then some true else ((m_wormtublaw12_BottleWater_1 r_26.1.Lo b1 least5 most6).bind fun r_78 => some (!r_78))).bind fun z82 => (if z82 then some true else ((m_wormtublaw12_BottleWater_1 r_26.1.Hi b1 least5 most6).bind fun r_87 => some (!r_87))).bind fun z91 => (if z91 then some true else ((if (decide (r_26.1.Lo > 0)) then ((m_wormtublaw12_BottleWater_1 (w64 (r_26.1.Lo - 1)) b1 least5 most6).bind fun r_97 => some r_97) else some false).bind fun z101 => some z101)).bind fun z106 => (if z106 then some true else ((if (decide (r_26.1.Hi < 17179869184)) then ((m_wormtublaw12_BottleWater_1 (w64 (r_26.1.Hi + 1)) b1 least5 most6).bind fun r_112 => some r_112) else some false).bind fun z116 => some z116)).bind fun z121 => if z121 then (some false) else ((m_wormtublaw12_BottleWater_1 n_42 b1 least5 most6).bind fun r_126 => if (decide (r_26.1.Lo ≤ n_42)) then (if (r_126 == (decide (n_42 ≤ r_26.1.Hi))) then ((m_wormtublaw12_awake).bind fun r_132 => some r_132) else (some false)) else (if (r_126 == false) then ((m_wormtublaw12_awake).bind fun r_217 => some r_217) else (some false))))))
theorem c_wormtublaw12_BottleWater (F0 : Fz) (b1 : ApiBatch) (p2 : Option Addr) (k3 : Nat) (h4 : RepSl 27 (Ex cApiDraught) F0 p2 k3 b1.Draughts) (least5 : Int) (most6 : Int) (by_7 : Int) : CT0 Try.prog 6 [(eApiBatch b1 p2 k3), (.int .i64 least5), (.int .i64 most6), (.int .u64 by_7)].toArray F0 (m_wormtublaw12_BottleWater b1 least5 most6 by_7) (fun r _ v => v = (.bool r)) := by
  refine CT0.enter Try.func6 rfl Try.ntmps6 rfl fun r R => ?_
  unfold m_wormtublaw12_BottleWater
  refine .seq ?_
  refine .region ?_
  refine .boxF (cs := (cApiBatch b1 p2 k3)) rfl rfl rfl (fun b8 F_9 l_10 hb11 => ?_)
  refine .boxF (cs := [(.int .i64 least5)]) rfl rfl rfl (fun b12 F_13 l_14 hb15 => ?_)
  refine .boxF (cs := [(.int .i64 most6)]) rfl rfl rfl (fun b16 F_17 l_18 hb19 => ?_)
  refine .assign rfl rfl ?_
  refine .nil ?_
  refine .code ?_
  refine .seq ?_
  refine .seq ?_
  refine .region ?_
  refine .fieldAddr rfl Try.underlying38 rfl Try.sizeOf34 rfl ?_
  refine .loadF rfl Try.isAgg34 rfl ((Fz.le_trans l_14 l_18).mem _ _ hb11) rfl ?_
  refine .lenS rfl rfl Try.underlying34 rfl ?_
  refine .gtr rfl rfl rfl ?_
  refine .nil ?_
  refine .code ?_
  refine .cond rfl (fun hb20 => ?_) (fun hb20 => ?_)
  · skip
    refine .seq ?_
    refine .region ?_
    refine .call0 rfl Try.call11 rfl rfl rfl (c_wormtublaw12_awake _ ) ?_
    rintro r_23 F_21 _ - l_22 rfl
    refine .assign rfl rfl ?_
    refine .nil ?_
    refine .code ?_
    exact .ret0 Try.results6 (.tmp rfl (.nil)) (i := 0) rfl (Fz.le_trans l_10 (Fz.le_trans l_14 (Fz.le_trans l_18 l_22))) rfl
  · skip
    refine .skip ?_
    refine .code ?_
    refine .seq ?_
    refine .region ?_
    refine .loadFA rfl Try.isAgg38 Try.sizeOf38 rfl ((Fz.le_trans l_14 l_18).mem _ _ hb11) (vs := (cApiBatch b1 p2 k3)) (by kernel_rfl) rfl ?_
    refine .loadF rfl Try.isAgg3 rfl (l_18.mem _ _ hb15) rfl ?_
    refine .loadF rfl Try.isAgg3 rfl hb19 rfl ?_
    refine .call0 rfl Try.call22 rfl rfl rfl (c_bottle_Water _ b1 p2 k3 (h4.mono (Fz.le_trans l_10 (Fz.le_trans l_14 l_18))) least5 most6) ?_
    rintro r_26 F_24 _ - l_25 rfl
    refine .move rfl rfl ?_
    refine .extract rfl rfl rfl ?_
    refine .extract rfl rfl rfl ?_
    refine .alloc (cs := (cApiSpan (ApiSpan.mk 0 0))) rfl Try.zeroValue36 rfl (fun b27 => ?_)
    refine .store (cs' := (cApiSpan r_26.1)) Try.sizeOf36 rfl rfl rfl rfl (i := 0) rfl (Nat.le_of_ble_eq_true rfl) rfl (setMany_all (by rfl)) ?_
    refine .assign rfl rfl ?_
    refine .nil ?_
    refine .code ?_
    refine .seq ?_
    refine .seq ?_
    refine .region ?_
    refine .move rfl rfl ?_
    refine .eql rfl rfl rfl ?_
    refine .move rfl rfl ?_
    refine .orP (b := (r_26.2 == 1)) (b' := (r_26.2 == 2)) 3 30 (fun hb28 => ?_) (fun hb29 => ?_) (fun F_30 l_31 => ?_)
    · skip
      refine .onH hb28 rfl rfl ?_
      refine .move rfl rfl ?_
      refine .onH hb28 rfl rfl ?_
      refine .eql rfl rfl rfl ?_
      refine .pickFH hb28 rfl rfl rfl ?_
      exact .fin 3 rfl rfl (by kernel_rfl) (Fz.le_refl _)
    · skip
      refine .offH hb29 rfl rfl rfl ?_
      refine .offH hb29 rfl rfl rfl ?_
      refine .pickTH hb29 rfl rfl rfl ?_
      exact .fin 3 rfl rfl (by kernel_rfl) (Fz.le_refl _)
    refine .nil ?_
    refine .keep (.cons (k := 3) rfl (.cons (k := 4) rfl (.cons (k := 5) rfl (.cons (k := 6) rfl (.cons (k := 9) rfl (.cons (k := 10) rfl (.cons (k := 30) rfl (.nil _)))))))) ?_
    refine .code ?_
    refine .cond rfl (fun hb32 => ?_) (fun hb32 => ?_)
    · skip
      refine .seq ?_
      refine .region ?_
      refine .loadOA rfl Try.isAgg36 Try.sizeOf36 rfl (i := 0) rfl (vs := (cApiSpan r_26.1)) (by kernel_rfl) rfl ?_
      refine .build (cs := (cApiSpan (ApiSpan.mk 0 0)).toArray) rfl Try.underlying36 Try.zeroValue36 (plApiSpan _ Try.underlying36) rfl rfl (by kernel_rfl) ?_
      refine .eqlR rfl Try.eqGuardType36 (fun w => req_36 r_26.1 (ApiSpan.mk 0 0) w) rfl rfl ?_
      refine .move rfl rfl ?_
      refine .andM (b := (eq_36 r_26.1 (ApiSpan.mk 0 0))) 2 36 (fun hb33 z41 => ?_) (fun hb37 => ?_) (fun z40 F_38 l_39 => ?_)
      · skip
        refine .onH hb33 rfl rfl ?_
        refine .call0 rfl Try.call11 rfl rfl rfl (c_wormtublaw12_awake _ ) ?_
        rintro r_36 F_34 _ - l_35 rfl
        refine .pickTH hb33 rfl rfl rfl ?_
        exact .finZ 2 rfl rfl (by kernel_rfl) l_35
      · skip
        refine .offH hb37 rfl rfl rfl ?_
        refine .pickFH hb37 rfl rfl rfl ?_
        exact .fin 2 rfl rfl (by kernel_rfl) (Fz.le_refl _)
      refine .assign rfl rfl ?_
      refine .nil ?_
      refine .code ?_
      exact .ret0 Try.results6 (.tmp rfl (.nil)) (i := 1) rfl (Fz.le_trans l_10 (Fz.le_trans l_14 (Fz.le_trans l_18 (Fz.le_trans l_25 (Fz.le_trans l_31 l_39))))) rfl
    · skip
      refine .skip ?_
      refine .code ?_
      refine .seq ?_
      refine .region ?_
      refine .makeFunc rfl rfl ?_
      refine .assign rfl rfl ?_
      refine .nil ?_
      refine .code ?_
      refine .seq ?_
      refine .region ?_
      refine .move rfl rfl ?_
      refine .remC rfl (by decide) rfl rfl ?_
      refine .convI rfl Try.underlying64 Try.underlying3 rfl ?_
      refine .assignL rfl rfl (fun n_42 e43 => ?_)
      refine .nil ?_
      refine .code ?_
      refine .seq ?_
      refine .seq ?_
      refine .region ?_
      refine .move rfl rfl ?_
      refine .neq rfl rfl rfl ?_
      refine .nil ?_
      refine .code ?_
      refine .cond rfl (fun hb44 => ?_) (fun hb44 => ?_)
      · skip
        refine .seq ?_
        refine .region ?_
        refine .move rfl rfl ?_
        refine .eql rfl rfl rfl ?_
        refine .move rfl rfl ?_
        refine .andP (b := (r_26.2 == 4)) (b' := (eq_36 r_26.1 (ApiSpan.mk 0 0))) 4 49 (fun hb45 => ?_) (fun hb46 => ?_) (fun F_47 l_48 => ?_)
        · skip
          refine .onH hb45 rfl rfl ?_
          refine .loadOA rfl Try.isAgg36 Try.sizeOf36 rfl (i := 0) rfl (vs := (cApiSpan r_26.1)) (by kernel_rfl) rfl ?_
          refine .onH hb45 rfl rfl ?_
          refine .build (cs := (cApiSpan (ApiSpan.mk 0 0)).toArray) rfl Try.underlying36 Try.zeroValue36 (plApiSpan _ Try.underlying36) rfl rfl (by kernel_rfl) ?_
          refine .onH hb45 rfl rfl ?_
          refine .eqlR rfl Try.eqGuardType36 (fun w => req_36 r_26.1 (ApiSpan.mk 0 0) w) rfl rfl ?_
          refine .pickTH hb45 rfl rfl rfl ?_
          exact .fin 4 rfl rfl (by kernel_rfl) (Fz.le_refl _)
        · skip
          refine .offH hb46 rfl rfl rfl ?_
          refine .offH hb46 rfl rfl rfl ?_
          refine .offH hb46 rfl rfl rfl ?_
          refine .pickFH hb46 rfl rfl rfl ?_
          exact .fin 4 rfl rfl (by kernel_rfl) (Fz.le_refl _)
        refine .move rfl rfl ?_
        refine .andM (b := ((r_26.2 == 4) && (eq_36 r_26.1 (ApiSpan.mk 0 0)))) 5 55 (fun hb49 z57 => ?_) (fun hb53 => ?_) (fun z56 F_54 l_55 => ?_)
        · skip
          refine .onH hb49 rfl rfl ?_
          refine .move rfl rfl ?_
          refine .onH hb49 rfl rfl ?_
          refine .move rfl rfl ?_
          refine .onH hb49 rfl rfl ?_
          refine .call0 rfl Try.call23 rfl rfl rfl (c_wormtublaw12_BottleWater_1 _ n_42 b1 b8 p2 k3 ((Fz.le_trans l_14 (Fz.le_trans l_18 (Fz.le_trans l_25 (Fz.le_trans l_31 l_48)))).mem _ _ hb11) (h4.mono (Fz.le_trans l_10 (Fz.le_trans l_14 (Fz.le_trans l_18 (Fz.le_trans l_25 (Fz.le_trans l_31 l_48)))))) least5 b12 ((Fz.le_trans l_18 (Fz.le_trans l_25 (Fz.le_trans l_31 l_48))).mem _ _ hb15) most6 b16 ((Fz.le_trans l_25 (Fz.le_trans l_31 l_48)).mem _ _ hb19)) ?_
          rintro r_52 F_50 _ - l_51 rfl
          refine .onH hb49 rfl rfl ?_
          refine .not rfl rfl ?_
          refine .pickTH hb49 rfl rfl rfl ?_
          exact .finZ 5 rfl rfl (by kernel_rfl) l_51
        · skip
          refine .offH hb53 rfl rfl rfl ?_
          refine .offH hb53 rfl rfl rfl ?_
          refine .offH hb53 rfl rfl rfl ?_
          refine .offH hb53 rfl rfl rfl ?_
          refine .pickFH hb53 rfl rfl rfl ?_
          exact .fin 5 rfl rfl (by kernel_rfl) (Fz.le_refl _)
        refine .move rfl rfl ?_
        refine .andM (b := z56) 2 58 (fun hb58 z66 => ?_) (fun hb62 => ?_) (fun z65 F_63 l_64 => ?_)
        · skip
          refine .onH hb58 rfl rfl ?_
          refine .call0 rfl Try.call11 rfl rfl rfl (c_wormtublaw12_awake _ ) ?_
          rintro r_61 F_59 _ - l_60 rfl
          refine .pickTH hb58 rfl rfl rfl ?_
          exact .finZ 2 rfl rfl (by kernel_rfl) l_60
        · skip
          refine .offH hb62 rfl rfl rfl ?_
          refine .pickFH hb62 rfl rfl rfl ?_
          exact .fin 2 rfl rfl (by kernel_rfl) (Fz.le_refl _)
        refine .assign rfl rfl ?_
        refine .nil ?_
        refine .code ?_
        exact .ret0 Try.results6 (.tmp rfl (.nil)) (i := 1) rfl (Fz.le_trans l_10 (Fz.le_trans l_14 (Fz.le_trans l_18 (Fz.le_trans l_25 (Fz.le_trans l_31 (Fz.le_trans l_48 (Fz.le_trans l_55 l_64))))))) rfl
      · skip
        refine .skip ?_
        refine .code ?_
        refine .seq ?_
        refine .seq ?_
        refine .region ?_
        refine .fieldAddr rfl Try.underlying36 rfl Try.sizeOf3 rfl ?_
        refine .loadO rfl Try.isAgg3 rfl (i := 0) rfl rfl ?_
        refine .lss rfl rfl rfl ?_
        refine .move rfl rfl ?_
        refine .orP (b := (decide (r_26.1.Lo < 0))) (b' := (decide (r_26.1.Hi > 17179869184))) 4 66 (fun hb67 => ?_) (fun hb68 => ?_) (fun F_69 l_70 => ?_)
        · skip
          refine .onH hb67 rfl rfl ?_
          refine .fieldAddr rfl Try.underlying36 rfl Try.sizeOf3 rfl ?_
          refine .onH hb67 rfl rfl ?_
          refine .loadO rfl Try.isAgg3 rfl (i := 0) rfl rfl ?_
          refine .onH hb67 rfl rfl ?_
          refine .gtr rfl rfl rfl ?_
          refine .pickFH hb67 rfl rfl rfl ?_
          exact .fin 4 rfl rfl (by kernel_rfl) (Fz.le_refl _)
        · skip
          refine .offH hb68 rfl rfl rfl ?_
          refine .offH hb68 rfl rfl rfl ?_
          refine .offH hb68 rfl rfl rfl ?_
          refine .pickTH hb68 rfl rfl rfl ?_
          exact .fin 4 rfl rfl (by kernel_rfl) (Fz.le_refl _)
        refine .move rfl rfl ?_
        refine .orP (b := ((decide (r_26.1.Lo < 0)) || (decide (r_26.1.Hi > 17179869184)))) (b' := (decide (r_26.1.Lo > r_26.1.Hi))) 6 73 (fun hb71 => ?_) (fun hb72 => ?_) (fun F_73 l_74 => ?_)
        · skip
          refine .onH hb71 rfl rfl ?_
          refine .fieldAddr rfl Try.underlying36 rfl Try.sizeOf3 rfl ?_
          refine .onH hb71 rfl rfl ?_
          refine .loadO rfl Try.isAgg3 rfl (i := 0) rfl rfl ?_
          refine .onH hb71 rfl rfl ?_
          refine .fieldAddr rfl Try.underlying36 rfl Try.sizeOf3 rfl ?_
          refine .onH hb71 rfl rfl ?_
          refine .loadO rfl Try.isAgg3 rfl (i := 0) rfl rfl ?_
          refine .onH hb71 rfl rfl ?_
          refine .gtr rfl rfl rfl ?_
          refine .pickFH hb71 rfl rfl rfl ?_
          exact .fin 6 rfl rfl (by kernel_rfl) (Fz.le_refl _)
        · skip
          refine .offH hb72 rfl rfl rfl ?_
          refine .offH hb72 rfl rfl rfl ?_
          refine .offH hb72 rfl rfl rfl ?_
          refine .offH hb72 rfl rfl rfl ?_
          refine .offH hb72 rfl rfl rfl ?_
          refine .pickTH hb72 rfl rfl rfl ?_
          exact .fin 6 rfl rfl (by kernel_rfl) (Fz.le_refl _)
        refine .move rfl rfl ?_
        refine .orM (b := (((decide (r_26.1.Lo < 0)) || (decide (r_26.1.Hi > 17179869184))) || (decide (r_26.1.Lo > r_26.1.Hi)))) 6 80 (fun hb75 z83 => ?_) (fun hb79 => ?_) (fun z82 F_80 l_81 => ?_)
        · skip
          refine .onH hb75 rfl rfl ?_
          refine .move rfl rfl ?_
          refine .onH hb75 rfl rfl ?_
          refine .fieldAddr rfl Try.underlying36 rfl Try.sizeOf3 rfl ?_
          refine .onH hb75 rfl rfl ?_
          refine .loadO rfl Try.isAgg3 rfl (i := 0) rfl rfl ?_
          refine .onH hb75 rfl rfl ?_
          refine .call0 rfl Try.call23 rfl rfl rfl (c_wormtublaw12_BottleWater_1 _ r_26.1.Lo b1 b8 p2 k3 ((Fz.le_trans l_14 (Fz.le_trans l_18 (Fz.le_trans l_25 (Fz.le_trans l_31 (Fz.le_trans l_70 l_74))))).mem _ _ hb11) (h4.mono (Fz.le_trans l_10 (Fz.le_trans l_14 (Fz.le_trans l_18 (Fz.le_trans l_25 (Fz.le_trans l_31 (Fz.le_trans l_70 l_74))))))) least5 b12 ((Fz.le_trans l_18 (Fz.le_trans l_25 (Fz.le_trans l_31 (Fz.le_trans l_70 l_74)))).mem _ _ hb15) most6 b16 ((Fz.le_trans l_25 (Fz.le_trans l_31 (Fz.le_trans l_70 l_74))).mem _ _ hb19)) ?_
          rintro r_78 F_76 _ - l_77 rfl
          refine .onH hb75 rfl rfl ?_
          refine .not rfl rfl ?_
          refine .pickFH hb75 rfl rfl rfl ?_
          exact .finZ 6 rfl rfl (by kernel_rfl) l_77
        · skip
          refine .offH hb79 rfl rfl rfl ?_
          refine .offH hb79 rfl rfl rfl ?_
          refine .offH hb79 rfl rfl rfl ?_
          refine .offH hb79 rfl rfl rfl ?_
          refine .offH hb79 rfl rfl rfl ?_
          refine .pickTH hb79 rfl rfl rfl ?_
          exact .fin 6 rfl rfl (by kernel_rfl) (Fz.le_refl _)
        refine .move rfl rfl ?_
        refine .orM (b := z82) 6 87 (fun hb84 z92 => ?_) (fun hb88 => ?_) (fun z91 F_89 l_90 => ?_)
        · skip
          refine .onH hb84 rfl rfl ?_
          refine .move rfl rfl ?_
          refine .onH hb84 rfl rfl ?_
          refine .fieldAddr rfl Try.underlying36 rfl Try.sizeOf3 rfl ?_
          refine .onH hb84 rfl rfl ?_
          refine .loadO rfl Try.isAgg3 rfl (i := 0) rfl rfl ?_
          refine .onH hb84 rfl rfl ?_
          refine .call0 rfl Try.call23 rfl rfl rfl (c_wormtublaw12_BottleWater_1 _ r_26.1.Hi b1 b8 p2 k3 ((Fz.le_trans l_14 (Fz.le_trans l_18 (Fz.le_trans l_25 (Fz.le_trans l_31 (Fz.le_trans l_70 (Fz.le_trans l_74 l_81)))))).mem _ _ hb11) (h4.mono (Fz.le_trans l_10 (Fz.le_trans l_14 (Fz.le_trans l_18 (Fz.le_trans l_25 (Fz.le_trans l_31 (Fz.le_trans l_70 (Fz.le_trans l_74 l_81)))))))) least5 b12 ((Fz.le_trans l_18 (Fz.le_trans l_25 (Fz.le_trans l_31 (Fz.le_trans l_70 (Fz.le_trans l_74 l_81))))).mem _ _ hb15) most6 b16 ((Fz.le_trans l_25 (Fz.le_trans l_31 (Fz.le_trans l_70 (Fz.le_trans l_74 l_81)))).mem _ _ hb19)) ?_
          rintro r_87 F_85 _ - l_86 rfl
          refine .onH hb84 rfl rfl ?_
          refine .not rfl rfl ?_
          refine .pickFH hb84 rfl rfl rfl ?_
          exact .finZ 6 rfl rfl (by kernel_rfl) l_86
        · skip
          refine .offH hb88 rfl rfl rfl ?_
          refine .offH hb88 rfl rfl rfl ?_
          refine .offH hb88 rfl rfl rfl ?_
          refine .offH hb88 rfl rfl rfl ?_
          refine .offH hb88 rfl rfl rfl ?_
          refine .pickTH hb88 rfl rfl rfl ?_
          exact .fin 6 rfl rfl (by kernel_rfl) (Fz.le_refl _)
        refine .move rfl rfl ?_
        refine .orM (b := z91) 11 99 (fun hb93 z107 => ?_) (fun hb103 => ?_) (fun z106 F_104 l_105 => ?_)
        · skip
          refine .onH hb93 rfl rfl ?_
          refine .fieldAddr rfl Try.underlying36 rfl Try.sizeOf3 rfl ?_
          refine .onH hb93 rfl rfl ?_
          refine .loadO rfl Try.isAgg3 rfl (i := 0) rfl rfl ?_
          refine .onH hb93 rfl rfl ?_
          refine .gtr rfl rfl rfl ?_
          refine .onH hb93 rfl rfl ?_
          refine .move rfl rfl ?_
          refine .andM (b := (decide (r_26.1.Lo > 0))) 6 98 (fun hb94 z102 => ?_) (fun hb98 => ?_) (fun z101 F_99 l_100 => ?_)
          · skip
            refine .onH hb94 rfl rfl ?_
            refine .move rfl rfl ?_
            refine .onH hb94 rfl rfl ?_
            refine .fieldAddr rfl Try.underlying36 rfl Try.sizeOf3 rfl ?_
            refine .onH hb94 rfl rfl ?_
            refine .loadO rfl Try.isAgg3 rfl (i := 0) rfl rfl ?_
            refine .onH hb94 rfl rfl ?_
            refine .sub rfl rfl rfl ?_
            refine .onH hb94 rfl rfl ?_
            refine .call0 rfl Try.call23 rfl rfl rfl (c_wormtublaw12_BottleWater_1 _ (w64 (r_26.1.Lo - 1)) b1 b8 p2 k3 ((Fz.le_trans l_14 (Fz.le_trans l_18 (Fz.le_trans l_25 (Fz.le_trans l_31 (Fz.le_trans l_70 (Fz.le_trans l_74 (Fz.le_trans l_81 l_90))))))).mem _ _ hb11) (h4.mono (Fz.le_trans l_10 (Fz.le_trans l_14 (Fz.le_trans l_18 (Fz.le_trans l_25 (Fz.le_trans l_31 (Fz.le_trans l_70 (Fz.le_trans l_74 (Fz.le_trans l_81 l_90))))))))) least5 b12 ((Fz.le_trans l_18 (Fz.le_trans l_25 (Fz.le_trans l_31 (Fz.le_trans l_70 (Fz.le_trans l_74 (Fz.le_trans l_81 l_90)))))).mem _ _ hb15) most6 b16 ((Fz.le_trans l_25 (Fz.le_trans l_31 (Fz.le_trans l_70 (Fz.le_trans l_74 (Fz.le_trans l_81 l_90))))).mem _ _ hb19)) ?_
            rintro r_97 F_95 _ - l_96 rfl
            refine .onH hb93 rfl rfl ?_
            refine .pickTH hb94 rfl rfl rfl ?_
            exact .finZ 6 rfl rfl (by kernel_rfl) l_96
          · skip
            refine .offH hb98 rfl rfl rfl ?_
            refine .offH hb98 rfl rfl rfl ?_
            refine .offH hb98 rfl rfl rfl ?_
            refine .offH hb98 rfl rfl rfl ?_
            refine .offH hb98 rfl rfl rfl ?_
            refine .onH hb93 rfl rfl ?_
            refine .pickFH hb98 rfl rfl rfl ?_
            exact .fin 6 rfl rfl (by kernel_rfl) (Fz.le_refl _)
          refine .pickFH hb93 rfl rfl rfl ?_
          exact .finZ 6 rfl rfl (by kernel_rfl) l_100
        · skip
          refine .offH hb103 rfl rfl rfl ?_
          refine .offH hb103 rfl rfl rfl ?_
          refine .offH hb103 rfl rfl rfl ?_
          refine .offH hb103 rfl rfl rfl ?_
          refine .off rfl rfl rfl rfl ?_
          refine .off rfl rfl rfl rfl ?_
          refine .off rfl rfl rfl rfl ?_
          refine .off rfl rfl rfl rfl ?_
          refine .off rfl rfl rfl rfl ?_
          refine .offH hb103 rfl rfl rfl ?_
          refine .pickTH hb103 rfl rfl rfl ?_
          exact .fin 11 rfl rfl (by kernel_rfl) (Fz.le_refl _)
        refine .move rfl rfl ?_
        refine .orM (b := z106) 11 111 (fun hb108 z122 => ?_) (fun hb118 => ?_) (fun z121 F_119 l_120 => ?_)
        · skip
          refine .onH hb108 rfl rfl ?_
          refine .fieldAddr rfl Try.underlying36 rfl Try.sizeOf3 rfl ?_
          refine .onH hb108 rfl rfl ?_
          refine .loadO rfl Try.isAgg3 rfl (i := 0) rfl rfl ?_
          refine .onH hb108 rfl rfl ?_
          refine .lss rfl rfl rfl ?_
          refine .onH hb108 rfl rfl ?_
          refine .move rfl rfl ?_
          refine .andM (b := (decide (r_26.1.Hi < 17179869184))) 6 110 (fun hb109 z117 => ?_) (fun hb113 => ?_) (fun z116 F_114 l_115 => ?_)
          · skip
            refine .onH hb109 rfl rfl ?_
            refine .move rfl rfl ?_
            refine .onH hb109 rfl rfl ?_
            refine .fieldAddr rfl Try.underlying36 rfl Try.sizeOf3 rfl ?_
            refine .onH hb109 rfl rfl ?_
            refine .loadO rfl Try.isAgg3 rfl (i := 0) rfl rfl ?_
            refine .onH hb109 rfl rfl ?_
            refine .add rfl rfl rfl ?_
            refine .onH hb109 rfl rfl ?_
            refine .call0 rfl Try.call23 rfl rfl rfl (c_wormtublaw12_BottleWater_1 _ (w64 (r_26.1.Hi + 1)) b1 b8 p2 k3 ((Fz.le_trans l_14 (Fz.le_trans l_18 (Fz.le_trans l_25 (Fz.le_trans l_31 (Fz.le_trans l_70 (Fz.le_trans l_74 (Fz.le_trans l_81 (Fz.le_trans l_90 l_105)))))))).mem _ _ hb11) (h4.mono (Fz.le_trans l_10 (Fz.le_trans l_14 (Fz.le_trans l_18 (Fz.le_trans l_25 (Fz.le_trans l_31 (Fz.le_trans l_70 (Fz.le_trans l_74 (Fz.le_trans l_81 (Fz.le_trans l_90 l_105)))))))))) least5 b12 ((Fz.le_trans l_18 (Fz.le_trans l_25 (Fz.le_trans l_31 (Fz.le_trans l_70 (Fz.le_trans l_74 (Fz.le_trans l_81 (Fz.le_trans l_90 l_105))))))).mem _ _ hb15) most6 b16 ((Fz.le_trans l_25 (Fz.le_trans l_31 (Fz.le_trans l_70 (Fz.le_trans l_74 (Fz.le_trans l_81 (Fz.le_trans l_90 l_105)))))).mem _ _ hb19)) ?_
            rintro r_112 F_110 _ - l_111 rfl
            refine .onH hb108 rfl rfl ?_
            refine .pickTH hb109 rfl rfl rfl ?_
            exact .finZ 6 rfl rfl (by kernel_rfl) l_111
          · skip
            refine .offH hb113 rfl rfl rfl ?_
            refine .offH hb113 rfl rfl rfl ?_
            refine .offH hb113 rfl rfl rfl ?_
            refine .offH hb113 rfl rfl rfl ?_
            refine .offH hb113 rfl rfl rfl ?_
            refine .onH hb108 rfl rfl ?_
            refine .pickFH hb113 rfl rfl rfl ?_
            exact .fin 6 rfl rfl (by kernel_rfl) (Fz.le_refl _)
          refine .pickFH hb108 rfl rfl rfl ?_
          exact .finZ 6 rfl rfl (by kernel_rfl) l_115
        · skip
          refine .offH hb118 rfl rfl rfl ?_
          refine .offH hb118 rfl rfl rfl ?_
          refine .offH hb118 rfl rfl rfl ?_
          refine .offH hb118 rfl rfl rfl ?_
          refine .off rfl rfl rfl rfl ?_
          refine .off rfl rfl rfl rfl ?_
          refine .off rfl rfl rfl rfl ?_
          refine .off rfl rfl rfl rfl ?_
          refine .off rfl rfl rfl rfl ?_
          refine .offH hb118 rfl rfl rfl ?_
          refine .pickTH hb118 rfl rfl rfl ?_
          exact .fin 11 rfl rfl (by kernel_rfl) (Fz.le_refl _)
        refine .nil ?_
        refine .keep (.cons (k := 9) rfl (.cons (k := 11) rfl (.cons (k := 12) rfl (.cons (k := 111) rfl (.nil _))))) ?_
        refine .code ?_
        refine .cond rfl (fun hb123 => ?_) (fun hb123 => ?_)
        · skip
          refine .seq ?_
          refine .region ?_
          refine .assign rfl rfl ?_
          refine .nil ?_
          refine .code ?_
          exact .ret0 Try.results6 (.tmp rfl (.nil)) (i := 1) rfl (Fz.le_trans l_10 (Fz.le_trans l_14 (Fz.le_trans l_18 (Fz.le_trans l_25 (Fz.le_trans l_31 (Fz.le_trans l_70 (Fz.le_trans l_74 (Fz.le_trans l_81 (Fz.le_trans l_90 (Fz.le_trans l_105 l_120)))))))))) rfl
        · skip
          refine .skip ?_
          refine .code ?_
          refine .seq ?_
          refine .keep (.cons (k := 9) rfl (.cons (k := 11) rfl (.cons (k := 12) rfl (.nil _)))) ?_
          refine .bind (fun r_126 hx127 => ?_)
          refine .ite (fun hb128 => ?_) (fun hb128 => ?_)
          · skip
            refine .ite (fun hb129 => ?_) (fun hb129 => ?_)
            · skip
              refine .bind (fun r_132 hx133 => ?_)
              refine .draw ⟨1000000, 0, [], 0⟩ [(112, (.func (.func 23) #[] [(.pointer (some ⟨b8, 0, none⟩)), (.pointer (some ⟨b12, 0, none⟩)), (.pointer (some ⟨b16, 0, none⟩))].toArray)), (113, (.int .i64 n_42)), (114, (.bool r_126)), (115, (.pointer (some ⟨b27, 0 + 0, none⟩))), (116, (.int .i64 r_26.1.Lo)), (117, (.int .i64 n_42)), (118, (.bool (decide (r_26.1.Lo ≤ n_42)))), (119, (.bool (decide (r_26.1.Lo ≤ n_42)))), (120, (.int .i64 n_42)), (121, (.pointer (some ⟨b27, 0 + 1, none⟩))), (122, (.int .i64 r_26.1.Hi)), (123, (.bool (decide (n_42 ≤ r_26.1.Hi)))), (124, (.bool (decide (n_42 ≤ r_26.1.Hi)))), (125, (.bool (r_126 == (decide (n_42 ≤ r_26.1.Hi))))), (126, (.bool (r_126 == (decide (n_42 ≤ r_26.1.Hi))))), (127, (.bool r_132)), (128, (.bool r_132))] mixedOK (by kernel_rfl) (by kernel_rfl) rfl (by kernel_rfl) ?_ (fun F_134 b135 l_136 => ?_)
              · skip
                refine .cons (.mk 112 (.func (.func 23) #[] [(.pointer (some ⟨b8, 0, none⟩)), (.pointer (some ⟨b12, 0, none⟩)), (.pointer (some ⟨b16, 0, none⟩))].toArray) [(11, (.func (.func 23) #[] [(.pointer (some ⟨b8, 0, none⟩)), (.pointer (some ⟨b12, 0, none⟩)), (.pointer (some ⟨b16, 0, none⟩))].toArray))] rfl rfl rfl rfl (fun S hS hd => (.cons (hS _ _ rfl) (Sub.nil _))) (fun F_137 X l_138 => ?_)) ?_
                · skip
                  refine .move rfl rfl ?_
                  exact .fin1 (Fz.le_refl _)
                refine .cons (.mk 113 (.int .i64 n_42) [(12, (.int .i64 n_42))] rfl rfl rfl rfl (fun S hS hd => (.cons (hS _ _ rfl) (Sub.nil _))) (fun F_139 X l_140 => ?_)) ?_
                · skip
                  refine .move rfl rfl ?_
                  exact .fin1 (Fz.le_refl _)
                refine .cons (.mk 114 (.bool r_126) [(112, (.func (.func 23) #[] [(.pointer (some ⟨b8, 0, none⟩)), (.pointer (some ⟨b12, 0, none⟩)), (.pointer (some ⟨b16, 0, none⟩))].toArray)), (113, (.int .i64 n_42))] rfl rfl rfl rfl (fun S hS hd => (.cons (hd.1 rfl rfl _ _ rfl) (.cons (hd.2.1 rfl rfl _ _ rfl) (Sub.nil _)))) (fun F_141 X l_142 => ?_)) ?_
                · skip
                  refine .callK hx127 rfl Try.call23 rfl rfl rfl (c_wormtublaw12_BottleWater_1 _ n_42 b1 b8 p2 k3 ((Fz.le_trans l_14 (Fz.le_trans l_18 (Fz.le_trans l_25 (Fz.le_trans l_31 (Fz.le_trans l_70 (Fz.le_trans l_74 (Fz.le_trans l_81 (Fz.le_trans l_90 (Fz.le_trans l_105 (Fz.le_trans l_120 l_142)))))))))).mem _ _ hb11) (h4.mono (Fz.le_trans l_10 (Fz.le_trans l_14 (Fz.le_trans l_18 (Fz.le_trans l_25 (Fz.le_trans l_31 (Fz.le_trans l_70 (Fz.le_trans l_74 (Fz.le_trans l_81 (Fz.le_trans l_90 (Fz.le_trans l_105 (Fz.le_trans l_120 l_142)))))))))))) least5 b12 ((Fz.le_trans l_18 (Fz.le_trans l_25 (Fz.le_trans l_31 (Fz.le_trans l_70 (Fz.le_trans l_74 (Fz.le_trans l_81 (Fz.le_trans l_90 (Fz.le_trans l_105 (Fz.le_trans l_120 l_142))))))))).mem _ _ hb15) most6 b16 ((Fz.le_trans l_25 (Fz.le_trans l_31 (Fz.le_trans l_70 (Fz.le_trans l_74 (Fz.le_trans l_81 (Fz.le_trans l_90 (Fz.le_trans l_105 (Fz.le_trans l_120 l_142)))))))).mem _ _ hb19)) ?_
                  rintro F_143 _ l_144 rfl
                  exact .fin1 l_144
                refine .cons (.mk 115 (.pointer (some ⟨b27, 0 + 0, none⟩)) [(9, (.pointer (some ⟨b27, 0, none⟩)))] rfl rfl rfl rfl (fun S hS hd => (.cons (hS _ _ rfl) (Sub.nil _))) (fun F_145 X l_146 => ?_)) ?_
                · skip
                  refine .fieldAddr rfl Try.underlying36 rfl Try.sizeOf3 rfl ?_
                  exact .fin1 (Fz.le_refl _)
                refine .cons (.mk 116 (.int .i64 r_26.1.Lo) [(115, (.pointer (some ⟨b27, 0 + 0, none⟩)))] rfl rfl rfl rfl (fun S hS hd => (.cons (hd.1 rfl rfl _ _ rfl) (Sub.nil _))) (fun F_147 X l_148 => ?_)) ?_
                · skip
                  refine .loadO rfl Try.isAgg3 rfl (i := 0) rfl rfl ?_
                  exact .fin1 (Fz.le_refl _)
                refine .cons (.mk 117 (.int .i64 n_42) [(12, (.int .i64 n_42))] rfl rfl rfl rfl (fun S hS hd => (.cons (hS _ _ rfl) (Sub.nil _))) (fun F_149 X l_150 => ?_)) ?_
                · skip
                  refine .move rfl rfl ?_
                  exact .fin1 (Fz.le_refl _)
                refine .cons (.mk 118 (.bool (decide (r_26.1.Lo ≤ n_42))) [(116, (.int .i64 r_26.1.Lo)), (117, (.int .i64 n_42))] rfl rfl rfl rfl (fun S hS hd => (.cons (hd.1 rfl rfl _ _ rfl) (.cons (hd.2.1 rfl rfl _ _ rfl) (Sub.nil _)))) (fun F_151 X l_152 => ?_)) ?_
                · skip
                  refine .leq rfl rfl rfl ?_
                  exact .fin1 (Fz.le_refl _)
                refine .cons (.mk 119 (.bool (decide (r_26.1.Lo ≤ n_42))) [(118, (.bool (decide (r_26.1.Lo ≤ n_42))))] rfl rfl rfl rfl (fun S hS hd => (.cons (hd.1 rfl rfl _ _ rfl) (Sub.nil _))) (fun F_153 X l_154 => ?_)) ?_
                · skip
                  refine .move rfl rfl ?_
                  exact .fin1 (Fz.le_refl _)
                refine .cons (.mk 120 (.int .i64 n_42) [(12, (.int .i64 n_42)), (119, (.bool (decide (r_26.1.Lo ≤ n_42))))] rfl rfl rfl rfl (fun S hS hd => (.cons (hS _ _ rfl) (.cons (hd.1 rfl rfl _ _ rfl) (Sub.nil _)))) (fun F_155 X l_156 => ?_)) ?_
                · skip
                  refine .onH hb128 rfl rfl ?_
                  refine .move rfl rfl ?_
                  exact .fin1 (Fz.le_refl _)
                refine .cons (.mk 121 (.pointer (some ⟨b27, 0 + 1, none⟩)) [(9, (.pointer (some ⟨b27, 0, none⟩))), (119, (.bool (decide (r_26.1.Lo ≤ n_42))))] rfl rfl rfl rfl (fun S hS hd => (.cons (hS _ _ rfl) (.cons (hd.1 rfl rfl _ _ rfl) (Sub.nil _)))) (fun F_157 X l_158 => ?_)) ?_
                · skip
                  refine .onH hb128 rfl rfl ?_
                  refine .fieldAddr rfl Try.underlying36 rfl Try.sizeOf3 rfl ?_
                  exact .fin1 (Fz.le_refl _)
                refine .cons (.mk 122 (.int .i64 r_26.1.Hi) [(119, (.bool (decide (r_26.1.Lo ≤ n_42)))), (121, (.pointer (some ⟨b27, 0 + 1, none⟩)))] rfl rfl rfl rfl (fun S hS hd => (.cons (hd.2.1 rfl rfl _ _ rfl) (.cons (hd.1 rfl rfl _ _ rfl) (Sub.nil _)))) (fun F_159 X l_160 => ?_)) ?_
                · skip
                  refine .onH hb128 rfl rfl ?_
                  refine .loadO rfl Try.isAgg3 rfl (i := 0) rfl rfl ?_
                  exact .fin1 (Fz.le_refl _)
                refine .cons (.mk 123 (.bool (decide (n_42 ≤ r_26.1.Hi))) [(119, (.bool (decide (r_26.1.Lo ≤ n_42)))), (120, (.int .i64 n_42)), (122, (.int .i64 r_26.1.Hi))] rfl rfl rfl rfl (fun S hS hd => (.cons (hd.2.2.1 rfl rfl _ _ rfl) (.cons (hd.1 rfl rfl _ _ rfl) (.cons (hd.2.1 rfl rfl _ _ rfl) (Sub.nil _))))) (fun F_161 X l_162 => ?_)) ?_
                · skip
                  refine .onH hb128 rfl rfl ?_
                  refine .leq rfl rfl rfl ?_
                  exact .fin1 (Fz.le_refl _)
                refine .cons (.mk 124 (.bool (decide (n_42 ≤ r_26.1.Hi))) [(119, (.bool (decide (r_26.1.Lo ≤ n_42)))), (123, (.bool (decide (n_42 ≤ r_26.1.Hi))))] rfl rfl rfl rfl (fun S hS hd => (.cons (hd.1 rfl rfl _ _ rfl) (.cons (hd.2.1 rfl rfl _ _ rfl) (Sub.nil _)))) (fun F_163 X l_164 => ?_)) ?_
                · skip
                  refine .pickTH hb128  rfl rfl rfl ?_
                  exact .fin1 (Fz.le_refl _)
                refine .cons (.mk 125 (.bool (r_126 == (decide (n_42 ≤ r_26.1.Hi)))) [(114, (.bool r_126)), (124, (.bool (decide (n_42 ≤ r_26.1.Hi))))] rfl rfl rfl rfl (fun S hS hd => (.cons (hd.1 rfl rfl _ _ rfl) (.cons (hd.2.1 rfl rfl _ _ rfl) (Sub.nil _)))) (fun F_165 X l_166 => ?_)) ?_
                · skip
                  refine .eqlB rfl Try.underlying4 rfl rfl ?_
                  exact .fin1 (Fz.le_refl _)
                refine .cons (.mk 126 (.bool (r_126 == (decide (n_42 ≤ r_26.1.Hi)))) [(125, (.bool (r_126 == (decide (n_42 ≤ r_26.1.Hi)))))] rfl rfl rfl rfl (fun S hS hd => (.cons (hd.1 rfl rfl _ _ rfl) (Sub.nil _))) (fun F_167 X l_168 => ?_)) ?_
                · skip
                  refine .move rfl rfl ?_
                  exact .fin1 (Fz.le_refl _)
                refine .cons (.mk 127 (.bool r_132) [(126, (.bool (r_126 == (decide (n_42 ≤ r_26.1.Hi)))))] rfl rfl rfl rfl (fun S hS hd => (.cons (hd.1 rfl rfl _ _ rfl) (Sub.nil _))) (fun F_169 X l_170 => ?_)) ?_
                · skip
                  refine .onH hb129 rfl rfl ?_
                  refine .callK hx133 rfl Try.call11 rfl rfl rfl (c_wormtublaw12_awake _ ) ?_
                  rintro F_171 _ l_172 rfl
                  exact .fin1 l_172
                refine .cons (.mk 128 (.bool r_132) [(126, (.bool (r_126 == (decide (n_42 ≤ r_26.1.Hi))))), (127, (.bool r_132))] rfl rfl rfl rfl (fun S hS hd => (.cons (hd.1 rfl rfl _ _ rfl) (.cons (hd.2.1 rfl rfl _ _ rfl) (Sub.nil _)))) (fun F_173 X l_174 => ?_)) ?_
                · skip
                  refine .pickTH hb129  rfl rfl rfl ?_
                  exact .fin1 (Fz.le_refl _)
                exact .nil
              refine .assign rfl rfl ?_
              refine .nil ?_
              refine .code ?_
              exact .ret0 Try.results6 (.tmp rfl (.nil)) (i := 1) rfl (Fz.le_trans l_10 (Fz.le_trans l_14 (Fz.le_trans l_18 (Fz.le_trans l_25 (Fz.le_trans l_31 (Fz.le_trans l_70 (Fz.le_trans l_74 (Fz.le_trans l_81 (Fz.le_trans l_90 (Fz.le_trans l_105 (Fz.le_trans l_120 l_136))))))))))) rfl
            · skip
              refine .draw ⟨1000000, 0, [], 0⟩ [(112, (.func (.func 23) #[] [(.pointer (some ⟨b8, 0, none⟩)), (.pointer (some ⟨b12, 0, none⟩)), (.pointer (some ⟨b16, 0, none⟩))].toArray)), (113, (.int .i64 n_42)), (114, (.bool r_126)), (115, (.pointer (some ⟨b27, 0 + 0, none⟩))), (116, (.int .i64 r_26.1.Lo)), (117, (.int .i64 n_42)), (118, (.bool (decide (r_26.1.Lo ≤ n_42)))), (119, (.bool (decide (r_26.1.Lo ≤ n_42)))), (120, (.int .i64 n_42)), (121, (.pointer (some ⟨b27, 0 + 1, none⟩))), (122, (.int .i64 r_26.1.Hi)), (123, (.bool (decide (n_42 ≤ r_26.1.Hi)))), (124, (.bool (decide (n_42 ≤ r_26.1.Hi)))), (125, (.bool (r_126 == (decide (n_42 ≤ r_26.1.Hi))))), (126, (.bool (r_126 == (decide (n_42 ≤ r_26.1.Hi))))), (127, undef), (128, (.bool false))] mixedOK (by kernel_rfl) (by kernel_rfl) rfl (by kernel_rfl) ?_ (fun F_175 b176 l_177 => ?_)
              · skip
                refine .cons (.mk 112 (.func (.func 23) #[] [(.pointer (some ⟨b8, 0, none⟩)), (.pointer (some ⟨b12, 0, none⟩)), (.pointer (some ⟨b16, 0, none⟩))].toArray) [(11, (.func (.func 23) #[] [(.pointer (some ⟨b8, 0, none⟩)), (.pointer (some ⟨b12, 0, none⟩)), (.pointer (some ⟨b16, 0, none⟩))].toArray))] rfl rfl rfl rfl (fun S hS hd => (.cons (hS _ _ rfl) (Sub.nil _))) (fun F_178 X l_179 => ?_)) ?_
                · skip
                  refine .move rfl rfl ?_
                  exact .fin1 (Fz.le_refl _)
                refine .cons (.mk 113 (.int .i64 n_42) [(12, (.int .i64 n_42))] rfl rfl rfl rfl (fun S hS hd => (.cons (hS _ _ rfl) (Sub.nil _))) (fun F_180 X l_181 => ?_)) ?_
                · skip
                  refine .move rfl rfl ?_
                  exact .fin1 (Fz.le_refl _)
                refine .cons (.mk 114 (.bool r_126) [(112, (.func (.func 23) #[] [(.pointer (some ⟨b8, 0, none⟩)), (.pointer (some ⟨b12, 0, none⟩)), (.pointer (some ⟨b16, 0, none⟩))].toArray)), (113, (.int .i64 n_42))] rfl rfl rfl rfl (fun S hS hd => (.cons (hd.1 rfl rfl _ _ rfl) (.cons (hd.2.1 rfl rfl _ _ rfl) (Sub.nil _)))) (fun F_182 X l_183 => ?_)) ?_
                · skip
                  refine .callK hx127 rfl Try.call23 rfl rfl rfl (c_wormtublaw12_BottleWater_1 _ n_42 b1 b8 p2 k3 ((Fz.le_trans l_14 (Fz.le_trans l_18 (Fz.le_trans l_25 (Fz.le_trans l_31 (Fz.le_trans l_70 (Fz.le_trans l_74 (Fz.le_trans l_81 (Fz.le_trans l_90 (Fz.le_trans l_105 (Fz.le_trans l_120 l_183)))))))))).mem _ _ hb11) (h4.mono (Fz.le_trans l_10 (Fz.le_trans l_14 (Fz.le_trans l_18 (Fz.le_trans l_25 (Fz.le_trans l_31 (Fz.le_trans l_70 (Fz.le_trans l_74 (Fz.le_trans l_81 (Fz.le_trans l_90 (Fz.le_trans l_105 (Fz.le_trans l_120 l_183)))))))))))) least5 b12 ((Fz.le_trans l_18 (Fz.le_trans l_25 (Fz.le_trans l_31 (Fz.le_trans l_70 (Fz.le_trans l_74 (Fz.le_trans l_81 (Fz.le_trans l_90 (Fz.le_trans l_105 (Fz.le_trans l_120 l_183))))))))).mem _ _ hb15) most6 b16 ((Fz.le_trans l_25 (Fz.le_trans l_31 (Fz.le_trans l_70 (Fz.le_trans l_74 (Fz.le_trans l_81 (Fz.le_trans l_90 (Fz.le_trans l_105 (Fz.le_trans l_120 l_183)))))))).mem _ _ hb19)) ?_
                  rintro F_184 _ l_185 rfl
                  exact .fin1 l_185
                refine .cons (.mk 115 (.pointer (some ⟨b27, 0 + 0, none⟩)) [(9, (.pointer (some ⟨b27, 0, none⟩)))] rfl rfl rfl rfl (fun S hS hd => (.cons (hS _ _ rfl) (Sub.nil _))) (fun F_186 X l_187 => ?_)) ?_
                · skip
                  refine .fieldAddr rfl Try.underlying36 rfl Try.sizeOf3 rfl ?_
                  exact .fin1 (Fz.le_refl _)
                refine .cons (.mk 116 (.int .i64 r_26.1.Lo) [(115, (.pointer (some ⟨b27, 0 + 0, none⟩)))] rfl rfl rfl rfl (fun S hS hd => (.cons (hd.1 rfl rfl _ _ rfl) (Sub.nil _))) (fun F_188 X l_189 => ?_)) ?_
                · skip
                  refine .loadO rfl Try.isAgg3 rfl (i := 0) rfl rfl ?_
                  exact .fin1 (Fz.le_refl _)
                refine .cons (.mk 117 (.int .i64 n_42) [(12, (.int .i64 n_42))] rfl rfl rfl rfl (fun S hS hd => (.cons (hS _ _ rfl) (Sub.nil _))) (fun F_190 X l_191 => ?_)) ?_
                · skip
                  refine .move rfl rfl ?_
                  exact .fin1 (Fz.le_refl _)
                refine .cons (.mk 118 (.bool (decide (r_26.1.Lo ≤ n_42))) [(116, (.int .i64 r_26.1.Lo)), (117, (.int .i64 n_42))] rfl rfl rfl rfl (fun S hS hd => (.cons (hd.1 rfl rfl _ _ rfl) (.cons (hd.2.1 rfl rfl _ _ rfl) (Sub.nil _)))) (fun F_192 X l_193 => ?_)) ?_
                · skip
                  refine .leq rfl rfl rfl ?_
                  exact .fin1 (Fz.le_refl _)
                refine .cons (.mk 119 (.bool (decide (r_26.1.Lo ≤ n_42))) [(118, (.bool (decide (r_26.1.Lo ≤ n_42))))] rfl rfl rfl rfl (fun S hS hd => (.cons (hd.1 rfl rfl _ _ rfl) (Sub.nil _))) (fun F_194 X l_195 => ?_)) ?_
                · skip
                  refine .move rfl rfl ?_
                  exact .fin1 (Fz.le_refl _)
                refine .cons (.mk 120 (.int .i64 n_42) [(12, (.int .i64 n_42)), (119, (.bool (decide (r_26.1.Lo ≤ n_42))))] rfl rfl rfl rfl (fun S hS hd => (.cons (hS _ _ rfl) (.cons (hd.1 rfl rfl _ _ rfl) (Sub.nil _)))) (fun F_196 X l_197 => ?_)) ?_
                · skip
                  refine .onH hb128 rfl rfl ?_
                  refine .move rfl rfl ?_
                  exact .fin1 (Fz.le_refl _)
                refine .cons (.mk 121 (.pointer (some ⟨b27, 0 + 1, none⟩)) [(9, (.pointer (some ⟨b27, 0, none⟩))), (119, (.bool (decide (r_26.1.Lo ≤ n_42))))] rfl rfl rfl rfl (fun S hS hd => (.cons (hS _ _ rfl) (.cons (hd.1 rfl rfl _ _ rfl) (Sub.nil _)))) (fun F_198 X l_199 => ?_)) ?_
                · skip
                  refine .onH hb128 rfl rfl ?_
                  refine .fieldAddr rfl Try.underlying36 rfl Try.sizeOf3 rfl ?_
                  exact .fin1 (Fz.le_refl _)
                refine .cons (.mk 122 (.int .i64 r_26.1.Hi) [(119, (.bool (decide (r_26.1.Lo ≤ n_42)))), (121, (.pointer (some ⟨b27, 0 + 1, none⟩)))] rfl rfl rfl rfl (fun S hS hd => (.cons (hd.2.1 rfl rfl _ _ rfl) (.cons (hd.1 rfl rfl _ _ rfl) (Sub.nil _)))) (fun F_200 X l_201 => ?_)) ?_
                · skip
                  refine .onH hb128 rfl rfl ?_
                  refine .loadO rfl Try.isAgg3 rfl (i := 0) rfl rfl ?_
                  exact .fin1 (Fz.le_refl _)
                refine .cons (.mk 123 (.bool (decide (n_42 ≤ r_26.1.Hi))) [(119, (.bool (decide (r_26.1.Lo ≤ n_42)))), (120, (.int .i64 n_42)), (122, (.int .i64 r_26.1.Hi))] rfl rfl rfl rfl (fun S hS hd => (.cons (hd.2.2.1 rfl rfl _ _ rfl) (.cons (hd.1 rfl rfl _ _ rfl) (.cons (hd.2.1 rfl rfl _ _ rfl) (Sub.nil _))))) (fun F_202 X l_203 => ?_)) ?_
                · skip
                  refine .onH hb128 rfl rfl ?_
                  refine .leq rfl rfl rfl ?_
                  exact .fin1 (Fz.le_refl _)
                refine .cons (.mk 124 (.bool (decide (n_42 ≤ r_26.1.Hi))) [(119, (.bool (decide (r_26.1.Lo ≤ n_42)))), (123, (.bool (decide (n_42 ≤ r_26.1.Hi))))] rfl rfl rfl rfl (fun S hS hd => (.cons (hd.1 rfl rfl _ _ rfl) (.cons (hd.2.1 rfl rfl _ _ rfl) (Sub.nil _)))) (fun F_204 X l_205 => ?_)) ?_
                · skip
                  refine .pickTH hb128  rfl rfl rfl ?_
                  exact .fin1 (Fz.le_refl _)
                refine .cons (.mk 125 (.bool (r_126 == (decide (n_42 ≤ r_26.1.Hi)))) [(114, (.bool r_126)), (124, (.bool (decide (n_42 ≤ r_26.1.Hi))))] rfl rfl rfl rfl (fun S hS hd => (.cons (hd.1 rfl rfl _ _ rfl) (.cons (hd.2.1 rfl rfl _ _ rfl) (Sub.nil _)))) (fun F_206 X l_207 => ?_)) ?_
                · skip
                  refine .eqlB rfl Try.underlying4 rfl rfl ?_
                  exact .fin1 (Fz.le_refl _)
                refine .cons (.mk 126 (.bool (r_126 == (decide (n_42 ≤ r_26.1.Hi)))) [(125, (.bool (r_126 == (decide (n_42 ≤ r_26.1.Hi)))))] rfl rfl rfl rfl (fun S hS hd => (.cons (hd.1 rfl rfl _ _ rfl) (Sub.nil _))) (fun F_208 X l_209 => ?_)) ?_
                · skip
                  refine .move rfl rfl ?_
                  exact .fin1 (Fz.le_refl _)
                refine .cons (.mk 127 undef [(126, (.bool (r_126 == (decide (n_42 ≤ r_26.1.Hi)))))] rfl rfl rfl rfl (fun S hS hd => (.cons (hd.1 rfl rfl _ _ rfl) (Sub.nil _))) (fun F_210 X l_211 => ?_)) ?_
                · skip
                  refine .offH hb129 rfl rfl rfl ?_
                  exact .fin1 (Fz.le_refl _)
                refine .cons (.mk 128 (.bool false) [(126, (.bool (r_126 == (decide (n_42 ≤ r_26.1.Hi))))), (127, undef)] rfl rfl rfl rfl (fun S hS hd => (.cons (hd.1 rfl rfl _ _ rfl) (.cons (hd.2.1 rfl rfl _ _ rfl) (Sub.nil _)))) (fun F_212 X l_213 => ?_)) ?_
                · skip
                  refine .pickFH hb129  rfl rfl rfl ?_
                  exact .fin1 (Fz.le_refl _)
                exact .nil
              refine .assign rfl rfl ?_
              refine .nil ?_
              refine .code ?_
              exact .ret0 Try.results6 (.tmp rfl (.nil)) (i := 1) rfl (Fz.le_trans l_10 (Fz.le_trans l_14 (Fz.le_trans l_18 (Fz.le_trans l_25 (Fz.le_trans l_31 (Fz.le_trans l_70 (Fz.le_trans l_74 (Fz.le_trans l_81 (Fz.le_trans l_90 (Fz.le_trans l_105 (Fz.le_trans l_120 l_177))))))))))) rfl
          · skip
            refine .ite (fun hb214 => ?_) (fun hb214 => ?_)
            · skip
              refine .bind (fun r_217 hx218 => ?_)
              refine .draw ⟨1000000, 0, [], 0⟩ [(112, (.func (.func 23) #[] [(.pointer (some ⟨b8, 0, none⟩)), (.pointer (some ⟨b12, 0, none⟩)), (.pointer (some ⟨b16, 0, none⟩))].toArray)), (113, (.int .i64 n_42)), (114, (.bool r_126)), (115, (.pointer (some ⟨b27, 0 + 0, none⟩))), (116, (.int .i64 r_26.1.Lo)), (117, (.int .i64 n_42)), (118, (.bool (decide (r_26.1.Lo ≤ n_42)))), (119, (.bool (decide (r_26.1.Lo ≤ n_42)))), (120, undef), (121, undef), (122, undef), (123, undef), (124, (.bool false)), (125, (.bool (r_126 == false))), (126, (.bool (r_126 == false))), (127, (.bool r_217)), (128, (.bool r_217))] mixedOK (by kernel_rfl) (by kernel_rfl) rfl (by kernel_rfl) ?_ (fun F_219 b220 l_221 => ?_)
              · skip
                refine .cons (.mk 112 (.func (.func 23) #[] [(.pointer (some ⟨b8, 0, none⟩)), (.pointer (some ⟨b12, 0, none⟩)), (.pointer (some ⟨b16, 0, none⟩))].toArray) [(11, (.func (.func 23) #[] [(.pointer (some ⟨b8, 0, none⟩)), (.pointer (some ⟨b12, 0, none⟩)), (.pointer (some ⟨b16, 0, none⟩))].toArray))] rfl rfl rfl rfl (fun S hS hd => (.cons (hS _ _ rfl) (Sub.nil _))) (fun F_222 X l_223 => ?_)) ?_
                · skip
                  refine .move rfl rfl ?_
                  exact .fin1 (Fz.le_refl _)
                refine .cons (.mk 113 (.int .i64 n_42) [(12, (.int .i64 n_42))] rfl rfl rfl rfl (fun S hS hd => (.cons (hS _ _ rfl) (Sub.nil _))) (fun F_224 X l_225 => ?_)) ?_
                · skip
                  refine .move rfl rfl ?_
                  exact .fin1 (Fz.le_refl _)
                refine .cons (.mk 114 (.bool r_126) [(112, (.func (.func 23) #[] [(.pointer (some ⟨b8, 0, none⟩)), (.pointer (some ⟨b12, 0, none⟩)), (.pointer (some ⟨b16, 0, none⟩))].toArray)), (113, (.int .i64 n_42))] rfl rfl rfl rfl (fun S hS hd => (.cons (hd.1 rfl rfl _ _ rfl) (.cons (hd.2.1 rfl rfl _ _ rfl) (Sub.nil _)))) (fun F_226 X l_227 => ?_)) ?_
                · skip
                  refine .callK hx127 rfl Try.call23 rfl rfl rfl (c_wormtublaw12_BottleWater_1 _ n_42 b1 b8 p2 k3 ((Fz.le_trans l_14 (Fz.le_trans l_18 (Fz.le_trans l_25 (Fz.le_trans l_31 (Fz.le_trans l_70 (Fz.le_trans l_74 (Fz.le_trans l_81 (Fz.le_trans l_90 (Fz.le_trans l_105 (Fz.le_trans l_120 l_227)))))))))).mem _ _ hb11) (h4.mono (Fz.le_trans l_10 (Fz.le_trans l_14 (Fz.le_trans l_18 (Fz.le_trans l_25 (Fz.le_trans l_31 (Fz.le_trans l_70 (Fz.le_trans l_74 (Fz.le_trans l_81 (Fz.le_trans l_90 (Fz.le_trans l_105 (Fz.le_trans l_120 l_227)))))))))))) least5 b12 ((Fz.le_trans l_18 (Fz.le_trans l_25 (Fz.le_trans l_31 (Fz.le_trans l_70 (Fz.le_trans l_74 (Fz.le_trans l_81 (Fz.le_trans l_90 (Fz.le_trans l_105 (Fz.le_trans l_120 l_227))))))))).mem _ _ hb15) most6 b16 ((Fz.le_trans l_25 (Fz.le_trans l_31 (Fz.le_trans l_70 (Fz.le_trans l_74 (Fz.le_trans l_81 (Fz.le_trans l_90 (Fz.le_trans l_105 (Fz.le_trans l_120 l_227)))))))).mem _ _ hb19)) ?_
                  rintro F_228 _ l_229 rfl
                  exact .fin1 l_229
                refine .cons (.mk 115 (.pointer (some ⟨b27, 0 + 0, none⟩)) [(9, (.pointer (some ⟨b27, 0, none⟩)))] rfl rfl rfl rfl (fun S hS hd => (.cons (hS _ _ rfl) (Sub.nil _))) (fun F_230 X l_231 => ?_)) ?_
                · skip
                  refine .fieldAddr rfl Try.underlying36 rfl Try.sizeOf3 rfl ?_
                  exact .fin1 (Fz.le_refl _)
                refine .cons (.mk 116 (.int .i64 r_26.1.Lo) [(115, (.pointer (some ⟨b27, 0 + 0, none⟩)))] rfl rfl rfl rfl (fun S hS hd => (.cons (hd.1 rfl rfl _ _ rfl) (Sub.nil _))) (fun F_232 X l_233 => ?_)) ?_
                · skip
                  refine .loadO rfl Try.isAgg3 rfl (i := 0) rfl rfl ?_
                  exact .fin1 (Fz.le_refl _)
                refine .cons (.mk 117 (.int .i64 n_42) [(12, (.int .i64 n_42))] rfl rfl rfl rfl (fun S hS hd => (.cons (hS _ _ rfl) (Sub.nil _))) (fun F_234 X l_235 => ?_)) ?_
                · skip
                  refine .move rfl rfl ?_
                  exact .fin1 (Fz.le_refl _)
                refine .cons (.mk 118 (.bool (decide (r_26.1.Lo ≤ n_42))) [(116, (.int .i64 r_26.1.Lo)), (117, (.int .i64 n_42))] rfl rfl rfl rfl (fun S hS hd => (.cons (hd.1 rfl rfl _ _ rfl) (.cons (hd.2.1 rfl rfl _ _ rfl) (Sub.nil _)))) (fun F_236 X l_237 => ?_)) ?_
                · skip
                  refine .leq rfl rfl rfl ?_
                  exact .fin1 (Fz.le_refl _)
                refine .cons (.mk 119 (.bool (decide (r_26.1.Lo ≤ n_42))) [(118, (.bool (decide (r_26.1.Lo ≤ n_42))))] rfl rfl rfl rfl (fun S hS hd => (.cons (hd.1 rfl rfl _ _ rfl) (Sub.nil _))) (fun F_238 X l_239 => ?_)) ?_
                · skip
                  refine .move rfl rfl ?_
                  exact .fin1 (Fz.le_refl _)
                refine .cons (.mk 120 undef [(12, (.int .i64 n_42)), (119, (.bool (decide (r_26.1.Lo ≤ n_42))))] rfl rfl rfl rfl (fun S hS hd => (.cons (hS _ _ rfl) (.cons (hd.1 rfl rfl _ _ rfl) (Sub.nil _)))) (fun F_240 X l_241 => ?_)) ?_
                · skip
                  refine .offH hb128 rfl rfl rfl ?_
                  exact .fin1 (Fz.le_refl _)
                refine .cons (.mk 121 undef [(9, (.pointer (some ⟨b27, 0, none⟩))), (119, (.bool (decide (r_26.1.Lo ≤ n_42))))] rfl rfl rfl rfl (fun S hS hd => (.cons (hS _ _ rfl) (.cons (hd.1 rfl rfl _ _ rfl) (Sub.nil _)))) (fun F_242 X l_243 => ?_)) ?_
                · skip
                  refine .offH hb128 rfl rfl rfl ?_
                  exact .fin1 (Fz.le_refl _)
                refine .cons (.mk 122 undef [(119, (.bool (decide (r_26.1.Lo ≤ n_42)))), (121, undef)] rfl rfl rfl rfl (fun S hS hd => (.cons (hd.2.1 rfl rfl _ _ rfl) (.cons (hd.1 rfl rfl _ _ rfl) (Sub.nil _)))) (fun F_244 X l_245 => ?_)) ?_
                · skip
                  refine .offH hb128 rfl rfl rfl ?_
                  exact .fin1 (Fz.le_refl _)
                refine .cons (.mk 123 undef [(119, (.bool (decide (r_26.1.Lo ≤ n_42)))), (120, undef), (122, undef)] rfl rfl rfl rfl (fun S hS hd => (.cons (hd.2.2.1 rfl rfl _ _ rfl) (.cons (hd.1 rfl rfl _ _ rfl) (.cons (hd.2.1 rfl rfl _ _ rfl) (Sub.nil _))))) (fun F_246 X l_247 => ?_)) ?_
                · skip
                  refine .offH hb128 rfl rfl rfl ?_
                  exact .fin1 (Fz.le_refl _)
                refine .cons (.mk 124 (.bool false) [(119, (.bool (decide (r_26.1.Lo ≤ n_42)))), (123, undef)] rfl rfl rfl rfl (fun S hS hd => (.cons (hd.1 rfl rfl _ _ rfl) (.cons (hd.2.1 rfl rfl _ _ rfl) (Sub.nil _)))) (fun F_248 X l_249 => ?_)) ?_
                · skip
                  refine .pickFH hb128  rfl rfl rfl ?_
                  exact .fin1 (Fz.le_refl _)
                refine .cons (.mk 125 (.bool (r_126 == false)) [(114, (.bool r_126)), (124, (.bool false))] rfl rfl rfl rfl (fun S hS hd => (.cons (hd.1 rfl rfl _ _ rfl) (.cons (hd.2.1 rfl rfl _ _ rfl) (Sub.nil _)))) (fun F_250 X l_251 => ?_)) ?_
                · skip
                  refine .eqlB rfl Try.underlying4 rfl rfl ?_
                  exact .fin1 (Fz.le_refl _)
                refine .cons (.mk 126 (.bool (r_126 == false)) [(125, (.bool (r_126 == false)))] rfl rfl rfl rfl (fun S hS hd => (.cons (hd.1 rfl rfl _ _ rfl) (Sub.nil _))) (fun F_252 X l_253 => ?_)) ?_
                · skip
                  refine .move rfl rfl ?_
                  exact .fin1 (Fz.le_refl _)
                refine .cons (.mk 127 (.bool r_217) [(126, (.bool (r_126 == false)))] rfl rfl rfl rfl (fun S hS hd => (.cons (hd.1 rfl rfl _ _ rfl) (Sub.nil _))) (fun F_254 X l_255 => ?_)) ?_
                · skip
                  refine .onH hb214 rfl rfl ?_
                  refine .callK hx218 rfl Try.call11 rfl rfl rfl (c_wormtublaw12_awake _ ) ?_
                  rintro F_256 _ l_257 rfl
                  exact .fin1 l_257
                refine .cons (.mk 128 (.bool r_217) [(126, (.bool (r_126 == false))), (127, (.bool r_217))] rfl rfl rfl rfl (fun S hS hd => (.cons (hd.1 rfl rfl _ _ rfl) (.cons (hd.2.1 rfl rfl _ _ rfl) (Sub.nil _)))) (fun F_258 X l_259 => ?_)) ?_
                · skip
                  refine .pickTH hb214  rfl rfl rfl ?_
                  exact .fin1 (Fz.le_refl _)
                exact .nil
              refine .assign rfl rfl ?_
              refine .nil ?_
              refine .code ?_
              exact .ret0 Try.results6 (.tmp rfl (.nil)) (i := 1) rfl (Fz.le_trans l_10 (Fz.le_trans l_14 (Fz.le_trans l_18 (Fz.le_trans l_25 (Fz.le_trans l_31 (Fz.le_trans l_70 (Fz.le_trans l_74 (Fz.le_trans l_81 (Fz.le_trans l_90 (Fz.le_trans l_105 (Fz.le_trans l_120 l_221))))))))))) rfl
            · skip
              refine .draw ⟨1000000, 0, [], 0⟩ [(112, (.func (.func 23) #[] [(.pointer (some ⟨b8, 0, none⟩)), (.pointer (some ⟨b12, 0, none⟩)), (.pointer (some ⟨b16, 0, none⟩))].toArray)), (113, (.int .i64 n_42)), (114, (.bool r_126)), (115, (.pointer (some ⟨b27, 0 + 0, none⟩))), (116, (.int .i64 r_26.1.Lo)), (117, (.int .i64 n_42)), (118, (.bool (decide (r_26.1.Lo ≤ n_42)))), (119, (.bool (decide (r_26.1.Lo ≤ n_42)))), (120, undef), (121, undef), (122, undef), (123, undef), (124, (.bool false)), (125, (.bool (r_126 == false))), (126, (.bool (r_126 == false))), (127, undef), (128, (.bool false))] mixedOK (by kernel_rfl) (by kernel_rfl) rfl (by kernel_rfl) ?_ (fun F_260 b261 l_262 => ?_)
              · skip
                refine .cons (.mk 112 (.func (.func 23) #[] [(.pointer (some ⟨b8, 0, none⟩)), (.pointer (some ⟨b12, 0, none⟩)), (.pointer (some ⟨b16, 0, none⟩))].toArray) [(11, (.func (.func 23) #[] [(.pointer (some ⟨b8, 0, none⟩)), (.pointer (some ⟨b12, 0, none⟩)), (.pointer (some ⟨b16, 0, none⟩))].toArray))] rfl rfl rfl rfl (fun S hS hd => (.cons (hS _ _ rfl) (Sub.nil _))) (fun F_263 X l_264 => ?_)) ?_
                · skip
                  refine .move rfl rfl ?_
                  exact .fin1 (Fz.le_refl _)
                refine .cons (.mk 113 (.int .i64 n_42) [(12, (.int .i64 n_42))] rfl rfl rfl rfl (fun S hS hd => (.cons (hS _ _ rfl) (Sub.nil _))) (fun F_265 X l_266 => ?_)) ?_
                · skip
                  refine .move rfl rfl ?_
                  exact .fin1 (Fz.le_refl _)
                refine .cons (.mk 114 (.bool r_126) [(112, (.func (.func 23) #[] [(.pointer (some ⟨b8, 0, none⟩)), (.pointer (some ⟨b12, 0, none⟩)), (.pointer (some ⟨b16, 0, none⟩))].toArray)), (113, (.int .i64 n_42))] rfl rfl rfl rfl (fun S hS hd => (.cons (hd.1 rfl rfl _ _ rfl) (.cons (hd.2.1 rfl rfl _ _ rfl) (Sub.nil _)))) (fun F_267 X l_268 => ?_)) ?_
                · skip
                  refine .callK hx127 rfl Try.call23 rfl rfl rfl (c_wormtublaw12_BottleWater_1 _ n_42 b1 b8 p2 k3 ((Fz.le_trans l_14 (Fz.le_trans l_18 (Fz.le_trans l_25 (Fz.le_trans l_31 (Fz.le_trans l_70 (Fz.le_trans l_74 (Fz.le_trans l_81 (Fz.le_trans l_90 (Fz.le_trans l_105 (Fz.le_trans l_120 l_268)))))))))).mem _ _ hb11) (h4.mono (Fz.le_trans l_10 (Fz.le_trans l_14 (Fz.le_trans l_18 (Fz.le_trans l_25 (Fz.le_trans l_31 (Fz.le_trans l_70 (Fz.le_trans l_74 (Fz.le_trans l_81 (Fz.le_trans l_90 (Fz.le_trans l_105 (Fz.le_trans l_120 l_268)))))))))))) least5 b12 ((Fz.le_trans l_18 (Fz.le_trans l_25 (Fz.le_trans l_31 (Fz.le_trans l_70 (Fz.le_trans l_74 (Fz.le_trans l_81 (Fz.le_trans l_90 (Fz.le_trans l_105 (Fz.le_trans l_120 l_268))))))))).mem _ _ hb15) most6 b16 ((Fz.le_trans l_25 (Fz.le_trans l_31 (Fz.le_trans l_70 (Fz.le_trans l_74 (Fz.le_trans l_81 (Fz.le_trans l_90 (Fz.le_trans l_105 (Fz.le_trans l_120 l_268)))))))).mem _ _ hb19)) ?_
                  rintro F_269 _ l_270 rfl
                  exact .fin1 l_270
                refine .cons (.mk 115 (.pointer (some ⟨b27, 0 + 0, none⟩)) [(9, (.pointer (some ⟨b27, 0, none⟩)))] rfl rfl rfl rfl (fun S hS hd => (.cons (hS _ _ rfl) (Sub.nil _))) (fun F_271 X l_272 => ?_)) ?_
                · skip
                  refine .fieldAddr rfl Try.underlying36 rfl Try.sizeOf3 rfl ?_
                  exact .fin1 (Fz.le_refl _)
                refine .cons (.mk 116 (.int .i64 r_26.1.Lo) [(115, (.pointer (some ⟨b27, 0 + 0, none⟩)))] rfl rfl rfl rfl (fun S hS hd => (.cons (hd.1 rfl rfl _ _ rfl) (Sub.nil _))) (fun F_273 X l_274 => ?_)) ?_
                · skip
                  refine .loadO rfl Try.isAgg3 rfl (i := 0) rfl rfl ?_
                  exact .fin1 (Fz.le_refl _)
                refine .cons (.mk 117 (.int .i64 n_42) [(12, (.int .i64 n_42))] rfl rfl rfl rfl (fun S hS hd => (.cons (hS _ _ rfl) (Sub.nil _))) (fun F_275 X l_276 => ?_)) ?_
                · skip
                  refine .move rfl rfl ?_
                  exact .fin1 (Fz.le_refl _)
                refine .cons (.mk 118 (.bool (decide (r_26.1.Lo ≤ n_42))) [(116, (.int .i64 r_26.1.Lo)), (117, (.int .i64 n_42))] rfl rfl rfl rfl (fun S hS hd => (.cons (hd.1 rfl rfl _ _ rfl) (.cons (hd.2.1 rfl rfl _ _ rfl) (Sub.nil _)))) (fun F_277 X l_278 => ?_)) ?_
                · skip
                  refine .leq rfl rfl rfl ?_
                  exact .fin1 (Fz.le_refl _)
                refine .cons (.mk 119 (.bool (decide (r_26.1.Lo ≤ n_42))) [(118, (.bool (decide (r_26.1.Lo ≤ n_42))))] rfl rfl rfl rfl (fun S hS hd => (.cons (hd.1 rfl rfl _ _ rfl) (Sub.nil _))) (fun F_279 X l_280 => ?_)) ?_
                · skip
                  refine .move rfl rfl ?_
                  exact .fin1 (Fz.le_refl _)
                refine .cons (.mk 120 undef [(12, (.int .i64 n_42)), (119, (.bool (decide (r_26.1.Lo ≤ n_42))))] rfl rfl rfl rfl (fun S hS hd => (.cons (hS _ _ rfl) (.cons (hd.1 rfl rfl _ _ rfl) (Sub.nil _)))) (fun F_281 X l_282 => ?_)) ?_
                · skip
                  refine .offH hb128 rfl rfl rfl ?_
                  exact .fin1 (Fz.le_refl _)
                refine .cons (.mk 121 undef [(9, (.pointer (some ⟨b27, 0, none⟩))), (119, (.bool (decide (r_26.1.Lo ≤ n_42))))] rfl rfl rfl rfl (fun S hS hd => (.cons (hS _ _ rfl) (.cons (hd.1 rfl rfl _ _ rfl) (Sub.nil _)))) (fun F_283 X l_284 => ?_)) ?_
                · skip
                  refine .offH hb128 rfl rfl rfl ?_
                  exact .fin1 (Fz.le_refl _)
                refine .cons (.mk 122 undef [(119, (.bool (decide (r_26.1.Lo ≤ n_42)))), (121, undef)] rfl rfl rfl rfl (fun S hS hd => (.cons (hd.2.1 rfl rfl _ _ rfl) (.cons (hd.1 rfl rfl _ _ rfl) (Sub.nil _)))) (fun F_285 X l_286 => ?_)) ?_
                · skip
                  refine .offH hb128 rfl rfl rfl ?_
                  exact .fin1 (Fz.le_refl _)
                refine .cons (.mk 123 undef [(119, (.bool (decide (r_26.1.Lo ≤ n_42)))), (120, undef), (122, undef)] rfl rfl rfl rfl (fun S hS hd => (.cons (hd.2.2.1 rfl rfl _ _ rfl) (.cons (hd.1 rfl rfl _ _ rfl) (.cons (hd.2.1 rfl rfl _ _ rfl) (Sub.nil _))))) (fun F_287 X l_288 => ?_)) ?_
                · skip
                  refine .offH hb128 rfl rfl rfl ?_
                  exact .fin1 (Fz.le_refl _)
                refine .cons (.mk 124 (.bool false) [(119, (.bool (decide (r_26.1.Lo ≤ n_42)))), (123, undef)] rfl rfl rfl rfl (fun S hS hd => (.cons (hd.1 rfl rfl _ _ rfl) (.cons (hd.2.1 rfl rfl _ _ rfl) (Sub.nil _)))) (fun F_289 X l_290 => ?_)) ?_
                · skip
                  refine .pickFH hb128  rfl rfl rfl ?_
                  exact .fin1 (Fz.le_refl _)
                refine .cons (.mk 125 (.bool (r_126 == false)) [(114, (.bool r_126)), (124, (.bool false))] rfl rfl rfl rfl (fun S hS hd => (.cons (hd.1 rfl rfl _ _ rfl) (.cons (hd.2.1 rfl rfl _ _ rfl) (Sub.nil _)))) (fun F_291 X l_292 => ?_)) ?_
                · skip
                  refine .eqlB rfl Try.underlying4 rfl rfl ?_
                  exact .fin1 (Fz.le_refl _)
                refine .cons (.mk 126 (.bool (r_126 == false)) [(125, (.bool (r_126 == false)))] rfl rfl rfl rfl (fun S hS hd => (.cons (hd.1 rfl rfl _ _ rfl) (Sub.nil _))) (fun F_293 X l_294 => ?_)) ?_
                · skip
                  refine .move rfl rfl ?_
                  exact .fin1 (Fz.le_refl _)
                refine .cons (.mk 127 undef [(126, (.bool (r_126 == false)))] rfl rfl rfl rfl (fun S hS hd => (.cons (hd.1 rfl rfl _ _ rfl) (Sub.nil _))) (fun F_295 X l_296 => ?_)) ?_
                · skip
                  refine .offH hb214 rfl rfl rfl ?_
                  exact .fin1 (Fz.le_refl _)
                refine .cons (.mk 128 (.bool false) [(126, (.bool (r_126 == false))), (127, undef)] rfl rfl rfl rfl (fun S hS hd => (.cons (hd.1 rfl rfl _ _ rfl) (.cons (hd.2.1 rfl rfl _ _ rfl) (Sub.nil _)))) (fun F_297 X l_298 => ?_)) ?_
                · skip
                  refine .pickFH hb214  rfl rfl rfl ?_
                  exact .fin1 (Fz.le_refl _)
                exact .nil
              refine .assign rfl rfl ?_
              refine .nil ?_
              refine .code ?_
              exact .ret0 Try.results6 (.tmp rfl (.nil)) (i := 1) rfl (Fz.le_trans l_10 (Fz.le_trans l_14 (Fz.le_trans l_18 (Fz.le_trans l_25 (Fz.le_trans l_31 (Fz.le_trans l_70 (Fz.le_trans l_74 (Fz.le_trans l_81 (Fz.le_trans l_90 (Fz.le_trans l_105 (Fz.le_trans l_120 l_262))))))))))) rfl

end Go.Proofs.Ytbomfcghpajaiaa
