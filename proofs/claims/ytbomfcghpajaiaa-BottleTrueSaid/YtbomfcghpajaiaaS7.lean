/- Printed by gen.py: plain models of the program's functions, and that the code does what they say. -/
import Derived.Test.YtbomfcghpajaiaaS0
import Derived.Test.YtbomfcghpajaiaaS2
import Derived.Test.YtbomfcghpajaiaaS5
namespace Go.Proofs.Ytbomfcghpajaiaa
open Go.Dec

noncomputable def m_wormtublaw12_BottleTrue_1 (s1 : ApiSpan) (water2 : Int) (c3 : Int) (c6 : Int) (c9 : Int) : Option Bool :=
  bindv (w64 ((w64 (c3 + water2)) * c6)) fun v16 => (quoK .i64 (w64 (c9 * 10000)) v16).bind fun q18 => if (decide (s1.Lo ≤ q18)) then ((quoK .i64 (w64 ((w64 ((w64 (c9 * 10000)) + v16)) - 1)) v16).bind fun q22 => if (decide (s1.Hi ≥ q22)) then (some true) else (some (s1.Hi == 10000))) else (some false)
theorem c_wormtublaw12_BottleTrue_1 (F0 : Fz) (s1 : ApiSpan) (water2 : Int) (c3 : Int) (b4 : Nat) (hb5 : F0.mem b4 = some (.cells [(.int .i64 c3)].toArray 3)) (c6 : Int) (b7 : Nat) (hb8 : F0.mem b7 = some (.cells [(.int .i64 c6)].toArray 3)) (c9 : Int) (b10 : Nat) (hb11 : F0.mem b10 = some (.cells [(.int .i64 c9)].toArray 3)) : CT0 Try.prog 21 [(eApiSpan s1), (.int .i64 water2), (.pointer (some ⟨b4, 0, none⟩)), (.pointer (some ⟨b7, 0, none⟩)), (.pointer (some ⟨b10, 0, none⟩))].toArray F0 (m_wormtublaw12_BottleTrue_1 s1 water2 c3 c6 c9) (fun r _ v => v = (.bool r)) := by
  refine CT0.enter Try.func21 rfl Try.ntmps21 rfl fun r R => ?_
  unfold m_wormtublaw12_BottleTrue_1
  refine .seq ?_
  refine .region ?_
  refine .boxF (cs := (cApiSpan s1)) rfl rfl rfl (fun b12 F_13 l_14 hb15 => ?_)
  refine .assign rfl rfl ?_
  refine .nil ?_
  refine .code ?_
  refine .seq ?_
  refine .region ?_
  refine .loadF rfl Try.isAgg3 rfl (l_14.mem _ _ hb5) rfl ?_
  refine .move rfl rfl ?_
  refine .add rfl rfl rfl ?_
  refine .loadF rfl Try.isAgg3 rfl (l_14.mem _ _ hb8) rfl ?_
  refine .mul rfl rfl rfl ?_
  refine .assignL rfl rfl (fun v16 e17 => ?_)
  refine .nil ?_
  refine .code ?_
  refine .seq ?_
  refine .keep (.cons (k := 4) rfl (.cons (k := 5) rfl (.cons (k := 8) rfl (.nil _)))) ?_
  refine .bind (fun q18 hx20 => ?_)
  refine .ite (fun hb21 => ?_) (fun hb21 => ?_)
  · skip
    refine .bind (fun q22 hx24 => ?_)
    refine .ite (fun hb25 => ?_) (fun hb25 => ?_)
    · skip
      refine .draw ⟨1000000, 0, [], 0⟩ [(14, (.pointer (some ⟨b12, 0 + 0, none⟩))), (15, (.int .i64 s1.Lo)), (16, (.int .i64 c9)), (17, (.int .i64 (w64 (c9 * 10000)))), (18, (.int .i64 v16)), (19, (.int .i64 q18)), (20, (.bool (decide (s1.Lo ≤ q18)))), (21, (.bool (decide (s1.Lo ≤ q18)))), (22, (.pointer (some ⟨b12, 0 + 1, none⟩))), (23, (.int .i64 s1.Hi)), (24, (.int .i64 c9)), (25, (.int .i64 (w64 (c9 * 10000)))), (26, (.int .i64 v16)), (27, (.int .i64 (w64 ((w64 (c9 * 10000)) + v16)))), (28, (.int .i64 (w64 ((w64 ((w64 (c9 * 10000)) + v16)) - 1)))), (29, (.int .i64 v16)), (30, (.int .i64 q22)), (31, (.bool (decide (s1.Hi ≥ q22)))), (32, (.bool (decide (s1.Hi ≥ q22)))), (33, undef), (34, undef), (35, undef), (36, (.bool true)), (37, (.bool true))] mixedOK (by kernel_rfl) (by kernel_rfl) rfl (by kernel_rfl) ?_ (fun F_26 b27 l_28 => ?_)
      · skip
        refine .cons (.mk 14 (.pointer (some ⟨b12, 0 + 0, none⟩)) [(5, (.pointer (some ⟨b12, 0, none⟩)))] rfl rfl rfl rfl (fun S hS hd => (.cons (hS _ _ rfl) (Sub.nil _))) (fun F_29 X l_30 => ?_)) ?_
        · skip
          refine .fieldAddr rfl Try.underlying36 rfl Try.sizeOf3 rfl ?_
          exact .fin1 (Fz.le_refl _)
        refine .cons (.mk 15 (.int .i64 s1.Lo) [(14, (.pointer (some ⟨b12, 0 + 0, none⟩)))] rfl rfl rfl rfl (fun S hS hd => (.cons (hd.1 rfl rfl _ _ rfl) (Sub.nil _))) (fun F_31 X l_32 => ?_)) ?_
        · skip
          refine .loadF rfl Try.isAgg3 rfl (l_32.mem _ _ hb15) rfl ?_
          exact .fin1 (Fz.le_refl _)
        refine .cons (.mk 16 (.int .i64 c9) [(4, (.pointer (some ⟨b10, 0, none⟩)))] rfl rfl rfl rfl (fun S hS hd => (.cons (hS _ _ rfl) (Sub.nil _))) (fun F_33 X l_34 => ?_)) ?_
        · skip
          refine .loadF rfl Try.isAgg3 rfl ((Fz.le_trans l_14 l_34).mem _ _ hb11) rfl ?_
          exact .fin1 (Fz.le_refl _)
        refine .cons (.mk 17 (.int .i64 (w64 (c9 * 10000))) [(16, (.int .i64 c9))] rfl rfl rfl rfl (fun S hS hd => (.cons (hd.1 rfl rfl _ _ rfl) (Sub.nil _))) (fun F_35 X l_36 => ?_)) ?_
        · skip
          refine .mul rfl rfl rfl ?_
          exact .fin1 (Fz.le_refl _)
        refine .cons (.mk 18 (.int .i64 v16) [(8, (.int .i64 v16))] rfl rfl rfl rfl (fun S hS hd => (.cons (hS _ _ rfl) (Sub.nil _))) (fun F_37 X l_38 => ?_)) ?_
        · skip
          refine .move rfl rfl ?_
          exact .fin1 (Fz.le_refl _)
        refine .cons (.mk 19 (.int .i64 q18) [(17, (.int .i64 (w64 (c9 * 10000)))), (18, (.int .i64 v16))] rfl rfl rfl rfl (fun S hS hd => (.cons (hd.1 rfl rfl _ _ rfl) (.cons (hd.2.1 rfl rfl _ _ rfl) (Sub.nil _)))) (fun F_39 X l_40 => ?_)) ?_
        · skip
          refine .quoK hx20 rfl rfl rfl ?_
          exact .fin1 (Fz.le_refl _)
        refine .cons (.mk 20 (.bool (decide (s1.Lo ≤ q18))) [(15, (.int .i64 s1.Lo)), (19, (.int .i64 q18))] rfl rfl rfl rfl (fun S hS hd => (.cons (hd.1 rfl rfl _ _ rfl) (.cons (hd.2.1 rfl rfl _ _ rfl) (Sub.nil _)))) (fun F_41 X l_42 => ?_)) ?_
        · skip
          refine .leq rfl rfl rfl ?_
          exact .fin1 (Fz.le_refl _)
        refine .cons (.mk 21 (.bool (decide (s1.Lo ≤ q18))) [(20, (.bool (decide (s1.Lo ≤ q18))))] rfl rfl rfl rfl (fun S hS hd => (.cons (hd.1 rfl rfl _ _ rfl) (Sub.nil _))) (fun F_43 X l_44 => ?_)) ?_
        · skip
          refine .move rfl rfl ?_
          exact .fin1 (Fz.le_refl _)
        refine .cons (.mk 22 (.pointer (some ⟨b12, 0 + 1, none⟩)) [(5, (.pointer (some ⟨b12, 0, none⟩))), (21, (.bool (decide (s1.Lo ≤ q18))))] rfl rfl rfl rfl (fun S hS hd => (.cons (hS _ _ rfl) (.cons (hd.1 rfl rfl _ _ rfl) (Sub.nil _)))) (fun F_45 X l_46 => ?_)) ?_
        · skip
          refine .onH hb21 rfl rfl ?_
          refine .fieldAddr rfl Try.underlying36 rfl Try.sizeOf3 rfl ?_
          exact .fin1 (Fz.le_refl _)
        refine .cons (.mk 23 (.int .i64 s1.Hi) [(21, (.bool (decide (s1.Lo ≤ q18)))), (22, (.pointer (some ⟨b12, 0 + 1, none⟩)))] rfl rfl rfl rfl (fun S hS hd => (.cons (hd.2.1 rfl rfl _ _ rfl) (.cons (hd.1 rfl rfl _ _ rfl) (Sub.nil _)))) (fun F_47 X l_48 => ?_)) ?_
        · skip
          refine .onH hb21 rfl rfl ?_
          refine .loadF rfl Try.isAgg3 rfl (l_48.mem _ _ hb15) rfl ?_
          exact .fin1 (Fz.le_refl _)
        refine .cons (.mk 24 (.int .i64 c9) [(4, (.pointer (some ⟨b10, 0, none⟩))), (21, (.bool (decide (s1.Lo ≤ q18))))] rfl rfl rfl rfl (fun S hS hd => (.cons (hS _ _ rfl) (.cons (hd.1 rfl rfl _ _ rfl) (Sub.nil _)))) (fun F_49 X l_50 => ?_)) ?_
        · skip
          refine .onH hb21 rfl rfl ?_
          refine .loadF rfl Try.isAgg3 rfl ((Fz.le_trans l_14 l_50).mem _ _ hb11) rfl ?_
          exact .fin1 (Fz.le_refl _)
        refine .cons (.mk 25 (.int .i64 (w64 (c9 * 10000))) [(21, (.bool (decide (s1.Lo ≤ q18)))), (24, (.int .i64 c9))] rfl rfl rfl rfl (fun S hS hd => (.cons (hd.2.1 rfl rfl _ _ rfl) (.cons (hd.1 rfl rfl _ _ rfl) (Sub.nil _)))) (fun F_51 X l_52 => ?_)) ?_
        · skip
          refine .onH hb21 rfl rfl ?_
          refine .mul rfl rfl rfl ?_
          exact .fin1 (Fz.le_refl _)
        refine .cons (.mk 26 (.int .i64 v16) [(8, (.int .i64 v16)), (21, (.bool (decide (s1.Lo ≤ q18))))] rfl rfl rfl rfl (fun S hS hd => (.cons (hS _ _ rfl) (.cons (hd.1 rfl rfl _ _ rfl) (Sub.nil _)))) (fun F_53 X l_54 => ?_)) ?_
        · skip
          refine .onH hb21 rfl rfl ?_
          refine .move rfl rfl ?_
          exact .fin1 (Fz.le_refl _)
        refine .cons (.mk 27 (.int .i64 (w64 ((w64 (c9 * 10000)) + v16))) [(21, (.bool (decide (s1.Lo ≤ q18)))), (25, (.int .i64 (w64 (c9 * 10000)))), (26, (.int .i64 v16))] rfl rfl rfl rfl (fun S hS hd => (.cons (hd.2.2.1 rfl rfl _ _ rfl) (.cons (hd.1 rfl rfl _ _ rfl) (.cons (hd.2.1 rfl rfl _ _ rfl) (Sub.nil _))))) (fun F_55 X l_56 => ?_)) ?_
        · skip
          refine .onH hb21 rfl rfl ?_
          refine .add rfl rfl rfl ?_
          exact .fin1 (Fz.le_refl _)
        refine .cons (.mk 28 (.int .i64 (w64 ((w64 ((w64 (c9 * 10000)) + v16)) - 1))) [(21, (.bool (decide (s1.Lo ≤ q18)))), (27, (.int .i64 (w64 ((w64 (c9 * 10000)) + v16))))] rfl rfl rfl rfl (fun S hS hd => (.cons (hd.2.1 rfl rfl _ _ rfl) (.cons (hd.1 rfl rfl _ _ rfl) (Sub.nil _)))) (fun F_57 X l_58 => ?_)) ?_
        · skip
          refine .onH hb21 rfl rfl ?_
          refine .sub rfl rfl rfl ?_
          exact .fin1 (Fz.le_refl _)
        refine .cons (.mk 29 (.int .i64 v16) [(8, (.int .i64 v16)), (21, (.bool (decide (s1.Lo ≤ q18))))] rfl rfl rfl rfl (fun S hS hd => (.cons (hS _ _ rfl) (.cons (hd.1 rfl rfl _ _ rfl) (Sub.nil _)))) (fun F_59 X l_60 => ?_)) ?_
        · skip
          refine .onH hb21 rfl rfl ?_
          refine .move rfl rfl ?_
          exact .fin1 (Fz.le_refl _)
        refine .cons (.mk 30 (.int .i64 q22) [(21, (.bool (decide (s1.Lo ≤ q18)))), (28, (.int .i64 (w64 ((w64 ((w64 (c9 * 10000)) + v16)) - 1)))), (29, (.int .i64 v16))] rfl rfl rfl rfl (fun S hS hd => (.cons (hd.2.2.1 rfl rfl _ _ rfl) (.cons (hd.1 rfl rfl _ _ rfl) (.cons (hd.2.1 rfl rfl _ _ rfl) (Sub.nil _))))) (fun F_61 X l_62 => ?_)) ?_
        · skip
          refine .onH hb21 rfl rfl ?_
          refine .quoK hx24 rfl rfl rfl ?_
          exact .fin1 (Fz.le_refl _)
        refine .cons (.mk 31 (.bool (decide (s1.Hi ≥ q22))) [(21, (.bool (decide (s1.Lo ≤ q18)))), (23, (.int .i64 s1.Hi)), (30, (.int .i64 q22))] rfl rfl rfl rfl (fun S hS hd => (.cons (hd.2.2.1 rfl rfl _ _ rfl) (.cons (hd.1 rfl rfl _ _ rfl) (.cons (hd.2.1 rfl rfl _ _ rfl) (Sub.nil _))))) (fun F_63 X l_64 => ?_)) ?_
        · skip
          refine .onH hb21 rfl rfl ?_
          refine .geq rfl rfl rfl ?_
          exact .fin1 (Fz.le_refl _)
        refine .cons (.mk 32 (.bool (decide (s1.Hi ≥ q22))) [(21, (.bool (decide (s1.Lo ≤ q18)))), (31, (.bool (decide (s1.Hi ≥ q22))))] rfl rfl rfl rfl (fun S hS hd => (.cons (hd.2.1 rfl rfl _ _ rfl) (.cons (hd.1 rfl rfl _ _ rfl) (Sub.nil _)))) (fun F_65 X l_66 => ?_)) ?_
        · skip
          refine .onH hb21 rfl rfl ?_
          refine .move rfl rfl ?_
          exact .fin1 (Fz.le_refl _)
        refine .cons (.mk 33 undef [(5, (.pointer (some ⟨b12, 0, none⟩))), (32, (.bool (decide (s1.Hi ≥ q22))))] rfl rfl rfl rfl (fun S hS hd => (.cons (hS _ _ rfl) (.cons (hd.1 rfl rfl _ _ rfl) (Sub.nil _)))) (fun F_67 X l_68 => ?_)) ?_
        · skip
          refine .offH hb25 rfl rfl rfl ?_
          exact .fin1 (Fz.le_refl _)
        refine .cons (.mk 34 undef [(32, (.bool (decide (s1.Hi ≥ q22)))), (33, undef)] rfl rfl rfl rfl (fun S hS hd => (.cons (hd.2.1 rfl rfl _ _ rfl) (.cons (hd.1 rfl rfl _ _ rfl) (Sub.nil _)))) (fun F_69 X l_70 => ?_)) ?_
        · skip
          refine .offH hb25 rfl rfl rfl ?_
          exact .fin1 (Fz.le_refl _)
        refine .cons (.mk 35 undef [(32, (.bool (decide (s1.Hi ≥ q22)))), (34, undef)] rfl rfl rfl rfl (fun S hS hd => (.cons (hd.2.1 rfl rfl _ _ rfl) (.cons (hd.1 rfl rfl _ _ rfl) (Sub.nil _)))) (fun F_71 X l_72 => ?_)) ?_
        · skip
          refine .offH hb25 rfl rfl rfl ?_
          exact .fin1 (Fz.le_refl _)
        refine .cons (.mk 36 (.bool true) [(21, (.bool (decide (s1.Lo ≤ q18)))), (32, (.bool (decide (s1.Hi ≥ q22)))), (35, undef)] rfl rfl rfl rfl (fun S hS hd => (.cons (hd.2.2.1 rfl rfl _ _ rfl) (.cons (hd.1 rfl rfl _ _ rfl) (.cons (hd.2.1 rfl rfl _ _ rfl) (Sub.nil _))))) (fun F_73 X l_74 => ?_)) ?_
        · skip
          refine .onH hb21 rfl rfl ?_
          refine .pickTH hb25  rfl rfl rfl ?_
          exact .fin1 (Fz.le_refl _)
        refine .cons (.mk 37 (.bool true) [(21, (.bool (decide (s1.Lo ≤ q18)))), (36, (.bool true))] rfl rfl rfl rfl (fun S hS hd => (.cons (hd.1 rfl rfl _ _ rfl) (.cons (hd.2.1 rfl rfl _ _ rfl) (Sub.nil _)))) (fun F_75 X l_76 => ?_)) ?_
        · skip
          refine .pickTH hb21  rfl rfl rfl ?_
          exact .fin1 (Fz.le_refl _)
        exact .nil
      refine .assign rfl rfl ?_
      refine .nil ?_
      refine .keep (.cons (k := 7) rfl (.nil _)) ?_
      refine .code ?_
      exact .ret0 Try.results21 (.tmp rfl (.nil)) (i := 0) rfl (Fz.le_trans l_14 l_28) rfl
    · skip
      refine .draw ⟨1000000, 0, [], 0⟩ [(14, (.pointer (some ⟨b12, 0 + 0, none⟩))), (15, (.int .i64 s1.Lo)), (16, (.int .i64 c9)), (17, (.int .i64 (w64 (c9 * 10000)))), (18, (.int .i64 v16)), (19, (.int .i64 q18)), (20, (.bool (decide (s1.Lo ≤ q18)))), (21, (.bool (decide (s1.Lo ≤ q18)))), (22, (.pointer (some ⟨b12, 0 + 1, none⟩))), (23, (.int .i64 s1.Hi)), (24, (.int .i64 c9)), (25, (.int .i64 (w64 (c9 * 10000)))), (26, (.int .i64 v16)), (27, (.int .i64 (w64 ((w64 (c9 * 10000)) + v16)))), (28, (.int .i64 (w64 ((w64 ((w64 (c9 * 10000)) + v16)) - 1)))), (29, (.int .i64 v16)), (30, (.int .i64 q22)), (31, (.bool (decide (s1.Hi ≥ q22)))), (32, (.bool (decide (s1.Hi ≥ q22)))), (33, (.pointer (some ⟨b12, 0 + 1, none⟩))), (34, (.int .i64 s1.Hi)), (35, (.bool (s1.Hi == 10000))), (36, (.bool (s1.Hi == 10000))), (37, (.bool (s1.Hi == 10000)))] mixedOK (by kernel_rfl) (by kernel_rfl) rfl (by kernel_rfl) ?_ (fun F_77 b78 l_79 => ?_)
      · skip
        refine .cons (.mk 14 (.pointer (some ⟨b12, 0 + 0, none⟩)) [(5, (.pointer (some ⟨b12, 0, none⟩)))] rfl rfl rfl rfl (fun S hS hd => (.cons (hS _ _ rfl) (Sub.nil _))) (fun F_80 X l_81 => ?_)) ?_
        · skip
          refine .fieldAddr rfl Try.underlying36 rfl Try.sizeOf3 rfl ?_
          exact .fin1 (Fz.le_refl _)
        refine .cons (.mk 15 (.int .i64 s1.Lo) [(14, (.pointer (some ⟨b12, 0 + 0, none⟩)))] rfl rfl rfl rfl (fun S hS hd => (.cons (hd.1 rfl rfl _ _ rfl) (Sub.nil _))) (fun F_82 X l_83 => ?_)) ?_
        · skip
          refine .loadF rfl Try.isAgg3 rfl (l_83.mem _ _ hb15) rfl ?_
          exact .fin1 (Fz.le_refl _)
        refine .cons (.mk 16 (.int .i64 c9) [(4, (.pointer (some ⟨b10, 0, none⟩)))] rfl rfl rfl rfl (fun S hS hd => (.cons (hS _ _ rfl) (Sub.nil _))) (fun F_84 X l_85 => ?_)) ?_
        · skip
          refine .loadF rfl Try.isAgg3 rfl ((Fz.le_trans l_14 l_85).mem _ _ hb11) rfl ?_
          exact .fin1 (Fz.le_refl _)
        refine .cons (.mk 17 (.int .i64 (w64 (c9 * 10000))) [(16, (.int .i64 c9))] rfl rfl rfl rfl (fun S hS hd => (.cons (hd.1 rfl rfl _ _ rfl) (Sub.nil _))) (fun F_86 X l_87 => ?_)) ?_
        · skip
          refine .mul rfl rfl rfl ?_
          exact .fin1 (Fz.le_refl _)
        refine .cons (.mk 18 (.int .i64 v16) [(8, (.int .i64 v16))] rfl rfl rfl rfl (fun S hS hd => (.cons (hS _ _ rfl) (Sub.nil _))) (fun F_88 X l_89 => ?_)) ?_
        · skip
          refine .move rfl rfl ?_
          exact .fin1 (Fz.le_refl _)
        refine .cons (.mk 19 (.int .i64 q18) [(17, (.int .i64 (w64 (c9 * 10000)))), (18, (.int .i64 v16))] rfl rfl rfl rfl (fun S hS hd => (.cons (hd.1 rfl rfl _ _ rfl) (.cons (hd.2.1 rfl rfl _ _ rfl) (Sub.nil _)))) (fun F_90 X l_91 => ?_)) ?_
        · skip
          refine .quoK hx20 rfl rfl rfl ?_
          exact .fin1 (Fz.le_refl _)
        refine .cons (.mk 20 (.bool (decide (s1.Lo ≤ q18))) [(15, (.int .i64 s1.Lo)), (19, (.int .i64 q18))] rfl rfl rfl rfl (fun S hS hd => (.cons (hd.1 rfl rfl _ _ rfl) (.cons (hd.2.1 rfl rfl _ _ rfl) (Sub.nil _)))) (fun F_92 X l_93 => ?_)) ?_
        · skip
          refine .leq rfl rfl rfl ?_
          exact .fin1 (Fz.le_refl _)
        refine .cons (.mk 21 (.bool (decide (s1.Lo ≤ q18))) [(20, (.bool (decide (s1.Lo ≤ q18))))] rfl rfl rfl rfl (fun S hS hd => (.cons (hd.1 rfl rfl _ _ rfl) (Sub.nil _))) (fun F_94 X l_95 => ?_)) ?_
        · skip
          refine .move rfl rfl ?_
          exact .fin1 (Fz.le_refl _)
        refine .cons (.mk 22 (.pointer (some ⟨b12, 0 + 1, none⟩)) [(5, (.pointer (some ⟨b12, 0, none⟩))), (21, (.bool (decide (s1.Lo ≤ q18))))] rfl rfl rfl rfl (fun S hS hd => (.cons (hS _ _ rfl) (.cons (hd.1 rfl rfl _ _ rfl) (Sub.nil _)))) (fun F_96 X l_97 => ?_)) ?_
        · skip
          refine .onH hb21 rfl rfl ?_
          refine .fieldAddr rfl Try.underlying36 rfl Try.sizeOf3 rfl ?_
          exact .fin1 (Fz.le_refl _)
        refine .cons (.mk 23 (.int .i64 s1.Hi) [(21, (.bool (decide (s1.Lo ≤ q18)))), (22, (.pointer (some ⟨b12, 0 + 1, none⟩)))] rfl rfl rfl rfl (fun S hS hd => (.cons (hd.2.1 rfl rfl _ _ rfl) (.cons (hd.1 rfl rfl _ _ rfl) (Sub.nil _)))) (fun F_98 X l_99 => ?_)) ?_
        · skip
          refine .onH hb21 rfl rfl ?_
          refine .loadF rfl Try.isAgg3 rfl (l_99.mem _ _ hb15) rfl ?_
          exact .fin1 (Fz.le_refl _)
        refine .cons (.mk 24 (.int .i64 c9) [(4, (.pointer (some ⟨b10, 0, none⟩))), (21, (.bool (decide (s1.Lo ≤ q18))))] rfl rfl rfl rfl (fun S hS hd => (.cons (hS _ _ rfl) (.cons (hd.1 rfl rfl _ _ rfl) (Sub.nil _)))) (fun F_100 X l_101 => ?_)) ?_
        · skip
          refine .onH hb21 rfl rfl ?_
          refine .loadF rfl Try.isAgg3 rfl ((Fz.le_trans l_14 l_101).mem _ _ hb11) rfl ?_
          exact .fin1 (Fz.le_refl _)
        refine .cons (.mk 25 (.int .i64 (w64 (c9 * 10000))) [(21, (.bool (decide (s1.Lo ≤ q18)))), (24, (.int .i64 c9))] rfl rfl rfl rfl (fun S hS hd => (.cons (hd.2.1 rfl rfl _ _ rfl) (.cons (hd.1 rfl rfl _ _ rfl) (Sub.nil _)))) (fun F_102 X l_103 => ?_)) ?_
        · skip
          refine .onH hb21 rfl rfl ?_
          refine .mul rfl rfl rfl ?_
          exact .fin1 (Fz.le_refl _)
        refine .cons (.mk 26 (.int .i64 v16) [(8, (.int .i64 v16)), (21, (.bool (decide (s1.Lo ≤ q18))))] rfl rfl rfl rfl (fun S hS hd => (.cons (hS _ _ rfl) (.cons (hd.1 rfl rfl _ _ rfl) (Sub.nil _)))) (fun F_104 X l_105 => ?_)) ?_
        · skip
          refine .onH hb21 rfl rfl ?_
          refine .move rfl rfl ?_
          exact .fin1 (Fz.le_refl _)
        refine .cons (.mk 27 (.int .i64 (w64 ((w64 (c9 * 10000)) + v16))) [(21, (.bool (decide (s1.Lo ≤ q18)))), (25, (.int .i64 (w64 (c9 * 10000)))), (26, (.int .i64 v16))] rfl rfl rfl rfl (fun S hS hd => (.cons (hd.2.2.1 rfl rfl _ _ rfl) (.cons (hd.1 rfl rfl _ _ rfl) (.cons (hd.2.1 rfl rfl _ _ rfl) (Sub.nil _))))) (fun F_106 X l_107 => ?_)) ?_
        · skip
          refine .onH hb21 rfl rfl ?_
          refine .add rfl rfl rfl ?_
          exact .fin1 (Fz.le_refl _)
        refine .cons (.mk 28 (.int .i64 (w64 ((w64 ((w64 (c9 * 10000)) + v16)) - 1))) [(21, (.bool (decide (s1.Lo ≤ q18)))), (27, (.int .i64 (w64 ((w64 (c9 * 10000)) + v16))))] rfl rfl rfl rfl (fun S hS hd => (.cons (hd.2.1 rfl rfl _ _ rfl) (.cons (hd.1 rfl rfl _ _ rfl) (Sub.nil _)))) (fun F_108 X l_109 => ?_)) ?_
        · skip
          refine .onH hb21 rfl rfl ?_
          refine .sub rfl rfl rfl ?_
          exact .fin1 (Fz.le_refl _)
        refine .cons (.mk 29 (.int .i64 v16) [(8, (.int .i64 v16)), (21, (.bool (decide (s1.Lo ≤ q18))))] rfl rfl rfl rfl (fun S hS hd => (.cons (hS _ _ rfl) (.cons (hd.1 rfl rfl _ _ rfl) (Sub.nil _)))) (fun F_110 X l_111 => ?_)) ?_
        · skip
          refine .onH hb21 rfl rfl ?_
          refine .move rfl rfl ?_
          exact .fin1 (Fz.le_refl _)
        refine .cons (.mk 30 (.int .i64 q22) [(21, (.bool (decide (s1.Lo ≤ q18)))), (28, (.int .i64 (w64 ((w64 ((w64 (c9 * 10000)) + v16)) - 1)))), (29, (.int .i64 v16))] rfl rfl rfl rfl (fun S hS hd => (.cons (hd.2.2.1 rfl rfl _ _ rfl) (.cons (hd.1 rfl rfl _ _ rfl) (.cons (hd.2.1 rfl rfl _ _ rfl) (Sub.nil _))))) (fun F_112 X l_113 => ?_)) ?_
        · skip
          refine .onH hb21 rfl rfl ?_
          refine .quoK hx24 rfl rfl rfl ?_
          exact .fin1 (Fz.le_refl _)
        refine .cons (.mk 31 (.bool (decide (s1.Hi ≥ q22))) [(21, (.bool (decide (s1.Lo ≤ q18)))), (23, (.int .i64 s1.Hi)), (30, (.int .i64 q22))] rfl rfl rfl rfl (fun S hS hd => (.cons (hd.2.2.1 rfl rfl _ _ rfl) (.cons (hd.1 rfl rfl _ _ rfl) (.cons (hd.2.1 rfl rfl _ _ rfl) (Sub.nil _))))) (fun F_114 X l_115 => ?_)) ?_
        · skip
          refine .onH hb21 rfl rfl ?_
          refine .geq rfl rfl rfl ?_
          exact .fin1 (Fz.le_refl _)
        refine .cons (.mk 32 (.bool (decide (s1.Hi ≥ q22))) [(21, (.bool (decide (s1.Lo ≤ q18)))), (31, (.bool (decide (s1.Hi ≥ q22))))] rfl rfl rfl rfl (fun S hS hd => (.cons (hd.2.1 rfl rfl _ _ rfl) (.cons (hd.1 rfl rfl _ _ rfl) (Sub.nil _)))) (fun F_116 X l_117 => ?_)) ?_
        · skip
          refine .onH hb21 rfl rfl ?_
          refine .move rfl rfl ?_
          exact .fin1 (Fz.le_refl _)
        refine .cons (.mk 33 (.pointer (some ⟨b12, 0 + 1, none⟩)) [(5, (.pointer (some ⟨b12, 0, none⟩))), (32, (.bool (decide (s1.Hi ≥ q22))))] rfl rfl rfl rfl (fun S hS hd => (.cons (hS _ _ rfl) (.cons (hd.1 rfl rfl _ _ rfl) (Sub.nil _)))) (fun F_118 X l_119 => ?_)) ?_
        · skip
          refine .onH hb25 rfl rfl ?_
          refine .fieldAddr rfl Try.underlying36 rfl Try.sizeOf3 rfl ?_
          exact .fin1 (Fz.le_refl _)
        refine .cons (.mk 34 (.int .i64 s1.Hi) [(32, (.bool (decide (s1.Hi ≥ q22)))), (33, (.pointer (some ⟨b12, 0 + 1, none⟩)))] rfl rfl rfl rfl (fun S hS hd => (.cons (hd.2.1 rfl rfl _ _ rfl) (.cons (hd.1 rfl rfl _ _ rfl) (Sub.nil _)))) (fun F_120 X l_121 => ?_)) ?_
        · skip
          refine .onH hb25 rfl rfl ?_
          refine .loadF rfl Try.isAgg3 rfl (l_121.mem _ _ hb15) rfl ?_
          exact .fin1 (Fz.le_refl _)
        refine .cons (.mk 35 (.bool (s1.Hi == 10000)) [(32, (.bool (decide (s1.Hi ≥ q22)))), (34, (.int .i64 s1.Hi))] rfl rfl rfl rfl (fun S hS hd => (.cons (hd.2.1 rfl rfl _ _ rfl) (.cons (hd.1 rfl rfl _ _ rfl) (Sub.nil _)))) (fun F_122 X l_123 => ?_)) ?_
        · skip
          refine .onH hb25 rfl rfl ?_
          refine .eql rfl rfl rfl ?_
          exact .fin1 (Fz.le_refl _)
        refine .cons (.mk 36 (.bool (s1.Hi == 10000)) [(21, (.bool (decide (s1.Lo ≤ q18)))), (32, (.bool (decide (s1.Hi ≥ q22)))), (35, (.bool (s1.Hi == 10000)))] rfl rfl rfl rfl (fun S hS hd => (.cons (hd.2.2.1 rfl rfl _ _ rfl) (.cons (hd.1 rfl rfl _ _ rfl) (.cons (hd.2.1 rfl rfl _ _ rfl) (Sub.nil _))))) (fun F_124 X l_125 => ?_)) ?_
        · skip
          refine .onH hb21 rfl rfl ?_
          refine .pickFH hb25  rfl rfl rfl ?_
          exact .fin1 (Fz.le_refl _)
        refine .cons (.mk 37 (.bool (s1.Hi == 10000)) [(21, (.bool (decide (s1.Lo ≤ q18)))), (36, (.bool (s1.Hi == 10000)))] rfl rfl rfl rfl (fun S hS hd => (.cons (hd.1 rfl rfl _ _ rfl) (.cons (hd.2.1 rfl rfl _ _ rfl) (Sub.nil _)))) (fun F_126 X l_127 => ?_)) ?_
        · skip
          refine .pickTH hb21  rfl rfl rfl ?_
          exact .fin1 (Fz.le_refl _)
        exact .nil
      refine .assign rfl rfl ?_
      refine .nil ?_
      refine .keep (.cons (k := 7) rfl (.nil _)) ?_
      refine .code ?_
      exact .ret0 Try.results21 (.tmp rfl (.nil)) (i := 0) rfl (Fz.le_trans l_14 l_79) rfl
  · skip
    refine .draw ⟨1000000, 0, [], 0⟩ [(14, (.pointer (some ⟨b12, 0 + 0, none⟩))), (15, (.int .i64 s1.Lo)), (16, (.int .i64 c9)), (17, (.int .i64 (w64 (c9 * 10000)))), (18, (.int .i64 v16)), (19, (.int .i64 q18)), (20, (.bool (decide (s1.Lo ≤ q18)))), (21, (.bool (decide (s1.Lo ≤ q18)))), (22, undef), (23, undef), (24, undef), (25, undef), (26, undef), (27, undef), (28, undef), (29, undef), (30, undef), (31, undef), (32, undef), (33, undef), (34, undef), (35, undef), (36, undef), (37, (.bool false))] mixedOK (by kernel_rfl) (by kernel_rfl) rfl (by kernel_rfl) ?_ (fun F_128 b129 l_130 => ?_)
    · skip
      refine .cons (.mk 14 (.pointer (some ⟨b12, 0 + 0, none⟩)) [(5, (.pointer (some ⟨b12, 0, none⟩)))] rfl rfl rfl rfl (fun S hS hd => (.cons (hS _ _ rfl) (Sub.nil _))) (fun F_131 X l_132 => ?_)) ?_
      · skip
        refine .fieldAddr rfl Try.underlying36 rfl Try.sizeOf3 rfl ?_
        exact .fin1 (Fz.le_refl _)
      refine .cons (.mk 15 (.int .i64 s1.Lo) [(14, (.pointer (some ⟨b12, 0 + 0, none⟩)))] rfl rfl rfl rfl (fun S hS hd => (.cons (hd.1 rfl rfl _ _ rfl) (Sub.nil _))) (fun F_133 X l_134 => ?_)) ?_
      · skip
        refine .loadF rfl Try.isAgg3 rfl (l_134.mem _ _ hb15) rfl ?_
        exact .fin1 (Fz.le_refl _)
      refine .cons (.mk 16 (.int .i64 c9) [(4, (.pointer (some ⟨b10, 0, none⟩)))] rfl rfl rfl rfl (fun S hS hd => (.cons (hS _ _ rfl) (Sub.nil _))) (fun F_135 X l_136 => ?_)) ?_
      · skip
        refine .loadF rfl Try.isAgg3 rfl ((Fz.le_trans l_14 l_136).mem _ _ hb11) rfl ?_
        exact .fin1 (Fz.le_refl _)
      refine .cons (.mk 17 (.int .i64 (w64 (c9 * 10000))) [(16, (.int .i64 c9))] rfl rfl rfl rfl (fun S hS hd => (.cons (hd.1 rfl rfl _ _ rfl) (Sub.nil _))) (fun F_137 X l_138 => ?_)) ?_
      · skip
        refine .mul rfl rfl rfl ?_
        exact .fin1 (Fz.le_refl _)
      refine .cons (.mk 18 (.int .i64 v16) [(8, (.int .i64 v16))] rfl rfl rfl rfl (fun S hS hd => (.cons (hS _ _ rfl) (Sub.nil _))) (fun F_139 X l_140 => ?_)) ?_
      · skip
        refine .move rfl rfl ?_
        exact .fin1 (Fz.le_refl _)
      refine .cons (.mk 19 (.int .i64 q18) [(17, (.int .i64 (w64 (c9 * 10000)))), (18, (.int .i64 v16))] rfl rfl rfl rfl (fun S hS hd => (.cons (hd.1 rfl rfl _ _ rfl) (.cons (hd.2.1 rfl rfl _ _ rfl) (Sub.nil _)))) (fun F_141 X l_142 => ?_)) ?_
      · skip
        refine .quoK hx20 rfl rfl rfl ?_
        exact .fin1 (Fz.le_refl _)
      refine .cons (.mk 20 (.bool (decide (s1.Lo ≤ q18))) [(15, (.int .i64 s1.Lo)), (19, (.int .i64 q18))] rfl rfl rfl rfl (fun S hS hd => (.cons (hd.1 rfl rfl _ _ rfl) (.cons (hd.2.1 rfl rfl _ _ rfl) (Sub.nil _)))) (fun F_143 X l_144 => ?_)) ?_
      · skip
        refine .leq rfl rfl rfl ?_
        exact .fin1 (Fz.le_refl _)
      refine .cons (.mk 21 (.bool (decide (s1.Lo ≤ q18))) [(20, (.bool (decide (s1.Lo ≤ q18))))] rfl rfl rfl rfl (fun S hS hd => (.cons (hd.1 rfl rfl _ _ rfl) (Sub.nil _))) (fun F_145 X l_146 => ?_)) ?_
      · skip
        refine .move rfl rfl ?_
        exact .fin1 (Fz.le_refl _)
      refine .cons (.mk 22 undef [(5, (.pointer (some ⟨b12, 0, none⟩))), (21, (.bool (decide (s1.Lo ≤ q18))))] rfl rfl rfl rfl (fun S hS hd => (.cons (hS _ _ rfl) (.cons (hd.1 rfl rfl _ _ rfl) (Sub.nil _)))) (fun F_147 X l_148 => ?_)) ?_
      · skip
        refine .offH hb21 rfl rfl rfl ?_
        exact .fin1 (Fz.le_refl _)
      refine .cons (.mk 23 undef [(21, (.bool (decide (s1.Lo ≤ q18)))), (22, undef)] rfl rfl rfl rfl (fun S hS hd => (.cons (hd.2.1 rfl rfl _ _ rfl) (.cons (hd.1 rfl rfl _ _ rfl) (Sub.nil _)))) (fun F_149 X l_150 => ?_)) ?_
      · skip
        refine .offH hb21 rfl rfl rfl ?_
        exact .fin1 (Fz.le_refl _)
      refine .cons (.mk 24 undef [(4, (.pointer (some ⟨b10, 0, none⟩))), (21, (.bool (decide (s1.Lo ≤ q18))))] rfl rfl rfl rfl (fun S hS hd => (.cons (hS _ _ rfl) (.cons (hd.1 rfl rfl _ _ rfl) (Sub.nil _)))) (fun F_151 X l_152 => ?_)) ?_
      · skip
        refine .offH hb21 rfl rfl rfl ?_
        exact .fin1 (Fz.le_refl _)
      refine .cons (.mk 25 undef [(21, (.bool (decide (s1.Lo ≤ q18)))), (24, undef)] rfl rfl rfl rfl (fun S hS hd => (.cons (hd.2.1 rfl rfl _ _ rfl) (.cons (hd.1 rfl rfl _ _ rfl) (Sub.nil _)))) (fun F_153 X l_154 => ?_)) ?_
      · skip
        refine .offH hb21 rfl rfl rfl ?_
        exact .fin1 (Fz.le_refl _)
      refine .cons (.mk 26 undef [(8, (.int .i64 v16)), (21, (.bool (decide (s1.Lo ≤ q18))))] rfl rfl rfl rfl (fun S hS hd => (.cons (hS _ _ rfl) (.cons (hd.1 rfl rfl _ _ rfl) (Sub.nil _)))) (fun F_155 X l_156 => ?_)) ?_
      · skip
        refine .offH hb21 rfl rfl rfl ?_
        exact .fin1 (Fz.le_refl _)
      refine .cons (.mk 27 undef [(21, (.bool (decide (s1.Lo ≤ q18)))), (25, undef), (26, undef)] rfl rfl rfl rfl (fun S hS hd => (.cons (hd.2.2.1 rfl rfl _ _ rfl) (.cons (hd.1 rfl rfl _ _ rfl) (.cons (hd.2.1 rfl rfl _ _ rfl) (Sub.nil _))))) (fun F_157 X l_158 => ?_)) ?_
      · skip
        refine .offH hb21 rfl rfl rfl ?_
        exact .fin1 (Fz.le_refl _)
      refine .cons (.mk 28 undef [(21, (.bool (decide (s1.Lo ≤ q18)))), (27, undef)] rfl rfl rfl rfl (fun S hS hd => (.cons (hd.2.1 rfl rfl _ _ rfl) (.cons (hd.1 rfl rfl _ _ rfl) (Sub.nil _)))) (fun F_159 X l_160 => ?_)) ?_
      · skip
        refine .offH hb21 rfl rfl rfl ?_
        exact .fin1 (Fz.le_refl _)
      refine .cons (.mk 29 undef [(8, (.int .i64 v16)), (21, (.bool (decide (s1.Lo ≤ q18))))] rfl rfl rfl rfl (fun S hS hd => (.cons (hS _ _ rfl) (.cons (hd.1 rfl rfl _ _ rfl) (Sub.nil _)))) (fun F_161 X l_162 => ?_)) ?_
      · skip
        refine .offH hb21 rfl rfl rfl ?_
        exact .fin1 (Fz.le_refl _)
      refine .cons (.mk 30 undef [(21, (.bool (decide (s1.Lo ≤ q18)))), (28, undef), (29, undef)] rfl rfl rfl rfl (fun S hS hd => (.cons (hd.2.2.1 rfl rfl _ _ rfl) (.cons (hd.1 rfl rfl _ _ rfl) (.cons (hd.2.1 rfl rfl _ _ rfl) (Sub.nil _))))) (fun F_163 X l_164 => ?_)) ?_
      · skip
        refine .offH hb21 rfl rfl rfl ?_
        exact .fin1 (Fz.le_refl _)
      refine .cons (.mk 31 undef [(21, (.bool (decide (s1.Lo ≤ q18)))), (23, undef), (30, undef)] rfl rfl rfl rfl (fun S hS hd => (.cons (hd.2.2.1 rfl rfl _ _ rfl) (.cons (hd.1 rfl rfl _ _ rfl) (.cons (hd.2.1 rfl rfl _ _ rfl) (Sub.nil _))))) (fun F_165 X l_166 => ?_)) ?_
      · skip
        refine .offH hb21 rfl rfl rfl ?_
        exact .fin1 (Fz.le_refl _)
      refine .cons (.mk 32 undef [(21, (.bool (decide (s1.Lo ≤ q18)))), (31, undef)] rfl rfl rfl rfl (fun S hS hd => (.cons (hd.2.1 rfl rfl _ _ rfl) (.cons (hd.1 rfl rfl _ _ rfl) (Sub.nil _)))) (fun F_167 X l_168 => ?_)) ?_
      · skip
        refine .offH hb21 rfl rfl rfl ?_
        exact .fin1 (Fz.le_refl _)
      refine .cons (.mk 33 undef [(5, (.pointer (some ⟨b12, 0, none⟩))), (32, undef)] rfl rfl rfl rfl (fun S hS hd => (.cons (hS _ _ rfl) (.cons (hd.1 rfl rfl _ _ rfl) (Sub.nil _)))) (fun F_169 X l_170 => ?_)) ?_
      · skip
        refine .off rfl rfl rfl rfl ?_
        exact .fin1 (Fz.le_refl _)
      refine .cons (.mk 34 undef [(32, undef), (33, undef)] rfl rfl rfl rfl (fun S hS hd => (.cons (hd.2.1 rfl rfl _ _ rfl) (.cons (hd.1 rfl rfl _ _ rfl) (Sub.nil _)))) (fun F_171 X l_172 => ?_)) ?_
      · skip
        refine .off rfl rfl rfl rfl ?_
        exact .fin1 (Fz.le_refl _)
      refine .cons (.mk 35 undef [(32, undef), (34, undef)] rfl rfl rfl rfl (fun S hS hd => (.cons (hd.2.1 rfl rfl _ _ rfl) (.cons (hd.1 rfl rfl _ _ rfl) (Sub.nil _)))) (fun F_173 X l_174 => ?_)) ?_
      · skip
        refine .off rfl rfl rfl rfl ?_
        exact .fin1 (Fz.le_refl _)
      refine .cons (.mk 36 undef [(21, (.bool (decide (s1.Lo ≤ q18)))), (32, undef), (35, undef)] rfl rfl rfl rfl (fun S hS hd => (.cons (hd.2.2.1 rfl rfl _ _ rfl) (.cons (hd.1 rfl rfl _ _ rfl) (.cons (hd.2.1 rfl rfl _ _ rfl) (Sub.nil _))))) (fun F_175 X l_176 => ?_)) ?_
      · skip
        refine .offH hb21 rfl rfl rfl ?_
        exact .fin1 (Fz.le_refl _)
      refine .cons (.mk 37 (.bool false) [(21, (.bool (decide (s1.Lo ≤ q18)))), (36, undef)] rfl rfl rfl rfl (fun S hS hd => (.cons (hd.1 rfl rfl _ _ rfl) (.cons (hd.2.1 rfl rfl _ _ rfl) (Sub.nil _)))) (fun F_177 X l_178 => ?_)) ?_
      · skip
        refine .pickFH hb21  rfl rfl rfl ?_
        exact .fin1 (Fz.le_refl _)
      exact .nil
    refine .assign rfl rfl ?_
    refine .nil ?_
    refine .code ?_
    exact .ret0 Try.results21 (.tmp rfl (.nil)) (i := 0) rfl (Fz.le_trans l_14 l_130) rfl

noncomputable def b_wormtublaw12_BottleTrue_1 (b1 : ApiBatch) (by_9 : (List Int)) (s49 : Int × Int × Int) : Option (Ctl (Int × Int × Int) ((Int × Int))) :=
  if (decide (s49.1 < (b1.Draughts.length : Int))) then ((idxL b1.Draughts s49.1).bind fun x53 => (remK s49.1 (by_9.length : Int)).bind fun q64 => (idxL by_9 q64).bind fun x67 => (remK (w64 (x67)) (w64 ((w64 (x53.Strength.Hi - x53.Strength.Lo)) + 1))).bind fun q77 => bindv (w64 (s49.1 + 1)) fun i135 => some (.next (i135, (w64 (s49.2.1 + x53.Amount)), (w64 (s49.2.2 + (w64 (x53.Amount * (w64 (x53.Strength.Lo + q77))))))))) else (some (.done (s49.2.1, s49.2.2)))
noncomputable def m_wormtublaw12_BottleTrue (b1 : ApiBatch) (least5 : Int) (most6 : Int) (what7 : Int) (off8 : Int) (by_9 : (List Int)) : Option Bool :=
  if ((decide ((b1.Draughts.length : Int) > 16)) || ((by_9.length : Int) == 0)) then ((m_wormtublaw12_awake).bind fun r_24 => some r_24) else ((m_bottle_Blend b1).bind fun r_27 => if (r_27.2 != 0) then ((if ((eq_56 r_27.1 (ApiBottling.mk (ApiSpan.mk 0 0) (ApiSpan.mk 0 0) 0 (fun _ => 0) (fun _ => 0) 0)) && (r_27.2 == 1)) then ((m_wormtublaw12_awake).bind fun r_37 => some r_37) else some false).bind fun z41 => some z41) else ((m_wormtubref12_Batch b1).bind fun r_45 => if (!r_45) then (some false) else ((loopM (b_wormtublaw12_BottleTrue_1 b1 by_9) (0, 0, 0)).bind fun b137 => (idxL by_9 0).bind fun x140 => (remK (w64 (x140)) (w64 ((w64 (b1.Shrink.Hi - b1.Shrink.Lo)) + 1))).bind fun q150 => bindv (w64 ((w64 (b137.1 + b1.Water)) * (w64 ((w64 (10000 - b1.Shrink.Lo)) - q150)))) fun v201 => (if ((decide (r_27.1.Volume.Lo > (w64 (Int.tdiv v201 10000)))) || (decide (r_27.1.Volume.Hi < (w64 (Int.tdiv (w64 (v201 + 9999)) 10000))))) then some true else ((m_wormtublaw12_BottleTrue_1 r_27.1.Strength b1.Water b137.1 (w64 ((w64 (10000 - b1.Shrink.Lo)) - q150)) b137.2).bind fun r_210 => some (!r_210))).bind fun z214 => if z214 then (some false) else ((m_bottle_False b1 ([(ApiClaim.mk 7 (Int.tmod (w64 (what7)) 10001) (Int.tmod (w64 (off8)) 10001))])).bind fun r_225 => (if (r_225.2 != 0) then some true else ((if ((r_225.1.length : Int) == 0) then ((m_wormtublaw12_BottleTrue_1 (ApiSpan.mk (w64 (((ApiClaim.mk 7 (Int.tmod (w64 (what7)) 10001) (Int.tmod (w64 (off8)) 10001)).What) - ((ApiClaim.mk 7 (Int.tmod (w64 (what7)) 10001) (Int.tmod (w64 (off8)) 10001)).Number))) (imin 10000 (w64 (((ApiClaim.mk 7 (Int.tmod (w64 (what7)) 10001) (Int.tmod (w64 (off8)) 10001)).What) + ((ApiClaim.mk 7 (Int.tmod (w64 (what7)) 10001) (Int.tmod (w64 (off8)) 10001)).Number))))) b1.Water b137.1 (w64 ((w64 (10000 - b1.Shrink.Lo)) - q150)) b137.2).bind fun r_233 => some (!r_233)) else some false).bind fun z237 => some z237)).bind fun z242 => if z242 then (some false) else ((m_bottle_Water b1 least5 most6).bind fun r_247 => if (r_247.2 != 0) then ((if ((eq_36 r_247.1 (ApiSpan.mk 0 0)) && ((r_247.2 == 2) || (r_247.2 == 4))) then ((m_wormtublaw12_awake).bind fun r_261 => some r_261) else some false).bind fun z265 => some z265) else (if (((decide (r_247.1.Lo < 0)) || (decide (r_247.1.Lo > r_247.1.Hi))) || (decide (r_247.1.Hi > 17179869184))) then (some false) else ((remK 1 (by_9.length : Int)).bind fun q276 => (idxL by_9 q276).bind fun x279 => (remK (w64 (x279)) (w64 ((w64 (r_247.1.Hi - r_247.1.Lo)) + 1))).bind fun q289 => (m_wormtublaw12_BottleTrue_1 (ApiSpan.mk least5 most6) (w64 (r_247.1.Lo + q289)) b137.1 (w64 ((w64 (10000 - b1.Shrink.Lo)) - q150)) b137.2).bind fun r_294 => if r_294 then ((m_wormtublaw12_awake).bind fun r_299 => some r_299) else (some false))))))))
theorem c_wormtublaw12_BottleTrue (F0 : Fz) (b1 : ApiBatch) (p2 : Option Addr) (k3 : Nat) (h4 : RepSl 27 (Ex cApiDraught) F0 p2 k3 b1.Draughts) (least5 : Int) (most6 : Int) (what7 : Int) (off8 : Int) (by_9 : (List Int)) (p10 : Option Addr) (k11 : Nat) (h12 : RepSl 1 (Ex (cInt .u32)) F0 p10 k11 by_9) : CT0 Try.prog 5 [(eApiBatch b1 p2 k3), (.int .i64 least5), (.int .i64 most6), (.int .u16 what7), (.int .u16 off8), (.slice p10 by_9.length k11)].toArray F0 (m_wormtublaw12_BottleTrue b1 least5 most6 what7 off8 by_9) (fun r _ v => v = (.bool r)) := by
  refine CT0.enter Try.func5 rfl Try.ntmps5 rfl fun r R => ?_
  unfold m_wormtublaw12_BottleTrue
  refine .seq ?_
  refine .region ?_
  refine .boxF (cs := (cApiBatch b1 p2 k3)) rfl rfl rfl (fun b13 F_14 l_15 hb16 => ?_)
  refine .assign rfl rfl ?_
  refine .nil ?_
  refine .code ?_
  refine .seq ?_
  refine .seq ?_
  refine .region ?_
  refine .fieldAddr rfl Try.underlying38 rfl Try.sizeOf34 rfl ?_
  refine .loadF rfl Try.isAgg34 rfl hb16 rfl ?_
  refine .lenS rfl rfl Try.underlying34 rfl ?_
  refine .gtr rfl rfl rfl ?_
  refine .move rfl rfl ?_
  refine .orP (b := (decide ((b1.Draughts.length : Int) > 16))) (b' := ((by_9.length : Int) == 0)) 4 35 (fun hb17 => ?_) (fun hb18 => ?_) (fun F_19 l_20 => ?_)
  · skip
    refine .onH hb17 rfl rfl ?_
    refine .move rfl rfl ?_
    refine .onH hb17 rfl rfl ?_
    refine .lenS rfl rfl Try.underlying54 rfl ?_
    refine .onH hb17 rfl rfl ?_
    refine .eql rfl rfl rfl ?_
    refine .pickFH hb17 rfl rfl rfl ?_
    exact .fin 4 rfl rfl (by kernel_rfl) (Fz.le_refl _)
  · skip
    refine .offH hb18 rfl rfl rfl ?_
    refine .offH hb18 rfl rfl rfl ?_
    refine .offH hb18 rfl rfl rfl ?_
    refine .pickTH hb18 rfl rfl rfl ?_
    exact .fin 4 rfl rfl (by kernel_rfl) (Fz.le_refl _)
  refine .nil ?_
  refine .code ?_
  refine .cond rfl (fun hb21 => ?_) (fun hb21 => ?_)
  · skip
    refine .seq ?_
    refine .region ?_
    refine .call0 rfl Try.call11 rfl rfl rfl (c_wormtublaw12_awake _ ) ?_
    rintro r_24 F_22 _ - l_23 rfl
    refine .assign rfl rfl ?_
    refine .nil ?_
    refine .code ?_
    exact .ret0 Try.results5 (.tmp rfl (.nil)) (i := 0) rfl (Fz.le_trans l_15 (Fz.le_trans l_20 l_23)) rfl
  · skip
    refine .skip ?_
    refine .code ?_
    refine .seq ?_
    refine .region ?_
    refine .loadFA rfl Try.isAgg38 Try.sizeOf38 rfl (l_20.mem _ _ hb16) (vs := (cApiBatch b1 p2 k3)) (by kernel_rfl) rfl ?_
    refine .call0 rfl Try.call20 rfl rfl rfl (c_bottle_Blend _ b1 p2 k3 (h4.mono (Fz.le_trans l_15 l_20))) ?_
    rintro r_27 F_25 _ - l_26 rfl
    refine .move rfl rfl ?_
    refine .extract rfl rfl rfl ?_
    refine .extract rfl rfl rfl ?_
    refine .alloc (cs := (cApiBottling (ApiBottling.mk (ApiSpan.mk 0 0) (ApiSpan.mk 0 0) 0 (fun _ => 0) (fun _ => 0) 0))) rfl Try.zeroValue56 rfl (fun b28 => ?_)
    refine .store (cs' := (cApiBottling r_27.1)) Try.sizeOf56 rfl rfl rfl rfl (i := 0) rfl (Nat.le_of_ble_eq_true rfl) rfl (setMany_all (by rfl)) ?_
    refine .assign rfl rfl ?_
    refine .nil ?_
    refine .code ?_
    refine .seq ?_
    refine .seq ?_
    refine .region ?_
    refine .move rfl rfl ?_
    refine .neq rfl rfl rfl ?_
    refine .nil ?_
    refine .code ?_
    refine .cond rfl (fun hb29 => ?_) (fun hb29 => ?_)
    · skip
      refine .seq ?_
      refine .region ?_
      refine .loadOA rfl Try.isAgg56 Try.sizeOf56 rfl (i := 0) rfl (vs := (cApiBottling r_27.1)) (by kernel_rfl) rfl ?_
      refine .build (cs := (cApiBottling (ApiBottling.mk (ApiSpan.mk 0 0) (ApiSpan.mk 0 0) 0 (fun _ => 0) (fun _ => 0) 0)).toArray) rfl Try.underlying56 Try.zeroValue56 (plApiBottling _ Try.underlying56) rfl rfl (by kernel_rfl) ?_
      refine .eqlR rfl Try.eqGuardType56 (fun w => req_56 r_27.1 (ApiBottling.mk (ApiSpan.mk 0 0) (ApiSpan.mk 0 0) 0 (fun _ => 0) (fun _ => 0) 0) w) rfl rfl ?_
      refine .move rfl rfl ?_
      refine .andP (b := (eq_56 r_27.1 (ApiBottling.mk (ApiSpan.mk 0 0) (ApiSpan.mk 0 0) 0 (fun _ => 0) (fun _ => 0) 0))) (b' := (r_27.2 == 1)) 3 50 (fun hb30 => ?_) (fun hb31 => ?_) (fun F_32 l_33 => ?_)
      · skip
        refine .onH hb30 rfl rfl ?_
        refine .move rfl rfl ?_
        refine .onH hb30 rfl rfl ?_
        refine .eql rfl rfl rfl ?_
        refine .pickTH hb30 rfl rfl rfl ?_
        exact .fin 3 rfl rfl (by kernel_rfl) (Fz.le_refl _)
      · skip
        refine .offH hb31 rfl rfl rfl ?_
        refine .offH hb31 rfl rfl rfl ?_
        refine .pickFH hb31 rfl rfl rfl ?_
        exact .fin 3 rfl rfl (by kernel_rfl) (Fz.le_refl _)
      refine .move rfl rfl ?_
      refine .andM (b := ((eq_56 r_27.1 (ApiBottling.mk (ApiSpan.mk 0 0) (ApiSpan.mk 0 0) 0 (fun _ => 0) (fun _ => 0) 0)) && (r_27.2 == 1))) 2 53 (fun hb34 z42 => ?_) (fun hb38 => ?_) (fun z41 F_39 l_40 => ?_)
      · skip
        refine .onH hb34 rfl rfl ?_
        refine .call0 rfl Try.call11 rfl rfl rfl (c_wormtublaw12_awake _ ) ?_
        rintro r_37 F_35 _ - l_36 rfl
        refine .pickTH hb34 rfl rfl rfl ?_
        exact .finZ 2 rfl rfl (by kernel_rfl) l_36
      · skip
        refine .offH hb38 rfl rfl rfl ?_
        refine .pickFH hb38 rfl rfl rfl ?_
        exact .fin 2 rfl rfl (by kernel_rfl) (Fz.le_refl _)
      refine .assign rfl rfl ?_
      refine .nil ?_
      refine .keep (.cons (k := 12) rfl (.nil _)) ?_
      refine .code ?_
      exact .ret0 Try.results5 (.tmp rfl (.nil)) (i := 1) rfl (Fz.le_trans l_15 (Fz.le_trans l_20 (Fz.le_trans l_26 (Fz.le_trans l_33 l_40)))) rfl
    · skip
      refine .skip ?_
      refine .code ?_
      refine .seq ?_
      refine .seq ?_
      refine .region ?_
      refine .loadFA rfl Try.isAgg38 Try.sizeOf38 rfl ((Fz.le_trans l_20 l_26).mem _ _ hb16) (vs := (cApiBatch b1 p2 k3)) (by kernel_rfl) rfl ?_
      refine .call0 rfl Try.call18 rfl rfl rfl (c_wormtubref12_Batch _ b1 p2 k3 (h4.mono (Fz.le_trans l_15 (Fz.le_trans l_20 l_26)))) ?_
      rintro r_45 F_43 _ - l_44 rfl
      refine .not rfl rfl ?_
      refine .nil ?_
      refine .keep (.cons (k := 1) rfl (.cons (k := 2) rfl (.cons (k := 3) rfl (.cons (k := 4) rfl (.cons (k := 5) rfl (.cons (k := 6) rfl (.cons (k := 13) rfl (.cons (k := 56) rfl (.nil _))))))))) ?_
      refine .code ?_
      refine .cond rfl (fun hb46 => ?_) (fun hb46 => ?_)
      · skip
        refine .seq ?_
        refine .region ?_
        refine .assign rfl rfl ?_
        refine .nil ?_
        refine .code ?_
        exact .ret0 Try.results5 (.tmp rfl (.nil)) (i := 1) rfl (Fz.le_trans l_15 (Fz.le_trans l_20 (Fz.le_trans l_26 l_44))) rfl
      · skip
        refine .skip ?_
        refine .code ?_
        refine .seq ?_
        refine .region ?_
        refine .alloc (cs := [(.int .i64 0)]) rfl Try.zeroValue3 rfl (fun b47 => ?_)
        refine .alloc (cs := [(.int .i64 0)]) rfl Try.zeroValue3 rfl (fun b48 => ?_)
        refine .store (cs' := [(.int .i64 0)]) Try.sizeOf3 rfl rfl rfl rfl (i := 1) rfl (Nat.le_of_ble_eq_true rfl) rfl rfl ?_
        refine .store (cs' := [(.int .i64 0)]) Try.sizeOf3 rfl rfl rfl rfl (i := 0) rfl (Nat.le_of_ble_eq_true rfl) rfl rfl ?_
        refine .nil ?_
        refine .code ?_
        refine .seq ?_
        refine .seq ?_
        refine .region ?_
        refine .assign rfl rfl ?_
        refine .nil ?_
        refine .code ?_
        refine .block ?_
        refine .keep (.cons (k := 1) rfl (.cons (k := 2) rfl (.cons (k := 3) rfl (.cons (k := 4) rfl (.cons (k := 5) rfl (.cons (k := 6) rfl (.cons (k := 13) rfl (.cons (k := 15) rfl (.cons (k := 16) rfl (.cons (k := 17) rfl (.nil _))))))))))) ?_
        refine .loop (fun (s49 : Int × Int × Int) a w => ∃ (F_50 : Fz), F_43 ≤ F_50 ∧ Hd 251 [] [(1, (.int .i64 least5)), (2, (.int .i64 most6)), (3, (.int .u16 what7)), (4, (.int .u16 off8)), (5, (.slice p10 by_9.length k11)), (6, (.pointer (some ⟨b13, 0, none⟩))), (13, (.pointer (some ⟨b28, 0, none⟩))), (15, (.pointer (some ⟨b47, 0, none⟩))), (16, (.pointer (some ⟨b48, 0, none⟩))), (17, (.int .i64 s49.1))] F_50 [pt b48 (.cells [(.int .i64 s49.2.2)].toArray 3), pt b47 (.cells [(.int .i64 s49.2.1)].toArray 3), pt b28 (.cells (cApiBottling r_27.1).toArray 56), R] a w) (fun b137 e a w => e = .exit 0 ∧ ∃ (F_138 : Fz), F_43 ≤ F_138 ∧ Hd 251 [] [(1, (.int .i64 least5)), (2, (.int .i64 most6)), (3, (.int .u16 what7)), (4, (.int .u16 off8)), (5, (.slice p10 by_9.length k11)), (6, (.pointer (some ⟨b13, 0, none⟩))), (13, (.pointer (some ⟨b28, 0, none⟩))), (15, (.pointer (some ⟨b47, 0, none⟩))), (16, (.pointer (some ⟨b48, 0, none⟩)))] F_138 [pt b48 (.cells [(.int .i64 b137.2)].toArray 3), pt b47 (.cells [(.int .i64 b137.1)].toArray 3), pt b28 (.cells (cApiBottling r_27.1).toArray 56), R] a w) ?_ ?_ ?_
        · exact fun a w h => ⟨F_43, (Fz.le_refl _), h.1.sub (.cons (k := 1) rfl (.cons (k := 2) rfl (.cons (k := 3) rfl (.cons (k := 4) rfl (.cons (k := 5) rfl (.cons (k := 6) rfl (.cons (k := 13) rfl (.cons (k := 15) rfl (.cons (k := 16) rfl (.cons (k := 17) rfl (.nil _))))))))))), h.2⟩
        · intro s49 ctl
          refine GC.ex (fun a w ⟨F_50, l_51, hA⟩ => ⟨_, hA, ?_⟩)
          unfold b_wormtublaw12_BottleTrue_1
          refine .seq ?_
          refine .seq ?_
          refine .region ?_
          refine .move rfl rfl ?_
          refine .fieldAddr rfl Try.underlying38 rfl Try.sizeOf34 rfl ?_
          refine .loadF rfl Try.isAgg34 rfl ((Fz.le_trans l_20 (Fz.le_trans l_26 (Fz.le_trans l_44 l_51))).mem _ _ hb16) rfl ?_
          refine .lenS rfl rfl Try.underlying34 rfl ?_
          refine .lss rfl rfl rfl ?_
          refine .nil ?_
          refine .code ?_
          refine .cond rfl (fun hb52 => ?_) (fun hb52 => ?_)
          · skip
            refine .skip ?_
            refine .code ?_
            refine .seq ?_
            refine .block ?_
            refine .seq ?_
            refine .region ?_
            refine .fieldAddr rfl Try.underlying38 rfl Try.sizeOf34 rfl ?_
            refine .loadF rfl Try.isAgg34 rfl ((Fz.le_trans l_20 (Fz.le_trans l_26 (Fz.le_trans l_44 l_51))).mem _ _ hb16) rfl ?_
            refine .move rfl rfl ?_
            refine .idx rfl Try.underlying34 Try.sizeOf51 (h4.mono (Fz.le_trans l_15 (Fz.le_trans l_20 (Fz.le_trans l_26 (Fz.le_trans l_44 l_51))))) rfl rfl (fun x53 b54 o55 T56 fr57 cs58 e59 hm60 hv61 => ?_)
            refine .loadFA rfl Try.isAgg51 Try.sizeOf51 rfl hm60 hv61 rfl ?_
            refine .alloc (cs := (cApiDraught (ApiDraught.mk (ApiCask.mk 0 0 0 0 0 0 0 0 (fun _ => 0) (fun _ => 0)) 0 (ApiSpan.mk 0 0)))) rfl Try.zeroValue51 rfl (fun b63 => ?_)
            refine .store (cs' := (cApiDraught x53)) Try.sizeOf51 rfl rfl rfl rfl (i := 0) rfl (Nat.le_of_ble_eq_true rfl) rfl (setMany_all (by rfl)) ?_
            refine .nil ?_
            refine .code ?_
            refine .seq ?_
            refine .region ?_
            refine .loadO rfl Try.isAgg3 rfl (i := 2) rfl rfl ?_
            refine .fieldAddr rfl Try.underlying51 rfl Try.sizeOf3 rfl ?_
            refine .loadO rfl Try.isAgg3 rfl (i := 0) rfl rfl ?_
            refine .add rfl rfl rfl ?_
            refine .store (cs' := [(.int .i64 (w64 (s49.2.1 + x53.Amount)))]) Try.sizeOf3 rfl rfl rfl rfl (i := 2) rfl (Nat.le_of_ble_eq_true rfl) rfl rfl ?_
            refine .nil ?_
            refine .keep (.cons (k := 1) rfl (.cons (k := 2) rfl (.cons (k := 3) rfl (.cons (k := 4) rfl (.cons (k := 5) rfl (.cons (k := 6) rfl (.cons (k := 13) rfl (.cons (k := 15) rfl (.cons (k := 16) rfl (.cons (k := 17) rfl (.cons (k := 18) rfl (.nil _)))))))))))) ?_
            refine .code ?_
            refine .keep (.cons (k := 1) rfl (.cons (k := 2) rfl (.cons (k := 3) rfl (.cons (k := 4) rfl (.cons (k := 5) rfl (.cons (k := 6) rfl (.cons (k := 13) rfl (.cons (k := 15) rfl (.cons (k := 16) rfl (.cons (k := 17) rfl (.cons (k := 18) rfl (.nil _)))))))))))) ?_
            refine .bind (fun q64 hx66 => ?_)
            refine .bind (fun x67 e73 => ?_)
            obtain ⟨b68, o69, T70, fr71, cs72, hm74, hv75, hq76⟩ := RepSl.idxE (h12.mono (Fz.le_trans l_15 (Fz.le_trans l_20 (Fz.le_trans l_26 (Fz.le_trans l_44 l_51))))) e73
            refine .bind (fun q77 hx79 => ?_)
            refine .draw ⟨1000000, 0, [], 0⟩ [(73, (.int .i64 s49.2.2)), (74, (.pointer (some ⟨b63, 0 + 24, none⟩))), (75, (.int .i64 x53.Amount)), (76, (.pointer (some ⟨b63, 0 + 25, none⟩))), (77, (.pointer (some ⟨b63, 0 + 25 + 0, none⟩))), (78, (.int .i64 x53.Strength.Lo)), (79, (.slice p10 by_9.length k11)), (80, (.int .i64 s49.1)), (81, (.slice p10 by_9.length k11)), (82, (.int .i64 (by_9.length : Int))), (83, (.int .i64 q64)), (84, (.pointer (some ⟨b68, o69, none⟩))), (85, (.int .u32 x67)), (86, (.int .i64 (w64 (x67)))), (87, (.pointer (some ⟨b63, 0 + 25, none⟩))), (88, (.pointer (some ⟨b63, 0 + 25 + 1, none⟩))), (89, (.int .i64 x53.Strength.Hi)), (90, (.pointer (some ⟨b63, 0 + 25, none⟩))), (91, (.pointer (some ⟨b63, 0 + 25 + 0, none⟩))), (92, (.int .i64 x53.Strength.Lo)), (93, (.int .i64 (w64 (x53.Strength.Hi - x53.Strength.Lo)))), (94, (.int .i64 (w64 ((w64 (x53.Strength.Hi - x53.Strength.Lo)) + 1)))), (95, (.int .i64 q77)), (96, (.int .i64 (w64 (x53.Strength.Lo + q77)))), (97, (.int .i64 (w64 (x53.Amount * (w64 (x53.Strength.Lo + q77)))))), (98, (.int .i64 (w64 (s49.2.2 + (w64 (x53.Amount * (w64 (x53.Strength.Lo + q77))))))))] mixedOK (by kernel_rfl) (by kernel_rfl) rfl (by kernel_rfl) ?_ (fun F_80 b81 l_82 => ?_)
            · skip
              refine .cons (.mk 73 (.int .i64 s49.2.2) [(16, (.pointer (some ⟨b48, 0, none⟩)))] rfl rfl rfl rfl (fun S hS hd => (.cons (hS _ _ rfl) (Sub.nil _))) (fun F_83 X l_84 => ?_)) ?_
              · skip
                refine .loadO rfl Try.isAgg3 rfl (i := 1) rfl rfl ?_
                exact .fin1 (Fz.le_refl _)
              refine .cons (.mk 74 (.pointer (some ⟨b63, 0 + 24, none⟩)) [(18, (.pointer (some ⟨b63, 0, none⟩)))] rfl rfl rfl rfl (fun S hS hd => (.cons (hS _ _ rfl) (Sub.nil _))) (fun F_85 X l_86 => ?_)) ?_
              · skip
                refine .fieldAddr rfl Try.underlying51 rfl Try.sizeOf3 rfl ?_
                exact .fin1 (Fz.le_refl _)
              refine .cons (.mk 75 (.int .i64 x53.Amount) [(74, (.pointer (some ⟨b63, 0 + 24, none⟩)))] rfl rfl rfl rfl (fun S hS hd => (.cons (hd.1 rfl rfl _ _ rfl) (Sub.nil _))) (fun F_87 X l_88 => ?_)) ?_
              · skip
                refine .loadO rfl Try.isAgg3 rfl (i := 0) rfl rfl ?_
                exact .fin1 (Fz.le_refl _)
              refine .cons (.mk 76 (.pointer (some ⟨b63, 0 + 25, none⟩)) [(18, (.pointer (some ⟨b63, 0, none⟩)))] rfl rfl rfl rfl (fun S hS hd => (.cons (hS _ _ rfl) (Sub.nil _))) (fun F_89 X l_90 => ?_)) ?_
              · skip
                refine .fieldAddr rfl Try.underlying51 rfl Try.sizeOf36 rfl ?_
                exact .fin1 (Fz.le_refl _)
              refine .cons (.mk 77 (.pointer (some ⟨b63, 0 + 25 + 0, none⟩)) [(76, (.pointer (some ⟨b63, 0 + 25, none⟩)))] rfl rfl rfl rfl (fun S hS hd => (.cons (hd.1 rfl rfl _ _ rfl) (Sub.nil _))) (fun F_91 X l_92 => ?_)) ?_
              · skip
                refine .fieldAddr rfl Try.underlying36 rfl Try.sizeOf3 rfl ?_
                exact .fin1 (Fz.le_refl _)
              refine .cons (.mk 78 (.int .i64 x53.Strength.Lo) [(77, (.pointer (some ⟨b63, 0 + 25 + 0, none⟩)))] rfl rfl rfl rfl (fun S hS hd => (.cons (hd.1 rfl rfl _ _ rfl) (Sub.nil _))) (fun F_93 X l_94 => ?_)) ?_
              · skip
                refine .loadO rfl Try.isAgg3 rfl (i := 0) rfl rfl ?_
                exact .fin1 (Fz.le_refl _)
              refine .cons (.mk 79 (.slice p10 by_9.length k11) [(5, (.slice p10 by_9.length k11))] rfl rfl rfl rfl (fun S hS hd => (.cons (hS _ _ rfl) (Sub.nil _))) (fun F_95 X l_96 => ?_)) ?_
              · skip
                refine .move rfl rfl ?_
                exact .fin1 (Fz.le_refl _)
              refine .cons (.mk 80 (.int .i64 s49.1) [(17, (.int .i64 s49.1))] rfl rfl rfl rfl (fun S hS hd => (.cons (hS _ _ rfl) (Sub.nil _))) (fun F_97 X l_98 => ?_)) ?_
              · skip
                refine .move rfl rfl ?_
                exact .fin1 (Fz.le_refl _)
              refine .cons (.mk 81 (.slice p10 by_9.length k11) [(5, (.slice p10 by_9.length k11))] rfl rfl rfl rfl (fun S hS hd => (.cons (hS _ _ rfl) (Sub.nil _))) (fun F_99 X l_100 => ?_)) ?_
              · skip
                refine .move rfl rfl ?_
                exact .fin1 (Fz.le_refl _)
              refine .cons (.mk 82 (.int .i64 (by_9.length : Int)) [(81, (.slice p10 by_9.length k11))] rfl rfl rfl rfl (fun S hS hd => (.cons (hd.1 rfl rfl _ _ rfl) (Sub.nil _))) (fun F_101 X l_102 => ?_)) ?_
              · skip
                refine .lenS rfl rfl Try.underlying54 rfl ?_
                exact .fin1 (Fz.le_refl _)
              refine .cons (.mk 83 (.int .i64 q64) [(80, (.int .i64 s49.1)), (82, (.int .i64 (by_9.length : Int)))] rfl rfl rfl rfl (fun S hS hd => (.cons (hd.1 rfl rfl _ _ rfl) (.cons (hd.2.1 rfl rfl _ _ rfl) (Sub.nil _)))) (fun F_103 X l_104 => ?_)) ?_
              · skip
                refine .remK hx66 rfl rfl rfl ?_
                exact .fin1 (Fz.le_refl _)
              refine .cons (.mk 84 (.pointer (some ⟨b68, o69, none⟩)) [(79, (.slice p10 by_9.length k11)), (83, (.int .i64 q64))] rfl rfl rfl rfl (fun S hS hd => (.cons (hd.1 rfl rfl _ _ rfl) (.cons (hd.2.1 rfl rfl _ _ rfl) (Sub.nil _)))) (fun F_105 X l_106 => ?_)) ?_
              · skip
                refine .idxQ rfl Try.underlying54 Try.sizeOf59 hq76 rfl rfl ?_
                exact .fin1 (Fz.le_refl _)
              refine .cons (.mk 85 (.int .u32 x67) [(84, (.pointer (some ⟨b68, o69, none⟩)))] rfl rfl rfl rfl (fun S hS hd => (.cons (hd.1 rfl rfl _ _ rfl) (Sub.nil _))) (fun F_107 X l_108 => ?_)) ?_
              · skip
                refine .loadF rfl Try.isAgg59 rfl (l_108.mem _ _ hm74) (cell_of_take (k := 0) hv75 rfl) ?_
                exact .fin1 (Fz.le_refl _)
              refine .cons (.mk 86 (.int .i64 (w64 (x67))) [(85, (.int .u32 x67))] rfl rfl rfl rfl (fun S hS hd => (.cons (hd.1 rfl rfl _ _ rfl) (Sub.nil _))) (fun F_109 X l_110 => ?_)) ?_
              · skip
                refine .convI rfl Try.underlying59 Try.underlying3 rfl ?_
                exact .fin1 (Fz.le_refl _)
              refine .cons (.mk 87 (.pointer (some ⟨b63, 0 + 25, none⟩)) [(18, (.pointer (some ⟨b63, 0, none⟩)))] rfl rfl rfl rfl (fun S hS hd => (.cons (hS _ _ rfl) (Sub.nil _))) (fun F_111 X l_112 => ?_)) ?_
              · skip
                refine .fieldAddr rfl Try.underlying51 rfl Try.sizeOf36 rfl ?_
                exact .fin1 (Fz.le_refl _)
              refine .cons (.mk 88 (.pointer (some ⟨b63, 0 + 25 + 1, none⟩)) [(87, (.pointer (some ⟨b63, 0 + 25, none⟩)))] rfl rfl rfl rfl (fun S hS hd => (.cons (hd.1 rfl rfl _ _ rfl) (Sub.nil _))) (fun F_113 X l_114 => ?_)) ?_
              · skip
                refine .fieldAddr rfl Try.underlying36 rfl Try.sizeOf3 rfl ?_
                exact .fin1 (Fz.le_refl _)
              refine .cons (.mk 89 (.int .i64 x53.Strength.Hi) [(88, (.pointer (some ⟨b63, 0 + 25 + 1, none⟩)))] rfl rfl rfl rfl (fun S hS hd => (.cons (hd.1 rfl rfl _ _ rfl) (Sub.nil _))) (fun F_115 X l_116 => ?_)) ?_
              · skip
                refine .loadO rfl Try.isAgg3 rfl (i := 0) rfl rfl ?_
                exact .fin1 (Fz.le_refl _)
              refine .cons (.mk 90 (.pointer (some ⟨b63, 0 + 25, none⟩)) [(18, (.pointer (some ⟨b63, 0, none⟩)))] rfl rfl rfl rfl (fun S hS hd => (.cons (hS _ _ rfl) (Sub.nil _))) (fun F_117 X l_118 => ?_)) ?_
              · skip
                refine .fieldAddr rfl Try.underlying51 rfl Try.sizeOf36 rfl ?_
                exact .fin1 (Fz.le_refl _)
              refine .cons (.mk 91 (.pointer (some ⟨b63, 0 + 25 + 0, none⟩)) [(90, (.pointer (some ⟨b63, 0 + 25, none⟩)))] rfl rfl rfl rfl (fun S hS hd => (.cons (hd.1 rfl rfl _ _ rfl) (Sub.nil _))) (fun F_119 X l_120 => ?_)) ?_
              · skip
                refine .fieldAddr rfl Try.underlying36 rfl Try.sizeOf3 rfl ?_
                exact .fin1 (Fz.le_refl _)
              refine .cons (.mk 92 (.int .i64 x53.Strength.Lo) [(91, (.pointer (some ⟨b63, 0 + 25 + 0, none⟩)))] rfl rfl rfl rfl (fun S hS hd => (.cons (hd.1 rfl rfl _ _ rfl) (Sub.nil _))) (fun F_121 X l_122 => ?_)) ?_
              · skip
                refine .loadO rfl Try.isAgg3 rfl (i := 0) rfl rfl ?_
                exact .fin1 (Fz.le_refl _)
              refine .cons (.mk 93 (.int .i64 (w64 (x53.Strength.Hi - x53.Strength.Lo))) [(89, (.int .i64 x53.Strength.Hi)), (92, (.int .i64 x53.Strength.Lo))] rfl rfl rfl rfl (fun S hS hd => (.cons (hd.1 rfl rfl _ _ rfl) (.cons (hd.2.1 rfl rfl _ _ rfl) (Sub.nil _)))) (fun F_123 X l_124 => ?_)) ?_
              · skip
                refine .sub rfl rfl rfl ?_
                exact .fin1 (Fz.le_refl _)
              refine .cons (.mk 94 (.int .i64 (w64 ((w64 (x53.Strength.Hi - x53.Strength.Lo)) + 1))) [(93, (.int .i64 (w64 (x53.Strength.Hi - x53.Strength.Lo))))] rfl rfl rfl rfl (fun S hS hd => (.cons (hd.1 rfl rfl _ _ rfl) (Sub.nil _))) (fun F_125 X l_126 => ?_)) ?_
              · skip
                refine .add rfl rfl rfl ?_
                exact .fin1 (Fz.le_refl _)
              refine .cons (.mk 95 (.int .i64 q77) [(86, (.int .i64 (w64 (x67)))), (94, (.int .i64 (w64 ((w64 (x53.Strength.Hi - x53.Strength.Lo)) + 1))))] rfl rfl rfl rfl (fun S hS hd => (.cons (hd.1 rfl rfl _ _ rfl) (.cons (hd.2.1 rfl rfl _ _ rfl) (Sub.nil _)))) (fun F_127 X l_128 => ?_)) ?_
              · skip
                refine .remK hx79 rfl rfl rfl ?_
                exact .fin1 (Fz.le_refl _)
              refine .cons (.mk 96 (.int .i64 (w64 (x53.Strength.Lo + q77))) [(78, (.int .i64 x53.Strength.Lo)), (95, (.int .i64 q77))] rfl rfl rfl rfl (fun S hS hd => (.cons (hd.1 rfl rfl _ _ rfl) (.cons (hd.2.1 rfl rfl _ _ rfl) (Sub.nil _)))) (fun F_129 X l_130 => ?_)) ?_
              · skip
                refine .add rfl rfl rfl ?_
                exact .fin1 (Fz.le_refl _)
              refine .cons (.mk 97 (.int .i64 (w64 (x53.Amount * (w64 (x53.Strength.Lo + q77))))) [(75, (.int .i64 x53.Amount)), (96, (.int .i64 (w64 (x53.Strength.Lo + q77))))] rfl rfl rfl rfl (fun S hS hd => (.cons (hd.1 rfl rfl _ _ rfl) (.cons (hd.2.1 rfl rfl _ _ rfl) (Sub.nil _)))) (fun F_131 X l_132 => ?_)) ?_
              · skip
                refine .mul rfl rfl rfl ?_
                exact .fin1 (Fz.le_refl _)
              refine .cons (.mk 98 (.int .i64 (w64 (s49.2.2 + (w64 (x53.Amount * (w64 (x53.Strength.Lo + q77))))))) [(73, (.int .i64 s49.2.2)), (97, (.int .i64 (w64 (x53.Amount * (w64 (x53.Strength.Lo + q77))))))] rfl rfl rfl rfl (fun S hS hd => (.cons (hd.1 rfl rfl _ _ rfl) (.cons (hd.2.1 rfl rfl _ _ rfl) (Sub.nil _)))) (fun F_133 X l_134 => ?_)) ?_
              · skip
                refine .add rfl rfl rfl ?_
                exact .fin1 (Fz.le_refl _)
              exact .nil
            refine .store (cs' := [(.int .i64 (w64 (s49.2.2 + (w64 (x53.Amount * (w64 (x53.Strength.Lo + q77)))))))]) Try.sizeOf3 rfl rfl rfl rfl (i := 1) rfl (Nat.le_of_ble_eq_true rfl) rfl rfl ?_
            refine .nil ?_
            refine .block ?_
            refine .keep (.cons (k := 1) rfl (.cons (k := 2) rfl (.cons (k := 3) rfl (.cons (k := 4) rfl (.cons (k := 5) rfl (.cons (k := 6) rfl (.cons (k := 13) rfl (.cons (k := 15) rfl (.cons (k := 16) rfl (.cons (k := 17) rfl (.nil _))))))))))) ?_
            refine .code ?_
            refine .region ?_
            refine .move rfl rfl ?_
            refine .add rfl rfl rfl ?_
            refine .assignL rfl rfl (fun i135 e136 => ?_)
            refine .nil ?_
            refine .drop 0 ?_
            exact .nil (LPost.norm fun a w h => ⟨F_80, (Fz.le_trans l_51 l_82), h.1.sub (.cons (k := 1) rfl (.cons (k := 2) rfl (.cons (k := 3) rfl (.cons (k := 4) rfl (.cons (k := 5) rfl (.cons (k := 6) rfl (.cons (k := 13) rfl (.cons (k := 15) rfl (.cons (k := 16) rfl (.cons (k := 17) rfl (.nil _))))))))))), h.2⟩)
          · skip
            refine .exitOut rfl (LPost.exit fun a w h => ⟨rfl, F_50, l_51, h.1.sub (.cons (k := 1) rfl (.cons (k := 2) rfl (.cons (k := 3) rfl (.cons (k := 4) rfl (.cons (k := 5) rfl (.cons (k := 6) rfl (.cons (k := 13) rfl (.cons (k := 15) rfl (.cons (k := 16) rfl (.nil _)))))))))), h.2⟩)
        · intro b137 hb0 hk e a w hD
          obtain ⟨rfl, F_138, l_139, hA⟩ := hD
          refine interp_exit rfl (GE.app ?_ hk a w hA)
          refine .code ?_
          refine .seq ?_
          refine .keep (.cons (k := 1) rfl (.cons (k := 2) rfl (.cons (k := 3) rfl (.cons (k := 4) rfl (.cons (k := 5) rfl (.cons (k := 6) rfl (.cons (k := 13) rfl (.cons (k := 15) rfl (.cons (k := 16) rfl (.nil _)))))))))) ?_
          refine .bind (fun x140 e146 => ?_)
          obtain ⟨b141, o142, T143, fr144, cs145, hm147, hv148, hq149⟩ := RepSl.idxE (h12.mono (Fz.le_trans l_15 (Fz.le_trans l_20 (Fz.le_trans l_26 (Fz.le_trans l_44 l_139))))) e146
          refine .bind (fun q150 hx152 => ?_)
          refine .draw ⟨18, 19, [(.int .i64 0)], 3⟩ [(99, (.pointer (some ⟨b13, 0 + 2, none⟩))), (100, (.pointer (some ⟨b13, 0 + 2 + 0, none⟩))), (101, (.int .i64 b1.Shrink.Lo)), (102, (.int .i64 (w64 (10000 - b1.Shrink.Lo)))), (103, (.slice p10 by_9.length k11)), (104, (.pointer (some ⟨b141, o142, none⟩))), (105, (.int .u32 x140)), (106, (.int .i64 (w64 (x140)))), (107, (.pointer (some ⟨b13, 0 + 2, none⟩))), (108, (.pointer (some ⟨b13, 0 + 2 + 1, none⟩))), (109, (.int .i64 b1.Shrink.Hi)), (110, (.pointer (some ⟨b13, 0 + 2, none⟩))), (111, (.pointer (some ⟨b13, 0 + 2 + 0, none⟩))), (112, (.int .i64 b1.Shrink.Lo)), (113, (.int .i64 (w64 (b1.Shrink.Hi - b1.Shrink.Lo)))), (114, (.int .i64 (w64 ((w64 (b1.Shrink.Hi - b1.Shrink.Lo)) + 1)))), (115, (.int .i64 q150)), (116, (.int .i64 (w64 ((w64 (10000 - b1.Shrink.Lo)) - q150)))), (19, undef)] mixedOK (by kernel_rfl) (by kernel_rfl) rfl (by kernel_rfl) ?_ (fun F_154 b153 l_155 => ?_)
          · skip
            refine .cons (.mk 99 (.pointer (some ⟨b13, 0 + 2, none⟩)) [(6, (.pointer (some ⟨b13, 0, none⟩)))] rfl rfl rfl rfl (fun S hS hd => (.cons (hS _ _ rfl) (Sub.nil _))) (fun F_156 X l_157 => ?_)) ?_
            · skip
              refine .fieldAddr rfl Try.underlying38 rfl Try.sizeOf36 rfl ?_
              exact .fin1 (Fz.le_refl _)
            refine .cons (.mk 100 (.pointer (some ⟨b13, 0 + 2 + 0, none⟩)) [(99, (.pointer (some ⟨b13, 0 + 2, none⟩)))] rfl rfl rfl rfl (fun S hS hd => (.cons (hd.1 rfl rfl _ _ rfl) (Sub.nil _))) (fun F_158 X l_159 => ?_)) ?_
            · skip
              refine .fieldAddr rfl Try.underlying36 rfl Try.sizeOf3 rfl ?_
              exact .fin1 (Fz.le_refl _)
            refine .cons (.mk 101 (.int .i64 b1.Shrink.Lo) [(100, (.pointer (some ⟨b13, 0 + 2 + 0, none⟩)))] rfl rfl rfl rfl (fun S hS hd => (.cons (hd.1 rfl rfl _ _ rfl) (Sub.nil _))) (fun F_160 X l_161 => ?_)) ?_
            · skip
              refine .loadF rfl Try.isAgg3 rfl ((Fz.le_trans l_20 (Fz.le_trans l_26 (Fz.le_trans l_44 (Fz.le_trans l_139 l_161)))).mem _ _ hb16) rfl ?_
              exact .fin1 (Fz.le_refl _)
            refine .cons (.mk 102 (.int .i64 (w64 (10000 - b1.Shrink.Lo))) [(101, (.int .i64 b1.Shrink.Lo))] rfl rfl rfl rfl (fun S hS hd => (.cons (hd.1 rfl rfl _ _ rfl) (Sub.nil _))) (fun F_162 X l_163 => ?_)) ?_
            · skip
              refine .sub rfl rfl rfl ?_
              exact .fin1 (Fz.le_refl _)
            refine .cons (.mk 103 (.slice p10 by_9.length k11) [(5, (.slice p10 by_9.length k11))] rfl rfl rfl rfl (fun S hS hd => (.cons (hS _ _ rfl) (Sub.nil _))) (fun F_164 X l_165 => ?_)) ?_
            · skip
              refine .move rfl rfl ?_
              exact .fin1 (Fz.le_refl _)
            refine .cons (.mk 104 (.pointer (some ⟨b141, o142, none⟩)) [(103, (.slice p10 by_9.length k11))] rfl rfl rfl rfl (fun S hS hd => (.cons (hd.1 rfl rfl _ _ rfl) (Sub.nil _))) (fun F_166 X l_167 => ?_)) ?_
            · skip
              refine .idxQ rfl Try.underlying54 Try.sizeOf59 hq149 rfl rfl ?_
              exact .fin1 (Fz.le_refl _)
            refine .cons (.mk 105 (.int .u32 x140) [(104, (.pointer (some ⟨b141, o142, none⟩)))] rfl rfl rfl rfl (fun S hS hd => (.cons (hd.1 rfl rfl _ _ rfl) (Sub.nil _))) (fun F_168 X l_169 => ?_)) ?_
            · skip
              refine .loadF rfl Try.isAgg59 rfl (l_169.mem _ _ hm147) (cell_of_take (k := 0) hv148 rfl) ?_
              exact .fin1 (Fz.le_refl _)
            refine .cons (.mk 106 (.int .i64 (w64 (x140))) [(105, (.int .u32 x140))] rfl rfl rfl rfl (fun S hS hd => (.cons (hd.1 rfl rfl _ _ rfl) (Sub.nil _))) (fun F_170 X l_171 => ?_)) ?_
            · skip
              refine .convI rfl Try.underlying59 Try.underlying3 rfl ?_
              exact .fin1 (Fz.le_refl _)
            refine .cons (.mk 107 (.pointer (some ⟨b13, 0 + 2, none⟩)) [(6, (.pointer (some ⟨b13, 0, none⟩)))] rfl rfl rfl rfl (fun S hS hd => (.cons (hS _ _ rfl) (Sub.nil _))) (fun F_172 X l_173 => ?_)) ?_
            · skip
              refine .fieldAddr rfl Try.underlying38 rfl Try.sizeOf36 rfl ?_
              exact .fin1 (Fz.le_refl _)
            refine .cons (.mk 108 (.pointer (some ⟨b13, 0 + 2 + 1, none⟩)) [(107, (.pointer (some ⟨b13, 0 + 2, none⟩)))] rfl rfl rfl rfl (fun S hS hd => (.cons (hd.1 rfl rfl _ _ rfl) (Sub.nil _))) (fun F_174 X l_175 => ?_)) ?_
            · skip
              refine .fieldAddr rfl Try.underlying36 rfl Try.sizeOf3 rfl ?_
              exact .fin1 (Fz.le_refl _)
            refine .cons (.mk 109 (.int .i64 b1.Shrink.Hi) [(108, (.pointer (some ⟨b13, 0 + 2 + 1, none⟩)))] rfl rfl rfl rfl (fun S hS hd => (.cons (hd.1 rfl rfl _ _ rfl) (Sub.nil _))) (fun F_176 X l_177 => ?_)) ?_
            · skip
              refine .loadF rfl Try.isAgg3 rfl ((Fz.le_trans l_20 (Fz.le_trans l_26 (Fz.le_trans l_44 (Fz.le_trans l_139 l_177)))).mem _ _ hb16) rfl ?_
              exact .fin1 (Fz.le_refl _)
            refine .cons (.mk 110 (.pointer (some ⟨b13, 0 + 2, none⟩)) [(6, (.pointer (some ⟨b13, 0, none⟩)))] rfl rfl rfl rfl (fun S hS hd => (.cons (hS _ _ rfl) (Sub.nil _))) (fun F_178 X l_179 => ?_)) ?_
            · skip
              refine .fieldAddr rfl Try.underlying38 rfl Try.sizeOf36 rfl ?_
              exact .fin1 (Fz.le_refl _)
            refine .cons (.mk 111 (.pointer (some ⟨b13, 0 + 2 + 0, none⟩)) [(110, (.pointer (some ⟨b13, 0 + 2, none⟩)))] rfl rfl rfl rfl (fun S hS hd => (.cons (hd.1 rfl rfl _ _ rfl) (Sub.nil _))) (fun F_180 X l_181 => ?_)) ?_
            · skip
              refine .fieldAddr rfl Try.underlying36 rfl Try.sizeOf3 rfl ?_
              exact .fin1 (Fz.le_refl _)
            refine .cons (.mk 112 (.int .i64 b1.Shrink.Lo) [(111, (.pointer (some ⟨b13, 0 + 2 + 0, none⟩)))] rfl rfl rfl rfl (fun S hS hd => (.cons (hd.1 rfl rfl _ _ rfl) (Sub.nil _))) (fun F_182 X l_183 => ?_)) ?_
            · skip
              refine .loadF rfl Try.isAgg3 rfl ((Fz.le_trans l_20 (Fz.le_trans l_26 (Fz.le_trans l_44 (Fz.le_trans l_139 l_183)))).mem _ _ hb16) rfl ?_
              exact .fin1 (Fz.le_refl _)
            refine .cons (.mk 113 (.int .i64 (w64 (b1.Shrink.Hi - b1.Shrink.Lo))) [(109, (.int .i64 b1.Shrink.Hi)), (112, (.int .i64 b1.Shrink.Lo))] rfl rfl rfl rfl (fun S hS hd => (.cons (hd.1 rfl rfl _ _ rfl) (.cons (hd.2.1 rfl rfl _ _ rfl) (Sub.nil _)))) (fun F_184 X l_185 => ?_)) ?_
            · skip
              refine .sub rfl rfl rfl ?_
              exact .fin1 (Fz.le_refl _)
            refine .cons (.mk 114 (.int .i64 (w64 ((w64 (b1.Shrink.Hi - b1.Shrink.Lo)) + 1))) [(113, (.int .i64 (w64 (b1.Shrink.Hi - b1.Shrink.Lo))))] rfl rfl rfl rfl (fun S hS hd => (.cons (hd.1 rfl rfl _ _ rfl) (Sub.nil _))) (fun F_186 X l_187 => ?_)) ?_
            · skip
              refine .add rfl rfl rfl ?_
              exact .fin1 (Fz.le_refl _)
            refine .cons (.mk 115 (.int .i64 q150) [(106, (.int .i64 (w64 (x140)))), (114, (.int .i64 (w64 ((w64 (b1.Shrink.Hi - b1.Shrink.Lo)) + 1))))] rfl rfl rfl rfl (fun S hS hd => (.cons (hd.1 rfl rfl _ _ rfl) (.cons (hd.2.1 rfl rfl _ _ rfl) (Sub.nil _)))) (fun F_188 X l_189 => ?_)) ?_
            · skip
              refine .remK hx152 rfl rfl rfl ?_
              exact .fin1 (Fz.le_refl _)
            refine .cons (.mk 116 (.int .i64 (w64 ((w64 (10000 - b1.Shrink.Lo)) - q150))) [(102, (.int .i64 (w64 (10000 - b1.Shrink.Lo)))), (115, (.int .i64 q150))] rfl rfl rfl rfl (fun S hS hd => (.cons (hd.1 rfl rfl _ _ rfl) (.cons (hd.2.1 rfl rfl _ _ rfl) (Sub.nil _)))) (fun F_190 X l_191 => ?_)) ?_
            · skip
              refine .sub rfl rfl rfl ?_
              exact .fin1 (Fz.le_refl _)
            refine .cons (.new rfl rfl rfl Try.zeroValue3 rfl rfl) ?_
            exact .nil
          refine .store (cs' := [(.int .i64 (w64 ((w64 (10000 - b1.Shrink.Lo)) - q150)))]) Try.sizeOf3 rfl rfl rfl rfl (i := 4) rfl (Nat.le_of_ble_eq_true rfl) rfl rfl ?_
          refine .nil ?_
          refine .keep (.cons (k := 1) rfl (.cons (k := 2) rfl (.cons (k := 3) rfl (.cons (k := 4) rfl (.cons (k := 5) rfl (.cons (k := 6) rfl (.cons (k := 13) rfl (.cons (k := 15) rfl (.cons (k := 16) rfl (.cons (k := 19) rfl (.nil _))))))))))) ?_
          refine .code ?_
          refine .seq ?_
          refine .region ?_
          refine .freeze 1 rfl (fun F_192 l_193 hb194 => ?_)
          refine .freeze 3 rfl (fun F_195 l_196 hb197 => ?_)
          refine .freeze 0 rfl (fun F_198 l_199 hb200 => ?_)
          refine .makeFunc rfl rfl ?_
          refine .assign rfl rfl ?_
          refine .nil ?_
          refine .code ?_
          refine .seq ?_
          refine .region ?_
          refine .loadF rfl Try.isAgg3 rfl ((Fz.le_trans l_196 l_199).mem _ _ hb194) rfl ?_
          refine .fieldAddr rfl Try.underlying38 rfl Try.sizeOf3 rfl ?_
          refine .loadF rfl Try.isAgg3 rfl ((Fz.le_trans l_20 (Fz.le_trans l_26 (Fz.le_trans l_44 (Fz.le_trans l_139 (Fz.le_trans l_155 (Fz.le_trans l_193 (Fz.le_trans l_196 l_199))))))).mem _ _ hb16) rfl ?_
          refine .add rfl rfl rfl ?_
          refine .loadF rfl Try.isAgg3 rfl (l_199.mem _ _ hb197) rfl ?_
          refine .mul rfl rfl rfl ?_
          refine .assignL rfl rfl (fun v201 e202 => ?_)
          refine .nil ?_
          refine .code ?_
          refine .seq ?_
          refine .seq ?_
          refine .region ?_
          refine .fieldAddr rfl Try.underlying56 rfl Try.sizeOf36 rfl ?_
          refine .fieldAddr rfl Try.underlying36 rfl Try.sizeOf3 rfl ?_
          refine .loadO rfl Try.isAgg3 rfl (i := 0) rfl rfl ?_
          refine .move rfl rfl ?_
          refine .quoC rfl (by decide) rfl rfl ?_
          refine .gtr rfl rfl rfl ?_
          refine .move rfl rfl ?_
          refine .orP (b := (decide (r_27.1.Volume.Lo > (w64 (Int.tdiv v201 10000))))) (b' := (decide (r_27.1.Volume.Hi < (w64 (Int.tdiv (w64 (v201 + 9999)) 10000))))) 8 138 (fun hb203 => ?_) (fun hb204 => ?_) (fun F_205 l_206 => ?_)
          · skip
            refine .onH hb203 rfl rfl ?_
            refine .fieldAddr rfl Try.underlying56 rfl Try.sizeOf36 rfl ?_
            refine .onH hb203 rfl rfl ?_
            refine .fieldAddr rfl Try.underlying36 rfl Try.sizeOf3 rfl ?_
            refine .onH hb203 rfl rfl ?_
            refine .loadO rfl Try.isAgg3 rfl (i := 0) rfl rfl ?_
            refine .onH hb203 rfl rfl ?_
            refine .move rfl rfl ?_
            refine .onH hb203 rfl rfl ?_
            refine .add rfl rfl rfl ?_
            refine .onH hb203 rfl rfl ?_
            refine .quoC rfl (by decide) rfl rfl ?_
            refine .onH hb203 rfl rfl ?_
            refine .lss rfl rfl rfl ?_
            refine .pickFH hb203 rfl rfl rfl ?_
            exact .fin 8 rfl rfl (by kernel_rfl) (Fz.le_refl _)
          · skip
            refine .offH hb204 rfl rfl rfl ?_
            refine .offH hb204 rfl rfl rfl ?_
            refine .offH hb204 rfl rfl rfl ?_
            refine .offH hb204 rfl rfl rfl ?_
            refine .offH hb204 rfl rfl rfl ?_
            refine .offH hb204 rfl rfl rfl ?_
            refine .offH hb204 rfl rfl rfl ?_
            refine .pickTH hb204 rfl rfl rfl ?_
            exact .fin 8 rfl rfl (by kernel_rfl) (Fz.le_refl _)
          refine .move rfl rfl ?_
          refine .orM (b := ((decide (r_27.1.Volume.Lo > (w64 (Int.tdiv v201 10000)))) || (decide (r_27.1.Volume.Hi < (w64 (Int.tdiv (w64 (v201 + 9999)) 10000)))))) 8 147 (fun hb207 z215 => ?_) (fun hb211 => ?_) (fun z214 F_212 l_213 => ?_)
          · skip
            refine .onH hb207 rfl rfl ?_
            refine .move rfl rfl ?_
            refine .onH hb207 rfl rfl ?_
            refine .fieldAddr rfl Try.underlying56 rfl Try.sizeOf36 rfl ?_
            refine .onH hb207 rfl rfl ?_
            refine .loadOA rfl Try.isAgg36 Try.sizeOf36 rfl (i := 0) rfl (vs := (cApiSpan r_27.1.Strength)) (by kernel_rfl) rfl ?_
            refine .onH hb207 rfl rfl ?_
            refine .fieldAddr rfl Try.underlying38 rfl Try.sizeOf3 rfl ?_
            refine .onH hb207 rfl rfl ?_
            refine .loadF rfl Try.isAgg3 rfl ((Fz.le_trans l_20 (Fz.le_trans l_26 (Fz.le_trans l_44 (Fz.le_trans l_139 (Fz.le_trans l_155 (Fz.le_trans l_193 (Fz.le_trans l_196 (Fz.le_trans l_199 l_206)))))))).mem _ _ hb16) rfl ?_
            refine .onH hb207 rfl rfl ?_
            refine .call0 rfl Try.call21 rfl rfl rfl (c_wormtublaw12_BottleTrue_1 _ r_27.1.Strength b1.Water b137.1 b47 ((Fz.le_trans l_196 (Fz.le_trans l_199 l_206)).mem _ _ hb194) (w64 ((w64 (10000 - b1.Shrink.Lo)) - q150)) b153 ((Fz.le_trans l_199 l_206).mem _ _ hb197) b137.2 b48 (l_206.mem _ _ hb200)) ?_
            rintro r_210 F_208 _ - l_209 rfl
            refine .onH hb207 rfl rfl ?_
            refine .not rfl rfl ?_
            refine .pickFH hb207 rfl rfl rfl ?_
            exact .finZ 8 rfl rfl (by kernel_rfl) l_209
          · skip
            refine .offH hb211 rfl rfl rfl ?_
            refine .offH hb211 rfl rfl rfl ?_
            refine .offH hb211 rfl rfl rfl ?_
            refine .offH hb211 rfl rfl rfl ?_
            refine .offH hb211 rfl rfl rfl ?_
            refine .offH hb211 rfl rfl rfl ?_
            refine .offH hb211 rfl rfl rfl ?_
            refine .pickTH hb211 rfl rfl rfl ?_
            exact .fin 8 rfl rfl (by kernel_rfl) (Fz.le_refl _)
          refine .nil ?_
          refine .keep (.cons (k := 1) rfl (.cons (k := 2) rfl (.cons (k := 3) rfl (.cons (k := 4) rfl (.cons (k := 5) rfl (.cons (k := 6) rfl (.cons (k := 20) rfl (.cons (k := 147) rfl (.nil _))))))))) ?_
          refine .code ?_
          refine .cond rfl (fun hb216 => ?_) (fun hb216 => ?_)
          · skip
            refine .seq ?_
            refine .region ?_
            refine .assign rfl rfl ?_
            refine .nil ?_
            refine .code ?_
            exact .ret0 Try.results5 (.tmp rfl (.nil)) (i := 1) rfl (Fz.le_trans l_15 (Fz.le_trans l_20 (Fz.le_trans l_26 (Fz.le_trans l_44 (Fz.le_trans l_139 (Fz.le_trans l_155 (Fz.le_trans l_193 (Fz.le_trans l_196 (Fz.le_trans l_199 (Fz.le_trans l_206 l_213)))))))))) rfl
          · skip
            refine .skip ?_
            refine .code ?_
            refine .seq ?_
            refine .region ?_
            refine .move rfl rfl ?_
            refine .convI rfl Try.underlying53 Try.underlying3 rfl ?_
            refine .remC rfl (by decide) rfl rfl ?_
            refine .move rfl rfl ?_
            refine .convI rfl Try.underlying53 Try.underlying3 rfl ?_
            refine .remC rfl (by decide) rfl rfl ?_
            refine .build (cs := (cApiClaim (ApiClaim.mk 7 (Int.tmod (w64 (what7)) 10001) (Int.tmod (w64 (off8)) 10001))).toArray) rfl Try.underlying46 Try.zeroValue46 (plApiClaim _ Try.underlying46) rfl rfl (by kernel_rfl) ?_
            refine .alloc (cs := (cApiClaim (ApiClaim.mk 0 0 0))) rfl Try.zeroValue46 rfl (fun b217 => ?_)
            refine .store (cs' := (cApiClaim (ApiClaim.mk 7 (Int.tmod (w64 (what7)) 10001) (Int.tmod (w64 (off8)) 10001)))) Try.sizeOf46 rfl rfl rfl rfl (i := 0) rfl (Nat.le_of_ble_eq_true rfl) rfl (setMany_all (by rfl)) ?_
            refine .nil ?_
            refine .code ?_
            refine .seq ?_
            refine .region ?_
            refine .loadFA rfl Try.isAgg38 Try.sizeOf38 rfl ((Fz.le_trans l_20 (Fz.le_trans l_26 (Fz.le_trans l_44 (Fz.le_trans l_139 (Fz.le_trans l_155 (Fz.le_trans l_193 (Fz.le_trans l_196 (Fz.le_trans l_199 (Fz.le_trans l_206 l_213))))))))).mem _ _ hb16) (vs := (cApiBatch b1 p2 k3)) (by kernel_rfl) rfl ?_
            refine .loadOA rfl Try.isAgg46 Try.sizeOf46 rfl (i := 0) rfl (vs := (cApiClaim (ApiClaim.mk 7 (Int.tmod (w64 (what7)) 10001) (Int.tmod (w64 (off8)) 10001)))) (by kernel_rfl) rfl ?_
            refine .sliceLit (cs := [.int .i64 (ApiClaim.mk 7 (Int.tmod (w64 (what7)) 10001) (Int.tmod (w64 (off8)) 10001)).Kind, .int .i64 (ApiClaim.mk 7 (Int.tmod (w64 (what7)) 10001) (Int.tmod (w64 (off8)) 10001)).What, .int .i64 (ApiClaim.mk 7 (Int.tmod (w64 (what7)) 10001) (Int.tmod (w64 (off8)) 10001)).Number]) (zc := [.int .i64 (ApiClaim.mk 0 0 0).Kind, .int .i64 (ApiClaim.mk 0 0 0).What, .int .i64 (ApiClaim.mk 0 0 0).Number]) rfl Try.underlying39 Try.sizeOf46 Try.zeroValue46 rfl rfl rfl (by kernel_rfl) (by kernel_rfl) (fun b218 F_219 l_220 hb221 => ?_)
            have h222 : RepSl 3 (Ex cApiClaim) F_219 (some ⟨b218, 0, none⟩) 1 ([(ApiClaim.mk 7 (Int.tmod (w64 (what7)) 10001) (Int.tmod (w64 (off8)) 10001))]) := RepSl.ofRow hb221 (.cons ok_t46.mono rfl .nil) rfl rfl
            refine .call0 rfl Try.call17 rfl rfl rfl (c_bottle_False _ b1 p2 k3 (h4.mono (Fz.le_trans l_15 (Fz.le_trans l_20 (Fz.le_trans l_26 (Fz.le_trans l_44 (Fz.le_trans l_139 (Fz.le_trans l_155 (Fz.le_trans l_193 (Fz.le_trans l_196 (Fz.le_trans l_199 (Fz.le_trans l_206 (Fz.le_trans l_213 l_220)))))))))))) ([(ApiClaim.mk 7 (Int.tmod (w64 (what7)) 10001) (Int.tmod (w64 (off8)) 10001))]) (some ⟨b218, 0, none⟩) 1 h222) ?_
            rintro r_225 F_223 _ - l_224 ⟨p226, k227, rfl, h228⟩
            refine .move rfl rfl ?_
            refine .extract rfl rfl rfl ?_
            refine .extract rfl rfl rfl ?_
            refine .assign rfl rfl ?_
            refine .assign rfl rfl ?_
            refine .nil ?_
            refine .keep (.cons (k := 1) rfl (.cons (k := 2) rfl (.cons (k := 5) rfl (.cons (k := 6) rfl (.cons (k := 20) rfl (.cons (k := 22) rfl (.cons (k := 23) rfl (.cons (k := 24) rfl (.nil _))))))))) ?_
            refine .code ?_
            refine .seq ?_
            refine .seq ?_
            refine .region ?_
            refine .move rfl rfl ?_
            refine .neq rfl rfl rfl ?_
            refine .move rfl rfl ?_
            refine .orM (b := (r_225.2 != 0)) 23 187 (fun hb229 z243 => ?_) (fun hb239 => ?_) (fun z242 F_240 l_241 => ?_)
            · skip
              refine .onH hb229 rfl rfl ?_
              refine .move rfl rfl ?_
              refine .onH hb229 rfl rfl ?_
              refine .lenS rfl rfl Try.underlying40 rfl ?_
              refine .onH hb229 rfl rfl ?_
              refine .eql rfl rfl rfl ?_
              refine .onH hb229 rfl rfl ?_
              refine .move rfl rfl ?_
              refine .andM (b := ((r_225.1.length : Int) == 0)) 18 186 (fun hb230 z238 => ?_) (fun hb234 => ?_) (fun z237 F_235 l_236 => ?_)
              · skip
                refine .onH hb230 rfl rfl ?_
                refine .move rfl rfl ?_
                refine .onH hb230 rfl rfl ?_
                refine .fieldAddr rfl Try.underlying46 rfl Try.sizeOf3 rfl ?_
                refine .onH hb230 rfl rfl ?_
                refine .loadO rfl Try.isAgg3 rfl (i := 0) rfl rfl ?_
                refine .onH hb230 rfl rfl ?_
                refine .fieldAddr rfl Try.underlying46 rfl Try.sizeOf3 rfl ?_
                refine .onH hb230 rfl rfl ?_
                refine .loadO rfl Try.isAgg3 rfl (i := 0) rfl rfl ?_
                refine .onH hb230 rfl rfl ?_
                refine .sub rfl rfl rfl ?_
                refine .onH hb230 rfl rfl ?_
                refine .fieldAddr rfl Try.underlying46 rfl Try.sizeOf3 rfl ?_
                refine .onH hb230 rfl rfl ?_
                refine .loadO rfl Try.isAgg3 rfl (i := 0) rfl rfl ?_
                refine .onH hb230 rfl rfl ?_
                refine .fieldAddr rfl Try.underlying46 rfl Try.sizeOf3 rfl ?_
                refine .onH hb230 rfl rfl ?_
                refine .loadO rfl Try.isAgg3 rfl (i := 0) rfl rfl ?_
                refine .onH hb230 rfl rfl ?_
                refine .add rfl rfl rfl ?_
                refine .onH hb230 rfl rfl ?_
                refine .min2 rfl rfl rfl ?_
                refine .onH hb230 rfl rfl ?_
                refine .build (cs := (cApiSpan (ApiSpan.mk (w64 (((ApiClaim.mk 7 (Int.tmod (w64 (what7)) 10001) (Int.tmod (w64 (off8)) 10001)).What) - ((ApiClaim.mk 7 (Int.tmod (w64 (what7)) 10001) (Int.tmod (w64 (off8)) 10001)).Number))) (imin 10000 (w64 (((ApiClaim.mk 7 (Int.tmod (w64 (what7)) 10001) (Int.tmod (w64 (off8)) 10001)).What) + ((ApiClaim.mk 7 (Int.tmod (w64 (what7)) 10001) (Int.tmod (w64 (off8)) 10001)).Number)))))).toArray) rfl Try.underlying36 Try.zeroValue36 (plApiSpan _ Try.underlying36) rfl rfl (by kernel_rfl) ?_
                refine .onH hb230 rfl rfl ?_
                refine .fieldAddr rfl Try.underlying38 rfl Try.sizeOf3 rfl ?_
                refine .onH hb230 rfl rfl ?_
                refine .loadF rfl Try.isAgg3 rfl ((Fz.le_trans l_20 (Fz.le_trans l_26 (Fz.le_trans l_44 (Fz.le_trans l_139 (Fz.le_trans l_155 (Fz.le_trans l_193 (Fz.le_trans l_196 (Fz.le_trans l_199 (Fz.le_trans l_206 (Fz.le_trans l_213 (Fz.le_trans l_220 l_224))))))))))).mem _ _ hb16) rfl ?_
                refine .onH hb230 rfl rfl ?_
                refine .call0 rfl Try.call21 rfl rfl rfl (c_wormtublaw12_BottleTrue_1 _ (ApiSpan.mk (w64 (((ApiClaim.mk 7 (Int.tmod (w64 (what7)) 10001) (Int.tmod (w64 (off8)) 10001)).What) - ((ApiClaim.mk 7 (Int.tmod (w64 (what7)) 10001) (Int.tmod (w64 (off8)) 10001)).Number))) (imin 10000 (w64 (((ApiClaim.mk 7 (Int.tmod (w64 (what7)) 10001) (Int.tmod (w64 (off8)) 10001)).What) + ((ApiClaim.mk 7 (Int.tmod (w64 (what7)) 10001) (Int.tmod (w64 (off8)) 10001)).Number))))) b1.Water b137.1 b47 ((Fz.le_trans l_196 (Fz.le_trans l_199 (Fz.le_trans l_206 (Fz.le_trans l_213 (Fz.le_trans l_220 l_224))))).mem _ _ hb194) (w64 ((w64 (10000 - b1.Shrink.Lo)) - q150)) b153 ((Fz.le_trans l_199 (Fz.le_trans l_206 (Fz.le_trans l_213 (Fz.le_trans l_220 l_224)))).mem _ _ hb197) b137.2 b48 ((Fz.le_trans l_206 (Fz.le_trans l_213 (Fz.le_trans l_220 l_224))).mem _ _ hb200)) ?_
                rintro r_233 F_231 _ - l_232 rfl
                refine .onH hb230 rfl rfl ?_
                refine .not rfl rfl ?_
                refine .onH hb229 rfl rfl ?_
                refine .pickTH hb230 rfl rfl rfl ?_
                exact .finZ 18 rfl rfl (by kernel_rfl) l_232
              · skip
                refine .offH hb234 rfl rfl rfl ?_
                refine .offH hb234 rfl rfl rfl ?_
                refine .offH hb234 rfl rfl rfl ?_
                refine .offH hb234 rfl rfl rfl ?_
                refine .offH hb234 rfl rfl rfl ?_
                refine .offH hb234 rfl rfl rfl ?_
                refine .offH hb234 rfl rfl rfl ?_
                refine .offH hb234 rfl rfl rfl ?_
                refine .offH hb234 rfl rfl rfl ?_
                refine .offH hb234 rfl rfl rfl ?_
                refine .offH hb234 rfl rfl rfl ?_
                refine .offH hb234 rfl rfl rfl ?_
                refine .offH hb234 rfl rfl rfl ?_
                refine .offH hb234 rfl rfl rfl ?_
                refine .offH hb234 rfl rfl rfl ?_
                refine .offH hb234 rfl rfl rfl ?_
                refine .offH hb234 rfl rfl rfl ?_
                refine .onH hb229 rfl rfl ?_
                refine .pickFH hb234 rfl rfl rfl ?_
                exact .fin 18 rfl rfl (by kernel_rfl) (Fz.le_refl _)
              refine .pickFH hb229 rfl rfl rfl ?_
              exact .finZ 6 rfl rfl (by kernel_rfl) l_236
            · skip
              refine .offH hb239 rfl rfl rfl ?_
              refine .offH hb239 rfl rfl rfl ?_
              refine .offH hb239 rfl rfl rfl ?_
              refine .offH hb239 rfl rfl rfl ?_
              refine .off rfl rfl rfl rfl ?_
              refine .off rfl rfl rfl rfl ?_
              refine .off rfl rfl rfl rfl ?_
              refine .off rfl rfl rfl rfl ?_
              refine .off rfl rfl rfl rfl ?_
              refine .off rfl rfl rfl rfl ?_
              refine .off rfl rfl rfl rfl ?_
              refine .off rfl rfl rfl rfl ?_
              refine .off rfl rfl rfl rfl ?_
              refine .off rfl rfl rfl rfl ?_
              refine .off rfl rfl rfl rfl ?_
              refine .off rfl rfl rfl rfl ?_
              refine .off rfl rfl rfl rfl ?_
              refine .off rfl rfl rfl rfl ?_
              refine .off rfl rfl rfl rfl ?_
              refine .off rfl rfl rfl rfl ?_
              refine .off rfl rfl rfl rfl ?_
              refine .offH hb239 rfl rfl rfl ?_
              refine .pickTH hb239 rfl rfl rfl ?_
              exact .fin 23 rfl rfl (by kernel_rfl) (Fz.le_refl _)
            refine .nil ?_
            refine .code ?_
            refine .cond rfl (fun hb244 => ?_) (fun hb244 => ?_)
            · skip
              refine .seq ?_
              refine .region ?_
              refine .assign rfl rfl ?_
              refine .nil ?_
              refine .code ?_
              exact .ret0 Try.results5 (.tmp rfl (.nil)) (i := 2) rfl (Fz.le_trans l_15 (Fz.le_trans l_20 (Fz.le_trans l_26 (Fz.le_trans l_44 (Fz.le_trans l_139 (Fz.le_trans l_155 (Fz.le_trans l_193 (Fz.le_trans l_196 (Fz.le_trans l_199 (Fz.le_trans l_206 (Fz.le_trans l_213 (Fz.le_trans l_220 (Fz.le_trans l_224 l_241))))))))))))) rfl
            · skip
              refine .skip ?_
              refine .code ?_
              refine .seq ?_
              refine .region ?_
              refine .loadFA rfl Try.isAgg38 Try.sizeOf38 rfl ((Fz.le_trans l_20 (Fz.le_trans l_26 (Fz.le_trans l_44 (Fz.le_trans l_139 (Fz.le_trans l_155 (Fz.le_trans l_193 (Fz.le_trans l_196 (Fz.le_trans l_199 (Fz.le_trans l_206 (Fz.le_trans l_213 (Fz.le_trans l_220 (Fz.le_trans l_224 l_241)))))))))))).mem _ _ hb16) (vs := (cApiBatch b1 p2 k3)) (by kernel_rfl) rfl ?_
              refine .move rfl rfl ?_
              refine .move rfl rfl ?_
              refine .call0 rfl Try.call22 rfl rfl rfl (c_bottle_Water _ b1 p2 k3 (h4.mono (Fz.le_trans l_15 (Fz.le_trans l_20 (Fz.le_trans l_26 (Fz.le_trans l_44 (Fz.le_trans l_139 (Fz.le_trans l_155 (Fz.le_trans l_193 (Fz.le_trans l_196 (Fz.le_trans l_199 (Fz.le_trans l_206 (Fz.le_trans l_213 (Fz.le_trans l_220 (Fz.le_trans l_224 l_241)))))))))))))) least5 most6) ?_
              rintro r_247 F_245 _ - l_246 rfl
              refine .move rfl rfl ?_
              refine .extract rfl rfl rfl ?_
              refine .extract rfl rfl rfl ?_
              refine .alloc (cs := (cApiSpan (ApiSpan.mk 0 0))) rfl Try.zeroValue36 rfl (fun b248 => ?_)
              refine .store (cs' := (cApiSpan r_247.1)) Try.sizeOf36 rfl rfl rfl rfl (i := 0) rfl (Nat.le_of_ble_eq_true rfl) rfl (setMany_all (by rfl)) ?_
              refine .assign rfl rfl ?_
              refine .nil ?_
              refine .code ?_
              refine .seq ?_
              refine .seq ?_
              refine .region ?_
              refine .move rfl rfl ?_
              refine .neq rfl rfl rfl ?_
              refine .nil ?_
              refine .code ?_
              refine .cond rfl (fun hb249 => ?_) (fun hb249 => ?_)
              · skip
                refine .seq ?_
                refine .region ?_
                refine .loadOA rfl Try.isAgg36 Try.sizeOf36 rfl (i := 0) rfl (vs := (cApiSpan r_247.1)) (by kernel_rfl) rfl ?_
                refine .build (cs := (cApiSpan (ApiSpan.mk 0 0)).toArray) rfl Try.underlying36 Try.zeroValue36 (plApiSpan _ Try.underlying36) rfl rfl (by kernel_rfl) ?_
                refine .eqlR rfl Try.eqGuardType36 (fun w => req_36 r_247.1 (ApiSpan.mk 0 0) w) rfl rfl ?_
                refine .move rfl rfl ?_
                refine .andP (b := (eq_36 r_247.1 (ApiSpan.mk 0 0))) (b' := ((r_247.2 == 2) || (r_247.2 == 4))) 7 207 (fun hb250 => ?_) (fun hb255 => ?_) (fun F_256 l_257 => ?_)
                · skip
                  refine .onH hb250 rfl rfl ?_
                  refine .move rfl rfl ?_
                  refine .onH hb250 rfl rfl ?_
                  refine .eql rfl rfl rfl ?_
                  refine .onH hb250 rfl rfl ?_
                  refine .move rfl rfl ?_
                  refine .orP (b := (r_247.2 == 2)) (b' := (r_247.2 == 4)) 3 206 (fun hb251 => ?_) (fun hb252 => ?_) (fun F_253 l_254 => ?_)
                  · skip
                    refine .onH hb251 rfl rfl ?_
                    refine .move rfl rfl ?_
                    refine .onH hb251 rfl rfl ?_
                    refine .eql rfl rfl rfl ?_
                    refine .onH hb250 rfl rfl ?_
                    refine .pickFH hb251 rfl rfl rfl ?_
                    exact .fin 3 rfl rfl (by kernel_rfl) (Fz.le_refl _)
                  · skip
                    refine .offH hb252 rfl rfl rfl ?_
                    refine .offH hb252 rfl rfl rfl ?_
                    refine .onH hb250 rfl rfl ?_
                    refine .pickTH hb252 rfl rfl rfl ?_
                    exact .fin 3 rfl rfl (by kernel_rfl) (Fz.le_refl _)
                  refine .pickTH hb250 rfl rfl rfl ?_
                  exact .fin 5 rfl rfl (by kernel_rfl) l_254
                · skip
                  refine .offH hb255 rfl rfl rfl ?_
                  refine .offH hb255 rfl rfl rfl ?_
                  refine .offH hb255 rfl rfl rfl ?_
                  refine .off rfl rfl rfl rfl ?_
                  refine .off rfl rfl rfl rfl ?_
                  refine .offH hb255 rfl rfl rfl ?_
                  refine .pickFH hb255 rfl rfl rfl ?_
                  exact .fin 7 rfl rfl (by kernel_rfl) (Fz.le_refl _)
                refine .move rfl rfl ?_
                refine .andM (b := ((eq_36 r_247.1 (ApiSpan.mk 0 0)) && ((r_247.2 == 2) || (r_247.2 == 4)))) 2 210 (fun hb258 z266 => ?_) (fun hb262 => ?_) (fun z265 F_263 l_264 => ?_)
                · skip
                  refine .onH hb258 rfl rfl ?_
                  refine .call0 rfl Try.call11 rfl rfl rfl (c_wormtublaw12_awake _ ) ?_
                  rintro r_261 F_259 _ - l_260 rfl
                  refine .pickTH hb258 rfl rfl rfl ?_
                  exact .finZ 2 rfl rfl (by kernel_rfl) l_260
                · skip
                  refine .offH hb262 rfl rfl rfl ?_
                  refine .pickFH hb262 rfl rfl rfl ?_
                  exact .fin 2 rfl rfl (by kernel_rfl) (Fz.le_refl _)
                refine .assign rfl rfl ?_
                refine .nil ?_
                refine .keep (.cons (k := 12) rfl (.nil _)) ?_
                refine .code ?_
                exact .ret0 Try.results5 (.tmp rfl (.nil)) (i := 3) rfl (Fz.le_trans l_15 (Fz.le_trans l_20 (Fz.le_trans l_26 (Fz.le_trans l_44 (Fz.le_trans l_139 (Fz.le_trans l_155 (Fz.le_trans l_193 (Fz.le_trans l_196 (Fz.le_trans l_199 (Fz.le_trans l_206 (Fz.le_trans l_213 (Fz.le_trans l_220 (Fz.le_trans l_224 (Fz.le_trans l_241 (Fz.le_trans l_246 (Fz.le_trans l_257 l_264)))))))))))))))) rfl
              · skip
                refine .skip ?_
                refine .code ?_
                refine .seq ?_
                refine .seq ?_
                refine .region ?_
                refine .fieldAddr rfl Try.underlying36 rfl Try.sizeOf3 rfl ?_
                refine .loadO rfl Try.isAgg3 rfl (i := 0) rfl rfl ?_
                refine .lss rfl rfl rfl ?_
                refine .move rfl rfl ?_
                refine .orP (b := (decide (r_247.1.Lo < 0))) (b' := (decide (r_247.1.Lo > r_247.1.Hi))) 6 220 (fun hb267 => ?_) (fun hb268 => ?_) (fun F_269 l_270 => ?_)
                · skip
                  refine .onH hb267 rfl rfl ?_
                  refine .fieldAddr rfl Try.underlying36 rfl Try.sizeOf3 rfl ?_
                  refine .onH hb267 rfl rfl ?_
                  refine .loadO rfl Try.isAgg3 rfl (i := 0) rfl rfl ?_
                  refine .onH hb267 rfl rfl ?_
                  refine .fieldAddr rfl Try.underlying36 rfl Try.sizeOf3 rfl ?_
                  refine .onH hb267 rfl rfl ?_
                  refine .loadO rfl Try.isAgg3 rfl (i := 0) rfl rfl ?_
                  refine .onH hb267 rfl rfl ?_
                  refine .gtr rfl rfl rfl ?_
                  refine .pickFH hb267 rfl rfl rfl ?_
                  exact .fin 6 rfl rfl (by kernel_rfl) (Fz.le_refl _)
                · skip
                  refine .offH hb268 rfl rfl rfl ?_
                  refine .offH hb268 rfl rfl rfl ?_
                  refine .offH hb268 rfl rfl rfl ?_
                  refine .offH hb268 rfl rfl rfl ?_
                  refine .offH hb268 rfl rfl rfl ?_
                  refine .pickTH hb268 rfl rfl rfl ?_
                  exact .fin 6 rfl rfl (by kernel_rfl) (Fz.le_refl _)
                refine .move rfl rfl ?_
                refine .orP (b := ((decide (r_247.1.Lo < 0)) || (decide (r_247.1.Lo > r_247.1.Hi)))) (b' := (decide (r_247.1.Hi > 17179869184))) 4 225 (fun hb271 => ?_) (fun hb272 => ?_) (fun F_273 l_274 => ?_)
                · skip
                  refine .onH hb271 rfl rfl ?_
                  refine .fieldAddr rfl Try.underlying36 rfl Try.sizeOf3 rfl ?_
                  refine .onH hb271 rfl rfl ?_
                  refine .loadO rfl Try.isAgg3 rfl (i := 0) rfl rfl ?_
                  refine .onH hb271 rfl rfl ?_
                  refine .gtr rfl rfl rfl ?_
                  refine .pickFH hb271 rfl rfl rfl ?_
                  exact .fin 4 rfl rfl (by kernel_rfl) (Fz.le_refl _)
                · skip
                  refine .offH hb272 rfl rfl rfl ?_
                  refine .offH hb272 rfl rfl rfl ?_
                  refine .offH hb272 rfl rfl rfl ?_
                  refine .pickTH hb272 rfl rfl rfl ?_
                  exact .fin 4 rfl rfl (by kernel_rfl) (Fz.le_refl _)
                refine .nil ?_
                refine .keep (.cons (k := 1) rfl (.cons (k := 2) rfl (.cons (k := 5) rfl (.cons (k := 20) rfl (.cons (k := 25) rfl (.cons (k := 225) rfl (.nil _))))))) ?_
                refine .code ?_
                refine .cond rfl (fun hb275 => ?_) (fun hb275 => ?_)
                · skip
                  refine .seq ?_
                  refine .region ?_
                  refine .assign rfl rfl ?_
                  refine .nil ?_
                  refine .code ?_
                  exact .ret0 Try.results5 (.tmp rfl (.nil)) (i := 3) rfl (Fz.le_trans l_15 (Fz.le_trans l_20 (Fz.le_trans l_26 (Fz.le_trans l_44 (Fz.le_trans l_139 (Fz.le_trans l_155 (Fz.le_trans l_193 (Fz.le_trans l_196 (Fz.le_trans l_199 (Fz.le_trans l_206 (Fz.le_trans l_213 (Fz.le_trans l_220 (Fz.le_trans l_224 (Fz.le_trans l_241 (Fz.le_trans l_246 (Fz.le_trans l_270 l_274)))))))))))))))) rfl
                · skip
                  refine .skip ?_
                  refine .code ?_
                  refine .seq ?_
                  refine .keep (.cons (k := 1) rfl (.cons (k := 2) rfl (.cons (k := 5) rfl (.cons (k := 20) rfl (.cons (k := 25) rfl (.nil _)))))) ?_
                  refine .bind (fun q276 hx278 => ?_)
                  refine .bind (fun x279 e285 => ?_)
                  obtain ⟨b280, o281, T282, fr283, cs284, hm286, hv287, hq288⟩ := RepSl.idxE (h12.mono (Fz.le_trans l_15 (Fz.le_trans l_20 (Fz.le_trans l_26 (Fz.le_trans l_44 (Fz.le_trans l_139 (Fz.le_trans l_155 (Fz.le_trans l_193 (Fz.le_trans l_196 (Fz.le_trans l_199 (Fz.le_trans l_206 (Fz.le_trans l_213 (Fz.le_trans l_220 (Fz.le_trans l_224 (Fz.le_trans l_241 (Fz.le_trans l_246 (Fz.le_trans l_270 l_274))))))))))))))))) e285
                  refine .bind (fun q289 hx291 => ?_)
                  refine .bind (fun r_294 hx295 => ?_)
                  refine .ite (fun hb296 => ?_) (fun hb296 => ?_)
                  · skip
                    refine .bind (fun r_299 hx300 => ?_)
                    refine .draw ⟨1000000, 0, [], 0⟩ [(226, (.func (.func 21) #[] [(.pointer (some ⟨b47, 0, none⟩)), (.pointer (some ⟨b153, 0, none⟩)), (.pointer (some ⟨b48, 0, none⟩))].toArray)), (227, (.int .i64 least5)), (228, (.int .i64 most6)), (229, (eApiSpan (ApiSpan.mk least5 most6))), (230, (.pointer (some ⟨b248, 0 + 0, none⟩))), (231, (.int .i64 r_247.1.Lo)), (232, (.slice p10 by_9.length k11)), (233, (.slice p10 by_9.length k11)), (234, (.int .i64 (by_9.length : Int))), (235, (.int .i64 q276)), (236, (.pointer (some ⟨b280, o281, none⟩))), (237, (.int .u32 x279)), (238, (.int .i64 (w64 (x279)))), (239, (.pointer (some ⟨b248, 0 + 1, none⟩))), (240, (.int .i64 r_247.1.Hi)), (241, (.pointer (some ⟨b248, 0 + 0, none⟩))), (242, (.int .i64 r_247.1.Lo)), (243, (.int .i64 (w64 (r_247.1.Hi - r_247.1.Lo)))), (244, (.int .i64 (w64 ((w64 (r_247.1.Hi - r_247.1.Lo)) + 1)))), (245, (.int .i64 q289)), (246, (.int .i64 (w64 (r_247.1.Lo + q289)))), (247, (.bool r_294)), (248, (.bool r_294)), (249, (.bool r_299)), (250, (.bool r_299))] mixedOK (by kernel_rfl) (by kernel_rfl) rfl (by kernel_rfl) ?_ (fun F_301 b302 l_303 => ?_)
                    · skip
                      refine .cons (.mk 226 (.func (.func 21) #[] [(.pointer (some ⟨b47, 0, none⟩)), (.pointer (some ⟨b153, 0, none⟩)), (.pointer (some ⟨b48, 0, none⟩))].toArray) [(20, (.func (.func 21) #[] [(.pointer (some ⟨b47, 0, none⟩)), (.pointer (some ⟨b153, 0, none⟩)), (.pointer (some ⟨b48, 0, none⟩))].toArray))] rfl rfl rfl rfl (fun S hS hd => (.cons (hS _ _ rfl) (Sub.nil _))) (fun F_304 X l_305 => ?_)) ?_
                      · skip
                        refine .move rfl rfl ?_
                        exact .fin1 (Fz.le_refl _)
                      refine .cons (.mk 227 (.int .i64 least5) [(1, (.int .i64 least5))] rfl rfl rfl rfl (fun S hS hd => (.cons (hS _ _ rfl) (Sub.nil _))) (fun F_306 X l_307 => ?_)) ?_
                      · skip
                        refine .move rfl rfl ?_
                        exact .fin1 (Fz.le_refl _)
                      refine .cons (.mk 228 (.int .i64 most6) [(2, (.int .i64 most6))] rfl rfl rfl rfl (fun S hS hd => (.cons (hS _ _ rfl) (Sub.nil _))) (fun F_308 X l_309 => ?_)) ?_
                      · skip
                        refine .move rfl rfl ?_
                        exact .fin1 (Fz.le_refl _)
                      refine .cons (.mk 229 (eApiSpan (ApiSpan.mk least5 most6)) [(227, (.int .i64 least5)), (228, (.int .i64 most6))] rfl rfl rfl rfl (fun S hS hd => (.cons (hd.1 rfl rfl _ _ rfl) (.cons (hd.2.1 rfl rfl _ _ rfl) (Sub.nil _)))) (fun F_310 X l_311 => ?_)) ?_
                      · skip
                        refine .build (cs := (cApiSpan (ApiSpan.mk least5 most6)).toArray) rfl Try.underlying36 Try.zeroValue36 (plApiSpan _ Try.underlying36) rfl rfl (by kernel_rfl) ?_
                        exact .fin1 (Fz.le_refl _)
                      refine .cons (.mk 230 (.pointer (some ⟨b248, 0 + 0, none⟩)) [(25, (.pointer (some ⟨b248, 0, none⟩)))] rfl rfl rfl rfl (fun S hS hd => (.cons (hS _ _ rfl) (Sub.nil _))) (fun F_312 X l_313 => ?_)) ?_
                      · skip
                        refine .fieldAddr rfl Try.underlying36 rfl Try.sizeOf3 rfl ?_
                        exact .fin1 (Fz.le_refl _)
                      refine .cons (.mk 231 (.int .i64 r_247.1.Lo) [(230, (.pointer (some ⟨b248, 0 + 0, none⟩)))] rfl rfl rfl rfl (fun S hS hd => (.cons (hd.1 rfl rfl _ _ rfl) (Sub.nil _))) (fun F_314 X l_315 => ?_)) ?_
                      · skip
                        refine .loadO rfl Try.isAgg3 rfl (i := 0) rfl rfl ?_
                        exact .fin1 (Fz.le_refl _)
                      refine .cons (.mk 232 (.slice p10 by_9.length k11) [(5, (.slice p10 by_9.length k11))] rfl rfl rfl rfl (fun S hS hd => (.cons (hS _ _ rfl) (Sub.nil _))) (fun F_316 X l_317 => ?_)) ?_
                      · skip
                        refine .move rfl rfl ?_
                        exact .fin1 (Fz.le_refl _)
                      refine .cons (.mk 233 (.slice p10 by_9.length k11) [(5, (.slice p10 by_9.length k11))] rfl rfl rfl rfl (fun S hS hd => (.cons (hS _ _ rfl) (Sub.nil _))) (fun F_318 X l_319 => ?_)) ?_
                      · skip
                        refine .move rfl rfl ?_
                        exact .fin1 (Fz.le_refl _)
                      refine .cons (.mk 234 (.int .i64 (by_9.length : Int)) [(233, (.slice p10 by_9.length k11))] rfl rfl rfl rfl (fun S hS hd => (.cons (hd.1 rfl rfl _ _ rfl) (Sub.nil _))) (fun F_320 X l_321 => ?_)) ?_
                      · skip
                        refine .lenS rfl rfl Try.underlying54 rfl ?_
                        exact .fin1 (Fz.le_refl _)
                      refine .cons (.mk 235 (.int .i64 q276) [(234, (.int .i64 (by_9.length : Int)))] rfl rfl rfl rfl (fun S hS hd => (.cons (hd.1 rfl rfl _ _ rfl) (Sub.nil _))) (fun F_322 X l_323 => ?_)) ?_
                      · skip
                        refine .remK hx278 rfl rfl rfl ?_
                        exact .fin1 (Fz.le_refl _)
                      refine .cons (.mk 236 (.pointer (some ⟨b280, o281, none⟩)) [(232, (.slice p10 by_9.length k11)), (235, (.int .i64 q276))] rfl rfl rfl rfl (fun S hS hd => (.cons (hd.1 rfl rfl _ _ rfl) (.cons (hd.2.1 rfl rfl _ _ rfl) (Sub.nil _)))) (fun F_324 X l_325 => ?_)) ?_
                      · skip
                        refine .idxQ rfl Try.underlying54 Try.sizeOf59 hq288 rfl rfl ?_
                        exact .fin1 (Fz.le_refl _)
                      refine .cons (.mk 237 (.int .u32 x279) [(236, (.pointer (some ⟨b280, o281, none⟩)))] rfl rfl rfl rfl (fun S hS hd => (.cons (hd.1 rfl rfl _ _ rfl) (Sub.nil _))) (fun F_326 X l_327 => ?_)) ?_
                      · skip
                        refine .loadF rfl Try.isAgg59 rfl (l_327.mem _ _ hm286) (cell_of_take (k := 0) hv287 rfl) ?_
                        exact .fin1 (Fz.le_refl _)
                      refine .cons (.mk 238 (.int .i64 (w64 (x279))) [(237, (.int .u32 x279))] rfl rfl rfl rfl (fun S hS hd => (.cons (hd.1 rfl rfl _ _ rfl) (Sub.nil _))) (fun F_328 X l_329 => ?_)) ?_
                      · skip
                        refine .convI rfl Try.underlying59 Try.underlying3 rfl ?_
                        exact .fin1 (Fz.le_refl _)
                      refine .cons (.mk 239 (.pointer (some ⟨b248, 0 + 1, none⟩)) [(25, (.pointer (some ⟨b248, 0, none⟩)))] rfl rfl rfl rfl (fun S hS hd => (.cons (hS _ _ rfl) (Sub.nil _))) (fun F_330 X l_331 => ?_)) ?_
                      · skip
                        refine .fieldAddr rfl Try.underlying36 rfl Try.sizeOf3 rfl ?_
                        exact .fin1 (Fz.le_refl _)
                      refine .cons (.mk 240 (.int .i64 r_247.1.Hi) [(239, (.pointer (some ⟨b248, 0 + 1, none⟩)))] rfl rfl rfl rfl (fun S hS hd => (.cons (hd.1 rfl rfl _ _ rfl) (Sub.nil _))) (fun F_332 X l_333 => ?_)) ?_
                      · skip
                        refine .loadO rfl Try.isAgg3 rfl (i := 0) rfl rfl ?_
                        exact .fin1 (Fz.le_refl _)
                      refine .cons (.mk 241 (.pointer (some ⟨b248, 0 + 0, none⟩)) [(25, (.pointer (some ⟨b248, 0, none⟩)))] rfl rfl rfl rfl (fun S hS hd => (.cons (hS _ _ rfl) (Sub.nil _))) (fun F_334 X l_335 => ?_)) ?_
                      · skip
                        refine .fieldAddr rfl Try.underlying36 rfl Try.sizeOf3 rfl ?_
                        exact .fin1 (Fz.le_refl _)
                      refine .cons (.mk 242 (.int .i64 r_247.1.Lo) [(241, (.pointer (some ⟨b248, 0 + 0, none⟩)))] rfl rfl rfl rfl (fun S hS hd => (.cons (hd.1 rfl rfl _ _ rfl) (Sub.nil _))) (fun F_336 X l_337 => ?_)) ?_
                      · skip
                        refine .loadO rfl Try.isAgg3 rfl (i := 0) rfl rfl ?_
                        exact .fin1 (Fz.le_refl _)
                      refine .cons (.mk 243 (.int .i64 (w64 (r_247.1.Hi - r_247.1.Lo))) [(240, (.int .i64 r_247.1.Hi)), (242, (.int .i64 r_247.1.Lo))] rfl rfl rfl rfl (fun S hS hd => (.cons (hd.1 rfl rfl _ _ rfl) (.cons (hd.2.1 rfl rfl _ _ rfl) (Sub.nil _)))) (fun F_338 X l_339 => ?_)) ?_
                      · skip
                        refine .sub rfl rfl rfl ?_
                        exact .fin1 (Fz.le_refl _)
                      refine .cons (.mk 244 (.int .i64 (w64 ((w64 (r_247.1.Hi - r_247.1.Lo)) + 1))) [(243, (.int .i64 (w64 (r_247.1.Hi - r_247.1.Lo))))] rfl rfl rfl rfl (fun S hS hd => (.cons (hd.1 rfl rfl _ _ rfl) (Sub.nil _))) (fun F_340 X l_341 => ?_)) ?_
                      · skip
                        refine .add rfl rfl rfl ?_
                        exact .fin1 (Fz.le_refl _)
                      refine .cons (.mk 245 (.int .i64 q289) [(238, (.int .i64 (w64 (x279)))), (244, (.int .i64 (w64 ((w64 (r_247.1.Hi - r_247.1.Lo)) + 1))))] rfl rfl rfl rfl (fun S hS hd => (.cons (hd.1 rfl rfl _ _ rfl) (.cons (hd.2.1 rfl rfl _ _ rfl) (Sub.nil _)))) (fun F_342 X l_343 => ?_)) ?_
                      · skip
                        refine .remK hx291 rfl rfl rfl ?_
                        exact .fin1 (Fz.le_refl _)
                      refine .cons (.mk 246 (.int .i64 (w64 (r_247.1.Lo + q289))) [(231, (.int .i64 r_247.1.Lo)), (245, (.int .i64 q289))] rfl rfl rfl rfl (fun S hS hd => (.cons (hd.1 rfl rfl _ _ rfl) (.cons (hd.2.1 rfl rfl _ _ rfl) (Sub.nil _)))) (fun F_344 X l_345 => ?_)) ?_
                      · skip
                        refine .add rfl rfl rfl ?_
                        exact .fin1 (Fz.le_refl _)
                      refine .cons (.mk 247 (.bool r_294) [(226, (.func (.func 21) #[] [(.pointer (some ⟨b47, 0, none⟩)), (.pointer (some ⟨b153, 0, none⟩)), (.pointer (some ⟨b48, 0, none⟩))].toArray)), (229, (eApiSpan (ApiSpan.mk least5 most6))), (246, (.int .i64 (w64 (r_247.1.Lo + q289))))] rfl rfl rfl rfl (fun S hS hd => (.cons (hd.1 rfl rfl _ _ rfl) (.cons (hd.2.1 rfl rfl _ _ rfl) (.cons (hd.2.2.1 rfl rfl _ _ rfl) (Sub.nil _))))) (fun F_346 X l_347 => ?_)) ?_
                      · skip
                        refine .callK hx295 rfl Try.call21 rfl rfl rfl (c_wormtublaw12_BottleTrue_1 _ (ApiSpan.mk least5 most6) (w64 (r_247.1.Lo + q289)) b137.1 b47 ((Fz.le_trans l_196 (Fz.le_trans l_199 (Fz.le_trans l_206 (Fz.le_trans l_213 (Fz.le_trans l_220 (Fz.le_trans l_224 (Fz.le_trans l_241 (Fz.le_trans l_246 (Fz.le_trans l_270 (Fz.le_trans l_274 l_347)))))))))).mem _ _ hb194) (w64 ((w64 (10000 - b1.Shrink.Lo)) - q150)) b153 ((Fz.le_trans l_199 (Fz.le_trans l_206 (Fz.le_trans l_213 (Fz.le_trans l_220 (Fz.le_trans l_224 (Fz.le_trans l_241 (Fz.le_trans l_246 (Fz.le_trans l_270 (Fz.le_trans l_274 l_347))))))))).mem _ _ hb197) b137.2 b48 ((Fz.le_trans l_206 (Fz.le_trans l_213 (Fz.le_trans l_220 (Fz.le_trans l_224 (Fz.le_trans l_241 (Fz.le_trans l_246 (Fz.le_trans l_270 (Fz.le_trans l_274 l_347)))))))).mem _ _ hb200)) ?_
                        rintro F_348 _ l_349 rfl
                        exact .fin1 l_349
                      refine .cons (.mk 248 (.bool r_294) [(247, (.bool r_294))] rfl rfl rfl rfl (fun S hS hd => (.cons (hd.1 rfl rfl _ _ rfl) (Sub.nil _))) (fun F_350 X l_351 => ?_)) ?_
                      · skip
                        refine .move rfl rfl ?_
                        exact .fin1 (Fz.le_refl _)
                      refine .cons (.mk 249 (.bool r_299) [(248, (.bool r_294))] rfl rfl rfl rfl (fun S hS hd => (.cons (hd.1 rfl rfl _ _ rfl) (Sub.nil _))) (fun F_352 X l_353 => ?_)) ?_
                      · skip
                        refine .onH hb296 rfl rfl ?_
                        refine .callK hx300 rfl Try.call11 rfl rfl rfl (c_wormtublaw12_awake _ ) ?_
                        rintro F_354 _ l_355 rfl
                        exact .fin1 l_355
                      refine .cons (.mk 250 (.bool r_299) [(248, (.bool r_294)), (249, (.bool r_299))] rfl rfl rfl rfl (fun S hS hd => (.cons (hd.1 rfl rfl _ _ rfl) (.cons (hd.2.1 rfl rfl _ _ rfl) (Sub.nil _)))) (fun F_356 X l_357 => ?_)) ?_
                      · skip
                        refine .pickTH hb296  rfl rfl rfl ?_
                        exact .fin1 (Fz.le_refl _)
                      exact .nil
                    refine .assign rfl rfl ?_
                    refine .nil ?_
                    refine .keep (.cons (k := 12) rfl (.nil _)) ?_
                    refine .code ?_
                    exact .ret0 Try.results5 (.tmp rfl (.nil)) (i := 3) rfl (Fz.le_trans l_15 (Fz.le_trans l_20 (Fz.le_trans l_26 (Fz.le_trans l_44 (Fz.le_trans l_139 (Fz.le_trans l_155 (Fz.le_trans l_193 (Fz.le_trans l_196 (Fz.le_trans l_199 (Fz.le_trans l_206 (Fz.le_trans l_213 (Fz.le_trans l_220 (Fz.le_trans l_224 (Fz.le_trans l_241 (Fz.le_trans l_246 (Fz.le_trans l_270 (Fz.le_trans l_274 l_303))))))))))))))))) rfl
                  · skip
                    refine .draw ⟨1000000, 0, [], 0⟩ [(226, (.func (.func 21) #[] [(.pointer (some ⟨b47, 0, none⟩)), (.pointer (some ⟨b153, 0, none⟩)), (.pointer (some ⟨b48, 0, none⟩))].toArray)), (227, (.int .i64 least5)), (228, (.int .i64 most6)), (229, (eApiSpan (ApiSpan.mk least5 most6))), (230, (.pointer (some ⟨b248, 0 + 0, none⟩))), (231, (.int .i64 r_247.1.Lo)), (232, (.slice p10 by_9.length k11)), (233, (.slice p10 by_9.length k11)), (234, (.int .i64 (by_9.length : Int))), (235, (.int .i64 q276)), (236, (.pointer (some ⟨b280, o281, none⟩))), (237, (.int .u32 x279)), (238, (.int .i64 (w64 (x279)))), (239, (.pointer (some ⟨b248, 0 + 1, none⟩))), (240, (.int .i64 r_247.1.Hi)), (241, (.pointer (some ⟨b248, 0 + 0, none⟩))), (242, (.int .i64 r_247.1.Lo)), (243, (.int .i64 (w64 (r_247.1.Hi - r_247.1.Lo)))), (244, (.int .i64 (w64 ((w64 (r_247.1.Hi - r_247.1.Lo)) + 1)))), (245, (.int .i64 q289)), (246, (.int .i64 (w64 (r_247.1.Lo + q289)))), (247, (.bool r_294)), (248, (.bool r_294)), (249, undef), (250, (.bool false))] mixedOK (by kernel_rfl) (by kernel_rfl) rfl (by kernel_rfl) ?_ (fun F_358 b359 l_360 => ?_)
                    · skip
                      refine .cons (.mk 226 (.func (.func 21) #[] [(.pointer (some ⟨b47, 0, none⟩)), (.pointer (some ⟨b153, 0, none⟩)), (.pointer (some ⟨b48, 0, none⟩))].toArray) [(20, (.func (.func 21) #[] [(.pointer (some ⟨b47, 0, none⟩)), (.pointer (some ⟨b153, 0, none⟩)), (.pointer (some ⟨b48, 0, none⟩))].toArray))] rfl rfl rfl rfl (fun S hS hd => (.cons (hS _ _ rfl) (Sub.nil _))) (fun F_361 X l_362 => ?_)) ?_
                      · skip
                        refine .move rfl rfl ?_
                        exact .fin1 (Fz.le_refl _)
                      refine .cons (.mk 227 (.int .i64 least5) [(1, (.int .i64 least5))] rfl rfl rfl rfl (fun S hS hd => (.cons (hS _ _ rfl) (Sub.nil _))) (fun F_363 X l_364 => ?_)) ?_
                      · skip
                        refine .move rfl rfl ?_
                        exact .fin1 (Fz.le_refl _)
                      refine .cons (.mk 228 (.int .i64 most6) [(2, (.int .i64 most6))] rfl rfl rfl rfl (fun S hS hd => (.cons (hS _ _ rfl) (Sub.nil _))) (fun F_365 X l_366 => ?_)) ?_
                      · skip
                        refine .move rfl rfl ?_
                        exact .fin1 (Fz.le_refl _)
                      refine .cons (.mk 229 (eApiSpan (ApiSpan.mk least5 most6)) [(227, (.int .i64 least5)), (228, (.int .i64 most6))] rfl rfl rfl rfl (fun S hS hd => (.cons (hd.1 rfl rfl _ _ rfl) (.cons (hd.2.1 rfl rfl _ _ rfl) (Sub.nil _)))) (fun F_367 X l_368 => ?_)) ?_
                      · skip
                        refine .build (cs := (cApiSpan (ApiSpan.mk least5 most6)).toArray) rfl Try.underlying36 Try.zeroValue36 (plApiSpan _ Try.underlying36) rfl rfl (by kernel_rfl) ?_
                        exact .fin1 (Fz.le_refl _)
                      refine .cons (.mk 230 (.pointer (some ⟨b248, 0 + 0, none⟩)) [(25, (.pointer (some ⟨b248, 0, none⟩)))] rfl rfl rfl rfl (fun S hS hd => (.cons (hS _ _ rfl) (Sub.nil _))) (fun F_369 X l_370 => ?_)) ?_
                      · skip
                        refine .fieldAddr rfl Try.underlying36 rfl Try.sizeOf3 rfl ?_
                        exact .fin1 (Fz.le_refl _)
                      refine .cons (.mk 231 (.int .i64 r_247.1.Lo) [(230, (.pointer (some ⟨b248, 0 + 0, none⟩)))] rfl rfl rfl rfl (fun S hS hd => (.cons (hd.1 rfl rfl _ _ rfl) (Sub.nil _))) (fun F_371 X l_372 => ?_)) ?_
                      · skip
                        refine .loadO rfl Try.isAgg3 rfl (i := 0) rfl rfl ?_
                        exact .fin1 (Fz.le_refl _)
                      refine .cons (.mk 232 (.slice p10 by_9.length k11) [(5, (.slice p10 by_9.length k11))] rfl rfl rfl rfl (fun S hS hd => (.cons (hS _ _ rfl) (Sub.nil _))) (fun F_373 X l_374 => ?_)) ?_
                      · skip
                        refine .move rfl rfl ?_
                        exact .fin1 (Fz.le_refl _)
                      refine .cons (.mk 233 (.slice p10 by_9.length k11) [(5, (.slice p10 by_9.length k11))] rfl rfl rfl rfl (fun S hS hd => (.cons (hS _ _ rfl) (Sub.nil _))) (fun F_375 X l_376 => ?_)) ?_
                      · skip
                        refine .move rfl rfl ?_
                        exact .fin1 (Fz.le_refl _)
                      refine .cons (.mk 234 (.int .i64 (by_9.length : Int)) [(233, (.slice p10 by_9.length k11))] rfl rfl rfl rfl (fun S hS hd => (.cons (hd.1 rfl rfl _ _ rfl) (Sub.nil _))) (fun F_377 X l_378 => ?_)) ?_
                      · skip
                        refine .lenS rfl rfl Try.underlying54 rfl ?_
                        exact .fin1 (Fz.le_refl _)
                      refine .cons (.mk 235 (.int .i64 q276) [(234, (.int .i64 (by_9.length : Int)))] rfl rfl rfl rfl (fun S hS hd => (.cons (hd.1 rfl rfl _ _ rfl) (Sub.nil _))) (fun F_379 X l_380 => ?_)) ?_
                      · skip
                        refine .remK hx278 rfl rfl rfl ?_
                        exact .fin1 (Fz.le_refl _)
                      refine .cons (.mk 236 (.pointer (some ⟨b280, o281, none⟩)) [(232, (.slice p10 by_9.length k11)), (235, (.int .i64 q276))] rfl rfl rfl rfl (fun S hS hd => (.cons (hd.1 rfl rfl _ _ rfl) (.cons (hd.2.1 rfl rfl _ _ rfl) (Sub.nil _)))) (fun F_381 X l_382 => ?_)) ?_
                      · skip
                        refine .idxQ rfl Try.underlying54 Try.sizeOf59 hq288 rfl rfl ?_
                        exact .fin1 (Fz.le_refl _)
                      refine .cons (.mk 237 (.int .u32 x279) [(236, (.pointer (some ⟨b280, o281, none⟩)))] rfl rfl rfl rfl (fun S hS hd => (.cons (hd.1 rfl rfl _ _ rfl) (Sub.nil _))) (fun F_383 X l_384 => ?_)) ?_
                      · skip
                        refine .loadF rfl Try.isAgg59 rfl (l_384.mem _ _ hm286) (cell_of_take (k := 0) hv287 rfl) ?_
                        exact .fin1 (Fz.le_refl _)
                      refine .cons (.mk 238 (.int .i64 (w64 (x279))) [(237, (.int .u32 x279))] rfl rfl rfl rfl (fun S hS hd => (.cons (hd.1 rfl rfl _ _ rfl) (Sub.nil _))) (fun F_385 X l_386 => ?_)) ?_
                      · skip
                        refine .convI rfl Try.underlying59 Try.underlying3 rfl ?_
                        exact .fin1 (Fz.le_refl _)
                      refine .cons (.mk 239 (.pointer (some ⟨b248, 0 + 1, none⟩)) [(25, (.pointer (some ⟨b248, 0, none⟩)))] rfl rfl rfl rfl (fun S hS hd => (.cons (hS _ _ rfl) (Sub.nil _))) (fun F_387 X l_388 => ?_)) ?_
                      · skip
                        refine .fieldAddr rfl Try.underlying36 rfl Try.sizeOf3 rfl ?_
                        exact .fin1 (Fz.le_refl _)
                      refine .cons (.mk 240 (.int .i64 r_247.1.Hi) [(239, (.pointer (some ⟨b248, 0 + 1, none⟩)))] rfl rfl rfl rfl (fun S hS hd => (.cons (hd.1 rfl rfl _ _ rfl) (Sub.nil _))) (fun F_389 X l_390 => ?_)) ?_
                      · skip
                        refine .loadO rfl Try.isAgg3 rfl (i := 0) rfl rfl ?_
                        exact .fin1 (Fz.le_refl _)
                      refine .cons (.mk 241 (.pointer (some ⟨b248, 0 + 0, none⟩)) [(25, (.pointer (some ⟨b248, 0, none⟩)))] rfl rfl rfl rfl (fun S hS hd => (.cons (hS _ _ rfl) (Sub.nil _))) (fun F_391 X l_392 => ?_)) ?_
                      · skip
                        refine .fieldAddr rfl Try.underlying36 rfl Try.sizeOf3 rfl ?_
                        exact .fin1 (Fz.le_refl _)
                      refine .cons (.mk 242 (.int .i64 r_247.1.Lo) [(241, (.pointer (some ⟨b248, 0 + 0, none⟩)))] rfl rfl rfl rfl (fun S hS hd => (.cons (hd.1 rfl rfl _ _ rfl) (Sub.nil _))) (fun F_393 X l_394 => ?_)) ?_
                      · skip
                        refine .loadO rfl Try.isAgg3 rfl (i := 0) rfl rfl ?_
                        exact .fin1 (Fz.le_refl _)
                      refine .cons (.mk 243 (.int .i64 (w64 (r_247.1.Hi - r_247.1.Lo))) [(240, (.int .i64 r_247.1.Hi)), (242, (.int .i64 r_247.1.Lo))] rfl rfl rfl rfl (fun S hS hd => (.cons (hd.1 rfl rfl _ _ rfl) (.cons (hd.2.1 rfl rfl _ _ rfl) (Sub.nil _)))) (fun F_395 X l_396 => ?_)) ?_
                      · skip
                        refine .sub rfl rfl rfl ?_
                        exact .fin1 (Fz.le_refl _)
                      refine .cons (.mk 244 (.int .i64 (w64 ((w64 (r_247.1.Hi - r_247.1.Lo)) + 1))) [(243, (.int .i64 (w64 (r_247.1.Hi - r_247.1.Lo))))] rfl rfl rfl rfl (fun S hS hd => (.cons (hd.1 rfl rfl _ _ rfl) (Sub.nil _))) (fun F_397 X l_398 => ?_)) ?_
                      · skip
                        refine .add rfl rfl rfl ?_
                        exact .fin1 (Fz.le_refl _)
                      refine .cons (.mk 245 (.int .i64 q289) [(238, (.int .i64 (w64 (x279)))), (244, (.int .i64 (w64 ((w64 (r_247.1.Hi - r_247.1.Lo)) + 1))))] rfl rfl rfl rfl (fun S hS hd => (.cons (hd.1 rfl rfl _ _ rfl) (.cons (hd.2.1 rfl rfl _ _ rfl) (Sub.nil _)))) (fun F_399 X l_400 => ?_)) ?_
                      · skip
                        refine .remK hx291 rfl rfl rfl ?_
                        exact .fin1 (Fz.le_refl _)
                      refine .cons (.mk 246 (.int .i64 (w64 (r_247.1.Lo + q289))) [(231, (.int .i64 r_247.1.Lo)), (245, (.int .i64 q289))] rfl rfl rfl rfl (fun S hS hd => (.cons (hd.1 rfl rfl _ _ rfl) (.cons (hd.2.1 rfl rfl _ _ rfl) (Sub.nil _)))) (fun F_401 X l_402 => ?_)) ?_
                      · skip
                        refine .add rfl rfl rfl ?_
                        exact .fin1 (Fz.le_refl _)
                      refine .cons (.mk 247 (.bool r_294) [(226, (.func (.func 21) #[] [(.pointer (some ⟨b47, 0, none⟩)), (.pointer (some ⟨b153, 0, none⟩)), (.pointer (some ⟨b48, 0, none⟩))].toArray)), (229, (eApiSpan (ApiSpan.mk least5 most6))), (246, (.int .i64 (w64 (r_247.1.Lo + q289))))] rfl rfl rfl rfl (fun S hS hd => (.cons (hd.1 rfl rfl _ _ rfl) (.cons (hd.2.1 rfl rfl _ _ rfl) (.cons (hd.2.2.1 rfl rfl _ _ rfl) (Sub.nil _))))) (fun F_403 X l_404 => ?_)) ?_
                      · skip
                        refine .callK hx295 rfl Try.call21 rfl rfl rfl (c_wormtublaw12_BottleTrue_1 _ (ApiSpan.mk least5 most6) (w64 (r_247.1.Lo + q289)) b137.1 b47 ((Fz.le_trans l_196 (Fz.le_trans l_199 (Fz.le_trans l_206 (Fz.le_trans l_213 (Fz.le_trans l_220 (Fz.le_trans l_224 (Fz.le_trans l_241 (Fz.le_trans l_246 (Fz.le_trans l_270 (Fz.le_trans l_274 l_404)))))))))).mem _ _ hb194) (w64 ((w64 (10000 - b1.Shrink.Lo)) - q150)) b153 ((Fz.le_trans l_199 (Fz.le_trans l_206 (Fz.le_trans l_213 (Fz.le_trans l_220 (Fz.le_trans l_224 (Fz.le_trans l_241 (Fz.le_trans l_246 (Fz.le_trans l_270 (Fz.le_trans l_274 l_404))))))))).mem _ _ hb197) b137.2 b48 ((Fz.le_trans l_206 (Fz.le_trans l_213 (Fz.le_trans l_220 (Fz.le_trans l_224 (Fz.le_trans l_241 (Fz.le_trans l_246 (Fz.le_trans l_270 (Fz.le_trans l_274 l_404)))))))).mem _ _ hb200)) ?_
                        rintro F_405 _ l_406 rfl
                        exact .fin1 l_406
                      refine .cons (.mk 248 (.bool r_294) [(247, (.bool r_294))] rfl rfl rfl rfl (fun S hS hd => (.cons (hd.1 rfl rfl _ _ rfl) (Sub.nil _))) (fun F_407 X l_408 => ?_)) ?_
                      · skip
                        refine .move rfl rfl ?_
                        exact .fin1 (Fz.le_refl _)
                      refine .cons (.mk 249 undef [(248, (.bool r_294))] rfl rfl rfl rfl (fun S hS hd => (.cons (hd.1 rfl rfl _ _ rfl) (Sub.nil _))) (fun F_409 X l_410 => ?_)) ?_
                      · skip
                        refine .offH hb296 rfl rfl rfl ?_
                        exact .fin1 (Fz.le_refl _)
                      refine .cons (.mk 250 (.bool false) [(248, (.bool r_294)), (249, undef)] rfl rfl rfl rfl (fun S hS hd => (.cons (hd.1 rfl rfl _ _ rfl) (.cons (hd.2.1 rfl rfl _ _ rfl) (Sub.nil _)))) (fun F_411 X l_412 => ?_)) ?_
                      · skip
                        refine .pickFH hb296  rfl rfl rfl ?_
                        exact .fin1 (Fz.le_refl _)
                      exact .nil
                    refine .assign rfl rfl ?_
                    refine .nil ?_
                    refine .keep (.cons (k := 12) rfl (.nil _)) ?_
                    refine .code ?_
                    exact .ret0 Try.results5 (.tmp rfl (.nil)) (i := 3) rfl (Fz.le_trans l_15 (Fz.le_trans l_20 (Fz.le_trans l_26 (Fz.le_trans l_44 (Fz.le_trans l_139 (Fz.le_trans l_155 (Fz.le_trans l_193 (Fz.le_trans l_196 (Fz.le_trans l_199 (Fz.le_trans l_206 (Fz.le_trans l_213 (Fz.le_trans l_220 (Fz.le_trans l_224 (Fz.le_trans l_241 (Fz.le_trans l_246 (Fz.le_trans l_270 (Fz.le_trans l_274 l_360))))))))))))))))) rfl

end Go.Proofs.Ytbomfcghpajaiaa
