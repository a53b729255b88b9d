/- Printed by gen.py: plain models of the program's functions, and that the code does what they say. -/
import Derived.Test.YtbomfcghpajaiaaT0
import Derived.Test.YtbomfcghpajaiaaT3
import Derived.Test.YtbomfcghpajaiaaT4
namespace Go.Proofs.Ytbomfcghpajaiaa
open Go.Dec

noncomputable def b_wormtubref12_problems_1 (b1 : ApiBatch) (l_5 : (List ApiClaim)) (s22 : Int × Bool × Int) : Option (Ctl (Int × Bool × Int) ((Int × Bool))) :=
  if (decide (s22.2.2 < (l_5.length : Int))) then ((idxL l_5 s22.2.2).bind fun x26 => (shlO .i64 1 x26.Kind).bind fun q36 => bindv (orK .i64 s22.1 q36) fun kinds38 => (if s22.2.1 then (some true) else ((idxL l_5 s22.2.2).bind fun x64 => (m_wormtubref12_True b1 x64).bind fun r_76 => bindv (!r_76) fun lie103 => some lie103) : Option (Bool)).bind fun j105 => bindv (w64 (s22.2.2 + 1)) fun i108 => some (.next (kinds38, j105, i108))) else (some (.done (s22.1, s22.2.1)))
noncomputable def b_wormtubref12_problems_2 (r_9 : ApiLabelRule) (r_20 : ApiBottling) (b110 : Int × Bool) (s119 : (List Int) × Int) : Option (Ctl ((List Int) × Int) (((List Int)))) :=
  if (decide (s119.2 < (([(decide (r_20.Strength.Lo < r_9.Least)), (decide (r_20.Strength.Hi > r_9.Most)), (decide (r_20.Age < r_9.Age)), ((andK .i64 b110.1 r_9.Must) != r_9.Must), ((andK .i64 b110.1 r_9.Never) != 0), b110.2]).length : Int))) then (((idxL ([(decide (r_20.Strength.Lo < r_9.Least)), (decide (r_20.Strength.Hi > r_9.Most)), (decide (r_20.Age < r_9.Age)), ((andK .i64 b110.1 r_9.Must) != r_9.Must), ((andK .i64 b110.1 r_9.Never) != 0), b110.2]) s119.2).bind fun x126 => (if x126 then ((appO s119.1 ([s119.2])).bind fun l_142 => some l_142) else (some s119.1) : Option ((List Int))).bind fun j146 => some j146 : Option ((List Int))).bind fun j152 => bindv (w64 (s119.2 + 1)) fun i158 => some (.next (j152, i158))) else (some (.done s119.1))
noncomputable def m_wormtubref12_problems (b1 : ApiBatch) (l_5 : (List ApiClaim)) (r_9 : ApiLabelRule) : Option (List Int) :=
  (m_wormtubref12_blend b1).bind fun r_20 => (loopM (b_wormtubref12_problems_1 b1 l_5) (0, false, 0)).bind fun b110 => (loopM (b_wormtubref12_problems_2 r_9 r_20 b110) ([], 0)).bind fun b160 => some b160
theorem c_wormtubref12_problems (F0 : Fz) (b1 : ApiBatch) (p2 : Option Addr) (k3 : Nat) (h4 : RepSl 27 (Ex cApiDraught) F0 p2 k3 b1.Draughts) (l_5 : (List ApiClaim)) (p6 : Option Addr) (k7 : Nat) (h8 : RepSl 3 (Ex cApiClaim) F0 p6 k7 l_5) (r_9 : ApiLabelRule) : CT0 Try.prog 70 [(eApiBatch b1 p2 k3), (.slice p6 l_5.length k7), (eApiLabelRule r_9)].toArray F0 (m_wormtubref12_problems b1 l_5 r_9) (fun r F v => ∃ p0 k0, v = (.slice p0 r.length k0) ∧ RepSl 1 (Ex (cInt .i64)) F p0 k0 r) := by
  refine CT0.enter Try.func70 rfl Try.ntmps70 rfl fun r R => ?_
  unfold m_wormtubref12_problems
  refine .seq ?_
  refine .region ?_
  refine .boxF (cs := (cApiBatch b1 p2 k3)) rfl rfl rfl (fun b10 F_11 l_12 hb13 => ?_)
  refine .boxF (cs := (cApiLabelRule r_9)) rfl rfl rfl (fun b14 F_15 l_16 hb17 => ?_)
  refine .assign rfl rfl ?_
  refine .nil ?_
  refine .code ?_
  refine .seq ?_
  refine .region ?_
  refine .loadFA rfl Try.isAgg38 Try.sizeOf38 rfl (l_16.mem _ _ hb13) (vs := (cApiBatch b1 p2 k3)) (by kernel_rfl) rfl ?_
  refine .call0 rfl Try.call58 rfl rfl rfl (c_wormtubref12_blend _ b1 p2 k3 (h4.mono (Fz.le_trans l_12 l_16))) ?_
  rintro r_20 F_18 _ - l_19 rfl
  refine .alloc (cs := (cApiBottling (ApiBottling.mk (ApiSpan.mk 0 0) (ApiSpan.mk 0 0) 0 (fun _ => 0) (fun _ => 0) 0))) rfl Try.zeroValue56 rfl (fun b21 => ?_)
  refine .store (cs' := (cApiBottling r_20)) Try.sizeOf56 rfl rfl rfl rfl (i := 0) rfl (Nat.le_of_ble_eq_true rfl) rfl (setMany_all (by rfl)) ?_
  refine .nil ?_
  refine .code ?_
  refine .seq ?_
  refine .region ?_
  refine .assign rfl rfl ?_
  refine .assign rfl rfl ?_
  refine .nil ?_
  refine .code ?_
  refine .seq ?_
  refine .seq ?_
  refine .region ?_
  refine .assign rfl rfl ?_
  refine .nil ?_
  refine .code ?_
  refine .block ?_
  refine .keep (.cons (k := 1) rfl (.cons (k := 3) rfl (.cons (k := 5) rfl (.cons (k := 7) rfl (.cons (k := 8) rfl (.cons (k := 9) rfl (.cons (k := 10) rfl (.nil _)))))))) ?_
  refine .loop (fun (s22 : Int × Bool × Int) a w => ∃ (F_23 : Fz), F_18 ≤ F_23 ∧ Hd 86 [] [(1, (.slice p6 l_5.length k7)), (3, (.pointer (some ⟨b10, 0, none⟩))), (5, (.pointer (some ⟨b14, 0, none⟩))), (7, (.pointer (some ⟨b21, 0, none⟩))), (8, (.int .i64 s22.1)), (9, (.bool s22.2.1)), (10, (.int .i64 s22.2.2))] F_23 [pt b21 (.cells (cApiBottling r_20).toArray 56), R] a w) (fun b110 e a w => e = .exit 0 ∧ ∃ (F_111 : Fz), F_18 ≤ F_111 ∧ Hd 86 [] [(5, (.pointer (some ⟨b14, 0, none⟩))), (7, (.pointer (some ⟨b21, 0, none⟩))), (8, (.int .i64 b110.1)), (9, (.bool b110.2))] F_111 [pt b21 (.cells (cApiBottling r_20).toArray 56), R] a w) ?_ ?_ ?_
  · exact fun a w h => ⟨F_18, (Fz.le_refl _), h.1.sub (.cons (k := 1) rfl (.cons (k := 3) rfl (.cons (k := 5) rfl (.cons (k := 7) rfl (.cons (k := 8) rfl (.cons (k := 9) rfl (.cons (k := 10) rfl (.nil _)))))))), h.2⟩
  · intro s22 ctl
    refine GC.ex (fun a w ⟨F_23, l_24, hA⟩ => ⟨_, hA, ?_⟩)
    unfold b_wormtubref12_problems_1
    refine .seq ?_
    refine .seq ?_
    refine .region ?_
    refine .move rfl rfl ?_
    refine .move rfl rfl ?_
    refine .lenS rfl rfl Try.underlying39 rfl ?_
    refine .lss rfl rfl rfl ?_
    refine .nil ?_
    refine .code ?_
    refine .cond rfl (fun hb25 => ?_) (fun hb25 => ?_)
    · skip
      refine .skip ?_
      refine .code ?_
      refine .seq ?_
      refine .block ?_
      refine .seq ?_
      refine .region ?_
      refine .move rfl rfl ?_
      refine .move rfl rfl ?_
      refine .move rfl rfl ?_
      refine .idx rfl Try.underlying39 Try.sizeOf46 (h8.mono (Fz.le_trans l_12 (Fz.le_trans l_16 (Fz.le_trans l_19 l_24)))) rfl rfl (fun x26 b27 o28 T29 fr30 cs31 e32 hm33 hv34 => ?_)
      refine .fieldAddr rfl Try.underlying46 rfl Try.sizeOf3 rfl ?_
      refine .loadF rfl Try.isAgg3 rfl hm33 (cell_of_take (k := 0) hv34 rfl) ?_
      refine .shl rfl rfl rfl (fun q36 e37 => ?_)
      refine .orI rfl rfl rfl ?_
      refine .assignL rfl rfl (fun kinds38 e39 => ?_)
      refine .nil ?_
      refine .code ?_
      refine .keep (.cons (k := 1) rfl (.cons (k := 3) rfl (.cons (k := 5) rfl (.cons (k := 7) rfl (.cons (k := 8) rfl (.cons (k := 9) rfl (.cons (k := 10) rfl (.nil _)))))))) ?_
      refine GC.join0 (σ := Bool) (fun j105 a w => ∃ (F_106 : Fz), F_23 ≤ F_106 ∧ Hd 86 [] [(1, (.slice p6 l_5.length k7)), (3, (.pointer (some ⟨b10, 0, none⟩))), (5, (.pointer (some ⟨b14, 0, none⟩))), (7, (.pointer (some ⟨b21, 0, none⟩))), (8, (.int .i64 kinds38)), (9, (.bool j105)), (10, (.int .i64 s22.2.2))] F_106 [pt b21 (.cells (cApiBottling r_20).toArray 56), R] a w) (fun sj => ?_) (fun j105 hs0 => GE.ex (fun a w ⟨F_106, l_107, hA⟩ => ⟨_, hA, ?_⟩))
      · skip
        refine .ite (fun hb40 => ?_) (fun hb40 => ?_)
        · skip
          refine .draw ⟨1000000, 0, [], 0⟩ [(30, (.bool s22.2.1)), (31, (.bool s22.2.1)), (32, undef), (33, undef), (34, undef), (35, undef), (36, undef), (37, undef), (38, undef), (39, (.bool true))] mixedOK (by kernel_rfl) (by kernel_rfl) rfl (by kernel_rfl) ?_ (fun F_41 b42 l_43 => ?_)
          · skip
            refine .cons (.mk 30 (.bool s22.2.1) [(9, (.bool s22.2.1))] rfl rfl rfl rfl (fun S hS hd => (.cons (hS _ _ rfl) (Sub.nil _))) (fun F_44 X l_45 => ?_)) ?_
            · skip
              refine .move rfl rfl ?_
              exact .fin1 (Fz.le_refl _)
            refine .cons (.mk 31 (.bool s22.2.1) [(30, (.bool s22.2.1))] rfl rfl rfl rfl (fun S hS hd => (.cons (hd.1 rfl rfl _ _ rfl) (Sub.nil _))) (fun F_46 X l_47 => ?_)) ?_
            · skip
              refine .move rfl rfl ?_
              exact .fin1 (Fz.le_refl _)
            refine .cons (.mk 32 undef [(3, (.pointer (some ⟨b10, 0, none⟩))), (31, (.bool s22.2.1))] rfl rfl rfl rfl (fun S hS hd => (.cons (hS _ _ rfl) (.cons (hd.1 rfl rfl _ _ rfl) (Sub.nil _)))) (fun F_48 X l_49 => ?_)) ?_
            · skip
              refine .offH hb40 rfl rfl rfl ?_
              exact .fin1 (Fz.le_refl _)
            refine .cons (.mk 33 undef [(1, (.slice p6 l_5.length k7)), (31, (.bool s22.2.1))] rfl rfl rfl rfl (fun S hS hd => (.cons (hS _ _ rfl) (.cons (hd.1 rfl rfl _ _ rfl) (Sub.nil _)))) (fun F_50 X l_51 => ?_)) ?_
            · skip
              refine .offH hb40 rfl rfl rfl ?_
              exact .fin1 (Fz.le_refl _)
            refine .cons (.mk 34 undef [(10, (.int .i64 s22.2.2)), (31, (.bool s22.2.1))] rfl rfl rfl rfl (fun S hS hd => (.cons (hS _ _ rfl) (.cons (hd.1 rfl rfl _ _ rfl) (Sub.nil _)))) (fun F_52 X l_53 => ?_)) ?_
            · skip
              refine .offH hb40 rfl rfl rfl ?_
              exact .fin1 (Fz.le_refl _)
            refine .cons (.mk 35 undef [(31, (.bool s22.2.1)), (33, undef), (34, undef)] rfl rfl rfl rfl (fun S hS hd => (.cons (hd.2.2.1 rfl rfl _ _ rfl) (.cons (hd.1 rfl rfl _ _ rfl) (.cons (hd.2.1 rfl rfl _ _ rfl) (Sub.nil _))))) (fun F_54 X l_55 => ?_)) ?_
            · skip
              refine .offH hb40 rfl rfl rfl ?_
              exact .fin1 (Fz.le_refl _)
            refine .cons (.mk 36 undef [(31, (.bool s22.2.1)), (35, undef)] rfl rfl rfl rfl (fun S hS hd => (.cons (hd.2.1 rfl rfl _ _ rfl) (.cons (hd.1 rfl rfl _ _ rfl) (Sub.nil _)))) (fun F_56 X l_57 => ?_)) ?_
            · skip
              refine .offH hb40 rfl rfl rfl ?_
              exact .fin1 (Fz.le_refl _)
            refine .cons (.mk 37 undef [(31, (.bool s22.2.1)), (32, undef), (36, undef)] rfl rfl rfl rfl (fun S hS hd => (.cons (hd.2.2.1 rfl rfl _ _ rfl) (.cons (hd.1 rfl rfl _ _ rfl) (.cons (hd.2.1 rfl rfl _ _ rfl) (Sub.nil _))))) (fun F_58 X l_59 => ?_)) ?_
            · skip
              refine .offH hb40 rfl rfl rfl ?_
              exact .fin1 (Fz.le_refl _)
            refine .cons (.mk 38 undef [(31, (.bool s22.2.1)), (37, undef)] rfl rfl rfl rfl (fun S hS hd => (.cons (hd.2.1 rfl rfl _ _ rfl) (.cons (hd.1 rfl rfl _ _ rfl) (Sub.nil _)))) (fun F_60 X l_61 => ?_)) ?_
            · skip
              refine .offH hb40 rfl rfl rfl ?_
              exact .fin1 (Fz.le_refl _)
            refine .cons (.mk 39 (.bool true) [(31, (.bool s22.2.1)), (38, undef)] rfl rfl rfl rfl (fun S hS hd => (.cons (hd.1 rfl rfl _ _ rfl) (.cons (hd.2.1 rfl rfl _ _ rfl) (Sub.nil _)))) (fun F_62 X l_63 => ?_)) ?_
            · skip
              refine .pickTH hb40  rfl rfl rfl ?_
              exact .fin1 (Fz.le_refl _)
            exact .nil
          refine .assign rfl rfl ?_
          refine .nil ?_
          exact .nil fun e a w h => by cases e; exact ⟨rfl, ⟨F_41, l_43, h.1.sub (.cons (k := 1) rfl (.cons (k := 3) rfl (.cons (k := 5) rfl (.cons (k := 7) rfl (.cons (k := 8) rfl (.cons (k := 9) rfl (.cons (k := 10) rfl (.nil _)))))))), h.2⟩⟩
        · skip
          refine .bind (fun x64 e70 => ?_)
          obtain ⟨b65, o66, T67, fr68, cs69, hm71, hv72, hq73⟩ := RepSl.idxE (h8.mono (Fz.le_trans l_12 (Fz.le_trans l_16 (Fz.le_trans l_19 l_24)))) e70
          refine .bind (fun r_76 hx77 => ?_)
          refine .draw ⟨1000000, 0, [], 0⟩ [(30, (.bool s22.2.1)), (31, (.bool s22.2.1)), (32, (eApiBatch b1 p2 k3)), (33, (.slice p6 l_5.length k7)), (34, (.int .i64 s22.2.2)), (35, (.pointer (some ⟨b65, o66, none⟩))), (36, (eApiClaim x64)), (37, (.bool r_76)), (38, (.bool (!r_76))), (39, (.bool (!r_76)))] mixedOK (by kernel_rfl) (by kernel_rfl) rfl (by kernel_rfl) ?_ (fun F_78 b79 l_80 => ?_)
          · skip
            refine .cons (.mk 30 (.bool s22.2.1) [(9, (.bool s22.2.1))] rfl rfl rfl rfl (fun S hS hd => (.cons (hS _ _ rfl) (Sub.nil _))) (fun F_81 X l_82 => ?_)) ?_
            · skip
              refine .move rfl rfl ?_
              exact .fin1 (Fz.le_refl _)
            refine .cons (.mk 31 (.bool s22.2.1) [(30, (.bool s22.2.1))] rfl rfl rfl rfl (fun S hS hd => (.cons (hd.1 rfl rfl _ _ rfl) (Sub.nil _))) (fun F_83 X l_84 => ?_)) ?_
            · skip
              refine .move rfl rfl ?_
              exact .fin1 (Fz.le_refl _)
            refine .cons (.mk 32 (eApiBatch b1 p2 k3) [(3, (.pointer (some ⟨b10, 0, none⟩))), (31, (.bool s22.2.1))] rfl rfl rfl rfl (fun S hS hd => (.cons (hS _ _ rfl) (.cons (hd.1 rfl rfl _ _ rfl) (Sub.nil _)))) (fun F_85 X l_86 => ?_)) ?_
            · skip
              refine .onH hb40 rfl rfl ?_
              refine .loadFA rfl Try.isAgg38 Try.sizeOf38 rfl ((Fz.le_trans l_16 (Fz.le_trans l_19 (Fz.le_trans l_24 l_86))).mem _ _ hb13) (vs := (cApiBatch b1 p2 k3)) (by kernel_rfl) rfl ?_
              exact .fin1 (Fz.le_refl _)
            refine .cons (.mk 33 (.slice p6 l_5.length k7) [(1, (.slice p6 l_5.length k7)), (31, (.bool s22.2.1))] rfl rfl rfl rfl (fun S hS hd => (.cons (hS _ _ rfl) (.cons (hd.1 rfl rfl _ _ rfl) (Sub.nil _)))) (fun F_87 X l_88 => ?_)) ?_
            · skip
              refine .onH hb40 rfl rfl ?_
              refine .move rfl rfl ?_
              exact .fin1 (Fz.le_refl _)
            refine .cons (.mk 34 (.int .i64 s22.2.2) [(10, (.int .i64 s22.2.2)), (31, (.bool s22.2.1))] rfl rfl rfl rfl (fun S hS hd => (.cons (hS _ _ rfl) (.cons (hd.1 rfl rfl _ _ rfl) (Sub.nil _)))) (fun F_89 X l_90 => ?_)) ?_
            · skip
              refine .onH hb40 rfl rfl ?_
              refine .move rfl rfl ?_
              exact .fin1 (Fz.le_refl _)
            refine .cons (.mk 35 (.pointer (some ⟨b65, o66, none⟩)) [(31, (.bool s22.2.1)), (33, (.slice p6 l_5.length k7)), (34, (.int .i64 s22.2.2))] rfl rfl rfl rfl (fun S hS hd => (.cons (hd.2.2.1 rfl rfl _ _ rfl) (.cons (hd.1 rfl rfl _ _ rfl) (.cons (hd.2.1 rfl rfl _ _ rfl) (Sub.nil _))))) (fun F_91 X l_92 => ?_)) ?_
            · skip
              refine .onH hb40 rfl rfl ?_
              refine .idxQ rfl Try.underlying39 Try.sizeOf46 hq73 rfl rfl ?_
              exact .fin1 (Fz.le_refl _)
            refine .cons (.mk 36 (eApiClaim x64) [(31, (.bool s22.2.1)), (35, (.pointer (some ⟨b65, o66, none⟩)))] rfl rfl rfl rfl (fun S hS hd => (.cons (hd.2.1 rfl rfl _ _ rfl) (.cons (hd.1 rfl rfl _ _ rfl) (Sub.nil _)))) (fun F_93 X l_94 => ?_)) ?_
            · skip
              refine .onH hb40 rfl rfl ?_
              refine .loadFA rfl Try.isAgg46 Try.sizeOf46 rfl (l_94.mem _ _ hm71) hv72 rfl ?_
              exact .fin1 (Fz.le_refl _)
            refine .cons (.mk 37 (.bool r_76) [(31, (.bool s22.2.1)), (32, (eApiBatch b1 p2 k3)), (36, (eApiClaim x64))] rfl rfl rfl rfl (fun S hS hd => (.cons (hd.2.2.1 rfl rfl _ _ rfl) (.cons (hd.1 rfl rfl _ _ rfl) (.cons (hd.2.1 rfl rfl _ _ rfl) (Sub.nil _))))) (fun F_95 X l_96 => ?_)) ?_
            · skip
              refine .onH hb40 rfl rfl ?_
              refine .callK hx77 rfl Try.call61 rfl rfl rfl (c_wormtubref12_True _ b1 p2 k3 (h4.mono (Fz.le_trans l_12 (Fz.le_trans l_16 (Fz.le_trans l_19 (Fz.le_trans l_24 l_96))))) x64) ?_
              rintro F_97 _ l_98 rfl
              exact .fin1 l_98
            refine .cons (.mk 38 (.bool (!r_76)) [(31, (.bool s22.2.1)), (37, (.bool r_76))] rfl rfl rfl rfl (fun S hS hd => (.cons (hd.2.1 rfl rfl _ _ rfl) (.cons (hd.1 rfl rfl _ _ rfl) (Sub.nil _)))) (fun F_99 X l_100 => ?_)) ?_
            · skip
              refine .onH hb40 rfl rfl ?_
              refine .not rfl rfl ?_
              exact .fin1 (Fz.le_refl _)
            refine .cons (.mk 39 (.bool (!r_76)) [(31, (.bool s22.2.1)), (38, (.bool (!r_76)))] rfl rfl rfl rfl (fun S hS hd => (.cons (hd.1 rfl rfl _ _ rfl) (.cons (hd.2.1 rfl rfl _ _ rfl) (Sub.nil _)))) (fun F_101 X l_102 => ?_)) ?_
            · skip
              refine .pickFH hb40  rfl rfl rfl ?_
              exact .fin1 (Fz.le_refl _)
            exact .nil
          refine .assignB rfl rfl (fun lie103 e104 => ?_)
          refine .nil ?_
          exact .nil fun e a w h => by cases e; exact ⟨rfl, ⟨F_78, l_80, h.1.sub (.cons (k := 1) rfl (.cons (k := 3) rfl (.cons (k := 5) rfl (.cons (k := 7) rfl (.cons (k := 8) rfl (.cons (k := 9) rfl (.cons (k := 10) rfl (.nil _)))))))), h.2⟩⟩
      refine .block ?_
      refine .code ?_
      refine .region ?_
      refine .move rfl rfl ?_
      refine .add rfl rfl rfl ?_
      refine .assignL rfl rfl (fun i108 e109 => ?_)
      refine .nil ?_
      exact .nil (LPost.norm fun a w h => ⟨F_106, (Fz.le_trans l_24 l_107), h.1.sub (.cons (k := 1) rfl (.cons (k := 3) rfl (.cons (k := 5) rfl (.cons (k := 7) rfl (.cons (k := 8) rfl (.cons (k := 9) rfl (.cons (k := 10) rfl (.nil _)))))))), h.2⟩)
    · skip
      refine .exitOut rfl (LPost.exit fun a w h => ⟨rfl, F_23, l_24, h.1.sub (.cons (k := 5) rfl (.cons (k := 7) rfl (.cons (k := 8) rfl (.cons (k := 9) rfl (.nil _))))), h.2⟩)
  · intro b110 hb0 hk e a w hD
    obtain ⟨rfl, F_111, l_112, hA⟩ := hD
    refine interp_exit rfl (GE.app ?_ hk a w hA)
    refine .code ?_
    refine .seq ?_
    refine .region ?_
    refine .fieldAddr rfl Try.underlying56 rfl Try.sizeOf36 rfl ?_
    refine .fieldAddr rfl Try.underlying36 rfl Try.sizeOf3 rfl ?_
    refine .loadO rfl Try.isAgg3 rfl (i := 0) rfl rfl ?_
    refine .fieldAddr rfl Try.underlying114 rfl Try.sizeOf3 rfl ?_
    refine .loadF rfl Try.isAgg3 rfl ((Fz.le_trans l_19 l_112).mem _ _ hb17) rfl ?_
    refine .lss rfl rfl rfl ?_
    refine .fieldAddr rfl Try.underlying56 rfl Try.sizeOf36 rfl ?_
    refine .fieldAddr rfl Try.underlying36 rfl Try.sizeOf3 rfl ?_
    refine .loadO rfl Try.isAgg3 rfl (i := 0) rfl rfl ?_
    refine .fieldAddr rfl Try.underlying114 rfl Try.sizeOf3 rfl ?_
    refine .loadF rfl Try.isAgg3 rfl ((Fz.le_trans l_19 l_112).mem _ _ hb17) rfl ?_
    refine .gtr rfl rfl rfl ?_
    refine .fieldAddr rfl Try.underlying56 rfl Try.sizeOf3 rfl ?_
    refine .loadO rfl Try.isAgg3 rfl (i := 0) rfl rfl ?_
    refine .fieldAddr rfl Try.underlying114 rfl Try.sizeOf3 rfl ?_
    refine .loadF rfl Try.isAgg3 rfl ((Fz.le_trans l_19 l_112).mem _ _ hb17) rfl ?_
    refine .lss rfl rfl rfl ?_
    refine .move rfl rfl ?_
    refine .fieldAddr rfl Try.underlying114 rfl Try.sizeOf3 rfl ?_
    refine .loadF rfl Try.isAgg3 rfl ((Fz.le_trans l_19 l_112).mem _ _ hb17) rfl ?_
    refine .andI rfl rfl rfl ?_
    refine .fieldAddr rfl Try.underlying114 rfl Try.sizeOf3 rfl ?_
    refine .loadF rfl Try.isAgg3 rfl ((Fz.le_trans l_19 l_112).mem _ _ hb17) rfl ?_
    refine .neq rfl rfl rfl ?_
    refine .move rfl rfl ?_
    refine .fieldAddr rfl Try.underlying114 rfl Try.sizeOf3 rfl ?_
    refine .loadF rfl Try.isAgg3 rfl ((Fz.le_trans l_19 l_112).mem _ _ hb17) rfl ?_
    refine .andI rfl rfl rfl ?_
    refine .neq rfl rfl rfl ?_
    refine .move rfl rfl ?_
    refine .sliceLit (cs := [.bool (decide (r_20.Strength.Lo < r_9.Least)), .bool (decide (r_20.Strength.Hi > r_9.Most)), .bool (decide (r_20.Age < r_9.Age)), .bool ((andK .i64 b110.1 r_9.Must) != r_9.Must), .bool ((andK .i64 b110.1 r_9.Never) != 0), .bool b110.2]) (zc := [.bool false, .bool false, .bool false, .bool false, .bool false, .bool false]) rfl Try.underlying135 Try.sizeOf4 Try.zeroValue4 rfl rfl rfl (by kernel_rfl) (by kernel_rfl) (fun b113 F_114 l_115 hb116 => ?_)
    have h117 : RepSl 1 (Ex cBool) F_114 (some ⟨b113, 0, none⟩) 6 ([(decide (r_20.Strength.Lo < r_9.Least)), (decide (r_20.Strength.Hi > r_9.Most)), (decide (r_20.Age < r_9.Age)), ((andK .i64 b110.1 r_9.Must) != r_9.Must), ((andK .i64 b110.1 r_9.Never) != 0), b110.2]) := RepSl.ofRow hb116 (.cons ok_t4.mono rfl (.cons ok_t4.mono rfl (.cons ok_t4.mono rfl (.cons ok_t4.mono rfl (.cons ok_t4.mono rfl (.cons ok_t4.mono rfl .nil)))))) rfl rfl
    refine .assign rfl rfl ?_
    refine .nil ?_
    refine .keep (.cons (k := 11) rfl (.nil _)) ?_
    refine .code ?_
    refine .seq ?_
    refine .region ?_
    refine .assign rfl rfl ?_
    refine .nil ?_
    refine .code ?_
    refine .seq ?_
    refine .seq ?_
    refine .region ?_
    refine .assign rfl rfl ?_
    refine .nil ?_
    refine .code ?_
    refine .block ?_
    refine .ownNil 1 (Ex (cInt .i64)) 3 ?_
    refine .keep (.cons (k := 11) rfl (.cons (k := 12) rfl (.cons (k := 13) rfl (.nil _)))) ?_
    refine .loop (fun (s119 : (List Int) × Int) a w => ∃ (F_120 : Fz) (p122 : Option Addr) (k123 : Nat), F_114 ≤ F_120 ∧ Hd 86 [] [(11, (.slice (some ⟨b113, 0, none⟩) ([(decide (r_20.Strength.Lo < r_9.Least)), (decide (r_20.Strength.Hi > r_9.Most)), (decide (r_20.Age < r_9.Age)), ((andK .i64 b110.1 r_9.Must) != r_9.Must), ((andK .i64 b110.1 r_9.Never) != 0), b110.2]).length 6)), (12, (.slice p122 s119.1.length k123)), (13, (.int .i64 s119.2))] F_120 [ownSl 1 (Ex (cInt .i64)) F_120 3 p122 k123 s119.1, pt b21 (.cells (cApiBottling r_20).toArray 56), R] a w) (fun b160 e a w => e = .exit 2 ∧ ∃ (F_161 : Fz) (p163 : Option Addr) (k164 : Nat), F_114 ≤ F_161 ∧ Hd 86 [] [(12, (.slice p163 b160.length k164))] F_161 [ownSl 1 (Ex (cInt .i64)) F_161 3 p163 k164 b160, pt b21 (.cells (cApiBottling r_20).toArray 56), R] a w) ?_ ?_ ?_
    · exact fun a w h => ⟨F_114, none, 0, (Fz.le_refl _), h.1.sub (.cons (k := 11) rfl (.cons (k := 12) rfl (.cons (k := 13) rfl (.nil _)))), h.2⟩
    · intro s119 ctl
      refine GC.ex (fun a w ⟨F_120, p122, k123, l_121, hA⟩ => ⟨_, hA, ?_⟩)
      unfold b_wormtubref12_problems_2
      refine .seq ?_
      refine .seq ?_
      refine .region ?_
      refine .move rfl rfl ?_
      refine .move rfl rfl ?_
      refine .lenS rfl rfl Try.underlying135 rfl ?_
      refine .lss rfl rfl rfl ?_
      refine .nil ?_
      refine .code ?_
      refine .cond rfl (fun hb125 => ?_) (fun hb125 => ?_)
      · skip
        refine .skip ?_
        refine .code ?_
        refine .seq ?_
        refine .keep (.cons (k := 11) rfl (.cons (k := 12) rfl (.cons (k := 13) rfl (.nil _)))) ?_
        refine GC.join0 (σ := (List Int)) (fun j152 a w => ∃ (F_153 : Fz) (p155 : Option Addr) (k156 : Nat), F_120 ≤ F_153 ∧ Hd 86 [] [(11, (.slice (some ⟨b113, 0, none⟩) ([(decide (r_20.Strength.Lo < r_9.Least)), (decide (r_20.Strength.Hi > r_9.Most)), (decide (r_20.Age < r_9.Age)), ((andK .i64 b110.1 r_9.Must) != r_9.Must), ((andK .i64 b110.1 r_9.Never) != 0), b110.2]).length 6)), (12, (.slice p155 j152.length k156)), (13, (.int .i64 s119.2))] F_153 [ownSl 1 (Ex (cInt .i64)) F_153 3 p155 k156 j152, pt b21 (.cells (cApiBottling r_20).toArray 56), R] a w) (fun sj => ?_) (fun j152 hs0 => GE.ex (fun a w ⟨F_153, p155, k156, l_154, hA⟩ => ⟨_, hA, ?_⟩))
        · skip
          refine .block ?_
          refine .seq ?_
          refine .region ?_
          refine .move rfl rfl ?_
          refine .move rfl rfl ?_
          refine .idx rfl Try.underlying135 Try.sizeOf4 (h117.mono l_121) rfl rfl (fun x126 b127 o128 T129 fr130 cs131 e132 hm133 hv134 => ?_)
          refine .loadF rfl Try.isAgg4 rfl hm133 (cell_of_take (k := 0) hv134 rfl) ?_
          refine .nil ?_
          refine .code ?_
          refine .keep (.cons (k := 11) rfl (.cons (k := 12) rfl (.cons (k := 13) rfl (.cons (k := 80) rfl (.nil _))))) ?_
          refine GC.join0 (σ := (List Int)) (fun j146 a w => ∃ (F_147 : Fz) (p149 : Option Addr) (k150 : Nat), F_120 ≤ F_147 ∧ Hd 86 [] [(11, (.slice (some ⟨b113, 0, none⟩) ([(decide (r_20.Strength.Lo < r_9.Least)), (decide (r_20.Strength.Hi > r_9.Most)), (decide (r_20.Age < r_9.Age)), ((andK .i64 b110.1 r_9.Must) != r_9.Must), ((andK .i64 b110.1 r_9.Never) != 0), b110.2]).length 6)), (12, (.slice p149 j146.length k150)), (13, (.int .i64 s119.2))] F_147 [ownSl 1 (Ex (cInt .i64)) F_147 3 p149 k150 j146, pt b21 (.cells (cApiBottling r_20).toArray 56), R] a w) (fun sj => ?_) (fun j146 hs0 => GE.ex (fun a w ⟨F_147, p149, k150, l_148, hA⟩ => ⟨_, hA, ?_⟩))
          · skip
            refine .cond rfl (fun hb136 => ?_) (fun hb136 => ?_)
            · skip
              refine .region ?_
              refine .move rfl rfl ?_
              refine .move rfl rfl ?_
              refine .sliceLit (cs := [.int .i64 s119.2]) (zc := [.int .i64 0]) rfl Try.underlying40 Try.sizeOf3 Try.zeroValue3 rfl rfl rfl (by kernel_rfl) (by kernel_rfl) (fun b137 F_138 l_139 hb140 => ?_)
              have h141 : RepSl 1 (Ex (cInt .i64)) F_138 (some ⟨b137, 0, none⟩) 1 ([s119.2]) := RepSl.ofRow hb140 (.cons ok_t3.mono rfl .nil) rfl rfl
              refine .append 0 ok_t3 l_139 rfl Try.underlying40 Try.underlying40 rfl rfl rfl h141 rfl rfl (fun l_142 p143 k144 e145 => ?_)
              refine .assign rfl rfl ?_
              refine .nil ?_
              exact .nil fun e a w h => by cases e; exact ⟨rfl, ⟨F_138, p143, k144, l_139, h.1.sub (.cons (k := 11) rfl (.cons (k := 12) rfl (.cons (k := 13) rfl (.nil _)))), h.2⟩⟩
            · skip
              refine .skip ?_
              exact .nil fun e a w h => by cases e; exact ⟨rfl, ⟨F_120, p122, k123, (Fz.le_refl _), h.1.sub (.cons (k := 11) rfl (.cons (k := 12) rfl (.cons (k := 13) rfl (.nil _)))), h.2⟩⟩
          refine .block ?_
          exact .nil fun e a w h => by cases e; exact ⟨rfl, ⟨F_147, p149, k150, l_148, h.1.sub (.cons (k := 11) rfl (.cons (k := 12) rfl (.cons (k := 13) rfl (.nil _)))), h.2⟩⟩
        refine .code ?_
        refine .region ?_
        refine .move rfl rfl ?_
        refine .add rfl rfl rfl ?_
        refine .assignL rfl rfl (fun i158 e159 => ?_)
        refine .nil ?_
        exact .nil (LPost.norm fun a w h => ⟨F_153, p155, k156, (Fz.le_trans l_121 l_154), h.1.sub (.cons (k := 11) rfl (.cons (k := 12) rfl (.cons (k := 13) rfl (.nil _)))), h.2⟩)
      · skip
        refine .exitOut rfl (LPost.exit fun a w h => ⟨rfl, F_120, p122, k123, l_121, h.1.sub (.cons (k := 12) rfl (.nil _)), h.2⟩)
    · intro b160 hb0 hk e a w hD
      obtain ⟨rfl, F_161, p163, k164, l_162, hA⟩ := hD
      refine interp_exit rfl (GE.app ?_ hk a w hA)
      refine .code ?_
      refine .seq ?_
      refine .region ?_
      refine .move rfl rfl ?_
      refine .assign rfl rfl ?_
      refine .nil ?_
      refine .code ?_
      refine .freezeSl 0 rfl (Fz.le_refl _) (fun F_166 l_167 h168 => ?_)
      exact .ret0 Try.results70 (.tmp rfl (.nil)) (i := 1) rfl (Fz.le_trans l_12 (Fz.le_trans l_16 (Fz.le_trans l_19 (Fz.le_trans l_112 (Fz.le_trans l_115 (Fz.le_trans l_162 l_167)))))) ⟨p163, k164, rfl, h168⟩

noncomputable def b_wormtubref12_Problems_1 (b1 : ApiBatch) (l_5 : (List ApiClaim)) (rules9 : (List ApiLabelRule)) (country13 : Int) (s40 : Int) : Option (Ctl (Int) ((Unit) ⊕ ((List Int) × Int))) :=
  if (decide (s40 < (rules9.length : Int))) then ((idxL rules9 s40).bind fun x44 => if (x44.Country == country13) then ((idxL rules9 s40).bind fun x56 => (m_wormtubref12_problems b1 l_5 x56).bind fun r_68 => some (.done (.inr (r_68, 0)))) else (bindv (w64 (s40 + 1)) fun i95 => some (.next i95))) else (some (.done (.inl ())))
noncomputable def m_wormtubref12_Problems (b1 : ApiBatch) (l_5 : (List ApiClaim)) (rules9 : (List ApiLabelRule)) (country13 : Int) : Option ((List Int) × Int) :=
  (m_wormtubref12_Batch b1).bind fun r_20 => (if (!r_20) then some true else ((m_wormtubref12_Claims l_5).bind fun r_24 => some (!r_24))).bind fun z28 => (if z28 then some true else ((m_wormtubref12_Rules rules9).bind fun r_33 => some (!r_33))).bind fun z37 => if z37 then (some ([], 1)) else ((loopM (b_wormtubref12_Problems_1 b1 l_5 rules9 country13) 0).bind fun b0 => match b0 with | .inl _b97 => (some ([], 4)) | .inr b97 => (some (b97.1, b97.2)))
theorem c_wormtubref12_Problems (F0 : Fz) (b1 : ApiBatch) (p2 : Option Addr) (k3 : Nat) (h4 : RepSl 27 (Ex cApiDraught) F0 p2 k3 b1.Draughts) (l_5 : (List ApiClaim)) (p6 : Option Addr) (k7 : Nat) (h8 : RepSl 3 (Ex cApiClaim) F0 p6 k7 l_5) (rules9 : (List ApiLabelRule)) (p10 : Option Addr) (k11 : Nat) (h12 : RepSl 6 (Ex cApiLabelRule) F0 p10 k11 rules9) (country13 : Int) : CT0 Try.prog 30 [(eApiBatch b1 p2 k3), (.slice p6 l_5.length k7), (.slice p10 rules9.length k11), (.int .i64 country13)].toArray F0 (m_wormtubref12_Problems b1 l_5 rules9 country13) (fun r F v => ∃ p0 k0, v = .tuple #[(.slice p0 r.1.length k0), (.int .i64 r.2)] ∧ RepSl 1 (Ex (cInt .i64)) F p0 k0 r.1) := by
  refine CT0.enter Try.func30 rfl Try.ntmps30 rfl fun r R => ?_
  unfold m_wormtubref12_Problems
  refine .seq ?_
  refine .region ?_
  refine .boxF (cs := (cApiBatch b1 p2 k3)) rfl rfl rfl (fun b14 F_15 l_16 hb17 => ?_)
  refine .assign rfl rfl ?_
  refine .assign rfl rfl ?_
  refine .nil ?_
  refine .code ?_
  refine .seq ?_
  refine .seq ?_
  refine .region ?_
  refine .loadFA rfl Try.isAgg38 Try.sizeOf38 rfl hb17 (vs := (cApiBatch b1 p2 k3)) (by kernel_rfl) rfl ?_
  refine .call0 rfl Try.call18 rfl rfl rfl (c_wormtubref12_Batch _ b1 p2 k3 (h4.mono l_16)) ?_
  rintro r_20 F_18 _ - l_19 rfl
  refine .not rfl rfl ?_
  refine .move rfl rfl ?_
  refine .orM (b := (!r_20)) 4 18 (fun hb21 z29 => ?_) (fun hb25 => ?_) (fun z28 F_26 l_27 => ?_)
  · skip
    refine .onH hb21 rfl rfl ?_
    refine .move rfl rfl ?_
    refine .onH hb21 rfl rfl ?_
    refine .call0 rfl Try.call19 rfl rfl rfl (c_wormtubref12_Claims _ l_5 p6 k7 (h8.mono (Fz.le_trans l_16 l_19))) ?_
    rintro r_24 F_22 _ - l_23 rfl
    refine .onH hb21 rfl rfl ?_
    refine .not rfl rfl ?_
    refine .pickFH hb21 rfl rfl rfl ?_
    exact .finZ 4 rfl rfl (by kernel_rfl) l_23
  · skip
    refine .offH hb25 rfl rfl rfl ?_
    refine .offH hb25 rfl rfl rfl ?_
    refine .offH hb25 rfl rfl rfl ?_
    refine .pickTH hb25 rfl rfl rfl ?_
    exact .fin 4 rfl rfl (by kernel_rfl) (Fz.le_refl _)
  refine .move rfl rfl ?_
  refine .orM (b := z28) 4 23 (fun hb30 z38 => ?_) (fun hb34 => ?_) (fun z37 F_35 l_36 => ?_)
  · skip
    refine .onH hb30 rfl rfl ?_
    refine .move rfl rfl ?_
    refine .onH hb30 rfl rfl ?_
    refine .call0 rfl Try.call69 rfl rfl rfl (c_wormtubref12_Rules _ rules9 p10 k11 (h12.mono (Fz.le_trans l_16 (Fz.le_trans l_19 l_27)))) ?_
    rintro r_33 F_31 _ - l_32 rfl
    refine .onH hb30 rfl rfl ?_
    refine .not rfl rfl ?_
    refine .pickFH hb30 rfl rfl rfl ?_
    exact .finZ 4 rfl rfl (by kernel_rfl) l_32
  · skip
    refine .offH hb34 rfl rfl rfl ?_
    refine .offH hb34 rfl rfl rfl ?_
    refine .offH hb34 rfl rfl rfl ?_
    refine .pickTH hb34 rfl rfl rfl ?_
    exact .fin 4 rfl rfl (by kernel_rfl) (Fz.le_refl _)
  refine .nil ?_
  refine .code ?_
  refine .cond rfl (fun hb39 => ?_) (fun hb39 => ?_)
  · skip
    refine .seq ?_
    refine .region ?_
    refine .assign rfl rfl ?_
    refine .assign rfl rfl ?_
    refine .nil ?_
    refine .code ?_
    exact .ret0 Try.results30 (.tmp rfl (.tmp rfl (.nil))) (i := 0) rfl (Fz.le_trans l_16 (Fz.le_trans l_19 (Fz.le_trans l_27 l_36))) ⟨none, 0, rfl, (RepSl.nil.mono (Fz.le_trans l_16 (Fz.le_trans l_19 (Fz.le_trans l_27 l_36))))⟩
  · skip
    refine .skip ?_
    refine .code ?_
    refine .seq ?_
    refine .seq ?_
    refine .region ?_
    refine .assign rfl rfl ?_
    refine .nil ?_
    refine .code ?_
    refine .block ?_
    refine .keep (.cons (k := 1) rfl (.cons (k := 2) rfl (.cons (k := 3) rfl (.cons (k := 4) rfl (.cons (k := 10) rfl (.nil _)))))) ?_
    refine .loop (fun (s40 : Int) a w => ∃ (F_41 : Fz), F_35 ≤ F_41 ∧ Hd 44 [] [(1, (.slice p6 l_5.length k7)), (2, (.slice p10 rules9.length k11)), (3, (.int .i64 country13)), (4, (.pointer (some ⟨b14, 0, none⟩))), (10, (.int .i64 s40))] F_41 [R] a w) (fun b0 e a w => match b0 with | .inl b97 => e = .exit 0 ∧ ∃ (F_98 : Fz), F_35 ≤ F_98 ∧ Hd 44 [] [] F_98 [R] a w | .inr b97 => e = .ret ∧ ∃ (F_100 : Fz) (p102 : Option Addr) (k103 : Nat), F_35 ≤ F_100 ∧ RepSl 1 (Ex (cInt .i64)) F_100 p102 k103 b97.1 ∧ Hd 44 [] [(8, (.slice p102 b97.1.length k103)), (9, (.int .i64 b97.2))] F_100 [R] a w) ?_ ?_ ?_
    · exact fun a w h => ⟨F_35, (Fz.le_refl _), h.1.sub (.cons (k := 1) rfl (.cons (k := 2) rfl (.cons (k := 3) rfl (.cons (k := 4) rfl (.cons (k := 10) rfl (.nil _)))))), h.2⟩
    · intro s40 ctl
      refine GC.ex (fun a w ⟨F_41, l_42, hA⟩ => ⟨_, hA, ?_⟩)
      unfold b_wormtubref12_Problems_1
      refine .seq ?_
      refine .seq ?_
      refine .region ?_
      refine .move rfl rfl ?_
      refine .move rfl rfl ?_
      refine .lenS rfl rfl Try.underlying75 rfl ?_
      refine .lss rfl rfl rfl ?_
      refine .nil ?_
      refine .code ?_
      refine .cond rfl (fun hb43 => ?_) (fun hb43 => ?_)
      · skip
        refine .skip ?_
        refine .code ?_
        refine .seq ?_
        refine .block ?_
        refine .seq ?_
        refine .region ?_
        refine .move rfl rfl ?_
        refine .move rfl rfl ?_
        refine .idx rfl Try.underlying75 Try.sizeOf114 (h12.mono (Fz.le_trans l_16 (Fz.le_trans l_19 (Fz.le_trans l_27 (Fz.le_trans l_36 l_42))))) rfl rfl (fun x44 b45 o46 T47 fr48 cs49 e50 hm51 hv52 => ?_)
        refine .fieldAddr rfl Try.underlying114 rfl Try.sizeOf3 rfl ?_
        refine .loadF rfl Try.isAgg3 rfl hm51 (cell_of_take (k := 0) hv52 rfl) ?_
        refine .move rfl rfl ?_
        refine .eql rfl rfl rfl ?_
        refine .nil ?_
        refine .code ?_
        refine .cond rfl (fun hb54 => ?_) (fun hb54 => ?_)
        · skip
          refine .seq ?_
          refine .keep (.cons (k := 1) rfl (.cons (k := 2) rfl (.cons (k := 4) rfl (.cons (k := 10) rfl (.nil _))))) ?_
          refine .bind (fun x56 e62 => ?_)
          obtain ⟨b57, o58, T59, fr60, cs61, hm63, hv64, hq65⟩ := RepSl.idxE (h12.mono (Fz.le_trans l_16 (Fz.le_trans l_19 (Fz.le_trans l_27 (Fz.le_trans l_36 l_42))))) e62
          refine .bind (fun r_68 hx73 => ?_)
          refine .drawG 7 0 (fun env55 => [((eApiBatch b1 p2 k3), fun _ => True), ((.slice p6 l_5.length k7), fun _ => True), ((.slice p10 rules9.length k11), fun _ => True), ((.int .i64 s40), fun _ => True), ((.pointer (some ⟨b57, o58, none⟩)), fun _ => True), ((eApiLabelRule x56), fun _ => True), ((.slice (env55.a 60) r_68.length (env55.n 60)), fun G => RepSl 1 (Ex (cInt .i64)) G (env55.a 60) (env55.n 60) r_68)]) (fun L env55 => [R]) mixedOK (by kernel_rfl) (by kernel_rfl) rfl (fun _ => rfl) (by kernel_rfl) (fun _ => rfl) ?_ (fun env55 F_74 l_75 hphi => ?_)
          · skip
            refine .cons (fun L env55 F_76 l_77 hL hdn hup hphi => ⟨[(4, (.pointer (some ⟨b14, 0, none⟩)))], fun S hS hV => (.cons (hS _ _ rfl) (Sub.nil _)), ?_⟩) ?_
            · skip
              refine .loadFA rfl Try.isAgg38 Try.sizeOf38 rfl ((Fz.le_trans l_19 (Fz.le_trans l_27 (Fz.le_trans l_36 (Fz.le_trans l_42 l_77)))).mem _ _ hb17) (vs := (cApiBatch b1 p2 k3)) (by kernel_rfl) rfl ?_
              exact .finV rfl rfl (Fz.le_refl _)
            refine .cons (fun L env55 F_78 l_79 hL hdn hup hphi => ⟨[(1, (.slice p6 l_5.length k7))], fun S hS hV => (.cons (hS _ _ rfl) (Sub.nil _)), ?_⟩) ?_
            · skip
              refine .move rfl rfl ?_
              exact .finV rfl rfl (Fz.le_refl _)
            refine .cons (fun L env55 F_80 l_81 hL hdn hup hphi => ⟨[(2, (.slice p10 rules9.length k11))], fun S hS hV => (.cons (hS _ _ rfl) (Sub.nil _)), ?_⟩) ?_
            · skip
              refine .move rfl rfl ?_
              exact .finV rfl rfl (Fz.le_refl _)
            refine .cons (fun L env55 F_82 l_83 hL hdn hup hphi => ⟨[(10, (.int .i64 s40))], fun S hS hV => (.cons (hS _ _ rfl) (Sub.nil _)), ?_⟩) ?_
            · skip
              refine .move rfl rfl ?_
              exact .finV rfl rfl (Fz.le_refl _)
            refine .cons (fun L env55 F_84 l_85 hL hdn hup hphi => ⟨[(39, (.slice p10 rules9.length k11)), (40, (.int .i64 s40))], fun S hS hV => (.cons (hV 2 39 _ (hdn 1 2 rfl) rfl rfl) (.cons (hV 3 40 _ (hdn 1 3 rfl) rfl rfl) (Sub.nil _))), ?_⟩) ?_
            · skip
              refine .idxQ rfl Try.underlying75 Try.sizeOf114 hq65 rfl rfl ?_
              exact .finV rfl rfl (Fz.le_refl _)
            refine .cons (fun L env55 F_86 l_87 hL hdn hup hphi => ⟨[(41, (.pointer (some ⟨b57, o58, none⟩)))], fun S hS hV => (.cons (hV 4 41 _ (hdn 1 4 rfl) rfl rfl) (Sub.nil _)), ?_⟩) ?_
            · skip
              refine .loadFA rfl Try.isAgg114 Try.sizeOf114 rfl (l_87.mem _ _ hm63) hv64 rfl ?_
              exact .finV rfl rfl (Fz.le_refl _)
            refine .cons (fun L env55 F_88 l_89 hL hdn hup hphi => ⟨[(37, (eApiBatch b1 p2 k3)), (38, (.slice p6 l_5.length k7)), (42, (eApiLabelRule x56))], fun S hS hV => (.cons (hV 0 37 _ (hdn 1 0 rfl) rfl rfl) (.cons (hV 1 38 _ (hdn 1 1 rfl) rfl rfl) (.cons (hV 5 42 _ (hdn 1 5 rfl) rfl rfl) (Sub.nil _)))), ?_⟩) ?_
            · skip
              refine .callK hx73 rfl Try.call70 rfl rfl rfl (c_wormtubref12_problems _ b1 p2 k3 (h4.mono (Fz.le_trans l_16 (Fz.le_trans l_19 (Fz.le_trans l_27 (Fz.le_trans l_36 (Fz.le_trans l_42 l_89)))))) l_5 p6 k7 (h8.mono (Fz.le_trans l_16 (Fz.le_trans l_19 (Fz.le_trans l_27 (Fz.le_trans l_36 (Fz.le_trans l_42 l_89)))))) x56) ?_
              rintro F_90 _ l_91 ⟨p92, k93, rfl, h94⟩
              exact .finQ ({ env55 with a := (updN env55.a 60 p92), n := (updN env55.n 60 k93), c := env55.c }) [true, true, true, true, true, true, false] rfl (by kernel_rfl) rfl rfl l_91 (fun _ le => h94.mono le) (cons_eq rfl rfl)
            exact .nil
          have h72 := hphi 6 _ rfl
          refine .norm (S' := [(1, (.slice p6 l_5.length k7)), (2, (.slice p10 rules9.length k11)), (4, (.pointer (some ⟨b14, 0, none⟩))), (10, (.int .i64 s40)), (37, (eApiBatch b1 p2 k3)), (38, (.slice p6 l_5.length k7)), (39, (.slice p10 rules9.length k11)), (40, (.int .i64 s40)), (41, (.pointer (some ⟨b57, o58, none⟩))), (42, (eApiLabelRule x56)), (43, (.slice (env55.a 60) r_68.length (env55.n 60)))]) (.cons (k := 1) rfl (.cons (k := 2) rfl (.cons (k := 4) rfl (.cons (k := 10) rfl (.cons (k := 37) rfl (.cons (k := 38) rfl (.cons (k := 39) rfl (.cons (k := 40) rfl (.cons (k := 41) rfl (.cons (k := 42) rfl (.cons (k := 43) rfl (.nil _)))))))))))) (rfl : _ = [R]) ?_
          refine .assign rfl rfl ?_
          refine .assign rfl rfl ?_
          refine .nil ?_
          refine .code ?_
          refine .retQ (LPost.ret fun a w h => ⟨rfl, F_74, (env55.a 60), (env55.n 60), (Fz.le_trans l_42 l_75), h72, h.1.sub (.cons (k := 8) rfl (.cons (k := 9) rfl (.nil _))), h.2⟩)
        · skip
          refine .skip ?_
          refine .block ?_
          refine .code ?_
          refine .region ?_
          refine .move rfl rfl ?_
          refine .add rfl rfl rfl ?_
          refine .assignL rfl rfl (fun i95 e96 => ?_)
          refine .nil ?_
          exact .nil (LPost.norm fun a w h => ⟨F_41, l_42, h.1.sub (.cons (k := 1) rfl (.cons (k := 2) rfl (.cons (k := 3) rfl (.cons (k := 4) rfl (.cons (k := 10) rfl (.nil _)))))), h.2⟩)
      · skip
        refine .exitOut rfl (LPost.exit fun a w h => ⟨rfl, F_41, l_42, h.1.sub (.nil _), h.2⟩)
    · intro b97 hb0 hk e a w hD
      rcases b97 with b97 | b97
      · skip
        obtain ⟨rfl, F_98, l_99, hA⟩ := hD
        refine interp_exit rfl (GE.app ?_ hk a w hA)
        refine .code ?_
        refine .seq ?_
        refine .region ?_
        refine .assign rfl rfl ?_
        refine .assign rfl rfl ?_
        refine .nil ?_
        refine .code ?_
        exact .ret0 Try.results30 (.tmp rfl (.tmp rfl (.nil))) (i := 0) rfl (Fz.le_trans l_16 (Fz.le_trans l_19 (Fz.le_trans l_27 (Fz.le_trans l_36 l_99)))) ⟨none, 0, rfl, (RepSl.nil.mono (Fz.le_trans l_16 (Fz.le_trans l_19 (Fz.le_trans l_27 (Fz.le_trans l_36 l_99)))))⟩
      obtain ⟨rfl, F_100, p102, k103, l_101, h104, hA⟩ := hD
      exact interp_ret ((ret_post0 Try.results30 (.tmp rfl (.tmp rfl (.nil))) (i := 0) rfl (Fz.le_trans l_16 (Fz.le_trans l_19 (Fz.le_trans l_27 (Fz.le_trans l_36 l_101)))) ⟨p102, k103, rfl, h104⟩) hk a w hA)

noncomputable def m_wormtublaw12_BottleLabels (b1 : ApiBatch) (l_5 : (List ApiClaim)) (rules9 : (List ApiLabelRule)) (country13 : Int) : Option Bool :=
  if (((decide ((b1.Draughts.length : Int) > 20)) || (decide ((l_5.length : Int) > 40))) || (decide ((rules9.length : Int) > 70))) then ((m_wormtublaw12_awake).bind fun r_29 => some r_29) else ((m_bottle_False b1 l_5).bind fun r_32 => (m_wormtubref12_False b1 l_5).bind fun r_38 => (m_bottle_Problems b1 l_5 rules9 country13).bind fun r_44 => (m_wormtubref12_Problems b1 l_5 rules9 country13).bind fun r_50 => (m_wormtubref12_Ints r_32.1 r_38.1).bind fun r_56 => (if (r_56 && (r_32.2 == r_38.2)) then ((m_wormtubref12_Ints r_44.1 r_50.1).bind fun r_64 => some r_64) else some false).bind fun z68 => (if (z68 && (r_44.2 == r_50.2)) then ((m_wormtublaw12_awake).bind fun r_77 => some r_77) else some false).bind fun z81 => some z81)
theorem c_wormtublaw12_BottleLabels (F0 : Fz) (b1 : ApiBatch) (p2 : Option Addr) (k3 : Nat) (h4 : RepSl 27 (Ex cApiDraught) F0 p2 k3 b1.Draughts) (l_5 : (List ApiClaim)) (p6 : Option Addr) (k7 : Nat) (h8 : RepSl 3 (Ex cApiClaim) F0 p6 k7 l_5) (rules9 : (List ApiLabelRule)) (p10 : Option Addr) (k11 : Nat) (h12 : RepSl 6 (Ex cApiLabelRule) F0 p10 k11 rules9) (country13 : Int) : CT0 Try.prog 10 [(eApiBatch b1 p2 k3), (.slice p6 l_5.length k7), (.slice p10 rules9.length k11), (.int .i64 country13)].toArray F0 (m_wormtublaw12_BottleLabels b1 l_5 rules9 country13) (fun r _ v => v = (.bool r)) := by
  refine CT0.enter Try.func10 rfl Try.ntmps10 rfl fun r R => ?_
  unfold m_wormtublaw12_BottleLabels
  refine .seq ?_
  refine .region ?_
  refine .boxF (cs := (cApiBatch b1 p2 k3)) rfl rfl rfl (fun b14 F_15 l_16 hb17 => ?_)
  refine .assign rfl rfl ?_
  refine .nil ?_
  refine .code ?_
  refine .seq ?_
  refine .seq ?_
  refine .region ?_
  refine .fieldAddr rfl Try.underlying38 rfl Try.sizeOf34 rfl ?_
  refine .loadF rfl Try.isAgg34 rfl hb17 rfl ?_
  refine .lenS rfl rfl Try.underlying34 rfl ?_
  refine .gtr rfl rfl rfl ?_
  refine .move rfl rfl ?_
  refine .orP (b := (decide ((b1.Draughts.length : Int) > 20))) (b' := (decide ((l_5.length : Int) > 40))) 4 25 (fun hb18 => ?_) (fun hb19 => ?_) (fun F_20 l_21 => ?_)
  · skip
    refine .onH hb18 rfl rfl ?_
    refine .move rfl rfl ?_
    refine .onH hb18 rfl rfl ?_
    refine .lenS rfl rfl Try.underlying39 rfl ?_
    refine .onH hb18 rfl rfl ?_
    refine .gtr rfl rfl rfl ?_
    refine .pickFH hb18 rfl rfl rfl ?_
    exact .fin 4 rfl rfl (by kernel_rfl) (Fz.le_refl _)
  · skip
    refine .offH hb19 rfl rfl rfl ?_
    refine .offH hb19 rfl rfl rfl ?_
    refine .offH hb19 rfl rfl rfl ?_
    refine .pickTH hb19 rfl rfl rfl ?_
    exact .fin 4 rfl rfl (by kernel_rfl) (Fz.le_refl _)
  refine .move rfl rfl ?_
  refine .orP (b := ((decide ((b1.Draughts.length : Int) > 20)) || (decide ((l_5.length : Int) > 40)))) (b' := (decide ((rules9.length : Int) > 70))) 4 30 (fun hb22 => ?_) (fun hb23 => ?_) (fun F_24 l_25 => ?_)
  · skip
    refine .onH hb22 rfl rfl ?_
    refine .move rfl rfl ?_
    refine .onH hb22 rfl rfl ?_
    refine .lenS rfl rfl Try.underlying75 rfl ?_
    refine .onH hb22 rfl rfl ?_
    refine .gtr rfl rfl rfl ?_
    refine .pickFH hb22 rfl rfl rfl ?_
    exact .fin 4 rfl rfl (by kernel_rfl) (Fz.le_refl _)
  · skip
    refine .offH hb23 rfl rfl rfl ?_
    refine .offH hb23 rfl rfl rfl ?_
    refine .offH hb23 rfl rfl rfl ?_
    refine .pickTH hb23 rfl rfl rfl ?_
    exact .fin 4 rfl rfl (by kernel_rfl) (Fz.le_refl _)
  refine .nil ?_
  refine .code ?_
  refine .cond rfl (fun hb26 => ?_) (fun hb26 => ?_)
  · skip
    refine .seq ?_
    refine .region ?_
    refine .call0 rfl Try.call11 rfl rfl rfl (c_wormtublaw12_awake _ ) ?_
    rintro r_29 F_27 _ - l_28 rfl
    refine .assign rfl rfl ?_
    refine .nil ?_
    refine .code ?_
    exact .ret0 Try.results10 (.tmp rfl (.nil)) (i := 0) rfl (Fz.le_trans l_16 (Fz.le_trans l_21 (Fz.le_trans l_25 l_28))) rfl
  · skip
    refine .skip ?_
    refine .code ?_
    refine .seq ?_
    refine .region ?_
    refine .loadFA rfl Try.isAgg38 Try.sizeOf38 rfl ((Fz.le_trans l_21 l_25).mem _ _ hb17) (vs := (cApiBatch b1 p2 k3)) (by kernel_rfl) rfl ?_
    refine .move rfl rfl ?_
    refine .call0 rfl Try.call17 rfl rfl rfl (c_bottle_False _ b1 p2 k3 (h4.mono (Fz.le_trans l_16 (Fz.le_trans l_21 l_25))) l_5 p6 k7 (h8.mono (Fz.le_trans l_16 (Fz.le_trans l_21 l_25)))) ?_
    rintro r_32 F_30 _ - l_31 ⟨p33, k34, rfl, h35⟩
    refine .move rfl rfl ?_
    refine .extract rfl rfl rfl ?_
    refine .extract rfl rfl rfl ?_
    refine .assign rfl rfl ?_
    refine .assign rfl rfl ?_
    refine .nil ?_
    refine .code ?_
    refine .seq ?_
    refine .region ?_
    refine .loadFA rfl Try.isAgg38 Try.sizeOf38 rfl ((Fz.le_trans l_21 (Fz.le_trans l_25 l_31)).mem _ _ hb17) (vs := (cApiBatch b1 p2 k3)) (by kernel_rfl) rfl ?_
    refine .move rfl rfl ?_
    refine .call0 rfl Try.call28 rfl rfl rfl (c_wormtubref12_False _ b1 p2 k3 (h4.mono (Fz.le_trans l_16 (Fz.le_trans l_21 (Fz.le_trans l_25 l_31)))) l_5 p6 k7 (h8.mono (Fz.le_trans l_16 (Fz.le_trans l_21 (Fz.le_trans l_25 l_31))))) ?_
    rintro r_38 F_36 _ - l_37 ⟨p39, k40, rfl, h41⟩
    refine .move rfl rfl ?_
    refine .extract rfl rfl rfl ?_
    refine .extract rfl rfl rfl ?_
    refine .assign rfl rfl ?_
    refine .assign rfl rfl ?_
    refine .nil ?_
    refine .keep (.cons (k := 1) rfl (.cons (k := 2) rfl (.cons (k := 3) rfl (.cons (k := 4) rfl (.cons (k := 9) rfl (.cons (k := 10) rfl (.cons (k := 11) rfl (.cons (k := 12) rfl (.nil _))))))))) ?_
    refine .code ?_
    refine .seq ?_
    refine .region ?_
    refine .loadFA rfl Try.isAgg38 Try.sizeOf38 rfl ((Fz.le_trans l_21 (Fz.le_trans l_25 (Fz.le_trans l_31 l_37))).mem _ _ hb17) (vs := (cApiBatch b1 p2 k3)) (by kernel_rfl) rfl ?_
    refine .move rfl rfl ?_
    refine .move rfl rfl ?_
    refine .move rfl rfl ?_
    refine .call0 rfl Try.call29 rfl rfl rfl (c_bottle_Problems _ b1 p2 k3 (h4.mono (Fz.le_trans l_16 (Fz.le_trans l_21 (Fz.le_trans l_25 (Fz.le_trans l_31 l_37))))) l_5 p6 k7 (h8.mono (Fz.le_trans l_16 (Fz.le_trans l_21 (Fz.le_trans l_25 (Fz.le_trans l_31 l_37))))) rules9 p10 k11 (h12.mono (Fz.le_trans l_16 (Fz.le_trans l_21 (Fz.le_trans l_25 (Fz.le_trans l_31 l_37))))) country13) ?_
    rintro r_44 F_42 _ - l_43 ⟨p45, k46, rfl, h47⟩
    refine .move rfl rfl ?_
    refine .extract rfl rfl rfl ?_
    refine .extract rfl rfl rfl ?_
    refine .assign rfl rfl ?_
    refine .assign rfl rfl ?_
    refine .nil ?_
    refine .code ?_
    refine .seq ?_
    refine .region ?_
    refine .loadFA rfl Try.isAgg38 Try.sizeOf38 rfl ((Fz.le_trans l_21 (Fz.le_trans l_25 (Fz.le_trans l_31 (Fz.le_trans l_37 l_43)))).mem _ _ hb17) (vs := (cApiBatch b1 p2 k3)) (by kernel_rfl) rfl ?_
    refine .move rfl rfl ?_
    refine .move rfl rfl ?_
    refine .move rfl rfl ?_
    refine .call0 rfl Try.call30 rfl rfl rfl (c_wormtubref12_Problems _ b1 p2 k3 (h4.mono (Fz.le_trans l_16 (Fz.le_trans l_21 (Fz.le_trans l_25 (Fz.le_trans l_31 (Fz.le_trans l_37 l_43)))))) l_5 p6 k7 (h8.mono (Fz.le_trans l_16 (Fz.le_trans l_21 (Fz.le_trans l_25 (Fz.le_trans l_31 (Fz.le_trans l_37 l_43)))))) rules9 p10 k11 (h12.mono (Fz.le_trans l_16 (Fz.le_trans l_21 (Fz.le_trans l_25 (Fz.le_trans l_31 (Fz.le_trans l_37 l_43)))))) country13) ?_
    rintro r_50 F_48 _ - l_49 ⟨p51, k52, rfl, h53⟩
    refine .move rfl rfl ?_
    refine .extract rfl rfl rfl ?_
    refine .extract rfl rfl rfl ?_
    refine .assign rfl rfl ?_
    refine .assign rfl rfl ?_
    refine .nil ?_
    refine .keep (.cons (k := 9) rfl (.cons (k := 10) rfl (.cons (k := 11) rfl (.cons (k := 12) rfl (.cons (k := 13) rfl (.cons (k := 14) rfl (.cons (k := 15) rfl (.cons (k := 16) rfl (.nil _))))))))) ?_
    refine .code ?_
    refine .seq ?_
    refine .region ?_
    refine .move rfl rfl ?_
    refine .move rfl rfl ?_
    refine .call0 rfl Try.call31 rfl rfl rfl (c_wormtubref12_Ints _ r_32.1 p33 k34 (h35.mono (Fz.le_trans l_37 (Fz.le_trans l_43 l_49))) r_38.1 p39 k40 (h41.mono (Fz.le_trans l_43 l_49))) ?_
    rintro r_56 F_54 _ - l_55 rfl
    refine .move rfl rfl ?_
    refine .andP (b := r_56) (b' := (r_32.2 == r_38.2)) 4 67 (fun hb57 => ?_) (fun hb58 => ?_) (fun F_59 l_60 => ?_)
    · skip
      refine .onH hb57 rfl rfl ?_
      refine .move rfl rfl ?_
      refine .onH hb57 rfl rfl ?_
      refine .move rfl rfl ?_
      refine .onH hb57 rfl rfl ?_
      refine .eql rfl rfl rfl ?_
      refine .pickTH hb57 rfl rfl rfl ?_
      exact .fin 4 rfl rfl (by kernel_rfl) (Fz.le_refl _)
    · skip
      refine .offH hb58 rfl rfl rfl ?_
      refine .offH hb58 rfl rfl rfl ?_
      refine .offH hb58 rfl rfl rfl ?_
      refine .pickFH hb58 rfl rfl rfl ?_
      exact .fin 4 rfl rfl (by kernel_rfl) (Fz.le_refl _)
    refine .move rfl rfl ?_
    refine .andM (b := (r_56 && (r_32.2 == r_38.2))) 4 72 (fun hb61 z69 => ?_) (fun hb65 => ?_) (fun z68 F_66 l_67 => ?_)
    · skip
      refine .onH hb61 rfl rfl ?_
      refine .move rfl rfl ?_
      refine .onH hb61 rfl rfl ?_
      refine .move rfl rfl ?_
      refine .onH hb61 rfl rfl ?_
      refine .call0 rfl Try.call31 rfl rfl rfl (c_wormtubref12_Ints _ r_44.1 p45 k46 (h47.mono (Fz.le_trans l_49 (Fz.le_trans l_55 l_60))) r_50.1 p51 k52 (h53.mono (Fz.le_trans l_55 l_60))) ?_
      rintro r_64 F_62 _ - l_63 rfl
      refine .pickTH hb61 rfl rfl rfl ?_
      exact .finZ 4 rfl rfl (by kernel_rfl) l_63
    · skip
      refine .offH hb65 rfl rfl rfl ?_
      refine .offH hb65 rfl rfl rfl ?_
      refine .offH hb65 rfl rfl rfl ?_
      refine .pickFH hb65 rfl rfl rfl ?_
      exact .fin 4 rfl rfl (by kernel_rfl) (Fz.le_refl _)
    refine .move rfl rfl ?_
    refine .andP (b := z68) (b' := (r_44.2 == r_50.2)) 4 77 (fun hb70 => ?_) (fun hb71 => ?_) (fun F_72 l_73 => ?_)
    · skip
      refine .onH hb70 rfl rfl ?_
      refine .move rfl rfl ?_
      refine .onH hb70 rfl rfl ?_
      refine .move rfl rfl ?_
      refine .onH hb70 rfl rfl ?_
      refine .eql rfl rfl rfl ?_
      refine .pickTH hb70 rfl rfl rfl ?_
      exact .fin 4 rfl rfl (by kernel_rfl) (Fz.le_refl _)
    · skip
      refine .offH hb71 rfl rfl rfl ?_
      refine .offH hb71 rfl rfl rfl ?_
      refine .offH hb71 rfl rfl rfl ?_
      refine .pickFH hb71 rfl rfl rfl ?_
      exact .fin 4 rfl rfl (by kernel_rfl) (Fz.le_refl _)
    refine .move rfl rfl ?_
    refine .andM (b := (z68 && (r_44.2 == r_50.2))) 2 80 (fun hb74 z82 => ?_) (fun hb78 => ?_) (fun z81 F_79 l_80 => ?_)
    · skip
      refine .onH hb74 rfl rfl ?_
      refine .call0 rfl Try.call11 rfl rfl rfl (c_wormtublaw12_awake _ ) ?_
      rintro r_77 F_75 _ - l_76 rfl
      refine .pickTH hb74 rfl rfl rfl ?_
      exact .finZ 2 rfl rfl (by kernel_rfl) l_76
    · skip
      refine .offH hb78 rfl rfl rfl ?_
      refine .pickFH hb78 rfl rfl rfl ?_
      exact .fin 2 rfl rfl (by kernel_rfl) (Fz.le_refl _)
    refine .assign rfl rfl ?_
    refine .nil ?_
    refine .code ?_
    exact .ret0 Try.results10 (.tmp rfl (.nil)) (i := 0) rfl (Fz.le_trans l_16 (Fz.le_trans l_21 (Fz.le_trans l_25 (Fz.le_trans l_31 (Fz.le_trans l_37 (Fz.le_trans l_43 (Fz.le_trans l_49 (Fz.le_trans l_55 (Fz.le_trans l_60 (Fz.le_trans l_67 (Fz.le_trans l_73 l_80))))))))))) rfl

end Go.Proofs.Ytbomfcghpajaiaa
