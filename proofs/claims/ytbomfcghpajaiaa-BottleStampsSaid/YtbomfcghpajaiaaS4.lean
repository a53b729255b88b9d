/- Printed by gen.py: plain models of the program's functions, and that the code does what they say. -/
import Derived.Test.YtbomfcghpajaiaaS0
import Derived.Test.YtbomfcghpajaiaaS1
import Derived.Test.YtbomfcghpajaiaaS2
import Derived.Test.YtbomfcghpajaiaaS3
namespace Go.Proofs.Ytbomfcghpajaiaa
open Go.Dec

def m_wormtubref12_Event (x1 : ApiStampEvent) : Bool :=
  (((((m_wormtubref12_in x1.Kind 0 3) && (decide (x1.First ≥ 0))) && (decide (x1.First ≤ x1.Last))) && (decide (x1.Last ≤ 1099511627776))) && ((x1.Kind != 1) || (m_wormtubref12_in x1.Batch 0 1073741824)))
theorem c_wormtubref12_Event (F0 : Fz) (x1 : ApiStampEvent) : CT0 Try.prog 39 [(eApiStampEvent x1)].toArray F0 (some (m_wormtubref12_Event x1)) (fun r _ v => v = (.bool r)) := by
  refine CT0.enter Try.func39 rfl Try.ntmps39 rfl fun r R => ?_
  refine .seq ?_
  refine .region ?_
  refine .boxF (cs := (cApiStampEvent x1)) rfl rfl rfl (fun b2 F_3 l_4 hb5 => ?_)
  refine .assign rfl rfl ?_
  refine .nil ?_
  refine .code ?_
  refine .seq ?_
  refine .region ?_
  refine .fieldAddr rfl Try.underlying70 rfl Try.sizeOf3 rfl ?_
  refine .loadF rfl Try.isAgg3 rfl hb5 rfl ?_
  refine .callP rfl Try.call48 rfl rfl rfl (c_wormtubref12_in _ x1.Kind 0 3) ?_
  rintro F_6 _ l_7 rfl
  refine .move rfl rfl ?_
  refine .andP (b := (m_wormtubref12_in x1.Kind 0 3)) (b' := (decide (x1.First ≥ 0))) 4 10 (fun hb8 => ?_) (fun hb9 => ?_) (fun F_10 l_11 => ?_)
  · skip
    refine .onH hb8 rfl rfl ?_
    refine .fieldAddr rfl Try.underlying70 rfl Try.sizeOf3 rfl ?_
    refine .onH hb8 rfl rfl ?_
    refine .loadF rfl Try.isAgg3 rfl (l_7.mem _ _ hb5) rfl ?_
    refine .onH hb8 rfl rfl ?_
    refine .geq rfl rfl rfl ?_
    refine .pickTH hb8 rfl rfl rfl ?_
    exact .fin 4 rfl rfl (by kernel_rfl) (Fz.le_refl _)
  · skip
    refine .offH hb9 rfl rfl rfl ?_
    refine .offH hb9 rfl rfl rfl ?_
    refine .offH hb9 rfl rfl rfl ?_
    refine .pickFH hb9 rfl rfl rfl ?_
    exact .fin 4 rfl rfl (by kernel_rfl) (Fz.le_refl _)
  refine .move rfl rfl ?_
  refine .andP (b := ((m_wormtubref12_in x1.Kind 0 3) && (decide (x1.First ≥ 0)))) (b' := (decide (x1.First ≤ x1.Last))) 6 17 (fun hb12 => ?_) (fun hb13 => ?_) (fun F_14 l_15 => ?_)
  · skip
    refine .onH hb12 rfl rfl ?_
    refine .fieldAddr rfl Try.underlying70 rfl Try.sizeOf3 rfl ?_
    refine .onH hb12 rfl rfl ?_
    refine .loadF rfl Try.isAgg3 rfl ((Fz.le_trans l_7 l_11).mem _ _ hb5) rfl ?_
    refine .onH hb12 rfl rfl ?_
    refine .fieldAddr rfl Try.underlying70 rfl Try.sizeOf3 rfl ?_
    refine .onH hb12 rfl rfl ?_
    refine .loadF rfl Try.isAgg3 rfl ((Fz.le_trans l_7 l_11).mem _ _ hb5) rfl ?_
    refine .onH hb12 rfl rfl ?_
    refine .leq rfl rfl rfl ?_
    refine .pickTH hb12 rfl rfl rfl ?_
    exact .fin 6 rfl rfl (by kernel_rfl) (Fz.le_refl _)
  · skip
    refine .offH hb13 rfl rfl rfl ?_
    refine .offH hb13 rfl rfl rfl ?_
    refine .offH hb13 rfl rfl rfl ?_
    refine .offH hb13 rfl rfl rfl ?_
    refine .offH hb13 rfl rfl rfl ?_
    refine .pickFH hb13 rfl rfl rfl ?_
    exact .fin 6 rfl rfl (by kernel_rfl) (Fz.le_refl _)
  refine .move rfl rfl ?_
  refine .andP (b := (((m_wormtubref12_in x1.Kind 0 3) && (decide (x1.First ≥ 0))) && (decide (x1.First ≤ x1.Last)))) (b' := (decide (x1.Last ≤ 1099511627776))) 4 22 (fun hb16 => ?_) (fun hb17 => ?_) (fun F_18 l_19 => ?_)
  · skip
    refine .onH hb16 rfl rfl ?_
    refine .fieldAddr rfl Try.underlying70 rfl Try.sizeOf3 rfl ?_
    refine .onH hb16 rfl rfl ?_
    refine .loadF rfl Try.isAgg3 rfl ((Fz.le_trans l_7 (Fz.le_trans l_11 l_15)).mem _ _ hb5) rfl ?_
    refine .onH hb16 rfl rfl ?_
    refine .leq rfl rfl rfl ?_
    refine .pickTH hb16 rfl rfl rfl ?_
    exact .fin 4 rfl rfl (by kernel_rfl) (Fz.le_refl _)
  · skip
    refine .offH hb17 rfl rfl rfl ?_
    refine .offH hb17 rfl rfl rfl ?_
    refine .offH hb17 rfl rfl rfl ?_
    refine .pickFH hb17 rfl rfl rfl ?_
    exact .fin 4 rfl rfl (by kernel_rfl) (Fz.le_refl _)
  refine .move rfl rfl ?_
  refine .andP (b := ((((m_wormtubref12_in x1.Kind 0 3) && (decide (x1.First ≥ 0))) && (decide (x1.First ≤ x1.Last))) && (decide (x1.Last ≤ 1099511627776)))) (b' := ((x1.Kind != 1) || (m_wormtubref12_in x1.Batch 0 1073741824))) 9 32 (fun hb20 => ?_) (fun hb27 => ?_) (fun F_28 l_29 => ?_)
  · skip
    refine .onH hb20 rfl rfl ?_
    refine .fieldAddr rfl Try.underlying70 rfl Try.sizeOf3 rfl ?_
    refine .onH hb20 rfl rfl ?_
    refine .loadF rfl Try.isAgg3 rfl ((Fz.le_trans l_7 (Fz.le_trans l_11 (Fz.le_trans l_15 l_19))).mem _ _ hb5) rfl ?_
    refine .onH hb20 rfl rfl ?_
    refine .neq rfl rfl rfl ?_
    refine .onH hb20 rfl rfl ?_
    refine .move rfl rfl ?_
    refine .orP (b := (x1.Kind != 1)) (b' := (m_wormtubref12_in x1.Batch 0 1073741824)) 4 31 (fun hb21 => ?_) (fun hb24 => ?_) (fun F_25 l_26 => ?_)
    · skip
      refine .onH hb21 rfl rfl ?_
      refine .fieldAddr rfl Try.underlying70 rfl Try.sizeOf3 rfl ?_
      refine .onH hb21 rfl rfl ?_
      refine .loadF rfl Try.isAgg3 rfl ((Fz.le_trans l_7 (Fz.le_trans l_11 (Fz.le_trans l_15 l_19))).mem _ _ hb5) rfl ?_
      refine .onH hb21 rfl rfl ?_
      refine .callP rfl Try.call48 rfl rfl rfl (c_wormtubref12_in _ x1.Batch 0 1073741824) ?_
      rintro F_22 _ l_23 rfl
      refine .onH hb20 rfl rfl ?_
      refine .pickFH hb21 rfl rfl rfl ?_
      exact .fin 4 rfl rfl (by kernel_rfl) l_23
    · skip
      refine .offH hb24 rfl rfl rfl ?_
      refine .offH hb24 rfl rfl rfl ?_
      refine .offH hb24 rfl rfl rfl ?_
      refine .onH hb20 rfl rfl ?_
      refine .pickTH hb24 rfl rfl rfl ?_
      exact .fin 4 rfl rfl (by kernel_rfl) (Fz.le_refl _)
    refine .pickTH hb20 rfl rfl rfl ?_
    exact .fin 6 rfl rfl (by kernel_rfl) l_26
  · skip
    refine .offH hb27 rfl rfl rfl ?_
    refine .offH hb27 rfl rfl rfl ?_
    refine .offH hb27 rfl rfl rfl ?_
    refine .offH hb27 rfl rfl rfl ?_
    refine .off rfl rfl rfl rfl ?_
    refine .off rfl rfl rfl rfl ?_
    refine .off rfl rfl rfl rfl ?_
    refine .offH hb27 rfl rfl rfl ?_
    refine .pickFH hb27 rfl rfl rfl ?_
    exact .fin 9 rfl rfl (by kernel_rfl) (Fz.le_refl _)
  refine .assign rfl rfl ?_
  refine .nil ?_
  refine .code ?_
  exact .ret0 Try.results39 (.tmp rfl (.nil)) (i := 0) rfl (Fz.le_trans l_4 (Fz.le_trans l_7 (Fz.le_trans l_11 (Fz.le_trans l_15 (Fz.le_trans l_19 l_29))))) rfl

noncomputable def b_wormtubref12_ends_1 (l_1 : (List ApiStampEvent)) (first_5 : Int) (to_6 : Int) (s9 : (List Int) × Int) : Option (Ctl ((List Int) × Int) (((List Int)))) :=
  if (decide (s9.2 < (l_1.length : Int))) then (((idxL l_1 s9.2).bind fun x16 => (if (decide (x16.First > first_5)) then ((idxL l_1 s9.2).bind fun x27 => some (decide (x27.First ≤ to_6))) else some false).bind fun z40 => (if z40 then ((idxL l_1 s9.2).bind fun x43 => (appO s9.1 ([x43.First])).bind fun l_58 => some l_58) else (some s9.1) : Option ((List Int))).bind fun j62 => (idxL l_1 s9.2).bind fun x68 => (if (decide ((w64 (x68.Last + 1)) > first_5)) then ((idxL l_1 s9.2).bind fun x79 => some (decide ((w64 (x79.Last + 1)) ≤ to_6))) else some false).bind fun z92 => (if z92 then ((idxL l_1 s9.2).bind fun x95 => (appO j62 ([(w64 (x95.Last + 1))])).bind fun l_110 => some l_110) else (some j62) : Option ((List Int))).bind fun j114 => some j114 : Option ((List Int))).bind fun j120 => bindv (w64 (s9.2 + 1)) fun i126 => some (.next (j120, i126))) else (some (.done s9.1))
noncomputable def m_wormtubref12_ends (l_1 : (List ApiStampEvent)) (first_5 : Int) (to_6 : Int) : Option (List Int) :=
  (loopM (b_wormtubref12_ends_1 l_1 first_5 to_6) ([first_5], 0)).bind fun b128 => some b128
theorem c_wormtubref12_ends (F0 : Fz) (l_1 : (List ApiStampEvent)) (p2 : Option Addr) (k3 : Nat) (h4 : RepSl 4 (Ex cApiStampEvent) F0 p2 k3 l_1) (first_5 : Int) (to_6 : Int) : CT0 Try.prog 40 [(.slice p2 l_1.length k3), (.int .i64 first_5), (.int .i64 to_6)].toArray F0 (m_wormtubref12_ends l_1 first_5 to_6) (fun r F v => ∃ p0 k0, v = (.slice p0 r.length k0) ∧ RepSl 1 (Ex (cInt .i64)) F p0 k0 r) := by
  refine CT0.enter Try.func40 rfl Try.ntmps40 rfl fun r R => ?_
  unfold m_wormtubref12_ends
  refine .seq ?_
  refine .region ?_
  refine .assign rfl rfl ?_
  refine .nil ?_
  refine .code ?_
  refine .seq ?_
  refine .region ?_
  refine .move rfl rfl ?_
  refine .sliceOwn (cs := [.int .i64 first_5]) (zc := [.int .i64 0]) (c := (Ex (cInt .i64))) [first_5] rfl Try.underlying40 Try.sizeOf3 Try.zeroValue3 rfl rfl rfl (by kernel_rfl) (by kernel_rfl) rfl rfl (.cons ok_t3.mono rfl .nil) (fun b7 => ?_)
  refine .assign rfl rfl ?_
  refine .nil ?_
  refine .code ?_
  refine .seq ?_
  refine .seq ?_
  refine .region ?_
  refine .assign rfl rfl ?_
  refine .nil ?_
  refine .code ?_
  refine .block ?_
  refine .keep (.cons (k := 0) rfl (.cons (k := 1) rfl (.cons (k := 2) rfl (.cons (k := 7) rfl (.cons (k := 8) rfl (.nil _)))))) ?_
  refine .loop (fun (s9 : (List Int) × Int) a w => ∃ (F_10 : Fz) (p12 : Option Addr) (k13 : Nat), F0 ≤ F_10 ∧ Hd 69 [] [(0, (.slice p2 l_1.length k3)), (1, (.int .i64 first_5)), (2, (.int .i64 to_6)), (7, (.slice p12 s9.1.length k13)), (8, (.int .i64 s9.2))] F_10 [ownSl 1 (Ex (cInt .i64)) F_10 3 p12 k13 s9.1, R] a w) (fun b128 e a w => e = .exit 0 ∧ ∃ (F_129 : Fz) (p131 : Option Addr) (k132 : Nat), F0 ≤ F_129 ∧ Hd 69 [] [(7, (.slice p131 b128.length k132))] F_129 [ownSl 1 (Ex (cInt .i64)) F_129 3 p131 k132 b128, R] a w) ?_ ?_ ?_
  · exact fun a w h => ⟨F0, (some ⟨b7, 0, none⟩), 1, (Fz.le_refl _), h.1.sub (.cons (k := 0) rfl (.cons (k := 1) rfl (.cons (k := 2) rfl (.cons (k := 7) rfl (.cons (k := 8) rfl (.nil _)))))), h.2⟩
  · intro s9 ctl
    refine GC.ex (fun a w ⟨F_10, p12, k13, l_11, hA⟩ => ⟨_, hA, ?_⟩)
    unfold b_wormtubref12_ends_1
    refine .seq ?_
    refine .seq ?_
    refine .region ?_
    refine .move rfl rfl ?_
    refine .move rfl rfl ?_
    refine .lenS rfl rfl Try.underlying22 rfl ?_
    refine .lss rfl rfl rfl ?_
    refine .nil ?_
    refine .code ?_
    refine .cond rfl (fun hb15 => ?_) (fun hb15 => ?_)
    · skip
      refine .skip ?_
      refine .code ?_
      refine .seq ?_
      refine .keep (.cons (k := 0) rfl (.cons (k := 1) rfl (.cons (k := 2) rfl (.cons (k := 7) rfl (.cons (k := 8) rfl (.nil _)))))) ?_
      refine GC.join0 (σ := (List Int)) (fun j120 a w => ∃ (F_121 : Fz) (p123 : Option Addr) (k124 : Nat), F_10 ≤ F_121 ∧ Hd 69 [] [(0, (.slice p2 l_1.length k3)), (1, (.int .i64 first_5)), (2, (.int .i64 to_6)), (7, (.slice p123 j120.length k124)), (8, (.int .i64 s9.2))] F_121 [ownSl 1 (Ex (cInt .i64)) F_121 3 p123 k124 j120, R] a w) (fun sj => ?_) (fun j120 hs0 => GE.ex (fun a w ⟨F_121, p123, k124, l_122, hA⟩ => ⟨_, hA, ?_⟩))
      · skip
        refine .block ?_
        refine .seq ?_
        refine .seq ?_
        refine .region ?_
        refine .move rfl rfl ?_
        refine .move rfl rfl ?_
        refine .idx rfl Try.underlying22 Try.sizeOf70 (h4.mono l_11) rfl rfl (fun x16 b17 o18 T19 fr20 cs21 e22 hm23 hv24 => ?_)
        refine .fieldAddr rfl Try.underlying70 rfl Try.sizeOf3 rfl ?_
        refine .loadF rfl Try.isAgg3 rfl hm23 (cell_of_take (k := 1) hv24 rfl) ?_
        refine .move rfl rfl ?_
        refine .gtr rfl rfl rfl ?_
        refine .move rfl rfl ?_
        refine .andM (b := (decide (x16.First > first_5))) 8 32 (fun hb26 z41 => ?_) (fun hb37 => ?_) (fun z40 F_38 l_39 => ?_)
        · skip
          refine .onH hb26 rfl rfl ?_
          refine .move rfl rfl ?_
          refine .onH hb26 rfl rfl ?_
          refine .move rfl rfl ?_
          refine .onH hb26 rfl rfl ?_
          refine .idx rfl Try.underlying22 Try.sizeOf70 (h4.mono l_11) rfl rfl (fun x27 b28 o29 T30 fr31 cs32 e33 hm34 hv35 => ?_)
          refine .onH hb26 rfl rfl ?_
          refine .fieldAddr rfl Try.underlying70 rfl Try.sizeOf3 rfl ?_
          refine .onH hb26 rfl rfl ?_
          refine .loadF rfl Try.isAgg3 rfl hm34 (cell_of_take (k := 1) hv35 rfl) ?_
          refine .onH hb26 rfl rfl ?_
          refine .move rfl rfl ?_
          refine .onH hb26 rfl rfl ?_
          refine .leq rfl rfl rfl ?_
          refine .pickTH hb26 rfl rfl rfl ?_
          exact .finZ 8 rfl rfl (by kernel_rfl) (Fz.le_refl _)
        · skip
          refine .offH hb37 rfl rfl rfl ?_
          refine .offH hb37 rfl rfl rfl ?_
          refine .offH hb37 rfl rfl rfl ?_
          refine .offH hb37 rfl rfl rfl ?_
          refine .offH hb37 rfl rfl rfl ?_
          refine .offH hb37 rfl rfl rfl ?_
          refine .offH hb37 rfl rfl rfl ?_
          refine .pickFH hb37 rfl rfl rfl ?_
          exact .fin 8 rfl rfl (by kernel_rfl) (Fz.le_refl _)
        refine .nil ?_
        refine .code ?_
        refine .keep (.cons (k := 0) rfl (.cons (k := 1) rfl (.cons (k := 2) rfl (.cons (k := 7) rfl (.cons (k := 8) rfl (.cons (k := 32) rfl (.nil _))))))) ?_
        refine GC.join0 (σ := (List Int)) (fun j62 a w => ∃ (F_63 : Fz) (p65 : Option Addr) (k66 : Nat), F_38 ≤ F_63 ∧ Hd 69 [] [(0, (.slice p2 l_1.length k3)), (1, (.int .i64 first_5)), (2, (.int .i64 to_6)), (7, (.slice p65 j62.length k66)), (8, (.int .i64 s9.2))] F_63 [ownSl 1 (Ex (cInt .i64)) F_63 3 p65 k66 j62, R] a w) (fun sj => ?_) (fun j62 hs0 => GE.ex (fun a w ⟨F_63, p65, k66, l_64, hA⟩ => ⟨_, hA, ?_⟩))
        · skip
          refine .cond rfl (fun hb42 => ?_) (fun hb42 => ?_)
          · skip
            refine .region ?_
            refine .move rfl rfl ?_
            refine .move rfl rfl ?_
            refine .move rfl rfl ?_
            refine .idx rfl Try.underlying22 Try.sizeOf70 (h4.mono (Fz.le_trans l_11 l_39)) rfl rfl (fun x43 b44 o45 T46 fr47 cs48 e49 hm50 hv51 => ?_)
            refine .fieldAddr rfl Try.underlying70 rfl Try.sizeOf3 rfl ?_
            refine .loadF rfl Try.isAgg3 rfl hm50 (cell_of_take (k := 1) hv51 rfl) ?_
            refine .sliceLit (cs := [.int .i64 x43.First]) (zc := [.int .i64 0]) rfl Try.underlying40 Try.sizeOf3 Try.zeroValue3 rfl rfl rfl (by kernel_rfl) (by kernel_rfl) (fun b53 F_54 l_55 hb56 => ?_)
            have h57 : RepSl 1 (Ex (cInt .i64)) F_54 (some ⟨b53, 0, none⟩) 1 ([x43.First]) := RepSl.ofRow hb56 (.cons ok_t3.mono rfl .nil) rfl rfl
            refine .append 0 ok_t3 (Fz.le_trans l_39 l_55) rfl Try.underlying40 Try.underlying40 rfl rfl rfl h57 rfl rfl (fun l_58 p59 k60 e61 => ?_)
            refine .assign rfl rfl ?_
            refine .nil ?_
            exact .nil fun e a w h => by cases e; exact ⟨rfl, ⟨F_54, p59, k60, l_55, h.1.sub (.cons (k := 0) rfl (.cons (k := 1) rfl (.cons (k := 2) rfl (.cons (k := 7) rfl (.cons (k := 8) rfl (.nil _)))))), h.2⟩⟩
          · skip
            refine .skip ?_
            refine .ownUp 0 l_39 rfl ?_
            exact .nil fun e a w h => by cases e; exact ⟨rfl, ⟨F_38, p12, k13, (Fz.le_refl _), h.1.sub (.cons (k := 0) rfl (.cons (k := 1) rfl (.cons (k := 2) rfl (.cons (k := 7) rfl (.cons (k := 8) rfl (.nil _)))))), h.2⟩⟩
        refine .code ?_
        refine .seq ?_
        refine .region ?_
        refine .move rfl rfl ?_
        refine .move rfl rfl ?_
        refine .idx rfl Try.underlying22 Try.sizeOf70 (h4.mono (Fz.le_trans l_11 (Fz.le_trans l_39 l_64))) rfl rfl (fun x68 b69 o70 T71 fr72 cs73 e74 hm75 hv76 => ?_)
        refine .fieldAddr rfl Try.underlying70 rfl Try.sizeOf3 rfl ?_
        refine .loadF rfl Try.isAgg3 rfl hm75 (cell_of_take (k := 2) hv76 rfl) ?_
        refine .add rfl rfl rfl ?_
        refine .move rfl rfl ?_
        refine .gtr rfl rfl rfl ?_
        refine .move rfl rfl ?_
        refine .andM (b := (decide ((w64 (x68.Last + 1)) > first_5))) 9 58 (fun hb78 z93 => ?_) (fun hb89 => ?_) (fun z92 F_90 l_91 => ?_)
        · skip
          refine .onH hb78 rfl rfl ?_
          refine .move rfl rfl ?_
          refine .onH hb78 rfl rfl ?_
          refine .move rfl rfl ?_
          refine .onH hb78 rfl rfl ?_
          refine .idx rfl Try.underlying22 Try.sizeOf70 (h4.mono (Fz.le_trans l_11 (Fz.le_trans l_39 l_64))) rfl rfl (fun x79 b80 o81 T82 fr83 cs84 e85 hm86 hv87 => ?_)
          refine .onH hb78 rfl rfl ?_
          refine .fieldAddr rfl Try.underlying70 rfl Try.sizeOf3 rfl ?_
          refine .onH hb78 rfl rfl ?_
          refine .loadF rfl Try.isAgg3 rfl hm86 (cell_of_take (k := 2) hv87 rfl) ?_
          refine .onH hb78 rfl rfl ?_
          refine .add rfl rfl rfl ?_
          refine .onH hb78 rfl rfl ?_
          refine .move rfl rfl ?_
          refine .onH hb78 rfl rfl ?_
          refine .leq rfl rfl rfl ?_
          refine .pickTH hb78 rfl rfl rfl ?_
          exact .finZ 9 rfl rfl (by kernel_rfl) (Fz.le_refl _)
        · skip
          refine .offH hb89 rfl rfl rfl ?_
          refine .offH hb89 rfl rfl rfl ?_
          refine .offH hb89 rfl rfl rfl ?_
          refine .offH hb89 rfl rfl rfl ?_
          refine .offH hb89 rfl rfl rfl ?_
          refine .offH hb89 rfl rfl rfl ?_
          refine .offH hb89 rfl rfl rfl ?_
          refine .offH hb89 rfl rfl rfl ?_
          refine .pickFH hb89 rfl rfl rfl ?_
          exact .fin 9 rfl rfl (by kernel_rfl) (Fz.le_refl _)
        refine .nil ?_
        refine .code ?_
        refine .keep (.cons (k := 0) rfl (.cons (k := 1) rfl (.cons (k := 2) rfl (.cons (k := 7) rfl (.cons (k := 8) rfl (.cons (k := 58) rfl (.nil _))))))) ?_
        refine GC.join0 (σ := (List Int)) (fun j114 a w => ∃ (F_115 : Fz) (p117 : Option Addr) (k118 : Nat), F_90 ≤ F_115 ∧ Hd 69 [] [(0, (.slice p2 l_1.length k3)), (1, (.int .i64 first_5)), (2, (.int .i64 to_6)), (7, (.slice p117 j114.length k118)), (8, (.int .i64 s9.2))] F_115 [ownSl 1 (Ex (cInt .i64)) F_115 3 p117 k118 j114, R] a w) (fun sj => ?_) (fun j114 hs0 => GE.ex (fun a w ⟨F_115, p117, k118, l_116, hA⟩ => ⟨_, hA, ?_⟩))
        · skip
          refine .cond rfl (fun hb94 => ?_) (fun hb94 => ?_)
          · skip
            refine .region ?_
            refine .move rfl rfl ?_
            refine .move rfl rfl ?_
            refine .move rfl rfl ?_
            refine .idx rfl Try.underlying22 Try.sizeOf70 (h4.mono (Fz.le_trans l_11 (Fz.le_trans l_39 (Fz.le_trans l_64 l_91)))) rfl rfl (fun x95 b96 o97 T98 fr99 cs100 e101 hm102 hv103 => ?_)
            refine .fieldAddr rfl Try.underlying70 rfl Try.sizeOf3 rfl ?_
            refine .loadF rfl Try.isAgg3 rfl hm102 (cell_of_take (k := 2) hv103 rfl) ?_
            refine .add rfl rfl rfl ?_
            refine .sliceLit (cs := [.int .i64 (w64 (x95.Last + 1))]) (zc := [.int .i64 0]) rfl Try.underlying40 Try.sizeOf3 Try.zeroValue3 rfl rfl rfl (by kernel_rfl) (by kernel_rfl) (fun b105 F_106 l_107 hb108 => ?_)
            have h109 : RepSl 1 (Ex (cInt .i64)) F_106 (some ⟨b105, 0, none⟩) 1 ([(w64 (x95.Last + 1))]) := RepSl.ofRow hb108 (.cons ok_t3.mono rfl .nil) rfl rfl
            refine .append 0 ok_t3 (Fz.le_trans l_91 l_107) rfl Try.underlying40 Try.underlying40 rfl rfl rfl h109 rfl rfl (fun l_110 p111 k112 e113 => ?_)
            refine .assign rfl rfl ?_
            refine .nil ?_
            exact .nil fun e a w h => by cases e; exact ⟨rfl, ⟨F_106, p111, k112, l_107, h.1.sub (.cons (k := 0) rfl (.cons (k := 1) rfl (.cons (k := 2) rfl (.cons (k := 7) rfl (.cons (k := 8) rfl (.nil _)))))), h.2⟩⟩
          · skip
            refine .skip ?_
            refine .ownUp 0 l_91 rfl ?_
            exact .nil fun e a w h => by cases e; exact ⟨rfl, ⟨F_90, p65, k66, (Fz.le_refl _), h.1.sub (.cons (k := 0) rfl (.cons (k := 1) rfl (.cons (k := 2) rfl (.cons (k := 7) rfl (.cons (k := 8) rfl (.nil _)))))), h.2⟩⟩
        refine .block ?_
        exact .nil fun e a w h => by cases e; exact ⟨rfl, ⟨F_115, p117, k118, (Fz.le_trans l_39 (Fz.le_trans l_64 (Fz.le_trans l_91 l_116))), h.1.sub (.cons (k := 0) rfl (.cons (k := 1) rfl (.cons (k := 2) rfl (.cons (k := 7) rfl (.cons (k := 8) rfl (.nil _)))))), h.2⟩⟩
      refine .code ?_
      refine .region ?_
      refine .move rfl rfl ?_
      refine .add rfl rfl rfl ?_
      refine .assignL rfl rfl (fun i126 e127 => ?_)
      refine .nil ?_
      exact .nil (LPost.norm fun a w h => ⟨F_121, p123, k124, (Fz.le_trans l_11 l_122), h.1.sub (.cons (k := 0) rfl (.cons (k := 1) rfl (.cons (k := 2) rfl (.cons (k := 7) rfl (.cons (k := 8) rfl (.nil _)))))), h.2⟩)
    · skip
      refine .exitOut rfl (LPost.exit fun a w h => ⟨rfl, F_10, p12, k13, l_11, h.1.sub (.cons (k := 7) rfl (.nil _)), h.2⟩)
  · intro b128 hb0 hk e a w hD
    obtain ⟨rfl, F_129, p131, k132, l_130, hA⟩ := hD
    refine interp_exit rfl (GE.app ?_ hk a w hA)
    refine .code ?_
    refine .seq ?_
    refine .region ?_
    refine .move rfl rfl ?_
    refine .assign rfl rfl ?_
    refine .nil ?_
    refine .code ?_
    refine .freezeSl 0 rfl (Fz.le_refl _) (fun F_134 l_135 h136 => ?_)
    exact .ret0 Try.results40 (.tmp rfl (.nil)) (i := 0) rfl (Fz.le_trans l_130 l_135) ⟨p131, k132, rfl, h136⟩

noncomputable def b_wormtubref12_last_1 (l_1 : (List ApiStampEvent)) (n_5 : Int) (s8 : Int × Int) : Option (Ctl (Int × Int) ((Int))) :=
  if (decide (s8.2 < (l_1.length : Int))) then (((idxL l_1 s8.2).bind fun x12 => (if (decide (x12.First ≤ n_5)) then ((idxL l_1 s8.2).bind fun x23 => some (decide (n_5 ≤ x23.Last))) else some false).bind fun z36 => (if z36 then (some s8.2) else (some s8.1) : Option (Int)).bind fun j39 => some j39 : Option (Int)).bind fun j42 => bindv (w64 (s8.2 + 1)) fun i45 => some (.next (j42, i45))) else (some (.done s8.1))
noncomputable def m_wormtubref12_last (l_1 : (List ApiStampEvent)) (n_5 : Int) : Option Int :=
  bindv (-1) fun out6 => (loopM (b_wormtubref12_last_1 l_1 n_5) (out6, 0)).bind fun b47 => some b47
theorem c_wormtubref12_last (F0 : Fz) (l_1 : (List ApiStampEvent)) (p2 : Option Addr) (k3 : Nat) (h4 : RepSl 4 (Ex cApiStampEvent) F0 p2 k3 l_1) (n_5 : Int) : CT0 Try.prog 41 [(.slice p2 l_1.length k3), (.int .i64 n_5)].toArray F0 (m_wormtubref12_last l_1 n_5) (fun r _ v => v = (.int .i64 r)) := by
  refine CT0.enter Try.func41 rfl Try.ntmps41 rfl fun r R => ?_
  unfold m_wormtubref12_last
  refine .seq ?_
  refine .region ?_
  refine .assign rfl rfl ?_
  refine .nil ?_
  refine .code ?_
  refine .seq ?_
  refine .region ?_
  refine .assignL rfl rfl (fun out6 e7 => ?_)
  refine .nil ?_
  refine .code ?_
  refine .seq ?_
  refine .seq ?_
  refine .region ?_
  refine .assign rfl rfl ?_
  refine .nil ?_
  refine .code ?_
  refine .block ?_
  refine .keep (.cons (k := 0) rfl (.cons (k := 1) rfl (.cons (k := 5) rfl (.cons (k := 6) rfl (.nil _))))) ?_
  refine .loop (fun (s8 : Int × Int) a w => ∃ (F_9 : Fz), F0 ≤ F_9 ∧ Hd 31 [] [(0, (.slice p2 l_1.length k3)), (1, (.int .i64 n_5)), (5, (.int .i64 s8.1)), (6, (.int .i64 s8.2))] F_9 [R] a w) (fun b47 e a w => e = .exit 0 ∧ ∃ (F_48 : Fz), F0 ≤ F_48 ∧ Hd 31 [] [(5, (.int .i64 b47))] F_48 [R] a w) ?_ ?_ ?_
  · exact fun a w h => ⟨F0, (Fz.le_refl _), h.1.sub (.cons (k := 0) rfl (.cons (k := 1) rfl (.cons (k := 5) rfl (.cons (k := 6) rfl (.nil _))))), h.2⟩
  · intro s8 ctl
    refine GC.ex (fun a w ⟨F_9, l_10, hA⟩ => ⟨_, hA, ?_⟩)
    unfold b_wormtubref12_last_1
    refine .seq ?_
    refine .seq ?_
    refine .region ?_
    refine .move rfl rfl ?_
    refine .move rfl rfl ?_
    refine .lenS rfl rfl Try.underlying22 rfl ?_
    refine .lss rfl rfl rfl ?_
    refine .nil ?_
    refine .code ?_
    refine .cond rfl (fun hb11 => ?_) (fun hb11 => ?_)
    · skip
      refine .skip ?_
      refine .code ?_
      refine .seq ?_
      refine .keep (.cons (k := 0) rfl (.cons (k := 1) rfl (.cons (k := 5) rfl (.cons (k := 6) rfl (.nil _))))) ?_
      refine GC.join0 (σ := Int) (fun j42 a w => ∃ (F_43 : Fz), F_9 ≤ F_43 ∧ Hd 31 [] [(0, (.slice p2 l_1.length k3)), (1, (.int .i64 n_5)), (5, (.int .i64 j42)), (6, (.int .i64 s8.2))] F_43 [R] a w) (fun sj => ?_) (fun j42 hs0 => GE.ex (fun a w ⟨F_43, l_44, hA⟩ => ⟨_, hA, ?_⟩))
      · skip
        refine .block ?_
        refine .seq ?_
        refine .region ?_
        refine .move rfl rfl ?_
        refine .move rfl rfl ?_
        refine .idx rfl Try.underlying22 Try.sizeOf70 (h4.mono l_10) rfl rfl (fun x12 b13 o14 T15 fr16 cs17 e18 hm19 hv20 => ?_)
        refine .fieldAddr rfl Try.underlying70 rfl Try.sizeOf3 rfl ?_
        refine .loadF rfl Try.isAgg3 rfl hm19 (cell_of_take (k := 1) hv20 rfl) ?_
        refine .move rfl rfl ?_
        refine .leq rfl rfl rfl ?_
        refine .move rfl rfl ?_
        refine .andM (b := (decide (x12.First ≤ n_5))) 8 28 (fun hb22 z37 => ?_) (fun hb33 => ?_) (fun z36 F_34 l_35 => ?_)
        · skip
          refine .onH hb22 rfl rfl ?_
          refine .move rfl rfl ?_
          refine .onH hb22 rfl rfl ?_
          refine .move rfl rfl ?_
          refine .onH hb22 rfl rfl ?_
          refine .move rfl rfl ?_
          refine .onH hb22 rfl rfl ?_
          refine .idx rfl Try.underlying22 Try.sizeOf70 (h4.mono l_10) rfl rfl (fun x23 b24 o25 T26 fr27 cs28 e29 hm30 hv31 => ?_)
          refine .onH hb22 rfl rfl ?_
          refine .fieldAddr rfl Try.underlying70 rfl Try.sizeOf3 rfl ?_
          refine .onH hb22 rfl rfl ?_
          refine .loadF rfl Try.isAgg3 rfl hm30 (cell_of_take (k := 2) hv31 rfl) ?_
          refine .onH hb22 rfl rfl ?_
          refine .leq rfl rfl rfl ?_
          refine .pickTH hb22 rfl rfl rfl ?_
          exact .finZ 8 rfl rfl (by kernel_rfl) (Fz.le_refl _)
        · skip
          refine .offH hb33 rfl rfl rfl ?_
          refine .offH hb33 rfl rfl rfl ?_
          refine .offH hb33 rfl rfl rfl ?_
          refine .offH hb33 rfl rfl rfl ?_
          refine .offH hb33 rfl rfl rfl ?_
          refine .offH hb33 rfl rfl rfl ?_
          refine .offH hb33 rfl rfl rfl ?_
          refine .pickFH hb33 rfl rfl rfl ?_
          exact .fin 8 rfl rfl (by kernel_rfl) (Fz.le_refl _)
        refine .nil ?_
        refine .code ?_
        refine .keep (.cons (k := 0) rfl (.cons (k := 1) rfl (.cons (k := 5) rfl (.cons (k := 6) rfl (.cons (k := 28) rfl (.nil _)))))) ?_
        refine GC.join0 (σ := Int) (fun j39 a w => ∃ (F_40 : Fz), F_34 ≤ F_40 ∧ Hd 31 [] [(0, (.slice p2 l_1.length k3)), (1, (.int .i64 n_5)), (5, (.int .i64 j39)), (6, (.int .i64 s8.2))] F_40 [R] a w) (fun sj => ?_) (fun j39 hs0 => GE.ex (fun a w ⟨F_40, l_41, hA⟩ => ⟨_, hA, ?_⟩))
        · skip
          refine .cond rfl (fun hb38 => ?_) (fun hb38 => ?_)
          · skip
            refine .region ?_
            refine .move rfl rfl ?_
            refine .assign rfl rfl ?_
            refine .nil ?_
            exact .nil fun e a w h => by cases e; exact ⟨rfl, ⟨F_34, (Fz.le_refl _), h.1.sub (.cons (k := 0) rfl (.cons (k := 1) rfl (.cons (k := 5) rfl (.cons (k := 6) rfl (.nil _))))), h.2⟩⟩
          · skip
            refine .skip ?_
            exact .nil fun e a w h => by cases e; exact ⟨rfl, ⟨F_34, (Fz.le_refl _), h.1.sub (.cons (k := 0) rfl (.cons (k := 1) rfl (.cons (k := 5) rfl (.cons (k := 6) rfl (.nil _))))), h.2⟩⟩
        refine .block ?_
        exact .nil fun e a w h => by cases e; exact ⟨rfl, ⟨F_40, (Fz.le_trans l_35 l_41), h.1.sub (.cons (k := 0) rfl (.cons (k := 1) rfl (.cons (k := 5) rfl (.cons (k := 6) rfl (.nil _))))), h.2⟩⟩
      refine .code ?_
      refine .region ?_
      refine .move rfl rfl ?_
      refine .add rfl rfl rfl ?_
      refine .assignL rfl rfl (fun i45 e46 => ?_)
      refine .nil ?_
      exact .nil (LPost.norm fun a w h => ⟨F_43, (Fz.le_trans l_10 l_44), h.1.sub (.cons (k := 0) rfl (.cons (k := 1) rfl (.cons (k := 5) rfl (.cons (k := 6) rfl (.nil _))))), h.2⟩)
    · skip
      refine .exitOut rfl (LPost.exit fun a w h => ⟨rfl, F_9, l_10, h.1.sub (.cons (k := 5) rfl (.nil _)), h.2⟩)
  · intro b47 hb0 hk e a w hD
    obtain ⟨rfl, F_48, l_49, hA⟩ := hD
    refine interp_exit rfl (GE.app ?_ hk a w hA)
    refine .code ?_
    refine .seq ?_
    refine .region ?_
    refine .move rfl rfl ?_
    refine .assign rfl rfl ?_
    refine .nil ?_
    refine .code ?_
    exact .ret0 Try.results41 (.tmp rfl (.nil)) (i := 0) rfl l_49 rfl

noncomputable def m_wormtubref12_hand (l_1 : (List ApiStampEvent)) (n_5 : Int) : Option Bool :=
  (m_wormtubref12_last l_1 n_5).bind fun r_8 => (if (decide (r_8 ≥ 0)) then ((idxL l_1 r_8).bind fun x10 => some (x10.Kind == 0)) else some false).bind fun z23 => some z23
theorem c_wormtubref12_hand (F0 : Fz) (l_1 : (List ApiStampEvent)) (p2 : Option Addr) (k3 : Nat) (h4 : RepSl 4 (Ex cApiStampEvent) F0 p2 k3 l_1) (n_5 : Int) : CT0 Try.prog 42 [(.slice p2 l_1.length k3), (.int .i64 n_5)].toArray F0 (m_wormtubref12_hand l_1 n_5) (fun r _ v => v = (.bool r)) := by
  refine CT0.enter Try.func42 rfl Try.ntmps42 rfl fun r R => ?_
  unfold m_wormtubref12_hand
  refine .seq ?_
  refine .region ?_
  refine .assign rfl rfl ?_
  refine .nil ?_
  refine .code ?_
  refine .seq ?_
  refine .region ?_
  refine .move rfl rfl ?_
  refine .move rfl rfl ?_
  refine .call0 rfl Try.call41 rfl rfl rfl (c_wormtubref12_last _ l_1 p2 k3 h4 n_5) ?_
  rintro r_8 F_6 _ - l_7 rfl
  refine .assign rfl rfl ?_
  refine .nil ?_
  refine .code ?_
  refine .seq ?_
  refine .region ?_
  refine .move rfl rfl ?_
  refine .geq rfl rfl rfl ?_
  refine .move rfl rfl ?_
  refine .andM (b := (decide (r_8 ≥ 0))) 7 18 (fun hb9 z24 => ?_) (fun hb20 => ?_) (fun z23 F_21 l_22 => ?_)
  · skip
    refine .onH hb9 rfl rfl ?_
    refine .move rfl rfl ?_
    refine .onH hb9 rfl rfl ?_
    refine .move rfl rfl ?_
    refine .onH hb9 rfl rfl ?_
    refine .idx rfl Try.underlying22 Try.sizeOf70 (h4.mono l_7) rfl rfl (fun x10 b11 o12 T13 fr14 cs15 e16 hm17 hv18 => ?_)
    refine .onH hb9 rfl rfl ?_
    refine .fieldAddr rfl Try.underlying70 rfl Try.sizeOf3 rfl ?_
    refine .onH hb9 rfl rfl ?_
    refine .loadF rfl Try.isAgg3 rfl hm17 (cell_of_take (k := 0) hv18 rfl) ?_
    refine .onH hb9 rfl rfl ?_
    refine .eql rfl rfl rfl ?_
    refine .pickTH hb9 rfl rfl rfl ?_
    exact .finZ 7 rfl rfl (by kernel_rfl) (Fz.le_refl _)
  · skip
    refine .offH hb20 rfl rfl rfl ?_
    refine .offH hb20 rfl rfl rfl ?_
    refine .offH hb20 rfl rfl rfl ?_
    refine .offH hb20 rfl rfl rfl ?_
    refine .offH hb20 rfl rfl rfl ?_
    refine .offH hb20 rfl rfl rfl ?_
    refine .pickFH hb20 rfl rfl rfl ?_
    exact .fin 7 rfl rfl (by kernel_rfl) (Fz.le_refl _)
  refine .assign rfl rfl ?_
  refine .nil ?_
  refine .code ?_
  exact .ret0 Try.results42 (.tmp rfl (.nil)) (i := 0) rfl (Fz.le_trans l_7 l_22) rfl

noncomputable def b_wormtubref12_next_1 (l_1 : (List ApiStampEvent)) (is_6 : Bool) (r_9 : (List Int)) (s15 : Int × Int) : Option (Ctl (Int × Int) ((Int))) :=
  if (decide (s15.2 < (r_9.length : Int))) then (((idxL r_9 s15.2).bind fun x19 => (m_wormtubref12_hand l_1 x19).bind fun r_31 => (if (r_31 == is_6) then ((if (decide (s15.1 < 0)) then some true else ((idxL r_9 s15.2).bind fun x34 => some (decide (x34 < s15.1)))).bind fun z47 => some z47) else some false).bind fun z52 => (if z52 then ((idxL r_9 s15.2).bind fun x55 => some x55) else (some s15.1) : Option (Int)).bind fun j65 => some j65 : Option (Int)).bind fun j68 => bindv (w64 (s15.2 + 1)) fun i71 => some (.next (j68, i71))) else (some (.done s15.1))
noncomputable def m_wormtubref12_next (l_1 : (List ApiStampEvent)) (above5 : Int) (is_6 : Bool) : Option Int :=
  (m_wormtubref12_ends l_1 (w64 (above5 + 1)) 1099511627777).bind fun r_9 => bindv (-1) fun out13 => (loopM (b_wormtubref12_next_1 l_1 is_6 r_9) (out13, 0)).bind fun b73 => some b73
theorem c_wormtubref12_next (F0 : Fz) (l_1 : (List ApiStampEvent)) (p2 : Option Addr) (k3 : Nat) (h4 : RepSl 4 (Ex cApiStampEvent) F0 p2 k3 l_1) (above5 : Int) (is_6 : Bool) : CT0 Try.prog 78 [(.slice p2 l_1.length k3), (.int .i64 above5), (.bool is_6)].toArray F0 (m_wormtubref12_next l_1 above5 is_6) (fun r _ v => v = (.int .i64 r)) := by
  refine CT0.enter Try.func78 rfl Try.ntmps78 rfl fun r R => ?_
  unfold m_wormtubref12_next
  refine .seq ?_
  refine .region ?_
  refine .assign rfl rfl ?_
  refine .nil ?_
  refine .code ?_
  refine .seq ?_
  refine .region ?_
  refine .move rfl rfl ?_
  refine .move rfl rfl ?_
  refine .add rfl rfl rfl ?_
  refine .call0 rfl Try.call40 rfl rfl rfl (c_wormtubref12_ends _ l_1 p2 k3 h4 (w64 (above5 + 1)) 1099511627777) ?_
  rintro r_9 F_7 _ - l_8 ⟨p10, k11, rfl, h12⟩
  refine .assign rfl rfl ?_
  refine .nil ?_
  refine .code ?_
  refine .seq ?_
  refine .region ?_
  refine .assignL rfl rfl (fun out13 e14 => ?_)
  refine .nil ?_
  refine .code ?_
  refine .seq ?_
  refine .seq ?_
  refine .region ?_
  refine .assign rfl rfl ?_
  refine .nil ?_
  refine .code ?_
  refine .block ?_
  refine .keep (.cons (k := 0) rfl (.cons (k := 2) rfl (.cons (k := 7) rfl (.cons (k := 8) rfl (.cons (k := 9) rfl (.nil _)))))) ?_
  refine .loop (fun (s15 : Int × Int) a w => ∃ (F_16 : Fz), F_7 ≤ F_16 ∧ Hd 45 [] [(0, (.slice p2 l_1.length k3)), (2, (.bool is_6)), (7, (.slice p10 r_9.length k11)), (8, (.int .i64 s15.1)), (9, (.int .i64 s15.2))] F_16 [R] a w) (fun b73 e a w => e = .exit 0 ∧ ∃ (F_74 : Fz), F_7 ≤ F_74 ∧ Hd 45 [] [(8, (.int .i64 b73))] F_74 [R] a w) ?_ ?_ ?_
  · exact fun a w h => ⟨F_7, (Fz.le_refl _), h.1.sub (.cons (k := 0) rfl (.cons (k := 2) rfl (.cons (k := 7) rfl (.cons (k := 8) rfl (.cons (k := 9) rfl (.nil _)))))), h.2⟩
  · intro s15 ctl
    refine GC.ex (fun a w ⟨F_16, l_17, hA⟩ => ⟨_, hA, ?_⟩)
    unfold b_wormtubref12_next_1
    refine .seq ?_
    refine .seq ?_
    refine .region ?_
    refine .move rfl rfl ?_
    refine .move rfl rfl ?_
    refine .lenS rfl rfl Try.underlying40 rfl ?_
    refine .lss rfl rfl rfl ?_
    refine .nil ?_
    refine .code ?_
    refine .cond rfl (fun hb18 => ?_) (fun hb18 => ?_)
    · skip
      refine .skip ?_
      refine .code ?_
      refine .seq ?_
      refine .keep (.cons (k := 0) rfl (.cons (k := 2) rfl (.cons (k := 7) rfl (.cons (k := 8) rfl (.cons (k := 9) rfl (.nil _)))))) ?_
      refine GC.join0 (σ := Int) (fun j68 a w => ∃ (F_69 : Fz), F_16 ≤ F_69 ∧ Hd 45 [] [(0, (.slice p2 l_1.length k3)), (2, (.bool is_6)), (7, (.slice p10 r_9.length k11)), (8, (.int .i64 j68)), (9, (.int .i64 s15.2))] F_69 [R] a w) (fun sj => ?_) (fun j68 hs0 => GE.ex (fun a w ⟨F_69, l_70, hA⟩ => ⟨_, hA, ?_⟩))
      · skip
        refine .block ?_
        refine .seq ?_
        refine .region ?_
        refine .move rfl rfl ?_
        refine .move rfl rfl ?_
        refine .move rfl rfl ?_
        refine .idx rfl Try.underlying40 Try.sizeOf3 (h12.mono l_17) rfl rfl (fun x19 b20 o21 T22 fr23 cs24 e25 hm26 hv27 => ?_)
        refine .loadF rfl Try.isAgg3 rfl hm26 (cell_of_take (k := 0) hv27 rfl) ?_
        refine .call0 rfl Try.call42 rfl rfl rfl (c_wormtubref12_hand _ l_1 p2 k3 (h4.mono (Fz.le_trans l_8 l_17)) x19) ?_
        rintro r_31 F_29 _ - l_30 rfl
        refine .move rfl rfl ?_
        refine .eqlB rfl Try.underlying4 rfl rfl ?_
        refine .move rfl rfl ?_
        refine .andM (b := (r_31 == is_6)) 11 39 (fun hb32 z53 => ?_) (fun hb49 => ?_) (fun z52 F_50 l_51 => ?_)
        · skip
          refine .onH hb32 rfl rfl ?_
          refine .move rfl rfl ?_
          refine .onH hb32 rfl rfl ?_
          refine .lss rfl rfl rfl ?_
          refine .onH hb32 rfl rfl ?_
          refine .move rfl rfl ?_
          refine .orM (b := (decide (s15.1 < 0))) 7 38 (fun hb33 z48 => ?_) (fun hb44 => ?_) (fun z47 F_45 l_46 => ?_)
          · skip
            refine .onH hb33 rfl rfl ?_
            refine .move rfl rfl ?_
            refine .onH hb33 rfl rfl ?_
            refine .move rfl rfl ?_
            refine .onH hb33 rfl rfl ?_
            refine .idx rfl Try.underlying40 Try.sizeOf3 (h12.mono (Fz.le_trans l_17 l_30)) rfl rfl (fun x34 b35 o36 T37 fr38 cs39 e40 hm41 hv42 => ?_)
            refine .onH hb33 rfl rfl ?_
            refine .loadF rfl Try.isAgg3 rfl hm41 (cell_of_take (k := 0) hv42 rfl) ?_
            refine .onH hb33 rfl rfl ?_
            refine .move rfl rfl ?_
            refine .onH hb33 rfl rfl ?_
            refine .lss rfl rfl rfl ?_
            refine .onH hb32 rfl rfl ?_
            refine .pickFH hb33 rfl rfl rfl ?_
            exact .finZ 7 rfl rfl (by kernel_rfl) (Fz.le_refl _)
          · skip
            refine .offH hb44 rfl rfl rfl ?_
            refine .offH hb44 rfl rfl rfl ?_
            refine .offH hb44 rfl rfl rfl ?_
            refine .offH hb44 rfl rfl rfl ?_
            refine .offH hb44 rfl rfl rfl ?_
            refine .offH hb44 rfl rfl rfl ?_
            refine .onH hb32 rfl rfl ?_
            refine .pickTH hb44 rfl rfl rfl ?_
            exact .fin 7 rfl rfl (by kernel_rfl) (Fz.le_refl _)
          refine .pickTH hb32 rfl rfl rfl ?_
          exact .finZ 5 rfl rfl (by kernel_rfl) l_46
        · skip
          refine .offH hb49 rfl rfl rfl ?_
          refine .offH hb49 rfl rfl rfl ?_
          refine .offH hb49 rfl rfl rfl ?_
          refine .off rfl rfl rfl rfl ?_
          refine .off rfl rfl rfl rfl ?_
          refine .off rfl rfl rfl rfl ?_
          refine .off rfl rfl rfl rfl ?_
          refine .off rfl rfl rfl rfl ?_
          refine .off rfl rfl rfl rfl ?_
          refine .offH hb49 rfl rfl rfl ?_
          refine .pickFH hb49 rfl rfl rfl ?_
          exact .fin 11 rfl rfl (by kernel_rfl) (Fz.le_refl _)
        refine .nil ?_
        refine .code ?_
        refine .keep (.cons (k := 0) rfl (.cons (k := 2) rfl (.cons (k := 7) rfl (.cons (k := 8) rfl (.cons (k := 9) rfl (.cons (k := 39) rfl (.nil _))))))) ?_
        refine GC.join0 (σ := Int) (fun j65 a w => ∃ (F_66 : Fz), F_50 ≤ F_66 ∧ Hd 45 [] [(0, (.slice p2 l_1.length k3)), (2, (.bool is_6)), (7, (.slice p10 r_9.length k11)), (8, (.int .i64 j65)), (9, (.int .i64 s15.2))] F_66 [R] a w) (fun sj => ?_) (fun j65 hs0 => GE.ex (fun a w ⟨F_66, l_67, hA⟩ => ⟨_, hA, ?_⟩))
        · skip
          refine .cond rfl (fun hb54 => ?_) (fun hb54 => ?_)
          · skip
            refine .region ?_
            refine .move rfl rfl ?_
            refine .move rfl rfl ?_
            refine .idx rfl Try.underlying40 Try.sizeOf3 (h12.mono (Fz.le_trans l_17 (Fz.le_trans l_30 l_51))) rfl rfl (fun x55 b56 o57 T58 fr59 cs60 e61 hm62 hv63 => ?_)
            refine .loadF rfl Try.isAgg3 rfl hm62 (cell_of_take (k := 0) hv63 rfl) ?_
            refine .assign rfl rfl ?_
            refine .nil ?_
            exact .nil fun e a w h => by cases e; exact ⟨rfl, ⟨F_50, (Fz.le_refl _), h.1.sub (.cons (k := 0) rfl (.cons (k := 2) rfl (.cons (k := 7) rfl (.cons (k := 8) rfl (.cons (k := 9) rfl (.nil _)))))), h.2⟩⟩
          · skip
            refine .skip ?_
            exact .nil fun e a w h => by cases e; exact ⟨rfl, ⟨F_50, (Fz.le_refl _), h.1.sub (.cons (k := 0) rfl (.cons (k := 2) rfl (.cons (k := 7) rfl (.cons (k := 8) rfl (.cons (k := 9) rfl (.nil _)))))), h.2⟩⟩
        refine .block ?_
        exact .nil fun e a w h => by cases e; exact ⟨rfl, ⟨F_66, (Fz.le_trans l_30 (Fz.le_trans l_51 l_67)), h.1.sub (.cons (k := 0) rfl (.cons (k := 2) rfl (.cons (k := 7) rfl (.cons (k := 8) rfl (.cons (k := 9) rfl (.nil _)))))), h.2⟩⟩
      refine .code ?_
      refine .region ?_
      refine .move rfl rfl ?_
      refine .add rfl rfl rfl ?_
      refine .assignL rfl rfl (fun i71 e72 => ?_)
      refine .nil ?_
      exact .nil (LPost.norm fun a w h => ⟨F_69, (Fz.le_trans l_17 l_70), h.1.sub (.cons (k := 0) rfl (.cons (k := 2) rfl (.cons (k := 7) rfl (.cons (k := 8) rfl (.cons (k := 9) rfl (.nil _)))))), h.2⟩)
    · skip
      refine .exitOut rfl (LPost.exit fun a w h => ⟨rfl, F_16, l_17, h.1.sub (.cons (k := 8) rfl (.nil _)), h.2⟩)
  · intro b73 hb0 hk e a w hD
    obtain ⟨rfl, F_74, l_75, hA⟩ := hD
    refine interp_exit rfl (GE.app ?_ hk a w hA)
    refine .code ?_
    refine .seq ?_
    refine .region ?_
    refine .move rfl rfl ?_
    refine .assign rfl rfl ?_
    refine .nil ?_
    refine .code ?_
    exact .ret0 Try.results78 (.tmp rfl (.nil)) (i := 0) rfl (Fz.le_trans l_8 l_75) rfl

noncomputable def b_wormtubref12_held_1 (l_1 : (List ApiStampEvent)) (s9 : (List ApiSpan) × Int) : Option (Ctl ((List ApiSpan) × Int) (((List ApiSpan)))) :=
  if (decide (s9.2 ≥ 0)) then ((m_wormtubref12_next l_1 s9.2 false).bind fun r_18 => (appO s9.1 ([(ApiSpan.mk s9.2 (w64 (r_18 - 1)))])).bind fun l_24 => (m_wormtubref12_next l_1 r_18 true).bind fun r_30 => some (.next (l_24, r_30))) else (some (.done s9.1))
noncomputable def m_wormtubref12_held (l_1 : (List ApiStampEvent)) : Option (List ApiSpan) :=
  (m_wormtubref12_next l_1 (-1) true).bind fun r_7 => (loopM (b_wormtubref12_held_1 l_1) ([], r_7)).bind fun b31 => some b31
theorem c_wormtubref12_held (F0 : Fz) (l_1 : (List ApiStampEvent)) (p2 : Option Addr) (k3 : Nat) (h4 : RepSl 4 (Ex cApiStampEvent) F0 p2 k3 l_1) : CT0 Try.prog 43 [(.slice p2 l_1.length k3)].toArray F0 (m_wormtubref12_held l_1) (fun r F v => ∃ p0 k0, v = (.slice p0 r.length k0) ∧ RepSl 2 (Ex cApiSpan) F p0 k0 r) := by
  refine CT0.enter Try.func43 rfl Try.ntmps43 rfl fun r R => ?_
  unfold m_wormtubref12_held
  refine .seq ?_
  refine .region ?_
  refine .assign rfl rfl ?_
  refine .nil ?_
  refine .code ?_
  refine .seq ?_
  refine .region ?_
  refine .assign rfl rfl ?_
  refine .nil ?_
  refine .code ?_
  refine .seq ?_
  refine .seq ?_
  refine .region ?_
  refine .move rfl rfl ?_
  refine .call0 rfl Try.call78 rfl rfl rfl (c_wormtubref12_next _ l_1 p2 k3 h4 (-1) true) ?_
  rintro r_7 F_5 _ - l_6 rfl
  refine .assign rfl rfl ?_
  refine .nil ?_
  refine .code ?_
  refine .block ?_
  refine .ownNil 2 (Ex cApiSpan) 36 ?_
  refine .keep (.cons (k := 0) rfl (.cons (k := 3) rfl (.cons (k := 4) rfl (.nil _)))) ?_
  refine .loop (fun (s9 : (List ApiSpan) × Int) a w => ∃ (F_10 : Fz) (p12 : Option Addr) (k13 : Nat), F_5 ≤ F_10 ∧ Hd 24 [] [(0, (.slice p2 l_1.length k3)), (3, (.slice p12 s9.1.length k13)), (4, (.int .i64 s9.2))] F_10 [ownSl 2 (Ex cApiSpan) F_10 36 p12 k13 s9.1, R] a w) (fun b31 e a w => e = .exit 0 ∧ ∃ (F_32 : Fz) (p34 : Option Addr) (k35 : Nat), F_5 ≤ F_32 ∧ Hd 24 [] [(3, (.slice p34 b31.length k35))] F_32 [ownSl 2 (Ex cApiSpan) F_32 36 p34 k35 b31, R] a w) ?_ ?_ ?_
  · exact fun a w h => ⟨F_5, none, 0, (Fz.le_refl _), h.1.sub (.cons (k := 0) rfl (.cons (k := 3) rfl (.cons (k := 4) rfl (.nil _)))), h.2⟩
  · intro s9 ctl
    refine GC.ex (fun a w ⟨F_10, p12, k13, l_11, hA⟩ => ⟨_, hA, ?_⟩)
    unfold b_wormtubref12_held_1
    refine .seq ?_
    refine .seq ?_
    refine .region ?_
    refine .move rfl rfl ?_
    refine .geq rfl rfl rfl ?_
    refine .nil ?_
    refine .code ?_
    refine .cond rfl (fun hb15 => ?_) (fun hb15 => ?_)
    · skip
      refine .skip ?_
      refine .code ?_
      refine .block ?_
      refine .seq ?_
      refine .region ?_
      refine .move rfl rfl ?_
      refine .move rfl rfl ?_
      refine .call0 rfl Try.call78 rfl rfl rfl (c_wormtubref12_next _ l_1 p2 k3 (h4.mono (Fz.le_trans l_6 l_11)) s9.2 false) ?_
      rintro r_18 F_16 _ - l_17 rfl
      refine .assign rfl rfl ?_
      refine .nil ?_
      refine .code ?_
      refine .seq ?_
      refine .region ?_
      refine .move rfl rfl ?_
      refine .move rfl rfl ?_
      refine .move rfl rfl ?_
      refine .sub rfl rfl rfl ?_
      refine .build (cs := (cApiSpan (ApiSpan.mk s9.2 (w64 (r_18 - 1)))).toArray) rfl Try.underlying36 Try.zeroValue36 (plApiSpan _ Try.underlying36) rfl rfl (by kernel_rfl) ?_
      refine .sliceLit (cs := [.int .i64 (ApiSpan.mk s9.2 (w64 (r_18 - 1))).Lo, .int .i64 (ApiSpan.mk s9.2 (w64 (r_18 - 1))).Hi]) (zc := [.int .i64 (ApiSpan.mk 0 0).Lo, .int .i64 (ApiSpan.mk 0 0).Hi]) rfl Try.underlying24 Try.sizeOf36 Try.zeroValue36 rfl rfl rfl (by kernel_rfl) (by kernel_rfl) (fun b19 F_20 l_21 hb22 => ?_)
      have h23 : RepSl 2 (Ex cApiSpan) F_20 (some ⟨b19, 0, none⟩) 1 ([(ApiSpan.mk s9.2 (w64 (r_18 - 1)))]) := RepSl.ofRow hb22 (.cons ok_t36.mono rfl .nil) rfl rfl
      refine .append 0 ok_t36 (Fz.le_trans l_17 l_21) rfl Try.underlying24 Try.underlying24 rfl rfl rfl h23 rfl rfl (fun l_24 p25 k26 e27 => ?_)
      refine .assign rfl rfl ?_
      refine .nil ?_
      refine .code ?_
      refine .region ?_
      refine .move rfl rfl ?_
      refine .move rfl rfl ?_
      refine .call0 rfl Try.call78 rfl rfl rfl (c_wormtubref12_next _ l_1 p2 k3 (h4.mono (Fz.le_trans l_6 (Fz.le_trans l_11 (Fz.le_trans l_17 l_21)))) r_18 true) ?_
      rintro r_30 F_28 _ - l_29 rfl
      refine .assign rfl rfl ?_
      refine .nil ?_
      refine .block ?_
      refine .ownUp 0 l_29 rfl ?_
      exact .nil (LPost.norm fun a w h => ⟨F_28, p25, k26, (Fz.le_trans l_11 (Fz.le_trans l_17 (Fz.le_trans l_21 l_29))), h.1.sub (.cons (k := 0) rfl (.cons (k := 3) rfl (.cons (k := 4) rfl (.nil _)))), h.2⟩)
    · skip
      refine .exitOut rfl (LPost.exit fun a w h => ⟨rfl, F_10, p12, k13, l_11, h.1.sub (.cons (k := 3) rfl (.nil _)), h.2⟩)
  · intro b31 hb0 hk e a w hD
    obtain ⟨rfl, F_32, p34, k35, l_33, hA⟩ := hD
    refine interp_exit rfl (GE.app ?_ hk a w hA)
    refine .code ?_
    refine .seq ?_
    refine .region ?_
    refine .move rfl rfl ?_
    refine .assign rfl rfl ?_
    refine .nil ?_
    refine .code ?_
    refine .freezeSl 0 rfl (Fz.le_refl _) (fun F_37 l_38 h39 => ?_)
    exact .ret0 Try.results43 (.tmp rfl (.nil)) (i := 0) rfl (Fz.le_trans l_6 (Fz.le_trans l_33 l_38)) ⟨p34, k35, rfl, h39⟩

noncomputable def b_wormtubref12_Stamps_2 (l_1 : (List ApiStampEvent)) (s8 : Int × ApiStampBook) (x15 : ApiStampEvent) (r_39 : (List Int)) (s73 : Int) : Option (Ctl (Int) ((Unit) ⊕ (ApiStampBook × Int × Int))) :=
  if (decide (s73 < (r_39.length : Int))) then ((if (x15.Kind == 0) then ((sliceL l_1 0 s8.1).bind fun l_79 => (idxL r_39 s73).bind fun x86 => (m_wormtubref12_last l_79 x86).bind fun r_98 => some (decide (r_98 ≥ 0))) else (some false) : Option (Bool)).bind fun j167 => if j167 then (some (.done (.inr ((ApiStampBook.mk ([]) 0 0 0), s8.1, 5)))) else ((if (x15.Kind != 0) then ((sliceL l_1 0 s8.1).bind fun l_173 => (idxL r_39 s73).bind fun x180 => (m_wormtubref12_hand l_173 x180).bind fun r_192 => some (!r_192)) else (some false) : Option (Bool)).bind fun j261 => if j261 then (some (.done (.inr ((ApiStampBook.mk ([]) 0 0 0), s8.1, 4)))) else (bindv (w64 (s73 + 1)) fun k265 => some (.next k265)))) else (some (.done (.inl ())))
noncomputable def b_wormtubref12_Stamps_1 (l_1 : (List ApiStampEvent)) (s8 : Int × ApiStampBook) : Option (Ctl (Int × ApiStampBook) ((ApiStampBook) ⊕ (ApiStampBook × Int × Int))) :=
  if (decide (s8.1 < (l_1.length : Int))) then ((idxL l_1 s8.1).bind fun x15 => if (!(m_wormtubref12_Event x15)) then (some (.done (.inr ((ApiStampBook.mk ([]) 0 0 0), s8.1, 1)))) else ((sliceL l_1 0 s8.1).bind fun l_30 => (m_wormtubref12_ends l_30 x15.First x15.Last).bind fun r_39 => (loopM (b_wormtubref12_Stamps_2 l_1 s8 x15 r_39) 0).bind fun b0 => match b0 with | .inl b267 => (bindv (w64 ((w64 (x15.Last - x15.First)) + 1)) fun n_275 => ((if (x15.Kind == 1) then (bindv ({ s8.2 with Stuck := (w64 (s8.2.Stuck + n_275)) }) fun x278 => some x278) else (if (x15.Kind == 2) then (bindv ({ s8.2 with Spoiled := (w64 (s8.2.Spoiled + n_275)) }) fun x282 => some x282) else (if (x15.Kind == 3) then (bindv ({ s8.2 with Returned := (w64 (s8.2.Returned + n_275)) }) fun x286 => some x286) else (some s8.2))) : Option (ApiStampBook)).bind fun j289 => some j289 : Option (ApiStampBook)).bind fun j295 => bindv (w64 (s8.1 + 1)) fun i301 => some (.next (i301, j295))) | .inr b267 => (some (.done (.inr (b267.1, b267.2.1, b267.2.2)))))) else (some (.done (.inl s8.2)))
noncomputable def m_wormtubref12_Stamps (l_1 : (List ApiStampEvent)) : Option (ApiStampBook × Int × Int) :=
  if (decide ((l_1.length : Int) > 256)) then (some ((ApiStampBook.mk ([]) 0 0 0), 0, 3)) else ((loopM (b_wormtubref12_Stamps_1 l_1) (0, (ApiStampBook.mk ([]) 0 0 0))).bind fun b0 => match b0 with | .inl b303 => ((m_wormtubref12_held l_1).bind fun r_316 => bindv ({ b303 with Hand := r_316 }) fun x320 => some (x320, (l_1.length : Int), 0)) | .inr b303 => (some (b303.1, b303.2.1, b303.2.2)))
theorem c_wormtubref12_Stamps (F0 : Fz) (l_1 : (List ApiStampEvent)) (p2 : Option Addr) (k3 : Nat) (h4 : RepSl 4 (Ex cApiStampEvent) F0 p2 k3 l_1) : CT0 Try.prog 13 [(.slice p2 l_1.length k3)].toArray F0 (m_wormtubref12_Stamps l_1) (fun r F v => ∃ p0 k0, v = .tuple #[(eApiStampBook r.1 p0 k0), (.int .i64 r.2.1), (.int .i64 r.2.2)] ∧ RepSl 2 (Ex cApiSpan) F p0 k0 r.1.Hand) := by
  refine CT0.enter Try.func13 rfl Try.ntmps13 rfl fun r R => ?_
  unfold m_wormtubref12_Stamps
  refine .seq ?_
  refine .region ?_
  refine .alloc (cs := (cApiStampBook (ApiStampBook.mk ([]) 0 0 0) none 0)) rfl Try.zeroValue26 rfl (fun b5 => ?_)
  refine .assign rfl rfl ?_
  refine .assign rfl rfl ?_
  refine .nil ?_
  refine .code ?_
  refine .seq ?_
  refine .seq ?_
  refine .region ?_
  refine .move rfl rfl ?_
  refine .lenS rfl rfl Try.underlying22 rfl ?_
  refine .gtr rfl rfl rfl ?_
  refine .nil ?_
  refine .code ?_
  refine .cond rfl (fun hb6 => ?_) (fun hb6 => ?_)
  · skip
    refine .seq ?_
    refine .region ?_
    refine .build (cs := (cApiStampBook (ApiStampBook.mk ([]) 0 0 0) none 0).toArray) rfl Try.underlying26 Try.zeroValue26 (plApiStampBook _ Try.underlying26) rfl rfl (by kernel_rfl) ?_
    refine .store (cs' := (cApiStampBook (ApiStampBook.mk ([]) 0 0 0) none 0)) Try.sizeOf26 rfl rfl rfl rfl (i := 0) rfl (Nat.le_of_ble_eq_true rfl) rfl (setMany_all (by rfl)) ?_
    refine .assign rfl rfl ?_
    refine .assign rfl rfl ?_
    refine .nil ?_
    refine .code ?_
    exact .ret0 Try.results13 (.agg rfl Try.isAgg26 Try.sizeOf26 (i := 0) rfl (vs' := (cApiStampBook (ApiStampBook.mk ([]) 0 0 0) none 0)) (by kernel_rfl) rfl (.tmp rfl (.tmp rfl (.nil)))) (i := 1) rfl (Fz.le_refl _) ⟨none, 0, rfl, RepSl.nil⟩
  · skip
    refine .skip ?_
    refine .code ?_
    refine .seq ?_
    refine .region ?_
    refine .alloc (cs := (cApiStampBook (ApiStampBook.mk ([]) 0 0 0) none 0)) rfl Try.zeroValue26 rfl (fun b7 => ?_)
    refine .nil ?_
    refine .code ?_
    refine .seq ?_
    refine .seq ?_
    refine .region ?_
    refine .assign rfl rfl ?_
    refine .nil ?_
    refine .code ?_
    refine .block ?_
    refine .keep (.cons (k := 0) rfl (.cons (k := 2) rfl (.cons (k := 5) rfl (.cons (k := 6) rfl (.nil _))))) ?_
    refine .loop (fun (s8 : Int × ApiStampBook) a w => ∃ (F_9 : Fz) (p11 : Option Addr) (k12 : Nat), F0 ≤ F_9 ∧ RepSl 2 (Ex cApiSpan) F_9 p11 k12 s8.2.Hand ∧ Hd 111 [] [(0, (.slice p2 l_1.length k3)), (2, (.pointer (some ⟨b5, 0, none⟩))), (5, (.pointer (some ⟨b7, 0, none⟩))), (6, (.int .i64 s8.1))] F_9 [pt b7 (.cells (cApiStampBook s8.2 p11 k12).toArray 26), pt b5 (.cells (cApiStampBook (ApiStampBook.mk ([]) 0 0 0) none 0).toArray 26), R] a w) (fun b0 e a w => match b0 with | .inl b303 => e = .exit 0 ∧ ∃ (F_304 : Fz) (p306 : Option Addr) (k307 : Nat), F0 ≤ F_304 ∧ RepSl 2 (Ex cApiSpan) F_304 p306 k307 b303.Hand ∧ Hd 111 [] [(0, (.slice p2 l_1.length k3)), (2, (.pointer (some ⟨b5, 0, none⟩))), (5, (.pointer (some ⟨b7, 0, none⟩)))] F_304 [pt b7 (.cells (cApiStampBook b303 p306 k307).toArray 26), pt b5 (.cells (cApiStampBook (ApiStampBook.mk ([]) 0 0 0) none 0).toArray 26), R] a w | .inr b303 => e = .ret ∧ ∃ (F_309 : Fz) (p311 : Option Addr) (k312 : Nat), F0 ≤ F_309 ∧ RepSl 2 (Ex cApiSpan) F_309 p311 k312 b303.1.Hand ∧ Hd 111 [] [(2, (.pointer (some ⟨b5, 0, none⟩))), (3, (.int .i64 b303.2.1)), (4, (.int .i64 b303.2.2))] F_309 [pt b5 (.cells (cApiStampBook b303.1 p311 k312).toArray 26), R] a w) ?_ ?_ ?_
    · exact fun a w h => ⟨F0, none, 0, (Fz.le_refl _), RepSl.nil, h.1.sub (.cons (k := 0) rfl (.cons (k := 2) rfl (.cons (k := 5) rfl (.cons (k := 6) rfl (.nil _))))), h.2⟩
    · intro s8 ctl
      refine GC.ex (fun a w ⟨F_9, p11, k12, l_10, h13, hA⟩ => ⟨_, hA, ?_⟩)
      unfold b_wormtubref12_Stamps_1
      refine .seq ?_
      refine .seq ?_
      refine .region ?_
      refine .move rfl rfl ?_
      refine .move rfl rfl ?_
      refine .lenS rfl rfl Try.underlying22 rfl ?_
      refine .lss rfl rfl rfl ?_
      refine .nil ?_
      refine .code ?_
      refine .cond rfl (fun hb14 => ?_) (fun hb14 => ?_)
      · skip
        refine .skip ?_
        refine .code ?_
        refine .seq ?_
        refine .block ?_
        refine .seq ?_
        refine .region ?_
        refine .move rfl rfl ?_
        refine .move rfl rfl ?_
        refine .idx rfl Try.underlying22 Try.sizeOf70 (h4.mono l_10) rfl rfl (fun x15 b16 o17 T18 fr19 cs20 e21 hm22 hv23 => ?_)
        refine .loadFA rfl Try.isAgg70 Try.sizeOf70 rfl hm22 hv23 rfl ?_
        refine .alloc (cs := (cApiStampEvent (ApiStampEvent.mk 0 0 0 0))) rfl Try.zeroValue70 rfl (fun b25 => ?_)
        refine .store (cs' := (cApiStampEvent x15)) Try.sizeOf70 rfl rfl rfl rfl (i := 0) rfl (Nat.le_of_ble_eq_true rfl) rfl (setMany_all (by rfl)) ?_
        refine .nil ?_
        refine .code ?_
        refine .seq ?_
        refine .seq ?_
        refine .region ?_
        refine .loadOA rfl Try.isAgg70 Try.sizeOf70 rfl (i := 0) rfl (vs := (cApiStampEvent x15)) (by kernel_rfl) rfl ?_
        refine .callP rfl Try.call39 rfl rfl rfl (c_wormtubref12_Event _ x15) ?_
        rintro F_26 _ l_27 rfl
        refine .not rfl rfl ?_
        refine .nil ?_
        refine .code ?_
        refine .cond rfl (fun hb28 => ?_) (fun hb28 => ?_)
        · skip
          refine .seq ?_
          refine .region ?_
          refine .build (cs := (cApiStampBook (ApiStampBook.mk ([]) 0 0 0) none 0).toArray) rfl Try.underlying26 Try.zeroValue26 (plApiStampBook _ Try.underlying26) rfl rfl (by kernel_rfl) ?_
          refine .move rfl rfl ?_
          refine .store (cs' := (cApiStampBook (ApiStampBook.mk ([]) 0 0 0) none 0)) Try.sizeOf26 rfl rfl rfl rfl (i := 2) rfl (Nat.le_of_ble_eq_true rfl) rfl (setMany_all (by rfl)) ?_
          refine .assign rfl rfl ?_
          refine .assign rfl rfl ?_
          refine .nil ?_
          refine .code ?_
          refine .drop 1 ?_
          refine .drop 0 ?_
          refine .retQ (LPost.ret fun a w h => ⟨rfl, F_26, none, 0, (Fz.le_trans l_10 l_27), (RepSl.nil.mono (Fz.le_trans l_10 l_27)), h.1.sub (.cons (k := 2) rfl (.cons (k := 3) rfl (.cons (k := 4) rfl (.nil _)))), h.2⟩)
        · skip
          refine .skip ?_
          refine .code ?_
          refine .seq ?_
          refine .keep (.cons (k := 0) rfl (.cons (k := 2) rfl (.cons (k := 5) rfl (.cons (k := 6) rfl (.cons (k := 7) rfl (.nil _)))))) ?_
          refine .bind (fun l_30 hx36 => ?_)
          refine .bind (fun r_39 hx44 => ?_)
          refine .drawG 8 0 (fun env29 => [((.slice p2 l_1.length k3), fun _ => True), ((.int .i64 s8.1), fun _ => True), ((.slice (env29.a 20) l_30.length (env29.n 20)), fun G => RepSl 4 (Ex cApiStampEvent) G (env29.a 20) (env29.n 20) l_30), ((.pointer (some ⟨b25, 0 + 1, none⟩)), fun _ => True), ((.int .i64 x15.First), fun _ => True), ((.pointer (some ⟨b25, 0 + 2, none⟩)), fun _ => True), ((.int .i64 x15.Last), fun _ => True), ((.slice (env29.a 70) r_39.length (env29.n 70)), fun G => RepSl 1 (Ex (cInt .i64)) G (env29.a 70) (env29.n 70) r_39)]) (fun L env29 => [pt b25 (.cells (cApiStampEvent x15).toArray 70), pt b7 (.cells (cApiStampBook s8.2 p11 k12).toArray 26), pt b5 (.cells (cApiStampBook (ApiStampBook.mk ([]) 0 0 0) none 0).toArray 26), R]) mixedOK (by kernel_rfl) (by kernel_rfl) rfl (fun _ => rfl) (by kernel_rfl) (fun _ => rfl) ?_ (fun env29 F_45 l_46 hphi => ?_)
          · skip
            refine .cons (fun L env29 F_47 l_48 hL hdn hup hphi => ⟨[(0, (.slice p2 l_1.length k3))], fun S hS hV => (.cons (hS _ _ rfl) (Sub.nil _)), ?_⟩) ?_
            · skip
              refine .move rfl rfl ?_
              exact .finV rfl rfl (Fz.le_refl _)
            refine .cons (fun L env29 F_49 l_50 hL hdn hup hphi => ⟨[(6, (.int .i64 s8.1))], fun S hS hV => (.cons (hS _ _ rfl) (Sub.nil _)), ?_⟩) ?_
            · skip
              refine .move rfl rfl ?_
              exact .finV rfl rfl (Fz.le_refl _)
            refine .cons (fun L env29 F_51 l_52 hL hdn hup hphi => ⟨[(30, (.slice p2 l_1.length k3)), (31, (.int .i64 s8.1))], fun S hS hV => (.cons (hV 0 30 _ (hdn 1 0 rfl) rfl rfl) (.cons (hV 1 31 _ (hdn 1 1 rfl) rfl rfl) (Sub.nil _))), ?_⟩) ?_
            · skip
              refine .sliceHiK hx36 rfl Try.underlying22 Try.sizeOf70 (h4.mono (Fz.le_trans l_10 (Fz.le_trans l_27 l_52))) rfl rfl (fun p54 k55 h57 => ?_)
              exact .finQ ({ env29 with a := (updN env29.a 20 p54), n := (updN env29.n 20 k55), c := env29.c }) [true, true, false, true, true, true, true, false] rfl (by kernel_rfl) rfl rfl (Fz.le_refl _) (fun _ le => h57.mono le) (cons_eq rfl (cons_eq rfl (cons_eq rfl (cons_eq rfl rfl))))
            refine .cons (fun L env29 F_58 l_59 hL hdn hup hphi => ⟨[(7, (.pointer (some ⟨b25, 0, none⟩)))], fun S hS hV => (.cons (hS _ _ rfl) (Sub.nil _)), ?_⟩) ?_
            · skip
              refine .fieldAddr rfl Try.underlying70 rfl Try.sizeOf3 rfl ?_
              exact .finV rfl rfl (Fz.le_refl _)
            refine .cons (fun L env29 F_60 l_61 hL hdn hup hphi => ⟨[(33, (.pointer (some ⟨b25, 0 + 1, none⟩)))], fun S hS hV => (.cons (hV 3 33 _ (hdn 1 3 rfl) rfl rfl) (Sub.nil _)), ?_⟩) ?_
            · skip
              refine .loadO rfl Try.isAgg3 rfl (i := 0) rfl rfl ?_
              exact .finV rfl rfl (Fz.le_refl _)
            refine .cons (fun L env29 F_62 l_63 hL hdn hup hphi => ⟨[(7, (.pointer (some ⟨b25, 0, none⟩)))], fun S hS hV => (.cons (hS _ _ rfl) (Sub.nil _)), ?_⟩) ?_
            · skip
              refine .fieldAddr rfl Try.underlying70 rfl Try.sizeOf3 rfl ?_
              exact .finV rfl rfl (Fz.le_refl _)
            refine .cons (fun L env29 F_64 l_65 hL hdn hup hphi => ⟨[(35, (.pointer (some ⟨b25, 0 + 2, none⟩)))], fun S hS hV => (.cons (hV 5 35 _ (hdn 1 5 rfl) rfl rfl) (Sub.nil _)), ?_⟩) ?_
            · skip
              refine .loadO rfl Try.isAgg3 rfl (i := 0) rfl rfl ?_
              exact .finV rfl rfl (Fz.le_refl _)
            refine .cons (fun L env29 F_66 l_67 hL hdn hup hphi => ⟨[(32, (.slice (env29.a 20) l_30.length (env29.n 20))), (34, (.int .i64 x15.First)), (36, (.int .i64 x15.Last))], fun S hS hV => (.cons (hV 2 32 _ (hdn 1 2 rfl) rfl rfl) (.cons (hV 4 34 _ (hdn 1 4 rfl) rfl rfl) (.cons (hV 6 36 _ (hdn 1 6 rfl) rfl rfl) (Sub.nil _)))), ?_⟩) ?_
            · skip
              have h35 := hphi 2 _ (hdn 1 2 rfl) rfl _ (Fz.le_refl _)
              refine .callK hx44 rfl Try.call40 rfl rfl rfl (c_wormtubref12_ends _ l_30 (env29.a 20) (env29.n 20) h35 x15.First x15.Last) ?_
              rintro F_68 _ l_69 ⟨p70, k71, rfl, h72⟩
              exact .finQ ({ env29 with a := (updN env29.a 70 p70), n := (updN env29.n 70 k71), c := env29.c }) [true, true, true, true, true, true, true, false] rfl (by kernel_rfl) rfl rfl l_69 (fun _ le => h72.mono le) (cons_eq rfl (cons_eq rfl (cons_eq rfl (cons_eq rfl rfl))))
            exact .nil
          have h35 := hphi 2 _ rfl
          have h43 := hphi 7 _ rfl
          refine .norm (S' := [(0, (.slice p2 l_1.length k3)), (2, (.pointer (some ⟨b5, 0, none⟩))), (5, (.pointer (some ⟨b7, 0, none⟩))), (6, (.int .i64 s8.1)), (7, (.pointer (some ⟨b25, 0, none⟩))), (30, (.slice p2 l_1.length k3)), (31, (.int .i64 s8.1)), (32, (.slice (env29.a 20) l_30.length (env29.n 20))), (33, (.pointer (some ⟨b25, 0 + 1, none⟩))), (34, (.int .i64 x15.First)), (35, (.pointer (some ⟨b25, 0 + 2, none⟩))), (36, (.int .i64 x15.Last)), (37, (.slice (env29.a 70) r_39.length (env29.n 70)))]) (.cons (k := 0) rfl (.cons (k := 2) rfl (.cons (k := 5) rfl (.cons (k := 6) rfl (.cons (k := 7) rfl (.cons (k := 30) rfl (.cons (k := 31) rfl (.cons (k := 32) rfl (.cons (k := 33) rfl (.cons (k := 34) rfl (.cons (k := 35) rfl (.cons (k := 36) rfl (.cons (k := 37) rfl (.nil _)))))))))))))) (rfl : _ = [pt b25 (.cells (cApiStampEvent x15).toArray 70), pt b7 (.cells (cApiStampBook s8.2 p11 k12).toArray 26), pt b5 (.cells (cApiStampBook (ApiStampBook.mk ([]) 0 0 0) none 0).toArray 26), R]) ?_
          refine .assign rfl rfl ?_
          refine .nil ?_
          refine .code ?_
          refine .seq ?_
          refine .seq ?_
          refine .region ?_
          refine .assign rfl rfl ?_
          refine .nil ?_
          refine .code ?_
          refine .block ?_
          refine .keep (.cons (k := 0) rfl (.cons (k := 2) rfl (.cons (k := 5) rfl (.cons (k := 6) rfl (.cons (k := 7) rfl (.cons (k := 8) rfl (.cons (k := 9) rfl (.nil _)))))))) ?_
          refine .loop (fun (s73 : Int) a w => ∃ (F_74 : Fz), F_45 ≤ F_74 ∧ Hd 111 [] [(0, (.slice p2 l_1.length k3)), (2, (.pointer (some ⟨b5, 0, none⟩))), (5, (.pointer (some ⟨b7, 0, none⟩))), (6, (.int .i64 s8.1)), (7, (.pointer (some ⟨b25, 0, none⟩))), (8, (.slice (env29.a 70) r_39.length (env29.n 70))), (9, (.int .i64 s73))] F_74 [pt b25 (.cells (cApiStampEvent x15).toArray 70), pt b7 (.cells (cApiStampBook s8.2 p11 k12).toArray 26), pt b5 (.cells (cApiStampBook (ApiStampBook.mk ([]) 0 0 0) none 0).toArray 26), R] a w) (fun b0 e a w => match b0 with | .inl b267 => e = .exit 2 ∧ ∃ (F_268 : Fz), F_45 ≤ F_268 ∧ Hd 111 [] [(0, (.slice p2 l_1.length k3)), (2, (.pointer (some ⟨b5, 0, none⟩))), (5, (.pointer (some ⟨b7, 0, none⟩))), (6, (.int .i64 s8.1)), (7, (.pointer (some ⟨b25, 0, none⟩)))] F_268 [pt b25 (.cells (cApiStampEvent x15).toArray 70), pt b7 (.cells (cApiStampBook s8.2 p11 k12).toArray 26), pt b5 (.cells (cApiStampBook (ApiStampBook.mk ([]) 0 0 0) none 0).toArray 26), R] a w | .inr b267 => e = .ret ∧ ∃ (F_270 : Fz) (p272 : Option Addr) (k273 : Nat), F_45 ≤ F_270 ∧ RepSl 2 (Ex cApiSpan) F_270 p272 k273 b267.1.Hand ∧ Hd 111 [] [(2, (.pointer (some ⟨b5, 0, none⟩))), (3, (.int .i64 b267.2.1)), (4, (.int .i64 b267.2.2))] F_270 [pt b5 (.cells (cApiStampBook b267.1 p272 k273).toArray 26), R] a w) ?_ ?_ ?_
          · exact fun a w h => ⟨F_45, (Fz.le_refl _), h.1.sub (.cons (k := 0) rfl (.cons (k := 2) rfl (.cons (k := 5) rfl (.cons (k := 6) rfl (.cons (k := 7) rfl (.cons (k := 8) rfl (.cons (k := 9) rfl (.nil _)))))))), h.2⟩
          · intro s73 ctl
            refine GC.ex (fun a w ⟨F_74, l_75, hA⟩ => ⟨_, hA, ?_⟩)
            unfold b_wormtubref12_Stamps_2
            refine .seq ?_
            refine .seq ?_
            refine .region ?_
            refine .move rfl rfl ?_
            refine .move rfl rfl ?_
            refine .lenS rfl rfl Try.underlying40 rfl ?_
            refine .lss rfl rfl rfl ?_
            refine .nil ?_
            refine .code ?_
            refine .cond rfl (fun hb76 => ?_) (fun hb76 => ?_)
            · skip
              refine .skip ?_
              refine .code ?_
              refine .seq ?_
              refine .block ?_
              refine .seq ?_
              refine .seq ?_
              refine .keep (.cons (k := 0) rfl (.cons (k := 2) rfl (.cons (k := 5) rfl (.cons (k := 6) rfl (.cons (k := 7) rfl (.cons (k := 8) rfl (.cons (k := 9) rfl (.nil _)))))))) ?_
              refine GC.join0 (σ := Bool) (fun j167 a w => ∃ (F_168 : Fz), F_74 ≤ F_168 ∧ Hd 111 [] [(0, (.slice p2 l_1.length k3)), (2, (.pointer (some ⟨b5, 0, none⟩))), (5, (.pointer (some ⟨b7, 0, none⟩))), (6, (.int .i64 s8.1)), (7, (.pointer (some ⟨b25, 0, none⟩))), (8, (.slice (env29.a 70) r_39.length (env29.n 70))), (9, (.int .i64 s73)), (57, (.bool j167))] F_168 [pt b25 (.cells (cApiStampEvent x15).toArray 70), pt b7 (.cells (cApiStampBook s8.2 p11 k12).toArray 26), pt b5 (.cells (cApiStampBook (ApiStampBook.mk ([]) 0 0 0) none 0).toArray 26), R] a w) (fun sj => ?_) (fun j167 hs0 => GE.ex (fun a w ⟨F_168, l_169, hA⟩ => ⟨_, hA, ?_⟩))
              · skip
                refine .ite (fun hb78 => ?_) (fun hb78 => ?_)
                · skip
                  refine .bind (fun l_79 hx85 => ?_)
                  refine .bind (fun x86 e92 => ?_)
                  obtain ⟨b87, o88, T89, fr90, cs91, hm93, hv94, hq95⟩ := RepSl.idxE (h43.mono l_75) e92
                  refine .bind (fun r_98 hx99 => ?_)
                  refine .drawG 14 0 (fun env77 => [((.pointer (some ⟨b25, 0 + 0, none⟩)), fun _ => True), ((.int .i64 x15.Kind), fun _ => True), ((.bool (x15.Kind == 0)), fun _ => True), ((.bool (x15.Kind == 0)), fun _ => True), ((.slice p2 l_1.length k3), fun _ => True), ((.int .i64 s8.1), fun _ => True), ((.slice (env77.a 60) l_79.length (env77.n 60)), fun G => RepSl 4 (Ex cApiStampEvent) G (env77.a 60) (env77.n 60) l_79), ((.slice (env29.a 70) r_39.length (env29.n 70)), fun _ => True), ((.int .i64 s73), fun _ => True), ((.pointer (some ⟨b87, o88, none⟩)), fun _ => True), ((.int .i64 x86), fun _ => True), ((.int .i64 r_98), fun _ => True), ((.bool (decide (r_98 ≥ 0))), fun _ => True), ((.bool (decide (r_98 ≥ 0))), fun _ => True)]) (fun L env77 => [pt b25 (.cells (cApiStampEvent x15).toArray 70), pt b7 (.cells (cApiStampBook s8.2 p11 k12).toArray 26), pt b5 (.cells (cApiStampBook (ApiStampBook.mk ([]) 0 0 0) none 0).toArray 26), R]) mixedOK (by kernel_rfl) (by kernel_rfl) rfl (fun _ => rfl) (by kernel_rfl) (fun _ => rfl) ?_ (fun env77 F_100 l_101 hphi => ?_)
                  · skip
                    refine .cons (fun L env77 F_102 l_103 hL hdn hup hphi => ⟨[(7, (.pointer (some ⟨b25, 0, none⟩)))], fun S hS hV => (.cons (hS _ _ rfl) (Sub.nil _)), ?_⟩) ?_
                    · skip
                      refine .fieldAddr rfl Try.underlying70 rfl Try.sizeOf3 rfl ?_
                      exact .finV rfl rfl (Fz.le_refl _)
                    refine .cons (fun L env77 F_104 l_105 hL hdn hup hphi => ⟨[(44, (.pointer (some ⟨b25, 0 + 0, none⟩)))], fun S hS hV => (.cons (hV 0 44 _ (hdn 1 0 rfl) rfl rfl) (Sub.nil _)), ?_⟩) ?_
                    · skip
                      refine .loadO rfl Try.isAgg3 rfl (i := 0) rfl rfl ?_
                      exact .finV rfl rfl (Fz.le_refl _)
                    refine .cons (fun L env77 F_106 l_107 hL hdn hup hphi => ⟨[(45, (.int .i64 x15.Kind))], fun S hS hV => (.cons (hV 1 45 _ (hdn 1 1 rfl) rfl rfl) (Sub.nil _)), ?_⟩) ?_
                    · skip
                      refine .eql rfl rfl rfl ?_
                      exact .finV rfl rfl (Fz.le_refl _)
                    refine .cons (fun L env77 F_108 l_109 hL hdn hup hphi => ⟨[(46, (.bool (x15.Kind == 0)))], fun S hS hV => (.cons (hV 2 46 _ (hdn 1 2 rfl) rfl rfl) (Sub.nil _)), ?_⟩) ?_
                    · skip
                      refine .move rfl rfl ?_
                      exact .finV rfl rfl (Fz.le_refl _)
                    refine .cons (fun L env77 F_110 l_111 hL hdn hup hphi => ⟨[(0, (.slice p2 l_1.length k3)), (47, (.bool (x15.Kind == 0)))], fun S hS hV => (.cons (hS _ _ rfl) (.cons (hV 3 47 _ (hdn 1 3 rfl) rfl rfl) (Sub.nil _))), ?_⟩) ?_
                    · skip
                      refine .onH hb78 rfl rfl ?_
                      refine .move rfl rfl ?_
                      exact .finV rfl rfl (Fz.le_refl _)
                    refine .cons (fun L env77 F_112 l_113 hL hdn hup hphi => ⟨[(6, (.int .i64 s8.1)), (47, (.bool (x15.Kind == 0)))], fun S hS hV => (.cons (hS _ _ rfl) (.cons (hV 3 47 _ (hdn 1 3 rfl) rfl rfl) (Sub.nil _))), ?_⟩) ?_
                    · skip
                      refine .onH hb78 rfl rfl ?_
                      refine .move rfl rfl ?_
                      exact .finV rfl rfl (Fz.le_refl _)
                    refine .cons (fun L env77 F_114 l_115 hL hdn hup hphi => ⟨[(47, (.bool (x15.Kind == 0))), (48, (.slice p2 l_1.length k3)), (49, (.int .i64 s8.1))], fun S hS hV => (.cons (hV 3 47 _ (hdn 1 3 rfl) rfl rfl) (.cons (hV 4 48 _ (hdn 1 4 rfl) rfl rfl) (.cons (hV 5 49 _ (hdn 1 5 rfl) rfl rfl) (Sub.nil _)))), ?_⟩) ?_
                    · skip
                      refine .onH hb78 rfl rfl ?_
                      refine .sliceHiK hx85 rfl Try.underlying22 Try.sizeOf70 (h4.mono (Fz.le_trans l_10 (Fz.le_trans l_27 (Fz.le_trans l_46 (Fz.le_trans l_75 l_115))))) rfl rfl (fun p117 k118 h120 => ?_)
                      exact .finQ ({ env77 with a := (updN env77.a 60 p117), n := (updN env77.n 60 k118), c := env77.c }) [true, true, true, true, true, true, false, true, true, true, true, false, false, false] rfl (by kernel_rfl) rfl rfl (Fz.le_refl _) (fun _ le => h120.mono le) (cons_eq rfl (cons_eq rfl (cons_eq rfl (cons_eq rfl rfl))))
                    refine .cons (fun L env77 F_121 l_122 hL hdn hup hphi => ⟨[(8, (.slice (env29.a 70) r_39.length (env29.n 70))), (47, (.bool (x15.Kind == 0)))], fun S hS hV => (.cons (hS _ _ rfl) (.cons (hV 3 47 _ (hdn 1 3 rfl) rfl rfl) (Sub.nil _))), ?_⟩) ?_
                    · skip
                      refine .onH hb78 rfl rfl ?_
                      refine .move rfl rfl ?_
                      exact .finV rfl rfl (Fz.le_refl _)
                    refine .cons (fun L env77 F_123 l_124 hL hdn hup hphi => ⟨[(9, (.int .i64 s73)), (47, (.bool (x15.Kind == 0)))], fun S hS hV => (.cons (hS _ _ rfl) (.cons (hV 3 47 _ (hdn 1 3 rfl) rfl rfl) (Sub.nil _))), ?_⟩) ?_
                    · skip
                      refine .onH hb78 rfl rfl ?_
                      refine .move rfl rfl ?_
                      exact .finV rfl rfl (Fz.le_refl _)
                    refine .cons (fun L env77 F_125 l_126 hL hdn hup hphi => ⟨[(47, (.bool (x15.Kind == 0))), (51, (.slice (env29.a 70) r_39.length (env29.n 70))), (52, (.int .i64 s73))], fun S hS hV => (.cons (hV 3 47 _ (hdn 1 3 rfl) rfl rfl) (.cons (hV 7 51 _ (hdn 1 7 rfl) rfl rfl) (.cons (hV 8 52 _ (hdn 1 8 rfl) rfl rfl) (Sub.nil _)))), ?_⟩) ?_
                    · skip
                      refine .onH hb78 rfl rfl ?_
                      refine .idxQ rfl Try.underlying40 Try.sizeOf3 hq95 rfl rfl ?_
                      exact .finV rfl rfl (Fz.le_refl _)
                    refine .cons (fun L env77 F_127 l_128 hL hdn hup hphi => ⟨[(47, (.bool (x15.Kind == 0))), (53, (.pointer (some ⟨b87, o88, none⟩)))], fun S hS hV => (.cons (hV 3 47 _ (hdn 1 3 rfl) rfl rfl) (.cons (hV 9 53 _ (hdn 1 9 rfl) rfl rfl) (Sub.nil _))), ?_⟩) ?_
                    · skip
                      refine .onH hb78 rfl rfl ?_
                      refine .loadF rfl Try.isAgg3 rfl (l_128.mem _ _ hm93) (cell_of_take (k := 0) hv94 rfl) ?_
                      exact .finV rfl rfl (Fz.le_refl _)
                    refine .cons (fun L env77 F_129 l_130 hL hdn hup hphi => ⟨[(47, (.bool (x15.Kind == 0))), (50, (.slice (env77.a 60) l_79.length (env77.n 60))), (54, (.int .i64 x86))], fun S hS hV => (.cons (hV 3 47 _ (hdn 1 3 rfl) rfl rfl) (.cons (hV 6 50 _ (hdn 1 6 rfl) rfl rfl) (.cons (hV 10 54 _ (hdn 1 10 rfl) rfl rfl) (Sub.nil _)))), ?_⟩) ?_
                    · skip
                      have h84 := hphi 6 _ (hdn 1 6 rfl) rfl _ (Fz.le_refl _)
                      refine .onH hb78 rfl rfl ?_
                      refine .callK hx99 rfl Try.call41 rfl rfl rfl (c_wormtubref12_last _ l_79 (env77.a 60) (env77.n 60) h84 x86) ?_
                      rintro F_131 _ l_132 rfl
                      exact .finV rfl rfl l_132
                    refine .cons (fun L env77 F_133 l_134 hL hdn hup hphi => ⟨[(47, (.bool (x15.Kind == 0))), (55, (.int .i64 r_98))], fun S hS hV => (.cons (hV 3 47 _ (hdn 1 3 rfl) rfl rfl) (.cons (hV 11 55 _ (hdn 1 11 rfl) rfl rfl) (Sub.nil _))), ?_⟩) ?_
                    · skip
                      have h84 := hphi 6 _ (hdn 2 6 rfl) rfl _ (Fz.le_refl _)
                      refine .onH hb78 rfl rfl ?_
                      refine .geq rfl rfl rfl ?_
                      exact .finV rfl rfl (Fz.le_refl _)
                    refine .cons (fun L env77 F_135 l_136 hL hdn hup hphi => ⟨[(47, (.bool (x15.Kind == 0))), (56, (.bool (decide (r_98 ≥ 0))))], fun S hS hV => (.cons (hV 3 47 _ (hdn 1 3 rfl) rfl rfl) (.cons (hV 12 56 _ (hdn 1 12 rfl) rfl rfl) (Sub.nil _))), ?_⟩) ?_
                    · skip
                      have h84 := hphi 6 _ (hdn 3 6 rfl) rfl _ (Fz.le_refl _)
                      refine .pickTH hb78  rfl rfl rfl ?_
                      exact .finV rfl rfl (Fz.le_refl _)
                    exact .nil
                  have h84 := hphi 6 _ rfl
                  refine .norm (S' := [(0, (.slice p2 l_1.length k3)), (2, (.pointer (some ⟨b5, 0, none⟩))), (5, (.pointer (some ⟨b7, 0, none⟩))), (6, (.int .i64 s8.1)), (7, (.pointer (some ⟨b25, 0, none⟩))), (8, (.slice (env29.a 70) r_39.length (env29.n 70))), (9, (.int .i64 s73)), (44, (.pointer (some ⟨b25, 0 + 0, none⟩))), (45, (.int .i64 x15.Kind)), (46, (.bool (x15.Kind == 0))), (47, (.bool (x15.Kind == 0))), (48, (.slice p2 l_1.length k3)), (49, (.int .i64 s8.1)), (50, (.slice (env77.a 60) l_79.length (env77.n 60))), (51, (.slice (env29.a 70) r_39.length (env29.n 70))), (52, (.int .i64 s73)), (53, (.pointer (some ⟨b87, o88, none⟩))), (54, (.int .i64 x86)), (55, (.int .i64 r_98)), (56, (.bool (decide (r_98 ≥ 0)))), (57, (.bool (decide (r_98 ≥ 0))))]) (.cons (k := 0) rfl (.cons (k := 2) rfl (.cons (k := 5) rfl (.cons (k := 6) rfl (.cons (k := 7) rfl (.cons (k := 8) rfl (.cons (k := 9) rfl (.cons (k := 44) rfl (.cons (k := 45) rfl (.cons (k := 46) rfl (.cons (k := 47) rfl (.cons (k := 48) rfl (.cons (k := 49) rfl (.cons (k := 50) rfl (.cons (k := 51) rfl (.cons (k := 52) rfl (.cons (k := 53) rfl (.cons (k := 54) rfl (.cons (k := 55) rfl (.cons (k := 56) rfl (.cons (k := 57) rfl (.nil _)))))))))))))))))))))) (rfl : _ = [pt b25 (.cells (cApiStampEvent x15).toArray 70), pt b7 (.cells (cApiStampBook s8.2 p11 k12).toArray 26), pt b5 (.cells (cApiStampBook (ApiStampBook.mk ([]) 0 0 0) none 0).toArray 26), R]) ?_
                  refine .nil ?_
                  exact .nil fun e a w h => by cases e; exact ⟨rfl, ⟨F_100, l_101, h.1.sub (.cons (k := 0) rfl (.cons (k := 2) rfl (.cons (k := 5) rfl (.cons (k := 6) rfl (.cons (k := 7) rfl (.cons (k := 8) rfl (.cons (k := 9) rfl (.cons (k := 57) rfl (.nil _))))))))), h.2⟩⟩
                · skip
                  refine .drawG 14 0 (fun env77 => [((.pointer (some ⟨b25, 0 + 0, none⟩)), fun _ => True), ((.int .i64 x15.Kind), fun _ => True), ((.bool (x15.Kind == 0)), fun _ => True), ((.bool (x15.Kind == 0)), fun _ => True), (undef, fun _ => True), (undef, fun _ => True), (undef, fun _ => True), (undef, fun _ => True), (undef, fun _ => True), (undef, fun _ => True), (undef, fun _ => True), (undef, fun _ => True), (undef, fun _ => True), ((.bool false), fun _ => True)]) (fun L env77 => [pt b25 (.cells (cApiStampEvent x15).toArray 70), pt b7 (.cells (cApiStampBook s8.2 p11 k12).toArray 26), pt b5 (.cells (cApiStampBook (ApiStampBook.mk ([]) 0 0 0) none 0).toArray 26), R]) mixedOK (by kernel_rfl) (by kernel_rfl) rfl (fun _ => rfl) (by kernel_rfl) (fun _ => rfl) ?_ (fun env77 F_137 l_138 hphi => ?_)
                  · skip
                    refine .cons (fun L env77 F_139 l_140 hL hdn hup hphi => ⟨[(7, (.pointer (some ⟨b25, 0, none⟩)))], fun S hS hV => (.cons (hS _ _ rfl) (Sub.nil _)), ?_⟩) ?_
                    · skip
                      refine .fieldAddr rfl Try.underlying70 rfl Try.sizeOf3 rfl ?_
                      exact .finV rfl rfl (Fz.le_refl _)
                    refine .cons (fun L env77 F_141 l_142 hL hdn hup hphi => ⟨[(44, (.pointer (some ⟨b25, 0 + 0, none⟩)))], fun S hS hV => (.cons (hV 0 44 _ (hdn 1 0 rfl) rfl rfl) (Sub.nil _)), ?_⟩) ?_
                    · skip
                      refine .loadO rfl Try.isAgg3 rfl (i := 0) rfl rfl ?_
                      exact .finV rfl rfl (Fz.le_refl _)
                    refine .cons (fun L env77 F_143 l_144 hL hdn hup hphi => ⟨[(45, (.int .i64 x15.Kind))], fun S hS hV => (.cons (hV 1 45 _ (hdn 1 1 rfl) rfl rfl) (Sub.nil _)), ?_⟩) ?_
                    · skip
                      refine .eql rfl rfl rfl ?_
                      exact .finV rfl rfl (Fz.le_refl _)
                    refine .cons (fun L env77 F_145 l_146 hL hdn hup hphi => ⟨[(46, (.bool (x15.Kind == 0)))], fun S hS hV => (.cons (hV 2 46 _ (hdn 1 2 rfl) rfl rfl) (Sub.nil _)), ?_⟩) ?_
                    · skip
                      refine .move rfl rfl ?_
                      exact .finV rfl rfl (Fz.le_refl _)
                    refine .cons (fun L env77 F_147 l_148 hL hdn hup hphi => ⟨[(0, (.slice p2 l_1.length k3)), (47, (.bool (x15.Kind == 0)))], fun S hS hV => (.cons (hS _ _ rfl) (.cons (hV 3 47 _ (hdn 1 3 rfl) rfl rfl) (Sub.nil _))), ?_⟩) ?_
                    · skip
                      refine .offH hb78 rfl rfl rfl ?_
                      exact .finV rfl rfl (Fz.le_refl _)
                    refine .cons (fun L env77 F_149 l_150 hL hdn hup hphi => ⟨[(6, (.int .i64 s8.1)), (47, (.bool (x15.Kind == 0)))], fun S hS hV => (.cons (hS _ _ rfl) (.cons (hV 3 47 _ (hdn 1 3 rfl) rfl rfl) (Sub.nil _))), ?_⟩) ?_
                    · skip
                      refine .offH hb78 rfl rfl rfl ?_
                      exact .finV rfl rfl (Fz.le_refl _)
                    refine .cons (fun L env77 F_151 l_152 hL hdn hup hphi => ⟨[(47, (.bool (x15.Kind == 0))), (48, undef), (49, undef)], fun S hS hV => (.cons (hV 3 47 _ (hdn 1 3 rfl) rfl rfl) (.cons (hV 4 48 _ (hdn 1 4 rfl) rfl rfl) (.cons (hV 5 49 _ (hdn 1 5 rfl) rfl rfl) (Sub.nil _)))), ?_⟩) ?_
                    · skip
                      refine .offH hb78 rfl rfl rfl ?_
                      exact .finV rfl rfl (Fz.le_refl _)
                    refine .cons (fun L env77 F_153 l_154 hL hdn hup hphi => ⟨[(8, (.slice (env29.a 70) r_39.length (env29.n 70))), (47, (.bool (x15.Kind == 0)))], fun S hS hV => (.cons (hS _ _ rfl) (.cons (hV 3 47 _ (hdn 1 3 rfl) rfl rfl) (Sub.nil _))), ?_⟩) ?_
                    · skip
                      refine .offH hb78 rfl rfl rfl ?_
                      exact .finV rfl rfl (Fz.le_refl _)
                    refine .cons (fun L env77 F_155 l_156 hL hdn hup hphi => ⟨[(9, (.int .i64 s73)), (47, (.bool (x15.Kind == 0)))], fun S hS hV => (.cons (hS _ _ rfl) (.cons (hV 3 47 _ (hdn 1 3 rfl) rfl rfl) (Sub.nil _))), ?_⟩) ?_
                    · skip
                      refine .offH hb78 rfl rfl rfl ?_
                      exact .finV rfl rfl (Fz.le_refl _)
                    refine .cons (fun L env77 F_157 l_158 hL hdn hup hphi => ⟨[(47, (.bool (x15.Kind == 0))), (51, undef), (52, undef)], fun S hS hV => (.cons (hV 3 47 _ (hdn 1 3 rfl) rfl rfl) (.cons (hV 7 51 _ (hdn 1 7 rfl) rfl rfl) (.cons (hV 8 52 _ (hdn 1 8 rfl) rfl rfl) (Sub.nil _)))), ?_⟩) ?_
                    · skip
                      refine .offH hb78 rfl rfl rfl ?_
                      exact .finV rfl rfl (Fz.le_refl _)
                    refine .cons (fun L env77 F_159 l_160 hL hdn hup hphi => ⟨[(47, (.bool (x15.Kind == 0))), (53, undef)], fun S hS hV => (.cons (hV 3 47 _ (hdn 1 3 rfl) rfl rfl) (.cons (hV 9 53 _ (hdn 1 9 rfl) rfl rfl) (Sub.nil _))), ?_⟩) ?_
                    · skip
                      refine .offH hb78 rfl rfl rfl ?_
                      exact .finV rfl rfl (Fz.le_refl _)
                    refine .cons (fun L env77 F_161 l_162 hL hdn hup hphi => ⟨[(47, (.bool (x15.Kind == 0))), (50, undef), (54, undef)], fun S hS hV => (.cons (hV 3 47 _ (hdn 1 3 rfl) rfl rfl) (.cons (hV 6 50 _ (hdn 1 6 rfl) rfl rfl) (.cons (hV 10 54 _ (hdn 1 10 rfl) rfl rfl) (Sub.nil _)))), ?_⟩) ?_
                    · skip
                      refine .offH hb78 rfl rfl rfl ?_
                      exact .finV rfl rfl (Fz.le_refl _)
                    refine .cons (fun L env77 F_163 l_164 hL hdn hup hphi => ⟨[(47, (.bool (x15.Kind == 0))), (55, undef)], fun S hS hV => (.cons (hV 3 47 _ (hdn 1 3 rfl) rfl rfl) (.cons (hV 11 55 _ (hdn 1 11 rfl) rfl rfl) (Sub.nil _))), ?_⟩) ?_
                    · skip
                      refine .offH hb78 rfl rfl rfl ?_
                      exact .finV rfl rfl (Fz.le_refl _)
                    refine .cons (fun L env77 F_165 l_166 hL hdn hup hphi => ⟨[(47, (.bool (x15.Kind == 0))), (56, undef)], fun S hS hV => (.cons (hV 3 47 _ (hdn 1 3 rfl) rfl rfl) (.cons (hV 12 56 _ (hdn 1 12 rfl) rfl rfl) (Sub.nil _))), ?_⟩) ?_
                    · skip
                      refine .pickFH hb78  rfl rfl rfl ?_
                      exact .finV rfl rfl (Fz.le_refl _)
                    exact .nil
                  refine .norm (S' := [(0, (.slice p2 l_1.length k3)), (2, (.pointer (some ⟨b5, 0, none⟩))), (5, (.pointer (some ⟨b7, 0, none⟩))), (6, (.int .i64 s8.1)), (7, (.pointer (some ⟨b25, 0, none⟩))), (8, (.slice (env29.a 70) r_39.length (env29.n 70))), (9, (.int .i64 s73)), (44, (.pointer (some ⟨b25, 0 + 0, none⟩))), (45, (.int .i64 x15.Kind)), (46, (.bool (x15.Kind == 0))), (47, (.bool (x15.Kind == 0))), (57, (.bool false))]) (.cons (k := 0) rfl (.cons (k := 2) rfl (.cons (k := 5) rfl (.cons (k := 6) rfl (.cons (k := 7) rfl (.cons (k := 8) rfl (.cons (k := 9) rfl (.cons (k := 44) rfl (.cons (k := 45) rfl (.cons (k := 46) rfl (.cons (k := 47) rfl (.cons (k := 57) rfl (.nil _))))))))))))) (rfl : _ = [pt b25 (.cells (cApiStampEvent x15).toArray 70), pt b7 (.cells (cApiStampBook s8.2 p11 k12).toArray 26), pt b5 (.cells (cApiStampBook (ApiStampBook.mk ([]) 0 0 0) none 0).toArray 26), R]) ?_
                  refine .nil ?_
                  exact .nil fun e a w h => by cases e; exact ⟨rfl, ⟨F_137, l_138, h.1.sub (.cons (k := 0) rfl (.cons (k := 2) rfl (.cons (k := 5) rfl (.cons (k := 6) rfl (.cons (k := 7) rfl (.cons (k := 8) rfl (.cons (k := 9) rfl (.cons (k := 57) rfl (.nil _))))))))), h.2⟩⟩
              refine .code ?_
              refine .cond rfl (fun hb170 => ?_) (fun hb170 => ?_)
              · skip
                refine .seq ?_
                refine .region ?_
                refine .build (cs := (cApiStampBook (ApiStampBook.mk ([]) 0 0 0) none 0).toArray) rfl Try.underlying26 Try.zeroValue26 (plApiStampBook _ Try.underlying26) rfl rfl (by kernel_rfl) ?_
                refine .move rfl rfl ?_
                refine .store (cs' := (cApiStampBook (ApiStampBook.mk ([]) 0 0 0) none 0)) Try.sizeOf26 rfl rfl rfl rfl (i := 2) rfl (Nat.le_of_ble_eq_true rfl) rfl (setMany_all (by rfl)) ?_
                refine .assign rfl rfl ?_
                refine .assign rfl rfl ?_
                refine .nil ?_
                refine .code ?_
                refine .drop 1 ?_
                refine .drop 0 ?_
                refine .retQ (LPost.ret fun a w h => ⟨rfl, F_168, none, 0, (Fz.le_trans l_75 l_169), (RepSl.nil.mono (Fz.le_trans l_10 (Fz.le_trans l_27 (Fz.le_trans l_46 (Fz.le_trans l_75 l_169))))), h.1.sub (.cons (k := 2) rfl (.cons (k := 3) rfl (.cons (k := 4) rfl (.nil _)))), h.2⟩)
              · skip
                refine .skip ?_
                refine .code ?_
                refine .seq ?_
                refine .keep (.cons (k := 0) rfl (.cons (k := 2) rfl (.cons (k := 5) rfl (.cons (k := 6) rfl (.cons (k := 7) rfl (.cons (k := 8) rfl (.cons (k := 9) rfl (.nil _)))))))) ?_
                refine GC.join0 (σ := Bool) (fun j261 a w => ∃ (F_262 : Fz), F_168 ≤ F_262 ∧ Hd 111 [] [(0, (.slice p2 l_1.length k3)), (2, (.pointer (some ⟨b5, 0, none⟩))), (5, (.pointer (some ⟨b7, 0, none⟩))), (6, (.int .i64 s8.1)), (7, (.pointer (some ⟨b25, 0, none⟩))), (8, (.slice (env29.a 70) r_39.length (env29.n 70))), (9, (.int .i64 s73)), (73, (.bool j261))] F_262 [pt b25 (.cells (cApiStampEvent x15).toArray 70), pt b7 (.cells (cApiStampBook s8.2 p11 k12).toArray 26), pt b5 (.cells (cApiStampBook (ApiStampBook.mk ([]) 0 0 0) none 0).toArray 26), R] a w) (fun sj => ?_) (fun j261 hs0 => GE.ex (fun a w ⟨F_262, l_263, hA⟩ => ⟨_, hA, ?_⟩))
                · skip
                  refine .ite (fun hb172 => ?_) (fun hb172 => ?_)
                  · skip
                    refine .bind (fun l_173 hx179 => ?_)
                    refine .bind (fun x180 e186 => ?_)
                    obtain ⟨b181, o182, T183, fr184, cs185, hm187, hv188, hq189⟩ := RepSl.idxE (h43.mono (Fz.le_trans l_75 l_169)) e186
                    refine .bind (fun r_192 hx193 => ?_)
                    refine .drawG 14 0 (fun env171 => [((.pointer (some ⟨b25, 0 + 0, none⟩)), fun _ => True), ((.int .i64 x15.Kind), fun _ => True), ((.bool (x15.Kind != 0)), fun _ => True), ((.bool (x15.Kind != 0)), fun _ => True), ((.slice p2 l_1.length k3), fun _ => True), ((.int .i64 s8.1), fun _ => True), ((.slice (env171.a 60) l_173.length (env171.n 60)), fun G => RepSl 4 (Ex cApiStampEvent) G (env171.a 60) (env171.n 60) l_173), ((.slice (env29.a 70) r_39.length (env29.n 70)), fun _ => True), ((.int .i64 s73), fun _ => True), ((.pointer (some ⟨b181, o182, none⟩)), fun _ => True), ((.int .i64 x180), fun _ => True), ((.bool r_192), fun _ => True), ((.bool (!r_192)), fun _ => True), ((.bool (!r_192)), fun _ => True)]) (fun L env171 => [pt b25 (.cells (cApiStampEvent x15).toArray 70), pt b7 (.cells (cApiStampBook s8.2 p11 k12).toArray 26), pt b5 (.cells (cApiStampBook (ApiStampBook.mk ([]) 0 0 0) none 0).toArray 26), R]) mixedOK (by kernel_rfl) (by kernel_rfl) rfl (fun _ => rfl) (by kernel_rfl) (fun _ => rfl) ?_ (fun env171 F_194 l_195 hphi => ?_)
                    · skip
                      refine .cons (fun L env171 F_196 l_197 hL hdn hup hphi => ⟨[(7, (.pointer (some ⟨b25, 0, none⟩)))], fun S hS hV => (.cons (hS _ _ rfl) (Sub.nil _)), ?_⟩) ?_
                      · skip
                        refine .fieldAddr rfl Try.underlying70 rfl Try.sizeOf3 rfl ?_
                        exact .finV rfl rfl (Fz.le_refl _)
                      refine .cons (fun L env171 F_198 l_199 hL hdn hup hphi => ⟨[(60, (.pointer (some ⟨b25, 0 + 0, none⟩)))], fun S hS hV => (.cons (hV 0 60 _ (hdn 1 0 rfl) rfl rfl) (Sub.nil _)), ?_⟩) ?_
                      · skip
                        refine .loadO rfl Try.isAgg3 rfl (i := 0) rfl rfl ?_
                        exact .finV rfl rfl (Fz.le_refl _)
                      refine .cons (fun L env171 F_200 l_201 hL hdn hup hphi => ⟨[(61, (.int .i64 x15.Kind))], fun S hS hV => (.cons (hV 1 61 _ (hdn 1 1 rfl) rfl rfl) (Sub.nil _)), ?_⟩) ?_
                      · skip
                        refine .neq rfl rfl rfl ?_
                        exact .finV rfl rfl (Fz.le_refl _)
                      refine .cons (fun L env171 F_202 l_203 hL hdn hup hphi => ⟨[(62, (.bool (x15.Kind != 0)))], fun S hS hV => (.cons (hV 2 62 _ (hdn 1 2 rfl) rfl rfl) (Sub.nil _)), ?_⟩) ?_
                      · skip
                        refine .move rfl rfl ?_
                        exact .finV rfl rfl (Fz.le_refl _)
                      refine .cons (fun L env171 F_204 l_205 hL hdn hup hphi => ⟨[(0, (.slice p2 l_1.length k3)), (63, (.bool (x15.Kind != 0)))], fun S hS hV => (.cons (hS _ _ rfl) (.cons (hV 3 63 _ (hdn 1 3 rfl) rfl rfl) (Sub.nil _))), ?_⟩) ?_
                      · skip
                        refine .onH hb172 rfl rfl ?_
                        refine .move rfl rfl ?_
                        exact .finV rfl rfl (Fz.le_refl _)
                      refine .cons (fun L env171 F_206 l_207 hL hdn hup hphi => ⟨[(6, (.int .i64 s8.1)), (63, (.bool (x15.Kind != 0)))], fun S hS hV => (.cons (hS _ _ rfl) (.cons (hV 3 63 _ (hdn 1 3 rfl) rfl rfl) (Sub.nil _))), ?_⟩) ?_
                      · skip
                        refine .onH hb172 rfl rfl ?_
                        refine .move rfl rfl ?_
                        exact .finV rfl rfl (Fz.le_refl _)
                      refine .cons (fun L env171 F_208 l_209 hL hdn hup hphi => ⟨[(63, (.bool (x15.Kind != 0))), (64, (.slice p2 l_1.length k3)), (65, (.int .i64 s8.1))], fun S hS hV => (.cons (hV 3 63 _ (hdn 1 3 rfl) rfl rfl) (.cons (hV 4 64 _ (hdn 1 4 rfl) rfl rfl) (.cons (hV 5 65 _ (hdn 1 5 rfl) rfl rfl) (Sub.nil _)))), ?_⟩) ?_
                      · skip
                        refine .onH hb172 rfl rfl ?_
                        refine .sliceHiK hx179 rfl Try.underlying22 Try.sizeOf70 (h4.mono (Fz.le_trans l_10 (Fz.le_trans l_27 (Fz.le_trans l_46 (Fz.le_trans l_75 (Fz.le_trans l_169 l_209)))))) rfl rfl (fun p211 k212 h214 => ?_)
                        exact .finQ ({ env171 with a := (updN env171.a 60 p211), n := (updN env171.n 60 k212), c := env171.c }) [true, true, true, true, true, true, false, true, true, true, true, false, false, false] rfl (by kernel_rfl) rfl rfl (Fz.le_refl _) (fun _ le => h214.mono le) (cons_eq rfl (cons_eq rfl (cons_eq rfl (cons_eq rfl rfl))))
                      refine .cons (fun L env171 F_215 l_216 hL hdn hup hphi => ⟨[(8, (.slice (env29.a 70) r_39.length (env29.n 70))), (63, (.bool (x15.Kind != 0)))], fun S hS hV => (.cons (hS _ _ rfl) (.cons (hV 3 63 _ (hdn 1 3 rfl) rfl rfl) (Sub.nil _))), ?_⟩) ?_
                      · skip
                        refine .onH hb172 rfl rfl ?_
                        refine .move rfl rfl ?_
                        exact .finV rfl rfl (Fz.le_refl _)
                      refine .cons (fun L env171 F_217 l_218 hL hdn hup hphi => ⟨[(9, (.int .i64 s73)), (63, (.bool (x15.Kind != 0)))], fun S hS hV => (.cons (hS _ _ rfl) (.cons (hV 3 63 _ (hdn 1 3 rfl) rfl rfl) (Sub.nil _))), ?_⟩) ?_
                      · skip
                        refine .onH hb172 rfl rfl ?_
                        refine .move rfl rfl ?_
                        exact .finV rfl rfl (Fz.le_refl _)
                      refine .cons (fun L env171 F_219 l_220 hL hdn hup hphi => ⟨[(63, (.bool (x15.Kind != 0))), (67, (.slice (env29.a 70) r_39.length (env29.n 70))), (68, (.int .i64 s73))], fun S hS hV => (.cons (hV 3 63 _ (hdn 1 3 rfl) rfl rfl) (.cons (hV 7 67 _ (hdn 1 7 rfl) rfl rfl) (.cons (hV 8 68 _ (hdn 1 8 rfl) rfl rfl) (Sub.nil _)))), ?_⟩) ?_
                      · skip
                        refine .onH hb172 rfl rfl ?_
                        refine .idxQ rfl Try.underlying40 Try.sizeOf3 hq189 rfl rfl ?_
                        exact .finV rfl rfl (Fz.le_refl _)
                      refine .cons (fun L env171 F_221 l_222 hL hdn hup hphi => ⟨[(63, (.bool (x15.Kind != 0))), (69, (.pointer (some ⟨b181, o182, none⟩)))], fun S hS hV => (.cons (hV 3 63 _ (hdn 1 3 rfl) rfl rfl) (.cons (hV 9 69 _ (hdn 1 9 rfl) rfl rfl) (Sub.nil _))), ?_⟩) ?_
                      · skip
                        refine .onH hb172 rfl rfl ?_
                        refine .loadF rfl Try.isAgg3 rfl (l_222.mem _ _ hm187) (cell_of_take (k := 0) hv188 rfl) ?_
                        exact .finV rfl rfl (Fz.le_refl _)
                      refine .cons (fun L env171 F_223 l_224 hL hdn hup hphi => ⟨[(63, (.bool (x15.Kind != 0))), (66, (.slice (env171.a 60) l_173.length (env171.n 60))), (70, (.int .i64 x180))], fun S hS hV => (.cons (hV 3 63 _ (hdn 1 3 rfl) rfl rfl) (.cons (hV 6 66 _ (hdn 1 6 rfl) rfl rfl) (.cons (hV 10 70 _ (hdn 1 10 rfl) rfl rfl) (Sub.nil _)))), ?_⟩) ?_
                      · skip
                        have h178 := hphi 6 _ (hdn 1 6 rfl) rfl _ (Fz.le_refl _)
                        refine .onH hb172 rfl rfl ?_
                        refine .callK hx193 rfl Try.call42 rfl rfl rfl (c_wormtubref12_hand _ l_173 (env171.a 60) (env171.n 60) h178 x180) ?_
                        rintro F_225 _ l_226 rfl
                        exact .finV rfl rfl l_226
                      refine .cons (fun L env171 F_227 l_228 hL hdn hup hphi => ⟨[(63, (.bool (x15.Kind != 0))), (71, (.bool r_192))], fun S hS hV => (.cons (hV 3 63 _ (hdn 1 3 rfl) rfl rfl) (.cons (hV 11 71 _ (hdn 1 11 rfl) rfl rfl) (Sub.nil _))), ?_⟩) ?_
                      · skip
                        have h178 := hphi 6 _ (hdn 2 6 rfl) rfl _ (Fz.le_refl _)
                        refine .onH hb172 rfl rfl ?_
                        refine .not rfl rfl ?_
                        exact .finV rfl rfl (Fz.le_refl _)
                      refine .cons (fun L env171 F_229 l_230 hL hdn hup hphi => ⟨[(63, (.bool (x15.Kind != 0))), (72, (.bool (!r_192)))], fun S hS hV => (.cons (hV 3 63 _ (hdn 1 3 rfl) rfl rfl) (.cons (hV 12 72 _ (hdn 1 12 rfl) rfl rfl) (Sub.nil _))), ?_⟩) ?_
                      · skip
                        have h178 := hphi 6 _ (hdn 3 6 rfl) rfl _ (Fz.le_refl _)
                        refine .pickTH hb172  rfl rfl rfl ?_
                        exact .finV rfl rfl (Fz.le_refl _)
                      exact .nil
                    have h178 := hphi 6 _ rfl
                    refine .norm (S' := [(0, (.slice p2 l_1.length k3)), (2, (.pointer (some ⟨b5, 0, none⟩))), (5, (.pointer (some ⟨b7, 0, none⟩))), (6, (.int .i64 s8.1)), (7, (.pointer (some ⟨b25, 0, none⟩))), (8, (.slice (env29.a 70) r_39.length (env29.n 70))), (9, (.int .i64 s73)), (60, (.pointer (some ⟨b25, 0 + 0, none⟩))), (61, (.int .i64 x15.Kind)), (62, (.bool (x15.Kind != 0))), (63, (.bool (x15.Kind != 0))), (64, (.slice p2 l_1.length k3)), (65, (.int .i64 s8.1)), (66, (.slice (env171.a 60) l_173.length (env171.n 60))), (67, (.slice (env29.a 70) r_39.length (env29.n 70))), (68, (.int .i64 s73)), (69, (.pointer (some ⟨b181, o182, none⟩))), (70, (.int .i64 x180)), (71, (.bool r_192)), (72, (.bool (!r_192))), (73, (.bool (!r_192)))]) (.cons (k := 0) rfl (.cons (k := 2) rfl (.cons (k := 5) rfl (.cons (k := 6) rfl (.cons (k := 7) rfl (.cons (k := 8) rfl (.cons (k := 9) rfl (.cons (k := 60) rfl (.cons (k := 61) rfl (.cons (k := 62) rfl (.cons (k := 63) rfl (.cons (k := 64) rfl (.cons (k := 65) rfl (.cons (k := 66) rfl (.cons (k := 67) rfl (.cons (k := 68) rfl (.cons (k := 69) rfl (.cons (k := 70) rfl (.cons (k := 71) rfl (.cons (k := 72) rfl (.cons (k := 73) rfl (.nil _)))))))))))))))))))))) (rfl : _ = [pt b25 (.cells (cApiStampEvent x15).toArray 70), pt b7 (.cells (cApiStampBook s8.2 p11 k12).toArray 26), pt b5 (.cells (cApiStampBook (ApiStampBook.mk ([]) 0 0 0) none 0).toArray 26), R]) ?_
                    refine .nil ?_
                    exact .nil fun e a w h => by cases e; exact ⟨rfl, ⟨F_194, l_195, h.1.sub (.cons (k := 0) rfl (.cons (k := 2) rfl (.cons (k := 5) rfl (.cons (k := 6) rfl (.cons (k := 7) rfl (.cons (k := 8) rfl (.cons (k := 9) rfl (.cons (k := 73) rfl (.nil _))))))))), h.2⟩⟩
                  · skip
                    refine .drawG 14 0 (fun env171 => [((.pointer (some ⟨b25, 0 + 0, none⟩)), fun _ => True), ((.int .i64 x15.Kind), fun _ => True), ((.bool (x15.Kind != 0)), fun _ => True), ((.bool (x15.Kind != 0)), fun _ => True), (undef, fun _ => True), (undef, fun _ => True), (undef, fun _ => True), (undef, fun _ => True), (undef, fun _ => True), (undef, fun _ => True), (undef, fun _ => True), (undef, fun _ => True), (undef, fun _ => True), ((.bool false), fun _ => True)]) (fun L env171 => [pt b25 (.cells (cApiStampEvent x15).toArray 70), pt b7 (.cells (cApiStampBook s8.2 p11 k12).toArray 26), pt b5 (.cells (cApiStampBook (ApiStampBook.mk ([]) 0 0 0) none 0).toArray 26), R]) mixedOK (by kernel_rfl) (by kernel_rfl) rfl (fun _ => rfl) (by kernel_rfl) (fun _ => rfl) ?_ (fun env171 F_231 l_232 hphi => ?_)
                    · skip
                      refine .cons (fun L env171 F_233 l_234 hL hdn hup hphi => ⟨[(7, (.pointer (some ⟨b25, 0, none⟩)))], fun S hS hV => (.cons (hS _ _ rfl) (Sub.nil _)), ?_⟩) ?_
                      · skip
                        refine .fieldAddr rfl Try.underlying70 rfl Try.sizeOf3 rfl ?_
                        exact .finV rfl rfl (Fz.le_refl _)
                      refine .cons (fun L env171 F_235 l_236 hL hdn hup hphi => ⟨[(60, (.pointer (some ⟨b25, 0 + 0, none⟩)))], fun S hS hV => (.cons (hV 0 60 _ (hdn 1 0 rfl) rfl rfl) (Sub.nil _)), ?_⟩) ?_
                      · skip
                        refine .loadO rfl Try.isAgg3 rfl (i := 0) rfl rfl ?_
                        exact .finV rfl rfl (Fz.le_refl _)
                      refine .cons (fun L env171 F_237 l_238 hL hdn hup hphi => ⟨[(61, (.int .i64 x15.Kind))], fun S hS hV => (.cons (hV 1 61 _ (hdn 1 1 rfl) rfl rfl) (Sub.nil _)), ?_⟩) ?_
                      · skip
                        refine .neq rfl rfl rfl ?_
                        exact .finV rfl rfl (Fz.le_refl _)
                      refine .cons (fun L env171 F_239 l_240 hL hdn hup hphi => ⟨[(62, (.bool (x15.Kind != 0)))], fun S hS hV => (.cons (hV 2 62 _ (hdn 1 2 rfl) rfl rfl) (Sub.nil _)), ?_⟩) ?_
                      · skip
                        refine .move rfl rfl ?_
                        exact .finV rfl rfl (Fz.le_refl _)
                      refine .cons (fun L env171 F_241 l_242 hL hdn hup hphi => ⟨[(0, (.slice p2 l_1.length k3)), (63, (.bool (x15.Kind != 0)))], fun S hS hV => (.cons (hS _ _ rfl) (.cons (hV 3 63 _ (hdn 1 3 rfl) rfl rfl) (Sub.nil _))), ?_⟩) ?_
                      · skip
                        refine .offH hb172 rfl rfl rfl ?_
                        exact .finV rfl rfl (Fz.le_refl _)
                      refine .cons (fun L env171 F_243 l_244 hL hdn hup hphi => ⟨[(6, (.int .i64 s8.1)), (63, (.bool (x15.Kind != 0)))], fun S hS hV => (.cons (hS _ _ rfl) (.cons (hV 3 63 _ (hdn 1 3 rfl) rfl rfl) (Sub.nil _))), ?_⟩) ?_
                      · skip
                        refine .offH hb172 rfl rfl rfl ?_
                        exact .finV rfl rfl (Fz.le_refl _)
                      refine .cons (fun L env171 F_245 l_246 hL hdn hup hphi => ⟨[(63, (.bool (x15.Kind != 0))), (64, undef), (65, undef)], fun S hS hV => (.cons (hV 3 63 _ (hdn 1 3 rfl) rfl rfl) (.cons (hV 4 64 _ (hdn 1 4 rfl) rfl rfl) (.cons (hV 5 65 _ (hdn 1 5 rfl) rfl rfl) (Sub.nil _)))), ?_⟩) ?_
                      · skip
                        refine .offH hb172 rfl rfl rfl ?_
                        exact .finV rfl rfl (Fz.le_refl _)
                      refine .cons (fun L env171 F_247 l_248 hL hdn hup hphi => ⟨[(8, (.slice (env29.a 70) r_39.length (env29.n 70))), (63, (.bool (x15.Kind != 0)))], fun S hS hV => (.cons (hS _ _ rfl) (.cons (hV 3 63 _ (hdn 1 3 rfl) rfl rfl) (Sub.nil _))), ?_⟩) ?_
                      · skip
                        refine .offH hb172 rfl rfl rfl ?_
                        exact .finV rfl rfl (Fz.le_refl _)
                      refine .cons (fun L env171 F_249 l_250 hL hdn hup hphi => ⟨[(9, (.int .i64 s73)), (63, (.bool (x15.Kind != 0)))], fun S hS hV => (.cons (hS _ _ rfl) (.cons (hV 3 63 _ (hdn 1 3 rfl) rfl rfl) (Sub.nil _))), ?_⟩) ?_
                      · skip
                        refine .offH hb172 rfl rfl rfl ?_
                        exact .finV rfl rfl (Fz.le_refl _)
                      refine .cons (fun L env171 F_251 l_252 hL hdn hup hphi => ⟨[(63, (.bool (x15.Kind != 0))), (67, undef), (68, undef)], fun S hS hV => (.cons (hV 3 63 _ (hdn 1 3 rfl) rfl rfl) (.cons (hV 7 67 _ (hdn 1 7 rfl) rfl rfl) (.cons (hV 8 68 _ (hdn 1 8 rfl) rfl rfl) (Sub.nil _)))), ?_⟩) ?_
                      · skip
                        refine .offH hb172 rfl rfl rfl ?_
                        exact .finV rfl rfl (Fz.le_refl _)
                      refine .cons (fun L env171 F_253 l_254 hL hdn hup hphi => ⟨[(63, (.bool (x15.Kind != 0))), (69, undef)], fun S hS hV => (.cons (hV 3 63 _ (hdn 1 3 rfl) rfl rfl) (.cons (hV 9 69 _ (hdn 1 9 rfl) rfl rfl) (Sub.nil _))), ?_⟩) ?_
                      · skip
                        refine .offH hb172 rfl rfl rfl ?_
                        exact .finV rfl rfl (Fz.le_refl _)
                      refine .cons (fun L env171 F_255 l_256 hL hdn hup hphi => ⟨[(63, (.bool (x15.Kind != 0))), (66, undef), (70, undef)], fun S hS hV => (.cons (hV 3 63 _ (hdn 1 3 rfl) rfl rfl) (.cons (hV 6 66 _ (hdn 1 6 rfl) rfl rfl) (.cons (hV 10 70 _ (hdn 1 10 rfl) rfl rfl) (Sub.nil _)))), ?_⟩) ?_
                      · skip
                        refine .offH hb172 rfl rfl rfl ?_
                        exact .finV rfl rfl (Fz.le_refl _)
                      refine .cons (fun L env171 F_257 l_258 hL hdn hup hphi => ⟨[(63, (.bool (x15.Kind != 0))), (71, undef)], fun S hS hV => (.cons (hV 3 63 _ (hdn 1 3 rfl) rfl rfl) (.cons (hV 11 71 _ (hdn 1 11 rfl) rfl rfl) (Sub.nil _))), ?_⟩) ?_
                      · skip
                        refine .offH hb172 rfl rfl rfl ?_
                        exact .finV rfl rfl (Fz.le_refl _)
                      refine .cons (fun L env171 F_259 l_260 hL hdn hup hphi => ⟨[(63, (.bool (x15.Kind != 0))), (72, undef)], fun S hS hV => (.cons (hV 3 63 _ (hdn 1 3 rfl) rfl rfl) (.cons (hV 12 72 _ (hdn 1 12 rfl) rfl rfl) (Sub.nil _))), ?_⟩) ?_
                      · skip
                        refine .pickFH hb172  rfl rfl rfl ?_
                        exact .finV rfl rfl (Fz.le_refl _)
                      exact .nil
                    refine .norm (S' := [(0, (.slice p2 l_1.length k3)), (2, (.pointer (some ⟨b5, 0, none⟩))), (5, (.pointer (some ⟨b7, 0, none⟩))), (6, (.int .i64 s8.1)), (7, (.pointer (some ⟨b25, 0, none⟩))), (8, (.slice (env29.a 70) r_39.length (env29.n 70))), (9, (.int .i64 s73)), (60, (.pointer (some ⟨b25, 0 + 0, none⟩))), (61, (.int .i64 x15.Kind)), (62, (.bool (x15.Kind != 0))), (63, (.bool (x15.Kind != 0))), (73, (.bool false))]) (.cons (k := 0) rfl (.cons (k := 2) rfl (.cons (k := 5) rfl (.cons (k := 6) rfl (.cons (k := 7) rfl (.cons (k := 8) rfl (.cons (k := 9) rfl (.cons (k := 60) rfl (.cons (k := 61) rfl (.cons (k := 62) rfl (.cons (k := 63) rfl (.cons (k := 73) rfl (.nil _))))))))))))) (rfl : _ = [pt b25 (.cells (cApiStampEvent x15).toArray 70), pt b7 (.cells (cApiStampBook s8.2 p11 k12).toArray 26), pt b5 (.cells (cApiStampBook (ApiStampBook.mk ([]) 0 0 0) none 0).toArray 26), R]) ?_
                    refine .nil ?_
                    exact .nil fun e a w h => by cases e; exact ⟨rfl, ⟨F_231, l_232, h.1.sub (.cons (k := 0) rfl (.cons (k := 2) rfl (.cons (k := 5) rfl (.cons (k := 6) rfl (.cons (k := 7) rfl (.cons (k := 8) rfl (.cons (k := 9) rfl (.cons (k := 73) rfl (.nil _))))))))), h.2⟩⟩
                refine .code ?_
                refine .cond rfl (fun hb264 => ?_) (fun hb264 => ?_)
                · skip
                  refine .seq ?_
                  refine .region ?_
                  refine .build (cs := (cApiStampBook (ApiStampBook.mk ([]) 0 0 0) none 0).toArray) rfl Try.underlying26 Try.zeroValue26 (plApiStampBook _ Try.underlying26) rfl rfl (by kernel_rfl) ?_
                  refine .move rfl rfl ?_
                  refine .store (cs' := (cApiStampBook (ApiStampBook.mk ([]) 0 0 0) none 0)) Try.sizeOf26 rfl rfl rfl rfl (i := 2) rfl (Nat.le_of_ble_eq_true rfl) rfl (setMany_all (by rfl)) ?_
                  refine .assign rfl rfl ?_
                  refine .assign rfl rfl ?_
                  refine .nil ?_
                  refine .code ?_
                  refine .drop 1 ?_
                  refine .drop 0 ?_
                  refine .retQ (LPost.ret fun a w h => ⟨rfl, F_262, none, 0, (Fz.le_trans l_75 (Fz.le_trans l_169 l_263)), (RepSl.nil.mono (Fz.le_trans l_10 (Fz.le_trans l_27 (Fz.le_trans l_46 (Fz.le_trans l_75 (Fz.le_trans l_169 l_263)))))), h.1.sub (.cons (k := 2) rfl (.cons (k := 3) rfl (.cons (k := 4) rfl (.nil _)))), h.2⟩)
                · skip
                  refine .skip ?_
                  refine .block ?_
                  refine .code ?_
                  refine .region ?_
                  refine .move rfl rfl ?_
                  refine .add rfl rfl rfl ?_
                  refine .assignL rfl rfl (fun k265 e266 => ?_)
                  refine .nil ?_
                  exact .nil (LPost.norm fun a w h => ⟨F_262, (Fz.le_trans l_75 (Fz.le_trans l_169 l_263)), h.1.sub (.cons (k := 0) rfl (.cons (k := 2) rfl (.cons (k := 5) rfl (.cons (k := 6) rfl (.cons (k := 7) rfl (.cons (k := 8) rfl (.cons (k := 9) rfl (.nil _)))))))), h.2⟩)
            · skip
              refine .exitOut rfl (LPost.exit fun a w h => ⟨rfl, F_74, l_75, h.1.sub (.cons (k := 0) rfl (.cons (k := 2) rfl (.cons (k := 5) rfl (.cons (k := 6) rfl (.cons (k := 7) rfl (.nil _)))))), h.2⟩)
          · intro b267 hb0 hk e a w hD
            rcases b267 with b267 | b267
            · skip
              obtain ⟨rfl, F_268, l_269, hA⟩ := hD
              refine interp_exit rfl (GE.app ?_ hk a w hA)
              refine .code ?_
              refine .seq ?_
              refine .region ?_
              refine .fieldAddr rfl Try.underlying70 rfl Try.sizeOf3 rfl ?_
              refine .loadO rfl Try.isAgg3 rfl (i := 0) rfl rfl ?_
              refine .fieldAddr rfl Try.underlying70 rfl Try.sizeOf3 rfl ?_
              refine .loadO rfl Try.isAgg3 rfl (i := 0) rfl rfl ?_
              refine .sub rfl rfl rfl ?_
              refine .add rfl rfl rfl ?_
              refine .assignL rfl rfl (fun n_275 e276 => ?_)
              refine .nil ?_
              refine .code ?_
              refine .seq ?_
              refine .region ?_
              refine .fieldAddr rfl Try.underlying70 rfl Try.sizeOf3 rfl ?_
              refine .loadO rfl Try.isAgg3 rfl (i := 0) rfl rfl ?_
              refine .nil ?_
              refine .code ?_
              refine .keep (.cons (k := 0) rfl (.cons (k := 2) rfl (.cons (k := 5) rfl (.cons (k := 6) rfl (.cons (k := 10) rfl (.cons (k := 83) rfl (.nil _))))))) ?_
              refine GC.join0 (σ := ApiStampBook) (fun j295 a w => ∃ (F_296 : Fz) (p298 : Option Addr) (k299 : Nat), F_268 ≤ F_296 ∧ RepSl 2 (Ex cApiSpan) F_296 p298 k299 j295.Hand ∧ Hd 111 [] [(0, (.slice p2 l_1.length k3)), (2, (.pointer (some ⟨b5, 0, none⟩))), (5, (.pointer (some ⟨b7, 0, none⟩))), (6, (.int .i64 s8.1))] F_296 [pt b25 (.cells (cApiStampEvent x15).toArray 70), pt b7 (.cells (cApiStampBook j295 p298 k299).toArray 26), pt b5 (.cells (cApiStampBook (ApiStampBook.mk ([]) 0 0 0) none 0).toArray 26), R] a w) (fun sj => ?_) (fun j295 hs0 => GE.ex (fun a w ⟨F_296, p298, k299, l_297, h300, hA⟩ => ⟨_, hA, ?_⟩))
              · skip
                refine .block ?_
                refine .seq ?_
                refine .region ?_
                refine .eql rfl rfl rfl ?_
                refine .assign rfl rfl ?_
                refine .nil ?_
                refine .code ?_
                refine .keep (.cons (k := 0) rfl (.cons (k := 2) rfl (.cons (k := 5) rfl (.cons (k := 6) rfl (.cons (k := 10) rfl (.cons (k := 83) rfl (.cons (k := 84) rfl (.nil _)))))))) ?_
                refine GC.join0 (σ := ApiStampBook) (fun j289 a w => ∃ (F_290 : Fz) (p292 : Option Addr) (k293 : Nat), F_268 ≤ F_290 ∧ RepSl 2 (Ex cApiSpan) F_290 p292 k293 j289.Hand ∧ Hd 111 [] [(0, (.slice p2 l_1.length k3)), (2, (.pointer (some ⟨b5, 0, none⟩))), (5, (.pointer (some ⟨b7, 0, none⟩))), (6, (.int .i64 s8.1))] F_290 [pt b25 (.cells (cApiStampEvent x15).toArray 70), pt b7 (.cells (cApiStampBook j289 p292 k293).toArray 26), pt b5 (.cells (cApiStampBook (ApiStampBook.mk ([]) 0 0 0) none 0).toArray 26), R] a w) (fun sj => ?_) (fun j289 hs0 => GE.ex (fun a w ⟨F_290, p292, k293, l_291, h294, hA⟩ => ⟨_, hA, ?_⟩))
                · skip
                  refine .cond rfl (fun hb277 => ?_) (fun hb277 => ?_)
                  · skip
                    refine .region ?_
                    refine .fieldAddr rfl Try.underlying26 rfl Try.sizeOf3 rfl ?_
                    refine .loadO rfl Try.isAgg3 rfl (i := 1) rfl rfl ?_
                    refine .move rfl rfl ?_
                    refine .add rfl rfl rfl ?_
                    refine .fieldAddr rfl Try.underlying26 rfl Try.sizeOf3 rfl ?_
                    refine .letv (fun x278 e279 => ?_)
                    have h280 : RepSl 2 (Ex cApiSpan) F_268 p11 k12 x278.Hand := by rw [e279]; exact (h13.mono (Fz.le_trans l_27 (Fz.le_trans l_46 l_269)))
                    refine .store (cs' := (cApiStampBook x278 p11 k12)) Try.sizeOf3 rfl rfl rfl rfl (i := 1) rfl (Nat.le_of_ble_eq_true rfl) rfl (by rw [e279]; kernel_rfl) ?_
                    refine .nil ?_
                    exact .nil fun e a w h => by cases e; exact ⟨rfl, ⟨F_268, p11, k12, (Fz.le_refl _), h280, h.1.sub (.cons (k := 0) rfl (.cons (k := 2) rfl (.cons (k := 5) rfl (.cons (k := 6) rfl (.nil _))))), h.2⟩⟩
                  · skip
                    refine .seq ?_
                    refine .region ?_
                    refine .eql rfl rfl rfl ?_
                    refine .assign rfl rfl ?_
                    refine .nil ?_
                    refine .code ?_
                    refine .cond rfl (fun hb281 => ?_) (fun hb281 => ?_)
                    · skip
                      refine .region ?_
                      refine .fieldAddr rfl Try.underlying26 rfl Try.sizeOf3 rfl ?_
                      refine .loadO rfl Try.isAgg3 rfl (i := 1) rfl rfl ?_
                      refine .move rfl rfl ?_
                      refine .add rfl rfl rfl ?_
                      refine .fieldAddr rfl Try.underlying26 rfl Try.sizeOf3 rfl ?_
                      refine .letv (fun x282 e283 => ?_)
                      have h284 : RepSl 2 (Ex cApiSpan) F_268 p11 k12 x282.Hand := by rw [e283]; exact (h13.mono (Fz.le_trans l_27 (Fz.le_trans l_46 l_269)))
                      refine .store (cs' := (cApiStampBook x282 p11 k12)) Try.sizeOf3 rfl rfl rfl rfl (i := 1) rfl (Nat.le_of_ble_eq_true rfl) rfl (by rw [e283]; kernel_rfl) ?_
                      refine .nil ?_
                      exact .nil fun e a w h => by cases e; exact ⟨rfl, ⟨F_268, p11, k12, (Fz.le_refl _), h284, h.1.sub (.cons (k := 0) rfl (.cons (k := 2) rfl (.cons (k := 5) rfl (.cons (k := 6) rfl (.nil _))))), h.2⟩⟩
                    · skip
                      refine .seq ?_
                      refine .region ?_
                      refine .eql rfl rfl rfl ?_
                      refine .assign rfl rfl ?_
                      refine .nil ?_
                      refine .code ?_
                      refine .cond rfl (fun hb285 => ?_) (fun hb285 => ?_)
                      · skip
                        refine .region ?_
                        refine .fieldAddr rfl Try.underlying26 rfl Try.sizeOf3 rfl ?_
                        refine .loadO rfl Try.isAgg3 rfl (i := 1) rfl rfl ?_
                        refine .move rfl rfl ?_
                        refine .add rfl rfl rfl ?_
                        refine .fieldAddr rfl Try.underlying26 rfl Try.sizeOf3 rfl ?_
                        refine .letv (fun x286 e287 => ?_)
                        have h288 : RepSl 2 (Ex cApiSpan) F_268 p11 k12 x286.Hand := by rw [e287]; exact (h13.mono (Fz.le_trans l_27 (Fz.le_trans l_46 l_269)))
                        refine .store (cs' := (cApiStampBook x286 p11 k12)) Try.sizeOf3 rfl rfl rfl rfl (i := 1) rfl (Nat.le_of_ble_eq_true rfl) rfl (by rw [e287]; kernel_rfl) ?_
                        refine .nil ?_
                        exact .nil fun e a w h => by cases e; exact ⟨rfl, ⟨F_268, p11, k12, (Fz.le_refl _), h288, h.1.sub (.cons (k := 0) rfl (.cons (k := 2) rfl (.cons (k := 5) rfl (.cons (k := 6) rfl (.nil _))))), h.2⟩⟩
                      · skip
                        refine .skip ?_
                        exact .nil fun e a w h => by cases e; exact ⟨rfl, ⟨F_268, p11, k12, (Fz.le_refl _), (h13.mono (Fz.le_trans l_27 (Fz.le_trans l_46 l_269))), h.1.sub (.cons (k := 0) rfl (.cons (k := 2) rfl (.cons (k := 5) rfl (.cons (k := 6) rfl (.nil _))))), h.2⟩⟩
                refine .block ?_
                exact .nil fun e a w h => by cases e; exact ⟨rfl, ⟨F_290, p292, k293, l_291, h294, h.1.sub (.cons (k := 0) rfl (.cons (k := 2) rfl (.cons (k := 5) rfl (.cons (k := 6) rfl (.nil _))))), h.2⟩⟩
              refine .block ?_
              refine .code ?_
              refine .region ?_
              refine .move rfl rfl ?_
              refine .add rfl rfl rfl ?_
              refine .assignL rfl rfl (fun i301 e302 => ?_)
              refine .nil ?_
              refine .drop 0 ?_
              exact .nil (LPost.norm fun a w h => ⟨F_296, p298, k299, (Fz.le_trans l_10 (Fz.le_trans l_27 (Fz.le_trans l_46 (Fz.le_trans l_269 l_297)))), h300, h.1.sub (.cons (k := 0) rfl (.cons (k := 2) rfl (.cons (k := 5) rfl (.cons (k := 6) rfl (.nil _))))), h.2⟩)
            obtain ⟨rfl, F_270, p272, k273, l_271, h274, hA⟩ := hD
            exact interp_ret ((LPost.ret fun a w h => ⟨rfl, F_270, p272, k273, (Fz.le_trans l_10 (Fz.le_trans l_27 (Fz.le_trans l_46 l_271))), h274, h.1.sub (.cons (k := 2) rfl (.cons (k := 3) rfl (.cons (k := 4) rfl (.nil _)))), h.2⟩) hk a w hA)
      · skip
        refine .exitOut rfl (LPost.exit fun a w h => ⟨rfl, F_9, p11, k12, l_10, h13, h.1.sub (.cons (k := 0) rfl (.cons (k := 2) rfl (.cons (k := 5) rfl (.nil _)))), h.2⟩)
    · intro b303 hb0 hk e a w hD
      rcases b303 with b303 | b303
      · skip
        obtain ⟨rfl, F_304, p306, k307, l_305, h308, hA⟩ := hD
        refine interp_exit rfl (GE.app ?_ hk a w hA)
        refine .code ?_
        refine .seq ?_
        refine .region ?_
        refine .move rfl rfl ?_
        refine .call0 rfl Try.call43 rfl rfl rfl (c_wormtubref12_held _ l_1 p2 k3 (h4.mono l_305)) ?_
        rintro r_316 F_314 _ - l_315 ⟨p317, k318, rfl, h319⟩
        refine .fieldAddr rfl Try.underlying26 rfl Try.sizeOf24 rfl ?_
        refine .letv (fun x320 e321 => ?_)
        have h322 : RepSl 2 (Ex cApiSpan) F_314 p317 k318 x320.Hand := by rw [e321]; exact h319
        refine .store (cs' := (cApiStampBook x320 p317 k318)) Try.sizeOf24 rfl rfl rfl rfl (i := 0) rfl (Nat.le_of_ble_eq_true rfl) rfl (by rw [e321]; kernel_rfl) ?_
        refine .nil ?_
        refine .code ?_
        refine .seq ?_
        refine .region ?_
        refine .loadOA rfl Try.isAgg26 Try.sizeOf26 rfl (i := 0) rfl (vs := (cApiStampBook x320 p317 k318)) (by kernel_rfl) rfl ?_
        refine .move rfl rfl ?_
        refine .lenS rfl rfl Try.underlying22 rfl ?_
        refine .store (cs' := (cApiStampBook x320 p317 k318)) Try.sizeOf26 rfl rfl rfl rfl (i := 1) rfl (Nat.le_of_ble_eq_true rfl) rfl (setMany_all (by rfl)) ?_
        refine .assign rfl rfl ?_
        refine .assign rfl rfl ?_
        refine .nil ?_
        refine .code ?_
        exact .ret0 Try.results13 (.agg rfl Try.isAgg26 Try.sizeOf26 (i := 1) rfl (vs' := (cApiStampBook x320 p317 k318)) (by kernel_rfl) rfl (.tmp rfl (.tmp rfl (.nil)))) (i := 2) rfl (Fz.le_trans l_305 l_315) ⟨p317, k318, rfl, h322⟩
      obtain ⟨rfl, F_309, p311, k312, l_310, h313, hA⟩ := hD
      exact interp_ret ((ret_post0 Try.results13 (.agg rfl Try.isAgg26 Try.sizeOf26 (i := 0) rfl (vs' := (cApiStampBook b303.1 p311 k312)) (by kernel_rfl) rfl (.tmp rfl (.tmp rfl (.nil)))) (i := 1) rfl l_310 ⟨p311, k312, rfl, h313⟩) hk a w hA)

noncomputable def m_wormtubref12_Whose (l_1 : (List ApiStampEvent)) (n_5 : Int) : Option (Int × Int) :=
  (m_wormtubref12_Stamps l_1).bind fun r_8 => if (r_8.2.2 != 0) then (some (0, r_8.2.2)) else ((m_wormtubref12_last l_1 n_5).bind fun r_16 => (if (decide (r_16 < 0)) then some true else ((idxL l_1 r_16).bind fun x18 => some (x18.Kind != 1))).bind fun z31 => if z31 then (some (0, 4)) else ((idxL l_1 r_16).bind fun x34 => some (x34.Batch, 0)))
theorem c_wormtubref12_Whose (F0 : Fz) (l_1 : (List ApiStampEvent)) (p2 : Option Addr) (k3 : Nat) (h4 : RepSl 4 (Ex cApiStampEvent) F0 p2 k3 l_1) (n_5 : Int) : CT0 Try.prog 15 [(.slice p2 l_1.length k3), (.int .i64 n_5)].toArray F0 (m_wormtubref12_Whose l_1 n_5) (fun r _ v => v = .tuple #[(.int .i64 r.1), (.int .i64 r.2)]) := by
  refine CT0.enter Try.func15 rfl Try.ntmps15 rfl fun r R => ?_
  unfold m_wormtubref12_Whose
  refine .seq ?_
  refine .region ?_
  refine .assign rfl rfl ?_
  refine .assign rfl rfl ?_
  refine .nil ?_
  refine .code ?_
  refine .seq ?_
  refine .region ?_
  refine .move rfl rfl ?_
  refine .call0 rfl Try.call13 rfl rfl rfl (c_wormtubref12_Stamps _ l_1 p2 k3 h4) ?_
  rintro r_8 F_6 _ - l_7 ⟨p9, k10, rfl, h11⟩
  refine .move rfl rfl ?_
  refine .extract rfl rfl rfl ?_
  refine .extract rfl rfl rfl ?_
  refine .extract rfl rfl rfl ?_
  refine .alloc (cs := (cApiStampBook (ApiStampBook.mk ([]) 0 0 0) none 0)) rfl Try.zeroValue26 rfl (fun b12 => ?_)
  refine .store (cs' := (cApiStampBook r_8.1 p9 k10)) Try.sizeOf26 rfl rfl rfl rfl (i := 0) rfl (Nat.le_of_ble_eq_true rfl) rfl (setMany_all (by rfl)) ?_
  refine .assign rfl rfl ?_
  refine .assign rfl rfl ?_
  refine .nil ?_
  refine .code ?_
  refine .seq ?_
  refine .seq ?_
  refine .region ?_
  refine .move rfl rfl ?_
  refine .neq rfl rfl rfl ?_
  refine .nil ?_
  refine .code ?_
  refine .cond rfl (fun hb13 => ?_) (fun hb13 => ?_)
  · skip
    refine .seq ?_
    refine .region ?_
    refine .move rfl rfl ?_
    refine .assign rfl rfl ?_
    refine .assign rfl rfl ?_
    refine .nil ?_
    refine .code ?_
    exact .ret0 Try.results15 (.tmp rfl (.tmp rfl (.nil))) (i := 1) rfl l_7 rfl
  · skip
    refine .skip ?_
    refine .code ?_
    refine .seq ?_
    refine .region ?_
    refine .move rfl rfl ?_
    refine .move rfl rfl ?_
    refine .call0 rfl Try.call41 rfl rfl rfl (c_wormtubref12_last _ l_1 p2 k3 (h4.mono l_7) n_5) ?_
    rintro r_16 F_14 _ - l_15 rfl
    refine .assign rfl rfl ?_
    refine .nil ?_
    refine .code ?_
    refine .seq ?_
    refine .seq ?_
    refine .region ?_
    refine .move rfl rfl ?_
    refine .lss rfl rfl rfl ?_
    refine .move rfl rfl ?_
    refine .orM (b := (decide (r_16 < 0))) 7 31 (fun hb17 z32 => ?_) (fun hb28 => ?_) (fun z31 F_29 l_30 => ?_)
    · skip
      refine .onH hb17 rfl rfl ?_
      refine .move rfl rfl ?_
      refine .onH hb17 rfl rfl ?_
      refine .move rfl rfl ?_
      refine .onH hb17 rfl rfl ?_
      refine .idx rfl Try.underlying22 Try.sizeOf70 (h4.mono (Fz.le_trans l_7 l_15)) rfl rfl (fun x18 b19 o20 T21 fr22 cs23 e24 hm25 hv26 => ?_)
      refine .onH hb17 rfl rfl ?_
      refine .fieldAddr rfl Try.underlying70 rfl Try.sizeOf3 rfl ?_
      refine .onH hb17 rfl rfl ?_
      refine .loadF rfl Try.isAgg3 rfl hm25 (cell_of_take (k := 0) hv26 rfl) ?_
      refine .onH hb17 rfl rfl ?_
      refine .neq rfl rfl rfl ?_
      refine .pickFH hb17 rfl rfl rfl ?_
      exact .finZ 7 rfl rfl (by kernel_rfl) (Fz.le_refl _)
    · skip
      refine .offH hb28 rfl rfl rfl ?_
      refine .offH hb28 rfl rfl rfl ?_
      refine .offH hb28 rfl rfl rfl ?_
      refine .offH hb28 rfl rfl rfl ?_
      refine .offH hb28 rfl rfl rfl ?_
      refine .offH hb28 rfl rfl rfl ?_
      refine .pickTH hb28 rfl rfl rfl ?_
      exact .fin 7 rfl rfl (by kernel_rfl) (Fz.le_refl _)
    refine .nil ?_
    refine .code ?_
    refine .cond rfl (fun hb33 => ?_) (fun hb33 => ?_)
    · skip
      refine .seq ?_
      refine .region ?_
      refine .assign rfl rfl ?_
      refine .assign rfl rfl ?_
      refine .nil ?_
      refine .code ?_
      exact .ret0 Try.results15 (.tmp rfl (.tmp rfl (.nil))) (i := 1) rfl (Fz.le_trans l_7 (Fz.le_trans l_15 l_30)) rfl
    · skip
      refine .skip ?_
      refine .code ?_
      refine .seq ?_
      refine .region ?_
      refine .move rfl rfl ?_
      refine .move rfl rfl ?_
      refine .idx rfl Try.underlying22 Try.sizeOf70 (h4.mono (Fz.le_trans l_7 (Fz.le_trans l_15 l_30))) rfl rfl (fun x34 b35 o36 T37 fr38 cs39 e40 hm41 hv42 => ?_)
      refine .fieldAddr rfl Try.underlying70 rfl Try.sizeOf3 rfl ?_
      refine .loadF rfl Try.isAgg3 rfl hm41 (cell_of_take (k := 3) hv42 rfl) ?_
      refine .assign rfl rfl ?_
      refine .assign rfl rfl ?_
      refine .nil ?_
      refine .keep (.cons (k := 4) rfl (.cons (k := 5) rfl (.nil _))) ?_
      refine .code ?_
      exact .ret0 Try.results15 (.tmp rfl (.tmp rfl (.nil))) (i := 1) rfl (Fz.le_trans l_7 (Fz.le_trans l_15 l_30)) rfl

noncomputable def m_wormtublaw12_BottleStamps (l_1 : (List ApiStampEvent)) (stamp5 : Int) : Option Bool :=
  if (((decide ((l_1.length : Int) > 40)) && (decide ((l_1.length : Int) ≤ 256))) || (decide ((l_1.length : Int) > 260))) then ((m_wormtublaw12_awake).bind fun r_17 => some r_17) else ((m_bottle_Stamps l_1).bind fun r_20 => (m_wormtubref12_Stamps l_1).bind fun r_27 => (m_bottle_Whose l_1 stamp5).bind fun r_34 => (m_wormtubref12_Whose l_1 stamp5).bind fun r_37 => (m_wormtubref12_Spans r_20.1.Hand r_27.1.Hand).bind fun r_40 => bindv (((r_40 && (r_20.1.Stuck == r_27.1.Stuck)) && (r_20.1.Spoiled == r_27.1.Spoiled)) && (r_20.1.Returned == r_27.1.Returned)) fun same53 => (if ((((same53 && (r_20.2.1 == r_27.2.1)) && (r_20.2.2 == r_27.2.2)) && (r_34.1 == r_37.1)) && (r_34.2 == r_37.2)) then ((m_wormtublaw12_awake).bind fun r_74 => some r_74) else some false).bind fun z78 => some z78)
theorem c_wormtublaw12_BottleStamps (F0 : Fz) (l_1 : (List ApiStampEvent)) (p2 : Option Addr) (k3 : Nat) (h4 : RepSl 4 (Ex cApiStampEvent) F0 p2 k3 l_1) (stamp5 : Int) : CT0 Try.prog 3 [(.slice p2 l_1.length k3), (.int .i64 stamp5)].toArray F0 (m_wormtublaw12_BottleStamps l_1 stamp5) (fun r _ v => v = (.bool r)) := by
  refine CT0.enter Try.func3 rfl Try.ntmps3 rfl fun r R => ?_
  unfold m_wormtublaw12_BottleStamps
  refine .seq ?_
  refine .region ?_
  refine .assign rfl rfl ?_
  refine .nil ?_
  refine .code ?_
  refine .seq ?_
  refine .seq ?_
  refine .region ?_
  refine .move rfl rfl ?_
  refine .lenS rfl rfl Try.underlying22 rfl ?_
  refine .gtr rfl rfl rfl ?_
  refine .move rfl rfl ?_
  refine .andP (b := (decide ((l_1.length : Int) > 40))) (b' := (decide ((l_1.length : Int) ≤ 256))) 4 23 (fun hb6 => ?_) (fun hb7 => ?_) (fun F_8 l_9 => ?_)
  · skip
    refine .onH hb6 rfl rfl ?_
    refine .move rfl rfl ?_
    refine .onH hb6 rfl rfl ?_
    refine .lenS rfl rfl Try.underlying22 rfl ?_
    refine .onH hb6 rfl rfl ?_
    refine .leq rfl rfl rfl ?_
    refine .pickTH hb6 rfl rfl rfl ?_
    exact .fin 4 rfl rfl (by kernel_rfl) (Fz.le_refl _)
  · skip
    refine .offH hb7 rfl rfl rfl ?_
    refine .offH hb7 rfl rfl rfl ?_
    refine .offH hb7 rfl rfl rfl ?_
    refine .pickFH hb7 rfl rfl rfl ?_
    exact .fin 4 rfl rfl (by kernel_rfl) (Fz.le_refl _)
  refine .move rfl rfl ?_
  refine .orP (b := ((decide ((l_1.length : Int) > 40)) && (decide ((l_1.length : Int) ≤ 256)))) (b' := (decide ((l_1.length : Int) > 260))) 4 28 (fun hb10 => ?_) (fun hb11 => ?_) (fun F_12 l_13 => ?_)
  · skip
    refine .onH hb10 rfl rfl ?_
    refine .move rfl rfl ?_
    refine .onH hb10 rfl rfl ?_
    refine .lenS rfl rfl Try.underlying22 rfl ?_
    refine .onH hb10 rfl rfl ?_
    refine .gtr rfl rfl rfl ?_
    refine .pickFH hb10 rfl rfl rfl ?_
    exact .fin 4 rfl rfl (by kernel_rfl) (Fz.le_refl _)
  · skip
    refine .offH hb11 rfl rfl rfl ?_
    refine .offH hb11 rfl rfl rfl ?_
    refine .offH hb11 rfl rfl rfl ?_
    refine .pickTH hb11 rfl rfl rfl ?_
    exact .fin 4 rfl rfl (by kernel_rfl) (Fz.le_refl _)
  refine .nil ?_
  refine .code ?_
  refine .cond rfl (fun hb14 => ?_) (fun hb14 => ?_)
  · skip
    refine .seq ?_
    refine .region ?_
    refine .call0 rfl Try.call11 rfl rfl rfl (c_wormtublaw12_awake _ ) ?_
    rintro r_17 F_15 _ - l_16 rfl
    refine .assign rfl rfl ?_
    refine .nil ?_
    refine .code ?_
    exact .ret0 Try.results3 (.tmp rfl (.nil)) (i := 0) rfl (Fz.le_trans l_9 (Fz.le_trans l_13 l_16)) rfl
  · skip
    refine .skip ?_
    refine .code ?_
    refine .seq ?_
    refine .region ?_
    refine .move rfl rfl ?_
    refine .call0 rfl Try.call12 rfl rfl rfl (c_bottle_Stamps _ l_1 p2 k3 (h4.mono (Fz.le_trans l_9 l_13))) ?_
    rintro r_20 F_18 _ - l_19 ⟨p21, k22, rfl, h23⟩
    refine .move rfl rfl ?_
    refine .extract rfl rfl rfl ?_
    refine .extract rfl rfl rfl ?_
    refine .extract rfl rfl rfl ?_
    refine .alloc (cs := (cApiStampBook (ApiStampBook.mk ([]) 0 0 0) none 0)) rfl Try.zeroValue26 rfl (fun b24 => ?_)
    refine .store (cs' := (cApiStampBook r_20.1 p21 k22)) Try.sizeOf26 rfl rfl rfl rfl (i := 0) rfl (Nat.le_of_ble_eq_true rfl) rfl (setMany_all (by rfl)) ?_
    refine .assign rfl rfl ?_
    refine .assign rfl rfl ?_
    refine .nil ?_
    refine .code ?_
    refine .seq ?_
    refine .region ?_
    refine .move rfl rfl ?_
    refine .call0 rfl Try.call13 rfl rfl rfl (c_wormtubref12_Stamps _ l_1 p2 k3 (h4.mono (Fz.le_trans l_9 (Fz.le_trans l_13 l_19)))) ?_
    rintro r_27 F_25 _ - l_26 ⟨p28, k29, rfl, h30⟩
    refine .move rfl rfl ?_
    refine .extract rfl rfl rfl ?_
    refine .extract rfl rfl rfl ?_
    refine .extract rfl rfl rfl ?_
    refine .alloc (cs := (cApiStampBook (ApiStampBook.mk ([]) 0 0 0) none 0)) rfl Try.zeroValue26 rfl (fun b31 => ?_)
    refine .store (cs' := (cApiStampBook r_27.1 p28 k29)) Try.sizeOf26 rfl rfl rfl rfl (i := 0) rfl (Nat.le_of_ble_eq_true rfl) rfl (setMany_all (by rfl)) ?_
    refine .assign rfl rfl ?_
    refine .assign rfl rfl ?_
    refine .nil ?_
    refine .keep (.cons (k := 0) rfl (.cons (k := 1) rfl (.cons (k := 5) rfl (.cons (k := 6) rfl (.cons (k := 7) rfl (.cons (k := 8) rfl (.cons (k := 9) rfl (.cons (k := 10) rfl (.nil _))))))))) ?_
    refine .code ?_
    refine .seq ?_
    refine .region ?_
    refine .move rfl rfl ?_
    refine .move rfl rfl ?_
    refine .call0 rfl Try.call14 rfl rfl rfl (c_bottle_Whose _ l_1 p2 k3 (h4.mono (Fz.le_trans l_9 (Fz.le_trans l_13 (Fz.le_trans l_19 l_26)))) stamp5) ?_
    rintro r_34 F_32 _ - l_33 rfl
    refine .move rfl rfl ?_
    refine .extract rfl rfl rfl ?_
    refine .extract rfl rfl rfl ?_
    refine .assign rfl rfl ?_
    refine .assign rfl rfl ?_
    refine .nil ?_
    refine .code ?_
    refine .seq ?_
    refine .region ?_
    refine .move rfl rfl ?_
    refine .move rfl rfl ?_
    refine .call0 rfl Try.call15 rfl rfl rfl (c_wormtubref12_Whose _ l_1 p2 k3 (h4.mono (Fz.le_trans l_9 (Fz.le_trans l_13 (Fz.le_trans l_19 (Fz.le_trans l_26 l_33))))) stamp5) ?_
    rintro r_37 F_35 _ - l_36 rfl
    refine .move rfl rfl ?_
    refine .extract rfl rfl rfl ?_
    refine .extract rfl rfl rfl ?_
    refine .assign rfl rfl ?_
    refine .assign rfl rfl ?_
    refine .nil ?_
    refine .code ?_
    refine .seq ?_
    refine .region ?_
    refine .fieldAddr rfl Try.underlying26 rfl Try.sizeOf24 rfl ?_
    refine .loadO rfl Try.isAgg24 rfl (i := 1) rfl rfl ?_
    refine .fieldAddr rfl Try.underlying26 rfl Try.sizeOf24 rfl ?_
    refine .loadO rfl Try.isAgg24 rfl (i := 0) rfl rfl ?_
    refine .call0 rfl Try.call16 rfl rfl rfl (c_wormtubref12_Spans _ r_20.1.Hand p21 k22 (h23.mono (Fz.le_trans l_26 (Fz.le_trans l_33 l_36))) r_27.1.Hand p28 k29 (h30.mono (Fz.le_trans l_33 l_36))) ?_
    rintro r_40 F_38 _ - l_39 rfl
    refine .move rfl rfl ?_
    refine .andP (b := r_40) (b' := (r_20.1.Stuck == r_27.1.Stuck)) 6 65 (fun hb41 => ?_) (fun hb42 => ?_) (fun F_43 l_44 => ?_)
    · skip
      refine .onH hb41 rfl rfl ?_
      refine .fieldAddr rfl Try.underlying26 rfl Try.sizeOf3 rfl ?_
      refine .onH hb41 rfl rfl ?_
      refine .loadO rfl Try.isAgg3 rfl (i := 1) rfl rfl ?_
      refine .onH hb41 rfl rfl ?_
      refine .fieldAddr rfl Try.underlying26 rfl Try.sizeOf3 rfl ?_
      refine .onH hb41 rfl rfl ?_
      refine .loadO rfl Try.isAgg3 rfl (i := 0) rfl rfl ?_
      refine .onH hb41 rfl rfl ?_
      refine .eql rfl rfl rfl ?_
      refine .pickTH hb41 rfl rfl rfl ?_
      exact .fin 6 rfl rfl (by kernel_rfl) (Fz.le_refl _)
    · skip
      refine .offH hb42 rfl rfl rfl ?_
      refine .offH hb42 rfl rfl rfl ?_
      refine .offH hb42 rfl rfl rfl ?_
      refine .offH hb42 rfl rfl rfl ?_
      refine .offH hb42 rfl rfl rfl ?_
      refine .pickFH hb42 rfl rfl rfl ?_
      exact .fin 6 rfl rfl (by kernel_rfl) (Fz.le_refl _)
    refine .move rfl rfl ?_
    refine .andP (b := (r_40 && (r_20.1.Stuck == r_27.1.Stuck))) (b' := (r_20.1.Spoiled == r_27.1.Spoiled)) 6 72 (fun hb45 => ?_) (fun hb46 => ?_) (fun F_47 l_48 => ?_)
    · skip
      refine .onH hb45 rfl rfl ?_
      refine .fieldAddr rfl Try.underlying26 rfl Try.sizeOf3 rfl ?_
      refine .onH hb45 rfl rfl ?_
      refine .loadO rfl Try.isAgg3 rfl (i := 1) rfl rfl ?_
      refine .onH hb45 rfl rfl ?_
      refine .fieldAddr rfl Try.underlying26 rfl Try.sizeOf3 rfl ?_
      refine .onH hb45 rfl rfl ?_
      refine .loadO rfl Try.isAgg3 rfl (i := 0) rfl rfl ?_
      refine .onH hb45 rfl rfl ?_
      refine .eql rfl rfl rfl ?_
      refine .pickTH hb45 rfl rfl rfl ?_
      exact .fin 6 rfl rfl (by kernel_rfl) (Fz.le_refl _)
    · skip
      refine .offH hb46 rfl rfl rfl ?_
      refine .offH hb46 rfl rfl rfl ?_
      refine .offH hb46 rfl rfl rfl ?_
      refine .offH hb46 rfl rfl rfl ?_
      refine .offH hb46 rfl rfl rfl ?_
      refine .pickFH hb46 rfl rfl rfl ?_
      exact .fin 6 rfl rfl (by kernel_rfl) (Fz.le_refl _)
    refine .move rfl rfl ?_
    refine .andP (b := ((r_40 && (r_20.1.Stuck == r_27.1.Stuck)) && (r_20.1.Spoiled == r_27.1.Spoiled))) (b' := (r_20.1.Returned == r_27.1.Returned)) 6 79 (fun hb49 => ?_) (fun hb50 => ?_) (fun F_51 l_52 => ?_)
    · skip
      refine .onH hb49 rfl rfl ?_
      refine .fieldAddr rfl Try.underlying26 rfl Try.sizeOf3 rfl ?_
      refine .onH hb49 rfl rfl ?_
      refine .loadO rfl Try.isAgg3 rfl (i := 1) rfl rfl ?_
      refine .onH hb49 rfl rfl ?_
      refine .fieldAddr rfl Try.underlying26 rfl Try.sizeOf3 rfl ?_
      refine .onH hb49 rfl rfl ?_
      refine .loadO rfl Try.isAgg3 rfl (i := 0) rfl rfl ?_
      refine .onH hb49 rfl rfl ?_
      refine .eql rfl rfl rfl ?_
      refine .pickTH hb49 rfl rfl rfl ?_
      exact .fin 6 rfl rfl (by kernel_rfl) (Fz.le_refl _)
    · skip
      refine .offH hb50 rfl rfl rfl ?_
      refine .offH hb50 rfl rfl rfl ?_
      refine .offH hb50 rfl rfl rfl ?_
      refine .offH hb50 rfl rfl rfl ?_
      refine .offH hb50 rfl rfl rfl ?_
      refine .pickFH hb50 rfl rfl rfl ?_
      exact .fin 6 rfl rfl (by kernel_rfl) (Fz.le_refl _)
    refine .assignB rfl rfl (fun same53 e54 => ?_)
    refine .nil ?_
    refine .keep (.cons (k := 6) rfl (.cons (k := 7) rfl (.cons (k := 9) rfl (.cons (k := 10) rfl (.cons (k := 11) rfl (.cons (k := 12) rfl (.cons (k := 13) rfl (.cons (k := 14) rfl (.cons (k := 15) rfl (.nil _)))))))))) ?_
    refine .code ?_
    refine .seq ?_
    refine .region ?_
    refine .move rfl rfl ?_
    refine .move rfl rfl ?_
    refine .andP (b := same53) (b' := (r_20.2.1 == r_27.2.1)) 4 85 (fun hb55 => ?_) (fun hb56 => ?_) (fun F_57 l_58 => ?_)
    · skip
      refine .onH hb55 rfl rfl ?_
      refine .move rfl rfl ?_
      refine .onH hb55 rfl rfl ?_
      refine .move rfl rfl ?_
      refine .onH hb55 rfl rfl ?_
      refine .eql rfl rfl rfl ?_
      refine .pickTH hb55 rfl rfl rfl ?_
      exact .fin 4 rfl rfl (by kernel_rfl) (Fz.le_refl _)
    · skip
      refine .offH hb56 rfl rfl rfl ?_
      refine .offH hb56 rfl rfl rfl ?_
      refine .offH hb56 rfl rfl rfl ?_
      refine .pickFH hb56 rfl rfl rfl ?_
      exact .fin 4 rfl rfl (by kernel_rfl) (Fz.le_refl _)
    refine .move rfl rfl ?_
    refine .andP (b := (same53 && (r_20.2.1 == r_27.2.1))) (b' := (r_20.2.2 == r_27.2.2)) 4 90 (fun hb59 => ?_) (fun hb60 => ?_) (fun F_61 l_62 => ?_)
    · skip
      refine .onH hb59 rfl rfl ?_
      refine .move rfl rfl ?_
      refine .onH hb59 rfl rfl ?_
      refine .move rfl rfl ?_
      refine .onH hb59 rfl rfl ?_
      refine .eql rfl rfl rfl ?_
      refine .pickTH hb59 rfl rfl rfl ?_
      exact .fin 4 rfl rfl (by kernel_rfl) (Fz.le_refl _)
    · skip
      refine .offH hb60 rfl rfl rfl ?_
      refine .offH hb60 rfl rfl rfl ?_
      refine .offH hb60 rfl rfl rfl ?_
      refine .pickFH hb60 rfl rfl rfl ?_
      exact .fin 4 rfl rfl (by kernel_rfl) (Fz.le_refl _)
    refine .move rfl rfl ?_
    refine .andP (b := ((same53 && (r_20.2.1 == r_27.2.1)) && (r_20.2.2 == r_27.2.2))) (b' := (r_34.1 == r_37.1)) 4 95 (fun hb63 => ?_) (fun hb64 => ?_) (fun F_65 l_66 => ?_)
    · skip
      refine .onH hb63 rfl rfl ?_
      refine .move rfl rfl ?_
      refine .onH hb63 rfl rfl ?_
      refine .move rfl rfl ?_
      refine .onH hb63 rfl rfl ?_
      refine .eql rfl rfl rfl ?_
      refine .pickTH hb63 rfl rfl rfl ?_
      exact .fin 4 rfl rfl (by kernel_rfl) (Fz.le_refl _)
    · skip
      refine .offH hb64 rfl rfl rfl ?_
      refine .offH hb64 rfl rfl rfl ?_
      refine .offH hb64 rfl rfl rfl ?_
      refine .pickFH hb64 rfl rfl rfl ?_
      exact .fin 4 rfl rfl (by kernel_rfl) (Fz.le_refl _)
    refine .move rfl rfl ?_
    refine .andP (b := (((same53 && (r_20.2.1 == r_27.2.1)) && (r_20.2.2 == r_27.2.2)) && (r_34.1 == r_37.1))) (b' := (r_34.2 == r_37.2)) 4 100 (fun hb67 => ?_) (fun hb68 => ?_) (fun F_69 l_70 => ?_)
    · skip
      refine .onH hb67 rfl rfl ?_
      refine .move rfl rfl ?_
      refine .onH hb67 rfl rfl ?_
      refine .move rfl rfl ?_
      refine .onH hb67 rfl rfl ?_
      refine .eql rfl rfl rfl ?_
      refine .pickTH hb67 rfl rfl rfl ?_
      exact .fin 4 rfl rfl (by kernel_rfl) (Fz.le_refl _)
    · skip
      refine .offH hb68 rfl rfl rfl ?_
      refine .offH hb68 rfl rfl rfl ?_
      refine .offH hb68 rfl rfl rfl ?_
      refine .pickFH hb68 rfl rfl rfl ?_
      exact .fin 4 rfl rfl (by kernel_rfl) (Fz.le_refl _)
    refine .move rfl rfl ?_
    refine .andM (b := ((((same53 && (r_20.2.1 == r_27.2.1)) && (r_20.2.2 == r_27.2.2)) && (r_34.1 == r_37.1)) && (r_34.2 == r_37.2))) 2 103 (fun hb71 z79 => ?_) (fun hb75 => ?_) (fun z78 F_76 l_77 => ?_)
    · skip
      refine .onH hb71 rfl rfl ?_
      refine .call0 rfl Try.call11 rfl rfl rfl (c_wormtublaw12_awake _ ) ?_
      rintro r_74 F_72 _ - l_73 rfl
      refine .pickTH hb71 rfl rfl rfl ?_
      exact .finZ 2 rfl rfl (by kernel_rfl) l_73
    · skip
      refine .offH hb75 rfl rfl rfl ?_
      refine .pickFH hb75 rfl rfl rfl ?_
      exact .fin 2 rfl rfl (by kernel_rfl) (Fz.le_refl _)
    refine .assign rfl rfl ?_
    refine .nil ?_
    refine .code ?_
    exact .ret0 Try.results3 (.tmp rfl (.nil)) (i := 2) rfl (Fz.le_trans l_9 (Fz.le_trans l_13 (Fz.le_trans l_19 (Fz.le_trans l_26 (Fz.le_trans l_33 (Fz.le_trans l_36 (Fz.le_trans l_39 (Fz.le_trans l_44 (Fz.le_trans l_48 (Fz.le_trans l_52 (Fz.le_trans l_58 (Fz.le_trans l_62 (Fz.le_trans l_66 (Fz.le_trans l_70 l_77)))))))))))))) rfl

end Go.Proofs.Ytbomfcghpajaiaa
