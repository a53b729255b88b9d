/- Printed by gen.py: plain models of the program's functions, and that the code does what they say. -/
import Derived.Test.YtbomfcghpajaiaaS0
import Derived.Test.YtbomfcghpajaiaaS1
import Derived.Test.YtbomfcghpajaiaaS2
namespace Go.Proofs.Ytbomfcghpajaiaa
open Go.Dec

noncomputable def b_wormtublaw12_BottleOnce_1 (l_1 : (List ApiStampEvent)) (stamp64 : Int) (s68 : Int × Int × Int × Int × Int) : Option (Ctl (Int × Int × Int × Int × Int) ((Int × Int × Int × Int))) :=
  if (decide (s68.2.2.2.2 < (l_1.length : Int))) then (((idxL l_1 s68.2.2.2.2).bind fun x72 => bindv ((decide (x72.First ≤ stamp64)) && (decide (stamp64 ≤ x72.Last))) fun is_87 => (if (x72.Kind == 0) then (bindv (w64 ((w64 ((w64 (s68.2.2.1 + x72.Last)) - x72.First)) + 1)) fun total90 => if is_87 then (bindv (w64 (s68.1 + 1)) fun issued93 => some (issued93, s68.2.1, total90, s68.2.2.2.1)) else (some (s68.1, s68.2.1, total90, s68.2.2.2.1))) else (if is_87 then (bindv (w64 (s68.2.1 + 1)) fun away96 => if (x72.Kind == 1) then (some (s68.1, away96, s68.2.2.1, x72.Batch)) else (some (s68.1, away96, s68.2.2.1, s68.2.2.2.1))) else (some (s68.1, s68.2.1, s68.2.2.1, s68.2.2.2.1))) : Option (Int × Int × Int × Int)).bind fun j99 => some (j99.1, j99.2.1, j99.2.2.1, j99.2.2.2) : Option (Int × Int × Int × Int)).bind fun j102 => bindv (w64 (s68.2.2.2.2 + 1)) fun i105 => some (.next (j102.1, j102.2.1, j102.2.2.1, j102.2.2.2, i105))) else (some (.done (s68.1, s68.2.1, s68.2.2.1, s68.2.2.2.1)))
noncomputable def b_wormtublaw12_BottleOnce_2 (r_17 : (ApiStampBook × Int × Int)) (stamp64 : Int) (s112 : Int × Int × Int) : Option (Ctl (Int × Int × Int) ((Int × Int) ⊕ (Bool))) :=
  if (decide (s112.2.2 < (r_17.1.Hand.length : Int))) then ((idxL r_17.1.Hand s112.2.2).bind fun x116 => (if (decide (x116.Lo > x116.Hi)) then (some true) else (if (decide (s112.2.2 > 0)) then ((idxL r_17.1.Hand (w64 (s112.2.2 - 1))).bind fun x176 => some (decide (x116.Lo ≤ (w64 (x176.Hi + 1))))) else (some false)) : Option (Bool)).bind fun j280 => if j280 then (some (.done (.inr false))) else (bindv (w64 ((w64 ((w64 (s112.2.1 + x116.Hi)) - x116.Lo)) + 1)) fun sum284 => (if ((decide (x116.Lo ≤ stamp64)) && (decide (stamp64 ≤ x116.Hi))) then (bindv (w64 (s112.1 + 1)) fun held291 => some held291) else (some s112.1) : Option (Int)).bind fun j293 => bindv (w64 (s112.2.2 + 1)) fun i296 => some (.next (j293, sum284, i296)))) else (some (.done (.inl (s112.1, s112.2.1))))
noncomputable def m_wormtublaw12_BottleOnce (l_1 : (List ApiStampEvent)) (which5 : Int) (near6 : Int) : Option Bool :=
  if ((decide ((l_1.length : Int) > 40)) || ((l_1.length : Int) == 0)) then ((m_wormtublaw12_awake).bind fun r_14 => some r_14) else ((m_bottle_Stamps l_1).bind fun r_17 => if (r_17.2.2 != 0) then ((if (((((((r_17.1.Hand.length : Int) == 0) && (r_17.1.Stuck == 0)) && (r_17.1.Spoiled == 0)) && (r_17.1.Returned == 0)) && (decide (r_17.2.1 ≥ 0))) && (decide (r_17.2.1 < (l_1.length : Int)))) then ((m_wormtublaw12_awake).bind fun r_46 => some r_46) else some false).bind fun z50 => some z50) else ((remK (w64 (which5)) (l_1.length : Int)).bind fun q52 => (idxL l_1 q52).bind fun x54 => bindv (w64 (x54.First + (w64 (near6)))) fun stamp64 => bindv (-1) fun batch66 => (loopM (b_wormtublaw12_BottleOnce_1 l_1 stamp64) (0, 0, 0, batch66, 0)).bind fun b107 => bindv (w64 ((w64 (r_17.1.Stuck + r_17.1.Spoiled)) + r_17.1.Returned)) fun sum110 => (loopM (b_wormtublaw12_BottleOnce_2 r_17 stamp64) (0, sum110, 0)).bind fun b0 => match b0 with | .inl b298 => ((m_bottle_Whose l_1 stamp64).bind fun r_305 => if (((decide (b107.2.2.2 ≥ 0)) && ((r_305.2 != 0) || (r_305.1 != b107.2.2.2))) || ((decide (b107.2.2.2 < 0)) && ((r_305.2 != 4) || (r_305.1 != 0)))) then (some false) else ((if ((((r_17.2.1 == (l_1.length : Int)) && (decide (b107.1 ≤ 1))) && ((w64 (b298.1 + b107.2.1)) == b107.1)) && (b298.2 == b107.2.2.1)) then ((m_wormtublaw12_awake).bind fun r_342 => some r_342) else some false).bind fun z346 => some z346)) | .inr b298 => (some b298)))
theorem c_wormtublaw12_BottleOnce (F0 : Fz) (l_1 : (List ApiStampEvent)) (p2 : Option Addr) (k3 : Nat) (h4 : RepSl 4 (Ex cApiStampEvent) F0 p2 k3 l_1) (which5 : Int) (near6 : Int) : CT0 Try.prog 8 [(.slice p2 l_1.length k3), (.int .u8 which5), (.int .i8 near6)].toArray F0 (m_wormtublaw12_BottleOnce l_1 which5 near6) (fun r _ v => v = (.bool r)) := by
  refine CT0.enter Try.func8 rfl Try.ntmps8 rfl fun r R => ?_
  unfold m_wormtublaw12_BottleOnce
  refine .seq ?_
  refine .region ?_
  refine .assign rfl rfl ?_
  refine .nil ?_
  refine .code ?_
  refine .seq ?_
  refine .seq ?_
  refine .region ?_
  refine .move rfl rfl ?_
  refine .lenS rfl rfl Try.underlying22 rfl ?_
  refine .gtr rfl rfl rfl ?_
  refine .move rfl rfl ?_
  refine .orP (b := (decide ((l_1.length : Int) > 40))) (b' := ((l_1.length : Int) == 0)) 4 31 (fun hb7 => ?_) (fun hb8 => ?_) (fun F_9 l_10 => ?_)
  · skip
    refine .onH hb7 rfl rfl ?_
    refine .move rfl rfl ?_
    refine .onH hb7 rfl rfl ?_
    refine .lenS rfl rfl Try.underlying22 rfl ?_
    refine .onH hb7 rfl rfl ?_
    refine .eql rfl rfl rfl ?_
    refine .pickFH hb7 rfl rfl rfl ?_
    exact .fin 4 rfl rfl (by kernel_rfl) (Fz.le_refl _)
  · skip
    refine .offH hb8 rfl rfl rfl ?_
    refine .offH hb8 rfl rfl rfl ?_
    refine .offH hb8 rfl rfl rfl ?_
    refine .pickTH hb8 rfl rfl rfl ?_
    exact .fin 4 rfl rfl (by kernel_rfl) (Fz.le_refl _)
  refine .nil ?_
  refine .code ?_
  refine .cond rfl (fun hb11 => ?_) (fun hb11 => ?_)
  · skip
    refine .seq ?_
    refine .region ?_
    refine .call0 rfl Try.call11 rfl rfl rfl (c_wormtublaw12_awake _ ) ?_
    rintro r_14 F_12 _ - l_13 rfl
    refine .assign rfl rfl ?_
    refine .nil ?_
    refine .code ?_
    exact .ret0 Try.results8 (.tmp rfl (.nil)) (i := 0) rfl (Fz.le_trans l_10 l_13) rfl
  · skip
    refine .skip ?_
    refine .code ?_
    refine .seq ?_
    refine .region ?_
    refine .move rfl rfl ?_
    refine .call0 rfl Try.call12 rfl rfl rfl (c_bottle_Stamps _ l_1 p2 k3 (h4.mono l_10)) ?_
    rintro r_17 F_15 _ - l_16 ⟨p18, k19, rfl, h20⟩
    refine .move rfl rfl ?_
    refine .extract rfl rfl rfl ?_
    refine .extract rfl rfl rfl ?_
    refine .extract rfl rfl rfl ?_
    refine .alloc (cs := (cApiStampBook (ApiStampBook.mk ([]) 0 0 0) none 0)) rfl Try.zeroValue26 rfl (fun b21 => ?_)
    refine .store (cs' := (cApiStampBook r_17.1 p18 k19)) Try.sizeOf26 rfl rfl rfl rfl (i := 0) rfl (Nat.le_of_ble_eq_true rfl) rfl (setMany_all (by rfl)) ?_
    refine .assign rfl rfl ?_
    refine .assign rfl rfl ?_
    refine .nil ?_
    refine .code ?_
    refine .seq ?_
    refine .seq ?_
    refine .region ?_
    refine .move rfl rfl ?_
    refine .neq rfl rfl rfl ?_
    refine .nil ?_
    refine .code ?_
    refine .cond rfl (fun hb22 => ?_) (fun hb22 => ?_)
    · skip
      refine .seq ?_
      refine .region ?_
      refine .fieldAddr rfl Try.underlying26 rfl Try.sizeOf24 rfl ?_
      refine .loadO rfl Try.isAgg24 rfl (i := 0) rfl rfl ?_
      refine .lenS rfl rfl Try.underlying24 rfl ?_
      refine .eql rfl rfl rfl ?_
      refine .move rfl rfl ?_
      refine .andP (b := ((r_17.1.Hand.length : Int) == 0)) (b' := (r_17.1.Stuck == 0)) 4 49 (fun hb23 => ?_) (fun hb24 => ?_) (fun F_25 l_26 => ?_)
      · skip
        refine .onH hb23 rfl rfl ?_
        refine .fieldAddr rfl Try.underlying26 rfl Try.sizeOf3 rfl ?_
        refine .onH hb23 rfl rfl ?_
        refine .loadO rfl Try.isAgg3 rfl (i := 0) rfl rfl ?_
        refine .onH hb23 rfl rfl ?_
        refine .eql rfl rfl rfl ?_
        refine .pickTH hb23 rfl rfl rfl ?_
        exact .fin 4 rfl rfl (by kernel_rfl) (Fz.le_refl _)
      · skip
        refine .offH hb24 rfl rfl rfl ?_
        refine .offH hb24 rfl rfl rfl ?_
        refine .offH hb24 rfl rfl rfl ?_
        refine .pickFH hb24 rfl rfl rfl ?_
        exact .fin 4 rfl rfl (by kernel_rfl) (Fz.le_refl _)
      refine .move rfl rfl ?_
      refine .andP (b := (((r_17.1.Hand.length : Int) == 0) && (r_17.1.Stuck == 0))) (b' := (r_17.1.Spoiled == 0)) 4 54 (fun hb27 => ?_) (fun hb28 => ?_) (fun F_29 l_30 => ?_)
      · skip
        refine .onH hb27 rfl rfl ?_
        refine .fieldAddr rfl Try.underlying26 rfl Try.sizeOf3 rfl ?_
        refine .onH hb27 rfl rfl ?_
        refine .loadO rfl Try.isAgg3 rfl (i := 0) rfl rfl ?_
        refine .onH hb27 rfl rfl ?_
        refine .eql rfl rfl rfl ?_
        refine .pickTH hb27 rfl rfl rfl ?_
        exact .fin 4 rfl rfl (by kernel_rfl) (Fz.le_refl _)
      · skip
        refine .offH hb28 rfl rfl rfl ?_
        refine .offH hb28 rfl rfl rfl ?_
        refine .offH hb28 rfl rfl rfl ?_
        refine .pickFH hb28 rfl rfl rfl ?_
        exact .fin 4 rfl rfl (by kernel_rfl) (Fz.le_refl _)
      refine .move rfl rfl ?_
      refine .andP (b := ((((r_17.1.Hand.length : Int) == 0) && (r_17.1.Stuck == 0)) && (r_17.1.Spoiled == 0))) (b' := (r_17.1.Returned == 0)) 4 59 (fun hb31 => ?_) (fun hb32 => ?_) (fun F_33 l_34 => ?_)
      · skip
        refine .onH hb31 rfl rfl ?_
        refine .fieldAddr rfl Try.underlying26 rfl Try.sizeOf3 rfl ?_
        refine .onH hb31 rfl rfl ?_
        refine .loadO rfl Try.isAgg3 rfl (i := 0) rfl rfl ?_
        refine .onH hb31 rfl rfl ?_
        refine .eql rfl rfl rfl ?_
        refine .pickTH hb31 rfl rfl rfl ?_
        exact .fin 4 rfl rfl (by kernel_rfl) (Fz.le_refl _)
      · skip
        refine .offH hb32 rfl rfl rfl ?_
        refine .offH hb32 rfl rfl rfl ?_
        refine .offH hb32 rfl rfl rfl ?_
        refine .pickFH hb32 rfl rfl rfl ?_
        exact .fin 4 rfl rfl (by kernel_rfl) (Fz.le_refl _)
      refine .move rfl rfl ?_
      refine .andP (b := (((((r_17.1.Hand.length : Int) == 0) && (r_17.1.Stuck == 0)) && (r_17.1.Spoiled == 0)) && (r_17.1.Returned == 0))) (b' := (decide (r_17.2.1 ≥ 0))) 3 63 (fun hb35 => ?_) (fun hb36 => ?_) (fun F_37 l_38 => ?_)
      · skip
        refine .onH hb35 rfl rfl ?_
        refine .move rfl rfl ?_
        refine .onH hb35 rfl rfl ?_
        refine .geq rfl rfl rfl ?_
        refine .pickTH hb35 rfl rfl rfl ?_
        exact .fin 3 rfl rfl (by kernel_rfl) (Fz.le_refl _)
      · skip
        refine .offH hb36 rfl rfl rfl ?_
        refine .offH hb36 rfl rfl rfl ?_
        refine .pickFH hb36 rfl rfl rfl ?_
        exact .fin 3 rfl rfl (by kernel_rfl) (Fz.le_refl _)
      refine .move rfl rfl ?_
      refine .andP (b := ((((((r_17.1.Hand.length : Int) == 0) && (r_17.1.Stuck == 0)) && (r_17.1.Spoiled == 0)) && (r_17.1.Returned == 0)) && (decide (r_17.2.1 ≥ 0)))) (b' := (decide (r_17.2.1 < (l_1.length : Int)))) 5 69 (fun hb39 => ?_) (fun hb40 => ?_) (fun F_41 l_42 => ?_)
      · skip
        refine .onH hb39 rfl rfl ?_
        refine .move rfl rfl ?_
        refine .onH hb39 rfl rfl ?_
        refine .move rfl rfl ?_
        refine .onH hb39 rfl rfl ?_
        refine .lenS rfl rfl Try.underlying22 rfl ?_
        refine .onH hb39 rfl rfl ?_
        refine .lss rfl rfl rfl ?_
        refine .pickTH hb39 rfl rfl rfl ?_
        exact .fin 5 rfl rfl (by kernel_rfl) (Fz.le_refl _)
      · skip
        refine .offH hb40 rfl rfl rfl ?_
        refine .offH hb40 rfl rfl rfl ?_
        refine .offH hb40 rfl rfl rfl ?_
        refine .offH hb40 rfl rfl rfl ?_
        refine .pickFH hb40 rfl rfl rfl ?_
        exact .fin 5 rfl rfl (by kernel_rfl) (Fz.le_refl _)
      refine .move rfl rfl ?_
      refine .andM (b := (((((((r_17.1.Hand.length : Int) == 0) && (r_17.1.Stuck == 0)) && (r_17.1.Spoiled == 0)) && (r_17.1.Returned == 0)) && (decide (r_17.2.1 ≥ 0))) && (decide (r_17.2.1 < (l_1.length : Int))))) 2 72 (fun hb43 z51 => ?_) (fun hb47 => ?_) (fun z50 F_48 l_49 => ?_)
      · skip
        refine .onH hb43 rfl rfl ?_
        refine .call0 rfl Try.call11 rfl rfl rfl (c_wormtublaw12_awake _ ) ?_
        rintro r_46 F_44 _ - l_45 rfl
        refine .pickTH hb43 rfl rfl rfl ?_
        exact .finZ 2 rfl rfl (by kernel_rfl) l_45
      · skip
        refine .offH hb47 rfl rfl rfl ?_
        refine .pickFH hb47 rfl rfl rfl ?_
        exact .fin 2 rfl rfl (by kernel_rfl) (Fz.le_refl _)
      refine .assign rfl rfl ?_
      refine .nil ?_
      refine .keep (.cons (k := 6) rfl (.nil _)) ?_
      refine .code ?_
      exact .ret0 Try.results8 (.tmp rfl (.nil)) (i := 1) rfl (Fz.le_trans l_10 (Fz.le_trans l_16 (Fz.le_trans l_26 (Fz.le_trans l_30 (Fz.le_trans l_34 (Fz.le_trans l_38 (Fz.le_trans l_42 l_49))))))) rfl
    · skip
      refine .skip ?_
      refine .code ?_
      refine .seq ?_
      refine .region ?_
      refine .move rfl rfl ?_
      refine .move rfl rfl ?_
      refine .convI rfl Try.underlying5 Try.underlying3 rfl ?_
      refine .move rfl rfl ?_
      refine .lenS rfl rfl Try.underlying22 rfl ?_
      refine .rem rfl rfl rfl (fun q52 e53 => ?_)
      refine .idx rfl Try.underlying22 Try.sizeOf70 (h4.mono (Fz.le_trans l_10 l_16)) rfl rfl (fun x54 b55 o56 T57 fr58 cs59 e60 hm61 hv62 => ?_)
      refine .fieldAddr rfl Try.underlying70 rfl Try.sizeOf3 rfl ?_
      refine .loadF rfl Try.isAgg3 rfl hm61 (cell_of_take (k := 1) hv62 rfl) ?_
      refine .move rfl rfl ?_
      refine .convI rfl Try.underlying68 Try.underlying3 rfl ?_
      refine .add rfl rfl rfl ?_
      refine .assignL rfl rfl (fun stamp64 e65 => ?_)
      refine .nil ?_
      refine .keep (.cons (k := 0) rfl (.cons (k := 7) rfl (.cons (k := 8) rfl (.cons (k := 10) rfl (.nil _))))) ?_
      refine .code ?_
      refine .seq ?_
      refine .region ?_
      refine .assign rfl rfl ?_
      refine .assign rfl rfl ?_
      refine .assign rfl rfl ?_
      refine .assignL rfl rfl (fun batch66 e67 => ?_)
      refine .nil ?_
      refine .code ?_
      refine .seq ?_
      refine .seq ?_
      refine .region ?_
      refine .assign rfl rfl ?_
      refine .nil ?_
      refine .code ?_
      refine .block ?_
      refine .keep (.cons (k := 0) rfl (.cons (k := 7) rfl (.cons (k := 8) rfl (.cons (k := 10) rfl (.cons (k := 11) rfl (.cons (k := 12) rfl (.cons (k := 13) rfl (.cons (k := 14) rfl (.cons (k := 15) rfl (.nil _)))))))))) ?_
      refine .loop (fun (s68 : Int × Int × Int × Int × Int) a w => ∃ (F_69 : Fz), F_15 ≤ F_69 ∧ Hd 241 [] [(0, (.slice p2 l_1.length k3)), (7, (.pointer (some ⟨b21, 0, none⟩))), (8, (.int .i64 r_17.2.1)), (10, (.int .i64 stamp64)), (11, (.int .i64 s68.1)), (12, (.int .i64 s68.2.1)), (13, (.int .i64 s68.2.2.1)), (14, (.int .i64 s68.2.2.2.1)), (15, (.int .i64 s68.2.2.2.2))] F_69 [pt b21 (.cells (cApiStampBook r_17.1 p18 k19).toArray 26), R] a w) (fun b107 e a w => e = .exit 0 ∧ ∃ (F_108 : Fz), F_15 ≤ F_108 ∧ Hd 241 [] [(0, (.slice p2 l_1.length k3)), (7, (.pointer (some ⟨b21, 0, none⟩))), (8, (.int .i64 r_17.2.1)), (10, (.int .i64 stamp64)), (11, (.int .i64 b107.1)), (12, (.int .i64 b107.2.1)), (13, (.int .i64 b107.2.2.1)), (14, (.int .i64 b107.2.2.2))] F_108 [pt b21 (.cells (cApiStampBook r_17.1 p18 k19).toArray 26), R] a w) ?_ ?_ ?_
      · exact fun a w h => ⟨F_15, (Fz.le_refl _), h.1.sub (.cons (k := 0) rfl (.cons (k := 7) rfl (.cons (k := 8) rfl (.cons (k := 10) rfl (.cons (k := 11) rfl (.cons (k := 12) rfl (.cons (k := 13) rfl (.cons (k := 14) rfl (.cons (k := 15) rfl (.nil _)))))))))), h.2⟩
      · intro s68 ctl
        refine GC.ex (fun a w ⟨F_69, l_70, hA⟩ => ⟨_, hA, ?_⟩)
        unfold b_wormtublaw12_BottleOnce_1
        refine .seq ?_
        refine .seq ?_
        refine .region ?_
        refine .move rfl rfl ?_
        refine .move rfl rfl ?_
        refine .lenS rfl rfl Try.underlying22 rfl ?_
        refine .lss rfl rfl rfl ?_
        refine .nil ?_
        refine .code ?_
        refine .cond rfl (fun hb71 => ?_) (fun hb71 => ?_)
        · skip
          refine .skip ?_
          refine .code ?_
          refine .seq ?_
          refine .keep (.cons (k := 0) rfl (.cons (k := 7) rfl (.cons (k := 8) rfl (.cons (k := 10) rfl (.cons (k := 11) rfl (.cons (k := 12) rfl (.cons (k := 13) rfl (.cons (k := 14) rfl (.cons (k := 15) rfl (.nil _)))))))))) ?_
          refine GC.join0 (σ := Int × Int × Int × Int) (fun j102 a w => ∃ (F_103 : Fz), F_69 ≤ F_103 ∧ Hd 241 [] [(0, (.slice p2 l_1.length k3)), (7, (.pointer (some ⟨b21, 0, none⟩))), (8, (.int .i64 r_17.2.1)), (10, (.int .i64 stamp64)), (11, (.int .i64 j102.1)), (12, (.int .i64 j102.2.1)), (13, (.int .i64 j102.2.2.1)), (14, (.int .i64 j102.2.2.2)), (15, (.int .i64 s68.2.2.2.2))] F_103 [pt b21 (.cells (cApiStampBook r_17.1 p18 k19).toArray 26), R] a w) (fun sj => ?_) (fun j102 hs0 => GE.ex (fun a w ⟨F_103, l_104, hA⟩ => ⟨_, hA, ?_⟩))
          · skip
            refine .block ?_
            refine .seq ?_
            refine .region ?_
            refine .move rfl rfl ?_
            refine .move rfl rfl ?_
            refine .idx rfl Try.underlying22 Try.sizeOf70 (h4.mono (Fz.le_trans l_10 (Fz.le_trans l_16 l_70))) rfl rfl (fun x72 b73 o74 T75 fr76 cs77 e78 hm79 hv80 => ?_)
            refine .loadFA rfl Try.isAgg70 Try.sizeOf70 rfl hm79 hv80 rfl ?_
            refine .alloc (cs := (cApiStampEvent (ApiStampEvent.mk 0 0 0 0))) rfl Try.zeroValue70 rfl (fun b82 => ?_)
            refine .store (cs' := (cApiStampEvent x72)) Try.sizeOf70 rfl rfl rfl rfl (i := 0) rfl (Nat.le_of_ble_eq_true rfl) rfl (setMany_all (by rfl)) ?_
            refine .nil ?_
            refine .code ?_
            refine .seq ?_
            refine .region ?_
            refine .fieldAddr rfl Try.underlying70 rfl Try.sizeOf3 rfl ?_
            refine .loadO rfl Try.isAgg3 rfl (i := 0) rfl rfl ?_
            refine .move rfl rfl ?_
            refine .leq rfl rfl rfl ?_
            refine .move rfl rfl ?_
            refine .andP (b := (decide (x72.First ≤ stamp64))) (b' := (decide (stamp64 ≤ x72.Last))) 5 104 (fun hb83 => ?_) (fun hb84 => ?_) (fun F_85 l_86 => ?_)
            · skip
              refine .onH hb83 rfl rfl ?_
              refine .move rfl rfl ?_
              refine .onH hb83 rfl rfl ?_
              refine .fieldAddr rfl Try.underlying70 rfl Try.sizeOf3 rfl ?_
              refine .onH hb83 rfl rfl ?_
              refine .loadO rfl Try.isAgg3 rfl (i := 0) rfl rfl ?_
              refine .onH hb83 rfl rfl ?_
              refine .leq rfl rfl rfl ?_
              refine .pickTH hb83 rfl rfl rfl ?_
              exact .fin 5 rfl rfl (by kernel_rfl) (Fz.le_refl _)
            · skip
              refine .offH hb84 rfl rfl rfl ?_
              refine .offH hb84 rfl rfl rfl ?_
              refine .offH hb84 rfl rfl rfl ?_
              refine .offH hb84 rfl rfl rfl ?_
              refine .pickFH hb84 rfl rfl rfl ?_
              exact .fin 5 rfl rfl (by kernel_rfl) (Fz.le_refl _)
            refine .assignB rfl rfl (fun is_87 e88 => ?_)
            refine .nil ?_
            refine .code ?_
            refine .seq ?_
            refine .region ?_
            refine .fieldAddr rfl Try.underlying70 rfl Try.sizeOf3 rfl ?_
            refine .loadO rfl Try.isAgg3 rfl (i := 0) rfl rfl ?_
            refine .eql rfl rfl rfl ?_
            refine .nil ?_
            refine .code ?_
            refine .keep (.cons (k := 0) rfl (.cons (k := 7) rfl (.cons (k := 8) rfl (.cons (k := 10) rfl (.cons (k := 11) rfl (.cons (k := 12) rfl (.cons (k := 13) rfl (.cons (k := 14) rfl (.cons (k := 15) rfl (.cons (k := 16) rfl (.cons (k := 17) rfl (.cons (k := 107) rfl (.nil _))))))))))))) ?_
            refine GC.join0 (σ := Int × Int × Int × Int) (fun j99 a w => ∃ (F_100 : Fz), F_85 ≤ F_100 ∧ Hd 241 [] [(0, (.slice p2 l_1.length k3)), (7, (.pointer (some ⟨b21, 0, none⟩))), (8, (.int .i64 r_17.2.1)), (10, (.int .i64 stamp64)), (11, (.int .i64 j99.1)), (12, (.int .i64 j99.2.1)), (13, (.int .i64 j99.2.2.1)), (14, (.int .i64 j99.2.2.2)), (15, (.int .i64 s68.2.2.2.2))] F_100 [pt b82 (.cells (cApiStampEvent x72).toArray 70), pt b21 (.cells (cApiStampBook r_17.1 p18 k19).toArray 26), R] a w) (fun sj => ?_) (fun j99 hs0 => GE.ex (fun a w ⟨F_100, l_101, hA⟩ => ⟨_, hA, ?_⟩))
            · skip
              refine .cond rfl (fun hb89 => ?_) (fun hb89 => ?_)
              · skip
                refine .seq ?_
                refine .region ?_
                refine .move rfl rfl ?_
                refine .fieldAddr rfl Try.underlying70 rfl Try.sizeOf3 rfl ?_
                refine .loadO rfl Try.isAgg3 rfl (i := 0) rfl rfl ?_
                refine .add rfl rfl rfl ?_
                refine .fieldAddr rfl Try.underlying70 rfl Try.sizeOf3 rfl ?_
                refine .loadO rfl Try.isAgg3 rfl (i := 0) rfl rfl ?_
                refine .sub rfl rfl rfl ?_
                refine .add rfl rfl rfl ?_
                refine .assignL rfl rfl (fun total90 e91 => ?_)
                refine .nil ?_
                refine .code ?_
                refine .seq ?_
                refine .region ?_
                refine .move rfl rfl ?_
                refine .nil ?_
                refine .code ?_
                refine .cond rfl (fun hb92 => ?_) (fun hb92 => ?_)
                · skip
                  refine .region ?_
                  refine .move rfl rfl ?_
                  refine .add rfl rfl rfl ?_
                  refine .assignL rfl rfl (fun issued93 e94 => ?_)
                  refine .nil ?_
                  exact .nil fun e a w h => by cases e; exact ⟨rfl, ⟨F_85, (Fz.le_refl _), h.1.sub (.cons (k := 0) rfl (.cons (k := 7) rfl (.cons (k := 8) rfl (.cons (k := 10) rfl (.cons (k := 11) rfl (.cons (k := 12) rfl (.cons (k := 13) rfl (.cons (k := 14) rfl (.cons (k := 15) rfl (.nil _)))))))))), h.2⟩⟩
                · skip
                  refine .skip ?_
                  exact .nil fun e a w h => by cases e; exact ⟨rfl, ⟨F_85, (Fz.le_refl _), h.1.sub (.cons (k := 0) rfl (.cons (k := 7) rfl (.cons (k := 8) rfl (.cons (k := 10) rfl (.cons (k := 11) rfl (.cons (k := 12) rfl (.cons (k := 13) rfl (.cons (k := 14) rfl (.cons (k := 15) rfl (.nil _)))))))))), h.2⟩⟩
              · skip
                refine .seq ?_
                refine .region ?_
                refine .move rfl rfl ?_
                refine .nil ?_
                refine .code ?_
                refine .cond rfl (fun hb95 => ?_) (fun hb95 => ?_)
                · skip
                  refine .seq ?_
                  refine .region ?_
                  refine .move rfl rfl ?_
                  refine .add rfl rfl rfl ?_
                  refine .assignL rfl rfl (fun away96 e97 => ?_)
                  refine .nil ?_
                  refine .code ?_
                  refine .seq ?_
                  refine .region ?_
                  refine .fieldAddr rfl Try.underlying70 rfl Try.sizeOf3 rfl ?_
                  refine .loadO rfl Try.isAgg3 rfl (i := 0) rfl rfl ?_
                  refine .eql rfl rfl rfl ?_
                  refine .nil ?_
                  refine .code ?_
                  refine .cond rfl (fun hb98 => ?_) (fun hb98 => ?_)
                  · skip
                    refine .region ?_
                    refine .fieldAddr rfl Try.underlying70 rfl Try.sizeOf3 rfl ?_
                    refine .loadO rfl Try.isAgg3 rfl (i := 0) rfl rfl ?_
                    refine .assign rfl rfl ?_
                    refine .nil ?_
                    exact .nil fun e a w h => by cases e; exact ⟨rfl, ⟨F_85, (Fz.le_refl _), h.1.sub (.cons (k := 0) rfl (.cons (k := 7) rfl (.cons (k := 8) rfl (.cons (k := 10) rfl (.cons (k := 11) rfl (.cons (k := 12) rfl (.cons (k := 13) rfl (.cons (k := 14) rfl (.cons (k := 15) rfl (.nil _)))))))))), h.2⟩⟩
                  · skip
                    refine .skip ?_
                    exact .nil fun e a w h => by cases e; exact ⟨rfl, ⟨F_85, (Fz.le_refl _), h.1.sub (.cons (k := 0) rfl (.cons (k := 7) rfl (.cons (k := 8) rfl (.cons (k := 10) rfl (.cons (k := 11) rfl (.cons (k := 12) rfl (.cons (k := 13) rfl (.cons (k := 14) rfl (.cons (k := 15) rfl (.nil _)))))))))), h.2⟩⟩
                · skip
                  refine .skip ?_
                  exact .nil fun e a w h => by cases e; exact ⟨rfl, ⟨F_85, (Fz.le_refl _), h.1.sub (.cons (k := 0) rfl (.cons (k := 7) rfl (.cons (k := 8) rfl (.cons (k := 10) rfl (.cons (k := 11) rfl (.cons (k := 12) rfl (.cons (k := 13) rfl (.cons (k := 14) rfl (.cons (k := 15) rfl (.nil _)))))))))), h.2⟩⟩
            refine .block ?_
            refine .drop 0 ?_
            exact .nil fun e a w h => by cases e; exact ⟨rfl, ⟨F_100, (Fz.le_trans l_86 l_101), h.1.sub (.cons (k := 0) rfl (.cons (k := 7) rfl (.cons (k := 8) rfl (.cons (k := 10) rfl (.cons (k := 11) rfl (.cons (k := 12) rfl (.cons (k := 13) rfl (.cons (k := 14) rfl (.cons (k := 15) rfl (.nil _)))))))))), h.2⟩⟩
          refine .code ?_
          refine .region ?_
          refine .move rfl rfl ?_
          refine .add rfl rfl rfl ?_
          refine .assignL rfl rfl (fun i105 e106 => ?_)
          refine .nil ?_
          exact .nil (LPost.norm fun a w h => ⟨F_103, (Fz.le_trans l_70 l_104), h.1.sub (.cons (k := 0) rfl (.cons (k := 7) rfl (.cons (k := 8) rfl (.cons (k := 10) rfl (.cons (k := 11) rfl (.cons (k := 12) rfl (.cons (k := 13) rfl (.cons (k := 14) rfl (.cons (k := 15) rfl (.nil _)))))))))), h.2⟩)
        · skip
          refine .exitOut rfl (LPost.exit fun a w h => ⟨rfl, F_69, l_70, h.1.sub (.cons (k := 0) rfl (.cons (k := 7) rfl (.cons (k := 8) rfl (.cons (k := 10) rfl (.cons (k := 11) rfl (.cons (k := 12) rfl (.cons (k := 13) rfl (.cons (k := 14) rfl (.nil _))))))))), h.2⟩)
      · intro b107 hb0 hk e a w hD
        obtain ⟨rfl, F_108, l_109, hA⟩ := hD
        refine interp_exit rfl (GE.app ?_ hk a w hA)
        refine .code ?_
        refine .seq ?_
        refine .region ?_
        refine .assign rfl rfl ?_
        refine .nil ?_
        refine .code ?_
        refine .seq ?_
        refine .region ?_
        refine .fieldAddr rfl Try.underlying26 rfl Try.sizeOf3 rfl ?_
        refine .loadO rfl Try.isAgg3 rfl (i := 0) rfl rfl ?_
        refine .fieldAddr rfl Try.underlying26 rfl Try.sizeOf3 rfl ?_
        refine .loadO rfl Try.isAgg3 rfl (i := 0) rfl rfl ?_
        refine .add rfl rfl rfl ?_
        refine .fieldAddr rfl Try.underlying26 rfl Try.sizeOf3 rfl ?_
        refine .loadO rfl Try.isAgg3 rfl (i := 0) rfl rfl ?_
        refine .add rfl rfl rfl ?_
        refine .assignL rfl rfl (fun sum110 e111 => ?_)
        refine .nil ?_
        refine .code ?_
        refine .seq ?_
        refine .seq ?_
        refine .region ?_
        refine .assign rfl rfl ?_
        refine .nil ?_
        refine .code ?_
        refine .block ?_
        refine .keep (.cons (k := 0) rfl (.cons (k := 7) rfl (.cons (k := 8) rfl (.cons (k := 10) rfl (.cons (k := 11) rfl (.cons (k := 12) rfl (.cons (k := 13) rfl (.cons (k := 14) rfl (.cons (k := 18) rfl (.cons (k := 19) rfl (.cons (k := 20) rfl (.nil _)))))))))))) ?_
        refine .loop (fun (s112 : Int × Int × Int) a w => ∃ (F_113 : Fz), F_108 ≤ F_113 ∧ Hd 241 [] [(0, (.slice p2 l_1.length k3)), (7, (.pointer (some ⟨b21, 0, none⟩))), (8, (.int .i64 r_17.2.1)), (10, (.int .i64 stamp64)), (11, (.int .i64 b107.1)), (12, (.int .i64 b107.2.1)), (13, (.int .i64 b107.2.2.1)), (14, (.int .i64 b107.2.2.2)), (18, (.int .i64 s112.1)), (19, (.int .i64 s112.2.1)), (20, (.int .i64 s112.2.2))] F_113 [pt b21 (.cells (cApiStampBook r_17.1 p18 k19).toArray 26), R] a w) (fun b0 e a w => match b0 with | .inl b298 => e = .exit 2 ∧ ∃ (F_299 : Fz), F_108 ≤ F_299 ∧ Hd 241 [] [(0, (.slice p2 l_1.length k3)), (8, (.int .i64 r_17.2.1)), (10, (.int .i64 stamp64)), (11, (.int .i64 b107.1)), (12, (.int .i64 b107.2.1)), (13, (.int .i64 b107.2.2.1)), (14, (.int .i64 b107.2.2.2)), (18, (.int .i64 b298.1)), (19, (.int .i64 b298.2))] F_299 [pt b21 (.cells (cApiStampBook r_17.1 p18 k19).toArray 26), R] a w | .inr b298 => e = .ret ∧ ∃ (F_301 : Fz), F_108 ≤ F_301 ∧ Hd 241 [] [(6, (.bool b298))] F_301 [R] a w) ?_ ?_ ?_
        · exact fun a w h => ⟨F_108, (Fz.le_refl _), h.1.sub (.cons (k := 0) rfl (.cons (k := 7) rfl (.cons (k := 8) rfl (.cons (k := 10) rfl (.cons (k := 11) rfl (.cons (k := 12) rfl (.cons (k := 13) rfl (.cons (k := 14) rfl (.cons (k := 18) rfl (.cons (k := 19) rfl (.cons (k := 20) rfl (.nil _)))))))))))), h.2⟩
        · intro s112 ctl
          refine GC.ex (fun a w ⟨F_113, l_114, hA⟩ => ⟨_, hA, ?_⟩)
          unfold b_wormtublaw12_BottleOnce_2
          refine .seq ?_
          refine .seq ?_
          refine .region ?_
          refine .move rfl rfl ?_
          refine .fieldAddr rfl Try.underlying26 rfl Try.sizeOf24 rfl ?_
          refine .loadO rfl Try.isAgg24 rfl (i := 0) rfl rfl ?_
          refine .lenS rfl rfl Try.underlying24 rfl ?_
          refine .lss rfl rfl rfl ?_
          refine .nil ?_
          refine .code ?_
          refine .cond rfl (fun hb115 => ?_) (fun hb115 => ?_)
          · skip
            refine .skip ?_
            refine .code ?_
            refine .seq ?_
            refine .block ?_
            refine .seq ?_
            refine .region ?_
            refine .fieldAddr rfl Try.underlying26 rfl Try.sizeOf24 rfl ?_
            refine .loadO rfl Try.isAgg24 rfl (i := 0) rfl rfl ?_
            refine .move rfl rfl ?_
            refine .idx rfl Try.underlying24 Try.sizeOf36 (h20.mono (Fz.le_trans l_109 l_114)) rfl rfl (fun x116 b117 o118 T119 fr120 cs121 e122 hm123 hv124 => ?_)
            refine .loadFA rfl Try.isAgg36 Try.sizeOf36 rfl hm123 hv124 rfl ?_
            refine .alloc (cs := (cApiSpan (ApiSpan.mk 0 0))) rfl Try.zeroValue36 rfl (fun b126 => ?_)
            refine .store (cs' := (cApiSpan x116)) Try.sizeOf36 rfl rfl rfl rfl (i := 0) rfl (Nat.le_of_ble_eq_true rfl) rfl (setMany_all (by rfl)) ?_
            refine .nil ?_
            refine .code ?_
            refine .seq ?_
            refine .seq ?_
            refine .keep (.cons (k := 0) rfl (.cons (k := 7) rfl (.cons (k := 8) rfl (.cons (k := 10) rfl (.cons (k := 11) rfl (.cons (k := 12) rfl (.cons (k := 13) rfl (.cons (k := 14) rfl (.cons (k := 18) rfl (.cons (k := 19) rfl (.cons (k := 20) rfl (.cons (k := 21) rfl (.nil _))))))))))))) ?_
            refine GC.join0 (σ := Bool) (fun j280 a w => ∃ (F_281 : Fz), F_113 ≤ F_281 ∧ Hd 241 [] [(0, (.slice p2 l_1.length k3)), (7, (.pointer (some ⟨b21, 0, none⟩))), (8, (.int .i64 r_17.2.1)), (10, (.int .i64 stamp64)), (11, (.int .i64 b107.1)), (12, (.int .i64 b107.2.1)), (13, (.int .i64 b107.2.2.1)), (14, (.int .i64 b107.2.2.2)), (18, (.int .i64 s112.1)), (19, (.int .i64 s112.2.1)), (20, (.int .i64 s112.2.2)), (21, (.pointer (some ⟨b126, 0, none⟩))), (168, (.bool j280))] F_281 [pt b126 (.cells (cApiSpan x116).toArray 36), pt b21 (.cells (cApiStampBook r_17.1 p18 k19).toArray 26), R] a w) (fun sj => ?_) (fun j280 hs0 => GE.ex (fun a w ⟨F_281, l_282, hA⟩ => ⟨_, hA, ?_⟩))
            · skip
              refine .ite (fun hb127 => ?_) (fun hb127 => ?_)
              · skip
                refine .draw ⟨1000000, 0, [], 0⟩ [(147, (.pointer (some ⟨b126, 0 + 0, none⟩))), (148, (.int .i64 x116.Lo)), (149, (.pointer (some ⟨b126, 0 + 1, none⟩))), (150, (.int .i64 x116.Hi)), (151, (.bool (decide (x116.Lo > x116.Hi)))), (152, (.bool (decide (x116.Lo > x116.Hi)))), (153, undef), (154, undef), (155, undef), (156, undef), (157, undef), (158, undef), (159, undef), (160, undef), (161, undef), (162, undef), (163, undef), (164, undef), (165, undef), (166, undef), (167, undef), (168, (.bool true))] mixedOK (by kernel_rfl) (by kernel_rfl) rfl (by kernel_rfl) ?_ (fun F_128 b129 l_130 => ?_)
                · skip
                  refine .cons (.mk 147 (.pointer (some ⟨b126, 0 + 0, none⟩)) [(21, (.pointer (some ⟨b126, 0, none⟩)))] rfl rfl rfl rfl (fun S hS hd => (.cons (hS _ _ rfl) (Sub.nil _))) (fun F_131 X l_132 => ?_)) ?_
                  · skip
                    refine .fieldAddr rfl Try.underlying36 rfl Try.sizeOf3 rfl ?_
                    exact .fin1 (Fz.le_refl _)
                  refine .cons (.mk 148 (.int .i64 x116.Lo) [(147, (.pointer (some ⟨b126, 0 + 0, none⟩)))] rfl rfl rfl rfl (fun S hS hd => (.cons (hd.1 rfl rfl _ _ rfl) (Sub.nil _))) (fun F_133 X l_134 => ?_)) ?_
                  · skip
                    refine .loadO rfl Try.isAgg3 rfl (i := 0) rfl rfl ?_
                    exact .fin1 (Fz.le_refl _)
                  refine .cons (.mk 149 (.pointer (some ⟨b126, 0 + 1, none⟩)) [(21, (.pointer (some ⟨b126, 0, none⟩)))] rfl rfl rfl rfl (fun S hS hd => (.cons (hS _ _ rfl) (Sub.nil _))) (fun F_135 X l_136 => ?_)) ?_
                  · skip
                    refine .fieldAddr rfl Try.underlying36 rfl Try.sizeOf3 rfl ?_
                    exact .fin1 (Fz.le_refl _)
                  refine .cons (.mk 150 (.int .i64 x116.Hi) [(149, (.pointer (some ⟨b126, 0 + 1, none⟩)))] rfl rfl rfl rfl (fun S hS hd => (.cons (hd.1 rfl rfl _ _ rfl) (Sub.nil _))) (fun F_137 X l_138 => ?_)) ?_
                  · skip
                    refine .loadO rfl Try.isAgg3 rfl (i := 0) rfl rfl ?_
                    exact .fin1 (Fz.le_refl _)
                  refine .cons (.mk 151 (.bool (decide (x116.Lo > x116.Hi))) [(148, (.int .i64 x116.Lo)), (150, (.int .i64 x116.Hi))] rfl rfl rfl rfl (fun S hS hd => (.cons (hd.1 rfl rfl _ _ rfl) (.cons (hd.2.1 rfl rfl _ _ rfl) (Sub.nil _)))) (fun F_139 X l_140 => ?_)) ?_
                  · skip
                    refine .gtr rfl rfl rfl ?_
                    exact .fin1 (Fz.le_refl _)
                  refine .cons (.mk 152 (.bool (decide (x116.Lo > x116.Hi))) [(151, (.bool (decide (x116.Lo > x116.Hi))))] rfl rfl rfl rfl (fun S hS hd => (.cons (hd.1 rfl rfl _ _ rfl) (Sub.nil _))) (fun F_141 X l_142 => ?_)) ?_
                  · skip
                    refine .move rfl rfl ?_
                    exact .fin1 (Fz.le_refl _)
                  refine .cons (.mk 153 undef [(20, (.int .i64 s112.2.2)), (152, (.bool (decide (x116.Lo > x116.Hi))))] rfl rfl rfl rfl (fun S hS hd => (.cons (hS _ _ rfl) (.cons (hd.1 rfl rfl _ _ rfl) (Sub.nil _)))) (fun F_143 X l_144 => ?_)) ?_
                  · skip
                    refine .offH hb127 rfl rfl rfl ?_
                    exact .fin1 (Fz.le_refl _)
                  refine .cons (.mk 154 undef [(152, (.bool (decide (x116.Lo > x116.Hi)))), (153, undef)] rfl rfl rfl rfl (fun S hS hd => (.cons (hd.2.1 rfl rfl _ _ rfl) (.cons (hd.1 rfl rfl _ _ rfl) (Sub.nil _)))) (fun F_145 X l_146 => ?_)) ?_
                  · skip
                    refine .offH hb127 rfl rfl rfl ?_
                    exact .fin1 (Fz.le_refl _)
                  refine .cons (.mk 155 undef [(152, (.bool (decide (x116.Lo > x116.Hi)))), (154, undef)] rfl rfl rfl rfl (fun S hS hd => (.cons (hd.2.1 rfl rfl _ _ rfl) (.cons (hd.1 rfl rfl _ _ rfl) (Sub.nil _)))) (fun F_147 X l_148 => ?_)) ?_
                  · skip
                    refine .offH hb127 rfl rfl rfl ?_
                    exact .fin1 (Fz.le_refl _)
                  refine .cons (.mk 156 undef [(21, (.pointer (some ⟨b126, 0, none⟩))), (155, undef)] rfl rfl rfl rfl (fun S hS hd => (.cons (hS _ _ rfl) (.cons (hd.1 rfl rfl _ _ rfl) (Sub.nil _)))) (fun F_149 X l_150 => ?_)) ?_
                  · skip
                    refine .off rfl rfl rfl rfl ?_
                    exact .fin1 (Fz.le_refl _)
                  refine .cons (.mk 157 undef [(155, undef), (156, undef)] rfl rfl rfl rfl (fun S hS hd => (.cons (hd.2.1 rfl rfl _ _ rfl) (.cons (hd.1 rfl rfl _ _ rfl) (Sub.nil _)))) (fun F_151 X l_152 => ?_)) ?_
                  · skip
                    refine .off rfl rfl rfl rfl ?_
                    exact .fin1 (Fz.le_refl _)
                  refine .cons (.mk 158 undef [(7, (.pointer (some ⟨b21, 0, none⟩))), (155, undef)] rfl rfl rfl rfl (fun S hS hd => (.cons (hS _ _ rfl) (.cons (hd.1 rfl rfl _ _ rfl) (Sub.nil _)))) (fun F_153 X l_154 => ?_)) ?_
                  · skip
                    refine .off rfl rfl rfl rfl ?_
                    exact .fin1 (Fz.le_refl _)
                  refine .cons (.mk 159 undef [(155, undef), (158, undef)] rfl rfl rfl rfl (fun S hS hd => (.cons (hd.2.1 rfl rfl _ _ rfl) (.cons (hd.1 rfl rfl _ _ rfl) (Sub.nil _)))) (fun F_155 X l_156 => ?_)) ?_
                  · skip
                    refine .off rfl rfl rfl rfl ?_
                    exact .fin1 (Fz.le_refl _)
                  refine .cons (.mk 160 undef [(20, (.int .i64 s112.2.2)), (155, undef)] rfl rfl rfl rfl (fun S hS hd => (.cons (hS _ _ rfl) (.cons (hd.1 rfl rfl _ _ rfl) (Sub.nil _)))) (fun F_157 X l_158 => ?_)) ?_
                  · skip
                    refine .off rfl rfl rfl rfl ?_
                    exact .fin1 (Fz.le_refl _)
                  refine .cons (.mk 161 undef [(155, undef), (160, undef)] rfl rfl rfl rfl (fun S hS hd => (.cons (hd.2.1 rfl rfl _ _ rfl) (.cons (hd.1 rfl rfl _ _ rfl) (Sub.nil _)))) (fun F_159 X l_160 => ?_)) ?_
                  · skip
                    refine .off rfl rfl rfl rfl ?_
                    exact .fin1 (Fz.le_refl _)
                  refine .cons (.mk 162 undef [(155, undef), (159, undef), (161, undef)] rfl rfl rfl rfl (fun S hS hd => (.cons (hd.2.2.1 rfl rfl _ _ rfl) (.cons (hd.1 rfl rfl _ _ rfl) (.cons (hd.2.1 rfl rfl _ _ rfl) (Sub.nil _))))) (fun F_161 X l_162 => ?_)) ?_
                  · skip
                    refine .off rfl rfl rfl rfl ?_
                    exact .fin1 (Fz.le_refl _)
                  refine .cons (.mk 163 undef [(155, undef), (162, undef)] rfl rfl rfl rfl (fun S hS hd => (.cons (hd.2.1 rfl rfl _ _ rfl) (.cons (hd.1 rfl rfl _ _ rfl) (Sub.nil _)))) (fun F_163 X l_164 => ?_)) ?_
                  · skip
                    refine .off rfl rfl rfl rfl ?_
                    exact .fin1 (Fz.le_refl _)
                  refine .cons (.mk 164 undef [(155, undef), (163, undef)] rfl rfl rfl rfl (fun S hS hd => (.cons (hd.2.1 rfl rfl _ _ rfl) (.cons (hd.1 rfl rfl _ _ rfl) (Sub.nil _)))) (fun F_165 X l_166 => ?_)) ?_
                  · skip
                    refine .off rfl rfl rfl rfl ?_
                    exact .fin1 (Fz.le_refl _)
                  refine .cons (.mk 165 undef [(155, undef), (164, undef)] rfl rfl rfl rfl (fun S hS hd => (.cons (hd.2.1 rfl rfl _ _ rfl) (.cons (hd.1 rfl rfl _ _ rfl) (Sub.nil _)))) (fun F_167 X l_168 => ?_)) ?_
                  · skip
                    refine .off rfl rfl rfl rfl ?_
                    exact .fin1 (Fz.le_refl _)
                  refine .cons (.mk 166 undef [(155, undef), (157, undef), (165, undef)] rfl rfl rfl rfl (fun S hS hd => (.cons (hd.2.2.1 rfl rfl _ _ rfl) (.cons (hd.1 rfl rfl _ _ rfl) (.cons (hd.2.1 rfl rfl _ _ rfl) (Sub.nil _))))) (fun F_169 X l_170 => ?_)) ?_
                  · skip
                    refine .off rfl rfl rfl rfl ?_
                    exact .fin1 (Fz.le_refl _)
                  refine .cons (.mk 167 undef [(152, (.bool (decide (x116.Lo > x116.Hi)))), (155, undef), (166, undef)] rfl rfl rfl rfl (fun S hS hd => (.cons (hd.2.2.1 rfl rfl _ _ rfl) (.cons (hd.1 rfl rfl _ _ rfl) (.cons (hd.2.1 rfl rfl _ _ rfl) (Sub.nil _))))) (fun F_171 X l_172 => ?_)) ?_
                  · skip
                    refine .offH hb127 rfl rfl rfl ?_
                    exact .fin1 (Fz.le_refl _)
                  refine .cons (.mk 168 (.bool true) [(152, (.bool (decide (x116.Lo > x116.Hi)))), (167, undef)] rfl rfl rfl rfl (fun S hS hd => (.cons (hd.1 rfl rfl _ _ rfl) (.cons (hd.2.1 rfl rfl _ _ rfl) (Sub.nil _)))) (fun F_173 X l_174 => ?_)) ?_
                  · skip
                    refine .pickTH hb127  rfl rfl rfl ?_
                    exact .fin1 (Fz.le_refl _)
                  exact .nil
                refine .nil ?_
                exact .nil fun e a w h => by cases e; exact ⟨rfl, ⟨F_128, l_130, h.1.sub (.cons (k := 0) rfl (.cons (k := 7) rfl (.cons (k := 8) rfl (.cons (k := 10) rfl (.cons (k := 11) rfl (.cons (k := 12) rfl (.cons (k := 13) rfl (.cons (k := 14) rfl (.cons (k := 18) rfl (.cons (k := 19) rfl (.cons (k := 20) rfl (.cons (k := 21) rfl (.cons (k := 168) rfl (.nil _)))))))))))))), h.2⟩⟩
              · skip
                refine .ite (fun hb175 => ?_) (fun hb175 => ?_)
                · skip
                  refine .bind (fun x176 e182 => ?_)
                  obtain ⟨b177, o178, T179, fr180, cs181, hm183, hv184, hq185⟩ := RepSl.idxE (h20.mono (Fz.le_trans l_109 l_114)) e182
                  refine .draw ⟨1000000, 0, [], 0⟩ [(147, (.pointer (some ⟨b126, 0 + 0, none⟩))), (148, (.int .i64 x116.Lo)), (149, (.pointer (some ⟨b126, 0 + 1, none⟩))), (150, (.int .i64 x116.Hi)), (151, (.bool (decide (x116.Lo > x116.Hi)))), (152, (.bool (decide (x116.Lo > x116.Hi)))), (153, (.int .i64 s112.2.2)), (154, (.bool (decide (s112.2.2 > 0)))), (155, (.bool (decide (s112.2.2 > 0)))), (156, (.pointer (some ⟨b126, 0 + 0, none⟩))), (157, (.int .i64 x116.Lo)), (158, (.pointer (some ⟨b21, 0 + 0, none⟩))), (159, (.slice p18 r_17.1.Hand.length k19)), (160, (.int .i64 s112.2.2)), (161, (.int .i64 (w64 (s112.2.2 - 1)))), (162, (.pointer (some ⟨b177, o178, none⟩))), (163, (.pointer (some ⟨b177, o178 + 1, none⟩))), (164, (.int .i64 x176.Hi)), (165, (.int .i64 (w64 (x176.Hi + 1)))), (166, (.bool (decide (x116.Lo ≤ (w64 (x176.Hi + 1)))))), (167, (.bool (decide (x116.Lo ≤ (w64 (x176.Hi + 1)))))), (168, (.bool (decide (x116.Lo ≤ (w64 (x176.Hi + 1))))))] mixedOK (by kernel_rfl) (by kernel_rfl) rfl (by kernel_rfl) ?_ (fun F_186 b187 l_188 => ?_)
                  · skip
                    refine .cons (.mk 147 (.pointer (some ⟨b126, 0 + 0, none⟩)) [(21, (.pointer (some ⟨b126, 0, none⟩)))] rfl rfl rfl rfl (fun S hS hd => (.cons (hS _ _ rfl) (Sub.nil _))) (fun F_189 X l_190 => ?_)) ?_
                    · skip
                      refine .fieldAddr rfl Try.underlying36 rfl Try.sizeOf3 rfl ?_
                      exact .fin1 (Fz.le_refl _)
                    refine .cons (.mk 148 (.int .i64 x116.Lo) [(147, (.pointer (some ⟨b126, 0 + 0, none⟩)))] rfl rfl rfl rfl (fun S hS hd => (.cons (hd.1 rfl rfl _ _ rfl) (Sub.nil _))) (fun F_191 X l_192 => ?_)) ?_
                    · skip
                      refine .loadO rfl Try.isAgg3 rfl (i := 0) rfl rfl ?_
                      exact .fin1 (Fz.le_refl _)
                    refine .cons (.mk 149 (.pointer (some ⟨b126, 0 + 1, none⟩)) [(21, (.pointer (some ⟨b126, 0, none⟩)))] rfl rfl rfl rfl (fun S hS hd => (.cons (hS _ _ rfl) (Sub.nil _))) (fun F_193 X l_194 => ?_)) ?_
                    · skip
                      refine .fieldAddr rfl Try.underlying36 rfl Try.sizeOf3 rfl ?_
                      exact .fin1 (Fz.le_refl _)
                    refine .cons (.mk 150 (.int .i64 x116.Hi) [(149, (.pointer (some ⟨b126, 0 + 1, none⟩)))] rfl rfl rfl rfl (fun S hS hd => (.cons (hd.1 rfl rfl _ _ rfl) (Sub.nil _))) (fun F_195 X l_196 => ?_)) ?_
                    · skip
                      refine .loadO rfl Try.isAgg3 rfl (i := 0) rfl rfl ?_
                      exact .fin1 (Fz.le_refl _)
                    refine .cons (.mk 151 (.bool (decide (x116.Lo > x116.Hi))) [(148, (.int .i64 x116.Lo)), (150, (.int .i64 x116.Hi))] rfl rfl rfl rfl (fun S hS hd => (.cons (hd.1 rfl rfl _ _ rfl) (.cons (hd.2.1 rfl rfl _ _ rfl) (Sub.nil _)))) (fun F_197 X l_198 => ?_)) ?_
                    · skip
                      refine .gtr rfl rfl rfl ?_
                      exact .fin1 (Fz.le_refl _)
                    refine .cons (.mk 152 (.bool (decide (x116.Lo > x116.Hi))) [(151, (.bool (decide (x116.Lo > x116.Hi))))] rfl rfl rfl rfl (fun S hS hd => (.cons (hd.1 rfl rfl _ _ rfl) (Sub.nil _))) (fun F_199 X l_200 => ?_)) ?_
                    · skip
                      refine .move rfl rfl ?_
                      exact .fin1 (Fz.le_refl _)
                    refine .cons (.mk 153 (.int .i64 s112.2.2) [(20, (.int .i64 s112.2.2)), (152, (.bool (decide (x116.Lo > x116.Hi))))] rfl rfl rfl rfl (fun S hS hd => (.cons (hS _ _ rfl) (.cons (hd.1 rfl rfl _ _ rfl) (Sub.nil _)))) (fun F_201 X l_202 => ?_)) ?_
                    · skip
                      refine .onH hb127 rfl rfl ?_
                      refine .move rfl rfl ?_
                      exact .fin1 (Fz.le_refl _)
                    refine .cons (.mk 154 (.bool (decide (s112.2.2 > 0))) [(152, (.bool (decide (x116.Lo > x116.Hi)))), (153, (.int .i64 s112.2.2))] rfl rfl rfl rfl (fun S hS hd => (.cons (hd.2.1 rfl rfl _ _ rfl) (.cons (hd.1 rfl rfl _ _ rfl) (Sub.nil _)))) (fun F_203 X l_204 => ?_)) ?_
                    · skip
                      refine .onH hb127 rfl rfl ?_
                      refine .gtr rfl rfl rfl ?_
                      exact .fin1 (Fz.le_refl _)
                    refine .cons (.mk 155 (.bool (decide (s112.2.2 > 0))) [(152, (.bool (decide (x116.Lo > x116.Hi)))), (154, (.bool (decide (s112.2.2 > 0))))] rfl rfl rfl rfl (fun S hS hd => (.cons (hd.2.1 rfl rfl _ _ rfl) (.cons (hd.1 rfl rfl _ _ rfl) (Sub.nil _)))) (fun F_205 X l_206 => ?_)) ?_
                    · skip
                      refine .onH hb127 rfl rfl ?_
                      refine .move rfl rfl ?_
                      exact .fin1 (Fz.le_refl _)
                    refine .cons (.mk 156 (.pointer (some ⟨b126, 0 + 0, none⟩)) [(21, (.pointer (some ⟨b126, 0, none⟩))), (155, (.bool (decide (s112.2.2 > 0))))] rfl rfl rfl rfl (fun S hS hd => (.cons (hS _ _ rfl) (.cons (hd.1 rfl rfl _ _ rfl) (Sub.nil _)))) (fun F_207 X l_208 => ?_)) ?_
                    · skip
                      refine .onH hb175 rfl rfl ?_
                      refine .fieldAddr rfl Try.underlying36 rfl Try.sizeOf3 rfl ?_
                      exact .fin1 (Fz.le_refl _)
                    refine .cons (.mk 157 (.int .i64 x116.Lo) [(155, (.bool (decide (s112.2.2 > 0)))), (156, (.pointer (some ⟨b126, 0 + 0, none⟩)))] rfl rfl rfl rfl (fun S hS hd => (.cons (hd.2.1 rfl rfl _ _ rfl) (.cons (hd.1 rfl rfl _ _ rfl) (Sub.nil _)))) (fun F_209 X l_210 => ?_)) ?_
                    · skip
                      refine .onH hb175 rfl rfl ?_
                      refine .loadO rfl Try.isAgg3 rfl (i := 0) rfl rfl ?_
                      exact .fin1 (Fz.le_refl _)
                    refine .cons (.mk 158 (.pointer (some ⟨b21, 0 + 0, none⟩)) [(7, (.pointer (some ⟨b21, 0, none⟩))), (155, (.bool (decide (s112.2.2 > 0))))] rfl rfl rfl rfl (fun S hS hd => (.cons (hS _ _ rfl) (.cons (hd.1 rfl rfl _ _ rfl) (Sub.nil _)))) (fun F_211 X l_212 => ?_)) ?_
                    · skip
                      refine .onH hb175 rfl rfl ?_
                      refine .fieldAddr rfl Try.underlying26 rfl Try.sizeOf24 rfl ?_
                      exact .fin1 (Fz.le_refl _)
                    refine .cons (.mk 159 (.slice p18 r_17.1.Hand.length k19) [(155, (.bool (decide (s112.2.2 > 0)))), (158, (.pointer (some ⟨b21, 0 + 0, none⟩)))] rfl rfl rfl rfl (fun S hS hd => (.cons (hd.2.1 rfl rfl _ _ rfl) (.cons (hd.1 rfl rfl _ _ rfl) (Sub.nil _)))) (fun F_213 X l_214 => ?_)) ?_
                    · skip
                      refine .onH hb175 rfl rfl ?_
                      refine .loadO rfl Try.isAgg24 rfl (i := 1) rfl rfl ?_
                      exact .fin1 (Fz.le_refl _)
                    refine .cons (.mk 160 (.int .i64 s112.2.2) [(20, (.int .i64 s112.2.2)), (155, (.bool (decide (s112.2.2 > 0))))] rfl rfl rfl rfl (fun S hS hd => (.cons (hS _ _ rfl) (.cons (hd.1 rfl rfl _ _ rfl) (Sub.nil _)))) (fun F_215 X l_216 => ?_)) ?_
                    · skip
                      refine .onH hb175 rfl rfl ?_
                      refine .move rfl rfl ?_
                      exact .fin1 (Fz.le_refl _)
                    refine .cons (.mk 161 (.int .i64 (w64 (s112.2.2 - 1))) [(155, (.bool (decide (s112.2.2 > 0)))), (160, (.int .i64 s112.2.2))] rfl rfl rfl rfl (fun S hS hd => (.cons (hd.2.1 rfl rfl _ _ rfl) (.cons (hd.1 rfl rfl _ _ rfl) (Sub.nil _)))) (fun F_217 X l_218 => ?_)) ?_
                    · skip
                      refine .onH hb175 rfl rfl ?_
                      refine .sub rfl rfl rfl ?_
                      exact .fin1 (Fz.le_refl _)
                    refine .cons (.mk 162 (.pointer (some ⟨b177, o178, none⟩)) [(155, (.bool (decide (s112.2.2 > 0)))), (159, (.slice p18 r_17.1.Hand.length k19)), (161, (.int .i64 (w64 (s112.2.2 - 1))))] rfl rfl rfl rfl (fun S hS hd => (.cons (hd.2.2.1 rfl rfl _ _ rfl) (.cons (hd.1 rfl rfl _ _ rfl) (.cons (hd.2.1 rfl rfl _ _ rfl) (Sub.nil _))))) (fun F_219 X l_220 => ?_)) ?_
                    · skip
                      refine .onH hb175 rfl rfl ?_
                      refine .idxQ rfl Try.underlying24 Try.sizeOf36 hq185 rfl rfl ?_
                      exact .fin1 (Fz.le_refl _)
                    refine .cons (.mk 163 (.pointer (some ⟨b177, o178 + 1, none⟩)) [(155, (.bool (decide (s112.2.2 > 0)))), (162, (.pointer (some ⟨b177, o178, none⟩)))] rfl rfl rfl rfl (fun S hS hd => (.cons (hd.2.1 rfl rfl _ _ rfl) (.cons (hd.1 rfl rfl _ _ rfl) (Sub.nil _)))) (fun F_221 X l_222 => ?_)) ?_
                    · skip
                      refine .onH hb175 rfl rfl ?_
                      refine .fieldAddr rfl Try.underlying36 rfl Try.sizeOf3 rfl ?_
                      exact .fin1 (Fz.le_refl _)
                    refine .cons (.mk 164 (.int .i64 x176.Hi) [(155, (.bool (decide (s112.2.2 > 0)))), (163, (.pointer (some ⟨b177, o178 + 1, none⟩)))] rfl rfl rfl rfl (fun S hS hd => (.cons (hd.2.1 rfl rfl _ _ rfl) (.cons (hd.1 rfl rfl _ _ rfl) (Sub.nil _)))) (fun F_223 X l_224 => ?_)) ?_
                    · skip
                      refine .onH hb175 rfl rfl ?_
                      refine .loadF rfl Try.isAgg3 rfl (l_224.mem _ _ hm183) (cell_of_take (k := 1) hv184 rfl) ?_
                      exact .fin1 (Fz.le_refl _)
                    refine .cons (.mk 165 (.int .i64 (w64 (x176.Hi + 1))) [(155, (.bool (decide (s112.2.2 > 0)))), (164, (.int .i64 x176.Hi))] rfl rfl rfl rfl (fun S hS hd => (.cons (hd.2.1 rfl rfl _ _ rfl) (.cons (hd.1 rfl rfl _ _ rfl) (Sub.nil _)))) (fun F_225 X l_226 => ?_)) ?_
                    · skip
                      refine .onH hb175 rfl rfl ?_
                      refine .add rfl rfl rfl ?_
                      exact .fin1 (Fz.le_refl _)
                    refine .cons (.mk 166 (.bool (decide (x116.Lo ≤ (w64 (x176.Hi + 1))))) [(155, (.bool (decide (s112.2.2 > 0)))), (157, (.int .i64 x116.Lo)), (165, (.int .i64 (w64 (x176.Hi + 1))))] rfl rfl rfl rfl (fun S hS hd => (.cons (hd.2.2.1 rfl rfl _ _ rfl) (.cons (hd.1 rfl rfl _ _ rfl) (.cons (hd.2.1 rfl rfl _ _ rfl) (Sub.nil _))))) (fun F_227 X l_228 => ?_)) ?_
                    · skip
                      refine .onH hb175 rfl rfl ?_
                      refine .leq rfl rfl rfl ?_
                      exact .fin1 (Fz.le_refl _)
                    refine .cons (.mk 167 (.bool (decide (x116.Lo ≤ (w64 (x176.Hi + 1))))) [(152, (.bool (decide (x116.Lo > x116.Hi)))), (155, (.bool (decide (s112.2.2 > 0)))), (166, (.bool (decide (x116.Lo ≤ (w64 (x176.Hi + 1))))))] rfl rfl rfl rfl (fun S hS hd => (.cons (hd.2.2.1 rfl rfl _ _ rfl) (.cons (hd.1 rfl rfl _ _ rfl) (.cons (hd.2.1 rfl rfl _ _ rfl) (Sub.nil _))))) (fun F_229 X l_230 => ?_)) ?_
                    · skip
                      refine .onH hb127 rfl rfl ?_
                      refine .pickTH hb175  rfl rfl rfl ?_
                      exact .fin1 (Fz.le_refl _)
                    refine .cons (.mk 168 (.bool (decide (x116.Lo ≤ (w64 (x176.Hi + 1))))) [(152, (.bool (decide (x116.Lo > x116.Hi)))), (167, (.bool (decide (x116.Lo ≤ (w64 (x176.Hi + 1))))))] rfl rfl rfl rfl (fun S hS hd => (.cons (hd.1 rfl rfl _ _ rfl) (.cons (hd.2.1 rfl rfl _ _ rfl) (Sub.nil _)))) (fun F_231 X l_232 => ?_)) ?_
                    · skip
                      refine .pickFH hb127  rfl rfl rfl ?_
                      exact .fin1 (Fz.le_refl _)
                    exact .nil
                  refine .nil ?_
                  exact .nil fun e a w h => by cases e; exact ⟨rfl, ⟨F_186, l_188, h.1.sub (.cons (k := 0) rfl (.cons (k := 7) rfl (.cons (k := 8) rfl (.cons (k := 10) rfl (.cons (k := 11) rfl (.cons (k := 12) rfl (.cons (k := 13) rfl (.cons (k := 14) rfl (.cons (k := 18) rfl (.cons (k := 19) rfl (.cons (k := 20) rfl (.cons (k := 21) rfl (.cons (k := 168) rfl (.nil _)))))))))))))), h.2⟩⟩
                · skip
                  refine .draw ⟨1000000, 0, [], 0⟩ [(147, (.pointer (some ⟨b126, 0 + 0, none⟩))), (148, (.int .i64 x116.Lo)), (149, (.pointer (some ⟨b126, 0 + 1, none⟩))), (150, (.int .i64 x116.Hi)), (151, (.bool (decide (x116.Lo > x116.Hi)))), (152, (.bool (decide (x116.Lo > x116.Hi)))), (153, (.int .i64 s112.2.2)), (154, (.bool (decide (s112.2.2 > 0)))), (155, (.bool (decide (s112.2.2 > 0)))), (156, undef), (157, undef), (158, undef), (159, undef), (160, undef), (161, undef), (162, undef), (163, undef), (164, undef), (165, undef), (166, undef), (167, (.bool false)), (168, (.bool false))] mixedOK (by kernel_rfl) (by kernel_rfl) rfl (by kernel_rfl) ?_ (fun F_233 b234 l_235 => ?_)
                  · skip
                    refine .cons (.mk 147 (.pointer (some ⟨b126, 0 + 0, none⟩)) [(21, (.pointer (some ⟨b126, 0, none⟩)))] rfl rfl rfl rfl (fun S hS hd => (.cons (hS _ _ rfl) (Sub.nil _))) (fun F_236 X l_237 => ?_)) ?_
                    · skip
                      refine .fieldAddr rfl Try.underlying36 rfl Try.sizeOf3 rfl ?_
                      exact .fin1 (Fz.le_refl _)
                    refine .cons (.mk 148 (.int .i64 x116.Lo) [(147, (.pointer (some ⟨b126, 0 + 0, none⟩)))] rfl rfl rfl rfl (fun S hS hd => (.cons (hd.1 rfl rfl _ _ rfl) (Sub.nil _))) (fun F_238 X l_239 => ?_)) ?_
                    · skip
                      refine .loadO rfl Try.isAgg3 rfl (i := 0) rfl rfl ?_
                      exact .fin1 (Fz.le_refl _)
                    refine .cons (.mk 149 (.pointer (some ⟨b126, 0 + 1, none⟩)) [(21, (.pointer (some ⟨b126, 0, none⟩)))] rfl rfl rfl rfl (fun S hS hd => (.cons (hS _ _ rfl) (Sub.nil _))) (fun F_240 X l_241 => ?_)) ?_
                    · skip
                      refine .fieldAddr rfl Try.underlying36 rfl Try.sizeOf3 rfl ?_
                      exact .fin1 (Fz.le_refl _)
                    refine .cons (.mk 150 (.int .i64 x116.Hi) [(149, (.pointer (some ⟨b126, 0 + 1, none⟩)))] rfl rfl rfl rfl (fun S hS hd => (.cons (hd.1 rfl rfl _ _ rfl) (Sub.nil _))) (fun F_242 X l_243 => ?_)) ?_
                    · skip
                      refine .loadO rfl Try.isAgg3 rfl (i := 0) rfl rfl ?_
                      exact .fin1 (Fz.le_refl _)
                    refine .cons (.mk 151 (.bool (decide (x116.Lo > x116.Hi))) [(148, (.int .i64 x116.Lo)), (150, (.int .i64 x116.Hi))] rfl rfl rfl rfl (fun S hS hd => (.cons (hd.1 rfl rfl _ _ rfl) (.cons (hd.2.1 rfl rfl _ _ rfl) (Sub.nil _)))) (fun F_244 X l_245 => ?_)) ?_
                    · skip
                      refine .gtr rfl rfl rfl ?_
                      exact .fin1 (Fz.le_refl _)
                    refine .cons (.mk 152 (.bool (decide (x116.Lo > x116.Hi))) [(151, (.bool (decide (x116.Lo > x116.Hi))))] rfl rfl rfl rfl (fun S hS hd => (.cons (hd.1 rfl rfl _ _ rfl) (Sub.nil _))) (fun F_246 X l_247 => ?_)) ?_
                    · skip
                      refine .move rfl rfl ?_
                      exact .fin1 (Fz.le_refl _)
                    refine .cons (.mk 153 (.int .i64 s112.2.2) [(20, (.int .i64 s112.2.2)), (152, (.bool (decide (x116.Lo > x116.Hi))))] rfl rfl rfl rfl (fun S hS hd => (.cons (hS _ _ rfl) (.cons (hd.1 rfl rfl _ _ rfl) (Sub.nil _)))) (fun F_248 X l_249 => ?_)) ?_
                    · skip
                      refine .onH hb127 rfl rfl ?_
                      refine .move rfl rfl ?_
                      exact .fin1 (Fz.le_refl _)
                    refine .cons (.mk 154 (.bool (decide (s112.2.2 > 0))) [(152, (.bool (decide (x116.Lo > x116.Hi)))), (153, (.int .i64 s112.2.2))] rfl rfl rfl rfl (fun S hS hd => (.cons (hd.2.1 rfl rfl _ _ rfl) (.cons (hd.1 rfl rfl _ _ rfl) (Sub.nil _)))) (fun F_250 X l_251 => ?_)) ?_
                    · skip
                      refine .onH hb127 rfl rfl ?_
                      refine .gtr rfl rfl rfl ?_
                      exact .fin1 (Fz.le_refl _)
                    refine .cons (.mk 155 (.bool (decide (s112.2.2 > 0))) [(152, (.bool (decide (x116.Lo > x116.Hi)))), (154, (.bool (decide (s112.2.2 > 0))))] rfl rfl rfl rfl (fun S hS hd => (.cons (hd.2.1 rfl rfl _ _ rfl) (.cons (hd.1 rfl rfl _ _ rfl) (Sub.nil _)))) (fun F_252 X l_253 => ?_)) ?_
                    · skip
                      refine .onH hb127 rfl rfl ?_
                      refine .move rfl rfl ?_
                      exact .fin1 (Fz.le_refl _)
                    refine .cons (.mk 156 undef [(21, (.pointer (some ⟨b126, 0, none⟩))), (155, (.bool (decide (s112.2.2 > 0))))] rfl rfl rfl rfl (fun S hS hd => (.cons (hS _ _ rfl) (.cons (hd.1 rfl rfl _ _ rfl) (Sub.nil _)))) (fun F_254 X l_255 => ?_)) ?_
                    · skip
                      refine .offH hb175 rfl rfl rfl ?_
                      exact .fin1 (Fz.le_refl _)
                    refine .cons (.mk 157 undef [(155, (.bool (decide (s112.2.2 > 0)))), (156, undef)] rfl rfl rfl rfl (fun S hS hd => (.cons (hd.2.1 rfl rfl _ _ rfl) (.cons (hd.1 rfl rfl _ _ rfl) (Sub.nil _)))) (fun F_256 X l_257 => ?_)) ?_
                    · skip
                      refine .offH hb175 rfl rfl rfl ?_
                      exact .fin1 (Fz.le_refl _)
                    refine .cons (.mk 158 undef [(7, (.pointer (some ⟨b21, 0, none⟩))), (155, (.bool (decide (s112.2.2 > 0))))] rfl rfl rfl rfl (fun S hS hd => (.cons (hS _ _ rfl) (.cons (hd.1 rfl rfl _ _ rfl) (Sub.nil _)))) (fun F_258 X l_259 => ?_)) ?_
                    · skip
                      refine .offH hb175 rfl rfl rfl ?_
                      exact .fin1 (Fz.le_refl _)
                    refine .cons (.mk 159 undef [(155, (.bool (decide (s112.2.2 > 0)))), (158, undef)] rfl rfl rfl rfl (fun S hS hd => (.cons (hd.2.1 rfl rfl _ _ rfl) (.cons (hd.1 rfl rfl _ _ rfl) (Sub.nil _)))) (fun F_260 X l_261 => ?_)) ?_
                    · skip
                      refine .offH hb175 rfl rfl rfl ?_
                      exact .fin1 (Fz.le_refl _)
                    refine .cons (.mk 160 undef [(20, (.int .i64 s112.2.2)), (155, (.bool (decide (s112.2.2 > 0))))] rfl rfl rfl rfl (fun S hS hd => (.cons (hS _ _ rfl) (.cons (hd.1 rfl rfl _ _ rfl) (Sub.nil _)))) (fun F_262 X l_263 => ?_)) ?_
                    · skip
                      refine .offH hb175 rfl rfl rfl ?_
                      exact .fin1 (Fz.le_refl _)
                    refine .cons (.mk 161 undef [(155, (.bool (decide (s112.2.2 > 0)))), (160, undef)] rfl rfl rfl rfl (fun S hS hd => (.cons (hd.2.1 rfl rfl _ _ rfl) (.cons (hd.1 rfl rfl _ _ rfl) (Sub.nil _)))) (fun F_264 X l_265 => ?_)) ?_
                    · skip
                      refine .offH hb175 rfl rfl rfl ?_
                      exact .fin1 (Fz.le_refl _)
                    refine .cons (.mk 162 undef [(155, (.bool (decide (s112.2.2 > 0)))), (159, undef), (161, undef)] rfl rfl rfl rfl (fun S hS hd => (.cons (hd.2.2.1 rfl rfl _ _ rfl) (.cons (hd.1 rfl rfl _ _ rfl) (.cons (hd.2.1 rfl rfl _ _ rfl) (Sub.nil _))))) (fun F_266 X l_267 => ?_)) ?_
                    · skip
                      refine .offH hb175 rfl rfl rfl ?_
                      exact .fin1 (Fz.le_refl _)
                    refine .cons (.mk 163 undef [(155, (.bool (decide (s112.2.2 > 0)))), (162, undef)] rfl rfl rfl rfl (fun S hS hd => (.cons (hd.2.1 rfl rfl _ _ rfl) (.cons (hd.1 rfl rfl _ _ rfl) (Sub.nil _)))) (fun F_268 X l_269 => ?_)) ?_
                    · skip
                      refine .offH hb175 rfl rfl rfl ?_
                      exact .fin1 (Fz.le_refl _)
                    refine .cons (.mk 164 undef [(155, (.bool (decide (s112.2.2 > 0)))), (163, undef)] rfl rfl rfl rfl (fun S hS hd => (.cons (hd.2.1 rfl rfl _ _ rfl) (.cons (hd.1 rfl rfl _ _ rfl) (Sub.nil _)))) (fun F_270 X l_271 => ?_)) ?_
                    · skip
                      refine .offH hb175 rfl rfl rfl ?_
                      exact .fin1 (Fz.le_refl _)
                    refine .cons (.mk 165 undef [(155, (.bool (decide (s112.2.2 > 0)))), (164, undef)] rfl rfl rfl rfl (fun S hS hd => (.cons (hd.2.1 rfl rfl _ _ rfl) (.cons (hd.1 rfl rfl _ _ rfl) (Sub.nil _)))) (fun F_272 X l_273 => ?_)) ?_
                    · skip
                      refine .offH hb175 rfl rfl rfl ?_
                      exact .fin1 (Fz.le_refl _)
                    refine .cons (.mk 166 undef [(155, (.bool (decide (s112.2.2 > 0)))), (157, undef), (165, undef)] rfl rfl rfl rfl (fun S hS hd => (.cons (hd.2.2.1 rfl rfl _ _ rfl) (.cons (hd.1 rfl rfl _ _ rfl) (.cons (hd.2.1 rfl rfl _ _ rfl) (Sub.nil _))))) (fun F_274 X l_275 => ?_)) ?_
                    · skip
                      refine .offH hb175 rfl rfl rfl ?_
                      exact .fin1 (Fz.le_refl _)
                    refine .cons (.mk 167 (.bool false) [(152, (.bool (decide (x116.Lo > x116.Hi)))), (155, (.bool (decide (s112.2.2 > 0)))), (166, undef)] rfl rfl rfl rfl (fun S hS hd => (.cons (hd.2.2.1 rfl rfl _ _ rfl) (.cons (hd.1 rfl rfl _ _ rfl) (.cons (hd.2.1 rfl rfl _ _ rfl) (Sub.nil _))))) (fun F_276 X l_277 => ?_)) ?_
                    · skip
                      refine .onH hb127 rfl rfl ?_
                      refine .pickFH hb175  rfl rfl rfl ?_
                      exact .fin1 (Fz.le_refl _)
                    refine .cons (.mk 168 (.bool false) [(152, (.bool (decide (x116.Lo > x116.Hi)))), (167, (.bool false))] rfl rfl rfl rfl (fun S hS hd => (.cons (hd.1 rfl rfl _ _ rfl) (.cons (hd.2.1 rfl rfl _ _ rfl) (Sub.nil _)))) (fun F_278 X l_279 => ?_)) ?_
                    · skip
                      refine .pickFH hb127  rfl rfl rfl ?_
                      exact .fin1 (Fz.le_refl _)
                    exact .nil
                  refine .nil ?_
                  exact .nil fun e a w h => by cases e; exact ⟨rfl, ⟨F_233, l_235, h.1.sub (.cons (k := 0) rfl (.cons (k := 7) rfl (.cons (k := 8) rfl (.cons (k := 10) rfl (.cons (k := 11) rfl (.cons (k := 12) rfl (.cons (k := 13) rfl (.cons (k := 14) rfl (.cons (k := 18) rfl (.cons (k := 19) rfl (.cons (k := 20) rfl (.cons (k := 21) rfl (.cons (k := 168) rfl (.nil _)))))))))))))), h.2⟩⟩
            refine .code ?_
            refine .cond rfl (fun hb283 => ?_) (fun hb283 => ?_)
            · skip
              refine .seq ?_
              refine .region ?_
              refine .assign rfl rfl ?_
              refine .nil ?_
              refine .code ?_
              refine .drop 1 ?_
              refine .drop 0 ?_
              refine .retQ (LPost.ret fun a w h => ⟨rfl, F_281, (Fz.le_trans l_114 l_282), h.1.sub (.cons (k := 6) rfl (.nil _)), h.2⟩)
            · skip
              refine .skip ?_
              refine .code ?_
              refine .seq ?_
              refine .region ?_
              refine .move rfl rfl ?_
              refine .fieldAddr rfl Try.underlying36 rfl Try.sizeOf3 rfl ?_
              refine .loadO rfl Try.isAgg3 rfl (i := 0) rfl rfl ?_
              refine .add rfl rfl rfl ?_
              refine .fieldAddr rfl Try.underlying36 rfl Try.sizeOf3 rfl ?_
              refine .loadO rfl Try.isAgg3 rfl (i := 0) rfl rfl ?_
              refine .sub rfl rfl rfl ?_
              refine .add rfl rfl rfl ?_
              refine .assignL rfl rfl (fun sum284 e285 => ?_)
              refine .nil ?_
              refine .code ?_
              refine .seq ?_
              refine .region ?_
              refine .fieldAddr rfl Try.underlying36 rfl Try.sizeOf3 rfl ?_
              refine .loadO rfl Try.isAgg3 rfl (i := 0) rfl rfl ?_
              refine .move rfl rfl ?_
              refine .leq rfl rfl rfl ?_
              refine .move rfl rfl ?_
              refine .andP (b := (decide (x116.Lo ≤ stamp64))) (b' := (decide (stamp64 ≤ x116.Hi))) 5 186 (fun hb286 => ?_) (fun hb287 => ?_) (fun F_288 l_289 => ?_)
              · skip
                refine .onH hb286 rfl rfl ?_
                refine .move rfl rfl ?_
                refine .onH hb286 rfl rfl ?_
                refine .fieldAddr rfl Try.underlying36 rfl Try.sizeOf3 rfl ?_
                refine .onH hb286 rfl rfl ?_
                refine .loadO rfl Try.isAgg3 rfl (i := 0) rfl rfl ?_
                refine .onH hb286 rfl rfl ?_
                refine .leq rfl rfl rfl ?_
                refine .pickTH hb286 rfl rfl rfl ?_
                exact .fin 5 rfl rfl (by kernel_rfl) (Fz.le_refl _)
              · skip
                refine .offH hb287 rfl rfl rfl ?_
                refine .offH hb287 rfl rfl rfl ?_
                refine .offH hb287 rfl rfl rfl ?_
                refine .offH hb287 rfl rfl rfl ?_
                refine .pickFH hb287 rfl rfl rfl ?_
                exact .fin 5 rfl rfl (by kernel_rfl) (Fz.le_refl _)
              refine .nil ?_
              refine .keep (.cons (k := 0) rfl (.cons (k := 7) rfl (.cons (k := 8) rfl (.cons (k := 10) rfl (.cons (k := 11) rfl (.cons (k := 12) rfl (.cons (k := 13) rfl (.cons (k := 14) rfl (.cons (k := 18) rfl (.cons (k := 19) rfl (.cons (k := 20) rfl (.cons (k := 186) rfl (.nil _))))))))))))) ?_
              refine .code ?_
              refine .keep (.cons (k := 0) rfl (.cons (k := 7) rfl (.cons (k := 8) rfl (.cons (k := 10) rfl (.cons (k := 11) rfl (.cons (k := 12) rfl (.cons (k := 13) rfl (.cons (k := 14) rfl (.cons (k := 18) rfl (.cons (k := 19) rfl (.cons (k := 20) rfl (.cons (k := 186) rfl (.nil _))))))))))))) ?_
              refine GC.join0 (σ := Int) (fun j293 a w => ∃ (F_294 : Fz), F_288 ≤ F_294 ∧ Hd 241 [] [(0, (.slice p2 l_1.length k3)), (7, (.pointer (some ⟨b21, 0, none⟩))), (8, (.int .i64 r_17.2.1)), (10, (.int .i64 stamp64)), (11, (.int .i64 b107.1)), (12, (.int .i64 b107.2.1)), (13, (.int .i64 b107.2.2.1)), (14, (.int .i64 b107.2.2.2)), (18, (.int .i64 j293)), (19, (.int .i64 sum284)), (20, (.int .i64 s112.2.2))] F_294 [pt b126 (.cells (cApiSpan x116).toArray 36), pt b21 (.cells (cApiStampBook r_17.1 p18 k19).toArray 26), R] a w) (fun sj => ?_) (fun j293 hs0 => GE.ex (fun a w ⟨F_294, l_295, hA⟩ => ⟨_, hA, ?_⟩))
              · skip
                refine .cond rfl (fun hb290 => ?_) (fun hb290 => ?_)
                · skip
                  refine .region ?_
                  refine .move rfl rfl ?_
                  refine .add rfl rfl rfl ?_
                  refine .assignL rfl rfl (fun held291 e292 => ?_)
                  refine .nil ?_
                  exact .nil fun e a w h => by cases e; exact ⟨rfl, ⟨F_288, (Fz.le_refl _), h.1.sub (.cons (k := 0) rfl (.cons (k := 7) rfl (.cons (k := 8) rfl (.cons (k := 10) rfl (.cons (k := 11) rfl (.cons (k := 12) rfl (.cons (k := 13) rfl (.cons (k := 14) rfl (.cons (k := 18) rfl (.cons (k := 19) rfl (.cons (k := 20) rfl (.nil _)))))))))))), h.2⟩⟩
                · skip
                  refine .skip ?_
                  exact .nil fun e a w h => by cases e; exact ⟨rfl, ⟨F_288, (Fz.le_refl _), h.1.sub (.cons (k := 0) rfl (.cons (k := 7) rfl (.cons (k := 8) rfl (.cons (k := 10) rfl (.cons (k := 11) rfl (.cons (k := 12) rfl (.cons (k := 13) rfl (.cons (k := 14) rfl (.cons (k := 18) rfl (.cons (k := 19) rfl (.cons (k := 20) rfl (.nil _)))))))))))), h.2⟩⟩
              refine .block ?_
              refine .code ?_
              refine .region ?_
              refine .move rfl rfl ?_
              refine .add rfl rfl rfl ?_
              refine .assignL rfl rfl (fun i296 e297 => ?_)
              refine .nil ?_
              refine .drop 0 ?_
              exact .nil (LPost.norm fun a w h => ⟨F_294, (Fz.le_trans l_114 (Fz.le_trans l_282 (Fz.le_trans l_289 l_295))), h.1.sub (.cons (k := 0) rfl (.cons (k := 7) rfl (.cons (k := 8) rfl (.cons (k := 10) rfl (.cons (k := 11) rfl (.cons (k := 12) rfl (.cons (k := 13) rfl (.cons (k := 14) rfl (.cons (k := 18) rfl (.cons (k := 19) rfl (.cons (k := 20) rfl (.nil _)))))))))))), h.2⟩)
          · skip
            refine .exitOut rfl (LPost.exit fun a w h => ⟨rfl, F_113, l_114, h.1.sub (.cons (k := 0) rfl (.cons (k := 8) rfl (.cons (k := 10) rfl (.cons (k := 11) rfl (.cons (k := 12) rfl (.cons (k := 13) rfl (.cons (k := 14) rfl (.cons (k := 18) rfl (.cons (k := 19) rfl (.nil _)))))))))), h.2⟩)
        · intro b298 hb0 hk e a w hD
          rcases b298 with b298 | b298
          · skip
            obtain ⟨rfl, F_299, l_300, hA⟩ := hD
            refine interp_exit rfl (GE.app ?_ hk a w hA)
            refine .code ?_
            refine .seq ?_
            refine .region ?_
            refine .move rfl rfl ?_
            refine .move rfl rfl ?_
            refine .call0 rfl Try.call14 rfl rfl rfl (c_bottle_Whose _ l_1 p2 k3 (h4.mono (Fz.le_trans l_10 (Fz.le_trans l_16 (Fz.le_trans l_109 l_300)))) stamp64) ?_
            rintro r_305 F_303 _ - l_304 rfl
            refine .move rfl rfl ?_
            refine .extract rfl rfl rfl ?_
            refine .extract rfl rfl rfl ?_
            refine .assign rfl rfl ?_
            refine .assign rfl rfl ?_
            refine .nil ?_
            refine .code ?_
            refine .seq ?_
            refine .seq ?_
            refine .region ?_
            refine .move rfl rfl ?_
            refine .geq rfl rfl rfl ?_
            refine .move rfl rfl ?_
            refine .andP (b := (decide (b107.2.2.2 ≥ 0))) (b' := ((r_305.2 != 0) || (r_305.1 != b107.2.2.2))) 8 205 (fun hb306 => ?_) (fun hb311 => ?_) (fun F_312 l_313 => ?_)
            · skip
              refine .onH hb306 rfl rfl ?_
              refine .move rfl rfl ?_
              refine .onH hb306 rfl rfl ?_
              refine .neq rfl rfl rfl ?_
              refine .onH hb306 rfl rfl ?_
              refine .move rfl rfl ?_
              refine .orP (b := (r_305.2 != 0)) (b' := (r_305.1 != b107.2.2.2)) 4 204 (fun hb307 => ?_) (fun hb308 => ?_) (fun F_309 l_310 => ?_)
              · skip
                refine .onH hb307 rfl rfl ?_
                refine .move rfl rfl ?_
                refine .onH hb307 rfl rfl ?_
                refine .move rfl rfl ?_
                refine .onH hb307 rfl rfl ?_
                refine .neq rfl rfl rfl ?_
                refine .onH hb306 rfl rfl ?_
                refine .pickFH hb307 rfl rfl rfl ?_
                exact .fin 4 rfl rfl (by kernel_rfl) (Fz.le_refl _)
              · skip
                refine .offH hb308 rfl rfl rfl ?_
                refine .offH hb308 rfl rfl rfl ?_
                refine .offH hb308 rfl rfl rfl ?_
                refine .onH hb306 rfl rfl ?_
                refine .pickTH hb308 rfl rfl rfl ?_
                exact .fin 4 rfl rfl (by kernel_rfl) (Fz.le_refl _)
              refine .pickTH hb306 rfl rfl rfl ?_
              exact .fin 5 rfl rfl (by kernel_rfl) l_310
            · skip
              refine .offH hb311 rfl rfl rfl ?_
              refine .offH hb311 rfl rfl rfl ?_
              refine .offH hb311 rfl rfl rfl ?_
              refine .off rfl rfl rfl rfl ?_
              refine .off rfl rfl rfl rfl ?_
              refine .off rfl rfl rfl rfl ?_
              refine .offH hb311 rfl rfl rfl ?_
              refine .pickFH hb311 rfl rfl rfl ?_
              exact .fin 8 rfl rfl (by kernel_rfl) (Fz.le_refl _)
            refine .move rfl rfl ?_
            refine .orP (b := ((decide (b107.2.2.2 ≥ 0)) && ((r_305.2 != 0) || (r_305.1 != b107.2.2.2)))) (b' := ((decide (b107.2.2.2 < 0)) && ((r_305.2 != 4) || (r_305.1 != 0)))) 11 217 (fun hb314 => ?_) (fun hb323 => ?_) (fun F_324 l_325 => ?_)
            · skip
              refine .onH hb314 rfl rfl ?_
              refine .move rfl rfl ?_
              refine .onH hb314 rfl rfl ?_
              refine .lss rfl rfl rfl ?_
              refine .onH hb314 rfl rfl ?_
              refine .move rfl rfl ?_
              refine .andP (b := (decide (b107.2.2.2 < 0))) (b' := ((r_305.2 != 4) || (r_305.1 != 0))) 7 216 (fun hb315 => ?_) (fun hb320 => ?_) (fun F_321 l_322 => ?_)
              · skip
                refine .onH hb315 rfl rfl ?_
                refine .move rfl rfl ?_
                refine .onH hb315 rfl rfl ?_
                refine .neq rfl rfl rfl ?_
                refine .onH hb315 rfl rfl ?_
                refine .move rfl rfl ?_
                refine .orP (b := (r_305.2 != 4)) (b' := (r_305.1 != 0)) 3 215 (fun hb316 => ?_) (fun hb317 => ?_) (fun F_318 l_319 => ?_)
                · skip
                  refine .onH hb316 rfl rfl ?_
                  refine .move rfl rfl ?_
                  refine .onH hb316 rfl rfl ?_
                  refine .neq rfl rfl rfl ?_
                  refine .onH hb315 rfl rfl ?_
                  refine .pickFH hb316 rfl rfl rfl ?_
                  exact .fin 3 rfl rfl (by kernel_rfl) (Fz.le_refl _)
                · skip
                  refine .offH hb317 rfl rfl rfl ?_
                  refine .offH hb317 rfl rfl rfl ?_
                  refine .onH hb315 rfl rfl ?_
                  refine .pickTH hb317 rfl rfl rfl ?_
                  exact .fin 3 rfl rfl (by kernel_rfl) (Fz.le_refl _)
                refine .onH hb314 rfl rfl ?_
                refine .pickTH hb315 rfl rfl rfl ?_
                exact .fin 5 rfl rfl (by kernel_rfl) l_319
              · skip
                refine .offH hb320 rfl rfl rfl ?_
                refine .offH hb320 rfl rfl rfl ?_
                refine .offH hb320 rfl rfl rfl ?_
                refine .off rfl rfl rfl rfl ?_
                refine .off rfl rfl rfl rfl ?_
                refine .offH hb320 rfl rfl rfl ?_
                refine .onH hb314 rfl rfl ?_
                refine .pickFH hb320 rfl rfl rfl ?_
                exact .fin 7 rfl rfl (by kernel_rfl) (Fz.le_refl _)
              refine .pickFH hb314 rfl rfl rfl ?_
              exact .fin 5 rfl rfl (by kernel_rfl) l_322
            · skip
              refine .offH hb323 rfl rfl rfl ?_
              refine .offH hb323 rfl rfl rfl ?_
              refine .offH hb323 rfl rfl rfl ?_
              refine .off rfl rfl rfl rfl ?_
              refine .off rfl rfl rfl rfl ?_
              refine .off rfl rfl rfl rfl ?_
              refine .off rfl rfl rfl rfl ?_
              refine .off rfl rfl rfl rfl ?_
              refine .off rfl rfl rfl rfl ?_
              refine .offH hb323 rfl rfl rfl ?_
              refine .pickTH hb323 rfl rfl rfl ?_
              exact .fin 11 rfl rfl (by kernel_rfl) (Fz.le_refl _)
            refine .nil ?_
            refine .code ?_
            refine .cond rfl (fun hb326 => ?_) (fun hb326 => ?_)
            · skip
              refine .seq ?_
              refine .region ?_
              refine .assign rfl rfl ?_
              refine .nil ?_
              refine .code ?_
              exact .ret0 Try.results8 (.tmp rfl (.nil)) (i := 1) rfl (Fz.le_trans l_10 (Fz.le_trans l_16 (Fz.le_trans l_109 (Fz.le_trans l_300 (Fz.le_trans l_304 (Fz.le_trans l_313 l_325)))))) rfl
            · skip
              refine .skip ?_
              refine .code ?_
              refine .seq ?_
              refine .region ?_
              refine .move rfl rfl ?_
              refine .move rfl rfl ?_
              refine .lenS rfl rfl Try.underlying22 rfl ?_
              refine .eql rfl rfl rfl ?_
              refine .move rfl rfl ?_
              refine .andP (b := (r_17.2.1 == (l_1.length : Int))) (b' := (decide (b107.1 ≤ 1))) 3 225 (fun hb327 => ?_) (fun hb328 => ?_) (fun F_329 l_330 => ?_)
              · skip
                refine .onH hb327 rfl rfl ?_
                refine .move rfl rfl ?_
                refine .onH hb327 rfl rfl ?_
                refine .leq rfl rfl rfl ?_
                refine .pickTH hb327 rfl rfl rfl ?_
                exact .fin 3 rfl rfl (by kernel_rfl) (Fz.le_refl _)
              · skip
                refine .offH hb328 rfl rfl rfl ?_
                refine .offH hb328 rfl rfl rfl ?_
                refine .pickFH hb328 rfl rfl rfl ?_
                exact .fin 3 rfl rfl (by kernel_rfl) (Fz.le_refl _)
              refine .move rfl rfl ?_
              refine .andP (b := ((r_17.2.1 == (l_1.length : Int)) && (decide (b107.1 ≤ 1)))) (b' := ((w64 (b298.1 + b107.2.1)) == b107.1)) 6 232 (fun hb331 => ?_) (fun hb332 => ?_) (fun F_333 l_334 => ?_)
              · skip
                refine .onH hb331 rfl rfl ?_
                refine .move rfl rfl ?_
                refine .onH hb331 rfl rfl ?_
                refine .move rfl rfl ?_
                refine .onH hb331 rfl rfl ?_
                refine .add rfl rfl rfl ?_
                refine .onH hb331 rfl rfl ?_
                refine .move rfl rfl ?_
                refine .onH hb331 rfl rfl ?_
                refine .eql rfl rfl rfl ?_
                refine .pickTH hb331 rfl rfl rfl ?_
                exact .fin 6 rfl rfl (by kernel_rfl) (Fz.le_refl _)
              · skip
                refine .offH hb332 rfl rfl rfl ?_
                refine .offH hb332 rfl rfl rfl ?_
                refine .offH hb332 rfl rfl rfl ?_
                refine .offH hb332 rfl rfl rfl ?_
                refine .offH hb332 rfl rfl rfl ?_
                refine .pickFH hb332 rfl rfl rfl ?_
                exact .fin 6 rfl rfl (by kernel_rfl) (Fz.le_refl _)
              refine .move rfl rfl ?_
              refine .andP (b := (((r_17.2.1 == (l_1.length : Int)) && (decide (b107.1 ≤ 1))) && ((w64 (b298.1 + b107.2.1)) == b107.1))) (b' := (b298.2 == b107.2.2.1)) 4 237 (fun hb335 => ?_) (fun hb336 => ?_) (fun F_337 l_338 => ?_)
              · skip
                refine .onH hb335 rfl rfl ?_
                refine .move rfl rfl ?_
                refine .onH hb335 rfl rfl ?_
                refine .move rfl rfl ?_
                refine .onH hb335 rfl rfl ?_
                refine .eql rfl rfl rfl ?_
                refine .pickTH hb335 rfl rfl rfl ?_
                exact .fin 4 rfl rfl (by kernel_rfl) (Fz.le_refl _)
              · skip
                refine .offH hb336 rfl rfl rfl ?_
                refine .offH hb336 rfl rfl rfl ?_
                refine .offH hb336 rfl rfl rfl ?_
                refine .pickFH hb336 rfl rfl rfl ?_
                exact .fin 4 rfl rfl (by kernel_rfl) (Fz.le_refl _)
              refine .move rfl rfl ?_
              refine .andM (b := ((((r_17.2.1 == (l_1.length : Int)) && (decide (b107.1 ≤ 1))) && ((w64 (b298.1 + b107.2.1)) == b107.1)) && (b298.2 == b107.2.2.1))) 2 240 (fun hb339 z347 => ?_) (fun hb343 => ?_) (fun z346 F_344 l_345 => ?_)
              · skip
                refine .onH hb339 rfl rfl ?_
                refine .call0 rfl Try.call11 rfl rfl rfl (c_wormtublaw12_awake _ ) ?_
                rintro r_342 F_340 _ - l_341 rfl
                refine .pickTH hb339 rfl rfl rfl ?_
                exact .finZ 2 rfl rfl (by kernel_rfl) l_341
              · skip
                refine .offH hb343 rfl rfl rfl ?_
                refine .pickFH hb343 rfl rfl rfl ?_
                exact .fin 2 rfl rfl (by kernel_rfl) (Fz.le_refl _)
              refine .assign rfl rfl ?_
              refine .nil ?_
              refine .keep (.cons (k := 6) rfl (.nil _)) ?_
              refine .code ?_
              exact .ret0 Try.results8 (.tmp rfl (.nil)) (i := 1) rfl (Fz.le_trans l_10 (Fz.le_trans l_16 (Fz.le_trans l_109 (Fz.le_trans l_300 (Fz.le_trans l_304 (Fz.le_trans l_313 (Fz.le_trans l_325 (Fz.le_trans l_330 (Fz.le_trans l_334 (Fz.le_trans l_338 l_345)))))))))) rfl
          obtain ⟨rfl, F_301, l_302, hA⟩ := hD
          exact interp_ret ((ret_post0 Try.results8 (.tmp rfl (.nil)) (i := 0) rfl (Fz.le_trans l_10 (Fz.le_trans l_16 (Fz.le_trans l_109 l_302))) rfl) hk a w hA)

end Go.Proofs.Ytbomfcghpajaiaa
