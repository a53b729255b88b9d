/- Own texts and texts printed by a program of mine, for caskDrops_holds; only what it reaches. -/
import Derived.Test.YtkedjmhhcekmiaaPf6
section
namespace Go.Proofs.Ytkedjmhhcekmiaa
open Go.Dec Go.Shelf Go.RowKit Go.Maps Go.Sort
noncomputable def b_wormtublaw06_CaskDrops_1 (l_1 : (List ApiCaskEvent)) (r_21 : ((List ApiCask) × Int × Int)) (s35 : (List Int) × Int) : Option (Ctl ((List Int) × Int) (((List Int)))) :=
 if (decide (s35.2 < r_21.2.1)) then (((idxL l_1 s35.2).bind fun x42 => (if (x42.Kind == 1) then ((appO s35.1 ([s35.2])).bind fun l_58 => some l_58) else (some s35.1) : Option ((List Int))).bind fun j62 => some j62 : Option ((List Int))).bind fun j68 => bindv (w64 (s35.2 + 1)) fun i74 => some (.next (j68, i74))) else (some (.done s35.1))
noncomputable def b_wormtublaw06_CaskDrops_2 (r_99 : (Int × Int × (Nat → Int) × (Nat → Int) × Bool)) (r_108 : (ApiCask × Int)) (s129 : Int) : Option (Ctl (Int) ((Unit) ⊕ (Bool))) :=
 if (decide (s129 < 8)) then ((idxO 8 s129).bind fun j134 => (idxO 8 s129).bind fun j136 => if (decide ((r_108.1.Woods j134) > (r_99.2.2.1 j136))) then (some (.done (.inr false))) else (bindv (w64 (s129 + 1)) fun i155 => some (.next i155))) else (some (.done (.inl ())))
noncomputable def b_wormtublaw06_CaskDrops_3 (r_99 : (Int × Int × (Nat → Int) × (Nat → Int) × Bool)) (r_108 : (ApiCask × Int)) (s162 : Int) : Option (Ctl (Int) ((Unit) ⊕ (Bool))) :=
 if (decide (s162 < 8)) then ((idxO 8 s162).bind fun j167 => (idxO 8 s162).bind fun j169 => if (decide ((r_108.1.Places j167) > (r_99.2.2.2.1 j169))) then (some (.done (.inr false))) else (bindv (w64 (s162 + 1)) fun i188 => some (.next i188))) else (some (.done (.inl ())))
noncomputable def b_wormtublaw06_CaskDrops_4 (l_1 : (List ApiCaskEvent)) (r_21 : ((List ApiCask) × Int × Int)) (x88 : Int) (r_112 : ((List Int) × Int)) (s195 : Bool × Int) : Option (Ctl (Bool × Int) ((Bool) ⊕ (Bool))) :=
 if (decide (s195.2 < (r_112.1.length : Int))) then ((if s195.1 then some true else ((idxL r_112.1 s195.2).bind fun x200 => some (x200 == x88))).bind fun z213 => ((idxL r_112.1 s195.2).bind fun x215 => if (decide (x215 < 0)) then (some true) else ((idxL r_112.1 s195.2).bind fun x309 => if (decide (x309 ≥ r_21.2.1)) then (some true) else ((idxL r_112.1 s195.2).bind fun x403 => (idxL l_1 x403).bind fun x413 => if (x413.Kind != 1) then (some true) else (if (decide (s195.2 > 0)) then ((idxL r_112.1 s195.2).bind fun x508 => (idxL r_112.1 (w64 (s195.2 - 1))).bind fun x518 => some (decide (x508 ≤ x518))) else (some false)))) : Option (Bool)).bind fun j694 => if j694 then (some (.done (.inr false))) else (bindv (w64 (s195.2 + 1)) fun i698 => some (.next (z213, i698)))) else (some (.done (.inl s195.1)))
noncomputable def m_wormtublaw06_CaskDrops (l_1 : (List ApiCaskEvent)) (day5 : Int) (which6 : Int) (by_7 : (List Int)) : Option Bool :=
 if ((decide ((l_1.length : Int) > 40)) || ((by_7.length : Int) == 0)) then ((m_wormtublaw06_awake).bind fun r_18 => some r_18) else ((m_cask_Play l_1 day5).bind fun r_21 => if (r_21.2.2 != 0) then ((m_wormtublaw06_awake).bind fun r_28 => some r_28) else (if ((decide (r_21.2.1 < 0)) || (decide (r_21.2.1 > (l_1.length : Int)))) then (some false) else ((loopM (b_wormtublaw06_CaskDrops_1 l_1 r_21) ([], 0)).bind fun b76 => if ((b76.length : Int) == 0) then ((m_wormtublaw06_awake).bind fun r_85 => some r_85) else ((remK (w64 (which6)) (b76.length : Int)).bind fun q86 => (idxL b76 q86).bind fun x88 => (sliceL l_1 0 r_21.2.1).bind fun l_92 => (m_wormtublaw06_drop l_92 x88 day5 by_7).bind fun r_99 => if (!r_99.2.2.2.2) then ((m_wormtublaw06_awake).bind fun r_105 => some r_105) else ((m_cask_At l_1 r_99.1 day5).bind fun r_108 => (m_cask_Sources l_1 r_99.1 day5).bind fun r_112 => if ((((r_108.2 != 0) || (r_112.2 != 0)) || (decide (r_108.1.Amount ≤ 0))) || (decide (r_108.1.Age > r_99.2.1))) then (some false) else ((loopM (b_wormtublaw06_CaskDrops_2 r_99 r_108) 0).bind fun b0 => match b0 with | .inl _b157 => ((loopM (b_wormtublaw06_CaskDrops_3 r_99 r_108) 0).bind fun b0 => match b0 with | .inl _b190 => ((loopM (b_wormtublaw06_CaskDrops_4 l_1 r_21 x88 r_112) (false, 0)).bind fun b0 => match b0 with | .inl b700 => ((if b700 then ((m_wormtublaw06_awake).bind fun r_708 => some r_708) else some false).bind fun z712 => some z712) | .inr b700 => (some b700)) | .inr b190 => (some b190)) | .inr b157 => (some b157)))))))
set_option maxHeartbeats 4000000 in
theorem c_wormtublaw06_CaskDrops (F0 : Fz) (l_1 : (List ApiCaskEvent)) (p2 : Option Addr) (k3 : Nat) (h4 : RepSl 8 (Ex cApiCaskEvent) F0 p2 k3 l_1) (day5 : Int) (which6 : Int) (by_7 : (List Int)) (p8 : Option Addr) (k9 : Nat) (h10 : RepSl 1 (Ex (cInt .u8)) F0 p8 k9 by_7) : CT0 Try.prog 5 [(.slice p2 l_1.length k3), (.int .i64 day5), (.int .u8 which6), (.slice p8 by_7.length k9)].toArray F0 (m_wormtublaw06_CaskDrops l_1 day5 which6 by_7) (fun r _ v => v = (.bool r)) := by
 refine CT0.enter Try.func5 rfl Try.ntmps5 rfl fun r R => ?_
 unfold m_wormtublaw06_CaskDrops
 refine .seq ?_
 refine .region ?_
 refine .assign rfl rfl ?_
 refine .nil ?_
 refine .code ?_
 refine .seq ?_
 refine .seq ?_
 refine .region ?_
 refine .move rfl rfl ?_
 refine .lenS rfl rfl Try.underlying22 rfl ?_
 refine .gtr rfl rfl rfl ?_
 refine .move rfl rfl ?_
 refine .orP (b := (decide ((l_1.length : Int) > 40))) (b' := ((by_7.length : Int) == 0)) 4 35 (fun hb11 => ?_) (fun hb12 => ?_) (fun F_13 l_14 => ?_)
 ·skip
  refine .onH hb11 rfl rfl ?_
  refine .move rfl rfl ?_
  refine .onH hb11 rfl rfl ?_
  refine .lenS rfl rfl Try.underlying43 rfl ?_
  refine .onH hb11 rfl rfl ?_
  refine .eql rfl rfl rfl ?_
  refine .pickFH hb11 rfl rfl rfl ?_
  exact .fin 4 rfl rfl (by kernel_rfl) (Fz.le_refl _)
 ·skip
  refine .offH hb12 rfl rfl rfl ?_
  refine .offH hb12 rfl rfl rfl ?_
  refine .offH hb12 rfl rfl rfl ?_
  refine .pickTH hb12 rfl rfl rfl ?_
  exact .fin 4 rfl rfl (by kernel_rfl) (Fz.le_refl _)
 refine .nil ?_
 refine .code ?_
 refine .cond rfl (fun hb15 => ?_) (fun hb15 => ?_)
 ·skip
  refine .seq ?_
  refine .region ?_
  refine .call0 rfl Try.call11 rfl rfl rfl (c_wormtublaw06_awake _ ) ?_
  rintro r_18 F_16 _ - l_17 rfl
  refine .assign rfl rfl ?_
  refine .nil ?_
  refine .code ?_
  exact .ret0 Try.results5 (.tmp rfl (.nil)) (i := 0) rfl (Fz.le_trans l_14 l_17) rfl
 ·skip
  refine .skip ?_
  refine .code ?_
  refine .seq ?_
  refine .region ?_
  refine .move rfl rfl ?_
  refine .move rfl rfl ?_
  refine .call0 rfl Try.call12 rfl rfl rfl (c_cask_Play _ l_1 p2 k3 (h4.mono l_14) day5) ?_
  rintro r_21 F_19 _ - l_20 ⟨p22, k23, rfl, h24⟩
  refine .move rfl rfl ?_
  refine .extract rfl rfl rfl ?_
  refine .extract rfl rfl rfl ?_
  refine .extract rfl rfl rfl ?_
  refine .assign rfl rfl ?_
  refine .assign rfl rfl ?_
  refine .assign rfl rfl ?_
  refine .nil ?_
  refine .code ?_
  refine .seq ?_
  refine .seq ?_
  refine .region ?_
  refine .move rfl rfl ?_
  refine .neq rfl rfl rfl ?_
  refine .nil ?_
  refine .code ?_
  refine .cond rfl (fun hb25 => ?_) (fun hb25 => ?_)
  ·skip
   refine .seq ?_
   refine .region ?_
   refine .call0 rfl Try.call11 rfl rfl rfl (c_wormtublaw06_awake _ ) ?_
   rintro r_28 F_26 _ - l_27 rfl
   refine .assign rfl rfl ?_
   refine .nil ?_
   refine .code ?_
   exact .ret0 Try.results5 (.tmp rfl (.nil)) (i := 0) rfl (Fz.le_trans l_14 (Fz.le_trans l_20 l_27)) rfl
  ·skip
   refine .skip ?_
   refine .code ?_
   refine .seq ?_
   refine .seq ?_
   refine .region ?_
   refine .move rfl rfl ?_
   refine .lss rfl rfl rfl ?_
   refine .move rfl rfl ?_
   refine .orP (b := (decide (r_21.2.1 < 0))) (b' := (decide (r_21.2.1 > (l_1.length : Int)))) 5 54 (fun hb29 => ?_) (fun hb30 => ?_) (fun F_31 l_32 => ?_)
   ·skip
    refine .onH hb29 rfl rfl ?_
    refine .move rfl rfl ?_
    refine .onH hb29 rfl rfl ?_
    refine .move rfl rfl ?_
    refine .onH hb29 rfl rfl ?_
    refine .lenS rfl rfl Try.underlying22 rfl ?_
    refine .onH hb29 rfl rfl ?_
    refine .gtr rfl rfl rfl ?_
    refine .pickFH hb29 rfl rfl rfl ?_
    exact .fin 5 rfl rfl (by kernel_rfl) (Fz.le_refl _)
   ·skip
    refine .offH hb30 rfl rfl rfl ?_
    refine .offH hb30 rfl rfl rfl ?_
    refine .offH hb30 rfl rfl rfl ?_
    refine .offH hb30 rfl rfl rfl ?_
    refine .pickTH hb30 rfl rfl rfl ?_
    exact .fin 5 rfl rfl (by kernel_rfl) (Fz.le_refl _)
   refine .nil ?_
   refine .keep (.cons (k := 0) rfl (.cons (k := 1) rfl (.cons (k := 2) rfl (.cons (k := 3) rfl (.cons (k := 10) rfl (.cons (k := 54) rfl (.nil _))))))) ?_
   refine .code ?_
   refine .cond rfl (fun hb33 => ?_) (fun hb33 => ?_)
   ·skip
    refine .seq ?_
    refine .region ?_
    refine .assign rfl rfl ?_
    refine .nil ?_
    refine .code ?_
    exact .ret0 Try.results5 (.tmp rfl (.nil)) (i := 0) rfl (Fz.le_trans l_14 (Fz.le_trans l_20 l_32)) rfl
   ·skip
    refine .skip ?_
    refine .code ?_
    refine .seq ?_
    refine .region ?_
    refine .assign rfl rfl ?_
    refine .nil ?_
    refine .code ?_
    refine .seq ?_
    refine .seq ?_
    refine .region ?_
    refine .assign rfl rfl ?_
    refine .nil ?_
    refine .code ?_
    refine .block ?_
    refine .ownNil 1 (Ex (cInt .i64)) 3 ?_
    refine .keep (.cons (k := 0) rfl (.cons (k := 1) rfl (.cons (k := 2) rfl (.cons (k := 3) rfl (.cons (k := 10) rfl (.cons (k := 12) rfl (.cons (k := 13) rfl (.nil _)))))))) ?_
    refine .loop (fun (s35 : (List Int) × Int) a w => ∃ (F_36 : Fz) (p38 : Option Addr) (k39 : Nat), F_31 ≤ F_36 ∧ Hd 212 [] [(0, (.slice p2 l_1.length k3)), (1, (.int .i64 day5)), (2, (.int .u8 which6)), (3, (.slice p8 by_7.length k9)), (10, (.int .i64 r_21.2.1)), (12, (.slice p38 s35.1.length k39)), (13, (.int .i64 s35.2))] F_36 [ownSl 1 (Ex (cInt .i64)) F_36 3 p38 k39 s35.1, R] a w) (fun b76 e a w => e = .exit 0 ∧ ∃ (F_77 : Fz) (p79 : Option Addr) (k80 : Nat), F_31 ≤ F_77 ∧ Hd 212 [] [(0, (.slice p2 l_1.length k3)), (1, (.int .i64 day5)), (2, (.int .u8 which6)), (3, (.slice p8 by_7.length k9)), (10, (.int .i64 r_21.2.1)), (12, (.slice p79 b76.length k80))] F_77 [ownSl 1 (Ex (cInt .i64)) F_77 3 p79 k80 b76, R] a w) ?_ ?_ ?_
    ·exact fun a w h => ⟨F_31, none, 0, (Fz.le_refl _), h.1.sub (.cons (k := 0) rfl (.cons (k := 1) rfl (.cons (k := 2) rfl (.cons (k := 3) rfl (.cons (k := 10) rfl (.cons (k := 12) rfl (.cons (k := 13) rfl (.nil _)))))))), h.2⟩
    ·intro s35 ctl
     refine GC.ex (fun a w ⟨F_36, p38, k39, l_37, hA⟩ => ⟨_, hA, ?_⟩)
     unfold b_wormtublaw06_CaskDrops_1
     refine .seq ?_
     refine .seq ?_
     refine .region ?_
     refine .move rfl rfl ?_
     refine .move rfl rfl ?_
     refine .lss rfl rfl rfl ?_
     refine .nil ?_
     refine .code ?_
     refine .cond rfl (fun hb41 => ?_) (fun hb41 => ?_)
     ·skip
      refine .skip ?_
      refine .code ?_
      refine .seq ?_
      refine .keep (.cons (k := 0) rfl (.cons (k := 1) rfl (.cons (k := 2) rfl (.cons (k := 3) rfl (.cons (k := 10) rfl (.cons (k := 12) rfl (.cons (k := 13) rfl (.nil _)))))))) ?_
      refine GC.join0 (σ := (List Int)) (fun j68 a w => ∃ (F_69 : Fz) (p71 : Option Addr) (k72 : Nat), F_36 ≤ F_69 ∧ Hd 212 [] [(0, (.slice p2 l_1.length k3)), (1, (.int .i64 day5)), (2, (.int .u8 which6)), (3, (.slice p8 by_7.length k9)), (10, (.int .i64 r_21.2.1)), (12, (.slice p71 j68.length k72)), (13, (.int .i64 s35.2))] F_69 [ownSl 1 (Ex (cInt .i64)) F_69 3 p71 k72 j68, R] a w) (fun sj => ?_) (fun j68 hs0 => GE.ex (fun a w ⟨F_69, p71, k72, l_70, hA⟩ => ⟨_, hA, ?_⟩))
      ·skip
       refine .block ?_
       refine .seq ?_
       refine .region ?_
       refine .move rfl rfl ?_
       refine .move rfl rfl ?_
       refine .idx rfl Try.underlying22 Try.sizeOf45 (h4.mono (Fz.le_trans l_14 (Fz.le_trans l_20 (Fz.le_trans l_32 l_37)))) rfl rfl (fun x42 b43 o44 T45 fr46 cs47 e48 hm49 hv50 => ?_)
       refine .fieldAddr rfl Try.underlying45 rfl Try.sizeOf3 rfl ?_
       refine .loadF rfl Try.isAgg3 rfl hm49 (cell_of_take (k := 0) hv50 rfl) ?_
       refine .eql rfl rfl rfl ?_
       refine .nil ?_
       refine .code ?_
       refine .keep (.cons (k := 0) rfl (.cons (k := 1) rfl (.cons (k := 2) rfl (.cons (k := 3) rfl (.cons (k := 10) rfl (.cons (k := 12) rfl (.cons (k := 13) rfl (.cons (k := 65) rfl (.nil _))))))))) ?_
       refine GC.join0 (σ := (List Int)) (fun j62 a w => ∃ (F_63 : Fz) (p65 : Option Addr) (k66 : Nat), F_36 ≤ F_63 ∧ Hd 212 [] [(0, (.slice p2 l_1.length k3)), (1, (.int .i64 day5)), (2, (.int .u8 which6)), (3, (.slice p8 by_7.length k9)), (10, (.int .i64 r_21.2.1)), (12, (.slice p65 j62.length k66)), (13, (.int .i64 s35.2))] F_63 [ownSl 1 (Ex (cInt .i64)) F_63 3 p65 k66 j62, R] a w) (fun sj => ?_) (fun j62 hs0 => GE.ex (fun a w ⟨F_63, p65, k66, l_64, hA⟩ => ⟨_, hA, ?_⟩))
       ·skip
        refine .cond rfl (fun hb52 => ?_) (fun hb52 => ?_)
        ·skip
         refine .region ?_
         refine .move rfl rfl ?_
         refine .move rfl rfl ?_
         refine .sliceLit (cs := [.int .i64 s35.2]) (zc := [.int .i64 0]) rfl Try.underlying36 Try.sizeOf3 Try.zeroValue3 rfl rfl rfl (by kernel_rfl) (by kernel_rfl) (fun b53 F_54 l_55 hb56 => ?_)
         have h57 : RepSl 1 (Ex (cInt .i64)) F_54 (some ⟨b53, 0, none⟩) 1 ([s35.2]) := RepSl.ofRow hb56 (.cons ok_t3.mono rfl .nil) rfl rfl
         refine .append 0 ok_t3 l_55 rfl Try.underlying36 Try.underlying36 rfl rfl rfl h57 rfl rfl (fun l_58 p59 k60 e61 => ?_)
         refine .assign rfl rfl ?_
         refine .nil ?_
         exact .nil fun e a w h => by cases e; exact ⟨rfl, ⟨F_54, p59, k60, l_55, h.1.sub (.cons (k := 0) rfl (.cons (k := 1) rfl (.cons (k := 2) rfl (.cons (k := 3) rfl (.cons (k := 10) rfl (.cons (k := 12) rfl (.cons (k := 13) rfl (.nil _)))))))), h.2⟩⟩
        ·skip
         refine .skip ?_
         exact .nil fun e a w h => by cases e; exact ⟨rfl, ⟨F_36, p38, k39, (Fz.le_refl _), h.1.sub (.cons (k := 0) rfl (.cons (k := 1) rfl (.cons (k := 2) rfl (.cons (k := 3) rfl (.cons (k := 10) rfl (.cons (k := 12) rfl (.cons (k := 13) rfl (.nil _)))))))), h.2⟩⟩
       refine .block ?_
       exact .nil fun e a w h => by cases e; exact ⟨rfl, ⟨F_63, p65, k66, l_64, h.1.sub (.cons (k := 0) rfl (.cons (k := 1) rfl (.cons (k := 2) rfl (.cons (k := 3) rfl (.cons (k := 10) rfl (.cons (k := 12) rfl (.cons (k := 13) rfl (.nil _)))))))), h.2⟩⟩
      refine .code ?_
      refine .region ?_
      refine .move rfl rfl ?_
      refine .add rfl rfl rfl ?_
      refine .assignL rfl rfl (fun i74 e75 => ?_)
      refine .nil ?_
      exact .nil (LPost.norm fun a w h => ⟨F_69, p71, k72, (Fz.le_trans l_37 l_70), h.1.sub (.cons (k := 0) rfl (.cons (k := 1) rfl (.cons (k := 2) rfl (.cons (k := 3) rfl (.cons (k := 10) rfl (.cons (k := 12) rfl (.cons (k := 13) rfl (.nil _)))))))), h.2⟩)
     ·skip
      refine .exitOut rfl (LPost.exit fun a w h => ⟨rfl, F_36, p38, k39, l_37, h.1.sub (.cons (k := 0) rfl (.cons (k := 1) rfl (.cons (k := 2) rfl (.cons (k := 3) rfl (.cons (k := 10) rfl (.cons (k := 12) rfl (.nil _))))))), h.2⟩)
    ·intro b76 hb0 hk e a w hD
     obtain ⟨rfl, F_77, p79, k80, l_78, hA⟩ := hD
     refine interp_exit rfl (GE.app ?_ hk a w hA)
     refine .code ?_
     refine .seq ?_
     refine .seq ?_
     refine .region ?_
     refine .move rfl rfl ?_
     refine .lenS rfl rfl Try.underlying36 rfl ?_
     refine .eql rfl rfl rfl ?_
     refine .nil ?_
     refine .code ?_
     refine .cond rfl (fun hb82 => ?_) (fun hb82 => ?_)
     ·skip
      refine .seq ?_
      refine .region ?_
      refine .call0 rfl Try.call11 rfl rfl rfl (c_wormtublaw06_awake _ ) ?_
      rintro r_85 F_83 _ - l_84 rfl
      refine .assign rfl rfl ?_
      refine .nil ?_
      refine .code ?_
      exact .ret0 Try.results5 (.tmp rfl (.nil)) (i := 1) rfl (Fz.le_trans l_14 (Fz.le_trans l_20 (Fz.le_trans l_32 (Fz.le_trans l_78 l_84)))) rfl
     ·skip
      refine .skip ?_
      refine .code ?_
      refine .seq ?_
      refine .region ?_
      refine .move rfl rfl ?_
      refine .move rfl rfl ?_
      refine .convI rfl Try.underlying5 Try.underlying3 rfl ?_
      refine .move rfl rfl ?_
      refine .lenS rfl rfl Try.underlying36 rfl ?_
      refine .rem rfl rfl rfl (fun q86 e87 => ?_)
      refine .bind (fun x88 e89 => ?_)
      refine .ownAddr 0 rfl e89 (fun b90 hp91 => ?_)
      refine .idxOwn rfl Try.underlying36 Try.sizeOf3 hp91 e89 rfl rfl ?_
      refine .loadOwn (off := 0) (Φ := fun v => v = (.int .i64 x88)) 0 rfl (Fz.le_refl _) rfl Try.isAgg3 hp91 e89 rfl rfl (fun vs h => ⟨_, by subst h; exact rfl, rfl⟩) (fun v hv => ?_)
      subst hv
      refine .assign rfl rfl ?_
      refine .nil ?_
      refine .code ?_
      refine .seq ?_
      refine .region ?_
      refine .move rfl rfl ?_
      refine .move rfl rfl ?_
      refine .sliceHi rfl Try.underlying22 Try.sizeOf45 (h4.mono (Fz.le_trans l_14 (Fz.le_trans l_20 (Fz.le_trans l_32 l_78)))) rfl rfl (fun l_92 p93 k94 e95 h96 => ?_)
      refine .move rfl rfl ?_
      refine .move rfl rfl ?_
      refine .move rfl rfl ?_
      refine .call0 rfl Try.call22 rfl rfl rfl (c_wormtublaw06_drop _ l_92 p93 k94 h96 x88 day5 by_7 p8 k9 (h10.mono (Fz.le_trans l_14 (Fz.le_trans l_20 (Fz.le_trans l_32 l_78))))) ?_
      rintro r_99 F_97 _ - l_98 rfl
      refine .move rfl rfl ?_
      refine .extract rfl rfl rfl ?_
      refine .extract rfl rfl rfl ?_
      refine .extract rfl rfl rfl ?_
      refine .extract rfl rfl rfl ?_
      refine .extract rfl rfl rfl ?_
      refine .alloc (cs := ((cArr 8 (cInt .i64)) (fun _ => 0))) rfl Try.zeroValue29 rfl (fun b100 => ?_)
      refine .alloc (cs := ((cArr 8 (cInt .i64)) (fun _ => 0))) rfl Try.zeroValue29 rfl (fun b101 => ?_)
      refine .assign rfl rfl ?_
      refine .assign rfl rfl ?_
      refine .store (cs' := ((cArr 8 (cInt .i64)) r_99.2.2.1)) Try.sizeOf29 rfl rfl rfl rfl (i := 1) rfl (Nat.le_of_ble_eq_true rfl) rfl (setMany_all (by rfl)) ?_
      refine .store (cs' := ((cArr 8 (cInt .i64)) r_99.2.2.2.1)) Try.sizeOf29 rfl rfl rfl rfl (i := 0) rfl (Nat.le_of_ble_eq_true rfl) rfl (setMany_all (by rfl)) ?_
      refine .assign rfl rfl ?_
      refine .nil ?_
      refine .keep (.cons (k := 0) rfl (.cons (k := 1) rfl (.cons (k := 10) rfl (.cons (k := 14) rfl (.cons (k := 15) rfl (.cons (k := 16) rfl (.cons (k := 17) rfl (.cons (k := 18) rfl (.cons (k := 19) rfl (.nil _)))))))))) ?_
      refine .code ?_
      refine .seq ?_
      refine .seq ?_
      refine .region ?_
      refine .move rfl rfl ?_
      refine .not rfl rfl ?_
      refine .nil ?_
      refine .code ?_
      refine .cond rfl (fun hb102 => ?_) (fun hb102 => ?_)
      ·skip
       refine .seq ?_
       refine .region ?_
       refine .call0 rfl Try.call11 rfl rfl rfl (c_wormtublaw06_awake _ ) ?_
       rintro r_105 F_103 _ - l_104 rfl
       refine .assign rfl rfl ?_
       refine .nil ?_
       refine .code ?_
       exact .ret0 Try.results5 (.tmp rfl (.nil)) (i := 3) rfl (Fz.le_trans l_14 (Fz.le_trans l_20 (Fz.le_trans l_32 (Fz.le_trans l_78 (Fz.le_trans l_98 l_104))))) rfl
      ·skip
       refine .skip ?_
       refine .code ?_
       refine .seq ?_
       refine .region ?_
       refine .move rfl rfl ?_
       refine .move rfl rfl ?_
       refine .move rfl rfl ?_
       refine .call0 rfl Try.call14 rfl rfl rfl (c_cask_At _ l_1 p2 k3 (h4.mono (Fz.le_trans l_14 (Fz.le_trans l_20 (Fz.le_trans l_32 (Fz.le_trans l_78 l_98))))) r_99.1 day5) ?_
       rintro r_108 F_106 _ - l_107 rfl
       refine .move rfl rfl ?_
       refine .extract rfl rfl rfl ?_
       refine .extract rfl rfl rfl ?_
       refine .alloc (cs := (cApiCask (ApiCask.mk 0 0 0 0 0 0 0 0 (fun _ => 0) (fun _ => 0)))) rfl Try.zeroValue31 rfl (fun b109 => ?_)
       refine .store (cs' := (cApiCask r_108.1)) Try.sizeOf31 rfl rfl rfl rfl (i := 0) rfl (Nat.le_of_ble_eq_true rfl) rfl (setMany_all (by rfl)) ?_
       refine .assign rfl rfl ?_
       refine .nil ?_
       refine .code ?_
       refine .seq ?_
       refine .region ?_
       refine .move rfl rfl ?_
       refine .move rfl rfl ?_
       refine .move rfl rfl ?_
       refine .call0 rfl Try.call19 rfl rfl rfl (c_cask_Sources _ l_1 p2 k3 (h4.mono (Fz.le_trans l_14 (Fz.le_trans l_20 (Fz.le_trans l_32 (Fz.le_trans l_78 (Fz.le_trans l_98 l_107)))))) r_99.1 day5) ?_
       rintro r_112 F_110 _ - l_111 ⟨p113, k114, rfl, h115⟩
       refine .move rfl rfl ?_
       refine .extract rfl rfl rfl ?_
       refine .extract rfl rfl rfl ?_
       refine .assign rfl rfl ?_
       refine .assign rfl rfl ?_
       refine .nil ?_
       refine .keep (.cons (k := 0) rfl (.cons (k := 10) rfl (.cons (k := 14) rfl (.cons (k := 16) rfl (.cons (k := 17) rfl (.cons (k := 18) rfl (.cons (k := 20) rfl (.cons (k := 21) rfl (.cons (k := 22) rfl (.cons (k := 23) rfl (.nil _))))))))))) ?_
       refine .code ?_
       refine .seq ?_
       refine .seq ?_
       refine .region ?_
       refine .move rfl rfl ?_
       refine .neq rfl rfl rfl ?_
       refine .move rfl rfl ?_
       refine .orP (b := (r_108.2 != 0)) (b' := (r_112.2 != 0)) 3 117 (fun hb116 => ?_) (fun hb117 => ?_) (fun F_118 l_119 => ?_)
       ·skip
        refine .onH hb116 rfl rfl ?_
        refine .move rfl rfl ?_
        refine .onH hb116 rfl rfl ?_
        refine .neq rfl rfl rfl ?_
        refine .pickFH hb116 rfl rfl rfl ?_
        exact .fin 3 rfl rfl (by kernel_rfl) (Fz.le_refl _)
       ·skip
        refine .offH hb117 rfl rfl rfl ?_
        refine .offH hb117 rfl rfl rfl ?_
        refine .pickTH hb117 rfl rfl rfl ?_
        exact .fin 3 rfl rfl (by kernel_rfl) (Fz.le_refl _)
       refine .move rfl rfl ?_
       refine .orP (b := ((r_108.2 != 0) || (r_112.2 != 0))) (b' := (decide (r_108.1.Amount ≤ 0))) 4 122 (fun hb120 => ?_) (fun hb121 => ?_) (fun F_122 l_123 => ?_)
       ·skip
        refine .onH hb120 rfl rfl ?_
        refine .fieldAddr rfl Try.underlying31 rfl Try.sizeOf3 rfl ?_
        refine .onH hb120 rfl rfl ?_
        refine .loadO rfl Try.isAgg3 rfl (i := 0) rfl rfl ?_
        refine .onH hb120 rfl rfl ?_
        refine .leq rfl rfl rfl ?_
        refine .pickFH hb120 rfl rfl rfl ?_
        exact .fin 4 rfl rfl (by kernel_rfl) (Fz.le_refl _)
       ·skip
        refine .offH hb121 rfl rfl rfl ?_
        refine .offH hb121 rfl rfl rfl ?_
        refine .offH hb121 rfl rfl rfl ?_
        refine .pickTH hb121 rfl rfl rfl ?_
        exact .fin 4 rfl rfl (by kernel_rfl) (Fz.le_refl _)
       refine .move rfl rfl ?_
       refine .orP (b := (((r_108.2 != 0) || (r_112.2 != 0)) || (decide (r_108.1.Amount ≤ 0)))) (b' := (decide (r_108.1.Age > r_99.2.1))) 5 128 (fun hb124 => ?_) (fun hb125 => ?_) (fun F_126 l_127 => ?_)
       ·skip
        refine .onH hb124 rfl rfl ?_
        refine .fieldAddr rfl Try.underlying31 rfl Try.sizeOf3 rfl ?_
        refine .onH hb124 rfl rfl ?_
        refine .loadO rfl Try.isAgg3 rfl (i := 0) rfl rfl ?_
        refine .onH hb124 rfl rfl ?_
        refine .move rfl rfl ?_
        refine .onH hb124 rfl rfl ?_
        refine .gtr rfl rfl rfl ?_
        refine .pickFH hb124 rfl rfl rfl ?_
        exact .fin 5 rfl rfl (by kernel_rfl) (Fz.le_refl _)
       ·skip
        refine .offH hb125 rfl rfl rfl ?_
        refine .offH hb125 rfl rfl rfl ?_
        refine .offH hb125 rfl rfl rfl ?_
        refine .offH hb125 rfl rfl rfl ?_
        refine .pickTH hb125 rfl rfl rfl ?_
        exact .fin 5 rfl rfl (by kernel_rfl) (Fz.le_refl _)
       refine .nil ?_
       refine .code ?_
       refine .cond rfl (fun hb128 => ?_) (fun hb128 => ?_)
       ·skip
        refine .seq ?_
        refine .region ?_
        refine .assign rfl rfl ?_
        refine .nil ?_
        refine .code ?_
        exact .ret0 Try.results5 (.tmp rfl (.nil)) (i := 4) rfl (Fz.le_trans l_14 (Fz.le_trans l_20 (Fz.le_trans l_32 (Fz.le_trans l_78 (Fz.le_trans l_98 (Fz.le_trans l_107 (Fz.le_trans l_111 (Fz.le_trans l_119 (Fz.le_trans l_123 l_127))))))))) rfl
       ·skip
        refine .skip ?_
        refine .code ?_
        refine .seq ?_
        refine .seq ?_
        refine .region ?_
        refine .assign rfl rfl ?_
        refine .nil ?_
        refine .code ?_
        refine .block ?_
        refine .keep (.cons (k := 0) rfl (.cons (k := 10) rfl (.cons (k := 14) rfl (.cons (k := 17) rfl (.cons (k := 18) rfl (.cons (k := 20) rfl (.cons (k := 22) rfl (.cons (k := 24) rfl (.nil _))))))))) ?_
        refine .loop (fun (s129 : Int) a w => ∃ (F_130 : Fz), F_126 ≤ F_130 ∧ Hd 212 [] [(0, (.slice p2 l_1.length k3)), (10, (.int .i64 r_21.2.1)), (14, (.int .i64 x88)), (17, (.pointer (some ⟨b100, 0, none⟩))), (18, (.pointer (some ⟨b101, 0, none⟩))), (20, (.pointer (some ⟨b109, 0, none⟩))), (22, (.slice p113 r_112.1.length k114)), (24, (.int .i64 s129))] F_130 [pt b109 (.cells (cApiCask r_108.1).toArray 31), pt b101 (.cells ((cArr 8 (cInt .i64)) r_99.2.2.2.1).toArray 29), pt b100 (.cells ((cArr 8 (cInt .i64)) r_99.2.2.1).toArray 29), ownSl 1 (Ex (cInt .i64)) F_77 3 p79 k80 b76, R] a w) (fun b0 e a w => match b0 with | .inl b157 => e = .exit 2 ∧ ∃ (F_158 : Fz), F_126 ≤ F_158 ∧ Hd 212 [] [(0, (.slice p2 l_1.length k3)), (10, (.int .i64 r_21.2.1)), (14, (.int .i64 x88)), (18, (.pointer (some ⟨b101, 0, none⟩))), (20, (.pointer (some ⟨b109, 0, none⟩))), (22, (.slice p113 r_112.1.length k114))] F_158 [pt b109 (.cells (cApiCask r_108.1).toArray 31), pt b101 (.cells ((cArr 8 (cInt .i64)) r_99.2.2.2.1).toArray 29), pt b100 (.cells ((cArr 8 (cInt .i64)) r_99.2.2.1).toArray 29), ownSl 1 (Ex (cInt .i64)) F_77 3 p79 k80 b76, R] a w | .inr b157 => e = .ret ∧ ∃ (F_160 : Fz), F_126 ≤ F_160 ∧ Hd 212 [] [(8, (.bool b157))] F_160 [R] a w) ?_ ?_ ?_
        ·exact fun a w h => ⟨F_126, (Fz.le_refl _), h.1.sub (.cons (k := 0) rfl (.cons (k := 10) rfl (.cons (k := 14) rfl (.cons (k := 17) rfl (.cons (k := 18) rfl (.cons (k := 20) rfl (.cons (k := 22) rfl (.cons (k := 24) rfl (.nil _))))))))), h.2⟩
        ·intro s129 ctl
         refine GC.ex (fun a w ⟨F_130, l_131, hA⟩ => ⟨_, hA, ?_⟩)
         unfold b_wormtublaw06_CaskDrops_2
         refine .seq ?_
         refine .seq ?_
         refine .region ?_
         refine .move rfl rfl ?_
         refine .lss rfl rfl rfl ?_
         refine .nil ?_
         refine .code ?_
         refine .cond rfl (fun hb132 => ?_) (fun hb132 => ?_)
         ·skip
          refine .skip ?_
          refine .code ?_
          refine .seq ?_
          refine .block ?_
          refine .seq ?_
          refine .keep (.cons (k := 0) rfl (.cons (k := 10) rfl (.cons (k := 14) rfl (.cons (k := 17) rfl (.cons (k := 18) rfl (.cons (k := 20) rfl (.cons (k := 22) rfl (.cons (k := 24) rfl (.nil _))))))))) ?_
          refine .bind (fun j134 hj135 => ?_)
          refine .bind (fun j136 hj137 => ?_)
          refine .drawGD 7 0 (fun env133 => [((.int .i64 s129), fun _ => True), ((.pointer (some ⟨b109, 0 + 8, none⟩)), fun _ => True), ((.pointer (some ⟨b109, 0 + 8 + j134 * 1, none⟩)), fun _ => True), ((.int .i64 (r_108.1.Woods j134)), fun _ => True), ((.int .i64 s129), fun _ => True), ((.pointer (some ⟨b100, 0 + j136 * 1, none⟩)), fun _ => True), ((.int .i64 (r_99.2.2.1 j136)), fun _ => True)]) (fun L env133 => [pt b109 (.cells (cApiCask r_108.1).toArray 31), pt b101 (.cells ((cArr 8 (cInt .i64)) r_99.2.2.2.1).toArray 29), pt b100 (.cells ((cArr 8 (cInt .i64)) r_99.2.2.1).toArray 29), ownSl 1 (Ex (cInt .i64)) F_77 3 p79 k80 b76, R]) mixedOK (by kernel_rfl) (deepN (k := 7) (n := 8) rfl (allLt8 (p := fun t => 7 ≤ t → ∀ j, j < t → ∃ s, depB _ s t j = true) (fun h => absurd h (by decide)) (fun h => absurd h (by decide)) (fun h => absurd h (by decide)) (fun h => absurd h (by decide)) (fun h => absurd h (by decide)) (fun h => absurd h (by decide)) (fun h => absurd h (by decide)) (fun _ => allLt7 (p := fun j => ∃ s, depB _ s 7 j = true) ⟨3, rfl⟩ ⟨3, rfl⟩ ⟨2, rfl⟩ ⟨1, rfl⟩ ⟨3, rfl⟩ ⟨2, rfl⟩ ⟨1, rfl⟩))) rfl (fun _ => rfl) (by kernel_rfl) (fun _ => rfl) ?_ (fun env133 F_138 l_139 hphi => ?_)
          ·skip
           refine .cons (fun L env133 F_140 l_141 hL hdn hup hphi => ⟨[(24, (.int .i64 s129))], fun S hS hV => (.cons (hS _ _ rfl) (Sub.nil _)), ?_⟩) ?_
           ·skip
            refine .move rfl rfl ?_
            exact .finV rfl rfl (Fz.le_refl _)
           refine .cons (fun L env133 F_142 l_143 hL hdn hup hphi => ⟨[(20, (.pointer (some ⟨b109, 0, none⟩)))], fun S hS hV => (.cons (hS _ _ rfl) (Sub.nil _)), ?_⟩) ?_
           ·skip
            refine .fieldAddr rfl Try.underlying31 rfl Try.sizeOf29 rfl ?_
            exact .finV rfl rfl (Fz.le_refl _)
           refine .cons (fun L env133 F_144 l_145 hL hdn hup hphi => ⟨[(133, (.int .i64 s129)), (134, (.pointer (some ⟨b109, 0 + 8, none⟩)))], fun S hS hV => (.cons (hV 0 133 _ (hdn 1 0 rfl) rfl rfl) (.cons (hV 1 134 _ (hdn 1 1 rfl) rfl rfl) (Sub.nil _))), ?_⟩) ?_
           ·skip
            refine .indexAddrA rfl Try.underlying29 Try.sizeOf3 rfl rfl hj135 ?_
            exact .finV rfl rfl (Fz.le_refl _)
           refine .cons (fun L env133 F_146 l_147 hL hdn hup hphi => ⟨[(135, (.pointer (some ⟨b109, 0 + 8 + j134 * 1, none⟩)))], fun S hS hV => (.cons (hV 2 135 _ (hdn 1 2 rfl) rfl rfl) (Sub.nil _)), ?_⟩) ?_
           ·skip
            refine .loadO rfl Try.isAgg3 rfl (i := 0) rfl (allLt8 (p := fun j134 => ((cApiCask r_108.1))[0 + 8 + j134 * 1]? = some (.int .i64 (r_108.1.Woods j134))) rfl rfl rfl rfl rfl rfl rfl rfl _ (idxO_some hj135).2.2.2) ?_
            exact .finV rfl rfl (Fz.le_refl _)
           refine .cons (fun L env133 F_148 l_149 hL hdn hup hphi => ⟨[(24, (.int .i64 s129))], fun S hS hV => (.cons (hS _ _ rfl) (Sub.nil _)), ?_⟩) ?_
           ·skip
            refine .move rfl rfl ?_
            exact .finV rfl rfl (Fz.le_refl _)
           refine .cons (fun L env133 F_150 l_151 hL hdn hup hphi => ⟨[(17, (.pointer (some ⟨b100, 0, none⟩))), (137, (.int .i64 s129))], fun S hS hV => (.cons (hS _ _ rfl) (.cons (hV 4 137 _ (hdn 1 4 rfl) rfl rfl) (Sub.nil _))), ?_⟩) ?_
           ·skip
            refine .indexAddrA rfl Try.underlying29 Try.sizeOf3 rfl rfl hj137 ?_
            exact .finV rfl rfl (Fz.le_refl _)
           refine .cons (fun L env133 F_152 l_153 hL hdn hup hphi => ⟨[(138, (.pointer (some ⟨b100, 0 + j136 * 1, none⟩)))], fun S hS hV => (.cons (hV 5 138 _ (hdn 1 5 rfl) rfl rfl) (Sub.nil _)), ?_⟩) ?_
           ·skip
            refine .loadO rfl Try.isAgg3 rfl (i := 2) rfl (allLt8 (p := fun j136 => (((cArr 8 (cInt .i64)) r_99.2.2.1))[0 + j136 * 1]? = some (.int .i64 (r_99.2.2.1 j136))) rfl rfl rfl rfl rfl rfl rfl rfl _ (idxO_some hj137).2.2.2) ?_
            exact .finV rfl rfl (Fz.le_refl _)
           exact .nil
          refine .norm (S' := [(0, (.slice p2 l_1.length k3)), (10, (.int .i64 r_21.2.1)), (14, (.int .i64 x88)), (17, (.pointer (some ⟨b100, 0, none⟩))), (18, (.pointer (some ⟨b101, 0, none⟩))), (20, (.pointer (some ⟨b109, 0, none⟩))), (22, (.slice p113 r_112.1.length k114)), (24, (.int .i64 s129)), (133, (.int .i64 s129)), (134, (.pointer (some ⟨b109, 0 + 8, none⟩))), (135, (.pointer (some ⟨b109, 0 + 8 + j134 * 1, none⟩))), (136, (.int .i64 (r_108.1.Woods j134))), (137, (.int .i64 s129)), (138, (.pointer (some ⟨b100, 0 + j136 * 1, none⟩))), (139, (.int .i64 (r_99.2.2.1 j136)))]) (.cons (k := 0) rfl (.cons (k := 10) rfl (.cons (k := 14) rfl (.cons (k := 17) rfl (.cons (k := 18) rfl (.cons (k := 20) rfl (.cons (k := 22) rfl (.cons (k := 24) rfl (.cons (k := 133) rfl (.cons (k := 134) rfl (.cons (k := 135) rfl (.cons (k := 136) rfl (.cons (k := 137) rfl (.cons (k := 138) rfl (.cons (k := 139) rfl (.nil _)))))))))))))))) (rfl : _ = [pt b109 (.cells (cApiCask r_108.1).toArray 31), pt b101 (.cells ((cArr 8 (cInt .i64)) r_99.2.2.2.1).toArray 29), pt b100 (.cells ((cArr 8 (cInt .i64)) r_99.2.2.1).toArray 29), ownSl 1 (Ex (cInt .i64)) F_77 3 p79 k80 b76, R]) ?_
          refine .gtr rfl rfl rfl ?_
          refine .nil ?_
          refine .code ?_
          refine .cond rfl (fun hb154 => ?_) (fun hb154 => ?_)
          ·skip
           refine .seq ?_
           refine .region ?_
           refine .assign rfl rfl ?_
           refine .nil ?_
           refine .code ?_
           refine .drop 3 ?_
           refine .drop 2 ?_
           refine .drop 1 ?_
           refine .drop 0 ?_
           refine .retQ (LPost.ret fun a w h => ⟨rfl, F_138, (Fz.le_trans l_131 l_139), h.1.sub (.cons (k := 8) rfl (.nil _)), h.2⟩)
          ·skip
           refine .skip ?_
           refine .block ?_
           refine .code ?_
           refine .region ?_
           refine .move rfl rfl ?_
           refine .add rfl rfl rfl ?_
           refine .assignL rfl rfl (fun i155 e156 => ?_)
           refine .nil ?_
           exact .nil (LPost.norm fun a w h => ⟨F_138, (Fz.le_trans l_131 l_139), h.1.sub (.cons (k := 0) rfl (.cons (k := 10) rfl (.cons (k := 14) rfl (.cons (k := 17) rfl (.cons (k := 18) rfl (.cons (k := 20) rfl (.cons (k := 22) rfl (.cons (k := 24) rfl (.nil _))))))))), h.2⟩)
         ·skip
          refine .exitOut rfl (LPost.exit fun a w h => ⟨rfl, F_130, l_131, h.1.sub (.cons (k := 0) rfl (.cons (k := 10) rfl (.cons (k := 14) rfl (.cons (k := 18) rfl (.cons (k := 20) rfl (.cons (k := 22) rfl (.nil _))))))), h.2⟩)
        ·intro b157 hb0 hk e a w hD
         rcases b157 with b157 | b157
         ·skip
          obtain ⟨rfl, F_158, l_159, hA⟩ := hD
          refine interp_exit rfl (GE.app ?_ hk a w hA)
          refine .code ?_
          refine .seq ?_
          refine .seq ?_
          refine .region ?_
          refine .assign rfl rfl ?_
          refine .nil ?_
          refine .code ?_
          refine .block ?_
          refine .keep (.cons (k := 0) rfl (.cons (k := 10) rfl (.cons (k := 14) rfl (.cons (k := 18) rfl (.cons (k := 20) rfl (.cons (k := 22) rfl (.cons (k := 25) rfl (.nil _)))))))) ?_
          refine .loop (fun (s162 : Int) a w => ∃ (F_163 : Fz), F_158 ≤ F_163 ∧ Hd 212 [] [(0, (.slice p2 l_1.length k3)), (10, (.int .i64 r_21.2.1)), (14, (.int .i64 x88)), (18, (.pointer (some ⟨b101, 0, none⟩))), (20, (.pointer (some ⟨b109, 0, none⟩))), (22, (.slice p113 r_112.1.length k114)), (25, (.int .i64 s162))] F_163 [pt b109 (.cells (cApiCask r_108.1).toArray 31), pt b101 (.cells ((cArr 8 (cInt .i64)) r_99.2.2.2.1).toArray 29), pt b100 (.cells ((cArr 8 (cInt .i64)) r_99.2.2.1).toArray 29), ownSl 1 (Ex (cInt .i64)) F_77 3 p79 k80 b76, R] a w) (fun b0 e a w => match b0 with | .inl b190 => e = .exit 4 ∧ ∃ (F_191 : Fz), F_158 ≤ F_191 ∧ Hd 212 [] [(0, (.slice p2 l_1.length k3)), (10, (.int .i64 r_21.2.1)), (14, (.int .i64 x88)), (22, (.slice p113 r_112.1.length k114))] F_191 [pt b109 (.cells (cApiCask r_108.1).toArray 31), pt b101 (.cells ((cArr 8 (cInt .i64)) r_99.2.2.2.1).toArray 29), pt b100 (.cells ((cArr 8 (cInt .i64)) r_99.2.2.1).toArray 29), ownSl 1 (Ex (cInt .i64)) F_77 3 p79 k80 b76, R] a w | .inr b190 => e = .ret ∧ ∃ (F_193 : Fz), F_158 ≤ F_193 ∧ Hd 212 [] [(8, (.bool b190))] F_193 [R] a w) ?_ ?_ ?_
          ·exact fun a w h => ⟨F_158, (Fz.le_refl _), h.1.sub (.cons (k := 0) rfl (.cons (k := 10) rfl (.cons (k := 14) rfl (.cons (k := 18) rfl (.cons (k := 20) rfl (.cons (k := 22) rfl (.cons (k := 25) rfl (.nil _)))))))), h.2⟩
          ·intro s162 ctl
           refine GC.ex (fun a w ⟨F_163, l_164, hA⟩ => ⟨_, hA, ?_⟩)
           unfold b_wormtublaw06_CaskDrops_3
           refine .seq ?_
           refine .seq ?_
           refine .region ?_
           refine .move rfl rfl ?_
           refine .lss rfl rfl rfl ?_
           refine .nil ?_
           refine .code ?_
           refine .cond rfl (fun hb165 => ?_) (fun hb165 => ?_)
           ·skip
            refine .skip ?_
            refine .code ?_
            refine .seq ?_
            refine .block ?_
            refine .seq ?_
            refine .keep (.cons (k := 0) rfl (.cons (k := 10) rfl (.cons (k := 14) rfl (.cons (k := 18) rfl (.cons (k := 20) rfl (.cons (k := 22) rfl (.cons (k := 25) rfl (.nil _)))))))) ?_
            refine .bind (fun j167 hj168 => ?_)
            refine .bind (fun j169 hj170 => ?_)
            refine .drawGD 7 0 (fun env166 => [((.int .i64 s162), fun _ => True), ((.pointer (some ⟨b109, 0 + 16, none⟩)), fun _ => True), ((.pointer (some ⟨b109, 0 + 16 + j167 * 1, none⟩)), fun _ => True), ((.int .i64 (r_108.1.Places j167)), fun _ => True), ((.int .i64 s162), fun _ => True), ((.pointer (some ⟨b101, 0 + j169 * 1, none⟩)), fun _ => True), ((.int .i64 (r_99.2.2.2.1 j169)), fun _ => True)]) (fun L env166 => [pt b109 (.cells (cApiCask r_108.1).toArray 31), pt b101 (.cells ((cArr 8 (cInt .i64)) r_99.2.2.2.1).toArray 29), pt b100 (.cells ((cArr 8 (cInt .i64)) r_99.2.2.1).toArray 29), ownSl 1 (Ex (cInt .i64)) F_77 3 p79 k80 b76, R]) mixedOK (by kernel_rfl) (deepN (k := 7) (n := 8) rfl (allLt8 (p := fun t => 7 ≤ t → ∀ j, j < t → ∃ s, depB _ s t j = true) (fun h => absurd h (by decide)) (fun h => absurd h (by decide)) (fun h => absurd h (by decide)) (fun h => absurd h (by decide)) (fun h => absurd h (by decide)) (fun h => absurd h (by decide)) (fun h => absurd h (by decide)) (fun _ => allLt7 (p := fun j => ∃ s, depB _ s 7 j = true) ⟨3, rfl⟩ ⟨3, rfl⟩ ⟨2, rfl⟩ ⟨1, rfl⟩ ⟨3, rfl⟩ ⟨2, rfl⟩ ⟨1, rfl⟩))) rfl (fun _ => rfl) (by kernel_rfl) (fun _ => rfl) ?_ (fun env166 F_171 l_172 hphi => ?_)
            ·skip
             refine .cons (fun L env166 F_173 l_174 hL hdn hup hphi => ⟨[(25, (.int .i64 s162))], fun S hS hV => (.cons (hS _ _ rfl) (Sub.nil _)), ?_⟩) ?_
             ·skip
              refine .move rfl rfl ?_
              exact .finV rfl rfl (Fz.le_refl _)
             refine .cons (fun L env166 F_175 l_176 hL hdn hup hphi => ⟨[(20, (.pointer (some ⟨b109, 0, none⟩)))], fun S hS hV => (.cons (hS _ _ rfl) (Sub.nil _)), ?_⟩) ?_
             ·skip
              refine .fieldAddr rfl Try.underlying31 rfl Try.sizeOf29 rfl ?_
              exact .finV rfl rfl (Fz.le_refl _)
             refine .cons (fun L env166 F_177 l_178 hL hdn hup hphi => ⟨[(145, (.int .i64 s162)), (146, (.pointer (some ⟨b109, 0 + 16, none⟩)))], fun S hS hV => (.cons (hV 0 145 _ (hdn 1 0 rfl) rfl rfl) (.cons (hV 1 146 _ (hdn 1 1 rfl) rfl rfl) (Sub.nil _))), ?_⟩) ?_
             ·skip
              refine .indexAddrA rfl Try.underlying29 Try.sizeOf3 rfl rfl hj168 ?_
              exact .finV rfl rfl (Fz.le_refl _)
             refine .cons (fun L env166 F_179 l_180 hL hdn hup hphi => ⟨[(147, (.pointer (some ⟨b109, 0 + 16 + j167 * 1, none⟩)))], fun S hS hV => (.cons (hV 2 147 _ (hdn 1 2 rfl) rfl rfl) (Sub.nil _)), ?_⟩) ?_
             ·skip
              refine .loadO rfl Try.isAgg3 rfl (i := 0) rfl (allLt8 (p := fun j167 => ((cApiCask r_108.1))[0 + 16 + j167 * 1]? = some (.int .i64 (r_108.1.Places j167))) rfl rfl rfl rfl rfl rfl rfl rfl _ (idxO_some hj168).2.2.2) ?_
              exact .finV rfl rfl (Fz.le_refl _)
             refine .cons (fun L env166 F_181 l_182 hL hdn hup hphi => ⟨[(25, (.int .i64 s162))], fun S hS hV => (.cons (hS _ _ rfl) (Sub.nil _)), ?_⟩) ?_
             ·skip
              refine .move rfl rfl ?_
              exact .finV rfl rfl (Fz.le_refl _)
             refine .cons (fun L env166 F_183 l_184 hL hdn hup hphi => ⟨[(18, (.pointer (some ⟨b101, 0, none⟩))), (149, (.int .i64 s162))], fun S hS hV => (.cons (hS _ _ rfl) (.cons (hV 4 149 _ (hdn 1 4 rfl) rfl rfl) (Sub.nil _))), ?_⟩) ?_
             ·skip
              refine .indexAddrA rfl Try.underlying29 Try.sizeOf3 rfl rfl hj170 ?_
              exact .finV rfl rfl (Fz.le_refl _)
             refine .cons (fun L env166 F_185 l_186 hL hdn hup hphi => ⟨[(150, (.pointer (some ⟨b101, 0 + j169 * 1, none⟩)))], fun S hS hV => (.cons (hV 5 150 _ (hdn 1 5 rfl) rfl rfl) (Sub.nil _)), ?_⟩) ?_
             ·skip
              refine .loadO rfl Try.isAgg3 rfl (i := 1) rfl (allLt8 (p := fun j169 => (((cArr 8 (cInt .i64)) r_99.2.2.2.1))[0 + j169 * 1]? = some (.int .i64 (r_99.2.2.2.1 j169))) rfl rfl rfl rfl rfl rfl rfl rfl _ (idxO_some hj170).2.2.2) ?_
              exact .finV rfl rfl (Fz.le_refl _)
             exact .nil
            refine .norm (S' := [(0, (.slice p2 l_1.length k3)), (10, (.int .i64 r_21.2.1)), (14, (.int .i64 x88)), (18, (.pointer (some ⟨b101, 0, none⟩))), (20, (.pointer (some ⟨b109, 0, none⟩))), (22, (.slice p113 r_112.1.length k114)), (25, (.int .i64 s162)), (145, (.int .i64 s162)), (146, (.pointer (some ⟨b109, 0 + 16, none⟩))), (147, (.pointer (some ⟨b109, 0 + 16 + j167 * 1, none⟩))), (148, (.int .i64 (r_108.1.Places j167))), (149, (.int .i64 s162)), (150, (.pointer (some ⟨b101, 0 + j169 * 1, none⟩))), (151, (.int .i64 (r_99.2.2.2.1 j169)))]) (.cons (k := 0) rfl (.cons (k := 10) rfl (.cons (k := 14) rfl (.cons (k := 18) rfl (.cons (k := 20) rfl (.cons (k := 22) rfl (.cons (k := 25) rfl (.cons (k := 145) rfl (.cons (k := 146) rfl (.cons (k := 147) rfl (.cons (k := 148) rfl (.cons (k := 149) rfl (.cons (k := 150) rfl (.cons (k := 151) rfl (.nil _))))))))))))))) (rfl : _ = [pt b109 (.cells (cApiCask r_108.1).toArray 31), pt b101 (.cells ((cArr 8 (cInt .i64)) r_99.2.2.2.1).toArray 29), pt b100 (.cells ((cArr 8 (cInt .i64)) r_99.2.2.1).toArray 29), ownSl 1 (Ex (cInt .i64)) F_77 3 p79 k80 b76, R]) ?_
            refine .gtr rfl rfl rfl ?_
            refine .nil ?_
            refine .code ?_
            refine .cond rfl (fun hb187 => ?_) (fun hb187 => ?_)
            ·skip
             refine .seq ?_
             refine .region ?_
             refine .assign rfl rfl ?_
             refine .nil ?_
             refine .code ?_
             refine .drop 3 ?_
             refine .drop 2 ?_
             refine .drop 1 ?_
             refine .drop 0 ?_
             refine .retQ (LPost.ret fun a w h => ⟨rfl, F_171, (Fz.le_trans l_164 l_172), h.1.sub (.cons (k := 8) rfl (.nil _)), h.2⟩)
            ·skip
             refine .skip ?_
             refine .block ?_
             refine .code ?_
             refine .region ?_
             refine .move rfl rfl ?_
             refine .add rfl rfl rfl ?_
             refine .assignL rfl rfl (fun i188 e189 => ?_)
             refine .nil ?_
             exact .nil (LPost.norm fun a w h => ⟨F_171, (Fz.le_trans l_164 l_172), h.1.sub (.cons (k := 0) rfl (.cons (k := 10) rfl (.cons (k := 14) rfl (.cons (k := 18) rfl (.cons (k := 20) rfl (.cons (k := 22) rfl (.cons (k := 25) rfl (.nil _)))))))), h.2⟩)
           ·skip
            refine .exitOut rfl (LPost.exit fun a w h => ⟨rfl, F_163, l_164, h.1.sub (.cons (k := 0) rfl (.cons (k := 10) rfl (.cons (k := 14) rfl (.cons (k := 22) rfl (.nil _))))), h.2⟩)
          ·intro b190 hb0 hk e a w hD
           rcases b190 with b190 | b190
           ·skip
            obtain ⟨rfl, F_191, l_192, hA⟩ := hD
            refine interp_exit rfl (GE.app ?_ hk a w hA)
            refine .code ?_
            refine .seq ?_
            refine .region ?_
            refine .assign rfl rfl ?_
            refine .nil ?_
            refine .code ?_
            refine .seq ?_
            refine .seq ?_
            refine .region ?_
            refine .assign rfl rfl ?_
            refine .nil ?_
            refine .code ?_
            refine .block ?_
            refine .keep (.cons (k := 0) rfl (.cons (k := 10) rfl (.cons (k := 14) rfl (.cons (k := 22) rfl (.cons (k := 26) rfl (.cons (k := 27) rfl (.nil _))))))) ?_
            refine .loop (fun (s195 : Bool × Int) a w => ∃ (F_196 : Fz), F_191 ≤ F_196 ∧ Hd 212 [] [(0, (.slice p2 l_1.length k3)), (10, (.int .i64 r_21.2.1)), (14, (.int .i64 x88)), (22, (.slice p113 r_112.1.length k114)), (26, (.bool s195.1)), (27, (.int .i64 s195.2))] F_196 [pt b109 (.cells (cApiCask r_108.1).toArray 31), pt b101 (.cells ((cArr 8 (cInt .i64)) r_99.2.2.2.1).toArray 29), pt b100 (.cells ((cArr 8 (cInt .i64)) r_99.2.2.1).toArray 29), ownSl 1 (Ex (cInt .i64)) F_77 3 p79 k80 b76, R] a w) (fun b0 e a w => match b0 with | .inl b700 => e = .exit 6 ∧ ∃ (F_701 : Fz), F_191 ≤ F_701 ∧ Hd 212 [] [(26, (.bool b700))] F_701 [pt b109 (.cells (cApiCask r_108.1).toArray 31), pt b101 (.cells ((cArr 8 (cInt .i64)) r_99.2.2.2.1).toArray 29), pt b100 (.cells ((cArr 8 (cInt .i64)) r_99.2.2.1).toArray 29), ownSl 1 (Ex (cInt .i64)) F_77 3 p79 k80 b76, R] a w | .inr b700 => e = .ret ∧ ∃ (F_703 : Fz), F_191 ≤ F_703 ∧ Hd 212 [] [(8, (.bool b700))] F_703 [R] a w) ?_ ?_ ?_
            ·exact fun a w h => ⟨F_191, (Fz.le_refl _), h.1.sub (.cons (k := 0) rfl (.cons (k := 10) rfl (.cons (k := 14) rfl (.cons (k := 22) rfl (.cons (k := 26) rfl (.cons (k := 27) rfl (.nil _))))))), h.2⟩
            ·intro s195 ctl
             refine GC.ex (fun a w ⟨F_196, l_197, hA⟩ => ⟨_, hA, ?_⟩)
             unfold b_wormtublaw06_CaskDrops_4
             refine .seq ?_
             refine .seq ?_
             refine .region ?_
             refine .move rfl rfl ?_
             refine .move rfl rfl ?_
             refine .lenS rfl rfl Try.underlying36 rfl ?_
             refine .lss rfl rfl rfl ?_
             refine .nil ?_
             refine .code ?_
             refine .cond rfl (fun hb198 => ?_) (fun hb198 => ?_)
             ·skip
              refine .skip ?_
              refine .code ?_
              refine .seq ?_
              refine .block ?_
              refine .seq ?_
              refine .region ?_
              refine .move rfl rfl ?_
              refine .move rfl rfl ?_
              refine .orM (b := s195.1) 7 167 (fun hb199 z214 => ?_) (fun hb210 => ?_) (fun z213 F_211 l_212 => ?_)
              ·skip
               refine .onH hb199 rfl rfl ?_
               refine .move rfl rfl ?_
               refine .onH hb199 rfl rfl ?_
               refine .move rfl rfl ?_
               refine .onH hb199 rfl rfl ?_
               refine .idx rfl Try.underlying36 Try.sizeOf3 (h115.mono (Fz.le_trans l_119 (Fz.le_trans l_123 (Fz.le_trans l_127 (Fz.le_trans l_159 (Fz.le_trans l_192 l_197)))))) rfl rfl (fun x200 b201 o202 T203 fr204 cs205 e206 hm207 hv208 => ?_)
               refine .onH hb199 rfl rfl ?_
               refine .loadF rfl Try.isAgg3 rfl hm207 (cell_of_take (k := 0) hv208 rfl) ?_
               refine .onH hb199 rfl rfl ?_
               refine .move rfl rfl ?_
               refine .onH hb199 rfl rfl ?_
               refine .eql rfl rfl rfl ?_
               refine .pickFH hb199 rfl rfl rfl ?_
               exact .finZ 7 rfl rfl (by kernel_rfl) (Fz.le_refl _)
              ·skip
               refine .offH hb210 rfl rfl rfl ?_
               refine .offH hb210 rfl rfl rfl ?_
               refine .offH hb210 rfl rfl rfl ?_
               refine .offH hb210 rfl rfl rfl ?_
               refine .offH hb210 rfl rfl rfl ?_
               refine .offH hb210 rfl rfl rfl ?_
               refine .pickTH hb210 rfl rfl rfl ?_
               exact .fin 7 rfl rfl (by kernel_rfl) (Fz.le_refl _)
              refine .assign rfl rfl ?_
              refine .nil ?_
              refine .code ?_
              refine .seq ?_
              refine .keep (.cons (k := 0) rfl (.cons (k := 10) rfl (.cons (k := 14) rfl (.cons (k := 22) rfl (.cons (k := 26) rfl (.cons (k := 27) rfl (.nil _))))))) ?_
              refine GC.join0 (σ := Bool) (fun j694 a w => ∃ (F_695 : Fz), F_211 ≤ F_695 ∧ Hd 212 [] [(0, (.slice p2 l_1.length k3)), (10, (.int .i64 r_21.2.1)), (14, (.int .i64 x88)), (22, (.slice p113 r_112.1.length k114)), (26, (.bool z213)), (27, (.int .i64 s195.2)), (207, (.bool j694))] F_695 [pt b109 (.cells (cApiCask r_108.1).toArray 31), pt b101 (.cells ((cArr 8 (cInt .i64)) r_99.2.2.2.1).toArray 29), pt b100 (.cells ((cArr 8 (cInt .i64)) r_99.2.2.1).toArray 29), ownSl 1 (Ex (cInt .i64)) F_77 3 p79 k80 b76, R] a w) (fun sj => ?_) (fun j694 hs0 => GE.ex (fun a w ⟨F_695, l_696, hA⟩ => ⟨_, hA, ?_⟩))
              ·skip
               refine .bind (fun x215 e221 => ?_)
               obtain ⟨b216, o217, T218, fr219, cs220, hm222, hv223, hq224⟩ := RepSl.idxE (h115.mono (Fz.le_trans l_119 (Fz.le_trans l_123 (Fz.le_trans l_127 (Fz.le_trans l_159 (Fz.le_trans l_192 (Fz.le_trans l_197 l_212))))))) e221
               refine .ite (fun hb225 => ?_) (fun hb225 => ?_)
               ·skip
                refine .draw ⟨1000000, 0, [], 0⟩ [(168, (.slice p113 r_112.1.length k114)), (169, (.int .i64 s195.2)), (170, (.pointer (some ⟨b216, o217, none⟩))), (171, (.int .i64 x215)), (172, (.bool (decide (x215 < 0)))), (173, (.bool (decide (x215 < 0)))), (174, undef), (175, undef), (176, undef), (177, undef), (178, undef), (179, undef), (180, (.bool true)), (181, (.bool true)), (182, undef), (183, undef), (184, undef), (185, undef), (186, undef), (187, undef), (188, undef), (189, undef), (190, undef), (191, (.bool true)), (192, (.bool true)), (193, undef), (194, undef), (195, undef), (196, undef), (197, undef), (198, undef), (199, undef), (200, undef), (201, undef), (202, undef), (203, undef), (204, undef), (205, undef), (206, undef), (207, (.bool true))] mixedOK (by kernel_rfl) (by kernel_rfl) rfl (by kernel_rfl) ?_ (fun F_226 b227 l_228 => ?_)
                ·skip
                 refine .cons (.mk 168 (.slice p113 r_112.1.length k114) [(22, (.slice p113 r_112.1.length k114))] rfl rfl rfl rfl (fun S hS hd => (.cons (hS _ _ rfl) (Sub.nil _))) (fun F_229 X l_230 => ?_)) ?_
                 ·skip
                  refine .move rfl rfl ?_
                  exact .fin1 (Fz.le_refl _)
                 refine .cons (.mk 169 (.int .i64 s195.2) [(27, (.int .i64 s195.2))] rfl rfl rfl rfl (fun S hS hd => (.cons (hS _ _ rfl) (Sub.nil _))) (fun F_231 X l_232 => ?_)) ?_
                 ·skip
                  refine .move rfl rfl ?_
                  exact .fin1 (Fz.le_refl _)
                 refine .cons (.mk 170 (.pointer (some ⟨b216, o217, none⟩)) [(168, (.slice p113 r_112.1.length k114)), (169, (.int .i64 s195.2))] rfl rfl rfl rfl (fun S hS hd => (.cons (hd.1 rfl rfl _ _ rfl) (.cons (hd.2.1 rfl rfl _ _ rfl) (Sub.nil _)))) (fun F_233 X l_234 => ?_)) ?_
                 ·skip
                  refine .idxQ rfl Try.underlying36 Try.sizeOf3 hq224 rfl rfl ?_
                  exact .fin1 (Fz.le_refl _)
                 refine .cons (.mk 171 (.int .i64 x215) [(170, (.pointer (some ⟨b216, o217, none⟩)))] rfl rfl rfl rfl (fun S hS hd => (.cons (hd.1 rfl rfl _ _ rfl) (Sub.nil _))) (fun F_235 X l_236 => ?_)) ?_
                 ·skip
                  refine .loadF rfl Try.isAgg3 rfl (l_236.mem _ _ hm222) (cell_of_take (k := 0) hv223 rfl) ?_
                  exact .fin1 (Fz.le_refl _)
                 refine .cons (.mk 172 (.bool (decide (x215 < 0))) [(171, (.int .i64 x215))] rfl rfl rfl rfl (fun S hS hd => (.cons (hd.1 rfl rfl _ _ rfl) (Sub.nil _))) (fun F_237 X l_238 => ?_)) ?_
                 ·skip
                  refine .lss rfl rfl rfl ?_
                  exact .fin1 (Fz.le_refl _)
                 refine .cons (.mk 173 (.bool (decide (x215 < 0))) [(172, (.bool (decide (x215 < 0))))] rfl rfl rfl rfl (fun S hS hd => (.cons (hd.1 rfl rfl _ _ rfl) (Sub.nil _))) (fun F_239 X l_240 => ?_)) ?_
                 ·skip
                  refine .move rfl rfl ?_
                  exact .fin1 (Fz.le_refl _)
                 refine .cons (.mk 174 undef [(22, (.slice p113 r_112.1.length k114)), (173, (.bool (decide (x215 < 0))))] rfl rfl rfl rfl (fun S hS hd => (.cons (hS _ _ rfl) (.cons (hd.1 rfl rfl _ _ rfl) (Sub.nil _)))) (fun F_241 X l_242 => ?_)) ?_
                 ·skip
                  refine .offH hb225 rfl rfl rfl ?_
                  exact .fin1 (Fz.le_refl _)
                 refine .cons (.mk 175 undef [(27, (.int .i64 s195.2)), (173, (.bool (decide (x215 < 0))))] rfl rfl rfl rfl (fun S hS hd => (.cons (hS _ _ rfl) (.cons (hd.1 rfl rfl _ _ rfl) (Sub.nil _)))) (fun F_243 X l_244 => ?_)) ?_
                 ·skip
                  refine .offH hb225 rfl rfl rfl ?_
                  exact .fin1 (Fz.le_refl _)
                 refine .cons (.mk 176 undef [(173, (.bool (decide (x215 < 0)))), (174, undef), (175, undef)] rfl rfl rfl rfl (fun S hS hd => (.cons (hd.2.2.1 rfl rfl _ _ rfl) (.cons (hd.1 rfl rfl _ _ rfl) (.cons (hd.2.1 rfl rfl _ _ rfl) (Sub.nil _))))) (fun F_245 X l_246 => ?_)) ?_
                 ·skip
                  refine .offH hb225 rfl rfl rfl ?_
                  exact .fin1 (Fz.le_refl _)
                 refine .cons (.mk 177 undef [(173, (.bool (decide (x215 < 0)))), (176, undef)] rfl rfl rfl rfl (fun S hS hd => (.cons (hd.2.1 rfl rfl _ _ rfl) (.cons (hd.1 rfl rfl _ _ rfl) (Sub.nil _)))) (fun F_247 X l_248 => ?_)) ?_
                 ·skip
                  refine .offH hb225 rfl rfl rfl ?_
                  exact .fin1 (Fz.le_refl _)
                 refine .cons (.mk 178 undef [(10, (.int .i64 r_21.2.1)), (173, (.bool (decide (x215 < 0))))] rfl rfl rfl rfl (fun S hS hd => (.cons (hS _ _ rfl) (.cons (hd.1 rfl rfl _ _ rfl) (Sub.nil _)))) (fun F_249 X l_250 => ?_)) ?_
                 ·skip
                  refine .offH hb225 rfl rfl rfl ?_
                  exact .fin1 (Fz.le_refl _)
                 refine .cons (.mk 179 undef [(173, (.bool (decide (x215 < 0)))), (177, undef), (178, undef)] rfl rfl rfl rfl (fun S hS hd => (.cons (hd.2.2.1 rfl rfl _ _ rfl) (.cons (hd.1 rfl rfl _ _ rfl) (.cons (hd.2.1 rfl rfl _ _ rfl) (Sub.nil _))))) (fun F_251 X l_252 => ?_)) ?_
                 ·skip
                  refine .offH hb225 rfl rfl rfl ?_
                  exact .fin1 (Fz.le_refl _)
                 refine .cons (.mk 180 (.bool true) [(173, (.bool (decide (x215 < 0)))), (179, undef)] rfl rfl rfl rfl (fun S hS hd => (.cons (hd.1 rfl rfl _ _ rfl) (.cons (hd.2.1 rfl rfl _ _ rfl) (Sub.nil _)))) (fun F_253 X l_254 => ?_)) ?_
                 ·skip
                  refine .pickTH hb225  rfl rfl rfl ?_
                  exact .fin1 (Fz.le_refl _)
                 refine .cons (.mk 181 (.bool true) [(180, (.bool true))] rfl rfl rfl rfl (fun S hS hd => (.cons (hd.1 rfl rfl _ _ rfl) (Sub.nil _))) (fun F_255 X l_256 => ?_)) ?_
                 ·skip
                  refine .move rfl rfl ?_
                  exact .fin1 (Fz.le_refl _)
                 refine .cons (.mk 182 undef [(0, (.slice p2 l_1.length k3)), (181, (.bool true))] rfl rfl rfl rfl (fun S hS hd => (.cons (hS _ _ rfl) (.cons (hd.1 rfl rfl _ _ rfl) (Sub.nil _)))) (fun F_257 X l_258 => ?_)) ?_
                 ·skip
                  refine .off rfl rfl rfl rfl ?_
                  exact .fin1 (Fz.le_refl _)
                 refine .cons (.mk 183 undef [(22, (.slice p113 r_112.1.length k114)), (181, (.bool true))] rfl rfl rfl rfl (fun S hS hd => (.cons (hS _ _ rfl) (.cons (hd.1 rfl rfl _ _ rfl) (Sub.nil _)))) (fun F_259 X l_260 => ?_)) ?_
                 ·skip
                  refine .off rfl rfl rfl rfl ?_
                  exact .fin1 (Fz.le_refl _)
                 refine .cons (.mk 184 undef [(27, (.int .i64 s195.2)), (181, (.bool true))] rfl rfl rfl rfl (fun S hS hd => (.cons (hS _ _ rfl) (.cons (hd.1 rfl rfl _ _ rfl) (Sub.nil _)))) (fun F_261 X l_262 => ?_)) ?_
                 ·skip
                  refine .off rfl rfl rfl rfl ?_
                  exact .fin1 (Fz.le_refl _)
                 refine .cons (.mk 185 undef [(181, (.bool true)), (183, undef), (184, undef)] rfl rfl rfl rfl (fun S hS hd => (.cons (hd.2.2.1 rfl rfl _ _ rfl) (.cons (hd.1 rfl rfl _ _ rfl) (.cons (hd.2.1 rfl rfl _ _ rfl) (Sub.nil _))))) (fun F_263 X l_264 => ?_)) ?_
                 ·skip
                  refine .off rfl rfl rfl rfl ?_
                  exact .fin1 (Fz.le_refl _)
                 refine .cons (.mk 186 undef [(181, (.bool true)), (185, undef)] rfl rfl rfl rfl (fun S hS hd => (.cons (hd.2.1 rfl rfl _ _ rfl) (.cons (hd.1 rfl rfl _ _ rfl) (Sub.nil _)))) (fun F_265 X l_266 => ?_)) ?_
                 ·skip
                  refine .off rfl rfl rfl rfl ?_
                  exact .fin1 (Fz.le_refl _)
                 refine .cons (.mk 187 undef [(181, (.bool true)), (182, undef), (186, undef)] rfl rfl rfl rfl (fun S hS hd => (.cons (hd.2.2.1 rfl rfl _ _ rfl) (.cons (hd.1 rfl rfl _ _ rfl) (.cons (hd.2.1 rfl rfl _ _ rfl) (Sub.nil _))))) (fun F_267 X l_268 => ?_)) ?_
                 ·skip
                  refine .off rfl rfl rfl rfl ?_
                  exact .fin1 (Fz.le_refl _)
                 refine .cons (.mk 188 undef [(181, (.bool true)), (187, undef)] rfl rfl rfl rfl (fun S hS hd => (.cons (hd.2.1 rfl rfl _ _ rfl) (.cons (hd.1 rfl rfl _ _ rfl) (Sub.nil _)))) (fun F_269 X l_270 => ?_)) ?_
                 ·skip
                  refine .off rfl rfl rfl rfl ?_
                  exact .fin1 (Fz.le_refl _)
                 refine .cons (.mk 189 undef [(181, (.bool true)), (188, undef)] rfl rfl rfl rfl (fun S hS hd => (.cons (hd.2.1 rfl rfl _ _ rfl) (.cons (hd.1 rfl rfl _ _ rfl) (Sub.nil _)))) (fun F_271 X l_272 => ?_)) ?_
                 ·skip
                  refine .off rfl rfl rfl rfl ?_
                  exact .fin1 (Fz.le_refl _)
                 refine .cons (.mk 190 undef [(181, (.bool true)), (189, undef)] rfl rfl rfl rfl (fun S hS hd => (.cons (hd.2.1 rfl rfl _ _ rfl) (.cons (hd.1 rfl rfl _ _ rfl) (Sub.nil _)))) (fun F_273 X l_274 => ?_)) ?_
                 ·skip
                  refine .off rfl rfl rfl rfl ?_
                  exact .fin1 (Fz.le_refl _)
                 refine .cons (.mk 191 (.bool true) [(181, (.bool true)), (190, undef)] rfl rfl rfl rfl (fun S hS hd => (.cons (hd.1 rfl rfl _ _ rfl) (.cons (hd.2.1 rfl rfl _ _ rfl) (Sub.nil _)))) (fun F_275 X l_276 => ?_)) ?_
                 ·skip
                  refine .pickT  rfl rfl rfl ?_
                  exact .fin1 (Fz.le_refl _)
                 refine .cons (.mk 192 (.bool true) [(191, (.bool true))] rfl rfl rfl rfl (fun S hS hd => (.cons (hd.1 rfl rfl _ _ rfl) (Sub.nil _))) (fun F_277 X l_278 => ?_)) ?_
                 ·skip
                  refine .move rfl rfl ?_
                  exact .fin1 (Fz.le_refl _)
                 refine .cons (.mk 193 undef [(27, (.int .i64 s195.2)), (192, (.bool true))] rfl rfl rfl rfl (fun S hS hd => (.cons (hS _ _ rfl) (.cons (hd.1 rfl rfl _ _ rfl) (Sub.nil _)))) (fun F_279 X l_280 => ?_)) ?_
                 ·skip
                  refine .off rfl rfl rfl rfl ?_
                  exact .fin1 (Fz.le_refl _)
                 refine .cons (.mk 194 undef [(192, (.bool true)), (193, undef)] rfl rfl rfl rfl (fun S hS hd => (.cons (hd.2.1 rfl rfl _ _ rfl) (.cons (hd.1 rfl rfl _ _ rfl) (Sub.nil _)))) (fun F_281 X l_282 => ?_)) ?_
                 ·skip
                  refine .off rfl rfl rfl rfl ?_
                  exact .fin1 (Fz.le_refl _)
                 refine .cons (.mk 195 undef [(192, (.bool true)), (194, undef)] rfl rfl rfl rfl (fun S hS hd => (.cons (hd.2.1 rfl rfl _ _ rfl) (.cons (hd.1 rfl rfl _ _ rfl) (Sub.nil _)))) (fun F_283 X l_284 => ?_)) ?_
                 ·skip
                  refine .off rfl rfl rfl rfl ?_
                  exact .fin1 (Fz.le_refl _)
                 refine .cons (.mk 196 undef [(22, (.slice p113 r_112.1.length k114)), (195, undef)] rfl rfl rfl rfl (fun S hS hd => (.cons (hS _ _ rfl) (.cons (hd.1 rfl rfl _ _ rfl) (Sub.nil _)))) (fun F_285 X l_286 => ?_)) ?_
                 ·skip
                  refine .off rfl rfl rfl rfl ?_
                  exact .fin1 (Fz.le_refl _)
                 refine .cons (.mk 197 undef [(27, (.int .i64 s195.2)), (195, undef)] rfl rfl rfl rfl (fun S hS hd => (.cons (hS _ _ rfl) (.cons (hd.1 rfl rfl _ _ rfl) (Sub.nil _)))) (fun F_287 X l_288 => ?_)) ?_
                 ·skip
                  refine .off rfl rfl rfl rfl ?_
                  exact .fin1 (Fz.le_refl _)
                 refine .cons (.mk 198 undef [(195, undef), (196, undef), (197, undef)] rfl rfl rfl rfl (fun S hS hd => (.cons (hd.2.2.1 rfl rfl _ _ rfl) (.cons (hd.1 rfl rfl _ _ rfl) (.cons (hd.2.1 rfl rfl _ _ rfl) (Sub.nil _))))) (fun F_289 X l_290 => ?_)) ?_
                 ·skip
                  refine .off rfl rfl rfl rfl ?_
                  exact .fin1 (Fz.le_refl _)
                 refine .cons (.mk 199 undef [(195, undef), (198, undef)] rfl rfl rfl rfl (fun S hS hd => (.cons (hd.2.1 rfl rfl _ _ rfl) (.cons (hd.1 rfl rfl _ _ rfl) (Sub.nil _)))) (fun F_291 X l_292 => ?_)) ?_
                 ·skip
                  refine .off rfl rfl rfl rfl ?_
                  exact .fin1 (Fz.le_refl _)
                 refine .cons (.mk 200 undef [(22, (.slice p113 r_112.1.length k114)), (195, undef)] rfl rfl rfl rfl (fun S hS hd => (.cons (hS _ _ rfl) (.cons (hd.1 rfl rfl _ _ rfl) (Sub.nil _)))) (fun F_293 X l_294 => ?_)) ?_
                 ·skip
                  refine .off rfl rfl rfl rfl ?_
                  exact .fin1 (Fz.le_refl _)
                 refine .cons (.mk 201 undef [(27, (.int .i64 s195.2)), (195, undef)] rfl rfl rfl rfl (fun S hS hd => (.cons (hS _ _ rfl) (.cons (hd.1 rfl rfl _ _ rfl) (Sub.nil _)))) (fun F_295 X l_296 => ?_)) ?_
                 ·skip
                  refine .off rfl rfl rfl rfl ?_
                  exact .fin1 (Fz.le_refl _)
                 refine .cons (.mk 202 undef [(195, undef), (201, undef)] rfl rfl rfl rfl (fun S hS hd => (.cons (hd.2.1 rfl rfl _ _ rfl) (.cons (hd.1 rfl rfl _ _ rfl) (Sub.nil _)))) (fun F_297 X l_298 => ?_)) ?_
                 ·skip
                  refine .off rfl rfl rfl rfl ?_
                  exact .fin1 (Fz.le_refl _)
                 refine .cons (.mk 203 undef [(195, undef), (200, undef), (202, undef)] rfl rfl rfl rfl (fun S hS hd => (.cons (hd.2.2.1 rfl rfl _ _ rfl) (.cons (hd.1 rfl rfl _ _ rfl) (.cons (hd.2.1 rfl rfl _ _ rfl) (Sub.nil _))))) (fun F_299 X l_300 => ?_)) ?_
                 ·skip
                  refine .off rfl rfl rfl rfl ?_
                  exact .fin1 (Fz.le_refl _)
                 refine .cons (.mk 204 undef [(195, undef), (203, undef)] rfl rfl rfl rfl (fun S hS hd => (.cons (hd.2.1 rfl rfl _ _ rfl) (.cons (hd.1 rfl rfl _ _ rfl) (Sub.nil _)))) (fun F_301 X l_302 => ?_)) ?_
                 ·skip
                  refine .off rfl rfl rfl rfl ?_
                  exact .fin1 (Fz.le_refl _)
                 refine .cons (.mk 205 undef [(195, undef), (199, undef), (204, undef)] rfl rfl rfl rfl (fun S hS hd => (.cons (hd.2.2.1 rfl rfl _ _ rfl) (.cons (hd.1 rfl rfl _ _ rfl) (.cons (hd.2.1 rfl rfl _ _ rfl) (Sub.nil _))))) (fun F_303 X l_304 => ?_)) ?_
                 ·skip
                  refine .off rfl rfl rfl rfl ?_
                  exact .fin1 (Fz.le_refl _)
                 refine .cons (.mk 206 undef [(192, (.bool true)), (195, undef), (205, undef)] rfl rfl rfl rfl (fun S hS hd => (.cons (hd.2.2.1 rfl rfl _ _ rfl) (.cons (hd.1 rfl rfl _ _ rfl) (.cons (hd.2.1 rfl rfl _ _ rfl) (Sub.nil _))))) (fun F_305 X l_306 => ?_)) ?_
                 ·skip
                  refine .off rfl rfl rfl rfl ?_
                  exact .fin1 (Fz.le_refl _)
                 refine .cons (.mk 207 (.bool true) [(192, (.bool true)), (206, undef)] rfl rfl rfl rfl (fun S hS hd => (.cons (hd.1 rfl rfl _ _ rfl) (.cons (hd.2.1 rfl rfl _ _ rfl) (Sub.nil _)))) (fun F_307 X l_308 => ?_)) ?_
                 ·skip
                  refine .pickT  rfl rfl rfl ?_
                  exact .fin1 (Fz.le_refl _)
                 exact .nil
                refine .nil ?_
                exact .nil fun e a w h => by cases e; exact ⟨rfl, ⟨F_226, l_228, h.1.sub (.cons (k := 0) rfl (.cons (k := 10) rfl (.cons (k := 14) rfl (.cons (k := 22) rfl (.cons (k := 26) rfl (.cons (k := 27) rfl (.cons (k := 207) rfl (.nil _)))))))), h.2⟩⟩
               ·skip
                refine .bind (fun x309 e315 => ?_)
                obtain ⟨b310, o311, T312, fr313, cs314, hm316, hv317, hq318⟩ := RepSl.idxE (h115.mono (Fz.le_trans l_119 (Fz.le_trans l_123 (Fz.le_trans l_127 (Fz.le_trans l_159 (Fz.le_trans l_192 (Fz.le_trans l_197 l_212))))))) e315
                refine .ite (fun hb319 => ?_) (fun hb319 => ?_)
                ·skip
                 refine .draw ⟨1000000, 0, [], 0⟩ [(168, (.slice p113 r_112.1.length k114)), (169, (.int .i64 s195.2)), (170, (.pointer (some ⟨b216, o217, none⟩))), (171, (.int .i64 x215)), (172, (.bool (decide (x215 < 0)))), (173, (.bool (decide (x215 < 0)))), (174, (.slice p113 r_112.1.length k114)), (175, (.int .i64 s195.2)), (176, (.pointer (some ⟨b310, o311, none⟩))), (177, (.int .i64 x309)), (178, (.int .i64 r_21.2.1)), (179, (.bool (decide (x309 ≥ r_21.2.1)))), (180, (.bool (decide (x309 ≥ r_21.2.1)))), (181, (.bool (decide (x309 ≥ r_21.2.1)))), (182, undef), (183, undef), (184, undef), (185, undef), (186, undef), (187, undef), (188, undef), (189, undef), (190, undef), (191, (.bool true)), (192, (.bool true)), (193, undef), (194, undef), (195, undef), (196, undef), (197, undef), (198, undef), (199, undef), (200, undef), (201, undef), (202, undef), (203, undef), (204, undef), (205, undef), (206, undef), (207, (.bool true))] mixedOK (by kernel_rfl) (by kernel_rfl) rfl (by kernel_rfl) ?_ (fun F_320 b321 l_322 => ?_)
                 ·skip
                  refine .cons (.mk 168 (.slice p113 r_112.1.length k114) [(22, (.slice p113 r_112.1.length k114))] rfl rfl rfl rfl (fun S hS hd => (.cons (hS _ _ rfl) (Sub.nil _))) (fun F_323 X l_324 => ?_)) ?_
                  ·skip
                   refine .move rfl rfl ?_
                   exact .fin1 (Fz.le_refl _)
                  refine .cons (.mk 169 (.int .i64 s195.2) [(27, (.int .i64 s195.2))] rfl rfl rfl rfl (fun S hS hd => (.cons (hS _ _ rfl) (Sub.nil _))) (fun F_325 X l_326 => ?_)) ?_
                  ·skip
                   refine .move rfl rfl ?_
                   exact .fin1 (Fz.le_refl _)
                  refine .cons (.mk 170 (.pointer (some ⟨b216, o217, none⟩)) [(168, (.slice p113 r_112.1.length k114)), (169, (.int .i64 s195.2))] rfl rfl rfl rfl (fun S hS hd => (.cons (hd.1 rfl rfl _ _ rfl) (.cons (hd.2.1 rfl rfl _ _ rfl) (Sub.nil _)))) (fun F_327 X l_328 => ?_)) ?_
                  ·skip
                   refine .idxQ rfl Try.underlying36 Try.sizeOf3 hq224 rfl rfl ?_
                   exact .fin1 (Fz.le_refl _)
                  refine .cons (.mk 171 (.int .i64 x215) [(170, (.pointer (some ⟨b216, o217, none⟩)))] rfl rfl rfl rfl (fun S hS hd => (.cons (hd.1 rfl rfl _ _ rfl) (Sub.nil _))) (fun F_329 X l_330 => ?_)) ?_
                  ·skip
                   refine .loadF rfl Try.isAgg3 rfl (l_330.mem _ _ hm222) (cell_of_take (k := 0) hv223 rfl) ?_
                   exact .fin1 (Fz.le_refl _)
                  refine .cons (.mk 172 (.bool (decide (x215 < 0))) [(171, (.int .i64 x215))] rfl rfl rfl rfl (fun S hS hd => (.cons (hd.1 rfl rfl _ _ rfl) (Sub.nil _))) (fun F_331 X l_332 => ?_)) ?_
                  ·skip
                   refine .lss rfl rfl rfl ?_
                   exact .fin1 (Fz.le_refl _)
                  refine .cons (.mk 173 (.bool (decide (x215 < 0))) [(172, (.bool (decide (x215 < 0))))] rfl rfl rfl rfl (fun S hS hd => (.cons (hd.1 rfl rfl _ _ rfl) (Sub.nil _))) (fun F_333 X l_334 => ?_)) ?_
                  ·skip
                   refine .move rfl rfl ?_
                   exact .fin1 (Fz.le_refl _)
                  refine .cons (.mk 174 (.slice p113 r_112.1.length k114) [(22, (.slice p113 r_112.1.length k114)), (173, (.bool (decide (x215 < 0))))] rfl rfl rfl rfl (fun S hS hd => (.cons (hS _ _ rfl) (.cons (hd.1 rfl rfl _ _ rfl) (Sub.nil _)))) (fun F_335 X l_336 => ?_)) ?_
                  ·skip
                   refine .onH hb225 rfl rfl ?_
                   refine .move rfl rfl ?_
                   exact .fin1 (Fz.le_refl _)
                  refine .cons (.mk 175 (.int .i64 s195.2) [(27, (.int .i64 s195.2)), (173, (.bool (decide (x215 < 0))))] rfl rfl rfl rfl (fun S hS hd => (.cons (hS _ _ rfl) (.cons (hd.1 rfl rfl _ _ rfl) (Sub.nil _)))) (fun F_337 X l_338 => ?_)) ?_
                  ·skip
                   refine .onH hb225 rfl rfl ?_
                   refine .move rfl rfl ?_
                   exact .fin1 (Fz.le_refl _)
                  refine .cons (.mk 176 (.pointer (some ⟨b310, o311, none⟩)) [(173, (.bool (decide (x215 < 0)))), (174, (.slice p113 r_112.1.length k114)), (175, (.int .i64 s195.2))] rfl rfl rfl rfl (fun S hS hd => (.cons (hd.2.2.1 rfl rfl _ _ rfl) (.cons (hd.1 rfl rfl _ _ rfl) (.cons (hd.2.1 rfl rfl _ _ rfl) (Sub.nil _))))) (fun F_339 X l_340 => ?_)) ?_
                  ·skip
                   refine .onH hb225 rfl rfl ?_
                   refine .idxQ rfl Try.underlying36 Try.sizeOf3 hq318 rfl rfl ?_
                   exact .fin1 (Fz.le_refl _)
                  refine .cons (.mk 177 (.int .i64 x309) [(173, (.bool (decide (x215 < 0)))), (176, (.pointer (some ⟨b310, o311, none⟩)))] rfl rfl rfl rfl (fun S hS hd => (.cons (hd.2.1 rfl rfl _ _ rfl) (.cons (hd.1 rfl rfl _ _ rfl) (Sub.nil _)))) (fun F_341 X l_342 => ?_)) ?_
                  ·skip
                   refine .onH hb225 rfl rfl ?_
                   refine .loadF rfl Try.isAgg3 rfl (l_342.mem _ _ hm316) (cell_of_take (k := 0) hv317 rfl) ?_
                   exact .fin1 (Fz.le_refl _)
                  refine .cons (.mk 178 (.int .i64 r_21.2.1) [(10, (.int .i64 r_21.2.1)), (173, (.bool (decide (x215 < 0))))] rfl rfl rfl rfl (fun S hS hd => (.cons (hS _ _ rfl) (.cons (hd.1 rfl rfl _ _ rfl) (Sub.nil _)))) (fun F_343 X l_344 => ?_)) ?_
                  ·skip
                   refine .onH hb225 rfl rfl ?_
                   refine .move rfl rfl ?_
                   exact .fin1 (Fz.le_refl _)
                  refine .cons (.mk 179 (.bool (decide (x309 ≥ r_21.2.1))) [(173, (.bool (decide (x215 < 0)))), (177, (.int .i64 x309)), (178, (.int .i64 r_21.2.1))] rfl rfl rfl rfl (fun S hS hd => (.cons (hd.2.2.1 rfl rfl _ _ rfl) (.cons (hd.1 rfl rfl _ _ rfl) (.cons (hd.2.1 rfl rfl _ _ rfl) (Sub.nil _))))) (fun F_345 X l_346 => ?_)) ?_
                  ·skip
                   refine .onH hb225 rfl rfl ?_
                   refine .geq rfl rfl rfl ?_
                   exact .fin1 (Fz.le_refl _)
                  refine .cons (.mk 180 (.bool (decide (x309 ≥ r_21.2.1))) [(173, (.bool (decide (x215 < 0)))), (179, (.bool (decide (x309 ≥ r_21.2.1))))] rfl rfl rfl rfl (fun S hS hd => (.cons (hd.1 rfl rfl _ _ rfl) (.cons (hd.2.1 rfl rfl _ _ rfl) (Sub.nil _)))) (fun F_347 X l_348 => ?_)) ?_
                  ·skip
                   refine .pickFH hb225  rfl rfl rfl ?_
                   exact .fin1 (Fz.le_refl _)
                  refine .cons (.mk 181 (.bool (decide (x309 ≥ r_21.2.1))) [(180, (.bool (decide (x309 ≥ r_21.2.1))))] rfl rfl rfl rfl (fun S hS hd => (.cons (hd.1 rfl rfl _ _ rfl) (Sub.nil _))) (fun F_349 X l_350 => ?_)) ?_
                  ·skip
                   refine .move rfl rfl ?_
                   exact .fin1 (Fz.le_refl _)
                  refine .cons (.mk 182 undef [(0, (.slice p2 l_1.length k3)), (181, (.bool (decide (x309 ≥ r_21.2.1))))] rfl rfl rfl rfl (fun S hS hd => (.cons (hS _ _ rfl) (.cons (hd.1 rfl rfl _ _ rfl) (Sub.nil _)))) (fun F_351 X l_352 => ?_)) ?_
                  ·skip
                   refine .offH hb319 rfl rfl rfl ?_
                   exact .fin1 (Fz.le_refl _)
                  refine .cons (.mk 183 undef [(22, (.slice p113 r_112.1.length k114)), (181, (.bool (decide (x309 ≥ r_21.2.1))))] rfl rfl rfl rfl (fun S hS hd => (.cons (hS _ _ rfl) (.cons (hd.1 rfl rfl _ _ rfl) (Sub.nil _)))) (fun F_353 X l_354 => ?_)) ?_
                  ·skip
                   refine .offH hb319 rfl rfl rfl ?_
                   exact .fin1 (Fz.le_refl _)
                  refine .cons (.mk 184 undef [(27, (.int .i64 s195.2)), (181, (.bool (decide (x309 ≥ r_21.2.1))))] rfl rfl rfl rfl (fun S hS hd => (.cons (hS _ _ rfl) (.cons (hd.1 rfl rfl _ _ rfl) (Sub.nil _)))) (fun F_355 X l_356 => ?_)) ?_
                  ·skip
                   refine .offH hb319 rfl rfl rfl ?_
                   exact .fin1 (Fz.le_refl _)
                  refine .cons (.mk 185 undef [(181, (.bool (decide (x309 ≥ r_21.2.1)))), (183, undef), (184, undef)] rfl rfl rfl rfl (fun S hS hd => (.cons (hd.2.2.1 rfl rfl _ _ rfl) (.cons (hd.1 rfl rfl _ _ rfl) (.cons (hd.2.1 rfl rfl _ _ rfl) (Sub.nil _))))) (fun F_357 X l_358 => ?_)) ?_
                  ·skip
                   refine .offH hb319 rfl rfl rfl ?_
                   exact .fin1 (Fz.le_refl _)
                  refine .cons (.mk 186 undef [(181, (.bool (decide (x309 ≥ r_21.2.1)))), (185, undef)] rfl rfl rfl rfl (fun S hS hd => (.cons (hd.2.1 rfl rfl _ _ rfl) (.cons (hd.1 rfl rfl _ _ rfl) (Sub.nil _)))) (fun F_359 X l_360 => ?_)) ?_
                  ·skip
                   refine .offH hb319 rfl rfl rfl ?_
                   exact .fin1 (Fz.le_refl _)
                  refine .cons (.mk 187 undef [(181, (.bool (decide (x309 ≥ r_21.2.1)))), (182, undef), (186, undef)] rfl rfl rfl rfl (fun S hS hd => (.cons (hd.2.2.1 rfl rfl _ _ rfl) (.cons (hd.1 rfl rfl _ _ rfl) (.cons (hd.2.1 rfl rfl _ _ rfl) (Sub.nil _))))) (fun F_361 X l_362 => ?_)) ?_
                  ·skip
                   refine .offH hb319 rfl rfl rfl ?_
                   exact .fin1 (Fz.le_refl _)
                  refine .cons (.mk 188 undef [(181, (.bool (decide (x309 ≥ r_21.2.1)))), (187, undef)] rfl rfl rfl rfl (fun S hS hd => (.cons (hd.2.1 rfl rfl _ _ rfl) (.cons (hd.1 rfl rfl _ _ rfl) (Sub.nil _)))) (fun F_363 X l_364 => ?_)) ?_
                  ·skip
                   refine .offH hb319 rfl rfl rfl ?_
                   exact .fin1 (Fz.le_refl _)
                  refine .cons (.mk 189 undef [(181, (.bool (decide (x309 ≥ r_21.2.1)))), (188, undef)] rfl rfl rfl rfl (fun S hS hd => (.cons (hd.2.1 rfl rfl _ _ rfl) (.cons (hd.1 rfl rfl _ _ rfl) (Sub.nil _)))) (fun F_365 X l_366 => ?_)) ?_
                  ·skip
                   refine .offH hb319 rfl rfl rfl ?_
                   exact .fin1 (Fz.le_refl _)
                  refine .cons (.mk 190 undef [(181, (.bool (decide (x309 ≥ r_21.2.1)))), (189, undef)] rfl rfl rfl rfl (fun S hS hd => (.cons (hd.2.1 rfl rfl _ _ rfl) (.cons (hd.1 rfl rfl _ _ rfl) (Sub.nil _)))) (fun F_367 X l_368 => ?_)) ?_
                  ·skip
                   refine .offH hb319 rfl rfl rfl ?_
                   exact .fin1 (Fz.le_refl _)
                  refine .cons (.mk 191 (.bool true) [(181, (.bool (decide (x309 ≥ r_21.2.1)))), (190, undef)] rfl rfl rfl rfl (fun S hS hd => (.cons (hd.1 rfl rfl _ _ rfl) (.cons (hd.2.1 rfl rfl _ _ rfl) (Sub.nil _)))) (fun F_369 X l_370 => ?_)) ?_
                  ·skip
                   refine .pickTH hb319  rfl rfl rfl ?_
                   exact .fin1 (Fz.le_refl _)
                  refine .cons (.mk 192 (.bool true) [(191, (.bool true))] rfl rfl rfl rfl (fun S hS hd => (.cons (hd.1 rfl rfl _ _ rfl) (Sub.nil _))) (fun F_371 X l_372 => ?_)) ?_
                  ·skip
                   refine .move rfl rfl ?_
                   exact .fin1 (Fz.le_refl _)
                  refine .cons (.mk 193 undef [(27, (.int .i64 s195.2)), (192, (.bool true))] rfl rfl rfl rfl (fun S hS hd => (.cons (hS _ _ rfl) (.cons (hd.1 rfl rfl _ _ rfl) (Sub.nil _)))) (fun F_373 X l_374 => ?_)) ?_
                  ·skip
                   refine .off rfl rfl rfl rfl ?_
                   exact .fin1 (Fz.le_refl _)
                  refine .cons (.mk 194 undef [(192, (.bool true)), (193, undef)] rfl rfl rfl rfl (fun S hS hd => (.cons (hd.2.1 rfl rfl _ _ rfl) (.cons (hd.1 rfl rfl _ _ rfl) (Sub.nil _)))) (fun F_375 X l_376 => ?_)) ?_
                  ·skip
                   refine .off rfl rfl rfl rfl ?_
                   exact .fin1 (Fz.le_refl _)
                  refine .cons (.mk 195 undef [(192, (.bool true)), (194, undef)] rfl rfl rfl rfl (fun S hS hd => (.cons (hd.2.1 rfl rfl _ _ rfl) (.cons (hd.1 rfl rfl _ _ rfl) (Sub.nil _)))) (fun F_377 X l_378 => ?_)) ?_
                  ·skip
                   refine .off rfl rfl rfl rfl ?_
                   exact .fin1 (Fz.le_refl _)
                  refine .cons (.mk 196 undef [(22, (.slice p113 r_112.1.length k114)), (195, undef)] rfl rfl rfl rfl (fun S hS hd => (.cons (hS _ _ rfl) (.cons (hd.1 rfl rfl _ _ rfl) (Sub.nil _)))) (fun F_379 X l_380 => ?_)) ?_
                  ·skip
                   refine .off rfl rfl rfl rfl ?_
                   exact .fin1 (Fz.le_refl _)
                  refine .cons (.mk 197 undef [(27, (.int .i64 s195.2)), (195, undef)] rfl rfl rfl rfl (fun S hS hd => (.cons (hS _ _ rfl) (.cons (hd.1 rfl rfl _ _ rfl) (Sub.nil _)))) (fun F_381 X l_382 => ?_)) ?_
                  ·skip
                   refine .off rfl rfl rfl rfl ?_
                   exact .fin1 (Fz.le_refl _)
                  refine .cons (.mk 198 undef [(195, undef), (196, undef), (197, undef)] rfl rfl rfl rfl (fun S hS hd => (.cons (hd.2.2.1 rfl rfl _ _ rfl) (.cons (hd.1 rfl rfl _ _ rfl) (.cons (hd.2.1 rfl rfl _ _ rfl) (Sub.nil _))))) (fun F_383 X l_384 => ?_)) ?_
                  ·skip
                   refine .off rfl rfl rfl rfl ?_
                   exact .fin1 (Fz.le_refl _)
                  refine .cons (.mk 199 undef [(195, undef), (198, undef)] rfl rfl rfl rfl (fun S hS hd => (.cons (hd.2.1 rfl rfl _ _ rfl) (.cons (hd.1 rfl rfl _ _ rfl) (Sub.nil _)))) (fun F_385 X l_386 => ?_)) ?_
                  ·skip
                   refine .off rfl rfl rfl rfl ?_
                   exact .fin1 (Fz.le_refl _)
                  refine .cons (.mk 200 undef [(22, (.slice p113 r_112.1.length k114)), (195, undef)] rfl rfl rfl rfl (fun S hS hd => (.cons (hS _ _ rfl) (.cons (hd.1 rfl rfl _ _ rfl) (Sub.nil _)))) (fun F_387 X l_388 => ?_)) ?_
                  ·skip
                   refine .off rfl rfl rfl rfl ?_
                   exact .fin1 (Fz.le_refl _)
                  refine .cons (.mk 201 undef [(27, (.int .i64 s195.2)), (195, undef)] rfl rfl rfl rfl (fun S hS hd => (.cons (hS _ _ rfl) (.cons (hd.1 rfl rfl _ _ rfl) (Sub.nil _)))) (fun F_389 X l_390 => ?_)) ?_
                  ·skip
                   refine .off rfl rfl rfl rfl ?_
                   exact .fin1 (Fz.le_refl _)
                  refine .cons (.mk 202 undef [(195, undef), (201, undef)] rfl rfl rfl rfl (fun S hS hd => (.cons (hd.2.1 rfl rfl _ _ rfl) (.cons (hd.1 rfl rfl _ _ rfl) (Sub.nil _)))) (fun F_391 X l_392 => ?_)) ?_
                  ·skip
                   refine .off rfl rfl rfl rfl ?_
                   exact .fin1 (Fz.le_refl _)
                  refine .cons (.mk 203 undef [(195, undef), (200, undef), (202, undef)] rfl rfl rfl rfl (fun S hS hd => (.cons (hd.2.2.1 rfl rfl _ _ rfl) (.cons (hd.1 rfl rfl _ _ rfl) (.cons (hd.2.1 rfl rfl _ _ rfl) (Sub.nil _))))) (fun F_393 X l_394 => ?_)) ?_
                  ·skip
                   refine .off rfl rfl rfl rfl ?_
                   exact .fin1 (Fz.le_refl _)
                  refine .cons (.mk 204 undef [(195, undef), (203, undef)] rfl rfl rfl rfl (fun S hS hd => (.cons (hd.2.1 rfl rfl _ _ rfl) (.cons (hd.1 rfl rfl _ _ rfl) (Sub.nil _)))) (fun F_395 X l_396 => ?_)) ?_
                  ·skip
                   refine .off rfl rfl rfl rfl ?_
                   exact .fin1 (Fz.le_refl _)
                  refine .cons (.mk 205 undef [(195, undef), (199, undef), (204, undef)] rfl rfl rfl rfl (fun S hS hd => (.cons (hd.2.2.1 rfl rfl _ _ rfl) (.cons (hd.1 rfl rfl _ _ rfl) (.cons (hd.2.1 rfl rfl _ _ rfl) (Sub.nil _))))) (fun F_397 X l_398 => ?_)) ?_
                  ·skip
                   refine .off rfl rfl rfl rfl ?_
                   exact .fin1 (Fz.le_refl _)
                  refine .cons (.mk 206 undef [(192, (.bool true)), (195, undef), (205, undef)] rfl rfl rfl rfl (fun S hS hd => (.cons (hd.2.2.1 rfl rfl _ _ rfl) (.cons (hd.1 rfl rfl _ _ rfl) (.cons (hd.2.1 rfl rfl _ _ rfl) (Sub.nil _))))) (fun F_399 X l_400 => ?_)) ?_
                  ·skip
                   refine .off rfl rfl rfl rfl ?_
                   exact .fin1 (Fz.le_refl _)
                  refine .cons (.mk 207 (.bool true) [(192, (.bool true)), (206, undef)] rfl rfl rfl rfl (fun S hS hd => (.cons (hd.1 rfl rfl _ _ rfl) (.cons (hd.2.1 rfl rfl _ _ rfl) (Sub.nil _)))) (fun F_401 X l_402 => ?_)) ?_
                  ·skip
                   refine .pickT  rfl rfl rfl ?_
                   exact .fin1 (Fz.le_refl _)
                  exact .nil
                 refine .nil ?_
                 exact .nil fun e a w h => by cases e; exact ⟨rfl, ⟨F_320, l_322, h.1.sub (.cons (k := 0) rfl (.cons (k := 10) rfl (.cons (k := 14) rfl (.cons (k := 22) rfl (.cons (k := 26) rfl (.cons (k := 27) rfl (.cons (k := 207) rfl (.nil _)))))))), h.2⟩⟩
                ·skip
                 refine .bind (fun x403 e409 => ?_)
                 obtain ⟨b404, o405, T406, fr407, cs408, hm410, hv411, hq412⟩ := RepSl.idxE (h115.mono (Fz.le_trans l_119 (Fz.le_trans l_123 (Fz.le_trans l_127 (Fz.le_trans l_159 (Fz.le_trans l_192 (Fz.le_trans l_197 l_212))))))) e409
                 refine .bind (fun x413 e419 => ?_)
                 obtain ⟨b414, o415, T416, fr417, cs418, hm420, hv421, hq422⟩ := RepSl.idxE (h4.mono (Fz.le_trans l_14 (Fz.le_trans l_20 (Fz.le_trans l_32 (Fz.le_trans l_78 (Fz.le_trans l_98 (Fz.le_trans l_107 (Fz.le_trans l_111 (Fz.le_trans l_119 (Fz.le_trans l_123 (Fz.le_trans l_127 (Fz.le_trans l_159 (Fz.le_trans l_192 (Fz.le_trans l_197 l_212)))))))))))))) e419
                 refine .ite (fun hb423 => ?_) (fun hb423 => ?_)
                 ·skip
                  refine .draw ⟨1000000, 0, [], 0⟩ [(168, (.slice p113 r_112.1.length k114)), (169, (.int .i64 s195.2)), (170, (.pointer (some ⟨b216, o217, none⟩))), (171, (.int .i64 x215)), (172, (.bool (decide (x215 < 0)))), (173, (.bool (decide (x215 < 0)))), (174, (.slice p113 r_112.1.length k114)), (175, (.int .i64 s195.2)), (176, (.pointer (some ⟨b310, o311, none⟩))), (177, (.int .i64 x309)), (178, (.int .i64 r_21.2.1)), (179, (.bool (decide (x309 ≥ r_21.2.1)))), (180, (.bool (decide (x309 ≥ r_21.2.1)))), (181, (.bool (decide (x309 ≥ r_21.2.1)))), (182, (.slice p2 l_1.length k3)), (183, (.slice p113 r_112.1.length k114)), (184, (.int .i64 s195.2)), (185, (.pointer (some ⟨b404, o405, none⟩))), (186, (.int .i64 x403)), (187, (.pointer (some ⟨b414, o415, none⟩))), (188, (.pointer (some ⟨b414, o415, none⟩))), (189, (.int .i64 x413.Kind)), (190, (.bool (x413.Kind != 1))), (191, (.bool (x413.Kind != 1))), (192, (.bool (x413.Kind != 1))), (193, undef), (194, undef), (195, undef), (196, undef), (197, undef), (198, undef), (199, undef), (200, undef), (201, undef), (202, undef), (203, undef), (204, undef), (205, undef), (206, undef), (207, (.bool true))] mixedOK (by kernel_rfl) (by kernel_rfl) rfl (by kernel_rfl) ?_ (fun F_424 b425 l_426 => ?_)
                  ·skip
                   refine .cons (.mk 168 (.slice p113 r_112.1.length k114) [(22, (.slice p113 r_112.1.length k114))] rfl rfl rfl rfl (fun S hS hd => (.cons (hS _ _ rfl) (Sub.nil _))) (fun F_427 X l_428 => ?_)) ?_
                   ·skip
                    refine .move rfl rfl ?_
                    exact .fin1 (Fz.le_refl _)
                   refine .cons (.mk 169 (.int .i64 s195.2) [(27, (.int .i64 s195.2))] rfl rfl rfl rfl (fun S hS hd => (.cons (hS _ _ rfl) (Sub.nil _))) (fun F_429 X l_430 => ?_)) ?_
                   ·skip
                    refine .move rfl rfl ?_
                    exact .fin1 (Fz.le_refl _)
                   refine .cons (.mk 170 (.pointer (some ⟨b216, o217, none⟩)) [(168, (.slice p113 r_112.1.length k114)), (169, (.int .i64 s195.2))] rfl rfl rfl rfl (fun S hS hd => (.cons (hd.1 rfl rfl _ _ rfl) (.cons (hd.2.1 rfl rfl _ _ rfl) (Sub.nil _)))) (fun F_431 X l_432 => ?_)) ?_
                   ·skip
                    refine .idxQ rfl Try.underlying36 Try.sizeOf3 hq224 rfl rfl ?_
                    exact .fin1 (Fz.le_refl _)
                   refine .cons (.mk 171 (.int .i64 x215) [(170, (.pointer (some ⟨b216, o217, none⟩)))] rfl rfl rfl rfl (fun S hS hd => (.cons (hd.1 rfl rfl _ _ rfl) (Sub.nil _))) (fun F_433 X l_434 => ?_)) ?_
                   ·skip
                    refine .loadF rfl Try.isAgg3 rfl (l_434.mem _ _ hm222) (cell_of_take (k := 0) hv223 rfl) ?_
                    exact .fin1 (Fz.le_refl _)
                   refine .cons (.mk 172 (.bool (decide (x215 < 0))) [(171, (.int .i64 x215))] rfl rfl rfl rfl (fun S hS hd => (.cons (hd.1 rfl rfl _ _ rfl) (Sub.nil _))) (fun F_435 X l_436 => ?_)) ?_
                   ·skip
                    refine .lss rfl rfl rfl ?_
                    exact .fin1 (Fz.le_refl _)
                   refine .cons (.mk 173 (.bool (decide (x215 < 0))) [(172, (.bool (decide (x215 < 0))))] rfl rfl rfl rfl (fun S hS hd => (.cons (hd.1 rfl rfl _ _ rfl) (Sub.nil _))) (fun F_437 X l_438 => ?_)) ?_
                   ·skip
                    refine .move rfl rfl ?_
                    exact .fin1 (Fz.le_refl _)
                   refine .cons (.mk 174 (.slice p113 r_112.1.length k114) [(22, (.slice p113 r_112.1.length k114)), (173, (.bool (decide (x215 < 0))))] rfl rfl rfl rfl (fun S hS hd => (.cons (hS _ _ rfl) (.cons (hd.1 rfl rfl _ _ rfl) (Sub.nil _)))) (fun F_439 X l_440 => ?_)) ?_
                   ·skip
                    refine .onH hb225 rfl rfl ?_
                    refine .move rfl rfl ?_
                    exact .fin1 (Fz.le_refl _)
                   refine .cons (.mk 175 (.int .i64 s195.2) [(27, (.int .i64 s195.2)), (173, (.bool (decide (x215 < 0))))] rfl rfl rfl rfl (fun S hS hd => (.cons (hS _ _ rfl) (.cons (hd.1 rfl rfl _ _ rfl) (Sub.nil _)))) (fun F_441 X l_442 => ?_)) ?_
                   ·skip
                    refine .onH hb225 rfl rfl ?_
                    refine .move rfl rfl ?_
                    exact .fin1 (Fz.le_refl _)
                   refine .cons (.mk 176 (.pointer (some ⟨b310, o311, none⟩)) [(173, (.bool (decide (x215 < 0)))), (174, (.slice p113 r_112.1.length k114)), (175, (.int .i64 s195.2))] rfl rfl rfl rfl (fun S hS hd => (.cons (hd.2.2.1 rfl rfl _ _ rfl) (.cons (hd.1 rfl rfl _ _ rfl) (.cons (hd.2.1 rfl rfl _ _ rfl) (Sub.nil _))))) (fun F_443 X l_444 => ?_)) ?_
                   ·skip
                    refine .onH hb225 rfl rfl ?_
                    refine .idxQ rfl Try.underlying36 Try.sizeOf3 hq318 rfl rfl ?_
                    exact .fin1 (Fz.le_refl _)
                   refine .cons (.mk 177 (.int .i64 x309) [(173, (.bool (decide (x215 < 0)))), (176, (.pointer (some ⟨b310, o311, none⟩)))] rfl rfl rfl rfl (fun S hS hd => (.cons (hd.2.1 rfl rfl _ _ rfl) (.cons (hd.1 rfl rfl _ _ rfl) (Sub.nil _)))) (fun F_445 X l_446 => ?_)) ?_
                   ·skip
                    refine .onH hb225 rfl rfl ?_
                    refine .loadF rfl Try.isAgg3 rfl (l_446.mem _ _ hm316) (cell_of_take (k := 0) hv317 rfl) ?_
                    exact .fin1 (Fz.le_refl _)
                   refine .cons (.mk 178 (.int .i64 r_21.2.1) [(10, (.int .i64 r_21.2.1)), (173, (.bool (decide (x215 < 0))))] rfl rfl rfl rfl (fun S hS hd => (.cons (hS _ _ rfl) (.cons (hd.1 rfl rfl _ _ rfl) (Sub.nil _)))) (fun F_447 X l_448 => ?_)) ?_
                   ·skip
                    refine .onH hb225 rfl rfl ?_
                    refine .move rfl rfl ?_
                    exact .fin1 (Fz.le_refl _)
                   refine .cons (.mk 179 (.bool (decide (x309 ≥ r_21.2.1))) [(173, (.bool (decide (x215 < 0)))), (177, (.int .i64 x309)), (178, (.int .i64 r_21.2.1))] rfl rfl rfl rfl (fun S hS hd => (.cons (hd.2.2.1 rfl rfl _ _ rfl) (.cons (hd.1 rfl rfl _ _ rfl) (.cons (hd.2.1 rfl rfl _ _ rfl) (Sub.nil _))))) (fun F_449 X l_450 => ?_)) ?_
                   ·skip
                    refine .onH hb225 rfl rfl ?_
                    refine .geq rfl rfl rfl ?_
                    exact .fin1 (Fz.le_refl _)
                   refine .cons (.mk 180 (.bool (decide (x309 ≥ r_21.2.1))) [(173, (.bool (decide (x215 < 0)))), (179, (.bool (decide (x309 ≥ r_21.2.1))))] rfl rfl rfl rfl (fun S hS hd => (.cons (hd.1 rfl rfl _ _ rfl) (.cons (hd.2.1 rfl rfl _ _ rfl) (Sub.nil _)))) (fun F_451 X l_452 => ?_)) ?_
                   ·skip
                    refine .pickFH hb225  rfl rfl rfl ?_
                    exact .fin1 (Fz.le_refl _)
                   refine .cons (.mk 181 (.bool (decide (x309 ≥ r_21.2.1))) [(180, (.bool (decide (x309 ≥ r_21.2.1))))] rfl rfl rfl rfl (fun S hS hd => (.cons (hd.1 rfl rfl _ _ rfl) (Sub.nil _))) (fun F_453 X l_454 => ?_)) ?_
                   ·skip
                    refine .move rfl rfl ?_
                    exact .fin1 (Fz.le_refl _)
                   refine .cons (.mk 182 (.slice p2 l_1.length k3) [(0, (.slice p2 l_1.length k3)), (181, (.bool (decide (x309 ≥ r_21.2.1))))] rfl rfl rfl rfl (fun S hS hd => (.cons (hS _ _ rfl) (.cons (hd.1 rfl rfl _ _ rfl) (Sub.nil _)))) (fun F_455 X l_456 => ?_)) ?_
                   ·skip
                    refine .onH hb319 rfl rfl ?_
                    refine .move rfl rfl ?_
                    exact .fin1 (Fz.le_refl _)
                   refine .cons (.mk 183 (.slice p113 r_112.1.length k114) [(22, (.slice p113 r_112.1.length k114)), (181, (.bool (decide (x309 ≥ r_21.2.1))))] rfl rfl rfl rfl (fun S hS hd => (.cons (hS _ _ rfl) (.cons (hd.1 rfl rfl _ _ rfl) (Sub.nil _)))) (fun F_457 X l_458 => ?_)) ?_
                   ·skip
                    refine .onH hb319 rfl rfl ?_
                    refine .move rfl rfl ?_
                    exact .fin1 (Fz.le_refl _)
                   refine .cons (.mk 184 (.int .i64 s195.2) [(27, (.int .i64 s195.2)), (181, (.bool (decide (x309 ≥ r_21.2.1))))] rfl rfl rfl rfl (fun S hS hd => (.cons (hS _ _ rfl) (.cons (hd.1 rfl rfl _ _ rfl) (Sub.nil _)))) (fun F_459 X l_460 => ?_)) ?_
                   ·skip
                    refine .onH hb319 rfl rfl ?_
                    refine .move rfl rfl ?_
                    exact .fin1 (Fz.le_refl _)
                   refine .cons (.mk 185 (.pointer (some ⟨b404, o405, none⟩)) [(181, (.bool (decide (x309 ≥ r_21.2.1)))), (183, (.slice p113 r_112.1.length k114)), (184, (.int .i64 s195.2))] rfl rfl rfl rfl (fun S hS hd => (.cons (hd.2.2.1 rfl rfl _ _ rfl) (.cons (hd.1 rfl rfl _ _ rfl) (.cons (hd.2.1 rfl rfl _ _ rfl) (Sub.nil _))))) (fun F_461 X l_462 => ?_)) ?_
                   ·skip
                    refine .onH hb319 rfl rfl ?_
                    refine .idxQ rfl Try.underlying36 Try.sizeOf3 hq412 rfl rfl ?_
                    exact .fin1 (Fz.le_refl _)
                   refine .cons (.mk 186 (.int .i64 x403) [(181, (.bool (decide (x309 ≥ r_21.2.1)))), (185, (.pointer (some ⟨b404, o405, none⟩)))] rfl rfl rfl rfl (fun S hS hd => (.cons (hd.2.1 rfl rfl _ _ rfl) (.cons (hd.1 rfl rfl _ _ rfl) (Sub.nil _)))) (fun F_463 X l_464 => ?_)) ?_
                   ·skip
                    refine .onH hb319 rfl rfl ?_
                    refine .loadF rfl Try.isAgg3 rfl (l_464.mem _ _ hm410) (cell_of_take (k := 0) hv411 rfl) ?_
                    exact .fin1 (Fz.le_refl _)
                   refine .cons (.mk 187 (.pointer (some ⟨b414, o415, none⟩)) [(181, (.bool (decide (x309 ≥ r_21.2.1)))), (182, (.slice p2 l_1.length k3)), (186, (.int .i64 x403))] rfl rfl rfl rfl (fun S hS hd => (.cons (hd.2.2.1 rfl rfl _ _ rfl) (.cons (hd.1 rfl rfl _ _ rfl) (.cons (hd.2.1 rfl rfl _ _ rfl) (Sub.nil _))))) (fun F_465 X l_466 => ?_)) ?_
                   ·skip
                    refine .onH hb319 rfl rfl ?_
                    refine .idxQ rfl Try.underlying22 Try.sizeOf45 hq422 rfl rfl ?_
                    exact .fin1 (Fz.le_refl _)
                   refine .cons (.mk 188 (.pointer (some ⟨b414, o415, none⟩)) [(181, (.bool (decide (x309 ≥ r_21.2.1)))), (187, (.pointer (some ⟨b414, o415, none⟩)))] rfl rfl rfl rfl (fun S hS hd => (.cons (hd.2.1 rfl rfl _ _ rfl) (.cons (hd.1 rfl rfl _ _ rfl) (Sub.nil _)))) (fun F_467 X l_468 => ?_)) ?_
                   ·skip
                    refine .onH hb319 rfl rfl ?_
                    refine .fieldAddr rfl Try.underlying45 rfl Try.sizeOf3 rfl ?_
                    exact .fin1 (Fz.le_refl _)
                   refine .cons (.mk 189 (.int .i64 x413.Kind) [(181, (.bool (decide (x309 ≥ r_21.2.1)))), (188, (.pointer (some ⟨b414, o415, none⟩)))] rfl rfl rfl rfl (fun S hS hd => (.cons (hd.2.1 rfl rfl _ _ rfl) (.cons (hd.1 rfl rfl _ _ rfl) (Sub.nil _)))) (fun F_469 X l_470 => ?_)) ?_
                   ·skip
                    refine .onH hb319 rfl rfl ?_
                    refine .loadF rfl Try.isAgg3 rfl (l_470.mem _ _ hm420) (cell_of_take (k := 0) hv421 rfl) ?_
                    exact .fin1 (Fz.le_refl _)
                   refine .cons (.mk 190 (.bool (x413.Kind != 1)) [(181, (.bool (decide (x309 ≥ r_21.2.1)))), (189, (.int .i64 x413.Kind))] rfl rfl rfl rfl (fun S hS hd => (.cons (hd.2.1 rfl rfl _ _ rfl) (.cons (hd.1 rfl rfl _ _ rfl) (Sub.nil _)))) (fun F_471 X l_472 => ?_)) ?_
                   ·skip
                    refine .onH hb319 rfl rfl ?_
                    refine .neq rfl rfl rfl ?_
                    exact .fin1 (Fz.le_refl _)
                   refine .cons (.mk 191 (.bool (x413.Kind != 1)) [(181, (.bool (decide (x309 ≥ r_21.2.1)))), (190, (.bool (x413.Kind != 1)))] rfl rfl rfl rfl (fun S hS hd => (.cons (hd.1 rfl rfl _ _ rfl) (.cons (hd.2.1 rfl rfl _ _ rfl) (Sub.nil _)))) (fun F_473 X l_474 => ?_)) ?_
                   ·skip
                    refine .pickFH hb319  rfl rfl rfl ?_
                    exact .fin1 (Fz.le_refl _)
                   refine .cons (.mk 192 (.bool (x413.Kind != 1)) [(191, (.bool (x413.Kind != 1)))] rfl rfl rfl rfl (fun S hS hd => (.cons (hd.1 rfl rfl _ _ rfl) (Sub.nil _))) (fun F_475 X l_476 => ?_)) ?_
                   ·skip
                    refine .move rfl rfl ?_
                    exact .fin1 (Fz.le_refl _)
                   refine .cons (.mk 193 undef [(27, (.int .i64 s195.2)), (192, (.bool (x413.Kind != 1)))] rfl rfl rfl rfl (fun S hS hd => (.cons (hS _ _ rfl) (.cons (hd.1 rfl rfl _ _ rfl) (Sub.nil _)))) (fun F_477 X l_478 => ?_)) ?_
                   ·skip
                    refine .offH hb423 rfl rfl rfl ?_
                    exact .fin1 (Fz.le_refl _)
                   refine .cons (.mk 194 undef [(192, (.bool (x413.Kind != 1))), (193, undef)] rfl rfl rfl rfl (fun S hS hd => (.cons (hd.2.1 rfl rfl _ _ rfl) (.cons (hd.1 rfl rfl _ _ rfl) (Sub.nil _)))) (fun F_479 X l_480 => ?_)) ?_
                   ·skip
                    refine .offH hb423 rfl rfl rfl ?_
                    exact .fin1 (Fz.le_refl _)
                   refine .cons (.mk 195 undef [(192, (.bool (x413.Kind != 1))), (194, undef)] rfl rfl rfl rfl (fun S hS hd => (.cons (hd.2.1 rfl rfl _ _ rfl) (.cons (hd.1 rfl rfl _ _ rfl) (Sub.nil _)))) (fun F_481 X l_482 => ?_)) ?_
                   ·skip
                    refine .offH hb423 rfl rfl rfl ?_
                    exact .fin1 (Fz.le_refl _)
                   refine .cons (.mk 196 undef [(22, (.slice p113 r_112.1.length k114)), (195, undef)] rfl rfl rfl rfl (fun S hS hd => (.cons (hS _ _ rfl) (.cons (hd.1 rfl rfl _ _ rfl) (Sub.nil _)))) (fun F_483 X l_484 => ?_)) ?_
                   ·skip
                    refine .off rfl rfl rfl rfl ?_
                    exact .fin1 (Fz.le_refl _)
                   refine .cons (.mk 197 undef [(27, (.int .i64 s195.2)), (195, undef)] rfl rfl rfl rfl (fun S hS hd => (.cons (hS _ _ rfl) (.cons (hd.1 rfl rfl _ _ rfl) (Sub.nil _)))) (fun F_485 X l_486 => ?_)) ?_
                   ·skip
                    refine .off rfl rfl rfl rfl ?_
                    exact .fin1 (Fz.le_refl _)
                   refine .cons (.mk 198 undef [(195, undef), (196, undef), (197, undef)] rfl rfl rfl rfl (fun S hS hd => (.cons (hd.2.2.1 rfl rfl _ _ rfl) (.cons (hd.1 rfl rfl _ _ rfl) (.cons (hd.2.1 rfl rfl _ _ rfl) (Sub.nil _))))) (fun F_487 X l_488 => ?_)) ?_
                   ·skip
                    refine .off rfl rfl rfl rfl ?_
                    exact .fin1 (Fz.le_refl _)
                   refine .cons (.mk 199 undef [(195, undef), (198, undef)] rfl rfl rfl rfl (fun S hS hd => (.cons (hd.2.1 rfl rfl _ _ rfl) (.cons (hd.1 rfl rfl _ _ rfl) (Sub.nil _)))) (fun F_489 X l_490 => ?_)) ?_
                   ·skip
                    refine .off rfl rfl rfl rfl ?_
                    exact .fin1 (Fz.le_refl _)
                   refine .cons (.mk 200 undef [(22, (.slice p113 r_112.1.length k114)), (195, undef)] rfl rfl rfl rfl (fun S hS hd => (.cons (hS _ _ rfl) (.cons (hd.1 rfl rfl _ _ rfl) (Sub.nil _)))) (fun F_491 X l_492 => ?_)) ?_
                   ·skip
                    refine .off rfl rfl rfl rfl ?_
                    exact .fin1 (Fz.le_refl _)
                   refine .cons (.mk 201 undef [(27, (.int .i64 s195.2)), (195, undef)] rfl rfl rfl rfl (fun S hS hd => (.cons (hS _ _ rfl) (.cons (hd.1 rfl rfl _ _ rfl) (Sub.nil _)))) (fun F_493 X l_494 => ?_)) ?_
                   ·skip
                    refine .off rfl rfl rfl rfl ?_
                    exact .fin1 (Fz.le_refl _)
                   refine .cons (.mk 202 undef [(195, undef), (201, undef)] rfl rfl rfl rfl (fun S hS hd => (.cons (hd.2.1 rfl rfl _ _ rfl) (.cons (hd.1 rfl rfl _ _ rfl) (Sub.nil _)))) (fun F_495 X l_496 => ?_)) ?_
                   ·skip
                    refine .off rfl rfl rfl rfl ?_
                    exact .fin1 (Fz.le_refl _)
                   refine .cons (.mk 203 undef [(195, undef), (200, undef), (202, undef)] rfl rfl rfl rfl (fun S hS hd => (.cons (hd.2.2.1 rfl rfl _ _ rfl) (.cons (hd.1 rfl rfl _ _ rfl) (.cons (hd.2.1 rfl rfl _ _ rfl) (Sub.nil _))))) (fun F_497 X l_498 => ?_)) ?_
                   ·skip
                    refine .off rfl rfl rfl rfl ?_
                    exact .fin1 (Fz.le_refl _)
                   refine .cons (.mk 204 undef [(195, undef), (203, undef)] rfl rfl rfl rfl (fun S hS hd => (.cons (hd.2.1 rfl rfl _ _ rfl) (.cons (hd.1 rfl rfl _ _ rfl) (Sub.nil _)))) (fun F_499 X l_500 => ?_)) ?_
                   ·skip
                    refine .off rfl rfl rfl rfl ?_
                    exact .fin1 (Fz.le_refl _)
                   refine .cons (.mk 205 undef [(195, undef), (199, undef), (204, undef)] rfl rfl rfl rfl (fun S hS hd => (.cons (hd.2.2.1 rfl rfl _ _ rfl) (.cons (hd.1 rfl rfl _ _ rfl) (.cons (hd.2.1 rfl rfl _ _ rfl) (Sub.nil _))))) (fun F_501 X l_502 => ?_)) ?_
                   ·skip
                    refine .off rfl rfl rfl rfl ?_
                    exact .fin1 (Fz.le_refl _)
                   refine .cons (.mk 206 undef [(192, (.bool (x413.Kind != 1))), (195, undef), (205, undef)] rfl rfl rfl rfl (fun S hS hd => (.cons (hd.2.2.1 rfl rfl _ _ rfl) (.cons (hd.1 rfl rfl _ _ rfl) (.cons (hd.2.1 rfl rfl _ _ rfl) (Sub.nil _))))) (fun F_503 X l_504 => ?_)) ?_
                   ·skip
                    refine .offH hb423 rfl rfl rfl ?_
                    exact .fin1 (Fz.le_refl _)
                   refine .cons (.mk 207 (.bool true) [(192, (.bool (x413.Kind != 1))), (206, undef)] rfl rfl rfl rfl (fun S hS hd => (.cons (hd.1 rfl rfl _ _ rfl) (.cons (hd.2.1 rfl rfl _ _ rfl) (Sub.nil _)))) (fun F_505 X l_506 => ?_)) ?_
                   ·skip
                    refine .pickTH hb423  rfl rfl rfl ?_
                    exact .fin1 (Fz.le_refl _)
                   exact .nil
                  refine .nil ?_
                  exact .nil fun e a w h => by cases e; exact ⟨rfl, ⟨F_424, l_426, h.1.sub (.cons (k := 0) rfl (.cons (k := 10) rfl (.cons (k := 14) rfl (.cons (k := 22) rfl (.cons (k := 26) rfl (.cons (k := 27) rfl (.cons (k := 207) rfl (.nil _)))))))), h.2⟩⟩
                 ·skip
                  refine .ite (fun hb507 => ?_) (fun hb507 => ?_)
                  ·skip
                   refine .bind (fun x508 e514 => ?_)
                   obtain ⟨b509, o510, T511, fr512, cs513, hm515, hv516, hq517⟩ := RepSl.idxE (h115.mono (Fz.le_trans l_119 (Fz.le_trans l_123 (Fz.le_trans l_127 (Fz.le_trans l_159 (Fz.le_trans l_192 (Fz.le_trans l_197 l_212))))))) e514
                   refine .bind (fun x518 e524 => ?_)
                   obtain ⟨b519, o520, T521, fr522, cs523, hm525, hv526, hq527⟩ := RepSl.idxE (h115.mono (Fz.le_trans l_119 (Fz.le_trans l_123 (Fz.le_trans l_127 (Fz.le_trans l_159 (Fz.le_trans l_192 (Fz.le_trans l_197 l_212))))))) e524
                   refine .draw ⟨1000000, 0, [], 0⟩ [(168, (.slice p113 r_112.1.length k114)), (169, (.int .i64 s195.2)), (170, (.pointer (some ⟨b216, o217, none⟩))), (171, (.int .i64 x215)), (172, (.bool (decide (x215 < 0)))), (173, (.bool (decide (x215 < 0)))), (174, (.slice p113 r_112.1.length k114)), (175, (.int .i64 s195.2)), (176, (.pointer (some ⟨b310, o311, none⟩))), (177, (.int .i64 x309)), (178, (.int .i64 r_21.2.1)), (179, (.bool (decide (x309 ≥ r_21.2.1)))), (180, (.bool (decide (x309 ≥ r_21.2.1)))), (181, (.bool (decide (x309 ≥ r_21.2.1)))), (182, (.slice p2 l_1.length k3)), (183, (.slice p113 r_112.1.length k114)), (184, (.int .i64 s195.2)), (185, (.pointer (some ⟨b404, o405, none⟩))), (186, (.int .i64 x403)), (187, (.pointer (some ⟨b414, o415, none⟩))), (188, (.pointer (some ⟨b414, o415, none⟩))), (189, (.int .i64 x413.Kind)), (190, (.bool (x413.Kind != 1))), (191, (.bool (x413.Kind != 1))), (192, (.bool (x413.Kind != 1))), (193, (.int .i64 s195.2)), (194, (.bool (decide (s195.2 > 0)))), (195, (.bool (decide (s195.2 > 0)))), (196, (.slice p113 r_112.1.length k114)), (197, (.int .i64 s195.2)), (198, (.pointer (some ⟨b509, o510, none⟩))), (199, (.int .i64 x508)), (200, (.slice p113 r_112.1.length k114)), (201, (.int .i64 s195.2)), (202, (.int .i64 (w64 (s195.2 - 1)))), (203, (.pointer (some ⟨b519, o520, none⟩))), (204, (.int .i64 x518)), (205, (.bool (decide (x508 ≤ x518)))), (206, (.bool (decide (x508 ≤ x518)))), (207, (.bool (decide (x508 ≤ x518))))] mixedOK (by kernel_rfl) (by kernel_rfl) rfl (by kernel_rfl) ?_ (fun F_528 b529 l_530 => ?_)
                   ·skip
                    refine .cons (.mk 168 (.slice p113 r_112.1.length k114) [(22, (.slice p113 r_112.1.length k114))] rfl rfl rfl rfl (fun S hS hd => (.cons (hS _ _ rfl) (Sub.nil _))) (fun F_531 X l_532 => ?_)) ?_
                    ·skip
                     refine .move rfl rfl ?_
                     exact .fin1 (Fz.le_refl _)
                    refine .cons (.mk 169 (.int .i64 s195.2) [(27, (.int .i64 s195.2))] rfl rfl rfl rfl (fun S hS hd => (.cons (hS _ _ rfl) (Sub.nil _))) (fun F_533 X l_534 => ?_)) ?_
                    ·skip
                     refine .move rfl rfl ?_
                     exact .fin1 (Fz.le_refl _)
                    refine .cons (.mk 170 (.pointer (some ⟨b216, o217, none⟩)) [(168, (.slice p113 r_112.1.length k114)), (169, (.int .i64 s195.2))] rfl rfl rfl rfl (fun S hS hd => (.cons (hd.1 rfl rfl _ _ rfl) (.cons (hd.2.1 rfl rfl _ _ rfl) (Sub.nil _)))) (fun F_535 X l_536 => ?_)) ?_
                    ·skip
                     refine .idxQ rfl Try.underlying36 Try.sizeOf3 hq224 rfl rfl ?_
                     exact .fin1 (Fz.le_refl _)
                    refine .cons (.mk 171 (.int .i64 x215) [(170, (.pointer (some ⟨b216, o217, none⟩)))] rfl rfl rfl rfl (fun S hS hd => (.cons (hd.1 rfl rfl _ _ rfl) (Sub.nil _))) (fun F_537 X l_538 => ?_)) ?_
                    ·skip
                     refine .loadF rfl Try.isAgg3 rfl (l_538.mem _ _ hm222) (cell_of_take (k := 0) hv223 rfl) ?_
                     exact .fin1 (Fz.le_refl _)
                    refine .cons (.mk 172 (.bool (decide (x215 < 0))) [(171, (.int .i64 x215))] rfl rfl rfl rfl (fun S hS hd => (.cons (hd.1 rfl rfl _ _ rfl) (Sub.nil _))) (fun F_539 X l_540 => ?_)) ?_
                    ·skip
                     refine .lss rfl rfl rfl ?_
                     exact .fin1 (Fz.le_refl _)
                    refine .cons (.mk 173 (.bool (decide (x215 < 0))) [(172, (.bool (decide (x215 < 0))))] rfl rfl rfl rfl (fun S hS hd => (.cons (hd.1 rfl rfl _ _ rfl) (Sub.nil _))) (fun F_541 X l_542 => ?_)) ?_
                    ·skip
                     refine .move rfl rfl ?_
                     exact .fin1 (Fz.le_refl _)
                    refine .cons (.mk 174 (.slice p113 r_112.1.length k114) [(22, (.slice p113 r_112.1.length k114)), (173, (.bool (decide (x215 < 0))))] rfl rfl rfl rfl (fun S hS hd => (.cons (hS _ _ rfl) (.cons (hd.1 rfl rfl _ _ rfl) (Sub.nil _)))) (fun F_543 X l_544 => ?_)) ?_
                    ·skip
                     refine .onH hb225 rfl rfl ?_
                     refine .move rfl rfl ?_
                     exact .fin1 (Fz.le_refl _)
                    refine .cons (.mk 175 (.int .i64 s195.2) [(27, (.int .i64 s195.2)), (173, (.bool (decide (x215 < 0))))] rfl rfl rfl rfl (fun S hS hd => (.cons (hS _ _ rfl) (.cons (hd.1 rfl rfl _ _ rfl) (Sub.nil _)))) (fun F_545 X l_546 => ?_)) ?_
                    ·skip
                     refine .onH hb225 rfl rfl ?_
                     refine .move rfl rfl ?_
                     exact .fin1 (Fz.le_refl _)
                    refine .cons (.mk 176 (.pointer (some ⟨b310, o311, none⟩)) [(173, (.bool (decide (x215 < 0)))), (174, (.slice p113 r_112.1.length k114)), (175, (.int .i64 s195.2))] rfl rfl rfl rfl (fun S hS hd => (.cons (hd.2.2.1 rfl rfl _ _ rfl) (.cons (hd.1 rfl rfl _ _ rfl) (.cons (hd.2.1 rfl rfl _ _ rfl) (Sub.nil _))))) (fun F_547 X l_548 => ?_)) ?_
                    ·skip
                     refine .onH hb225 rfl rfl ?_
                     refine .idxQ rfl Try.underlying36 Try.sizeOf3 hq318 rfl rfl ?_
                     exact .fin1 (Fz.le_refl _)
                    refine .cons (.mk 177 (.int .i64 x309) [(173, (.bool (decide (x215 < 0)))), (176, (.pointer (some ⟨b310, o311, none⟩)))] rfl rfl rfl rfl (fun S hS hd => (.cons (hd.2.1 rfl rfl _ _ rfl) (.cons (hd.1 rfl rfl _ _ rfl) (Sub.nil _)))) (fun F_549 X l_550 => ?_)) ?_
                    ·skip
                     refine .onH hb225 rfl rfl ?_
                     refine .loadF rfl Try.isAgg3 rfl (l_550.mem _ _ hm316) (cell_of_take (k := 0) hv317 rfl) ?_
                     exact .fin1 (Fz.le_refl _)
                    refine .cons (.mk 178 (.int .i64 r_21.2.1) [(10, (.int .i64 r_21.2.1)), (173, (.bool (decide (x215 < 0))))] rfl rfl rfl rfl (fun S hS hd => (.cons (hS _ _ rfl) (.cons (hd.1 rfl rfl _ _ rfl) (Sub.nil _)))) (fun F_551 X l_552 => ?_)) ?_
                    ·skip
                     refine .onH hb225 rfl rfl ?_
                     refine .move rfl rfl ?_
                     exact .fin1 (Fz.le_refl _)
                    refine .cons (.mk 179 (.bool (decide (x309 ≥ r_21.2.1))) [(173, (.bool (decide (x215 < 0)))), (177, (.int .i64 x309)), (178, (.int .i64 r_21.2.1))] rfl rfl rfl rfl (fun S hS hd => (.cons (hd.2.2.1 rfl rfl _ _ rfl) (.cons (hd.1 rfl rfl _ _ rfl) (.cons (hd.2.1 rfl rfl _ _ rfl) (Sub.nil _))))) (fun F_553 X l_554 => ?_)) ?_
                    ·skip
                     refine .onH hb225 rfl rfl ?_
                     refine .geq rfl rfl rfl ?_
                     exact .fin1 (Fz.le_refl _)
                    refine .cons (.mk 180 (.bool (decide (x309 ≥ r_21.2.1))) [(173, (.bool (decide (x215 < 0)))), (179, (.bool (decide (x309 ≥ r_21.2.1))))] rfl rfl rfl rfl (fun S hS hd => (.cons (hd.1 rfl rfl _ _ rfl) (.cons (hd.2.1 rfl rfl _ _ rfl) (Sub.nil _)))) (fun F_555 X l_556 => ?_)) ?_
                    ·skip
                     refine .pickFH hb225  rfl rfl rfl ?_
                     exact .fin1 (Fz.le_refl _)
                    refine .cons (.mk 181 (.bool (decide (x309 ≥ r_21.2.1))) [(180, (.bool (decide (x309 ≥ r_21.2.1))))] rfl rfl rfl rfl (fun S hS hd => (.cons (hd.1 rfl rfl _ _ rfl) (Sub.nil _))) (fun F_557 X l_558 => ?_)) ?_
                    ·skip
                     refine .move rfl rfl ?_
                     exact .fin1 (Fz.le_refl _)
                    refine .cons (.mk 182 (.slice p2 l_1.length k3) [(0, (.slice p2 l_1.length k3)), (181, (.bool (decide (x309 ≥ r_21.2.1))))] rfl rfl rfl rfl (fun S hS hd => (.cons (hS _ _ rfl) (.cons (hd.1 rfl rfl _ _ rfl) (Sub.nil _)))) (fun F_559 X l_560 => ?_)) ?_
                    ·skip
                     refine .onH hb319 rfl rfl ?_
                     refine .move rfl rfl ?_
                     exact .fin1 (Fz.le_refl _)
                    refine .cons (.mk 183 (.slice p113 r_112.1.length k114) [(22, (.slice p113 r_112.1.length k114)), (181, (.bool (decide (x309 ≥ r_21.2.1))))] rfl rfl rfl rfl (fun S hS hd => (.cons (hS _ _ rfl) (.cons (hd.1 rfl rfl _ _ rfl) (Sub.nil _)))) (fun F_561 X l_562 => ?_)) ?_
                    ·skip
                     refine .onH hb319 rfl rfl ?_
                     refine .move rfl rfl ?_
                     exact .fin1 (Fz.le_refl _)
                    refine .cons (.mk 184 (.int .i64 s195.2) [(27, (.int .i64 s195.2)), (181, (.bool (decide (x309 ≥ r_21.2.1))))] rfl rfl rfl rfl (fun S hS hd => (.cons (hS _ _ rfl) (.cons (hd.1 rfl rfl _ _ rfl) (Sub.nil _)))) (fun F_563 X l_564 => ?_)) ?_
                    ·skip
                     refine .onH hb319 rfl rfl ?_
                     refine .move rfl rfl ?_
                     exact .fin1 (Fz.le_refl _)
                    refine .cons (.mk 185 (.pointer (some ⟨b404, o405, none⟩)) [(181, (.bool (decide (x309 ≥ r_21.2.1)))), (183, (.slice p113 r_112.1.length k114)), (184, (.int .i64 s195.2))] rfl rfl rfl rfl (fun S hS hd => (.cons (hd.2.2.1 rfl rfl _ _ rfl) (.cons (hd.1 rfl rfl _ _ rfl) (.cons (hd.2.1 rfl rfl _ _ rfl) (Sub.nil _))))) (fun F_565 X l_566 => ?_)) ?_
                    ·skip
                     refine .onH hb319 rfl rfl ?_
                     refine .idxQ rfl Try.underlying36 Try.sizeOf3 hq412 rfl rfl ?_
                     exact .fin1 (Fz.le_refl _)
                    refine .cons (.mk 186 (.int .i64 x403) [(181, (.bool (decide (x309 ≥ r_21.2.1)))), (185, (.pointer (some ⟨b404, o405, none⟩)))] rfl rfl rfl rfl (fun S hS hd => (.cons (hd.2.1 rfl rfl _ _ rfl) (.cons (hd.1 rfl rfl _ _ rfl) (Sub.nil _)))) (fun F_567 X l_568 => ?_)) ?_
                    ·skip
                     refine .onH hb319 rfl rfl ?_
                     refine .loadF rfl Try.isAgg3 rfl (l_568.mem _ _ hm410) (cell_of_take (k := 0) hv411 rfl) ?_
                     exact .fin1 (Fz.le_refl _)
                    refine .cons (.mk 187 (.pointer (some ⟨b414, o415, none⟩)) [(181, (.bool (decide (x309 ≥ r_21.2.1)))), (182, (.slice p2 l_1.length k3)), (186, (.int .i64 x403))] rfl rfl rfl rfl (fun S hS hd => (.cons (hd.2.2.1 rfl rfl _ _ rfl) (.cons (hd.1 rfl rfl _ _ rfl) (.cons (hd.2.1 rfl rfl _ _ rfl) (Sub.nil _))))) (fun F_569 X l_570 => ?_)) ?_
                    ·skip
                     refine .onH hb319 rfl rfl ?_
                     refine .idxQ rfl Try.underlying22 Try.sizeOf45 hq422 rfl rfl ?_
                     exact .fin1 (Fz.le_refl _)
                    refine .cons (.mk 188 (.pointer (some ⟨b414, o415, none⟩)) [(181, (.bool (decide (x309 ≥ r_21.2.1)))), (187, (.pointer (some ⟨b414, o415, none⟩)))] rfl rfl rfl rfl (fun S hS hd => (.cons (hd.2.1 rfl rfl _ _ rfl) (.cons (hd.1 rfl rfl _ _ rfl) (Sub.nil _)))) (fun F_571 X l_572 => ?_)) ?_
                    ·skip
                     refine .onH hb319 rfl rfl ?_
                     refine .fieldAddr rfl Try.underlying45 rfl Try.sizeOf3 rfl ?_
                     exact .fin1 (Fz.le_refl _)
                    refine .cons (.mk 189 (.int .i64 x413.Kind) [(181, (.bool (decide (x309 ≥ r_21.2.1)))), (188, (.pointer (some ⟨b414, o415, none⟩)))] rfl rfl rfl rfl (fun S hS hd => (.cons (hd.2.1 rfl rfl _ _ rfl) (.cons (hd.1 rfl rfl _ _ rfl) (Sub.nil _)))) (fun F_573 X l_574 => ?_)) ?_
                    ·skip
                     refine .onH hb319 rfl rfl ?_
                     refine .loadF rfl Try.isAgg3 rfl (l_574.mem _ _ hm420) (cell_of_take (k := 0) hv421 rfl) ?_
                     exact .fin1 (Fz.le_refl _)
                    refine .cons (.mk 190 (.bool (x413.Kind != 1)) [(181, (.bool (decide (x309 ≥ r_21.2.1)))), (189, (.int .i64 x413.Kind))] rfl rfl rfl rfl (fun S hS hd => (.cons (hd.2.1 rfl rfl _ _ rfl) (.cons (hd.1 rfl rfl _ _ rfl) (Sub.nil _)))) (fun F_575 X l_576 => ?_)) ?_
                    ·skip
                     refine .onH hb319 rfl rfl ?_
                     refine .neq rfl rfl rfl ?_
                     exact .fin1 (Fz.le_refl _)
                    refine .cons (.mk 191 (.bool (x413.Kind != 1)) [(181, (.bool (decide (x309 ≥ r_21.2.1)))), (190, (.bool (x413.Kind != 1)))] rfl rfl rfl rfl (fun S hS hd => (.cons (hd.1 rfl rfl _ _ rfl) (.cons (hd.2.1 rfl rfl _ _ rfl) (Sub.nil _)))) (fun F_577 X l_578 => ?_)) ?_
                    ·skip
                     refine .pickFH hb319  rfl rfl rfl ?_
                     exact .fin1 (Fz.le_refl _)
                    refine .cons (.mk 192 (.bool (x413.Kind != 1)) [(191, (.bool (x413.Kind != 1)))] rfl rfl rfl rfl (fun S hS hd => (.cons (hd.1 rfl rfl _ _ rfl) (Sub.nil _))) (fun F_579 X l_580 => ?_)) ?_
                    ·skip
                     refine .move rfl rfl ?_
                     exact .fin1 (Fz.le_refl _)
                    refine .cons (.mk 193 (.int .i64 s195.2) [(27, (.int .i64 s195.2)), (192, (.bool (x413.Kind != 1)))] rfl rfl rfl rfl (fun S hS hd => (.cons (hS _ _ rfl) (.cons (hd.1 rfl rfl _ _ rfl) (Sub.nil _)))) (fun F_581 X l_582 => ?_)) ?_
                    ·skip
                     refine .onH hb423 rfl rfl ?_
                     refine .move rfl rfl ?_
                     exact .fin1 (Fz.le_refl _)
                    refine .cons (.mk 194 (.bool (decide (s195.2 > 0))) [(192, (.bool (x413.Kind != 1))), (193, (.int .i64 s195.2))] rfl rfl rfl rfl (fun S hS hd => (.cons (hd.2.1 rfl rfl _ _ rfl) (.cons (hd.1 rfl rfl _ _ rfl) (Sub.nil _)))) (fun F_583 X l_584 => ?_)) ?_
                    ·skip
                     refine .onH hb423 rfl rfl ?_
                     refine .gtr rfl rfl rfl ?_
                     exact .fin1 (Fz.le_refl _)
                    refine .cons (.mk 195 (.bool (decide (s195.2 > 0))) [(192, (.bool (x413.Kind != 1))), (194, (.bool (decide (s195.2 > 0))))] rfl rfl rfl rfl (fun S hS hd => (.cons (hd.2.1 rfl rfl _ _ rfl) (.cons (hd.1 rfl rfl _ _ rfl) (Sub.nil _)))) (fun F_585 X l_586 => ?_)) ?_
                    ·skip
                     refine .onH hb423 rfl rfl ?_
                     refine .move rfl rfl ?_
                     exact .fin1 (Fz.le_refl _)
                    refine .cons (.mk 196 (.slice p113 r_112.1.length k114) [(22, (.slice p113 r_112.1.length k114)), (195, (.bool (decide (s195.2 > 0))))] rfl rfl rfl rfl (fun S hS hd => (.cons (hS _ _ rfl) (.cons (hd.1 rfl rfl _ _ rfl) (Sub.nil _)))) (fun F_587 X l_588 => ?_)) ?_
                    ·skip
                     refine .onH hb507 rfl rfl ?_
                     refine .move rfl rfl ?_
                     exact .fin1 (Fz.le_refl _)
                    refine .cons (.mk 197 (.int .i64 s195.2) [(27, (.int .i64 s195.2)), (195, (.bool (decide (s195.2 > 0))))] rfl rfl rfl rfl (fun S hS hd => (.cons (hS _ _ rfl) (.cons (hd.1 rfl rfl _ _ rfl) (Sub.nil _)))) (fun F_589 X l_590 => ?_)) ?_
                    ·skip
                     refine .onH hb507 rfl rfl ?_
                     refine .move rfl rfl ?_
                     exact .fin1 (Fz.le_refl _)
                    refine .cons (.mk 198 (.pointer (some ⟨b509, o510, none⟩)) [(195, (.bool (decide (s195.2 > 0)))), (196, (.slice p113 r_112.1.length k114)), (197, (.int .i64 s195.2))] rfl rfl rfl rfl (fun S hS hd => (.cons (hd.2.2.1 rfl rfl _ _ rfl) (.cons (hd.1 rfl rfl _ _ rfl) (.cons (hd.2.1 rfl rfl _ _ rfl) (Sub.nil _))))) (fun F_591 X l_592 => ?_)) ?_
                    ·skip
                     refine .onH hb507 rfl rfl ?_
                     refine .idxQ rfl Try.underlying36 Try.sizeOf3 hq517 rfl rfl ?_
                     exact .fin1 (Fz.le_refl _)
                    refine .cons (.mk 199 (.int .i64 x508) [(195, (.bool (decide (s195.2 > 0)))), (198, (.pointer (some ⟨b509, o510, none⟩)))] rfl rfl rfl rfl (fun S hS hd => (.cons (hd.2.1 rfl rfl _ _ rfl) (.cons (hd.1 rfl rfl _ _ rfl) (Sub.nil _)))) (fun F_593 X l_594 => ?_)) ?_
                    ·skip
                     refine .onH hb507 rfl rfl ?_
                     refine .loadF rfl Try.isAgg3 rfl (l_594.mem _ _ hm515) (cell_of_take (k := 0) hv516 rfl) ?_
                     exact .fin1 (Fz.le_refl _)
                    refine .cons (.mk 200 (.slice p113 r_112.1.length k114) [(22, (.slice p113 r_112.1.length k114)), (195, (.bool (decide (s195.2 > 0))))] rfl rfl rfl rfl (fun S hS hd => (.cons (hS _ _ rfl) (.cons (hd.1 rfl rfl _ _ rfl) (Sub.nil _)))) (fun F_595 X l_596 => ?_)) ?_
                    ·skip
                     refine .onH hb507 rfl rfl ?_
                     refine .move rfl rfl ?_
                     exact .fin1 (Fz.le_refl _)
                    refine .cons (.mk 201 (.int .i64 s195.2) [(27, (.int .i64 s195.2)), (195, (.bool (decide (s195.2 > 0))))] rfl rfl rfl rfl (fun S hS hd => (.cons (hS _ _ rfl) (.cons (hd.1 rfl rfl _ _ rfl) (Sub.nil _)))) (fun F_597 X l_598 => ?_)) ?_
                    ·skip
                     refine .onH hb507 rfl rfl ?_
                     refine .move rfl rfl ?_
                     exact .fin1 (Fz.le_refl _)
                    refine .cons (.mk 202 (.int .i64 (w64 (s195.2 - 1))) [(195, (.bool (decide (s195.2 > 0)))), (201, (.int .i64 s195.2))] rfl rfl rfl rfl (fun S hS hd => (.cons (hd.2.1 rfl rfl _ _ rfl) (.cons (hd.1 rfl rfl _ _ rfl) (Sub.nil _)))) (fun F_599 X l_600 => ?_)) ?_
                    ·skip
                     refine .onH hb507 rfl rfl ?_
                     refine .sub rfl rfl rfl ?_
                     exact .fin1 (Fz.le_refl _)
                    refine .cons (.mk 203 (.pointer (some ⟨b519, o520, none⟩)) [(195, (.bool (decide (s195.2 > 0)))), (200, (.slice p113 r_112.1.length k114)), (202, (.int .i64 (w64 (s195.2 - 1))))] rfl rfl rfl rfl (fun S hS hd => (.cons (hd.2.2.1 rfl rfl _ _ rfl) (.cons (hd.1 rfl rfl _ _ rfl) (.cons (hd.2.1 rfl rfl _ _ rfl) (Sub.nil _))))) (fun F_601 X l_602 => ?_)) ?_
                    ·skip
                     refine .onH hb507 rfl rfl ?_
                     refine .idxQ rfl Try.underlying36 Try.sizeOf3 hq527 rfl rfl ?_
                     exact .fin1 (Fz.le_refl _)
                    refine .cons (.mk 204 (.int .i64 x518) [(195, (.bool (decide (s195.2 > 0)))), (203, (.pointer (some ⟨b519, o520, none⟩)))] rfl rfl rfl rfl (fun S hS hd => (.cons (hd.2.1 rfl rfl _ _ rfl) (.cons (hd.1 rfl rfl _ _ rfl) (Sub.nil _)))) (fun F_603 X l_604 => ?_)) ?_
                    ·skip
                     refine .onH hb507 rfl rfl ?_
                     refine .loadF rfl Try.isAgg3 rfl (l_604.mem _ _ hm525) (cell_of_take (k := 0) hv526 rfl) ?_
                     exact .fin1 (Fz.le_refl _)
                    refine .cons (.mk 205 (.bool (decide (x508 ≤ x518))) [(195, (.bool (decide (s195.2 > 0)))), (199, (.int .i64 x508)), (204, (.int .i64 x518))] rfl rfl rfl rfl (fun S hS hd => (.cons (hd.2.2.1 rfl rfl _ _ rfl) (.cons (hd.1 rfl rfl _ _ rfl) (.cons (hd.2.1 rfl rfl _ _ rfl) (Sub.nil _))))) (fun F_605 X l_606 => ?_)) ?_
                    ·skip
                     refine .onH hb507 rfl rfl ?_
                     refine .leq rfl rfl rfl ?_
                     exact .fin1 (Fz.le_refl _)
                    refine .cons (.mk 206 (.bool (decide (x508 ≤ x518))) [(192, (.bool (x413.Kind != 1))), (195, (.bool (decide (s195.2 > 0)))), (205, (.bool (decide (x508 ≤ x518))))] rfl rfl rfl rfl (fun S hS hd => (.cons (hd.2.2.1 rfl rfl _ _ rfl) (.cons (hd.1 rfl rfl _ _ rfl) (.cons (hd.2.1 rfl rfl _ _ rfl) (Sub.nil _))))) (fun F_607 X l_608 => ?_)) ?_
                    ·skip
                     refine .onH hb423 rfl rfl ?_
                     refine .pickTH hb507  rfl rfl rfl ?_
                     exact .fin1 (Fz.le_refl _)
                    refine .cons (.mk 207 (.bool (decide (x508 ≤ x518))) [(192, (.bool (x413.Kind != 1))), (206, (.bool (decide (x508 ≤ x518))))] rfl rfl rfl rfl (fun S hS hd => (.cons (hd.1 rfl rfl _ _ rfl) (.cons (hd.2.1 rfl rfl _ _ rfl) (Sub.nil _)))) (fun F_609 X l_610 => ?_)) ?_
                    ·skip
                     refine .pickFH hb423  rfl rfl rfl ?_
                     exact .fin1 (Fz.le_refl _)
                    exact .nil
                   refine .nil ?_
                   exact .nil fun e a w h => by cases e; exact ⟨rfl, ⟨F_528, l_530, h.1.sub (.cons (k := 0) rfl (.cons (k := 10) rfl (.cons (k := 14) rfl (.cons (k := 22) rfl (.cons (k := 26) rfl (.cons (k := 27) rfl (.cons (k := 207) rfl (.nil _)))))))), h.2⟩⟩
                  ·skip
                   refine .draw ⟨1000000, 0, [], 0⟩ [(168, (.slice p113 r_112.1.length k114)), (169, (.int .i64 s195.2)), (170, (.pointer (some ⟨b216, o217, none⟩))), (171, (.int .i64 x215)), (172, (.bool (decide (x215 < 0)))), (173, (.bool (decide (x215 < 0)))), (174, (.slice p113 r_112.1.length k114)), (175, (.int .i64 s195.2)), (176, (.pointer (some ⟨b310, o311, none⟩))), (177, (.int .i64 x309)), (178, (.int .i64 r_21.2.1)), (179, (.bool (decide (x309 ≥ r_21.2.1)))), (180, (.bool (decide (x309 ≥ r_21.2.1)))), (181, (.bool (decide (x309 ≥ r_21.2.1)))), (182, (.slice p2 l_1.length k3)), (183, (.slice p113 r_112.1.length k114)), (184, (.int .i64 s195.2)), (185, (.pointer (some ⟨b404, o405, none⟩))), (186, (.int .i64 x403)), (187, (.pointer (some ⟨b414, o415, none⟩))), (188, (.pointer (some ⟨b414, o415, none⟩))), (189, (.int .i64 x413.Kind)), (190, (.bool (x413.Kind != 1))), (191, (.bool (x413.Kind != 1))), (192, (.bool (x413.Kind != 1))), (193, (.int .i64 s195.2)), (194, (.bool (decide (s195.2 > 0)))), (195, (.bool (decide (s195.2 > 0)))), (196, undef), (197, undef), (198, undef), (199, undef), (200, undef), (201, undef), (202, undef), (203, undef), (204, undef), (205, undef), (206, (.bool false)), (207, (.bool false))] mixedOK (by kernel_rfl) (by kernel_rfl) rfl (by kernel_rfl) ?_ (fun F_611 b612 l_613 => ?_)
                   ·skip
                    refine .cons (.mk 168 (.slice p113 r_112.1.length k114) [(22, (.slice p113 r_112.1.length k114))] rfl rfl rfl rfl (fun S hS hd => (.cons (hS _ _ rfl) (Sub.nil _))) (fun F_614 X l_615 => ?_)) ?_
                    ·skip
                     refine .move rfl rfl ?_
                     exact .fin1 (Fz.le_refl _)
                    refine .cons (.mk 169 (.int .i64 s195.2) [(27, (.int .i64 s195.2))] rfl rfl rfl rfl (fun S hS hd => (.cons (hS _ _ rfl) (Sub.nil _))) (fun F_616 X l_617 => ?_)) ?_
                    ·skip
                     refine .move rfl rfl ?_
                     exact .fin1 (Fz.le_refl _)
                    refine .cons (.mk 170 (.pointer (some ⟨b216, o217, none⟩)) [(168, (.slice p113 r_112.1.length k114)), (169, (.int .i64 s195.2))] rfl rfl rfl rfl (fun S hS hd => (.cons (hd.1 rfl rfl _ _ rfl) (.cons (hd.2.1 rfl rfl _ _ rfl) (Sub.nil _)))) (fun F_618 X l_619 => ?_)) ?_
                    ·skip
                     refine .idxQ rfl Try.underlying36 Try.sizeOf3 hq224 rfl rfl ?_
                     exact .fin1 (Fz.le_refl _)
                    refine .cons (.mk 171 (.int .i64 x215) [(170, (.pointer (some ⟨b216, o217, none⟩)))] rfl rfl rfl rfl (fun S hS hd => (.cons (hd.1 rfl rfl _ _ rfl) (Sub.nil _))) (fun F_620 X l_621 => ?_)) ?_
                    ·skip
                     refine .loadF rfl Try.isAgg3 rfl (l_621.mem _ _ hm222) (cell_of_take (k := 0) hv223 rfl) ?_
                     exact .fin1 (Fz.le_refl _)
                    refine .cons (.mk 172 (.bool (decide (x215 < 0))) [(171, (.int .i64 x215))] rfl rfl rfl rfl (fun S hS hd => (.cons (hd.1 rfl rfl _ _ rfl) (Sub.nil _))) (fun F_622 X l_623 => ?_)) ?_
                    ·skip
                     refine .lss rfl rfl rfl ?_
                     exact .fin1 (Fz.le_refl _)
                    refine .cons (.mk 173 (.bool (decide (x215 < 0))) [(172, (.bool (decide (x215 < 0))))] rfl rfl rfl rfl (fun S hS hd => (.cons (hd.1 rfl rfl _ _ rfl) (Sub.nil _))) (fun F_624 X l_625 => ?_)) ?_
                    ·skip
                     refine .move rfl rfl ?_
                     exact .fin1 (Fz.le_refl _)
                    refine .cons (.mk 174 (.slice p113 r_112.1.length k114) [(22, (.slice p113 r_112.1.length k114)), (173, (.bool (decide (x215 < 0))))] rfl rfl rfl rfl (fun S hS hd => (.cons (hS _ _ rfl) (.cons (hd.1 rfl rfl _ _ rfl) (Sub.nil _)))) (fun F_626 X l_627 => ?_)) ?_
                    ·skip
                     refine .onH hb225 rfl rfl ?_
                     refine .move rfl rfl ?_
                     exact .fin1 (Fz.le_refl _)
                    refine .cons (.mk 175 (.int .i64 s195.2) [(27, (.int .i64 s195.2)), (173, (.bool (decide (x215 < 0))))] rfl rfl rfl rfl (fun S hS hd => (.cons (hS _ _ rfl) (.cons (hd.1 rfl rfl _ _ rfl) (Sub.nil _)))) (fun F_628 X l_629 => ?_)) ?_
                    ·skip
                     refine .onH hb225 rfl rfl ?_
                     refine .move rfl rfl ?_
                     exact .fin1 (Fz.le_refl _)
                    refine .cons (.mk 176 (.pointer (some ⟨b310, o311, none⟩)) [(173, (.bool (decide (x215 < 0)))), (174, (.slice p113 r_112.1.length k114)), (175, (.int .i64 s195.2))] rfl rfl rfl rfl (fun S hS hd => (.cons (hd.2.2.1 rfl rfl _ _ rfl) (.cons (hd.1 rfl rfl _ _ rfl) (.cons (hd.2.1 rfl rfl _ _ rfl) (Sub.nil _))))) (fun F_630 X l_631 => ?_)) ?_
                    ·skip
                     refine .onH hb225 rfl rfl ?_
                     refine .idxQ rfl Try.underlying36 Try.sizeOf3 hq318 rfl rfl ?_
                     exact .fin1 (Fz.le_refl _)
                    refine .cons (.mk 177 (.int .i64 x309) [(173, (.bool (decide (x215 < 0)))), (176, (.pointer (some ⟨b310, o311, none⟩)))] rfl rfl rfl rfl (fun S hS hd => (.cons (hd.2.1 rfl rfl _ _ rfl) (.cons (hd.1 rfl rfl _ _ rfl) (Sub.nil _)))) (fun F_632 X l_633 => ?_)) ?_
                    ·skip
                     refine .onH hb225 rfl rfl ?_
                     refine .loadF rfl Try.isAgg3 rfl (l_633.mem _ _ hm316) (cell_of_take (k := 0) hv317 rfl) ?_
                     exact .fin1 (Fz.le_refl _)
                    refine .cons (.mk 178 (.int .i64 r_21.2.1) [(10, (.int .i64 r_21.2.1)), (173, (.bool (decide (x215 < 0))))] rfl rfl rfl rfl (fun S hS hd => (.cons (hS _ _ rfl) (.cons (hd.1 rfl rfl _ _ rfl) (Sub.nil _)))) (fun F_634 X l_635 => ?_)) ?_
                    ·skip
                     refine .onH hb225 rfl rfl ?_
                     refine .move rfl rfl ?_
                     exact .fin1 (Fz.le_refl _)
                    refine .cons (.mk 179 (.bool (decide (x309 ≥ r_21.2.1))) [(173, (.bool (decide (x215 < 0)))), (177, (.int .i64 x309)), (178, (.int .i64 r_21.2.1))] rfl rfl rfl rfl (fun S hS hd => (.cons (hd.2.2.1 rfl rfl _ _ rfl) (.cons (hd.1 rfl rfl _ _ rfl) (.cons (hd.2.1 rfl rfl _ _ rfl) (Sub.nil _))))) (fun F_636 X l_637 => ?_)) ?_
                    ·skip
                     refine .onH hb225 rfl rfl ?_
                     refine .geq rfl rfl rfl ?_
                     exact .fin1 (Fz.le_refl _)
                    refine .cons (.mk 180 (.bool (decide (x309 ≥ r_21.2.1))) [(173, (.bool (decide (x215 < 0)))), (179, (.bool (decide (x309 ≥ r_21.2.1))))] rfl rfl rfl rfl (fun S hS hd => (.cons (hd.1 rfl rfl _ _ rfl) (.cons (hd.2.1 rfl rfl _ _ rfl) (Sub.nil _)))) (fun F_638 X l_639 => ?_)) ?_
                    ·skip
                     refine .pickFH hb225  rfl rfl rfl ?_
                     exact .fin1 (Fz.le_refl _)
                    refine .cons (.mk 181 (.bool (decide (x309 ≥ r_21.2.1))) [(180, (.bool (decide (x309 ≥ r_21.2.1))))] rfl rfl rfl rfl (fun S hS hd => (.cons (hd.1 rfl rfl _ _ rfl) (Sub.nil _))) (fun F_640 X l_641 => ?_)) ?_
                    ·skip
                     refine .move rfl rfl ?_
                     exact .fin1 (Fz.le_refl _)
                    refine .cons (.mk 182 (.slice p2 l_1.length k3) [(0, (.slice p2 l_1.length k3)), (181, (.bool (decide (x309 ≥ r_21.2.1))))] rfl rfl rfl rfl (fun S hS hd => (.cons (hS _ _ rfl) (.cons (hd.1 rfl rfl _ _ rfl) (Sub.nil _)))) (fun F_642 X l_643 => ?_)) ?_
                    ·skip
                     refine .onH hb319 rfl rfl ?_
                     refine .move rfl rfl ?_
                     exact .fin1 (Fz.le_refl _)
                    refine .cons (.mk 183 (.slice p113 r_112.1.length k114) [(22, (.slice p113 r_112.1.length k114)), (181, (.bool (decide (x309 ≥ r_21.2.1))))] rfl rfl rfl rfl (fun S hS hd => (.cons (hS _ _ rfl) (.cons (hd.1 rfl rfl _ _ rfl) (Sub.nil _)))) (fun F_644 X l_645 => ?_)) ?_
                    ·skip
                     refine .onH hb319 rfl rfl ?_
                     refine .move rfl rfl ?_
                     exact .fin1 (Fz.le_refl _)
                    refine .cons (.mk 184 (.int .i64 s195.2) [(27, (.int .i64 s195.2)), (181, (.bool (decide (x309 ≥ r_21.2.1))))] rfl rfl rfl rfl (fun S hS hd => (.cons (hS _ _ rfl) (.cons (hd.1 rfl rfl _ _ rfl) (Sub.nil _)))) (fun F_646 X l_647 => ?_)) ?_
                    ·skip
                     refine .onH hb319 rfl rfl ?_
                     refine .move rfl rfl ?_
                     exact .fin1 (Fz.le_refl _)
                    refine .cons (.mk 185 (.pointer (some ⟨b404, o405, none⟩)) [(181, (.bool (decide (x309 ≥ r_21.2.1)))), (183, (.slice p113 r_112.1.length k114)), (184, (.int .i64 s195.2))] rfl rfl rfl rfl (fun S hS hd => (.cons (hd.2.2.1 rfl rfl _ _ rfl) (.cons (hd.1 rfl rfl _ _ rfl) (.cons (hd.2.1 rfl rfl _ _ rfl) (Sub.nil _))))) (fun F_648 X l_649 => ?_)) ?_
                    ·skip
                     refine .onH hb319 rfl rfl ?_
                     refine .idxQ rfl Try.underlying36 Try.sizeOf3 hq412 rfl rfl ?_
                     exact .fin1 (Fz.le_refl _)
                    refine .cons (.mk 186 (.int .i64 x403) [(181, (.bool (decide (x309 ≥ r_21.2.1)))), (185, (.pointer (some ⟨b404, o405, none⟩)))] rfl rfl rfl rfl (fun S hS hd => (.cons (hd.2.1 rfl rfl _ _ rfl) (.cons (hd.1 rfl rfl _ _ rfl) (Sub.nil _)))) (fun F_650 X l_651 => ?_)) ?_
                    ·skip
                     refine .onH hb319 rfl rfl ?_
                     refine .loadF rfl Try.isAgg3 rfl (l_651.mem _ _ hm410) (cell_of_take (k := 0) hv411 rfl) ?_
                     exact .fin1 (Fz.le_refl _)
                    refine .cons (.mk 187 (.pointer (some ⟨b414, o415, none⟩)) [(181, (.bool (decide (x309 ≥ r_21.2.1)))), (182, (.slice p2 l_1.length k3)), (186, (.int .i64 x403))] rfl rfl rfl rfl (fun S hS hd => (.cons (hd.2.2.1 rfl rfl _ _ rfl) (.cons (hd.1 rfl rfl _ _ rfl) (.cons (hd.2.1 rfl rfl _ _ rfl) (Sub.nil _))))) (fun F_652 X l_653 => ?_)) ?_
                    ·skip
                     refine .onH hb319 rfl rfl ?_
                     refine .idxQ rfl Try.underlying22 Try.sizeOf45 hq422 rfl rfl ?_
                     exact .fin1 (Fz.le_refl _)
                    refine .cons (.mk 188 (.pointer (some ⟨b414, o415, none⟩)) [(181, (.bool (decide (x309 ≥ r_21.2.1)))), (187, (.pointer (some ⟨b414, o415, none⟩)))] rfl rfl rfl rfl (fun S hS hd => (.cons (hd.2.1 rfl rfl _ _ rfl) (.cons (hd.1 rfl rfl _ _ rfl) (Sub.nil _)))) (fun F_654 X l_655 => ?_)) ?_
                    ·skip
                     refine .onH hb319 rfl rfl ?_
                     refine .fieldAddr rfl Try.underlying45 rfl Try.sizeOf3 rfl ?_
                     exact .fin1 (Fz.le_refl _)
                    refine .cons (.mk 189 (.int .i64 x413.Kind) [(181, (.bool (decide (x309 ≥ r_21.2.1)))), (188, (.pointer (some ⟨b414, o415, none⟩)))] rfl rfl rfl rfl (fun S hS hd => (.cons (hd.2.1 rfl rfl _ _ rfl) (.cons (hd.1 rfl rfl _ _ rfl) (Sub.nil _)))) (fun F_656 X l_657 => ?_)) ?_
                    ·skip
                     refine .onH hb319 rfl rfl ?_
                     refine .loadF rfl Try.isAgg3 rfl (l_657.mem _ _ hm420) (cell_of_take (k := 0) hv421 rfl) ?_
                     exact .fin1 (Fz.le_refl _)
                    refine .cons (.mk 190 (.bool (x413.Kind != 1)) [(181, (.bool (decide (x309 ≥ r_21.2.1)))), (189, (.int .i64 x413.Kind))] rfl rfl rfl rfl (fun S hS hd => (.cons (hd.2.1 rfl rfl _ _ rfl) (.cons (hd.1 rfl rfl _ _ rfl) (Sub.nil _)))) (fun F_658 X l_659 => ?_)) ?_
                    ·skip
                     refine .onH hb319 rfl rfl ?_
                     refine .neq rfl rfl rfl ?_
                     exact .fin1 (Fz.le_refl _)
                    refine .cons (.mk 191 (.bool (x413.Kind != 1)) [(181, (.bool (decide (x309 ≥ r_21.2.1)))), (190, (.bool (x413.Kind != 1)))] rfl rfl rfl rfl (fun S hS hd => (.cons (hd.1 rfl rfl _ _ rfl) (.cons (hd.2.1 rfl rfl _ _ rfl) (Sub.nil _)))) (fun F_660 X l_661 => ?_)) ?_
                    ·skip
                     refine .pickFH hb319  rfl rfl rfl ?_
                     exact .fin1 (Fz.le_refl _)
                    refine .cons (.mk 192 (.bool (x413.Kind != 1)) [(191, (.bool (x413.Kind != 1)))] rfl rfl rfl rfl (fun S hS hd => (.cons (hd.1 rfl rfl _ _ rfl) (Sub.nil _))) (fun F_662 X l_663 => ?_)) ?_
                    ·skip
                     refine .move rfl rfl ?_
                     exact .fin1 (Fz.le_refl _)
                    refine .cons (.mk 193 (.int .i64 s195.2) [(27, (.int .i64 s195.2)), (192, (.bool (x413.Kind != 1)))] rfl rfl rfl rfl (fun S hS hd => (.cons (hS _ _ rfl) (.cons (hd.1 rfl rfl _ _ rfl) (Sub.nil _)))) (fun F_664 X l_665 => ?_)) ?_
                    ·skip
                     refine .onH hb423 rfl rfl ?_
                     refine .move rfl rfl ?_
                     exact .fin1 (Fz.le_refl _)
                    refine .cons (.mk 194 (.bool (decide (s195.2 > 0))) [(192, (.bool (x413.Kind != 1))), (193, (.int .i64 s195.2))] rfl rfl rfl rfl (fun S hS hd => (.cons (hd.2.1 rfl rfl _ _ rfl) (.cons (hd.1 rfl rfl _ _ rfl) (Sub.nil _)))) (fun F_666 X l_667 => ?_)) ?_
                    ·skip
                     refine .onH hb423 rfl rfl ?_
                     refine .gtr rfl rfl rfl ?_
                     exact .fin1 (Fz.le_refl _)
                    refine .cons (.mk 195 (.bool (decide (s195.2 > 0))) [(192, (.bool (x413.Kind != 1))), (194, (.bool (decide (s195.2 > 0))))] rfl rfl rfl rfl (fun S hS hd => (.cons (hd.2.1 rfl rfl _ _ rfl) (.cons (hd.1 rfl rfl _ _ rfl) (Sub.nil _)))) (fun F_668 X l_669 => ?_)) ?_
                    ·skip
                     refine .onH hb423 rfl rfl ?_
                     refine .move rfl rfl ?_
                     exact .fin1 (Fz.le_refl _)
                    refine .cons (.mk 196 undef [(22, (.slice p113 r_112.1.length k114)), (195, (.bool (decide (s195.2 > 0))))] rfl rfl rfl rfl (fun S hS hd => (.cons (hS _ _ rfl) (.cons (hd.1 rfl rfl _ _ rfl) (Sub.nil _)))) (fun F_670 X l_671 => ?_)) ?_
                    ·skip
                     refine .offH hb507 rfl rfl rfl ?_
                     exact .fin1 (Fz.le_refl _)
                    refine .cons (.mk 197 undef [(27, (.int .i64 s195.2)), (195, (.bool (decide (s195.2 > 0))))] rfl rfl rfl rfl (fun S hS hd => (.cons (hS _ _ rfl) (.cons (hd.1 rfl rfl _ _ rfl) (Sub.nil _)))) (fun F_672 X l_673 => ?_)) ?_
                    ·skip
                     refine .offH hb507 rfl rfl rfl ?_
                     exact .fin1 (Fz.le_refl _)
                    refine .cons (.mk 198 undef [(195, (.bool (decide (s195.2 > 0)))), (196, undef), (197, undef)] rfl rfl rfl rfl (fun S hS hd => (.cons (hd.2.2.1 rfl rfl _ _ rfl) (.cons (hd.1 rfl rfl _ _ rfl) (.cons (hd.2.1 rfl rfl _ _ rfl) (Sub.nil _))))) (fun F_674 X l_675 => ?_)) ?_
                    ·skip
                     refine .offH hb507 rfl rfl rfl ?_
                     exact .fin1 (Fz.le_refl _)
                    refine .cons (.mk 199 undef [(195, (.bool (decide (s195.2 > 0)))), (198, undef)] rfl rfl rfl rfl (fun S hS hd => (.cons (hd.2.1 rfl rfl _ _ rfl) (.cons (hd.1 rfl rfl _ _ rfl) (Sub.nil _)))) (fun F_676 X l_677 => ?_)) ?_
                    ·skip
                     refine .offH hb507 rfl rfl rfl ?_
                     exact .fin1 (Fz.le_refl _)
                    refine .cons (.mk 200 undef [(22, (.slice p113 r_112.1.length k114)), (195, (.bool (decide (s195.2 > 0))))] rfl rfl rfl rfl (fun S hS hd => (.cons (hS _ _ rfl) (.cons (hd.1 rfl rfl _ _ rfl) (Sub.nil _)))) (fun F_678 X l_679 => ?_)) ?_
                    ·skip
                     refine .offH hb507 rfl rfl rfl ?_
                     exact .fin1 (Fz.le_refl _)
                    refine .cons (.mk 201 undef [(27, (.int .i64 s195.2)), (195, (.bool (decide (s195.2 > 0))))] rfl rfl rfl rfl (fun S hS hd => (.cons (hS _ _ rfl) (.cons (hd.1 rfl rfl _ _ rfl) (Sub.nil _)))) (fun F_680 X l_681 => ?_)) ?_
                    ·skip
                     refine .offH hb507 rfl rfl rfl ?_
                     exact .fin1 (Fz.le_refl _)
                    refine .cons (.mk 202 undef [(195, (.bool (decide (s195.2 > 0)))), (201, undef)] rfl rfl rfl rfl (fun S hS hd => (.cons (hd.2.1 rfl rfl _ _ rfl) (.cons (hd.1 rfl rfl _ _ rfl) (Sub.nil _)))) (fun F_682 X l_683 => ?_)) ?_
                    ·skip
                     refine .offH hb507 rfl rfl rfl ?_
                     exact .fin1 (Fz.le_refl _)
                    refine .cons (.mk 203 undef [(195, (.bool (decide (s195.2 > 0)))), (200, undef), (202, undef)] rfl rfl rfl rfl (fun S hS hd => (.cons (hd.2.2.1 rfl rfl _ _ rfl) (.cons (hd.1 rfl rfl _ _ rfl) (.cons (hd.2.1 rfl rfl _ _ rfl) (Sub.nil _))))) (fun F_684 X l_685 => ?_)) ?_
                    ·skip
                     refine .offH hb507 rfl rfl rfl ?_
                     exact .fin1 (Fz.le_refl _)
                    refine .cons (.mk 204 undef [(195, (.bool (decide (s195.2 > 0)))), (203, undef)] rfl rfl rfl rfl (fun S hS hd => (.cons (hd.2.1 rfl rfl _ _ rfl) (.cons (hd.1 rfl rfl _ _ rfl) (Sub.nil _)))) (fun F_686 X l_687 => ?_)) ?_
                    ·skip
                     refine .offH hb507 rfl rfl rfl ?_
                     exact .fin1 (Fz.le_refl _)
                    refine .cons (.mk 205 undef [(195, (.bool (decide (s195.2 > 0)))), (199, undef), (204, undef)] rfl rfl rfl rfl (fun S hS hd => (.cons (hd.2.2.1 rfl rfl _ _ rfl) (.cons (hd.1 rfl rfl _ _ rfl) (.cons (hd.2.1 rfl rfl _ _ rfl) (Sub.nil _))))) (fun F_688 X l_689 => ?_)) ?_
                    ·skip
                     refine .offH hb507 rfl rfl rfl ?_
                     exact .fin1 (Fz.le_refl _)
                    refine .cons (.mk 206 (.bool false) [(192, (.bool (x413.Kind != 1))), (195, (.bool (decide (s195.2 > 0)))), (205, undef)] rfl rfl rfl rfl (fun S hS hd => (.cons (hd.2.2.1 rfl rfl _ _ rfl) (.cons (hd.1 rfl rfl _ _ rfl) (.cons (hd.2.1 rfl rfl _ _ rfl) (Sub.nil _))))) (fun F_690 X l_691 => ?_)) ?_
                    ·skip
                     refine .onH hb423 rfl rfl ?_
                     refine .pickFH hb507  rfl rfl rfl ?_
                     exact .fin1 (Fz.le_refl _)
                    refine .cons (.mk 207 (.bool false) [(192, (.bool (x413.Kind != 1))), (206, (.bool false))] rfl rfl rfl rfl (fun S hS hd => (.cons (hd.1 rfl rfl _ _ rfl) (.cons (hd.2.1 rfl rfl _ _ rfl) (Sub.nil _)))) (fun F_692 X l_693 => ?_)) ?_
                    ·skip
                     refine .pickFH hb423  rfl rfl rfl ?_
                     exact .fin1 (Fz.le_refl _)
                    exact .nil
                   refine .nil ?_
                   exact .nil fun e a w h => by cases e; exact ⟨rfl, ⟨F_611, l_613, h.1.sub (.cons (k := 0) rfl (.cons (k := 10) rfl (.cons (k := 14) rfl (.cons (k := 22) rfl (.cons (k := 26) rfl (.cons (k := 27) rfl (.cons (k := 207) rfl (.nil _)))))))), h.2⟩⟩
              refine .code ?_
              refine .cond rfl (fun hb697 => ?_) (fun hb697 => ?_)
              ·skip
               refine .seq ?_
               refine .region ?_
               refine .assign rfl rfl ?_
               refine .nil ?_
               refine .code ?_
               refine .drop 3 ?_
               refine .drop 2 ?_
               refine .drop 1 ?_
               refine .drop 0 ?_
               refine .retQ (LPost.ret fun a w h => ⟨rfl, F_695, (Fz.le_trans l_197 (Fz.le_trans l_212 l_696)), h.1.sub (.cons (k := 8) rfl (.nil _)), h.2⟩)
              ·skip
               refine .skip ?_
               refine .block ?_
               refine .code ?_
               refine .region ?_
               refine .move rfl rfl ?_
               refine .add rfl rfl rfl ?_
               refine .assignL rfl rfl (fun i698 e699 => ?_)
               refine .nil ?_
               exact .nil (LPost.norm fun a w h => ⟨F_695, (Fz.le_trans l_197 (Fz.le_trans l_212 l_696)), h.1.sub (.cons (k := 0) rfl (.cons (k := 10) rfl (.cons (k := 14) rfl (.cons (k := 22) rfl (.cons (k := 26) rfl (.cons (k := 27) rfl (.nil _))))))), h.2⟩)
             ·skip
              refine .exitOut rfl (LPost.exit fun a w h => ⟨rfl, F_196, l_197, h.1.sub (.cons (k := 26) rfl (.nil _)), h.2⟩)
            ·intro b700 hb0 hk e a w hD
             rcases b700 with b700 | b700
             ·skip
              obtain ⟨rfl, F_701, l_702, hA⟩ := hD
              refine interp_exit rfl (GE.app ?_ hk a w hA)
              refine .code ?_
              refine .seq ?_
              refine .region ?_
              refine .move rfl rfl ?_
              refine .move rfl rfl ?_
              refine .andM (b := b700) 2 211 (fun hb705 z713 => ?_) (fun hb709 => ?_) (fun z712 F_710 l_711 => ?_)
              ·skip
               refine .onH hb705 rfl rfl ?_
               refine .call0 rfl Try.call11 rfl rfl rfl (c_wormtublaw06_awake _ ) ?_
               rintro r_708 F_706 _ - l_707 rfl
               refine .pickTH hb705 rfl rfl rfl ?_
               exact .finZ 2 rfl rfl (by kernel_rfl) l_707
              ·skip
               refine .offH hb709 rfl rfl rfl ?_
               refine .pickFH hb709 rfl rfl rfl ?_
               exact .fin 2 rfl rfl (by kernel_rfl) (Fz.le_refl _)
              refine .assign rfl rfl ?_
              refine .nil ?_
              refine .code ?_
              exact .ret0 Try.results5 (.tmp rfl (.nil)) (i := 4) rfl (Fz.le_trans l_14 (Fz.le_trans l_20 (Fz.le_trans l_32 (Fz.le_trans l_78 (Fz.le_trans l_98 (Fz.le_trans l_107 (Fz.le_trans l_111 (Fz.le_trans l_119 (Fz.le_trans l_123 (Fz.le_trans l_127 (Fz.le_trans l_159 (Fz.le_trans l_192 (Fz.le_trans l_702 l_711))))))))))))) rfl
             obtain ⟨rfl, F_703, l_704, hA⟩ := hD
             exact interp_ret ((ret_post0 Try.results5 (.tmp rfl (.nil)) (i := 0) rfl (Fz.le_trans l_14 (Fz.le_trans l_20 (Fz.le_trans l_32 (Fz.le_trans l_78 (Fz.le_trans l_98 (Fz.le_trans l_107 (Fz.le_trans l_111 (Fz.le_trans l_119 (Fz.le_trans l_123 (Fz.le_trans l_127 (Fz.le_trans l_159 (Fz.le_trans l_192 l_704)))))))))))) rfl) hk a w hA)
           obtain ⟨rfl, F_193, l_194, hA⟩ := hD
           exact interp_ret ((ret_post0 Try.results5 (.tmp rfl (.nil)) (i := 0) rfl (Fz.le_trans l_14 (Fz.le_trans l_20 (Fz.le_trans l_32 (Fz.le_trans l_78 (Fz.le_trans l_98 (Fz.le_trans l_107 (Fz.le_trans l_111 (Fz.le_trans l_119 (Fz.le_trans l_123 (Fz.le_trans l_127 (Fz.le_trans l_159 l_194))))))))))) rfl) hk a w hA)
         obtain ⟨rfl, F_160, l_161, hA⟩ := hD
         exact interp_ret ((ret_post0 Try.results5 (.tmp rfl (.nil)) (i := 0) rfl (Fz.le_trans l_14 (Fz.le_trans l_20 (Fz.le_trans l_32 (Fz.le_trans l_78 (Fz.le_trans l_98 (Fz.le_trans l_107 (Fz.le_trans l_111 (Fz.le_trans l_119 (Fz.le_trans l_123 (Fz.le_trans l_127 l_161)))))))))) rfl) hk a w hA)
end Go.Proofs.Ytkedjmhhcekmiaa
end

section
namespace Go.Proofs.Ytkedjmhhcekmiaa
open Go.Dec
open Go.ChangeShapes Go.WideShapes Go.ChangeAt Go.RowKit
def LawCaskDrops : Prop := ∀ (a0 : (List ApiCaskEvent)) (a1 : Int) (a2 : Int) (a3 : (List Int)), (∀ y ∈ a0, okApiCaskEvent y) → (Lit.int .i64 a1).wf = true → (Lit.int .u8 a2).wf = true → (∀ y ∈ a3, (Lit.int .u8 y).wf = true) → m_wormtublaw06_CaskDrops a0 a1 a2 a3 = some true
set_option maxRecDepth 100000 in
theorem lifted_CaskDrops (law : LawCaskDrops) (os : Os) (started : os.Started) (H : Type) (enc : TypeId × Value → H) :
  ReturnsInHanded {} Try.checked os 5 .any (Rows.caskDropsSpec.pre6 enc Try.prog Try.f5 Rows.caskDropsRow.domain false) (Rows.caskDropsSpec.post enc Try.prog Try.f5 false true false false) := by
 refine returnsInHanded_of_change (C := Try.checked) Try.own started (by kernel_rfl) Try.func5 (ChangeSpec.witness6 (enc := enc) (C := Try.checked) false ⟨#[], #[.slice none 0 0, .int .i64 0, .int .u8 0, .slice none 0 0], []⟩ 12 (by kernel_rfl) (by kernel_rfl) (by kernel_rfl) (by kernel_rfl)) ?_
 intro W base args ds gs before hval hW _ _
 refine law_contract (P := Try.prog) Try.laidOut (by kernel_rfl) rfl (by kernel_rfl : Try.f5.resultTypes = #[4]) Try.underlying4 (fun ds h => ?_) (fun W base args ds ps hval hA => ?_) W base args ds gs before hval hW
 ·match ds, h with
  | [d0, d1, d2, d3], _ => rfl
 ·rw [Try.params5] at hA hval
  obtain ⟨v0, l0, _, _, _, _, e0, _, _, t0, hA⟩ := trodAll_cons hA
  obtain ⟨v1, l1, _, _, _, _, e1, _, _, t1, hA⟩ := trodAll_cons hA
  obtain ⟨v2, l2, _, _, _, _, e2, _, _, t2, hA⟩ := trodAll_cons hA
  obtain ⟨v3, l3, _, _, _, _, e3, _, _, t3, hA⟩ := trodAll_cons hA
  obtain ⟨e4, _, _⟩ := trodAll_nil hA
  subst e4 e3 e2 e1
  obtain rfl : args = [v0, v1, v2, v3].toArray := by rw [← e0]
  obtain ⟨m0, p0, k0, o0, rfl, h0⟩ := argSlice Try.underlying22 vt22 (hval 0 _ _ rfl rfl) t0
  obtain ⟨m1, o1, rfl⟩ := argInt Try.underlying3 (hval 1 _ _ rfl rfl) t1
  obtain ⟨m2, o2, rfl⟩ := argInt Try.underlying5 (hval 2 _ _ rfl rfl) t2
  obtain ⟨m3, p3, k3, o3, rfl, h3⟩ := argSlice Try.underlying43 vt43 (hval 3 _ _ rfl rfl) t3
  have hl := law m0 m1 m2 m3 o0 o1 o2 o3
  have hc := c_wormtublaw06_CaskDrops (FW W) m0 p0 k0 h0 m1 m2 m3 p3 k3 h3
  rw [hl] at hc
  exact hc
theorem said_CaskDrops (law : LawCaskDrops) : Rows.CaskDropsSaid :=
 OpenClaim.holds_of_wide 5 Try.f5 rfl rfl rfl rfl rfl rfl rfl ⟨rfl, rfl, rfl, rfl, rfl⟩ rfl rfl rfl rfl rfl (by kernel_rfl) Try.func5 (by kernel_rfl)
  (of_decide_eq_true (by kernel_rfl)) (by unfold Func.isWrapper; first | (rw [if_pos (by decide +kernel)]; kernel_rfl) | (rw [if_neg (by decide +kernel)]; exact ⟨rfl, rfl⟩))
  (fun os started H enc _ => lifted_CaskDrops law os started H enc)
end Go.Proofs.Ytkedjmhhcekmiaa
end

section
namespace Go.Proofs.Ytkedjmhhcekmiaa
open Go.Dec
abbrev DM := List (Int × Int)
def ageM (now last : Int) (wo pl : DM) (age here : Int) (iw ap : Nat → Int) : Option (Int × (Nat → Int) × (Nat → Int)) :=
  (if (decide (here ≥ 0)) then (bindv (w64 ((w64 (age + now)) - last)) fun age67 => (idxO 8 ((mapGet wo here).getD 0)).bind fun j69 => (idxO 8 ((mapGet wo here).getD 0)).bind fun j98 => bindv (updN iw j98 (w64 ((w64 ((iw j69) + now)) - last))) fun x100 => (idxO 8 ((mapGet pl here).getD 0)).bind fun j102 => (idxO 8 ((mapGet pl here).getD 0)).bind fun j131 => bindv (updN ap j131 (w64 ((w64 ((ap j102) + now)) - last))) fun x133 => some (age67, x100, x133)) else (some (age, iw, ap)))
theorem idxO_le {x : Int} (h0 : 0 ≤ x) (h1 : x ≤ 7) : idxO 8 x = some x.toNat := by
  have := idxO_nat (n := 8) (i := x.toNat) (by omega)
  rwa [Int.toNat_of_nonneg h0] at this
theorem age_step {f cnt : Nat} {now last age here : Int} {l : List Held} {am wo pl : DM} {iw ap : Nat → Int} (d : DropE f cnt last l am wo pl age here iw ap) (ho : AOk last cnt l) (h0 : 0 ≤ last) (hn : last ≤ now) (hm : now ≤ 65536) :
    ∃ age' iw' ap', ageM now last wo pl age here iw ap = some (age', iw', ap') ∧ DropE f cnt now (l.map (olderS (now - last))) am wo pl age' here iw' ap' := by
  obtain ⟨d1, d2⟩ := d.older ho (n := now - last) (by omega) (w := ((mapGet wo here).getD 0).toNat) (p := ((mapGet pl here).getD 0).toNat) rfl rfl
  rw [show last + (now - last) = now by omega] at d1 d2
  by_cases hh : 0 ≤ here
  · rcases d.drop with ⟨h1, _⟩ | ⟨_, h, h2, h3⟩
    · omega
    · have hho := ho.each h (findH_num h2).2
      have ew : (mapGet wo here).getD 0 = h.C.Wood := by rw [d.wo _ h h2]; rfl
      have ep : (mapGet pl here).getD 0 = h.C.Place := by rw [d.pl _ h h2]; rfl
      have hag := d.ag
      have hw := d.wi h.C.Wood.toNat
      have hp := d.pa h.C.Place.toNat
      have d2 := d2 hh
      rw [ew, ep] at d2
      refine ⟨_, _, _, ?_, d2⟩
      unfold ageM
      rw [if_pos (decide_eq_true hh), ew, ep, idxO_le hho.wood.1 hho.wood.2, idxO_le hho.place.1 hho.place.2]
      have e1 : w64 (w64 (age + now) - last) = age + (now - last) := by
        rw [show w64 (age + now) = age + now from w64_id (by omega) (by omega), w64_id (by omega) (by omega)]; omega
      have e2 : w64 (w64 (iw h.C.Wood.toNat + now) - last) = iw h.C.Wood.toNat + (now - last) := by
        rw [show w64 (iw h.C.Wood.toNat + now) = iw h.C.Wood.toNat + now from w64_id (by omega) (by omega), w64_id (by omega) (by omega)]; omega
      have e3 : w64 (w64 (ap h.C.Place.toNat + now) - last) = ap h.C.Place.toNat + (now - last) := by
        rw [show w64 (ap h.C.Place.toNat + now) = ap h.C.Place.toNat + now from w64_id (by omega) (by omega), w64_id (by omega) (by omega)]; omega
      simp only [bindv, Option.bind_some, e1, e2, e3]
  · exact ⟨age, iw, ap, by unfold ageM; rw [if_neg (by simpa using hh)], d1 (by omega)⟩
def goesM (am : DM) (by_ : List Int) (x : Ev) (here i : Int) : Option Bool :=
  (if (here == x.Cask) then ((if (x.Amount == ((mapGet am x.Cask).getD 0)) then some true else ((remK i (by_.length : Int)).bind fun q168 => (idxL by_ q168).bind fun x170 => some ((Int.tmod x170 2) == 1))).bind fun z183 => some z183) else some false)
theorem goes_some (am : DM) {by_ : List Int} (hb : by_ ≠ []) (x : Ev) (here : Int) (i : Nat) : ∃ g, goesM am by_ x here (i : Int) = some g ∧ (g = true → here = x.Cask) ∧ (here = x.Cask → x.Amount = (mapGet am x.Cask).getD 0 → g = true) := by
  unfold goesM
  have hpos : 0 < by_.length := by cases by_ with | nil => exact absurd rfl hb | cons _ _ => simp
  by_cases h1 : here = x.Cask
  · rw [if_pos (by simp [h1])]
    by_cases h2 : x.Amount = (mapGet am x.Cask).getD 0
    · rw [if_pos (by simp [← h2])]
      exact ⟨true, rfl, fun _ => h1, fun _ _ => rfl⟩
    · rw [if_neg (by simp [h2])]
      have hrem : remK (i : Int) (by_.length : Int) = some ((i : Int) % (by_.length : Int)) := by
        unfold remK; rw [if_neg (by omega), Int.tmod_eq_emod_of_nonneg (Int.natCast_nonneg i)]
      obtain ⟨y, hy, _⟩ := idxL_lt (l := by_) (Int.emod_nonneg (i : Int) (show (by_.length : Int) ≠ 0 by omega)) (Int.emod_lt_of_pos (i : Int) (show (0:Int) < (by_.length : Int) by omega))
      rw [hrem, Option.bind_some, hy]
      exact ⟨_, rfl, fun _ => h1, fun _ h => absurd h h2⟩
  · rw [if_neg (by simp [h1])]
    exact ⟨false, rfl, fun h => (by cases h), fun h => absurd h h1⟩
section
variable {L : List Ev} {f cnt : Nat} {day age here : Int} {am wo pl : DM} {iw ap : Nat → Int} {x : Ev} {by_ : List Int} {s : Cur} {l' : List Held}
theorem drop_event (hx : L[cnt]? = some x) (h40 : L.length ≤ 40) (hdx : x.Day ≤ day) (hb : by_ ≠ []) (hfk : ∀ y, L[f]? = some y → y.Kind = 1)
    (d : DropE f cnt s.last s.all am wo pl age here iw ap) (ho : SOk cnt s) (hv : evB x = true) (hd : s.last ≤ x.Day) (ev : EvD (atS x.Day s) x cnt l') :
    (∃ am' wo' pl' age' here' iw' ap', b_wormtublaw06_drop_1 L (f : Int) day by_ (am, wo, pl, age, here, s.last, (cnt : Int), iw, ap) = some (.next (am', wo', pl', age', here', x.Day, ((cnt + 1 : Nat) : Int), iw', ap')) ∧ DropE f (cnt + 1) x.Day l' am' wo' pl' age' here' iw' ap') ∨
      ∃ r, b_wormtublaw06_drop_1 L (f : Int) day by_ (am, wo, pl, age, here, s.last, (cnt : Int), iw, ap) = some (.done (.inr r)) ∧ r.2.2.2.2 = false := by
  have hlt : cnt < L.length := (List.getElem?_eq_some_iff.1 hx).1
  have hday := (evB_base hv).1
  obtain ⟨age', iw', ap', hage, dA⟩ := age_step d ho.ok ho.day.1 hd hday.2
  have hoA := older_all ho.ok (n := x.Day - s.last) (by omega)
  rw [show s.last + (x.Day - s.last) = x.Day by omega] at hoA
  have dA : DropE f cnt x.Day (atS x.Day s) am wo pl age' here iw' ap' := dA
  have hoA : AOk x.Day cnt (atS x.Day s) := hoA
  have hnd := hoA.nums
  generalize atS x.Day s = A at *
  obtain ⟨g, hg, g1, g2⟩ := goes_some am hb x here cnt
  have c1 : decide ((cnt : Int) ≤ (L.length : Int)) = true := decide_eq_true (by omega)
  have c2 : decide ((cnt : Int) < (L.length : Int)) = true := decide_eq_true (by omega)
  have c3 : decide (x.Day ≤ day) = true := decide_eq_true hdx
  have c4 : ((cnt : Int) == (L.length : Int)) = false := by rw [beq_eq_false_iff_ne]; omega
  have c5 : decide (x.Day > day) = false := decide_eq_false (by omega)
  have c6 : w64 ((cnt : Int) + 1) = ((cnt + 1 : Nat) : Int) := by rw [w64_id (by omega) (by omega)]; rfl
  have hxi : idxL L (cnt : Int) = some x := by rw [idxL_nat, hx]
  unfold ageM at hage
  unfold goesM at hg
  simp only [bindv] at hage
  have hw : ∀ v : Int, 0 ≤ v → v ≤ 2199023255552 → w64 v = v := fun v h1 h2 => w64_id (by omega) (by omega)
  have ham : ∀ {i : Nat} {c : Held} {n : Int}, findS A n = some i → A[i]? = some c → (mapGet am n).getD 0 = c.C.Amount ∧ 0 ≤ c.C.Amount ∧ c.C.Amount ≤ 1099511627776 := fun {i c n} h1 h2 => by
    have hn := find_num h1 h2
    have hc := hoA.each c (List.mem_of_getElem? h2)
    have := hc.amt; have := hc.room
    exact ⟨by rw [dA.am, ← hn, amtF_at hnd h2], by omega, by omega⟩
  have hne : x.Kind ≠ 1 → cnt ≠ f := fun h e => h (hfk x (by rw [← e]; exact hx))
  have key : ∀ r, b_wormtublaw06_drop_1 L (f : Int) day by_ (am, wo, pl, age, here, s.last, (cnt : Int), iw, ap) = r ↔ (if (x.Kind == 0) then (some (.next (am, (mapSet wo x.Cask x.Other), (mapSet pl x.Cask x.Where), age', here, x.Day, ((cnt + 1 : Nat) : Int), iw', ap'))) else (if (x.Kind == 1) then ((if ((cnt : Int) == (f : Int)) then (some x.Cask) else (some here) : Option (Int)).bind fun j201 => (some (.next ((mapSet am x.Cask (w64 (((mapGet am x.Cask).getD 0) + x.Amount))), wo, pl, age', j201, x.Day, ((cnt + 1 : Nat) : Int), iw', ap')))) else (if (x.Kind == 2) then ((if g then (some x.Other) else (some here) : Option (Int)).bind fun j212 => (some (.next ((mapSet (mapSet am x.Cask (w64 (((mapGet am x.Cask).getD 0) - x.Amount))) x.Other (w64 (((mapGet (mapSet am x.Cask (w64 (((mapGet am x.Cask).getD 0) - x.Amount))) x.Other).getD 0) + x.Amount))), wo, pl, age', j212, x.Day, ((cnt + 1 : Nat) : Int), iw', ap')))) else (if (x.Kind == 3) then (if g then (some (.done (.inr ((-1), 0, iw', ap', false)))) else (some (.next ((mapSet am x.Cask (w64 (((mapGet am x.Cask).getD 0) - x.Amount))), wo, pl, age', here, x.Day, ((cnt + 1 : Nat) : Int), iw', ap')))) else ((if (x.Kind == 4) then (some (wo, (mapSet pl x.Cask x.Where))) else (if (x.Kind == 8) then (some ((mapSet wo x.Cask x.Where), pl)) else (some (wo, pl))) : Option (DM × DM)).bind fun j249 => (some (.next (am, j249.1, j249.2, age', here, x.Day, ((cnt + 1 : Nat) : Int), iw', ap')))))))) = r := by
    intro r
    have : b_wormtublaw06_drop_1 L (f : Int) day by_ (am, wo, pl, age, here, s.last, (cnt : Int), iw, ap) = (if (x.Kind == 0) then (some (.next (am, (mapSet wo x.Cask x.Other), (mapSet pl x.Cask x.Where), age', here, x.Day, ((cnt + 1 : Nat) : Int), iw', ap'))) else (if (x.Kind == 1) then ((if ((cnt : Int) == (f : Int)) then (some x.Cask) else (some here) : Option (Int)).bind fun j201 => (some (.next ((mapSet am x.Cask (w64 (((mapGet am x.Cask).getD 0) + x.Amount))), wo, pl, age', j201, x.Day, ((cnt + 1 : Nat) : Int), iw', ap')))) else (if (x.Kind == 2) then ((if g then (some x.Other) else (some here) : Option (Int)).bind fun j212 => (some (.next ((mapSet (mapSet am x.Cask (w64 (((mapGet am x.Cask).getD 0) - x.Amount))) x.Other (w64 (((mapGet (mapSet am x.Cask (w64 (((mapGet am x.Cask).getD 0) - x.Amount))) x.Other).getD 0) + x.Amount))), wo, pl, age', j212, x.Day, ((cnt + 1 : Nat) : Int), iw', ap')))) else (if (x.Kind == 3) then (if g then (some (.done (.inr ((-1), 0, iw', ap', false)))) else (some (.next ((mapSet am x.Cask (w64 (((mapGet am x.Cask).getD 0) - x.Amount))), wo, pl, age', here, x.Day, ((cnt + 1 : Nat) : Int), iw', ap')))) else ((if (x.Kind == 4) then (some (wo, (mapSet pl x.Cask x.Where))) else (if (x.Kind == 8) then (some ((mapSet wo x.Cask x.Where), pl)) else (some (wo, pl))) : Option (DM × DM)).bind fun j249 => (some (.next (am, j249.1, j249.2, age', here, x.Day, ((cnt + 1 : Nat) : Int), iw', ap')))))))) := by
      unfold b_wormtublaw06_drop_1
      simp only [c1, c2, if_true, hxi, Option.bind_some, c3, bindv]
      rw [hage]
      simp only [Option.bind_some, c4, Bool.false_eq_true, if_false, c5]
      rw [hg]
      simp only [Option.bind_some, c6]
    rw [this]
  simp only [key]
  cases ev with
  | make k fn n =>
    refine .inl ⟨_, _, _, _, _, _, _, by rw [if_pos (by simp [k])], dA.make hv (hne (by omega)) fn⟩
  | fill k i c fn hi r =>
    obtain ⟨a1, a2, a3⟩ := ham fn hi
    have ha := evAmt hv (.inl k)
    refine .inl ⟨_, _, _, _, _, _, _, ?_, dA.fill hnd (hoA.each c (List.mem_of_getElem? hi)) k hv fn hi⟩
    rw [if_neg (by simp [k]), if_pos (by simp [k]), a1, hw _ (by omega) (by omega)]
    by_cases e : cnt = f
    · rw [if_pos (by simp [e]), if_pos e]; rfl
    · rw [if_neg (by simp; omega), if_neg e]; rfl
  | rack k i c fn hi j o fo hj ne ow q1 q2 le r =>
    obtain ⟨a1, a2, a3⟩ := ham fn hi
    obtain ⟨b1, b2, b3⟩ := ham fo hj
    have ha := evAmt hv (.inr (.inl k))
    obtain ⟨D, hneq⟩ := dA.rack hnd (hoA.each o (List.mem_of_getElem? hj)) k hv (hne (by omega)) fn hi fo hj ne le (goes := g) g1 (fun e1 e2 => g2 e1 (by rw [a1]; exact e2))
    have eo : (mapGet (mapSet am x.Cask (c.C.Amount - x.Amount)) x.Other).getD 0 = o.C.Amount := by
      rw [mapGet_set, if_neg (by rw [beq_iff_eq]; exact fun e => hneq e.symm), b1]
    refine .inl ⟨_, _, _, _, _, _, _, ?_, D⟩
    rw [if_neg (by simp [k]), if_neg (by simp [k]), if_pos (by simp [k]), a1, hw (c.C.Amount - x.Amount) (by omega) (by omega), eo, hw (o.C.Amount + x.Amount) (by omega) (by omega)]
    cases g <;> rfl
  | drain k i c fn hi q1 le =>
    obtain ⟨a1, a2, a3⟩ := ham fn hi
    have ha := evAmt hv (.inr (.inr k))
    cases g with
    | true =>
      refine .inr ⟨(-1, 0, iw', ap', false), ?_, ?_⟩
      · rw [if_neg (by simp [k]), if_neg (by simp [k]), if_neg (by simp [k]), if_pos (by simp [k])]; rfl
      · rfl
    | false =>
      refine .inl ⟨_, _, _, _, _, _, _, ?_, dA.drain hnd (hne (by omega)) fn hi le fun e1 e2 => by have := g2 e1 (by rw [a1]; exact e2); cases this⟩
      rw [if_neg (by simp [k]), if_neg (by simp [k]), if_neg (by simp [k]), if_pos (by simp [k]), a1, hw (c.C.Amount - x.Amount) (by omega) (by omega)]; rfl
  | carry k i c fn hi =>
    refine .inl ⟨_, _, _, _, _, _, _, ?_, dA.carry hnd (hne (by omega)) fn hi⟩
    rw [if_neg (by simp [k]), if_neg (by simp [k]), if_neg (by simp [k]), if_neg (by simp [k]), if_pos (by simp [k])]; rfl
  | sell k i c fn hi o q1 t =>
    refine .inl ⟨_, _, _, _, _, _, _, ?_, dA.other hnd (h' := { c with C := { c.C with Owner := x.To } }) (hne (by omega)) hi rfl rfl rfl rfl rfl rfl rfl rfl⟩
    rw [if_neg (by simp [k]), if_neg (by simp [k]), if_neg (by simp [k]), if_neg (by simp [k]), if_neg (by simp [k]), if_neg (by simp [k])]; rfl
  | pledge k i c fn hi o q1 =>
    refine .inl ⟨_, _, _, _, _, _, _, ?_, dA.other hnd (h' := { c with C := { c.C with Creditor := x.To } }) (hne (by omega)) hi rfl rfl rfl rfl rfl rfl rfl rfl⟩
    rw [if_neg (by simp [k]), if_neg (by simp [k]), if_neg (by simp [k]), if_neg (by simp [k]), if_neg (by simp [k]), if_neg (by simp [k])]; rfl
  | free k i c fn hi q1 =>
    refine .inl ⟨_, _, _, _, _, _, _, ?_, dA.other hnd (h' := { c with C := { c.C with Creditor := -1 } }) (hne (by omega)) hi rfl rfl rfl rfl rfl rfl rfl rfl⟩
    rw [if_neg (by simp [k]), if_neg (by simp [k]), if_neg (by simp [k]), if_neg (by simp [k]), if_neg (by simp [k]), if_neg (by simp [k])]; rfl
  | char k i c fn hi q1 =>
    refine .inl ⟨_, _, _, _, _, _, _, ?_, dA.char hnd (hne (by omega)) fn hi q1⟩
    rw [if_neg (by simp [k]), if_neg (by simp [k]), if_neg (by simp [k]), if_neg (by simp [k]), if_neg (by simp [k]), if_pos (by simp [k])]; rfl
end
end Go.Proofs.Ytkedjmhhcekmiaa
end

section
namespace Go.Proofs.Ytkedjmhhcekmiaa
open Go.Dec
theorem DropE.start (f : Nat) : DropE f 0 0 [] [] [] [] 0 (-1) zN zN :=
  ⟨fun _ => rfl, fun _ _ h => (by cases h), fun _ _ h => (by cases h), by omega, fun _ => ⟨Int.le_refl 0, Int.le_refl 0⟩, fun _ => ⟨Int.le_refl 0, Int.le_refl 0⟩, .inl ⟨rfl, Nat.zero_le _⟩⟩
section
variable {L : List Ev} {f : Nat} {day : Int} {by_ : List Int} {sL : Cur}
theorem drop_end {am wo pl : DM} {age here : Int} {iw ap : Nat → Int} (hs : stS L = some sL) (hd : sL.last ≤ day) (hd1 : day ≤ 65536) (d : DropE f L.length sL.last sL.all am wo pl age here iw ap) :
    ∃ age' iw' ap', b_wormtublaw06_drop_1 L (f : Int) day by_ (am, wo, pl, age, here, sL.last, (L.length : Int), iw, ap) = some (.done (.inl (am, wo, pl, age', here, iw', ap'))) ∧ DropE f L.length day (atS day sL) am wo pl age' here iw' ap' := by
  have ho := st_ok hs
  obtain ⟨age', iw', ap', hage, dA⟩ := age_step d ho.ok ho.day.1 hd hd1
  refine ⟨age', iw', ap', ?_, dA⟩
  have c1 : decide ((L.length : Int) ≤ (L.length : Int)) = true := decide_eq_true (by omega)
  have c2 : decide ((L.length : Int) < (L.length : Int)) = false := decide_eq_false (by omega)
  have c4 : ((L.length : Int) == (L.length : Int)) = true := by simp
  unfold ageM at hage
  simp only [bindv] at hage
  unfold b_wormtublaw06_drop_1
  simp only [c1, c2, if_true, Bool.false_eq_true, if_false, Option.bind_some, bindv]
  rw [hage]
  simp only [Option.bind_some, c4, if_true]
theorem drop_all (hs : stS L = some sL) (hd : sL.last ≤ day) (hd1 : day ≤ 65536) (h40 : L.length ≤ 40) (hdays : ∀ x ∈ L, x.Day ≤ day) (hb : by_ ≠ []) (hfk : ∀ y, L[f]? = some y → y.Kind = 1) :
    ∃ r, m_wormtublaw06_drop L (f : Int) day by_ = some r ∧ (r.2.2.2.2 = true → ∃ h, findH (atS day sL) r.1 = some h ∧ Dr f r.2.1 r.2.2.1 r.2.2.2.1 h) := by
  obtain ⟨b, hb1, hb2⟩ := loop_inv (body := b_wormtublaw06_drop_1 L (f : Int) day by_)
    (fun s => ∃ pre post st am wo pl age here iw ap, L = pre ++ post ∧ stS pre = some st ∧ s = (am, wo, pl, age, here, st.last, (pre.length : Int), iw, ap) ∧ DropE f pre.length st.last st.all am wo pl age here iw ap)
    (fun s => ((L.length : Int) + 1 - s.2.2.2.2.2.2.1).toNat)
    (fun b => match b with
      | .inl v => v.2.2.2.2.1 ≥ 0 → ∃ h, findH (atS day sL) v.2.2.2.2.1 = some h ∧ Dr f v.2.2.2.1 v.2.2.2.2.2.1 v.2.2.2.2.2.2 h
      | .inr v => v.2.2.2.2 = false)
    (fun s ⟨pre, post, st, am, wo, pl, age, here, iw, ap, e1, e2, e3, e4⟩ => by
      cases post with
      | nil =>
        rw [List.append_nil] at e1
        subst e1
        rw [hs] at e2; cases e2
        obtain ⟨age', iw', ap', h1, h2⟩ := drop_end (by_ := by_) hs hd hd1 e4
        refine .inr ⟨_, by rw [e3]; exact h1, fun hh => ?_⟩
        rcases h2.drop with ⟨h3, _⟩ | ⟨_, h, h4, h5⟩
        · have : here ≥ 0 := hh; omega
        · exact ⟨h, h4, h5⟩
      | cons x post =>
        obtain ⟨l', _, hn, ev, hv, hday, ho⟩ := st_next hs e1 e2
        have hx : L[pre.length]? = some x := getEl_mid e1
        have hlt := lt_mid e1
        rcases drop_event hx h40 (hdays x (by rw [e1]; simp)) hb hfk e4 ho hv hday ev with ⟨am', wo', pl', age', here', iw', ap', h1, h2⟩ | ⟨r, h1, h2⟩
        · refine .inl ⟨_, by rw [e3]; exact h1, ⟨pre ++ [x], post, ⟨l', x.Day⟩, am', wo', pl', age', here', iw', ap', by rw [e1]; simp, hn, by simp, by rw [List.length_append]; exact h2⟩, ?_⟩
          rw [e3]
          show ((L.length : Int) + 1 - ((pre.length + 1 : Nat) : Int)).toNat < ((L.length : Int) + 1 - (pre.length : Int)).toNat
          omega
        · exact .inr ⟨_, by rw [e3]; exact h1, h2⟩) _ ([], [], [], 0, -1, 0, 0, zN, zN) (Nat.le_refl _) ⟨[], L, ⟨[], 0⟩, [], [], [], 0, -1, zN, zN, rfl, rfl, rfl, DropE.start f⟩
  unfold m_wormtublaw06_drop
  simp only [bindv]
  have hb1' : loopM (b_wormtublaw06_drop_1 L (f : Int) day by_) ([], [], [], 0, -1, 0, 0, (fun _ => 0), (fun _ => 0)) = some b := hb1
  rw [hb1', Option.bind_some]
  cases b with
  | inl v => exact ⟨_, rfl, fun h => hb2 (by simpa using h)⟩
  | inr v => exact ⟨_, rfl, fun h => by rw [show v.2.2.2.2 = false from hb2] at h; cases h⟩
end
def SrcOK (pre : List Ev) (s : Cur) : Prop := ∀ h ∈ s.all, ∀ z ∈ h.Fills, ∃ (j : Nat) (x : Ev), z = (j : Int) ∧ pre[j]? = some x ∧ x.Kind = 1
theorem SrcOK.step {pre : List Ev} {x : Ev} {s : Cur} {l' : List Held} (h : SrcOK pre s) (d : EvD (atS x.Day s) x pre.length l') : SrcOK (pre ++ [x]) ⟨l', x.Day⟩ := by
  have up : ∀ z : Int, (∃ (j : Nat) (y : Ev), z = (j : Int) ∧ pre[j]? = some y ∧ y.Kind = 1) → ∃ (j : Nat) (y : Ev), z = (j : Int) ∧ (pre ++ [x])[j]? = some y ∧ y.Kind = 1 := fun z ⟨j, y, h1, h2, h3⟩ =>
    ⟨j, y, h1, by rw [List.getElem?_append_left (List.getElem?_eq_some_iff.1 h2).1]; exact h2, h3⟩
  have hA : ∀ h ∈ atS x.Day s, ∀ z ∈ h.Fills, ∃ (j : Nat) (y : Ev), z = (j : Int) ∧ (pre ++ [x])[j]? = some y ∧ y.Kind = 1 := fun h' hh z hz => by
    obtain ⟨h0, h1, rfl⟩ := List.mem_map.1 hh
    refine up z (h h0 h1 z ?_)
    unfold olderS at hz
    split at hz <;> exact hz
  generalize atS x.Day s = A at *
  have hset : ∀ {B : List Held} {i : Nat} {h' : Held}, (∀ h ∈ B, ∀ z ∈ h.Fills, ∃ (j : Nat) (y : Ev), z = (j : Int) ∧ (pre ++ [x])[j]? = some y ∧ y.Kind = 1) → (∀ z ∈ h'.Fills, ∃ (j : Nat) (y : Ev), z = (j : Int) ∧ (pre ++ [x])[j]? = some y ∧ y.Kind = 1) → ∀ h ∈ B.set i h', ∀ z ∈ h.Fills, ∃ (j : Nat) (y : Ev), z = (j : Int) ∧ (pre ++ [x])[j]? = some y ∧ y.Kind = 1 := fun {B i h'} hB hn h hh => by
    rcases List.mem_or_eq_of_mem_set hh with h1 | h1
    · exact hB h h1
    · rw [h1]; exact hn
  have hpour : ∀ (o c : Held) (n z : Int), z ∈ (pourS o c n).Fills → z ∈ o.Fills ∨ z ∈ c.Fills := fun o c n z hz => by
    unfold pourS at hz
    split at hz
    · exact .inr hz
    · exact mem_uniS.1 hz
  have hless : ∀ (c : Held) (n z : Int), z ∈ (lessS c n).Fills → z ∈ c.Fills := fun c n z hz => by
    unfold lessS at hz
    split at hz
    · cases hz
    · exact hz
  cases d with
  | make k f n =>
    intro h' hh z hz
    rcases List.mem_append.1 hh with hh | hh
    · exact hA h' hh z hz
    · simp only [List.mem_singleton] at hh; subst hh; cases hz
  | fill k i c f hi r =>
    refine hset hA fun z hz => ?_
    rcases hpour _ _ _ z hz with hz | hz
    · exact hA c (List.mem_of_getElem? hi) z hz
    · simp only [fillS, List.mem_singleton] at hz
      exact ⟨pre.length, x, hz, by simp, k⟩
  | rack k i c f hi j o f' hj ne ow c1 c2 a r =>
    refine hset (hset hA fun z hz => ?_) fun z hz => hA c (List.mem_of_getElem? hi) z (hless _ _ z hz)
    rcases hpour _ _ _ z hz with hz | hz
    · exact hA o (List.mem_of_getElem? hj) z hz
    · exact hA c (List.mem_of_getElem? hi) z hz
  | drain k i c f hi c1 a => exact hset hA fun z hz => hA c (List.mem_of_getElem? hi) z (hless _ _ z hz)
  | carry k i c f hi => exact hset hA fun z hz => hA c (List.mem_of_getElem? hi) z hz
  | sell k i c f hi o c1 t => exact hset hA fun z hz => hA c (List.mem_of_getElem? hi) z hz
  | pledge k i c f hi o c1 => exact hset hA fun z hz => hA c (List.mem_of_getElem? hi) z hz
  | free k i c f hi c1 => exact hset hA fun z hz => hA c (List.mem_of_getElem? hi) z hz
  | char k i c f hi a => exact hset hA fun z hz => hA c (List.mem_of_getElem? hi) z hz
theorem fills_loop {l : List Ev} {k : Nat} {r : List ApiCask × Int × Int} (hk : k ≤ l.length) (h40 : l.length ≤ 40) (hr : r.2.1 = (k : Int)) :
    ∃ t, loopM (b_wormtublaw06_CaskDrops_1 l r) ([], 0) = some t ∧ ∀ z ∈ t, ∃ (j : Nat) (x : Ev), z = (j : Int) ∧ j < k ∧ l[j]? = some x ∧ x.Kind = 1 := by
  have hlen : (l.take k).length = k := by simp; omega
  obtain ⟨t', ⟨_, ht⟩, hl⟩ := loopM_pre (body := b_wormtublaw06_CaskDrops_1 l r) (fun i (t : List Int) => (t, (i : Int))) (fun t => t) (fun pre t => t.length ≤ pre.length ∧ ∀ z ∈ t, ∃ (j : Nat) (x : Ev), z = (j : Int) ∧ j < k ∧ l[j]? = some x ∧ x.Kind = 1) (l.take k)
    (fun pre x post t hl ⟨h1, h2⟩ => by
      have hlt : pre.length < k := by have := lt_mid hl; omega
      have hx : l[pre.length]? = some x := by
        have := getEl_mid hl
        rwa [List.getElem?_take, if_pos hlt] at this
      have hxi : idxL l (pre.length : Int) = some x := by rw [idxL_nat, hx]
      have e1 : decide ((pre.length : Int) < r.2.1) = true := decide_eq_true (by omega)
      have e3 : w64 ((pre.length : Int) + 1) = ((pre.length + 1 : Nat) : Int) := by rw [w64_id (by omega) (by omega)]; rfl
      by_cases hk1 : x.Kind = 1
      · refine ⟨t ++ [(pre.length : Int)], ?_, by simp; omega, fun z hz => ?_⟩
        · unfold b_wormtublaw06_CaskDrops_1
          simp only [e1, if_true, hxi, Option.bind_some]
          rw [if_pos (by simp [hk1]), appO_some' (by simp; omega)]
          simp only [Option.bind_some, bindv, e3]
        · rcases List.mem_append.1 hz with hz | hz
          · exact h2 z hz
          · simp only [List.mem_singleton] at hz; exact ⟨pre.length, x, hz, hlt, hx, hk1⟩
      · refine ⟨t, ?_, by simp; omega, h2⟩
        unfold b_wormtublaw06_CaskDrops_1
        simp only [e1, if_true, hxi, Option.bind_some]
        rw [if_neg (by simp [hk1])]
        simp only [Option.bind_some, bindv, e3])
    (fun t ht => by
      unfold b_wormtublaw06_CaskDrops_1
      rw [if_neg (by simp [hr]; omega)]) (l.take k) [] [] rfl ⟨Nat.le_refl _, fun _ h => by cases h⟩
  exact ⟨t', hl, ht⟩
theorem woods2 {r : Int × Int × (Nat → Int) × (Nat → Int) × Bool} {q : ApiCask × Int} (h : ∀ k, q.1.Woods k ≤ r.2.2.1 k) : loopM (b_wormtublaw06_CaskDrops_2 r q) 0 = some (.inl ()) := by
  obtain ⟨_, _, hl⟩ := loopM_upto (body := b_wormtublaw06_CaskDrops_2 r q) (fun i (_ : Unit) => (i : Int)) (fun _ => (.inl () : Unit ⊕ Bool)) (fun _ _ => True) 8
    (fun i t hi _ => ⟨(), by
      have e3 : w64 ((i : Int) + 1) = ((i + 1 : Nat) : Int) := by rw [w64_id (by omega) (by omega)]; rfl
      have e1 : decide ((i : Int) < 8) = true := decide_eq_true (by omega)
      have e4 : decide (q.1.Woods i > r.2.2.1 i) = false := decide_eq_false (by have := h i; omega)
      unfold b_wormtublaw06_CaskDrops_2
      simp only [e1, if_true, idxO_nat (show i < 8 from hi), Option.bind_some, e4, Bool.false_eq_true, if_false, bindv, e3], trivial⟩)
    (fun t _ => by unfold b_wormtublaw06_CaskDrops_2; rw [if_neg (by simp)]) 8 0 () rfl trivial
  exact hl
theorem places2 {r : Int × Int × (Nat → Int) × (Nat → Int) × Bool} {q : ApiCask × Int} (h : ∀ k, q.1.Places k ≤ r.2.2.2.1 k) : loopM (b_wormtublaw06_CaskDrops_3 r q) 0 = some (.inl ()) := by
  obtain ⟨_, _, hl⟩ := loopM_upto (body := b_wormtublaw06_CaskDrops_3 r q) (fun i (_ : Unit) => (i : Int)) (fun _ => (.inl () : Unit ⊕ Bool)) (fun _ _ => True) 8
    (fun i t hi _ => ⟨(), by
      have e3 : w64 ((i : Int) + 1) = ((i + 1 : Nat) : Int) := by rw [w64_id (by omega) (by omega)]; rfl
      have e1 : decide ((i : Int) < 8) = true := decide_eq_true (by omega)
      have e4 : decide (q.1.Places i > r.2.2.2.1 i) = false := decide_eq_false (by have := h i; omega)
      unfold b_wormtublaw06_CaskDrops_3
      simp only [e1, if_true, idxO_nat (show i < 8 from hi), Option.bind_some, e4, Bool.false_eq_true, if_false, bindv, e3], trivial⟩)
    (fun t _ => by unfold b_wormtublaw06_CaskDrops_3; rw [if_neg (by simp)]) 8 0 () rfl trivial
  exact hl
theorem src_loop {l : List Ev} {k : Nat} {r : List ApiCask × Int × Int} {f : Int} {S : List Int} {e : Int} (hr : r.2.1 = (k : Int)) (hS : ∀ z ∈ S, ∃ (j : Nat) (x : Ev), z = (j : Int) ∧ j < k ∧ l[j]? = some x ∧ x.Kind = 1) (hs : S.Pairwise (· < ·)) (hl4 : S.length ≤ 4096) :
    loopM (b_wormtublaw06_CaskDrops_4 l r f (S, e)) (false, 0) = some (.inl (S.any (· == f))) := by
  obtain ⟨t', ht, hl⟩ := loopM_pre (body := b_wormtublaw06_CaskDrops_4 l r f (S, e)) (fun i (t : Bool) => (t, (i : Int))) (fun t => (.inl t : Bool ⊕ Bool)) (fun pre t => t = pre.any (· == f)) S
    (fun pre z post t hl' ht => by
      subst ht
      have hlt := lt_mid hl'
      have hz : S[pre.length]? = some z := getEl_mid hl'
      have hzi : idxL S (pre.length : Int) = some z := by rw [idxL_nat, hz]
      obtain ⟨j, x, h1, h2, h3, h4⟩ := hS z (by rw [hl']; simp)
      have hxi : idxL l z = some x := by rw [h1, idxL_nat, h3]
      have e1 : decide ((pre.length : Int) < (S.length : Int)) = true := decide_eq_true (by omega)
      have e3 : w64 ((pre.length : Int) + 1) = ((pre.length + 1 : Nat) : Int) := by rw [w64_id (by omega) (by omega)]; rfl
      have d1 : decide (z < 0) = false := decide_eq_false (by omega)
      have d2 : decide (z ≥ r.2.1) = false := decide_eq_false (by omega)
      have d3 : (x.Kind != 1) = false := by simp [h4]
      have d4 : (if decide ((pre.length : Int) > 0) = true then ((idxL S (w64 ((pre.length : Int) - 1))).bind fun x518 => some (decide (z ≤ x518))) else (some false)) = some false := by
        by_cases h0 : pre.length = 0
        · rw [if_neg (by simp [h0])]
        · rw [if_pos (decide_eq_true (by omega))]
          have e5 : w64 ((pre.length : Int) - 1) = ((pre.length - 1 : Nat) : Int) := by rw [w64_id (by omega) (by omega)]; omega
          have hy : S[pre.length - 1]? = some pre[pre.length - 1] := by
            rw [hl', List.getElem?_append_left (by omega)]; exact List.getElem?_eq_getElem (by omega)
          have hlt' : pre[pre.length - 1] < z := by
            rw [hl'] at hs
            exact (List.pairwise_append.1 hs).2.2 _ (List.getElem_mem _) z (by simp)
          rw [e5, idxL_nat, hy]
          simp only [Option.bind_some]
          rw [decide_eq_false (by omega)]
      refine ⟨(pre ++ [z]).any (· == f), ?_, rfl⟩
      have ez : (if (pre.any (· == f)) = true then some true else (some (z == f))) = some ((pre ++ [z]).any (· == f)) := by
        rw [List.any_append]
        cases pre.any (· == f) <;> simp
      unfold b_wormtublaw06_CaskDrops_4
      simp only [e1, if_true, hzi, Option.bind_some]
      rw [ez]
      simp only [Option.bind_some, d1, d2, hxi, d3, Bool.false_eq_true, if_false]
      rw [d4]
      simp only [Option.bind_some, Bool.false_eq_true, if_false, bindv, e3])
    (fun t ht => by
      unfold b_wormtublaw06_CaskDrops_4
      rw [if_neg (by simp)]) S [] false rfl rfl
  rw [ht] at hl
  exact hl
theorem cut_take {l : List Ev} {k : Nat} (h : k ≤ l.length) : sliceL l 0 (k : Int) = some (l.take k) := by
  unfold sliceL
  rw [if_pos (by omega)]
  simp
theorem law_CaskDrops : LawCaskDrops := fun a0 a1 a2 a3 _ _ hwh _ => by
  unfold m_wormtublaw06_CaskDrops
  by_cases h40 : (decide ((a0.length : Int) > 40) || ((a3.length : Int) == 0)) = true
  · rw [if_pos h40, awake_true]; rfl
  · rw [if_neg h40]
    simp only [Bool.or_eq_true, decide_eq_true_eq, beq_iff_eq, not_or] at h40
    have hlen : a0.length ≤ 40 := by omega
    have hby : a3 ≠ [] := fun e => h40.2 (by simp [e])
    refine bind_of (Play_prog _ _) ?_
    cases hp : playS a0 a1 with
    | mk r k =>
      have hk := play_le hp
      cases r with
      | inr e =>
        have he := playS_err hp
        have hA : allS' a0 a1 = ([], (k : Int), e) := by unfold allS'; rw [hp]
        rw [hA]
        have e1 : (e != 0) = true := by simpa using he
        simp only [e1, if_true, awake_true]
        rfl
      | inl all =>
        have hA : allS' a0 a1 = ((ordS all).map (·.C), (k : Int), 0) := by unfold allS'; rw [hp]
        obtain ⟨hok, hk4, hd0, hd1⟩ := playS_ok hp
        obtain ⟨s, hall, hst, hsl, _, hdays, _⟩ := play_st hp
        obtain ⟨s', hall', hsrc, _, _, _, _, _, _⟩ := play_hist SrcOK (fun _ h => by cases h) (fun pre x s l' h _ _ _ _ d => h.step d) hp
        have hlk : (a0.take k).length = k := by simp; omega
        have hAt := At_prog a0
        have hSo := Sources_prog a0
        rw [hA]
        have e0 : ((0 : Int) != 0) = false := rfl
        have e1 : (decide ((k : Int) < 0) || decide ((k : Int) > (a0.length : Int))) = false := by
          rw [decide_eq_false (by omega), decide_eq_false (by omega)]; rfl
        simp only [e0, Bool.false_eq_true, if_false, e1]
        obtain ⟨t, hl1, ht⟩ := fills_loop (r := ((ordS all).map (·.C), (k : Int), 0)) hk hlen rfl
        rw [hl1, Option.bind_some]
        by_cases hz : t.length = 0
        · have : ((t.length : Int) == 0) = true := by simp [hz]
          simp only [this, if_true, awake_true]; rfl
        · have : ((t.length : Int) == 0) = false := by rw [beq_eq_false_iff_ne]; omega
          simp only [this, Bool.false_eq_true, if_false]
          have hw := wf_u8 hwh
          have ew : w64 a2 = a2 := w64_id (by omega) (by omega)
          have hrem : remK a2 (t.length : Int) = some (a2 % (t.length : Int)) := by
            unfold remK; rw [if_neg (by omega), Int.tmod_eq_emod_of_nonneg hw.1]
          obtain ⟨z, hzi, hzt⟩ := idxL_lt (l := t) (Int.emod_nonneg a2 (show (t.length : Int) ≠ 0 by omega)) (Int.emod_lt_of_pos a2 (show (0:Int) < (t.length : Int) by omega))
          obtain ⟨f, y, rfl, hfk, hfy, hy1⟩ := ht z (List.mem_of_getElem? hzt)
          rw [ew, hrem, Option.bind_some, hzi, Option.bind_some, cut_take hk, Option.bind_some]
          obtain ⟨r, hr1, hr2⟩ := drop_all (by_ := a3) (f := f) hst hsl hd1 (by omega) hdays hby (fun y' hy' => by
            rw [List.getElem?_take, if_pos hfk, hfy] at hy'; cases hy'; exact hy1)
          rw [hr1, Option.bind_some]
          cases hr3 : r.2.2.2.2 with
          | false => simp [awake_true]
          | true =>
            obtain ⟨h, hh, hdr⟩ := hr2 hr3
            rw [← hall] at hh
            have hmem := (findH_num hh).2
            have hho := hok.each h hmem
            have t1 : tellS a0 r.1 a1 = (h.C, 0) := by unfold tellS; rw [hp]; simp only [hh]
            have t2 : srcS a0 r.1 a1 = (h.Fills, 0) := by unfold srcS; rw [hp]; simp only [hh]
            have g1 : decide (h.C.Amount ≤ 0) = false := decide_eq_false (by have := hdr.amt; omega)
            have g2 : decide (h.C.Age > r.2.1) = false := decide_eq_false (by have := hdr.age; omega)
            simp only [Bool.not_true, Bool.false_eq_true, if_false]
            rw [hAt, Option.bind_some, hSo, Option.bind_some, t1, t2]
            simp only [e0, g1, g2, Bool.or_self, Bool.false_eq_true, if_false]
            rw [woods2 hdr.iw]
            simp only [Option.bind_some]
            rw [places2 hdr.ap]
            simp only [Option.bind_some]
            have hF : ∀ z ∈ h.Fills, ∃ (j : Nat) (x : Ev), z = (j : Int) ∧ j < k ∧ a0[j]? = some x ∧ x.Kind = 1 := fun z hz => by
              rw [hall'] at hmem
              obtain ⟨h0, h1, e2⟩ := List.mem_map.1 hmem
              obtain ⟨j, x, j1, j2, j3⟩ := hsrc h0 h1 z (by rw [← e2] at hz; unfold olderS at hz; split at hz <;> exact hz)
              have hj : j < k := by have := (List.getElem?_eq_some_iff.1 j2).1; omega
              exact ⟨j, x, j1, hj, by rwa [List.getElem?_take, if_pos hj] at j2, j3⟩
            rw [src_loop (r := ((ordS all).map (·.C), (k : Int), 0)) rfl hF hho.fills.1 (by have := fills_len hho; omega)]
            have : h.Fills.any (· == (f : Int)) = true := List.any_eq_true.2 ⟨_, hdr.fill, by simp⟩
            rw [this]
            simp [awake_true]
theorem caskDrops_holds : Rows.CaskDropsSaid := said_CaskDrops law_CaskDrops
end Go.Proofs.Ytkedjmhhcekmiaa
end
