/- Own texts and texts printed by a program of mine, for fileLong_holds; only what it reaches. -/
import Derived.Test.YthnlglmjffdpfaaGreatDoorPa5
import Derived.Test.YthnlglmjffdpfaaGreatDoorTie
import Derived.Test.YthnlglmjffdpfaaGreatDoorCards
section
namespace Go.Proofs.YthnlglmjffdpfaaGreatDoor
open Go.Dec Go.Shelf Go.RowKit Go.Maps Go.Sort
noncomputable def b_wormtublaw14_FileLong_1 (x1 : ApiBooked) (s15 : (List ApiBooked)) : Option (Ctl ((List ApiBooked)) (((List ApiBooked)))) :=
 if (decide ((s15.length : Int) < 1024)) then ((appO s15 ([x1])).bind fun l_27 => some (.next l_27)) else (some (.done s15))
noncomputable def b_wormtublaw14_FileLong_2 (x1 : ApiBooked) (more5 : Int) (s108 : (List ApiBooked) × Int) : Option (Ctl ((List ApiBooked) × Int) (((List ApiBooked)))) :=
 if (decide (s108.2 < (w64 ((Int.tmod (w64 (more5)) 4) + 1)))) then ((appO s108.1 ([x1])).bind fun l_120 => some (.next (l_120, (w64 (s108.2 + 1))))) else (some (.done s108.1))
noncomputable def b_wormtublaw14_FileLong_3 (x1 : ApiBooked) (more5 : Int) (s287 : (List ApiBooked) × Int) : Option (Ctl ((List ApiBooked) × Int) (((List ApiBooked)))) :=
 if (decide (s287.2 < (w64 ((Int.tmod (w64 (more5)) 4) + 1)))) then ((appO s287.1 ([x1])).bind fun l_299 => some (.next (l_299, (w64 (s287.2 + 1))))) else (some (.done s287.1))
noncomputable def m_wormtublaw14_FileLong (x1 : ApiBooked) (more5 : Int) : Option Bool :=
 if (decide ((x1.N.length : Int) > 20)) then ((m_wormtublaw14_alive).bind fun r_13 => some r_13) else ((loopM (b_wormtublaw14_FileLong_1 x1) ([])).bind fun b31 => (m_file_Write b31).bind fun r_40 => if (r_40.2 == 0) then ((m_file_Read r_40.1).bind fun r_52 => (if ((r_52.2 != 0) || ((r_52.1.length : Int) != (b31.length : Int))) then (some true) else ((sliceL r_52.1 0 1).bind fun l_86 => (sliceL b31 0 1).bind fun l_91 => (m_wormtubref14_Same l_86 l_91).bind fun r_96 => some ((!r_96) || ((r_40.1.length : Int) != 110592))) : Option (Bool)).bind fun j104 => if j104 then (some false) else ((loopM (b_wormtublaw14_FileLong_2 x1 more5) (b31, 0)).bind fun b124 => (m_file_Write b124).bind fun r_133 => (mkO 1000 1000).bind fun n_144 => (mkO (w64 (25 + (w64 (more5)))) (w64 (25 + (w64 (more5))))).bind fun n_151 => (m_file_Book (List.replicate n_144 (ApiMaltStep.mk 0 0 0)) ([]) ([]) (List.replicate n_151 (ApiDutyEvent.mk 0 0 0 0 0 0))).bind fun r_156 => (mkO 1000 1000).bind fun n_202 => (mkO 24 24).bind fun n_209 => (m_file_Book (List.replicate n_202 (ApiMaltStep.mk 0 0 0)) ([]) ([]) (List.replicate n_209 (ApiDutyEvent.mk 0 0 0 0 0 0))).bind fun r_214 => (mkO 110784 110784).bind fun n_249 => (m_file_Read (List.replicate n_249 0)).bind fun r_257 => (if (((((r_133.2 == 3) && (r_156.2 == 3)) && ((r_214.1.length : Int) == 1024)) && (r_214.2 == 0)) && (r_257.2 == 8)) then ((m_wormtublaw14_alive).bind fun r_280 => some r_280) else some false).bind fun z284 => some z284)) else (if (r_40.2 != 1) then (some false) else ((loopM (b_wormtublaw14_FileLong_3 x1 more5) (b31, 0)).bind fun b303 => (m_file_Write b303).bind fun r_312 => (mkO 1000 1000).bind fun n_323 => (mkO (w64 (25 + (w64 (more5)))) (w64 (25 + (w64 (more5))))).bind fun n_330 => (m_file_Book (List.replicate n_323 (ApiMaltStep.mk 0 0 0)) ([]) ([]) (List.replicate n_330 (ApiDutyEvent.mk 0 0 0 0 0 0))).bind fun r_335 => (mkO 1000 1000).bind fun n_381 => (mkO 24 24).bind fun n_388 => (m_file_Book (List.replicate n_381 (ApiMaltStep.mk 0 0 0)) ([]) ([]) (List.replicate n_388 (ApiDutyEvent.mk 0 0 0 0 0 0))).bind fun r_393 => (mkO 110784 110784).bind fun n_428 => (m_file_Read (List.replicate n_428 0)).bind fun r_436 => (if (((((r_312.2 == 3) && (r_335.2 == 3)) && ((r_393.1.length : Int) == 1024)) && (r_393.2 == 0)) && (r_436.2 == 8)) then ((m_wormtublaw14_alive).bind fun r_459 => some r_459) else some false).bind fun z463 => some z463)))
set_option maxRecDepth 100000 in
set_option maxHeartbeats 4000000 in
theorem c_wormtublaw14_FileLong (F0 : Fz) (hT : TabsP F0) (x1 : ApiBooked) (p2 : Option Addr) (k3 : Nat) (h4 : RepSl 1 (Ex (cInt .i64)) F0 p2 k3 x1.N) (more5 : Int) : CT0 Tryz.prog 12 [(eApiBooked x1 p2 k3), (.int .u8 more5)].toArray F0 (m_wormtublaw14_FileLong x1 more5) (fun r _ v => v = (.bool r)) := by
 refine CT0.enter Tryz.func12 rfl Tryz.ntmps12 rfl fun r R => ?_
 unfold m_wormtublaw14_FileLong
 refine .seq (.region (.boxF (cs := (cApiBooked x1 p2 k3)) rfl rfl rfl (fun b6 F_7 l_8 hb9 => ?_)))
 refine .assign rfl rfl (.nil (.code (.seq (.seq (.region (.fieldAddr rfl Tryz.underlying41 rfl Tryz.sizeOf31 rfl (.loadF rfl Tryz.isAgg31 rfl hb9 rfl (.lenS rfl rfl Tryz.underlying31 rfl (.gtr rfl rfl rfl (.nil (.code ?_)))))))))))
 refine .cond rfl (fun hb10 => ?_) (fun hb10 => ?_)
 ·skip
  refine .seq (.region (.call0 rfl Tryz.call16 rfl rfl rfl (c_wormtublaw14_alive _ (hT.mono l_8)) ?_))
  rintro r_13 F_11 _ - l_12 rfl
  refine .assign rfl rfl (.nil (.code ?_))
  exact .ret0 Tryz.results12 (.tmp rfl (.nil)) (i := 0) rfl (Fz.t l_8 l_12) rfl
 ·skip
  refine .skip (.code (.seq (.region (.assign rfl rfl (.nil (.code (.seq (.block (.ownNil 2 rApiBooked 41 (.keep (.cons (k := 1) rfl (.cons (k := 2) rfl (.cons (k := 5) rfl (.nil _)))) ?_))))))))))
  refine .loop (fun (s15 : (List ApiBooked)) a w => ∃ (F_16 : Fz) (p18 : Option Addr) (k19 : Nat), F_7 ≤ F_16 ∧ Hd 124 [] [(1, (.int .u8 more5)), (2, (.pointer (some ⟨b6, 0, none⟩))), (5, (.slice p18 s15.length k19))] F_16 [ownSl 2 rApiBooked F_16 41 p18 k19 s15, R] a w) (fun b31 e a w => e = .exit 0 ∧ ∃ (F_32 : Fz) (p34 : Option Addr) (k35 : Nat), F_7 ≤ F_32 ∧ Hd 124 [] [(1, (.int .u8 more5)), (2, (.pointer (some ⟨b6, 0, none⟩))), (5, (.slice p34 b31.length k35))] F_32 [ownSl 2 rApiBooked F_32 41 p34 k35 b31, R] a w) ?_ ?_ ?_
  ·exact fun a w h => ⟨F_7, none, 0, Fz.r, h.1.sub (.cons (k := 1) rfl (.cons (k := 2) rfl (.cons (k := 5) rfl (.nil _)))), h.2⟩
  ·intro s15 ctl
   refine GC.ex (fun a w ⟨F_16, p18, k19, l_17, hA⟩ => ⟨_, hA, ?_⟩)
   unfold b_wormtublaw14_FileLong_1
   refine .seq (.seq (.region (.move rfl rfl (.lenS rfl rfl Tryz.underlying22 rfl (.lss rfl rfl rfl (.nil (.code (.cond rfl (fun hb21 => ?_) (fun hb21 => ?_)))))))))
   ·skip
    refine .skip (.code (.block (.region (.move rfl rfl (.loadFA rfl Tryz.isAgg41 Tryz.sizeOf41 rfl (l_17.mem _ _ hb9) (vs := (cApiBooked x1 p2 k3)) (by kernel_rfl) rfl ?_)))))
    refine .sliceLit (cs := [.int .i64 x1.Kind, .slice p2 x1.N.length k3]) (zc := [.int .i64 (ApiBooked.mk 0 ([])).Kind, .slice none (ApiBooked.mk 0 ([])).N.length 0]) rfl Tryz.underlying22 Tryz.sizeOf41 Tryz.zeroValue41 rfl rfl rfl (by kernel_rfl) (by kernel_rfl) (fun b22 F_23 l_24 hb25 => ?_)
    have h26 : RepSl 2 rApiBooked F_23 (some ⟨b22, 0, none⟩) 1 ([x1]) := RepSl.ofRow hb25 (.cons ok_t41.mono ⟨_, _, rfl, (h4.mono (Fz.t l_8 (Fz.t l_17 l_24)))⟩ .nil) rfl rfl
    refine .append 0 ok_t41 l_24 rfl Tryz.underlying22 Tryz.underlying22 rfl rfl rfl h26 rfl rfl (fun l_27 p28 k29 e30 => ?_)
    refine .assign rfl rfl (.nil (.block ?_))
    exact .nil (LPost.norm fun a w h => ⟨F_23, p28, k29, (Fz.t l_17 l_24), h.1.sub (.cons (k := 1) rfl (.cons (k := 2) rfl (.cons (k := 5) rfl (.nil _)))), h.2⟩)
   ·skip
    refine .exitOut rfl (LPost.exit fun a w h => ⟨rfl, F_16, p18, k19, l_17, h.1.sub (.cons (k := 1) rfl (.cons (k := 2) rfl (.cons (k := 5) rfl (.nil _)))), h.2⟩)
  ·intro b31 hb0 hk e a w hD
   obtain ⟨rfl, F_32, p34, k35, l_33, hA⟩ := hD
   refine interp_exit rfl (GE.app ?_ hk a w hA)
   refine .code (.seq (.region (.move rfl rfl (.callLendW 0 rfl Fz.r ⟨_, (List.take_of_length_le (Nat.le_refl _)).symm⟩ rfl Tryz.call17 rfl rfl rfl (fun F_37 l_38 h39 => (c_file_Write_own _ (hT.mono (Fz.t l_8 (Fz.t l_33 l_38))) b31 p34 k35 h39)) (fun r_40 F_41 p43 k44 _ l_42 => ?_)))))
   refine .move rfl rfl (.extract rfl rfl rfl (.extract rfl rfl rfl (.assign rfl rfl (.assign rfl rfl (.nil (.code (.seq (.seq (.region (.move rfl rfl (.eql rfl rfl rfl ?_)))))))))))
   refine .nil (.code (.cond rfl (fun hb46 => ?_) (fun hb46 => ?_)))
   ·skip
    refine .seq (.region (.move rfl rfl (.freezeSl 0 rfl Fz.r (fun F_47 l_48 h49 => ?_))))
    refine .call0 rfl Tryz.call19 rfl rfl rfl (c_file_Read _ (hT.mono (Fz.t l_8 (Fz.t l_33 (Fz.t l_42 l_48)))) r_40.1 p43 k44 h49) ?_
    rintro r_52 F_50 _ - l_51 ⟨p53, k54, rfl, h55⟩
    refine .move rfl rfl (.extract rfl rfl rfl (.extract rfl rfl rfl (.assign rfl rfl (.assign rfl rfl (.nil (.code (.seq (.keep (.cons (k := 1) rfl (.cons (k := 2) rfl (.cons (k := 5) rfl (.cons (k := 6) rfl (.cons (k := 8) rfl (.cons (k := 9) rfl (.nil _))))))) ?_))))))))
    refine GC.join0 (σ := Bool) (fun j104 a w => ∃ (F_105 : Fz), F_50 ≤ F_105 ∧ Hd 124 [] [(1, (.int .u8 more5)), (2, (.pointer (some ⟨b6, 0, none⟩))), (5, (.slice p34 b31.length k35)), (63, (.bool j104))] F_105 [ownSl 2 rApiBooked F_32 41 p34 k35 b31, R] a w) (fun sj => ?_) (fun j104 hs0 => GE.ex (fun a w ⟨F_105, l_106, hA⟩ => ⟨_, hA, ?_⟩))
    ·skip
     refine .drawT (p := 14) (st := []) mixedOK (by kernel_rfl) (.move rfl rfl (.neq rfl rfl rfl (.move rfl rfl (.orP (b := (r_52.2 != 0)) (b' := ((r_52.1.length : Int) != (b31.length : Int))) 6 50 (fun hb81 => ?_) (fun hb82 => ?_) (fun F_83 l_84 => ?_)))))
     ·skip
      refine .onH hb81 rfl rfl (.move rfl rfl (.onH hb81 rfl rfl (.lenS rfl rfl Tryz.underlying22 rfl (.onH hb81 rfl rfl (.move rfl rfl (.onH hb81 rfl rfl (.lenS rfl rfl Tryz.underlying22 rfl (.onH hb81 rfl rfl (.neq rfl rfl rfl (.pickFH hb81 rfl rfl rfl ?_))))))))))
      exact .fin 6 rfl rfl (by kernel_rfl) Fz.r
     ·skip
      refine .offH hb82 rfl rfl rfl (.offH hb82 rfl rfl rfl (.offH hb82 rfl rfl rfl (.offH hb82 rfl rfl rfl (.offH hb82 rfl rfl rfl (.pickTH hb82 rfl rfl rfl ?_)))))
      exact .fin 6 rfl rfl (by kernel_rfl) Fz.r
     refine .move rfl rfl (.ite (fun hb85 => ?_) (fun hb85 => ?_))
     ·skip
      refine .offH hb85 rfl rfl rfl (.offH hb85 rfl rfl rfl (.offH hb85 rfl rfl rfl (.offH hb85 rfl rfl rfl (.pendT (.offH hb85 rfl rfl rfl (.nil (.stageZ (.offH hb85 rfl rfl rfl (.pickTH hb85 rfl rfl rfl (.move rfl rfl (.off rfl rfl rfl rfl ?_)))))))))))
      refine .off rfl rfl rfl rfl (.off rfl rfl rfl rfl (.pickT rfl rfl rfl (.endT ?_)))
      exact .nil fun e a w h => by cases e; exact ⟨rfl, ⟨F_83, l_84, h.1.sub (.cons (k := 1) rfl (.cons (k := 2) rfl (.cons (k := 5) rfl (.cons (k := 63) rfl (.nil _))))), h.2⟩⟩
     ·skip
      refine .onH hb85 rfl rfl (.move rfl rfl (.onH hb85 rfl rfl (.sliceHi rfl Tryz.underlying22 Tryz.sizeOf41 (h55.mono l_84) rfl rfl (fun l_86 p87 k88 e89 h90 => ?_))))
      refine .onH hb85 rfl rfl (.move rfl rfl (.onH hb85 rfl rfl (.sliceOwnRaw 0 rfl rfl Tryz.underlying22 Tryz.sizeOf41 rfl rfl (fun l_91 hl92 => ?_))))
      refine .pendT (.onH hb85 rfl rfl (.callLendX (fun (r : Bool) v => v = (.bool r)) 0 rfl (Fz.t l_42 (Fz.t l_48 (Fz.t l_51 l_84))) hl92 rfl Tryz.call23 rfl rfl rfl (fun F_93 l_94 h95 => (c_wormtubref14_Same _ l_86 p87 k88 (h90.mono l_94) l_91 p34 k35 h95)) (fun _ _ _ h => h) (fun r_96 F_97 _ _ l_98 hv99 => ?_)))
      subst hv99
      refine .nil (.stageZ (.onH hb85 rfl rfl (.not rfl rfl (.pickFH hb85 rfl rfl rfl (.move rfl rfl (.orP (b := (!r_96)) (b' := ((r_40.1.length : Int) != 110592)) 4 63 (fun hb100 => ?_) (fun hb101 => ?_) (fun F_102 l_103 => ?_)))))))
      ·skip
       refine .onH hb100 rfl rfl (.move rfl rfl (.onH hb100 rfl rfl (.lenS rfl rfl Tryz.underlying25 rfl (.onH hb100 rfl rfl (.neq rfl rfl rfl (.pickFH hb100 rfl rfl rfl ?_))))))
       exact .fin 4 rfl rfl (by kernel_rfl) Fz.r
      ·skip
       refine .offH hb101 rfl rfl rfl (.offH hb101 rfl rfl rfl (.offH hb101 rfl rfl rfl (.pickTH hb101 rfl rfl rfl ?_)))
       exact .fin 4 rfl rfl (by kernel_rfl) Fz.r
      refine .endT ?_
      exact .nil fun e a w h => by cases e; exact ⟨rfl, ⟨F_102, (Fz.t l_84 (Fz.t l_98 l_103)), h.1.sub (.cons (k := 1) rfl (.cons (k := 2) rfl (.cons (k := 5) rfl (.cons (k := 63) rfl (.nil _))))), h.2⟩⟩
    refine .code (.cond rfl (fun hb107 => ?_) (fun hb107 => ?_))
    ·skip
     refine .seq (.region (.assign rfl rfl (.nil (.code ?_))))
     exact .ret0 Tryz.results12 (.tmp rfl (.nil)) (i := 1) rfl (Fz.t l_8 (Fz.t l_33 (Fz.t l_42 (Fz.t l_48 (Fz.t l_51 l_106))))) rfl
    ·skip
     refine .skip (.code (.seq (.seq (.region (.move rfl rfl (.convI rfl Tryz.underlying5 Tryz.underlying3 rfl (.remC rfl (by decide) rfl rfl (.add rfl rfl rfl (.move rfl rfl (.nil (.code ?_)))))))))))
     refine .block (.keep (.cons (k := 1) rfl (.cons (k := 2) rfl (.cons (k := 5) rfl (.cons (k := 69) rfl (.cons (k := 70) rfl (.nil _)))))) (.ownUp 0 (Fz.t l_42 (Fz.t l_48 (Fz.t l_51 l_106))) rfl ?_))
     refine .loop (fun (s108 : (List ApiBooked) × Int) a w => ∃ (F_109 : Fz) (p111 : Option Addr) (k112 : Nat), F_105 ≤ F_109 ∧ Hd 124 [] [(1, (.int .u8 more5)), (2, (.pointer (some ⟨b6, 0, none⟩))), (5, (.slice p111 s108.1.length k112)), (69, (.int .i64 (w64 ((Int.tmod (w64 (more5)) 4) + 1)))), (70, (.int .i64 s108.2))] F_109 [ownSl 2 rApiBooked F_109 41 p111 k112 s108.1, R] a w) (fun b124 e a w => e = .exit 2 ∧ ∃ (F_125 : Fz) (p127 : Option Addr) (k128 : Nat), F_105 ≤ F_125 ∧ Hd 124 [] [(1, (.int .u8 more5)), (5, (.slice p127 b124.length k128))] F_125 [ownSl 2 rApiBooked F_125 41 p127 k128 b124, R] a w) ?_ ?_ ?_
     ·exact fun a w h => ⟨F_105, p34, k35, Fz.r, h.1.sub (.cons (k := 1) rfl (.cons (k := 2) rfl (.cons (k := 5) rfl (.cons (k := 69) rfl (.cons (k := 70) rfl (.nil _)))))), h.2⟩
     ·intro s108 ctl
      refine GC.ex (fun a w ⟨F_109, p111, k112, l_110, hA⟩ => ⟨_, hA, ?_⟩)
      unfold b_wormtublaw14_FileLong_2
      refine .seq (.region (.lss rfl rfl rfl (.nil (.code (.seq (.cond rfl (fun hb114 => ?_) (fun hb114 => ?_)))))))
      ·skip
       refine .skip (.code (.seq (.block (.region (.move rfl rfl (.loadFA rfl Tryz.isAgg41 Tryz.sizeOf41 rfl ((Fz.t l_33 (Fz.t l_42 (Fz.t l_48 (Fz.t l_51 (Fz.t l_106 l_110))))).mem _ _ hb9) (vs := (cApiBooked x1 p2 k3)) (by kernel_rfl) rfl ?_))))))
       refine .sliceLit (cs := [.int .i64 x1.Kind, .slice p2 x1.N.length k3]) (zc := [.int .i64 (ApiBooked.mk 0 ([])).Kind, .slice none (ApiBooked.mk 0 ([])).N.length 0]) rfl Tryz.underlying22 Tryz.sizeOf41 Tryz.zeroValue41 rfl rfl rfl (by kernel_rfl) (by kernel_rfl) (fun b115 F_116 l_117 hb118 => ?_)
       have h119 : RepSl 2 rApiBooked F_116 (some ⟨b115, 0, none⟩) 1 ([x1]) := RepSl.ofRow hb118 (.cons ok_t41.mono ⟨_, _, rfl, (h4.mono (Fz.t l_8 (Fz.t l_33 (Fz.t l_42 (Fz.t l_48 (Fz.t l_51 (Fz.t l_106 (Fz.t l_110 l_117))))))))⟩ .nil) rfl rfl
       refine .append 0 ok_t41 l_117 rfl Tryz.underlying22 Tryz.underlying22 rfl rfl rfl h119 rfl rfl (fun l_120 p121 k122 e123 => ?_)
       refine .assign rfl rfl (.nil (.block (.code (.region (.add rfl rfl rfl (.move rfl rfl (.nil ?_)))))))
       exact .nil (LPost.norm fun a w h => ⟨F_116, p121, k122, (Fz.t l_110 l_117), h.1.sub (.cons (k := 1) rfl (.cons (k := 2) rfl (.cons (k := 5) rfl (.cons (k := 69) rfl (.cons (k := 70) rfl (.nil _)))))), h.2⟩)
      ·skip
       refine .exitOut rfl (LPost.exit fun a w h => ⟨rfl, F_109, p111, k112, l_110, h.1.sub (.cons (k := 1) rfl (.cons (k := 5) rfl (.nil _))), h.2⟩)
     ·intro b124 hb0 hk e a w hD
      obtain ⟨rfl, F_125, p127, k128, l_126, hA⟩ := hD
      refine interp_exit rfl (GE.app ?_ hk a w hA)
      refine .code (.seq (.region (.move rfl rfl (.callLendW 0 rfl Fz.r ⟨_, (List.take_of_length_le (Nat.le_refl _)).symm⟩ rfl Tryz.call17 rfl rfl rfl (fun F_130 l_131 h132 => (c_file_Write_own _ (hT.mono (Fz.t l_8 (Fz.t l_33 (Fz.t l_42 (Fz.t l_48 (Fz.t l_51 (Fz.t l_106 (Fz.t l_126 l_131)))))))) b124 p127 k128 h132)) (fun r_133 F_134 p136 k137 _ l_135 => ?_)))))
      refine .move rfl rfl (.extract rfl rfl rfl (.extract rfl rfl rfl (.assign rfl rfl (.assign rfl rfl (.nil (.code (.seq (.keep (.cons (k := 1) rfl (.cons (k := 11) rfl (.nil _))) (.bind (fun n_144 hx146 => ?_))))))))))
      refine .bind (fun n_151 hx153 => ?_)
      refine .bind (fun r_156 hx161 => ?_)
      refine .drawG 10 0 (fun env139 => [((.slice (env139.a 0) (List.replicate n_144 (ApiMaltStep.mk 0 0 0)).length (env139.n 0)), fun G => RepSl 3 (Ex cApiMaltStep) G (env139.a 0) (env139.n 0) (List.replicate n_144 (ApiMaltStep.mk 0 0 0))), ((.int .u8 more5), fun _ => True), ((.int .i64 (w64 (more5))), fun _ => True), ((.int .i64 (w64 (25 + (w64 (more5))))), fun _ => True), ((.slice (env139.a 40) (List.replicate n_151 (ApiDutyEvent.mk 0 0 0 0 0 0)).length (env139.n 40)), fun G => RepSl 6 (Ex cApiDutyEvent) G (env139.a 40) (env139.n 40) (List.replicate n_151 (ApiDutyEvent.mk 0 0 0 0 0 0))), ((.tuple #[(.slice (env139.a 50) r_156.1.length (env139.n 50)), (.int .i64 r_156.2)]), fun G => RepSl 2 rApiBooked G (env139.a 50) (env139.n 50) r_156.1), ((.tuple #[(.slice (env139.a 50) r_156.1.length (env139.n 50)), (.int .i64 r_156.2)]), fun _ => True), ((.slice (env139.a 50) r_156.1.length (env139.n 50)), fun _ => True), ((.int .i64 r_156.2), fun _ => True), ((.slice (env139.a 50) r_156.1.length (env139.n 50)), fun _ => True)]) (fun L env139 => [ownSl 1 (Ex (cInt .u8)) F_134 5 p136 k137 r_133.1, ownSl 2 rApiBooked F_125 41 p127 k128 b124, R]) mixedOK (by kernel_rfl) (by kernel_rfl) rfl (fun _ => rfl) (by kernel_rfl) (fun _ => rfl) ?_ (fun env139 F_162 l_163 hphi => ?_)
      ·skip
       refine .cons (fun L env139 F_164 l_165 hL hdn hup hphi => ⟨[], fun S hS hV => (Sub.nil _), ?_⟩) ?_
       ·skip
        refine .makeSliceK (z := (ApiMaltStep.mk 0 0 0)) hx146 ok_t49 rfl Tryz.underlying50 Tryz.zeroValue49 (fun _ _ => rfl) rfl rfl (fun b166 F_167 l_168 h169 => ?_)
        exact .finQ ({ env139 with a := (updN env139.a 0 (some ⟨b166, 0, none⟩)), n := (updN env139.n 0 (1000 : Int).toNat), c := env139.c, o := env139.o }) [false, true, true, true, true, false, false, false, false, false] rfl (by kernel_rfl) rfl rfl l_168 (fun _ le => h169.mono le) (cons_eq rfl (cons_eq rfl (cons_eq rfl rfl)))
       refine .cons (fun L env139 F_170 l_171 hL hdn hup hphi => ⟨[(1, (.int .u8 more5))], fun S hS hV => (.cons (hS _ _ rfl) (Sub.nil _)), ?_⟩) ?_
       ·skip
        refine .move rfl rfl ?_
        exact .finV rfl rfl Fz.r
       refine .cons (fun L env139 F_172 l_173 hL hdn hup hphi => ⟨[(84, (.int .u8 more5))], fun S hS hV => (.cons (hV 1 84 _ (hdn 1 1 rfl) rfl rfl) (Sub.nil _)), ?_⟩) ?_
       ·skip
        refine .convI rfl Tryz.underlying5 Tryz.underlying3 rfl ?_
        exact .finV rfl rfl Fz.r
       refine .cons (fun L env139 F_174 l_175 hL hdn hup hphi => ⟨[(85, (.int .i64 (w64 (more5))))], fun S hS hV => (.cons (hV 2 85 _ (hdn 1 2 rfl) rfl rfl) (Sub.nil _)), ?_⟩) ?_
       ·skip
        refine .add rfl rfl rfl ?_
        exact .finV rfl rfl Fz.r
       refine .cons (fun L env139 F_176 l_177 hL hdn hup hphi => ⟨[(86, (.int .i64 (w64 (25 + (w64 (more5))))))], fun S hS hV => (.cons (hV 3 86 _ (hdn 1 3 rfl) rfl rfl) (Sub.nil _)), ?_⟩) ?_
       ·skip
        refine .makeSliceK (z := (ApiDutyEvent.mk 0 0 0 0 0 0)) hx153 ok_t72 rfl Tryz.underlying56 Tryz.zeroValue72 (fun _ _ => rfl) rfl rfl (fun b178 F_179 l_180 h181 => ?_)
        exact .finQ ({ env139 with a := (updN env139.a 40 (some ⟨b178, 0, none⟩)), n := (updN env139.n 40 ((w64 (25 + (w64 (more5)))) : Int).toNat), c := env139.c, o := env139.o }) [true, true, true, true, false, false, false, false, false, false] rfl (by kernel_rfl) rfl rfl l_180 (fun _ le => h181.mono le) (cons_eq rfl (cons_eq rfl (cons_eq rfl rfl)))
       refine .cons (fun L env139 F_182 l_183 hL hdn hup hphi => ⟨[(83, (.slice (env139.a 0) (List.replicate n_144 (ApiMaltStep.mk 0 0 0)).length (env139.n 0))), (87, (.slice (env139.a 40) (List.replicate n_151 (ApiDutyEvent.mk 0 0 0 0 0 0)).length (env139.n 40)))], fun S hS hV => (.cons (hV 0 83 _ (hdn 1 0 rfl) rfl rfl) (.cons (hV 4 87 _ (hdn 1 4 rfl) rfl rfl) (Sub.nil _))), ?_⟩) ?_
       ·skip
        have h145 := hphi 0 _ (hdn 1 0 rfl) rfl _ Fz.r
        have h152 := hphi 4 _ (hdn 1 4 rfl) rfl _ Fz.r
        refine .callK hx161 rfl Tryz.call27 rfl rfl rfl (c_file_Book _ (List.replicate n_144 (ApiMaltStep.mk 0 0 0)) (env139.a 0) (env139.n 0) h145 ([]) none 0 (RepSl.nil.mono (Fz.t l_8 (Fz.t l_33 (Fz.t l_42 (Fz.t l_48 (Fz.t l_51 (Fz.t l_106 (Fz.t l_126 (Fz.t l_135 l_183))))))))) ([]) none 0 (RepSl.nil.mono (Fz.t l_8 (Fz.t l_33 (Fz.t l_42 (Fz.t l_48 (Fz.t l_51 (Fz.t l_106 (Fz.t l_126 (Fz.t l_135 l_183))))))))) (List.replicate n_151 (ApiDutyEvent.mk 0 0 0 0 0 0)) (env139.a 40) (env139.n 40) h152) ?_
        rintro F_184 _ l_185 ⟨p186, k187, rfl, h188⟩
        exact .finQ ({ env139 with a := (updN env139.a 50 p186), n := (updN env139.n 50 k187), c := env139.c, o := env139.o }) [true, true, true, true, true, false, false, false, false, false] rfl (by kernel_rfl) rfl rfl l_185 (fun _ le => h188.mono le) (cons_eq rfl (cons_eq rfl (cons_eq rfl rfl)))
       refine .cons (fun L env139 F_189 l_190 hL hdn hup hphi => ⟨[(88, (.tuple #[(.slice (env139.a 50) r_156.1.length (env139.n 50)), (.int .i64 r_156.2)]))], fun S hS hV => (.cons (hV 5 88 _ (hdn 1 5 rfl) rfl rfl) (Sub.nil _)), ?_⟩) ?_
       ·skip
        have h145 := hphi 0 _ (hdn 2 0 rfl) rfl _ Fz.r
        have h152 := hphi 4 _ (hdn 2 4 rfl) rfl _ Fz.r
        have h160 := hphi 5 _ (hdn 1 5 rfl) rfl _ Fz.r
        refine .move rfl rfl ?_
        exact .finV rfl rfl Fz.r
       refine .cons (fun L env139 F_191 l_192 hL hdn hup hphi => ⟨[(82, (.tuple #[(.slice (env139.a 50) r_156.1.length (env139.n 50)), (.int .i64 r_156.2)]))], fun S hS hV => (.cons (hV 6 82 _ (hdn 1 6 rfl) rfl rfl) (Sub.nil _)), ?_⟩) ?_
       ·skip
        have h145 := hphi 0 _ (hdn 3 0 rfl) rfl _ Fz.r
        have h152 := hphi 4 _ (hdn 3 4 rfl) rfl _ Fz.r
        have h160 := hphi 5 _ (hdn 2 5 rfl) rfl _ Fz.r
        refine .extract rfl rfl rfl ?_
        exact .finV rfl rfl Fz.r
       refine .cons (fun L env139 F_193 l_194 hL hdn hup hphi => ⟨[(82, (.tuple #[(.slice (env139.a 50) r_156.1.length (env139.n 50)), (.int .i64 r_156.2)]))], fun S hS hV => (.cons (hV 6 82 _ (hdn 1 6 rfl) rfl rfl) (Sub.nil _)), ?_⟩) ?_
       ·skip
        have h145 := hphi 0 _ (hdn 3 0 rfl) rfl _ Fz.r
        have h152 := hphi 4 _ (hdn 3 4 rfl) rfl _ Fz.r
        have h160 := hphi 5 _ (hdn 2 5 rfl) rfl _ Fz.r
        refine .extract rfl rfl rfl ?_
        exact .finV rfl rfl Fz.r
       refine .cons (fun L env139 F_195 l_196 hL hdn hup hphi => ⟨[(89, (.slice (env139.a 50) r_156.1.length (env139.n 50)))], fun S hS hV => (.cons (hV 7 89 _ (hdn 1 7 rfl) rfl rfl) (Sub.nil _)), ?_⟩) ?_
       ·skip
        have h145 := hphi 0 _ (hdn 1 0 rfl) rfl _ Fz.r
        have h152 := hphi 4 _ (hdn 1 4 rfl) rfl _ Fz.r
        have h160 := hphi 5 _ (hdn 1 5 rfl) rfl _ Fz.r
        refine .assign rfl rfl ?_
        exact .finV rfl rfl Fz.r
       exact .nil
      have h145 := hphi 0 _ rfl
      have h152 := hphi 4 _ rfl
      have h160 := hphi 5 _ rfl
      refine .norm (S' := [(1, (.int .u8 more5)), (11, (.int .i64 r_133.2)), (12, (.slice (env139.a 50) r_156.1.length (env139.n 50))), (82, (.tuple #[(.slice (env139.a 50) r_156.1.length (env139.n 50)), (.int .i64 r_156.2)])), (83, (.slice (env139.a 0) (List.replicate n_144 (ApiMaltStep.mk 0 0 0)).length (env139.n 0))), (84, (.int .u8 more5)), (85, (.int .i64 (w64 (more5)))), (86, (.int .i64 (w64 (25 + (w64 (more5)))))), (87, (.slice (env139.a 40) (List.replicate n_151 (ApiDutyEvent.mk 0 0 0 0 0 0)).length (env139.n 40))), (88, (.tuple #[(.slice (env139.a 50) r_156.1.length (env139.n 50)), (.int .i64 r_156.2)])), (89, (.slice (env139.a 50) r_156.1.length (env139.n 50))), (90, (.int .i64 r_156.2))]) (.cons (k := 1) rfl (.cons (k := 11) rfl (.cons (k := 12) rfl (.cons (k := 82) rfl (.cons (k := 83) rfl (.cons (k := 84) rfl (.cons (k := 85) rfl (.cons (k := 86) rfl (.cons (k := 87) rfl (.cons (k := 88) rfl (.cons (k := 89) rfl (.cons (k := 90) rfl (.nil _))))))))))))) (rfl : _ = [ownSl 1 (Ex (cInt .u8)) F_134 5 p136 k137 r_133.1, ownSl 2 rApiBooked F_125 41 p127 k128 b124, R]) ?_
      refine .assign rfl rfl (.nil (.code (.seq (.keep (.cons (k := 11) rfl (.cons (k := 13) rfl (.nil _))) (.bind (fun n_202 hx204 => ?_))))))
      refine .bind (fun n_209 hx211 => ?_)
      refine .bind (fun r_214 hx219 => ?_)
      refine .drawG 7 0 (fun env197 => [((.slice (env197.a 0) (List.replicate n_202 (ApiMaltStep.mk 0 0 0)).length (env197.n 0)), fun G => RepSl 3 (Ex cApiMaltStep) G (env197.a 0) (env197.n 0) (List.replicate n_202 (ApiMaltStep.mk 0 0 0))), ((.slice (env197.a 10) (List.replicate n_209 (ApiDutyEvent.mk 0 0 0 0 0 0)).length (env197.n 10)), fun G => RepSl 6 (Ex cApiDutyEvent) G (env197.a 10) (env197.n 10) (List.replicate n_209 (ApiDutyEvent.mk 0 0 0 0 0 0))), ((.tuple #[(.slice (env197.a 20) r_214.1.length (env197.n 20)), (.int .i64 r_214.2)]), fun G => RepSl 2 rApiBooked G (env197.a 20) (env197.n 20) r_214.1), ((.tuple #[(.slice (env197.a 20) r_214.1.length (env197.n 20)), (.int .i64 r_214.2)]), fun _ => True), ((.slice (env197.a 20) r_214.1.length (env197.n 20)), fun _ => True), ((.int .i64 r_214.2), fun _ => True), ((.slice (env197.a 20) r_214.1.length (env197.n 20)), fun _ => True)]) (fun L env197 => [ownSl 1 (Ex (cInt .u8)) F_134 5 p136 k137 r_133.1, ownSl 2 rApiBooked F_125 41 p127 k128 b124, R]) mixedOK (by kernel_rfl) (by kernel_rfl) rfl (fun _ => rfl) (by kernel_rfl) (fun _ => rfl) ?_ (fun env197 F_220 l_221 hphi => ?_)
      ·skip
       refine .cons (fun L env197 F_222 l_223 hL hdn hup hphi => ⟨[], fun S hS hV => (Sub.nil _), ?_⟩) ?_
       ·skip
        refine .makeSliceK (z := (ApiMaltStep.mk 0 0 0)) hx204 ok_t49 rfl Tryz.underlying50 Tryz.zeroValue49 (fun _ _ => rfl) rfl rfl (fun b224 F_225 l_226 h227 => ?_)
        exact .finQ ({ env197 with a := (updN env197.a 0 (some ⟨b224, 0, none⟩)), n := (updN env197.n 0 (1000 : Int).toNat), c := env197.c, o := env197.o }) [false, true, false, false, false, false, false] rfl (by kernel_rfl) rfl rfl l_226 (fun _ le => h227.mono le) (cons_eq rfl (cons_eq rfl (cons_eq rfl rfl)))
       refine .cons (fun L env197 F_228 l_229 hL hdn hup hphi => ⟨[], fun S hS hV => (Sub.nil _), ?_⟩) ?_
       ·skip
        refine .makeSliceK (z := (ApiDutyEvent.mk 0 0 0 0 0 0)) hx211 ok_t72 rfl Tryz.underlying56 Tryz.zeroValue72 (fun _ _ => rfl) rfl rfl (fun b230 F_231 l_232 h233 => ?_)
        exact .finQ ({ env197 with a := (updN env197.a 10 (some ⟨b230, 0, none⟩)), n := (updN env197.n 10 (24 : Int).toNat), c := env197.c, o := env197.o }) [true, false, false, false, false, false, false] rfl (by kernel_rfl) rfl rfl l_232 (fun _ le => h233.mono le) (cons_eq rfl (cons_eq rfl (cons_eq rfl rfl)))
       refine .cons (fun L env197 F_234 l_235 hL hdn hup hphi => ⟨[(92, (.slice (env197.a 0) (List.replicate n_202 (ApiMaltStep.mk 0 0 0)).length (env197.n 0))), (93, (.slice (env197.a 10) (List.replicate n_209 (ApiDutyEvent.mk 0 0 0 0 0 0)).length (env197.n 10)))], fun S hS hV => (.cons (hV 0 92 _ (hdn 1 0 rfl) rfl rfl) (.cons (hV 1 93 _ (hdn 1 1 rfl) rfl rfl) (Sub.nil _))), ?_⟩) ?_
       ·skip
        have h203 := hphi 0 _ (hdn 1 0 rfl) rfl _ Fz.r
        have h210 := hphi 1 _ (hdn 1 1 rfl) rfl _ Fz.r
        refine .callK hx219 rfl Tryz.call27 rfl rfl rfl (c_file_Book _ (List.replicate n_202 (ApiMaltStep.mk 0 0 0)) (env197.a 0) (env197.n 0) h203 ([]) none 0 (RepSl.nil.mono (Fz.t l_8 (Fz.t l_33 (Fz.t l_42 (Fz.t l_48 (Fz.t l_51 (Fz.t l_106 (Fz.t l_126 (Fz.t l_135 (Fz.t l_163 l_235)))))))))) ([]) none 0 (RepSl.nil.mono (Fz.t l_8 (Fz.t l_33 (Fz.t l_42 (Fz.t l_48 (Fz.t l_51 (Fz.t l_106 (Fz.t l_126 (Fz.t l_135 (Fz.t l_163 l_235)))))))))) (List.replicate n_209 (ApiDutyEvent.mk 0 0 0 0 0 0)) (env197.a 10) (env197.n 10) h210) ?_
        rintro F_236 _ l_237 ⟨p238, k239, rfl, h240⟩
        exact .finQ ({ env197 with a := (updN env197.a 20 p238), n := (updN env197.n 20 k239), c := env197.c, o := env197.o }) [true, true, false, false, false, false, false] rfl (by kernel_rfl) rfl rfl l_237 (fun _ le => h240.mono le) (cons_eq rfl (cons_eq rfl (cons_eq rfl rfl)))
       refine .cons (fun L env197 F_241 l_242 hL hdn hup hphi => ⟨[(94, (.tuple #[(.slice (env197.a 20) r_214.1.length (env197.n 20)), (.int .i64 r_214.2)]))], fun S hS hV => (.cons (hV 2 94 _ (hdn 1 2 rfl) rfl rfl) (Sub.nil _)), ?_⟩) ?_
       ·skip
        have h203 := hphi 0 _ (hdn 2 0 rfl) rfl _ Fz.r
        have h210 := hphi 1 _ (hdn 2 1 rfl) rfl _ Fz.r
        have h218 := hphi 2 _ (hdn 1 2 rfl) rfl _ Fz.r
        refine .move rfl rfl ?_
        exact .finV rfl rfl Fz.r
       refine .cons (fun L env197 F_243 l_244 hL hdn hup hphi => ⟨[(91, (.tuple #[(.slice (env197.a 20) r_214.1.length (env197.n 20)), (.int .i64 r_214.2)]))], fun S hS hV => (.cons (hV 3 91 _ (hdn 1 3 rfl) rfl rfl) (Sub.nil _)), ?_⟩) ?_
       ·skip
        have h203 := hphi 0 _ (hdn 3 0 rfl) rfl _ Fz.r
        have h210 := hphi 1 _ (hdn 3 1 rfl) rfl _ Fz.r
        have h218 := hphi 2 _ (hdn 2 2 rfl) rfl _ Fz.r
        refine .extract rfl rfl rfl ?_
        exact .finV rfl rfl Fz.r
       refine .cons (fun L env197 F_245 l_246 hL hdn hup hphi => ⟨[(91, (.tuple #[(.slice (env197.a 20) r_214.1.length (env197.n 20)), (.int .i64 r_214.2)]))], fun S hS hV => (.cons (hV 3 91 _ (hdn 1 3 rfl) rfl rfl) (Sub.nil _)), ?_⟩) ?_
       ·skip
        have h203 := hphi 0 _ (hdn 3 0 rfl) rfl _ Fz.r
        have h210 := hphi 1 _ (hdn 3 1 rfl) rfl _ Fz.r
        have h218 := hphi 2 _ (hdn 2 2 rfl) rfl _ Fz.r
        refine .extract rfl rfl rfl ?_
        exact .finV rfl rfl Fz.r
       refine .cons (fun L env197 F_247 l_248 hL hdn hup hphi => ⟨[(95, (.slice (env197.a 20) r_214.1.length (env197.n 20)))], fun S hS hV => (.cons (hV 4 95 _ (hdn 1 4 rfl) rfl rfl) (Sub.nil _)), ?_⟩) ?_
       ·skip
        have h203 := hphi 0 _ (hdn 1 0 rfl) rfl _ Fz.r
        have h210 := hphi 1 _ (hdn 1 1 rfl) rfl _ Fz.r
        have h218 := hphi 2 _ (hdn 1 2 rfl) rfl _ Fz.r
        refine .assign rfl rfl ?_
        exact .finV rfl rfl Fz.r
       exact .nil
      have h203 := hphi 0 _ rfl
      have h210 := hphi 1 _ rfl
      have h218 := hphi 2 _ rfl
      refine .norm (S' := [(11, (.int .i64 r_133.2)), (13, (.int .i64 r_156.2)), (14, (.slice (env197.a 20) r_214.1.length (env197.n 20))), (91, (.tuple #[(.slice (env197.a 20) r_214.1.length (env197.n 20)), (.int .i64 r_214.2)])), (92, (.slice (env197.a 0) (List.replicate n_202 (ApiMaltStep.mk 0 0 0)).length (env197.n 0))), (93, (.slice (env197.a 10) (List.replicate n_209 (ApiDutyEvent.mk 0 0 0 0 0 0)).length (env197.n 10))), (94, (.tuple #[(.slice (env197.a 20) r_214.1.length (env197.n 20)), (.int .i64 r_214.2)])), (95, (.slice (env197.a 20) r_214.1.length (env197.n 20))), (96, (.int .i64 r_214.2))]) (.cons (k := 11) rfl (.cons (k := 13) rfl (.cons (k := 14) rfl (.cons (k := 91) rfl (.cons (k := 92) rfl (.cons (k := 93) rfl (.cons (k := 94) rfl (.cons (k := 95) rfl (.cons (k := 96) rfl (.nil _)))))))))) (rfl : _ = [ownSl 1 (Ex (cInt .u8)) F_134 5 p136 k137 r_133.1, ownSl 2 rApiBooked F_125 41 p127 k128 b124, R]) ?_
      refine .assign rfl rfl (.nil (.code (.seq (.region (.makeSlice (z := 0) ok_t5 rfl Tryz.underlying25 Tryz.zeroValue5 (fun _ _ => rfl) rfl rfl (fun n_249 b250 _ => ?_))))))
      refine .freezeSl 0 rfl Fz.r (fun F_252 l_253 h254 => ?_)
      refine .call0 rfl Tryz.call19 rfl rfl rfl (c_file_Read _ (hT.mono (Fz.t l_8 (Fz.t l_33 (Fz.t l_42 (Fz.t l_48 (Fz.t l_51 (Fz.t l_106 (Fz.t l_126 (Fz.t l_135 (Fz.t l_163 (Fz.t l_221 l_253))))))))))) (List.replicate n_249 0) (some ⟨b250, 0, none⟩) ((110784 : Int).toNat) h254) ?_
      rintro r_257 F_255 _ - l_256 ⟨p258, k259, rfl, h260⟩
      refine .move rfl rfl (.extract rfl rfl rfl (.extract rfl rfl rfl (.assign rfl rfl (.assign rfl rfl (.nil (.code (.seq (.region (.move rfl rfl (.eql rfl rfl rfl (.move rfl rfl ?_)))))))))))
      refine .andP (b := (r_133.2 == 3)) (b' := (r_156.2 == 3)) 3 107 (fun hb261 => ?_) (fun hb262 => ?_) (fun F_263 l_264 => ?_)
      ·skip
       refine .onH hb261 rfl rfl (.move rfl rfl (.onH hb261 rfl rfl (.eql rfl rfl rfl (.pickTH hb261 rfl rfl rfl ?_))))
       exact .fin 3 rfl rfl (by kernel_rfl) Fz.r
      ·skip
       refine .offH hb262 rfl rfl rfl (.offH hb262 rfl rfl rfl (.pickFH hb262 rfl rfl rfl ?_))
       exact .fin 3 rfl rfl (by kernel_rfl) Fz.r
      refine .move rfl rfl (.andP (b := ((r_133.2 == 3) && (r_156.2 == 3))) (b' := ((r_214.1.length : Int) == 1024)) 4 112 (fun hb265 => ?_) (fun hb266 => ?_) (fun F_267 l_268 => ?_))
      ·skip
       refine .onH hb265 rfl rfl (.move rfl rfl (.onH hb265 rfl rfl (.lenS rfl rfl Tryz.underlying22 rfl (.onH hb265 rfl rfl (.eql rfl rfl rfl (.pickTH hb265 rfl rfl rfl ?_))))))
       exact .fin 4 rfl rfl (by kernel_rfl) Fz.r
      ·skip
       refine .offH hb266 rfl rfl rfl (.offH hb266 rfl rfl rfl (.offH hb266 rfl rfl rfl (.pickFH hb266 rfl rfl rfl ?_)))
       exact .fin 4 rfl rfl (by kernel_rfl) Fz.r
      refine .move rfl rfl (.andP (b := (((r_133.2 == 3) && (r_156.2 == 3)) && ((r_214.1.length : Int) == 1024))) (b' := (r_214.2 == 0)) 3 116 (fun hb269 => ?_) (fun hb270 => ?_) (fun F_271 l_272 => ?_))
      ·skip
       refine .onH hb269 rfl rfl (.move rfl rfl (.onH hb269 rfl rfl (.eql rfl rfl rfl (.pickTH hb269 rfl rfl rfl ?_))))
       exact .fin 3 rfl rfl (by kernel_rfl) Fz.r
      ·skip
       refine .offH hb270 rfl rfl rfl (.offH hb270 rfl rfl rfl (.pickFH hb270 rfl rfl rfl ?_))
       exact .fin 3 rfl rfl (by kernel_rfl) Fz.r
      refine .move rfl rfl (.andP (b := ((((r_133.2 == 3) && (r_156.2 == 3)) && ((r_214.1.length : Int) == 1024)) && (r_214.2 == 0))) (b' := (r_257.2 == 8)) 3 120 (fun hb273 => ?_) (fun hb274 => ?_) (fun F_275 l_276 => ?_))
      ·skip
       refine .onH hb273 rfl rfl (.move rfl rfl (.onH hb273 rfl rfl (.eql rfl rfl rfl (.pickTH hb273 rfl rfl rfl ?_))))
       exact .fin 3 rfl rfl (by kernel_rfl) Fz.r
      ·skip
       refine .offH hb274 rfl rfl rfl (.offH hb274 rfl rfl rfl (.pickFH hb274 rfl rfl rfl ?_))
       exact .fin 3 rfl rfl (by kernel_rfl) Fz.r
      refine .move rfl rfl (.andM (b := (((((r_133.2 == 3) && (r_156.2 == 3)) && ((r_214.1.length : Int) == 1024)) && (r_214.2 == 0)) && (r_257.2 == 8))) 2 123 (fun hb277 z285 => ?_) (fun hb281 => ?_) (fun z284 F_282 l_283 => ?_))
      ·skip
       refine .onH hb277 rfl rfl (.call0 rfl Tryz.call16 rfl rfl rfl (c_wormtublaw14_alive _ (hT.mono (Fz.t l_8 (Fz.t l_33 (Fz.t l_42 (Fz.t l_48 (Fz.t l_51 (Fz.t l_106 (Fz.t l_126 (Fz.t l_135 (Fz.t l_163 (Fz.t l_221 (Fz.t l_253 (Fz.t l_256 (Fz.t l_264 (Fz.t l_268 (Fz.t l_272 l_276))))))))))))))))) ?_)
       rintro r_280 F_278 _ - l_279 rfl
       refine .pickTH hb277 rfl rfl rfl ?_
       exact .finZ 2 rfl rfl (by kernel_rfl) l_279
      ·skip
       refine .offH hb281 rfl rfl rfl (.pickFH hb281 rfl rfl rfl ?_)
       exact .fin 2 rfl rfl (by kernel_rfl) Fz.r
      refine .assign rfl rfl (.nil (.keep (.cons (k := 4) rfl (.nil _)) (.code ?_)))
      exact .ret0 Tryz.results12 (.tmp rfl (.nil)) (i := 2) rfl (Fz.t l_8 (Fz.t l_33 (Fz.t l_42 (Fz.t l_48 (Fz.t l_51 (Fz.t l_106 (Fz.t l_126 (Fz.t l_135 (Fz.t l_163 (Fz.t l_221 (Fz.t l_253 (Fz.t l_256 (Fz.t l_264 (Fz.t l_268 (Fz.t l_272 (Fz.t l_276 l_283)))))))))))))))) rfl
   ·skip
    refine .seq (.region (.move rfl rfl (.neq rfl rfl rfl (.nil (.code (.cond rfl (fun hb286 => ?_) (fun hb286 => ?_)))))))
    ·skip
     refine .seq (.region (.assign rfl rfl (.nil (.code ?_))))
     exact .ret0 Tryz.results12 (.tmp rfl (.nil)) (i := 2) rfl (Fz.t l_8 (Fz.t l_33 l_42)) rfl
    ·skip
     refine .skip (.code (.seq (.seq (.region (.move rfl rfl (.convI rfl Tryz.underlying5 Tryz.underlying3 rfl (.remC rfl (by decide) rfl rfl (.add rfl rfl rfl (.move rfl rfl (.nil (.code ?_)))))))))))
     refine .block (.keep (.cons (k := 1) rfl (.cons (k := 2) rfl (.cons (k := 5) rfl (.cons (k := 69) rfl (.cons (k := 70) rfl (.nil _)))))) (.ownUp 1 l_42 rfl ?_))
     refine .loop (fun (s287 : (List ApiBooked) × Int) a w => ∃ (F_288 : Fz) (p290 : Option Addr) (k291 : Nat), F_41 ≤ F_288 ∧ Hd 124 [] [(1, (.int .u8 more5)), (2, (.pointer (some ⟨b6, 0, none⟩))), (5, (.slice p290 s287.1.length k291)), (69, (.int .i64 (w64 ((Int.tmod (w64 (more5)) 4) + 1)))), (70, (.int .i64 s287.2))] F_288 [ownSl 1 (Ex (cInt .u8)) F_41 5 p43 k44 r_40.1, ownSl 2 rApiBooked F_288 41 p290 k291 s287.1, R] a w) (fun b303 e a w => e = .exit 2 ∧ ∃ (F_304 : Fz) (p306 : Option Addr) (k307 : Nat), F_41 ≤ F_304 ∧ Hd 124 [] [(1, (.int .u8 more5)), (5, (.slice p306 b303.length k307))] F_304 [ownSl 1 (Ex (cInt .u8)) F_41 5 p43 k44 r_40.1, ownSl 2 rApiBooked F_304 41 p306 k307 b303, R] a w) ?_ ?_ ?_
     ·exact fun a w h => ⟨F_41, p34, k35, Fz.r, h.1.sub (.cons (k := 1) rfl (.cons (k := 2) rfl (.cons (k := 5) rfl (.cons (k := 69) rfl (.cons (k := 70) rfl (.nil _)))))), h.2⟩
     ·intro s287 ctl
      refine GC.ex (fun a w ⟨F_288, p290, k291, l_289, hA⟩ => ⟨_, hA, ?_⟩)
      unfold b_wormtublaw14_FileLong_3
      refine .seq (.region (.lss rfl rfl rfl (.nil (.code (.seq (.cond rfl (fun hb293 => ?_) (fun hb293 => ?_)))))))
      ·skip
       refine .skip (.code (.seq (.block (.region (.move rfl rfl (.loadFA rfl Tryz.isAgg41 Tryz.sizeOf41 rfl ((Fz.t l_33 (Fz.t l_42 l_289)).mem _ _ hb9) (vs := (cApiBooked x1 p2 k3)) (by kernel_rfl) rfl ?_))))))
       refine .sliceLit (cs := [.int .i64 x1.Kind, .slice p2 x1.N.length k3]) (zc := [.int .i64 (ApiBooked.mk 0 ([])).Kind, .slice none (ApiBooked.mk 0 ([])).N.length 0]) rfl Tryz.underlying22 Tryz.sizeOf41 Tryz.zeroValue41 rfl rfl rfl (by kernel_rfl) (by kernel_rfl) (fun b294 F_295 l_296 hb297 => ?_)
       have h298 : RepSl 2 rApiBooked F_295 (some ⟨b294, 0, none⟩) 1 ([x1]) := RepSl.ofRow hb297 (.cons ok_t41.mono ⟨_, _, rfl, (h4.mono (Fz.t l_8 (Fz.t l_33 (Fz.t l_42 (Fz.t l_289 l_296)))))⟩ .nil) rfl rfl
       refine .append 1 ok_t41 l_296 rfl Tryz.underlying22 Tryz.underlying22 rfl rfl rfl h298 rfl rfl (fun l_299 p300 k301 e302 => ?_)
       refine .assign rfl rfl (.nil (.block (.code (.region (.add rfl rfl rfl (.move rfl rfl (.nil ?_)))))))
       exact .nil (LPost.norm fun a w h => ⟨F_295, p300, k301, (Fz.t l_289 l_296), h.1.sub (.cons (k := 1) rfl (.cons (k := 2) rfl (.cons (k := 5) rfl (.cons (k := 69) rfl (.cons (k := 70) rfl (.nil _)))))), h.2⟩)
      ·skip
       refine .exitOut rfl (LPost.exit fun a w h => ⟨rfl, F_288, p290, k291, l_289, h.1.sub (.cons (k := 1) rfl (.cons (k := 5) rfl (.nil _))), h.2⟩)
     ·intro b303 hb0 hk e a w hD
      obtain ⟨rfl, F_304, p306, k307, l_305, hA⟩ := hD
      refine interp_exit rfl (GE.app ?_ hk a w hA)
      refine .code (.seq (.region (.move rfl rfl (.callLendW 1 rfl Fz.r ⟨_, (List.take_of_length_le (Nat.le_refl _)).symm⟩ rfl Tryz.call17 rfl rfl rfl (fun F_309 l_310 h311 => (c_file_Write_own _ (hT.mono (Fz.t l_8 (Fz.t l_33 (Fz.t l_42 (Fz.t l_305 l_310))))) b303 p306 k307 h311)) (fun r_312 F_313 p315 k316 _ l_314 => ?_)))))
      refine .move rfl rfl (.extract rfl rfl rfl (.extract rfl rfl rfl (.assign rfl rfl (.assign rfl rfl (.nil (.code (.seq (.keep (.cons (k := 1) rfl (.cons (k := 11) rfl (.nil _))) (.bind (fun n_323 hx325 => ?_))))))))))
      refine .bind (fun n_330 hx332 => ?_)
      refine .bind (fun r_335 hx340 => ?_)
      refine .drawG 10 0 (fun env318 => [((.slice (env318.a 0) (List.replicate n_323 (ApiMaltStep.mk 0 0 0)).length (env318.n 0)), fun G => RepSl 3 (Ex cApiMaltStep) G (env318.a 0) (env318.n 0) (List.replicate n_323 (ApiMaltStep.mk 0 0 0))), ((.int .u8 more5), fun _ => True), ((.int .i64 (w64 (more5))), fun _ => True), ((.int .i64 (w64 (25 + (w64 (more5))))), fun _ => True), ((.slice (env318.a 40) (List.replicate n_330 (ApiDutyEvent.mk 0 0 0 0 0 0)).length (env318.n 40)), fun G => RepSl 6 (Ex cApiDutyEvent) G (env318.a 40) (env318.n 40) (List.replicate n_330 (ApiDutyEvent.mk 0 0 0 0 0 0))), ((.tuple #[(.slice (env318.a 50) r_335.1.length (env318.n 50)), (.int .i64 r_335.2)]), fun G => RepSl 2 rApiBooked G (env318.a 50) (env318.n 50) r_335.1), ((.tuple #[(.slice (env318.a 50) r_335.1.length (env318.n 50)), (.int .i64 r_335.2)]), fun _ => True), ((.slice (env318.a 50) r_335.1.length (env318.n 50)), fun _ => True), ((.int .i64 r_335.2), fun _ => True), ((.slice (env318.a 50) r_335.1.length (env318.n 50)), fun _ => True)]) (fun L env318 => [ownSl 1 (Ex (cInt .u8)) F_313 5 p315 k316 r_312.1, ownSl 1 (Ex (cInt .u8)) F_41 5 p43 k44 r_40.1, ownSl 2 rApiBooked F_304 41 p306 k307 b303, R]) mixedOK (by kernel_rfl) (by kernel_rfl) rfl (fun _ => rfl) (by kernel_rfl) (fun _ => rfl) ?_ (fun env318 F_341 l_342 hphi => ?_)
      ·skip
       refine .cons (fun L env318 F_343 l_344 hL hdn hup hphi => ⟨[], fun S hS hV => (Sub.nil _), ?_⟩) ?_
       ·skip
        refine .makeSliceK (z := (ApiMaltStep.mk 0 0 0)) hx325 ok_t49 rfl Tryz.underlying50 Tryz.zeroValue49 (fun _ _ => rfl) rfl rfl (fun b345 F_346 l_347 h348 => ?_)
        exact .finQ ({ env318 with a := (updN env318.a 0 (some ⟨b345, 0, none⟩)), n := (updN env318.n 0 (1000 : Int).toNat), c := env318.c, o := env318.o }) [false, true, true, true, true, false, false, false, false, false] rfl (by kernel_rfl) rfl rfl l_347 (fun _ le => h348.mono le) (cons_eq rfl (cons_eq rfl (cons_eq rfl (cons_eq rfl rfl))))
       refine .cons (fun L env318 F_349 l_350 hL hdn hup hphi => ⟨[(1, (.int .u8 more5))], fun S hS hV => (.cons (hS _ _ rfl) (Sub.nil _)), ?_⟩) ?_
       ·skip
        refine .move rfl rfl ?_
        exact .finV rfl rfl Fz.r
       refine .cons (fun L env318 F_351 l_352 hL hdn hup hphi => ⟨[(84, (.int .u8 more5))], fun S hS hV => (.cons (hV 1 84 _ (hdn 1 1 rfl) rfl rfl) (Sub.nil _)), ?_⟩) ?_
       ·skip
        refine .convI rfl Tryz.underlying5 Tryz.underlying3 rfl ?_
        exact .finV rfl rfl Fz.r
       refine .cons (fun L env318 F_353 l_354 hL hdn hup hphi => ⟨[(85, (.int .i64 (w64 (more5))))], fun S hS hV => (.cons (hV 2 85 _ (hdn 1 2 rfl) rfl rfl) (Sub.nil _)), ?_⟩) ?_
       ·skip
        refine .add rfl rfl rfl ?_
        exact .finV rfl rfl Fz.r
       refine .cons (fun L env318 F_355 l_356 hL hdn hup hphi => ⟨[(86, (.int .i64 (w64 (25 + (w64 (more5))))))], fun S hS hV => (.cons (hV 3 86 _ (hdn 1 3 rfl) rfl rfl) (Sub.nil _)), ?_⟩) ?_
       ·skip
        refine .makeSliceK (z := (ApiDutyEvent.mk 0 0 0 0 0 0)) hx332 ok_t72 rfl Tryz.underlying56 Tryz.zeroValue72 (fun _ _ => rfl) rfl rfl (fun b357 F_358 l_359 h360 => ?_)
        exact .finQ ({ env318 with a := (updN env318.a 40 (some ⟨b357, 0, none⟩)), n := (updN env318.n 40 ((w64 (25 + (w64 (more5)))) : Int).toNat), c := env318.c, o := env318.o }) [true, true, true, true, false, false, false, false, false, false] rfl (by kernel_rfl) rfl rfl l_359 (fun _ le => h360.mono le) (cons_eq rfl (cons_eq rfl (cons_eq rfl (cons_eq rfl rfl))))
       refine .cons (fun L env318 F_361 l_362 hL hdn hup hphi => ⟨[(83, (.slice (env318.a 0) (List.replicate n_323 (ApiMaltStep.mk 0 0 0)).length (env318.n 0))), (87, (.slice (env318.a 40) (List.replicate n_330 (ApiDutyEvent.mk 0 0 0 0 0 0)).length (env318.n 40)))], fun S hS hV => (.cons (hV 0 83 _ (hdn 1 0 rfl) rfl rfl) (.cons (hV 4 87 _ (hdn 1 4 rfl) rfl rfl) (Sub.nil _))), ?_⟩) ?_
       ·skip
        have h324 := hphi 0 _ (hdn 1 0 rfl) rfl _ Fz.r
        have h331 := hphi 4 _ (hdn 1 4 rfl) rfl _ Fz.r
        refine .callK hx340 rfl Tryz.call27 rfl rfl rfl (c_file_Book _ (List.replicate n_323 (ApiMaltStep.mk 0 0 0)) (env318.a 0) (env318.n 0) h324 ([]) none 0 (RepSl.nil.mono (Fz.t l_8 (Fz.t l_33 (Fz.t l_42 (Fz.t l_305 (Fz.t l_314 l_362)))))) ([]) none 0 (RepSl.nil.mono (Fz.t l_8 (Fz.t l_33 (Fz.t l_42 (Fz.t l_305 (Fz.t l_314 l_362)))))) (List.replicate n_330 (ApiDutyEvent.mk 0 0 0 0 0 0)) (env318.a 40) (env318.n 40) h331) ?_
        rintro F_363 _ l_364 ⟨p365, k366, rfl, h367⟩
        exact .finQ ({ env318 with a := (updN env318.a 50 p365), n := (updN env318.n 50 k366), c := env318.c, o := env318.o }) [true, true, true, true, true, false, false, false, false, false] rfl (by kernel_rfl) rfl rfl l_364 (fun _ le => h367.mono le) (cons_eq rfl (cons_eq rfl (cons_eq rfl (cons_eq rfl rfl))))
       refine .cons (fun L env318 F_368 l_369 hL hdn hup hphi => ⟨[(88, (.tuple #[(.slice (env318.a 50) r_335.1.length (env318.n 50)), (.int .i64 r_335.2)]))], fun S hS hV => (.cons (hV 5 88 _ (hdn 1 5 rfl) rfl rfl) (Sub.nil _)), ?_⟩) ?_
       ·skip
        have h324 := hphi 0 _ (hdn 2 0 rfl) rfl _ Fz.r
        have h331 := hphi 4 _ (hdn 2 4 rfl) rfl _ Fz.r
        have h339 := hphi 5 _ (hdn 1 5 rfl) rfl _ Fz.r
        refine .move rfl rfl ?_
        exact .finV rfl rfl Fz.r
       refine .cons (fun L env318 F_370 l_371 hL hdn hup hphi => ⟨[(82, (.tuple #[(.slice (env318.a 50) r_335.1.length (env318.n 50)), (.int .i64 r_335.2)]))], fun S hS hV => (.cons (hV 6 82 _ (hdn 1 6 rfl) rfl rfl) (Sub.nil _)), ?_⟩) ?_
       ·skip
        have h324 := hphi 0 _ (hdn 3 0 rfl) rfl _ Fz.r
        have h331 := hphi 4 _ (hdn 3 4 rfl) rfl _ Fz.r
        have h339 := hphi 5 _ (hdn 2 5 rfl) rfl _ Fz.r
        refine .extract rfl rfl rfl ?_
        exact .finV rfl rfl Fz.r
       refine .cons (fun L env318 F_372 l_373 hL hdn hup hphi => ⟨[(82, (.tuple #[(.slice (env318.a 50) r_335.1.length (env318.n 50)), (.int .i64 r_335.2)]))], fun S hS hV => (.cons (hV 6 82 _ (hdn 1 6 rfl) rfl rfl) (Sub.nil _)), ?_⟩) ?_
       ·skip
        have h324 := hphi 0 _ (hdn 3 0 rfl) rfl _ Fz.r
        have h331 := hphi 4 _ (hdn 3 4 rfl) rfl _ Fz.r
        have h339 := hphi 5 _ (hdn 2 5 rfl) rfl _ Fz.r
        refine .extract rfl rfl rfl ?_
        exact .finV rfl rfl Fz.r
       refine .cons (fun L env318 F_374 l_375 hL hdn hup hphi => ⟨[(89, (.slice (env318.a 50) r_335.1.length (env318.n 50)))], fun S hS hV => (.cons (hV 7 89 _ (hdn 1 7 rfl) rfl rfl) (Sub.nil _)), ?_⟩) ?_
       ·skip
        have h324 := hphi 0 _ (hdn 1 0 rfl) rfl _ Fz.r
        have h331 := hphi 4 _ (hdn 1 4 rfl) rfl _ Fz.r
        have h339 := hphi 5 _ (hdn 1 5 rfl) rfl _ Fz.r
        refine .assign rfl rfl ?_
        exact .finV rfl rfl Fz.r
       exact .nil
      have h324 := hphi 0 _ rfl
      have h331 := hphi 4 _ rfl
      have h339 := hphi 5 _ rfl
      refine .norm (S' := [(1, (.int .u8 more5)), (11, (.int .i64 r_312.2)), (12, (.slice (env318.a 50) r_335.1.length (env318.n 50))), (82, (.tuple #[(.slice (env318.a 50) r_335.1.length (env318.n 50)), (.int .i64 r_335.2)])), (83, (.slice (env318.a 0) (List.replicate n_323 (ApiMaltStep.mk 0 0 0)).length (env318.n 0))), (84, (.int .u8 more5)), (85, (.int .i64 (w64 (more5)))), (86, (.int .i64 (w64 (25 + (w64 (more5)))))), (87, (.slice (env318.a 40) (List.replicate n_330 (ApiDutyEvent.mk 0 0 0 0 0 0)).length (env318.n 40))), (88, (.tuple #[(.slice (env318.a 50) r_335.1.length (env318.n 50)), (.int .i64 r_335.2)])), (89, (.slice (env318.a 50) r_335.1.length (env318.n 50))), (90, (.int .i64 r_335.2))]) (.cons (k := 1) rfl (.cons (k := 11) rfl (.cons (k := 12) rfl (.cons (k := 82) rfl (.cons (k := 83) rfl (.cons (k := 84) rfl (.cons (k := 85) rfl (.cons (k := 86) rfl (.cons (k := 87) rfl (.cons (k := 88) rfl (.cons (k := 89) rfl (.cons (k := 90) rfl (.nil _))))))))))))) (rfl : _ = [ownSl 1 (Ex (cInt .u8)) F_313 5 p315 k316 r_312.1, ownSl 1 (Ex (cInt .u8)) F_41 5 p43 k44 r_40.1, ownSl 2 rApiBooked F_304 41 p306 k307 b303, R]) ?_
      refine .assign rfl rfl (.nil (.code (.seq (.keep (.cons (k := 11) rfl (.cons (k := 13) rfl (.nil _))) (.bind (fun n_381 hx383 => ?_))))))
      refine .bind (fun n_388 hx390 => ?_)
      refine .bind (fun r_393 hx398 => ?_)
      refine .drawG 7 0 (fun env376 => [((.slice (env376.a 0) (List.replicate n_381 (ApiMaltStep.mk 0 0 0)).length (env376.n 0)), fun G => RepSl 3 (Ex cApiMaltStep) G (env376.a 0) (env376.n 0) (List.replicate n_381 (ApiMaltStep.mk 0 0 0))), ((.slice (env376.a 10) (List.replicate n_388 (ApiDutyEvent.mk 0 0 0 0 0 0)).length (env376.n 10)), fun G => RepSl 6 (Ex cApiDutyEvent) G (env376.a 10) (env376.n 10) (List.replicate n_388 (ApiDutyEvent.mk 0 0 0 0 0 0))), ((.tuple #[(.slice (env376.a 20) r_393.1.length (env376.n 20)), (.int .i64 r_393.2)]), fun G => RepSl 2 rApiBooked G (env376.a 20) (env376.n 20) r_393.1), ((.tuple #[(.slice (env376.a 20) r_393.1.length (env376.n 20)), (.int .i64 r_393.2)]), fun _ => True), ((.slice (env376.a 20) r_393.1.length (env376.n 20)), fun _ => True), ((.int .i64 r_393.2), fun _ => True), ((.slice (env376.a 20) r_393.1.length (env376.n 20)), fun _ => True)]) (fun L env376 => [ownSl 1 (Ex (cInt .u8)) F_313 5 p315 k316 r_312.1, ownSl 1 (Ex (cInt .u8)) F_41 5 p43 k44 r_40.1, ownSl 2 rApiBooked F_304 41 p306 k307 b303, R]) mixedOK (by kernel_rfl) (by kernel_rfl) rfl (fun _ => rfl) (by kernel_rfl) (fun _ => rfl) ?_ (fun env376 F_399 l_400 hphi => ?_)
      ·skip
       refine .cons (fun L env376 F_401 l_402 hL hdn hup hphi => ⟨[], fun S hS hV => (Sub.nil _), ?_⟩) ?_
       ·skip
        refine .makeSliceK (z := (ApiMaltStep.mk 0 0 0)) hx383 ok_t49 rfl Tryz.underlying50 Tryz.zeroValue49 (fun _ _ => rfl) rfl rfl (fun b403 F_404 l_405 h406 => ?_)
        exact .finQ ({ env376 with a := (updN env376.a 0 (some ⟨b403, 0, none⟩)), n := (updN env376.n 0 (1000 : Int).toNat), c := env376.c, o := env376.o }) [false, true, false, false, false, false, false] rfl (by kernel_rfl) rfl rfl l_405 (fun _ le => h406.mono le) (cons_eq rfl (cons_eq rfl (cons_eq rfl (cons_eq rfl rfl))))
       refine .cons (fun L env376 F_407 l_408 hL hdn hup hphi => ⟨[], fun S hS hV => (Sub.nil _), ?_⟩) ?_
       ·skip
        refine .makeSliceK (z := (ApiDutyEvent.mk 0 0 0 0 0 0)) hx390 ok_t72 rfl Tryz.underlying56 Tryz.zeroValue72 (fun _ _ => rfl) rfl rfl (fun b409 F_410 l_411 h412 => ?_)
        exact .finQ ({ env376 with a := (updN env376.a 10 (some ⟨b409, 0, none⟩)), n := (updN env376.n 10 (24 : Int).toNat), c := env376.c, o := env376.o }) [true, false, false, false, false, false, false] rfl (by kernel_rfl) rfl rfl l_411 (fun _ le => h412.mono le) (cons_eq rfl (cons_eq rfl (cons_eq rfl (cons_eq rfl rfl))))
       refine .cons (fun L env376 F_413 l_414 hL hdn hup hphi => ⟨[(92, (.slice (env376.a 0) (List.replicate n_381 (ApiMaltStep.mk 0 0 0)).length (env376.n 0))), (93, (.slice (env376.a 10) (List.replicate n_388 (ApiDutyEvent.mk 0 0 0 0 0 0)).length (env376.n 10)))], fun S hS hV => (.cons (hV 0 92 _ (hdn 1 0 rfl) rfl rfl) (.cons (hV 1 93 _ (hdn 1 1 rfl) rfl rfl) (Sub.nil _))), ?_⟩) ?_
       ·skip
        have h382 := hphi 0 _ (hdn 1 0 rfl) rfl _ Fz.r
        have h389 := hphi 1 _ (hdn 1 1 rfl) rfl _ Fz.r
        refine .callK hx398 rfl Tryz.call27 rfl rfl rfl (c_file_Book _ (List.replicate n_381 (ApiMaltStep.mk 0 0 0)) (env376.a 0) (env376.n 0) h382 ([]) none 0 (RepSl.nil.mono (Fz.t l_8 (Fz.t l_33 (Fz.t l_42 (Fz.t l_305 (Fz.t l_314 (Fz.t l_342 l_414))))))) ([]) none 0 (RepSl.nil.mono (Fz.t l_8 (Fz.t l_33 (Fz.t l_42 (Fz.t l_305 (Fz.t l_314 (Fz.t l_342 l_414))))))) (List.replicate n_388 (ApiDutyEvent.mk 0 0 0 0 0 0)) (env376.a 10) (env376.n 10) h389) ?_
        rintro F_415 _ l_416 ⟨p417, k418, rfl, h419⟩
        exact .finQ ({ env376 with a := (updN env376.a 20 p417), n := (updN env376.n 20 k418), c := env376.c, o := env376.o }) [true, true, false, false, false, false, false] rfl (by kernel_rfl) rfl rfl l_416 (fun _ le => h419.mono le) (cons_eq rfl (cons_eq rfl (cons_eq rfl (cons_eq rfl rfl))))
       refine .cons (fun L env376 F_420 l_421 hL hdn hup hphi => ⟨[(94, (.tuple #[(.slice (env376.a 20) r_393.1.length (env376.n 20)), (.int .i64 r_393.2)]))], fun S hS hV => (.cons (hV 2 94 _ (hdn 1 2 rfl) rfl rfl) (Sub.nil _)), ?_⟩) ?_
       ·skip
        have h382 := hphi 0 _ (hdn 2 0 rfl) rfl _ Fz.r
        have h389 := hphi 1 _ (hdn 2 1 rfl) rfl _ Fz.r
        have h397 := hphi 2 _ (hdn 1 2 rfl) rfl _ Fz.r
        refine .move rfl rfl ?_
        exact .finV rfl rfl Fz.r
       refine .cons (fun L env376 F_422 l_423 hL hdn hup hphi => ⟨[(91, (.tuple #[(.slice (env376.a 20) r_393.1.length (env376.n 20)), (.int .i64 r_393.2)]))], fun S hS hV => (.cons (hV 3 91 _ (hdn 1 3 rfl) rfl rfl) (Sub.nil _)), ?_⟩) ?_
       ·skip
        have h382 := hphi 0 _ (hdn 3 0 rfl) rfl _ Fz.r
        have h389 := hphi 1 _ (hdn 3 1 rfl) rfl _ Fz.r
        have h397 := hphi 2 _ (hdn 2 2 rfl) rfl _ Fz.r
        refine .extract rfl rfl rfl ?_
        exact .finV rfl rfl Fz.r
       refine .cons (fun L env376 F_424 l_425 hL hdn hup hphi => ⟨[(91, (.tuple #[(.slice (env376.a 20) r_393.1.length (env376.n 20)), (.int .i64 r_393.2)]))], fun S hS hV => (.cons (hV 3 91 _ (hdn 1 3 rfl) rfl rfl) (Sub.nil _)), ?_⟩) ?_
       ·skip
        have h382 := hphi 0 _ (hdn 3 0 rfl) rfl _ Fz.r
        have h389 := hphi 1 _ (hdn 3 1 rfl) rfl _ Fz.r
        have h397 := hphi 2 _ (hdn 2 2 rfl) rfl _ Fz.r
        refine .extract rfl rfl rfl ?_
        exact .finV rfl rfl Fz.r
       refine .cons (fun L env376 F_426 l_427 hL hdn hup hphi => ⟨[(95, (.slice (env376.a 20) r_393.1.length (env376.n 20)))], fun S hS hV => (.cons (hV 4 95 _ (hdn 1 4 rfl) rfl rfl) (Sub.nil _)), ?_⟩) ?_
       ·skip
        have h382 := hphi 0 _ (hdn 1 0 rfl) rfl _ Fz.r
        have h389 := hphi 1 _ (hdn 1 1 rfl) rfl _ Fz.r
        have h397 := hphi 2 _ (hdn 1 2 rfl) rfl _ Fz.r
        refine .assign rfl rfl ?_
        exact .finV rfl rfl Fz.r
       exact .nil
      have h382 := hphi 0 _ rfl
      have h389 := hphi 1 _ rfl
      have h397 := hphi 2 _ rfl
      refine .norm (S' := [(11, (.int .i64 r_312.2)), (13, (.int .i64 r_335.2)), (14, (.slice (env376.a 20) r_393.1.length (env376.n 20))), (91, (.tuple #[(.slice (env376.a 20) r_393.1.length (env376.n 20)), (.int .i64 r_393.2)])), (92, (.slice (env376.a 0) (List.replicate n_381 (ApiMaltStep.mk 0 0 0)).length (env376.n 0))), (93, (.slice (env376.a 10) (List.replicate n_388 (ApiDutyEvent.mk 0 0 0 0 0 0)).length (env376.n 10))), (94, (.tuple #[(.slice (env376.a 20) r_393.1.length (env376.n 20)), (.int .i64 r_393.2)])), (95, (.slice (env376.a 20) r_393.1.length (env376.n 20))), (96, (.int .i64 r_393.2))]) (.cons (k := 11) rfl (.cons (k := 13) rfl (.cons (k := 14) rfl (.cons (k := 91) rfl (.cons (k := 92) rfl (.cons (k := 93) rfl (.cons (k := 94) rfl (.cons (k := 95) rfl (.cons (k := 96) rfl (.nil _)))))))))) (rfl : _ = [ownSl 1 (Ex (cInt .u8)) F_313 5 p315 k316 r_312.1, ownSl 1 (Ex (cInt .u8)) F_41 5 p43 k44 r_40.1, ownSl 2 rApiBooked F_304 41 p306 k307 b303, R]) ?_
      refine .assign rfl rfl (.nil (.code (.seq (.region (.makeSlice (z := 0) ok_t5 rfl Tryz.underlying25 Tryz.zeroValue5 (fun _ _ => rfl) rfl rfl (fun n_428 b429 _ => ?_))))))
      refine .freezeSl 0 rfl Fz.r (fun F_431 l_432 h433 => ?_)
      refine .call0 rfl Tryz.call19 rfl rfl rfl (c_file_Read _ (hT.mono (Fz.t l_8 (Fz.t l_33 (Fz.t l_42 (Fz.t l_305 (Fz.t l_314 (Fz.t l_342 (Fz.t l_400 l_432)))))))) (List.replicate n_428 0) (some ⟨b429, 0, none⟩) ((110784 : Int).toNat) h433) ?_
      rintro r_436 F_434 _ - l_435 ⟨p437, k438, rfl, h439⟩
      refine .move rfl rfl (.extract rfl rfl rfl (.extract rfl rfl rfl (.assign rfl rfl (.assign rfl rfl (.nil (.code (.seq (.region (.move rfl rfl (.eql rfl rfl rfl (.move rfl rfl ?_)))))))))))
      refine .andP (b := (r_312.2 == 3)) (b' := (r_335.2 == 3)) 3 107 (fun hb440 => ?_) (fun hb441 => ?_) (fun F_442 l_443 => ?_)
      ·skip
       refine .onH hb440 rfl rfl (.move rfl rfl (.onH hb440 rfl rfl (.eql rfl rfl rfl (.pickTH hb440 rfl rfl rfl ?_))))
       exact .fin 3 rfl rfl (by kernel_rfl) Fz.r
      ·skip
       refine .offH hb441 rfl rfl rfl (.offH hb441 rfl rfl rfl (.pickFH hb441 rfl rfl rfl ?_))
       exact .fin 3 rfl rfl (by kernel_rfl) Fz.r
      refine .move rfl rfl (.andP (b := ((r_312.2 == 3) && (r_335.2 == 3))) (b' := ((r_393.1.length : Int) == 1024)) 4 112 (fun hb444 => ?_) (fun hb445 => ?_) (fun F_446 l_447 => ?_))
      ·skip
       refine .onH hb444 rfl rfl (.move rfl rfl (.onH hb444 rfl rfl (.lenS rfl rfl Tryz.underlying22 rfl (.onH hb444 rfl rfl (.eql rfl rfl rfl (.pickTH hb444 rfl rfl rfl ?_))))))
       exact .fin 4 rfl rfl (by kernel_rfl) Fz.r
      ·skip
       refine .offH hb445 rfl rfl rfl (.offH hb445 rfl rfl rfl (.offH hb445 rfl rfl rfl (.pickFH hb445 rfl rfl rfl ?_)))
       exact .fin 4 rfl rfl (by kernel_rfl) Fz.r
      refine .move rfl rfl (.andP (b := (((r_312.2 == 3) && (r_335.2 == 3)) && ((r_393.1.length : Int) == 1024))) (b' := (r_393.2 == 0)) 3 116 (fun hb448 => ?_) (fun hb449 => ?_) (fun F_450 l_451 => ?_))
      ·skip
       refine .onH hb448 rfl rfl (.move rfl rfl (.onH hb448 rfl rfl (.eql rfl rfl rfl (.pickTH hb448 rfl rfl rfl ?_))))
       exact .fin 3 rfl rfl (by kernel_rfl) Fz.r
      ·skip
       refine .offH hb449 rfl rfl rfl (.offH hb449 rfl rfl rfl (.pickFH hb449 rfl rfl rfl ?_))
       exact .fin 3 rfl rfl (by kernel_rfl) Fz.r
      refine .move rfl rfl (.andP (b := ((((r_312.2 == 3) && (r_335.2 == 3)) && ((r_393.1.length : Int) == 1024)) && (r_393.2 == 0))) (b' := (r_436.2 == 8)) 3 120 (fun hb452 => ?_) (fun hb453 => ?_) (fun F_454 l_455 => ?_))
      ·skip
       refine .onH hb452 rfl rfl (.move rfl rfl (.onH hb452 rfl rfl (.eql rfl rfl rfl (.pickTH hb452 rfl rfl rfl ?_))))
       exact .fin 3 rfl rfl (by kernel_rfl) Fz.r
      ·skip
       refine .offH hb453 rfl rfl rfl (.offH hb453 rfl rfl rfl (.pickFH hb453 rfl rfl rfl ?_))
       exact .fin 3 rfl rfl (by kernel_rfl) Fz.r
      refine .move rfl rfl (.andM (b := (((((r_312.2 == 3) && (r_335.2 == 3)) && ((r_393.1.length : Int) == 1024)) && (r_393.2 == 0)) && (r_436.2 == 8))) 2 123 (fun hb456 z464 => ?_) (fun hb460 => ?_) (fun z463 F_461 l_462 => ?_))
      ·skip
       refine .onH hb456 rfl rfl (.call0 rfl Tryz.call16 rfl rfl rfl (c_wormtublaw14_alive _ (hT.mono (Fz.t l_8 (Fz.t l_33 (Fz.t l_42 (Fz.t l_305 (Fz.t l_314 (Fz.t l_342 (Fz.t l_400 (Fz.t l_432 (Fz.t l_435 (Fz.t l_443 (Fz.t l_447 (Fz.t l_451 l_455)))))))))))))) ?_)
       rintro r_459 F_457 _ - l_458 rfl
       refine .pickTH hb456 rfl rfl rfl ?_
       exact .finZ 2 rfl rfl (by kernel_rfl) l_458
      ·skip
       refine .offH hb460 rfl rfl rfl (.pickFH hb460 rfl rfl rfl ?_)
       exact .fin 2 rfl rfl (by kernel_rfl) Fz.r
      refine .assign rfl rfl (.nil (.keep (.cons (k := 4) rfl (.nil _)) (.code ?_)))
      exact .ret0 Tryz.results12 (.tmp rfl (.nil)) (i := 3) rfl (Fz.t l_8 (Fz.t l_33 (Fz.t l_42 (Fz.t l_305 (Fz.t l_314 (Fz.t l_342 (Fz.t l_400 (Fz.t l_432 (Fz.t l_435 (Fz.t l_443 (Fz.t l_447 (Fz.t l_451 (Fz.t l_455 l_462))))))))))))) rfl
end Go.Proofs.YthnlglmjffdpfaaGreatDoor
end

section
namespace Go.Proofs.YthnlglmjffdpfaaGreatDoor
open Go.Dec Go.Shelf Go.RowKit Go.Maps Go.Sort
theorem arr_of_list {α : Type} {a : Array α} {l : List α} (h : a.toList = l) : a = l.toArray := by rw [← h]
theorem gErrS : Tryz.prog.globalNamed "strconv.ErrSyntax" = some 1 := by kernel_rfl
theorem gErrR : Tryz.prog.globalNamed "strconv.ErrRange" = some 2 := by kernel_rfl
theorem gPow : Tryz.prog.globalNamed "internal/strconv.uint64pow10" = some 3 := by kernel_rfl
theorem tErrS : (Tryz.prog.globals[1]?).map (·.type) = some 120 := by kernel_rfl
theorem tErrR : (Tryz.prog.globals[2]?).map (·.type) = some 120 := by kernel_rfl
theorem tPow : (Tryz.prog.globals[3]?).map (·.type) = some 196 := by kernel_rfl
theorem err_of {W : World} {ps : List MemPlace} {l : List (String × DataW Unit)} (hl : DataW.LaidVars Tryz.prog W l ps) (j g0 : Nat) {n : String} {nm : String} {d : DataW Unit} (hj : l[j]? = some (n, .iface nm d)) (hg0 : Tryz.prog.globalNamed n = some g0) (ht0 : (Tryz.prog.globals[g0]?).map (·.type) = some 120) :
    ∃ ev T fr, (FW W).mem g0 = some (.cells #[ev] T fr) ∧ (ev = .nilIface ∨ ∃ te pe, ev = .iface te pe) := by
  obtain ⟨g, t, cs, fuel, p, T, fr, hg, ht, hh, hd⟩ := laid_at j hj hl
  obtain rfl := Option.some.inj (hg0.symm.trans hg)
  obtain rfl := Option.some.inj (ht0.symm.trans ht)
  obtain ⟨u, v, hc⟩ := Go.Dec.iface_cells Tryz.underlying120 hd
  exact ⟨_, T, fr, by rw [show (FW W).mem g0 = W.heap[g0]? from rfl, hh, arr_of_list hc], .inr ⟨u, v, rfl⟩⟩
theorem cells143 : Tryz.prog.cellsOf 143 = 1 := by kernel_rfl
theorem cells196 : Tryz.prog.cellsOf 196 = 20 := by kernel_rfl
theorem pow_data : (Rows.laid_internal_strconv_uint64pow10 : DataW Unit) = Go.Lib.tabData .u64 Go.Lib.pow10Tab := by kernel_rfl
theorem maxLen0 : ((begin Tryz.prog (fun _ _ => 0) default).world.heap[0]?).bind Obj.row? = some (#[.int .i64 0], 3) := by kernel_rfl
theorem laid_plain {W : World} (h : laidMetH Tryz.prog Rows.fileWritesRow.laid W) : laidMet Tryz.prog Rows.fileWritesRow.laid W := by
  rwa [MakeChecks.laidMetH_plain _ _ _ (by kernel_rfl)] at h
set_option maxRecDepth 100000 in
theorem tabs_of {W : World} (h : laidMetH Tryz.prog Rows.fileWritesRow.laid W) (hsh : W.ShapedOpen Tryz.prog) : TabsP (FW W) := by
  obtain ⟨ps, hl, _, _⟩ := laid_plain h
  refine ⟨?_, ?_, ?_, ?_⟩
  · obtain ⟨g, t, cs, fuel, p, T, fr, hg, ht, hh, hd⟩ := laid_at 2 rfl hl
    obtain rfl := Option.some.inj (gPow.symm.trans hg)
    obtain rfl := Option.some.inj (tPow.symm.trans ht)
    have hc := Go.Lib.cells_of_tab Tryz.underlying196 Tryz.underlying143 cells143 cells196 (by rw [← pow_data]; exact hd)
    exact ⟨3, T, fr, gPow, by rw [show (FW W).mem 3 = W.heap[3]? from rfl, hh, arr_of_list hc]; rfl⟩
  · obtain ⟨m, hm⟩ := Go.Proofs.cell_of_shapedOpen_int (P := Tryz.prog) (g := 0) (t := 3) (zero := #[.int .i64 0]) hsh (of_decide_eq_true (by kernel_rfl)) maxLen0 rfl (by kernel_rfl) (by kernel_rfl) Tryz.underlying3
    obtain ⟨T, fr, hb⟩ := int_cell_block hsh (of_decide_eq_true (by kernel_rfl)) maxLen0 rfl hm
    exact ⟨m, T, fr, hb⟩
  · exact err_of hl 5 1 rfl gErrS tErrS
  · exact err_of hl 4 2 rfl gErrR tErrR
end Go.Proofs.YthnlglmjffdpfaaGreatDoor
end

section
namespace Go.Proofs.YthnlglmjffdpfaaGreatDoor
open Go.Dec
open Go.ChangeShapes Go.WideShapes Go.ChangeAt Go.RowKit
def LawFileLong : Prop := ∀ (a0 : ApiBooked) (a1 : Int), okApiBooked a0 → (Lit.int .u8 a1).wf = true → m_wormtublaw14_FileLong a0 a1 = some true
set_option maxRecDepth 100000 in
theorem lifted_FileLong (law : LawFileLong) (os : Os) (started : os.Started) (H : Type) (enc : TypeId × Value → H) :
  ReturnsInHanded {} Tryz.checked os 12 .any (fun w args => (Rows.fileLongSpec.pre enc Tryz.prog Tryz.f12 Rows.fileLongRow.domain false w args ∧ laidMetH Tryz.prog Rows.fileLongRow.laid w) ∧ sizedMet enc Tryz.prog Tryz.f12 (OpenSpec.ofChange Rows.fileLongSpec) false w args) (Rows.fileLongSpec.post enc Tryz.prog Tryz.f12 false true false false) := by
 refine lift_tied (C := Tryz.checked) (X := fun w => laidMetH Tryz.prog Rows.fileLongRow.laid w) (fun _ _ hh h => h.of_heap hh) Tryz.own started (by kernel_rfl) Tryz.func12
  (ChangeSpec.witness_shaped (enc := enc) (C := Tryz.checked) (os := os) (X := fun w _ => laidMetH Tryz.prog Rows.fileLongRow.laid w) false (World.laidAll Tryz.prog os Rows.fileLongRow.laid) #[(.agg #[.int .i64 0, .slice none 0 0]), .int .u8 0] 12 (World.laidAll_os _ _ _) (World.shaped_of_ZipB (by kernel_rfl) (by kernel_rfl)) (by kernel_rfl) (by kernel_rfl) (by kernel_rfl)
   (by rw [MakeChecks.laidMetH_plain _ _ _ (by kernel_rfl)]; exact laidMet_laidAll _ (by kernel_rfl) (by kernel_rfl))) ?_
 intro W base args ds gs before hval hW hsh hL
 have hT : TabsP (FW W) := tabs_of hL hsh
 refine law_contractW (P := Tryz.prog) Tryz.laidOut (by kernel_rfl) rfl (by kernel_rfl : Tryz.f12.resultTypes = #[4]) Tryz.underlying4 (fun ds h => ?_) (fun base args ds ps hval hA => ?_) base args ds gs before hval hW
 ·match ds, h with
  | [d0, d1], _ => rfl
 ·rw [Tryz.params12] at hA hval
  obtain ⟨v0, l0, _, _, _, _, e0, _, _, t0, hA⟩ := trodAll_cons hA
  obtain ⟨v1, l1, _, _, _, _, e1, _, _, t1, hA⟩ := trodAll_cons hA
  obtain ⟨e2, _, _⟩ := trodAll_nil hA
  subst e2 e1
  obtain rfl : args = [v0, v1].toArray := by rw [← e0]
  obtain ⟨m0, cs0, o0, rfl, h0⟩ := argStruct Tryz.underlying41 vt41 (hval 0 _ _ rfl rfl) t0
  obtain ⟨p0_0, k0_0, rfl, h0_0⟩ := h0
  obtain ⟨m1, o1, rfl⟩ := argInt Tryz.underlying5 (hval 1 _ _ rfl rfl) t1
  have hl := law m0 m1 o0 o1
  have hc := c_wormtublaw14_FileLong (FW W) hT m0 p0_0 k0_0 h0_0 m1
  rw [hl] at hc
  exact hc
theorem said_FileLong (law : LawFileLong) : Rows.FileLongSaid :=
 OpenClaim.holds_of_wide 12 Tryz.f12 rfl rfl rfl rfl rfl rfl rfl ⟨rfl, rfl, rfl, rfl, rfl⟩ rfl rfl rfl rfl rfl (by kernel_rfl) Tryz.func12 (by kernel_rfl)
  (of_decide_eq_true (by kernel_rfl)) (by unfold Func.isWrapper; first | (rw [if_pos (by decide +kernel)]; kernel_rfl) | (rw [if_neg (by decide +kernel)]; exact ⟨rfl, rfl⟩))
  (fun os started H enc _ => lifted_FileLong law os started H enc)
theorem card_FileLong (law : LawFileLong) : Rows.FileLongCardSaid :=
 Claim7.holds_tied_plain_at .later [] [.data, .data, .data, .data, .sentinel, .sentinel, .pinned] true (true, "3bd84bf44a97e49b979e061ef005845ecf1aa6bc424530e46bde597d8668a3f8") true (said_FileLong law) (fun _ h => by cases h) (by kernel_rfl) (fun _ h => by cases h) fileLong_row_tie rfl ⟨rfl, rfl⟩ (by kernel_rfl) rfl
  (fun f fn hf hfn => by
   obtain rfl : f = 12 := Option.some.inj ((show Tryz.prog.funcNamed "wormtub/wormtublaw14.FileLong" = some 12 by kernel_rfl).symm.trans hf) |>.symm
   obtain rfl : fn = Tryz.f12 := (Option.some.inj (Tryz.func12.symm.trans hfn)).symm
   exact ⟨by kernel_rfl, fun j t ht => by
    have hall : (Tryz.f12.params.toList.all fun u => !Tryz.prog.wantsStandIn u) = true := by kernel_rfl
    have hm := Array.mem_of_getElem? ht
    exact (show Tryz.prog.wantsStandIn t = false by first | (simp at hm; done) | simpa using List.all_eq_true.1 hall t (by simpa using hm))⟩)
  (by kernel_rfl)
end Go.Proofs.YthnlglmjffdpfaaGreatDoor
end

section
namespace Go.Proofs.YthnlglmjffdpfaaGreatDoor
open Go.Dec
theorem Write_long {l : List ApiBooked} (h : 1024 < l.length) : m_file_Write l = some ([], 3) := by
  rw [Write_prog]; unfold writeP; rw [if_pos h]; rfl
theorem long_read : readP (List.replicate 110784 0) = ([], 8) := by
  unfold readP
  have : splitS (List.replicate 110784 0) = none := by
    unfold splitS
    rw [List.length_replicate]
    rw [if_neg (by decide)]
  rw [this]
theorem zero_i8 (n : Nat) : (List.replicate n (0 : Int)) = i8s (List.replicate n 0) := by
  unfold i8s; rw [List.map_replicate]; rfl
theorem rep_len (n k : Nat) : (bookL (List.replicate n (ApiMaltStep.mk 0 0 0)) [] [] (List.replicate k (ApiDutyEvent.mk 0 0 0 0 0 0))).length = n + k := by
  simp only [bookL, List.map_nil, List.append_nil, List.length_append, List.length_map, List.length_replicate]
theorem rep_ok {n k : Nat} (h : n + k ≤ 1024) : bookP (List.replicate n (ApiMaltStep.mk 0 0 0)) [] [] (List.replicate k (ApiDutyEvent.mk 0 0 0 0 0 0)) = (bookL (List.replicate n (ApiMaltStep.mk 0 0 0)) [] [] (List.replicate k (ApiDutyEvent.mk 0 0 0 0 0 0)), 0) := by
  unfold bookP
  rw [if_neg (by simp only [List.length_replicate, List.length_nil]; omega), if_pos]
  rw [okBook_iff, rep_len]
  refine ⟨h, fun x hx => ?_⟩
  simp only [bookL, List.map_nil, List.append_nil, List.mem_append, List.map_replicate] at hx
  rcases hx with hx | hx
  · rw [List.eq_of_mem_replicate hx]; decide
  · rw [List.eq_of_mem_replicate hx]; decide
theorem rep_bad {n k : Nat} (h : 1024 < n + k) : bookP (List.replicate n (ApiMaltStep.mk 0 0 0)) [] [] (List.replicate k (ApiDutyEvent.mk 0 0 0 0 0 0)) = ([], 3) := by
  unfold bookP
  rw [if_pos (by simp only [List.length_replicate, List.length_nil]; omega)]
theorem rep_prog {n k : Nat} (h : n ≤ 100000) (h2 : k ≤ 100000) : m_file_Book (List.replicate n (ApiMaltStep.mk 0 0 0)) [] [] (List.replicate k (ApiDutyEvent.mk 0 0 0 0 0 0)) = some (bookP (List.replicate n (ApiMaltStep.mk 0 0 0)) [] [] (List.replicate k (ApiDutyEvent.mk 0 0 0 0 0 0))) :=
  Book_prog _ _ _ _ (by rw [List.length_replicate]; exact h) (Nat.zero_le _) (Nat.zero_le _) (by rw [List.length_replicate]; exact h2)
theorem long_tail {l : List ApiBooked} (h : 1024 < l.length) (more : Int) (h0 : 0 ≤ more) (h1 : more ≤ 255) :
    ((m_file_Write l).bind fun r_133 => (mkO 1000 1000).bind fun n_144 => (mkO (w64 (25 + (w64 (more)))) (w64 (25 + (w64 (more))))).bind fun n_151 => (m_file_Book (List.replicate n_144 (ApiMaltStep.mk 0 0 0)) ([]) ([]) (List.replicate n_151 (ApiDutyEvent.mk 0 0 0 0 0 0))).bind fun r_156 => (mkO 1000 1000).bind fun n_202 => (mkO 24 24).bind fun n_209 => (m_file_Book (List.replicate n_202 (ApiMaltStep.mk 0 0 0)) ([]) ([]) (List.replicate n_209 (ApiDutyEvent.mk 0 0 0 0 0 0))).bind fun r_214 => (mkO 110784 110784).bind fun n_249 => (m_file_Read (List.replicate n_249 0)).bind fun r_257 => (if (((((r_133.2 == 3) && (r_156.2 == 3)) && ((r_214.1.length : Int) == 1024)) && (r_214.2 == 0)) && (r_257.2 == 8)) then ((m_wormtublaw14_alive).bind fun r_280 => some r_280) else some false).bind fun z284 => some z284) = some true := by
  obtain ⟨k, rfl⟩ := Int.eq_ofNat_of_zero_le h0
  have m1 : mkO 1000 1000 = some 1000 := by decide
  have m2 : mkO 24 24 = some 24 := by decide
  have m3 : mkO 110784 110784 = some 110784 := by decide
  have m4 : mkO (w64 (25 + w64 (k : Int))) (w64 (25 + w64 (k : Int))) = some (25 + k) := by
    rw [w64_id (n := (k : Int)) (by omega) (by omega), w64_id (by omega) (by omega)]
    unfold mkO
    rw [if_pos (by omega)]
    congr 1
  refine bind_of (Write_long h) (bind_of m1 (bind_of m4 ?_))
  refine bind_of (rep_prog (by decide) (by omega)) (bind_of m1 (bind_of m2 ?_))
  refine bind_of (rep_prog (by decide) (by decide)) (bind_of m3 ?_)
  rw [zero_i8]
  refine bind_of (by rw [Read_prog _ (by rw [List.length_replicate]; decide), long_read]) ?_
  rw [rep_bad (by omega), rep_ok (by decide)]
  simp only [rep_len]
  rw [alive_true]; rfl
theorem long_loop (x : ApiBooked) : loopM (b_wormtublaw14_FileLong_1 x) [] = some (List.replicate 1024 x) := by
  obtain ⟨t, rfl, hq⟩ := loopM_upto (body := b_wormtublaw14_FileLong_1 x) (fun _ (t : List ApiBooked) => t) (fun t => t) (fun i t => t = List.replicate i x) 1024
    (fun i t hi ht => by
      subst ht
      refine ⟨List.replicate (i + 1) x, ?_, rfl⟩
      unfold b_wormtublaw14_FileLong_1
      rw [if_pos (by rw [List.length_replicate, decide_eq_true_eq]; omega)]
      rw [appO_some' (by rw [List.length_replicate, List.length_singleton]; omega), List.replicate_succ']; rfl)
    (fun t ht => by subst ht; unfold b_wormtublaw14_FileLong_1; rw [if_neg (by rw [List.length_replicate]; decide)]) 1024 0 [] rfl rfl
  exact hq
theorem more_loop {body : List ApiBooked × Int → Option (Ctl (List ApiBooked × Int) (List ApiBooked))} (x : ApiBooked) (n : Nat) (hn : n ≤ 4)
    (hs : ∀ (t : List ApiBooked) (i : Nat), i < n → t.length ≤ 10000 → body (t, (i : Int)) = some (.next (t ++ [x], ((i + 1 : Nat) : Int)))) (he : ∀ t, body (t, (n : Int)) = some (.done t)) (l : List ApiBooked) (hl : l.length ≤ 2000) :
    loopM body (l, 0) = some (l ++ List.replicate n x) := by
  obtain ⟨t, rfl, hq⟩ := loopM_upto (body := body) (fun i (t : List ApiBooked) => (t, (i : Int))) (fun t => t) (fun i t => t = l ++ List.replicate i x) n
    (fun i t hi ht => by
      subst ht
      exact ⟨_, hs _ i hi (by rw [List.length_append, List.length_replicate]; omega), by rw [List.replicate_succ', List.append_assoc]⟩)
    (fun t _ => he t) n 0 l (by omega) (by simp)
  exact hq
theorem law_FileLong : LawFileLong := by
  intro x more _ hw
  obtain ⟨c0, c1⟩ := wf_u8 hw
  unfold m_wormtublaw14_FileLong
  by_cases hN : x.N.length ≤ 20
  · rw [if_neg (by simp; omega)]
    refine bind_of (long_loop x) ?_
    have hbl : (List.replicate 1024 x).length = 1024 := List.length_replicate
    have hk : w64 ((Int.tmod (w64 more) 4) + 1) = ((more.toNat % 4 + 1 : Nat) : Int) := by
      rw [w64_id (n := more) (by omega) (by omega), Int.tmod_eq_emod_of_nonneg (by omega), w64_id (by omega) (by omega)]; omega
    have ht := fun n (h : 1 ≤ n) => long_tail (l := List.replicate 1024 x ++ List.replicate n x) (by rw [List.length_append, hbl, List.length_replicate]; omega) more c0 c1
    by_cases hok : okS x = true
    · have hb : okBook (List.replicate 1024 x) = true := okBook_iff.2 ⟨by omega, fun y hy => by rw [List.eq_of_mem_replicate hy]; exact hok⟩
      refine bind_of (Write_ok hb) ?_
      refine (if_pos rfl).trans ?_
      have hlen := flat_len hb
      rw [hbl] at hlen
      refine bind_of (by rw [Read_prog _ (by omega), read_write hb]) ?_
      refine bind_of (show _ = some false from ?_) ?_
      · rw [if_neg (by rw [bne_self_eq_false, bne_self_eq_false]; decide)]
        have hs : sliceL (List.replicate 1024 x) 0 1 = some [x] := by
          unfold sliceL
          rw [if_pos (by rw [hbl]; decide)]
          rfl
        refine bind_of hs (bind_of hs (bind_of (Same_ok (okBook_iff.2 ⟨by simp, fun y hy => by rw [List.mem_singleton.1 hy]; exact hok⟩)) ?_))
        simp only [i8s_len, hlen]; rfl
      · rw [if_neg (by decide)]
        refine bind_of (more_loop x (more.toNat % 4 + 1) (by omega) (fun t i hi htl => by
          unfold b_wormtublaw14_FileLong_2
          rw [hk, if_pos (by rw [decide_eq_true_eq]; omega), appO_some' (by rw [List.length_singleton]; show t.length + 1 ≤ _; omega), nx (by omega)]; rfl) (fun t => by
          unfold b_wormtublaw14_FileLong_2
          rw [hk, if_neg (by simp)]) _ (by omega)) ?_
        exact ht _ (by omega)
    · have hb : okBook (List.replicate 1024 x) ≠ true := fun h => hok ((okBook_iff.1 h).2 x (by rw [List.mem_replicate]; exact ⟨by decide, rfl⟩))
      rcases Write_any (List.replicate 1024 x) (by omega) with ⟨h, _⟩ | ⟨_, hW⟩
      · exact absurd h hb
      · refine bind_of hW ?_
        refine (if_neg (by decide)).trans ((if_neg (by decide)).trans ?_)
        refine bind_of (more_loop x (more.toNat % 4 + 1) (by omega) (fun t i hi htl => by
          unfold b_wormtublaw14_FileLong_3
          rw [hk, if_pos (by rw [decide_eq_true_eq]; omega), appO_some' (by rw [List.length_singleton]; show t.length + 1 ≤ _; omega), nx (by omega)]; rfl) (fun t => by
          unfold b_wormtublaw14_FileLong_3
          rw [hk, if_neg (by simp)]) _ (by omega)) ?_
        exact ht _ (by omega)
  · rw [if_pos (by simp; omega), alive_true]; rfl
theorem fileLong_holds : Rows.FileLongCardSaid := card_FileLong law_FileLong
end Go.Proofs.YthnlglmjffdpfaaGreatDoor
end
