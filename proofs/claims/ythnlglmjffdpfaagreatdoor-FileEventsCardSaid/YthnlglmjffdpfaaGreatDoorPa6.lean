/- Own texts and texts printed by a program of mine, for fileEvents_holds; only what it reaches. -/
import Derived.Test.YthnlglmjffdpfaaGreatDoorPa5
import Derived.Test.YthnlglmjffdpfaaGreatDoorRows
import Derived.Test.YthnlglmjffdpfaaGreatDoorTie
import Derived.Test.YthnlglmjffdpfaaGreatDoorCards
section
namespace Go.Proofs.YthnlglmjffdpfaaGreatDoor
open Go.Dec Go.Shelf Go.RowKit Go.Maps Go.Sort
noncomputable def b_file_chosen_CaskEvent_1 (l_1 : (List ApiBooked)) (kind5 : Int) (of_6 : ((List Int) → Option ApiCaskEvent)) (s15 : (List ApiCaskEvent) × Int) : Option (Ctl ((List ApiCaskEvent) × Int) (((List ApiCaskEvent)))) :=
 if (decide (s15.2 < (l_1.length : Int))) then (((idxL l_1 s15.2).bind fun x22 => (if (x22.Kind == kind5) then ((of_6 x22.N).bind fun r_39 => (appO s15.1 ([r_39])).bind fun l_45 => some l_45) else (some s15.1) : Option ((List ApiCaskEvent))).bind fun j49 => some j49 : Option ((List ApiCaskEvent))).bind fun j55 => some (.next (j55, (w64 (s15.2 + 1))))) else (some (.done s15.1))
noncomputable def m_file_chosen_CaskEvent (l_1 : (List ApiBooked)) (kind5 : Int) (of_6 : ((List Int) → Option ApiCaskEvent)) : Option ((List ApiCaskEvent) × Int) :=
 (m_file_isBook l_1).bind fun r_12 => if (!r_12) then (some ([], 1)) else ((loopM (b_file_chosen_CaskEvent_1 l_1 kind5 of_6) ([], 0)).bind fun b61 => some (b61, 0))
set_option maxRecDepth 100000 in
set_option maxHeartbeats 4000000 in
theorem c_file_chosen_CaskEvent (F0 : Fz) (l_1 : (List ApiBooked)) (p2 : Option Addr) (k3 : Nat) (h4 : RepSl 2 rApiBooked F0 p2 k3 l_1) (kind5 : Int) (of_6 : ((List Int) → Option ApiCaskEvent)) (p7 : FuncId) (k8 : List Value) (h9 : RepFn Tryz.prog F0 p7 k8 (fun x F vs => ∃ p0 k0, vs = [(.slice p0 x.length k0)] ∧ RepSl 1 (Ex (cInt .i64)) F p0 k0 x) (fun r _ v => v = (eApiCaskEvent r)) of_6) : CT0 Tryz.prog 59 [(.slice p2 l_1.length k3), (.int .i64 kind5), (.func (.func p7) #[] k8.toArray)].toArray F0 (m_file_chosen_CaskEvent l_1 kind5 of_6) (fun r F v => ∃ (p0 : Option Addr) (k0 : Nat), v = .tuple #[(.slice p0 r.1.length k0), (.int .i64 r.2)] ∧ RepSl 8 (Ex cApiCaskEvent) F p0 k0 r.1) := by
 refine CT0.enter Tryz.func59 rfl Tryz.ntmps59 rfl fun r R => ?_
 unfold m_file_chosen_CaskEvent
 refine .seq (.region (.assign rfl rfl (.assign rfl rfl (.nil (.code (.seq (.seq (.region (.move rfl rfl (.call0 rfl Tryz.call42 rfl rfl rfl (c_file_isBook _ l_1 p2 k3 h4) ?_))))))))))
 rintro r_12 F_10 _ - l_11 rfl
 refine .not rfl rfl (.nil (.code (.cond rfl (fun hb13 => ?_) (fun hb13 => ?_))))
 ·skip
  refine .seq (.region (.assign rfl rfl (.assign rfl rfl (.nil (.code ?_)))))
  exact .ret0 Tryz.results59 (.tmp rfl (.tmp rfl (.nil))) (i := 0) rfl l_11 ⟨none, 0, rfl, (RepSl.nil.mono l_11)⟩
 ·skip
  refine .skip (.code (.seq (.region (.assign rfl rfl (.nil (.code (.seq (.seq (.region (.move rfl rfl (.lenS rfl rfl Tryz.underlying22 rfl ?_)))))))))))
  refine .move rfl rfl (.nil (.code (.block (.ownNil 8 (Ex cApiCaskEvent) 69 (.keep (.cons (k := 1) rfl (.cons (k := 2) rfl (.cons (k := 8) rfl (.cons (k := 14) rfl (.cons (k := 15) rfl (.cons (k := 16) rfl (.nil _))))))) ?_)))))
  refine .loop (fun (s15 : (List ApiCaskEvent) × Int) a w => ∃ (F_16 : Fz) (p18 : Option Addr) (k19 : Nat), F_10 ≤ F_16 ∧ Hd 33 [] [(1, (.int .i64 kind5)), (2, (.func (.func p7) #[] k8.toArray)), (8, (.slice p18 s15.1.length k19)), (14, (.slice p2 l_1.length k3)), (15, (.int .i64 (l_1.length : Int))), (16, (.int .i64 s15.2))] F_16 [ownSl 8 (Ex cApiCaskEvent) F_16 69 p18 k19 s15.1, R] a w) (fun b61 e a w => e = .exit 0 ∧ ∃ (F_62 : Fz) (p64 : Option Addr) (k65 : Nat), F_10 ≤ F_62 ∧ Hd 33 [] [(8, (.slice p64 b61.length k65))] F_62 [ownSl 8 (Ex cApiCaskEvent) F_62 69 p64 k65 b61, R] a w) ?_ ?_ ?_
  ·exact fun a w h => ⟨F_10, none, 0, Fz.r, h.1.sub (.cons (k := 1) rfl (.cons (k := 2) rfl (.cons (k := 8) rfl (.cons (k := 14) rfl (.cons (k := 15) rfl (.cons (k := 16) rfl (.nil _))))))), h.2⟩
  ·intro s15 ctl
   refine GC.ex (fun a w ⟨F_16, p18, k19, l_17, hA⟩ => ⟨_, hA, ?_⟩)
   unfold b_file_chosen_CaskEvent_1
   refine .seq (.region (.lss rfl rfl rfl (.nil (.code (.seq (.cond rfl (fun hb21 => ?_) (fun hb21 => ?_)))))))
   ·skip
    refine .skip (.code (.seq (.keep (.cons (k := 1) rfl (.cons (k := 2) rfl (.cons (k := 8) rfl (.cons (k := 14) rfl (.cons (k := 15) rfl (.cons (k := 16) rfl (.nil _))))))) ?_)))
    refine GC.join0 (σ := (List ApiCaskEvent)) (fun j55 a w => ∃ (F_56 : Fz) (p58 : Option Addr) (k59 : Nat), F_16 ≤ F_56 ∧ Hd 33 [] [(1, (.int .i64 kind5)), (2, (.func (.func p7) #[] k8.toArray)), (8, (.slice p58 j55.length k59)), (14, (.slice p2 l_1.length k3)), (15, (.int .i64 (l_1.length : Int))), (16, (.int .i64 s15.2))] F_56 [ownSl 8 (Ex cApiCaskEvent) F_56 69 p58 k59 j55, R] a w) (fun sj => ?_) (fun j55 hs0 => GE.ex (fun a w ⟨F_56, p58, k59, l_57, hA⟩ => ⟨_, hA, ?_⟩))
    ·skip
     refine .block (.seq (.region (.idx rfl Tryz.underlying22 Tryz.sizeOf41 (h4.mono (Fz.t l_11 l_17)) rfl rfl (fun x22 b23 o24 T25 fr26 cs27 e28 hm29 hv30 => ?_))))
     obtain ⟨p32, k33, hv30, h34⟩ := hv30
     refine .loadFA rfl Tryz.isAgg41 Tryz.sizeOf41 rfl hm29 hv30 rfl (.alloc (cs := (cApiBooked (ApiBooked.mk 0 ([])) none 0)) rfl Tryz.zeroValue41 rfl (fun b35 => ?_))
     refine .store (cs' := (cApiBooked x22 p32 k33)) Tryz.sizeOf41 rfl rfl rfl rfl (i := 0) rfl (Nat.le_of_ble_eq_true rfl) rfl (setMany_all (by rfl)) (.nil (.code (.seq (.region (.fieldAddr rfl Tryz.underlying41 rfl Tryz.sizeOf3 rfl (.loadO rfl Tryz.isAgg3 rfl (i := 0) rfl rfl (.move rfl rfl (.eql rfl rfl rfl (.nil (.code ?_))))))))))
     refine .keep (.cons (k := 1) rfl (.cons (k := 2) rfl (.cons (k := 8) rfl (.cons (k := 10) rfl (.cons (k := 14) rfl (.cons (k := 15) rfl (.cons (k := 16) rfl (.cons (k := 23) rfl (.nil _))))))))) ?_
     refine GC.join0 (σ := (List ApiCaskEvent)) (fun j49 a w => ∃ (F_50 : Fz) (p52 : Option Addr) (k53 : Nat), F_16 ≤ F_50 ∧ Hd 33 [] [(1, (.int .i64 kind5)), (2, (.func (.func p7) #[] k8.toArray)), (8, (.slice p52 j49.length k53)), (14, (.slice p2 l_1.length k3)), (15, (.int .i64 (l_1.length : Int))), (16, (.int .i64 s15.2))] F_50 [pt b35 (.cells (cApiBooked x22 p32 k33).toArray 41), ownSl 8 (Ex cApiCaskEvent) F_50 69 p52 k53 j49, R] a w) (fun sj => ?_) (fun j49 hs0 => GE.ex (fun a w ⟨F_50, p52, k53, l_51, hA⟩ => ⟨_, hA, ?_⟩))
     ·skip
      refine .cond rfl (fun hb36 => ?_) (fun hb36 => ?_)
      ·skip
       refine .region (.move rfl rfl (.move rfl rfl (.fieldAddr rfl Tryz.underlying41 rfl Tryz.sizeOf31 rfl (.loadO rfl Tryz.isAgg31 rfl (i := 0) rfl rfl (.call0 rfl h9.1 rfl rfl rfl (h9.2 _ (Fz.t l_11 l_17) x22.N [(.slice p32 x22.N.length k33)] ⟨_, _, rfl, h34⟩) ?_)))))
       rintro r_39 F_37 _ - l_38 rfl
       refine .sliceLit (cs := [.int .i64 r_39.Kind, .int .i64 r_39.Day, .int .i64 r_39.Cask, .int .i64 r_39.Other, .int .i64 r_39.Person, .int .i64 r_39.To, .int .i64 r_39.Amount, .int .i64 r_39.Where]) (zc := [.int .i64 (ApiCaskEvent.mk 0 0 0 0 0 0 0 0).Kind, .int .i64 (ApiCaskEvent.mk 0 0 0 0 0 0 0 0).Day, .int .i64 (ApiCaskEvent.mk 0 0 0 0 0 0 0 0).Cask, .int .i64 (ApiCaskEvent.mk 0 0 0 0 0 0 0 0).Other, .int .i64 (ApiCaskEvent.mk 0 0 0 0 0 0 0 0).Person, .int .i64 (ApiCaskEvent.mk 0 0 0 0 0 0 0 0).To, .int .i64 (ApiCaskEvent.mk 0 0 0 0 0 0 0 0).Amount, .int .i64 (ApiCaskEvent.mk 0 0 0 0 0 0 0 0).Where]) rfl Tryz.underlying58 Tryz.sizeOf69 Tryz.zeroValue69 rfl rfl rfl (by kernel_rfl) (by kernel_rfl) (fun b40 F_41 l_42 hb43 => ?_)
       have h44 : RepSl 8 (Ex cApiCaskEvent) F_41 (some ⟨b40, 0, none⟩) 1 ([r_39]) := RepSl.ofRow hb43 (.cons ok_t69.mono rfl .nil) rfl rfl
       refine .append 1 ok_t69 (Fz.t l_38 l_42) rfl Tryz.underlying58 Tryz.underlying58 rfl rfl rfl h44 rfl rfl (fun l_45 p46 k47 e48 => ?_)
       refine .assign rfl rfl (.nil ?_)
       exact .nil fun e a w h => by cases e; exact ⟨rfl, ⟨F_41, p46, k47, (Fz.t l_38 l_42), h.1.sub (.cons (k := 1) rfl (.cons (k := 2) rfl (.cons (k := 8) rfl (.cons (k := 14) rfl (.cons (k := 15) rfl (.cons (k := 16) rfl (.nil _))))))), h.2⟩⟩
      ·skip
       refine .skip ?_
       exact .nil fun e a w h => by cases e; exact ⟨rfl, ⟨F_16, p18, k19, Fz.r, h.1.sub (.cons (k := 1) rfl (.cons (k := 2) rfl (.cons (k := 8) rfl (.cons (k := 14) rfl (.cons (k := 15) rfl (.cons (k := 16) rfl (.nil _))))))), h.2⟩⟩
     refine .block (.drop 0 ?_)
     exact .nil fun e a w h => by cases e; exact ⟨rfl, ⟨F_50, p52, k53, l_51, h.1.sub (.cons (k := 1) rfl (.cons (k := 2) rfl (.cons (k := 8) rfl (.cons (k := 14) rfl (.cons (k := 15) rfl (.cons (k := 16) rfl (.nil _))))))), h.2⟩⟩
    refine .code (.region (.add rfl rfl rfl (.move rfl rfl (.nil ?_))))
    exact .nil (LPost.norm fun a w h => ⟨F_56, p58, k59, (Fz.t l_17 l_57), h.1.sub (.cons (k := 1) rfl (.cons (k := 2) rfl (.cons (k := 8) rfl (.cons (k := 14) rfl (.cons (k := 15) rfl (.cons (k := 16) rfl (.nil _))))))), h.2⟩)
   ·skip
    refine .exitOut rfl (LPost.exit fun a w h => ⟨rfl, F_16, p18, k19, l_17, h.1.sub (.cons (k := 8) rfl (.nil _)), h.2⟩)
  ·intro b61 hb0 hk e a w hD
   obtain ⟨rfl, F_62, p64, k65, l_63, hA⟩ := hD
   refine interp_exit rfl (GE.app ?_ hk a w hA)
   refine .code (.seq (.region (.move rfl rfl (.assign rfl rfl (.assign rfl rfl (.nil (.code (.freezeSl 0 rfl Fz.r (fun F_67 l_68 h69 => ?_)))))))))
   exact .ret0 Tryz.results59 (.tmp rfl (.tmp rfl (.nil))) (i := 0) rfl (Fz.t l_11 (Fz.t l_63 l_68)) ⟨p64, k65, rfl, h69⟩
noncomputable def m_file_Casks_1 (n_1 : (List Int)) : Option ApiCaskEvent :=
 (idxL n_1 0).bind fun x6 => (idxL n_1 1).bind fun x16 => (idxL n_1 2).bind fun x26 => (idxL n_1 3).bind fun x36 => (idxL n_1 4).bind fun x46 => (idxL n_1 5).bind fun x56 => (idxL n_1 6).bind fun x66 => (idxL n_1 7).bind fun x76 => some (ApiCaskEvent.mk x6 x16 x26 x36 x46 x56 x66 x76)
set_option maxRecDepth 100000 in
set_option maxHeartbeats 4000000 in
theorem c_file_Casks_1 (F0 : Fz) (n_1 : (List Int)) (p2 : Option Addr) (k3 : Nat) (h4 : RepSl 1 (Ex (cInt .i64)) F0 p2 k3 n_1) : CT0 Tryz.prog 60 [(.slice p2 n_1.length k3)].toArray F0 (m_file_Casks_1 n_1) (fun r _ v => v = (eApiCaskEvent r)) := by
 refine CT0.enter Tryz.func60 rfl Tryz.ntmps60 rfl fun r R => ?_
 unfold m_file_Casks_1
 refine .seq (.region (.alloc (cs := (cApiCaskEvent (ApiCaskEvent.mk 0 0 0 0 0 0 0 0))) rfl Tryz.zeroValue69 rfl (fun b5 => ?_)))
 refine .nil (.code (.seq (.keep (.cons (k := 0) rfl (.cons (k := 2) rfl (.nil _))) (.drawZ 25 mixedOK (by kernel_rfl) (.move rfl rfl (.idx rfl Tryz.underlying31 Tryz.sizeOf3 h4 rfl rfl (fun x6 b7 o8 T9 fr10 cs11 e12 hm13 hv14 => ?_)))))))
 refine .loadF rfl Tryz.isAgg3 rfl hm13 (cell_of_take (k := 0) hv14 rfl) (.move rfl rfl (.idx rfl Tryz.underlying31 Tryz.sizeOf3 h4 rfl rfl (fun x16 b17 o18 T19 fr20 cs21 e22 hm23 hv24 => ?_)))
 refine .loadF rfl Tryz.isAgg3 rfl hm23 (cell_of_take (k := 0) hv24 rfl) (.move rfl rfl (.idx rfl Tryz.underlying31 Tryz.sizeOf3 h4 rfl rfl (fun x26 b27 o28 T29 fr30 cs31 e32 hm33 hv34 => ?_)))
 refine .loadF rfl Tryz.isAgg3 rfl hm33 (cell_of_take (k := 0) hv34 rfl) (.move rfl rfl (.idx rfl Tryz.underlying31 Tryz.sizeOf3 h4 rfl rfl (fun x36 b37 o38 T39 fr40 cs41 e42 hm43 hv44 => ?_)))
 refine .loadF rfl Tryz.isAgg3 rfl hm43 (cell_of_take (k := 0) hv44 rfl) (.move rfl rfl (.idx rfl Tryz.underlying31 Tryz.sizeOf3 h4 rfl rfl (fun x46 b47 o48 T49 fr50 cs51 e52 hm53 hv54 => ?_)))
 refine .loadF rfl Tryz.isAgg3 rfl hm53 (cell_of_take (k := 0) hv54 rfl) (.move rfl rfl (.idx rfl Tryz.underlying31 Tryz.sizeOf3 h4 rfl rfl (fun x56 b57 o58 T59 fr60 cs61 e62 hm63 hv64 => ?_)))
 refine .loadF rfl Tryz.isAgg3 rfl hm63 (cell_of_take (k := 0) hv64 rfl) (.move rfl rfl (.idx rfl Tryz.underlying31 Tryz.sizeOf3 h4 rfl rfl (fun x66 b67 o68 T69 fr70 cs71 e72 hm73 hv74 => ?_)))
 refine .loadF rfl Tryz.isAgg3 rfl hm73 (cell_of_take (k := 0) hv74 rfl) (.move rfl rfl (.idx rfl Tryz.underlying31 Tryz.sizeOf3 h4 rfl rfl (fun x76 b77 o78 T79 fr80 cs81 e82 hm83 hv84 => ?_)))
 refine .loadF rfl Tryz.isAgg3 rfl hm83 (cell_of_take (k := 0) hv84 rfl) (.build (cs := (cApiCaskEvent (ApiCaskEvent.mk x6 x16 x26 x36 x46 x56 x66 x76)).toArray) rfl Tryz.underlying69 Tryz.zeroValue69 (plApiCaskEvent _ Tryz.underlying69) rfl rfl (by kernel_rfl) (.pend ?_))
 refine .store (cs' := (cApiCaskEvent (ApiCaskEvent.mk x6 x16 x26 x36 x46 x56 x66 x76))) Tryz.sizeOf69 rfl rfl rfl rfl (i := 0) rfl (Nat.le_of_ble_eq_true rfl) rfl (setMany_all (by rfl)) (.nil (.keep (.cons (k := 2) rfl (.nil _)) (.code ?_)))
 exact .ret0 Tryz.results60 (.agg rfl Tryz.isAgg69 Tryz.sizeOf69 (i := 0) rfl (vs' := (cApiCaskEvent (ApiCaskEvent.mk x6 x16 x26 x36 x46 x56 x66 x76))) (by kernel_rfl) rfl (.nil)) (i := 1) rfl Fz.r rfl
noncomputable def m_file_Casks (l_1 : (List ApiBooked)) : Option ((List ApiCaskEvent) × Int) :=
 (m_file_chosen_CaskEvent l_1 2 (fun x => m_file_Casks_1 x)).bind fun r_8 => some (r_8.1, r_8.2)
set_option maxRecDepth 100000 in
set_option maxHeartbeats 4000000 in
theorem c_file_Casks (F0 : Fz) (l_1 : (List ApiBooked)) (p2 : Option Addr) (k3 : Nat) (h4 : RepSl 2 rApiBooked F0 p2 k3 l_1) : CT0 Tryz.prog 28 [(.slice p2 l_1.length k3)].toArray F0 (m_file_Casks l_1) (fun r F v => ∃ (p0 : Option Addr) (k0 : Nat), v = .tuple #[(.slice p0 r.1.length k0), (.int .i64 r.2)] ∧ RepSl 8 (Ex cApiCaskEvent) F p0 k0 r.1) := by
 refine CT0.enter Tryz.func28 rfl Tryz.ntmps28 rfl fun r R => ?_
 unfold m_file_Casks
 refine .seq (.region (.assign rfl rfl (.assign rfl rfl (.nil (.code (.seq (.region (.move rfl rfl ?_))))))))
 have hf5 : RepFn Tryz.prog F0 60 [] (fun x F vs => ∃ p0 k0, vs = [(.slice p0 x.length k0)] ∧ RepSl 1 (Ex (cInt .i64)) F p0 k0 x) (fun r _ v => v = (eApiCaskEvent r)) (fun x => m_file_Casks_1 x) := ⟨Tryz.call60, fun F' le' x vs hv => by obtain ⟨_, _, rfl, hq0⟩ := hv; exact c_file_Casks_1 F' x _ _ hq0⟩
 refine .call0 rfl Tryz.call59 rfl rfl rfl (c_file_chosen_CaskEvent _ l_1 p2 k3 h4 2 (fun x => m_file_Casks_1 x) 60 ([]) hf5) ?_
 rintro r_8 F_6 _ - l_7 ⟨p9, k10, rfl, h11⟩
 refine .extract rfl rfl rfl (.extract rfl rfl rfl (.assign rfl rfl (.assign rfl rfl (.nil (.code ?_)))))
 exact .ret0 Tryz.results28 (.tmp rfl (.tmp rfl (.nil))) (i := 0) rfl l_7 ⟨p9, k10, rfl, h11⟩
noncomputable def b_file_chosen_DutyEvent_1 (l_1 : (List ApiBooked)) (kind5 : Int) (of_6 : ((List Int) → Option ApiDutyEvent)) (s15 : (List ApiDutyEvent) × Int) : Option (Ctl ((List ApiDutyEvent) × Int) (((List ApiDutyEvent)))) :=
 if (decide (s15.2 < (l_1.length : Int))) then (((idxL l_1 s15.2).bind fun x22 => (if (x22.Kind == kind5) then ((of_6 x22.N).bind fun r_39 => (appO s15.1 ([r_39])).bind fun l_45 => some l_45) else (some s15.1) : Option ((List ApiDutyEvent))).bind fun j49 => some j49 : Option ((List ApiDutyEvent))).bind fun j55 => some (.next (j55, (w64 (s15.2 + 1))))) else (some (.done s15.1))
noncomputable def m_file_chosen_DutyEvent (l_1 : (List ApiBooked)) (kind5 : Int) (of_6 : ((List Int) → Option ApiDutyEvent)) : Option ((List ApiDutyEvent) × Int) :=
 (m_file_isBook l_1).bind fun r_12 => if (!r_12) then (some ([], 1)) else ((loopM (b_file_chosen_DutyEvent_1 l_1 kind5 of_6) ([], 0)).bind fun b61 => some (b61, 0))
set_option maxRecDepth 100000 in
set_option maxHeartbeats 4000000 in
theorem c_file_chosen_DutyEvent (F0 : Fz) (l_1 : (List ApiBooked)) (p2 : Option Addr) (k3 : Nat) (h4 : RepSl 2 rApiBooked F0 p2 k3 l_1) (kind5 : Int) (of_6 : ((List Int) → Option ApiDutyEvent)) (p7 : FuncId) (k8 : List Value) (h9 : RepFn Tryz.prog F0 p7 k8 (fun x F vs => ∃ p0 k0, vs = [(.slice p0 x.length k0)] ∧ RepSl 1 (Ex (cInt .i64)) F p0 k0 x) (fun r _ v => v = (eApiDutyEvent r)) of_6) : CT0 Tryz.prog 61 [(.slice p2 l_1.length k3), (.int .i64 kind5), (.func (.func p7) #[] k8.toArray)].toArray F0 (m_file_chosen_DutyEvent l_1 kind5 of_6) (fun r F v => ∃ (p0 : Option Addr) (k0 : Nat), v = .tuple #[(.slice p0 r.1.length k0), (.int .i64 r.2)] ∧ RepSl 6 (Ex cApiDutyEvent) F p0 k0 r.1) := by
 refine CT0.enter Tryz.func61 rfl Tryz.ntmps61 rfl fun r R => ?_
 unfold m_file_chosen_DutyEvent
 refine .seq (.region (.assign rfl rfl (.assign rfl rfl (.nil (.code (.seq (.seq (.region (.move rfl rfl (.call0 rfl Tryz.call42 rfl rfl rfl (c_file_isBook _ l_1 p2 k3 h4) ?_))))))))))
 rintro r_12 F_10 _ - l_11 rfl
 refine .not rfl rfl (.nil (.code (.cond rfl (fun hb13 => ?_) (fun hb13 => ?_))))
 ·skip
  refine .seq (.region (.assign rfl rfl (.assign rfl rfl (.nil (.code ?_)))))
  exact .ret0 Tryz.results61 (.tmp rfl (.tmp rfl (.nil))) (i := 0) rfl l_11 ⟨none, 0, rfl, (RepSl.nil.mono l_11)⟩
 ·skip
  refine .skip (.code (.seq (.region (.assign rfl rfl (.nil (.code (.seq (.seq (.region (.move rfl rfl (.lenS rfl rfl Tryz.underlying22 rfl ?_)))))))))))
  refine .move rfl rfl (.nil (.code (.block (.ownNil 6 (Ex cApiDutyEvent) 72 (.keep (.cons (k := 1) rfl (.cons (k := 2) rfl (.cons (k := 8) rfl (.cons (k := 14) rfl (.cons (k := 15) rfl (.cons (k := 16) rfl (.nil _))))))) ?_)))))
  refine .loop (fun (s15 : (List ApiDutyEvent) × Int) a w => ∃ (F_16 : Fz) (p18 : Option Addr) (k19 : Nat), F_10 ≤ F_16 ∧ Hd 33 [] [(1, (.int .i64 kind5)), (2, (.func (.func p7) #[] k8.toArray)), (8, (.slice p18 s15.1.length k19)), (14, (.slice p2 l_1.length k3)), (15, (.int .i64 (l_1.length : Int))), (16, (.int .i64 s15.2))] F_16 [ownSl 6 (Ex cApiDutyEvent) F_16 72 p18 k19 s15.1, R] a w) (fun b61 e a w => e = .exit 0 ∧ ∃ (F_62 : Fz) (p64 : Option Addr) (k65 : Nat), F_10 ≤ F_62 ∧ Hd 33 [] [(8, (.slice p64 b61.length k65))] F_62 [ownSl 6 (Ex cApiDutyEvent) F_62 72 p64 k65 b61, R] a w) ?_ ?_ ?_
  ·exact fun a w h => ⟨F_10, none, 0, Fz.r, h.1.sub (.cons (k := 1) rfl (.cons (k := 2) rfl (.cons (k := 8) rfl (.cons (k := 14) rfl (.cons (k := 15) rfl (.cons (k := 16) rfl (.nil _))))))), h.2⟩
  ·intro s15 ctl
   refine GC.ex (fun a w ⟨F_16, p18, k19, l_17, hA⟩ => ⟨_, hA, ?_⟩)
   unfold b_file_chosen_DutyEvent_1
   refine .seq (.region (.lss rfl rfl rfl (.nil (.code (.seq (.cond rfl (fun hb21 => ?_) (fun hb21 => ?_)))))))
   ·skip
    refine .skip (.code (.seq (.keep (.cons (k := 1) rfl (.cons (k := 2) rfl (.cons (k := 8) rfl (.cons (k := 14) rfl (.cons (k := 15) rfl (.cons (k := 16) rfl (.nil _))))))) ?_)))
    refine GC.join0 (σ := (List ApiDutyEvent)) (fun j55 a w => ∃ (F_56 : Fz) (p58 : Option Addr) (k59 : Nat), F_16 ≤ F_56 ∧ Hd 33 [] [(1, (.int .i64 kind5)), (2, (.func (.func p7) #[] k8.toArray)), (8, (.slice p58 j55.length k59)), (14, (.slice p2 l_1.length k3)), (15, (.int .i64 (l_1.length : Int))), (16, (.int .i64 s15.2))] F_56 [ownSl 6 (Ex cApiDutyEvent) F_56 72 p58 k59 j55, R] a w) (fun sj => ?_) (fun j55 hs0 => GE.ex (fun a w ⟨F_56, p58, k59, l_57, hA⟩ => ⟨_, hA, ?_⟩))
    ·skip
     refine .block (.seq (.region (.idx rfl Tryz.underlying22 Tryz.sizeOf41 (h4.mono (Fz.t l_11 l_17)) rfl rfl (fun x22 b23 o24 T25 fr26 cs27 e28 hm29 hv30 => ?_))))
     obtain ⟨p32, k33, hv30, h34⟩ := hv30
     refine .loadFA rfl Tryz.isAgg41 Tryz.sizeOf41 rfl hm29 hv30 rfl (.alloc (cs := (cApiBooked (ApiBooked.mk 0 ([])) none 0)) rfl Tryz.zeroValue41 rfl (fun b35 => ?_))
     refine .store (cs' := (cApiBooked x22 p32 k33)) Tryz.sizeOf41 rfl rfl rfl rfl (i := 0) rfl (Nat.le_of_ble_eq_true rfl) rfl (setMany_all (by rfl)) (.nil (.code (.seq (.region (.fieldAddr rfl Tryz.underlying41 rfl Tryz.sizeOf3 rfl (.loadO rfl Tryz.isAgg3 rfl (i := 0) rfl rfl (.move rfl rfl (.eql rfl rfl rfl (.nil (.code ?_))))))))))
     refine .keep (.cons (k := 1) rfl (.cons (k := 2) rfl (.cons (k := 8) rfl (.cons (k := 10) rfl (.cons (k := 14) rfl (.cons (k := 15) rfl (.cons (k := 16) rfl (.cons (k := 23) rfl (.nil _))))))))) ?_
     refine GC.join0 (σ := (List ApiDutyEvent)) (fun j49 a w => ∃ (F_50 : Fz) (p52 : Option Addr) (k53 : Nat), F_16 ≤ F_50 ∧ Hd 33 [] [(1, (.int .i64 kind5)), (2, (.func (.func p7) #[] k8.toArray)), (8, (.slice p52 j49.length k53)), (14, (.slice p2 l_1.length k3)), (15, (.int .i64 (l_1.length : Int))), (16, (.int .i64 s15.2))] F_50 [pt b35 (.cells (cApiBooked x22 p32 k33).toArray 41), ownSl 6 (Ex cApiDutyEvent) F_50 72 p52 k53 j49, R] a w) (fun sj => ?_) (fun j49 hs0 => GE.ex (fun a w ⟨F_50, p52, k53, l_51, hA⟩ => ⟨_, hA, ?_⟩))
     ·skip
      refine .cond rfl (fun hb36 => ?_) (fun hb36 => ?_)
      ·skip
       refine .region (.move rfl rfl (.move rfl rfl (.fieldAddr rfl Tryz.underlying41 rfl Tryz.sizeOf31 rfl (.loadO rfl Tryz.isAgg31 rfl (i := 0) rfl rfl (.call0 rfl h9.1 rfl rfl rfl (h9.2 _ (Fz.t l_11 l_17) x22.N [(.slice p32 x22.N.length k33)] ⟨_, _, rfl, h34⟩) ?_)))))
       rintro r_39 F_37 _ - l_38 rfl
       refine .sliceLit (cs := [.int .i64 r_39.Kind, .int .i64 r_39.Day, .int .i64 r_39.Bond, .int .i64 r_39.To, .int .i64 r_39.Id, .int .i64 r_39.Amount]) (zc := [.int .i64 (ApiDutyEvent.mk 0 0 0 0 0 0).Kind, .int .i64 (ApiDutyEvent.mk 0 0 0 0 0 0).Day, .int .i64 (ApiDutyEvent.mk 0 0 0 0 0 0).Bond, .int .i64 (ApiDutyEvent.mk 0 0 0 0 0 0).To, .int .i64 (ApiDutyEvent.mk 0 0 0 0 0 0).Id, .int .i64 (ApiDutyEvent.mk 0 0 0 0 0 0).Amount]) rfl Tryz.underlying56 Tryz.sizeOf72 Tryz.zeroValue72 rfl rfl rfl (by kernel_rfl) (by kernel_rfl) (fun b40 F_41 l_42 hb43 => ?_)
       have h44 : RepSl 6 (Ex cApiDutyEvent) F_41 (some ⟨b40, 0, none⟩) 1 ([r_39]) := RepSl.ofRow hb43 (.cons ok_t72.mono rfl .nil) rfl rfl
       refine .append 1 ok_t72 (Fz.t l_38 l_42) rfl Tryz.underlying56 Tryz.underlying56 rfl rfl rfl h44 rfl rfl (fun l_45 p46 k47 e48 => ?_)
       refine .assign rfl rfl (.nil ?_)
       exact .nil fun e a w h => by cases e; exact ⟨rfl, ⟨F_41, p46, k47, (Fz.t l_38 l_42), h.1.sub (.cons (k := 1) rfl (.cons (k := 2) rfl (.cons (k := 8) rfl (.cons (k := 14) rfl (.cons (k := 15) rfl (.cons (k := 16) rfl (.nil _))))))), h.2⟩⟩
      ·skip
       refine .skip ?_
       exact .nil fun e a w h => by cases e; exact ⟨rfl, ⟨F_16, p18, k19, Fz.r, h.1.sub (.cons (k := 1) rfl (.cons (k := 2) rfl (.cons (k := 8) rfl (.cons (k := 14) rfl (.cons (k := 15) rfl (.cons (k := 16) rfl (.nil _))))))), h.2⟩⟩
     refine .block (.drop 0 ?_)
     exact .nil fun e a w h => by cases e; exact ⟨rfl, ⟨F_50, p52, k53, l_51, h.1.sub (.cons (k := 1) rfl (.cons (k := 2) rfl (.cons (k := 8) rfl (.cons (k := 14) rfl (.cons (k := 15) rfl (.cons (k := 16) rfl (.nil _))))))), h.2⟩⟩
    refine .code (.region (.add rfl rfl rfl (.move rfl rfl (.nil ?_))))
    exact .nil (LPost.norm fun a w h => ⟨F_56, p58, k59, (Fz.t l_17 l_57), h.1.sub (.cons (k := 1) rfl (.cons (k := 2) rfl (.cons (k := 8) rfl (.cons (k := 14) rfl (.cons (k := 15) rfl (.cons (k := 16) rfl (.nil _))))))), h.2⟩)
   ·skip
    refine .exitOut rfl (LPost.exit fun a w h => ⟨rfl, F_16, p18, k19, l_17, h.1.sub (.cons (k := 8) rfl (.nil _)), h.2⟩)
  ·intro b61 hb0 hk e a w hD
   obtain ⟨rfl, F_62, p64, k65, l_63, hA⟩ := hD
   refine interp_exit rfl (GE.app ?_ hk a w hA)
   refine .code (.seq (.region (.move rfl rfl (.assign rfl rfl (.assign rfl rfl (.nil (.code (.freezeSl 0 rfl Fz.r (fun F_67 l_68 h69 => ?_)))))))))
   exact .ret0 Tryz.results61 (.tmp rfl (.tmp rfl (.nil))) (i := 0) rfl (Fz.t l_11 (Fz.t l_63 l_68)) ⟨p64, k65, rfl, h69⟩
noncomputable def m_file_Duties_1 (n_1 : (List Int)) : Option ApiDutyEvent :=
 (idxL n_1 0).bind fun x6 => (idxL n_1 1).bind fun x16 => (idxL n_1 2).bind fun x26 => (idxL n_1 3).bind fun x36 => (idxL n_1 4).bind fun x46 => (idxL n_1 5).bind fun x56 => some (ApiDutyEvent.mk x6 x16 x26 x36 x46 x56)
set_option maxRecDepth 100000 in
set_option maxHeartbeats 4000000 in
theorem c_file_Duties_1 (F0 : Fz) (n_1 : (List Int)) (p2 : Option Addr) (k3 : Nat) (h4 : RepSl 1 (Ex (cInt .i64)) F0 p2 k3 n_1) : CT0 Tryz.prog 62 [(.slice p2 n_1.length k3)].toArray F0 (m_file_Duties_1 n_1) (fun r _ v => v = (eApiDutyEvent r)) := by
 refine CT0.enter Tryz.func62 rfl Tryz.ntmps62 rfl fun r R => ?_
 unfold m_file_Duties_1
 refine .seq (.region (.alloc (cs := (cApiDutyEvent (ApiDutyEvent.mk 0 0 0 0 0 0))) rfl Tryz.zeroValue72 rfl (fun b5 => ?_)))
 refine .nil (.code (.seq (.keep (.cons (k := 0) rfl (.cons (k := 2) rfl (.nil _))) (.drawZ 19 mixedOK (by kernel_rfl) (.move rfl rfl (.idx rfl Tryz.underlying31 Tryz.sizeOf3 h4 rfl rfl (fun x6 b7 o8 T9 fr10 cs11 e12 hm13 hv14 => ?_)))))))
 refine .loadF rfl Tryz.isAgg3 rfl hm13 (cell_of_take (k := 0) hv14 rfl) (.move rfl rfl (.idx rfl Tryz.underlying31 Tryz.sizeOf3 h4 rfl rfl (fun x16 b17 o18 T19 fr20 cs21 e22 hm23 hv24 => ?_)))
 refine .loadF rfl Tryz.isAgg3 rfl hm23 (cell_of_take (k := 0) hv24 rfl) (.move rfl rfl (.idx rfl Tryz.underlying31 Tryz.sizeOf3 h4 rfl rfl (fun x26 b27 o28 T29 fr30 cs31 e32 hm33 hv34 => ?_)))
 refine .loadF rfl Tryz.isAgg3 rfl hm33 (cell_of_take (k := 0) hv34 rfl) (.move rfl rfl (.idx rfl Tryz.underlying31 Tryz.sizeOf3 h4 rfl rfl (fun x36 b37 o38 T39 fr40 cs41 e42 hm43 hv44 => ?_)))
 refine .loadF rfl Tryz.isAgg3 rfl hm43 (cell_of_take (k := 0) hv44 rfl) (.move rfl rfl (.idx rfl Tryz.underlying31 Tryz.sizeOf3 h4 rfl rfl (fun x46 b47 o48 T49 fr50 cs51 e52 hm53 hv54 => ?_)))
 refine .loadF rfl Tryz.isAgg3 rfl hm53 (cell_of_take (k := 0) hv54 rfl) (.move rfl rfl (.idx rfl Tryz.underlying31 Tryz.sizeOf3 h4 rfl rfl (fun x56 b57 o58 T59 fr60 cs61 e62 hm63 hv64 => ?_)))
 refine .loadF rfl Tryz.isAgg3 rfl hm63 (cell_of_take (k := 0) hv64 rfl) (.build (cs := (cApiDutyEvent (ApiDutyEvent.mk x6 x16 x26 x36 x46 x56)).toArray) rfl Tryz.underlying72 Tryz.zeroValue72 (plApiDutyEvent _ Tryz.underlying72) rfl rfl (by kernel_rfl) (.pend ?_))
 refine .store (cs' := (cApiDutyEvent (ApiDutyEvent.mk x6 x16 x26 x36 x46 x56))) Tryz.sizeOf72 rfl rfl rfl rfl (i := 0) rfl (Nat.le_of_ble_eq_true rfl) rfl (setMany_all (by rfl)) (.nil (.code ?_))
 exact .ret0 Tryz.results62 (.agg rfl Tryz.isAgg72 Tryz.sizeOf72 (i := 0) rfl (vs' := (cApiDutyEvent (ApiDutyEvent.mk x6 x16 x26 x36 x46 x56))) (by kernel_rfl) rfl (.nil)) (i := 1) rfl Fz.r rfl
noncomputable def m_file_Duties (l_1 : (List ApiBooked)) : Option ((List ApiDutyEvent) × Int) :=
 (m_file_chosen_DutyEvent l_1 3 (fun x => m_file_Duties_1 x)).bind fun r_8 => some (r_8.1, r_8.2)
set_option maxRecDepth 100000 in
set_option maxHeartbeats 4000000 in
theorem c_file_Duties (F0 : Fz) (l_1 : (List ApiBooked)) (p2 : Option Addr) (k3 : Nat) (h4 : RepSl 2 rApiBooked F0 p2 k3 l_1) : CT0 Tryz.prog 29 [(.slice p2 l_1.length k3)].toArray F0 (m_file_Duties l_1) (fun r F v => ∃ (p0 : Option Addr) (k0 : Nat), v = .tuple #[(.slice p0 r.1.length k0), (.int .i64 r.2)] ∧ RepSl 6 (Ex cApiDutyEvent) F p0 k0 r.1) := by
 refine CT0.enter Tryz.func29 rfl Tryz.ntmps29 rfl fun r R => ?_
 unfold m_file_Duties
 refine .seq (.region (.assign rfl rfl (.assign rfl rfl (.nil (.code (.seq (.region (.move rfl rfl ?_))))))))
 have hf5 : RepFn Tryz.prog F0 62 [] (fun x F vs => ∃ p0 k0, vs = [(.slice p0 x.length k0)] ∧ RepSl 1 (Ex (cInt .i64)) F p0 k0 x) (fun r _ v => v = (eApiDutyEvent r)) (fun x => m_file_Duties_1 x) := ⟨Tryz.call62, fun F' le' x vs hv => by obtain ⟨_, _, rfl, hq0⟩ := hv; exact c_file_Duties_1 F' x _ _ hq0⟩
 refine .call0 rfl Tryz.call61 rfl rfl rfl (c_file_chosen_DutyEvent _ l_1 p2 k3 h4 3 (fun x => m_file_Duties_1 x) 62 ([]) hf5) ?_
 rintro r_8 F_6 _ - l_7 ⟨p9, k10, rfl, h11⟩
 refine .extract rfl rfl rfl (.extract rfl rfl rfl (.assign rfl rfl (.assign rfl rfl (.nil (.code ?_)))))
 exact .ret0 Tryz.results29 (.tmp rfl (.tmp rfl (.nil))) (i := 0) rfl l_7 ⟨p9, k10, rfl, h11⟩
noncomputable def b_file_chosen_MaltStep_1 (l_1 : (List ApiBooked)) (kind5 : Int) (of_6 : ((List Int) → Option ApiMaltStep)) (s15 : (List ApiMaltStep) × Int) : Option (Ctl ((List ApiMaltStep) × Int) (((List ApiMaltStep)))) :=
 if (decide (s15.2 < (l_1.length : Int))) then (((idxL l_1 s15.2).bind fun x22 => (if (x22.Kind == kind5) then ((of_6 x22.N).bind fun r_39 => (appO s15.1 ([r_39])).bind fun l_45 => some l_45) else (some s15.1) : Option ((List ApiMaltStep))).bind fun j49 => some j49 : Option ((List ApiMaltStep))).bind fun j55 => some (.next (j55, (w64 (s15.2 + 1))))) else (some (.done s15.1))
noncomputable def m_file_chosen_MaltStep (l_1 : (List ApiBooked)) (kind5 : Int) (of_6 : ((List Int) → Option ApiMaltStep)) : Option ((List ApiMaltStep) × Int) :=
 (m_file_isBook l_1).bind fun r_12 => if (!r_12) then (some ([], 1)) else ((loopM (b_file_chosen_MaltStep_1 l_1 kind5 of_6) ([], 0)).bind fun b61 => some (b61, 0))
set_option maxRecDepth 100000 in
set_option maxHeartbeats 4000000 in
theorem c_file_chosen_MaltStep (F0 : Fz) (l_1 : (List ApiBooked)) (p2 : Option Addr) (k3 : Nat) (h4 : RepSl 2 rApiBooked F0 p2 k3 l_1) (kind5 : Int) (of_6 : ((List Int) → Option ApiMaltStep)) (p7 : FuncId) (k8 : List Value) (h9 : RepFn Tryz.prog F0 p7 k8 (fun x F vs => ∃ p0 k0, vs = [(.slice p0 x.length k0)] ∧ RepSl 1 (Ex (cInt .i64)) F p0 k0 x) (fun r _ v => v = (eApiMaltStep r)) of_6) : CT0 Tryz.prog 63 [(.slice p2 l_1.length k3), (.int .i64 kind5), (.func (.func p7) #[] k8.toArray)].toArray F0 (m_file_chosen_MaltStep l_1 kind5 of_6) (fun r F v => ∃ (p0 : Option Addr) (k0 : Nat), v = .tuple #[(.slice p0 r.1.length k0), (.int .i64 r.2)] ∧ RepSl 3 (Ex cApiMaltStep) F p0 k0 r.1) := by
 refine CT0.enter Tryz.func63 rfl Tryz.ntmps63 rfl fun r R => ?_
 unfold m_file_chosen_MaltStep
 refine .seq (.region (.assign rfl rfl (.assign rfl rfl (.nil (.code (.seq (.seq (.region (.move rfl rfl (.call0 rfl Tryz.call42 rfl rfl rfl (c_file_isBook _ l_1 p2 k3 h4) ?_))))))))))
 rintro r_12 F_10 _ - l_11 rfl
 refine .not rfl rfl (.nil (.code (.cond rfl (fun hb13 => ?_) (fun hb13 => ?_))))
 ·skip
  refine .seq (.region (.assign rfl rfl (.assign rfl rfl (.nil (.code ?_)))))
  exact .ret0 Tryz.results63 (.tmp rfl (.tmp rfl (.nil))) (i := 0) rfl l_11 ⟨none, 0, rfl, (RepSl.nil.mono l_11)⟩
 ·skip
  refine .skip (.code (.seq (.region (.assign rfl rfl (.nil (.code (.seq (.seq (.region (.move rfl rfl (.lenS rfl rfl Tryz.underlying22 rfl ?_)))))))))))
  refine .move rfl rfl (.nil (.code (.block (.ownNil 3 (Ex cApiMaltStep) 49 (.keep (.cons (k := 1) rfl (.cons (k := 2) rfl (.cons (k := 8) rfl (.cons (k := 14) rfl (.cons (k := 15) rfl (.cons (k := 16) rfl (.nil _))))))) ?_)))))
  refine .loop (fun (s15 : (List ApiMaltStep) × Int) a w => ∃ (F_16 : Fz) (p18 : Option Addr) (k19 : Nat), F_10 ≤ F_16 ∧ Hd 33 [] [(1, (.int .i64 kind5)), (2, (.func (.func p7) #[] k8.toArray)), (8, (.slice p18 s15.1.length k19)), (14, (.slice p2 l_1.length k3)), (15, (.int .i64 (l_1.length : Int))), (16, (.int .i64 s15.2))] F_16 [ownSl 3 (Ex cApiMaltStep) F_16 49 p18 k19 s15.1, R] a w) (fun b61 e a w => e = .exit 0 ∧ ∃ (F_62 : Fz) (p64 : Option Addr) (k65 : Nat), F_10 ≤ F_62 ∧ Hd 33 [] [(8, (.slice p64 b61.length k65))] F_62 [ownSl 3 (Ex cApiMaltStep) F_62 49 p64 k65 b61, R] a w) ?_ ?_ ?_
  ·exact fun a w h => ⟨F_10, none, 0, Fz.r, h.1.sub (.cons (k := 1) rfl (.cons (k := 2) rfl (.cons (k := 8) rfl (.cons (k := 14) rfl (.cons (k := 15) rfl (.cons (k := 16) rfl (.nil _))))))), h.2⟩
  ·intro s15 ctl
   refine GC.ex (fun a w ⟨F_16, p18, k19, l_17, hA⟩ => ⟨_, hA, ?_⟩)
   unfold b_file_chosen_MaltStep_1
   refine .seq (.region (.lss rfl rfl rfl (.nil (.code (.seq (.cond rfl (fun hb21 => ?_) (fun hb21 => ?_)))))))
   ·skip
    refine .skip (.code (.seq (.keep (.cons (k := 1) rfl (.cons (k := 2) rfl (.cons (k := 8) rfl (.cons (k := 14) rfl (.cons (k := 15) rfl (.cons (k := 16) rfl (.nil _))))))) ?_)))
    refine GC.join0 (σ := (List ApiMaltStep)) (fun j55 a w => ∃ (F_56 : Fz) (p58 : Option Addr) (k59 : Nat), F_16 ≤ F_56 ∧ Hd 33 [] [(1, (.int .i64 kind5)), (2, (.func (.func p7) #[] k8.toArray)), (8, (.slice p58 j55.length k59)), (14, (.slice p2 l_1.length k3)), (15, (.int .i64 (l_1.length : Int))), (16, (.int .i64 s15.2))] F_56 [ownSl 3 (Ex cApiMaltStep) F_56 49 p58 k59 j55, R] a w) (fun sj => ?_) (fun j55 hs0 => GE.ex (fun a w ⟨F_56, p58, k59, l_57, hA⟩ => ⟨_, hA, ?_⟩))
    ·skip
     refine .block (.seq (.region (.idx rfl Tryz.underlying22 Tryz.sizeOf41 (h4.mono (Fz.t l_11 l_17)) rfl rfl (fun x22 b23 o24 T25 fr26 cs27 e28 hm29 hv30 => ?_))))
     obtain ⟨p32, k33, hv30, h34⟩ := hv30
     refine .loadFA rfl Tryz.isAgg41 Tryz.sizeOf41 rfl hm29 hv30 rfl (.alloc (cs := (cApiBooked (ApiBooked.mk 0 ([])) none 0)) rfl Tryz.zeroValue41 rfl (fun b35 => ?_))
     refine .store (cs' := (cApiBooked x22 p32 k33)) Tryz.sizeOf41 rfl rfl rfl rfl (i := 0) rfl (Nat.le_of_ble_eq_true rfl) rfl (setMany_all (by rfl)) (.nil (.code (.seq (.region (.fieldAddr rfl Tryz.underlying41 rfl Tryz.sizeOf3 rfl (.loadO rfl Tryz.isAgg3 rfl (i := 0) rfl rfl (.move rfl rfl (.eql rfl rfl rfl (.nil (.code ?_))))))))))
     refine .keep (.cons (k := 1) rfl (.cons (k := 2) rfl (.cons (k := 8) rfl (.cons (k := 10) rfl (.cons (k := 14) rfl (.cons (k := 15) rfl (.cons (k := 16) rfl (.cons (k := 23) rfl (.nil _))))))))) ?_
     refine GC.join0 (σ := (List ApiMaltStep)) (fun j49 a w => ∃ (F_50 : Fz) (p52 : Option Addr) (k53 : Nat), F_16 ≤ F_50 ∧ Hd 33 [] [(1, (.int .i64 kind5)), (2, (.func (.func p7) #[] k8.toArray)), (8, (.slice p52 j49.length k53)), (14, (.slice p2 l_1.length k3)), (15, (.int .i64 (l_1.length : Int))), (16, (.int .i64 s15.2))] F_50 [pt b35 (.cells (cApiBooked x22 p32 k33).toArray 41), ownSl 3 (Ex cApiMaltStep) F_50 49 p52 k53 j49, R] a w) (fun sj => ?_) (fun j49 hs0 => GE.ex (fun a w ⟨F_50, p52, k53, l_51, hA⟩ => ⟨_, hA, ?_⟩))
     ·skip
      refine .cond rfl (fun hb36 => ?_) (fun hb36 => ?_)
      ·skip
       refine .region (.move rfl rfl (.move rfl rfl (.fieldAddr rfl Tryz.underlying41 rfl Tryz.sizeOf31 rfl (.loadO rfl Tryz.isAgg31 rfl (i := 0) rfl rfl (.call0 rfl h9.1 rfl rfl rfl (h9.2 _ (Fz.t l_11 l_17) x22.N [(.slice p32 x22.N.length k33)] ⟨_, _, rfl, h34⟩) ?_)))))
       rintro r_39 F_37 _ - l_38 rfl
       refine .sliceLit (cs := [.int .i64 r_39.Kind, .int .i64 r_39.A, .int .i64 r_39.B]) (zc := [.int .i64 (ApiMaltStep.mk 0 0 0).Kind, .int .i64 (ApiMaltStep.mk 0 0 0).A, .int .i64 (ApiMaltStep.mk 0 0 0).B]) rfl Tryz.underlying50 Tryz.sizeOf49 Tryz.zeroValue49 rfl rfl rfl (by kernel_rfl) (by kernel_rfl) (fun b40 F_41 l_42 hb43 => ?_)
       have h44 : RepSl 3 (Ex cApiMaltStep) F_41 (some ⟨b40, 0, none⟩) 1 ([r_39]) := RepSl.ofRow hb43 (.cons ok_t49.mono rfl .nil) rfl rfl
       refine .append 1 ok_t49 (Fz.t l_38 l_42) rfl Tryz.underlying50 Tryz.underlying50 rfl rfl rfl h44 rfl rfl (fun l_45 p46 k47 e48 => ?_)
       refine .assign rfl rfl (.nil ?_)
       exact .nil fun e a w h => by cases e; exact ⟨rfl, ⟨F_41, p46, k47, (Fz.t l_38 l_42), h.1.sub (.cons (k := 1) rfl (.cons (k := 2) rfl (.cons (k := 8) rfl (.cons (k := 14) rfl (.cons (k := 15) rfl (.cons (k := 16) rfl (.nil _))))))), h.2⟩⟩
      ·skip
       refine .skip ?_
       exact .nil fun e a w h => by cases e; exact ⟨rfl, ⟨F_16, p18, k19, Fz.r, h.1.sub (.cons (k := 1) rfl (.cons (k := 2) rfl (.cons (k := 8) rfl (.cons (k := 14) rfl (.cons (k := 15) rfl (.cons (k := 16) rfl (.nil _))))))), h.2⟩⟩
     refine .block (.drop 0 ?_)
     exact .nil fun e a w h => by cases e; exact ⟨rfl, ⟨F_50, p52, k53, l_51, h.1.sub (.cons (k := 1) rfl (.cons (k := 2) rfl (.cons (k := 8) rfl (.cons (k := 14) rfl (.cons (k := 15) rfl (.cons (k := 16) rfl (.nil _))))))), h.2⟩⟩
    refine .code (.region (.add rfl rfl rfl (.move rfl rfl (.nil ?_))))
    exact .nil (LPost.norm fun a w h => ⟨F_56, p58, k59, (Fz.t l_17 l_57), h.1.sub (.cons (k := 1) rfl (.cons (k := 2) rfl (.cons (k := 8) rfl (.cons (k := 14) rfl (.cons (k := 15) rfl (.cons (k := 16) rfl (.nil _))))))), h.2⟩)
   ·skip
    refine .exitOut rfl (LPost.exit fun a w h => ⟨rfl, F_16, p18, k19, l_17, h.1.sub (.cons (k := 8) rfl (.nil _)), h.2⟩)
  ·intro b61 hb0 hk e a w hD
   obtain ⟨rfl, F_62, p64, k65, l_63, hA⟩ := hD
   refine interp_exit rfl (GE.app ?_ hk a w hA)
   refine .code (.seq (.region (.move rfl rfl (.assign rfl rfl (.assign rfl rfl (.nil (.code (.freezeSl 0 rfl Fz.r (fun F_67 l_68 h69 => ?_)))))))))
   exact .ret0 Tryz.results63 (.tmp rfl (.tmp rfl (.nil))) (i := 0) rfl (Fz.t l_11 (Fz.t l_63 l_68)) ⟨p64, k65, rfl, h69⟩
noncomputable def m_file_Steps_1 (n_1 : (List Int)) : Option ApiMaltStep :=
 (idxL n_1 0).bind fun x6 => (idxL n_1 1).bind fun x16 => (idxL n_1 2).bind fun x26 => some (ApiMaltStep.mk x6 x16 x26)
set_option maxRecDepth 100000 in
set_option maxHeartbeats 4000000 in
theorem c_file_Steps_1 (F0 : Fz) (n_1 : (List Int)) (p2 : Option Addr) (k3 : Nat) (h4 : RepSl 1 (Ex (cInt .i64)) F0 p2 k3 n_1) : CT0 Tryz.prog 64 [(.slice p2 n_1.length k3)].toArray F0 (m_file_Steps_1 n_1) (fun r _ v => v = (eApiMaltStep r)) := by
 refine CT0.enter Tryz.func64 rfl Tryz.ntmps64 rfl fun r R => ?_
 unfold m_file_Steps_1
 refine .seq (.region (.alloc (cs := (cApiMaltStep (ApiMaltStep.mk 0 0 0))) rfl Tryz.zeroValue49 rfl (fun b5 => ?_)))
 refine .nil (.code (.seq (.keep (.cons (k := 0) rfl (.cons (k := 2) rfl (.nil _))) (.drawZ 10 mixedOK (by kernel_rfl) (.move rfl rfl (.idx rfl Tryz.underlying31 Tryz.sizeOf3 h4 rfl rfl (fun x6 b7 o8 T9 fr10 cs11 e12 hm13 hv14 => ?_)))))))
 refine .loadF rfl Tryz.isAgg3 rfl hm13 (cell_of_take (k := 0) hv14 rfl) (.move rfl rfl (.idx rfl Tryz.underlying31 Tryz.sizeOf3 h4 rfl rfl (fun x16 b17 o18 T19 fr20 cs21 e22 hm23 hv24 => ?_)))
 refine .loadF rfl Tryz.isAgg3 rfl hm23 (cell_of_take (k := 0) hv24 rfl) (.move rfl rfl (.idx rfl Tryz.underlying31 Tryz.sizeOf3 h4 rfl rfl (fun x26 b27 o28 T29 fr30 cs31 e32 hm33 hv34 => ?_)))
 refine .loadF rfl Tryz.isAgg3 rfl hm33 (cell_of_take (k := 0) hv34 rfl) (.build (cs := (cApiMaltStep (ApiMaltStep.mk x6 x16 x26)).toArray) rfl Tryz.underlying49 Tryz.zeroValue49 (plApiMaltStep _ Tryz.underlying49) rfl rfl (by kernel_rfl) (.pend (.store (cs' := (cApiMaltStep (ApiMaltStep.mk x6 x16 x26))) Tryz.sizeOf49 rfl rfl rfl rfl (i := 0) rfl (Nat.le_of_ble_eq_true rfl) rfl (setMany_all (by rfl)) (.nil ?_))))
 refine .code ?_
 exact .ret0 Tryz.results64 (.agg rfl Tryz.isAgg49 Tryz.sizeOf49 (i := 0) rfl (vs' := (cApiMaltStep (ApiMaltStep.mk x6 x16 x26))) (by kernel_rfl) rfl (.nil)) (i := 1) rfl Fz.r rfl
noncomputable def m_file_Steps (l_1 : (List ApiBooked)) : Option ((List ApiMaltStep) × Int) :=
 (m_file_chosen_MaltStep l_1 0 (fun x => m_file_Steps_1 x)).bind fun r_8 => some (r_8.1, r_8.2)
set_option maxRecDepth 100000 in
set_option maxHeartbeats 4000000 in
theorem c_file_Steps (F0 : Fz) (l_1 : (List ApiBooked)) (p2 : Option Addr) (k3 : Nat) (h4 : RepSl 2 rApiBooked F0 p2 k3 l_1) : CT0 Tryz.prog 30 [(.slice p2 l_1.length k3)].toArray F0 (m_file_Steps l_1) (fun r F v => ∃ (p0 : Option Addr) (k0 : Nat), v = .tuple #[(.slice p0 r.1.length k0), (.int .i64 r.2)] ∧ RepSl 3 (Ex cApiMaltStep) F p0 k0 r.1) := by
 refine CT0.enter Tryz.func30 rfl Tryz.ntmps30 rfl fun r R => ?_
 unfold m_file_Steps
 refine .seq (.region (.assign rfl rfl (.assign rfl rfl (.nil (.code (.seq (.region (.move rfl rfl ?_))))))))
 have hf5 : RepFn Tryz.prog F0 64 [] (fun x F vs => ∃ p0 k0, vs = [(.slice p0 x.length k0)] ∧ RepSl 1 (Ex (cInt .i64)) F p0 k0 x) (fun r _ v => v = (eApiMaltStep r)) (fun x => m_file_Steps_1 x) := ⟨Tryz.call64, fun F' le' x vs hv => by obtain ⟨_, _, rfl, hq0⟩ := hv; exact c_file_Steps_1 F' x _ _ hq0⟩
 refine .call0 rfl Tryz.call63 rfl rfl rfl (c_file_chosen_MaltStep _ l_1 p2 k3 h4 0 (fun x => m_file_Steps_1 x) 64 ([]) hf5) ?_
 rintro r_8 F_6 _ - l_7 ⟨p9, k10, rfl, h11⟩
 refine .extract rfl rfl rfl (.extract rfl rfl rfl (.assign rfl rfl (.assign rfl rfl (.nil (.code ?_)))))
 exact .ret0 Tryz.results30 (.tmp rfl (.tmp rfl (.nil))) (i := 0) rfl l_7 ⟨p9, k10, rfl, h11⟩
noncomputable def b_file_chosen_Drawn_1 (l_1 : (List ApiBooked)) (kind5 : Int) (of_6 : ((List Int) → Option ApiDrawn)) (s15 : (List ApiDrawn) × Int) : Option (Ctl ((List ApiDrawn) × Int) (((List ApiDrawn)))) :=
 if (decide (s15.2 < (l_1.length : Int))) then (((idxL l_1 s15.2).bind fun x22 => (if (x22.Kind == kind5) then ((of_6 x22.N).bind fun r_39 => (appO s15.1 ([r_39])).bind fun l_45 => some l_45) else (some s15.1) : Option ((List ApiDrawn))).bind fun j49 => some j49 : Option ((List ApiDrawn))).bind fun j55 => some (.next (j55, (w64 (s15.2 + 1))))) else (some (.done s15.1))
noncomputable def m_file_chosen_Drawn (l_1 : (List ApiBooked)) (kind5 : Int) (of_6 : ((List Int) → Option ApiDrawn)) : Option ((List ApiDrawn) × Int) :=
 (m_file_isBook l_1).bind fun r_12 => if (!r_12) then (some ([], 1)) else ((loopM (b_file_chosen_Drawn_1 l_1 kind5 of_6) ([], 0)).bind fun b61 => some (b61, 0))
set_option maxRecDepth 100000 in
set_option maxHeartbeats 4000000 in
theorem c_file_chosen_Drawn (F0 : Fz) (l_1 : (List ApiBooked)) (p2 : Option Addr) (k3 : Nat) (h4 : RepSl 2 rApiBooked F0 p2 k3 l_1) (kind5 : Int) (of_6 : ((List Int) → Option ApiDrawn)) (p7 : FuncId) (k8 : List Value) (h9 : RepFn Tryz.prog F0 p7 k8 (fun x F vs => ∃ p0 k0, vs = [(.slice p0 x.length k0)] ∧ RepSl 1 (Ex (cInt .i64)) F p0 k0 x) (fun r _ v => v = (eApiDrawn r)) of_6) : CT0 Tryz.prog 65 [(.slice p2 l_1.length k3), (.int .i64 kind5), (.func (.func p7) #[] k8.toArray)].toArray F0 (m_file_chosen_Drawn l_1 kind5 of_6) (fun r F v => ∃ (p0 : Option Addr) (k0 : Nat), v = .tuple #[(.slice p0 r.1.length k0), (.int .i64 r.2)] ∧ RepSl 3 (Ex cApiDrawn) F p0 k0 r.1) := by
 refine CT0.enter Tryz.func65 rfl Tryz.ntmps65 rfl fun r R => ?_
 unfold m_file_chosen_Drawn
 refine .seq (.region (.assign rfl rfl (.assign rfl rfl (.nil (.code (.seq (.seq (.region (.move rfl rfl (.call0 rfl Tryz.call42 rfl rfl rfl (c_file_isBook _ l_1 p2 k3 h4) ?_))))))))))
 rintro r_12 F_10 _ - l_11 rfl
 refine .not rfl rfl (.nil (.code (.cond rfl (fun hb13 => ?_) (fun hb13 => ?_))))
 ·skip
  refine .seq (.region (.assign rfl rfl (.assign rfl rfl (.nil (.code ?_)))))
  exact .ret0 Tryz.results65 (.tmp rfl (.tmp rfl (.nil))) (i := 0) rfl l_11 ⟨none, 0, rfl, (RepSl.nil.mono l_11)⟩
 ·skip
  refine .skip (.code (.seq (.region (.assign rfl rfl (.nil (.code (.seq (.seq (.region (.move rfl rfl (.lenS rfl rfl Tryz.underlying22 rfl ?_)))))))))))
  refine .move rfl rfl (.nil (.code (.block (.ownNil 3 (Ex cApiDrawn) 54 (.keep (.cons (k := 1) rfl (.cons (k := 2) rfl (.cons (k := 8) rfl (.cons (k := 14) rfl (.cons (k := 15) rfl (.cons (k := 16) rfl (.nil _))))))) ?_)))))
  refine .loop (fun (s15 : (List ApiDrawn) × Int) a w => ∃ (F_16 : Fz) (p18 : Option Addr) (k19 : Nat), F_10 ≤ F_16 ∧ Hd 33 [] [(1, (.int .i64 kind5)), (2, (.func (.func p7) #[] k8.toArray)), (8, (.slice p18 s15.1.length k19)), (14, (.slice p2 l_1.length k3)), (15, (.int .i64 (l_1.length : Int))), (16, (.int .i64 s15.2))] F_16 [ownSl 3 (Ex cApiDrawn) F_16 54 p18 k19 s15.1, R] a w) (fun b61 e a w => e = .exit 0 ∧ ∃ (F_62 : Fz) (p64 : Option Addr) (k65 : Nat), F_10 ≤ F_62 ∧ Hd 33 [] [(8, (.slice p64 b61.length k65))] F_62 [ownSl 3 (Ex cApiDrawn) F_62 54 p64 k65 b61, R] a w) ?_ ?_ ?_
  ·exact fun a w h => ⟨F_10, none, 0, Fz.r, h.1.sub (.cons (k := 1) rfl (.cons (k := 2) rfl (.cons (k := 8) rfl (.cons (k := 14) rfl (.cons (k := 15) rfl (.cons (k := 16) rfl (.nil _))))))), h.2⟩
  ·intro s15 ctl
   refine GC.ex (fun a w ⟨F_16, p18, k19, l_17, hA⟩ => ⟨_, hA, ?_⟩)
   unfold b_file_chosen_Drawn_1
   refine .seq (.region (.lss rfl rfl rfl (.nil (.code (.seq (.cond rfl (fun hb21 => ?_) (fun hb21 => ?_)))))))
   ·skip
    refine .skip (.code (.seq (.keep (.cons (k := 1) rfl (.cons (k := 2) rfl (.cons (k := 8) rfl (.cons (k := 14) rfl (.cons (k := 15) rfl (.cons (k := 16) rfl (.nil _))))))) ?_)))
    refine GC.join0 (σ := (List ApiDrawn)) (fun j55 a w => ∃ (F_56 : Fz) (p58 : Option Addr) (k59 : Nat), F_16 ≤ F_56 ∧ Hd 33 [] [(1, (.int .i64 kind5)), (2, (.func (.func p7) #[] k8.toArray)), (8, (.slice p58 j55.length k59)), (14, (.slice p2 l_1.length k3)), (15, (.int .i64 (l_1.length : Int))), (16, (.int .i64 s15.2))] F_56 [ownSl 3 (Ex cApiDrawn) F_56 54 p58 k59 j55, R] a w) (fun sj => ?_) (fun j55 hs0 => GE.ex (fun a w ⟨F_56, p58, k59, l_57, hA⟩ => ⟨_, hA, ?_⟩))
    ·skip
     refine .block (.seq (.region (.idx rfl Tryz.underlying22 Tryz.sizeOf41 (h4.mono (Fz.t l_11 l_17)) rfl rfl (fun x22 b23 o24 T25 fr26 cs27 e28 hm29 hv30 => ?_))))
     obtain ⟨p32, k33, hv30, h34⟩ := hv30
     refine .loadFA rfl Tryz.isAgg41 Tryz.sizeOf41 rfl hm29 hv30 rfl (.alloc (cs := (cApiBooked (ApiBooked.mk 0 ([])) none 0)) rfl Tryz.zeroValue41 rfl (fun b35 => ?_))
     refine .store (cs' := (cApiBooked x22 p32 k33)) Tryz.sizeOf41 rfl rfl rfl rfl (i := 0) rfl (Nat.le_of_ble_eq_true rfl) rfl (setMany_all (by rfl)) (.nil (.code (.seq (.region (.fieldAddr rfl Tryz.underlying41 rfl Tryz.sizeOf3 rfl (.loadO rfl Tryz.isAgg3 rfl (i := 0) rfl rfl (.move rfl rfl (.eql rfl rfl rfl (.nil (.code ?_))))))))))
     refine .keep (.cons (k := 1) rfl (.cons (k := 2) rfl (.cons (k := 8) rfl (.cons (k := 10) rfl (.cons (k := 14) rfl (.cons (k := 15) rfl (.cons (k := 16) rfl (.cons (k := 23) rfl (.nil _))))))))) ?_
     refine GC.join0 (σ := (List ApiDrawn)) (fun j49 a w => ∃ (F_50 : Fz) (p52 : Option Addr) (k53 : Nat), F_16 ≤ F_50 ∧ Hd 33 [] [(1, (.int .i64 kind5)), (2, (.func (.func p7) #[] k8.toArray)), (8, (.slice p52 j49.length k53)), (14, (.slice p2 l_1.length k3)), (15, (.int .i64 (l_1.length : Int))), (16, (.int .i64 s15.2))] F_50 [pt b35 (.cells (cApiBooked x22 p32 k33).toArray 41), ownSl 3 (Ex cApiDrawn) F_50 54 p52 k53 j49, R] a w) (fun sj => ?_) (fun j49 hs0 => GE.ex (fun a w ⟨F_50, p52, k53, l_51, hA⟩ => ⟨_, hA, ?_⟩))
     ·skip
      refine .cond rfl (fun hb36 => ?_) (fun hb36 => ?_)
      ·skip
       refine .region (.move rfl rfl (.move rfl rfl (.fieldAddr rfl Tryz.underlying41 rfl Tryz.sizeOf31 rfl (.loadO rfl Tryz.isAgg31 rfl (i := 0) rfl rfl (.call0 rfl h9.1 rfl rfl rfl (h9.2 _ (Fz.t l_11 l_17) x22.N [(.slice p32 x22.N.length k33)] ⟨_, _, rfl, h34⟩) ?_)))))
       rintro r_39 F_37 _ - l_38 rfl
       refine .sliceLit (cs := [.int .i64 r_39.Amount, .int .i64 r_39.Alcohol.Lo, .int .i64 r_39.Alcohol.Hi]) (zc := [.int .i64 (ApiDrawn.mk 0 (ApiSpan.mk 0 0)).Amount, .int .i64 (ApiDrawn.mk 0 (ApiSpan.mk 0 0)).Alcohol.Lo, .int .i64 (ApiDrawn.mk 0 (ApiSpan.mk 0 0)).Alcohol.Hi]) rfl Tryz.underlying55 Tryz.sizeOf54 Tryz.zeroValue54 rfl rfl rfl (by kernel_rfl) (by kernel_rfl) (fun b40 F_41 l_42 hb43 => ?_)
       have h44 : RepSl 3 (Ex cApiDrawn) F_41 (some ⟨b40, 0, none⟩) 1 ([r_39]) := RepSl.ofRow hb43 (.cons ok_t54.mono rfl .nil) rfl rfl
       refine .append 1 ok_t54 (Fz.t l_38 l_42) rfl Tryz.underlying55 Tryz.underlying55 rfl rfl rfl h44 rfl rfl (fun l_45 p46 k47 e48 => ?_)
       refine .assign rfl rfl (.nil ?_)
       exact .nil fun e a w h => by cases e; exact ⟨rfl, ⟨F_41, p46, k47, (Fz.t l_38 l_42), h.1.sub (.cons (k := 1) rfl (.cons (k := 2) rfl (.cons (k := 8) rfl (.cons (k := 14) rfl (.cons (k := 15) rfl (.cons (k := 16) rfl (.nil _))))))), h.2⟩⟩
      ·skip
       refine .skip ?_
       exact .nil fun e a w h => by cases e; exact ⟨rfl, ⟨F_16, p18, k19, Fz.r, h.1.sub (.cons (k := 1) rfl (.cons (k := 2) rfl (.cons (k := 8) rfl (.cons (k := 14) rfl (.cons (k := 15) rfl (.cons (k := 16) rfl (.nil _))))))), h.2⟩⟩
     refine .block (.drop 0 ?_)
     exact .nil fun e a w h => by cases e; exact ⟨rfl, ⟨F_50, p52, k53, l_51, h.1.sub (.cons (k := 1) rfl (.cons (k := 2) rfl (.cons (k := 8) rfl (.cons (k := 14) rfl (.cons (k := 15) rfl (.cons (k := 16) rfl (.nil _))))))), h.2⟩⟩
    refine .code (.region (.add rfl rfl rfl (.move rfl rfl (.nil ?_))))
    exact .nil (LPost.norm fun a w h => ⟨F_56, p58, k59, (Fz.t l_17 l_57), h.1.sub (.cons (k := 1) rfl (.cons (k := 2) rfl (.cons (k := 8) rfl (.cons (k := 14) rfl (.cons (k := 15) rfl (.cons (k := 16) rfl (.nil _))))))), h.2⟩)
   ·skip
    refine .exitOut rfl (LPost.exit fun a w h => ⟨rfl, F_16, p18, k19, l_17, h.1.sub (.cons (k := 8) rfl (.nil _)), h.2⟩)
  ·intro b61 hb0 hk e a w hD
   obtain ⟨rfl, F_62, p64, k65, l_63, hA⟩ := hD
   refine interp_exit rfl (GE.app ?_ hk a w hA)
   refine .code (.seq (.region (.move rfl rfl (.assign rfl rfl (.assign rfl rfl (.nil (.code (.freezeSl 0 rfl Fz.r (fun F_67 l_68 h69 => ?_)))))))))
   exact .ret0 Tryz.results65 (.tmp rfl (.tmp rfl (.nil))) (i := 0) rfl (Fz.t l_11 (Fz.t l_63 l_68)) ⟨p64, k65, rfl, h69⟩
noncomputable def m_file_Draws_1 (n_1 : (List Int)) : Option ApiDrawn :=
 (idxL n_1 0).bind fun x6 => (idxL n_1 1).bind fun x16 => (idxL n_1 2).bind fun x26 => some (ApiDrawn.mk x6 (ApiSpan.mk x16 x26))
set_option maxRecDepth 100000 in
set_option maxHeartbeats 4000000 in
theorem c_file_Draws_1 (F0 : Fz) (n_1 : (List Int)) (p2 : Option Addr) (k3 : Nat) (h4 : RepSl 1 (Ex (cInt .i64)) F0 p2 k3 n_1) : CT0 Tryz.prog 66 [(.slice p2 n_1.length k3)].toArray F0 (m_file_Draws_1 n_1) (fun r _ v => v = (eApiDrawn r)) := by
 refine CT0.enter Tryz.func66 rfl Tryz.ntmps66 rfl fun r R => ?_
 unfold m_file_Draws_1
 refine .seq (.region (.alloc (cs := (cApiDrawn (ApiDrawn.mk 0 (ApiSpan.mk 0 0)))) rfl Tryz.zeroValue54 rfl (fun b5 => ?_)))
 refine .nil (.code (.seq (.keep (.cons (k := 0) rfl (.cons (k := 2) rfl (.nil _))) (.drawZ 11 mixedOK (by kernel_rfl) (.move rfl rfl (.idx rfl Tryz.underlying31 Tryz.sizeOf3 h4 rfl rfl (fun x6 b7 o8 T9 fr10 cs11 e12 hm13 hv14 => ?_)))))))
 refine .loadF rfl Tryz.isAgg3 rfl hm13 (cell_of_take (k := 0) hv14 rfl) (.move rfl rfl (.idx rfl Tryz.underlying31 Tryz.sizeOf3 h4 rfl rfl (fun x16 b17 o18 T19 fr20 cs21 e22 hm23 hv24 => ?_)))
 refine .loadF rfl Tryz.isAgg3 rfl hm23 (cell_of_take (k := 0) hv24 rfl) (.move rfl rfl (.idx rfl Tryz.underlying31 Tryz.sizeOf3 h4 rfl rfl (fun x26 b27 o28 T29 fr30 cs31 e32 hm33 hv34 => ?_)))
 refine .loadF rfl Tryz.isAgg3 rfl hm33 (cell_of_take (k := 0) hv34 rfl) (.build (cs := (cApiSpan (ApiSpan.mk x16 x26)).toArray) rfl Tryz.underlying52 Tryz.zeroValue52 (plApiSpan _ Tryz.underlying52) rfl rfl (by kernel_rfl) (.build (cs := (cApiDrawn (ApiDrawn.mk x6 (ApiSpan.mk x16 x26))).toArray) rfl Tryz.underlying54 Tryz.zeroValue54 (plApiDrawn _ Tryz.underlying54) rfl rfl (by kernel_rfl) (.pend ?_)))
 refine .store (cs' := (cApiDrawn (ApiDrawn.mk x6 (ApiSpan.mk x16 x26)))) Tryz.sizeOf54 rfl rfl rfl rfl (i := 0) rfl (Nat.le_of_ble_eq_true rfl) rfl (setMany_all (by rfl)) (.nil (.code ?_))
 exact .ret0 Tryz.results66 (.agg rfl Tryz.isAgg54 Tryz.sizeOf54 (i := 0) rfl (vs' := (cApiDrawn (ApiDrawn.mk x6 (ApiSpan.mk x16 x26)))) (by kernel_rfl) rfl (.nil)) (i := 1) rfl Fz.r rfl
noncomputable def m_file_Draws (l_1 : (List ApiBooked)) : Option ((List ApiDrawn) × Int) :=
 (m_file_chosen_Drawn l_1 1 (fun x => m_file_Draws_1 x)).bind fun r_8 => some (r_8.1, r_8.2)
set_option maxRecDepth 100000 in
set_option maxHeartbeats 4000000 in
theorem c_file_Draws (F0 : Fz) (l_1 : (List ApiBooked)) (p2 : Option Addr) (k3 : Nat) (h4 : RepSl 2 rApiBooked F0 p2 k3 l_1) : CT0 Tryz.prog 31 [(.slice p2 l_1.length k3)].toArray F0 (m_file_Draws l_1) (fun r F v => ∃ (p0 : Option Addr) (k0 : Nat), v = .tuple #[(.slice p0 r.1.length k0), (.int .i64 r.2)] ∧ RepSl 3 (Ex cApiDrawn) F p0 k0 r.1) := by
 refine CT0.enter Tryz.func31 rfl Tryz.ntmps31 rfl fun r R => ?_
 unfold m_file_Draws
 refine .seq (.region (.assign rfl rfl (.assign rfl rfl (.nil (.code (.seq (.region (.move rfl rfl ?_))))))))
 have hf5 : RepFn Tryz.prog F0 66 [] (fun x F vs => ∃ p0 k0, vs = [(.slice p0 x.length k0)] ∧ RepSl 1 (Ex (cInt .i64)) F p0 k0 x) (fun r _ v => v = (eApiDrawn r)) (fun x => m_file_Draws_1 x) := ⟨Tryz.call66, fun F' le' x vs hv => by obtain ⟨_, _, rfl, hq0⟩ := hv; exact c_file_Draws_1 F' x _ _ hq0⟩
 refine .call0 rfl Tryz.call65 rfl rfl rfl (c_file_chosen_Drawn _ l_1 p2 k3 h4 1 (fun x => m_file_Draws_1 x) 66 ([]) hf5) ?_
 rintro r_8 F_6 _ - l_7 ⟨p9, k10, rfl, h11⟩
 refine .extract rfl rfl rfl (.extract rfl rfl rfl (.assign rfl rfl (.assign rfl rfl (.nil (.code ?_)))))
 exact .ret0 Tryz.results31 (.tmp rfl (.tmp rfl (.nil))) (i := 0) rfl l_7 ⟨p9, k10, rfl, h11⟩
noncomputable def b_wormtublaw14_same_CaskEvent_1 (a1 : (List ApiCaskEvent)) (b5 : (List ApiCaskEvent)) (s10 : Int) : Option (Ctl (Int) ((Unit) ⊕ (Bool))) :=
 if (decide (s10 < (a1.length : Int))) then ((idxL a1 s10).bind fun x14 => (idxL b5 s10).bind fun x24 => if (!(eq_69 x14 x24)) then (some (.done (.inr false))) else (some (.next (w64 (s10 + 1))))) else (some (.done (.inl ())))
noncomputable def m_wormtublaw14_same_CaskEvent (a1 : (List ApiCaskEvent)) (b5 : (List ApiCaskEvent)) : Option Bool :=
 if ((a1.length : Int) != (b5.length : Int)) then (some false) else ((loopM (b_wormtublaw14_same_CaskEvent_1 a1 b5) 0).bind fun b0 => match b0 with | .inl _b35 => (some true) | .inr b35 => (some b35))
set_option maxRecDepth 100000 in
set_option maxHeartbeats 4000000 in
theorem c_wormtublaw14_same_CaskEvent (F0 : Fz) (a1 : (List ApiCaskEvent)) (p2 : Option Addr) (k3 : Nat) (h4 : RepSl 8 (Ex cApiCaskEvent) F0 p2 k3 a1) (b5 : (List ApiCaskEvent)) (p6 : Option Addr) (k7 : Nat) (h8 : RepSl 8 (Ex cApiCaskEvent) F0 p6 k7 b5) : CT0 Tryz.prog 37 [(.slice p2 a1.length k3), (.slice p6 b5.length k7)].toArray F0 (m_wormtublaw14_same_CaskEvent a1 b5) (fun r _ v => v = (.bool r)) := by
 refine CT0.enter Tryz.func37 rfl Tryz.ntmps37 rfl fun r R => ?_
 unfold m_wormtublaw14_same_CaskEvent
 refine .seq (.region (.assign rfl rfl (.nil (.code (.seq (.seq (.region (.move rfl rfl (.lenS rfl rfl Tryz.underlying58 rfl (.move rfl rfl (.lenS rfl rfl Tryz.underlying58 rfl ?_)))))))))))
 refine .neq rfl rfl rfl (.nil (.code (.cond rfl (fun hb9 => ?_) (fun hb9 => ?_))))
 ·skip
  refine .seq (.region (.assign rfl rfl (.nil (.code ?_))))
  exact .ret0 Tryz.results37 (.tmp rfl (.nil)) (i := 0) rfl Fz.r rfl
 ·skip
  refine .skip (.code (.seq (.seq (.region (.move rfl rfl (.lenS rfl rfl Tryz.underlying58 rfl (.move rfl rfl (.nil (.code (.block (.keep (.cons (k := 0) rfl (.cons (k := 1) rfl (.cons (k := 12) rfl (.cons (k := 13) rfl (.nil _))))) ?_)))))))))))
  refine .loop (fun (s10 : Int) a w => ∃ (F_11 : Fz), F0 ≤ F_11 ∧ Hd 26 [] [(0, (.slice p2 a1.length k3)), (1, (.slice p6 b5.length k7)), (12, (.int .i64 (a1.length : Int))), (13, (.int .i64 s10))] F_11 [R] a w) (fun b0 e a w => match b0 with | .inl b35 => e = .exit 0 ∧ ∃ (F_36 : Fz), F0 ≤ F_36 ∧ Hd 26 [] [] F_36 [R] a w | .inr b35 => e = .ret ∧ ∃ (F_38 : Fz), F0 ≤ F_38 ∧ Hd 26 [] [(4, (.bool b35))] F_38 [R] a w) ?_ ?_ ?_
  ·exact fun a w h => ⟨F0, Fz.r, h.1.sub (.cons (k := 0) rfl (.cons (k := 1) rfl (.cons (k := 12) rfl (.cons (k := 13) rfl (.nil _))))), h.2⟩
  ·intro s10 ctl
   refine GC.ex (fun a w ⟨F_11, l_12, hA⟩ => ⟨_, hA, ?_⟩)
   unfold b_wormtublaw14_same_CaskEvent_1
   refine .seq (.region (.lss rfl rfl rfl (.nil (.code (.seq (.cond rfl (fun hb13 => ?_) (fun hb13 => ?_)))))))
   ·skip
    refine .skip (.code (.seq (.block (.seq (.region (.move rfl rfl (.assign rfl rfl (.nil (.code (.seq (.keep (.cons (k := 0) rfl (.cons (k := 1) rfl (.cons (k := 5) rfl (.cons (k := 12) rfl (.cons (k := 13) rfl (.nil _)))))) ?_)))))))))))
    refine .drawZ 9 mixedOK (by kernel_rfl) (.move rfl rfl (.move rfl rfl (.idx rfl Tryz.underlying58 Tryz.sizeOf69 (h4.mono l_12) rfl rfl (fun x14 b15 o16 T17 fr18 cs19 e20 hm21 hv22 => ?_))))
    refine .loadFA rfl Tryz.isAgg69 Tryz.sizeOf69 rfl hm21 hv22 rfl (.move rfl rfl (.move rfl rfl (.idx rfl Tryz.underlying58 Tryz.sizeOf69 (h8.mono l_12) rfl rfl (fun x24 b25 o26 T27 fr28 cs29 e30 hm31 hv32 => ?_))))
    refine .loadFA rfl Tryz.isAgg69 Tryz.sizeOf69 rfl hm31 hv32 rfl (.neqR rfl Tryz.eqGuardType69 (fun w => req_69 x14 x24 w) rfl rfl (.pend (.nil (.code (.cond rfl (fun hb34 => ?_) (fun hb34 => ?_))))))
    ·skip
     refine .seq (.region (.assign rfl rfl (.nil (.code (.retQ (LPost.ret fun a w h => ⟨rfl, F_11, l_12, h.1.sub (.cons (k := 4) rfl (.nil _)), h.2⟩))))))
    ·skip
     refine .skip (.block (.code (.region (.add rfl rfl rfl (.move rfl rfl (.nil ?_))))))
     exact .nil (LPost.norm fun a w h => ⟨F_11, l_12, h.1.sub (.cons (k := 0) rfl (.cons (k := 1) rfl (.cons (k := 12) rfl (.cons (k := 13) rfl (.nil _))))), h.2⟩)
   ·skip
    refine .exitOut rfl (LPost.exit fun a w h => ⟨rfl, F_11, l_12, h.1.sub (.nil _), h.2⟩)
  ·intro b35 hb0 hk e a w hD
   rcases b35 with b35 | b35
   ·skip
    obtain ⟨rfl, F_36, l_37, hA⟩ := hD
    refine interp_exit rfl (GE.app ?_ hk a w hA)
    refine .code (.seq (.region (.assign rfl rfl (.nil (.code ?_)))))
    exact .ret0 Tryz.results37 (.tmp rfl (.nil)) (i := 0) rfl l_37 rfl
   obtain ⟨rfl, F_38, l_39, hA⟩ := hD
   exact interp_ret ((ret_post0 Tryz.results37 (.tmp rfl (.nil)) (i := 0) rfl l_39 rfl) hk a w hA)
noncomputable def b_wormtublaw14_same_DutyEvent_1 (a1 : (List ApiDutyEvent)) (b5 : (List ApiDutyEvent)) (s10 : Int) : Option (Ctl (Int) ((Unit) ⊕ (Bool))) :=
 if (decide (s10 < (a1.length : Int))) then ((idxL a1 s10).bind fun x14 => (idxL b5 s10).bind fun x24 => if (!(eq_72 x14 x24)) then (some (.done (.inr false))) else (some (.next (w64 (s10 + 1))))) else (some (.done (.inl ())))
noncomputable def m_wormtublaw14_same_DutyEvent (a1 : (List ApiDutyEvent)) (b5 : (List ApiDutyEvent)) : Option Bool :=
 if ((a1.length : Int) != (b5.length : Int)) then (some false) else ((loopM (b_wormtublaw14_same_DutyEvent_1 a1 b5) 0).bind fun b0 => match b0 with | .inl _b35 => (some true) | .inr b35 => (some b35))
set_option maxRecDepth 100000 in
set_option maxHeartbeats 4000000 in
theorem c_wormtublaw14_same_DutyEvent (F0 : Fz) (a1 : (List ApiDutyEvent)) (p2 : Option Addr) (k3 : Nat) (h4 : RepSl 6 (Ex cApiDutyEvent) F0 p2 k3 a1) (b5 : (List ApiDutyEvent)) (p6 : Option Addr) (k7 : Nat) (h8 : RepSl 6 (Ex cApiDutyEvent) F0 p6 k7 b5) : CT0 Tryz.prog 38 [(.slice p2 a1.length k3), (.slice p6 b5.length k7)].toArray F0 (m_wormtublaw14_same_DutyEvent a1 b5) (fun r _ v => v = (.bool r)) := by
 refine CT0.enter Tryz.func38 rfl Tryz.ntmps38 rfl fun r R => ?_
 unfold m_wormtublaw14_same_DutyEvent
 refine .seq (.region (.assign rfl rfl (.nil (.code (.seq (.seq (.region (.move rfl rfl (.lenS rfl rfl Tryz.underlying56 rfl (.move rfl rfl (.lenS rfl rfl Tryz.underlying56 rfl ?_)))))))))))
 refine .neq rfl rfl rfl (.nil (.code (.cond rfl (fun hb9 => ?_) (fun hb9 => ?_))))
 ·skip
  refine .seq (.region (.assign rfl rfl (.nil (.code ?_))))
  exact .ret0 Tryz.results38 (.tmp rfl (.nil)) (i := 0) rfl Fz.r rfl
 ·skip
  refine .skip (.code (.seq (.seq (.region (.move rfl rfl (.lenS rfl rfl Tryz.underlying56 rfl (.move rfl rfl (.nil (.code (.block (.keep (.cons (k := 0) rfl (.cons (k := 1) rfl (.cons (k := 12) rfl (.cons (k := 13) rfl (.nil _))))) ?_)))))))))))
  refine .loop (fun (s10 : Int) a w => ∃ (F_11 : Fz), F0 ≤ F_11 ∧ Hd 26 [] [(0, (.slice p2 a1.length k3)), (1, (.slice p6 b5.length k7)), (12, (.int .i64 (a1.length : Int))), (13, (.int .i64 s10))] F_11 [R] a w) (fun b0 e a w => match b0 with | .inl b35 => e = .exit 0 ∧ ∃ (F_36 : Fz), F0 ≤ F_36 ∧ Hd 26 [] [] F_36 [R] a w | .inr b35 => e = .ret ∧ ∃ (F_38 : Fz), F0 ≤ F_38 ∧ Hd 26 [] [(4, (.bool b35))] F_38 [R] a w) ?_ ?_ ?_
  ·exact fun a w h => ⟨F0, Fz.r, h.1.sub (.cons (k := 0) rfl (.cons (k := 1) rfl (.cons (k := 12) rfl (.cons (k := 13) rfl (.nil _))))), h.2⟩
  ·intro s10 ctl
   refine GC.ex (fun a w ⟨F_11, l_12, hA⟩ => ⟨_, hA, ?_⟩)
   unfold b_wormtublaw14_same_DutyEvent_1
   refine .seq (.region (.lss rfl rfl rfl (.nil (.code (.seq (.cond rfl (fun hb13 => ?_) (fun hb13 => ?_)))))))
   ·skip
    refine .skip (.code (.seq (.block (.seq (.region (.move rfl rfl (.assign rfl rfl (.nil (.code (.seq (.keep (.cons (k := 0) rfl (.cons (k := 1) rfl (.cons (k := 5) rfl (.cons (k := 12) rfl (.cons (k := 13) rfl (.nil _)))))) ?_)))))))))))
    refine .drawZ 9 mixedOK (by kernel_rfl) (.move rfl rfl (.move rfl rfl (.idx rfl Tryz.underlying56 Tryz.sizeOf72 (h4.mono l_12) rfl rfl (fun x14 b15 o16 T17 fr18 cs19 e20 hm21 hv22 => ?_))))
    refine .loadFA rfl Tryz.isAgg72 Tryz.sizeOf72 rfl hm21 hv22 rfl (.move rfl rfl (.move rfl rfl (.idx rfl Tryz.underlying56 Tryz.sizeOf72 (h8.mono l_12) rfl rfl (fun x24 b25 o26 T27 fr28 cs29 e30 hm31 hv32 => ?_))))
    refine .loadFA rfl Tryz.isAgg72 Tryz.sizeOf72 rfl hm31 hv32 rfl (.neqR rfl Tryz.eqGuardType72 (fun w => req_72 x14 x24 w) rfl rfl (.pend (.nil (.code (.cond rfl (fun hb34 => ?_) (fun hb34 => ?_))))))
    ·skip
     refine .seq (.region (.assign rfl rfl (.nil (.code (.retQ (LPost.ret fun a w h => ⟨rfl, F_11, l_12, h.1.sub (.cons (k := 4) rfl (.nil _)), h.2⟩))))))
    ·skip
     refine .skip (.block (.code (.region (.add rfl rfl rfl (.move rfl rfl (.nil ?_))))))
     exact .nil (LPost.norm fun a w h => ⟨F_11, l_12, h.1.sub (.cons (k := 0) rfl (.cons (k := 1) rfl (.cons (k := 12) rfl (.cons (k := 13) rfl (.nil _))))), h.2⟩)
   ·skip
    refine .exitOut rfl (LPost.exit fun a w h => ⟨rfl, F_11, l_12, h.1.sub (.nil _), h.2⟩)
  ·intro b35 hb0 hk e a w hD
   rcases b35 with b35 | b35
   ·skip
    obtain ⟨rfl, F_36, l_37, hA⟩ := hD
    refine interp_exit rfl (GE.app ?_ hk a w hA)
    refine .code (.seq (.region (.assign rfl rfl (.nil (.code ?_)))))
    exact .ret0 Tryz.results38 (.tmp rfl (.nil)) (i := 0) rfl l_37 rfl
   obtain ⟨rfl, F_38, l_39, hA⟩ := hD
   exact interp_ret ((ret_post0 Tryz.results38 (.tmp rfl (.nil)) (i := 0) rfl l_39 rfl) hk a w hA)
noncomputable def b_wormtublaw14_same_MaltStep_1 (a1 : (List ApiMaltStep)) (b5 : (List ApiMaltStep)) (s10 : Int) : Option (Ctl (Int) ((Unit) ⊕ (Bool))) :=
 if (decide (s10 < (a1.length : Int))) then ((idxL a1 s10).bind fun x14 => (idxL b5 s10).bind fun x24 => if (!(eq_49 x14 x24)) then (some (.done (.inr false))) else (some (.next (w64 (s10 + 1))))) else (some (.done (.inl ())))
noncomputable def m_wormtublaw14_same_MaltStep (a1 : (List ApiMaltStep)) (b5 : (List ApiMaltStep)) : Option Bool :=
 if ((a1.length : Int) != (b5.length : Int)) then (some false) else ((loopM (b_wormtublaw14_same_MaltStep_1 a1 b5) 0).bind fun b0 => match b0 with | .inl _b35 => (some true) | .inr b35 => (some b35))
set_option maxRecDepth 100000 in
set_option maxHeartbeats 4000000 in
theorem c_wormtublaw14_same_MaltStep (F0 : Fz) (a1 : (List ApiMaltStep)) (p2 : Option Addr) (k3 : Nat) (h4 : RepSl 3 (Ex cApiMaltStep) F0 p2 k3 a1) (b5 : (List ApiMaltStep)) (p6 : Option Addr) (k7 : Nat) (h8 : RepSl 3 (Ex cApiMaltStep) F0 p6 k7 b5) : CT0 Tryz.prog 39 [(.slice p2 a1.length k3), (.slice p6 b5.length k7)].toArray F0 (m_wormtublaw14_same_MaltStep a1 b5) (fun r _ v => v = (.bool r)) := by
 refine CT0.enter Tryz.func39 rfl Tryz.ntmps39 rfl fun r R => ?_
 unfold m_wormtublaw14_same_MaltStep
 refine .seq (.region (.assign rfl rfl (.nil (.code (.seq (.seq (.region (.move rfl rfl (.lenS rfl rfl Tryz.underlying50 rfl (.move rfl rfl (.lenS rfl rfl Tryz.underlying50 rfl ?_)))))))))))
 refine .neq rfl rfl rfl (.nil (.code (.cond rfl (fun hb9 => ?_) (fun hb9 => ?_))))
 ·skip
  refine .seq (.region (.assign rfl rfl (.nil (.code ?_))))
  exact .ret0 Tryz.results39 (.tmp rfl (.nil)) (i := 0) rfl Fz.r rfl
 ·skip
  refine .skip (.code (.seq (.seq (.region (.move rfl rfl (.lenS rfl rfl Tryz.underlying50 rfl (.move rfl rfl (.nil (.code (.block (.keep (.cons (k := 0) rfl (.cons (k := 1) rfl (.cons (k := 12) rfl (.cons (k := 13) rfl (.nil _))))) ?_)))))))))))
  refine .loop (fun (s10 : Int) a w => ∃ (F_11 : Fz), F0 ≤ F_11 ∧ Hd 26 [] [(0, (.slice p2 a1.length k3)), (1, (.slice p6 b5.length k7)), (12, (.int .i64 (a1.length : Int))), (13, (.int .i64 s10))] F_11 [R] a w) (fun b0 e a w => match b0 with | .inl b35 => e = .exit 0 ∧ ∃ (F_36 : Fz), F0 ≤ F_36 ∧ Hd 26 [] [] F_36 [R] a w | .inr b35 => e = .ret ∧ ∃ (F_38 : Fz), F0 ≤ F_38 ∧ Hd 26 [] [(4, (.bool b35))] F_38 [R] a w) ?_ ?_ ?_
  ·exact fun a w h => ⟨F0, Fz.r, h.1.sub (.cons (k := 0) rfl (.cons (k := 1) rfl (.cons (k := 12) rfl (.cons (k := 13) rfl (.nil _))))), h.2⟩
  ·intro s10 ctl
   refine GC.ex (fun a w ⟨F_11, l_12, hA⟩ => ⟨_, hA, ?_⟩)
   unfold b_wormtublaw14_same_MaltStep_1
   refine .seq (.region (.lss rfl rfl rfl (.nil (.code (.seq (.cond rfl (fun hb13 => ?_) (fun hb13 => ?_)))))))
   ·skip
    refine .skip (.code (.seq (.block (.seq (.region (.move rfl rfl (.assign rfl rfl (.nil (.code (.seq (.keep (.cons (k := 0) rfl (.cons (k := 1) rfl (.cons (k := 5) rfl (.cons (k := 12) rfl (.cons (k := 13) rfl (.nil _)))))) ?_)))))))))))
    refine .drawZ 9 mixedOK (by kernel_rfl) (.move rfl rfl (.move rfl rfl (.idx rfl Tryz.underlying50 Tryz.sizeOf49 (h4.mono l_12) rfl rfl (fun x14 b15 o16 T17 fr18 cs19 e20 hm21 hv22 => ?_))))
    refine .loadFA rfl Tryz.isAgg49 Tryz.sizeOf49 rfl hm21 hv22 rfl (.move rfl rfl (.move rfl rfl (.idx rfl Tryz.underlying50 Tryz.sizeOf49 (h8.mono l_12) rfl rfl (fun x24 b25 o26 T27 fr28 cs29 e30 hm31 hv32 => ?_))))
    refine .loadFA rfl Tryz.isAgg49 Tryz.sizeOf49 rfl hm31 hv32 rfl (.neqR rfl Tryz.eqGuardType49 (fun w => req_49 x14 x24 w) rfl rfl (.pend (.nil (.code (.cond rfl (fun hb34 => ?_) (fun hb34 => ?_))))))
    ·skip
     refine .seq (.region (.assign rfl rfl (.nil (.code (.retQ (LPost.ret fun a w h => ⟨rfl, F_11, l_12, h.1.sub (.cons (k := 4) rfl (.nil _)), h.2⟩))))))
    ·skip
     refine .skip (.block (.code (.region (.add rfl rfl rfl (.move rfl rfl (.nil ?_))))))
     exact .nil (LPost.norm fun a w h => ⟨F_11, l_12, h.1.sub (.cons (k := 0) rfl (.cons (k := 1) rfl (.cons (k := 12) rfl (.cons (k := 13) rfl (.nil _))))), h.2⟩)
   ·skip
    refine .exitOut rfl (LPost.exit fun a w h => ⟨rfl, F_11, l_12, h.1.sub (.nil _), h.2⟩)
  ·intro b35 hb0 hk e a w hD
   rcases b35 with b35 | b35
   ·skip
    obtain ⟨rfl, F_36, l_37, hA⟩ := hD
    refine interp_exit rfl (GE.app ?_ hk a w hA)
    refine .code (.seq (.region (.assign rfl rfl (.nil (.code ?_)))))
    exact .ret0 Tryz.results39 (.tmp rfl (.nil)) (i := 0) rfl l_37 rfl
   obtain ⟨rfl, F_38, l_39, hA⟩ := hD
   exact interp_ret ((ret_post0 Tryz.results39 (.tmp rfl (.nil)) (i := 0) rfl l_39 rfl) hk a w hA)
noncomputable def b_wormtublaw14_same_Drawn_1 (a1 : (List ApiDrawn)) (b5 : (List ApiDrawn)) (s10 : Int) : Option (Ctl (Int) ((Unit) ⊕ (Bool))) :=
 if (decide (s10 < (a1.length : Int))) then ((idxL a1 s10).bind fun x14 => (idxL b5 s10).bind fun x24 => if (!(eq_54 x14 x24)) then (some (.done (.inr false))) else (some (.next (w64 (s10 + 1))))) else (some (.done (.inl ())))
noncomputable def m_wormtublaw14_same_Drawn (a1 : (List ApiDrawn)) (b5 : (List ApiDrawn)) : Option Bool :=
 if ((a1.length : Int) != (b5.length : Int)) then (some false) else ((loopM (b_wormtublaw14_same_Drawn_1 a1 b5) 0).bind fun b0 => match b0 with | .inl _b35 => (some true) | .inr b35 => (some b35))
set_option maxRecDepth 100000 in
set_option maxHeartbeats 4000000 in
theorem c_wormtublaw14_same_Drawn (F0 : Fz) (a1 : (List ApiDrawn)) (p2 : Option Addr) (k3 : Nat) (h4 : RepSl 3 (Ex cApiDrawn) F0 p2 k3 a1) (b5 : (List ApiDrawn)) (p6 : Option Addr) (k7 : Nat) (h8 : RepSl 3 (Ex cApiDrawn) F0 p6 k7 b5) : CT0 Tryz.prog 40 [(.slice p2 a1.length k3), (.slice p6 b5.length k7)].toArray F0 (m_wormtublaw14_same_Drawn a1 b5) (fun r _ v => v = (.bool r)) := by
 refine CT0.enter Tryz.func40 rfl Tryz.ntmps40 rfl fun r R => ?_
 unfold m_wormtublaw14_same_Drawn
 refine .seq (.region (.assign rfl rfl (.nil (.code (.seq (.seq (.region (.move rfl rfl (.lenS rfl rfl Tryz.underlying55 rfl (.move rfl rfl (.lenS rfl rfl Tryz.underlying55 rfl ?_)))))))))))
 refine .neq rfl rfl rfl (.nil (.code (.cond rfl (fun hb9 => ?_) (fun hb9 => ?_))))
 ·skip
  refine .seq (.region (.assign rfl rfl (.nil (.code ?_))))
  exact .ret0 Tryz.results40 (.tmp rfl (.nil)) (i := 0) rfl Fz.r rfl
 ·skip
  refine .skip (.code (.seq (.seq (.region (.move rfl rfl (.lenS rfl rfl Tryz.underlying55 rfl (.move rfl rfl (.nil (.code (.block (.keep (.cons (k := 0) rfl (.cons (k := 1) rfl (.cons (k := 12) rfl (.cons (k := 13) rfl (.nil _))))) ?_)))))))))))
  refine .loop (fun (s10 : Int) a w => ∃ (F_11 : Fz), F0 ≤ F_11 ∧ Hd 26 [] [(0, (.slice p2 a1.length k3)), (1, (.slice p6 b5.length k7)), (12, (.int .i64 (a1.length : Int))), (13, (.int .i64 s10))] F_11 [R] a w) (fun b0 e a w => match b0 with | .inl b35 => e = .exit 0 ∧ ∃ (F_36 : Fz), F0 ≤ F_36 ∧ Hd 26 [] [] F_36 [R] a w | .inr b35 => e = .ret ∧ ∃ (F_38 : Fz), F0 ≤ F_38 ∧ Hd 26 [] [(4, (.bool b35))] F_38 [R] a w) ?_ ?_ ?_
  ·exact fun a w h => ⟨F0, Fz.r, h.1.sub (.cons (k := 0) rfl (.cons (k := 1) rfl (.cons (k := 12) rfl (.cons (k := 13) rfl (.nil _))))), h.2⟩
  ·intro s10 ctl
   refine GC.ex (fun a w ⟨F_11, l_12, hA⟩ => ⟨_, hA, ?_⟩)
   unfold b_wormtublaw14_same_Drawn_1
   refine .seq (.region (.lss rfl rfl rfl (.nil (.code (.seq (.cond rfl (fun hb13 => ?_) (fun hb13 => ?_)))))))
   ·skip
    refine .skip (.code (.seq (.block (.seq (.region (.move rfl rfl (.assign rfl rfl (.nil (.code (.seq (.keep (.cons (k := 0) rfl (.cons (k := 1) rfl (.cons (k := 5) rfl (.cons (k := 12) rfl (.cons (k := 13) rfl (.nil _)))))) ?_)))))))))))
    refine .drawZ 9 mixedOK (by kernel_rfl) (.move rfl rfl (.move rfl rfl (.idx rfl Tryz.underlying55 Tryz.sizeOf54 (h4.mono l_12) rfl rfl (fun x14 b15 o16 T17 fr18 cs19 e20 hm21 hv22 => ?_))))
    refine .loadFA rfl Tryz.isAgg54 Tryz.sizeOf54 rfl hm21 hv22 rfl (.move rfl rfl (.move rfl rfl (.idx rfl Tryz.underlying55 Tryz.sizeOf54 (h8.mono l_12) rfl rfl (fun x24 b25 o26 T27 fr28 cs29 e30 hm31 hv32 => ?_))))
    refine .loadFA rfl Tryz.isAgg54 Tryz.sizeOf54 rfl hm31 hv32 rfl (.neqR rfl Tryz.eqGuardType54 (fun w => req_54 x14 x24 w) rfl rfl (.pend (.nil (.code (.cond rfl (fun hb34 => ?_) (fun hb34 => ?_))))))
    ·skip
     refine .seq (.region (.assign rfl rfl (.nil (.code (.retQ (LPost.ret fun a w h => ⟨rfl, F_11, l_12, h.1.sub (.cons (k := 4) rfl (.nil _)), h.2⟩))))))
    ·skip
     refine .skip (.block (.code (.region (.add rfl rfl rfl (.move rfl rfl (.nil ?_))))))
     exact .nil (LPost.norm fun a w h => ⟨F_11, l_12, h.1.sub (.cons (k := 0) rfl (.cons (k := 1) rfl (.cons (k := 12) rfl (.cons (k := 13) rfl (.nil _))))), h.2⟩)
   ·skip
    refine .exitOut rfl (LPost.exit fun a w h => ⟨rfl, F_11, l_12, h.1.sub (.nil _), h.2⟩)
  ·intro b35 hb0 hk e a w hD
   rcases b35 with b35 | b35
   ·skip
    obtain ⟨rfl, F_36, l_37, hA⟩ := hD
    refine interp_exit rfl (GE.app ?_ hk a w hA)
    refine .code (.seq (.region (.assign rfl rfl (.nil (.code ?_)))))
    exact .ret0 Tryz.results40 (.tmp rfl (.nil)) (i := 0) rfl l_37 rfl
   obtain ⟨rfl, F_38, l_39, hA⟩ := hD
   exact interp_ret ((ret_post0 Tryz.results40 (.tmp rfl (.nil)) (i := 0) rfl l_39 rfl) hk a w hA)
end Go.Proofs.YthnlglmjffdpfaaGreatDoor
end

section
namespace Go.Proofs.YthnlglmjffdpfaaGreatDoor
open Go.Dec
def bM (x : ApiMaltStep) : ApiBooked := ⟨0, [x.Kind, x.A, x.B]⟩
def bS (x : ApiDrawn) : ApiBooked := ⟨1, [x.Amount, x.Alcohol.Lo, x.Alcohol.Hi]⟩
def bC (x : ApiCaskEvent) : ApiBooked := ⟨2, [x.Kind, x.Day, x.Cask, x.Other, x.Person, x.To, x.Amount, x.Where]⟩
def bD (x : ApiDutyEvent) : ApiBooked := ⟨3, [x.Kind, x.Day, x.Bond, x.To, x.Id, x.Amount]⟩
def bookL (m : List ApiMaltStep) (s : List ApiDrawn) (c : List ApiCaskEvent) (d : List ApiDutyEvent) : List ApiBooked := m.map bM ++ s.map bS ++ c.map bC ++ d.map bD
def bookP (m : List ApiMaltStep) (s : List ApiDrawn) (c : List ApiCaskEvent) (d : List ApiDutyEvent) : List ApiBooked × Int :=
  if m.length + s.length + c.length + d.length > 1024 then ([], 3) else if okBook (bookL m s c d) then (bookL m s c d, 0) else ([], 1)
theorem add_loop {α : Type} {body : Int × List ApiBooked → Option (Ctl (Int × List ApiBooked) (List ApiBooked))} (l : List α) (f : α → ApiBooked)
    (hs : ∀ (i : Nat) (x : α) (t : List ApiBooked), i ≤ 1000000 → l[i]? = some x → t.length ≤ 10000000 → body ((i : Int), t) = some (.next (((i + 1 : Nat) : Int), t ++ [f x])))
    (he : ∀ t, body ((l.length : Int), t) = some (.done t)) (acc : List ApiBooked) (ha : acc.length ≤ 1000000) (hl : l.length ≤ 1000000) : loopM body (0, acc) = some (acc ++ l.map f) := by
  obtain ⟨t, rfl, hq⟩ := loopM_upto (body := body) (fun i (t : List ApiBooked) => ((i : Int), t)) (fun t => t) (fun i t => t = acc ++ (l.take i).map f) l.length
    (fun i t hi ht => by
      subst ht
      refine ⟨_, hs i l[i] _ (by omega) (List.getElem?_eq_getElem hi) (by rw [List.length_append, List.length_map, List.length_take]; omega), ?_⟩
      rw [List.take_add_one, List.getElem?_eq_getElem hi, List.map_append, List.append_assoc]; rfl)
    (fun t _ => he t) l.length 0 acc (by omega) (by simp)
  rw [List.take_of_length_le (Nat.le_refl _)] at hq
  exact hq
theorem Book_prog (m : List ApiMaltStep) (s : List ApiDrawn) (c : List ApiCaskEvent) (d : List ApiDutyEvent) (h1 : m.length ≤ 100000) (h2 : s.length ≤ 100000) (h3 : c.length ≤ 100000) (h4 : d.length ≤ 100000) :
    m_file_Book m s c d = some (bookP m s c d) := by
  unfold m_file_Book bookP
  have hsum : w64 ((w64 ((w64 ((m.length : Int) + (s.length : Int))) + (c.length : Int))) + (d.length : Int)) = ((m.length + s.length + c.length + d.length : Nat) : Int) := by
    rw [w64_id (n := (m.length : Int) + (s.length : Int)) (by omega) (by omega), w64_id (n := (m.length : Int) + (s.length : Int) + (c.length : Int)) (by omega) (by omega), w64_id (by omega) (by omega)]
    omega
  rw [hsum]
  by_cases h : m.length + s.length + c.length + d.length > 1024
  · rw [if_pos h, if_pos (by rw [Bool.or_eq_true]; right; simp; omega)]
  · have hm : decide ((imax (imax (imax (m.length : Int) (s.length : Int)) (c.length : Int)) (d.length : Int)) > 1024) = false := by
      simp only [decide_eq_false_iff_not, imax]
      split <;> split <;> split <;> omega
    rw [if_neg h, if_neg (by rw [hm, Bool.false_or]; simp; omega)]
    refine bind_of (add_loop m bM (fun i x t hi hx ht => by
      have := lt_get hx
      unfold b_file_Book_1
      rw [if_pos (by simp; omega)]
      simp only [idxL_nat, hx, Option.bind_some]
      unfold m_file_Book_1
      rw [appO_some' (by simp; omega), nx (by omega)]; rfl) (fun t => by unfold b_file_Book_1; rw [if_neg (by simp)]) [] (by simp) (by omega)) ?_
    refine bind_of (add_loop s bS (fun i x t hi hx ht => by
      have := lt_get hx
      unfold b_file_Book_2
      rw [if_pos (by simp; omega)]
      simp only [idxL_nat, hx, Option.bind_some]
      unfold m_file_Book_1
      rw [appO_some' (by simp; omega), nx (by omega)]; rfl) (fun t => by unfold b_file_Book_2; rw [if_neg (by simp)]) _ (by simp; omega) (by omega)) ?_
    refine bind_of (add_loop c bC (fun i x t hi hx ht => by
      have := lt_get hx
      unfold b_file_Book_3
      rw [if_pos (by simp; omega)]
      simp only [idxL_nat, hx, Option.bind_some]
      unfold m_file_Book_1
      rw [appO_some' (by simp; omega), nx (by omega)]; rfl) (fun t => by unfold b_file_Book_3; rw [if_neg (by simp)]) _ (by simp; omega) (by omega)) ?_
    refine bind_of (add_loop d bD (fun i x t hi hx ht => by
      have := lt_get hx
      unfold b_file_Book_4
      rw [if_pos (by simp; omega)]
      simp only [idxL_nat, hx, Option.bind_some]
      unfold m_file_Book_1
      rw [appO_some' (by simp; omega), nx (by omega)]; rfl) (fun t => by unfold b_file_Book_4; rw [if_neg (by simp)]) _ (by simp; omega) (by omega)) ?_
    refine bind_of (isBook_eq _) ?_
    rw [List.nil_append]
    show (if (!okBook (bookL m s c d)) then some ([], 1) else some (bookL m s c d, 0)) = _
    cases okBook (bookL m s c d) <;> rfl
theorem pick_loop {α : Type} {body : List α × Int → Option (Ctl (List α × Int) (List α))} (l : List ApiBooked) (k : Int) (f : List Int → α)
    (hs : ∀ (i : Nat) (x : ApiBooked) (t : List α), i ≤ 1000000 → l[i]? = some x → t.length ≤ 1000000 → body (t, (i : Int)) = some (.next (if x.Kind = k then t ++ [f x.N] else t, ((i + 1 : Nat) : Int))))
    (he : ∀ t, body (t, (l.length : Int)) = some (.done t)) (hl : l.length ≤ 1000000) : loopM body ([], 0) = some ((l.filter fun x => decide (x.Kind = k)).map fun x => f x.N) := by
  obtain ⟨t, rfl, hq⟩ := loopM_upto (body := body) (fun i (t : List α) => (t, (i : Int))) (fun t => t) (fun i t => t = ((l.take i).filter fun x => decide (x.Kind = k)).map fun x => f x.N) l.length
    (fun i t hi ht => by
      have hlen : t.length ≤ 1000000 := by
        rw [ht, List.length_map]
        have := List.length_filter_le (fun x : ApiBooked => decide (x.Kind = k)) (l.take i)
        rw [List.length_take] at this; omega
      refine ⟨_, hs i l[i] _ (by omega) (List.getElem?_eq_getElem hi) hlen, ?_⟩
      subst ht
      rw [List.take_add_one, List.getElem?_eq_getElem hi, List.filter_append, List.map_append]
      simp only [Option.toList_some, List.filter_cons, List.filter_nil]
      by_cases e : l[i].Kind = k
      · rw [if_pos e, decide_eq_true e]; rfl
      · rw [if_neg e, decide_eq_false e]; simp)
    (fun t _ => he t) l.length 0 [] (by omega) (by simp)
  rw [List.take_of_length_le (Nat.le_refl _)] at hq
  exact hq
def pickS {α : Type} (l : List ApiBooked) (k : Int) (f : List Int → α) : List α × Int := if okBook l then ((l.filter fun x => decide (x.Kind = k)).map fun x => f x.N, 0) else ([], 1)
def fM (n : List Int) : ApiMaltStep := ⟨n.getD 0 0, n.getD 1 0, n.getD 2 0⟩
def fS (n : List Int) : ApiDrawn := ⟨n.getD 0 0, ⟨n.getD 1 0, n.getD 2 0⟩⟩
def fC (n : List Int) : ApiCaskEvent := ⟨n.getD 0 0, n.getD 1 0, n.getD 2 0, n.getD 3 0, n.getD 4 0, n.getD 5 0, n.getD 6 0, n.getD 7 0⟩
def fD (n : List Int) : ApiDutyEvent := ⟨n.getD 0 0, n.getD 1 0, n.getD 2 0, n.getD 3 0, n.getD 4 0, n.getD 5 0⟩
theorem idx_at {n : List Int} {i : Nat} (h : i < n.length) : idxL n (i : Int) = some (n.getD i 0) := by rw [idxL_nat, getD_get (d := 0) h]
theorem okS_most {x : ApiBooked} (h : okS x = true) : x.N.length = (mostS x.Kind).length := inM_len (okS_iff.1 h).2
theorem Steps_prog (l : List ApiBooked) : m_file_Steps l = some (pickS l 0 fM) := by
  unfold m_file_Steps m_file_chosen_MaltStep pickS
  rw [isBook_eq]
  simp only [Option.bind_some]
  by_cases hb : okBook l = true
  · obtain ⟨h1, hok⟩ := okBook_iff.1 hb
    rw [hb]
    simp only [Bool.not_true, Bool.false_eq_true, if_false, if_true]
    refine bind_of (bind_of (pick_loop l 0 fM (fun i x t hi hx ht => ?_) (fun t => ?_) (by omega)) rfl) rfl
    · have hlt := lt_get hx
      have hxo := hok x (List.mem_of_getElem? hx)
      unfold b_file_chosen_MaltStep_1
      rw [if_pos (by simp; omega)]
      simp only [idxL_nat, hx, Option.bind_some, nx (show i ≤ 1000000000 by omega)]
      by_cases e : x.Kind = 0
      · have hn := okS_most hxo
        rw [e] at hn
        have hn' : x.N.length = 3 := hn
        rw [if_pos (by simp [e]), if_pos e]
        unfold m_file_Steps_1
        rw [show (0 : Int) = ((0 : Nat) : Int) from rfl, show (1 : Int) = ((1 : Nat) : Int) from rfl, show (2 : Int) = ((2 : Nat) : Int) from rfl, idx_at (by omega), idx_at (by omega), idx_at (by omega)]
        simp only [Option.bind_some]
        rw [appO_some' (by simp; omega)]; rfl
      · rw [if_neg (by simp [e]), if_neg e]; rfl
    · unfold b_file_chosen_MaltStep_1
      rw [if_neg (by simp)]
  · simp only [Bool.not_eq_true] at hb
    rw [hb]; rfl
theorem Draws_prog (l : List ApiBooked) : m_file_Draws l = some (pickS l 1 fS) := by
  unfold m_file_Draws m_file_chosen_Drawn pickS
  rw [isBook_eq]
  simp only [Option.bind_some]
  by_cases hb : okBook l = true
  · obtain ⟨h1, hok⟩ := okBook_iff.1 hb
    rw [hb]
    simp only [Bool.not_true, Bool.false_eq_true, if_false, if_true]
    refine bind_of (bind_of (pick_loop l 1 fS (fun i x t hi hx ht => ?_) (fun t => ?_) (by omega)) rfl) rfl
    · have hlt := lt_get hx
      have hxo := hok x (List.mem_of_getElem? hx)
      unfold b_file_chosen_Drawn_1
      rw [if_pos (by simp; omega)]
      simp only [idxL_nat, hx, Option.bind_some, nx (show i ≤ 1000000000 by omega)]
      by_cases e : x.Kind = 1
      · have hn := okS_most hxo
        rw [e] at hn
        have hn' : x.N.length = 3 := hn
        rw [if_pos (by simp [e]), if_pos e]
        have i0 := idx_at (n := x.N) (i := 0) (by omega)
        have i1 := idx_at (n := x.N) (i := 1) (by omega)
        have i2 := idx_at (n := x.N) (i := 2) (by omega)
        have hd : m_file_Draws_1 x.N = some (fS x.N) := bind_of i0 (bind_of i1 (bind_of i2 rfl))
        simp only [hd, Option.bind_some]
        rw [appO_some' (by simp; omega)]; rfl
      · rw [if_neg (by simp [e]), if_neg e]; rfl
    · unfold b_file_chosen_Drawn_1
      rw [if_neg (by simp)]
  · simp only [Bool.not_eq_true] at hb
    rw [hb]; rfl
theorem Casks_prog (l : List ApiBooked) : m_file_Casks l = some (pickS l 2 fC) := by
  unfold m_file_Casks m_file_chosen_CaskEvent pickS
  rw [isBook_eq]
  simp only [Option.bind_some]
  by_cases hb : okBook l = true
  · obtain ⟨h1, hok⟩ := okBook_iff.1 hb
    rw [hb]
    simp only [Bool.not_true, Bool.false_eq_true, if_false, if_true]
    refine bind_of (bind_of (pick_loop l 2 fC (fun i x t hi hx ht => ?_) (fun t => ?_) (by omega)) rfl) rfl
    · have hlt := lt_get hx
      have hxo := hok x (List.mem_of_getElem? hx)
      unfold b_file_chosen_CaskEvent_1
      rw [if_pos (by simp; omega)]
      simp only [idxL_nat, hx, Option.bind_some, nx (show i ≤ 1000000000 by omega)]
      by_cases e : x.Kind = 2
      · have hn := okS_most hxo
        rw [e] at hn
        have hn' : x.N.length = 8 := hn
        rw [if_pos (by simp [e]), if_pos e]
        have i0 := idx_at (n := x.N) (i := 0) (by omega)
        have i1 := idx_at (n := x.N) (i := 1) (by omega)
        have i2 := idx_at (n := x.N) (i := 2) (by omega)
        have i3 := idx_at (n := x.N) (i := 3) (by omega)
        have i4 := idx_at (n := x.N) (i := 4) (by omega)
        have i5 := idx_at (n := x.N) (i := 5) (by omega)
        have i6 := idx_at (n := x.N) (i := 6) (by omega)
        have i7 := idx_at (n := x.N) (i := 7) (by omega)
        have hd : m_file_Casks_1 x.N = some (fC x.N) := bind_of i0 (bind_of i1 (bind_of i2 (bind_of i3 (bind_of i4 (bind_of i5 (bind_of i6 (bind_of i7 rfl)))))))
        simp only [hd, Option.bind_some]
        rw [appO_some' (by simp; omega)]; rfl
      · rw [if_neg (by simp [e]), if_neg e]; rfl
    · unfold b_file_chosen_CaskEvent_1
      rw [if_neg (by simp)]
  · simp only [Bool.not_eq_true] at hb
    rw [hb]; rfl
theorem Duties_prog (l : List ApiBooked) : m_file_Duties l = some (pickS l 3 fD) := by
  unfold m_file_Duties m_file_chosen_DutyEvent pickS
  rw [isBook_eq]
  simp only [Option.bind_some]
  by_cases hb : okBook l = true
  · obtain ⟨h1, hok⟩ := okBook_iff.1 hb
    rw [hb]
    simp only [Bool.not_true, Bool.false_eq_true, if_false, if_true]
    refine bind_of (bind_of (pick_loop l 3 fD (fun i x t hi hx ht => ?_) (fun t => ?_) (by omega)) rfl) rfl
    · have hlt := lt_get hx
      have hxo := hok x (List.mem_of_getElem? hx)
      unfold b_file_chosen_DutyEvent_1
      rw [if_pos (by simp; omega)]
      simp only [idxL_nat, hx, Option.bind_some, nx (show i ≤ 1000000000 by omega)]
      by_cases e : x.Kind = 3
      · have hn := okS_most hxo
        rw [e] at hn
        have hn' : x.N.length = 6 := hn
        rw [if_pos (by simp [e]), if_pos e]
        have i0 := idx_at (n := x.N) (i := 0) (by omega)
        have i1 := idx_at (n := x.N) (i := 1) (by omega)
        have i2 := idx_at (n := x.N) (i := 2) (by omega)
        have i3 := idx_at (n := x.N) (i := 3) (by omega)
        have i4 := idx_at (n := x.N) (i := 4) (by omega)
        have i5 := idx_at (n := x.N) (i := 5) (by omega)
        have hd : m_file_Duties_1 x.N = some (fD x.N) := bind_of i0 (bind_of i1 (bind_of i2 (bind_of i3 (bind_of i4 (bind_of i5 rfl)))))
        simp only [hd, Option.bind_some]
        rw [appO_some' (by simp; omega)]; rfl
      · rw [if_neg (by simp [e]), if_neg e]; rfl
    · unfold b_file_chosen_DutyEvent_1
      rw [if_neg (by simp)]
  · simp only [Bool.not_eq_true] at hb
    rw [hb]; rfl
end Go.Proofs.YthnlglmjffdpfaaGreatDoor
end

section
namespace Go.Proofs.YthnlglmjffdpfaaGreatDoor
open Go.Dec
theorem Tryz.own : ownKnob Tryz.prog.godebug = none := by kernel_rfl
theorem Tryz.laidOut : laidOutB Tryz.prog = true := by kernel_rfl
def okApiMaltStep (x : ApiMaltStep) : Prop := (Lit.int .i64 x.Kind).wf = true ∧ (Lit.int .i64 x.A).wf = true ∧ (Lit.int .i64 x.B).wf = true
theorem vApiMaltStep {H : Type} {enc : TypeId × Value → H} {W : World} : Viewed enc Tryz.prog W 49 (Ex cApiMaltStep) okApiMaltStep := by
 intro sp held fuel cs x h
 obtain ⟨xs, k, _, _, hl, hxl, hx⟩ := DataW.trod_struct Tryz.underlying49 h
 have hl' : cs.length = 3 := hl.trans (by kernel_rfl)
 obtain ⟨y0, h0⟩ := some_of (hx 0 _ rfl) hxl rfl
 have e0 : Tryz.prog.cellsOf 3 = 1 := by kernel_rfl
 obtain ⟨m0, o0, q0⟩ := (Viewed.int Tryz.underlying3) _ _ _ _ _ h0
 obtain ⟨y1, h1⟩ := some_of (hx 1 _ rfl) hxl rfl
 have e1 : Tryz.prog.cellsOf 3 = 1 := by kernel_rfl
 obtain ⟨m1, o1, q1⟩ := (Viewed.int Tryz.underlying3) _ _ _ _ _ h1
 obtain ⟨y2, h2⟩ := some_of (hx 2 _ rfl) hxl rfl
 have e2 : Tryz.prog.cellsOf 3 = 1 := by kernel_rfl
 obtain ⟨m2, o2, q2⟩ := (Viewed.int Tryz.underlying3) _ _ _ _ _ h2
 refine ⟨⟨m0, m1, m2⟩, ⟨o0, o1, o2⟩, fun F' le => ?_⟩
 have w0 : (cs.drop 0).take (Tryz.prog.cellsOf 3) = (cInt .i64) m0 := q0 F' le
 rw [e0] at w0
 have w1 : (cs.drop 1).take (Tryz.prog.cellsOf 3) = (cInt .i64) m1 := q1 F' le
 rw [e1] at w1
 have w2 : (cs.drop 2).take (Tryz.prog.cellsOf 3) = (cInt .i64) m2 := q2 F' le
 rw [e2] at w2
 exact (cat_cons w0 (cat_cons w1 (cat_cons w2 (cat_nil hl'))))
def okApiSpan (x : ApiSpan) : Prop := (Lit.int .i64 x.Lo).wf = true ∧ (Lit.int .i64 x.Hi).wf = true
theorem vApiSpan {H : Type} {enc : TypeId × Value → H} {W : World} : Viewed enc Tryz.prog W 52 (Ex cApiSpan) okApiSpan := by
 intro sp held fuel cs x h
 obtain ⟨xs, k, _, _, hl, hxl, hx⟩ := DataW.trod_struct Tryz.underlying52 h
 have hl' : cs.length = 2 := hl.trans (by kernel_rfl)
 obtain ⟨y0, h0⟩ := some_of (hx 0 _ rfl) hxl rfl
 have e0 : Tryz.prog.cellsOf 3 = 1 := by kernel_rfl
 obtain ⟨m0, o0, q0⟩ := (Viewed.int Tryz.underlying3) _ _ _ _ _ h0
 obtain ⟨y1, h1⟩ := some_of (hx 1 _ rfl) hxl rfl
 have e1 : Tryz.prog.cellsOf 3 = 1 := by kernel_rfl
 obtain ⟨m1, o1, q1⟩ := (Viewed.int Tryz.underlying3) _ _ _ _ _ h1
 refine ⟨⟨m0, m1⟩, ⟨o0, o1⟩, fun F' le => ?_⟩
 have w0 : (cs.drop 0).take (Tryz.prog.cellsOf 3) = (cInt .i64) m0 := q0 F' le
 rw [e0] at w0
 have w1 : (cs.drop 1).take (Tryz.prog.cellsOf 3) = (cInt .i64) m1 := q1 F' le
 rw [e1] at w1
 exact (cat_cons w0 (cat_cons w1 (cat_nil hl')))
def okApiDrawn (x : ApiDrawn) : Prop := (Lit.int .i64 x.Amount).wf = true ∧ okApiSpan x.Alcohol
theorem vApiDrawn {H : Type} {enc : TypeId × Value → H} {W : World} : Viewed enc Tryz.prog W 54 (Ex cApiDrawn) okApiDrawn := by
 intro sp held fuel cs x h
 obtain ⟨xs, k, _, _, hl, hxl, hx⟩ := DataW.trod_struct Tryz.underlying54 h
 have hl' : cs.length = 3 := hl.trans (by kernel_rfl)
 obtain ⟨y0, h0⟩ := some_of (hx 0 _ rfl) hxl rfl
 have e0 : Tryz.prog.cellsOf 3 = 1 := by kernel_rfl
 obtain ⟨m0, o0, q0⟩ := (Viewed.int Tryz.underlying3) _ _ _ _ _ h0
 obtain ⟨y1, h1⟩ := some_of (hx 1 _ rfl) hxl rfl
 have e1 : Tryz.prog.cellsOf 52 = 2 := by kernel_rfl
 obtain ⟨m1, o1, q1⟩ := vApiSpan _ _ _ _ _ h1
 refine ⟨⟨m0, m1⟩, ⟨o0, o1⟩, fun F' le => ?_⟩
 have w0 : (cs.drop 0).take (Tryz.prog.cellsOf 3) = (cInt .i64) m0 := q0 F' le
 rw [e0] at w0
 have w1 : (cs.drop 1).take (Tryz.prog.cellsOf 52) = cApiSpan m1 := q1 F' le
 rw [e1] at w1
 exact (cat_cons w0 (cat_cons w1 (cat_nil hl')))
def okApiDutyEvent (x : ApiDutyEvent) : Prop := (Lit.int .i64 x.Kind).wf = true ∧ (Lit.int .i64 x.Day).wf = true ∧ (Lit.int .i64 x.Bond).wf = true ∧ (Lit.int .i64 x.To).wf = true ∧ (Lit.int .i64 x.Id).wf = true ∧ (Lit.int .i64 x.Amount).wf = true
theorem vApiDutyEvent {H : Type} {enc : TypeId × Value → H} {W : World} : Viewed enc Tryz.prog W 72 (Ex cApiDutyEvent) okApiDutyEvent := by
 intro sp held fuel cs x h
 obtain ⟨xs, k, _, _, hl, hxl, hx⟩ := DataW.trod_struct Tryz.underlying72 h
 have hl' : cs.length = 6 := hl.trans (by kernel_rfl)
 obtain ⟨y0, h0⟩ := some_of (hx 0 _ rfl) hxl rfl
 have e0 : Tryz.prog.cellsOf 3 = 1 := by kernel_rfl
 obtain ⟨m0, o0, q0⟩ := (Viewed.int Tryz.underlying3) _ _ _ _ _ h0
 obtain ⟨y1, h1⟩ := some_of (hx 1 _ rfl) hxl rfl
 have e1 : Tryz.prog.cellsOf 3 = 1 := by kernel_rfl
 obtain ⟨m1, o1, q1⟩ := (Viewed.int Tryz.underlying3) _ _ _ _ _ h1
 obtain ⟨y2, h2⟩ := some_of (hx 2 _ rfl) hxl rfl
 have e2 : Tryz.prog.cellsOf 3 = 1 := by kernel_rfl
 obtain ⟨m2, o2, q2⟩ := (Viewed.int Tryz.underlying3) _ _ _ _ _ h2
 obtain ⟨y3, h3⟩ := some_of (hx 3 _ rfl) hxl rfl
 have e3 : Tryz.prog.cellsOf 3 = 1 := by kernel_rfl
 obtain ⟨m3, o3, q3⟩ := (Viewed.int Tryz.underlying3) _ _ _ _ _ h3
 obtain ⟨y4, h4⟩ := some_of (hx 4 _ rfl) hxl rfl
 have e4 : Tryz.prog.cellsOf 3 = 1 := by kernel_rfl
 obtain ⟨m4, o4, q4⟩ := (Viewed.int Tryz.underlying3) _ _ _ _ _ h4
 obtain ⟨y5, h5⟩ := some_of (hx 5 _ rfl) hxl rfl
 have e5 : Tryz.prog.cellsOf 3 = 1 := by kernel_rfl
 obtain ⟨m5, o5, q5⟩ := (Viewed.int Tryz.underlying3) _ _ _ _ _ h5
 refine ⟨⟨m0, m1, m2, m3, m4, m5⟩, ⟨o0, o1, o2, o3, o4, o5⟩, fun F' le => ?_⟩
 have w0 : (cs.drop 0).take (Tryz.prog.cellsOf 3) = (cInt .i64) m0 := q0 F' le
 rw [e0] at w0
 have w1 : (cs.drop 1).take (Tryz.prog.cellsOf 3) = (cInt .i64) m1 := q1 F' le
 rw [e1] at w1
 have w2 : (cs.drop 2).take (Tryz.prog.cellsOf 3) = (cInt .i64) m2 := q2 F' le
 rw [e2] at w2
 have w3 : (cs.drop 3).take (Tryz.prog.cellsOf 3) = (cInt .i64) m3 := q3 F' le
 rw [e3] at w3
 have w4 : (cs.drop 4).take (Tryz.prog.cellsOf 3) = (cInt .i64) m4 := q4 F' le
 rw [e4] at w4
 have w5 : (cs.drop 5).take (Tryz.prog.cellsOf 3) = (cInt .i64) m5 := q5 F' le
 rw [e5] at w5
 exact (cat_cons w0 (cat_cons w1 (cat_cons w2 (cat_cons w3 (cat_cons w4 (cat_cons w5 (cat_nil hl')))))))
def okApiCaskEvent (x : ApiCaskEvent) : Prop := (Lit.int .i64 x.Kind).wf = true ∧ (Lit.int .i64 x.Day).wf = true ∧ (Lit.int .i64 x.Cask).wf = true ∧ (Lit.int .i64 x.Other).wf = true ∧ (Lit.int .i64 x.Person).wf = true ∧ (Lit.int .i64 x.To).wf = true ∧ (Lit.int .i64 x.Amount).wf = true ∧ (Lit.int .i64 x.Where).wf = true
theorem vApiCaskEvent {H : Type} {enc : TypeId × Value → H} {W : World} : Viewed enc Tryz.prog W 69 (Ex cApiCaskEvent) okApiCaskEvent := by
 intro sp held fuel cs x h
 obtain ⟨xs, k, _, _, hl, hxl, hx⟩ := DataW.trod_struct Tryz.underlying69 h
 have hl' : cs.length = 8 := hl.trans (by kernel_rfl)
 obtain ⟨y0, h0⟩ := some_of (hx 0 _ rfl) hxl rfl
 have e0 : Tryz.prog.cellsOf 3 = 1 := by kernel_rfl
 obtain ⟨m0, o0, q0⟩ := (Viewed.int Tryz.underlying3) _ _ _ _ _ h0
 obtain ⟨y1, h1⟩ := some_of (hx 1 _ rfl) hxl rfl
 have e1 : Tryz.prog.cellsOf 3 = 1 := by kernel_rfl
 obtain ⟨m1, o1, q1⟩ := (Viewed.int Tryz.underlying3) _ _ _ _ _ h1
 obtain ⟨y2, h2⟩ := some_of (hx 2 _ rfl) hxl rfl
 have e2 : Tryz.prog.cellsOf 3 = 1 := by kernel_rfl
 obtain ⟨m2, o2, q2⟩ := (Viewed.int Tryz.underlying3) _ _ _ _ _ h2
 obtain ⟨y3, h3⟩ := some_of (hx 3 _ rfl) hxl rfl
 have e3 : Tryz.prog.cellsOf 3 = 1 := by kernel_rfl
 obtain ⟨m3, o3, q3⟩ := (Viewed.int Tryz.underlying3) _ _ _ _ _ h3
 obtain ⟨y4, h4⟩ := some_of (hx 4 _ rfl) hxl rfl
 have e4 : Tryz.prog.cellsOf 3 = 1 := by kernel_rfl
 obtain ⟨m4, o4, q4⟩ := (Viewed.int Tryz.underlying3) _ _ _ _ _ h4
 obtain ⟨y5, h5⟩ := some_of (hx 5 _ rfl) hxl rfl
 have e5 : Tryz.prog.cellsOf 3 = 1 := by kernel_rfl
 obtain ⟨m5, o5, q5⟩ := (Viewed.int Tryz.underlying3) _ _ _ _ _ h5
 obtain ⟨y6, h6⟩ := some_of (hx 6 _ rfl) hxl rfl
 have e6 : Tryz.prog.cellsOf 3 = 1 := by kernel_rfl
 obtain ⟨m6, o6, q6⟩ := (Viewed.int Tryz.underlying3) _ _ _ _ _ h6
 obtain ⟨y7, h7⟩ := some_of (hx 7 _ rfl) hxl rfl
 have e7 : Tryz.prog.cellsOf 3 = 1 := by kernel_rfl
 obtain ⟨m7, o7, q7⟩ := (Viewed.int Tryz.underlying3) _ _ _ _ _ h7
 refine ⟨⟨m0, m1, m2, m3, m4, m5, m6, m7⟩, ⟨o0, o1, o2, o3, o4, o5, o6, o7⟩, fun F' le => ?_⟩
 have w0 : (cs.drop 0).take (Tryz.prog.cellsOf 3) = (cInt .i64) m0 := q0 F' le
 rw [e0] at w0
 have w1 : (cs.drop 1).take (Tryz.prog.cellsOf 3) = (cInt .i64) m1 := q1 F' le
 rw [e1] at w1
 have w2 : (cs.drop 2).take (Tryz.prog.cellsOf 3) = (cInt .i64) m2 := q2 F' le
 rw [e2] at w2
 have w3 : (cs.drop 3).take (Tryz.prog.cellsOf 3) = (cInt .i64) m3 := q3 F' le
 rw [e3] at w3
 have w4 : (cs.drop 4).take (Tryz.prog.cellsOf 3) = (cInt .i64) m4 := q4 F' le
 rw [e4] at w4
 have w5 : (cs.drop 5).take (Tryz.prog.cellsOf 3) = (cInt .i64) m5 := q5 F' le
 rw [e5] at w5
 have w6 : (cs.drop 6).take (Tryz.prog.cellsOf 3) = (cInt .i64) m6 := q6 F' le
 rw [e6] at w6
 have w7 : (cs.drop 7).take (Tryz.prog.cellsOf 3) = (cInt .i64) m7 := q7 F' le
 rw [e7] at w7
 exact (cat_cons w0 (cat_cons w1 (cat_cons w2 (cat_cons w3 (cat_cons w4 (cat_cons w5 (cat_cons w6 (cat_cons w7 (cat_nil hl')))))))))
theorem vt50 {H : Type} {enc : TypeId × Value → H} {W : World} : Viewed enc Tryz.prog W 50 (rSl 3 (Ex cApiMaltStep)) (fun x => (∀ y1 ∈ x, okApiMaltStep y1)) := (Viewed.slice (sz := 3) Tryz.underlying50 (by kernel_rfl) (by decide) vApiMaltStep)
theorem vt55 {H : Type} {enc : TypeId × Value → H} {W : World} : Viewed enc Tryz.prog W 55 (rSl 3 (Ex cApiDrawn)) (fun x => (∀ y1 ∈ x, okApiDrawn y1)) := (Viewed.slice (sz := 3) Tryz.underlying55 (by kernel_rfl) (by decide) vApiDrawn)
theorem vt56 {H : Type} {enc : TypeId × Value → H} {W : World} : Viewed enc Tryz.prog W 56 (rSl 6 (Ex cApiDutyEvent)) (fun x => (∀ y1 ∈ x, okApiDutyEvent y1)) := (Viewed.slice (sz := 6) Tryz.underlying56 (by kernel_rfl) (by decide) vApiDutyEvent)
theorem vt58 {H : Type} {enc : TypeId × Value → H} {W : World} : Viewed enc Tryz.prog W 58 (rSl 8 (Ex cApiCaskEvent)) (fun x => (∀ y1 ∈ x, okApiCaskEvent y1)) := (Viewed.slice (sz := 8) Tryz.underlying58 (by kernel_rfl) (by decide) vApiCaskEvent)
end Go.Proofs.YthnlglmjffdpfaaGreatDoor
end

section
namespace Go.Proofs.YthnlglmjffdpfaaGreatDoor
open Go.Dec Go.Shelf Go.RowKit Go.Maps Go.Sort
noncomputable def m_wormtublaw14_FileEvents (m_1 : (List ApiMaltStep)) (s5 : (List ApiDrawn)) (c9 : (List ApiCaskEvent)) (d13 : (List ApiDutyEvent)) (at_17 : Int) (to_18 : Int) : Option Bool :=
 if ((((decide ((m_1.length : Int) > 20)) || (decide ((s5.length : Int) > 20))) || (decide ((c9.length : Int) > 20))) || (decide ((d13.length : Int) > 20))) then ((m_wormtublaw14_alive).bind fun r_34 => some r_34) else ((m_file_Book m_1 s5 c9 d13).bind fun r_37 => if (r_37.2 != 0) then ((if (((r_37.1.length : Int) == 0) && (r_37.2 == 1)) then ((m_wormtublaw14_alive).bind fun r_49 => some r_49) else some false).bind fun z53 => some z53) else ((m_file_Write r_37.1).bind fun r_55 => if (r_55.2 != 0) then (some false) else ((if (decide ((r_55.1.length : Int) > 0)) then ((remK (w64 (at_17)) (r_55.1.length : Int)).bind fun q63 => (idxL r_55.1 q63).bind fun _x65 => bindv (List.set r_55.1 (q63).toNat (to_18)) fun l_69 => some l_69) else (some r_55.1) : Option ((List Int))).bind fun j72 => (m_file_Repair j72).bind fun r_83 => (m_file_Read r_83.1).bind fun r_92 => (if ((r_83.2.2 != 0) || (r_92.2 != 0)) then some true else ((m_wormtubref14_Same r_92.1 r_37.1).bind fun r_103 => some (!r_103))).bind fun z107 => if z107 then (some false) else ((m_file_Casks r_92.1).bind fun r_112 => (m_file_Duties r_92.1).bind fun r_118 => (m_file_Steps r_92.1).bind fun r_124 => (m_file_Draws r_92.1).bind fun r_130 => (if ((((r_112.2 == 0) && (r_118.2 == 0)) && (r_124.2 == 0)) && (r_130.2 == 0)) then ((m_wormtublaw14_same_CaskEvent r_112.1 c9).bind fun r_149 => some r_149) else some false).bind fun z153 => (if z153 then ((m_wormtublaw14_same_DutyEvent r_118.1 d13).bind fun r_158 => some r_158) else some false).bind fun z162 => (if z162 then ((m_wormtublaw14_same_MaltStep r_124.1 m_1).bind fun r_167 => some r_167) else some false).bind fun z171 => (if z171 then ((m_wormtublaw14_same_Drawn r_130.1 s5).bind fun r_176 => some r_176) else some false).bind fun z180 => (if z180 then ((m_wormtublaw14_alive).bind fun r_185 => some r_185) else some false).bind fun z189 => some z189))))
set_option maxRecDepth 100000 in
set_option maxHeartbeats 4000000 in
theorem c_wormtublaw14_FileEvents (F0 : Fz) (hT : TabsP F0) (m_1 : (List ApiMaltStep)) (p2 : Option Addr) (k3 : Nat) (h4 : RepSl 3 (Ex cApiMaltStep) F0 p2 k3 m_1) (s5 : (List ApiDrawn)) (p6 : Option Addr) (k7 : Nat) (h8 : RepSl 3 (Ex cApiDrawn) F0 p6 k7 s5) (c9 : (List ApiCaskEvent)) (p10 : Option Addr) (k11 : Nat) (h12 : RepSl 8 (Ex cApiCaskEvent) F0 p10 k11 c9) (d13 : (List ApiDutyEvent)) (p14 : Option Addr) (k15 : Nat) (h16 : RepSl 6 (Ex cApiDutyEvent) F0 p14 k15 d13) (at_17 : Int) (to_18 : Int) : CT0 Tryz.prog 14 [(.slice p2 m_1.length k3), (.slice p6 s5.length k7), (.slice p10 c9.length k11), (.slice p14 d13.length k15), (.int .u16 at_17), (.int .u8 to_18)].toArray F0 (m_wormtublaw14_FileEvents m_1 s5 c9 d13 at_17 to_18) (fun r _ v => v = (.bool r)) := by
 refine CT0.enter Tryz.func14 rfl Tryz.ntmps14 rfl fun r R => ?_
 unfold m_wormtublaw14_FileEvents
 refine .seq (.region (.assign rfl rfl (.nil (.code (.seq (.seq (.region (.move rfl rfl (.lenS rfl rfl Tryz.underlying50 rfl (.gtr rfl rfl rfl (.move rfl rfl ?_)))))))))))
 refine .orP (b := (decide ((m_1.length : Int) > 20))) (b' := (decide ((s5.length : Int) > 20))) 4 34 (fun hb19 => ?_) (fun hb20 => ?_) (fun F_21 l_22 => ?_)
 ·skip
  refine .onH hb19 rfl rfl (.move rfl rfl (.onH hb19 rfl rfl (.lenS rfl rfl Tryz.underlying55 rfl (.onH hb19 rfl rfl (.gtr rfl rfl rfl (.pickFH hb19 rfl rfl rfl ?_))))))
  exact .fin 4 rfl rfl (by kernel_rfl) Fz.r
 ·skip
  refine .offH hb20 rfl rfl rfl (.offH hb20 rfl rfl rfl (.offH hb20 rfl rfl rfl (.pickTH hb20 rfl rfl rfl ?_)))
  exact .fin 4 rfl rfl (by kernel_rfl) Fz.r
 refine .move rfl rfl (.orP (b := ((decide ((m_1.length : Int) > 20)) || (decide ((s5.length : Int) > 20)))) (b' := (decide ((c9.length : Int) > 20))) 4 39 (fun hb23 => ?_) (fun hb24 => ?_) (fun F_25 l_26 => ?_))
 ·skip
  refine .onH hb23 rfl rfl (.move rfl rfl (.onH hb23 rfl rfl (.lenS rfl rfl Tryz.underlying58 rfl (.onH hb23 rfl rfl (.gtr rfl rfl rfl (.pickFH hb23 rfl rfl rfl ?_))))))
  exact .fin 4 rfl rfl (by kernel_rfl) Fz.r
 ·skip
  refine .offH hb24 rfl rfl rfl (.offH hb24 rfl rfl rfl (.offH hb24 rfl rfl rfl (.pickTH hb24 rfl rfl rfl ?_)))
  exact .fin 4 rfl rfl (by kernel_rfl) Fz.r
 refine .move rfl rfl (.orP (b := (((decide ((m_1.length : Int) > 20)) || (decide ((s5.length : Int) > 20))) || (decide ((c9.length : Int) > 20)))) (b' := (decide ((d13.length : Int) > 20))) 4 44 (fun hb27 => ?_) (fun hb28 => ?_) (fun F_29 l_30 => ?_))
 ·skip
  refine .onH hb27 rfl rfl (.move rfl rfl (.onH hb27 rfl rfl (.lenS rfl rfl Tryz.underlying56 rfl (.onH hb27 rfl rfl (.gtr rfl rfl rfl (.pickFH hb27 rfl rfl rfl ?_))))))
  exact .fin 4 rfl rfl (by kernel_rfl) Fz.r
 ·skip
  refine .offH hb28 rfl rfl rfl (.offH hb28 rfl rfl rfl (.offH hb28 rfl rfl rfl (.pickTH hb28 rfl rfl rfl ?_)))
  exact .fin 4 rfl rfl (by kernel_rfl) Fz.r
 refine .nil (.code (.cond rfl (fun hb31 => ?_) (fun hb31 => ?_)))
 ·skip
  refine .seq (.region (.call0 rfl Tryz.call16 rfl rfl rfl (c_wormtublaw14_alive _ (hT.mono (Fz.t l_22 (Fz.t l_26 l_30)))) ?_))
  rintro r_34 F_32 _ - l_33 rfl
  refine .assign rfl rfl (.nil (.code ?_))
  exact .ret0 Tryz.results14 (.tmp rfl (.nil)) (i := 0) rfl (Fz.t l_22 (Fz.t l_26 (Fz.t l_30 l_33))) rfl
 ·skip
  refine .skip (.code (.seq (.region (.move rfl rfl (.move rfl rfl (.move rfl rfl (.move rfl rfl (.call0 rfl Tryz.call27 rfl rfl rfl (c_file_Book _ m_1 p2 k3 (h4.mono (Fz.t l_22 (Fz.t l_26 l_30))) s5 p6 k7 (h8.mono (Fz.t l_22 (Fz.t l_26 l_30))) c9 p10 k11 (h12.mono (Fz.t l_22 (Fz.t l_26 l_30))) d13 p14 k15 (h16.mono (Fz.t l_22 (Fz.t l_26 l_30)))) ?_))))))))
  rintro r_37 F_35 _ - l_36 ⟨p38, k39, rfl, h40⟩
  refine .move rfl rfl (.extract rfl rfl rfl (.extract rfl rfl rfl (.assign rfl rfl (.assign rfl rfl (.nil (.keep (.cons (k := 0) rfl (.cons (k := 1) rfl (.cons (k := 2) rfl (.cons (k := 3) rfl (.cons (k := 4) rfl (.cons (k := 5) rfl (.cons (k := 13) rfl (.cons (k := 14) rfl (.nil _))))))))) (.code (.seq (.seq (.region (.move rfl rfl ?_)))))))))))
  refine .neq rfl rfl rfl (.nil (.code (.cond rfl (fun hb41 => ?_) (fun hb41 => ?_))))
  ·skip
   refine .seq (.region (.move rfl rfl (.lenS rfl rfl Tryz.underlying22 rfl (.eql rfl rfl rfl (.move rfl rfl (.andP (b := ((r_37.1.length : Int) == 0)) (b' := (r_37.2 == 1)) 3 62 (fun hb42 => ?_) (fun hb43 => ?_) (fun F_44 l_45 => ?_)))))))
   ·skip
    refine .onH hb42 rfl rfl (.move rfl rfl (.onH hb42 rfl rfl (.eql rfl rfl rfl (.pickTH hb42 rfl rfl rfl ?_))))
    exact .fin 3 rfl rfl (by kernel_rfl) Fz.r
   ·skip
    refine .offH hb43 rfl rfl rfl (.offH hb43 rfl rfl rfl (.pickFH hb43 rfl rfl rfl ?_))
    exact .fin 3 rfl rfl (by kernel_rfl) Fz.r
   refine .move rfl rfl (.andM (b := (((r_37.1.length : Int) == 0) && (r_37.2 == 1))) 2 65 (fun hb46 z54 => ?_) (fun hb50 => ?_) (fun z53 F_51 l_52 => ?_))
   ·skip
    refine .onH hb46 rfl rfl (.call0 rfl Tryz.call16 rfl rfl rfl (c_wormtublaw14_alive _ (hT.mono (Fz.t l_22 (Fz.t l_26 (Fz.t l_30 (Fz.t l_36 l_45)))))) ?_)
    rintro r_49 F_47 _ - l_48 rfl
    refine .pickTH hb46 rfl rfl rfl ?_
    exact .finZ 2 rfl rfl (by kernel_rfl) l_48
   ·skip
    refine .offH hb50 rfl rfl rfl (.pickFH hb50 rfl rfl rfl ?_)
    exact .fin 2 rfl rfl (by kernel_rfl) Fz.r
   refine .assign rfl rfl (.nil (.code ?_))
   exact .ret0 Tryz.results14 (.tmp rfl (.nil)) (i := 0) rfl (Fz.t l_22 (Fz.t l_26 (Fz.t l_30 (Fz.t l_36 (Fz.t l_45 l_52))))) rfl
  ·skip
   refine .skip (.code (.seq (.region (.move rfl rfl (.callWO rfl Tryz.call17 rfl rfl rfl (c_file_Write_own _ (hT.mono (Fz.t l_22 (Fz.t l_26 (Fz.t l_30 l_36)))) r_37.1 p38 k39 h40) (fun r_55 F_56 p58 k59 _ l_57 => ?_))))))
   refine .move rfl rfl (.extract rfl rfl rfl (.extract rfl rfl rfl (.assign rfl rfl (.assign rfl rfl (.nil (.code (.seq (.seq (.region (.move rfl rfl (.neq rfl rfl rfl ?_)))))))))))
   refine .nil (.code (.cond rfl (fun hb61 => ?_) (fun hb61 => ?_)))
   ·skip
    refine .seq (.region (.assign rfl rfl (.nil (.code ?_))))
    exact .ret0 Tryz.results14 (.tmp rfl (.nil)) (i := 1) rfl (Fz.t l_22 (Fz.t l_26 (Fz.t l_30 (Fz.t l_36 l_57)))) rfl
   ·skip
    refine .skip (.code (.seq (.seq (.region (.move rfl rfl (.lenS rfl rfl Tryz.underlying25 rfl (.gtr rfl rfl rfl (.nil (.code (.keep (.cons (k := 0) rfl (.cons (k := 1) rfl (.cons (k := 2) rfl (.cons (k := 3) rfl (.cons (k := 4) rfl (.cons (k := 5) rfl (.cons (k := 13) rfl (.cons (k := 15) rfl (.cons (k := 75) rfl (.nil _)))))))))) ?_))))))))))
    refine GC.join0 (σ := (List Int)) (fun j72 a w => ∃ (F_73 : Fz) (p75 : Option Addr) (k76 : Nat), F_56 ≤ F_73 ∧ Hd 164 [] [(0, (.slice p2 m_1.length k3)), (1, (.slice p6 s5.length k7)), (2, (.slice p10 c9.length k11)), (3, (.slice p14 d13.length k15)), (13, (.slice p38 r_37.1.length k39)), (15, (.slice p75 j72.length k76))] F_73 [ownSl 1 (Ex (cInt .u8)) F_73 5 p75 k76 j72, R] a w) (fun sj => ?_) (fun j72 hs0 => GE.ex (fun a w ⟨F_73, p75, k76, l_74, hA⟩ => ⟨_, hA, ?_⟩))
    ·skip
     refine .cond rfl (fun hb62 => ?_) (fun hb62 => ?_)
     ·skip
      refine .region (.move rfl rfl (.move rfl rfl (.convI rfl Tryz.underlying38 Tryz.underlying3 rfl (.move rfl rfl (.lenS rfl rfl Tryz.underlying25 rfl (.rem rfl rfl rfl (fun q63 e64 => ?_)))))))
      refine .move rfl rfl (.bind (fun x65 e66 => ?_))
      refine .ownAddr 0 rfl e66 (fun b67 hp68 => ?_)
      refine .idxOwn rfl Tryz.underlying25 Tryz.sizeOf5 hp68 e66 rfl rfl (.letv (fun l_69 e70 => ?_))
      have hn71 : r_55.1.length = l_69.length := by rw [e70, List.length_set]
      refine .storeOwn0 (z' := to_18) (off := 0) (us := [(.int .u8 to_18)]) 0 rfl Tryz.sizeOf5 hp68 e66 rfl rfl rfl rfl rfl rfl rfl (fun F' vs le h => by subst h; exact (setMany_all (by rfl))) e70 (.nil (.reslot 15 rfl (v' := .slice p58 l_69.length k59) (congrArg (fun q => Value.slice p58 q k59) hn71) ?_))
      exact .nil fun e a w h => by cases e; exact ⟨rfl, ⟨F_56, p58, k59, Fz.r, h.1.sub (.cons (k := 0) rfl (.cons (k := 1) rfl (.cons (k := 2) rfl (.cons (k := 3) rfl (.cons (k := 13) rfl (.cons (k := 15) rfl (.nil _))))))), h.2⟩⟩
     ·skip
      refine .skip ?_
      exact .nil fun e a w h => by cases e; exact ⟨rfl, ⟨F_56, p58, k59, Fz.r, h.1.sub (.cons (k := 0) rfl (.cons (k := 1) rfl (.cons (k := 2) rfl (.cons (k := 3) rfl (.cons (k := 13) rfl (.cons (k := 15) rfl (.nil _))))))), h.2⟩⟩
    refine .code (.seq (.region (.move rfl rfl (.freezeSl 0 rfl Fz.r (fun F_78 l_79 h80 => ?_)))))
    refine .call0 rfl Tryz.call21 rfl rfl rfl (c_file_Repair _ (hT.mono (Fz.t l_22 (Fz.t l_26 (Fz.t l_30 (Fz.t l_36 (Fz.t l_57 (Fz.t l_74 l_79))))))) j72 p75 k76 h80) ?_
    rintro r_83 F_81 _ - l_82 ⟨p84, k85, p87, k88, rfl, h86, h89⟩
    refine .move rfl rfl (.extract rfl rfl rfl (.extract rfl rfl rfl (.extract rfl rfl rfl (.assign rfl rfl (.assign rfl rfl (.nil (.code (.seq (.region (.move rfl rfl (.call0 rfl Tryz.call19 rfl rfl rfl (c_file_Read _ (hT.mono (Fz.t l_22 (Fz.t l_26 (Fz.t l_30 (Fz.t l_36 (Fz.t l_57 (Fz.t l_74 (Fz.t l_79 l_82)))))))) r_83.1 p84 k85 h86) ?_)))))))))))
    rintro r_92 F_90 _ - l_91 ⟨p93, k94, rfl, h95⟩
    refine .move rfl rfl (.extract rfl rfl rfl (.extract rfl rfl rfl (.assign rfl rfl (.assign rfl rfl (.nil (.code (.seq (.seq (.region (.move rfl rfl (.neq rfl rfl rfl ?_)))))))))))
    refine .move rfl rfl (.orP (b := (r_83.2.2 != 0)) (b' := (r_92.2 != 0)) 3 100 (fun hb96 => ?_) (fun hb97 => ?_) (fun F_98 l_99 => ?_))
    ·skip
     refine .onH hb96 rfl rfl (.move rfl rfl (.onH hb96 rfl rfl (.neq rfl rfl rfl (.pickFH hb96 rfl rfl rfl ?_))))
     exact .fin 3 rfl rfl (by kernel_rfl) Fz.r
    ·skip
     refine .offH hb97 rfl rfl rfl (.offH hb97 rfl rfl rfl (.pickTH hb97 rfl rfl rfl ?_))
     exact .fin 3 rfl rfl (by kernel_rfl) Fz.r
    refine .move rfl rfl (.orM (b := ((r_83.2.2 != 0) || (r_92.2 != 0))) 5 106 (fun hb100 z108 => ?_) (fun hb104 => ?_) (fun z107 F_105 l_106 => ?_))
    ·skip
     refine .onH hb100 rfl rfl (.move rfl rfl (.onH hb100 rfl rfl (.move rfl rfl (.onH hb100 rfl rfl (.call0 rfl Tryz.call23 rfl rfl rfl (c_wormtubref14_Same _ r_92.1 p93 k94 (h95.mono l_99) r_37.1 p38 k39 (h40.mono (Fz.t l_57 (Fz.t l_74 (Fz.t l_79 (Fz.t l_82 (Fz.t l_91 l_99))))))) ?_)))))
     rintro r_103 F_101 _ - l_102 rfl
     refine .onH hb100 rfl rfl (.not rfl rfl (.pickFH hb100 rfl rfl rfl ?_))
     exact .finZ 5 rfl rfl (by kernel_rfl) l_102
    ·skip
     refine .offH hb104 rfl rfl rfl (.offH hb104 rfl rfl rfl (.offH hb104 rfl rfl rfl (.offH hb104 rfl rfl rfl (.pickTH hb104 rfl rfl rfl ?_))))
     exact .fin 5 rfl rfl (by kernel_rfl) Fz.r
    refine .nil (.keep (.cons (k := 0) rfl (.cons (k := 1) rfl (.cons (k := 2) rfl (.cons (k := 3) rfl (.cons (k := 17) rfl (.cons (k := 106) rfl (.nil _))))))) (.code (.cond rfl (fun hb109 => ?_) (fun hb109 => ?_))))
    ·skip
     refine .seq (.region (.assign rfl rfl (.nil (.code ?_))))
     exact .ret0 Tryz.results14 (.tmp rfl (.nil)) (i := 0) rfl (Fz.t l_22 (Fz.t l_26 (Fz.t l_30 (Fz.t l_36 (Fz.t l_57 (Fz.t l_74 (Fz.t l_79 (Fz.t l_82 (Fz.t l_91 (Fz.t l_99 l_106)))))))))) rfl
    ·skip
     refine .skip (.code (.seq (.region (.move rfl rfl (.call0 rfl Tryz.call28 rfl rfl rfl (c_file_Casks _ r_92.1 p93 k94 (h95.mono (Fz.t l_99 l_106))) ?_)))))
     rintro r_112 F_110 _ - l_111 ⟨p113, k114, rfl, h115⟩
     refine .move rfl rfl (.extract rfl rfl rfl (.extract rfl rfl rfl (.assign rfl rfl (.assign rfl rfl (.nil (.code (.seq (.region (.move rfl rfl (.call0 rfl Tryz.call29 rfl rfl rfl (c_file_Duties _ r_92.1 p93 k94 (h95.mono (Fz.t l_99 (Fz.t l_106 l_111)))) ?_))))))))))
     rintro r_118 F_116 _ - l_117 ⟨p119, k120, rfl, h121⟩
     refine .move rfl rfl (.extract rfl rfl rfl (.extract rfl rfl rfl (.assign rfl rfl (.assign rfl rfl (.nil (.code (.seq (.region (.move rfl rfl (.call0 rfl Tryz.call30 rfl rfl rfl (c_file_Steps _ r_92.1 p93 k94 (h95.mono (Fz.t l_99 (Fz.t l_106 (Fz.t l_111 l_117))))) ?_))))))))))
     rintro r_124 F_122 _ - l_123 ⟨p125, k126, rfl, h127⟩
     refine .move rfl rfl (.extract rfl rfl rfl (.extract rfl rfl rfl (.assign rfl rfl (.assign rfl rfl (.nil (.keep (.cons (k := 0) rfl (.cons (k := 1) rfl (.cons (k := 2) rfl (.cons (k := 3) rfl (.cons (k := 17) rfl (.cons (k := 19) rfl (.cons (k := 20) rfl (.cons (k := 21) rfl (.cons (k := 22) rfl (.cons (k := 23) rfl (.cons (k := 24) rfl (.nil _)))))))))))) (.code (.seq (.region (.move rfl rfl ?_))))))))))
     refine .call0 rfl Tryz.call31 rfl rfl rfl (c_file_Draws _ r_92.1 p93 k94 (h95.mono (Fz.t l_99 (Fz.t l_106 (Fz.t l_111 (Fz.t l_117 l_123)))))) ?_
     rintro r_130 F_128 _ - l_129 ⟨p131, k132, rfl, h133⟩
     refine .move rfl rfl (.extract rfl rfl rfl (.extract rfl rfl rfl (.assign rfl rfl (.assign rfl rfl (.nil (.code (.seq (.region (.move rfl rfl (.eql rfl rfl rfl (.move rfl rfl ?_)))))))))))
     refine .andP (b := (r_112.2 == 0)) (b' := (r_118.2 == 0)) 3 132 (fun hb134 => ?_) (fun hb135 => ?_) (fun F_136 l_137 => ?_)
     ·skip
      refine .onH hb134 rfl rfl (.move rfl rfl (.onH hb134 rfl rfl (.eql rfl rfl rfl (.pickTH hb134 rfl rfl rfl ?_))))
      exact .fin 3 rfl rfl (by kernel_rfl) Fz.r
     ·skip
      refine .offH hb135 rfl rfl rfl (.offH hb135 rfl rfl rfl (.pickFH hb135 rfl rfl rfl ?_))
      exact .fin 3 rfl rfl (by kernel_rfl) Fz.r
     refine .move rfl rfl (.andP (b := ((r_112.2 == 0) && (r_118.2 == 0))) (b' := (r_124.2 == 0)) 3 136 (fun hb138 => ?_) (fun hb139 => ?_) (fun F_140 l_141 => ?_))
     ·skip
      refine .onH hb138 rfl rfl (.move rfl rfl (.onH hb138 rfl rfl (.eql rfl rfl rfl (.pickTH hb138 rfl rfl rfl ?_))))
      exact .fin 3 rfl rfl (by kernel_rfl) Fz.r
     ·skip
      refine .offH hb139 rfl rfl rfl (.offH hb139 rfl rfl rfl (.pickFH hb139 rfl rfl rfl ?_))
      exact .fin 3 rfl rfl (by kernel_rfl) Fz.r
     refine .move rfl rfl (.andP (b := (((r_112.2 == 0) && (r_118.2 == 0)) && (r_124.2 == 0))) (b' := (r_130.2 == 0)) 3 140 (fun hb142 => ?_) (fun hb143 => ?_) (fun F_144 l_145 => ?_))
     ·skip
      refine .onH hb142 rfl rfl (.move rfl rfl (.onH hb142 rfl rfl (.eql rfl rfl rfl (.pickTH hb142 rfl rfl rfl ?_))))
      exact .fin 3 rfl rfl (by kernel_rfl) Fz.r
     ·skip
      refine .offH hb143 rfl rfl rfl (.offH hb143 rfl rfl rfl (.pickFH hb143 rfl rfl rfl ?_))
      exact .fin 3 rfl rfl (by kernel_rfl) Fz.r
     refine .move rfl rfl (.andM (b := ((((r_112.2 == 0) && (r_118.2 == 0)) && (r_124.2 == 0)) && (r_130.2 == 0))) 4 145 (fun hb146 z154 => ?_) (fun hb150 => ?_) (fun z153 F_151 l_152 => ?_))
     ·skip
      refine .onH hb146 rfl rfl (.move rfl rfl (.onH hb146 rfl rfl (.move rfl rfl (.onH hb146 rfl rfl ?_))))
      refine .call0 rfl Tryz.call37 rfl rfl rfl (c_wormtublaw14_same_CaskEvent _ r_112.1 p113 k114 (h115.mono (Fz.t l_117 (Fz.t l_123 (Fz.t l_129 (Fz.t l_137 (Fz.t l_141 l_145)))))) c9 p10 k11 (h12.mono (Fz.t l_22 (Fz.t l_26 (Fz.t l_30 (Fz.t l_36 (Fz.t l_57 (Fz.t l_74 (Fz.t l_79 (Fz.t l_82 (Fz.t l_91 (Fz.t l_99 (Fz.t l_106 (Fz.t l_111 (Fz.t l_117 (Fz.t l_123 (Fz.t l_129 (Fz.t l_137 (Fz.t l_141 l_145))))))))))))))))))) ?_
      rintro r_149 F_147 _ - l_148 rfl
      refine .pickTH hb146 rfl rfl rfl ?_
      exact .finZ 4 rfl rfl (by kernel_rfl) l_148
     ·skip
      refine .offH hb150 rfl rfl rfl (.offH hb150 rfl rfl rfl (.offH hb150 rfl rfl rfl (.pickFH hb150 rfl rfl rfl ?_)))
      exact .fin 4 rfl rfl (by kernel_rfl) Fz.r
     refine .move rfl rfl (.andM (b := z153) 4 150 (fun hb155 z163 => ?_) (fun hb159 => ?_) (fun z162 F_160 l_161 => ?_))
     ·skip
      refine .onH hb155 rfl rfl (.move rfl rfl (.onH hb155 rfl rfl (.move rfl rfl (.onH hb155 rfl rfl ?_))))
      refine .call0 rfl Tryz.call38 rfl rfl rfl (c_wormtublaw14_same_DutyEvent _ r_118.1 p119 k120 (h121.mono (Fz.t l_123 (Fz.t l_129 (Fz.t l_137 (Fz.t l_141 (Fz.t l_145 l_152)))))) d13 p14 k15 (h16.mono (Fz.t l_22 (Fz.t l_26 (Fz.t l_30 (Fz.t l_36 (Fz.t l_57 (Fz.t l_74 (Fz.t l_79 (Fz.t l_82 (Fz.t l_91 (Fz.t l_99 (Fz.t l_106 (Fz.t l_111 (Fz.t l_117 (Fz.t l_123 (Fz.t l_129 (Fz.t l_137 (Fz.t l_141 (Fz.t l_145 l_152)))))))))))))))))))) ?_
      rintro r_158 F_156 _ - l_157 rfl
      refine .pickTH hb155 rfl rfl rfl ?_
      exact .finZ 4 rfl rfl (by kernel_rfl) l_157
     ·skip
      refine .offH hb159 rfl rfl rfl (.offH hb159 rfl rfl rfl (.offH hb159 rfl rfl rfl (.pickFH hb159 rfl rfl rfl ?_)))
      exact .fin 4 rfl rfl (by kernel_rfl) Fz.r
     refine .move rfl rfl (.andM (b := z162) 4 155 (fun hb164 z172 => ?_) (fun hb168 => ?_) (fun z171 F_169 l_170 => ?_))
     ·skip
      refine .onH hb164 rfl rfl (.move rfl rfl (.onH hb164 rfl rfl (.move rfl rfl (.onH hb164 rfl rfl ?_))))
      refine .call0 rfl Tryz.call39 rfl rfl rfl (c_wormtublaw14_same_MaltStep _ r_124.1 p125 k126 (h127.mono (Fz.t l_129 (Fz.t l_137 (Fz.t l_141 (Fz.t l_145 (Fz.t l_152 l_161)))))) m_1 p2 k3 (h4.mono (Fz.t l_22 (Fz.t l_26 (Fz.t l_30 (Fz.t l_36 (Fz.t l_57 (Fz.t l_74 (Fz.t l_79 (Fz.t l_82 (Fz.t l_91 (Fz.t l_99 (Fz.t l_106 (Fz.t l_111 (Fz.t l_117 (Fz.t l_123 (Fz.t l_129 (Fz.t l_137 (Fz.t l_141 (Fz.t l_145 (Fz.t l_152 l_161))))))))))))))))))))) ?_
      rintro r_167 F_165 _ - l_166 rfl
      refine .pickTH hb164 rfl rfl rfl ?_
      exact .finZ 4 rfl rfl (by kernel_rfl) l_166
     ·skip
      refine .offH hb168 rfl rfl rfl (.offH hb168 rfl rfl rfl (.offH hb168 rfl rfl rfl (.pickFH hb168 rfl rfl rfl ?_)))
      exact .fin 4 rfl rfl (by kernel_rfl) Fz.r
     refine .move rfl rfl (.andM (b := z171) 4 160 (fun hb173 z181 => ?_) (fun hb177 => ?_) (fun z180 F_178 l_179 => ?_))
     ·skip
      refine .onH hb173 rfl rfl (.move rfl rfl (.onH hb173 rfl rfl (.move rfl rfl (.onH hb173 rfl rfl ?_))))
      refine .call0 rfl Tryz.call40 rfl rfl rfl (c_wormtublaw14_same_Drawn _ r_130.1 p131 k132 (h133.mono (Fz.t l_137 (Fz.t l_141 (Fz.t l_145 (Fz.t l_152 (Fz.t l_161 l_170)))))) s5 p6 k7 (h8.mono (Fz.t l_22 (Fz.t l_26 (Fz.t l_30 (Fz.t l_36 (Fz.t l_57 (Fz.t l_74 (Fz.t l_79 (Fz.t l_82 (Fz.t l_91 (Fz.t l_99 (Fz.t l_106 (Fz.t l_111 (Fz.t l_117 (Fz.t l_123 (Fz.t l_129 (Fz.t l_137 (Fz.t l_141 (Fz.t l_145 (Fz.t l_152 (Fz.t l_161 l_170)))))))))))))))))))))) ?_
      rintro r_176 F_174 _ - l_175 rfl
      refine .pickTH hb173 rfl rfl rfl ?_
      exact .finZ 4 rfl rfl (by kernel_rfl) l_175
     ·skip
      refine .offH hb177 rfl rfl rfl (.offH hb177 rfl rfl rfl (.offH hb177 rfl rfl rfl (.pickFH hb177 rfl rfl rfl ?_)))
      exact .fin 4 rfl rfl (by kernel_rfl) Fz.r
     refine .move rfl rfl (.andM (b := z180) 2 163 (fun hb182 z190 => ?_) (fun hb186 => ?_) (fun z189 F_187 l_188 => ?_))
     ·skip
      refine .onH hb182 rfl rfl (.call0 rfl Tryz.call16 rfl rfl rfl (c_wormtublaw14_alive _ (hT.mono (Fz.t l_22 (Fz.t l_26 (Fz.t l_30 (Fz.t l_36 (Fz.t l_57 (Fz.t l_74 (Fz.t l_79 (Fz.t l_82 (Fz.t l_91 (Fz.t l_99 (Fz.t l_106 (Fz.t l_111 (Fz.t l_117 (Fz.t l_123 (Fz.t l_129 (Fz.t l_137 (Fz.t l_141 (Fz.t l_145 (Fz.t l_152 (Fz.t l_161 (Fz.t l_170 l_179))))))))))))))))))))))) ?_)
      rintro r_185 F_183 _ - l_184 rfl
      refine .pickTH hb182 rfl rfl rfl ?_
      exact .finZ 2 rfl rfl (by kernel_rfl) l_184
     ·skip
      refine .offH hb186 rfl rfl rfl (.pickFH hb186 rfl rfl rfl ?_)
      exact .fin 2 rfl rfl (by kernel_rfl) Fz.r
     refine .assign rfl rfl (.nil (.keep (.cons (k := 12) rfl (.nil _)) (.code ?_)))
     exact .ret0 Tryz.results14 (.tmp rfl (.nil)) (i := 0) rfl (Fz.t l_22 (Fz.t l_26 (Fz.t l_30 (Fz.t l_36 (Fz.t l_57 (Fz.t l_74 (Fz.t l_79 (Fz.t l_82 (Fz.t l_91 (Fz.t l_99 (Fz.t l_106 (Fz.t l_111 (Fz.t l_117 (Fz.t l_123 (Fz.t l_129 (Fz.t l_137 (Fz.t l_141 (Fz.t l_145 (Fz.t l_152 (Fz.t l_161 (Fz.t l_170 (Fz.t l_179 l_188)))))))))))))))))))))) rfl
end Go.Proofs.YthnlglmjffdpfaaGreatDoor
end

section
namespace Go.Proofs.YthnlglmjffdpfaaGreatDoor
open Go.Dec Go.Shelf Go.RowKit Go.Maps Go.Sort
theorem arr_of_list {α : Type} {a : Array α} {l : List α} (h : a.toList = l) : a = l.toArray := by rw [← h]
theorem gErrS : Tryz.prog.globalNamed "strconv.ErrSyntax" = some 1 := by kernel_rfl
theorem gErrR : Tryz.prog.globalNamed "strconv.ErrRange" = some 2 := by kernel_rfl
theorem gPow : Tryz.prog.globalNamed "internal/strconv.uint64pow10" = some 3 := by kernel_rfl
theorem tErrS : (Tryz.prog.globals[1]?).map (·.type) = some 120 := by kernel_rfl
theorem tErrR : (Tryz.prog.globals[2]?).map (·.type) = some 120 := by kernel_rfl
theorem tPow : (Tryz.prog.globals[3]?).map (·.type) = some 196 := by kernel_rfl
theorem err_of {W : World} {ps : List MemPlace} {l : List (String × DataW Unit)} (hl : DataW.LaidVars Tryz.prog W l ps) (j g0 : Nat) {n : String} {nm : String} {d : DataW Unit} (hj : l[j]? = some (n, .iface nm d)) (hg0 : Tryz.prog.globalNamed n = some g0) (ht0 : (Tryz.prog.globals[g0]?).map (·.type) = some 120) :
    ∃ ev T fr, (FW W).mem g0 = some (.cells #[ev] T fr) ∧ (ev = .nilIface ∨ ∃ te pe, ev = .iface te pe) := by
  obtain ⟨g, t, cs, fuel, p, T, fr, hg, ht, hh, hd⟩ := laid_at j hj hl
  obtain rfl := Option.some.inj (hg0.symm.trans hg)
  obtain rfl := Option.some.inj (ht0.symm.trans ht)
  obtain ⟨u, v, hc⟩ := Go.Dec.iface_cells Tryz.underlying120 hd
  exact ⟨_, T, fr, by rw [show (FW W).mem g0 = W.heap[g0]? from rfl, hh, arr_of_list hc], .inr ⟨u, v, rfl⟩⟩
theorem cells143 : Tryz.prog.cellsOf 143 = 1 := by kernel_rfl
theorem cells196 : Tryz.prog.cellsOf 196 = 20 := by kernel_rfl
theorem pow_data : (Rows.laid_internal_strconv_uint64pow10 : DataW Unit) = Go.Lib.tabData .u64 Go.Lib.pow10Tab := by kernel_rfl
theorem maxLen0 : ((begin Tryz.prog (fun _ _ => 0) default).world.heap[0]?).bind Obj.row? = some (#[.int .i64 0], 3) := by kernel_rfl
theorem laid_plain {W : World} (h : laidMetH Tryz.prog Rows.fileWritesRow.laid W) : laidMet Tryz.prog Rows.fileWritesRow.laid W := by
  rwa [MakeChecks.laidMetH_plain _ _ _ (by kernel_rfl)] at h
set_option maxRecDepth 100000 in
theorem tabs_of {W : World} (h : laidMetH Tryz.prog Rows.fileWritesRow.laid W) (hsh : W.ShapedOpen Tryz.prog) : TabsP (FW W) := by
  obtain ⟨ps, hl, _, _⟩ := laid_plain h
  refine ⟨?_, ?_, ?_, ?_⟩
  · obtain ⟨g, t, cs, fuel, p, T, fr, hg, ht, hh, hd⟩ := laid_at 2 rfl hl
    obtain rfl := Option.some.inj (gPow.symm.trans hg)
    obtain rfl := Option.some.inj (tPow.symm.trans ht)
    have hc := Go.Lib.cells_of_tab Tryz.underlying196 Tryz.underlying143 cells143 cells196 (by rw [← pow_data]; exact hd)
    exact ⟨3, T, fr, gPow, by rw [show (FW W).mem 3 = W.heap[3]? from rfl, hh, arr_of_list hc]; rfl⟩
  · obtain ⟨m, hm⟩ := Go.Proofs.cell_of_shapedOpen_int (P := Tryz.prog) (g := 0) (t := 3) (zero := #[.int .i64 0]) hsh (of_decide_eq_true (by kernel_rfl)) maxLen0 rfl (by kernel_rfl) (by kernel_rfl) Tryz.underlying3
    obtain ⟨T, fr, hb⟩ := int_cell_block hsh (of_decide_eq_true (by kernel_rfl)) maxLen0 rfl hm
    exact ⟨m, T, fr, hb⟩
  · exact err_of hl 5 1 rfl gErrS tErrS
  · exact err_of hl 4 2 rfl gErrR tErrR
end Go.Proofs.YthnlglmjffdpfaaGreatDoor
end

section
namespace Go.Proofs.YthnlglmjffdpfaaGreatDoor
open Go.Dec
open Go.ChangeShapes Go.WideShapes Go.ChangeAt Go.RowKit
def LawFileEvents : Prop := ∀ (a0 : (List ApiMaltStep)) (a1 : (List ApiDrawn)) (a2 : (List ApiCaskEvent)) (a3 : (List ApiDutyEvent)) (a4 : Int) (a5 : Int), (∀ y ∈ a0, okApiMaltStep y) → (∀ y ∈ a1, okApiDrawn y) → (∀ y ∈ a2, okApiCaskEvent y) → (∀ y ∈ a3, okApiDutyEvent y) → (Lit.int .u16 a4).wf = true → (Lit.int .u8 a5).wf = true → m_wormtublaw14_FileEvents a0 a1 a2 a3 a4 a5 = some true
set_option maxRecDepth 100000 in
theorem lifted_FileEvents (law : LawFileEvents) (os : Os) (started : os.Started) (H : Type) (enc : TypeId × Value → H) :
  ReturnsInHanded {} Tryz.checked os 14 .any (fun w args => (Rows.fileEventsSpec.pre enc Tryz.prog Tryz.f14 Rows.fileEventsRow.domain false w args ∧ laidMetH Tryz.prog Rows.fileEventsRow.laid w) ∧ sizedMet enc Tryz.prog Tryz.f14 (OpenSpec.ofChange Rows.fileEventsSpec) false w args) (Rows.fileEventsSpec.post enc Tryz.prog Tryz.f14 false true false false) := by
 refine lift_tied (C := Tryz.checked) (X := fun w => laidMetH Tryz.prog Rows.fileEventsRow.laid w) (fun _ _ hh h => h.of_heap hh) Tryz.own started (by kernel_rfl) Tryz.func14
  (ChangeSpec.witness_shaped (enc := enc) (C := Tryz.checked) (os := os) (X := fun w _ => laidMetH Tryz.prog Rows.fileEventsRow.laid w) false (World.laidAll Tryz.prog os Rows.fileEventsRow.laid) #[.slice none 0 0, .slice none 0 0, .slice none 0 0, .slice none 0 0, .int .u16 0, .int .u8 0] 12 (World.laidAll_os _ _ _) (World.shaped_of_ZipB (by kernel_rfl) (by kernel_rfl)) (by kernel_rfl) (by kernel_rfl) (by kernel_rfl)
   (by rw [MakeChecks.laidMetH_plain _ _ _ (by kernel_rfl)]; exact laidMet_laidAll _ (by kernel_rfl) (by kernel_rfl))) ?_
 intro W base args ds gs before hval hW hsh hL
 have hT : TabsP (FW W) := tabs_of hL hsh
 refine law_contractW (P := Tryz.prog) Tryz.laidOut (by kernel_rfl) rfl (by kernel_rfl : Tryz.f14.resultTypes = #[4]) Tryz.underlying4 (fun ds h => ?_) (fun base args ds ps hval hA => ?_) base args ds gs before hval hW
 ·match ds, h with
  | [d0, d1, d2, d3, d4, d5], _ => rfl
 ·rw [Tryz.params14] at hA hval
  obtain ⟨v0, l0, _, _, _, _, e0, _, _, t0, hA⟩ := trodAll_cons hA
  obtain ⟨v1, l1, _, _, _, _, e1, _, _, t1, hA⟩ := trodAll_cons hA
  obtain ⟨v2, l2, _, _, _, _, e2, _, _, t2, hA⟩ := trodAll_cons hA
  obtain ⟨v3, l3, _, _, _, _, e3, _, _, t3, hA⟩ := trodAll_cons hA
  obtain ⟨v4, l4, _, _, _, _, e4, _, _, t4, hA⟩ := trodAll_cons hA
  obtain ⟨v5, l5, _, _, _, _, e5, _, _, t5, hA⟩ := trodAll_cons hA
  obtain ⟨e6, _, _⟩ := trodAll_nil hA
  subst e6 e5 e4 e3 e2 e1
  obtain rfl : args = [v0, v1, v2, v3, v4, v5].toArray := by rw [← e0]
  obtain ⟨m0, p0, k0, o0, rfl, h0⟩ := argSlice Tryz.underlying50 vt50 (hval 0 _ _ rfl rfl) t0
  obtain ⟨m1, p1, k1, o1, rfl, h1⟩ := argSlice Tryz.underlying55 vt55 (hval 1 _ _ rfl rfl) t1
  obtain ⟨m2, p2, k2, o2, rfl, h2⟩ := argSlice Tryz.underlying58 vt58 (hval 2 _ _ rfl rfl) t2
  obtain ⟨m3, p3, k3, o3, rfl, h3⟩ := argSlice Tryz.underlying56 vt56 (hval 3 _ _ rfl rfl) t3
  obtain ⟨m4, o4, rfl⟩ := argInt Tryz.underlying38 (hval 4 _ _ rfl rfl) t4
  obtain ⟨m5, o5, rfl⟩ := argInt Tryz.underlying5 (hval 5 _ _ rfl rfl) t5
  have hl := law m0 m1 m2 m3 m4 m5 o0 o1 o2 o3 o4 o5
  have hc := c_wormtublaw14_FileEvents (FW W) hT m0 p0 k0 h0 m1 p1 k1 h1 m2 p2 k2 h2 m3 p3 k3 h3 m4 m5
  rw [hl] at hc
  exact hc
theorem said_FileEvents (law : LawFileEvents) : Rows.FileEventsSaid :=
 OpenClaim.holds_of_wide 14 Tryz.f14 rfl rfl rfl rfl rfl rfl rfl ⟨rfl, rfl, rfl, rfl, rfl⟩ rfl rfl rfl rfl rfl (by kernel_rfl) Tryz.func14 (by kernel_rfl)
  (of_decide_eq_true (by kernel_rfl)) (by unfold Func.isWrapper; first | (rw [if_pos (by decide +kernel)]; kernel_rfl) | (rw [if_neg (by decide +kernel)]; exact ⟨rfl, rfl⟩))
  (fun os started H enc _ => lifted_FileEvents law os started H enc)
theorem card_FileEvents (law : LawFileEvents) : Rows.FileEventsCardSaid :=
 Claim7.holds_tied_plain_at .later [] [.data, .data, .data, .data, .sentinel, .sentinel, .pinned] true (true, "3bd84bf44a97e49b979e061ef005845ecf1aa6bc424530e46bde597d8668a3f8") true (said_FileEvents law) (fun _ h => by cases h) (by kernel_rfl) (fun _ h => by cases h) fileEvents_row_tie rfl ⟨rfl, rfl⟩ (by kernel_rfl) rfl
  (fun f fn hf hfn => by
   obtain rfl : f = 14 := Option.some.inj ((show Tryz.prog.funcNamed "wormtub/wormtublaw14.FileEvents" = some 14 by kernel_rfl).symm.trans hf) |>.symm
   obtain rfl : fn = Tryz.f14 := (Option.some.inj (Tryz.func14.symm.trans hfn)).symm
   exact ⟨by kernel_rfl, fun j t ht => by
    have hall : (Tryz.f14.params.toList.all fun u => !Tryz.prog.wantsStandIn u) = true := by kernel_rfl
    have hm := Array.mem_of_getElem? ht
    exact (show Tryz.prog.wantsStandIn t = false by first | (simp at hm; done) | simpa using List.all_eq_true.1 hall t (by simpa using hm))⟩)
  (by kernel_rfl)
end Go.Proofs.YthnlglmjffdpfaaGreatDoor
end

section
namespace Go.Proofs.YthnlglmjffdpfaaGreatDoor
open Go.Dec
theorem same_all {α : Type} {body : Int → Option (Ctl Int (Unit ⊕ Bool))} (l : List α) (hs : ∀ (i : Nat) (x : α), i ≤ 1000000 → l[i]? = some x → body (i : Int) = some (.next (((i + 1 : Nat) : Int)))) (he : body (l.length : Int) = some (.done (.inl ()))) (hl : l.length ≤ 1000000) : loopM body 0 = some (.inl ()) := by
  have h := loop_chk (body := body) (good := (.inl () : Unit ⊕ Bool)) (fun _ => .inr false) (fun _ => true) l.length (fun i hi => hs i l[i] (by omega) (List.getElem?_eq_getElem hi)) he
  rcases h with ⟨_, h2⟩ | ⟨k, h1, h2, h3, h4⟩
  · exact h2
  · cases h2
theorem sameM (l : List ApiMaltStep) (hl : l.length ≤ 1000000) : m_wormtublaw14_same_MaltStep l l = some true := by
  unfold m_wormtublaw14_same_MaltStep
  rw [if_neg (by simp)]
  refine bind_of (same_all l (fun i x hi hx => ?_) ?_ hl) rfl
  · have := lt_get hx
    unfold b_wormtublaw14_same_MaltStep_1
    rw [if_pos (by simp; omega)]
    simp only [idxL_nat, hx, Option.bind_some, nx (show i ≤ 1000000000 by omega)]
    rw [if_neg (by simp [eq_49])]
  · unfold b_wormtublaw14_same_MaltStep_1; rw [if_neg (by simp)]
theorem sameS (l : List ApiDrawn) (hl : l.length ≤ 1000000) : m_wormtublaw14_same_Drawn l l = some true := by
  unfold m_wormtublaw14_same_Drawn
  rw [if_neg (by simp)]
  refine bind_of (same_all l (fun i x hi hx => ?_) ?_ hl) rfl
  · have := lt_get hx
    unfold b_wormtublaw14_same_Drawn_1
    rw [if_pos (by simp; omega)]
    simp only [idxL_nat, hx, Option.bind_some, nx (show i ≤ 1000000000 by omega)]
    rw [if_neg (by simp [eq_54, eq_52])]
  · unfold b_wormtublaw14_same_Drawn_1; rw [if_neg (by simp)]
theorem sameC (l : List ApiCaskEvent) (hl : l.length ≤ 1000000) : m_wormtublaw14_same_CaskEvent l l = some true := by
  unfold m_wormtublaw14_same_CaskEvent
  rw [if_neg (by simp)]
  refine bind_of (same_all l (fun i x hi hx => ?_) ?_ hl) rfl
  · have := lt_get hx
    unfold b_wormtublaw14_same_CaskEvent_1
    rw [if_pos (by simp; omega)]
    simp only [idxL_nat, hx, Option.bind_some, nx (show i ≤ 1000000000 by omega)]
    rw [if_neg (by simp [eq_69])]
  · unfold b_wormtublaw14_same_CaskEvent_1; rw [if_neg (by simp)]
theorem sameD (l : List ApiDutyEvent) (hl : l.length ≤ 1000000) : m_wormtublaw14_same_DutyEvent l l = some true := by
  unfold m_wormtublaw14_same_DutyEvent
  rw [if_neg (by simp)]
  refine bind_of (same_all l (fun i x hi hx => ?_) ?_ hl) rfl
  · have := lt_get hx
    unfold b_wormtublaw14_same_DutyEvent_1
    rw [if_pos (by simp; omega)]
    simp only [idxL_nat, hx, Option.bind_some, nx (show i ≤ 1000000000 by omega)]
    rw [if_neg (by simp [eq_72])]
  · unfold b_wormtublaw14_same_DutyEvent_1; rw [if_neg (by simp)]
theorem pick_yes {α : Type} {l : List α} {b : α → ApiBooked} {k : Int} (h : ∀ x, (b x).Kind = k) : (l.map b).filter (fun x => decide (x.Kind = k)) = l.map b := by
  rw [List.filter_eq_self]
  intro y hy
  obtain ⟨x, _, rfl⟩ := List.mem_map.1 hy
  simpa using h x
theorem pick_no {α : Type} {l : List α} {b : α → ApiBooked} {k : Int} (h : ∀ x, (b x).Kind ≠ k) : (l.map b).filter (fun x => decide (x.Kind = k)) = [] := by
  rw [List.filter_eq_nil_iff]
  intro y hy
  obtain ⟨x, _, rfl⟩ := List.mem_map.1 hy
  simpa using h x
theorem map_back {α : Type} {l : List α} {b : α → ApiBooked} {f : List Int → α} (h : ∀ x, f (b x).N = x) : (l.map b).map (fun x => f x.N) = l := by
  rw [List.map_map]
  conv => rhs; rw [← List.map_id l]
  exact List.map_congr_left fun x _ => h x
section
variable {m : List ApiMaltStep} {s : List ApiDrawn} {c : List ApiCaskEvent} {d : List ApiDutyEvent}
theorem pickM (hb : okBook (bookL m s c d) = true) : pickS (bookL m s c d) 0 fM = (m, 0) := by
  unfold pickS; rw [if_pos hb]; unfold bookL
  rw [List.filter_append, List.filter_append, List.filter_append, pick_yes (b := bM) (k := 0) (fun _ => rfl), pick_no (b := bS) (k := 0) (fun _ => show (1 : Int) ≠ 0 by decide), pick_no (b := bC) (k := 0) (fun _ => show (2 : Int) ≠ 0 by decide), pick_no (b := bD) (k := 0) (fun _ => show (3 : Int) ≠ 0 by decide)]
  simp only [List.append_nil]
  rw [map_back (b := bM) (fun _ => rfl)]
theorem pickD (hb : okBook (bookL m s c d) = true) : pickS (bookL m s c d) 1 fS = (s, 0) := by
  unfold pickS; rw [if_pos hb]; unfold bookL
  rw [List.filter_append, List.filter_append, List.filter_append, pick_no (b := bM) (k := 1) (fun _ => show (0 : Int) ≠ 1 by decide), pick_yes (b := bS) (k := 1) (fun _ => rfl), pick_no (b := bC) (k := 1) (fun _ => show (2 : Int) ≠ 1 by decide), pick_no (b := bD) (k := 1) (fun _ => show (3 : Int) ≠ 1 by decide)]
  simp only [List.append_nil, List.nil_append]
  rw [map_back (b := bS) (fun _ => rfl)]
theorem pickC (hb : okBook (bookL m s c d) = true) : pickS (bookL m s c d) 2 fC = (c, 0) := by
  unfold pickS; rw [if_pos hb]; unfold bookL
  rw [List.filter_append, List.filter_append, List.filter_append, pick_no (b := bM) (k := 2) (fun _ => show (0 : Int) ≠ 2 by decide), pick_no (b := bS) (k := 2) (fun _ => show (1 : Int) ≠ 2 by decide), pick_yes (b := bC) (k := 2) (fun _ => rfl), pick_no (b := bD) (k := 2) (fun _ => show (3 : Int) ≠ 2 by decide)]
  simp only [List.append_nil, List.nil_append]
  rw [map_back (b := bC) (fun _ => rfl)]
theorem pickU (hb : okBook (bookL m s c d) = true) : pickS (bookL m s c d) 3 fD = (d, 0) := by
  unfold pickS; rw [if_pos hb]; unfold bookL
  rw [List.filter_append, List.filter_append, List.filter_append, pick_no (b := bM) (k := 3) (fun _ => show (0 : Int) ≠ 3 by decide), pick_no (b := bS) (k := 3) (fun _ => show (1 : Int) ≠ 3 by decide), pick_no (b := bC) (k := 3) (fun _ => show (2 : Int) ≠ 3 by decide), pick_yes (b := bD) (k := 3) (fun _ => rfl)]
  simp only [List.nil_append]
  rw [map_back (b := bD) (fun _ => rfl)]
end
theorem set_same {s : Bytes} {i : Nat} : s.set i (s.getD i 0) = s := by
  apply ext_getD (0 : UInt8) (by rw [List.length_set])
  intro j hj
  rw [getD_set]
  split
  · rename_i h; rw [h.1]
  · rfl
theorem law_FileEvents : LawFileEvents := by
  intro m s c d at' tt _ _ _ _ hw1 hw2
  unfold m_wormtublaw14_FileEvents
  by_cases hg : m.length ≤ 20 ∧ s.length ≤ 20 ∧ c.length ≤ 20 ∧ d.length ≤ 20
  · obtain ⟨g1, g2, g3, g4⟩ := hg
    rw [if_neg (by simp; omega)]
    refine bind_of (Book_prog m s c d (by omega) (by omega) (by omega) (by omega)) ?_
    by_cases hb : okBook (bookL m s c d) = true
    · have hB : bookP m s c d = (bookL m s c d, 0) := by unfold bookP; rw [if_neg (by omega), if_pos hb]
      rw [hB]
      refine (if_neg (by simp)).trans ?_
      refine bind_of (Write_ok hb) ?_
      refine (if_neg (by simp)).trans ?_
      have hlen := flat_len hb
      have hbl : (bookL m s c d).length ≤ 80 := by simp [bookL]; omega
      have t1 := @one_byte _ hb
      have hrd := read_write hb
      have hrs := repair_self hb
      have p0 := Steps_prog (bookL m s c d)
      have p1 := Draws_prog (bookL m s c d)
      have p2 := Casks_prog (bookL m s c d)
      have p3 := Duties_prog (bookL m s c d)
      rw [pickM hb] at p0
      rw [pickD hb] at p1
      rw [pickC hb] at p2
      rw [pickU hb] at p3
      have hsame := Same_ok hb
      have hA2 : (writeS (bookL m s c d)).flatten.length ≤ 100000 := by rw [hlen]; omega
      generalize bookL m s c d = l at *
      generalize hA : (writeS l).flatten = A at *
      have hj : ∃ C named, (if (decide (((i8s A).length : Int) > 0)) then ((remK (w64 at') ((i8s A).length : Int)).bind fun q63 => (idxL (i8s A) q63).bind fun x65 => bindv (List.set (i8s A) (q63).toNat (tt)) fun l_69 => some l_69) else (some (i8s A)) : Option ((List Int))) = some (i8s C) ∧ C.length = A.length ∧ repairP C = (A, named, 0) := by
        by_cases h0 : 0 < A.length
        · obtain ⟨b0, b1⟩ := wf_u16 hw1
          obtain ⟨c0, c1⟩ := wf_u8 hw2
          obtain ⟨a, rfl⟩ := Int.eq_ofNat_of_zero_le b0
          obtain ⟨v, rfl⟩ : ∃ v : UInt8, tt = (v.toNat : Int) := ⟨UInt8.ofNat tt.toNat, by rw [u8_nat (by omega)]; omega⟩
          rw [if_pos (by rw [i8s_len]; simp; omega)]
          have hq : remK (w64 (a : Int)) ((i8s A).length : Int) = some ((a % A.length : Nat) : Int) := by
            rw [i8s_len, w64_id (n := (a : Int)) (by omega) (by omega)]
            unfold remK
            rw [if_neg (by omega), Int.tmod_eq_emod_of_nonneg (by omega)]; rfl
          have hi : a % A.length < A.length := Nat.mod_lt _ (by omega)
          generalize a % A.length = i at hq hi
          by_cases e : v = A.getD i 0
          · refine ⟨A, [], ?_, rfl, hrs⟩
            refine bind_of hq (bind_of (i8s_idx hi) ?_)
            unfold bindv
            rw [Int.toNat_natCast, i8s_set, e, set_same]
          · refine ⟨A.set i v, _, ?_, by rw [List.length_set], (t1 hi e).2⟩
            refine bind_of hq (bind_of (i8s_idx hi) ?_)
            unfold bindv
            rw [Int.toNat_natCast, i8s_set]
        · refine ⟨A, [], ?_, rfl, hrs⟩
          rw [if_neg (by rw [i8s_len, decide_eq_true_eq]; omega)]
      obtain ⟨C, named, h1, h2, h3⟩ := hj
      refine bind_of h1 ?_
      refine bind_of (by rw [Repair_prog C (by omega), h3]) ?_
      refine bind_of (by rw [Read_prog A (by omega), hrd]) ?_
      refine bind_of (show _ = some false from ?_) ?_
      · rw [if_neg (by simp)]
        exact bind_of hsame rfl
      · rw [if_neg (by decide)]
        refine bind_of p2 (bind_of p3 (bind_of p0 (bind_of p1 ?_)))
        refine bind_of (show _ = some true from ?_) (bind_of (show _ = some true from ?_) (bind_of (show _ = some true from ?_) (bind_of (show _ = some true from ?_) ?_)))
        · rw [if_pos (by simp)]; exact bind_of (sameC c (by omega)) rfl
        · rw [if_pos rfl]; exact bind_of (sameD d (by omega)) rfl
        · rw [if_pos rfl]; exact bind_of (sameM m (by omega)) rfl
        · rw [if_pos rfl]; exact bind_of (sameS s (by omega)) rfl
        · rw [if_pos rfl, alive_true]; rfl
    · have hB : bookP m s c d = ([], 1) := by unfold bookP; rw [if_neg (by omega), if_neg hb]
      rw [hB]
      refine (if_pos (by simp)).trans ?_
      rw [alive_true]; rfl
  · rw [if_pos (by
      simp only [Bool.or_eq_true, decide_eq_true_eq]
      omega), alive_true]; rfl
theorem fileEvents_holds : Rows.FileEventsCardSaid := card_FileEvents law_FileEvents
end Go.Proofs.YthnlglmjffdpfaaGreatDoor
end
