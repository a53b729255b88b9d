/- Own texts and texts printed by a program of mine, for fileGroups_holds; only what it reaches. -/
import Derived.Test.YthnlglmjffdpfaaGreatDoorPg5
import Derived.Test.YthnlglmjffdpfaaGreatDoorRows
import Derived.Test.YthnlglmjffdpfaaGreatDoorTie
import Derived.Test.YthnlglmjffdpfaaGreatDoorCards
section
namespace Go.Proofs.YthnlglmjffdpfaaGreatDoor
open Go.Dec Go.Shelf Go.RowKit Go.Maps Go.Sort
def m_wormtubref14_letters  : (List UInt8) :=
 ([77, 83, 67, 68] : List UInt8)
set_option maxRecDepth 100000 in
set_option maxHeartbeats 4000000 in
theorem c_wormtubref14_letters (F0 : Fz)  : CT0 Tryz.prog 81 [].toArray F0 (some (m_wormtubref14_letters)) (fun r _ v => v = (.string (bs r))) := by
 refine CT0.enter Tryz.func81 rfl Tryz.ntmps81 rfl fun r R => ?_
 refine .seq (.region (.assign rfl rfl (.nil (.code (.seq (.region (.assign rfl rfl (.nil (.code ?_)))))))))
 exact .ret0 Tryz.results81 (.tmp rfl (.nil)) (i := 0) rfl Fz.r rfl
noncomputable def b_wormtubref14_digits_1  (s4 : Int × (List UInt8)) : Option (Ctl (Int × (List UInt8)) (((List UInt8)))) :=
 if (decide (s4.1 > 0)) then ((appO (encS (IntKind.u8.wrap ((w64 (48 + (Int.tmod s4.1 10)))))) s4.2).bind fun s8 => bindv (w64 (Int.tdiv s4.1 10)) fun n_10 => some (.next (n_10, s8))) else (some (.done s4.2))
noncomputable def m_wormtubref14_digits (n_1 : Int) : Option (List UInt8) :=
 bindv (w64 (Int.tdiv n_1 10)) fun n_2 => (loopM b_wormtubref14_digits_1 (n_2, (encS (IntKind.u8.wrap ((w64 (48 + (Int.tmod n_1 10)))))))).bind fun b12 => some b12
set_option maxRecDepth 100000 in
set_option maxHeartbeats 4000000 in
theorem c_wormtubref14_digits (F0 : Fz) (n_1 : Int) : CT0 Tryz.prog 82 [(.int .i64 n_1)].toArray F0 (m_wormtubref14_digits n_1) (fun r _ v => v = (.string (bs r))) := by
 refine CT0.enter Tryz.func82 rfl Tryz.ntmps82 rfl fun r R => ?_
 unfold m_wormtubref14_digits
 refine .seq (.region (.assign rfl rfl (.nil (.code (.seq (.region (.move rfl rfl (.remC rfl (by decide) rfl rfl (.add rfl rfl rfl (.convI rfl Tryz.underlying3 Tryz.underlying5 rfl (.encStr rfl Tryz.underlying5 Tryz.underlying9 rfl ?_)))))))))))
 refine .assign rfl rfl (.nil (.code (.seq (.seq (.region (.move rfl rfl (.quoC rfl (by decide) rfl rfl (.assignL rfl rfl (fun n_2 e3 => ?_)))))))))
 refine .nil (.code (.block (.keep (.cons (k := 0) rfl (.cons (k := 3) rfl (.nil _))) (.loop (fun (s4 : Int × (List UInt8)) a w => ∃ (F_5 : Fz), F0 ≤ F_5 ∧ Hd 23 [] [(0, (.int .i64 s4.1)), (3, (.string (bs s4.2)))] F_5 [R] a w) (fun b12 e a w => e = .exit 0 ∧ ∃ (F_13 : Fz), F0 ≤ F_13 ∧ Hd 23 [] [(3, (.string (bs b12)))] F_13 [R] a w) ?_ ?_ ?_))))
 ·exact fun a w h => ⟨F0, Fz.r, h.1.sub (.cons (k := 0) rfl (.cons (k := 3) rfl (.nil _))), h.2⟩
 ·intro s4 ctl
  refine GC.ex (fun a w ⟨F_5, l_6, hA⟩ => ⟨_, hA, ?_⟩)
  unfold b_wormtubref14_digits_1
  refine .seq (.seq (.region (.move rfl rfl (.gtr rfl rfl rfl (.nil (.code (.cond rfl (fun hb7 => ?_) (fun hb7 => ?_))))))))
  ·skip
   refine .skip (.code (.seq (.block (.region (.move rfl rfl (.remC rfl (by decide) rfl rfl (.add rfl rfl rfl (.convI rfl Tryz.underlying3 Tryz.underlying5 rfl (.encStr rfl Tryz.underlying5 Tryz.underlying9 rfl (.move rfl rfl (.catS rfl rfl rfl (fun s8 e9 => ?_))))))))))))
   refine .assign rfl rfl (.nil (.block (.code (.region (.move rfl rfl (.quoC rfl (by decide) rfl rfl (.assignL rfl rfl (fun n_10 e11 => ?_))))))))
   refine .nil ?_
   exact .nil (LPost.norm fun a w h => ⟨F_5, l_6, h.1.sub (.cons (k := 0) rfl (.cons (k := 3) rfl (.nil _))), h.2⟩)
  ·skip
   refine .exitOut rfl (LPost.exit fun a w h => ⟨rfl, F_5, l_6, h.1.sub (.cons (k := 3) rfl (.nil _)), h.2⟩)
 ·intro b12 hb0 hk e a w hD
  obtain ⟨rfl, F_13, l_14, hA⟩ := hD
  refine interp_exit rfl (GE.app ?_ hk a w hA)
  refine .code (.seq (.region (.move rfl rfl (.assign rfl rfl (.nil (.code ?_))))))
  exact .ret0 Tryz.results82 (.tmp rfl (.nil)) (i := 0) rfl l_14 rfl
noncomputable def b_wormtubref14_check_1 (s1 : (List UInt8)) (s2 : Int × Int) : Option (Ctl (Int × Int) ((Int))) :=
 if (decide (s2.2 < 87)) then ((idxL s1 s2.2).bind fun c6 => bindv (Int.tmod (w64 ((w64 (31 * s2.1)) + (w64 ((c6.toNat : Int))))) 4294967296) fun c8 => bindv (w64 (s2.2 + 1)) fun i10 => some (.next (c8, i10))) else (some (.done s2.1))
noncomputable def b_wormtubref14_check_2  (s15 : Int × (List UInt8) × Int) : Option (Ctl (Int × (List UInt8) × Int) (((List UInt8)))) :=
 if (decide (s15.2.2 < 8)) then ((idxL ([48, 49, 50, 51, 52, 53, 54, 55, 56, 57, 97, 98, 99, 100, 101, 102] : List UInt8) (Int.tmod s15.1 16)).bind fun c19 => (appO (encS (c19.toNat : Int)) s15.2.1).bind fun s21 => bindv (w64 (Int.tdiv s15.1 16)) fun c23 => bindv (w64 (s15.2.2 + 1)) fun i25 => some (.next (c23, s21, i25))) else (some (.done s15.2.1))
noncomputable def m_wormtubref14_check (s1 : (List UInt8)) : Option (List UInt8) :=
 (loopM (b_wormtubref14_check_1 s1) (0, 0)).bind fun b12 => (loopM b_wormtubref14_check_2 (b12, ([] : List UInt8), 0)).bind fun b27 => some b27
set_option maxRecDepth 100000 in
set_option maxHeartbeats 4000000 in
theorem c_wormtubref14_check (F0 : Fz) (s1 : (List UInt8)) : CT0 Tryz.prog 83 [(.string (bs s1))].toArray F0 (m_wormtubref14_check s1) (fun r _ v => v = (.string (bs r))) := by
 refine CT0.enter Tryz.func83 rfl Tryz.ntmps83 rfl fun r R => ?_
 unfold m_wormtubref14_check
 refine .seq (.region (.assign rfl rfl (.nil (.code (.seq (.region (.assign rfl rfl (.nil (.code (.seq (.seq ?_)))))))))))
 refine .region (.assign rfl rfl (.nil (.code (.block (.keep (.cons (k := 0) rfl (.cons (k := 3) rfl (.cons (k := 4) rfl (.nil _)))) (.loop (fun (s2 : Int × Int) a w => ∃ (F_3 : Fz), F0 ≤ F_3 ∧ Hd 32 [] [(0, (.string (bs s1))), (3, (.int .i64 s2.1)), (4, (.int .i64 s2.2))] F_3 [R] a w) (fun b12 e a w => e = .exit 0 ∧ ∃ (F_13 : Fz), F0 ≤ F_13 ∧ Hd 32 [] [(3, (.int .i64 b12))] F_13 [R] a w) ?_ ?_ ?_))))))
 ·exact fun a w h => ⟨F0, Fz.r, h.1.sub (.cons (k := 0) rfl (.cons (k := 3) rfl (.cons (k := 4) rfl (.nil _)))), h.2⟩
 ·intro s2 ctl
  refine GC.ex (fun a w ⟨F_3, l_4, hA⟩ => ⟨_, hA, ?_⟩)
  unfold b_wormtubref14_check_1
  refine .seq (.seq (.region (.move rfl rfl (.lss rfl rfl rfl (.nil (.code (.cond rfl (fun hb5 => ?_) (fun hb5 => ?_))))))))
  ·skip
   refine .skip (.code (.seq (.block (.region (.move rfl rfl (.mul rfl rfl rfl (.move rfl rfl (.move rfl rfl (.idxStr rfl Tryz.underlying9 rfl rfl (fun c6 e7 => ?_))))))))))
   refine .convI rfl Tryz.underlying5 Tryz.underlying3 rfl (.add rfl rfl rfl (.remC rfl (by decide) rfl rfl (.assignL rfl rfl (fun c8 e9 => ?_))))
   refine .nil (.block (.code (.region (.move rfl rfl (.add rfl rfl rfl (.assignL rfl rfl (fun i10 e11 => ?_)))))))
   refine .nil ?_
   exact .nil (LPost.norm fun a w h => ⟨F_3, l_4, h.1.sub (.cons (k := 0) rfl (.cons (k := 3) rfl (.cons (k := 4) rfl (.nil _)))), h.2⟩)
  ·skip
   refine .exitOut rfl (LPost.exit fun a w h => ⟨rfl, F_3, l_4, h.1.sub (.cons (k := 3) rfl (.nil _)), h.2⟩)
 ·intro b12 hb0 hk e a w hD
  obtain ⟨rfl, F_13, l_14, hA⟩ := hD
  refine interp_exit rfl (GE.app ?_ hk a w hA)
  refine .code (.seq (.region (.assign rfl rfl (.nil (.code (.seq (.seq (.region (.assign rfl rfl (.nil (.code ?_)))))))))))
  refine .block (.keep (.cons (k := 3) rfl (.cons (k := 5) rfl (.cons (k := 6) rfl (.nil _)))) (.loop (fun (s15 : Int × (List UInt8) × Int) a w => ∃ (F_16 : Fz), F_13 ≤ F_16 ∧ Hd 32 [] [(3, (.int .i64 s15.1)), (5, (.string (bs s15.2.1))), (6, (.int .i64 s15.2.2))] F_16 [R] a w) (fun b27 e a w => e = .exit 2 ∧ ∃ (F_28 : Fz), F_13 ≤ F_28 ∧ Hd 32 [] [(5, (.string (bs b27)))] F_28 [R] a w) ?_ ?_ ?_))
  ·exact fun a w h => ⟨F_13, Fz.r, h.1.sub (.cons (k := 3) rfl (.cons (k := 5) rfl (.cons (k := 6) rfl (.nil _)))), h.2⟩
  ·intro s15 ctl
   refine GC.ex (fun a w ⟨F_16, l_17, hA⟩ => ⟨_, hA, ?_⟩)
   unfold b_wormtubref14_check_2
   refine .seq (.seq (.region (.move rfl rfl (.lss rfl rfl rfl (.nil (.code (.cond rfl (fun hb18 => ?_) (fun hb18 => ?_))))))))
   ·skip
    refine .skip (.code (.seq (.block (.seq (.region (.move rfl rfl (.remC rfl (by decide) rfl rfl (.idxStr rfl Tryz.underlying9 rfl rfl (fun c19 e20 => ?_)))))))))
    refine .encStr rfl Tryz.underlying5 Tryz.underlying9 rfl (.move rfl rfl (.catS rfl rfl rfl (fun s21 e22 => ?_)))
    refine .assign rfl rfl (.nil (.code (.region (.move rfl rfl (.quoC rfl (by decide) rfl rfl (.assignL rfl rfl (fun c23 e24 => ?_)))))))
    refine .nil (.block (.code (.region (.move rfl rfl (.add rfl rfl rfl (.assignL rfl rfl (fun i25 e26 => ?_)))))))
    refine .nil ?_
    exact .nil (LPost.norm fun a w h => ⟨F_16, l_17, h.1.sub (.cons (k := 3) rfl (.cons (k := 5) rfl (.cons (k := 6) rfl (.nil _)))), h.2⟩)
   ·skip
    refine .exitOut rfl (LPost.exit fun a w h => ⟨rfl, F_16, l_17, h.1.sub (.cons (k := 5) rfl (.nil _)), h.2⟩)
  ·intro b27 hb0 hk e a w hD
   obtain ⟨rfl, F_28, l_29, hA⟩ := hD
   refine interp_exit rfl (GE.app ?_ hk a w hA)
   refine .code (.seq (.region (.move rfl rfl (.assign rfl rfl (.nil (.code ?_))))))
   exact .ret0 Tryz.results83 (.tmp rfl (.nil)) (i := 0) rfl (Fz.t l_14 l_29) rfl
noncomputable def b_wormtubref14_Row_1 (x1 : ApiBooked) (s30 : (List UInt8) × Int) : Option (Ctl ((List UInt8) × Int) (((List UInt8)))) :=
 if (decide (s30.2 < (x1.N.length : Int))) then ((appO s30.1 ([32] : List UInt8)).bind fun s34 => (idxL x1.N s30.2).bind fun x36 => (m_wormtubref14_digits x36).bind fun r_48 => (appO s34 r_48).bind fun s49 => bindv (w64 (s30.2 + 1)) fun i51 => some (.next (s49, i51))) else (some (.done s30.1))
noncomputable def b_wormtubref14_Row_2  (s56 : (List UInt8)) : Option (Ctl ((List UInt8)) (((List UInt8)))) :=
 if (decide ((s56.length : Int) < 87)) then ((appO s56 ([46] : List UInt8)).bind fun s60 => some (.next s60)) else (some (.done s56))
noncomputable def m_wormtubref14_Row (x1 : ApiBooked) : Option (List UInt8) :=
 (sliceL (m_wormtubref14_letters) x1.Kind (w64 (x1.Kind + 1))).bind fun s28 => (loopM (b_wormtubref14_Row_1 x1) (s28, 0)).bind fun b53 => (loopM b_wormtubref14_Row_2 b53).bind fun b62 => (m_wormtubref14_check b62).bind fun r_67 => (appO b62 r_67).bind fun s68 => (appO s68 ([10] : List UInt8)).bind fun s70 => some s70
set_option maxRecDepth 100000 in
set_option maxHeartbeats 4000000 in
theorem c_wormtubref14_Row (F0 : Fz) (x1 : ApiBooked) (p2 : Option Addr) (k3 : Nat) (h4 : RepSl 1 (Ex (cInt .i64)) F0 p2 k3 x1.N) : CT0 Tryz.prog 47 [(eApiBooked x1 p2 k3)].toArray F0 (m_wormtubref14_Row x1) (fun r _ v => v = (.string (bs r))) := by
 refine CT0.enter Tryz.func47 rfl Tryz.ntmps47 rfl fun r R => ?_
 unfold m_wormtubref14_Row
 refine .seq (.region (.boxF (cs := (cApiBooked x1 p2 k3)) rfl rfl rfl (fun b5 F_6 l_7 hb8 => ?_)))
 refine .assign rfl rfl (.nil (.code (.seq (.keep (.cons (k := 1) rfl (.nil _)) ?_))))
 refine .drawGD 6 0 (fun env9 => [((.string (bs (m_wormtubref14_letters))), fun _ => True), ((.pointer (some ⟨b5, 0 + 0, none⟩)), fun _ => True), ((.int .i64 x1.Kind), fun _ => True), ((.pointer (some ⟨b5, 0 + 0, none⟩)), fun _ => True), ((.int .i64 x1.Kind), fun _ => True), ((.int .i64 (w64 (x1.Kind + 1))), fun _ => True)]) (fun L env9 => [R]) mixedOK (by kernel_rfl) (deepN (k := 6) (n := 8) rfl (allLt8 (p := fun t => 6 ≤ t → ∀ j, j < t → ∃ s, depB _ s t j = true) (fun h => absurd h (by decide)) (fun h => absurd h (by decide)) (fun h => absurd h (by decide)) (fun h => absurd h (by decide)) (fun h => absurd h (by decide)) (fun h => absurd h (by decide)) (fun _ => allLt6 (p := fun j => ∃ s, depB _ s 6 j = true) ⟨1, rfl⟩ ⟨2, rfl⟩ ⟨1, rfl⟩ ⟨3, rfl⟩ ⟨2, rfl⟩ ⟨1, rfl⟩) (fun _ => allLt7 (p := fun j => ∃ s, depB _ s 7 j = true) ⟨1, rfl⟩ ⟨1, rfl⟩ ⟨1, rfl⟩ ⟨1, rfl⟩ ⟨1, rfl⟩ ⟨1, rfl⟩ ⟨1, rfl⟩))) rfl (fun _ => rfl) (by kernel_rfl) (fun _ => rfl) ?_ (fun env9 F_12 l_13 hphi => ?_)
 ·skip
  refine .cons (fun L env9 F_14 l_15 hL hdn hup hphi => ⟨[], fun S hS hV => (Sub.nil _), ?_⟩) ?_
  ·skip
   refine .callP rfl Tryz.call81 rfl rfl rfl (c_wormtubref14_letters _ ) ?_
   rintro F_16 _ l_17 rfl
   exact .finV rfl rfl l_17
  refine .cons (fun L env9 F_18 l_19 hL hdn hup hphi => ⟨[(1, (.pointer (some ⟨b5, 0, none⟩)))], fun S hS hV => (.cons (hS _ _ rfl) (Sub.nil _)), ?_⟩) ?_
  ·skip
   refine .fieldAddr rfl Tryz.underlying41 rfl Tryz.sizeOf3 rfl ?_
   exact .finV rfl rfl Fz.r
  refine .cons (fun L env9 F_20 l_21 hL hdn hup hphi => ⟨[(6, (.pointer (some ⟨b5, 0 + 0, none⟩)))], fun S hS hV => (.cons (hV 1 6 _ (hdn 1 1 rfl) rfl rfl) (Sub.nil _)), ?_⟩) ?_
  ·skip
   refine .loadF rfl Tryz.isAgg3 rfl (l_21.mem _ _ hb8) rfl ?_
   exact .finV rfl rfl Fz.r
  refine .cons (fun L env9 F_22 l_23 hL hdn hup hphi => ⟨[(1, (.pointer (some ⟨b5, 0, none⟩)))], fun S hS hV => (.cons (hS _ _ rfl) (Sub.nil _)), ?_⟩) ?_
  ·skip
   refine .fieldAddr rfl Tryz.underlying41 rfl Tryz.sizeOf3 rfl ?_
   exact .finV rfl rfl Fz.r
  refine .cons (fun L env9 F_24 l_25 hL hdn hup hphi => ⟨[(8, (.pointer (some ⟨b5, 0 + 0, none⟩)))], fun S hS hV => (.cons (hV 3 8 _ (hdn 1 3 rfl) rfl rfl) (Sub.nil _)), ?_⟩) ?_
  ·skip
   refine .loadF rfl Tryz.isAgg3 rfl (l_25.mem _ _ hb8) rfl ?_
   exact .finV rfl rfl Fz.r
  refine .cons (fun L env9 F_26 l_27 hL hdn hup hphi => ⟨[(9, (.int .i64 x1.Kind))], fun S hS hV => (.cons (hV 4 9 _ (hdn 1 4 rfl) rfl rfl) (Sub.nil _)), ?_⟩) ?_
  ·skip
   refine .add rfl rfl rfl ?_
   exact .finV rfl rfl Fz.r
  exact .nil
 refine .norm (S' := [(1, (.pointer (some ⟨b5, 0, none⟩))), (5, (.string (bs (m_wormtubref14_letters)))), (6, (.pointer (some ⟨b5, 0 + 0, none⟩))), (7, (.int .i64 x1.Kind)), (8, (.pointer (some ⟨b5, 0 + 0, none⟩))), (9, (.int .i64 x1.Kind)), (10, (.int .i64 (w64 (x1.Kind + 1))))]) (.cons (k := 1) rfl (.cons (k := 5) rfl (.cons (k := 6) rfl (.cons (k := 7) rfl (.cons (k := 8) rfl (.cons (k := 9) rfl (.cons (k := 10) rfl (.nil _)))))))) (rfl : _ = [R]) ?_
 refine .cutStr rfl Tryz.underlying9 rfl rfl rfl (fun s28 e29 => ?_)
 refine .assign rfl rfl (.nil (.code (.seq (.seq (.region (.assign rfl rfl (.nil (.code (.block (.keep (.cons (k := 1) rfl (.cons (k := 3) rfl (.cons (k := 4) rfl (.nil _)))) ?_))))))))))
 refine .loop (fun (s30 : (List UInt8) × Int) a w => ∃ (F_31 : Fz), F_12 ≤ F_31 ∧ Hd 38 [] [(1, (.pointer (some ⟨b5, 0, none⟩))), (3, (.string (bs s30.1))), (4, (.int .i64 s30.2))] F_31 [R] a w) (fun b53 e a w => e = .exit 0 ∧ ∃ (F_54 : Fz), F_12 ≤ F_54 ∧ Hd 38 [] [(3, (.string (bs b53)))] F_54 [R] a w) ?_ ?_ ?_
 ·exact fun a w h => ⟨F_12, Fz.r, h.1.sub (.cons (k := 1) rfl (.cons (k := 3) rfl (.cons (k := 4) rfl (.nil _)))), h.2⟩
 ·intro s30 ctl
  refine GC.ex (fun a w ⟨F_31, l_32, hA⟩ => ⟨_, hA, ?_⟩)
  unfold b_wormtubref14_Row_1
  refine .seq (.seq (.region (.move rfl rfl (.fieldAddr rfl Tryz.underlying41 rfl Tryz.sizeOf31 rfl (.loadF rfl Tryz.isAgg31 rfl ((Fz.t l_13 l_32).mem _ _ hb8) rfl (.lenS rfl rfl Tryz.underlying31 rfl (.lss rfl rfl rfl (.nil (.code (.cond rfl (fun hb33 => ?_) (fun hb33 => ?_)))))))))))
  ·skip
   refine .skip (.code (.seq (.block (.region (.move rfl rfl (.catS rfl rfl rfl (fun s34 e35 => ?_)))))))
   refine .fieldAddr rfl Tryz.underlying41 rfl Tryz.sizeOf31 rfl (.loadF rfl Tryz.isAgg31 rfl ((Fz.t l_13 l_32).mem _ _ hb8) rfl (.move rfl rfl (.idx rfl Tryz.underlying31 Tryz.sizeOf3 (h4.mono (Fz.t l_7 (Fz.t l_13 l_32))) rfl rfl (fun x36 b37 o38 T39 fr40 cs41 e42 hm43 hv44 => ?_))))
   refine .loadF rfl Tryz.isAgg3 rfl hm43 (cell_of_take (k := 0) hv44 rfl) (.call0 rfl Tryz.call82 rfl rfl rfl (c_wormtubref14_digits _ x36) ?_)
   rintro r_48 F_46 _ - l_47 rfl
   refine .catS rfl rfl rfl (fun s49 e50 => ?_)
   refine .assign rfl rfl (.nil (.block (.code (.region (.move rfl rfl (.add rfl rfl rfl (.assignL rfl rfl (fun i51 e52 => ?_))))))))
   refine .nil ?_
   exact .nil (LPost.norm fun a w h => ⟨F_46, (Fz.t l_32 l_47), h.1.sub (.cons (k := 1) rfl (.cons (k := 3) rfl (.cons (k := 4) rfl (.nil _)))), h.2⟩)
  ·skip
   refine .exitOut rfl (LPost.exit fun a w h => ⟨rfl, F_31, l_32, h.1.sub (.cons (k := 3) rfl (.nil _)), h.2⟩)
 ·intro b53 hb0 hk e a w hD
  obtain ⟨rfl, F_54, l_55, hA⟩ := hD
  refine interp_exit rfl (GE.app ?_ hk a w hA)
  refine .code (.seq (.block (.keep (.cons (k := 3) rfl (.nil _)) (.loop (fun (s56 : (List UInt8)) a w => ∃ (F_57 : Fz), F_54 ≤ F_57 ∧ Hd 38 [] [(3, (.string (bs s56)))] F_57 [R] a w) (fun b62 e a w => e = .exit 2 ∧ ∃ (F_63 : Fz), F_54 ≤ F_63 ∧ Hd 38 [] [(3, (.string (bs b62)))] F_63 [R] a w) ?_ ?_ ?_))))
  ·exact fun a w h => ⟨F_54, Fz.r, h.1.sub (.cons (k := 3) rfl (.nil _)), h.2⟩
  ·intro s56 ctl
   refine GC.ex (fun a w ⟨F_57, l_58, hA⟩ => ⟨_, hA, ?_⟩)
   unfold b_wormtubref14_Row_2
   refine .seq (.seq (.region (.move rfl rfl (.lenStr rfl rfl Tryz.underlying9 rfl (.lss rfl rfl rfl (.nil (.code (.cond rfl (fun hb59 => ?_) (fun hb59 => ?_)))))))))
   ·skip
    refine .skip (.code (.block (.region (.move rfl rfl (.catS rfl rfl rfl (fun s60 e61 => ?_))))))
    refine .assign rfl rfl (.nil (.block ?_))
    exact .nil (LPost.norm fun a w h => ⟨F_57, l_58, h.1.sub (.cons (k := 3) rfl (.nil _)), h.2⟩)
   ·skip
    refine .exitOut rfl (LPost.exit fun a w h => ⟨rfl, F_57, l_58, h.1.sub (.cons (k := 3) rfl (.nil _)), h.2⟩)
  ·intro b62 hb0 hk e a w hD
   obtain ⟨rfl, F_63, l_64, hA⟩ := hD
   refine interp_exit rfl (GE.app ?_ hk a w hA)
   refine .code (.seq (.region (.move rfl rfl (.move rfl rfl (.call0 rfl Tryz.call83 rfl rfl rfl (c_wormtubref14_check _ b62) ?_)))))
   rintro r_67 F_65 _ - l_66 rfl
   refine .catS rfl rfl rfl (fun s68 e69 => ?_)
   refine .catS rfl rfl rfl (fun s70 e71 => ?_)
   refine .assign rfl rfl (.nil (.code ?_))
   exact .ret0 Tryz.results47 (.tmp rfl (.nil)) (i := 0) rfl (Fz.t l_7 (Fz.t l_13 (Fz.t l_55 (Fz.t l_64 l_66)))) rfl
end Go.Proofs.YthnlglmjffdpfaaGreatDoor
end

section
namespace Go.Proofs.YthnlglmjffdpfaaGreatDoor
open Go.Dec
theorem enc_all : ∀ n : Nat, n < 128 → encS (n : Int) = [UInt8.ofNat n] := by decide +kernel
theorem enc_u8 {b : UInt8} (h : b.toNat < 128) : encS (b.toNat : Int) = [b] := by rw [enc_all _ h]; simp
theorem enc_wrap {n : Nat} (h : n < 128) : encS (IntKind.u8.wrap (n : Int)) = [UInt8.ofNat n] := by rw [wrap_u8 (by omega) (by omega), enc_all _ h]
theorem digit_loop : ∀ (d k : Nat) (s : Bytes), k < 10 ^ d → k ≤ 1000000000000000000 → s.length + d ≤ 1000 → loopM b_wormtubref14_digits_1 ((k : Int), s) = some ((if k = 0 then [] else Go.Lib.decDigits k) ++ s)
  | 0, k, s, hk, _, _ => by
    have : k = 0 := by simp at hk; omega
    subst this
    rw [loopM_eq]; rfl
  | d + 1, k, s, hk, hk2, hs => by
    by_cases h0 : k = 0
    · subst h0; rw [loopM_eq]; rfl
    · have hb : b_wormtubref14_digits_1 ((k : Int), s) = some (.next (((k / 10 : Nat) : Int), [UInt8.ofNat (48 + k % 10)] ++ s)) := by
        unfold b_wormtubref14_digits_1
        rw [if_pos (by rw [decide_eq_true_eq]; omega)]
        have h1 : w64 (48 + Int.tmod (k : Int) 10) = ((48 + k % 10 : Nat) : Int) := by
          rw [Int.tmod_eq_emod_of_nonneg (by omega), w64_id (by omega) (by omega)]; omega
        have h2 : w64 (Int.tdiv (k : Int) 10) = ((k / 10 : Nat) : Int) := by
          rw [Int.tdiv_eq_ediv_of_nonneg (by omega), w64_id (by omega) (by omega)]; rfl
        simp only [h1, h2, bindv]
        rw [enc_wrap (by omega), appO_some' (by rw [List.length_singleton]; omega)]
        rfl
      rw [if_neg h0, loopM_eq, hb]
      show loopM b_wormtubref14_digits_1 (((k / 10 : Nat) : Int), [UInt8.ofNat (48 + k % 10)] ++ s) = _
      rw [digit_loop d (k / 10) _ (by rw [Nat.pow_succ] at hk; omega) (by omega) (by rw [List.length_append, List.length_singleton]; omega)]
      by_cases h10 : k < 10
      · rw [dec_small h10, if_pos (by omega), Nat.mod_eq_of_lt h10]; rfl
      · rw [dec_big h10, if_neg (by omega), List.append_assoc]
theorem digits_doc {n : Int} (h0 : 0 ≤ n) (h1 : n ≤ 72057594037927936) : m_wormtubref14_digits n = some (Go.Lib.itoa n) := by
  obtain ⟨k, rfl⟩ := Int.eq_ofNat_of_zero_le h0
  unfold m_wormtubref14_digits
  have h2 : w64 (48 + Int.tmod (k : Int) 10) = ((48 + k % 10 : Nat) : Int) := by
    rw [Int.tmod_eq_emod_of_nonneg (by omega), w64_id (by omega) (by omega)]; omega
  have h3 : w64 (Int.tdiv (k : Int) 10) = ((k / 10 : Nat) : Int) := by
    rw [Int.tdiv_eq_ediv_of_nonneg (by omega), w64_id (by omega) (by omega)]; rfl
  rw [h2, h3, enc_wrap (by omega)]
  show (loopM b_wormtubref14_digits_1 (((k / 10 : Nat) : Int), [UInt8.ofNat (48 + k % 10)])).bind _ = _
  rw [digit_loop 20 (k / 10) _ (by omega) (by omega) (by simp), itoa_nat h0, Int.toNat_natCast]
  by_cases h10 : k < 10
  · rw [dec_small h10, if_pos (by omega), Nat.mod_eq_of_lt h10]; rfl
  · rw [dec_big h10, if_neg (by omega)]; rfl
theorem numsS_app (a b : List Int) : numsS (a ++ b) = numsS a ++ numsS b := by unfold numsS; rw [List.flatMap_append]
theorem numsS_one (n : Int) : numsS [n] = 32 :: Go.Lib.itoa n := by unfold numsS; rw [List.flatMap_cons, List.flatMap_nil, List.append_nil]
theorem row_1 {x : ApiBooked} (h : okS x = true) : loopM (b_wormtubref14_Row_1 x) ([letterS x.Kind], 0) = some (textS x) := by
  have hb := nums_bound h
  have hlen := textS_len h
  have hN := okS_len h
  have hpre : ∀ i, i ≤ x.N.length → (numsS (x.N.take i)).length ≤ (numsS x.N).length := by
    intro i _
    conv => rhs; rw [← List.take_append_drop i x.N, numsS_app, List.length_append]
    omega
  have htl : (textS x).length = 1 + (numsS x.N).length := by unfold textS; simp; omega
  obtain ⟨t, rfl, hq⟩ := loopM_upto (body := b_wormtubref14_Row_1 x) (fun i (t : Bytes) => (t, (i : Int))) (fun t => t) (fun i t => t = letterS x.Kind :: numsS (x.N.take i)) x.N.length
    (fun i t hi ht => by
      subst ht
      refine ⟨_, ?_, rfl⟩
      have hp := hpre (i + 1) hi
      have hp0 := hpre i (by omega)
      rw [List.take_add_one, getD_get (d := 0) hi, numsS_app] at hp ⊢
      simp only [Option.toList_some] at hp ⊢
      have hn := hb _ (getD_in (d := 0) hi)
      rw [numsS_one, List.length_append, List.length_cons] at hp
      unfold b_wormtubref14_Row_1
      rw [if_pos (by rw [decide_eq_true_eq]; omega)]
      rw [appO_some' (by simp only [List.length_cons, List.length_nil]; omega)]
      have i1 : idxL x.N (i : Int) = some (x.N.getD i 0) := by rw [idxL_nat, getD_get (d := 0) hi]
      simp only [Option.bind_some, i1, digits_doc hn.1 hn.2]
      rw [appO_some' (by simp only [List.length_append, List.length_cons, List.length_nil]; omega)]
      simp only [Option.bind_some, bindv, nx (show i ≤ 1000000000 by omega)]
      rw [numsS_one]; simp)
    (fun t _ => by unfold b_wormtubref14_Row_1; rw [if_neg (by simp)]) x.N.length 0 [letterS x.Kind] (by omega) (by simp [numsS])
  rw [List.take_of_length_le (Nat.le_refl _)] at hq
  exact hq
theorem row_2 : ∀ (d : Nat) (s : Bytes), s.length + d = 87 → loopM b_wormtubref14_Row_2 s = some (s ++ List.replicate d 46)
  | 0, s, h => by
    rw [loopM_eq]
    unfold b_wormtubref14_Row_2
    rw [if_neg (by rw [decide_eq_true_eq]; omega)]
    simp
  | d + 1, s, h => by
    have hb : b_wormtubref14_Row_2 s = some (.next (s ++ [46])) := by
      unfold b_wormtubref14_Row_2
      rw [if_pos (by rw [decide_eq_true_eq]; omega), appO_some' (by rw [List.length_singleton]; omega)]; rfl
    rw [loopM_eq, hb]
    show loopM b_wormtubref14_Row_2 (s ++ [46]) = _
    rw [row_2 d _ (by rw [List.length_append, List.length_singleton]; omega), List.append_assoc]; rfl
theorem check_1 {s : Bytes} (h : s.length = 87) : loopM (b_wormtubref14_check_1 s) (0, 0) = some (checkN s : Int) := by
  obtain ⟨t, rfl, hq⟩ := loopM_upto (body := b_wormtubref14_check_1 s) (fun i (t : Int) => (t, (i : Int))) (fun t => t) (fun i t => t = (checkN (s.take i) : Int)) 87
    (fun i t hi ht => by
      subst ht
      refine ⟨_, ?_, rfl⟩
      have hc := check_small (s.take i)
      have hb := (s.getD i 0).toNat_lt
      unfold b_wormtubref14_check_1
      rw [if_pos (by rw [decide_eq_true_eq]; omega)]
      have i1 : idxL s (i : Int) = some (s.getD i 0) := by rw [idxL_nat, getD_get (d := 0) (by omega)]
      simp only [i1, Option.bind_some, bindv, nx (show i ≤ 1000000000 by omega)]
      rw [List.take_add_one, getD_get (d := 0) (by omega), check_app]
      simp only [Option.toList_some, chk_cons]
      rw [w64_id (n := 31 * (checkN (s.take i) : Int)) (by omega) (by omega), w64_id (n := ((s.getD i 0).toNat : Int)) (by omega) (by omega), w64_id (by omega) (by omega), Int.tmod_eq_emod_of_nonneg (by omega)]
      rfl)
    (fun t _ => by unfold b_wormtubref14_check_1; rw [if_neg (by simp)]) 87 0 0 (by omega) (by simp [checkN])
  rw [List.take_of_length_le (by omega)] at hq
  exact hq
theorem hex_step {m i : Nat} {s : Bytes} (hi : i < 8) (hm : m ≤ 4294967295) (hs : s.length ≤ 8) : b_wormtubref14_check_2 ((m : Int), s, (i : Int)) = some (.next (((m / 16 : Nat) : Int), hexd (m % 16) :: s, ((i + 1 : Nat) : Int))) := by
  unfold b_wormtubref14_check_2
  rw [if_pos (by rw [decide_eq_true_eq]; show (i : Int) < 8; omega)]
  have h1 : Int.tmod (m : Int) 16 = ((m % 16 : Nat) : Int) := by rw [Int.tmod_eq_emod_of_nonneg (by omega)]; rfl
  have h2 : w64 (Int.tdiv (m : Int) 16) = ((m / 16 : Nat) : Int) := by
    rw [Int.tdiv_eq_ediv_of_nonneg (by omega), w64_id (by omega) (by omega)]; rfl
  have hmm : m % 16 < 16 := Nat.mod_lt _ (by decide)
  have h3 : idxL ([48, 49, 50, 51, 52, 53, 54, 55, 56, 57, 97, 98, 99, 100, 101, 102] : List UInt8) ((m % 16 : Nat) : Int) = some (hexd (m % 16)) := by
    rw [idxL_nat, getD_get (d := 0) (by simpa using hmm)]; rfl
  have h5 : encS ((hexd (m % 16)).toNat : Int) = [hexd (m % 16)] := enc_u8 (Nat.lt_of_le_of_lt (hexd_print _ hmm).2 (by decide))
  have h6 : w64 ((i : Int) + 1) = ((i + 1 : Nat) : Int) := nx (by omega)
  have h7 : appO [hexd (m % 16)] s = some (hexd (m % 16) :: s) := appO_some' (by rw [List.length_singleton]; omega)
  have h8 : idxL ([48, 49, 50, 51, 52, 53, 54, 55, 56, 57, 97, 98, 99, 100, 101, 102] : List UInt8) (Int.tmod (m : Int) 16) = some (hexd (m % 16)) := by rw [h1]; exact h3
  have h9 : appO (encS ((hexd (m % 16)).toNat : Int)) s = some (hexd (m % 16) :: s) := by rw [h5]; exact h7
  refine bind_of h8 (bind_of h9 ?_)
  show some (Ctl.next (w64 (Int.tdiv (m : Int) 16), hexd (m % 16) :: s, w64 ((i : Int) + 1))) = _
  rw [h2, h6]
theorem check_2 (c : Nat) (hc : c < 4294967296) : loopM b_wormtubref14_check_2 ((c : Int), [], 0) = some (hexS c) := by
  obtain ⟨t, ht, hq⟩ := loopM_upto (body := b_wormtubref14_check_2) (fun i (t : Int × Bytes) => (t.1, t.2, (i : Int))) (fun t => t.2) (fun i t => t = (((c / 16 ^ i : Nat) : Int), (hexS c).drop (8 - i))) 8
    (fun i t hi ht => by
      subst ht
      refine ⟨_, ?_, rfl⟩
      have hdiv : c / 16 ^ (i + 1) = c / 16 ^ i / 16 := by rw [Nat.pow_succ, Nat.div_div_eq_div_mul]
      have hle : c / 16 ^ i ≤ c := Nat.div_le_self _ _
      have hat := hexS_at c (i := 7 - i) (by omega)
      rw [show 7 - (7 - i) = i by omega] at hat
      have h4 := at_eq (d := 0) (l := (hexS c).drop (7 - i)) (i := 0) (by rw [List.length_drop, hexS_len]; omega)
      rw [List.take_zero, List.nil_append, getD_drop, List.drop_drop, Nat.add_zero, hat, show 7 - i + (0 + 1) = 8 - i by omega] at h4
      have h5 := hex_step (m := c / 16 ^ i) (s := (hexS c).drop (8 - i)) hi (Nat.le_trans hle (by omega)) (by rw [List.length_drop, hexS_len]; omega)
      rw [h5, hdiv, show 8 - (i + 1) = 7 - i by omega, h4])
    (fun t _ => by unfold b_wormtubref14_check_2; rw [if_neg (by simp)]) 8 0 ((c : Int), []) (by omega) (by
      rw [Nat.pow_zero, Nat.div_one, List.drop_of_length_le (by rw [hexS_len]; decide)])
  rw [ht] at hq
  exact hq
theorem check_doc {s : Bytes} (h : s.length = 87) : m_wormtubref14_check s = some (hexS (checkN s)) := by
  unfold m_wormtubref14_check
  exact bind_of (check_1 h) (bind_of (check_2 _ (check_small s)) rfl)
theorem letter_doc {k : Int} (h : 0 ≤ k ∧ k ≤ 3) : sliceL m_wormtubref14_letters k (w64 (k + 1)) = some [letterS k] := by
  rcases kind_cases h with rfl | rfl | rfl | rfl <;> rfl
theorem Row_doc {x : ApiBooked} (h : okS x = true) : m_wormtubref14_Row x = some (rowS x) := by
  have hl := textS_len h
  have hp := padS_len hl
  unfold m_wormtubref14_Row
  refine bind_of (letter_doc (okS_iff.1 h).1) (bind_of (row_1 h) ?_)
  have h2 : loopM b_wormtubref14_Row_2 (textS x) = some (padS (textS x)) := row_2 (87 - (textS x).length) (textS x) (by omega)
  refine bind_of h2 (bind_of (check_doc hp) ?_)
  rw [appO_some' (by rw [hp, hexS_len]; decide)]
  simp only [Option.bind_some]
  rw [appO_some' (by rw [List.length_append, hp, hexS_len]; decide)]
  simp only [Option.bind_some]
  rw [rowS_eq]
end Go.Proofs.YthnlglmjffdpfaaGreatDoor
end

section
namespace Go.Proofs.YthnlglmjffdpfaaGreatDoor
open Go.Dec Go.Shelf Go.RowKit Go.Maps Go.Sort
noncomputable def b_wormtubref14_parse_1 (s1 : (List UInt8)) (s5 : Int × ApiBooked) : Option (Ctl (Int × ApiBooked) ((ApiBooked))) :=
 if (decide (s5.1 < 4)) then (((idxL (m_wormtubref14_letters) s5.1).bind fun c15 => (idxL s1 0).bind fun c17 => (if ((c15.toNat : Int) == (c17.toNat : Int)) then (bindv ({ s5.2 with Kind := s5.1 }) fun x34 => some x34) else (some s5.2) : Option (ApiBooked)).bind fun j36 => some j36 : Option (ApiBooked)).bind fun j42 => bindv (w64 (s5.1 + 1)) fun k48 => some (.next (k48, j42))) else (some (.done s5.2))
noncomputable def b_wormtubref14_parse_3 (s1 : (List UInt8)) (s73 : Int × Int) : Option (Ctl (Int × Int) ((Int × Int))) :=
 (if (decide (s73.1 < 87)) then ((idxL s1 s73.1).bind fun c77 => some (decide ((c77.toNat : Int) ≥ 48))) else some false).bind fun z82 => (if z82 then ((idxL s1 s73.1).bind fun c85 => some (decide ((c85.toNat : Int) ≤ 57))) else some false).bind fun z90 => if z90 then ((idxL s1 s73.1).bind fun c93 => bindv (Int.tmod (w64 ((w64 (10 * s73.2)) + (w64 ((IntKind.u8.wrap ((c93.toNat : Int) - 48)))))) 288230376151711744) fun n_95 => bindv (w64 (s73.1 + 1)) fun i97 => some (.next (i97, n_95))) else (some (.done (s73.1, s73.2)))
noncomputable def b_wormtubref14_parse_2 (s1 : (List UInt8)) (s56 : Int × ApiBooked) : Option (Ctl (Int × ApiBooked) ((ApiBooked))) :=
 (if (decide (s56.1 < 87)) then ((idxL s1 s56.1).bind fun c63 => some ((c63.toNat : Int) == 32)) else some false).bind fun z68 => if z68 then (bindv (w64 (s56.1 + 1)) fun i71 => (loopM (b_wormtubref14_parse_3 s1) (i71, 0)).bind fun b99 => (appO s56.2.N ([b99.2])).bind fun l_107 => bindv ({ s56.2 with N := l_107 }) fun x111 => some (.next (b99.1, x111))) else (some (.done s56.2))
noncomputable def m_wormtubref14_parse (s1 : (List UInt8)) : Option ApiBooked :=
 (loopM (b_wormtubref14_parse_1 s1) (0, (ApiBooked.mk (-1) ([])))).bind fun b50 => (loopM (b_wormtubref14_parse_2 s1) (1, b50)).bind fun b113 => some b113
set_option maxRecDepth 100000 in
set_option maxHeartbeats 4000000 in
theorem c_wormtubref14_parse (F0 : Fz) (s1 : (List UInt8)) : CT0 Tryz.prog 56 [(.string (bs s1))].toArray F0 (m_wormtubref14_parse s1) (fun r F v => ∃ (p0 : Option Addr) (k0 : Nat), v = (eApiBooked r p0 k0) ∧ RepSl 1 (Ex (cInt .i64)) F p0 k0 r.N) := by
 refine CT0.enter Tryz.func56 rfl Tryz.ntmps56 rfl fun r R => ?_
 unfold m_wormtubref14_parse
 refine .seq (.region (.alloc (cs := (cApiBooked (ApiBooked.mk 0 ([])) none 0)) rfl Tryz.zeroValue41 rfl (fun b2 => ?_)))
 refine .nil (.code (.seq (.region (.build (cs := (cApiBooked (ApiBooked.mk (-1) ([])) none 0).toArray) rfl Tryz.underlying41 Tryz.zeroValue41 (plApiBooked _ Tryz.underlying41) rfl rfl (by kernel_rfl) (.alloc (cs := (cApiBooked (ApiBooked.mk 0 ([])) none 0)) rfl Tryz.zeroValue41 rfl (fun b3 => ?_))))))
 refine .ownNil 1 (Ex (cInt .i64)) 3 (.ownConv 0 rfl (show [] = (ApiBooked.mk (-1) ([])).N from rfl) (.store (cs' := (cApiBooked (ApiBooked.mk (-1) ([])) none 0)) Tryz.sizeOf41 rfl rfl rfl rfl (i := 1) rfl (Nat.le_of_ble_eq_true rfl) rfl (setMany_all (by rfl)) (.nil (.code (.seq (.seq (.region (.assign rfl rfl (.nil (.code (.block ?_)))))))))))
 refine .keep (.cons (k := 0) rfl (.cons (k := 2) rfl (.cons (k := 3) rfl (.cons (k := 4) rfl (.nil _))))) ?_
 refine .loop (fun (s5 : Int × ApiBooked) a w => ∃ (F_6 : Fz) (p8 : Option Addr) (k9 : Nat), F0 ≤ F_6 ∧ Hd 62 [] [(0, (.string (bs s1))), (2, (.pointer (some ⟨b2, 0, none⟩))), (3, (.pointer (some ⟨b3, 0, none⟩))), (4, (.int .i64 s5.1))] F_6 [ownSl 1 (Ex (cInt .i64)) F_6 3 p8 k9 s5.2.N, pt b3 (.cells (cApiBooked s5.2 p8 k9).toArray 41), pt b2 (.cells (cApiBooked (ApiBooked.mk 0 ([])) none 0).toArray 41), R] a w) (fun b50 e a w => e = .exit 0 ∧ ∃ (F_51 : Fz) (p53 : Option Addr) (k54 : Nat), F0 ≤ F_51 ∧ Hd 62 [] [(0, (.string (bs s1))), (2, (.pointer (some ⟨b2, 0, none⟩))), (3, (.pointer (some ⟨b3, 0, none⟩)))] F_51 [ownSl 1 (Ex (cInt .i64)) F_51 3 p53 k54 b50.N, pt b3 (.cells (cApiBooked b50 p53 k54).toArray 41), pt b2 (.cells (cApiBooked (ApiBooked.mk 0 ([])) none 0).toArray 41), R] a w) ?_ ?_ ?_
 ·exact fun a w h => ⟨F0, none, 0, Fz.r, h.1.sub (.cons (k := 0) rfl (.cons (k := 2) rfl (.cons (k := 3) rfl (.cons (k := 4) rfl (.nil _))))), h.2⟩
 ·intro s5 ctl
  refine GC.ex (fun a w ⟨F_6, p8, k9, l_7, hA⟩ => ⟨_, hA, ?_⟩)
  unfold b_wormtubref14_parse_1
  refine .seq (.seq (.region (.move rfl rfl (.lss rfl rfl rfl (.nil (.code (.cond rfl (fun hb11 => ?_) (fun hb11 => ?_))))))))
  ·skip
   refine .skip (.code (.seq (.keep (.cons (k := 0) rfl (.cons (k := 2) rfl (.cons (k := 3) rfl (.cons (k := 4) rfl (.nil _))))) ?_)))
   refine GC.join0 (σ := ApiBooked) (fun j42 a w => ∃ (F_43 : Fz) (p45 : Option Addr) (k46 : Nat), F_6 ≤ F_43 ∧ Hd 62 [] [(0, (.string (bs s1))), (2, (.pointer (some ⟨b2, 0, none⟩))), (3, (.pointer (some ⟨b3, 0, none⟩))), (4, (.int .i64 s5.1))] F_43 [ownSl 1 (Ex (cInt .i64)) F_43 3 p45 k46 j42.N, pt b3 (.cells (cApiBooked j42 p45 k46).toArray 41), pt b2 (.cells (cApiBooked (ApiBooked.mk 0 ([])) none 0).toArray 41), R] a w) (fun sj => ?_) (fun j42 hs0 => GE.ex (fun a w ⟨F_43, p45, k46, l_44, hA⟩ => ⟨_, hA, ?_⟩))
   ·skip
    refine .block (.seq (.keep (.cons (k := 0) rfl (.cons (k := 2) rfl (.cons (k := 3) rfl (.cons (k := 4) rfl (.nil _))))) (.bind (fun c15 e16 => ?_))))
    refine .bind (fun c17 e18 => ?_)
    refine .drawGD 5 0 (fun env12 => [((.string (bs (m_wormtubref14_letters))), fun _ => True), ((.int .i64 s5.1), fun _ => True), ((.int .u8 (c15.toNat : Int)), fun _ => True), ((.string (bs s1)), fun _ => True), ((.int .u8 (c17.toNat : Int)), fun _ => True)]) (fun L env12 => [ownSl 1 (Ex (cInt .i64)) F_6 3 p8 k9 s5.2.N, pt b3 (.cells (cApiBooked s5.2 p8 k9).toArray 41), pt b2 (.cells (cApiBooked (ApiBooked.mk 0 ([])) none 0).toArray 41), R]) mixedOK (by kernel_rfl) (deepN (k := 5) (n := 6) rfl (allLt6 (p := fun t => 5 ≤ t → ∀ j, j < t → ∃ s, depB _ s t j = true) (fun h => absurd h (by decide)) (fun h => absurd h (by decide)) (fun h => absurd h (by decide)) (fun h => absurd h (by decide)) (fun h => absurd h (by decide)) (fun _ => allLt5 (p := fun j => ∃ s, depB _ s 5 j = true) ⟨2, rfl⟩ ⟨2, rfl⟩ ⟨1, rfl⟩ ⟨2, rfl⟩ ⟨1, rfl⟩))) rfl (fun _ => rfl) (by kernel_rfl) (fun _ => rfl) ?_ (fun env12 F_19 l_20 hphi => ?_)
    ·skip
     refine .cons (fun L env12 F_21 l_22 hL hdn hup hphi => ⟨[], fun S hS hV => (Sub.nil _), ?_⟩) ?_
     ·skip
      refine .callP rfl Tryz.call81 rfl rfl rfl (c_wormtubref14_letters _ ) ?_
      rintro F_23 _ l_24 rfl
      exact .finV rfl rfl l_24
     refine .cons (fun L env12 F_25 l_26 hL hdn hup hphi => ⟨[(4, (.int .i64 s5.1))], fun S hS hV => (.cons (hS _ _ rfl) (Sub.nil _)), ?_⟩) ?_
     ·skip
      refine .move rfl rfl ?_
      exact .finV rfl rfl Fz.r
     refine .cons (fun L env12 F_27 l_28 hL hdn hup hphi => ⟨[(12, (.string (bs (m_wormtubref14_letters)))), (13, (.int .i64 s5.1))], fun S hS hV => (.cons (hV 0 12 _ (hdn 1 0 rfl) rfl rfl) (.cons (hV 1 13 _ (hdn 1 1 rfl) rfl rfl) (Sub.nil _))), ?_⟩) ?_
     ·skip
      refine .idxStrK e16 rfl Tryz.underlying9 rfl rfl ?_
      exact .finV rfl rfl Fz.r
     refine .cons (fun L env12 F_29 l_30 hL hdn hup hphi => ⟨[(0, (.string (bs s1)))], fun S hS hV => (.cons (hS _ _ rfl) (Sub.nil _)), ?_⟩) ?_
     ·skip
      refine .move rfl rfl ?_
      exact .finV rfl rfl Fz.r
     refine .cons (fun L env12 F_31 l_32 hL hdn hup hphi => ⟨[(15, (.string (bs s1)))], fun S hS hV => (.cons (hV 3 15 _ (hdn 1 3 rfl) rfl rfl) (Sub.nil _)), ?_⟩) ?_
     ·skip
      refine .idxStrK e18 rfl Tryz.underlying9 rfl rfl ?_
      exact .finV rfl rfl Fz.r
     exact .nil
    refine .norm (S' := [(0, (.string (bs s1))), (2, (.pointer (some ⟨b2, 0, none⟩))), (3, (.pointer (some ⟨b3, 0, none⟩))), (4, (.int .i64 s5.1)), (12, (.string (bs (m_wormtubref14_letters)))), (13, (.int .i64 s5.1)), (14, (.int .u8 (c15.toNat : Int))), (15, (.string (bs s1))), (16, (.int .u8 (c17.toNat : Int)))]) (.cons (k := 0) rfl (.cons (k := 2) rfl (.cons (k := 3) rfl (.cons (k := 4) rfl (.cons (k := 12) rfl (.cons (k := 13) rfl (.cons (k := 14) rfl (.cons (k := 15) rfl (.cons (k := 16) rfl (.nil _)))))))))) (rfl : _ = [ownSl 1 (Ex (cInt .i64)) F_6 3 p8 k9 s5.2.N, pt b3 (.cells (cApiBooked s5.2 p8 k9).toArray 41), pt b2 (.cells (cApiBooked (ApiBooked.mk 0 ([])) none 0).toArray 41), R]) ?_
    refine .eql rfl rfl rfl (.nil (.code (.keep (.cons (k := 0) rfl (.cons (k := 2) rfl (.cons (k := 3) rfl (.cons (k := 4) rfl (.cons (k := 17) rfl (.nil _)))))) ?_)))
    refine GC.join0 (σ := ApiBooked) (fun j36 a w => ∃ (F_37 : Fz) (p39 : Option Addr) (k40 : Nat), F_19 ≤ F_37 ∧ Hd 62 [] [(0, (.string (bs s1))), (2, (.pointer (some ⟨b2, 0, none⟩))), (3, (.pointer (some ⟨b3, 0, none⟩))), (4, (.int .i64 s5.1))] F_37 [ownSl 1 (Ex (cInt .i64)) F_37 3 p39 k40 j36.N, pt b3 (.cells (cApiBooked j36 p39 k40).toArray 41), pt b2 (.cells (cApiBooked (ApiBooked.mk 0 ([])) none 0).toArray 41), R] a w) (fun sj => ?_) (fun j36 hs0 => GE.ex (fun a w ⟨F_37, p39, k40, l_38, hA⟩ => ⟨_, hA, ?_⟩))
    ·skip
     refine .cond rfl (fun hb33 => ?_) (fun hb33 => ?_)
     ·skip
      refine .region (.move rfl rfl (.fieldAddr rfl Tryz.underlying41 rfl Tryz.sizeOf3 rfl (.letv (fun x34 e35 => ?_))))
      refine .ownConv 0 rfl (show s5.2.N = x34.N by rw [e35]) (.store (cs' := (cApiBooked x34 p8 k9)) Tryz.sizeOf3 rfl rfl rfl rfl (i := 1) rfl (Nat.le_of_ble_eq_true rfl) rfl (by rw [e35]; kernel_rfl) (.nil (.ownUp 0 l_20 rfl ?_)))
      exact .nil fun e a w h => by cases e; exact ⟨rfl, ⟨F_19, p8, k9, Fz.r, h.1.sub (.cons (k := 0) rfl (.cons (k := 2) rfl (.cons (k := 3) rfl (.cons (k := 4) rfl (.nil _))))), h.2⟩⟩
     ·skip
      refine .skip (.ownUp 0 l_20 rfl ?_)
      exact .nil fun e a w h => by cases e; exact ⟨rfl, ⟨F_19, p8, k9, Fz.r, h.1.sub (.cons (k := 0) rfl (.cons (k := 2) rfl (.cons (k := 3) rfl (.cons (k := 4) rfl (.nil _))))), h.2⟩⟩
    refine .block ?_
    exact .nil fun e a w h => by cases e; exact ⟨rfl, ⟨F_37, p39, k40, (Fz.t l_20 l_38), h.1.sub (.cons (k := 0) rfl (.cons (k := 2) rfl (.cons (k := 3) rfl (.cons (k := 4) rfl (.nil _))))), h.2⟩⟩
   refine .code (.region (.move rfl rfl (.add rfl rfl rfl (.assignL rfl rfl (fun k48 e49 => ?_)))))
   refine .nil ?_
   exact .nil (LPost.norm fun a w h => ⟨F_43, p45, k46, (Fz.t l_7 l_44), h.1.sub (.cons (k := 0) rfl (.cons (k := 2) rfl (.cons (k := 3) rfl (.cons (k := 4) rfl (.nil _))))), h.2⟩)
  ·skip
   refine .exitOut rfl (LPost.exit fun a w h => ⟨rfl, F_6, p8, k9, l_7, h.1.sub (.cons (k := 0) rfl (.cons (k := 2) rfl (.cons (k := 3) rfl (.nil _)))), h.2⟩)
 ·intro b50 hb0 hk e a w hD
  obtain ⟨rfl, F_51, p53, k54, l_52, hA⟩ := hD
  refine interp_exit rfl (GE.app ?_ hk a w hA)
  refine .code (.seq (.seq (.region (.assign rfl rfl (.nil (.code (.block (.keep (.cons (k := 0) rfl (.cons (k := 2) rfl (.cons (k := 3) rfl (.cons (k := 5) rfl (.nil _))))) ?_))))))))
  refine .loop (fun (s56 : Int × ApiBooked) a w => ∃ (F_57 : Fz) (p59 : Option Addr) (k60 : Nat), F_51 ≤ F_57 ∧ Hd 62 [] [(0, (.string (bs s1))), (2, (.pointer (some ⟨b2, 0, none⟩))), (3, (.pointer (some ⟨b3, 0, none⟩))), (5, (.int .i64 s56.1))] F_57 [ownSl 1 (Ex (cInt .i64)) F_57 3 p59 k60 s56.2.N, pt b3 (.cells (cApiBooked s56.2 p59 k60).toArray 41), pt b2 (.cells (cApiBooked (ApiBooked.mk 0 ([])) none 0).toArray 41), R] a w) (fun b113 e a w => e = .exit 2 ∧ ∃ (F_114 : Fz) (p116 : Option Addr) (k117 : Nat), F_51 ≤ F_114 ∧ Hd 62 [] [(2, (.pointer (some ⟨b2, 0, none⟩))), (3, (.pointer (some ⟨b3, 0, none⟩)))] F_114 [ownSl 1 (Ex (cInt .i64)) F_114 3 p116 k117 b113.N, pt b3 (.cells (cApiBooked b113 p116 k117).toArray 41), pt b2 (.cells (cApiBooked (ApiBooked.mk 0 ([])) none 0).toArray 41), R] a w) ?_ ?_ ?_
  ·exact fun a w h => ⟨F_51, p53, k54, Fz.r, h.1.sub (.cons (k := 0) rfl (.cons (k := 2) rfl (.cons (k := 3) rfl (.cons (k := 5) rfl (.nil _))))), h.2⟩
  ·intro s56 ctl
   refine GC.ex (fun a w ⟨F_57, p59, k60, l_58, hA⟩ => ⟨_, hA, ?_⟩)
   unfold b_wormtubref14_parse_2
   refine .seq (.seq (.region (.move rfl rfl (.lss rfl rfl rfl (.move rfl rfl (.andM (b := (decide (s56.1 < 87))) 5 27 (fun hb62 z69 => ?_) (fun hb65 => ?_) (fun z68 F_66 l_67 => ?_)))))))
   ·skip
    refine .onH hb62 rfl rfl (.move rfl rfl (.onH hb62 rfl rfl (.move rfl rfl (.onH hb62 rfl rfl (.idxStr rfl Tryz.underlying9 rfl rfl (fun c63 e64 => ?_))))))
    refine .onH hb62 rfl rfl (.eql rfl rfl rfl (.pickTH hb62 rfl rfl rfl ?_))
    exact .finZ 5 rfl rfl (by kernel_rfl) Fz.r
   ·skip
    refine .offH hb65 rfl rfl rfl (.offH hb65 rfl rfl rfl (.offH hb65 rfl rfl rfl (.offH hb65 rfl rfl rfl (.pickFH hb65 rfl rfl rfl ?_))))
    exact .fin 5 rfl rfl (by kernel_rfl) Fz.r
   refine .nil (.code (.cond rfl (fun hb70 => ?_) (fun hb70 => ?_)))
   ·skip
    refine .skip (.code (.block (.seq (.region (.assign rfl rfl (.nil (.code (.seq (.seq (.region (.move rfl rfl ?_)))))))))))
    refine .add rfl rfl rfl (.assignL rfl rfl (fun i71 e72 => ?_))
    refine .nil (.code (.block (.keep (.cons (k := 0) rfl (.cons (k := 2) rfl (.cons (k := 3) rfl (.cons (k := 5) rfl (.cons (k := 6) rfl (.nil _)))))) ?_)))
    refine .loop (fun (s73 : Int × Int) a w => ∃ (F_74 : Fz), F_66 ≤ F_74 ∧ Hd 62 [] [(0, (.string (bs s1))), (2, (.pointer (some ⟨b2, 0, none⟩))), (3, (.pointer (some ⟨b3, 0, none⟩))), (5, (.int .i64 s73.1)), (6, (.int .i64 s73.2))] F_74 [ownSl 1 (Ex (cInt .i64)) F_57 3 p59 k60 s56.2.N, pt b3 (.cells (cApiBooked s56.2 p59 k60).toArray 41), pt b2 (.cells (cApiBooked (ApiBooked.mk 0 ([])) none 0).toArray 41), R] a w) (fun b99 e a w => e = .exit 4 ∧ ∃ (F_100 : Fz), F_66 ≤ F_100 ∧ Hd 62 [] [(0, (.string (bs s1))), (2, (.pointer (some ⟨b2, 0, none⟩))), (3, (.pointer (some ⟨b3, 0, none⟩))), (5, (.int .i64 b99.1)), (6, (.int .i64 b99.2))] F_100 [ownSl 1 (Ex (cInt .i64)) F_57 3 p59 k60 s56.2.N, pt b3 (.cells (cApiBooked s56.2 p59 k60).toArray 41), pt b2 (.cells (cApiBooked (ApiBooked.mk 0 ([])) none 0).toArray 41), R] a w) ?_ ?_ ?_
    ·exact fun a w h => ⟨F_66, Fz.r, h.1.sub (.cons (k := 0) rfl (.cons (k := 2) rfl (.cons (k := 3) rfl (.cons (k := 5) rfl (.cons (k := 6) rfl (.nil _)))))), h.2⟩
    ·intro s73 ctl
     refine GC.ex (fun a w ⟨F_74, l_75, hA⟩ => ⟨_, hA, ?_⟩)
     unfold b_wormtubref14_parse_3
     refine .seq (.seq (.region (.move rfl rfl (.lss rfl rfl rfl (.move rfl rfl (.andM (b := (decide (s73.1 < 87))) 5 37 (fun hb76 z83 => ?_) (fun hb79 => ?_) (fun z82 F_80 l_81 => ?_)))))))
     ·skip
      refine .onH hb76 rfl rfl (.move rfl rfl (.onH hb76 rfl rfl (.move rfl rfl (.onH hb76 rfl rfl (.idxStr rfl Tryz.underlying9 rfl rfl (fun c77 e78 => ?_))))))
      refine .onH hb76 rfl rfl (.geq rfl rfl rfl (.pickTH hb76 rfl rfl rfl ?_))
      exact .finZ 5 rfl rfl (by kernel_rfl) Fz.r
     ·skip
      refine .offH hb79 rfl rfl rfl (.offH hb79 rfl rfl rfl (.offH hb79 rfl rfl rfl (.offH hb79 rfl rfl rfl (.pickFH hb79 rfl rfl rfl ?_))))
      exact .fin 5 rfl rfl (by kernel_rfl) Fz.r
     refine .move rfl rfl (.andM (b := z82) 5 43 (fun hb84 z91 => ?_) (fun hb87 => ?_) (fun z90 F_88 l_89 => ?_))
     ·skip
      refine .onH hb84 rfl rfl (.move rfl rfl (.onH hb84 rfl rfl (.move rfl rfl (.onH hb84 rfl rfl (.idxStr rfl Tryz.underlying9 rfl rfl (fun c85 e86 => ?_))))))
      refine .onH hb84 rfl rfl (.leq rfl rfl rfl (.pickTH hb84 rfl rfl rfl ?_))
      exact .finZ 5 rfl rfl (by kernel_rfl) Fz.r
     ·skip
      refine .offH hb87 rfl rfl rfl (.offH hb87 rfl rfl rfl (.offH hb87 rfl rfl rfl (.offH hb87 rfl rfl rfl (.pickFH hb87 rfl rfl rfl ?_))))
      exact .fin 5 rfl rfl (by kernel_rfl) Fz.r
     refine .nil (.code (.cond rfl (fun hb92 => ?_) (fun hb92 => ?_)))
     ·skip
      refine .skip (.code (.seq (.block (.region (.move rfl rfl (.mul rfl rfl rfl (.move rfl rfl (.move rfl rfl (.idxStr rfl Tryz.underlying9 rfl rfl (fun c93 e94 => ?_))))))))))
      refine .sub rfl rfl rfl (.convI rfl Tryz.underlying5 Tryz.underlying3 rfl (.add rfl rfl rfl (.remC rfl (by decide) rfl rfl (.assignL rfl rfl (fun n_95 e96 => ?_)))))
      refine .nil (.block (.code (.region (.move rfl rfl (.add rfl rfl rfl (.assignL rfl rfl (fun i97 e98 => ?_)))))))
      refine .nil ?_
      exact .nil (LPost.norm fun a w h => ⟨F_88, (Fz.t l_75 (Fz.t l_81 l_89)), h.1.sub (.cons (k := 0) rfl (.cons (k := 2) rfl (.cons (k := 3) rfl (.cons (k := 5) rfl (.cons (k := 6) rfl (.nil _)))))), h.2⟩)
     ·skip
      refine .exitOut rfl (LPost.exit fun a w h => ⟨rfl, F_88, (Fz.t l_75 (Fz.t l_81 l_89)), h.1.sub (.cons (k := 0) rfl (.cons (k := 2) rfl (.cons (k := 3) rfl (.cons (k := 5) rfl (.cons (k := 6) rfl (.nil _)))))), h.2⟩)
    ·intro b99 hb0 hk e a w hD
     obtain ⟨rfl, F_100, l_101, hA⟩ := hD
     refine interp_exit rfl (GE.app ?_ hk a w hA)
     refine .code (.region (.fieldAddr rfl Tryz.underlying41 rfl Tryz.sizeOf31 rfl (.loadO rfl Tryz.isAgg31 rfl (i := 1) rfl rfl (.move rfl rfl (.sliceLit (cs := [.int .i64 b99.2]) (zc := [.int .i64 0]) rfl Tryz.underlying31 Tryz.sizeOf3 Tryz.zeroValue3 rfl rfl rfl (by kernel_rfl) (by kernel_rfl) (fun b102 F_103 l_104 hb105 => ?_))))))
     have h106 : RepSl 1 (Ex (cInt .i64)) F_103 (some ⟨b102, 0, none⟩) 1 ([b99.2]) := RepSl.ofRow hb105 (.cons ok_t3.mono rfl .nil) rfl rfl
     refine .append 0 ok_t3 (Fz.t l_67 (Fz.t l_101 l_104)) rfl Tryz.underlying31 Tryz.underlying31 rfl rfl rfl h106 rfl rfl (fun l_107 p108 k109 e110 => ?_)
     refine .fieldAddr rfl Tryz.underlying41 rfl Tryz.sizeOf31 rfl (.letv (fun x111 e112 => ?_))
     refine .ownConv 0 rfl (show l_107 = x111.N by rw [e112]) (.store (cs' := (cApiBooked x111 p108 k109)) Tryz.sizeOf31 rfl rfl rfl rfl (i := 1) rfl (Nat.le_of_ble_eq_true rfl) rfl (by rw [e112]; kernel_rfl) (.nil (.block ?_)))
     exact .nil (LPost.norm fun a w h => ⟨F_103, p108, k109, (Fz.t l_58 (Fz.t l_67 (Fz.t l_101 l_104))), h.1.sub (.cons (k := 0) rfl (.cons (k := 2) rfl (.cons (k := 3) rfl (.cons (k := 5) rfl (.nil _))))), h.2⟩)
   ·skip
    refine .ownUp 0 l_67 rfl (.exitOut rfl (LPost.exit fun a w h => ⟨rfl, F_66, p59, k60, (Fz.t l_58 l_67), h.1.sub (.cons (k := 2) rfl (.cons (k := 3) rfl (.nil _))), h.2⟩))
  ·intro b113 hb0 hk e a w hD
   obtain ⟨rfl, F_114, p116, k117, l_115, hA⟩ := hD
   refine interp_exit rfl (GE.app ?_ hk a w hA)
   refine .code (.seq (.region (.loadOA rfl Tryz.isAgg41 Tryz.sizeOf41 rfl (i := 1) rfl (vs := (cApiBooked b113 p116 k117)) (by kernel_rfl) rfl (.freezeSl 0 rfl Fz.r (fun F_119 l_120 h121 => ?_)))))
   refine .store (cs' := (cApiBooked b113 p116 k117)) Tryz.sizeOf41 rfl rfl rfl rfl (i := 1) rfl (Nat.le_of_ble_eq_true rfl) rfl (setMany_all (by rfl)) (.nil (.code ?_))
   exact .ret0 Tryz.results56 (.agg rfl Tryz.isAgg41 Tryz.sizeOf41 (i := 1) rfl (vs' := (cApiBooked b113 p116 k117)) (by kernel_rfl) rfl (.nil)) (i := 2) rfl (Fz.t l_52 (Fz.t l_115 l_120)) ⟨p116, k117, rfl, h121⟩
noncomputable def m_wormtubref14_Right (s1 : (List UInt8)) : Option (ApiBooked × Bool) :=
 (m_wormtubref14_parse s1).bind fun r_5 => (m_wormtubref14_valid r_5).bind fun r_12 => (if (!r_12) then some true else ((m_wormtubref14_Row r_5).bind fun r_16 => some (!(r_16 == s1)))).bind fun z20 => if z20 then (some ((ApiBooked.mk 0 ([])), false)) else (some (r_5, true))
set_option maxRecDepth 100000 in
set_option maxHeartbeats 4000000 in
theorem c_wormtubref14_Right (F0 : Fz) (s1 : (List UInt8)) : CT0 Tryz.prog 25 [(.string (bs s1))].toArray F0 (m_wormtubref14_Right s1) (fun r F v => ∃ (p0 : Option Addr) (k0 : Nat), v = .tuple #[(eApiBooked r.1 p0 k0), (.bool r.2)] ∧ RepSl 1 (Ex (cInt .i64)) F p0 k0 r.1.N) := by
 refine CT0.enter Tryz.func25 rfl Tryz.ntmps25 rfl fun r R => ?_
 unfold m_wormtubref14_Right
 refine .seq (.region (.alloc (cs := (cApiBooked (ApiBooked.mk 0 ([])) none 0)) rfl Tryz.zeroValue41 rfl (fun b2 => ?_)))
 refine .assign rfl rfl (.nil (.code (.seq (.region (.move rfl rfl (.call0 rfl Tryz.call56 rfl rfl rfl (c_wormtubref14_parse _ s1) ?_))))))
 rintro r_5 F_3 _ - l_4 ⟨p6, k7, rfl, h8⟩
 refine .alloc (cs := (cApiBooked (ApiBooked.mk 0 ([])) none 0)) rfl Tryz.zeroValue41 rfl (fun b9 => ?_)
 refine .store (cs' := (cApiBooked r_5 p6 k7)) Tryz.sizeOf41 rfl rfl rfl rfl (i := 0) rfl (Nat.le_of_ble_eq_true rfl) rfl (setMany_all (by rfl)) (.nil (.code (.seq (.seq (.region (.loadOA rfl Tryz.isAgg41 Tryz.sizeOf41 rfl (i := 0) rfl (vs := (cApiBooked r_5 p6 k7)) (by kernel_rfl) rfl (.call0 rfl Tryz.call57 rfl rfl rfl (c_wormtubref14_valid _ r_5 p6 k7 h8) ?_)))))))
 rintro r_12 F_10 _ - l_11 rfl
 refine .not rfl rfl (.move rfl rfl (.orM (b := (!r_12)) 5 15 (fun hb13 z21 => ?_) (fun hb17 => ?_) (fun z20 F_18 l_19 => ?_)))
 ·skip
  refine .onH hb13 rfl rfl (.loadOA rfl Tryz.isAgg41 Tryz.sizeOf41 rfl (i := 0) rfl (vs := (cApiBooked r_5 p6 k7)) (by kernel_rfl) rfl (.onH hb13 rfl rfl (.call0 rfl Tryz.call47 rfl rfl rfl (c_wormtubref14_Row _ r_5 p6 k7 (h8.mono l_11)) ?_)))
  rintro r_16 F_14 _ - l_15 rfl
  refine .onH hb13 rfl rfl (.move rfl rfl (.onH hb13 rfl rfl (.neqS rfl Tryz.underlying9 rfl rfl (.pickFH hb13 rfl rfl rfl ?_))))
  exact .finZ 5 rfl rfl (by kernel_rfl) l_15
 ·skip
  refine .offH hb17 rfl rfl rfl (.offH hb17 rfl rfl rfl (.offH hb17 rfl rfl rfl (.offH hb17 rfl rfl rfl (.pickTH hb17 rfl rfl rfl ?_))))
  exact .fin 5 rfl rfl (by kernel_rfl) Fz.r
 refine .nil (.code (.cond rfl (fun hb22 => ?_) (fun hb22 => ?_)))
 ·skip
  refine .seq (.region (.build (cs := (cApiBooked (ApiBooked.mk 0 ([])) none 0).toArray) rfl Tryz.underlying41 Tryz.zeroValue41 (plApiBooked _ Tryz.underlying41) rfl rfl (by kernel_rfl) (.store (cs' := (cApiBooked (ApiBooked.mk 0 ([])) none 0)) Tryz.sizeOf41 rfl rfl rfl rfl (i := 1) rfl (Nat.le_of_ble_eq_true rfl) rfl (setMany_all (by rfl)) (.assign rfl rfl (.nil (.code ?_))))))
  exact .ret0 Tryz.results25 (.agg rfl Tryz.isAgg41 Tryz.sizeOf41 (i := 1) rfl (vs' := (cApiBooked (ApiBooked.mk 0 ([])) none 0)) (by kernel_rfl) rfl (.tmp rfl (.nil))) (i := 2) rfl (Fz.t l_4 (Fz.t l_11 l_19)) ⟨none, 0, rfl, (RepSl.nil.mono (Fz.t l_4 (Fz.t l_11 l_19)))⟩
 ·skip
  refine .skip (.code (.seq (.region (.loadOA rfl Tryz.isAgg41 Tryz.sizeOf41 rfl (i := 0) rfl (vs := (cApiBooked r_5 p6 k7)) (by kernel_rfl) rfl (.store (cs' := (cApiBooked r_5 p6 k7)) Tryz.sizeOf41 rfl rfl rfl rfl (i := 1) rfl (Nat.le_of_ble_eq_true rfl) rfl (setMany_all (by rfl)) (.assign rfl rfl (.nil (.code ?_))))))))
  exact .ret0 Tryz.results25 (.agg rfl Tryz.isAgg41 Tryz.sizeOf41 (i := 1) rfl (vs' := (cApiBooked r_5 p6 k7)) (by kernel_rfl) rfl (.tmp rfl (.nil))) (i := 2) rfl (Fz.t l_4 (Fz.t l_11 l_19)) ⟨p6, k7, rfl, (h8.mono (Fz.t l_11 l_19))⟩
end Go.Proofs.YthnlglmjffdpfaaGreatDoor
end

section
namespace Go.Proofs.YthnlglmjffdpfaaGreatDoor
open Go.Dec
theorem idx_mid {α : Type} (pre rest : List α) (c : α) : idxL (pre ++ c :: rest) (pre.length : Int) = some c := by
  rw [idxL_nat, List.getElem?_append_right (Nat.le_refl _), Nat.sub_self]; rfl
def digB (c : UInt8) : Bool := decide (48 ≤ c.toNat) && decide (c.toNat ≤ 57)
def digS (n : Nat) (c : UInt8) : Nat := (10 * n + (c.toNat - 48)) % 288230376151711744
theorem p3_step {s : Bytes} {i n : Nat} {c : UInt8} (hi : i < 87) (hc : idxL s (i : Int) = some c) (hn : n < 288230376151711744) :
    b_wormtubref14_parse_3 s ((i : Int), (n : Int)) = if digB c then some (.next (((i + 1 : Nat) : Int), (digS n c : Int))) else some (.done ((i : Int), (n : Int))) := by
  have hb := c.toNat_lt
  have h1 : (if (decide ((i : Int) < 87)) then ((idxL s (i : Int)).bind fun c77 => some (decide ((c77.toNat : Int) ≥ 48))) else some false) = some (decide (48 ≤ c.toNat)) := by
    rw [if_pos (by rw [decide_eq_true_eq]; omega), hc]
    simp only [Option.bind_some, Option.some.injEq, decide_eq_decide]; omega
  have h2 : (if decide (48 ≤ c.toNat) then ((idxL s (i : Int)).bind fun c85 => some (decide ((c85.toNat : Int) ≤ 57))) else some false) = some (digB c) := by
    unfold digB
    cases h : decide (48 ≤ c.toNat) with
    | true =>
      rw [if_pos rfl, hc]
      simp only [Option.bind_some, Bool.true_and, Option.some.injEq, decide_eq_decide]; omega
    | false => rfl
  unfold b_wormtubref14_parse_3
  refine bind_of h1 (bind_of h2 ?_)
  cases hd : digB c with
  | false => rfl
  | true =>
    have hd' : 48 ≤ c.toNat ∧ c.toNat ≤ 57 := by simpa [digB] using hd
    rw [if_pos rfl, if_pos rfl]
    refine bind_of hc ?_
    have h3 : Int.tmod (w64 ((w64 (10 * (n : Int))) + (w64 (IntKind.u8.wrap ((c.toNat : Int) - 48))))) 288230376151711744 = (digS n c : Int) := by
      rw [wrap_u8 (by omega) (by omega), w64_id (n := 10 * (n : Int)) (by omega) (by omega), w64_id (n := (c.toNat : Int) - 48) (by omega) (by omega), w64_id (by omega) (by omega), Int.tmod_eq_emod_of_nonneg (by omega)]
      unfold digS; omega
    have h4 : w64 ((i : Int) + 1) = ((i + 1 : Nat) : Int) := nx (by omega)
    unfold bindv
    show some (Ctl.next (w64 ((i : Int) + 1), Int.tmod (w64 ((w64 (10 * (n : Int))) + (w64 (IntKind.u8.wrap ((c.toNat : Int) - 48))))) 288230376151711744)) = _
    rw [h3, h4]
theorem p3_end {s : Bytes} {n : Int} : b_wormtubref14_parse_3 s (((87 : Nat) : Int), n) = some (.done (((87 : Nat) : Int), n)) := by
  unfold b_wormtubref14_parse_3
  refine bind_of (a := false) (if_neg (by simp)) (bind_of (a := false) rfl rfl)
theorem p3_any {s : Bytes} (hs : 87 ≤ s.length) : ∀ (d i n : Nat), i + d = 87 → n < 288230376151711744 → ∃ j m : Nat, i ≤ j ∧ j ≤ 87 ∧ loopM (b_wormtubref14_parse_3 s) ((i : Int), (n : Int)) = some ((j : Int), (m : Int))
  | 0, i, n, hi, hn => by
    have : i = 87 := by omega
    subst this
    exact ⟨87, n, Nat.le_refl _, Nat.le_refl _, by rw [loopM_eq, p3_end]⟩
  | d + 1, i, n, hi, hn => by
    have hc : idxL s (i : Int) = some (s.getD i 0) := by rw [idxL_nat, getD_get (d := 0) (by omega)]
    have h := p3_step (by omega) hc hn
    cases hd : digB (s.getD i 0) with
    | false =>
      rw [hd] at h
      exact ⟨i, n, Nat.le_refl _, by omega, by rw [loopM_eq, h]; rfl⟩
    | true =>
      rw [hd] at h
      obtain ⟨j, m, h1, h2, h3⟩ := p3_any hs d (i + 1) (digS n (s.getD i 0)) (by omega) (Nat.mod_lt _ (by decide))
      exact ⟨j, m, by omega, h2, by rw [loopM_eq, h]; exact h3⟩
theorem p2_step {s : Bytes} {i j m : Nat} {x : ApiBooked} (hi : i < 87) (hc : idxL s (i : Int) = some 32) (hj : loopM (b_wormtubref14_parse_3 s) (((i + 1 : Nat) : Int), 0) = some ((j : Int), (m : Int))) (hx : x.N.length ≤ 1000) :
    b_wormtubref14_parse_2 s ((i : Int), x) = some (.next ((j : Int), ⟨x.Kind, x.N ++ [(m : Int)]⟩)) := by
  have h1 : (if (decide ((i : Int) < 87)) then ((idxL s (i : Int)).bind fun c63 => some ((c63.toNat : Int) == 32)) else some false) = some true := by
    rw [if_pos (by rw [decide_eq_true_eq]; omega), hc]; rfl
  have h4 : w64 ((i : Int) + 1) = ((i + 1 : Nat) : Int) := nx (by omega)
  unfold b_wormtubref14_parse_2
  refine bind_of h1 ?_
  rw [if_pos rfl]
  unfold bindv
  show (loopM (b_wormtubref14_parse_3 s) (w64 ((i : Int) + 1), 0)).bind _ = _
  rw [h4]
  exact bind_of hj (bind_of (appO_some' (by rw [List.length_singleton]; show x.N.length + 1 ≤ _; omega)) rfl)
theorem p2_stop {s : Bytes} {i : Nat} {x : ApiBooked} (h : i = 87 ∨ ∃ c, idxL s (i : Int) = some c ∧ c ≠ 32) : b_wormtubref14_parse_2 s ((i : Int), x) = some (.done x) := by
  have h1 : (if (decide ((i : Int) < 87)) then ((idxL s (i : Int)).bind fun c63 => some ((c63.toNat : Int) == 32)) else some false) = some false := by
    rcases h with rfl | ⟨c, hc, hne⟩
    · exact if_neg (by simp)
    · split
      · rw [hc]
        simp only [Option.bind_some, Option.some.injEq, beq_eq_false_iff_ne]
        intro e
        exact u8_ne hne (by have : (32 : UInt8).toNat = 32 := rfl; omega)
      · rfl
  unfold b_wormtubref14_parse_2
  exact bind_of h1 rfl
theorem p2_any {s : Bytes} (hs : 87 ≤ s.length) : ∀ (d i : Nat) (x : ApiBooked), i ≤ 87 → 87 ≤ i + d → x.N.length + d ≤ 900 → ∃ y, loopM (b_wormtubref14_parse_2 s) ((i : Int), x) = some y
  | 0, i, x, hi, hd, _ => ⟨x, by rw [loopM_eq, p2_stop (.inl (by omega))]⟩
  | d + 1, i, x, hi, hd, hx => by
    rcases Nat.lt_or_ge i 87 with h | h
    · have hc : idxL s (i : Int) = some (s.getD i 0) := by rw [idxL_nat, getD_get (d := 0) (by omega)]
      by_cases e : s.getD i 0 = 32
      · rw [e] at hc
        obtain ⟨j, m, h1, h2, h3⟩ := p3_any hs (87 - (i + 1)) (i + 1) 0 (by omega) (by decide)
        obtain ⟨y, hy⟩ := p2_any hs d j ⟨x.Kind, x.N ++ [(m : Int)]⟩ h2 (by omega) (by rw [List.length_append, List.length_singleton]; omega)
        exact ⟨y, by rw [loopM_eq, p2_step h hc h3 (by omega)]; exact hy⟩
      · exact ⟨x, by rw [loopM_eq, p2_stop (.inr ⟨_, hc, e⟩)]⟩
    · exact ⟨x, by rw [loopM_eq, p2_stop (.inl (by omega))]⟩
def kindD (b : UInt8) : Int := if b = 68 then 3 else if b = 67 then 2 else if b = 83 then 1 else if b = 77 then 0 else -1
theorem p1_step {s : Bytes} {c : UInt8} (hc : idxL s 0 = some c) {i : Nat} {l : UInt8} (hi : i < 4) (hl : idxL m_wormtubref14_letters (i : Int) = some l) (x : ApiBooked) :
    b_wormtubref14_parse_1 s ((i : Int), x) = some (.next (((i + 1 : Nat) : Int), ⟨if c = l then (i : Int) else x.Kind, x.N⟩)) := by
  have h4 : w64 ((i : Int) + 1) = ((i + 1 : Nat) : Int) := nx (by omega)
  unfold b_wormtubref14_parse_1
  rw [if_pos (by rw [decide_eq_true_eq]; show (i : Int) < 4; omega)]
  refine bind_of (a := ⟨if c = l then (i : Int) else x.Kind, x.N⟩) ?_ ?_
  · refine bind_of hl (bind_of hc ?_)
    by_cases e : c = l
    · subst e; rw [if_pos rfl]
      refine bind_of (if_pos (by simp)) rfl
    · rw [if_neg e]
      refine bind_of (if_neg ?_) rfl
      rw [beq_iff_eq]
      intro h
      exact u8_ne e (by omega)
  · unfold bindv
    show some (Ctl.next (w64 ((i : Int) + 1), _)) = _
    rw [h4]
theorem p1_all {s : Bytes} {c : UInt8} (hc : idxL s 0 = some c) : loopM (b_wormtubref14_parse_1 s) (0, ⟨-1, []⟩) = some ⟨kindD c, []⟩ := by
  have s0 := fun x => p1_step hc (i := 0) (l := 77) (by decide) rfl x
  have s1 := fun x => p1_step hc (i := 1) (l := 83) (by decide) rfl x
  have s2 := fun x => p1_step hc (i := 2) (l := 67) (by decide) rfl x
  have s3 := fun x => p1_step hc (i := 3) (l := 68) (by decide) rfl x
  have s4 : ∀ x, b_wormtubref14_parse_1 s (((4 : Nat) : Int), x) = some (.done x) := fun x => by
    unfold b_wormtubref14_parse_1
    exact if_neg (by simp)
  rw [loopM_eq, show ((0 : Int), (⟨-1, []⟩ : ApiBooked)) = (((0 : Nat) : Int), ⟨-1, []⟩) from rfl, s0]
  simp only
  rw [loopM_eq, s1]
  simp only
  rw [loopM_eq, s2]
  simp only
  rw [loopM_eq, s3]
  simp only
  rw [loopM_eq, s4]
  simp only [Option.some.injEq]
  unfold kindD
  congr 1
theorem parse_any {s : Bytes} (hs : 87 ≤ s.length) : ∃ y, m_wormtubref14_parse s = some y := by
  have hc : idxL s 0 = some (s.getD 0 0) := by
    have := getD_get (l := s) (i := 0) (d := 0) (by omega)
    rw [show (0 : Int) = ((0 : Nat) : Int) from rfl, idxL_nat, this]
  obtain ⟨y, hy⟩ := p2_any hs 86 1 ⟨kindD (s.getD 0 0), []⟩ (by decide) (by decide) (by simp)
  exact ⟨y, bind_of (p1_all hc) (bind_of hy rfl)⟩
theorem p3_num : ∀ (ds pre tl : Bytes) (n : Nat), (∀ b ∈ ds, digB b = true) → n < 288230376151711744 → pre.length + ds.length ≤ 87 → (pre.length + ds.length = 87 ∨ ∃ c t, tl = c :: t ∧ digB c = false) →
    loopM (b_wormtubref14_parse_3 (pre ++ ds ++ tl)) ((pre.length : Int), (n : Int)) = some (((pre.length + ds.length : Nat) : Int), ((ds.foldl digS n : Nat) : Int))
  | [], pre, tl, n, hd, hn, hl, ht => by
    rw [loopM_eq]
    rcases ht with h | ⟨c, t, rfl, hc⟩
    · have h' : pre.length = 87 := by simpa using h
      rw [h', p3_end]; rfl
    · rcases Nat.lt_or_ge pre.length 87 with hlt | hge
      · rw [List.append_nil, p3_step hlt (idx_mid pre t c) hn, hc]; rfl
      · have h' : pre.length = 87 := by simp at hl; omega
        rw [h', p3_end]; rfl
  | b :: ds, pre, tl, n, hd, hn, hl, ht => by
    rw [List.length_cons] at hl ht
    have e : pre ++ (b :: ds) ++ tl = (pre ++ [b]) ++ ds ++ tl := by simp
    have hb := hd b (List.mem_cons_self ..)
    have hi : idxL (pre ++ (b :: ds) ++ tl) (pre.length : Int) = some b := by
      rw [List.append_assoc]; exact idx_mid pre (ds ++ tl) b
    rw [loopM_eq, p3_step (by omega) hi hn, hb]
    simp only [if_true]
    have ih := p3_num ds (pre ++ [b]) tl (digS n b) (fun c hc => hd c (List.mem_cons_of_mem _ hc)) (Nat.mod_lt _ (by decide)) (by rw [List.length_append, List.length_singleton]; omega) (by
      rw [List.length_append, List.length_singleton]
      rcases ht with h | h
      · left; omega
      · right; exact h)
    rw [← e, List.length_append, List.length_singleton] at ih
    rw [ih, List.length_cons, List.foldl_cons]
    congr 2
    omega
theorem digB_of {b : UInt8} (h : 48 ≤ b.toNat ∧ b.toNat ≤ 57) : digB b = true := by simp [digB, h.1, h.2]
theorem dec_val : ∀ (d u : Nat), u ≤ d → u < 288230376151711744 → (Go.Lib.decDigits u).foldl digS 0 = u
  | d, u, hd, hu => by
    by_cases h : u < 10
    · rw [dec_small h]
      simp only [List.foldl_cons, List.foldl_nil, digS]
      rw [u8_nat (by omega)]; omega
    · cases d with
      | zero => omega
      | succ d =>
        rw [dec_big h, List.foldl_append, dec_val d (u / 10) (by omega) (by omega)]
        simp only [List.foldl_cons, List.foldl_nil, digS]
        rw [u8_nat (by omega)]; omega
theorem p2_nums : ∀ (ns : List Int) (pre tl : Bytes) (x : ApiBooked), (∀ n ∈ ns, 0 ≤ n ∧ n ≤ 72057594037927936) → pre.length + (numsS ns).length ≤ 87 → (pre.length + (numsS ns).length = 87 ∨ ∃ c t, tl = c :: t ∧ digB c = false ∧ c ≠ 32) → x.N.length + ns.length ≤ 900 →
    loopM (b_wormtubref14_parse_2 (pre ++ numsS ns ++ tl)) ((pre.length : Int), x) = some ⟨x.Kind, x.N ++ ns⟩
  | [], pre, tl, x, hb, hl, ht, hx => by
    have e0 : numsS [] = [] := rfl
    rw [e0] at hl ht ⊢
    rw [loopM_eq, p2_stop]
    · simp
    · rcases ht with h | ⟨c, t, rfl, _, hc⟩
      · left; simpa using h
      · right; exact ⟨c, by rw [List.append_nil]; exact idx_mid pre t c, hc⟩
  | n :: ns, pre, tl, x, hb, hl, ht, hx => by
    have e1 : numsS (n :: ns) = 32 :: Go.Lib.itoa n ++ numsS ns := by
      rw [show n :: ns = [n] ++ ns from rfl, numsS_app, numsS_one]
    have hn := hb n (List.mem_cons_self ..)
    rw [e1] at hl ht ⊢
    simp only [List.length_append, List.length_cons] at hl ht
    have hi : idxL (pre ++ (32 :: Go.Lib.itoa n ++ numsS ns) ++ tl) (pre.length : Int) = some 32 := by
      rw [List.append_assoc]; exact idx_mid pre _ 32
    have e2 : pre ++ (32 :: Go.Lib.itoa n ++ numsS ns) ++ tl = (pre ++ [32]) ++ Go.Lib.itoa n ++ (numsS ns ++ tl) := by simp
    have h3 := p3_num (Go.Lib.itoa n) (pre ++ [32]) (numsS ns ++ tl) 0 (fun b hb' => digB_of (itoa_all hn.1 b hb')) (by decide) (by rw [List.length_append, List.length_singleton]; omega) (by
      rw [List.length_append, List.length_singleton]
      cases ns with
      | nil =>
        rcases ht with h | ⟨c, t, rfl, hc, _⟩
        · left; simp [numsS] at h; omega
        · right; exact ⟨c, t, rfl, hc⟩
      | cons n2 ns2 =>
        right
        refine ⟨32, Go.Lib.itoa n2 ++ numsS ns2 ++ tl, ?_, by decide⟩
        rw [show n2 :: ns2 = [n2] ++ ns2 from rfl, numsS_app, numsS_one]; simp)
    rw [← e2, itoa_nat hn.1, dec_val n.toNat n.toNat (Nat.le_refl _) (by omega), ← itoa_nat hn.1, List.length_append, List.length_singleton] at h3
    have h3' : loopM (b_wormtubref14_parse_3 (pre ++ (32 :: Go.Lib.itoa n ++ numsS ns) ++ tl)) (((pre.length + 1 : Nat) : Int), 0) = some (((pre.length + 1 + (Go.Lib.itoa n).length : Nat) : Int), (n.toNat : Int)) := h3
    rw [loopM_eq, p2_step (by omega) hi h3' (by omega)]
    simp only
    have ih := p2_nums ns (pre ++ 32 :: Go.Lib.itoa n) tl ⟨x.Kind, x.N ++ [(n.toNat : Int)]⟩ (fun m hm => hb m (List.mem_cons_of_mem _ hm)) (by rw [List.length_append, List.length_cons]; omega) (by
      rw [List.length_append, List.length_cons]
      rcases ht with h | h
      · left; omega
      · right; exact h) (by rw [List.length_append, List.length_singleton]; rw [List.length_cons] at hx; omega)
    have e3 : (pre ++ 32 :: Go.Lib.itoa n) ++ numsS ns ++ tl = pre ++ (32 :: Go.Lib.itoa n ++ numsS ns) ++ tl := by simp
    rw [e3, List.length_append, List.length_cons] at ih
    rw [show pre.length + 1 + (Go.Lib.itoa n).length = pre.length + ((Go.Lib.itoa n).length + 1) by omega, ih, Int.toNat_of_nonneg hn.1, List.append_assoc]
    rfl
theorem parse_row {x : ApiBooked} (h : okS x = true) : m_wormtubref14_parse (rowS x) = some x := by
  have hk := (okS_iff.1 h).1
  have hlen := textS_len h
  have htl : (textS x).length = 1 + (numsS x.N).length := by unfold textS; simp; omega
  have hN := okS_len h
  have e : rowS x = [letterS x.Kind] ++ numsS x.N ++ (List.replicate (87 - (textS x).length) 46 ++ (hexS (checkN (padS (textS x))) ++ [10])) := by
    unfold rowS
    conv => lhs; unfold padS
    conv => lhs; arg 1; arg 1; unfold textS
    simp
    rfl
  have hc : idxL (rowS x) 0 = some (letterS x.Kind) := by rw [e]; rfl
  have hkd : kindD (letterS x.Kind) = x.Kind := by
    rcases kind_cases hk with e | e | e | e <;> rw [e] <;> decide
  have h2 := p2_nums x.N [letterS x.Kind] (List.replicate (87 - (textS x).length) 46 ++ (hexS (checkN (padS (textS x))) ++ [10])) ⟨x.Kind, []⟩ (nums_bound h) (by rw [List.length_singleton]; omega) (by
    rw [List.length_singleton]
    by_cases h87 : 1 + (numsS x.N).length = 87
    · exact .inl h87
    · right
      refine ⟨46, List.replicate (86 - (textS x).length) 46 ++ (hexS (checkN (padS (textS x))) ++ [10]), ?_, by decide, by decide⟩
      rw [show 87 - (textS x).length = (86 - (textS x).length) + 1 by omega, List.replicate_succ]; rfl) (by simp; omega)
  rw [← e] at h2
  unfold m_wormtubref14_parse
  refine bind_of (p1_all hc) (bind_of (a := x) ?_ rfl)
  rw [hkd]
  exact h2
theorem Right_doc {s : Bytes} (hs : s.length = 96) : m_wormtubref14_Right s = some (rightP (rightS s)) := by
  unfold m_wormtubref14_Right
  cases hr : rightS s with
  | some x =>
    obtain ⟨h1, h2⟩ := rightS_some hr
    subst h2
    refine bind_of (parse_row h1) (bind_of (valid_doc x) ?_)
    rw [h1]
    refine bind_of (a := false) ?_ rfl
    rw [if_neg (by decide), Row_doc h1]; simp
  | none =>
    obtain ⟨y, hy⟩ := parse_any (s := s) (by omega)
    refine bind_of hy (bind_of (valid_doc y) ?_)
    refine bind_of (a := true) ?_ rfl
    cases ho : okS y with
    | false => rfl
    | true =>
      rw [if_neg (by decide), Row_doc ho]
      have := rightS_none hr y ho
      simpa using this
end Go.Proofs.YthnlglmjffdpfaaGreatDoor
end

section
namespace Go.Proofs.YthnlglmjffdpfaaGreatDoor
open Go.Dec Go.Shelf Go.RowKit Go.Maps Go.Sort
noncomputable def b_wormtublaw14_FileGroups_2 (bytes9 : (List Int)) (s47 : (List Int) × (List Int) × Int × Int) (q71 : Int) (l_78 : (List Int)) (s80 : (List Int) × Int) : Option (Ctl ((List Int) × Int) (((List Int)))) :=
 if (decide (s80.2 < (l_78.length : Int))) then ((remK (w64 (s80.2 + s47.2.2.2)) (bytes9.length : Int)).bind fun q87 => (idxL bytes9 q87).bind fun x89 => (idxO l_78.length s80.2).bind fun j99 => (idxL s80.1 ((w64 (96 * (w64 (s47.2.2.1 + q71)))) + (j99 : Int))).bind fun _x101 => bindv (List.set s80.1 ((w64 (96 * (w64 (s47.2.2.1 + q71)))) + (j99 : Int)).toNat (x89)) fun l_105 => some (.next (l_105, (w64 (s80.2 + 1))))) else (some (.done s80.1))
noncomputable def b_wormtublaw14_FileGroups_1 (which5 : (List Int)) (bytes9 : (List Int)) (r_30 : ((List Int) × Int)) (rows44 : Int) (s47 : (List Int) × (List Int) × Int × Int) : Option (Ctl ((List Int) × (List Int) × Int × Int) (((List Int) × (List Int)) ⊕ (Bool))) :=
 if (decide (s47.2.2.1 < rows44)) then (bindv (imin 9 (w64 (rows44 - s47.2.2.1))) fun n_57 => (remK s47.2.2.2 (which5.length : Int)).bind fun q59 => (idxL which5 q59).bind fun x61 => (remK (w64 (x61)) (w64 (n_57 + 1))).bind fun q71 => if (q71 == n_57) then (bindv (w64 (s47.2.2.1 + 9)) fun first_74 => bindv (w64 (s47.2.2.2 + 1)) fun group76 => some (.next (s47.1, s47.2.1, first_74, group76))) else ((sliceP s47.1 (w64 (96 * (w64 (s47.2.2.1 + q71)))) (w64 (96 * (w64 ((w64 (s47.2.2.1 + q71)) + 1))))).bind fun l_78 => (loopM (b_wormtublaw14_FileGroups_2 bytes9 s47 q71 l_78) (s47.1, 0)).bind fun b108 => (sliceL r_30.1 (w64 (96 * (w64 (s47.2.2.1 + q71)))) (w64 (96 * (w64 ((w64 (s47.2.2.1 + q71)) + 1))))).bind fun l_114 => (sliceP b108 (w64 (96 * (w64 (s47.2.2.1 + q71)))) (w64 (96 * (w64 ((w64 (s47.2.2.1 + q71)) + 1))))).bind fun l_119 => if ((u8s l_119) == (u8s l_114)) then (bindv (w64 (s47.2.2.1 + 9)) fun first_122 => bindv (w64 (s47.2.2.2 + 1)) fun group124 => some (.next (b108, s47.2.1, first_122, group124))) else ((sliceP b108 (w64 (96 * (w64 (s47.2.2.1 + q71)))) (w64 (96 * (w64 ((w64 (s47.2.2.1 + q71)) + 1))))).bind fun l_126 => (m_wormtubref14_Right (u8s l_126)).bind fun r_130 => if (r_130.2 && (decide (q71 < (w64 (n_57 - 1))))) then ((m_wormtublaw14_alive).bind fun r_142 => some (.done (.inr r_142))) else ((appO s47.2.1 ([(w64 (s47.2.2.1 + q71))])).bind fun l_148 => bindv (w64 (s47.2.2.1 + 9)) fun first_152 => bindv (w64 (s47.2.2.2 + 1)) fun group154 => some (.next (b108, l_148, first_152, group154)))))) else (some (.done (.inl (s47.1, s47.2.1))))
noncomputable def m_wormtublaw14_FileGroups (l_1 : (List ApiBooked)) (which5 : (List Int)) (bytes9 : (List Int)) : Option Bool :=
 (m_wormtublaw14_great l_1).bind fun r_15 => if ((r_15 || ((which5.length : Int) == 0)) || ((bytes9.length : Int) == 0)) then ((m_wormtublaw14_alive).bind fun r_27 => some r_27) else ((m_file_Write l_1).bind fun r_30 => if (r_30.2 != 0) then ((m_wormtublaw14_alive).bind fun r_37 => some r_37) else ((appO ([]) r_30.1).bind fun l_40 => bindv (w64 (Int.tdiv (r_30.1.length : Int) 96)) fun rows44 => (loopM (b_wormtublaw14_FileGroups_1 which5 bytes9 r_30 rows44) (l_40, [], 0, 0)).bind fun b0 => match b0 with | .inl b156 => ((m_file_Repair b156.1).bind fun r_172 => (if ((r_172.2.2 == 0) && ((u8s r_172.1) == (u8s r_30.1))) then ((m_wormtubref14_Ints r_172.2.1 b156.2).bind fun r_187 => some r_187) else some false).bind fun z193 => (if z193 then ((m_wormtublaw14_alive).bind fun r_198 => some r_198) else some false).bind fun z202 => some z202) | .inr b156 => (some b156)))
set_option maxRecDepth 100000 in
set_option maxHeartbeats 4000000 in
theorem c_wormtublaw14_FileGroups (F0 : Fz) (hT : TabsP F0) (l_1 : (List ApiBooked)) (p2 : Option Addr) (k3 : Nat) (h4 : RepSl 2 rApiBooked F0 p2 k3 l_1) (which5 : (List Int)) (p6 : Option Addr) (k7 : Nat) (h8 : RepSl 1 (Ex (cInt .u8)) F0 p6 k7 which5) (bytes9 : (List Int)) (p10 : Option Addr) (k11 : Nat) (h12 : RepSl 1 (Ex (cInt .u8)) F0 p10 k11 bytes9) : CT0 Tryz.prog 7 [(.slice p2 l_1.length k3), (.slice p6 which5.length k7), (.slice p10 bytes9.length k11)].toArray F0 (m_wormtublaw14_FileGroups l_1 which5 bytes9) (fun r _ v => v = (.bool r)) := by
 refine CT0.enter Tryz.func7 rfl Tryz.ntmps7 rfl fun r R => ?_
 unfold m_wormtublaw14_FileGroups
 refine .seq (.region (.assign rfl rfl (.nil (.code (.seq (.seq (.region (.move rfl rfl (.call0 rfl Tryz.call15 rfl rfl rfl (c_wormtublaw14_great _ l_1 p2 k3 h4) ?_)))))))))
 rintro r_15 F_13 _ - l_14 rfl
 refine .move rfl rfl (.orP (b := r_15) (b' := ((which5.length : Int) == 0)) 4 30 (fun hb16 => ?_) (fun hb17 => ?_) (fun F_18 l_19 => ?_))
 ·skip
  refine .onH hb16 rfl rfl (.move rfl rfl (.onH hb16 rfl rfl (.lenS rfl rfl Tryz.underlying25 rfl (.onH hb16 rfl rfl (.eql rfl rfl rfl (.pickFH hb16 rfl rfl rfl ?_))))))
  exact .fin 4 rfl rfl (by kernel_rfl) Fz.r
 ·skip
  refine .offH hb17 rfl rfl rfl (.offH hb17 rfl rfl rfl (.offH hb17 rfl rfl rfl (.pickTH hb17 rfl rfl rfl ?_)))
  exact .fin 4 rfl rfl (by kernel_rfl) Fz.r
 refine .move rfl rfl (.orP (b := (r_15 || ((which5.length : Int) == 0))) (b' := ((bytes9.length : Int) == 0)) 4 35 (fun hb20 => ?_) (fun hb21 => ?_) (fun F_22 l_23 => ?_))
 ·skip
  refine .onH hb20 rfl rfl (.move rfl rfl (.onH hb20 rfl rfl (.lenS rfl rfl Tryz.underlying25 rfl (.onH hb20 rfl rfl (.eql rfl rfl rfl (.pickFH hb20 rfl rfl rfl ?_))))))
  exact .fin 4 rfl rfl (by kernel_rfl) Fz.r
 ·skip
  refine .offH hb21 rfl rfl rfl (.offH hb21 rfl rfl rfl (.offH hb21 rfl rfl rfl (.pickTH hb21 rfl rfl rfl ?_)))
  exact .fin 4 rfl rfl (by kernel_rfl) Fz.r
 refine .nil (.code (.cond rfl (fun hb24 => ?_) (fun hb24 => ?_)))
 ·skip
  refine .seq (.region (.call0 rfl Tryz.call16 rfl rfl rfl (c_wormtublaw14_alive _ (hT.mono (Fz.t l_14 (Fz.t l_19 l_23)))) ?_))
  rintro r_27 F_25 _ - l_26 rfl
  refine .assign rfl rfl (.nil (.code ?_))
  exact .ret0 Tryz.results7 (.tmp rfl (.nil)) (i := 0) rfl (Fz.t l_14 (Fz.t l_19 (Fz.t l_23 l_26))) rfl
 ·skip
  refine .skip (.code (.seq (.region (.move rfl rfl (.call0 rfl Tryz.call17 rfl rfl rfl (c_file_Write _ (hT.mono (Fz.t l_14 (Fz.t l_19 l_23))) l_1 p2 k3 (h4.mono (Fz.t l_14 (Fz.t l_19 l_23)))) ?_)))))
  rintro r_30 F_28 _ - l_29 ⟨p31, k32, rfl, h33⟩
  refine .move rfl rfl (.extract rfl rfl rfl (.extract rfl rfl rfl (.assign rfl rfl (.assign rfl rfl (.nil (.code (.seq (.seq (.region (.move rfl rfl (.neq rfl rfl rfl ?_)))))))))))
  refine .nil (.code (.cond rfl (fun hb34 => ?_) (fun hb34 => ?_)))
  ·skip
   refine .seq (.region (.call0 rfl Tryz.call16 rfl rfl rfl (c_wormtublaw14_alive _ (hT.mono (Fz.t l_14 (Fz.t l_19 (Fz.t l_23 l_29))))) ?_))
   rintro r_37 F_35 _ - l_36 rfl
   refine .assign rfl rfl (.nil (.code ?_))
   exact .ret0 Tryz.results7 (.tmp rfl (.nil)) (i := 0) rfl (Fz.t l_14 (Fz.t l_19 (Fz.t l_23 (Fz.t l_29 l_36)))) rfl
  ·skip
   refine .skip (.code (.seq (.region (.sliceOwn0 (Ex (cInt .u8)) rfl Tryz.underlying25 Tryz.sizeOf5 (fun b38 => ?_)))))
   refine .move rfl rfl (.append 0 ok_t5 Fz.r rfl Tryz.underlying25 Tryz.underlying25 rfl rfl rfl h33 rfl rfl (fun l_40 p41 k42 e43 => ?_))
   refine .assign rfl rfl (.nil (.code (.seq (.region (.assign rfl rfl (.nil (.code (.seq (.region (.move rfl rfl (.lenS rfl rfl Tryz.underlying25 rfl ?_)))))))))))
   refine .quoC rfl (by decide) rfl rfl (.assignL rfl rfl (fun rows44 e45 => ?_))
   refine .nil (.keep (.cons (k := 1) rfl (.cons (k := 2) rfl (.cons (k := 7) rfl (.cons (k := 9) rfl (.cons (k := 10) rfl (.cons (k := 11) rfl (.nil _))))))) (.code (.seq (.seq (.region (.assign rfl rfl (.assign rfl rfl (.nil (.code (.block (.ownNil 1 (Ex (cInt .i64)) 3 ?_)))))))))))
   refine .keep (.cons (k := 1) rfl (.cons (k := 2) rfl (.cons (k := 7) rfl (.cons (k := 9) rfl (.cons (k := 10) rfl (.cons (k := 11) rfl (.cons (k := 12) rfl (.cons (k := 13) rfl (.nil _))))))))) ?_
   refine .loop (fun (s47 : (List Int) × (List Int) × Int × Int) a w => ∃ (F_48 : Fz) (p50 : Option Addr) (k51 : Nat) (p53 : Option Addr) (k54 : Nat), F_28 ≤ F_48 ∧ Hd 164 [] [(1, (.slice p6 which5.length k7)), (2, (.slice p10 bytes9.length k11)), (7, (.slice p31 r_30.1.length k32)), (9, (.slice p50 s47.1.length k51)), (10, (.slice p53 s47.2.1.length k54)), (11, (.int .i64 rows44)), (12, (.int .i64 s47.2.2.1)), (13, (.int .i64 s47.2.2.2))] F_48 [ownSl 1 (Ex (cInt .i64)) F_48 3 p53 k54 s47.2.1, ownSl 1 (Ex (cInt .u8)) F_48 5 p50 k51 s47.1, R] a w) (fun b0 e a w => match b0 with | .inl b156 => e = .exit 0 ∧ ∃ (F_157 : Fz) (p159 : Option Addr) (k160 : Nat) (p162 : Option Addr) (k163 : Nat), F_28 ≤ F_157 ∧ Hd 164 [] [(7, (.slice p31 r_30.1.length k32)), (9, (.slice p159 b156.1.length k160)), (10, (.slice p162 b156.2.length k163))] F_157 [ownSl 1 (Ex (cInt .i64)) F_157 3 p162 k163 b156.2, ownSl 1 (Ex (cInt .u8)) F_157 5 p159 k160 b156.1, R] a w | .inr b156 => e = .ret ∧ ∃ (F_165 : Fz), F_28 ≤ F_165 ∧ Hd 164 [] [(6, (.bool b156))] F_165 [R] a w) ?_ ?_ ?_
   ·exact fun a w h => ⟨F_28, p41, k42, none, 0, Fz.r, h.1.sub (.cons (k := 1) rfl (.cons (k := 2) rfl (.cons (k := 7) rfl (.cons (k := 9) rfl (.cons (k := 10) rfl (.cons (k := 11) rfl (.cons (k := 12) rfl (.cons (k := 13) rfl (.nil _))))))))), h.2⟩
   ·intro s47 ctl
    refine GC.ex (fun a w ⟨F_48, p50, k51, p53, k54, l_49, hA⟩ => ⟨_, hA, ?_⟩)
    unfold b_wormtublaw14_FileGroups_1
    refine .seq (.seq (.region (.move rfl rfl (.move rfl rfl (.lss rfl rfl rfl (.nil (.code (.cond rfl (fun hb56 => ?_) (fun hb56 => ?_)))))))))
    ·skip
     refine .skip (.code (.seq (.block (.seq (.region (.move rfl rfl (.move rfl rfl (.sub rfl rfl rfl (.min2 rfl rfl rfl (.assignL rfl rfl (fun n_57 e58 => ?_)))))))))))
     refine .nil (.code (.seq (.region (.move rfl rfl (.move rfl rfl (.move rfl rfl (.lenS rfl rfl Tryz.underlying25 rfl (.rem rfl rfl rfl (fun q59 e60 => ?_)))))))))
     refine .idx rfl Tryz.underlying25 Tryz.sizeOf5 (h8.mono (Fz.t l_14 (Fz.t l_19 (Fz.t l_23 (Fz.t l_29 l_49))))) rfl rfl (fun x61 b62 o63 T64 fr65 cs66 e67 hm68 hv69 => ?_)
     refine .loadF rfl Tryz.isAgg5 rfl hm68 (cell_of_take (k := 0) hv69 rfl) (.convI rfl Tryz.underlying5 Tryz.underlying3 rfl (.move rfl rfl (.add rfl rfl rfl (.rem rfl rfl rfl (fun q71 e72 => ?_)))))
     refine .assign rfl rfl (.nil (.keep (.cons (k := 1) rfl (.cons (k := 2) rfl (.cons (k := 7) rfl (.cons (k := 9) rfl (.cons (k := 10) rfl (.cons (k := 11) rfl (.cons (k := 12) rfl (.cons (k := 13) rfl (.cons (k := 14) rfl (.cons (k := 15) rfl (.nil _))))))))))) (.code (.seq (.seq (.region (.move rfl rfl (.move rfl rfl (.eql rfl rfl rfl (.nil (.code ?_)))))))))))
     refine .cond rfl (fun hb73 => ?_) (fun hb73 => ?_)
     ·skip
      refine .exit rfl (.code (.region (.move rfl rfl (.add rfl rfl rfl (.move rfl rfl (.add rfl rfl rfl (.assignL rfl rfl (fun first_74 e75 => ?_))))))))
      refine .assignL rfl rfl (fun group76 e77 => ?_)
      refine .nil ?_
      exact .nil (LPost.norm fun a w h => ⟨F_48, p50, k51, p53, k54, l_49, h.1.sub (.cons (k := 1) rfl (.cons (k := 2) rfl (.cons (k := 7) rfl (.cons (k := 9) rfl (.cons (k := 10) rfl (.cons (k := 11) rfl (.cons (k := 12) rfl (.cons (k := 13) rfl (.nil _))))))))), h.2⟩)
     ·skip
      refine .skip (.code (.seq (.region (.move rfl rfl (.move rfl rfl (.move rfl rfl (.add rfl rfl rfl (.mul rfl rfl rfl (.move rfl rfl (.move rfl rfl (.add rfl rfl rfl ?_)))))))))))
      refine .add rfl rfl rfl (.mul rfl rfl rfl (.subOwn 1 rfl rfl Tryz.underlying25 Tryz.sizeOf5 rfl rfl rfl (fun l_78 e79 => ?_)))
      refine .assign rfl rfl (.nil (.keep (.cons (k := 1) rfl (.cons (k := 2) rfl (.cons (k := 7) rfl (.cons (k := 9) rfl (.cons (k := 10) rfl (.cons (k := 11) rfl (.cons (k := 12) rfl (.cons (k := 13) rfl (.cons (k := 14) rfl (.cons (k := 15) rfl (.cons (k := 16) rfl (.nil _)))))))))))) (.code (.seq (.seq (.region (.move rfl rfl (.lenS rfl rfl Tryz.underlying25 rfl (.move rfl rfl (.nil (.code ?_)))))))))))
      refine .block (.keep (.cons (k := 1) rfl (.cons (k := 2) rfl (.cons (k := 7) rfl (.cons (k := 9) rfl (.cons (k := 10) rfl (.cons (k := 11) rfl (.cons (k := 12) rfl (.cons (k := 13) rfl (.cons (k := 14) rfl (.cons (k := 15) rfl (.cons (k := 16) rfl (.cons (k := 88) rfl (.cons (k := 89) rfl (.nil _)))))))))))))) ?_)
      refine .loop (fun (s80 : (List Int) × Int) a w => ∃ (F_81 : Fz) (p83 : Option Addr) (k84 : Nat), F_48 ≤ F_81 ∧ Hd 164 [] [(1, (.slice p6 which5.length k7)), (2, (.slice p10 bytes9.length k11)), (7, (.slice p31 r_30.1.length k32)), (9, (.slice p83 s80.1.length k84)), (10, (.slice p53 s47.2.1.length k54)), (11, (.int .i64 rows44)), (12, (.int .i64 s47.2.2.1)), (13, (.int .i64 s47.2.2.2)), (14, (.int .i64 n_57)), (15, (.int .i64 q71)), (16, (.slice (p83.map (·.add (((w64 (96 * (w64 (s47.2.2.1 + q71))))).toNat * 1))) l_78.length (k84 - ((w64 (96 * (w64 (s47.2.2.1 + q71))))).toNat))), (88, (.int .i64 (l_78.length : Int))), (89, (.int .i64 s80.2))] F_81 [ownSl 1 (Ex (cInt .i64)) F_48 3 p53 k54 s47.2.1, ownSl 1 (Ex (cInt .u8)) F_81 5 p83 k84 s80.1, R] a w) (fun b108 e a w => e = .exit 2 ∧ ∃ (F_109 : Fz) (p111 : Option Addr) (k112 : Nat), F_48 ≤ F_109 ∧ Hd 164 [] [(1, (.slice p6 which5.length k7)), (2, (.slice p10 bytes9.length k11)), (7, (.slice p31 r_30.1.length k32)), (9, (.slice p111 b108.length k112)), (10, (.slice p53 s47.2.1.length k54)), (11, (.int .i64 rows44)), (12, (.int .i64 s47.2.2.1)), (13, (.int .i64 s47.2.2.2)), (14, (.int .i64 n_57)), (15, (.int .i64 q71)), (16, (.slice (p111.map (·.add (((w64 (96 * (w64 (s47.2.2.1 + q71))))).toNat * 1))) l_78.length (k112 - ((w64 (96 * (w64 (s47.2.2.1 + q71))))).toNat)))] F_109 [ownSl 1 (Ex (cInt .i64)) F_48 3 p53 k54 s47.2.1, ownSl 1 (Ex (cInt .u8)) F_109 5 p111 k112 b108, R] a w) ?_ ?_ ?_
      ·exact fun a w h => ⟨F_48, p50, k51, Fz.r, h.1.sub (.cons (k := 1) rfl (.cons (k := 2) rfl (.cons (k := 7) rfl (.cons (k := 9) rfl (.cons (k := 10) rfl (.cons (k := 11) rfl (.cons (k := 12) rfl (.cons (k := 13) rfl (.cons (k := 14) rfl (.cons (k := 15) rfl (.cons (k := 16) rfl (.cons (k := 88) rfl (.cons (k := 89) rfl (.nil _)))))))))))))), h.2⟩
      ·intro s80 ctl
       refine GC.ex (fun a w ⟨F_81, p83, k84, l_82, hA⟩ => ⟨_, hA, ?_⟩)
       unfold b_wormtublaw14_FileGroups_2
       refine .seq (.region (.lss rfl rfl rfl (.nil (.code (.seq (.cond rfl (fun hb86 => ?_) (fun hb86 => ?_)))))))
       ·skip
        refine .skip (.code (.seq (.block (.seq (.region (.move rfl rfl (.assign rfl rfl (.nil (.code (.region (.move rfl rfl ?_)))))))))))
        refine .move rfl rfl (.move rfl rfl (.move rfl rfl (.move rfl rfl (.add rfl rfl rfl (.move rfl rfl (.lenS rfl rfl Tryz.underlying25 rfl (.rem rfl rfl rfl (fun q87 e88 => ?_))))))))
        refine .idx rfl Tryz.underlying25 Tryz.sizeOf5 (h12.mono (Fz.t l_14 (Fz.t l_19 (Fz.t l_23 (Fz.t l_29 (Fz.t l_49 l_82)))))) rfl rfl (fun x89 b90 o91 T92 fr93 cs94 e95 hm96 hv97 => ?_)
        refine .loadF rfl Tryz.isAgg5 rfl hm96 (cell_of_take (k := 0) hv97 rfl) (.bind (fun j99 hj100 => .bind (fun x101 e102 => ?_)))
        refine .ownAddr 1 rfl e102 (fun b103 hp104 => ?_)
        refine .idxSub hp104 (sliceP_some e79).1 hj100 rfl Tryz.underlying25 Tryz.sizeOf5 rfl rfl (.letv (fun l_105 e106 => ?_))
        have hn107 : s80.1.length = l_105.length := by rw [e106, List.length_set]
        refine .storeOwn0 (z' := x89) (off := 0) (us := [(.int .u8 x89)]) 1 rfl Tryz.sizeOf5 hp104 e102 rfl rfl rfl rfl rfl rfl rfl (fun F' vs le h => by subst h; exact (setMany_all (by rfl))) e106 (.nil (.block ?_))
        refine .keep (.cons (k := 1) rfl (.cons (k := 2) rfl (.cons (k := 7) rfl (.cons (k := 9) rfl (.cons (k := 10) rfl (.cons (k := 11) rfl (.cons (k := 12) rfl (.cons (k := 13) rfl (.cons (k := 14) rfl (.cons (k := 15) rfl (.cons (k := 16) rfl (.cons (k := 88) rfl (.cons (k := 89) rfl (.nil _)))))))))))))) (.code (.region (.add rfl rfl rfl (.move rfl rfl (.nil ?_)))))
        refine .reslot 9 rfl (v' := .slice p83 l_105.length k84) (congrArg (fun q => Value.slice p83 q k84) hn107) ?_
        exact .nil (LPost.norm fun a w h => ⟨F_81, p83, k84, l_82, h.1.sub (.cons (k := 1) rfl (.cons (k := 2) rfl (.cons (k := 7) rfl (.cons (k := 9) rfl (.cons (k := 10) rfl (.cons (k := 11) rfl (.cons (k := 12) rfl (.cons (k := 13) rfl (.cons (k := 14) rfl (.cons (k := 15) rfl (.cons (k := 16) rfl (.cons (k := 88) rfl (.cons (k := 89) rfl (.nil _)))))))))))))), h.2⟩)
       ·skip
        refine .exitOut rfl (LPost.exit fun a w h => ⟨rfl, F_81, p83, k84, l_82, h.1.sub (.cons (k := 1) rfl (.cons (k := 2) rfl (.cons (k := 7) rfl (.cons (k := 9) rfl (.cons (k := 10) rfl (.cons (k := 11) rfl (.cons (k := 12) rfl (.cons (k := 13) rfl (.cons (k := 14) rfl (.cons (k := 15) rfl (.cons (k := 16) rfl (.nil _)))))))))))), h.2⟩)
      ·intro b108 hb0 hk e a w hD
       obtain ⟨rfl, F_109, p111, k112, l_110, hA⟩ := hD
       refine interp_exit rfl (GE.app ?_ hk a w hA)
       refine .code (.seq (.region (.move rfl rfl (.move rfl rfl (.move rfl rfl (.add rfl rfl rfl (.mul rfl rfl rfl (.move rfl rfl (.move rfl rfl (.add rfl rfl rfl (.add rfl rfl rfl ?_)))))))))))
       refine .mul rfl rfl rfl (.sliceLoHi rfl Tryz.underlying25 Tryz.sizeOf5 (h33.mono (Fz.t l_49 l_110)) rfl rfl rfl (fun l_114 p115 k116 e117 h118 => ?_))
       refine .bytesStr rfl Tryz.underlying25 Tryz.underlying5 Tryz.underlying9 h118 rfl (.assign rfl rfl (.nil (.code (.seq (.seq (.region (.move rfl rfl (.bind (fun l_119 e120 => ?_)))))))))
       refine .strSub 1 rfl e120 ((sliceP_some e79).2.2.2.2.trans (sliceP_some e120).2.2.2.2.symm) rfl Tryz.underlying25 Tryz.underlying5 Tryz.underlying9 rfl (.move rfl rfl (.eqlS rfl Tryz.underlying9 rfl rfl (.nil ?_)))
       refine .keep (.cons (k := 1) rfl (.cons (k := 2) rfl (.cons (k := 7) rfl (.cons (k := 9) rfl (.cons (k := 10) rfl (.cons (k := 11) rfl (.cons (k := 12) rfl (.cons (k := 13) rfl (.cons (k := 14) rfl (.cons (k := 15) rfl (.cons (k := 16) rfl (.cons (k := 120) rfl (.nil _))))))))))))) (.code (.cond rfl (fun hb121 => ?_) (fun hb121 => ?_)))
       ·skip
        refine .exit rfl (.code (.region (.move rfl rfl (.add rfl rfl rfl (.move rfl rfl (.add rfl rfl rfl (.assignL rfl rfl (fun first_122 e123 => ?_))))))))
        refine .assignL rfl rfl (fun group124 e125 => ?_)
        refine .nil (.ownUp 0 l_110 rfl ?_)
        exact .nil (LPost.norm fun a w h => ⟨F_109, p111, k112, p53, k54, (Fz.t l_49 l_110), h.1.sub (.cons (k := 1) rfl (.cons (k := 2) rfl (.cons (k := 7) rfl (.cons (k := 9) rfl (.cons (k := 10) rfl (.cons (k := 11) rfl (.cons (k := 12) rfl (.cons (k := 13) rfl (.nil _))))))))), h.2⟩)
       ·skip
        refine .skip (.code (.seq (.seq (.region (.move rfl rfl (.bind (fun l_126 e127 => ?_)))))))
        refine .strSub 1 rfl e127 ((sliceP_some e79).2.2.2.2.trans (sliceP_some e127).2.2.2.2.symm) rfl Tryz.underlying25 Tryz.underlying5 Tryz.underlying9 rfl (.call0 rfl Tryz.call25 rfl rfl rfl (c_wormtubref14_Right _ (u8s l_126)) ?_)
        rintro r_130 F_128 _ - l_129 ⟨p131, k132, rfl, h133⟩
        refine .move rfl rfl (.extract rfl rfl rfl (.extract rfl rfl rfl (.alloc (cs := (cApiBooked (ApiBooked.mk 0 ([])) none 0)) rfl Tryz.zeroValue41 rfl (fun b134 => ?_))))
        refine .store (cs' := (cApiBooked r_130.1 p131 k132)) Tryz.sizeOf41 rfl rfl rfl rfl (i := 0) rfl (Nat.le_of_ble_eq_true rfl) rfl (setMany_all (by rfl)) (.assign rfl rfl (.nil (.code (.seq (.region (.move rfl rfl (.move rfl rfl (.andP (b := r_130.2) (b' := (decide (q71 < (w64 (n_57 - 1))))) 5 133 (fun hb135 => ?_) (fun hb136 => ?_) (fun F_137 l_138 => ?_)))))))))
        ·skip
         refine .onH hb135 rfl rfl (.move rfl rfl (.onH hb135 rfl rfl (.move rfl rfl (.onH hb135 rfl rfl (.sub rfl rfl rfl (.onH hb135 rfl rfl (.lss rfl rfl rfl (.pickTH hb135 rfl rfl rfl ?_))))))))
         exact .fin 5 rfl rfl (by kernel_rfl) Fz.r
        ·skip
         refine .offH hb136 rfl rfl rfl (.offH hb136 rfl rfl rfl (.offH hb136 rfl rfl rfl (.offH hb136 rfl rfl rfl (.pickFH hb136 rfl rfl rfl ?_))))
         exact .fin 5 rfl rfl (by kernel_rfl) Fz.r
        refine .nil (.code (.cond rfl (fun hb139 => ?_) (fun hb139 => ?_)))
        ·skip
         refine .seq (.region (.call0 rfl Tryz.call16 rfl rfl rfl (c_wormtublaw14_alive _ (hT.mono (Fz.t l_14 (Fz.t l_19 (Fz.t l_23 (Fz.t l_29 (Fz.t l_49 (Fz.t l_110 (Fz.t l_129 l_138))))))))) ?_))
         rintro r_142 F_140 _ - l_141 rfl
         refine .assign rfl rfl (.nil (.keep (.cons (k := 6) rfl (.nil _)) (.code (.drop 2 (.drop 1 (.drop 0 (.retQ (LPost.ret fun a w h => ⟨rfl, F_140, (Fz.t l_49 (Fz.t l_110 (Fz.t l_129 (Fz.t l_138 l_141)))), h.1.sub (.cons (k := 6) rfl (.nil _)), h.2⟩))))))))
        ·skip
         refine .skip (.code (.region (.move rfl rfl (.move rfl rfl (.move rfl rfl (.add rfl rfl rfl (.sliceLit (cs := [.int .i64 (w64 (s47.2.2.1 + q71))]) (zc := [.int .i64 0]) rfl Tryz.underlying31 Tryz.sizeOf3 Tryz.zeroValue3 rfl rfl rfl (by kernel_rfl) (by kernel_rfl) (fun b143 F_144 l_145 hb146 => ?_))))))))
         have h147 : RepSl 1 (Ex (cInt .i64)) F_144 (some ⟨b143, 0, none⟩) 1 ([(w64 (s47.2.2.1 + q71))]) := RepSl.ofRow hb146 (.cons ok_t3.mono rfl .nil) rfl rfl
         refine .append 1 ok_t3 (Fz.t l_110 (Fz.t l_129 (Fz.t l_138 l_145))) rfl Tryz.underlying31 Tryz.underlying31 rfl rfl rfl h147 rfl rfl (fun l_148 p149 k150 e151 => ?_)
         refine .assign rfl rfl (.nil (.block (.keep (.cons (k := 1) rfl (.cons (k := 2) rfl (.cons (k := 7) rfl (.cons (k := 9) rfl (.cons (k := 10) rfl (.cons (k := 11) rfl (.cons (k := 12) rfl (.cons (k := 13) rfl (.nil _))))))))) (.code (.region (.move rfl rfl (.add rfl rfl rfl (.move rfl rfl (.add rfl rfl rfl (.assignL rfl rfl (fun first_152 e153 => ?_)))))))))))
         refine .assignL rfl rfl (fun group154 e155 => ?_)
         refine .nil (.drop 0 (.ownUp 1 (Fz.t l_129 (Fz.t l_138 l_145)) rfl ?_))
         exact .nil (LPost.norm fun a w h => ⟨F_144, p111, k112, p149, k150, (Fz.t l_49 (Fz.t l_110 (Fz.t l_129 (Fz.t l_138 l_145)))), h.1.sub (.cons (k := 1) rfl (.cons (k := 2) rfl (.cons (k := 7) rfl (.cons (k := 9) rfl (.cons (k := 10) rfl (.cons (k := 11) rfl (.cons (k := 12) rfl (.cons (k := 13) rfl (.nil _))))))))), h.2⟩)
    ·skip
     refine .exitOut rfl (LPost.exit fun a w h => ⟨rfl, F_48, p50, k51, p53, k54, l_49, h.1.sub (.cons (k := 7) rfl (.cons (k := 9) rfl (.cons (k := 10) rfl (.nil _)))), h.2⟩)
   ·intro b156 hb0 hk e a w hD
    rcases b156 with b156 | b156
    ·skip
     obtain ⟨rfl, F_157, p159, k160, p162, k163, l_158, hA⟩ := hD
     refine interp_exit rfl (GE.app ?_ hk a w hA)
     refine .code (.seq (.region (.move rfl rfl (.freezeSl 1 rfl Fz.r (fun F_167 l_168 h169 => ?_)))))
     refine .call0 rfl Tryz.call21 rfl rfl rfl (c_file_Repair _ (hT.mono (Fz.t l_14 (Fz.t l_19 (Fz.t l_23 (Fz.t l_29 (Fz.t l_158 l_168)))))) b156.1 p159 k160 h169) ?_
     rintro r_172 F_170 _ - l_171 ⟨p173, k174, p176, k177, rfl, h175, h178⟩
     refine .move rfl rfl (.extract rfl rfl rfl (.extract rfl rfl rfl (.extract rfl rfl rfl (.assign rfl rfl (.assign rfl rfl (.assign rfl rfl (.nil (.code (.seq (.region (.move rfl rfl ?_)))))))))))
     refine .eql rfl rfl rfl (.move rfl rfl (.andP (b := (r_172.2.2 == 0)) (b' := ((u8s r_172.1) == (u8s r_30.1))) 6 155 (fun hb179 => ?_) (fun hb180 => ?_) (fun F_181 l_182 => ?_)))
     ·skip
      refine .onH hb179 rfl rfl (.move rfl rfl (.onH hb179 rfl rfl (.bytesStr rfl Tryz.underlying25 Tryz.underlying5 Tryz.underlying9 h175 rfl (.onH hb179 rfl rfl (.move rfl rfl (.onH hb179 rfl rfl (.bytesStr rfl Tryz.underlying25 Tryz.underlying5 Tryz.underlying9 (h33.mono (Fz.t l_158 (Fz.t l_168 l_171))) rfl (.onH hb179 rfl rfl (.eqlS rfl Tryz.underlying9 rfl rfl (.pickTH hb179 rfl rfl rfl ?_))))))))))
      exact .fin 6 rfl rfl (by kernel_rfl) Fz.r
     ·skip
      refine .offH hb180 rfl rfl rfl (.offH hb180 rfl rfl rfl (.offH hb180 rfl rfl rfl (.offH hb180 rfl rfl rfl (.offH hb180 rfl rfl rfl (.pickFH hb180 rfl rfl rfl ?_)))))
      exact .fin 6 rfl rfl (by kernel_rfl) Fz.r
     refine .move rfl rfl (.andM (b := ((r_172.2.2 == 0) && ((u8s r_172.1) == (u8s r_30.1)))) 4 160 (fun hb183 z194 => ?_) (fun hb190 => ?_) (fun z193 F_191 l_192 => ?_))
     ·skip
      refine .onH hb183 rfl rfl (.move rfl rfl (.onH hb183 rfl rfl (.move rfl rfl (.onH hb183 rfl rfl (.callLend 0 rfl rfl Tryz.call24 rfl rfl rfl (fun F_184 l_185 h186 => (c_wormtubref14_Ints _ r_172.2.1 p176 k177 (h178.mono (Fz.t l_182 l_185)) b156.2 p162 k163 h186)) (fun r_187 F_188 _ l_189 => ?_))))))
      refine .pickTH hb183 rfl rfl rfl ?_
      exact .finZ 4 rfl rfl (by kernel_rfl) l_189
     ·skip
      refine .offH hb190 rfl rfl rfl (.offH hb190 rfl rfl rfl (.offH hb190 rfl rfl rfl (.pickFH hb190 rfl rfl rfl ?_)))
      exact .fin 4 rfl rfl (by kernel_rfl) Fz.r
     refine .move rfl rfl (.andM (b := z193) 2 163 (fun hb195 z203 => ?_) (fun hb199 => ?_) (fun z202 F_200 l_201 => ?_))
     ·skip
      refine .onH hb195 rfl rfl (.call0 rfl Tryz.call16 rfl rfl rfl (c_wormtublaw14_alive _ (hT.mono (Fz.t l_14 (Fz.t l_19 (Fz.t l_23 (Fz.t l_29 (Fz.t l_158 (Fz.t l_168 (Fz.t l_171 (Fz.t l_182 l_192)))))))))) ?_)
      rintro r_198 F_196 _ - l_197 rfl
      refine .pickTH hb195 rfl rfl rfl ?_
      exact .finZ 2 rfl rfl (by kernel_rfl) l_197
     ·skip
      refine .offH hb199 rfl rfl rfl (.pickFH hb199 rfl rfl rfl ?_)
      exact .fin 2 rfl rfl (by kernel_rfl) Fz.r
     refine .assign rfl rfl (.nil (.code ?_))
     exact .ret0 Tryz.results7 (.tmp rfl (.nil)) (i := 1) rfl (Fz.t l_14 (Fz.t l_19 (Fz.t l_23 (Fz.t l_29 (Fz.t l_158 (Fz.t l_168 (Fz.t l_171 (Fz.t l_182 (Fz.t l_192 l_201))))))))) rfl
    obtain ⟨rfl, F_165, l_166, hA⟩ := hD
    exact interp_ret ((ret_post0 Tryz.results7 (.tmp rfl (.nil)) (i := 0) rfl (Fz.t l_14 (Fz.t l_19 (Fz.t l_23 (Fz.t l_29 l_166)))) rfl) hk a w hA)
end Go.Proofs.YthnlglmjffdpfaaGreatDoor
end

section
namespace Go.Proofs.YthnlglmjffdpfaaGreatDoor
open Go.Dec
theorem range_cut {n i : Nat} (h : i < n) : List.range n = List.range i ++ i :: List.range' (i + 1) (n - i - 1) := by
  rw [List.range_eq_range', List.range_eq_range', ← List.range'_succ, show n - i - 1 + 1 = n - i by omega]
  have := List.range'_append_1 (s := 0) (m := i) (n := n - i)
  rw [show i + (n - i) = n by omega, Nat.zero_add] at this
  exact this.symm
theorem changed_set {W R : List Bytes} {m : Nat} {r : Bytes} (e : R.length = W.length) (hm : m < W.length) (hr : r ≠ W.getD m []) (hge : ∀ i, m ≤ i → R.getD i [] = W.getD i []) : changedS (R.set m r) W = changedS R W ++ [(m : Int)] := by
  unfold changedS
  rw [List.length_set, e, range_cut hm, List.filter_append, List.filter_append, List.map_append, List.map_append]
  have h1 : (List.range m).filter (fun i => decide (W.getD i [] ≠ (R.set m r).getD i [])) = (List.range m).filter (fun i => decide (W.getD i [] ≠ R.getD i [])) := by
    apply List.filter_congr
    intro i hi
    have hi' : i < m := by simpa using hi
    rw [getD_set, if_neg (by omega)]
  have h2 : ∀ Q : List Bytes, (∀ i, m < i → Q.getD i [] = W.getD i []) → (List.range' (m + 1) (W.length - m - 1)).filter (fun i => decide (W.getD i [] ≠ Q.getD i [])) = [] := by
    intro Q hQ
    rw [List.filter_eq_nil_iff]
    intro i hi
    rw [List.mem_range'_1] at hi
    rw [hQ i (by omega)]; simp
  rw [h1, List.filter_cons, List.filter_cons, h2 _ (fun i hi => by rw [getD_set, if_neg (by omega)]; exact hge i (by omega)), h2 R (fun i hi => hge i (by omega))]
  rw [if_pos (by rw [getD_set, if_pos ⟨rfl, by omega⟩]; simpa using fun h => hr h.symm), if_neg (by rw [hge m (Nat.le_refl _)]; simp)]
  simp
theorem set_self_row {R : List Bytes} {m : Nat} (r : Bytes) (h : r = R.getD m []) : R.set m r = R := by
  apply ext_getD ([] : Bytes) (by rw [List.length_set])
  intro i hi
  rw [getD_set]
  split
  · rename_i hc; rw [h, hc.1]
  · rfl
def mixS (v : Nat → UInt8) (r : Bytes) (i : Nat) : Bytes := (List.range 96).map fun j => if j < i then v j else r.getD j 0
theorem mix_len (v : Nat → UInt8) (r : Bytes) (i : Nat) : (mixS v r i).length = 96 := by simp [mixS]
theorem mix_at (v : Nat → UInt8) (r : Bytes) (i : Nat) {j : Nat} (h : j < 96) : (mixS v r i).getD j 0 = if j < i then v j else r.getD j 0 := by
  unfold mixS
  rw [getD_map (d := 0) _ (by simpa using h), List.getD_eq_getElem?_getD, List.getElem?_range h]; rfl
theorem mix_0 (v : Nat → UInt8) {r : Bytes} (h : r.length = 96) : mixS v r 0 = r := by
  apply ext_getD (0 : UInt8) (by rw [mix_len, h])
  intro j hj
  rw [mix_len] at hj
  rw [mix_at v r 0 hj, if_neg (by omega)]
theorem mix_succ (v : Nat → UInt8) (r : Bytes) {i : Nat} (h : i < 96) : (mixS v r i).set i (v i) = mixS v r (i + 1) := by
  apply ext_getD (0 : UInt8) (by rw [List.length_set, mix_len, mix_len])
  intro j hj
  rw [List.length_set, mix_len] at hj
  rw [getD_set, mix_len, mix_at v r i hj, mix_at v r (i + 1) hj]
  by_cases e : i = j
  · subst e; rw [if_pos ⟨rfl, h⟩, if_pos (by omega)]
  · rw [if_neg (by omega)]
    by_cases e2 : j < i
    · rw [if_pos e2, if_pos (by omega)]
    · rw [if_neg e2, if_neg (by omega)]
theorem rem_nat {a n : Nat} (h : 0 < n) : remK (a : Int) (n : Int) = some ((a % n : Nat) : Int) := by
  unfold remK
  rw [if_neg (by omega), Int.tmod_eq_emod_of_nonneg (by omega)]; rfl
theorem at_row {f q : Nat} (h : f + q ≤ 100000) : w64 (96 * (w64 ((f : Int) + (q : Int)))) = ((96 * (f + q) : Nat) : Int) ∧ w64 (96 * (w64 ((w64 ((f : Int) + (q : Int))) + 1))) = ((96 * (f + q) + 96 : Nat) : Int) ∧ w64 ((f : Int) + (q : Int)) = ((f + q : Nat) : Int) := by
  have h1 : w64 ((f : Int) + (q : Int)) = ((f + q : Nat) : Int) := by rw [w64_id (by omega) (by omega)]; omega
  refine ⟨?_, ?_, h1⟩
  · rw [h1, w64_id (by omega) (by omega)]; omega
  · rw [h1, nx (by omega), w64_id (by omega) (by omega)]; omega
theorem rows_slice {R : List Bytes} (h96 : ∀ r ∈ R, r.length = 96) {m : Nat} (hm : m < R.length) : sliceL (i8s R.flatten) ((96 * m : Nat) : Int) ((96 * m + 96 : Nat) : Int) = some (i8s (R.getD m [])) := by
  have e := flat96 h96
  rw [i8s_slice (by omega) (by omega), show 96 * m + 96 - 96 * m = 96 by omega, flat_cut h96 hm]
theorem rows_part {R : List Bytes} (h96 : ∀ r ∈ R, r.length = 96) {m : Nat} (hm : m < R.length) : sliceP (i8s R.flatten) ((96 * m : Nat) : Int) ((96 * m + 96 : Nat) : Int) = some (i8s (R.getD m [])) := by
  unfold sliceP
  rw [if_pos (by omega)]; exact rows_slice h96 hm
theorem set_row96 {R : List Bytes} (h : ∀ r ∈ R, r.length = 96) (m : Nat) {r : Bytes} (hr : r.length = 96) : ∀ q ∈ R.set m r, q.length = 96 := by
  intro q hq
  rcases List.mem_or_eq_of_mem_set hq with e | e
  · exact h q e
  · rw [e, hr]
theorem fill_loop {R : List Bytes} (h96 : ∀ r ∈ R, r.length = 96) {bs : Bytes} (hbs : 0 < bs.length) {f g q : Nat} (hm : f + q < R.length) (hR : R.length ≤ 1000) (hg : g ≤ 1000) {want : List Int} {l : List Int} (hl : l.length = 96) :
    loopM (b_wormtublaw14_FileGroups_2 (i8s bs) (i8s R.flatten, want, (f : Int), (g : Int)) (q : Int) l) (i8s R.flatten, 0) = some (i8s (R.set (f + q) (mixS (fun j => bs.getD ((j + g) % bs.length) 0) (R.getD (f + q) []) 96)).flatten) := by
  obtain ⟨a1, a2, a3⟩ := at_row (f := f) (q := q) (by omega)
  have hr := h96 _ (getD_in (d := ([] : Bytes)) hm)
  obtain ⟨t, rfl, hq⟩ := loopM_upto (body := b_wormtublaw14_FileGroups_2 (i8s bs) (i8s R.flatten, want, (f : Int), (g : Int)) (q : Int) l) (fun i (t : List Int) => (t, (i : Int))) (fun t => t)
    (fun i t => t = i8s (R.set (f + q) (mixS (fun j => bs.getD ((j + g) % bs.length) 0) (R.getD (f + q) []) i)).flatten) 96
    (fun i t hi ht => by
      subst ht
      refine ⟨_, ?_, rfl⟩
      have h96' := set_row96 h96 (f + q) (mix_len (fun j => bs.getD ((j + g) % bs.length) 0) (R.getD (f + q) []) i)
      have hlen := flat96 h96'
      rw [List.length_set] at hlen
      have hv : w64 ((i : Int) + (g : Int)) = ((i + g : Nat) : Int) := by rw [w64_id (by omega) (by omega)]; omega
      have hmod : (i + g) % bs.length < bs.length := Nat.mod_lt _ hbs
      unfold b_wormtublaw14_FileGroups_2
      rw [if_pos (by rw [decide_eq_true_eq, hl]; show (i : Int) < _; omega)]
      refine bind_of (a := (((i + g) % bs.length : Nat) : Int)) ?_ (bind_of (i8s_idx hmod) (bind_of (a := i) ?_ ?_))
      · show remK (w64 ((i : Int) + (g : Int))) ((i8s bs).length : Int) = _
        rw [hv, i8s_len]; exact rem_nat hbs
      · rw [hl]; exact idxO_nat hi
      · have hix : w64 (96 * (w64 ((f : Int) + (q : Int)))) + ((i : Nat) : Int) = ((96 * (f + q) + i : Nat) : Int) := by rw [a1]; omega
        show (idxL (i8s _) (w64 (96 * (w64 ((f : Int) + (q : Int)))) + ((i : Nat) : Int))).bind _ = _
        rw [hix]
        refine bind_of (i8s_idx (by omega)) ?_
        unfold bindv
        show some (Ctl.next ((i8s _).set (((96 * (f + q) + i : Nat) : Int)).toNat _, w64 ((i : Int) + 1))) = _
        rw [Int.toNat_natCast, i8s_set, nx (by omega), flat_set h96', show (96 * (f + q) + i) / 96 = f + q by omega, show (96 * (f + q) + i) % 96 = i by omega, getD_set, if_pos ⟨rfl, hm⟩, List.set_set, mix_succ (fun j => bs.getD ((j + g) % bs.length) 0) _ hi])
    (fun t _ => by
      unfold b_wormtublaw14_FileGroups_2
      rw [if_neg (by rw [decide_eq_true_eq, hl]; show ¬ (((96 : Nat) : Int) < _); omega)]) 96 0 (i8s R.flatten) (by omega) (by rw [mix_0 _ hr, set_self_row _ rfl])
  exact hq
theorem groups_loop {l : List ApiBooked} (hb : okBook l = true) (h30 : l.length ≤ 30) {ws bs : Bytes} (hws : 0 < ws.length) (hbs : 0 < bs.length) : ∀ (d g : Nat) (R : List Bytes), (writeS l).length ≤ 9 * g + 9 * d → g + d ≤ 100 → (∀ r ∈ R, r.length = 96) → Near (writeS l) R → (∀ m, 9 * g ≤ m → R.getD m [] = (writeS l).getD m []) →
    (∃ R', loopM (b_wormtublaw14_FileGroups_1 (i8s ws) (i8s bs) (i8s (writeS l).flatten, 0) ((writeS l).length : Int)) (i8s R.flatten, changedS R (writeS l), ((9 * g : Nat) : Int), (g : Int)) = some (.inl (i8s R'.flatten, changedS R' (writeS l))) ∧ Near (writeS l) R' ∧ ∀ r ∈ R', r.length = 96) ∨
    loopM (b_wormtublaw14_FileGroups_1 (i8s ws) (i8s bs) (i8s (writeS l).flatten, 0) ((writeS l).length : Int)) (i8s R.flatten, changedS R (writeS l), ((9 * g : Nat) : Int), (g : Int)) = some (.inr true)
  | d, g, R, hd, hgd, h96, hn, hge => by
    have hWl := writeS_len l
    have hlR := hn.1
    by_cases hlt : 9 * g < (writeS l).length
    · cases d with
      | zero => omega
      | succ d =>
        have hok := (okBook_iff.1 hb).2
        have hW96 := write_96 hok
        have hmin : imin 9 (w64 (((writeS l).length : Int) - ((9 * g : Nat) : Int))) = ((min 9 ((writeS l).length - 9 * g) : Nat) : Int) := by
          rw [w64_id (by omega) (by omega)]
          unfold imin
          split <;> omega
        generalize hN : min 9 ((writeS l).length - 9 * g) = n at hmin
        have hm1 : g % ws.length < ws.length := Nat.mod_lt _ hws
        have hx := (ws.getD (g % ws.length) 0).toNat_lt
        have hq1 : remK (w64 (((ws.getD (g % ws.length) 0).toNat : Nat) : Int)) (w64 ((n : Int) + 1)) = some (((ws.getD (g % ws.length) 0).toNat % (n + 1) : Nat) : Int) := by
          rw [w64_id (by omega) (by omega), nx (by omega)]; exact rem_nat (by omega)
        have hq2 : (ws.getD (g % ws.length) 0).toNat % (n + 1) < n + 1 := Nat.mod_lt _ (by omega)
        generalize (ws.getD (g % ws.length) 0).toNat % (n + 1) = q at hq1 hq2
        have e9 : w64 (((9 * g : Nat) : Int) + 9) = ((9 * (g + 1) : Nat) : Int) := by rw [w64_id (by omega) (by omega)]; omega
        have e1 : w64 ((g : Int) + 1) = ((g + 1 : Nat) : Int) := nx (by omega)
        have rec' := groups_loop hb h30 hws hbs d (g + 1)
        rw [loopM_eq]
        by_cases hqn : q = n
        · have hstep : b_wormtublaw14_FileGroups_1 (i8s ws) (i8s bs) (i8s (writeS l).flatten, 0) ((writeS l).length : Int) (i8s R.flatten, changedS R (writeS l), ((9 * g : Nat) : Int), (g : Int)) = some (.next (i8s R.flatten, changedS R (writeS l), ((9 * (g + 1) : Nat) : Int), ((g + 1 : Nat) : Int))) := by
            unfold b_wormtublaw14_FileGroups_1
            rw [if_pos (by rw [decide_eq_true_eq]; show ((9 * g : Nat) : Int) < _; omega)]
            unfold bindv
            simp only [hmin, i8s_len]
            refine bind_of (rem_nat hws) (bind_of (i8s_idx hm1) (bind_of hq1 ?_))
            rw [if_pos (by rw [hqn]; simp), e9, e1]
          rw [hstep]
          exact rec' R (by omega) (by omega) h96 hn (fun m hm => hge m (by omega))
        · have hm : 9 * g + q < R.length := by omega
          obtain ⟨a1, a2, a3⟩ := at_row (f := 9 * g) (q := q) (by omega)
          rw [a3] at a1 a2
          have hrow := h96 _ (getD_in (d := ([] : Bytes)) hm)
          have hfill := fill_loop (want := changedS R (writeS l)) (l := i8s (R.getD (9 * g + q) [])) h96 hbs (f := 9 * g) (g := g) (q := q) hm (by omega) (by omega) (by rw [i8s_len]; exact hrow)
          generalize hr : mixS (fun j => bs.getD ((j + g) % bs.length) 0) (R.getD (9 * g + q) []) 96 = r at hfill
          have hrl : r.length = 96 := by rw [← hr, mix_len]
          have h96' := set_row96 h96 (9 * g + q) hrl
          have hget : (R.set (9 * g + q) r).getD (9 * g + q) [] = r := by rw [getD_set, if_pos ⟨rfl, hm⟩]
          have hp := rows_part h96 hm
          have hp' := rows_part h96' (m := 9 * g + q) (by rw [List.length_set]; exact hm)
          rw [hget] at hp'
          have hs := rows_slice hW96 (m := 9 * g + q) (by omega)
          have hn1 : w64 ((n : Int) - 1) = ((n - 1 : Nat) : Int) := by rw [w64_id (by omega) (by omega)]; omega
          have hbody : b_wormtublaw14_FileGroups_1 (i8s ws) (i8s bs) (i8s (writeS l).flatten, 0) ((writeS l).length : Int) (i8s R.flatten, changedS R (writeS l), ((9 * g : Nat) : Int), (g : Int)) =
              if decide (r = (writeS l).getD (9 * g + q) []) then some (.next (i8s (R.set (9 * g + q) r).flatten, changedS R (writeS l), ((9 * (g + 1) : Nat) : Int), ((g + 1 : Nat) : Int)))
              else if (rightP (rightS r)).2 && decide (q < n - 1) then some (.done (.inr true)) else some (.next (i8s (R.set (9 * g + q) r).flatten, changedS R (writeS l) ++ [((9 * g + q : Nat) : Int)], ((9 * (g + 1) : Nat) : Int), ((g + 1 : Nat) : Int))) := by
            unfold b_wormtublaw14_FileGroups_1
            rw [if_pos (by rw [decide_eq_true_eq]; show ((9 * g : Nat) : Int) < _; omega)]
            unfold bindv
            simp only [hmin, i8s_len]
            refine bind_of (rem_nat hws) (bind_of (i8s_idx hm1) (bind_of hq1 ?_))
            rw [if_neg (by rw [beq_iff_eq]; omega)]
            simp only [a1, a2, a3, e9, e1, hn1]
            refine bind_of hp (bind_of hfill (bind_of hs (bind_of hp' ?_)))
            rw [u8_eq]
            by_cases er : r = (writeS l).getD (9 * g + q) []
            · rw [if_pos (by rw [decide_eq_true er]), if_pos (by rw [decide_eq_true er])]
            · rw [if_neg (by rw [decide_eq_false er]; decide), if_neg (by rw [decide_eq_false er]; decide)]
              refine bind_of hp' ?_
              rw [u8_i8]
              refine bind_of (Right_doc hrl) ?_
              have ed : decide ((q : Int) < ((n - 1 : Nat) : Int)) = decide (q < n - 1) := by rw [decide_eq_decide]; omega
              rw [ed]
              cases hc : ((rightP (rightS r)).2 && decide (q < n - 1)) with
              | true => simp only [if_true, alive_true, Option.bind_some]
              | false =>
                simp only [Bool.false_eq_true, if_false]
                have hcl : (changedS R (writeS l)).length ≤ R.length := by
                  unfold changedS
                  rw [List.length_map]
                  have := List.length_filter_le (fun i => decide ((writeS l).getD i [] ≠ R.getD i [])) (List.range R.length)
                  rwa [List.length_range] at this
                exact bind_of (appO_some' (by rw [List.length_singleton]; omega)) rfl
          rw [hbody]
          by_cases er : r = (writeS l).getD (9 * g + q) []
          · rw [if_pos (by rw [decide_eq_true er])]
            have : R.set (9 * g + q) r = R := set_self_row r (by rw [er, hge _ (by omega)])
            rw [this]
            exact rec' R (by omega) (by omega) h96 hn (fun m hm => hge m (by omega))
          · rw [if_neg (by rw [decide_eq_false er]; decide)]
            cases hc : ((rightP (rightS r)).2 && decide (q < n - 1)) with
            | true => exact .inr rfl
            | false =>
              simp only [Bool.false_eq_true, if_false]
              rw [← changed_set hlR (by omega) er (fun i hi => hge i (by omega))]
              refine rec' _ (by omega) (by omega) h96' ⟨by rw [List.length_set]; exact hlR, fun g' => ?_⟩ (fun m hm' => by rw [getD_set, if_neg (by omega)]; exact hge m (by omega))
              by_cases eg : g' = g
              · subst eg
                refine ⟨q, fun m hml hmg => ⟨fun hne => ?_, fun h8 hlast => ?_⟩⟩
                · rw [getD_set, if_neg (by omega)]; exact hge m (by omega)
                · rw [getD_set]
                  by_cases em : 9 * g' + q = m
                  · rw [if_pos ⟨em, by omega⟩]
                    right
                    have hqn1 : q < n - 1 := by omega
                    rw [decide_eq_true hqn1, Bool.and_true] at hc
                    cases hrs : rightS r with
                    | none => rfl
                    | some y => rw [hrs] at hc; cases hc
                  · rw [if_neg (by omega)]; left; exact hge m (by omega)
              · obtain ⟨k, hk⟩ := hn.2 g'
                refine ⟨k, fun m hml hmg => ?_⟩
                rw [getD_set, if_neg (by omega)]
                exact hk m hml hmg
    · left
      refine ⟨R, ?_, hn, h96⟩
      rw [loopM_eq]
      have : b_wormtublaw14_FileGroups_1 (i8s ws) (i8s bs) (i8s (writeS l).flatten, 0) ((writeS l).length : Int) (i8s R.flatten, changedS R (writeS l), ((9 * g : Nat) : Int), (g : Int)) = some (.done (.inl (i8s R.flatten, changedS R (writeS l)))) := by
        unfold b_wormtublaw14_FileGroups_1
        rw [if_neg (by rw [decide_eq_true_eq]; show ¬ (((9 * g : Nat) : Int) < _); omega)]
      rw [this]
end Go.Proofs.YthnlglmjffdpfaaGreatDoor
end

section
namespace Go.Proofs.YthnlglmjffdpfaaGreatDoor
open Go.Dec
theorem Tryz.own : ownKnob Tryz.prog.godebug = none := by kernel_rfl
theorem Tryz.laidOut : laidOutB Tryz.prog = true := by kernel_rfl
def okApiBooked (x : ApiBooked) : Prop := (Lit.int .i64 x.Kind).wf = true ∧ (∀ y3 ∈ x.N, (Lit.int .i64 y3).wf = true)
theorem vApiBooked {H : Type} {enc : TypeId × Value → H} {W : World} : Viewed enc Tryz.prog W 41 rApiBooked okApiBooked := by
 intro sp held fuel cs x h
 obtain ⟨xs, k, _, _, hl, hxl, hx⟩ := DataW.trod_struct Tryz.underlying41 h
 have hl' : cs.length = 2 := hl.trans (by kernel_rfl)
 obtain ⟨y0, h0⟩ := some_of (hx 0 _ rfl) hxl rfl
 have e0 : Tryz.prog.cellsOf 3 = 1 := by kernel_rfl
 obtain ⟨m0, o0, q0⟩ := (Viewed.int Tryz.underlying3) _ _ _ _ _ h0
 obtain ⟨y1, h1⟩ := some_of (hx 1 _ rfl) hxl rfl
 have e1 : Tryz.prog.cellsOf 31 = 1 := by kernel_rfl
 obtain ⟨m1, o1, q1⟩ := (Viewed.slice (sz := 1) Tryz.underlying31 (by kernel_rfl) (by decide) (Viewed.int Tryz.underlying3)) _ _ _ _ _ h1
 refine ⟨⟨m0, m1⟩, ⟨o0, o1⟩, fun F' le => ?_⟩
 have w0 : (cs.drop 0).take (Tryz.prog.cellsOf 3) = (cInt .i64) m0 := q0 F' le
 rw [e0] at w0
 have w1 : (rSl 1 (Ex (cInt .i64))) F' m1 ((cs.drop 1).take (Tryz.prog.cellsOf 31)) := q1 F' le
 rw [e1] at w1
 obtain ⟨p1_0, p1_1, w1, r1_0⟩ := w1
 exact ⟨p1_0, p1_1, (cat_cons w0 (cat_cons w1 (cat_nil hl'))), r1_0⟩
theorem vt22 {H : Type} {enc : TypeId × Value → H} {W : World} : Viewed enc Tryz.prog W 22 (rSl 2 rApiBooked) (fun x => (∀ y1 ∈ x, okApiBooked y1)) := (Viewed.slice (sz := 2) Tryz.underlying22 (by kernel_rfl) (by decide) vApiBooked)
theorem vt25 {H : Type} {enc : TypeId × Value → H} {W : World} : Viewed enc Tryz.prog W 25 (rSl 1 (Ex (cInt .u8))) (fun x => (∀ y1 ∈ x, (Lit.int .u8 y1).wf = true)) := (Viewed.slice (sz := 1) Tryz.underlying25 (by kernel_rfl) (by decide) (Viewed.int Tryz.underlying5))
end Go.Proofs.YthnlglmjffdpfaaGreatDoor
end

section
namespace Go.Proofs.YthnlglmjffdpfaaGreatDoor
open Go.Dec Go.Shelf Go.RowKit Go.Maps Go.Sort
theorem arr_of_list {α : Type} {a : Array α} {l : List α} (h : a.toList = l) : a = l.toArray := by rw [← h]
theorem gErrS : Tryz.prog.globalNamed "strconv.ErrSyntax" = some 1 := by kernel_rfl
theorem gErrR : Tryz.prog.globalNamed "strconv.ErrRange" = some 2 := by kernel_rfl
theorem gPow : Tryz.prog.globalNamed "internal/strconv.uint64pow10" = some 3 := by kernel_rfl
theorem tErrS : (Tryz.prog.globals[1]?).map (·.type) = some 120 := by kernel_rfl
theorem tErrR : (Tryz.prog.globals[2]?).map (·.type) = some 120 := by kernel_rfl
theorem tPow : (Tryz.prog.globals[3]?).map (·.type) = some 196 := by kernel_rfl
theorem err_of {W : World} {ps : List MemPlace} {l : List (String × DataW Unit)} (hl : DataW.LaidVars Tryz.prog W l ps) (j g0 : Nat) {n : String} {nm : String} {d : DataW Unit} (hj : l[j]? = some (n, .iface nm d)) (hg0 : Tryz.prog.globalNamed n = some g0) (ht0 : (Tryz.prog.globals[g0]?).map (·.type) = some 120) :
    ∃ ev T fr, (FW W).mem g0 = some (.cells #[ev] T fr) ∧ (ev = .nilIface ∨ ∃ te pe, ev = .iface te pe) := by
  obtain ⟨g, t, cs, fuel, p, T, fr, hg, ht, hh, hd⟩ := laid_at j hj hl
  obtain rfl := Option.some.inj (hg0.symm.trans hg)
  obtain rfl := Option.some.inj (ht0.symm.trans ht)
  obtain ⟨u, v, hc⟩ := Go.Dec.iface_cells Tryz.underlying120 hd
  exact ⟨_, T, fr, by rw [show (FW W).mem g0 = W.heap[g0]? from rfl, hh, arr_of_list hc], .inr ⟨u, v, rfl⟩⟩
theorem cells143 : Tryz.prog.cellsOf 143 = 1 := by kernel_rfl
theorem cells196 : Tryz.prog.cellsOf 196 = 20 := by kernel_rfl
theorem pow_data : (Rows.laid_internal_strconv_uint64pow10 : DataW Unit) = Go.Lib.tabData .u64 Go.Lib.pow10Tab := by kernel_rfl
theorem maxLen0 : ((begin Tryz.prog (fun _ _ => 0) default).world.heap[0]?).bind Obj.row? = some (#[.int .i64 0], 3) := by kernel_rfl
theorem laid_plain {W : World} (h : laidMetH Tryz.prog Rows.fileWritesRow.laid W) : laidMet Tryz.prog Rows.fileWritesRow.laid W := by
  rwa [MakeChecks.laidMetH_plain _ _ _ (by kernel_rfl)] at h
set_option maxRecDepth 100000 in
theorem tabs_of {W : World} (h : laidMetH Tryz.prog Rows.fileWritesRow.laid W) (hsh : W.ShapedOpen Tryz.prog) : TabsP (FW W) := by
  obtain ⟨ps, hl, _, _⟩ := laid_plain h
  refine ⟨?_, ?_, ?_, ?_⟩
  · obtain ⟨g, t, cs, fuel, p, T, fr, hg, ht, hh, hd⟩ := laid_at 2 rfl hl
    obtain rfl := Option.some.inj (gPow.symm.trans hg)
    obtain rfl := Option.some.inj (tPow.symm.trans ht)
    have hc := Go.Lib.cells_of_tab Tryz.underlying196 Tryz.underlying143 cells143 cells196 (by rw [← pow_data]; exact hd)
    exact ⟨3, T, fr, gPow, by rw [show (FW W).mem 3 = W.heap[3]? from rfl, hh, arr_of_list hc]; rfl⟩
  · obtain ⟨m, hm⟩ := Go.Proofs.cell_of_shapedOpen_int (P := Tryz.prog) (g := 0) (t := 3) (zero := #[.int .i64 0]) hsh (of_decide_eq_true (by kernel_rfl)) maxLen0 rfl (by kernel_rfl) (by kernel_rfl) Tryz.underlying3
    obtain ⟨T, fr, hb⟩ := int_cell_block hsh (of_decide_eq_true (by kernel_rfl)) maxLen0 rfl hm
    exact ⟨m, T, fr, hb⟩
  · exact err_of hl 5 1 rfl gErrS tErrS
  · exact err_of hl 4 2 rfl gErrR tErrR
end Go.Proofs.YthnlglmjffdpfaaGreatDoor
end

section
namespace Go.Proofs.YthnlglmjffdpfaaGreatDoor
open Go.Dec
open Go.ChangeShapes Go.WideShapes Go.ChangeAt Go.RowKit
def LawFileGroups : Prop := ∀ (a0 : (List ApiBooked)) (a1 : (List Int)) (a2 : (List Int)), (∀ y ∈ a0, okApiBooked y) → (∀ y ∈ a1, (Lit.int .u8 y).wf = true) → (∀ y ∈ a2, (Lit.int .u8 y).wf = true) → m_wormtublaw14_FileGroups a0 a1 a2 = some true
set_option maxRecDepth 100000 in
theorem lifted_FileGroups (law : LawFileGroups) (os : Os) (started : os.Started) (H : Type) (enc : TypeId × Value → H) :
  ReturnsInHanded {} Tryz.checked os 7 .any (fun w args => (Rows.fileGroupsSpec.pre enc Tryz.prog Tryz.f7 Rows.fileGroupsRow.domain false w args ∧ laidMetH Tryz.prog Rows.fileGroupsRow.laid w) ∧ sizedMet enc Tryz.prog Tryz.f7 (OpenSpec.ofChange Rows.fileGroupsSpec) false w args) (Rows.fileGroupsSpec.post enc Tryz.prog Tryz.f7 false true false false) := by
 refine lift_tied (C := Tryz.checked) (X := fun w => laidMetH Tryz.prog Rows.fileGroupsRow.laid w) (fun _ _ hh h => h.of_heap hh) Tryz.own started (by kernel_rfl) Tryz.func7
  (ChangeSpec.witness_shaped (enc := enc) (C := Tryz.checked) (os := os) (X := fun w _ => laidMetH Tryz.prog Rows.fileGroupsRow.laid w) false (World.laidAll Tryz.prog os Rows.fileGroupsRow.laid) #[.slice none 0 0, .slice none 0 0, .slice none 0 0] 12 (World.laidAll_os _ _ _) (World.shaped_of_ZipB (by kernel_rfl) (by kernel_rfl)) (by kernel_rfl) (by kernel_rfl) (by kernel_rfl)
   (by rw [MakeChecks.laidMetH_plain _ _ _ (by kernel_rfl)]; exact laidMet_laidAll _ (by kernel_rfl) (by kernel_rfl))) ?_
 intro W base args ds gs before hval hW hsh hL
 have hT : TabsP (FW W) := tabs_of hL hsh
 refine law_contractW (P := Tryz.prog) Tryz.laidOut (by kernel_rfl) rfl (by kernel_rfl : Tryz.f7.resultTypes = #[4]) Tryz.underlying4 (fun ds h => ?_) (fun base args ds ps hval hA => ?_) base args ds gs before hval hW
 ·match ds, h with
  | [d0, d1, d2], _ => rfl
 ·rw [Tryz.params7] at hA hval
  obtain ⟨v0, l0, _, _, _, _, e0, _, _, t0, hA⟩ := trodAll_cons hA
  obtain ⟨v1, l1, _, _, _, _, e1, _, _, t1, hA⟩ := trodAll_cons hA
  obtain ⟨v2, l2, _, _, _, _, e2, _, _, t2, hA⟩ := trodAll_cons hA
  obtain ⟨e3, _, _⟩ := trodAll_nil hA
  subst e3 e2 e1
  obtain rfl : args = [v0, v1, v2].toArray := by rw [← e0]
  obtain ⟨m0, p0, k0, o0, rfl, h0⟩ := argSlice Tryz.underlying22 vt22 (hval 0 _ _ rfl rfl) t0
  obtain ⟨m1, p1, k1, o1, rfl, h1⟩ := argSlice Tryz.underlying25 vt25 (hval 1 _ _ rfl rfl) t1
  obtain ⟨m2, p2, k2, o2, rfl, h2⟩ := argSlice Tryz.underlying25 vt25 (hval 2 _ _ rfl rfl) t2
  have hl := law m0 m1 m2 o0 o1 o2
  have hc := c_wormtublaw14_FileGroups (FW W) hT m0 p0 k0 h0 m1 p1 k1 h1 m2 p2 k2 h2
  rw [hl] at hc
  exact hc
theorem said_FileGroups (law : LawFileGroups) : Rows.FileGroupsSaid :=
 OpenClaim.holds_of_wide 7 Tryz.f7 rfl rfl rfl rfl rfl rfl rfl ⟨rfl, rfl, rfl, rfl, rfl⟩ rfl rfl rfl rfl rfl (by kernel_rfl) Tryz.func7 (by kernel_rfl)
  (of_decide_eq_true (by kernel_rfl)) (by unfold Func.isWrapper; first | (rw [if_pos (by decide +kernel)]; kernel_rfl) | (rw [if_neg (by decide +kernel)]; exact ⟨rfl, rfl⟩))
  (fun os started H enc _ => lifted_FileGroups law os started H enc)
theorem card_FileGroups (law : LawFileGroups) : Rows.FileGroupsCardSaid :=
 Claim7.holds_tied_plain_at .later [] [.data, .data, .data, .data, .sentinel, .sentinel, .pinned] true (true, "3bd84bf44a97e49b979e061ef005845ecf1aa6bc424530e46bde597d8668a3f8") true (said_FileGroups law) (fun _ h => by cases h) (by kernel_rfl) (fun _ h => by cases h) fileGroups_row_tie rfl ⟨rfl, rfl⟩ (by kernel_rfl) rfl
  (fun f fn hf hfn => by
   obtain rfl : f = 7 := Option.some.inj ((show Tryz.prog.funcNamed "wormtub/wormtublaw14.FileGroups" = some 7 by kernel_rfl).symm.trans hf) |>.symm
   obtain rfl : fn = Tryz.f7 := (Option.some.inj (Tryz.func7.symm.trans hfn)).symm
   exact ⟨by kernel_rfl, fun j t ht => by
    have hall : (Tryz.f7.params.toList.all fun u => !Tryz.prog.wantsStandIn u) = true := by kernel_rfl
    have hm := Array.mem_of_getElem? ht
    exact (show Tryz.prog.wantsStandIn t = false by first | (simp at hm; done) | simpa using List.all_eq_true.1 hall t (by simpa using hm))⟩)
  (by kernel_rfl)
end Go.Proofs.YthnlglmjffdpfaaGreatDoor
end

section
namespace Go.Proofs.YthnlglmjffdpfaaGreatDoor
open Go.Dec
theorem law_FileGroups : LawFileGroups := by
  intro l a1 a2 _ hw1 hw2
  obtain ⟨ws, rfl⟩ : ∃ ws, a1 = i8s ws := ⟨_, (i8_u8 hw1).symm⟩
  obtain ⟨bs, rfl⟩ : ∃ bs, a2 = i8s bs := ⟨_, (i8_u8 hw2).symm⟩
  unfold m_wormtublaw14_FileGroups
  rcases great_cases l with hg | ⟨hg, h30, h20⟩
  · refine bind_of hg ?_
    rw [Bool.true_or, Bool.true_or, if_pos rfl, alive_true]; rfl
  · refine bind_of hg ?_
    rw [Bool.false_or, i8s_len, i8s_len]
    by_cases h : 0 < ws.length ∧ 0 < bs.length
    · obtain ⟨hws, hbs⟩ := h
      rw [if_neg (by rw [Bool.or_eq_true, beq_iff_eq, beq_iff_eq]; omega)]
      rcases Write_any l (by omega) with ⟨hb, hW⟩ | ⟨hb, hW⟩
      · refine bind_of hW ?_
        refine (if_neg (by simp)).trans ?_
        have h96 := write_96 (okBook_iff.1 hb).2
        have hlen := flat96 h96
        have hl := writeS_len l
        refine bind_of (append_nil (by simp only [i8s_len]; omega)) ?_
        have hr : w64 (Int.tdiv ((i8s (writeS l).flatten).length : Int) 96) = ((writeS l).length : Int) := by
          rw [i8s_len, hlen, Int.tdiv_eq_ediv_of_nonneg (by omega), w64_id (by omega) (by omega)]; omega
        unfold bindv
        simp only [hr]
        rcases groups_loop hb h30 hws hbs 10 0 (writeS l) (by omega) (by omega) h96 (Near.self _) (fun _ _ => rfl) with ⟨R', h1, h2, h3⟩ | h1
        · rw [changed_self] at h1
          refine bind_of h1 ?_
          have hR := flat96 h3
          have h2l := h2.1
          refine bind_of (by rw [Repair_prog _ (by omega), repair_near hb h3 h2]) ?_
          have hcl : (changedS R' (writeS l)).length ≤ R'.length := by
            unfold changedS
            rw [List.length_map]
            have := List.length_filter_le (fun i => decide ((writeS l).getD i [] ≠ R'.getD i [])) (List.range R'.length)
            rwa [List.length_range] at this
          refine bind_of (a := true) ?_ (bind_of (a := true) ?_ rfl)
          · rw [if_pos (by simp)]
            exact bind_of (Ints_self (changedS R' (writeS l)) (by omega)) rfl
          · rw [if_pos rfl, alive_true]; rfl
        · rw [changed_self] at h1
          exact bind_of h1 rfl
      · refine bind_of hW ?_
        refine (if_pos (by simp)).trans ?_
        rw [alive_true]; rfl
    · rw [if_pos (by rw [Bool.or_eq_true, beq_iff_eq, beq_iff_eq]; omega), alive_true]; rfl
theorem fileGroups_holds : Rows.FileGroupsCardSaid := card_FileGroups law_FileGroups
end Go.Proofs.YthnlglmjffdpfaaGreatDoor
end
