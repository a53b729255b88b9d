/- Own texts and texts printed by a program of mine, for fileWrites_holds; only what it reaches. -/
import Derived.Test.YthnlglmjffdpfaaGreatDoorPw5
import Derived.Test.YthnlglmjffdpfaaGreatDoorRows
import Derived.Test.YthnlglmjffdpfaaGreatDoorTie
import Derived.Test.YthnlglmjffdpfaaGreatDoorCards
section
namespace Go.Proofs.YthnlglmjffdpfaaGreatDoor
open Go.Dec Go.Shelf Go.RowKit Go.Maps Go.Sort
def m_wormtubref14_letters  : (List UInt8) :=
 ([77, 83, 67, 68] : List UInt8)
set_option maxRecDepth 100000 in
set_option maxHeartbeats 4000000 in
theorem c_wormtubref14_letters (F0 : Fz)  : CT0 Tryz.prog 81 [].toArray F0 (some (m_wormtubref14_letters)) (fun r _ v => v = (.string (bs r))) := by
 refine CT0.enter Tryz.func81 rfl Tryz.ntmps81 rfl fun r R => ?_
 refine .seq (.region (.assign rfl rfl (.nil (.code (.seq (.region (.assign rfl rfl (.nil (.code ?_)))))))))
 exact .ret0 Tryz.results81 (.tmp rfl (.nil)) (i := 0) rfl Fz.r rfl
noncomputable def b_wormtubref14_digits_1  (s4 : Int × (List UInt8)) : Option (Ctl (Int × (List UInt8)) (((List UInt8)))) :=
 if (decide (s4.1 > 0)) then ((appO (encS (IntKind.u8.wrap ((w64 (48 + (Int.tmod s4.1 10)))))) s4.2).bind fun s8 => bindv (w64 (Int.tdiv s4.1 10)) fun n_10 => some (.next (n_10, s8))) else (some (.done s4.2))
noncomputable def m_wormtubref14_digits (n_1 : Int) : Option (List UInt8) :=
 bindv (w64 (Int.tdiv n_1 10)) fun n_2 => (loopM b_wormtubref14_digits_1 (n_2, (encS (IntKind.u8.wrap ((w64 (48 + (Int.tmod n_1 10)))))))).bind fun b12 => some b12
set_option maxRecDepth 100000 in
set_option maxHeartbeats 4000000 in
theorem c_wormtubref14_digits (F0 : Fz) (n_1 : Int) : CT0 Tryz.prog 82 [(.int .i64 n_1)].toArray F0 (m_wormtubref14_digits n_1) (fun r _ v => v = (.string (bs r))) := by
 refine CT0.enter Tryz.func82 rfl Tryz.ntmps82 rfl fun r R => ?_
 unfold m_wormtubref14_digits
 refine .seq (.region (.assign rfl rfl (.nil (.code (.seq (.region (.move rfl rfl (.remC rfl (by decide) rfl rfl (.add rfl rfl rfl (.convI rfl Tryz.underlying3 Tryz.underlying5 rfl (.encStr rfl Tryz.underlying5 Tryz.underlying9 rfl ?_)))))))))))
 refine .assign rfl rfl (.nil (.code (.seq (.seq (.region (.move rfl rfl (.quoC rfl (by decide) rfl rfl (.assignL rfl rfl (fun n_2 e3 => ?_)))))))))
 refine .nil (.code (.block (.keep (.cons (k := 0) rfl (.cons (k := 3) rfl (.nil _))) (.loop (fun (s4 : Int × (List UInt8)) a w => ∃ (F_5 : Fz), F0 ≤ F_5 ∧ Hd 23 [] [(0, (.int .i64 s4.1)), (3, (.string (bs s4.2)))] F_5 [R] a w) (fun b12 e a w => e = .exit 0 ∧ ∃ (F_13 : Fz), F0 ≤ F_13 ∧ Hd 23 [] [(3, (.string (bs b12)))] F_13 [R] a w) ?_ ?_ ?_))))
 ·exact fun a w h => ⟨F0, Fz.r, h.1.sub (.cons (k := 0) rfl (.cons (k := 3) rfl (.nil _))), h.2⟩
 ·intro s4 ctl
  refine GC.ex (fun a w ⟨F_5, l_6, hA⟩ => ⟨_, hA, ?_⟩)
  unfold b_wormtubref14_digits_1
  refine .seq (.seq (.region (.move rfl rfl (.gtr rfl rfl rfl (.nil (.code (.cond rfl (fun hb7 => ?_) (fun hb7 => ?_))))))))
  ·skip
   refine .skip (.code (.seq (.block (.region (.move rfl rfl (.remC rfl (by decide) rfl rfl (.add rfl rfl rfl (.convI rfl Tryz.underlying3 Tryz.underlying5 rfl (.encStr rfl Tryz.underlying5 Tryz.underlying9 rfl (.move rfl rfl (.catS rfl rfl rfl (fun s8 e9 => ?_))))))))))))
   refine .assign rfl rfl (.nil (.block (.code (.region (.move rfl rfl (.quoC rfl (by decide) rfl rfl (.assignL rfl rfl (fun n_10 e11 => ?_))))))))
   refine .nil ?_
   exact .nil (LPost.norm fun a w h => ⟨F_5, l_6, h.1.sub (.cons (k := 0) rfl (.cons (k := 3) rfl (.nil _))), h.2⟩)
  ·skip
   refine .exitOut rfl (LPost.exit fun a w h => ⟨rfl, F_5, l_6, h.1.sub (.cons (k := 3) rfl (.nil _)), h.2⟩)
 ·intro b12 hb0 hk e a w hD
  obtain ⟨rfl, F_13, l_14, hA⟩ := hD
  refine interp_exit rfl (GE.app ?_ hk a w hA)
  refine .code (.seq (.region (.move rfl rfl (.assign rfl rfl (.nil (.code ?_))))))
  exact .ret0 Tryz.results82 (.tmp rfl (.nil)) (i := 0) rfl l_14 rfl
noncomputable def b_wormtubref14_check_1 (s1 : (List UInt8)) (s2 : Int × Int) : Option (Ctl (Int × Int) ((Int))) :=
 if (decide (s2.2 < 87)) then ((idxL s1 s2.2).bind fun c6 => bindv (Int.tmod (w64 ((w64 (31 * s2.1)) + (w64 ((c6.toNat : Int))))) 4294967296) fun c8 => bindv (w64 (s2.2 + 1)) fun i10 => some (.next (c8, i10))) else (some (.done s2.1))
noncomputable def b_wormtubref14_check_2  (s15 : Int × (List UInt8) × Int) : Option (Ctl (Int × (List UInt8) × Int) (((List UInt8)))) :=
 if (decide (s15.2.2 < 8)) then ((idxL ([48, 49, 50, 51, 52, 53, 54, 55, 56, 57, 97, 98, 99, 100, 101, 102] : List UInt8) (Int.tmod s15.1 16)).bind fun c19 => (appO (encS (c19.toNat : Int)) s15.2.1).bind fun s21 => bindv (w64 (Int.tdiv s15.1 16)) fun c23 => bindv (w64 (s15.2.2 + 1)) fun i25 => some (.next (c23, s21, i25))) else (some (.done s15.2.1))
noncomputable def m_wormtubref14_check (s1 : (List UInt8)) : Option (List UInt8) :=
 (loopM (b_wormtubref14_check_1 s1) (0, 0)).bind fun b12 => (loopM b_wormtubref14_check_2 (b12, ([] : List UInt8), 0)).bind fun b27 => some b27
set_option maxRecDepth 100000 in
set_option maxHeartbeats 4000000 in
theorem c_wormtubref14_check (F0 : Fz) (s1 : (List UInt8)) : CT0 Tryz.prog 83 [(.string (bs s1))].toArray F0 (m_wormtubref14_check s1) (fun r _ v => v = (.string (bs r))) := by
 refine CT0.enter Tryz.func83 rfl Tryz.ntmps83 rfl fun r R => ?_
 unfold m_wormtubref14_check
 refine .seq (.region (.assign rfl rfl (.nil (.code (.seq (.region (.assign rfl rfl (.nil (.code (.seq (.seq ?_)))))))))))
 refine .region (.assign rfl rfl (.nil (.code (.block (.keep (.cons (k := 0) rfl (.cons (k := 3) rfl (.cons (k := 4) rfl (.nil _)))) (.loop (fun (s2 : Int × Int) a w => ∃ (F_3 : Fz), F0 ≤ F_3 ∧ Hd 32 [] [(0, (.string (bs s1))), (3, (.int .i64 s2.1)), (4, (.int .i64 s2.2))] F_3 [R] a w) (fun b12 e a w => e = .exit 0 ∧ ∃ (F_13 : Fz), F0 ≤ F_13 ∧ Hd 32 [] [(3, (.int .i64 b12))] F_13 [R] a w) ?_ ?_ ?_))))))
 ·exact fun a w h => ⟨F0, Fz.r, h.1.sub (.cons (k := 0) rfl (.cons (k := 3) rfl (.cons (k := 4) rfl (.nil _)))), h.2⟩
 ·intro s2 ctl
  refine GC.ex (fun a w ⟨F_3, l_4, hA⟩ => ⟨_, hA, ?_⟩)
  unfold b_wormtubref14_check_1
  refine .seq (.seq (.region (.move rfl rfl (.lss rfl rfl rfl (.nil (.code (.cond rfl (fun hb5 => ?_) (fun hb5 => ?_))))))))
  ·skip
   refine .skip (.code (.seq (.block (.region (.move rfl rfl (.mul rfl rfl rfl (.move rfl rfl (.move rfl rfl (.idxStr rfl Tryz.underlying9 rfl rfl (fun c6 e7 => ?_))))))))))
   refine .convI rfl Tryz.underlying5 Tryz.underlying3 rfl (.add rfl rfl rfl (.remC rfl (by decide) rfl rfl (.assignL rfl rfl (fun c8 e9 => ?_))))
   refine .nil (.block (.code (.region (.move rfl rfl (.add rfl rfl rfl (.assignL rfl rfl (fun i10 e11 => ?_)))))))
   refine .nil ?_
   exact .nil (LPost.norm fun a w h => ⟨F_3, l_4, h.1.sub (.cons (k := 0) rfl (.cons (k := 3) rfl (.cons (k := 4) rfl (.nil _)))), h.2⟩)
  ·skip
   refine .exitOut rfl (LPost.exit fun a w h => ⟨rfl, F_3, l_4, h.1.sub (.cons (k := 3) rfl (.nil _)), h.2⟩)
 ·intro b12 hb0 hk e a w hD
  obtain ⟨rfl, F_13, l_14, hA⟩ := hD
  refine interp_exit rfl (GE.app ?_ hk a w hA)
  refine .code (.seq (.region (.assign rfl rfl (.nil (.code (.seq (.seq (.region (.assign rfl rfl (.nil (.code ?_)))))))))))
  refine .block (.keep (.cons (k := 3) rfl (.cons (k := 5) rfl (.cons (k := 6) rfl (.nil _)))) (.loop (fun (s15 : Int × (List UInt8) × Int) a w => ∃ (F_16 : Fz), F_13 ≤ F_16 ∧ Hd 32 [] [(3, (.int .i64 s15.1)), (5, (.string (bs s15.2.1))), (6, (.int .i64 s15.2.2))] F_16 [R] a w) (fun b27 e a w => e = .exit 2 ∧ ∃ (F_28 : Fz), F_13 ≤ F_28 ∧ Hd 32 [] [(5, (.string (bs b27)))] F_28 [R] a w) ?_ ?_ ?_))
  ·exact fun a w h => ⟨F_13, Fz.r, h.1.sub (.cons (k := 3) rfl (.cons (k := 5) rfl (.cons (k := 6) rfl (.nil _)))), h.2⟩
  ·intro s15 ctl
   refine GC.ex (fun a w ⟨F_16, l_17, hA⟩ => ⟨_, hA, ?_⟩)
   unfold b_wormtubref14_check_2
   refine .seq (.seq (.region (.move rfl rfl (.lss rfl rfl rfl (.nil (.code (.cond rfl (fun hb18 => ?_) (fun hb18 => ?_))))))))
   ·skip
    refine .skip (.code (.seq (.block (.seq (.region (.move rfl rfl (.remC rfl (by decide) rfl rfl (.idxStr rfl Tryz.underlying9 rfl rfl (fun c19 e20 => ?_)))))))))
    refine .encStr rfl Tryz.underlying5 Tryz.underlying9 rfl (.move rfl rfl (.catS rfl rfl rfl (fun s21 e22 => ?_)))
    refine .assign rfl rfl (.nil (.code (.region (.move rfl rfl (.quoC rfl (by decide) rfl rfl (.assignL rfl rfl (fun c23 e24 => ?_)))))))
    refine .nil (.block (.code (.region (.move rfl rfl (.add rfl rfl rfl (.assignL rfl rfl (fun i25 e26 => ?_)))))))
    refine .nil ?_
    exact .nil (LPost.norm fun a w h => ⟨F_16, l_17, h.1.sub (.cons (k := 3) rfl (.cons (k := 5) rfl (.cons (k := 6) rfl (.nil _)))), h.2⟩)
   ·skip
    refine .exitOut rfl (LPost.exit fun a w h => ⟨rfl, F_16, l_17, h.1.sub (.cons (k := 5) rfl (.nil _)), h.2⟩)
  ·intro b27 hb0 hk e a w hD
   obtain ⟨rfl, F_28, l_29, hA⟩ := hD
   refine interp_exit rfl (GE.app ?_ hk a w hA)
   refine .code (.seq (.region (.move rfl rfl (.assign rfl rfl (.nil (.code ?_))))))
   exact .ret0 Tryz.results83 (.tmp rfl (.nil)) (i := 0) rfl (Fz.t l_14 l_29) rfl
noncomputable def b_wormtubref14_Row_1 (x1 : ApiBooked) (s30 : (List UInt8) × Int) : Option (Ctl ((List UInt8) × Int) (((List UInt8)))) :=
 if (decide (s30.2 < (x1.N.length : Int))) then ((appO s30.1 ([32] : List UInt8)).bind fun s34 => (idxL x1.N s30.2).bind fun x36 => (m_wormtubref14_digits x36).bind fun r_48 => (appO s34 r_48).bind fun s49 => bindv (w64 (s30.2 + 1)) fun i51 => some (.next (s49, i51))) else (some (.done s30.1))
noncomputable def b_wormtubref14_Row_2  (s56 : (List UInt8)) : Option (Ctl ((List UInt8)) (((List UInt8)))) :=
 if (decide ((s56.length : Int) < 87)) then ((appO s56 ([46] : List UInt8)).bind fun s60 => some (.next s60)) else (some (.done s56))
noncomputable def m_wormtubref14_Row (x1 : ApiBooked) : Option (List UInt8) :=
 (sliceL (m_wormtubref14_letters) x1.Kind (w64 (x1.Kind + 1))).bind fun s28 => (loopM (b_wormtubref14_Row_1 x1) (s28, 0)).bind fun b53 => (loopM b_wormtubref14_Row_2 b53).bind fun b62 => (m_wormtubref14_check b62).bind fun r_67 => (appO b62 r_67).bind fun s68 => (appO s68 ([10] : List UInt8)).bind fun s70 => some s70
set_option maxRecDepth 100000 in
set_option maxHeartbeats 4000000 in
theorem c_wormtubref14_Row (F0 : Fz) (x1 : ApiBooked) (p2 : Option Addr) (k3 : Nat) (h4 : RepSl 1 (Ex (cInt .i64)) F0 p2 k3 x1.N) : CT0 Tryz.prog 47 [(eApiBooked x1 p2 k3)].toArray F0 (m_wormtubref14_Row x1) (fun r _ v => v = (.string (bs r))) := by
 refine CT0.enter Tryz.func47 rfl Tryz.ntmps47 rfl fun r R => ?_
 unfold m_wormtubref14_Row
 refine .seq (.region (.boxF (cs := (cApiBooked x1 p2 k3)) rfl rfl rfl (fun b5 F_6 l_7 hb8 => ?_)))
 refine .assign rfl rfl (.nil (.code (.seq (.keep (.cons (k := 1) rfl (.nil _)) ?_))))
 refine .drawGD 6 0 (fun env9 => [((.string (bs (m_wormtubref14_letters))), fun _ => True), ((.pointer (some ⟨b5, 0 + 0, none⟩)), fun _ => True), ((.int .i64 x1.Kind), fun _ => True), ((.pointer (some ⟨b5, 0 + 0, none⟩)), fun _ => True), ((.int .i64 x1.Kind), fun _ => True), ((.int .i64 (w64 (x1.Kind + 1))), fun _ => True)]) (fun L env9 => [R]) mixedOK (by kernel_rfl) (deepN (k := 6) (n := 8) rfl (allLt8 (p := fun t => 6 ≤ t → ∀ j, j < t → ∃ s, depB _ s t j = true) (fun h => absurd h (by decide)) (fun h => absurd h (by decide)) (fun h => absurd h (by decide)) (fun h => absurd h (by decide)) (fun h => absurd h (by decide)) (fun h => absurd h (by decide)) (fun _ => allLt6 (p := fun j => ∃ s, depB _ s 6 j = true) ⟨1, rfl⟩ ⟨2, rfl⟩ ⟨1, rfl⟩ ⟨3, rfl⟩ ⟨2, rfl⟩ ⟨1, rfl⟩) (fun _ => allLt7 (p := fun j => ∃ s, depB _ s 7 j = true) ⟨1, rfl⟩ ⟨1, rfl⟩ ⟨1, rfl⟩ ⟨1, rfl⟩ ⟨1, rfl⟩ ⟨1, rfl⟩ ⟨1, rfl⟩))) rfl (fun _ => rfl) (by kernel_rfl) (fun _ => rfl) ?_ (fun env9 F_12 l_13 hphi => ?_)
 ·skip
  refine .cons (fun L env9 F_14 l_15 hL hdn hup hphi => ⟨[], fun S hS hV => (Sub.nil _), ?_⟩) ?_
  ·skip
   refine .callP rfl Tryz.call81 rfl rfl rfl (c_wormtubref14_letters _ ) ?_
   rintro F_16 _ l_17 rfl
   exact .finV rfl rfl l_17
  refine .cons (fun L env9 F_18 l_19 hL hdn hup hphi => ⟨[(1, (.pointer (some ⟨b5, 0, none⟩)))], fun S hS hV => (.cons (hS _ _ rfl) (Sub.nil _)), ?_⟩) ?_
  ·skip
   refine .fieldAddr rfl Tryz.underlying41 rfl Tryz.sizeOf3 rfl ?_
   exact .finV rfl rfl Fz.r
  refine .cons (fun L env9 F_20 l_21 hL hdn hup hphi => ⟨[(6, (.pointer (some ⟨b5, 0 + 0, none⟩)))], fun S hS hV => (.cons (hV 1 6 _ (hdn 1 1 rfl) rfl rfl) (Sub.nil _)), ?_⟩) ?_
  ·skip
   refine .loadF rfl Tryz.isAgg3 rfl (l_21.mem _ _ hb8) rfl ?_
   exact .finV rfl rfl Fz.r
  refine .cons (fun L env9 F_22 l_23 hL hdn hup hphi => ⟨[(1, (.pointer (some ⟨b5, 0, none⟩)))], fun S hS hV => (.cons (hS _ _ rfl) (Sub.nil _)), ?_⟩) ?_
  ·skip
   refine .fieldAddr rfl Tryz.underlying41 rfl Tryz.sizeOf3 rfl ?_
   exact .finV rfl rfl Fz.r
  refine .cons (fun L env9 F_24 l_25 hL hdn hup hphi => ⟨[(8, (.pointer (some ⟨b5, 0 + 0, none⟩)))], fun S hS hV => (.cons (hV 3 8 _ (hdn 1 3 rfl) rfl rfl) (Sub.nil _)), ?_⟩) ?_
  ·skip
   refine .loadF rfl Tryz.isAgg3 rfl (l_25.mem _ _ hb8) rfl ?_
   exact .finV rfl rfl Fz.r
  refine .cons (fun L env9 F_26 l_27 hL hdn hup hphi => ⟨[(9, (.int .i64 x1.Kind))], fun S hS hV => (.cons (hV 4 9 _ (hdn 1 4 rfl) rfl rfl) (Sub.nil _)), ?_⟩) ?_
  ·skip
   refine .add rfl rfl rfl ?_
   exact .finV rfl rfl Fz.r
  exact .nil
 refine .norm (S' := [(1, (.pointer (some ⟨b5, 0, none⟩))), (5, (.string (bs (m_wormtubref14_letters)))), (6, (.pointer (some ⟨b5, 0 + 0, none⟩))), (7, (.int .i64 x1.Kind)), (8, (.pointer (some ⟨b5, 0 + 0, none⟩))), (9, (.int .i64 x1.Kind)), (10, (.int .i64 (w64 (x1.Kind + 1))))]) (.cons (k := 1) rfl (.cons (k := 5) rfl (.cons (k := 6) rfl (.cons (k := 7) rfl (.cons (k := 8) rfl (.cons (k := 9) rfl (.cons (k := 10) rfl (.nil _)))))))) (rfl : _ = [R]) ?_
 refine .cutStr rfl Tryz.underlying9 rfl rfl rfl (fun s28 e29 => ?_)
 refine .assign rfl rfl (.nil (.code (.seq (.seq (.region (.assign rfl rfl (.nil (.code (.block (.keep (.cons (k := 1) rfl (.cons (k := 3) rfl (.cons (k := 4) rfl (.nil _)))) ?_))))))))))
 refine .loop (fun (s30 : (List UInt8) × Int) a w => ∃ (F_31 : Fz), F_12 ≤ F_31 ∧ Hd 38 [] [(1, (.pointer (some ⟨b5, 0, none⟩))), (3, (.string (bs s30.1))), (4, (.int .i64 s30.2))] F_31 [R] a w) (fun b53 e a w => e = .exit 0 ∧ ∃ (F_54 : Fz), F_12 ≤ F_54 ∧ Hd 38 [] [(3, (.string (bs b53)))] F_54 [R] a w) ?_ ?_ ?_
 ·exact fun a w h => ⟨F_12, Fz.r, h.1.sub (.cons (k := 1) rfl (.cons (k := 3) rfl (.cons (k := 4) rfl (.nil _)))), h.2⟩
 ·intro s30 ctl
  refine GC.ex (fun a w ⟨F_31, l_32, hA⟩ => ⟨_, hA, ?_⟩)
  unfold b_wormtubref14_Row_1
  refine .seq (.seq (.region (.move rfl rfl (.fieldAddr rfl Tryz.underlying41 rfl Tryz.sizeOf31 rfl (.loadF rfl Tryz.isAgg31 rfl ((Fz.t l_13 l_32).mem _ _ hb8) rfl (.lenS rfl rfl Tryz.underlying31 rfl (.lss rfl rfl rfl (.nil (.code (.cond rfl (fun hb33 => ?_) (fun hb33 => ?_)))))))))))
  ·skip
   refine .skip (.code (.seq (.block (.region (.move rfl rfl (.catS rfl rfl rfl (fun s34 e35 => ?_)))))))
   refine .fieldAddr rfl Tryz.underlying41 rfl Tryz.sizeOf31 rfl (.loadF rfl Tryz.isAgg31 rfl ((Fz.t l_13 l_32).mem _ _ hb8) rfl (.move rfl rfl (.idx rfl Tryz.underlying31 Tryz.sizeOf3 (h4.mono (Fz.t l_7 (Fz.t l_13 l_32))) rfl rfl (fun x36 b37 o38 T39 fr40 cs41 e42 hm43 hv44 => ?_))))
   refine .loadF rfl Tryz.isAgg3 rfl hm43 (cell_of_take (k := 0) hv44 rfl) (.call0 rfl Tryz.call82 rfl rfl rfl (c_wormtubref14_digits _ x36) ?_)
   rintro r_48 F_46 _ - l_47 rfl
   refine .catS rfl rfl rfl (fun s49 e50 => ?_)
   refine .assign rfl rfl (.nil (.block (.code (.region (.move rfl rfl (.add rfl rfl rfl (.assignL rfl rfl (fun i51 e52 => ?_))))))))
   refine .nil ?_
   exact .nil (LPost.norm fun a w h => ⟨F_46, (Fz.t l_32 l_47), h.1.sub (.cons (k := 1) rfl (.cons (k := 3) rfl (.cons (k := 4) rfl (.nil _)))), h.2⟩)
  ·skip
   refine .exitOut rfl (LPost.exit fun a w h => ⟨rfl, F_31, l_32, h.1.sub (.cons (k := 3) rfl (.nil _)), h.2⟩)
 ·intro b53 hb0 hk e a w hD
  obtain ⟨rfl, F_54, l_55, hA⟩ := hD
  refine interp_exit rfl (GE.app ?_ hk a w hA)
  refine .code (.seq (.block (.keep (.cons (k := 3) rfl (.nil _)) (.loop (fun (s56 : (List UInt8)) a w => ∃ (F_57 : Fz), F_54 ≤ F_57 ∧ Hd 38 [] [(3, (.string (bs s56)))] F_57 [R] a w) (fun b62 e a w => e = .exit 2 ∧ ∃ (F_63 : Fz), F_54 ≤ F_63 ∧ Hd 38 [] [(3, (.string (bs b62)))] F_63 [R] a w) ?_ ?_ ?_))))
  ·exact fun a w h => ⟨F_54, Fz.r, h.1.sub (.cons (k := 3) rfl (.nil _)), h.2⟩
  ·intro s56 ctl
   refine GC.ex (fun a w ⟨F_57, l_58, hA⟩ => ⟨_, hA, ?_⟩)
   unfold b_wormtubref14_Row_2
   refine .seq (.seq (.region (.move rfl rfl (.lenStr rfl rfl Tryz.underlying9 rfl (.lss rfl rfl rfl (.nil (.code (.cond rfl (fun hb59 => ?_) (fun hb59 => ?_)))))))))
   ·skip
    refine .skip (.code (.block (.region (.move rfl rfl (.catS rfl rfl rfl (fun s60 e61 => ?_))))))
    refine .assign rfl rfl (.nil (.block ?_))
    exact .nil (LPost.norm fun a w h => ⟨F_57, l_58, h.1.sub (.cons (k := 3) rfl (.nil _)), h.2⟩)
   ·skip
    refine .exitOut rfl (LPost.exit fun a w h => ⟨rfl, F_57, l_58, h.1.sub (.cons (k := 3) rfl (.nil _)), h.2⟩)
  ·intro b62 hb0 hk e a w hD
   obtain ⟨rfl, F_63, l_64, hA⟩ := hD
   refine interp_exit rfl (GE.app ?_ hk a w hA)
   refine .code (.seq (.region (.move rfl rfl (.move rfl rfl (.call0 rfl Tryz.call83 rfl rfl rfl (c_wormtubref14_check _ b62) ?_)))))
   rintro r_67 F_65 _ - l_66 rfl
   refine .catS rfl rfl rfl (fun s68 e69 => ?_)
   refine .catS rfl rfl rfl (fun s70 e71 => ?_)
   refine .assign rfl rfl (.nil (.code ?_))
   exact .ret0 Tryz.results47 (.tmp rfl (.nil)) (i := 0) rfl (Fz.t l_7 (Fz.t l_13 (Fz.t l_55 (Fz.t l_64 l_66)))) rfl
end Go.Proofs.YthnlglmjffdpfaaGreatDoor
end

section
namespace Go.Proofs.YthnlglmjffdpfaaGreatDoor
open Go.Dec Go.Shelf Go.RowKit Go.Maps Go.Sort
def m_wormtubref14_residue (b1 : Int) : Int :=
 (Int.tmod (w64 ((w64 ((w64 (b1)) + 95)) - 32)) 95)
set_option maxRecDepth 100000 in
set_option maxHeartbeats 4000000 in
theorem c_wormtubref14_residue (F0 : Fz) (b1 : Int) : CT0 Tryz.prog 84 [(.int .u8 b1)].toArray F0 (some (m_wormtubref14_residue b1)) (fun r _ v => v = (.int .i64 r)) := by
 refine CT0.enter Tryz.func84 rfl Tryz.ntmps84 rfl fun r R => ?_
 refine .seq (.region (.assign rfl rfl (.nil (.code (.seq (.region (.move rfl rfl (.convI rfl Tryz.underlying5 Tryz.underlying3 rfl (.add rfl rfl rfl (.sub rfl rfl rfl (.remC rfl (by decide) rfl rfl ?_)))))))))))
 refine .assign rfl rfl (.nil (.code ?_))
 exact .ret0 Tryz.results84 (.tmp rfl (.nil)) (i := 0) rfl Fz.r rfl
noncomputable def b_wormtubref14_sum_2 (rows1 : (List (List UInt8))) (s6 : (List UInt8) × Int) (s10 : Int × Int) : Option (Ctl (Int × Int) ((Int))) :=
 if (decide (s10.2 < (rows1.length : Int))) then ((idxL rows1 s10.2).bind fun x14 => (idxL x14 s6.2).bind fun c24 => bindv (w64 (s10.1 + (m_wormtubref14_residue (c24.toNat : Int)))) fun n_28 => bindv (w64 (s10.2 + 1)) fun i30 => some (.next (n_28, i30))) else (some (.done s10.1))
noncomputable def b_wormtubref14_sum_1 (rows1 : (List (List UInt8))) (from_5 : (List UInt8)) (s6 : (List UInt8) × Int) : Option (Ctl ((List UInt8) × Int) (((List UInt8)))) :=
 if (decide (s6.2 < 95)) then ((loopM (b_wormtubref14_sum_2 rows1 s6) (0, 0)).bind fun b32 => (if (!(from_5 == ([] : List UInt8))) then ((idxL from_5 s6.2).bind fun c36 => bindv (w64 ((w64 ((m_wormtubref14_residue (c36.toNat : Int)) + 760)) - b32)) fun n_40 => some n_40) else (some b32) : Option (Int)).bind fun j42 => (appO s6.1 (encS (IntKind.u8.wrap ((w64 (32 + (Int.tmod j42 95))))))).bind fun s45 => bindv (w64 (s6.2 + 1)) fun k47 => some (.next (s45, k47))) else (some (.done s6.1))
noncomputable def m_wormtubref14_sum (rows1 : (List (List UInt8))) (from_5 : (List UInt8)) : Option (List UInt8) :=
 (loopM (b_wormtubref14_sum_1 rows1 from_5) (([] : List UInt8), 0)).bind fun b49 => (appO b49 ([10] : List UInt8)).bind fun s52 => some s52
set_option maxRecDepth 100000 in
set_option maxHeartbeats 4000000 in
theorem c_wormtubref14_sum (F0 : Fz) (rows1 : (List (List UInt8))) (p2 : Option Addr) (k3 : Nat) (h4 : RepSl 1 (Ex cStr) F0 p2 k3 rows1) (from_5 : (List UInt8)) : CT0 Tryz.prog 48 [(.slice p2 rows1.length k3), (.string (bs from_5))].toArray F0 (m_wormtubref14_sum rows1 from_5) (fun r _ v => v = (.string (bs r))) := by
 refine CT0.enter Tryz.func48 rfl Tryz.ntmps48 rfl fun r R => ?_
 unfold m_wormtubref14_sum
 refine .seq (.region (.assign rfl rfl (.nil (.code (.seq (.region (.assign rfl rfl (.nil (.code (.seq (.seq ?_)))))))))))
 refine .region (.assign rfl rfl (.nil (.code (.block (.keep (.cons (k := 0) rfl (.cons (k := 1) rfl (.cons (k := 5) rfl (.cons (k := 6) rfl (.nil _))))) ?_)))))
 refine .loop (fun (s6 : (List UInt8) × Int) a w => ∃ (F_7 : Fz), F0 ≤ F_7 ∧ Hd 46 [] [(0, (.slice p2 rows1.length k3)), (1, (.string (bs from_5))), (5, (.string (bs s6.1))), (6, (.int .i64 s6.2))] F_7 [R] a w) (fun b49 e a w => e = .exit 0 ∧ ∃ (F_50 : Fz), F0 ≤ F_50 ∧ Hd 46 [] [(5, (.string (bs b49)))] F_50 [R] a w) ?_ ?_ ?_
 ·exact fun a w h => ⟨F0, Fz.r, h.1.sub (.cons (k := 0) rfl (.cons (k := 1) rfl (.cons (k := 5) rfl (.cons (k := 6) rfl (.nil _))))), h.2⟩
 ·intro s6 ctl
  refine GC.ex (fun a w ⟨F_7, l_8, hA⟩ => ⟨_, hA, ?_⟩)
  unfold b_wormtubref14_sum_1
  refine .seq (.seq (.region (.move rfl rfl (.lss rfl rfl rfl (.nil (.code (.cond rfl (fun hb9 => ?_) (fun hb9 => ?_))))))))
  ·skip
   refine .skip (.code (.seq (.block (.seq (.region (.assign rfl rfl (.nil (.code (.seq (.seq (.region ?_)))))))))))
   refine .assign rfl rfl (.nil (.code (.block (.keep (.cons (k := 0) rfl (.cons (k := 1) rfl (.cons (k := 5) rfl (.cons (k := 6) rfl (.cons (k := 7) rfl (.cons (k := 8) rfl (.nil _))))))) ?_))))
   refine .loop (fun (s10 : Int × Int) a w => ∃ (F_11 : Fz), F_7 ≤ F_11 ∧ Hd 46 [] [(0, (.slice p2 rows1.length k3)), (1, (.string (bs from_5))), (5, (.string (bs s6.1))), (6, (.int .i64 s6.2)), (7, (.int .i64 s10.1)), (8, (.int .i64 s10.2))] F_11 [R] a w) (fun b32 e a w => e = .exit 2 ∧ ∃ (F_33 : Fz), F_7 ≤ F_33 ∧ Hd 46 [] [(0, (.slice p2 rows1.length k3)), (1, (.string (bs from_5))), (5, (.string (bs s6.1))), (6, (.int .i64 s6.2)), (7, (.int .i64 b32))] F_33 [R] a w) ?_ ?_ ?_
   ·exact fun a w h => ⟨F_7, Fz.r, h.1.sub (.cons (k := 0) rfl (.cons (k := 1) rfl (.cons (k := 5) rfl (.cons (k := 6) rfl (.cons (k := 7) rfl (.cons (k := 8) rfl (.nil _))))))), h.2⟩
   ·intro s10 ctl
    refine GC.ex (fun a w ⟨F_11, l_12, hA⟩ => ⟨_, hA, ?_⟩)
    unfold b_wormtubref14_sum_2
    refine .seq (.seq (.region (.move rfl rfl (.move rfl rfl (.lenS rfl rfl Tryz.underlying86 rfl (.lss rfl rfl rfl (.nil (.code (.cond rfl (fun hb13 => ?_) (fun hb13 => ?_))))))))))
    ·skip
     refine .skip (.code (.seq (.block (.region (.move rfl rfl (.move rfl rfl (.move rfl rfl (.idx rfl Tryz.underlying86 Tryz.sizeOf9 (h4.mono (Fz.t l_8 l_12)) rfl rfl (fun x14 b15 o16 T17 fr18 cs19 e20 hm21 hv22 => ?_)))))))))
     refine .loadF rfl Tryz.isAgg9 rfl hm21 (cell_of_take (k := 0) hv22 rfl) (.move rfl rfl (.idxStr rfl Tryz.underlying9 rfl rfl (fun c24 e25 => ?_)))
     refine .callP rfl Tryz.call84 rfl rfl rfl (c_wormtubref14_residue _ (c24.toNat : Int)) ?_
     rintro F_26 _ l_27 rfl
     refine .add rfl rfl rfl (.assignL rfl rfl (fun n_28 e29 => ?_))
     refine .nil (.block (.code (.region (.move rfl rfl (.add rfl rfl rfl (.assignL rfl rfl (fun i30 e31 => ?_)))))))
     refine .nil ?_
     exact .nil (LPost.norm fun a w h => ⟨F_26, (Fz.t l_12 l_27), h.1.sub (.cons (k := 0) rfl (.cons (k := 1) rfl (.cons (k := 5) rfl (.cons (k := 6) rfl (.cons (k := 7) rfl (.cons (k := 8) rfl (.nil _))))))), h.2⟩)
    ·skip
     refine .exitOut rfl (LPost.exit fun a w h => ⟨rfl, F_11, l_12, h.1.sub (.cons (k := 0) rfl (.cons (k := 1) rfl (.cons (k := 5) rfl (.cons (k := 6) rfl (.cons (k := 7) rfl (.nil _)))))), h.2⟩)
   ·intro b32 hb0 hk e a w hD
    obtain ⟨rfl, F_33, l_34, hA⟩ := hD
    refine interp_exit rfl (GE.app ?_ hk a w hA)
    refine .code (.seq (.seq (.region (.move rfl rfl (.neqS rfl Tryz.underlying9 rfl rfl (.nil (.code (.keep (.cons (k := 0) rfl (.cons (k := 1) rfl (.cons (k := 5) rfl (.cons (k := 6) rfl (.cons (k := 7) rfl (.cons (k := 29) rfl (.nil _))))))) ?_))))))))
    refine GC.join0 (σ := Int) (fun j42 a w => ∃ (F_43 : Fz), F_33 ≤ F_43 ∧ Hd 46 [] [(0, (.slice p2 rows1.length k3)), (1, (.string (bs from_5))), (5, (.string (bs s6.1))), (6, (.int .i64 s6.2)), (7, (.int .i64 j42))] F_43 [R] a w) (fun sj => ?_) (fun j42 hs0 => GE.ex (fun a w ⟨F_43, l_44, hA⟩ => ⟨_, hA, ?_⟩))
    ·skip
     refine .cond rfl (fun hb35 => ?_) (fun hb35 => ?_)
     ·skip
      refine .region (.move rfl rfl (.move rfl rfl (.idxStr rfl Tryz.underlying9 rfl rfl (fun c36 e37 => ?_))))
      refine .callP rfl Tryz.call84 rfl rfl rfl (c_wormtubref14_residue _ (c36.toNat : Int)) ?_
      rintro F_38 _ l_39 rfl
      refine .add rfl rfl rfl (.move rfl rfl (.sub rfl rfl rfl (.assignL rfl rfl (fun n_40 e41 => ?_))))
      refine .nil ?_
      exact .nil fun e a w h => by cases e; exact ⟨rfl, ⟨F_38, l_39, h.1.sub (.cons (k := 0) rfl (.cons (k := 1) rfl (.cons (k := 5) rfl (.cons (k := 6) rfl (.cons (k := 7) rfl (.nil _)))))), h.2⟩⟩
     ·skip
      refine .skip ?_
      exact .nil fun e a w h => by cases e; exact ⟨rfl, ⟨F_33, Fz.r, h.1.sub (.cons (k := 0) rfl (.cons (k := 1) rfl (.cons (k := 5) rfl (.cons (k := 6) rfl (.cons (k := 7) rfl (.nil _)))))), h.2⟩⟩
    refine .code (.region (.move rfl rfl (.move rfl rfl (.remC rfl (by decide) rfl rfl (.add rfl rfl rfl (.convI rfl Tryz.underlying3 Tryz.underlying5 rfl (.encStr rfl Tryz.underlying5 Tryz.underlying9 rfl (.catS rfl rfl rfl (fun s45 e46 => ?_)))))))))
    refine .assign rfl rfl (.nil (.block (.code (.region (.move rfl rfl (.add rfl rfl rfl (.assignL rfl rfl (fun k47 e48 => ?_))))))))
    refine .nil ?_
    exact .nil (LPost.norm fun a w h => ⟨F_43, (Fz.t l_8 (Fz.t l_34 l_44)), h.1.sub (.cons (k := 0) rfl (.cons (k := 1) rfl (.cons (k := 5) rfl (.cons (k := 6) rfl (.nil _))))), h.2⟩)
  ·skip
   refine .exitOut rfl (LPost.exit fun a w h => ⟨rfl, F_7, l_8, h.1.sub (.cons (k := 5) rfl (.nil _)), h.2⟩)
 ·intro b49 hb0 hk e a w hD
  obtain ⟨rfl, F_50, l_51, hA⟩ := hD
  refine interp_exit rfl (GE.app ?_ hk a w hA)
  refine .code (.seq (.region (.move rfl rfl (.catS rfl rfl rfl (fun s52 e53 => ?_)))))
  refine .assign rfl rfl (.nil (.code ?_))
  exact .ret0 Tryz.results48 (.tmp rfl (.nil)) (i := 0) rfl l_51 rfl
noncomputable def b_wormtubref14_Write_1 (l_1 : (List ApiBooked)) (s11 : (List UInt8) × (List (List UInt8)) × Int) : Option (Ctl ((List UInt8) × (List (List UInt8)) × Int) (((List UInt8) × (List (List UInt8))))) :=
 if (decide (s11.2.2 < (l_1.length : Int))) then (((idxL l_1 s11.2.2).bind fun x18 => (m_wormtubref14_Row x18).bind fun r_33 => (appO s11.2.1 ([r_33])).bind fun l_39 => (idxL l_39 (w64 ((l_39.length : Int) - 1))).bind fun x43 => (appO s11.1 x43).bind fun s47 => (if (((l_39.length : Int) == 8) || (s11.2.2 == (w64 ((l_1.length : Int) - 1)))) then ((m_wormtubref14_sum l_39 ([] : List UInt8)).bind fun r_57 => (appO s47 r_57).bind fun s60 => some (s60, [])) else (some (s47, l_39)) : Option ((List UInt8) × (List (List UInt8)))).bind fun j63 => some (j63.1, j63.2) : Option ((List UInt8) × (List (List UInt8)))).bind fun j69 => bindv (w64 (s11.2.2 + 1)) fun i75 => some (.next (j69.1, j69.2, i75))) else (some (.done (s11.1, s11.2.1)))
noncomputable def m_wormtubref14_Write (l_1 : (List ApiBooked)) : Option ((List Int) × Int) :=
 if (decide ((l_1.length : Int) > 1024)) then (some ([], 3)) else ((m_wormtubref14_Valid l_1).bind fun r_8 => if (!r_8) then (some ([], 1)) else ((loopM (b_wormtubref14_Write_1 l_1) (([] : List UInt8), [], 0)).bind fun b77 => (appO [] b77.1).bind fun s83 => some ((i8s s83), 0)))
set_option maxRecDepth 100000 in
set_option maxHeartbeats 4000000 in
theorem c_wormtubref14_Write (F0 : Fz) (l_1 : (List ApiBooked)) (p2 : Option Addr) (k3 : Nat) (h4 : RepSl 2 rApiBooked F0 p2 k3 l_1) : CT0 Tryz.prog 18 [(.slice p2 l_1.length k3)].toArray F0 (m_wormtubref14_Write l_1) (fun r F v => ∃ (p0 : Option Addr) (k0 : Nat), v = .tuple #[(.slice p0 r.1.length k0), (.int .i64 r.2)] ∧ RepSl 1 (Ex (cInt .u8)) F p0 k0 r.1) := by
 refine CT0.enter Tryz.func18 rfl Tryz.ntmps18 rfl fun r R => ?_
 unfold m_wormtubref14_Write
 refine .seq (.region (.assign rfl rfl (.assign rfl rfl (.nil (.code (.seq (.seq (.region (.move rfl rfl (.lenS rfl rfl Tryz.underlying22 rfl (.gtr rfl rfl rfl ?_)))))))))))
 refine .nil (.code (.cond rfl (fun hb5 => ?_) (fun hb5 => ?_)))
 ·skip
  refine .seq (.region (.assign rfl rfl (.assign rfl rfl (.nil (.code ?_)))))
  exact .ret0 Tryz.results18 (.tmp rfl (.tmp rfl (.nil))) (i := 0) rfl Fz.r ⟨none, 0, rfl, RepSl.nil⟩
 ·skip
  refine .skip (.code (.seq (.seq (.region (.move rfl rfl (.call0 rfl Tryz.call46 rfl rfl rfl (c_wormtubref14_Valid _ l_1 p2 k3 h4) ?_))))))
  rintro r_8 F_6 _ - l_7 rfl
  refine .not rfl rfl (.nil (.code (.cond rfl (fun hb9 => ?_) (fun hb9 => ?_))))
  ·skip
   refine .seq (.region (.assign rfl rfl (.assign rfl rfl (.nil (.code ?_)))))
   exact .ret0 Tryz.results18 (.tmp rfl (.tmp rfl (.nil))) (i := 0) rfl l_7 ⟨none, 0, rfl, (RepSl.nil.mono l_7)⟩
  ·skip
   refine .skip (.code (.seq (.region (.assign rfl rfl (.nil (.code (.seq (.region (.assign rfl rfl (.nil (.code ?_)))))))))))
   refine .seq (.seq (.region (.assign rfl rfl (.nil (.code (.block (.ownNil 1 (Ex cStr) 9 (.keep (.cons (k := 0) rfl (.cons (k := 4) rfl (.cons (k := 5) rfl (.cons (k := 6) rfl (.nil _))))) ?_))))))))
   refine .loop (fun (s11 : (List UInt8) × (List (List UInt8)) × Int) a w => ∃ (F_12 : Fz) (p14 : Option Addr) (k15 : Nat), F_6 ≤ F_12 ∧ Hd 51 [] [(0, (.slice p2 l_1.length k3)), (4, (.string (bs s11.1))), (5, (.slice p14 s11.2.1.length k15)), (6, (.int .i64 s11.2.2))] F_12 [ownSl 1 (Ex cStr) F_12 9 p14 k15 s11.2.1, R] a w) (fun b77 e a w => e = .exit 0 ∧ ∃ (F_78 : Fz) (p80 : Option Addr) (k81 : Nat), F_6 ≤ F_78 ∧ Hd 51 [] [(4, (.string (bs b77.1))), (5, (.slice p80 b77.2.length k81))] F_78 [ownSl 1 (Ex cStr) F_78 9 p80 k81 b77.2, R] a w) ?_ ?_ ?_
   ·exact fun a w h => ⟨F_6, none, 0, Fz.r, h.1.sub (.cons (k := 0) rfl (.cons (k := 4) rfl (.cons (k := 5) rfl (.cons (k := 6) rfl (.nil _))))), h.2⟩
   ·intro s11 ctl
    refine GC.ex (fun a w ⟨F_12, p14, k15, l_13, hA⟩ => ⟨_, hA, ?_⟩)
    unfold b_wormtubref14_Write_1
    refine .seq (.seq (.region (.move rfl rfl (.move rfl rfl (.lenS rfl rfl Tryz.underlying22 rfl (.lss rfl rfl rfl (.nil (.code (.cond rfl (fun hb17 => ?_) (fun hb17 => ?_))))))))))
    ·skip
     refine .skip (.code (.seq (.keep (.cons (k := 0) rfl (.cons (k := 4) rfl (.cons (k := 5) rfl (.cons (k := 6) rfl (.nil _))))) ?_)))
     refine GC.join0 (σ := (List UInt8) × (List (List UInt8))) (fun j69 a w => ∃ (F_70 : Fz) (p72 : Option Addr) (k73 : Nat), F_12 ≤ F_70 ∧ Hd 51 [] [(0, (.slice p2 l_1.length k3)), (4, (.string (bs j69.1))), (5, (.slice p72 j69.2.length k73)), (6, (.int .i64 s11.2.2))] F_70 [ownSl 1 (Ex cStr) F_70 9 p72 k73 j69.2, R] a w) (fun sj => ?_) (fun j69 hs0 => GE.ex (fun a w ⟨F_70, p72, k73, l_71, hA⟩ => ⟨_, hA, ?_⟩))
     ·skip
      refine .block (.seq (.region (.move rfl rfl (.move rfl rfl (.move rfl rfl (.idx rfl Tryz.underlying22 Tryz.sizeOf41 (h4.mono (Fz.t l_7 l_13)) rfl rfl (fun x18 b19 o20 T21 fr22 cs23 e24 hm25 hv26 => ?_)))))))
      obtain ⟨p28, k29, hv26, h30⟩ := hv26
      refine .loadFA rfl Tryz.isAgg41 Tryz.sizeOf41 rfl hm25 hv26 rfl (.call0 rfl Tryz.call47 rfl rfl rfl (c_wormtubref14_Row _ x18 p28 k29 h30) ?_)
      rintro r_33 F_31 _ - l_32 rfl
      refine .sliceLit (cs := [.string (bs r_33)]) (zc := [.string (bs ([]))]) rfl Tryz.underlying86 Tryz.sizeOf9 Tryz.zeroValue9 rfl rfl rfl (by kernel_rfl) (by kernel_rfl) (fun b34 F_35 l_36 hb37 => ?_)
      have h38 : RepSl 1 (Ex cStr) F_35 (some ⟨b34, 0, none⟩) 1 ([r_33]) := RepSl.ofRow hb37 (.cons ok_t9.mono rfl .nil) rfl rfl
      refine .append 0 ok_t9 (Fz.t l_32 l_36) rfl Tryz.underlying86 Tryz.underlying86 rfl rfl rfl h38 rfl rfl (fun l_39 p40 k41 e42 => ?_)
      refine .assign rfl rfl (.nil (.code (.seq (.region (.move rfl rfl (.move rfl rfl (.move rfl rfl (.lenS rfl rfl Tryz.underlying86 rfl (.sub rfl rfl rfl (.bind (fun x43 e44 => ?_)))))))))))
      refine .ownAddr 0 rfl e44 (fun b45 hp46 => ?_)
      refine .idxOwn rfl Tryz.underlying86 Tryz.sizeOf9 hp46 e44 rfl rfl (.loadOwn (off := 0) (Φ := fun v => v = (.string (bs x43))) 0 rfl Fz.r rfl Tryz.isAgg9 hp46 e44 rfl rfl (fun vs h => ⟨_, by subst h; exact rfl, rfl⟩) (fun v hv => ?_))
      subst hv
      refine .catS rfl rfl rfl (fun s47 e48 => ?_)
      refine .assign rfl rfl (.nil (.code (.seq (.region (.move rfl rfl (.lenS rfl rfl Tryz.underlying86 rfl (.eql rfl rfl rfl (.move rfl rfl (.orP (b := ((l_39.length : Int) == 8)) (b' := (s11.2.2 == (w64 ((l_1.length : Int) - 1)))) 6 44 (fun hb49 => ?_) (fun hb50 => ?_) (fun F_51 l_52 => ?_))))))))))
      ·skip
       refine .onH hb49 rfl rfl (.move rfl rfl (.onH hb49 rfl rfl (.move rfl rfl (.onH hb49 rfl rfl (.lenS rfl rfl Tryz.underlying22 rfl (.onH hb49 rfl rfl (.sub rfl rfl rfl (.onH hb49 rfl rfl (.eql rfl rfl rfl (.pickFH hb49 rfl rfl rfl ?_))))))))))
       exact .fin 6 rfl rfl (by kernel_rfl) Fz.r
      ·skip
       refine .offH hb50 rfl rfl rfl (.offH hb50 rfl rfl rfl (.offH hb50 rfl rfl rfl (.offH hb50 rfl rfl rfl (.offH hb50 rfl rfl rfl (.pickTH hb50 rfl rfl rfl ?_)))))
       exact .fin 6 rfl rfl (by kernel_rfl) Fz.r
      refine .nil (.code (.keep (.cons (k := 0) rfl (.cons (k := 4) rfl (.cons (k := 5) rfl (.cons (k := 6) rfl (.cons (k := 44) rfl (.nil _)))))) ?_))
      refine GC.join0 (σ := (List UInt8) × (List (List UInt8))) (fun j63 a w => ∃ (F_64 : Fz) (p66 : Option Addr) (k67 : Nat), F_51 ≤ F_64 ∧ Hd 51 [] [(0, (.slice p2 l_1.length k3)), (4, (.string (bs j63.1))), (5, (.slice p66 j63.2.length k67)), (6, (.int .i64 s11.2.2))] F_64 [ownSl 1 (Ex cStr) F_64 9 p66 k67 j63.2, R] a w) (fun sj => ?_) (fun j63 hs0 => GE.ex (fun a w ⟨F_64, p66, k67, l_65, hA⟩ => ⟨_, hA, ?_⟩))
      ·skip
       refine .cond rfl (fun hb53 => ?_) (fun hb53 => ?_)
       ·skip
        refine .seq (.region (.move rfl rfl (.move rfl rfl (.callLend 0 rfl rfl Tryz.call48 rfl rfl rfl (fun F_54 l_55 h56 => (c_wormtubref14_sum _ l_39 p40 k41 h56 ([] : List UInt8))) (fun r_57 F_58 _ l_59 => ?_)))))
        refine .catS rfl rfl rfl (fun s60 e61 => ?_)
        refine .assign rfl rfl (.nil (.code (.region (.assign rfl rfl (.nil (.drop 0 (.ownNil 1 (Ex cStr) 9 ?_)))))))
        exact .nil fun e a w h => by cases e; exact ⟨rfl, ⟨F_58, none, 0, l_59, h.1.sub (.cons (k := 0) rfl (.cons (k := 4) rfl (.cons (k := 5) rfl (.cons (k := 6) rfl (.nil _))))), SH.picks [0, 0] rfl h.2⟩⟩
       ·skip
        refine .skip (.ownUp 0 l_52 rfl ?_)
        exact .nil fun e a w h => by cases e; exact ⟨rfl, ⟨F_51, p40, k41, Fz.r, h.1.sub (.cons (k := 0) rfl (.cons (k := 4) rfl (.cons (k := 5) rfl (.cons (k := 6) rfl (.nil _))))), SH.picks [0, 0] rfl h.2⟩⟩
      refine .block ?_
      exact .nil fun e a w h => by cases e; exact ⟨rfl, ⟨F_64, p66, k67, (Fz.t l_32 (Fz.t l_36 (Fz.t l_52 l_65))), h.1.sub (.cons (k := 0) rfl (.cons (k := 4) rfl (.cons (k := 5) rfl (.cons (k := 6) rfl (.nil _))))), h.2⟩⟩
     refine .code (.region (.move rfl rfl (.add rfl rfl rfl (.assignL rfl rfl (fun i75 e76 => ?_)))))
     refine .nil ?_
     exact .nil (LPost.norm fun a w h => ⟨F_70, p72, k73, (Fz.t l_13 l_71), h.1.sub (.cons (k := 0) rfl (.cons (k := 4) rfl (.cons (k := 5) rfl (.cons (k := 6) rfl (.nil _))))), h.2⟩)
    ·skip
     refine .exitOut rfl (LPost.exit fun a w h => ⟨rfl, F_12, p14, k15, l_13, h.1.sub (.cons (k := 4) rfl (.cons (k := 5) rfl (.nil _))), h.2⟩)
   ·intro b77 hb0 hk e a w hD
    obtain ⟨rfl, F_78, p80, k81, l_79, hA⟩ := hD
    refine interp_exit rfl (GE.app ?_ hk a w hA)
    refine .code (.seq (.region (.move rfl rfl (.strBytesO rfl Tryz.underlying9 Tryz.underlying25 Tryz.underlying5 rfl (fun s83 F_84 p85 k86 e87 l_88 h89 => ?_)))))
    refine .assign rfl rfl (.assign rfl rfl (.nil (.code ?_)))
    exact .ret0 Tryz.results18 (.tmp rfl (.tmp rfl (.nil))) (i := 1) rfl (Fz.t l_7 (Fz.t l_79 l_88)) ⟨p85, k86, rfl, h89⟩
end Go.Proofs.YthnlglmjffdpfaaGreatDoor
end

section
namespace Go.Proofs.YthnlglmjffdpfaaGreatDoor
open Go.Dec
theorem enc_all : ∀ n : Nat, n < 128 → encS (n : Int) = [UInt8.ofNat n] := by decide +kernel
theorem enc_u8 {b : UInt8} (h : b.toNat < 128) : encS (b.toNat : Int) = [b] := by rw [enc_all _ h]; simp
theorem enc_wrap {n : Nat} (h : n < 128) : encS (IntKind.u8.wrap (n : Int)) = [UInt8.ofNat n] := by rw [wrap_u8 (by omega) (by omega), enc_all _ h]
theorem digit_loop : ∀ (d k : Nat) (s : Bytes), k < 10 ^ d → k ≤ 1000000000000000000 → s.length + d ≤ 1000 → loopM b_wormtubref14_digits_1 ((k : Int), s) = some ((if k = 0 then [] else Go.Lib.decDigits k) ++ s)
  | 0, k, s, hk, _, _ => by
    have : k = 0 := by simp at hk; omega
    subst this
    rw [loopM_eq]; rfl
  | d + 1, k, s, hk, hk2, hs => by
    by_cases h0 : k = 0
    · subst h0; rw [loopM_eq]; rfl
    · have hb : b_wormtubref14_digits_1 ((k : Int), s) = some (.next (((k / 10 : Nat) : Int), [UInt8.ofNat (48 + k % 10)] ++ s)) := by
        unfold b_wormtubref14_digits_1
        rw [if_pos (by rw [decide_eq_true_eq]; omega)]
        have h1 : w64 (48 + Int.tmod (k : Int) 10) = ((48 + k % 10 : Nat) : Int) := by
          rw [Int.tmod_eq_emod_of_nonneg (by omega), w64_id (by omega) (by omega)]; omega
        have h2 : w64 (Int.tdiv (k : Int) 10) = ((k / 10 : Nat) : Int) := by
          rw [Int.tdiv_eq_ediv_of_nonneg (by omega), w64_id (by omega) (by omega)]; rfl
        simp only [h1, h2, bindv]
        rw [enc_wrap (by omega), appO_some' (by rw [List.length_singleton]; omega)]
        rfl
      rw [if_neg h0, loopM_eq, hb]
      show loopM b_wormtubref14_digits_1 (((k / 10 : Nat) : Int), [UInt8.ofNat (48 + k % 10)] ++ s) = _
      rw [digit_loop d (k / 10) _ (by rw [Nat.pow_succ] at hk; omega) (by omega) (by rw [List.length_append, List.length_singleton]; omega)]
      by_cases h10 : k < 10
      · rw [dec_small h10, if_pos (by omega), Nat.mod_eq_of_lt h10]; rfl
      · rw [dec_big h10, if_neg (by omega), List.append_assoc]
theorem digits_doc {n : Int} (h0 : 0 ≤ n) (h1 : n ≤ 72057594037927936) : m_wormtubref14_digits n = some (Go.Lib.itoa n) := by
  obtain ⟨k, rfl⟩ := Int.eq_ofNat_of_zero_le h0
  unfold m_wormtubref14_digits
  have h2 : w64 (48 + Int.tmod (k : Int) 10) = ((48 + k % 10 : Nat) : Int) := by
    rw [Int.tmod_eq_emod_of_nonneg (by omega), w64_id (by omega) (by omega)]; omega
  have h3 : w64 (Int.tdiv (k : Int) 10) = ((k / 10 : Nat) : Int) := by
    rw [Int.tdiv_eq_ediv_of_nonneg (by omega), w64_id (by omega) (by omega)]; rfl
  rw [h2, h3, enc_wrap (by omega)]
  show (loopM b_wormtubref14_digits_1 (((k / 10 : Nat) : Int), [UInt8.ofNat (48 + k % 10)])).bind _ = _
  rw [digit_loop 20 (k / 10) _ (by omega) (by omega) (by simp), itoa_nat h0, Int.toNat_natCast]
  by_cases h10 : k < 10
  · rw [dec_small h10, if_pos (by omega), Nat.mod_eq_of_lt h10]; rfl
  · rw [dec_big h10, if_neg (by omega)]; rfl
theorem numsS_app (a b : List Int) : numsS (a ++ b) = numsS a ++ numsS b := by unfold numsS; rw [List.flatMap_append]
theorem numsS_one (n : Int) : numsS [n] = 32 :: Go.Lib.itoa n := by unfold numsS; rw [List.flatMap_cons, List.flatMap_nil, List.append_nil]
theorem row_1 {x : ApiBooked} (h : okS x = true) : loopM (b_wormtubref14_Row_1 x) ([letterS x.Kind], 0) = some (textS x) := by
  have hb := nums_bound h
  have hlen := textS_len h
  have hN := okS_len h
  have hpre : ∀ i, i ≤ x.N.length → (numsS (x.N.take i)).length ≤ (numsS x.N).length := by
    intro i _
    conv => rhs; rw [← List.take_append_drop i x.N, numsS_app, List.length_append]
    omega
  have htl : (textS x).length = 1 + (numsS x.N).length := by unfold textS; simp; omega
  obtain ⟨t, rfl, hq⟩ := loopM_upto (body := b_wormtubref14_Row_1 x) (fun i (t : Bytes) => (t, (i : Int))) (fun t => t) (fun i t => t = letterS x.Kind :: numsS (x.N.take i)) x.N.length
    (fun i t hi ht => by
      subst ht
      refine ⟨_, ?_, rfl⟩
      have hp := hpre (i + 1) hi
      have hp0 := hpre i (by omega)
      rw [List.take_add_one, getD_get (d := 0) hi, numsS_app] at hp ⊢
      simp only [Option.toList_some] at hp ⊢
      have hn := hb _ (getD_in (d := 0) hi)
      rw [numsS_one, List.length_append, List.length_cons] at hp
      unfold b_wormtubref14_Row_1
      rw [if_pos (by rw [decide_eq_true_eq]; omega)]
      rw [appO_some' (by simp only [List.length_cons, List.length_nil]; omega)]
      have i1 : idxL x.N (i : Int) = some (x.N.getD i 0) := by rw [idxL_nat, getD_get (d := 0) hi]
      simp only [Option.bind_some, i1, digits_doc hn.1 hn.2]
      rw [appO_some' (by simp only [List.length_append, List.length_cons, List.length_nil]; omega)]
      simp only [Option.bind_some, bindv, nx (show i ≤ 1000000000 by omega)]
      rw [numsS_one]; simp)
    (fun t _ => by unfold b_wormtubref14_Row_1; rw [if_neg (by simp)]) x.N.length 0 [letterS x.Kind] (by omega) (by simp [numsS])
  rw [List.take_of_length_le (Nat.le_refl _)] at hq
  exact hq
theorem row_2 : ∀ (d : Nat) (s : Bytes), s.length + d = 87 → loopM b_wormtubref14_Row_2 s = some (s ++ List.replicate d 46)
  | 0, s, h => by
    rw [loopM_eq]
    unfold b_wormtubref14_Row_2
    rw [if_neg (by rw [decide_eq_true_eq]; omega)]
    simp
  | d + 1, s, h => by
    have hb : b_wormtubref14_Row_2 s = some (.next (s ++ [46])) := by
      unfold b_wormtubref14_Row_2
      rw [if_pos (by rw [decide_eq_true_eq]; omega), appO_some' (by rw [List.length_singleton]; omega)]; rfl
    rw [loopM_eq, hb]
    show loopM b_wormtubref14_Row_2 (s ++ [46]) = _
    rw [row_2 d _ (by rw [List.length_append, List.length_singleton]; omega), List.append_assoc]; rfl
theorem check_1 {s : Bytes} (h : s.length = 87) : loopM (b_wormtubref14_check_1 s) (0, 0) = some (checkN s : Int) := by
  obtain ⟨t, rfl, hq⟩ := loopM_upto (body := b_wormtubref14_check_1 s) (fun i (t : Int) => (t, (i : Int))) (fun t => t) (fun i t => t = (checkN (s.take i) : Int)) 87
    (fun i t hi ht => by
      subst ht
      refine ⟨_, ?_, rfl⟩
      have hc := check_small (s.take i)
      have hb := (s.getD i 0).toNat_lt
      unfold b_wormtubref14_check_1
      rw [if_pos (by rw [decide_eq_true_eq]; omega)]
      have i1 : idxL s (i : Int) = some (s.getD i 0) := by rw [idxL_nat, getD_get (d := 0) (by omega)]
      simp only [i1, Option.bind_some, bindv, nx (show i ≤ 1000000000 by omega)]
      rw [List.take_add_one, getD_get (d := 0) (by omega), check_app]
      simp only [Option.toList_some, chk_cons]
      rw [w64_id (n := 31 * (checkN (s.take i) : Int)) (by omega) (by omega), w64_id (n := ((s.getD i 0).toNat : Int)) (by omega) (by omega), w64_id (by omega) (by omega), Int.tmod_eq_emod_of_nonneg (by omega)]
      rfl)
    (fun t _ => by unfold b_wormtubref14_check_1; rw [if_neg (by simp)]) 87 0 0 (by omega) (by simp [checkN])
  rw [List.take_of_length_le (by omega)] at hq
  exact hq
theorem hex_step {m i : Nat} {s : Bytes} (hi : i < 8) (hm : m ≤ 4294967295) (hs : s.length ≤ 8) : b_wormtubref14_check_2 ((m : Int), s, (i : Int)) = some (.next (((m / 16 : Nat) : Int), hexd (m % 16) :: s, ((i + 1 : Nat) : Int))) := by
  unfold b_wormtubref14_check_2
  rw [if_pos (by rw [decide_eq_true_eq]; show (i : Int) < 8; omega)]
  have h1 : Int.tmod (m : Int) 16 = ((m % 16 : Nat) : Int) := by rw [Int.tmod_eq_emod_of_nonneg (by omega)]; rfl
  have h2 : w64 (Int.tdiv (m : Int) 16) = ((m / 16 : Nat) : Int) := by
    rw [Int.tdiv_eq_ediv_of_nonneg (by omega), w64_id (by omega) (by omega)]; rfl
  have hmm : m % 16 < 16 := Nat.mod_lt _ (by decide)
  have h3 : idxL ([48, 49, 50, 51, 52, 53, 54, 55, 56, 57, 97, 98, 99, 100, 101, 102] : List UInt8) ((m % 16 : Nat) : Int) = some (hexd (m % 16)) := by
    rw [idxL_nat, getD_get (d := 0) (by simpa using hmm)]; rfl
  have h5 : encS ((hexd (m % 16)).toNat : Int) = [hexd (m % 16)] := enc_u8 (Nat.lt_of_le_of_lt (hexd_print _ hmm).2 (by decide))
  have h6 : w64 ((i : Int) + 1) = ((i + 1 : Nat) : Int) := nx (by omega)
  have h7 : appO [hexd (m % 16)] s = some (hexd (m % 16) :: s) := appO_some' (by rw [List.length_singleton]; omega)
  have h8 : idxL ([48, 49, 50, 51, 52, 53, 54, 55, 56, 57, 97, 98, 99, 100, 101, 102] : List UInt8) (Int.tmod (m : Int) 16) = some (hexd (m % 16)) := by rw [h1]; exact h3
  have h9 : appO (encS ((hexd (m % 16)).toNat : Int)) s = some (hexd (m % 16) :: s) := by rw [h5]; exact h7
  refine bind_of h8 (bind_of h9 ?_)
  show some (Ctl.next (w64 (Int.tdiv (m : Int) 16), hexd (m % 16) :: s, w64 ((i : Int) + 1))) = _
  rw [h2, h6]
theorem check_2 (c : Nat) (hc : c < 4294967296) : loopM b_wormtubref14_check_2 ((c : Int), [], 0) = some (hexS c) := by
  obtain ⟨t, ht, hq⟩ := loopM_upto (body := b_wormtubref14_check_2) (fun i (t : Int × Bytes) => (t.1, t.2, (i : Int))) (fun t => t.2) (fun i t => t = (((c / 16 ^ i : Nat) : Int), (hexS c).drop (8 - i))) 8
    (fun i t hi ht => by
      subst ht
      refine ⟨_, ?_, rfl⟩
      have hdiv : c / 16 ^ (i + 1) = c / 16 ^ i / 16 := by rw [Nat.pow_succ, Nat.div_div_eq_div_mul]
      have hle : c / 16 ^ i ≤ c := Nat.div_le_self _ _
      have hat := hexS_at c (i := 7 - i) (by omega)
      rw [show 7 - (7 - i) = i by omega] at hat
      have h4 := at_eq (d := 0) (l := (hexS c).drop (7 - i)) (i := 0) (by rw [List.length_drop, hexS_len]; omega)
      rw [List.take_zero, List.nil_append, getD_drop, List.drop_drop, Nat.add_zero, hat, show 7 - i + (0 + 1) = 8 - i by omega] at h4
      have h5 := hex_step (m := c / 16 ^ i) (s := (hexS c).drop (8 - i)) hi (Nat.le_trans hle (by omega)) (by rw [List.length_drop, hexS_len]; omega)
      rw [h5, hdiv, show 8 - (i + 1) = 7 - i by omega, h4])
    (fun t _ => by unfold b_wormtubref14_check_2; rw [if_neg (by simp)]) 8 0 ((c : Int), []) (by omega) (by
      rw [Nat.pow_zero, Nat.div_one, List.drop_of_length_le (by rw [hexS_len]; decide)])
  rw [ht] at hq
  exact hq
theorem check_doc {s : Bytes} (h : s.length = 87) : m_wormtubref14_check s = some (hexS (checkN s)) := by
  unfold m_wormtubref14_check
  exact bind_of (check_1 h) (bind_of (check_2 _ (check_small s)) rfl)
theorem letter_doc {k : Int} (h : 0 ≤ k ∧ k ≤ 3) : sliceL m_wormtubref14_letters k (w64 (k + 1)) = some [letterS k] := by
  rcases kind_cases h with rfl | rfl | rfl | rfl <;> rfl
theorem Row_doc {x : ApiBooked} (h : okS x = true) : m_wormtubref14_Row x = some (rowS x) := by
  have hl := textS_len h
  have hp := padS_len hl
  unfold m_wormtubref14_Row
  refine bind_of (letter_doc (okS_iff.1 h).1) (bind_of (row_1 h) ?_)
  have h2 : loopM b_wormtubref14_Row_2 (textS x) = some (padS (textS x)) := row_2 (87 - (textS x).length) (textS x) (by omega)
  refine bind_of h2 (bind_of (check_doc hp) ?_)
  rw [appO_some' (by rw [hp, hexS_len]; decide)]
  simp only [Option.bind_some]
  rw [appO_some' (by rw [List.length_append, hp, hexS_len]; decide)]
  simp only [Option.bind_some]
  rw [rowS_eq]
theorem residue_doc (b : UInt8) : m_wormtubref14_residue (b.toNat : Int) = (resS b : Int) := by
  have hb := b.toNat_lt
  unfold m_wormtubref14_residue resS
  rw [w64_id (n := (b.toNat : Int)) (by omega) (by omega), w64_id (n := (b.toNat : Int) + 95) (by omega) (by omega), w64_id (by omega) (by omega)]
  rw [Int.tmod_eq_emod_of_nonneg (by omega)]
  omega
theorem sum_2 {rows : List Bytes} (h96 : ∀ r ∈ rows, r.length = 96) (hl : rows.length ≤ 1000) {i : Nat} (hi : i < 95) (s : Bytes) : loopM (b_wormtubref14_sum_2 rows (s, (i : Int))) (0, 0) = some ((sumS rows i : Nat) : Int) := by
  obtain ⟨t, rfl, hq⟩ := loopM_upto (body := b_wormtubref14_sum_2 rows (s, (i : Int))) (fun j (t : Int) => (t, (j : Int))) (fun t => t) (fun j t => t = ((sumS (rows.take j) i : Nat) : Int)) rows.length
    (fun j t hj ht => by
      subst ht
      refine ⟨_, ?_, rfl⟩
      have hr := h96 _ (getD_in (d := ([] : Bytes)) hj)
      have hb := sumS_le (rows.take j) i
      rw [List.length_take] at hb
      have hb2 := res_lt ((rows.getD j []).getD i 0)
      unfold b_wormtubref14_sum_2
      rw [if_pos (by rw [decide_eq_true_eq]; omega)]
      have i1 : idxL rows (j : Int) = some (rows.getD j []) := by rw [idxL_nat, getD_get (d := ([] : Bytes)) hj]
      have i2 : idxL (rows.getD j []) (i : Int) = some ((rows.getD j []).getD i 0) := by rw [idxL_nat, getD_get (d := 0) (by omega)]
      simp only [i1, i2, Option.bind_some, bindv, nx (show j ≤ 1000000000 by omega), residue_doc]
      rw [sumS_snoc rows i j hj, w64_id (by omega) (by omega)]
      rfl)
    (fun t _ => by unfold b_wormtubref14_sum_2; rw [if_neg (by simp)]) rows.length 0 0 (by omega) (by simp [sumS])
  rw [List.take_of_length_le (Nat.le_refl _)] at hq
  exact hq
theorem sum_doc {rows : List Bytes} (h96 : ∀ r ∈ rows, r.length = 96) (hl : rows.length ≤ 1000) (g : Bytes) (f : Nat → Nat)
    (hj : ∀ (i : Nat), i < 95 → ((if (!(g == ([] : List UInt8))) then ((idxL g (i : Int)).bind fun c36 => bindv (w64 ((w64 ((m_wormtubref14_residue (c36.toNat : Int)) + 760)) - ((sumS rows i : Nat) : Int))) fun n_40 => some n_40) else (some ((sumS rows i : Nat) : Int)) : Option (Int)) = some ((f i : Nat) : Int) ∧ f i ≤ 1000000)) :
    m_wormtubref14_sum rows g = some (((List.range 95).map fun k => UInt8.ofNat (32 + f k % 95)) ++ [10]) := by
  unfold m_wormtubref14_sum
  obtain ⟨t, rfl, hq⟩ := loopM_upto (body := b_wormtubref14_sum_1 rows g) (fun i (t : Bytes) => (t, (i : Int))) (fun t => t) (fun i t => t = (List.range i).map fun k => UInt8.ofNat (32 + f k % 95)) 95
    (fun i t hi ht => by
      refine ⟨_, ?_, rfl⟩
      obtain ⟨h1, h2⟩ := hj i hi
      have hm : f i % 95 < 95 := Nat.mod_lt _ (by decide)
      have htl : t.length = i := by rw [ht]; simp
      unfold b_wormtubref14_sum_1
      rw [if_pos (by rw [decide_eq_true_eq]; omega)]
      refine bind_of (sum_2 h96 hl hi t) (bind_of h1 ?_)
      have h3 : w64 (32 + Int.tmod ((f i : Nat) : Int) 95) = ((32 + f i % 95 : Nat) : Int) := by
        rw [Int.tmod_eq_emod_of_nonneg (by omega), w64_id (by omega) (by omega)]; omega
      rw [h3, enc_wrap (by omega), appO_some' (by rw [List.length_singleton]; show t.length + 1 ≤ _; omega)]
      simp only [Option.bind_some, bindv, nx (show i ≤ 1000000000 by omega)]
      rw [List.range_succ, List.map_append, ht]; rfl)
    (fun t _ => by unfold b_wormtubref14_sum_1; rw [if_neg (by simp)]) 95 0 [] (by omega) rfl
  refine bind_of hq ?_
  rw [appO_some' (by simp)]; rfl
theorem guard_doc {rows : List Bytes} (h96 : ∀ r ∈ rows, r.length = 96) (hl : rows.length ≤ 1000) : m_wormtubref14_sum rows [] = some (guardS rows) :=
  sum_doc h96 hl [] (sumS rows) fun i _ => ⟨if_neg (by decide), by have := sumS_le rows i; omega⟩
end Go.Proofs.YthnlglmjffdpfaaGreatDoor
end

section
namespace Go.Proofs.YthnlglmjffdpfaaGreatDoor
open Go.Dec
theorem write_group {own rest : List ApiBooked} (h : own.length = 8 ∨ rest = []) (h8 : own.length ≤ 8) (hne : own ≠ []) : writeS (own ++ rest) = groupW own ++ writeS rest := by
  rw [write_cons (by simp [hne])]
  rcases h with h | h
  · rw [List.take_left' h, List.drop_left' h]
  · subst h
    rw [List.append_nil, List.take_of_length_le h8, List.drop_of_length_le h8]
theorem last_at {α : Type} (l : List α) (x d : α) : idxL (l ++ [x]) (w64 (((l ++ [x]).length : Int) - 1)) = if l.length ≤ 1000000 then some x else idxL (l ++ [x]) (w64 (((l ++ [x]).length : Int) - 1)) := by
  by_cases h : l.length ≤ 1000000
  · rw [if_pos h]
    have : w64 (((l ++ [x]).length : Int) - 1) = (l.length : Int) := by
      rw [List.length_append, List.length_singleton, w64_id (by omega) (by omega)]; omega
    rw [this, idxL_nat, getD_get (d := d) (by simp), getD_right (Nat.le_refl _), Nat.sub_self]; rfl
  · rw [if_neg h]
theorem wr_loop {l : List ApiBooked} (hb : okBook l = true) : ∀ (rest pre own : List ApiBooked) (s0 : Bytes), l = pre ++ rest → own.length < 8 → (∀ x ∈ own, okS x = true) → (rest = [] → own = []) → s0.length + 192 * own.length ≤ 192 * pre.length →
    ∃ rows, loopM (b_wormtubref14_Write_1 l) (s0 ++ (own.map rowS).flatten, own.map rowS, (pre.length : Int)) = some (s0 ++ (writeS (own ++ rest)).flatten, rows)
  | [], pre, own, s0, hl, h8, hok, hown, hs => by
    rw [hown rfl]
    rw [List.append_nil] at hl
    subst hl
    refine ⟨[], ?_⟩
    rw [loopM_eq]
    have : b_wormtubref14_Write_1 l (s0 ++ (([] : List ApiBooked).map rowS).flatten, ([] : List ApiBooked).map rowS, (l.length : Int)) = some (.done (s0 ++ (writeS ([] ++ [])).flatten, [])) := by
      unfold b_wormtubref14_Write_1
      rw [if_neg (by simp)]; rfl
    rw [this]
  | x :: rest, pre, own, s0, hl, h8, hok, hown, hs => by
    obtain ⟨h1, hokl⟩ := okBook_iff.1 hb
    have hx : okS x = true := hokl x (by rw [hl]; simp)
    have hlen : l.length = pre.length + (rest.length + 1) := by rw [hl]; simp
    have hr := rowS_len hx
    have hix : idxL l (pre.length : Int) = some x := by
      rw [idxL_nat, hl, List.getElem?_append_right (Nat.le_refl _), Nat.sub_self]; rfl
    have hmf : (own.map rowS).flatten.length ≤ 96 * 8 := by
      rw [flat96 (fun r hr => by
        obtain ⟨y, hy, rfl⟩ := List.mem_map.1 hr
        exact rowS_len (hok y hy)), List.length_map]; omega
    have hown2 : ∀ y ∈ own ++ [x], okS y = true := by
      intro y hy
      rcases List.mem_append.1 hy with e | e
      · exact hok y e
      · rw [List.mem_singleton.1 e]; exact hx
    have h96 : ∀ r ∈ (own ++ [x]).map rowS, r.length = 96 := by
      intro r hr
      obtain ⟨y, hy, rfl⟩ := List.mem_map.1 hr
      exact rowS_len (hown2 y hy)
    have hmap : own.map rowS ++ [rowS x] = (own ++ [x]).map rowS := by rw [List.map_append]; rfl
    have hflat : (s0 ++ (own.map rowS).flatten) ++ rowS x = s0 ++ ((own ++ [x]).map rowS).flatten := by
      rw [← hmap, List.flatten_append, List.append_assoc]; simp
    have hl2 : ((own ++ [x]).map rowS).length = own.length + 1 := by simp
    have hf2 : ((own ++ [x]).map rowS).flatten.length ≤ 96 * 8 := by rw [flat96 h96, hl2]; omega
    have hlast := last_at (own.map rowS) (rowS x) []
    rw [if_pos (by rw [List.length_map]; omega), hmap] at hlast
    have hw : w64 ((l.length : Int) - 1) = ((l.length - 1 : Nat) : Int) := by rw [w64_id (by omega) (by omega)]; omega
    by_cases hend : own.length = 7 ∨ rest = []
    · have hstep : b_wormtubref14_Write_1 l (s0 ++ (own.map rowS).flatten, own.map rowS, (pre.length : Int)) = some (.next (s0 ++ (groupW (own ++ [x])).flatten, [], ((pre.length + 1 : Nat) : Int))) := by
        unfold b_wormtubref14_Write_1
        rw [if_pos (by rw [decide_eq_true_eq]; show (pre.length : Int) < _; omega)]
        refine bind_of (a := (s0 ++ (groupW (own ++ [x])).flatten, [])) ?_ ?_
        · refine bind_of hix (bind_of (Row_doc hx) (bind_of (appO_some' (by rw [List.length_map, List.length_singleton]; omega)) ?_))
          rw [hmap]
          refine bind_of hlast (bind_of (appO_some' (by rw [List.length_append, hr]; omega)) ?_)
          rw [hflat]
          refine bind_of (a := (s0 ++ (groupW (own ++ [x])).flatten, [])) ?_ rfl
          rw [if_pos]
          · refine bind_of (guard_doc h96 (by omega)) (bind_of (appO_some' (by rw [guardS_len, List.length_append]; omega)) ?_)
            rw [List.append_assoc]
            unfold groupW
            rw [List.flatten_append]; simp
          · rw [Bool.or_eq_true, beq_iff_eq, beq_iff_eq, hl2, hw]
            rcases hend with e | e
            · left; omega
            · right
              rw [e] at hlen
              show (pre.length : Int) = _
              simp only [List.length_nil] at hlen
              omega
        · unfold bindv
          have : w64 ((pre.length : Int) + 1) = ((pre.length + 1 : Nat) : Int) := nx (by omega)
          show some (Ctl.next (_, _, w64 ((pre.length : Int) + 1))) = _
          rw [this]
      have hgl : (groupW (own ++ [x])).flatten.length ≤ 96 * 9 := by
        rw [flat96 (groupW_96 hown2), groupW_len, List.length_append, List.length_singleton]; omega
      have hw2 : writeS (own ++ x :: rest) = groupW (own ++ [x]) ++ writeS rest := by
        have : own ++ x :: rest = (own ++ [x]) ++ rest := by simp
        rw [this]
        refine write_group ?_ (by rw [List.length_append, List.length_singleton]; omega) (by simp)
        rcases hend with e | e
        · left; rw [List.length_append, List.length_singleton, e]
        · right; exact e
      rw [loopM_eq, hstep]
      obtain ⟨rows, hq⟩ := wr_loop hb rest (pre ++ [x]) [] (s0 ++ (groupW (own ++ [x])).flatten) (by rw [hl]; simp) (by simp) (by simp) (fun _ => rfl) (by
        have := flat96 (groupW_96 hown2)
        rw [groupW_len, List.length_append, List.length_singleton] at this
        rw [List.length_append, List.length_append, List.length_singleton, this, List.length_nil]
        omega)
      refine ⟨rows, ?_⟩
      rw [hw2, List.flatten_append, ← List.append_assoc]
      simp only [List.map_nil, List.flatten_nil, List.append_nil, List.nil_append, List.length_append, List.length_singleton] at hq
      exact hq
    · have hstep : b_wormtubref14_Write_1 l (s0 ++ (own.map rowS).flatten, own.map rowS, (pre.length : Int)) = some (.next (s0 ++ ((own ++ [x]).map rowS).flatten, (own ++ [x]).map rowS, ((pre.length + 1 : Nat) : Int))) := by
        unfold b_wormtubref14_Write_1
        rw [if_pos (by rw [decide_eq_true_eq]; show (pre.length : Int) < _; omega)]
        refine bind_of (a := (s0 ++ ((own ++ [x]).map rowS).flatten, (own ++ [x]).map rowS)) ?_ ?_
        · refine bind_of hix (bind_of (Row_doc hx) (bind_of (appO_some' (by rw [List.length_map, List.length_singleton]; omega)) ?_))
          rw [hmap]
          refine bind_of hlast (bind_of (appO_some' (by rw [List.length_append, hr]; omega)) ?_)
          rw [hflat]
          refine bind_of (a := (s0 ++ ((own ++ [x]).map rowS).flatten, (own ++ [x]).map rowS)) ?_ rfl
          rw [if_neg]
          rw [Bool.or_eq_true, beq_iff_eq, beq_iff_eq, hl2, hw]
          intro h
          rcases h with h | h
          · exact hend (.inl (by omega))
          · have h' : (pre.length : Int) = ((l.length - 1 : Nat) : Int) := h
            exact hend (.inr (List.eq_nil_of_length_eq_zero (by omega)))
        · unfold bindv
          have : w64 ((pre.length : Int) + 1) = ((pre.length + 1 : Nat) : Int) := nx (by omega)
          show some (Ctl.next (_, _, w64 ((pre.length : Int) + 1))) = _
          rw [this]
      rw [loopM_eq, hstep]
      obtain ⟨rows, hq⟩ := wr_loop hb rest (pre ++ [x]) (own ++ [x]) s0 (by rw [hl]; simp) (by rw [List.length_append, List.length_singleton]; omega) hown2 (fun e => absurd (.inr e) hend) (by simp only [List.length_append, List.length_singleton]; omega)
      refine ⟨rows, ?_⟩
      simp only [List.length_append, List.length_singleton, List.append_assoc, List.singleton_append] at hq
      simpa using hq
theorem Write_doc (l : List ApiBooked) : m_wormtubref14_Write l = some (i8s (writeP l).1, (writeP l).2) := by
  unfold m_wormtubref14_Write writeP
  by_cases h : l.length > 1024
  · rw [if_pos (by rw [decide_eq_true_eq]; omega), if_pos h]; rfl
  · rw [if_neg (by rw [decide_eq_true_eq]; omega), if_neg h]
    refine bind_of (Valid_doc l) ?_
    by_cases hb : okBook l = true
    · rw [hb]
      simp only [Bool.not_true, Bool.false_eq_true, if_false, if_true]
      obtain ⟨rows, hq⟩ := wr_loop hb l [] [] [] rfl (by simp) (by simp) (fun _ => rfl) (by simp)
      refine bind_of hq ?_
      have hlen := flat_len hb
      refine bind_of (append_nil (by simp only [List.nil_append]; omega)) ?_
      rfl
    · simp only [Bool.not_eq_true] at hb
      rw [hb]; rfl
end Go.Proofs.YthnlglmjffdpfaaGreatDoor
end

section
namespace Go.Proofs.YthnlglmjffdpfaaGreatDoor
open Go.Dec
theorem Tryz.own : ownKnob Tryz.prog.godebug = none := by kernel_rfl
theorem Tryz.laidOut : laidOutB Tryz.prog = true := by kernel_rfl
def okApiBooked (x : ApiBooked) : Prop := (Lit.int .i64 x.Kind).wf = true ∧ (∀ y3 ∈ x.N, (Lit.int .i64 y3).wf = true)
theorem vApiBooked {H : Type} {enc : TypeId × Value → H} {W : World} : Viewed enc Tryz.prog W 41 rApiBooked okApiBooked := by
 intro sp held fuel cs x h
 obtain ⟨xs, k, _, _, hl, hxl, hx⟩ := DataW.trod_struct Tryz.underlying41 h
 have hl' : cs.length = 2 := hl.trans (by kernel_rfl)
 obtain ⟨y0, h0⟩ := some_of (hx 0 _ rfl) hxl rfl
 have e0 : Tryz.prog.cellsOf 3 = 1 := by kernel_rfl
 obtain ⟨m0, o0, q0⟩ := (Viewed.int Tryz.underlying3) _ _ _ _ _ h0
 obtain ⟨y1, h1⟩ := some_of (hx 1 _ rfl) hxl rfl
 have e1 : Tryz.prog.cellsOf 31 = 1 := by kernel_rfl
 obtain ⟨m1, o1, q1⟩ := (Viewed.slice (sz := 1) Tryz.underlying31 (by kernel_rfl) (by decide) (Viewed.int Tryz.underlying3)) _ _ _ _ _ h1
 refine ⟨⟨m0, m1⟩, ⟨o0, o1⟩, fun F' le => ?_⟩
 have w0 : (cs.drop 0).take (Tryz.prog.cellsOf 3) = (cInt .i64) m0 := q0 F' le
 rw [e0] at w0
 have w1 : (rSl 1 (Ex (cInt .i64))) F' m1 ((cs.drop 1).take (Tryz.prog.cellsOf 31)) := q1 F' le
 rw [e1] at w1
 obtain ⟨p1_0, p1_1, w1, r1_0⟩ := w1
 exact ⟨p1_0, p1_1, (cat_cons w0 (cat_cons w1 (cat_nil hl'))), r1_0⟩
theorem vt22 {H : Type} {enc : TypeId × Value → H} {W : World} : Viewed enc Tryz.prog W 22 (rSl 2 rApiBooked) (fun x => (∀ y1 ∈ x, okApiBooked y1)) := (Viewed.slice (sz := 2) Tryz.underlying22 (by kernel_rfl) (by decide) vApiBooked)
end Go.Proofs.YthnlglmjffdpfaaGreatDoor
end

section
namespace Go.Proofs.YthnlglmjffdpfaaGreatDoor
open Go.Dec Go.Shelf Go.RowKit Go.Maps Go.Sort
noncomputable def m_wormtublaw14_FileWrites (l_1 : (List ApiBooked)) : Option Bool :=
 (m_wormtublaw14_great l_1).bind fun r_7 => if r_7 then ((m_wormtublaw14_alive).bind fun r_11 => some r_11) else ((m_file_Write l_1).bind fun r_14 => (m_wormtubref14_Write l_1).bind fun r_20 => (if (((u8s r_14.1) == (u8s r_20.1)) && (r_14.2 == r_20.2)) then ((m_wormtublaw14_alive).bind fun r_31 => some r_31) else some false).bind fun z35 => some z35)
set_option maxRecDepth 100000 in
set_option maxHeartbeats 4000000 in
theorem c_wormtublaw14_FileWrites (F0 : Fz) (hT : TabsP F0) (l_1 : (List ApiBooked)) (p2 : Option Addr) (k3 : Nat) (h4 : RepSl 2 rApiBooked F0 p2 k3 l_1) : CT0 Tryz.prog 3 [(.slice p2 l_1.length k3)].toArray F0 (m_wormtublaw14_FileWrites l_1) (fun r _ v => v = (.bool r)) := by
 refine CT0.enter Tryz.func3 rfl Tryz.ntmps3 rfl fun r R => ?_
 unfold m_wormtublaw14_FileWrites
 refine .seq (.region (.assign rfl rfl (.nil (.code (.seq (.seq (.region (.move rfl rfl (.call0 rfl Tryz.call15 rfl rfl rfl (c_wormtublaw14_great _ l_1 p2 k3 h4) ?_)))))))))
 rintro r_7 F_5 _ - l_6 rfl
 refine .nil (.code (.cond rfl (fun hb8 => ?_) (fun hb8 => ?_)))
 ·skip
  refine .seq (.region (.call0 rfl Tryz.call16 rfl rfl rfl (c_wormtublaw14_alive _ (hT.mono l_6)) ?_))
  rintro r_11 F_9 _ - l_10 rfl
  refine .assign rfl rfl (.nil (.code ?_))
  exact .ret0 Tryz.results3 (.tmp rfl (.nil)) (i := 0) rfl (Fz.t l_6 l_10) rfl
 ·skip
  refine .skip (.code (.seq (.region (.move rfl rfl (.call0 rfl Tryz.call17 rfl rfl rfl (c_file_Write _ (hT.mono l_6) l_1 p2 k3 (h4.mono l_6)) ?_)))))
  rintro r_14 F_12 _ - l_13 ⟨p15, k16, rfl, h17⟩
  refine .move rfl rfl (.extract rfl rfl rfl (.extract rfl rfl rfl (.assign rfl rfl (.assign rfl rfl (.nil (.code (.seq (.region (.move rfl rfl (.call0 rfl Tryz.call18 rfl rfl rfl (c_wormtubref14_Write _ l_1 p2 k3 (h4.mono (Fz.t l_6 l_13))) ?_))))))))))
  rintro r_20 F_18 _ - l_19 ⟨p21, k22, rfl, h23⟩
  refine .move rfl rfl (.extract rfl rfl rfl (.extract rfl rfl rfl (.assign rfl rfl (.assign rfl rfl (.nil (.code (.seq (.region (.move rfl rfl (.bytesStr rfl Tryz.underlying25 Tryz.underlying5 Tryz.underlying9 (h17.mono l_19) rfl (.move rfl rfl ?_)))))))))))
  refine .bytesStr rfl Tryz.underlying25 Tryz.underlying5 Tryz.underlying9 h23 rfl (.eqlS rfl Tryz.underlying9 rfl rfl (.move rfl rfl (.andP (b := ((u8s r_14.1) == (u8s r_20.1))) (b' := (r_14.2 == r_20.2)) 4 29 (fun hb24 => ?_) (fun hb25 => ?_) (fun F_26 l_27 => ?_))))
  ·skip
   refine .onH hb24 rfl rfl (.move rfl rfl (.onH hb24 rfl rfl (.move rfl rfl (.onH hb24 rfl rfl (.eql rfl rfl rfl (.pickTH hb24 rfl rfl rfl ?_))))))
   exact .fin 4 rfl rfl (by kernel_rfl) Fz.r
  ·skip
   refine .offH hb25 rfl rfl rfl (.offH hb25 rfl rfl rfl (.offH hb25 rfl rfl rfl (.pickFH hb25 rfl rfl rfl ?_)))
   exact .fin 4 rfl rfl (by kernel_rfl) Fz.r
  refine .move rfl rfl (.andM (b := (((u8s r_14.1) == (u8s r_20.1)) && (r_14.2 == r_20.2))) 2 32 (fun hb28 z36 => ?_) (fun hb32 => ?_) (fun z35 F_33 l_34 => ?_))
  ·skip
   refine .onH hb28 rfl rfl (.call0 rfl Tryz.call16 rfl rfl rfl (c_wormtublaw14_alive _ (hT.mono (Fz.t l_6 (Fz.t l_13 (Fz.t l_19 l_27))))) ?_)
   rintro r_31 F_29 _ - l_30 rfl
   refine .pickTH hb28 rfl rfl rfl ?_
   exact .finZ 2 rfl rfl (by kernel_rfl) l_30
  ·skip
   refine .offH hb32 rfl rfl rfl (.pickFH hb32 rfl rfl rfl ?_)
   exact .fin 2 rfl rfl (by kernel_rfl) Fz.r
  refine .assign rfl rfl (.nil (.keep (.cons (k := 2) rfl (.nil _)) (.code ?_)))
  exact .ret0 Tryz.results3 (.tmp rfl (.nil)) (i := 0) rfl (Fz.t l_6 (Fz.t l_13 (Fz.t l_19 (Fz.t l_27 l_34)))) rfl
end Go.Proofs.YthnlglmjffdpfaaGreatDoor
end

section
namespace Go.Proofs.YthnlglmjffdpfaaGreatDoor
open Go.Dec Go.Shelf Go.RowKit Go.Maps Go.Sort
theorem arr_of_list {α : Type} {a : Array α} {l : List α} (h : a.toList = l) : a = l.toArray := by rw [← h]
theorem gErrS : Tryz.prog.globalNamed "strconv.ErrSyntax" = some 1 := by kernel_rfl
theorem gErrR : Tryz.prog.globalNamed "strconv.ErrRange" = some 2 := by kernel_rfl
theorem gPow : Tryz.prog.globalNamed "internal/strconv.uint64pow10" = some 3 := by kernel_rfl
theorem tErrS : (Tryz.prog.globals[1]?).map (·.type) = some 120 := by kernel_rfl
theorem tErrR : (Tryz.prog.globals[2]?).map (·.type) = some 120 := by kernel_rfl
theorem tPow : (Tryz.prog.globals[3]?).map (·.type) = some 196 := by kernel_rfl
theorem err_of {W : World} {ps : List MemPlace} {l : List (String × DataW Unit)} (hl : DataW.LaidVars Tryz.prog W l ps) (j g0 : Nat) {n : String} {nm : String} {d : DataW Unit} (hj : l[j]? = some (n, .iface nm d)) (hg0 : Tryz.prog.globalNamed n = some g0) (ht0 : (Tryz.prog.globals[g0]?).map (·.type) = some 120) :
    ∃ ev T fr, (FW W).mem g0 = some (.cells #[ev] T fr) ∧ (ev = .nilIface ∨ ∃ te pe, ev = .iface te pe) := by
  obtain ⟨g, t, cs, fuel, p, T, fr, hg, ht, hh, hd⟩ := laid_at j hj hl
  obtain rfl := Option.some.inj (hg0.symm.trans hg)
  obtain rfl := Option.some.inj (ht0.symm.trans ht)
  obtain ⟨u, v, hc⟩ := Go.Dec.iface_cells Tryz.underlying120 hd
  exact ⟨_, T, fr, by rw [show (FW W).mem g0 = W.heap[g0]? from rfl, hh, arr_of_list hc], .inr ⟨u, v, rfl⟩⟩
theorem cells143 : Tryz.prog.cellsOf 143 = 1 := by kernel_rfl
theorem cells196 : Tryz.prog.cellsOf 196 = 20 := by kernel_rfl
theorem pow_data : (Rows.laid_internal_strconv_uint64pow10 : DataW Unit) = Go.Lib.tabData .u64 Go.Lib.pow10Tab := by kernel_rfl
theorem maxLen0 : ((begin Tryz.prog (fun _ _ => 0) default).world.heap[0]?).bind Obj.row? = some (#[.int .i64 0], 3) := by kernel_rfl
theorem laid_plain {W : World} (h : laidMetH Tryz.prog Rows.fileWritesRow.laid W) : laidMet Tryz.prog Rows.fileWritesRow.laid W := by
  rwa [MakeChecks.laidMetH_plain _ _ _ (by kernel_rfl)] at h
set_option maxRecDepth 100000 in
theorem tabs_of {W : World} (h : laidMetH Tryz.prog Rows.fileWritesRow.laid W) (hsh : W.ShapedOpen Tryz.prog) : TabsP (FW W) := by
  obtain ⟨ps, hl, _, _⟩ := laid_plain h
  refine ⟨?_, ?_, ?_, ?_⟩
  · obtain ⟨g, t, cs, fuel, p, T, fr, hg, ht, hh, hd⟩ := laid_at 2 rfl hl
    obtain rfl := Option.some.inj (gPow.symm.trans hg)
    obtain rfl := Option.some.inj (tPow.symm.trans ht)
    have hc := Go.Lib.cells_of_tab Tryz.underlying196 Tryz.underlying143 cells143 cells196 (by rw [← pow_data]; exact hd)
    exact ⟨3, T, fr, gPow, by rw [show (FW W).mem 3 = W.heap[3]? from rfl, hh, arr_of_list hc]; rfl⟩
  · obtain ⟨m, hm⟩ := Go.Proofs.cell_of_shapedOpen_int (P := Tryz.prog) (g := 0) (t := 3) (zero := #[.int .i64 0]) hsh (of_decide_eq_true (by kernel_rfl)) maxLen0 rfl (by kernel_rfl) (by kernel_rfl) Tryz.underlying3
    obtain ⟨T, fr, hb⟩ := int_cell_block hsh (of_decide_eq_true (by kernel_rfl)) maxLen0 rfl hm
    exact ⟨m, T, fr, hb⟩
  · exact err_of hl 5 1 rfl gErrS tErrS
  · exact err_of hl 4 2 rfl gErrR tErrR
end Go.Proofs.YthnlglmjffdpfaaGreatDoor
end

section
namespace Go.Proofs.YthnlglmjffdpfaaGreatDoor
open Go.Dec
open Go.ChangeShapes Go.WideShapes Go.ChangeAt Go.RowKit
def LawFileWrites : Prop := ∀ (a0 : (List ApiBooked)), (∀ y ∈ a0, okApiBooked y) → m_wormtublaw14_FileWrites a0 = some true
set_option maxRecDepth 100000 in
theorem lifted_FileWrites (law : LawFileWrites) (os : Os) (started : os.Started) (H : Type) (enc : TypeId × Value → H) :
  ReturnsInHanded {} Tryz.checked os 3 .any (fun w args => (Rows.fileWritesSpec.pre enc Tryz.prog Tryz.f3 Rows.fileWritesRow.domain false w args ∧ laidMetH Tryz.prog Rows.fileWritesRow.laid w) ∧ sizedMet enc Tryz.prog Tryz.f3 (OpenSpec.ofChange Rows.fileWritesSpec) false w args) (Rows.fileWritesSpec.post enc Tryz.prog Tryz.f3 false true false false) := by
 refine lift_tied (C := Tryz.checked) (X := fun w => laidMetH Tryz.prog Rows.fileWritesRow.laid w) (fun _ _ hh h => h.of_heap hh) Tryz.own started (by kernel_rfl) Tryz.func3
  (ChangeSpec.witness_shaped (enc := enc) (C := Tryz.checked) (os := os) (X := fun w _ => laidMetH Tryz.prog Rows.fileWritesRow.laid w) false (World.laidAll Tryz.prog os Rows.fileWritesRow.laid) #[.slice none 0 0] 12 (World.laidAll_os _ _ _) (World.shaped_of_ZipB (by kernel_rfl) (by kernel_rfl)) (by kernel_rfl) (by kernel_rfl) (by kernel_rfl)
   (by rw [MakeChecks.laidMetH_plain _ _ _ (by kernel_rfl)]; exact laidMet_laidAll _ (by kernel_rfl) (by kernel_rfl))) ?_
 intro W base args ds gs before hval hW hsh hL
 have hT : TabsP (FW W) := tabs_of hL hsh
 refine law_contractW (P := Tryz.prog) Tryz.laidOut (by kernel_rfl) rfl (by kernel_rfl : Tryz.f3.resultTypes = #[4]) Tryz.underlying4 (fun ds h => ?_) (fun base args ds ps hval hA => ?_) base args ds gs before hval hW
 ·match ds, h with
  | [d0], _ => rfl
 ·rw [Tryz.params3] at hA hval
  obtain ⟨v0, l0, _, _, _, _, e0, _, _, t0, hA⟩ := trodAll_cons hA
  obtain ⟨e1, _, _⟩ := trodAll_nil hA
  subst e1
  obtain rfl : args = [v0].toArray := by rw [← e0]
  obtain ⟨m0, p0, k0, o0, rfl, h0⟩ := argSlice Tryz.underlying22 vt22 (hval 0 _ _ rfl rfl) t0
  have hl := law m0 o0
  have hc := c_wormtublaw14_FileWrites (FW W) hT m0 p0 k0 h0
  rw [hl] at hc
  exact hc
theorem said_FileWrites (law : LawFileWrites) : Rows.FileWritesSaid :=
 OpenClaim.holds_of_wide 3 Tryz.f3 rfl rfl rfl rfl rfl rfl rfl ⟨rfl, rfl, rfl, rfl, rfl⟩ rfl rfl rfl rfl rfl (by kernel_rfl) Tryz.func3 (by kernel_rfl)
  (of_decide_eq_true (by kernel_rfl)) (by unfold Func.isWrapper; first | (rw [if_pos (by decide +kernel)]; kernel_rfl) | (rw [if_neg (by decide +kernel)]; exact ⟨rfl, rfl⟩))
  (fun os started H enc _ => lifted_FileWrites law os started H enc)
theorem card_FileWrites (law : LawFileWrites) : Rows.FileWritesCardSaid :=
 Claim7.holds_tied_plain_at .later [] [.data, .data, .data, .data, .sentinel, .sentinel, .pinned] true (true, "3bd84bf44a97e49b979e061ef005845ecf1aa6bc424530e46bde597d8668a3f8") true (said_FileWrites law) (fun _ h => by cases h) (by kernel_rfl) (fun _ h => by cases h) fileWrites_row_tie rfl ⟨rfl, rfl⟩ (by kernel_rfl) rfl
  (fun f fn hf hfn => by
   obtain rfl : f = 3 := Option.some.inj ((show Tryz.prog.funcNamed "wormtub/wormtublaw14.FileWrites" = some 3 by kernel_rfl).symm.trans hf) |>.symm
   obtain rfl : fn = Tryz.f3 := (Option.some.inj (Tryz.func3.symm.trans hfn)).symm
   exact ⟨by kernel_rfl, fun j t ht => by
    have hall : (Tryz.f3.params.toList.all fun u => !Tryz.prog.wantsStandIn u) = true := by kernel_rfl
    have hm := Array.mem_of_getElem? ht
    exact (show Tryz.prog.wantsStandIn t = false by first | (simp at hm; done) | simpa using List.all_eq_true.1 hall t (by simpa using hm))⟩)
  (by kernel_rfl)
end Go.Proofs.YthnlglmjffdpfaaGreatDoor
end

section
namespace Go.Proofs.YthnlglmjffdpfaaGreatDoor
open Go.Dec
theorem law_FileWrites : LawFileWrites := by
  intro l _
  unfold m_wormtublaw14_FileWrites
  rcases great_cases l with hg | ⟨hg, h30, h20⟩
  · refine bind_of hg ?_
    rw [if_pos rfl, alive_true]; rfl
  · refine bind_of hg ?_
    rw [if_neg (by decide)]
    refine bind_of (Write_prog l) (bind_of (Write_doc l) ?_)
    rw [if_pos (by simp), alive_true]; rfl
theorem fileWrites_holds : Rows.FileWritesCardSaid := card_FileWrites law_FileWrites
end Go.Proofs.YthnlglmjffdpfaaGreatDoor
end
