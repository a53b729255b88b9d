/- Own texts and texts printed by a program of mine, for fileLists_holds; only what it reaches. -/
import Derived.Test.YthnlglmjffdpfaaGreatDoorPa5
import Derived.Test.YthnlglmjffdpfaaGreatDoorRows
section
namespace Go.Proofs.YthnlglmjffdpfaaGreatDoor
open Go.Dec Go.Shelf Go.RowKit Go.Maps Go.Sort
noncomputable def m_wormtubref14_Most (kind1 : Int) : Option (List Int) :=
 if (kind1 == 0) then (some ([5, 1099511627776, 1099511627776])) else (if (kind1 == 1) then (some ([1073741824, 1073741824, 1073741824])) else (if (kind1 == 2) then (some ([8, 65536, 1073741824, 1073741824, 1073741824, 1073741824, 1099511627776, 7])) else (some ([6, 65536, 15, 15, 1073741824, 72057594037927936]))))
set_option maxRecDepth 100000 in
set_option maxHeartbeats 4000000 in
theorem c_wormtubref14_Most (F0 : Fz) (kind1 : Int) : CT0 Tryz.prog 88 [(.int .i64 kind1)].toArray F0 (m_wormtubref14_Most kind1) (fun r F v => ∃ (p0 : Option Addr) (k0 : Nat), v = (.slice p0 r.length k0) ∧ RepSl 1 (Ex (cInt .i64)) F p0 k0 r) := by
 refine CT0.enter Tryz.func88 rfl Tryz.ntmps88 rfl fun r R => ?_
 unfold m_wormtubref14_Most
 refine .seq (.region (.assign rfl rfl (.nil (.code (.seq (.seq (.region (.move rfl rfl (.nil (.code (.block ?_)))))))))))
 refine .seq (.region (.eql rfl rfl rfl (.assign rfl rfl (.nil (.code (.cond rfl (fun hb2 => ?_) (fun hb2 => ?_)))))))
 ·skip
  refine .seq (.region (.sliceLit (cs := [.int .i64 5, .int .i64 1099511627776, .int .i64 1099511627776]) (zc := [.int .i64 0, .int .i64 0, .int .i64 0]) rfl Tryz.underlying31 Tryz.sizeOf3 Tryz.zeroValue3 rfl rfl rfl (by kernel_rfl) (by kernel_rfl) (fun b3 F_4 l_5 hb6 => ?_)))
  have h7 : RepSl 1 (Ex (cInt .i64)) F_4 (some ⟨b3, 0, none⟩) 3 ([5, 1099511627776, 1099511627776]) := RepSl.ofRow hb6 (.cons ok_t3.mono rfl (.cons ok_t3.mono rfl (.cons ok_t3.mono rfl .nil))) rfl rfl
  refine .assign rfl rfl (.nil (.code ?_))
  exact .ret0 Tryz.results88 (.tmp rfl (.nil)) (i := 0) rfl l_5 ⟨(some ⟨b3, 0, none⟩), 3, rfl, h7⟩
 ·skip
  refine .seq (.region (.eql rfl rfl rfl (.assign rfl rfl (.nil (.code (.cond rfl (fun hb8 => ?_) (fun hb8 => ?_)))))))
  ·skip
   refine .seq (.region (.sliceLit (cs := [.int .i64 1073741824, .int .i64 1073741824, .int .i64 1073741824]) (zc := [.int .i64 0, .int .i64 0, .int .i64 0]) rfl Tryz.underlying31 Tryz.sizeOf3 Tryz.zeroValue3 rfl rfl rfl (by kernel_rfl) (by kernel_rfl) (fun b9 F_10 l_11 hb12 => ?_)))
   have h13 : RepSl 1 (Ex (cInt .i64)) F_10 (some ⟨b9, 0, none⟩) 3 ([1073741824, 1073741824, 1073741824]) := RepSl.ofRow hb12 (.cons ok_t3.mono rfl (.cons ok_t3.mono rfl (.cons ok_t3.mono rfl .nil))) rfl rfl
   refine .assign rfl rfl (.nil (.code ?_))
   exact .ret0 Tryz.results88 (.tmp rfl (.nil)) (i := 0) rfl l_11 ⟨(some ⟨b9, 0, none⟩), 3, rfl, h13⟩
  ·skip
   refine .seq (.region (.eql rfl rfl rfl (.assign rfl rfl (.nil (.code (.cond rfl (fun hb14 => ?_) (fun hb14 => ?_)))))))
   ·skip
    refine .seq (.region ?_)
    refine .sliceLit (cs := [.int .i64 8, .int .i64 65536, .int .i64 1073741824, .int .i64 1073741824, .int .i64 1073741824, .int .i64 1073741824, .int .i64 1099511627776, .int .i64 7]) (zc := [.int .i64 0, .int .i64 0, .int .i64 0, .int .i64 0, .int .i64 0, .int .i64 0, .int .i64 0, .int .i64 0]) rfl Tryz.underlying31 Tryz.sizeOf3 Tryz.zeroValue3 rfl rfl rfl (by kernel_rfl) (by kernel_rfl) (fun b15 F_16 l_17 hb18 => ?_)
    have h19 : RepSl 1 (Ex (cInt .i64)) F_16 (some ⟨b15, 0, none⟩) 8 ([8, 65536, 1073741824, 1073741824, 1073741824, 1073741824, 1099511627776, 7]) := RepSl.ofRow hb18 (.cons ok_t3.mono rfl (.cons ok_t3.mono rfl (.cons ok_t3.mono rfl (.cons ok_t3.mono rfl (.cons ok_t3.mono rfl (.cons ok_t3.mono rfl (.cons ok_t3.mono rfl (.cons ok_t3.mono rfl .nil)))))))) rfl rfl
    refine .assign rfl rfl (.nil (.code ?_))
    exact .ret0 Tryz.results88 (.tmp rfl (.nil)) (i := 0) rfl l_17 ⟨(some ⟨b15, 0, none⟩), 8, rfl, h19⟩
   ·skip
    refine .skip (.block (.code (.seq (.region (.sliceLit (cs := [.int .i64 6, .int .i64 65536, .int .i64 15, .int .i64 15, .int .i64 1073741824, .int .i64 72057594037927936]) (zc := [.int .i64 0, .int .i64 0, .int .i64 0, .int .i64 0, .int .i64 0, .int .i64 0]) rfl Tryz.underlying31 Tryz.sizeOf3 Tryz.zeroValue3 rfl rfl rfl (by kernel_rfl) (by kernel_rfl) (fun b20 F_21 l_22 hb23 => ?_))))))
    have h24 : RepSl 1 (Ex (cInt .i64)) F_21 (some ⟨b20, 0, none⟩) 6 ([6, 65536, 15, 15, 1073741824, 72057594037927936]) := RepSl.ofRow hb23 (.cons ok_t3.mono rfl (.cons ok_t3.mono rfl (.cons ok_t3.mono rfl (.cons ok_t3.mono rfl (.cons ok_t3.mono rfl (.cons ok_t3.mono rfl .nil)))))) rfl rfl
    refine .assign rfl rfl (.nil (.code ?_))
    exact .ret0 Tryz.results88 (.tmp rfl (.nil)) (i := 0) rfl l_22 ⟨(some ⟨b20, 0, none⟩), 6, rfl, h24⟩
noncomputable def b_wormtubref14_valid_1 (x1 : ApiBooked) (s143 : Int) : Option (Ctl (Int) ((Unit) ⊕ (Bool))) :=
 if (decide (s143 < (x1.N.length : Int))) then (((idxL x1.N s143).bind fun x148 => if (decide (x148 < 0)) then (some true) else ((idxL x1.N s143).bind fun x201 => (m_wormtubref14_Most x1.Kind).bind fun r_213 => (idxL r_213 s143).bind fun x219 => some (decide (x201 > x219))) : Option (Bool)).bind fun j284 => if j284 then (some (.done (.inr false))) else (bindv (w64 (s143 + 1)) fun i288 => some (.next i288))) else (some (.done (.inl ())))
noncomputable def m_wormtubref14_valid (x1 : ApiBooked) : Option Bool :=
 (if (decide (x1.Kind < 0)) then (some true) else (if (decide (x1.Kind > 3)) then (some true) else ((m_wormtubref14_Most x1.Kind).bind fun r_90 => some ((x1.N.length : Int) != (r_90.length : Int)))) : Option (Bool)).bind fun j139 => if j139 then (some false) else ((loopM (b_wormtubref14_valid_1 x1) 0).bind fun b0 => match b0 with | .inl _b290 => (some true) | .inr b290 => (some b290))
set_option maxRecDepth 100000 in
set_option maxHeartbeats 4000000 in
theorem c_wormtubref14_valid (F0 : Fz) (x1 : ApiBooked) (p2 : Option Addr) (k3 : Nat) (h4 : RepSl 1 (Ex (cInt .i64)) F0 p2 k3 x1.N) : CT0 Tryz.prog 57 [(eApiBooked x1 p2 k3)].toArray F0 (m_wormtubref14_valid x1) (fun r _ v => v = (.bool r)) := by
 refine CT0.enter Tryz.func57 rfl Tryz.ntmps57 rfl fun r R => ?_
 unfold m_wormtubref14_valid
 refine .seq (.region (.boxF (cs := (cApiBooked x1 p2 k3)) rfl rfl rfl (fun b5 F_6 l_7 hb8 => ?_)))
 refine .assign rfl rfl (.nil (.code (.seq (.seq (.keep (.cons (k := 1) rfl (.nil _)) ?_)))))
 refine GC.join0 (σ := Bool) (fun j139 a w => ∃ (F_140 : Fz), F_6 ≤ F_140 ∧ Hd 49 [] [(1, (.pointer (some ⟨b5, 0, none⟩))), (21, (.bool j139))] F_140 [R] a w) (fun sj => ?_) (fun j139 hs0 => GE.ex (fun a w ⟨F_140, l_141, hA⟩ => ⟨_, hA, ?_⟩))
 ·skip
  refine .ite (fun hb10 => ?_) (fun hb10 => ?_)
  ·skip
   refine .drawG 18 0 (fun env9 => [((.pointer (some ⟨b5, 0 + 0, none⟩)), fun _ => True), ((.int .i64 x1.Kind), fun _ => True), ((.bool (decide (x1.Kind < 0))), fun _ => True), ((.bool (decide (x1.Kind < 0))), fun _ => True), (undef, fun _ => True), (undef, fun _ => True), (undef, fun _ => True), ((.bool true), fun _ => True), ((.bool true), fun _ => True), (undef, fun _ => True), (undef, fun _ => True), (undef, fun _ => True), (undef, fun _ => True), (undef, fun _ => True), (undef, fun _ => True), (undef, fun _ => True), (undef, fun _ => True), ((.bool true), fun _ => True)]) (fun L env9 => [R]) mixedOK (by kernel_rfl) (by kernel_rfl) rfl (fun _ => rfl) (by kernel_rfl) (fun _ => rfl) ?_ (fun env9 F_11 l_12 hphi => ?_)
   ·skip
    refine .cons (fun L env9 F_13 l_14 hL hdn hup hphi => ⟨[(1, (.pointer (some ⟨b5, 0, none⟩)))], fun S hS hV => (.cons (hS _ _ rfl) (Sub.nil _)), ?_⟩) ?_
    ·skip
     refine .fieldAddr rfl Tryz.underlying41 rfl Tryz.sizeOf3 rfl ?_
     exact .finV rfl rfl Fz.r
    refine .cons (fun L env9 F_15 l_16 hL hdn hup hphi => ⟨[(4, (.pointer (some ⟨b5, 0 + 0, none⟩)))], fun S hS hV => (.cons (hV 0 4 _ (hdn 1 0 rfl) rfl rfl) (Sub.nil _)), ?_⟩) ?_
    ·skip
     refine .loadF rfl Tryz.isAgg3 rfl (l_16.mem _ _ hb8) rfl ?_
     exact .finV rfl rfl Fz.r
    refine .cons (fun L env9 F_17 l_18 hL hdn hup hphi => ⟨[(5, (.int .i64 x1.Kind))], fun S hS hV => (.cons (hV 1 5 _ (hdn 1 1 rfl) rfl rfl) (Sub.nil _)), ?_⟩) ?_
    ·skip
     refine .lss rfl rfl rfl ?_
     exact .finV rfl rfl Fz.r
    refine .cons (fun L env9 F_19 l_20 hL hdn hup hphi => ⟨[(6, (.bool (decide (x1.Kind < 0))))], fun S hS hV => (.cons (hV 2 6 _ (hdn 1 2 rfl) rfl rfl) (Sub.nil _)), ?_⟩) ?_
    ·skip
     refine .move rfl rfl ?_
     exact .finV rfl rfl Fz.r
    refine .cons (fun L env9 F_21 l_22 hL hdn hup hphi => ⟨[(1, (.pointer (some ⟨b5, 0, none⟩))), (7, (.bool (decide (x1.Kind < 0))))], fun S hS hV => (.cons (hS _ _ rfl) (.cons (hV 3 7 _ (hdn 1 3 rfl) rfl rfl) (Sub.nil _))), ?_⟩) ?_
    ·skip
     refine .offH hb10 rfl rfl rfl ?_
     exact .finV rfl rfl Fz.r
    refine .cons (fun L env9 F_23 l_24 hL hdn hup hphi => ⟨[(7, (.bool (decide (x1.Kind < 0)))), (8, undef)], fun S hS hV => (.cons (hV 3 7 _ (hdn 1 3 rfl) rfl rfl) (.cons (hV 4 8 _ (hdn 1 4 rfl) rfl rfl) (Sub.nil _))), ?_⟩) ?_
    ·skip
     refine .offH hb10 rfl rfl rfl ?_
     exact .finV rfl rfl Fz.r
    refine .cons (fun L env9 F_25 l_26 hL hdn hup hphi => ⟨[(7, (.bool (decide (x1.Kind < 0)))), (9, undef)], fun S hS hV => (.cons (hV 3 7 _ (hdn 1 3 rfl) rfl rfl) (.cons (hV 5 9 _ (hdn 1 5 rfl) rfl rfl) (Sub.nil _))), ?_⟩) ?_
    ·skip
     refine .offH hb10 rfl rfl rfl ?_
     exact .finV rfl rfl Fz.r
    refine .cons (fun L env9 F_27 l_28 hL hdn hup hphi => ⟨[(7, (.bool (decide (x1.Kind < 0)))), (10, undef)], fun S hS hV => (.cons (hV 3 7 _ (hdn 1 3 rfl) rfl rfl) (.cons (hV 6 10 _ (hdn 1 6 rfl) rfl rfl) (Sub.nil _))), ?_⟩) ?_
    ·skip
     refine .pickTH hb10  rfl rfl rfl ?_
     exact .finV rfl rfl Fz.r
    refine .cons (fun L env9 F_29 l_30 hL hdn hup hphi => ⟨[(11, (.bool true))], fun S hS hV => (.cons (hV 7 11 _ (hdn 1 7 rfl) rfl rfl) (Sub.nil _)), ?_⟩) ?_
    ·skip
     refine .move rfl rfl ?_
     exact .finV rfl rfl Fz.r
    refine .cons (fun L env9 F_31 l_32 hL hdn hup hphi => ⟨[(1, (.pointer (some ⟨b5, 0, none⟩))), (12, (.bool true))], fun S hS hV => (.cons (hS _ _ rfl) (.cons (hV 8 12 _ (hdn 1 8 rfl) rfl rfl) (Sub.nil _))), ?_⟩) ?_
    ·skip
     refine .off rfl rfl rfl rfl ?_
     exact .finV rfl rfl Fz.r
    refine .cons (fun L env9 F_33 l_34 hL hdn hup hphi => ⟨[(12, (.bool true)), (13, undef)], fun S hS hV => (.cons (hV 8 12 _ (hdn 1 8 rfl) rfl rfl) (.cons (hV 9 13 _ (hdn 1 9 rfl) rfl rfl) (Sub.nil _))), ?_⟩) ?_
    ·skip
     refine .off rfl rfl rfl rfl ?_
     exact .finV rfl rfl Fz.r
    refine .cons (fun L env9 F_35 l_36 hL hdn hup hphi => ⟨[(12, (.bool true)), (14, undef)], fun S hS hV => (.cons (hV 8 12 _ (hdn 1 8 rfl) rfl rfl) (.cons (hV 10 14 _ (hdn 1 10 rfl) rfl rfl) (Sub.nil _))), ?_⟩) ?_
    ·skip
     refine .off rfl rfl rfl rfl ?_
     exact .finV rfl rfl Fz.r
    refine .cons (fun L env9 F_37 l_38 hL hdn hup hphi => ⟨[(1, (.pointer (some ⟨b5, 0, none⟩))), (12, (.bool true))], fun S hS hV => (.cons (hS _ _ rfl) (.cons (hV 8 12 _ (hdn 1 8 rfl) rfl rfl) (Sub.nil _))), ?_⟩) ?_
    ·skip
     refine .off rfl rfl rfl rfl ?_
     exact .finV rfl rfl Fz.r
    refine .cons (fun L env9 F_39 l_40 hL hdn hup hphi => ⟨[(12, (.bool true)), (16, undef)], fun S hS hV => (.cons (hV 8 12 _ (hdn 1 8 rfl) rfl rfl) (.cons (hV 12 16 _ (hdn 1 12 rfl) rfl rfl) (Sub.nil _))), ?_⟩) ?_
    ·skip
     refine .off rfl rfl rfl rfl ?_
     exact .finV rfl rfl Fz.r
    refine .cons (fun L env9 F_41 l_42 hL hdn hup hphi => ⟨[(12, (.bool true)), (17, undef)], fun S hS hV => (.cons (hV 8 12 _ (hdn 1 8 rfl) rfl rfl) (.cons (hV 13 17 _ (hdn 1 13 rfl) rfl rfl) (Sub.nil _))), ?_⟩) ?_
    ·skip
     refine .off rfl rfl rfl rfl ?_
     exact .finV rfl rfl Fz.r
    refine .cons (fun L env9 F_43 l_44 hL hdn hup hphi => ⟨[(12, (.bool true)), (18, undef)], fun S hS hV => (.cons (hV 8 12 _ (hdn 1 8 rfl) rfl rfl) (.cons (hV 14 18 _ (hdn 1 14 rfl) rfl rfl) (Sub.nil _))), ?_⟩) ?_
    ·skip
     refine .off rfl rfl rfl rfl ?_
     exact .finV rfl rfl Fz.r
    refine .cons (fun L env9 F_45 l_46 hL hdn hup hphi => ⟨[(12, (.bool true)), (15, undef), (19, undef)], fun S hS hV => (.cons (hV 8 12 _ (hdn 1 8 rfl) rfl rfl) (.cons (hV 11 15 _ (hdn 1 11 rfl) rfl rfl) (.cons (hV 15 19 _ (hdn 1 15 rfl) rfl rfl) (Sub.nil _)))), ?_⟩) ?_
    ·skip
     refine .off rfl rfl rfl rfl ?_
     exact .finV rfl rfl Fz.r
    refine .cons (fun L env9 F_47 l_48 hL hdn hup hphi => ⟨[(12, (.bool true)), (20, undef)], fun S hS hV => (.cons (hV 8 12 _ (hdn 1 8 rfl) rfl rfl) (.cons (hV 16 20 _ (hdn 1 16 rfl) rfl rfl) (Sub.nil _))), ?_⟩) ?_
    ·skip
     refine .pickT  rfl rfl rfl ?_
     exact .finV rfl rfl Fz.r
    exact .nil
   refine .norm (S' := [(1, (.pointer (some ⟨b5, 0, none⟩))), (4, (.pointer (some ⟨b5, 0 + 0, none⟩))), (5, (.int .i64 x1.Kind)), (6, (.bool (decide (x1.Kind < 0)))), (7, (.bool (decide (x1.Kind < 0)))), (11, (.bool true)), (12, (.bool true)), (21, (.bool true))]) (.cons (k := 1) rfl (.cons (k := 4) rfl (.cons (k := 5) rfl (.cons (k := 6) rfl (.cons (k := 7) rfl (.cons (k := 11) rfl (.cons (k := 12) rfl (.cons (k := 21) rfl (.nil _))))))))) (rfl : _ = [R]) ?_
   refine .nil ?_
   exact .nil fun e a w h => by cases e; exact ⟨rfl, ⟨F_11, l_12, h.1.sub (.cons (k := 1) rfl (.cons (k := 21) rfl (.nil _))), h.2⟩⟩
  ·skip
   refine .ite (fun hb49 => ?_) (fun hb49 => ?_)
   ·skip
    refine .drawG 18 0 (fun env9 => [((.pointer (some ⟨b5, 0 + 0, none⟩)), fun _ => True), ((.int .i64 x1.Kind), fun _ => True), ((.bool (decide (x1.Kind < 0))), fun _ => True), ((.bool (decide (x1.Kind < 0))), fun _ => True), ((.pointer (some ⟨b5, 0 + 0, none⟩)), fun _ => True), ((.int .i64 x1.Kind), fun _ => True), ((.bool (decide (x1.Kind > 3))), fun _ => True), ((.bool (decide (x1.Kind > 3))), fun _ => True), ((.bool (decide (x1.Kind > 3))), fun _ => True), (undef, fun _ => True), (undef, fun _ => True), (undef, fun _ => True), (undef, fun _ => True), (undef, fun _ => True), (undef, fun _ => True), (undef, fun _ => True), (undef, fun _ => True), ((.bool true), fun _ => True)]) (fun L env9 => [R]) mixedOK (by kernel_rfl) (by kernel_rfl) rfl (fun _ => rfl) (by kernel_rfl) (fun _ => rfl) ?_ (fun env9 F_50 l_51 hphi => ?_)
    ·skip
     refine .cons (fun L env9 F_52 l_53 hL hdn hup hphi => ⟨[(1, (.pointer (some ⟨b5, 0, none⟩)))], fun S hS hV => (.cons (hS _ _ rfl) (Sub.nil _)), ?_⟩) ?_
     ·skip
      refine .fieldAddr rfl Tryz.underlying41 rfl Tryz.sizeOf3 rfl ?_
      exact .finV rfl rfl Fz.r
     refine .cons (fun L env9 F_54 l_55 hL hdn hup hphi => ⟨[(4, (.pointer (some ⟨b5, 0 + 0, none⟩)))], fun S hS hV => (.cons (hV 0 4 _ (hdn 1 0 rfl) rfl rfl) (Sub.nil _)), ?_⟩) ?_
     ·skip
      refine .loadF rfl Tryz.isAgg3 rfl (l_55.mem _ _ hb8) rfl ?_
      exact .finV rfl rfl Fz.r
     refine .cons (fun L env9 F_56 l_57 hL hdn hup hphi => ⟨[(5, (.int .i64 x1.Kind))], fun S hS hV => (.cons (hV 1 5 _ (hdn 1 1 rfl) rfl rfl) (Sub.nil _)), ?_⟩) ?_
     ·skip
      refine .lss rfl rfl rfl ?_
      exact .finV rfl rfl Fz.r
     refine .cons (fun L env9 F_58 l_59 hL hdn hup hphi => ⟨[(6, (.bool (decide (x1.Kind < 0))))], fun S hS hV => (.cons (hV 2 6 _ (hdn 1 2 rfl) rfl rfl) (Sub.nil _)), ?_⟩) ?_
     ·skip
      refine .move rfl rfl ?_
      exact .finV rfl rfl Fz.r
     refine .cons (fun L env9 F_60 l_61 hL hdn hup hphi => ⟨[(1, (.pointer (some ⟨b5, 0, none⟩))), (7, (.bool (decide (x1.Kind < 0))))], fun S hS hV => (.cons (hS _ _ rfl) (.cons (hV 3 7 _ (hdn 1 3 rfl) rfl rfl) (Sub.nil _))), ?_⟩) ?_
     ·skip
      refine .onH hb10 rfl rfl (.fieldAddr rfl Tryz.underlying41 rfl Tryz.sizeOf3 rfl ?_)
      exact .finV rfl rfl Fz.r
     refine .cons (fun L env9 F_62 l_63 hL hdn hup hphi => ⟨[(7, (.bool (decide (x1.Kind < 0)))), (8, (.pointer (some ⟨b5, 0 + 0, none⟩)))], fun S hS hV => (.cons (hV 3 7 _ (hdn 1 3 rfl) rfl rfl) (.cons (hV 4 8 _ (hdn 1 4 rfl) rfl rfl) (Sub.nil _))), ?_⟩) ?_
     ·skip
      refine .onH hb10 rfl rfl (.loadF rfl Tryz.isAgg3 rfl (l_63.mem _ _ hb8) rfl ?_)
      exact .finV rfl rfl Fz.r
     refine .cons (fun L env9 F_64 l_65 hL hdn hup hphi => ⟨[(7, (.bool (decide (x1.Kind < 0)))), (9, (.int .i64 x1.Kind))], fun S hS hV => (.cons (hV 3 7 _ (hdn 1 3 rfl) rfl rfl) (.cons (hV 5 9 _ (hdn 1 5 rfl) rfl rfl) (Sub.nil _))), ?_⟩) ?_
     ·skip
      refine .onH hb10 rfl rfl (.gtr rfl rfl rfl ?_)
      exact .finV rfl rfl Fz.r
     refine .cons (fun L env9 F_66 l_67 hL hdn hup hphi => ⟨[(7, (.bool (decide (x1.Kind < 0)))), (10, (.bool (decide (x1.Kind > 3))))], fun S hS hV => (.cons (hV 3 7 _ (hdn 1 3 rfl) rfl rfl) (.cons (hV 6 10 _ (hdn 1 6 rfl) rfl rfl) (Sub.nil _))), ?_⟩) ?_
     ·skip
      refine .pickFH hb10  rfl rfl rfl ?_
      exact .finV rfl rfl Fz.r
     refine .cons (fun L env9 F_68 l_69 hL hdn hup hphi => ⟨[(11, (.bool (decide (x1.Kind > 3))))], fun S hS hV => (.cons (hV 7 11 _ (hdn 1 7 rfl) rfl rfl) (Sub.nil _)), ?_⟩) ?_
     ·skip
      refine .move rfl rfl ?_
      exact .finV rfl rfl Fz.r
     refine .cons (fun L env9 F_70 l_71 hL hdn hup hphi => ⟨[(1, (.pointer (some ⟨b5, 0, none⟩))), (12, (.bool (decide (x1.Kind > 3))))], fun S hS hV => (.cons (hS _ _ rfl) (.cons (hV 8 12 _ (hdn 1 8 rfl) rfl rfl) (Sub.nil _))), ?_⟩) ?_
     ·skip
      refine .offH hb49 rfl rfl rfl ?_
      exact .finV rfl rfl Fz.r
     refine .cons (fun L env9 F_72 l_73 hL hdn hup hphi => ⟨[(12, (.bool (decide (x1.Kind > 3)))), (13, undef)], fun S hS hV => (.cons (hV 8 12 _ (hdn 1 8 rfl) rfl rfl) (.cons (hV 9 13 _ (hdn 1 9 rfl) rfl rfl) (Sub.nil _))), ?_⟩) ?_
     ·skip
      refine .offH hb49 rfl rfl rfl ?_
      exact .finV rfl rfl Fz.r
     refine .cons (fun L env9 F_74 l_75 hL hdn hup hphi => ⟨[(12, (.bool (decide (x1.Kind > 3)))), (14, undef)], fun S hS hV => (.cons (hV 8 12 _ (hdn 1 8 rfl) rfl rfl) (.cons (hV 10 14 _ (hdn 1 10 rfl) rfl rfl) (Sub.nil _))), ?_⟩) ?_
     ·skip
      refine .offH hb49 rfl rfl rfl ?_
      exact .finV rfl rfl Fz.r
     refine .cons (fun L env9 F_76 l_77 hL hdn hup hphi => ⟨[(1, (.pointer (some ⟨b5, 0, none⟩))), (12, (.bool (decide (x1.Kind > 3))))], fun S hS hV => (.cons (hS _ _ rfl) (.cons (hV 8 12 _ (hdn 1 8 rfl) rfl rfl) (Sub.nil _))), ?_⟩) ?_
     ·skip
      refine .offH hb49 rfl rfl rfl ?_
      exact .finV rfl rfl Fz.r
     refine .cons (fun L env9 F_78 l_79 hL hdn hup hphi => ⟨[(12, (.bool (decide (x1.Kind > 3)))), (16, undef)], fun S hS hV => (.cons (hV 8 12 _ (hdn 1 8 rfl) rfl rfl) (.cons (hV 12 16 _ (hdn 1 12 rfl) rfl rfl) (Sub.nil _))), ?_⟩) ?_
     ·skip
      refine .offH hb49 rfl rfl rfl ?_
      exact .finV rfl rfl Fz.r
     refine .cons (fun L env9 F_80 l_81 hL hdn hup hphi => ⟨[(12, (.bool (decide (x1.Kind > 3)))), (17, undef)], fun S hS hV => (.cons (hV 8 12 _ (hdn 1 8 rfl) rfl rfl) (.cons (hV 13 17 _ (hdn 1 13 rfl) rfl rfl) (Sub.nil _))), ?_⟩) ?_
     ·skip
      refine .offH hb49 rfl rfl rfl ?_
      exact .finV rfl rfl Fz.r
     refine .cons (fun L env9 F_82 l_83 hL hdn hup hphi => ⟨[(12, (.bool (decide (x1.Kind > 3)))), (18, undef)], fun S hS hV => (.cons (hV 8 12 _ (hdn 1 8 rfl) rfl rfl) (.cons (hV 14 18 _ (hdn 1 14 rfl) rfl rfl) (Sub.nil _))), ?_⟩) ?_
     ·skip
      refine .offH hb49 rfl rfl rfl ?_
      exact .finV rfl rfl Fz.r
     refine .cons (fun L env9 F_84 l_85 hL hdn hup hphi => ⟨[(12, (.bool (decide (x1.Kind > 3)))), (15, undef), (19, undef)], fun S hS hV => (.cons (hV 8 12 _ (hdn 1 8 rfl) rfl rfl) (.cons (hV 11 15 _ (hdn 1 11 rfl) rfl rfl) (.cons (hV 15 19 _ (hdn 1 15 rfl) rfl rfl) (Sub.nil _)))), ?_⟩) ?_
     ·skip
      refine .offH hb49 rfl rfl rfl ?_
      exact .finV rfl rfl Fz.r
     refine .cons (fun L env9 F_86 l_87 hL hdn hup hphi => ⟨[(12, (.bool (decide (x1.Kind > 3)))), (20, undef)], fun S hS hV => (.cons (hV 8 12 _ (hdn 1 8 rfl) rfl rfl) (.cons (hV 16 20 _ (hdn 1 16 rfl) rfl rfl) (Sub.nil _))), ?_⟩) ?_
     ·skip
      refine .pickTH hb49  rfl rfl rfl ?_
      exact .finV rfl rfl Fz.r
     exact .nil
    refine .norm (S' := [(1, (.pointer (some ⟨b5, 0, none⟩))), (4, (.pointer (some ⟨b5, 0 + 0, none⟩))), (5, (.int .i64 x1.Kind)), (6, (.bool (decide (x1.Kind < 0)))), (7, (.bool (decide (x1.Kind < 0)))), (8, (.pointer (some ⟨b5, 0 + 0, none⟩))), (9, (.int .i64 x1.Kind)), (10, (.bool (decide (x1.Kind > 3)))), (11, (.bool (decide (x1.Kind > 3)))), (12, (.bool (decide (x1.Kind > 3)))), (21, (.bool true))]) (.cons (k := 1) rfl (.cons (k := 4) rfl (.cons (k := 5) rfl (.cons (k := 6) rfl (.cons (k := 7) rfl (.cons (k := 8) rfl (.cons (k := 9) rfl (.cons (k := 10) rfl (.cons (k := 11) rfl (.cons (k := 12) rfl (.cons (k := 21) rfl (.nil _)))))))))))) (rfl : _ = [R]) ?_
    refine .nil ?_
    exact .nil fun e a w h => by cases e; exact ⟨rfl, ⟨F_50, l_51, h.1.sub (.cons (k := 1) rfl (.cons (k := 21) rfl (.nil _))), h.2⟩⟩
   ·skip
    refine .bind (fun r_90 hx95 => ?_)
    refine .drawG 18 0 (fun env9 => [((.pointer (some ⟨b5, 0 + 0, none⟩)), fun _ => True), ((.int .i64 x1.Kind), fun _ => True), ((.bool (decide (x1.Kind < 0))), fun _ => True), ((.bool (decide (x1.Kind < 0))), fun _ => True), ((.pointer (some ⟨b5, 0 + 0, none⟩)), fun _ => True), ((.int .i64 x1.Kind), fun _ => True), ((.bool (decide (x1.Kind > 3))), fun _ => True), ((.bool (decide (x1.Kind > 3))), fun _ => True), ((.bool (decide (x1.Kind > 3))), fun _ => True), ((.pointer (some ⟨b5, 0 + 1, none⟩)), fun _ => True), ((.slice p2 x1.N.length k3), fun _ => True), ((.int .i64 (x1.N.length : Int)), fun _ => True), ((.pointer (some ⟨b5, 0 + 0, none⟩)), fun _ => True), ((.int .i64 x1.Kind), fun _ => True), ((.slice (env9.a 140) r_90.length (env9.n 140)), fun G => RepSl 1 (Ex (cInt .i64)) G (env9.a 140) (env9.n 140) r_90), ((.int .i64 (r_90.length : Int)), fun _ => True), ((.bool ((x1.N.length : Int) != (r_90.length : Int))), fun _ => True), ((.bool ((x1.N.length : Int) != (r_90.length : Int))), fun _ => True)]) (fun L env9 => [R]) mixedOK (by kernel_rfl) (by kernel_rfl) rfl (fun _ => rfl) (by kernel_rfl) (fun _ => rfl) ?_ (fun env9 F_96 l_97 hphi => ?_)
    ·skip
     refine .cons (fun L env9 F_98 l_99 hL hdn hup hphi => ⟨[(1, (.pointer (some ⟨b5, 0, none⟩)))], fun S hS hV => (.cons (hS _ _ rfl) (Sub.nil _)), ?_⟩) ?_
     ·skip
      refine .fieldAddr rfl Tryz.underlying41 rfl Tryz.sizeOf3 rfl ?_
      exact .finV rfl rfl Fz.r
     refine .cons (fun L env9 F_100 l_101 hL hdn hup hphi => ⟨[(4, (.pointer (some ⟨b5, 0 + 0, none⟩)))], fun S hS hV => (.cons (hV 0 4 _ (hdn 1 0 rfl) rfl rfl) (Sub.nil _)), ?_⟩) ?_
     ·skip
      refine .loadF rfl Tryz.isAgg3 rfl (l_101.mem _ _ hb8) rfl ?_
      exact .finV rfl rfl Fz.r
     refine .cons (fun L env9 F_102 l_103 hL hdn hup hphi => ⟨[(5, (.int .i64 x1.Kind))], fun S hS hV => (.cons (hV 1 5 _ (hdn 1 1 rfl) rfl rfl) (Sub.nil _)), ?_⟩) ?_
     ·skip
      refine .lss rfl rfl rfl ?_
      exact .finV rfl rfl Fz.r
     refine .cons (fun L env9 F_104 l_105 hL hdn hup hphi => ⟨[(6, (.bool (decide (x1.Kind < 0))))], fun S hS hV => (.cons (hV 2 6 _ (hdn 1 2 rfl) rfl rfl) (Sub.nil _)), ?_⟩) ?_
     ·skip
      refine .move rfl rfl ?_
      exact .finV rfl rfl Fz.r
     refine .cons (fun L env9 F_106 l_107 hL hdn hup hphi => ⟨[(1, (.pointer (some ⟨b5, 0, none⟩))), (7, (.bool (decide (x1.Kind < 0))))], fun S hS hV => (.cons (hS _ _ rfl) (.cons (hV 3 7 _ (hdn 1 3 rfl) rfl rfl) (Sub.nil _))), ?_⟩) ?_
     ·skip
      refine .onH hb10 rfl rfl (.fieldAddr rfl Tryz.underlying41 rfl Tryz.sizeOf3 rfl ?_)
      exact .finV rfl rfl Fz.r
     refine .cons (fun L env9 F_108 l_109 hL hdn hup hphi => ⟨[(7, (.bool (decide (x1.Kind < 0)))), (8, (.pointer (some ⟨b5, 0 + 0, none⟩)))], fun S hS hV => (.cons (hV 3 7 _ (hdn 1 3 rfl) rfl rfl) (.cons (hV 4 8 _ (hdn 1 4 rfl) rfl rfl) (Sub.nil _))), ?_⟩) ?_
     ·skip
      refine .onH hb10 rfl rfl (.loadF rfl Tryz.isAgg3 rfl (l_109.mem _ _ hb8) rfl ?_)
      exact .finV rfl rfl Fz.r
     refine .cons (fun L env9 F_110 l_111 hL hdn hup hphi => ⟨[(7, (.bool (decide (x1.Kind < 0)))), (9, (.int .i64 x1.Kind))], fun S hS hV => (.cons (hV 3 7 _ (hdn 1 3 rfl) rfl rfl) (.cons (hV 5 9 _ (hdn 1 5 rfl) rfl rfl) (Sub.nil _))), ?_⟩) ?_
     ·skip
      refine .onH hb10 rfl rfl (.gtr rfl rfl rfl ?_)
      exact .finV rfl rfl Fz.r
     refine .cons (fun L env9 F_112 l_113 hL hdn hup hphi => ⟨[(7, (.bool (decide (x1.Kind < 0)))), (10, (.bool (decide (x1.Kind > 3))))], fun S hS hV => (.cons (hV 3 7 _ (hdn 1 3 rfl) rfl rfl) (.cons (hV 6 10 _ (hdn 1 6 rfl) rfl rfl) (Sub.nil _))), ?_⟩) ?_
     ·skip
      refine .pickFH hb10  rfl rfl rfl ?_
      exact .finV rfl rfl Fz.r
     refine .cons (fun L env9 F_114 l_115 hL hdn hup hphi => ⟨[(11, (.bool (decide (x1.Kind > 3))))], fun S hS hV => (.cons (hV 7 11 _ (hdn 1 7 rfl) rfl rfl) (Sub.nil _)), ?_⟩) ?_
     ·skip
      refine .move rfl rfl ?_
      exact .finV rfl rfl Fz.r
     refine .cons (fun L env9 F_116 l_117 hL hdn hup hphi => ⟨[(1, (.pointer (some ⟨b5, 0, none⟩))), (12, (.bool (decide (x1.Kind > 3))))], fun S hS hV => (.cons (hS _ _ rfl) (.cons (hV 8 12 _ (hdn 1 8 rfl) rfl rfl) (Sub.nil _))), ?_⟩) ?_
     ·skip
      refine .onH hb49 rfl rfl (.fieldAddr rfl Tryz.underlying41 rfl Tryz.sizeOf31 rfl ?_)
      exact .finV rfl rfl Fz.r
     refine .cons (fun L env9 F_118 l_119 hL hdn hup hphi => ⟨[(12, (.bool (decide (x1.Kind > 3)))), (13, (.pointer (some ⟨b5, 0 + 1, none⟩)))], fun S hS hV => (.cons (hV 8 12 _ (hdn 1 8 rfl) rfl rfl) (.cons (hV 9 13 _ (hdn 1 9 rfl) rfl rfl) (Sub.nil _))), ?_⟩) ?_
     ·skip
      refine .onH hb49 rfl rfl (.loadF rfl Tryz.isAgg31 rfl (l_119.mem _ _ hb8) rfl ?_)
      exact .finV rfl rfl Fz.r
     refine .cons (fun L env9 F_120 l_121 hL hdn hup hphi => ⟨[(12, (.bool (decide (x1.Kind > 3)))), (14, (.slice p2 x1.N.length k3))], fun S hS hV => (.cons (hV 8 12 _ (hdn 1 8 rfl) rfl rfl) (.cons (hV 10 14 _ (hdn 1 10 rfl) rfl rfl) (Sub.nil _))), ?_⟩) ?_
     ·skip
      refine .onH hb49 rfl rfl (.lenS rfl rfl Tryz.underlying31 rfl ?_)
      exact .finV rfl rfl Fz.r
     refine .cons (fun L env9 F_122 l_123 hL hdn hup hphi => ⟨[(1, (.pointer (some ⟨b5, 0, none⟩))), (12, (.bool (decide (x1.Kind > 3))))], fun S hS hV => (.cons (hS _ _ rfl) (.cons (hV 8 12 _ (hdn 1 8 rfl) rfl rfl) (Sub.nil _))), ?_⟩) ?_
     ·skip
      refine .onH hb49 rfl rfl (.fieldAddr rfl Tryz.underlying41 rfl Tryz.sizeOf3 rfl ?_)
      exact .finV rfl rfl Fz.r
     refine .cons (fun L env9 F_124 l_125 hL hdn hup hphi => ⟨[(12, (.bool (decide (x1.Kind > 3)))), (16, (.pointer (some ⟨b5, 0 + 0, none⟩)))], fun S hS hV => (.cons (hV 8 12 _ (hdn 1 8 rfl) rfl rfl) (.cons (hV 12 16 _ (hdn 1 12 rfl) rfl rfl) (Sub.nil _))), ?_⟩) ?_
     ·skip
      refine .onH hb49 rfl rfl (.loadF rfl Tryz.isAgg3 rfl (l_125.mem _ _ hb8) rfl ?_)
      exact .finV rfl rfl Fz.r
     refine .cons (fun L env9 F_126 l_127 hL hdn hup hphi => ⟨[(12, (.bool (decide (x1.Kind > 3)))), (17, (.int .i64 x1.Kind))], fun S hS hV => (.cons (hV 8 12 _ (hdn 1 8 rfl) rfl rfl) (.cons (hV 13 17 _ (hdn 1 13 rfl) rfl rfl) (Sub.nil _))), ?_⟩) ?_
     ·skip
      refine .onH hb49 rfl rfl (.callK hx95 rfl Tryz.call88 rfl rfl rfl (c_wormtubref14_Most _ x1.Kind) ?_)
      rintro F_128 _ l_129 ⟨p130, k131, rfl, h132⟩
      exact .finQ ({ env9 with a := (updN env9.a 140 p130), n := (updN env9.n 140 k131), c := env9.c, o := env9.o }) [true, true, true, true, true, true, true, true, true, true, true, true, true, true, false, false, false, false] rfl (by kernel_rfl) rfl rfl l_129 (fun _ le => h132.mono le) (cons_eq rfl rfl)
     refine .cons (fun L env9 F_133 l_134 hL hdn hup hphi => ⟨[(12, (.bool (decide (x1.Kind > 3)))), (18, (.slice (env9.a 140) r_90.length (env9.n 140)))], fun S hS hV => (.cons (hV 8 12 _ (hdn 1 8 rfl) rfl rfl) (.cons (hV 14 18 _ (hdn 1 14 rfl) rfl rfl) (Sub.nil _))), ?_⟩) ?_
     ·skip
      have h94 := hphi 14 _ (hdn 1 14 rfl) rfl _ Fz.r
      refine .onH hb49 rfl rfl (.lenS rfl rfl Tryz.underlying31 rfl ?_)
      exact .finV rfl rfl Fz.r
     refine .cons (fun L env9 F_135 l_136 hL hdn hup hphi => ⟨[(12, (.bool (decide (x1.Kind > 3)))), (15, (.int .i64 (x1.N.length : Int))), (19, (.int .i64 (r_90.length : Int)))], fun S hS hV => (.cons (hV 8 12 _ (hdn 1 8 rfl) rfl rfl) (.cons (hV 11 15 _ (hdn 1 11 rfl) rfl rfl) (.cons (hV 15 19 _ (hdn 1 15 rfl) rfl rfl) (Sub.nil _)))), ?_⟩) ?_
     ·skip
      have h94 := hphi 14 _ (hdn 2 14 rfl) rfl _ Fz.r
      refine .onH hb49 rfl rfl (.neq rfl rfl rfl ?_)
      exact .finV rfl rfl Fz.r
     refine .cons (fun L env9 F_137 l_138 hL hdn hup hphi => ⟨[(12, (.bool (decide (x1.Kind > 3)))), (20, (.bool ((x1.N.length : Int) != (r_90.length : Int))))], fun S hS hV => (.cons (hV 8 12 _ (hdn 1 8 rfl) rfl rfl) (.cons (hV 16 20 _ (hdn 1 16 rfl) rfl rfl) (Sub.nil _))), ?_⟩) ?_
     ·skip
      have h94 := hphi 14 _ (hdn 3 14 rfl) rfl _ Fz.r
      refine .pickFH hb49  rfl rfl rfl ?_
      exact .finV rfl rfl Fz.r
     exact .nil
    have h94 := hphi 14 _ rfl
    refine .norm (S' := [(1, (.pointer (some ⟨b5, 0, none⟩))), (4, (.pointer (some ⟨b5, 0 + 0, none⟩))), (5, (.int .i64 x1.Kind)), (6, (.bool (decide (x1.Kind < 0)))), (7, (.bool (decide (x1.Kind < 0)))), (8, (.pointer (some ⟨b5, 0 + 0, none⟩))), (9, (.int .i64 x1.Kind)), (10, (.bool (decide (x1.Kind > 3)))), (11, (.bool (decide (x1.Kind > 3)))), (12, (.bool (decide (x1.Kind > 3)))), (13, (.pointer (some ⟨b5, 0 + 1, none⟩))), (14, (.slice p2 x1.N.length k3)), (15, (.int .i64 (x1.N.length : Int))), (16, (.pointer (some ⟨b5, 0 + 0, none⟩))), (17, (.int .i64 x1.Kind)), (18, (.slice (env9.a 140) r_90.length (env9.n 140))), (19, (.int .i64 (r_90.length : Int))), (20, (.bool ((x1.N.length : Int) != (r_90.length : Int)))), (21, (.bool ((x1.N.length : Int) != (r_90.length : Int))))]) (.cons (k := 1) rfl (.cons (k := 4) rfl (.cons (k := 5) rfl (.cons (k := 6) rfl (.cons (k := 7) rfl (.cons (k := 8) rfl (.cons (k := 9) rfl (.cons (k := 10) rfl (.cons (k := 11) rfl (.cons (k := 12) rfl (.cons (k := 13) rfl (.cons (k := 14) rfl (.cons (k := 15) rfl (.cons (k := 16) rfl (.cons (k := 17) rfl (.cons (k := 18) rfl (.cons (k := 19) rfl (.cons (k := 20) rfl (.cons (k := 21) rfl (.nil _)))))))))))))))))))) (rfl : _ = [R]) ?_
    refine .nil ?_
    exact .nil fun e a w h => by cases e; exact ⟨rfl, ⟨F_96, l_97, h.1.sub (.cons (k := 1) rfl (.cons (k := 21) rfl (.nil _))), h.2⟩⟩
 refine .code (.cond rfl (fun hb142 => ?_) (fun hb142 => ?_))
 ·skip
  refine .seq (.region (.assign rfl rfl (.nil (.code ?_))))
  exact .ret0 Tryz.results57 (.tmp rfl (.nil)) (i := 0) rfl (Fz.t l_7 l_141) rfl
 ·skip
  refine .skip (.code (.seq (.seq (.region (.assign rfl rfl (.nil (.code (.block (.keep (.cons (k := 1) rfl (.cons (k := 3) rfl (.nil _))) ?_)))))))))
  refine .loop (fun (s143 : Int) a w => ∃ (F_144 : Fz), F_140 ≤ F_144 ∧ Hd 49 [] [(1, (.pointer (some ⟨b5, 0, none⟩))), (3, (.int .i64 s143))] F_144 [R] a w) (fun b0 e a w => match b0 with | .inl b290 => e = .exit 0 ∧ ∃ (F_291 : Fz), F_140 ≤ F_291 ∧ Hd 49 [] [] F_291 [R] a w | .inr b290 => e = .ret ∧ ∃ (F_293 : Fz), F_140 ≤ F_293 ∧ Hd 49 [] [(2, (.bool b290))] F_293 [R] a w) ?_ ?_ ?_
  ·exact fun a w h => ⟨F_140, Fz.r, h.1.sub (.cons (k := 1) rfl (.cons (k := 3) rfl (.nil _))), h.2⟩
  ·intro s143 ctl
   refine GC.ex (fun a w ⟨F_144, l_145, hA⟩ => ⟨_, hA, ?_⟩)
   unfold b_wormtubref14_valid_1
   refine .seq (.seq (.region (.move rfl rfl (.fieldAddr rfl Tryz.underlying41 rfl Tryz.sizeOf31 rfl (.loadF rfl Tryz.isAgg31 rfl ((Fz.t l_141 l_145).mem _ _ hb8) rfl (.lenS rfl rfl Tryz.underlying31 rfl (.lss rfl rfl rfl (.nil (.code (.cond rfl (fun hb146 => ?_) (fun hb146 => ?_)))))))))))
   ·skip
    refine .skip (.code (.seq (.block (.seq (.keep (.cons (k := 1) rfl (.cons (k := 3) rfl (.nil _))) ?_)))))
    refine GC.join0 (σ := Bool) (fun j284 a w => ∃ (F_285 : Fz), F_144 ≤ F_285 ∧ Hd 49 [] [(1, (.pointer (some ⟨b5, 0, none⟩))), (3, (.int .i64 s143)), (48, (.bool j284))] F_285 [R] a w) (fun sj => ?_) (fun j284 hs0 => GE.ex (fun a w ⟨F_285, l_286, hA⟩ => ⟨_, hA, ?_⟩))
    ·skip
     refine .bind (fun x148 e154 => ?_)
     obtain ⟨b149, o150, T151, fr152, cs153, hm155, hv156, hq157⟩ := RepSl.idxE (h4.mono (Fz.t l_7 (Fz.t l_141 l_145))) e154
     refine .ite (fun hb158 => ?_) (fun hb158 => ?_)
     ·skip
      refine .drawG 20 0 (fun env147 => [((.pointer (some ⟨b5, 0 + 1, none⟩)), fun _ => True), ((.slice p2 x1.N.length k3), fun _ => True), ((.int .i64 s143), fun _ => True), ((.pointer (some ⟨b149, o150, none⟩)), fun _ => True), ((.int .i64 x148), fun _ => True), ((.bool (decide (x148 < 0))), fun _ => True), ((.bool (decide (x148 < 0))), fun _ => True), (undef, fun _ => True), (undef, fun _ => True), (undef, fun _ => True), (undef, fun _ => True), (undef, fun _ => True), (undef, fun _ => True), (undef, fun _ => True), (undef, fun _ => True), (undef, fun _ => True), (undef, fun _ => True), (undef, fun _ => True), (undef, fun _ => True), ((.bool true), fun _ => True)]) (fun L env147 => [R]) mixedOK (by kernel_rfl) (by kernel_rfl) rfl (fun _ => rfl) (by kernel_rfl) (fun _ => rfl) ?_ (fun env147 F_159 l_160 hphi => ?_)
      ·skip
       refine .cons (fun L env147 F_161 l_162 hL hdn hup hphi => ⟨[(1, (.pointer (some ⟨b5, 0, none⟩)))], fun S hS hV => (.cons (hS _ _ rfl) (Sub.nil _)), ?_⟩) ?_
       ·skip
        refine .fieldAddr rfl Tryz.underlying41 rfl Tryz.sizeOf31 rfl ?_
        exact .finV rfl rfl Fz.r
       refine .cons (fun L env147 F_163 l_164 hL hdn hup hphi => ⟨[(29, (.pointer (some ⟨b5, 0 + 1, none⟩)))], fun S hS hV => (.cons (hV 0 29 _ (hdn 1 0 rfl) rfl rfl) (Sub.nil _)), ?_⟩) ?_
       ·skip
        refine .loadF rfl Tryz.isAgg31 rfl ((Fz.t l_141 (Fz.t l_145 l_164)).mem _ _ hb8) rfl ?_
        exact .finV rfl rfl Fz.r
       refine .cons (fun L env147 F_165 l_166 hL hdn hup hphi => ⟨[(3, (.int .i64 s143))], fun S hS hV => (.cons (hS _ _ rfl) (Sub.nil _)), ?_⟩) ?_
       ·skip
        refine .move rfl rfl ?_
        exact .finV rfl rfl Fz.r
       refine .cons (fun L env147 F_167 l_168 hL hdn hup hphi => ⟨[(30, (.slice p2 x1.N.length k3)), (31, (.int .i64 s143))], fun S hS hV => (.cons (hV 1 30 _ (hdn 1 1 rfl) rfl rfl) (.cons (hV 2 31 _ (hdn 1 2 rfl) rfl rfl) (Sub.nil _))), ?_⟩) ?_
       ·skip
        refine .idxQ rfl Tryz.underlying31 Tryz.sizeOf3 hq157 rfl rfl ?_
        exact .finV rfl rfl Fz.r
       refine .cons (fun L env147 F_169 l_170 hL hdn hup hphi => ⟨[(32, (.pointer (some ⟨b149, o150, none⟩)))], fun S hS hV => (.cons (hV 3 32 _ (hdn 1 3 rfl) rfl rfl) (Sub.nil _)), ?_⟩) ?_
       ·skip
        refine .loadF rfl Tryz.isAgg3 rfl (l_170.mem _ _ hm155) (cell_of_take (k := 0) hv156 rfl) ?_
        exact .finV rfl rfl Fz.r
       refine .cons (fun L env147 F_171 l_172 hL hdn hup hphi => ⟨[(33, (.int .i64 x148))], fun S hS hV => (.cons (hV 4 33 _ (hdn 1 4 rfl) rfl rfl) (Sub.nil _)), ?_⟩) ?_
       ·skip
        refine .lss rfl rfl rfl ?_
        exact .finV rfl rfl Fz.r
       refine .cons (fun L env147 F_173 l_174 hL hdn hup hphi => ⟨[(34, (.bool (decide (x148 < 0))))], fun S hS hV => (.cons (hV 5 34 _ (hdn 1 5 rfl) rfl rfl) (Sub.nil _)), ?_⟩) ?_
       ·skip
        refine .move rfl rfl ?_
        exact .finV rfl rfl Fz.r
       refine .cons (fun L env147 F_175 l_176 hL hdn hup hphi => ⟨[(1, (.pointer (some ⟨b5, 0, none⟩))), (35, (.bool (decide (x148 < 0))))], fun S hS hV => (.cons (hS _ _ rfl) (.cons (hV 6 35 _ (hdn 1 6 rfl) rfl rfl) (Sub.nil _))), ?_⟩) ?_
       ·skip
        refine .offH hb158 rfl rfl rfl ?_
        exact .finV rfl rfl Fz.r
       refine .cons (fun L env147 F_177 l_178 hL hdn hup hphi => ⟨[(35, (.bool (decide (x148 < 0)))), (36, undef)], fun S hS hV => (.cons (hV 6 35 _ (hdn 1 6 rfl) rfl rfl) (.cons (hV 7 36 _ (hdn 1 7 rfl) rfl rfl) (Sub.nil _))), ?_⟩) ?_
       ·skip
        refine .offH hb158 rfl rfl rfl ?_
        exact .finV rfl rfl Fz.r
       refine .cons (fun L env147 F_179 l_180 hL hdn hup hphi => ⟨[(3, (.int .i64 s143)), (35, (.bool (decide (x148 < 0))))], fun S hS hV => (.cons (hS _ _ rfl) (.cons (hV 6 35 _ (hdn 1 6 rfl) rfl rfl) (Sub.nil _))), ?_⟩) ?_
       ·skip
        refine .offH hb158 rfl rfl rfl ?_
        exact .finV rfl rfl Fz.r
       refine .cons (fun L env147 F_181 l_182 hL hdn hup hphi => ⟨[(35, (.bool (decide (x148 < 0)))), (37, undef), (38, undef)], fun S hS hV => (.cons (hV 6 35 _ (hdn 1 6 rfl) rfl rfl) (.cons (hV 8 37 _ (hdn 1 8 rfl) rfl rfl) (.cons (hV 9 38 _ (hdn 1 9 rfl) rfl rfl) (Sub.nil _)))), ?_⟩) ?_
       ·skip
        refine .offH hb158 rfl rfl rfl ?_
        exact .finV rfl rfl Fz.r
       refine .cons (fun L env147 F_183 l_184 hL hdn hup hphi => ⟨[(35, (.bool (decide (x148 < 0)))), (39, undef)], fun S hS hV => (.cons (hV 6 35 _ (hdn 1 6 rfl) rfl rfl) (.cons (hV 10 39 _ (hdn 1 10 rfl) rfl rfl) (Sub.nil _))), ?_⟩) ?_
       ·skip
        refine .offH hb158 rfl rfl rfl ?_
        exact .finV rfl rfl Fz.r
       refine .cons (fun L env147 F_185 l_186 hL hdn hup hphi => ⟨[(1, (.pointer (some ⟨b5, 0, none⟩))), (35, (.bool (decide (x148 < 0))))], fun S hS hV => (.cons (hS _ _ rfl) (.cons (hV 6 35 _ (hdn 1 6 rfl) rfl rfl) (Sub.nil _))), ?_⟩) ?_
       ·skip
        refine .offH hb158 rfl rfl rfl ?_
        exact .finV rfl rfl Fz.r
       refine .cons (fun L env147 F_187 l_188 hL hdn hup hphi => ⟨[(35, (.bool (decide (x148 < 0)))), (41, undef)], fun S hS hV => (.cons (hV 6 35 _ (hdn 1 6 rfl) rfl rfl) (.cons (hV 12 41 _ (hdn 1 12 rfl) rfl rfl) (Sub.nil _))), ?_⟩) ?_
       ·skip
        refine .offH hb158 rfl rfl rfl ?_
        exact .finV rfl rfl Fz.r
       refine .cons (fun L env147 F_189 l_190 hL hdn hup hphi => ⟨[(35, (.bool (decide (x148 < 0)))), (42, undef)], fun S hS hV => (.cons (hV 6 35 _ (hdn 1 6 rfl) rfl rfl) (.cons (hV 13 42 _ (hdn 1 13 rfl) rfl rfl) (Sub.nil _))), ?_⟩) ?_
       ·skip
        refine .offH hb158 rfl rfl rfl ?_
        exact .finV rfl rfl Fz.r
       refine .cons (fun L env147 F_191 l_192 hL hdn hup hphi => ⟨[(3, (.int .i64 s143)), (35, (.bool (decide (x148 < 0))))], fun S hS hV => (.cons (hS _ _ rfl) (.cons (hV 6 35 _ (hdn 1 6 rfl) rfl rfl) (Sub.nil _))), ?_⟩) ?_
       ·skip
        refine .offH hb158 rfl rfl rfl ?_
        exact .finV rfl rfl Fz.r
       refine .cons (fun L env147 F_193 l_194 hL hdn hup hphi => ⟨[(35, (.bool (decide (x148 < 0)))), (43, undef), (44, undef)], fun S hS hV => (.cons (hV 6 35 _ (hdn 1 6 rfl) rfl rfl) (.cons (hV 14 43 _ (hdn 1 14 rfl) rfl rfl) (.cons (hV 15 44 _ (hdn 1 15 rfl) rfl rfl) (Sub.nil _)))), ?_⟩) ?_
       ·skip
        refine .offH hb158 rfl rfl rfl ?_
        exact .finV rfl rfl Fz.r
       refine .cons (fun L env147 F_195 l_196 hL hdn hup hphi => ⟨[(35, (.bool (decide (x148 < 0)))), (45, undef)], fun S hS hV => (.cons (hV 6 35 _ (hdn 1 6 rfl) rfl rfl) (.cons (hV 16 45 _ (hdn 1 16 rfl) rfl rfl) (Sub.nil _))), ?_⟩) ?_
       ·skip
        refine .offH hb158 rfl rfl rfl ?_
        exact .finV rfl rfl Fz.r
       refine .cons (fun L env147 F_197 l_198 hL hdn hup hphi => ⟨[(35, (.bool (decide (x148 < 0)))), (40, undef), (46, undef)], fun S hS hV => (.cons (hV 6 35 _ (hdn 1 6 rfl) rfl rfl) (.cons (hV 11 40 _ (hdn 1 11 rfl) rfl rfl) (.cons (hV 17 46 _ (hdn 1 17 rfl) rfl rfl) (Sub.nil _)))), ?_⟩) ?_
       ·skip
        refine .offH hb158 rfl rfl rfl ?_
        exact .finV rfl rfl Fz.r
       refine .cons (fun L env147 F_199 l_200 hL hdn hup hphi => ⟨[(35, (.bool (decide (x148 < 0)))), (47, undef)], fun S hS hV => (.cons (hV 6 35 _ (hdn 1 6 rfl) rfl rfl) (.cons (hV 18 47 _ (hdn 1 18 rfl) rfl rfl) (Sub.nil _))), ?_⟩) ?_
       ·skip
        refine .pickTH hb158  rfl rfl rfl ?_
        exact .finV rfl rfl Fz.r
       exact .nil
      refine .norm (S' := [(1, (.pointer (some ⟨b5, 0, none⟩))), (3, (.int .i64 s143)), (29, (.pointer (some ⟨b5, 0 + 1, none⟩))), (30, (.slice p2 x1.N.length k3)), (31, (.int .i64 s143)), (32, (.pointer (some ⟨b149, o150, none⟩))), (33, (.int .i64 x148)), (34, (.bool (decide (x148 < 0)))), (35, (.bool (decide (x148 < 0)))), (48, (.bool true))]) (.cons (k := 1) rfl (.cons (k := 3) rfl (.cons (k := 29) rfl (.cons (k := 30) rfl (.cons (k := 31) rfl (.cons (k := 32) rfl (.cons (k := 33) rfl (.cons (k := 34) rfl (.cons (k := 35) rfl (.cons (k := 48) rfl (.nil _))))))))))) (rfl : _ = [R]) ?_
      refine .nil ?_
      exact .nil fun e a w h => by cases e; exact ⟨rfl, ⟨F_159, l_160, h.1.sub (.cons (k := 1) rfl (.cons (k := 3) rfl (.cons (k := 48) rfl (.nil _)))), h.2⟩⟩
     ·skip
      refine .bind (fun x201 e207 => ?_)
      obtain ⟨b202, o203, T204, fr205, cs206, hm208, hv209, hq210⟩ := RepSl.idxE (h4.mono (Fz.t l_7 (Fz.t l_141 l_145))) e207
      refine .bind (fun r_213 hx218 => ?_)
      refine .bind (fun x219 e225 => ?_)
      refine .drawG 20 0 (fun env147 => [((.pointer (some ⟨b5, 0 + 1, none⟩)), fun _ => True), ((.slice p2 x1.N.length k3), fun _ => True), ((.int .i64 s143), fun _ => True), ((.pointer (some ⟨b149, o150, none⟩)), fun _ => True), ((.int .i64 x148), fun _ => True), ((.bool (decide (x148 < 0))), fun _ => True), ((.bool (decide (x148 < 0))), fun _ => True), ((.pointer (some ⟨b5, 0 + 1, none⟩)), fun _ => True), ((.slice p2 x1.N.length k3), fun _ => True), ((.int .i64 s143), fun _ => True), ((.pointer (some ⟨b202, o203, none⟩)), fun _ => True), ((.int .i64 x201), fun _ => True), ((.pointer (some ⟨b5, 0 + 0, none⟩)), fun _ => True), ((.int .i64 x1.Kind), fun _ => True), ((.slice (env147.a 140) r_213.length (env147.n 140)), fun G => RepSl 1 (Ex (cInt .i64)) G (env147.a 140) (env147.n 140) r_213), ((.int .i64 s143), fun _ => True), ((.pointer (some ⟨(env147.n 160), (env147.n 161), none⟩)), fun G => ∃ (cs : List Value) (T : TypeId) (fr : Nat × Nat), G.mem (env147.n 160) = some (.cells cs.toArray T fr) ∧ (cs.drop (env147.n 161)).take 1 = [(.int .i64 x219)]), ((.int .i64 x219), fun _ => True), ((.bool (decide (x201 > x219))), fun _ => True), ((.bool (decide (x201 > x219))), fun _ => True)]) (fun L env147 => [R]) mixedOK (by kernel_rfl) (by kernel_rfl) rfl (fun _ => rfl) (by kernel_rfl) (fun _ => rfl) ?_ (fun env147 F_229 l_230 hphi => ?_)
      ·skip
       refine .cons (fun L env147 F_231 l_232 hL hdn hup hphi => ⟨[(1, (.pointer (some ⟨b5, 0, none⟩)))], fun S hS hV => (.cons (hS _ _ rfl) (Sub.nil _)), ?_⟩) ?_
       ·skip
        refine .fieldAddr rfl Tryz.underlying41 rfl Tryz.sizeOf31 rfl ?_
        exact .finV rfl rfl Fz.r
       refine .cons (fun L env147 F_233 l_234 hL hdn hup hphi => ⟨[(29, (.pointer (some ⟨b5, 0 + 1, none⟩)))], fun S hS hV => (.cons (hV 0 29 _ (hdn 1 0 rfl) rfl rfl) (Sub.nil _)), ?_⟩) ?_
       ·skip
        refine .loadF rfl Tryz.isAgg31 rfl ((Fz.t l_141 (Fz.t l_145 l_234)).mem _ _ hb8) rfl ?_
        exact .finV rfl rfl Fz.r
       refine .cons (fun L env147 F_235 l_236 hL hdn hup hphi => ⟨[(3, (.int .i64 s143))], fun S hS hV => (.cons (hS _ _ rfl) (Sub.nil _)), ?_⟩) ?_
       ·skip
        refine .move rfl rfl ?_
        exact .finV rfl rfl Fz.r
       refine .cons (fun L env147 F_237 l_238 hL hdn hup hphi => ⟨[(30, (.slice p2 x1.N.length k3)), (31, (.int .i64 s143))], fun S hS hV => (.cons (hV 1 30 _ (hdn 1 1 rfl) rfl rfl) (.cons (hV 2 31 _ (hdn 1 2 rfl) rfl rfl) (Sub.nil _))), ?_⟩) ?_
       ·skip
        refine .idxQ rfl Tryz.underlying31 Tryz.sizeOf3 hq157 rfl rfl ?_
        exact .finV rfl rfl Fz.r
       refine .cons (fun L env147 F_239 l_240 hL hdn hup hphi => ⟨[(32, (.pointer (some ⟨b149, o150, none⟩)))], fun S hS hV => (.cons (hV 3 32 _ (hdn 1 3 rfl) rfl rfl) (Sub.nil _)), ?_⟩) ?_
       ·skip
        refine .loadF rfl Tryz.isAgg3 rfl (l_240.mem _ _ hm155) (cell_of_take (k := 0) hv156 rfl) ?_
        exact .finV rfl rfl Fz.r
       refine .cons (fun L env147 F_241 l_242 hL hdn hup hphi => ⟨[(33, (.int .i64 x148))], fun S hS hV => (.cons (hV 4 33 _ (hdn 1 4 rfl) rfl rfl) (Sub.nil _)), ?_⟩) ?_
       ·skip
        refine .lss rfl rfl rfl ?_
        exact .finV rfl rfl Fz.r
       refine .cons (fun L env147 F_243 l_244 hL hdn hup hphi => ⟨[(34, (.bool (decide (x148 < 0))))], fun S hS hV => (.cons (hV 5 34 _ (hdn 1 5 rfl) rfl rfl) (Sub.nil _)), ?_⟩) ?_
       ·skip
        refine .move rfl rfl ?_
        exact .finV rfl rfl Fz.r
       refine .cons (fun L env147 F_245 l_246 hL hdn hup hphi => ⟨[(1, (.pointer (some ⟨b5, 0, none⟩))), (35, (.bool (decide (x148 < 0))))], fun S hS hV => (.cons (hS _ _ rfl) (.cons (hV 6 35 _ (hdn 1 6 rfl) rfl rfl) (Sub.nil _))), ?_⟩) ?_
       ·skip
        refine .onH hb158 rfl rfl (.fieldAddr rfl Tryz.underlying41 rfl Tryz.sizeOf31 rfl ?_)
        exact .finV rfl rfl Fz.r
       refine .cons (fun L env147 F_247 l_248 hL hdn hup hphi => ⟨[(35, (.bool (decide (x148 < 0)))), (36, (.pointer (some ⟨b5, 0 + 1, none⟩)))], fun S hS hV => (.cons (hV 6 35 _ (hdn 1 6 rfl) rfl rfl) (.cons (hV 7 36 _ (hdn 1 7 rfl) rfl rfl) (Sub.nil _))), ?_⟩) ?_
       ·skip
        refine .onH hb158 rfl rfl (.loadF rfl Tryz.isAgg31 rfl ((Fz.t l_141 (Fz.t l_145 l_248)).mem _ _ hb8) rfl ?_)
        exact .finV rfl rfl Fz.r
       refine .cons (fun L env147 F_249 l_250 hL hdn hup hphi => ⟨[(3, (.int .i64 s143)), (35, (.bool (decide (x148 < 0))))], fun S hS hV => (.cons (hS _ _ rfl) (.cons (hV 6 35 _ (hdn 1 6 rfl) rfl rfl) (Sub.nil _))), ?_⟩) ?_
       ·skip
        refine .onH hb158 rfl rfl (.move rfl rfl ?_)
        exact .finV rfl rfl Fz.r
       refine .cons (fun L env147 F_251 l_252 hL hdn hup hphi => ⟨[(35, (.bool (decide (x148 < 0)))), (37, (.slice p2 x1.N.length k3)), (38, (.int .i64 s143))], fun S hS hV => (.cons (hV 6 35 _ (hdn 1 6 rfl) rfl rfl) (.cons (hV 8 37 _ (hdn 1 8 rfl) rfl rfl) (.cons (hV 9 38 _ (hdn 1 9 rfl) rfl rfl) (Sub.nil _)))), ?_⟩) ?_
       ·skip
        refine .onH hb158 rfl rfl (.idxQ rfl Tryz.underlying31 Tryz.sizeOf3 hq210 rfl rfl ?_)
        exact .finV rfl rfl Fz.r
       refine .cons (fun L env147 F_253 l_254 hL hdn hup hphi => ⟨[(35, (.bool (decide (x148 < 0)))), (39, (.pointer (some ⟨b202, o203, none⟩)))], fun S hS hV => (.cons (hV 6 35 _ (hdn 1 6 rfl) rfl rfl) (.cons (hV 10 39 _ (hdn 1 10 rfl) rfl rfl) (Sub.nil _))), ?_⟩) ?_
       ·skip
        refine .onH hb158 rfl rfl (.loadF rfl Tryz.isAgg3 rfl (l_254.mem _ _ hm208) (cell_of_take (k := 0) hv209 rfl) ?_)
        exact .finV rfl rfl Fz.r
       refine .cons (fun L env147 F_255 l_256 hL hdn hup hphi => ⟨[(1, (.pointer (some ⟨b5, 0, none⟩))), (35, (.bool (decide (x148 < 0))))], fun S hS hV => (.cons (hS _ _ rfl) (.cons (hV 6 35 _ (hdn 1 6 rfl) rfl rfl) (Sub.nil _))), ?_⟩) ?_
       ·skip
        refine .onH hb158 rfl rfl (.fieldAddr rfl Tryz.underlying41 rfl Tryz.sizeOf3 rfl ?_)
        exact .finV rfl rfl Fz.r
       refine .cons (fun L env147 F_257 l_258 hL hdn hup hphi => ⟨[(35, (.bool (decide (x148 < 0)))), (41, (.pointer (some ⟨b5, 0 + 0, none⟩)))], fun S hS hV => (.cons (hV 6 35 _ (hdn 1 6 rfl) rfl rfl) (.cons (hV 12 41 _ (hdn 1 12 rfl) rfl rfl) (Sub.nil _))), ?_⟩) ?_
       ·skip
        refine .onH hb158 rfl rfl (.loadF rfl Tryz.isAgg3 rfl ((Fz.t l_141 (Fz.t l_145 l_258)).mem _ _ hb8) rfl ?_)
        exact .finV rfl rfl Fz.r
       refine .cons (fun L env147 F_259 l_260 hL hdn hup hphi => ⟨[(35, (.bool (decide (x148 < 0)))), (42, (.int .i64 x1.Kind))], fun S hS hV => (.cons (hV 6 35 _ (hdn 1 6 rfl) rfl rfl) (.cons (hV 13 42 _ (hdn 1 13 rfl) rfl rfl) (Sub.nil _))), ?_⟩) ?_
       ·skip
        refine .onH hb158 rfl rfl (.callK hx218 rfl Tryz.call88 rfl rfl rfl (c_wormtubref14_Most _ x1.Kind) ?_)
        rintro F_261 _ l_262 ⟨p263, k264, rfl, h265⟩
        exact .finQ ({ env147 with a := (updN env147.a 140 p263), n := (updN env147.n 140 k264), c := env147.c, o := env147.o }) [true, true, true, true, true, true, true, true, true, true, true, true, true, true, false, true, false, false, false, false] rfl (by kernel_rfl) rfl rfl l_262 (fun _ le => h265.mono le) (cons_eq rfl rfl)
       refine .cons (fun L env147 F_266 l_267 hL hdn hup hphi => ⟨[(3, (.int .i64 s143)), (35, (.bool (decide (x148 < 0))))], fun S hS hV => (.cons (hS _ _ rfl) (.cons (hV 6 35 _ (hdn 1 6 rfl) rfl rfl) (Sub.nil _))), ?_⟩) ?_
       ·skip
        refine .onH hb158 rfl rfl (.move rfl rfl ?_)
        exact .finV rfl rfl Fz.r
       refine .cons (fun L env147 F_268 l_269 hL hdn hup hphi => ⟨[(35, (.bool (decide (x148 < 0)))), (43, (.slice (env147.a 140) r_213.length (env147.n 140))), (44, (.int .i64 s143))], fun S hS hV => (.cons (hV 6 35 _ (hdn 1 6 rfl) rfl rfl) (.cons (hV 14 43 _ (hdn 1 14 rfl) rfl rfl) (.cons (hV 15 44 _ (hdn 1 15 rfl) rfl rfl) (Sub.nil _)))), ?_⟩) ?_
       ·skip
        have h217 := hphi 14 _ (hdn 1 14 rfl) rfl _ Fz.r
        refine .onH hb158 rfl rfl ?_
        obtain ⟨b270, o271, T272, fr273, cs274, hm275, hv276, hq277⟩ := RepSl.idxE h217 e225
        refine .idxQ rfl Tryz.underlying31 Tryz.sizeOf3 hq277 rfl rfl ?_
        exact .finQ ({ env147 with n := updN (updN env147.n 160 b270) 161 o271 }) [true, true, true, true, true, true, true, true, true, true, true, true, true, true, true, true, false, false, false, false] rfl (by kernel_rfl) rfl rfl Fz.r (fun _ le => ⟨_, _, _, le.mem _ _ hm275, hv276⟩) (cons_eq rfl rfl)
       refine .cons (fun L env147 F_278 l_279 hL hdn hup hphi => ⟨[(35, (.bool (decide (x148 < 0)))), (45, (.pointer (some ⟨(env147.n 160), (env147.n 161), none⟩)))], fun S hS hV => (.cons (hV 6 35 _ (hdn 1 6 rfl) rfl rfl) (.cons (hV 16 45 _ (hdn 1 16 rfl) rfl rfl) (Sub.nil _))), ?_⟩) ?_
       ·skip
        have h217 := hphi 14 _ (hdn 2 14 rfl) rfl _ Fz.r
        obtain ⟨_, _, _, hm226, hv227⟩ := hphi 16 _ (hdn 1 16 rfl) rfl _ Fz.r
        refine .onH hb158 rfl rfl (.loadF rfl Tryz.isAgg3 rfl hm226 (cell_of_take (k := 0) hv227 rfl) ?_)
        exact .finV rfl rfl Fz.r
       refine .cons (fun L env147 F_280 l_281 hL hdn hup hphi => ⟨[(35, (.bool (decide (x148 < 0)))), (40, (.int .i64 x201)), (46, (.int .i64 x219))], fun S hS hV => (.cons (hV 6 35 _ (hdn 1 6 rfl) rfl rfl) (.cons (hV 11 40 _ (hdn 1 11 rfl) rfl rfl) (.cons (hV 17 46 _ (hdn 1 17 rfl) rfl rfl) (Sub.nil _)))), ?_⟩) ?_
       ·skip
        have h217 := hphi 14 _ (hdn 3 14 rfl) rfl _ Fz.r
        obtain ⟨_, _, _, hm226, hv227⟩ := hphi 16 _ (hdn 2 16 rfl) rfl _ Fz.r
        refine .onH hb158 rfl rfl (.gtr rfl rfl rfl ?_)
        exact .finV rfl rfl Fz.r
       refine .cons (fun L env147 F_282 l_283 hL hdn hup hphi => ⟨[(35, (.bool (decide (x148 < 0)))), (47, (.bool (decide (x201 > x219))))], fun S hS hV => (.cons (hV 6 35 _ (hdn 1 6 rfl) rfl rfl) (.cons (hV 18 47 _ (hdn 1 18 rfl) rfl rfl) (Sub.nil _))), ?_⟩) ?_
       ·skip
        have h217 := hphi 14 _ (hdn 4 14 rfl) rfl _ Fz.r
        obtain ⟨_, _, _, hm226, hv227⟩ := hphi 16 _ (hdn 3 16 rfl) rfl _ Fz.r
        refine .pickFH hb158  rfl rfl rfl ?_
        exact .finV rfl rfl Fz.r
       exact .nil
      have h217 := hphi 14 _ rfl
      obtain ⟨_, _, _, hm226, hv227⟩ := hphi 16 _ rfl
      refine .norm (S' := [(1, (.pointer (some ⟨b5, 0, none⟩))), (3, (.int .i64 s143)), (29, (.pointer (some ⟨b5, 0 + 1, none⟩))), (30, (.slice p2 x1.N.length k3)), (31, (.int .i64 s143)), (32, (.pointer (some ⟨b149, o150, none⟩))), (33, (.int .i64 x148)), (34, (.bool (decide (x148 < 0)))), (35, (.bool (decide (x148 < 0)))), (36, (.pointer (some ⟨b5, 0 + 1, none⟩))), (37, (.slice p2 x1.N.length k3)), (38, (.int .i64 s143)), (39, (.pointer (some ⟨b202, o203, none⟩))), (40, (.int .i64 x201)), (41, (.pointer (some ⟨b5, 0 + 0, none⟩))), (42, (.int .i64 x1.Kind)), (43, (.slice (env147.a 140) r_213.length (env147.n 140))), (44, (.int .i64 s143)), (45, (.pointer (some ⟨(env147.n 160), (env147.n 161), none⟩))), (46, (.int .i64 x219)), (47, (.bool (decide (x201 > x219)))), (48, (.bool (decide (x201 > x219))))]) (.cons (k := 1) rfl (.cons (k := 3) rfl (.cons (k := 29) rfl (.cons (k := 30) rfl (.cons (k := 31) rfl (.cons (k := 32) rfl (.cons (k := 33) rfl (.cons (k := 34) rfl (.cons (k := 35) rfl (.cons (k := 36) rfl (.cons (k := 37) rfl (.cons (k := 38) rfl (.cons (k := 39) rfl (.cons (k := 40) rfl (.cons (k := 41) rfl (.cons (k := 42) rfl (.cons (k := 43) rfl (.cons (k := 44) rfl (.cons (k := 45) rfl (.cons (k := 46) rfl (.cons (k := 47) rfl (.cons (k := 48) rfl (.nil _))))))))))))))))))))))) (rfl : _ = [R]) ?_
      refine .nil ?_
      exact .nil fun e a w h => by cases e; exact ⟨rfl, ⟨F_229, l_230, h.1.sub (.cons (k := 1) rfl (.cons (k := 3) rfl (.cons (k := 48) rfl (.nil _)))), h.2⟩⟩
    refine .code (.cond rfl (fun hb287 => ?_) (fun hb287 => ?_))
    ·skip
     refine .seq (.region (.assign rfl rfl (.nil (.code (.retQ (LPost.ret fun a w h => ⟨rfl, F_285, (Fz.t l_145 l_286), h.1.sub (.cons (k := 2) rfl (.nil _)), h.2⟩))))))
    ·skip
     refine .skip (.block (.code (.region (.move rfl rfl (.add rfl rfl rfl (.assignL rfl rfl (fun i288 e289 => ?_)))))))
     refine .nil ?_
     exact .nil (LPost.norm fun a w h => ⟨F_285, (Fz.t l_145 l_286), h.1.sub (.cons (k := 1) rfl (.cons (k := 3) rfl (.nil _))), h.2⟩)
   ·skip
    refine .exitOut rfl (LPost.exit fun a w h => ⟨rfl, F_144, l_145, h.1.sub (.nil _), h.2⟩)
  ·intro b290 hb0 hk e a w hD
   rcases b290 with b290 | b290
   ·skip
    obtain ⟨rfl, F_291, l_292, hA⟩ := hD
    refine interp_exit rfl (GE.app ?_ hk a w hA)
    refine .code (.seq (.region (.assign rfl rfl (.nil (.code ?_)))))
    exact .ret0 Tryz.results57 (.tmp rfl (.nil)) (i := 0) rfl (Fz.t l_7 (Fz.t l_141 l_292)) rfl
   obtain ⟨rfl, F_293, l_294, hA⟩ := hD
   exact interp_ret ((ret_post0 Tryz.results57 (.tmp rfl (.nil)) (i := 0) rfl (Fz.t l_7 (Fz.t l_141 l_294)) rfl) hk a w hA)
end Go.Proofs.YthnlglmjffdpfaaGreatDoor
end

section
namespace Go.Proofs.YthnlglmjffdpfaaGreatDoor
open Go.Dec Go.Shelf Go.RowKit Go.Maps Go.Sort
noncomputable def b_wormtubref14_Valid_1 (l_1 : (List ApiBooked)) (s5 : Int) : Option (Ctl (Int) ((Unit) ⊕ (Bool))) :=
 if ((decide (s5 < (l_1.length : Int))) && (decide (s5 ≤ 1024))) then ((idxL l_1 s5).bind fun x13 => (m_wormtubref14_valid x13).bind fun r_28 => if (!r_28) then (some (.done (.inr false))) else (bindv (w64 (s5 + 1)) fun i30 => some (.next i30))) else (some (.done (.inl ())))
noncomputable def m_wormtubref14_Valid (l_1 : (List ApiBooked)) : Option Bool :=
 (loopM (b_wormtubref14_Valid_1 l_1) 0).bind fun b0 => match b0 with | .inl _b32 => (some (decide ((l_1.length : Int) ≤ 1024))) | .inr b32 => (some b32)
set_option maxRecDepth 100000 in
set_option maxHeartbeats 4000000 in
theorem c_wormtubref14_Valid (F0 : Fz) (l_1 : (List ApiBooked)) (p2 : Option Addr) (k3 : Nat) (h4 : RepSl 2 rApiBooked F0 p2 k3 l_1) : CT0 Tryz.prog 46 [(.slice p2 l_1.length k3)].toArray F0 (m_wormtubref14_Valid l_1) (fun r _ v => v = (.bool r)) := by
 refine CT0.enter Tryz.func46 rfl Tryz.ntmps46 rfl fun r R => ?_
 unfold m_wormtubref14_Valid
 refine .seq (.region (.assign rfl rfl (.nil (.code (.seq (.seq (.region (.assign rfl rfl (.nil (.code (.block ?_)))))))))))
 refine .keep (.cons (k := 0) rfl (.cons (k := 3) rfl (.nil _))) ?_
 refine .loop (fun (s5 : Int) a w => ∃ (F_6 : Fz), F0 ≤ F_6 ∧ Hd 23 [] [(0, (.slice p2 l_1.length k3)), (3, (.int .i64 s5))] F_6 [R] a w) (fun b0 e a w => match b0 with | .inl b32 => e = .exit 0 ∧ ∃ (F_33 : Fz), F0 ≤ F_33 ∧ Hd 23 [] [(0, (.slice p2 l_1.length k3))] F_33 [R] a w | .inr b32 => e = .ret ∧ ∃ (F_35 : Fz), F0 ≤ F_35 ∧ Hd 23 [] [(2, (.bool b32))] F_35 [R] a w) ?_ ?_ ?_
 ·exact fun a w h => ⟨F0, Fz.r, h.1.sub (.cons (k := 0) rfl (.cons (k := 3) rfl (.nil _))), h.2⟩
 ·intro s5 ctl
  refine GC.ex (fun a w ⟨F_6, l_7, hA⟩ => ⟨_, hA, ?_⟩)
  unfold b_wormtubref14_Valid_1
  refine .seq (.seq (.region (.move rfl rfl (.move rfl rfl (.lenS rfl rfl Tryz.underlying22 rfl (.lss rfl rfl rfl (.move rfl rfl (.andP (b := (decide (s5 < (l_1.length : Int)))) (b' := (decide (s5 ≤ 1024))) 3 11 (fun hb8 => ?_) (fun hb9 => ?_) (fun F_10 l_11 => ?_)))))))))
  ·skip
   refine .onH hb8 rfl rfl (.move rfl rfl (.onH hb8 rfl rfl (.leq rfl rfl rfl (.pickTH hb8 rfl rfl rfl ?_))))
   exact .fin 3 rfl rfl (by kernel_rfl) Fz.r
  ·skip
   refine .offH hb9 rfl rfl rfl (.offH hb9 rfl rfl rfl (.pickFH hb9 rfl rfl rfl ?_))
   exact .fin 3 rfl rfl (by kernel_rfl) Fz.r
  refine .nil (.code (.cond rfl (fun hb12 => ?_) (fun hb12 => ?_)))
  ·skip
   refine .skip (.code (.seq (.block (.seq (.region (.move rfl rfl (.move rfl rfl (.idx rfl Tryz.underlying22 Tryz.sizeOf41 (h4.mono (Fz.t l_7 l_11)) rfl rfl (fun x13 b14 o15 T16 fr17 cs18 e19 hm20 hv21 => ?_)))))))))
   obtain ⟨p23, k24, hv21, h25⟩ := hv21
   refine .loadFA rfl Tryz.isAgg41 Tryz.sizeOf41 rfl hm20 hv21 rfl (.call0 rfl Tryz.call57 rfl rfl rfl (c_wormtubref14_valid _ x13 p23 k24 h25) ?_)
   rintro r_28 F_26 _ - l_27 rfl
   refine .not rfl rfl (.nil (.code (.cond rfl (fun hb29 => ?_) (fun hb29 => ?_))))
   ·skip
    refine .seq (.region (.assign rfl rfl (.nil (.code (.retQ (LPost.ret fun a w h => ⟨rfl, F_26, (Fz.t l_7 (Fz.t l_11 l_27)), h.1.sub (.cons (k := 2) rfl (.nil _)), h.2⟩))))))
   ·skip
    refine .skip (.block (.code (.region (.move rfl rfl (.add rfl rfl rfl (.assignL rfl rfl (fun i30 e31 => ?_)))))))
    refine .nil ?_
    exact .nil (LPost.norm fun a w h => ⟨F_26, (Fz.t l_7 (Fz.t l_11 l_27)), h.1.sub (.cons (k := 0) rfl (.cons (k := 3) rfl (.nil _))), h.2⟩)
  ·skip
   refine .exitOut rfl (LPost.exit fun a w h => ⟨rfl, F_10, (Fz.t l_7 l_11), h.1.sub (.cons (k := 0) rfl (.nil _)), h.2⟩)
 ·intro b32 hb0 hk e a w hD
  rcases b32 with b32 | b32
  ·skip
   obtain ⟨rfl, F_33, l_34, hA⟩ := hD
   refine interp_exit rfl (GE.app ?_ hk a w hA)
   refine .code (.seq (.region (.move rfl rfl (.lenS rfl rfl Tryz.underlying22 rfl (.leq rfl rfl rfl (.assign rfl rfl (.nil (.code ?_))))))))
   exact .ret0 Tryz.results46 (.tmp rfl (.nil)) (i := 0) rfl l_34 rfl
  obtain ⟨rfl, F_35, l_36, hA⟩ := hD
  exact interp_ret ((ret_post0 Tryz.results46 (.tmp rfl (.nil)) (i := 0) rfl l_36 rfl) hk a w hA)
end Go.Proofs.YthnlglmjffdpfaaGreatDoor
end

section
namespace Go.Proofs.YthnlglmjffdpfaaGreatDoor
open Go.Dec
theorem inM_all : ∀ {ns ms : List Int}, ns.length = ms.length → (inM ns ms = true ↔ ∀ i, i < ns.length → 0 ≤ ns.getD i 0 ∧ ns.getD i 0 ≤ ms.getD i 0)
  | [], [], _ => by simp [inM]
  | [], m :: ms, h => by simp at h
  | n :: ns, [], h => by simp at h
  | n :: ns, m :: ms, h => by
    have ih := inM_all (ns := ns) (ms := ms) (by simpa using h)
    simp only [inM, Bool.and_eq_true, decide_eq_true_eq, ih]
    constructor
    · rintro ⟨h1, h2⟩ i hi
      cases i with
      | zero => exact h1
      | succ i => exact h2 i (by simpa using hi)
    · intro h1
      exact ⟨h1 0 (by simp), fun i hi => h1 (i + 1) (by simpa using hi)⟩
theorem most_doc {k : Int} : m_wormtubref14_Most k = some (mostS k) := by
  unfold m_wormtubref14_Most mostS
  by_cases h0 : k = 0
  · rw [if_pos (by simp [h0]), if_pos h0]
  · rw [if_neg (by simp [h0]), if_neg h0]
    by_cases h1 : k = 1
    · rw [if_pos (by simp [h1]), if_pos h1]
    · rw [if_neg (by simp [h1]), if_neg h1]
      by_cases h2 : k = 2
      · rw [if_pos (by simp [h2]), if_pos h2]
      · rw [if_neg (by simp [h2]), if_neg h2]
theorem most_len (k : Int) : (mostS k).length ≤ 8 := by
  unfold mostS; split
  · decide
  · split
    · decide
    · split <;> decide
theorem valid_doc (x : ApiBooked) : m_wormtubref14_valid x = some (okS x) := by
  unfold m_wormtubref14_valid
  by_cases hk : 0 ≤ x.Kind ∧ x.Kind ≤ 3
  · by_cases hl : x.N.length = (mostS x.Kind).length
    · have hm := most_len x.Kind
      refine bind_of (show _ = some false from ?_) ?_
      · rw [if_neg (by rw [decide_eq_true_eq]; omega), if_neg (by rw [decide_eq_true_eq]; omega), most_doc]
        simp [hl]
      · rw [if_neg (by decide)]
        have hall := inM_all hl
        have h := loop_chk (body := b_wormtubref14_valid_1 x) (good := (.inl () : Unit ⊕ Bool)) (fun _ => .inr false) (fun i => decide (0 ≤ x.N.getD i 0 ∧ x.N.getD i 0 ≤ (mostS x.Kind).getD i 0)) x.N.length
          (fun i hi => by
            unfold b_wormtubref14_valid_1
            rw [if_pos (by rw [decide_eq_true_eq]; omega), most_doc]
            have i1 : idxL x.N (i : Int) = some (x.N.getD i 0) := by rw [idxL_nat, getD_get (d := 0) hi]
            have i2 : idxL (mostS x.Kind) (i : Int) = some ((mostS x.Kind).getD i 0) := by rw [idxL_nat, getD_get (d := 0) (by omega)]
            rw [i1]
            simp only [Option.bind_some, i2, bindv, nx (show i ≤ 1000000000 by omega)]
            by_cases h0 : x.N.getD i 0 < 0
            · rw [if_pos (by rw [decide_eq_true_eq]; exact h0)]
              simp only [Option.bind_some, if_true]
              rw [if_neg (by rw [decide_eq_true_eq]; omega)]
            · rw [if_neg (by rw [decide_eq_true_eq]; exact h0)]
              simp only [Option.bind_some]
              by_cases h1 : x.N.getD i 0 ≤ (mostS x.Kind).getD i 0
              · rw [if_neg (by rw [decide_eq_true_eq]; omega), if_pos (by rw [decide_eq_true_eq]; omega)]
              · rw [if_pos (by rw [decide_eq_true_eq]; omega), if_neg (by rw [decide_eq_true_eq]; omega)])
          (by unfold b_wormtubref14_valid_1; rw [if_neg (by simp)])
        rcases h with ⟨h1, h2⟩ | ⟨k, h1, h2, h3, h4⟩
        · rw [h2]
          have : okS x = true := okS_iff.2 ⟨hk, hall.2 fun i hi => by simpa using h1 i hi⟩
          rw [this]; rfl
        · rw [h4]
          have : okS x = false := by
            rw [Bool.eq_false_iff]
            intro ho
            have := hall.1 (okS_iff.1 ho).2 k h1
            rw [decide_eq_false_iff_not] at h2
            exact h2 this
          rw [this]; rfl
    · have : okS x = false := by
        rw [Bool.eq_false_iff]
        intro ho
        exact hl (inM_len (okS_iff.1 ho).2)
      rw [this]
      refine bind_of (show _ = some true from ?_) ?_
      · rw [if_neg (by rw [decide_eq_true_eq]; omega), if_neg (by rw [decide_eq_true_eq]; omega), most_doc]
        simp only [Option.bind_some, Option.some.injEq, bne_iff_ne]
        omega
      · rfl
  · have : okS x = false := by
      rw [Bool.eq_false_iff]
      intro ho
      exact hk (okS_iff.1 ho).1
    rw [this]
    refine bind_of (show _ = some true from ?_) ?_
    · by_cases h0 : x.Kind < 0
      · rw [if_pos (by rw [decide_eq_true_eq]; exact h0)]
      · rw [if_neg (by rw [decide_eq_true_eq]; exact h0), if_pos (by rw [decide_eq_true_eq]; omega)]
    · rfl
theorem Valid_doc (l : List ApiBooked) : m_wormtubref14_Valid l = some (okBook l) := by
  unfold m_wormtubref14_Valid
  have h := loop_chk (body := b_wormtubref14_Valid_1 l) (good := (.inl () : Unit ⊕ Bool)) (fun _ => .inr false) (fun i => okS (l.getD i ⟨0, []⟩)) (min l.length 1025)
    (fun i hi => by
      unfold b_wormtubref14_Valid_1
      rw [if_pos (by rw [Bool.and_eq_true, decide_eq_true_eq, decide_eq_true_eq]; omega)]
      have i1 : idxL l (i : Int) = some (l.getD i ⟨0, []⟩) := by rw [idxL_nat, getD_get (d := (⟨0, []⟩ : ApiBooked)) (by omega)]
      rw [i1]
      simp only [Option.bind_some, valid_doc, bindv, nx (show i ≤ 1000000000 by omega)]
      cases okS (l.getD i ⟨0, []⟩) <;> rfl)
    (by
      unfold b_wormtubref14_Valid_1
      rw [if_neg]
      rw [Bool.and_eq_true, decide_eq_true_eq, decide_eq_true_eq]; omega)
  rcases h with ⟨h1, h2⟩ | ⟨k, h1, h2, h3, h4⟩
  · rw [h2]
    simp only [Option.bind_some, Option.some.injEq]
    by_cases hl : l.length ≤ 1024
    · rw [decide_eq_true (by omega)]
      symm
      refine okBook_iff.2 ⟨hl, fun x hx => ?_⟩
      obtain ⟨i, hi, rfl⟩ := List.mem_iff_getElem.1 hx
      have := h1 i (by omega)
      rwa [List.getD_eq_getElem?_getD, List.getElem?_eq_getElem hi] at this
    · rw [decide_eq_false (by omega)]
      symm
      rw [Bool.eq_false_iff]
      intro hb
      exact hl (okBook_iff.1 hb).1
  · rw [h4]
    simp only [Option.bind_some, Option.some.injEq]
    symm
    rw [Bool.eq_false_iff]
    intro hb
    have := (okBook_iff.1 hb).2 _ (getD_in (d := (⟨0, []⟩ : ApiBooked)) (i := k) (l := l) (by omega))
    rw [h2] at this; cases this
end Go.Proofs.YthnlglmjffdpfaaGreatDoor
end

section
namespace Go.Proofs.YthnlglmjffdpfaaGreatDoor
open Go.Dec Go.Shelf Go.RowKit Go.Maps Go.Sort
noncomputable def m_file_Book_1 (kind : Int) (n : List Int) (l : List ApiBooked) : Option (List ApiBooked) := (appO l [ApiBooked.mk kind n]).bind fun l' => some l'
set_option maxRecDepth 100000 in
theorem c_file_Book_1 (F0 : Fz) (kind : Int) (n : List Int) (p : Option Addr) (k : Nat) (h : RepSl 1 (Ex (cInt .i64)) F0 p k n) (Fo : Fz) (leo : Fo ≤ F0) (b : Nat) (l : List ApiBooked) (p0 : Option Addr) (k0 : Nat) :
  CTI (G := Option Addr × Nat) Tryz.prog 58 [.int .i64 kind, .slice p n.length k, .pointer (some ⟨b, 0, none⟩)].toArray F0 [ownSl 2 rApiBooked Fo 41 p0 k0 l, pt b (.cells [.slice p0 l.length k0].toArray 22)] (m_file_Book_1 kind n l)
   (fun _ _ _ v => v = .tuple #[]) (fun Γ l' F' => [ownSl 2 rApiBooked F' 41 Γ.1 Γ.2 l', pt b (.cells [.slice Γ.1 l'.length Γ.2].toArray 22)]) := by
 refine CTI.enter Tryz.func58 rfl Tryz.ntmps58 rfl fun r R => ?_
 unfold m_file_Book_1
 refine .region (.loadO rfl Tryz.isAgg22 rfl (i := 1) rfl rfl (.move rfl rfl (.move rfl rfl (.build (cs := (cApiBooked ⟨kind, n⟩ p k).toArray) rfl Tryz.underlying41 Tryz.zeroValue41 (plApiBooked _ Tryz.underlying41) rfl rfl (by kernel_rfl) ?_))))
 refine .sliceLit (cs := cApiBooked ⟨kind, n⟩ p k) (zc := cApiBooked ⟨0, []⟩ none 0) rfl Tryz.underlying22 Tryz.sizeOf41 Tryz.zeroValue41 rfl rfl rfl (by kernel_rfl) (by kernel_rfl) (fun b1 F1 l1 hb1 => ?_)
 have h2 : RepSl 2 rApiBooked F1 (some ⟨b1, 0, none⟩) 1 [⟨kind, n⟩] := RepSl.ofRow hb1 (.cons ok_t41.mono ⟨_, _, rfl, h.mono l1⟩ .nil) rfl rfl
 refine .append 0 ok_t41 (Fz.t leo l1) rfl Tryz.underlying22 Tryz.underlying22 rfl rfl rfl h2 rfl rfl (fun l' p' k' e => ?_)
 refine .store (cs' := [(.slice p' l'.length k')]) Tryz.sizeOf22 rfl rfl rfl rfl (i := 1) rfl (Nat.le_of_ble_eq_true rfl) rfl rfl (.nil ?_)
 exact .endJ (p', k') [0, 0, 0] Tryz.results58 .nil rfl l1 rfl
noncomputable def b_file_Book_1 (m_1 : (List ApiMaltStep)) (s24 : Int × (List ApiBooked)) : Option (Ctl (Int × (List ApiBooked)) (((List ApiBooked)))) :=
 if (decide (s24.1 < (m_1.length : Int))) then ((idxL m_1 s24.1).bind fun x31 => (m_file_Book_1 0 ([x31.Kind, x31.A, x31.B]) s24.2).bind fun l_47 => some (.next ((w64 (s24.1 + 1)), l_47))) else (some (.done s24.2))
noncomputable def b_file_Book_2 (s5 : (List ApiDrawn)) (s59 : Int × (List ApiBooked)) : Option (Ctl (Int × (List ApiBooked)) (((List ApiBooked)))) :=
 if (decide (s59.1 < (s5.length : Int))) then ((idxL s5 s59.1).bind fun x66 => (m_file_Book_1 1 ([x66.Amount, x66.Alcohol.Lo, x66.Alcohol.Hi]) s59.2).bind fun l_82 => some (.next ((w64 (s59.1 + 1)), l_82))) else (some (.done s59.2))
noncomputable def b_file_Book_3 (c9 : (List ApiCaskEvent)) (s94 : Int × (List ApiBooked)) : Option (Ctl (Int × (List ApiBooked)) (((List ApiBooked)))) :=
 if (decide (s94.1 < (c9.length : Int))) then ((idxL c9 s94.1).bind fun x101 => (m_file_Book_1 2 ([x101.Kind, x101.Day, x101.Cask, x101.Other, x101.Person, x101.To, x101.Amount, x101.Where]) s94.2).bind fun l_117 => some (.next ((w64 (s94.1 + 1)), l_117))) else (some (.done s94.2))
noncomputable def b_file_Book_4 (d13 : (List ApiDutyEvent)) (s129 : Int × (List ApiBooked)) : Option (Ctl (Int × (List ApiBooked)) (((List ApiBooked)))) :=
 if (decide (s129.1 < (d13.length : Int))) then ((idxL d13 s129.1).bind fun x136 => (m_file_Book_1 3 ([x136.Kind, x136.Day, x136.Bond, x136.To, x136.Id, x136.Amount]) s129.2).bind fun l_152 => some (.next ((w64 (s129.1 + 1)), l_152))) else (some (.done s129.2))
noncomputable def m_file_Book (m_1 : (List ApiMaltStep)) (s5 : (List ApiDrawn)) (c9 : (List ApiCaskEvent)) (d13 : (List ApiDutyEvent)) : Option ((List ApiBooked) × Int) :=
 if ((decide ((imax (imax (imax (m_1.length : Int) (s5.length : Int)) (c9.length : Int)) (d13.length : Int)) > 1024)) || (decide ((w64 ((w64 ((w64 ((m_1.length : Int) + (s5.length : Int))) + (c9.length : Int))) + (d13.length : Int))) > 1024))) then (some ([], 3)) else ((loopM (b_file_Book_1 m_1) (0, [])).bind fun b53 => (loopM (b_file_Book_2 s5) (0, b53)).bind fun b88 => (loopM (b_file_Book_3 c9) (0, b88)).bind fun b123 => (loopM (b_file_Book_4 d13) (0, b123)).bind fun b158 => (m_file_isBook b158).bind fun r_169 => if (!r_169) then (some ([], 1)) else (some (b158, 0)))
set_option maxRecDepth 100000 in
set_option maxHeartbeats 4000000 in
theorem c_file_Book (F0 : Fz) (m_1 : (List ApiMaltStep)) (p2 : Option Addr) (k3 : Nat) (h4 : RepSl 3 (Ex cApiMaltStep) F0 p2 k3 m_1) (s5 : (List ApiDrawn)) (p6 : Option Addr) (k7 : Nat) (h8 : RepSl 3 (Ex cApiDrawn) F0 p6 k7 s5) (c9 : (List ApiCaskEvent)) (p10 : Option Addr) (k11 : Nat) (h12 : RepSl 8 (Ex cApiCaskEvent) F0 p10 k11 c9) (d13 : (List ApiDutyEvent)) (p14 : Option Addr) (k15 : Nat) (h16 : RepSl 6 (Ex cApiDutyEvent) F0 p14 k15 d13) : CT0 Tryz.prog 27 [(.slice p2 m_1.length k3), (.slice p6 s5.length k7), (.slice p10 c9.length k11), (.slice p14 d13.length k15)].toArray F0 (m_file_Book m_1 s5 c9 d13) (fun r F v => ∃ (p0 : Option Addr) (k0 : Nat), v = .tuple #[(.slice p0 r.1.length k0), (.int .i64 r.2)] ∧ RepSl 2 rApiBooked F p0 k0 r.1) := by
 refine CT0.enter Tryz.func27 rfl Tryz.ntmps27 rfl fun r R => ?_
 unfold m_file_Book
 refine .seq (.region (.assign rfl rfl (.assign rfl rfl (.nil (.code (.seq (.region (.alloc (cs := [(.slice none 0 0)]) rfl Tryz.zeroValue22 rfl (fun b17 => ?_)))))))))
 refine .ownNil 2 rApiBooked 41 (.nil (.code (.seq (.region (.makeFunc rfl rfl (.assign rfl rfl (.nil (.code (.seq (.seq (.region ?_)))))))))))
 refine .move rfl rfl (.lenS rfl rfl Tryz.underlying50 rfl (.move rfl rfl (.lenS rfl rfl Tryz.underlying55 rfl (.move rfl rfl (.lenS rfl rfl Tryz.underlying58 rfl (.move rfl rfl (.lenS rfl rfl Tryz.underlying56 rfl (.max4 rfl rfl rfl rfl rfl (.gtr rfl rfl rfl (.move rfl rfl ?_))))))))))
 refine .orP (b := (decide ((imax (imax (imax (m_1.length : Int) (s5.length : Int)) (c9.length : Int)) (d13.length : Int)) > 1024))) (b' := (decide ((w64 ((w64 ((w64 ((m_1.length : Int) + (s5.length : Int))) + (c9.length : Int))) + (d13.length : Int))) > 1024))) 13 44 (fun hb19 => ?_) (fun hb20 => ?_) (fun F_21 l_22 => ?_)
 ·skip
  refine .onH hb19 rfl rfl (.move rfl rfl (.onH hb19 rfl rfl (.lenS rfl rfl Tryz.underlying50 rfl (.onH hb19 rfl rfl (.move rfl rfl (.onH hb19 rfl rfl (.lenS rfl rfl Tryz.underlying55 rfl (.onH hb19 rfl rfl (.add rfl rfl rfl (.onH hb19 rfl rfl (.move rfl rfl ?_)))))))))))
  refine .onH hb19 rfl rfl (.lenS rfl rfl Tryz.underlying58 rfl (.onH hb19 rfl rfl (.add rfl rfl rfl (.onH hb19 rfl rfl (.move rfl rfl (.onH hb19 rfl rfl (.lenS rfl rfl Tryz.underlying56 rfl (.onH hb19 rfl rfl (.add rfl rfl rfl (.onH hb19 rfl rfl (.gtr rfl rfl rfl ?_)))))))))))
  refine .pickFH hb19 rfl rfl rfl ?_
  exact .fin 13 rfl rfl (by kernel_rfl) Fz.r
 ·skip
  refine .offH hb20 rfl rfl rfl (.offH hb20 rfl rfl rfl (.offH hb20 rfl rfl rfl (.offH hb20 rfl rfl rfl (.offH hb20 rfl rfl rfl (.offH hb20 rfl rfl rfl (.offH hb20 rfl rfl rfl (.offH hb20 rfl rfl rfl (.offH hb20 rfl rfl rfl (.offH hb20 rfl rfl rfl (.offH hb20 rfl rfl rfl (.offH hb20 rfl rfl rfl ?_)))))))))))
  refine .pickTH hb20 rfl rfl rfl ?_
  exact .fin 13 rfl rfl (by kernel_rfl) Fz.r
 refine .nil (.code (.cond rfl (fun hb23 => ?_) (fun hb23 => ?_)))
 ·skip
  refine .seq (.region (.assign rfl rfl (.assign rfl rfl (.nil (.code ?_)))))
  exact .ret0 Tryz.results27 (.tmp rfl (.tmp rfl (.nil))) (i := 2) rfl l_22 ⟨none, 0, rfl, (RepSl.nil.mono l_22)⟩
 ·skip
  refine .skip (.code (.seq (.seq (.region (.move rfl rfl (.lenS rfl rfl Tryz.underlying50 rfl (.move rfl rfl (.nil (.code (.block (.keep (.cons (k := 1) rfl (.cons (k := 2) rfl (.cons (k := 3) rfl (.cons (k := 10) rfl (.cons (k := 11) rfl (.cons (k := 45) rfl (.cons (k := 46) rfl (.cons (k := 47) rfl (.nil _))))))))) ?_)))))))))))
  refine .ownUp 0 l_22 rfl ?_
  refine .loop (fun (s24 : Int × (List ApiBooked)) a w => ∃ (F_25 : Fz) (p27 : Option Addr) (k28 : Nat), F_21 ≤ F_25 ∧ Hd 131 [] [(1, (.slice p6 s5.length k7)), (2, (.slice p10 c9.length k11)), (3, (.slice p14 d13.length k15)), (10, (.pointer (some ⟨b17, 0, none⟩))), (11, (.func (.func 58) #[] [(.pointer (some ⟨b17, 0, none⟩))].toArray)), (45, (.slice p2 m_1.length k3)), (46, (.int .i64 (m_1.length : Int))), (47, (.int .i64 s24.1))] F_25 [ownSl 2 rApiBooked F_25 41 p27 k28 s24.2, pt b17 (.cells [(.slice p27 s24.2.length k28)].toArray 22), R] a w) (fun b53 e a w => e = .exit 0 ∧ ∃ (F_54 : Fz) (p56 : Option Addr) (k57 : Nat), F_21 ≤ F_54 ∧ Hd 131 [] [(1, (.slice p6 s5.length k7)), (2, (.slice p10 c9.length k11)), (3, (.slice p14 d13.length k15)), (10, (.pointer (some ⟨b17, 0, none⟩))), (11, (.func (.func 58) #[] [(.pointer (some ⟨b17, 0, none⟩))].toArray))] F_54 [ownSl 2 rApiBooked F_54 41 p56 k57 b53, pt b17 (.cells [(.slice p56 b53.length k57)].toArray 22), R] a w) ?_ ?_ ?_
  ·exact fun a w h => ⟨F_21, none, 0, Fz.r, h.1.sub (.cons (k := 1) rfl (.cons (k := 2) rfl (.cons (k := 3) rfl (.cons (k := 10) rfl (.cons (k := 11) rfl (.cons (k := 45) rfl (.cons (k := 46) rfl (.cons (k := 47) rfl (.nil _))))))))), h.2⟩
  ·intro s24 ctl
   refine GC.ex (fun a w ⟨F_25, p27, k28, l_26, hA⟩ => ⟨_, hA, ?_⟩)
   unfold b_file_Book_1
   refine .seq (.region (.lss rfl rfl rfl (.nil (.code (.seq (.cond rfl (fun hb30 => ?_) (fun hb30 => ?_)))))))
   ·skip
    refine .skip (.code (.seq (.block (.seq (.region (.idx rfl Tryz.underlying50 Tryz.sizeOf49 (h4.mono (Fz.t l_22 l_26)) rfl rfl (fun x31 b32 o33 T34 fr35 cs36 e37 hm38 hv39 => ?_)))))))
    refine .loadFA rfl Tryz.isAgg49 Tryz.sizeOf49 rfl hm38 hv39 rfl (.alloc (cs := (cApiMaltStep (ApiMaltStep.mk 0 0 0))) rfl Tryz.zeroValue49 rfl (fun b41 => ?_))
    refine .store (cs' := (cApiMaltStep x31)) Tryz.sizeOf49 rfl rfl rfl rfl (i := 0) rfl (Nat.le_of_ble_eq_true rfl) rfl (setMany_all (by rfl)) (.nil (.code (.region (.move rfl rfl (.fieldAddr rfl Tryz.underlying49 rfl Tryz.sizeOf3 rfl (.loadO rfl Tryz.isAgg3 rfl (i := 0) rfl rfl (.fieldAddr rfl Tryz.underlying49 rfl Tryz.sizeOf3 rfl (.loadO rfl Tryz.isAgg3 rfl (i := 0) rfl rfl ?_))))))))
    refine .fieldAddr rfl Tryz.underlying49 rfl Tryz.sizeOf3 rfl (.loadO rfl Tryz.isAgg3 rfl (i := 0) rfl rfl (.sliceLit (cs := [.int .i64 x31.Kind, .int .i64 x31.A, .int .i64 x31.B]) (zc := [.int .i64 0, .int .i64 0, .int .i64 0]) rfl Tryz.underlying31 Tryz.sizeOf3 Tryz.zeroValue3 rfl rfl rfl (by kernel_rfl) (by kernel_rfl) (fun b42 F_43 l_44 hb45 => ?_)))
    have h46 : RepSl 1 (Ex (cInt .i64)) F_43 (some ⟨b42, 0, none⟩) 3 ([x31.Kind, x31.A, x31.B]) := RepSl.ofRow hb45 (.cons ok_t3.mono rfl (.cons ok_t3.mono rfl (.cons ok_t3.mono rfl .nil))) rfl rfl
    refine .callI [1, 1] rfl Tryz.call58 rfl rfl rfl rfl (c_file_Book_1 _ 0 ([x31.Kind, x31.A, x31.B]) (some ⟨b42, 0, none⟩) 3 h46 _ l_44 b17 s24.2 p27 k28) (fun l_47 ⟨p50, k51⟩ F_48 _ _ l_49 hv52 => ?_)
    subst hv52
    refine .pick [2, 0, 0, 0] rfl (.nil (.block (.code (.region (.add rfl rfl rfl (.move rfl rfl (.nil (.drop 0 ?_))))))))
    exact .nil (LPost.norm fun a w h => ⟨F_48, p50, k51, (Fz.t l_26 (Fz.t l_44 l_49)), h.1.sub (.cons (k := 1) rfl (.cons (k := 2) rfl (.cons (k := 3) rfl (.cons (k := 10) rfl (.cons (k := 11) rfl (.cons (k := 45) rfl (.cons (k := 46) rfl (.cons (k := 47) rfl (.nil _))))))))), h.2⟩)
   ·skip
    refine .exitOut rfl (LPost.exit fun a w h => ⟨rfl, F_25, p27, k28, l_26, h.1.sub (.cons (k := 1) rfl (.cons (k := 2) rfl (.cons (k := 3) rfl (.cons (k := 10) rfl (.cons (k := 11) rfl (.nil _)))))), h.2⟩)
  ·intro b53 hb0 hk e a w hD
   obtain ⟨rfl, F_54, p56, k57, l_55, hA⟩ := hD
   refine interp_exit rfl (GE.app ?_ hk a w hA)
   refine .code (.seq (.seq (.region (.move rfl rfl (.lenS rfl rfl Tryz.underlying55 rfl (.move rfl rfl (.nil (.code (.block (.keep (.cons (k := 2) rfl (.cons (k := 3) rfl (.cons (k := 10) rfl (.cons (k := 11) rfl (.cons (k := 61) rfl (.cons (k := 62) rfl (.cons (k := 63) rfl (.nil _)))))))) ?_))))))))))
   refine .loop (fun (s59 : Int × (List ApiBooked)) a w => ∃ (F_60 : Fz) (p62 : Option Addr) (k63 : Nat), F_54 ≤ F_60 ∧ Hd 131 [] [(2, (.slice p10 c9.length k11)), (3, (.slice p14 d13.length k15)), (10, (.pointer (some ⟨b17, 0, none⟩))), (11, (.func (.func 58) #[] [(.pointer (some ⟨b17, 0, none⟩))].toArray)), (61, (.slice p6 s5.length k7)), (62, (.int .i64 (s5.length : Int))), (63, (.int .i64 s59.1))] F_60 [ownSl 2 rApiBooked F_60 41 p62 k63 s59.2, pt b17 (.cells [(.slice p62 s59.2.length k63)].toArray 22), R] a w) (fun b88 e a w => e = .exit 2 ∧ ∃ (F_89 : Fz) (p91 : Option Addr) (k92 : Nat), F_54 ≤ F_89 ∧ Hd 131 [] [(2, (.slice p10 c9.length k11)), (3, (.slice p14 d13.length k15)), (10, (.pointer (some ⟨b17, 0, none⟩))), (11, (.func (.func 58) #[] [(.pointer (some ⟨b17, 0, none⟩))].toArray))] F_89 [ownSl 2 rApiBooked F_89 41 p91 k92 b88, pt b17 (.cells [(.slice p91 b88.length k92)].toArray 22), R] a w) ?_ ?_ ?_
   ·exact fun a w h => ⟨F_54, p56, k57, Fz.r, h.1.sub (.cons (k := 2) rfl (.cons (k := 3) rfl (.cons (k := 10) rfl (.cons (k := 11) rfl (.cons (k := 61) rfl (.cons (k := 62) rfl (.cons (k := 63) rfl (.nil _)))))))), h.2⟩
   ·intro s59 ctl
    refine GC.ex (fun a w ⟨F_60, p62, k63, l_61, hA⟩ => ⟨_, hA, ?_⟩)
    unfold b_file_Book_2
    refine .seq (.region (.lss rfl rfl rfl (.nil (.code (.seq (.cond rfl (fun hb65 => ?_) (fun hb65 => ?_)))))))
    ·skip
     refine .skip (.code (.seq (.block (.seq (.region (.idx rfl Tryz.underlying55 Tryz.sizeOf54 (h8.mono (Fz.t l_22 (Fz.t l_55 l_61))) rfl rfl (fun x66 b67 o68 T69 fr70 cs71 e72 hm73 hv74 => ?_)))))))
     refine .loadFA rfl Tryz.isAgg54 Tryz.sizeOf54 rfl hm73 hv74 rfl (.alloc (cs := (cApiDrawn (ApiDrawn.mk 0 (ApiSpan.mk 0 0)))) rfl Tryz.zeroValue54 rfl (fun b76 => ?_))
     refine .store (cs' := (cApiDrawn x66)) Tryz.sizeOf54 rfl rfl rfl rfl (i := 0) rfl (Nat.le_of_ble_eq_true rfl) rfl (setMany_all (by rfl)) (.nil (.code (.region (.move rfl rfl (.fieldAddr rfl Tryz.underlying54 rfl Tryz.sizeOf3 rfl (.loadO rfl Tryz.isAgg3 rfl (i := 0) rfl rfl (.fieldAddr rfl Tryz.underlying54 rfl Tryz.sizeOf52 rfl (.fieldAddr rfl Tryz.underlying52 rfl Tryz.sizeOf3 rfl ?_))))))))
     refine .loadO rfl Tryz.isAgg3 rfl (i := 0) rfl rfl (.fieldAddr rfl Tryz.underlying54 rfl Tryz.sizeOf52 rfl (.fieldAddr rfl Tryz.underlying52 rfl Tryz.sizeOf3 rfl (.loadO rfl Tryz.isAgg3 rfl (i := 0) rfl rfl ?_)))
     refine .sliceLit (cs := [.int .i64 x66.Amount, .int .i64 x66.Alcohol.Lo, .int .i64 x66.Alcohol.Hi]) (zc := [.int .i64 0, .int .i64 0, .int .i64 0]) rfl Tryz.underlying31 Tryz.sizeOf3 Tryz.zeroValue3 rfl rfl rfl (by kernel_rfl) (by kernel_rfl) (fun b77 F_78 l_79 hb80 => ?_)
     have h81 : RepSl 1 (Ex (cInt .i64)) F_78 (some ⟨b77, 0, none⟩) 3 ([x66.Amount, x66.Alcohol.Lo, x66.Alcohol.Hi]) := RepSl.ofRow hb80 (.cons ok_t3.mono rfl (.cons ok_t3.mono rfl (.cons ok_t3.mono rfl .nil))) rfl rfl
     refine .callI [1, 1] rfl Tryz.call58 rfl rfl rfl rfl (c_file_Book_1 _ 1 ([x66.Amount, x66.Alcohol.Lo, x66.Alcohol.Hi]) (some ⟨b77, 0, none⟩) 3 h81 _ l_79 b17 s59.2 p62 k63) (fun l_82 ⟨p85, k86⟩ F_83 _ _ l_84 hv87 => ?_)
     subst hv87
     refine .pick [2, 0, 0, 0] rfl (.nil (.block (.code (.region (.add rfl rfl rfl (.move rfl rfl (.nil (.drop 0 ?_))))))))
     exact .nil (LPost.norm fun a w h => ⟨F_83, p85, k86, (Fz.t l_61 (Fz.t l_79 l_84)), h.1.sub (.cons (k := 2) rfl (.cons (k := 3) rfl (.cons (k := 10) rfl (.cons (k := 11) rfl (.cons (k := 61) rfl (.cons (k := 62) rfl (.cons (k := 63) rfl (.nil _)))))))), h.2⟩)
    ·skip
     refine .exitOut rfl (LPost.exit fun a w h => ⟨rfl, F_60, p62, k63, l_61, h.1.sub (.cons (k := 2) rfl (.cons (k := 3) rfl (.cons (k := 10) rfl (.cons (k := 11) rfl (.nil _))))), h.2⟩)
   ·intro b88 hb0 hk e a w hD
    obtain ⟨rfl, F_89, p91, k92, l_90, hA⟩ := hD
    refine interp_exit rfl (GE.app ?_ hk a w hA)
    refine .code (.seq (.seq (.region (.move rfl rfl (.lenS rfl rfl Tryz.underlying58 rfl (.move rfl rfl (.nil (.code (.block (.keep (.cons (k := 3) rfl (.cons (k := 10) rfl (.cons (k := 11) rfl (.cons (k := 79) rfl (.cons (k := 80) rfl (.cons (k := 81) rfl (.nil _))))))) ?_))))))))))
    refine .loop (fun (s94 : Int × (List ApiBooked)) a w => ∃ (F_95 : Fz) (p97 : Option Addr) (k98 : Nat), F_89 ≤ F_95 ∧ Hd 131 [] [(3, (.slice p14 d13.length k15)), (10, (.pointer (some ⟨b17, 0, none⟩))), (11, (.func (.func 58) #[] [(.pointer (some ⟨b17, 0, none⟩))].toArray)), (79, (.slice p10 c9.length k11)), (80, (.int .i64 (c9.length : Int))), (81, (.int .i64 s94.1))] F_95 [ownSl 2 rApiBooked F_95 41 p97 k98 s94.2, pt b17 (.cells [(.slice p97 s94.2.length k98)].toArray 22), R] a w) (fun b123 e a w => e = .exit 4 ∧ ∃ (F_124 : Fz) (p126 : Option Addr) (k127 : Nat), F_89 ≤ F_124 ∧ Hd 131 [] [(3, (.slice p14 d13.length k15)), (10, (.pointer (some ⟨b17, 0, none⟩))), (11, (.func (.func 58) #[] [(.pointer (some ⟨b17, 0, none⟩))].toArray))] F_124 [ownSl 2 rApiBooked F_124 41 p126 k127 b123, pt b17 (.cells [(.slice p126 b123.length k127)].toArray 22), R] a w) ?_ ?_ ?_
    ·exact fun a w h => ⟨F_89, p91, k92, Fz.r, h.1.sub (.cons (k := 3) rfl (.cons (k := 10) rfl (.cons (k := 11) rfl (.cons (k := 79) rfl (.cons (k := 80) rfl (.cons (k := 81) rfl (.nil _))))))), h.2⟩
    ·intro s94 ctl
     refine GC.ex (fun a w ⟨F_95, p97, k98, l_96, hA⟩ => ⟨_, hA, ?_⟩)
     unfold b_file_Book_3
     refine .seq (.region (.lss rfl rfl rfl (.nil (.code (.seq (.cond rfl (fun hb100 => ?_) (fun hb100 => ?_)))))))
     ·skip
      refine .skip (.code (.seq (.block (.seq (.region (.idx rfl Tryz.underlying58 Tryz.sizeOf69 (h12.mono (Fz.t l_22 (Fz.t l_55 (Fz.t l_90 l_96)))) rfl rfl (fun x101 b102 o103 T104 fr105 cs106 e107 hm108 hv109 => ?_)))))))
      refine .loadFA rfl Tryz.isAgg69 Tryz.sizeOf69 rfl hm108 hv109 rfl (.alloc (cs := (cApiCaskEvent (ApiCaskEvent.mk 0 0 0 0 0 0 0 0))) rfl Tryz.zeroValue69 rfl (fun b111 => ?_))
      refine .store (cs' := (cApiCaskEvent x101)) Tryz.sizeOf69 rfl rfl rfl rfl (i := 0) rfl (Nat.le_of_ble_eq_true rfl) rfl (setMany_all (by rfl)) (.nil (.code (.region (.move rfl rfl (.fieldAddr rfl Tryz.underlying69 rfl Tryz.sizeOf3 rfl (.loadO rfl Tryz.isAgg3 rfl (i := 0) rfl rfl (.fieldAddr rfl Tryz.underlying69 rfl Tryz.sizeOf3 rfl (.loadO rfl Tryz.isAgg3 rfl (i := 0) rfl rfl ?_))))))))
      refine .fieldAddr rfl Tryz.underlying69 rfl Tryz.sizeOf3 rfl (.loadO rfl Tryz.isAgg3 rfl (i := 0) rfl rfl (.fieldAddr rfl Tryz.underlying69 rfl Tryz.sizeOf3 rfl (.loadO rfl Tryz.isAgg3 rfl (i := 0) rfl rfl (.fieldAddr rfl Tryz.underlying69 rfl Tryz.sizeOf3 rfl (.loadO rfl Tryz.isAgg3 rfl (i := 0) rfl rfl (.fieldAddr rfl Tryz.underlying69 rfl Tryz.sizeOf3 rfl (.loadO rfl Tryz.isAgg3 rfl (i := 0) rfl rfl ?_)))))))
      refine .fieldAddr rfl Tryz.underlying69 rfl Tryz.sizeOf3 rfl (.loadO rfl Tryz.isAgg3 rfl (i := 0) rfl rfl (.fieldAddr rfl Tryz.underlying69 rfl Tryz.sizeOf3 rfl (.loadO rfl Tryz.isAgg3 rfl (i := 0) rfl rfl ?_)))
      refine .sliceLit (cs := [.int .i64 x101.Kind, .int .i64 x101.Day, .int .i64 x101.Cask, .int .i64 x101.Other, .int .i64 x101.Person, .int .i64 x101.To, .int .i64 x101.Amount, .int .i64 x101.Where]) (zc := [.int .i64 0, .int .i64 0, .int .i64 0, .int .i64 0, .int .i64 0, .int .i64 0, .int .i64 0, .int .i64 0]) rfl Tryz.underlying31 Tryz.sizeOf3 Tryz.zeroValue3 rfl rfl rfl (by kernel_rfl) (by kernel_rfl) (fun b112 F_113 l_114 hb115 => ?_)
      have h116 : RepSl 1 (Ex (cInt .i64)) F_113 (some ⟨b112, 0, none⟩) 8 ([x101.Kind, x101.Day, x101.Cask, x101.Other, x101.Person, x101.To, x101.Amount, x101.Where]) := RepSl.ofRow hb115 (.cons ok_t3.mono rfl (.cons ok_t3.mono rfl (.cons ok_t3.mono rfl (.cons ok_t3.mono rfl (.cons ok_t3.mono rfl (.cons ok_t3.mono rfl (.cons ok_t3.mono rfl (.cons ok_t3.mono rfl .nil)))))))) rfl rfl
      refine .callI [1, 1] rfl Tryz.call58 rfl rfl rfl rfl (c_file_Book_1 _ 2 ([x101.Kind, x101.Day, x101.Cask, x101.Other, x101.Person, x101.To, x101.Amount, x101.Where]) (some ⟨b112, 0, none⟩) 8 h116 _ l_114 b17 s94.2 p97 k98) (fun l_117 ⟨p120, k121⟩ F_118 _ _ l_119 hv122 => ?_)
      subst hv122
      refine .pick [2, 0, 0, 0] rfl (.nil (.block (.keep (.cons (k := 3) rfl (.cons (k := 10) rfl (.cons (k := 11) rfl (.cons (k := 79) rfl (.cons (k := 80) rfl (.cons (k := 81) rfl (.nil _))))))) (.code (.region (.add rfl rfl rfl (.move rfl rfl (.nil (.drop 0 ?_)))))))))
      exact .nil (LPost.norm fun a w h => ⟨F_118, p120, k121, (Fz.t l_96 (Fz.t l_114 l_119)), h.1.sub (.cons (k := 3) rfl (.cons (k := 10) rfl (.cons (k := 11) rfl (.cons (k := 79) rfl (.cons (k := 80) rfl (.cons (k := 81) rfl (.nil _))))))), h.2⟩)
     ·skip
      refine .exitOut rfl (LPost.exit fun a w h => ⟨rfl, F_95, p97, k98, l_96, h.1.sub (.cons (k := 3) rfl (.cons (k := 10) rfl (.cons (k := 11) rfl (.nil _)))), h.2⟩)
    ·intro b123 hb0 hk e a w hD
     obtain ⟨rfl, F_124, p126, k127, l_125, hA⟩ := hD
     refine interp_exit rfl (GE.app ?_ hk a w hA)
     refine .code (.seq (.seq (.region (.move rfl rfl (.lenS rfl rfl Tryz.underlying56 rfl (.move rfl rfl (.nil (.code (.block (.keep (.cons (k := 10) rfl (.cons (k := 11) rfl (.cons (k := 105) rfl (.cons (k := 106) rfl (.cons (k := 107) rfl (.nil _)))))) ?_))))))))))
     refine .loop (fun (s129 : Int × (List ApiBooked)) a w => ∃ (F_130 : Fz) (p132 : Option Addr) (k133 : Nat), F_124 ≤ F_130 ∧ Hd 131 [] [(10, (.pointer (some ⟨b17, 0, none⟩))), (11, (.func (.func 58) #[] [(.pointer (some ⟨b17, 0, none⟩))].toArray)), (105, (.slice p14 d13.length k15)), (106, (.int .i64 (d13.length : Int))), (107, (.int .i64 s129.1))] F_130 [ownSl 2 rApiBooked F_130 41 p132 k133 s129.2, pt b17 (.cells [(.slice p132 s129.2.length k133)].toArray 22), R] a w) (fun b158 e a w => e = .exit 6 ∧ ∃ (F_159 : Fz) (p161 : Option Addr) (k162 : Nat), F_124 ≤ F_159 ∧ Hd 131 [] [(10, (.pointer (some ⟨b17, 0, none⟩)))] F_159 [ownSl 2 rApiBooked F_159 41 p161 k162 b158, pt b17 (.cells [(.slice p161 b158.length k162)].toArray 22), R] a w) ?_ ?_ ?_
     ·exact fun a w h => ⟨F_124, p126, k127, Fz.r, h.1.sub (.cons (k := 10) rfl (.cons (k := 11) rfl (.cons (k := 105) rfl (.cons (k := 106) rfl (.cons (k := 107) rfl (.nil _)))))), h.2⟩
     ·intro s129 ctl
      refine GC.ex (fun a w ⟨F_130, p132, k133, l_131, hA⟩ => ⟨_, hA, ?_⟩)
      unfold b_file_Book_4
      refine .seq (.region (.lss rfl rfl rfl (.nil (.code (.seq (.cond rfl (fun hb135 => ?_) (fun hb135 => ?_)))))))
      ·skip
       refine .skip (.code (.seq (.block (.seq (.region (.idx rfl Tryz.underlying56 Tryz.sizeOf72 (h16.mono (Fz.t l_22 (Fz.t l_55 (Fz.t l_90 (Fz.t l_125 l_131))))) rfl rfl (fun x136 b137 o138 T139 fr140 cs141 e142 hm143 hv144 => ?_)))))))
       refine .loadFA rfl Tryz.isAgg72 Tryz.sizeOf72 rfl hm143 hv144 rfl (.alloc (cs := (cApiDutyEvent (ApiDutyEvent.mk 0 0 0 0 0 0))) rfl Tryz.zeroValue72 rfl (fun b146 => ?_))
       refine .store (cs' := (cApiDutyEvent x136)) Tryz.sizeOf72 rfl rfl rfl rfl (i := 0) rfl (Nat.le_of_ble_eq_true rfl) rfl (setMany_all (by rfl)) (.nil (.code (.region (.move rfl rfl (.fieldAddr rfl Tryz.underlying72 rfl Tryz.sizeOf3 rfl (.loadO rfl Tryz.isAgg3 rfl (i := 0) rfl rfl (.fieldAddr rfl Tryz.underlying72 rfl Tryz.sizeOf3 rfl (.loadO rfl Tryz.isAgg3 rfl (i := 0) rfl rfl ?_))))))))
       refine .fieldAddr rfl Tryz.underlying72 rfl Tryz.sizeOf3 rfl (.loadO rfl Tryz.isAgg3 rfl (i := 0) rfl rfl (.fieldAddr rfl Tryz.underlying72 rfl Tryz.sizeOf3 rfl (.loadO rfl Tryz.isAgg3 rfl (i := 0) rfl rfl (.fieldAddr rfl Tryz.underlying72 rfl Tryz.sizeOf3 rfl (.loadO rfl Tryz.isAgg3 rfl (i := 0) rfl rfl (.fieldAddr rfl Tryz.underlying72 rfl Tryz.sizeOf3 rfl (.loadO rfl Tryz.isAgg3 rfl (i := 0) rfl rfl ?_)))))))
       refine .sliceLit (cs := [.int .i64 x136.Kind, .int .i64 x136.Day, .int .i64 x136.Bond, .int .i64 x136.To, .int .i64 x136.Id, .int .i64 x136.Amount]) (zc := [.int .i64 0, .int .i64 0, .int .i64 0, .int .i64 0, .int .i64 0, .int .i64 0]) rfl Tryz.underlying31 Tryz.sizeOf3 Tryz.zeroValue3 rfl rfl rfl (by kernel_rfl) (by kernel_rfl) (fun b147 F_148 l_149 hb150 => ?_)
       have h151 : RepSl 1 (Ex (cInt .i64)) F_148 (some ⟨b147, 0, none⟩) 6 ([x136.Kind, x136.Day, x136.Bond, x136.To, x136.Id, x136.Amount]) := RepSl.ofRow hb150 (.cons ok_t3.mono rfl (.cons ok_t3.mono rfl (.cons ok_t3.mono rfl (.cons ok_t3.mono rfl (.cons ok_t3.mono rfl (.cons ok_t3.mono rfl .nil)))))) rfl rfl
       refine .callI [1, 1] rfl Tryz.call58 rfl rfl rfl rfl (c_file_Book_1 _ 3 ([x136.Kind, x136.Day, x136.Bond, x136.To, x136.Id, x136.Amount]) (some ⟨b147, 0, none⟩) 6 h151 _ l_149 b17 s129.2 p132 k133) (fun l_152 ⟨p155, k156⟩ F_153 _ _ l_154 hv157 => ?_)
       subst hv157
       refine .pick [2, 0, 0, 0] rfl (.nil (.block (.code (.region (.add rfl rfl rfl (.move rfl rfl (.nil (.drop 0 ?_))))))))
       exact .nil (LPost.norm fun a w h => ⟨F_153, p155, k156, (Fz.t l_131 (Fz.t l_149 l_154)), h.1.sub (.cons (k := 10) rfl (.cons (k := 11) rfl (.cons (k := 105) rfl (.cons (k := 106) rfl (.cons (k := 107) rfl (.nil _)))))), h.2⟩)
      ·skip
       refine .exitOut rfl (LPost.exit fun a w h => ⟨rfl, F_130, p132, k133, l_131, h.1.sub (.cons (k := 10) rfl (.nil _)), h.2⟩)
     ·intro b158 hb0 hk e a w hD
      obtain ⟨rfl, F_159, p161, k162, l_160, hA⟩ := hD
      refine interp_exit rfl (GE.app ?_ hk a w hA)
      refine .code (.seq (.seq (.region (.loadO rfl Tryz.isAgg22 rfl (i := 1) rfl rfl (.freezeSl 0 rfl Fz.r (fun F_164 l_165 h166 => ?_))))))
      refine .call0 rfl Tryz.call42 rfl rfl rfl (c_file_isBook _ b158 p161 k162 h166) ?_
      rintro r_169 F_167 _ - l_168 rfl
      refine .not rfl rfl (.nil (.code (.cond rfl (fun hb170 => ?_) (fun hb170 => ?_))))
      ·skip
       refine .seq (.region (.assign rfl rfl (.assign rfl rfl (.nil (.code ?_)))))
       exact .ret0 Tryz.results27 (.tmp rfl (.tmp rfl (.nil))) (i := 1) rfl (Fz.t l_22 (Fz.t l_55 (Fz.t l_90 (Fz.t l_125 (Fz.t l_160 (Fz.t l_165 l_168)))))) ⟨none, 0, rfl, (RepSl.nil.mono (Fz.t l_22 (Fz.t l_55 (Fz.t l_90 (Fz.t l_125 (Fz.t l_160 (Fz.t l_165 l_168)))))))⟩
      ·skip
       refine .skip (.code (.seq (.region (.loadO rfl Tryz.isAgg22 rfl (i := 0) rfl rfl (.assign rfl rfl (.assign rfl rfl (.nil (.code ?_))))))))
       exact .ret0 Tryz.results27 (.tmp rfl (.tmp rfl (.nil))) (i := 1) rfl (Fz.t l_22 (Fz.t l_55 (Fz.t l_90 (Fz.t l_125 (Fz.t l_160 (Fz.t l_165 l_168)))))) ⟨p161, k162, rfl, (h166.mono l_168)⟩
end Go.Proofs.YthnlglmjffdpfaaGreatDoor
end

section
namespace Go.Proofs.YthnlglmjffdpfaaGreatDoor
open Go.Dec Go.Shelf Go.RowKit Go.Maps Go.Sort
noncomputable def b_file_chosen_CaskEvent_1 (l_1 : (List ApiBooked)) (kind5 : Int) (of_6 : ((List Int) → Option ApiCaskEvent)) (s15 : (List ApiCaskEvent) × Int) : Option (Ctl ((List ApiCaskEvent) × Int) (((List ApiCaskEvent)))) :=
 if (decide (s15.2 < (l_1.length : Int))) then (((idxL l_1 s15.2).bind fun x22 => (if (x22.Kind == kind5) then ((of_6 x22.N).bind fun r_39 => (appO s15.1 ([r_39])).bind fun l_45 => some l_45) else (some s15.1) : Option ((List ApiCaskEvent))).bind fun j49 => some j49 : Option ((List ApiCaskEvent))).bind fun j55 => some (.next (j55, (w64 (s15.2 + 1))))) else (some (.done s15.1))
noncomputable def m_file_chosen_CaskEvent (l_1 : (List ApiBooked)) (kind5 : Int) (of_6 : ((List Int) → Option ApiCaskEvent)) : Option ((List ApiCaskEvent) × Int) :=
 (m_file_isBook l_1).bind fun r_12 => if (!r_12) then (some ([], 1)) else ((loopM (b_file_chosen_CaskEvent_1 l_1 kind5 of_6) ([], 0)).bind fun b61 => some (b61, 0))
set_option maxRecDepth 100000 in
set_option maxHeartbeats 4000000 in
theorem c_file_chosen_CaskEvent (F0 : Fz) (l_1 : (List ApiBooked)) (p2 : Option Addr) (k3 : Nat) (h4 : RepSl 2 rApiBooked F0 p2 k3 l_1) (kind5 : Int) (of_6 : ((List Int) → Option ApiCaskEvent)) (p7 : FuncId) (k8 : List Value) (h9 : RepFn Tryz.prog F0 p7 k8 (fun x F vs => ∃ p0 k0, vs = [(.slice p0 x.length k0)] ∧ RepSl 1 (Ex (cInt .i64)) F p0 k0 x) (fun r _ v => v = (eApiCaskEvent r)) of_6) : CT0 Tryz.prog 59 [(.slice p2 l_1.length k3), (.int .i64 kind5), (.func (.func p7) #[] k8.toArray)].toArray F0 (m_file_chosen_CaskEvent l_1 kind5 of_6) (fun r F v => ∃ (p0 : Option Addr) (k0 : Nat), v = .tuple #[(.slice p0 r.1.length k0), (.int .i64 r.2)] ∧ RepSl 8 (Ex cApiCaskEvent) F p0 k0 r.1) := by
 refine CT0.enter Tryz.func59 rfl Tryz.ntmps59 rfl fun r R => ?_
 unfold m_file_chosen_CaskEvent
 refine .seq (.region (.assign rfl rfl (.assign rfl rfl (.nil (.code (.seq (.seq (.region (.move rfl rfl (.call0 rfl Tryz.call42 rfl rfl rfl (c_file_isBook _ l_1 p2 k3 h4) ?_))))))))))
 rintro r_12 F_10 _ - l_11 rfl
 refine .not rfl rfl (.nil (.code (.cond rfl (fun hb13 => ?_) (fun hb13 => ?_))))
 ·skip
  refine .seq (.region (.assign rfl rfl (.assign rfl rfl (.nil (.code ?_)))))
  exact .ret0 Tryz.results59 (.tmp rfl (.tmp rfl (.nil))) (i := 0) rfl l_11 ⟨none, 0, rfl, (RepSl.nil.mono l_11)⟩
 ·skip
  refine .skip (.code (.seq (.region (.assign rfl rfl (.nil (.code (.seq (.seq (.region (.move rfl rfl (.lenS rfl rfl Tryz.underlying22 rfl ?_)))))))))))
  refine .move rfl rfl (.nil (.code (.block (.ownNil 8 (Ex cApiCaskEvent) 69 (.keep (.cons (k := 1) rfl (.cons (k := 2) rfl (.cons (k := 8) rfl (.cons (k := 14) rfl (.cons (k := 15) rfl (.cons (k := 16) rfl (.nil _))))))) ?_)))))
  refine .loop (fun (s15 : (List ApiCaskEvent) × Int) a w => ∃ (F_16 : Fz) (p18 : Option Addr) (k19 : Nat), F_10 ≤ F_16 ∧ Hd 33 [] [(1, (.int .i64 kind5)), (2, (.func (.func p7) #[] k8.toArray)), (8, (.slice p18 s15.1.length k19)), (14, (.slice p2 l_1.length k3)), (15, (.int .i64 (l_1.length : Int))), (16, (.int .i64 s15.2))] F_16 [ownSl 8 (Ex cApiCaskEvent) F_16 69 p18 k19 s15.1, R] a w) (fun b61 e a w => e = .exit 0 ∧ ∃ (F_62 : Fz) (p64 : Option Addr) (k65 : Nat), F_10 ≤ F_62 ∧ Hd 33 [] [(8, (.slice p64 b61.length k65))] F_62 [ownSl 8 (Ex cApiCaskEvent) F_62 69 p64 k65 b61, R] a w) ?_ ?_ ?_
  ·exact fun a w h => ⟨F_10, none, 0, Fz.r, h.1.sub (.cons (k := 1) rfl (.cons (k := 2) rfl (.cons (k := 8) rfl (.cons (k := 14) rfl (.cons (k := 15) rfl (.cons (k := 16) rfl (.nil _))))))), h.2⟩
  ·intro s15 ctl
   refine GC.ex (fun a w ⟨F_16, p18, k19, l_17, hA⟩ => ⟨_, hA, ?_⟩)
   unfold b_file_chosen_CaskEvent_1
   refine .seq (.region (.lss rfl rfl rfl (.nil (.code (.seq (.cond rfl (fun hb21 => ?_) (fun hb21 => ?_)))))))
   ·skip
    refine .skip (.code (.seq (.keep (.cons (k := 1) rfl (.cons (k := 2) rfl (.cons (k := 8) rfl (.cons (k := 14) rfl (.cons (k := 15) rfl (.cons (k := 16) rfl (.nil _))))))) ?_)))
    refine GC.join0 (σ := (List ApiCaskEvent)) (fun j55 a w => ∃ (F_56 : Fz) (p58 : Option Addr) (k59 : Nat), F_16 ≤ F_56 ∧ Hd 33 [] [(1, (.int .i64 kind5)), (2, (.func (.func p7) #[] k8.toArray)), (8, (.slice p58 j55.length k59)), (14, (.slice p2 l_1.length k3)), (15, (.int .i64 (l_1.length : Int))), (16, (.int .i64 s15.2))] F_56 [ownSl 8 (Ex cApiCaskEvent) F_56 69 p58 k59 j55, R] a w) (fun sj => ?_) (fun j55 hs0 => GE.ex (fun a w ⟨F_56, p58, k59, l_57, hA⟩ => ⟨_, hA, ?_⟩))
    ·skip
     refine .block (.seq (.region (.idx rfl Tryz.underlying22 Tryz.sizeOf41 (h4.mono (Fz.t l_11 l_17)) rfl rfl (fun x22 b23 o24 T25 fr26 cs27 e28 hm29 hv30 => ?_))))
     obtain ⟨p32, k33, hv30, h34⟩ := hv30
     refine .loadFA rfl Tryz.isAgg41 Tryz.sizeOf41 rfl hm29 hv30 rfl (.alloc (cs := (cApiBooked (ApiBooked.mk 0 ([])) none 0)) rfl Tryz.zeroValue41 rfl (fun b35 => ?_))
     refine .store (cs' := (cApiBooked x22 p32 k33)) Tryz.sizeOf41 rfl rfl rfl rfl (i := 0) rfl (Nat.le_of_ble_eq_true rfl) rfl (setMany_all (by rfl)) (.nil (.code (.seq (.region (.fieldAddr rfl Tryz.underlying41 rfl Tryz.sizeOf3 rfl (.loadO rfl Tryz.isAgg3 rfl (i := 0) rfl rfl (.move rfl rfl (.eql rfl rfl rfl (.nil (.code ?_))))))))))
     refine .keep (.cons (k := 1) rfl (.cons (k := 2) rfl (.cons (k := 8) rfl (.cons (k := 10) rfl (.cons (k := 14) rfl (.cons (k := 15) rfl (.cons (k := 16) rfl (.cons (k := 23) rfl (.nil _))))))))) ?_
     refine GC.join0 (σ := (List ApiCaskEvent)) (fun j49 a w => ∃ (F_50 : Fz) (p52 : Option Addr) (k53 : Nat), F_16 ≤ F_50 ∧ Hd 33 [] [(1, (.int .i64 kind5)), (2, (.func (.func p7) #[] k8.toArray)), (8, (.slice p52 j49.length k53)), (14, (.slice p2 l_1.length k3)), (15, (.int .i64 (l_1.length : Int))), (16, (.int .i64 s15.2))] F_50 [pt b35 (.cells (cApiBooked x22 p32 k33).toArray 41), ownSl 8 (Ex cApiCaskEvent) F_50 69 p52 k53 j49, R] a w) (fun sj => ?_) (fun j49 hs0 => GE.ex (fun a w ⟨F_50, p52, k53, l_51, hA⟩ => ⟨_, hA, ?_⟩))
     ·skip
      refine .cond rfl (fun hb36 => ?_) (fun hb36 => ?_)
      ·skip
       refine .region (.move rfl rfl (.move rfl rfl (.fieldAddr rfl Tryz.underlying41 rfl Tryz.sizeOf31 rfl (.loadO rfl Tryz.isAgg31 rfl (i := 0) rfl rfl (.call0 rfl h9.1 rfl rfl rfl (h9.2 _ (Fz.t l_11 l_17) x22.N [(.slice p32 x22.N.length k33)] ⟨_, _, rfl, h34⟩) ?_)))))
       rintro r_39 F_37 _ - l_38 rfl
       refine .sliceLit (cs := [.int .i64 r_39.Kind, .int .i64 r_39.Day, .int .i64 r_39.Cask, .int .i64 r_39.Other, .int .i64 r_39.Person, .int .i64 r_39.To, .int .i64 r_39.Amount, .int .i64 r_39.Where]) (zc := [.int .i64 (ApiCaskEvent.mk 0 0 0 0 0 0 0 0).Kind, .int .i64 (ApiCaskEvent.mk 0 0 0 0 0 0 0 0).Day, .int .i64 (ApiCaskEvent.mk 0 0 0 0 0 0 0 0).Cask, .int .i64 (ApiCaskEvent.mk 0 0 0 0 0 0 0 0).Other, .int .i64 (ApiCaskEvent.mk 0 0 0 0 0 0 0 0).Person, .int .i64 (ApiCaskEvent.mk 0 0 0 0 0 0 0 0).To, .int .i64 (ApiCaskEvent.mk 0 0 0 0 0 0 0 0).Amount, .int .i64 (ApiCaskEvent.mk 0 0 0 0 0 0 0 0).Where]) rfl Tryz.underlying58 Tryz.sizeOf69 Tryz.zeroValue69 rfl rfl rfl (by kernel_rfl) (by kernel_rfl) (fun b40 F_41 l_42 hb43 => ?_)
       have h44 : RepSl 8 (Ex cApiCaskEvent) F_41 (some ⟨b40, 0, none⟩) 1 ([r_39]) := RepSl.ofRow hb43 (.cons ok_t69.mono rfl .nil) rfl rfl
       refine .append 1 ok_t69 (Fz.t l_38 l_42) rfl Tryz.underlying58 Tryz.underlying58 rfl rfl rfl h44 rfl rfl (fun l_45 p46 k47 e48 => ?_)
       refine .assign rfl rfl (.nil ?_)
       exact .nil fun e a w h => by cases e; exact ⟨rfl, ⟨F_41, p46, k47, (Fz.t l_38 l_42), h.1.sub (.cons (k := 1) rfl (.cons (k := 2) rfl (.cons (k := 8) rfl (.cons (k := 14) rfl (.cons (k := 15) rfl (.cons (k := 16) rfl (.nil _))))))), h.2⟩⟩
      ·skip
       refine .skip ?_
       exact .nil fun e a w h => by cases e; exact ⟨rfl, ⟨F_16, p18, k19, Fz.r, h.1.sub (.cons (k := 1) rfl (.cons (k := 2) rfl (.cons (k := 8) rfl (.cons (k := 14) rfl (.cons (k := 15) rfl (.cons (k := 16) rfl (.nil _))))))), h.2⟩⟩
     refine .block (.drop 0 ?_)
     exact .nil fun e a w h => by cases e; exact ⟨rfl, ⟨F_50, p52, k53, l_51, h.1.sub (.cons (k := 1) rfl (.cons (k := 2) rfl (.cons (k := 8) rfl (.cons (k := 14) rfl (.cons (k := 15) rfl (.cons (k := 16) rfl (.nil _))))))), h.2⟩⟩
    refine .code (.region (.add rfl rfl rfl (.move rfl rfl (.nil ?_))))
    exact .nil (LPost.norm fun a w h => ⟨F_56, p58, k59, (Fz.t l_17 l_57), h.1.sub (.cons (k := 1) rfl (.cons (k := 2) rfl (.cons (k := 8) rfl (.cons (k := 14) rfl (.cons (k := 15) rfl (.cons (k := 16) rfl (.nil _))))))), h.2⟩)
   ·skip
    refine .exitOut rfl (LPost.exit fun a w h => ⟨rfl, F_16, p18, k19, l_17, h.1.sub (.cons (k := 8) rfl (.nil _)), h.2⟩)
  ·intro b61 hb0 hk e a w hD
   obtain ⟨rfl, F_62, p64, k65, l_63, hA⟩ := hD
   refine interp_exit rfl (GE.app ?_ hk a w hA)
   refine .code (.seq (.region (.move rfl rfl (.assign rfl rfl (.assign rfl rfl (.nil (.code (.freezeSl 0 rfl Fz.r (fun F_67 l_68 h69 => ?_)))))))))
   exact .ret0 Tryz.results59 (.tmp rfl (.tmp rfl (.nil))) (i := 0) rfl (Fz.t l_11 (Fz.t l_63 l_68)) ⟨p64, k65, rfl, h69⟩
noncomputable def m_file_Casks_1 (n_1 : (List Int)) : Option ApiCaskEvent :=
 (idxL n_1 0).bind fun x6 => (idxL n_1 1).bind fun x16 => (idxL n_1 2).bind fun x26 => (idxL n_1 3).bind fun x36 => (idxL n_1 4).bind fun x46 => (idxL n_1 5).bind fun x56 => (idxL n_1 6).bind fun x66 => (idxL n_1 7).bind fun x76 => some (ApiCaskEvent.mk x6 x16 x26 x36 x46 x56 x66 x76)
set_option maxRecDepth 100000 in
set_option maxHeartbeats 4000000 in
theorem c_file_Casks_1 (F0 : Fz) (n_1 : (List Int)) (p2 : Option Addr) (k3 : Nat) (h4 : RepSl 1 (Ex (cInt .i64)) F0 p2 k3 n_1) : CT0 Tryz.prog 60 [(.slice p2 n_1.length k3)].toArray F0 (m_file_Casks_1 n_1) (fun r _ v => v = (eApiCaskEvent r)) := by
 refine CT0.enter Tryz.func60 rfl Tryz.ntmps60 rfl fun r R => ?_
 unfold m_file_Casks_1
 refine .seq (.region (.alloc (cs := (cApiCaskEvent (ApiCaskEvent.mk 0 0 0 0 0 0 0 0))) rfl Tryz.zeroValue69 rfl (fun b5 => ?_)))
 refine .nil (.code (.seq (.keep (.cons (k := 0) rfl (.cons (k := 2) rfl (.nil _))) (.drawZ 25 mixedOK (by kernel_rfl) (.move rfl rfl (.idx rfl Tryz.underlying31 Tryz.sizeOf3 h4 rfl rfl (fun x6 b7 o8 T9 fr10 cs11 e12 hm13 hv14 => ?_)))))))
 refine .loadF rfl Tryz.isAgg3 rfl hm13 (cell_of_take (k := 0) hv14 rfl) (.move rfl rfl (.idx rfl Tryz.underlying31 Tryz.sizeOf3 h4 rfl rfl (fun x16 b17 o18 T19 fr20 cs21 e22 hm23 hv24 => ?_)))
 refine .loadF rfl Tryz.isAgg3 rfl hm23 (cell_of_take (k := 0) hv24 rfl) (.move rfl rfl (.idx rfl Tryz.underlying31 Tryz.sizeOf3 h4 rfl rfl (fun x26 b27 o28 T29 fr30 cs31 e32 hm33 hv34 => ?_)))
 refine .loadF rfl Tryz.isAgg3 rfl hm33 (cell_of_take (k := 0) hv34 rfl) (.move rfl rfl (.idx rfl Tryz.underlying31 Tryz.sizeOf3 h4 rfl rfl (fun x36 b37 o38 T39 fr40 cs41 e42 hm43 hv44 => ?_)))
 refine .loadF rfl Tryz.isAgg3 rfl hm43 (cell_of_take (k := 0) hv44 rfl) (.move rfl rfl (.idx rfl Tryz.underlying31 Tryz.sizeOf3 h4 rfl rfl (fun x46 b47 o48 T49 fr50 cs51 e52 hm53 hv54 => ?_)))
 refine .loadF rfl Tryz.isAgg3 rfl hm53 (cell_of_take (k := 0) hv54 rfl) (.move rfl rfl (.idx rfl Tryz.underlying31 Tryz.sizeOf3 h4 rfl rfl (fun x56 b57 o58 T59 fr60 cs61 e62 hm63 hv64 => ?_)))
 refine .loadF rfl Tryz.isAgg3 rfl hm63 (cell_of_take (k := 0) hv64 rfl) (.move rfl rfl (.idx rfl Tryz.underlying31 Tryz.sizeOf3 h4 rfl rfl (fun x66 b67 o68 T69 fr70 cs71 e72 hm73 hv74 => ?_)))
 refine .loadF rfl Tryz.isAgg3 rfl hm73 (cell_of_take (k := 0) hv74 rfl) (.move rfl rfl (.idx rfl Tryz.underlying31 Tryz.sizeOf3 h4 rfl rfl (fun x76 b77 o78 T79 fr80 cs81 e82 hm83 hv84 => ?_)))
 refine .loadF rfl Tryz.isAgg3 rfl hm83 (cell_of_take (k := 0) hv84 rfl) (.build (cs := (cApiCaskEvent (ApiCaskEvent.mk x6 x16 x26 x36 x46 x56 x66 x76)).toArray) rfl Tryz.underlying69 Tryz.zeroValue69 (plApiCaskEvent _ Tryz.underlying69) rfl rfl (by kernel_rfl) (.pend ?_))
 refine .store (cs' := (cApiCaskEvent (ApiCaskEvent.mk x6 x16 x26 x36 x46 x56 x66 x76))) Tryz.sizeOf69 rfl rfl rfl rfl (i := 0) rfl (Nat.le_of_ble_eq_true rfl) rfl (setMany_all (by rfl)) (.nil (.keep (.cons (k := 2) rfl (.nil _)) (.code ?_)))
 exact .ret0 Tryz.results60 (.agg rfl Tryz.isAgg69 Tryz.sizeOf69 (i := 0) rfl (vs' := (cApiCaskEvent (ApiCaskEvent.mk x6 x16 x26 x36 x46 x56 x66 x76))) (by kernel_rfl) rfl (.nil)) (i := 1) rfl Fz.r rfl
noncomputable def m_file_Casks (l_1 : (List ApiBooked)) : Option ((List ApiCaskEvent) × Int) :=
 (m_file_chosen_CaskEvent l_1 2 (fun x => m_file_Casks_1 x)).bind fun r_8 => some (r_8.1, r_8.2)
set_option maxRecDepth 100000 in
set_option maxHeartbeats 4000000 in
theorem c_file_Casks (F0 : Fz) (l_1 : (List ApiBooked)) (p2 : Option Addr) (k3 : Nat) (h4 : RepSl 2 rApiBooked F0 p2 k3 l_1) : CT0 Tryz.prog 28 [(.slice p2 l_1.length k3)].toArray F0 (m_file_Casks l_1) (fun r F v => ∃ (p0 : Option Addr) (k0 : Nat), v = .tuple #[(.slice p0 r.1.length k0), (.int .i64 r.2)] ∧ RepSl 8 (Ex cApiCaskEvent) F p0 k0 r.1) := by
 refine CT0.enter Tryz.func28 rfl Tryz.ntmps28 rfl fun r R => ?_
 unfold m_file_Casks
 refine .seq (.region (.assign rfl rfl (.assign rfl rfl (.nil (.code (.seq (.region (.move rfl rfl ?_))))))))
 have hf5 : RepFn Tryz.prog F0 60 [] (fun x F vs => ∃ p0 k0, vs = [(.slice p0 x.length k0)] ∧ RepSl 1 (Ex (cInt .i64)) F p0 k0 x) (fun r _ v => v = (eApiCaskEvent r)) (fun x => m_file_Casks_1 x) := ⟨Tryz.call60, fun F' le' x vs hv => by obtain ⟨_, _, rfl, hq0⟩ := hv; exact c_file_Casks_1 F' x _ _ hq0⟩
 refine .call0 rfl Tryz.call59 rfl rfl rfl (c_file_chosen_CaskEvent _ l_1 p2 k3 h4 2 (fun x => m_file_Casks_1 x) 60 ([]) hf5) ?_
 rintro r_8 F_6 _ - l_7 ⟨p9, k10, rfl, h11⟩
 refine .extract rfl rfl rfl (.extract rfl rfl rfl (.assign rfl rfl (.assign rfl rfl (.nil (.code ?_)))))
 exact .ret0 Tryz.results28 (.tmp rfl (.tmp rfl (.nil))) (i := 0) rfl l_7 ⟨p9, k10, rfl, h11⟩
noncomputable def b_file_chosen_DutyEvent_1 (l_1 : (List ApiBooked)) (kind5 : Int) (of_6 : ((List Int) → Option ApiDutyEvent)) (s15 : (List ApiDutyEvent) × Int) : Option (Ctl ((List ApiDutyEvent) × Int) (((List ApiDutyEvent)))) :=
 if (decide (s15.2 < (l_1.length : Int))) then (((idxL l_1 s15.2).bind fun x22 => (if (x22.Kind == kind5) then ((of_6 x22.N).bind fun r_39 => (appO s15.1 ([r_39])).bind fun l_45 => some l_45) else (some s15.1) : Option ((List ApiDutyEvent))).bind fun j49 => some j49 : Option ((List ApiDutyEvent))).bind fun j55 => some (.next (j55, (w64 (s15.2 + 1))))) else (some (.done s15.1))
noncomputable def m_file_chosen_DutyEvent (l_1 : (List ApiBooked)) (kind5 : Int) (of_6 : ((List Int) → Option ApiDutyEvent)) : Option ((List ApiDutyEvent) × Int) :=
 (m_file_isBook l_1).bind fun r_12 => if (!r_12) then (some ([], 1)) else ((loopM (b_file_chosen_DutyEvent_1 l_1 kind5 of_6) ([], 0)).bind fun b61 => some (b61, 0))
set_option maxRecDepth 100000 in
set_option maxHeartbeats 4000000 in
theorem c_file_chosen_DutyEvent (F0 : Fz) (l_1 : (List ApiBooked)) (p2 : Option Addr) (k3 : Nat) (h4 : RepSl 2 rApiBooked F0 p2 k3 l_1) (kind5 : Int) (of_6 : ((List Int) → Option ApiDutyEvent)) (p7 : FuncId) (k8 : List Value) (h9 : RepFn Tryz.prog F0 p7 k8 (fun x F vs => ∃ p0 k0, vs = [(.slice p0 x.length k0)] ∧ RepSl 1 (Ex (cInt .i64)) F p0 k0 x) (fun r _ v => v = (eApiDutyEvent r)) of_6) : CT0 Tryz.prog 61 [(.slice p2 l_1.length k3), (.int .i64 kind5), (.func (.func p7) #[] k8.toArray)].toArray F0 (m_file_chosen_DutyEvent l_1 kind5 of_6) (fun r F v => ∃ (p0 : Option Addr) (k0 : Nat), v = .tuple #[(.slice p0 r.1.length k0), (.int .i64 r.2)] ∧ RepSl 6 (Ex cApiDutyEvent) F p0 k0 r.1) := by
 refine CT0.enter Tryz.func61 rfl Tryz.ntmps61 rfl fun r R => ?_
 unfold m_file_chosen_DutyEvent
 refine .seq (.region (.assign rfl rfl (.assign rfl rfl (.nil (.code (.seq (.seq (.region (.move rfl rfl (.call0 rfl Tryz.call42 rfl rfl rfl (c_file_isBook _ l_1 p2 k3 h4) ?_))))))))))
 rintro r_12 F_10 _ - l_11 rfl
 refine .not rfl rfl (.nil (.code (.cond rfl (fun hb13 => ?_) (fun hb13 => ?_))))
 ·skip
  refine .seq (.region (.assign rfl rfl (.assign rfl rfl (.nil (.code ?_)))))
  exact .ret0 Tryz.results61 (.tmp rfl (.tmp rfl (.nil))) (i := 0) rfl l_11 ⟨none, 0, rfl, (RepSl.nil.mono l_11)⟩
 ·skip
  refine .skip (.code (.seq (.region (.assign rfl rfl (.nil (.code (.seq (.seq (.region (.move rfl rfl (.lenS rfl rfl Tryz.underlying22 rfl ?_)))))))))))
  refine .move rfl rfl (.nil (.code (.block (.ownNil 6 (Ex cApiDutyEvent) 72 (.keep (.cons (k := 1) rfl (.cons (k := 2) rfl (.cons (k := 8) rfl (.cons (k := 14) rfl (.cons (k := 15) rfl (.cons (k := 16) rfl (.nil _))))))) ?_)))))
  refine .loop (fun (s15 : (List ApiDutyEvent) × Int) a w => ∃ (F_16 : Fz) (p18 : Option Addr) (k19 : Nat), F_10 ≤ F_16 ∧ Hd 33 [] [(1, (.int .i64 kind5)), (2, (.func (.func p7) #[] k8.toArray)), (8, (.slice p18 s15.1.length k19)), (14, (.slice p2 l_1.length k3)), (15, (.int .i64 (l_1.length : Int))), (16, (.int .i64 s15.2))] F_16 [ownSl 6 (Ex cApiDutyEvent) F_16 72 p18 k19 s15.1, R] a w) (fun b61 e a w => e = .exit 0 ∧ ∃ (F_62 : Fz) (p64 : Option Addr) (k65 : Nat), F_10 ≤ F_62 ∧ Hd 33 [] [(8, (.slice p64 b61.length k65))] F_62 [ownSl 6 (Ex cApiDutyEvent) F_62 72 p64 k65 b61, R] a w) ?_ ?_ ?_
  ·exact fun a w h => ⟨F_10, none, 0, Fz.r, h.1.sub (.cons (k := 1) rfl (.cons (k := 2) rfl (.cons (k := 8) rfl (.cons (k := 14) rfl (.cons (k := 15) rfl (.cons (k := 16) rfl (.nil _))))))), h.2⟩
  ·intro s15 ctl
   refine GC.ex (fun a w ⟨F_16, p18, k19, l_17, hA⟩ => ⟨_, hA, ?_⟩)
   unfold b_file_chosen_DutyEvent_1
   refine .seq (.region (.lss rfl rfl rfl (.nil (.code (.seq (.cond rfl (fun hb21 => ?_) (fun hb21 => ?_)))))))
   ·skip
    refine .skip (.code (.seq (.keep (.cons (k := 1) rfl (.cons (k := 2) rfl (.cons (k := 8) rfl (.cons (k := 14) rfl (.cons (k := 15) rfl (.cons (k := 16) rfl (.nil _))))))) ?_)))
    refine GC.join0 (σ := (List ApiDutyEvent)) (fun j55 a w => ∃ (F_56 : Fz) (p58 : Option Addr) (k59 : Nat), F_16 ≤ F_56 ∧ Hd 33 [] [(1, (.int .i64 kind5)), (2, (.func (.func p7) #[] k8.toArray)), (8, (.slice p58 j55.length k59)), (14, (.slice p2 l_1.length k3)), (15, (.int .i64 (l_1.length : Int))), (16, (.int .i64 s15.2))] F_56 [ownSl 6 (Ex cApiDutyEvent) F_56 72 p58 k59 j55, R] a w) (fun sj => ?_) (fun j55 hs0 => GE.ex (fun a w ⟨F_56, p58, k59, l_57, hA⟩ => ⟨_, hA, ?_⟩))
    ·skip
     refine .block (.seq (.region (.idx rfl Tryz.underlying22 Tryz.sizeOf41 (h4.mono (Fz.t l_11 l_17)) rfl rfl (fun x22 b23 o24 T25 fr26 cs27 e28 hm29 hv30 => ?_))))
     obtain ⟨p32, k33, hv30, h34⟩ := hv30
     refine .loadFA rfl Tryz.isAgg41 Tryz.sizeOf41 rfl hm29 hv30 rfl (.alloc (cs := (cApiBooked (ApiBooked.mk 0 ([])) none 0)) rfl Tryz.zeroValue41 rfl (fun b35 => ?_))
     refine .store (cs' := (cApiBooked x22 p32 k33)) Tryz.sizeOf41 rfl rfl rfl rfl (i := 0) rfl (Nat.le_of_ble_eq_true rfl) rfl (setMany_all (by rfl)) (.nil (.code (.seq (.region (.fieldAddr rfl Tryz.underlying41 rfl Tryz.sizeOf3 rfl (.loadO rfl Tryz.isAgg3 rfl (i := 0) rfl rfl (.move rfl rfl (.eql rfl rfl rfl (.nil (.code ?_))))))))))
     refine .keep (.cons (k := 1) rfl (.cons (k := 2) rfl (.cons (k := 8) rfl (.cons (k := 10) rfl (.cons (k := 14) rfl (.cons (k := 15) rfl (.cons (k := 16) rfl (.cons (k := 23) rfl (.nil _))))))))) ?_
     refine GC.join0 (σ := (List ApiDutyEvent)) (fun j49 a w => ∃ (F_50 : Fz) (p52 : Option Addr) (k53 : Nat), F_16 ≤ F_50 ∧ Hd 33 [] [(1, (.int .i64 kind5)), (2, (.func (.func p7) #[] k8.toArray)), (8, (.slice p52 j49.length k53)), (14, (.slice p2 l_1.length k3)), (15, (.int .i64 (l_1.length : Int))), (16, (.int .i64 s15.2))] F_50 [pt b35 (.cells (cApiBooked x22 p32 k33).toArray 41), ownSl 6 (Ex cApiDutyEvent) F_50 72 p52 k53 j49, R] a w) (fun sj => ?_) (fun j49 hs0 => GE.ex (fun a w ⟨F_50, p52, k53, l_51, hA⟩ => ⟨_, hA, ?_⟩))
     ·skip
      refine .cond rfl (fun hb36 => ?_) (fun hb36 => ?_)
      ·skip
       refine .region (.move rfl rfl (.move rfl rfl (.fieldAddr rfl Tryz.underlying41 rfl Tryz.sizeOf31 rfl (.loadO rfl Tryz.isAgg31 rfl (i := 0) rfl rfl (.call0 rfl h9.1 rfl rfl rfl (h9.2 _ (Fz.t l_11 l_17) x22.N [(.slice p32 x22.N.length k33)] ⟨_, _, rfl, h34⟩) ?_)))))
       rintro r_39 F_37 _ - l_38 rfl
       refine .sliceLit (cs := [.int .i64 r_39.Kind, .int .i64 r_39.Day, .int .i64 r_39.Bond, .int .i64 r_39.To, .int .i64 r_39.Id, .int .i64 r_39.Amount]) (zc := [.int .i64 (ApiDutyEvent.mk 0 0 0 0 0 0).Kind, .int .i64 (ApiDutyEvent.mk 0 0 0 0 0 0).Day, .int .i64 (ApiDutyEvent.mk 0 0 0 0 0 0).Bond, .int .i64 (ApiDutyEvent.mk 0 0 0 0 0 0).To, .int .i64 (ApiDutyEvent.mk 0 0 0 0 0 0).Id, .int .i64 (ApiDutyEvent.mk 0 0 0 0 0 0).Amount]) rfl Tryz.underlying56 Tryz.sizeOf72 Tryz.zeroValue72 rfl rfl rfl (by kernel_rfl) (by kernel_rfl) (fun b40 F_41 l_42 hb43 => ?_)
       have h44 : RepSl 6 (Ex cApiDutyEvent) F_41 (some ⟨b40, 0, none⟩) 1 ([r_39]) := RepSl.ofRow hb43 (.cons ok_t72.mono rfl .nil) rfl rfl
       refine .append 1 ok_t72 (Fz.t l_38 l_42) rfl Tryz.underlying56 Tryz.underlying56 rfl rfl rfl h44 rfl rfl (fun l_45 p46 k47 e48 => ?_)
       refine .assign rfl rfl (.nil ?_)
       exact .nil fun e a w h => by cases e; exact ⟨rfl, ⟨F_41, p46, k47, (Fz.t l_38 l_42), h.1.sub (.cons (k := 1) rfl (.cons (k := 2) rfl (.cons (k := 8) rfl (.cons (k := 14) rfl (.cons (k := 15) rfl (.cons (k := 16) rfl (.nil _))))))), h.2⟩⟩
      ·skip
       refine .skip ?_
       exact .nil fun e a w h => by cases e; exact ⟨rfl, ⟨F_16, p18, k19, Fz.r, h.1.sub (.cons (k := 1) rfl (.cons (k := 2) rfl (.cons (k := 8) rfl (.cons (k := 14) rfl (.cons (k := 15) rfl (.cons (k := 16) rfl (.nil _))))))), h.2⟩⟩
     refine .block (.drop 0 ?_)
     exact .nil fun e a w h => by cases e; exact ⟨rfl, ⟨F_50, p52, k53, l_51, h.1.sub (.cons (k := 1) rfl (.cons (k := 2) rfl (.cons (k := 8) rfl (.cons (k := 14) rfl (.cons (k := 15) rfl (.cons (k := 16) rfl (.nil _))))))), h.2⟩⟩
    refine .code (.region (.add rfl rfl rfl (.move rfl rfl (.nil ?_))))
    exact .nil (LPost.norm fun a w h => ⟨F_56, p58, k59, (Fz.t l_17 l_57), h.1.sub (.cons (k := 1) rfl (.cons (k := 2) rfl (.cons (k := 8) rfl (.cons (k := 14) rfl (.cons (k := 15) rfl (.cons (k := 16) rfl (.nil _))))))), h.2⟩)
   ·skip
    refine .exitOut rfl (LPost.exit fun a w h => ⟨rfl, F_16, p18, k19, l_17, h.1.sub (.cons (k := 8) rfl (.nil _)), h.2⟩)
  ·intro b61 hb0 hk e a w hD
   obtain ⟨rfl, F_62, p64, k65, l_63, hA⟩ := hD
   refine interp_exit rfl (GE.app ?_ hk a w hA)
   refine .code (.seq (.region (.move rfl rfl (.assign rfl rfl (.assign rfl rfl (.nil (.code (.freezeSl 0 rfl Fz.r (fun F_67 l_68 h69 => ?_)))))))))
   exact .ret0 Tryz.results61 (.tmp rfl (.tmp rfl (.nil))) (i := 0) rfl (Fz.t l_11 (Fz.t l_63 l_68)) ⟨p64, k65, rfl, h69⟩
noncomputable def m_file_Duties_1 (n_1 : (List Int)) : Option ApiDutyEvent :=
 (idxL n_1 0).bind fun x6 => (idxL n_1 1).bind fun x16 => (idxL n_1 2).bind fun x26 => (idxL n_1 3).bind fun x36 => (idxL n_1 4).bind fun x46 => (idxL n_1 5).bind fun x56 => some (ApiDutyEvent.mk x6 x16 x26 x36 x46 x56)
set_option maxRecDepth 100000 in
set_option maxHeartbeats 4000000 in
theorem c_file_Duties_1 (F0 : Fz) (n_1 : (List Int)) (p2 : Option Addr) (k3 : Nat) (h4 : RepSl 1 (Ex (cInt .i64)) F0 p2 k3 n_1) : CT0 Tryz.prog 62 [(.slice p2 n_1.length k3)].toArray F0 (m_file_Duties_1 n_1) (fun r _ v => v = (eApiDutyEvent r)) := by
 refine CT0.enter Tryz.func62 rfl Tryz.ntmps62 rfl fun r R => ?_
 unfold m_file_Duties_1
 refine .seq (.region (.alloc (cs := (cApiDutyEvent (ApiDutyEvent.mk 0 0 0 0 0 0))) rfl Tryz.zeroValue72 rfl (fun b5 => ?_)))
 refine .nil (.code (.seq (.keep (.cons (k := 0) rfl (.cons (k := 2) rfl (.nil _))) (.drawZ 19 mixedOK (by kernel_rfl) (.move rfl rfl (.idx rfl Tryz.underlying31 Tryz.sizeOf3 h4 rfl rfl (fun x6 b7 o8 T9 fr10 cs11 e12 hm13 hv14 => ?_)))))))
 refine .loadF rfl Tryz.isAgg3 rfl hm13 (cell_of_take (k := 0) hv14 rfl) (.move rfl rfl (.idx rfl Tryz.underlying31 Tryz.sizeOf3 h4 rfl rfl (fun x16 b17 o18 T19 fr20 cs21 e22 hm23 hv24 => ?_)))
 refine .loadF rfl Tryz.isAgg3 rfl hm23 (cell_of_take (k := 0) hv24 rfl) (.move rfl rfl (.idx rfl Tryz.underlying31 Tryz.sizeOf3 h4 rfl rfl (fun x26 b27 o28 T29 fr30 cs31 e32 hm33 hv34 => ?_)))
 refine .loadF rfl Tryz.isAgg3 rfl hm33 (cell_of_take (k := 0) hv34 rfl) (.move rfl rfl (.idx rfl Tryz.underlying31 Tryz.sizeOf3 h4 rfl rfl (fun x36 b37 o38 T39 fr40 cs41 e42 hm43 hv44 => ?_)))
 refine .loadF rfl Tryz.isAgg3 rfl hm43 (cell_of_take (k := 0) hv44 rfl) (.move rfl rfl (.idx rfl Tryz.underlying31 Tryz.sizeOf3 h4 rfl rfl (fun x46 b47 o48 T49 fr50 cs51 e52 hm53 hv54 => ?_)))
 refine .loadF rfl Tryz.isAgg3 rfl hm53 (cell_of_take (k := 0) hv54 rfl) (.move rfl rfl (.idx rfl Tryz.underlying31 Tryz.sizeOf3 h4 rfl rfl (fun x56 b57 o58 T59 fr60 cs61 e62 hm63 hv64 => ?_)))
 refine .loadF rfl Tryz.isAgg3 rfl hm63 (cell_of_take (k := 0) hv64 rfl) (.build (cs := (cApiDutyEvent (ApiDutyEvent.mk x6 x16 x26 x36 x46 x56)).toArray) rfl Tryz.underlying72 Tryz.zeroValue72 (plApiDutyEvent _ Tryz.underlying72) rfl rfl (by kernel_rfl) (.pend ?_))
 refine .store (cs' := (cApiDutyEvent (ApiDutyEvent.mk x6 x16 x26 x36 x46 x56))) Tryz.sizeOf72 rfl rfl rfl rfl (i := 0) rfl (Nat.le_of_ble_eq_true rfl) rfl (setMany_all (by rfl)) (.nil (.code ?_))
 exact .ret0 Tryz.results62 (.agg rfl Tryz.isAgg72 Tryz.sizeOf72 (i := 0) rfl (vs' := (cApiDutyEvent (ApiDutyEvent.mk x6 x16 x26 x36 x46 x56))) (by kernel_rfl) rfl (.nil)) (i := 1) rfl Fz.r rfl
noncomputable def m_file_Duties (l_1 : (List ApiBooked)) : Option ((List ApiDutyEvent) × Int) :=
 (m_file_chosen_DutyEvent l_1 3 (fun x => m_file_Duties_1 x)).bind fun r_8 => some (r_8.1, r_8.2)
set_option maxRecDepth 100000 in
set_option maxHeartbeats 4000000 in
theorem c_file_Duties (F0 : Fz) (l_1 : (List ApiBooked)) (p2 : Option Addr) (k3 : Nat) (h4 : RepSl 2 rApiBooked F0 p2 k3 l_1) : CT0 Tryz.prog 29 [(.slice p2 l_1.length k3)].toArray F0 (m_file_Duties l_1) (fun r F v => ∃ (p0 : Option Addr) (k0 : Nat), v = .tuple #[(.slice p0 r.1.length k0), (.int .i64 r.2)] ∧ RepSl 6 (Ex cApiDutyEvent) F p0 k0 r.1) := by
 refine CT0.enter Tryz.func29 rfl Tryz.ntmps29 rfl fun r R => ?_
 unfold m_file_Duties
 refine .seq (.region (.assign rfl rfl (.assign rfl rfl (.nil (.code (.seq (.region (.move rfl rfl ?_))))))))
 have hf5 : RepFn Tryz.prog F0 62 [] (fun x F vs => ∃ p0 k0, vs = [(.slice p0 x.length k0)] ∧ RepSl 1 (Ex (cInt .i64)) F p0 k0 x) (fun r _ v => v = (eApiDutyEvent r)) (fun x => m_file_Duties_1 x) := ⟨Tryz.call62, fun F' le' x vs hv => by obtain ⟨_, _, rfl, hq0⟩ := hv; exact c_file_Duties_1 F' x _ _ hq0⟩
 refine .call0 rfl Tryz.call61 rfl rfl rfl (c_file_chosen_DutyEvent _ l_1 p2 k3 h4 3 (fun x => m_file_Duties_1 x) 62 ([]) hf5) ?_
 rintro r_8 F_6 _ - l_7 ⟨p9, k10, rfl, h11⟩
 refine .extract rfl rfl rfl (.extract rfl rfl rfl (.assign rfl rfl (.assign rfl rfl (.nil (.code ?_)))))
 exact .ret0 Tryz.results29 (.tmp rfl (.tmp rfl (.nil))) (i := 0) rfl l_7 ⟨p9, k10, rfl, h11⟩
noncomputable def b_file_chosen_MaltStep_1 (l_1 : (List ApiBooked)) (kind5 : Int) (of_6 : ((List Int) → Option ApiMaltStep)) (s15 : (List ApiMaltStep) × Int) : Option (Ctl ((List ApiMaltStep) × Int) (((List ApiMaltStep)))) :=
 if (decide (s15.2 < (l_1.length : Int))) then (((idxL l_1 s15.2).bind fun x22 => (if (x22.Kind == kind5) then ((of_6 x22.N).bind fun r_39 => (appO s15.1 ([r_39])).bind fun l_45 => some l_45) else (some s15.1) : Option ((List ApiMaltStep))).bind fun j49 => some j49 : Option ((List ApiMaltStep))).bind fun j55 => some (.next (j55, (w64 (s15.2 + 1))))) else (some (.done s15.1))
noncomputable def m_file_chosen_MaltStep (l_1 : (List ApiBooked)) (kind5 : Int) (of_6 : ((List Int) → Option ApiMaltStep)) : Option ((List ApiMaltStep) × Int) :=
 (m_file_isBook l_1).bind fun r_12 => if (!r_12) then (some ([], 1)) else ((loopM (b_file_chosen_MaltStep_1 l_1 kind5 of_6) ([], 0)).bind fun b61 => some (b61, 0))
set_option maxRecDepth 100000 in
set_option maxHeartbeats 4000000 in
theorem c_file_chosen_MaltStep (F0 : Fz) (l_1 : (List ApiBooked)) (p2 : Option Addr) (k3 : Nat) (h4 : RepSl 2 rApiBooked F0 p2 k3 l_1) (kind5 : Int) (of_6 : ((List Int) → Option ApiMaltStep)) (p7 : FuncId) (k8 : List Value) (h9 : RepFn Tryz.prog F0 p7 k8 (fun x F vs => ∃ p0 k0, vs = [(.slice p0 x.length k0)] ∧ RepSl 1 (Ex (cInt .i64)) F p0 k0 x) (fun r _ v => v = (eApiMaltStep r)) of_6) : CT0 Tryz.prog 63 [(.slice p2 l_1.length k3), (.int .i64 kind5), (.func (.func p7) #[] k8.toArray)].toArray F0 (m_file_chosen_MaltStep l_1 kind5 of_6) (fun r F v => ∃ (p0 : Option Addr) (k0 : Nat), v = .tuple #[(.slice p0 r.1.length k0), (.int .i64 r.2)] ∧ RepSl 3 (Ex cApiMaltStep) F p0 k0 r.1) := by
 refine CT0.enter Tryz.func63 rfl Tryz.ntmps63 rfl fun r R => ?_
 unfold m_file_chosen_MaltStep
 refine .seq (.region (.assign rfl rfl (.assign rfl rfl (.nil (.code (.seq (.seq (.region (.move rfl rfl (.call0 rfl Tryz.call42 rfl rfl rfl (c_file_isBook _ l_1 p2 k3 h4) ?_))))))))))
 rintro r_12 F_10 _ - l_11 rfl
 refine .not rfl rfl (.nil (.code (.cond rfl (fun hb13 => ?_) (fun hb13 => ?_))))
 ·skip
  refine .seq (.region (.assign rfl rfl (.assign rfl rfl (.nil (.code ?_)))))
  exact .ret0 Tryz.results63 (.tmp rfl (.tmp rfl (.nil))) (i := 0) rfl l_11 ⟨none, 0, rfl, (RepSl.nil.mono l_11)⟩
 ·skip
  refine .skip (.code (.seq (.region (.assign rfl rfl (.nil (.code (.seq (.seq (.region (.move rfl rfl (.lenS rfl rfl Tryz.underlying22 rfl ?_)))))))))))
  refine .move rfl rfl (.nil (.code (.block (.ownNil 3 (Ex cApiMaltStep) 49 (.keep (.cons (k := 1) rfl (.cons (k := 2) rfl (.cons (k := 8) rfl (.cons (k := 14) rfl (.cons (k := 15) rfl (.cons (k := 16) rfl (.nil _))))))) ?_)))))
  refine .loop (fun (s15 : (List ApiMaltStep) × Int) a w => ∃ (F_16 : Fz) (p18 : Option Addr) (k19 : Nat), F_10 ≤ F_16 ∧ Hd 33 [] [(1, (.int .i64 kind5)), (2, (.func (.func p7) #[] k8.toArray)), (8, (.slice p18 s15.1.length k19)), (14, (.slice p2 l_1.length k3)), (15, (.int .i64 (l_1.length : Int))), (16, (.int .i64 s15.2))] F_16 [ownSl 3 (Ex cApiMaltStep) F_16 49 p18 k19 s15.1, R] a w) (fun b61 e a w => e = .exit 0 ∧ ∃ (F_62 : Fz) (p64 : Option Addr) (k65 : Nat), F_10 ≤ F_62 ∧ Hd 33 [] [(8, (.slice p64 b61.length k65))] F_62 [ownSl 3 (Ex cApiMaltStep) F_62 49 p64 k65 b61, R] a w) ?_ ?_ ?_
  ·exact fun a w h => ⟨F_10, none, 0, Fz.r, h.1.sub (.cons (k := 1) rfl (.cons (k := 2) rfl (.cons (k := 8) rfl (.cons (k := 14) rfl (.cons (k := 15) rfl (.cons (k := 16) rfl (.nil _))))))), h.2⟩
  ·intro s15 ctl
   refine GC.ex (fun a w ⟨F_16, p18, k19, l_17, hA⟩ => ⟨_, hA, ?_⟩)
   unfold b_file_chosen_MaltStep_1
   refine .seq (.region (.lss rfl rfl rfl (.nil (.code (.seq (.cond rfl (fun hb21 => ?_) (fun hb21 => ?_)))))))
   ·skip
    refine .skip (.code (.seq (.keep (.cons (k := 1) rfl (.cons (k := 2) rfl (.cons (k := 8) rfl (.cons (k := 14) rfl (.cons (k := 15) rfl (.cons (k := 16) rfl (.nil _))))))) ?_)))
    refine GC.join0 (σ := (List ApiMaltStep)) (fun j55 a w => ∃ (F_56 : Fz) (p58 : Option Addr) (k59 : Nat), F_16 ≤ F_56 ∧ Hd 33 [] [(1, (.int .i64 kind5)), (2, (.func (.func p7) #[] k8.toArray)), (8, (.slice p58 j55.length k59)), (14, (.slice p2 l_1.length k3)), (15, (.int .i64 (l_1.length : Int))), (16, (.int .i64 s15.2))] F_56 [ownSl 3 (Ex cApiMaltStep) F_56 49 p58 k59 j55, R] a w) (fun sj => ?_) (fun j55 hs0 => GE.ex (fun a w ⟨F_56, p58, k59, l_57, hA⟩ => ⟨_, hA, ?_⟩))
    ·skip
     refine .block (.seq (.region (.idx rfl Tryz.underlying22 Tryz.sizeOf41 (h4.mono (Fz.t l_11 l_17)) rfl rfl (fun x22 b23 o24 T25 fr26 cs27 e28 hm29 hv30 => ?_))))
     obtain ⟨p32, k33, hv30, h34⟩ := hv30
     refine .loadFA rfl Tryz.isAgg41 Tryz.sizeOf41 rfl hm29 hv30 rfl (.alloc (cs := (cApiBooked (ApiBooked.mk 0 ([])) none 0)) rfl Tryz.zeroValue41 rfl (fun b35 => ?_))
     refine .store (cs' := (cApiBooked x22 p32 k33)) Tryz.sizeOf41 rfl rfl rfl rfl (i := 0) rfl (Nat.le_of_ble_eq_true rfl) rfl (setMany_all (by rfl)) (.nil (.code (.seq (.region (.fieldAddr rfl Tryz.underlying41 rfl Tryz.sizeOf3 rfl (.loadO rfl Tryz.isAgg3 rfl (i := 0) rfl rfl (.move rfl rfl (.eql rfl rfl rfl (.nil (.code ?_))))))))))
     refine .keep (.cons (k := 1) rfl (.cons (k := 2) rfl (.cons (k := 8) rfl (.cons (k := 10) rfl (.cons (k := 14) rfl (.cons (k := 15) rfl (.cons (k := 16) rfl (.cons (k := 23) rfl (.nil _))))))))) ?_
     refine GC.join0 (σ := (List ApiMaltStep)) (fun j49 a w => ∃ (F_50 : Fz) (p52 : Option Addr) (k53 : Nat), F_16 ≤ F_50 ∧ Hd 33 [] [(1, (.int .i64 kind5)), (2, (.func (.func p7) #[] k8.toArray)), (8, (.slice p52 j49.length k53)), (14, (.slice p2 l_1.length k3)), (15, (.int .i64 (l_1.length : Int))), (16, (.int .i64 s15.2))] F_50 [pt b35 (.cells (cApiBooked x22 p32 k33).toArray 41), ownSl 3 (Ex cApiMaltStep) F_50 49 p52 k53 j49, R] a w) (fun sj => ?_) (fun j49 hs0 => GE.ex (fun a w ⟨F_50, p52, k53, l_51, hA⟩ => ⟨_, hA, ?_⟩))
     ·skip
      refine .cond rfl (fun hb36 => ?_) (fun hb36 => ?_)
      ·skip
       refine .region (.move rfl rfl (.move rfl rfl (.fieldAddr rfl Tryz.underlying41 rfl Tryz.sizeOf31 rfl (.loadO rfl Tryz.isAgg31 rfl (i := 0) rfl rfl (.call0 rfl h9.1 rfl rfl rfl (h9.2 _ (Fz.t l_11 l_17) x22.N [(.slice p32 x22.N.length k33)] ⟨_, _, rfl, h34⟩) ?_)))))
       rintro r_39 F_37 _ - l_38 rfl
       refine .sliceLit (cs := [.int .i64 r_39.Kind, .int .i64 r_39.A, .int .i64 r_39.B]) (zc := [.int .i64 (ApiMaltStep.mk 0 0 0).Kind, .int .i64 (ApiMaltStep.mk 0 0 0).A, .int .i64 (ApiMaltStep.mk 0 0 0).B]) rfl Tryz.underlying50 Tryz.sizeOf49 Tryz.zeroValue49 rfl rfl rfl (by kernel_rfl) (by kernel_rfl) (fun b40 F_41 l_42 hb43 => ?_)
       have h44 : RepSl 3 (Ex cApiMaltStep) F_41 (some ⟨b40, 0, none⟩) 1 ([r_39]) := RepSl.ofRow hb43 (.cons ok_t49.mono rfl .nil) rfl rfl
       refine .append 1 ok_t49 (Fz.t l_38 l_42) rfl Tryz.underlying50 Tryz.underlying50 rfl rfl rfl h44 rfl rfl (fun l_45 p46 k47 e48 => ?_)
       refine .assign rfl rfl (.nil ?_)
       exact .nil fun e a w h => by cases e; exact ⟨rfl, ⟨F_41, p46, k47, (Fz.t l_38 l_42), h.1.sub (.cons (k := 1) rfl (.cons (k := 2) rfl (.cons (k := 8) rfl (.cons (k := 14) rfl (.cons (k := 15) rfl (.cons (k := 16) rfl (.nil _))))))), h.2⟩⟩
      ·skip
       refine .skip ?_
       exact .nil fun e a w h => by cases e; exact ⟨rfl, ⟨F_16, p18, k19, Fz.r, h.1.sub (.cons (k := 1) rfl (.cons (k := 2) rfl (.cons (k := 8) rfl (.cons (k := 14) rfl (.cons (k := 15) rfl (.cons (k := 16) rfl (.nil _))))))), h.2⟩⟩
     refine .block (.drop 0 ?_)
     exact .nil fun e a w h => by cases e; exact ⟨rfl, ⟨F_50, p52, k53, l_51, h.1.sub (.cons (k := 1) rfl (.cons (k := 2) rfl (.cons (k := 8) rfl (.cons (k := 14) rfl (.cons (k := 15) rfl (.cons (k := 16) rfl (.nil _))))))), h.2⟩⟩
    refine .code (.region (.add rfl rfl rfl (.move rfl rfl (.nil ?_))))
    exact .nil (LPost.norm fun a w h => ⟨F_56, p58, k59, (Fz.t l_17 l_57), h.1.sub (.cons (k := 1) rfl (.cons (k := 2) rfl (.cons (k := 8) rfl (.cons (k := 14) rfl (.cons (k := 15) rfl (.cons (k := 16) rfl (.nil _))))))), h.2⟩)
   ·skip
    refine .exitOut rfl (LPost.exit fun a w h => ⟨rfl, F_16, p18, k19, l_17, h.1.sub (.cons (k := 8) rfl (.nil _)), h.2⟩)
  ·intro b61 hb0 hk e a w hD
   obtain ⟨rfl, F_62, p64, k65, l_63, hA⟩ := hD
   refine interp_exit rfl (GE.app ?_ hk a w hA)
   refine .code (.seq (.region (.move rfl rfl (.assign rfl rfl (.assign rfl rfl (.nil (.code (.freezeSl 0 rfl Fz.r (fun F_67 l_68 h69 => ?_)))))))))
   exact .ret0 Tryz.results63 (.tmp rfl (.tmp rfl (.nil))) (i := 0) rfl (Fz.t l_11 (Fz.t l_63 l_68)) ⟨p64, k65, rfl, h69⟩
noncomputable def m_file_Steps_1 (n_1 : (List Int)) : Option ApiMaltStep :=
 (idxL n_1 0).bind fun x6 => (idxL n_1 1).bind fun x16 => (idxL n_1 2).bind fun x26 => some (ApiMaltStep.mk x6 x16 x26)
set_option maxRecDepth 100000 in
set_option maxHeartbeats 4000000 in
theorem c_file_Steps_1 (F0 : Fz) (n_1 : (List Int)) (p2 : Option Addr) (k3 : Nat) (h4 : RepSl 1 (Ex (cInt .i64)) F0 p2 k3 n_1) : CT0 Tryz.prog 64 [(.slice p2 n_1.length k3)].toArray F0 (m_file_Steps_1 n_1) (fun r _ v => v = (eApiMaltStep r)) := by
 refine CT0.enter Tryz.func64 rfl Tryz.ntmps64 rfl fun r R => ?_
 unfold m_file_Steps_1
 refine .seq (.region (.alloc (cs := (cApiMaltStep (ApiMaltStep.mk 0 0 0))) rfl Tryz.zeroValue49 rfl (fun b5 => ?_)))
 refine .nil (.code (.seq (.keep (.cons (k := 0) rfl (.cons (k := 2) rfl (.nil _))) (.drawZ 10 mixedOK (by kernel_rfl) (.move rfl rfl (.idx rfl Tryz.underlying31 Tryz.sizeOf3 h4 rfl rfl (fun x6 b7 o8 T9 fr10 cs11 e12 hm13 hv14 => ?_)))))))
 refine .loadF rfl Tryz.isAgg3 rfl hm13 (cell_of_take (k := 0) hv14 rfl) (.move rfl rfl (.idx rfl Tryz.underlying31 Tryz.sizeOf3 h4 rfl rfl (fun x16 b17 o18 T19 fr20 cs21 e22 hm23 hv24 => ?_)))
 refine .loadF rfl Tryz.isAgg3 rfl hm23 (cell_of_take (k := 0) hv24 rfl) (.move rfl rfl (.idx rfl Tryz.underlying31 Tryz.sizeOf3 h4 rfl rfl (fun x26 b27 o28 T29 fr30 cs31 e32 hm33 hv34 => ?_)))
 refine .loadF rfl Tryz.isAgg3 rfl hm33 (cell_of_take (k := 0) hv34 rfl) (.build (cs := (cApiMaltStep (ApiMaltStep.mk x6 x16 x26)).toArray) rfl Tryz.underlying49 Tryz.zeroValue49 (plApiMaltStep _ Tryz.underlying49) rfl rfl (by kernel_rfl) (.pend (.store (cs' := (cApiMaltStep (ApiMaltStep.mk x6 x16 x26))) Tryz.sizeOf49 rfl rfl rfl rfl (i := 0) rfl (Nat.le_of_ble_eq_true rfl) rfl (setMany_all (by rfl)) (.nil ?_))))
 refine .code ?_
 exact .ret0 Tryz.results64 (.agg rfl Tryz.isAgg49 Tryz.sizeOf49 (i := 0) rfl (vs' := (cApiMaltStep (ApiMaltStep.mk x6 x16 x26))) (by kernel_rfl) rfl (.nil)) (i := 1) rfl Fz.r rfl
noncomputable def m_file_Steps (l_1 : (List ApiBooked)) : Option ((List ApiMaltStep) × Int) :=
 (m_file_chosen_MaltStep l_1 0 (fun x => m_file_Steps_1 x)).bind fun r_8 => some (r_8.1, r_8.2)
set_option maxRecDepth 100000 in
set_option maxHeartbeats 4000000 in
theorem c_file_Steps (F0 : Fz) (l_1 : (List ApiBooked)) (p2 : Option Addr) (k3 : Nat) (h4 : RepSl 2 rApiBooked F0 p2 k3 l_1) : CT0 Tryz.prog 30 [(.slice p2 l_1.length k3)].toArray F0 (m_file_Steps l_1) (fun r F v => ∃ (p0 : Option Addr) (k0 : Nat), v = .tuple #[(.slice p0 r.1.length k0), (.int .i64 r.2)] ∧ RepSl 3 (Ex cApiMaltStep) F p0 k0 r.1) := by
 refine CT0.enter Tryz.func30 rfl Tryz.ntmps30 rfl fun r R => ?_
 unfold m_file_Steps
 refine .seq (.region (.assign rfl rfl (.assign rfl rfl (.nil (.code (.seq (.region (.move rfl rfl ?_))))))))
 have hf5 : RepFn Tryz.prog F0 64 [] (fun x F vs => ∃ p0 k0, vs = [(.slice p0 x.length k0)] ∧ RepSl 1 (Ex (cInt .i64)) F p0 k0 x) (fun r _ v => v = (eApiMaltStep r)) (fun x => m_file_Steps_1 x) := ⟨Tryz.call64, fun F' le' x vs hv => by obtain ⟨_, _, rfl, hq0⟩ := hv; exact c_file_Steps_1 F' x _ _ hq0⟩
 refine .call0 rfl Tryz.call63 rfl rfl rfl (c_file_chosen_MaltStep _ l_1 p2 k3 h4 0 (fun x => m_file_Steps_1 x) 64 ([]) hf5) ?_
 rintro r_8 F_6 _ - l_7 ⟨p9, k10, rfl, h11⟩
 refine .extract rfl rfl rfl (.extract rfl rfl rfl (.assign rfl rfl (.assign rfl rfl (.nil (.code ?_)))))
 exact .ret0 Tryz.results30 (.tmp rfl (.tmp rfl (.nil))) (i := 0) rfl l_7 ⟨p9, k10, rfl, h11⟩
noncomputable def b_file_chosen_Drawn_1 (l_1 : (List ApiBooked)) (kind5 : Int) (of_6 : ((List Int) → Option ApiDrawn)) (s15 : (List ApiDrawn) × Int) : Option (Ctl ((List ApiDrawn) × Int) (((List ApiDrawn)))) :=
 if (decide (s15.2 < (l_1.length : Int))) then (((idxL l_1 s15.2).bind fun x22 => (if (x22.Kind == kind5) then ((of_6 x22.N).bind fun r_39 => (appO s15.1 ([r_39])).bind fun l_45 => some l_45) else (some s15.1) : Option ((List ApiDrawn))).bind fun j49 => some j49 : Option ((List ApiDrawn))).bind fun j55 => some (.next (j55, (w64 (s15.2 + 1))))) else (some (.done s15.1))
noncomputable def m_file_chosen_Drawn (l_1 : (List ApiBooked)) (kind5 : Int) (of_6 : ((List Int) → Option ApiDrawn)) : Option ((List ApiDrawn) × Int) :=
 (m_file_isBook l_1).bind fun r_12 => if (!r_12) then (some ([], 1)) else ((loopM (b_file_chosen_Drawn_1 l_1 kind5 of_6) ([], 0)).bind fun b61 => some (b61, 0))
set_option maxRecDepth 100000 in
set_option maxHeartbeats 4000000 in
theorem c_file_chosen_Drawn (F0 : Fz) (l_1 : (List ApiBooked)) (p2 : Option Addr) (k3 : Nat) (h4 : RepSl 2 rApiBooked F0 p2 k3 l_1) (kind5 : Int) (of_6 : ((List Int) → Option ApiDrawn)) (p7 : FuncId) (k8 : List Value) (h9 : RepFn Tryz.prog F0 p7 k8 (fun x F vs => ∃ p0 k0, vs = [(.slice p0 x.length k0)] ∧ RepSl 1 (Ex (cInt .i64)) F p0 k0 x) (fun r _ v => v = (eApiDrawn r)) of_6) : CT0 Tryz.prog 65 [(.slice p2 l_1.length k3), (.int .i64 kind5), (.func (.func p7) #[] k8.toArray)].toArray F0 (m_file_chosen_Drawn l_1 kind5 of_6) (fun r F v => ∃ (p0 : Option Addr) (k0 : Nat), v = .tuple #[(.slice p0 r.1.length k0), (.int .i64 r.2)] ∧ RepSl 3 (Ex cApiDrawn) F p0 k0 r.1) := by
 refine CT0.enter Tryz.func65 rfl Tryz.ntmps65 rfl fun r R => ?_
 unfold m_file_chosen_Drawn
 refine .seq (.region (.assign rfl rfl (.assign rfl rfl (.nil (.code (.seq (.seq (.region (.move rfl rfl (.call0 rfl Tryz.call42 rfl rfl rfl (c_file_isBook _ l_1 p2 k3 h4) ?_))))))))))
 rintro r_12 F_10 _ - l_11 rfl
 refine .not rfl rfl (.nil (.code (.cond rfl (fun hb13 => ?_) (fun hb13 => ?_))))
 ·skip
  refine .seq (.region (.assign rfl rfl (.assign rfl rfl (.nil (.code ?_)))))
  exact .ret0 Tryz.results65 (.tmp rfl (.tmp rfl (.nil))) (i := 0) rfl l_11 ⟨none, 0, rfl, (RepSl.nil.mono l_11)⟩
 ·skip
  refine .skip (.code (.seq (.region (.assign rfl rfl (.nil (.code (.seq (.seq (.region (.move rfl rfl (.lenS rfl rfl Tryz.underlying22 rfl ?_)))))))))))
  refine .move rfl rfl (.nil (.code (.block (.ownNil 3 (Ex cApiDrawn) 54 (.keep (.cons (k := 1) rfl (.cons (k := 2) rfl (.cons (k := 8) rfl (.cons (k := 14) rfl (.cons (k := 15) rfl (.cons (k := 16) rfl (.nil _))))))) ?_)))))
  refine .loop (fun (s15 : (List ApiDrawn) × Int) a w => ∃ (F_16 : Fz) (p18 : Option Addr) (k19 : Nat), F_10 ≤ F_16 ∧ Hd 33 [] [(1, (.int .i64 kind5)), (2, (.func (.func p7) #[] k8.toArray)), (8, (.slice p18 s15.1.length k19)), (14, (.slice p2 l_1.length k3)), (15, (.int .i64 (l_1.length : Int))), (16, (.int .i64 s15.2))] F_16 [ownSl 3 (Ex cApiDrawn) F_16 54 p18 k19 s15.1, R] a w) (fun b61 e a w => e = .exit 0 ∧ ∃ (F_62 : Fz) (p64 : Option Addr) (k65 : Nat), F_10 ≤ F_62 ∧ Hd 33 [] [(8, (.slice p64 b61.length k65))] F_62 [ownSl 3 (Ex cApiDrawn) F_62 54 p64 k65 b61, R] a w) ?_ ?_ ?_
  ·exact fun a w h => ⟨F_10, none, 0, Fz.r, h.1.sub (.cons (k := 1) rfl (.cons (k := 2) rfl (.cons (k := 8) rfl (.cons (k := 14) rfl (.cons (k := 15) rfl (.cons (k := 16) rfl (.nil _))))))), h.2⟩
  ·intro s15 ctl
   refine GC.ex (fun a w ⟨F_16, p18, k19, l_17, hA⟩ => ⟨_, hA, ?_⟩)
   unfold b_file_chosen_Drawn_1
   refine .seq (.region (.lss rfl rfl rfl (.nil (.code (.seq (.cond rfl (fun hb21 => ?_) (fun hb21 => ?_)))))))
   ·skip
    refine .skip (.code (.seq (.keep (.cons (k := 1) rfl (.cons (k := 2) rfl (.cons (k := 8) rfl (.cons (k := 14) rfl (.cons (k := 15) rfl (.cons (k := 16) rfl (.nil _))))))) ?_)))
    refine GC.join0 (σ := (List ApiDrawn)) (fun j55 a w => ∃ (F_56 : Fz) (p58 : Option Addr) (k59 : Nat), F_16 ≤ F_56 ∧ Hd 33 [] [(1, (.int .i64 kind5)), (2, (.func (.func p7) #[] k8.toArray)), (8, (.slice p58 j55.length k59)), (14, (.slice p2 l_1.length k3)), (15, (.int .i64 (l_1.length : Int))), (16, (.int .i64 s15.2))] F_56 [ownSl 3 (Ex cApiDrawn) F_56 54 p58 k59 j55, R] a w) (fun sj => ?_) (fun j55 hs0 => GE.ex (fun a w ⟨F_56, p58, k59, l_57, hA⟩ => ⟨_, hA, ?_⟩))
    ·skip
     refine .block (.seq (.region (.idx rfl Tryz.underlying22 Tryz.sizeOf41 (h4.mono (Fz.t l_11 l_17)) rfl rfl (fun x22 b23 o24 T25 fr26 cs27 e28 hm29 hv30 => ?_))))
     obtain ⟨p32, k33, hv30, h34⟩ := hv30
     refine .loadFA rfl Tryz.isAgg41 Tryz.sizeOf41 rfl hm29 hv30 rfl (.alloc (cs := (cApiBooked (ApiBooked.mk 0 ([])) none 0)) rfl Tryz.zeroValue41 rfl (fun b35 => ?_))
     refine .store (cs' := (cApiBooked x22 p32 k33)) Tryz.sizeOf41 rfl rfl rfl rfl (i := 0) rfl (Nat.le_of_ble_eq_true rfl) rfl (setMany_all (by rfl)) (.nil (.code (.seq (.region (.fieldAddr rfl Tryz.underlying41 rfl Tryz.sizeOf3 rfl (.loadO rfl Tryz.isAgg3 rfl (i := 0) rfl rfl (.move rfl rfl (.eql rfl rfl rfl (.nil (.code ?_))))))))))
     refine .keep (.cons (k := 1) rfl (.cons (k := 2) rfl (.cons (k := 8) rfl (.cons (k := 10) rfl (.cons (k := 14) rfl (.cons (k := 15) rfl (.cons (k := 16) rfl (.cons (k := 23) rfl (.nil _))))))))) ?_
     refine GC.join0 (σ := (List ApiDrawn)) (fun j49 a w => ∃ (F_50 : Fz) (p52 : Option Addr) (k53 : Nat), F_16 ≤ F_50 ∧ Hd 33 [] [(1, (.int .i64 kind5)), (2, (.func (.func p7) #[] k8.toArray)), (8, (.slice p52 j49.length k53)), (14, (.slice p2 l_1.length k3)), (15, (.int .i64 (l_1.length : Int))), (16, (.int .i64 s15.2))] F_50 [pt b35 (.cells (cApiBooked x22 p32 k33).toArray 41), ownSl 3 (Ex cApiDrawn) F_50 54 p52 k53 j49, R] a w) (fun sj => ?_) (fun j49 hs0 => GE.ex (fun a w ⟨F_50, p52, k53, l_51, hA⟩ => ⟨_, hA, ?_⟩))
     ·skip
      refine .cond rfl (fun hb36 => ?_) (fun hb36 => ?_)
      ·skip
       refine .region (.move rfl rfl (.move rfl rfl (.fieldAddr rfl Tryz.underlying41 rfl Tryz.sizeOf31 rfl (.loadO rfl Tryz.isAgg31 rfl (i := 0) rfl rfl (.call0 rfl h9.1 rfl rfl rfl (h9.2 _ (Fz.t l_11 l_17) x22.N [(.slice p32 x22.N.length k33)] ⟨_, _, rfl, h34⟩) ?_)))))
       rintro r_39 F_37 _ - l_38 rfl
       refine .sliceLit (cs := [.int .i64 r_39.Amount, .int .i64 r_39.Alcohol.Lo, .int .i64 r_39.Alcohol.Hi]) (zc := [.int .i64 (ApiDrawn.mk 0 (ApiSpan.mk 0 0)).Amount, .int .i64 (ApiDrawn.mk 0 (ApiSpan.mk 0 0)).Alcohol.Lo, .int .i64 (ApiDrawn.mk 0 (ApiSpan.mk 0 0)).Alcohol.Hi]) rfl Tryz.underlying55 Tryz.sizeOf54 Tryz.zeroValue54 rfl rfl rfl (by kernel_rfl) (by kernel_rfl) (fun b40 F_41 l_42 hb43 => ?_)
       have h44 : RepSl 3 (Ex cApiDrawn) F_41 (some ⟨b40, 0, none⟩) 1 ([r_39]) := RepSl.ofRow hb43 (.cons ok_t54.mono rfl .nil) rfl rfl
       refine .append 1 ok_t54 (Fz.t l_38 l_42) rfl Tryz.underlying55 Tryz.underlying55 rfl rfl rfl h44 rfl rfl (fun l_45 p46 k47 e48 => ?_)
       refine .assign rfl rfl (.nil ?_)
       exact .nil fun e a w h => by cases e; exact ⟨rfl, ⟨F_41, p46, k47, (Fz.t l_38 l_42), h.1.sub (.cons (k := 1) rfl (.cons (k := 2) rfl (.cons (k := 8) rfl (.cons (k := 14) rfl (.cons (k := 15) rfl (.cons (k := 16) rfl (.nil _))))))), h.2⟩⟩
      ·skip
       refine .skip ?_
       exact .nil fun e a w h => by cases e; exact ⟨rfl, ⟨F_16, p18, k19, Fz.r, h.1.sub (.cons (k := 1) rfl (.cons (k := 2) rfl (.cons (k := 8) rfl (.cons (k := 14) rfl (.cons (k := 15) rfl (.cons (k := 16) rfl (.nil _))))))), h.2⟩⟩
     refine .block (.drop 0 ?_)
     exact .nil fun e a w h => by cases e; exact ⟨rfl, ⟨F_50, p52, k53, l_51, h.1.sub (.cons (k := 1) rfl (.cons (k := 2) rfl (.cons (k := 8) rfl (.cons (k := 14) rfl (.cons (k := 15) rfl (.cons (k := 16) rfl (.nil _))))))), h.2⟩⟩
    refine .code (.region (.add rfl rfl rfl (.move rfl rfl (.nil ?_))))
    exact .nil (LPost.norm fun a w h => ⟨F_56, p58, k59, (Fz.t l_17 l_57), h.1.sub (.cons (k := 1) rfl (.cons (k := 2) rfl (.cons (k := 8) rfl (.cons (k := 14) rfl (.cons (k := 15) rfl (.cons (k := 16) rfl (.nil _))))))), h.2⟩)
   ·skip
    refine .exitOut rfl (LPost.exit fun a w h => ⟨rfl, F_16, p18, k19, l_17, h.1.sub (.cons (k := 8) rfl (.nil _)), h.2⟩)
  ·intro b61 hb0 hk e a w hD
   obtain ⟨rfl, F_62, p64, k65, l_63, hA⟩ := hD
   refine interp_exit rfl (GE.app ?_ hk a w hA)
   refine .code (.seq (.region (.move rfl rfl (.assign rfl rfl (.assign rfl rfl (.nil (.code (.freezeSl 0 rfl Fz.r (fun F_67 l_68 h69 => ?_)))))))))
   exact .ret0 Tryz.results65 (.tmp rfl (.tmp rfl (.nil))) (i := 0) rfl (Fz.t l_11 (Fz.t l_63 l_68)) ⟨p64, k65, rfl, h69⟩
noncomputable def m_file_Draws_1 (n_1 : (List Int)) : Option ApiDrawn :=
 (idxL n_1 0).bind fun x6 => (idxL n_1 1).bind fun x16 => (idxL n_1 2).bind fun x26 => some (ApiDrawn.mk x6 (ApiSpan.mk x16 x26))
set_option maxRecDepth 100000 in
set_option maxHeartbeats 4000000 in
theorem c_file_Draws_1 (F0 : Fz) (n_1 : (List Int)) (p2 : Option Addr) (k3 : Nat) (h4 : RepSl 1 (Ex (cInt .i64)) F0 p2 k3 n_1) : CT0 Tryz.prog 66 [(.slice p2 n_1.length k3)].toArray F0 (m_file_Draws_1 n_1) (fun r _ v => v = (eApiDrawn r)) := by
 refine CT0.enter Tryz.func66 rfl Tryz.ntmps66 rfl fun r R => ?_
 unfold m_file_Draws_1
 refine .seq (.region (.alloc (cs := (cApiDrawn (ApiDrawn.mk 0 (ApiSpan.mk 0 0)))) rfl Tryz.zeroValue54 rfl (fun b5 => ?_)))
 refine .nil (.code (.seq (.keep (.cons (k := 0) rfl (.cons (k := 2) rfl (.nil _))) (.drawZ 11 mixedOK (by kernel_rfl) (.move rfl rfl (.idx rfl Tryz.underlying31 Tryz.sizeOf3 h4 rfl rfl (fun x6 b7 o8 T9 fr10 cs11 e12 hm13 hv14 => ?_)))))))
 refine .loadF rfl Tryz.isAgg3 rfl hm13 (cell_of_take (k := 0) hv14 rfl) (.move rfl rfl (.idx rfl Tryz.underlying31 Tryz.sizeOf3 h4 rfl rfl (fun x16 b17 o18 T19 fr20 cs21 e22 hm23 hv24 => ?_)))
 refine .loadF rfl Tryz.isAgg3 rfl hm23 (cell_of_take (k := 0) hv24 rfl) (.move rfl rfl (.idx rfl Tryz.underlying31 Tryz.sizeOf3 h4 rfl rfl (fun x26 b27 o28 T29 fr30 cs31 e32 hm33 hv34 => ?_)))
 refine .loadF rfl Tryz.isAgg3 rfl hm33 (cell_of_take (k := 0) hv34 rfl) (.build (cs := (cApiSpan (ApiSpan.mk x16 x26)).toArray) rfl Tryz.underlying52 Tryz.zeroValue52 (plApiSpan _ Tryz.underlying52) rfl rfl (by kernel_rfl) (.build (cs := (cApiDrawn (ApiDrawn.mk x6 (ApiSpan.mk x16 x26))).toArray) rfl Tryz.underlying54 Tryz.zeroValue54 (plApiDrawn _ Tryz.underlying54) rfl rfl (by kernel_rfl) (.pend ?_)))
 refine .store (cs' := (cApiDrawn (ApiDrawn.mk x6 (ApiSpan.mk x16 x26)))) Tryz.sizeOf54 rfl rfl rfl rfl (i := 0) rfl (Nat.le_of_ble_eq_true rfl) rfl (setMany_all (by rfl)) (.nil (.code ?_))
 exact .ret0 Tryz.results66 (.agg rfl Tryz.isAgg54 Tryz.sizeOf54 (i := 0) rfl (vs' := (cApiDrawn (ApiDrawn.mk x6 (ApiSpan.mk x16 x26)))) (by kernel_rfl) rfl (.nil)) (i := 1) rfl Fz.r rfl
noncomputable def m_file_Draws (l_1 : (List ApiBooked)) : Option ((List ApiDrawn) × Int) :=
 (m_file_chosen_Drawn l_1 1 (fun x => m_file_Draws_1 x)).bind fun r_8 => some (r_8.1, r_8.2)
set_option maxRecDepth 100000 in
set_option maxHeartbeats 4000000 in
theorem c_file_Draws (F0 : Fz) (l_1 : (List ApiBooked)) (p2 : Option Addr) (k3 : Nat) (h4 : RepSl 2 rApiBooked F0 p2 k3 l_1) : CT0 Tryz.prog 31 [(.slice p2 l_1.length k3)].toArray F0 (m_file_Draws l_1) (fun r F v => ∃ (p0 : Option Addr) (k0 : Nat), v = .tuple #[(.slice p0 r.1.length k0), (.int .i64 r.2)] ∧ RepSl 3 (Ex cApiDrawn) F p0 k0 r.1) := by
 refine CT0.enter Tryz.func31 rfl Tryz.ntmps31 rfl fun r R => ?_
 unfold m_file_Draws
 refine .seq (.region (.assign rfl rfl (.assign rfl rfl (.nil (.code (.seq (.region (.move rfl rfl ?_))))))))
 have hf5 : RepFn Tryz.prog F0 66 [] (fun x F vs => ∃ p0 k0, vs = [(.slice p0 x.length k0)] ∧ RepSl 1 (Ex (cInt .i64)) F p0 k0 x) (fun r _ v => v = (eApiDrawn r)) (fun x => m_file_Draws_1 x) := ⟨Tryz.call66, fun F' le' x vs hv => by obtain ⟨_, _, rfl, hq0⟩ := hv; exact c_file_Draws_1 F' x _ _ hq0⟩
 refine .call0 rfl Tryz.call65 rfl rfl rfl (c_file_chosen_Drawn _ l_1 p2 k3 h4 1 (fun x => m_file_Draws_1 x) 66 ([]) hf5) ?_
 rintro r_8 F_6 _ - l_7 ⟨p9, k10, rfl, h11⟩
 refine .extract rfl rfl rfl (.extract rfl rfl rfl (.assign rfl rfl (.assign rfl rfl (.nil (.code ?_)))))
 exact .ret0 Tryz.results31 (.tmp rfl (.tmp rfl (.nil))) (i := 0) rfl l_7 ⟨p9, k10, rfl, h11⟩
noncomputable def b_wormtublaw14_same_CaskEvent_1 (a1 : (List ApiCaskEvent)) (b5 : (List ApiCaskEvent)) (s10 : Int) : Option (Ctl (Int) ((Unit) ⊕ (Bool))) :=
 if (decide (s10 < (a1.length : Int))) then ((idxL a1 s10).bind fun x14 => (idxL b5 s10).bind fun x24 => if (!(eq_69 x14 x24)) then (some (.done (.inr false))) else (some (.next (w64 (s10 + 1))))) else (some (.done (.inl ())))
noncomputable def m_wormtublaw14_same_CaskEvent (a1 : (List ApiCaskEvent)) (b5 : (List ApiCaskEvent)) : Option Bool :=
 if ((a1.length : Int) != (b5.length : Int)) then (some false) else ((loopM (b_wormtublaw14_same_CaskEvent_1 a1 b5) 0).bind fun b0 => match b0 with | .inl _b35 => (some true) | .inr b35 => (some b35))
set_option maxRecDepth 100000 in
set_option maxHeartbeats 4000000 in
theorem c_wormtublaw14_same_CaskEvent (F0 : Fz) (a1 : (List ApiCaskEvent)) (p2 : Option Addr) (k3 : Nat) (h4 : RepSl 8 (Ex cApiCaskEvent) F0 p2 k3 a1) (b5 : (List ApiCaskEvent)) (p6 : Option Addr) (k7 : Nat) (h8 : RepSl 8 (Ex cApiCaskEvent) F0 p6 k7 b5) : CT0 Tryz.prog 37 [(.slice p2 a1.length k3), (.slice p6 b5.length k7)].toArray F0 (m_wormtublaw14_same_CaskEvent a1 b5) (fun r _ v => v = (.bool r)) := by
 refine CT0.enter Tryz.func37 rfl Tryz.ntmps37 rfl fun r R => ?_
 unfold m_wormtublaw14_same_CaskEvent
 refine .seq (.region (.assign rfl rfl (.nil (.code (.seq (.seq (.region (.move rfl rfl (.lenS rfl rfl Tryz.underlying58 rfl (.move rfl rfl (.lenS rfl rfl Tryz.underlying58 rfl ?_)))))))))))
 refine .neq rfl rfl rfl (.nil (.code (.cond rfl (fun hb9 => ?_) (fun hb9 => ?_))))
 ·skip
  refine .seq (.region (.assign rfl rfl (.nil (.code ?_))))
  exact .ret0 Tryz.results37 (.tmp rfl (.nil)) (i := 0) rfl Fz.r rfl
 ·skip
  refine .skip (.code (.seq (.seq (.region (.move rfl rfl (.lenS rfl rfl Tryz.underlying58 rfl (.move rfl rfl (.nil (.code (.block (.keep (.cons (k := 0) rfl (.cons (k := 1) rfl (.cons (k := 12) rfl (.cons (k := 13) rfl (.nil _))))) ?_)))))))))))
  refine .loop (fun (s10 : Int) a w => ∃ (F_11 : Fz), F0 ≤ F_11 ∧ Hd 26 [] [(0, (.slice p2 a1.length k3)), (1, (.slice p6 b5.length k7)), (12, (.int .i64 (a1.length : Int))), (13, (.int .i64 s10))] F_11 [R] a w) (fun b0 e a w => match b0 with | .inl b35 => e = .exit 0 ∧ ∃ (F_36 : Fz), F0 ≤ F_36 ∧ Hd 26 [] [] F_36 [R] a w | .inr b35 => e = .ret ∧ ∃ (F_38 : Fz), F0 ≤ F_38 ∧ Hd 26 [] [(4, (.bool b35))] F_38 [R] a w) ?_ ?_ ?_
  ·exact fun a w h => ⟨F0, Fz.r, h.1.sub (.cons (k := 0) rfl (.cons (k := 1) rfl (.cons (k := 12) rfl (.cons (k := 13) rfl (.nil _))))), h.2⟩
  ·intro s10 ctl
   refine GC.ex (fun a w ⟨F_11, l_12, hA⟩ => ⟨_, hA, ?_⟩)
   unfold b_wormtublaw14_same_CaskEvent_1
   refine .seq (.region (.lss rfl rfl rfl (.nil (.code (.seq (.cond rfl (fun hb13 => ?_) (fun hb13 => ?_)))))))
   ·skip
    refine .skip (.code (.seq (.block (.seq (.region (.move rfl rfl (.assign rfl rfl (.nil (.code (.seq (.keep (.cons (k := 0) rfl (.cons (k := 1) rfl (.cons (k := 5) rfl (.cons (k := 12) rfl (.cons (k := 13) rfl (.nil _)))))) ?_)))))))))))
    refine .drawZ 9 mixedOK (by kernel_rfl) (.move rfl rfl (.move rfl rfl (.idx rfl Tryz.underlying58 Tryz.sizeOf69 (h4.mono l_12) rfl rfl (fun x14 b15 o16 T17 fr18 cs19 e20 hm21 hv22 => ?_))))
    refine .loadFA rfl Tryz.isAgg69 Tryz.sizeOf69 rfl hm21 hv22 rfl (.move rfl rfl (.move rfl rfl (.idx rfl Tryz.underlying58 Tryz.sizeOf69 (h8.mono l_12) rfl rfl (fun x24 b25 o26 T27 fr28 cs29 e30 hm31 hv32 => ?_))))
    refine .loadFA rfl Tryz.isAgg69 Tryz.sizeOf69 rfl hm31 hv32 rfl (.neqR rfl Tryz.eqGuardType69 (fun w => req_69 x14 x24 w) rfl rfl (.pend (.nil (.code (.cond rfl (fun hb34 => ?_) (fun hb34 => ?_))))))
    ·skip
     refine .seq (.region (.assign rfl rfl (.nil (.code (.retQ (LPost.ret fun a w h => ⟨rfl, F_11, l_12, h.1.sub (.cons (k := 4) rfl (.nil _)), h.2⟩))))))
    ·skip
     refine .skip (.block (.code (.region (.add rfl rfl rfl (.move rfl rfl (.nil ?_))))))
     exact .nil (LPost.norm fun a w h => ⟨F_11, l_12, h.1.sub (.cons (k := 0) rfl (.cons (k := 1) rfl (.cons (k := 12) rfl (.cons (k := 13) rfl (.nil _))))), h.2⟩)
   ·skip
    refine .exitOut rfl (LPost.exit fun a w h => ⟨rfl, F_11, l_12, h.1.sub (.nil _), h.2⟩)
  ·intro b35 hb0 hk e a w hD
   rcases b35 with b35 | b35
   ·skip
    obtain ⟨rfl, F_36, l_37, hA⟩ := hD
    refine interp_exit rfl (GE.app ?_ hk a w hA)
    refine .code (.seq (.region (.assign rfl rfl (.nil (.code ?_)))))
    exact .ret0 Tryz.results37 (.tmp rfl (.nil)) (i := 0) rfl l_37 rfl
   obtain ⟨rfl, F_38, l_39, hA⟩ := hD
   exact interp_ret ((ret_post0 Tryz.results37 (.tmp rfl (.nil)) (i := 0) rfl l_39 rfl) hk a w hA)
noncomputable def b_wormtublaw14_same_DutyEvent_1 (a1 : (List ApiDutyEvent)) (b5 : (List ApiDutyEvent)) (s10 : Int) : Option (Ctl (Int) ((Unit) ⊕ (Bool))) :=
 if (decide (s10 < (a1.length : Int))) then ((idxL a1 s10).bind fun x14 => (idxL b5 s10).bind fun x24 => if (!(eq_72 x14 x24)) then (some (.done (.inr false))) else (some (.next (w64 (s10 + 1))))) else (some (.done (.inl ())))
noncomputable def m_wormtublaw14_same_DutyEvent (a1 : (List ApiDutyEvent)) (b5 : (List ApiDutyEvent)) : Option Bool :=
 if ((a1.length : Int) != (b5.length : Int)) then (some false) else ((loopM (b_wormtublaw14_same_DutyEvent_1 a1 b5) 0).bind fun b0 => match b0 with | .inl _b35 => (some true) | .inr b35 => (some b35))
set_option maxRecDepth 100000 in
set_option maxHeartbeats 4000000 in
theorem c_wormtublaw14_same_DutyEvent (F0 : Fz) (a1 : (List ApiDutyEvent)) (p2 : Option Addr) (k3 : Nat) (h4 : RepSl 6 (Ex cApiDutyEvent) F0 p2 k3 a1) (b5 : (List ApiDutyEvent)) (p6 : Option Addr) (k7 : Nat) (h8 : RepSl 6 (Ex cApiDutyEvent) F0 p6 k7 b5) : CT0 Tryz.prog 38 [(.slice p2 a1.length k3), (.slice p6 b5.length k7)].toArray F0 (m_wormtublaw14_same_DutyEvent a1 b5) (fun r _ v => v = (.bool r)) := by
 refine CT0.enter Tryz.func38 rfl Tryz.ntmps38 rfl fun r R => ?_
 unfold m_wormtublaw14_same_DutyEvent
 refine .seq (.region (.assign rfl rfl (.nil (.code (.seq (.seq (.region (.move rfl rfl (.lenS rfl rfl Tryz.underlying56 rfl (.move rfl rfl (.lenS rfl rfl Tryz.underlying56 rfl ?_)))))))))))
 refine .neq rfl rfl rfl (.nil (.code (.cond rfl (fun hb9 => ?_) (fun hb9 => ?_))))
 ·skip
  refine .seq (.region (.assign rfl rfl (.nil (.code ?_))))
  exact .ret0 Tryz.results38 (.tmp rfl (.nil)) (i := 0) rfl Fz.r rfl
 ·skip
  refine .skip (.code (.seq (.seq (.region (.move rfl rfl (.lenS rfl rfl Tryz.underlying56 rfl (.move rfl rfl (.nil (.code (.block (.keep (.cons (k := 0) rfl (.cons (k := 1) rfl (.cons (k := 12) rfl (.cons (k := 13) rfl (.nil _))))) ?_)))))))))))
  refine .loop (fun (s10 : Int) a w => ∃ (F_11 : Fz), F0 ≤ F_11 ∧ Hd 26 [] [(0, (.slice p2 a1.length k3)), (1, (.slice p6 b5.length k7)), (12, (.int .i64 (a1.length : Int))), (13, (.int .i64 s10))] F_11 [R] a w) (fun b0 e a w => match b0 with | .inl b35 => e = .exit 0 ∧ ∃ (F_36 : Fz), F0 ≤ F_36 ∧ Hd 26 [] [] F_36 [R] a w | .inr b35 => e = .ret ∧ ∃ (F_38 : Fz), F0 ≤ F_38 ∧ Hd 26 [] [(4, (.bool b35))] F_38 [R] a w) ?_ ?_ ?_
  ·exact fun a w h => ⟨F0, Fz.r, h.1.sub (.cons (k := 0) rfl (.cons (k := 1) rfl (.cons (k := 12) rfl (.cons (k := 13) rfl (.nil _))))), h.2⟩
  ·intro s10 ctl
   refine GC.ex (fun a w ⟨F_11, l_12, hA⟩ => ⟨_, hA, ?_⟩)
   unfold b_wormtublaw14_same_DutyEvent_1
   refine .seq (.region (.lss rfl rfl rfl (.nil (.code (.seq (.cond rfl (fun hb13 => ?_) (fun hb13 => ?_)))))))
   ·skip
    refine .skip (.code (.seq (.block (.seq (.region (.move rfl rfl (.assign rfl rfl (.nil (.code (.seq (.keep (.cons (k := 0) rfl (.cons (k := 1) rfl (.cons (k := 5) rfl (.cons (k := 12) rfl (.cons (k := 13) rfl (.nil _)))))) ?_)))))))))))
    refine .drawZ 9 mixedOK (by kernel_rfl) (.move rfl rfl (.move rfl rfl (.idx rfl Tryz.underlying56 Tryz.sizeOf72 (h4.mono l_12) rfl rfl (fun x14 b15 o16 T17 fr18 cs19 e20 hm21 hv22 => ?_))))
    refine .loadFA rfl Tryz.isAgg72 Tryz.sizeOf72 rfl hm21 hv22 rfl (.move rfl rfl (.move rfl rfl (.idx rfl Tryz.underlying56 Tryz.sizeOf72 (h8.mono l_12) rfl rfl (fun x24 b25 o26 T27 fr28 cs29 e30 hm31 hv32 => ?_))))
    refine .loadFA rfl Tryz.isAgg72 Tryz.sizeOf72 rfl hm31 hv32 rfl (.neqR rfl Tryz.eqGuardType72 (fun w => req_72 x14 x24 w) rfl rfl (.pend (.nil (.code (.cond rfl (fun hb34 => ?_) (fun hb34 => ?_))))))
    ·skip
     refine .seq (.region (.assign rfl rfl (.nil (.code (.retQ (LPost.ret fun a w h => ⟨rfl, F_11, l_12, h.1.sub (.cons (k := 4) rfl (.nil _)), h.2⟩))))))
    ·skip
     refine .skip (.block (.code (.region (.add rfl rfl rfl (.move rfl rfl (.nil ?_))))))
     exact .nil (LPost.norm fun a w h => ⟨F_11, l_12, h.1.sub (.cons (k := 0) rfl (.cons (k := 1) rfl (.cons (k := 12) rfl (.cons (k := 13) rfl (.nil _))))), h.2⟩)
   ·skip
    refine .exitOut rfl (LPost.exit fun a w h => ⟨rfl, F_11, l_12, h.1.sub (.nil _), h.2⟩)
  ·intro b35 hb0 hk e a w hD
   rcases b35 with b35 | b35
   ·skip
    obtain ⟨rfl, F_36, l_37, hA⟩ := hD
    refine interp_exit rfl (GE.app ?_ hk a w hA)
    refine .code (.seq (.region (.assign rfl rfl (.nil (.code ?_)))))
    exact .ret0 Tryz.results38 (.tmp rfl (.nil)) (i := 0) rfl l_37 rfl
   obtain ⟨rfl, F_38, l_39, hA⟩ := hD
   exact interp_ret ((ret_post0 Tryz.results38 (.tmp rfl (.nil)) (i := 0) rfl l_39 rfl) hk a w hA)
noncomputable def b_wormtublaw14_same_MaltStep_1 (a1 : (List ApiMaltStep)) (b5 : (List ApiMaltStep)) (s10 : Int) : Option (Ctl (Int) ((Unit) ⊕ (Bool))) :=
 if (decide (s10 < (a1.length : Int))) then ((idxL a1 s10).bind fun x14 => (idxL b5 s10).bind fun x24 => if (!(eq_49 x14 x24)) then (some (.done (.inr false))) else (some (.next (w64 (s10 + 1))))) else (some (.done (.inl ())))
noncomputable def m_wormtublaw14_same_MaltStep (a1 : (List ApiMaltStep)) (b5 : (List ApiMaltStep)) : Option Bool :=
 if ((a1.length : Int) != (b5.length : Int)) then (some false) else ((loopM (b_wormtublaw14_same_MaltStep_1 a1 b5) 0).bind fun b0 => match b0 with | .inl _b35 => (some true) | .inr b35 => (some b35))
set_option maxRecDepth 100000 in
set_option maxHeartbeats 4000000 in
theorem c_wormtublaw14_same_MaltStep (F0 : Fz) (a1 : (List ApiMaltStep)) (p2 : Option Addr) (k3 : Nat) (h4 : RepSl 3 (Ex cApiMaltStep) F0 p2 k3 a1) (b5 : (List ApiMaltStep)) (p6 : Option Addr) (k7 : Nat) (h8 : RepSl 3 (Ex cApiMaltStep) F0 p6 k7 b5) : CT0 Tryz.prog 39 [(.slice p2 a1.length k3), (.slice p6 b5.length k7)].toArray F0 (m_wormtublaw14_same_MaltStep a1 b5) (fun r _ v => v = (.bool r)) := by
 refine CT0.enter Tryz.func39 rfl Tryz.ntmps39 rfl fun r R => ?_
 unfold m_wormtublaw14_same_MaltStep
 refine .seq (.region (.assign rfl rfl (.nil (.code (.seq (.seq (.region (.move rfl rfl (.lenS rfl rfl Tryz.underlying50 rfl (.move rfl rfl (.lenS rfl rfl Tryz.underlying50 rfl ?_)))))))))))
 refine .neq rfl rfl rfl (.nil (.code (.cond rfl (fun hb9 => ?_) (fun hb9 => ?_))))
 ·skip
  refine .seq (.region (.assign rfl rfl (.nil (.code ?_))))
  exact .ret0 Tryz.results39 (.tmp rfl (.nil)) (i := 0) rfl Fz.r rfl
 ·skip
  refine .skip (.code (.seq (.seq (.region (.move rfl rfl (.lenS rfl rfl Tryz.underlying50 rfl (.move rfl rfl (.nil (.code (.block (.keep (.cons (k := 0) rfl (.cons (k := 1) rfl (.cons (k := 12) rfl (.cons (k := 13) rfl (.nil _))))) ?_)))))))))))
  refine .loop (fun (s10 : Int) a w => ∃ (F_11 : Fz), F0 ≤ F_11 ∧ Hd 26 [] [(0, (.slice p2 a1.length k3)), (1, (.slice p6 b5.length k7)), (12, (.int .i64 (a1.length : Int))), (13, (.int .i64 s10))] F_11 [R] a w) (fun b0 e a w => match b0 with | .inl b35 => e = .exit 0 ∧ ∃ (F_36 : Fz), F0 ≤ F_36 ∧ Hd 26 [] [] F_36 [R] a w | .inr b35 => e = .ret ∧ ∃ (F_38 : Fz), F0 ≤ F_38 ∧ Hd 26 [] [(4, (.bool b35))] F_38 [R] a w) ?_ ?_ ?_
  ·exact fun a w h => ⟨F0, Fz.r, h.1.sub (.cons (k := 0) rfl (.cons (k := 1) rfl (.cons (k := 12) rfl (.cons (k := 13) rfl (.nil _))))), h.2⟩
  ·intro s10 ctl
   refine GC.ex (fun a w ⟨F_11, l_12, hA⟩ => ⟨_, hA, ?_⟩)
   unfold b_wormtublaw14_same_MaltStep_1
   refine .seq (.region (.lss rfl rfl rfl (.nil (.code (.seq (.cond rfl (fun hb13 => ?_) (fun hb13 => ?_)))))))
   ·skip
    refine .skip (.code (.seq (.block (.seq (.region (.move rfl rfl (.assign rfl rfl (.nil (.code (.seq (.keep (.cons (k := 0) rfl (.cons (k := 1) rfl (.cons (k := 5) rfl (.cons (k := 12) rfl (.cons (k := 13) rfl (.nil _)))))) ?_)))))))))))
    refine .drawZ 9 mixedOK (by kernel_rfl) (.move rfl rfl (.move rfl rfl (.idx rfl Tryz.underlying50 Tryz.sizeOf49 (h4.mono l_12) rfl rfl (fun x14 b15 o16 T17 fr18 cs19 e20 hm21 hv22 => ?_))))
    refine .loadFA rfl Tryz.isAgg49 Tryz.sizeOf49 rfl hm21 hv22 rfl (.move rfl rfl (.move rfl rfl (.idx rfl Tryz.underlying50 Tryz.sizeOf49 (h8.mono l_12) rfl rfl (fun x24 b25 o26 T27 fr28 cs29 e30 hm31 hv32 => ?_))))
    refine .loadFA rfl Tryz.isAgg49 Tryz.sizeOf49 rfl hm31 hv32 rfl (.neqR rfl Tryz.eqGuardType49 (fun w => req_49 x14 x24 w) rfl rfl (.pend (.nil (.code (.cond rfl (fun hb34 => ?_) (fun hb34 => ?_))))))
    ·skip
     refine .seq (.region (.assign rfl rfl (.nil (.code (.retQ (LPost.ret fun a w h => ⟨rfl, F_11, l_12, h.1.sub (.cons (k := 4) rfl (.nil _)), h.2⟩))))))
    ·skip
     refine .skip (.block (.code (.region (.add rfl rfl rfl (.move rfl rfl (.nil ?_))))))
     exact .nil (LPost.norm fun a w h => ⟨F_11, l_12, h.1.sub (.cons (k := 0) rfl (.cons (k := 1) rfl (.cons (k := 12) rfl (.cons (k := 13) rfl (.nil _))))), h.2⟩)
   ·skip
    refine .exitOut rfl (LPost.exit fun a w h => ⟨rfl, F_11, l_12, h.1.sub (.nil _), h.2⟩)
  ·intro b35 hb0 hk e a w hD
   rcases b35 with b35 | b35
   ·skip
    obtain ⟨rfl, F_36, l_37, hA⟩ := hD
    refine interp_exit rfl (GE.app ?_ hk a w hA)
    refine .code (.seq (.region (.assign rfl rfl (.nil (.code ?_)))))
    exact .ret0 Tryz.results39 (.tmp rfl (.nil)) (i := 0) rfl l_37 rfl
   obtain ⟨rfl, F_38, l_39, hA⟩ := hD
   exact interp_ret ((ret_post0 Tryz.results39 (.tmp rfl (.nil)) (i := 0) rfl l_39 rfl) hk a w hA)
noncomputable def b_wormtublaw14_same_Drawn_1 (a1 : (List ApiDrawn)) (b5 : (List ApiDrawn)) (s10 : Int) : Option (Ctl (Int) ((Unit) ⊕ (Bool))) :=
 if (decide (s10 < (a1.length : Int))) then ((idxL a1 s10).bind fun x14 => (idxL b5 s10).bind fun x24 => if (!(eq_54 x14 x24)) then (some (.done (.inr false))) else (some (.next (w64 (s10 + 1))))) else (some (.done (.inl ())))
noncomputable def m_wormtublaw14_same_Drawn (a1 : (List ApiDrawn)) (b5 : (List ApiDrawn)) : Option Bool :=
 if ((a1.length : Int) != (b5.length : Int)) then (some false) else ((loopM (b_wormtublaw14_same_Drawn_1 a1 b5) 0).bind fun b0 => match b0 with | .inl _b35 => (some true) | .inr b35 => (some b35))
set_option maxRecDepth 100000 in
set_option maxHeartbeats 4000000 in
theorem c_wormtublaw14_same_Drawn (F0 : Fz) (a1 : (List ApiDrawn)) (p2 : Option Addr) (k3 : Nat) (h4 : RepSl 3 (Ex cApiDrawn) F0 p2 k3 a1) (b5 : (List ApiDrawn)) (p6 : Option Addr) (k7 : Nat) (h8 : RepSl 3 (Ex cApiDrawn) F0 p6 k7 b5) : CT0 Tryz.prog 40 [(.slice p2 a1.length k3), (.slice p6 b5.length k7)].toArray F0 (m_wormtublaw14_same_Drawn a1 b5) (fun r _ v => v = (.bool r)) := by
 refine CT0.enter Tryz.func40 rfl Tryz.ntmps40 rfl fun r R => ?_
 unfold m_wormtublaw14_same_Drawn
 refine .seq (.region (.assign rfl rfl (.nil (.code (.seq (.seq (.region (.move rfl rfl (.lenS rfl rfl Tryz.underlying55 rfl (.move rfl rfl (.lenS rfl rfl Tryz.underlying55 rfl ?_)))))))))))
 refine .neq rfl rfl rfl (.nil (.code (.cond rfl (fun hb9 => ?_) (fun hb9 => ?_))))
 ·skip
  refine .seq (.region (.assign rfl rfl (.nil (.code ?_))))
  exact .ret0 Tryz.results40 (.tmp rfl (.nil)) (i := 0) rfl Fz.r rfl
 ·skip
  refine .skip (.code (.seq (.seq (.region (.move rfl rfl (.lenS rfl rfl Tryz.underlying55 rfl (.move rfl rfl (.nil (.code (.block (.keep (.cons (k := 0) rfl (.cons (k := 1) rfl (.cons (k := 12) rfl (.cons (k := 13) rfl (.nil _))))) ?_)))))))))))
  refine .loop (fun (s10 : Int) a w => ∃ (F_11 : Fz), F0 ≤ F_11 ∧ Hd 26 [] [(0, (.slice p2 a1.length k3)), (1, (.slice p6 b5.length k7)), (12, (.int .i64 (a1.length : Int))), (13, (.int .i64 s10))] F_11 [R] a w) (fun b0 e a w => match b0 with | .inl b35 => e = .exit 0 ∧ ∃ (F_36 : Fz), F0 ≤ F_36 ∧ Hd 26 [] [] F_36 [R] a w | .inr b35 => e = .ret ∧ ∃ (F_38 : Fz), F0 ≤ F_38 ∧ Hd 26 [] [(4, (.bool b35))] F_38 [R] a w) ?_ ?_ ?_
  ·exact fun a w h => ⟨F0, Fz.r, h.1.sub (.cons (k := 0) rfl (.cons (k := 1) rfl (.cons (k := 12) rfl (.cons (k := 13) rfl (.nil _))))), h.2⟩
  ·intro s10 ctl
   refine GC.ex (fun a w ⟨F_11, l_12, hA⟩ => ⟨_, hA, ?_⟩)
   unfold b_wormtublaw14_same_Drawn_1
   refine .seq (.region (.lss rfl rfl rfl (.nil (.code (.seq (.cond rfl (fun hb13 => ?_) (fun hb13 => ?_)))))))
   ·skip
    refine .skip (.code (.seq (.block (.seq (.region (.move rfl rfl (.assign rfl rfl (.nil (.code (.seq (.keep (.cons (k := 0) rfl (.cons (k := 1) rfl (.cons (k := 5) rfl (.cons (k := 12) rfl (.cons (k := 13) rfl (.nil _)))))) ?_)))))))))))
    refine .drawZ 9 mixedOK (by kernel_rfl) (.move rfl rfl (.move rfl rfl (.idx rfl Tryz.underlying55 Tryz.sizeOf54 (h4.mono l_12) rfl rfl (fun x14 b15 o16 T17 fr18 cs19 e20 hm21 hv22 => ?_))))
    refine .loadFA rfl Tryz.isAgg54 Tryz.sizeOf54 rfl hm21 hv22 rfl (.move rfl rfl (.move rfl rfl (.idx rfl Tryz.underlying55 Tryz.sizeOf54 (h8.mono l_12) rfl rfl (fun x24 b25 o26 T27 fr28 cs29 e30 hm31 hv32 => ?_))))
    refine .loadFA rfl Tryz.isAgg54 Tryz.sizeOf54 rfl hm31 hv32 rfl (.neqR rfl Tryz.eqGuardType54 (fun w => req_54 x14 x24 w) rfl rfl (.pend (.nil (.code (.cond rfl (fun hb34 => ?_) (fun hb34 => ?_))))))
    ·skip
     refine .seq (.region (.assign rfl rfl (.nil (.code (.retQ (LPost.ret fun a w h => ⟨rfl, F_11, l_12, h.1.sub (.cons (k := 4) rfl (.nil _)), h.2⟩))))))
    ·skip
     refine .skip (.block (.code (.region (.add rfl rfl rfl (.move rfl rfl (.nil ?_))))))
     exact .nil (LPost.norm fun a w h => ⟨F_11, l_12, h.1.sub (.cons (k := 0) rfl (.cons (k := 1) rfl (.cons (k := 12) rfl (.cons (k := 13) rfl (.nil _))))), h.2⟩)
   ·skip
    refine .exitOut rfl (LPost.exit fun a w h => ⟨rfl, F_11, l_12, h.1.sub (.nil _), h.2⟩)
  ·intro b35 hb0 hk e a w hD
   rcases b35 with b35 | b35
   ·skip
    obtain ⟨rfl, F_36, l_37, hA⟩ := hD
    refine interp_exit rfl (GE.app ?_ hk a w hA)
    refine .code (.seq (.region (.assign rfl rfl (.nil (.code ?_)))))
    exact .ret0 Tryz.results40 (.tmp rfl (.nil)) (i := 0) rfl l_37 rfl
   obtain ⟨rfl, F_38, l_39, hA⟩ := hD
   exact interp_ret ((ret_post0 Tryz.results40 (.tmp rfl (.nil)) (i := 0) rfl l_39 rfl) hk a w hA)
end Go.Proofs.YthnlglmjffdpfaaGreatDoor
end

section
namespace Go.Proofs.YthnlglmjffdpfaaGreatDoor
open Go.Dec
def bM (x : ApiMaltStep) : ApiBooked := ⟨0, [x.Kind, x.A, x.B]⟩
def bS (x : ApiDrawn) : ApiBooked := ⟨1, [x.Amount, x.Alcohol.Lo, x.Alcohol.Hi]⟩
def bC (x : ApiCaskEvent) : ApiBooked := ⟨2, [x.Kind, x.Day, x.Cask, x.Other, x.Person, x.To, x.Amount, x.Where]⟩
def bD (x : ApiDutyEvent) : ApiBooked := ⟨3, [x.Kind, x.Day, x.Bond, x.To, x.Id, x.Amount]⟩
def bookL (m : List ApiMaltStep) (s : List ApiDrawn) (c : List ApiCaskEvent) (d : List ApiDutyEvent) : List ApiBooked := m.map bM ++ s.map bS ++ c.map bC ++ d.map bD
def bookP (m : List ApiMaltStep) (s : List ApiDrawn) (c : List ApiCaskEvent) (d : List ApiDutyEvent) : List ApiBooked × Int :=
  if m.length + s.length + c.length + d.length > 1024 then ([], 3) else if okBook (bookL m s c d) then (bookL m s c d, 0) else ([], 1)
theorem add_loop {α : Type} {body : Int × List ApiBooked → Option (Ctl (Int × List ApiBooked) (List ApiBooked))} (l : List α) (f : α → ApiBooked)
    (hs : ∀ (i : Nat) (x : α) (t : List ApiBooked), i ≤ 1000000 → l[i]? = some x → t.length ≤ 10000000 → body ((i : Int), t) = some (.next (((i + 1 : Nat) : Int), t ++ [f x])))
    (he : ∀ t, body ((l.length : Int), t) = some (.done t)) (acc : List ApiBooked) (ha : acc.length ≤ 1000000) (hl : l.length ≤ 1000000) : loopM body (0, acc) = some (acc ++ l.map f) := by
  obtain ⟨t, rfl, hq⟩ := loopM_upto (body := body) (fun i (t : List ApiBooked) => ((i : Int), t)) (fun t => t) (fun i t => t = acc ++ (l.take i).map f) l.length
    (fun i t hi ht => by
      subst ht
      refine ⟨_, hs i l[i] _ (by omega) (List.getElem?_eq_getElem hi) (by rw [List.length_append, List.length_map, List.length_take]; omega), ?_⟩
      rw [List.take_add_one, List.getElem?_eq_getElem hi, List.map_append, List.append_assoc]; rfl)
    (fun t _ => he t) l.length 0 acc (by omega) (by simp)
  rw [List.take_of_length_le (Nat.le_refl _)] at hq
  exact hq
theorem Book_prog (m : List ApiMaltStep) (s : List ApiDrawn) (c : List ApiCaskEvent) (d : List ApiDutyEvent) (h1 : m.length ≤ 100000) (h2 : s.length ≤ 100000) (h3 : c.length ≤ 100000) (h4 : d.length ≤ 100000) :
    m_file_Book m s c d = some (bookP m s c d) := by
  unfold m_file_Book bookP
  have hsum : w64 ((w64 ((w64 ((m.length : Int) + (s.length : Int))) + (c.length : Int))) + (d.length : Int)) = ((m.length + s.length + c.length + d.length : Nat) : Int) := by
    rw [w64_id (n := (m.length : Int) + (s.length : Int)) (by omega) (by omega), w64_id (n := (m.length : Int) + (s.length : Int) + (c.length : Int)) (by omega) (by omega), w64_id (by omega) (by omega)]
    omega
  rw [hsum]
  by_cases h : m.length + s.length + c.length + d.length > 1024
  · rw [if_pos h, if_pos (by rw [Bool.or_eq_true]; right; simp; omega)]
  · have hm : decide ((imax (imax (imax (m.length : Int) (s.length : Int)) (c.length : Int)) (d.length : Int)) > 1024) = false := by
      simp only [decide_eq_false_iff_not, imax]
      split <;> split <;> split <;> omega
    rw [if_neg h, if_neg (by rw [hm, Bool.false_or]; simp; omega)]
    refine bind_of (add_loop m bM (fun i x t hi hx ht => by
      have := lt_get hx
      unfold b_file_Book_1
      rw [if_pos (by simp; omega)]
      simp only [idxL_nat, hx, Option.bind_some]
      unfold m_file_Book_1
      rw [appO_some' (by simp; omega), nx (by omega)]; rfl) (fun t => by unfold b_file_Book_1; rw [if_neg (by simp)]) [] (by simp) (by omega)) ?_
    refine bind_of (add_loop s bS (fun i x t hi hx ht => by
      have := lt_get hx
      unfold b_file_Book_2
      rw [if_pos (by simp; omega)]
      simp only [idxL_nat, hx, Option.bind_some]
      unfold m_file_Book_1
      rw [appO_some' (by simp; omega), nx (by omega)]; rfl) (fun t => by unfold b_file_Book_2; rw [if_neg (by simp)]) _ (by simp; omega) (by omega)) ?_
    refine bind_of (add_loop c bC (fun i x t hi hx ht => by
      have := lt_get hx
      unfold b_file_Book_3
      rw [if_pos (by simp; omega)]
      simp only [idxL_nat, hx, Option.bind_some]
      unfold m_file_Book_1
      rw [appO_some' (by simp; omega), nx (by omega)]; rfl) (fun t => by unfold b_file_Book_3; rw [if_neg (by simp)]) _ (by simp; omega) (by omega)) ?_
    refine bind_of (add_loop d bD (fun i x t hi hx ht => by
      have := lt_get hx
      unfold b_file_Book_4
      rw [if_pos (by simp; omega)]
      simp only [idxL_nat, hx, Option.bind_some]
      unfold m_file_Book_1
      rw [appO_some' (by simp; omega), nx (by omega)]; rfl) (fun t => by unfold b_file_Book_4; rw [if_neg (by simp)]) _ (by simp; omega) (by omega)) ?_
    refine bind_of (isBook_eq _) ?_
    rw [List.nil_append]
    show (if (!okBook (bookL m s c d)) then some ([], 1) else some (bookL m s c d, 0)) = _
    cases okBook (bookL m s c d) <;> rfl
theorem pick_loop {α : Type} {body : List α × Int → Option (Ctl (List α × Int) (List α))} (l : List ApiBooked) (k : Int) (f : List Int → α)
    (hs : ∀ (i : Nat) (x : ApiBooked) (t : List α), i ≤ 1000000 → l[i]? = some x → t.length ≤ 1000000 → body (t, (i : Int)) = some (.next (if x.Kind = k then t ++ [f x.N] else t, ((i + 1 : Nat) : Int))))
    (he : ∀ t, body (t, (l.length : Int)) = some (.done t)) (hl : l.length ≤ 1000000) : loopM body ([], 0) = some ((l.filter fun x => decide (x.Kind = k)).map fun x => f x.N) := by
  obtain ⟨t, rfl, hq⟩ := loopM_upto (body := body) (fun i (t : List α) => (t, (i : Int))) (fun t => t) (fun i t => t = ((l.take i).filter fun x => decide (x.Kind = k)).map fun x => f x.N) l.length
    (fun i t hi ht => by
      have hlen : t.length ≤ 1000000 := by
        rw [ht, List.length_map]
        have := List.length_filter_le (fun x : ApiBooked => decide (x.Kind = k)) (l.take i)
        rw [List.length_take] at this; omega
      refine ⟨_, hs i l[i] _ (by omega) (List.getElem?_eq_getElem hi) hlen, ?_⟩
      subst ht
      rw [List.take_add_one, List.getElem?_eq_getElem hi, List.filter_append, List.map_append]
      simp only [Option.toList_some, List.filter_cons, List.filter_nil]
      by_cases e : l[i].Kind = k
      · rw [if_pos e, decide_eq_true e]; rfl
      · rw [if_neg e, decide_eq_false e]; simp)
    (fun t _ => he t) l.length 0 [] (by omega) (by simp)
  rw [List.take_of_length_le (Nat.le_refl _)] at hq
  exact hq
def pickS {α : Type} (l : List ApiBooked) (k : Int) (f : List Int → α) : List α × Int := if okBook l then ((l.filter fun x => decide (x.Kind = k)).map fun x => f x.N, 0) else ([], 1)
def fM (n : List Int) : ApiMaltStep := ⟨n.getD 0 0, n.getD 1 0, n.getD 2 0⟩
def fS (n : List Int) : ApiDrawn := ⟨n.getD 0 0, ⟨n.getD 1 0, n.getD 2 0⟩⟩
def fC (n : List Int) : ApiCaskEvent := ⟨n.getD 0 0, n.getD 1 0, n.getD 2 0, n.getD 3 0, n.getD 4 0, n.getD 5 0, n.getD 6 0, n.getD 7 0⟩
def fD (n : List Int) : ApiDutyEvent := ⟨n.getD 0 0, n.getD 1 0, n.getD 2 0, n.getD 3 0, n.getD 4 0, n.getD 5 0⟩
theorem idx_at {n : List Int} {i : Nat} (h : i < n.length) : idxL n (i : Int) = some (n.getD i 0) := by rw [idxL_nat, getD_get (d := 0) h]
theorem okS_most {x : ApiBooked} (h : okS x = true) : x.N.length = (mostS x.Kind).length := inM_len (okS_iff.1 h).2
theorem Steps_prog (l : List ApiBooked) : m_file_Steps l = some (pickS l 0 fM) := by
  unfold m_file_Steps m_file_chosen_MaltStep pickS
  rw [isBook_eq]
  simp only [Option.bind_some]
  by_cases hb : okBook l = true
  · obtain ⟨h1, hok⟩ := okBook_iff.1 hb
    rw [hb]
    simp only [Bool.not_true, Bool.false_eq_true, if_false, if_true]
    refine bind_of (bind_of (pick_loop l 0 fM (fun i x t hi hx ht => ?_) (fun t => ?_) (by omega)) rfl) rfl
    · have hlt := lt_get hx
      have hxo := hok x (List.mem_of_getElem? hx)
      unfold b_file_chosen_MaltStep_1
      rw [if_pos (by simp; omega)]
      simp only [idxL_nat, hx, Option.bind_some, nx (show i ≤ 1000000000 by omega)]
      by_cases e : x.Kind = 0
      · have hn := okS_most hxo
        rw [e] at hn
        have hn' : x.N.length = 3 := hn
        rw [if_pos (by simp [e]), if_pos e]
        unfold m_file_Steps_1
        rw [show (0 : Int) = ((0 : Nat) : Int) from rfl, show (1 : Int) = ((1 : Nat) : Int) from rfl, show (2 : Int) = ((2 : Nat) : Int) from rfl, idx_at (by omega), idx_at (by omega), idx_at (by omega)]
        simp only [Option.bind_some]
        rw [appO_some' (by simp; omega)]; rfl
      · rw [if_neg (by simp [e]), if_neg e]; rfl
    · unfold b_file_chosen_MaltStep_1
      rw [if_neg (by simp)]
  · simp only [Bool.not_eq_true] at hb
    rw [hb]; rfl
theorem Draws_prog (l : List ApiBooked) : m_file_Draws l = some (pickS l 1 fS) := by
  unfold m_file_Draws m_file_chosen_Drawn pickS
  rw [isBook_eq]
  simp only [Option.bind_some]
  by_cases hb : okBook l = true
  · obtain ⟨h1, hok⟩ := okBook_iff.1 hb
    rw [hb]
    simp only [Bool.not_true, Bool.false_eq_true, if_false, if_true]
    refine bind_of (bind_of (pick_loop l 1 fS (fun i x t hi hx ht => ?_) (fun t => ?_) (by omega)) rfl) rfl
    · have hlt := lt_get hx
      have hxo := hok x (List.mem_of_getElem? hx)
      unfold b_file_chosen_Drawn_1
      rw [if_pos (by simp; omega)]
      simp only [idxL_nat, hx, Option.bind_some, nx (show i ≤ 1000000000 by omega)]
      by_cases e : x.Kind = 1
      · have hn := okS_most hxo
        rw [e] at hn
        have hn' : x.N.length = 3 := hn
        rw [if_pos (by simp [e]), if_pos e]
        have i0 := idx_at (n := x.N) (i := 0) (by omega)
        have i1 := idx_at (n := x.N) (i := 1) (by omega)
        have i2 := idx_at (n := x.N) (i := 2) (by omega)
        have hd : m_file_Draws_1 x.N = some (fS x.N) := bind_of i0 (bind_of i1 (bind_of i2 rfl))
        simp only [hd, Option.bind_some]
        rw [appO_some' (by simp; omega)]; rfl
      · rw [if_neg (by simp [e]), if_neg e]; rfl
    · unfold b_file_chosen_Drawn_1
      rw [if_neg (by simp)]
  · simp only [Bool.not_eq_true] at hb
    rw [hb]; rfl
theorem Casks_prog (l : List ApiBooked) : m_file_Casks l = some (pickS l 2 fC) := by
  unfold m_file_Casks m_file_chosen_CaskEvent pickS
  rw [isBook_eq]
  simp only [Option.bind_some]
  by_cases hb : okBook l = true
  · obtain ⟨h1, hok⟩ := okBook_iff.1 hb
    rw [hb]
    simp only [Bool.not_true, Bool.false_eq_true, if_false, if_true]
    refine bind_of (bind_of (pick_loop l 2 fC (fun i x t hi hx ht => ?_) (fun t => ?_) (by omega)) rfl) rfl
    · have hlt := lt_get hx
      have hxo := hok x (List.mem_of_getElem? hx)
      unfold b_file_chosen_CaskEvent_1
      rw [if_pos (by simp; omega)]
      simp only [idxL_nat, hx, Option.bind_some, nx (show i ≤ 1000000000 by omega)]
      by_cases e : x.Kind = 2
      · have hn := okS_most hxo
        rw [e] at hn
        have hn' : x.N.length = 8 := hn
        rw [if_pos (by simp [e]), if_pos e]
        have i0 := idx_at (n := x.N) (i := 0) (by omega)
        have i1 := idx_at (n := x.N) (i := 1) (by omega)
        have i2 := idx_at (n := x.N) (i := 2) (by omega)
        have i3 := idx_at (n := x.N) (i := 3) (by omega)
        have i4 := idx_at (n := x.N) (i := 4) (by omega)
        have i5 := idx_at (n := x.N) (i := 5) (by omega)
        have i6 := idx_at (n := x.N) (i := 6) (by omega)
        have i7 := idx_at (n := x.N) (i := 7) (by omega)
        have hd : m_file_Casks_1 x.N = some (fC x.N) := bind_of i0 (bind_of i1 (bind_of i2 (bind_of i3 (bind_of i4 (bind_of i5 (bind_of i6 (bind_of i7 rfl)))))))
        simp only [hd, Option.bind_some]
        rw [appO_some' (by simp; omega)]; rfl
      · rw [if_neg (by simp [e]), if_neg e]; rfl
    · unfold b_file_chosen_CaskEvent_1
      rw [if_neg (by simp)]
  · simp only [Bool.not_eq_true] at hb
    rw [hb]; rfl
theorem Duties_prog (l : List ApiBooked) : m_file_Duties l = some (pickS l 3 fD) := by
  unfold m_file_Duties m_file_chosen_DutyEvent pickS
  rw [isBook_eq]
  simp only [Option.bind_some]
  by_cases hb : okBook l = true
  · obtain ⟨h1, hok⟩ := okBook_iff.1 hb
    rw [hb]
    simp only [Bool.not_true, Bool.false_eq_true, if_false, if_true]
    refine bind_of (bind_of (pick_loop l 3 fD (fun i x t hi hx ht => ?_) (fun t => ?_) (by omega)) rfl) rfl
    · have hlt := lt_get hx
      have hxo := hok x (List.mem_of_getElem? hx)
      unfold b_file_chosen_DutyEvent_1
      rw [if_pos (by simp; omega)]
      simp only [idxL_nat, hx, Option.bind_some, nx (show i ≤ 1000000000 by omega)]
      by_cases e : x.Kind = 3
      · have hn := okS_most hxo
        rw [e] at hn
        have hn' : x.N.length = 6 := hn
        rw [if_pos (by simp [e]), if_pos e]
        have i0 := idx_at (n := x.N) (i := 0) (by omega)
        have i1 := idx_at (n := x.N) (i := 1) (by omega)
        have i2 := idx_at (n := x.N) (i := 2) (by omega)
        have i3 := idx_at (n := x.N) (i := 3) (by omega)
        have i4 := idx_at (n := x.N) (i := 4) (by omega)
        have i5 := idx_at (n := x.N) (i := 5) (by omega)
        have hd : m_file_Duties_1 x.N = some (fD x.N) := bind_of i0 (bind_of i1 (bind_of i2 (bind_of i3 (bind_of i4 (bind_of i5 rfl)))))
        simp only [hd, Option.bind_some]
        rw [appO_some' (by simp; omega)]; rfl
      · rw [if_neg (by simp [e]), if_neg e]; rfl
    · unfold b_file_chosen_DutyEvent_1
      rw [if_neg (by simp)]
  · simp only [Bool.not_eq_true] at hb
    rw [hb]; rfl
end Go.Proofs.YthnlglmjffdpfaaGreatDoor
end

section
namespace Go.Proofs.YthnlglmjffdpfaaGreatDoor
open Go.Dec
theorem same_all {α : Type} {body : Int → Option (Ctl Int (Unit ⊕ Bool))} (l : List α) (hs : ∀ (i : Nat) (x : α), i ≤ 1000000 → l[i]? = some x → body (i : Int) = some (.next (((i + 1 : Nat) : Int)))) (he : body (l.length : Int) = some (.done (.inl ()))) (hl : l.length ≤ 1000000) : loopM body 0 = some (.inl ()) := by
  have h := loop_chk (body := body) (good := (.inl () : Unit ⊕ Bool)) (fun _ => .inr false) (fun _ => true) l.length (fun i hi => hs i l[i] (by omega) (List.getElem?_eq_getElem hi)) he
  rcases h with ⟨_, h2⟩ | ⟨k, h1, h2, h3, h4⟩
  · exact h2
  · cases h2
theorem sameM (l : List ApiMaltStep) (hl : l.length ≤ 1000000) : m_wormtublaw14_same_MaltStep l l = some true := by
  unfold m_wormtublaw14_same_MaltStep
  rw [if_neg (by simp)]
  refine bind_of (same_all l (fun i x hi hx => ?_) ?_ hl) rfl
  · have := lt_get hx
    unfold b_wormtublaw14_same_MaltStep_1
    rw [if_pos (by simp; omega)]
    simp only [idxL_nat, hx, Option.bind_some, nx (show i ≤ 1000000000 by omega)]
    rw [if_neg (by simp [eq_49])]
  · unfold b_wormtublaw14_same_MaltStep_1; rw [if_neg (by simp)]
theorem sameS (l : List ApiDrawn) (hl : l.length ≤ 1000000) : m_wormtublaw14_same_Drawn l l = some true := by
  unfold m_wormtublaw14_same_Drawn
  rw [if_neg (by simp)]
  refine bind_of (same_all l (fun i x hi hx => ?_) ?_ hl) rfl
  · have := lt_get hx
    unfold b_wormtublaw14_same_Drawn_1
    rw [if_pos (by simp; omega)]
    simp only [idxL_nat, hx, Option.bind_some, nx (show i ≤ 1000000000 by omega)]
    rw [if_neg (by simp [eq_54, eq_52])]
  · unfold b_wormtublaw14_same_Drawn_1; rw [if_neg (by simp)]
theorem sameC (l : List ApiCaskEvent) (hl : l.length ≤ 1000000) : m_wormtublaw14_same_CaskEvent l l = some true := by
  unfold m_wormtublaw14_same_CaskEvent
  rw [if_neg (by simp)]
  refine bind_of (same_all l (fun i x hi hx => ?_) ?_ hl) rfl
  · have := lt_get hx
    unfold b_wormtublaw14_same_CaskEvent_1
    rw [if_pos (by simp; omega)]
    simp only [idxL_nat, hx, Option.bind_some, nx (show i ≤ 1000000000 by omega)]
    rw [if_neg (by simp [eq_69])]
  · unfold b_wormtublaw14_same_CaskEvent_1; rw [if_neg (by simp)]
theorem sameD (l : List ApiDutyEvent) (hl : l.length ≤ 1000000) : m_wormtublaw14_same_DutyEvent l l = some true := by
  unfold m_wormtublaw14_same_DutyEvent
  rw [if_neg (by simp)]
  refine bind_of (same_all l (fun i x hi hx => ?_) ?_ hl) rfl
  · have := lt_get hx
    unfold b_wormtublaw14_same_DutyEvent_1
    rw [if_pos (by simp; omega)]
    simp only [idxL_nat, hx, Option.bind_some, nx (show i ≤ 1000000000 by omega)]
    rw [if_neg (by simp [eq_72])]
  · unfold b_wormtublaw14_same_DutyEvent_1; rw [if_neg (by simp)]
end Go.Proofs.YthnlglmjffdpfaaGreatDoor
end

section
namespace Go.Proofs.YthnlglmjffdpfaaGreatDoor
open Go.Dec
theorem Tryz.own : ownKnob Tryz.prog.godebug = none := by kernel_rfl
theorem Tryz.laidOut : laidOutB Tryz.prog = true := by kernel_rfl
def okApiBooked (x : ApiBooked) : Prop := (Lit.int .i64 x.Kind).wf = true ∧ (∀ y3 ∈ x.N, (Lit.int .i64 y3).wf = true)
theorem vApiBooked {H : Type} {enc : TypeId × Value → H} {W : World} : Viewed enc Tryz.prog W 41 rApiBooked okApiBooked := by
 intro sp held fuel cs x h
 obtain ⟨xs, k, _, _, hl, hxl, hx⟩ := DataW.trod_struct Tryz.underlying41 h
 have hl' : cs.length = 2 := hl.trans (by kernel_rfl)
 obtain ⟨y0, h0⟩ := some_of (hx 0 _ rfl) hxl rfl
 have e0 : Tryz.prog.cellsOf 3 = 1 := by kernel_rfl
 obtain ⟨m0, o0, q0⟩ := (Viewed.int Tryz.underlying3) _ _ _ _ _ h0
 obtain ⟨y1, h1⟩ := some_of (hx 1 _ rfl) hxl rfl
 have e1 : Tryz.prog.cellsOf 31 = 1 := by kernel_rfl
 obtain ⟨m1, o1, q1⟩ := (Viewed.slice (sz := 1) Tryz.underlying31 (by kernel_rfl) (by decide) (Viewed.int Tryz.underlying3)) _ _ _ _ _ h1
 refine ⟨⟨m0, m1⟩, ⟨o0, o1⟩, fun F' le => ?_⟩
 have w0 : (cs.drop 0).take (Tryz.prog.cellsOf 3) = (cInt .i64) m0 := q0 F' le
 rw [e0] at w0
 have w1 : (rSl 1 (Ex (cInt .i64))) F' m1 ((cs.drop 1).take (Tryz.prog.cellsOf 31)) := q1 F' le
 rw [e1] at w1
 obtain ⟨p1_0, p1_1, w1, r1_0⟩ := w1
 exact ⟨p1_0, p1_1, (cat_cons w0 (cat_cons w1 (cat_nil hl'))), r1_0⟩
def okApiMaltStep (x : ApiMaltStep) : Prop := (Lit.int .i64 x.Kind).wf = true ∧ (Lit.int .i64 x.A).wf = true ∧ (Lit.int .i64 x.B).wf = true
theorem vApiMaltStep {H : Type} {enc : TypeId × Value → H} {W : World} : Viewed enc Tryz.prog W 49 (Ex cApiMaltStep) okApiMaltStep := by
 intro sp held fuel cs x h
 obtain ⟨xs, k, _, _, hl, hxl, hx⟩ := DataW.trod_struct Tryz.underlying49 h
 have hl' : cs.length = 3 := hl.trans (by kernel_rfl)
 obtain ⟨y0, h0⟩ := some_of (hx 0 _ rfl) hxl rfl
 have e0 : Tryz.prog.cellsOf 3 = 1 := by kernel_rfl
 obtain ⟨m0, o0, q0⟩ := (Viewed.int Tryz.underlying3) _ _ _ _ _ h0
 obtain ⟨y1, h1⟩ := some_of (hx 1 _ rfl) hxl rfl
 have e1 : Tryz.prog.cellsOf 3 = 1 := by kernel_rfl
 obtain ⟨m1, o1, q1⟩ := (Viewed.int Tryz.underlying3) _ _ _ _ _ h1
 obtain ⟨y2, h2⟩ := some_of (hx 2 _ rfl) hxl rfl
 have e2 : Tryz.prog.cellsOf 3 = 1 := by kernel_rfl
 obtain ⟨m2, o2, q2⟩ := (Viewed.int Tryz.underlying3) _ _ _ _ _ h2
 refine ⟨⟨m0, m1, m2⟩, ⟨o0, o1, o2⟩, fun F' le => ?_⟩
 have w0 : (cs.drop 0).take (Tryz.prog.cellsOf 3) = (cInt .i64) m0 := q0 F' le
 rw [e0] at w0
 have w1 : (cs.drop 1).take (Tryz.prog.cellsOf 3) = (cInt .i64) m1 := q1 F' le
 rw [e1] at w1
 have w2 : (cs.drop 2).take (Tryz.prog.cellsOf 3) = (cInt .i64) m2 := q2 F' le
 rw [e2] at w2
 exact (cat_cons w0 (cat_cons w1 (cat_cons w2 (cat_nil hl'))))
def okApiSpan (x : ApiSpan) : Prop := (Lit.int .i64 x.Lo).wf = true ∧ (Lit.int .i64 x.Hi).wf = true
theorem vApiSpan {H : Type} {enc : TypeId × Value → H} {W : World} : Viewed enc Tryz.prog W 52 (Ex cApiSpan) okApiSpan := by
 intro sp held fuel cs x h
 obtain ⟨xs, k, _, _, hl, hxl, hx⟩ := DataW.trod_struct Tryz.underlying52 h
 have hl' : cs.length = 2 := hl.trans (by kernel_rfl)
 obtain ⟨y0, h0⟩ := some_of (hx 0 _ rfl) hxl rfl
 have e0 : Tryz.prog.cellsOf 3 = 1 := by kernel_rfl
 obtain ⟨m0, o0, q0⟩ := (Viewed.int Tryz.underlying3) _ _ _ _ _ h0
 obtain ⟨y1, h1⟩ := some_of (hx 1 _ rfl) hxl rfl
 have e1 : Tryz.prog.cellsOf 3 = 1 := by kernel_rfl
 obtain ⟨m1, o1, q1⟩ := (Viewed.int Tryz.underlying3) _ _ _ _ _ h1
 refine ⟨⟨m0, m1⟩, ⟨o0, o1⟩, fun F' le => ?_⟩
 have w0 : (cs.drop 0).take (Tryz.prog.cellsOf 3) = (cInt .i64) m0 := q0 F' le
 rw [e0] at w0
 have w1 : (cs.drop 1).take (Tryz.prog.cellsOf 3) = (cInt .i64) m1 := q1 F' le
 rw [e1] at w1
 exact (cat_cons w0 (cat_cons w1 (cat_nil hl')))
def okApiDrawn (x : ApiDrawn) : Prop := (Lit.int .i64 x.Amount).wf = true ∧ okApiSpan x.Alcohol
theorem vApiDrawn {H : Type} {enc : TypeId × Value → H} {W : World} : Viewed enc Tryz.prog W 54 (Ex cApiDrawn) okApiDrawn := by
 intro sp held fuel cs x h
 obtain ⟨xs, k, _, _, hl, hxl, hx⟩ := DataW.trod_struct Tryz.underlying54 h
 have hl' : cs.length = 3 := hl.trans (by kernel_rfl)
 obtain ⟨y0, h0⟩ := some_of (hx 0 _ rfl) hxl rfl
 have e0 : Tryz.prog.cellsOf 3 = 1 := by kernel_rfl
 obtain ⟨m0, o0, q0⟩ := (Viewed.int Tryz.underlying3) _ _ _ _ _ h0
 obtain ⟨y1, h1⟩ := some_of (hx 1 _ rfl) hxl rfl
 have e1 : Tryz.prog.cellsOf 52 = 2 := by kernel_rfl
 obtain ⟨m1, o1, q1⟩ := vApiSpan _ _ _ _ _ h1
 refine ⟨⟨m0, m1⟩, ⟨o0, o1⟩, fun F' le => ?_⟩
 have w0 : (cs.drop 0).take (Tryz.prog.cellsOf 3) = (cInt .i64) m0 := q0 F' le
 rw [e0] at w0
 have w1 : (cs.drop 1).take (Tryz.prog.cellsOf 52) = cApiSpan m1 := q1 F' le
 rw [e1] at w1
 exact (cat_cons w0 (cat_cons w1 (cat_nil hl')))
def okApiDutyEvent (x : ApiDutyEvent) : Prop := (Lit.int .i64 x.Kind).wf = true ∧ (Lit.int .i64 x.Day).wf = true ∧ (Lit.int .i64 x.Bond).wf = true ∧ (Lit.int .i64 x.To).wf = true ∧ (Lit.int .i64 x.Id).wf = true ∧ (Lit.int .i64 x.Amount).wf = true
theorem vApiDutyEvent {H : Type} {enc : TypeId × Value → H} {W : World} : Viewed enc Tryz.prog W 72 (Ex cApiDutyEvent) okApiDutyEvent := by
 intro sp held fuel cs x h
 obtain ⟨xs, k, _, _, hl, hxl, hx⟩ := DataW.trod_struct Tryz.underlying72 h
 have hl' : cs.length = 6 := hl.trans (by kernel_rfl)
 obtain ⟨y0, h0⟩ := some_of (hx 0 _ rfl) hxl rfl
 have e0 : Tryz.prog.cellsOf 3 = 1 := by kernel_rfl
 obtain ⟨m0, o0, q0⟩ := (Viewed.int Tryz.underlying3) _ _ _ _ _ h0
 obtain ⟨y1, h1⟩ := some_of (hx 1 _ rfl) hxl rfl
 have e1 : Tryz.prog.cellsOf 3 = 1 := by kernel_rfl
 obtain ⟨m1, o1, q1⟩ := (Viewed.int Tryz.underlying3) _ _ _ _ _ h1
 obtain ⟨y2, h2⟩ := some_of (hx 2 _ rfl) hxl rfl
 have e2 : Tryz.prog.cellsOf 3 = 1 := by kernel_rfl
 obtain ⟨m2, o2, q2⟩ := (Viewed.int Tryz.underlying3) _ _ _ _ _ h2
 obtain ⟨y3, h3⟩ := some_of (hx 3 _ rfl) hxl rfl
 have e3 : Tryz.prog.cellsOf 3 = 1 := by kernel_rfl
 obtain ⟨m3, o3, q3⟩ := (Viewed.int Tryz.underlying3) _ _ _ _ _ h3
 obtain ⟨y4, h4⟩ := some_of (hx 4 _ rfl) hxl rfl
 have e4 : Tryz.prog.cellsOf 3 = 1 := by kernel_rfl
 obtain ⟨m4, o4, q4⟩ := (Viewed.int Tryz.underlying3) _ _ _ _ _ h4
 obtain ⟨y5, h5⟩ := some_of (hx 5 _ rfl) hxl rfl
 have e5 : Tryz.prog.cellsOf 3 = 1 := by kernel_rfl
 obtain ⟨m5, o5, q5⟩ := (Viewed.int Tryz.underlying3) _ _ _ _ _ h5
 refine ⟨⟨m0, m1, m2, m3, m4, m5⟩, ⟨o0, o1, o2, o3, o4, o5⟩, fun F' le => ?_⟩
 have w0 : (cs.drop 0).take (Tryz.prog.cellsOf 3) = (cInt .i64) m0 := q0 F' le
 rw [e0] at w0
 have w1 : (cs.drop 1).take (Tryz.prog.cellsOf 3) = (cInt .i64) m1 := q1 F' le
 rw [e1] at w1
 have w2 : (cs.drop 2).take (Tryz.prog.cellsOf 3) = (cInt .i64) m2 := q2 F' le
 rw [e2] at w2
 have w3 : (cs.drop 3).take (Tryz.prog.cellsOf 3) = (cInt .i64) m3 := q3 F' le
 rw [e3] at w3
 have w4 : (cs.drop 4).take (Tryz.prog.cellsOf 3) = (cInt .i64) m4 := q4 F' le
 rw [e4] at w4
 have w5 : (cs.drop 5).take (Tryz.prog.cellsOf 3) = (cInt .i64) m5 := q5 F' le
 rw [e5] at w5
 exact (cat_cons w0 (cat_cons w1 (cat_cons w2 (cat_cons w3 (cat_cons w4 (cat_cons w5 (cat_nil hl')))))))
def okApiCaskEvent (x : ApiCaskEvent) : Prop := (Lit.int .i64 x.Kind).wf = true ∧ (Lit.int .i64 x.Day).wf = true ∧ (Lit.int .i64 x.Cask).wf = true ∧ (Lit.int .i64 x.Other).wf = true ∧ (Lit.int .i64 x.Person).wf = true ∧ (Lit.int .i64 x.To).wf = true ∧ (Lit.int .i64 x.Amount).wf = true ∧ (Lit.int .i64 x.Where).wf = true
theorem vApiCaskEvent {H : Type} {enc : TypeId × Value → H} {W : World} : Viewed enc Tryz.prog W 69 (Ex cApiCaskEvent) okApiCaskEvent := by
 intro sp held fuel cs x h
 obtain ⟨xs, k, _, _, hl, hxl, hx⟩ := DataW.trod_struct Tryz.underlying69 h
 have hl' : cs.length = 8 := hl.trans (by kernel_rfl)
 obtain ⟨y0, h0⟩ := some_of (hx 0 _ rfl) hxl rfl
 have e0 : Tryz.prog.cellsOf 3 = 1 := by kernel_rfl
 obtain ⟨m0, o0, q0⟩ := (Viewed.int Tryz.underlying3) _ _ _ _ _ h0
 obtain ⟨y1, h1⟩ := some_of (hx 1 _ rfl) hxl rfl
 have e1 : Tryz.prog.cellsOf 3 = 1 := by kernel_rfl
 obtain ⟨m1, o1, q1⟩ := (Viewed.int Tryz.underlying3) _ _ _ _ _ h1
 obtain ⟨y2, h2⟩ := some_of (hx 2 _ rfl) hxl rfl
 have e2 : Tryz.prog.cellsOf 3 = 1 := by kernel_rfl
 obtain ⟨m2, o2, q2⟩ := (Viewed.int Tryz.underlying3) _ _ _ _ _ h2
 obtain ⟨y3, h3⟩ := some_of (hx 3 _ rfl) hxl rfl
 have e3 : Tryz.prog.cellsOf 3 = 1 := by kernel_rfl
 obtain ⟨m3, o3, q3⟩ := (Viewed.int Tryz.underlying3) _ _ _ _ _ h3
 obtain ⟨y4, h4⟩ := some_of (hx 4 _ rfl) hxl rfl
 have e4 : Tryz.prog.cellsOf 3 = 1 := by kernel_rfl
 obtain ⟨m4, o4, q4⟩ := (Viewed.int Tryz.underlying3) _ _ _ _ _ h4
 obtain ⟨y5, h5⟩ := some_of (hx 5 _ rfl) hxl rfl
 have e5 : Tryz.prog.cellsOf 3 = 1 := by kernel_rfl
 obtain ⟨m5, o5, q5⟩ := (Viewed.int Tryz.underlying3) _ _ _ _ _ h5
 obtain ⟨y6, h6⟩ := some_of (hx 6 _ rfl) hxl rfl
 have e6 : Tryz.prog.cellsOf 3 = 1 := by kernel_rfl
 obtain ⟨m6, o6, q6⟩ := (Viewed.int Tryz.underlying3) _ _ _ _ _ h6
 obtain ⟨y7, h7⟩ := some_of (hx 7 _ rfl) hxl rfl
 have e7 : Tryz.prog.cellsOf 3 = 1 := by kernel_rfl
 obtain ⟨m7, o7, q7⟩ := (Viewed.int Tryz.underlying3) _ _ _ _ _ h7
 refine ⟨⟨m0, m1, m2, m3, m4, m5, m6, m7⟩, ⟨o0, o1, o2, o3, o4, o5, o6, o7⟩, fun F' le => ?_⟩
 have w0 : (cs.drop 0).take (Tryz.prog.cellsOf 3) = (cInt .i64) m0 := q0 F' le
 rw [e0] at w0
 have w1 : (cs.drop 1).take (Tryz.prog.cellsOf 3) = (cInt .i64) m1 := q1 F' le
 rw [e1] at w1
 have w2 : (cs.drop 2).take (Tryz.prog.cellsOf 3) = (cInt .i64) m2 := q2 F' le
 rw [e2] at w2
 have w3 : (cs.drop 3).take (Tryz.prog.cellsOf 3) = (cInt .i64) m3 := q3 F' le
 rw [e3] at w3
 have w4 : (cs.drop 4).take (Tryz.prog.cellsOf 3) = (cInt .i64) m4 := q4 F' le
 rw [e4] at w4
 have w5 : (cs.drop 5).take (Tryz.prog.cellsOf 3) = (cInt .i64) m5 := q5 F' le
 rw [e5] at w5
 have w6 : (cs.drop 6).take (Tryz.prog.cellsOf 3) = (cInt .i64) m6 := q6 F' le
 rw [e6] at w6
 have w7 : (cs.drop 7).take (Tryz.prog.cellsOf 3) = (cInt .i64) m7 := q7 F' le
 rw [e7] at w7
 exact (cat_cons w0 (cat_cons w1 (cat_cons w2 (cat_cons w3 (cat_cons w4 (cat_cons w5 (cat_cons w6 (cat_cons w7 (cat_nil hl')))))))))
theorem vt22 {H : Type} {enc : TypeId × Value → H} {W : World} : Viewed enc Tryz.prog W 22 (rSl 2 rApiBooked) (fun x => (∀ y1 ∈ x, okApiBooked y1)) := (Viewed.slice (sz := 2) Tryz.underlying22 (by kernel_rfl) (by decide) vApiBooked)
theorem vt50 {H : Type} {enc : TypeId × Value → H} {W : World} : Viewed enc Tryz.prog W 50 (rSl 3 (Ex cApiMaltStep)) (fun x => (∀ y1 ∈ x, okApiMaltStep y1)) := (Viewed.slice (sz := 3) Tryz.underlying50 (by kernel_rfl) (by decide) vApiMaltStep)
theorem vt55 {H : Type} {enc : TypeId × Value → H} {W : World} : Viewed enc Tryz.prog W 55 (rSl 3 (Ex cApiDrawn)) (fun x => (∀ y1 ∈ x, okApiDrawn y1)) := (Viewed.slice (sz := 3) Tryz.underlying55 (by kernel_rfl) (by decide) vApiDrawn)
theorem vt56 {H : Type} {enc : TypeId × Value → H} {W : World} : Viewed enc Tryz.prog W 56 (rSl 6 (Ex cApiDutyEvent)) (fun x => (∀ y1 ∈ x, okApiDutyEvent y1)) := (Viewed.slice (sz := 6) Tryz.underlying56 (by kernel_rfl) (by decide) vApiDutyEvent)
theorem vt58 {H : Type} {enc : TypeId × Value → H} {W : World} : Viewed enc Tryz.prog W 58 (rSl 8 (Ex cApiCaskEvent)) (fun x => (∀ y1 ∈ x, okApiCaskEvent y1)) := (Viewed.slice (sz := 8) Tryz.underlying58 (by kernel_rfl) (by decide) vApiCaskEvent)
end Go.Proofs.YthnlglmjffdpfaaGreatDoor
end
