/- Own texts and texts printed by a program of mine, for fileOwns_holds; only what it reaches. -/
import Derived.Test.YthnlglmjffdpfaaGreatDoorPo5
import Derived.Test.YthnlglmjffdpfaaGreatDoorTie
import Derived.Test.YthnlglmjffdpfaaGreatDoorCards
section
namespace Go.Proofs.YthnlglmjffdpfaaGreatDoor
open Go.Dec
def rApiBooked0 (G : Fz) : ERel ApiBooked := fun F x vs => ∃ p0 k0, vs = cApiBooked x p0 k0 ∧ RepSl0 1 (Ex (cInt .i64)) 3 G F p0 k0 x.N
theorem ok_t41_0 {G : Fz} : ElemOK Tryz.prog 41 2 (rApiBooked0 G) := .mk (fun _ _ _ ⟨_, _, h, _⟩ => h ▸ rfl) (fun _ _ _ ⟨_, _, h, _⟩ => h ▸ rfl) (fun _ _ _ _ le ⟨q0, q1, h, h0⟩ => ⟨q0, q1, h, h0.mono le⟩) Tryz.sizeOf41 ⟨_, Tryz.typeInfo41, by decide +kernel, by decide +kernel⟩ ⟨_, Tryz.zeroValue41, rfl⟩
set_option maxRecDepth 100000 in
set_option maxHeartbeats 4000000 in
theorem c_file_row_read_0 (F0 : Fz) (hT : TabsP F0) (r_1 : (Nat → Int)) : CTX Tryz.prog penc 87 [(.agg ((cArr 96 (cInt .u8)) r_1).toArray)].toArray F0 [] (m_file_row_read r_1) (fun (r : ApiBooked) F v => ∃ (p0 : Option Addr) (k0 : Nat), v = (eApiBooked r p0 k0) ∧ RepSl0 1 (Ex (cInt .i64)) 3 F0 F p0 k0 r.N) (fun (r : ApiBooked) F' _ => []) := by
  refine CTX.enter Tryz.func87 rfl Tryz.ntmps87 rfl fun r R => ?_
  refine .norm (Sub.refl _) (rfl : _ = [R]) ?_
  unfold m_file_row_read
  refine .seq (.region (.boxF (cs := ((cArr 96 (cInt .u8)) r_1)) rfl rfl rfl (fun b2 F_3 l_4 hb5 => ?_)))
  refine .alloc (cs := (cApiBooked (ApiBooked.mk 0 ([])) none 0)) rfl Tryz.zeroValue41 rfl (fun b6 => ?_)
  refine .nil (.code (.seq (.region ?_)))
  have h7 : RepSl 1 (Ex (cInt .u8)) F_3 (some ⟨b2, 0, none⟩) 96 (arrL 87 r_1) := RepSl.ofArrHi (fun _ => rfl) rfl hb5
  refine .sliceArrHi rfl Tryz.underlying83 Tryz.sizeOf5 rfl rfl rfl rfl (.relen (arrL_len 87 r_1).symm (.bytesStr rfl Tryz.underlying25 Tryz.underlying5 Tryz.underlying9 h7 rfl (.call0 rfl Tryz.call98 rfl rfl rfl (c_strings_TrimRight _ (u8s (arrL 87 r_1)) ([46] : List UInt8)) ?_)))
  rintro r_10 F_8 _ - l_9 rfl
  refine .call0 rfl Tryz.call97 rfl rfl rfl (c_strings_Split _ (hT.mono (Fz.t l_4 l_9)) r_10 ([32] : List UInt8)) ?_
  rintro r_13 F_11 _ - l_12 ⟨p14, k15, rfl, h16⟩
  refine .alloc (cs := [(.slice none 0 0)]) rfl Tryz.zeroValue86 rfl (fun b17 => ?_)
  refine .store (cs' := [(.slice p14 r_13.length k15)]) Tryz.sizeOf86 rfl rfl rfl rfl (i := 0) rfl (Nat.le_of_ble_eq_true rfl) rfl rfl (.nil (.code (.seq (.region (.call0 rfl Tryz.call78 rfl rfl rfl (c_file_kinds _ ) ?_)))))
  rintro r_20 F_18 _ - l_19 ⟨p21, k22, rfl, h23⟩
  refine .freeze 0 rfl (fun F_24 l_25 hb26 => ?_)
  refine .makeFunc rfl rfl ?_
  have hf27 : RepFn Tryz.prog F_24 100 [(.pointer (some ⟨b17, 0, none⟩))] (fun x F vs => ∃ p0 k0, vs = [(eFileKind x p0 k0)] ∧ RepSl 1 (Ex (cInt .i64)) F p0 k0 x.most) (fun r _ v => v = (.bool r)) (fun x => m_file_row_read_1 x r_13) := ⟨Tryz.call100, fun F' le' x vs hv => by obtain ⟨_, _, rfl, hq0⟩ := hv; exact c_file_row_read_1 F' x _ _ hq0 r_13 b17 p14 k15 (le'.mem _ _ hb26) ((h16.mono (Fz.t l_19 l_25)).mono le')⟩
  refine .call0 rfl Tryz.call99 rfl rfl rfl (c_slices_IndexFunc_kind _ r_20 p21 k22 (h23.mono l_25) (fun x => m_file_row_read_1 x r_13) 100 ([(.pointer (some ⟨b17, 0, none⟩))]) hf27) ?_
  rintro r_30 F_28 _ - l_29 rfl
  refine .assign rfl rfl (.nil (.code (.seq (.region (.move rfl rfl (.geq rfl rfl rfl (.callB [] rfl Tryz.call101 rfl rfl rfl rfl (c_file_need _ (decide (r_30 ≥ 0))) ?_ (fun q37 F_35 _ l_36 => (pan_postX (i := 1) rfl (Fz.t l_4 (Fz.t l_9 (Fz.t l_12 (Fz.t l_19 (Fz.t l_25 (Fz.t l_29 l_36)))))))))))))))
  rintro r_31 F_32 _ e34 l_33 rfl
  refine .pick [0, 0] (rfl : _ = [pt b6 (.cells (cApiBooked (ApiBooked.mk 0 ([])) none 0).toArray 41), R]) (.nil (.code (.seq (.region (.move rfl rfl (.build (cs := (cApiBooked (ApiBooked.mk r_30 ([])) none 0).toArray) rfl Tryz.underlying41 Tryz.zeroValue41 (plApiBooked _ Tryz.underlying41) rfl rfl (by kernel_rfl) ?_))))))
  refine .alloc (cs := (cApiBooked (ApiBooked.mk 0 ([])) none 0)) rfl Tryz.zeroValue41 rfl (fun b38 => ?_)
  refine .ownNil 1 (Ex (cInt .i64)) 3 (.ownConv 0 rfl (show [] = (ApiBooked.mk r_30 ([])).N from rfl) (.store (cs' := (cApiBooked (ApiBooked.mk r_30 ([])) none 0)) Tryz.sizeOf41 rfl rfl rfl rfl (i := 1) rfl (Nat.le_of_ble_eq_true rfl) rfl (setMany_all (by rfl)) (.nil (.code (.seq (.seq (.region (.loadF rfl Tryz.isAgg86 rfl ((Fz.t l_29 l_33).mem _ _ hb26) rfl ?_))))))))
  refine .sliceLo rfl Tryz.underlying86 Tryz.sizeOf9 (h16.mono (Fz.t l_19 (Fz.t l_25 (Fz.t l_29 l_33)))) rfl rfl (fun l_40 p41 k42 e43 h44 => ?_)
  refine .lenS rfl rfl Tryz.underlying86 rfl (.move rfl rfl (.nil (.code (.block (.keep (.cons (k := 1) rfl (.cons (k := 2) rfl (.cons (k := 5) rfl (.cons (k := 23) rfl (.cons (k := 24) rfl (.cons (k := 25) rfl (.nil _))))))) ?_)))))
  refine .loop (fun (s45 : Int × ApiBooked) a w => ∃ (F_46 : Fz) (p48 : Option Addr) (k49 : Nat), F_32 ≤ F_46 ∧ Hd 54 [] [(1, (.pointer (some ⟨b2, 0, none⟩))), (2, (.pointer (some ⟨b6, 0, none⟩))), (5, (.pointer (some ⟨b38, 0, none⟩))), (23, (.slice p41 l_40.length k42)), (24, (.int .i64 (l_40.length : Int))), (25, (.int .i64 s45.1))] F_46 [ownSl 1 (Ex (cInt .i64)) F_46 3 p48 k49 s45.2.N, pt b38 (.cells (cApiBooked s45.2 p48 k49).toArray 41), pt b6 (.cells (cApiBooked (ApiBooked.mk 0 ([])) none 0).toArray 41), R] a w) (fun b0 e a w => match b0 with | .inl b86 => e = .exit 0 ∧ ∃ (F_87 : Fz) (p89 : Option Addr) (k90 : Nat), F_32 ≤ F_87 ∧ Hd 54 [] [(1, (.pointer (some ⟨b2, 0, none⟩))), (2, (.pointer (some ⟨b6, 0, none⟩))), (5, (.pointer (some ⟨b38, 0, none⟩)))] F_87 [ownSl 1 (Ex (cInt .i64)) F_87 3 p89 k90 b86.N, pt b38 (.cells (cApiBooked b86 p89 k90).toArray 41), pt b6 (.cells (cApiBooked (ApiBooked.mk 0 ([])) none 0).toArray 41), R] a w | .inr b86 => e = .panic [{ v := penc b86, recovered := false }] ∧ ∃ (F_92 : Fz), F_32 ≤ F_92 ∧ Hd 54 [] [] F_92 [R] a w) ?_ ?_ ?_
  · exact fun a w h => ⟨F_32, none, 0, Fz.r, h.1.sub (.cons (k := 1) rfl (.cons (k := 2) rfl (.cons (k := 5) rfl (.cons (k := 23) rfl (.cons (k := 24) rfl (.cons (k := 25) rfl (.nil _))))))), h.2⟩
  · intro s45 ctl
    refine GC.ex (fun a w ⟨F_46, p48, k49, l_47, hA⟩ => ⟨_, hA, ?_⟩)
    unfold b_file_row_read_1
    refine .seq (.region (.lss rfl rfl rfl (.nil (.code (.seq (.cond rfl (fun hb51 => ?_) (fun hb51 => ?_)))))))
    · skip
      refine .skip (.code (.seq (.block (.seq (.region (.idx rfl Tryz.underlying86 Tryz.sizeOf9 (h44.mono l_47) rfl rfl (fun x52 b53 o54 T55 fr56 cs57 e58 hm59 hv60 => ?_)))))))
      refine .loadF rfl Tryz.isAgg9 rfl hm59 (cell_of_take (k := 0) hv60 rfl) (.assign rfl rfl (.nil (.code (.seq (.region (.move rfl rfl (.call0 rfl Tryz.call102 rfl rfl rfl (c_strconv_Atoi _ (hT.mono (Fz.t l_4 (Fz.t l_9 (Fz.t l_12 (Fz.t l_19 (Fz.t l_25 (Fz.t l_29 (Fz.t l_33 l_47)))))))) x52) ?_)))))))
      rintro r_64 F_62 _ - l_63 ⟨p65, k66, rfl, h67⟩
      refine .move rfl rfl (.extract rfl rfl rfl (.extract rfl rfl rfl (.assign rfl rfl (.assign rfl rfl (.nil (.code (.seq (.region (.move rfl rfl (.eqlErr rfl h67 Tryz.underlying120 rfl (.callB [] rfl Tryz.call101 rfl rfl rfl rfl (c_file_need _ (!r_64.2)) ?_ (fun q74 F_72 _ l_73 => (LPost.panQ fun a w h => ⟨rfl, F_72, (Fz.t l_47 (Fz.t l_63 l_73)), h.1.sub (.nil _), SH.picks [3] rfl h.2⟩)))))))))))))
      rintro r_68 F_69 _ e71 l_70 rfl
      refine .pick [0, 0, 0, 0] (rfl : _ = [ownSl 1 (Ex (cInt .i64)) F_46 3 p48 k49 s45.2.N, pt b38 (.cells (cApiBooked s45.2 p48 k49).toArray 41), pt b6 (.cells (cApiBooked (ApiBooked.mk 0 ([])) none 0).toArray 41), R]) (.nil (.code (.region (.fieldAddr rfl Tryz.underlying41 rfl Tryz.sizeOf31 rfl (.loadO rfl Tryz.isAgg31 rfl (i := 1) rfl rfl (.move rfl rfl ?_))))))
      refine .sliceLit (cs := [.int .i64 r_64.1]) (zc := [.int .i64 0]) rfl Tryz.underlying31 Tryz.sizeOf3 Tryz.zeroValue3 rfl rfl rfl (by kernel_rfl) (by kernel_rfl) (fun b75 F_76 l_77 hb78 => ?_)
      have h79 : RepSl 1 (Ex (cInt .i64)) F_76 (some ⟨b75, 0, none⟩) 1 ([r_64.1]) := RepSl.ofRow hb78 (.cons ok_t3.mono rfl .nil) rfl rfl
      refine .append 0 ok_t3 (Fz.t l_63 (Fz.t l_70 l_77)) rfl Tryz.underlying31 Tryz.underlying31 rfl rfl rfl h79 rfl rfl (fun l_80 p81 k82 e83 => ?_)
      refine .fieldAddr rfl Tryz.underlying41 rfl Tryz.sizeOf31 rfl (.letv (fun x84 e85 => ?_))
      refine .ownConv 0 rfl (show l_80 = x84.N by rw [e85]) (.store (cs' := (cApiBooked x84 p81 k82)) Tryz.sizeOf31 rfl rfl rfl rfl (i := 1) rfl (Nat.le_of_ble_eq_true rfl) rfl (by rw [e85]; kernel_rfl) (.nil (.block (.keep (.cons (k := 1) rfl (.cons (k := 2) rfl (.cons (k := 5) rfl (.cons (k := 23) rfl (.cons (k := 24) rfl (.cons (k := 25) rfl (.nil _))))))) (.code (.region (.add rfl rfl rfl (.move rfl rfl ?_))))))))
      refine .nil ?_
      exact .nil (LPost.norm fun a w h => ⟨F_76, p81, k82, (Fz.t l_47 (Fz.t l_63 (Fz.t l_70 l_77))), h.1.sub (.cons (k := 1) rfl (.cons (k := 2) rfl (.cons (k := 5) rfl (.cons (k := 23) rfl (.cons (k := 24) rfl (.cons (k := 25) rfl (.nil _))))))), h.2⟩)
    · skip
      refine .exitOut rfl (LPost.exit fun a w h => ⟨rfl, F_46, p48, k49, l_47, h.1.sub (.cons (k := 1) rfl (.cons (k := 2) rfl (.cons (k := 5) rfl (.nil _)))), h.2⟩)
  · intro b86 hb0 hk e a w hD
    rcases b86 with b86 | b86
    · skip
      obtain ⟨rfl, F_87, p89, k90, l_88, hA⟩ := hD
      refine interp_exit rfl (GE.app ?_ hk a w hA)
      refine .code (.seq (.freezeSl0 0 rfl Fz.r (fun F_94 l_95 h96z => ?_)))
      have h96 := h96z.to
      refine .keep (.cons (k := 1) rfl (.cons (k := 2) rfl (.cons (k := 5) rfl (.nil _)))) ?_
      refine GC.join (σ := Unit) (γ := FileWrong) (fun j163 a w => ∃ (F_164 : Fz), F_94 ≤ F_164 ∧ Hd 54 [] [(2, (.pointer (some ⟨b6, 0, none⟩))), (5, (.pointer (some ⟨b38, 0, none⟩)))] F_164 [pt b38 (.cells (cApiBooked b86 p89 k90).toArray 41), pt b6 (.cells (cApiBooked (ApiBooked.mk 0 ([])) none 0).toArray 41), R] a w) (fun b166 e a w => e = .panic [{ v := penc b166, recovered := false }] ∧ ∃ (F_167 : Fz), F_94 ≤ F_167 ∧ Hd 54 [] [] F_167 [R] a w) (fun sj => ?_) (fun j163 hs0 => GE.ex (fun a w ⟨F_164, l_165, hA⟩ => ⟨_, hA, ?_⟩)) ?_
      · skip
        refine .bind (fun r_100 hx101 => ?_)
        refine .ite (fun hb102 => ?_) (fun hb102 => ?_)
        · skip
          refine .bind (fun r_105 hx106 => ?_)
          refine .drawGD 8 0 (fun env97 => [((eApiBooked b86 p89 k90), fun _ => True), ((.bool r_100), fun _ => True), ((.bool r_100), fun _ => True), ((eApiBooked b86 p89 k90), fun _ => True), ((.agg ((cArr 96 (cInt .u8)) r_105).toArray), fun _ => True), ((.agg ((cArr 96 (cInt .u8)) r_1).toArray), fun _ => True), ((.bool (eq_83 r_105 r_1)), fun _ => True), ((.bool (eq_83 r_105 r_1)), fun _ => True)]) (fun L env97 => [pt b38 (.cells (cApiBooked b86 p89 k90).toArray 41), pt b6 (.cells (cApiBooked (ApiBooked.mk 0 ([])) none 0).toArray 41), R]) mixedOK (by kernel_rfl) (deepN (k := 8) (n := 9) rfl (allLt9 (p := fun t => 8 ≤ t → ∀ j, j < t → ∃ s, depB _ s t j = true) (fun h => absurd h (by decide)) (fun h => absurd h (by decide)) (fun h => absurd h (by decide)) (fun h => absurd h (by decide)) (fun h => absurd h (by decide)) (fun h => absurd h (by decide)) (fun h => absurd h (by decide)) (fun h => absurd h (by decide)) (fun _ => allLt8 (p := fun j => ∃ s, depB _ s 8 j = true) ⟨4, rfl⟩ ⟨3, rfl⟩ ⟨2, rfl⟩ ⟨2, rfl⟩ ⟨1, rfl⟩ ⟨3, rfl⟩ ⟨2, rfl⟩ ⟨1, rfl⟩))) rfl (fun _ => rfl) (by kernel_rfl) (fun _ => rfl) ?_ (fun env97 F_107 l_108 hphi => ?_)
          · skip
            refine .cons (fun L env97 F_109 l_110 hL hdn hup hphi => ⟨[(5, (.pointer (some ⟨b38, 0, none⟩)))], fun S hS hV => (.cons (hS _ _ rfl) (Sub.nil _)), ?_⟩) ?_
            · skip
              refine .loadOA rfl Tryz.isAgg41 Tryz.sizeOf41 rfl (i := 0) rfl (vs := (cApiBooked b86 p89 k90)) (by kernel_rfl) rfl ?_
              exact .finV rfl rfl Fz.r
            refine .cons (fun L env97 F_111 l_112 hL hdn hup hphi => ⟨[(44, (eApiBooked b86 p89 k90))], fun S hS hV => (.cons (hV 0 44 _ (hdn 1 0 rfl) rfl rfl) (Sub.nil _)), ?_⟩) ?_
            · skip
              refine .callK hx101 rfl Tryz.call75 rfl rfl rfl (c_file_isBooked _ b86 p89 k90 (h96.mono l_112)) ?_
              rintro F_113 _ l_114 rfl
              exact .finV rfl rfl l_114
            refine .cons (fun L env97 F_115 l_116 hL hdn hup hphi => ⟨[(45, (.bool r_100))], fun S hS hV => (.cons (hV 1 45 _ (hdn 1 1 rfl) rfl rfl) (Sub.nil _)), ?_⟩) ?_
            · skip
              refine .move rfl rfl ?_
              exact .finV rfl rfl Fz.r
            refine .cons (fun L env97 F_117 l_118 hL hdn hup hphi => ⟨[(5, (.pointer (some ⟨b38, 0, none⟩))), (46, (.bool r_100))], fun S hS hV => (.cons (hS _ _ rfl) (.cons (hV 2 46 _ (hdn 1 2 rfl) rfl rfl) (Sub.nil _))), ?_⟩) ?_
            · skip
              refine .onH hb102 rfl rfl (.loadOA rfl Tryz.isAgg41 Tryz.sizeOf41 rfl (i := 0) rfl (vs := (cApiBooked b86 p89 k90)) (by kernel_rfl) rfl ?_)
              exact .finV rfl rfl Fz.r
            refine .cons (fun L env97 F_119 l_120 hL hdn hup hphi => ⟨[(46, (.bool r_100)), (47, (eApiBooked b86 p89 k90))], fun S hS hV => (.cons (hV 2 46 _ (hdn 1 2 rfl) rfl rfl) (.cons (hV 3 47 _ (hdn 1 3 rfl) rfl rfl) (Sub.nil _))), ?_⟩) ?_
            · skip
              refine .onH hb102 rfl rfl (.callK hx106 rfl Tryz.call44 rfl rfl rfl (c_file_rowOf _ (hT.mono (Fz.t l_4 (Fz.t l_9 (Fz.t l_12 (Fz.t l_19 (Fz.t l_25 (Fz.t l_29 (Fz.t l_33 (Fz.t l_88 (Fz.t l_95 l_120)))))))))) b86 p89 k90 (h96.mono l_120)) ?_)
              rintro F_121 _ l_122 rfl
              exact .finV rfl rfl l_122
            refine .cons (fun L env97 F_123 l_124 hL hdn hup hphi => ⟨[(1, (.pointer (some ⟨b2, 0, none⟩))), (46, (.bool r_100))], fun S hS hV => (.cons (hS _ _ rfl) (.cons (hV 2 46 _ (hdn 1 2 rfl) rfl rfl) (Sub.nil _))), ?_⟩) ?_
            · skip
              refine .onH hb102 rfl rfl (.loadFA rfl Tryz.isAgg83 Tryz.sizeOf83 rfl ((Fz.t l_9 (Fz.t l_12 (Fz.t l_19 (Fz.t l_25 (Fz.t l_29 (Fz.t l_33 (Fz.t l_88 (Fz.t l_95 l_124)))))))).mem _ _ hb5) (vs := ((cArr 96 (cInt .u8)) r_1)) (by kernel_rfl) rfl ?_)
              exact .finV rfl rfl Fz.r
            refine .cons (fun L env97 F_125 l_126 hL hdn hup hphi => ⟨[(46, (.bool r_100)), (48, (.agg ((cArr 96 (cInt .u8)) r_105).toArray)), (49, (.agg ((cArr 96 (cInt .u8)) r_1).toArray))], fun S hS hV => (.cons (hV 2 46 _ (hdn 1 2 rfl) rfl rfl) (.cons (hV 4 48 _ (hdn 1 4 rfl) rfl rfl) (.cons (hV 5 49 _ (hdn 1 5 rfl) rfl rfl) (Sub.nil _)))), ?_⟩) ?_
            · skip
              refine .onH hb102 rfl rfl (.eqlR rfl Tryz.eqGuardType83 (fun w => req_83 r_105 r_1 w) rfl rfl ?_)
              exact .finV rfl rfl Fz.r
            refine .cons (fun L env97 F_127 l_128 hL hdn hup hphi => ⟨[(46, (.bool r_100)), (50, (.bool (eq_83 r_105 r_1)))], fun S hS hV => (.cons (hV 2 46 _ (hdn 1 2 rfl) rfl rfl) (.cons (hV 6 50 _ (hdn 1 6 rfl) rfl rfl) (Sub.nil _))), ?_⟩) ?_
            · skip
              refine .pickTH hb102  rfl rfl rfl ?_
              exact .finV rfl rfl Fz.r
            exact .nil
          refine .norm (S' := [(1, (.pointer (some ⟨b2, 0, none⟩))), (2, (.pointer (some ⟨b6, 0, none⟩))), (5, (.pointer (some ⟨b38, 0, none⟩))), (44, (eApiBooked b86 p89 k90)), (45, (.bool r_100)), (46, (.bool r_100)), (47, (eApiBooked b86 p89 k90)), (48, (.agg ((cArr 96 (cInt .u8)) r_105).toArray)), (49, (.agg ((cArr 96 (cInt .u8)) r_1).toArray)), (50, (.bool (eq_83 r_105 r_1))), (51, (.bool (eq_83 r_105 r_1)))]) (.cons (k := 1) rfl (.cons (k := 2) rfl (.cons (k := 5) rfl (.cons (k := 44) rfl (.cons (k := 45) rfl (.cons (k := 46) rfl (.cons (k := 47) rfl (.cons (k := 48) rfl (.cons (k := 49) rfl (.cons (k := 50) rfl (.cons (k := 51) rfl (.nil _)))))))))))) (rfl : _ = [pt b38 (.cells (cApiBooked b86 p89 k90).toArray 41), pt b6 (.cells (cApiBooked (ApiBooked.mk 0 ([])) none 0).toArray 41), R]) ?_
          refine .callB [] rfl Tryz.call101 rfl rfl rfl rfl (c_file_need _ (eq_83 r_105 r_1)) ?_ (fun q135 F_133 _ l_134 => (LPost.panQ fun a w h => ⟨rfl, F_133, (Fz.t l_108 l_134), h.1.sub (.nil _), SH.picks [2] rfl h.2⟩))
          rintro r_129 F_130 _ e132 l_131 rfl
          refine .pick [0, 0, 0] (rfl : _ = [pt b38 (.cells (cApiBooked b86 p89 k90).toArray 41), pt b6 (.cells (cApiBooked (ApiBooked.mk 0 ([])) none 0).toArray 41), R]) (.nil ?_)
          exact .nil (LPost.norm fun a w h => ⟨F_130, (Fz.t l_108 l_131), h.1.sub (.cons (k := 2) rfl (.cons (k := 5) rfl (.nil _))), h.2⟩)
        · skip
          refine .drawGD 8 0 (fun env97 => [((eApiBooked b86 p89 k90), fun _ => True), ((.bool r_100), fun _ => True), ((.bool r_100), fun _ => True), (undef, fun _ => True), (undef, fun _ => True), (undef, fun _ => True), (undef, fun _ => True), ((.bool false), fun _ => True)]) (fun L env97 => [pt b38 (.cells (cApiBooked b86 p89 k90).toArray 41), pt b6 (.cells (cApiBooked (ApiBooked.mk 0 ([])) none 0).toArray 41), R]) mixedOK (by kernel_rfl) (deepN (k := 8) (n := 9) rfl (allLt9 (p := fun t => 8 ≤ t → ∀ j, j < t → ∃ s, depB _ s t j = true) (fun h => absurd h (by decide)) (fun h => absurd h (by decide)) (fun h => absurd h (by decide)) (fun h => absurd h (by decide)) (fun h => absurd h (by decide)) (fun h => absurd h (by decide)) (fun h => absurd h (by decide)) (fun h => absurd h (by decide)) (fun _ => allLt8 (p := fun j => ∃ s, depB _ s 8 j = true) ⟨4, rfl⟩ ⟨3, rfl⟩ ⟨2, rfl⟩ ⟨2, rfl⟩ ⟨1, rfl⟩ ⟨3, rfl⟩ ⟨2, rfl⟩ ⟨1, rfl⟩))) rfl (fun _ => rfl) (by kernel_rfl) (fun _ => rfl) ?_ (fun env97 F_136 l_137 hphi => ?_)
          · skip
            refine .cons (fun L env97 F_138 l_139 hL hdn hup hphi => ⟨[(5, (.pointer (some ⟨b38, 0, none⟩)))], fun S hS hV => (.cons (hS _ _ rfl) (Sub.nil _)), ?_⟩) ?_
            · skip
              refine .loadOA rfl Tryz.isAgg41 Tryz.sizeOf41 rfl (i := 0) rfl (vs := (cApiBooked b86 p89 k90)) (by kernel_rfl) rfl ?_
              exact .finV rfl rfl Fz.r
            refine .cons (fun L env97 F_140 l_141 hL hdn hup hphi => ⟨[(44, (eApiBooked b86 p89 k90))], fun S hS hV => (.cons (hV 0 44 _ (hdn 1 0 rfl) rfl rfl) (Sub.nil _)), ?_⟩) ?_
            · skip
              refine .callK hx101 rfl Tryz.call75 rfl rfl rfl (c_file_isBooked _ b86 p89 k90 (h96.mono l_141)) ?_
              rintro F_142 _ l_143 rfl
              exact .finV rfl rfl l_143
            refine .cons (fun L env97 F_144 l_145 hL hdn hup hphi => ⟨[(45, (.bool r_100))], fun S hS hV => (.cons (hV 1 45 _ (hdn 1 1 rfl) rfl rfl) (Sub.nil _)), ?_⟩) ?_
            · skip
              refine .move rfl rfl ?_
              exact .finV rfl rfl Fz.r
            refine .cons (fun L env97 F_146 l_147 hL hdn hup hphi => ⟨[(5, (.pointer (some ⟨b38, 0, none⟩))), (46, (.bool r_100))], fun S hS hV => (.cons (hS _ _ rfl) (.cons (hV 2 46 _ (hdn 1 2 rfl) rfl rfl) (Sub.nil _))), ?_⟩) ?_
            · skip
              refine .offH hb102 rfl rfl rfl ?_
              exact .finV rfl rfl Fz.r
            refine .cons (fun L env97 F_148 l_149 hL hdn hup hphi => ⟨[(46, (.bool r_100)), (47, undef)], fun S hS hV => (.cons (hV 2 46 _ (hdn 1 2 rfl) rfl rfl) (.cons (hV 3 47 _ (hdn 1 3 rfl) rfl rfl) (Sub.nil _))), ?_⟩) ?_
            · skip
              refine .offH hb102 rfl rfl rfl ?_
              exact .finV rfl rfl Fz.r
            refine .cons (fun L env97 F_150 l_151 hL hdn hup hphi => ⟨[(1, (.pointer (some ⟨b2, 0, none⟩))), (46, (.bool r_100))], fun S hS hV => (.cons (hS _ _ rfl) (.cons (hV 2 46 _ (hdn 1 2 rfl) rfl rfl) (Sub.nil _))), ?_⟩) ?_
            · skip
              refine .offH hb102 rfl rfl rfl ?_
              exact .finV rfl rfl Fz.r
            refine .cons (fun L env97 F_152 l_153 hL hdn hup hphi => ⟨[(46, (.bool r_100)), (48, undef), (49, undef)], fun S hS hV => (.cons (hV 2 46 _ (hdn 1 2 rfl) rfl rfl) (.cons (hV 4 48 _ (hdn 1 4 rfl) rfl rfl) (.cons (hV 5 49 _ (hdn 1 5 rfl) rfl rfl) (Sub.nil _)))), ?_⟩) ?_
            · skip
              refine .offH hb102 rfl rfl rfl ?_
              exact .finV rfl rfl Fz.r
            refine .cons (fun L env97 F_154 l_155 hL hdn hup hphi => ⟨[(46, (.bool r_100)), (50, undef)], fun S hS hV => (.cons (hV 2 46 _ (hdn 1 2 rfl) rfl rfl) (.cons (hV 6 50 _ (hdn 1 6 rfl) rfl rfl) (Sub.nil _))), ?_⟩) ?_
            · skip
              refine .pickFH hb102  rfl rfl rfl ?_
              exact .finV rfl rfl Fz.r
            exact .nil
          refine .norm (S' := [(1, (.pointer (some ⟨b2, 0, none⟩))), (2, (.pointer (some ⟨b6, 0, none⟩))), (5, (.pointer (some ⟨b38, 0, none⟩))), (44, (eApiBooked b86 p89 k90)), (45, (.bool r_100)), (46, (.bool r_100)), (51, (.bool false))]) (.cons (k := 1) rfl (.cons (k := 2) rfl (.cons (k := 5) rfl (.cons (k := 44) rfl (.cons (k := 45) rfl (.cons (k := 46) rfl (.cons (k := 51) rfl (.nil _)))))))) (rfl : _ = [pt b38 (.cells (cApiBooked b86 p89 k90).toArray 41), pt b6 (.cells (cApiBooked (ApiBooked.mk 0 ([])) none 0).toArray 41), R]) ?_
          refine .callB [] rfl Tryz.call101 rfl rfl rfl rfl (c_file_need _ false) ?_ (fun q162 F_160 _ l_161 => (LPost.panQ fun a w h => ⟨rfl, F_160, (Fz.t l_137 l_161), h.1.sub (.nil _), SH.picks [2] rfl h.2⟩))
          rintro r_156 F_157 _ e159 l_158 rfl
          refine .pick [0, 0, 0] (rfl : _ = [pt b38 (.cells (cApiBooked b86 p89 k90).toArray 41), pt b6 (.cells (cApiBooked (ApiBooked.mk 0 ([])) none 0).toArray 41), R]) (.nil ?_)
          exact .nil (LPost.norm fun a w h => ⟨F_157, (Fz.t l_137 l_158), h.1.sub (.cons (k := 2) rfl (.cons (k := 5) rfl (.nil _))), h.2⟩)
      · skip
        refine .code (.seq (.region (.loadOA rfl Tryz.isAgg41 Tryz.sizeOf41 rfl (i := 0) rfl (vs := (cApiBooked b86 p89 k90)) (by kernel_rfl) rfl (.store (cs' := (cApiBooked b86 p89 k90)) Tryz.sizeOf41 rfl rfl rfl rfl (i := 1) rfl (Nat.le_of_ble_eq_true rfl) rfl (setMany_all (by rfl)) (.nil (.code ?_))))))
        exact .retX [2] Tryz.results87 (.agg rfl Tryz.isAgg41 Tryz.sizeOf41 (i := 1) rfl (vs' := (cApiBooked b86 p89 k90)) (by kernel_rfl) rfl (.nil)) rfl (Fz.t l_4 (Fz.t l_9 (Fz.t l_12 (Fz.t l_19 (Fz.t l_25 (Fz.t l_29 (Fz.t l_33 (Fz.t l_88 (Fz.t l_95 l_165))))))))) ⟨p89, k90, rfl, ((h96z.base (Fz.t l_4 (Fz.t l_9 (Fz.t l_12 (Fz.t l_19 (Fz.t l_25 (Fz.t l_29 (Fz.t l_33 l_88)))))))).mono l_165)⟩
      · intro b166 hb0 hk e a w hD
        obtain ⟨rfl, F_167, l_168, hA⟩ := hD
        exact interp_panic ((pan_postX (i := 0) rfl (Fz.t l_4 (Fz.t l_9 (Fz.t l_12 (Fz.t l_19 (Fz.t l_25 (Fz.t l_29 (Fz.t l_33 (Fz.t l_88 (Fz.t l_95 l_168)))))))))) hk a w hA)
    obtain ⟨rfl, F_92, l_93, hA⟩ := hD
    exact interp_panic ((pan_postX (i := 0) rfl (Fz.t l_4 (Fz.t l_9 (Fz.t l_12 (Fz.t l_19 (Fz.t l_25 (Fz.t l_29 (Fz.t l_33 l_93)))))))) hk a w hA)
theorem c_file_row_right_0 (F0 : Fz) (hT : TabsP F0) (r_1 : (Nat → Int)) : CT0 Tryz.prog 51 [(.agg ((cArr 96 (cInt .u8)) r_1).toArray)].toArray F0 (m_file_row_right r_1) (fun r F v => ∃ (p0 : Option Addr) (k0 : Nat), v = (.tuple #[(eApiBooked r.1 p0 k0), (.bool r.2)]) ∧ RepSl0 1 (Ex (cInt .i64)) 3 F0 F p0 k0 r.1.N) := by
  refine CTO.plain (CTO.enter Tryz.func51 rfl Tryz.ntmps51 rfl fun r R => ?_)
  unfold m_file_row_right
  refine .seq (.region (.boxF (cs := (cArr 96 (cInt .u8)) r_1) rfl rfl rfl fun b1 F1 l1 hb1 => ?_))
  refine .alloc (cs := cApiBooked ⟨0, []⟩ none 0) rfl Tryz.zeroValue41 rfl fun b2 => ?_
  refine .alloc (cs := [.bool false]) rfl Tryz.zeroValue4 rfl fun b3 => ?_
  refine .nil (.code (.seq (.region (.makeFunc rfl rfl (.defer (caps := [.pointer (some ⟨b2, 0, none⟩), .pointer (some ⟨b3, 0, none⟩)]) rfl (.nil (.code (.seq (.region ?_)))))))))
  refine .loadFA rfl Tryz.isAgg83 Tryz.sizeOf83 rfl hb1 (vs := (cArr 96 (cInt .u8)) r_1) (by kernel_rfl) rfl ?_
  refine .callB [] rfl Tryz.call87 rfl rfl rfl rfl (c_file_row_read_0 _ (hT.mono l1) r_1) ?_ (fun q F2 hq l2 => pan_postE 2 Tryz.call86 (c_file_row_right_1 F2 b2 b3 ⟨0, []⟩ none 0 false) [1, 0] rfl Tryz.results51 (fun F'' le'' => .agg rfl Tryz.isAgg41 Tryz.sizeOf41 (i := 0) rfl rfl rfl (.cell rfl Tryz.isAgg4 (i := 1) rfl rfl .nil)) (fun _ => rfl) (Fz.t l1 l2) (fun w F R h => ⟨(), F, Fz.le_refl _, h.mono fun m hm => news_nil hm⟩) (fun _ F'' => ⟨none, 0, rfl, RepSl0.nil⟩))
  rintro x F2 _ hx l2 ⟨p, k, rfl, hr⟩
  refine .store (cs' := cApiBooked x p k) Tryz.sizeOf41 rfl rfl rfl rfl (i := 1) rfl (Nat.le_refl _) rfl rfl ?_
  refine .store (cs' := [.bool true]) Tryz.sizeOf4 rfl rfl rfl rfl (i := 0) rfl (Nat.le_refl _) rfl rfl (.nil (.code ?_))
  exact .retQ (ret_postE (Γ := ()) [1, 0] Tryz.call86 (c_file_row_right_1 F2 b2 b3 x p k true) rfl [2] Tryz.results51 (.agg rfl Tryz.isAgg41 Tryz.sizeOf41 (i := 0) rfl rfl rfl (.cell rfl Tryz.isAgg4 (i := 1) rfl rfl .nil)) rfl (Fz.t l1 l2) ⟨p, k, rfl, hr.base l1⟩)
set_option maxRecDepth 100000 in
set_option maxHeartbeats 4000000 in
theorem c_file_Read_0 (F0 : Fz) (hT : TabsP F0) (b1 : (List Int)) (p2 : Option Addr) (k3 : Nat) (h4 : RepSl 1 (Ex (cInt .u8)) F0 p2 k3 b1) : CT0 Tryz.prog 19 [(.slice p2 b1.length k3)].toArray F0 (m_file_Read b1) (fun r F v => ∃ (p0 : Option Addr) (k0 : Nat), v = .tuple #[(.slice p0 r.1.length k0), (.int .i64 r.2)] ∧ RepSl0 2 (rApiBooked0 F0) 41 F0 F p0 k0 r.1) := by
  refine CT0.enterM Tryz.func19 rfl Tryz.ntmps19 rfl fun r R => ?_
  unfold m_file_Read
  refine .seq (.region (.alloc (cs := [(.slice none 0 0)]) rfl Tryz.zeroValue22 rfl (fun b5 => ?_)))
  refine .alloc (cs := [(.int .i64 0)]) rfl Tryz.zeroValue26 rfl (fun b6 => ?_)
  refine .nil (.code (.seq (.region (.move rfl rfl (.call0 rfl Tryz.call49 rfl rfl rfl (c_file_split _ b1 p2 k3 h4) ?_)))))
  rintro r_9 F_7 _ - l_8 ⟨p10, k11, rfl, h12⟩
  refine .move rfl rfl (.extract rfl rfl rfl (.extract rfl rfl rfl (.assign rfl rfl (.assign rfl rfl (.nil (.code (.seq (.seq (.region (.move rfl rfl (.not rfl rfl ?_)))))))))))
  refine .nil (.code (.cond rfl (fun hb13 => ?_) (fun hb13 => ?_)))
  · skip
    refine .seq (.region (.store (cs' := [(.slice none 0 0)]) Tryz.sizeOf22 rfl rfl rfl rfl (i := 1) rfl (Nat.le_of_ble_eq_true rfl) rfl rfl (.store (cs' := [(.int .i64 8)]) Tryz.sizeOf26 rfl rfl rfl rfl (i := 0) rfl (Nat.le_of_ble_eq_true rfl) rfl rfl (.nil (.code ?_)))))
    exact .ret0M [] Tryz.results19 trivial (.cell rfl Tryz.isAgg22 (i := 1) rfl rfl (.cell rfl Tryz.isAgg26 (i := 0) rfl rfl (.nil))) (i := 2) rfl l_8 ⟨none, 0, rfl, (RepSl0.nil.mono l_8)⟩
  · skip
    refine .skip (.code (.seq (.region (.alloc (cs := [(.slice none 0 0)]) rfl Tryz.zeroValue22 rfl (fun b14 => ?_)))))
    refine .ownNil 2 (rApiBooked0 F0) 41 (.nil (.code (.seq (.seq (.region (.move rfl rfl (.call0 rfl Tryz.call50 rfl rfl rfl (c_file_groups_row _ r_9.1 p10 k11 h12 9) ?_)))))))
    rintro r_18 F_16 _ - l_17 ⟨p19, k20, rfl, h21⟩
    refine .nil (.code (.block (.keep (.cons (k := 2) rfl (.cons (k := 3) rfl (.cons (k := 6) rfl (.cons (k := 22) rfl (.nil _))))) (.ownUp 0 l_17 rfl ?_))))
    refine .rangeRet (τ := (List ApiBooked) × Int × (List ApiBooked)) (γ := (List ApiBooked) × Int × (List ApiBooked)) (fun s22 F_23 hs' => ∃ (p28 : Option Addr) (k29 : Nat) (p31 : Option Addr) (k32 : Nat), RepSl0 2 (rApiBooked0 F0) 41 F0 F_23 p31 k32 s22.2.2 ∧ hs' = [ownSl 2 (rApiBooked0 F0) F_23 41 p28 k29 s22.1, pt b14 (.cells [(.slice p28 s22.1.length k29)].toArray 22), pt b6 (.cells [(.int .i64 s22.2.1)].toArray 26), pt b5 (.cells [(.slice p31 s22.2.2.length k32)].toArray 22), R]) (fun s22 F_23 hs' => ∃ (p28 : Option Addr) (k29 : Nat) (p31 : Option Addr) (k32 : Nat), RepSl0 2 (rApiBooked0 F0) 41 F0 F_23 p31 k32 s22.2.2 ∧ hs' = [ownSl 2 (rApiBooked0 F0) F_23 41 p28 k29 s22.1, pt b14 (.cells [(.slice p28 s22.1.length k29)].toArray 22), pt b6 (.cells [(.int .i64 s22.2.1)].toArray 26), pt b5 (.cells [(.slice p31 s22.2.2.length k32)].toArray 22), R]) rfl h21 rfl (fun _ _ _ h => by obtain ⟨_, _, h, _⟩ := h; rw [h]; rfl) ⟨none, 0, none, 0, (RepSl0.nil.mono (Fz.t l_8 l_17)), rfl⟩ ?_ ?_ ?_
    · intro lp Lp F_23 F_27 x24 vs s22 ctl Rp hs' l_25 l_26 hx hI
      obtain ⟨p34, k35, rfl, h36⟩ := hx
      obtain ⟨p28, k29, p31, k32, h33, rfl⟩ := hI
      unfold b_file_Read_1
      refine .keep (.cons (k := 2) rfl (.cons (k := 3) rfl (.cons (k := 6) rfl (.cons (k := 22) rfl (.cons (k := 23) rfl (.cons (k := 24) rfl (.nil _))))))) (.region (.assign rfl rfl (.nil ?_)))
      refine GE.begin 0 rfl ?_
      refine .block (.seq (.region (.move rfl rfl (.lenS rfl rfl Tryz.underlying81 rfl (.sub rfl rfl rfl (.assignL rfl rfl (fun n_37 e38 => ?_)))))))
      refine .nil (.code (.seq (.seq (.region (.move rfl rfl (.move rfl rfl (.sliceHi rfl Tryz.underlying81 Tryz.sizeOf83 h36 rfl rfl (fun l_39 p40 k41 e42 h43 => ?_))))))))
      refine .lenS rfl rfl Tryz.underlying81 rfl (.move rfl rfl (.nil (.code (.block (.keep (.cons (k := 2) rfl (.cons (k := 3) rfl (.cons (k := 6) rfl (.cons (k := 8) rfl (.cons (k := 9) rfl (.cons (k := 30) rfl (.cons (k := 31) rfl (.cons (k := 32) rfl (.nil _))))))))) (.ownUp 2 l_26 rfl ?_))))))
      refine .loop (fun (s44 : Int × (List ApiBooked)) a w => ∃ (F_45 : Fz) (p47 : Option Addr) (k48 : Nat), F_27 ≤ F_45 ∧ Hd 58 [] [(2, (.pointer (some ⟨b5, 0, none⟩))), (3, (.pointer (some ⟨b6, 0, none⟩))), (6, (.pointer (some ⟨b14, 0, none⟩))), (8, (.slice p34 x24.2.length k35)), (9, (.int .i64 n_37)), (30, (.slice p40 l_39.length k41)), (31, (.int .i64 (l_39.length : Int))), (32, (.int .i64 s44.1))] F_45 [pt lp (lbusy Lp), Rp, ownSl 2 (rApiBooked0 F0) F_45 41 p47 k48 s44.2, pt b14 (.cells [(.slice p47 s44.2.length k48)].toArray 22), pt b6 (.cells [(.int .i64 s22.2.1)].toArray 26), pt b5 (.cells [(.slice p31 s22.2.2.length k32)].toArray 22), R] a w) (fun b0 e a w => match b0 with | .inl b79 => e = .exit 2 ∧ ∃ (F_80 : Fz) (p82 : Option Addr) (k83 : Nat), F_27 ≤ F_80 ∧ Hd 58 [] [(2, (.pointer (some ⟨b5, 0, none⟩))), (3, (.pointer (some ⟨b6, 0, none⟩))), (8, (.slice p34 x24.2.length k35)), (9, (.int .i64 n_37))] F_80 [pt lp (lbusy Lp), Rp, ownSl 2 (rApiBooked0 F0) F_80 41 p82 k83 b79, pt b14 (.cells [(.slice p82 b79.length k83)].toArray 22), pt b6 (.cells [(.int .i64 s22.2.1)].toArray 26), pt b5 (.cells [(.slice p31 s22.2.2.length k32)].toArray 22), R] a w | .inr b79 => e = .ret ∧ ∃ (F_85 : Fz) (p87 : Option Addr) (k88 : Nat) (p90 : Option Addr) (k91 : Nat), F_27 ≤ F_85 ∧ RepSl0 2 (rApiBooked0 F0) 41 F0 F_85 p90 k91 b79.2.2 ∧ Hd 58 [] [] F_85 [pt lp (lbusy Lp), Rp, ownSl 2 (rApiBooked0 F0) F_85 41 p87 k88 b79.1, pt b14 (.cells [(.slice p87 b79.1.length k88)].toArray 22), pt b6 (.cells [(.int .i64 b79.2.1)].toArray 26), pt b5 (.cells [(.slice p90 b79.2.2.length k91)].toArray 22), R] a w) ?_ ?_ ?_
      · exact fun a w h => ⟨F_27, p28, k29, Fz.r, h.1.sub (.cons (k := 2) rfl (.cons (k := 3) rfl (.cons (k := 6) rfl (.cons (k := 8) rfl (.cons (k := 9) rfl (.cons (k := 30) rfl (.cons (k := 31) rfl (.cons (k := 32) rfl (.nil _))))))))), h.2⟩
      · intro s44 ctl
        refine GC.ex (fun a w ⟨F_45, p47, k48, l_46, hA⟩ => ⟨_, hA, ?_⟩)
        unfold b_file_Read_2
        refine .seq (.region (.lss rfl rfl rfl (.nil (.code (.seq (.cond rfl (fun hb50 => ?_) (fun hb50 => ?_)))))))
        · skip
          refine .skip (.code (.seq (.block (.seq (.region (.idx rfl Tryz.underlying81 Tryz.sizeOf83 (h43.mono l_46) rfl rfl (fun x51 b52 o53 T54 fr55 cs56 e57 hm58 hv59 => ?_)))))))
          refine .loadFA rfl Tryz.isAgg83 Tryz.sizeOf83 rfl hm58 hv59 rfl (.alloc (cs := ((cArr 96 (cInt .u8)) (fun (_ : Nat) => (0 : Int)))) rfl Tryz.zeroValue83 rfl (fun b61 => ?_))
          refine .store (cs' := ((cArr 96 (cInt .u8)) x51)) Tryz.sizeOf83 rfl rfl rfl rfl (i := 0) rfl (Nat.le_of_ble_eq_true rfl) rfl (setMany_all (by rfl)) (.nil (.code (.seq (.region (.loadOA rfl Tryz.isAgg83 Tryz.sizeOf83 rfl (i := 0) rfl (vs := ((cArr 96 (cInt .u8)) x51)) (by kernel_rfl) rfl ?_)))))
          refine .call0 rfl Tryz.call51 rfl rfl rfl (c_file_row_right_0 _ (hT.mono (Fz.t l_8 (Fz.t l_17 (Fz.t l_25 (Fz.t l_26 l_46))))) x51) ?_
          rintro r_64 F_62 _ - l_63 ⟨p65, k66, rfl, h67⟩
          refine .move rfl rfl (.extract rfl rfl rfl (.extract rfl rfl rfl (.alloc (cs := (cApiBooked (ApiBooked.mk 0 ([])) none 0)) rfl Tryz.zeroValue41 rfl (fun b68 => ?_))))
          refine .store (cs' := (cApiBooked r_64.1 p65 k66)) Tryz.sizeOf41 rfl rfl rfl rfl (i := 0) rfl (Nat.le_of_ble_eq_true rfl) rfl (setMany_all (by rfl)) (.assign rfl rfl (.nil (.code (.seq (.seq (.region (.move rfl rfl (.not rfl rfl (.nil (.code (.cond rfl (fun hb69 => ?_) (fun hb69 => ?_))))))))))))
          · skip
            refine .seq (.region (.store (cs' := [(.slice none 0 0)]) Tryz.sizeOf22 rfl rfl rfl rfl (i := 7) rfl (Nat.le_of_ble_eq_true rfl) rfl rfl (.store (cs' := [(.int .i64 8)]) Tryz.sizeOf26 rfl rfl rfl rfl (i := 6) rfl (Nat.le_of_ble_eq_true rfl) rfl rfl (.nil (.code (.drop 1 (.drop 0 (.ownUp 2 l_63 rfl ?_))))))))
            refine .retQ (LPost.ret fun a w h => ⟨rfl, F_62, p47, k48, none, 0, (Fz.t l_46 l_63), (RepSl0.nil.mono (Fz.t l_8 (Fz.t l_17 (Fz.t l_25 (Fz.t l_26 (Fz.t l_46 l_63)))))), h.1.sub (.nil _), h.2⟩)
          · skip
            refine .skip (.code (.region (.loadO rfl Tryz.isAgg22 rfl (i := 5) rfl rfl (.loadOA rfl Tryz.isAgg41 Tryz.sizeOf41 rfl (i := 0) rfl (vs := (cApiBooked r_64.1 p65 k66)) (by kernel_rfl) rfl ?_))))
            refine .sliceLit (cs := [.int .i64 r_64.1.Kind, .slice p65 r_64.1.N.length k66]) (zc := [.int .i64 (ApiBooked.mk 0 ([])).Kind, .slice none (ApiBooked.mk 0 ([])).N.length 0]) rfl Tryz.underlying22 Tryz.sizeOf41 Tryz.zeroValue41 rfl rfl rfl (by kernel_rfl) (by kernel_rfl) (fun b70 F_71 l_72 hb73 => ?_)
            have h74 : RepSl 2 (rApiBooked0 F0) F_71 (some ⟨b70, 0, none⟩) 1 ([r_64.1]) := RepSl.ofRow hb73 (.cons ok_t41_0.mono ⟨_, _, rfl, ((h67.base (Fz.t l_8 (Fz.t l_17 (Fz.t l_25 (Fz.t l_26 l_46))))).mono l_72)⟩ .nil) rfl rfl
            refine .append 4 ok_t41_0 (Fz.t l_63 l_72) rfl Tryz.underlying22 Tryz.underlying22 rfl rfl rfl h74 rfl rfl (fun l_75 p76 k77 e78 => ?_)
            refine .store (cs' := [(.slice p76 l_75.length k77)]) Tryz.sizeOf22 rfl rfl rfl rfl (i := 5) rfl (Nat.le_of_ble_eq_true rfl) rfl rfl (.nil (.block (.code (.region (.add rfl rfl rfl (.move rfl rfl (.nil (.drop 1 (.drop 0 ?_)))))))))
            exact .nil (LPost.norm fun a w h => ⟨F_71, p76, k77, (Fz.t l_46 (Fz.t l_63 l_72)), h.1.sub (.cons (k := 2) rfl (.cons (k := 3) rfl (.cons (k := 6) rfl (.cons (k := 8) rfl (.cons (k := 9) rfl (.cons (k := 30) rfl (.cons (k := 31) rfl (.cons (k := 32) rfl (.nil _))))))))), h.2⟩)
        · skip
          refine .exitOut rfl (LPost.exit fun a w h => ⟨rfl, F_45, p47, k48, l_46, h.1.sub (.cons (k := 2) rfl (.cons (k := 3) rfl (.cons (k := 8) rfl (.cons (k := 9) rfl (.nil _))))), h.2⟩)
      · intro b79 hb0 hk e a w hD
        rcases b79 with b79 | b79
        · skip
          obtain ⟨rfl, F_80, p82, k83, l_81, hA⟩ := hD
          refine interp_exit rfl (GE.app ?_ hk a w hA)
          refine .code (.seq (.keep (.cons (k := 2) rfl (.cons (k := 3) rfl (.cons (k := 8) rfl (.cons (k := 9) rfl (.nil _))))) (.bind (fun x94 e100 => ?_))))
          obtain ⟨b95, o96, T97, fr98, cs99, hm101, hv102, hq103⟩ := RepSl.idxE (h36.mono l_81) e100
          refine .bind (fun l_104 hx110 => ?_)
          refine .bind (fun r_113 hx114 => ?_)
          refine .drawGD 8 0 (fun env93 => [((.slice p34 x24.2.length k35), fun _ => True), ((.int .i64 n_37), fun _ => True), ((.pointer (some ⟨b95, o96, none⟩)), fun _ => True), ((.agg ((cArr 96 (cInt .u8)) x94).toArray), fun _ => True), ((.slice p34 x24.2.length k35), fun _ => True), ((.int .i64 n_37), fun _ => True), ((.slice (env93.a 60) l_104.length (env93.n 60)), fun G => RepSl 96 (Ex (cArr 96 (cInt .u8))) G (env93.a 60) (env93.n 60) l_104), ((.agg ((cArr 96 (cInt .u8)) r_113).toArray), fun _ => True)]) (fun L env93 => [pt lp (lbusy Lp), Rp, ownSl 2 (rApiBooked0 F0) F_80 41 p82 k83 b79, pt b14 (.cells [(.slice p82 b79.length k83)].toArray 22), pt b6 (.cells [(.int .i64 s22.2.1)].toArray 26), pt b5 (.cells [(.slice p31 s22.2.2.length k32)].toArray 22), R]) mixedOK (by kernel_rfl) (deepN (k := 8) (n := 9) rfl (allLt9 (p := fun t => 8 ≤ t → ∀ j, j < t → ∃ s, depB _ s t j = true) (fun h => absurd h (by decide)) (fun h => absurd h (by decide)) (fun h => absurd h (by decide)) (fun h => absurd h (by decide)) (fun h => absurd h (by decide)) (fun h => absurd h (by decide)) (fun h => absurd h (by decide)) (fun h => absurd h (by decide)) (fun _ => allLt8 (p := fun j => ∃ s, depB _ s 8 j = true) ⟨3, rfl⟩ ⟨3, rfl⟩ ⟨2, rfl⟩ ⟨1, rfl⟩ ⟨3, rfl⟩ ⟨3, rfl⟩ ⟨2, rfl⟩ ⟨1, rfl⟩))) rfl (fun _ => rfl) (by kernel_rfl) (fun _ => rfl) ?_ (fun env93 F_115 l_116 hphi => ?_)
          · skip
            refine .cons (fun L env93 F_117 l_118 hL hdn hup hphi => ⟨[(8, (.slice p34 x24.2.length k35))], fun S hS hV => (.cons (hS _ _ rfl) (Sub.nil _)), ?_⟩) ?_
            · skip
              refine .move rfl rfl ?_
              exact .finV rfl rfl Fz.r
            refine .cons (fun L env93 F_119 l_120 hL hdn hup hphi => ⟨[(9, (.int .i64 n_37))], fun S hS hV => (.cons (hS _ _ rfl) (Sub.nil _)), ?_⟩) ?_
            · skip
              refine .move rfl rfl ?_
              exact .finV rfl rfl Fz.r
            refine .cons (fun L env93 F_121 l_122 hL hdn hup hphi => ⟨[(48, (.slice p34 x24.2.length k35)), (49, (.int .i64 n_37))], fun S hS hV => (.cons (hV 0 48 _ (hdn 1 0 rfl) rfl rfl) (.cons (hV 1 49 _ (hdn 1 1 rfl) rfl rfl) (Sub.nil _))), ?_⟩) ?_
            · skip
              refine .idxQ rfl Tryz.underlying81 Tryz.sizeOf83 hq103 rfl rfl ?_
              exact .finV rfl rfl Fz.r
            refine .cons (fun L env93 F_123 l_124 hL hdn hup hphi => ⟨[(50, (.pointer (some ⟨b95, o96, none⟩)))], fun S hS hV => (.cons (hV 2 50 _ (hdn 1 2 rfl) rfl rfl) (Sub.nil _)), ?_⟩) ?_
            · skip
              refine .loadFA rfl Tryz.isAgg83 Tryz.sizeOf83 rfl (l_124.mem _ _ hm101) hv102 rfl ?_
              exact .finV rfl rfl Fz.r
            refine .cons (fun L env93 F_125 l_126 hL hdn hup hphi => ⟨[(8, (.slice p34 x24.2.length k35))], fun S hS hV => (.cons (hS _ _ rfl) (Sub.nil _)), ?_⟩) ?_
            · skip
              refine .move rfl rfl ?_
              exact .finV rfl rfl Fz.r
            refine .cons (fun L env93 F_127 l_128 hL hdn hup hphi => ⟨[(9, (.int .i64 n_37))], fun S hS hV => (.cons (hS _ _ rfl) (Sub.nil _)), ?_⟩) ?_
            · skip
              refine .move rfl rfl ?_
              exact .finV rfl rfl Fz.r
            refine .cons (fun L env93 F_129 l_130 hL hdn hup hphi => ⟨[(52, (.slice p34 x24.2.length k35)), (53, (.int .i64 n_37))], fun S hS hV => (.cons (hV 4 52 _ (hdn 1 4 rfl) rfl rfl) (.cons (hV 5 53 _ (hdn 1 5 rfl) rfl rfl) (Sub.nil _))), ?_⟩) ?_
            · skip
              refine .sliceHiK hx110 rfl Tryz.underlying81 Tryz.sizeOf83 (h36.mono (Fz.t l_81 l_130)) rfl rfl (fun p132 k133 h135 => ?_)
              exact .finQ ({ env93 with a := (updN env93.a 60 p132), n := (updN env93.n 60 k133), c := env93.c, o := env93.o }) [true, true, true, true, true, true, false, false] rfl (by kernel_rfl) rfl rfl Fz.r (fun _ le => h135.mono le) (cons_eq rfl (cons_eq rfl (cons_eq rfl (cons_eq rfl (cons_eq rfl (cons_eq rfl (cons_eq rfl rfl)))))))
            refine .cons (fun L env93 F_136 l_137 hL hdn hup hphi => ⟨[(54, (.slice (env93.a 60) l_104.length (env93.n 60)))], fun S hS hV => (.cons (hV 6 54 _ (hdn 1 6 rfl) rfl rfl) (Sub.nil _)), ?_⟩) ?_
            · skip
              have h109 := hphi 6 _ (hdn 1 6 rfl) rfl _ Fz.r
              refine .callK hx114 rfl Tryz.call45 rfl rfl rfl (c_file_guard _ l_104 (env93.a 60) (env93.n 60) h109) ?_
              rintro F_138 _ l_139 rfl
              exact .finV rfl rfl l_139
            exact .nil
          have h109 := hphi 6 _ rfl
          refine .norm (S' := [(2, (.pointer (some ⟨b5, 0, none⟩))), (3, (.pointer (some ⟨b6, 0, none⟩))), (8, (.slice p34 x24.2.length k35)), (9, (.int .i64 n_37)), (48, (.slice p34 x24.2.length k35)), (49, (.int .i64 n_37)), (50, (.pointer (some ⟨b95, o96, none⟩))), (51, (.agg ((cArr 96 (cInt .u8)) x94).toArray)), (52, (.slice p34 x24.2.length k35)), (53, (.int .i64 n_37)), (54, (.slice (env93.a 60) l_104.length (env93.n 60))), (55, (.agg ((cArr 96 (cInt .u8)) r_113).toArray))]) (.cons (k := 2) rfl (.cons (k := 3) rfl (.cons (k := 8) rfl (.cons (k := 9) rfl (.cons (k := 48) rfl (.cons (k := 49) rfl (.cons (k := 50) rfl (.cons (k := 51) rfl (.cons (k := 52) rfl (.cons (k := 53) rfl (.cons (k := 54) rfl (.cons (k := 55) rfl (.nil _))))))))))))) (rfl : _ = [pt lp (lbusy Lp), Rp, ownSl 2 (rApiBooked0 F0) F_80 41 p82 k83 b79, pt b14 (.cells [(.slice p82 b79.length k83)].toArray 22), pt b6 (.cells [(.int .i64 s22.2.1)].toArray 26), pt b5 (.cells [(.slice p31 s22.2.2.length k32)].toArray 22), R]) ?_
          refine .neqR rfl Tryz.eqGuardType83 (fun w => req_83 x94 r_113 w) rfl rfl (.nil (.code (.cond rfl (fun hb140 => ?_) (fun hb140 => ?_))))
          · skip
            refine .seq (.region (.store (cs' := [(.slice none 0 0)]) Tryz.sizeOf22 rfl rfl rfl rfl (i := 5) rfl (Nat.le_of_ble_eq_true rfl) rfl rfl (.store (cs' := [(.int .i64 8)]) Tryz.sizeOf26 rfl rfl rfl rfl (i := 4) rfl (Nat.le_of_ble_eq_true rfl) rfl rfl (.nil (.code (.ownUp 2 l_116 rfl ?_))))))
            exact .retQ (RP.ret (Fz.t l_81 l_116) ⟨p82, k83, none, 0, (RepSl0.nil.mono (Fz.t l_8 (Fz.t l_17 (Fz.t l_25 (Fz.t l_26 (Fz.t l_81 l_116)))))), rfl⟩ rfl)
          · skip
            refine .skip (.block (.ownUp 2 l_116 rfl ?_))
            exact .nil (RP.norm (Fz.t l_81 l_116) ⟨p82, k83, p31, k32, (h33.mono (Fz.t l_26 (Fz.t l_81 l_116))), rfl⟩ rfl)
        obtain ⟨rfl, F_85, p87, k88, p90, k91, l_86, h92, hA⟩ := hD
        exact interp_ret ((RP.ret l_86 ⟨p87, k88, p90, k91, h92, rfl⟩ rfl) hk a w hA)
    · intro q141 F_143 F_144 s142 hs' l_145 l_146 he hI
      obtain ⟨p147, k148, p150, k151, h152, rfl⟩ := hI
      refine .block (.code (.seq (.region (.loadO rfl Tryz.isAgg22 rfl (i := 2) rfl rfl (.freezeSl0 1 rfl l_146 (fun F_153 l_154 h155 => ?_))))))
      refine .store (cs' := [(.slice p147 s142.1.length k148)]) Tryz.sizeOf22 rfl rfl rfl rfl (i := 3) rfl (Nat.le_of_ble_eq_true rfl) rfl rfl (.store (cs' := [(.int .i64 0)]) Tryz.sizeOf26 rfl rfl rfl rfl (i := 2) rfl (Nat.le_of_ble_eq_true rfl) rfl rfl (.nil (.code ?_)))
      exact .ret0M [(0, q141)] Tryz.results19 ⟨rfl, trivial⟩ (.cell rfl Tryz.isAgg22 (i := 3) rfl rfl (.cell rfl Tryz.isAgg26 (i := 2) rfl rfl (.nil))) (i := 4) rfl (Fz.t l_8 (Fz.t l_17 (Fz.t l_145 (Fz.t l_146 l_154)))) ⟨p147, k148, rfl, (h155.base (Fz.t l_8 (Fz.t l_17 (Fz.t l_145 l_146))))⟩
    · intro q156 F_158 F_159 s157 hs' l_160 l_161 he hI
      obtain ⟨p162, k163, p165, k166, h167, rfl⟩ := hI
      exact .ret0M [(0, q156)] Tryz.results19 ⟨rfl, trivial⟩ (.cell rfl Tryz.isAgg22 (i := 4) rfl rfl (.cell rfl Tryz.isAgg26 (i := 3) rfl rfl (.nil))) (i := 5) rfl (Fz.t l_8 (Fz.t l_17 (Fz.t l_160 l_161))) ⟨p165, k166, rfl, (h167.mono l_161)⟩
set_option maxRecDepth 100000 in
set_option maxHeartbeats 4000000 in
theorem c_file_Repair_0 (F0 : Fz) (hT : TabsP F0) (b1 : (List Int)) (p2 : Option Addr) (k3 : Nat) (h4 : RepSl 1 (Ex (cInt .u8)) F0 p2 k3 b1) : CT0 Tryz.prog 21 [(.slice p2 b1.length k3)].toArray F0 (m_file_Repair b1) (fun r F v => ∃ (p0 : Option Addr) (k0 : Nat) (p1 : Option Addr) (k1 : Nat), v = .tuple #[(.slice p0 r.1.length k0), (.slice p1 r.2.1.length k1), (.int .i64 r.2.2)] ∧ RepSl0 1 (Ex (cInt .u8)) 5 F0 F p0 k0 r.1 ∧ RepSl 1 (Ex (cInt .i64)) F p1 k1 r.2.1) := by
  refine CT0.enterM Tryz.func21 rfl Tryz.ntmps21 rfl fun r R => ?_
  unfold m_file_Repair
  refine .seq (.region (.alloc (cs := [(.slice none 0 0)]) rfl Tryz.zeroValue25 rfl (fun b5 => ?_)))
  refine .ownNil 1 (Ex (cInt .u8)) 5 (.alloc (cs := [(.slice none 0 0)]) rfl Tryz.zeroValue31 rfl (fun b7 => ?_))
  refine .ownNil 1 (Ex (cInt .i64)) 3 (.alloc (cs := [(.int .i64 0)]) rfl Tryz.zeroValue26 rfl (fun b9 => ?_))
  refine .nil (.code (.seq (.region (.move rfl rfl (.callOwn rfl Tryz.call49 rfl rfl rfl (c_file_split_own _ b1 p2 k3 h4) (fun r_12 F_10 p13 k14 _ l_11 => ?_))))))
  refine .ownLen 0 rfl (fun hN hcm => ?_)
  refine .move rfl rfl (.extract rfl rfl rfl (.extract rfl rfl rfl (.assign rfl rfl (.assign rfl rfl (.nil (.code (.seq (.seq (.region (.move rfl rfl (.not rfl rfl ?_)))))))))))
  refine .nil (.code (.cond rfl (fun hb16 => ?_) (fun hb16 => ?_)))
  · skip
    refine .drop 0 (.seq (.region (.ownNil 1 (Ex (cInt .u8)) 5 (.ownConv 0 rfl (show [] = [] from rfl) (.ownNil 1 (Ex (cInt .u8)) 5 (.store (cs' := [(.slice none 0 0)]) Tryz.sizeOf25 rfl rfl rfl rfl (i := 6) rfl (Nat.le_of_ble_eq_true rfl) rfl rfl (.ownNil 1 (Ex (cInt .i64)) 3 (.ownConv 0 rfl (show [] = [] from rfl) (.ownNil 1 (Ex (cInt .i64)) 3 ?_)))))))))
    refine .store (cs' := [(.slice none 0 0)]) Tryz.sizeOf31 rfl rfl rfl rfl (i := 6) rfl (Nat.le_of_ble_eq_true rfl) rfl rfl (.store (cs' := [(.int .i64 8)]) Tryz.sizeOf26 rfl rfl rfl rfl (i := 4) rfl (Nat.le_of_ble_eq_true rfl) rfl rfl (.nil (.code (.freezeSl 2 rfl Fz.r (fun F_21 l_22 h23 => ?_)))))
    refine .freezeSl 0 rfl l_22 (fun F_24 l_25 h26 => ?_)
    exact .ret0M [] Tryz.results21 trivial (.cell rfl Tryz.isAgg25 (i := 6) rfl rfl (.cell rfl Tryz.isAgg31 (i := 4) rfl rfl (.cell rfl Tryz.isAgg26 (i := 2) rfl rfl (.nil)))) (i := 7) rfl (Fz.t l_11 (Fz.t l_22 l_25)) ⟨none, 0, none, 0, rfl, RepSl0.nil, h26⟩
  · skip
    refine .skip (.code (.seq (.region (.move rfl rfl (.callLendOwn 0 rfl rfl Tryz.call53 rfl rfl rfl (fun F1 _ h => c_slices_Clone_row_own F1 r_12.1 p13 k14 h) (fun r_29 F_26 p30 k31 _ l_27 => ?_))))))
    refine .freezeSl 0 rfl Fz.r (fun F_27 l_28' h32 => ?_)
    have l_28 := Fz.t l_27 l_28'
    refine .assign rfl rfl (.nil (.code (.seq (.seq (.region (.move rfl rfl (.call0 rfl Tryz.call50 rfl rfl rfl (c_groups_raw _ p13 r_12.1.length k14 hN 9) ?_)))))))
    rintro r_35 F_33 _ - l_34 ⟨k37, rfl, h38⟩
    refine .nil (.code (.block (.keep (.cons (k := 2) rfl (.cons (k := 3) rfl (.cons (k := 4) rfl (.cons (k := 5) rfl (.cons (k := 7) rfl (.cons (k := 22) rfl (.nil _))))))) (.ownUp 0 (Fz.t l_28 l_34) rfl ?_))))
    refine .rangeRet (τ := List (Nat → Int)) (γ := Unit) (fun L F_40 hs' => hs' = [ownSl 96 (Ex (cArr 96 (cInt .u8))) F_40 83 p13 k14 L, pt b9 (.cells [(.int .i64 0)].toArray 26), ownSl 1 (Ex (cInt .i64)) F0 3 none 0 [], pt b7 (.cells [(.slice none 0 0)].toArray 31), ownSl 1 (Ex (cInt .u8)) F0 5 none 0 [], pt b5 (.cells [(.slice none 0 0)].toArray 25), R] ∧ L.length = r_12.1.length)
      (fun _ F_40 hs' => hs' = [ownSl 1 (Ex (cInt .u8)) F_40 5 none 0 [], ownSl 1 (Ex (cInt .i64)) F_40 3 none 0 [], pt b9 (.cells [(.int .i64 10)].toArray 26), pt b7 (.cells [(.slice none 0 0)].toArray 31), pt b5 (.cells [(.slice none 0 0)].toArray 25), R]) rfl h38 rfl (fun _ _ _ h => by rw [show _ = _ from h]; rfl) ⟨rfl, rfl⟩ ?_ ?_ ?_
    · intro lp Lp F_40 F_44 x vs L ctl Rp hs' l_42 l_43 hx hI
      obtain rfl : vs = _ := hx
      obtain ⟨rfl, hLl⟩ := hI
      unfold b_file_Repair_1
      refine .bind fun _ hk => ?_
      have hk := okB_some hk
      simp only [decide_eq_true_eq] at hk
      refine .keep (.cons (k := 2) rfl (.cons (k := 3) rfl (.cons (k := 4) rfl (.cons (k := 5) rfl (.cons (k := 7) rfl (.cons (k := 22) rfl (.cons (k := 23) rfl (.cons (k := 24) rfl (.nil _))))))))) (.region (.assign rfl rfl (.nil ?_)))
      refine GE.begin 0 rfl ?_
      refine .block (.seq (.region (.move rfl rfl (.ownRows 2 rfl hk.1 hk.2 rfl Tryz.call54 rfl rfl (fun _ _ h => b_file_mend_len h) (fun b pre post M c h1 h2 => c_file_mend _ (hT.mono (Fz.t l_11 (Fz.t l_28 (Fz.t l_34 (Fz.t l_42 l_43))))) b pre post M c h1 h2) (fun r_56 F_54 hr56 l_55 => ?_)))))
      refine .not rfl rfl (.nil (.code (.cond rfl (fun hb57 => ?_) (fun hb57 => ?_))))
      · skip
        refine .drop 2 (.drop 3 (.drop 4 (.seq (.region (.store (cs' := [(.slice none 0 0)]) Tryz.sizeOf25 rfl rfl rfl rfl (i := 4) rfl (Nat.le_of_ble_eq_true rfl) rfl rfl (.store (cs' := [(.slice none 0 0)]) Tryz.sizeOf31 rfl rfl rfl rfl (i := 3) rfl (Nat.le_of_ble_eq_true rfl) rfl rfl (.store (cs' := [(.int .i64 10)]) Tryz.sizeOf26 rfl rfl rfl rfl (i := 2) rfl (Nat.le_of_ble_eq_true rfl) rfl rfl (.ownNil 1 (Ex (cInt .i64)) 3 (.ownNil 1 (Ex (cInt .u8)) 5 (.nil (.code ?_)))))))))))
        refine .pick [2, 2, 0, 0, 0, 0, 0, 0] (rfl : _ = [_, _, _, _, _, _, _, _]) ?_
        exact .retQ (RP.ret l_55 rfl rfl)
      · skip
        refine .skip (.block ?_)
        refine .nil (RP.norm l_55 ⟨rfl, ?_⟩ rfl)
        have h9 := b_file_mend_len hr56
        simp only [List.length_append, List.length_take, List.length_drop] at h9 ⊢
        omega
    · intro q62 F_64 F_65 L hs' l_66 l_67 he hI
      obtain ⟨rfl, hLl⟩ := hI
      refine .block (.code (.seq (.seq (.region (.freezeSl 1 rfl l_67 (fun F_65' l_67' h15 => ?_))))))
      refine .reslot 5 rfl (v' := .slice p13 L.length k14) (by rw [hLl]; rfl) (.move rfl rfl (.lenS rfl rfl Tryz.underlying81 rfl (.move rfl rfl (.nil (.code (.block (.keep (.cons (k := 2) rfl (.cons (k := 3) rfl (.cons (k := 4) rfl (.cons (k := 7) rfl (.cons (k := 28) rfl (.cons (k := 29) rfl (.cons (k := 30) rfl (.nil _)))))))) ?_)))))))
      refine .ownUp 4 (Fz.t l_11 (Fz.t l_28 (Fz.t l_34 (Fz.t l_66 (Fz.t l_67 l_67'))))) rfl (.ownUp 2 (Fz.t l_11 (Fz.t l_28 (Fz.t l_34 (Fz.t l_66 (Fz.t l_67 l_67'))))) rfl ?_)
      refine .loop (fun (s74 : Int × (List Int) × (List Int)) a w => ∃ (F_75 : Fz) (p77 : Option Addr) (k78 : Nat) (p80 : Option Addr) (k81 : Nat), F_65' ≤ F_75 ∧ Hd 51 [dmark q62] [(2, (.pointer (some ⟨b5, 0, none⟩))), (3, (.pointer (some ⟨b7, 0, none⟩))), (4, (.pointer (some ⟨b9, 0, none⟩))), (7, (.slice p30 r_29.length k31)), (28, (.slice p13 L.length k14)), (29, (.int .i64 (L.length : Int))), (30, (.int .i64 s74.1))] F_75 [pt q62 (.deferred (some [])), pt b9 (.cells [(.int .i64 0)].toArray 26), ownSl 1 (Ex (cInt .i64)) F_75 3 p80 k81 s74.2.2, pt b7 (.cells [(.slice p80 s74.2.2.length k81)].toArray 31), ownSl 1 (Ex (cInt .u8)) F_75 5 p77 k78 s74.2.1, pt b5 (.cells [(.slice p77 s74.2.1.length k78)].toArray 25), R] a w) (fun b138 e a w => e = .exit 2 ∧ ∃ (F_139 : Fz) (p141 : Option Addr) (k142 : Nat) (p144 : Option Addr) (k145 : Nat), F_65' ≤ F_139 ∧ Hd 51 [dmark q62] [(2, (.pointer (some ⟨b5, 0, none⟩))), (3, (.pointer (some ⟨b7, 0, none⟩))), (4, (.pointer (some ⟨b9, 0, none⟩)))] F_139 [pt q62 (.deferred (some [])), pt b9 (.cells [(.int .i64 0)].toArray 26), ownSl 1 (Ex (cInt .i64)) F_139 3 p144 k145 b138.2, pt b7 (.cells [(.slice p144 b138.2.length k145)].toArray 31), ownSl 1 (Ex (cInt .u8)) F_139 5 p141 k142 b138.1, pt b5 (.cells [(.slice p141 b138.1.length k142)].toArray 25), R] a w) ?_ ?_ ?_
      · exact fun a w h => ⟨F_65', none, 0, none, 0, Fz.r, h.1.sub (.cons (k := 2) rfl (.cons (k := 3) rfl (.cons (k := 4) rfl (.cons (k := 7) rfl (.cons (k := 28) rfl (.cons (k := 29) rfl (.cons (k := 30) rfl (.nil _)))))))), h.2⟩
      · intro s74 ctl
        refine GC.ex (fun a w ⟨F_75, p77, k78, p80, k81, l_76, hA⟩ => ⟨_, hA, ?_⟩)
        unfold b_file_Repair_2
        refine .seq (.region (.lss rfl rfl rfl (.nil (.code (.seq (.cond rfl (fun hb83 => ?_) (fun hb83 => ?_)))))))
        · skip
          refine .skip (.code (.seq (.keep (.cons (k := 2) rfl (.cons (k := 3) rfl (.cons (k := 4) rfl (.cons (k := 7) rfl (.cons (k := 28) rfl (.cons (k := 29) rfl (.cons (k := 30) rfl (.nil _)))))))) ?_)))
          refine GC.join0 (σ := (List Int) × (List Int)) (fun j129 a w => ∃ (F_130 : Fz) (p132 : Option Addr) (k133 : Nat) (p135 : Option Addr) (k136 : Nat), F_75 ≤ F_130 ∧ Hd 51 [dmark q62] [(2, (.pointer (some ⟨b5, 0, none⟩))), (3, (.pointer (some ⟨b7, 0, none⟩))), (4, (.pointer (some ⟨b9, 0, none⟩))), (7, (.slice p30 r_29.length k31)), (28, (.slice p13 L.length k14)), (29, (.int .i64 (L.length : Int))), (30, (.int .i64 s74.1))] F_130 [pt q62 (.deferred (some [])), pt b9 (.cells [(.int .i64 0)].toArray 26), ownSl 1 (Ex (cInt .i64)) F_130 3 p135 k136 j129.2, pt b7 (.cells [(.slice p135 j129.2.length k136)].toArray 31), ownSl 1 (Ex (cInt .u8)) F_130 5 p132 k133 j129.1, pt b5 (.cells [(.slice p132 j129.1.length k133)].toArray 25), R] a w) (fun sj => ?_) (fun j129 hs0 => GE.ex (fun a w ⟨F_130, p132, k133, p135, k136, l_131, hA⟩ => ⟨_, hA, ?_⟩))
          · skip
            refine .block (.seq (.region (.move rfl rfl (.idx rfl Tryz.underlying81 Tryz.sizeOf83 (h15.mono l_76) rfl rfl (fun x84 b85 o86 T87 fr88 cs89 e90 hm91 hv92 => ?_)))))
            refine .loadFA rfl Tryz.isAgg83 Tryz.sizeOf83 rfl hm91 hv92 rfl (.alloc (cs := ((cArr 96 (cInt .u8)) (fun (_ : Nat) => (0 : Int)))) rfl Tryz.zeroValue83 rfl (fun b94 => ?_))
            refine .assign rfl rfl (.store (cs' := ((cArr 96 (cInt .u8)) x84)) Tryz.sizeOf83 rfl rfl rfl rfl (i := 0) rfl (Nat.le_of_ble_eq_true rfl) rfl (setMany_all (by rfl)) (.nil (.code (.seq (.freeze 0 rfl (fun F_95 l_96 hb97 => ?_))))))
            refine .keep (.cons (k := 2) rfl (.cons (k := 3) rfl (.cons (k := 4) rfl (.cons (k := 7) rfl (.cons (k := 10) rfl (.cons (k := 11) rfl (.cons (k := 28) rfl (.cons (k := 29) rfl (.cons (k := 30) rfl (.nil _)))))))))) (.drawZ 2 mixedOK (by kernel_rfl) (.loadO rfl Tryz.isAgg25 rfl (i := 5) rfl rfl ?_))
            have h98 : RepSl 1 (Ex (cInt .u8)) F_95 (some ⟨b94, 0, none⟩) 96 (arrL 96 x84) := RepSl.ofArr (cs := ((cArr 96 (cInt .u8)) x84)) hb97 (arrL_len _ _) rfl (arrL_all (allLt96 (p := fun j => ∀ F', F_95 ≤ F' → ((((cArr 96 (cInt .u8)) x84)).drop (0 + j * 1)).take 1 = (cInt .u8) (x84 j)) (fun _ _ => rfl) (fun _ _ => rfl) (fun _ _ => rfl) (fun _ _ => rfl) (fun _ _ => rfl) (fun _ _ => rfl) (fun _ _ => rfl) (fun _ _ => rfl) (fun _ _ => rfl) (fun _ _ => rfl) (fun _ _ => rfl) (fun _ _ => rfl) (fun _ _ => rfl) (fun _ _ => rfl) (fun _ _ => rfl) (fun _ _ => rfl) (fun _ _ => rfl) (fun _ _ => rfl) (fun _ _ => rfl) (fun _ _ => rfl) (fun _ _ => rfl) (fun _ _ => rfl) (fun _ _ => rfl) (fun _ _ => rfl) (fun _ _ => rfl) (fun _ _ => rfl) (fun _ _ => rfl) (fun _ _ => rfl) (fun _ _ => rfl) (fun _ _ => rfl) (fun _ _ => rfl) (fun _ _ => rfl) (fun _ _ => rfl) (fun _ _ => rfl) (fun _ _ => rfl) (fun _ _ => rfl) (fun _ _ => rfl) (fun _ _ => rfl) (fun _ _ => rfl) (fun _ _ => rfl) (fun _ _ => rfl) (fun _ _ => rfl) (fun _ _ => rfl) (fun _ _ => rfl) (fun _ _ => rfl) (fun _ _ => rfl) (fun _ _ => rfl) (fun _ _ => rfl) (fun _ _ => rfl) (fun _ _ => rfl) (fun _ _ => rfl) (fun _ _ => rfl) (fun _ _ => rfl) (fun _ _ => rfl) (fun _ _ => rfl) (fun _ _ => rfl) (fun _ _ => rfl) (fun _ _ => rfl) (fun _ _ => rfl) (fun _ _ => rfl) (fun _ _ => rfl) (fun _ _ => rfl) (fun _ _ => rfl) (fun _ _ => rfl) (fun _ _ => rfl) (fun _ _ => rfl) (fun _ _ => rfl) (fun _ _ => rfl) (fun _ _ => rfl) (fun _ _ => rfl) (fun _ _ => rfl) (fun _ _ => rfl) (fun _ _ => rfl) (fun _ _ => rfl) (fun _ _ => rfl) (fun _ _ => rfl) (fun _ _ => rfl) (fun _ _ => rfl) (fun _ _ => rfl) (fun _ _ => rfl) (fun _ _ => rfl) (fun _ _ => rfl) (fun _ _ => rfl) (fun _ _ => rfl) (fun _ _ => rfl) (fun _ _ => rfl) (fun _ _ => rfl) (fun _ _ => rfl) (fun _ _ => rfl) (fun _ _ => rfl) (fun _ _ => rfl) (fun _ _ => rfl) (fun _ _ => rfl) (fun _ _ => rfl) (fun _ _ => rfl) (fun _ _ => rfl)))
            refine .sliceArr rfl Tryz.underlying83 Tryz.sizeOf5 rfl rfl ?_
            skip
            refine .pend (.append 4 ok_t5 l_96 rfl Tryz.underlying25 Tryz.underlying25 rfl rfl rfl h98 rfl rfl (fun l_99 p100 k101 e102 => ?_))
            refine .store (cs' := [(.slice p100 l_99.length k101)]) Tryz.sizeOf25 rfl rfl rfl rfl (i := 5) rfl (Nat.le_of_ble_eq_true rfl) rfl rfl (.nil (.code (.seq (.keep (.cons (k := 2) rfl (.cons (k := 3) rfl (.cons (k := 4) rfl (.cons (k := 7) rfl (.cons (k := 10) rfl (.cons (k := 11) rfl (.cons (k := 28) rfl (.cons (k := 29) rfl (.cons (k := 30) rfl (.nil _)))))))))) (.drawZ 6 mixedOK (by kernel_rfl) ?_)))))
            refine .loadFA rfl Tryz.isAgg83 Tryz.sizeOf83 rfl hb97 (vs := ((cArr 96 (cInt .u8)) x84)) (by kernel_rfl) rfl (.move rfl rfl (.move rfl rfl (.idx rfl Tryz.underlying81 Tryz.sizeOf83 (h32.mono (Fz.t l_34 (Fz.t l_66 (Fz.t l_67 (Fz.t l_67' (Fz.t l_76 l_96)))))) rfl rfl (fun x103 b104 o105 T106 fr107 cs108 e109 hm110 hv111 => ?_))))
            refine .loadFA rfl Tryz.isAgg83 Tryz.sizeOf83 rfl hm110 hv111 rfl (.neqR rfl Tryz.eqGuardType83 (fun w => req_83 x84 x103 w) rfl rfl (.pend (.nil (.code (.keep (.cons (k := 2) rfl (.cons (k := 3) rfl (.cons (k := 4) rfl (.cons (k := 7) rfl (.cons (k := 10) rfl (.cons (k := 28) rfl (.cons (k := 29) rfl (.cons (k := 30) rfl (.cons (k := 43) rfl (.nil _)))))))))) ?_)))))
            refine GC.join0 (σ := (List Int)) (fun j123 a w => ∃ (F_124 : Fz) (p126 : Option Addr) (k127 : Nat), F_95 ≤ F_124 ∧ Hd 51 [dmark q62] [(2, (.pointer (some ⟨b5, 0, none⟩))), (3, (.pointer (some ⟨b7, 0, none⟩))), (4, (.pointer (some ⟨b9, 0, none⟩))), (7, (.slice p30 r_29.length k31)), (28, (.slice p13 L.length k14)), (29, (.int .i64 (L.length : Int))), (30, (.int .i64 s74.1))] F_124 [pt q62 (.deferred (some [])), pt b9 (.cells [(.int .i64 0)].toArray 26), ownSl 1 (Ex (cInt .i64)) F_124 3 p126 k127 j123, pt b7 (.cells [(.slice p126 j123.length k127)].toArray 31), ownSl 1 (Ex (cInt .u8)) F_95 5 p100 k101 l_99, pt b5 (.cells [(.slice p100 l_99.length k101)].toArray 25), R] a w) (fun sj => ?_) (fun j123 hs0 => GE.ex (fun a w ⟨F_124, p126, k127, l_125, hA⟩ => ⟨_, hA, ?_⟩))
            · skip
              refine .cond rfl (fun hb113 => ?_) (fun hb113 => ?_)
              · skip
                refine .region (.loadO rfl Tryz.isAgg31 rfl (i := 3) rfl rfl (.move rfl rfl (.sliceLit (cs := [.int .i64 s74.1]) (zc := [.int .i64 0]) rfl Tryz.underlying31 Tryz.sizeOf3 Tryz.zeroValue3 rfl rfl rfl (by kernel_rfl) (by kernel_rfl) (fun b114 F_115 l_116 hb117 => ?_))))
                have h118 : RepSl 1 (Ex (cInt .i64)) F_115 (some ⟨b114, 0, none⟩) 1 ([s74.1]) := RepSl.ofRow hb117 (.cons ok_t3.mono rfl .nil) rfl rfl
                refine .append 2 ok_t3 (Fz.t l_96 l_116) rfl Tryz.underlying31 Tryz.underlying31 rfl rfl rfl h118 rfl rfl (fun l_119 p120 k121 e122 => ?_)
                refine .store (cs' := [(.slice p120 l_119.length k121)]) Tryz.sizeOf31 rfl rfl rfl rfl (i := 3) rfl (Nat.le_of_ble_eq_true rfl) rfl rfl (.nil ?_)
                exact .nil fun e a w h => by cases e; exact ⟨rfl, ⟨F_115, p120, k121, l_116, h.1.sub (.cons (k := 2) rfl (.cons (k := 3) rfl (.cons (k := 4) rfl (.cons (k := 7) rfl (.cons (k := 28) rfl (.cons (k := 29) rfl (.cons (k := 30) rfl (.nil _)))))))), h.2⟩⟩
              · skip
                refine .skip (.ownUp 2 l_96 rfl ?_)
                exact .nil fun e a w h => by cases e; exact ⟨rfl, ⟨F_95, p80, k81, Fz.r, h.1.sub (.cons (k := 2) rfl (.cons (k := 3) rfl (.cons (k := 4) rfl (.cons (k := 7) rfl (.cons (k := 28) rfl (.cons (k := 29) rfl (.cons (k := 30) rfl (.nil _)))))))), h.2⟩⟩
            refine .block (.ownUp 4 l_125 rfl ?_)
            exact .nil fun e a w h => by cases e; exact ⟨rfl, ⟨F_124, p100, k101, p126, k127, (Fz.t l_96 l_125), h.1.sub (.cons (k := 2) rfl (.cons (k := 3) rfl (.cons (k := 4) rfl (.cons (k := 7) rfl (.cons (k := 28) rfl (.cons (k := 29) rfl (.cons (k := 30) rfl (.nil _)))))))), h.2⟩⟩
          refine .code (.region (.add rfl rfl rfl (.move rfl rfl (.nil ?_))))
          exact .nil (LPost.norm fun a w h => ⟨F_130, p132, k133, p135, k136, (Fz.t l_76 l_131), h.1.sub (.cons (k := 2) rfl (.cons (k := 3) rfl (.cons (k := 4) rfl (.cons (k := 7) rfl (.cons (k := 28) rfl (.cons (k := 29) rfl (.cons (k := 30) rfl (.nil _)))))))), h.2⟩)
        · skip
          refine .exitOut rfl (LPost.exit fun a w h => ⟨rfl, F_75, p77, k78, p80, k81, l_76, h.1.sub (.cons (k := 2) rfl (.cons (k := 3) rfl (.cons (k := 4) rfl (.nil _)))), h.2⟩)
      · intro b138 hb0 hk e a w hD
        obtain ⟨rfl, F_139, p141, k142, p144, k145, l_140, hA⟩ := hD
        refine interp_exit rfl (GE.app ?_ hk a w hA)
        refine .code (.seq (.freezeSl0 4 rfl Fz.r (fun F_147 l_148 h149 => ?_)))
        refine .freezeSl 2 rfl l_148 (fun F_150 l_151 h152 => ?_)
        refine .keep (.cons (k := 2) rfl (.cons (k := 3) rfl (.cons (k := 4) rfl (.nil _)))) ?_
        refine .drawG 3 0 (fun env160 => [((.slice p141 b138.1.length k142), fun _ => True), ((.slice p144 b138.2.length k145), fun _ => True), (undef, fun _ => True)]) (fun L env160 => [pt q62 (.deferred (some [])), pt b9 (.cells [(.int .i64 0)].toArray 26), pt b7 (.cells [(.slice p144 b138.2.length k145)].toArray 31), (bif L 2 then (pt b5 (.cells [(.slice p141 b138.1.length k142)].toArray 25)) else (pt b5 (.cells [(.slice p141 b138.1.length k142)].toArray 25))), R]) mixedOK (by kernel_rfl) (by kernel_rfl) rfl (fun _ => rfl) (by kernel_rfl) (fun _ => rfl) ?_ (fun env160 F_161 l_162 hphi => ?_)
        · skip
          refine .cons (fun L env160 F_163 l_164 hL hdn hup hphi => ⟨[(2, (.pointer (some ⟨b5, 0, none⟩)))], fun S hS hV => (.cons (hS _ _ rfl) (Sub.nil _)), ?_⟩) ?_
          · skip
            refine .loadO rfl Tryz.isAgg25 rfl (i := 3) (congrArg some (condF (hup 1 2 rfl))) rfl ?_
            exact .finV rfl rfl Fz.r
          refine .cons (fun L env160 F_165 l_166 hL hdn hup hphi => ⟨[(3, (.pointer (some ⟨b7, 0, none⟩)))], fun S hS hV => (.cons (hS _ _ rfl) (Sub.nil _)), ?_⟩) ?_
          · skip
            refine .loadO rfl Tryz.isAgg31 rfl (i := 2) rfl rfl ?_
            exact .finV rfl rfl Fz.r
          refine .cons (fun L env160 F_167 l_168 hL hdn hup hphi => ⟨[(2, (.pointer (some ⟨b5, 0, none⟩))), (49, (.slice p141 b138.1.length k142))], fun S hS hV => (.cons (hS _ _ rfl) (.cons (hV 0 49 _ (hdn 1 0 rfl) rfl rfl) (Sub.nil _))), ?_⟩) ?_
          · skip
            refine .store (cs' := [(.slice p141 b138.1.length k142)]) Tryz.sizeOf25 rfl rfl rfl rfl (i := 3) (congrArg some (condF hL)) (Nat.le_of_ble_eq_true rfl) rfl rfl ?_
            exact .finS rfl Fz.r (setC 3 (condT rfl))
          exact .nil
        refine .norm (S' := [(2, (.pointer (some ⟨b5, 0, none⟩))), (3, (.pointer (some ⟨b7, 0, none⟩))), (4, (.pointer (some ⟨b9, 0, none⟩))), (49, (.slice p141 b138.1.length k142)), (50, (.slice p144 b138.2.length k145))]) (.cons (k := 2) rfl (.cons (k := 3) rfl (.cons (k := 4) rfl (.cons (k := 49) rfl (.cons (k := 50) rfl (.nil _)))))) (rfl : _ = [pt q62 (.deferred (some [])), pt b9 (.cells [(.int .i64 0)].toArray 26), pt b7 (.cells [(.slice p144 b138.2.length k145)].toArray 31), pt b5 (.cells [(.slice p141 b138.1.length k142)].toArray 25), R]) ?_
        refine .store (cs' := [(.slice p144 b138.2.length k145)]) Tryz.sizeOf31 rfl rfl rfl rfl (i := 2) rfl (Nat.le_of_ble_eq_true rfl) rfl rfl (.store (cs' := [(.int .i64 0)]) Tryz.sizeOf26 rfl rfl rfl rfl (i := 1) rfl (Nat.le_of_ble_eq_true rfl) rfl rfl (.nil (.code ?_)))
        exact .ret0M [(0, q62)] Tryz.results21 ⟨rfl, trivial⟩ (.cell rfl Tryz.isAgg25 (i := 3) rfl rfl (.cell rfl Tryz.isAgg31 (i := 2) rfl rfl (.cell rfl Tryz.isAgg26 (i := 1) rfl rfl (.nil)))) (i := 4) rfl (Fz.t l_11 (Fz.t l_28 (Fz.t l_34 (Fz.t l_66 (Fz.t l_67 (Fz.t (Fz.t l_67' l_140) (Fz.t l_148 (Fz.t l_151 l_162)))))))) ⟨p141, k142, p144, k145, rfl, ((h149.base (Fz.t l_11 (Fz.t l_28 (Fz.t l_34 (Fz.t l_66 (Fz.t l_67 (Fz.t l_67' l_140))))))).mono (Fz.t l_151 l_162)), (h152.mono l_162)⟩
    · intro q169 F_171 F_172 s170 hs' l_173 l_174 he hI
      obtain rfl : hs' = _ := hI
      refine .freezeSl 1 rfl l_174 (fun F_181 l_182 h183 => ?_)
      refine .freezeSl 1 rfl (Fz.t l_174 l_182) (fun F_184 l_185 h186 => ?_)
      exact .ret0M [(0, q169)] Tryz.results21 ⟨rfl, trivial⟩ (.cell rfl Tryz.isAgg25 (i := 3) rfl rfl (.cell rfl Tryz.isAgg31 (i := 2) rfl rfl (.cell rfl Tryz.isAgg26 (i := 1) rfl rfl (.nil)))) (i := 4) rfl (Fz.t l_11 (Fz.t l_28 (Fz.t l_34 (Fz.t l_173 (Fz.t l_174 (Fz.t l_182 l_185)))))) ⟨none, 0, none, 0, rfl, RepSl0.nil, h186⟩
end Go.Proofs.YthnlglmjffdpfaaGreatDoor
end

section
namespace Go.Proofs.YthnlglmjffdpfaaGreatDoor
open Go.Dec
theorem deep_opens {G F : Fz} {p : Option Addr} {cap : Nat} {l : List ApiBooked} {G0 : Fz} (h : RepSl0 2 (rApiBooked0 G) 41 G0 F p cap l) :
    ∃ NB : List (Nat × Nat), (∀ q ∈ NB, ∃ cs : List Value, cs.length = q.2 ∧ F.mem q.1 = some (.cells cs.toArray 3 (0, 0))) ∧ (∀ q ∈ NB, G.mem q.1 = none) ∧
      ∀ (i : Nat), i < l.length → ∃ bm csm x p0 k0, l[i]? = some x ∧ p = some ⟨bm, 0, none⟩ ∧ F.mem bm = some (.cells (List.toArray csm) 41 (0, 0)) ∧ csm[i * 2 + 1]? = some (.slice p0 x.N.length k0) ∧ (∀ q ∈ NB, q.1 ≠ bm) ∧ x.N.length ≤ 9223372036854775807 ∧ ∀ k, k < x.N.length → ∃ b, p0 = some ⟨b, 0, none⟩ ∧ (b, k0 * 1) ∈ NB ∧ x.N.length ≤ k0 := by
  obtain ⟨h1, _, h3⟩ := h
  rcases h3 with ⟨rfl, rfl⟩ | ⟨bm, csm, rfl, hb, _⟩
  · refine ⟨[], by simp, by simp, fun i hi => ?_⟩
    have := h1.1
    omega
  have hel : ∀ i x, l[i]? = some x → rApiBooked0 G F x ((csm.drop (i * 2)).take 2) := fun i x hx => by
    obtain ⟨b, o, T, fr, cs, e1, e2, e3⟩ := h1.at_ hx
    simp only [Option.some.injEq, Addr.mk.injEq, and_true] at e1
    obtain ⟨rfl, rfl⟩ := e1
    rw [hb] at e2
    simp only [Option.some.injEq, Obj.cells.injEq] at e2
    have e4 : csm = cs := by simpa using congrArg Array.toList e2.1
    rw [e4]; simpa using e3
  have hn : ∀ n, n ≤ l.length → ∃ NB : List (Nat × Nat), (∀ q ∈ NB, ∃ cs : List Value, cs.length = q.2 ∧ F.mem q.1 = some (.cells cs.toArray 3 (0, 0))) ∧ (∀ q ∈ NB, G.mem q.1 = none) ∧
      ∀ (i : Nat), i < n → ∃ x p0 k0, l[i]? = some x ∧ csm[i * 2 + 1]? = some (.slice p0 x.N.length k0) ∧ x.N.length ≤ 9223372036854775807 ∧ ∀ k, k < x.N.length → ∃ b, p0 = some ⟨b, 0, none⟩ ∧ (b, k0 * 1) ∈ NB ∧ x.N.length ≤ k0 := by
    intro n
    induction n with
    | zero => exact fun _ => ⟨[], by simp, by simp, fun i hi => absurd hi (Nat.not_lt_zero i)⟩
    | succ n ih =>
      intro hl
      obtain ⟨NB, a1, a2, a3⟩ := ih (by omega)
      have hx : l[n]? = some l[n] := List.getElem?_eq_getElem (by omega)
      obtain ⟨p0, k0, hv, hr⟩ := hel n _ hx
      obtain ⟨NB', b1, b2, b3⟩ := hr.opens
      refine ⟨NB ++ NB', fun q hq => (List.mem_append.1 hq).elim (a1 q) (b1 q), fun q hq => (List.mem_append.1 hq).elim (a2 q) (b2 q), fun i hi => ?_⟩
      by_cases e : i < n
      · obtain ⟨x, p1, k1, c1, c2, c3, c4⟩ := a3 i e
        exact ⟨x, p1, k1, c1, c2, c3, fun k hk => by
          obtain ⟨b, d1, d2, d3⟩ := c4 k hk
          exact ⟨b, d1, List.mem_append.2 (.inl d2), d3⟩⟩
      · have : i = n := by omega
        subst this
        refine ⟨_, p0, k0, hx, cell_of_take hv rfl, Nat.le_trans hr.1.1 hr.1.2.1, fun k hk => ?_⟩
        obtain ⟨b, d1, d2⟩ := b3 k hk
        exact ⟨b, d1, List.mem_append.2 (.inr d2), hr.1.1⟩
  obtain ⟨NB, a1, a2, a3⟩ := hn l.length (Nat.le_refl _)
  refine ⟨NB, a1, a2, fun i hi => ?_⟩
  obtain ⟨x, p0, k0, c1, c2, c3, c4⟩ := a3 i hi
  refine ⟨bm, csm, x, p0, k0, c1, rfl, hb, c2, fun q hq e => ?_, c3, c4⟩
  obtain ⟨cs, _, g⟩ := a1 q hq
  rw [e, hb] at g
  simp at g
def cntB (n : Nat) (i : Int) : Option (Ctl Int Unit) := if decide (i < (n : Int)) then some (.next (w64 (i + 1))) else some (.done ())
theorem cnt_loop {n : Nat} (h : n ≤ 9223372036854775807) : ∀ (d i : Nat), i + d = n → loopM (cntB n) (i : Int) = some ()
  | 0, i, e => by
    have hb : cntB n (i : Int) = some (.done ()) := by unfold cntB; rw [if_neg (by rw [decide_eq_true_eq]; omega)]
    rw [loopM_eq, hb]
  | d + 1, i, e => by
    have hb : cntB n (i : Int) = some (.next ((i + 1 : Nat) : Int)) := by
      unfold cntB; rw [if_pos (by rw [decide_eq_true_eq]; omega), w64_id (by omega) (by omega)]; rfl
    rw [loopM_eq, hb]
    exact cnt_loop h d (i + 1) (by omega)
theorem cnt_bind {n : Nat} (h : n ≤ 9223372036854775807) {β : Type} (m : Option β) : m = (loopM (cntB n) 0).bind fun _ => m := by
  have := cnt_loop h n 0 (by omega)
  have e : loopM (cntB n) 0 = some () := this
  rw [e]; rfl
theorem GC.cnt {κ : Option Nat} {β : Type} {P : Program} {cd : Code} {ks : List Kt} {Q : Exit → Act → World → Prop} {A : Act → World → Prop} {m : Option β} {r : β} {n : Nat} (h : n ≤ 9223372036854775807) (k : GC κ P cd ks Q A ((loopM (cntB n) 0).bind fun _ => m) r) : GC κ P cd ks Q A m r := by
  rw [cnt_bind h m]; exact k
theorem allLt10 {p : Nat → Prop} (h0 : p 0) (h1 : p 1) (h2 : p 2) (h3 : p 3) (h4 : p 4) (h5 : p 5) (h6 : p 6) (h7 : p 7) (h8 : p 8) (h9 : p 9) : ∀ j, j < 10 → p j := by
  intro j hj; match j, hj with | 0, _ => exact h0 | 1, _ => exact h1 | 2, _ => exact h2 | 3, _ => exact h3 | 4, _ => exact h4 | 5, _ => exact h5 | 6, _ => exact h6 | 7, _ => exact h7 | 8, _ => exact h8 | 9, _ => exact h9
theorem allLt11 {p : Nat → Prop} (h0 : p 0) (h1 : p 1) (h2 : p 2) (h3 : p 3) (h4 : p 4) (h5 : p 5) (h6 : p 6) (h7 : p 7) (h8 : p 8) (h9 : p 9) (h10 : p 10) : ∀ j, j < 11 → p j := by
  intro j hj; match j, hj with | 0, _ => exact h0 | 1, _ => exact h1 | 2, _ => exact h2 | 3, _ => exact h3 | 4, _ => exact h4 | 5, _ => exact h5 | 6, _ => exact h6 | 7, _ => exact h7 | 8, _ => exact h8 | 9, _ => exact h9 | 10, _ => exact h10
noncomputable def b_wormtublaw14_FileOwns_1 (l_1 : (List ApiBooked)) (s13 : (List ApiBooked) × Int) : Option (Ctl ((List ApiBooked) × Int) (((List ApiBooked)))) :=
  if (decide (s13.2 < (l_1.length : Int))) then ((idxL l_1 s13.2).bind fun x20 => (appO ([]) x20.N).bind fun l_36 => (appO s13.1 ([(ApiBooked.mk x20.Kind l_36)])).bind fun l_86 => some (.next (l_86, (w64 (s13.2 + 1))))) else (some (.done s13.1))
noncomputable def m_wormtublaw14_FileOwns (l_1 : (List ApiBooked)) : Option Bool :=
  (m_wormtublaw14_great l_1).bind fun r_7 => if r_7 then ((m_wormtublaw14_alive).bind fun r_11 => some r_11) else ((loopM (b_wormtublaw14_FileOwns_1 l_1) ([], 0)).bind fun b90 => (m_file_Write l_1).bind fun r_98 => if (r_98.2 != 0) then ((m_wormtubref14_Same l_1 b90).bind fun r_108 => (if r_108 then ((m_wormtublaw14_alive).bind fun r_112 => some r_112) else some false).bind fun z116 => some z116) else ((m_file_Read r_98.1).bind fun r_120 => (m_file_Repair r_98.1).bind fun r_126 => (m_file_Read r_98.1).bind fun r_139 => (if ((u8s r_98.1) == (u8s r_98.1)) then ((m_wormtubref14_Same r_139.1 b90).bind fun r_149 => some r_149) else some false).bind fun z153 => (if (z153 && (r_139.2 == 0)) then ((m_wormtubref14_Same l_1 b90).bind fun r_162 => some r_162) else some false).bind fun z166 => (if z166 then ((m_wormtublaw14_alive).bind fun r_171 => some r_171) else some false).bind fun z175 => some z175))
set_option maxRecDepth 100000 in
set_option maxHeartbeats 4000000 in
theorem c_wormtublaw14_FileOwns (F0 : Fz) (hT : TabsP F0) (l_1 : (List ApiBooked)) (p2 : Option Addr) (k3 : Nat) (h4 : RepSl 2 rApiBooked F0 p2 k3 l_1) : CT0 Tryz.prog 10 [(.slice p2 l_1.length k3)].toArray F0 (m_wormtublaw14_FileOwns l_1) (fun r _ v => v = (.bool r)) := by
  refine CT0.enter Tryz.func10 rfl Tryz.ntmps10 rfl fun r R => ?_
  unfold m_wormtublaw14_FileOwns
  refine .seq (.region (.assign rfl rfl (.nil (.code (.seq (.seq (.region (.move rfl rfl (.call0 rfl Tryz.call15 rfl rfl rfl (c_wormtublaw14_great _ l_1 p2 k3 h4) ?_)))))))))
  rintro r_7 F_5 _ - l_6 rfl
  refine .nil (.code (.cond rfl (fun hb8 => ?_) (fun hb8 => ?_)))
  · skip
    refine .seq (.region (.call0 rfl Tryz.call16 rfl rfl rfl (c_wormtublaw14_alive _ (hT.mono l_6)) ?_))
    rintro r_11 F_9 _ - l_10 rfl
    refine .assign rfl rfl (.nil (.code ?_))
    exact .ret0 Tryz.results10 (.tmp rfl (.nil)) (i := 0) rfl (Fz.t l_6 l_10) rfl
  · skip
    refine .skip (.code (.seq (.region (.assign rfl rfl (.nil (.code (.seq (.seq (.region (.move rfl rfl (.lenS rfl rfl Tryz.underlying22 rfl ?_)))))))))))
    refine .move rfl rfl (.nil (.code (.block (.ownNil 2 rApiBooked 41 (.keep (.cons (k := 0) rfl (.cons (k := 3) rfl (.cons (k := 22) rfl (.cons (k := 23) rfl (.cons (k := 24) rfl (.nil _)))))) ?_)))))
    refine .loop (fun (s13 : (List ApiBooked) × Int) a w => ∃ (F_14 : Fz) (p16 : Option Addr) (k17 : Nat), F_5 ≤ F_14 ∧ Hd 123 [] [(0, (.slice p2 l_1.length k3)), (3, (.slice p16 s13.1.length k17)), (22, (.slice p2 l_1.length k3)), (23, (.int .i64 (l_1.length : Int))), (24, (.int .i64 s13.2))] F_14 [ownSl 2 rApiBooked F_14 41 p16 k17 s13.1, R] a w) (fun b90 e a w => e = .exit 0 ∧ ∃ (F_91 : Fz) (p93 : Option Addr) (k94 : Nat), F_5 ≤ F_91 ∧ Hd 123 [] [(0, (.slice p2 l_1.length k3)), (3, (.slice p93 b90.length k94))] F_91 [ownSl 2 rApiBooked F_91 41 p93 k94 b90, R] a w) ?_ ?_ ?_
    · exact fun a w h => ⟨F_5, none, 0, Fz.r, h.1.sub (.cons (k := 0) rfl (.cons (k := 3) rfl (.cons (k := 22) rfl (.cons (k := 23) rfl (.cons (k := 24) rfl (.nil _)))))), h.2⟩
    · intro s13 ctl
      refine GC.ex (fun a w ⟨F_14, p16, k17, l_15, hA⟩ => ⟨_, hA, ?_⟩)
      unfold b_wormtublaw14_FileOwns_1
      refine .seq (.region (.lss rfl rfl rfl (.nil (.code (.seq (.cond rfl (fun hb19 => ?_) (fun hb19 => ?_)))))))
      · skip
        refine .skip (.code (.seq (.block (.seq (.region (.idx rfl Tryz.underlying22 Tryz.sizeOf41 (h4.mono (Fz.t l_6 l_15)) rfl rfl (fun x20 b21 o22 T23 fr24 cs25 e26 hm27 hv28 => ?_)))))))
        obtain ⟨p30, k31, hv28, h32⟩ := hv28
        refine .loadFA rfl Tryz.isAgg41 Tryz.sizeOf41 rfl hm27 hv28 rfl (.alloc (cs := (cApiBooked (ApiBooked.mk 0 ([])) none 0)) rfl Tryz.zeroValue41 rfl (fun b33 => ?_))
        refine .store (cs' := (cApiBooked x20 p30 k31)) Tryz.sizeOf41 rfl rfl rfl rfl (i := 0) rfl (Nat.le_of_ble_eq_true rfl) rfl (setMany_all (by rfl)) (.nil (.code (.keep (.cons (k := 0) rfl (.cons (k := 3) rfl (.cons (k := 5) rfl (.cons (k := 22) rfl (.cons (k := 23) rfl (.cons (k := 24) rfl (.nil _))))))) (.bind (fun l_36 hx40 => ?_)))))
        refine .drawGD 9 1 (fun env34 => [((.slice p16 s13.1.length k17), fun _ => True), ((.pointer (some ⟨b33, 0 + 0, none⟩)), fun _ => True), ((.int .i64 x20.Kind), fun _ => True), ((.slice (some ⟨env34.n 30, 0, none⟩) 0 0), fun G => env34.f 30 ≤ G), ((.pointer (some ⟨b33, 0 + 1, none⟩)), fun _ => True), ((.slice p30 x20.N.length k31), fun _ => True), ((.slice (env34.a 60) l_36.length (env34.n 60)), fun G => RepSl 1 (Ex (cInt .i64)) G (env34.a 60) (env34.n 60) l_36), ((eApiBooked (ApiBooked.mk x20.Kind l_36) (env34.a 70) (env34.n 70)), fun G => RepSl 1 (Ex (cInt .i64)) G (env34.a 70) (env34.n 70) ((ApiBooked.mk x20.Kind l_36).N)), ((.slice (some ⟨env34.n 80, 0, none⟩) ([(ApiBooked.mk x20.Kind l_36)]).length 1), fun G => RepSl 2 rApiBooked G (some ⟨env34.n 80, 0, none⟩) 1 ([(ApiBooked.mk x20.Kind l_36)]))]) (fun L env34 => [pt b33 (.cells (cApiBooked x20 p30 k31).toArray 41), ownSl 2 rApiBooked F_14 41 p16 k17 s13.1, R, (bif L 6 then emp else (bif L 3 then (ownSl 1 (Ex (cInt .i64)) (env34.f 30) 3 (some ⟨env34.n 30, 0, none⟩) 0 ([])) else emp))]) mixedOK (by kernel_rfl) (deepN (k := 9) (n := 11) rfl (allLt11 (p := fun t => 9 ≤ t → ∀ j, j < t → ∃ s, depB _ s t j = true) (fun h => absurd h (by decide)) (fun h => absurd h (by decide)) (fun h => absurd h (by decide)) (fun h => absurd h (by decide)) (fun h => absurd h (by decide)) (fun h => absurd h (by decide)) (fun h => absurd h (by decide)) (fun h => absurd h (by decide)) (fun h => absurd h (by decide)) (fun _ => allLt9 (p := fun j => ∃ s, depB _ s 9 j = true) ⟨1, rfl⟩ ⟨4, rfl⟩ ⟨3, rfl⟩ ⟨2, rfl⟩ ⟨3, rfl⟩ ⟨2, rfl⟩ ⟨1, rfl⟩ ⟨2, rfl⟩ ⟨1, rfl⟩) (fun _ => allLt10 (p := fun j => ∃ s, depB _ s 10 j = true) ⟨1, rfl⟩ ⟨1, rfl⟩ ⟨1, rfl⟩ ⟨1, rfl⟩ ⟨1, rfl⟩ ⟨1, rfl⟩ ⟨1, rfl⟩ ⟨1, rfl⟩ ⟨1, rfl⟩ ⟨1, rfl⟩))) rfl (fun _ => rfl) (by kernel_rfl) (fun _ => rfl) ?_ (fun env34 F_51 l_52 hphi => ?_)
        · skip
          refine .cons (fun L env34 F_55 l_56 hL hdn hup hphi => ⟨[(3, (.slice p16 s13.1.length k17))], fun S hS hV => (.cons (hS _ _ rfl) (Sub.nil _)), ?_⟩) ?_
          · skip
            refine .move rfl rfl ?_
            exact .finV rfl rfl Fz.r
          refine .cons (fun L env34 F_57 l_58 hL hdn hup hphi => ⟨[(5, (.pointer (some ⟨b33, 0, none⟩)))], fun S hS hV => (.cons (hS _ _ rfl) (Sub.nil _)), ?_⟩) ?_
          · skip
            refine .fieldAddr rfl Tryz.underlying41 rfl Tryz.sizeOf3 rfl ?_
            exact .finV rfl rfl Fz.r
          refine .cons (fun L env34 F_59 l_60 hL hdn hup hphi => ⟨[(29, (.pointer (some ⟨b33, 0 + 0, none⟩)))], fun S hS hV => (.cons (hV 1 29 _ (hdn 1 1 rfl) rfl rfl) (Sub.nil _)), ?_⟩) ?_
          · skip
            refine .loadO rfl Tryz.isAgg3 rfl (i := 0) rfl rfl ?_
            exact .finV rfl rfl Fz.r
          refine .cons (fun L env34 F_61 l_62 hL hdn hup hphi => ⟨[], fun S hS hV => (Sub.nil _), ?_⟩) ?_
          · skip
            refine .sliceOwn0 (Ex (cInt .i64)) rfl Tryz.underlying31 Tryz.sizeOf3 (fun b63 => ?_)
            exact .finG ({ env34 with n := updN env34.n 30 b63, f := updN env34.f 30 F_61 }) [true, true, true, false, true, true, false, false, false] rfl (by kernel_rfl) rfl rfl Fz.r (fun _ le => le) (fun _ h => SH.placeC 3 (congrArg some ((condF (hup 1 6 rfl)).trans (condF hL))) ((condF (b := updB L 3 6) (hup 1 6 rfl)).trans (condT rfl)) h)
          refine .cons (fun L env34 F_64 l_65 hL hdn hup hphi => ⟨[(5, (.pointer (some ⟨b33, 0, none⟩)))], fun S hS hV => (.cons (hS _ _ rfl) (Sub.nil _)), ?_⟩) ?_
          · skip
            refine .fieldAddr rfl Tryz.underlying41 rfl Tryz.sizeOf31 rfl ?_
            exact .finV rfl rfl Fz.r
          refine .cons (fun L env34 F_66 l_67 hL hdn hup hphi => ⟨[(32, (.pointer (some ⟨b33, 0 + 1, none⟩)))], fun S hS hV => (.cons (hV 4 32 _ (hdn 1 4 rfl) rfl rfl) (Sub.nil _)), ?_⟩) ?_
          · skip
            refine .loadO rfl Tryz.isAgg31 rfl (i := 0) rfl rfl ?_
            exact .finV rfl rfl Fz.r
          refine .cons (fun L env34 F_68 l_69 hL hdn hup hphi => ⟨[(31, (.slice (some ⟨env34.n 30, 0, none⟩) 0 0)), (33, (.slice p30 x20.N.length k31))], fun S hS hV => (.cons (hV 3 31 _ (hdn 1 3 rfl) rfl rfl) (.cons (hV 5 33 _ (hdn 1 5 rfl) rfl rfl) (Sub.nil _))), ?_⟩) ?_
          · skip
            have l_53 := hphi 3 _ (hdn 1 3 rfl) rfl _ Fz.r
            refine .appendK hx40 3 ok_t3 l_53 rfl Tryz.underlying31 Tryz.underlying31 rfl rfl (congrArg some ((condF hL).trans (condT (hdn 1 3 rfl)))) (h32.mono l_69) rfl rfl (fun p71 k72 => ?_)
            refine .freezeSl 3 rfl Fz.r (fun F_76 l_77 h78 => .emps ?_)
            exact .finQ ({ env34 with a := updN env34.a 60 p71, n := updN env34.n 60 k72 }) [true, true, true, true, true, true, false, false, false] rfl (by kernel_rfl) rfl rfl l_77 (fun _ le => h78.mono le) (cons_eq rfl (cons_eq rfl (cons_eq rfl (cons_eq (condT rfl) rfl))))
          refine .cons (fun L env34 F_74 l_75 hL hdn hup hphi => ⟨[(30, (.int .i64 x20.Kind)), (34, (.slice (env34.a 60) l_36.length (env34.n 60)))], fun S hS hV => (.cons (hV 2 30 _ (hdn 1 2 rfl) rfl rfl) (.cons (hV 6 34 _ (hdn 1 6 rfl) rfl rfl) (Sub.nil _))), ?_⟩) ?_
          · skip
            have l_53 := hphi 3 _ (hdn 2 3 rfl) rfl _ Fz.r
            have l_54 := hphi 6 _ (hdn 1 6 rfl) rfl _ Fz.r
            refine .build (cs := (cApiBooked (ApiBooked.mk x20.Kind l_36) (env34.a 60) (env34.n 60)).toArray) rfl Tryz.underlying41 Tryz.zeroValue41 (plApiBooked _ Tryz.underlying41) rfl rfl (by kernel_rfl) ?_
            exact .finQ ({ env34 with a := (updN env34.a 70 (env34.a 60)), n := (updN env34.n 70 (env34.n 60)), c := env34.c, o := env34.o }) [true, true, true, true, true, true, true, false, false] rfl (by kernel_rfl) rfl rfl Fz.r (fun _ le => l_54.mono le) (cons_eq rfl (cons_eq rfl (cons_eq rfl (cons_eq rfl rfl))))
          refine .cons (fun L env34 F_79 l_80 hL hdn hup hphi => ⟨[(35, (eApiBooked (ApiBooked.mk x20.Kind l_36) (env34.a 70) (env34.n 70)))], fun S hS hV => (.cons (hV 7 35 _ (hdn 1 7 rfl) rfl rfl) (Sub.nil _)), ?_⟩) ?_
          · skip
            have l_53 := hphi 3 _ (hdn 3 3 rfl) rfl _ Fz.r
            have l_54 := hphi 6 _ (hdn 2 6 rfl) rfl _ Fz.r
            have h44 := hphi 7 _ (hdn 1 7 rfl) rfl _ Fz.r
            refine .sliceLit (cs := [.int .i64 (ApiBooked.mk x20.Kind l_36).Kind, .slice (env34.a 70) (ApiBooked.mk x20.Kind l_36).N.length (env34.n 70)]) (zc := [.int .i64 (ApiBooked.mk 0 ([])).Kind, .slice none (ApiBooked.mk 0 ([])).N.length 0]) rfl Tryz.underlying22 Tryz.sizeOf41 Tryz.zeroValue41 rfl rfl rfl (by kernel_rfl) (by kernel_rfl) (fun b81 F_82 l_83 hb84 => ?_)
            have h85 : RepSl 2 rApiBooked F_82 (some ⟨b81, 0, none⟩) 1 ([(ApiBooked.mk x20.Kind l_36)]) := RepSl.ofRow hb84 (.cons ok_t41.mono ⟨_, _, rfl, (h44.mono l_83)⟩ .nil) rfl rfl
            exact .finQ ({ env34 with a := env34.a, n := (updN env34.n 80 b81), c := env34.c, o := env34.o }) [true, true, true, true, true, true, true, true, false] rfl (by kernel_rfl) rfl rfl l_83 (fun _ le => h85.mono le) (cons_eq rfl (cons_eq rfl (cons_eq rfl (cons_eq rfl rfl))))
          exact .nil
        have l_53 := hphi 3 _ rfl
        have l_54 := hphi 6 _ rfl
        have h44 := hphi 7 _ rfl
        have h50 := hphi 8 _ rfl
        refine .norm (S' := [(0, (.slice p2 l_1.length k3)), (3, (.slice p16 s13.1.length k17)), (5, (.pointer (some ⟨b33, 0, none⟩))), (22, (.slice p2 l_1.length k3)), (23, (.int .i64 (l_1.length : Int))), (24, (.int .i64 s13.2)), (28, (.slice p16 s13.1.length k17)), (29, (.pointer (some ⟨b33, 0 + 0, none⟩))), (30, (.int .i64 x20.Kind)), (31, (.slice (some ⟨env34.n 30, 0, none⟩) 0 0)), (32, (.pointer (some ⟨b33, 0 + 1, none⟩))), (33, (.slice p30 x20.N.length k31)), (34, (.slice (env34.a 60) l_36.length (env34.n 60))), (35, (eApiBooked (ApiBooked.mk x20.Kind l_36) (env34.a 70) (env34.n 70))), (36, (.slice (some ⟨env34.n 80, 0, none⟩) ([(ApiBooked.mk x20.Kind l_36)]).length 1))]) (.cons (k := 0) rfl (.cons (k := 3) rfl (.cons (k := 5) rfl (.cons (k := 22) rfl (.cons (k := 23) rfl (.cons (k := 24) rfl (.cons (k := 28) rfl (.cons (k := 29) rfl (.cons (k := 30) rfl (.cons (k := 31) rfl (.cons (k := 32) rfl (.cons (k := 33) rfl (.cons (k := 34) rfl (.cons (k := 35) rfl (.cons (k := 36) rfl (.nil _)))))))))))))))) (rfl : _ = [pt b33 (.cells (cApiBooked x20 p30 k31).toArray 41), ownSl 2 rApiBooked F_14 41 p16 k17 s13.1, R, emp]) (.drop 3 ?_)
        refine .append 1 ok_t41 l_52 rfl Tryz.underlying22 Tryz.underlying22 rfl rfl rfl h50 rfl rfl (fun l_86 p87 k88 e89 => ?_)
        refine .assign rfl rfl (.nil (.block (.code (.region (.add rfl rfl rfl (.move rfl rfl (.nil (.drop 0 ?_))))))))
        exact .nil (LPost.norm fun a w h => ⟨F_51, p87, k88, (Fz.t l_15 l_52), h.1.sub (.cons (k := 0) rfl (.cons (k := 3) rfl (.cons (k := 22) rfl (.cons (k := 23) rfl (.cons (k := 24) rfl (.nil _)))))), h.2⟩)
      · skip
        refine .exitOut rfl (LPost.exit fun a w h => ⟨rfl, F_14, p16, k17, l_15, h.1.sub (.cons (k := 0) rfl (.cons (k := 3) rfl (.nil _))), h.2⟩)
    · intro b90 hb0 hk e a w hD
      obtain ⟨rfl, F_91, p93, k94, l_92, hA⟩ := hD
      refine interp_exit rfl (GE.app ?_ hk a w hA)
      refine .code (.seq (.region (.move rfl rfl (.call0 rfl Tryz.call17 rfl rfl rfl (c_file_Write _ (hT.mono (Fz.t l_6 l_92)) l_1 p2 k3 (h4.mono (Fz.t l_6 l_92))) ?_))))
      rintro r_98 F_96 _ - l_97 ⟨p99, k100, rfl, h101⟩
      refine .move rfl rfl (.extract rfl rfl rfl (.extract rfl rfl rfl (.assign rfl rfl (.assign rfl rfl (.nil (.code (.seq (.seq (.region (.move rfl rfl (.neq rfl rfl rfl ?_)))))))))))
      refine .nil (.code (.cond rfl (fun hb102 => ?_) (fun hb102 => ?_)))
      · skip
        refine .seq (.region (.move rfl rfl (.move rfl rfl (.freezeSl 0 rfl l_97 (fun F_103 l_104 h105 => ?_)))))
        refine .call0 rfl Tryz.call23 rfl rfl rfl (c_wormtubref14_Same _ l_1 p2 k3 (h4.mono (Fz.t l_6 (Fz.t l_92 (Fz.t l_97 l_104)))) b90 p93 k94 h105) ?_
        rintro r_108 F_106 _ - l_107 rfl
        refine .move rfl rfl (.andM (b := r_108) 2 51 (fun hb109 z117 => ?_) (fun hb113 => ?_) (fun z116 F_114 l_115 => ?_))
        · skip
          refine .onH hb109 rfl rfl (.call0 rfl Tryz.call16 rfl rfl rfl (c_wormtublaw14_alive _ (hT.mono (Fz.t l_6 (Fz.t l_92 (Fz.t l_97 (Fz.t l_104 l_107)))))) ?_)
          rintro r_112 F_110 _ - l_111 rfl
          refine .pickTH hb109 rfl rfl rfl ?_
          exact .finZ 2 rfl rfl (by kernel_rfl) l_111
        · skip
          refine .offH hb113 rfl rfl rfl (.pickFH hb113 rfl rfl rfl ?_)
          exact .fin 2 rfl rfl (by kernel_rfl) Fz.r
        refine .assign rfl rfl (.nil (.code ?_))
        exact .ret0 Tryz.results10 (.tmp rfl (.nil)) (i := 0) rfl (Fz.t l_6 (Fz.t l_92 (Fz.t l_97 (Fz.t l_104 (Fz.t l_107 l_115))))) rfl
      · skip
        refine .skip (.code (.seq (.region (.move rfl rfl (.bytesStr rfl Tryz.underlying25 Tryz.underlying5 Tryz.underlying9 h101 rfl (.assign rfl rfl (.nil (.code (.seq (.region (.move rfl rfl ?_)))))))))))
        refine .call0 rfl Tryz.call19 rfl rfl rfl (c_file_Read_0 _ (hT.mono (Fz.t l_6 (Fz.t l_92 l_97))) r_98.1 p99 k100 h101) ?_
        rintro r_120 F_118 _ - l_119 ⟨p121, k122, rfl, h123⟩
        refine .move rfl rfl (.extract rfl rfl rfl (.extract rfl rfl rfl (.assign rfl rfl (.assign rfl rfl (.nil (.code (.seq (.region (.move rfl rfl (.call0 rfl Tryz.call21 rfl rfl rfl (c_file_Repair_0 _ (hT.mono (Fz.t l_6 (Fz.t l_92 (Fz.t l_97 l_119)))) r_98.1 p99 k100 (h101.mono l_119)) ?_))))))))))
        rintro r_126 F_124 _ - l_125 ⟨p127, k128, p130, k131, rfl, h129, h132⟩
        refine .move rfl rfl (.extract rfl rfl rfl (.extract rfl rfl rfl (.extract rfl rfl rfl (.assign rfl rfl (.assign rfl rfl (.assign rfl rfl (.nil (.keep (.cons (k := 0) rfl (.cons (k := 3) rfl (.cons (k := 6) rfl (.cons (k := 8) rfl (.cons (k := 9) rfl (.cons (k := 11) rfl (.nil _))))))) (.code (.seq (.seq ?_)))))))))))
        refine .region (.move rfl rfl (.lenS rfl rfl Tryz.underlying25 rfl (.move rfl rfl (.nil (.code (.block ?_))))))
        obtain ⟨NB, n1, n2, n3⟩ := h129.opens
        refine .openN (G := F_118) NB 5 n1 n2 l_125 (fun F_133 l_134 hk2 => ?_)
        have hlen2 : r_126.1.length ≤ 9223372036854775807 := Nat.le_trans h129.1.1 h129.1.2.1
        refine GC.cnt (n := r_126.1.length) hlen2 ?_
        refine .keep (.cons (k := 0) rfl (.cons (k := 3) rfl (.cons (k := 6) rfl (.cons (k := 8) rfl (.cons (k := 9) rfl (.cons (k := 11) rfl (.cons (k := 66) rfl (.cons (k := 67) rfl (.nil _))))))))) ?_
        refine .loop (fun (s : Int) a w => 0 ≤ s ∧ Hd 123 [] [(0, (.slice p2 l_1.length k3)), (3, (.slice p93 b90.length k94)), (6, (.slice p99 r_98.1.length k100)), (8, (.string (bs (u8s r_98.1)))), (9, (.slice p121 r_120.1.length k122)), (11, (.slice p127 r_126.1.length k128)), (66, (.int .i64 (r_126.1.length : Int))), (67, (.int .i64 s))] F_133 [openN NB 5, ownSl 2 rApiBooked F_91 41 p93 k94 b90, R] a w) (fun _ e a w => e = .exit 2 ∧ Hd 123 [] [(0, (.slice p2 l_1.length k3)), (3, (.slice p93 b90.length k94)), (6, (.slice p99 r_98.1.length k100)), (8, (.string (bs (u8s r_98.1)))), (9, (.slice p121 r_120.1.length k122))] F_133 [openN NB 5, ownSl 2 rApiBooked F_91 41 p93 k94 b90, R] a w) ?_ ?_ ?_
        · exact fun a w h => ⟨Int.le_refl _, h⟩
        · intro s ctl
          refine GC.ex (fun a w ⟨h0, hA⟩ => ⟨_, hA, ?_⟩)
          unfold cntB
          refine .seq (.region (.lss rfl rfl rfl (.nil (.code (.seq (.cond rfl (fun hb => ?_) (fun hb => ?_)))))))
          · refine .skip (.code (.seq (.block (.seq (.region (.move rfl rfl (.assign rfl rfl (.nil (.code (.region (.move rfl rfl (.move rfl rfl ?_))))))))))))
            simp only [decide_eq_true_eq] at hb
            obtain ⟨j, rfl⟩ := Int.eq_ofNat_of_zero_le h0
            obtain ⟨bx, ep, hin⟩ := n3 j (by omega)
            have hcap := h129.1.1
            refine .idxQ rfl Tryz.underlying25 Tryz.sizeOf5 ⟨0, ep, rfl, by rw [Int.toNat_natCast]; exact idxO_nat (by omega)⟩ rfl rfl ?_
            refine .storeN (NB := NB) (vs := [.int .u8 0]) (k0 := k128 * 1) Tryz.sizeOf5 rfl rfl rfl rfl (i := 0) rfl hin (by rw [Int.toNat_natCast, List.length_singleton]; omega) rfl (.nil ?_)
            refine .block (.code (.region (.add rfl rfl rfl (.move rfl rfl (.nil ?_)))))
            exact .nil (LPost.norm fun a w h => ⟨by rw [w64_id (by omega) (by omega)]; omega, h.1.sub (.cons (k := 0) rfl (.cons (k := 3) rfl (.cons (k := 6) rfl (.cons (k := 8) rfl (.cons (k := 9) rfl (.cons (k := 11) rfl (.cons (k := 66) rfl (.cons (k := 67) rfl (.nil _))))))))), h.2⟩)
          · exact .exitOut rfl (LPost.exit fun a w h => ⟨rfl, h.1.sub (.cons (k := 0) rfl (.cons (k := 3) rfl (.cons (k := 6) rfl (.cons (k := 8) rfl (.cons (k := 9) rfl (.nil _)))))), h.2⟩)
        intro bv hb0 hk e a w hD
        obtain ⟨rfl, hA⟩ := hD
        refine interp_exit rfl (GE.app ?_ hk a w hA)
        refine .drop 0 ?_
        refine .code (.seq (.seq (.region (.move rfl rfl (.lenS rfl rfl Tryz.underlying22 rfl (.move rfl rfl (.nil (.code (.block ?_)))))))))
        obtain ⟨NB3, m1, m2, m3⟩ := deep_opens (h123.mono l_134)
        refine .openN (G := F_96) NB3 3 m1 m2 (Fz.t l_119 l_134) (fun F_135 l_136 hk3 => ?_)
        have hlen3 : r_120.1.length ≤ 9223372036854775807 := Nat.le_trans h123.1.1 h123.1.2.1
        refine GC.cnt (n := r_120.1.length) hlen3 ?_
        refine .keep (.cons (k := 0) rfl (.cons (k := 3) rfl (.cons (k := 6) rfl (.cons (k := 8) rfl (.cons (k := 9) rfl (.cons (k := 75) rfl (.cons (k := 76) rfl (.nil _)))))))) ?_
        refine .loop (fun (s : Int) a w => 0 ≤ s ∧ Hd 123 [] [(0, (.slice p2 l_1.length k3)), (3, (.slice p93 b90.length k94)), (6, (.slice p99 r_98.1.length k100)), (8, (.string (bs (u8s r_98.1)))), (9, (.slice p121 r_120.1.length k122)), (75, (.int .i64 (r_120.1.length : Int))), (76, (.int .i64 s))] F_135 [openN NB3 3, ownSl 2 rApiBooked F_91 41 p93 k94 b90, R] a w) (fun _ e a w => e = .exit 4 ∧ Hd 123 [] [(0, (.slice p2 l_1.length k3)), (3, (.slice p93 b90.length k94)), (6, (.slice p99 r_98.1.length k100)), (8, (.string (bs (u8s r_98.1))))] F_135 [openN NB3 3, ownSl 2 rApiBooked F_91 41 p93 k94 b90, R] a w) ?_ ?_ ?_
        · exact fun a w h => ⟨Int.le_refl _, h⟩
        · intro s ctl
          refine GC.ex (fun a w ⟨h0, hA⟩ => ⟨_, hA, ?_⟩)
          unfold cntB
          refine .seq (.region (.lss rfl rfl rfl (.nil (.code (.seq (.cond rfl (fun hb => ?_) (fun hb => ?_)))))))
          · simp only [decide_eq_true_eq] at hb
            obtain ⟨j, rfl⟩ := Int.eq_ofNat_of_zero_le h0
            obtain ⟨bm, csm, x, p0, k0, hx, ep, hbm, hcs, hnb, hN, hin⟩ := m3 j (by omega)
            have hbm1 := hk3 bm _ hbm hnb
            refine .skip (.code (.seq (.block (.seq (.region (.move rfl rfl (.assign rfl rfl (.nil (.code (.seq (.region (.move rfl rfl (.move rfl rfl ?_)))))))))))))
            refine .idxQ rfl Tryz.underlying22 Tryz.sizeOf41 ⟨0, ep, rfl, by rw [Int.toNat_natCast]; exact idxO_nat (by omega)⟩ rfl rfl ?_
            refine .fieldAddr rfl Tryz.underlying41 rfl Tryz.sizeOf31 rfl ?_
            refine .loadF rfl Tryz.isAgg31 rfl hbm1 (by simpa using hcs) ?_
            refine .lenS rfl rfl Tryz.underlying31 rfl (.move rfl rfl (.nil (.code (.block ?_))))
            refine GC.cnt (n := x.N.length) hN ?_
            refine .keep (.cons (k := 0) rfl (.cons (k := 3) rfl (.cons (k := 6) rfl (.cons (k := 8) rfl (.cons (k := 9) rfl (.cons (k := 15) rfl (.cons (k := 75) rfl (.cons (k := 76) rfl (.cons (k := 84) rfl (.cons (k := 85) rfl (.nil _))))))))))) ?_
            refine .loop (fun (u : Int) a w => 0 ≤ u ∧ Hd 123 [] [(0, (.slice p2 l_1.length k3)), (3, (.slice p93 b90.length k94)), (6, (.slice p99 r_98.1.length k100)), (8, (.string (bs (u8s r_98.1)))), (9, (.slice p121 r_120.1.length k122)), (15, (.int .i64 (j : Int))), (75, (.int .i64 (r_120.1.length : Int))), (76, (.int .i64 (j : Int))), (84, (.int .i64 (x.N.length : Int))), (85, (.int .i64 u))] F_135 [openN NB3 3, ownSl 2 rApiBooked F_91 41 p93 k94 b90, R] a w) (fun _ e a w => e = .exit 6 ∧ Hd 123 [] [(0, (.slice p2 l_1.length k3)), (3, (.slice p93 b90.length k94)), (6, (.slice p99 r_98.1.length k100)), (8, (.string (bs (u8s r_98.1)))), (9, (.slice p121 r_120.1.length k122)), (75, (.int .i64 (r_120.1.length : Int))), (76, (.int .i64 (j : Int)))] F_135 [openN NB3 3, ownSl 2 rApiBooked F_91 41 p93 k94 b90, R] a w) ?_ ?_ ?_
            · exact fun a w h => ⟨Int.le_refl _, h⟩
            · intro u ctl2
              refine GC.ex (fun a w ⟨g0, hA⟩ => ⟨_, hA, ?_⟩)
              unfold cntB
              refine .seq (.region (.lss rfl rfl rfl (.nil (.code (.seq (.cond rfl (fun hb2 => ?_) (fun hb2 => ?_)))))))
              · simp only [decide_eq_true_eq] at hb2
                obtain ⟨i, rfl⟩ := Int.eq_ofNat_of_zero_le g0
                obtain ⟨b2, ep2, hin2, hle⟩ := hin i (by omega)
                refine .skip (.code (.seq (.block (.seq (.region (.move rfl rfl (.assign rfl rfl (.nil (.code (.region (.move rfl rfl (.move rfl rfl ?_))))))))))))
                refine .idxQ rfl Tryz.underlying22 Tryz.sizeOf41 ⟨0, ep, rfl, by rw [Int.toNat_natCast]; exact idxO_nat (by omega)⟩ rfl rfl ?_
                refine .fieldAddr rfl Tryz.underlying41 rfl Tryz.sizeOf31 rfl ?_
                refine .loadF rfl Tryz.isAgg31 rfl hbm1 (by simpa using hcs) ?_
                refine .move rfl rfl (.idxQ rfl Tryz.underlying31 Tryz.sizeOf3 ⟨0, ep2, rfl, by rw [Int.toNat_natCast]; exact idxO_nat (by omega)⟩ rfl rfl ?_)
                refine .storeN (NB := NB3) (vs := [.int .i64 (-1)]) (k0 := k0 * 1) Tryz.sizeOf3 rfl rfl rfl rfl (i := 0) rfl hin2 (by rw [Int.toNat_natCast, List.length_singleton]; omega) rfl (.nil ?_)
                refine .block (.code (.region (.add rfl rfl rfl (.move rfl rfl (.nil ?_)))))
                exact .nil (LPost.norm fun a w h => ⟨by rw [w64_id (by omega) (by omega)]; omega, h.1.sub (.cons (k := 0) rfl (.cons (k := 3) rfl (.cons (k := 6) rfl (.cons (k := 8) rfl (.cons (k := 9) rfl (.cons (k := 15) rfl (.cons (k := 75) rfl (.cons (k := 76) rfl (.cons (k := 84) rfl (.cons (k := 85) rfl (.nil _))))))))))), h.2⟩)
              · exact .exitOut rfl (LPost.exit fun a w h => ⟨rfl, h.1.sub (.cons (k := 0) rfl (.cons (k := 3) rfl (.cons (k := 6) rfl (.cons (k := 8) rfl (.cons (k := 9) rfl (.cons (k := 75) rfl (.cons (k := 76) rfl (.nil _)))))))), h.2⟩)
            intro bv2 hb2 hk2' e a w hD
            obtain ⟨rfl, hA⟩ := hD
            refine interp_exit rfl (GE.app ?_ hk2' a w hA)
            refine .block (.code (.region (.add rfl rfl rfl (.move rfl rfl (.nil ?_)))))
            exact .nil (LPost.norm fun a w h => ⟨by rw [w64_id (by omega) (by omega)]; omega, h.1.sub (.cons (k := 0) rfl (.cons (k := 3) rfl (.cons (k := 6) rfl (.cons (k := 8) rfl (.cons (k := 9) rfl (.cons (k := 75) rfl (.cons (k := 76) rfl (.nil _)))))))), h.2⟩)
          · exact .exitOut rfl (LPost.exit fun a w h => ⟨rfl, h.1.sub (.cons (k := 0) rfl (.cons (k := 3) rfl (.cons (k := 6) rfl (.cons (k := 8) rfl (.nil _))))), h.2⟩)
        intro bv hb0 hk e a w hD
        obtain ⟨rfl, hA⟩ := hD
        refine interp_exit rfl (GE.app ?_ hk a w hA)
        refine .drop 0 ?_
        refine .code (.seq (.region (.move rfl rfl (.call0 rfl Tryz.call19 rfl rfl rfl (c_file_Read _ (hT.mono (Fz.t l_6 (Fz.t l_92 (Fz.t l_97 l_136)))) r_98.1 p99 k100 (h101.mono l_136)) ?_))))
        rintro r_139 F_137 _ - l_138 ⟨p140, k141, rfl, h142⟩
        refine .move rfl rfl (.extract rfl rfl rfl (.extract rfl rfl rfl (.assign rfl rfl (.assign rfl rfl (.nil (.code (.seq (.region (.move rfl rfl (.bytesStr rfl Tryz.underlying25 Tryz.underlying5 Tryz.underlying9 (h101.mono (Fz.t l_136 l_138)) rfl (.move rfl rfl ?_)))))))))))
        refine .eqlS rfl Tryz.underlying9 rfl rfl (.move rfl rfl (.freezeSl 0 rfl (Fz.t l_97 (Fz.t l_136 l_138)) (fun F_143 l_144 h145 => ?_)))
        refine .andM (b := ((u8s r_98.1) == (u8s r_98.1))) 4 110 (fun hb146 z154 => ?_) (fun hb150 => ?_) (fun z153 F_151 l_152 => ?_)
        · skip
          refine .onH hb146 rfl rfl (.move rfl rfl (.onH hb146 rfl rfl (.move rfl rfl (.onH hb146 rfl rfl (.call0 rfl Tryz.call23 rfl rfl rfl (c_wormtubref14_Same _ r_139.1 p140 k141 (h142.mono l_144) b90 p93 k94 h145) ?_)))))
          rintro r_149 F_147 _ - l_148 rfl
          refine .pickTH hb146 rfl rfl rfl ?_
          exact .finZ 4 rfl rfl (by kernel_rfl) l_148
        · skip
          refine .offH hb150 rfl rfl rfl (.offH hb150 rfl rfl rfl (.offH hb150 rfl rfl rfl (.pickFH hb150 rfl rfl rfl ?_)))
          exact .fin 4 rfl rfl (by kernel_rfl) Fz.r
        refine .move rfl rfl (.andP (b := z153) (b' := (r_139.2 == 0)) 3 114 (fun hb155 => ?_) (fun hb156 => ?_) (fun F_157 l_158 => ?_))
        · skip
          refine .onH hb155 rfl rfl (.move rfl rfl (.onH hb155 rfl rfl (.eql rfl rfl rfl (.pickTH hb155 rfl rfl rfl ?_))))
          exact .fin 3 rfl rfl (by kernel_rfl) Fz.r
        · skip
          refine .offH hb156 rfl rfl rfl (.offH hb156 rfl rfl rfl (.pickFH hb156 rfl rfl rfl ?_))
          exact .fin 3 rfl rfl (by kernel_rfl) Fz.r
        refine .move rfl rfl (.andM (b := (z153 && (r_139.2 == 0))) 4 119 (fun hb159 z167 => ?_) (fun hb163 => ?_) (fun z166 F_164 l_165 => ?_))
        · skip
          refine .onH hb159 rfl rfl (.move rfl rfl (.onH hb159 rfl rfl (.move rfl rfl (.onH hb159 rfl rfl (.call0 rfl Tryz.call23 rfl rfl rfl (c_wormtubref14_Same _ l_1 p2 k3 (h4.mono (Fz.t l_6 (Fz.t l_92 (Fz.t l_97 (Fz.t l_136 (Fz.t l_138 (Fz.t l_144 (Fz.t l_152 l_158)))))))) b90 p93 k94 (h145.mono (Fz.t l_152 l_158))) ?_)))))
          rintro r_162 F_160 _ - l_161 rfl
          refine .pickTH hb159 rfl rfl rfl ?_
          exact .finZ 4 rfl rfl (by kernel_rfl) l_161
        · skip
          refine .offH hb163 rfl rfl rfl (.offH hb163 rfl rfl rfl (.offH hb163 rfl rfl rfl (.pickFH hb163 rfl rfl rfl ?_)))
          exact .fin 4 rfl rfl (by kernel_rfl) Fz.r
        refine .move rfl rfl (.andM (b := z166) 2 122 (fun hb168 z176 => ?_) (fun hb172 => ?_) (fun z175 F_173 l_174 => ?_))
        · skip
          refine .onH hb168 rfl rfl (.call0 rfl Tryz.call16 rfl rfl rfl (c_wormtublaw14_alive _ (hT.mono (Fz.t l_6 (Fz.t l_92 (Fz.t l_97 (Fz.t l_136 (Fz.t l_138 (Fz.t l_144 (Fz.t l_152 (Fz.t l_158 l_165)))))))))) ?_)
          rintro r_171 F_169 _ - l_170 rfl
          refine .pickTH hb168 rfl rfl rfl ?_
          exact .finZ 2 rfl rfl (by kernel_rfl) l_170
        · skip
          refine .offH hb172 rfl rfl rfl (.pickFH hb172 rfl rfl rfl ?_)
          exact .fin 2 rfl rfl (by kernel_rfl) Fz.r
        refine .assign rfl rfl (.nil (.keep (.cons (k := 2) rfl (.nil _)) (.code ?_)))
        exact .ret0 Tryz.results10 (.tmp rfl (.nil)) (i := 0) rfl (Fz.t l_6 (Fz.t l_92 (Fz.t l_97 (Fz.t l_136 (Fz.t l_138 (Fz.t l_144 (Fz.t l_152 (Fz.t l_158 (Fz.t l_165 l_174))))))))) rfl
end Go.Proofs.YthnlglmjffdpfaaGreatDoor
end

section
namespace Go.Proofs.YthnlglmjffdpfaaGreatDoor
open Go.Dec Go.Shelf Go.RowKit Go.Maps Go.Sort
theorem arr_of_list {α : Type} {a : Array α} {l : List α} (h : a.toList = l) : a = l.toArray := by rw [← h]
theorem gErrS : Tryz.prog.globalNamed "strconv.ErrSyntax" = some 1 := by kernel_rfl
theorem gErrR : Tryz.prog.globalNamed "strconv.ErrRange" = some 2 := by kernel_rfl
theorem gPow : Tryz.prog.globalNamed "internal/strconv.uint64pow10" = some 3 := by kernel_rfl
theorem tErrS : (Tryz.prog.globals[1]?).map (·.type) = some 120 := by kernel_rfl
theorem tErrR : (Tryz.prog.globals[2]?).map (·.type) = some 120 := by kernel_rfl
theorem tPow : (Tryz.prog.globals[3]?).map (·.type) = some 196 := by kernel_rfl
theorem err_of {W : World} {ps : List MemPlace} {l : List (String × DataW Unit)} (hl : DataW.LaidVars Tryz.prog W l ps) (j g0 : Nat) {n : String} {nm : String} {d : DataW Unit} (hj : l[j]? = some (n, .iface nm d)) (hg0 : Tryz.prog.globalNamed n = some g0) (ht0 : (Tryz.prog.globals[g0]?).map (·.type) = some 120) :
    ∃ ev T fr, (FW W).mem g0 = some (.cells #[ev] T fr) ∧ (ev = .nilIface ∨ ∃ te pe, ev = .iface te pe) := by
  obtain ⟨g, t, cs, fuel, p, T, fr, hg, ht, hh, hd⟩ := laid_at j hj hl
  obtain rfl := Option.some.inj (hg0.symm.trans hg)
  obtain rfl := Option.some.inj (ht0.symm.trans ht)
  obtain ⟨u, v, hc⟩ := Go.Dec.iface_cells Tryz.underlying120 hd
  exact ⟨_, T, fr, by rw [show (FW W).mem g0 = W.heap[g0]? from rfl, hh, arr_of_list hc], .inr ⟨u, v, rfl⟩⟩
theorem cells143 : Tryz.prog.cellsOf 143 = 1 := by kernel_rfl
theorem cells196 : Tryz.prog.cellsOf 196 = 20 := by kernel_rfl
theorem pow_data : (Rows.laid_internal_strconv_uint64pow10 : DataW Unit) = Go.Lib.tabData .u64 Go.Lib.pow10Tab := by kernel_rfl
theorem maxLen0 : ((begin Tryz.prog (fun _ _ => 0) default).world.heap[0]?).bind Obj.row? = some (#[.int .i64 0], 3) := by kernel_rfl
theorem laid_plain {W : World} (h : laidMetH Tryz.prog Rows.fileWritesRow.laid W) : laidMet Tryz.prog Rows.fileWritesRow.laid W := by
  rwa [MakeChecks.laidMetH_plain _ _ _ (by kernel_rfl)] at h
set_option maxRecDepth 100000 in
theorem tabs_of {W : World} (h : laidMetH Tryz.prog Rows.fileWritesRow.laid W) (hsh : W.ShapedOpen Tryz.prog) : TabsP (FW W) := by
  obtain ⟨ps, hl, _, _⟩ := laid_plain h
  refine ⟨?_, ?_, ?_, ?_⟩
  · obtain ⟨g, t, cs, fuel, p, T, fr, hg, ht, hh, hd⟩ := laid_at 2 rfl hl
    obtain rfl := Option.some.inj (gPow.symm.trans hg)
    obtain rfl := Option.some.inj (tPow.symm.trans ht)
    have hc := Go.Lib.cells_of_tab Tryz.underlying196 Tryz.underlying143 cells143 cells196 (by rw [← pow_data]; exact hd)
    exact ⟨3, T, fr, gPow, by rw [show (FW W).mem 3 = W.heap[3]? from rfl, hh, arr_of_list hc]; rfl⟩
  · obtain ⟨m, hm⟩ := Go.Proofs.cell_of_shapedOpen_int (P := Tryz.prog) (g := 0) (t := 3) (zero := #[.int .i64 0]) hsh (of_decide_eq_true (by kernel_rfl)) maxLen0 rfl (by kernel_rfl) (by kernel_rfl) Tryz.underlying3
    obtain ⟨T, fr, hb⟩ := int_cell_block hsh (of_decide_eq_true (by kernel_rfl)) maxLen0 rfl hm
    exact ⟨m, T, fr, hb⟩
  · exact err_of hl 5 1 rfl gErrS tErrS
  · exact err_of hl 4 2 rfl gErrR tErrR
end Go.Proofs.YthnlglmjffdpfaaGreatDoor
end

section
namespace Go.Proofs.YthnlglmjffdpfaaGreatDoor
open Go.Dec
open Go.ChangeShapes Go.WideShapes Go.ChangeAt Go.RowKit
def LawFileOwns : Prop := ∀ (a0 : (List ApiBooked)), (∀ y ∈ a0, okApiBooked y) → m_wormtublaw14_FileOwns a0 = some true
set_option maxRecDepth 100000 in
theorem lifted_FileOwns (law : LawFileOwns) (os : Os) (started : os.Started) (H : Type) (enc : TypeId × Value → H) :
    ReturnsInHanded {} Tryz.checked os 10 .any (fun w args => (Rows.fileOwnsSpec.pre enc Tryz.prog Tryz.f10 Rows.fileOwnsRow.domain false w args ∧ laidMetH Tryz.prog Rows.fileOwnsRow.laid w) ∧ sizedMet enc Tryz.prog Tryz.f10 (OpenSpec.ofChange Rows.fileOwnsSpec) false w args) (Rows.fileOwnsSpec.post enc Tryz.prog Tryz.f10 false true false false) := by
  refine lift_tied (C := Tryz.checked) (X := fun w => laidMetH Tryz.prog Rows.fileOwnsRow.laid w) (fun _ _ hh h => h.of_heap hh) Tryz.own started (by kernel_rfl) Tryz.func10
    (ChangeSpec.witness_shaped (enc := enc) (C := Tryz.checked) (os := os) (X := fun w _ => laidMetH Tryz.prog Rows.fileOwnsRow.laid w) false (World.laidAll Tryz.prog os Rows.fileOwnsRow.laid) #[.slice none 0 0] 12 (World.laidAll_os _ _ _) (World.shaped_of_ZipB (by kernel_rfl) (by kernel_rfl)) (by kernel_rfl) (by kernel_rfl) (by kernel_rfl)
      (by rw [MakeChecks.laidMetH_plain _ _ _ (by kernel_rfl)]; exact laidMet_laidAll _ (by kernel_rfl) (by kernel_rfl))) ?_
  intro W base args ds gs before hval hW hsh hL
  have hT : TabsP (FW W) := tabs_of hL hsh
  refine law_contractW (P := Tryz.prog) Tryz.laidOut (by kernel_rfl) rfl (by kernel_rfl : Tryz.f10.resultTypes = #[4]) Tryz.underlying4 (fun ds h => ?_) (fun base args ds ps hval hA => ?_) base args ds gs before hval hW
  · match ds, h with
    | [d0], _ => rfl
  · rw [Tryz.params10] at hA hval
    obtain ⟨v0, l0, _, _, _, _, e0, _, _, t0, hA⟩ := trodAll_cons hA
    obtain ⟨e1, _, _⟩ := trodAll_nil hA
    subst e1
    obtain rfl : args = [v0].toArray := by rw [← e0]
    obtain ⟨m0, p0, k0, o0, rfl, h0⟩ := argSlice Tryz.underlying22 vt22 (hval 0 _ _ rfl rfl) t0
    have hl := law m0 o0
    have hc := c_wormtublaw14_FileOwns (FW W) hT m0 p0 k0 h0
    rw [hl] at hc
    exact hc
theorem said_FileOwns (law : LawFileOwns) : Rows.FileOwnsSaid :=
  OpenClaim.holds_of_wide 10 Tryz.f10 rfl rfl rfl rfl rfl rfl rfl ⟨rfl, rfl, rfl, rfl, rfl⟩ rfl rfl rfl rfl rfl (by kernel_rfl) Tryz.func10 (by kernel_rfl)
    (of_decide_eq_true (by kernel_rfl)) (by unfold Func.isWrapper; first | (rw [if_pos (by decide +kernel)]; kernel_rfl) | (rw [if_neg (by decide +kernel)]; exact ⟨rfl, rfl⟩))
    (fun os started H enc _ => lifted_FileOwns law os started H enc)
theorem card_FileOwns (law : LawFileOwns) : Rows.FileOwnsCardSaid :=
  Claim7.holds_tied_plain_at .later [] [.data, .data, .data, .data, .sentinel, .sentinel, .pinned] true (true, "3bd84bf44a97e49b979e061ef005845ecf1aa6bc424530e46bde597d8668a3f8") true (said_FileOwns law) (fun _ h => by cases h) (by kernel_rfl) (fun _ h => by cases h) fileOwns_row_tie rfl ⟨rfl, rfl⟩ (by kernel_rfl) rfl
    (fun f fn hf hfn => by
      obtain rfl : f = 10 := Option.some.inj ((show Tryz.prog.funcNamed "wormtub/wormtublaw14.FileOwns" = some 10 by kernel_rfl).symm.trans hf) |>.symm
      obtain rfl : fn = Tryz.f10 := (Option.some.inj (Tryz.func10.symm.trans hfn)).symm
      exact ⟨by kernel_rfl, fun j t ht => by
        have hall : (Tryz.f10.params.toList.all fun u => !Tryz.prog.wantsStandIn u) = true := by kernel_rfl
        have hm := Array.mem_of_getElem? ht
        exact (show Tryz.prog.wantsStandIn t = false by first | (simp at hm; done) | simpa using List.all_eq_true.1 hall t (by simpa using hm))⟩)
    (by kernel_rfl)
end Go.Proofs.YthnlglmjffdpfaaGreatDoor
end

section
namespace Go.Proofs.YthnlglmjffdpfaaGreatDoor
open Go.Dec
theorem kept_go {l : List ApiBooked} (h30 : l.length ≤ 30) (h20 : ∀ x ∈ l, x.N.length ≤ 20) : ∀ (d i : Nat), i + d = l.length → loopM (b_wormtublaw14_FileOwns_1 l) (l.take i, (i : Int)) = some l
  | 0, i, e => by
    have hb : b_wormtublaw14_FileOwns_1 l (l.take i, (i : Int)) = some (.done l) := by
      unfold b_wormtublaw14_FileOwns_1
      rw [if_neg (by simp; omega), List.take_of_length_le (by omega)]
    rw [loopM_eq, hb]
  | d + 1, i, e => by
    have hi : i < l.length := by omega
    have hx : l[i]? = some l[i] := List.getElem?_eq_getElem hi
    have hN := h20 l[i] (List.getElem_mem hi)
    have hb : b_wormtublaw14_FileOwns_1 l (l.take i, (i : Int)) = some (.next (l.take (i + 1), ((i + 1 : Nat) : Int))) := by
      unfold b_wormtublaw14_FileOwns_1
      rw [if_pos (by simp; omega)]
      refine bind_of (by rw [idxL_nat]; exact hx) (bind_of (append_nil (by omega)) (bind_of (appO_some' (by rw [List.length_take, List.length_singleton]; omega)) ?_))
      rw [w64_id (by omega) (by omega), List.take_add_one, hx]; rfl
    rw [loopM_eq, hb]
    exact kept_go h30 h20 d (i + 1) (by omega)
theorem law_FileOwns : LawFileOwns := by
  intro l _
  unfold m_wormtublaw14_FileOwns
  rcases great_cases l with hg | ⟨hg, h30, h20⟩
  · refine bind_of hg ?_
    rw [if_pos rfl, alive_true]; rfl
  · refine bind_of hg ?_
    rw [if_neg (by decide)]
    refine bind_of (kept_go h30 h20 l.length 0 (by omega)) ?_
    have hs := Same_self l (by omega) (fun x hx => by have := h20 x hx; omega)
    rcases Write_any l (by omega) with ⟨hb, hw⟩ | ⟨hb, hw⟩
    · have hlen : (writeS l).flatten.length ≤ 1000000000 := by rw [flat96 (write_96 (okBook_iff.1 hb).2), writeS_len]; omega
      have hr : m_file_Read (i8s (writeS l).flatten) = some (l, 0) := by rw [Read_prog _ hlen, read_write hb]
      refine bind_of hw ?_
      rw [if_neg (by simp)]
      refine bind_of hr (bind_of (by rw [Repair_prog _ hlen, repair_self hb]) (bind_of hr ?_))
      have e1 : (if ((u8s (i8s (writeS l).flatten)) == (u8s (i8s (writeS l).flatten))) then ((m_wormtubref14_Same l l).bind fun r => some r) else some false) = some true := by rw [if_pos (beq_self_eq_true _), hs]; rfl
      have e2 : (if (true && ((0 : Int) == 0)) then ((m_wormtubref14_Same l l).bind fun r => some r) else some false) = some true := by rw [if_pos (by decide), hs]; rfl
      have e3 : (if true then ((m_wormtublaw14_alive).bind fun r => some r) else some false) = some true := by rw [if_pos rfl, alive_true]; rfl
      exact bind_of e1 (bind_of e2 (bind_of e3 rfl))
    · refine bind_of hw ?_
      rw [if_pos (by decide)]
      refine bind_of hs ?_
      have e3 : (if true then ((m_wormtublaw14_alive).bind fun r => some r) else some false) = some true := by rw [if_pos rfl, alive_true]; rfl
      exact bind_of e3 rfl
theorem fileOwns_holds : Rows.FileOwnsCardSaid := card_FileOwns law_FileOwns
end Go.Proofs.YthnlglmjffdpfaaGreatDoor
end
