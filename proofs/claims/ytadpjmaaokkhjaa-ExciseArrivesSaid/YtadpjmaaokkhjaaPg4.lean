/- Own texts and texts printed by a program of mine, for exciseArrives_holds; only what it reaches. -/
import Derived.Test.YtadpjmaaokkhjaaPg3
section
namespace Go.Proofs.Ytadpjmaaokkhjaa
open Go.Dec Go.Shelf Go.RowKit Go.Maps Go.Sort
def m_excise_within (n_1 : Int) (least2 : Int) (most3 : Int) : Bool :=
 ((decide (n_1 ≥ least2)) && (decide (n_1 ≤ most3)))
theorem c_excise_within (F0 : Fz) (n_1 : Int) (least2 : Int) (most3 : Int) : CT0 Try.prog 33 [(.int .i64 n_1), (.int .i64 least2), (.int .i64 most3)].toArray F0 (some (m_excise_within n_1 least2 most3)) (fun r _ v => v = (.bool r)) := by
 refine CT0.enter Try.func33 rfl Try.ntmps33 rfl fun r R => ?_
 refine .seq ?_
 refine .region ?_
 refine .assign rfl rfl ?_
 refine .nil ?_
 refine .code ?_
 refine .seq ?_
 refine .region ?_
 refine .move rfl rfl ?_
 refine .move rfl rfl ?_
 refine .geq rfl rfl rfl ?_
 refine .move rfl rfl ?_
 refine .andP (b := (decide (n_1 ≥ least2))) (b' := (decide (n_1 ≤ most3))) 4 14 (fun hb4 => ?_) (fun hb5 => ?_) (fun F_6 l_7 => ?_)
 ·skip
  refine .onH hb4 rfl rfl ?_
  refine .move rfl rfl ?_
  refine .onH hb4 rfl rfl ?_
  refine .move rfl rfl ?_
  refine .onH hb4 rfl rfl ?_
  refine .leq rfl rfl rfl ?_
  refine .pickTH hb4 rfl rfl rfl ?_
  exact .fin 4 rfl rfl (by kernel_rfl) (Fz.le_refl _)
 ·skip
  refine .offH hb5 rfl rfl rfl ?_
  refine .offH hb5 rfl rfl rfl ?_
  refine .offH hb5 rfl rfl rfl ?_
  refine .pickFH hb5 rfl rfl rfl ?_
  exact .fin 4 rfl rfl (by kernel_rfl) (Fz.le_refl _)
 refine .assign rfl rfl ?_
 refine .nil ?_
 refine .code ?_
 exact .ret0 Try.results33 (.tmp rfl (.nil)) (i := 0) rfl l_7 rfl
def m_excise_isDay (n_1 : Int) : Bool :=
 (m_excise_within n_1 0 65536)
theorem c_excise_isDay (F0 : Fz) (n_1 : Int) : CT0 Try.prog 34 [(.int .i64 n_1)].toArray F0 (some (m_excise_isDay n_1)) (fun r _ v => v = (.bool r)) := by
 refine CT0.enter Try.func34 rfl Try.ntmps34 rfl fun r R => ?_
 refine .seq ?_
 refine .region ?_
 refine .assign rfl rfl ?_
 refine .nil ?_
 refine .code ?_
 refine .seq ?_
 refine .region ?_
 refine .move rfl rfl ?_
 refine .callP rfl Try.call33 rfl rfl rfl (c_excise_within _ n_1 0 65536) ?_
 rintro F_2 _ l_3 rfl
 refine .assign rfl rfl ?_
 refine .nil ?_
 refine .code ?_
 exact .ret0 Try.results34 (.tmp rfl (.nil)) (i := 0) rfl l_3 rfl
noncomputable def b_excise_areRules_1 (r_1 : ApiDutyRules) (s11 : Int × Int) : Option (Ctl (Int × Int) ((Unit) ⊕ (Bool))) :=
 if (decide (s11.2 < (r_1.Rates.length : Int))) then ((idxL r_1.Rates s11.2).bind fun x15 => if (((!(m_excise_isDay x15.From)) || (decide (x15.From ≤ s11.1))) || (!(m_excise_within x15.Rate 0 1048576))) then (some (.done (.inr false))) else (some (.next (x15.From, (w64 (s11.2 + 1)))))) else (some (.done (.inl ())))
noncomputable def m_excise_areRules (r_1 : ApiDutyRules) : Option Bool :=
 bindv (-1) fun last_9 => (loopM (b_excise_areRules_1 r_1) (last_9, 0)).bind fun b0 => match b0 with | .inl _b39 => ((if (m_excise_within (r_1.Rates.length : Int) 1 64) then ((idxL r_1.Rates 0).bind fun x47 => some (x47.From == 0)) else some false).bind fun z60 => some (((z60 && (m_excise_isDay r_1.Transit)) && (m_excise_within r_1.Loss 0 10000)) && (m_excise_within r_1.Share 0 1000))) | .inr b39 => (some b39)
theorem c_excise_areRules (F0 : Fz) (r_1 : ApiDutyRules) (p2 : Option Addr) (k3 : Nat) (h4 : RepSl 2 (Ex cApiDutyRate) F0 p2 k3 r_1.Rates) : CT0 Try.prog 32 [(eApiDutyRules r_1 p2 k3)].toArray F0 (m_excise_areRules r_1) (fun r _ v => v = (.bool r)) := by
 refine CT0.enter Try.func32 rfl Try.ntmps32 rfl fun r R => ?_
 unfold m_excise_areRules
 refine .seq ?_
 refine .region ?_
 refine .boxF (cs := (cApiDutyRules r_1 p2 k3)) rfl rfl rfl (fun b5 F_6 l_7 hb8 => ?_)
 refine .assign rfl rfl ?_
 refine .nil ?_
 refine .code ?_
 refine .seq ?_
 refine .region ?_
 refine .assignL rfl rfl (fun last_9 e10 => ?_)
 refine .nil ?_
 refine .code ?_
 refine .seq ?_
 refine .seq ?_
 refine .region ?_
 refine .fieldAddr rfl Try.underlying24 rfl Try.sizeOf22 rfl ?_
 refine .loadF rfl Try.isAgg22 rfl hb8 rfl ?_
 refine .lenS rfl rfl Try.underlying22 rfl ?_
 refine .move rfl rfl ?_
 refine .nil ?_
 refine .code ?_
 refine .block ?_
 refine .keep (.cons (k := 1) rfl (.cons (k := 3) rfl (.cons (k := 8) rfl (.cons (k := 9) rfl (.cons (k := 10) rfl (.nil _)))))) ?_
 refine .loop (fun (s11 : Int × Int) a w => ∃ (F_12 : Fz), F_6 ≤ F_12 ∧ Hd 61 [] [(1, (.pointer (some ⟨b5, 0, none⟩))), (3, (.int .i64 s11.1)), (8, (.slice p2 r_1.Rates.length k3)), (9, (.int .i64 (r_1.Rates.length : Int))), (10, (.int .i64 s11.2))] F_12 [R] a w) (fun b0 e a w => match b0 with | .inl b39 => e = .exit 0 ∧ ∃ (F_40 : Fz), F_6 ≤ F_40 ∧ Hd 61 [] [(1, (.pointer (some ⟨b5, 0, none⟩)))] F_40 [R] a w | .inr b39 => e = .ret ∧ ∃ (F_42 : Fz), F_6 ≤ F_42 ∧ Hd 61 [] [(2, (.bool b39))] F_42 [R] a w) ?_ ?_ ?_
 ·exact fun a w h => ⟨F_6, (Fz.le_refl _), h.1.sub (.cons (k := 1) rfl (.cons (k := 3) rfl (.cons (k := 8) rfl (.cons (k := 9) rfl (.cons (k := 10) rfl (.nil _)))))), h.2⟩
 ·intro s11 ctl
  refine GC.ex (fun a w ⟨F_12, l_13, hA⟩ => ⟨_, hA, ?_⟩)
  unfold b_excise_areRules_1
  refine .seq ?_
  refine .region ?_
  refine .lss rfl rfl rfl ?_
  refine .nil ?_
  refine .code ?_
  refine .seq ?_
  refine .cond rfl (fun hb14 => ?_) (fun hb14 => ?_)
  ·skip
   refine .skip ?_
   refine .code ?_
   refine .seq ?_
   refine .block ?_
   refine .seq ?_
   refine .region ?_
   refine .idx rfl Try.underlying22 Try.sizeOf53 (h4.mono (Fz.le_trans l_7 l_13)) rfl rfl (fun x15 b16 o17 T18 fr19 cs20 e21 hm22 hv23 => ?_)
   refine .loadFA rfl Try.isAgg53 Try.sizeOf53 rfl hm22 hv23 rfl ?_
   refine .alloc (cs := (cApiDutyRate (ApiDutyRate.mk 0 0))) rfl Try.zeroValue53 rfl (fun b25 => ?_)
   refine .store (cs' := (cApiDutyRate x15)) Try.sizeOf53 rfl rfl rfl rfl (i := 0) rfl (Nat.le_of_ble_eq_true rfl) rfl (setMany_all (by rfl)) ?_
   refine .nil ?_
   refine .code ?_
   refine .seq ?_
   refine .seq ?_
   refine .region ?_
   refine .fieldAddr rfl Try.underlying53 rfl Try.sizeOf3 rfl ?_
   refine .loadO rfl Try.isAgg3 rfl (i := 0) rfl rfl ?_
   refine .callP rfl Try.call34 rfl rfl rfl (c_excise_isDay _ x15.From) ?_
   rintro F_26 _ l_27 rfl
   refine .not rfl rfl ?_
   refine .move rfl rfl ?_
   refine .orP (b := (!(m_excise_isDay x15.From))) (b' := (decide (x15.From ≤ s11.1))) 5 23 (fun hb28 => ?_) (fun hb29 => ?_) (fun F_30 l_31 => ?_)
   ·skip
    refine .onH hb28 rfl rfl ?_
    refine .fieldAddr rfl Try.underlying53 rfl Try.sizeOf3 rfl ?_
    refine .onH hb28 rfl rfl ?_
    refine .loadO rfl Try.isAgg3 rfl (i := 0) rfl rfl ?_
    refine .onH hb28 rfl rfl ?_
    refine .move rfl rfl ?_
    refine .onH hb28 rfl rfl ?_
    refine .leq rfl rfl rfl ?_
    refine .pickFH hb28 rfl rfl rfl ?_
    exact .fin 5 rfl rfl (by kernel_rfl) (Fz.le_refl _)
   ·skip
    refine .offH hb29 rfl rfl rfl ?_
    refine .offH hb29 rfl rfl rfl ?_
    refine .offH hb29 rfl rfl rfl ?_
    refine .offH hb29 rfl rfl rfl ?_
    refine .pickTH hb29 rfl rfl rfl ?_
    exact .fin 5 rfl rfl (by kernel_rfl) (Fz.le_refl _)
   refine .move rfl rfl ?_
   refine .orP (b := ((!(m_excise_isDay x15.From)) || (decide (x15.From ≤ s11.1)))) (b' := (!(m_excise_within x15.Rate 0 1048576))) 5 29 (fun hb32 => ?_) (fun hb35 => ?_) (fun F_36 l_37 => ?_)
   ·skip
    refine .onH hb32 rfl rfl ?_
    refine .fieldAddr rfl Try.underlying53 rfl Try.sizeOf3 rfl ?_
    refine .onH hb32 rfl rfl ?_
    refine .loadO rfl Try.isAgg3 rfl (i := 0) rfl rfl ?_
    refine .onH hb32 rfl rfl ?_
    refine .callP rfl Try.call33 rfl rfl rfl (c_excise_within _ x15.Rate 0 1048576) ?_
    rintro F_33 _ l_34 rfl
    refine .onH hb32 rfl rfl ?_
    refine .not rfl rfl ?_
    refine .pickFH hb32 rfl rfl rfl ?_
    exact .fin 5 rfl rfl (by kernel_rfl) l_34
   ·skip
    refine .offH hb35 rfl rfl rfl ?_
    refine .offH hb35 rfl rfl rfl ?_
    refine .offH hb35 rfl rfl rfl ?_
    refine .offH hb35 rfl rfl rfl ?_
    refine .pickTH hb35 rfl rfl rfl ?_
    exact .fin 5 rfl rfl (by kernel_rfl) (Fz.le_refl _)
   refine .nil ?_
   refine .code ?_
   refine .cond rfl (fun hb38 => ?_) (fun hb38 => ?_)
   ·skip
    refine .seq ?_
    refine .region ?_
    refine .assign rfl rfl ?_
    refine .nil ?_
    refine .code ?_
    refine .drop 0 ?_
    refine .retQ (LPost.ret fun a w h => ⟨rfl, F_36, (Fz.le_trans l_13 (Fz.le_trans l_27 (Fz.le_trans l_31 l_37))), h.1.sub (.cons (k := 2) rfl (.nil _)), h.2⟩)
   ·skip
    refine .skip ?_
    refine .code ?_
    refine .region ?_
    refine .fieldAddr rfl Try.underlying53 rfl Try.sizeOf3 rfl ?_
    refine .loadO rfl Try.isAgg3 rfl (i := 0) rfl rfl ?_
    refine .assign rfl rfl ?_
    refine .nil ?_
    refine .block ?_
    refine .code ?_
    refine .region ?_
    refine .add rfl rfl rfl ?_
    refine .move rfl rfl ?_
    refine .nil ?_
    refine .drop 0 ?_
    exact .nil (LPost.norm fun a w h => ⟨F_36, (Fz.le_trans l_13 (Fz.le_trans l_27 (Fz.le_trans l_31 l_37))), h.1.sub (.cons (k := 1) rfl (.cons (k := 3) rfl (.cons (k := 8) rfl (.cons (k := 9) rfl (.cons (k := 10) rfl (.nil _)))))), h.2⟩)
  ·skip
   refine .exitOut rfl (LPost.exit fun a w h => ⟨rfl, F_12, l_13, h.1.sub (.cons (k := 1) rfl (.nil _)), h.2⟩)
 ·intro b39 hb0 hk e a w hD
  rcases b39 with b39 | b39
  ·skip
   obtain ⟨rfl, F_40, l_41, hA⟩ := hD
   refine interp_exit rfl (GE.app ?_ hk a w hA)
   refine .code ?_
   refine .seq ?_
   refine .region ?_
   refine .fieldAddr rfl Try.underlying24 rfl Try.sizeOf22 rfl ?_
   refine .loadF rfl Try.isAgg22 rfl (l_41.mem _ _ hb8) rfl ?_
   refine .lenS rfl rfl Try.underlying22 rfl ?_
   refine .callP rfl Try.call33 rfl rfl rfl (c_excise_within _ (r_1.Rates.length : Int) 1 64) ?_
   rintro F_44 _ l_45 rfl
   refine .move rfl rfl ?_
   refine .andM (b := (m_excise_within (r_1.Rates.length : Int) 1 64)) 7 44 (fun hb46 z61 => ?_) (fun hb57 => ?_) (fun z60 F_58 l_59 => ?_)
   ·skip
    refine .onH hb46 rfl rfl ?_
    refine .fieldAddr rfl Try.underlying24 rfl Try.sizeOf22 rfl ?_
    refine .onH hb46 rfl rfl ?_
    refine .loadF rfl Try.isAgg22 rfl ((Fz.le_trans l_41 l_45).mem _ _ hb8) rfl ?_
    refine .onH hb46 rfl rfl ?_
    refine .idx rfl Try.underlying22 Try.sizeOf53 (h4.mono (Fz.le_trans l_7 (Fz.le_trans l_41 l_45))) rfl rfl (fun x47 b48 o49 T50 fr51 cs52 e53 hm54 hv55 => ?_)
    refine .onH hb46 rfl rfl ?_
    refine .fieldAddr rfl Try.underlying53 rfl Try.sizeOf3 rfl ?_
    refine .onH hb46 rfl rfl ?_
    refine .loadF rfl Try.isAgg3 rfl hm54 (cell_of_take (k := 0) hv55 rfl) ?_
    refine .onH hb46 rfl rfl ?_
    refine .eql rfl rfl rfl ?_
    refine .pickTH hb46 rfl rfl rfl ?_
    exact .finZ 7 rfl rfl (by kernel_rfl) (Fz.le_refl _)
   ·skip
    refine .offH hb57 rfl rfl rfl ?_
    refine .offH hb57 rfl rfl rfl ?_
    refine .offH hb57 rfl rfl rfl ?_
    refine .offH hb57 rfl rfl rfl ?_
    refine .offH hb57 rfl rfl rfl ?_
    refine .offH hb57 rfl rfl rfl ?_
    refine .pickFH hb57 rfl rfl rfl ?_
    exact .fin 7 rfl rfl (by kernel_rfl) (Fz.le_refl _)
   refine .assign rfl rfl ?_
   refine .nil ?_
   refine .code ?_
   refine .seq ?_
   refine .region ?_
   refine .move rfl rfl ?_
   refine .move rfl rfl ?_
   refine .andP (b := z60) (b' := (m_excise_isDay r_1.Transit)) 4 50 (fun hb62 => ?_) (fun hb65 => ?_) (fun F_66 l_67 => ?_)
   ·skip
    refine .onH hb62 rfl rfl ?_
    refine .fieldAddr rfl Try.underlying24 rfl Try.sizeOf3 rfl ?_
    refine .onH hb62 rfl rfl ?_
    refine .loadF rfl Try.isAgg3 rfl ((Fz.le_trans l_41 (Fz.le_trans l_45 l_59)).mem _ _ hb8) rfl ?_
    refine .onH hb62 rfl rfl ?_
    refine .callP rfl Try.call34 rfl rfl rfl (c_excise_isDay _ r_1.Transit) ?_
    rintro F_63 _ l_64 rfl
    refine .pickTH hb62 rfl rfl rfl ?_
    exact .fin 4 rfl rfl (by kernel_rfl) l_64
   ·skip
    refine .offH hb65 rfl rfl rfl ?_
    refine .offH hb65 rfl rfl rfl ?_
    refine .offH hb65 rfl rfl rfl ?_
    refine .pickFH hb65 rfl rfl rfl ?_
    exact .fin 4 rfl rfl (by kernel_rfl) (Fz.le_refl _)
   refine .move rfl rfl ?_
   refine .andP (b := (z60 && (m_excise_isDay r_1.Transit))) (b' := (m_excise_within r_1.Loss 0 10000)) 4 55 (fun hb68 => ?_) (fun hb71 => ?_) (fun F_72 l_73 => ?_)
   ·skip
    refine .onH hb68 rfl rfl ?_
    refine .fieldAddr rfl Try.underlying24 rfl Try.sizeOf3 rfl ?_
    refine .onH hb68 rfl rfl ?_
    refine .loadF rfl Try.isAgg3 rfl ((Fz.le_trans l_41 (Fz.le_trans l_45 (Fz.le_trans l_59 l_67))).mem _ _ hb8) rfl ?_
    refine .onH hb68 rfl rfl ?_
    refine .callP rfl Try.call33 rfl rfl rfl (c_excise_within _ r_1.Loss 0 10000) ?_
    rintro F_69 _ l_70 rfl
    refine .pickTH hb68 rfl rfl rfl ?_
    exact .fin 4 rfl rfl (by kernel_rfl) l_70
   ·skip
    refine .offH hb71 rfl rfl rfl ?_
    refine .offH hb71 rfl rfl rfl ?_
    refine .offH hb71 rfl rfl rfl ?_
    refine .pickFH hb71 rfl rfl rfl ?_
    exact .fin 4 rfl rfl (by kernel_rfl) (Fz.le_refl _)
   refine .move rfl rfl ?_
   refine .andP (b := ((z60 && (m_excise_isDay r_1.Transit)) && (m_excise_within r_1.Loss 0 10000))) (b' := (m_excise_within r_1.Share 0 1000)) 4 60 (fun hb74 => ?_) (fun hb77 => ?_) (fun F_78 l_79 => ?_)
   ·skip
    refine .onH hb74 rfl rfl ?_
    refine .fieldAddr rfl Try.underlying24 rfl Try.sizeOf3 rfl ?_
    refine .onH hb74 rfl rfl ?_
    refine .loadF rfl Try.isAgg3 rfl ((Fz.le_trans l_41 (Fz.le_trans l_45 (Fz.le_trans l_59 (Fz.le_trans l_67 l_73)))).mem _ _ hb8) rfl ?_
    refine .onH hb74 rfl rfl ?_
    refine .callP rfl Try.call33 rfl rfl rfl (c_excise_within _ r_1.Share 0 1000) ?_
    rintro F_75 _ l_76 rfl
    refine .pickTH hb74 rfl rfl rfl ?_
    exact .fin 4 rfl rfl (by kernel_rfl) l_76
   ·skip
    refine .offH hb77 rfl rfl rfl ?_
    refine .offH hb77 rfl rfl rfl ?_
    refine .offH hb77 rfl rfl rfl ?_
    refine .pickFH hb77 rfl rfl rfl ?_
    exact .fin 4 rfl rfl (by kernel_rfl) (Fz.le_refl _)
   refine .assign rfl rfl ?_
   refine .nil ?_
   refine .code ?_
   exact .ret0 Try.results32 (.tmp rfl (.nil)) (i := 0) rfl (Fz.le_trans l_7 (Fz.le_trans l_41 (Fz.le_trans l_45 (Fz.le_trans l_59 (Fz.le_trans l_67 (Fz.le_trans l_73 l_79)))))) rfl
  obtain ⟨rfl, F_42, l_43, hA⟩ := hD
  exact interp_ret ((ret_post0 Try.results32 (.tmp rfl (.nil)) (i := 0) rfl (Fz.le_trans l_7 l_43) rfl) hk a w hA)
set_option maxHeartbeats 4000000 in
theorem c_excise_play_1 (F0 : Fz) (b1 : Nat) (_x2 : (Option Nat)) (p3 : Option Addr) (_k4 : Unit) (b5 : Nat) (x6 : Int) : CTV Try.prog penc 38 [(.pointer (some ⟨b1, 0, none⟩)), (.pointer (some ⟨b5, 0, none⟩))].toArray F0 [pt b1 (.cells [(.pointer p3)].toArray 60), pt b5 (.cells [(.int .i64 x6)].toArray 32)] (fun (q : ExciseMisfit) _F' => [pt b1 (.cells [(.pointer none)].toArray 60), pt b5 (.cells [(.int .i64 q.e)].toArray 32)]) := by
 refine CTV.mk (n := 18) Try.func38 rfl Try.ntmps38 rfl rfl rfl (fun R => ?_) (fun q R => ?_)
 ·skip
  refine .norm (Sub.refl _) (rfl : _ = [pt b1 (.cells [(.pointer p3)].toArray 60), pt b5 (.cells [(.int .i64 x6)].toArray 32), R]) ?_
  refine .seq ?_
  refine .region ?_
  refine .move rfl rfl ?_
  refine .neqNil0 rfl Try.underlying20 rfl ?_
  refine .nil ?_
  refine .code ?_
  refine .condF rfl ?_
  refine .skip ?_
  exact .nil (end_postI [0, 0, 0] Try.results38 rfl)
 ·skip
  refine .norm (Sub.refl _) (rfl : _ = [pt b1 (.cells [(.pointer p3)].toArray 60), pt b5 (.cells [(.int .i64 x6)].toArray 32), R]) ?_
  refine .seq ?_
  refine .region ?_
  refine .move rfl rfl ?_
  refine .neqNil1 rfl Try.underlying20 rfl ?_
  refine .nil ?_
  refine .code ?_
  refine .condT rfl ?_
  refine .seq ?_
  refine .region ?_
  refine .move rfl rfl ?_
  refine .assertOk rfl Try.underlying82 (by intro ms h; cases h) rfl ?_
  refine .move rfl rfl ?_
  refine .extract rfl rfl rfl ?_
  refine .extract rfl rfl rfl ?_
  refine .alloc (cs := (cExciseMisfit (ExciseMisfit.mk 0))) rfl Try.zeroValue82 rfl (fun b7 => ?_)
  refine .store (cs' := (cExciseMisfit q)) Try.sizeOf82 rfl rfl rfl rfl (i := 0) rfl (Nat.le_of_ble_eq_true rfl) rfl rfl ?_
  refine .assign rfl rfl ?_
  refine .nil ?_
  refine .code ?_
  refine .seq ?_
  refine .seq ?_
  refine .region ?_
  refine .move rfl rfl ?_
  refine .not rfl rfl ?_
  refine .nil ?_
  refine .code ?_
  refine .condF rfl ?_
  refine .skip ?_
  refine .code ?_
  refine .keep (.cons (k := 0) rfl (.cons (k := 1) rfl (.cons (k := 3) rfl (.nil _)))) ?_
  refine .drawG 3 0 (fun env15 => [((.pointer (some ⟨b7, 0 + 0, none⟩)), fun _ => True), ((.int .i64 q.e), fun _ => True), (undef, fun _ => True)]) (fun L env15 => [pt b7 (.cells (cExciseMisfit q).toArray 82), (bif L 2 then (pt b1 (.cells [(.pointer none)].toArray 60)) else (pt b1 (.cells [(.pointer p3)].toArray 60))), pt b5 (.cells [(.int .i64 x6)].toArray 32), R]) mixedOK (by kernel_rfl) (by kernel_rfl) rfl (fun _ => rfl) (by kernel_rfl) (fun _ => rfl) ?_ (fun env15 F_16 l_17 hphi => ?_)
  ·skip
   refine .cons (fun L env15 F_18 l_19 hL hdn hup hphi => ⟨[(3, (.pointer (some ⟨b7, 0, none⟩)))], fun S hS hV => (.cons (hS _ _ rfl) (Sub.nil _)), ?_⟩) ?_
   ·skip
    refine .fieldAddr rfl Try.underlying82 rfl Try.sizeOf32 rfl ?_
    exact .finV rfl rfl (Fz.le_refl _)
   refine .cons (fun L env15 F_20 l_21 hL hdn hup hphi => ⟨[(16, (.pointer (some ⟨b7, 0 + 0, none⟩)))], fun S hS hV => (.cons (hV 0 16 _ (hdn 1 0 rfl) rfl rfl) (Sub.nil _)), ?_⟩) ?_
   ·skip
    refine .loadO rfl Try.isAgg32 rfl (i := 0) rfl rfl ?_
    exact .finV rfl rfl (Fz.le_refl _)
   refine .cons (fun L env15 F_22 l_23 hL hdn hup hphi => ⟨[(0, (.pointer (some ⟨b1, 0, none⟩)))], fun S hS hV => (.cons (hS _ _ rfl) (Sub.nil _)), ?_⟩) ?_
   ·skip
    refine .store (cs' := [(.pointer none)]) Try.sizeOf60 rfl rfl rfl rfl (i := 1) (congrArg some (condF hL)) (Nat.le_of_ble_eq_true rfl) rfl rfl ?_
    exact .finS rfl (Fz.le_refl _) (setC 1 (condT rfl))
   exact .nil
  refine .norm (S' := [(0, (.pointer (some ⟨b1, 0, none⟩))), (1, (.pointer (some ⟨b5, 0, none⟩))), (3, (.pointer (some ⟨b7, 0, none⟩))), (16, (.pointer (some ⟨b7, 0 + 0, none⟩))), (17, (.int .i64 q.e))]) (.cons (k := 0) rfl (.cons (k := 1) rfl (.cons (k := 3) rfl (.cons (k := 16) rfl (.cons (k := 17) rfl (.nil _)))))) (rfl : _ = [pt b7 (.cells (cExciseMisfit q).toArray 82), pt b1 (.cells [(.pointer none)].toArray 60), pt b5 (.cells [(.int .i64 x6)].toArray 32), R]) ?_
  refine .store (cs' := [(.int .i64 q.e)]) Try.sizeOf32 rfl rfl rfl rfl (i := 2) rfl (Nat.le_of_ble_eq_true rfl) rfl rfl ?_
  refine .nil ?_
  exact .nil (end_postV [1, 1, 1] Try.results38 rfl l_17)
noncomputable def m_excise_newOffice (A1 : List ExciseOffice) (A2 : List (List (Int × ApiParcel))) (A3 : List (List (Int × Bool))) (r_4 : ApiDutyRules) : Option (((Option Nat) × (List ExciseOffice) × (List (List (Int × ApiParcel))) × (List (List (Int × Bool))))) :=
 bindv (A2 ++ [[]]) fun A16 => bindv (A3 ++ [[]]) fun A21 => bindv (ExciseOffice.mk r_4 (ApiDutyBook.mk (fun _ => 0) ([]) 0 0 0 0 0 0 0 0) (some A2.length) (some A3.length) (fun _ => 0) 0) fun x27 => bindv (A1 ++ [x27]) fun A29 => some ((some A1.length), A29, A16, A21)
set_option maxHeartbeats 4000000 in
theorem c_excise_newOffice (F0 : Fz) (Γ : Gam) (A1 : List ExciseOffice) (A2 : List (List (Int × ApiParcel))) (A3 : List (List (Int × Bool))) (r_4 : ApiDutyRules) (p5 : Option Addr) (k6 : Nat) (h7 : RepSl 2 (Ex cApiDutyRate) F0 p5 k6 r_4.Rates) : CTH Try.prog 39 [(eApiDutyRules r_4 p5 k6)].toArray F0 [arena Γ.g66 (C66 Γ) F0 A1, arena Γ.g63 (C63 Γ) F0 A2, arena Γ.g64 (C64 Γ) F0 A3] (m_excise_newOffice A1 A2 A3 r_4) (fun (r : (Option Nat) × (List ExciseOffice) × (List (List (Int × ApiParcel))) × (List (List (Int × Bool)))) F v => ∃ (p0 : Option Addr) (_k0 : Unit), v = (.pointer p0) ∧ RepPtr Γ.g66 F p0 r.1) (fun (r : (Option Nat) × (List ExciseOffice) × (List (List (Int × ApiParcel))) × (List (List (Int × Bool)))) F' => [arena Γ.g66 (C66 Γ) F' r.2.1, arena Γ.g63 (C63 Γ) F' r.2.2.1, arena Γ.g64 (C64 Γ) F' r.2.2.2]) := by
 refine CTH.enter Try.func39 rfl Try.ntmps39 rfl fun r R => ?_
 refine .norm (Sub.refl _) (rfl : _ = [arena Γ.g66 (C66 Γ) F0 A1, arena Γ.g63 (C63 Γ) F0 A2, arena Γ.g64 (C64 Γ) F0 A3, R]) ?_
 unfold m_excise_newOffice
 refine .seq ?_
 refine .region ?_
 refine .boxF (cs := (cApiDutyRules r_4 p5 k6)) rfl rfl rfl (fun b8 F_9 l_10 hb11 => ?_)
 refine .assign rfl rfl ?_
 refine .nil ?_
 refine .code ?_
 refine .seq ?_
 refine .region ?_
 refine .loadFA rfl Try.isAgg24 Try.sizeOf24 rfl hb11 (vs := (cApiDutyRules r_4 p5 k6)) (by kernel_rfl) rfl ?_
 refine .makeMapP (fun x : Int => (.int .i64 x)) (fun _ (x : ApiParcel) v => v = (eApiParcel x)) rfl (fun b12 => ?_)
 refine .makeMapP (fun x : Int => (.int .i64 x)) (fun _ (x : Bool) v => v = (.bool x)) rfl (fun b14 => ?_)
 refine .letv (fun A16 e17 => ?_)
 refine .intoAt 1 2 rfl rfl (stays63 Γ) l_10 (fun G m l hm => ownMapP_up (Fz.le_trans (Fz.le_refl _) l) hm) e17 (fun F_18 l_19 hb20 => ?_)
 refine .letv (fun A21 e22 => ?_)
 refine .intoAt 0 2 rfl rfl (stays64 Γ) (Fz.le_trans l_10 l_19) (fun G m l hm => ownMapP_up (Fz.le_trans l_19 l) hm) e22 (fun F_23 l_24 hb25 => ?_)
 refine .build (cs := (cExciseOffice (ExciseOffice.mk r_4 (ApiDutyBook.mk (fun _ => 0) ([]) 0 0 0 0 0 0 0 0) (some A2.length) (some A3.length) (fun _ => 0) 0) p5 k6 none 0 (some b12) () (some b14) ()).toArray) rfl Try.underlying66 Try.zeroValue66 (plExciseOffice _ Try.underlying66) rfl rfl (by kernel_rfl) ?_
 refine .box (cs := (cExciseOffice (ExciseOffice.mk r_4 (ApiDutyBook.mk (fun _ => 0) ([]) 0 0 0 0 0 0 0 0) (some A2.length) (some A3.length) (fun _ => 0) 0) p5 k6 none 0 (some b12) () (some b14) ())) rfl rfl rfl (fun b26 => ?_)
 refine .letv (fun x27 e28 => ?_)
 refine .letv (fun A29 e30 => ?_)
 refine .intoAt 0 0 rfl rfl (stays66 Γ) (Fz.le_trans l_10 (Fz.le_trans l_19 l_24)) (fun G m l hm => ⟨_, fun G' l' => by subst e28; exact ⟨p5, k6, none, 0, (some b12), (), (some b14), (), rfl, ((h7.mono (Fz.le_trans l_10 (Fz.le_trans l_19 l_24)))).mono (Fz.le_trans l l'), NilSl.zero, (((RepRef.of hb20).mono l_24)).mono (Fz.le_trans l l'), ((RepRef.of hb25)).mono (Fz.le_trans l l')⟩, hm⟩) e30 (fun F_31 l_32 hb33 => ?_)
 refine .assign rfl rfl ?_
 refine .nil ?_
 refine .code ?_
 refine .upR 1 (stays63 Γ) (Fz.le_trans l_24 l_32) rfl ?_
 refine .upR 2 (stays64 Γ) l_32 rfl ?_
 exact .retH [0, 0, 0, 0] Try.results39 (.tmp rfl (.nil)) rfl (Fz.le_trans l_10 (Fz.le_trans l_19 (Fz.le_trans l_24 l_32))) ⟨(some ⟨b26, 0, none⟩), (), rfl, (RepPtr.of hb33)⟩
noncomputable def m_excise_need (is_1 : Bool) (e2 : Int) : Option (Out ExciseMisfit (Unit)) :=
 if (!is_1) then (some (.pan (ExciseMisfit.mk e2))) else (some (.ok ()))
set_option maxHeartbeats 4000000 in
theorem c_excise_need (F0 : Fz) (is_1 : Bool) (e2 : Int) : CTX Try.prog penc 41 [(.bool is_1), (.int .i64 e2)].toArray F0 [] (m_excise_need is_1 e2) (fun (_r : Unit) _ v => v = .tuple #[]) (fun (_r : Unit) _F' _ => []) := by
 refine CTX.enter Try.func41 rfl Try.ntmps41 rfl fun r R => ?_
 refine .norm (Sub.refl _) (rfl : _ = [R]) ?_
 unfold m_excise_need
 refine .seq ?_
 refine .region ?_
 refine .move rfl rfl ?_
 refine .not rfl rfl ?_
 refine .nil ?_
 refine .code ?_
 refine .cond rfl (fun hb3 => ?_) (fun hb3 => ?_)
 ·skip
  refine .region ?_
  refine .move rfl rfl ?_
  refine .build (cs := (cExciseMisfit (ExciseMisfit.mk e2)).toArray) rfl Try.underlying82 Try.zeroValue82 (plExciseMisfit _ Try.underlying82) rfl rfl (by kernel_rfl) ?_
  refine .makeIface rfl (by kernel_rfl) rfl ?_
  exact .panicQ rfl (pan_postX (i := 0) rfl (Fz.le_refl _))
 ·skip
  refine .skip ?_
  exact .endX [0] Try.results41 (.nil) rfl (Fz.le_refl _) rfl
noncomputable def m_excise_office_room (A1 : List ExciseOffice) (o2 : (Option Nat)) (x6 : ApiDutyEvent) : Option (Out ExciseMisfit (Unit)) :=
 (o2).bind fun i11 => (idxO 16 x6.Bond).bind fun j16 => (A1[i11]?).bind fun x18 => bindX (m_excise_need (decide ((w64 ((x18.book.Bonds j16) + x6.Amount)) ≤ 17179869184)) 12) (fun q26 => some (.pan q26)) fun _r_20 => some (.ok ())
set_option maxHeartbeats 4000000 in
theorem c_excise_office_room (F0 : Fz) (Γ : Gam) (A1 : List ExciseOffice) (o2 : (Option Nat)) (p3 : Option Addr) (_k4 : Unit) (h5 : RepPtr Γ.g66 F0 p3 o2) (x6 : ApiDutyEvent) : CTX Try.prog penc 66 [(.pointer p3), (eApiDutyEvent x6)].toArray F0 [arena Γ.g66 (C66 Γ) F0 A1] (m_excise_office_room A1 o2 x6) (fun (_r : Unit) _ v => v = .tuple #[]) (fun (_r : Unit) F' _ => [arena Γ.g66 (C66 Γ) F' A1]) := by
 refine CTX.enter Try.func66 rfl Try.ntmps66 rfl fun r R => ?_
 refine .norm (Sub.refl _) (rfl : _ = [arena Γ.g66 (C66 Γ) F0 A1, R]) ?_
 unfold m_excise_office_room
 refine .seq ?_
 refine .region ?_
 refine .boxF (cs := (cApiDutyEvent x6)) rfl rfl rfl (fun b7 F_8 l_9 hb10 => ?_)
 refine .nil ?_
 refine .code ?_
 refine .keep (.cons (k := 0) rfl (.cons (k := 3) rfl (.nil _))) ?_
 refine .drawZ 12 mixedOK (by kernel_rfl) ?_
 refine .move rfl rfl ?_
 refine .fieldAddr rfl Try.underlying47 rfl Try.sizeOf3 rfl ?_
 refine .loadF rfl Try.isAgg3 rfl hb10 rfl ?_
 refine .bind (fun i11 e12 => ?_)
 obtain ⟨b13, hb14, hp15⟩ := (h5.mono l_9).at e12
 refine .nilCheckR hp15 rfl rfl ?_
 refine .fieldAddr rfl Try.underlying66 rfl Try.sizeOf31 rfl ?_
 refine .fieldAddr rfl Try.underlying31 rfl Try.sizeOf28 rfl ?_
 refine .bind (fun j16 hj17 => ?_)
 refine .indexAddrA rfl Try.underlying28 Try.sizeOf3 rfl rfl hj17 ?_
 refine .bind (fun x18 e19 => ?_)
 refine .loadR (Φ := fun v => v = (.int .i64 (x18.book.Bonds j16))) 0 rfl l_9 hb14 e19 rfl Try.isAgg3 rfl (fun vs ⟨q0, q1, q2, q3, q4, q5, q6, q7, h, r0, r1, r2, r3⟩ => ⟨_, by subst h; exact (allLt16 (p := fun j16 => ((cExciseOffice x18 q0 q1 q2 q3 q4 q5 q6 q7))[0 + 4 + 0 + j16 * 1]? = some (.int .i64 (x18.book.Bonds j16))) rfl rfl rfl rfl rfl rfl rfl rfl rfl rfl rfl rfl rfl rfl rfl rfl _ (idxO_some hj17).2.2.2), rfl⟩) (fun v hv => ?_)
 subst hv
 refine .fieldAddr rfl Try.underlying47 rfl Try.sizeOf3 rfl ?_
 refine .loadF rfl Try.isAgg3 rfl hb10 rfl ?_
 refine .add rfl rfl rfl ?_
 refine .leq rfl rfl rfl ?_
 refine .pend ?_
 refine .callB [] rfl Try.call41 rfl rfl rfl rfl (c_excise_need _ (decide ((w64 ((x18.book.Bonds j16) + x6.Amount)) ≤ 17179869184)) 12) ?_ (fun q26 F_24 _ l_25 => (pan_postX (i := 1) rfl (Fz.le_trans l_9 l_25)))
 rintro r_20 F_21 _ e23 l_22 rfl
 refine .pick [0, 0] (rfl : _ = [arena Γ.g66 (C66 Γ) F0 A1, R]) ?_
 refine .nil ?_
 refine .upR 0 (stays66 Γ) (Fz.le_trans l_9 l_22) rfl ?_
 exact .endX [0, 0] Try.results66 (.nil) rfl (Fz.le_trans l_9 l_22) rfl
noncomputable def m_excise_office_distil (A1 : List ExciseOffice) (A2 : List (List (Int × ApiParcel))) (A3 : List (List (Int × Bool))) (o4 : (Option Nat)) (x8 : ApiDutyEvent) : Option (Out ExciseMisfit ((List ExciseOffice) × (List (List (Int × ApiParcel))) × (List (List (Int × Bool))))) :=
 bindX (m_excise_office_room A1 o4 x8) (fun q19 => some (.pan q19)) fun _r_13 => (o4).bind fun i20 => (idxO 16 x8.Bond).bind fun j25 => (A1[i20]?).bind fun x27 => bindv ({ x27 with book := { x27.book with Bonds := updN x27.book.Bonds j25 (w64 ((x27.book.Bonds j25) + x8.Amount)) } }) fun x29 => bindv (List.set A1 i20 x29) fun A31 => bindv ({ x29 with book := { x29.book with Made := (w64 (x29.book.Made + x8.Amount)) } }) fun x33 => bindv (List.set A31 i20 x33) fun A35 => some (.ok (A35, A2, A3))
set_option maxHeartbeats 4000000 in
theorem c_excise_office_distil (F0 : Fz) (Γ : Gam) (A1 : List ExciseOffice) (A2 : List (List (Int × ApiParcel))) (A3 : List (List (Int × Bool))) (o4 : (Option Nat)) (p5 : Option Addr) (k6 : Unit) (h7 : RepPtr Γ.g66 F0 p5 o4) (x8 : ApiDutyEvent) : CTX Try.prog penc 53 [(.pointer p5), (eApiDutyEvent x8)].toArray F0 [arena Γ.g66 (C66 Γ) F0 A1, arena Γ.g63 (C63 Γ) F0 A2, arena Γ.g64 (C64 Γ) F0 A3] (m_excise_office_distil A1 A2 A3 o4 x8) (fun (_r : (List ExciseOffice) × (List (List (Int × ApiParcel))) × (List (List (Int × Bool)))) _ v => v = .tuple #[]) (fun (r : (List ExciseOffice) × (List (List (Int × ApiParcel))) × (List (List (Int × Bool)))) F' _ => [arena Γ.g66 (C66 Γ) F' r.1, arena Γ.g63 (C63 Γ) F' r.2.1, arena Γ.g64 (C64 Γ) F' r.2.2]) := by
 refine CTX.enter Try.func53 rfl Try.ntmps53 rfl fun r R => ?_
 refine .norm (Sub.refl _) (rfl : _ = [arena Γ.g66 (C66 Γ) F0 A1, arena Γ.g63 (C63 Γ) F0 A2, arena Γ.g64 (C64 Γ) F0 A3, R]) ?_
 unfold m_excise_office_distil
 refine .seq ?_
 refine .region ?_
 refine .boxF (cs := (cApiDutyEvent x8)) rfl rfl rfl (fun b9 F_10 l_11 hb12 => ?_)
 refine .nil ?_
 refine .code ?_
 refine .seq ?_
 refine .region ?_
 refine .move rfl rfl ?_
 refine .loadFA rfl Try.isAgg47 Try.sizeOf47 rfl hb12 (vs := (cApiDutyEvent x8)) (by kernel_rfl) rfl ?_
 refine .upR 0 (stays66 Γ) l_11 rfl ?_
 refine .callB [0] rfl Try.call66 rfl rfl rfl rfl (c_excise_office_room _ Γ A1 o4 p5 k6 (h7.mono l_11) x8) ?_ (fun q19 F_17 _ l_18 => (pan_postX (i := 2) rfl (Fz.le_trans l_11 l_18)))
 rintro r_13 F_14 _ e16 l_15 rfl
 refine .pick [0, 0, 0, 0] (rfl : _ = [arena Γ.g66 (C66 Γ) F_14 A1, arena Γ.g63 (C63 Γ) F0 A2, arena Γ.g64 (C64 Γ) F0 A3, R]) ?_
 refine .nil ?_
 refine .code ?_
 refine .seq ?_
 refine .keep (.cons (k := 0) rfl (.cons (k := 3) rfl (.nil _))) ?_
 refine .drawZ 15 mixedOK (by kernel_rfl) ?_
 refine .move rfl rfl ?_
 refine .fieldAddr rfl Try.underlying47 rfl Try.sizeOf3 rfl ?_
 refine .loadF rfl Try.isAgg3 rfl (l_15.mem _ _ hb12) rfl ?_
 refine .bind (fun i20 e21 => ?_)
 obtain ⟨b22, hb23, hp24⟩ := (h7.mono (Fz.le_trans l_11 l_15)).at e21
 refine .nilCheckR hp24 rfl rfl ?_
 refine .fieldAddr rfl Try.underlying66 rfl Try.sizeOf31 rfl ?_
 refine .fieldAddr rfl Try.underlying31 rfl Try.sizeOf28 rfl ?_
 refine .bind (fun j25 hj26 => ?_)
 refine .indexAddrA rfl Try.underlying28 Try.sizeOf3 rfl rfl hj26 ?_
 refine .bind (fun x27 e28 => ?_)
 refine .loadR (Φ := fun v => v = (.int .i64 (x27.book.Bonds j25))) 0 rfl (Fz.le_refl _) hb23 e28 rfl Try.isAgg3 rfl (fun vs ⟨q0, q1, q2, q3, q4, q5, q6, q7, h, r0, r1, r2, r3⟩ => ⟨_, by subst h; exact (allLt16 (p := fun j25 => ((cExciseOffice x27 q0 q1 q2 q3 q4 q5 q6 q7))[0 + 4 + 0 + j25 * 1]? = some (.int .i64 (x27.book.Bonds j25))) rfl rfl rfl rfl rfl rfl rfl rfl rfl rfl rfl rfl rfl rfl rfl rfl _ (idxO_some hj26).2.2.2), rfl⟩) (fun v hv => ?_)
 subst hv
 refine .fieldAddr rfl Try.underlying47 rfl Try.sizeOf3 rfl ?_
 refine .loadF rfl Try.isAgg3 rfl (l_15.mem _ _ hb12) rfl ?_
 refine .add rfl rfl rfl ?_
 refine .nilCheckR hp24 rfl rfl ?_
 refine .fieldAddr rfl Try.underlying66 rfl Try.sizeOf31 rfl ?_
 refine .fieldAddr rfl Try.underlying31 rfl Try.sizeOf28 rfl ?_
 refine .indexAddrA rfl Try.underlying28 Try.sizeOf3 rfl rfl hj26 ?_
 refine .pend ?_
 refine .letv (fun x29 e30 => ?_)
 refine .letv (fun A31 e32 => ?_)
 refine .storeR (xs' := A31) (x' := { x27 with book := { x27.book with Bonds := updN x27.book.Bonds j25 (w64 ((x27.book.Bonds j25) + x8.Amount)) } }) (us := [(.int .i64 (w64 ((x27.book.Bonds j25) + x8.Amount)))]) 0 rfl (Fz.le_refl _) (Fz.le_refl _) (len66 Γ) Try.sizeOf3 hb23 e28 rfl rfl rfl rfl rfl (allLt16 (p := fun j25 => Nat.ble (0 + 4 + 0 + j25 * 1 + 1) 48 = true) rfl rfl rfl rfl rfl rfl rfl rfl rfl rfl rfl rfl rfl rfl rfl rfl _ (idxO_some hj26).2.2.2) (fun F' vs le ⟨q0, q1, q2, q3, q4, q5, q6, q7, h, r0, r1, r2, r3⟩ => ⟨q0, q1, q2, q3, q4, q5, q6, q7, by subst h; exact (allLt16 (p := fun j25 => setMany (cExciseOffice x27 q0 q1 q2 q3 q4 q5 q6 q7) (0 + 4 + 0 + j25 * 1) [(.int .i64 (w64 ((x27.book.Bonds j25) + x8.Amount)))] = (cExciseOffice ({ x27 with book := { x27.book with Bonds := updN x27.book.Bonds j25 (w64 ((x27.book.Bonds j25) + x8.Amount)) } }) q0 q1 q2 q3 q4 q5 q6 q7)) rfl rfl rfl rfl rfl rfl rfl rfl rfl rfl rfl rfl rfl rfl rfl rfl _ (idxO_some hj26).2.2.2), r0, r1, r2, r3⟩) (by rw [e32, e30] <;> rfl) ?_
 refine .nil ?_
 refine .code ?_
 refine .keep (.cons (k := 0) rfl (.cons (k := 3) rfl (.nil _))) ?_
 refine .drawZ 11 mixedOK (by kernel_rfl) ?_
 refine .move rfl rfl ?_
 refine .nilCheckR hp24 rfl rfl ?_
 refine .fieldAddr rfl Try.underlying66 rfl Try.sizeOf31 rfl ?_
 refine .fieldAddr rfl Try.underlying31 rfl Try.sizeOf3 rfl ?_
 refine .loadR (Φ := fun v => v = (.int .i64 x29.book.Made)) 0 rfl (Fz.le_refl _) hb23 (get_set e28 e32) rfl Try.isAgg3 rfl (fun vs ⟨q0, q1, q2, q3, q4, q5, q6, q7, h, r0, r1, r2, r3⟩ => ⟨_, by subst h; exact rfl, rfl⟩) (fun v hv => ?_)
 subst hv
 refine .fieldAddr rfl Try.underlying47 rfl Try.sizeOf3 rfl ?_
 refine .loadF rfl Try.isAgg3 rfl (l_15.mem _ _ hb12) rfl ?_
 refine .add rfl rfl rfl ?_
 refine .nilCheckR hp24 rfl rfl ?_
 refine .fieldAddr rfl Try.underlying66 rfl Try.sizeOf31 rfl ?_
 refine .fieldAddr rfl Try.underlying31 rfl Try.sizeOf3 rfl ?_
 refine .pend ?_
 refine .letv (fun x33 e34 => ?_)
 refine .letv (fun A35 e36 => ?_)
 refine .storeR (xs' := A35) (x' := { x29 with book := { x29.book with Made := (w64 (x29.book.Made + x8.Amount)) } }) (us := [(.int .i64 (w64 (x29.book.Made + x8.Amount)))]) 0 rfl (Fz.le_refl _) (Fz.le_refl _) (len66 Γ) Try.sizeOf3 hb23 (get_set e28 e32) rfl rfl rfl rfl rfl rfl (fun F' vs le ⟨q0, q1, q2, q3, q4, q5, q6, q7, h, r0, r1, r2, r3⟩ => ⟨q0, q1, q2, q3, q4, q5, q6, q7, by subst h; exact rfl, r0, r1, r2, r3⟩) (by rw [e36, e34] <;> rfl) ?_
 refine .nil ?_
 refine .upR 1 (stays63 Γ) (Fz.le_trans l_11 l_15) rfl ?_
 refine .upR 2 (stays64 Γ) (Fz.le_trans l_11 l_15) rfl ?_
 exact .endX [0, 0, 0, 0] Try.results53 (.nil) rfl (Fz.le_trans l_11 l_15) rfl
noncomputable def m_excise_office_draw (A1 : List ExciseOffice) (o2 : (Option Nat)) (x6 : ApiDutyEvent) : Option (Out ExciseMisfit ((List ExciseOffice))) :=
 (o2).bind fun i11 => (idxO 16 x6.Bond).bind fun j16 => (A1[i11]?).bind fun x18 => bindX (m_excise_need (decide ((x18.book.Bonds j16) ≥ x6.Amount)) 10) (fun q26 => some (.pan q26)) fun _r_20 => bindv ({ x18 with book := { x18.book with Bonds := updN x18.book.Bonds j16 (w64 ((x18.book.Bonds j16) - x6.Amount)) } }) fun x27 => bindv (List.set A1 i11 x27) fun A29 => some (.ok A29)
set_option maxHeartbeats 4000000 in
theorem c_excise_office_draw (F0 : Fz) (Γ : Gam) (A1 : List ExciseOffice) (o2 : (Option Nat)) (p3 : Option Addr) (_k4 : Unit) (h5 : RepPtr Γ.g66 F0 p3 o2) (x6 : ApiDutyEvent) : CTX Try.prog penc 67 [(.pointer p3), (eApiDutyEvent x6)].toArray F0 [arena Γ.g66 (C66 Γ) F0 A1] (m_excise_office_draw A1 o2 x6) (fun (_r : (List ExciseOffice)) _ v => v = .tuple #[]) (fun (r : (List ExciseOffice)) F' _ => [arena Γ.g66 (C66 Γ) F' r]) := by
 refine CTX.enter Try.func67 rfl Try.ntmps67 rfl fun r R => ?_
 refine .norm (Sub.refl _) (rfl : _ = [arena Γ.g66 (C66 Γ) F0 A1, R]) ?_
 unfold m_excise_office_draw
 refine .seq ?_
 refine .region ?_
 refine .boxF (cs := (cApiDutyEvent x6)) rfl rfl rfl (fun b7 F_8 l_9 hb10 => ?_)
 refine .nil ?_
 refine .code ?_
 refine .seq ?_
 refine .keep (.cons (k := 0) rfl (.cons (k := 3) rfl (.nil _))) ?_
 refine .drawZ 11 mixedOK (by kernel_rfl) ?_
 refine .move rfl rfl ?_
 refine .fieldAddr rfl Try.underlying47 rfl Try.sizeOf3 rfl ?_
 refine .loadF rfl Try.isAgg3 rfl hb10 rfl ?_
 refine .bind (fun i11 e12 => ?_)
 obtain ⟨b13, hb14, hp15⟩ := (h5.mono l_9).at e12
 refine .nilCheckR hp15 rfl rfl ?_
 refine .fieldAddr rfl Try.underlying66 rfl Try.sizeOf31 rfl ?_
 refine .fieldAddr rfl Try.underlying31 rfl Try.sizeOf28 rfl ?_
 refine .bind (fun j16 hj17 => ?_)
 refine .indexAddrA rfl Try.underlying28 Try.sizeOf3 rfl rfl hj17 ?_
 refine .bind (fun x18 e19 => ?_)
 refine .loadR (Φ := fun v => v = (.int .i64 (x18.book.Bonds j16))) 0 rfl l_9 hb14 e19 rfl Try.isAgg3 rfl (fun vs ⟨q0, q1, q2, q3, q4, q5, q6, q7, h, r0, r1, r2, r3⟩ => ⟨_, by subst h; exact (allLt16 (p := fun j16 => ((cExciseOffice x18 q0 q1 q2 q3 q4 q5 q6 q7))[0 + 4 + 0 + j16 * 1]? = some (.int .i64 (x18.book.Bonds j16))) rfl rfl rfl rfl rfl rfl rfl rfl rfl rfl rfl rfl rfl rfl rfl rfl _ (idxO_some hj17).2.2.2), rfl⟩) (fun v hv => ?_)
 subst hv
 refine .fieldAddr rfl Try.underlying47 rfl Try.sizeOf3 rfl ?_
 refine .loadF rfl Try.isAgg3 rfl hb10 rfl ?_
 refine .geq rfl rfl rfl ?_
 refine .pend ?_
 refine .callB [] rfl Try.call41 rfl rfl rfl rfl (c_excise_need _ (decide ((x18.book.Bonds j16) ≥ x6.Amount)) 10) ?_ (fun q26 F_24 _ l_25 => (pan_postX (i := 1) rfl (Fz.le_trans l_9 l_25)))
 rintro r_20 F_21 _ e23 l_22 rfl
 refine .pick [0, 0] (rfl : _ = [arena Γ.g66 (C66 Γ) F0 A1, R]) ?_
 refine .nil ?_
 refine .code ?_
 refine .keep (.cons (k := 0) rfl (.cons (k := 3) rfl (.nil _))) ?_
 refine .drawZ 15 mixedOK (by kernel_rfl) ?_
 refine .move rfl rfl ?_
 refine .fieldAddr rfl Try.underlying47 rfl Try.sizeOf3 rfl ?_
 refine .loadF rfl Try.isAgg3 rfl (l_22.mem _ _ hb10) rfl ?_
 refine .nilCheckR hp15 rfl rfl ?_
 refine .fieldAddr rfl Try.underlying66 rfl Try.sizeOf31 rfl ?_
 refine .fieldAddr rfl Try.underlying31 rfl Try.sizeOf28 rfl ?_
 refine .indexAddrA rfl Try.underlying28 Try.sizeOf3 rfl rfl hj17 ?_
 refine .loadR (Φ := fun v => v = (.int .i64 (x18.book.Bonds j16))) 0 rfl (Fz.le_trans l_9 l_22) (hb14.mono l_22) e19 rfl Try.isAgg3 rfl (fun vs ⟨q0, q1, q2, q3, q4, q5, q6, q7, h, r0, r1, r2, r3⟩ => ⟨_, by subst h; exact (allLt16 (p := fun j16 => ((cExciseOffice x18 q0 q1 q2 q3 q4 q5 q6 q7))[0 + 4 + 0 + j16 * 1]? = some (.int .i64 (x18.book.Bonds j16))) rfl rfl rfl rfl rfl rfl rfl rfl rfl rfl rfl rfl rfl rfl rfl rfl _ (idxO_some hj17).2.2.2), rfl⟩) (fun v hv => ?_)
 subst hv
 refine .fieldAddr rfl Try.underlying47 rfl Try.sizeOf3 rfl ?_
 refine .loadF rfl Try.isAgg3 rfl (l_22.mem _ _ hb10) rfl ?_
 refine .sub rfl rfl rfl ?_
 refine .nilCheckR hp15 rfl rfl ?_
 refine .fieldAddr rfl Try.underlying66 rfl Try.sizeOf31 rfl ?_
 refine .fieldAddr rfl Try.underlying31 rfl Try.sizeOf28 rfl ?_
 refine .indexAddrA rfl Try.underlying28 Try.sizeOf3 rfl rfl hj17 ?_
 refine .pend ?_
 refine .letv (fun x27 e28 => ?_)
 refine .letv (fun A29 e30 => ?_)
 refine .storeR (xs' := A29) (x' := { x18 with book := { x18.book with Bonds := updN x18.book.Bonds j16 (w64 ((x18.book.Bonds j16) - x6.Amount)) } }) (us := [(.int .i64 (w64 ((x18.book.Bonds j16) - x6.Amount)))]) 0 rfl (Fz.le_trans l_9 l_22) (Fz.le_refl _) (len66 Γ) Try.sizeOf3 (hb14.mono l_22) e19 rfl rfl rfl rfl rfl (allLt16 (p := fun j16 => Nat.ble (0 + 4 + 0 + j16 * 1 + 1) 48 = true) rfl rfl rfl rfl rfl rfl rfl rfl rfl rfl rfl rfl rfl rfl rfl rfl _ (idxO_some hj17).2.2.2) (fun F' vs le ⟨q0, q1, q2, q3, q4, q5, q6, q7, h, r0, r1, r2, r3⟩ => ⟨q0, q1, q2, q3, q4, q5, q6, q7, by subst h; exact (allLt16 (p := fun j16 => setMany (cExciseOffice x18 q0 q1 q2 q3 q4 q5 q6 q7) (0 + 4 + 0 + j16 * 1) [(.int .i64 (w64 ((x18.book.Bonds j16) - x6.Amount)))] = (cExciseOffice ({ x18 with book := { x18.book with Bonds := updN x18.book.Bonds j16 (w64 ((x18.book.Bonds j16) - x6.Amount)) } }) q0 q1 q2 q3 q4 q5 q6 q7)) rfl rfl rfl rfl rfl rfl rfl rfl rfl rfl rfl rfl rfl rfl rfl rfl _ (idxO_some hj17).2.2.2), r0, r1, r2, r3⟩) (by rw [e30, e28] <;> rfl) ?_
 refine .nil ?_
 exact .endX [0, 0] Try.results67 (.nil) rfl (Fz.le_trans l_9 l_22) rfl
noncomputable def m_excise_office_send (A1 : List ExciseOffice) (A2 : List (List (Int × ApiParcel))) (A3 : List (List (Int × Bool))) (o4 : (Option Nat)) (x8 : ApiDutyEvent) : Option (Out ExciseMisfit ((List ExciseOffice) × (List (List (Int × ApiParcel))) × (List (List (Int × Bool))))) :=
 bindX (m_excise_need (x8.Bond != x8.To) 11) (fun q19 => some (.pan q19)) fun _r_13 => (o4).bind fun i20 => (A1[i20]?).bind fun x25 => (x25.known).bind fun i30 => (A3[i30]?).bind fun x35 => bindX (m_excise_need (!((mapGet x35 x8.Id).getD false)) 5) (fun q43 => some (.pan q43)) fun _r_37 => bindX (m_excise_office_draw A1 o4 x8) (fun q50 => some (.pan q50)) fun r_44 => (r_44[i20]?).bind fun x51 => (x51.known).bind fun i58 => (A3[i58]?).bind fun x63 => bindv (List.set A3 i58 (mapSet x63 x8.Id true)) fun m_56 => (x51.moving).bind fun i70 => (A2[i70]?).bind fun x75 => bindv (List.set A2 i70 (mapSet x75 x8.Id (ApiParcel.mk x8.Id x8.Bond x8.To x8.Day x8.Amount))) fun m_68 => some (.ok (r_44, m_68, m_56))
set_option maxHeartbeats 4000000 in
theorem c_excise_office_send (F0 : Fz) (Γ : Gam) (A1 : List ExciseOffice) (A2 : List (List (Int × ApiParcel))) (A3 : List (List (Int × Bool))) (o4 : (Option Nat)) (p5 : Option Addr) (k6 : Unit) (h7 : RepPtr Γ.g66 F0 p5 o4) (x8 : ApiDutyEvent) : CTX Try.prog penc 54 [(.pointer p5), (eApiDutyEvent x8)].toArray F0 [arena Γ.g66 (C66 Γ) F0 A1, arena Γ.g63 (C63 Γ) F0 A2, arena Γ.g64 (C64 Γ) F0 A3] (m_excise_office_send A1 A2 A3 o4 x8) (fun (_r : (List ExciseOffice) × (List (List (Int × ApiParcel))) × (List (List (Int × Bool)))) _ v => v = .tuple #[]) (fun (r : (List ExciseOffice) × (List (List (Int × ApiParcel))) × (List (List (Int × Bool)))) F' _ => [arena Γ.g66 (C66 Γ) F' r.1, arena Γ.g63 (C63 Γ) F' r.2.1, arena Γ.g64 (C64 Γ) F' r.2.2]) := by
 refine CTX.enter Try.func54 rfl Try.ntmps54 rfl fun r R => ?_
 refine .norm (Sub.refl _) (rfl : _ = [arena Γ.g66 (C66 Γ) F0 A1, arena Γ.g63 (C63 Γ) F0 A2, arena Γ.g64 (C64 Γ) F0 A3, R]) ?_
 unfold m_excise_office_send
 refine .seq ?_
 refine .region ?_
 refine .boxF (cs := (cApiDutyEvent x8)) rfl rfl rfl (fun b9 F_10 l_11 hb12 => ?_)
 refine .nil ?_
 refine .code ?_
 refine .seq ?_
 refine .region ?_
 refine .fieldAddr rfl Try.underlying47 rfl Try.sizeOf3 rfl ?_
 refine .loadF rfl Try.isAgg3 rfl hb12 rfl ?_
 refine .fieldAddr rfl Try.underlying47 rfl Try.sizeOf3 rfl ?_
 refine .loadF rfl Try.isAgg3 rfl hb12 rfl ?_
 refine .neq rfl rfl rfl ?_
 refine .callB [] rfl Try.call41 rfl rfl rfl rfl (c_excise_need _ (x8.Bond != x8.To) 11) ?_ (fun q19 F_17 _ l_18 => (pan_postX (i := 3) rfl (Fz.le_trans l_11 l_18)))
 rintro r_13 F_14 _ e16 l_15 rfl
 refine .pick [0, 0, 0, 0] (rfl : _ = [arena Γ.g66 (C66 Γ) F0 A1, arena Γ.g63 (C63 Γ) F0 A2, arena Γ.g64 (C64 Γ) F0 A3, R]) ?_
 refine .nil ?_
 refine .code ?_
 refine .seq ?_
 refine .keep (.cons (k := 0) rfl (.cons (k := 3) rfl (.nil _))) ?_
 refine .drawZ 8 mixedOK (by kernel_rfl) ?_
 refine .move rfl rfl ?_
 refine .bind (fun i20 e21 => ?_)
 obtain ⟨b22, hb23, hp24⟩ := (h7.mono (Fz.le_trans l_11 l_15)).at e21
 refine .nilCheckR hp24 rfl rfl ?_
 refine .fieldAddr rfl Try.underlying66 rfl Try.sizeOf64 rfl ?_
 refine .bind (fun x25 e26 => ?_)
 refine .loadR (Φ := fun v => ∃ (p27 : Option Nat) (k28 : Unit), v = (.map p27) ∧ RepRef Γ.g64 F_14 p27 x25.known) 0 rfl (Fz.le_trans l_11 l_15) hb23 e26 rfl Try.isAgg64 rfl (fun vs ⟨q0, q1, q2, q3, q4, q5, q6, q7, h, r0, r1, r2, r3⟩ => ⟨_, by subst h; exact rfl, q6, q7, rfl, r3⟩) (fun v hv => ?_)
 obtain ⟨p27, k28, rfl, h29⟩ := hv
 refine .fieldAddr rfl Try.underlying47 rfl Try.sizeOf3 rfl ?_
 refine .loadF rfl Try.isAgg3 rfl (l_15.mem _ _ hb12) rfl ?_
 refine .bind (fun i30 e31 => ?_)
 obtain ⟨b32, hb33, hp34⟩ := h29.at e31
 refine .bind (fun x35 e36 => ?_)
 refine .lookupR (key := x8.Id) (z := false) 2 rfl (Fz.le_trans l_11 l_15) hb33 hp34 e36 rfl Try.underlying64 (.int Try.underlying3) Try.zeroValue4 rfl rfl rfl ?_
 intro v hv
 obtain rfl := hv
 refine .not rfl rfl ?_
 refine .pend ?_
 refine .callB [] rfl Try.call41 rfl rfl rfl rfl (c_excise_need _ (!((mapGet x35 x8.Id).getD false)) 5) ?_ (fun q43 F_41 _ l_42 => (pan_postX (i := 3) rfl (Fz.le_trans l_11 (Fz.le_trans l_15 l_42))))
 rintro r_37 F_38 _ e40 l_39 rfl
 refine .pick [0, 0, 0, 0] (rfl : _ = [arena Γ.g66 (C66 Γ) F0 A1, arena Γ.g63 (C63 Γ) F0 A2, arena Γ.g64 (C64 Γ) F0 A3, R]) ?_
 refine .nil ?_
 refine .code ?_
 refine .seq ?_
 refine .region ?_
 refine .move rfl rfl ?_
 refine .loadFA rfl Try.isAgg47 Try.sizeOf47 rfl ((Fz.le_trans l_15 l_39).mem _ _ hb12) (vs := (cApiDutyEvent x8)) (by kernel_rfl) rfl ?_
 refine .upR 0 (stays66 Γ) (Fz.le_trans l_11 (Fz.le_trans l_15 l_39)) rfl ?_
 refine .callB [0] rfl Try.call67 rfl rfl rfl rfl (c_excise_office_draw _ Γ A1 o4 p5 k6 (h7.mono (Fz.le_trans l_11 (Fz.le_trans l_15 l_39))) x8) ?_ (fun q50 F_48 _ l_49 => (pan_postX (i := 2) rfl (Fz.le_trans l_11 (Fz.le_trans l_15 (Fz.le_trans l_39 l_49)))))
 rintro r_44 F_45 _ e47 l_46 rfl
 refine .pick [0, 0, 0, 0] (rfl : _ = [arena Γ.g66 (C66 Γ) F_45 r_44, arena Γ.g63 (C63 Γ) F0 A2, arena Γ.g64 (C64 Γ) F0 A3, R]) ?_
 refine .nil ?_
 refine .code ?_
 refine .seq ?_
 refine .keep (.cons (k := 0) rfl (.cons (k := 3) rfl (.nil _))) ?_
 refine .drawZ 6 mixedOK (by kernel_rfl) ?_
 refine .move rfl rfl ?_
 refine .nilCheckR hp24 rfl rfl ?_
 refine .fieldAddr rfl Try.underlying66 rfl Try.sizeOf64 rfl ?_
 refine .bind (fun x51 e52 => ?_)
 refine .loadR (Φ := fun v => ∃ (p53 : Option Nat) (k54 : Unit), v = (.map p53) ∧ RepRef Γ.g64 F_45 p53 x51.known) 0 rfl (Fz.le_refl _) (hb23.mono (Fz.le_trans l_39 l_46)) e52 rfl Try.isAgg64 rfl (fun vs ⟨q0, q1, q2, q3, q4, q5, q6, q7, h, r0, r1, r2, r3⟩ => ⟨_, by subst h; exact rfl, q6, q7, rfl, r3⟩) (fun v hv => ?_)
 obtain ⟨p53, k54, rfl, h55⟩ := hv
 refine .fieldAddr rfl Try.underlying47 rfl Try.sizeOf3 rfl ?_
 refine .loadF rfl Try.isAgg3 rfl ((Fz.le_trans l_15 (Fz.le_trans l_39 l_46)).mem _ _ hb12) rfl ?_
 refine .pend ?_
 refine .bind (fun i58 e59 => ?_)
 obtain ⟨b60, hb61, hp62⟩ := h55.at e59
 refine .bind (fun x63 e64 => ?_)
 refine .letv (fun m_56 e57 => ?_)
 refine .mapUpdateR (key := x8.Id) (val := true) 2 rfl (Fz.le_trans l_11 (Fz.le_trans l_15 (Fz.le_trans l_39 l_46))) hb61 hp62 e64 Try.underlying64 (.int Try.underlying3) rfl rfl rfl (fun _ _ => rfl) e57 ?_
 refine .nil ?_
 refine .code ?_
 refine .keep (.cons (k := 0) rfl (.cons (k := 3) rfl (.nil _))) ?_
 refine .drawZ 17 mixedOK (by kernel_rfl) ?_
 refine .move rfl rfl ?_
 refine .nilCheckR hp24 rfl rfl ?_
 refine .fieldAddr rfl Try.underlying66 rfl Try.sizeOf63 rfl ?_
 refine .loadR (Φ := fun v => ∃ (p65 : Option Nat) (k66 : Unit), v = (.map p65) ∧ RepRef Γ.g63 F_45 p65 x51.moving) 0 rfl (Fz.le_refl _) (hb23.mono (Fz.le_trans l_39 l_46)) e52 rfl Try.isAgg63 rfl (fun vs ⟨q0, q1, q2, q3, q4, q5, q6, q7, h, r0, r1, r2, r3⟩ => ⟨_, by subst h; exact rfl, q4, q5, rfl, r2⟩) (fun v hv => ?_)
 obtain ⟨p65, k66, rfl, h67⟩ := hv
 refine .fieldAddr rfl Try.underlying47 rfl Try.sizeOf3 rfl ?_
 refine .loadF rfl Try.isAgg3 rfl ((Fz.le_trans l_15 (Fz.le_trans l_39 l_46)).mem _ _ hb12) rfl ?_
 refine .fieldAddr rfl Try.underlying47 rfl Try.sizeOf3 rfl ?_
 refine .loadF rfl Try.isAgg3 rfl ((Fz.le_trans l_15 (Fz.le_trans l_39 l_46)).mem _ _ hb12) rfl ?_
 refine .fieldAddr rfl Try.underlying47 rfl Try.sizeOf3 rfl ?_
 refine .loadF rfl Try.isAgg3 rfl ((Fz.le_trans l_15 (Fz.le_trans l_39 l_46)).mem _ _ hb12) rfl ?_
 refine .fieldAddr rfl Try.underlying47 rfl Try.sizeOf3 rfl ?_
 refine .loadF rfl Try.isAgg3 rfl ((Fz.le_trans l_15 (Fz.le_trans l_39 l_46)).mem _ _ hb12) rfl ?_
 refine .fieldAddr rfl Try.underlying47 rfl Try.sizeOf3 rfl ?_
 refine .loadF rfl Try.isAgg3 rfl ((Fz.le_trans l_15 (Fz.le_trans l_39 l_46)).mem _ _ hb12) rfl ?_
 refine .fieldAddr rfl Try.underlying47 rfl Try.sizeOf3 rfl ?_
 refine .loadF rfl Try.isAgg3 rfl ((Fz.le_trans l_15 (Fz.le_trans l_39 l_46)).mem _ _ hb12) rfl ?_
 refine .build (cs := (cApiParcel (ApiParcel.mk x8.Id x8.Bond x8.To x8.Day x8.Amount)).toArray) rfl Try.underlying49 Try.zeroValue49 (plApiParcel _ Try.underlying49) rfl rfl (by kernel_rfl) ?_
 refine .pend ?_
 refine .bind (fun i70 e71 => ?_)
 obtain ⟨b72, hb73, hp74⟩ := h67.at e71
 refine .bind (fun x75 e76 => ?_)
 refine .letv (fun m_68 e69 => ?_)
 refine .mapUpdateR (key := x8.Id) (val := (ApiParcel.mk x8.Id x8.Bond x8.To x8.Day x8.Amount)) 1 rfl (Fz.le_trans l_11 (Fz.le_trans l_15 (Fz.le_trans l_39 l_46))) hb73 hp74 e76 Try.underlying63 (.int Try.underlying3) rfl rfl rfl (fun _ _ => rfl) e69 ?_
 refine .nil ?_
 exact .endX [0, 0, 0, 0] Try.results54 (.nil) rfl (Fz.le_trans l_11 (Fz.le_trans l_15 (Fz.le_trans l_39 l_46))) rfl
noncomputable def b_sort_Search_1 (f2 : (Int → Option Bool)) (s6 : Int × Int) : Option (Ctl (Int × Int) ((Int))) :=
 if (decide (s6.1 < s6.2)) then ((bindv (w64 ((shrK .u64 (IntKind.u64.wrap ((w64 (s6.1 + s6.2)))) 1))) fun h10 => (f2 h10).bind fun r_14 => (if (!r_14) then (bindv (w64 (h10 + 1)) fun i16 => some (i16, s6.2)) else (some (s6.1, h10)) : Option (Int × Int)).bind fun j18 => some (j18.1, j18.2) : Option (Int × Int)).bind fun j21 => some (.next (j21.1, j21.2))) else (some (.done s6.1))
noncomputable def m_sort_Search (n_1 : Int) (f2 : (Int → Option Bool)) : Option Int :=
 (loopM (b_sort_Search_1 f2) (0, n_1)).bind fun b24 => some b24
theorem c_sort_Search (F0 : Fz) (n_1 : Int) (f2 : (Int → Option Bool)) (p3 : FuncId) (k4 : List Value) (h5 : RepFn Try.prog F0 p3 k4 (fun x _ vs => vs = [(.int .i64 x)]) (fun r _ v => v = (.bool r)) f2) : CT0 Try.prog 51 [(.int .i64 n_1), (.func (.func p3) #[] k4.toArray)].toArray F0 (m_sort_Search n_1 f2) (fun r _ v => v = (.int .i64 r)) := by
 refine CT0.enter Try.func51 rfl Try.ntmps51 rfl fun r R => ?_
 unfold m_sort_Search
 refine .seq ?_
 refine .region ?_
 refine .assign rfl rfl ?_
 refine .nil ?_
 refine .code ?_
 refine .seq ?_
 refine .region ?_
 refine .move rfl rfl ?_
 refine .assign rfl rfl ?_
 refine .assign rfl rfl ?_
 refine .nil ?_
 refine .code ?_
 refine .seq ?_
 refine .block ?_
 refine .keep (.cons (k := 1) rfl (.cons (k := 5) rfl (.cons (k := 6) rfl (.nil _)))) ?_
 refine .loop (fun (s6 : Int × Int) a w => ∃ (F_7 : Fz), F0 ≤ F_7 ∧ Hd 26 [] [(1, (.func (.func p3) #[] k4.toArray)), (5, (.int .i64 s6.1)), (6, (.int .i64 s6.2))] F_7 [R] a w) (fun b24 e a w => e = .exit 0 ∧ ∃ (F_25 : Fz), F0 ≤ F_25 ∧ Hd 26 [] [(5, (.int .i64 b24))] F_25 [R] a w) ?_ ?_ ?_
 ·exact fun a w h => ⟨F0, (Fz.le_refl _), h.1.sub (.cons (k := 1) rfl (.cons (k := 5) rfl (.cons (k := 6) rfl (.nil _)))), h.2⟩
 ·intro s6 ctl
  refine GC.ex (fun a w ⟨F_7, l_8, hA⟩ => ⟨_, hA, ?_⟩)
  unfold b_sort_Search_1
  refine .seq ?_
  refine .seq ?_
  refine .region ?_
  refine .move rfl rfl ?_
  refine .move rfl rfl ?_
  refine .lss rfl rfl rfl ?_
  refine .nil ?_
  refine .code ?_
  refine .cond rfl (fun hb9 => ?_) (fun hb9 => ?_)
  ·skip
   refine .skip ?_
   refine .code ?_
   refine .keep (.cons (k := 1) rfl (.cons (k := 5) rfl (.cons (k := 6) rfl (.nil _)))) ?_
   refine GC.join0 (σ := Int × Int) (fun j21 a w => ∃ (F_22 : Fz), F_7 ≤ F_22 ∧ Hd 26 [] [(1, (.func (.func p3) #[] k4.toArray)), (5, (.int .i64 j21.1)), (6, (.int .i64 j21.2))] F_22 [R] a w) (fun sj => ?_) (fun j21 hs0 => GE.ex (fun a w ⟨F_22, l_23, hA⟩ => ⟨_, hA, ?_⟩))
   ·skip
    refine .block ?_
    refine .seq ?_
    refine .region ?_
    refine .move rfl rfl ?_
    refine .move rfl rfl ?_
    refine .add rfl rfl rfl ?_
    refine .convI rfl Try.underlying3 Try.underlying100 rfl ?_
    refine .shrC rfl (by decide) rfl rfl ?_
    refine .convI rfl Try.underlying100 Try.underlying3 rfl ?_
    refine .assignL rfl rfl (fun h10 e11 => ?_)
    refine .nil ?_
    refine .code ?_
    refine .seq ?_
    refine .region ?_
    refine .move rfl rfl ?_
    refine .move rfl rfl ?_
    refine .call0 rfl h5.1 rfl rfl rfl (h5.2 _ l_8 h10 [(.int .i64 h10)] rfl) ?_
    rintro r_14 F_12 _ - l_13 rfl
    refine .not rfl rfl ?_
    refine .nil ?_
    refine .code ?_
    refine .keep (.cons (k := 1) rfl (.cons (k := 5) rfl (.cons (k := 6) rfl (.cons (k := 7) rfl (.cons (k := 21) rfl (.nil _)))))) ?_
    refine GC.join0 (σ := Int × Int) (fun j18 a w => ∃ (F_19 : Fz), F_12 ≤ F_19 ∧ Hd 26 [] [(1, (.func (.func p3) #[] k4.toArray)), (5, (.int .i64 j18.1)), (6, (.int .i64 j18.2))] F_19 [R] a w) (fun sj => ?_) (fun j18 hs0 => GE.ex (fun a w ⟨F_19, l_20, hA⟩ => ⟨_, hA, ?_⟩))
    ·skip
     refine .cond rfl (fun hb15 => ?_) (fun hb15 => ?_)
     ·skip
      refine .region ?_
      refine .move rfl rfl ?_
      refine .add rfl rfl rfl ?_
      refine .assignL rfl rfl (fun i16 e17 => ?_)
      refine .nil ?_
      exact .nil fun e a w h => by cases e; exact ⟨rfl, ⟨F_12, (Fz.le_refl _), h.1.sub (.cons (k := 1) rfl (.cons (k := 5) rfl (.cons (k := 6) rfl (.nil _)))), h.2⟩⟩
     ·skip
      refine .region ?_
      refine .move rfl rfl ?_
      refine .assign rfl rfl ?_
      refine .nil ?_
      exact .nil fun e a w h => by cases e; exact ⟨rfl, ⟨F_12, (Fz.le_refl _), h.1.sub (.cons (k := 1) rfl (.cons (k := 5) rfl (.cons (k := 6) rfl (.nil _)))), h.2⟩⟩
    refine .block ?_
    exact .nil fun e a w h => by cases e; exact ⟨rfl, ⟨F_19, (Fz.le_trans l_13 l_20), h.1.sub (.cons (k := 1) rfl (.cons (k := 5) rfl (.cons (k := 6) rfl (.nil _)))), h.2⟩⟩
   exact .nil (LPost.norm fun a w h => ⟨F_22, (Fz.le_trans l_8 l_23), h.1.sub (.cons (k := 1) rfl (.cons (k := 5) rfl (.cons (k := 6) rfl (.nil _)))), h.2⟩)
  ·skip
   refine .exitOut rfl (LPost.exit fun a w h => ⟨rfl, F_7, l_8, h.1.sub (.cons (k := 5) rfl (.nil _)), h.2⟩)
 ·intro b24 hb0 hk e a w hD
  obtain ⟨rfl, F_25, l_26, hA⟩ := hD
  refine interp_exit rfl (GE.app ?_ hk a w hA)
  refine .code ?_
  refine .seq ?_
  refine .region ?_
  refine .move rfl rfl ?_
  refine .assign rfl rfl ?_
  refine .nil ?_
  refine .code ?_
  exact .ret0 Try.results51 (.tmp rfl (.nil)) (i := 0) rfl l_26 rfl
noncomputable def m_excise_duty_1 (i1 : Int) (c2 : ApiDutyRules) (c8 : Int) : Option Bool :=
 (idxL c2.Rates i1).bind fun x11 => some (decide (x11.From > c8))
theorem c_excise_duty_1 (F0 : Fz) (i1 : Int) (c2 : ApiDutyRules) (b3 : Nat) (p5 : Option Addr) (k6 : Nat) (hb4 : F0.mem b3 = some (.cells (cApiDutyRules c2 p5 k6).toArray 24)) (h7 : RepSl 2 (Ex cApiDutyRate) F0 p5 k6 c2.Rates) (c8 : Int) (b9 : Nat) (hb10 : F0.mem b9 = some (.cells [(.int .i64 c8)].toArray 3)) : CT0 Try.prog 52 [(.int .i64 i1), (.pointer (some ⟨b3, 0, none⟩)), (.pointer (some ⟨b9, 0, none⟩))].toArray F0 (m_excise_duty_1 i1 c2 c8) (fun r _ v => v = (.bool r)) := by
 refine CT0.enter Try.func52 rfl Try.ntmps52 rfl fun r R => ?_
 unfold m_excise_duty_1
 refine .seq ?_
 refine .region ?_
 refine .assign rfl rfl ?_
 refine .nil ?_
 refine .code ?_
 refine .seq ?_
 refine .keep (.cons (k := 0) rfl (.cons (k := 1) rfl (.cons (k := 2) rfl (.nil _)))) ?_
 refine .drawZ 9 mixedOK (by kernel_rfl) ?_
 refine .fieldAddr rfl Try.underlying24 rfl Try.sizeOf22 rfl ?_
 refine .loadF rfl Try.isAgg22 rfl hb4 rfl ?_
 refine .move rfl rfl ?_
 refine .idx rfl Try.underlying22 Try.sizeOf53 h7 rfl rfl (fun x11 b12 o13 T14 fr15 cs16 e17 hm18 hv19 => ?_)
 refine .fieldAddr rfl Try.underlying53 rfl Try.sizeOf3 rfl ?_
 refine .loadF rfl Try.isAgg3 rfl hm18 (cell_of_take (k := 0) hv19 rfl) ?_
 refine .loadF rfl Try.isAgg3 rfl hb10 rfl ?_
 refine .gtr rfl rfl rfl ?_
 refine .assign rfl rfl ?_
 refine .pend ?_
 refine .nil ?_
 refine .code ?_
 exact .ret0 Try.results52 (.tmp rfl (.nil)) (i := 0) rfl (Fz.le_refl _) rfl
noncomputable def m_excise_duty (r_1 : ApiDutyRules) (amount5 : Int) (day6 : Int) : Option Int :=
 (m_sort_Search (r_1.Rates.length : Int) (fun x => m_excise_duty_1 x r_1 day6)).bind fun r_18 => bindv (w64 (r_18 - 1)) fun i19 => (idxL r_1.Rates i19).bind fun x21 => some (w64 (Int.tdiv (w64 (amount5 * x21.Rate)) 1000))
theorem c_excise_duty (F0 : Fz) (r_1 : ApiDutyRules) (p2 : Option Addr) (k3 : Nat) (h4 : RepSl 2 (Ex cApiDutyRate) F0 p2 k3 r_1.Rates) (amount5 : Int) (day6 : Int) : CT0 Try.prog 35 [(eApiDutyRules r_1 p2 k3), (.int .i64 amount5), (.int .i64 day6)].toArray F0 (m_excise_duty r_1 amount5 day6) (fun r _ v => v = (.int .i64 r)) := by
 refine CT0.enter Try.func35 rfl Try.ntmps35 rfl fun r R => ?_
 unfold m_excise_duty
 refine .seq ?_
 refine .region ?_
 refine .boxF (cs := (cApiDutyRules r_1 p2 k3)) rfl rfl rfl (fun b7 F_8 l_9 hb10 => ?_)
 refine .boxF (cs := [(.int .i64 day6)]) rfl rfl rfl (fun b11 F_12 l_13 hb14 => ?_)
 refine .assign rfl rfl ?_
 refine .nil ?_
 refine .code ?_
 refine .seq ?_
 refine .region ?_
 refine .fieldAddr rfl Try.underlying24 rfl Try.sizeOf22 rfl ?_
 refine .loadF rfl Try.isAgg22 rfl (l_13.mem _ _ hb10) rfl ?_
 refine .lenS rfl rfl Try.underlying22 rfl ?_
 refine .makeFunc rfl rfl ?_
 have hf15 : RepFn Try.prog F_12 52 [(.pointer (some ⟨b7, 0, none⟩)), (.pointer (some ⟨b11, 0, none⟩))] (fun x _ vs => vs = [(.int .i64 x)]) (fun r _ v => v = (.bool r)) (fun x => m_excise_duty_1 x r_1 day6) := ⟨Try.call52, fun F' le' x vs hv => by obtain rfl := hv; exact c_excise_duty_1 F' x r_1 b7 p2 k3 (le'.mem _ _ (l_13.mem _ _ hb10)) ((h4.mono (Fz.le_trans l_9 l_13)).mono le') day6 b11 (le'.mem _ _ hb14)⟩
 refine .call0 rfl Try.call51 rfl rfl rfl (c_sort_Search _ (r_1.Rates.length : Int) (fun x => m_excise_duty_1 x r_1 day6) 52 ([(.pointer (some ⟨b7, 0, none⟩)), (.pointer (some ⟨b11, 0, none⟩))]) hf15) ?_
 rintro r_18 F_16 _ - l_17 rfl
 refine .sub rfl rfl rfl ?_
 refine .assignL rfl rfl (fun i19 e20 => ?_)
 refine .nil ?_
 refine .code ?_
 refine .seq ?_
 refine .region ?_
 refine .move rfl rfl ?_
 refine .fieldAddr rfl Try.underlying24 rfl Try.sizeOf22 rfl ?_
 refine .loadF rfl Try.isAgg22 rfl ((Fz.le_trans l_13 l_17).mem _ _ hb10) rfl ?_
 refine .move rfl rfl ?_
 refine .idx rfl Try.underlying22 Try.sizeOf53 (h4.mono (Fz.le_trans l_9 (Fz.le_trans l_13 l_17))) rfl rfl (fun x21 b22 o23 T24 fr25 cs26 e27 hm28 hv29 => ?_)
 refine .fieldAddr rfl Try.underlying53 rfl Try.sizeOf3 rfl ?_
 refine .loadF rfl Try.isAgg3 rfl hm28 (cell_of_take (k := 1) hv29 rfl) ?_
 refine .mul rfl rfl rfl ?_
 refine .quoC rfl (by decide) rfl rfl ?_
 refine .assign rfl rfl ?_
 refine .nil ?_
 refine .code ?_
 exact .ret0 Try.results35 (.tmp rfl (.nil)) (i := 0) rfl (Fz.le_trans l_9 (Fz.le_trans l_13 l_17)) rfl
noncomputable def m_excise_office_set (A1 : List ExciseOffice) (o2 : (Option Nat)) (bond6 : Int) (was7 : Int) (is_8 : Int) (allowed9 : Int) : Option (((List ExciseOffice))) :=
 (o2).bind fun i10 => (idxO 16 bond6).bind fun j15 => (A1[i10]?).bind fun x17 => bindv ({ x17 with book := { x17.book with Bonds := updN x17.book.Bonds j15 (w64 ((x17.book.Bonds j15) + is_8)) } }) fun x19 => bindv (List.set A1 i10 x19) fun A21 => bindv ({ x19 with book := { x19.book with Found := (w64 (x19.book.Found + (imax 0 (w64 (is_8 - was7))))) } }) fun x23 => bindv (List.set A21 i10 x23) fun A25 => bindv (imax 0 (w64 (was7 - is_8))) fun lost27 => bindv (imin lost27 allowed9) fun fine29 => bindv ({ x23 with book := { x23.book with Lost := (w64 (x23.book.Lost + fine29)) } }) fun x31 => bindv (List.set A25 i10 x31) fun A33 => bindv ({ x31 with book := { x31.book with Charged := (w64 (x31.book.Charged + (w64 (lost27 - fine29)))) } }) fun x35 => bindv (List.set A33 i10 x35) fun A37 => (m_excise_duty x35.rules (w64 (lost27 - fine29)) x35.day).bind fun r_46 => bindv ({ x35 with book := { x35.book with Due := (w64 (x35.book.Due + r_46)) } }) fun x89 => bindv (List.set A37 i10 x89) fun A91 => some A91
set_option maxHeartbeats 4000000 in
theorem c_excise_office_set (F0 : Fz) (Γ : Gam) (A1 : List ExciseOffice) (o2 : (Option Nat)) (p3 : Option Addr) (_k4 : Unit) (h5 : RepPtr Γ.g66 F0 p3 o2) (bond6 : Int) (was7 : Int) (is_8 : Int) (allowed9 : Int) : CTH Try.prog 68 [(.pointer p3), (.int .i64 bond6), (.int .i64 was7), (.int .i64 is_8), (.int .i64 allowed9)].toArray F0 [arena Γ.g66 (C66 Γ) F0 A1] (m_excise_office_set A1 o2 bond6 was7 is_8 allowed9) (fun (_r : (List ExciseOffice)) _ v => v = .tuple #[]) (fun (r : (List ExciseOffice)) F' => [arena Γ.g66 (C66 Γ) F' r]) := by
 refine CTH.enter Try.func68 rfl Try.ntmps68 rfl fun r R => ?_
 refine .norm (Sub.refl _) (rfl : _ = [arena Γ.g66 (C66 Γ) F0 A1, R]) ?_
 unfold m_excise_office_set
 refine .seq ?_
 refine .keep (.cons (k := 0) rfl (.cons (k := 1) rfl (.cons (k := 2) rfl (.cons (k := 3) rfl (.cons (k := 4) rfl (.nil _)))))) ?_
 refine .drawZ 13 mixedOK (by kernel_rfl) ?_
 refine .move rfl rfl ?_
 refine .move rfl rfl ?_
 refine .bind (fun i10 e11 => ?_)
 obtain ⟨b12, hb13, hp14⟩ := h5.at e11
 refine .nilCheckR hp14 rfl rfl ?_
 refine .fieldAddr rfl Try.underlying66 rfl Try.sizeOf31 rfl ?_
 refine .fieldAddr rfl Try.underlying31 rfl Try.sizeOf28 rfl ?_
 refine .bind (fun j15 hj16 => ?_)
 refine .indexAddrA rfl Try.underlying28 Try.sizeOf3 rfl rfl hj16 ?_
 refine .bind (fun x17 e18 => ?_)
 refine .loadR (Φ := fun v => v = (.int .i64 (x17.book.Bonds j15))) 0 rfl (Fz.le_refl _) hb13 e18 rfl Try.isAgg3 rfl (fun vs ⟨q0, q1, q2, q3, q4, q5, q6, q7, h, r0, r1, r2, r3⟩ => ⟨_, by subst h; exact (allLt16 (p := fun j15 => ((cExciseOffice x17 q0 q1 q2 q3 q4 q5 q6 q7))[0 + 4 + 0 + j15 * 1]? = some (.int .i64 (x17.book.Bonds j15))) rfl rfl rfl rfl rfl rfl rfl rfl rfl rfl rfl rfl rfl rfl rfl rfl _ (idxO_some hj16).2.2.2), rfl⟩) (fun v hv => ?_)
 subst hv
 refine .move rfl rfl ?_
 refine .add rfl rfl rfl ?_
 refine .nilCheckR hp14 rfl rfl ?_
 refine .fieldAddr rfl Try.underlying66 rfl Try.sizeOf31 rfl ?_
 refine .fieldAddr rfl Try.underlying31 rfl Try.sizeOf28 rfl ?_
 refine .indexAddrA rfl Try.underlying28 Try.sizeOf3 rfl rfl hj16 ?_
 refine .pend ?_
 refine .letv (fun x19 e20 => ?_)
 refine .letv (fun A21 e22 => ?_)
 refine .storeR (xs' := A21) (x' := { x17 with book := { x17.book with Bonds := updN x17.book.Bonds j15 (w64 ((x17.book.Bonds j15) + is_8)) } }) (us := [(.int .i64 (w64 ((x17.book.Bonds j15) + is_8)))]) 0 rfl (Fz.le_refl _) (Fz.le_refl _) (len66 Γ) Try.sizeOf3 hb13 e18 rfl rfl rfl rfl rfl (allLt16 (p := fun j15 => Nat.ble (0 + 4 + 0 + j15 * 1 + 1) 48 = true) rfl rfl rfl rfl rfl rfl rfl rfl rfl rfl rfl rfl rfl rfl rfl rfl _ (idxO_some hj16).2.2.2) (fun F' vs le ⟨q0, q1, q2, q3, q4, q5, q6, q7, h, r0, r1, r2, r3⟩ => ⟨q0, q1, q2, q3, q4, q5, q6, q7, by subst h; exact (allLt16 (p := fun j15 => setMany (cExciseOffice x17 q0 q1 q2 q3 q4 q5 q6 q7) (0 + 4 + 0 + j15 * 1) [(.int .i64 (w64 ((x17.book.Bonds j15) + is_8)))] = (cExciseOffice ({ x17 with book := { x17.book with Bonds := updN x17.book.Bonds j15 (w64 ((x17.book.Bonds j15) + is_8)) } }) q0 q1 q2 q3 q4 q5 q6 q7)) rfl rfl rfl rfl rfl rfl rfl rfl rfl rfl rfl rfl rfl rfl rfl rfl _ (idxO_some hj16).2.2.2), r0, r1, r2, r3⟩) (by rw [e22, e20] <;> rfl) ?_
 refine .nil ?_
 refine .code ?_
 refine .seq ?_
 refine .region ?_
 refine .move rfl rfl ?_
 refine .nilCheckR hp14 rfl rfl ?_
 refine .fieldAddr rfl Try.underlying66 rfl Try.sizeOf31 rfl ?_
 refine .fieldAddr rfl Try.underlying31 rfl Try.sizeOf3 rfl ?_
 refine .loadR (Φ := fun v => v = (.int .i64 x19.book.Found)) 0 rfl (Fz.le_refl _) hb13 (get_set e18 e22) rfl Try.isAgg3 rfl (fun vs ⟨q0, q1, q2, q3, q4, q5, q6, q7, h, r0, r1, r2, r3⟩ => ⟨_, by subst h; exact rfl, rfl⟩) (fun v hv => ?_)
 subst hv
 refine .move rfl rfl ?_
 refine .move rfl rfl ?_
 refine .sub rfl rfl rfl ?_
 refine .max2 rfl rfl rfl ?_
 refine .add rfl rfl rfl ?_
 refine .nilCheckR hp14 rfl rfl ?_
 refine .fieldAddr rfl Try.underlying66 rfl Try.sizeOf31 rfl ?_
 refine .fieldAddr rfl Try.underlying31 rfl Try.sizeOf3 rfl ?_
 refine .letv (fun x23 e24 => ?_)
 refine .letv (fun A25 e26 => ?_)
 refine .storeR (xs' := A25) (x' := { x19 with book := { x19.book with Found := (w64 (x19.book.Found + (imax 0 (w64 (is_8 - was7))))) } }) (us := [(.int .i64 (w64 (x19.book.Found + (imax 0 (w64 (is_8 - was7))))))]) 0 rfl (Fz.le_refl _) (Fz.le_refl _) (len66 Γ) Try.sizeOf3 hb13 (get_set e18 e22) rfl rfl rfl rfl rfl rfl (fun F' vs le ⟨q0, q1, q2, q3, q4, q5, q6, q7, h, r0, r1, r2, r3⟩ => ⟨q0, q1, q2, q3, q4, q5, q6, q7, by subst h; exact rfl, r0, r1, r2, r3⟩) (by rw [e26, e24] <;> rfl) ?_
 refine .nil ?_
 refine .keep (.cons (k := 0) rfl (.cons (k := 2) rfl (.cons (k := 3) rfl (.cons (k := 4) rfl (.nil _))))) ?_
 refine .code ?_
 refine .seq ?_
 refine .region ?_
 refine .move rfl rfl ?_
 refine .move rfl rfl ?_
 refine .sub rfl rfl rfl ?_
 refine .max2 rfl rfl rfl ?_
 refine .assignL rfl rfl (fun lost27 e28 => ?_)
 refine .nil ?_
 refine .code ?_
 refine .seq ?_
 refine .region ?_
 refine .move rfl rfl ?_
 refine .move rfl rfl ?_
 refine .min2 rfl rfl rfl ?_
 refine .assignL rfl rfl (fun fine29 e30 => ?_)
 refine .nil ?_
 refine .code ?_
 refine .seq ?_
 refine .region ?_
 refine .move rfl rfl ?_
 refine .nilCheckR hp14 rfl rfl ?_
 refine .fieldAddr rfl Try.underlying66 rfl Try.sizeOf31 rfl ?_
 refine .fieldAddr rfl Try.underlying31 rfl Try.sizeOf3 rfl ?_
 refine .loadR (Φ := fun v => v = (.int .i64 x23.book.Lost)) 0 rfl (Fz.le_refl _) hb13 (get_set (get_set e18 e22) e26) rfl Try.isAgg3 rfl (fun vs ⟨q0, q1, q2, q3, q4, q5, q6, q7, h, r0, r1, r2, r3⟩ => ⟨_, by subst h; exact rfl, rfl⟩) (fun v hv => ?_)
 subst hv
 refine .move rfl rfl ?_
 refine .add rfl rfl rfl ?_
 refine .nilCheckR hp14 rfl rfl ?_
 refine .fieldAddr rfl Try.underlying66 rfl Try.sizeOf31 rfl ?_
 refine .fieldAddr rfl Try.underlying31 rfl Try.sizeOf3 rfl ?_
 refine .letv (fun x31 e32 => ?_)
 refine .letv (fun A33 e34 => ?_)
 refine .storeR (xs' := A33) (x' := { x23 with book := { x23.book with Lost := (w64 (x23.book.Lost + fine29)) } }) (us := [(.int .i64 (w64 (x23.book.Lost + fine29)))]) 0 rfl (Fz.le_refl _) (Fz.le_refl _) (len66 Γ) Try.sizeOf3 hb13 (get_set (get_set e18 e22) e26) rfl rfl rfl rfl rfl rfl (fun F' vs le ⟨q0, q1, q2, q3, q4, q5, q6, q7, h, r0, r1, r2, r3⟩ => ⟨q0, q1, q2, q3, q4, q5, q6, q7, by subst h; exact rfl, r0, r1, r2, r3⟩) (by rw [e34, e32] <;> rfl) ?_
 refine .nil ?_
 refine .code ?_
 refine .seq ?_
 refine .region ?_
 refine .move rfl rfl ?_
 refine .nilCheckR hp14 rfl rfl ?_
 refine .fieldAddr rfl Try.underlying66 rfl Try.sizeOf31 rfl ?_
 refine .fieldAddr rfl Try.underlying31 rfl Try.sizeOf3 rfl ?_
 refine .loadR (Φ := fun v => v = (.int .i64 x31.book.Charged)) 0 rfl (Fz.le_refl _) hb13 (get_set (get_set (get_set e18 e22) e26) e34) rfl Try.isAgg3 rfl (fun vs ⟨q0, q1, q2, q3, q4, q5, q6, q7, h, r0, r1, r2, r3⟩ => ⟨_, by subst h; exact rfl, rfl⟩) (fun v hv => ?_)
 subst hv
 refine .move rfl rfl ?_
 refine .move rfl rfl ?_
 refine .sub rfl rfl rfl ?_
 refine .add rfl rfl rfl ?_
 refine .nilCheckR hp14 rfl rfl ?_
 refine .fieldAddr rfl Try.underlying66 rfl Try.sizeOf31 rfl ?_
 refine .fieldAddr rfl Try.underlying31 rfl Try.sizeOf3 rfl ?_
 refine .letv (fun x35 e36 => ?_)
 refine .letv (fun A37 e38 => ?_)
 refine .storeR (xs' := A37) (x' := { x31 with book := { x31.book with Charged := (w64 (x31.book.Charged + (w64 (lost27 - fine29)))) } }) (us := [(.int .i64 (w64 (x31.book.Charged + (w64 (lost27 - fine29)))))]) 0 rfl (Fz.le_refl _) (Fz.le_refl _) (len66 Γ) Try.sizeOf3 hb13 (get_set (get_set (get_set e18 e22) e26) e34) rfl rfl rfl rfl rfl rfl (fun F' vs le ⟨q0, q1, q2, q3, q4, q5, q6, q7, h, r0, r1, r2, r3⟩ => ⟨q0, q1, q2, q3, q4, q5, q6, q7, by subst h; exact rfl, r0, r1, r2, r3⟩) (by rw [e38, e36] <;> rfl) ?_
 refine .nil ?_
 refine .keep (.cons (k := 0) rfl (.cons (k := 10) rfl (.cons (k := 11) rfl (.nil _)))) ?_
 refine .code ?_
 refine .keep (.cons (k := 0) rfl (.cons (k := 10) rfl (.cons (k := 11) rfl (.nil _)))) ?_
 refine .bind (fun r_46 hx47 => ?_)
 refine .drawGD 17 0 (fun env39 => [((.pointer p3), fun _ => True), ((.pointer (some ⟨b12, 0, none⟩)), fun _ => True), ((.pointer (some ⟨b12, 0 + 4, none⟩)), fun _ => True), ((.pointer (some ⟨b12, 0 + 4 + 23, none⟩)), fun _ => True), ((.int .i64 x35.book.Due), fun _ => True), ((.pointer p3), fun _ => True), ((.pointer (some ⟨b12, 0, none⟩)), fun _ => True), ((.pointer (some ⟨b12, 0 + 0, none⟩)), fun _ => True), ((eApiDutyRules x35.rules (env39.a 80) (env39.n 80)), fun G => RepSl 2 (Ex cApiDutyRate) G (env39.a 80) (env39.n 80) x35.rules.Rates), ((.int .i64 lost27), fun _ => True), ((.int .i64 fine29), fun _ => True), ((.int .i64 (w64 (lost27 - fine29))), fun _ => True), ((.pointer p3), fun _ => True), ((.pointer (some ⟨b12, 0, none⟩)), fun _ => True), ((.pointer (some ⟨b12, 0 + 47, none⟩)), fun _ => True), ((.int .i64 x35.day), fun _ => True), ((.int .i64 r_46), fun _ => True)]) (fun L env39 => [arena Γ.g66 (C66 Γ) F0 A37, R]) mixedOK (by kernel_rfl) (deepN (k := 17) (n := 22) rfl (allLt22 (p := fun t => 17 ≤ t → ∀ j, j < t → ∃ s, depB _ s t j = true) (fun h => absurd h (by decide)) (fun h => absurd h (by decide)) (fun h => absurd h (by decide)) (fun h => absurd h (by decide)) (fun h => absurd h (by decide)) (fun h => absurd h (by decide)) (fun h => absurd h (by decide)) (fun h => absurd h (by decide)) (fun h => absurd h (by decide)) (fun h => absurd h (by decide)) (fun h => absurd h (by decide)) (fun h => absurd h (by decide)) (fun h => absurd h (by decide)) (fun h => absurd h (by decide)) (fun h => absurd h (by decide)) (fun h => absurd h (by decide)) (fun h => absurd h (by decide)) (fun _ => allLt17 (p := fun j => ∃ s, depB _ s 17 j = true) ⟨5, rfl⟩ ⟨4, rfl⟩ ⟨3, rfl⟩ ⟨2, rfl⟩ ⟨1, rfl⟩ ⟨5, rfl⟩ ⟨4, rfl⟩ ⟨3, rfl⟩ ⟨2, rfl⟩ ⟨3, rfl⟩ ⟨3, rfl⟩ ⟨2, rfl⟩ ⟨5, rfl⟩ ⟨4, rfl⟩ ⟨3, rfl⟩ ⟨2, rfl⟩ ⟨1, rfl⟩) (fun _ => allLt18 (p := fun j => ∃ s, depB _ s 18 j = true) ⟨1, rfl⟩ ⟨1, rfl⟩ ⟨1, rfl⟩ ⟨1, rfl⟩ ⟨1, rfl⟩ ⟨1, rfl⟩ ⟨1, rfl⟩ ⟨1, rfl⟩ ⟨1, rfl⟩ ⟨1, rfl⟩ ⟨1, rfl⟩ ⟨1, rfl⟩ ⟨1, rfl⟩ ⟨1, rfl⟩ ⟨1, rfl⟩ ⟨1, rfl⟩ ⟨1, rfl⟩ ⟨1, rfl⟩) (fun _ => allLt19 (p := fun j => ∃ s, depB _ s 19 j = true) ⟨1, rfl⟩ ⟨1, rfl⟩ ⟨1, rfl⟩ ⟨1, rfl⟩ ⟨1, rfl⟩ ⟨1, rfl⟩ ⟨1, rfl⟩ ⟨1, rfl⟩ ⟨1, rfl⟩ ⟨1, rfl⟩ ⟨1, rfl⟩ ⟨1, rfl⟩ ⟨1, rfl⟩ ⟨1, rfl⟩ ⟨1, rfl⟩ ⟨1, rfl⟩ ⟨1, rfl⟩ ⟨1, rfl⟩ ⟨1, rfl⟩) (fun _ => allLt20 (p := fun j => ∃ s, depB _ s 20 j = true) ⟨1, rfl⟩ ⟨1, rfl⟩ ⟨1, rfl⟩ ⟨1, rfl⟩ ⟨1, rfl⟩ ⟨1, rfl⟩ ⟨1, rfl⟩ ⟨1, rfl⟩ ⟨1, rfl⟩ ⟨1, rfl⟩ ⟨1, rfl⟩ ⟨1, rfl⟩ ⟨1, rfl⟩ ⟨1, rfl⟩ ⟨1, rfl⟩ ⟨1, rfl⟩ ⟨1, rfl⟩ ⟨1, rfl⟩ ⟨2, rfl⟩ ⟨1, rfl⟩) (fun _ => allLt21 (p := fun j => ∃ s, depB _ s 21 j = true) ⟨1, rfl⟩ ⟨1, rfl⟩ ⟨1, rfl⟩ ⟨1, rfl⟩ ⟨1, rfl⟩ ⟨1, rfl⟩ ⟨1, rfl⟩ ⟨1, rfl⟩ ⟨1, rfl⟩ ⟨1, rfl⟩ ⟨1, rfl⟩ ⟨1, rfl⟩ ⟨1, rfl⟩ ⟨1, rfl⟩ ⟨1, rfl⟩ ⟨1, rfl⟩ ⟨1, rfl⟩ ⟨1, rfl⟩ ⟨3, rfl⟩ ⟨2, rfl⟩ ⟨1, rfl⟩))) rfl (fun _ => rfl) (by kernel_rfl) (fun _ => rfl) ?_ (fun env39 F_48 l_49 hphi => ?_)
 ·skip
  refine .cons (fun L env39 F_50 l_51 hL hdn hup hphi => ⟨[(0, (.pointer p3))], fun S hS hV => (.cons (hS _ _ rfl) (Sub.nil _)), ?_⟩) ?_
  ·skip
   refine .move rfl rfl ?_
   exact .finV rfl rfl (Fz.le_refl _)
  refine .cons (fun L env39 F_52 l_53 hL hdn hup hphi => ⟨[(67, (.pointer p3))], fun S hS hV => (.cons (hV 0 67 _ (hdn 1 0 rfl) rfl rfl) (Sub.nil _)), ?_⟩) ?_
  ·skip
   refine .nilCheckR hp14 rfl rfl ?_
   exact .finV rfl rfl (Fz.le_refl _)
  refine .cons (fun L env39 F_54 l_55 hL hdn hup hphi => ⟨[(68, (.pointer (some ⟨b12, 0, none⟩)))], fun S hS hV => (.cons (hV 1 68 _ (hdn 1 1 rfl) rfl rfl) (Sub.nil _)), ?_⟩) ?_
  ·skip
   refine .fieldAddr rfl Try.underlying66 rfl Try.sizeOf31 rfl ?_
   exact .finV rfl rfl (Fz.le_refl _)
  refine .cons (fun L env39 F_56 l_57 hL hdn hup hphi => ⟨[(69, (.pointer (some ⟨b12, 0 + 4, none⟩)))], fun S hS hV => (.cons (hV 2 69 _ (hdn 1 2 rfl) rfl rfl) (Sub.nil _)), ?_⟩) ?_
  ·skip
   refine .fieldAddr rfl Try.underlying31 rfl Try.sizeOf3 rfl ?_
   exact .finV rfl rfl (Fz.le_refl _)
  refine .cons (fun L env39 F_58 l_59 hL hdn hup hphi => ⟨[(70, (.pointer (some ⟨b12, 0 + 4 + 23, none⟩)))], fun S hS hV => (.cons (hV 3 70 _ (hdn 1 3 rfl) rfl rfl) (Sub.nil _)), ?_⟩) ?_
  ·skip
   refine .loadR (Φ := fun v => v = (.int .i64 x35.book.Due)) 0 rfl l_59 (hb13.mono l_59) (get_set (get_set (get_set (get_set e18 e22) e26) e34) e38) rfl Try.isAgg3 rfl (fun vs ⟨q0, q1, q2, q3, q4, q5, q6, q7, h, r0, r1, r2, r3⟩ => ⟨_, by subst h; exact rfl, rfl⟩) (fun v hv => ?_)
   subst hv
   exact .finV rfl rfl (Fz.le_refl _)
  refine .cons (fun L env39 F_60 l_61 hL hdn hup hphi => ⟨[(0, (.pointer p3))], fun S hS hV => (.cons (hS _ _ rfl) (Sub.nil _)), ?_⟩) ?_
  ·skip
   refine .move rfl rfl ?_
   exact .finV rfl rfl (Fz.le_refl _)
  refine .cons (fun L env39 F_62 l_63 hL hdn hup hphi => ⟨[(72, (.pointer p3))], fun S hS hV => (.cons (hV 5 72 _ (hdn 1 5 rfl) rfl rfl) (Sub.nil _)), ?_⟩) ?_
  ·skip
   refine .nilCheckR hp14 rfl rfl ?_
   exact .finV rfl rfl (Fz.le_refl _)
  refine .cons (fun L env39 F_64 l_65 hL hdn hup hphi => ⟨[(73, (.pointer (some ⟨b12, 0, none⟩)))], fun S hS hV => (.cons (hV 6 73 _ (hdn 1 6 rfl) rfl rfl) (Sub.nil _)), ?_⟩) ?_
  ·skip
   refine .fieldAddr rfl Try.underlying66 rfl Try.sizeOf24 rfl ?_
   exact .finV rfl rfl (Fz.le_refl _)
  refine .cons (fun L env39 F_66 l_67 hL hdn hup hphi => ⟨[(74, (.pointer (some ⟨b12, 0 + 0, none⟩)))], fun S hS hV => (.cons (hV 7 74 _ (hdn 1 7 rfl) rfl rfl) (Sub.nil _)), ?_⟩) ?_
  ·skip
   refine .loadRA (Φ := fun us => ∃ (p68 : Option Addr) (k69 : Nat), us = (cApiDutyRules x35.rules p68 k69) ∧ RepSl 2 (Ex cApiDutyRate) F_66 p68 k69 x35.rules.Rates) 0 rfl l_67 (hb13.mono l_67) (get_set (get_set (get_set (get_set e18 e22) e26) e34) e38) rfl Try.isAgg24 Try.sizeOf24 rfl (fun vs ⟨q0, q1, q2, q3, q4, q5, q6, q7, h, r0, r1, r2, r3⟩ => ⟨_, by subst h; rfl, rfl, q0, q1, rfl, r0⟩) (fun us hv => ?_)
   obtain ⟨p68, k69, rfl, h70⟩ := hv
   exact .finQ ({ env39 with a := (updN env39.a 80 p68), n := (updN env39.n 80 k69), c := env39.c, o := env39.o }) [true, true, true, true, true, true, true, true, false, true, true, true, true, true, true, true, false] rfl (by kernel_rfl) rfl rfl (Fz.le_refl _) (fun _ le => h70.mono le) (cons_eq rfl (cons_eq rfl rfl))
  refine .cons (fun L env39 F_71 l_72 hL hdn hup hphi => ⟨[(10, (.int .i64 lost27))], fun S hS hV => (.cons (hS _ _ rfl) (Sub.nil _)), ?_⟩) ?_
  ·skip
   refine .move rfl rfl ?_
   exact .finV rfl rfl (Fz.le_refl _)
  refine .cons (fun L env39 F_73 l_74 hL hdn hup hphi => ⟨[(11, (.int .i64 fine29))], fun S hS hV => (.cons (hS _ _ rfl) (Sub.nil _)), ?_⟩) ?_
  ·skip
   refine .move rfl rfl ?_
   exact .finV rfl rfl (Fz.le_refl _)
  refine .cons (fun L env39 F_75 l_76 hL hdn hup hphi => ⟨[(76, (.int .i64 lost27)), (77, (.int .i64 fine29))], fun S hS hV => (.cons (hV 9 76 _ (hdn 1 9 rfl) rfl rfl) (.cons (hV 10 77 _ (hdn 1 10 rfl) rfl rfl) (Sub.nil _))), ?_⟩) ?_
  ·skip
   refine .sub rfl rfl rfl ?_
   exact .finV rfl rfl (Fz.le_refl _)
  refine .cons (fun L env39 F_77 l_78 hL hdn hup hphi => ⟨[(0, (.pointer p3))], fun S hS hV => (.cons (hS _ _ rfl) (Sub.nil _)), ?_⟩) ?_
  ·skip
   refine .move rfl rfl ?_
   exact .finV rfl rfl (Fz.le_refl _)
  refine .cons (fun L env39 F_79 l_80 hL hdn hup hphi => ⟨[(79, (.pointer p3))], fun S hS hV => (.cons (hV 12 79 _ (hdn 1 12 rfl) rfl rfl) (Sub.nil _)), ?_⟩) ?_
  ·skip
   refine .nilCheckR hp14 rfl rfl ?_
   exact .finV rfl rfl (Fz.le_refl _)
  refine .cons (fun L env39 F_81 l_82 hL hdn hup hphi => ⟨[(80, (.pointer (some ⟨b12, 0, none⟩)))], fun S hS hV => (.cons (hV 13 80 _ (hdn 1 13 rfl) rfl rfl) (Sub.nil _)), ?_⟩) ?_
  ·skip
   refine .fieldAddr rfl Try.underlying66 rfl Try.sizeOf3 rfl ?_
   exact .finV rfl rfl (Fz.le_refl _)
  refine .cons (fun L env39 F_83 l_84 hL hdn hup hphi => ⟨[(81, (.pointer (some ⟨b12, 0 + 47, none⟩)))], fun S hS hV => (.cons (hV 14 81 _ (hdn 1 14 rfl) rfl rfl) (Sub.nil _)), ?_⟩) ?_
  ·skip
   refine .loadR (Φ := fun v => v = (.int .i64 x35.day)) 0 rfl l_84 (hb13.mono l_84) (get_set (get_set (get_set (get_set e18 e22) e26) e34) e38) rfl Try.isAgg3 rfl (fun vs ⟨q0, q1, q2, q3, q4, q5, q6, q7, h, r0, r1, r2, r3⟩ => ⟨_, by subst h; exact rfl, rfl⟩) (fun v hv => ?_)
   subst hv
   exact .finV rfl rfl (Fz.le_refl _)
  refine .cons (fun L env39 F_85 l_86 hL hdn hup hphi => ⟨[(75, (eApiDutyRules x35.rules (env39.a 80) (env39.n 80))), (78, (.int .i64 (w64 (lost27 - fine29)))), (82, (.int .i64 x35.day))], fun S hS hV => (.cons (hV 8 75 _ (hdn 1 8 rfl) rfl rfl) (.cons (hV 11 78 _ (hdn 1 11 rfl) rfl rfl) (.cons (hV 15 82 _ (hdn 1 15 rfl) rfl rfl) (Sub.nil _)))), ?_⟩) ?_
  ·skip
   have h43 := hphi 8 _ (hdn 1 8 rfl) rfl _ (Fz.le_refl _)
   refine .callK hx47 rfl Try.call35 rfl rfl rfl (c_excise_duty _ x35.rules (env39.a 80) (env39.n 80) h43 (w64 (lost27 - fine29)) x35.day) ?_
   rintro F_87 _ l_88 rfl
   exact .finV rfl rfl l_88
  exact .nil
 have h43 := hphi 8 _ rfl
 refine .norm (S' := [(0, (.pointer p3)), (10, (.int .i64 lost27)), (11, (.int .i64 fine29)), (67, (.pointer p3)), (68, (.pointer (some ⟨b12, 0, none⟩))), (69, (.pointer (some ⟨b12, 0 + 4, none⟩))), (70, (.pointer (some ⟨b12, 0 + 4 + 23, none⟩))), (71, (.int .i64 x35.book.Due)), (72, (.pointer p3)), (73, (.pointer (some ⟨b12, 0, none⟩))), (74, (.pointer (some ⟨b12, 0 + 0, none⟩))), (75, (eApiDutyRules x35.rules (env39.a 80) (env39.n 80))), (76, (.int .i64 lost27)), (77, (.int .i64 fine29)), (78, (.int .i64 (w64 (lost27 - fine29)))), (79, (.pointer p3)), (80, (.pointer (some ⟨b12, 0, none⟩))), (81, (.pointer (some ⟨b12, 0 + 47, none⟩))), (82, (.int .i64 x35.day)), (83, (.int .i64 r_46))]) (.cons (k := 0) rfl (.cons (k := 10) rfl (.cons (k := 11) rfl (.cons (k := 67) rfl (.cons (k := 68) rfl (.cons (k := 69) rfl (.cons (k := 70) rfl (.cons (k := 71) rfl (.cons (k := 72) rfl (.cons (k := 73) rfl (.cons (k := 74) rfl (.cons (k := 75) rfl (.cons (k := 76) rfl (.cons (k := 77) rfl (.cons (k := 78) rfl (.cons (k := 79) rfl (.cons (k := 80) rfl (.cons (k := 81) rfl (.cons (k := 82) rfl (.cons (k := 83) rfl (.nil _))))))))))))))))))))) (rfl : _ = [arena Γ.g66 (C66 Γ) F0 A37, R]) ?_
 refine .add rfl rfl rfl ?_
 refine .nilCheckR hp14 rfl rfl ?_
 refine .fieldAddr rfl Try.underlying66 rfl Try.sizeOf31 rfl ?_
 refine .fieldAddr rfl Try.underlying31 rfl Try.sizeOf3 rfl ?_
 refine .letv (fun x89 e90 => ?_)
 refine .letv (fun A91 e92 => ?_)
 refine .storeR (xs' := A91) (x' := { x35 with book := { x35.book with Due := (w64 (x35.book.Due + r_46)) } }) (us := [(.int .i64 (w64 (x35.book.Due + r_46)))]) 0 rfl l_49 (Fz.le_refl _) (len66 Γ) Try.sizeOf3 (hb13.mono l_49) (get_set (get_set (get_set (get_set e18 e22) e26) e34) e38) rfl rfl rfl rfl rfl rfl (fun F' vs le ⟨q0, q1, q2, q3, q4, q5, q6, q7, h, r0, r1, r2, r3⟩ => ⟨q0, q1, q2, q3, q4, q5, q6, q7, by subst h; exact rfl, r0, r1, r2, r3⟩) (by rw [e92, e90] <;> rfl) ?_
 refine .nil ?_
 exact .endH [0, 0] Try.results68 (.nil) rfl l_49 rfl
noncomputable def m_excise_office_receive (A1 : List ExciseOffice) (A2 : List (List (Int × ApiParcel))) (A3 : List (List (Int × Bool))) (o4 : (Option Nat)) (x8 : ApiDutyEvent) : Option (Out ExciseMisfit ((List ExciseOffice) × (List (List (Int × ApiParcel))) × (List (List (Int × Bool))))) :=
 (o4).bind fun i14 => (A1[i14]?).bind fun x19 => (x19.moving).bind fun i25 => (A2[i25]?).bind fun x27 => bindv ((mapGet x27 x8.Id).isSome) fun is_63 => bindX (m_excise_need is_63 4) (fun q71 => some (.pan q71)) fun _r_65 => bindX (m_excise_need ((((mapGet x27 x8.Id).getD (ApiParcel.mk 0 0 0 0 0)).To) == x8.Bond) 11) (fun q78 => some (.pan q78)) fun _r_72 => bindX (m_excise_office_room A1 o4 x8) (fun q85 => some (.pan q85)) fun _r_79 => (o4).bind fun i86 => (A1[i86]?).bind fun x91 => (x91.moving).bind fun i98 => (A2[i98]?).bind fun x103 => bindv (List.set A2 i98 (mapDel x103 x8.Id)) fun m_96 => (m_excise_office_set A1 o4 x8.Bond (((mapGet x27 x8.Id).getD (ApiParcel.mk 0 0 0 0 0)).Amount) x8.Amount (w64 (Int.tdiv (w64 ((((mapGet x27 x8.Id).getD (ApiParcel.mk 0 0 0 0 0)).Amount) * x91.rules.Loss)) 10000))).bind fun r_105 => some (.ok (r_105, m_96, A3))
set_option maxHeartbeats 4000000 in
theorem c_excise_office_receive (F0 : Fz) (Γ : Gam) (A1 : List ExciseOffice) (A2 : List (List (Int × ApiParcel))) (A3 : List (List (Int × Bool))) (o4 : (Option Nat)) (p5 : Option Addr) (k6 : Unit) (h7 : RepPtr Γ.g66 F0 p5 o4) (x8 : ApiDutyEvent) : CTX Try.prog penc 55 [(.pointer p5), (eApiDutyEvent x8)].toArray F0 [arena Γ.g66 (C66 Γ) F0 A1, arena Γ.g63 (C63 Γ) F0 A2, arena Γ.g64 (C64 Γ) F0 A3] (m_excise_office_receive A1 A2 A3 o4 x8) (fun (_r : (List ExciseOffice) × (List (List (Int × ApiParcel))) × (List (List (Int × Bool)))) _ v => v = .tuple #[]) (fun (r : (List ExciseOffice) × (List (List (Int × ApiParcel))) × (List (List (Int × Bool)))) F' _ => [arena Γ.g66 (C66 Γ) F' r.1, arena Γ.g63 (C63 Γ) F' r.2.1, arena Γ.g64 (C64 Γ) F' r.2.2]) := by
 refine CTX.enter Try.func55 rfl Try.ntmps55 rfl fun r R => ?_
 refine .norm (Sub.refl _) (rfl : _ = [arena Γ.g66 (C66 Γ) F0 A1, arena Γ.g63 (C63 Γ) F0 A2, arena Γ.g64 (C64 Γ) F0 A3, R]) ?_
 unfold m_excise_office_receive
 refine .seq ?_
 refine .region ?_
 refine .boxF (cs := (cApiDutyEvent x8)) rfl rfl rfl (fun b9 F_10 l_11 hb12 => ?_)
 refine .nil ?_
 refine .code ?_
 refine .seq ?_
 refine .keep (.cons (k := 0) rfl (.cons (k := 3) rfl (.nil _))) ?_
 refine .bind (fun i14 e15 => ?_)
 obtain ⟨b16, hb17, hp18⟩ := (h7.mono l_11).at e15
 refine .bind (fun x19 e20 => ?_)
 refine .bind (fun i25 e26 => ?_)
 refine .bind (fun x27 e28 => ?_)
 refine .drawG 12 1 (fun env13 => [((.pointer p5), fun _ => True), ((.pointer (some ⟨b16, 0, none⟩)), fun _ => True), ((.pointer (some ⟨b16, 0 + 29, none⟩)), fun _ => True), ((.map (env13.o 30)), fun G => RepRef Γ.g63 G (env13.o 30) x19.moving), ((.pointer (some ⟨b9, 0 + 4, none⟩)), fun _ => True), ((.int .i64 x8.Id), fun _ => True), ((.tuple #[(eApiParcel ((mapGet x27 x8.Id).getD (ApiParcel.mk 0 0 0 0 0))), (.bool ((mapGet x27 x8.Id).isSome))]), fun _ => True), ((.tuple #[(eApiParcel ((mapGet x27 x8.Id).getD (ApiParcel.mk 0 0 0 0 0))), (.bool ((mapGet x27 x8.Id).isSome))]), fun _ => True), ((eApiParcel ((mapGet x27 x8.Id).getD (ApiParcel.mk 0 0 0 0 0))), fun _ => True), ((.bool ((mapGet x27 x8.Id).isSome)), fun _ => True), ((.pointer (some ⟨(env13.n 100), 0, none⟩)), fun _ => True), (undef, fun _ => True)]) (fun L env13 => [arena Γ.g66 (C66 Γ) F0 A1, arena Γ.g63 (C63 Γ) F0 A2, arena Γ.g64 (C64 Γ) F0 A3, R, (bif L 11 then (pt (env13.n 100) (.cells (cApiParcel ((mapGet x27 x8.Id).getD (ApiParcel.mk 0 0 0 0 0))).toArray 49)) else (bif L 10 then (pt (env13.n 100) (.cells (cApiParcel (ApiParcel.mk 0 0 0 0 0)).toArray 49)) else emp))]) mixedOK (by kernel_rfl) (by kernel_rfl) rfl (fun _ => rfl) (by kernel_rfl) (fun _ => rfl) ?_ (fun env13 F_30 l_31 hphi => ?_)
 ·skip
  refine .cons (fun L env13 F_32 l_33 hL hdn hup hphi => ⟨[(0, (.pointer p5))], fun S hS hV => (.cons (hS _ _ rfl) (Sub.nil _)), ?_⟩) ?_
  ·skip
   refine .move rfl rfl ?_
   exact .finV rfl rfl (Fz.le_refl _)
  refine .cons (fun L env13 F_34 l_35 hL hdn hup hphi => ⟨[(7, (.pointer p5))], fun S hS hV => (.cons (hV 0 7 _ (hdn 1 0 rfl) rfl rfl) (Sub.nil _)), ?_⟩) ?_
  ·skip
   refine .nilCheckR hp18 rfl rfl ?_
   exact .finV rfl rfl (Fz.le_refl _)
  refine .cons (fun L env13 F_36 l_37 hL hdn hup hphi => ⟨[(8, (.pointer (some ⟨b16, 0, none⟩)))], fun S hS hV => (.cons (hV 1 8 _ (hdn 1 1 rfl) rfl rfl) (Sub.nil _)), ?_⟩) ?_
  ·skip
   refine .fieldAddr rfl Try.underlying66 rfl Try.sizeOf63 rfl ?_
   exact .finV rfl rfl (Fz.le_refl _)
  refine .cons (fun L env13 F_38 l_39 hL hdn hup hphi => ⟨[(9, (.pointer (some ⟨b16, 0 + 29, none⟩)))], fun S hS hV => (.cons (hV 2 9 _ (hdn 1 2 rfl) rfl rfl) (Sub.nil _)), ?_⟩) ?_
  ·skip
   refine .loadR (Φ := fun v => ∃ (p40 : Option Nat) (k41 : Unit), v = (.map p40) ∧ RepRef Γ.g63 F_38 p40 x19.moving) 0 rfl (Fz.le_trans l_11 l_39) (hb17.mono l_39) e20 rfl Try.isAgg63 rfl (fun vs ⟨q0, q1, q2, q3, q4, q5, q6, q7, h, r0, r1, r2, r3⟩ => ⟨_, by subst h; exact rfl, q4, q5, rfl, r2⟩) (fun v hv => ?_)
   obtain ⟨p40, k41, rfl, h42⟩ := hv
   exact .finQ ({ env13 with a := env13.a, n := env13.n, c := env13.c, o := (updN env13.o 30 p40) }) [true, true, true, false, true, true, false, false, false, false, true, false] rfl (by kernel_rfl) rfl rfl (Fz.le_refl _) (fun _ le => h42.mono le) (cons_eq rfl (cons_eq rfl (cons_eq rfl (cons_eq rfl (cons_eq ((condF (b := updB L 3 11) (hup 1 11 rfl)).trans (condF (hup 1 11 rfl)).symm) rfl)))))
  refine .cons (fun L env13 F_43 l_44 hL hdn hup hphi => ⟨[(3, (.pointer (some ⟨b9, 0, none⟩)))], fun S hS hV => (.cons (hS _ _ rfl) (Sub.nil _)), ?_⟩) ?_
  ·skip
   refine .fieldAddr rfl Try.underlying47 rfl Try.sizeOf3 rfl ?_
   exact .finV rfl rfl (Fz.le_refl _)
  refine .cons (fun L env13 F_45 l_46 hL hdn hup hphi => ⟨[(11, (.pointer (some ⟨b9, 0 + 4, none⟩)))], fun S hS hV => (.cons (hV 4 11 _ (hdn 1 4 rfl) rfl rfl) (Sub.nil _)), ?_⟩) ?_
  ·skip
   refine .loadF rfl Try.isAgg3 rfl (l_46.mem _ _ hb12) rfl ?_
   exact .finV rfl rfl (Fz.le_refl _)
  refine .cons (fun L env13 F_47 l_48 hL hdn hup hphi => ⟨[(10, (.map (env13.o 30))), (12, (.int .i64 x8.Id))], fun S hS hV => (.cons (hV 3 10 _ (hdn 1 3 rfl) rfl rfl) (.cons (hV 5 12 _ (hdn 1 5 rfl) rfl rfl) (Sub.nil _))), ?_⟩) ?_
  ·skip
   have h24 := hphi 3 _ (hdn 1 3 rfl) rfl _ (Fz.le_refl _)
   obtain ⟨b49, hb50, hp51⟩ := h24.at e26
   refine .lookupR2 (key := x8.Id) (z := (ApiParcel.mk 0 0 0 0 0)) 1 rfl (Fz.le_trans l_11 l_48) hb50 hp51 e28 rfl Try.underlying63 (.int Try.underlying3) Try.zeroValue49 rfl rfl rfl ?_
   intro v hv
   obtain rfl := hv
   exact .finV rfl rfl (Fz.le_refl _)
  refine .cons (fun L env13 F_52 l_53 hL hdn hup hphi => ⟨[(13, (.tuple #[(eApiParcel ((mapGet x27 x8.Id).getD (ApiParcel.mk 0 0 0 0 0))), (.bool ((mapGet x27 x8.Id).isSome))]))], fun S hS hV => (.cons (hV 6 13 _ (hdn 1 6 rfl) rfl rfl) (Sub.nil _)), ?_⟩) ?_
  ·skip
   have h24 := hphi 3 _ (hdn 2 3 rfl) rfl _ (Fz.le_refl _)
   refine .move rfl rfl ?_
   exact .finV rfl rfl (Fz.le_refl _)
  refine .cons (fun L env13 F_54 l_55 hL hdn hup hphi => ⟨[(6, (.tuple #[(eApiParcel ((mapGet x27 x8.Id).getD (ApiParcel.mk 0 0 0 0 0))), (.bool ((mapGet x27 x8.Id).isSome))]))], fun S hS hV => (.cons (hV 7 6 _ (hdn 1 7 rfl) rfl rfl) (Sub.nil _)), ?_⟩) ?_
  ·skip
   have h24 := hphi 3 _ (hdn 3 3 rfl) rfl _ (Fz.le_refl _)
   refine .extract rfl rfl rfl ?_
   exact .finV rfl rfl (Fz.le_refl _)
  refine .cons (fun L env13 F_56 l_57 hL hdn hup hphi => ⟨[(6, (.tuple #[(eApiParcel ((mapGet x27 x8.Id).getD (ApiParcel.mk 0 0 0 0 0))), (.bool ((mapGet x27 x8.Id).isSome))]))], fun S hS hV => (.cons (hV 7 6 _ (hdn 1 7 rfl) rfl rfl) (Sub.nil _)), ?_⟩) ?_
  ·skip
   have h24 := hphi 3 _ (hdn 3 3 rfl) rfl _ (Fz.le_refl _)
   refine .extract rfl rfl rfl ?_
   exact .finV rfl rfl (Fz.le_refl _)
  refine .cons (fun L env13 F_58 l_59 hL hdn hup hphi => ⟨[], fun S hS hV => (Sub.nil _), ?_⟩) ?_
  ·skip
   refine .alloc (cs := (cApiParcel (ApiParcel.mk 0 0 0 0 0))) rfl Try.zeroValue49 rfl (fun b60 => ?_)
   exact .finG ({ env13 with n := updN env13.n 100 b60 }) [true, true, true, true, true, true, true, true, true, true, false, false] rfl (by kernel_rfl) rfl rfl (Fz.le_refl _) (fun _ _ => trivial) (fun _ h => SH.placeC 4 (congrArg some ((condF (hup 1 11 rfl)).trans (condF hL))) ((condF (b := updB L 10 11) (hup 1 11 rfl)).trans (condT rfl)) h)
  refine .cons (fun L env13 F_61 l_62 hL hdn hup hphi => ⟨[(4, (.pointer (some ⟨(env13.n 100), 0, none⟩))), (14, (eApiParcel ((mapGet x27 x8.Id).getD (ApiParcel.mk 0 0 0 0 0))))], fun S hS hV => (.cons (hV 10 4 _ (hdn 1 10 rfl) rfl rfl) (.cons (hV 8 14 _ (hdn 1 8 rfl) rfl rfl) (Sub.nil _))), ?_⟩) ?_
  ·skip
   have h24 := hphi 3 _ (hdn 1 3 rfl) rfl _ (Fz.le_refl _)
   refine .store (cs' := (cApiParcel ((mapGet x27 x8.Id).getD (ApiParcel.mk 0 0 0 0 0)))) Try.sizeOf49 rfl rfl rfl rfl (i := 4) (congrArg some ((condF hL).trans (condT (hdn 1 10 rfl)))) (Nat.le_of_ble_eq_true rfl) rfl (setMany_all (by rfl)) ?_
   exact .finS rfl (Fz.le_refl _) (setC 4 (condT rfl))
  exact .nil
 have h24 := hphi 3 _ rfl
 refine .norm (S' := [(0, (.pointer p5)), (3, (.pointer (some ⟨b9, 0, none⟩))), (4, (.pointer (some ⟨(env13.n 100), 0, none⟩))), (6, (.tuple #[(eApiParcel ((mapGet x27 x8.Id).getD (ApiParcel.mk 0 0 0 0 0))), (.bool ((mapGet x27 x8.Id).isSome))])), (7, (.pointer p5)), (8, (.pointer (some ⟨b16, 0, none⟩))), (9, (.pointer (some ⟨b16, 0 + 29, none⟩))), (10, (.map (env13.o 30))), (11, (.pointer (some ⟨b9, 0 + 4, none⟩))), (12, (.int .i64 x8.Id)), (13, (.tuple #[(eApiParcel ((mapGet x27 x8.Id).getD (ApiParcel.mk 0 0 0 0 0))), (.bool ((mapGet x27 x8.Id).isSome))])), (14, (eApiParcel ((mapGet x27 x8.Id).getD (ApiParcel.mk 0 0 0 0 0)))), (15, (.bool ((mapGet x27 x8.Id).isSome)))]) (.cons (k := 0) rfl (.cons (k := 3) rfl (.cons (k := 4) rfl (.cons (k := 6) rfl (.cons (k := 7) rfl (.cons (k := 8) rfl (.cons (k := 9) rfl (.cons (k := 10) rfl (.cons (k := 11) rfl (.cons (k := 12) rfl (.cons (k := 13) rfl (.cons (k := 14) rfl (.cons (k := 15) rfl (.nil _)))))))))))))) (rfl : _ = [arena Γ.g66 (C66 Γ) F0 A1, arena Γ.g63 (C63 Γ) F0 A2, arena Γ.g64 (C64 Γ) F0 A3, R, pt (env13.n 100) (.cells (cApiParcel ((mapGet x27 x8.Id).getD (ApiParcel.mk 0 0 0 0 0))).toArray 49)]) ?_
 refine .assignB rfl rfl (fun is_63 e64 => ?_)
 refine .nil ?_
 refine .code ?_
 refine .seq ?_
 refine .region ?_
 refine .move rfl rfl ?_
 refine .callB [] rfl Try.call41 rfl rfl rfl rfl (c_excise_need _ is_63 4) ?_ (fun q71 F_69 _ l_70 => (pan_postX (i := 3) rfl (Fz.le_trans l_11 (Fz.le_trans l_31 l_70))))
 rintro r_65 F_66 _ e68 l_67 rfl
 refine .pick [0, 0, 0, 0, 0] (rfl : _ = [arena Γ.g66 (C66 Γ) F0 A1, arena Γ.g63 (C63 Γ) F0 A2, arena Γ.g64 (C64 Γ) F0 A3, R, pt (env13.n 100) (.cells (cApiParcel ((mapGet x27 x8.Id).getD (ApiParcel.mk 0 0 0 0 0))).toArray 49)]) ?_
 refine .nil ?_
 refine .code ?_
 refine .seq ?_
 refine .region ?_
 refine .fieldAddr rfl Try.underlying49 rfl Try.sizeOf3 rfl ?_
 refine .loadO rfl Try.isAgg3 rfl (i := 4) rfl rfl ?_
 refine .fieldAddr rfl Try.underlying47 rfl Try.sizeOf3 rfl ?_
 refine .loadF rfl Try.isAgg3 rfl ((Fz.le_trans l_31 l_67).mem _ _ hb12) rfl ?_
 refine .eql rfl rfl rfl ?_
 refine .callB [] rfl Try.call41 rfl rfl rfl rfl (c_excise_need _ ((((mapGet x27 x8.Id).getD (ApiParcel.mk 0 0 0 0 0)).To) == x8.Bond) 11) ?_ (fun q78 F_76 _ l_77 => (pan_postX (i := 3) rfl (Fz.le_trans l_11 (Fz.le_trans l_31 (Fz.le_trans l_67 l_77)))))
 rintro r_72 F_73 _ e75 l_74 rfl
 refine .pick [0, 0, 0, 0, 0] (rfl : _ = [arena Γ.g66 (C66 Γ) F0 A1, arena Γ.g63 (C63 Γ) F0 A2, arena Γ.g64 (C64 Γ) F0 A3, R, pt (env13.n 100) (.cells (cApiParcel ((mapGet x27 x8.Id).getD (ApiParcel.mk 0 0 0 0 0))).toArray 49)]) ?_
 refine .nil ?_
 refine .code ?_
 refine .seq ?_
 refine .region ?_
 refine .move rfl rfl ?_
 refine .loadFA rfl Try.isAgg47 Try.sizeOf47 rfl ((Fz.le_trans l_31 (Fz.le_trans l_67 l_74)).mem _ _ hb12) (vs := (cApiDutyEvent x8)) (by kernel_rfl) rfl ?_
 refine .upR 0 (stays66 Γ) (Fz.le_trans l_11 (Fz.le_trans l_31 (Fz.le_trans l_67 l_74))) rfl ?_
 refine .callB [0] rfl Try.call66 rfl rfl rfl rfl (c_excise_office_room _ Γ A1 o4 p5 k6 (h7.mono (Fz.le_trans l_11 (Fz.le_trans l_31 (Fz.le_trans l_67 l_74)))) x8) ?_ (fun q85 F_83 _ l_84 => (pan_postX (i := 2) rfl (Fz.le_trans l_11 (Fz.le_trans l_31 (Fz.le_trans l_67 (Fz.le_trans l_74 l_84))))))
 rintro r_79 F_80 _ e82 l_81 rfl
 refine .pick [0, 0, 0, 0, 0] (rfl : _ = [arena Γ.g66 (C66 Γ) F_80 A1, arena Γ.g63 (C63 Γ) F0 A2, arena Γ.g64 (C64 Γ) F0 A3, R, pt (env13.n 100) (.cells (cApiParcel ((mapGet x27 x8.Id).getD (ApiParcel.mk 0 0 0 0 0))).toArray 49)]) ?_
 refine .nil ?_
 refine .keep (.cons (k := 0) rfl (.cons (k := 3) rfl (.cons (k := 4) rfl (.nil _)))) ?_
 refine .code ?_
 refine .seq ?_
 refine .keep (.cons (k := 0) rfl (.cons (k := 3) rfl (.cons (k := 4) rfl (.nil _)))) ?_
 refine .drawZ 6 mixedOK (by kernel_rfl) ?_
 refine .move rfl rfl ?_
 refine .bind (fun i86 e87 => ?_)
 obtain ⟨b88, hb89, hp90⟩ := (h7.mono (Fz.le_trans l_11 (Fz.le_trans l_31 (Fz.le_trans l_67 (Fz.le_trans l_74 l_81))))).at e87
 refine .nilCheckR hp90 rfl rfl ?_
 refine .fieldAddr rfl Try.underlying66 rfl Try.sizeOf63 rfl ?_
 refine .bind (fun x91 e92 => ?_)
 refine .loadR (Φ := fun v => ∃ (p93 : Option Nat) (k94 : Unit), v = (.map p93) ∧ RepRef Γ.g63 F_80 p93 x91.moving) 0 rfl (Fz.le_refl _) hb89 e92 rfl Try.isAgg63 rfl (fun vs ⟨q0, q1, q2, q3, q4, q5, q6, q7, h, r0, r1, r2, r3⟩ => ⟨_, by subst h; exact rfl, q4, q5, rfl, r2⟩) (fun v hv => ?_)
 obtain ⟨p93, k94, rfl, h95⟩ := hv
 refine .fieldAddr rfl Try.underlying47 rfl Try.sizeOf3 rfl ?_
 refine .loadF rfl Try.isAgg3 rfl ((Fz.le_trans l_31 (Fz.le_trans l_67 (Fz.le_trans l_74 l_81))).mem _ _ hb12) rfl ?_
 refine .pend ?_
 refine .bind (fun i98 e99 => ?_)
 obtain ⟨b100, hb101, hp102⟩ := h95.at e99
 refine .bind (fun x103 e104 => ?_)
 refine .letv (fun m_96 e97 => ?_)
 refine .deleteR (key := x8.Id) 1 rfl hb101 hp102 e104 (fun _ h => by cases h) rfl Try.underlying63 (.int Try.underlying3) rfl rfl e97 ?_
 refine .nil ?_
 refine .code ?_
 refine .keep (.cons (k := 0) rfl (.cons (k := 3) rfl (.cons (k := 4) rfl (.nil _)))) ?_
 refine .drawZ 16 mixedOK (by kernel_rfl) ?_
 refine .move rfl rfl ?_
 refine .fieldAddr rfl Try.underlying47 rfl Try.sizeOf3 rfl ?_
 refine .loadF rfl Try.isAgg3 rfl ((Fz.le_trans l_31 (Fz.le_trans l_67 (Fz.le_trans l_74 l_81))).mem _ _ hb12) rfl ?_
 refine .fieldAddr rfl Try.underlying49 rfl Try.sizeOf3 rfl ?_
 refine .loadO rfl Try.isAgg3 rfl (i := 4) rfl rfl ?_
 refine .fieldAddr rfl Try.underlying47 rfl Try.sizeOf3 rfl ?_
 refine .loadF rfl Try.isAgg3 rfl ((Fz.le_trans l_31 (Fz.le_trans l_67 (Fz.le_trans l_74 l_81))).mem _ _ hb12) rfl ?_
 refine .fieldAddr rfl Try.underlying49 rfl Try.sizeOf3 rfl ?_
 refine .loadO rfl Try.isAgg3 rfl (i := 4) rfl rfl ?_
 refine .move rfl rfl ?_
 refine .nilCheckR hp90 rfl rfl ?_
 refine .fieldAddr rfl Try.underlying66 rfl Try.sizeOf24 rfl ?_
 refine .fieldAddr rfl Try.underlying24 rfl Try.sizeOf3 rfl ?_
 refine .loadR (Φ := fun v => v = (.int .i64 x91.rules.Loss)) 0 rfl (Fz.le_refl _) hb89 e92 rfl Try.isAgg3 rfl (fun vs ⟨q0, q1, q2, q3, q4, q5, q6, q7, h, r0, r1, r2, r3⟩ => ⟨_, by subst h; exact rfl, rfl⟩) (fun v hv => ?_)
 subst hv
 refine .mul rfl rfl rfl ?_
 refine .quoC rfl (by decide) rfl rfl ?_
 refine .pend ?_
 refine .callT [0] rfl Try.call68 rfl rfl rfl rfl (c_excise_office_set _ Γ A1 o4 p5 k6 (h7.mono (Fz.le_trans l_11 (Fz.le_trans l_31 (Fz.le_trans l_67 (Fz.le_trans l_74 l_81))))) x8.Bond (((mapGet x27 x8.Id).getD (ApiParcel.mk 0 0 0 0 0)).Amount) x8.Amount (w64 (Int.tdiv (w64 ((((mapGet x27 x8.Id).getD (ApiParcel.mk 0 0 0 0 0)).Amount) * x91.rules.Loss)) 10000))) ?_
 rintro r_105 F_106 _ e108 l_107 rfl
 refine .pick [0, 0, 0, 0, 0] (rfl : _ = [arena Γ.g66 (C66 Γ) F_106 r_105, arena Γ.g63 (C63 Γ) F0 m_96, arena Γ.g64 (C64 Γ) F0 A3, R, pt (env13.n 100) (.cells (cApiParcel ((mapGet x27 x8.Id).getD (ApiParcel.mk 0 0 0 0 0))).toArray 49)]) ?_
 refine .nil ?_
 refine .upR 1 (stays63 Γ) (Fz.le_trans l_11 (Fz.le_trans l_31 (Fz.le_trans l_67 (Fz.le_trans l_74 (Fz.le_trans l_81 l_107))))) rfl ?_
 refine .upR 2 (stays64 Γ) (Fz.le_trans l_11 (Fz.le_trans l_31 (Fz.le_trans l_67 (Fz.le_trans l_74 (Fz.le_trans l_81 l_107))))) rfl ?_
 exact .endX [0, 0, 0, 0] Try.results55 (.nil) rfl (Fz.le_trans l_11 (Fz.le_trans l_31 (Fz.le_trans l_67 (Fz.le_trans l_74 (Fz.le_trans l_81 l_107))))) rfl
noncomputable def m_excise_office_use (A1 : List ExciseOffice) (o2 : (Option Nat)) (amount6 : Int) (day7 : Int) : Option (((List ExciseOffice))) :=
 (o2).bind fun i8 => (A1[i8]?).bind fun x13 => bindv ({ x13 with book := { x13.book with Used := (w64 (x13.book.Used + amount6)) } }) fun x15 => bindv (List.set A1 i8 x15) fun A17 => (m_excise_duty x15.rules amount6 day7).bind fun r_26 => bindv ({ x15 with book := { x15.book with Due := (w64 (x15.book.Due + r_26)) } }) fun x59 => bindv (List.set A17 i8 x59) fun A61 => some A61
set_option maxHeartbeats 4000000 in
theorem c_excise_office_use (F0 : Fz) (Γ : Gam) (A1 : List ExciseOffice) (o2 : (Option Nat)) (p3 : Option Addr) (_k4 : Unit) (h5 : RepPtr Γ.g66 F0 p3 o2) (amount6 : Int) (day7 : Int) : CTH Try.prog 62 [(.pointer p3), (.int .i64 amount6), (.int .i64 day7)].toArray F0 [arena Γ.g66 (C66 Γ) F0 A1] (m_excise_office_use A1 o2 amount6 day7) (fun (_r : (List ExciseOffice)) _ v => v = .tuple #[]) (fun (r : (List ExciseOffice)) F' => [arena Γ.g66 (C66 Γ) F' r]) := by
 refine CTH.enter Try.func62 rfl Try.ntmps62 rfl fun r R => ?_
 refine .norm (Sub.refl _) (rfl : _ = [arena Γ.g66 (C66 Γ) F0 A1, R]) ?_
 unfold m_excise_office_use
 refine .seq ?_
 refine .region ?_
 refine .move rfl rfl ?_
 refine .bind (fun i8 e9 => ?_)
 obtain ⟨b10, hb11, hp12⟩ := h5.at e9
 refine .nilCheckR hp12 rfl rfl ?_
 refine .fieldAddr rfl Try.underlying66 rfl Try.sizeOf31 rfl ?_
 refine .fieldAddr rfl Try.underlying31 rfl Try.sizeOf3 rfl ?_
 refine .bind (fun x13 e14 => ?_)
 refine .loadR (Φ := fun v => v = (.int .i64 x13.book.Used)) 0 rfl (Fz.le_refl _) hb11 e14 rfl Try.isAgg3 rfl (fun vs ⟨q0, q1, q2, q3, q4, q5, q6, q7, h, r0, r1, r2, r3⟩ => ⟨_, by subst h; exact rfl, rfl⟩) (fun v hv => ?_)
 subst hv
 refine .move rfl rfl ?_
 refine .add rfl rfl rfl ?_
 refine .nilCheckR hp12 rfl rfl ?_
 refine .fieldAddr rfl Try.underlying66 rfl Try.sizeOf31 rfl ?_
 refine .fieldAddr rfl Try.underlying31 rfl Try.sizeOf3 rfl ?_
 refine .letv (fun x15 e16 => ?_)
 refine .letv (fun A17 e18 => ?_)
 refine .storeR (xs' := A17) (x' := { x13 with book := { x13.book with Used := (w64 (x13.book.Used + amount6)) } }) (us := [(.int .i64 (w64 (x13.book.Used + amount6)))]) 0 rfl (Fz.le_refl _) (Fz.le_refl _) (len66 Γ) Try.sizeOf3 hb11 e14 rfl rfl rfl rfl rfl rfl (fun F' vs le ⟨q0, q1, q2, q3, q4, q5, q6, q7, h, r0, r1, r2, r3⟩ => ⟨q0, q1, q2, q3, q4, q5, q6, q7, by subst h; exact rfl, r0, r1, r2, r3⟩) (by rw [e18, e16] <;> rfl) ?_
 refine .nil ?_
 refine .code ?_
 refine .keep (.cons (k := 0) rfl (.cons (k := 1) rfl (.cons (k := 2) rfl (.nil _)))) ?_
 refine .bind (fun r_26 hx27 => ?_)
 refine .drawGD 12 0 (fun env19 => [((.pointer p3), fun _ => True), ((.pointer (some ⟨b10, 0, none⟩)), fun _ => True), ((.pointer (some ⟨b10, 0 + 4, none⟩)), fun _ => True), ((.pointer (some ⟨b10, 0 + 4 + 23, none⟩)), fun _ => True), ((.int .i64 x15.book.Due), fun _ => True), ((.pointer p3), fun _ => True), ((.pointer (some ⟨b10, 0, none⟩)), fun _ => True), ((.pointer (some ⟨b10, 0 + 0, none⟩)), fun _ => True), ((eApiDutyRules x15.rules (env19.a 80) (env19.n 80)), fun G => RepSl 2 (Ex cApiDutyRate) G (env19.a 80) (env19.n 80) x15.rules.Rates), ((.int .i64 amount6), fun _ => True), ((.int .i64 day7), fun _ => True), ((.int .i64 r_26), fun _ => True)]) (fun L env19 => [arena Γ.g66 (C66 Γ) F0 A17, R]) mixedOK (by kernel_rfl) (deepN (k := 12) (n := 17) rfl (allLt17 (p := fun t => 12 ≤ t → ∀ j, j < t → ∃ s, depB _ s t j = true) (fun h => absurd h (by decide)) (fun h => absurd h (by decide)) (fun h => absurd h (by decide)) (fun h => absurd h (by decide)) (fun h => absurd h (by decide)) (fun h => absurd h (by decide)) (fun h => absurd h (by decide)) (fun h => absurd h (by decide)) (fun h => absurd h (by decide)) (fun h => absurd h (by decide)) (fun h => absurd h (by decide)) (fun h => absurd h (by decide)) (fun _ => allLt12 (p := fun j => ∃ s, depB _ s 12 j = true) ⟨5, rfl⟩ ⟨4, rfl⟩ ⟨3, rfl⟩ ⟨2, rfl⟩ ⟨1, rfl⟩ ⟨5, rfl⟩ ⟨4, rfl⟩ ⟨3, rfl⟩ ⟨2, rfl⟩ ⟨2, rfl⟩ ⟨2, rfl⟩ ⟨1, rfl⟩) (fun _ => allLt13 (p := fun j => ∃ s, depB _ s 13 j = true) ⟨1, rfl⟩ ⟨1, rfl⟩ ⟨1, rfl⟩ ⟨1, rfl⟩ ⟨1, rfl⟩ ⟨1, rfl⟩ ⟨1, rfl⟩ ⟨1, rfl⟩ ⟨1, rfl⟩ ⟨1, rfl⟩ ⟨1, rfl⟩ ⟨1, rfl⟩ ⟨1, rfl⟩) (fun _ => allLt14 (p := fun j => ∃ s, depB _ s 14 j = true) ⟨1, rfl⟩ ⟨1, rfl⟩ ⟨1, rfl⟩ ⟨1, rfl⟩ ⟨1, rfl⟩ ⟨1, rfl⟩ ⟨1, rfl⟩ ⟨1, rfl⟩ ⟨1, rfl⟩ ⟨1, rfl⟩ ⟨1, rfl⟩ ⟨1, rfl⟩ ⟨1, rfl⟩ ⟨1, rfl⟩) (fun _ => allLt15 (p := fun j => ∃ s, depB _ s 15 j = true) ⟨1, rfl⟩ ⟨1, rfl⟩ ⟨1, rfl⟩ ⟨1, rfl⟩ ⟨1, rfl⟩ ⟨1, rfl⟩ ⟨1, rfl⟩ ⟨1, rfl⟩ ⟨1, rfl⟩ ⟨1, rfl⟩ ⟨1, rfl⟩ ⟨1, rfl⟩ ⟨1, rfl⟩ ⟨2, rfl⟩ ⟨1, rfl⟩) (fun _ => allLt16 (p := fun j => ∃ s, depB _ s 16 j = true) ⟨1, rfl⟩ ⟨1, rfl⟩ ⟨1, rfl⟩ ⟨1, rfl⟩ ⟨1, rfl⟩ ⟨1, rfl⟩ ⟨1, rfl⟩ ⟨1, rfl⟩ ⟨1, rfl⟩ ⟨1, rfl⟩ ⟨1, rfl⟩ ⟨1, rfl⟩ ⟨1, rfl⟩ ⟨3, rfl⟩ ⟨2, rfl⟩ ⟨1, rfl⟩))) rfl (fun _ => rfl) (by kernel_rfl) (fun _ => rfl) ?_ (fun env19 F_28 l_29 hphi => ?_)
 ·skip
  refine .cons (fun L env19 F_30 l_31 hL hdn hup hphi => ⟨[(0, (.pointer p3))], fun S hS hV => (.cons (hS _ _ rfl) (Sub.nil _)), ?_⟩) ?_
  ·skip
   refine .move rfl rfl ?_
   exact .finV rfl rfl (Fz.le_refl _)
  refine .cons (fun L env19 F_32 l_33 hL hdn hup hphi => ⟨[(16, (.pointer p3))], fun S hS hV => (.cons (hV 0 16 _ (hdn 1 0 rfl) rfl rfl) (Sub.nil _)), ?_⟩) ?_
  ·skip
   refine .nilCheckR hp12 rfl rfl ?_
   exact .finV rfl rfl (Fz.le_refl _)
  refine .cons (fun L env19 F_34 l_35 hL hdn hup hphi => ⟨[(17, (.pointer (some ⟨b10, 0, none⟩)))], fun S hS hV => (.cons (hV 1 17 _ (hdn 1 1 rfl) rfl rfl) (Sub.nil _)), ?_⟩) ?_
  ·skip
   refine .fieldAddr rfl Try.underlying66 rfl Try.sizeOf31 rfl ?_
   exact .finV rfl rfl (Fz.le_refl _)
  refine .cons (fun L env19 F_36 l_37 hL hdn hup hphi => ⟨[(18, (.pointer (some ⟨b10, 0 + 4, none⟩)))], fun S hS hV => (.cons (hV 2 18 _ (hdn 1 2 rfl) rfl rfl) (Sub.nil _)), ?_⟩) ?_
  ·skip
   refine .fieldAddr rfl Try.underlying31 rfl Try.sizeOf3 rfl ?_
   exact .finV rfl rfl (Fz.le_refl _)
  refine .cons (fun L env19 F_38 l_39 hL hdn hup hphi => ⟨[(19, (.pointer (some ⟨b10, 0 + 4 + 23, none⟩)))], fun S hS hV => (.cons (hV 3 19 _ (hdn 1 3 rfl) rfl rfl) (Sub.nil _)), ?_⟩) ?_
  ·skip
   refine .loadR (Φ := fun v => v = (.int .i64 x15.book.Due)) 0 rfl l_39 (hb11.mono l_39) (get_set e14 e18) rfl Try.isAgg3 rfl (fun vs ⟨q0, q1, q2, q3, q4, q5, q6, q7, h, r0, r1, r2, r3⟩ => ⟨_, by subst h; exact rfl, rfl⟩) (fun v hv => ?_)
   subst hv
   exact .finV rfl rfl (Fz.le_refl _)
  refine .cons (fun L env19 F_40 l_41 hL hdn hup hphi => ⟨[(0, (.pointer p3))], fun S hS hV => (.cons (hS _ _ rfl) (Sub.nil _)), ?_⟩) ?_
  ·skip
   refine .move rfl rfl ?_
   exact .finV rfl rfl (Fz.le_refl _)
  refine .cons (fun L env19 F_42 l_43 hL hdn hup hphi => ⟨[(21, (.pointer p3))], fun S hS hV => (.cons (hV 5 21 _ (hdn 1 5 rfl) rfl rfl) (Sub.nil _)), ?_⟩) ?_
  ·skip
   refine .nilCheckR hp12 rfl rfl ?_
   exact .finV rfl rfl (Fz.le_refl _)
  refine .cons (fun L env19 F_44 l_45 hL hdn hup hphi => ⟨[(22, (.pointer (some ⟨b10, 0, none⟩)))], fun S hS hV => (.cons (hV 6 22 _ (hdn 1 6 rfl) rfl rfl) (Sub.nil _)), ?_⟩) ?_
  ·skip
   refine .fieldAddr rfl Try.underlying66 rfl Try.sizeOf24 rfl ?_
   exact .finV rfl rfl (Fz.le_refl _)
  refine .cons (fun L env19 F_46 l_47 hL hdn hup hphi => ⟨[(23, (.pointer (some ⟨b10, 0 + 0, none⟩)))], fun S hS hV => (.cons (hV 7 23 _ (hdn 1 7 rfl) rfl rfl) (Sub.nil _)), ?_⟩) ?_
  ·skip
   refine .loadRA (Φ := fun us => ∃ (p48 : Option Addr) (k49 : Nat), us = (cApiDutyRules x15.rules p48 k49) ∧ RepSl 2 (Ex cApiDutyRate) F_46 p48 k49 x15.rules.Rates) 0 rfl l_47 (hb11.mono l_47) (get_set e14 e18) rfl Try.isAgg24 Try.sizeOf24 rfl (fun vs ⟨q0, q1, q2, q3, q4, q5, q6, q7, h, r0, r1, r2, r3⟩ => ⟨_, by subst h; rfl, rfl, q0, q1, rfl, r0⟩) (fun us hv => ?_)
   obtain ⟨p48, k49, rfl, h50⟩ := hv
   exact .finQ ({ env19 with a := (updN env19.a 80 p48), n := (updN env19.n 80 k49), c := env19.c, o := env19.o }) [true, true, true, true, true, true, true, true, false, true, true, false] rfl (by kernel_rfl) rfl rfl (Fz.le_refl _) (fun _ le => h50.mono le) (cons_eq rfl (cons_eq rfl rfl))
  refine .cons (fun L env19 F_51 l_52 hL hdn hup hphi => ⟨[(1, (.int .i64 amount6))], fun S hS hV => (.cons (hS _ _ rfl) (Sub.nil _)), ?_⟩) ?_
  ·skip
   refine .move rfl rfl ?_
   exact .finV rfl rfl (Fz.le_refl _)
  refine .cons (fun L env19 F_53 l_54 hL hdn hup hphi => ⟨[(2, (.int .i64 day7))], fun S hS hV => (.cons (hS _ _ rfl) (Sub.nil _)), ?_⟩) ?_
  ·skip
   refine .move rfl rfl ?_
   exact .finV rfl rfl (Fz.le_refl _)
  refine .cons (fun L env19 F_55 l_56 hL hdn hup hphi => ⟨[(24, (eApiDutyRules x15.rules (env19.a 80) (env19.n 80))), (25, (.int .i64 amount6)), (26, (.int .i64 day7))], fun S hS hV => (.cons (hV 8 24 _ (hdn 1 8 rfl) rfl rfl) (.cons (hV 9 25 _ (hdn 1 9 rfl) rfl rfl) (.cons (hV 10 26 _ (hdn 1 10 rfl) rfl rfl) (Sub.nil _)))), ?_⟩) ?_
  ·skip
   have h23 := hphi 8 _ (hdn 1 8 rfl) rfl _ (Fz.le_refl _)
   refine .callK hx27 rfl Try.call35 rfl rfl rfl (c_excise_duty _ x15.rules (env19.a 80) (env19.n 80) h23 amount6 day7) ?_
   rintro F_57 _ l_58 rfl
   exact .finV rfl rfl l_58
  exact .nil
 have h23 := hphi 8 _ rfl
 refine .norm (S' := [(0, (.pointer p3)), (1, (.int .i64 amount6)), (2, (.int .i64 day7)), (16, (.pointer p3)), (17, (.pointer (some ⟨b10, 0, none⟩))), (18, (.pointer (some ⟨b10, 0 + 4, none⟩))), (19, (.pointer (some ⟨b10, 0 + 4 + 23, none⟩))), (20, (.int .i64 x15.book.Due)), (21, (.pointer p3)), (22, (.pointer (some ⟨b10, 0, none⟩))), (23, (.pointer (some ⟨b10, 0 + 0, none⟩))), (24, (eApiDutyRules x15.rules (env19.a 80) (env19.n 80))), (25, (.int .i64 amount6)), (26, (.int .i64 day7)), (27, (.int .i64 r_26))]) (.cons (k := 0) rfl (.cons (k := 1) rfl (.cons (k := 2) rfl (.cons (k := 16) rfl (.cons (k := 17) rfl (.cons (k := 18) rfl (.cons (k := 19) rfl (.cons (k := 20) rfl (.cons (k := 21) rfl (.cons (k := 22) rfl (.cons (k := 23) rfl (.cons (k := 24) rfl (.cons (k := 25) rfl (.cons (k := 26) rfl (.cons (k := 27) rfl (.nil _)))))))))))))))) (rfl : _ = [arena Γ.g66 (C66 Γ) F0 A17, R]) ?_
 refine .add rfl rfl rfl ?_
 refine .nilCheckR hp12 rfl rfl ?_
 refine .fieldAddr rfl Try.underlying66 rfl Try.sizeOf31 rfl ?_
 refine .fieldAddr rfl Try.underlying31 rfl Try.sizeOf3 rfl ?_
 refine .letv (fun x59 e60 => ?_)
 refine .letv (fun A61 e62 => ?_)
 refine .storeR (xs' := A61) (x' := { x15 with book := { x15.book with Due := (w64 (x15.book.Due + r_26)) } }) (us := [(.int .i64 (w64 (x15.book.Due + r_26)))]) 0 rfl l_29 (Fz.le_refl _) (len66 Γ) Try.sizeOf3 (hb11.mono l_29) (get_set e14 e18) rfl rfl rfl rfl rfl rfl (fun F' vs le ⟨q0, q1, q2, q3, q4, q5, q6, q7, h, r0, r1, r2, r3⟩ => ⟨q0, q1, q2, q3, q4, q5, q6, q7, by subst h; exact rfl, r0, r1, r2, r3⟩) (by rw [e62, e60] <;> rfl) ?_
 refine .nil ?_
 exact .endH [0, 0] Try.results62 (.nil) rfl l_29 rfl
noncomputable def m_excise_office_release (A1 : List ExciseOffice) (A2 : List (List (Int × ApiParcel))) (A3 : List (List (Int × Bool))) (o4 : (Option Nat)) (x8 : ApiDutyEvent) : Option (Out ExciseMisfit ((List ExciseOffice) × (List (List (Int × ApiParcel))) × (List (List (Int × Bool))))) :=
 bindX (m_excise_office_draw A1 o4 x8) (fun q19 => some (.pan q19)) fun r_13 => (m_excise_office_use r_13 o4 x8.Amount x8.Day).bind fun r_20 => some (.ok (r_20, A2, A3))
set_option maxHeartbeats 4000000 in
theorem c_excise_office_release (F0 : Fz) (Γ : Gam) (A1 : List ExciseOffice) (A2 : List (List (Int × ApiParcel))) (A3 : List (List (Int × Bool))) (o4 : (Option Nat)) (p5 : Option Addr) (k6 : Unit) (h7 : RepPtr Γ.g66 F0 p5 o4) (x8 : ApiDutyEvent) : CTX Try.prog penc 56 [(.pointer p5), (eApiDutyEvent x8)].toArray F0 [arena Γ.g66 (C66 Γ) F0 A1, arena Γ.g63 (C63 Γ) F0 A2, arena Γ.g64 (C64 Γ) F0 A3] (m_excise_office_release A1 A2 A3 o4 x8) (fun (_r : (List ExciseOffice) × (List (List (Int × ApiParcel))) × (List (List (Int × Bool)))) _ v => v = .tuple #[]) (fun (r : (List ExciseOffice) × (List (List (Int × ApiParcel))) × (List (List (Int × Bool)))) F' _ => [arena Γ.g66 (C66 Γ) F' r.1, arena Γ.g63 (C63 Γ) F' r.2.1, arena Γ.g64 (C64 Γ) F' r.2.2]) := by
 refine CTX.enter Try.func56 rfl Try.ntmps56 rfl fun r R => ?_
 refine .norm (Sub.refl _) (rfl : _ = [arena Γ.g66 (C66 Γ) F0 A1, arena Γ.g63 (C63 Γ) F0 A2, arena Γ.g64 (C64 Γ) F0 A3, R]) ?_
 unfold m_excise_office_release
 refine .seq ?_
 refine .region ?_
 refine .boxF (cs := (cApiDutyEvent x8)) rfl rfl rfl (fun b9 F_10 l_11 hb12 => ?_)
 refine .nil ?_
 refine .code ?_
 refine .seq ?_
 refine .region ?_
 refine .move rfl rfl ?_
 refine .loadFA rfl Try.isAgg47 Try.sizeOf47 rfl hb12 (vs := (cApiDutyEvent x8)) (by kernel_rfl) rfl ?_
 refine .upR 0 (stays66 Γ) l_11 rfl ?_
 refine .callB [0] rfl Try.call67 rfl rfl rfl rfl (c_excise_office_draw _ Γ A1 o4 p5 k6 (h7.mono l_11) x8) ?_ (fun q19 F_17 _ l_18 => (pan_postX (i := 2) rfl (Fz.le_trans l_11 l_18)))
 rintro r_13 F_14 _ e16 l_15 rfl
 refine .pick [0, 0, 0, 0] (rfl : _ = [arena Γ.g66 (C66 Γ) F_14 r_13, arena Γ.g63 (C63 Γ) F0 A2, arena Γ.g64 (C64 Γ) F0 A3, R]) ?_
 refine .nil ?_
 refine .code ?_
 refine .region ?_
 refine .move rfl rfl ?_
 refine .fieldAddr rfl Try.underlying47 rfl Try.sizeOf3 rfl ?_
 refine .loadF rfl Try.isAgg3 rfl (l_15.mem _ _ hb12) rfl ?_
 refine .fieldAddr rfl Try.underlying47 rfl Try.sizeOf3 rfl ?_
 refine .loadF rfl Try.isAgg3 rfl (l_15.mem _ _ hb12) rfl ?_
 refine .callT [0] rfl Try.call62 rfl rfl rfl rfl (c_excise_office_use _ Γ r_13 o4 p5 k6 (h7.mono (Fz.le_trans l_11 l_15)) x8.Amount x8.Day) ?_
 rintro r_20 F_21 _ e23 l_22 rfl
 refine .pick [0, 0, 0, 0] (rfl : _ = [arena Γ.g66 (C66 Γ) F_21 r_20, arena Γ.g63 (C63 Γ) F0 A2, arena Γ.g64 (C64 Γ) F0 A3, R]) ?_
 refine .nil ?_
 refine .upR 1 (stays63 Γ) (Fz.le_trans l_11 (Fz.le_trans l_15 l_22)) rfl ?_
 refine .upR 2 (stays64 Γ) (Fz.le_trans l_11 (Fz.le_trans l_15 l_22)) rfl ?_
 exact .endX [0, 0, 0, 0] Try.results56 (.nil) rfl (Fz.le_trans l_11 (Fz.le_trans l_15 l_22)) rfl
noncomputable def m_excise_office_export (A1 : List ExciseOffice) (A2 : List (List (Int × ApiParcel))) (A3 : List (List (Int × Bool))) (o4 : (Option Nat)) (x8 : ApiDutyEvent) : Option (Out ExciseMisfit ((List ExciseOffice) × (List (List (Int × ApiParcel))) × (List (List (Int × Bool))))) :=
 bindX (m_excise_office_draw A1 o4 x8) (fun q19 => some (.pan q19)) fun r_13 => (o4).bind fun i20 => (r_13[i20]?).bind fun x25 => bindv ({ x25 with book := { x25.book with Exported := (w64 (x25.book.Exported + x8.Amount)) } }) fun x27 => bindv (List.set r_13 i20 x27) fun A29 => some (.ok (A29, A2, A3))
set_option maxHeartbeats 4000000 in
theorem c_excise_office_export (F0 : Fz) (Γ : Gam) (A1 : List ExciseOffice) (A2 : List (List (Int × ApiParcel))) (A3 : List (List (Int × Bool))) (o4 : (Option Nat)) (p5 : Option Addr) (k6 : Unit) (h7 : RepPtr Γ.g66 F0 p5 o4) (x8 : ApiDutyEvent) : CTX Try.prog penc 57 [(.pointer p5), (eApiDutyEvent x8)].toArray F0 [arena Γ.g66 (C66 Γ) F0 A1, arena Γ.g63 (C63 Γ) F0 A2, arena Γ.g64 (C64 Γ) F0 A3] (m_excise_office_export A1 A2 A3 o4 x8) (fun (_r : (List ExciseOffice) × (List (List (Int × ApiParcel))) × (List (List (Int × Bool)))) _ v => v = .tuple #[]) (fun (r : (List ExciseOffice) × (List (List (Int × ApiParcel))) × (List (List (Int × Bool)))) F' _ => [arena Γ.g66 (C66 Γ) F' r.1, arena Γ.g63 (C63 Γ) F' r.2.1, arena Γ.g64 (C64 Γ) F' r.2.2]) := by
 refine CTX.enter Try.func57 rfl Try.ntmps57 rfl fun r R => ?_
 refine .norm (Sub.refl _) (rfl : _ = [arena Γ.g66 (C66 Γ) F0 A1, arena Γ.g63 (C63 Γ) F0 A2, arena Γ.g64 (C64 Γ) F0 A3, R]) ?_
 unfold m_excise_office_export
 refine .seq ?_
 refine .region ?_
 refine .boxF (cs := (cApiDutyEvent x8)) rfl rfl rfl (fun b9 F_10 l_11 hb12 => ?_)
 refine .nil ?_
 refine .code ?_
 refine .seq ?_
 refine .region ?_
 refine .move rfl rfl ?_
 refine .loadFA rfl Try.isAgg47 Try.sizeOf47 rfl hb12 (vs := (cApiDutyEvent x8)) (by kernel_rfl) rfl ?_
 refine .upR 0 (stays66 Γ) l_11 rfl ?_
 refine .callB [0] rfl Try.call67 rfl rfl rfl rfl (c_excise_office_draw _ Γ A1 o4 p5 k6 (h7.mono l_11) x8) ?_ (fun q19 F_17 _ l_18 => (pan_postX (i := 2) rfl (Fz.le_trans l_11 l_18)))
 rintro r_13 F_14 _ e16 l_15 rfl
 refine .pick [0, 0, 0, 0] (rfl : _ = [arena Γ.g66 (C66 Γ) F_14 r_13, arena Γ.g63 (C63 Γ) F0 A2, arena Γ.g64 (C64 Γ) F0 A3, R]) ?_
 refine .nil ?_
 refine .code ?_
 refine .keep (.cons (k := 0) rfl (.cons (k := 3) rfl (.nil _))) ?_
 refine .drawZ 11 mixedOK (by kernel_rfl) ?_
 refine .move rfl rfl ?_
 refine .bind (fun i20 e21 => ?_)
 obtain ⟨b22, hb23, hp24⟩ := (h7.mono (Fz.le_trans l_11 l_15)).at e21
 refine .nilCheckR hp24 rfl rfl ?_
 refine .fieldAddr rfl Try.underlying66 rfl Try.sizeOf31 rfl ?_
 refine .fieldAddr rfl Try.underlying31 rfl Try.sizeOf3 rfl ?_
 refine .bind (fun x25 e26 => ?_)
 refine .loadR (Φ := fun v => v = (.int .i64 x25.book.Exported)) 0 rfl (Fz.le_refl _) hb23 e26 rfl Try.isAgg3 rfl (fun vs ⟨q0, q1, q2, q3, q4, q5, q6, q7, h, r0, r1, r2, r3⟩ => ⟨_, by subst h; exact rfl, rfl⟩) (fun v hv => ?_)
 subst hv
 refine .fieldAddr rfl Try.underlying47 rfl Try.sizeOf3 rfl ?_
 refine .loadF rfl Try.isAgg3 rfl (l_15.mem _ _ hb12) rfl ?_
 refine .add rfl rfl rfl ?_
 refine .nilCheckR hp24 rfl rfl ?_
 refine .fieldAddr rfl Try.underlying66 rfl Try.sizeOf31 rfl ?_
 refine .fieldAddr rfl Try.underlying31 rfl Try.sizeOf3 rfl ?_
 refine .pend ?_
 refine .letv (fun x27 e28 => ?_)
 refine .letv (fun A29 e30 => ?_)
 refine .storeR (xs' := A29) (x' := { x25 with book := { x25.book with Exported := (w64 (x25.book.Exported + x8.Amount)) } }) (us := [(.int .i64 (w64 (x25.book.Exported + x8.Amount)))]) 0 rfl (Fz.le_refl _) (Fz.le_refl _) (len66 Γ) Try.sizeOf3 hb23 e26 rfl rfl rfl rfl rfl rfl (fun F' vs le ⟨q0, q1, q2, q3, q4, q5, q6, q7, h, r0, r1, r2, r3⟩ => ⟨q0, q1, q2, q3, q4, q5, q6, q7, by subst h; exact rfl, r0, r1, r2, r3⟩) (by rw [e30, e28] <;> rfl) ?_
 refine .nil ?_
 refine .upR 1 (stays63 Γ) (Fz.le_trans l_11 l_15) rfl ?_
 refine .upR 2 (stays64 Γ) (Fz.le_trans l_11 l_15) rfl ?_
 exact .endX [0, 0, 0, 0] Try.results57 (.nil) rfl (Fz.le_trans l_11 l_15) rfl
noncomputable def m_excise_office_take (A1 : List ExciseOffice) (A2 : List (List (Int × ApiParcel))) (A3 : List (List (Int × Bool))) (o4 : (Option Nat)) (x8 : ApiDutyEvent) : Option (Out ExciseMisfit ((List ExciseOffice) × (List (List (Int × ApiParcel))) × (List (List (Int × Bool))))) :=
 (o4).bind fun i13 => (idxO 16 x8.Bond).bind fun j18 => (A1[i13]?).bind fun x20 => bindv (w64 (Int.tdiv (w64 ((x20.sums j18) * x20.rules.Share)) 3650000)) fun allowed22 => bindv (x20.book.Bonds j18) fun was24 => bindv ({ x20 with sums := updN x20.sums j18 0 }) fun x27 => bindv (List.set A1 i13 x27) fun A29 => (A29[i13]?).bind fun x60 => bindv ({ x60 with book := { x60.book with Bonds := updN x60.book.Bonds j18 0 } }) fun x62 => bindv (List.set A29 i13 x62) fun A64 => (m_excise_office_set A64 o4 x8.Bond was24 x8.Amount allowed22).bind fun r_66 => some (.ok (r_66, A2, A3))
set_option maxHeartbeats 4000000 in
theorem c_excise_office_take (F0 : Fz) (Γ : Gam) (A1 : List ExciseOffice) (A2 : List (List (Int × ApiParcel))) (A3 : List (List (Int × Bool))) (o4 : (Option Nat)) (p5 : Option Addr) (k6 : Unit) (h7 : RepPtr Γ.g66 F0 p5 o4) (x8 : ApiDutyEvent) : CTX Try.prog penc 58 [(.pointer p5), (eApiDutyEvent x8)].toArray F0 [arena Γ.g66 (C66 Γ) F0 A1, arena Γ.g63 (C63 Γ) F0 A2, arena Γ.g64 (C64 Γ) F0 A3] (m_excise_office_take A1 A2 A3 o4 x8) (fun (_r : (List ExciseOffice) × (List (List (Int × ApiParcel))) × (List (List (Int × Bool)))) _ v => v = .tuple #[]) (fun (r : (List ExciseOffice) × (List (List (Int × ApiParcel))) × (List (List (Int × Bool)))) F' _ => [arena Γ.g66 (C66 Γ) F' r.1, arena Γ.g63 (C63 Γ) F' r.2.1, arena Γ.g64 (C64 Γ) F' r.2.2]) := by
 refine CTX.enter Try.func58 rfl Try.ntmps58 rfl fun r R => ?_
 refine .norm (Sub.refl _) (rfl : _ = [arena Γ.g66 (C66 Γ) F0 A1, arena Γ.g63 (C63 Γ) F0 A2, arena Γ.g64 (C64 Γ) F0 A3, R]) ?_
 unfold m_excise_office_take
 refine .seq ?_
 refine .region ?_
 refine .boxF (cs := (cApiDutyEvent x8)) rfl rfl rfl (fun b9 F_10 l_11 hb12 => ?_)
 refine .nil ?_
 refine .code ?_
 refine .seq ?_
 refine .keep (.cons (k := 0) rfl (.cons (k := 3) rfl (.nil _))) ?_
 refine .drawZ 15 mixedOK (by kernel_rfl) ?_
 refine .move rfl rfl ?_
 refine .fieldAddr rfl Try.underlying47 rfl Try.sizeOf3 rfl ?_
 refine .loadF rfl Try.isAgg3 rfl hb12 rfl ?_
 refine .bind (fun i13 e14 => ?_)
 obtain ⟨b15, hb16, hp17⟩ := (h7.mono l_11).at e14
 refine .nilCheckR hp17 rfl rfl ?_
 refine .fieldAddr rfl Try.underlying66 rfl Try.sizeOf28 rfl ?_
 refine .bind (fun j18 hj19 => ?_)
 refine .indexAddrA rfl Try.underlying28 Try.sizeOf3 rfl rfl hj19 ?_
 refine .bind (fun x20 e21 => ?_)
 refine .loadR (Φ := fun v => v = (.int .i64 (x20.sums j18))) 0 rfl l_11 hb16 e21 rfl Try.isAgg3 rfl (fun vs ⟨q0, q1, q2, q3, q4, q5, q6, q7, h, r0, r1, r2, r3⟩ => ⟨_, by subst h; exact (allLt16 (p := fun j18 => ((cExciseOffice x20 q0 q1 q2 q3 q4 q5 q6 q7))[0 + 31 + j18 * 1]? = some (.int .i64 (x20.sums j18))) rfl rfl rfl rfl rfl rfl rfl rfl rfl rfl rfl rfl rfl rfl rfl rfl _ (idxO_some hj19).2.2.2), rfl⟩) (fun v hv => ?_)
 subst hv
 refine .move rfl rfl ?_
 refine .nilCheckR hp17 rfl rfl ?_
 refine .fieldAddr rfl Try.underlying66 rfl Try.sizeOf24 rfl ?_
 refine .fieldAddr rfl Try.underlying24 rfl Try.sizeOf3 rfl ?_
 refine .loadR (Φ := fun v => v = (.int .i64 x20.rules.Share)) 0 rfl l_11 hb16 e21 rfl Try.isAgg3 rfl (fun vs ⟨q0, q1, q2, q3, q4, q5, q6, q7, h, r0, r1, r2, r3⟩ => ⟨_, by subst h; exact rfl, rfl⟩) (fun v hv => ?_)
 subst hv
 refine .mul rfl rfl rfl ?_
 refine .quoC rfl (by decide) rfl rfl ?_
 refine .assignL rfl rfl (fun allowed22 e23 => ?_)
 refine .pend ?_
 refine .nil ?_
 refine .code ?_
 refine .seq ?_
 refine .keep (.cons (k := 0) rfl (.cons (k := 3) rfl (.cons (k := 4) rfl (.nil _)))) ?_
 refine .drawZ 9 mixedOK (by kernel_rfl) ?_
 refine .move rfl rfl ?_
 refine .fieldAddr rfl Try.underlying47 rfl Try.sizeOf3 rfl ?_
 refine .loadF rfl Try.isAgg3 rfl hb12 rfl ?_
 refine .nilCheckR hp17 rfl rfl ?_
 refine .fieldAddr rfl Try.underlying66 rfl Try.sizeOf31 rfl ?_
 refine .fieldAddr rfl Try.underlying31 rfl Try.sizeOf28 rfl ?_
 refine .indexAddrA rfl Try.underlying28 Try.sizeOf3 rfl rfl hj19 ?_
 refine .loadR (Φ := fun v => v = (.int .i64 (x20.book.Bonds j18))) 0 rfl l_11 hb16 e21 rfl Try.isAgg3 rfl (fun vs ⟨q0, q1, q2, q3, q4, q5, q6, q7, h, r0, r1, r2, r3⟩ => ⟨_, by subst h; exact (allLt16 (p := fun j18 => ((cExciseOffice x20 q0 q1 q2 q3 q4 q5 q6 q7))[0 + 4 + 0 + j18 * 1]? = some (.int .i64 (x20.book.Bonds j18))) rfl rfl rfl rfl rfl rfl rfl rfl rfl rfl rfl rfl rfl rfl rfl rfl _ (idxO_some hj19).2.2.2), rfl⟩) (fun v hv => ?_)
 subst hv
 refine .assignL rfl rfl (fun was24 e25 => ?_)
 refine .pend ?_
 refine .nil ?_
 refine .code ?_
 refine .seq ?_
 refine .keep (.cons (k := 0) rfl (.cons (k := 3) rfl (.cons (k := 4) rfl (.cons (k := 5) rfl (.nil _))))) ?_
 refine .letv (fun x27 e28 => ?_)
 refine .letv (fun A29 e30 => ?_)
 refine .drawGD 13 0 (fun env26 => [((.pointer p5), fun _ => True), ((.pointer (some ⟨b9, 0 + 2, none⟩)), fun _ => True), ((.int .i64 x8.Bond), fun _ => True), ((.pointer p5), fun _ => True), ((.pointer (some ⟨b9, 0 + 2, none⟩)), fun _ => True), ((.int .i64 x8.Bond), fun _ => True), ((.pointer (some ⟨b15, 0, none⟩)), fun _ => True), ((.pointer (some ⟨b15, 0 + 31, none⟩)), fun _ => True), ((.pointer (some ⟨b15, 0 + 31 + j18 * 1, none⟩)), fun _ => True), (undef, fun G => env26.f 90 ≤ G), ((.pointer (some ⟨b15, 0, none⟩)), fun _ => True), ((.pointer (some ⟨b15, 0 + 4, none⟩)), fun _ => True), ((.pointer (some ⟨b15, 0 + 4 + 0, none⟩)), fun _ => True)]) (fun L env26 => [(bif L 9 then (arena Γ.g66 (C66 Γ) (env26.f 90) A29) else (arena Γ.g66 (C66 Γ) F0 A1)), arena Γ.g63 (C63 Γ) F0 A2, arena Γ.g64 (C64 Γ) F0 A3, R]) mixedOK (by kernel_rfl) (deepN (k := 13) (n := 15) rfl (allLt15 (p := fun t => 13 ≤ t → ∀ j, j < t → ∃ s, depB _ s t j = true) (fun h => absurd h (by decide)) (fun h => absurd h (by decide)) (fun h => absurd h (by decide)) (fun h => absurd h (by decide)) (fun h => absurd h (by decide)) (fun h => absurd h (by decide)) (fun h => absurd h (by decide)) (fun h => absurd h (by decide)) (fun h => absurd h (by decide)) (fun h => absurd h (by decide)) (fun h => absurd h (by decide)) (fun h => absurd h (by decide)) (fun h => absurd h (by decide)) (fun _ => allLt13 (p := fun j => ∃ s, depB _ s 13 j = true) ⟨1, rfl⟩ ⟨1, rfl⟩ ⟨1, rfl⟩ ⟨1, rfl⟩ ⟨1, rfl⟩ ⟨1, rfl⟩ ⟨1, rfl⟩ ⟨1, rfl⟩ ⟨1, rfl⟩ ⟨1, rfl⟩ ⟨3, rfl⟩ ⟨2, rfl⟩ ⟨1, rfl⟩) (fun _ => allLt14 (p := fun j => ∃ s, depB _ s 14 j = true) ⟨1, rfl⟩ ⟨1, rfl⟩ ⟨1, rfl⟩ ⟨1, rfl⟩ ⟨1, rfl⟩ ⟨1, rfl⟩ ⟨1, rfl⟩ ⟨1, rfl⟩ ⟨1, rfl⟩ ⟨1, rfl⟩ ⟨4, rfl⟩ ⟨3, rfl⟩ ⟨2, rfl⟩ ⟨1, rfl⟩))) rfl (fun _ => rfl) (by kernel_rfl) (fun _ => rfl) ?_ (fun env26 F_31 l_32 hphi => ?_)
 ·skip
  refine .cons (fun L env26 F_34 l_35 hL hdn hup hphi => ⟨[(0, (.pointer p5))], fun S hS hV => (.cons (hS _ _ rfl) (Sub.nil _)), ?_⟩) ?_
  ·skip
   refine .move rfl rfl ?_
   exact .finV rfl rfl (Fz.le_refl _)
  refine .cons (fun L env26 F_36 l_37 hL hdn hup hphi => ⟨[(3, (.pointer (some ⟨b9, 0, none⟩)))], fun S hS hV => (.cons (hS _ _ rfl) (Sub.nil _)), ?_⟩) ?_
  ·skip
   refine .fieldAddr rfl Try.underlying47 rfl Try.sizeOf3 rfl ?_
   exact .finV rfl rfl (Fz.le_refl _)
  refine .cons (fun L env26 F_38 l_39 hL hdn hup hphi => ⟨[(29, (.pointer (some ⟨b9, 0 + 2, none⟩)))], fun S hS hV => (.cons (hV 1 29 _ (hdn 1 1 rfl) rfl rfl) (Sub.nil _)), ?_⟩) ?_
  ·skip
   refine .loadF rfl Try.isAgg3 rfl (l_39.mem _ _ hb12) rfl ?_
   exact .finV rfl rfl (Fz.le_refl _)
  refine .cons (fun L env26 F_40 l_41 hL hdn hup hphi => ⟨[(0, (.pointer p5))], fun S hS hV => (.cons (hS _ _ rfl) (Sub.nil _)), ?_⟩) ?_
  ·skip
   refine .move rfl rfl ?_
   exact .finV rfl rfl (Fz.le_refl _)
  refine .cons (fun L env26 F_42 l_43 hL hdn hup hphi => ⟨[(3, (.pointer (some ⟨b9, 0, none⟩)))], fun S hS hV => (.cons (hS _ _ rfl) (Sub.nil _)), ?_⟩) ?_
  ·skip
   refine .fieldAddr rfl Try.underlying47 rfl Try.sizeOf3 rfl ?_
   exact .finV rfl rfl (Fz.le_refl _)
  refine .cons (fun L env26 F_44 l_45 hL hdn hup hphi => ⟨[(32, (.pointer (some ⟨b9, 0 + 2, none⟩)))], fun S hS hV => (.cons (hV 4 32 _ (hdn 1 4 rfl) rfl rfl) (Sub.nil _)), ?_⟩) ?_
  ·skip
   refine .loadF rfl Try.isAgg3 rfl (l_45.mem _ _ hb12) rfl ?_
   exact .finV rfl rfl (Fz.le_refl _)
  refine .cons (fun L env26 F_46 l_47 hL hdn hup hphi => ⟨[(28, (.pointer p5))], fun S hS hV => (.cons (hV 0 28 _ (hdn 1 0 rfl) rfl rfl) (Sub.nil _)), ?_⟩) ?_
  ·skip
   refine .nilCheckR hp17 rfl rfl ?_
   exact .finV rfl rfl (Fz.le_refl _)
  refine .cons (fun L env26 F_48 l_49 hL hdn hup hphi => ⟨[(34, (.pointer (some ⟨b15, 0, none⟩)))], fun S hS hV => (.cons (hV 6 34 _ (hdn 1 6 rfl) rfl rfl) (Sub.nil _)), ?_⟩) ?_
  ·skip
   refine .fieldAddr rfl Try.underlying66 rfl Try.sizeOf28 rfl ?_
   exact .finV rfl rfl (Fz.le_refl _)
  refine .cons (fun L env26 F_50 l_51 hL hdn hup hphi => ⟨[(30, (.int .i64 x8.Bond)), (35, (.pointer (some ⟨b15, 0 + 31, none⟩)))], fun S hS hV => (.cons (hV 2 30 _ (hdn 1 2 rfl) rfl rfl) (.cons (hV 7 35 _ (hdn 1 7 rfl) rfl rfl) (Sub.nil _))), ?_⟩) ?_
  ·skip
   refine .indexAddrA rfl Try.underlying28 Try.sizeOf3 rfl rfl hj19 ?_
   exact .finV rfl rfl (Fz.le_refl _)
  refine .cons (fun L env26 F_52 l_53 hL hdn hup hphi => ⟨[(36, (.pointer (some ⟨b15, 0 + 31 + j18 * 1, none⟩)))], fun S hS hV => (.cons (hV 8 36 _ (hdn 1 8 rfl) rfl rfl) (Sub.nil _)), ?_⟩) ?_
  ·skip
   refine .storeR (xs' := A29) (x' := { x20 with sums := updN x20.sums j18 0 }) (us := [(.int .i64 0)]) 0 (congrArg some (condF hL)) (Fz.le_trans l_11 l_53) (Fz.le_refl _) (len66 Γ) Try.sizeOf3 (hb16.mono l_53) e21 rfl rfl rfl rfl rfl (allLt16 (p := fun j18 => Nat.ble (0 + 31 + j18 * 1 + 1) 48 = true) rfl rfl rfl rfl rfl rfl rfl rfl rfl rfl rfl rfl rfl rfl rfl rfl _ (idxO_some hj19).2.2.2) (fun F' vs le ⟨q0, q1, q2, q3, q4, q5, q6, q7, h, r0, r1, r2, r3⟩ => ⟨q0, q1, q2, q3, q4, q5, q6, q7, by subst h; exact (allLt16 (p := fun j18 => setMany (cExciseOffice x20 q0 q1 q2 q3 q4 q5 q6 q7) (0 + 31 + j18 * 1) [(.int .i64 0)] = (cExciseOffice ({ x20 with sums := updN x20.sums j18 0 }) q0 q1 q2 q3 q4 q5 q6 q7)) rfl rfl rfl rfl rfl rfl rfl rfl rfl rfl rfl rfl rfl rfl rfl rfl _ (idxO_some hj19).2.2.2), r0, r1, r2, r3⟩) (by rw [e30, e28] <;> rfl) ?_
   exact .finQS ({ env26 with f := updN env26.f 90 F_52 }) [true, true, true, true, true, true, true, true, true, false, true, true, true] rfl (by kernel_rfl) rfl rfl (Fz.le_refl _) (fun _ le => le) (cons_eq (condT rfl) (cons_eq rfl (cons_eq rfl (cons_eq rfl rfl))))
  refine .cons (fun L env26 F_54 l_55 hL hdn hup hphi => ⟨[(31, (.pointer p5))], fun S hS hV => (.cons (hV 3 31 _ (hdn 1 3 rfl) rfl rfl) (Sub.nil _)), ?_⟩) ?_
  ·skip
   refine .nilCheckR hp17 rfl rfl ?_
   exact .finV rfl rfl (Fz.le_refl _)
  refine .cons (fun L env26 F_56 l_57 hL hdn hup hphi => ⟨[(37, (.pointer (some ⟨b15, 0, none⟩)))], fun S hS hV => (.cons (hV 10 37 _ (hdn 1 10 rfl) rfl rfl) (Sub.nil _)), ?_⟩) ?_
  ·skip
   refine .fieldAddr rfl Try.underlying66 rfl Try.sizeOf31 rfl ?_
   exact .finV rfl rfl (Fz.le_refl _)
  refine .cons (fun L env26 F_58 l_59 hL hdn hup hphi => ⟨[(38, (.pointer (some ⟨b15, 0 + 4, none⟩)))], fun S hS hV => (.cons (hV 11 38 _ (hdn 1 11 rfl) rfl rfl) (Sub.nil _)), ?_⟩) ?_
  ·skip
   refine .fieldAddr rfl Try.underlying31 rfl Try.sizeOf28 rfl ?_
   exact .finV rfl rfl (Fz.le_refl _)
  exact .nil
 have l_33 := hphi 9 _ rfl
 refine .norm (S' := [(0, (.pointer p5)), (3, (.pointer (some ⟨b9, 0, none⟩))), (4, (.int .i64 allowed22)), (5, (.int .i64 was24)), (28, (.pointer p5)), (29, (.pointer (some ⟨b9, 0 + 2, none⟩))), (30, (.int .i64 x8.Bond)), (31, (.pointer p5)), (32, (.pointer (some ⟨b9, 0 + 2, none⟩))), (33, (.int .i64 x8.Bond)), (34, (.pointer (some ⟨b15, 0, none⟩))), (35, (.pointer (some ⟨b15, 0 + 31, none⟩))), (36, (.pointer (some ⟨b15, 0 + 31 + j18 * 1, none⟩))), (37, (.pointer (some ⟨b15, 0, none⟩))), (38, (.pointer (some ⟨b15, 0 + 4, none⟩))), (39, (.pointer (some ⟨b15, 0 + 4 + 0, none⟩)))]) (.cons (k := 0) rfl (.cons (k := 3) rfl (.cons (k := 4) rfl (.cons (k := 5) rfl (.cons (k := 28) rfl (.cons (k := 29) rfl (.cons (k := 30) rfl (.cons (k := 31) rfl (.cons (k := 32) rfl (.cons (k := 33) rfl (.cons (k := 34) rfl (.cons (k := 35) rfl (.cons (k := 36) rfl (.cons (k := 37) rfl (.cons (k := 38) rfl (.cons (k := 39) rfl (.nil _))))))))))))))))) (rfl : _ = [arena Γ.g66 (C66 Γ) (env26.f 90) A29, arena Γ.g63 (C63 Γ) F0 A2, arena Γ.g64 (C64 Γ) F0 A3, R]) ?_
 refine .indexAddrA rfl Try.underlying28 Try.sizeOf3 rfl rfl hj19 ?_
 refine .bind (fun x60 e61 => ?_)
 refine .letv (fun x62 e63 => ?_)
 refine .letv (fun A64 e65 => ?_)
 refine .storeR (xs' := A64) (x' := { x60 with book := { x60.book with Bonds := updN x60.book.Bonds j18 0 } }) (us := [(.int .i64 0)]) 0 rfl l_33 (Fz.le_refl _) (len66 Γ) Try.sizeOf3 (hb16.mono l_32) e61 rfl rfl rfl rfl rfl (allLt16 (p := fun j18 => Nat.ble (0 + 4 + 0 + j18 * 1 + 1) 48 = true) rfl rfl rfl rfl rfl rfl rfl rfl rfl rfl rfl rfl rfl rfl rfl rfl _ (idxO_some hj19).2.2.2) (fun F' vs le ⟨q0, q1, q2, q3, q4, q5, q6, q7, h, r0, r1, r2, r3⟩ => ⟨q0, q1, q2, q3, q4, q5, q6, q7, by subst h; exact (allLt16 (p := fun j18 => setMany (cExciseOffice x60 q0 q1 q2 q3 q4 q5 q6 q7) (0 + 4 + 0 + j18 * 1) [(.int .i64 0)] = (cExciseOffice ({ x60 with book := { x60.book with Bonds := updN x60.book.Bonds j18 0 } }) q0 q1 q2 q3 q4 q5 q6 q7)) rfl rfl rfl rfl rfl rfl rfl rfl rfl rfl rfl rfl rfl rfl rfl rfl _ (idxO_some hj19).2.2.2), r0, r1, r2, r3⟩) (by rw [e65, e63] <;> rfl) ?_
 refine .nil ?_
 refine .code ?_
 refine .region ?_
 refine .move rfl rfl ?_
 refine .fieldAddr rfl Try.underlying47 rfl Try.sizeOf3 rfl ?_
 refine .loadF rfl Try.isAgg3 rfl (l_32.mem _ _ hb12) rfl ?_
 refine .move rfl rfl ?_
 refine .fieldAddr rfl Try.underlying47 rfl Try.sizeOf3 rfl ?_
 refine .loadF rfl Try.isAgg3 rfl (l_32.mem _ _ hb12) rfl ?_
 refine .move rfl rfl ?_
 refine .callT [0] rfl Try.call68 rfl rfl rfl rfl (c_excise_office_set _ Γ A64 o4 p5 k6 (h7.mono (Fz.le_trans l_11 l_32)) x8.Bond was24 x8.Amount allowed22) ?_
 rintro r_66 F_67 _ e69 l_68 rfl
 refine .pick [0, 0, 0, 0] (rfl : _ = [arena Γ.g66 (C66 Γ) F_67 r_66, arena Γ.g63 (C63 Γ) F0 A2, arena Γ.g64 (C64 Γ) F0 A3, R]) ?_
 refine .nil ?_
 refine .upR 1 (stays63 Γ) (Fz.le_trans l_11 (Fz.le_trans l_32 l_68)) rfl ?_
 refine .upR 2 (stays64 Γ) (Fz.le_trans l_11 (Fz.le_trans l_32 l_68)) rfl ?_
 exact .endX [0, 0, 0, 0] Try.results58 (.nil) rfl (Fz.le_trans l_11 (Fz.le_trans l_32 l_68)) rfl
noncomputable def m_excise_office_pay (A1 : List ExciseOffice) (A2 : List (List (Int × ApiParcel))) (A3 : List (List (Int × Bool))) (o4 : (Option Nat)) (x8 : ApiDutyEvent) : Option (Out ExciseMisfit ((List ExciseOffice) × (List (List (Int × ApiParcel))) × (List (List (Int × Bool))))) :=
 (o4).bind fun i13 => (A1[i13]?).bind fun x18 => bindX (m_excise_need (decide (x8.Amount ≤ (w64 (x18.book.Due - x18.book.Paid)))) 11) (fun q26 => some (.pan q26)) fun _r_20 => bindv ({ x18 with book := { x18.book with Paid := (w64 (x18.book.Paid + x8.Amount)) } }) fun x27 => bindv (List.set A1 i13 x27) fun A29 => some (.ok (A29, A2, A3))
set_option maxHeartbeats 4000000 in
theorem c_excise_office_pay (F0 : Fz) (Γ : Gam) (A1 : List ExciseOffice) (A2 : List (List (Int × ApiParcel))) (A3 : List (List (Int × Bool))) (o4 : (Option Nat)) (p5 : Option Addr) (_k6 : Unit) (h7 : RepPtr Γ.g66 F0 p5 o4) (x8 : ApiDutyEvent) : CTX Try.prog penc 59 [(.pointer p5), (eApiDutyEvent x8)].toArray F0 [arena Γ.g66 (C66 Γ) F0 A1, arena Γ.g63 (C63 Γ) F0 A2, arena Γ.g64 (C64 Γ) F0 A3] (m_excise_office_pay A1 A2 A3 o4 x8) (fun (_r : (List ExciseOffice) × (List (List (Int × ApiParcel))) × (List (List (Int × Bool)))) _ v => v = .tuple #[]) (fun (r : (List ExciseOffice) × (List (List (Int × ApiParcel))) × (List (List (Int × Bool)))) F' _ => [arena Γ.g66 (C66 Γ) F' r.1, arena Γ.g63 (C63 Γ) F' r.2.1, arena Γ.g64 (C64 Γ) F' r.2.2]) := by
 refine CTX.enter Try.func59 rfl Try.ntmps59 rfl fun r R => ?_
 refine .norm (Sub.refl _) (rfl : _ = [arena Γ.g66 (C66 Γ) F0 A1, arena Γ.g63 (C63 Γ) F0 A2, arena Γ.g64 (C64 Γ) F0 A3, R]) ?_
 unfold m_excise_office_pay
 refine .seq ?_
 refine .region ?_
 refine .boxF (cs := (cApiDutyEvent x8)) rfl rfl rfl (fun b9 F_10 l_11 hb12 => ?_)
 refine .nil ?_
 refine .code ?_
 refine .seq ?_
 refine .keep (.cons (k := 0) rfl (.cons (k := 3) rfl (.nil _))) ?_
 refine .drawZ 14 mixedOK (by kernel_rfl) ?_
 refine .fieldAddr rfl Try.underlying47 rfl Try.sizeOf3 rfl ?_
 refine .loadF rfl Try.isAgg3 rfl hb12 rfl ?_
 refine .move rfl rfl ?_
 refine .bind (fun i13 e14 => ?_)
 obtain ⟨b15, hb16, hp17⟩ := (h7.mono l_11).at e14
 refine .nilCheckR hp17 rfl rfl ?_
 refine .fieldAddr rfl Try.underlying66 rfl Try.sizeOf31 rfl ?_
 refine .fieldAddr rfl Try.underlying31 rfl Try.sizeOf3 rfl ?_
 refine .bind (fun x18 e19 => ?_)
 refine .loadR (Φ := fun v => v = (.int .i64 x18.book.Due)) 0 rfl l_11 hb16 e19 rfl Try.isAgg3 rfl (fun vs ⟨q0, q1, q2, q3, q4, q5, q6, q7, h, r0, r1, r2, r3⟩ => ⟨_, by subst h; exact rfl, rfl⟩) (fun v hv => ?_)
 subst hv
 refine .move rfl rfl ?_
 refine .nilCheckR hp17 rfl rfl ?_
 refine .fieldAddr rfl Try.underlying66 rfl Try.sizeOf31 rfl ?_
 refine .fieldAddr rfl Try.underlying31 rfl Try.sizeOf3 rfl ?_
 refine .loadR (Φ := fun v => v = (.int .i64 x18.book.Paid)) 0 rfl l_11 hb16 e19 rfl Try.isAgg3 rfl (fun vs ⟨q0, q1, q2, q3, q4, q5, q6, q7, h, r0, r1, r2, r3⟩ => ⟨_, by subst h; exact rfl, rfl⟩) (fun v hv => ?_)
 subst hv
 refine .sub rfl rfl rfl ?_
 refine .leq rfl rfl rfl ?_
 refine .pend ?_
 refine .callB [] rfl Try.call41 rfl rfl rfl rfl (c_excise_need _ (decide (x8.Amount ≤ (w64 (x18.book.Due - x18.book.Paid)))) 11) ?_ (fun q26 F_24 _ l_25 => (pan_postX (i := 3) rfl (Fz.le_trans l_11 l_25)))
 rintro r_20 F_21 _ e23 l_22 rfl
 refine .pick [0, 0, 0, 0] (rfl : _ = [arena Γ.g66 (C66 Γ) F0 A1, arena Γ.g63 (C63 Γ) F0 A2, arena Γ.g64 (C64 Γ) F0 A3, R]) ?_
 refine .nil ?_
 refine .code ?_
 refine .keep (.cons (k := 0) rfl (.cons (k := 3) rfl (.nil _))) ?_
 refine .drawZ 11 mixedOK (by kernel_rfl) ?_
 refine .move rfl rfl ?_
 refine .nilCheckR hp17 rfl rfl ?_
 refine .fieldAddr rfl Try.underlying66 rfl Try.sizeOf31 rfl ?_
 refine .fieldAddr rfl Try.underlying31 rfl Try.sizeOf3 rfl ?_
 refine .loadR (Φ := fun v => v = (.int .i64 x18.book.Paid)) 0 rfl (Fz.le_trans l_11 l_22) (hb16.mono l_22) e19 rfl Try.isAgg3 rfl (fun vs ⟨q0, q1, q2, q3, q4, q5, q6, q7, h, r0, r1, r2, r3⟩ => ⟨_, by subst h; exact rfl, rfl⟩) (fun v hv => ?_)
 subst hv
 refine .fieldAddr rfl Try.underlying47 rfl Try.sizeOf3 rfl ?_
 refine .loadF rfl Try.isAgg3 rfl (l_22.mem _ _ hb12) rfl ?_
 refine .add rfl rfl rfl ?_
 refine .nilCheckR hp17 rfl rfl ?_
 refine .fieldAddr rfl Try.underlying66 rfl Try.sizeOf31 rfl ?_
 refine .fieldAddr rfl Try.underlying31 rfl Try.sizeOf3 rfl ?_
 refine .pend ?_
 refine .letv (fun x27 e28 => ?_)
 refine .letv (fun A29 e30 => ?_)
 refine .storeR (xs' := A29) (x' := { x18 with book := { x18.book with Paid := (w64 (x18.book.Paid + x8.Amount)) } }) (us := [(.int .i64 (w64 (x18.book.Paid + x8.Amount)))]) 0 rfl (Fz.le_trans l_11 l_22) (Fz.le_refl _) (len66 Γ) Try.sizeOf3 (hb16.mono l_22) e19 rfl rfl rfl rfl rfl rfl (fun F' vs le ⟨q0, q1, q2, q3, q4, q5, q6, q7, h, r0, r1, r2, r3⟩ => ⟨q0, q1, q2, q3, q4, q5, q6, q7, by subst h; exact rfl, r0, r1, r2, r3⟩) (by rw [e30, e28] <;> rfl) ?_
 refine .nil ?_
 refine .upR 1 (stays63 Γ) (Fz.le_trans l_11 l_22) rfl ?_
 refine .upR 2 (stays64 Γ) (Fz.le_trans l_11 l_22) rfl ?_
 exact .endX [0, 0, 0, 0] Try.results59 (.nil) rfl (Fz.le_trans l_11 l_22) rfl
noncomputable def m_excise_office_deeds (o1 : (Option Nat)) : Option (Nat → (((List ExciseOffice) × (List (List (Int × ApiParcel))) × (List (List (Int × Bool))) × ApiDutyEvent) → Option (Out ExciseMisfit ((List ExciseOffice) × (List (List (Int × ApiParcel))) × (List (List (Int × Bool))))))) :=
 some (arrOf [(fun (x : ((List ExciseOffice) × (List (List (Int × ApiParcel))) × (List (List (Int × Bool))) × ApiDutyEvent)) => m_excise_office_distil x.1 x.2.1 x.2.2.1 o1 x.2.2.2), (fun (x : ((List ExciseOffice) × (List (List (Int × ApiParcel))) × (List (List (Int × Bool))) × ApiDutyEvent)) => m_excise_office_send x.1 x.2.1 x.2.2.1 o1 x.2.2.2), (fun (x : ((List ExciseOffice) × (List (List (Int × ApiParcel))) × (List (List (Int × Bool))) × ApiDutyEvent)) => m_excise_office_receive x.1 x.2.1 x.2.2.1 o1 x.2.2.2), (fun (x : ((List ExciseOffice) × (List (List (Int × ApiParcel))) × (List (List (Int × Bool))) × ApiDutyEvent)) => m_excise_office_release x.1 x.2.1 x.2.2.1 o1 x.2.2.2), (fun (x : ((List ExciseOffice) × (List (List (Int × ApiParcel))) × (List (List (Int × Bool))) × ApiDutyEvent)) => m_excise_office_export x.1 x.2.1 x.2.2.1 o1 x.2.2.2), (fun (x : ((List ExciseOffice) × (List (List (Int × ApiParcel))) × (List (List (Int × Bool))) × ApiDutyEvent)) => m_excise_office_take x.1 x.2.1 x.2.2.1 o1 x.2.2.2), (fun (x : ((List ExciseOffice) × (List (List (Int × ApiParcel))) × (List (List (Int × Bool))) × ApiDutyEvent)) => m_excise_office_pay x.1 x.2.1 x.2.2.1 o1 x.2.2.2)] (fun _ => none))
theorem c_excise_office_deeds (F0 : Fz) (Γ : Gam) (o1 : (Option Nat)) (p2 : Option Addr) (k3 : Unit) (h4 : RepPtr Γ.g66 F0 p2 o1) : CT0 Try.prog 40 [(.pointer p2)].toArray F0 (m_excise_office_deeds o1) (fun r F v => ∃ (p0 : FuncId) (k0 : List Value × List Value) (p1 : FuncId) (k1 : List Value × List Value) (p2 : FuncId) (k2 : List Value × List Value) (p3 : FuncId) (k3 : List Value × List Value) (p4 : FuncId) (k4 : List Value × List Value) (p5 : FuncId) (k5 : List Value × List Value) (p6 : FuncId) (k6 : List Value × List Value), v = (.agg [.func (.func p0) k0.1.toArray k0.2.toArray, .func (.func p1) k1.1.toArray k1.2.toArray, .func (.func p2) k2.1.toArray k2.2.toArray, .func (.func p3) k3.1.toArray k3.2.toArray, .func (.func p4) k4.1.toArray k4.2.toArray, .func (.func p5) k5.1.toArray k5.2.toArray, .func (.func p6) k6.1.toArray k6.2.toArray].toArray) ∧ RepFnX Try.prog penc F p0 k0 (fun (x : ((List ExciseOffice) × (List (List (Int × ApiParcel))) × (List (List (Int × Bool))) × ApiDutyEvent)) _ vs => vs = [(eApiDutyEvent x.2.2.2)]) (fun F (x : ((List ExciseOffice) × (List (List (Int × ApiParcel))) × (List (List (Int × Bool))) × ApiDutyEvent)) => [arena Γ.g66 (C66 Γ) F x.1, arena Γ.g63 (C63 Γ) F x.2.1, arena Γ.g64 (C64 Γ) F x.2.2.1]) (fun (_r : (List ExciseOffice) × (List (List (Int × ApiParcel))) × (List (List (Int × Bool)))) _ v => v = .tuple #[]) (fun F (_x : ((List ExciseOffice) × (List (List (Int × ApiParcel))) × (List (List (Int × Bool))) × ApiDutyEvent)) (r : (List ExciseOffice) × (List (List (Int × ApiParcel))) × (List (List (Int × Bool)))) => [arena Γ.g66 (C66 Γ) F r.1, arena Γ.g63 (C63 Γ) F r.2.1, arena Γ.g64 (C64 Γ) F r.2.2]) (r 0) ∧ RepFnX Try.prog penc F p1 k1 (fun (x : ((List ExciseOffice) × (List (List (Int × ApiParcel))) × (List (List (Int × Bool))) × ApiDutyEvent)) _ vs => vs = [(eApiDutyEvent x.2.2.2)]) (fun F (x : ((List ExciseOffice) × (List (List (Int × ApiParcel))) × (List (List (Int × Bool))) × ApiDutyEvent)) => [arena Γ.g66 (C66 Γ) F x.1, arena Γ.g63 (C63 Γ) F x.2.1, arena Γ.g64 (C64 Γ) F x.2.2.1]) (fun (_r : (List ExciseOffice) × (List (List (Int × ApiParcel))) × (List (List (Int × Bool)))) _ v => v = .tuple #[]) (fun F (_x : ((List ExciseOffice) × (List (List (Int × ApiParcel))) × (List (List (Int × Bool))) × ApiDutyEvent)) (r : (List ExciseOffice) × (List (List (Int × ApiParcel))) × (List (List (Int × Bool)))) => [arena Γ.g66 (C66 Γ) F r.1, arena Γ.g63 (C63 Γ) F r.2.1, arena Γ.g64 (C64 Γ) F r.2.2]) (r 1) ∧ RepFnX Try.prog penc F p2 k2 (fun (x : ((List ExciseOffice) × (List (List (Int × ApiParcel))) × (List (List (Int × Bool))) × ApiDutyEvent)) _ vs => vs = [(eApiDutyEvent x.2.2.2)]) (fun F (x : ((List ExciseOffice) × (List (List (Int × ApiParcel))) × (List (List (Int × Bool))) × ApiDutyEvent)) => [arena Γ.g66 (C66 Γ) F x.1, arena Γ.g63 (C63 Γ) F x.2.1, arena Γ.g64 (C64 Γ) F x.2.2.1]) (fun (_r : (List ExciseOffice) × (List (List (Int × ApiParcel))) × (List (List (Int × Bool)))) _ v => v = .tuple #[]) (fun F (_x : ((List ExciseOffice) × (List (List (Int × ApiParcel))) × (List (List (Int × Bool))) × ApiDutyEvent)) (r : (List ExciseOffice) × (List (List (Int × ApiParcel))) × (List (List (Int × Bool)))) => [arena Γ.g66 (C66 Γ) F r.1, arena Γ.g63 (C63 Γ) F r.2.1, arena Γ.g64 (C64 Γ) F r.2.2]) (r 2) ∧ RepFnX Try.prog penc F p3 k3 (fun (x : ((List ExciseOffice) × (List (List (Int × ApiParcel))) × (List (List (Int × Bool))) × ApiDutyEvent)) _ vs => vs = [(eApiDutyEvent x.2.2.2)]) (fun F (x : ((List ExciseOffice) × (List (List (Int × ApiParcel))) × (List (List (Int × Bool))) × ApiDutyEvent)) => [arena Γ.g66 (C66 Γ) F x.1, arena Γ.g63 (C63 Γ) F x.2.1, arena Γ.g64 (C64 Γ) F x.2.2.1]) (fun (_r : (List ExciseOffice) × (List (List (Int × ApiParcel))) × (List (List (Int × Bool)))) _ v => v = .tuple #[]) (fun F (_x : ((List ExciseOffice) × (List (List (Int × ApiParcel))) × (List (List (Int × Bool))) × ApiDutyEvent)) (r : (List ExciseOffice) × (List (List (Int × ApiParcel))) × (List (List (Int × Bool)))) => [arena Γ.g66 (C66 Γ) F r.1, arena Γ.g63 (C63 Γ) F r.2.1, arena Γ.g64 (C64 Γ) F r.2.2]) (r 3) ∧ RepFnX Try.prog penc F p4 k4 (fun (x : ((List ExciseOffice) × (List (List (Int × ApiParcel))) × (List (List (Int × Bool))) × ApiDutyEvent)) _ vs => vs = [(eApiDutyEvent x.2.2.2)]) (fun F (x : ((List ExciseOffice) × (List (List (Int × ApiParcel))) × (List (List (Int × Bool))) × ApiDutyEvent)) => [arena Γ.g66 (C66 Γ) F x.1, arena Γ.g63 (C63 Γ) F x.2.1, arena Γ.g64 (C64 Γ) F x.2.2.1]) (fun (_r : (List ExciseOffice) × (List (List (Int × ApiParcel))) × (List (List (Int × Bool)))) _ v => v = .tuple #[]) (fun F (_x : ((List ExciseOffice) × (List (List (Int × ApiParcel))) × (List (List (Int × Bool))) × ApiDutyEvent)) (r : (List ExciseOffice) × (List (List (Int × ApiParcel))) × (List (List (Int × Bool)))) => [arena Γ.g66 (C66 Γ) F r.1, arena Γ.g63 (C63 Γ) F r.2.1, arena Γ.g64 (C64 Γ) F r.2.2]) (r 4) ∧ RepFnX Try.prog penc F p5 k5 (fun (x : ((List ExciseOffice) × (List (List (Int × ApiParcel))) × (List (List (Int × Bool))) × ApiDutyEvent)) _ vs => vs = [(eApiDutyEvent x.2.2.2)]) (fun F (x : ((List ExciseOffice) × (List (List (Int × ApiParcel))) × (List (List (Int × Bool))) × ApiDutyEvent)) => [arena Γ.g66 (C66 Γ) F x.1, arena Γ.g63 (C63 Γ) F x.2.1, arena Γ.g64 (C64 Γ) F x.2.2.1]) (fun (_r : (List ExciseOffice) × (List (List (Int × ApiParcel))) × (List (List (Int × Bool)))) _ v => v = .tuple #[]) (fun F (_x : ((List ExciseOffice) × (List (List (Int × ApiParcel))) × (List (List (Int × Bool))) × ApiDutyEvent)) (r : (List ExciseOffice) × (List (List (Int × ApiParcel))) × (List (List (Int × Bool)))) => [arena Γ.g66 (C66 Γ) F r.1, arena Γ.g63 (C63 Γ) F r.2.1, arena Γ.g64 (C64 Γ) F r.2.2]) (r 5) ∧ RepFnX Try.prog penc F p6 k6 (fun (x : ((List ExciseOffice) × (List (List (Int × ApiParcel))) × (List (List (Int × Bool))) × ApiDutyEvent)) _ vs => vs = [(eApiDutyEvent x.2.2.2)]) (fun F (x : ((List ExciseOffice) × (List (List (Int × ApiParcel))) × (List (List (Int × Bool))) × ApiDutyEvent)) => [arena Γ.g66 (C66 Γ) F x.1, arena Γ.g63 (C63 Γ) F x.2.1, arena Γ.g64 (C64 Γ) F x.2.2.1]) (fun (_r : (List ExciseOffice) × (List (List (Int × ApiParcel))) × (List (List (Int × Bool)))) _ v => v = .tuple #[]) (fun F (_x : ((List ExciseOffice) × (List (List (Int × ApiParcel))) × (List (List (Int × Bool))) × ApiDutyEvent)) (r : (List ExciseOffice) × (List (List (Int × ApiParcel))) × (List (List (Int × Bool)))) => [arena Γ.g66 (C66 Γ) F r.1, arena Γ.g63 (C63 Γ) F r.2.1, arena Γ.g64 (C64 Γ) F r.2.2]) (r 6)) := by
 refine CT0.enter Try.func40 rfl Try.ntmps40 rfl fun r R => ?_
 unfold m_excise_office_deeds
 refine .seq ?_
 refine .region ?_
 refine .alloc (cs := [.nilFunc, .nilFunc, .nilFunc, .nilFunc, .nilFunc, .nilFunc, .nilFunc]) rfl Try.zeroValue86 rfl (fun b5 => ?_)
 refine .nil ?_
 refine .code ?_
 refine .seq ?_
 refine .region ?_
 refine .move rfl rfl ?_
 refine .makeFuncB rfl rfl rfl ?_
 refine .move rfl rfl ?_
 refine .makeFuncB rfl rfl rfl ?_
 refine .move rfl rfl ?_
 refine .makeFuncB rfl rfl rfl ?_
 refine .move rfl rfl ?_
 refine .makeFuncB rfl rfl rfl ?_
 refine .move rfl rfl ?_
 refine .makeFuncB rfl rfl rfl ?_
 refine .move rfl rfl ?_
 refine .makeFuncB rfl rfl rfl ?_
 refine .move rfl rfl ?_
 refine .makeFuncB rfl rfl rfl ?_
 have hf6 : RepFnX Try.prog penc F0 53 (([(.pointer p2)] : List Value), ([] : List Value)) (fun (x : ((List ExciseOffice) × (List (List (Int × ApiParcel))) × (List (List (Int × Bool))) × ApiDutyEvent)) _ vs => vs = [(eApiDutyEvent x.2.2.2)]) (fun F (x : ((List ExciseOffice) × (List (List (Int × ApiParcel))) × (List (List (Int × Bool))) × ApiDutyEvent)) => [arena Γ.g66 (C66 Γ) F x.1, arena Γ.g63 (C63 Γ) F x.2.1, arena Γ.g64 (C64 Γ) F x.2.2.1]) (fun (r : (List ExciseOffice) × (List (List (Int × ApiParcel))) × (List (List (Int × Bool)))) _ v => v = .tuple #[]) (fun F (x : ((List ExciseOffice) × (List (List (Int × ApiParcel))) × (List (List (Int × Bool))) × ApiDutyEvent)) (r : (List ExciseOffice) × (List (List (Int × ApiParcel))) × (List (List (Int × Bool)))) => [arena Γ.g66 (C66 Γ) F r.1, arena Γ.g63 (C63 Γ) F r.2.1, arena Γ.g64 (C64 Γ) F r.2.2]) (fun (x : ((List ExciseOffice) × (List (List (Int × ApiParcel))) × (List (List (Int × Bool))) × ApiDutyEvent)) => m_excise_office_distil x.1 x.2.1 x.2.2.1 o1 x.2.2.2) := ⟨Try.call53, fun F' le' x vs hv => by obtain rfl := hv; exact c_excise_office_distil F' _ x.1 x.2.1 x.2.2.1 o1 p2 k3 ((h4).mono le') x.2.2.2⟩
 have hf7 : RepFnX Try.prog penc F0 54 (([(.pointer p2)] : List Value), ([] : List Value)) (fun (x : ((List ExciseOffice) × (List (List (Int × ApiParcel))) × (List (List (Int × Bool))) × ApiDutyEvent)) _ vs => vs = [(eApiDutyEvent x.2.2.2)]) (fun F (x : ((List ExciseOffice) × (List (List (Int × ApiParcel))) × (List (List (Int × Bool))) × ApiDutyEvent)) => [arena Γ.g66 (C66 Γ) F x.1, arena Γ.g63 (C63 Γ) F x.2.1, arena Γ.g64 (C64 Γ) F x.2.2.1]) (fun (r : (List ExciseOffice) × (List (List (Int × ApiParcel))) × (List (List (Int × Bool)))) _ v => v = .tuple #[]) (fun F (x : ((List ExciseOffice) × (List (List (Int × ApiParcel))) × (List (List (Int × Bool))) × ApiDutyEvent)) (r : (List ExciseOffice) × (List (List (Int × ApiParcel))) × (List (List (Int × Bool)))) => [arena Γ.g66 (C66 Γ) F r.1, arena Γ.g63 (C63 Γ) F r.2.1, arena Γ.g64 (C64 Γ) F r.2.2]) (fun (x : ((List ExciseOffice) × (List (List (Int × ApiParcel))) × (List (List (Int × Bool))) × ApiDutyEvent)) => m_excise_office_send x.1 x.2.1 x.2.2.1 o1 x.2.2.2) := ⟨Try.call54, fun F' le' x vs hv => by obtain rfl := hv; exact c_excise_office_send F' _ x.1 x.2.1 x.2.2.1 o1 p2 k3 ((h4).mono le') x.2.2.2⟩
 have hf8 : RepFnX Try.prog penc F0 55 (([(.pointer p2)] : List Value), ([] : List Value)) (fun (x : ((List ExciseOffice) × (List (List (Int × ApiParcel))) × (List (List (Int × Bool))) × ApiDutyEvent)) _ vs => vs = [(eApiDutyEvent x.2.2.2)]) (fun F (x : ((List ExciseOffice) × (List (List (Int × ApiParcel))) × (List (List (Int × Bool))) × ApiDutyEvent)) => [arena Γ.g66 (C66 Γ) F x.1, arena Γ.g63 (C63 Γ) F x.2.1, arena Γ.g64 (C64 Γ) F x.2.2.1]) (fun (r : (List ExciseOffice) × (List (List (Int × ApiParcel))) × (List (List (Int × Bool)))) _ v => v = .tuple #[]) (fun F (x : ((List ExciseOffice) × (List (List (Int × ApiParcel))) × (List (List (Int × Bool))) × ApiDutyEvent)) (r : (List ExciseOffice) × (List (List (Int × ApiParcel))) × (List (List (Int × Bool)))) => [arena Γ.g66 (C66 Γ) F r.1, arena Γ.g63 (C63 Γ) F r.2.1, arena Γ.g64 (C64 Γ) F r.2.2]) (fun (x : ((List ExciseOffice) × (List (List (Int × ApiParcel))) × (List (List (Int × Bool))) × ApiDutyEvent)) => m_excise_office_receive x.1 x.2.1 x.2.2.1 o1 x.2.2.2) := ⟨Try.call55, fun F' le' x vs hv => by obtain rfl := hv; exact c_excise_office_receive F' _ x.1 x.2.1 x.2.2.1 o1 p2 k3 ((h4).mono le') x.2.2.2⟩
 have hf9 : RepFnX Try.prog penc F0 56 (([(.pointer p2)] : List Value), ([] : List Value)) (fun (x : ((List ExciseOffice) × (List (List (Int × ApiParcel))) × (List (List (Int × Bool))) × ApiDutyEvent)) _ vs => vs = [(eApiDutyEvent x.2.2.2)]) (fun F (x : ((List ExciseOffice) × (List (List (Int × ApiParcel))) × (List (List (Int × Bool))) × ApiDutyEvent)) => [arena Γ.g66 (C66 Γ) F x.1, arena Γ.g63 (C63 Γ) F x.2.1, arena Γ.g64 (C64 Γ) F x.2.2.1]) (fun (r : (List ExciseOffice) × (List (List (Int × ApiParcel))) × (List (List (Int × Bool)))) _ v => v = .tuple #[]) (fun F (x : ((List ExciseOffice) × (List (List (Int × ApiParcel))) × (List (List (Int × Bool))) × ApiDutyEvent)) (r : (List ExciseOffice) × (List (List (Int × ApiParcel))) × (List (List (Int × Bool)))) => [arena Γ.g66 (C66 Γ) F r.1, arena Γ.g63 (C63 Γ) F r.2.1, arena Γ.g64 (C64 Γ) F r.2.2]) (fun (x : ((List ExciseOffice) × (List (List (Int × ApiParcel))) × (List (List (Int × Bool))) × ApiDutyEvent)) => m_excise_office_release x.1 x.2.1 x.2.2.1 o1 x.2.2.2) := ⟨Try.call56, fun F' le' x vs hv => by obtain rfl := hv; exact c_excise_office_release F' _ x.1 x.2.1 x.2.2.1 o1 p2 k3 ((h4).mono le') x.2.2.2⟩
 have hf10 : RepFnX Try.prog penc F0 57 (([(.pointer p2)] : List Value), ([] : List Value)) (fun (x : ((List ExciseOffice) × (List (List (Int × ApiParcel))) × (List (List (Int × Bool))) × ApiDutyEvent)) _ vs => vs = [(eApiDutyEvent x.2.2.2)]) (fun F (x : ((List ExciseOffice) × (List (List (Int × ApiParcel))) × (List (List (Int × Bool))) × ApiDutyEvent)) => [arena Γ.g66 (C66 Γ) F x.1, arena Γ.g63 (C63 Γ) F x.2.1, arena Γ.g64 (C64 Γ) F x.2.2.1]) (fun (r : (List ExciseOffice) × (List (List (Int × ApiParcel))) × (List (List (Int × Bool)))) _ v => v = .tuple #[]) (fun F (x : ((List ExciseOffice) × (List (List (Int × ApiParcel))) × (List (List (Int × Bool))) × ApiDutyEvent)) (r : (List ExciseOffice) × (List (List (Int × ApiParcel))) × (List (List (Int × Bool)))) => [arena Γ.g66 (C66 Γ) F r.1, arena Γ.g63 (C63 Γ) F r.2.1, arena Γ.g64 (C64 Γ) F r.2.2]) (fun (x : ((List ExciseOffice) × (List (List (Int × ApiParcel))) × (List (List (Int × Bool))) × ApiDutyEvent)) => m_excise_office_export x.1 x.2.1 x.2.2.1 o1 x.2.2.2) := ⟨Try.call57, fun F' le' x vs hv => by obtain rfl := hv; exact c_excise_office_export F' _ x.1 x.2.1 x.2.2.1 o1 p2 k3 ((h4).mono le') x.2.2.2⟩
 have hf11 : RepFnX Try.prog penc F0 58 (([(.pointer p2)] : List Value), ([] : List Value)) (fun (x : ((List ExciseOffice) × (List (List (Int × ApiParcel))) × (List (List (Int × Bool))) × ApiDutyEvent)) _ vs => vs = [(eApiDutyEvent x.2.2.2)]) (fun F (x : ((List ExciseOffice) × (List (List (Int × ApiParcel))) × (List (List (Int × Bool))) × ApiDutyEvent)) => [arena Γ.g66 (C66 Γ) F x.1, arena Γ.g63 (C63 Γ) F x.2.1, arena Γ.g64 (C64 Γ) F x.2.2.1]) (fun (r : (List ExciseOffice) × (List (List (Int × ApiParcel))) × (List (List (Int × Bool)))) _ v => v = .tuple #[]) (fun F (x : ((List ExciseOffice) × (List (List (Int × ApiParcel))) × (List (List (Int × Bool))) × ApiDutyEvent)) (r : (List ExciseOffice) × (List (List (Int × ApiParcel))) × (List (List (Int × Bool)))) => [arena Γ.g66 (C66 Γ) F r.1, arena Γ.g63 (C63 Γ) F r.2.1, arena Γ.g64 (C64 Γ) F r.2.2]) (fun (x : ((List ExciseOffice) × (List (List (Int × ApiParcel))) × (List (List (Int × Bool))) × ApiDutyEvent)) => m_excise_office_take x.1 x.2.1 x.2.2.1 o1 x.2.2.2) := ⟨Try.call58, fun F' le' x vs hv => by obtain rfl := hv; exact c_excise_office_take F' _ x.1 x.2.1 x.2.2.1 o1 p2 k3 ((h4).mono le') x.2.2.2⟩
 have hf12 : RepFnX Try.prog penc F0 59 (([(.pointer p2)] : List Value), ([] : List Value)) (fun (x : ((List ExciseOffice) × (List (List (Int × ApiParcel))) × (List (List (Int × Bool))) × ApiDutyEvent)) _ vs => vs = [(eApiDutyEvent x.2.2.2)]) (fun F (x : ((List ExciseOffice) × (List (List (Int × ApiParcel))) × (List (List (Int × Bool))) × ApiDutyEvent)) => [arena Γ.g66 (C66 Γ) F x.1, arena Γ.g63 (C63 Γ) F x.2.1, arena Γ.g64 (C64 Γ) F x.2.2.1]) (fun (r : (List ExciseOffice) × (List (List (Int × ApiParcel))) × (List (List (Int × Bool)))) _ v => v = .tuple #[]) (fun F (x : ((List ExciseOffice) × (List (List (Int × ApiParcel))) × (List (List (Int × Bool))) × ApiDutyEvent)) (r : (List ExciseOffice) × (List (List (Int × ApiParcel))) × (List (List (Int × Bool)))) => [arena Γ.g66 (C66 Γ) F r.1, arena Γ.g63 (C63 Γ) F r.2.1, arena Γ.g64 (C64 Γ) F r.2.2]) (fun (x : ((List ExciseOffice) × (List (List (Int × ApiParcel))) × (List (List (Int × Bool))) × ApiDutyEvent)) => m_excise_office_pay x.1 x.2.1 x.2.2.1 o1 x.2.2.2) := ⟨Try.call59, fun F' le' x vs hv => by obtain rfl := hv; exact c_excise_office_pay F' _ x.1 x.2.1 x.2.2.1 o1 p2 k3 ((h4).mono le') x.2.2.2⟩
 refine .buildA (cs := [.func (.func 53) (([(.pointer p2)] : List Value), ([] : List Value)).1.toArray (([(.pointer p2)] : List Value), ([] : List Value)).2.toArray, .func (.func 54) (([(.pointer p2)] : List Value), ([] : List Value)).1.toArray (([(.pointer p2)] : List Value), ([] : List Value)).2.toArray, .func (.func 55) (([(.pointer p2)] : List Value), ([] : List Value)).1.toArray (([(.pointer p2)] : List Value), ([] : List Value)).2.toArray, .func (.func 56) (([(.pointer p2)] : List Value), ([] : List Value)).1.toArray (([(.pointer p2)] : List Value), ([] : List Value)).2.toArray, .func (.func 57) (([(.pointer p2)] : List Value), ([] : List Value)).1.toArray (([(.pointer p2)] : List Value), ([] : List Value)).2.toArray, .func (.func 58) (([(.pointer p2)] : List Value), ([] : List Value)).1.toArray (([(.pointer p2)] : List Value), ([] : List Value)).2.toArray, .func (.func 59) (([(.pointer p2)] : List Value), ([] : List Value)).1.toArray (([(.pointer p2)] : List Value), ([] : List Value)).2.toArray].toArray) rfl Try.underlying86 Try.zeroValue86 Try.sizeOf85 rfl rfl (by kernel_rfl) ?_
 refine .store (cs' := [.func (.func 53) (([(.pointer p2)] : List Value), ([] : List Value)).1.toArray (([(.pointer p2)] : List Value), ([] : List Value)).2.toArray, .func (.func 54) (([(.pointer p2)] : List Value), ([] : List Value)).1.toArray (([(.pointer p2)] : List Value), ([] : List Value)).2.toArray, .func (.func 55) (([(.pointer p2)] : List Value), ([] : List Value)).1.toArray (([(.pointer p2)] : List Value), ([] : List Value)).2.toArray, .func (.func 56) (([(.pointer p2)] : List Value), ([] : List Value)).1.toArray (([(.pointer p2)] : List Value), ([] : List Value)).2.toArray, .func (.func 57) (([(.pointer p2)] : List Value), ([] : List Value)).1.toArray (([(.pointer p2)] : List Value), ([] : List Value)).2.toArray, .func (.func 58) (([(.pointer p2)] : List Value), ([] : List Value)).1.toArray (([(.pointer p2)] : List Value), ([] : List Value)).2.toArray, .func (.func 59) (([(.pointer p2)] : List Value), ([] : List Value)).1.toArray (([(.pointer p2)] : List Value), ([] : List Value)).2.toArray]) Try.sizeOf86 rfl rfl rfl rfl (i := 0) rfl (Nat.le_of_ble_eq_true rfl) rfl (setMany_all (by rfl)) ?_
 refine .nil ?_
 refine .code ?_
 exact .ret0 Try.results40 (.agg rfl Try.isAgg86 Try.sizeOf86 (i := 0) rfl (vs' := [.func (.func 53) (([(.pointer p2)] : List Value), ([] : List Value)).1.toArray (([(.pointer p2)] : List Value), ([] : List Value)).2.toArray, .func (.func 54) (([(.pointer p2)] : List Value), ([] : List Value)).1.toArray (([(.pointer p2)] : List Value), ([] : List Value)).2.toArray, .func (.func 55) (([(.pointer p2)] : List Value), ([] : List Value)).1.toArray (([(.pointer p2)] : List Value), ([] : List Value)).2.toArray, .func (.func 56) (([(.pointer p2)] : List Value), ([] : List Value)).1.toArray (([(.pointer p2)] : List Value), ([] : List Value)).2.toArray, .func (.func 57) (([(.pointer p2)] : List Value), ([] : List Value)).1.toArray (([(.pointer p2)] : List Value), ([] : List Value)).2.toArray, .func (.func 58) (([(.pointer p2)] : List Value), ([] : List Value)).1.toArray (([(.pointer p2)] : List Value), ([] : List Value)).2.toArray, .func (.func 59) (([(.pointer p2)] : List Value), ([] : List Value)).1.toArray (([(.pointer p2)] : List Value), ([] : List Value)).2.toArray]) (by kernel_rfl) rfl (.nil)) (i := 1) rfl (Fz.le_refl _) ⟨53, (([(.pointer p2)] : List Value), ([] : List Value)), 54, (([(.pointer p2)] : List Value), ([] : List Value)), 55, (([(.pointer p2)] : List Value), ([] : List Value)), 56, (([(.pointer p2)] : List Value), ([] : List Value)), 57, (([(.pointer p2)] : List Value), ([] : List Value)), 58, (([(.pointer p2)] : List Value), ([] : List Value)), 59, (([(.pointer p2)] : List Value), ([] : List Value)), rfl, hf6, hf7, hf8, hf9, hf10, hf11, hf12⟩
def m_excise_isBond (n_1 : Int) : Bool :=
 (m_excise_within n_1 0 15)
theorem c_excise_isBond (F0 : Fz) (n_1 : Int) : CT0 Try.prog 60 [(.int .i64 n_1)].toArray F0 (some (m_excise_isBond n_1)) (fun r _ v => v = (.bool r)) := by
 refine CT0.enter Try.func60 rfl Try.ntmps60 rfl fun r R => ?_
 refine .seq ?_
 refine .region ?_
 refine .assign rfl rfl ?_
 refine .nil ?_
 refine .code ?_
 refine .seq ?_
 refine .region ?_
 refine .move rfl rfl ?_
 refine .callP rfl Try.call33 rfl rfl rfl (c_excise_within _ n_1 0 15) ?_
 rintro F_2 _ l_3 rfl
 refine .assign rfl rfl ?_
 refine .nil ?_
 refine .code ?_
 exact .ret0 Try.results60 (.tmp rfl (.nil)) (i := 0) rfl l_3 rfl
noncomputable def m_excise_isEvent (x1 : ApiDutyEvent) : Option Bool :=
 if (!(m_excise_isDay x1.Day)) then (some false) else (bindv (m_excise_within x1.Amount 1 17179869184) fun some11 => (if (x1.Kind == 0) then (some (x1.Kind == 0)) else (if (x1.Kind == 3) then (some (x1.Kind == 3)) else (some (x1.Kind == 4))) : Option (Bool)).bind fun j15 => if j15 then (some ((m_excise_isBond x1.Bond) && some11)) else (if (x1.Kind == 1) then (some ((((m_excise_isBond x1.Bond) && (m_excise_isBond x1.To)) && (m_excise_within x1.Id 0 1073741824)) && some11)) else (if (x1.Kind == 2) then (some (((m_excise_isBond x1.Bond) && (m_excise_within x1.Id 0 1073741824)) && (some11 || (x1.Amount == 0)))) else (if (x1.Kind == 5) then (some ((m_excise_isBond x1.Bond) && (some11 || (x1.Amount == 0)))) else (if (x1.Kind == 6) then (some (m_excise_within x1.Amount 1 72057594037927936)) else (some false))))))
theorem c_excise_isEvent (F0 : Fz) (x1 : ApiDutyEvent) : CT0 Try.prog 42 [(eApiDutyEvent x1)].toArray F0 (m_excise_isEvent x1) (fun r _ v => v = (.bool r)) := by
 refine CT0.enter Try.func42 rfl Try.ntmps42 rfl fun r R => ?_
 unfold m_excise_isEvent
 refine .seq ?_
 refine .region ?_
 refine .boxF (cs := (cApiDutyEvent x1)) rfl rfl rfl (fun b2 F_3 l_4 hb5 => ?_)
 refine .assign rfl rfl ?_
 refine .nil ?_
 refine .code ?_
 refine .seq ?_
 refine .seq ?_
 refine .region ?_
 refine .fieldAddr rfl Try.underlying47 rfl Try.sizeOf3 rfl ?_
 refine .loadF rfl Try.isAgg3 rfl hb5 rfl ?_
 refine .callP rfl Try.call34 rfl rfl rfl (c_excise_isDay _ x1.Day) ?_
 rintro F_6 _ l_7 rfl
 refine .not rfl rfl ?_
 refine .nil ?_
 refine .code ?_
 refine .cond rfl (fun hb8 => ?_) (fun hb8 => ?_)
 ·skip
  refine .seq ?_
  refine .region ?_
  refine .assign rfl rfl ?_
  refine .nil ?_
  refine .code ?_
  exact .ret0 Try.results42 (.tmp rfl (.nil)) (i := 0) rfl (Fz.le_trans l_4 l_7) rfl
 ·skip
  refine .skip ?_
  refine .code ?_
  refine .seq ?_
  refine .region ?_
  refine .fieldAddr rfl Try.underlying47 rfl Try.sizeOf3 rfl ?_
  refine .loadF rfl Try.isAgg3 rfl (l_7.mem _ _ hb5) rfl ?_
  refine .callP rfl Try.call33 rfl rfl rfl (c_excise_within _ x1.Amount 1 17179869184) ?_
  rintro F_9 _ l_10 rfl
  refine .assignB rfl rfl (fun some11 e12 => ?_)
  refine .nil ?_
  refine .code ?_
  refine .seq ?_
  refine .seq ?_
  refine .region ?_
  refine .fieldAddr rfl Try.underlying47 rfl Try.sizeOf3 rfl ?_
  refine .loadF rfl Try.isAgg3 rfl ((Fz.le_trans l_7 l_10).mem _ _ hb5) rfl ?_
  refine .nil ?_
  refine .code ?_
  refine .block ?_
  refine .seq ?_
  refine .seq ?_
  refine .region ?_
  refine .eql rfl rfl rfl ?_
  refine .assign rfl rfl ?_
  refine .nil ?_
  refine .code ?_
  refine .keep (.cons (k := 1) rfl (.cons (k := 3) rfl (.cons (k := 12) rfl (.cons (k := 13) rfl (.nil _))))) ?_
  refine GC.join0 (σ := Bool) (fun j15 a w => ∃ (F_16 : Fz), F_9 ≤ F_16 ∧ Hd 77 [] [(1, (.pointer (some ⟨b2, 0, none⟩))), (3, (.bool some11)), (12, (.int .i64 x1.Kind)), (13, (.bool j15))] F_16 [R] a w) (fun sj => ?_) (fun j15 hs0 => GE.ex (fun a w ⟨F_16, l_17, hA⟩ => ⟨_, hA, ?_⟩))
  ·skip
   refine .cond rfl (fun hb13 => ?_) (fun hb13 => ?_)
   ·skip
    refine .skip ?_
    exact .nil fun e a w h => by cases e; exact ⟨rfl, ⟨F_9, (Fz.le_refl _), h.1.sub (.cons (k := 1) rfl (.cons (k := 3) rfl (.cons (k := 12) rfl (.cons (k := 13) rfl (.nil _))))), h.2⟩⟩
   ·skip
    refine .seq ?_
    refine .region ?_
    refine .eql rfl rfl rfl ?_
    refine .assign rfl rfl ?_
    refine .nil ?_
    refine .code ?_
    refine .cond rfl (fun hb14 => ?_) (fun hb14 => ?_)
    ·skip
     refine .skip ?_
     exact .nil fun e a w h => by cases e; exact ⟨rfl, ⟨F_9, (Fz.le_refl _), h.1.sub (.cons (k := 1) rfl (.cons (k := 3) rfl (.cons (k := 12) rfl (.cons (k := 13) rfl (.nil _))))), h.2⟩⟩
    ·skip
     refine .region ?_
     refine .eql rfl rfl rfl ?_
     refine .assign rfl rfl ?_
     refine .nil ?_
     exact .nil fun e a w h => by cases e; exact ⟨rfl, ⟨F_9, (Fz.le_refl _), h.1.sub (.cons (k := 1) rfl (.cons (k := 3) rfl (.cons (k := 12) rfl (.cons (k := 13) rfl (.nil _))))), h.2⟩⟩
  refine .code ?_
  refine .cond rfl (fun hb18 => ?_) (fun hb18 => ?_)
  ·skip
   refine .seq ?_
   refine .region ?_
   refine .fieldAddr rfl Try.underlying47 rfl Try.sizeOf3 rfl ?_
   refine .loadF rfl Try.isAgg3 rfl ((Fz.le_trans l_7 (Fz.le_trans l_10 l_17)).mem _ _ hb5) rfl ?_
   refine .callP rfl Try.call60 rfl rfl rfl (c_excise_isBond _ x1.Bond) ?_
   rintro F_19 _ l_20 rfl
   refine .move rfl rfl ?_
   refine .andP (b := (m_excise_isBond x1.Bond)) (b' := some11) 2 22 (fun hb21 => ?_) (fun hb22 => ?_) (fun F_23 l_24 => ?_)
   ·skip
    refine .onH hb21 rfl rfl ?_
    refine .move rfl rfl ?_
    refine .pickTH hb21 rfl rfl rfl ?_
    exact .fin 2 rfl rfl (by kernel_rfl) (Fz.le_refl _)
   ·skip
    refine .offH hb22 rfl rfl rfl ?_
    refine .pickFH hb22 rfl rfl rfl ?_
    exact .fin 2 rfl rfl (by kernel_rfl) (Fz.le_refl _)
   refine .assign rfl rfl ?_
   refine .nil ?_
   refine .code ?_
   exact .ret0 Try.results42 (.tmp rfl (.nil)) (i := 0) rfl (Fz.le_trans l_4 (Fz.le_trans l_7 (Fz.le_trans l_10 (Fz.le_trans l_17 (Fz.le_trans l_20 l_24))))) rfl
  ·skip
   refine .seq ?_
   refine .region ?_
   refine .eql rfl rfl rfl ?_
   refine .assign rfl rfl ?_
   refine .nil ?_
   refine .code ?_
   refine .cond rfl (fun hb25 => ?_) (fun hb25 => ?_)
   ·skip
    refine .seq ?_
    refine .region ?_
    refine .fieldAddr rfl Try.underlying47 rfl Try.sizeOf3 rfl ?_
    refine .loadF rfl Try.isAgg3 rfl ((Fz.le_trans l_7 (Fz.le_trans l_10 l_17)).mem _ _ hb5) rfl ?_
    refine .callP rfl Try.call60 rfl rfl rfl (c_excise_isBond _ x1.Bond) ?_
    rintro F_26 _ l_27 rfl
    refine .move rfl rfl ?_
    refine .andP (b := (m_excise_isBond x1.Bond)) (b' := (m_excise_isBond x1.To)) 4 32 (fun hb28 => ?_) (fun hb31 => ?_) (fun F_32 l_33 => ?_)
    ·skip
     refine .onH hb28 rfl rfl ?_
     refine .fieldAddr rfl Try.underlying47 rfl Try.sizeOf3 rfl ?_
     refine .onH hb28 rfl rfl ?_
     refine .loadF rfl Try.isAgg3 rfl ((Fz.le_trans l_7 (Fz.le_trans l_10 (Fz.le_trans l_17 l_27))).mem _ _ hb5) rfl ?_
     refine .onH hb28 rfl rfl ?_
     refine .callP rfl Try.call60 rfl rfl rfl (c_excise_isBond _ x1.To) ?_
     rintro F_29 _ l_30 rfl
     refine .pickTH hb28 rfl rfl rfl ?_
     exact .fin 4 rfl rfl (by kernel_rfl) l_30
    ·skip
     refine .offH hb31 rfl rfl rfl ?_
     refine .offH hb31 rfl rfl rfl ?_
     refine .offH hb31 rfl rfl rfl ?_
     refine .pickFH hb31 rfl rfl rfl ?_
     exact .fin 4 rfl rfl (by kernel_rfl) (Fz.le_refl _)
    refine .move rfl rfl ?_
    refine .andP (b := ((m_excise_isBond x1.Bond) && (m_excise_isBond x1.To))) (b' := (m_excise_within x1.Id 0 1073741824)) 4 37 (fun hb34 => ?_) (fun hb37 => ?_) (fun F_38 l_39 => ?_)
    ·skip
     refine .onH hb34 rfl rfl ?_
     refine .fieldAddr rfl Try.underlying47 rfl Try.sizeOf3 rfl ?_
     refine .onH hb34 rfl rfl ?_
     refine .loadF rfl Try.isAgg3 rfl ((Fz.le_trans l_7 (Fz.le_trans l_10 (Fz.le_trans l_17 (Fz.le_trans l_27 l_33)))).mem _ _ hb5) rfl ?_
     refine .onH hb34 rfl rfl ?_
     refine .callP rfl Try.call33 rfl rfl rfl (c_excise_within _ x1.Id 0 1073741824) ?_
     rintro F_35 _ l_36 rfl
     refine .pickTH hb34 rfl rfl rfl ?_
     exact .fin 4 rfl rfl (by kernel_rfl) l_36
    ·skip
     refine .offH hb37 rfl rfl rfl ?_
     refine .offH hb37 rfl rfl rfl ?_
     refine .offH hb37 rfl rfl rfl ?_
     refine .pickFH hb37 rfl rfl rfl ?_
     exact .fin 4 rfl rfl (by kernel_rfl) (Fz.le_refl _)
    refine .move rfl rfl ?_
    refine .andP (b := (((m_excise_isBond x1.Bond) && (m_excise_isBond x1.To)) && (m_excise_within x1.Id 0 1073741824))) (b' := some11) 2 40 (fun hb40 => ?_) (fun hb41 => ?_) (fun F_42 l_43 => ?_)
    ·skip
     refine .onH hb40 rfl rfl ?_
     refine .move rfl rfl ?_
     refine .pickTH hb40 rfl rfl rfl ?_
     exact .fin 2 rfl rfl (by kernel_rfl) (Fz.le_refl _)
    ·skip
     refine .offH hb41 rfl rfl rfl ?_
     refine .pickFH hb41 rfl rfl rfl ?_
     exact .fin 2 rfl rfl (by kernel_rfl) (Fz.le_refl _)
    refine .assign rfl rfl ?_
    refine .nil ?_
    refine .code ?_
    exact .ret0 Try.results42 (.tmp rfl (.nil)) (i := 0) rfl (Fz.le_trans l_4 (Fz.le_trans l_7 (Fz.le_trans l_10 (Fz.le_trans l_17 (Fz.le_trans l_27 (Fz.le_trans l_33 (Fz.le_trans l_39 l_43))))))) rfl
   ·skip
    refine .seq ?_
    refine .region ?_
    refine .eql rfl rfl rfl ?_
    refine .assign rfl rfl ?_
    refine .nil ?_
    refine .code ?_
    refine .cond rfl (fun hb44 => ?_) (fun hb44 => ?_)
    ·skip
     refine .seq ?_
     refine .region ?_
     refine .fieldAddr rfl Try.underlying47 rfl Try.sizeOf3 rfl ?_
     refine .loadF rfl Try.isAgg3 rfl ((Fz.le_trans l_7 (Fz.le_trans l_10 l_17)).mem _ _ hb5) rfl ?_
     refine .callP rfl Try.call60 rfl rfl rfl (c_excise_isBond _ x1.Bond) ?_
     rintro F_45 _ l_46 rfl
     refine .move rfl rfl ?_
     refine .andP (b := (m_excise_isBond x1.Bond)) (b' := (m_excise_within x1.Id 0 1073741824)) 4 50 (fun hb47 => ?_) (fun hb50 => ?_) (fun F_51 l_52 => ?_)
     ·skip
      refine .onH hb47 rfl rfl ?_
      refine .fieldAddr rfl Try.underlying47 rfl Try.sizeOf3 rfl ?_
      refine .onH hb47 rfl rfl ?_
      refine .loadF rfl Try.isAgg3 rfl ((Fz.le_trans l_7 (Fz.le_trans l_10 (Fz.le_trans l_17 l_46))).mem _ _ hb5) rfl ?_
      refine .onH hb47 rfl rfl ?_
      refine .callP rfl Try.call33 rfl rfl rfl (c_excise_within _ x1.Id 0 1073741824) ?_
      rintro F_48 _ l_49 rfl
      refine .pickTH hb47 rfl rfl rfl ?_
      exact .fin 4 rfl rfl (by kernel_rfl) l_49
     ·skip
      refine .offH hb50 rfl rfl rfl ?_
      refine .offH hb50 rfl rfl rfl ?_
      refine .offH hb50 rfl rfl rfl ?_
      refine .pickFH hb50 rfl rfl rfl ?_
      exact .fin 4 rfl rfl (by kernel_rfl) (Fz.le_refl _)
     refine .move rfl rfl ?_
     refine .andP (b := ((m_excise_isBond x1.Bond) && (m_excise_within x1.Id 0 1073741824))) (b' := (some11 || (x1.Amount == 0))) 7 58 (fun hb53 => ?_) (fun hb58 => ?_) (fun F_59 l_60 => ?_)
     ·skip
      refine .onH hb53 rfl rfl ?_
      refine .move rfl rfl ?_
      refine .onH hb53 rfl rfl ?_
      refine .move rfl rfl ?_
      refine .orP (b := some11) (b' := (x1.Amount == 0)) 4 57 (fun hb54 => ?_) (fun hb55 => ?_) (fun F_56 l_57 => ?_)
      ·skip
       refine .onH hb54 rfl rfl ?_
       refine .fieldAddr rfl Try.underlying47 rfl Try.sizeOf3 rfl ?_
       refine .onH hb54 rfl rfl ?_
       refine .loadF rfl Try.isAgg3 rfl ((Fz.le_trans l_7 (Fz.le_trans l_10 (Fz.le_trans l_17 (Fz.le_trans l_46 l_52)))).mem _ _ hb5) rfl ?_
       refine .onH hb54 rfl rfl ?_
       refine .eql rfl rfl rfl ?_
       refine .onH hb53 rfl rfl ?_
       refine .pickFH hb54 rfl rfl rfl ?_
       exact .fin 4 rfl rfl (by kernel_rfl) (Fz.le_refl _)
      ·skip
       refine .offH hb55 rfl rfl rfl ?_
       refine .offH hb55 rfl rfl rfl ?_
       refine .offH hb55 rfl rfl rfl ?_
       refine .onH hb53 rfl rfl ?_
       refine .pickTH hb55 rfl rfl rfl ?_
       exact .fin 4 rfl rfl (by kernel_rfl) (Fz.le_refl _)
      refine .pickTH hb53 rfl rfl rfl ?_
      exact .fin 4 rfl rfl (by kernel_rfl) l_57
     ·skip
      refine .offH hb58 rfl rfl rfl ?_
      refine .offH hb58 rfl rfl rfl ?_
      refine .off rfl rfl rfl rfl ?_
      refine .off rfl rfl rfl rfl ?_
      refine .off rfl rfl rfl rfl ?_
      refine .offH hb58 rfl rfl rfl ?_
      refine .pickFH hb58 rfl rfl rfl ?_
      exact .fin 7 rfl rfl (by kernel_rfl) (Fz.le_refl _)
     refine .assign rfl rfl ?_
     refine .nil ?_
     refine .code ?_
     exact .ret0 Try.results42 (.tmp rfl (.nil)) (i := 0) rfl (Fz.le_trans l_4 (Fz.le_trans l_7 (Fz.le_trans l_10 (Fz.le_trans l_17 (Fz.le_trans l_46 (Fz.le_trans l_52 l_60)))))) rfl
    ·skip
     refine .seq ?_
     refine .region ?_
     refine .eql rfl rfl rfl ?_
     refine .assign rfl rfl ?_
     refine .nil ?_
     refine .code ?_
     refine .cond rfl (fun hb61 => ?_) (fun hb61 => ?_)
     ·skip
      refine .seq ?_
      refine .region ?_
      refine .fieldAddr rfl Try.underlying47 rfl Try.sizeOf3 rfl ?_
      refine .loadF rfl Try.isAgg3 rfl ((Fz.le_trans l_7 (Fz.le_trans l_10 l_17)).mem _ _ hb5) rfl ?_
      refine .callP rfl Try.call60 rfl rfl rfl (c_excise_isBond _ x1.Bond) ?_
      rintro F_62 _ l_63 rfl
      refine .move rfl rfl ?_
      refine .andP (b := (m_excise_isBond x1.Bond)) (b' := (some11 || (x1.Amount == 0))) 7 71 (fun hb64 => ?_) (fun hb69 => ?_) (fun F_70 l_71 => ?_)
      ·skip
       refine .onH hb64 rfl rfl ?_
       refine .move rfl rfl ?_
       refine .onH hb64 rfl rfl ?_
       refine .move rfl rfl ?_
       refine .orP (b := some11) (b' := (x1.Amount == 0)) 4 70 (fun hb65 => ?_) (fun hb66 => ?_) (fun F_67 l_68 => ?_)
       ·skip
        refine .onH hb65 rfl rfl ?_
        refine .fieldAddr rfl Try.underlying47 rfl Try.sizeOf3 rfl ?_
        refine .onH hb65 rfl rfl ?_
        refine .loadF rfl Try.isAgg3 rfl ((Fz.le_trans l_7 (Fz.le_trans l_10 (Fz.le_trans l_17 l_63))).mem _ _ hb5) rfl ?_
        refine .onH hb65 rfl rfl ?_
        refine .eql rfl rfl rfl ?_
        refine .onH hb64 rfl rfl ?_
        refine .pickFH hb65 rfl rfl rfl ?_
        exact .fin 4 rfl rfl (by kernel_rfl) (Fz.le_refl _)
       ·skip
        refine .offH hb66 rfl rfl rfl ?_
        refine .offH hb66 rfl rfl rfl ?_
        refine .offH hb66 rfl rfl rfl ?_
        refine .onH hb64 rfl rfl ?_
        refine .pickTH hb66 rfl rfl rfl ?_
        exact .fin 4 rfl rfl (by kernel_rfl) (Fz.le_refl _)
       refine .pickTH hb64 rfl rfl rfl ?_
       exact .fin 4 rfl rfl (by kernel_rfl) l_68
      ·skip
       refine .offH hb69 rfl rfl rfl ?_
       refine .offH hb69 rfl rfl rfl ?_
       refine .off rfl rfl rfl rfl ?_
       refine .off rfl rfl rfl rfl ?_
       refine .off rfl rfl rfl rfl ?_
       refine .offH hb69 rfl rfl rfl ?_
       refine .pickFH hb69 rfl rfl rfl ?_
       exact .fin 7 rfl rfl (by kernel_rfl) (Fz.le_refl _)
      refine .assign rfl rfl ?_
      refine .nil ?_
      refine .code ?_
      exact .ret0 Try.results42 (.tmp rfl (.nil)) (i := 0) rfl (Fz.le_trans l_4 (Fz.le_trans l_7 (Fz.le_trans l_10 (Fz.le_trans l_17 (Fz.le_trans l_63 l_71))))) rfl
     ·skip
      refine .seq ?_
      refine .region ?_
      refine .eql rfl rfl rfl ?_
      refine .assign rfl rfl ?_
      refine .nil ?_
      refine .code ?_
      refine .cond rfl (fun hb72 => ?_) (fun hb72 => ?_)
      ·skip
       refine .seq ?_
       refine .region ?_
       refine .fieldAddr rfl Try.underlying47 rfl Try.sizeOf3 rfl ?_
       refine .loadF rfl Try.isAgg3 rfl ((Fz.le_trans l_7 (Fz.le_trans l_10 l_17)).mem _ _ hb5) rfl ?_
       refine .callP rfl Try.call33 rfl rfl rfl (c_excise_within _ x1.Amount 1 72057594037927936) ?_
       rintro F_73 _ l_74 rfl
       refine .assign rfl rfl ?_
       refine .nil ?_
       refine .code ?_
       exact .ret0 Try.results42 (.tmp rfl (.nil)) (i := 0) rfl (Fz.le_trans l_4 (Fz.le_trans l_7 (Fz.le_trans l_10 (Fz.le_trans l_17 l_74)))) rfl
      ·skip
       refine .skip ?_
       refine .block ?_
       refine .code ?_
       refine .seq ?_
       refine .region ?_
       refine .assign rfl rfl ?_
       refine .nil ?_
       refine .code ?_
       exact .ret0 Try.results42 (.tmp rfl (.nil)) (i := 0) rfl (Fz.le_trans l_4 (Fz.le_trans l_7 (Fz.le_trans l_10 l_17))) rfl
theorem c_excise_office_lates (F0 : Fz) (p0 : Option Addr) (c1 : Int) : CT0 Try.prog 61 [(.pointer p0), (.int .i64 c1)].toArray F0 (some ()) (fun (_ : Unit) F v => ∃ b0 b1, v = .func (.func 69) #[] #[.pointer (some ⟨b0, 0, none⟩), .pointer (some ⟨b1, 0, none⟩)] ∧ F.mem b0 = some (.cells [(.pointer p0)].toArray 60) ∧ F.mem b1 = some (.cells [(.int .i64 c1)].toArray 3)) := by
 refine CT0.enter Try.func61 rfl Try.ntmps61 rfl fun r R => ?_
 refine .seq ?_
 refine .region ?_
 refine .boxF (cs := [(.pointer p0)]) rfl rfl rfl (fun b1 F_2 l_3 hb4 => ?_)
 refine .boxF (cs := [(.int .i64 c1)]) rfl rfl rfl (fun b5 F_6 l_7 hb8 => ?_)
 refine .assign rfl rfl ?_
 refine .nil ?_
 refine .code ?_
 refine .seq ?_
 refine .region ?_
 refine .makeFunc rfl rfl ?_
 refine .assign rfl rfl ?_
 refine .nil ?_
 refine .code ?_
 exact .ret0 Try.results61 (.tmp rfl (.nil)) (i := 0) rfl (Fz.le_trans l_3 l_7) ⟨_, _, rfl, (l_7.mem _ _ hb4), hb8⟩
noncomputable def b_excise_office_pass_2 (o4 : (Option Nat)) (x25 : Int) (i29 : Nat) (i39 : Nat) (x59 : (Int × ApiParcel)) (s51 : (List ExciseOffice) × (List (List (Int × ApiParcel)))) : Option ((List ExciseOffice) × (List (List (Int × ApiParcel)))) :=
 ((m_excise_office_late s51.1 o4 x59.2).bind fun r_67 => (if (r_67 == x25) then ((s51.1[i29]?).bind fun x72 => (x72.moving).bind fun i77 => (eqO i77 i39).bind fun _ => (s51.2[i77]?).bind fun x82 => bindv (List.set s51.2 i77 (mapDel x82 x59.1)) fun m_84 => (m_excise_office_use s51.1 o4 x59.2.Amount x25).bind fun r_87 => some (r_87, m_84)) else (some (s51.1, s51.2)) : Option ((List ExciseOffice) × (List (List (Int × ApiParcel))))).bind fun j91 => some (j91.1, j91.2) : Option ((List ExciseOffice) × (List (List (Int × ApiParcel))))).bind fun j94 => some (j94.1, j94.2)
noncomputable def b_excise_office_pass_1 (o4 : (Option Nat)) (x25 : Int) (s23 : (List ExciseOffice) × (List (List (Int × ApiParcel))) × (List (List (Int × Bool)))) : Option ((List ExciseOffice) × (List (List (Int × ApiParcel))) × (List (List (Int × Bool)))) :=
 (o4).bind fun i29 => (s23.1[i29]?).bind fun x34 => (x34.moving).bind fun i39 => (s23.2.1[i39]?).bind fun x44 => (permM (b_excise_office_pass_2 o4 x25 i29 i39) x44 (s23.1, s23.2.1)).bind fun R_97 => some (R_97.1, R_97.2, s23.2.2)
noncomputable def b_excise_office_pass_3 (day8 : Int) (i108 : Nat) (x113 : ExciseOffice) (s115 : Int × (List ExciseOffice)) : Option (Ctl (Int × (List ExciseOffice)) (((List ExciseOffice)))) :=
 if (decide (s115.1 < 16)) then ((idxO 16 s115.1).bind fun j119 => bindv (x113.book.Bonds j119) fun n_121 => (idxO 16 s115.1).bind fun j123 => (s115.2[i108]?).bind fun x125 => bindv ({ x125 with sums := updN x125.sums j123 (w64 ((x125.sums j123) + (w64 (n_121 * (w64 (day8 - x125.day)))))) }) fun x127 => bindv (List.set s115.2 i108 x127) fun A129 => some (.next ((w64 (s115.1 + 1)), A129))) else (some (.done s115.2))
noncomputable def m_excise_office_pass (A1 : List ExciseOffice) (A2 : List (List (Int × ApiParcel))) (A3 : List (List (Int × Bool))) (o4 : (Option Nat)) (day8 : Int) : Option (((List ExciseOffice) × (List (List (Int × ApiParcel))) × (List (List (Int × Bool))))) :=
 (some ()).bind fun _r_13 => (L_excise_office_lates_1 A1 A2 A3 o4 day8).bind fun q20 => (forL (b_excise_office_pass_1 o4) q20.2 ((fun (r : List ExciseOffice × List (List (Int × ApiParcel)) × List (List (Int × Bool))) => (r.1, r.2.1, r.2.2)) q20.1)).bind fun s103 => (o4).bind fun i108 => (s103.1[i108]?).bind fun x113 => (loopM (b_excise_office_pass_3 day8 i108 x113) (0, s103.1)).bind fun b131 => (b131[i108]?).bind fun x134 => bindv ({ x134 with day := day8 }) fun x136 => bindv (List.set b131 i108 x136) fun A138 => some (A138, s103.2.1, s103.2.2)
set_option maxHeartbeats 4000000 in
theorem c_excise_office_pass (F0 : Fz) (Γ : Gam) (A1 : List ExciseOffice) (A2 : List (List (Int × ApiParcel))) (A3 : List (List (Int × Bool))) (o4 : (Option Nat)) (p5 : Option Addr) (k6 : Unit) (h7 : RepPtr Γ.g66 F0 p5 o4) (day8 : Int) : CTH Try.prog 43 [(.pointer p5), (.int .i64 day8)].toArray F0 [arena Γ.g66 (C66 Γ) F0 A1, arena Γ.g63 (C63 Γ) F0 A2, arena Γ.g64 (C64 Γ) F0 A3] (m_excise_office_pass A1 A2 A3 o4 day8) (fun (_r : (List ExciseOffice) × (List (List (Int × ApiParcel))) × (List (List (Int × Bool)))) _ v => v = .tuple #[]) (fun (r : (List ExciseOffice) × (List (List (Int × ApiParcel))) × (List (List (Int × Bool)))) F' => [arena Γ.g66 (C66 Γ) F' r.1, arena Γ.g63 (C63 Γ) F' r.2.1, arena Γ.g64 (C64 Γ) F' r.2.2]) := by
 refine CTH.enterM Try.func43 rfl Try.ntmps43 rfl fun r R => ?_
 refine .norm (Sub.refl _) (rfl : _ = [arena Γ.g66 (C66 Γ) F0 A1, arena Γ.g63 (C63 Γ) F0 A2, arena Γ.g64 (C64 Γ) F0 A3, R]) ?_
 unfold m_excise_office_pass
 refine .seq ?_
 refine .region ?_
 refine .boxF (cs := [(.pointer p5)]) rfl rfl rfl (fun b9 F_10 l_11 hb12 => ?_)
 refine .nil ?_
 refine .code ?_
 refine .seq ?_
 refine .seq ?_
 refine .region ?_
 refine .loadF rfl Try.isAgg60 rfl hb12 rfl ?_
 refine .move rfl rfl ?_
 refine .call0 rfl Try.call61 rfl rfl rfl (c_excise_office_lates _ p5 day8) ?_
 rintro r_13 F_14 _ - l_15 ⟨b16, b17, rfl, hb18, hb19⟩
 refine .nil ?_
 refine .code ?_
 refine .block ?_
 refine .keep (.cons (k := 1) rfl (.cons (k := 2) rfl (.cons (k := 11) rfl (.nil _)))) ?_
 refine .upR 0 (stays66 Γ) (Fz.le_trans l_11 l_15) rfl ?_
 refine .upR 1 (stays63 Γ) (Fz.le_trans l_11 l_15) rfl ?_
 refine .upR 2 (stays64 Γ) (Fz.le_trans l_11 l_15) rfl ?_
 refine .bind (fun q20 e21 => ?_)
 have hit22 : IterX (ρ := List ExciseOffice × List (List (Int × ApiParcel)) × List (List (Int × Bool))) Try.prog F_14 69 [.pointer (some ⟨b16, 0, none⟩), .pointer (some ⟨b17, 0, none⟩)] (fun (x : Int) _ vs => vs = [(.int .i64 x)]) (fun F (r : List ExciseOffice × List (List (Int × ApiParcel)) × List (List (Int × Bool))) => [arena Γ.g66 (C66 Γ) F r.1, arena Γ.g63 (C63 Γ) F r.2.1, arena Γ.g64 (C64 Γ) F r.2.2]) (A1, A2, A3) q20 := IterX.mk' Try.call69 (fun σ ly Y Z upd y F' le' hy hp => ⟨_, c_excise_office_lates_1 F' Γ σ ly Y Z upd y hy hp A1 A2 A3 o4 b16 p5 k6 (le'.mem _ _ hb18) ((h7.mono (Fz.le_trans l_11 l_15)).mono le') day8 b17 (le'.mem _ _ hb19), fun r hr => it_excise_office_lates_1 e21 hr⟩)
 refine .rangeForX (τ := (List ExciseOffice) × (List (List (Int × ApiParcel))) × (List (List (Int × Bool)))) (ρ := List ExciseOffice × List (List (Int × ApiParcel)) × List (List (Int × Bool))) (fun F (r : List ExciseOffice × List (List (Int × ApiParcel)) × List (List (Int × Bool))) => [arena Γ.g66 (C66 Γ) F r.1, arena Γ.g63 (C63 Γ) F r.2.1, arena Γ.g64 (C64 Γ) F r.2.2]) (A1, A2, A3) (fun (r : List ExciseOffice × List (List (Int × ApiParcel)) × List (List (Int × Bool))) => (r.1, r.2.1, r.2.2)) [0, 0, 0] (fun s23 F_24 hs' => hs' = [arena Γ.g66 (C66 Γ) F_24 s23.1, arena Γ.g63 (C63 Γ) F_24 s23.2.1, arena Γ.g64 (C64 Γ) F_24 s23.2.2, R]) rfl hit22 rfl (fun _ _ _ h => by rw [h]; rfl) rfl (fun r F' le' => rfl) ?_ ?_
 ·intro lp Lp F_24 F_28 x25 vs s23 ctl Rp hs' l_26 l_27 hx hI
  obtain rfl := hx
  obtain rfl := hI
  unfold b_excise_office_pass_1
  refine .keep (.cons (k := 1) rfl (.cons (k := 2) rfl (.cons (k := 11) rfl (.cons (k := 12) rfl (.nil _))))) ?_
  refine .region ?_
  refine .assign rfl rfl ?_
  refine .nil ?_
  refine GE.begin 0 rfl ?_
  refine .block ?_
  refine .seq ?_
  refine .region ?_
  refine .loadF rfl Try.isAgg60 rfl ((Fz.le_trans l_15 (Fz.le_trans l_26 l_27)).mem _ _ hb12) rfl ?_
  refine .bind (fun i29 e30 => ?_)
  obtain ⟨b31, hb32, hp33⟩ := (h7.mono (Fz.le_trans l_11 (Fz.le_trans l_15 (Fz.le_trans l_26 l_27)))).at e30
  refine .nilCheckR hp33 rfl rfl ?_
  refine .fieldAddr rfl Try.underlying66 rfl Try.sizeOf63 rfl ?_
  refine .bind (fun x34 e35 => ?_)
  refine .loadR (Φ := fun v => ∃ (p36 : Option Nat) (k37 : Unit), v = (.map p36) ∧ RepRef Γ.g63 F_28 p36 x34.moving) 2 rfl l_27 hb32 e35 rfl Try.isAgg63 rfl (fun vs ⟨q0, q1, q2, q3, q4, q5, q6, q7, h, r0, r1, r2, r3⟩ => ⟨_, by subst h; exact rfl, q4, q5, rfl, r2⟩) (fun v hv => ?_)
  obtain ⟨p36, k37, rfl, h38⟩ := hv
  refine .bind (fun i39 e40 => ?_)
  obtain ⟨b41, hb42, hp43⟩ := h38.at e40
  refine .bind (fun x44 e45 => ?_)
  refine .rangeD 3 rfl hb42 hp43 e45 rfl Try.underlying63 rfl (fun it46 hn47 => ?_)
  refine .nil ?_
  refine .code ?_
  refine .block ?_
  refine .keep (.cons (k := 2) rfl (.cons (k := 4) rfl (.cons (k := 17) rfl (.nil _)))) ?_
  refine .upR 2 (stays66 Γ) l_27 rfl ?_
  refine .upD 3 l_27 hb42 rfl ?_
  refine .mapLoop (B := 2) (b := (b_excise_office_pass_2 o4 x25 i29 i39)) (fun td49 dn50 (s51 : (List ExciseOffice) × (List (List (Int × ApiParcel)))) a w => ∃ (F_53 : Fz), F_28 ≤ F_53 ∧ Hd 70 [] [(2, (.pointer (some ⟨b9, 0, none⟩))), (4, (.int .i64 x25)), (17, (.pointer (some ⟨it46, 0, none⟩)))] F_53 [pt lp (lbusy Lp), Rp, arena Γ.g66 (C66 Γ) F_53 s51.1, iterAr Γ.g63 (fun x : Int => (.int .i64 x)) (fun _ (x : ApiParcel) v => v = (eApiParcel x)) F_53 i39 b41 it46 s51.2 td49 none, arena Γ.g64 (C64 Γ) F_24 s23.2.2, R] a w) rfl ?_ ?_ ?_
  ·exact fun a w h => ⟨F_28, (Fz.le_refl _), h.1.sub (.cons (k := 2) rfl (.cons (k := 4) rfl (.cons (k := 17) rfl (.nil _)))), h.2⟩
  ·intro td49 dn50 s51 hall52
   rcases td49 with _ | ⟨y, ys⟩
   ·skip
    refine GC.ex (fun a w ⟨F_55, l_56, hA⟩ => ⟨_, hA, ?_⟩)
    refine .seq ?_
    refine .region ?_
    refine .nextD0 3 rfl rfl rfl rfl ?_
    refine .extract rfl rfl rfl ?_
    refine .nil ?_
    refine .code ?_
    refine .seq ?_
    refine .condF rfl ?_
    exact .exitOut rfl (MPost.over fun a w h => ⟨F_55, l_56, h.1.sub (.cons (k := 2) rfl (.cons (k := 4) rfl (.cons (k := 17) rfl (.nil _)))), h.2⟩)
   ·skip
    refine GC.ex (fun a w ⟨F_57, l_58, hA⟩ => ⟨_, hA, ?_⟩)
    refine .seq ?_
    refine .region ?_
    refine .nextD1 3 rfl (List.cons_ne_nil _ _) rfl rfl rfl (fun x59 todo60 v61 hp62 hv63 => ?_)
    obtain ⟨s64, hs65⟩ := hall52 x59 (hp62.mem_iff.1 (List.mem_cons_self ..))
    refine .use hs65 ?_
    unfold b_excise_office_pass_2
    refine .extract rfl rfl rfl ?_
    refine .nil ?_
    refine .code ?_
    refine .seq ?_
    refine .condT rfl ?_
    refine .skip ?_
    refine .code ?_
    refine .keep (.cons (k := 2) rfl (.cons (k := 4) rfl (.cons (k := 17) rfl (.nil _)))) ?_
    refine GC.join0 (σ := (List ExciseOffice) × (List (List (Int × ApiParcel)))) (fun j94 a w => ∃ (F_95 : Fz), F_57 ≤ F_95 ∧ Hd 70 [] [(2, (.pointer (some ⟨b9, 0, none⟩))), (4, (.int .i64 x25)), (17, (.pointer (some ⟨it46, 0, none⟩)))] F_95 [pt lp (lbusy Lp), Rp, arena Γ.g66 (C66 Γ) F_95 j94.1, iterAr Γ.g63 (fun x : Int => (.int .i64 x)) (fun _ (x : ApiParcel) v => v = (eApiParcel x)) F_95 i39 b41 it46 j94.2 todo60 none, arena Γ.g64 (C64 Γ) F_24 s23.2.2, R] a w) (fun sj => ?_) (fun j94 hs0 => GE.ex (fun a w ⟨F_95, l_96, hA⟩ => ⟨_, hA, ?_⟩))
    ·skip
     refine .block ?_
     refine .seq ?_
     refine .region ?_
     refine .entryD 3 rfl rfl rfl rfl (fun v hv => ?_)
     obtain rfl := hv _ (Fz.le_refl _)
     refine .extract rfl rfl rfl ?_
     refine .extract rfl rfl rfl ?_
     refine .alloc (cs := (cApiParcel (ApiParcel.mk 0 0 0 0 0))) rfl Try.zeroValue49 rfl (fun b66 => ?_)
     refine .assign rfl rfl ?_
     refine .store (cs' := (cApiParcel x59.2)) Try.sizeOf49 rfl rfl rfl rfl (i := 0) rfl (Nat.le_of_ble_eq_true rfl) rfl (setMany_all (by rfl)) ?_
     refine .nil ?_
     refine .code ?_
     refine .seq ?_
     refine .region ?_
     refine .loadF rfl Try.isAgg60 rfl ((Fz.le_trans l_15 (Fz.le_trans l_26 (Fz.le_trans l_27 l_58))).mem _ _ hb12) rfl ?_
     refine .loadOA rfl Try.isAgg49 Try.sizeOf49 rfl (i := 0) rfl (vs := (cApiParcel x59.2)) (by kernel_rfl) rfl ?_
     refine .callT [3] rfl Try.call37 rfl rfl rfl rfl (c_excise_office_late _ Γ s51.1 o4 p5 k6 (h7.mono (Fz.le_trans l_11 (Fz.le_trans l_15 (Fz.le_trans l_26 (Fz.le_trans l_27 l_58))))) x59.2) ?_
     rintro r_67 F_68 _ e70 l_69 rfl
     refine .pick [1, 1, 1, 0, 0, 0, 0] (rfl : _ = [pt b66 (.cells (cApiParcel x59.2).toArray 49), pt lp (lbusy Lp), Rp, arena Γ.g66 (C66 Γ) F_68 s51.1, iterAr Γ.g63 (fun x : Int => (.int .i64 x)) (fun _ (x : ApiParcel) v => v = (eApiParcel x)) F_57 i39 b41 it46 s51.2 todo60 (some x59), arena Γ.g64 (C64 Γ) F_24 s23.2.2, R]) ?_
     refine .move rfl rfl ?_
     refine .eql rfl rfl rfl ?_
     refine .nil ?_
     refine .code ?_
     refine .keep (.cons (k := 2) rfl (.cons (k := 4) rfl (.cons (k := 5) rfl (.cons (k := 6) rfl (.cons (k := 17) rfl (.cons (k := 27) rfl (.nil _))))))) ?_
     refine GC.join0 (σ := (List ExciseOffice) × (List (List (Int × ApiParcel)))) (fun j91 a w => ∃ (F_92 : Fz), F_68 ≤ F_92 ∧ Hd 70 [] [(2, (.pointer (some ⟨b9, 0, none⟩))), (4, (.int .i64 x25)), (17, (.pointer (some ⟨it46, 0, none⟩)))] F_92 [pt b66 (.cells (cApiParcel x59.2).toArray 49), pt lp (lbusy Lp), Rp, arena Γ.g66 (C66 Γ) F_92 j91.1, iterAr Γ.g63 (fun x : Int => (.int .i64 x)) (fun _ (x : ApiParcel) v => v = (eApiParcel x)) F_92 i39 b41 it46 j91.2 todo60 none, arena Γ.g64 (C64 Γ) F_24 s23.2.2, R] a w) (fun sj => ?_) (fun j91 hs0 => GE.ex (fun a w ⟨F_92, l_93, hA⟩ => ⟨_, hA, ?_⟩))
     ·skip
      refine .cond rfl (fun hb71 => ?_) (fun hb71 => ?_)
      ·skip
       refine .seq ?_
       refine .region ?_
       refine .loadF rfl Try.isAgg60 rfl ((Fz.le_trans l_15 (Fz.le_trans l_26 (Fz.le_trans l_27 (Fz.le_trans l_58 l_69)))).mem _ _ hb12) rfl ?_
       refine .nilCheckR hp33 rfl rfl ?_
       refine .fieldAddr rfl Try.underlying66 rfl Try.sizeOf63 rfl ?_
       refine .bind (fun x72 e73 => ?_)
       refine .loadR (Φ := fun v => ∃ (p74 : Option Nat) (k75 : Unit), v = (.map p74) ∧ RepRef Γ.g63 F_68 p74 x72.moving) 3 rfl (Fz.le_refl _) (hb32.mono (Fz.le_trans l_58 l_69)) e73 rfl Try.isAgg63 rfl (fun vs ⟨q0, q1, q2, q3, q4, q5, q6, q7, h, r0, r1, r2, r3⟩ => ⟨_, by subst h; exact rfl, q4, q5, rfl, r2⟩) (fun v hv => ?_)
       obtain ⟨p74, k75, rfl, h76⟩ := hv
       refine .move rfl rfl ?_
       refine .bind (fun i77 e78 => ?_)
       obtain ⟨b79, hb80, hp81⟩ := h76.at e78
       refine .bind (fun _ e86 => ?_)
       refine .bind (fun x82 e83 => ?_)
       refine .letv (fun m_84 e85 => ?_)
       refine .deleteD (x := x59) 4 rfl (hb42.mono (Fz.le_trans l_58 l_69)) hb80 (eqO_some e86) hp81 e83 (fun _ h => by cases h) rfl Try.underlying63 (.int Try.underlying3) rfl rfl e85 ?_
       refine .nil ?_
       refine .code ?_
       refine .region ?_
       refine .loadF rfl Try.isAgg60 rfl ((Fz.le_trans l_15 (Fz.le_trans l_26 (Fz.le_trans l_27 (Fz.le_trans l_58 l_69)))).mem _ _ hb12) rfl ?_
       refine .fieldAddr rfl Try.underlying49 rfl Try.sizeOf3 rfl ?_
       refine .loadO rfl Try.isAgg3 rfl (i := 0) rfl rfl ?_
       refine .move rfl rfl ?_
       refine .callT [3] rfl Try.call62 rfl rfl rfl rfl (c_excise_office_use _ Γ s51.1 o4 p5 k6 (h7.mono (Fz.le_trans l_11 (Fz.le_trans l_15 (Fz.le_trans l_26 (Fz.le_trans l_27 (Fz.le_trans l_58 l_69)))))) x59.2.Amount x25) ?_
       rintro r_87 F_88 _ e90 l_89 rfl
       refine .pick [1, 1, 1, 0, 0, 0, 0] (rfl : _ = [pt b66 (.cells (cApiParcel x59.2).toArray 49), pt lp (lbusy Lp), Rp, arena Γ.g66 (C66 Γ) F_88 r_87, iterAr Γ.g63 (fun x : Int => (.int .i64 x)) (fun _ (x : ApiParcel) v => v = (eApiParcel x)) F_57 i39 b41 it46 m_84 todo60 none, arena Γ.g64 (C64 Γ) F_24 s23.2.2, R]) ?_
       refine .nil ?_
       refine .upD 4 (Fz.le_trans l_69 l_89) (hb42.mono (Fz.le_trans l_58 (Fz.le_trans l_69 l_89))) rfl ?_
       exact .nil fun e a w h => by cases e; exact ⟨rfl, ⟨F_88, l_89, h.1.sub (.cons (k := 2) rfl (.cons (k := 4) rfl (.cons (k := 17) rfl (.nil _)))), h.2⟩⟩
      ·skip
       refine .skip ?_
       refine .curD 4 rfl ?_
       refine .upD 4 l_69 (hb42.mono (Fz.le_trans l_58 l_69)) rfl ?_
       exact .nil fun e a w h => by cases e; exact ⟨rfl, ⟨F_68, (Fz.le_refl _), h.1.sub (.cons (k := 2) rfl (.cons (k := 4) rfl (.cons (k := 17) rfl (.nil _)))), h.2⟩⟩
     refine .block ?_
     refine .drop 0 ?_
     exact .nil fun e a w h => by cases e; exact ⟨rfl, ⟨F_92, (Fz.le_trans l_69 l_93), h.1.sub (.cons (k := 2) rfl (.cons (k := 4) rfl (.cons (k := 17) rfl (.nil _)))), h.2⟩⟩
    exact .nil (MPost.norm hp62 hs65 fun a w h => ⟨F_95, (Fz.le_trans l_58 l_96), h.1.sub (.cons (k := 2) rfl (.cons (k := 4) rfl (.cons (k := 17) rfl (.nil _)))), h.2⟩)
  ·intro dn50 R_97 hR98 hp99
   refine GE.ex (fun a w ⟨F_100, l_101, hA⟩ => ⟨_, hA, ?_⟩)
   refine .backD 3 rfl ?_
   refine .block ?_
   refine .upR 4 (stays64 Γ) (Fz.le_trans l_27 l_101) rfl ?_
   exact .nil (RP.normF l_101 rfl rfl)
 ·intro q102 F_104 F_105 s103 hs' l_106 l_107 he hI
  obtain rfl := hI
  refine .norm (Sub.refl _) (rfl : _ = [pt q102 (.deferred (some [])), arena Γ.g66 (C66 Γ) F_104 s103.1, arena Γ.g63 (C63 Γ) F_104 s103.2.1, arena Γ.g64 (C64 Γ) F_104 s103.2.2, R]) ?_
  refine .block ?_
  refine .code ?_
  refine .seq ?_
  refine .seq ?_
  refine .region ?_
  refine .loadF rfl Try.isAgg60 rfl ((Fz.le_trans l_15 (Fz.le_trans l_106 l_107)).mem _ _ hb12) rfl ?_
  refine .bind (fun i108 e109 => ?_)
  obtain ⟨b110, hb111, hp112⟩ := (h7.mono (Fz.le_trans l_11 (Fz.le_trans l_15 (Fz.le_trans l_106 l_107)))).at e109
  refine .nilCheckR hp112 rfl rfl ?_
  refine .fieldAddr rfl Try.underlying66 rfl Try.sizeOf31 rfl ?_
  refine .fieldAddr rfl Try.underlying31 rfl Try.sizeOf28 rfl ?_
  refine .bind (fun x113 e114 => ?_)
  refine .loadRA (Φ := fun us => us = ((cArr 16 (cInt .i64)) x113.book.Bonds)) 1 rfl l_107 hb111 e114 rfl Try.isAgg28 Try.sizeOf28 rfl (fun vs ⟨q0, q1, q2, q3, q4, q5, q6, q7, h, r0, r1, r2, r3⟩ => ⟨_, by subst h; rfl, rfl, rfl⟩) (fun us hv => ?_)
  subst hv
  refine .move rfl rfl ?_
  refine .nil ?_
  refine .code ?_
  refine .block ?_
  refine .keep (.cons (k := 1) rfl (.cons (k := 2) rfl (.cons (k := 42) rfl (.cons (k := 43) rfl (.nil _))))) ?_
  refine .upR 1 (stays66 Γ) l_107 rfl ?_
  refine .loop (fun (s115 : Int × (List ExciseOffice)) a w => ∃ (F_116 : Fz), F_105 ≤ F_116 ∧ Hd 70 [dmark q102] [(1, (.int .i64 day8)), (2, (.pointer (some ⟨b9, 0, none⟩))), (42, (.agg ((cArr 16 (cInt .i64)) x113.book.Bonds).toArray)), (43, (.int .i64 s115.1))] F_116 [pt q102 (.deferred (some [])), arena Γ.g66 (C66 Γ) F_116 s115.2, arena Γ.g63 (C63 Γ) F_104 s103.2.1, arena Γ.g64 (C64 Γ) F_104 s103.2.2, R] a w) (fun b131 e a w => e = .exit 4 ∧ ∃ (F_132 : Fz), F_105 ≤ F_132 ∧ Hd 70 [dmark q102] [(1, (.int .i64 day8)), (2, (.pointer (some ⟨b9, 0, none⟩)))] F_132 [pt q102 (.deferred (some [])), arena Γ.g66 (C66 Γ) F_132 b131, arena Γ.g63 (C63 Γ) F_104 s103.2.1, arena Γ.g64 (C64 Γ) F_104 s103.2.2, R] a w) ?_ ?_ ?_
  ·exact fun a w h => ⟨F_105, (Fz.le_refl _), h.1.sub (.cons (k := 1) rfl (.cons (k := 2) rfl (.cons (k := 42) rfl (.cons (k := 43) rfl (.nil _))))), h.2⟩
  ·intro s115 ctl
   refine GC.ex (fun a w ⟨F_116, l_117, hA⟩ => ⟨_, hA, ?_⟩)
   unfold b_excise_office_pass_3
   refine .seq ?_
   refine .region ?_
   refine .lss rfl rfl rfl ?_
   refine .nil ?_
   refine .code ?_
   refine .seq ?_
   refine .cond rfl (fun hb118 => ?_) (fun hb118 => ?_)
   ·skip
    refine .skip ?_
    refine .code ?_
    refine .seq ?_
    refine .block ?_
    refine .seq ?_
    refine .region ?_
    refine .move rfl rfl ?_
    refine .bind (fun j119 hj120 => ?_)
    refine .indexA rfl Try.underlying28 Try.isAgg3 Try.sizeOf3 rfl rfl hj120 (allLt16 (p := fun j119 => (((cArr 16 (cInt .i64)) x113.book.Bonds).toArray)[j119 * 1]? = some (.int .i64 (x113.book.Bonds j119))) rfl rfl rfl rfl rfl rfl rfl rfl rfl rfl rfl rfl rfl rfl rfl rfl _ (idxO_some hj120).2.2.2) ?_
    refine .assign rfl rfl ?_
    refine .assignL rfl rfl (fun n_121 e122 => ?_)
    refine .nil ?_
    refine .code ?_
    refine .keep (.cons (k := 1) rfl (.cons (k := 2) rfl (.cons (k := 7) rfl (.cons (k := 8) rfl (.cons (k := 42) rfl (.cons (k := 43) rfl (.nil _))))))) ?_
    refine .drawZ 18 mixedOK (by kernel_rfl) ?_
    refine .loadF rfl Try.isAgg60 rfl ((Fz.le_trans l_15 (Fz.le_trans l_106 (Fz.le_trans l_107 l_117))).mem _ _ hb12) rfl ?_
    refine .move rfl rfl ?_
    refine .nilCheckR hp112 rfl rfl ?_
    refine .fieldAddr rfl Try.underlying66 rfl Try.sizeOf28 rfl ?_
    refine .bind (fun j123 hj124 => ?_)
    refine .indexAddrA rfl Try.underlying28 Try.sizeOf3 rfl rfl hj124 ?_
    refine .bind (fun x125 e126 => ?_)
    refine .loadR (Φ := fun v => v = (.int .i64 (x125.sums j123))) 1 rfl (Fz.le_refl _) (hb111.mono l_117) e126 rfl Try.isAgg3 rfl (fun vs ⟨q0, q1, q2, q3, q4, q5, q6, q7, h, r0, r1, r2, r3⟩ => ⟨_, by subst h; exact (allLt16 (p := fun j123 => ((cExciseOffice x125 q0 q1 q2 q3 q4 q5 q6 q7))[0 + 31 + j123 * 1]? = some (.int .i64 (x125.sums j123))) rfl rfl rfl rfl rfl rfl rfl rfl rfl rfl rfl rfl rfl rfl rfl rfl _ (idxO_some hj124).2.2.2), rfl⟩) (fun v hv => ?_)
    subst hv
    refine .move rfl rfl ?_
    refine .move rfl rfl ?_
    refine .loadF rfl Try.isAgg60 rfl ((Fz.le_trans l_15 (Fz.le_trans l_106 (Fz.le_trans l_107 l_117))).mem _ _ hb12) rfl ?_
    refine .nilCheckR hp112 rfl rfl ?_
    refine .fieldAddr rfl Try.underlying66 rfl Try.sizeOf3 rfl ?_
    refine .loadR (Φ := fun v => v = (.int .i64 x125.day)) 1 rfl (Fz.le_refl _) (hb111.mono l_117) e126 rfl Try.isAgg3 rfl (fun vs ⟨q0, q1, q2, q3, q4, q5, q6, q7, h, r0, r1, r2, r3⟩ => ⟨_, by subst h; exact rfl, rfl⟩) (fun v hv => ?_)
    subst hv
    refine .sub rfl rfl rfl ?_
    refine .mul rfl rfl rfl ?_
    refine .add rfl rfl rfl ?_
    refine .nilCheckR hp112 rfl rfl ?_
    refine .fieldAddr rfl Try.underlying66 rfl Try.sizeOf28 rfl ?_
    refine .indexAddrA rfl Try.underlying28 Try.sizeOf3 rfl rfl hj124 ?_
    refine .pend ?_
    refine .letv (fun x127 e128 => ?_)
    refine .letv (fun A129 e130 => ?_)
    refine .storeR (xs' := A129) (x' := { x125 with sums := updN x125.sums j123 (w64 ((x125.sums j123) + (w64 (n_121 * (w64 (day8 - x125.day)))))) }) (us := [(.int .i64 (w64 ((x125.sums j123) + (w64 (n_121 * (w64 (day8 - x125.day)))))))]) 1 rfl (Fz.le_refl _) (Fz.le_refl _) (len66 Γ) Try.sizeOf3 (hb111.mono l_117) e126 rfl rfl rfl rfl rfl (allLt16 (p := fun j123 => Nat.ble (0 + 31 + j123 * 1 + 1) 48 = true) rfl rfl rfl rfl rfl rfl rfl rfl rfl rfl rfl rfl rfl rfl rfl rfl _ (idxO_some hj124).2.2.2) (fun F' vs le ⟨q0, q1, q2, q3, q4, q5, q6, q7, h, r0, r1, r2, r3⟩ => ⟨q0, q1, q2, q3, q4, q5, q6, q7, by subst h; exact (allLt16 (p := fun j123 => setMany (cExciseOffice x125 q0 q1 q2 q3 q4 q5 q6 q7) (0 + 31 + j123 * 1) [(.int .i64 (w64 ((x125.sums j123) + (w64 (n_121 * (w64 (day8 - x125.day)))))))] = (cExciseOffice ({ x125 with sums := updN x125.sums j123 (w64 ((x125.sums j123) + (w64 (n_121 * (w64 (day8 - x125.day)))))) }) q0 q1 q2 q3 q4 q5 q6 q7)) rfl rfl rfl rfl rfl rfl rfl rfl rfl rfl rfl rfl rfl rfl rfl rfl _ (idxO_some hj124).2.2.2), r0, r1, r2, r3⟩) (by rw [e130, e128] <;> rfl) ?_
    refine .nil ?_
    refine .block ?_
    refine .code ?_
    refine .region ?_
    refine .add rfl rfl rfl ?_
    refine .move rfl rfl ?_
    refine .nil ?_
    exact .nil (LPost.norm fun a w h => ⟨F_116, l_117, h.1.sub (.cons (k := 1) rfl (.cons (k := 2) rfl (.cons (k := 42) rfl (.cons (k := 43) rfl (.nil _))))), h.2⟩)
   ·skip
    refine .exitOut rfl (LPost.exit fun a w h => ⟨rfl, F_116, l_117, h.1.sub (.cons (k := 1) rfl (.cons (k := 2) rfl (.nil _))), h.2⟩)
  ·intro b131 hb0 hk e a w hD
   obtain ⟨rfl, F_132, l_133, hA⟩ := hD
   refine interp_exit rfl (GE.app ?_ hk a w hA)
   refine .code ?_
   refine .region ?_
   refine .loadF rfl Try.isAgg60 rfl ((Fz.le_trans l_15 (Fz.le_trans l_106 (Fz.le_trans l_107 l_133))).mem _ _ hb12) rfl ?_
   refine .move rfl rfl ?_
   refine .nilCheckR hp112 rfl rfl ?_
   refine .fieldAddr rfl Try.underlying66 rfl Try.sizeOf3 rfl ?_
   refine .bind (fun x134 e135 => ?_)
   refine .letv (fun x136 e137 => ?_)
   refine .letv (fun A138 e139 => ?_)
   refine .storeR (xs' := A138) (x' := { x134 with day := day8 }) (us := [(.int .i64 day8)]) 1 rfl (Fz.le_refl _) (Fz.le_refl _) (len66 Γ) Try.sizeOf3 (hb111.mono l_133) e135 rfl rfl rfl rfl rfl rfl (fun F' vs le ⟨q0, q1, q2, q3, q4, q5, q6, q7, h, r0, r1, r2, r3⟩ => ⟨q0, q1, q2, q3, q4, q5, q6, q7, by subst h; exact rfl, r0, r1, r2, r3⟩) (by rw [e139, e137] <;> rfl) ?_
   refine .nil ?_
   refine .upR 2 (stays63 Γ) (Fz.le_trans l_107 l_133) rfl ?_
   refine .upR 3 (stays64 Γ) (Fz.le_trans l_107 l_133) rfl ?_
   exact .endHM [1, 1, 1, 1] [(0, q102)] Try.results43 ⟨rfl, trivial⟩ (.nil) rfl (Fz.le_trans l_11 (Fz.le_trans l_15 (Fz.le_trans l_106 (Fz.le_trans l_107 l_133)))) rfl
noncomputable def b_excise_play_1 (l_5 : (List ApiDutyEvent)) (day9 : Int) (r_33 : (Option Nat) × (List ExciseOffice) × (List (List (Int × ApiParcel))) × (List (List (Int × Bool)))) (r_42 : (Nat → (((List ExciseOffice) × (List (List (Int × ApiParcel))) × (List (List (Int × Bool))) × ApiDutyEvent) → Option (Out ExciseMisfit ((List ExciseOffice) × (List (List (Int × ApiParcel))) × (List (List (Int × Bool)))))))) (s65 : Int × (List ExciseOffice) × (List (List (Int × ApiParcel))) × (List (List (Int × Bool)))) : Option (Ctl (Int × (List ExciseOffice) × (List (List (Int × ApiParcel))) × (List (List (Int × Bool)))) ((Int × (List ExciseOffice) × (List (List (Int × ApiParcel))) × (List (List (Int × Bool)))) ⊕ (ExciseMisfit × Int × Int × (Option Nat)))) :=
 (if (decide (s65.1 < (l_5.length : Int))) then ((idxL l_5 s65.1).bind fun x69 => some (decide (x69.Day ≤ day9))) else some false).bind fun z82 => if z82 then ((idxL l_5 s65.1).bind fun x85 => (m_excise_isEvent x85).bind fun r_98 => bindX (m_excise_need r_98 1) (fun q105 => some (.done (.inr (q105, s65.1, 0, r_33.1)))) fun _r_99 => (r_33.1).bind fun i106 => (s65.2.1[i106]?).bind fun x111 => bindX (m_excise_need (decide (x85.Day ≥ x111.day)) 7) (fun q119 => some (.done (.inr (q119, s65.1, 0, r_33.1)))) fun _r_113 => (m_excise_office_pass s65.2.1 s65.2.2.1 s65.2.2.2 r_33.1 x85.Day).bind fun r_120 => (idxO 7 x85.Kind).bind fun j124 => bindX ((r_42 j124) (r_120.1, r_120.2.1, r_120.2.2, x85)) (fun q136 => some (.done (.inr (q136, s65.1, 0, r_33.1)))) fun r_130 => bindv (w64 (s65.1 + 1)) fun n_137 => some (.next (n_137, r_130.1, r_130.2.1, r_130.2.2))) else (some (.done (.inl (s65.1, s65.2.1, s65.2.2.1, s65.2.2.2))))
noncomputable def m_excise_play (r_1 : ApiDutyRules) (l_5 : (List ApiDutyEvent)) (day9 : Int) : Option ((Option Nat) × Int × Int × (List ExciseOffice) × (List (List (Int × ApiParcel))) × (List (List (Int × Bool)))) :=
 (m_excise_areRules r_1).bind fun r_27 => if (!r_27) then (some (none, 0, 1, [], [], [])) else (if (decide ((l_5.length : Int) > 4096)) then (some (none, 0, 3, [], [], [])) else (if (!(m_excise_isDay day9)) then (some (none, 0, 2, [], [], [])) else ((m_excise_newOffice ([]) ([]) ([]) r_1).bind fun r_33 => (m_excise_office_deeds r_33.1).bind fun r_42 => (loopM (b_excise_play_1 l_5 day9 r_33 r_42) (0, r_33.2.1, r_33.2.2.1, r_33.2.2.2)).bind fun b0 => match b0 with | .inl b139 => ((m_excise_office_pass b139.2.1 b139.2.2.1 b139.2.2.2 r_33.1 day9).bind fun r_147 => some (r_33.1, b139.1, 0, r_147.1, r_147.2.1, r_147.2.2)) | .inr b139 => (some (none, b139.2.1, b139.1.e, [], [], [])))))
set_option maxHeartbeats 8000000 in
theorem c_excise_play (F0 : Fz) (r_1 : ApiDutyRules) (p2 : Option Addr) (k3 : Nat) (h4 : RepSl 2 (Ex cApiDutyRate) F0 p2 k3 r_1.Rates) (l_5 : (List ApiDutyEvent)) (p6 : Option Addr) (k7 : Nat) (h8 : RepSl 6 (Ex cApiDutyEvent) F0 p6 k7 l_5) (day9 : Int) : CTO Try.prog 25 [(eApiDutyRules r_1 p2 k3), (.slice p6 l_5.length k7), (.int .i64 day9)].toArray F0 (m_excise_play r_1 l_5 day9) (fun (Γ : Gam) (r : (Option Nat) × Int × Int × (List ExciseOffice) × (List (List (Int × ApiParcel))) × (List (List (Int × Bool)))) F v => ∃ (p0 : Option Addr) (_k0 : Unit), v = .tuple #[(.pointer p0), (.int .i64 r.2.1), (.int .i64 r.2.2.1)] ∧ RepPtr Γ.g66 F p0 r.1) (fun (Γ : Gam) (r : (Option Nat) × Int × Int × (List ExciseOffice) × (List (List (Int × ApiParcel))) × (List (List (Int × Bool)))) F' => [arena Γ.g66 (C66 Γ) F' r.2.2.2.1, arena Γ.g63 (C63 Γ) F' r.2.2.2.2.1, arena Γ.g64 (C64 Γ) F' r.2.2.2.2.2]) := by
 refine CTO.enter Try.func25 rfl Try.ntmps25 rfl fun r R => ?_
 refine .newG (fun x10 F_11 l_12 => ?_)
 refine .newG (fun x13 F_14 l_15 => ?_)
 refine .newG (fun x16 F_17 l_18 => ?_)
 refine .newA (C66 (Gam.mk x10 x13 x16)) 2 rfl ?_
 refine .newA (C63 (Gam.mk x10 x13 x16)) 1 rfl ?_
 refine .newA (C64 (Gam.mk x10 x13 x16)) 0 rfl ?_
 refine .pick [2, 1, 0, 0] (rfl : _ = [arena (Gam.mk x10 x13 x16).g66 (C66 (Gam.mk x10 x13 x16)) F_17 ([]), arena (Gam.mk x10 x13 x16).g63 (C63 (Gam.mk x10 x13 x16)) F_17 ([]), arena (Gam.mk x10 x13 x16).g64 (C64 (Gam.mk x10 x13 x16)) F_17 ([]), R]) ?_
 generalize (Gam.mk x10 x13 x16) = Γ
 unfold m_excise_play
 refine .seq ?_
 refine .region ?_
 refine .boxF (cs := (cApiDutyRules r_1 p2 k3)) rfl rfl rfl (fun b19 F_20 l_21 hb22 => ?_)
 refine .alloc (cs := [(.pointer none)]) rfl Try.zeroValue60 rfl (fun b23 => ?_)
 refine .assign rfl rfl ?_
 refine .alloc (cs := [(.int .i64 0)]) rfl Try.zeroValue32 rfl (fun b24 => ?_)
 refine .nil ?_
 refine .code ?_
 refine .seq ?_
 refine .block ?_
 refine .seq ?_
 refine .region ?_
 refine .loadFA rfl Try.isAgg24 Try.sizeOf24 rfl hb22 (vs := (cApiDutyRules r_1 p2 k3)) (by kernel_rfl) rfl ?_
 refine .call0 rfl Try.call32 rfl rfl rfl (c_excise_areRules _ r_1 p2 k3 (h4.mono (Fz.le_trans l_12 (Fz.le_trans l_15 (Fz.le_trans l_18 l_21))))) ?_
 rintro r_27 F_25 _ - l_26 rfl
 refine .not rfl rfl ?_
 refine .assign rfl rfl ?_
 refine .nil ?_
 refine .code ?_
 refine .cond rfl (fun hb28 => ?_) (fun hb28 => ?_)
 ·skip
  refine .seq ?_
  refine .region ?_
  refine .store (cs' := [(.pointer none)]) Try.sizeOf60 rfl rfl rfl rfl (i := 1) rfl (Nat.le_of_ble_eq_true rfl) rfl rfl ?_
  refine .assign rfl rfl ?_
  refine .store (cs' := [(.int .i64 1)]) Try.sizeOf32 rfl rfl rfl rfl (i := 0) rfl (Nat.le_of_ble_eq_true rfl) rfl rfl ?_
  refine .nil ?_
  refine .code ?_
  refine .upR 2 (stays66 Γ) (Fz.le_trans l_21 l_26) rfl ?_
  refine .upR 3 (stays63 Γ) (Fz.le_trans l_21 l_26) rfl ?_
  refine .upR 4 (stays64 Γ) (Fz.le_trans l_21 l_26) rfl ?_
  exact .retQ (ret_postO (Γ := Γ) [2, 2, 2, 2] Try.results25 (.cell rfl Try.isAgg60 (i := 1) rfl rfl (.tmp rfl (.cell rfl Try.isAgg32 (i := 0) rfl rfl (.nil)))) rfl (Fz.le_trans l_12 (Fz.le_trans l_15 (Fz.le_trans l_18 (Fz.le_trans l_21 l_26)))) ⟨none, (), rfl, (RepPtr.nil.mono (Fz.le_trans l_12 (Fz.le_trans l_15 (Fz.le_trans l_18 (Fz.le_trans l_21 l_26)))))⟩)
 ·skip
  refine .seq ?_
  refine .region ?_
  refine .move rfl rfl ?_
  refine .lenS rfl rfl Try.underlying25 rfl ?_
  refine .gtr rfl rfl rfl ?_
  refine .assign rfl rfl ?_
  refine .nil ?_
  refine .code ?_
  refine .cond rfl (fun hb29 => ?_) (fun hb29 => ?_)
  ·skip
   refine .seq ?_
   refine .region ?_
   refine .store (cs' := [(.pointer none)]) Try.sizeOf60 rfl rfl rfl rfl (i := 1) rfl (Nat.le_of_ble_eq_true rfl) rfl rfl ?_
   refine .assign rfl rfl ?_
   refine .store (cs' := [(.int .i64 3)]) Try.sizeOf32 rfl rfl rfl rfl (i := 0) rfl (Nat.le_of_ble_eq_true rfl) rfl rfl ?_
   refine .nil ?_
   refine .code ?_
   refine .upR 2 (stays66 Γ) (Fz.le_trans l_21 l_26) rfl ?_
   refine .upR 3 (stays63 Γ) (Fz.le_trans l_21 l_26) rfl ?_
   refine .upR 4 (stays64 Γ) (Fz.le_trans l_21 l_26) rfl ?_
   exact .retQ (ret_postO (Γ := Γ) [2, 2, 2, 2] Try.results25 (.cell rfl Try.isAgg60 (i := 1) rfl rfl (.tmp rfl (.cell rfl Try.isAgg32 (i := 0) rfl rfl (.nil)))) rfl (Fz.le_trans l_12 (Fz.le_trans l_15 (Fz.le_trans l_18 (Fz.le_trans l_21 l_26)))) ⟨none, (), rfl, (RepPtr.nil.mono (Fz.le_trans l_12 (Fz.le_trans l_15 (Fz.le_trans l_18 (Fz.le_trans l_21 l_26)))))⟩)
  ·skip
   refine .seq ?_
   refine .region ?_
   refine .move rfl rfl ?_
   refine .callP rfl Try.call34 rfl rfl rfl (c_excise_isDay _ day9) ?_
   rintro F_30 _ l_31 rfl
   refine .not rfl rfl ?_
   refine .assign rfl rfl ?_
   refine .nil ?_
   refine .code ?_
   refine .cond rfl (fun hb32 => ?_) (fun hb32 => ?_)
   ·skip
    refine .seq ?_
    refine .region ?_
    refine .store (cs' := [(.pointer none)]) Try.sizeOf60 rfl rfl rfl rfl (i := 1) rfl (Nat.le_of_ble_eq_true rfl) rfl rfl ?_
    refine .assign rfl rfl ?_
    refine .store (cs' := [(.int .i64 2)]) Try.sizeOf32 rfl rfl rfl rfl (i := 0) rfl (Nat.le_of_ble_eq_true rfl) rfl rfl ?_
    refine .nil ?_
    refine .code ?_
    refine .upR 2 (stays66 Γ) (Fz.le_trans l_21 (Fz.le_trans l_26 l_31)) rfl ?_
    refine .upR 3 (stays63 Γ) (Fz.le_trans l_21 (Fz.le_trans l_26 l_31)) rfl ?_
    refine .upR 4 (stays64 Γ) (Fz.le_trans l_21 (Fz.le_trans l_26 l_31)) rfl ?_
    exact .retQ (ret_postO (Γ := Γ) [2, 2, 2, 2] Try.results25 (.cell rfl Try.isAgg60 (i := 1) rfl rfl (.tmp rfl (.cell rfl Try.isAgg32 (i := 0) rfl rfl (.nil)))) rfl (Fz.le_trans l_12 (Fz.le_trans l_15 (Fz.le_trans l_18 (Fz.le_trans l_21 (Fz.le_trans l_26 l_31))))) ⟨none, (), rfl, (RepPtr.nil.mono (Fz.le_trans l_12 (Fz.le_trans l_15 (Fz.le_trans l_18 (Fz.le_trans l_21 (Fz.le_trans l_26 l_31))))))⟩)
   ·skip
    refine .skip ?_
    refine .block ?_
    refine .code ?_
    refine .seq ?_
    refine .region ?_
    refine .makeFunc rfl rfl ?_
    refine .defer rfl ?_
    refine .nil ?_
    refine .code ?_
    refine .seq ?_
    refine .region ?_
    refine .loadFA rfl Try.isAgg24 Try.sizeOf24 rfl ((Fz.le_trans l_26 l_31).mem _ _ hb22) (vs := (cApiDutyRules r_1 p2 k3)) (by kernel_rfl) rfl ?_
    refine .upR 2 (stays66 Γ) (Fz.le_trans l_21 (Fz.le_trans l_26 l_31)) rfl ?_
    refine .upR 3 (stays63 Γ) (Fz.le_trans l_21 (Fz.le_trans l_26 l_31)) rfl ?_
    refine .upR 4 (stays64 Γ) (Fz.le_trans l_21 (Fz.le_trans l_26 l_31)) rfl ?_
    refine .callT [2, 2, 2] rfl Try.call39 rfl rfl rfl rfl (c_excise_newOffice _ Γ ([]) ([]) ([]) r_1 p2 k3 (h4.mono (Fz.le_trans l_12 (Fz.le_trans l_15 (Fz.le_trans l_18 (Fz.le_trans l_21 (Fz.le_trans l_26 l_31))))))) ?_
    rintro r_33 F_34 _ e36 l_35 ⟨p37, k38, rfl, h39⟩
    refine .pick [3, 3, 0, 0, 0, 0] (rfl : _ = [pt b24 (.cells [(.int .i64 0)].toArray 32), pt b23 (.cells [(.pointer none)].toArray 60), arena Γ.g66 (C66 Γ) F_34 r_33.2.1, arena Γ.g63 (C63 Γ) F_34 r_33.2.2.1, arena Γ.g64 (C64 Γ) F_34 r_33.2.2.2, R]) ?_
    refine .store (cs' := [(.pointer p37)]) Try.sizeOf60 rfl rfl rfl rfl (i := 1) rfl (Nat.le_of_ble_eq_true rfl) rfl rfl ?_
    refine .nil ?_
    refine .code ?_
    refine .seq ?_
    refine .region ?_
    refine .loadO rfl Try.isAgg60 rfl (i := 1) rfl rfl ?_
    refine .call0 rfl Try.call40 rfl rfl rfl (c_excise_office_deeds _ Γ r_33.1 p37 k38 h39) ?_
    rintro r_42 F_40 _ - l_41 ⟨p43, k44, p46, k47, p49, k50, p52, k53, p55, k56, p58, k59, p61, k62, rfl, h45, h48, h51, h54, h57, h60, h63⟩
    refine .alloc (cs := [.nilFunc, .nilFunc, .nilFunc, .nilFunc, .nilFunc, .nilFunc, .nilFunc]) rfl Try.zeroValue86 rfl (fun b64 => ?_)
    refine .store (cs' := [.func (.func p43) k44.1.toArray k44.2.toArray, .func (.func p46) k47.1.toArray k47.2.toArray, .func (.func p49) k50.1.toArray k50.2.toArray, .func (.func p52) k53.1.toArray k53.2.toArray, .func (.func p55) k56.1.toArray k56.2.toArray, .func (.func p58) k59.1.toArray k59.2.toArray, .func (.func p61) k62.1.toArray k62.2.toArray]) Try.sizeOf86 rfl rfl rfl rfl (i := 0) rfl (Nat.le_of_ble_eq_true rfl) rfl (setMany_all (by rfl)) ?_
    refine .nil ?_
    refine .keep (.cons (k := 1) rfl (.cons (k := 2) rfl (.cons (k := 6) rfl (.cons (k := 7) rfl (.cons (k := 8) rfl (.cons (k := 9) rfl (.nil _))))))) ?_
    refine .code ?_
    refine .seq ?_
    refine .block ?_
    refine .keep (.cons (k := 1) rfl (.cons (k := 2) rfl (.cons (k := 6) rfl (.cons (k := 7) rfl (.cons (k := 8) rfl (.cons (k := 9) rfl (.nil _))))))) ?_
    refine .upR 3 (stays66 Γ) l_41 rfl ?_
    refine .upR 4 (stays63 Γ) l_41 rfl ?_
    refine .upR 5 (stays64 Γ) l_41 rfl ?_
    refine .loop (fun (s65 : Int × (List ExciseOffice) × (List (List (Int × ApiParcel))) × (List (List (Int × Bool)))) a w => ∃ (F_66 : Fz), F_40 ≤ F_66 ∧ Hd 73 [(dclo 38 [(.pointer (some ⟨b23, 0, none⟩)), (.pointer (some ⟨b24, 0, none⟩))])] [(1, (.slice p6 l_5.length k7)), (2, (.int .i64 day9)), (6, (.pointer (some ⟨b23, 0, none⟩))), (7, (.int .i64 s65.1)), (8, (.pointer (some ⟨b24, 0, none⟩))), (9, (.pointer (some ⟨b64, 0, none⟩)))] F_66 [pt b64 (.cells [.func (.func p43) k44.1.toArray k44.2.toArray, .func (.func p46) k47.1.toArray k47.2.toArray, .func (.func p49) k50.1.toArray k50.2.toArray, .func (.func p52) k53.1.toArray k53.2.toArray, .func (.func p55) k56.1.toArray k56.2.toArray, .func (.func p58) k59.1.toArray k59.2.toArray, .func (.func p61) k62.1.toArray k62.2.toArray].toArray 86), pt b24 (.cells [(.int .i64 0)].toArray 32), pt b23 (.cells [(.pointer p37)].toArray 60), arena Γ.g66 (C66 Γ) F_66 s65.2.1, arena Γ.g63 (C63 Γ) F_66 s65.2.2.1, arena Γ.g64 (C64 Γ) F_66 s65.2.2.2, R] a w) (fun b0 e a w => match b0 with | .inl b139 => e = .exit 1 ∧ ∃ (F_140 : Fz), F_40 ≤ F_140 ∧ Hd 73 [(dclo 38 [(.pointer (some ⟨b23, 0, none⟩)), (.pointer (some ⟨b24, 0, none⟩))])] [(2, (.int .i64 day9)), (6, (.pointer (some ⟨b23, 0, none⟩))), (7, (.int .i64 b139.1)), (8, (.pointer (some ⟨b24, 0, none⟩)))] F_140 [pt b64 (.cells [.func (.func p43) k44.1.toArray k44.2.toArray, .func (.func p46) k47.1.toArray k47.2.toArray, .func (.func p49) k50.1.toArray k50.2.toArray, .func (.func p52) k53.1.toArray k53.2.toArray, .func (.func p55) k56.1.toArray k56.2.toArray, .func (.func p58) k59.1.toArray k59.2.toArray, .func (.func p61) k62.1.toArray k62.2.toArray].toArray 86), pt b24 (.cells [(.int .i64 0)].toArray 32), pt b23 (.cells [(.pointer p37)].toArray 60), arena Γ.g66 (C66 Γ) F_140 b139.2.1, arena Γ.g63 (C63 Γ) F_140 b139.2.2.1, arena Γ.g64 (C64 Γ) F_140 b139.2.2.2, R] a w | .inr b139 => e = .panic [{ v := penc b139.1, recovered := false }] ∧ ∃ (F_142 : Fz) (p144 : Option Addr) (k145 : Unit), F_40 ≤ F_142 ∧ RepPtr Γ.g66 F_142 p144 b139.2.2.2 ∧ Hd 73 [(dclo 38 [(.pointer (some ⟨b23, 0, none⟩)), (.pointer (some ⟨b24, 0, none⟩))])] [(6, (.pointer (some ⟨b23, 0, none⟩))), (7, (.int .i64 b139.2.1)), (8, (.pointer (some ⟨b24, 0, none⟩)))] F_142 [pt b24 (.cells [(.int .i64 b139.2.2.1)].toArray 32), pt b23 (.cells [(.pointer p144)].toArray 60), R] a w) ?_ ?_ ?_
    ·exact fun a w h => ⟨F_40, (Fz.le_refl _), h.1.sub (.cons (k := 1) rfl (.cons (k := 2) rfl (.cons (k := 6) rfl (.cons (k := 7) rfl (.cons (k := 8) rfl (.cons (k := 9) rfl (.nil _))))))), h.2⟩
    ·intro s65 ctl
     refine GC.ex (fun a w ⟨F_66, l_67, hA⟩ => ⟨_, hA, ?_⟩)
     unfold b_excise_play_1
     refine .seq ?_
     refine .seq ?_
     refine .region ?_
     refine .move rfl rfl ?_
     refine .move rfl rfl ?_
     refine .lenS rfl rfl Try.underlying25 rfl ?_
     refine .lss rfl rfl rfl ?_
     refine .move rfl rfl ?_
     refine .andM (b := (decide (s65.1 < (l_5.length : Int)))) 8 40 (fun hb68 z83 => ?_) (fun hb79 => ?_) (fun z82 F_80 l_81 => ?_)
     ·skip
      refine .onH hb68 rfl rfl ?_
      refine .move rfl rfl ?_
      refine .onH hb68 rfl rfl ?_
      refine .move rfl rfl ?_
      refine .onH hb68 rfl rfl ?_
      refine .idx rfl Try.underlying25 Try.sizeOf47 (h8.mono (Fz.le_trans l_12 (Fz.le_trans l_15 (Fz.le_trans l_18 (Fz.le_trans l_21 (Fz.le_trans l_26 (Fz.le_trans l_31 (Fz.le_trans l_35 (Fz.le_trans l_41 l_67))))))))) rfl rfl (fun x69 b70 o71 T72 fr73 cs74 e75 hm76 hv77 => ?_)
      refine .onH hb68 rfl rfl ?_
      refine .fieldAddr rfl Try.underlying47 rfl Try.sizeOf3 rfl ?_
      refine .onH hb68 rfl rfl ?_
      refine .loadF rfl Try.isAgg3 rfl hm76 (cell_of_take (k := 1) hv77 rfl) ?_
      refine .onH hb68 rfl rfl ?_
      refine .move rfl rfl ?_
      refine .onH hb68 rfl rfl ?_
      refine .leq rfl rfl rfl ?_
      refine .pickTH hb68 rfl rfl rfl ?_
      exact .finZ 8 rfl rfl (by kernel_rfl) (Fz.le_refl _)
     ·skip
      refine .offH hb79 rfl rfl rfl ?_
      refine .offH hb79 rfl rfl rfl ?_
      refine .offH hb79 rfl rfl rfl ?_
      refine .offH hb79 rfl rfl rfl ?_
      refine .offH hb79 rfl rfl rfl ?_
      refine .offH hb79 rfl rfl rfl ?_
      refine .offH hb79 rfl rfl rfl ?_
      refine .pickFH hb79 rfl rfl rfl ?_
      exact .fin 8 rfl rfl (by kernel_rfl) (Fz.le_refl _)
     refine .nil ?_
     refine .code ?_
     refine .cond rfl (fun hb84 => ?_) (fun hb84 => ?_)
     ·skip
      refine .skip ?_
      refine .code ?_
      refine .block ?_
      refine .seq ?_
      refine .region ?_
      refine .move rfl rfl ?_
      refine .move rfl rfl ?_
      refine .idx rfl Try.underlying25 Try.sizeOf47 (h8.mono (Fz.le_trans l_12 (Fz.le_trans l_15 (Fz.le_trans l_18 (Fz.le_trans l_21 (Fz.le_trans l_26 (Fz.le_trans l_31 (Fz.le_trans l_35 (Fz.le_trans l_41 (Fz.le_trans l_67 l_81)))))))))) rfl rfl (fun x85 b86 o87 T88 fr89 cs90 e91 hm92 hv93 => ?_)
      refine .loadFA rfl Try.isAgg47 Try.sizeOf47 rfl hm92 hv93 rfl ?_
      refine .alloc (cs := (cApiDutyEvent (ApiDutyEvent.mk 0 0 0 0 0 0))) rfl Try.zeroValue47 rfl (fun b95 => ?_)
      refine .store (cs' := (cApiDutyEvent x85)) Try.sizeOf47 rfl rfl rfl rfl (i := 0) rfl (Nat.le_of_ble_eq_true rfl) rfl (setMany_all (by rfl)) ?_
      refine .nil ?_
      refine .code ?_
      refine .seq ?_
      refine .region ?_
      refine .loadOA rfl Try.isAgg47 Try.sizeOf47 rfl (i := 0) rfl (vs := (cApiDutyEvent x85)) (by kernel_rfl) rfl ?_
      refine .call0 rfl Try.call42 rfl rfl rfl (c_excise_isEvent _ x85) ?_
      rintro r_98 F_96 _ - l_97 rfl
      refine .callB [] rfl Try.call41 rfl rfl rfl rfl (c_excise_need _ r_98 1) ?_ (fun q105 F_103 _ l_104 => (LPost.panQ fun a w h => ⟨rfl, F_103, p37, k38, (Fz.le_trans l_67 (Fz.le_trans l_81 (Fz.le_trans l_97 l_104))), (h39.mono (Fz.le_trans l_41 (Fz.le_trans l_67 (Fz.le_trans l_81 (Fz.le_trans l_97 l_104))))), h.1.sub (.cons (k := 6) rfl (.cons (k := 7) rfl (.cons (k := 8) rfl (.nil _)))), SH.picks [2, 2, 5] rfl h.2⟩))
      rintro r_99 F_100 _ e102 l_101 rfl
      refine .pick [0, 0, 0, 0, 0, 0, 0, 0] (rfl : _ = [pt b95 (.cells (cApiDutyEvent x85).toArray 47), pt b64 (.cells [.func (.func p43) k44.1.toArray k44.2.toArray, .func (.func p46) k47.1.toArray k47.2.toArray, .func (.func p49) k50.1.toArray k50.2.toArray, .func (.func p52) k53.1.toArray k53.2.toArray, .func (.func p55) k56.1.toArray k56.2.toArray, .func (.func p58) k59.1.toArray k59.2.toArray, .func (.func p61) k62.1.toArray k62.2.toArray].toArray 86), pt b24 (.cells [(.int .i64 0)].toArray 32), pt b23 (.cells [(.pointer p37)].toArray 60), arena Γ.g66 (C66 Γ) F_66 s65.2.1, arena Γ.g63 (C63 Γ) F_66 s65.2.2.1, arena Γ.g64 (C64 Γ) F_66 s65.2.2.2, R]) ?_
      refine .nil ?_
      refine .code ?_
      refine .seq ?_
      refine .keep (.cons (k := 1) rfl (.cons (k := 2) rfl (.cons (k := 6) rfl (.cons (k := 7) rfl (.cons (k := 8) rfl (.cons (k := 9) rfl (.cons (k := 10) rfl (.nil _)))))))) ?_
      refine .drawZ 7 mixedOK (by kernel_rfl) ?_
      refine .fieldAddr rfl Try.underlying47 rfl Try.sizeOf3 rfl ?_
      refine .loadO rfl Try.isAgg3 rfl (i := 0) rfl rfl ?_
      refine .loadO rfl Try.isAgg60 rfl (i := 3) rfl rfl ?_
      refine .bind (fun i106 e107 => ?_)
      obtain ⟨b108, hb109, hp110⟩ := (h39.mono (Fz.le_trans l_41 (Fz.le_trans l_67 (Fz.le_trans l_81 (Fz.le_trans l_97 l_101))))).at e107
      refine .nilCheckR hp110 rfl rfl ?_
      refine .fieldAddr rfl Try.underlying66 rfl Try.sizeOf3 rfl ?_
      refine .bind (fun x111 e112 => ?_)
      refine .loadR (Φ := fun v => v = (.int .i64 x111.day)) 4 rfl (Fz.le_trans l_81 (Fz.le_trans l_97 l_101)) hb109 e112 rfl Try.isAgg3 rfl (fun vs ⟨q0, q1, q2, q3, q4, q5, q6, q7, h, r0, r1, r2, r3⟩ => ⟨_, by subst h; exact rfl, rfl⟩) (fun v hv => ?_)
      subst hv
      refine .geq rfl rfl rfl ?_
      refine .pend ?_
      refine .callB [] rfl Try.call41 rfl rfl rfl rfl (c_excise_need _ (decide (x85.Day ≥ x111.day)) 7) ?_ (fun q119 F_117 _ l_118 => (LPost.panQ fun a w h => ⟨rfl, F_117, p37, k38, (Fz.le_trans l_67 (Fz.le_trans l_81 (Fz.le_trans l_97 (Fz.le_trans l_101 l_118)))), (h39.mono (Fz.le_trans l_41 (Fz.le_trans l_67 (Fz.le_trans l_81 (Fz.le_trans l_97 (Fz.le_trans l_101 l_118)))))), h.1.sub (.cons (k := 6) rfl (.cons (k := 7) rfl (.cons (k := 8) rfl (.nil _)))), SH.picks [2, 2, 5] rfl h.2⟩))
      rintro r_113 F_114 _ e116 l_115 rfl
      refine .pick [0, 0, 0, 0, 0, 0, 0, 0] (rfl : _ = [pt b95 (.cells (cApiDutyEvent x85).toArray 47), pt b64 (.cells [.func (.func p43) k44.1.toArray k44.2.toArray, .func (.func p46) k47.1.toArray k47.2.toArray, .func (.func p49) k50.1.toArray k50.2.toArray, .func (.func p52) k53.1.toArray k53.2.toArray, .func (.func p55) k56.1.toArray k56.2.toArray, .func (.func p58) k59.1.toArray k59.2.toArray, .func (.func p61) k62.1.toArray k62.2.toArray].toArray 86), pt b24 (.cells [(.int .i64 0)].toArray 32), pt b23 (.cells [(.pointer p37)].toArray 60), arena Γ.g66 (C66 Γ) F_66 s65.2.1, arena Γ.g63 (C63 Γ) F_66 s65.2.2.1, arena Γ.g64 (C64 Γ) F_66 s65.2.2.2, R]) ?_
      refine .nil ?_
      refine .code ?_
      refine .seq ?_
      refine .region ?_
      refine .loadO rfl Try.isAgg60 rfl (i := 3) rfl rfl ?_
      refine .fieldAddr rfl Try.underlying47 rfl Try.sizeOf3 rfl ?_
      refine .loadO rfl Try.isAgg3 rfl (i := 0) rfl rfl ?_
      refine .upR 4 (stays66 Γ) (Fz.le_trans l_81 (Fz.le_trans l_97 (Fz.le_trans l_101 l_115))) rfl ?_
      refine .upR 5 (stays63 Γ) (Fz.le_trans l_81 (Fz.le_trans l_97 (Fz.le_trans l_101 l_115))) rfl ?_
      refine .upR 6 (stays64 Γ) (Fz.le_trans l_81 (Fz.le_trans l_97 (Fz.le_trans l_101 l_115))) rfl ?_
      refine .callT [4, 4, 4] rfl Try.call43 rfl rfl rfl rfl (c_excise_office_pass _ Γ s65.2.1 s65.2.2.1 s65.2.2.2 r_33.1 p37 k38 (h39.mono (Fz.le_trans l_41 (Fz.le_trans l_67 (Fz.le_trans l_81 (Fz.le_trans l_97 (Fz.le_trans l_101 l_115)))))) x85.Day) ?_
      rintro r_120 F_121 _ e123 l_122 rfl
      refine .pick [3, 3, 3, 3, 0, 0, 0, 0] (rfl : _ = [pt b95 (.cells (cApiDutyEvent x85).toArray 47), pt b64 (.cells [.func (.func p43) k44.1.toArray k44.2.toArray, .func (.func p46) k47.1.toArray k47.2.toArray, .func (.func p49) k50.1.toArray k50.2.toArray, .func (.func p52) k53.1.toArray k53.2.toArray, .func (.func p55) k56.1.toArray k56.2.toArray, .func (.func p58) k59.1.toArray k59.2.toArray, .func (.func p61) k62.1.toArray k62.2.toArray].toArray 86), pt b24 (.cells [(.int .i64 0)].toArray 32), pt b23 (.cells [(.pointer p37)].toArray 60), arena Γ.g66 (C66 Γ) F_121 r_120.1, arena Γ.g63 (C63 Γ) F_121 r_120.2.1, arena Γ.g64 (C64 Γ) F_121 r_120.2.2, R]) ?_
      refine .nil ?_
      refine .code ?_
      refine .seq ?_
      refine .keep (.cons (k := 1) rfl (.cons (k := 2) rfl (.cons (k := 6) rfl (.cons (k := 7) rfl (.cons (k := 8) rfl (.cons (k := 9) rfl (.cons (k := 10) rfl (.nil _)))))))) ?_
      refine .drawZ 5 mixedOK (by kernel_rfl) ?_
      refine .fieldAddr rfl Try.underlying47 rfl Try.sizeOf3 rfl ?_
      refine .loadO rfl Try.isAgg3 rfl (i := 0) rfl rfl ?_
      refine .bind (fun j124 hj125 => ?_)
      refine .indexAddrA rfl Try.underlying86 Try.sizeOf85 rfl rfl hj125 ?_
      obtain ⟨p126, k127, hc128, h129⟩ := allLt7 (p := fun j124 => ∃ p k, ([.func (.func p43) k44.1.toArray k44.2.toArray, .func (.func p46) k47.1.toArray k47.2.toArray, .func (.func p49) k50.1.toArray k50.2.toArray, .func (.func p52) k53.1.toArray k53.2.toArray, .func (.func p55) k56.1.toArray k56.2.toArray, .func (.func p58) k59.1.toArray k59.2.toArray, .func (.func p61) k62.1.toArray k62.2.toArray] : List Value)[0 + j124 * 1]? = some (.func (.func p) k.1.toArray k.2.toArray) ∧ RepFnX Try.prog penc F_121 p k (fun (x : ((List ExciseOffice) × (List (List (Int × ApiParcel))) × (List (List (Int × Bool))) × ApiDutyEvent)) _ vs => vs = [(eApiDutyEvent x.2.2.2)]) (fun F (x : ((List ExciseOffice) × (List (List (Int × ApiParcel))) × (List (List (Int × Bool))) × ApiDutyEvent)) => [arena Γ.g66 (C66 Γ) F x.1, arena Γ.g63 (C63 Γ) F x.2.1, arena Γ.g64 (C64 Γ) F x.2.2.1]) (fun (r : (List ExciseOffice) × (List (List (Int × ApiParcel))) × (List (List (Int × Bool)))) _ v => v = .tuple #[]) (fun F (x : ((List ExciseOffice) × (List (List (Int × ApiParcel))) × (List (List (Int × Bool))) × ApiDutyEvent)) (r : (List ExciseOffice) × (List (List (Int × ApiParcel))) × (List (List (Int × Bool)))) => [arena Γ.g66 (C66 Γ) F r.1, arena Γ.g63 (C63 Γ) F r.2.1, arena Γ.g64 (C64 Γ) F r.2.2]) (r_42 j124)) ⟨_, _, rfl, (h45.mono (Fz.le_trans l_67 (Fz.le_trans l_81 (Fz.le_trans l_97 (Fz.le_trans l_101 (Fz.le_trans l_115 l_122))))))⟩ ⟨_, _, rfl, (h48.mono (Fz.le_trans l_67 (Fz.le_trans l_81 (Fz.le_trans l_97 (Fz.le_trans l_101 (Fz.le_trans l_115 l_122))))))⟩ ⟨_, _, rfl, (h51.mono (Fz.le_trans l_67 (Fz.le_trans l_81 (Fz.le_trans l_97 (Fz.le_trans l_101 (Fz.le_trans l_115 l_122))))))⟩ ⟨_, _, rfl, (h54.mono (Fz.le_trans l_67 (Fz.le_trans l_81 (Fz.le_trans l_97 (Fz.le_trans l_101 (Fz.le_trans l_115 l_122))))))⟩ ⟨_, _, rfl, (h57.mono (Fz.le_trans l_67 (Fz.le_trans l_81 (Fz.le_trans l_97 (Fz.le_trans l_101 (Fz.le_trans l_115 l_122))))))⟩ ⟨_, _, rfl, (h60.mono (Fz.le_trans l_67 (Fz.le_trans l_81 (Fz.le_trans l_97 (Fz.le_trans l_101 (Fz.le_trans l_115 l_122))))))⟩ ⟨_, _, rfl, (h63.mono (Fz.le_trans l_67 (Fz.le_trans l_81 (Fz.le_trans l_97 (Fz.le_trans l_101 (Fz.le_trans l_115 l_122))))))⟩ _ (idxO_some hj125).2.2.2
      refine .loadO rfl Try.isAgg85 rfl (i := 1) rfl hc128 ?_
      refine .loadOA rfl Try.isAgg47 Try.sizeOf47 rfl (i := 0) rfl (vs := (cApiDutyEvent x85)) (by kernel_rfl) rfl ?_
      refine .pend ?_
      refine .callF [4, 4, 4] rfl h129 rfl rfl rfl rfl rfl ?_ (fun q136 F_134 _ l_135 => (LPost.panQ fun a w h => ⟨rfl, F_134, p37, k38, (Fz.le_trans l_67 (Fz.le_trans l_81 (Fz.le_trans l_97 (Fz.le_trans l_101 (Fz.le_trans l_115 (Fz.le_trans l_122 l_135)))))), (h39.mono (Fz.le_trans l_41 (Fz.le_trans l_67 (Fz.le_trans l_81 (Fz.le_trans l_97 (Fz.le_trans l_101 (Fz.le_trans l_115 (Fz.le_trans l_122 l_135)))))))), h.1.sub (.cons (k := 6) rfl (.cons (k := 7) rfl (.cons (k := 8) rfl (.nil _)))), SH.picks [2, 2, 2] rfl h.2⟩))
      rintro r_130 F_131 _ e133 l_132 rfl
      refine .pick [3, 3, 3, 3, 0, 0, 0, 0] (rfl : _ = [pt b95 (.cells (cApiDutyEvent x85).toArray 47), pt b64 (.cells [.func (.func p43) k44.1.toArray k44.2.toArray, .func (.func p46) k47.1.toArray k47.2.toArray, .func (.func p49) k50.1.toArray k50.2.toArray, .func (.func p52) k53.1.toArray k53.2.toArray, .func (.func p55) k56.1.toArray k56.2.toArray, .func (.func p58) k59.1.toArray k59.2.toArray, .func (.func p61) k62.1.toArray k62.2.toArray].toArray 86), pt b24 (.cells [(.int .i64 0)].toArray 32), pt b23 (.cells [(.pointer p37)].toArray 60), arena Γ.g66 (C66 Γ) F_131 r_130.1, arena Γ.g63 (C63 Γ) F_131 r_130.2.1, arena Γ.g64 (C64 Γ) F_131 r_130.2.2, R]) ?_
      refine .nil ?_
      refine .code ?_
      refine .region ?_
      refine .move rfl rfl ?_
      refine .add rfl rfl rfl ?_
      refine .assignL rfl rfl (fun n_137 e138 => ?_)
      refine .nil ?_
      refine .block ?_
      refine .drop 0 ?_
      exact .nil (LPost.norm fun a w h => ⟨F_131, (Fz.le_trans l_67 (Fz.le_trans l_81 (Fz.le_trans l_97 (Fz.le_trans l_101 (Fz.le_trans l_115 (Fz.le_trans l_122 l_132)))))), h.1.sub (.cons (k := 1) rfl (.cons (k := 2) rfl (.cons (k := 6) rfl (.cons (k := 7) rfl (.cons (k := 8) rfl (.cons (k := 9) rfl (.nil _))))))), h.2⟩)
     ·skip
      refine .upR 3 (stays66 Γ) l_81 rfl ?_
      refine .upR 4 (stays63 Γ) l_81 rfl ?_
      refine .upR 5 (stays64 Γ) l_81 rfl ?_
      refine .exitOut rfl (LPost.exit fun a w h => ⟨rfl, F_80, (Fz.le_trans l_67 l_81), h.1.sub (.cons (k := 2) rfl (.cons (k := 6) rfl (.cons (k := 7) rfl (.cons (k := 8) rfl (.nil _))))), h.2⟩)
    ·intro b139 hb0 hk e a w hD
     rcases b139 with b139 | b139
     ·skip
      obtain ⟨rfl, F_140, l_141, hA⟩ := hD
      refine interp_exit rfl (GE.app ?_ hk a w hA)
      refine .code ?_
      refine .seq ?_
      refine .region ?_
      refine .loadO rfl Try.isAgg60 rfl (i := 2) rfl rfl ?_
      refine .move rfl rfl ?_
      refine .callT [3, 3, 3] rfl Try.call43 rfl rfl rfl rfl (c_excise_office_pass _ Γ b139.2.1 b139.2.2.1 b139.2.2.2 r_33.1 p37 k38 (h39.mono (Fz.le_trans l_41 l_141)) day9) ?_
      rintro r_147 F_148 _ e150 l_149 rfl
      refine .pick [3, 3, 3, 0, 0, 0, 0] (rfl : _ = [pt b64 (.cells [.func (.func p43) k44.1.toArray k44.2.toArray, .func (.func p46) k47.1.toArray k47.2.toArray, .func (.func p49) k50.1.toArray k50.2.toArray, .func (.func p52) k53.1.toArray k53.2.toArray, .func (.func p55) k56.1.toArray k56.2.toArray, .func (.func p58) k59.1.toArray k59.2.toArray, .func (.func p61) k62.1.toArray k62.2.toArray].toArray 86), pt b24 (.cells [(.int .i64 0)].toArray 32), pt b23 (.cells [(.pointer p37)].toArray 60), arena Γ.g66 (C66 Γ) F_148 r_147.1, arena Γ.g63 (C63 Γ) F_148 r_147.2.1, arena Γ.g64 (C64 Γ) F_148 r_147.2.2, R]) ?_
      refine .nil ?_
      refine .code ?_
      refine .seq ?_
      refine .region ?_
      refine .loadO rfl Try.isAgg60 rfl (i := 2) rfl rfl ?_
      refine .move rfl rfl ?_
      refine .store (cs' := [(.pointer p37)]) Try.sizeOf60 rfl rfl rfl rfl (i := 2) rfl (Nat.le_of_ble_eq_true rfl) rfl rfl ?_
      refine .assign rfl rfl ?_
      refine .store (cs' := [(.int .i64 0)]) Try.sizeOf32 rfl rfl rfl rfl (i := 1) rfl (Nat.le_of_ble_eq_true rfl) rfl rfl ?_
      refine .nil ?_
      refine .code ?_
      exact .retQ (ret_postE (Γ := Γ) [2, 1] Try.call38 (c_excise_play_1 _ b23 r_33.1 p37 k38 b24 0) rfl [3, 3, 3, 3] Try.results25 (.cell rfl Try.isAgg60 (i := 0) rfl rfl (.tmp rfl (.cell rfl Try.isAgg32 (i := 1) rfl rfl (.nil)))) rfl (Fz.le_trans l_12 (Fz.le_trans l_15 (Fz.le_trans l_18 (Fz.le_trans l_21 (Fz.le_trans l_26 (Fz.le_trans l_31 (Fz.le_trans l_35 (Fz.le_trans l_41 (Fz.le_trans l_141 l_149))))))))) ⟨p37, k38, rfl, (h39.mono (Fz.le_trans l_41 (Fz.le_trans l_141 l_149)))⟩)
     obtain ⟨rfl, F_142, p144, k145, l_143, h146, hA⟩ := hD
     exact interp_panic ((pan_postE 2 Try.call38 (c_excise_play_1 _ b23 b139.2.2.2 p144 k145 b24 b139.2.2.1) [1, 0] rfl Try.results25 (fun F'' le'' => .cell rfl Try.isAgg60 (i := 0) rfl rfl (.tmp rfl (.cell rfl Try.isAgg32 (i := 1) rfl rfl (.nil)))) (fun _ => rfl) (Fz.le_trans l_12 (Fz.le_trans l_15 (Fz.le_trans l_18 (Fz.le_trans l_21 (Fz.le_trans l_26 (Fz.le_trans l_31 (Fz.le_trans l_35 (Fz.le_trans l_41 l_143)))))))) (fun w F R h => by obtain ⟨l1, h1⟩ := h.newG; obtain ⟨l2, h2⟩ := h1.newG; obtain ⟨l3, h3⟩ := h2.newG; exact ⟨⟨_, _, _⟩, _, (Fz.le_trans (Fz.le_trans l1 l2) l3), h3.mono fun m hm => news_cons (news_cons (news_cons (news_nil hm)))⟩) (fun Γ F'' => ⟨none, (), rfl, RepPtr.nil⟩)) hk a w hA)
end Go.Proofs.Ytadpjmaaokkhjaa
end

section
namespace Go.Proofs.Ytadpjmaaokkhjaa
open Go.Dec
variable {r : Rul} {n : Nat} {t d : Int} {s s' : Acc} {x : Ev} {p : ApiParcel}
theorem ex_within (n a b : Int) : m_excise_within n a b = inB n a b := by unfold m_excise_within inB; exact rfl
theorem ex_day (n : Int) : m_excise_isDay n = inB n 0 65536 := by unfold m_excise_isDay; exact ex_within ..
theorem ex_bond (n : Int) : m_excise_isBond n = bondB n := by unfold m_excise_isBond bondB; exact ex_within ..
theorem areRates_loop (r : Rul) (hl : r.Rates.length ≤ 1000000) : ∀ (k i : Nat) (last : Int), i + k = r.Rates.length →
    loopM (b_excise_areRules_1 r) (last, (i : Int)) = some (if okRates last (r.Rates.drop i) then .inl () else .inr false)
  | 0, i, last, hi => by
    have : b_excise_areRules_1 r (last, (i : Int)) = some (.done (.inl ())) := by unfold b_excise_areRules_1; rw [if_neg (by simp; omega)]
    rw [loopM_eq, List.drop_eq_nil_of_le (by omega), this]; rfl
  | k + 1, i, last, hi => by
    have hil : i < r.Rates.length := by omega
    have hx : r.Rates[i]? = some r.Rates[i] := by simp [hil]
    have step : b_excise_areRules_1 r (last, (i : Int)) = some (if inB r.Rates[i].From 0 65536 && decide (last < r.Rates[i].From) && inB r.Rates[i].Rate 0 1048576 then .next (r.Rates[i].From, ((i + 1 : Nat) : Int)) else .done (.inr false)) := by
      unfold b_excise_areRules_1
      rw [if_pos (by simp; omega)]
      simp only [idxL_nat, hx, Option.bind_some, ex_within, ex_day, w64_next (by omega : i ≤ 4294967296)]
      by_cases c1 : inB r.Rates[i].From 0 65536 = true
      case neg => simp only [Bool.not_eq_true] at c1; simp [c1]
      case pos =>
        by_cases c2 : inB r.Rates[i].Rate 0 1048576 = true
        case neg => simp only [Bool.not_eq_true] at c2; simp [c1, c2]
        case pos =>
          by_cases c3 : r.Rates[i].From ≤ last
          · have : decide (last < r.Rates[i].From) = false := by simp; omega
            simp [c1, c2, c3, this]
          · have : decide (last < r.Rates[i].From) = true := by simp; omega
            simp [c1, c2, c3, this]
    rw [loopM_eq, List.drop_eq_getElem_cons hil, step]
    by_cases hc : (inB r.Rates[i].From 0 65536 && decide (last < r.Rates[i].From) && inB r.Rates[i].Rate 0 1048576) = true
    case neg => simp only [Bool.not_eq_true] at hc; simp [okRates, hc]
    case pos =>
      simp only [okRates, hc, if_true, Bool.true_and]
      exact areRates_loop r hl k (i + 1) r.Rates[i].From (by omega)
theorem areRules_prog (hl : r.Rates.length ≤ 1000000) : m_excise_areRules r = some (rulesB r) := by
  unfold m_excise_areRules rulesB
  have hloop := areRates_loop r hl r.Rates.length 0 (-1) (by omega)
  simp only [Int.natCast_zero, List.drop_zero] at hloop
  simp only [bindv, ex_within, ex_day]
  refine bind_of hloop ?_
  by_cases ho : okRates (-1) r.Rates = true
  case neg => simp only [Bool.not_eq_true] at ho; simp [ho]
  case pos =>
    simp only [ho, if_true, Bool.and_true]
    by_cases h1 : inB (r.Rates.length : Int) 1 64 = true
    case neg => simp only [Bool.not_eq_true] at h1; simp [h1]
    case pos =>
      have hl1 := inB_iff.1 h1
      obtain ⟨y, l, e⟩ : ∃ y l, r.Rates = y :: l := by
        cases hr : r.Rates with
        | nil => rw [hr] at hl1; simp at hl1
        | cons y l => exact ⟨y, l, rfl⟩
      have hx : idxL r.Rates 0 = some y := by
        have := idxL_nat r.Rates 0
        rw [e] at this ⊢; exact this
      have hm : firstB r.Rates = (y.From == 0) := by rw [e]; rfl
      simp only [h1, if_true, hx, Option.bind_some, hm, Bool.true_and]
theorem isEvent_prog (x : Ev) : m_excise_isEvent x = some (evB x) := by
  unfold m_excise_isEvent evB
  simp only [ex_within, ex_day, ex_bond, bindv]
  have h0 : (inB x.Amount 1 17179869184 || x.Amount == 0) = inB x.Amount 0 17179869184 := by
    rw [Bool.eq_iff_iff]; simp [inB]; omega
  rw [h0]
  by_cases h1 : inB x.Day 0 65536 = true
  case neg => simp only [Bool.not_eq_true] at h1; simp [h1]
  case pos =>
    simp only [h1, Bool.not_true, Bool.false_eq_true, if_false, Bool.true_and]
    by_cases k0 : (x.Kind == 0) = true
    · simp [k0]
    · simp only [Bool.not_eq_true] at k0
      by_cases k3 : (x.Kind == 3) = true
      · simp [k0, k3]
      · simp only [Bool.not_eq_true] at k3
        by_cases k4 : (x.Kind == 4) = true
        · simp [k0, k3, k4]
        · simp only [Bool.not_eq_true] at k4
          simp only [k0, k3, k4, Bool.or_self, Bool.false_eq_true, if_false, Option.bind_some]
          by_cases k1 : (x.Kind == 1) = true
          · rw [if_pos k1, if_pos k1]
          · rw [if_neg k1, if_neg k1]
            by_cases k2 : (x.Kind == 2) = true
            · rw [if_pos k2, if_pos k2]
            · rw [if_neg k2, if_neg k2]
              by_cases k5 : (x.Kind == 5) = true
              · rw [if_pos k5, if_pos k5]
              · rw [if_neg k5, if_neg k5]
                by_cases k6 : (x.Kind == 6) = true
                · rw [if_pos k6, if_pos k6]
                · rw [if_neg k6, if_neg k6]
theorem half_w64 {m : Int} (h0 : 0 ≤ m) (h1 : m ≤ 2000000) : w64 (shrK .u64 (IntKind.u64.wrap (w64 m)) 1) = m / 2 := by
  rw [w64_id (n := m) (by omega) (by omega)]
  have e : IntKind.u64.bits = 64 := rfl
  have hw : IntKind.u64.wrap m = m := by
    simp only [IntKind.wrap, e]
    simp [IntKind.signed]
    omega
  rw [hw]
  have hs : shrK .u64 m 1 = m / 2 := by
    unfold shrK
    have : (2 : Int) ^ (min (Int.toNat 1) IntKind.u64.bits) = 2 := by decide
    rw [this, Int.fdiv_eq_ediv_of_nonneg _ (by omega)]
  rw [hs, w64_id (by omega) (by omega)]
def rankS (l : List ApiDutyRate) (day : Int) : Nat := (l.takeWhile (fun x => decide (x.From ≤ day))).length
theorem rank_spec {day : Int} : ∀ {l : List ApiDutyRate}, l.Pairwise (fun x y => x.From < y.From) → rankS l day ≤ l.length ∧ (∀ i x, l[i]? = some x → (x.From ≤ day ↔ i < rankS l day))
  | [], _ => ⟨Nat.le_refl _, fun i x h => by simp at h⟩
  | y :: l, h => by
    have hy := List.pairwise_cons.1 h
    have ih := rank_spec (day := day) hy.2
    unfold rankS at ih ⊢
    rw [List.takeWhile_cons]
    by_cases hc : y.From ≤ day
    · simp only [hc, decide_true, if_true, List.length_cons]
      refine ⟨by omega, fun i x hx => ?_⟩
      cases i with
      | zero => simp at hx; subst hx; simp [hc]
      | succ i =>
        simp only [List.getElem?_cons_succ] at hx
        have := ih.2 i x hx
        omega
    · simp only [hc, decide_false, Bool.false_eq_true, if_false, List.length_nil]
      refine ⟨Nat.zero_le _, fun i x hx => ?_⟩
      cases i with
      | zero => simp at hx; subst hx; omega
      | succ i =>
        simp only [List.getElem?_cons_succ] at hx
        have := hy.1 x (List.mem_of_getElem? hx)
        omega
theorem rate_rank {day : Int} : ∀ {l : List ApiDutyRate} (a : Int), l.Pairwise (fun x y => x.From < y.From) → l.foldl (fun own x => if x.From ≤ day then x.Rate else own) a = if rankS l day = 0 then a else match l[rankS l day - 1]? with | some x => x.Rate | none => a
  | [], a, _ => rfl
  | y :: l, a, h => by
    have hy := List.pairwise_cons.1 h
    have hsp := rank_spec (day := day) h
    rw [List.foldl_cons, rate_rank _ hy.2]
    have hrl := (rank_spec (day := day) hy.2).1
    by_cases hc : y.From ≤ day
    · have e : rankS (y :: l) day = rankS l day + 1 := by unfold rankS; rw [List.takeWhile_cons]; simp [hc]
      rw [e]
      simp only [hc, if_true, Nat.add_one_ne_zero, if_false, Nat.add_sub_cancel]
      by_cases h0 : rankS l day = 0
      · rw [if_pos h0, h0]; rfl
      · rw [if_neg h0]
        have : rankS l day = (rankS l day - 1) + 1 := by omega
        conv => rhs; rw [this, List.getElem?_cons_succ]
        have hlt : rankS l day - 1 < l.length := by omega
        rw [List.getElem?_eq_getElem hlt]
    · have e : rankS (y :: l) day = 0 := by unfold rankS; rw [List.takeWhile_cons]; simp [hc]
      have e2 : rankS l day = 0 := by
        cases hl : l with
        | nil => rfl
        | cons z l' =>
          unfold rankS; rw [List.takeWhile_cons]
          have := hy.1 z (by rw [hl]; simp)
          have : ¬ z.From ≤ day := by omega
          simp [this]
      rw [if_pos e2, if_pos e, if_neg hc]
theorem search_prog (hr : RulOk r) {day : Int} : m_sort_Search (r.Rates.length : Int) (fun x => m_excise_duty_1 x r day) = some (rankS r.Rates day : Int) := by
  have hsp := rank_spec (day := day) hr.sorted
  have hlen := hr.len
  have key := loop_inv (body := b_sort_Search_1 (fun x => m_excise_duty_1 x r day)) (fun s : Int × Int => 0 ≤ s.1 ∧ s.1 ≤ rankS r.Rates day ∧ (rankS r.Rates day : Int) ≤ s.2 ∧ s.2 ≤ r.Rates.length) (fun s => (s.2 - s.1).toNat) (fun b => b = (rankS r.Rates day : Int)) (fun s hs => by
    obtain ⟨i, j⟩ := s
    obtain ⟨h1, h2, h3, h4⟩ := hs
    simp only at h1 h2 h3 h4
    by_cases hc : i < j
    · left
      have hh := half_w64 (m := i + j) (by omega) (by omega)
      have hm0 : i ≤ (i + j) / 2 := by omega
      have hm1 : (i + j) / 2 < j := by omega
      obtain ⟨y, hy1, hy2⟩ := idxL_lt (l := r.Rates) (i := (i + j) / 2) (by omega) (by omega)
      have hf : m_excise_duty_1 ((i + j) / 2) r day = some (decide (y.From > day)) := by unfold m_excise_duty_1; rw [hy1]; rfl
      have hiff := hsp.2 _ y hy2
      by_cases hg : y.From > day
      · refine ⟨(i, (i + j) / 2), ?_, ⟨by simp only; omega, by simp only; omega, ?_, by simp only; omega⟩, by simp only; omega⟩
        · unfold b_sort_Search_1
          rw [if_pos (by simpa using hc)]
          simp only [hh, bindv, hf, Option.bind_some, hg, decide_true, Bool.not_true, Bool.false_eq_true, if_false]
        · simp only; omega
      · refine ⟨((i + j) / 2 + 1, j), ?_, ⟨by simp only; omega, ?_, by simp only; omega, by simp only; omega⟩, by simp only; omega⟩
        · unfold b_sort_Search_1
          rw [if_pos (by simpa using hc)]
          simp only [hh, bindv, hf, Option.bind_some, hg, decide_false, Bool.not_false, if_true]
          rw [w64_id (n := (i + j) / 2 + 1) (by omega) (by omega)]
        · simp only; omega
    · right
      refine ⟨i, ?_, by omega⟩
      unfold b_sort_Search_1
      rw [if_neg (by simpa using hc)])
  obtain ⟨b, hb, hq⟩ := key r.Rates.length (0, (r.Rates.length : Int)) (by simp) ⟨by simp, by simp, by simp; exact hsp.1, by simp⟩
  unfold m_sort_Search
  rw [hb, hq]; rfl
theorem duty_prog (hr : RulOk r) {a day : Int} (ha : 0 ≤ a) (hb : a ≤ 17179869184) (hd : 0 ≤ day) : m_excise_duty r a day = some (dutyS r a day) := by
  have hsp := rank_spec (day := day) hr.sorted
  have hlen := hr.len
  obtain ⟨y, l, e, e0⟩ := hr.first
  have h1 : 0 < rankS r.Rates day := (hsp.2 0 y (by rw [e]; rfl)).1 (by omega)
  have hlt : rankS r.Rates day - 1 < r.Rates.length := by omega
  have hx : r.Rates[rankS r.Rates day - 1]? = some r.Rates[rankS r.Rates day - 1] := List.getElem?_eq_getElem hlt
  have hrate : rateS r.Rates day = r.Rates[rankS r.Rates day - 1].Rate := by
    unfold rateS
    rw [rate_rank _ hr.sorted, if_neg (by omega), hx]
  unfold m_excise_duty
  refine bind_of (search_prog hr) ?_
  have hw : w64 ((rankS r.Rates day : Int) - 1) = ((rankS r.Rates day - 1 : Nat) : Int) := by rw [w64_id (by omega) (by omega)]; omega
  simp only [bindv, hw, idxL_nat, hx, Option.bind_some, ← hrate]
  rw [duty_w64 hr ha hb]
end Go.Proofs.Ytadpjmaaokkhjaa
end

section
namespace Go.Proofs.Ytadpjmaaokkhjaa
open Go.Dec
variable {r : Rul} {n : Nat} {t d : Int} {s s' : Acc} {x : Ev} {p : ApiParcel}
abbrev PM := List (List (Int × ApiParcel))
abbrev KM := List (List (Int × Bool))
def keyP (p : ApiParcel) : Int × ApiParcel := (p.Id, p)
def offS (r : Rul) (t : Int) (s : Acc) : ExciseOffice := ⟨r, { s.B with Moving := [] }, some 0, some 0, s.Sums, t⟩
structure PR (r : Rul) (t : Int) (s : Acc) (A1 : List ExciseOffice) (A2 : PM) (A3 : KM) : Prop where
  o : A1 = [offS r t s]
  m : ∃ m, A2 = [m] ∧ m.Perm (s.B.Moving.map keyP)
  k : ∃ k rest, A3 = k :: rest ∧ (k.map Prod.fst).Nodup ∧ ∀ i, (mapGet k i).getD false = s.Ids.contains i
theorem keys_nodup {l : List ApiParcel} (h : l.Pairwise (fun p q => p.Id < q.Id)) : ((l.map keyP).map Prod.fst).Nodup := by
  have : (l.map keyP).map Prod.fst = l.map ApiParcel.Id := by rw [List.map_map]; rfl
  rw [this]
  rw [List.Nodup, List.pairwise_map]
  exact h.imp fun h => Int.ne_of_lt h
theorem get_key {i : Int} : ∀ {l : List ApiParcel}, mapGet (l.map keyP) i = l.find? (fun q => q.Id == i)
  | [] => rfl
  | q :: l => by
    simp only [List.map_cons, keyP, mapGet, List.find?_cons]
    by_cases h : i = q.Id
    · subst h; simp
    · have h1 : (i == q.Id) = false := by simpa using h
      have h2 : (q.Id == i) = false := by simpa using Ne.symm h
      simp only [h1, h2, Bool.false_eq_true, if_false]; exact get_key
theorem get_perm {m : List (Int × ApiParcel)} {l : List ApiParcel} {i : Int} (hs : l.Pairwise (fun p q => p.Id < q.Id)) (h : m.Perm (l.map keyP)) : mapGet m i = l.find? (fun q => q.Id == i) := by
  rw [mapGet_perm h (keys_nodup hs), get_key]
theorem filter_key {i : Int} {l : List ApiParcel} : (l.map keyP).filter (fun x => !(i == x.1)) = (l.filter (fun q => !(q.Id == i))).map keyP := by
  rw [List.filter_map]
  congr 1
  refine List.filter_congr fun q _ => ?_
  show (!(i == q.Id)) = !(q.Id == i)
  rw [Bool.beq_comm]
theorem del_perm {m : List (Int × ApiParcel)} {l : List ApiParcel} {i : Int} (hs : l.Pairwise (fun p q => p.Id < q.Id)) (h : m.Perm (l.map keyP)) : (mapDel m i).Perm ((l.filter (fun q => !(q.Id == i))).map keyP) := by
  have h1 := mapDel_perm (k := i) h (keys_nodup hs)
  rwa [mapDel_filter (keys_nodup hs), filter_key] at h1
abbrev OutP := Out ExciseMisfit (List ExciseOffice × PM × KM)
def Does (r : Rul) (t : Int) (out : Acc ⊕ Int) (q : Option OutP) : Prop := match out with
  | .inl s' => ∃ A1 A2 A3, q = some (.ok (A1, A2, A3)) ∧ PR r t s' A1 A2 A3
  | .inr e => q = some (.pan ⟨e⟩)
theorem need_t (e : Int) : m_excise_need true e = some (.ok ()) := rfl
theorem need_f (e : Int) : m_excise_need false e = some (.pan ⟨e⟩) := rfl
theorem bindX_ok {ε α β : Type} {e : Option (Out ε α)} {gp : ε → Option β} {g : α → Option β} {x : α} (h : e = some (.ok x)) : bindX e gp g = g x := by rw [h]; rfl
theorem bindX_pan {ε α β : Type} {e : Option (Out ε α)} {gp : ε → Option β} {g : α → Option β} {x : ε} (h : e = some (.pan x)) : bindX e gp g = gp x := by rw [h]; rfl
variable {A1 : List ExciseOffice} {A2 : PM} {A3 : KM}
theorem room_prog (h : SOk r n t s) (hp : PR r t s A1 A2 A3) (hb : 0 ≤ x.Bond ∧ x.Bond ≤ 15) (ha : 0 ≤ x.Amount ∧ x.Amount ≤ 17179869184) :
    m_excise_office_room A1 (some 0) x = if hereS s x + x.Amount > 17179869184 then some (.pan ⟨12⟩) else some (.ok ()) := by
  have hh := here_range h hb
  have e : (offS r t s).book.Bonds x.Bond.toNat = hereS s x := rfl
  unfold m_excise_office_room
  rw [hp.o]
  simp only [Option.bind_some, idx_bond hb, List.getElem?_cons_zero]
  rw [e, w64_id (n := hereS s x + x.Amount) (by omega) (by omega)]
  by_cases hlim : hereS s x + x.Amount > 17179869184
  · have e1 : decide (hereS s x + x.Amount ≤ 17179869184) = false := by simp; omega
    rw [e1, if_pos hlim]; rfl
  · have e1 : decide (hereS s x + x.Amount ≤ 17179869184) = true := by simp; omega
    rw [e1, if_neg hlim]; rfl
theorem draw_prog (h : SOk r n t s) (hp : PR r t s A1 A2 A3) (hb : 0 ≤ x.Bond ∧ x.Bond ≤ 15) (ha : 1 ≤ x.Amount ∧ x.Amount ≤ 17179869184) :
    m_excise_office_draw A1 (some 0) x = if hereS s x < x.Amount then some (.pan ⟨10⟩) else some (.ok [offS r t (putB s x (hereS s x - x.Amount))]) := by
  have hh := here_range h hb
  have e : (offS r t s).book.Bonds x.Bond.toNat = hereS s x := rfl
  unfold m_excise_office_draw
  rw [hp.o]
  simp only [Option.bind_some, idx_bond hb, List.getElem?_cons_zero]
  rw [e]
  by_cases hlim : hereS s x < x.Amount
  · have e1 : decide (hereS s x ≥ x.Amount) = false := by simp; omega
    rw [e1, if_pos hlim]; rfl
  · have e1 : decide (hereS s x ≥ x.Amount) = true := by simp; omega
    rw [e1, if_neg hlim, w64_id (n := hereS s x - x.Amount) (by omega) (by omega)]; rfl
theorem distil_prog (h : SOk r n t s) (hn : n ≤ 1000) (hp : PR r t s A1 A2 A3) (he : evB x = true) (k : x.Kind = 0) : Does r t (distilS s x) (m_excise_office_distil A1 A2 A3 (some 0) x) := by
  obtain ⟨hb, ha⟩ := ev_plain he (.inl k)
  have hh := here_range h hb
  have hl := h.lim; have hpo := h.pos
  have hr := room_prog h hp hb (by omega)
  unfold m_excise_office_distil distilS Does
  by_cases hlim : hereS s x + x.Amount > 17179869184
  · rw [if_pos hlim] at hr ⊢
    rw [bindX_pan hr]
  · rw [if_neg hlim] at hr ⊢
    rw [bindX_ok hr]
    refine ⟨[offS r t { putB s x (hereS s x + x.Amount) with B := { (putB s x (hereS s x + x.Amount)).B with Made := s.B.Made + x.Amount } }], A2, A3, ?_, rfl, hp.m, hp.k⟩
    rw [hp.o]
    have e : (offS r t s).book.Bonds x.Bond.toNat = hereS s x := rfl
    have e2 : (offS r t s).book.Made = s.B.Made := rfl
    simp only [Option.bind_some, idx_bond hb, List.getElem?_cons_zero, bindv, e, e2]
    rw [w64_id (n := hereS s x + x.Amount) (by omega) (by omega), w64_id (n := s.B.Made + x.Amount) (by omega) (by omega)]; rfl
theorem known_set {k : List (Int × Bool)} {ids : List Int} {id : Int} (hn : (k.map Prod.fst).Nodup) (h : ∀ i, (mapGet k i).getD false = ids.contains i) (i : Int) : (mapGet (mapSet k id true) i).getD false = (ids ++ [id]).contains i := by
  have hp := mapSet_filter (l := k) (k := id) (v := true) hn
  have hnd : (((id, true) :: k.filter (fun x => !(id == x.1))).map Prod.fst).Nodup := (hp.map Prod.fst).nodup_iff.1 (mapSet_nodup hn)
  rw [mapGet_perm hp hnd]
  simp only [mapGet]
  by_cases e : i = id
  · subst e; simp
  · have e1 : (i == id) = false := by simpa using e
    rw [e1]
    simp only [Bool.false_eq_true, if_false]
    have e2 : mapGet (k.filter (fun x => !(id == x.1))) i = mapGet k i := by
      clear hn h hp hnd
      induction k with
      | nil => rfl
      | cons y k ih =>
        rw [List.filter_cons]
        by_cases h1 : id = y.1
        · have h2 : (id == y.1) = true := by simpa using h1
          have h3 : (i == y.1) = false := by simp; intro h; exact e (h.trans h1.symm)
          simp only [h2, Bool.not_true, Bool.false_eq_true, if_false, mapGet, h3, ih]
        · have h2 : (id == y.1) = false := by simpa using h1
          simp only [h2, Bool.not_false, if_true, mapGet, ih]
    rw [e2, h]
    simp [e]
theorem send_prog (h : SOk r n t s) (hp : PR r t s A1 A2 A3) (he : evB x = true) (k : x.Kind = 1) : Does r t (sendS s x) (m_excise_office_send A1 A2 A3 (some 0) x) := by
  obtain ⟨hb, hto, hid, ha⟩ := ev_send he k
  have hh := here_range h hb
  have hdr := draw_prog h hp hb ha
  obtain ⟨m, hm, hmp⟩ := hp.m
  obtain ⟨kk, rest, hk, hkn, hkg⟩ := hp.k
  unfold m_excise_office_send sendS Does
  by_cases hne : (x.Bond == x.To) = true
  · have e1 : (x.Bond != x.To) = false := by simp [bne, hne]
    rw [e1, if_pos hne, bindX_pan (need_f 11)]
  · have e1 : (x.Bond != x.To) = true := by simp only [bne]; simp only [Bool.not_eq_true] at hne; rw [hne]; rfl
    rw [e1, if_neg hne, bindX_ok (need_t 11)]
    have o1 : (A1[0]?) = some (offS r t s) := by rw [hp.o]; rfl
    have k0 : (A3[0]?) = some kk := by rw [hk]; rfl
    have kn : (offS r t s).known = some 0 := rfl
    simp only [Option.bind_some, o1, kn, k0, hkg]
    by_cases hc : s.Ids.contains x.Id = true
    · rw [if_pos hc, hc]
      rw [Bool.not_true, bindX_pan (need_f 5)]
    · have hc' : s.Ids.contains x.Id = false := by simpa using hc
      rw [if_neg hc, hc', Bool.not_false, bindX_ok (need_t 5)]
      by_cases hlim : hereS s x < x.Amount
      · rw [if_pos hlim] at hdr ⊢
        rw [bindX_pan hdr]
      · rw [if_neg hlim] at hdr ⊢
        rw [bindX_ok hdr]
        have m0 : (A2[0]?) = some m := by rw [hm]; rfl
        have mo : (offS r t (putB s x (hereS s x - x.Amount))).moving = some 0 := rfl
        have kn2 : (offS r t (putB s x (hereS s x - x.Amount))).known = some 0 := rfl
        refine ⟨_, _, _, by simp only [List.getElem?_cons_zero, Option.bind_some, kn2, k0, mo, m0, bindv]; rfl, rfl, ⟨mapSet m x.Id (parS x), by rw [hm]; rfl, ?_⟩, ⟨mapSet kk x.Id true, rest, by rw [hk]; rfl, mapSet_nodup hkn, known_set hkn hkg⟩⟩
        have hnew : ∀ q ∈ s.B.Moving, q.Id ≠ x.Id := fun q hq e => by
          have := h.known q hq
          rw [e] at this
          rw [← Bool.not_eq_true, List.contains_iff_mem] at hc'; exact hc' this
        have h1 := mapSet_filter (l := m) (k := x.Id) (v := parS x) ((hmp.map Prod.fst).nodup_iff.2 (keys_nodup h.sorted))
        have h2 : m.filter (fun e => !(x.Id == e.1)) = m := List.filter_eq_self.2 fun e he => by
          obtain ⟨q, hq, rfl⟩ := List.mem_map.1 (hmp.mem_iff.1 he)
          have := hnew q hq
          simp [keyP]; exact Ne.symm this
        rw [h2] at h1
        refine h1.trans ?_
        refine (hmp.cons _).trans ?_
        have h3 := (ins_perm (q := parS x) (l := s.B.Moving)).symm.map keyP
        exact h3
theorem set_prog (hr : RulOk r) (h : SOk r n t s) (hn : n ≤ 1000) (h0 : 0 ≤ t) {u : Acc} (hu : u.B.Bonds x.Bond.toNat = 0 ∨ u.B.Bonds x.Bond.toNat = hereS s x) (hb : 0 ≤ x.Bond ∧ x.Bond ≤ 15) {was is allowed : Int} (hwas : 0 ≤ was ∧ was ≤ 17179869184) (his : 0 ≤ is ∧ is ≤ 17179869184) (hal : 0 ≤ allowed ∧ allowed ≤ 4611686018427387904)
    (hF : u.B.Found = s.B.Found) (hL : u.B.Lost = s.B.Lost) (hC : u.B.Charged = s.B.Charged) (hD : u.B.Due = s.B.Due) :
    m_excise_office_set [offS r t u] (some 0) x.Bond was is allowed = some [offS r t (missS r t (imax 0 (was - is)) allowed { putB u x (u.B.Bonds x.Bond.toNat + is) with B := { (putB u x (u.B.Bonds x.Bond.toNat + is)).B with Found := u.B.Found + imax 0 (is - was) } })] := by
  have hh := here_range h hb
  have hl := h.lim; have hpo := h.pos; have hdu := h.due
  have e1 := imax_spec (a := 0) (b := was - is)
  have e2 := imax_spec (a := 0) (b := is - was)
  have e3 := imin_spec (a := imax 0 (was - is)) (b := allowed)
  have hd := hr.duty (a := imax 0 (was - is) - imin (imax 0 (was - is)) allowed) (d := t) (by omega)
  unfold m_excise_office_set
  simp only [Option.bind_some, idx_bond hb, List.getElem?_cons_zero, bindv]
  rw [w64_id (n := is - was) (by omega) (by omega), w64_id (n := was - is) (by omega) (by omega), w64_id (n := imax 0 (was - is) - imin (imax 0 (was - is)) allowed) (by omega) (by omega)]
  refine bind_of (duty_prog hr (by omega) (by omega) h0) ?_
  simp only [offS, List.set_cons_zero]
  rw [w64_id (n := u.B.Bonds x.Bond.toNat + is) (by omega) (by omega), w64_id (n := u.B.Found + imax 0 (is - was)) (by omega) (by omega), w64_id (n := u.B.Lost + imin (imax 0 (was - is)) allowed) (by omega) (by omega), w64_id (n := u.B.Charged + (imax 0 (was - is) - imin (imax 0 (was - is)) allowed)) (by omega) (by omega), w64_id (n := u.B.Due + dutyS r (imax 0 (was - is) - imin (imax 0 (was - is)) allowed) t) (by omega) (by omega)]
  rfl
theorem receive_prog (hr : RulOk r) (h : SOk r n t s) (hn : n ≤ 1000) (h0 : 0 ≤ t) (hp : PR r t s A1 A2 A3) (he : evB x = true) (k : x.Kind = 2) (hday : x.Day = t) : Does r t (receiveS r s x) (m_excise_office_receive A1 A2 A3 (some 0) x) := by
  obtain ⟨hb, hid, ha⟩ := ev_receive he k
  have hh := here_range h hb
  have hro := room_prog h hp hb ha
  obtain ⟨m, hm, hmp⟩ := hp.m
  have o1 : (A1[0]?) = some (offS r t s) := by rw [hp.o]; rfl
  have m0 : (A2[0]?) = some m := by rw [hm]; rfl
  have mo : (offS r t s).moving = some 0 := rfl
  unfold m_excise_office_receive receiveS Does
  simp only [Option.bind_some, o1, mo, m0, bindv, get_perm h.sorted hmp]
  cases hq : s.B.Moving.find? (fun q => q.Id == x.Id) with
  | none => rfl
  | some p =>
    obtain ⟨hmem, hpid, _⟩ := out_perm h.sorted hq
    have hpk := h.mov p hmem
    have hpa := hpk.amount
    simp only [Option.isSome_some, Option.getD_some]
    rw [bindX_ok (need_t 4)]
    by_cases hto : (p.To != x.Bond) = true
    · have e1 : (p.To == x.Bond) = false := by simpa [bne] using hto
      rw [e1, bindX_pan (need_f 11), if_pos hto]
    · have e1 : (p.To == x.Bond) = true := by simpa [bne] using hto
      rw [e1, bindX_ok (need_t 11), if_neg hto]
      by_cases hlim : hereS s x + x.Amount > 17179869184
      · rw [if_pos hlim] at hro ⊢
        rw [bindX_pan hro]
      · rw [if_neg hlim] at hro ⊢
        rw [bindX_ok hro]
        have hlo := hr.loss
        have hal0 : 0 ≤ p.Amount * r.Loss := Int.mul_nonneg (by omega) hlo.1
        have hal1 : p.Amount * r.Loss ≤ 17179869184 * 10000 := Int.mul_le_mul hpa.2 hlo.2 hlo.1 (by omega)
        have hru : (offS r t s).rules.Loss = r.Loss := rfl
        have hset := set_prog (x := x) hr h hn h0 (u := s) (.inr rfl) hb (was := p.Amount) (is := x.Amount) (allowed := p.Amount * r.Loss / 10000) (by omega) ha (by omega) rfl rfl rfl rfl
        simp only [hru]
        rw [w64_id (n := p.Amount * r.Loss) (by omega) (by omega), Int.tdiv_eq_ediv_of_nonneg hal0, w64_id (n := p.Amount * r.Loss / 10000) (by omega) (by omega)]
        refine ⟨_, _, _, bind_of (by rw [hp.o]; exact hset) rfl, ?_, ⟨mapDel m x.Id, by rw [hm]; rfl, del_perm h.sorted hmp⟩, hp.k⟩
        unfold gotS
        rw [hday]; rfl
theorem use_prog (hr : RulOk r) {u : Acc} {a day : Int} (ha : 0 ≤ a ∧ a ≤ 17179869184) (hd : 0 ≤ day) (hU : 0 ≤ u.B.Used ∧ u.B.Used ≤ 4611686018427387904) (hD : 0 ≤ u.B.Due ∧ u.B.Due ≤ 4611686018427387904) :
    m_excise_office_use [offS r t u] (some 0) a day = some [offS r t (useS r a day u)] := by
  have hdu := hr.duty (a := a) (d := day) (by omega)
  unfold m_excise_office_use
  simp only [Option.bind_some, List.getElem?_cons_zero, bindv]
  refine bind_of (duty_prog hr ha.1 ha.2 hd) ?_
  simp only [offS, List.set_cons_zero]
  rw [w64_id (n := u.B.Used + a) (by omega) (by omega), w64_id (n := u.B.Due + dutyS r a day) (by omega) (by omega)]
  rfl
theorem release_prog (hr : RulOk r) (h : SOk r n t s) (hn : n ≤ 1000) (hp : PR r t s A1 A2 A3) (he : evB x = true) (k : x.Kind = 3) : Does r t (releaseS r s x) (m_excise_office_release A1 A2 A3 (some 0) x) := by
  obtain ⟨hb, ha⟩ := ev_plain he (.inr (.inl k))
  have hdr := draw_prog h hp hb ha
  have hl := h.lim; have hpo := h.pos; have hdu := h.due
  unfold m_excise_office_release releaseS Does
  by_cases hlim : hereS s x < x.Amount
  · rw [if_pos hlim] at hdr ⊢
    rw [bindX_pan hdr]
  · rw [if_neg hlim] at hdr ⊢
    rw [bindX_ok hdr]
    exact ⟨_, _, _, bind_of (use_prog hr (by omega) (ev_day he).1 ⟨by show 0 ≤ s.B.Used; omega, by show s.B.Used ≤ _; omega⟩ ⟨by show 0 ≤ s.B.Due; omega, by show s.B.Due ≤ _; omega⟩) rfl, rfl, hp.m, hp.k⟩
theorem export_prog (h : SOk r n t s) (hn : n ≤ 1000) (hp : PR r t s A1 A2 A3) (he : evB x = true) (k : x.Kind = 4) : Does r t (exportS s x) (m_excise_office_export A1 A2 A3 (some 0) x) := by
  obtain ⟨hb, ha⟩ := ev_plain he (.inr (.inr k))
  have hdr := draw_prog h hp hb ha
  have hl := h.lim; have hpo := h.pos
  unfold m_excise_office_export exportS Does
  by_cases hlim : hereS s x < x.Amount
  · rw [if_pos hlim] at hdr ⊢
    rw [bindX_pan hdr]
  · rw [if_neg hlim] at hdr ⊢
    rw [bindX_ok hdr]
    have e : (offS r t (putB s x (hereS s x - x.Amount))).book.Exported = s.B.Exported := rfl
    refine ⟨[offS r t { putB s x (hereS s x - x.Amount) with B := { (putB s x (hereS s x - x.Amount)).B with Exported := s.B.Exported + x.Amount } }], A2, A3, ?_, rfl, hp.m, hp.k⟩
    simp only [Option.bind_some, List.getElem?_cons_zero, bindv, e]
    rw [w64_id (n := s.B.Exported + x.Amount) (by omega) (by omega)]; rfl
theorem take_prog (hr : RulOk r) (h : SOk r n t s) (hn : n ≤ 1000) (h0 : 0 ≤ t) (ht : t ≤ 65536) (hp : PR r t s A1 A2 A3) (he : evB x = true) (k : x.Kind = 5) (hday : x.Day = t) : Does r t (.inl (tookS r s x)) (m_excise_office_take A1 A2 A3 (some 0) x) := by
  obtain ⟨hb, ha⟩ := ev_take he k
  have hh := here_range h hb
  have hsu := h.sums _ (bond_lt hb)
  have hsh := hr.share
  have hal0 : 0 ≤ s.Sums x.Bond.toNat * r.Share := Int.mul_nonneg hsu.1 hsh.1
  have hal1 : s.Sums x.Bond.toNat * r.Share ≤ 65536 * 17179869184 * 1000 := Int.mul_le_mul (by omega) hsh.2 hsh.1 (by omega)
  have e1 : (offS r t s).sums x.Bond.toNat = s.Sums x.Bond.toNat := rfl
  have e2 : (offS r t s).rules.Share = r.Share := rfl
  have e3 : (offS r t s).book.Bonds x.Bond.toNat = hereS s x := rfl
  have hset := set_prog (x := x) hr h hn h0 (u := { putB s x 0 with Sums := updN s.Sums x.Bond.toNat 0 }) (.inl updN_self) hb (was := hereS s x) (is := x.Amount) (allowed := s.Sums x.Bond.toNat * r.Share / 3650000) hh ha (by omega) rfl rfl rfl rfl
  unfold m_excise_office_take Does
  rw [hp.o]
  simp only [Option.bind_some, idx_bond hb, List.getElem?_cons_zero, bindv, e1, e2, e3, List.set_cons_zero]
  rw [w64_id (n := s.Sums x.Bond.toNat * r.Share) (by omega) (by omega), Int.tdiv_eq_ediv_of_nonneg hal0, w64_id (n := s.Sums x.Bond.toNat * r.Share / 3650000) (by omega) (by omega)]
  refine ⟨_, _, _, bind_of hset rfl, ?_, hp.m, hp.k⟩
  have e4 : updN (updN s.B.Bonds x.Bond.toNat 0) x.Bond.toNat (updN s.B.Bonds x.Bond.toNat 0 x.Bond.toNat + x.Amount) = updN s.B.Bonds x.Bond.toNat x.Amount := by
    funext i
    by_cases e : i = x.Bond.toNat
    · subst e; rw [updN_self, updN_self, updN_self]; omega
    · rw [updN_ne e, updN_ne e, updN_ne e]
  unfold tookS
  rw [hday]
  simp only [putB, e4]
theorem pay_prog (h : SOk r n t s) (hn : n ≤ 1000) (hp : PR r t s A1 A2 A3) (he : evB x = true) (k : x.Kind = 6) : Does r t (payS s x) (m_excise_office_pay A1 A2 A3 (some 0) x) := by
  have ha := ev_pay he k
  have hl := h.lim; have hpo := h.pos; have hdu := h.due
  have e1 : (offS r t s).book.Due = s.B.Due := rfl
  have e2 : (offS r t s).book.Paid = s.B.Paid := rfl
  unfold m_excise_office_pay payS Does
  rw [hp.o]
  simp only [Option.bind_some, List.getElem?_cons_zero, bindv, e1, e2]
  rw [w64_id (n := s.B.Due - s.B.Paid) (by omega) (by omega)]
  by_cases hlim : x.Amount > s.B.Due - s.B.Paid
  · have e3 : decide (x.Amount ≤ s.B.Due - s.B.Paid) = false := by simp; omega
    rw [e3, if_pos hlim, bindX_pan (need_f 11)]
  · have e3 : decide (x.Amount ≤ s.B.Due - s.B.Paid) = true := by simp; omega
    rw [e3, if_neg hlim, bindX_ok (need_t 11), w64_id (n := s.B.Paid + x.Amount) (by omega) (by omega)]
    exact ⟨_, _, _, rfl, rfl, hp.m, hp.k⟩
end Go.Proofs.Ytadpjmaaokkhjaa
end

section
namespace Go.Proofs.Ytadpjmaaokkhjaa
open Go.Dec
variable {r : Rul} {n : Nat} {t d day : Int} {s u : Acc} {x : Ev} {p : ApiParcel} {A1 : List ExciseOffice} {A2 : PM} {A3 : KM}
def bookS (r : Rul) (d : Int) (s : Acc) : Acc := { s with B := (passS r 0 d s).B }
structure UOk (r : Rul) (u : Acc) : Prop where
  sorted : u.B.Moving.Pairwise (fun p q => p.Id < q.Id)
  mov : ∀ p ∈ u.B.Moving, (1 ≤ p.Amount ∧ p.Amount ≤ 17179869184) ∧ 0 ≤ p.Sent ∧ p.Sent ≤ 65536
  used : 0 ≤ u.B.Used ∧ u.B.Used + sumF ApiParcel.Amount u.B.Moving ≤ 4611686018427387904
  due : 0 ≤ u.B.Due ∧ u.B.Due + 1049 * sumF ApiParcel.Amount u.B.Moving ≤ 4611686018427387904
theorem SOk.uok (h : SOk r n t s) (hn : n ≤ 1000) (ht : t ≤ 65536) : UOk r s where
  sorted := h.sorted
  mov := fun p hp => ⟨(h.mov p hp).amount, (h.mov p hp).sent.1, by have := (h.mov p hp).sent.2; omega⟩
  used := by have := h.lim; have := h.pos; omega
  due := by have := h.lim; have := h.pos; have := h.due; omega
theorem late_w64 (hr : RulOk r) (h : 0 ≤ p.Sent ∧ p.Sent ≤ 65536) : w64 (w64 (p.Sent + r.Transit) + 1) = lateS r p := by
  have := hr.transit
  rw [w64_id (n := p.Sent + r.Transit) (by omega) (by omega), w64_id (by omega) (by omega)]; rfl
theorem late_prog (hr : RulOk r) (h : 0 ≤ p.Sent ∧ p.Sent ≤ 65536) : m_excise_office_late [offS r t u] (some 0) p = some (lateS r p) := by
  unfold m_excise_office_late
  simp only [Option.bind_some, List.getElem?_cons_zero, offS]
  rw [late_w64 hr h]
def daysF (r : Rul) (day : Int) (D : List (Int × Bool)) (l : List (Int × ApiParcel)) : List (Int × Bool) := l.foldl (fun D e => if lateS r e.2 ≤ day then mapSet D (lateS r e.2) true else D) D
theorem mem_set {D : List (Int × Bool)} {k : Int} (hn : (D.map Prod.fst).Nodup) (ht : ∀ y ∈ D, y.2 = true) (y : Int × Bool) : y ∈ mapSet D k true ↔ y = (k, true) ∨ y ∈ D := by
  rw [(mapSet_filter hn).mem_iff, List.mem_cons, List.mem_filter]
  constructor
  · rintro (h | ⟨h, _⟩)
    · exact .inl h
    · exact .inr h
  · rintro (h | h)
    · exact .inl h
    · by_cases e : k = y.1
      · left
        have := ht y h
        rw [e, ← this]
      · exact .inr ⟨h, by simpa using e⟩
theorem days_spec : ∀ {l : List (Int × ApiParcel)} {D : List (Int × Bool)}, (D.map Prod.fst).Nodup → (∀ y ∈ D, y.2 = true) →
    ((daysF r day D l).map Prod.fst).Nodup ∧ (daysF r day D l).length ≤ D.length + l.length ∧ ∀ y, y ∈ daysF r day D l ↔ y ∈ D ∨ ∃ e ∈ l, lateS r e.2 ≤ day ∧ y = (lateS r e.2, true)
  | [], D, hn, ht => ⟨hn, by simp [daysF], fun y => by simp [daysF]⟩
  | e :: l, D, hn, ht => by
    unfold daysF
    rw [List.foldl_cons]
    by_cases hc : lateS r e.2 ≤ day
    · rw [if_pos hc]
      have ht2 : ∀ y ∈ mapSet D (lateS r e.2) true, y.2 = true := fun y hy => by
        rcases (mem_set hn ht y).1 hy with rfl | hy
        · rfl
        · exact ht y hy
      have hlen : (mapSet D (lateS r e.2) true).length ≤ D.length + 1 := by
        have := (mapSet_filter (k := lateS r e.2) (v := true) hn).length_eq
        have h2 := List.length_filter_le (fun x : Int × Bool => !(lateS r e.2 == x.1)) D
        simp only [List.length_cons] at this; omega
      obtain ⟨h1, h2, h3⟩ := days_spec (l := l) (mapSet_nodup (k := lateS r e.2) (v := true) hn) ht2
      refine ⟨h1, by simp only [List.length_cons]; unfold daysF at h2; omega, fun y => ?_⟩
      rw [show (List.foldl (fun D e => if lateS r e.2 ≤ day then mapSet D (lateS r e.2) true else D) (mapSet D (lateS r e.2) true) l) = daysF r day (mapSet D (lateS r e.2) true) l from rfl, h3, mem_set hn ht]
      simp only [List.mem_cons, exists_eq_or_imp]
      constructor
      · rintro ((h | h) | h)
        · exact .inr (.inl ⟨hc, h⟩)
        · exact .inl h
        · exact .inr (.inr h)
      · rintro (h | (h | h))
        · exact .inl (.inr h)
        · exact .inl (.inl h.2)
        · exact .inr h
    · rw [if_neg hc]
      obtain ⟨h1, h2, h3⟩ := days_spec (l := l) hn ht
      refine ⟨h1, by simp only [List.length_cons]; unfold daysF at h2; omega, fun y => ?_⟩
      rw [show (List.foldl (fun D e => if lateS r e.2 ≤ day then mapSet D (lateS r e.2) true else D) D l) = daysF r day D l from rfl, h3]
      simp only [List.mem_cons, exists_eq_or_imp]
      constructor
      · rintro (h | h)
        · exact .inl h
        · exact .inr (.inr h)
      · rintro (h | (h | h))
        · exact .inl h
        · exact absurd h.1 hc
        · exact .inr h
theorem days_perm {l l' : List (Int × ApiParcel)} (hp : l'.Perm l) : (daysF r day [] l').Perm (daysF r day [] l) := by
  have a := days_spec (r := r) (day := day) (l := l') (D := []) (by simp) (by simp)
  have b := days_spec (r := r) (day := day) (l := l) (D := []) (by simp) (by simp)
  have nd : ∀ {L : List (Int × Bool)}, (L.map Prod.fst).Nodup → L.Nodup := fun {L} h => by
    rw [List.Nodup, List.pairwise_map] at h
    exact h.imp fun h e => h (by rw [e])
  refine (List.perm_ext_iff_of_nodup (nd a.1) (nd b.1)).2 fun y => ?_
  rw [a.2.2, b.2.2]
  constructor
  · rintro (h | ⟨e, he, h⟩)
    · exact .inl h
    · exact .inr ⟨e, hp.mem_iff.1 he, h⟩
  · rintro (h | ⟨e, he, h⟩)
    · exact .inl h
    · exact .inr ⟨e, hp.mem_iff.2 he, h⟩
theorem set_last {α : Type} {A : List α} {x y : α} : List.set (A ++ [x]) A.length y = A ++ [y] := by simp
theorem days_loop (hr : RulOk r) : ∀ {l : List (Int × ApiParcel)} {D : List (Int × Bool)}, (∀ e ∈ l, 0 ≤ e.2.Sent ∧ e.2.Sent ≤ 65536) →
    forL (b_excise_office_lates_1_1 [offS r t u] A3 (some 0) day) l (A3 ++ [D]) = some (A3 ++ [daysF r day D l])
  | [], D, _ => rfl
  | e :: l, D, h => by
    have he := h e (List.mem_cons_self ..)
    have step : b_excise_office_lates_1_1 [offS r t u] A3 (some 0) day e (A3 ++ [D]) = some (A3 ++ [if lateS r e.2 ≤ day then mapSet D (lateS r e.2) true else D]) := by
      unfold b_excise_office_lates_1_1
      rw [late_prog hr he]
      simp only [Option.bind_some]
      by_cases hc : lateS r e.2 ≤ day
      · have hg : (A3 ++ [D])[A3.length]? = some D := by simp
        simp only [hc, decide_true, if_true, hg, Option.bind_some, bindv, set_last]
      · simp only [hc, decide_false, Bool.false_eq_true, if_false, Option.bind_some]
    simp only [forL, step, Option.bind_some]
    exact days_loop hr fun q hq => h q (List.mem_cons_of_mem _ hq)
theorem days_permE (hr : RulOk r) {l : List (Int × ApiParcel)} (h : ∀ e ∈ l, 0 ≤ e.2.Sent ∧ e.2.Sent ≤ 65536) :
    permE PermL (b_excise_office_lates_1_1 [offS r t u] A3 (some 0) day) l (A3 ++ [[]]) = some (A3 ++ [daysF r day [] l]) := by
  refine permE_of (days_loop hr h) fun l' hl' => ⟨_, days_loop hr (fun e he => h e (hl'.mem_iff.1 he)), by simp, fun i x y hx hy => ?_⟩
  by_cases hi : i < A3.length
  · rw [List.getElem?_append_left hi] at hx hy
    rw [hx] at hy; simp only [Option.some.injEq] at hy; subst hy; exact .refl _
  · rw [List.getElem?_append_right (by omega)] at hx hy
    cases hk : i - A3.length with
    | zero =>
      rw [hk] at hx hy
      simp only [List.getElem?_cons_zero, Option.some.injEq] at hx hy
      subst hx; subst hy
      exact days_perm hl'
    | succ k => rw [hk] at hx; simp at hx
def ksF (r : Rul) (day : Int) (l : List (Int × ApiParcel)) : List Int := ((daysF r day [] l).map Prod.fst).mergeSort (fun a b => decide (a ≤ b))
theorem ks_sorted {l : List (Int × ApiParcel)} : (ksF r day l).Pairwise (· < ·) := by
  have hn := (days_spec (r := r) (day := day) (l := l) (D := []) (by simp) (by simp)).1
  have h1 : (ksF r day l).Pairwise (fun a b => decide (a ≤ b) = true) := List.pairwise_mergeSort (fun a b c h1 h2 => by simp only [decide_eq_true_eq] at *; omega) (fun a b => by simp only [Bool.or_eq_true, decide_eq_true_eq]; omega) _
  have h2 : (ksF r day l).Nodup := (List.mergeSort_perm _ _).nodup_iff.2 hn
  exact (h1.and h2).imp fun h => by have := h.1; have := h.2; simp only [decide_eq_true_eq] at *; omega
theorem ks_mem {l : List (Int × ApiParcel)} {d : Int} : d ∈ ksF r day l ↔ d ≤ day ∧ ∃ e ∈ l, lateS r e.2 = d := by
  unfold ksF
  rw [(List.mergeSort_perm _ _).mem_iff, List.mem_map]
  have h := (days_spec (r := r) (day := day) (l := l) (D := []) (by simp) (by simp)).2.2
  constructor
  · rintro ⟨y, hy, rfl⟩
    rcases (h y).1 hy with hy | ⟨e, he, hl, rfl⟩
    · cases hy
    · exact ⟨hl, e, he, rfl⟩
  · rintro ⟨hd, e, he, rfl⟩
    exact ⟨(lateS r e.2, true), (h _).2 (.inr ⟨e, he, hd, rfl⟩), rfl⟩
theorem lates_L (hr : RulOk r) (hA1 : A1 = [offS r t u]) {m : List (Int × ApiParcel)} (hA2 : A2 = [m]) (hm : m.length ≤ 1000) (hs : ∀ e ∈ m, 0 ≤ e.2.Sent ∧ e.2.Sent ≤ 65536) :
    L_excise_office_lates_1 A1 A2 A3 (some 0) day = some ((A1, A2, A3 ++ [daysF r day [] m]), ksF r day m) := by
  subst hA1; subst hA2
  have hsp := days_spec (r := r) (day := day) (l := m) (D := []) (by simp) (by simp)
  have ht := hr.transit
  have hk : sortedO (A3 ++ [daysF r day [] m]) (some A3.length) = some (ksF r day m) := by
    have hg : (A3 ++ [daysF r day [] m])[A3.length]? = some (daysF r day [] m) := by simp
    simp only [sortedO, hg, Option.bind_some, keysS]
    rw [if_pos]
    · rfl
    · refine ⟨List.all_eq_true.2 fun y hy => ?_, by have := hsp.2.1; simp at this; omega⟩
      rcases (hsp.2.2 y).1 hy with hy | ⟨e, he, hl, rfl⟩
      · cases hy
      · have := hs e he
        simp only [decide_eq_true_eq]; unfold lateS; omega
  unfold L_excise_office_lates_1
  simp only [Option.bind_some, List.getElem?_cons_zero, offS]
  have h1 := days_permE (t := t) (u := u) (A3 := A3) (day := day) hr hs
  simp only [offS] at h1
  rw [h1]
  simp only [Option.bind_some, hk]
theorem UOk.book (hr : RulOk r) (h : UOk r u) : UOk r (bookS r d u) where
  sorted := h.sorted.filter _
  mov := fun p hp => h.mov p (List.mem_filter.1 hp).1
  used := by
    have h1 := h.used
    have h2 := sumF_split (f := ApiParcel.Amount) (c := fun p => decide (d < lateS r p)) (l := u.B.Moving)
    have h3 : 0 ≤ sumF ApiParcel.Amount (u.B.Moving.filter (fun p => !decide (d < lateS r p))) := sumF_pos fun p hp => by have := (h.mov p (List.mem_filter.1 hp).1).1.1; omega
    simp only [bookS, passS]; omega
  due := by
    have h1 := h.due
    have h2 := sumF_split (f := ApiParcel.Amount) (c := fun p => decide (d < lateS r p)) (l := u.B.Moving)
    have h3 : 0 ≤ sumF (fun p => dutyS r p.Amount (lateS r p)) (u.B.Moving.filter (fun p => !decide (d < lateS r p))) := sumF_pos fun p hp => by have := (h.mov p (List.mem_filter.1 hp).1).1.1; exact (hr.duty (by omega)).1
    have h4 : sumF (fun p => dutyS r p.Amount (lateS r p)) (u.B.Moving.filter (fun p => !decide (d < lateS r p))) ≤ sumF (fun p => 1049 * p.Amount) (u.B.Moving.filter (fun p => !decide (d < lateS r p))) := sumF_le fun p hp => by have := (h.mov p (List.mem_filter.1 hp).1).1.1; exact (hr.duty (by omega)).2
    rw [sumF_mul] at h4
    simp only [bookS, passS]; omega
theorem book_book {d0 : Int} (h : d0 ≤ d) : bookS r d (bookS r d0 s) = bookS r d s := by
  have e := pass_pass (r := r) (s := s) (t := 0) (u := d0) (d := d) h
  have h1 : (passS r 0 d (bookS r d0 s)).B = (passS r d0 d (passS r 0 d0 s)).B := rfl
  unfold bookS at h1 ⊢
  simp only [h1, e]
theorem book_same (h : ∀ p ∈ s.B.Moving, d < lateS r p) : bookS r d s = s := by
  have e1 : s.B.Moving.filter (fun p => decide (d < lateS r p)) = s.B.Moving := List.filter_eq_self.2 fun p hp => by simpa using h p hp
  have e2 : s.B.Moving.filter (fun p => !decide (d < lateS r p)) = [] := List.filter_eq_nil_iff.2 fun p hp => by simpa using h p hp
  simp only [bookS, passS, e1, e2, sumF, Int.add_zero]
theorem night_book (h : ∀ p ∈ s.B.Moving, d ≤ lateS r p) : nightS r d s [] s.B.Moving = bookS r d s := by
  have e1 : s.B.Moving.filter (fun p => !(lateS r p == d)) = s.B.Moving.filter (fun p => decide (d < lateS r p)) := List.filter_congr fun p hp => by
    have := h p hp
    by_cases e : lateS r p = d
    · simp [e]
    · have e2 : d < lateS r p := by omega
      simp [e, e2]
  have e2 : s.B.Moving.filter (fun p => lateS r p == d) = s.B.Moving.filter (fun p => !decide (d < lateS r p)) := List.filter_congr fun p hp => by
    have := h p hp
    by_cases e : lateS r p = d
    · simp [e]
    · have e2 : d < lateS r p := by omega
      simp [e, e2]
  have e3 : sumF (fun p => dutyS r p.Amount d) (s.B.Moving.filter (fun p => !decide (d < lateS r p))) = sumF (fun p => dutyS r p.Amount (lateS r p)) (s.B.Moving.filter (fun p => !decide (d < lateS r p))) := sumF_congr fun p hp => by
    have h1 := List.mem_filter.1 hp
    have h2 := h p h1.1
    have h3 : ¬ d < lateS r p := by simpa using h1.2
    have : lateS r p = d := by omega
    rw [this]
  simp only [nightS, bookS, passS, List.nil_append, e1, e2, e3]
def useAll (r : Rul) (d : Int) (u : Acc) (l : List ApiParcel) : Acc := { u with B := { u.B with Used := u.B.Used + sumF ApiParcel.Amount (l.filter (fun p => lateS r p == d)), Due := u.B.Due + sumF (fun p => dutyS r p.Amount d) (l.filter (fun p => lateS r p == d)) } }
def delAll (r : Rul) (d : Int) (M l : List (Int × ApiParcel)) : List (Int × ApiParcel) := l.foldl (fun M e => if lateS r e.2 == d then mapDel M e.1 else M) M
theorem late_loop (hr : RulOk r) (hd : 0 ≤ d) : ∀ {l : List (Int × ApiParcel)} {u : Acc} {M : List (Int × ApiParcel)}, (∀ e ∈ l, (1 ≤ e.2.Amount ∧ e.2.Amount ≤ 17179869184) ∧ 0 ≤ e.2.Sent ∧ e.2.Sent ≤ 65536) →
    0 ≤ u.B.Used → u.B.Used + sumF ApiParcel.Amount (l.map Prod.snd) ≤ 4611686018427387904 → 0 ≤ u.B.Due → u.B.Due + 1049 * sumF ApiParcel.Amount (l.map Prod.snd) ≤ 4611686018427387904 →
    forL (b_excise_office_pass_2 (some 0) d 0 0) l ([offS r t u], [M]) = some ([offS r t (useAll r d u (l.map Prod.snd))], [delAll r d M l])
  | [], u, M, _, _, _, _, _ => by simp [forL, useAll, delAll, sumF]
  | e :: l, u, M, h, u0, u1, d0, d1 => by
    have he := h e (List.mem_cons_self ..)
    have hs := sumF_pos (f := ApiParcel.Amount) (l := l.map Prod.snd) fun q hq => by
      obtain ⟨y, hy, rfl⟩ := List.mem_map.1 hq
      have := (h y (List.mem_cons_of_mem _ hy)).1.1; omega
    simp only [List.map_cons, sumF] at u1 d1
    have hdu := hr.duty (a := e.2.Amount) (d := d) (by omega)
    by_cases hc : lateS r e.2 = d
    · have hb : (lateS r e.2 == d) = true := by simpa using hc
      have step : b_excise_office_pass_2 (some 0) d 0 0 e ([offS r t u], [M]) = some ([offS r t (useS r e.2.Amount d u)], [mapDel M e.1]) := by
        unfold b_excise_office_pass_2
        simp only []
        rw [late_prog hr he.2]
        have hmo : (offS r t u).moving = some 0 := rfl
        simp only [Option.bind_some, hb, if_true, List.getElem?_cons_zero, hmo, eqO, bindv, List.set_cons_zero]
        rw [use_prog hr (by omega) hd (by omega) (by omega)]
        rfl
      simp only [forL, step, Option.bind_some]
      have ih := late_loop hr hd (l := l) (u := useS r e.2.Amount d u) (M := mapDel M e.1) (fun q hq => h q (List.mem_cons_of_mem _ hq)) (by show 0 ≤ u.B.Used + e.2.Amount; omega) (by show u.B.Used + e.2.Amount + _ ≤ _; omega) (by show 0 ≤ u.B.Due + dutyS r e.2.Amount d; omega) (by show u.B.Due + dutyS r e.2.Amount d + _ ≤ _; omega)
      rw [ih]
      simp only [useAll, useS, delAll, List.map_cons, List.filter_cons, hb, if_true, sumF, List.foldl_cons, Int.add_assoc]
    · have hb : (lateS r e.2 == d) = false := by simpa using hc
      have step : b_excise_office_pass_2 (some 0) d 0 0 e ([offS r t u], [M]) = some ([offS r t u], [M]) := by
        unfold b_excise_office_pass_2
        simp only []
        rw [late_prog hr he.2]
        simp only [Option.bind_some, hb, Bool.false_eq_true, if_false]
      simp only [forL, step, Option.bind_some]
      have ih := late_loop hr hd (l := l) (u := u) (M := M) (fun q hq => h q (List.mem_cons_of_mem _ hq)) u0 (by omega) d0 (by omega)
      rw [ih]
      simp only [useAll, delAll, List.map_cons, List.filter_cons, hb, Bool.false_eq_true, if_false, List.foldl_cons]
theorem delAll_filter : ∀ {l M : List (Int × ApiParcel)}, (M.map Prod.fst).Nodup → delAll r d M l = M.filter (fun e => !(l.any (fun y => lateS r y.2 == d && y.1 == e.1)))
  | [], M, _ => by
    have : M.filter (fun e => !(([] : List (Int × ApiParcel)).any (fun y => lateS r y.2 == d && y.1 == e.1))) = M := List.filter_eq_self.2 fun _ _ => rfl
    rw [this]; rfl
  | y :: l, M, hn => by
    unfold delAll
    rw [List.foldl_cons]
    by_cases hc : (lateS r y.2 == d) = true
    · rw [if_pos hc]
      have := delAll_filter (l := l) (M := mapDel M y.1) (mapDel_nodup hn)
      unfold delAll at this
      rw [this, mapDel_filter hn, List.filter_filter]
      refine List.filter_congr fun e _ => ?_
      simp only [List.any_cons, hc, Bool.true_and, Bool.not_or, Bool.and_comm]
    · simp only [Bool.not_eq_true] at hc
      rw [if_neg (by simp [hc])]
      have := delAll_filter (l := l) (M := M) hn
      unfold delAll at this
      rw [this]
      refine List.filter_congr fun e _ => ?_
      simp only [List.any_cons, hc, Bool.false_and, Bool.false_or]
theorem late_day (hr : RulOk r) (hd : 0 ≤ d) (h : UOk r u) {m : List (Int × ApiParcel)} (hm : m.Perm (u.B.Moving.map keyP)) :
    permM (b_excise_office_pass_2 (some 0) d 0 0) m ([offS r t u], [m]) = some ([offS r t (nightS r d u [] u.B.Moving)], [m.filter (fun e => !(lateS r e.2 == d))]) := by
  have hn : (m.map Prod.fst).Nodup := (hm.map Prod.fst).nodup_iff.2 (keys_nodup h.sorted)
  refine permM_of fun l' hl' => ?_
  have hsnd : (l'.map Prod.snd).Perm u.B.Moving := by
    have h1 := (hl'.trans hm).map Prod.snd
    have h2 : (u.B.Moving.map keyP).map Prod.snd = u.B.Moving := by rw [List.map_map]; exact List.map_id _
    rwa [h2] at h1
  have hs := sumF_perm (f := ApiParcel.Amount) hsnd
  have hall : ∀ e ∈ l', (1 ≤ e.2.Amount ∧ e.2.Amount ≤ 17179869184) ∧ 0 ≤ e.2.Sent ∧ e.2.Sent ≤ 65536 := fun e he => h.mov e.2 (hsnd.mem_iff.1 (List.mem_map_of_mem he))
  rw [late_loop hr hd hall h.used.1 (by rw [hs]; exact h.used.2) h.due.1 (by rw [hs]; exact h.due.2), delAll_filter hn]
  have e1 : m.filter (fun e => !(l'.any (fun y => lateS r y.2 == d && y.1 == e.1))) = m.filter (fun e => !(lateS r e.2 == d)) := List.filter_congr fun e he => by
    congr 1
    rw [Bool.eq_iff_iff, List.any_eq_true]
    simp only [Bool.and_eq_true, beq_iff_eq]
    constructor
    · rintro ⟨y, hy, h1, h2⟩
      have := keys_one hn (hl'.mem_iff.1 hy) he h2
      rw [← this]; exact h1
    · intro h1; exact ⟨e, hl'.mem_iff.2 he, h1, rfl⟩
  rw [e1]
  have e2 : sumF ApiParcel.Amount ((l'.map Prod.snd).filter (fun p => lateS r p == d)) = sumF ApiParcel.Amount (u.B.Moving.filter (fun p => lateS r p == d)) := sumF_perm (hsnd.filter _)
  have e3 : sumF (fun p => dutyS r p.Amount d) ((l'.map Prod.snd).filter (fun p => lateS r p == d)) = sumF (fun p => dutyS r p.Amount d) (u.B.Moving.filter (fun p => lateS r p == d)) := sumF_perm (hsnd.filter _)
  simp only [useAll, nightS, offS, e2, e3]
theorem lates_loop (hr : RulOk r) (h0 : 0 ≤ day) {R : KM} : ∀ {ks : List Int} {u : Acc} {m : List (Int × ApiParcel)}, ks.Pairwise (· < ·) → (∀ d ∈ ks, 0 ≤ d ∧ d ≤ day) → UOk r u → (∀ p ∈ u.B.Moving, lateS r p ≤ day → lateS r p ∈ ks) → m.Perm (u.B.Moving.map keyP) →
    ∃ m', forL (b_excise_office_pass_1 (some 0)) ks ([offS r t u], [m], R) = some ([offS r t (bookS r day u)], [m'], R) ∧ m'.Perm ((bookS r day u).B.Moving.map keyP)
  | [], u, m, _, _, h, hk, hm => by
    have e := book_same (r := r) (d := day) (s := u) fun p hp => by
      have := hk p hp
      simp only [List.not_mem_nil, imp_false] at this; omega
    rw [e]
    exact ⟨m, rfl, hm⟩
  | d :: ks, u, m, hs, hd, h, hk, hm => by
    have hs' := List.pairwise_cons.1 hs
    have hdd := hd d (List.mem_cons_self ..)
    have hge : ∀ p ∈ u.B.Moving, d ≤ lateS r p := fun p hp => by
      by_cases hc : lateS r p ≤ day
      · rcases List.mem_cons.1 (hk p hp hc) with e | e
        · omega
        · have := hs'.1 _ e; omega
      · omega
    have hpm := late_day (t := t) hr hdd.1 h hm
    rw [night_book hge] at hpm
    have hmo : (offS r t u).moving = some 0 := rfl
    have step : b_excise_office_pass_1 (some 0) d ([offS r t u], [m], R) = some ([offS r t (bookS r d u)], [m.filter (fun e => !(lateS r e.2 == d))], R) := by
      unfold b_excise_office_pass_1
      simp only [Option.bind_some, List.getElem?_cons_zero, hmo, hpm]
    have hm2 : (m.filter (fun e => !(lateS r e.2 == d))).Perm ((bookS r d u).B.Moving.map keyP) := by
      refine (hm.filter _).trans (.of_eq ?_)
      rw [List.filter_map]
      show (u.B.Moving.filter (fun p => !(lateS r p == d))).map keyP = (u.B.Moving.filter (fun p => decide (d < lateS r p))).map keyP
      congr 1
      refine List.filter_congr fun p hp => ?_
      have := hge p hp
      by_cases e : lateS r p = d
      · simp [e]
      · have e2 : d < lateS r p := by omega
        simp [e, e2]
    obtain ⟨m', g1, g2⟩ := lates_loop hr h0 (R := R) hs'.2 (fun q hq => hd q (List.mem_cons_of_mem _ hq)) (h.book hr (d := d)) (fun p hp hl => by
      have hp' := List.mem_filter.1 hp
      rcases List.mem_cons.1 (hk p hp'.1 hl) with e | e
      · have := hp'.2; simp only [decide_eq_true_eq] at this; omega
      · exact e) hm2
    rw [book_book hdd.2] at g1 g2
    exact ⟨m', by simp only [forL, step, Option.bind_some]; exact g1, g2⟩
theorem sums_prog (h : SOk r n t s) (hday : t ≤ day) (h0 : 0 ≤ t) (hd : day ≤ 65536) {u : Acc} (hu : u.B.Bonds = s.B.Bonds) (hu2 : u.Sums = s.Sums) :
    loopM (b_excise_office_pass_3 day 0 (offS r t u)) (0, [offS r t u]) = some [offS r t { u with Sums := fun i => if i < 16 then s.Sums i + s.B.Bonds i * (day - t) else s.Sums i }] := by
  obtain ⟨f, hf, hloop⟩ := loopM_upto (body := b_excise_office_pass_3 day 0 (offS r t u)) (fun i (f : Nat → Int) => ((i : Int), [offS r t { u with Sums := f }])) (fun f => [offS r t { u with Sums := f }]) (fun i f => f = fun k => if k < i then s.Sums k + s.B.Bonds k * (day - t) else s.Sums k) 16
    (fun i f hi hf => by
      have e : idxO 16 ((i : Nat) : Int) = some i := idxO_nat hi
      have h1 := h.sums i hi; have h2 := h.bonds i hi
      have hfi : f i = s.Sums i := by rw [hf]; simp
      have hm0 : 0 ≤ s.B.Bonds i * (day - t) := Int.mul_nonneg h2.1 (by omega)
      have hm1 : s.B.Bonds i * (day - t) ≤ 17179869184 * (day - t) := Int.mul_le_mul_of_nonneg_right h2.2 (by omega)
      have eb : (offS r t u).book.Bonds i = s.B.Bonds i := by show u.B.Bonds i = _; rw [hu]
      have ed : (offS r t { u with Sums := f }).day = t := rfl
      have es : (offS r t { u with Sums := f }).sums i = s.Sums i := hfi
      refine ⟨updN f i (s.Sums i + s.B.Bonds i * (day - t)), ?_, ?_⟩
      · unfold b_excise_office_pass_3
        rw [if_pos (by simp; omega)]
        simp only [e, Option.bind_some, bindv, eb, List.getElem?_cons_zero, ed, es, List.set_cons_zero, w64_next (by omega : i ≤ 4294967296)]
        rw [w64_id (n := day - t) (by omega) (by omega), w64_id (n := s.B.Bonds i * (day - t)) (by omega) (by omega), w64_id (n := s.Sums i + s.B.Bonds i * (day - t)) (by omega) (by omega)]
        rfl
      · funext k
        by_cases hk : k = i
        · subst hk; rw [updN_self, if_pos (by omega)]
        · rw [updN_ne hk, hf]
          by_cases hlt : k < i
          · simp only [hlt, if_true]; rw [if_pos (by omega)]
          · simp only [hlt, if_false]; rw [if_neg (by omega)])
    (fun f hf => by unfold b_excise_office_pass_3; rw [if_neg (by simp)]) 16 0 u.Sums rfl (by rw [hu2]; funext k; simp)
  have h0' : loopM (b_excise_office_pass_3 day 0 (offS r t u)) (0, [offS r t u]) = some [offS r t { u with Sums := f }] := hloop
  rw [h0', hf]
theorem pass_prog (hr : RulOk r) (h : SOk r n t s) (hn : n ≤ 1000) (h0 : 0 ≤ t) (hday : t ≤ day) (hd : day ≤ 65536) (hp : PR r t s A1 A2 A3) :
    ∃ A1' A2' A3', m_excise_office_pass A1 A2 A3 (some 0) day = some (A1', A2', A3') ∧ PR r day (passS r t day s) A1' A2' A3' := by
  obtain ⟨m, hm, hmp⟩ := hp.m
  obtain ⟨kk, rest, hk, hkn, hkg⟩ := hp.k
  have hu := h.uok hn (by omega)
  have hmem : ∀ e ∈ m, e.2 ∈ s.B.Moving := fun e he => by
    obtain ⟨q, hq, rfl⟩ := List.mem_map.1 (hmp.mem_iff.1 he)
    exact hq
  have hL := lates_L (A3 := A3) (day := day) hr hp.o hm (by have := hmp.length_eq; have := h.mlen; simp at *; omega) fun e he => (hu.mov e.2 (hmem e he)).2
  obtain ⟨m', hlo, hm'⟩ := lates_loop (t := t) hr (by omega : 0 ≤ day) (R := A3 ++ [daysF r day [] m]) (ks := ksF r day m) (u := s) (m := m) ks_sorted (fun d hd => by
      obtain ⟨h1, e, he, h2⟩ := ks_mem.1 hd
      have := (hu.mov e.2 (hmem e he)).2; have := hr.transit
      unfold lateS at h2; omega) hu (fun p hp hl => ks_mem.2 ⟨hl, keyP p, hmp.mem_iff.2 (List.mem_map_of_mem hp), rfl⟩) hmp
  have hsu := sums_prog h hday h0 hd (u := bookS r day s) rfl rfl
  unfold m_excise_office_pass
  rw [Option.bind_some]
  refine ⟨[offS r day (passS r t day s)], [m'], A3 ++ [daysF r day [] m], bind_of hL (bind_of (by rw [hp.o, hm]; exact hlo) ?_), rfl, ⟨m', rfl, hm'⟩, ⟨kk, rest ++ [daysF r day [] m], by rw [hk]; rfl, hkn, hkg⟩⟩
  simp only [Option.bind_some, List.getElem?_cons_zero]
  refine bind_of hsu ?_
  simp only [Option.bind_some, List.getElem?_cons_zero, bindv, List.set_cons_zero]
  rfl
end Go.Proofs.Ytadpjmaaokkhjaa
end

section
namespace Go.Proofs.Ytadpjmaaokkhjaa
open Go.Dec
variable {r : Rul} {n : Nat} {t d : Int} {s s' : Acc} {x : Ev} {p : ApiParcel}
abbrev bk0 : Bk := ApiDutyBook.mk (fun _ => 0) ([]) 0 0 0 0 0 0 0 0
def outD : (Acc ⊕ Int) × Nat → Bk × Int × Int
  | (.inl a, k) => (a.B, (k : Int), 0)
  | (.inr e, k) => (bk0, (k : Int), e)
theorem do_err {e : Int} (h : doS r s x = .inr e) : e = 4 ∨ e = 5 ∨ e = 10 ∨ e = 11 ∨ e = 12 := by
  unfold doS distilS sendS receiveS releaseS exportS payS at h
  repeat' split at h
  all_goals first | (cases h; done) | (simp only [Sum.inr.injEq] at h; subst h; simp)
theorem step_err {c : Cur} {e : Int} (h : stepS r c x = .inr e) : e = 1 ∨ e = 7 ∨ e = 4 ∨ e = 5 ∨ e = 10 ∨ e = 11 ∨ e = 12 := by
  unfold stepS at h
  split at h
  · simp only [Sum.inr.injEq] at h; omega
  · split at h
    · simp only [Sum.inr.injEq] at h; omega
    · split at h
      · cases h
      · rename_i e' he
        simp only [Sum.inr.injEq] at h
        subst h
        have := do_err he; omega
theorem go_ok (hr : RulOk r) {day : Int} : ∀ {l : List Ev} {n : Nat} {c c' : Cur} {k : Nat}, SOk r n c.day c.acc → 0 ≤ c.day → c.day ≤ day → goS r day l n c = (.inl c', k) → SOk r k c'.day c'.acc ∧ 0 ≤ c'.day ∧ c'.day ≤ day ∧ n ≤ k ∧ k ≤ n + l.length
  | [], n, c, c', k, h, h0, h1, hg => by
    simp only [goS, Prod.mk.injEq, Sum.inl.injEq] at hg
    obtain ⟨rfl, rfl⟩ := hg
    exact ⟨h, h0, h1, Nat.le_refl _, by simp⟩
  | x :: l, n, c, c', k, h, h0, h1, hg => by
    rw [goS] at hg
    split at hg
    · rename_i hx
      split at hg
      · rename_i c1 hs
        obtain ⟨g1, g2, g3, _⟩ := step_ok hr h h0 hs
        obtain ⟨a1, a2, a3, a4, a5⟩ := go_ok hr g1 (by omega) (by omega) hg
        exact ⟨a1, a2, a3, by omega, by simp only [List.length_cons]; omega⟩
      · simp only [Prod.mk.injEq, reduceCtorEq, false_and] at hg
    · simp only [Prod.mk.injEq, Sum.inl.injEq] at hg
      obtain ⟨rfl, rfl⟩ := hg
      exact ⟨h, h0, h1, Nat.le_refl _, by simp⟩
def outG : (Cur ⊕ Int) × Nat → (Int × Int × Acc) ⊕ (Bk × Int × Int)
  | (.inl c, k) => .inl (c.day, (k : Int), c.acc)
  | (.inr e, k) => .inr (bk0, (k : Int), e)
end Go.Proofs.Ytadpjmaaokkhjaa
end
