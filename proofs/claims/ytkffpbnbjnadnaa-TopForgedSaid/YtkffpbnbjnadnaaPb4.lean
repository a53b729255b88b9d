/- Own texts and texts printed by a program of mine, for topForged_holds; only what it reaches. -/
import Derived.Test.YtkffpbnbjnadnaaPb3
section
namespace Go.Proofs.Ytkffpbnbjnadnaa
open Go.Dec Go.Shelf Go.RowKit Go.Maps Go.Sort
def m_wormtubref12_in (n_1 : Int) (least2 : Int) (most3 : Int) : Bool :=
 ((decide (n_1 ≥ least2)) && (decide (n_1 ≤ most3)))
theorem c_wormtubref12_in (F0 : Fz) (n_1 : Int) (least2 : Int) (most3 : Int) : CT0 Try.prog 16 [(.int .i64 n_1), (.int .i64 least2), (.int .i64 most3)].toArray F0 (some (m_wormtubref12_in n_1 least2 most3)) (fun r _ v => v = (.bool r)) := by
 refine CT0.enter Try.func16 rfl Try.ntmps16 rfl fun r R => ?_
 refine .seq (.region (.assign rfl rfl (.nil (.code (.seq (.region (.move rfl rfl (.move rfl rfl (.geq rfl rfl rfl (.move rfl rfl (.andP (b := (decide (n_1 ≥ least2))) (b' := (decide (n_1 ≤ most3))) 4 14 (fun hb4 => ?_) (fun hb5 => ?_) (fun F_6 l_7 => ?_))))))))))))
 ·skip
  refine .onH hb4 rfl rfl (.move rfl rfl (.onH hb4 rfl rfl (.move rfl rfl (.onH hb4 rfl rfl (.leq rfl rfl rfl (.pickTH hb4 rfl rfl rfl ?_))))))
  exact .fin 4 rfl rfl (by kernel_rfl) Fz.r
 ·skip
  refine .offH hb5 rfl rfl rfl (.offH hb5 rfl rfl rfl (.offH hb5 rfl rfl rfl (.pickFH hb5 rfl rfl rfl ?_)))
  exact .fin 4 rfl rfl (by kernel_rfl) Fz.r
 refine .assign rfl rfl (.nil (.code ?_))
 exact .ret0 Try.results16 (.tmp rfl (.nil)) (i := 0) rfl l_7 rfl
noncomputable def b_wormtubref12_from_1 (c1 : ApiCask) (s6 : Int × Int × Int) : Option (Ctl (Int × Int × Int) ((Int × Int) ⊕ (Bool))) :=
 if (decide (s6.2.2 < 8)) then ((idxO 8 s6.2.2).bind fun j10 => (if (!(m_wormtubref12_in (c1.Woods j10) 0 65536)) then some true else ((idxO 8 s6.2.2).bind fun j15 => some (!(m_wormtubref12_in (c1.Places j15) 0 65536)))).bind fun z22 => if z22 then (some (.done (.inr false))) else ((idxO 8 s6.2.2).bind fun j25 => bindv (w64 (s6.1 + (c1.Woods j25))) fun sum27 => (idxO 8 s6.2.2).bind fun j29 => bindv (w64 (s6.2.1 + (c1.Places j29))) fun other31 => bindv (w64 (s6.2.2 + 1)) fun i33 => some (.next (sum27, other31, i33)))) else (some (.done (.inl (s6.1, s6.2.1))))
noncomputable def m_wormtubref12_from (c1 : ApiCask) : Option Bool :=
 (loopM (b_wormtubref12_from_1 c1) (0, 0, 0)).bind fun b0 => match b0 with | .inl b35 => (some ((((m_wormtubref12_in c1.Number 0 1073741824) && (m_wormtubref12_in c1.Age 0 65536)) && (decide (c1.Age ≥ b35.1))) && (decide (c1.Age ≥ b35.2)))) | .inr b35 => (some b35)
theorem c_wormtubref12_from (F0 : Fz) (c1 : ApiCask) : CT0 Try.prog 15 [(eApiCask c1)].toArray F0 (m_wormtubref12_from c1) (fun r _ v => v = (.bool r)) := by
 refine CT0.enter Try.func15 rfl Try.ntmps15 rfl fun r R => ?_
 unfold m_wormtubref12_from
 refine .seq (.region (.boxF (cs := (cApiCask c1)) rfl rfl rfl (fun b2 F_3 l_4 hb5 => ?_)))
 refine .assign rfl rfl (.nil (.code (.seq (.region (.assign rfl rfl (.assign rfl rfl (.nil (.code (.seq (.seq (.region ?_)))))))))))
 refine .assign rfl rfl (.nil (.code (.block (.keep (.cons (k := 1) rfl (.cons (k := 3) rfl (.cons (k := 4) rfl (.cons (k := 5) rfl (.nil _))))) ?_))))
 refine .loop (fun (s6 : Int × Int × Int) a w => ∃ (F_7 : Fz), F_3 ≤ F_7 ∧ Hd 56 [] [(1, (.pointer (some ⟨b2, 0, none⟩))), (3, (.int .i64 s6.1)), (4, (.int .i64 s6.2.1)), (5, (.int .i64 s6.2.2))] F_7 [R] a w) (fun b0 e a w => match b0 with | .inl b35 => e = .exit 0 ∧ ∃ (F_36 : Fz), F_3 ≤ F_36 ∧ Hd 56 [] [(1, (.pointer (some ⟨b2, 0, none⟩))), (3, (.int .i64 b35.1)), (4, (.int .i64 b35.2))] F_36 [R] a w | .inr b35 => e = .ret ∧ ∃ (F_38 : Fz), F_3 ≤ F_38 ∧ Hd 56 [] [(2, (.bool b35))] F_38 [R] a w) ?_ ?_ ?_
 ·exact fun a w h => ⟨F_3, Fz.r, h.1.sub (.cons (k := 1) rfl (.cons (k := 3) rfl (.cons (k := 4) rfl (.cons (k := 5) rfl (.nil _))))), h.2⟩
 ·intro s6 ctl
  refine GC.ex (fun a w ⟨F_7, l_8, hA⟩ => ⟨_, hA, ?_⟩)
  unfold b_wormtubref12_from_1
  refine .seq (.seq (.region (.move rfl rfl (.lss rfl rfl rfl (.nil (.code (.cond rfl (fun hb9 => ?_) (fun hb9 => ?_))))))))
  ·skip
   refine .skip (.code (.seq (.block (.seq (.seq (.region (.move rfl rfl (.fieldAddr rfl Try.underlying38 rfl Try.sizeOf31 rfl (.bind (fun j10 hj11 => ?_))))))))))
   refine .indexAddrA rfl Try.underlying31 Try.sizeOf3 rfl rfl hj11 (.loadF rfl Try.isAgg3 rfl (l_8.mem _ _ hb5) (allLt8 (p := fun j10 => ((cApiCask c1))[0 + 8 + j10 * 1]? = some (.int .i64 (c1.Woods j10))) rfl rfl rfl rfl rfl rfl rfl rfl _ (idxO_some hj11).2.2.2) (.callP rfl Try.call16 rfl rfl rfl (c_wormtubref12_in _ (c1.Woods j10) 0 65536) ?_))
   rintro F_12 _ l_13 rfl
   refine .not rfl rfl (.move rfl rfl (.orM (b := (!(m_wormtubref12_in (c1.Woods j10) 0 65536))) 7 23 (fun hb14 z23 => ?_) (fun hb19 => ?_) (fun z22 F_20 l_21 => ?_)))
   ·skip
    refine .onH hb14 rfl rfl (.move rfl rfl (.onH hb14 rfl rfl (.fieldAddr rfl Try.underlying38 rfl Try.sizeOf31 rfl (.onH hb14 rfl rfl (.bind (fun j15 hj16 => ?_))))))
    refine .indexAddrA rfl Try.underlying31 Try.sizeOf3 rfl rfl hj16 (.onH hb14 rfl rfl (.loadF rfl Try.isAgg3 rfl ((Fz.t l_8 l_13).mem _ _ hb5) (allLt8 (p := fun j15 => ((cApiCask c1))[0 + 16 + j15 * 1]? = some (.int .i64 (c1.Places j15))) rfl rfl rfl rfl rfl rfl rfl rfl _ (idxO_some hj16).2.2.2) (.onH hb14 rfl rfl (.callP rfl Try.call16 rfl rfl rfl (c_wormtubref12_in _ (c1.Places j15) 0 65536) ?_))))
    rintro F_17 _ l_18 rfl
    refine .onH hb14 rfl rfl (.not rfl rfl (.pickFH hb14 rfl rfl rfl ?_))
    exact .finZ 7 rfl rfl (by kernel_rfl) l_18
   ·skip
    refine .offH hb19 rfl rfl rfl (.offH hb19 rfl rfl rfl (.offH hb19 rfl rfl rfl (.offH hb19 rfl rfl rfl (.offH hb19 rfl rfl rfl (.offH hb19 rfl rfl rfl (.pickTH hb19 rfl rfl rfl ?_))))))
    exact .fin 7 rfl rfl (by kernel_rfl) Fz.r
   refine .nil (.code (.cond rfl (fun hb24 => ?_) (fun hb24 => ?_)))
   ·skip
    refine .seq (.region (.assign rfl rfl (.nil (.code (.retQ (LPost.ret fun a w h => ⟨rfl, F_20, (Fz.t l_8 (Fz.t l_13 l_21)), h.1.sub (.cons (k := 2) rfl (.nil _)), h.2⟩))))))
   ·skip
    refine .skip (.code (.seq (.region (.move rfl rfl (.move rfl rfl (.fieldAddr rfl Try.underlying38 rfl Try.sizeOf31 rfl (.bind (fun j25 hj26 => ?_))))))))
    refine .indexAddrA rfl Try.underlying31 Try.sizeOf3 rfl rfl hj26 (.loadF rfl Try.isAgg3 rfl ((Fz.t l_8 (Fz.t l_13 l_21)).mem _ _ hb5) (allLt8 (p := fun j25 => ((cApiCask c1))[0 + 8 + j25 * 1]? = some (.int .i64 (c1.Woods j25))) rfl rfl rfl rfl rfl rfl rfl rfl _ (idxO_some hj26).2.2.2) (.add rfl rfl rfl (.assignL rfl rfl (fun sum27 e28 => ?_))))
    refine .nil (.code (.region (.move rfl rfl (.move rfl rfl (.fieldAddr rfl Try.underlying38 rfl Try.sizeOf31 rfl (.bind (fun j29 hj30 => ?_)))))))
    refine .indexAddrA rfl Try.underlying31 Try.sizeOf3 rfl rfl hj30 (.loadF rfl Try.isAgg3 rfl ((Fz.t l_8 (Fz.t l_13 l_21)).mem _ _ hb5) (allLt8 (p := fun j29 => ((cApiCask c1))[0 + 16 + j29 * 1]? = some (.int .i64 (c1.Places j29))) rfl rfl rfl rfl rfl rfl rfl rfl _ (idxO_some hj30).2.2.2) (.add rfl rfl rfl (.assignL rfl rfl (fun other31 e32 => ?_))))
    refine .nil (.block (.keep (.cons (k := 1) rfl (.cons (k := 3) rfl (.cons (k := 4) rfl (.cons (k := 5) rfl (.nil _))))) (.code (.region (.move rfl rfl (.add rfl rfl rfl (.assignL rfl rfl (fun i33 e34 => ?_))))))))
    refine .nil ?_
    exact .nil (LPost.norm fun a w h => ⟨F_20, (Fz.t l_8 (Fz.t l_13 l_21)), h.1.sub (.cons (k := 1) rfl (.cons (k := 3) rfl (.cons (k := 4) rfl (.cons (k := 5) rfl (.nil _))))), h.2⟩)
  ·skip
   refine .exitOut rfl (LPost.exit fun a w h => ⟨rfl, F_7, l_8, h.1.sub (.cons (k := 1) rfl (.cons (k := 3) rfl (.cons (k := 4) rfl (.nil _)))), h.2⟩)
 ·intro b35 hb0 hk e a w hD
  rcases b35 with b35 | b35
  ·skip
   obtain ⟨rfl, F_36, l_37, hA⟩ := hD
   refine interp_exit rfl (GE.app ?_ hk a w hA)
   refine .code (.seq (.region (.fieldAddr rfl Try.underlying38 rfl Try.sizeOf3 rfl (.loadF rfl Try.isAgg3 rfl (l_37.mem _ _ hb5) rfl (.callP rfl Try.call16 rfl rfl rfl (c_wormtubref12_in _ c1.Number 0 1073741824) ?_)))))
   rintro F_40 _ l_41 rfl
   refine .move rfl rfl (.andP (b := (m_wormtubref12_in c1.Number 0 1073741824)) (b' := (m_wormtubref12_in c1.Age 0 65536)) 4 43 (fun hb42 => ?_) (fun hb45 => ?_) (fun F_46 l_47 => ?_))
   ·skip
    refine .onH hb42 rfl rfl (.fieldAddr rfl Try.underlying38 rfl Try.sizeOf3 rfl (.onH hb42 rfl rfl (.loadF rfl Try.isAgg3 rfl ((Fz.t l_37 l_41).mem _ _ hb5) rfl (.onH hb42 rfl rfl (.callP rfl Try.call16 rfl rfl rfl (c_wormtubref12_in _ c1.Age 0 65536) ?_)))))
    rintro F_43 _ l_44 rfl
    refine .pickTH hb42 rfl rfl rfl ?_
    exact .fin 4 rfl rfl (by kernel_rfl) l_44
   ·skip
    refine .offH hb45 rfl rfl rfl (.offH hb45 rfl rfl rfl (.offH hb45 rfl rfl rfl (.pickFH hb45 rfl rfl rfl ?_)))
    exact .fin 4 rfl rfl (by kernel_rfl) Fz.r
   refine .move rfl rfl (.andP (b := ((m_wormtubref12_in c1.Number 0 1073741824) && (m_wormtubref12_in c1.Age 0 65536))) (b' := (decide (c1.Age ≥ b35.1))) 5 49 (fun hb48 => ?_) (fun hb49 => ?_) (fun F_50 l_51 => ?_))
   ·skip
    refine .onH hb48 rfl rfl (.fieldAddr rfl Try.underlying38 rfl Try.sizeOf3 rfl (.onH hb48 rfl rfl (.loadF rfl Try.isAgg3 rfl ((Fz.t l_37 (Fz.t l_41 l_47)).mem _ _ hb5) rfl (.onH hb48 rfl rfl (.move rfl rfl (.onH hb48 rfl rfl (.geq rfl rfl rfl (.pickTH hb48 rfl rfl rfl ?_))))))))
    exact .fin 5 rfl rfl (by kernel_rfl) Fz.r
   ·skip
    refine .offH hb49 rfl rfl rfl (.offH hb49 rfl rfl rfl (.offH hb49 rfl rfl rfl (.offH hb49 rfl rfl rfl (.pickFH hb49 rfl rfl rfl ?_))))
    exact .fin 5 rfl rfl (by kernel_rfl) Fz.r
   refine .move rfl rfl (.andP (b := (((m_wormtubref12_in c1.Number 0 1073741824) && (m_wormtubref12_in c1.Age 0 65536)) && (decide (c1.Age ≥ b35.1)))) (b' := (decide (c1.Age ≥ b35.2))) 5 55 (fun hb52 => ?_) (fun hb53 => ?_) (fun F_54 l_55 => ?_))
   ·skip
    refine .onH hb52 rfl rfl (.fieldAddr rfl Try.underlying38 rfl Try.sizeOf3 rfl (.onH hb52 rfl rfl (.loadF rfl Try.isAgg3 rfl ((Fz.t l_37 (Fz.t l_41 (Fz.t l_47 l_51))).mem _ _ hb5) rfl (.onH hb52 rfl rfl (.move rfl rfl (.onH hb52 rfl rfl (.geq rfl rfl rfl (.pickTH hb52 rfl rfl rfl ?_))))))))
    exact .fin 5 rfl rfl (by kernel_rfl) Fz.r
   ·skip
    refine .offH hb53 rfl rfl rfl (.offH hb53 rfl rfl rfl (.offH hb53 rfl rfl rfl (.offH hb53 rfl rfl rfl (.pickFH hb53 rfl rfl rfl ?_))))
    exact .fin 5 rfl rfl (by kernel_rfl) Fz.r
   refine .assign rfl rfl (.nil (.code ?_))
   exact .ret0 Try.results15 (.tmp rfl (.nil)) (i := 0) rfl (Fz.t l_4 (Fz.t l_37 (Fz.t l_41 (Fz.t l_47 (Fz.t l_51 l_55))))) rfl
  obtain ⟨rfl, F_38, l_39, hA⟩ := hD
  exact interp_ret ((ret_post0 Try.results15 (.tmp rfl (.nil)) (i := 0) rfl (Fz.t l_4 l_39) rfl) hk a w hA)
def m_wormtubref12_span (s1 : ApiSpan) (most2 : Int) : Bool :=
 (((decide (s1.Lo ≥ 0)) && (decide (s1.Lo ≤ s1.Hi))) && (decide (s1.Hi ≤ most2)))
theorem c_wormtubref12_span (F0 : Fz) (s1 : ApiSpan) (most2 : Int) : CT0 Try.prog 17 [(eApiSpan s1), (.int .i64 most2)].toArray F0 (some (m_wormtubref12_span s1 most2)) (fun r _ v => v = (.bool r)) := by
 refine CT0.enter Try.func17 rfl Try.ntmps17 rfl fun r R => ?_
 refine .seq (.region (.boxF (cs := (cApiSpan s1)) rfl rfl rfl (fun b3 F_4 l_5 hb6 => ?_)))
 refine .assign rfl rfl (.nil (.code (.seq (.region (.fieldAddr rfl Try.underlying24 rfl Try.sizeOf3 rfl (.loadF rfl Try.isAgg3 rfl hb6 rfl (.geq rfl rfl rfl (.move rfl rfl (.andP (b := (decide (s1.Lo ≥ 0))) (b' := (decide (s1.Lo ≤ s1.Hi))) 6 14 (fun hb7 => ?_) (fun hb8 => ?_) (fun F_9 l_10 => ?_))))))))))
 ·skip
  refine .onH hb7 rfl rfl (.fieldAddr rfl Try.underlying24 rfl Try.sizeOf3 rfl (.onH hb7 rfl rfl (.loadF rfl Try.isAgg3 rfl hb6 rfl (.onH hb7 rfl rfl (.fieldAddr rfl Try.underlying24 rfl Try.sizeOf3 rfl (.onH hb7 rfl rfl (.loadF rfl Try.isAgg3 rfl hb6 rfl (.onH hb7 rfl rfl (.leq rfl rfl rfl (.pickTH hb7 rfl rfl rfl ?_))))))))))
  exact .fin 6 rfl rfl (by kernel_rfl) Fz.r
 ·skip
  refine .offH hb8 rfl rfl rfl (.offH hb8 rfl rfl rfl (.offH hb8 rfl rfl rfl (.offH hb8 rfl rfl rfl (.offH hb8 rfl rfl rfl (.pickFH hb8 rfl rfl rfl ?_)))))
  exact .fin 6 rfl rfl (by kernel_rfl) Fz.r
 refine .move rfl rfl (.andP (b := ((decide (s1.Lo ≥ 0)) && (decide (s1.Lo ≤ s1.Hi)))) (b' := (decide (s1.Hi ≤ most2))) 5 20 (fun hb11 => ?_) (fun hb12 => ?_) (fun F_13 l_14 => ?_))
 ·skip
  refine .onH hb11 rfl rfl (.fieldAddr rfl Try.underlying24 rfl Try.sizeOf3 rfl (.onH hb11 rfl rfl (.loadF rfl Try.isAgg3 rfl (l_10.mem _ _ hb6) rfl (.onH hb11 rfl rfl (.move rfl rfl (.onH hb11 rfl rfl (.leq rfl rfl rfl (.pickTH hb11 rfl rfl rfl ?_))))))))
  exact .fin 5 rfl rfl (by kernel_rfl) Fz.r
 ·skip
  refine .offH hb12 rfl rfl rfl (.offH hb12 rfl rfl rfl (.offH hb12 rfl rfl rfl (.offH hb12 rfl rfl rfl (.pickFH hb12 rfl rfl rfl ?_))))
  exact .fin 5 rfl rfl (by kernel_rfl) Fz.r
 refine .assign rfl rfl (.nil (.code ?_))
 exact .ret0 Try.results17 (.tmp rfl (.nil)) (i := 0) rfl (Fz.t l_5 (Fz.t l_10 l_14)) rfl
noncomputable def b_wormtubref12_Batch_1 (b1 : ApiBatch) (s9 : Int) : Option (Ctl (Int) ((Unit) ⊕ (Bool))) :=
 if (decide (s9 < (b1.Draughts.length : Int))) then ((idxL b1.Draughts s9).bind fun x13 => (m_wormtubref12_from x13.From).bind fun r_26 => if (((!r_26) || (!(m_wormtubref12_in x13.Amount 1 1073741824))) || (!(m_wormtubref12_span x13.Strength 10000))) then (some (.done (.inr false))) else (bindv (w64 (s9 + 1)) fun i40 => some (.next i40))) else (some (.done (.inl ())))
noncomputable def m_wormtubref12_Batch (b1 : ApiBatch) : Option Bool :=
 (loopM (b_wormtubref12_Batch_1 b1) 0).bind fun b0 => match b0 with | .inl _b42 => (some (((m_wormtubref12_in (b1.Draughts.length : Int) 1 16) && (m_wormtubref12_in b1.Water 0 17179869184)) && (m_wormtubref12_span b1.Shrink 1000))) | .inr b42 => (some b42)
theorem c_wormtubref12_Batch (F0 : Fz) (b1 : ApiBatch) (p2 : Option Addr) (k3 : Nat) (h4 : RepSl 27 (Ex cApiDraught) F0 p2 k3 b1.Draughts) : CT0 Try.prog 5 [(eApiBatch b1 p2 k3)].toArray F0 (m_wormtubref12_Batch b1) (fun r _ v => v = (.bool r)) := by
 refine CT0.enter Try.func5 rfl Try.ntmps5 rfl fun r R => ?_
 unfold m_wormtubref12_Batch
 refine .seq (.region (.boxF (cs := (cApiBatch b1 p2 k3)) rfl rfl rfl (fun b5 F_6 l_7 hb8 => ?_)))
 refine .assign rfl rfl (.nil (.code (.seq (.seq (.region (.assign rfl rfl (.nil (.code (.block (.keep (.cons (k := 1) rfl (.cons (k := 3) rfl (.nil _))) ?_))))))))))
 refine .loop (fun (s9 : Int) a w => ∃ (F_10 : Fz), F_6 ≤ F_10 ∧ Hd 47 [] [(1, (.pointer (some ⟨b5, 0, none⟩))), (3, (.int .i64 s9))] F_10 [R] a w) (fun b0 e a w => match b0 with | .inl b42 => e = .exit 0 ∧ ∃ (F_43 : Fz), F_6 ≤ F_43 ∧ Hd 47 [] [(1, (.pointer (some ⟨b5, 0, none⟩)))] F_43 [R] a w | .inr b42 => e = .ret ∧ ∃ (F_45 : Fz), F_6 ≤ F_45 ∧ Hd 47 [] [(2, (.bool b42))] F_45 [R] a w) ?_ ?_ ?_
 ·exact fun a w h => ⟨F_6, Fz.r, h.1.sub (.cons (k := 1) rfl (.cons (k := 3) rfl (.nil _))), h.2⟩
 ·intro s9 ctl
  refine GC.ex (fun a w ⟨F_10, l_11, hA⟩ => ⟨_, hA, ?_⟩)
  unfold b_wormtubref12_Batch_1
  refine .seq (.seq (.region (.move rfl rfl (.fieldAddr rfl Try.underlying26 rfl Try.sizeOf22 rfl (.loadF rfl Try.isAgg22 rfl (l_11.mem _ _ hb8) rfl (.lenS rfl rfl Try.underlying22 rfl (.lss rfl rfl rfl (.nil (.code (.cond rfl (fun hb12 => ?_) (fun hb12 => ?_)))))))))))
  ·skip
   refine .skip (.code (.seq (.block (.seq (.region (.fieldAddr rfl Try.underlying26 rfl Try.sizeOf22 rfl (.loadF rfl Try.isAgg22 rfl (l_11.mem _ _ hb8) rfl (.move rfl rfl (.idx rfl Try.underlying22 Try.sizeOf40 (h4.mono (Fz.t l_7 l_11)) rfl rfl (fun x13 b14 o15 T16 fr17 cs18 e19 hm20 hv21 => ?_))))))))))
   refine .loadFA rfl Try.isAgg40 Try.sizeOf40 rfl hm20 hv21 rfl (.alloc (cs := (cApiDraught (ApiDraught.mk (ApiCask.mk 0 0 0 0 0 0 0 0 (fun _ => 0) (fun _ => 0)) 0 (ApiSpan.mk 0 0)))) rfl Try.zeroValue40 rfl (fun b23 => ?_))
   refine .store (cs' := (cApiDraught x13)) Try.sizeOf40 rfl rfl rfl rfl (i := 0) rfl (Nat.le_of_ble_eq_true rfl) rfl (setMany_all (by rfl)) (.nil (.code (.seq (.region (.fieldAddr rfl Try.underlying40 rfl Try.sizeOf38 rfl (.loadOA rfl Try.isAgg38 Try.sizeOf38 rfl (i := 0) rfl (vs := (cApiCask x13.From)) (by kernel_rfl) rfl (.call0 rfl Try.call15 rfl rfl rfl (c_wormtubref12_from _ x13.From) ?_)))))))
   rintro r_26 F_24 _ - l_25 rfl
   refine .not rfl rfl (.move rfl rfl (.orP (b := (!r_26)) (b' := (!(m_wormtubref12_in x13.Amount 1 1073741824))) 5 26 (fun hb27 => ?_) (fun hb30 => ?_) (fun F_31 l_32 => ?_)))
   ·skip
    refine .onH hb27 rfl rfl (.fieldAddr rfl Try.underlying40 rfl Try.sizeOf3 rfl (.onH hb27 rfl rfl (.loadO rfl Try.isAgg3 rfl (i := 0) rfl rfl (.onH hb27 rfl rfl (.callP rfl Try.call16 rfl rfl rfl (c_wormtubref12_in _ x13.Amount 1 1073741824) ?_)))))
    rintro F_28 _ l_29 rfl
    refine .onH hb27 rfl rfl (.not rfl rfl (.pickFH hb27 rfl rfl rfl ?_))
    exact .fin 5 rfl rfl (by kernel_rfl) l_29
   ·skip
    refine .offH hb30 rfl rfl rfl (.offH hb30 rfl rfl rfl (.offH hb30 rfl rfl rfl (.offH hb30 rfl rfl rfl (.pickTH hb30 rfl rfl rfl ?_))))
    exact .fin 5 rfl rfl (by kernel_rfl) Fz.r
   refine .move rfl rfl (.orP (b := ((!r_26) || (!(m_wormtubref12_in x13.Amount 1 1073741824)))) (b' := (!(m_wormtubref12_span x13.Strength 10000))) 5 32 (fun hb33 => ?_) (fun hb36 => ?_) (fun F_37 l_38 => ?_))
   ·skip
    refine .onH hb33 rfl rfl (.fieldAddr rfl Try.underlying40 rfl Try.sizeOf24 rfl (.onH hb33 rfl rfl (.loadOA rfl Try.isAgg24 Try.sizeOf24 rfl (i := 0) rfl (vs := (cApiSpan x13.Strength)) (by kernel_rfl) rfl (.onH hb33 rfl rfl (.callP rfl Try.call17 rfl rfl rfl (c_wormtubref12_span _ x13.Strength 10000) ?_)))))
    rintro F_34 _ l_35 rfl
    refine .onH hb33 rfl rfl (.not rfl rfl (.pickFH hb33 rfl rfl rfl ?_))
    exact .fin 5 rfl rfl (by kernel_rfl) l_35
   ·skip
    refine .offH hb36 rfl rfl rfl (.offH hb36 rfl rfl rfl (.offH hb36 rfl rfl rfl (.offH hb36 rfl rfl rfl (.pickTH hb36 rfl rfl rfl ?_))))
    exact .fin 5 rfl rfl (by kernel_rfl) Fz.r
   refine .nil (.code (.cond rfl (fun hb39 => ?_) (fun hb39 => ?_)))
   ·skip
    refine .seq (.region (.assign rfl rfl (.nil (.code (.drop 0 (.retQ (LPost.ret fun a w h => ⟨rfl, F_37, (Fz.t l_11 (Fz.t l_25 (Fz.t l_32 l_38))), h.1.sub (.cons (k := 2) rfl (.nil _)), h.2⟩)))))))
   ·skip
    refine .skip (.block (.code (.region (.move rfl rfl (.add rfl rfl rfl (.assignL rfl rfl (fun i40 e41 => ?_)))))))
    refine .nil (.drop 0 ?_)
    exact .nil (LPost.norm fun a w h => ⟨F_37, (Fz.t l_11 (Fz.t l_25 (Fz.t l_32 l_38))), h.1.sub (.cons (k := 1) rfl (.cons (k := 3) rfl (.nil _))), h.2⟩)
  ·skip
   refine .exitOut rfl (LPost.exit fun a w h => ⟨rfl, F_10, l_11, h.1.sub (.cons (k := 1) rfl (.nil _)), h.2⟩)
 ·intro b42 hb0 hk e a w hD
  rcases b42 with b42 | b42
  ·skip
   obtain ⟨rfl, F_43, l_44, hA⟩ := hD
   refine interp_exit rfl (GE.app ?_ hk a w hA)
   refine .code (.seq (.region (.fieldAddr rfl Try.underlying26 rfl Try.sizeOf22 rfl (.loadF rfl Try.isAgg22 rfl (l_44.mem _ _ hb8) rfl (.lenS rfl rfl Try.underlying22 rfl (.callP rfl Try.call16 rfl rfl rfl (c_wormtubref12_in _ (b1.Draughts.length : Int) 1 16) ?_))))))
   rintro F_47 _ l_48 rfl
   refine .move rfl rfl (.andP (b := (m_wormtubref12_in (b1.Draughts.length : Int) 1 16)) (b' := (m_wormtubref12_in b1.Water 0 17179869184)) 4 41 (fun hb49 => ?_) (fun hb52 => ?_) (fun F_53 l_54 => ?_))
   ·skip
    refine .onH hb49 rfl rfl (.fieldAddr rfl Try.underlying26 rfl Try.sizeOf3 rfl (.onH hb49 rfl rfl (.loadF rfl Try.isAgg3 rfl ((Fz.t l_44 l_48).mem _ _ hb8) rfl (.onH hb49 rfl rfl (.callP rfl Try.call16 rfl rfl rfl (c_wormtubref12_in _ b1.Water 0 17179869184) ?_)))))
    rintro F_50 _ l_51 rfl
    refine .pickTH hb49 rfl rfl rfl ?_
    exact .fin 4 rfl rfl (by kernel_rfl) l_51
   ·skip
    refine .offH hb52 rfl rfl rfl (.offH hb52 rfl rfl rfl (.offH hb52 rfl rfl rfl (.pickFH hb52 rfl rfl rfl ?_)))
    exact .fin 4 rfl rfl (by kernel_rfl) Fz.r
   refine .move rfl rfl (.andP (b := ((m_wormtubref12_in (b1.Draughts.length : Int) 1 16) && (m_wormtubref12_in b1.Water 0 17179869184))) (b' := (m_wormtubref12_span b1.Shrink 1000)) 4 46 (fun hb55 => ?_) (fun hb58 => ?_) (fun F_59 l_60 => ?_))
   ·skip
    refine .onH hb55 rfl rfl (.fieldAddr rfl Try.underlying26 rfl Try.sizeOf24 rfl (.onH hb55 rfl rfl (.loadFA rfl Try.isAgg24 Try.sizeOf24 rfl ((Fz.t l_44 (Fz.t l_48 l_54)).mem _ _ hb8) (vs := (cApiSpan b1.Shrink)) (by kernel_rfl) rfl (.onH hb55 rfl rfl (.callP rfl Try.call17 rfl rfl rfl (c_wormtubref12_span _ b1.Shrink 1000) ?_)))))
    rintro F_56 _ l_57 rfl
    refine .pickTH hb55 rfl rfl rfl ?_
    exact .fin 4 rfl rfl (by kernel_rfl) l_57
   ·skip
    refine .offH hb58 rfl rfl rfl (.offH hb58 rfl rfl rfl (.offH hb58 rfl rfl rfl (.pickFH hb58 rfl rfl rfl ?_)))
    exact .fin 4 rfl rfl (by kernel_rfl) Fz.r
   refine .assign rfl rfl (.nil (.code ?_))
   exact .ret0 Try.results5 (.tmp rfl (.nil)) (i := 0) rfl (Fz.t l_7 (Fz.t l_44 (Fz.t l_48 (Fz.t l_54 l_60)))) rfl
  obtain ⟨rfl, F_45, l_46, hA⟩ := hD
  exact interp_ret ((ret_post0 Try.results5 (.tmp rfl (.nil)) (i := 0) rfl (Fz.t l_7 l_46) rfl) hk a w hA)
def m_genuine_within (n_1 : Int) (least2 : Int) (most3 : Int) : Bool :=
 ((decide (n_1 ≥ least2)) && (decide (n_1 ≤ most3)))
theorem c_genuine_within (F0 : Fz) (n_1 : Int) (least2 : Int) (most3 : Int) : CT0 Try.prog 26 [(.int .i64 n_1), (.int .i64 least2), (.int .i64 most3)].toArray F0 (some (m_genuine_within n_1 least2 most3)) (fun r _ v => v = (.bool r)) := by
 refine CT0.enter Try.func26 rfl Try.ntmps26 rfl fun r R => ?_
 refine .seq (.region (.assign rfl rfl (.nil (.code (.seq (.region (.move rfl rfl (.move rfl rfl (.geq rfl rfl rfl (.move rfl rfl (.andP (b := (decide (n_1 ≥ least2))) (b' := (decide (n_1 ≤ most3))) 4 14 (fun hb4 => ?_) (fun hb5 => ?_) (fun F_6 l_7 => ?_))))))))))))
 ·skip
  refine .onH hb4 rfl rfl (.move rfl rfl (.onH hb4 rfl rfl (.move rfl rfl (.onH hb4 rfl rfl (.leq rfl rfl rfl (.pickTH hb4 rfl rfl rfl ?_))))))
  exact .fin 4 rfl rfl (by kernel_rfl) Fz.r
 ·skip
  refine .offH hb5 rfl rfl rfl (.offH hb5 rfl rfl rfl (.offH hb5 rfl rfl rfl (.pickFH hb5 rfl rfl rfl ?_)))
  exact .fin 4 rfl rfl (by kernel_rfl) Fz.r
 refine .assign rfl rfl (.nil (.code ?_))
 exact .ret0 Try.results26 (.tmp rfl (.nil)) (i := 0) rfl l_7 rfl
def m_genuine_isDay (n_1 : Int) : Bool :=
 (m_genuine_within n_1 0 65536)
theorem c_genuine_isDay (F0 : Fz) (n_1 : Int) : CT0 Try.prog 41 [(.int .i64 n_1)].toArray F0 (some (m_genuine_isDay n_1)) (fun r _ v => v = (.bool r)) := by
 refine CT0.enter Try.func41 rfl Try.ntmps41 rfl fun r R => ?_
 refine .seq (.region (.assign rfl rfl (.nil (.code (.seq (.region (.move rfl rfl (.callP rfl Try.call26 rfl rfl rfl (c_genuine_within _ n_1 0 65536) ?_))))))))
 rintro F_2 _ l_3 rfl
 refine .assign rfl rfl (.nil (.code ?_))
 exact .ret0 Try.results41 (.tmp rfl (.nil)) (i := 0) rfl l_3 rfl
def m_genuine_isSpan (s1 : ApiSpan) (most2 : Int) : Bool :=
 (((decide (s1.Lo ≥ 0)) && (decide (s1.Lo ≤ s1.Hi))) && (decide (s1.Hi ≤ most2)))
theorem c_genuine_isSpan (F0 : Fz) (s1 : ApiSpan) (most2 : Int) : CT0 Try.prog 42 [(eApiSpan s1), (.int .i64 most2)].toArray F0 (some (m_genuine_isSpan s1 most2)) (fun r _ v => v = (.bool r)) := by
 refine CT0.enter Try.func42 rfl Try.ntmps42 rfl fun r R => ?_
 refine .seq (.region (.boxF (cs := (cApiSpan s1)) rfl rfl rfl (fun b3 F_4 l_5 hb6 => ?_)))
 refine .assign rfl rfl (.nil (.code (.seq (.region (.fieldAddr rfl Try.underlying24 rfl Try.sizeOf3 rfl (.loadF rfl Try.isAgg3 rfl hb6 rfl (.geq rfl rfl rfl (.move rfl rfl (.andP (b := (decide (s1.Lo ≥ 0))) (b' := (decide (s1.Lo ≤ s1.Hi))) 6 14 (fun hb7 => ?_) (fun hb8 => ?_) (fun F_9 l_10 => ?_))))))))))
 ·skip
  refine .onH hb7 rfl rfl (.fieldAddr rfl Try.underlying24 rfl Try.sizeOf3 rfl (.onH hb7 rfl rfl (.loadF rfl Try.isAgg3 rfl hb6 rfl (.onH hb7 rfl rfl (.fieldAddr rfl Try.underlying24 rfl Try.sizeOf3 rfl (.onH hb7 rfl rfl (.loadF rfl Try.isAgg3 rfl hb6 rfl (.onH hb7 rfl rfl (.leq rfl rfl rfl (.pickTH hb7 rfl rfl rfl ?_))))))))))
  exact .fin 6 rfl rfl (by kernel_rfl) Fz.r
 ·skip
  refine .offH hb8 rfl rfl rfl (.offH hb8 rfl rfl rfl (.offH hb8 rfl rfl rfl (.offH hb8 rfl rfl rfl (.offH hb8 rfl rfl rfl (.pickFH hb8 rfl rfl rfl ?_)))))
  exact .fin 6 rfl rfl (by kernel_rfl) Fz.r
 refine .move rfl rfl (.andP (b := ((decide (s1.Lo ≥ 0)) && (decide (s1.Lo ≤ s1.Hi)))) (b' := (decide (s1.Hi ≤ most2))) 5 20 (fun hb11 => ?_) (fun hb12 => ?_) (fun F_13 l_14 => ?_))
 ·skip
  refine .onH hb11 rfl rfl (.fieldAddr rfl Try.underlying24 rfl Try.sizeOf3 rfl (.onH hb11 rfl rfl (.loadF rfl Try.isAgg3 rfl (l_10.mem _ _ hb6) rfl (.onH hb11 rfl rfl (.move rfl rfl (.onH hb11 rfl rfl (.leq rfl rfl rfl (.pickTH hb11 rfl rfl rfl ?_))))))))
  exact .fin 5 rfl rfl (by kernel_rfl) Fz.r
 ·skip
  refine .offH hb12 rfl rfl rfl (.offH hb12 rfl rfl rfl (.offH hb12 rfl rfl rfl (.offH hb12 rfl rfl rfl (.pickFH hb12 rfl rfl rfl ?_))))
  exact .fin 5 rfl rfl (by kernel_rfl) Fz.r
 refine .assign rfl rfl (.nil (.code ?_))
 exact .ret0 Try.results42 (.tmp rfl (.nil)) (i := 0) rfl (Fz.t l_5 (Fz.t l_10 l_14)) rfl
noncomputable def b_slices_IndexFunc_Span_1 (s1 : (List ApiSpan)) (f5 : (ApiSpan → Option Bool)) (s9 : Int) : Option (Ctl (Int) ((Unit) ⊕ (Int))) :=
 if (decide (s9 < (s1.length : Int))) then ((idxL s1 s9).bind fun x13 => (f5 x13).bind fun r_25 => if r_25 then (some (.done (.inr s9))) else (some (.next (w64 (s9 + 1))))) else (some (.done (.inl ())))
noncomputable def m_slices_IndexFunc_Span (s1 : (List ApiSpan)) (f5 : (ApiSpan → Option Bool)) : Option Int :=
 (loopM (b_slices_IndexFunc_Span_1 s1 f5) 0).bind fun b0 => match b0 with | .inl _b27 => (some (-1)) | .inr b27 => (some b27)
theorem c_slices_IndexFunc_Span (F0 : Fz) (s1 : (List ApiSpan)) (p2 : Option Addr) (k3 : Nat) (h4 : RepSl 2 (Ex cApiSpan) F0 p2 k3 s1) (f5 : (ApiSpan → Option Bool)) (p6 : FuncId) (k7 : List Value) (h8 : RepFn Try.prog F0 p6 k7 (fun x _ vs => vs = [(eApiSpan x)]) (fun r _ v => v = (.bool r)) f5) : CT0 Try.prog 82 [(.slice p2 s1.length k3), (.func (.func p6) #[] k7.toArray)].toArray F0 (m_slices_IndexFunc_Span s1 f5) (fun r _ v => v = (.int .i64 r)) := by
 refine CT0.enter Try.func82 rfl Try.ntmps82 rfl fun r R => ?_
 unfold m_slices_IndexFunc_Span
 refine .seq (.region (.assign rfl rfl (.nil (.code (.seq (.seq (.region (.move rfl rfl (.lenS rfl rfl Try.underlying28 rfl (.move rfl rfl (.nil ?_)))))))))))
 refine .code (.block (.keep (.cons (k := 0) rfl (.cons (k := 1) rfl (.cons (k := 7) rfl (.cons (k := 8) rfl (.nil _))))) ?_))
 refine .loop (fun (s9 : Int) a w => ∃ (F_10 : Fz), F0 ≤ F_10 ∧ Hd 19 [] [(0, (.slice p2 s1.length k3)), (1, (.func (.func p6) #[] k7.toArray)), (7, (.int .i64 (s1.length : Int))), (8, (.int .i64 s9))] F_10 [R] a w) (fun b0 e a w => match b0 with | .inl b27 => e = .exit 0 ∧ ∃ (F_28 : Fz), F0 ≤ F_28 ∧ Hd 19 [] [] F_28 [R] a w | .inr b27 => e = .ret ∧ ∃ (F_30 : Fz), F0 ≤ F_30 ∧ Hd 19 [] [(4, (.int .i64 b27))] F_30 [R] a w) ?_ ?_ ?_
 ·exact fun a w h => ⟨F0, Fz.r, h.1.sub (.cons (k := 0) rfl (.cons (k := 1) rfl (.cons (k := 7) rfl (.cons (k := 8) rfl (.nil _))))), h.2⟩
 ·intro s9 ctl
  refine GC.ex (fun a w ⟨F_10, l_11, hA⟩ => ⟨_, hA, ?_⟩)
  unfold b_slices_IndexFunc_Span_1
  refine .seq (.region (.lss rfl rfl rfl (.nil (.code (.seq (.cond rfl (fun hb12 => ?_) (fun hb12 => ?_)))))))
  ·skip
   refine .skip (.code (.seq (.block (.seq (.region (.move rfl rfl (.assign rfl rfl (.nil (.code (.seq (.region ?_)))))))))))
   refine .move rfl rfl (.move rfl rfl (.move rfl rfl (.idx rfl Try.underlying28 Try.sizeOf24 (h4.mono l_11) rfl rfl (fun x13 b14 o15 T16 fr17 cs18 e19 hm20 hv21 => ?_))))
   refine .loadFA rfl Try.isAgg24 Try.sizeOf24 rfl hm20 hv21 rfl (.call0 rfl h8.1 rfl rfl rfl (h8.2 _ l_11 x13 [(eApiSpan x13)] rfl) ?_)
   rintro r_25 F_23 _ - l_24 rfl
   refine .nil (.code (.cond rfl (fun hb26 => ?_) (fun hb26 => ?_)))
   ·skip
    refine .seq (.region (.move rfl rfl (.assign rfl rfl (.nil (.code (.retQ (LPost.ret fun a w h => ⟨rfl, F_23, (Fz.t l_11 l_24), h.1.sub (.cons (k := 4) rfl (.nil _)), h.2⟩)))))))
   ·skip
    refine .skip (.block (.code (.region (.add rfl rfl rfl (.move rfl rfl (.nil ?_))))))
    exact .nil (LPost.norm fun a w h => ⟨F_23, (Fz.t l_11 l_24), h.1.sub (.cons (k := 0) rfl (.cons (k := 1) rfl (.cons (k := 7) rfl (.cons (k := 8) rfl (.nil _))))), h.2⟩)
  ·skip
   refine .exitOut rfl (LPost.exit fun a w h => ⟨rfl, F_10, l_11, h.1.sub (.nil _), h.2⟩)
 ·intro b27 hb0 hk e a w hD
  rcases b27 with b27 | b27
  ·skip
   obtain ⟨rfl, F_28, l_29, hA⟩ := hD
   refine interp_exit rfl (GE.app ?_ hk a w hA)
   refine .code (.seq (.region (.assign rfl rfl (.nil (.code ?_)))))
   exact .ret0 Try.results82 (.tmp rfl (.nil)) (i := 0) rfl l_29 rfl
  obtain ⟨rfl, F_30, l_31, hA⟩ := hD
  exact interp_ret ((ret_post0 Try.results82 (.tmp rfl (.nil)) (i := 0) rfl l_31 rfl) hk a w hA)
noncomputable def m_slices_ContainsFunc_Span (s1 : (List ApiSpan)) (f5 : (ApiSpan → Option Bool)) : Option Bool :=
 (m_slices_IndexFunc_Span s1 f5).bind fun r_11 => some (decide (r_11 ≥ 0))
theorem c_slices_ContainsFunc_Span (F0 : Fz) (s1 : (List ApiSpan)) (p2 : Option Addr) (k3 : Nat) (h4 : RepSl 2 (Ex cApiSpan) F0 p2 k3 s1) (f5 : (ApiSpan → Option Bool)) (p6 : FuncId) (k7 : List Value) (h8 : RepFn Try.prog F0 p6 k7 (fun x _ vs => vs = [(eApiSpan x)]) (fun r _ v => v = (.bool r)) f5) : CT0 Try.prog 59 [(.slice p2 s1.length k3), (.func (.func p6) #[] k7.toArray)].toArray F0 (m_slices_ContainsFunc_Span s1 f5) (fun r _ v => v = (.bool r)) := by
 refine CT0.enter Try.func59 rfl Try.ntmps59 rfl fun r R => ?_
 unfold m_slices_ContainsFunc_Span
 refine .seq (.region (.assign rfl rfl (.nil (.code (.seq (.region (.move rfl rfl (.move rfl rfl (.call0 rfl Try.call82 rfl rfl rfl (c_slices_IndexFunc_Span _ s1 p2 k3 h4 f5 p6 k7 h8) ?_)))))))))
 rintro r_11 F_9 _ - l_10 rfl
 refine .geq rfl rfl rfl (.assign rfl rfl (.nil (.code ?_)))
 exact .ret0 Try.results59 (.tmp rfl (.nil)) (i := 0) rfl l_10 rfl
def m_genuine_areValues_1 (s1 : ApiSpan) : Bool :=
 (!(m_genuine_isSpan s1 1048576))
theorem c_genuine_areValues_1 (F0 : Fz) (s1 : ApiSpan) : CT0 Try.prog 60 [(eApiSpan s1)].toArray F0 (some (m_genuine_areValues_1 s1)) (fun r _ v => v = (.bool r)) := by
 refine CT0.enter Try.func60 rfl Try.ntmps60 rfl fun r R => ?_
 refine .seq (.region (.boxF (cs := (cApiSpan s1)) rfl rfl rfl (fun b2 F_3 l_4 hb5 => ?_)))
 refine .assign rfl rfl (.nil (.code (.seq (.region (.loadFA rfl Try.isAgg24 Try.sizeOf24 rfl hb5 (vs := (cApiSpan s1)) (by kernel_rfl) rfl (.callP rfl Try.call42 rfl rfl rfl (c_genuine_isSpan _ s1 1048576) ?_))))))
 rintro F_6 _ l_7 rfl
 refine .not rfl rfl (.assign rfl rfl (.nil (.code ?_)))
 exact .ret0 Try.results60 (.tmp rfl (.nil)) (i := 0) rfl (Fz.t l_4 l_7) rfl
noncomputable def m_genuine_areValues (l_1 : (List ApiSpan)) : Option Bool :=
 (if (decide ((l_1.length : Int) ≤ 12)) then ((m_slices_ContainsFunc_Span l_1 (fun x => some (m_genuine_areValues_1 x))).bind fun r_9 => some (!r_9)) else some false).bind fun z13 => some z13
theorem c_genuine_areValues (F0 : Fz) (l_1 : (List ApiSpan)) (p2 : Option Addr) (k3 : Nat) (h4 : RepSl 2 (Ex cApiSpan) F0 p2 k3 l_1) : CT0 Try.prog 43 [(.slice p2 l_1.length k3)].toArray F0 (m_genuine_areValues l_1) (fun r _ v => v = (.bool r)) := by
 refine CT0.enter Try.func43 rfl Try.ntmps43 rfl fun r R => ?_
 unfold m_genuine_areValues
 refine .seq (.region (.assign rfl rfl (.nil (.code (.seq (.region (.move rfl rfl (.lenS rfl rfl Try.underlying28 rfl (.leq rfl rfl rfl (.move rfl rfl (.andM (b := (decide ((l_1.length : Int) ≤ 12))) 4 10 (fun hb5 z14 => ?_) (fun hb10 => ?_) (fun z13 F_11 l_12 => ?_))))))))))))
 ·skip
  refine .onH hb5 rfl rfl (.move rfl rfl (.onH hb5 rfl rfl ?_))
  have hf6 : RepFn Try.prog F0 60 [] (fun x _ vs => vs = [(eApiSpan x)]) (fun r _ v => v = (.bool r)) (fun x => some (m_genuine_areValues_1 x)) := ⟨Try.call60, fun F' le' x vs hv => by obtain rfl := hv; exact c_genuine_areValues_1 F' x⟩
  refine .call0 rfl Try.call59 rfl rfl rfl (c_slices_ContainsFunc_Span _ l_1 p2 k3 h4 (fun x => some (m_genuine_areValues_1 x)) 60 ([]) hf6) ?_
  rintro r_9 F_7 _ - l_8 rfl
  refine .onH hb5 rfl rfl (.not rfl rfl (.pickTH hb5 rfl rfl rfl ?_))
  exact .finZ 4 rfl rfl (by kernel_rfl) l_8
 ·skip
  refine .offH hb10 rfl rfl rfl (.offH hb10 rfl rfl rfl (.offH hb10 rfl rfl rfl (.pickFH hb10 rfl rfl rfl ?_)))
  exact .fin 4 rfl rfl (by kernel_rfl) Fz.r
 refine .assign rfl rfl (.nil (.code ?_))
 exact .ret0 Try.results43 (.tmp rfl (.nil)) (i := 0) rfl l_12 rfl
noncomputable def m_genuine_areSources_1 (s1 : ApiSource) (c5 : (List ApiSource)) : Option Bool :=
 (if (!(m_genuine_within s1.Cask 0 1073741824)) then (some true) else (if (!(m_genuine_isDay s1.Drawn)) then (some true) else (if (!(m_genuine_isSpan s1.Strength 10000)) then (some true) else ((m_genuine_areValues s1.Values).bind fun r_26 => (if (!r_26) then some true else ((idxL c5 0).bind fun x28 => some ((s1.Values.length : Int) != (x28.Values.length : Int)))).bind fun z44 => some z44))) : Option (Bool)).bind fun j46 => some j46
theorem c_genuine_areSources_1 (F0 : Fz) (s1 : ApiSource) (p2 : Option Addr) (k3 : Nat) (h4 : RepSl 2 (Ex cApiSpan) F0 p2 k3 s1.Values) (c5 : (List ApiSource)) (b6 : Nat) (p8 : Option Addr) (k9 : Nat) (hb7 : F0.mem b6 = some (.cells [(.slice p8 c5.length k9)].toArray 27)) (h10 : RepSl 5 rApiSource F0 p8 k9 c5) : CT0 Try.prog 61 [(eApiSource s1 p2 k3), (.pointer (some ⟨b6, 0, none⟩))].toArray F0 (m_genuine_areSources_1 s1 c5) (fun r _ v => v = (.bool r)) := by
 refine CT0.enter Try.func61 rfl Try.ntmps61 rfl fun r R => ?_
 unfold m_genuine_areSources_1
 refine .seq (.region (.boxF (cs := (cApiSource s1 p2 k3)) rfl rfl rfl (fun b11 F_12 l_13 hb14 => ?_)))
 refine .assign rfl rfl (.nil (.code (.seq (.keep (.cons (k := 1) rfl (.cons (k := 2) rfl (.cons (k := 3) rfl (.nil _)))) ?_))))
 refine GC.join0 (σ := Bool) (fun j46 a w => ∃ (F_47 : Fz), F_12 ≤ F_47 ∧ Hd 37 [] [(3, (.bool j46))] F_47 [R] a w) (fun sj => ?_) (fun j46 hs0 => GE.ex (fun a w ⟨F_47, l_48, hA⟩ => ⟨_, hA, ?_⟩))
 ·skip
  refine .drawT (p := 2) (st := [4, 5, 5]) mixedOK (by kernel_rfl) (.fieldAddr rfl Try.underlying42 rfl Try.sizeOf3 rfl (.loadF rfl Try.isAgg3 rfl hb14 rfl (.pendT (.callP rfl Try.call26 rfl rfl rfl (c_genuine_within _ s1.Cask 0 1073741824) ?_))))
  rintro F_15 _ l_16 rfl
  refine .nil (.stage (.not rfl rfl (.move rfl rfl (.ite (fun hb17 => ?_) (fun hb17 => ?_)))))
  ·skip
   refine .offH hb17 rfl rfl rfl (.offH hb17 rfl rfl rfl (.pendT (.offH hb17 rfl rfl rfl (.nil (.stage (.offH hb17 rfl rfl rfl (.pickTH hb17 rfl rfl rfl (.move rfl rfl (.off rfl rfl rfl rfl (.off rfl rfl rfl rfl (.pendT ?_)))))))))))
   refine .off rfl rfl rfl rfl (.nil (.stage (.off rfl rfl rfl rfl (.pickT rfl rfl rfl (.move rfl rfl (.off rfl rfl rfl rfl (.off rfl rfl rfl rfl (.pendT (.off rfl rfl rfl rfl (.nil (.stageZ ?_)))))))))))
   refine .off rfl rfl rfl rfl (.pickT rfl rfl rfl (.move rfl rfl (.off rfl rfl rfl rfl (.off rfl rfl rfl rfl (.off rfl rfl rfl rfl (.off rfl rfl rfl rfl (.off rfl rfl rfl rfl (.off rfl rfl rfl rfl (.off rfl rfl rfl rfl (.off rfl rfl rfl rfl (.off rfl rfl rfl rfl ?_)))))))))))
   refine .pickT rfl rfl rfl (.assign rfl rfl (.endT ?_))
   exact .nil fun e a w h => by cases e; exact ⟨rfl, ⟨F_15, l_16, h.1.sub (.cons (k := 3) rfl (.nil _)), h.2⟩⟩
  ·skip
   refine .onH hb17 rfl rfl (.fieldAddr rfl Try.underlying42 rfl Try.sizeOf3 rfl (.onH hb17 rfl rfl (.loadF rfl Try.isAgg3 rfl (l_16.mem _ _ hb14) rfl (.pendT (.onH hb17 rfl rfl (.callP rfl Try.call41 rfl rfl rfl (c_genuine_isDay _ s1.Drawn) ?_))))))
   rintro F_18 _ l_19 rfl
   refine .nil (.stage (.onH hb17 rfl rfl (.not rfl rfl (.pickFH hb17 rfl rfl rfl (.move rfl rfl (.ite (fun hb20 => ?_) (fun hb20 => ?_)))))))
   ·skip
    refine .offH hb20 rfl rfl rfl (.offH hb20 rfl rfl rfl (.pendT (.offH hb20 rfl rfl rfl (.nil (.stage (.offH hb20 rfl rfl rfl (.pickTH hb20 rfl rfl rfl (.move rfl rfl (.off rfl rfl rfl rfl (.off rfl rfl rfl rfl (.pendT ?_)))))))))))
    refine .off rfl rfl rfl rfl (.nil (.stageZ (.off rfl rfl rfl rfl (.pickT rfl rfl rfl (.move rfl rfl (.off rfl rfl rfl rfl (.off rfl rfl rfl rfl (.off rfl rfl rfl rfl (.off rfl rfl rfl rfl (.off rfl rfl rfl rfl (.off rfl rfl rfl rfl ?_)))))))))))
    refine .off rfl rfl rfl rfl (.off rfl rfl rfl rfl (.off rfl rfl rfl rfl (.pickT rfl rfl rfl (.assign rfl rfl (.endT ?_)))))
    exact .nil fun e a w h => by cases e; exact ⟨rfl, ⟨F_18, (Fz.t l_16 l_19), h.1.sub (.cons (k := 3) rfl (.nil _)), h.2⟩⟩
   ·skip
    refine .onH hb20 rfl rfl (.fieldAddr rfl Try.underlying42 rfl Try.sizeOf24 rfl (.onH hb20 rfl rfl (.loadFA rfl Try.isAgg24 Try.sizeOf24 rfl ((Fz.t l_16 l_19).mem _ _ hb14) (vs := (cApiSpan s1.Strength)) (by kernel_rfl) rfl (.pendT (.onH hb20 rfl rfl (.callP rfl Try.call42 rfl rfl rfl (c_genuine_isSpan _ s1.Strength 10000) ?_))))))
    rintro F_21 _ l_22 rfl
    refine .nil (.stage (.onH hb20 rfl rfl (.not rfl rfl (.pickFH hb20 rfl rfl rfl (.move rfl rfl (.ite (fun hb23 => ?_) (fun hb23 => ?_)))))))
    ·skip
     refine .offH hb23 rfl rfl rfl (.offH hb23 rfl rfl rfl (.pendT (.offH hb23 rfl rfl rfl (.nil (.stageZ (.offH hb23 rfl rfl rfl (.pickTH hb23 rfl rfl rfl (.move rfl rfl (.off rfl rfl rfl rfl (.off rfl rfl rfl rfl (.off rfl rfl rfl rfl ?_)))))))))))
     refine .off rfl rfl rfl rfl (.off rfl rfl rfl rfl (.off rfl rfl rfl rfl (.off rfl rfl rfl rfl (.off rfl rfl rfl rfl (.off rfl rfl rfl rfl (.pickT rfl rfl rfl (.assign rfl rfl (.endT ?_))))))))
     exact .nil fun e a w h => by cases e; exact ⟨rfl, ⟨F_21, (Fz.t l_16 (Fz.t l_19 l_22)), h.1.sub (.cons (k := 3) rfl (.nil _)), h.2⟩⟩
    ·skip
     refine .onH hb23 rfl rfl (.fieldAddr rfl Try.underlying42 rfl Try.sizeOf28 rfl (.onH hb23 rfl rfl (.loadF rfl Try.isAgg28 rfl ((Fz.t l_16 (Fz.t l_19 l_22)).mem _ _ hb14) rfl (.pendT (.onH hb23 rfl rfl (.call0 rfl Try.call43 rfl rfl rfl (c_genuine_areValues _ s1.Values p2 k3 (h4.mono (Fz.t l_13 (Fz.t l_16 (Fz.t l_19 l_22))))) ?_))))))
     rintro r_26 F_24 _ - l_25 rfl
     refine .nil (.stageZ (.onH hb23 rfl rfl (.not rfl rfl (.pickFH hb23 rfl rfl rfl (.move rfl rfl (.orM (b := (!r_26)) 10 36 (fun hb27 z45 => ?_) (fun hb41 => ?_) (fun z44 F_42 l_43 => ?_)))))))
     ·skip
      refine .onH hb27 rfl rfl (.fieldAddr rfl Try.underlying42 rfl Try.sizeOf28 rfl (.onH hb27 rfl rfl (.loadF rfl Try.isAgg28 rfl ((Fz.t l_16 (Fz.t l_19 (Fz.t l_22 l_25))).mem _ _ hb14) rfl (.onH hb27 rfl rfl (.lenS rfl rfl Try.underlying28 rfl (.onH hb27 rfl rfl (.loadF rfl Try.isAgg27 rfl ((Fz.t l_13 (Fz.t l_16 (Fz.t l_19 (Fz.t l_22 l_25)))).mem _ _ hb7) rfl (.onH hb27 rfl rfl ?_))))))))
      refine .idx rfl Try.underlying27 Try.sizeOf42 (h10.mono (Fz.t l_13 (Fz.t l_16 (Fz.t l_19 (Fz.t l_22 l_25))))) rfl rfl (fun x28 b29 o30 T31 fr32 cs33 e34 hm35 hv36 => ?_)
      obtain ⟨p38, k39, hv36, h40⟩ := hv36
      refine .onH hb27 rfl rfl (.fieldAddr rfl Try.underlying42 rfl Try.sizeOf28 rfl (.onH hb27 rfl rfl (.loadF rfl Try.isAgg28 rfl hm35 (cell_of_take (k := 4) hv36 rfl) (.onH hb27 rfl rfl (.lenS rfl rfl Try.underlying28 rfl (.onH hb27 rfl rfl (.neq rfl rfl rfl (.pickFH hb27 rfl rfl rfl ?_))))))))
      exact .finZ 10 rfl rfl (by kernel_rfl) Fz.r
     ·skip
      refine .offH hb41 rfl rfl rfl (.offH hb41 rfl rfl rfl (.offH hb41 rfl rfl rfl (.offH hb41 rfl rfl rfl (.offH hb41 rfl rfl rfl (.offH hb41 rfl rfl rfl (.offH hb41 rfl rfl rfl (.offH hb41 rfl rfl rfl (.offH hb41 rfl rfl rfl (.pickTH hb41 rfl rfl rfl ?_)))))))))
      exact .fin 10 rfl rfl (by kernel_rfl) Fz.r
     refine .assign rfl rfl (.endT ?_)
     exact .nil fun e a w h => by cases e; exact ⟨rfl, ⟨F_42, (Fz.t l_16 (Fz.t l_19 (Fz.t l_22 (Fz.t l_25 l_43)))), h.1.sub (.cons (k := 3) rfl (.nil _)), h.2⟩⟩
 refine .code ?_
 exact .ret0 Try.results61 (.tmp rfl (.nil)) (i := 0) rfl (Fz.t l_13 l_48) rfl
noncomputable def b_slices_IndexFunc_Source_1 (s1 : (List ApiSource)) (f5 : (ApiSource → Option Bool)) (s9 : Int) : Option (Ctl (Int) ((Unit) ⊕ (Int))) :=
 if (decide (s9 < (s1.length : Int))) then ((idxL s1 s9).bind fun x13 => (f5 x13).bind fun r_28 => if r_28 then (some (.done (.inr s9))) else (some (.next (w64 (s9 + 1))))) else (some (.done (.inl ())))
noncomputable def m_slices_IndexFunc_Source (s1 : (List ApiSource)) (f5 : (ApiSource → Option Bool)) : Option Int :=
 (loopM (b_slices_IndexFunc_Source_1 s1 f5) 0).bind fun b0 => match b0 with | .inl _b30 => (some (-1)) | .inr b30 => (some b30)
theorem c_slices_IndexFunc_Source (F0 : Fz) (s1 : (List ApiSource)) (p2 : Option Addr) (k3 : Nat) (h4 : RepSl 5 rApiSource F0 p2 k3 s1) (f5 : (ApiSource → Option Bool)) (p6 : FuncId) (k7 : List Value) (h8 : RepFn Try.prog F0 p6 k7 (fun x F vs => ∃ p0 k0, vs = [(eApiSource x p0 k0)] ∧ RepSl 2 (Ex cApiSpan) F p0 k0 x.Values) (fun r _ v => v = (.bool r)) f5) : CT0 Try.prog 83 [(.slice p2 s1.length k3), (.func (.func p6) #[] k7.toArray)].toArray F0 (m_slices_IndexFunc_Source s1 f5) (fun r _ v => v = (.int .i64 r)) := by
 refine CT0.enter Try.func83 rfl Try.ntmps83 rfl fun r R => ?_
 unfold m_slices_IndexFunc_Source
 refine .seq (.region (.assign rfl rfl (.nil (.code (.seq (.seq (.region (.move rfl rfl (.lenS rfl rfl Try.underlying27 rfl (.move rfl rfl (.nil ?_)))))))))))
 refine .code (.block (.keep (.cons (k := 0) rfl (.cons (k := 1) rfl (.cons (k := 7) rfl (.cons (k := 8) rfl (.nil _))))) ?_))
 refine .loop (fun (s9 : Int) a w => ∃ (F_10 : Fz), F0 ≤ F_10 ∧ Hd 19 [] [(0, (.slice p2 s1.length k3)), (1, (.func (.func p6) #[] k7.toArray)), (7, (.int .i64 (s1.length : Int))), (8, (.int .i64 s9))] F_10 [R] a w) (fun b0 e a w => match b0 with | .inl b30 => e = .exit 0 ∧ ∃ (F_31 : Fz), F0 ≤ F_31 ∧ Hd 19 [] [] F_31 [R] a w | .inr b30 => e = .ret ∧ ∃ (F_33 : Fz), F0 ≤ F_33 ∧ Hd 19 [] [(4, (.int .i64 b30))] F_33 [R] a w) ?_ ?_ ?_
 ·exact fun a w h => ⟨F0, Fz.r, h.1.sub (.cons (k := 0) rfl (.cons (k := 1) rfl (.cons (k := 7) rfl (.cons (k := 8) rfl (.nil _))))), h.2⟩
 ·intro s9 ctl
  refine GC.ex (fun a w ⟨F_10, l_11, hA⟩ => ⟨_, hA, ?_⟩)
  unfold b_slices_IndexFunc_Source_1
  refine .seq (.region (.lss rfl rfl rfl (.nil (.code (.seq (.cond rfl (fun hb12 => ?_) (fun hb12 => ?_)))))))
  ·skip
   refine .skip (.code (.seq (.block (.seq (.region (.move rfl rfl (.assign rfl rfl (.nil (.code (.seq (.region ?_)))))))))))
   refine .move rfl rfl (.move rfl rfl (.move rfl rfl (.idx rfl Try.underlying27 Try.sizeOf42 (h4.mono l_11) rfl rfl (fun x13 b14 o15 T16 fr17 cs18 e19 hm20 hv21 => ?_))))
   obtain ⟨p23, k24, hv21, h25⟩ := hv21
   refine .loadFA rfl Try.isAgg42 Try.sizeOf42 rfl hm20 hv21 rfl (.call0 rfl h8.1 rfl rfl rfl (h8.2 _ l_11 x13 [(eApiSource x13 p23 k24)] ⟨_, _, rfl, h25⟩) ?_)
   rintro r_28 F_26 _ - l_27 rfl
   refine .nil (.code (.cond rfl (fun hb29 => ?_) (fun hb29 => ?_)))
   ·skip
    refine .seq (.region (.move rfl rfl (.assign rfl rfl (.nil (.code (.retQ (LPost.ret fun a w h => ⟨rfl, F_26, (Fz.t l_11 l_27), h.1.sub (.cons (k := 4) rfl (.nil _)), h.2⟩)))))))
   ·skip
    refine .skip (.block (.code (.region (.add rfl rfl rfl (.move rfl rfl (.nil ?_))))))
    exact .nil (LPost.norm fun a w h => ⟨F_26, (Fz.t l_11 l_27), h.1.sub (.cons (k := 0) rfl (.cons (k := 1) rfl (.cons (k := 7) rfl (.cons (k := 8) rfl (.nil _))))), h.2⟩)
  ·skip
   refine .exitOut rfl (LPost.exit fun a w h => ⟨rfl, F_10, l_11, h.1.sub (.nil _), h.2⟩)
 ·intro b30 hb0 hk e a w hD
  rcases b30 with b30 | b30
  ·skip
   obtain ⟨rfl, F_31, l_32, hA⟩ := hD
   refine interp_exit rfl (GE.app ?_ hk a w hA)
   refine .code (.seq (.region (.assign rfl rfl (.nil (.code ?_)))))
   exact .ret0 Try.results83 (.tmp rfl (.nil)) (i := 0) rfl l_32 rfl
  obtain ⟨rfl, F_33, l_34, hA⟩ := hD
  exact interp_ret ((ret_post0 Try.results83 (.tmp rfl (.nil)) (i := 0) rfl l_34 rfl) hk a w hA)
noncomputable def m_slices_ContainsFunc_Source (s1 : (List ApiSource)) (f5 : (ApiSource → Option Bool)) : Option Bool :=
 (m_slices_IndexFunc_Source s1 f5).bind fun r_11 => some (decide (r_11 ≥ 0))
theorem c_slices_ContainsFunc_Source (F0 : Fz) (s1 : (List ApiSource)) (p2 : Option Addr) (k3 : Nat) (h4 : RepSl 5 rApiSource F0 p2 k3 s1) (f5 : (ApiSource → Option Bool)) (p6 : FuncId) (k7 : List Value) (h8 : RepFn Try.prog F0 p6 k7 (fun x F vs => ∃ p0 k0, vs = [(eApiSource x p0 k0)] ∧ RepSl 2 (Ex cApiSpan) F p0 k0 x.Values) (fun r _ v => v = (.bool r)) f5) : CT0 Try.prog 62 [(.slice p2 s1.length k3), (.func (.func p6) #[] k7.toArray)].toArray F0 (m_slices_ContainsFunc_Source s1 f5) (fun r _ v => v = (.bool r)) := by
 refine CT0.enter Try.func62 rfl Try.ntmps62 rfl fun r R => ?_
 unfold m_slices_ContainsFunc_Source
 refine .seq (.region (.assign rfl rfl (.nil (.code (.seq (.region (.move rfl rfl (.move rfl rfl (.call0 rfl Try.call83 rfl rfl rfl (c_slices_IndexFunc_Source _ s1 p2 k3 h4 f5 p6 k7 h8) ?_)))))))))
 rintro r_11 F_9 _ - l_10 rfl
 refine .geq rfl rfl rfl (.assign rfl rfl (.nil (.code ?_)))
 exact .ret0 Try.results62 (.tmp rfl (.nil)) (i := 0) rfl l_10 rfl
noncomputable def m_genuine_areSources (l_1 : (List ApiSource)) : Option Bool :=
 (if (decide ((l_1.length : Int) ≤ 64)) then ((m_slices_ContainsFunc_Source l_1 (fun x => m_genuine_areSources_1 x l_1)).bind fun r_13 => some (!r_13)) else some false).bind fun z17 => some z17
theorem c_genuine_areSources (F0 : Fz) (l_1 : (List ApiSource)) (p2 : Option Addr) (k3 : Nat) (h4 : RepSl 5 rApiSource F0 p2 k3 l_1) : CT0 Try.prog 44 [(.slice p2 l_1.length k3)].toArray F0 (m_genuine_areSources l_1) (fun r _ v => v = (.bool r)) := by
 refine CT0.enter Try.func44 rfl Try.ntmps44 rfl fun r R => ?_
 unfold m_genuine_areSources
 refine .seq (.region (.boxF (cs := [(.slice p2 l_1.length k3)]) rfl rfl rfl (fun b5 F_6 l_7 hb8 => ?_)))
 refine .assign rfl rfl (.nil (.code (.seq (.region (.makeFunc rfl rfl (.assign rfl rfl (.nil (.code (.seq (.region (.loadF rfl Try.isAgg27 rfl hb8 rfl ?_)))))))))))
 refine .lenS rfl rfl Try.underlying27 rfl (.leq rfl rfl rfl (.move rfl rfl (.andM (b := (decide ((l_1.length : Int) ≤ 64))) 5 13 (fun hb9 z18 => ?_) (fun hb14 => ?_) (fun z17 F_15 l_16 => ?_))))
 ·skip
  refine .onH hb9 rfl rfl (.loadF rfl Try.isAgg27 rfl hb8 rfl (.onH hb9 rfl rfl (.move rfl rfl (.onH hb9 rfl rfl ?_))))
  have hf10 : RepFn Try.prog F_6 61 [(.pointer (some ⟨b5, 0, none⟩))] (fun x F vs => ∃ p0 k0, vs = [(eApiSource x p0 k0)] ∧ RepSl 2 (Ex cApiSpan) F p0 k0 x.Values) (fun r _ v => v = (.bool r)) (fun x => m_genuine_areSources_1 x l_1) := ⟨Try.call61, fun F' le' x vs hv => by obtain ⟨_, _, rfl, hq0⟩ := hv; exact c_genuine_areSources_1 F' x _ _ hq0 l_1 b5 p2 k3 (le'.mem _ _ hb8) ((h4.mono l_7).mono le')⟩
  refine .call0 rfl Try.call62 rfl rfl rfl (c_slices_ContainsFunc_Source _ l_1 p2 k3 (h4.mono l_7) (fun x => m_genuine_areSources_1 x l_1) 61 ([(.pointer (some ⟨b5, 0, none⟩))]) hf10) ?_
  rintro r_13 F_11 _ - l_12 rfl
  refine .onH hb9 rfl rfl (.not rfl rfl (.pickTH hb9 rfl rfl rfl ?_))
  exact .finZ 5 rfl rfl (by kernel_rfl) l_12
 ·skip
  refine .offH hb14 rfl rfl rfl (.offH hb14 rfl rfl rfl (.offH hb14 rfl rfl rfl (.offH hb14 rfl rfl rfl (.pickFH hb14 rfl rfl rfl ?_))))
  exact .fin 5 rfl rfl (by kernel_rfl) Fz.r
 refine .assign rfl rfl (.nil (.code ?_))
 exact .ret0 Try.results44 (.tmp rfl (.nil)) (i := 0) rfl (Fz.t l_7 l_16) rfl
noncomputable def m_genuine_areValid (b1 : ApiSuspect) (l_5 : (List ApiSource)) : Option Bool :=
 (if (((m_genuine_isDay b1.Glass) && (m_genuine_isDay b1.Paper)) && (m_genuine_isSpan b1.Strength 10000)) then ((m_genuine_areValues b1.Seen).bind fun r_30 => some r_30) else some false).bind fun z34 => (if z34 then ((m_genuine_areSources l_5).bind fun r_39 => (if r_39 then ((if ((l_5.length : Int) == 0) then some true else ((idxL l_5 0).bind fun x42 => some ((b1.Seen.length : Int) == (x42.Values.length : Int)))).bind fun z58 => some z58) else some false).bind fun z63 => some z63) else (some false) : Option (Bool)).bind fun j65 => some j65
theorem c_genuine_areValid (F0 : Fz) (b1 : ApiSuspect) (p2 : Option Addr) (k3 : Nat) (h4 : RepSl 2 (Ex cApiSpan) F0 p2 k3 b1.Seen) (l_5 : (List ApiSource)) (p6 : Option Addr) (k7 : Nat) (h8 : RepSl 5 rApiSource F0 p6 k7 l_5) : CT0 Try.prog 23 [(eApiSuspect b1 p2 k3), (.slice p6 l_5.length k7)].toArray F0 (m_genuine_areValid b1 l_5) (fun r _ v => v = (.bool r)) := by
 refine CT0.enter Try.func23 rfl Try.ntmps23 rfl fun r R => ?_
 unfold m_genuine_areValid
 refine .seq (.region (.boxF (cs := (cApiSuspect b1 p2 k3)) rfl rfl rfl (fun b9 F_10 l_11 hb12 => ?_)))
 refine .assign rfl rfl (.nil (.code (.seq (.region (.fieldAddr rfl Try.underlying44 rfl Try.sizeOf3 rfl (.loadF rfl Try.isAgg3 rfl hb12 rfl (.callP rfl Try.call41 rfl rfl rfl (c_genuine_isDay _ b1.Glass) ?_)))))))
 rintro F_13 _ l_14 rfl
 refine .move rfl rfl (.andP (b := (m_genuine_isDay b1.Glass)) (b' := (m_genuine_isDay b1.Paper)) 4 13 (fun hb15 => ?_) (fun hb18 => ?_) (fun F_19 l_20 => ?_))
 ·skip
  refine .onH hb15 rfl rfl (.fieldAddr rfl Try.underlying44 rfl Try.sizeOf3 rfl (.onH hb15 rfl rfl (.loadF rfl Try.isAgg3 rfl (l_14.mem _ _ hb12) rfl (.onH hb15 rfl rfl (.callP rfl Try.call41 rfl rfl rfl (c_genuine_isDay _ b1.Paper) ?_)))))
  rintro F_16 _ l_17 rfl
  refine .pickTH hb15 rfl rfl rfl ?_
  exact .fin 4 rfl rfl (by kernel_rfl) l_17
 ·skip
  refine .offH hb18 rfl rfl rfl (.offH hb18 rfl rfl rfl (.offH hb18 rfl rfl rfl (.pickFH hb18 rfl rfl rfl ?_)))
  exact .fin 4 rfl rfl (by kernel_rfl) Fz.r
 refine .move rfl rfl (.andP (b := ((m_genuine_isDay b1.Glass) && (m_genuine_isDay b1.Paper))) (b' := (m_genuine_isSpan b1.Strength 10000)) 4 18 (fun hb21 => ?_) (fun hb24 => ?_) (fun F_25 l_26 => ?_))
 ·skip
  refine .onH hb21 rfl rfl (.fieldAddr rfl Try.underlying44 rfl Try.sizeOf24 rfl (.onH hb21 rfl rfl (.loadFA rfl Try.isAgg24 Try.sizeOf24 rfl ((Fz.t l_14 l_20).mem _ _ hb12) (vs := (cApiSpan b1.Strength)) (by kernel_rfl) rfl (.onH hb21 rfl rfl (.callP rfl Try.call42 rfl rfl rfl (c_genuine_isSpan _ b1.Strength 10000) ?_)))))
  rintro F_22 _ l_23 rfl
  refine .pickTH hb21 rfl rfl rfl ?_
  exact .fin 4 rfl rfl (by kernel_rfl) l_23
 ·skip
  refine .offH hb24 rfl rfl rfl (.offH hb24 rfl rfl rfl (.offH hb24 rfl rfl rfl (.pickFH hb24 rfl rfl rfl ?_)))
  exact .fin 4 rfl rfl (by kernel_rfl) Fz.r
 refine .move rfl rfl (.andM (b := (((m_genuine_isDay b1.Glass) && (m_genuine_isDay b1.Paper)) && (m_genuine_isSpan b1.Strength 10000))) 4 23 (fun hb27 z35 => ?_) (fun hb31 => ?_) (fun z34 F_32 l_33 => ?_))
 ·skip
  refine .onH hb27 rfl rfl (.fieldAddr rfl Try.underlying44 rfl Try.sizeOf28 rfl (.onH hb27 rfl rfl (.loadF rfl Try.isAgg28 rfl ((Fz.t l_14 (Fz.t l_20 l_26)).mem _ _ hb12) rfl (.onH hb27 rfl rfl (.call0 rfl Try.call43 rfl rfl rfl (c_genuine_areValues _ b1.Seen p2 k3 (h4.mono (Fz.t l_11 (Fz.t l_14 (Fz.t l_20 l_26))))) ?_)))))
  rintro r_30 F_28 _ - l_29 rfl
  refine .pickTH hb27 rfl rfl rfl ?_
  exact .finZ 4 rfl rfl (by kernel_rfl) l_29
 ·skip
  refine .offH hb31 rfl rfl rfl (.offH hb31 rfl rfl rfl (.offH hb31 rfl rfl rfl (.pickFH hb31 rfl rfl rfl ?_)))
  exact .fin 4 rfl rfl (by kernel_rfl) Fz.r
 refine .assign rfl rfl (.nil (.code (.seq (.keep (.cons (k := 1) rfl (.cons (k := 2) rfl (.cons (k := 4) rfl (.cons (k := 5) rfl (.nil _))))) ?_))))
 refine GC.join0 (σ := Bool) (fun j65 a w => ∃ (F_66 : Fz), F_32 ≤ F_66 ∧ Hd 45 [] [(4, (.bool j65))] F_66 [R] a w) (fun sj => ?_) (fun j65 hs0 => GE.ex (fun a w ⟨F_66, l_67, hA⟩ => ⟨_, hA, ?_⟩))
 ·skip
  refine .drawT (p := 3) (st := []) mixedOK (by kernel_rfl) (.move rfl rfl (.move rfl rfl (.ite (fun hb36 => ?_) (fun hb36 => ?_))))
  ·skip
   refine .onH hb36 rfl rfl (.move rfl rfl (.pendT (.onH hb36 rfl rfl (.call0 rfl Try.call44 rfl rfl rfl (c_genuine_areSources _ l_5 p6 k7 (h8.mono (Fz.t l_11 (Fz.t l_14 (Fz.t l_20 (Fz.t l_26 l_33)))))) ?_))))
   rintro r_39 F_37 _ - l_38 rfl
   refine .nil (.stageZ (.pickTH hb36 rfl rfl rfl (.move rfl rfl (.andM (b := r_39) 15 44 (fun hb40 z64 => ?_) (fun hb60 => ?_) (fun z63 F_61 l_62 => ?_)))))
   ·skip
    refine .onH hb40 rfl rfl (.move rfl rfl (.onH hb40 rfl rfl (.lenS rfl rfl Try.underlying27 rfl (.onH hb40 rfl rfl (.eql rfl rfl rfl (.onH hb40 rfl rfl (.move rfl rfl (.orM (b := ((l_5.length : Int) == 0)) 10 43 (fun hb41 z59 => ?_) (fun hb55 => ?_) (fun z58 F_56 l_57 => ?_)))))))))
    ·skip
     refine .onH hb41 rfl rfl (.fieldAddr rfl Try.underlying44 rfl Try.sizeOf28 rfl (.onH hb41 rfl rfl (.loadF rfl Try.isAgg28 rfl ((Fz.t l_14 (Fz.t l_20 (Fz.t l_26 (Fz.t l_33 l_38)))).mem _ _ hb12) rfl (.onH hb41 rfl rfl (.lenS rfl rfl Try.underlying28 rfl (.onH hb41 rfl rfl (.move rfl rfl (.onH hb41 rfl rfl ?_))))))))
     refine .idx rfl Try.underlying27 Try.sizeOf42 (h8.mono (Fz.t l_11 (Fz.t l_14 (Fz.t l_20 (Fz.t l_26 (Fz.t l_33 l_38)))))) rfl rfl (fun x42 b43 o44 T45 fr46 cs47 e48 hm49 hv50 => ?_)
     obtain ⟨p52, k53, hv50, h54⟩ := hv50
     refine .onH hb41 rfl rfl (.fieldAddr rfl Try.underlying42 rfl Try.sizeOf28 rfl (.onH hb41 rfl rfl (.loadF rfl Try.isAgg28 rfl hm49 (cell_of_take (k := 4) hv50 rfl) (.onH hb41 rfl rfl (.lenS rfl rfl Try.underlying28 rfl (.onH hb41 rfl rfl (.eql rfl rfl rfl (.onH hb40 rfl rfl (.pickFH hb41 rfl rfl rfl ?_)))))))))
     exact .finZ 10 rfl rfl (by kernel_rfl) Fz.r
    ·skip
     refine .offH hb55 rfl rfl rfl (.offH hb55 rfl rfl rfl (.offH hb55 rfl rfl rfl (.offH hb55 rfl rfl rfl (.offH hb55 rfl rfl rfl (.offH hb55 rfl rfl rfl (.offH hb55 rfl rfl rfl (.offH hb55 rfl rfl rfl (.offH hb55 rfl rfl rfl (.onH hb40 rfl rfl (.pickTH hb55 rfl rfl rfl ?_))))))))))
     exact .fin 10 rfl rfl (by kernel_rfl) Fz.r
    refine .pickTH hb40 rfl rfl rfl ?_
    exact .finZ 6 rfl rfl (by kernel_rfl) l_57
   ·skip
    refine .offH hb60 rfl rfl rfl (.offH hb60 rfl rfl rfl (.offH hb60 rfl rfl rfl (.offH hb60 rfl rfl rfl (.off rfl rfl rfl rfl (.off rfl rfl rfl rfl (.off rfl rfl rfl rfl (.off rfl rfl rfl rfl (.off rfl rfl rfl rfl (.off rfl rfl rfl rfl (.off rfl rfl rfl rfl (.off rfl rfl rfl rfl ?_)))))))))))
    refine .off rfl rfl rfl rfl (.offH hb60 rfl rfl rfl (.pickFH hb60 rfl rfl rfl ?_))
    exact .fin 15 rfl rfl (by kernel_rfl) Fz.r
   refine .assign rfl rfl (.endT ?_)
   exact .nil fun e a w h => by cases e; exact ⟨rfl, ⟨F_61, (Fz.t l_38 l_62), h.1.sub (.cons (k := 4) rfl (.nil _)), h.2⟩⟩
  ·skip
   refine .offH hb36 rfl rfl rfl (.pendT (.offH hb36 rfl rfl rfl (.nil (.stageZ (.pickFH hb36 rfl rfl rfl (.move rfl rfl (.off rfl rfl rfl rfl (.off rfl rfl rfl rfl (.off rfl rfl rfl rfl (.off rfl rfl rfl rfl (.off rfl rfl rfl rfl ?_)))))))))))
   refine .off rfl rfl rfl rfl (.off rfl rfl rfl rfl (.off rfl rfl rfl rfl (.off rfl rfl rfl rfl (.off rfl rfl rfl rfl (.off rfl rfl rfl rfl (.off rfl rfl rfl rfl (.off rfl rfl rfl rfl (.off rfl rfl rfl rfl (.pickF rfl rfl rfl (.assign rfl rfl (.endT ?_)))))))))))
   exact .nil fun e a w h => by cases e; exact ⟨rfl, ⟨F_32, Fz.r, h.1.sub (.cons (k := 4) rfl (.nil _)), h.2⟩⟩
 refine .code ?_
 exact .ret0 Try.results23 (.tmp rfl (.nil)) (i := 0) rfl (Fz.t l_11 (Fz.t l_14 (Fz.t l_20 (Fz.t l_26 (Fz.t l_33 l_67))))) rfl
noncomputable def m_genuine_reasons (b1 : ApiSuspect) (s5 : ApiSource) : Option (List Int) :=
 (L_genuine_reasons_1 s5 b1).bind fun l_17 => some l_17
theorem c_genuine_reasons (F0 : Fz) (b1 : ApiSuspect) (p2 : Option Addr) (k3 : Nat) (h4 : RepSl 2 (Ex cApiSpan) F0 p2 k3 b1.Seen) (s5 : ApiSource) (p6 : Option Addr) (k7 : Nat) (h8 : RepSl 2 (Ex cApiSpan) F0 p6 k7 s5.Values) : CT0 Try.prog 45 [(eApiSuspect b1 p2 k3), (eApiSource s5 p6 k7)].toArray F0 (m_genuine_reasons b1 s5) (fun r F v => ∃ (p0 : FuncId) (k0 : List Value), v = (.func (.func p0) #[] k0.toArray) ∧ RepIter Try.prog F p0 k0 (fun (x : Int) _ vs => vs = [(.int .i64 x)]) r) := by
 refine CT0.enter Try.func45 rfl Try.ntmps45 rfl fun r R => ?_
 unfold m_genuine_reasons
 refine .seq (.region (.boxF (cs := (cApiSuspect b1 p2 k3)) rfl rfl rfl (fun b9 F_10 l_11 hb12 => ?_)))
 refine .boxF (cs := (cApiSource s5 p6 k7)) rfl rfl rfl (fun b13 F_14 l_15 hb16 => ?_)
 refine .assign rfl rfl (.nil (.code (.seq (.region (.makeFunc rfl rfl (.bind (fun l_17 e18 => ?_)))))))
 have h19 : RepIter Try.prog F_14 63 [(.pointer (some ⟨b13, 0, none⟩)), (.pointer (some ⟨b9, 0, none⟩))] (fun (x : Int) _ vs => vs = [(.int .i64 x)]) l_17 := ⟨Try.call63, fun σ ly Y y F' le' hy s r hr => c_genuine_reasons_1 F' σ ly Y y hy s5 b13 p6 k7 (le'.mem _ _ hb16) ((h8.mono (Fz.t l_11 l_15)).mono le') b1 b9 p2 k3 (le'.mem _ _ (l_15.mem _ _ hb12)) ((h4.mono (Fz.t l_11 l_15)).mono le') s r (it_genuine_reasons_1 e18 hr)⟩
 refine .assign rfl rfl (.nil (.code ?_))
 exact .ret0 Try.results45 (.tmp rfl (.nil)) (i := 0) rfl (Fz.t l_11 l_15) ⟨63, [(.pointer (some ⟨b13, 0, none⟩)), (.pointer (some ⟨b9, 0, none⟩))], rfl, h19⟩
noncomputable def b_genuine_fits_1  (_x26 : Int) (_s24 : Unit) : Option (Ctl (Unit) (Unit)) :=
 some (.done ())
noncomputable def m_genuine_fits (b1 : ApiSuspect) (s5 : ApiSource) : Option Bool :=
 (m_genuine_reasons b1 s5).bind fun r_20 => (retL b_genuine_fits_1 r_20 ()).bind fun c42 => match c42 with | .next _s31 => (some true) | .done _s37 => (some false)
theorem c_genuine_fits (F0 : Fz) (b1 : ApiSuspect) (p2 : Option Addr) (k3 : Nat) (h4 : RepSl 2 (Ex cApiSpan) F0 p2 k3 b1.Seen) (s5 : ApiSource) (p6 : Option Addr) (k7 : Nat) (h8 : RepSl 2 (Ex cApiSpan) F0 p6 k7 s5.Values) : CT0 Try.prog 24 [(eApiSuspect b1 p2 k3), (eApiSource s5 p6 k7)].toArray F0 (m_genuine_fits b1 s5) (fun r _ v => v = (.bool r)) := by
 refine CT0.enterM Try.func24 rfl Try.ntmps24 rfl fun r R => ?_
 unfold m_genuine_fits
 refine .seq (.region (.boxF (cs := (cApiSuspect b1 p2 k3)) rfl rfl rfl (fun b9 F_10 l_11 hb12 => ?_)))
 refine .boxF (cs := (cApiSource s5 p6 k7)) rfl rfl rfl (fun b13 F_14 l_15 hb16 => ?_)
 refine .alloc (cs := [(.bool false)]) rfl Try.zeroValue4 rfl (fun b17 => ?_)
 refine .nil (.code (.seq (.seq (.region (.loadFA rfl Try.isAgg44 Try.sizeOf44 rfl (l_15.mem _ _ hb12) (vs := (cApiSuspect b1 p2 k3)) (by kernel_rfl) rfl (.loadFA rfl Try.isAgg42 Try.sizeOf42 rfl hb16 (vs := (cApiSource s5 p6 k7)) (by kernel_rfl) rfl (.call0 rfl Try.call45 rfl rfl rfl (c_genuine_reasons _ b1 p2 k3 (h4.mono (Fz.t l_11 l_15)) s5 p6 k7 (h8.mono (Fz.t l_11 l_15))) ?_)))))))
 rintro r_20 F_18 _ - l_19 ⟨p21, k22, rfl, h23⟩
 refine .nil (.code (.block (.keep (.cons (k := 4) rfl (.cons (k := 7) rfl (.nil _))) (.rangeRet (τ := Unit) (γ := Unit) (fun s24 F_25 hs' => hs' = [pt b17 (.cells [(.bool false)].toArray 4), R]) (fun s24 F_25 hs' => hs' = [pt b17 (.cells [(.bool false)].toArray 4), R]) rfl h23 rfl (fun _ _ _ h => by rw [h]; rfl) rfl ?_ ?_ ?_))))
 ·intro lp Lp F_25 F_29 x26 vs s24 ctl Rp hs' l_27 l_28 hx hI
  obtain rfl := hx
  obtain rfl := hI
  unfold b_genuine_fits_1
  refine .keep (.cons (k := 4) rfl (.cons (k := 7) rfl (.cons (k := 8) rfl (.nil _)))) (.skip ?_)
  refine GE.begin 0 rfl ?_
  refine .block (.seq (.region (.store (cs' := [(.bool false)]) Try.sizeOf4 rfl rfl rfl rfl (i := 2) rfl (Nat.le_of_ble_eq_true rfl) rfl rfl (.nil (.code ?_)))))
  exact .retQ (RP.ret Fz.r rfl rfl)
 ·intro q30 F_32 F_33 s31 hs' l_34 l_35 he hI
  obtain rfl := hI
  refine .block (.code (.seq (.region (.store (cs' := [(.bool true)]) Try.sizeOf4 rfl rfl rfl rfl (i := 1) rfl (Nat.le_of_ble_eq_true rfl) rfl rfl (.nil (.code ?_))))))
  exact .ret0M [(0, q30)] Try.results24 ⟨rfl, trivial⟩ (.cell rfl Try.isAgg4 (i := 1) rfl rfl (.nil)) (i := 2) rfl (Fz.t l_11 (Fz.t l_15 (Fz.t l_19 (Fz.t l_34 l_35)))) rfl
 ·intro q36 F_38 F_39 s37 hs' l_40 l_41 he hI
  obtain rfl := hI
  exact .ret0M [(0, q36)] Try.results24 ⟨rfl, trivial⟩ (.cell rfl Try.isAgg4 (i := 1) rfl rfl (.nil)) (i := 2) rfl (Fz.t l_11 (Fz.t l_15 (Fz.t l_19 (Fz.t l_40 l_41)))) rfl
def m_genuine_fraction_less (x1 : GenuineFraction) (y2 : GenuineFraction) : Bool :=
 (decide ((w64 (x1.a * y2.b)) < (w64 (y2.a * x1.b))))
theorem c_genuine_fraction_less (F0 : Fz) (x1 : GenuineFraction) (y2 : GenuineFraction) : CT0 Try.prog 64 [(eGenuineFraction x1), (eGenuineFraction y2)].toArray F0 (some (m_genuine_fraction_less x1 y2)) (fun r _ v => v = (.bool r)) := by
 refine CT0.enter Try.func64 rfl Try.ntmps64 rfl fun r R => ?_
 refine .seq (.region (.boxF (cs := (cGenuineFraction x1)) rfl rfl rfl (fun b3 F_4 l_5 hb6 => ?_)))
 refine .boxF (cs := (cGenuineFraction y2)) rfl rfl rfl (fun b7 F_8 l_9 hb10 => ?_)
 refine .assign rfl rfl (.nil (.code (.seq (.region (.fieldAddr rfl Try.underlying77 rfl Try.sizeOf3 rfl (.loadF rfl Try.isAgg3 rfl (l_9.mem _ _ hb6) rfl (.fieldAddr rfl Try.underlying77 rfl Try.sizeOf3 rfl (.loadF rfl Try.isAgg3 rfl hb10 rfl (.mul rfl rfl rfl (.fieldAddr rfl Try.underlying77 rfl Try.sizeOf3 rfl (.loadF rfl Try.isAgg3 rfl hb10 rfl ?_)))))))))))
 refine .fieldAddr rfl Try.underlying77 rfl Try.sizeOf3 rfl (.loadF rfl Try.isAgg3 rfl (l_9.mem _ _ hb6) rfl (.mul rfl rfl rfl (.lss rfl rfl rfl (.assign rfl rfl (.nil (.code ?_))))))
 exact .ret0 Try.results64 (.tmp rfl (.nil)) (i := 0) rfl (Fz.t l_5 l_9) rfl
noncomputable def m_genuine_shares_atLeast (s1 : GenuineShares) (x2 : Int) (y3 : Int) (c4 : Int) : Option GenuineShares :=
 bindv (w64 (x2 - y3)) fun d7 => ((if (decide (d7 > 0)) then (if (m_genuine_fraction_less s1.least (GenuineFraction.mk (w64 (c4 - y3)) d7)) then (bindv ({ s1 with least := (GenuineFraction.mk (w64 (c4 - y3)) d7) }) fun x14 => some x14) else (some s1)) else (if (decide (d7 < 0)) then (if (m_genuine_fraction_less (GenuineFraction.mk (w64 (y3 - c4)) (w64 (0 - d7))) s1.most) then (bindv ({ s1 with most := (GenuineFraction.mk (w64 (y3 - c4)) (w64 (0 - d7))) }) fun x21 => some x21) else (some s1)) else (bindv ({ s1 with none := (s1.none || (decide (y3 < c4))) }) fun x27 => some x27)) : Option (GenuineShares)).bind fun j29 => some j29 : Option (GenuineShares)).bind fun j32 => bindv ({ j32 with none := (j32.none || (m_genuine_fraction_less j32.most j32.least)) }) fun x41 => some x41
theorem c_genuine_shares_atLeast (F0 : Fz) (s1 : GenuineShares) (x2 : Int) (y3 : Int) (c4 : Int) : CT0 Try.prog 46 [(eGenuineShares s1), (.int .i64 x2), (.int .i64 y3), (.int .i64 c4)].toArray F0 (m_genuine_shares_atLeast s1 x2 y3 c4) (fun r _ v => v = (eGenuineShares r)) := by
 refine CT0.enter Try.func46 rfl Try.ntmps46 rfl fun r R => ?_
 unfold m_genuine_shares_atLeast
 refine .seq (.region (.box (cs := (cGenuineShares s1)) rfl rfl rfl (fun b5 => ?_)))
 refine .alloc (cs := (cGenuineShares (GenuineShares.mk (GenuineFraction.mk 0 0) (GenuineFraction.mk 0 0) false))) rfl Try.zeroValue79 rfl (fun b6 => ?_)
 refine .nil (.code (.seq (.seq (.region (.move rfl rfl (.move rfl rfl (.sub rfl rfl rfl (.assignL rfl rfl (fun d7 e8 => ?_)))))))))
 refine .nil (.code (.keep (.cons (k := 2) rfl (.cons (k := 3) rfl (.cons (k := 4) rfl (.cons (k := 8) rfl (.cons (k := 9) rfl (.nil _)))))) ?_))
 refine GC.join0 (σ := GenuineShares) (fun j32 a w => ∃ (F_33 : Fz), F0 ≤ F_33 ∧ Hd 63 [] [(4, (.pointer (some ⟨b5, 0, none⟩))), (8, (.pointer (some ⟨b6, 0, none⟩)))] F_33 [pt b6 (.cells (cGenuineShares (GenuineShares.mk (GenuineFraction.mk 0 0) (GenuineFraction.mk 0 0) false)).toArray 79), pt b5 (.cells (cGenuineShares j32).toArray 79), R] a w) (fun sj => ?_) (fun j32 hs0 => GE.ex (fun a w ⟨F_33, l_34, hA⟩ => ⟨_, hA, ?_⟩))
 ·skip
  refine .block (.seq (.region (.move rfl rfl (.gtr rfl rfl rfl (.assign rfl rfl (.nil (.code (.keep (.cons (k := 2) rfl (.cons (k := 3) rfl (.cons (k := 4) rfl (.cons (k := 8) rfl (.cons (k := 9) rfl (.cons (k := 23) rfl (.nil _))))))) ?_))))))))
  refine GC.join0 (σ := GenuineShares) (fun j29 a w => ∃ (F_30 : Fz), F0 ≤ F_30 ∧ Hd 63 [] [(4, (.pointer (some ⟨b5, 0, none⟩))), (8, (.pointer (some ⟨b6, 0, none⟩)))] F_30 [pt b6 (.cells (cGenuineShares (GenuineShares.mk (GenuineFraction.mk 0 0) (GenuineFraction.mk 0 0) false)).toArray 79), pt b5 (.cells (cGenuineShares j29).toArray 79), R] a w) (fun sj => ?_) (fun j29 hs0 => GE.ex (fun a w ⟨F_30, l_31, hA⟩ => ⟨_, hA, ?_⟩))
  ·skip
   refine .cond rfl (fun hb9 => ?_) (fun hb9 => ?_)
   ·skip
    refine .seq (.region (.move rfl rfl (.move rfl rfl (.sub rfl rfl rfl (.move rfl rfl (.build (cs := (cGenuineFraction (GenuineFraction.mk (w64 (c4 - y3)) d7)).toArray) rfl Try.underlying77 Try.zeroValue77 (plGenuineFraction _ Try.underlying77) rfl rfl (by kernel_rfl) (.alloc (cs := (cGenuineFraction (GenuineFraction.mk 0 0))) rfl Try.zeroValue77 rfl (fun b10 => ?_))))))))
    refine .store (cs' := (cGenuineFraction (GenuineFraction.mk (w64 (c4 - y3)) d7))) Try.sizeOf77 rfl rfl rfl rfl (i := 0) rfl (Nat.le_of_ble_eq_true rfl) rfl (setMany_all (by rfl)) (.nil (.code (.seq (.region (.fieldAddr rfl Try.underlying79 rfl Try.sizeOf77 rfl (.loadOA rfl Try.isAgg77 Try.sizeOf77 rfl (i := 2) rfl (vs := (cGenuineFraction s1.least)) (by kernel_rfl) rfl ?_))))))
    refine .loadOA rfl Try.isAgg77 Try.sizeOf77 rfl (i := 0) rfl (vs := (cGenuineFraction (GenuineFraction.mk (w64 (c4 - y3)) d7))) (by kernel_rfl) rfl (.callP rfl Try.call64 rfl rfl rfl (c_genuine_fraction_less _ s1.least (GenuineFraction.mk (w64 (c4 - y3)) d7)) ?_)
    rintro F_11 _ l_12 rfl
    refine .nil (.code (.cond rfl (fun hb13 => ?_) (fun hb13 => ?_)))
    ·skip
     refine .region (.loadOA rfl Try.isAgg77 Try.sizeOf77 rfl (i := 0) rfl (vs := (cGenuineFraction (GenuineFraction.mk (w64 (c4 - y3)) d7))) (by kernel_rfl) rfl (.fieldAddr rfl Try.underlying79 rfl Try.sizeOf77 rfl (.letv (fun x14 e15 => ?_))))
     refine .store (cs' := (cGenuineShares x14)) Try.sizeOf77 rfl rfl rfl rfl (i := 2) rfl (Nat.le_of_ble_eq_true rfl) rfl (by rw [e15]; kernel_rfl) (.nil (.drop 0 ?_))
     exact .nil fun e a w h => by cases e; exact ⟨rfl, ⟨F_11, l_12, h.1.sub (.cons (k := 4) rfl (.cons (k := 8) rfl (.nil _))), h.2⟩⟩
    ·skip
     refine .skip (.drop 0 ?_)
     exact .nil fun e a w h => by cases e; exact ⟨rfl, ⟨F_11, l_12, h.1.sub (.cons (k := 4) rfl (.cons (k := 8) rfl (.nil _))), h.2⟩⟩
   ·skip
    refine .seq (.region (.move rfl rfl (.lss rfl rfl rfl (.assign rfl rfl (.nil (.code (.cond rfl (fun hb16 => ?_) (fun hb16 => ?_))))))))
    ·skip
     refine .seq (.region (.move rfl rfl (.move rfl rfl (.sub rfl rfl rfl (.move rfl rfl (.neg rfl rfl (.build (cs := (cGenuineFraction (GenuineFraction.mk (w64 (y3 - c4)) (w64 (0 - d7)))).toArray) rfl Try.underlying77 Try.zeroValue77 (plGenuineFraction _ Try.underlying77) rfl rfl (by kernel_rfl) (.alloc (cs := (cGenuineFraction (GenuineFraction.mk 0 0))) rfl Try.zeroValue77 rfl (fun b17 => ?_)))))))))
     refine .store (cs' := (cGenuineFraction (GenuineFraction.mk (w64 (y3 - c4)) (w64 (0 - d7))))) Try.sizeOf77 rfl rfl rfl rfl (i := 0) rfl (Nat.le_of_ble_eq_true rfl) rfl (setMany_all (by rfl)) (.nil (.code (.seq (.region (.loadOA rfl Try.isAgg77 Try.sizeOf77 rfl (i := 0) rfl (vs := (cGenuineFraction (GenuineFraction.mk (w64 (y3 - c4)) (w64 (0 - d7))))) (by kernel_rfl) rfl ?_)))))
     refine .fieldAddr rfl Try.underlying79 rfl Try.sizeOf77 rfl (.loadOA rfl Try.isAgg77 Try.sizeOf77 rfl (i := 2) rfl (vs := (cGenuineFraction s1.most)) (by kernel_rfl) rfl (.callP rfl Try.call64 rfl rfl rfl (c_genuine_fraction_less _ (GenuineFraction.mk (w64 (y3 - c4)) (w64 (0 - d7))) s1.most) ?_))
     rintro F_18 _ l_19 rfl
     refine .nil (.code (.cond rfl (fun hb20 => ?_) (fun hb20 => ?_)))
     ·skip
      refine .region (.loadOA rfl Try.isAgg77 Try.sizeOf77 rfl (i := 0) rfl (vs := (cGenuineFraction (GenuineFraction.mk (w64 (y3 - c4)) (w64 (0 - d7))))) (by kernel_rfl) rfl (.fieldAddr rfl Try.underlying79 rfl Try.sizeOf77 rfl (.letv (fun x21 e22 => ?_))))
      refine .store (cs' := (cGenuineShares x21)) Try.sizeOf77 rfl rfl rfl rfl (i := 2) rfl (Nat.le_of_ble_eq_true rfl) rfl (by rw [e22]; kernel_rfl) (.nil (.drop 0 ?_))
      exact .nil fun e a w h => by cases e; exact ⟨rfl, ⟨F_18, l_19, h.1.sub (.cons (k := 4) rfl (.cons (k := 8) rfl (.nil _))), h.2⟩⟩
     ·skip
      refine .skip (.drop 0 ?_)
      exact .nil fun e a w h => by cases e; exact ⟨rfl, ⟨F_18, l_19, h.1.sub (.cons (k := 4) rfl (.cons (k := 8) rfl (.nil _))), h.2⟩⟩
    ·skip
     refine .region (.fieldAddr rfl Try.underlying79 rfl Try.sizeOf4 rfl (.loadO rfl Try.isAgg4 rfl (i := 1) rfl rfl (.move rfl rfl (.orP (b := s1.none) (b' := (decide (y3 < c4))) 4 21 (fun hb23 => ?_) (fun hb24 => ?_) (fun F_25 l_26 => ?_)))))
     ·skip
      refine .onH hb23 rfl rfl (.move rfl rfl (.onH hb23 rfl rfl (.move rfl rfl (.onH hb23 rfl rfl (.lss rfl rfl rfl (.pickFH hb23 rfl rfl rfl ?_))))))
      exact .fin 4 rfl rfl (by kernel_rfl) Fz.r
     ·skip
      refine .offH hb24 rfl rfl rfl (.offH hb24 rfl rfl rfl (.offH hb24 rfl rfl rfl (.pickTH hb24 rfl rfl rfl ?_)))
      exact .fin 4 rfl rfl (by kernel_rfl) Fz.r
     refine .fieldAddr rfl Try.underlying79 rfl Try.sizeOf4 rfl (.letv (fun x27 e28 => ?_))
     refine .store (cs' := (cGenuineShares x27)) Try.sizeOf4 rfl rfl rfl rfl (i := 1) rfl (Nat.le_of_ble_eq_true rfl) rfl (by rw [e28]; kernel_rfl) (.nil ?_)
     exact .nil fun e a w h => by cases e; exact ⟨rfl, ⟨F_25, l_26, h.1.sub (.cons (k := 4) rfl (.cons (k := 8) rfl (.nil _))), h.2⟩⟩
  refine .block ?_
  exact .nil fun e a w h => by cases e; exact ⟨rfl, ⟨F_30, l_31, h.1.sub (.cons (k := 4) rfl (.cons (k := 8) rfl (.nil _))), h.2⟩⟩
 refine .code (.seq (.region (.fieldAddr rfl Try.underlying79 rfl Try.sizeOf4 rfl (.loadO rfl Try.isAgg4 rfl (i := 1) rfl rfl (.move rfl rfl (.orP (b := j32.none) (b' := (m_genuine_fraction_less j32.most j32.least)) 6 60 (fun hb35 => ?_) (fun hb38 => ?_) (fun F_39 l_40 => ?_)))))))
 ·skip
  refine .onH hb35 rfl rfl (.fieldAddr rfl Try.underlying79 rfl Try.sizeOf77 rfl (.onH hb35 rfl rfl (.loadOA rfl Try.isAgg77 Try.sizeOf77 rfl (i := 1) rfl (vs := (cGenuineFraction j32.most)) (by kernel_rfl) rfl (.onH hb35 rfl rfl (.fieldAddr rfl Try.underlying79 rfl Try.sizeOf77 rfl (.onH hb35 rfl rfl ?_))))))
  refine .loadOA rfl Try.isAgg77 Try.sizeOf77 rfl (i := 1) rfl (vs := (cGenuineFraction j32.least)) (by kernel_rfl) rfl (.onH hb35 rfl rfl (.callP rfl Try.call64 rfl rfl rfl (c_genuine_fraction_less _ j32.most j32.least) ?_))
  rintro F_36 _ l_37 rfl
  refine .pickFH hb35 rfl rfl rfl ?_
  exact .fin 6 rfl rfl (by kernel_rfl) l_37
 ·skip
  refine .offH hb38 rfl rfl rfl (.offH hb38 rfl rfl rfl (.offH hb38 rfl rfl rfl (.offH hb38 rfl rfl rfl (.offH hb38 rfl rfl rfl (.pickTH hb38 rfl rfl rfl ?_)))))
  exact .fin 6 rfl rfl (by kernel_rfl) Fz.r
 refine .fieldAddr rfl Try.underlying79 rfl Try.sizeOf4 rfl (.letv (fun x41 e42 => ?_))
 refine .store (cs' := (cGenuineShares x41)) Try.sizeOf4 rfl rfl rfl rfl (i := 1) rfl (Nat.le_of_ble_eq_true rfl) rfl (by rw [e42]; kernel_rfl) (.nil (.code (.seq (.region (.loadOA rfl Try.isAgg79 Try.sizeOf79 rfl (i := 1) rfl (vs := (cGenuineShares x41)) (by kernel_rfl) rfl ?_)))))
 refine .store (cs' := (cGenuineShares x41)) Try.sizeOf79 rfl rfl rfl rfl (i := 0) rfl (Nat.le_of_ble_eq_true rfl) rfl (setMany_all (by rfl)) (.nil (.code ?_))
 exact .ret0 Try.results46 (.agg rfl Try.isAgg79 Try.sizeOf79 (i := 0) rfl (vs' := (cGenuineShares x41)) (by kernel_rfl) rfl (.nil)) (i := 2) rfl (Fz.t l_34 l_40) rfl
noncomputable def b_genuine_shared_1 (b1 : ApiSuspect) (x5 : ApiSource) (y9 : ApiSource) (s30 : Int × GenuineShares) : Option (Ctl (Int × GenuineShares) ((GenuineShares))) :=
 if (decide (s30.1 < (b1.Seen.length : Int))) then ((idxL b1.Seen s30.1).bind fun x34 => (idxL x5.Values s30.1).bind fun x45 => (idxL y9.Values s30.1).bind fun x55 => (m_genuine_shares_atLeast s30.2 x45.Hi x55.Hi x34.Lo).bind fun r_67 => (idxL x5.Values s30.1).bind fun x68 => (idxL y9.Values s30.1).bind fun x78 => (m_genuine_shares_atLeast r_67 (w64 (0 - x68.Lo)) (w64 (0 - x78.Lo)) (w64 (0 - x34.Hi))).bind fun r_90 => some (.next ((w64 (s30.1 + 1)), r_90))) else (some (.done s30.2))
noncomputable def m_genuine_shared (b1 : ApiSuspect) (x5 : ApiSource) (y9 : ApiSource) : Option GenuineShares :=
 (m_genuine_shares_atLeast (GenuineShares.mk (GenuineFraction.mk 0 1) (GenuineFraction.mk 1 1) (decide ((imin x5.Drawn y9.Drawn) < (imax b1.Glass b1.Paper)))) x5.Strength.Hi y9.Strength.Hi b1.Strength.Lo).bind fun r_29 => (loopM (b_genuine_shared_1 b1 x5 y9) (0, r_29)).bind fun b91 => some b91
theorem c_genuine_shared (F0 : Fz) (b1 : ApiSuspect) (p2 : Option Addr) (k3 : Nat) (h4 : RepSl 2 (Ex cApiSpan) F0 p2 k3 b1.Seen) (x5 : ApiSource) (p6 : Option Addr) (k7 : Nat) (h8 : RepSl 2 (Ex cApiSpan) F0 p6 k7 x5.Values) (y9 : ApiSource) (p10 : Option Addr) (k11 : Nat) (h12 : RepSl 2 (Ex cApiSpan) F0 p10 k11 y9.Values) : CT0 Try.prog 25 [(eApiSuspect b1 p2 k3), (eApiSource x5 p6 k7), (eApiSource y9 p10 k11)].toArray F0 (m_genuine_shared b1 x5 y9) (fun r _ v => v = (eGenuineShares r)) := by
 refine CT0.enter Try.func25 rfl Try.ntmps25 rfl fun r R => ?_
 unfold m_genuine_shared
 refine .seq (.region (.boxF (cs := (cApiSuspect b1 p2 k3)) rfl rfl rfl (fun b13 F_14 l_15 hb16 => ?_)))
 refine .boxF (cs := (cApiSource x5 p6 k7)) rfl rfl rfl (fun b17 F_18 l_19 hb20 => ?_)
 refine .boxF (cs := (cApiSource y9 p10 k11)) rfl rfl rfl (fun b21 F_22 l_23 hb24 => ?_)
 refine .alloc (cs := (cGenuineShares (GenuineShares.mk (GenuineFraction.mk 0 0) (GenuineFraction.mk 0 0) false))) rfl Try.zeroValue79 rfl (fun b25 => ?_)
 refine .nil (.code (.seq (.region (.build (cs := (cGenuineFraction (GenuineFraction.mk 0 1)).toArray) rfl Try.underlying77 Try.zeroValue77 (plGenuineFraction _ Try.underlying77) rfl rfl (by kernel_rfl) (.build (cs := (cGenuineFraction (GenuineFraction.mk 1 1)).toArray) rfl Try.underlying77 Try.zeroValue77 (plGenuineFraction _ Try.underlying77) rfl rfl (by kernel_rfl) ?_)))))
 refine .fieldAddr rfl Try.underlying42 rfl Try.sizeOf3 rfl (.loadF rfl Try.isAgg3 rfl (l_23.mem _ _ hb20) rfl (.fieldAddr rfl Try.underlying42 rfl Try.sizeOf3 rfl (.loadF rfl Try.isAgg3 rfl hb24 rfl (.min2 rfl rfl rfl (.fieldAddr rfl Try.underlying44 rfl Try.sizeOf3 rfl (.loadF rfl Try.isAgg3 rfl ((Fz.t l_19 l_23).mem _ _ hb16) rfl (.fieldAddr rfl Try.underlying44 rfl Try.sizeOf3 rfl ?_)))))))
 refine .loadF rfl Try.isAgg3 rfl ((Fz.t l_19 l_23).mem _ _ hb16) rfl (.max2 rfl rfl rfl (.lss rfl rfl rfl (.build (cs := (cGenuineShares (GenuineShares.mk (GenuineFraction.mk 0 1) (GenuineFraction.mk 1 1) (decide ((imin x5.Drawn y9.Drawn) < (imax b1.Glass b1.Paper))))).toArray) rfl Try.underlying79 Try.zeroValue79 (plGenuineShares _ Try.underlying79) rfl rfl (by kernel_rfl) ?_)))
 refine .alloc (cs := (cGenuineShares (GenuineShares.mk (GenuineFraction.mk 0 0) (GenuineFraction.mk 0 0) false))) rfl Try.zeroValue79 rfl (fun b26 => ?_)
 refine .store (cs' := (cGenuineShares (GenuineShares.mk (GenuineFraction.mk 0 1) (GenuineFraction.mk 1 1) (decide ((imin x5.Drawn y9.Drawn) < (imax b1.Glass b1.Paper)))))) Try.sizeOf79 rfl rfl rfl rfl (i := 0) rfl (Nat.le_of_ble_eq_true rfl) rfl (setMany_all (by rfl)) (.nil (.code (.seq (.region ?_))))
 refine .loadOA rfl Try.isAgg79 Try.sizeOf79 rfl (i := 0) rfl (vs := (cGenuineShares (GenuineShares.mk (GenuineFraction.mk 0 1) (GenuineFraction.mk 1 1) (decide ((imin x5.Drawn y9.Drawn) < (imax b1.Glass b1.Paper)))))) (by kernel_rfl) rfl (.fieldAddr rfl Try.underlying42 rfl Try.sizeOf24 rfl (.fieldAddr rfl Try.underlying24 rfl Try.sizeOf3 rfl (.loadF rfl Try.isAgg3 rfl (l_23.mem _ _ hb20) rfl ?_)))
 refine .fieldAddr rfl Try.underlying42 rfl Try.sizeOf24 rfl (.fieldAddr rfl Try.underlying24 rfl Try.sizeOf3 rfl (.loadF rfl Try.isAgg3 rfl hb24 rfl (.fieldAddr rfl Try.underlying44 rfl Try.sizeOf24 rfl (.fieldAddr rfl Try.underlying24 rfl Try.sizeOf3 rfl (.loadF rfl Try.isAgg3 rfl ((Fz.t l_19 l_23).mem _ _ hb16) rfl ?_)))))
 refine .call0 rfl Try.call46 rfl rfl rfl (c_genuine_shares_atLeast _ (GenuineShares.mk (GenuineFraction.mk 0 1) (GenuineFraction.mk 1 1) (decide ((imin x5.Drawn y9.Drawn) < (imax b1.Glass b1.Paper)))) x5.Strength.Hi y9.Strength.Hi b1.Strength.Lo) ?_
 rintro r_29 F_27 _ - l_28 rfl
 refine .store (cs' := (cGenuineShares r_29)) Try.sizeOf79 rfl rfl rfl rfl (i := 0) rfl (Nat.le_of_ble_eq_true rfl) rfl (setMany_all (by rfl)) (.nil (.keep (.cons (k := 3) rfl (.cons (k := 4) rfl (.cons (k := 5) rfl (.cons (k := 6) rfl (.cons (k := 7) rfl (.nil _)))))) (.code (.seq (.seq (.region (.fieldAddr rfl Try.underlying44 rfl Try.sizeOf28 rfl ?_)))))))
 refine .loadF rfl Try.isAgg28 rfl ((Fz.t l_19 (Fz.t l_23 l_28)).mem _ _ hb16) rfl (.lenS rfl rfl Try.underlying28 rfl (.move rfl rfl (.nil (.code (.block (.keep (.cons (k := 4) rfl (.cons (k := 5) rfl (.cons (k := 6) rfl (.cons (k := 7) rfl (.cons (k := 36) rfl (.cons (k := 37) rfl (.cons (k := 38) rfl (.nil _)))))))) ?_))))))
 refine .loop (fun (s30 : Int × GenuineShares) a w => ∃ (F_31 : Fz), F_27 ≤ F_31 ∧ Hd 80 [] [(4, (.pointer (some ⟨b17, 0, none⟩))), (5, (.pointer (some ⟨b21, 0, none⟩))), (6, (.pointer (some ⟨b25, 0, none⟩))), (7, (.pointer (some ⟨b26, 0, none⟩))), (36, (.slice p2 b1.Seen.length k3)), (37, (.int .i64 (b1.Seen.length : Int))), (38, (.int .i64 s30.1))] F_31 [pt b26 (.cells (cGenuineShares s30.2).toArray 79), pt b25 (.cells (cGenuineShares (GenuineShares.mk (GenuineFraction.mk 0 0) (GenuineFraction.mk 0 0) false)).toArray 79), R] a w) (fun b91 e a w => e = .exit 0 ∧ ∃ (F_92 : Fz), F_27 ≤ F_92 ∧ Hd 80 [] [(6, (.pointer (some ⟨b25, 0, none⟩))), (7, (.pointer (some ⟨b26, 0, none⟩)))] F_92 [pt b26 (.cells (cGenuineShares b91).toArray 79), pt b25 (.cells (cGenuineShares (GenuineShares.mk (GenuineFraction.mk 0 0) (GenuineFraction.mk 0 0) false)).toArray 79), R] a w) ?_ ?_ ?_
 ·exact fun a w h => ⟨F_27, Fz.r, h.1.sub (.cons (k := 4) rfl (.cons (k := 5) rfl (.cons (k := 6) rfl (.cons (k := 7) rfl (.cons (k := 36) rfl (.cons (k := 37) rfl (.cons (k := 38) rfl (.nil _)))))))), h.2⟩
 ·intro s30 ctl
  refine GC.ex (fun a w ⟨F_31, l_32, hA⟩ => ⟨_, hA, ?_⟩)
  unfold b_genuine_shared_1
  refine .seq (.region (.lss rfl rfl rfl (.nil (.code (.seq (.cond rfl (fun hb33 => ?_) (fun hb33 => ?_)))))))
  ·skip
   refine .skip (.code (.seq (.block (.seq (.region (.move rfl rfl (.idx rfl Try.underlying28 Try.sizeOf24 (h4.mono (Fz.t l_15 (Fz.t l_19 (Fz.t l_23 (Fz.t l_28 l_32))))) rfl rfl (fun x34 b35 o36 T37 fr38 cs39 e40 hm41 hv42 => ?_))))))))
   refine .loadFA rfl Try.isAgg24 Try.sizeOf24 rfl hm41 hv42 rfl (.alloc (cs := (cApiSpan (ApiSpan.mk 0 0))) rfl Try.zeroValue24 rfl (fun b44 => ?_))
   refine .assign rfl rfl (.store (cs' := (cApiSpan x34)) Try.sizeOf24 rfl rfl rfl rfl (i := 0) rfl (Nat.le_of_ble_eq_true rfl) rfl (setMany_all (by rfl)) (.nil (.code (.seq (.keep (.cons (k := 4) rfl (.cons (k := 5) rfl (.cons (k := 6) rfl (.cons (k := 7) rfl (.cons (k := 8) rfl (.cons (k := 9) rfl (.cons (k := 36) rfl (.cons (k := 37) rfl (.cons (k := 38) rfl (.nil _)))))))))) ?_)))))
   refine .drawZ 15 mixedOK (by kernel_rfl) (.loadOA rfl Try.isAgg79 Try.sizeOf79 rfl (i := 1) rfl (vs := (cGenuineShares s30.2)) (by kernel_rfl) rfl (.fieldAddr rfl Try.underlying42 rfl Try.sizeOf28 rfl (.loadF rfl Try.isAgg28 rfl ((Fz.t l_23 (Fz.t l_28 l_32)).mem _ _ hb20) rfl (.move rfl rfl ?_))))
   refine .idx rfl Try.underlying28 Try.sizeOf24 (h8.mono (Fz.t l_15 (Fz.t l_19 (Fz.t l_23 (Fz.t l_28 l_32))))) rfl rfl (fun x45 b46 o47 T48 fr49 cs50 e51 hm52 hv53 => ?_)
   refine .fieldAddr rfl Try.underlying24 rfl Try.sizeOf3 rfl (.loadF rfl Try.isAgg3 rfl hm52 (cell_of_take (k := 1) hv53 rfl) (.fieldAddr rfl Try.underlying42 rfl Try.sizeOf28 rfl (.loadF rfl Try.isAgg28 rfl ((Fz.t l_28 l_32).mem _ _ hb24) rfl (.move rfl rfl ?_))))
   refine .idx rfl Try.underlying28 Try.sizeOf24 (h12.mono (Fz.t l_15 (Fz.t l_19 (Fz.t l_23 (Fz.t l_28 l_32))))) rfl rfl (fun x55 b56 o57 T58 fr59 cs60 e61 hm62 hv63 => ?_)
   refine .fieldAddr rfl Try.underlying24 rfl Try.sizeOf3 rfl (.loadF rfl Try.isAgg3 rfl hm62 (cell_of_take (k := 1) hv63 rfl) (.fieldAddr rfl Try.underlying24 rfl Try.sizeOf3 rfl (.loadO rfl Try.isAgg3 rfl (i := 0) rfl rfl (.pend (.call0 rfl Try.call46 rfl rfl rfl (c_genuine_shares_atLeast _ s30.2 x45.Hi x55.Hi x34.Lo) ?_)))))
   rintro r_67 F_65 _ - l_66 rfl
   refine .store (cs' := (cGenuineShares r_67)) Try.sizeOf79 rfl rfl rfl rfl (i := 1) rfl (Nat.le_of_ble_eq_true rfl) rfl (setMany_all (by rfl)) (.nil (.keep (.cons (k := 4) rfl (.cons (k := 5) rfl (.cons (k := 6) rfl (.cons (k := 7) rfl (.cons (k := 8) rfl (.cons (k := 9) rfl (.cons (k := 36) rfl (.cons (k := 37) rfl (.cons (k := 38) rfl (.nil _)))))))))) (.code ?_)))
   refine .keep (.cons (k := 4) rfl (.cons (k := 5) rfl (.cons (k := 6) rfl (.cons (k := 7) rfl (.cons (k := 8) rfl (.cons (k := 9) rfl (.cons (k := 36) rfl (.cons (k := 37) rfl (.cons (k := 38) rfl (.nil _)))))))))) (.drawZ 18 mixedOK (by kernel_rfl) (.loadOA rfl Try.isAgg79 Try.sizeOf79 rfl (i := 1) rfl (vs := (cGenuineShares r_67)) (by kernel_rfl) rfl (.fieldAddr rfl Try.underlying42 rfl Try.sizeOf28 rfl ?_)))
   refine .loadF rfl Try.isAgg28 rfl ((Fz.t l_23 (Fz.t l_28 (Fz.t l_32 l_66))).mem _ _ hb20) rfl (.move rfl rfl (.idx rfl Try.underlying28 Try.sizeOf24 (h8.mono (Fz.t l_15 (Fz.t l_19 (Fz.t l_23 (Fz.t l_28 (Fz.t l_32 l_66)))))) rfl rfl (fun x68 b69 o70 T71 fr72 cs73 e74 hm75 hv76 => ?_)))
   refine .fieldAddr rfl Try.underlying24 rfl Try.sizeOf3 rfl (.loadF rfl Try.isAgg3 rfl hm75 (cell_of_take (k := 0) hv76 rfl) (.neg rfl rfl (.fieldAddr rfl Try.underlying42 rfl Try.sizeOf28 rfl (.loadF rfl Try.isAgg28 rfl ((Fz.t l_28 (Fz.t l_32 l_66)).mem _ _ hb24) rfl (.move rfl rfl ?_)))))
   refine .idx rfl Try.underlying28 Try.sizeOf24 (h12.mono (Fz.t l_15 (Fz.t l_19 (Fz.t l_23 (Fz.t l_28 (Fz.t l_32 l_66)))))) rfl rfl (fun x78 b79 o80 T81 fr82 cs83 e84 hm85 hv86 => ?_)
   refine .fieldAddr rfl Try.underlying24 rfl Try.sizeOf3 rfl (.loadF rfl Try.isAgg3 rfl hm85 (cell_of_take (k := 0) hv86 rfl) (.neg rfl rfl (.fieldAddr rfl Try.underlying24 rfl Try.sizeOf3 rfl (.loadO rfl Try.isAgg3 rfl (i := 0) rfl rfl (.neg rfl rfl (.pend (.call0 rfl Try.call46 rfl rfl rfl (c_genuine_shares_atLeast _ r_67 (w64 (0 - x68.Lo)) (w64 (0 - x78.Lo)) (w64 (0 - x34.Hi))) ?_)))))))
   rintro r_90 F_88 _ - l_89 rfl
   refine .store (cs' := (cGenuineShares r_90)) Try.sizeOf79 rfl rfl rfl rfl (i := 1) rfl (Nat.le_of_ble_eq_true rfl) rfl (setMany_all (by rfl)) (.nil (.block (.keep (.cons (k := 4) rfl (.cons (k := 5) rfl (.cons (k := 6) rfl (.cons (k := 7) rfl (.cons (k := 36) rfl (.cons (k := 37) rfl (.cons (k := 38) rfl (.nil _)))))))) (.code (.region (.add rfl rfl rfl (.move rfl rfl (.nil (.drop 0 ?_)))))))))
   exact .nil (LPost.norm fun a w h => ⟨F_88, (Fz.t l_32 (Fz.t l_66 l_89)), h.1.sub (.cons (k := 4) rfl (.cons (k := 5) rfl (.cons (k := 6) rfl (.cons (k := 7) rfl (.cons (k := 36) rfl (.cons (k := 37) rfl (.cons (k := 38) rfl (.nil _)))))))), h.2⟩)
  ·skip
   refine .exitOut rfl (LPost.exit fun a w h => ⟨rfl, F_31, l_32, h.1.sub (.cons (k := 6) rfl (.cons (k := 7) rfl (.nil _))), h.2⟩)
 ·intro b91 hb0 hk e a w hD
  obtain ⟨rfl, F_92, l_93, hA⟩ := hD
  refine interp_exit rfl (GE.app ?_ hk a w hA)
  refine .code (.seq (.region (.loadOA rfl Try.isAgg79 Try.sizeOf79 rfl (i := 0) rfl (vs := (cGenuineShares b91)) (by kernel_rfl) rfl (.store (cs' := (cGenuineShares b91)) Try.sizeOf79 rfl rfl rfl rfl (i := 1) rfl (Nat.le_of_ble_eq_true rfl) rfl (setMany_all (by rfl)) (.nil (.code ?_))))))
  exact .ret0 Try.results25 (.agg rfl Try.isAgg79 Try.sizeOf79 (i := 1) rfl (vs' := (cGenuineShares b91)) (by kernel_rfl) rfl (.nil)) (i := 2) rfl (Fz.t l_15 (Fz.t l_19 (Fz.t l_23 (Fz.t l_28 l_93)))) rfl
noncomputable def b_genuine_Origins_2 (b1 : ApiSuspect) (l_5 : (List ApiSource)) (s19 : (List Int) × (List (Nat → Int)) × Int) (s57 : (List (Nat → Int)) × Int) : Option (Ctl ((List (Nat → Int)) × Int) (((List (Nat → Int))))) :=
 if (decide (s57.2 < (l_5.length : Int))) then ((((idxL l_5 s57.2).bind fun x64 => (m_genuine_fits b1 x64).bind fun r_79 => if (!r_79) then ((idxL l_5 s19.2.2).bind fun x81 => (idxL l_5 s57.2).bind fun x94 => (m_genuine_shared b1 x81 x94).bind fun r_109 => some (!r_109.none)) else (some false) : Option (Bool)).bind fun j110 => (if j110 then ((appO s57.1 ([(arrOf [s19.2.2, s57.2] 0)])).bind fun l_119 => some l_119) else (some s57.1) : Option ((List (Nat → Int)))).bind fun j123 => some j123 : Option ((List (Nat → Int)))).bind fun j129 => bindv (w64 (s57.2 + 1)) fun k135 => some (.next (j129, k135))) else (some (.done s57.1))
noncomputable def b_genuine_Origins_1 (b1 : ApiSuspect) (l_5 : (List ApiSource)) (s19 : (List Int) × (List (Nat → Int)) × Int) : Option (Ctl ((List Int) × (List (Nat → Int)) × Int) (((List Int) × (List (Nat → Int))))) :=
 if (decide (s19.2.2 < (l_5.length : Int))) then (((idxL l_5 s19.2.2).bind fun x29 => (m_genuine_fits b1 x29).bind fun r_44 => if r_44 then ((appO s19.1 ([s19.2.2])).bind fun l_51 => some (l_51, s19.2.1)) else (bindv (w64 (s19.2.2 + 1)) fun k55 => (loopM (b_genuine_Origins_2 b1 l_5 s19) (s19.2.1, k55)).bind fun b137 => some (s19.1, b137)) : Option ((List Int) × (List (Nat → Int)))).bind fun j143 => some (.next (j143.1, j143.2, (w64 (s19.2.2 + 1))))) else (some (.done (s19.1, s19.2.1)))
noncomputable def m_genuine_Origins (b1 : ApiSuspect) (l_5 : (List ApiSource)) : Option ((List Int) × (List (Nat → Int)) × Int) :=
 (m_genuine_areValid b1 l_5).bind fun r_15 => if (!r_15) then (some ([], [], 1)) else ((loopM (b_genuine_Origins_1 b1 l_5) ([], [], 0)).bind fun b152 => some (b152.1, b152.2, 0))
theorem c_genuine_Origins (F0 : Fz) (b1 : ApiSuspect) (p2 : Option Addr) (k3 : Nat) (h4 : RepSl 2 (Ex cApiSpan) F0 p2 k3 b1.Seen) (l_5 : (List ApiSource)) (p6 : Option Addr) (k7 : Nat) (h8 : RepSl 5 rApiSource F0 p6 k7 l_5) : CT0 Try.prog 10 [(eApiSuspect b1 p2 k3), (.slice p6 l_5.length k7)].toArray F0 (m_genuine_Origins b1 l_5) (fun r F v => ∃ (p0 : Option Addr) (k0 : Nat) (p1 : Option Addr) (k1 : Nat), v = .tuple #[(.slice p0 r.1.length k0), (.slice p1 r.2.1.length k1), (.int .i64 r.2.2)] ∧ RepSl 1 (Ex (cInt .i64)) F p0 k0 r.1 ∧ RepSl 2 (Ex (cArr 2 (cInt .i64))) F p1 k1 r.2.1) := by
 refine CT0.enter Try.func10 rfl Try.ntmps10 rfl fun r R => ?_
 unfold m_genuine_Origins
 refine .seq (.region (.boxF (cs := (cApiSuspect b1 p2 k3)) rfl rfl rfl (fun b9 F_10 l_11 hb12 => ?_)))
 refine .assign rfl rfl (.assign rfl rfl (.assign rfl rfl (.nil (.code (.scope (fun _ _ _ h => h) (.seq (.seq (.region (.loadFA rfl Try.isAgg44 Try.sizeOf44 rfl hb12 (vs := (cApiSuspect b1 p2 k3)) (by kernel_rfl) rfl (.move rfl rfl (.call0 rfl Try.call23 rfl rfl rfl (c_genuine_areValid _ b1 p2 k3 (h4.mono l_11) l_5 p6 k7 (h8.mono l_11)) ?_)))))))))))
 rintro r_15 F_13 _ - l_14 rfl
 refine .not rfl rfl (.nil (.code (.cond rfl (fun hb16 => ?_) (fun hb16 => ?_))))
 ·skip
  refine .seq (.region (.assign rfl rfl (.assign rfl rfl (.assign rfl rfl (.nil (.code ?_))))))
  exact .ret0 Try.results10 (.tmp rfl (.tmp rfl (.tmp rfl (.nil)))) (i := 0) rfl (Fz.t l_11 l_14) ⟨none, 0, none, 0, rfl, (RepSl.nil.mono (Fz.t l_11 l_14)), (RepSl.nil.mono (Fz.t l_11 l_14))⟩
 ·skip
  refine .skip (.code (.seq (.label (.code (.seq (.seq (.region (.move rfl rfl (.lenS rfl rfl Try.underlying27 rfl (.move rfl rfl (.nil ?_)))))))))))
  refine .code (.block (.ownNil 1 (Ex (cInt .i64)) 3 (.ownNil 2 (Ex (cArr 2 (cInt .i64))) 55 (.keep (.cons (k := 1) rfl (.cons (k := 2) rfl (.cons (k := 4) rfl (.cons (k := 5) rfl (.cons (k := 14) rfl (.cons (k := 15) rfl (.nil _))))))) ?_))))
  refine .loop (fun (s19 : (List Int) × (List (Nat → Int)) × Int) a w => ∃ (F_20 : Fz) (p22 : Option Addr) (k23 : Nat) (p25 : Option Addr) (k26 : Nat), F_13 ≤ F_20 ∧ Hd 66 [] [(1, (.slice p6 l_5.length k7)), (2, (.pointer (some ⟨b9, 0, none⟩))), (4, (.slice p22 s19.1.length k23)), (5, (.slice p25 s19.2.1.length k26)), (14, (.int .i64 (l_5.length : Int))), (15, (.int .i64 s19.2.2))] F_20 [ownSl 2 (Ex (cArr 2 (cInt .i64))) F_20 55 p25 k26 s19.2.1, ownSl 1 (Ex (cInt .i64)) F_20 3 p22 k23 s19.1, R] a w) (fun b152 e a w => e = .exit 0 ∧ ∃ (F_153 : Fz) (p155 : Option Addr) (k156 : Nat) (p158 : Option Addr) (k159 : Nat), F_13 ≤ F_153 ∧ Hd 66 [] [(4, (.slice p155 b152.1.length k156)), (5, (.slice p158 b152.2.length k159))] F_153 [ownSl 2 (Ex (cArr 2 (cInt .i64))) F_153 55 p158 k159 b152.2, ownSl 1 (Ex (cInt .i64)) F_153 3 p155 k156 b152.1, R] a w) ?_ ?_ ?_
  ·exact fun a w h => ⟨F_13, none, 0, none, 0, Fz.r, h.1.sub (.cons (k := 1) rfl (.cons (k := 2) rfl (.cons (k := 4) rfl (.cons (k := 5) rfl (.cons (k := 14) rfl (.cons (k := 15) rfl (.nil _))))))), h.2⟩
  ·intro s19 ctl
   refine GC.ex (fun a w ⟨F_20, p22, k23, p25, k26, l_21, hA⟩ => ⟨_, hA, ?_⟩)
   unfold b_genuine_Origins_1
   refine .seq (.region (.lss rfl rfl rfl (.nil (.code (.seq (.cond rfl (fun hb28 => ?_) (fun hb28 => ?_)))))))
   ·skip
    refine .skip (.code (.seq (.keep (.cons (k := 1) rfl (.cons (k := 2) rfl (.cons (k := 4) rfl (.cons (k := 5) rfl (.cons (k := 14) rfl (.cons (k := 15) rfl (.nil _))))))) ?_)))
    refine GC.join0 (σ := (List Int) × (List (Nat → Int))) (fun j143 a w => ∃ (F_144 : Fz) (p146 : Option Addr) (k147 : Nat) (p149 : Option Addr) (k150 : Nat), F_20 ≤ F_144 ∧ Hd 66 [] [(1, (.slice p6 l_5.length k7)), (2, (.pointer (some ⟨b9, 0, none⟩))), (4, (.slice p146 j143.1.length k147)), (5, (.slice p149 j143.2.length k150)), (14, (.int .i64 (l_5.length : Int))), (15, (.int .i64 s19.2.2))] F_144 [ownSl 2 (Ex (cArr 2 (cInt .i64))) F_144 55 p149 k150 j143.2, ownSl 1 (Ex (cInt .i64)) F_144 3 p146 k147 j143.1, R] a w) (fun sj => ?_) (fun j143 hs0 => GE.ex (fun a w ⟨F_144, p146, k147, p149, k150, l_145, hA⟩ => ⟨_, hA, ?_⟩))
    ·skip
     refine .block (.seq (.region (.move rfl rfl (.assign rfl rfl (.nil (.code (.seq (.seq (.keep (.cons (k := 1) rfl (.cons (k := 2) rfl (.cons (k := 4) rfl (.cons (k := 5) rfl (.cons (k := 7) rfl (.cons (k := 14) rfl (.cons (k := 15) rfl (.nil _)))))))) (.drawZ 5 mixedOK (by kernel_rfl) ?_))))))))))
     refine .loadFA rfl Try.isAgg44 Try.sizeOf44 rfl ((Fz.t l_14 l_21).mem _ _ hb12) (vs := (cApiSuspect b1 p2 k3)) (by kernel_rfl) rfl (.move rfl rfl (.move rfl rfl (.idx rfl Try.underlying27 Try.sizeOf42 (h8.mono (Fz.t l_11 (Fz.t l_14 l_21))) rfl rfl (fun x29 b30 o31 T32 fr33 cs34 e35 hm36 hv37 => ?_))))
     obtain ⟨p39, k40, hv37, h41⟩ := hv37
     refine .loadFA rfl Try.isAgg42 Try.sizeOf42 rfl hm36 hv37 rfl (.pend (.call0 rfl Try.call24 rfl rfl rfl (c_genuine_fits _ b1 p2 k3 (h4.mono (Fz.t l_11 (Fz.t l_14 l_21))) x29 p39 k40 h41) ?_))
     rintro r_44 F_42 _ - l_43 rfl
     refine .nil (.code (.cond rfl (fun hb45 => ?_) (fun hb45 => ?_)))
     ·skip
      refine .seq (.region (.move rfl rfl (.move rfl rfl (.sliceLit (cs := [.int .i64 s19.2.2]) (zc := [.int .i64 0]) rfl Try.underlying47 Try.sizeOf3 Try.zeroValue3 rfl rfl rfl (by kernel_rfl) (by kernel_rfl) (fun b46 F_47 l_48 hb49 => ?_)))))
      have h50 : RepSl 1 (Ex (cInt .i64)) F_47 (some ⟨b46, 0, none⟩) 1 ([s19.2.2]) := RepSl.ofRow hb49 (.cons ok_t3.mono rfl .nil) rfl rfl
      refine .append 1 ok_t3 (Fz.t l_43 l_48) rfl Try.underlying47 Try.underlying47 rfl rfl rfl h50 rfl rfl (fun l_51 p52 k53 e54 => ?_)
      refine .assign rfl rfl (.nil (.code (.exit rfl (.ownUp 0 (Fz.t l_43 l_48) rfl ?_))))
      exact .nil fun e a w h => by cases e; exact ⟨rfl, ⟨F_47, p52, k53, p25, k26, (Fz.t l_43 l_48), h.1.sub (.cons (k := 1) rfl (.cons (k := 2) rfl (.cons (k := 4) rfl (.cons (k := 5) rfl (.cons (k := 14) rfl (.cons (k := 15) rfl (.nil _))))))), h.2⟩⟩
     ·skip
      refine .skip (.code (.seq (.region (.move rfl rfl (.add rfl rfl rfl (.assignL rfl rfl (fun k55 e56 => ?_)))))))
      refine .nil (.code (.block (.keep (.cons (k := 1) rfl (.cons (k := 2) rfl (.cons (k := 4) rfl (.cons (k := 5) rfl (.cons (k := 7) rfl (.cons (k := 8) rfl (.cons (k := 14) rfl (.cons (k := 15) rfl (.nil _))))))))) (.ownUp 0 l_43 rfl ?_))))
      refine .loop (fun (s57 : (List (Nat → Int)) × Int) a w => ∃ (F_58 : Fz) (p60 : Option Addr) (k61 : Nat), F_42 ≤ F_58 ∧ Hd 66 [] [(1, (.slice p6 l_5.length k7)), (2, (.pointer (some ⟨b9, 0, none⟩))), (4, (.slice p22 s19.1.length k23)), (5, (.slice p60 s57.1.length k61)), (7, (.int .i64 s19.2.2)), (8, (.int .i64 s57.2)), (14, (.int .i64 (l_5.length : Int))), (15, (.int .i64 s19.2.2))] F_58 [ownSl 2 (Ex (cArr 2 (cInt .i64))) F_58 55 p60 k61 s57.1, ownSl 1 (Ex (cInt .i64)) F_20 3 p22 k23 s19.1, R] a w) (fun b137 e a w => e = .exit 2 ∧ ∃ (F_138 : Fz) (p140 : Option Addr) (k141 : Nat), F_42 ≤ F_138 ∧ Hd 66 [] [(1, (.slice p6 l_5.length k7)), (2, (.pointer (some ⟨b9, 0, none⟩))), (4, (.slice p22 s19.1.length k23)), (5, (.slice p140 b137.length k141)), (14, (.int .i64 (l_5.length : Int))), (15, (.int .i64 s19.2.2))] F_138 [ownSl 2 (Ex (cArr 2 (cInt .i64))) F_138 55 p140 k141 b137, ownSl 1 (Ex (cInt .i64)) F_20 3 p22 k23 s19.1, R] a w) ?_ ?_ ?_
      ·exact fun a w h => ⟨F_42, p25, k26, Fz.r, h.1.sub (.cons (k := 1) rfl (.cons (k := 2) rfl (.cons (k := 4) rfl (.cons (k := 5) rfl (.cons (k := 7) rfl (.cons (k := 8) rfl (.cons (k := 14) rfl (.cons (k := 15) rfl (.nil _))))))))), h.2⟩
      ·intro s57 ctl
       refine GC.ex (fun a w ⟨F_58, p60, k61, l_59, hA⟩ => ⟨_, hA, ?_⟩)
       unfold b_genuine_Origins_2
       refine .seq (.seq (.region (.move rfl rfl (.move rfl rfl (.lenS rfl rfl Try.underlying27 rfl (.lss rfl rfl rfl (.nil (.code (.cond rfl (fun hb63 => ?_) (fun hb63 => ?_))))))))))
       ·skip
        refine .skip (.code (.seq (.keep (.cons (k := 1) rfl (.cons (k := 2) rfl (.cons (k := 4) rfl (.cons (k := 5) rfl (.cons (k := 7) rfl (.cons (k := 8) rfl (.cons (k := 14) rfl (.cons (k := 15) rfl (.nil _))))))))) ?_)))
        refine GC.join0 (σ := (List (Nat → Int))) (fun j129 a w => ∃ (F_130 : Fz) (p132 : Option Addr) (k133 : Nat), F_58 ≤ F_130 ∧ Hd 66 [] [(1, (.slice p6 l_5.length k7)), (2, (.pointer (some ⟨b9, 0, none⟩))), (4, (.slice p22 s19.1.length k23)), (5, (.slice p132 j129.length k133)), (7, (.int .i64 s19.2.2)), (8, (.int .i64 s57.2)), (14, (.int .i64 (l_5.length : Int))), (15, (.int .i64 s19.2.2))] F_130 [ownSl 2 (Ex (cArr 2 (cInt .i64))) F_130 55 p132 k133 j129, ownSl 1 (Ex (cInt .i64)) F_20 3 p22 k23 s19.1, R] a w) (fun sj => ?_) (fun j129 hs0 => GE.ex (fun a w ⟨F_130, p132, k133, l_131, hA⟩ => ⟨_, hA, ?_⟩))
        ·skip
         refine .block (.seq (.keep (.cons (k := 1) rfl (.cons (k := 2) rfl (.cons (k := 4) rfl (.cons (k := 5) rfl (.cons (k := 7) rfl (.cons (k := 8) rfl (.cons (k := 14) rfl (.cons (k := 15) rfl (.nil _))))))))) ?_))
         refine GC.join0 (σ := Bool) (fun j110 a w => ∃ (F_111 : Fz), F_58 ≤ F_111 ∧ Hd 66 [] [(1, (.slice p6 l_5.length k7)), (2, (.pointer (some ⟨b9, 0, none⟩))), (4, (.slice p22 s19.1.length k23)), (5, (.slice p60 s57.1.length k61)), (7, (.int .i64 s19.2.2)), (8, (.int .i64 s57.2)), (14, (.int .i64 (l_5.length : Int))), (15, (.int .i64 s19.2.2)), (56, (.bool j110))] F_111 [ownSl 2 (Ex (cArr 2 (cInt .i64))) F_58 55 p60 k61 s57.1, ownSl 1 (Ex (cInt .i64)) F_20 3 p22 k23 s19.1, R] a w) (fun sj => ?_) (fun j110 hs0 => GE.ex (fun a w ⟨F_111, l_112, hA⟩ => ⟨_, hA, ?_⟩))
         ·skip
          refine .drawT (p := 5) (st := [11]) mixedOK (by kernel_rfl) (.loadFA rfl Try.isAgg44 Try.sizeOf44 rfl ((Fz.t l_14 (Fz.t l_21 (Fz.t l_43 l_59))).mem _ _ hb12) (vs := (cApiSuspect b1 p2 k3)) (by kernel_rfl) rfl (.move rfl rfl (.move rfl rfl (.idx rfl Try.underlying27 Try.sizeOf42 (h8.mono (Fz.t l_11 (Fz.t l_14 (Fz.t l_21 (Fz.t l_43 l_59))))) rfl rfl (fun x64 b65 o66 T67 fr68 cs69 e70 hm71 hv72 => ?_)))))
          obtain ⟨p74, k75, hv72, h76⟩ := hv72
          refine .loadFA rfl Try.isAgg42 Try.sizeOf42 rfl hm71 hv72 rfl (.pendT (.call0 rfl Try.call24 rfl rfl rfl (c_genuine_fits _ b1 p2 k3 (h4.mono (Fz.t l_11 (Fz.t l_14 (Fz.t l_21 (Fz.t l_43 l_59))))) x64 p74 k75 h76) ?_))
          rintro r_79 F_77 _ - l_78 rfl
          refine .nil (.stage (.not rfl rfl (.move rfl rfl (.ite (fun hb80 => ?_) (fun hb80 => ?_)))))
          ·skip
           refine .onH hb80 rfl rfl (.loadFA rfl Try.isAgg44 Try.sizeOf44 rfl ((Fz.t l_14 (Fz.t l_21 (Fz.t l_43 (Fz.t l_59 l_78)))).mem _ _ hb12) (vs := (cApiSuspect b1 p2 k3)) (by kernel_rfl) rfl (.onH hb80 rfl rfl (.move rfl rfl (.onH hb80 rfl rfl (.move rfl rfl (.onH hb80 rfl rfl ?_))))))
           refine .idx rfl Try.underlying27 Try.sizeOf42 (h8.mono (Fz.t l_11 (Fz.t l_14 (Fz.t l_21 (Fz.t l_43 (Fz.t l_59 l_78)))))) rfl rfl (fun x81 b82 o83 T84 fr85 cs86 e87 hm88 hv89 => ?_)
           obtain ⟨p91, k92, hv89, h93⟩ := hv89
           refine .onH hb80 rfl rfl (.loadFA rfl Try.isAgg42 Try.sizeOf42 rfl hm88 hv89 rfl (.onH hb80 rfl rfl (.move rfl rfl (.onH hb80 rfl rfl (.move rfl rfl (.onH hb80 rfl rfl (.idx rfl Try.underlying27 Try.sizeOf42 (h8.mono (Fz.t l_11 (Fz.t l_14 (Fz.t l_21 (Fz.t l_43 (Fz.t l_59 l_78)))))) rfl rfl (fun x94 b95 o96 T97 fr98 cs99 e100 hm101 hv102 => ?_))))))))
           obtain ⟨p104, k105, hv102, h106⟩ := hv102
           refine .onH hb80 rfl rfl (.loadFA rfl Try.isAgg42 Try.sizeOf42 rfl hm101 hv102 rfl (.pendT (.onH hb80 rfl rfl (.call0 rfl Try.call25 rfl rfl rfl (c_genuine_shared _ b1 p2 k3 (h4.mono (Fz.t l_11 (Fz.t l_14 (Fz.t l_21 (Fz.t l_43 (Fz.t l_59 l_78)))))) x81 p91 k92 h93 x94 p104 k105 h106) ?_))))
           rintro r_109 F_107 _ - l_108 rfl
           refine .nil (.stageZ (.onH hb80 rfl rfl (.field rfl Try.underlying79 rfl Try.isAgg4 rfl rfl (.onH hb80 rfl rfl (.not rfl rfl (.pickTH hb80 rfl rfl rfl (.endT ?_)))))))
           exact .nil fun e a w h => by cases e; exact ⟨rfl, ⟨F_107, (Fz.t l_78 l_108), h.1.sub (.cons (k := 1) rfl (.cons (k := 2) rfl (.cons (k := 4) rfl (.cons (k := 5) rfl (.cons (k := 7) rfl (.cons (k := 8) rfl (.cons (k := 14) rfl (.cons (k := 15) rfl (.cons (k := 56) rfl (.nil _)))))))))), h.2⟩⟩
          ·skip
           refine .offH hb80 rfl rfl rfl (.offH hb80 rfl rfl rfl (.offH hb80 rfl rfl rfl (.offH hb80 rfl rfl rfl (.offH hb80 rfl rfl rfl (.offH hb80 rfl rfl rfl (.offH hb80 rfl rfl rfl (.offH hb80 rfl rfl rfl (.offH hb80 rfl rfl rfl (.pendT (.offH hb80 rfl rfl rfl (.nil ?_)))))))))))
           refine .stageZ (.offH hb80 rfl rfl rfl (.offH hb80 rfl rfl rfl (.pickFH hb80 rfl rfl rfl (.endT ?_))))
           exact .nil fun e a w h => by cases e; exact ⟨rfl, ⟨F_77, l_78, h.1.sub (.cons (k := 1) rfl (.cons (k := 2) rfl (.cons (k := 4) rfl (.cons (k := 5) rfl (.cons (k := 7) rfl (.cons (k := 8) rfl (.cons (k := 14) rfl (.cons (k := 15) rfl (.cons (k := 56) rfl (.nil _)))))))))), h.2⟩⟩
         refine .code (.keep (.cons (k := 1) rfl (.cons (k := 2) rfl (.cons (k := 4) rfl (.cons (k := 5) rfl (.cons (k := 7) rfl (.cons (k := 8) rfl (.cons (k := 14) rfl (.cons (k := 15) rfl (.cons (k := 56) rfl (.nil _)))))))))) ?_)
         refine GC.join0 (σ := (List (Nat → Int))) (fun j123 a w => ∃ (F_124 : Fz) (p126 : Option Addr) (k127 : Nat), F_111 ≤ F_124 ∧ Hd 66 [] [(1, (.slice p6 l_5.length k7)), (2, (.pointer (some ⟨b9, 0, none⟩))), (4, (.slice p22 s19.1.length k23)), (5, (.slice p126 j123.length k127)), (7, (.int .i64 s19.2.2)), (8, (.int .i64 s57.2)), (14, (.int .i64 (l_5.length : Int))), (15, (.int .i64 s19.2.2))] F_124 [ownSl 2 (Ex (cArr 2 (cInt .i64))) F_124 55 p126 k127 j123, ownSl 1 (Ex (cInt .i64)) F_20 3 p22 k23 s19.1, R] a w) (fun sj => ?_) (fun j123 hs0 => GE.ex (fun a w ⟨F_124, p126, k127, l_125, hA⟩ => ⟨_, hA, ?_⟩))
         ·skip
          refine .cond rfl (fun hb113 => ?_) (fun hb113 => ?_)
          ·skip
           refine .region (.move rfl rfl (.move rfl rfl (.move rfl rfl (.buildA (cs := ((cArr 2 (cInt .i64)) (arrOf [s19.2.2, s57.2] 0)).toArray) rfl Try.underlying55 Try.zeroValue55 Try.sizeOf3 rfl rfl (by kernel_rfl) ?_))))
           refine .sliceLit (cs := [.int .i64 ((arrOf [s19.2.2, s57.2] 0) 0), .int .i64 ((arrOf [s19.2.2, s57.2] 0) 1)]) (zc := [.int .i64 ((fun _ => 0) 0), .int .i64 ((fun _ => 0) 1)]) rfl Try.underlying48 Try.sizeOf55 Try.zeroValue55 rfl rfl rfl (by kernel_rfl) (by kernel_rfl) (fun b114 F_115 l_116 hb117 => ?_)
           have h118 : RepSl 2 (Ex (cArr 2 (cInt .i64))) F_115 (some ⟨b114, 0, none⟩) 1 ([(arrOf [s19.2.2, s57.2] 0)]) := RepSl.ofRow hb117 (.cons ok_t55.mono rfl .nil) rfl rfl
           refine .append 0 ok_t55 (Fz.t l_112 l_116) rfl Try.underlying48 Try.underlying48 rfl rfl rfl h118 rfl rfl (fun l_119 p120 k121 e122 => ?_)
           refine .assign rfl rfl (.nil ?_)
           exact .nil fun e a w h => by cases e; exact ⟨rfl, ⟨F_115, p120, k121, l_116, h.1.sub (.cons (k := 1) rfl (.cons (k := 2) rfl (.cons (k := 4) rfl (.cons (k := 5) rfl (.cons (k := 7) rfl (.cons (k := 8) rfl (.cons (k := 14) rfl (.cons (k := 15) rfl (.nil _))))))))), h.2⟩⟩
          ·skip
           refine .skip (.ownUp 0 l_112 rfl ?_)
           exact .nil fun e a w h => by cases e; exact ⟨rfl, ⟨F_111, p60, k61, Fz.r, h.1.sub (.cons (k := 1) rfl (.cons (k := 2) rfl (.cons (k := 4) rfl (.cons (k := 5) rfl (.cons (k := 7) rfl (.cons (k := 8) rfl (.cons (k := 14) rfl (.cons (k := 15) rfl (.nil _))))))))), h.2⟩⟩
         refine .block ?_
         exact .nil fun e a w h => by cases e; exact ⟨rfl, ⟨F_124, p126, k127, (Fz.t l_112 l_125), h.1.sub (.cons (k := 1) rfl (.cons (k := 2) rfl (.cons (k := 4) rfl (.cons (k := 5) rfl (.cons (k := 7) rfl (.cons (k := 8) rfl (.cons (k := 14) rfl (.cons (k := 15) rfl (.nil _))))))))), h.2⟩⟩
        refine .code (.region (.move rfl rfl (.add rfl rfl rfl (.assignL rfl rfl (fun k135 e136 => ?_)))))
        refine .nil ?_
        exact .nil (LPost.norm fun a w h => ⟨F_130, p132, k133, (Fz.t l_59 l_131), h.1.sub (.cons (k := 1) rfl (.cons (k := 2) rfl (.cons (k := 4) rfl (.cons (k := 5) rfl (.cons (k := 7) rfl (.cons (k := 8) rfl (.cons (k := 14) rfl (.cons (k := 15) rfl (.nil _))))))))), h.2⟩)
       ·skip
        refine .exitOut rfl (LPost.exit fun a w h => ⟨rfl, F_58, p60, k61, l_59, h.1.sub (.cons (k := 1) rfl (.cons (k := 2) rfl (.cons (k := 4) rfl (.cons (k := 5) rfl (.cons (k := 14) rfl (.cons (k := 15) rfl (.nil _))))))), h.2⟩)
      ·intro b137 hb0 hk e a w hD
       obtain ⟨rfl, F_138, p140, k141, l_139, hA⟩ := hD
       refine interp_exit rfl (GE.app ?_ hk a w hA)
       refine .block (.ownUp 1 (Fz.t l_43 l_139) rfl ?_)
       exact .nil fun e a w h => by cases e; exact ⟨rfl, ⟨F_138, p22, k23, p140, k141, (Fz.t l_43 l_139), h.1.sub (.cons (k := 1) rfl (.cons (k := 2) rfl (.cons (k := 4) rfl (.cons (k := 5) rfl (.cons (k := 14) rfl (.cons (k := 15) rfl (.nil _))))))), h.2⟩⟩
    refine .code (.region (.add rfl rfl rfl (.move rfl rfl (.nil ?_))))
    exact .nil (LPost.norm fun a w h => ⟨F_144, p146, k147, p149, k150, (Fz.t l_21 l_145), h.1.sub (.cons (k := 1) rfl (.cons (k := 2) rfl (.cons (k := 4) rfl (.cons (k := 5) rfl (.cons (k := 14) rfl (.cons (k := 15) rfl (.nil _))))))), h.2⟩)
   ·skip
    refine .exitOut rfl (LPost.exit fun a w h => ⟨rfl, F_20, p22, k23, p25, k26, l_21, h.1.sub (.cons (k := 4) rfl (.cons (k := 5) rfl (.nil _))), h.2⟩)
  ·intro b152 hb0 hk e a w hD
   obtain ⟨rfl, F_153, p155, k156, p158, k159, l_154, hA⟩ := hD
   refine interp_exit rfl (GE.app ?_ hk a w hA)
   refine .code (.seq (.region (.move rfl rfl (.move rfl rfl (.assign rfl rfl (.assign rfl rfl (.assign rfl rfl (.nil (.code (.freezeSl 1 rfl Fz.r (fun F_161 l_162 h163 => ?_)))))))))))
   refine .freezeSl 0 rfl l_162 (fun F_164 l_165 h166 => ?_)
   exact .ret0 Try.results10 (.tmp rfl (.tmp rfl (.tmp rfl (.nil)))) (i := 0) rfl (Fz.t l_11 (Fz.t l_14 (Fz.t l_154 (Fz.t l_162 l_165)))) ⟨p155, k156, p158, k159, rfl, (h163.mono l_165), h166⟩
noncomputable def m_wormtubtop_awake13  : Option Bool :=
 (m_genuine_Origins (ApiSuspect.mk 800 0 (ApiSpan.mk 4600 4620) ([(ApiSpan.mk 110 112)])) ([(ApiSource.mk 0 900 (ApiSpan.mk 5900 6000) ([(ApiSpan.mk 100 110)]))])).bind fun r_18 => (if ((r_18.1.length : Int) == 1) then ((idxL r_18.1 0).bind fun x26 => some (x26 == 0)) else some false).bind fun z39 => (if ((z39 && ((r_18.2.1.length : Int) == 0)) && (r_18.2.2 == 0)) then ((m_wormtubtop_awake12).bind fun r_52 => some r_52) else some false).bind fun z56 => some z56
theorem c_wormtubtop_awake13 (F0 : Fz)  : CT0 Try.prog 6 [].toArray F0 (m_wormtubtop_awake13) (fun r _ v => v = (.bool r)) := by
 refine CT0.enter Try.func6 rfl Try.ntmps6 rfl fun r R => ?_
 unfold m_wormtubtop_awake13
 refine .seq (.region (.assign rfl rfl (.nil (.code (.seq (.region (.build (cs := (cApiSpan (ApiSpan.mk 5900 6000)).toArray) rfl Try.underlying24 Try.zeroValue24 (plApiSpan _ Try.underlying24) rfl rfl (by kernel_rfl) (.build (cs := (cApiSpan (ApiSpan.mk 100 110)).toArray) rfl Try.underlying24 Try.zeroValue24 (plApiSpan _ Try.underlying24) rfl rfl (by kernel_rfl) ?_))))))))
 refine .sliceLit (cs := [.int .i64 (ApiSpan.mk 100 110).Lo, .int .i64 (ApiSpan.mk 100 110).Hi]) (zc := [.int .i64 (ApiSpan.mk 0 0).Lo, .int .i64 (ApiSpan.mk 0 0).Hi]) rfl Try.underlying28 Try.sizeOf24 Try.zeroValue24 rfl rfl rfl (by kernel_rfl) (by kernel_rfl) (fun b1 F_2 l_3 hb4 => ?_)
 have h5 : RepSl 2 (Ex cApiSpan) F_2 (some ⟨b1, 0, none⟩) 1 ([(ApiSpan.mk 100 110)]) := RepSl.ofRow hb4 (.cons ok_t24.mono rfl .nil) rfl rfl
 refine .build (cs := (cApiSource (ApiSource.mk 0 900 (ApiSpan.mk 5900 6000) ([(ApiSpan.mk 100 110)])) (some ⟨b1, 0, none⟩) 1).toArray) rfl Try.underlying42 Try.zeroValue42 (plApiSource _ Try.underlying42) rfl rfl (by kernel_rfl) ?_
 refine .sliceLit (cs := [.int .i64 (ApiSource.mk 0 900 (ApiSpan.mk 5900 6000) ([(ApiSpan.mk 100 110)])).Cask, .int .i64 (ApiSource.mk 0 900 (ApiSpan.mk 5900 6000) ([(ApiSpan.mk 100 110)])).Drawn, .int .i64 (ApiSource.mk 0 900 (ApiSpan.mk 5900 6000) ([(ApiSpan.mk 100 110)])).Strength.Lo, .int .i64 (ApiSource.mk 0 900 (ApiSpan.mk 5900 6000) ([(ApiSpan.mk 100 110)])).Strength.Hi, .slice (some ⟨b1, 0, none⟩) (ApiSource.mk 0 900 (ApiSpan.mk 5900 6000) ([(ApiSpan.mk 100 110)])).Values.length 1]) (zc := [.int .i64 (ApiSource.mk 0 0 (ApiSpan.mk 0 0) ([])).Cask, .int .i64 (ApiSource.mk 0 0 (ApiSpan.mk 0 0) ([])).Drawn, .int .i64 (ApiSource.mk 0 0 (ApiSpan.mk 0 0) ([])).Strength.Lo, .int .i64 (ApiSource.mk 0 0 (ApiSpan.mk 0 0) ([])).Strength.Hi, .slice none (ApiSource.mk 0 0 (ApiSpan.mk 0 0) ([])).Values.length 0]) rfl Try.underlying27 Try.sizeOf42 Try.zeroValue42 rfl rfl rfl (by kernel_rfl) (by kernel_rfl) (fun b6 F_7 l_8 hb9 => ?_)
 have h10 : RepSl 5 rApiSource F_7 (some ⟨b6, 0, none⟩) 1 ([(ApiSource.mk 0 900 (ApiSpan.mk 5900 6000) ([(ApiSpan.mk 100 110)]))]) := RepSl.ofRow hb9 (.cons ok_t42.mono ⟨_, _, rfl, (h5.mono l_8)⟩ .nil) rfl rfl
 refine .assign rfl rfl (.nil (.code (.seq (.region (.build (cs := (cApiSpan (ApiSpan.mk 4600 4620)).toArray) rfl Try.underlying24 Try.zeroValue24 (plApiSpan _ Try.underlying24) rfl rfl (by kernel_rfl) (.build (cs := (cApiSpan (ApiSpan.mk 110 112)).toArray) rfl Try.underlying24 Try.zeroValue24 (plApiSpan _ Try.underlying24) rfl rfl (by kernel_rfl) ?_))))))
 refine .sliceLit (cs := [.int .i64 (ApiSpan.mk 110 112).Lo, .int .i64 (ApiSpan.mk 110 112).Hi]) (zc := [.int .i64 (ApiSpan.mk 0 0).Lo, .int .i64 (ApiSpan.mk 0 0).Hi]) rfl Try.underlying28 Try.sizeOf24 Try.zeroValue24 rfl rfl rfl (by kernel_rfl) (by kernel_rfl) (fun b11 F_12 l_13 hb14 => ?_)
 have h15 : RepSl 2 (Ex cApiSpan) F_12 (some ⟨b11, 0, none⟩) 1 ([(ApiSpan.mk 110 112)]) := RepSl.ofRow hb14 (.cons ok_t24.mono rfl .nil) rfl rfl
 refine .build (cs := (cApiSuspect (ApiSuspect.mk 800 0 (ApiSpan.mk 4600 4620) ([(ApiSpan.mk 110 112)])) (some ⟨b11, 0, none⟩) 1).toArray) rfl Try.underlying44 Try.zeroValue44 (plApiSuspect _ Try.underlying44) rfl rfl (by kernel_rfl) (.move rfl rfl ?_)
 refine .call0 rfl Try.call10 rfl rfl rfl (c_genuine_Origins _ (ApiSuspect.mk 800 0 (ApiSpan.mk 4600 4620) ([(ApiSpan.mk 110 112)])) (some ⟨b11, 0, none⟩) 1 h15 ([(ApiSource.mk 0 900 (ApiSpan.mk 5900 6000) ([(ApiSpan.mk 100 110)]))]) (some ⟨b6, 0, none⟩) 1 (h10.mono l_13)) ?_
 rintro r_18 F_16 _ - l_17 ⟨p19, k20, p22, k23, rfl, h21, h24⟩
 refine .move rfl rfl (.extract rfl rfl rfl (.extract rfl rfl rfl (.extract rfl rfl rfl (.assign rfl rfl (.assign rfl rfl (.assign rfl rfl (.nil (.code (.seq (.region (.move rfl rfl ?_)))))))))))
 refine .lenS rfl rfl Try.underlying47 rfl (.eql rfl rfl rfl (.move rfl rfl (.andM (b := ((r_18.1.length : Int) == 1)) 5 28 (fun hb25 z40 => ?_) (fun hb36 => ?_) (fun z39 F_37 l_38 => ?_))))
 ·skip
  refine .onH hb25 rfl rfl (.move rfl rfl (.onH hb25 rfl rfl (.idx rfl Try.underlying47 Try.sizeOf3 h21 rfl rfl (fun x26 b27 o28 T29 fr30 cs31 e32 hm33 hv34 => ?_))))
  refine .onH hb25 rfl rfl (.loadF rfl Try.isAgg3 rfl hm33 (cell_of_take (k := 0) hv34 rfl) (.onH hb25 rfl rfl (.eql rfl rfl rfl (.pickTH hb25 rfl rfl rfl ?_))))
  exact .finZ 5 rfl rfl (by kernel_rfl) Fz.r
 ·skip
  refine .offH hb36 rfl rfl rfl (.offH hb36 rfl rfl rfl (.offH hb36 rfl rfl rfl (.offH hb36 rfl rfl rfl (.pickFH hb36 rfl rfl rfl ?_))))
  exact .fin 5 rfl rfl (by kernel_rfl) Fz.r
 refine .move rfl rfl (.andP (b := z39) (b' := ((r_18.2.1.length : Int) == 0)) 4 33 (fun hb41 => ?_) (fun hb42 => ?_) (fun F_43 l_44 => ?_))
 ·skip
  refine .onH hb41 rfl rfl (.move rfl rfl (.onH hb41 rfl rfl (.lenS rfl rfl Try.underlying48 rfl (.onH hb41 rfl rfl (.eql rfl rfl rfl (.pickTH hb41 rfl rfl rfl ?_))))))
  exact .fin 4 rfl rfl (by kernel_rfl) Fz.r
 ·skip
  refine .offH hb42 rfl rfl rfl (.offH hb42 rfl rfl rfl (.offH hb42 rfl rfl rfl (.pickFH hb42 rfl rfl rfl ?_)))
  exact .fin 4 rfl rfl (by kernel_rfl) Fz.r
 refine .move rfl rfl (.andP (b := (z39 && ((r_18.2.1.length : Int) == 0))) (b' := (r_18.2.2 == 0)) 3 37 (fun hb45 => ?_) (fun hb46 => ?_) (fun F_47 l_48 => ?_))
 ·skip
  refine .onH hb45 rfl rfl (.move rfl rfl (.onH hb45 rfl rfl (.eql rfl rfl rfl (.pickTH hb45 rfl rfl rfl ?_))))
  exact .fin 3 rfl rfl (by kernel_rfl) Fz.r
 ·skip
  refine .offH hb46 rfl rfl rfl (.offH hb46 rfl rfl rfl (.pickFH hb46 rfl rfl rfl ?_))
  exact .fin 3 rfl rfl (by kernel_rfl) Fz.r
 refine .move rfl rfl (.andM (b := ((z39 && ((r_18.2.1.length : Int) == 0)) && (r_18.2.2 == 0))) 2 40 (fun hb49 z57 => ?_) (fun hb53 => ?_) (fun z56 F_54 l_55 => ?_))
 ·skip
  refine .onH hb49 rfl rfl (.call0 rfl Try.call12 rfl rfl rfl (c_wormtubtop_awake12 _ ) ?_)
  rintro r_52 F_50 _ - l_51 rfl
  refine .pickTH hb49 rfl rfl rfl ?_
  exact .finZ 2 rfl rfl (by kernel_rfl) l_51
 ·skip
  refine .offH hb53 rfl rfl rfl (.pickFH hb53 rfl rfl rfl ?_)
  exact .fin 2 rfl rfl (by kernel_rfl) Fz.r
 refine .assign rfl rfl (.nil (.keep (.cons (k := 0) rfl (.nil _)) (.code ?_)))
 exact .ret0 Try.results6 (.tmp rfl (.nil)) (i := 0) rfl (Fz.t l_3 (Fz.t l_8 (Fz.t l_13 (Fz.t l_17 (Fz.t l_38 (Fz.t l_44 (Fz.t l_48 l_55))))))) rfl
def m_wormtubref13_in (n_1 : Int) (least2 : Int) (most3 : Int) : Bool :=
 ((decide (n_1 ≥ least2)) && (decide (n_1 ≤ most3)))
theorem c_wormtubref13_in (F0 : Fz) (n_1 : Int) (least2 : Int) (most3 : Int) : CT0 Try.prog 20 [(.int .i64 n_1), (.int .i64 least2), (.int .i64 most3)].toArray F0 (some (m_wormtubref13_in n_1 least2 most3)) (fun r _ v => v = (.bool r)) := by
 refine CT0.enter Try.func20 rfl Try.ntmps20 rfl fun r R => ?_
 refine .seq (.region (.assign rfl rfl (.nil (.code (.seq (.region (.move rfl rfl (.move rfl rfl (.geq rfl rfl rfl (.move rfl rfl (.andP (b := (decide (n_1 ≥ least2))) (b' := (decide (n_1 ≤ most3))) 4 14 (fun hb4 => ?_) (fun hb5 => ?_) (fun F_6 l_7 => ?_))))))))))))
 ·skip
  refine .onH hb4 rfl rfl (.move rfl rfl (.onH hb4 rfl rfl (.move rfl rfl (.onH hb4 rfl rfl (.leq rfl rfl rfl (.pickTH hb4 rfl rfl rfl ?_))))))
  exact .fin 4 rfl rfl (by kernel_rfl) Fz.r
 ·skip
  refine .offH hb5 rfl rfl rfl (.offH hb5 rfl rfl rfl (.offH hb5 rfl rfl rfl (.pickFH hb5 rfl rfl rfl ?_)))
  exact .fin 4 rfl rfl (by kernel_rfl) Fz.r
 refine .assign rfl rfl (.nil (.code ?_))
 exact .ret0 Try.results20 (.tmp rfl (.nil)) (i := 0) rfl l_7 rfl
def m_wormtubref13_span (s1 : ApiSpan) (most2 : Int) : Bool :=
 (((decide (s1.Lo ≥ 0)) && (decide (s1.Lo ≤ s1.Hi))) && (decide (s1.Hi ≤ most2)))
theorem c_wormtubref13_span (F0 : Fz) (s1 : ApiSpan) (most2 : Int) : CT0 Try.prog 21 [(eApiSpan s1), (.int .i64 most2)].toArray F0 (some (m_wormtubref13_span s1 most2)) (fun r _ v => v = (.bool r)) := by
 refine CT0.enter Try.func21 rfl Try.ntmps21 rfl fun r R => ?_
 refine .seq (.region (.boxF (cs := (cApiSpan s1)) rfl rfl rfl (fun b3 F_4 l_5 hb6 => ?_)))
 refine .assign rfl rfl (.nil (.code (.seq (.region (.fieldAddr rfl Try.underlying24 rfl Try.sizeOf3 rfl (.loadF rfl Try.isAgg3 rfl hb6 rfl (.geq rfl rfl rfl (.move rfl rfl (.andP (b := (decide (s1.Lo ≥ 0))) (b' := (decide (s1.Lo ≤ s1.Hi))) 6 14 (fun hb7 => ?_) (fun hb8 => ?_) (fun F_9 l_10 => ?_))))))))))
 ·skip
  refine .onH hb7 rfl rfl (.fieldAddr rfl Try.underlying24 rfl Try.sizeOf3 rfl (.onH hb7 rfl rfl (.loadF rfl Try.isAgg3 rfl hb6 rfl (.onH hb7 rfl rfl (.fieldAddr rfl Try.underlying24 rfl Try.sizeOf3 rfl (.onH hb7 rfl rfl (.loadF rfl Try.isAgg3 rfl hb6 rfl (.onH hb7 rfl rfl (.leq rfl rfl rfl (.pickTH hb7 rfl rfl rfl ?_))))))))))
  exact .fin 6 rfl rfl (by kernel_rfl) Fz.r
 ·skip
  refine .offH hb8 rfl rfl rfl (.offH hb8 rfl rfl rfl (.offH hb8 rfl rfl rfl (.offH hb8 rfl rfl rfl (.offH hb8 rfl rfl rfl (.pickFH hb8 rfl rfl rfl ?_)))))
  exact .fin 6 rfl rfl (by kernel_rfl) Fz.r
 refine .move rfl rfl (.andP (b := ((decide (s1.Lo ≥ 0)) && (decide (s1.Lo ≤ s1.Hi)))) (b' := (decide (s1.Hi ≤ most2))) 5 20 (fun hb11 => ?_) (fun hb12 => ?_) (fun F_13 l_14 => ?_))
 ·skip
  refine .onH hb11 rfl rfl (.fieldAddr rfl Try.underlying24 rfl Try.sizeOf3 rfl (.onH hb11 rfl rfl (.loadF rfl Try.isAgg3 rfl (l_10.mem _ _ hb6) rfl (.onH hb11 rfl rfl (.move rfl rfl (.onH hb11 rfl rfl (.leq rfl rfl rfl (.pickTH hb11 rfl rfl rfl ?_))))))))
  exact .fin 5 rfl rfl (by kernel_rfl) Fz.r
 ·skip
  refine .offH hb12 rfl rfl rfl (.offH hb12 rfl rfl rfl (.offH hb12 rfl rfl rfl (.offH hb12 rfl rfl rfl (.pickFH hb12 rfl rfl rfl ?_))))
  exact .fin 5 rfl rfl (by kernel_rfl) Fz.r
 refine .assign rfl rfl (.nil (.code ?_))
 exact .ret0 Try.results21 (.tmp rfl (.nil)) (i := 0) rfl (Fz.t l_5 (Fz.t l_10 l_14)) rfl
noncomputable def b_wormtubref13_spans_1 (l_1 : (List ApiSpan)) (s5 : Int) : Option (Ctl (Int) ((Unit) ⊕ (Bool))) :=
 if ((decide (s5 < (l_1.length : Int))) && (decide (s5 ≤ 12))) then ((idxL l_1 s5).bind fun x13 => if (!(m_wormtubref13_span x13 1048576)) then (some (.done (.inr false))) else (bindv (w64 (s5 + 1)) fun i26 => some (.next i26))) else (some (.done (.inl ())))
noncomputable def m_wormtubref13_spans (l_1 : (List ApiSpan)) : Option Bool :=
 (loopM (b_wormtubref13_spans_1 l_1) 0).bind fun b0 => match b0 with | .inl _b28 => (some (decide ((l_1.length : Int) ≤ 12))) | .inr b28 => (some b28)
theorem c_wormtubref13_spans (F0 : Fz) (l_1 : (List ApiSpan)) (p2 : Option Addr) (k3 : Nat) (h4 : RepSl 2 (Ex cApiSpan) F0 p2 k3 l_1) : CT0 Try.prog 22 [(.slice p2 l_1.length k3)].toArray F0 (m_wormtubref13_spans l_1) (fun r _ v => v = (.bool r)) := by
 refine CT0.enter Try.func22 rfl Try.ntmps22 rfl fun r R => ?_
 unfold m_wormtubref13_spans
 refine .seq (.region (.assign rfl rfl (.nil (.code (.seq (.seq (.region (.assign rfl rfl (.nil (.code (.block ?_)))))))))))
 refine .keep (.cons (k := 0) rfl (.cons (k := 3) rfl (.nil _))) ?_
 refine .loop (fun (s5 : Int) a w => ∃ (F_6 : Fz), F0 ≤ F_6 ∧ Hd 23 [] [(0, (.slice p2 l_1.length k3)), (3, (.int .i64 s5))] F_6 [R] a w) (fun b0 e a w => match b0 with | .inl b28 => e = .exit 0 ∧ ∃ (F_29 : Fz), F0 ≤ F_29 ∧ Hd 23 [] [(0, (.slice p2 l_1.length k3))] F_29 [R] a w | .inr b28 => e = .ret ∧ ∃ (F_31 : Fz), F0 ≤ F_31 ∧ Hd 23 [] [(2, (.bool b28))] F_31 [R] a w) ?_ ?_ ?_
 ·exact fun a w h => ⟨F0, Fz.r, h.1.sub (.cons (k := 0) rfl (.cons (k := 3) rfl (.nil _))), h.2⟩
 ·intro s5 ctl
  refine GC.ex (fun a w ⟨F_6, l_7, hA⟩ => ⟨_, hA, ?_⟩)
  unfold b_wormtubref13_spans_1
  refine .seq (.seq (.region (.move rfl rfl (.move rfl rfl (.lenS rfl rfl Try.underlying28 rfl (.lss rfl rfl rfl (.move rfl rfl (.andP (b := (decide (s5 < (l_1.length : Int)))) (b' := (decide (s5 ≤ 12))) 3 11 (fun hb8 => ?_) (fun hb9 => ?_) (fun F_10 l_11 => ?_)))))))))
  ·skip
   refine .onH hb8 rfl rfl (.move rfl rfl (.onH hb8 rfl rfl (.leq rfl rfl rfl (.pickTH hb8 rfl rfl rfl ?_))))
   exact .fin 3 rfl rfl (by kernel_rfl) Fz.r
  ·skip
   refine .offH hb9 rfl rfl rfl (.offH hb9 rfl rfl rfl (.pickFH hb9 rfl rfl rfl ?_))
   exact .fin 3 rfl rfl (by kernel_rfl) Fz.r
  refine .nil (.code (.cond rfl (fun hb12 => ?_) (fun hb12 => ?_)))
  ·skip
   refine .skip (.code (.seq (.block (.seq (.region (.move rfl rfl (.move rfl rfl (.idx rfl Try.underlying28 Try.sizeOf24 (h4.mono (Fz.t l_7 l_11)) rfl rfl (fun x13 b14 o15 T16 fr17 cs18 e19 hm20 hv21 => ?_)))))))))
   refine .loadFA rfl Try.isAgg24 Try.sizeOf24 rfl hm20 hv21 rfl (.callP rfl Try.call21 rfl rfl rfl (c_wormtubref13_span _ x13 1048576) ?_)
   rintro F_23 _ l_24 rfl
   refine .not rfl rfl (.nil (.code (.cond rfl (fun hb25 => ?_) (fun hb25 => ?_))))
   ·skip
    refine .seq (.region (.assign rfl rfl (.nil (.code (.retQ (LPost.ret fun a w h => ⟨rfl, F_23, (Fz.t l_7 (Fz.t l_11 l_24)), h.1.sub (.cons (k := 2) rfl (.nil _)), h.2⟩))))))
   ·skip
    refine .skip (.block (.code (.region (.move rfl rfl (.add rfl rfl rfl (.assignL rfl rfl (fun i26 e27 => ?_)))))))
    refine .nil ?_
    exact .nil (LPost.norm fun a w h => ⟨F_23, (Fz.t l_7 (Fz.t l_11 l_24)), h.1.sub (.cons (k := 0) rfl (.cons (k := 3) rfl (.nil _))), h.2⟩)
  ·skip
   refine .exitOut rfl (LPost.exit fun a w h => ⟨rfl, F_10, (Fz.t l_7 l_11), h.1.sub (.cons (k := 0) rfl (.nil _)), h.2⟩)
 ·intro b28 hb0 hk e a w hD
  rcases b28 with b28 | b28
  ·skip
   obtain ⟨rfl, F_29, l_30, hA⟩ := hD
   refine interp_exit rfl (GE.app ?_ hk a w hA)
   refine .code (.seq (.region (.move rfl rfl (.lenS rfl rfl Try.underlying28 rfl (.leq rfl rfl rfl (.assign rfl rfl (.nil (.code ?_))))))))
   exact .ret0 Try.results22 (.tmp rfl (.nil)) (i := 0) rfl l_30 rfl
  obtain ⟨rfl, F_31, l_32, hA⟩ := hD
  exact interp_ret ((ret_post0 Try.results22 (.tmp rfl (.nil)) (i := 0) rfl l_32 rfl) hk a w hA)
noncomputable def b_wormtubref13_Sources_1 (l_1 : (List ApiSource)) (s5 : Int) : Option (Ctl (Int) ((Unit) ⊕ (Bool))) :=
 if (decide (s5 < (l_1.length : Int))) then ((idxL l_1 s5).bind fun x9 => (if (!(m_wormtubref13_in x9.Cask 0 1073741824)) then (some true) else (if (!(m_wormtubref13_in x9.Drawn 0 65536)) then (some true) else (if (!(m_wormtubref13_span x9.Strength 10000)) then (some true) else ((m_wormtubref13_spans x9.Values).bind fun r_34 => (if (!r_34) then some true else ((idxL l_1 0).bind fun x36 => some ((x9.Values.length : Int) != (x36.Values.length : Int)))).bind fun z52 => some z52))) : Option (Bool)).bind fun j54 => if j54 then (some (.done (.inr false))) else (bindv (w64 (s5 + 1)) fun i58 => some (.next i58))) else (some (.done (.inl ())))
noncomputable def m_wormtubref13_Sources (l_1 : (List ApiSource)) : Option Bool :=
 (loopM (b_wormtubref13_Sources_1 l_1) 0).bind fun b0 => match b0 with | .inl _b60 => (some (decide ((l_1.length : Int) ≤ 64))) | .inr b60 => (some b60)
theorem c_wormtubref13_Sources (F0 : Fz) (l_1 : (List ApiSource)) (p2 : Option Addr) (k3 : Nat) (h4 : RepSl 5 rApiSource F0 p2 k3 l_1) : CT0 Try.prog 8 [(.slice p2 l_1.length k3)].toArray F0 (m_wormtubref13_Sources l_1) (fun r _ v => v = (.bool r)) := by
 refine CT0.enter Try.func8 rfl Try.ntmps8 rfl fun r R => ?_
 unfold m_wormtubref13_Sources
 refine .seq (.region (.assign rfl rfl (.nil (.code (.seq (.seq (.region (.assign rfl rfl (.nil (.code (.block ?_)))))))))))
 refine .keep (.cons (k := 0) rfl (.cons (k := 3) rfl (.nil _))) ?_
 refine .loop (fun (s5 : Int) a w => ∃ (F_6 : Fz), F0 ≤ F_6 ∧ Hd 51 [] [(0, (.slice p2 l_1.length k3)), (3, (.int .i64 s5))] F_6 [R] a w) (fun b0 e a w => match b0 with | .inl b60 => e = .exit 0 ∧ ∃ (F_61 : Fz), F0 ≤ F_61 ∧ Hd 51 [] [(0, (.slice p2 l_1.length k3))] F_61 [R] a w | .inr b60 => e = .ret ∧ ∃ (F_63 : Fz), F0 ≤ F_63 ∧ Hd 51 [] [(2, (.bool b60))] F_63 [R] a w) ?_ ?_ ?_
 ·exact fun a w h => ⟨F0, Fz.r, h.1.sub (.cons (k := 0) rfl (.cons (k := 3) rfl (.nil _))), h.2⟩
 ·intro s5 ctl
  refine GC.ex (fun a w ⟨F_6, l_7, hA⟩ => ⟨_, hA, ?_⟩)
  unfold b_wormtubref13_Sources_1
  refine .seq (.seq (.region (.move rfl rfl (.move rfl rfl (.lenS rfl rfl Try.underlying27 rfl (.lss rfl rfl rfl (.nil (.code (.cond rfl (fun hb8 => ?_) (fun hb8 => ?_))))))))))
  ·skip
   refine .skip (.code (.seq (.block (.seq (.region (.move rfl rfl (.move rfl rfl (.idx rfl Try.underlying27 Try.sizeOf42 (h4.mono l_7) rfl rfl (fun x9 b10 o11 T12 fr13 cs14 e15 hm16 hv17 => ?_)))))))))
   obtain ⟨p19, k20, hv17, h21⟩ := hv17
   refine .loadFA rfl Try.isAgg42 Try.sizeOf42 rfl hm16 hv17 rfl (.alloc (cs := (cApiSource (ApiSource.mk 0 0 (ApiSpan.mk 0 0) ([])) none 0)) rfl Try.zeroValue42 rfl (fun b22 => ?_))
   refine .store (cs' := (cApiSource x9 p19 k20)) Try.sizeOf42 rfl rfl rfl rfl (i := 0) rfl (Nat.le_of_ble_eq_true rfl) rfl (setMany_all (by rfl)) (.nil (.code (.seq (.keep (.cons (k := 0) rfl (.cons (k := 3) rfl (.cons (k := 4) rfl (.nil _)))) ?_))))
   refine GC.join0 (σ := Bool) (fun j54 a w => ∃ (F_55 : Fz), F_6 ≤ F_55 ∧ Hd 51 [] [(0, (.slice p2 l_1.length k3)), (3, (.int .i64 s5)), (47, (.bool j54))] F_55 [pt b22 (.cells (cApiSource x9 p19 k20).toArray 42), R] a w) (fun sj => ?_) (fun j54 hs0 => GE.ex (fun a w ⟨F_55, l_56, hA⟩ => ⟨_, hA, ?_⟩))
   ·skip
    refine .drawT (p := 2) (st := [4, 5, 5]) mixedOK (by kernel_rfl) (.fieldAddr rfl Try.underlying42 rfl Try.sizeOf3 rfl (.loadO rfl Try.isAgg3 rfl (i := 0) rfl rfl (.pendT (.callP rfl Try.call20 rfl rfl rfl (c_wormtubref13_in _ x9.Cask 0 1073741824) ?_))))
    rintro F_23 _ l_24 rfl
    refine .nil (.stage (.not rfl rfl (.move rfl rfl (.ite (fun hb25 => ?_) (fun hb25 => ?_)))))
    ·skip
     refine .offH hb25 rfl rfl rfl (.offH hb25 rfl rfl rfl (.pendT (.offH hb25 rfl rfl rfl (.nil (.stage (.offH hb25 rfl rfl rfl (.pickTH hb25 rfl rfl rfl (.move rfl rfl (.off rfl rfl rfl rfl (.off rfl rfl rfl rfl (.pendT ?_)))))))))))
     refine .off rfl rfl rfl rfl (.nil (.stage (.off rfl rfl rfl rfl (.pickT rfl rfl rfl (.move rfl rfl (.off rfl rfl rfl rfl (.off rfl rfl rfl rfl (.pendT (.off rfl rfl rfl rfl (.nil (.stageZ ?_)))))))))))
     refine .off rfl rfl rfl rfl (.pickT rfl rfl rfl (.move rfl rfl (.off rfl rfl rfl rfl (.off rfl rfl rfl rfl (.off rfl rfl rfl rfl (.off rfl rfl rfl rfl (.off rfl rfl rfl rfl (.off rfl rfl rfl rfl (.off rfl rfl rfl rfl (.off rfl rfl rfl rfl (.off rfl rfl rfl rfl ?_)))))))))))
     refine .pickT rfl rfl rfl (.endT ?_)
     exact .nil fun e a w h => by cases e; exact ⟨rfl, ⟨F_23, l_24, h.1.sub (.cons (k := 0) rfl (.cons (k := 3) rfl (.cons (k := 47) rfl (.nil _)))), h.2⟩⟩
    ·skip
     refine .onH hb25 rfl rfl (.fieldAddr rfl Try.underlying42 rfl Try.sizeOf3 rfl (.onH hb25 rfl rfl (.loadO rfl Try.isAgg3 rfl (i := 0) rfl rfl (.pendT (.onH hb25 rfl rfl (.callP rfl Try.call20 rfl rfl rfl (c_wormtubref13_in _ x9.Drawn 0 65536) ?_))))))
     rintro F_26 _ l_27 rfl
     refine .nil (.stage (.onH hb25 rfl rfl (.not rfl rfl (.pickFH hb25 rfl rfl rfl (.move rfl rfl (.ite (fun hb28 => ?_) (fun hb28 => ?_)))))))
     ·skip
      refine .offH hb28 rfl rfl rfl (.offH hb28 rfl rfl rfl (.pendT (.offH hb28 rfl rfl rfl (.nil (.stage (.offH hb28 rfl rfl rfl (.pickTH hb28 rfl rfl rfl (.move rfl rfl (.off rfl rfl rfl rfl (.off rfl rfl rfl rfl (.pendT ?_)))))))))))
      refine .off rfl rfl rfl rfl (.nil (.stageZ (.off rfl rfl rfl rfl (.pickT rfl rfl rfl (.move rfl rfl (.off rfl rfl rfl rfl (.off rfl rfl rfl rfl (.off rfl rfl rfl rfl (.off rfl rfl rfl rfl (.off rfl rfl rfl rfl (.off rfl rfl rfl rfl ?_)))))))))))
      refine .off rfl rfl rfl rfl (.off rfl rfl rfl rfl (.off rfl rfl rfl rfl (.pickT rfl rfl rfl (.endT ?_))))
      exact .nil fun e a w h => by cases e; exact ⟨rfl, ⟨F_26, (Fz.t l_24 l_27), h.1.sub (.cons (k := 0) rfl (.cons (k := 3) rfl (.cons (k := 47) rfl (.nil _)))), h.2⟩⟩
     ·skip
      refine .onH hb28 rfl rfl (.fieldAddr rfl Try.underlying42 rfl Try.sizeOf24 rfl (.onH hb28 rfl rfl (.loadOA rfl Try.isAgg24 Try.sizeOf24 rfl (i := 0) rfl (vs := (cApiSpan x9.Strength)) (by kernel_rfl) rfl (.pendT (.onH hb28 rfl rfl (.callP rfl Try.call21 rfl rfl rfl (c_wormtubref13_span _ x9.Strength 10000) ?_))))))
      rintro F_29 _ l_30 rfl
      refine .nil (.stage (.onH hb28 rfl rfl (.not rfl rfl (.pickFH hb28 rfl rfl rfl (.move rfl rfl (.ite (fun hb31 => ?_) (fun hb31 => ?_)))))))
      ·skip
       refine .offH hb31 rfl rfl rfl (.offH hb31 rfl rfl rfl (.pendT (.offH hb31 rfl rfl rfl (.nil (.stageZ (.offH hb31 rfl rfl rfl (.pickTH hb31 rfl rfl rfl (.move rfl rfl (.off rfl rfl rfl rfl (.off rfl rfl rfl rfl (.off rfl rfl rfl rfl ?_)))))))))))
       refine .off rfl rfl rfl rfl (.off rfl rfl rfl rfl (.off rfl rfl rfl rfl (.off rfl rfl rfl rfl (.off rfl rfl rfl rfl (.off rfl rfl rfl rfl (.pickT rfl rfl rfl (.endT ?_)))))))
       exact .nil fun e a w h => by cases e; exact ⟨rfl, ⟨F_29, (Fz.t l_24 (Fz.t l_27 l_30)), h.1.sub (.cons (k := 0) rfl (.cons (k := 3) rfl (.cons (k := 47) rfl (.nil _)))), h.2⟩⟩
      ·skip
       refine .onH hb31 rfl rfl (.fieldAddr rfl Try.underlying42 rfl Try.sizeOf28 rfl (.onH hb31 rfl rfl (.loadO rfl Try.isAgg28 rfl (i := 0) rfl rfl (.pendT (.onH hb31 rfl rfl (.call0 rfl Try.call22 rfl rfl rfl (c_wormtubref13_spans _ x9.Values p19 k20 (h21.mono (Fz.t l_24 (Fz.t l_27 l_30)))) ?_))))))
       rintro r_34 F_32 _ - l_33 rfl
       refine .nil (.stageZ (.onH hb31 rfl rfl (.not rfl rfl (.pickFH hb31 rfl rfl rfl (.move rfl rfl (.orM (b := (!r_34)) 10 47 (fun hb35 z53 => ?_) (fun hb49 => ?_) (fun z52 F_50 l_51 => ?_)))))))
       ·skip
        refine .onH hb35 rfl rfl (.fieldAddr rfl Try.underlying42 rfl Try.sizeOf28 rfl (.onH hb35 rfl rfl (.loadO rfl Try.isAgg28 rfl (i := 0) rfl rfl (.onH hb35 rfl rfl (.lenS rfl rfl Try.underlying28 rfl (.onH hb35 rfl rfl (.move rfl rfl (.onH hb35 rfl rfl ?_))))))))
        refine .idx rfl Try.underlying27 Try.sizeOf42 (h4.mono (Fz.t l_7 (Fz.t l_24 (Fz.t l_27 (Fz.t l_30 l_33))))) rfl rfl (fun x36 b37 o38 T39 fr40 cs41 e42 hm43 hv44 => ?_)
        obtain ⟨p46, k47, hv44, h48⟩ := hv44
        refine .onH hb35 rfl rfl (.fieldAddr rfl Try.underlying42 rfl Try.sizeOf28 rfl (.onH hb35 rfl rfl (.loadF rfl Try.isAgg28 rfl hm43 (cell_of_take (k := 4) hv44 rfl) (.onH hb35 rfl rfl (.lenS rfl rfl Try.underlying28 rfl (.onH hb35 rfl rfl (.neq rfl rfl rfl (.pickFH hb35 rfl rfl rfl ?_))))))))
        exact .finZ 10 rfl rfl (by kernel_rfl) Fz.r
       ·skip
        refine .offH hb49 rfl rfl rfl (.offH hb49 rfl rfl rfl (.offH hb49 rfl rfl rfl (.offH hb49 rfl rfl rfl (.offH hb49 rfl rfl rfl (.offH hb49 rfl rfl rfl (.offH hb49 rfl rfl rfl (.offH hb49 rfl rfl rfl (.offH hb49 rfl rfl rfl (.pickTH hb49 rfl rfl rfl ?_)))))))))
        exact .fin 10 rfl rfl (by kernel_rfl) Fz.r
       refine .endT ?_
       exact .nil fun e a w h => by cases e; exact ⟨rfl, ⟨F_50, (Fz.t l_24 (Fz.t l_27 (Fz.t l_30 (Fz.t l_33 l_51)))), h.1.sub (.cons (k := 0) rfl (.cons (k := 3) rfl (.cons (k := 47) rfl (.nil _)))), h.2⟩⟩
   refine .code (.cond rfl (fun hb57 => ?_) (fun hb57 => ?_))
   ·skip
    refine .seq (.region (.assign rfl rfl (.nil (.code (.drop 0 (.retQ (LPost.ret fun a w h => ⟨rfl, F_55, (Fz.t l_7 l_56), h.1.sub (.cons (k := 2) rfl (.nil _)), h.2⟩)))))))
   ·skip
    refine .skip (.block (.code (.region (.move rfl rfl (.add rfl rfl rfl (.assignL rfl rfl (fun i58 e59 => ?_)))))))
    refine .nil (.drop 0 ?_)
    exact .nil (LPost.norm fun a w h => ⟨F_55, (Fz.t l_7 l_56), h.1.sub (.cons (k := 0) rfl (.cons (k := 3) rfl (.nil _))), h.2⟩)
  ·skip
   refine .exitOut rfl (LPost.exit fun a w h => ⟨rfl, F_6, l_7, h.1.sub (.cons (k := 0) rfl (.nil _)), h.2⟩)
 ·intro b60 hb0 hk e a w hD
  rcases b60 with b60 | b60
  ·skip
   obtain ⟨rfl, F_61, l_62, hA⟩ := hD
   refine interp_exit rfl (GE.app ?_ hk a w hA)
   refine .code (.seq (.region (.move rfl rfl (.lenS rfl rfl Try.underlying27 rfl (.leq rfl rfl rfl (.assign rfl rfl (.nil (.code ?_))))))))
   exact .ret0 Try.results8 (.tmp rfl (.nil)) (i := 0) rfl l_62 rfl
  obtain ⟨rfl, F_63, l_64, hA⟩ := hD
  exact interp_ret ((ret_post0 Try.results8 (.tmp rfl (.nil)) (i := 0) rfl l_64 rfl) hk a w hA)
noncomputable def m_wormtubref13_Suspect (b1 : ApiSuspect) (l_5 : (List ApiSource)) : Option Bool :=
 (if (((!(m_wormtubref13_in b1.Glass 0 65536)) || (!(m_wormtubref13_in b1.Paper 0 65536))) || (!(m_wormtubref13_span b1.Strength 10000))) then some true else ((m_wormtubref13_spans b1.Seen).bind fun r_30 => some (!r_30))).bind fun z34 => if z34 then (some false) else ((if ((l_5.length : Int) == 0) then some true else ((idxL l_5 0).bind fun x38 => some ((b1.Seen.length : Int) == (x38.Values.length : Int)))).bind fun z54 => some z54)
theorem c_wormtubref13_Suspect (F0 : Fz) (b1 : ApiSuspect) (p2 : Option Addr) (k3 : Nat) (h4 : RepSl 2 (Ex cApiSpan) F0 p2 k3 b1.Seen) (l_5 : (List ApiSource)) (p6 : Option Addr) (k7 : Nat) (h8 : RepSl 5 rApiSource F0 p6 k7 l_5) : CT0 Try.prog 9 [(eApiSuspect b1 p2 k3), (.slice p6 l_5.length k7)].toArray F0 (m_wormtubref13_Suspect b1 l_5) (fun r _ v => v = (.bool r)) := by
 refine CT0.enter Try.func9 rfl Try.ntmps9 rfl fun r R => ?_
 unfold m_wormtubref13_Suspect
 refine .seq (.region (.boxF (cs := (cApiSuspect b1 p2 k3)) rfl rfl rfl (fun b9 F_10 l_11 hb12 => ?_)))
 refine .assign rfl rfl (.nil (.code (.seq (.seq (.region (.fieldAddr rfl Try.underlying44 rfl Try.sizeOf3 rfl (.loadF rfl Try.isAgg3 rfl hb12 rfl (.callP rfl Try.call20 rfl rfl rfl (c_wormtubref13_in _ b1.Glass 0 65536) ?_))))))))
 rintro F_13 _ l_14 rfl
 refine .not rfl rfl (.move rfl rfl (.orP (b := (!(m_wormtubref13_in b1.Glass 0 65536))) (b' := (!(m_wormtubref13_in b1.Paper 0 65536))) 5 14 (fun hb15 => ?_) (fun hb18 => ?_) (fun F_19 l_20 => ?_)))
 ·skip
  refine .onH hb15 rfl rfl (.fieldAddr rfl Try.underlying44 rfl Try.sizeOf3 rfl (.onH hb15 rfl rfl (.loadF rfl Try.isAgg3 rfl (l_14.mem _ _ hb12) rfl (.onH hb15 rfl rfl (.callP rfl Try.call20 rfl rfl rfl (c_wormtubref13_in _ b1.Paper 0 65536) ?_)))))
  rintro F_16 _ l_17 rfl
  refine .onH hb15 rfl rfl (.not rfl rfl (.pickFH hb15 rfl rfl rfl ?_))
  exact .fin 5 rfl rfl (by kernel_rfl) l_17
 ·skip
  refine .offH hb18 rfl rfl rfl (.offH hb18 rfl rfl rfl (.offH hb18 rfl rfl rfl (.offH hb18 rfl rfl rfl (.pickTH hb18 rfl rfl rfl ?_))))
  exact .fin 5 rfl rfl (by kernel_rfl) Fz.r
 refine .move rfl rfl (.orP (b := ((!(m_wormtubref13_in b1.Glass 0 65536)) || (!(m_wormtubref13_in b1.Paper 0 65536)))) (b' := (!(m_wormtubref13_span b1.Strength 10000))) 5 20 (fun hb21 => ?_) (fun hb24 => ?_) (fun F_25 l_26 => ?_))
 ·skip
  refine .onH hb21 rfl rfl (.fieldAddr rfl Try.underlying44 rfl Try.sizeOf24 rfl (.onH hb21 rfl rfl (.loadFA rfl Try.isAgg24 Try.sizeOf24 rfl ((Fz.t l_14 l_20).mem _ _ hb12) (vs := (cApiSpan b1.Strength)) (by kernel_rfl) rfl (.onH hb21 rfl rfl (.callP rfl Try.call21 rfl rfl rfl (c_wormtubref13_span _ b1.Strength 10000) ?_)))))
  rintro F_22 _ l_23 rfl
  refine .onH hb21 rfl rfl (.not rfl rfl (.pickFH hb21 rfl rfl rfl ?_))
  exact .fin 5 rfl rfl (by kernel_rfl) l_23
 ·skip
  refine .offH hb24 rfl rfl rfl (.offH hb24 rfl rfl rfl (.offH hb24 rfl rfl rfl (.offH hb24 rfl rfl rfl (.pickTH hb24 rfl rfl rfl ?_))))
  exact .fin 5 rfl rfl (by kernel_rfl) Fz.r
 refine .move rfl rfl (.orM (b := (((!(m_wormtubref13_in b1.Glass 0 65536)) || (!(m_wormtubref13_in b1.Paper 0 65536))) || (!(m_wormtubref13_span b1.Strength 10000)))) 5 26 (fun hb27 z35 => ?_) (fun hb31 => ?_) (fun z34 F_32 l_33 => ?_))
 ·skip
  refine .onH hb27 rfl rfl (.fieldAddr rfl Try.underlying44 rfl Try.sizeOf28 rfl (.onH hb27 rfl rfl (.loadF rfl Try.isAgg28 rfl ((Fz.t l_14 (Fz.t l_20 l_26)).mem _ _ hb12) rfl (.onH hb27 rfl rfl (.call0 rfl Try.call22 rfl rfl rfl (c_wormtubref13_spans _ b1.Seen p2 k3 (h4.mono (Fz.t l_11 (Fz.t l_14 (Fz.t l_20 l_26))))) ?_)))))
  rintro r_30 F_28 _ - l_29 rfl
  refine .onH hb27 rfl rfl (.not rfl rfl (.pickFH hb27 rfl rfl rfl ?_))
  exact .finZ 5 rfl rfl (by kernel_rfl) l_29
 ·skip
  refine .offH hb31 rfl rfl rfl (.offH hb31 rfl rfl rfl (.offH hb31 rfl rfl rfl (.offH hb31 rfl rfl rfl (.pickTH hb31 rfl rfl rfl ?_))))
  exact .fin 5 rfl rfl (by kernel_rfl) Fz.r
 refine .nil (.code (.cond rfl (fun hb36 => ?_) (fun hb36 => ?_)))
 ·skip
  refine .seq (.region (.assign rfl rfl (.nil (.code ?_))))
  exact .ret0 Try.results9 (.tmp rfl (.nil)) (i := 0) rfl (Fz.t l_11 (Fz.t l_14 (Fz.t l_20 (Fz.t l_26 l_33)))) rfl
 ·skip
  refine .skip (.code (.seq (.keep (.cons (k := 1) rfl (.cons (k := 2) rfl (.nil _))) (.drawZ 15 mixedOK (by kernel_rfl) (.move rfl rfl (.lenS rfl rfl Try.underlying27 rfl (.eql rfl rfl rfl (.move rfl rfl (.orM (b := ((l_5.length : Int) == 0)) 10 40 (fun hb37 z55 => ?_) (fun hb51 => ?_) (fun z54 F_52 l_53 => ?_))))))))))
  ·skip
   refine .onH hb37 rfl rfl (.fieldAddr rfl Try.underlying44 rfl Try.sizeOf28 rfl (.onH hb37 rfl rfl (.loadF rfl Try.isAgg28 rfl ((Fz.t l_14 (Fz.t l_20 (Fz.t l_26 l_33))).mem _ _ hb12) rfl (.onH hb37 rfl rfl (.lenS rfl rfl Try.underlying28 rfl (.onH hb37 rfl rfl (.move rfl rfl (.onH hb37 rfl rfl ?_))))))))
   refine .idx rfl Try.underlying27 Try.sizeOf42 (h8.mono (Fz.t l_11 (Fz.t l_14 (Fz.t l_20 (Fz.t l_26 l_33))))) rfl rfl (fun x38 b39 o40 T41 fr42 cs43 e44 hm45 hv46 => ?_)
   obtain ⟨p48, k49, hv46, h50⟩ := hv46
   refine .onH hb37 rfl rfl (.fieldAddr rfl Try.underlying42 rfl Try.sizeOf28 rfl (.onH hb37 rfl rfl (.loadF rfl Try.isAgg28 rfl hm45 (cell_of_take (k := 4) hv46 rfl) (.onH hb37 rfl rfl (.lenS rfl rfl Try.underlying28 rfl (.onH hb37 rfl rfl (.eql rfl rfl rfl (.pickFH hb37 rfl rfl rfl ?_))))))))
   exact .finZ 10 rfl rfl (by kernel_rfl) Fz.r
  ·skip
   refine .offH hb51 rfl rfl rfl (.offH hb51 rfl rfl rfl (.offH hb51 rfl rfl rfl (.offH hb51 rfl rfl rfl (.offH hb51 rfl rfl rfl (.offH hb51 rfl rfl rfl (.offH hb51 rfl rfl rfl (.offH hb51 rfl rfl rfl (.offH hb51 rfl rfl rfl (.pickTH hb51 rfl rfl rfl ?_)))))))))
   exact .fin 10 rfl rfl (by kernel_rfl) Fz.r
  refine .assign rfl rfl (.pend (.nil (.code ?_)))
  exact .ret0 Try.results9 (.tmp rfl (.nil)) (i := 0) rfl (Fz.t l_11 (Fz.t l_14 (Fz.t l_20 (Fz.t l_26 (Fz.t l_33 l_53))))) rfl
noncomputable def b_genuine_fraction_portion_1  (s9 : Int × Int) : Option (Ctl (Int × Int) ((Int))) :=
 if (s9.2 != 0) then ((remK s9.1 s9.2).bind fun q13 => some (.next (s9.2, q13))) else (some (.done s9.1))
noncomputable def m_genuine_fraction_portion (x1 : GenuineFraction) : Option ApiPortion :=
 bindv (imax x1.a (w64 (0 - x1.a))) fun r_7 => (loopM b_genuine_fraction_portion_1 (x1.b, r_7)).bind fun b15 => (quoK .i64 x1.a b15).bind fun q18 => (quoK .i64 x1.b b15).bind fun q20 => some (ApiPortion.mk q18 q20)
theorem c_genuine_fraction_portion (F0 : Fz) (x1 : GenuineFraction) : CT0 Try.prog 27 [(eGenuineFraction x1)].toArray F0 (m_genuine_fraction_portion x1) (fun r _ v => v = (eApiPortion r)) := by
 refine CT0.enter Try.func27 rfl Try.ntmps27 rfl fun r R => ?_
 unfold m_genuine_fraction_portion
 refine .seq (.region (.boxF (cs := (cGenuineFraction x1)) rfl rfl rfl (fun b2 F_3 l_4 hb5 => ?_)))
 refine .alloc (cs := (cApiPortion (ApiPortion.mk 0 0))) rfl Try.zeroValue52 rfl (fun b6 => ?_)
 refine .nil (.code (.seq (.keep (.cons (k := 1) rfl (.cons (k := 2) rfl (.nil _))) (.drawZ 10 mixedOK (by kernel_rfl) (.fieldAddr rfl Try.underlying77 rfl Try.sizeOf3 rfl (.loadF rfl Try.isAgg3 rfl hb5 rfl (.fieldAddr rfl Try.underlying77 rfl Try.sizeOf3 rfl (.loadF rfl Try.isAgg3 rfl hb5 rfl (.fieldAddr rfl Try.underlying77 rfl Try.sizeOf3 rfl (.loadF rfl Try.isAgg3 rfl hb5 rfl (.neg rfl rfl ?_)))))))))))
 refine .max2 rfl rfl rfl (.assign rfl rfl (.assignL rfl rfl (fun r_7 e8 => ?_)))
 refine .pend (.nil (.code (.seq (.block (.keep (.cons (k := 1) rfl (.cons (k := 2) rfl (.cons (k := 3) rfl (.cons (k := 4) rfl (.nil _))))) ?_)))))
 refine .loop (fun (s9 : Int × Int) a w => ∃ (F_10 : Fz), F_3 ≤ F_10 ∧ Hd 28 [] [(1, (.pointer (some ⟨b2, 0, none⟩))), (2, (.pointer (some ⟨b6, 0, none⟩))), (3, (.int .i64 s9.1)), (4, (.int .i64 s9.2))] F_10 [pt b6 (.cells (cApiPortion (ApiPortion.mk 0 0)).toArray 52), R] a w) (fun b15 e a w => e = .exit 0 ∧ ∃ (F_16 : Fz), F_3 ≤ F_16 ∧ Hd 28 [] [(1, (.pointer (some ⟨b2, 0, none⟩))), (2, (.pointer (some ⟨b6, 0, none⟩))), (3, (.int .i64 b15))] F_16 [pt b6 (.cells (cApiPortion (ApiPortion.mk 0 0)).toArray 52), R] a w) ?_ ?_ ?_
 ·exact fun a w h => ⟨F_3, Fz.r, h.1.sub (.cons (k := 1) rfl (.cons (k := 2) rfl (.cons (k := 3) rfl (.cons (k := 4) rfl (.nil _))))), h.2⟩
 ·intro s9 ctl
  refine GC.ex (fun a w ⟨F_10, l_11, hA⟩ => ⟨_, hA, ?_⟩)
  unfold b_genuine_fraction_portion_1
  refine .seq (.seq (.region (.move rfl rfl (.neq rfl rfl rfl (.nil (.code (.cond rfl (fun hb12 => ?_) (fun hb12 => ?_))))))))
  ·skip
   refine .skip (.code (.block (.keep (.cons (k := 1) rfl (.cons (k := 2) rfl (.cons (k := 3) rfl (.cons (k := 4) rfl (.nil _))))) (.drawW 6 mixedOK (by kernel_rfl) (.move rfl rfl (.move rfl rfl (.move rfl rfl (.rem rfl rfl rfl (fun q13 e14 => ?_)))))))))
   refine .assign rfl rfl (.assign rfl rfl (.pend (.nil (.block ?_))))
   exact .nil (LPost.norm fun a w h => ⟨F_10, l_11, h.1.sub (.cons (k := 1) rfl (.cons (k := 2) rfl (.cons (k := 3) rfl (.cons (k := 4) rfl (.nil _))))), h.2⟩)
  ·skip
   refine .exitOut rfl (LPost.exit fun a w h => ⟨rfl, F_10, l_11, h.1.sub (.cons (k := 1) rfl (.cons (k := 2) rfl (.cons (k := 3) rfl (.nil _)))), h.2⟩)
 ·intro b15 hb0 hk e a w hD
  obtain ⟨rfl, F_16, l_17, hA⟩ := hD
  refine interp_exit rfl (GE.app ?_ hk a w hA)
  refine .code (.seq (.keep (.cons (k := 1) rfl (.cons (k := 2) rfl (.cons (k := 3) rfl (.nil _)))) (.drawZ 9 mixedOK (by kernel_rfl) (.fieldAddr rfl Try.underlying77 rfl Try.sizeOf3 rfl (.loadF rfl Try.isAgg3 rfl (l_17.mem _ _ hb5) rfl (.move rfl rfl (.quo rfl rfl rfl (fun q18 e19 => ?_))))))))
  refine .fieldAddr rfl Try.underlying77 rfl Try.sizeOf3 rfl (.loadF rfl Try.isAgg3 rfl (l_17.mem _ _ hb5) rfl (.move rfl rfl (.quo rfl rfl rfl (fun q20 e21 => ?_))))
  refine .build (cs := (cApiPortion (ApiPortion.mk q18 q20)).toArray) rfl Try.underlying52 Try.zeroValue52 (plApiPortion _ Try.underlying52) rfl rfl (by kernel_rfl) (.pend (.store (cs' := (cApiPortion (ApiPortion.mk q18 q20))) Try.sizeOf52 rfl rfl rfl rfl (i := 0) rfl (Nat.le_of_ble_eq_true rfl) rfl (setMany_all (by rfl)) (.nil (.code ?_))))
  exact .ret0 Try.results27 (.agg rfl Try.isAgg52 Try.sizeOf52 (i := 0) rfl (vs' := (cApiPortion (ApiPortion.mk q18 q20))) (by kernel_rfl) rfl (.nil)) (i := 1) rfl (Fz.t l_4 l_17) rfl
noncomputable def m_genuine_Share (b1 : ApiSuspect) (l_5 : (List ApiSource)) (first_9 : Int) (second10 : Int) : Option (ApiPortion × ApiPortion × Int) :=
 (m_genuine_areValid b1 l_5).bind fun r_19 => if (!r_19) then (some ((ApiPortion.mk 0 0), (ApiPortion.mk 0 0), 1)) else (if ((!(m_genuine_within first_9 0 (w64 ((l_5.length : Int) - 1)))) || (!(m_genuine_within second10 0 (w64 ((l_5.length : Int) - 1))))) then (some ((ApiPortion.mk 0 0), (ApiPortion.mk 0 0), 2)) else ((idxL l_5 first_9).bind fun x62 => (idxL l_5 second10).bind fun x75 => (m_genuine_shared b1 x62 x75).bind fun r_90 => if r_90.none then (some ((ApiPortion.mk 0 0), (ApiPortion.mk 0 0), 4)) else ((m_genuine_fraction_portion r_90.least).bind fun r_137 => (m_genuine_fraction_portion r_90.most).bind fun r_155 => some (r_137, r_155, 0))))
theorem c_genuine_Share (F0 : Fz) (b1 : ApiSuspect) (p2 : Option Addr) (k3 : Nat) (h4 : RepSl 2 (Ex cApiSpan) F0 p2 k3 b1.Seen) (l_5 : (List ApiSource)) (p6 : Option Addr) (k7 : Nat) (h8 : RepSl 5 rApiSource F0 p6 k7 l_5) (first_9 : Int) (second10 : Int) : CT0 Try.prog 11 [(eApiSuspect b1 p2 k3), (.slice p6 l_5.length k7), (.int .i64 first_9), (.int .i64 second10)].toArray F0 (m_genuine_Share b1 l_5 first_9 second10) (fun r _ v => v = .tuple #[(eApiPortion r.1), (eApiPortion r.2.1), (.int .i64 r.2.2)]) := by
 refine CT0.enter Try.func11 rfl Try.ntmps11 rfl fun r R => ?_
 unfold m_genuine_Share
 refine .seq (.region (.boxF (cs := (cApiSuspect b1 p2 k3)) rfl rfl rfl (fun b11 F_12 l_13 hb14 => ?_)))
 refine .alloc (cs := (cApiPortion (ApiPortion.mk 0 0))) rfl Try.zeroValue52 rfl (fun b15 => ?_)
 refine .alloc (cs := (cApiPortion (ApiPortion.mk 0 0))) rfl Try.zeroValue52 rfl (fun b16 => ?_)
 refine .assign rfl rfl (.nil (.code (.seq (.block (.seq (.region (.loadFA rfl Try.isAgg44 Try.sizeOf44 rfl hb14 (vs := (cApiSuspect b1 p2 k3)) (by kernel_rfl) rfl (.move rfl rfl (.call0 rfl Try.call23 rfl rfl rfl (c_genuine_areValid _ b1 p2 k3 (h4.mono l_13) l_5 p6 k7 (h8.mono l_13)) ?_)))))))))
 rintro r_19 F_17 _ - l_18 rfl
 refine .not rfl rfl (.assign rfl rfl (.nil (.code (.cond rfl (fun hb20 => ?_) (fun hb20 => ?_)))))
 ·skip
  refine .seq (.keep (.cons (k := 8) rfl (.cons (k := 9) rfl (.nil _))) ?_)
  refine .drawG 3 0 (fun env28 => [((eApiPortion (ApiPortion.mk 0 0)), fun _ => True), ((eApiPortion (ApiPortion.mk 0 0)), fun _ => True), (undef, fun _ => True)]) (fun L env28 => [pt b16 (.cells (cApiPortion (ApiPortion.mk 0 0)).toArray 52), (bif L 2 then (pt b15 (.cells (cApiPortion (ApiPortion.mk 0 0)).toArray 52)) else (pt b15 (.cells (cApiPortion (ApiPortion.mk 0 0)).toArray 52))), R]) mixedOK (by kernel_rfl) (by kernel_rfl) rfl (fun _ => rfl) (by kernel_rfl) (fun _ => rfl) ?_ (fun env28 F_29 l_30 hphi => ?_)
  ·skip
   refine .cons (fun L env28 F_31 l_32 hL hdn hup hphi => ⟨[(8, (.pointer (some ⟨b15, 0, none⟩)))], fun S hS hV => (.cons (hS _ _ rfl) (Sub.nil _)), ?_⟩) ?_
   ·skip
    refine .loadOA rfl Try.isAgg52 Try.sizeOf52 rfl (i := 1) (congrArg some (condF (hup 1 2 rfl))) (vs := (cApiPortion (ApiPortion.mk 0 0))) (by kernel_rfl) rfl ?_
    exact .finV rfl rfl Fz.r
   refine .cons (fun L env28 F_33 l_34 hL hdn hup hphi => ⟨[(9, (.pointer (some ⟨b16, 0, none⟩)))], fun S hS hV => (.cons (hS _ _ rfl) (Sub.nil _)), ?_⟩) ?_
   ·skip
    refine .loadOA rfl Try.isAgg52 Try.sizeOf52 rfl (i := 0) rfl (vs := (cApiPortion (ApiPortion.mk 0 0))) (by kernel_rfl) rfl ?_
    exact .finV rfl rfl Fz.r
   refine .cons (fun L env28 F_35 l_36 hL hdn hup hphi => ⟨[(8, (.pointer (some ⟨b15, 0, none⟩))), (17, (eApiPortion (ApiPortion.mk 0 0)))], fun S hS hV => (.cons (hS _ _ rfl) (.cons (hV 0 17 _ (hdn 1 0 rfl) rfl rfl) (Sub.nil _))), ?_⟩) ?_
   ·skip
    refine .store (cs' := (cApiPortion (ApiPortion.mk 0 0))) Try.sizeOf52 rfl rfl rfl rfl (i := 1) (congrArg some (condF hL)) (Nat.le_of_ble_eq_true rfl) rfl (setMany_all (by rfl)) ?_
    exact .finS rfl Fz.r (setC 1 (condT rfl))
   exact .nil
  refine .norm (S' := [(8, (.pointer (some ⟨b15, 0, none⟩))), (9, (.pointer (some ⟨b16, 0, none⟩))), (17, (eApiPortion (ApiPortion.mk 0 0))), (18, (eApiPortion (ApiPortion.mk 0 0)))]) (.cons (k := 8) rfl (.cons (k := 9) rfl (.cons (k := 17) rfl (.cons (k := 18) rfl (.nil _))))) (rfl : _ = [pt b16 (.cells (cApiPortion (ApiPortion.mk 0 0)).toArray 52), pt b15 (.cells (cApiPortion (ApiPortion.mk 0 0)).toArray 52), R]) ?_
  refine .store (cs' := (cApiPortion (ApiPortion.mk 0 0))) Try.sizeOf52 rfl rfl rfl rfl (i := 0) rfl (Nat.le_of_ble_eq_true rfl) rfl (setMany_all (by rfl)) (.assign rfl rfl (.nil (.code ?_)))
  exact .ret0 Try.results11 (.agg rfl Try.isAgg52 Try.sizeOf52 (i := 1) rfl (vs' := (cApiPortion (ApiPortion.mk 0 0))) (by kernel_rfl) rfl (.agg rfl Try.isAgg52 Try.sizeOf52 (i := 0) rfl (vs' := (cApiPortion (ApiPortion.mk 0 0))) (by kernel_rfl) rfl (.tmp rfl (.nil)))) (i := 2) rfl (Fz.t l_13 (Fz.t l_18 l_30)) rfl
 ·skip
  refine .seq (.region (.move rfl rfl (.move rfl rfl (.lenS rfl rfl Try.underlying27 rfl (.sub rfl rfl rfl (.callP rfl Try.call26 rfl rfl rfl (c_genuine_within _ first_9 0 (w64 ((l_5.length : Int) - 1))) ?_))))))
  rintro F_37 _ l_38 rfl
  refine .not rfl rfl (.move rfl rfl (.orP (b := (!(m_genuine_within first_9 0 (w64 ((l_5.length : Int) - 1))))) (b' := (!(m_genuine_within second10 0 (w64 ((l_5.length : Int) - 1))))) 7 33 (fun hb39 => ?_) (fun hb42 => ?_) (fun F_43 l_44 => ?_)))
  ·skip
   refine .onH hb39 rfl rfl (.move rfl rfl (.onH hb39 rfl rfl (.move rfl rfl (.onH hb39 rfl rfl (.lenS rfl rfl Try.underlying27 rfl (.onH hb39 rfl rfl (.sub rfl rfl rfl (.onH hb39 rfl rfl (.callP rfl Try.call26 rfl rfl rfl (c_genuine_within _ second10 0 (w64 ((l_5.length : Int) - 1))) ?_)))))))))
   rintro F_40 _ l_41 rfl
   refine .onH hb39 rfl rfl (.not rfl rfl (.pickFH hb39 rfl rfl rfl ?_))
   exact .fin 7 rfl rfl (by kernel_rfl) l_41
  ·skip
   refine .offH hb42 rfl rfl rfl (.offH hb42 rfl rfl rfl (.offH hb42 rfl rfl rfl (.offH hb42 rfl rfl rfl (.offH hb42 rfl rfl rfl (.offH hb42 rfl rfl rfl (.pickTH hb42 rfl rfl rfl ?_))))))
   exact .fin 7 rfl rfl (by kernel_rfl) Fz.r
  refine .assign rfl rfl (.nil (.code (.cond rfl (fun hb45 => ?_) (fun hb45 => ?_))))
  ·skip
   refine .seq (.keep (.cons (k := 8) rfl (.cons (k := 9) rfl (.nil _))) ?_)
   refine .drawG 3 0 (fun env53 => [((eApiPortion (ApiPortion.mk 0 0)), fun _ => True), ((eApiPortion (ApiPortion.mk 0 0)), fun _ => True), (undef, fun _ => True)]) (fun L env53 => [pt b16 (.cells (cApiPortion (ApiPortion.mk 0 0)).toArray 52), (bif L 2 then (pt b15 (.cells (cApiPortion (ApiPortion.mk 0 0)).toArray 52)) else (pt b15 (.cells (cApiPortion (ApiPortion.mk 0 0)).toArray 52))), R]) mixedOK (by kernel_rfl) (by kernel_rfl) rfl (fun _ => rfl) (by kernel_rfl) (fun _ => rfl) ?_ (fun env53 F_54 l_55 hphi => ?_)
   ·skip
    refine .cons (fun L env53 F_56 l_57 hL hdn hup hphi => ⟨[(8, (.pointer (some ⟨b15, 0, none⟩)))], fun S hS hV => (.cons (hS _ _ rfl) (Sub.nil _)), ?_⟩) ?_
    ·skip
     refine .loadOA rfl Try.isAgg52 Try.sizeOf52 rfl (i := 1) (congrArg some (condF (hup 1 2 rfl))) (vs := (cApiPortion (ApiPortion.mk 0 0))) (by kernel_rfl) rfl ?_
     exact .finV rfl rfl Fz.r
    refine .cons (fun L env53 F_58 l_59 hL hdn hup hphi => ⟨[(9, (.pointer (some ⟨b16, 0, none⟩)))], fun S hS hV => (.cons (hS _ _ rfl) (Sub.nil _)), ?_⟩) ?_
    ·skip
     refine .loadOA rfl Try.isAgg52 Try.sizeOf52 rfl (i := 0) rfl (vs := (cApiPortion (ApiPortion.mk 0 0))) (by kernel_rfl) rfl ?_
     exact .finV rfl rfl Fz.r
    refine .cons (fun L env53 F_60 l_61 hL hdn hup hphi => ⟨[(8, (.pointer (some ⟨b15, 0, none⟩))), (34, (eApiPortion (ApiPortion.mk 0 0)))], fun S hS hV => (.cons (hS _ _ rfl) (.cons (hV 0 34 _ (hdn 1 0 rfl) rfl rfl) (Sub.nil _))), ?_⟩) ?_
    ·skip
     refine .store (cs' := (cApiPortion (ApiPortion.mk 0 0))) Try.sizeOf52 rfl rfl rfl rfl (i := 1) (congrArg some (condF hL)) (Nat.le_of_ble_eq_true rfl) rfl (setMany_all (by rfl)) ?_
     exact .finS rfl Fz.r (setC 1 (condT rfl))
    exact .nil
   refine .norm (S' := [(8, (.pointer (some ⟨b15, 0, none⟩))), (9, (.pointer (some ⟨b16, 0, none⟩))), (34, (eApiPortion (ApiPortion.mk 0 0))), (35, (eApiPortion (ApiPortion.mk 0 0)))]) (.cons (k := 8) rfl (.cons (k := 9) rfl (.cons (k := 34) rfl (.cons (k := 35) rfl (.nil _))))) (rfl : _ = [pt b16 (.cells (cApiPortion (ApiPortion.mk 0 0)).toArray 52), pt b15 (.cells (cApiPortion (ApiPortion.mk 0 0)).toArray 52), R]) ?_
   refine .store (cs' := (cApiPortion (ApiPortion.mk 0 0))) Try.sizeOf52 rfl rfl rfl rfl (i := 0) rfl (Nat.le_of_ble_eq_true rfl) rfl (setMany_all (by rfl)) (.assign rfl rfl (.nil (.code ?_)))
   exact .ret0 Try.results11 (.agg rfl Try.isAgg52 Try.sizeOf52 (i := 1) rfl (vs' := (cApiPortion (ApiPortion.mk 0 0))) (by kernel_rfl) rfl (.agg rfl Try.isAgg52 Try.sizeOf52 (i := 0) rfl (vs' := (cApiPortion (ApiPortion.mk 0 0))) (by kernel_rfl) rfl (.tmp rfl (.nil)))) (i := 2) rfl (Fz.t l_13 (Fz.t l_18 (Fz.t l_38 (Fz.t l_44 l_55)))) rfl
  ·skip
   refine .skip (.block (.code (.seq (.keep (.cons (k := 1) rfl (.cons (k := 2) rfl (.cons (k := 3) rfl (.cons (k := 4) rfl (.cons (k := 8) rfl (.cons (k := 9) rfl (.nil _))))))) (.bind (fun x62 e68 => ?_))))))
   obtain ⟨b63, o64, T65, fr66, cs67, hm69, hv70, hq71⟩ := RepSl.idxE (h8.mono (Fz.t l_13 (Fz.t l_18 (Fz.t l_38 l_44)))) e68
   obtain ⟨p72, k73, hv70, h74⟩ := hv70
   refine .bind (fun x75 e81 => ?_)
   obtain ⟨b76, o77, T78, fr79, cs80, hm82, hv83, hq84⟩ := RepSl.idxE (h8.mono (Fz.t l_13 (Fz.t l_18 (Fz.t l_38 l_44)))) e81
   obtain ⟨p85, k86, hv83, h87⟩ := hv83
   refine .bind (fun r_90 hx91 => ?_)
   refine .draw ⟨10, 11, (cGenuineShares (GenuineShares.mk (GenuineFraction.mk 0 0) (GenuineFraction.mk 0 0) false)), 79⟩ [(36, (eApiSuspect b1 p2 k3)), (37, (.slice p6 l_5.length k7)), (38, (.int .i64 first_9)), (39, (.pointer (some ⟨b63, o64, none⟩))), (40, (eApiSource x62 p72 k73)), (41, (.slice p6 l_5.length k7)), (42, (.int .i64 second10)), (43, (.pointer (some ⟨b76, o77, none⟩))), (44, (eApiSource x75 p85 k86)), (45, (eGenuineShares r_90)), (11, undef)] mixedOK (by kernel_rfl) (by kernel_rfl) rfl (by kernel_rfl) ?_ (fun F_93 b92 l_94 => ?_)
   ·skip
    refine .cons (.mk 36 (eApiSuspect b1 p2 k3) [(4, (.pointer (some ⟨b11, 0, none⟩)))] rfl rfl rfl rfl (fun S hS hd => (.cons (hS _ _ rfl) (Sub.nil _))) (fun F_95 X l_96 => ?_)) ?_
    ·skip
     refine .loadFA rfl Try.isAgg44 Try.sizeOf44 rfl ((Fz.t l_18 (Fz.t l_38 (Fz.t l_44 l_96))).mem _ _ hb14) (vs := (cApiSuspect b1 p2 k3)) (by kernel_rfl) rfl ?_
     exact .fin1 Fz.r
    refine .cons (.mk 37 (.slice p6 l_5.length k7) [(1, (.slice p6 l_5.length k7))] rfl rfl rfl rfl (fun S hS hd => (.cons (hS _ _ rfl) (Sub.nil _))) (fun F_97 X l_98 => ?_)) ?_
    ·skip
     refine .move rfl rfl ?_
     exact .fin1 Fz.r
    refine .cons (.mk 38 (.int .i64 first_9) [(2, (.int .i64 first_9))] rfl rfl rfl rfl (fun S hS hd => (.cons (hS _ _ rfl) (Sub.nil _))) (fun F_99 X l_100 => ?_)) ?_
    ·skip
     refine .move rfl rfl ?_
     exact .fin1 Fz.r
    refine .cons (.mk 39 (.pointer (some ⟨b63, o64, none⟩)) [(37, (.slice p6 l_5.length k7)), (38, (.int .i64 first_9))] rfl rfl rfl rfl (fun S hS hd => (.cons (hd.1 rfl rfl _ _ rfl) (.cons (hd.2.1 rfl rfl _ _ rfl) (Sub.nil _)))) (fun F_101 X l_102 => ?_)) ?_
    ·skip
     refine .idxQ rfl Try.underlying27 Try.sizeOf42 hq71 rfl rfl ?_
     exact .fin1 Fz.r
    refine .cons (.mk 40 (eApiSource x62 p72 k73) [(39, (.pointer (some ⟨b63, o64, none⟩)))] rfl rfl rfl rfl (fun S hS hd => (.cons (hd.1 rfl rfl _ _ rfl) (Sub.nil _))) (fun F_103 X l_104 => ?_)) ?_
    ·skip
     refine .loadFA rfl Try.isAgg42 Try.sizeOf42 rfl (l_104.mem _ _ hm69) hv70 rfl ?_
     exact .fin1 Fz.r
    refine .cons (.mk 41 (.slice p6 l_5.length k7) [(1, (.slice p6 l_5.length k7))] rfl rfl rfl rfl (fun S hS hd => (.cons (hS _ _ rfl) (Sub.nil _))) (fun F_105 X l_106 => ?_)) ?_
    ·skip
     refine .move rfl rfl ?_
     exact .fin1 Fz.r
    refine .cons (.mk 42 (.int .i64 second10) [(3, (.int .i64 second10))] rfl rfl rfl rfl (fun S hS hd => (.cons (hS _ _ rfl) (Sub.nil _))) (fun F_107 X l_108 => ?_)) ?_
    ·skip
     refine .move rfl rfl ?_
     exact .fin1 Fz.r
    refine .cons (.mk 43 (.pointer (some ⟨b76, o77, none⟩)) [(41, (.slice p6 l_5.length k7)), (42, (.int .i64 second10))] rfl rfl rfl rfl (fun S hS hd => (.cons (hd.1 rfl rfl _ _ rfl) (.cons (hd.2.1 rfl rfl _ _ rfl) (Sub.nil _)))) (fun F_109 X l_110 => ?_)) ?_
    ·skip
     refine .idxQ rfl Try.underlying27 Try.sizeOf42 hq84 rfl rfl ?_
     exact .fin1 Fz.r
    refine .cons (.mk 44 (eApiSource x75 p85 k86) [(43, (.pointer (some ⟨b76, o77, none⟩)))] rfl rfl rfl rfl (fun S hS hd => (.cons (hd.1 rfl rfl _ _ rfl) (Sub.nil _))) (fun F_111 X l_112 => ?_)) ?_
    ·skip
     refine .loadFA rfl Try.isAgg42 Try.sizeOf42 rfl (l_112.mem _ _ hm82) hv83 rfl ?_
     exact .fin1 Fz.r
    refine .cons (.mk 45 (eGenuineShares r_90) [(36, (eApiSuspect b1 p2 k3)), (40, (eApiSource x62 p72 k73)), (44, (eApiSource x75 p85 k86))] rfl rfl rfl rfl (fun S hS hd => (.cons (hd.1 rfl rfl _ _ rfl) (.cons (hd.2.1 rfl rfl _ _ rfl) (.cons (hd.2.2.1 rfl rfl _ _ rfl) (Sub.nil _))))) (fun F_113 X l_114 => ?_)) ?_
    ·skip
     refine .callK hx91 rfl Try.call25 rfl rfl rfl (c_genuine_shared _ b1 p2 k3 (h4.mono (Fz.t l_13 (Fz.t l_18 (Fz.t l_38 (Fz.t l_44 l_114))))) x62 p72 k73 (h74.mono l_114) x75 p85 k86 (h87.mono l_114)) ?_
     rintro F_115 _ l_116 rfl
     exact .fin1 l_116
    refine .cons (.new rfl rfl rfl Try.zeroValue79 rfl rfl) ?_
    exact .nil
   refine .store (cs' := (cGenuineShares r_90)) Try.sizeOf79 rfl rfl rfl rfl (i := 3) rfl (Nat.le_of_ble_eq_true rfl) rfl (setMany_all (by rfl)) (.nil (.code (.seq (.seq (.region (.fieldAddr rfl Try.underlying79 rfl Try.sizeOf4 rfl (.loadO rfl Try.isAgg4 rfl (i := 3) rfl rfl (.nil (.code (.cond rfl (fun hb117 => ?_) (fun hb117 => ?_)))))))))))
   ·skip
    refine .seq (.keep (.cons (k := 8) rfl (.cons (k := 9) rfl (.nil _))) ?_)
    refine .drawG 3 0 (fun env125 => [((eApiPortion (ApiPortion.mk 0 0)), fun _ => True), ((eApiPortion (ApiPortion.mk 0 0)), fun _ => True), (undef, fun _ => True)]) (fun L env125 => [pt b16 (.cells (cApiPortion (ApiPortion.mk 0 0)).toArray 52), (bif L 2 then (pt b15 (.cells (cApiPortion (ApiPortion.mk 0 0)).toArray 52)) else (pt b15 (.cells (cApiPortion (ApiPortion.mk 0 0)).toArray 52))), R, pt b92 (.cells (cGenuineShares r_90).toArray 79)]) mixedOK (by kernel_rfl) (by kernel_rfl) rfl (fun _ => rfl) (by kernel_rfl) (fun _ => rfl) ?_ (fun env125 F_126 l_127 hphi => ?_)
    ·skip
     refine .cons (fun L env125 F_128 l_129 hL hdn hup hphi => ⟨[(8, (.pointer (some ⟨b15, 0, none⟩)))], fun S hS hV => (.cons (hS _ _ rfl) (Sub.nil _)), ?_⟩) ?_
     ·skip
      refine .loadOA rfl Try.isAgg52 Try.sizeOf52 rfl (i := 1) (congrArg some (condF (hup 1 2 rfl))) (vs := (cApiPortion (ApiPortion.mk 0 0))) (by kernel_rfl) rfl ?_
      exact .finV rfl rfl Fz.r
     refine .cons (fun L env125 F_130 l_131 hL hdn hup hphi => ⟨[(9, (.pointer (some ⟨b16, 0, none⟩)))], fun S hS hV => (.cons (hS _ _ rfl) (Sub.nil _)), ?_⟩) ?_
     ·skip
      refine .loadOA rfl Try.isAgg52 Try.sizeOf52 rfl (i := 0) rfl (vs := (cApiPortion (ApiPortion.mk 0 0))) (by kernel_rfl) rfl ?_
      exact .finV rfl rfl Fz.r
     refine .cons (fun L env125 F_132 l_133 hL hdn hup hphi => ⟨[(8, (.pointer (some ⟨b15, 0, none⟩))), (48, (eApiPortion (ApiPortion.mk 0 0)))], fun S hS hV => (.cons (hS _ _ rfl) (.cons (hV 0 48 _ (hdn 1 0 rfl) rfl rfl) (Sub.nil _))), ?_⟩) ?_
     ·skip
      refine .store (cs' := (cApiPortion (ApiPortion.mk 0 0))) Try.sizeOf52 rfl rfl rfl rfl (i := 1) (congrArg some (condF hL)) (Nat.le_of_ble_eq_true rfl) rfl (setMany_all (by rfl)) ?_
      exact .finS rfl Fz.r (setC 1 (condT rfl))
     exact .nil
    refine .norm (S' := [(8, (.pointer (some ⟨b15, 0, none⟩))), (9, (.pointer (some ⟨b16, 0, none⟩))), (48, (eApiPortion (ApiPortion.mk 0 0))), (49, (eApiPortion (ApiPortion.mk 0 0)))]) (.cons (k := 8) rfl (.cons (k := 9) rfl (.cons (k := 48) rfl (.cons (k := 49) rfl (.nil _))))) (rfl : _ = [pt b16 (.cells (cApiPortion (ApiPortion.mk 0 0)).toArray 52), pt b15 (.cells (cApiPortion (ApiPortion.mk 0 0)).toArray 52), R, pt b92 (.cells (cGenuineShares r_90).toArray 79)]) ?_
    refine .store (cs' := (cApiPortion (ApiPortion.mk 0 0))) Try.sizeOf52 rfl rfl rfl rfl (i := 0) rfl (Nat.le_of_ble_eq_true rfl) rfl (setMany_all (by rfl)) (.assign rfl rfl (.nil (.code ?_)))
    exact .ret0 Try.results11 (.agg rfl Try.isAgg52 Try.sizeOf52 (i := 1) rfl (vs' := (cApiPortion (ApiPortion.mk 0 0))) (by kernel_rfl) rfl (.agg rfl Try.isAgg52 Try.sizeOf52 (i := 0) rfl (vs' := (cApiPortion (ApiPortion.mk 0 0))) (by kernel_rfl) rfl (.tmp rfl (.nil)))) (i := 2) rfl (Fz.t l_13 (Fz.t l_18 (Fz.t l_38 (Fz.t l_44 (Fz.t l_94 l_127))))) rfl
   ·skip
    refine .skip (.code (.seq (.keep (.cons (k := 8) rfl (.cons (k := 9) rfl (.cons (k := 11) rfl (.nil _)))) (.bind (fun r_137 hx138 => ?_)))))
    refine .drawGD 5 0 (fun env134 => [((.pointer (some ⟨b92, 0 + 0, none⟩)), fun _ => True), ((eGenuineFraction r_90.least), fun _ => True), ((eApiPortion r_137), fun _ => True), ((.pointer (some ⟨b92, 0 + 2, none⟩)), fun _ => True), ((eGenuineFraction r_90.most), fun _ => True)]) (fun L env134 => [pt b16 (.cells (cApiPortion (ApiPortion.mk 0 0)).toArray 52), pt b15 (.cells (cApiPortion (ApiPortion.mk 0 0)).toArray 52), R, pt b92 (.cells (cGenuineShares r_90).toArray 79)]) mixedOK (by kernel_rfl) (deepN (k := 5) (n := 9) rfl (allLt9 (p := fun t => 5 ≤ t → ∀ j, j < t → ∃ s, depB _ s t j = true) (fun h => absurd h (by decide)) (fun h => absurd h (by decide)) (fun h => absurd h (by decide)) (fun h => absurd h (by decide)) (fun h => absurd h (by decide)) (fun _ => allLt5 (p := fun j => ∃ s, depB _ s 5 j = true) ⟨3, rfl⟩ ⟨2, rfl⟩ ⟨1, rfl⟩ ⟨2, rfl⟩ ⟨1, rfl⟩) (fun _ => allLt6 (p := fun j => ∃ s, depB _ s 6 j = true) ⟨1, rfl⟩ ⟨1, rfl⟩ ⟨1, rfl⟩ ⟨3, rfl⟩ ⟨2, rfl⟩ ⟨1, rfl⟩) (fun _ => allLt7 (p := fun j => ∃ s, depB _ s 7 j = true) ⟨1, rfl⟩ ⟨1, rfl⟩ ⟨1, rfl⟩ ⟨1, rfl⟩ ⟨1, rfl⟩ ⟨1, rfl⟩ ⟨1, rfl⟩) (fun _ => allLt8 (p := fun j => ∃ s, depB _ s 8 j = true) ⟨1, rfl⟩ ⟨1, rfl⟩ ⟨1, rfl⟩ ⟨1, rfl⟩ ⟨1, rfl⟩ ⟨1, rfl⟩ ⟨1, rfl⟩ ⟨1, rfl⟩))) rfl (fun _ => rfl) (by kernel_rfl) (fun _ => rfl) ?_ (fun env134 F_139 l_140 hphi => ?_)
    ·skip
     refine .cons (fun L env134 F_141 l_142 hL hdn hup hphi => ⟨[(11, (.pointer (some ⟨b92, 0, none⟩)))], fun S hS hV => (.cons (hS _ _ rfl) (Sub.nil _)), ?_⟩) ?_
     ·skip
      refine .fieldAddr rfl Try.underlying79 rfl Try.sizeOf77 rfl ?_
      exact .finV rfl rfl Fz.r
     refine .cons (fun L env134 F_143 l_144 hL hdn hup hphi => ⟨[(50, (.pointer (some ⟨b92, 0 + 0, none⟩)))], fun S hS hV => (.cons (hV 0 50 _ (hdn 1 0 rfl) rfl rfl) (Sub.nil _)), ?_⟩) ?_
     ·skip
      refine .loadOA rfl Try.isAgg77 Try.sizeOf77 rfl (i := 3) rfl (vs := (cGenuineFraction r_90.least)) (by kernel_rfl) rfl ?_
      exact .finV rfl rfl Fz.r
     refine .cons (fun L env134 F_145 l_146 hL hdn hup hphi => ⟨[(51, (eGenuineFraction r_90.least))], fun S hS hV => (.cons (hV 1 51 _ (hdn 1 1 rfl) rfl rfl) (Sub.nil _)), ?_⟩) ?_
     ·skip
      refine .callK hx138 rfl Try.call27 rfl rfl rfl (c_genuine_fraction_portion _ r_90.least) ?_
      rintro F_147 _ l_148 rfl
      exact .finV rfl rfl l_148
     refine .cons (fun L env134 F_149 l_150 hL hdn hup hphi => ⟨[(11, (.pointer (some ⟨b92, 0, none⟩)))], fun S hS hV => (.cons (hS _ _ rfl) (Sub.nil _)), ?_⟩) ?_
     ·skip
      refine .fieldAddr rfl Try.underlying79 rfl Try.sizeOf77 rfl ?_
      exact .finV rfl rfl Fz.r
     refine .cons (fun L env134 F_151 l_152 hL hdn hup hphi => ⟨[(53, (.pointer (some ⟨b92, 0 + 2, none⟩)))], fun S hS hV => (.cons (hV 3 53 _ (hdn 1 3 rfl) rfl rfl) (Sub.nil _)), ?_⟩) ?_
     ·skip
      refine .loadOA rfl Try.isAgg77 Try.sizeOf77 rfl (i := 3) rfl (vs := (cGenuineFraction r_90.most)) (by kernel_rfl) rfl ?_
      exact .finV rfl rfl Fz.r
     exact .nil
    refine .norm (S' := [(8, (.pointer (some ⟨b15, 0, none⟩))), (9, (.pointer (some ⟨b16, 0, none⟩))), (11, (.pointer (some ⟨b92, 0, none⟩))), (50, (.pointer (some ⟨b92, 0 + 0, none⟩))), (51, (eGenuineFraction r_90.least)), (52, (eApiPortion r_137)), (53, (.pointer (some ⟨b92, 0 + 2, none⟩))), (54, (eGenuineFraction r_90.most))]) (.cons (k := 8) rfl (.cons (k := 9) rfl (.cons (k := 11) rfl (.cons (k := 50) rfl (.cons (k := 51) rfl (.cons (k := 52) rfl (.cons (k := 53) rfl (.cons (k := 54) rfl (.nil _))))))))) (rfl : _ = [pt b16 (.cells (cApiPortion (ApiPortion.mk 0 0)).toArray 52), pt b15 (.cells (cApiPortion (ApiPortion.mk 0 0)).toArray 52), R, pt b92 (.cells (cGenuineShares r_90).toArray 79)]) ?_
    refine .call0 rfl Try.call27 rfl rfl rfl (c_genuine_fraction_portion _ r_90.most) ?_
    rintro r_155 F_153 _ - l_154 rfl
    refine .store (cs' := (cApiPortion r_137)) Try.sizeOf52 rfl rfl rfl rfl (i := 1) rfl (Nat.le_of_ble_eq_true rfl) rfl (setMany_all (by rfl)) (.store (cs' := (cApiPortion r_155)) Try.sizeOf52 rfl rfl rfl rfl (i := 0) rfl (Nat.le_of_ble_eq_true rfl) rfl (setMany_all (by rfl)) (.assign rfl rfl (.nil (.code ?_))))
    exact .ret0 Try.results11 (.agg rfl Try.isAgg52 Try.sizeOf52 (i := 1) rfl (vs' := (cApiPortion r_137)) (by kernel_rfl) rfl (.agg rfl Try.isAgg52 Try.sizeOf52 (i := 0) rfl (vs' := (cApiPortion r_155)) (by kernel_rfl) rfl (.tmp rfl (.nil)))) (i := 2) rfl (Fz.t l_13 (Fz.t l_18 (Fz.t l_38 (Fz.t l_44 (Fz.t l_94 (Fz.t l_140 l_154)))))) rfl
noncomputable def b_wormtubtop_TopForged_1 (values9 : (List ApiSpan)) (drawn14 : Int) (x16 : ApiBatch) (n_44 : Int) (s53 : (List ApiSource) × Int × Int) : Option (Ctl ((List ApiSource) × Int × Int) (((List ApiSource) × Int))) :=
 if (decide (s53.2.2 < (x16.Draughts.length : Int))) then ((idxL x16.Draughts s53.2.2).bind fun x60 => (sliceL values9 (w64 (s53.2.2 * n_44)) (w64 ((w64 (s53.2.2 * n_44)) + n_44))).bind fun l_72 => (appO s53.1 ([(ApiSource.mk x60.From.Number drawn14 x60.Strength l_72)])).bind fun l_135 => bindv (w64 (s53.2.1 + x60.Amount)) fun total139 => bindv (w64 (s53.2.2 + 1)) fun i141 => some (.next (l_135, total139, i141))) else (some (.done (s53.1, s53.2.1)))
noncomputable def b_wormtubtop_TopForged_2 (x16 : ApiBatch) (n_44 : Int) (b143 : (List ApiSource) × Int) (last_151 : Int) (s153 : Int × ApiSuspect) : Option (Ctl (Int × ApiSuspect) ((ApiSuspect) ⊕ (Bool))) :=
 if (decide (s153.1 < n_44)) then ((idxL b143.1 0).bind fun x165 => (idxL x165.Values s153.1).bind fun x175 => (idxL b143.1 last_151).bind fun x185 => (idxL x185.Values s153.1).bind fun x195 => if ((((((decide (x175.Lo < 0)) || (decide (x175.Hi > 1048576))) || (decide (x195.Lo < 0))) || (decide (x195.Hi > 1048576))) || (decide (x175.Lo > x175.Hi))) || (decide (x195.Lo > x195.Hi))) then ((m_wormtubtop_awake13).bind fun r_268 => some (.done (.inr r_268))) else ((idxL x16.Draughts 0).bind fun x269 => (quoK .i64 (w64 ((w64 (x269.Amount * x175.Lo)) + (w64 ((w64 (b143.2 - x269.Amount)) * x195.Lo)))) b143.2).bind fun q279 => (quoK .i64 (w64 ((w64 ((w64 ((w64 (x269.Amount * x175.Hi)) + (w64 ((w64 (b143.2 - x269.Amount)) * x195.Hi)))) + b143.2)) - 1)) b143.2).bind fun q281 => (appO s153.2.Seen ([(ApiSpan.mk q279 q281)])).bind fun l_288 => bindv ({ s153.2 with Seen := l_288 }) fun x292 => bindv (w64 (s153.1 + 1)) fun q294 => some (.next (q294, x292)))) else (some (.done (.inl s153.2)))
noncomputable def b_wormtubtop_TopForged_3 (last_151 : Int) (r_342 : ((List Int) × (List (Nat → Int)) × Int)) (s385 : Int) : Option (Ctl (Int) ((Unit) ⊕ (Bool))) :=
 if (decide (s385 < (r_342.1.length : Int))) then ((idxL r_342.1 s385).bind fun x389 => if (decide (x389 ≤ last_151)) then ((m_wormtubtop_awake13).bind fun r_402 => some (.done (.inr r_402))) else (bindv (w64 (s385 + 1)) fun i403 => some (.next i403))) else (some (.done (.inl ())))
noncomputable def b_wormtubtop_TopForged_4 (last_151 : Int) (r_342 : ((List Int) × (List (Nat → Int)) × Int)) (s410 : Int) : Option (Ctl (Int) ((Unit) ⊕ (Bool))) :=
 if (decide (s410 < (r_342.2.1.length : Int))) then ((idxL r_342.2.1 s410).bind fun x414 => if (eq_55 x414 (arrOf [0, last_151] 0)) then ((m_wormtubtop_awake13).bind fun r_427 => some (.done (.inr r_427))) else (bindv (w64 (s410 + 1)) fun i428 => some (.next i428))) else (some (.done (.inl ())))
noncomputable def m_wormtubtop_TopForged (b1 : ApiBatch) (others5 : (List ApiSource)) (values9 : (List ApiSpan)) (glass13 : Int) (drawn14 : Int) : Option Bool :=
 bindv ({ b1 with Shrink := (ApiSpan.mk 0 0) }) fun x16 => (if ((((decide ((x16.Draughts.length : Int) < 1)) || (decide ((x16.Draughts.length : Int) > 2))) || (decide ((others5.length : Int) > 6))) || (decide ((values9.length : Int) > 24))) then some true else ((m_wormtubref12_Batch x16).bind fun r_34 => some (!r_34))).bind fun z38 => if z38 then ((m_wormtubtop_awake13).bind fun r_43 => some r_43) else (bindv (w64 (Int.tdiv (values9.length : Int) 2)) fun n_44 => (m_bottle_Blend x16).bind fun r_48 => if (r_48.2 != 0) then (some false) else ((loopM (b_wormtubtop_TopForged_1 values9 drawn14 x16 n_44) ([], 0, 0)).bind fun b143 => bindv (w64 ((b143.1.length : Int) - 1)) fun last_151 => (loopM (b_wormtubtop_TopForged_2 x16 n_44 b143 last_151) (0, (ApiSuspect.mk glass13 glass13 r_48.1.Strength ([])))).bind fun b0 => match b0 with | .inl b296 => ((appO b143.1 others5).bind fun l_304 => (if ((decide (glass13 < 0)) || (decide (glass13 > drawn14))) then some true else ((m_wormtubref13_Sources l_304).bind fun r_318 => some (!r_318))).bind fun z322 => (if z322 then some true else ((m_wormtubref13_Suspect b296 l_304).bind fun r_330 => some (!r_330))).bind fun z334 => if z334 then ((m_wormtubtop_awake13).bind fun r_339 => some r_339) else ((m_genuine_Origins b296 l_304).bind fun r_342 => (m_genuine_Share b296 l_304 0 last_151).bind fun r_351 => (idxL x16.Draughts 0).bind fun x354 => if ((((((r_342.2.2 != 0) || (r_351.2.2 != 0)) || (decide (r_351.1.Den < 1))) || (decide (r_351.2.1.Den < 1))) || (decide ((w64 (r_351.1.Num * b143.2)) > (w64 (x354.Amount * r_351.1.Den))))) || (decide ((w64 (r_351.2.1.Num * b143.2)) < (w64 (x354.Amount * r_351.2.1.Den))))) then (some false) else ((loopM (b_wormtubtop_TopForged_3 last_151 r_342) 0).bind fun b0 => match b0 with | .inl _b405 => ((loopM (b_wormtubtop_TopForged_4 last_151 r_342) 0).bind fun b0 => match b0 with | .inl _b430 => (some false) | .inr b430 => (some b430)) | .inr b405 => (some b405)))) | .inr b296 => (some b296)))
set_option maxHeartbeats 4000000 in
theorem c_wormtubtop_TopForged (F0 : Fz) (b1 : ApiBatch) (p2 : Option Addr) (k3 : Nat) (h4 : RepSl 27 (Ex cApiDraught) F0 p2 k3 b1.Draughts) (others5 : (List ApiSource)) (p6 : Option Addr) (k7 : Nat) (h8 : RepSl 5 rApiSource F0 p6 k7 others5) (values9 : (List ApiSpan)) (p10 : Option Addr) (k11 : Nat) (h12 : RepSl 2 (Ex cApiSpan) F0 p10 k11 values9) (glass13 : Int) (drawn14 : Int) : CT0 Try.prog 3 [(eApiBatch b1 p2 k3), (.slice p6 others5.length k7), (.slice p10 values9.length k11), (.int .i64 glass13), (.int .i64 drawn14)].toArray F0 (m_wormtubtop_TopForged b1 others5 values9 glass13 drawn14) (fun r _ v => v = (.bool r)) := by
 refine CT0.enter Try.func3 rfl Try.ntmps3 rfl fun r R => ?_
 unfold m_wormtubtop_TopForged
 refine .seq (.region (.box (cs := (cApiBatch b1 p2 k3)) rfl rfl rfl (fun b15 => ?_)))
 refine .assign rfl rfl (.nil (.code (.seq (.region (.build (cs := (cApiSpan (ApiSpan.mk 0 0)).toArray) rfl Try.underlying24 Try.zeroValue24 (plApiSpan _ Try.underlying24) rfl rfl (by kernel_rfl) (.fieldAddr rfl Try.underlying26 rfl Try.sizeOf24 rfl (.letv (fun x16 e17 => ?_))))))))
 have h18 : RepSl 27 (Ex cApiDraught) F0 p2 k3 x16.Draughts := by rw [e17]; exact h4
 refine .store (cs' := (cApiBatch x16 p2 k3)) Try.sizeOf24 rfl rfl rfl rfl (i := 0) rfl (Nat.le_of_ble_eq_true rfl) rfl (by rw [e17]; kernel_rfl) (.nil (.code (.seq (.seq (.region (.fieldAddr rfl Try.underlying26 rfl Try.sizeOf22 rfl (.loadO rfl Try.isAgg22 rfl (i := 0) rfl rfl (.lenS rfl rfl Try.underlying22 rfl (.lss rfl rfl rfl (.move rfl rfl ?_))))))))))
 refine .orP (b := (decide ((x16.Draughts.length : Int) < 1))) (b' := (decide ((x16.Draughts.length : Int) > 2))) 5 46 (fun hb19 => ?_) (fun hb20 => ?_) (fun F_21 l_22 => ?_)
 ·skip
  refine .onH hb19 rfl rfl (.fieldAddr rfl Try.underlying26 rfl Try.sizeOf22 rfl (.onH hb19 rfl rfl (.loadO rfl Try.isAgg22 rfl (i := 0) rfl rfl (.onH hb19 rfl rfl (.lenS rfl rfl Try.underlying22 rfl (.onH hb19 rfl rfl (.gtr rfl rfl rfl (.pickFH hb19 rfl rfl rfl ?_))))))))
  exact .fin 5 rfl rfl (by kernel_rfl) Fz.r
 ·skip
  refine .offH hb20 rfl rfl rfl (.offH hb20 rfl rfl rfl (.offH hb20 rfl rfl rfl (.offH hb20 rfl rfl rfl (.pickTH hb20 rfl rfl rfl ?_))))
  exact .fin 5 rfl rfl (by kernel_rfl) Fz.r
 refine .move rfl rfl (.orP (b := ((decide ((x16.Draughts.length : Int) < 1)) || (decide ((x16.Draughts.length : Int) > 2)))) (b' := (decide ((others5.length : Int) > 6))) 4 51 (fun hb23 => ?_) (fun hb24 => ?_) (fun F_25 l_26 => ?_))
 ·skip
  refine .onH hb23 rfl rfl (.move rfl rfl (.onH hb23 rfl rfl (.lenS rfl rfl Try.underlying27 rfl (.onH hb23 rfl rfl (.gtr rfl rfl rfl (.pickFH hb23 rfl rfl rfl ?_))))))
  exact .fin 4 rfl rfl (by kernel_rfl) Fz.r
 ·skip
  refine .offH hb24 rfl rfl rfl (.offH hb24 rfl rfl rfl (.offH hb24 rfl rfl rfl (.pickTH hb24 rfl rfl rfl ?_)))
  exact .fin 4 rfl rfl (by kernel_rfl) Fz.r
 refine .move rfl rfl (.orP (b := (((decide ((x16.Draughts.length : Int) < 1)) || (decide ((x16.Draughts.length : Int) > 2))) || (decide ((others5.length : Int) > 6)))) (b' := (decide ((values9.length : Int) > 24))) 4 56 (fun hb27 => ?_) (fun hb28 => ?_) (fun F_29 l_30 => ?_))
 ·skip
  refine .onH hb27 rfl rfl (.move rfl rfl (.onH hb27 rfl rfl (.lenS rfl rfl Try.underlying28 rfl (.onH hb27 rfl rfl (.gtr rfl rfl rfl (.pickFH hb27 rfl rfl rfl ?_))))))
  exact .fin 4 rfl rfl (by kernel_rfl) Fz.r
 ·skip
  refine .offH hb28 rfl rfl rfl (.offH hb28 rfl rfl rfl (.offH hb28 rfl rfl rfl (.pickTH hb28 rfl rfl rfl ?_)))
  exact .fin 4 rfl rfl (by kernel_rfl) Fz.r
 refine .move rfl rfl (.orM (b := ((((decide ((x16.Draughts.length : Int) < 1)) || (decide ((x16.Draughts.length : Int) > 2))) || (decide ((others5.length : Int) > 6))) || (decide ((values9.length : Int) > 24)))) 4 61 (fun hb31 z39 => ?_) (fun hb35 => ?_) (fun z38 F_36 l_37 => ?_))
 ·skip
  refine .onH hb31 rfl rfl (.loadOA rfl Try.isAgg26 Try.sizeOf26 rfl (i := 0) rfl (vs := (cApiBatch x16 p2 k3)) (by kernel_rfl) rfl (.onH hb31 rfl rfl (.call0 rfl Try.call5 rfl rfl rfl (c_wormtubref12_Batch _ x16 p2 k3 (h18.mono (Fz.t l_22 (Fz.t l_26 l_30)))) ?_)))
  rintro r_34 F_32 _ - l_33 rfl
  refine .onH hb31 rfl rfl (.not rfl rfl (.pickFH hb31 rfl rfl rfl ?_))
  exact .finZ 4 rfl rfl (by kernel_rfl) l_33
 ·skip
  refine .offH hb35 rfl rfl rfl (.offH hb35 rfl rfl rfl (.offH hb35 rfl rfl rfl (.pickTH hb35 rfl rfl rfl ?_)))
  exact .fin 4 rfl rfl (by kernel_rfl) Fz.r
 refine .nil (.code (.cond rfl (fun hb40 => ?_) (fun hb40 => ?_)))
 ·skip
  refine .seq (.region (.call0 rfl Try.call6 rfl rfl rfl (c_wormtubtop_awake13 _ ) ?_))
  rintro r_43 F_41 _ - l_42 rfl
  refine .assign rfl rfl (.nil (.code ?_))
  exact .ret0 Try.results3 (.tmp rfl (.nil)) (i := 1) rfl (Fz.t l_22 (Fz.t l_26 (Fz.t l_30 (Fz.t l_37 l_42)))) rfl
 ·skip
  refine .skip (.code (.seq (.region (.move rfl rfl (.lenS rfl rfl Try.underlying28 rfl (.quoC rfl (by decide) rfl rfl (.assignL rfl rfl (fun n_44 e45 => ?_))))))))
  refine .nil (.keep (.cons (k := 1) rfl (.cons (k := 2) rfl (.cons (k := 3) rfl (.cons (k := 4) rfl (.cons (k := 5) rfl (.cons (k := 11) rfl (.nil _))))))) (.code (.seq (.region (.loadOA rfl Try.isAgg26 Try.sizeOf26 rfl (i := 0) rfl (vs := (cApiBatch x16 p2 k3)) (by kernel_rfl) rfl (.call0 rfl Try.call7 rfl rfl rfl (c_bottle_Blend _ x16 p2 k3 (h18.mono (Fz.t l_22 (Fz.t l_26 (Fz.t l_30 l_37))))) ?_))))))
  rintro r_48 F_46 _ - l_47 rfl
  refine .move rfl rfl (.extract rfl rfl rfl (.extract rfl rfl rfl (.alloc (cs := (cApiBottling (ApiBottling.mk (ApiSpan.mk 0 0) (ApiSpan.mk 0 0) 0 (fun _ => 0) (fun _ => 0) 0))) rfl Try.zeroValue33 rfl (fun b49 => ?_))))
  refine .store (cs' := (cApiBottling r_48.1)) Try.sizeOf33 rfl rfl rfl rfl (i := 0) rfl (Nat.le_of_ble_eq_true rfl) rfl (setMany_all (by rfl)) (.assign rfl rfl (.nil (.code (.seq (.seq (.region (.move rfl rfl (.neq rfl rfl rfl (.nil (.code (.cond rfl (fun hb50 => ?_) (fun hb50 => ?_))))))))))))
  ·skip
   refine .seq (.region (.assign rfl rfl (.nil (.code ?_))))
   exact .ret0 Try.results3 (.tmp rfl (.nil)) (i := 2) rfl (Fz.t l_22 (Fz.t l_26 (Fz.t l_30 (Fz.t l_37 l_47)))) rfl
  ·skip
   refine .skip (.code (.seq (.region (.sliceOwn0 rApiSource rfl Try.underlying27 Try.sizeOf42 (fun b51 => ?_)))))
   refine .assign rfl rfl (.nil (.code (.seq (.region (.assign rfl rfl (.nil (.code (.seq (.seq (.region (.assign rfl rfl ?_)))))))))))
   refine .nil (.code (.block (.keep (.cons (k := 1) rfl (.cons (k := 2) rfl (.cons (k := 3) rfl (.cons (k := 4) rfl (.cons (k := 5) rfl (.cons (k := 11) rfl (.cons (k := 12) rfl (.cons (k := 14) rfl (.cons (k := 15) rfl (.cons (k := 16) rfl (.nil _))))))))))) ?_)))
   refine .loop (fun (s53 : (List ApiSource) × Int × Int) a w => ∃ (F_54 : Fz) (p56 : Option Addr) (k57 : Nat), F_46 ≤ F_54 ∧ Hd 320 [] [(1, (.slice p6 others5.length k7)), (2, (.slice p10 values9.length k11)), (3, (.int .i64 glass13)), (4, (.int .i64 drawn14)), (5, (.pointer (some ⟨b15, 0, none⟩))), (11, (.int .i64 n_44)), (12, (.pointer (some ⟨b49, 0, none⟩))), (14, (.slice p56 s53.1.length k57)), (15, (.int .i64 s53.2.1)), (16, (.int .i64 s53.2.2))] F_54 [ownSl 5 rApiSource F_54 42 p56 k57 s53.1, pt b49 (.cells (cApiBottling r_48.1).toArray 33), pt b15 (.cells (cApiBatch x16 p2 k3).toArray 26), R] a w) (fun b143 e a w => e = .exit 0 ∧ ∃ (F_144 : Fz) (p146 : Option Addr) (k147 : Nat), F_46 ≤ F_144 ∧ Hd 320 [] [(1, (.slice p6 others5.length k7)), (3, (.int .i64 glass13)), (4, (.int .i64 drawn14)), (5, (.pointer (some ⟨b15, 0, none⟩))), (11, (.int .i64 n_44)), (12, (.pointer (some ⟨b49, 0, none⟩))), (14, (.slice p146 b143.1.length k147)), (15, (.int .i64 b143.2))] F_144 [ownSl 5 rApiSource F_144 42 p146 k147 b143.1, pt b49 (.cells (cApiBottling r_48.1).toArray 33), pt b15 (.cells (cApiBatch x16 p2 k3).toArray 26), R] a w) ?_ ?_ ?_
   ·exact fun a w h => ⟨F_46, (some ⟨b51, 0, none⟩), 0, Fz.r, h.1.sub (.cons (k := 1) rfl (.cons (k := 2) rfl (.cons (k := 3) rfl (.cons (k := 4) rfl (.cons (k := 5) rfl (.cons (k := 11) rfl (.cons (k := 12) rfl (.cons (k := 14) rfl (.cons (k := 15) rfl (.cons (k := 16) rfl (.nil _))))))))))), h.2⟩
   ·intro s53 ctl
    refine GC.ex (fun a w ⟨F_54, p56, k57, l_55, hA⟩ => ⟨_, hA, ?_⟩)
    unfold b_wormtubtop_TopForged_1
    refine .seq (.seq (.region (.move rfl rfl (.fieldAddr rfl Try.underlying26 rfl Try.sizeOf22 rfl (.loadO rfl Try.isAgg22 rfl (i := 2) rfl rfl (.lenS rfl rfl Try.underlying22 rfl (.lss rfl rfl rfl (.nil (.code (.cond rfl (fun hb59 => ?_) (fun hb59 => ?_)))))))))))
    ·skip
     refine .skip (.code (.seq (.block (.seq (.region (.fieldAddr rfl Try.underlying26 rfl Try.sizeOf22 rfl (.loadO rfl Try.isAgg22 rfl (i := 2) rfl rfl (.move rfl rfl (.idx rfl Try.underlying22 Try.sizeOf40 (h18.mono (Fz.t l_22 (Fz.t l_26 (Fz.t l_30 (Fz.t l_37 (Fz.t l_47 l_55)))))) rfl rfl (fun x60 b61 o62 T63 fr64 cs65 e66 hm67 hv68 => ?_))))))))))
     refine .loadFA rfl Try.isAgg40 Try.sizeOf40 rfl hm67 hv68 rfl (.alloc (cs := (cApiDraught (ApiDraught.mk (ApiCask.mk 0 0 0 0 0 0 0 0 (fun _ => 0) (fun _ => 0)) 0 (ApiSpan.mk 0 0)))) rfl Try.zeroValue40 rfl (fun b70 => ?_))
     refine .store (cs' := (cApiDraught x60)) Try.sizeOf40 rfl rfl rfl rfl (i := 0) rfl (Nat.le_of_ble_eq_true rfl) rfl (setMany_all (by rfl)) (.nil (.code (.seq ?_)))
     refine .keep (.cons (k := 1) rfl (.cons (k := 2) rfl (.cons (k := 3) rfl (.cons (k := 4) rfl (.cons (k := 5) rfl (.cons (k := 11) rfl (.cons (k := 12) rfl (.cons (k := 14) rfl (.cons (k := 15) rfl (.cons (k := 16) rfl (.cons (k := 17) rfl (.nil _)))))))))))) (.bind (fun l_72 hx78 => ?_))
     refine .drawGD 19 0 (fun env71 => [((.slice p56 s53.1.length k57), fun _ => True), ((.pointer (some ⟨b70, 0 + 0, none⟩)), fun _ => True), ((.pointer (some ⟨b70, 0 + 0 + 0, none⟩)), fun _ => True), ((.int .i64 x60.From.Number), fun _ => True), ((.int .i64 drawn14), fun _ => True), ((.pointer (some ⟨b70, 0 + 25, none⟩)), fun _ => True), ((eApiSpan x60.Strength), fun _ => True), ((.slice p10 values9.length k11), fun _ => True), ((.int .i64 s53.2.2), fun _ => True), ((.int .i64 n_44), fun _ => True), ((.int .i64 (w64 (s53.2.2 * n_44))), fun _ => True), ((.int .i64 s53.2.2), fun _ => True), ((.int .i64 n_44), fun _ => True), ((.int .i64 (w64 (s53.2.2 * n_44))), fun _ => True), ((.int .i64 n_44), fun _ => True), ((.int .i64 (w64 ((w64 (s53.2.2 * n_44)) + n_44))), fun _ => True), ((.slice (env71.a 160) l_72.length (env71.n 160)), fun G => RepSl 2 (Ex cApiSpan) G (env71.a 160) (env71.n 160) l_72), ((eApiSource (ApiSource.mk x60.From.Number drawn14 x60.Strength l_72) (env71.a 160) (env71.n 160)), fun _ => True), ((.slice (some ⟨env71.n 180, 0, none⟩) ([(ApiSource.mk x60.From.Number drawn14 x60.Strength l_72)]).length 1), fun G => RepSl 5 rApiSource G (some ⟨env71.n 180, 0, none⟩) 1 ([(ApiSource.mk x60.From.Number drawn14 x60.Strength l_72)]))]) (fun L env71 => [pt b70 (.cells (cApiDraught x60).toArray 40), ownSl 5 rApiSource F_54 42 p56 k57 s53.1, pt b49 (.cells (cApiBottling r_48.1).toArray 33), pt b15 (.cells (cApiBatch x16 p2 k3).toArray 26), R]) mixedOK (by kernel_rfl) (deepN (k := 19) (n := 21) rfl (allLt21 (p := fun t => 19 ≤ t → ∀ j, j < t → ∃ s, depB _ s t j = true) (fun h => absurd h (by decide)) (fun h => absurd h (by decide)) (fun h => absurd h (by decide)) (fun h => absurd h (by decide)) (fun h => absurd h (by decide)) (fun h => absurd h (by decide)) (fun h => absurd h (by decide)) (fun h => absurd h (by decide)) (fun h => absurd h (by decide)) (fun h => absurd h (by decide)) (fun h => absurd h (by decide)) (fun h => absurd h (by decide)) (fun h => absurd h (by decide)) (fun h => absurd h (by decide)) (fun h => absurd h (by decide)) (fun h => absurd h (by decide)) (fun h => absurd h (by decide)) (fun h => absurd h (by decide)) (fun h => absurd h (by decide)) (fun _ => allLt19 (p := fun j => ∃ s, depB _ s 19 j = true) ⟨1, rfl⟩ ⟨5, rfl⟩ ⟨4, rfl⟩ ⟨3, rfl⟩ ⟨3, rfl⟩ ⟨4, rfl⟩ ⟨3, rfl⟩ ⟨4, rfl⟩ ⟨5, rfl⟩ ⟨5, rfl⟩ ⟨4, rfl⟩ ⟨6, rfl⟩ ⟨6, rfl⟩ ⟨5, rfl⟩ ⟨5, rfl⟩ ⟨4, rfl⟩ ⟨3, rfl⟩ ⟨2, rfl⟩ ⟨1, rfl⟩) (fun _ => allLt20 (p := fun j => ∃ s, depB _ s 20 j = true) ⟨1, rfl⟩ ⟨1, rfl⟩ ⟨1, rfl⟩ ⟨1, rfl⟩ ⟨1, rfl⟩ ⟨1, rfl⟩ ⟨1, rfl⟩ ⟨1, rfl⟩ ⟨1, rfl⟩ ⟨1, rfl⟩ ⟨1, rfl⟩ ⟨1, rfl⟩ ⟨1, rfl⟩ ⟨1, rfl⟩ ⟨1, rfl⟩ ⟨1, rfl⟩ ⟨1, rfl⟩ ⟨1, rfl⟩ ⟨1, rfl⟩ ⟨1, rfl⟩))) rfl (fun _ => rfl) (by kernel_rfl) (fun _ => rfl) ?_ (fun env71 F_85 l_86 hphi => ?_)
     ·skip
      refine .cons (fun L env71 F_87 l_88 hL hdn hup hphi => ⟨[(14, (.slice p56 s53.1.length k57))], fun S hS hV => (.cons (hS _ _ rfl) (Sub.nil _)), ?_⟩) ?_
      ·skip
       refine .move rfl rfl ?_
       exact .finV rfl rfl Fz.r
      refine .cons (fun L env71 F_89 l_90 hL hdn hup hphi => ⟨[(17, (.pointer (some ⟨b70, 0, none⟩)))], fun S hS hV => (.cons (hS _ _ rfl) (Sub.nil _)), ?_⟩) ?_
      ·skip
       refine .fieldAddr rfl Try.underlying40 rfl Try.sizeOf38 rfl ?_
       exact .finV rfl rfl Fz.r
      refine .cons (fun L env71 F_91 l_92 hL hdn hup hphi => ⟨[(87, (.pointer (some ⟨b70, 0 + 0, none⟩)))], fun S hS hV => (.cons (hV 1 87 _ (hdn 1 1 rfl) rfl rfl) (Sub.nil _)), ?_⟩) ?_
      ·skip
       refine .fieldAddr rfl Try.underlying38 rfl Try.sizeOf3 rfl ?_
       exact .finV rfl rfl Fz.r
      refine .cons (fun L env71 F_93 l_94 hL hdn hup hphi => ⟨[(88, (.pointer (some ⟨b70, 0 + 0 + 0, none⟩)))], fun S hS hV => (.cons (hV 2 88 _ (hdn 1 2 rfl) rfl rfl) (Sub.nil _)), ?_⟩) ?_
      ·skip
       refine .loadO rfl Try.isAgg3 rfl (i := 0) rfl rfl ?_
       exact .finV rfl rfl Fz.r
      refine .cons (fun L env71 F_95 l_96 hL hdn hup hphi => ⟨[(4, (.int .i64 drawn14))], fun S hS hV => (.cons (hS _ _ rfl) (Sub.nil _)), ?_⟩) ?_
      ·skip
       refine .move rfl rfl ?_
       exact .finV rfl rfl Fz.r
      refine .cons (fun L env71 F_97 l_98 hL hdn hup hphi => ⟨[(17, (.pointer (some ⟨b70, 0, none⟩)))], fun S hS hV => (.cons (hS _ _ rfl) (Sub.nil _)), ?_⟩) ?_
      ·skip
       refine .fieldAddr rfl Try.underlying40 rfl Try.sizeOf24 rfl ?_
       exact .finV rfl rfl Fz.r
      refine .cons (fun L env71 F_99 l_100 hL hdn hup hphi => ⟨[(91, (.pointer (some ⟨b70, 0 + 25, none⟩)))], fun S hS hV => (.cons (hV 5 91 _ (hdn 1 5 rfl) rfl rfl) (Sub.nil _)), ?_⟩) ?_
      ·skip
       refine .loadOA rfl Try.isAgg24 Try.sizeOf24 rfl (i := 0) rfl (vs := (cApiSpan x60.Strength)) (by kernel_rfl) rfl ?_
       exact .finV rfl rfl Fz.r
      refine .cons (fun L env71 F_101 l_102 hL hdn hup hphi => ⟨[(2, (.slice p10 values9.length k11))], fun S hS hV => (.cons (hS _ _ rfl) (Sub.nil _)), ?_⟩) ?_
      ·skip
       refine .move rfl rfl ?_
       exact .finV rfl rfl Fz.r
      refine .cons (fun L env71 F_103 l_104 hL hdn hup hphi => ⟨[(16, (.int .i64 s53.2.2))], fun S hS hV => (.cons (hS _ _ rfl) (Sub.nil _)), ?_⟩) ?_
      ·skip
       refine .move rfl rfl ?_
       exact .finV rfl rfl Fz.r
      refine .cons (fun L env71 F_105 l_106 hL hdn hup hphi => ⟨[(11, (.int .i64 n_44))], fun S hS hV => (.cons (hS _ _ rfl) (Sub.nil _)), ?_⟩) ?_
      ·skip
       refine .move rfl rfl ?_
       exact .finV rfl rfl Fz.r
      refine .cons (fun L env71 F_107 l_108 hL hdn hup hphi => ⟨[(94, (.int .i64 s53.2.2)), (95, (.int .i64 n_44))], fun S hS hV => (.cons (hV 8 94 _ (hdn 1 8 rfl) rfl rfl) (.cons (hV 9 95 _ (hdn 1 9 rfl) rfl rfl) (Sub.nil _))), ?_⟩) ?_
      ·skip
       refine .mul rfl rfl rfl ?_
       exact .finV rfl rfl Fz.r
      refine .cons (fun L env71 F_109 l_110 hL hdn hup hphi => ⟨[(16, (.int .i64 s53.2.2))], fun S hS hV => (.cons (hS _ _ rfl) (Sub.nil _)), ?_⟩) ?_
      ·skip
       refine .move rfl rfl ?_
       exact .finV rfl rfl Fz.r
      refine .cons (fun L env71 F_111 l_112 hL hdn hup hphi => ⟨[(11, (.int .i64 n_44))], fun S hS hV => (.cons (hS _ _ rfl) (Sub.nil _)), ?_⟩) ?_
      ·skip
       refine .move rfl rfl ?_
       exact .finV rfl rfl Fz.r
      refine .cons (fun L env71 F_113 l_114 hL hdn hup hphi => ⟨[(97, (.int .i64 s53.2.2)), (98, (.int .i64 n_44))], fun S hS hV => (.cons (hV 11 97 _ (hdn 1 11 rfl) rfl rfl) (.cons (hV 12 98 _ (hdn 1 12 rfl) rfl rfl) (Sub.nil _))), ?_⟩) ?_
      ·skip
       refine .mul rfl rfl rfl ?_
       exact .finV rfl rfl Fz.r
      refine .cons (fun L env71 F_115 l_116 hL hdn hup hphi => ⟨[(11, (.int .i64 n_44))], fun S hS hV => (.cons (hS _ _ rfl) (Sub.nil _)), ?_⟩) ?_
      ·skip
       refine .move rfl rfl ?_
       exact .finV rfl rfl Fz.r
      refine .cons (fun L env71 F_117 l_118 hL hdn hup hphi => ⟨[(99, (.int .i64 (w64 (s53.2.2 * n_44)))), (100, (.int .i64 n_44))], fun S hS hV => (.cons (hV 13 99 _ (hdn 1 13 rfl) rfl rfl) (.cons (hV 14 100 _ (hdn 1 14 rfl) rfl rfl) (Sub.nil _))), ?_⟩) ?_
      ·skip
       refine .add rfl rfl rfl ?_
       exact .finV rfl rfl Fz.r
      refine .cons (fun L env71 F_119 l_120 hL hdn hup hphi => ⟨[(93, (.slice p10 values9.length k11)), (96, (.int .i64 (w64 (s53.2.2 * n_44)))), (101, (.int .i64 (w64 ((w64 (s53.2.2 * n_44)) + n_44))))], fun S hS hV => (.cons (hV 7 93 _ (hdn 1 7 rfl) rfl rfl) (.cons (hV 10 96 _ (hdn 1 10 rfl) rfl rfl) (.cons (hV 15 101 _ (hdn 1 15 rfl) rfl rfl) (Sub.nil _)))), ?_⟩) ?_
      ·skip
       refine .sliceLoHiK hx78 rfl Try.underlying28 Try.sizeOf24 (h12.mono (Fz.t l_22 (Fz.t l_26 (Fz.t l_30 (Fz.t l_37 (Fz.t l_47 (Fz.t l_55 l_120))))))) rfl rfl rfl (fun p122 k123 h125 => ?_)
       exact .finQ ({ env71 with a := (updN env71.a 160 p122), n := (updN env71.n 160 k123), c := env71.c, o := env71.o }) [true, true, true, true, true, true, true, true, true, true, true, true, true, true, true, true, false, false, false] rfl (by kernel_rfl) rfl rfl Fz.r (fun _ le => h125.mono le) (cons_eq rfl (cons_eq rfl (cons_eq rfl (cons_eq rfl (cons_eq rfl rfl)))))
      refine .cons (fun L env71 F_126 l_127 hL hdn hup hphi => ⟨[(89, (.int .i64 x60.From.Number)), (90, (.int .i64 drawn14)), (92, (eApiSpan x60.Strength)), (102, (.slice (env71.a 160) l_72.length (env71.n 160)))], fun S hS hV => (.cons (hV 3 89 _ (hdn 1 3 rfl) rfl rfl) (.cons (hV 4 90 _ (hdn 1 4 rfl) rfl rfl) (.cons (hV 6 92 _ (hdn 1 6 rfl) rfl rfl) (.cons (hV 16 102 _ (hdn 1 16 rfl) rfl rfl) (Sub.nil _))))), ?_⟩) ?_
      ·skip
       have h77 := hphi 16 _ (hdn 1 16 rfl) rfl _ Fz.r
       refine .build (cs := (cApiSource (ApiSource.mk x60.From.Number drawn14 x60.Strength l_72) (env71.a 160) (env71.n 160)).toArray) rfl Try.underlying42 Try.zeroValue42 (plApiSource _ Try.underlying42) rfl rfl (by kernel_rfl) ?_
       exact .finV rfl rfl Fz.r
      refine .cons (fun L env71 F_128 l_129 hL hdn hup hphi => ⟨[(103, (eApiSource (ApiSource.mk x60.From.Number drawn14 x60.Strength l_72) (env71.a 160) (env71.n 160)))], fun S hS hV => (.cons (hV 17 103 _ (hdn 1 17 rfl) rfl rfl) (Sub.nil _)), ?_⟩) ?_
      ·skip
       have h77 := hphi 16 _ (hdn 2 16 rfl) rfl _ Fz.r
       refine .sliceLit (cs := [.int .i64 (ApiSource.mk x60.From.Number drawn14 x60.Strength l_72).Cask, .int .i64 (ApiSource.mk x60.From.Number drawn14 x60.Strength l_72).Drawn, .int .i64 (ApiSource.mk x60.From.Number drawn14 x60.Strength l_72).Strength.Lo, .int .i64 (ApiSource.mk x60.From.Number drawn14 x60.Strength l_72).Strength.Hi, .slice (env71.a 160) (ApiSource.mk x60.From.Number drawn14 x60.Strength l_72).Values.length (env71.n 160)]) (zc := [.int .i64 (ApiSource.mk 0 0 (ApiSpan.mk 0 0) ([])).Cask, .int .i64 (ApiSource.mk 0 0 (ApiSpan.mk 0 0) ([])).Drawn, .int .i64 (ApiSource.mk 0 0 (ApiSpan.mk 0 0) ([])).Strength.Lo, .int .i64 (ApiSource.mk 0 0 (ApiSpan.mk 0 0) ([])).Strength.Hi, .slice none (ApiSource.mk 0 0 (ApiSpan.mk 0 0) ([])).Values.length 0]) rfl Try.underlying27 Try.sizeOf42 Try.zeroValue42 rfl rfl rfl (by kernel_rfl) (by kernel_rfl) (fun b130 F_131 l_132 hb133 => ?_)
       have h134 : RepSl 5 rApiSource F_131 (some ⟨b130, 0, none⟩) 1 ([(ApiSource.mk x60.From.Number drawn14 x60.Strength l_72)]) := RepSl.ofRow hb133 (.cons ok_t42.mono ⟨_, _, rfl, (h77.mono l_132)⟩ .nil) rfl rfl
       exact .finQ ({ env71 with a := env71.a, n := (updN env71.n 180 b130), c := env71.c, o := env71.o }) [true, true, true, true, true, true, true, true, true, true, true, true, true, true, true, true, true, true, false] rfl (by kernel_rfl) rfl rfl l_132 (fun _ le => h134.mono le) (cons_eq rfl (cons_eq rfl (cons_eq rfl (cons_eq rfl (cons_eq rfl rfl)))))
      exact .nil
     have h77 := hphi 16 _ rfl
     have h84 := hphi 18 _ rfl
     refine .norm (S' := [(1, (.slice p6 others5.length k7)), (2, (.slice p10 values9.length k11)), (3, (.int .i64 glass13)), (4, (.int .i64 drawn14)), (5, (.pointer (some ⟨b15, 0, none⟩))), (11, (.int .i64 n_44)), (12, (.pointer (some ⟨b49, 0, none⟩))), (14, (.slice p56 s53.1.length k57)), (15, (.int .i64 s53.2.1)), (16, (.int .i64 s53.2.2)), (17, (.pointer (some ⟨b70, 0, none⟩))), (86, (.slice p56 s53.1.length k57)), (87, (.pointer (some ⟨b70, 0 + 0, none⟩))), (88, (.pointer (some ⟨b70, 0 + 0 + 0, none⟩))), (89, (.int .i64 x60.From.Number)), (90, (.int .i64 drawn14)), (91, (.pointer (some ⟨b70, 0 + 25, none⟩))), (92, (eApiSpan x60.Strength)), (93, (.slice p10 values9.length k11)), (94, (.int .i64 s53.2.2)), (95, (.int .i64 n_44)), (96, (.int .i64 (w64 (s53.2.2 * n_44)))), (97, (.int .i64 s53.2.2)), (98, (.int .i64 n_44)), (99, (.int .i64 (w64 (s53.2.2 * n_44)))), (100, (.int .i64 n_44)), (101, (.int .i64 (w64 ((w64 (s53.2.2 * n_44)) + n_44)))), (102, (.slice (env71.a 160) l_72.length (env71.n 160))), (103, (eApiSource (ApiSource.mk x60.From.Number drawn14 x60.Strength l_72) (env71.a 160) (env71.n 160))), (104, (.slice (some ⟨env71.n 180, 0, none⟩) ([(ApiSource.mk x60.From.Number drawn14 x60.Strength l_72)]).length 1))]) (.cons (k := 1) rfl (.cons (k := 2) rfl (.cons (k := 3) rfl (.cons (k := 4) rfl (.cons (k := 5) rfl (.cons (k := 11) rfl (.cons (k := 12) rfl (.cons (k := 14) rfl (.cons (k := 15) rfl (.cons (k := 16) rfl (.cons (k := 17) rfl (.cons (k := 86) rfl (.cons (k := 87) rfl (.cons (k := 88) rfl (.cons (k := 89) rfl (.cons (k := 90) rfl (.cons (k := 91) rfl (.cons (k := 92) rfl (.cons (k := 93) rfl (.cons (k := 94) rfl (.cons (k := 95) rfl (.cons (k := 96) rfl (.cons (k := 97) rfl (.cons (k := 98) rfl (.cons (k := 99) rfl (.cons (k := 100) rfl (.cons (k := 101) rfl (.cons (k := 102) rfl (.cons (k := 103) rfl (.cons (k := 104) rfl (.nil _))))))))))))))))))))))))))))))) (rfl : _ = [pt b70 (.cells (cApiDraught x60).toArray 40), ownSl 5 rApiSource F_54 42 p56 k57 s53.1, pt b49 (.cells (cApiBottling r_48.1).toArray 33), pt b15 (.cells (cApiBatch x16 p2 k3).toArray 26), R]) ?_
     refine .append 1 ok_t42 l_86 rfl Try.underlying27 Try.underlying27 rfl rfl rfl h84 rfl rfl (fun l_135 p136 k137 e138 => ?_)
     refine .assign rfl rfl (.nil (.keep (.cons (k := 1) rfl (.cons (k := 2) rfl (.cons (k := 3) rfl (.cons (k := 4) rfl (.cons (k := 5) rfl (.cons (k := 11) rfl (.cons (k := 12) rfl (.cons (k := 14) rfl (.cons (k := 15) rfl (.cons (k := 16) rfl (.cons (k := 17) rfl (.nil _)))))))))))) (.code (.region (.move rfl rfl (.fieldAddr rfl Try.underlying40 rfl Try.sizeOf3 rfl ?_))))))
     refine .loadO rfl Try.isAgg3 rfl (i := 0) rfl rfl (.add rfl rfl rfl (.assignL rfl rfl (fun total139 e140 => ?_)))
     refine .nil (.block (.code (.region (.move rfl rfl (.add rfl rfl rfl (.assignL rfl rfl (fun i141 e142 => ?_)))))))
     refine .nil (.drop 0 ?_)
     exact .nil (LPost.norm fun a w h => ⟨F_85, p136, k137, (Fz.t l_55 l_86), h.1.sub (.cons (k := 1) rfl (.cons (k := 2) rfl (.cons (k := 3) rfl (.cons (k := 4) rfl (.cons (k := 5) rfl (.cons (k := 11) rfl (.cons (k := 12) rfl (.cons (k := 14) rfl (.cons (k := 15) rfl (.cons (k := 16) rfl (.nil _))))))))))), h.2⟩)
    ·skip
     refine .exitOut rfl (LPost.exit fun a w h => ⟨rfl, F_54, p56, k57, l_55, h.1.sub (.cons (k := 1) rfl (.cons (k := 3) rfl (.cons (k := 4) rfl (.cons (k := 5) rfl (.cons (k := 11) rfl (.cons (k := 12) rfl (.cons (k := 14) rfl (.cons (k := 15) rfl (.nil _))))))))), h.2⟩)
   ·intro b143 hb0 hk e a w hD
    obtain ⟨rfl, F_144, p146, k147, l_145, hA⟩ := hD
    refine interp_exit rfl (GE.app ?_ hk a w hA)
    refine .code (.seq (.region (.move rfl rfl (.move rfl rfl (.fieldAddr rfl Try.underlying33 rfl Try.sizeOf24 rfl (.loadOA rfl Try.isAgg24 Try.sizeOf24 rfl (i := 1) rfl (vs := (cApiSpan r_48.1.Strength)) (by kernel_rfl) rfl ?_))))))
    refine .build (cs := (cApiSuspect (ApiSuspect.mk glass13 glass13 r_48.1.Strength ([])) none 0).toArray) rfl Try.underlying44 Try.zeroValue44 (plApiSuspect _ Try.underlying44) rfl rfl (by kernel_rfl) (.alloc (cs := (cApiSuspect (ApiSuspect.mk 0 0 (ApiSpan.mk 0 0) ([])) none 0)) rfl Try.zeroValue44 rfl (fun b149 => ?_))
    refine .ownNil 2 (Ex cApiSpan) 24 (.ownConv 0 rfl (show [] = (ApiSuspect.mk glass13 glass13 r_48.1.Strength ([])).Seen from rfl) (.store (cs' := (cApiSuspect (ApiSuspect.mk glass13 glass13 r_48.1.Strength ([])) none 0)) Try.sizeOf44 rfl rfl rfl rfl (i := 1) rfl (Nat.le_of_ble_eq_true rfl) rfl (setMany_all (by rfl)) (.nil (.code (.seq (.region (.move rfl rfl (.lenS rfl rfl Try.underlying27 rfl ?_))))))))
    refine .sub rfl rfl rfl (.assignL rfl rfl (fun last_151 e152 => ?_))
    refine .nil (.code (.seq (.seq (.region (.assign rfl rfl (.nil (.code (.block (.keep (.cons (k := 1) rfl (.cons (k := 3) rfl (.cons (k := 4) rfl (.cons (k := 5) rfl (.cons (k := 11) rfl (.cons (k := 14) rfl (.cons (k := 15) rfl (.cons (k := 18) rfl (.cons (k := 19) rfl (.cons (k := 20) rfl (.nil _))))))))))) ?_)))))))))
    refine .loop (fun (s153 : Int × ApiSuspect) a w => ∃ (F_154 : Fz) (p156 : Option Addr) (k157 : Nat), F_144 ≤ F_154 ∧ Hd 320 [] [(1, (.slice p6 others5.length k7)), (3, (.int .i64 glass13)), (4, (.int .i64 drawn14)), (5, (.pointer (some ⟨b15, 0, none⟩))), (11, (.int .i64 n_44)), (14, (.slice p146 b143.1.length k147)), (15, (.int .i64 b143.2)), (18, (.pointer (some ⟨b149, 0, none⟩))), (19, (.int .i64 last_151)), (20, (.int .i64 s153.1))] F_154 [ownSl 2 (Ex cApiSpan) F_154 24 p156 k157 s153.2.Seen, pt b149 (.cells (cApiSuspect s153.2 p156 k157).toArray 44), ownSl 5 rApiSource F_144 42 p146 k147 b143.1, pt b49 (.cells (cApiBottling r_48.1).toArray 33), pt b15 (.cells (cApiBatch x16 p2 k3).toArray 26), R] a w) (fun b0 e a w => match b0 with | .inl b296 => e = .exit 2 ∧ ∃ (F_297 : Fz) (p299 : Option Addr) (k300 : Nat), F_144 ≤ F_297 ∧ Hd 320 [] [(1, (.slice p6 others5.length k7)), (3, (.int .i64 glass13)), (4, (.int .i64 drawn14)), (5, (.pointer (some ⟨b15, 0, none⟩))), (14, (.slice p146 b143.1.length k147)), (15, (.int .i64 b143.2)), (18, (.pointer (some ⟨b149, 0, none⟩))), (19, (.int .i64 last_151))] F_297 [ownSl 2 (Ex cApiSpan) F_297 24 p299 k300 b296.Seen, pt b149 (.cells (cApiSuspect b296 p299 k300).toArray 44), ownSl 5 rApiSource F_144 42 p146 k147 b143.1, pt b49 (.cells (cApiBottling r_48.1).toArray 33), pt b15 (.cells (cApiBatch x16 p2 k3).toArray 26), R] a w | .inr b296 => e = .ret ∧ ∃ (F_302 : Fz), F_144 ≤ F_302 ∧ Hd 320 [] [(10, (.bool b296))] F_302 [R] a w) ?_ ?_ ?_
    ·exact fun a w h => ⟨F_144, none, 0, Fz.r, h.1.sub (.cons (k := 1) rfl (.cons (k := 3) rfl (.cons (k := 4) rfl (.cons (k := 5) rfl (.cons (k := 11) rfl (.cons (k := 14) rfl (.cons (k := 15) rfl (.cons (k := 18) rfl (.cons (k := 19) rfl (.cons (k := 20) rfl (.nil _))))))))))), h.2⟩
    ·intro s153 ctl
     refine GC.ex (fun a w ⟨F_154, p156, k157, l_155, hA⟩ => ⟨_, hA, ?_⟩)
     unfold b_wormtubtop_TopForged_2
     refine .seq (.seq (.region (.move rfl rfl (.move rfl rfl (.lss rfl rfl rfl (.nil (.code (.cond rfl (fun hb159 => ?_) (fun hb159 => ?_)))))))))
     ·skip
      refine .skip (.code (.seq (.block (.seq (.openOwn 2 rfl (fun lx160 hl161 hm162 ha163 => ?_))))))
      refine .keep (.cons (k := 1) rfl (.cons (k := 3) rfl (.cons (k := 4) rfl (.cons (k := 5) rfl (.cons (k := 11) rfl (.cons (k := 14) rfl (.cons (k := 15) rfl (.cons (k := 18) rfl (.cons (k := 19) rfl (.cons (k := 20) rfl (.nil _))))))))))) (.bind (fun x165 e166 => ?_))
      obtain ⟨vs169, e170, hv171⟩ := idx_open hm162 ha163 l_155 e166
      obtain ⟨p172, k173, hv171, h174⟩ := hv171
      subst hv171
      refine .ownAddr 2 rfl e170 (fun b167 hp168 => ?_)
      refine .bind (fun x175 e181 => ?_)
      obtain ⟨b176, o177, T178, fr179, cs180, hm182, hv183, hq184⟩ := RepSl.idxE h174 e181
      refine .bind (fun x185 e186 => ?_)
      obtain ⟨vs189, e190, hv191⟩ := idx_open hm162 ha163 l_155 e186
      obtain ⟨p192, k193, hv191, h194⟩ := hv191
      subst hv191
      refine .ownAddr 2 rfl e190 (fun b187 hp188 => ?_)
      refine .bind (fun x195 e201 => ?_)
      obtain ⟨b196, o197, T198, fr199, cs200, hm202, hv203, hq204⟩ := RepSl.idxE h194 e201
      refine .drawG 18 2 (fun env164 => [((.slice p146 b143.1.length k147), fun _ => True), ((.pointer (some ⟨b167, 0 + (0 : Int).toNat * 5, none⟩)), fun _ => True), ((.pointer (some ⟨b167, 0 + (0 : Int).toNat * 5 + 4, none⟩)), fun _ => True), ((.slice p172 x165.Values.length k173), fun _ => True), ((.int .i64 s153.1), fun _ => True), ((.pointer (some ⟨b176, o177, none⟩)), fun _ => True), ((eApiSpan x175), fun _ => True), ((.slice p146 b143.1.length k147), fun _ => True), ((.int .i64 last_151), fun _ => True), ((.pointer (some ⟨b187, 0 + (last_151).toNat * 5, none⟩)), fun _ => True), ((.pointer (some ⟨b187, 0 + (last_151).toNat * 5 + 4, none⟩)), fun _ => True), ((.slice p192 x185.Values.length k193), fun _ => True), ((.int .i64 s153.1), fun _ => True), ((.pointer (some ⟨b196, o197, none⟩)), fun _ => True), ((eApiSpan x195), fun _ => True), ((.pointer (some ⟨(env164.n 150), 0, none⟩)), fun _ => True), ((.pointer (some ⟨(env164.n 160), 0, none⟩)), fun _ => True), (undef, fun _ => True)]) (fun L env164 => [ownSl 2 (Ex cApiSpan) F_154 24 p156 k157 s153.2.Seen, pt b149 (.cells (cApiSuspect s153.2 p156 k157).toArray 44), ownSl 5 exO F_144 42 p146 k147 lx160, pt b49 (.cells (cApiBottling r_48.1).toArray 33), pt b15 (.cells (cApiBatch x16 p2 k3).toArray 26), R, (bif L 17 then (pt (env164.n 150) (.cells (cApiSpan x175).toArray 24)) else (bif L 15 then (pt (env164.n 150) (.cells (cApiSpan (ApiSpan.mk 0 0)).toArray 24)) else emp)), (bif L 16 then (pt (env164.n 160) (.cells (cApiSpan (ApiSpan.mk 0 0)).toArray 24)) else emp)]) mixedOK (by kernel_rfl) (by kernel_rfl) rfl (fun _ => rfl) (by kernel_rfl) (fun _ => rfl) ?_ (fun env164 F_205 l_206 hphi => ?_)
      ·skip
       refine .cons (fun L env164 F_207 l_208 hL hdn hup hphi => ⟨[(14, (.slice p146 b143.1.length k147))], fun S hS hV => (.cons (hS _ _ rfl) (Sub.nil _)), ?_⟩) ?_
       ·skip
        refine .move rfl rfl ?_
        exact .finV rfl rfl Fz.r
       refine .cons (fun L env164 F_209 l_210 hL hdn hup hphi => ⟨[(123, (.slice p146 b143.1.length k147))], fun S hS hV => (.cons (hV 0 123 _ (hdn 1 0 rfl) rfl rfl) (Sub.nil _)), ?_⟩) ?_
       ·skip
        refine .idxOwnN hl161 rfl Try.underlying27 Try.sizeOf42 hp168 e170 rfl rfl ?_
        exact .finV rfl rfl Fz.r
       refine .cons (fun L env164 F_211 l_212 hL hdn hup hphi => ⟨[(124, (.pointer (some ⟨b167, 0 + (0 : Int).toNat * 5, none⟩)))], fun S hS hV => (.cons (hV 1 124 _ (hdn 1 1 rfl) rfl rfl) (Sub.nil _)), ?_⟩) ?_
       ·skip
        refine .fieldAddr rfl Try.underlying42 rfl Try.sizeOf28 rfl ?_
        exact .finV rfl rfl Fz.r
       refine .cons (fun L env164 F_213 l_214 hL hdn hup hphi => ⟨[(125, (.pointer (some ⟨b167, 0 + (0 : Int).toNat * 5 + 4, none⟩)))], fun S hS hV => (.cons (hV 2 125 _ (hdn 1 2 rfl) rfl rfl) (Sub.nil _)), ?_⟩) ?_
       ·skip
        refine .loadOwn (off := 4) (Φ := fun v => v = (.slice p172 x165.Values.length k173)) 2 rfl (Fz.t l_155 l_214) rfl Try.isAgg28 hp168 e170 rfl rfl (fun vs h => ⟨_, by subst h; exact rfl, rfl⟩) (fun v hv => ?_)
        subst hv
        exact .finV rfl rfl Fz.r
       refine .cons (fun L env164 F_215 l_216 hL hdn hup hphi => ⟨[(20, (.int .i64 s153.1))], fun S hS hV => (.cons (hS _ _ rfl) (Sub.nil _)), ?_⟩) ?_
       ·skip
        refine .move rfl rfl ?_
        exact .finV rfl rfl Fz.r
       refine .cons (fun L env164 F_217 l_218 hL hdn hup hphi => ⟨[(126, (.slice p172 x165.Values.length k173)), (127, (.int .i64 s153.1))], fun S hS hV => (.cons (hV 3 126 _ (hdn 1 3 rfl) rfl rfl) (.cons (hV 4 127 _ (hdn 1 4 rfl) rfl rfl) (Sub.nil _))), ?_⟩) ?_
       ·skip
        refine .idxQ rfl Try.underlying28 Try.sizeOf24 hq184 rfl rfl ?_
        exact .finV rfl rfl Fz.r
       refine .cons (fun L env164 F_219 l_220 hL hdn hup hphi => ⟨[(128, (.pointer (some ⟨b176, o177, none⟩)))], fun S hS hV => (.cons (hV 5 128 _ (hdn 1 5 rfl) rfl rfl) (Sub.nil _)), ?_⟩) ?_
       ·skip
        refine .loadFA rfl Try.isAgg24 Try.sizeOf24 rfl (l_220.mem _ _ hm182) hv183 rfl ?_
        exact .finV rfl rfl Fz.r
       refine .cons (fun L env164 F_221 l_222 hL hdn hup hphi => ⟨[(14, (.slice p146 b143.1.length k147))], fun S hS hV => (.cons (hS _ _ rfl) (Sub.nil _)), ?_⟩) ?_
       ·skip
        refine .move rfl rfl ?_
        exact .finV rfl rfl Fz.r
       refine .cons (fun L env164 F_223 l_224 hL hdn hup hphi => ⟨[(19, (.int .i64 last_151))], fun S hS hV => (.cons (hS _ _ rfl) (Sub.nil _)), ?_⟩) ?_
       ·skip
        refine .move rfl rfl ?_
        exact .finV rfl rfl Fz.r
       refine .cons (fun L env164 F_225 l_226 hL hdn hup hphi => ⟨[(130, (.slice p146 b143.1.length k147)), (131, (.int .i64 last_151))], fun S hS hV => (.cons (hV 7 130 _ (hdn 1 7 rfl) rfl rfl) (.cons (hV 8 131 _ (hdn 1 8 rfl) rfl rfl) (Sub.nil _))), ?_⟩) ?_
       ·skip
        refine .idxOwnN hl161 rfl Try.underlying27 Try.sizeOf42 hp188 e190 rfl rfl ?_
        exact .finV rfl rfl Fz.r
       refine .cons (fun L env164 F_227 l_228 hL hdn hup hphi => ⟨[(132, (.pointer (some ⟨b187, 0 + (last_151).toNat * 5, none⟩)))], fun S hS hV => (.cons (hV 9 132 _ (hdn 1 9 rfl) rfl rfl) (Sub.nil _)), ?_⟩) ?_
       ·skip
        refine .fieldAddr rfl Try.underlying42 rfl Try.sizeOf28 rfl ?_
        exact .finV rfl rfl Fz.r
       refine .cons (fun L env164 F_229 l_230 hL hdn hup hphi => ⟨[(133, (.pointer (some ⟨b187, 0 + (last_151).toNat * 5 + 4, none⟩)))], fun S hS hV => (.cons (hV 10 133 _ (hdn 1 10 rfl) rfl rfl) (Sub.nil _)), ?_⟩) ?_
       ·skip
        refine .loadOwn (off := 4) (Φ := fun v => v = (.slice p192 x185.Values.length k193)) 2 rfl (Fz.t l_155 l_230) rfl Try.isAgg28 hp188 e190 rfl rfl (fun vs h => ⟨_, by subst h; exact rfl, rfl⟩) (fun v hv => ?_)
        subst hv
        exact .finV rfl rfl Fz.r
       refine .cons (fun L env164 F_231 l_232 hL hdn hup hphi => ⟨[(20, (.int .i64 s153.1))], fun S hS hV => (.cons (hS _ _ rfl) (Sub.nil _)), ?_⟩) ?_
       ·skip
        refine .move rfl rfl ?_
        exact .finV rfl rfl Fz.r
       refine .cons (fun L env164 F_233 l_234 hL hdn hup hphi => ⟨[(134, (.slice p192 x185.Values.length k193)), (135, (.int .i64 s153.1))], fun S hS hV => (.cons (hV 11 134 _ (hdn 1 11 rfl) rfl rfl) (.cons (hV 12 135 _ (hdn 1 12 rfl) rfl rfl) (Sub.nil _))), ?_⟩) ?_
       ·skip
        refine .idxQ rfl Try.underlying28 Try.sizeOf24 hq204 rfl rfl ?_
        exact .finV rfl rfl Fz.r
       refine .cons (fun L env164 F_235 l_236 hL hdn hup hphi => ⟨[(136, (.pointer (some ⟨b196, o197, none⟩)))], fun S hS hV => (.cons (hV 13 136 _ (hdn 1 13 rfl) rfl rfl) (Sub.nil _)), ?_⟩) ?_
       ·skip
        refine .loadFA rfl Try.isAgg24 Try.sizeOf24 rfl (l_236.mem _ _ hm202) hv203 rfl ?_
        exact .finV rfl rfl Fz.r
       refine .cons (fun L env164 F_237 l_238 hL hdn hup hphi => ⟨[], fun S hS hV => (Sub.nil _), ?_⟩) ?_
       ·skip
        refine .alloc (cs := (cApiSpan (ApiSpan.mk 0 0))) rfl Try.zeroValue24 rfl (fun b239 => ?_)
        exact .finG ({ env164 with n := updN env164.n 150 b239 }) [true, true, true, true, true, true, true, true, true, true, true, true, true, true, true, false, true, false] rfl (by kernel_rfl) rfl rfl Fz.r (fun _ _ => trivial) (fun _ h => SH.placeC 6 (congrArg some ((condF (hup 1 17 rfl)).trans (condF hL))) ((condF (b := updB L 15 17) (hup 1 17 rfl)).trans (condT rfl)) h)
       refine .cons (fun L env164 F_240 l_241 hL hdn hup hphi => ⟨[], fun S hS hV => (Sub.nil _), ?_⟩) ?_
       ·skip
        refine .alloc (cs := (cApiSpan (ApiSpan.mk 0 0))) rfl Try.zeroValue24 rfl (fun b242 => ?_)
        exact .finG ({ env164 with n := updN env164.n 160 b242 }) [true, true, true, true, true, true, true, true, true, true, true, true, true, true, true, true, false, false] rfl (by kernel_rfl) rfl rfl Fz.r (fun _ _ => trivial) (fun _ h => SH.placeC 7 (congrArg some (condF hL)) (condT rfl) h)
       refine .cons (fun L env164 F_243 l_244 hL hdn hup hphi => ⟨[(21, (.pointer (some ⟨(env164.n 150), 0, none⟩))), (129, (eApiSpan x175))], fun S hS hV => (.cons (hV 15 21 _ (hdn 1 15 rfl) rfl rfl) (.cons (hV 6 129 _ (hdn 1 6 rfl) rfl rfl) (Sub.nil _))), ?_⟩) ?_
       ·skip
        refine .store (cs' := (cApiSpan x175)) Try.sizeOf24 rfl rfl rfl rfl (i := 6) (congrArg some ((condF hL).trans (condT (hdn 1 15 rfl)))) (Nat.le_of_ble_eq_true rfl) rfl (setMany_all (by rfl)) ?_
        exact .finS rfl Fz.r (setC 6 (condT rfl))
       exact .nil
      refine .norm (S' := [(1, (.slice p6 others5.length k7)), (3, (.int .i64 glass13)), (4, (.int .i64 drawn14)), (5, (.pointer (some ⟨b15, 0, none⟩))), (11, (.int .i64 n_44)), (14, (.slice p146 b143.1.length k147)), (15, (.int .i64 b143.2)), (18, (.pointer (some ⟨b149, 0, none⟩))), (19, (.int .i64 last_151)), (20, (.int .i64 s153.1)), (21, (.pointer (some ⟨(env164.n 150), 0, none⟩))), (22, (.pointer (some ⟨(env164.n 160), 0, none⟩))), (123, (.slice p146 b143.1.length k147)), (124, (.pointer (some ⟨b167, 0 + (0 : Int).toNat * 5, none⟩))), (125, (.pointer (some ⟨b167, 0 + (0 : Int).toNat * 5 + 4, none⟩))), (126, (.slice p172 x165.Values.length k173)), (127, (.int .i64 s153.1)), (128, (.pointer (some ⟨b176, o177, none⟩))), (129, (eApiSpan x175)), (130, (.slice p146 b143.1.length k147)), (131, (.int .i64 last_151)), (132, (.pointer (some ⟨b187, 0 + (last_151).toNat * 5, none⟩))), (133, (.pointer (some ⟨b187, 0 + (last_151).toNat * 5 + 4, none⟩))), (134, (.slice p192 x185.Values.length k193)), (135, (.int .i64 s153.1)), (136, (.pointer (some ⟨b196, o197, none⟩))), (137, (eApiSpan x195))]) (.cons (k := 1) rfl (.cons (k := 3) rfl (.cons (k := 4) rfl (.cons (k := 5) rfl (.cons (k := 11) rfl (.cons (k := 14) rfl (.cons (k := 15) rfl (.cons (k := 18) rfl (.cons (k := 19) rfl (.cons (k := 20) rfl (.cons (k := 21) rfl (.cons (k := 22) rfl (.cons (k := 123) rfl (.cons (k := 124) rfl (.cons (k := 125) rfl (.cons (k := 126) rfl (.cons (k := 127) rfl (.cons (k := 128) rfl (.cons (k := 129) rfl (.cons (k := 130) rfl (.cons (k := 131) rfl (.cons (k := 132) rfl (.cons (k := 133) rfl (.cons (k := 134) rfl (.cons (k := 135) rfl (.cons (k := 136) rfl (.cons (k := 137) rfl (.nil _)))))))))))))))))))))))))))) (rfl : _ = [ownSl 2 (Ex cApiSpan) F_154 24 p156 k157 s153.2.Seen, pt b149 (.cells (cApiSuspect s153.2 p156 k157).toArray 44), ownSl 5 exO F_144 42 p146 k147 lx160, pt b49 (.cells (cApiBottling r_48.1).toArray 33), pt b15 (.cells (cApiBatch x16 p2 k3).toArray 26), R, pt (env164.n 150) (.cells (cApiSpan x175).toArray 24), pt (env164.n 160) (.cells (cApiSpan (ApiSpan.mk 0 0)).toArray 24)]) ?_
      refine .store (cs' := (cApiSpan x195)) Try.sizeOf24 rfl rfl rfl rfl (i := 7) rfl (Nat.le_of_ble_eq_true rfl) rfl (setMany_all (by rfl)) (.nil (.closeOwn 2 rfl ha163 hm162 ?_))
      refine .keep (.cons (k := 1) rfl (.cons (k := 3) rfl (.cons (k := 4) rfl (.cons (k := 5) rfl (.cons (k := 11) rfl (.cons (k := 14) rfl (.cons (k := 15) rfl (.cons (k := 18) rfl (.cons (k := 19) rfl (.cons (k := 20) rfl (.cons (k := 21) rfl (.cons (k := 22) rfl (.nil _))))))))))))) (.code (.seq (.seq (.region (.fieldAddr rfl Try.underlying24 rfl Try.sizeOf3 rfl (.loadO rfl Try.isAgg3 rfl (i := 6) rfl rfl ?_))))))
      refine .lss rfl rfl rfl (.move rfl rfl (.orP (b := (decide (x175.Lo < 0))) (b' := (decide (x175.Hi > 1048576))) 4 145 (fun hb245 => ?_) (fun hb246 => ?_) (fun F_247 l_248 => ?_)))
      ·skip
       refine .onH hb245 rfl rfl (.fieldAddr rfl Try.underlying24 rfl Try.sizeOf3 rfl (.onH hb245 rfl rfl (.loadO rfl Try.isAgg3 rfl (i := 6) rfl rfl (.onH hb245 rfl rfl (.gtr rfl rfl rfl (.pickFH hb245 rfl rfl rfl ?_))))))
       exact .fin 4 rfl rfl (by kernel_rfl) Fz.r
      ·skip
       refine .offH hb246 rfl rfl rfl (.offH hb246 rfl rfl rfl (.offH hb246 rfl rfl rfl (.pickTH hb246 rfl rfl rfl ?_)))
       exact .fin 4 rfl rfl (by kernel_rfl) Fz.r
      refine .move rfl rfl (.orP (b := ((decide (x175.Lo < 0)) || (decide (x175.Hi > 1048576)))) (b' := (decide (x195.Lo < 0))) 4 150 (fun hb249 => ?_) (fun hb250 => ?_) (fun F_251 l_252 => ?_))
      ·skip
       refine .onH hb249 rfl rfl (.fieldAddr rfl Try.underlying24 rfl Try.sizeOf3 rfl (.onH hb249 rfl rfl (.loadO rfl Try.isAgg3 rfl (i := 7) rfl rfl (.onH hb249 rfl rfl (.lss rfl rfl rfl (.pickFH hb249 rfl rfl rfl ?_))))))
       exact .fin 4 rfl rfl (by kernel_rfl) Fz.r
      ·skip
       refine .offH hb250 rfl rfl rfl (.offH hb250 rfl rfl rfl (.offH hb250 rfl rfl rfl (.pickTH hb250 rfl rfl rfl ?_)))
       exact .fin 4 rfl rfl (by kernel_rfl) Fz.r
      refine .move rfl rfl (.orP (b := (((decide (x175.Lo < 0)) || (decide (x175.Hi > 1048576))) || (decide (x195.Lo < 0)))) (b' := (decide (x195.Hi > 1048576))) 4 155 (fun hb253 => ?_) (fun hb254 => ?_) (fun F_255 l_256 => ?_))
      ·skip
       refine .onH hb253 rfl rfl (.fieldAddr rfl Try.underlying24 rfl Try.sizeOf3 rfl (.onH hb253 rfl rfl (.loadO rfl Try.isAgg3 rfl (i := 7) rfl rfl (.onH hb253 rfl rfl (.gtr rfl rfl rfl (.pickFH hb253 rfl rfl rfl ?_))))))
       exact .fin 4 rfl rfl (by kernel_rfl) Fz.r
      ·skip
       refine .offH hb254 rfl rfl rfl (.offH hb254 rfl rfl rfl (.offH hb254 rfl rfl rfl (.pickTH hb254 rfl rfl rfl ?_)))
       exact .fin 4 rfl rfl (by kernel_rfl) Fz.r
      refine .move rfl rfl (.orP (b := ((((decide (x175.Lo < 0)) || (decide (x175.Hi > 1048576))) || (decide (x195.Lo < 0))) || (decide (x195.Hi > 1048576)))) (b' := (decide (x175.Lo > x175.Hi))) 6 162 (fun hb257 => ?_) (fun hb258 => ?_) (fun F_259 l_260 => ?_))
      ·skip
       refine .onH hb257 rfl rfl (.fieldAddr rfl Try.underlying24 rfl Try.sizeOf3 rfl (.onH hb257 rfl rfl (.loadO rfl Try.isAgg3 rfl (i := 6) rfl rfl (.onH hb257 rfl rfl (.fieldAddr rfl Try.underlying24 rfl Try.sizeOf3 rfl (.onH hb257 rfl rfl (.loadO rfl Try.isAgg3 rfl (i := 6) rfl rfl (.onH hb257 rfl rfl (.gtr rfl rfl rfl (.pickFH hb257 rfl rfl rfl ?_))))))))))
       exact .fin 6 rfl rfl (by kernel_rfl) Fz.r
      ·skip
       refine .offH hb258 rfl rfl rfl (.offH hb258 rfl rfl rfl (.offH hb258 rfl rfl rfl (.offH hb258 rfl rfl rfl (.offH hb258 rfl rfl rfl (.pickTH hb258 rfl rfl rfl ?_)))))
       exact .fin 6 rfl rfl (by kernel_rfl) Fz.r
      refine .move rfl rfl (.orP (b := (((((decide (x175.Lo < 0)) || (decide (x175.Hi > 1048576))) || (decide (x195.Lo < 0))) || (decide (x195.Hi > 1048576))) || (decide (x175.Lo > x175.Hi)))) (b' := (decide (x195.Lo > x195.Hi))) 6 169 (fun hb261 => ?_) (fun hb262 => ?_) (fun F_263 l_264 => ?_))
      ·skip
       refine .onH hb261 rfl rfl (.fieldAddr rfl Try.underlying24 rfl Try.sizeOf3 rfl (.onH hb261 rfl rfl (.loadO rfl Try.isAgg3 rfl (i := 7) rfl rfl (.onH hb261 rfl rfl (.fieldAddr rfl Try.underlying24 rfl Try.sizeOf3 rfl (.onH hb261 rfl rfl (.loadO rfl Try.isAgg3 rfl (i := 7) rfl rfl (.onH hb261 rfl rfl (.gtr rfl rfl rfl (.pickFH hb261 rfl rfl rfl ?_))))))))))
       exact .fin 6 rfl rfl (by kernel_rfl) Fz.r
      ·skip
       refine .offH hb262 rfl rfl rfl (.offH hb262 rfl rfl rfl (.offH hb262 rfl rfl rfl (.offH hb262 rfl rfl rfl (.offH hb262 rfl rfl rfl (.pickTH hb262 rfl rfl rfl ?_)))))
       exact .fin 6 rfl rfl (by kernel_rfl) Fz.r
      refine .nil (.keep (.cons (k := 1) rfl (.cons (k := 3) rfl (.cons (k := 4) rfl (.cons (k := 5) rfl (.cons (k := 11) rfl (.cons (k := 14) rfl (.cons (k := 15) rfl (.cons (k := 18) rfl (.cons (k := 19) rfl (.cons (k := 20) rfl (.cons (k := 21) rfl (.cons (k := 22) rfl (.cons (k := 169) rfl (.nil _)))))))))))))) (.code (.cond rfl (fun hb265 => ?_) (fun hb265 => ?_))))
      ·skip
       refine .seq (.region (.call0 rfl Try.call6 rfl rfl rfl (c_wormtubtop_awake13 _ ) ?_))
       rintro r_268 F_266 _ - l_267 rfl
       refine .assign rfl rfl (.nil (.code (.drop 7 (.drop 6 (.drop 4 (.drop 3 (.drop 2 (.drop 1 (.drop 0 (.retQ (LPost.ret fun a w h => ⟨rfl, F_266, (Fz.t l_155 (Fz.t l_206 (Fz.t l_248 (Fz.t l_252 (Fz.t l_256 (Fz.t l_260 (Fz.t l_264 l_267))))))), h.1.sub (.cons (k := 10) rfl (.nil _)), h.2⟩)))))))))))
      ·skip
       refine .skip (.code (.seq (.region (.fieldAddr rfl Try.underlying26 rfl Try.sizeOf22 rfl (.loadO rfl Try.isAgg22 rfl (i := 4) rfl rfl (.idx rfl Try.underlying22 Try.sizeOf40 (h18.mono (Fz.t l_22 (Fz.t l_26 (Fz.t l_30 (Fz.t l_37 (Fz.t l_47 (Fz.t l_145 (Fz.t l_155 (Fz.t l_206 (Fz.t l_248 (Fz.t l_252 (Fz.t l_256 (Fz.t l_260 l_264))))))))))))) rfl rfl (fun x269 b270 o271 T272 fr273 cs274 e275 hm276 hv277 => ?_)))))))
       refine .fieldAddr rfl Try.underlying40 rfl Try.sizeOf3 rfl (.loadF rfl Try.isAgg3 rfl hm276 (cell_of_take (k := 24) hv277 rfl) (.assign rfl rfl (.nil (.code (.seq (.region (.move rfl rfl (.fieldAddr rfl Try.underlying24 rfl Try.sizeOf3 rfl (.loadO rfl Try.isAgg3 rfl (i := 6) rfl rfl (.mul rfl rfl rfl (.move rfl rfl ?_)))))))))))
       refine .move rfl rfl (.sub rfl rfl rfl (.fieldAddr rfl Try.underlying24 rfl Try.sizeOf3 rfl (.loadO rfl Try.isAgg3 rfl (i := 7) rfl rfl (.mul rfl rfl rfl (.add rfl rfl rfl (.move rfl rfl (.quo rfl rfl rfl (fun q279 e280 => ?_))))))))
       refine .assign rfl rfl (.nil (.keep (.cons (k := 1) rfl (.cons (k := 3) rfl (.cons (k := 4) rfl (.cons (k := 5) rfl (.cons (k := 11) rfl (.cons (k := 14) rfl (.cons (k := 15) rfl (.cons (k := 18) rfl (.cons (k := 19) rfl (.cons (k := 20) rfl (.cons (k := 21) rfl (.cons (k := 22) rfl (.cons (k := 23) rfl (.cons (k := 24) rfl (.nil _))))))))))))))) (.code (.seq (.region (.move rfl rfl ?_))))))
       refine .fieldAddr rfl Try.underlying24 rfl Try.sizeOf3 rfl (.loadO rfl Try.isAgg3 rfl (i := 6) rfl rfl (.mul rfl rfl rfl (.move rfl rfl (.move rfl rfl (.sub rfl rfl rfl (.fieldAddr rfl Try.underlying24 rfl Try.sizeOf3 rfl (.loadO rfl Try.isAgg3 rfl (i := 7) rfl rfl (.mul rfl rfl rfl (.add rfl rfl rfl (.move rfl rfl (.add rfl rfl rfl ?_)))))))))))
       refine .sub rfl rfl rfl (.move rfl rfl (.quo rfl rfl rfl (fun q281 e282 => ?_)))
       refine .assign rfl rfl (.nil (.keep (.cons (k := 1) rfl (.cons (k := 3) rfl (.cons (k := 4) rfl (.cons (k := 5) rfl (.cons (k := 11) rfl (.cons (k := 14) rfl (.cons (k := 15) rfl (.cons (k := 18) rfl (.cons (k := 19) rfl (.cons (k := 20) rfl (.cons (k := 24) rfl (.cons (k := 25) rfl (.nil _))))))))))))) (.code (.region (.fieldAddr rfl Try.underlying44 rfl Try.sizeOf28 rfl ?_)))))
       refine .loadO rfl Try.isAgg28 rfl (i := 1) rfl rfl (.move rfl rfl (.move rfl rfl (.build (cs := (cApiSpan (ApiSpan.mk q279 q281)).toArray) rfl Try.underlying24 Try.zeroValue24 (plApiSpan _ Try.underlying24) rfl rfl (by kernel_rfl) ?_)))
       refine .sliceLit (cs := [.int .i64 (ApiSpan.mk q279 q281).Lo, .int .i64 (ApiSpan.mk q279 q281).Hi]) (zc := [.int .i64 (ApiSpan.mk 0 0).Lo, .int .i64 (ApiSpan.mk 0 0).Hi]) rfl Try.underlying28 Try.sizeOf24 Try.zeroValue24 rfl rfl rfl (by kernel_rfl) (by kernel_rfl) (fun b283 F_284 l_285 hb286 => ?_)
       have h287 : RepSl 2 (Ex cApiSpan) F_284 (some ⟨b283, 0, none⟩) 1 ([(ApiSpan.mk q279 q281)]) := RepSl.ofRow hb286 (.cons ok_t24.mono rfl .nil) rfl rfl
       refine .append 0 ok_t24 (Fz.t l_206 (Fz.t l_248 (Fz.t l_252 (Fz.t l_256 (Fz.t l_260 (Fz.t l_264 l_285)))))) rfl Try.underlying28 Try.underlying28 rfl rfl rfl h287 rfl rfl (fun l_288 p289 k290 e291 => ?_)
       refine .fieldAddr rfl Try.underlying44 rfl Try.sizeOf28 rfl (.letv (fun x292 e293 => ?_))
       refine .ownConv 0 rfl (show l_288 = x292.Seen by rw [e293]) (.store (cs' := (cApiSuspect x292 p289 k290)) Try.sizeOf28 rfl rfl rfl rfl (i := 1) rfl (Nat.le_of_ble_eq_true rfl) rfl (by rw [e293]; kernel_rfl) (.nil (.block (.code (.region (.move rfl rfl (.add rfl rfl rfl (.assignL rfl rfl (fun q294 e295 => ?_)))))))))
       refine .nil (.drop 7 (.drop 6 ?_))
       exact .nil (LPost.norm fun a w h => ⟨F_284, p289, k290, (Fz.t l_155 (Fz.t l_206 (Fz.t l_248 (Fz.t l_252 (Fz.t l_256 (Fz.t l_260 (Fz.t l_264 l_285))))))), h.1.sub (.cons (k := 1) rfl (.cons (k := 3) rfl (.cons (k := 4) rfl (.cons (k := 5) rfl (.cons (k := 11) rfl (.cons (k := 14) rfl (.cons (k := 15) rfl (.cons (k := 18) rfl (.cons (k := 19) rfl (.cons (k := 20) rfl (.nil _))))))))))), h.2⟩)
     ·skip
      refine .exitOut rfl (LPost.exit fun a w h => ⟨rfl, F_154, p156, k157, l_155, h.1.sub (.cons (k := 1) rfl (.cons (k := 3) rfl (.cons (k := 4) rfl (.cons (k := 5) rfl (.cons (k := 14) rfl (.cons (k := 15) rfl (.cons (k := 18) rfl (.cons (k := 19) rfl (.nil _))))))))), h.2⟩)
    ·intro b296 hb0 hk e a w hD
     rcases b296 with b296 | b296
     ·skip
      obtain ⟨rfl, F_297, p299, k300, l_298, hA⟩ := hD
      refine interp_exit rfl (GE.app ?_ hk a w hA)
      refine .code (.seq (.region (.move rfl rfl (.move rfl rfl (.append 2 ok_t42 l_298 rfl Try.underlying27 Try.underlying27 rfl rfl rfl (h8.mono (Fz.t l_22 (Fz.t l_26 (Fz.t l_30 (Fz.t l_37 (Fz.t l_47 (Fz.t l_145 l_298))))))) rfl rfl (fun l_304 p305 k306 e307 => ?_))))))
      refine .assign rfl rfl (.nil (.code (.seq (.seq (.region (.move rfl rfl (.lss rfl rfl rfl (.move rfl rfl (.orP (b := (decide (glass13 < 0))) (b' := (decide (glass13 > drawn14))) 4 222 (fun hb308 => ?_) (fun hb309 => ?_) (fun F_310 l_311 => ?_))))))))))
      ·skip
       refine .onH hb308 rfl rfl (.move rfl rfl (.onH hb308 rfl rfl (.move rfl rfl (.onH hb308 rfl rfl (.gtr rfl rfl rfl (.pickFH hb308 rfl rfl rfl ?_))))))
       exact .fin 4 rfl rfl (by kernel_rfl) Fz.r
      ·skip
       refine .offH hb309 rfl rfl rfl (.offH hb309 rfl rfl rfl (.offH hb309 rfl rfl rfl (.pickTH hb309 rfl rfl rfl ?_)))
       exact .fin 4 rfl rfl (by kernel_rfl) Fz.r
      refine .move rfl rfl (.freezeSl 2 rfl l_311 (fun F_312 l_313 h314 => ?_))
      refine .orM (b := ((decide (glass13 < 0)) || (decide (glass13 > drawn14)))) 4 227 (fun hb315 z323 => ?_) (fun hb319 => ?_) (fun z322 F_320 l_321 => ?_)
      ·skip
       refine .onH hb315 rfl rfl (.move rfl rfl (.onH hb315 rfl rfl (.call0 rfl Try.call8 rfl rfl rfl (c_wormtubref13_Sources _ l_304 p305 k306 h314) ?_)))
       rintro r_318 F_316 _ - l_317 rfl
       refine .onH hb315 rfl rfl (.not rfl rfl (.pickFH hb315 rfl rfl rfl ?_))
       exact .finZ 4 rfl rfl (by kernel_rfl) l_317
      ·skip
       refine .offH hb319 rfl rfl rfl (.offH hb319 rfl rfl rfl (.offH hb319 rfl rfl rfl (.pickTH hb319 rfl rfl rfl ?_)))
       exact .fin 4 rfl rfl (by kernel_rfl) Fz.r
      refine .move rfl rfl (.freezeSl 0 rfl (Fz.t l_311 (Fz.t l_313 l_321)) (fun F_324 l_325 h326 => ?_))
      refine .orM (b := z322) 5 233 (fun hb327 z335 => ?_) (fun hb331 => ?_) (fun z334 F_332 l_333 => ?_)
      ·skip
       refine .onH hb327 rfl rfl (.loadOA rfl Try.isAgg44 Try.sizeOf44 rfl (i := 0) rfl (vs := (cApiSuspect b296 p299 k300)) (by kernel_rfl) rfl (.onH hb327 rfl rfl (.move rfl rfl (.onH hb327 rfl rfl (.call0 rfl Try.call9 rfl rfl rfl (c_wormtubref13_Suspect _ b296 p299 k300 h326 l_304 p305 k306 (h314.mono (Fz.t l_321 l_325))) ?_)))))
       rintro r_330 F_328 _ - l_329 rfl
       refine .onH hb327 rfl rfl (.not rfl rfl (.pickFH hb327 rfl rfl rfl ?_))
       exact .finZ 5 rfl rfl (by kernel_rfl) l_329
      ·skip
       refine .offH hb331 rfl rfl rfl (.offH hb331 rfl rfl rfl (.offH hb331 rfl rfl rfl (.offH hb331 rfl rfl rfl (.pickTH hb331 rfl rfl rfl ?_))))
       exact .fin 5 rfl rfl (by kernel_rfl) Fz.r
      refine .nil (.code (.cond rfl (fun hb336 => ?_) (fun hb336 => ?_)))
      ·skip
       refine .seq (.region (.call0 rfl Try.call6 rfl rfl rfl (c_wormtubtop_awake13 _ ) ?_))
       rintro r_339 F_337 _ - l_338 rfl
       refine .assign rfl rfl (.nil (.code ?_))
       exact .ret0 Try.results3 (.tmp rfl (.nil)) (i := 3) rfl (Fz.t l_22 (Fz.t l_26 (Fz.t l_30 (Fz.t l_37 (Fz.t l_47 (Fz.t l_145 (Fz.t l_298 (Fz.t l_311 (Fz.t l_313 (Fz.t l_321 (Fz.t l_325 (Fz.t l_333 l_338)))))))))))) rfl
      ·skip
       refine .skip (.code (.seq (.region (.loadOA rfl Try.isAgg44 Try.sizeOf44 rfl (i := 0) rfl (vs := (cApiSuspect b296 p299 k300)) (by kernel_rfl) rfl (.move rfl rfl (.call0 rfl Try.call10 rfl rfl rfl (c_genuine_Origins _ b296 p299 k300 (h326.mono l_333) l_304 p305 k306 (h314.mono (Fz.t l_321 (Fz.t l_325 l_333)))) ?_))))))
       rintro r_342 F_340 _ - l_341 ⟨p343, k344, p346, k347, rfl, h345, h348⟩
       refine .move rfl rfl (.extract rfl rfl rfl (.extract rfl rfl rfl (.extract rfl rfl rfl (.assign rfl rfl (.assign rfl rfl (.assign rfl rfl (.nil (.keep (.cons (k := 5) rfl (.cons (k := 14) rfl (.cons (k := 15) rfl (.cons (k := 18) rfl (.cons (k := 19) rfl (.cons (k := 26) rfl (.cons (k := 27) rfl (.cons (k := 28) rfl (.nil _))))))))) (.code (.seq (.region ?_)))))))))))
       refine .loadOA rfl Try.isAgg44 Try.sizeOf44 rfl (i := 0) rfl (vs := (cApiSuspect b296 p299 k300)) (by kernel_rfl) rfl (.move rfl rfl (.move rfl rfl (.call0 rfl Try.call11 rfl rfl rfl (c_genuine_Share _ b296 p299 k300 (h326.mono (Fz.t l_333 l_341)) l_304 p305 k306 (h314.mono (Fz.t l_321 (Fz.t l_325 (Fz.t l_333 l_341)))) 0 last_151) ?_)))
       rintro r_351 F_349 _ - l_350 rfl
       refine .move rfl rfl (.extract rfl rfl rfl (.extract rfl rfl rfl (.extract rfl rfl rfl (.alloc (cs := (cApiPortion (ApiPortion.mk 0 0))) rfl Try.zeroValue52 rfl (fun b352 => ?_)))))
       refine .alloc (cs := (cApiPortion (ApiPortion.mk 0 0))) rfl Try.zeroValue52 rfl (fun b353 => ?_)
       refine .store (cs' := (cApiPortion r_351.1)) Try.sizeOf52 rfl rfl rfl rfl (i := 1) rfl (Nat.le_of_ble_eq_true rfl) rfl (setMany_all (by rfl)) (.store (cs' := (cApiPortion r_351.2.1)) Try.sizeOf52 rfl rfl rfl rfl (i := 0) rfl (Nat.le_of_ble_eq_true rfl) rfl (setMany_all (by rfl)) (.assign rfl rfl (.nil (.code (.seq (.region (.fieldAddr rfl Try.underlying26 rfl Try.sizeOf22 rfl ?_)))))))
       refine .loadO rfl Try.isAgg22 rfl (i := 4) rfl rfl (.idx rfl Try.underlying22 Try.sizeOf40 (h18.mono (Fz.t l_22 (Fz.t l_26 (Fz.t l_30 (Fz.t l_37 (Fz.t l_47 (Fz.t l_145 (Fz.t l_298 (Fz.t l_311 (Fz.t l_313 (Fz.t l_321 (Fz.t l_325 (Fz.t l_333 (Fz.t l_341 l_350)))))))))))))) rfl rfl (fun x354 b355 o356 T357 fr358 cs359 e360 hm361 hv362 => ?_))
       refine .fieldAddr rfl Try.underlying40 rfl Try.sizeOf3 rfl (.loadF rfl Try.isAgg3 rfl hm361 (cell_of_take (k := 24) hv362 rfl) (.assign rfl rfl (.nil (.keep (.cons (k := 15) rfl (.cons (k := 19) rfl (.cons (k := 26) rfl (.cons (k := 27) rfl (.cons (k := 28) rfl (.cons (k := 29) rfl (.cons (k := 30) rfl (.cons (k := 31) rfl (.cons (k := 32) rfl (.nil _)))))))))) (.code (.seq (.seq (.region (.move rfl rfl ?_)))))))))
       refine .neq rfl rfl rfl (.move rfl rfl (.orP (b := (r_342.2.2 != 0)) (b' := (r_351.2.2 != 0)) 3 260 (fun hb364 => ?_) (fun hb365 => ?_) (fun F_366 l_367 => ?_)))
       ·skip
        refine .onH hb364 rfl rfl (.move rfl rfl (.onH hb364 rfl rfl (.neq rfl rfl rfl (.pickFH hb364 rfl rfl rfl ?_))))
        exact .fin 3 rfl rfl (by kernel_rfl) Fz.r
       ·skip
        refine .offH hb365 rfl rfl rfl (.offH hb365 rfl rfl rfl (.pickTH hb365 rfl rfl rfl ?_))
        exact .fin 3 rfl rfl (by kernel_rfl) Fz.r
       refine .move rfl rfl (.orP (b := ((r_342.2.2 != 0) || (r_351.2.2 != 0))) (b' := (decide (r_351.1.Den < 1))) 4 265 (fun hb368 => ?_) (fun hb369 => ?_) (fun F_370 l_371 => ?_))
       ·skip
        refine .onH hb368 rfl rfl (.fieldAddr rfl Try.underlying52 rfl Try.sizeOf3 rfl (.onH hb368 rfl rfl (.loadO rfl Try.isAgg3 rfl (i := 1) rfl rfl (.onH hb368 rfl rfl (.lss rfl rfl rfl (.pickFH hb368 rfl rfl rfl ?_))))))
        exact .fin 4 rfl rfl (by kernel_rfl) Fz.r
       ·skip
        refine .offH hb369 rfl rfl rfl (.offH hb369 rfl rfl rfl (.offH hb369 rfl rfl rfl (.pickTH hb369 rfl rfl rfl ?_)))
        exact .fin 4 rfl rfl (by kernel_rfl) Fz.r
       refine .move rfl rfl (.orP (b := (((r_342.2.2 != 0) || (r_351.2.2 != 0)) || (decide (r_351.1.Den < 1)))) (b' := (decide (r_351.2.1.Den < 1))) 4 270 (fun hb372 => ?_) (fun hb373 => ?_) (fun F_374 l_375 => ?_))
       ·skip
        refine .onH hb372 rfl rfl (.fieldAddr rfl Try.underlying52 rfl Try.sizeOf3 rfl (.onH hb372 rfl rfl (.loadO rfl Try.isAgg3 rfl (i := 0) rfl rfl (.onH hb372 rfl rfl (.lss rfl rfl rfl (.pickFH hb372 rfl rfl rfl ?_))))))
        exact .fin 4 rfl rfl (by kernel_rfl) Fz.r
       ·skip
        refine .offH hb373 rfl rfl rfl (.offH hb373 rfl rfl rfl (.offH hb373 rfl rfl rfl (.pickTH hb373 rfl rfl rfl ?_)))
        exact .fin 4 rfl rfl (by kernel_rfl) Fz.r
       refine .move rfl rfl (.orP (b := ((((r_342.2.2 != 0) || (r_351.2.2 != 0)) || (decide (r_351.1.Den < 1))) || (decide (r_351.2.1.Den < 1)))) (b' := (decide ((w64 (r_351.1.Num * b143.2)) > (w64 (x354.Amount * r_351.1.Den))))) 10 281 (fun hb376 => ?_) (fun hb377 => ?_) (fun F_378 l_379 => ?_))
       ·skip
        refine .onH hb376 rfl rfl (.fieldAddr rfl Try.underlying52 rfl Try.sizeOf3 rfl (.onH hb376 rfl rfl (.loadO rfl Try.isAgg3 rfl (i := 1) rfl rfl (.onH hb376 rfl rfl (.move rfl rfl (.onH hb376 rfl rfl (.mul rfl rfl rfl (.onH hb376 rfl rfl (.move rfl rfl (.onH hb376 rfl rfl (.fieldAddr rfl Try.underlying52 rfl Try.sizeOf3 rfl ?_)))))))))))
        refine .onH hb376 rfl rfl (.loadO rfl Try.isAgg3 rfl (i := 1) rfl rfl (.onH hb376 rfl rfl (.mul rfl rfl rfl (.onH hb376 rfl rfl (.gtr rfl rfl rfl (.pickFH hb376 rfl rfl rfl ?_))))))
        exact .fin 10 rfl rfl (by kernel_rfl) Fz.r
       ·skip
        refine .offH hb377 rfl rfl rfl (.offH hb377 rfl rfl rfl (.offH hb377 rfl rfl rfl (.offH hb377 rfl rfl rfl (.offH hb377 rfl rfl rfl (.offH hb377 rfl rfl rfl (.offH hb377 rfl rfl rfl (.offH hb377 rfl rfl rfl (.offH hb377 rfl rfl rfl (.pickTH hb377 rfl rfl rfl ?_)))))))))
        exact .fin 10 rfl rfl (by kernel_rfl) Fz.r
       refine .move rfl rfl (.orP (b := (((((r_342.2.2 != 0) || (r_351.2.2 != 0)) || (decide (r_351.1.Den < 1))) || (decide (r_351.2.1.Den < 1))) || (decide ((w64 (r_351.1.Num * b143.2)) > (w64 (x354.Amount * r_351.1.Den)))))) (b' := (decide ((w64 (r_351.2.1.Num * b143.2)) < (w64 (x354.Amount * r_351.2.1.Den))))) 10 292 (fun hb380 => ?_) (fun hb381 => ?_) (fun F_382 l_383 => ?_))
       ·skip
        refine .onH hb380 rfl rfl (.fieldAddr rfl Try.underlying52 rfl Try.sizeOf3 rfl (.onH hb380 rfl rfl (.loadO rfl Try.isAgg3 rfl (i := 0) rfl rfl (.onH hb380 rfl rfl (.move rfl rfl (.onH hb380 rfl rfl (.mul rfl rfl rfl (.onH hb380 rfl rfl (.move rfl rfl (.onH hb380 rfl rfl (.fieldAddr rfl Try.underlying52 rfl Try.sizeOf3 rfl ?_)))))))))))
        refine .onH hb380 rfl rfl (.loadO rfl Try.isAgg3 rfl (i := 0) rfl rfl (.onH hb380 rfl rfl (.mul rfl rfl rfl (.onH hb380 rfl rfl (.lss rfl rfl rfl (.pickFH hb380 rfl rfl rfl ?_))))))
        exact .fin 10 rfl rfl (by kernel_rfl) Fz.r
       ·skip
        refine .offH hb381 rfl rfl rfl (.offH hb381 rfl rfl rfl (.offH hb381 rfl rfl rfl (.offH hb381 rfl rfl rfl (.offH hb381 rfl rfl rfl (.offH hb381 rfl rfl rfl (.offH hb381 rfl rfl rfl (.offH hb381 rfl rfl rfl (.offH hb381 rfl rfl rfl (.pickTH hb381 rfl rfl rfl ?_)))))))))
        exact .fin 10 rfl rfl (by kernel_rfl) Fz.r
       refine .nil (.code (.cond rfl (fun hb384 => ?_) (fun hb384 => ?_)))
       ·skip
        refine .seq (.region (.assign rfl rfl (.nil (.code ?_))))
        exact .ret0 Try.results3 (.tmp rfl (.nil)) (i := 5) rfl (Fz.t l_22 (Fz.t l_26 (Fz.t l_30 (Fz.t l_37 (Fz.t l_47 (Fz.t l_145 (Fz.t l_298 (Fz.t l_311 (Fz.t l_313 (Fz.t l_321 (Fz.t l_325 (Fz.t l_333 (Fz.t l_341 (Fz.t l_350 (Fz.t l_367 (Fz.t l_371 (Fz.t l_375 (Fz.t l_379 l_383)))))))))))))))))) rfl
       ·skip
        refine .skip (.code (.seq (.seq (.region (.assign rfl rfl (.nil (.code (.block (.keep (.cons (k := 19) rfl (.cons (k := 26) rfl (.cons (k := 27) rfl (.cons (k := 33) rfl (.nil _))))) ?_)))))))))
        refine .loop (fun (s385 : Int) a w => ∃ (F_386 : Fz), F_382 ≤ F_386 ∧ Hd 320 [] [(19, (.int .i64 last_151)), (26, (.slice p343 r_342.1.length k344)), (27, (.slice p346 r_342.2.1.length k347)), (33, (.int .i64 s385))] F_386 [pt b353 (.cells (cApiPortion r_351.2.1).toArray 52), pt b352 (.cells (cApiPortion r_351.1).toArray 52), pt b149 (.cells (cApiSuspect b296 p299 k300).toArray 44), pt b49 (.cells (cApiBottling r_48.1).toArray 33), pt b15 (.cells (cApiBatch x16 p2 k3).toArray 26), R] a w) (fun b0 e a w => match b0 with | .inl b405 => e = .exit 4 ∧ ∃ (F_406 : Fz), F_382 ≤ F_406 ∧ Hd 320 [] [(19, (.int .i64 last_151)), (27, (.slice p346 r_342.2.1.length k347))] F_406 [pt b353 (.cells (cApiPortion r_351.2.1).toArray 52), pt b352 (.cells (cApiPortion r_351.1).toArray 52), pt b149 (.cells (cApiSuspect b296 p299 k300).toArray 44), pt b49 (.cells (cApiBottling r_48.1).toArray 33), pt b15 (.cells (cApiBatch x16 p2 k3).toArray 26), R] a w | .inr b405 => e = .ret ∧ ∃ (F_408 : Fz), F_382 ≤ F_408 ∧ Hd 320 [] [(10, (.bool b405))] F_408 [R] a w) ?_ ?_ ?_
        ·exact fun a w h => ⟨F_382, Fz.r, h.1.sub (.cons (k := 19) rfl (.cons (k := 26) rfl (.cons (k := 27) rfl (.cons (k := 33) rfl (.nil _))))), h.2⟩
        ·intro s385 ctl
         refine GC.ex (fun a w ⟨F_386, l_387, hA⟩ => ⟨_, hA, ?_⟩)
         unfold b_wormtubtop_TopForged_3
         refine .seq (.seq (.region (.move rfl rfl (.move rfl rfl (.lenS rfl rfl Try.underlying47 rfl (.lss rfl rfl rfl (.nil (.code (.cond rfl (fun hb388 => ?_) (fun hb388 => ?_))))))))))
         ·skip
          refine .skip (.code (.seq (.block (.seq (.region (.move rfl rfl (.move rfl rfl (.idx rfl Try.underlying47 Try.sizeOf3 (h345.mono (Fz.t l_350 (Fz.t l_367 (Fz.t l_371 (Fz.t l_375 (Fz.t l_379 (Fz.t l_383 l_387))))))) rfl rfl (fun x389 b390 o391 T392 fr393 cs394 e395 hm396 hv397 => ?_)))))))))
          refine .loadF rfl Try.isAgg3 rfl hm396 (cell_of_take (k := 0) hv397 rfl) (.move rfl rfl (.leq rfl rfl rfl (.nil (.code (.cond rfl (fun hb399 => ?_) (fun hb399 => ?_))))))
          ·skip
           refine .seq (.region (.call0 rfl Try.call6 rfl rfl rfl (c_wormtubtop_awake13 _ ) ?_))
           rintro r_402 F_400 _ - l_401 rfl
           refine .assign rfl rfl (.nil (.code (.drop 4 (.drop 3 (.drop 2 (.drop 1 (.drop 0 (.retQ (LPost.ret fun a w h => ⟨rfl, F_400, (Fz.t l_387 l_401), h.1.sub (.cons (k := 10) rfl (.nil _)), h.2⟩)))))))))
          ·skip
           refine .skip (.block (.code (.region (.move rfl rfl (.add rfl rfl rfl (.assignL rfl rfl (fun i403 e404 => ?_)))))))
           refine .nil ?_
           exact .nil (LPost.norm fun a w h => ⟨F_386, l_387, h.1.sub (.cons (k := 19) rfl (.cons (k := 26) rfl (.cons (k := 27) rfl (.cons (k := 33) rfl (.nil _))))), h.2⟩)
         ·skip
          refine .exitOut rfl (LPost.exit fun a w h => ⟨rfl, F_386, l_387, h.1.sub (.cons (k := 19) rfl (.cons (k := 27) rfl (.nil _))), h.2⟩)
        ·intro b405 hb0 hk e a w hD
         rcases b405 with b405 | b405
         ·skip
          obtain ⟨rfl, F_406, l_407, hA⟩ := hD
          refine interp_exit rfl (GE.app ?_ hk a w hA)
          refine .code (.seq (.seq (.region (.assign rfl rfl (.nil (.code (.block (.keep (.cons (k := 19) rfl (.cons (k := 27) rfl (.cons (k := 34) rfl (.nil _)))) ?_))))))))
          refine .loop (fun (s410 : Int) a w => ∃ (F_411 : Fz), F_406 ≤ F_411 ∧ Hd 320 [] [(19, (.int .i64 last_151)), (27, (.slice p346 r_342.2.1.length k347)), (34, (.int .i64 s410))] F_411 [pt b353 (.cells (cApiPortion r_351.2.1).toArray 52), pt b352 (.cells (cApiPortion r_351.1).toArray 52), pt b149 (.cells (cApiSuspect b296 p299 k300).toArray 44), pt b49 (.cells (cApiBottling r_48.1).toArray 33), pt b15 (.cells (cApiBatch x16 p2 k3).toArray 26), R] a w) (fun b0 e a w => match b0 with | .inl b430 => e = .exit 6 ∧ ∃ (F_431 : Fz), F_406 ≤ F_431 ∧ Hd 320 [] [] F_431 [pt b353 (.cells (cApiPortion r_351.2.1).toArray 52), pt b352 (.cells (cApiPortion r_351.1).toArray 52), pt b149 (.cells (cApiSuspect b296 p299 k300).toArray 44), pt b49 (.cells (cApiBottling r_48.1).toArray 33), pt b15 (.cells (cApiBatch x16 p2 k3).toArray 26), R] a w | .inr b430 => e = .ret ∧ ∃ (F_433 : Fz), F_406 ≤ F_433 ∧ Hd 320 [] [(10, (.bool b430))] F_433 [R] a w) ?_ ?_ ?_
          ·exact fun a w h => ⟨F_406, Fz.r, h.1.sub (.cons (k := 19) rfl (.cons (k := 27) rfl (.cons (k := 34) rfl (.nil _)))), h.2⟩
          ·intro s410 ctl
           refine GC.ex (fun a w ⟨F_411, l_412, hA⟩ => ⟨_, hA, ?_⟩)
           unfold b_wormtubtop_TopForged_4
           refine .seq (.seq (.region (.move rfl rfl (.move rfl rfl (.lenS rfl rfl Try.underlying48 rfl (.lss rfl rfl rfl (.nil (.code (.cond rfl (fun hb413 => ?_) (fun hb413 => ?_))))))))))
           ·skip
            refine .skip (.code (.seq (.block (.seq (.region (.move rfl rfl (.move rfl rfl (.idx rfl Try.underlying48 Try.sizeOf55 (h348.mono (Fz.t l_350 (Fz.t l_367 (Fz.t l_371 (Fz.t l_375 (Fz.t l_379 (Fz.t l_383 (Fz.t l_407 l_412)))))))) rfl rfl (fun x414 b415 o416 T417 fr418 cs419 e420 hm421 hv422 => ?_)))))))))
            refine .loadFA rfl Try.isAgg55 Try.sizeOf55 rfl hm421 hv422 rfl (.move rfl rfl (.buildA (cs := ((cArr 2 (cInt .i64)) (arrOf [0, last_151] 0)).toArray) rfl Try.underlying55 Try.zeroValue55 Try.sizeOf3 rfl rfl (by kernel_rfl) (.eqlR rfl Try.eqGuardType55 (fun w => req_55 x414 (arrOf [0, last_151] 0) w) rfl rfl (.nil (.code (.cond rfl (fun hb424 => ?_) (fun hb424 => ?_)))))))
            ·skip
             refine .seq (.region (.call0 rfl Try.call6 rfl rfl rfl (c_wormtubtop_awake13 _ ) ?_))
             rintro r_427 F_425 _ - l_426 rfl
             refine .assign rfl rfl (.nil (.code (.drop 4 (.drop 3 (.drop 2 (.drop 1 (.drop 0 (.retQ (LPost.ret fun a w h => ⟨rfl, F_425, (Fz.t l_412 l_426), h.1.sub (.cons (k := 10) rfl (.nil _)), h.2⟩)))))))))
            ·skip
             refine .skip (.block (.code (.region (.move rfl rfl (.add rfl rfl rfl (.assignL rfl rfl (fun i428 e429 => ?_)))))))
             refine .nil ?_
             exact .nil (LPost.norm fun a w h => ⟨F_411, l_412, h.1.sub (.cons (k := 19) rfl (.cons (k := 27) rfl (.cons (k := 34) rfl (.nil _)))), h.2⟩)
           ·skip
            refine .exitOut rfl (LPost.exit fun a w h => ⟨rfl, F_411, l_412, h.1.sub (.nil _), h.2⟩)
          ·intro b430 hb0 hk e a w hD
           rcases b430 with b430 | b430
           ·skip
            obtain ⟨rfl, F_431, l_432, hA⟩ := hD
            refine interp_exit rfl (GE.app ?_ hk a w hA)
            refine .code (.seq (.region (.assign rfl rfl (.nil (.code ?_)))))
            exact .ret0 Try.results3 (.tmp rfl (.nil)) (i := 5) rfl (Fz.t l_22 (Fz.t l_26 (Fz.t l_30 (Fz.t l_37 (Fz.t l_47 (Fz.t l_145 (Fz.t l_298 (Fz.t l_311 (Fz.t l_313 (Fz.t l_321 (Fz.t l_325 (Fz.t l_333 (Fz.t l_341 (Fz.t l_350 (Fz.t l_367 (Fz.t l_371 (Fz.t l_375 (Fz.t l_379 (Fz.t l_383 (Fz.t l_407 l_432)))))))))))))))))))) rfl
           obtain ⟨rfl, F_433, l_434, hA⟩ := hD
           exact interp_ret ((ret_post0 Try.results3 (.tmp rfl (.nil)) (i := 0) rfl (Fz.t l_22 (Fz.t l_26 (Fz.t l_30 (Fz.t l_37 (Fz.t l_47 (Fz.t l_145 (Fz.t l_298 (Fz.t l_311 (Fz.t l_313 (Fz.t l_321 (Fz.t l_325 (Fz.t l_333 (Fz.t l_341 (Fz.t l_350 (Fz.t l_367 (Fz.t l_371 (Fz.t l_375 (Fz.t l_379 (Fz.t l_383 (Fz.t l_407 l_434)))))))))))))))))))) rfl) hk a w hA)
         obtain ⟨rfl, F_408, l_409, hA⟩ := hD
         exact interp_ret ((ret_post0 Try.results3 (.tmp rfl (.nil)) (i := 0) rfl (Fz.t l_22 (Fz.t l_26 (Fz.t l_30 (Fz.t l_37 (Fz.t l_47 (Fz.t l_145 (Fz.t l_298 (Fz.t l_311 (Fz.t l_313 (Fz.t l_321 (Fz.t l_325 (Fz.t l_333 (Fz.t l_341 (Fz.t l_350 (Fz.t l_367 (Fz.t l_371 (Fz.t l_375 (Fz.t l_379 (Fz.t l_383 l_409))))))))))))))))))) rfl) hk a w hA)
     obtain ⟨rfl, F_302, l_303, hA⟩ := hD
     exact interp_ret ((ret_post0 Try.results3 (.tmp rfl (.nil)) (i := 0) rfl (Fz.t l_22 (Fz.t l_26 (Fz.t l_30 (Fz.t l_37 (Fz.t l_47 (Fz.t l_145 l_303)))))) rfl) hk a w hA)
end Go.Proofs.Ytkffpbnbjnadnaa
end

section
namespace Go.Proofs.Ytkffpbnbjnadnaa
open Go.Dec
theorem check_loop {α β : Type} {body : Int → Option (Ctl Int β)} {good : β} {bad : Nat → β} {p : α → Bool} {l : List α}
    (hs : ∀ (i : Nat) (x : α), l[i]? = some x → body (i : Int) = if p x then some (.next ((i + 1 : Nat) : Int)) else some (.done (bad i)))
    (he : body (l.length : Int) = some (.done good)) :
    ∀ (d i : Nat), i + d = l.length → ((∀ x ∈ l.drop i, p x = true) ∧ loopM body (i : Int) = some good) ∨ (∃ (k : Nat) (x : α), l[k]? = some x ∧ p x = false ∧ loopM body (i : Int) = some (bad k))
  | 0, i, h => by
    have : i = l.length := by omega
    subst this
    exact .inl ⟨by simp, by rw [loopM_eq, he]⟩
  | d + 1, i, h => by
    have hi : i < l.length := by omega
    have hx : l[i]? = some l[i] := List.getElem?_eq_getElem hi
    have hb := hs i _ hx
    cases hp : p l[i] with
    | false =>
      rw [hp] at hb
      simp only [Bool.false_eq_true, if_false] at hb
      exact .inr ⟨i, _, hx, hp, by rw [loopM_eq, hb]⟩
    | true =>
      rw [hp] at hb
      simp only [if_true] at hb
      rcases check_loop hs he d (i + 1) (by omega) with ⟨h1, h2⟩ | ⟨k, x, h2, h3, h4⟩
      · refine .inl ⟨fun x hx' => ?_, by rw [loopM_eq, hb]; exact h2⟩
        rw [List.drop_eq_getElem_cons hi] at hx'
        rcases List.mem_cons.1 hx' with rfl | hx'
        · exact hp
        · exact h1 x hx'
      · exact .inr ⟨k, x, h2, h3, by rw [loopM_eq, hb]; exact h4⟩
theorem check0 {α β : Type} {body : Int → Option (Ctl Int β)} {good : β} (bad : Nat → β) (p : α → Bool) {l : List α}
    (hs : ∀ (i : Nat) (x : α), l[i]? = some x → body (i : Int) = if p x then some (.next ((i + 1 : Nat) : Int)) else some (.done (bad i)))
    (he : body (l.length : Int) = some (.done good)) :
    ((∀ x ∈ l, p x = true) ∧ loopM body 0 = some good) ∨ (∃ (k : Nat) (x : α), l[k]? = some x ∧ p x = false ∧ loopM body 0 = some (bad k)) := by
  have := check_loop hs he l.length 0 (by omega)
  rwa [List.drop_zero] at this
theorem lt_get {α : Type} {l : List α} {i : Nat} {x : α} (h : l[i]? = some x) : i < l.length := (List.getElem?_eq_some_iff.1 h).1
theorem nx {i : Nat} (h : i ≤ 1000000) : w64 ((i : Int) + 1) = ((i + 1 : Nat) : Int) := by rw [w64_id (by omega) (by omega)]; rfl
def vals (l : List ApiSpan) : Bool := decide ((l.length : Int) ≤ 12) && l.all fun s => m_genuine_isSpan s 1048576
theorem vals_iff {l : List ApiSpan} : vals l = true ↔ l.length ≤ 12 ∧ ∀ s ∈ l, 0 ≤ s.Lo ∧ s.Lo ≤ s.Hi ∧ s.Hi ≤ 1048576 := by
  simp only [vals, Bool.and_eq_true, decide_eq_true_eq, List.all_eq_true, m_genuine_isSpan, ge_iff_le]
  constructor
  · rintro ⟨h1, h2⟩
    exact ⟨by omega, fun s hs => by have := h2 s hs; omega⟩
  · rintro ⟨h1, h2⟩
    exact ⟨by omega, fun s hs => by have := h2 s hs; omega⟩
theorem spans_doc (l : List ApiSpan) : ∃ r, m_wormtubref13_spans l = some r ∧ (r = true → vals l = true) := by
  rcases check0 (body := b_wormtubref13_spans_1 l) (good := (Sum.inl () : Unit ⊕ Bool)) (fun _ => .inr false) (fun s => m_genuine_isSpan s 1048576) (l := l.take 13)
    (fun i x hx => by
      have hi := lt_get hx
      rw [List.length_take] at hi
      have hx' : l[i]? = some x := by rw [List.getElem?_take] at hx; split at hx <;> first | exact hx | cases hx
      have c1 : (decide ((i : Int) < (l.length : Int)) && decide ((i : Int) ≤ 12)) = true := by simp; omega
      have e : m_wormtubref13_span x 1048576 = m_genuine_isSpan x 1048576 := rfl
      unfold b_wormtubref13_spans_1
      simp only [c1, if_true, idxL_nat, hx', Option.bind_some, e, bindv, nx (show i ≤ 1000000 by omega)]
      cases m_genuine_isSpan x 1048576 <;> rfl)
    (by
      have c1 : (decide (((l.take 13).length : Int) < (l.length : Int)) && decide (((l.take 13).length : Int) ≤ 12)) = false := by
        rw [List.length_take]; simp; omega
      unfold b_wormtubref13_spans_1
      simp only [c1, Bool.false_eq_true, if_false]) with ⟨h1, h2⟩ | ⟨k, x, h1, h2, h3⟩
  · refine ⟨decide ((l.length : Int) ≤ 12), ?_, fun h => ?_⟩
    · unfold m_wormtubref13_spans
      exact bind_of h2 rfl
    · have h12 : (l.length : Int) ≤ 12 := of_decide_eq_true h
      rw [List.take_of_length_le (by omega)] at h1
      unfold vals
      rw [h, Bool.true_and, List.all_eq_true]
      exact h1
  · refine ⟨false, ?_, fun h => by cases h⟩
    unfold m_wormtubref13_spans
    exact bind_of h3 rfl
theorem contains_span (l : List ApiSpan) (g : ApiSpan → Bool) (hl : l.length ≤ 1000) : m_slices_ContainsFunc_Span l (fun x => some (g x)) = some (l.any g) := by
  unfold m_slices_ContainsFunc_Span m_slices_IndexFunc_Span
  rcases check0 (body := b_slices_IndexFunc_Span_1 l (fun x => some (g x))) (good := (Sum.inl () : Unit ⊕ Int)) (fun k => .inr (k : Int)) (fun s => !g s) (l := l)
    (fun i x hx => by
      have hi := lt_get hx
      have c1 : decide ((i : Int) < (l.length : Int)) = true := by simpa using hi
      unfold b_slices_IndexFunc_Span_1
      simp only [c1, if_true, idxL_nat, hx, Option.bind_some, nx (show i ≤ 1000000 by omega)]
      cases g x <;> rfl)
    (by unfold b_slices_IndexFunc_Span_1; simp) with ⟨h1, h2⟩ | ⟨k, x, h1, h2, h3⟩
  · have : l.any g = false := by rw [List.any_eq_false]; intro x hx; have := h1 x hx; simpa using this
    rw [this]
    exact bind_of (bind_of h2 rfl) rfl
  · have : l.any g = true := List.any_eq_true.2 ⟨x, List.mem_of_getElem? h1, by simpa using h2⟩
    rw [this]
    refine bind_of (bind_of h3 rfl) ?_
    simp
theorem areValues_eq {l : List ApiSpan} (h : vals l = true) : m_genuine_areValues l = some true := by
  have h0 := vals_iff.1 h
  simp only [vals, Bool.and_eq_true, List.all_eq_true] at h
  unfold m_genuine_areValues
  rw [if_pos h.1, contains_span l _ (by omega)]
  have : l.any m_genuine_areValues_1 = false := by
    rw [List.any_eq_false]; intro x hx
    have := h.2 x hx
    simp [m_genuine_areValues_1, this]
  simp only [Option.bind_some, this, Bool.not_false]
structure SrcOK (n : Nat) (s : ApiSource) : Prop where
  cask : m_genuine_within s.Cask 0 1073741824 = true
  drawn : m_genuine_isDay s.Drawn = true
  str : m_genuine_isSpan s.Strength 10000 = true
  vals : vals s.Values = true
  len : s.Values.length = n
section
variable {s0 : ApiSource} {rest : List ApiSource}
theorem sources_doc (hl : (s0 :: rest).length ≤ 1000) : ∃ r, m_wormtubref13_Sources (s0 :: rest) = some r ∧ (r = true → (s0 :: rest).length ≤ 64 ∧ ∀ s ∈ s0 :: rest, SrcOK s0.Values.length s) := by
  have hsp : ∀ s ∈ s0 :: rest, ∃ r, m_wormtubref13_spans s.Values = some r ∧ (r = true → vals s.Values = true) := fun s _ => spans_doc s.Values
  let q : ApiSource → Bool := fun s => (m_wormtubref13_spans s.Values).getD false
  rcases check0 (body := b_wormtubref13_Sources_1 (s0 :: rest)) (good := (Sum.inl () : Unit ⊕ Bool)) (fun _ => .inr false) (fun s => m_genuine_within s.Cask 0 1073741824 && m_genuine_isDay s.Drawn && m_genuine_isSpan s.Strength 10000 && q s && ((s.Values.length : Int) == (s0.Values.length : Int))) (l := s0 :: rest)
    (fun i x hx => by
      have hi := lt_get hx
      obtain ⟨r, hr, _⟩ := hsp x (List.mem_of_getElem? hx)
      have hq : q x = r := by show (m_wormtubref13_spans x.Values).getD false = r; rw [hr]; rfl
      have c1 : decide ((i : Int) < ((s0 :: rest).length : Int)) = true := decide_eq_true (Int.ofNat_lt.2 hi)
      have e1 : m_wormtubref13_in x.Cask 0 1073741824 = m_genuine_within x.Cask 0 1073741824 := rfl
      have e2 : m_wormtubref13_in x.Drawn 0 65536 = m_genuine_isDay x.Drawn := rfl
      have e3 : m_wormtubref13_span x.Strength 10000 = m_genuine_isSpan x.Strength 10000 := rfl
      have i0 : idxL (s0 :: rest) 0 = some s0 := rfl
      unfold b_wormtubref13_Sources_1
      simp only [c1, if_true, idxL_nat, hx, Option.bind_some, e1, e2, e3, hr, i0, hq, bindv, nx (show i ≤ 1000000 by omega)]
      cases m_genuine_within x.Cask 0 1073741824 <;> cases m_genuine_isDay x.Drawn <;> cases m_genuine_isSpan x.Strength 10000 <;> cases r <;> simp)
    (by unfold b_wormtubref13_Sources_1; simp) with ⟨h1, h2⟩ | ⟨k, x, h1, h2, h3⟩
  · refine ⟨decide (((s0 :: rest).length : Int) ≤ 64), ?_, fun h => ⟨by have := of_decide_eq_true h; omega, fun s hs => ?_⟩⟩
    · unfold m_wormtubref13_Sources
      exact bind_of h2 rfl
    · have := h1 s hs
      simp only [Bool.and_eq_true, beq_iff_eq] at this
      obtain ⟨⟨⟨⟨a1, a2⟩, a3⟩, a4⟩, a5⟩ := this
      obtain ⟨r, hr, hr2⟩ := hsp s hs
      have hq : q s = r := by show (m_wormtubref13_spans s.Values).getD false = r; rw [hr]; rfl
      exact ⟨a1, a2, a3, hr2 (by rw [← hq]; exact a4), by omega⟩
  · refine ⟨false, ?_, fun h => by cases h⟩
    unfold m_wormtubref13_Sources
    exact bind_of h3 rfl
theorem contains_source (l : List ApiSource) (f : ApiSource → Option Bool) (hf : ∀ x ∈ l, f x = some false) (hl : l.length ≤ 1000) : m_slices_ContainsFunc_Source l f = some false := by
  unfold m_slices_ContainsFunc_Source m_slices_IndexFunc_Source
  rcases check0 (body := b_slices_IndexFunc_Source_1 l f) (good := (Sum.inl () : Unit ⊕ Int)) (fun k => .inr (k : Int)) (fun _ => true) (l := l)
    (fun i x hx => by
      have hi := lt_get hx
      have c1 : decide ((i : Int) < (l.length : Int)) = true := by simpa using hi
      unfold b_slices_IndexFunc_Source_1
      simp only [c1, if_true, idxL_nat, hx, Option.bind_some, hf x (List.mem_of_getElem? hx), nx (show i ≤ 1000000 by omega)]
      rfl)
    (by unfold b_slices_IndexFunc_Source_1; simp) with ⟨h1, h2⟩ | ⟨k, x, h1, h2, h3⟩
  · exact bind_of (bind_of h2 rfl) rfl
  · cases h2
theorem areSources_eq (h : ∀ s ∈ s0 :: rest, SrcOK s0.Values.length s) (hl : (s0 :: rest).length ≤ 64) : m_genuine_areSources (s0 :: rest) = some true := by
  unfold m_genuine_areSources
  rw [if_pos (decide_eq_true (by omega)), contains_source _ _ (fun x hx => ?_) (by omega)]
  · rfl
  · have hx' := h x hx
    have i0 : idxL (s0 :: rest) 0 = some s0 := rfl
    unfold m_genuine_areSources_1
    simp only [hx'.cask, hx'.drawn, hx'.str, areValues_eq hx'.vals, i0, hx'.len, Option.bind_some, Bool.not_true, Bool.false_eq_true, if_false, bne_self_eq_false]
structure SusOK (n : Nat) (b : ApiSuspect) : Prop where
  glass : m_genuine_isDay b.Glass = true
  paper : m_genuine_isDay b.Paper = true
  str : m_genuine_isSpan b.Strength 10000 = true
  vals : vals b.Seen = true
  len : b.Seen.length = n
theorem suspect_doc (b : ApiSuspect) : ∃ r, m_wormtubref13_Suspect b (s0 :: rest) = some r ∧ (r = true → SusOK s0.Values.length b) := by
  obtain ⟨q, hq, hq2⟩ := spans_doc b.Seen
  have e1 : m_wormtubref13_in b.Glass 0 65536 = m_genuine_isDay b.Glass := rfl
  have e2 : m_wormtubref13_in b.Paper 0 65536 = m_genuine_isDay b.Paper := rfl
  have e3 : m_wormtubref13_span b.Strength 10000 = m_genuine_isSpan b.Strength 10000 := rfl
  have i0 : idxL (s0 :: rest) 0 = some s0 := rfl
  have l0 : (((s0 :: rest).length : Int) == 0) = false := by simp; omega
  unfold m_wormtubref13_Suspect
  simp only [e1, e2, e3, hq, i0, l0, Option.bind_some, Bool.false_eq_true, if_false]
  cases h1 : m_genuine_isDay b.Glass with
  | false => exact ⟨false, rfl, fun h => by cases h⟩
  | true =>
    cases h2 : m_genuine_isDay b.Paper with
    | false => exact ⟨false, rfl, fun h => by cases h⟩
    | true =>
      cases h3 : m_genuine_isSpan b.Strength 10000 with
      | false => exact ⟨false, rfl, fun h => by cases h⟩
      | true =>
        cases q with
        | false => exact ⟨false, rfl, fun h => by cases h⟩
        | true => exact ⟨_, rfl, fun h => ⟨h1, h2, h3, hq2 rfl, by have := beq_iff_eq.1 h; omega⟩⟩
theorem areValid_eq {b : ApiSuspect} (hb : SusOK s0.Values.length b) (h : ∀ s ∈ s0 :: rest, SrcOK s0.Values.length s) (hl : (s0 :: rest).length ≤ 64) : m_genuine_areValid b (s0 :: rest) = some true := by
  have i0 : idxL (s0 :: rest) 0 = some s0 := rfl
  have l0 : (((s0 :: rest).length : Int) == 0) = false := by simp; omega
  unfold m_genuine_areValid
  simp only [hb.glass, hb.paper, hb.str, areValues_eq hb.vals, areSources_eq h hl, i0, l0, hb.len, Bool.and_self, if_true, Option.bind_some, Bool.false_eq_true, if_false, BEq.rfl]
end
end Go.Proofs.Ytkffpbnbjnadnaa
end

section
namespace Go.Proofs.Ytkffpbnbjnadnaa
open Go.Dec
theorem fits_eq {b : ApiSuspect} {s : ApiSource} (h : s.Values.length ≤ b.Seen.length) (hn : s.Values.length ≤ 1000000) : m_genuine_fits b s = some (reasL s b).isEmpty := by
  unfold m_genuine_fits m_genuine_reasons L_genuine_reasons_1
  rw [if_pos ⟨h, hn⟩]
  simp only [Option.bind_some]
  cases reasL s b with
  | nil => rfl
  | cons x l => rfl
structure ShOK (a t : Int) (s : GenuineShares) : Prop where
  none : s.none = false
  la : 0 ≤ s.least.a ∧ s.least.a ≤ 4194304
  lb : 1 ≤ s.least.b ∧ s.least.b ≤ 4194304
  ma : 0 ≤ s.most.a ∧ s.most.a ≤ 4194304
  mb : 1 ≤ s.most.b ∧ s.most.b ≤ 4194304
  lo : s.least.a * t ≤ a * s.least.b
  hi : a * s.most.b ≤ s.most.a * t
theorem mul_bd {x y m n : Int} (hx : 0 ≤ x ∧ x ≤ m) (hy : 0 ≤ y ∧ y ≤ n) : 0 ≤ x * y ∧ x * y ≤ m * n :=
  ⟨Int.mul_nonneg hx.1 hy.1, Int.mul_le_mul hx.2 hy.2 hy.1 (by omega)⟩
theorem less_eq {x y : GenuineFraction} (h1 : -17592186044416 ≤ x.a * y.b ∧ x.a * y.b ≤ 17592186044416) (h2 : -17592186044416 ≤ y.a * x.b ∧ y.a * x.b ≤ 17592186044416) : m_genuine_fraction_less x y = decide (x.a * y.b < y.a * x.b) := by
  unfold m_genuine_fraction_less
  rw [w64_id (by omega) (by omega), w64_id (by omega) (by omega)]
theorem mul_abs {x y m n : Int} (hx : -m ≤ x ∧ x ≤ m) (hy : 0 ≤ y ∧ y ≤ n) : -(m * n) ≤ x * y ∧ x * y ≤ m * n := by
  have hm : 0 ≤ m := by omega
  rcases Int.le_total 0 x with h | h
  · have := mul_bd (x := x) (y := y) ⟨h, hx.2⟩ hy
    have h0 : 0 ≤ m * n := Int.mul_nonneg hm (by omega)
    omega
  · have := mul_bd (x := -x) (y := y) (m := m) ⟨by omega, by omega⟩ hy
    rw [Int.neg_mul] at this
    have h0 : 0 ≤ m * n := Int.mul_nonneg hm (by omega)
    omega
theorem atLeast_ok {a t x y c : Int} {s : GenuineShares} (h : ShOK a t s) (hat : 1 ≤ a ∧ a ≤ t) (hx : -1048576 ≤ x ∧ x ≤ 1048576) (hy : -1048576 ≤ y ∧ y ≤ 1048576) (hc : -1048576 ≤ c ∧ c ≤ 1048576) (hp : c * t ≤ a * x + (t - a) * y) :
    ∃ s', m_genuine_shares_atLeast s x y c = some s' ∧ ShOK a t s' := by
  have hla := h.la; have hlb := h.lb; have hma := h.ma; have hmb := h.mb
  have key : ∀ s1 : GenuineShares, ShOK a t s1 → (bindv ({ s1 with none := (s1.none || (m_genuine_fraction_less s1.most s1.least)) }) fun x41 => some x41) = some s1 := fun s1 h1 => by
    have b1 := mul_bd h1.ma ⟨(by have := h1.lb; omega : (0:Int) ≤ s1.least.b), h1.lb.2⟩
    have b2 := mul_bd h1.la ⟨(by have := h1.mb; omega : (0:Int) ≤ s1.most.b), h1.mb.2⟩
    have hl : m_genuine_fraction_less s1.most s1.least = false := by
      rw [less_eq (by omega) (by omega)]
      refine decide_eq_false fun hlt => ?_
      have hmb := h1.mb; have hlb := h1.lb
      have e1 : s1.least.a * t * s1.most.b ≤ a * s1.least.b * s1.most.b := Int.mul_le_mul_of_nonneg_right h1.lo (by omega)
      have e2 : a * s1.most.b * s1.least.b ≤ s1.most.a * t * s1.least.b := Int.mul_le_mul_of_nonneg_right h1.hi (by omega)
      have e3 : s1.most.a * s1.least.b * t < s1.least.a * s1.most.b * t := Int.mul_lt_mul_of_pos_right hlt (by omega)
      have f1 : s1.least.a * t * s1.most.b = s1.least.a * s1.most.b * t := Int.mul_right_comm _ _ _
      have f2 : s1.most.a * t * s1.least.b = s1.most.a * s1.least.b * t := Int.mul_right_comm _ _ _
      have f3 : a * s1.least.b * s1.most.b = a * s1.most.b * s1.least.b := Int.mul_right_comm _ _ _
      omega
    simp only [bindv, hl, Bool.or_false]
  have hpe : (c - y) * t ≤ a * (x - y) := by
    have e1 : (c - y) * t = c * t - y * t := Int.sub_mul _ _ _
    have e2 : a * (x - y) = a * x - a * y := Int.mul_sub _ _ _
    have e3 : (t - a) * y = t * y - a * y := Int.sub_mul _ _ _
    have e4 : t * y = y * t := Int.mul_comm _ _
    omega
  unfold m_genuine_shares_atLeast
  simp only [bindv]
  rw [w64_id (n := x - y) (by omega) (by omega), w64_id (n := c - y) (by omega) (by omega), w64_id (n := y - c) (by omega) (by omega), w64_id (n := 0 - (x - y)) (by omega) (by omega)]
  simp only [bindv] at key
  rcases Int.lt_trichotomy (x - y) 0 with hd | hd | hd
  ·
    have c1 : decide (x - y > 0) = false := decide_eq_false (by omega)
    have c2 : decide (x - y < 0) = true := decide_eq_true hd
    simp only [c1, c2, Bool.false_eq_true, if_false, if_true]
    have b1 : m_genuine_fraction_less (GenuineFraction.mk (y - c) (0 - (x - y))) s.most = decide ((y - c) * s.most.b < s.most.a * (0 - (x - y))) := by
      have m1 := mul_abs (x := y - c) (y := s.most.b) (m := 4194304) (n := 4194304) (by omega) (by omega)
      have m2 := mul_bd (x := s.most.a) (y := 0 - (x - y)) (m := 4194304) (n := 4194304) hma (by omega)
      have g1 : -17592186044416 ≤ (y - c) * s.most.b ∧ (y - c) * s.most.b ≤ 17592186044416 := by omega
      have g2 : -17592186044416 ≤ s.most.a * (0 - (x - y)) ∧ s.most.a * (0 - (x - y)) ≤ 17592186044416 := by omega
      exact less_eq g1 g2
    rw [b1]
    by_cases hlt : (y - c) * s.most.b < s.most.a * (0 - (x - y))
    · rw [if_pos (decide_eq_true hlt)]
      have hpos : 0 < y - c := by
        by_cases h0 : 0 < y - c
        · exact h0
        · exfalso
          have e1 : 0 < a * (0 - (x - y)) := Int.mul_pos (by omega) (by omega)
          have e2 : 0 ≤ (c - y) * t := Int.mul_nonneg (by omega) (by omega)
          have e3 : a * (0 - (x - y)) = -(a * (x - y)) := by rw [Int.mul_sub, Int.mul_zero]; omega
          omega
      have hs : ShOK a t { s with most := (GenuineFraction.mk (y - c) (0 - (x - y))) } := ⟨h.none, hla, hlb, ⟨by show 0 ≤ y - c; omega, by show y - c ≤ _; omega⟩, ⟨by show 1 ≤ 0 - (x - y); omega, by show 0 - (x - y) ≤ _; omega⟩, h.lo, by
        show a * (0 - (x - y)) ≤ (y - c) * t
        have e3 : a * (0 - (x - y)) = -(a * (x - y)) := by rw [Int.mul_sub, Int.mul_zero]; omega
        have e4 : (y - c) * t = -((c - y) * t) := by rw [← Int.neg_mul]; congr 1; omega
        omega⟩
      refine ⟨_, ?_, hs⟩
      simp only [Option.bind_some]
      exact key _ hs
    · rw [if_neg (by simp only [decide_eq_true_eq]; exact hlt)]
      refine ⟨s, ?_, h⟩
      simp only [Option.bind_some]
      exact key _ h
  ·
    have c1 : decide (x - y > 0) = false := decide_eq_false (by omega)
    have c2 : decide (x - y < 0) = false := decide_eq_false (by omega)
    have c3 : decide (y < c) = false := decide_eq_false fun hlt => by
      have e1 : 0 < (c - y) * t := Int.mul_pos (by omega) (by omega)
      rw [hd, Int.mul_zero] at hpe
      omega
    simp only [c1, c2, c3, Bool.false_eq_true, if_false, Bool.or_false]
    refine ⟨s, ?_, h⟩
    simp only [Option.bind_some]
    exact key _ h
  · have c1 : decide (x - y > 0) = true := decide_eq_true (by omega)
    simp only [c1, if_true]
    have b1 : m_genuine_fraction_less s.least (GenuineFraction.mk (c - y) (x - y)) = decide (s.least.a * (x - y) < (c - y) * s.least.b) := by
      have m1 := mul_abs (x := c - y) (y := s.least.b) (m := 4194304) (n := 4194304) (by omega) (by omega)
      have m2 := mul_bd (x := s.least.a) (y := x - y) (m := 4194304) (n := 4194304) hla (by omega)
      have g1 : -17592186044416 ≤ (c - y) * s.least.b ∧ (c - y) * s.least.b ≤ 17592186044416 := by omega
      have g2 : -17592186044416 ≤ s.least.a * (x - y) ∧ s.least.a * (x - y) ≤ 17592186044416 := by omega
      exact less_eq g2 g1
    rw [b1]
    by_cases hlt : s.least.a * (x - y) < (c - y) * s.least.b
    · rw [if_pos (decide_eq_true hlt)]
      have hpos : 0 < c - y := by
        by_cases h0 : 0 < c - y
        · exact h0
        · exfalso
          have e1 : 0 ≤ s.least.a * (x - y) := Int.mul_nonneg hla.1 (by omega)
          have e2 : 0 ≤ (y - c) * s.least.b := Int.mul_nonneg (by omega) (by omega)
          have e4 : (y - c) * s.least.b = -((c - y) * s.least.b) := by rw [← Int.neg_mul]; congr 1; omega
          omega
      have hs : ShOK a t { s with least := (GenuineFraction.mk (c - y) (x - y)) } := ⟨h.none, ⟨by show 0 ≤ c - y; omega, by show c - y ≤ _; omega⟩, ⟨by show 1 ≤ x - y; omega, by show x - y ≤ _; omega⟩, hma, hmb, hpe, h.hi⟩
      refine ⟨_, ?_, hs⟩
      simp only [Option.bind_some]
      exact key _ hs
    · rw [if_neg (by simp only [decide_eq_true_eq]; exact hlt)]
      refine ⟨s, ?_, h⟩
      simp only [Option.bind_some]
      exact key _ h
theorem atLeast_total (s : GenuineShares) (x y c : Int) : ∃ s', m_genuine_shares_atLeast s x y c = some s' := by
  unfold m_genuine_shares_atLeast
  simp only [bindv]
  split
  · split <;> exact ⟨_, rfl⟩
  · split
    · split <;> exact ⟨_, rfl⟩
    · exact ⟨_, rfl⟩
end Go.Proofs.Ytkffpbnbjnadnaa
end

section
namespace Go.Proofs.Ytkffpbnbjnadnaa
open Go.Dec
structure Comes (a t : Int) (b : ApiSuspect) (x y : ApiSource) : Prop where
  at_ : 1 ≤ a ∧ a ≤ t
  drawn : decide (imin x.Drawn y.Drawn < imax b.Glass b.Paper) = false
  sx : 0 ≤ x.Strength.Hi ∧ x.Strength.Hi ≤ 10000
  sy : 0 ≤ y.Strength.Hi ∧ y.Strength.Hi ≤ 10000
  sb : 0 ≤ b.Strength.Lo ∧ b.Strength.Lo ≤ 10000
  str : b.Strength.Lo * t ≤ a * x.Strength.Hi + (t - a) * y.Strength.Hi
  few : b.Seen.length ≤ 12
  val : ∀ (q : Nat) (u : ApiSpan), b.Seen[q]? = some u → ∃ v w, x.Values[q]? = some v ∧ y.Values[q]? = some w ∧ (0 ≤ v.Lo ∧ v.Lo ≤ v.Hi ∧ v.Hi ≤ 1048576) ∧ (0 ≤ w.Lo ∧ w.Lo ≤ w.Hi ∧ w.Hi ≤ 1048576) ∧ (0 ≤ u.Lo ∧ u.Lo ≤ u.Hi ∧ u.Hi ≤ 1048576) ∧ u.Lo * t ≤ a * v.Hi + (t - a) * w.Hi ∧ a * v.Lo + (t - a) * w.Lo ≤ u.Hi * t
theorem shared_ok {a t : Int} {b : ApiSuspect} {x y : ApiSource} (h : Comes a t b x y) : ∃ s, m_genuine_shared b x y = some s ∧ ShOK a t s := by
  have h0 : ShOK a t (GenuineShares.mk (GenuineFraction.mk 0 1) (GenuineFraction.mk 1 1) (decide (imin x.Drawn y.Drawn < imax b.Glass b.Paper))) :=
    ⟨h.drawn, ⟨Int.le_refl 0, by show (0 : Int) ≤ 4194304; decide⟩, ⟨Int.le_refl 1, by show (1 : Int) ≤ 4194304; decide⟩, ⟨by show (0 : Int) ≤ 1; decide, by show (1 : Int) ≤ 4194304; decide⟩, ⟨Int.le_refl 1, by show (1 : Int) ≤ 4194304; decide⟩,
      by show (0 : Int) * t ≤ a * 1; have := h.at_; omega, by show a * 1 ≤ (1 : Int) * t; have := h.at_; omega⟩
  have sx := h.sx; have sy := h.sy; have sb := h.sb; have few := h.few
  obtain ⟨s1, e1, h1⟩ := atLeast_ok h0 h.at_ (x := x.Strength.Hi) (y := y.Strength.Hi) (c := b.Strength.Lo) (by omega) (by omega) (by omega) h.str
  obtain ⟨s', hs', hl⟩ := loopM_upto (body := b_genuine_shared_1 b x y) (fun i (s : GenuineShares) => ((i : Int), s)) (fun s => s) (fun _ s => ShOK a t s) b.Seen.length
    (fun i s hi hs => by
      have hu : b.Seen[i]? = some b.Seen[i] := List.getElem?_eq_getElem hi
      obtain ⟨v, w, hv, hw, bv, bw, bu, k1, k2⟩ := h.val i _ hu
      obtain ⟨s2, e2, h2⟩ := atLeast_ok hs h.at_ (x := v.Hi) (y := w.Hi) (c := (b.Seen[i]).Lo) (by omega) (by omega) (by omega) k1
      obtain ⟨s3, e3, h3⟩ := atLeast_ok h2 h.at_ (x := 0 - v.Lo) (y := 0 - w.Lo) (c := 0 - (b.Seen[i]).Hi) (by omega) (by omega) (by omega) (by
        have f1 : (0 - (b.Seen[i]).Hi) * t = -((b.Seen[i]).Hi * t) := by rw [Int.sub_mul, Int.zero_mul]; omega
        have f2 : a * (0 - v.Lo) = -(a * v.Lo) := by rw [Int.mul_sub, Int.mul_zero]; omega
        have f3 : (t - a) * (0 - w.Lo) = -((t - a) * w.Lo) := by rw [Int.mul_sub, Int.mul_zero]; omega
        omega)
      refine ⟨s3, ?_, h3⟩
      have c1 : decide ((i : Int) < (b.Seen.length : Int)) = true := decide_eq_true (Int.ofNat_lt.2 hi)
      unfold b_genuine_shared_1
      simp only [c1, if_true, idxL_nat, hu, hv, hw, Option.bind_some]
      refine bind_of e2 ?_
      rw [w64_id (n := 0 - v.Lo) (by omega) (by omega), w64_id (n := 0 - w.Lo) (by omega) (by omega), w64_id (n := 0 - (b.Seen[i]).Hi) (by omega) (by omega)]
      refine bind_of e3 ?_
      rw [nx (by omega)])
    (fun s _ => by unfold b_genuine_shared_1; simp) b.Seen.length 0 s1 (by omega) h1
  refine ⟨s', ?_, hs'⟩
  unfold m_genuine_shared
  refine bind_of e1 ?_
  exact bind_of hl rfl
theorem shared_total {b : ApiSuspect} {x y : ApiSource} (hf : b.Seen.length ≤ 12) (hx : b.Seen.length ≤ x.Values.length) (hy : b.Seen.length ≤ y.Values.length) : ∃ s, m_genuine_shared b x y = some s := by
  obtain ⟨s1, e1⟩ := atLeast_total (GenuineShares.mk (GenuineFraction.mk 0 1) (GenuineFraction.mk 1 1) (decide (imin x.Drawn y.Drawn < imax b.Glass b.Paper))) x.Strength.Hi y.Strength.Hi b.Strength.Lo
  obtain ⟨s', _, hl⟩ := loopM_upto (body := b_genuine_shared_1 b x y) (fun i (s : GenuineShares) => ((i : Int), s)) (fun s => s) (fun _ _ => True) b.Seen.length
    (fun i s hi _ => by
      have hu : b.Seen[i]? = some b.Seen[i] := List.getElem?_eq_getElem hi
      have hv : x.Values[i]? = some x.Values[i] := List.getElem?_eq_getElem (by omega)
      have hw : y.Values[i]? = some y.Values[i] := List.getElem?_eq_getElem (by omega)
      obtain ⟨s2, e2⟩ := atLeast_total s (x.Values[i]).Hi (y.Values[i]).Hi (b.Seen[i]).Lo
      obtain ⟨s3, e3⟩ := atLeast_total s2 (w64 (0 - (x.Values[i]).Lo)) (w64 (0 - (y.Values[i]).Lo)) (w64 (0 - (b.Seen[i]).Hi))
      refine ⟨s3, ?_, trivial⟩
      have c1 : decide ((i : Int) < (b.Seen.length : Int)) = true := decide_eq_true (Int.ofNat_lt.2 hi)
      unfold b_genuine_shared_1
      simp only [c1, if_true, idxL_nat, hu, hv, hw, Option.bind_some]
      refine bind_of e2 ?_
      refine bind_of e3 ?_
      rw [nx (by omega)])
    (fun s _ => by unfold b_genuine_shared_1; simp) b.Seen.length 0 s1 (by omega) trivial
  refine ⟨s', ?_⟩
  unfold m_genuine_shared
  exact bind_of e1 (bind_of hl rfl)
theorem gcd_loop : ∀ (n : Nat) (g r : Int), r.toNat ≤ n → 1 ≤ g → 0 ≤ r → ∃ k, loopM b_genuine_fraction_portion_1 (g, r) = some k ∧ 1 ≤ k ∧ k ∣ g ∧ k ∣ r := by
  intro n
  induction n with
  | zero =>
    intro g r hn hg hr
    have : r = 0 := by omega
    subst this
    exact ⟨g, by rw [loopM_eq]; simp [b_genuine_fraction_portion_1], hg, Int.dvd_refl g, Int.dvd_zero g⟩
  | succ n ih =>
    intro g r hn hg hr
    by_cases h0 : r = 0
    · subst h0
      exact ⟨g, by rw [loopM_eq]; simp [b_genuine_fraction_portion_1], hg, Int.dvd_refl g, Int.dvd_zero g⟩
    · have hm0 := Int.emod_nonneg g h0
      have hm1 := Int.emod_lt_of_pos g (show 0 < r by omega)
      obtain ⟨k, h1, h2, h3, h4⟩ := ih r (g % r) (by omega) (by omega) hm0
      refine ⟨k, ?_, h2, ?_, h3⟩
      · have step : b_genuine_fraction_portion_1 (g, r) = some (.next (r, g % r)) := by
          have c1 : (r != 0) = true := by simpa using h0
          unfold b_genuine_fraction_portion_1 remK
          simp only [c1, if_true, if_neg h0, Option.bind_some]
          rw [Int.tmod_eq_emod_of_nonneg (by omega)]
        rw [loopM_eq, step]; exact h1
      · have := Int.dvd_add (Int.dvd_trans h3 (Int.dvd_mul_right r (g / r))) h4
        rwa [Int.mul_ediv_add_emod] at this
theorem portion_ok {f : GenuineFraction} (ha : 0 ≤ f.a ∧ f.a ≤ 4194304) (hb : 1 ≤ f.b ∧ f.b ≤ 4194304) : ∃ (g : Int) (p : ApiPortion), m_genuine_fraction_portion f = some p ∧ 1 ≤ g ∧ f.a = g * p.Num ∧ f.b = g * p.Den ∧ (0 ≤ p.Num ∧ p.Num ≤ 4194304) ∧ (1 ≤ p.Den ∧ p.Den ≤ 4194304) := by
  obtain ⟨k, h1, h2, h3, h4⟩ := gcd_loop f.a.toNat f.b f.a (Nat.le_refl _) hb.1 ha.1
  obtain ⟨u, hu⟩ := h3
  obtain ⟨v, hv⟩ := h4
  have hu1 : 1 ≤ u := by
    by_cases h : 1 ≤ u
    · exact h
    · exfalso
      have : k * u ≤ k * 0 := Int.mul_le_mul_of_nonneg_left (by omega) (by omega)
      omega
  have hv0 : 0 ≤ v := by
    by_cases h : 0 ≤ v
    · exact h
    · exfalso
      have : k * v ≤ k * (-1) := Int.mul_le_mul_of_nonneg_left (by omega) (by omega)
      omega
  have hu2 : 1 * u ≤ k * u := Int.mul_le_mul_of_nonneg_right h2 (by omega)
  have hv2 : 1 * v ≤ k * v := Int.mul_le_mul_of_nonneg_right h2 hv0
  have q1 : f.a / k = v := by rw [hv]; exact Int.mul_ediv_cancel_left v (by omega)
  have q2 : f.b / k = u := by rw [hu]; exact Int.mul_ediv_cancel_left u (by omega)
  refine ⟨k, ⟨v, u⟩, ?_, h2, hv, hu, ⟨hv0, by show v ≤ _; omega⟩, ⟨hu1, by show u ≤ _; omega⟩⟩
  unfold m_genuine_fraction_portion
  simp only [bindv]
  have hm : imax f.a (w64 (0 - f.a)) = f.a := by rw [w64_id (by omega) (by omega)]; unfold imax; split <;> omega
  rw [hm]
  refine bind_of h1 ?_
  rw [quoK_pos (by omega) (by omega) (by omega), quoK_pos (by omega) (by omega) (by omega), q1, q2]
  rfl
end Go.Proofs.Ytkffpbnbjnadnaa
end

section
namespace Go.Proofs.Ytkffpbnbjnadnaa
open Go.Dec
def fitB (b : ApiSuspect) (x : ApiSource) : Bool := (reasL x b).isEmpty
section
variable {b : ApiSuspect} {l : List ApiSource}
theorem fits_at (hall : ∀ x ∈ l, x.Values.length = b.Seen.length) (hf : b.Seen.length ≤ 12) {x : ApiSource} (hx : x ∈ l) : m_genuine_fits b x = some (fitB b x) :=
  fits_eq (by rw [hall x hx]; exact Nat.le_refl _) (by rw [hall x hx]; omega)
theorem shared_at (hall : ∀ x ∈ l, x.Values.length = b.Seen.length) (hf : b.Seen.length ≤ 12) {x y : ApiSource} (hx : x ∈ l) (hy : y ∈ l) : ∃ s, m_genuine_shared b x y = some s :=
  shared_total hf (by rw [hall x hx]; exact Nat.le_refl _) (by rw [hall y hy]; exact Nat.le_refl _)
theorem origins2 (hall : ∀ x ∈ l, x.Values.length = b.Seen.length) (hf : b.Seen.length ≤ 12) {s19 : (List Int) × (List (Nat → Int)) × Int} {i : Nat} {x : ApiSource} (hx : l[i]? = some x) (hs : s19.2.2 = (i : Int)) :
    ∀ (d k : Nat) (pairs : List (Nat → Int)), k + d = l.length → l.length ≤ 1000 → pairs.length + d ≤ 100000 → ∃ pairs', loopM (b_genuine_Origins_2 b l s19) (pairs, (k : Int)) = some pairs' ∧ (∀ f ∈ pairs, f ∈ pairs') ∧ pairs'.length ≤ pairs.length + d ∧
      (∀ (k1 : Nat) (y : ApiSource) (s : GenuineShares), k ≤ k1 → l[k1]? = some y → fitB b y = false → m_genuine_shared b x y = some s → s.none = false → ∃ f ∈ pairs', f 0 = (i : Int) ∧ f 1 = (k1 : Int))
  | 0, k, pairs, h, _, _ => by
    have : k = l.length := by omega
    subst this
    refine ⟨pairs, by rw [loopM_eq]; simp [b_genuine_Origins_2], fun _ h => h, Nat.le_refl _, fun k1 y s hk hy => ?_⟩
    have := lt_get hy
    omega
  | d + 1, k, pairs, h, hl, hp => by
    have hk : k < l.length := by omega
    have hy : l[k]? = some l[k] := List.getElem?_eq_getElem hk
    have hym : l[k] ∈ l := List.getElem_mem hk
    have hxm : x ∈ l := List.mem_of_getElem? hx
    have hfit := fits_at hall hf hym
    obtain ⟨s, hsh⟩ := shared_at hall hf hxm hym
    have c1 : decide ((k : Int) < (l.length : Int)) = true := decide_eq_true (Int.ofNat_lt.2 hk)
    have happ : appO pairs [(arrOf [(i : Int), (k : Int)] 0)] = some (pairs ++ [(arrOf [(i : Int), (k : Int)] 0)]) := appO_some' (by simp; omega)
    have step : b_genuine_Origins_2 b l s19 (pairs, (k : Int)) = some (.next (if !fitB b l[k] && !s.none then pairs ++ [(arrOf [(i : Int), (k : Int)] 0)] else pairs, ((k + 1 : Nat) : Int))) := by
      unfold b_genuine_Origins_2
      simp only [c1, if_true, idxL_nat, hy, hs, hx, hfit, hsh, Option.bind_some, bindv, nx (show k ≤ 1000000 by omega), happ]
      cases fitB b l[k] <;> cases s.none <;> rfl
    have hnew : ∃ p1, (if !fitB b l[k] && !s.none then pairs ++ [(arrOf [(i : Int), (k : Int)] 0)] else pairs) = p1 ∧ p1.length ≤ pairs.length + 1 ∧ (∀ f ∈ pairs, f ∈ p1) ∧ (fitB b l[k] = false → s.none = false → ∃ f ∈ p1, f 0 = (i : Int) ∧ f 1 = (k : Int)) := by
      refine ⟨_, rfl, ?_, ?_, ?_⟩
      · split <;> simp
      · intro f hf; split
        · exact List.mem_append_left _ hf
        · exact hf
      · intro h1 h2
        rw [h1, h2]
        exact ⟨_, List.mem_append_right _ (List.mem_singleton_self _), rfl, rfl⟩
    obtain ⟨p1, e1, e2, e3, e4⟩ := hnew
    rw [e1] at step
    obtain ⟨pairs', g1, g2, g3, g4⟩ := origins2 hall hf hx hs d (k + 1) p1 (by omega) hl (by omega)
    refine ⟨pairs', by rw [loopM_eq, step]; exact g1, fun f hf => g2 f (e3 f hf), by omega, fun k1 y s' hk1 hy1 hfy hss hn => ?_⟩
    by_cases hkk : k1 = k
    · subst hkk
      rw [hy] at hy1; cases hy1
      rw [hsh] at hss; cases hss
      obtain ⟨f, f1, f2⟩ := e4 hfy hn
      exact ⟨f, g2 f f1, f2⟩
    · exact g4 k1 y s' (by omega) hy1 hfy hss hn
theorem origins1 (hall : ∀ x ∈ l, x.Values.length = b.Seen.length) (hf : b.Seen.length ≤ 12) (hl : l.length ≤ 64) :
    ∀ (d i : Nat) (single : List Int) (pairs : List (Nat → Int)), i + d = l.length → single.length + d ≤ 1000 → pairs.length + d * 64 ≤ 90000 → ∃ single' pairs', loopM (b_genuine_Origins_1 b l) (single, pairs, (i : Int)) = some (single', pairs') ∧ (∀ v ∈ single, v ∈ single') ∧ (∀ f ∈ pairs, f ∈ pairs') ∧ single'.length ≤ single.length + d ∧ pairs'.length ≤ pairs.length + d * 64 ∧
      (∀ (j : Nat) (y : ApiSource), i ≤ j → l[j]? = some y → fitB b y = true → (j : Int) ∈ single') ∧
      (∀ (j k1 : Nat) (x y : ApiSource) (s : GenuineShares), i ≤ j → j < k1 → l[j]? = some x → l[k1]? = some y → fitB b x = false → fitB b y = false → m_genuine_shared b x y = some s → s.none = false → ∃ f ∈ pairs', f 0 = (j : Int) ∧ f 1 = (k1 : Int))
  | 0, i, single, pairs, h, _, _ => by
    have : i = l.length := by omega
    subst this
    refine ⟨single, pairs, by rw [loopM_eq]; simp [b_genuine_Origins_1], fun _ h => h, fun _ h => h, Nat.le_refl _, by omega, fun j y hj hy => ?_, fun j k1 x y s hj _ hx => ?_⟩
    · have := lt_get hy; omega
    · have := lt_get hx; omega
  | d + 1, i, single, pairs, h, hs1, hp1 => by
    have hi : i < l.length := by omega
    have hx : l[i]? = some l[i] := List.getElem?_eq_getElem hi
    have hxm : l[i] ∈ l := List.getElem_mem hi
    have hfit := fits_at hall hf hxm
    have c1 : decide ((i : Int) < (l.length : Int)) = true := decide_eq_true (Int.ofNat_lt.2 hi)
    cases hb : fitB b l[i] with
    | true =>
      have happ : appO single [(i : Int)] = some (single ++ [(i : Int)]) := appO_some' (by simp; omega)
      have step : b_genuine_Origins_1 b l (single, pairs, (i : Int)) = some (.next (single ++ [(i : Int)], pairs, ((i + 1 : Nat) : Int))) := by
        unfold b_genuine_Origins_1
        simp only [c1, if_true, idxL_nat, hx, hfit, hb, Option.bind_some, happ, nx (show i ≤ 1000000 by omega)]
      obtain ⟨single', pairs', g1, g2, g3, g4, g5, g6, g7⟩ := origins1 hall hf hl d (i + 1) (single ++ [(i : Int)]) pairs (by omega) (by simp; omega) (by omega)
      refine ⟨single', pairs', by rw [loopM_eq, step]; exact g1, fun v hv => g2 v (List.mem_append_left _ hv), g3, by simp at g4; omega, by omega, fun j y hj hy hfy => ?_, fun j k1 x y s hj hjk hxx hy h1 => ?_⟩
      · by_cases e : j = i
        · subst e; exact g2 _ (by simp)
        · exact g6 j y (by omega) hy hfy
      · by_cases e : j = i
        · subst e; rw [hx] at hxx; cases hxx; rw [hb] at h1; cases h1
        · exact g7 j k1 x y s (by omega) hjk hxx hy h1
    | false =>
      obtain ⟨p1, q1, q2, q3, q4⟩ := origins2 hall hf (s19 := (single, pairs, (i : Int))) hx rfl (l.length - (i + 1)) (i + 1) pairs (by omega) (by omega) (by omega)
      have step : b_genuine_Origins_1 b l (single, pairs, (i : Int)) = some (.next (single, p1, ((i + 1 : Nat) : Int))) := by
        unfold b_genuine_Origins_1
        simp only [c1, if_true, idxL_nat, hx, hfit, hb, Option.bind_some, bindv, nx (show i ≤ 1000000 by omega), q1, Bool.false_eq_true, if_false]
      obtain ⟨single', pairs', g1, g2, g3, g4, g5, g6, g7⟩ := origins1 hall hf hl d (i + 1) single p1 (by omega) (by omega) (by omega)
      refine ⟨single', pairs', by rw [loopM_eq, step]; exact g1, g2, fun f hf => g3 f (q2 f hf), by omega, by omega, fun j y hj hy hfy => ?_, fun j k1 x y s hj hjk hxx hy h1 h2 h3 h4 => ?_⟩
      · by_cases e : j = i
        · subst e; rw [hx] at hy; cases hy; rw [hb] at hfy; cases hfy
        · exact g6 j y (by omega) hy hfy
      · by_cases e : j = i
        · subst e
          rw [hx] at hxx; cases hxx
          obtain ⟨f, f1, f2⟩ := q4 k1 y s (by omega) hy h2 h3 h4
          exact ⟨f, g3 f f1, f2⟩
        · exact g7 j k1 x y s (by omega) hjk hxx hy h1 h2 h3 h4
end
end Go.Proofs.Ytkffpbnbjnadnaa
end

section
namespace Go.Proofs.Ytkffpbnbjnadnaa
open Go.Dec
structure Held where
  C : ApiCask
  Fills : List Int
abbrev Ev := ApiCaskEvent
abbrev zN : Nat → Int := fun _ => 0
def inB (n a b : Int) : Bool := decide (n ≥ a) && decide (n ≤ b)
def evB (x : Ev) : Bool :=
  inB x.Day 0 65536 && inB x.Cask 0 1073741824 &&
  (if x.Kind == 0 then inB x.Other 0 7 && inB x.Where 0 7 && inB x.Amount 1 1099511627776 && inB x.Person 0 1073741824
   else if x.Kind == 1 || x.Kind == 3 then inB x.Amount 1 1099511627776
   else if x.Kind == 2 then inB x.Other 0 1073741824 && inB x.Amount 1 1099511627776
   else if x.Kind == 4 then inB x.Where 0 7
   else if x.Kind == 5 || x.Kind == 6 then inB x.Person 0 1073741824 && inB x.To 0 1073741824
   else if x.Kind == 7 then inB x.Person 0 1073741824
   else if x.Kind == 8 then inB x.Where 0 7 else false)
def olderS (n : Int) (h : Held) : Held :=
  if 0 < h.C.Amount then { h with C := { h.C with Age := h.C.Age + n, Woods := updN h.C.Woods h.C.Wood.toNat (h.C.Woods h.C.Wood.toNat + n), Places := updN h.C.Places h.C.Place.toNat (h.C.Places h.C.Place.toNat + n) } } else h
def findS : List Held → Int → Option Nat
  | [], _ => none
  | h :: l, n => if h.C.Number == n then some 0 else (findS l n).map (· + 1)
def insS (x : Int) : List Int → List Int
  | [] => [x]
  | y :: l => if x < y then x :: y :: l else if x == y then y :: l else y :: insS x l
def uniS (a b : List Int) : List Int := a.foldr insS b
def minN (f g : Nat → Int) : Nat → Int := fun k => if k < 8 then imin (f k) (g k) else f k
def pourS (h s : Held) (n : Int) : Held :=
  if h.C.Amount == 0 then { C := { h.C with Age := s.C.Age, Woods := s.C.Woods, Places := s.C.Places, Amount := h.C.Amount + n }, Fills := s.Fills }
  else { C := { h.C with Age := imin h.C.Age s.C.Age, Woods := minN h.C.Woods s.C.Woods, Places := minN h.C.Places s.C.Places, Amount := h.C.Amount + n }, Fills := uniS h.Fills s.Fills }
def lessS (h : Held) (n : Int) : Held :=
  if h.C.Amount - n == 0 then { C := { h.C with Age := 0, Woods := zN, Places := zN, Amount := 0 }, Fills := [] } else { h with C := { h.C with Amount := h.C.Amount - n } }
def newS (x : Ev) : Held := ⟨⟨x.Cask, x.Other, x.Where, x.Amount, x.Person, -1, 0, 0, zN, zN⟩, []⟩
def fillS (n : Int) : Held := ⟨⟨0, 0, 0, 0, 0, 0, 0, 0, zN, zN⟩, [n]⟩
def fillD (l : List Held) (i : Nat) (c : Held) (x : Ev) (num : Int) : List Held ⊕ Int :=
  if c.C.Amount + x.Amount > c.C.Room then .inr 9 else .inl (l.set i (pourS c (fillS num) x.Amount))
def rackD2 (l : List Held) (i k : Nat) (c o : Held) (x : Ev) : List Held ⊕ Int :=
  if i == k then .inr 5
  else if c.C.Owner != o.C.Owner || decide (c.C.Creditor ≥ 0) || decide (o.C.Creditor ≥ 0) then .inr 11
  else if c.C.Amount < x.Amount then .inr 10
  else if o.C.Amount + x.Amount > o.C.Room then .inr 9
  else .inl ((l.set k (pourS o c x.Amount)).set i (lessS c x.Amount))
def rackD (l : List Held) (i : Nat) (c : Held) (x : Ev) : List Held ⊕ Int :=
  match findS l x.Other with
  | none => .inr 4
  | some k => match l[k]? with
    | none => .inr 4
    | some o => rackD2 l i k c o x
def drainD (l : List Held) (i : Nat) (c : Held) (x : Ev) : List Held ⊕ Int :=
  if c.C.Creditor ≥ 0 then .inr 11 else if c.C.Amount < x.Amount then .inr 10 else .inl (l.set i (lessS c x.Amount))
def carryD (l : List Held) (i : Nat) (c : Held) (x : Ev) : List Held ⊕ Int := .inl (l.set i { c with C := { c.C with Place := x.Where } })
def sellD (l : List Held) (i : Nat) (c : Held) (x : Ev) : List Held ⊕ Int :=
  if c.C.Owner != x.Person || decide (c.C.Creditor ≥ 0) then .inr 11 else if x.To == c.C.Owner then .inr 5 else .inl (l.set i { c with C := { c.C with Owner := x.To } })
def pledgeD (l : List Held) (i : Nat) (c : Held) (x : Ev) : List Held ⊕ Int :=
  if c.C.Owner != x.Person then .inr 11 else if c.C.Creditor ≥ 0 then .inr 5 else .inl (l.set i { c with C := { c.C with Creditor := x.To } })
def freeD (l : List Held) (i : Nat) (c : Held) (x : Ev) : List Held ⊕ Int :=
  if c.C.Creditor != x.Person then .inr 11 else .inl (l.set i { c with C := { c.C with Creditor := -1 } })
def charD (l : List Held) (i : Nat) (c : Held) (x : Ev) : List Held ⊕ Int :=
  if c.C.Amount > 0 then .inr 6 else .inl (l.set i { c with C := { c.C with Wood := x.Where } })
def actS (l : List Held) (i : Nat) (c : Held) (x : Ev) (num : Int) : List Held ⊕ Int :=
  if x.Kind == 1 then fillD l i c x num
  else if x.Kind == 2 then rackD l i c x
  else if x.Kind == 3 then drainD l i c x
  else if x.Kind == 4 then carryD l i c x
  else if x.Kind == 5 then sellD l i c x
  else if x.Kind == 6 then pledgeD l i c x
  else if x.Kind == 7 then freeD l i c x
  else if x.Kind == 8 then charD l i c x
  else .inl l
def makeD (l : List Held) (x : Ev) : List Held ⊕ Int :=
  if (findS l x.Cask).isSome then .inr 5 else if 256 ≤ l.length then .inr 9 else .inl (l ++ [newS x])
def doS (l : List Held) (x : Ev) (num : Int) : List Held ⊕ Int :=
  if x.Kind == 0 then makeD l x
  else match findS l x.Cask with
    | none => .inr 4
    | some i => match l[i]? with
      | none => .inr 4
      | some c => actS l i c x num
structure Cur where
  all : List Held
  last : Int
def stepS (n : Nat) (s : Cur) (x : Ev) : Cur ⊕ Int :=
  if !evB x then .inr 1 else if x.Day < s.last then .inr 7
  else match doS (s.all.map (olderS (x.Day - s.last))) x n with
    | .inl all => .inl ⟨all, x.Day⟩
    | .inr e => .inr e
def goS (day : Int) : List Ev → Nat → Cur → (Cur ⊕ Int) × Nat
  | [], n, s => (.inl s, n)
  | x :: l, n, s => if x.Day ≤ day then match stepS n s x with
      | .inl s' => goS day l (n + 1) s'
      | .inr e => (.inr e, n)
    else (.inl s, n)
def atS (day : Int) (s : Cur) : List Held := s.all.map (olderS (day - s.last))
def runS (day : Int) (l : List Ev) (n : Nat) (s : Cur) : (List Held ⊕ Int) × Nat := match goS day l n s with
  | (.inl s', k) => (.inl (atS day s'), k)
  | (.inr e, k) => (.inr e, k)
def playS (l : List Ev) (day : Int) : (List Held ⊕ Int) × Nat :=
  if l.length > 4096 then (.inr 3, 0) else if !inB day 0 65536 then (.inr 2, 0) else runS day l 0 ⟨[], 0⟩
def sum8 (f : Nat → Int) : Int := f 0 + f 1 + f 2 + f 3 + f 4 + f 5 + f 6 + f 7
structure TOk (age : Int) (f : Nat → Int) : Prop where
  pos : ∀ k, 0 ≤ f k
  out : ∀ k, 8 ≤ k → f k = 0
  sum : sum8 f ≤ age
theorem TOk.le {a : Int} {f : Nat → Int} (h : TOk a f) (k : Nat) : 0 ≤ f k ∧ f k ≤ a := by
  refine ⟨h.pos k, ?_⟩
  have h0 := h.pos 0; have h1 := h.pos 1; have h2 := h.pos 2; have h3 := h.pos 3; have h4 := h.pos 4; have h5 := h.pos 5; have h6 := h.pos 6; have h7 := h.pos 7
  have hs := h.sum
  unfold sum8 at hs
  match k with
  | 0 => omega
  | 1 => omega
  | 2 => omega
  | 3 => omega
  | 4 => omega
  | 5 => omega
  | 6 => omega
  | 7 => omega
  | k + 8 => have := h.out (k + 8) (by omega); omega
theorem TOk.zero {a : Int} (h : 0 ≤ a) : TOk a zN := ⟨fun _ => Int.le_refl 0, fun _ _ => rfl, by simpa [sum8] using h⟩
theorem updN_self {f : Nat → Int} {j : Nat} {v : Int} : updN f j v j = v := by simp [updN]
theorem updN_ne {f : Nat → Int} {j k : Nat} {v : Int} (h : k ≠ j) : updN f j v k = f k := by
  unfold updN
  have : Nat.beq k j = false := by
    cases hb : Nat.beq k j with
    | false => rfl
    | true => exact absurd (Nat.eq_of_beq_eq_true hb) h
  rw [this]
theorem TOk.upd {a n : Int} {f : Nat → Int} {j : Nat} (h : TOk a f) (hj : j < 8) (hn : 0 ≤ n) : TOk (a + n) (updN f j (f j + n)) := by
  refine ⟨fun k => ?_, fun k hk => ?_, ?_⟩
  · by_cases e : k = j
    · subst e; rw [updN_self]; have := h.pos k; omega
    · rw [updN_ne e]; exact h.pos k
  · rw [updN_ne (by omega)]; exact h.out k hk
  · have hs := h.sum
    unfold sum8 at hs ⊢
    match j, hj with
    | 0, _ => simp [updN]; omega
    | 1, _ => simp [updN]; omega
    | 2, _ => simp [updN]; omega
    | 3, _ => simp [updN]; omega
    | 4, _ => simp [updN]; omega
    | 5, _ => simp [updN]; omega
    | 6, _ => simp [updN]; omega
    | 7, _ => simp [updN]; omega
theorem imin_le {a b : Int} : imin a b ≤ a ∧ imin a b ≤ b ∧ (imin a b = a ∨ imin a b = b) := by unfold imin; split <;> omega
theorem TOk.min {a b : Int} {f g : Nat → Int} (h : TOk a f) (h' : TOk b g) : TOk (imin a b) (minN f g) := by
  refine ⟨fun k => ?_, fun k hk => ?_, ?_⟩
  · unfold minN
    have := h.pos k; have := h'.pos k
    split
    · have := imin_le (a := f k) (b := g k); omega
    · exact h.pos k
  · unfold minN; rw [if_neg (by omega)]; exact h.out k hk
  · have hs := h.sum
    have hs' := h'.sum
    unfold sum8 at hs hs' ⊢
    have e : ∀ k, k < 8 → minN f g k ≤ f k ∧ minN f g k ≤ g k := fun k hk => by
      unfold minN; rw [if_pos hk]; have := imin_le (a := f k) (b := g k); omega
    have e0 := e 0 (by decide); have e1 := e 1 (by decide); have e2 := e 2 (by decide); have e3 := e 3 (by decide); have e4 := e 4 (by decide); have e5 := e 5 (by decide); have e6 := e 6 (by decide); have e7 := e 7 (by decide)
    have := imin_le (a := a) (b := b)
    omega
structure HOk (last : Int) (n : Nat) (h : Held) : Prop where
  num : 0 ≤ h.C.Number ∧ h.C.Number ≤ 1073741824
  wood : 0 ≤ h.C.Wood ∧ h.C.Wood ≤ 7
  place : 0 ≤ h.C.Place ∧ h.C.Place ≤ 7
  room : 1 ≤ h.C.Room ∧ h.C.Room ≤ 1099511627776
  owner : 0 ≤ h.C.Owner ∧ h.C.Owner ≤ 1073741824
  cred : -1 ≤ h.C.Creditor ∧ h.C.Creditor ≤ 1073741824
  amt : 0 ≤ h.C.Amount ∧ h.C.Amount ≤ h.C.Room
  age : 0 ≤ h.C.Age ∧ h.C.Age ≤ last
  woods : TOk h.C.Age h.C.Woods
  places : TOk h.C.Age h.C.Places
  empty : h.C.Amount = 0 → h.C.Age = 0 ∧ h.C.Woods = zN ∧ h.C.Places = zN ∧ h.Fills = []
  fills : h.Fills.Pairwise (· < ·) ∧ ∀ f ∈ h.Fills, 0 ≤ f ∧ f < n
  some : 0 < h.C.Amount → h.Fills ≠ []
structure AOk (last : Int) (n : Nat) (l : List Held) : Prop where
  each : ∀ h ∈ l, HOk last n h
  nums : (l.map (·.C.Number)).Nodup
  few : l.length ≤ 256
structure SOk (n : Nat) (s : Cur) : Prop where
  day : 0 ≤ s.last ∧ s.last ≤ 65536
  ok : AOk s.last n s.all
theorem inB_iff {n a b : Int} : inB n a b = true ↔ a ≤ n ∧ n ≤ b := by simp [inB]
theorem older_ok {last n : Int} {m : Nat} {h : Held} (ho : HOk last m h) (hn : 0 ≤ n) : HOk (last + n) m (olderS n h) := by
  unfold olderS
  split
  · rename_i hp
    refine ⟨ho.num, ho.wood, ho.place, ho.room, ho.owner, ho.cred, ho.amt, ⟨by have := ho.age; simp; omega, by have := ho.age; simp; omega⟩, ho.woods.upd (by have := ho.wood; omega) hn, ho.places.upd (by have := ho.place; omega) hn, fun e => ?_, ho.fills, ho.some⟩
    have : h.C.Amount = 0 := e
    omega
  · exact ⟨ho.num, ho.wood, ho.place, ho.room, ho.owner, ho.cred, ho.amt, ⟨ho.age.1, by have := ho.age.2; omega⟩, ho.woods, ho.places, ho.empty, ho.fills, ho.some⟩
theorem older_num {n : Int} {h : Held} : (olderS n h).C.Number = h.C.Number := by unfold olderS; split <;> rfl
theorem older_all {last n : Int} {m : Nat} {l : List Held} (ho : AOk last m l) (hn : 0 ≤ n) : AOk (last + n) m (l.map (olderS n)) := by
  refine ⟨fun h hh => ?_, ?_, by simpa using ho.few⟩
  · obtain ⟨h0, h1, rfl⟩ := List.mem_map.1 hh
    exact older_ok (ho.each h0 h1) hn
  · rw [List.map_map]
    have : ((fun x : Held => x.C.Number) ∘ olderS n) = fun x => x.C.Number := funext fun x => older_num
    rw [this]; exact ho.nums
theorem older_add {a b : Int} {h : Held} : olderS b (olderS a h) = olderS (a + b) h := by
  unfold olderS
  by_cases hp : 0 < h.C.Amount
  · simp only [hp, if_true]
    have e : ∀ (f : Nat → Int) (j : Nat), updN (updN f j (f j + a)) j (updN f j (f j + a) j + b) = updN f j (f j + (a + b)) := fun f j => by
      funext k
      unfold updN
      cases hk : Nat.beq k j with
      | true => simp; omega
      | false => simp
    simp only [e]
    congr 2
    omega
  · simp only [hp, if_false]
end Go.Proofs.Ytkffpbnbjnadnaa
end
