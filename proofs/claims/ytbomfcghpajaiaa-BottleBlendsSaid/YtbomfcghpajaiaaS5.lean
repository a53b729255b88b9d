/- Printed by gen.py: plain models of the program's functions, and that the code does what they say. -/
import Derived.Test.YtbomfcghpajaiaaS0
import Derived.Test.YtbomfcghpajaiaaS3
namespace Go.Proofs.Ytbomfcghpajaiaa
open Go.Dec

noncomputable def b_wormtubref12_from_1 (c1 : ApiCask) (s6 : Int × Int × Int) : Option (Ctl (Int × Int × Int) ((Int × Int) ⊕ (Bool))) :=
  if (decide (s6.2.2 < 8)) then ((idxO 8 s6.2.2).bind fun j10 => (if (!(m_wormtubref12_in (c1.Woods j10) 0 65536)) then some true else ((idxO 8 s6.2.2).bind fun j15 => some (!(m_wormtubref12_in (c1.Places j15) 0 65536)))).bind fun z22 => if z22 then (some (.done (.inr false))) else ((idxO 8 s6.2.2).bind fun j25 => bindv (w64 (s6.1 + (c1.Woods j25))) fun sum27 => (idxO 8 s6.2.2).bind fun j29 => bindv (w64 (s6.2.1 + (c1.Places j29))) fun other31 => bindv (w64 (s6.2.2 + 1)) fun i33 => some (.next (sum27, other31, i33)))) else (some (.done (.inl (s6.1, s6.2.1))))
noncomputable def m_wormtubref12_from (c1 : ApiCask) : Option Bool :=
  (loopM (b_wormtubref12_from_1 c1) (0, 0, 0)).bind fun b0 => match b0 with | .inl b35 => (some ((((m_wormtubref12_in c1.Number 0 1073741824) && (m_wormtubref12_in c1.Age 0 65536)) && (decide (c1.Age ≥ b35.1))) && (decide (c1.Age ≥ b35.2)))) | .inr b35 => (some b35)
theorem c_wormtubref12_from (F0 : Fz) (c1 : ApiCask) : CT0 Try.prog 47 [(eApiCask c1)].toArray F0 (m_wormtubref12_from c1) (fun r _ v => v = (.bool r)) := by
  refine CT0.enter Try.func47 rfl Try.ntmps47 rfl fun r R => ?_
  unfold m_wormtubref12_from
  refine .seq ?_
  refine .region ?_
  refine .boxF (cs := (cApiCask c1)) rfl rfl rfl (fun b2 F_3 l_4 hb5 => ?_)
  refine .assign rfl rfl ?_
  refine .nil ?_
  refine .code ?_
  refine .seq ?_
  refine .region ?_
  refine .assign rfl rfl ?_
  refine .assign rfl rfl ?_
  refine .nil ?_
  refine .code ?_
  refine .seq ?_
  refine .seq ?_
  refine .region ?_
  refine .assign rfl rfl ?_
  refine .nil ?_
  refine .code ?_
  refine .block ?_
  refine .keep (.cons (k := 1) rfl (.cons (k := 3) rfl (.cons (k := 4) rfl (.cons (k := 5) rfl (.nil _))))) ?_
  refine .loop (fun (s6 : Int × Int × Int) a w => ∃ (F_7 : Fz), F_3 ≤ F_7 ∧ Hd 56 [] [(1, (.pointer (some ⟨b2, 0, none⟩))), (3, (.int .i64 s6.1)), (4, (.int .i64 s6.2.1)), (5, (.int .i64 s6.2.2))] F_7 [R] a w) (fun b0 e a w => match b0 with | .inl b35 => e = .exit 0 ∧ ∃ (F_36 : Fz), F_3 ≤ F_36 ∧ Hd 56 [] [(1, (.pointer (some ⟨b2, 0, none⟩))), (3, (.int .i64 b35.1)), (4, (.int .i64 b35.2))] F_36 [R] a w | .inr b35 => e = .ret ∧ ∃ (F_38 : Fz), F_3 ≤ F_38 ∧ Hd 56 [] [(2, (.bool b35))] F_38 [R] a w) ?_ ?_ ?_
  · exact fun a w h => ⟨F_3, (Fz.le_refl _), h.1.sub (.cons (k := 1) rfl (.cons (k := 3) rfl (.cons (k := 4) rfl (.cons (k := 5) rfl (.nil _))))), h.2⟩
  · intro s6 ctl
    refine GC.ex (fun a w ⟨F_7, l_8, hA⟩ => ⟨_, hA, ?_⟩)
    unfold b_wormtubref12_from_1
    refine .seq ?_
    refine .seq ?_
    refine .region ?_
    refine .move rfl rfl ?_
    refine .lss rfl rfl rfl ?_
    refine .nil ?_
    refine .code ?_
    refine .cond rfl (fun hb9 => ?_) (fun hb9 => ?_)
    · skip
      refine .skip ?_
      refine .code ?_
      refine .seq ?_
      refine .block ?_
      refine .seq ?_
      refine .seq ?_
      refine .region ?_
      refine .move rfl rfl ?_
      refine .fieldAddr rfl Try.underlying49 rfl Try.sizeOf47 rfl ?_
      refine .bind (fun j10 hj11 => ?_)
      refine .indexAddrA rfl Try.underlying47 Try.sizeOf3 rfl rfl hj11 ?_
      refine .loadF rfl Try.isAgg3 rfl (l_8.mem _ _ hb5) (allLt8 (p := fun j10 => ((cApiCask c1))[0 + 8 + j10 * 1]? = some (.int .i64 (c1.Woods j10))) rfl rfl rfl rfl rfl rfl rfl rfl _ (idxO_some hj11).2.2.2) ?_
      refine .callP rfl Try.call48 rfl rfl rfl (c_wormtubref12_in _ (c1.Woods j10) 0 65536) ?_
      rintro F_12 _ l_13 rfl
      refine .not rfl rfl ?_
      refine .move rfl rfl ?_
      refine .orM (b := (!(m_wormtubref12_in (c1.Woods j10) 0 65536))) 7 23 (fun hb14 z23 => ?_) (fun hb19 => ?_) (fun z22 F_20 l_21 => ?_)
      · skip
        refine .onH hb14 rfl rfl ?_
        refine .move rfl rfl ?_
        refine .onH hb14 rfl rfl ?_
        refine .fieldAddr rfl Try.underlying49 rfl Try.sizeOf47 rfl ?_
        refine .onH hb14 rfl rfl ?_
        refine .bind (fun j15 hj16 => ?_)
        refine .indexAddrA rfl Try.underlying47 Try.sizeOf3 rfl rfl hj16 ?_
        refine .onH hb14 rfl rfl ?_
        refine .loadF rfl Try.isAgg3 rfl ((Fz.le_trans l_8 l_13).mem _ _ hb5) (allLt8 (p := fun j15 => ((cApiCask c1))[0 + 16 + j15 * 1]? = some (.int .i64 (c1.Places j15))) rfl rfl rfl rfl rfl rfl rfl rfl _ (idxO_some hj16).2.2.2) ?_
        refine .onH hb14 rfl rfl ?_
        refine .callP rfl Try.call48 rfl rfl rfl (c_wormtubref12_in _ (c1.Places j15) 0 65536) ?_
        rintro F_17 _ l_18 rfl
        refine .onH hb14 rfl rfl ?_
        refine .not rfl rfl ?_
        refine .pickFH hb14 rfl rfl rfl ?_
        exact .finZ 7 rfl rfl (by kernel_rfl) l_18
      · skip
        refine .offH hb19 rfl rfl rfl ?_
        refine .offH hb19 rfl rfl rfl ?_
        refine .offH hb19 rfl rfl rfl ?_
        refine .offH hb19 rfl rfl rfl ?_
        refine .offH hb19 rfl rfl rfl ?_
        refine .offH hb19 rfl rfl rfl ?_
        refine .pickTH hb19 rfl rfl rfl ?_
        exact .fin 7 rfl rfl (by kernel_rfl) (Fz.le_refl _)
      refine .nil ?_
      refine .code ?_
      refine .cond rfl (fun hb24 => ?_) (fun hb24 => ?_)
      · skip
        refine .seq ?_
        refine .region ?_
        refine .assign rfl rfl ?_
        refine .nil ?_
        refine .code ?_
        refine .retQ (LPost.ret fun a w h => ⟨rfl, F_20, (Fz.le_trans l_8 (Fz.le_trans l_13 l_21)), h.1.sub (.cons (k := 2) rfl (.nil _)), h.2⟩)
      · skip
        refine .skip ?_
        refine .code ?_
        refine .seq ?_
        refine .region ?_
        refine .move rfl rfl ?_
        refine .move rfl rfl ?_
        refine .fieldAddr rfl Try.underlying49 rfl Try.sizeOf47 rfl ?_
        refine .bind (fun j25 hj26 => ?_)
        refine .indexAddrA rfl Try.underlying47 Try.sizeOf3 rfl rfl hj26 ?_
        refine .loadF rfl Try.isAgg3 rfl ((Fz.le_trans l_8 (Fz.le_trans l_13 l_21)).mem _ _ hb5) (allLt8 (p := fun j25 => ((cApiCask c1))[0 + 8 + j25 * 1]? = some (.int .i64 (c1.Woods j25))) rfl rfl rfl rfl rfl rfl rfl rfl _ (idxO_some hj26).2.2.2) ?_
        refine .add rfl rfl rfl ?_
        refine .assignL rfl rfl (fun sum27 e28 => ?_)
        refine .nil ?_
        refine .code ?_
        refine .region ?_
        refine .move rfl rfl ?_
        refine .move rfl rfl ?_
        refine .fieldAddr rfl Try.underlying49 rfl Try.sizeOf47 rfl ?_
        refine .bind (fun j29 hj30 => ?_)
        refine .indexAddrA rfl Try.underlying47 Try.sizeOf3 rfl rfl hj30 ?_
        refine .loadF rfl Try.isAgg3 rfl ((Fz.le_trans l_8 (Fz.le_trans l_13 l_21)).mem _ _ hb5) (allLt8 (p := fun j29 => ((cApiCask c1))[0 + 16 + j29 * 1]? = some (.int .i64 (c1.Places j29))) rfl rfl rfl rfl rfl rfl rfl rfl _ (idxO_some hj30).2.2.2) ?_
        refine .add rfl rfl rfl ?_
        refine .assignL rfl rfl (fun other31 e32 => ?_)
        refine .nil ?_
        refine .block ?_
        refine .keep (.cons (k := 1) rfl (.cons (k := 3) rfl (.cons (k := 4) rfl (.cons (k := 5) rfl (.nil _))))) ?_
        refine .code ?_
        refine .region ?_
        refine .move rfl rfl ?_
        refine .add rfl rfl rfl ?_
        refine .assignL rfl rfl (fun i33 e34 => ?_)
        refine .nil ?_
        exact .nil (LPost.norm fun a w h => ⟨F_20, (Fz.le_trans l_8 (Fz.le_trans l_13 l_21)), h.1.sub (.cons (k := 1) rfl (.cons (k := 3) rfl (.cons (k := 4) rfl (.cons (k := 5) rfl (.nil _))))), h.2⟩)
    · skip
      refine .exitOut rfl (LPost.exit fun a w h => ⟨rfl, F_7, l_8, h.1.sub (.cons (k := 1) rfl (.cons (k := 3) rfl (.cons (k := 4) rfl (.nil _)))), h.2⟩)
  · intro b35 hb0 hk e a w hD
    rcases b35 with b35 | b35
    · skip
      obtain ⟨rfl, F_36, l_37, hA⟩ := hD
      refine interp_exit rfl (GE.app ?_ hk a w hA)
      refine .code ?_
      refine .seq ?_
      refine .region ?_
      refine .fieldAddr rfl Try.underlying49 rfl Try.sizeOf3 rfl ?_
      refine .loadF rfl Try.isAgg3 rfl (l_37.mem _ _ hb5) rfl ?_
      refine .callP rfl Try.call48 rfl rfl rfl (c_wormtubref12_in _ c1.Number 0 1073741824) ?_
      rintro F_40 _ l_41 rfl
      refine .move rfl rfl ?_
      refine .andP (b := (m_wormtubref12_in c1.Number 0 1073741824)) (b' := (m_wormtubref12_in c1.Age 0 65536)) 4 43 (fun hb42 => ?_) (fun hb45 => ?_) (fun F_46 l_47 => ?_)
      · skip
        refine .onH hb42 rfl rfl ?_
        refine .fieldAddr rfl Try.underlying49 rfl Try.sizeOf3 rfl ?_
        refine .onH hb42 rfl rfl ?_
        refine .loadF rfl Try.isAgg3 rfl ((Fz.le_trans l_37 l_41).mem _ _ hb5) rfl ?_
        refine .onH hb42 rfl rfl ?_
        refine .callP rfl Try.call48 rfl rfl rfl (c_wormtubref12_in _ c1.Age 0 65536) ?_
        rintro F_43 _ l_44 rfl
        refine .pickTH hb42 rfl rfl rfl ?_
        exact .fin 4 rfl rfl (by kernel_rfl) l_44
      · skip
        refine .offH hb45 rfl rfl rfl ?_
        refine .offH hb45 rfl rfl rfl ?_
        refine .offH hb45 rfl rfl rfl ?_
        refine .pickFH hb45 rfl rfl rfl ?_
        exact .fin 4 rfl rfl (by kernel_rfl) (Fz.le_refl _)
      refine .move rfl rfl ?_
      refine .andP (b := ((m_wormtubref12_in c1.Number 0 1073741824) && (m_wormtubref12_in c1.Age 0 65536))) (b' := (decide (c1.Age ≥ b35.1))) 5 49 (fun hb48 => ?_) (fun hb49 => ?_) (fun F_50 l_51 => ?_)
      · skip
        refine .onH hb48 rfl rfl ?_
        refine .fieldAddr rfl Try.underlying49 rfl Try.sizeOf3 rfl ?_
        refine .onH hb48 rfl rfl ?_
        refine .loadF rfl Try.isAgg3 rfl ((Fz.le_trans l_37 (Fz.le_trans l_41 l_47)).mem _ _ hb5) rfl ?_
        refine .onH hb48 rfl rfl ?_
        refine .move rfl rfl ?_
        refine .onH hb48 rfl rfl ?_
        refine .geq rfl rfl rfl ?_
        refine .pickTH hb48 rfl rfl rfl ?_
        exact .fin 5 rfl rfl (by kernel_rfl) (Fz.le_refl _)
      · skip
        refine .offH hb49 rfl rfl rfl ?_
        refine .offH hb49 rfl rfl rfl ?_
        refine .offH hb49 rfl rfl rfl ?_
        refine .offH hb49 rfl rfl rfl ?_
        refine .pickFH hb49 rfl rfl rfl ?_
        exact .fin 5 rfl rfl (by kernel_rfl) (Fz.le_refl _)
      refine .move rfl rfl ?_
      refine .andP (b := (((m_wormtubref12_in c1.Number 0 1073741824) && (m_wormtubref12_in c1.Age 0 65536)) && (decide (c1.Age ≥ b35.1)))) (b' := (decide (c1.Age ≥ b35.2))) 5 55 (fun hb52 => ?_) (fun hb53 => ?_) (fun F_54 l_55 => ?_)
      · skip
        refine .onH hb52 rfl rfl ?_
        refine .fieldAddr rfl Try.underlying49 rfl Try.sizeOf3 rfl ?_
        refine .onH hb52 rfl rfl ?_
        refine .loadF rfl Try.isAgg3 rfl ((Fz.le_trans l_37 (Fz.le_trans l_41 (Fz.le_trans l_47 l_51))).mem _ _ hb5) rfl ?_
        refine .onH hb52 rfl rfl ?_
        refine .move rfl rfl ?_
        refine .onH hb52 rfl rfl ?_
        refine .geq rfl rfl rfl ?_
        refine .pickTH hb52 rfl rfl rfl ?_
        exact .fin 5 rfl rfl (by kernel_rfl) (Fz.le_refl _)
      · skip
        refine .offH hb53 rfl rfl rfl ?_
        refine .offH hb53 rfl rfl rfl ?_
        refine .offH hb53 rfl rfl rfl ?_
        refine .offH hb53 rfl rfl rfl ?_
        refine .pickFH hb53 rfl rfl rfl ?_
        exact .fin 5 rfl rfl (by kernel_rfl) (Fz.le_refl _)
      refine .assign rfl rfl ?_
      refine .nil ?_
      refine .code ?_
      exact .ret0 Try.results47 (.tmp rfl (.nil)) (i := 0) rfl (Fz.le_trans l_4 (Fz.le_trans l_37 (Fz.le_trans l_41 (Fz.le_trans l_47 (Fz.le_trans l_51 l_55))))) rfl
    obtain ⟨rfl, F_38, l_39, hA⟩ := hD
    exact interp_ret ((ret_post0 Try.results47 (.tmp rfl (.nil)) (i := 0) rfl (Fz.le_trans l_4 l_39) rfl) hk a w hA)

def m_wormtubref12_span (s1 : ApiSpan) (most2 : Int) : Bool :=
  (((decide (s1.Lo ≥ 0)) && (decide (s1.Lo ≤ s1.Hi))) && (decide (s1.Hi ≤ most2)))
theorem c_wormtubref12_span (F0 : Fz) (s1 : ApiSpan) (most2 : Int) : CT0 Try.prog 49 [(eApiSpan s1), (.int .i64 most2)].toArray F0 (some (m_wormtubref12_span s1 most2)) (fun r _ v => v = (.bool r)) := by
  refine CT0.enter Try.func49 rfl Try.ntmps49 rfl fun r R => ?_
  refine .seq ?_
  refine .region ?_
  refine .boxF (cs := (cApiSpan s1)) rfl rfl rfl (fun b3 F_4 l_5 hb6 => ?_)
  refine .assign rfl rfl ?_
  refine .nil ?_
  refine .code ?_
  refine .seq ?_
  refine .region ?_
  refine .fieldAddr rfl Try.underlying36 rfl Try.sizeOf3 rfl ?_
  refine .loadF rfl Try.isAgg3 rfl hb6 rfl ?_
  refine .geq rfl rfl rfl ?_
  refine .move rfl rfl ?_
  refine .andP (b := (decide (s1.Lo ≥ 0))) (b' := (decide (s1.Lo ≤ s1.Hi))) 6 14 (fun hb7 => ?_) (fun hb8 => ?_) (fun F_9 l_10 => ?_)
  · skip
    refine .onH hb7 rfl rfl ?_
    refine .fieldAddr rfl Try.underlying36 rfl Try.sizeOf3 rfl ?_
    refine .onH hb7 rfl rfl ?_
    refine .loadF rfl Try.isAgg3 rfl hb6 rfl ?_
    refine .onH hb7 rfl rfl ?_
    refine .fieldAddr rfl Try.underlying36 rfl Try.sizeOf3 rfl ?_
    refine .onH hb7 rfl rfl ?_
    refine .loadF rfl Try.isAgg3 rfl hb6 rfl ?_
    refine .onH hb7 rfl rfl ?_
    refine .leq rfl rfl rfl ?_
    refine .pickTH hb7 rfl rfl rfl ?_
    exact .fin 6 rfl rfl (by kernel_rfl) (Fz.le_refl _)
  · skip
    refine .offH hb8 rfl rfl rfl ?_
    refine .offH hb8 rfl rfl rfl ?_
    refine .offH hb8 rfl rfl rfl ?_
    refine .offH hb8 rfl rfl rfl ?_
    refine .offH hb8 rfl rfl rfl ?_
    refine .pickFH hb8 rfl rfl rfl ?_
    exact .fin 6 rfl rfl (by kernel_rfl) (Fz.le_refl _)
  refine .move rfl rfl ?_
  refine .andP (b := ((decide (s1.Lo ≥ 0)) && (decide (s1.Lo ≤ s1.Hi)))) (b' := (decide (s1.Hi ≤ most2))) 5 20 (fun hb11 => ?_) (fun hb12 => ?_) (fun F_13 l_14 => ?_)
  · skip
    refine .onH hb11 rfl rfl ?_
    refine .fieldAddr rfl Try.underlying36 rfl Try.sizeOf3 rfl ?_
    refine .onH hb11 rfl rfl ?_
    refine .loadF rfl Try.isAgg3 rfl (l_10.mem _ _ hb6) rfl ?_
    refine .onH hb11 rfl rfl ?_
    refine .move rfl rfl ?_
    refine .onH hb11 rfl rfl ?_
    refine .leq rfl rfl rfl ?_
    refine .pickTH hb11 rfl rfl rfl ?_
    exact .fin 5 rfl rfl (by kernel_rfl) (Fz.le_refl _)
  · skip
    refine .offH hb12 rfl rfl rfl ?_
    refine .offH hb12 rfl rfl rfl ?_
    refine .offH hb12 rfl rfl rfl ?_
    refine .offH hb12 rfl rfl rfl ?_
    refine .pickFH hb12 rfl rfl rfl ?_
    exact .fin 5 rfl rfl (by kernel_rfl) (Fz.le_refl _)
  refine .assign rfl rfl ?_
  refine .nil ?_
  refine .code ?_
  exact .ret0 Try.results49 (.tmp rfl (.nil)) (i := 0) rfl (Fz.le_trans l_5 (Fz.le_trans l_10 l_14)) rfl

noncomputable def b_wormtubref12_Batch_1 (b1 : ApiBatch) (s9 : Int) : Option (Ctl (Int) ((Unit) ⊕ (Bool))) :=
  if (decide (s9 < (b1.Draughts.length : Int))) then ((idxL b1.Draughts s9).bind fun x13 => (m_wormtubref12_from x13.From).bind fun r_26 => if (((!r_26) || (!(m_wormtubref12_in x13.Amount 1 1073741824))) || (!(m_wormtubref12_span x13.Strength 10000))) then (some (.done (.inr false))) else (bindv (w64 (s9 + 1)) fun i40 => some (.next i40))) else (some (.done (.inl ())))
noncomputable def m_wormtubref12_Batch (b1 : ApiBatch) : Option Bool :=
  (loopM (b_wormtubref12_Batch_1 b1) 0).bind fun b0 => match b0 with | .inl _b42 => (some (((m_wormtubref12_in (b1.Draughts.length : Int) 1 16) && (m_wormtubref12_in b1.Water 0 17179869184)) && (m_wormtubref12_span b1.Shrink 1000))) | .inr b42 => (some b42)
theorem c_wormtubref12_Batch (F0 : Fz) (b1 : ApiBatch) (p2 : Option Addr) (k3 : Nat) (h4 : RepSl 27 (Ex cApiDraught) F0 p2 k3 b1.Draughts) : CT0 Try.prog 18 [(eApiBatch b1 p2 k3)].toArray F0 (m_wormtubref12_Batch b1) (fun r _ v => v = (.bool r)) := by
  refine CT0.enter Try.func18 rfl Try.ntmps18 rfl fun r R => ?_
  unfold m_wormtubref12_Batch
  refine .seq ?_
  refine .region ?_
  refine .boxF (cs := (cApiBatch b1 p2 k3)) rfl rfl rfl (fun b5 F_6 l_7 hb8 => ?_)
  refine .assign rfl rfl ?_
  refine .nil ?_
  refine .code ?_
  refine .seq ?_
  refine .seq ?_
  refine .region ?_
  refine .assign rfl rfl ?_
  refine .nil ?_
  refine .code ?_
  refine .block ?_
  refine .keep (.cons (k := 1) rfl (.cons (k := 3) rfl (.nil _))) ?_
  refine .loop (fun (s9 : Int) a w => ∃ (F_10 : Fz), F_6 ≤ F_10 ∧ Hd 47 [] [(1, (.pointer (some ⟨b5, 0, none⟩))), (3, (.int .i64 s9))] F_10 [R] a w) (fun b0 e a w => match b0 with | .inl b42 => e = .exit 0 ∧ ∃ (F_43 : Fz), F_6 ≤ F_43 ∧ Hd 47 [] [(1, (.pointer (some ⟨b5, 0, none⟩)))] F_43 [R] a w | .inr b42 => e = .ret ∧ ∃ (F_45 : Fz), F_6 ≤ F_45 ∧ Hd 47 [] [(2, (.bool b42))] F_45 [R] a w) ?_ ?_ ?_
  · exact fun a w h => ⟨F_6, (Fz.le_refl _), h.1.sub (.cons (k := 1) rfl (.cons (k := 3) rfl (.nil _))), h.2⟩
  · intro s9 ctl
    refine GC.ex (fun a w ⟨F_10, l_11, hA⟩ => ⟨_, hA, ?_⟩)
    unfold b_wormtubref12_Batch_1
    refine .seq ?_
    refine .seq ?_
    refine .region ?_
    refine .move rfl rfl ?_
    refine .fieldAddr rfl Try.underlying38 rfl Try.sizeOf34 rfl ?_
    refine .loadF rfl Try.isAgg34 rfl (l_11.mem _ _ hb8) rfl ?_
    refine .lenS rfl rfl Try.underlying34 rfl ?_
    refine .lss rfl rfl rfl ?_
    refine .nil ?_
    refine .code ?_
    refine .cond rfl (fun hb12 => ?_) (fun hb12 => ?_)
    · skip
      refine .skip ?_
      refine .code ?_
      refine .seq ?_
      refine .block ?_
      refine .seq ?_
      refine .region ?_
      refine .fieldAddr rfl Try.underlying38 rfl Try.sizeOf34 rfl ?_
      refine .loadF rfl Try.isAgg34 rfl (l_11.mem _ _ hb8) rfl ?_
      refine .move rfl rfl ?_
      refine .idx rfl Try.underlying34 Try.sizeOf51 (h4.mono (Fz.le_trans l_7 l_11)) rfl rfl (fun x13 b14 o15 T16 fr17 cs18 e19 hm20 hv21 => ?_)
      refine .loadFA rfl Try.isAgg51 Try.sizeOf51 rfl hm20 hv21 rfl ?_
      refine .alloc (cs := (cApiDraught (ApiDraught.mk (ApiCask.mk 0 0 0 0 0 0 0 0 (fun _ => 0) (fun _ => 0)) 0 (ApiSpan.mk 0 0)))) rfl Try.zeroValue51 rfl (fun b23 => ?_)
      refine .store (cs' := (cApiDraught x13)) Try.sizeOf51 rfl rfl rfl rfl (i := 0) rfl (Nat.le_of_ble_eq_true rfl) rfl (setMany_all (by rfl)) ?_
      refine .nil ?_
      refine .code ?_
      refine .seq ?_
      refine .region ?_
      refine .fieldAddr rfl Try.underlying51 rfl Try.sizeOf49 rfl ?_
      refine .loadOA rfl Try.isAgg49 Try.sizeOf49 rfl (i := 0) rfl (vs := (cApiCask x13.From)) (by kernel_rfl) rfl ?_
      refine .call0 rfl Try.call47 rfl rfl rfl (c_wormtubref12_from _ x13.From) ?_
      rintro r_26 F_24 _ - l_25 rfl
      refine .not rfl rfl ?_
      refine .move rfl rfl ?_
      refine .orP (b := (!r_26)) (b' := (!(m_wormtubref12_in x13.Amount 1 1073741824))) 5 26 (fun hb27 => ?_) (fun hb30 => ?_) (fun F_31 l_32 => ?_)
      · skip
        refine .onH hb27 rfl rfl ?_
        refine .fieldAddr rfl Try.underlying51 rfl Try.sizeOf3 rfl ?_
        refine .onH hb27 rfl rfl ?_
        refine .loadO rfl Try.isAgg3 rfl (i := 0) rfl rfl ?_
        refine .onH hb27 rfl rfl ?_
        refine .callP rfl Try.call48 rfl rfl rfl (c_wormtubref12_in _ x13.Amount 1 1073741824) ?_
        rintro F_28 _ l_29 rfl
        refine .onH hb27 rfl rfl ?_
        refine .not rfl rfl ?_
        refine .pickFH hb27 rfl rfl rfl ?_
        exact .fin 5 rfl rfl (by kernel_rfl) l_29
      · skip
        refine .offH hb30 rfl rfl rfl ?_
        refine .offH hb30 rfl rfl rfl ?_
        refine .offH hb30 rfl rfl rfl ?_
        refine .offH hb30 rfl rfl rfl ?_
        refine .pickTH hb30 rfl rfl rfl ?_
        exact .fin 5 rfl rfl (by kernel_rfl) (Fz.le_refl _)
      refine .move rfl rfl ?_
      refine .orP (b := ((!r_26) || (!(m_wormtubref12_in x13.Amount 1 1073741824)))) (b' := (!(m_wormtubref12_span x13.Strength 10000))) 5 32 (fun hb33 => ?_) (fun hb36 => ?_) (fun F_37 l_38 => ?_)
      · skip
        refine .onH hb33 rfl rfl ?_
        refine .fieldAddr rfl Try.underlying51 rfl Try.sizeOf36 rfl ?_
        refine .onH hb33 rfl rfl ?_
        refine .loadOA rfl Try.isAgg36 Try.sizeOf36 rfl (i := 0) rfl (vs := (cApiSpan x13.Strength)) (by kernel_rfl) rfl ?_
        refine .onH hb33 rfl rfl ?_
        refine .callP rfl Try.call49 rfl rfl rfl (c_wormtubref12_span _ x13.Strength 10000) ?_
        rintro F_34 _ l_35 rfl
        refine .onH hb33 rfl rfl ?_
        refine .not rfl rfl ?_
        refine .pickFH hb33 rfl rfl rfl ?_
        exact .fin 5 rfl rfl (by kernel_rfl) l_35
      · skip
        refine .offH hb36 rfl rfl rfl ?_
        refine .offH hb36 rfl rfl rfl ?_
        refine .offH hb36 rfl rfl rfl ?_
        refine .offH hb36 rfl rfl rfl ?_
        refine .pickTH hb36 rfl rfl rfl ?_
        exact .fin 5 rfl rfl (by kernel_rfl) (Fz.le_refl _)
      refine .nil ?_
      refine .code ?_
      refine .cond rfl (fun hb39 => ?_) (fun hb39 => ?_)
      · skip
        refine .seq ?_
        refine .region ?_
        refine .assign rfl rfl ?_
        refine .nil ?_
        refine .code ?_
        refine .drop 0 ?_
        refine .retQ (LPost.ret fun a w h => ⟨rfl, F_37, (Fz.le_trans l_11 (Fz.le_trans l_25 (Fz.le_trans l_32 l_38))), h.1.sub (.cons (k := 2) rfl (.nil _)), h.2⟩)
      · skip
        refine .skip ?_
        refine .block ?_
        refine .code ?_
        refine .region ?_
        refine .move rfl rfl ?_
        refine .add rfl rfl rfl ?_
        refine .assignL rfl rfl (fun i40 e41 => ?_)
        refine .nil ?_
        refine .drop 0 ?_
        exact .nil (LPost.norm fun a w h => ⟨F_37, (Fz.le_trans l_11 (Fz.le_trans l_25 (Fz.le_trans l_32 l_38))), h.1.sub (.cons (k := 1) rfl (.cons (k := 3) rfl (.nil _))), h.2⟩)
    · skip
      refine .exitOut rfl (LPost.exit fun a w h => ⟨rfl, F_10, l_11, h.1.sub (.cons (k := 1) rfl (.nil _)), h.2⟩)
  · intro b42 hb0 hk e a w hD
    rcases b42 with b42 | b42
    · skip
      obtain ⟨rfl, F_43, l_44, hA⟩ := hD
      refine interp_exit rfl (GE.app ?_ hk a w hA)
      refine .code ?_
      refine .seq ?_
      refine .region ?_
      refine .fieldAddr rfl Try.underlying38 rfl Try.sizeOf34 rfl ?_
      refine .loadF rfl Try.isAgg34 rfl (l_44.mem _ _ hb8) rfl ?_
      refine .lenS rfl rfl Try.underlying34 rfl ?_
      refine .callP rfl Try.call48 rfl rfl rfl (c_wormtubref12_in _ (b1.Draughts.length : Int) 1 16) ?_
      rintro F_47 _ l_48 rfl
      refine .move rfl rfl ?_
      refine .andP (b := (m_wormtubref12_in (b1.Draughts.length : Int) 1 16)) (b' := (m_wormtubref12_in b1.Water 0 17179869184)) 4 41 (fun hb49 => ?_) (fun hb52 => ?_) (fun F_53 l_54 => ?_)
      · skip
        refine .onH hb49 rfl rfl ?_
        refine .fieldAddr rfl Try.underlying38 rfl Try.sizeOf3 rfl ?_
        refine .onH hb49 rfl rfl ?_
        refine .loadF rfl Try.isAgg3 rfl ((Fz.le_trans l_44 l_48).mem _ _ hb8) rfl ?_
        refine .onH hb49 rfl rfl ?_
        refine .callP rfl Try.call48 rfl rfl rfl (c_wormtubref12_in _ b1.Water 0 17179869184) ?_
        rintro F_50 _ l_51 rfl
        refine .pickTH hb49 rfl rfl rfl ?_
        exact .fin 4 rfl rfl (by kernel_rfl) l_51
      · skip
        refine .offH hb52 rfl rfl rfl ?_
        refine .offH hb52 rfl rfl rfl ?_
        refine .offH hb52 rfl rfl rfl ?_
        refine .pickFH hb52 rfl rfl rfl ?_
        exact .fin 4 rfl rfl (by kernel_rfl) (Fz.le_refl _)
      refine .move rfl rfl ?_
      refine .andP (b := ((m_wormtubref12_in (b1.Draughts.length : Int) 1 16) && (m_wormtubref12_in b1.Water 0 17179869184))) (b' := (m_wormtubref12_span b1.Shrink 1000)) 4 46 (fun hb55 => ?_) (fun hb58 => ?_) (fun F_59 l_60 => ?_)
      · skip
        refine .onH hb55 rfl rfl ?_
        refine .fieldAddr rfl Try.underlying38 rfl Try.sizeOf36 rfl ?_
        refine .onH hb55 rfl rfl ?_
        refine .loadFA rfl Try.isAgg36 Try.sizeOf36 rfl ((Fz.le_trans l_44 (Fz.le_trans l_48 l_54)).mem _ _ hb8) (vs := (cApiSpan b1.Shrink)) (by kernel_rfl) rfl ?_
        refine .onH hb55 rfl rfl ?_
        refine .callP rfl Try.call49 rfl rfl rfl (c_wormtubref12_span _ b1.Shrink 1000) ?_
        rintro F_56 _ l_57 rfl
        refine .pickTH hb55 rfl rfl rfl ?_
        exact .fin 4 rfl rfl (by kernel_rfl) l_57
      · skip
        refine .offH hb58 rfl rfl rfl ?_
        refine .offH hb58 rfl rfl rfl ?_
        refine .offH hb58 rfl rfl rfl ?_
        refine .pickFH hb58 rfl rfl rfl ?_
        exact .fin 4 rfl rfl (by kernel_rfl) (Fz.le_refl _)
      refine .assign rfl rfl ?_
      refine .nil ?_
      refine .code ?_
      exact .ret0 Try.results18 (.tmp rfl (.nil)) (i := 0) rfl (Fz.le_trans l_7 (Fz.le_trans l_44 (Fz.le_trans l_48 (Fz.le_trans l_54 l_60)))) rfl
    obtain ⟨rfl, F_45, l_46, hA⟩ := hD
    exact interp_ret ((ret_post0 Try.results18 (.tmp rfl (.nil)) (i := 0) rfl (Fz.le_trans l_7 l_46) rfl) hk a w hA)

end Go.Proofs.Ytbomfcghpajaiaa
