/- Printed by gen.py: plain models of the program's functions, and that the code does what they say. -/
import Derived.Test.YtbomfcghpajaiaaT0
import Derived.Test.YtbomfcghpajaiaaT1
import Derived.Test.YtbomfcghpajaiaaT2
import Derived.Test.YtbomfcghpajaiaaT3
import Derived.Test.YtbomfcghpajaiaaTa
namespace Go.Proofs.Ytbomfcghpajaiaa
open Go.Dec

noncomputable def b_wormtubref12_from_1 (c1 : ApiCask) (s6 : Int × Int × Int) : Option (Ctl (Int × Int × Int) ((Int × Int) ⊕ (Bool))) :=
  if (decide (s6.2.2 < 8)) then ((idxO 8 s6.2.2).bind fun j10 => (if (!(m_wormtubref12_in (c1.Woods j10) 0 65536)) then some true else ((idxO 8 s6.2.2).bind fun j15 => some (!(m_wormtubref12_in (c1.Places j15) 0 65536)))).bind fun z22 => if z22 then (some (.done (.inr false))) else ((idxO 8 s6.2.2).bind fun j25 => bindv (w64 (s6.1 + (c1.Woods j25))) fun sum27 => (idxO 8 s6.2.2).bind fun j29 => bindv (w64 (s6.2.1 + (c1.Places j29))) fun other31 => bindv (w64 (s6.2.2 + 1)) fun i33 => some (.next (sum27, other31, i33)))) else (some (.done (.inl (s6.1, s6.2.1))))
noncomputable def m_wormtubref12_from (c1 : ApiCask) : Option Bool :=
  (loopM (b_wormtubref12_from_1 c1) (0, 0, 0)).bind fun b0 => match b0 with | .inl b35 => (some ((((m_wormtubref12_in c1.Number 0 1073741824) && (m_wormtubref12_in c1.Age 0 65536)) && (decide (c1.Age ≥ b35.1))) && (decide (c1.Age ≥ b35.2)))) | .inr b35 => (some b35)
theorem c_wormtubref12_from (F0 : Fz) (c1 : ApiCask) : CT0 Try.prog 47 [(eApiCask c1)].toArray F0 (m_wormtubref12_from c1) (fun r _ v => v = (.bool r)) := by
  refine CT0.enter Try.func47 rfl Try.ntmps47 rfl fun r R => ?_
  unfold m_wormtubref12_from
  refine .seq ?_
  refine .region ?_
  refine .boxF (cs := (cApiCask c1)) rfl rfl rfl (fun b2 F_3 l_4 hb5 => ?_)
  refine .assign rfl rfl ?_
  refine .nil ?_
  refine .code ?_
  refine .seq ?_
  refine .region ?_
  refine .assign rfl rfl ?_
  refine .assign rfl rfl ?_
  refine .nil ?_
  refine .code ?_
  refine .seq ?_
  refine .seq ?_
  refine .region ?_
  refine .assign rfl rfl ?_
  refine .nil ?_
  refine .code ?_
  refine .block ?_
  refine .keep (.cons (k := 1) rfl (.cons (k := 3) rfl (.cons (k := 4) rfl (.cons (k := 5) rfl (.nil _))))) ?_
  refine .loop (fun (s6 : Int × Int × Int) a w => ∃ (F_7 : Fz), F_3 ≤ F_7 ∧ Hd 56 [] [(1, (.pointer (some ⟨b2, 0, none⟩))), (3, (.int .i64 s6.1)), (4, (.int .i64 s6.2.1)), (5, (.int .i64 s6.2.2))] F_7 [R] a w) (fun b0 e a w => match b0 with | .inl b35 => e = .exit 0 ∧ ∃ (F_36 : Fz), F_3 ≤ F_36 ∧ Hd 56 [] [(1, (.pointer (some ⟨b2, 0, none⟩))), (3, (.int .i64 b35.1)), (4, (.int .i64 b35.2))] F_36 [R] a w | .inr b35 => e = .ret ∧ ∃ (F_38 : Fz), F_3 ≤ F_38 ∧ Hd 56 [] [(2, (.bool b35))] F_38 [R] a w) ?_ ?_ ?_
  · exact fun a w h => ⟨F_3, (Fz.le_refl _), h.1.sub (.cons (k := 1) rfl (.cons (k := 3) rfl (.cons (k := 4) rfl (.cons (k := 5) rfl (.nil _))))), h.2⟩
  · intro s6 ctl
    refine GC.ex (fun a w ⟨F_7, l_8, hA⟩ => ⟨_, hA, ?_⟩)
    unfold b_wormtubref12_from_1
    refine .seq ?_
    refine .seq ?_
    refine .region ?_
    refine .move rfl rfl ?_
    refine .lss rfl rfl rfl ?_
    refine .nil ?_
    refine .code ?_
    refine .cond rfl (fun hb9 => ?_) (fun hb9 => ?_)
    · skip
      refine .skip ?_
      refine .code ?_
      refine .seq ?_
      refine .block ?_
      refine .seq ?_
      refine .seq ?_
      refine .region ?_
      refine .move rfl rfl ?_
      refine .fieldAddr rfl Try.underlying49 rfl Try.sizeOf47 rfl ?_
      refine .bind (fun j10 hj11 => ?_)
      refine .indexAddrA rfl Try.underlying47 Try.sizeOf3 rfl rfl hj11 ?_
      refine .loadF rfl Try.isAgg3 rfl (l_8.mem _ _ hb5) (allLt8 (p := fun j10 => ((cApiCask c1))[0 + 8 + j10 * 1]? = some (.int .i64 (c1.Woods j10))) rfl rfl rfl rfl rfl rfl rfl rfl _ (idxO_some hj11).2.2.2) ?_
      refine .callP rfl Try.call48 rfl rfl rfl (c_wormtubref12_in _ (c1.Woods j10) 0 65536) ?_
      rintro F_12 _ l_13 rfl
      refine .not rfl rfl ?_
      refine .move rfl rfl ?_
      refine .orM (b := (!(m_wormtubref12_in (c1.Woods j10) 0 65536))) 7 23 (fun hb14 z23 => ?_) (fun hb19 => ?_) (fun z22 F_20 l_21 => ?_)
      · skip
        refine .onH hb14 rfl rfl ?_
        refine .move rfl rfl ?_
        refine .onH hb14 rfl rfl ?_
        refine .fieldAddr rfl Try.underlying49 rfl Try.sizeOf47 rfl ?_
        refine .onH hb14 rfl rfl ?_
        refine .bind (fun j15 hj16 => ?_)
        refine .indexAddrA rfl Try.underlying47 Try.sizeOf3 rfl rfl hj16 ?_
        refine .onH hb14 rfl rfl ?_
        refine .loadF rfl Try.isAgg3 rfl ((Fz.le_trans l_8 l_13).mem _ _ hb5) (allLt8 (p := fun j15 => ((cApiCask c1))[0 + 16 + j15 * 1]? = some (.int .i64 (c1.Places j15))) rfl rfl rfl rfl rfl rfl rfl rfl _ (idxO_some hj16).2.2.2) ?_
        refine .onH hb14 rfl rfl ?_
        refine .callP rfl Try.call48 rfl rfl rfl (c_wormtubref12_in _ (c1.Places j15) 0 65536) ?_
        rintro F_17 _ l_18 rfl
        refine .onH hb14 rfl rfl ?_
        refine .not rfl rfl ?_
        refine .pickFH hb14 rfl rfl rfl ?_
        exact .finZ 7 rfl rfl (by kernel_rfl) l_18
      · skip
        refine .offH hb19 rfl rfl rfl ?_
        refine .offH hb19 rfl rfl rfl ?_
        refine .offH hb19 rfl rfl rfl ?_
        refine .offH hb19 rfl rfl rfl ?_
        refine .offH hb19 rfl rfl rfl ?_
        refine .offH hb19 rfl rfl rfl ?_
        refine .pickTH hb19 rfl rfl rfl ?_
        exact .fin 7 rfl rfl (by kernel_rfl) (Fz.le_refl _)
      refine .nil ?_
      refine .code ?_
      refine .cond rfl (fun hb24 => ?_) (fun hb24 => ?_)
      · skip
        refine .seq ?_
        refine .region ?_
        refine .assign rfl rfl ?_
        refine .nil ?_
        refine .code ?_
        refine .retQ (LPost.ret fun a w h => ⟨rfl, F_20, (Fz.le_trans l_8 (Fz.le_trans l_13 l_21)), h.1.sub (.cons (k := 2) rfl (.nil _)), h.2⟩)
      · skip
        refine .skip ?_
        refine .code ?_
        refine .seq ?_
        refine .region ?_
        refine .move rfl rfl ?_
        refine .move rfl rfl ?_
        refine .fieldAddr rfl Try.underlying49 rfl Try.sizeOf47 rfl ?_
        refine .bind (fun j25 hj26 => ?_)
        refine .indexAddrA rfl Try.underlying47 Try.sizeOf3 rfl rfl hj26 ?_
        refine .loadF rfl Try.isAgg3 rfl ((Fz.le_trans l_8 (Fz.le_trans l_13 l_21)).mem _ _ hb5) (allLt8 (p := fun j25 => ((cApiCask c1))[0 + 8 + j25 * 1]? = some (.int .i64 (c1.Woods j25))) rfl rfl rfl rfl rfl rfl rfl rfl _ (idxO_some hj26).2.2.2) ?_
        refine .add rfl rfl rfl ?_
        refine .assignL rfl rfl (fun sum27 e28 => ?_)
        refine .nil ?_
        refine .code ?_
        refine .region ?_
        refine .move rfl rfl ?_
        refine .move rfl rfl ?_
        refine .fieldAddr rfl Try.underlying49 rfl Try.sizeOf47 rfl ?_
        refine .bind (fun j29 hj30 => ?_)
        refine .indexAddrA rfl Try.underlying47 Try.sizeOf3 rfl rfl hj30 ?_
        refine .loadF rfl Try.isAgg3 rfl ((Fz.le_trans l_8 (Fz.le_trans l_13 l_21)).mem _ _ hb5) (allLt8 (p := fun j29 => ((cApiCask c1))[0 + 16 + j29 * 1]? = some (.int .i64 (c1.Places j29))) rfl rfl rfl rfl rfl rfl rfl rfl _ (idxO_some hj30).2.2.2) ?_
        refine .add rfl rfl rfl ?_
        refine .assignL rfl rfl (fun other31 e32 => ?_)
        refine .nil ?_
        refine .block ?_
        refine .keep (.cons (k := 1) rfl (.cons (k := 3) rfl (.cons (k := 4) rfl (.cons (k := 5) rfl (.nil _))))) ?_
        refine .code ?_
        refine .region ?_
        refine .move rfl rfl ?_
        refine .add rfl rfl rfl ?_
        refine .assignL rfl rfl (fun i33 e34 => ?_)
        refine .nil ?_
        exact .nil (LPost.norm fun a w h => ⟨F_20, (Fz.le_trans l_8 (Fz.le_trans l_13 l_21)), h.1.sub (.cons (k := 1) rfl (.cons (k := 3) rfl (.cons (k := 4) rfl (.cons (k := 5) rfl (.nil _))))), h.2⟩)
    · skip
      refine .exitOut rfl (LPost.exit fun a w h => ⟨rfl, F_7, l_8, h.1.sub (.cons (k := 1) rfl (.cons (k := 3) rfl (.cons (k := 4) rfl (.nil _)))), h.2⟩)
  · intro b35 hb0 hk e a w hD
    rcases b35 with b35 | b35
    · skip
      obtain ⟨rfl, F_36, l_37, hA⟩ := hD
      refine interp_exit rfl (GE.app ?_ hk a w hA)
      refine .code ?_
      refine .seq ?_
      refine .region ?_
      refine .fieldAddr rfl Try.underlying49 rfl Try.sizeOf3 rfl ?_
      refine .loadF rfl Try.isAgg3 rfl (l_37.mem _ _ hb5) rfl ?_
      refine .callP rfl Try.call48 rfl rfl rfl (c_wormtubref12_in _ c1.Number 0 1073741824) ?_
      rintro F_40 _ l_41 rfl
      refine .move rfl rfl ?_
      refine .andP (b := (m_wormtubref12_in c1.Number 0 1073741824)) (b' := (m_wormtubref12_in c1.Age 0 65536)) 4 43 (fun hb42 => ?_) (fun hb45 => ?_) (fun F_46 l_47 => ?_)
      · skip
        refine .onH hb42 rfl rfl ?_
        refine .fieldAddr rfl Try.underlying49 rfl Try.sizeOf3 rfl ?_
        refine .onH hb42 rfl rfl ?_
        refine .loadF rfl Try.isAgg3 rfl ((Fz.le_trans l_37 l_41).mem _ _ hb5) rfl ?_
        refine .onH hb42 rfl rfl ?_
        refine .callP rfl Try.call48 rfl rfl rfl (c_wormtubref12_in _ c1.Age 0 65536) ?_
        rintro F_43 _ l_44 rfl
        refine .pickTH hb42 rfl rfl rfl ?_
        exact .fin 4 rfl rfl (by kernel_rfl) l_44
      · skip
        refine .offH hb45 rfl rfl rfl ?_
        refine .offH hb45 rfl rfl rfl ?_
        refine .offH hb45 rfl rfl rfl ?_
        refine .pickFH hb45 rfl rfl rfl ?_
        exact .fin 4 rfl rfl (by kernel_rfl) (Fz.le_refl _)
      refine .move rfl rfl ?_
      refine .andP (b := ((m_wormtubref12_in c1.Number 0 1073741824) && (m_wormtubref12_in c1.Age 0 65536))) (b' := (decide (c1.Age ≥ b35.1))) 5 49 (fun hb48 => ?_) (fun hb49 => ?_) (fun F_50 l_51 => ?_)
      · skip
        refine .onH hb48 rfl rfl ?_
        refine .fieldAddr rfl Try.underlying49 rfl Try.sizeOf3 rfl ?_
        refine .onH hb48 rfl rfl ?_
        refine .loadF rfl Try.isAgg3 rfl ((Fz.le_trans l_37 (Fz.le_trans l_41 l_47)).mem _ _ hb5) rfl ?_
        refine .onH hb48 rfl rfl ?_
        refine .move rfl rfl ?_
        refine .onH hb48 rfl rfl ?_
        refine .geq rfl rfl rfl ?_
        refine .pickTH hb48 rfl rfl rfl ?_
        exact .fin 5 rfl rfl (by kernel_rfl) (Fz.le_refl _)
      · skip
        refine .offH hb49 rfl rfl rfl ?_
        refine .offH hb49 rfl rfl rfl ?_
        refine .offH hb49 rfl rfl rfl ?_
        refine .offH hb49 rfl rfl rfl ?_
        refine .pickFH hb49 rfl rfl rfl ?_
        exact .fin 5 rfl rfl (by kernel_rfl) (Fz.le_refl _)
      refine .move rfl rfl ?_
      refine .andP (b := (((m_wormtubref12_in c1.Number 0 1073741824) && (m_wormtubref12_in c1.Age 0 65536)) && (decide (c1.Age ≥ b35.1)))) (b' := (decide (c1.Age ≥ b35.2))) 5 55 (fun hb52 => ?_) (fun hb53 => ?_) (fun F_54 l_55 => ?_)
      · skip
        refine .onH hb52 rfl rfl ?_
        refine .fieldAddr rfl Try.underlying49 rfl Try.sizeOf3 rfl ?_
        refine .onH hb52 rfl rfl ?_
        refine .loadF rfl Try.isAgg3 rfl ((Fz.le_trans l_37 (Fz.le_trans l_41 (Fz.le_trans l_47 l_51))).mem _ _ hb5) rfl ?_
        refine .onH hb52 rfl rfl ?_
        refine .move rfl rfl ?_
        refine .onH hb52 rfl rfl ?_
        refine .geq rfl rfl rfl ?_
        refine .pickTH hb52 rfl rfl rfl ?_
        exact .fin 5 rfl rfl (by kernel_rfl) (Fz.le_refl _)
      · skip
        refine .offH hb53 rfl rfl rfl ?_
        refine .offH hb53 rfl rfl rfl ?_
        refine .offH hb53 rfl rfl rfl ?_
        refine .offH hb53 rfl rfl rfl ?_
        refine .pickFH hb53 rfl rfl rfl ?_
        exact .fin 5 rfl rfl (by kernel_rfl) (Fz.le_refl _)
      refine .assign rfl rfl ?_
      refine .nil ?_
      refine .code ?_
      exact .ret0 Try.results47 (.tmp rfl (.nil)) (i := 0) rfl (Fz.le_trans l_4 (Fz.le_trans l_37 (Fz.le_trans l_41 (Fz.le_trans l_47 (Fz.le_trans l_51 l_55))))) rfl
    obtain ⟨rfl, F_38, l_39, hA⟩ := hD
    exact interp_ret ((ret_post0 Try.results47 (.tmp rfl (.nil)) (i := 0) rfl (Fz.le_trans l_4 l_39) rfl) hk a w hA)

def m_wormtubref12_span (s1 : ApiSpan) (most2 : Int) : Bool :=
  (((decide (s1.Lo ≥ 0)) && (decide (s1.Lo ≤ s1.Hi))) && (decide (s1.Hi ≤ most2)))
theorem c_wormtubref12_span (F0 : Fz) (s1 : ApiSpan) (most2 : Int) : CT0 Try.prog 49 [(eApiSpan s1), (.int .i64 most2)].toArray F0 (some (m_wormtubref12_span s1 most2)) (fun r _ v => v = (.bool r)) := by
  refine CT0.enter Try.func49 rfl Try.ntmps49 rfl fun r R => ?_
  refine .seq ?_
  refine .region ?_
  refine .boxF (cs := (cApiSpan s1)) rfl rfl rfl (fun b3 F_4 l_5 hb6 => ?_)
  refine .assign rfl rfl ?_
  refine .nil ?_
  refine .code ?_
  refine .seq ?_
  refine .region ?_
  refine .fieldAddr rfl Try.underlying36 rfl Try.sizeOf3 rfl ?_
  refine .loadF rfl Try.isAgg3 rfl hb6 rfl ?_
  refine .geq rfl rfl rfl ?_
  refine .move rfl rfl ?_
  refine .andP (b := (decide (s1.Lo ≥ 0))) (b' := (decide (s1.Lo ≤ s1.Hi))) 6 14 (fun hb7 => ?_) (fun hb8 => ?_) (fun F_9 l_10 => ?_)
  · skip
    refine .onH hb7 rfl rfl ?_
    refine .fieldAddr rfl Try.underlying36 rfl Try.sizeOf3 rfl ?_
    refine .onH hb7 rfl rfl ?_
    refine .loadF rfl Try.isAgg3 rfl hb6 rfl ?_
    refine .onH hb7 rfl rfl ?_
    refine .fieldAddr rfl Try.underlying36 rfl Try.sizeOf3 rfl ?_
    refine .onH hb7 rfl rfl ?_
    refine .loadF rfl Try.isAgg3 rfl hb6 rfl ?_
    refine .onH hb7 rfl rfl ?_
    refine .leq rfl rfl rfl ?_
    refine .pickTH hb7 rfl rfl rfl ?_
    exact .fin 6 rfl rfl (by kernel_rfl) (Fz.le_refl _)
  · skip
    refine .offH hb8 rfl rfl rfl ?_
    refine .offH hb8 rfl rfl rfl ?_
    refine .offH hb8 rfl rfl rfl ?_
    refine .offH hb8 rfl rfl rfl ?_
    refine .offH hb8 rfl rfl rfl ?_
    refine .pickFH hb8 rfl rfl rfl ?_
    exact .fin 6 rfl rfl (by kernel_rfl) (Fz.le_refl _)
  refine .move rfl rfl ?_
  refine .andP (b := ((decide (s1.Lo ≥ 0)) && (decide (s1.Lo ≤ s1.Hi)))) (b' := (decide (s1.Hi ≤ most2))) 5 20 (fun hb11 => ?_) (fun hb12 => ?_) (fun F_13 l_14 => ?_)
  · skip
    refine .onH hb11 rfl rfl ?_
    refine .fieldAddr rfl Try.underlying36 rfl Try.sizeOf3 rfl ?_
    refine .onH hb11 rfl rfl ?_
    refine .loadF rfl Try.isAgg3 rfl (l_10.mem _ _ hb6) rfl ?_
    refine .onH hb11 rfl rfl ?_
    refine .move rfl rfl ?_
    refine .onH hb11 rfl rfl ?_
    refine .leq rfl rfl rfl ?_
    refine .pickTH hb11 rfl rfl rfl ?_
    exact .fin 5 rfl rfl (by kernel_rfl) (Fz.le_refl _)
  · skip
    refine .offH hb12 rfl rfl rfl ?_
    refine .offH hb12 rfl rfl rfl ?_
    refine .offH hb12 rfl rfl rfl ?_
    refine .offH hb12 rfl rfl rfl ?_
    refine .pickFH hb12 rfl rfl rfl ?_
    exact .fin 5 rfl rfl (by kernel_rfl) (Fz.le_refl _)
  refine .assign rfl rfl ?_
  refine .nil ?_
  refine .code ?_
  exact .ret0 Try.results49 (.tmp rfl (.nil)) (i := 0) rfl (Fz.le_trans l_5 (Fz.le_trans l_10 l_14)) rfl

noncomputable def b_wormtubref12_Batch_1 (b1 : ApiBatch) (s9 : Int) : Option (Ctl (Int) ((Unit) ⊕ (Bool))) :=
  if (decide (s9 < (b1.Draughts.length : Int))) then ((idxL b1.Draughts s9).bind fun x13 => (m_wormtubref12_from x13.From).bind fun r_26 => if (((!r_26) || (!(m_wormtubref12_in x13.Amount 1 1073741824))) || (!(m_wormtubref12_span x13.Strength 10000))) then (some (.done (.inr false))) else (bindv (w64 (s9 + 1)) fun i40 => some (.next i40))) else (some (.done (.inl ())))
noncomputable def m_wormtubref12_Batch (b1 : ApiBatch) : Option Bool :=
  (loopM (b_wormtubref12_Batch_1 b1) 0).bind fun b0 => match b0 with | .inl _b42 => (some (((m_wormtubref12_in (b1.Draughts.length : Int) 1 16) && (m_wormtubref12_in b1.Water 0 17179869184)) && (m_wormtubref12_span b1.Shrink 1000))) | .inr b42 => (some b42)
theorem c_wormtubref12_Batch (F0 : Fz) (b1 : ApiBatch) (p2 : Option Addr) (k3 : Nat) (h4 : RepSl 27 (Ex cApiDraught) F0 p2 k3 b1.Draughts) : CT0 Try.prog 18 [(eApiBatch b1 p2 k3)].toArray F0 (m_wormtubref12_Batch b1) (fun r _ v => v = (.bool r)) := by
  refine CT0.enter Try.func18 rfl Try.ntmps18 rfl fun r R => ?_
  unfold m_wormtubref12_Batch
  refine .seq ?_
  refine .region ?_
  refine .boxF (cs := (cApiBatch b1 p2 k3)) rfl rfl rfl (fun b5 F_6 l_7 hb8 => ?_)
  refine .assign rfl rfl ?_
  refine .nil ?_
  refine .code ?_
  refine .seq ?_
  refine .seq ?_
  refine .region ?_
  refine .assign rfl rfl ?_
  refine .nil ?_
  refine .code ?_
  refine .block ?_
  refine .keep (.cons (k := 1) rfl (.cons (k := 3) rfl (.nil _))) ?_
  refine .loop (fun (s9 : Int) a w => ∃ (F_10 : Fz), F_6 ≤ F_10 ∧ Hd 47 [] [(1, (.pointer (some ⟨b5, 0, none⟩))), (3, (.int .i64 s9))] F_10 [R] a w) (fun b0 e a w => match b0 with | .inl b42 => e = .exit 0 ∧ ∃ (F_43 : Fz), F_6 ≤ F_43 ∧ Hd 47 [] [(1, (.pointer (some ⟨b5, 0, none⟩)))] F_43 [R] a w | .inr b42 => e = .ret ∧ ∃ (F_45 : Fz), F_6 ≤ F_45 ∧ Hd 47 [] [(2, (.bool b42))] F_45 [R] a w) ?_ ?_ ?_
  · exact fun a w h => ⟨F_6, (Fz.le_refl _), h.1.sub (.cons (k := 1) rfl (.cons (k := 3) rfl (.nil _))), h.2⟩
  · intro s9 ctl
    refine GC.ex (fun a w ⟨F_10, l_11, hA⟩ => ⟨_, hA, ?_⟩)
    unfold b_wormtubref12_Batch_1
    refine .seq ?_
    refine .seq ?_
    refine .region ?_
    refine .move rfl rfl ?_
    refine .fieldAddr rfl Try.underlying38 rfl Try.sizeOf34 rfl ?_
    refine .loadF rfl Try.isAgg34 rfl (l_11.mem _ _ hb8) rfl ?_
    refine .lenS rfl rfl Try.underlying34 rfl ?_
    refine .lss rfl rfl rfl ?_
    refine .nil ?_
    refine .code ?_
    refine .cond rfl (fun hb12 => ?_) (fun hb12 => ?_)
    · skip
      refine .skip ?_
      refine .code ?_
      refine .seq ?_
      refine .block ?_
      refine .seq ?_
      refine .region ?_
      refine .fieldAddr rfl Try.underlying38 rfl Try.sizeOf34 rfl ?_
      refine .loadF rfl Try.isAgg34 rfl (l_11.mem _ _ hb8) rfl ?_
      refine .move rfl rfl ?_
      refine .idx rfl Try.underlying34 Try.sizeOf51 (h4.mono (Fz.le_trans l_7 l_11)) rfl rfl (fun x13 b14 o15 T16 fr17 cs18 e19 hm20 hv21 => ?_)
      refine .loadFA rfl Try.isAgg51 Try.sizeOf51 rfl hm20 hv21 rfl ?_
      refine .alloc (cs := (cApiDraught (ApiDraught.mk (ApiCask.mk 0 0 0 0 0 0 0 0 (fun _ => 0) (fun _ => 0)) 0 (ApiSpan.mk 0 0)))) rfl Try.zeroValue51 rfl (fun b23 => ?_)
      refine .store (cs' := (cApiDraught x13)) Try.sizeOf51 rfl rfl rfl rfl (i := 0) rfl (Nat.le_of_ble_eq_true rfl) rfl (setMany_all (by rfl)) ?_
      refine .nil ?_
      refine .code ?_
      refine .seq ?_
      refine .region ?_
      refine .fieldAddr rfl Try.underlying51 rfl Try.sizeOf49 rfl ?_
      refine .loadOA rfl Try.isAgg49 Try.sizeOf49 rfl (i := 0) rfl (vs := (cApiCask x13.From)) (by kernel_rfl) rfl ?_
      refine .call0 rfl Try.call47 rfl rfl rfl (c_wormtubref12_from _ x13.From) ?_
      rintro r_26 F_24 _ - l_25 rfl
      refine .not rfl rfl ?_
      refine .move rfl rfl ?_
      refine .orP (b := (!r_26)) (b' := (!(m_wormtubref12_in x13.Amount 1 1073741824))) 5 26 (fun hb27 => ?_) (fun hb30 => ?_) (fun F_31 l_32 => ?_)
      · skip
        refine .onH hb27 rfl rfl ?_
        refine .fieldAddr rfl Try.underlying51 rfl Try.sizeOf3 rfl ?_
        refine .onH hb27 rfl rfl ?_
        refine .loadO rfl Try.isAgg3 rfl (i := 0) rfl rfl ?_
        refine .onH hb27 rfl rfl ?_
        refine .callP rfl Try.call48 rfl rfl rfl (c_wormtubref12_in _ x13.Amount 1 1073741824) ?_
        rintro F_28 _ l_29 rfl
        refine .onH hb27 rfl rfl ?_
        refine .not rfl rfl ?_
        refine .pickFH hb27 rfl rfl rfl ?_
        exact .fin 5 rfl rfl (by kernel_rfl) l_29
      · skip
        refine .offH hb30 rfl rfl rfl ?_
        refine .offH hb30 rfl rfl rfl ?_
        refine .offH hb30 rfl rfl rfl ?_
        refine .offH hb30 rfl rfl rfl ?_
        refine .pickTH hb30 rfl rfl rfl ?_
        exact .fin 5 rfl rfl (by kernel_rfl) (Fz.le_refl _)
      refine .move rfl rfl ?_
      refine .orP (b := ((!r_26) || (!(m_wormtubref12_in x13.Amount 1 1073741824)))) (b' := (!(m_wormtubref12_span x13.Strength 10000))) 5 32 (fun hb33 => ?_) (fun hb36 => ?_) (fun F_37 l_38 => ?_)
      · skip
        refine .onH hb33 rfl rfl ?_
        refine .fieldAddr rfl Try.underlying51 rfl Try.sizeOf36 rfl ?_
        refine .onH hb33 rfl rfl ?_
        refine .loadOA rfl Try.isAgg36 Try.sizeOf36 rfl (i := 0) rfl (vs := (cApiSpan x13.Strength)) (by kernel_rfl) rfl ?_
        refine .onH hb33 rfl rfl ?_
        refine .callP rfl Try.call49 rfl rfl rfl (c_wormtubref12_span _ x13.Strength 10000) ?_
        rintro F_34 _ l_35 rfl
        refine .onH hb33 rfl rfl ?_
        refine .not rfl rfl ?_
        refine .pickFH hb33 rfl rfl rfl ?_
        exact .fin 5 rfl rfl (by kernel_rfl) l_35
      · skip
        refine .offH hb36 rfl rfl rfl ?_
        refine .offH hb36 rfl rfl rfl ?_
        refine .offH hb36 rfl rfl rfl ?_
        refine .offH hb36 rfl rfl rfl ?_
        refine .pickTH hb36 rfl rfl rfl ?_
        exact .fin 5 rfl rfl (by kernel_rfl) (Fz.le_refl _)
      refine .nil ?_
      refine .code ?_
      refine .cond rfl (fun hb39 => ?_) (fun hb39 => ?_)
      · skip
        refine .seq ?_
        refine .region ?_
        refine .assign rfl rfl ?_
        refine .nil ?_
        refine .code ?_
        refine .drop 0 ?_
        refine .retQ (LPost.ret fun a w h => ⟨rfl, F_37, (Fz.le_trans l_11 (Fz.le_trans l_25 (Fz.le_trans l_32 l_38))), h.1.sub (.cons (k := 2) rfl (.nil _)), h.2⟩)
      · skip
        refine .skip ?_
        refine .block ?_
        refine .code ?_
        refine .region ?_
        refine .move rfl rfl ?_
        refine .add rfl rfl rfl ?_
        refine .assignL rfl rfl (fun i40 e41 => ?_)
        refine .nil ?_
        refine .drop 0 ?_
        exact .nil (LPost.norm fun a w h => ⟨F_37, (Fz.le_trans l_11 (Fz.le_trans l_25 (Fz.le_trans l_32 l_38))), h.1.sub (.cons (k := 1) rfl (.cons (k := 3) rfl (.nil _))), h.2⟩)
    · skip
      refine .exitOut rfl (LPost.exit fun a w h => ⟨rfl, F_10, l_11, h.1.sub (.cons (k := 1) rfl (.nil _)), h.2⟩)
  · intro b42 hb0 hk e a w hD
    rcases b42 with b42 | b42
    · skip
      obtain ⟨rfl, F_43, l_44, hA⟩ := hD
      refine interp_exit rfl (GE.app ?_ hk a w hA)
      refine .code ?_
      refine .seq ?_
      refine .region ?_
      refine .fieldAddr rfl Try.underlying38 rfl Try.sizeOf34 rfl ?_
      refine .loadF rfl Try.isAgg34 rfl (l_44.mem _ _ hb8) rfl ?_
      refine .lenS rfl rfl Try.underlying34 rfl ?_
      refine .callP rfl Try.call48 rfl rfl rfl (c_wormtubref12_in _ (b1.Draughts.length : Int) 1 16) ?_
      rintro F_47 _ l_48 rfl
      refine .move rfl rfl ?_
      refine .andP (b := (m_wormtubref12_in (b1.Draughts.length : Int) 1 16)) (b' := (m_wormtubref12_in b1.Water 0 17179869184)) 4 41 (fun hb49 => ?_) (fun hb52 => ?_) (fun F_53 l_54 => ?_)
      · skip
        refine .onH hb49 rfl rfl ?_
        refine .fieldAddr rfl Try.underlying38 rfl Try.sizeOf3 rfl ?_
        refine .onH hb49 rfl rfl ?_
        refine .loadF rfl Try.isAgg3 rfl ((Fz.le_trans l_44 l_48).mem _ _ hb8) rfl ?_
        refine .onH hb49 rfl rfl ?_
        refine .callP rfl Try.call48 rfl rfl rfl (c_wormtubref12_in _ b1.Water 0 17179869184) ?_
        rintro F_50 _ l_51 rfl
        refine .pickTH hb49 rfl rfl rfl ?_
        exact .fin 4 rfl rfl (by kernel_rfl) l_51
      · skip
        refine .offH hb52 rfl rfl rfl ?_
        refine .offH hb52 rfl rfl rfl ?_
        refine .offH hb52 rfl rfl rfl ?_
        refine .pickFH hb52 rfl rfl rfl ?_
        exact .fin 4 rfl rfl (by kernel_rfl) (Fz.le_refl _)
      refine .move rfl rfl ?_
      refine .andP (b := ((m_wormtubref12_in (b1.Draughts.length : Int) 1 16) && (m_wormtubref12_in b1.Water 0 17179869184))) (b' := (m_wormtubref12_span b1.Shrink 1000)) 4 46 (fun hb55 => ?_) (fun hb58 => ?_) (fun F_59 l_60 => ?_)
      · skip
        refine .onH hb55 rfl rfl ?_
        refine .fieldAddr rfl Try.underlying38 rfl Try.sizeOf36 rfl ?_
        refine .onH hb55 rfl rfl ?_
        refine .loadFA rfl Try.isAgg36 Try.sizeOf36 rfl ((Fz.le_trans l_44 (Fz.le_trans l_48 l_54)).mem _ _ hb8) (vs := (cApiSpan b1.Shrink)) (by kernel_rfl) rfl ?_
        refine .onH hb55 rfl rfl ?_
        refine .callP rfl Try.call49 rfl rfl rfl (c_wormtubref12_span _ b1.Shrink 1000) ?_
        rintro F_56 _ l_57 rfl
        refine .pickTH hb55 rfl rfl rfl ?_
        exact .fin 4 rfl rfl (by kernel_rfl) l_57
      · skip
        refine .offH hb58 rfl rfl rfl ?_
        refine .offH hb58 rfl rfl rfl ?_
        refine .offH hb58 rfl rfl rfl ?_
        refine .pickFH hb58 rfl rfl rfl ?_
        exact .fin 4 rfl rfl (by kernel_rfl) (Fz.le_refl _)
      refine .assign rfl rfl ?_
      refine .nil ?_
      refine .code ?_
      exact .ret0 Try.results18 (.tmp rfl (.nil)) (i := 0) rfl (Fz.le_trans l_7 (Fz.le_trans l_44 (Fz.le_trans l_48 (Fz.le_trans l_54 l_60)))) rfl
    obtain ⟨rfl, F_45, l_46, hA⟩ := hD
    exact interp_ret ((ret_post0 Try.results18 (.tmp rfl (.nil)) (i := 0) rfl (Fz.le_trans l_7 l_46) rfl) hk a w hA)

noncomputable def m_wormtubref12_claim (c1 : ApiClaim) : Option Bool :=
  if (c1.Kind == 0) then (some (m_wormtubref12_in c1.Number 0 65536)) else (if (c1.Kind == 1) then (some ((m_wormtubref12_in c1.Number 0 65536) && (m_wormtubref12_in c1.What 0 7))) else (if (c1.Kind == 2) then (some ((m_wormtubref12_in c1.Number 0 65536) && (m_wormtubref12_in c1.What 0 7))) else (if (c1.Kind == 7) then (some ((m_wormtubref12_in c1.Number 0 10000) && (m_wormtubref12_in c1.What 0 10000))) else (some (m_wormtubref12_in c1.Kind 0 7)))))
theorem c_wormtubref12_claim (F0 : Fz) (c1 : ApiClaim) : CT0 Try.prog 50 [(eApiClaim c1)].toArray F0 (m_wormtubref12_claim c1) (fun r _ v => v = (.bool r)) := by
  refine CT0.enter Try.func50 rfl Try.ntmps50 rfl fun r R => ?_
  unfold m_wormtubref12_claim
  refine .seq ?_
  refine .region ?_
  refine .boxF (cs := (cApiClaim c1)) rfl rfl rfl (fun b2 F_3 l_4 hb5 => ?_)
  refine .assign rfl rfl ?_
  refine .nil ?_
  refine .code ?_
  refine .seq ?_
  refine .seq ?_
  refine .region ?_
  refine .fieldAddr rfl Try.underlying46 rfl Try.sizeOf3 rfl ?_
  refine .loadF rfl Try.isAgg3 rfl hb5 rfl ?_
  refine .nil ?_
  refine .code ?_
  refine .block ?_
  refine .seq ?_
  refine .region ?_
  refine .eql rfl rfl rfl ?_
  refine .assign rfl rfl ?_
  refine .nil ?_
  refine .code ?_
  refine .cond rfl (fun hb6 => ?_) (fun hb6 => ?_)
  · skip
    refine .seq ?_
    refine .region ?_
    refine .fieldAddr rfl Try.underlying46 rfl Try.sizeOf3 rfl ?_
    refine .loadF rfl Try.isAgg3 rfl hb5 rfl ?_
    refine .callP rfl Try.call48 rfl rfl rfl (c_wormtubref12_in _ c1.Number 0 65536) ?_
    rintro F_7 _ l_8 rfl
    refine .assign rfl rfl ?_
    refine .nil ?_
    refine .code ?_
    exact .ret0 Try.results50 (.tmp rfl (.nil)) (i := 0) rfl (Fz.le_trans l_4 l_8) rfl
  · skip
    refine .seq ?_
    refine .region ?_
    refine .eql rfl rfl rfl ?_
    refine .assign rfl rfl ?_
    refine .nil ?_
    refine .code ?_
    refine .cond rfl (fun hb9 => ?_) (fun hb9 => ?_)
    · skip
      refine .seq ?_
      refine .region ?_
      refine .fieldAddr rfl Try.underlying46 rfl Try.sizeOf3 rfl ?_
      refine .loadF rfl Try.isAgg3 rfl hb5 rfl ?_
      refine .callP rfl Try.call48 rfl rfl rfl (c_wormtubref12_in _ c1.Number 0 65536) ?_
      rintro F_10 _ l_11 rfl
      refine .move rfl rfl ?_
      refine .andP (b := (m_wormtubref12_in c1.Number 0 65536)) (b' := (m_wormtubref12_in c1.What 0 7)) 4 19 (fun hb12 => ?_) (fun hb15 => ?_) (fun F_16 l_17 => ?_)
      · skip
        refine .onH hb12 rfl rfl ?_
        refine .fieldAddr rfl Try.underlying46 rfl Try.sizeOf3 rfl ?_
        refine .onH hb12 rfl rfl ?_
        refine .loadF rfl Try.isAgg3 rfl (l_11.mem _ _ hb5) rfl ?_
        refine .onH hb12 rfl rfl ?_
        refine .callP rfl Try.call48 rfl rfl rfl (c_wormtubref12_in _ c1.What 0 7) ?_
        rintro F_13 _ l_14 rfl
        refine .pickTH hb12 rfl rfl rfl ?_
        exact .fin 4 rfl rfl (by kernel_rfl) l_14
      · skip
        refine .offH hb15 rfl rfl rfl ?_
        refine .offH hb15 rfl rfl rfl ?_
        refine .offH hb15 rfl rfl rfl ?_
        refine .pickFH hb15 rfl rfl rfl ?_
        exact .fin 4 rfl rfl (by kernel_rfl) (Fz.le_refl _)
      refine .assign rfl rfl ?_
      refine .nil ?_
      refine .code ?_
      exact .ret0 Try.results50 (.tmp rfl (.nil)) (i := 0) rfl (Fz.le_trans l_4 (Fz.le_trans l_11 l_17)) rfl
    · skip
      refine .seq ?_
      refine .region ?_
      refine .eql rfl rfl rfl ?_
      refine .assign rfl rfl ?_
      refine .nil ?_
      refine .code ?_
      refine .cond rfl (fun hb18 => ?_) (fun hb18 => ?_)
      · skip
        refine .seq ?_
        refine .region ?_
        refine .fieldAddr rfl Try.underlying46 rfl Try.sizeOf3 rfl ?_
        refine .loadF rfl Try.isAgg3 rfl hb5 rfl ?_
        refine .callP rfl Try.call48 rfl rfl rfl (c_wormtubref12_in _ c1.Number 0 65536) ?_
        rintro F_19 _ l_20 rfl
        refine .move rfl rfl ?_
        refine .andP (b := (m_wormtubref12_in c1.Number 0 65536)) (b' := (m_wormtubref12_in c1.What 0 7)) 4 29 (fun hb21 => ?_) (fun hb24 => ?_) (fun F_25 l_26 => ?_)
        · skip
          refine .onH hb21 rfl rfl ?_
          refine .fieldAddr rfl Try.underlying46 rfl Try.sizeOf3 rfl ?_
          refine .onH hb21 rfl rfl ?_
          refine .loadF rfl Try.isAgg3 rfl (l_20.mem _ _ hb5) rfl ?_
          refine .onH hb21 rfl rfl ?_
          refine .callP rfl Try.call48 rfl rfl rfl (c_wormtubref12_in _ c1.What 0 7) ?_
          rintro F_22 _ l_23 rfl
          refine .pickTH hb21 rfl rfl rfl ?_
          exact .fin 4 rfl rfl (by kernel_rfl) l_23
        · skip
          refine .offH hb24 rfl rfl rfl ?_
          refine .offH hb24 rfl rfl rfl ?_
          refine .offH hb24 rfl rfl rfl ?_
          refine .pickFH hb24 rfl rfl rfl ?_
          exact .fin 4 rfl rfl (by kernel_rfl) (Fz.le_refl _)
        refine .assign rfl rfl ?_
        refine .nil ?_
        refine .code ?_
        exact .ret0 Try.results50 (.tmp rfl (.nil)) (i := 0) rfl (Fz.le_trans l_4 (Fz.le_trans l_20 l_26)) rfl
      · skip
        refine .seq ?_
        refine .region ?_
        refine .eql rfl rfl rfl ?_
        refine .assign rfl rfl ?_
        refine .nil ?_
        refine .code ?_
        refine .cond rfl (fun hb27 => ?_) (fun hb27 => ?_)
        · skip
          refine .seq ?_
          refine .region ?_
          refine .fieldAddr rfl Try.underlying46 rfl Try.sizeOf3 rfl ?_
          refine .loadF rfl Try.isAgg3 rfl hb5 rfl ?_
          refine .callP rfl Try.call48 rfl rfl rfl (c_wormtubref12_in _ c1.Number 0 10000) ?_
          rintro F_28 _ l_29 rfl
          refine .move rfl rfl ?_
          refine .andP (b := (m_wormtubref12_in c1.Number 0 10000)) (b' := (m_wormtubref12_in c1.What 0 10000)) 4 39 (fun hb30 => ?_) (fun hb33 => ?_) (fun F_34 l_35 => ?_)
          · skip
            refine .onH hb30 rfl rfl ?_
            refine .fieldAddr rfl Try.underlying46 rfl Try.sizeOf3 rfl ?_
            refine .onH hb30 rfl rfl ?_
            refine .loadF rfl Try.isAgg3 rfl (l_29.mem _ _ hb5) rfl ?_
            refine .onH hb30 rfl rfl ?_
            refine .callP rfl Try.call48 rfl rfl rfl (c_wormtubref12_in _ c1.What 0 10000) ?_
            rintro F_31 _ l_32 rfl
            refine .pickTH hb30 rfl rfl rfl ?_
            exact .fin 4 rfl rfl (by kernel_rfl) l_32
          · skip
            refine .offH hb33 rfl rfl rfl ?_
            refine .offH hb33 rfl rfl rfl ?_
            refine .offH hb33 rfl rfl rfl ?_
            refine .pickFH hb33 rfl rfl rfl ?_
            exact .fin 4 rfl rfl (by kernel_rfl) (Fz.le_refl _)
          refine .assign rfl rfl ?_
          refine .nil ?_
          refine .code ?_
          exact .ret0 Try.results50 (.tmp rfl (.nil)) (i := 0) rfl (Fz.le_trans l_4 (Fz.le_trans l_29 l_35)) rfl
        · skip
          refine .skip ?_
          refine .block ?_
          refine .code ?_
          refine .seq ?_
          refine .region ?_
          refine .fieldAddr rfl Try.underlying46 rfl Try.sizeOf3 rfl ?_
          refine .loadF rfl Try.isAgg3 rfl hb5 rfl ?_
          refine .callP rfl Try.call48 rfl rfl rfl (c_wormtubref12_in _ c1.Kind 0 7) ?_
          rintro F_36 _ l_37 rfl
          refine .assign rfl rfl ?_
          refine .nil ?_
          refine .code ?_
          exact .ret0 Try.results50 (.tmp rfl (.nil)) (i := 0) rfl (Fz.le_trans l_4 l_37) rfl

noncomputable def b_wormtubref12_Claims_1 (l_1 : (List ApiClaim)) (s5 : Int) : Option (Ctl (Int) ((Unit) ⊕ (Bool))) :=
  if ((decide (s5 < (l_1.length : Int))) && (decide (s5 ≤ 32))) then ((idxL l_1 s5).bind fun x13 => (m_wormtubref12_claim x13).bind fun r_25 => if (!r_25) then (some (.done (.inr false))) else (bindv (w64 (s5 + 1)) fun i27 => some (.next i27))) else (some (.done (.inl ())))
noncomputable def m_wormtubref12_Claims (l_1 : (List ApiClaim)) : Option Bool :=
  (loopM (b_wormtubref12_Claims_1 l_1) 0).bind fun b0 => match b0 with | .inl _b29 => (some (decide ((l_1.length : Int) ≤ 32))) | .inr b29 => (some b29)
theorem c_wormtubref12_Claims (F0 : Fz) (l_1 : (List ApiClaim)) (p2 : Option Addr) (k3 : Nat) (h4 : RepSl 3 (Ex cApiClaim) F0 p2 k3 l_1) : CT0 Try.prog 19 [(.slice p2 l_1.length k3)].toArray F0 (m_wormtubref12_Claims l_1) (fun r _ v => v = (.bool r)) := by
  refine CT0.enter Try.func19 rfl Try.ntmps19 rfl fun r R => ?_
  unfold m_wormtubref12_Claims
  refine .seq ?_
  refine .region ?_
  refine .assign rfl rfl ?_
  refine .nil ?_
  refine .code ?_
  refine .seq ?_
  refine .seq ?_
  refine .region ?_
  refine .assign rfl rfl ?_
  refine .nil ?_
  refine .code ?_
  refine .block ?_
  refine .keep (.cons (k := 0) rfl (.cons (k := 3) rfl (.nil _))) ?_
  refine .loop (fun (s5 : Int) a w => ∃ (F_6 : Fz), F0 ≤ F_6 ∧ Hd 23 [] [(0, (.slice p2 l_1.length k3)), (3, (.int .i64 s5))] F_6 [R] a w) (fun b0 e a w => match b0 with | .inl b29 => e = .exit 0 ∧ ∃ (F_30 : Fz), F0 ≤ F_30 ∧ Hd 23 [] [(0, (.slice p2 l_1.length k3))] F_30 [R] a w | .inr b29 => e = .ret ∧ ∃ (F_32 : Fz), F0 ≤ F_32 ∧ Hd 23 [] [(2, (.bool b29))] F_32 [R] a w) ?_ ?_ ?_
  · exact fun a w h => ⟨F0, (Fz.le_refl _), h.1.sub (.cons (k := 0) rfl (.cons (k := 3) rfl (.nil _))), h.2⟩
  · intro s5 ctl
    refine GC.ex (fun a w ⟨F_6, l_7, hA⟩ => ⟨_, hA, ?_⟩)
    unfold b_wormtubref12_Claims_1
    refine .seq ?_
    refine .seq ?_
    refine .region ?_
    refine .move rfl rfl ?_
    refine .move rfl rfl ?_
    refine .lenS rfl rfl Try.underlying39 rfl ?_
    refine .lss rfl rfl rfl ?_
    refine .move rfl rfl ?_
    refine .andP (b := (decide (s5 < (l_1.length : Int)))) (b' := (decide (s5 ≤ 32))) 3 11 (fun hb8 => ?_) (fun hb9 => ?_) (fun F_10 l_11 => ?_)
    · skip
      refine .onH hb8 rfl rfl ?_
      refine .move rfl rfl ?_
      refine .onH hb8 rfl rfl ?_
      refine .leq rfl rfl rfl ?_
      refine .pickTH hb8 rfl rfl rfl ?_
      exact .fin 3 rfl rfl (by kernel_rfl) (Fz.le_refl _)
    · skip
      refine .offH hb9 rfl rfl rfl ?_
      refine .offH hb9 rfl rfl rfl ?_
      refine .pickFH hb9 rfl rfl rfl ?_
      exact .fin 3 rfl rfl (by kernel_rfl) (Fz.le_refl _)
    refine .nil ?_
    refine .code ?_
    refine .cond rfl (fun hb12 => ?_) (fun hb12 => ?_)
    · skip
      refine .skip ?_
      refine .code ?_
      refine .seq ?_
      refine .block ?_
      refine .seq ?_
      refine .region ?_
      refine .move rfl rfl ?_
      refine .move rfl rfl ?_
      refine .idx rfl Try.underlying39 Try.sizeOf46 (h4.mono (Fz.le_trans l_7 l_11)) rfl rfl (fun x13 b14 o15 T16 fr17 cs18 e19 hm20 hv21 => ?_)
      refine .loadFA rfl Try.isAgg46 Try.sizeOf46 rfl hm20 hv21 rfl ?_
      refine .call0 rfl Try.call50 rfl rfl rfl (c_wormtubref12_claim _ x13) ?_
      rintro r_25 F_23 _ - l_24 rfl
      refine .not rfl rfl ?_
      refine .nil ?_
      refine .code ?_
      refine .cond rfl (fun hb26 => ?_) (fun hb26 => ?_)
      · skip
        refine .seq ?_
        refine .region ?_
        refine .assign rfl rfl ?_
        refine .nil ?_
        refine .code ?_
        refine .retQ (LPost.ret fun a w h => ⟨rfl, F_23, (Fz.le_trans l_7 (Fz.le_trans l_11 l_24)), h.1.sub (.cons (k := 2) rfl (.nil _)), h.2⟩)
      · skip
        refine .skip ?_
        refine .block ?_
        refine .code ?_
        refine .region ?_
        refine .move rfl rfl ?_
        refine .add rfl rfl rfl ?_
        refine .assignL rfl rfl (fun i27 e28 => ?_)
        refine .nil ?_
        exact .nil (LPost.norm fun a w h => ⟨F_23, (Fz.le_trans l_7 (Fz.le_trans l_11 l_24)), h.1.sub (.cons (k := 0) rfl (.cons (k := 3) rfl (.nil _))), h.2⟩)
    · skip
      refine .exitOut rfl (LPost.exit fun a w h => ⟨rfl, F_10, (Fz.le_trans l_7 l_11), h.1.sub (.cons (k := 0) rfl (.nil _)), h.2⟩)
  · intro b29 hb0 hk e a w hD
    rcases b29 with b29 | b29
    · skip
      obtain ⟨rfl, F_30, l_31, hA⟩ := hD
      refine interp_exit rfl (GE.app ?_ hk a w hA)
      refine .code ?_
      refine .seq ?_
      refine .region ?_
      refine .move rfl rfl ?_
      refine .lenS rfl rfl Try.underlying39 rfl ?_
      refine .leq rfl rfl rfl ?_
      refine .assign rfl rfl ?_
      refine .nil ?_
      refine .code ?_
      exact .ret0 Try.results19 (.tmp rfl (.nil)) (i := 0) rfl l_31 rfl
    obtain ⟨rfl, F_32, l_33, hA⟩ := hD
    exact interp_ret ((ret_post0 Try.results19 (.tmp rfl (.nil)) (i := 0) rfl l_33 rfl) hk a w hA)

noncomputable def m_wormtubref12_up (a1 : Int) (b2 : Int) : Option Int :=
  (quoK .i64 (w64 ((w64 (a1 + b2)) - 1)) b2).bind fun q3 => some q3
theorem c_wormtubref12_up (F0 : Fz) (a1 : Int) (b2 : Int) : CT0 Try.prog 88 [(.int .i64 a1), (.int .i64 b2)].toArray F0 (m_wormtubref12_up a1 b2) (fun r _ v => v = (.int .i64 r)) := by
  refine CT0.enter Try.func88 rfl Try.ntmps88 rfl fun r R => ?_
  unfold m_wormtubref12_up
  refine .seq ?_
  refine .region ?_
  refine .assign rfl rfl ?_
  refine .nil ?_
  refine .code ?_
  refine .seq ?_
  refine .region ?_
  refine .move rfl rfl ?_
  refine .move rfl rfl ?_
  refine .add rfl rfl rfl ?_
  refine .sub rfl rfl rfl ?_
  refine .move rfl rfl ?_
  refine .quo rfl rfl rfl (fun q3 e4 => ?_)
  refine .assign rfl rfl ?_
  refine .nil ?_
  refine .code ?_
  exact .ret0 Try.results88 (.tmp rfl (.nil)) (i := 0) rfl (Fz.le_refl _) rfl

noncomputable def b_wormtubref12_blend_2 (x19 : ApiDraught) (s48 : Int × ApiBottling) : Option (Ctl (Int × ApiBottling) ((ApiBottling))) :=
  if (decide (s48.1 < 8)) then ((idxO 8 s48.1).bind fun j52 => (idxO 8 s48.1).bind fun j54 => (idxO 8 s48.1).bind fun j56 => bindv ({ s48.2 with Woods := updN s48.2.Woods j56 (imin (s48.2.Woods j52) (x19.From.Woods j54)) }) fun x58 => bindv (w64 (s48.1 + 1)) fun k91 => some (.next (k91, x58))) else (some (.done s48.2))
noncomputable def b_wormtubref12_blend_3 (x19 : ApiDraught) (s96 : Int × ApiBottling) : Option (Ctl (Int × ApiBottling) ((ApiBottling))) :=
  if (decide (s96.1 < 8)) then ((idxO 8 s96.1).bind fun j100 => (idxO 8 s96.1).bind fun j102 => (idxO 8 s96.1).bind fun j104 => bindv ({ s96.2 with Places := updN s96.2.Places j104 (imin (s96.2.Places j100) (x19.From.Places j102)) }) fun x106 => bindv (w64 (s96.1 + 1)) fun k139 => some (.next (k139, x106))) else (some (.done s96.2))
noncomputable def b_wormtubref12_blend_4 (s12 : Int × Int × Int × (List Int) × Int × ApiBottling) (x19 : ApiDraught) (s144 : Bool × Int) : Option (Ctl (Bool × Int) ((Bool))) :=
  if (decide (s144.2 < (s12.2.2.2.1.length : Int))) then ((if s144.1 then (some true) else ((idxL s12.2.2.2.1 s144.2).bind fun x174 => bindv (x174 == x19.From.Number) fun there203 => some there203) : Option (Bool)).bind fun j205 => bindv (w64 (s144.2 + 1)) fun k208 => some (.next (j205, k208))) else (some (.done s144.1))
noncomputable def b_wormtubref12_blend_1 (b1 : ApiBatch) (s12 : Int × Int × Int × (List Int) × Int × ApiBottling) : Option (Ctl (Int × Int × Int × (List Int) × Int × ApiBottling) ((Int × Int × Int × (List Int) × ApiBottling))) :=
  if (decide (s12.2.2.2.2.1 < (b1.Draughts.length : Int))) then (((idxL b1.Draughts s12.2.2.2.2.1).bind fun x19 => bindv (w64 (s12.1 + x19.Amount)) fun total30 => bindv (w64 (s12.2.1 + (w64 (x19.Amount * x19.Strength.Lo)))) fun least32 => bindv (w64 (s12.2.2.1 + (w64 (x19.Amount * x19.Strength.Hi)))) fun most34 => (if (s12.2.2.2.2.1 == 0) then (bindv ({ s12.2.2.2.2.2 with Age := x19.From.Age }) fun x37 => bindv ({ x37 with Woods := x19.From.Woods }) fun x39 => bindv ({ x39 with Places := x19.From.Places }) fun x41 => some x41) else (some s12.2.2.2.2.2) : Option (ApiBottling)).bind fun j43 => bindv ({ j43 with Age := (imin j43.Age x19.From.Age) }) fun x46 => (loopM (b_wormtubref12_blend_2 x19) (0, x46)).bind fun b93 => (loopM (b_wormtubref12_blend_3 x19) (0, b93)).bind fun b141 => (loopM (b_wormtubref12_blend_4 s12 x19) (false, 0)).bind fun b210 => (if (!b210) then ((appO s12.2.2.2.1 ([x19.From.Number])).bind fun l_219 => some l_219) else (some s12.2.2.2.1) : Option ((List Int))).bind fun j223 => some (total30, least32, most34, j223, b141) : Option (Int × Int × Int × (List Int) × ApiBottling)).bind fun j229 => bindv (w64 (s12.2.2.2.2.1 + 1)) fun i235 => some (.next (j229.1, j229.2.1, j229.2.2.1, j229.2.2.2.1, i235, j229.2.2.2.2))) else (some (.done (s12.1, s12.2.1, s12.2.2.1, s12.2.2.2.1, s12.2.2.2.2.2)))
noncomputable def m_wormtubref12_blend (b1 : ApiBatch) : Option ApiBottling :=
  (loopM (b_wormtubref12_blend_1 b1) (b1.Water, 0, 0, [], 0, (ApiBottling.mk (ApiSpan.mk 0 0) (ApiSpan.mk 0 0) 0 (fun _ => 0) (fun _ => 0) 0))).bind fun b237 => bindv (w64 (10000 - b1.Shrink.Lo)) fun great264 => (m_wormtubref12_up (w64 (b237.1 * great264)) 10000).bind fun r_268 => bindv ({ b237.2.2.2.2 with Volume := (ApiSpan.mk (w64 (Int.tdiv (w64 (b237.1 * (w64 (10000 - b1.Shrink.Hi)))) 10000)) r_268) }) fun x269 => (quoK .i64 (w64 (b237.2.1 * 10000)) (w64 (b237.1 * great264))).bind fun q271 => (m_wormtubref12_up (w64 (b237.2.2.1 * 10000)) (w64 (b237.1 * (w64 (10000 - b1.Shrink.Hi))))).bind fun r_276 => bindv ({ x269 with Strength := (ApiSpan.mk (imin 10000 q271) (imin 10000 r_276)) }) fun x313 => bindv ({ x313 with Casks := (b237.2.2.2.1.length : Int) }) fun x315 => some x315
theorem c_wormtubref12_blend (F0 : Fz) (b1 : ApiBatch) (p2 : Option Addr) (k3 : Nat) (h4 : RepSl 27 (Ex cApiDraught) F0 p2 k3 b1.Draughts) : CT0 Try.prog 58 [(eApiBatch b1 p2 k3)].toArray F0 (m_wormtubref12_blend b1) (fun r _ v => v = (eApiBottling r)) := by
  refine CT0.enter Try.func58 rfl Try.ntmps58 rfl fun r R => ?_
  unfold m_wormtubref12_blend
  refine .seq ?_
  refine .region ?_
  refine .boxF (cs := (cApiBatch b1 p2 k3)) rfl rfl rfl (fun b5 F_6 l_7 hb8 => ?_)
  refine .alloc (cs := (cApiBottling (ApiBottling.mk (ApiSpan.mk 0 0) (ApiSpan.mk 0 0) 0 (fun _ => 0) (fun _ => 0) 0))) rfl Try.zeroValue56 rfl (fun b9 => ?_)
  refine .nil ?_
  refine .code ?_
  refine .seq ?_
  refine .region ?_
  refine .build (cs := (cApiBottling (ApiBottling.mk (ApiSpan.mk 0 0) (ApiSpan.mk 0 0) 0 (fun _ => 0) (fun _ => 0) 0)).toArray) rfl Try.underlying56 Try.zeroValue56 (plApiBottling _ Try.underlying56) rfl rfl (by kernel_rfl) ?_
  refine .alloc (cs := (cApiBottling (ApiBottling.mk (ApiSpan.mk 0 0) (ApiSpan.mk 0 0) 0 (fun _ => 0) (fun _ => 0) 0))) rfl Try.zeroValue56 rfl (fun b10 => ?_)
  refine .store (cs' := (cApiBottling (ApiBottling.mk (ApiSpan.mk 0 0) (ApiSpan.mk 0 0) 0 (fun _ => 0) (fun _ => 0) 0))) Try.sizeOf56 rfl rfl rfl rfl (i := 0) rfl (Nat.le_of_ble_eq_true rfl) rfl (setMany_all (by rfl)) ?_
  refine .nil ?_
  refine .code ?_
  refine .seq ?_
  refine .region ?_
  refine .fieldAddr rfl Try.underlying38 rfl Try.sizeOf3 rfl ?_
  refine .loadF rfl Try.isAgg3 rfl hb8 rfl ?_
  refine .assign rfl rfl ?_
  refine .assign rfl rfl ?_
  refine .assign rfl rfl ?_
  refine .nil ?_
  refine .code ?_
  refine .seq ?_
  refine .region ?_
  refine .assign rfl rfl ?_
  refine .nil ?_
  refine .code ?_
  refine .seq ?_
  refine .seq ?_
  refine .region ?_
  refine .assign rfl rfl ?_
  refine .nil ?_
  refine .code ?_
  refine .block ?_
  refine .ownNil 1 (Ex (cInt .i64)) 3 ?_
  refine .keep (.cons (k := 1) rfl (.cons (k := 2) rfl (.cons (k := 3) rfl (.cons (k := 4) rfl (.cons (k := 5) rfl (.cons (k := 6) rfl (.cons (k := 7) rfl (.cons (k := 8) rfl (.nil _))))))))) ?_
  refine .loop (fun (s12 : Int × Int × Int × (List Int) × Int × ApiBottling) a w => ∃ (F_13 : Fz) (p15 : Option Addr) (k16 : Nat), F_6 ≤ F_13 ∧ Hd 169 [] [(1, (.pointer (some ⟨b5, 0, none⟩))), (2, (.pointer (some ⟨b9, 0, none⟩))), (3, (.pointer (some ⟨b10, 0, none⟩))), (4, (.int .i64 s12.1)), (5, (.int .i64 s12.2.1)), (6, (.int .i64 s12.2.2.1)), (7, (.slice p15 s12.2.2.2.1.length k16)), (8, (.int .i64 s12.2.2.2.2.1))] F_13 [ownSl 1 (Ex (cInt .i64)) F_13 3 p15 k16 s12.2.2.2.1, pt b10 (.cells (cApiBottling s12.2.2.2.2.2).toArray 56), pt b9 (.cells (cApiBottling (ApiBottling.mk (ApiSpan.mk 0 0) (ApiSpan.mk 0 0) 0 (fun _ => 0) (fun _ => 0) 0)).toArray 56), R] a w) (fun b237 e a w => e = .exit 0 ∧ ∃ (F_238 : Fz) (p240 : Option Addr) (k241 : Nat), F_6 ≤ F_238 ∧ Hd 169 [] [(1, (.pointer (some ⟨b5, 0, none⟩))), (2, (.pointer (some ⟨b9, 0, none⟩))), (3, (.pointer (some ⟨b10, 0, none⟩))), (4, (.int .i64 b237.1)), (5, (.int .i64 b237.2.1)), (6, (.int .i64 b237.2.2.1)), (7, (.slice p240 b237.2.2.2.1.length k241))] F_238 [ownSl 1 (Ex (cInt .i64)) F_238 3 p240 k241 b237.2.2.2.1, pt b10 (.cells (cApiBottling b237.2.2.2.2).toArray 56), pt b9 (.cells (cApiBottling (ApiBottling.mk (ApiSpan.mk 0 0) (ApiSpan.mk 0 0) 0 (fun _ => 0) (fun _ => 0) 0)).toArray 56), R] a w) ?_ ?_ ?_
  · exact fun a w h => ⟨F_6, none, 0, (Fz.le_refl _), h.1.sub (.cons (k := 1) rfl (.cons (k := 2) rfl (.cons (k := 3) rfl (.cons (k := 4) rfl (.cons (k := 5) rfl (.cons (k := 6) rfl (.cons (k := 7) rfl (.cons (k := 8) rfl (.nil _))))))))), h.2⟩
  · intro s12 ctl
    refine GC.ex (fun a w ⟨F_13, p15, k16, l_14, hA⟩ => ⟨_, hA, ?_⟩)
    unfold b_wormtubref12_blend_1
    refine .seq ?_
    refine .seq ?_
    refine .region ?_
    refine .move rfl rfl ?_
    refine .fieldAddr rfl Try.underlying38 rfl Try.sizeOf34 rfl ?_
    refine .loadF rfl Try.isAgg34 rfl (l_14.mem _ _ hb8) rfl ?_
    refine .lenS rfl rfl Try.underlying34 rfl ?_
    refine .lss rfl rfl rfl ?_
    refine .nil ?_
    refine .code ?_
    refine .cond rfl (fun hb18 => ?_) (fun hb18 => ?_)
    · skip
      refine .skip ?_
      refine .code ?_
      refine .seq ?_
      refine .keep (.cons (k := 1) rfl (.cons (k := 2) rfl (.cons (k := 3) rfl (.cons (k := 4) rfl (.cons (k := 5) rfl (.cons (k := 6) rfl (.cons (k := 7) rfl (.cons (k := 8) rfl (.nil _))))))))) ?_
      refine GC.join0 (σ := Int × Int × Int × (List Int) × ApiBottling) (fun j229 a w => ∃ (F_230 : Fz) (p232 : Option Addr) (k233 : Nat), F_13 ≤ F_230 ∧ Hd 169 [] [(1, (.pointer (some ⟨b5, 0, none⟩))), (2, (.pointer (some ⟨b9, 0, none⟩))), (3, (.pointer (some ⟨b10, 0, none⟩))), (4, (.int .i64 j229.1)), (5, (.int .i64 j229.2.1)), (6, (.int .i64 j229.2.2.1)), (7, (.slice p232 j229.2.2.2.1.length k233)), (8, (.int .i64 s12.2.2.2.2.1))] F_230 [ownSl 1 (Ex (cInt .i64)) F_230 3 p232 k233 j229.2.2.2.1, pt b10 (.cells (cApiBottling j229.2.2.2.2).toArray 56), pt b9 (.cells (cApiBottling (ApiBottling.mk (ApiSpan.mk 0 0) (ApiSpan.mk 0 0) 0 (fun _ => 0) (fun _ => 0) 0)).toArray 56), R] a w) (fun sj => ?_) (fun j229 hs0 => GE.ex (fun a w ⟨F_230, p232, k233, l_231, hA⟩ => ⟨_, hA, ?_⟩))
      · skip
        refine .block ?_
        refine .seq ?_
        refine .region ?_
        refine .fieldAddr rfl Try.underlying38 rfl Try.sizeOf34 rfl ?_
        refine .loadF rfl Try.isAgg34 rfl (l_14.mem _ _ hb8) rfl ?_
        refine .move rfl rfl ?_
        refine .idx rfl Try.underlying34 Try.sizeOf51 (h4.mono (Fz.le_trans l_7 l_14)) rfl rfl (fun x19 b20 o21 T22 fr23 cs24 e25 hm26 hv27 => ?_)
        refine .loadFA rfl Try.isAgg51 Try.sizeOf51 rfl hm26 hv27 rfl ?_
        refine .alloc (cs := (cApiDraught (ApiDraught.mk (ApiCask.mk 0 0 0 0 0 0 0 0 (fun _ => 0) (fun _ => 0)) 0 (ApiSpan.mk 0 0)))) rfl Try.zeroValue51 rfl (fun b29 => ?_)
        refine .store (cs' := (cApiDraught x19)) Try.sizeOf51 rfl rfl rfl rfl (i := 0) rfl (Nat.le_of_ble_eq_true rfl) rfl (setMany_all (by rfl)) ?_
        refine .nil ?_
        refine .code ?_
        refine .seq ?_
        refine .region ?_
        refine .move rfl rfl ?_
        refine .fieldAddr rfl Try.underlying51 rfl Try.sizeOf3 rfl ?_
        refine .loadO rfl Try.isAgg3 rfl (i := 0) rfl rfl ?_
        refine .add rfl rfl rfl ?_
        refine .assignL rfl rfl (fun total30 e31 => ?_)
        refine .nil ?_
        refine .code ?_
        refine .seq ?_
        refine .region ?_
        refine .move rfl rfl ?_
        refine .fieldAddr rfl Try.underlying51 rfl Try.sizeOf3 rfl ?_
        refine .loadO rfl Try.isAgg3 rfl (i := 0) rfl rfl ?_
        refine .fieldAddr rfl Try.underlying51 rfl Try.sizeOf36 rfl ?_
        refine .fieldAddr rfl Try.underlying36 rfl Try.sizeOf3 rfl ?_
        refine .loadO rfl Try.isAgg3 rfl (i := 0) rfl rfl ?_
        refine .mul rfl rfl rfl ?_
        refine .add rfl rfl rfl ?_
        refine .assignL rfl rfl (fun least32 e33 => ?_)
        refine .nil ?_
        refine .keep (.cons (k := 1) rfl (.cons (k := 2) rfl (.cons (k := 3) rfl (.cons (k := 4) rfl (.cons (k := 5) rfl (.cons (k := 6) rfl (.cons (k := 7) rfl (.cons (k := 8) rfl (.cons (k := 9) rfl (.nil _)))))))))) ?_
        refine .code ?_
        refine .seq ?_
        refine .region ?_
        refine .move rfl rfl ?_
        refine .fieldAddr rfl Try.underlying51 rfl Try.sizeOf3 rfl ?_
        refine .loadO rfl Try.isAgg3 rfl (i := 0) rfl rfl ?_
        refine .fieldAddr rfl Try.underlying51 rfl Try.sizeOf36 rfl ?_
        refine .fieldAddr rfl Try.underlying36 rfl Try.sizeOf3 rfl ?_
        refine .loadO rfl Try.isAgg3 rfl (i := 0) rfl rfl ?_
        refine .mul rfl rfl rfl ?_
        refine .add rfl rfl rfl ?_
        refine .assignL rfl rfl (fun most34 e35 => ?_)
        refine .nil ?_
        refine .code ?_
        refine .seq ?_
        refine .seq ?_
        refine .region ?_
        refine .move rfl rfl ?_
        refine .eql rfl rfl rfl ?_
        refine .nil ?_
        refine .code ?_
        refine .keep (.cons (k := 1) rfl (.cons (k := 2) rfl (.cons (k := 3) rfl (.cons (k := 4) rfl (.cons (k := 5) rfl (.cons (k := 6) rfl (.cons (k := 7) rfl (.cons (k := 8) rfl (.cons (k := 9) rfl (.cons (k := 52) rfl (.nil _))))))))))) ?_
        refine GC.join0 (σ := ApiBottling) (fun j43 a w => ∃ (F_44 : Fz), F_13 ≤ F_44 ∧ Hd 169 [] [(1, (.pointer (some ⟨b5, 0, none⟩))), (2, (.pointer (some ⟨b9, 0, none⟩))), (3, (.pointer (some ⟨b10, 0, none⟩))), (4, (.int .i64 total30)), (5, (.int .i64 least32)), (6, (.int .i64 most34)), (7, (.slice p15 s12.2.2.2.1.length k16)), (8, (.int .i64 s12.2.2.2.2.1)), (9, (.pointer (some ⟨b29, 0, none⟩)))] F_44 [pt b29 (.cells (cApiDraught x19).toArray 51), ownSl 1 (Ex (cInt .i64)) F_13 3 p15 k16 s12.2.2.2.1, pt b10 (.cells (cApiBottling j43).toArray 56), pt b9 (.cells (cApiBottling (ApiBottling.mk (ApiSpan.mk 0 0) (ApiSpan.mk 0 0) 0 (fun _ => 0) (fun _ => 0) 0)).toArray 56), R] a w) (fun sj => ?_) (fun j43 hs0 => GE.ex (fun a w ⟨F_44, l_45, hA⟩ => ⟨_, hA, ?_⟩))
        · skip
          refine .cond rfl (fun hb36 => ?_) (fun hb36 => ?_)
          · skip
            refine .seq ?_
            refine .region ?_
            refine .fieldAddr rfl Try.underlying51 rfl Try.sizeOf49 rfl ?_
            refine .fieldAddr rfl Try.underlying49 rfl Try.sizeOf3 rfl ?_
            refine .loadO rfl Try.isAgg3 rfl (i := 0) rfl rfl ?_
            refine .fieldAddr rfl Try.underlying56 rfl Try.sizeOf3 rfl ?_
            refine .letv (fun x37 e38 => ?_)
            refine .store (cs' := (cApiBottling x37)) Try.sizeOf3 rfl rfl rfl rfl (i := 2) rfl (Nat.le_of_ble_eq_true rfl) rfl (by rw [e38]; kernel_rfl) ?_
            refine .nil ?_
            refine .code ?_
            refine .seq ?_
            refine .region ?_
            refine .fieldAddr rfl Try.underlying51 rfl Try.sizeOf49 rfl ?_
            refine .fieldAddr rfl Try.underlying49 rfl Try.sizeOf47 rfl ?_
            refine .loadOA rfl Try.isAgg47 Try.sizeOf47 rfl (i := 0) rfl (vs := ((cArr 8 (cInt .i64)) x19.From.Woods)) (by kernel_rfl) rfl ?_
            refine .fieldAddr rfl Try.underlying56 rfl Try.sizeOf47 rfl ?_
            refine .letv (fun x39 e40 => ?_)
            refine .store (cs' := (cApiBottling x39)) Try.sizeOf47 rfl rfl rfl rfl (i := 2) rfl (Nat.le_of_ble_eq_true rfl) rfl (by rw [e40]; kernel_rfl) ?_
            refine .nil ?_
            refine .code ?_
            refine .region ?_
            refine .fieldAddr rfl Try.underlying51 rfl Try.sizeOf49 rfl ?_
            refine .fieldAddr rfl Try.underlying49 rfl Try.sizeOf47 rfl ?_
            refine .loadOA rfl Try.isAgg47 Try.sizeOf47 rfl (i := 0) rfl (vs := ((cArr 8 (cInt .i64)) x19.From.Places)) (by kernel_rfl) rfl ?_
            refine .fieldAddr rfl Try.underlying56 rfl Try.sizeOf47 rfl ?_
            refine .letv (fun x41 e42 => ?_)
            refine .store (cs' := (cApiBottling x41)) Try.sizeOf47 rfl rfl rfl rfl (i := 2) rfl (Nat.le_of_ble_eq_true rfl) rfl (by rw [e42]; kernel_rfl) ?_
            refine .nil ?_
            exact .nil fun e a w h => by cases e; exact ⟨rfl, ⟨F_13, (Fz.le_refl _), h.1.sub (.cons (k := 1) rfl (.cons (k := 2) rfl (.cons (k := 3) rfl (.cons (k := 4) rfl (.cons (k := 5) rfl (.cons (k := 6) rfl (.cons (k := 7) rfl (.cons (k := 8) rfl (.cons (k := 9) rfl (.nil _)))))))))), h.2⟩⟩
          · skip
            refine .skip ?_
            exact .nil fun e a w h => by cases e; exact ⟨rfl, ⟨F_13, (Fz.le_refl _), h.1.sub (.cons (k := 1) rfl (.cons (k := 2) rfl (.cons (k := 3) rfl (.cons (k := 4) rfl (.cons (k := 5) rfl (.cons (k := 6) rfl (.cons (k := 7) rfl (.cons (k := 8) rfl (.cons (k := 9) rfl (.nil _)))))))))), h.2⟩⟩
        refine .code ?_
        refine .seq ?_
        refine .region ?_
        refine .fieldAddr rfl Try.underlying56 rfl Try.sizeOf3 rfl ?_
        refine .loadO rfl Try.isAgg3 rfl (i := 2) rfl rfl ?_
        refine .fieldAddr rfl Try.underlying51 rfl Try.sizeOf49 rfl ?_
        refine .fieldAddr rfl Try.underlying49 rfl Try.sizeOf3 rfl ?_
        refine .loadO rfl Try.isAgg3 rfl (i := 0) rfl rfl ?_
        refine .min2 rfl rfl rfl ?_
        refine .fieldAddr rfl Try.underlying56 rfl Try.sizeOf3 rfl ?_
        refine .letv (fun x46 e47 => ?_)
        refine .store (cs' := (cApiBottling x46)) Try.sizeOf3 rfl rfl rfl rfl (i := 2) rfl (Nat.le_of_ble_eq_true rfl) rfl (by rw [e47]; kernel_rfl) ?_
        refine .nil ?_
        refine .code ?_
        refine .seq ?_
        refine .seq ?_
        refine .region ?_
        refine .assign rfl rfl ?_
        refine .nil ?_
        refine .code ?_
        refine .block ?_
        refine .keep (.cons (k := 1) rfl (.cons (k := 2) rfl (.cons (k := 3) rfl (.cons (k := 4) rfl (.cons (k := 5) rfl (.cons (k := 6) rfl (.cons (k := 7) rfl (.cons (k := 8) rfl (.cons (k := 9) rfl (.cons (k := 10) rfl (.nil _))))))))))) ?_
        refine .loop (fun (s48 : Int × ApiBottling) a w => ∃ (F_49 : Fz), F_44 ≤ F_49 ∧ Hd 169 [] [(1, (.pointer (some ⟨b5, 0, none⟩))), (2, (.pointer (some ⟨b9, 0, none⟩))), (3, (.pointer (some ⟨b10, 0, none⟩))), (4, (.int .i64 total30)), (5, (.int .i64 least32)), (6, (.int .i64 most34)), (7, (.slice p15 s12.2.2.2.1.length k16)), (8, (.int .i64 s12.2.2.2.2.1)), (9, (.pointer (some ⟨b29, 0, none⟩))), (10, (.int .i64 s48.1))] F_49 [pt b29 (.cells (cApiDraught x19).toArray 51), ownSl 1 (Ex (cInt .i64)) F_13 3 p15 k16 s12.2.2.2.1, pt b10 (.cells (cApiBottling s48.2).toArray 56), pt b9 (.cells (cApiBottling (ApiBottling.mk (ApiSpan.mk 0 0) (ApiSpan.mk 0 0) 0 (fun _ => 0) (fun _ => 0) 0)).toArray 56), R] a w) (fun b93 e a w => e = .exit 2 ∧ ∃ (F_94 : Fz), F_44 ≤ F_94 ∧ Hd 169 [] [(1, (.pointer (some ⟨b5, 0, none⟩))), (2, (.pointer (some ⟨b9, 0, none⟩))), (3, (.pointer (some ⟨b10, 0, none⟩))), (4, (.int .i64 total30)), (5, (.int .i64 least32)), (6, (.int .i64 most34)), (7, (.slice p15 s12.2.2.2.1.length k16)), (8, (.int .i64 s12.2.2.2.2.1)), (9, (.pointer (some ⟨b29, 0, none⟩)))] F_94 [pt b29 (.cells (cApiDraught x19).toArray 51), ownSl 1 (Ex (cInt .i64)) F_13 3 p15 k16 s12.2.2.2.1, pt b10 (.cells (cApiBottling b93).toArray 56), pt b9 (.cells (cApiBottling (ApiBottling.mk (ApiSpan.mk 0 0) (ApiSpan.mk 0 0) 0 (fun _ => 0) (fun _ => 0) 0)).toArray 56), R] a w) ?_ ?_ ?_
        · exact fun a w h => ⟨F_44, (Fz.le_refl _), h.1.sub (.cons (k := 1) rfl (.cons (k := 2) rfl (.cons (k := 3) rfl (.cons (k := 4) rfl (.cons (k := 5) rfl (.cons (k := 6) rfl (.cons (k := 7) rfl (.cons (k := 8) rfl (.cons (k := 9) rfl (.cons (k := 10) rfl (.nil _))))))))))), h.2⟩
        · intro s48 ctl
          refine GC.ex (fun a w ⟨F_49, l_50, hA⟩ => ⟨_, hA, ?_⟩)
          unfold b_wormtubref12_blend_2
          refine .seq ?_
          refine .seq ?_
          refine .region ?_
          refine .move rfl rfl ?_
          refine .lss rfl rfl rfl ?_
          refine .nil ?_
          refine .code ?_
          refine .cond rfl (fun hb51 => ?_) (fun hb51 => ?_)
          · skip
            refine .skip ?_
            refine .code ?_
            refine .seq ?_
            refine .block ?_
            refine .keep (.cons (k := 1) rfl (.cons (k := 2) rfl (.cons (k := 3) rfl (.cons (k := 4) rfl (.cons (k := 5) rfl (.cons (k := 6) rfl (.cons (k := 7) rfl (.cons (k := 8) rfl (.cons (k := 9) rfl (.cons (k := 10) rfl (.nil _))))))))))) ?_
            refine .bind (fun j52 hj53 => ?_)
            refine .bind (fun j54 hj55 => ?_)
            refine .bind (fun j56 hj57 => ?_)
            refine .letv (fun x58 e59 => ?_)
            refine .drawS ⟨1000000, 0, [], 0⟩ 13 [pt b29 (.cells (cApiDraught x19).toArray 51), ownSl 1 (Ex (cInt .i64)) F_13 3 p15 k16 s12.2.2.2.1, pt b10 (.cells (cApiBottling x58).toArray 56), pt b9 (.cells (cApiBottling (ApiBottling.mk (ApiSpan.mk 0 0) (ApiSpan.mk 0 0) 0 (fun _ => 0) (fun _ => 0) 0)).toArray 56), R] [0, 1, 2, 3, 4, 5, 6, 7, 8, 9, 10, 11, 12] [(76, (.int .i64 s48.1)), (77, (.int .i64 s48.1)), (78, (.pointer (some ⟨b10, 0 + 5, none⟩))), (79, (.pointer (some ⟨b10, 0 + 5 + j52 * 1, none⟩))), (80, (.int .i64 (s48.2.Woods j52))), (81, (.int .i64 s48.1)), (82, (.pointer (some ⟨b29, 0 + 0, none⟩))), (83, (.pointer (some ⟨b29, 0 + 0 + 8, none⟩))), (84, (.pointer (some ⟨b29, 0 + 0 + 8 + j54 * 1, none⟩))), (85, (.int .i64 (x19.From.Woods j54))), (86, (.int .i64 (imin (s48.2.Woods j52) (x19.From.Woods j54)))), (87, (.pointer (some ⟨b10, 0 + 5, none⟩))), (88, (.pointer (some ⟨b10, 0 + 5 + j56 * 1, none⟩))), (1000013, undef)] mixedOK (by kernel_rfl) (by kernel_rfl) rfl (by kernel_rfl) (by kernel_rfl) rfl rfl rfl rfl ?_ (fun F_60 b61 l_62 => ?_)
            · skip
              refine .cons (.pre rfl rfl (.mk 76 (.int .i64 s48.1) [(10, (.int .i64 s48.1))] rfl rfl rfl rfl (fun S hS hd => (.cons (hS _ _ rfl) (Sub.nil _))) (fun F_63 X l_64 => ?_))) ?_
              · skip
                refine .move rfl rfl ?_
                exact .fin1 (Fz.le_refl _)
              refine .cons (.pre rfl rfl (.mk 77 (.int .i64 s48.1) [(10, (.int .i64 s48.1))] rfl rfl rfl rfl (fun S hS hd => (.cons (hS _ _ rfl) (Sub.nil _))) (fun F_65 X l_66 => ?_))) ?_
              · skip
                refine .move rfl rfl ?_
                exact .fin1 (Fz.le_refl _)
              refine .cons (.pre rfl rfl (.mk 78 (.pointer (some ⟨b10, 0 + 5, none⟩)) [(3, (.pointer (some ⟨b10, 0, none⟩)))] rfl rfl rfl rfl (fun S hS hd => (.cons (hS _ _ rfl) (Sub.nil _))) (fun F_67 X l_68 => ?_))) ?_
              · skip
                refine .fieldAddr rfl Try.underlying56 rfl Try.sizeOf47 rfl ?_
                exact .fin1 (Fz.le_refl _)
              refine .cons (.pre rfl rfl (.mk 79 (.pointer (some ⟨b10, 0 + 5 + j52 * 1, none⟩)) [(77, (.int .i64 s48.1)), (78, (.pointer (some ⟨b10, 0 + 5, none⟩)))] rfl rfl rfl rfl (fun S hS hd => (.cons (hd.2.1 rfl rfl _ _ rfl) (.cons (hd.1 rfl rfl _ _ rfl) (Sub.nil _)))) (fun F_69 X l_70 => ?_))) ?_
              · skip
                refine .indexAddrA rfl Try.underlying47 Try.sizeOf3 rfl rfl hj53 ?_
                exact .fin1 (Fz.le_refl _)
              refine .cons (.pre rfl rfl (.mk 80 (.int .i64 (s48.2.Woods j52)) [(79, (.pointer (some ⟨b10, 0 + 5 + j52 * 1, none⟩)))] rfl rfl rfl rfl (fun S hS hd => (.cons (hd.1 rfl rfl _ _ rfl) (Sub.nil _))) (fun F_71 X l_72 => ?_))) ?_
              · skip
                refine .loadO rfl Try.isAgg3 rfl (i := 2) rfl (allLt8 (p := fun j52 => ((cApiBottling s48.2))[0 + 5 + j52 * 1]? = some (.int .i64 (s48.2.Woods j52))) rfl rfl rfl rfl rfl rfl rfl rfl _ (idxO_some hj53).2.2.2) ?_
                exact .fin1 (Fz.le_refl _)
              refine .cons (.pre rfl rfl (.mk 81 (.int .i64 s48.1) [(10, (.int .i64 s48.1))] rfl rfl rfl rfl (fun S hS hd => (.cons (hS _ _ rfl) (Sub.nil _))) (fun F_73 X l_74 => ?_))) ?_
              · skip
                refine .move rfl rfl ?_
                exact .fin1 (Fz.le_refl _)
              refine .cons (.pre rfl rfl (.mk 82 (.pointer (some ⟨b29, 0 + 0, none⟩)) [(9, (.pointer (some ⟨b29, 0, none⟩)))] rfl rfl rfl rfl (fun S hS hd => (.cons (hS _ _ rfl) (Sub.nil _))) (fun F_75 X l_76 => ?_))) ?_
              · skip
                refine .fieldAddr rfl Try.underlying51 rfl Try.sizeOf49 rfl ?_
                exact .fin1 (Fz.le_refl _)
              refine .cons (.pre rfl rfl (.mk 83 (.pointer (some ⟨b29, 0 + 0 + 8, none⟩)) [(82, (.pointer (some ⟨b29, 0 + 0, none⟩)))] rfl rfl rfl rfl (fun S hS hd => (.cons (hd.1 rfl rfl _ _ rfl) (Sub.nil _))) (fun F_77 X l_78 => ?_))) ?_
              · skip
                refine .fieldAddr rfl Try.underlying49 rfl Try.sizeOf47 rfl ?_
                exact .fin1 (Fz.le_refl _)
              refine .cons (.pre rfl rfl (.mk 84 (.pointer (some ⟨b29, 0 + 0 + 8 + j54 * 1, none⟩)) [(81, (.int .i64 s48.1)), (83, (.pointer (some ⟨b29, 0 + 0 + 8, none⟩)))] rfl rfl rfl rfl (fun S hS hd => (.cons (hd.2.1 rfl rfl _ _ rfl) (.cons (hd.1 rfl rfl _ _ rfl) (Sub.nil _)))) (fun F_79 X l_80 => ?_))) ?_
              · skip
                refine .indexAddrA rfl Try.underlying47 Try.sizeOf3 rfl rfl hj55 ?_
                exact .fin1 (Fz.le_refl _)
              refine .cons (.pre rfl rfl (.mk 85 (.int .i64 (x19.From.Woods j54)) [(84, (.pointer (some ⟨b29, 0 + 0 + 8 + j54 * 1, none⟩)))] rfl rfl rfl rfl (fun S hS hd => (.cons (hd.1 rfl rfl _ _ rfl) (Sub.nil _))) (fun F_81 X l_82 => ?_))) ?_
              · skip
                refine .loadO rfl Try.isAgg3 rfl (i := 0) rfl (allLt8 (p := fun j54 => ((cApiDraught x19))[0 + 0 + 8 + j54 * 1]? = some (.int .i64 (x19.From.Woods j54))) rfl rfl rfl rfl rfl rfl rfl rfl _ (idxO_some hj55).2.2.2) ?_
                exact .fin1 (Fz.le_refl _)
              refine .cons (.pre rfl rfl (.mk 86 (.int .i64 (imin (s48.2.Woods j52) (x19.From.Woods j54))) [(80, (.int .i64 (s48.2.Woods j52))), (85, (.int .i64 (x19.From.Woods j54)))] rfl rfl rfl rfl (fun S hS hd => (.cons (hd.1 rfl rfl _ _ rfl) (.cons (hd.2.1 rfl rfl _ _ rfl) (Sub.nil _)))) (fun F_83 X l_84 => ?_))) ?_
              · skip
                refine .min2 rfl rfl rfl ?_
                exact .fin1 (Fz.le_refl _)
              refine .cons (.pre rfl rfl (.mk 87 (.pointer (some ⟨b10, 0 + 5, none⟩)) [(3, (.pointer (some ⟨b10, 0, none⟩)))] rfl rfl rfl rfl (fun S hS hd => (.cons (hS _ _ rfl) (Sub.nil _))) (fun F_85 X l_86 => ?_))) ?_
              · skip
                refine .fieldAddr rfl Try.underlying56 rfl Try.sizeOf47 rfl ?_
                exact .fin1 (Fz.le_refl _)
              refine .cons (.pre rfl rfl (.mk 88 (.pointer (some ⟨b10, 0 + 5 + j56 * 1, none⟩)) [(76, (.int .i64 s48.1)), (87, (.pointer (some ⟨b10, 0 + 5, none⟩)))] rfl rfl rfl rfl (fun S hS hd => (.cons (hd.2.1 rfl rfl _ _ rfl) (.cons (hd.1 rfl rfl _ _ rfl) (Sub.nil _)))) (fun F_87 X l_88 => ?_))) ?_
              · skip
                refine .indexAddrA rfl Try.underlying47 Try.sizeOf3 rfl rfl hj57 ?_
                exact .fin1 (Fz.le_refl _)
              refine .cons (.store [(86, (.int .i64 (imin (s48.2.Woods j52) (x19.From.Woods j54)))), (88, (.pointer (some ⟨b10, 0 + 5 + j56 * 1, none⟩)))] rfl rfl (fun S hS hd => (.cons (hd.2.1 rfl rfl _ _ rfl) (.cons (hd.1 rfl rfl _ _ rfl) (Sub.nil _)))) (fun F_89 X l_90 => ?_)) ?_
              · skip
                refine .store (cs' := (cApiBottling x58)) Try.sizeOf3 rfl rfl rfl rfl (i := 2) rfl (allLt8 (p := fun j56 => 0 + 5 + j56 * 1 + 1 ≤ 22) (by decide) (by decide) (by decide) (by decide) (by decide) (by decide) (by decide) (by decide) _ (idxO_some hj57).2.2.2) rfl (by rw [e59]; exact (allLt8 (p := fun j56 => setMany ((cApiBottling s48.2)) (0 + 5 + j56 * 1) [(.int .i64 (imin (s48.2.Woods j52) (x19.From.Woods j54)))] = (cApiBottling ({ s48.2 with Woods := updN s48.2.Woods j56 (imin (s48.2.Woods j52) (x19.From.Woods j54)) }))) rfl rfl rfl rfl rfl rfl rfl rfl _ (idxO_some hj57).2.2.2)) ?_
                exact StPost.fin (Fz.le_refl _)
              exact .nil
            refine .nil ?_
            refine .block ?_
            refine .code ?_
            refine .region ?_
            refine .move rfl rfl ?_
            refine .add rfl rfl rfl ?_
            refine .assignL rfl rfl (fun k91 e92 => ?_)
            refine .nil ?_
            exact .nil (LPost.norm fun a w h => ⟨F_60, (Fz.le_trans l_50 l_62), h.1.sub (.cons (k := 1) rfl (.cons (k := 2) rfl (.cons (k := 3) rfl (.cons (k := 4) rfl (.cons (k := 5) rfl (.cons (k := 6) rfl (.cons (k := 7) rfl (.cons (k := 8) rfl (.cons (k := 9) rfl (.cons (k := 10) rfl (.nil _))))))))))), h.2⟩)
          · skip
            refine .exitOut rfl (LPost.exit fun a w h => ⟨rfl, F_49, l_50, h.1.sub (.cons (k := 1) rfl (.cons (k := 2) rfl (.cons (k := 3) rfl (.cons (k := 4) rfl (.cons (k := 5) rfl (.cons (k := 6) rfl (.cons (k := 7) rfl (.cons (k := 8) rfl (.cons (k := 9) rfl (.nil _)))))))))), h.2⟩)
        · intro b93 hb0 hk e a w hD
          obtain ⟨rfl, F_94, l_95, hA⟩ := hD
          refine interp_exit rfl (GE.app ?_ hk a w hA)
          refine .code ?_
          refine .seq ?_
          refine .seq ?_
          refine .region ?_
          refine .assign rfl rfl ?_
          refine .nil ?_
          refine .code ?_
          refine .block ?_
          refine .keep (.cons (k := 1) rfl (.cons (k := 2) rfl (.cons (k := 3) rfl (.cons (k := 4) rfl (.cons (k := 5) rfl (.cons (k := 6) rfl (.cons (k := 7) rfl (.cons (k := 8) rfl (.cons (k := 9) rfl (.cons (k := 11) rfl (.nil _))))))))))) ?_
          refine .loop (fun (s96 : Int × ApiBottling) a w => ∃ (F_97 : Fz), F_94 ≤ F_97 ∧ Hd 169 [] [(1, (.pointer (some ⟨b5, 0, none⟩))), (2, (.pointer (some ⟨b9, 0, none⟩))), (3, (.pointer (some ⟨b10, 0, none⟩))), (4, (.int .i64 total30)), (5, (.int .i64 least32)), (6, (.int .i64 most34)), (7, (.slice p15 s12.2.2.2.1.length k16)), (8, (.int .i64 s12.2.2.2.2.1)), (9, (.pointer (some ⟨b29, 0, none⟩))), (11, (.int .i64 s96.1))] F_97 [pt b29 (.cells (cApiDraught x19).toArray 51), ownSl 1 (Ex (cInt .i64)) F_13 3 p15 k16 s12.2.2.2.1, pt b10 (.cells (cApiBottling s96.2).toArray 56), pt b9 (.cells (cApiBottling (ApiBottling.mk (ApiSpan.mk 0 0) (ApiSpan.mk 0 0) 0 (fun _ => 0) (fun _ => 0) 0)).toArray 56), R] a w) (fun b141 e a w => e = .exit 4 ∧ ∃ (F_142 : Fz), F_94 ≤ F_142 ∧ Hd 169 [] [(1, (.pointer (some ⟨b5, 0, none⟩))), (2, (.pointer (some ⟨b9, 0, none⟩))), (3, (.pointer (some ⟨b10, 0, none⟩))), (4, (.int .i64 total30)), (5, (.int .i64 least32)), (6, (.int .i64 most34)), (7, (.slice p15 s12.2.2.2.1.length k16)), (8, (.int .i64 s12.2.2.2.2.1)), (9, (.pointer (some ⟨b29, 0, none⟩)))] F_142 [pt b29 (.cells (cApiDraught x19).toArray 51), ownSl 1 (Ex (cInt .i64)) F_13 3 p15 k16 s12.2.2.2.1, pt b10 (.cells (cApiBottling b141).toArray 56), pt b9 (.cells (cApiBottling (ApiBottling.mk (ApiSpan.mk 0 0) (ApiSpan.mk 0 0) 0 (fun _ => 0) (fun _ => 0) 0)).toArray 56), R] a w) ?_ ?_ ?_
          · exact fun a w h => ⟨F_94, (Fz.le_refl _), h.1.sub (.cons (k := 1) rfl (.cons (k := 2) rfl (.cons (k := 3) rfl (.cons (k := 4) rfl (.cons (k := 5) rfl (.cons (k := 6) rfl (.cons (k := 7) rfl (.cons (k := 8) rfl (.cons (k := 9) rfl (.cons (k := 11) rfl (.nil _))))))))))), h.2⟩
          · intro s96 ctl
            refine GC.ex (fun a w ⟨F_97, l_98, hA⟩ => ⟨_, hA, ?_⟩)
            unfold b_wormtubref12_blend_3
            refine .seq ?_
            refine .seq ?_
            refine .region ?_
            refine .move rfl rfl ?_
            refine .lss rfl rfl rfl ?_
            refine .nil ?_
            refine .code ?_
            refine .cond rfl (fun hb99 => ?_) (fun hb99 => ?_)
            · skip
              refine .skip ?_
              refine .code ?_
              refine .seq ?_
              refine .block ?_
              refine .keep (.cons (k := 1) rfl (.cons (k := 2) rfl (.cons (k := 3) rfl (.cons (k := 4) rfl (.cons (k := 5) rfl (.cons (k := 6) rfl (.cons (k := 7) rfl (.cons (k := 8) rfl (.cons (k := 9) rfl (.cons (k := 11) rfl (.nil _))))))))))) ?_
              refine .bind (fun j100 hj101 => ?_)
              refine .bind (fun j102 hj103 => ?_)
              refine .bind (fun j104 hj105 => ?_)
              refine .letv (fun x106 e107 => ?_)
              refine .drawS ⟨1000000, 0, [], 0⟩ 13 [pt b29 (.cells (cApiDraught x19).toArray 51), ownSl 1 (Ex (cInt .i64)) F_13 3 p15 k16 s12.2.2.2.1, pt b10 (.cells (cApiBottling x106).toArray 56), pt b9 (.cells (cApiBottling (ApiBottling.mk (ApiSpan.mk 0 0) (ApiSpan.mk 0 0) 0 (fun _ => 0) (fun _ => 0) 0)).toArray 56), R] [0, 1, 2, 3, 4, 5, 6, 7, 8, 9, 10, 11, 12] [(93, (.int .i64 s96.1)), (94, (.int .i64 s96.1)), (95, (.pointer (some ⟨b10, 0 + 13, none⟩))), (96, (.pointer (some ⟨b10, 0 + 13 + j100 * 1, none⟩))), (97, (.int .i64 (s96.2.Places j100))), (98, (.int .i64 s96.1)), (99, (.pointer (some ⟨b29, 0 + 0, none⟩))), (100, (.pointer (some ⟨b29, 0 + 0 + 16, none⟩))), (101, (.pointer (some ⟨b29, 0 + 0 + 16 + j102 * 1, none⟩))), (102, (.int .i64 (x19.From.Places j102))), (103, (.int .i64 (imin (s96.2.Places j100) (x19.From.Places j102)))), (104, (.pointer (some ⟨b10, 0 + 13, none⟩))), (105, (.pointer (some ⟨b10, 0 + 13 + j104 * 1, none⟩))), (1000013, undef)] mixedOK (by kernel_rfl) (by kernel_rfl) rfl (by kernel_rfl) (by kernel_rfl) rfl rfl rfl rfl ?_ (fun F_108 b109 l_110 => ?_)
              · skip
                refine .cons (.pre rfl rfl (.mk 93 (.int .i64 s96.1) [(11, (.int .i64 s96.1))] rfl rfl rfl rfl (fun S hS hd => (.cons (hS _ _ rfl) (Sub.nil _))) (fun F_111 X l_112 => ?_))) ?_
                · skip
                  refine .move rfl rfl ?_
                  exact .fin1 (Fz.le_refl _)
                refine .cons (.pre rfl rfl (.mk 94 (.int .i64 s96.1) [(11, (.int .i64 s96.1))] rfl rfl rfl rfl (fun S hS hd => (.cons (hS _ _ rfl) (Sub.nil _))) (fun F_113 X l_114 => ?_))) ?_
                · skip
                  refine .move rfl rfl ?_
                  exact .fin1 (Fz.le_refl _)
                refine .cons (.pre rfl rfl (.mk 95 (.pointer (some ⟨b10, 0 + 13, none⟩)) [(3, (.pointer (some ⟨b10, 0, none⟩)))] rfl rfl rfl rfl (fun S hS hd => (.cons (hS _ _ rfl) (Sub.nil _))) (fun F_115 X l_116 => ?_))) ?_
                · skip
                  refine .fieldAddr rfl Try.underlying56 rfl Try.sizeOf47 rfl ?_
                  exact .fin1 (Fz.le_refl _)
                refine .cons (.pre rfl rfl (.mk 96 (.pointer (some ⟨b10, 0 + 13 + j100 * 1, none⟩)) [(94, (.int .i64 s96.1)), (95, (.pointer (some ⟨b10, 0 + 13, none⟩)))] rfl rfl rfl rfl (fun S hS hd => (.cons (hd.2.1 rfl rfl _ _ rfl) (.cons (hd.1 rfl rfl _ _ rfl) (Sub.nil _)))) (fun F_117 X l_118 => ?_))) ?_
                · skip
                  refine .indexAddrA rfl Try.underlying47 Try.sizeOf3 rfl rfl hj101 ?_
                  exact .fin1 (Fz.le_refl _)
                refine .cons (.pre rfl rfl (.mk 97 (.int .i64 (s96.2.Places j100)) [(96, (.pointer (some ⟨b10, 0 + 13 + j100 * 1, none⟩)))] rfl rfl rfl rfl (fun S hS hd => (.cons (hd.1 rfl rfl _ _ rfl) (Sub.nil _))) (fun F_119 X l_120 => ?_))) ?_
                · skip
                  refine .loadO rfl Try.isAgg3 rfl (i := 2) rfl (allLt8 (p := fun j100 => ((cApiBottling s96.2))[0 + 13 + j100 * 1]? = some (.int .i64 (s96.2.Places j100))) rfl rfl rfl rfl rfl rfl rfl rfl _ (idxO_some hj101).2.2.2) ?_
                  exact .fin1 (Fz.le_refl _)
                refine .cons (.pre rfl rfl (.mk 98 (.int .i64 s96.1) [(11, (.int .i64 s96.1))] rfl rfl rfl rfl (fun S hS hd => (.cons (hS _ _ rfl) (Sub.nil _))) (fun F_121 X l_122 => ?_))) ?_
                · skip
                  refine .move rfl rfl ?_
                  exact .fin1 (Fz.le_refl _)
                refine .cons (.pre rfl rfl (.mk 99 (.pointer (some ⟨b29, 0 + 0, none⟩)) [(9, (.pointer (some ⟨b29, 0, none⟩)))] rfl rfl rfl rfl (fun S hS hd => (.cons (hS _ _ rfl) (Sub.nil _))) (fun F_123 X l_124 => ?_))) ?_
                · skip
                  refine .fieldAddr rfl Try.underlying51 rfl Try.sizeOf49 rfl ?_
                  exact .fin1 (Fz.le_refl _)
                refine .cons (.pre rfl rfl (.mk 100 (.pointer (some ⟨b29, 0 + 0 + 16, none⟩)) [(99, (.pointer (some ⟨b29, 0 + 0, none⟩)))] rfl rfl rfl rfl (fun S hS hd => (.cons (hd.1 rfl rfl _ _ rfl) (Sub.nil _))) (fun F_125 X l_126 => ?_))) ?_
                · skip
                  refine .fieldAddr rfl Try.underlying49 rfl Try.sizeOf47 rfl ?_
                  exact .fin1 (Fz.le_refl _)
                refine .cons (.pre rfl rfl (.mk 101 (.pointer (some ⟨b29, 0 + 0 + 16 + j102 * 1, none⟩)) [(98, (.int .i64 s96.1)), (100, (.pointer (some ⟨b29, 0 + 0 + 16, none⟩)))] rfl rfl rfl rfl (fun S hS hd => (.cons (hd.2.1 rfl rfl _ _ rfl) (.cons (hd.1 rfl rfl _ _ rfl) (Sub.nil _)))) (fun F_127 X l_128 => ?_))) ?_
                · skip
                  refine .indexAddrA rfl Try.underlying47 Try.sizeOf3 rfl rfl hj103 ?_
                  exact .fin1 (Fz.le_refl _)
                refine .cons (.pre rfl rfl (.mk 102 (.int .i64 (x19.From.Places j102)) [(101, (.pointer (some ⟨b29, 0 + 0 + 16 + j102 * 1, none⟩)))] rfl rfl rfl rfl (fun S hS hd => (.cons (hd.1 rfl rfl _ _ rfl) (Sub.nil _))) (fun F_129 X l_130 => ?_))) ?_
                · skip
                  refine .loadO rfl Try.isAgg3 rfl (i := 0) rfl (allLt8 (p := fun j102 => ((cApiDraught x19))[0 + 0 + 16 + j102 * 1]? = some (.int .i64 (x19.From.Places j102))) rfl rfl rfl rfl rfl rfl rfl rfl _ (idxO_some hj103).2.2.2) ?_
                  exact .fin1 (Fz.le_refl _)
                refine .cons (.pre rfl rfl (.mk 103 (.int .i64 (imin (s96.2.Places j100) (x19.From.Places j102))) [(97, (.int .i64 (s96.2.Places j100))), (102, (.int .i64 (x19.From.Places j102)))] rfl rfl rfl rfl (fun S hS hd => (.cons (hd.1 rfl rfl _ _ rfl) (.cons (hd.2.1 rfl rfl _ _ rfl) (Sub.nil _)))) (fun F_131 X l_132 => ?_))) ?_
                · skip
                  refine .min2 rfl rfl rfl ?_
                  exact .fin1 (Fz.le_refl _)
                refine .cons (.pre rfl rfl (.mk 104 (.pointer (some ⟨b10, 0 + 13, none⟩)) [(3, (.pointer (some ⟨b10, 0, none⟩)))] rfl rfl rfl rfl (fun S hS hd => (.cons (hS _ _ rfl) (Sub.nil _))) (fun F_133 X l_134 => ?_))) ?_
                · skip
                  refine .fieldAddr rfl Try.underlying56 rfl Try.sizeOf47 rfl ?_
                  exact .fin1 (Fz.le_refl _)
                refine .cons (.pre rfl rfl (.mk 105 (.pointer (some ⟨b10, 0 + 13 + j104 * 1, none⟩)) [(93, (.int .i64 s96.1)), (104, (.pointer (some ⟨b10, 0 + 13, none⟩)))] rfl rfl rfl rfl (fun S hS hd => (.cons (hd.2.1 rfl rfl _ _ rfl) (.cons (hd.1 rfl rfl _ _ rfl) (Sub.nil _)))) (fun F_135 X l_136 => ?_))) ?_
                · skip
                  refine .indexAddrA rfl Try.underlying47 Try.sizeOf3 rfl rfl hj105 ?_
                  exact .fin1 (Fz.le_refl _)
                refine .cons (.store [(103, (.int .i64 (imin (s96.2.Places j100) (x19.From.Places j102)))), (105, (.pointer (some ⟨b10, 0 + 13 + j104 * 1, none⟩)))] rfl rfl (fun S hS hd => (.cons (hd.2.1 rfl rfl _ _ rfl) (.cons (hd.1 rfl rfl _ _ rfl) (Sub.nil _)))) (fun F_137 X l_138 => ?_)) ?_
                · skip
                  refine .store (cs' := (cApiBottling x106)) Try.sizeOf3 rfl rfl rfl rfl (i := 2) rfl (allLt8 (p := fun j104 => 0 + 13 + j104 * 1 + 1 ≤ 22) (by decide) (by decide) (by decide) (by decide) (by decide) (by decide) (by decide) (by decide) _ (idxO_some hj105).2.2.2) rfl (by rw [e107]; exact (allLt8 (p := fun j104 => setMany ((cApiBottling s96.2)) (0 + 13 + j104 * 1) [(.int .i64 (imin (s96.2.Places j100) (x19.From.Places j102)))] = (cApiBottling ({ s96.2 with Places := updN s96.2.Places j104 (imin (s96.2.Places j100) (x19.From.Places j102)) }))) rfl rfl rfl rfl rfl rfl rfl rfl _ (idxO_some hj105).2.2.2)) ?_
                  exact StPost.fin (Fz.le_refl _)
                exact .nil
              refine .nil ?_
              refine .block ?_
              refine .code ?_
              refine .region ?_
              refine .move rfl rfl ?_
              refine .add rfl rfl rfl ?_
              refine .assignL rfl rfl (fun k139 e140 => ?_)
              refine .nil ?_
              exact .nil (LPost.norm fun a w h => ⟨F_108, (Fz.le_trans l_98 l_110), h.1.sub (.cons (k := 1) rfl (.cons (k := 2) rfl (.cons (k := 3) rfl (.cons (k := 4) rfl (.cons (k := 5) rfl (.cons (k := 6) rfl (.cons (k := 7) rfl (.cons (k := 8) rfl (.cons (k := 9) rfl (.cons (k := 11) rfl (.nil _))))))))))), h.2⟩)
            · skip
              refine .exitOut rfl (LPost.exit fun a w h => ⟨rfl, F_97, l_98, h.1.sub (.cons (k := 1) rfl (.cons (k := 2) rfl (.cons (k := 3) rfl (.cons (k := 4) rfl (.cons (k := 5) rfl (.cons (k := 6) rfl (.cons (k := 7) rfl (.cons (k := 8) rfl (.cons (k := 9) rfl (.nil _)))))))))), h.2⟩)
          · intro b141 hb0 hk e a w hD
            obtain ⟨rfl, F_142, l_143, hA⟩ := hD
            refine interp_exit rfl (GE.app ?_ hk a w hA)
            refine .code ?_
            refine .seq ?_
            refine .region ?_
            refine .assign rfl rfl ?_
            refine .nil ?_
            refine .code ?_
            refine .seq ?_
            refine .seq ?_
            refine .region ?_
            refine .assign rfl rfl ?_
            refine .nil ?_
            refine .code ?_
            refine .block ?_
            refine .keep (.cons (k := 1) rfl (.cons (k := 2) rfl (.cons (k := 3) rfl (.cons (k := 4) rfl (.cons (k := 5) rfl (.cons (k := 6) rfl (.cons (k := 7) rfl (.cons (k := 8) rfl (.cons (k := 9) rfl (.cons (k := 12) rfl (.cons (k := 13) rfl (.nil _)))))))))))) ?_
            refine .loop (fun (s144 : Bool × Int) a w => ∃ (F_145 : Fz), F_142 ≤ F_145 ∧ Hd 169 [] [(1, (.pointer (some ⟨b5, 0, none⟩))), (2, (.pointer (some ⟨b9, 0, none⟩))), (3, (.pointer (some ⟨b10, 0, none⟩))), (4, (.int .i64 total30)), (5, (.int .i64 least32)), (6, (.int .i64 most34)), (7, (.slice p15 s12.2.2.2.1.length k16)), (8, (.int .i64 s12.2.2.2.2.1)), (9, (.pointer (some ⟨b29, 0, none⟩))), (12, (.bool s144.1)), (13, (.int .i64 s144.2))] F_145 [pt b29 (.cells (cApiDraught x19).toArray 51), ownSl 1 (Ex (cInt .i64)) F_13 3 p15 k16 s12.2.2.2.1, pt b10 (.cells (cApiBottling b141).toArray 56), pt b9 (.cells (cApiBottling (ApiBottling.mk (ApiSpan.mk 0 0) (ApiSpan.mk 0 0) 0 (fun _ => 0) (fun _ => 0) 0)).toArray 56), R] a w) (fun b210 e a w => e = .exit 6 ∧ ∃ (F_211 : Fz), F_142 ≤ F_211 ∧ Hd 169 [] [(1, (.pointer (some ⟨b5, 0, none⟩))), (2, (.pointer (some ⟨b9, 0, none⟩))), (3, (.pointer (some ⟨b10, 0, none⟩))), (4, (.int .i64 total30)), (5, (.int .i64 least32)), (6, (.int .i64 most34)), (7, (.slice p15 s12.2.2.2.1.length k16)), (8, (.int .i64 s12.2.2.2.2.1)), (9, (.pointer (some ⟨b29, 0, none⟩))), (12, (.bool b210))] F_211 [pt b29 (.cells (cApiDraught x19).toArray 51), ownSl 1 (Ex (cInt .i64)) F_13 3 p15 k16 s12.2.2.2.1, pt b10 (.cells (cApiBottling b141).toArray 56), pt b9 (.cells (cApiBottling (ApiBottling.mk (ApiSpan.mk 0 0) (ApiSpan.mk 0 0) 0 (fun _ => 0) (fun _ => 0) 0)).toArray 56), R] a w) ?_ ?_ ?_
            · exact fun a w h => ⟨F_142, (Fz.le_refl _), h.1.sub (.cons (k := 1) rfl (.cons (k := 2) rfl (.cons (k := 3) rfl (.cons (k := 4) rfl (.cons (k := 5) rfl (.cons (k := 6) rfl (.cons (k := 7) rfl (.cons (k := 8) rfl (.cons (k := 9) rfl (.cons (k := 12) rfl (.cons (k := 13) rfl (.nil _)))))))))))), h.2⟩
            · intro s144 ctl
              refine GC.ex (fun a w ⟨F_145, l_146, hA⟩ => ⟨_, hA, ?_⟩)
              unfold b_wormtubref12_blend_4
              refine .seq ?_
              refine .seq ?_
              refine .region ?_
              refine .move rfl rfl ?_
              refine .move rfl rfl ?_
              refine .lenS rfl rfl Try.underlying40 rfl ?_
              refine .lss rfl rfl rfl ?_
              refine .nil ?_
              refine .code ?_
              refine .cond rfl (fun hb147 => ?_) (fun hb147 => ?_)
              · skip
                refine .skip ?_
                refine .code ?_
                refine .seq ?_
                refine .block ?_
                refine .keep (.cons (k := 1) rfl (.cons (k := 2) rfl (.cons (k := 3) rfl (.cons (k := 4) rfl (.cons (k := 5) rfl (.cons (k := 6) rfl (.cons (k := 7) rfl (.cons (k := 8) rfl (.cons (k := 9) rfl (.cons (k := 12) rfl (.cons (k := 13) rfl (.nil _)))))))))))) ?_
                refine GC.join0 (σ := Bool) (fun j205 a w => ∃ (F_206 : Fz), F_145 ≤ F_206 ∧ Hd 169 [] [(1, (.pointer (some ⟨b5, 0, none⟩))), (2, (.pointer (some ⟨b9, 0, none⟩))), (3, (.pointer (some ⟨b10, 0, none⟩))), (4, (.int .i64 total30)), (5, (.int .i64 least32)), (6, (.int .i64 most34)), (7, (.slice p15 s12.2.2.2.1.length k16)), (8, (.int .i64 s12.2.2.2.2.1)), (9, (.pointer (some ⟨b29, 0, none⟩))), (12, (.bool j205)), (13, (.int .i64 s144.2))] F_206 [pt b29 (.cells (cApiDraught x19).toArray 51), ownSl 1 (Ex (cInt .i64)) F_13 3 p15 k16 s12.2.2.2.1, pt b10 (.cells (cApiBottling b141).toArray 56), pt b9 (.cells (cApiBottling (ApiBottling.mk (ApiSpan.mk 0 0) (ApiSpan.mk 0 0) 0 (fun _ => 0) (fun _ => 0) 0)).toArray 56), R] a w) (fun sj => ?_) (fun j205 hs0 => GE.ex (fun a w ⟨F_206, l_207, hA⟩ => ⟨_, hA, ?_⟩))
                · skip
                  refine .ite (fun hb148 => ?_) (fun hb148 => ?_)
                  · skip
                    refine .draw ⟨1000000, 0, [], 0⟩ [(112, (.bool s144.1)), (113, (.bool s144.1)), (114, undef), (115, undef), (116, undef), (117, undef), (118, undef), (119, undef), (120, undef), (121, undef), (122, (.bool true))] mixedOK (by kernel_rfl) (by kernel_rfl) rfl (by kernel_rfl) ?_ (fun F_149 b150 l_151 => ?_)
                    · skip
                      refine .cons (.mk 112 (.bool s144.1) [(12, (.bool s144.1))] rfl rfl rfl rfl (fun S hS hd => (.cons (hS _ _ rfl) (Sub.nil _))) (fun F_152 X l_153 => ?_)) ?_
                      · skip
                        refine .move rfl rfl ?_
                        exact .fin1 (Fz.le_refl _)
                      refine .cons (.mk 113 (.bool s144.1) [(112, (.bool s144.1))] rfl rfl rfl rfl (fun S hS hd => (.cons (hd.1 rfl rfl _ _ rfl) (Sub.nil _))) (fun F_154 X l_155 => ?_)) ?_
                      · skip
                        refine .move rfl rfl ?_
                        exact .fin1 (Fz.le_refl _)
                      refine .cons (.mk 114 undef [(7, (.slice p15 s12.2.2.2.1.length k16)), (113, (.bool s144.1))] rfl rfl rfl rfl (fun S hS hd => (.cons (hS _ _ rfl) (.cons (hd.1 rfl rfl _ _ rfl) (Sub.nil _)))) (fun F_156 X l_157 => ?_)) ?_
                      · skip
                        refine .offH hb148 rfl rfl rfl ?_
                        exact .fin1 (Fz.le_refl _)
                      refine .cons (.mk 115 undef [(13, (.int .i64 s144.2)), (113, (.bool s144.1))] rfl rfl rfl rfl (fun S hS hd => (.cons (hS _ _ rfl) (.cons (hd.1 rfl rfl _ _ rfl) (Sub.nil _)))) (fun F_158 X l_159 => ?_)) ?_
                      · skip
                        refine .offH hb148 rfl rfl rfl ?_
                        exact .fin1 (Fz.le_refl _)
                      refine .cons (.mk 116 undef [(113, (.bool s144.1)), (114, undef), (115, undef)] rfl rfl rfl rfl (fun S hS hd => (.cons (hd.2.2.1 rfl rfl _ _ rfl) (.cons (hd.1 rfl rfl _ _ rfl) (.cons (hd.2.1 rfl rfl _ _ rfl) (Sub.nil _))))) (fun F_160 X l_161 => ?_)) ?_
                      · skip
                        refine .offH hb148 rfl rfl rfl ?_
                        exact .fin1 (Fz.le_refl _)
                      refine .cons (.mk 117 undef [(113, (.bool s144.1)), (116, undef)] rfl rfl rfl rfl (fun S hS hd => (.cons (hd.2.1 rfl rfl _ _ rfl) (.cons (hd.1 rfl rfl _ _ rfl) (Sub.nil _)))) (fun F_162 X l_163 => ?_)) ?_
                      · skip
                        refine .offH hb148 rfl rfl rfl ?_
                        exact .fin1 (Fz.le_refl _)
                      refine .cons (.mk 118 undef [(9, (.pointer (some ⟨b29, 0, none⟩))), (113, (.bool s144.1))] rfl rfl rfl rfl (fun S hS hd => (.cons (hS _ _ rfl) (.cons (hd.1 rfl rfl _ _ rfl) (Sub.nil _)))) (fun F_164 X l_165 => ?_)) ?_
                      · skip
                        refine .offH hb148 rfl rfl rfl ?_
                        exact .fin1 (Fz.le_refl _)
                      refine .cons (.mk 119 undef [(113, (.bool s144.1)), (118, undef)] rfl rfl rfl rfl (fun S hS hd => (.cons (hd.2.1 rfl rfl _ _ rfl) (.cons (hd.1 rfl rfl _ _ rfl) (Sub.nil _)))) (fun F_166 X l_167 => ?_)) ?_
                      · skip
                        refine .offH hb148 rfl rfl rfl ?_
                        exact .fin1 (Fz.le_refl _)
                      refine .cons (.mk 120 undef [(113, (.bool s144.1)), (119, undef)] rfl rfl rfl rfl (fun S hS hd => (.cons (hd.2.1 rfl rfl _ _ rfl) (.cons (hd.1 rfl rfl _ _ rfl) (Sub.nil _)))) (fun F_168 X l_169 => ?_)) ?_
                      · skip
                        refine .offH hb148 rfl rfl rfl ?_
                        exact .fin1 (Fz.le_refl _)
                      refine .cons (.mk 121 undef [(113, (.bool s144.1)), (117, undef), (120, undef)] rfl rfl rfl rfl (fun S hS hd => (.cons (hd.2.2.1 rfl rfl _ _ rfl) (.cons (hd.1 rfl rfl _ _ rfl) (.cons (hd.2.1 rfl rfl _ _ rfl) (Sub.nil _))))) (fun F_170 X l_171 => ?_)) ?_
                      · skip
                        refine .offH hb148 rfl rfl rfl ?_
                        exact .fin1 (Fz.le_refl _)
                      refine .cons (.mk 122 (.bool true) [(113, (.bool s144.1)), (121, undef)] rfl rfl rfl rfl (fun S hS hd => (.cons (hd.1 rfl rfl _ _ rfl) (.cons (hd.2.1 rfl rfl _ _ rfl) (Sub.nil _)))) (fun F_172 X l_173 => ?_)) ?_
                      · skip
                        refine .pickTH hb148  rfl rfl rfl ?_
                        exact .fin1 (Fz.le_refl _)
                      exact .nil
                    refine .assign rfl rfl ?_
                    refine .nil ?_
                    exact .nil fun e a w h => by cases e; exact ⟨rfl, ⟨F_149, l_151, h.1.sub (.cons (k := 1) rfl (.cons (k := 2) rfl (.cons (k := 3) rfl (.cons (k := 4) rfl (.cons (k := 5) rfl (.cons (k := 6) rfl (.cons (k := 7) rfl (.cons (k := 8) rfl (.cons (k := 9) rfl (.cons (k := 12) rfl (.cons (k := 13) rfl (.nil _)))))))))))), h.2⟩⟩
                  · skip
                    refine .bind (fun x174 e175 => ?_)
                    refine .ownAddr 1 rfl e175 (fun b176 hp177 => ?_)
                    refine .draw ⟨1000000, 0, [], 0⟩ [(112, (.bool s144.1)), (113, (.bool s144.1)), (114, (.slice p15 s12.2.2.2.1.length k16)), (115, (.int .i64 s144.2)), (116, (.pointer (some ⟨b176, 0 + (s144.2).toNat * 1, none⟩))), (117, (.int .i64 x174)), (118, (.pointer (some ⟨b29, 0 + 0, none⟩))), (119, (.pointer (some ⟨b29, 0 + 0 + 0, none⟩))), (120, (.int .i64 x19.From.Number)), (121, (.bool (x174 == x19.From.Number))), (122, (.bool (x174 == x19.From.Number)))] mixedOK (by kernel_rfl) (by kernel_rfl) rfl (by kernel_rfl) ?_ (fun F_178 b179 l_180 => ?_)
                    · skip
                      refine .cons (.mk 112 (.bool s144.1) [(12, (.bool s144.1))] rfl rfl rfl rfl (fun S hS hd => (.cons (hS _ _ rfl) (Sub.nil _))) (fun F_181 X l_182 => ?_)) ?_
                      · skip
                        refine .move rfl rfl ?_
                        exact .fin1 (Fz.le_refl _)
                      refine .cons (.mk 113 (.bool s144.1) [(112, (.bool s144.1))] rfl rfl rfl rfl (fun S hS hd => (.cons (hd.1 rfl rfl _ _ rfl) (Sub.nil _))) (fun F_183 X l_184 => ?_)) ?_
                      · skip
                        refine .move rfl rfl ?_
                        exact .fin1 (Fz.le_refl _)
                      refine .cons (.mk 114 (.slice p15 s12.2.2.2.1.length k16) [(7, (.slice p15 s12.2.2.2.1.length k16)), (113, (.bool s144.1))] rfl rfl rfl rfl (fun S hS hd => (.cons (hS _ _ rfl) (.cons (hd.1 rfl rfl _ _ rfl) (Sub.nil _)))) (fun F_185 X l_186 => ?_)) ?_
                      · skip
                        refine .onH hb148 rfl rfl ?_
                        refine .move rfl rfl ?_
                        exact .fin1 (Fz.le_refl _)
                      refine .cons (.mk 115 (.int .i64 s144.2) [(13, (.int .i64 s144.2)), (113, (.bool s144.1))] rfl rfl rfl rfl (fun S hS hd => (.cons (hS _ _ rfl) (.cons (hd.1 rfl rfl _ _ rfl) (Sub.nil _)))) (fun F_187 X l_188 => ?_)) ?_
                      · skip
                        refine .onH hb148 rfl rfl ?_
                        refine .move rfl rfl ?_
                        exact .fin1 (Fz.le_refl _)
                      refine .cons (.mk 116 (.pointer (some ⟨b176, 0 + (s144.2).toNat * 1, none⟩)) [(113, (.bool s144.1)), (114, (.slice p15 s12.2.2.2.1.length k16)), (115, (.int .i64 s144.2))] rfl rfl rfl rfl (fun S hS hd => (.cons (hd.2.2.1 rfl rfl _ _ rfl) (.cons (hd.1 rfl rfl _ _ rfl) (.cons (hd.2.1 rfl rfl _ _ rfl) (Sub.nil _))))) (fun F_189 X l_190 => ?_)) ?_
                      · skip
                        refine .onH hb148 rfl rfl ?_
                        refine .idxOwn rfl Try.underlying40 Try.sizeOf3 hp177 e175 rfl rfl ?_
                        exact .fin1 (Fz.le_refl _)
                      refine .cons (.mk 117 (.int .i64 x174) [(113, (.bool s144.1)), (116, (.pointer (some ⟨b176, 0 + (s144.2).toNat * 1, none⟩)))] rfl rfl rfl rfl (fun S hS hd => (.cons (hd.2.1 rfl rfl _ _ rfl) (.cons (hd.1 rfl rfl _ _ rfl) (Sub.nil _)))) (fun F_191 X l_192 => ?_)) ?_
                      · skip
                        refine .onH hb148 rfl rfl ?_
                        refine .loadOwn (off := 0) (Φ := fun v => v = (.int .i64 x174)) 1 rfl (Fz.le_trans l_45 (Fz.le_trans l_95 (Fz.le_trans l_143 (Fz.le_trans l_146 l_192)))) rfl Try.isAgg3 hp177 e175 rfl rfl (fun vs h => ⟨_, by subst h; rfl, rfl⟩) (fun v hv => ?_)
                        subst hv
                        exact .fin1 (Fz.le_refl _)
                      refine .cons (.mk 118 (.pointer (some ⟨b29, 0 + 0, none⟩)) [(9, (.pointer (some ⟨b29, 0, none⟩))), (113, (.bool s144.1))] rfl rfl rfl rfl (fun S hS hd => (.cons (hS _ _ rfl) (.cons (hd.1 rfl rfl _ _ rfl) (Sub.nil _)))) (fun F_193 X l_194 => ?_)) ?_
                      · skip
                        refine .onH hb148 rfl rfl ?_
                        refine .fieldAddr rfl Try.underlying51 rfl Try.sizeOf49 rfl ?_
                        exact .fin1 (Fz.le_refl _)
                      refine .cons (.mk 119 (.pointer (some ⟨b29, 0 + 0 + 0, none⟩)) [(113, (.bool s144.1)), (118, (.pointer (some ⟨b29, 0 + 0, none⟩)))] rfl rfl rfl rfl (fun S hS hd => (.cons (hd.2.1 rfl rfl _ _ rfl) (.cons (hd.1 rfl rfl _ _ rfl) (Sub.nil _)))) (fun F_195 X l_196 => ?_)) ?_
                      · skip
                        refine .onH hb148 rfl rfl ?_
                        refine .fieldAddr rfl Try.underlying49 rfl Try.sizeOf3 rfl ?_
                        exact .fin1 (Fz.le_refl _)
                      refine .cons (.mk 120 (.int .i64 x19.From.Number) [(113, (.bool s144.1)), (119, (.pointer (some ⟨b29, 0 + 0 + 0, none⟩)))] rfl rfl rfl rfl (fun S hS hd => (.cons (hd.2.1 rfl rfl _ _ rfl) (.cons (hd.1 rfl rfl _ _ rfl) (Sub.nil _)))) (fun F_197 X l_198 => ?_)) ?_
                      · skip
                        refine .onH hb148 rfl rfl ?_
                        refine .loadO rfl Try.isAgg3 rfl (i := 0) rfl rfl ?_
                        exact .fin1 (Fz.le_refl _)
                      refine .cons (.mk 121 (.bool (x174 == x19.From.Number)) [(113, (.bool s144.1)), (117, (.int .i64 x174)), (120, (.int .i64 x19.From.Number))] rfl rfl rfl rfl (fun S hS hd => (.cons (hd.2.2.1 rfl rfl _ _ rfl) (.cons (hd.1 rfl rfl _ _ rfl) (.cons (hd.2.1 rfl rfl _ _ rfl) (Sub.nil _))))) (fun F_199 X l_200 => ?_)) ?_
                      · skip
                        refine .onH hb148 rfl rfl ?_
                        refine .eql rfl rfl rfl ?_
                        exact .fin1 (Fz.le_refl _)
                      refine .cons (.mk 122 (.bool (x174 == x19.From.Number)) [(113, (.bool s144.1)), (121, (.bool (x174 == x19.From.Number)))] rfl rfl rfl rfl (fun S hS hd => (.cons (hd.1 rfl rfl _ _ rfl) (.cons (hd.2.1 rfl rfl _ _ rfl) (Sub.nil _)))) (fun F_201 X l_202 => ?_)) ?_
                      · skip
                        refine .pickFH hb148  rfl rfl rfl ?_
                        exact .fin1 (Fz.le_refl _)
                      exact .nil
                    refine .assignB rfl rfl (fun there203 e204 => ?_)
                    refine .nil ?_
                    exact .nil fun e a w h => by cases e; exact ⟨rfl, ⟨F_178, l_180, h.1.sub (.cons (k := 1) rfl (.cons (k := 2) rfl (.cons (k := 3) rfl (.cons (k := 4) rfl (.cons (k := 5) rfl (.cons (k := 6) rfl (.cons (k := 7) rfl (.cons (k := 8) rfl (.cons (k := 9) rfl (.cons (k := 12) rfl (.cons (k := 13) rfl (.nil _)))))))))))), h.2⟩⟩
                refine .block ?_
                refine .code ?_
                refine .region ?_
                refine .move rfl rfl ?_
                refine .add rfl rfl rfl ?_
                refine .assignL rfl rfl (fun k208 e209 => ?_)
                refine .nil ?_
                exact .nil (LPost.norm fun a w h => ⟨F_206, (Fz.le_trans l_146 l_207), h.1.sub (.cons (k := 1) rfl (.cons (k := 2) rfl (.cons (k := 3) rfl (.cons (k := 4) rfl (.cons (k := 5) rfl (.cons (k := 6) rfl (.cons (k := 7) rfl (.cons (k := 8) rfl (.cons (k := 9) rfl (.cons (k := 12) rfl (.cons (k := 13) rfl (.nil _)))))))))))), h.2⟩)
              · skip
                refine .exitOut rfl (LPost.exit fun a w h => ⟨rfl, F_145, l_146, h.1.sub (.cons (k := 1) rfl (.cons (k := 2) rfl (.cons (k := 3) rfl (.cons (k := 4) rfl (.cons (k := 5) rfl (.cons (k := 6) rfl (.cons (k := 7) rfl (.cons (k := 8) rfl (.cons (k := 9) rfl (.cons (k := 12) rfl (.nil _))))))))))), h.2⟩)
            · intro b210 hb0 hk e a w hD
              obtain ⟨rfl, F_211, l_212, hA⟩ := hD
              refine interp_exit rfl (GE.app ?_ hk a w hA)
              refine .code ?_
              refine .seq ?_
              refine .region ?_
              refine .move rfl rfl ?_
              refine .not rfl rfl ?_
              refine .nil ?_
              refine .code ?_
              refine .keep (.cons (k := 1) rfl (.cons (k := 2) rfl (.cons (k := 3) rfl (.cons (k := 4) rfl (.cons (k := 5) rfl (.cons (k := 6) rfl (.cons (k := 7) rfl (.cons (k := 8) rfl (.cons (k := 9) rfl (.cons (k := 124) rfl (.nil _))))))))))) ?_
              refine GC.join0 (σ := (List Int)) (fun j223 a w => ∃ (F_224 : Fz) (p226 : Option Addr) (k227 : Nat), F_211 ≤ F_224 ∧ Hd 169 [] [(1, (.pointer (some ⟨b5, 0, none⟩))), (2, (.pointer (some ⟨b9, 0, none⟩))), (3, (.pointer (some ⟨b10, 0, none⟩))), (4, (.int .i64 total30)), (5, (.int .i64 least32)), (6, (.int .i64 most34)), (7, (.slice p226 j223.length k227)), (8, (.int .i64 s12.2.2.2.2.1))] F_224 [pt b29 (.cells (cApiDraught x19).toArray 51), ownSl 1 (Ex (cInt .i64)) F_224 3 p226 k227 j223, pt b10 (.cells (cApiBottling b141).toArray 56), pt b9 (.cells (cApiBottling (ApiBottling.mk (ApiSpan.mk 0 0) (ApiSpan.mk 0 0) 0 (fun _ => 0) (fun _ => 0) 0)).toArray 56), R] a w) (fun sj => ?_) (fun j223 hs0 => GE.ex (fun a w ⟨F_224, p226, k227, l_225, hA⟩ => ⟨_, hA, ?_⟩))
              · skip
                refine .cond rfl (fun hb213 => ?_) (fun hb213 => ?_)
                · skip
                  refine .region ?_
                  refine .move rfl rfl ?_
                  refine .fieldAddr rfl Try.underlying51 rfl Try.sizeOf49 rfl ?_
                  refine .fieldAddr rfl Try.underlying49 rfl Try.sizeOf3 rfl ?_
                  refine .loadO rfl Try.isAgg3 rfl (i := 0) rfl rfl ?_
                  refine .sliceLit (cs := [.int .i64 x19.From.Number]) (zc := [.int .i64 0]) rfl Try.underlying40 Try.sizeOf3 Try.zeroValue3 rfl rfl rfl (by kernel_rfl) (by kernel_rfl) (fun b214 F_215 l_216 hb217 => ?_)
                  have h218 : RepSl 1 (Ex (cInt .i64)) F_215 (some ⟨b214, 0, none⟩) 1 ([x19.From.Number]) := RepSl.ofRow hb217 (.cons ok_t3.mono rfl .nil) rfl rfl
                  refine .append 1 ok_t3 (Fz.le_trans l_45 (Fz.le_trans l_95 (Fz.le_trans l_143 (Fz.le_trans l_212 l_216)))) rfl Try.underlying40 Try.underlying40 rfl rfl rfl h218 rfl rfl (fun l_219 p220 k221 e222 => ?_)
                  refine .assign rfl rfl ?_
                  refine .nil ?_
                  exact .nil fun e a w h => by cases e; exact ⟨rfl, ⟨F_215, p220, k221, l_216, h.1.sub (.cons (k := 1) rfl (.cons (k := 2) rfl (.cons (k := 3) rfl (.cons (k := 4) rfl (.cons (k := 5) rfl (.cons (k := 6) rfl (.cons (k := 7) rfl (.cons (k := 8) rfl (.nil _))))))))), h.2⟩⟩
                · skip
                  refine .skip ?_
                  refine .ownUp 1 (Fz.le_trans l_45 (Fz.le_trans l_95 (Fz.le_trans l_143 l_212))) rfl ?_
                  exact .nil fun e a w h => by cases e; exact ⟨rfl, ⟨F_211, p15, k16, (Fz.le_refl _), h.1.sub (.cons (k := 1) rfl (.cons (k := 2) rfl (.cons (k := 3) rfl (.cons (k := 4) rfl (.cons (k := 5) rfl (.cons (k := 6) rfl (.cons (k := 7) rfl (.cons (k := 8) rfl (.nil _))))))))), h.2⟩⟩
              refine .block ?_
              refine .drop 0 ?_
              exact .nil fun e a w h => by cases e; exact ⟨rfl, ⟨F_224, p226, k227, (Fz.le_trans l_45 (Fz.le_trans l_95 (Fz.le_trans l_143 (Fz.le_trans l_212 l_225)))), h.1.sub (.cons (k := 1) rfl (.cons (k := 2) rfl (.cons (k := 3) rfl (.cons (k := 4) rfl (.cons (k := 5) rfl (.cons (k := 6) rfl (.cons (k := 7) rfl (.cons (k := 8) rfl (.nil _))))))))), h.2⟩⟩
      refine .code ?_
      refine .region ?_
      refine .move rfl rfl ?_
      refine .add rfl rfl rfl ?_
      refine .assignL rfl rfl (fun i235 e236 => ?_)
      refine .nil ?_
      exact .nil (LPost.norm fun a w h => ⟨F_230, p232, k233, (Fz.le_trans l_14 l_231), h.1.sub (.cons (k := 1) rfl (.cons (k := 2) rfl (.cons (k := 3) rfl (.cons (k := 4) rfl (.cons (k := 5) rfl (.cons (k := 6) rfl (.cons (k := 7) rfl (.cons (k := 8) rfl (.nil _))))))))), h.2⟩)
    · skip
      refine .exitOut rfl (LPost.exit fun a w h => ⟨rfl, F_13, p15, k16, l_14, h.1.sub (.cons (k := 1) rfl (.cons (k := 2) rfl (.cons (k := 3) rfl (.cons (k := 4) rfl (.cons (k := 5) rfl (.cons (k := 6) rfl (.cons (k := 7) rfl (.nil _)))))))), h.2⟩)
  · intro b237 hb0 hk e a w hD
    obtain ⟨rfl, F_238, p240, k241, l_239, hA⟩ := hD
    refine interp_exit rfl (GE.app ?_ hk a w hA)
    refine .code ?_
    refine .seq ?_
    refine .keep (.cons (k := 1) rfl (.cons (k := 2) rfl (.cons (k := 3) rfl (.cons (k := 4) rfl (.cons (k := 5) rfl (.cons (k := 6) rfl (.cons (k := 7) rfl (.nil _)))))))) ?_
    refine .draw ⟨1000000, 0, [], 0⟩ [(131, (.pointer (some ⟨b5, 0 + 2, none⟩))), (132, (.pointer (some ⟨b5, 0 + 2 + 1, none⟩))), (133, (.int .i64 b1.Shrink.Hi)), (134, (.int .i64 (w64 (10000 - b1.Shrink.Hi)))), (135, (.pointer (some ⟨b5, 0 + 2, none⟩))), (136, (.pointer (some ⟨b5, 0 + 2 + 0, none⟩))), (137, (.int .i64 b1.Shrink.Lo)), (138, (.int .i64 (w64 (10000 - b1.Shrink.Lo)))), (14, (.int .i64 (w64 (10000 - b1.Shrink.Hi))))] mixedOK (by kernel_rfl) (by kernel_rfl) rfl (by kernel_rfl) ?_ (fun F_243 b244 l_245 => ?_)
    · skip
      refine .cons (.mk 131 (.pointer (some ⟨b5, 0 + 2, none⟩)) [(1, (.pointer (some ⟨b5, 0, none⟩)))] rfl rfl rfl rfl (fun S hS hd => (.cons (hS _ _ rfl) (Sub.nil _))) (fun F_246 X l_247 => ?_)) ?_
      · skip
        refine .fieldAddr rfl Try.underlying38 rfl Try.sizeOf36 rfl ?_
        exact .fin1 (Fz.le_refl _)
      refine .cons (.mk 132 (.pointer (some ⟨b5, 0 + 2 + 1, none⟩)) [(131, (.pointer (some ⟨b5, 0 + 2, none⟩)))] rfl rfl rfl rfl (fun S hS hd => (.cons (hd.1 rfl rfl _ _ rfl) (Sub.nil _))) (fun F_248 X l_249 => ?_)) ?_
      · skip
        refine .fieldAddr rfl Try.underlying36 rfl Try.sizeOf3 rfl ?_
        exact .fin1 (Fz.le_refl _)
      refine .cons (.mk 133 (.int .i64 b1.Shrink.Hi) [(132, (.pointer (some ⟨b5, 0 + 2 + 1, none⟩)))] rfl rfl rfl rfl (fun S hS hd => (.cons (hd.1 rfl rfl _ _ rfl) (Sub.nil _))) (fun F_250 X l_251 => ?_)) ?_
      · skip
        refine .loadF rfl Try.isAgg3 rfl ((Fz.le_trans l_239 l_251).mem _ _ hb8) rfl ?_
        exact .fin1 (Fz.le_refl _)
      refine .cons (.mk 134 (.int .i64 (w64 (10000 - b1.Shrink.Hi))) [(133, (.int .i64 b1.Shrink.Hi))] rfl rfl rfl rfl (fun S hS hd => (.cons (hd.1 rfl rfl _ _ rfl) (Sub.nil _))) (fun F_252 X l_253 => ?_)) ?_
      · skip
        refine .sub rfl rfl rfl ?_
        exact .fin1 (Fz.le_refl _)
      refine .cons (.mk 135 (.pointer (some ⟨b5, 0 + 2, none⟩)) [(1, (.pointer (some ⟨b5, 0, none⟩)))] rfl rfl rfl rfl (fun S hS hd => (.cons (hS _ _ rfl) (Sub.nil _))) (fun F_254 X l_255 => ?_)) ?_
      · skip
        refine .fieldAddr rfl Try.underlying38 rfl Try.sizeOf36 rfl ?_
        exact .fin1 (Fz.le_refl _)
      refine .cons (.mk 136 (.pointer (some ⟨b5, 0 + 2 + 0, none⟩)) [(135, (.pointer (some ⟨b5, 0 + 2, none⟩)))] rfl rfl rfl rfl (fun S hS hd => (.cons (hd.1 rfl rfl _ _ rfl) (Sub.nil _))) (fun F_256 X l_257 => ?_)) ?_
      · skip
        refine .fieldAddr rfl Try.underlying36 rfl Try.sizeOf3 rfl ?_
        exact .fin1 (Fz.le_refl _)
      refine .cons (.mk 137 (.int .i64 b1.Shrink.Lo) [(136, (.pointer (some ⟨b5, 0 + 2 + 0, none⟩)))] rfl rfl rfl rfl (fun S hS hd => (.cons (hd.1 rfl rfl _ _ rfl) (Sub.nil _))) (fun F_258 X l_259 => ?_)) ?_
      · skip
        refine .loadF rfl Try.isAgg3 rfl ((Fz.le_trans l_239 l_259).mem _ _ hb8) rfl ?_
        exact .fin1 (Fz.le_refl _)
      refine .cons (.mk 138 (.int .i64 (w64 (10000 - b1.Shrink.Lo))) [(137, (.int .i64 b1.Shrink.Lo))] rfl rfl rfl rfl (fun S hS hd => (.cons (hd.1 rfl rfl _ _ rfl) (Sub.nil _))) (fun F_260 X l_261 => ?_)) ?_
      · skip
        refine .sub rfl rfl rfl ?_
        exact .fin1 (Fz.le_refl _)
      refine .cons (.mk 14 (.int .i64 (w64 (10000 - b1.Shrink.Hi))) [(134, (.int .i64 (w64 (10000 - b1.Shrink.Hi))))] rfl rfl rfl rfl (fun S hS hd => (.cons (hd.1 rfl rfl _ _ rfl) (Sub.nil _))) (fun F_262 X l_263 => ?_)) ?_
      · skip
        refine .assign rfl rfl ?_
        exact .fin1 (Fz.le_refl _)
      exact .nil
    refine .assignL rfl rfl (fun great264 e265 => ?_)
    refine .nil ?_
    refine .code ?_
    refine .seq ?_
    refine .region ?_
    refine .move rfl rfl ?_
    refine .move rfl rfl ?_
    refine .mul rfl rfl rfl ?_
    refine .quoC rfl (by decide) rfl rfl ?_
    refine .move rfl rfl ?_
    refine .move rfl rfl ?_
    refine .mul rfl rfl rfl ?_
    refine .call0 rfl Try.call88 rfl rfl rfl (c_wormtubref12_up _ (w64 (b237.1 * great264)) 10000) ?_
    rintro r_268 F_266 _ - l_267 rfl
    refine .build (cs := (cApiSpan (ApiSpan.mk (w64 (Int.tdiv (w64 (b237.1 * (w64 (10000 - b1.Shrink.Hi)))) 10000)) r_268)).toArray) rfl Try.underlying36 Try.zeroValue36 (plApiSpan _ Try.underlying36) rfl rfl (by kernel_rfl) ?_
    refine .fieldAddr rfl Try.underlying56 rfl Try.sizeOf36 rfl ?_
    refine .letv (fun x269 e270 => ?_)
    refine .store (cs' := (cApiBottling x269)) Try.sizeOf36 rfl rfl rfl rfl (i := 1) rfl (Nat.le_of_ble_eq_true rfl) rfl (by rw [e270]; kernel_rfl) ?_
    refine .nil ?_
    refine .keep (.cons (k := 2) rfl (.cons (k := 3) rfl (.cons (k := 4) rfl (.cons (k := 5) rfl (.cons (k := 6) rfl (.cons (k := 7) rfl (.cons (k := 14) rfl (.cons (k := 15) rfl (.nil _))))))))) ?_
    refine .code ?_
    refine .seq ?_
    refine .keep (.cons (k := 2) rfl (.cons (k := 3) rfl (.cons (k := 4) rfl (.cons (k := 5) rfl (.cons (k := 6) rfl (.cons (k := 7) rfl (.cons (k := 14) rfl (.cons (k := 15) rfl (.nil _))))))))) ?_
    refine .bind (fun q271 hx273 => ?_)
    refine .bind (fun r_276 hx277 => ?_)
    refine .draw ⟨1000000, 0, [], 0⟩ [(149, (.int .i64 b237.2.1)), (150, (.int .i64 (w64 (b237.2.1 * 10000)))), (151, (.int .i64 b237.1)), (152, (.int .i64 great264)), (153, (.int .i64 (w64 (b237.1 * great264)))), (154, (.int .i64 q271)), (155, (.int .i64 (imin 10000 q271))), (156, (.int .i64 b237.2.2.1)), (157, (.int .i64 (w64 (b237.2.2.1 * 10000)))), (158, (.int .i64 b237.1)), (159, (.int .i64 (w64 (10000 - b1.Shrink.Hi)))), (160, (.int .i64 (w64 (b237.1 * (w64 (10000 - b1.Shrink.Hi)))))), (161, (.int .i64 r_276)), (162, (.int .i64 (imin 10000 r_276))), (163, (eApiSpan (ApiSpan.mk (imin 10000 q271) (imin 10000 r_276))))] mixedOK (by kernel_rfl) (by kernel_rfl) rfl (by kernel_rfl) ?_ (fun F_278 b279 l_280 => ?_)
    · skip
      refine .cons (.mk 149 (.int .i64 b237.2.1) [(5, (.int .i64 b237.2.1))] rfl rfl rfl rfl (fun S hS hd => (.cons (hS _ _ rfl) (Sub.nil _))) (fun F_281 X l_282 => ?_)) ?_
      · skip
        refine .move rfl rfl ?_
        exact .fin1 (Fz.le_refl _)
      refine .cons (.mk 150 (.int .i64 (w64 (b237.2.1 * 10000))) [(149, (.int .i64 b237.2.1))] rfl rfl rfl rfl (fun S hS hd => (.cons (hd.1 rfl rfl _ _ rfl) (Sub.nil _))) (fun F_283 X l_284 => ?_)) ?_
      · skip
        refine .mul rfl rfl rfl ?_
        exact .fin1 (Fz.le_refl _)
      refine .cons (.mk 151 (.int .i64 b237.1) [(4, (.int .i64 b237.1))] rfl rfl rfl rfl (fun S hS hd => (.cons (hS _ _ rfl) (Sub.nil _))) (fun F_285 X l_286 => ?_)) ?_
      · skip
        refine .move rfl rfl ?_
        exact .fin1 (Fz.le_refl _)
      refine .cons (.mk 152 (.int .i64 great264) [(15, (.int .i64 great264))] rfl rfl rfl rfl (fun S hS hd => (.cons (hS _ _ rfl) (Sub.nil _))) (fun F_287 X l_288 => ?_)) ?_
      · skip
        refine .move rfl rfl ?_
        exact .fin1 (Fz.le_refl _)
      refine .cons (.mk 153 (.int .i64 (w64 (b237.1 * great264))) [(151, (.int .i64 b237.1)), (152, (.int .i64 great264))] rfl rfl rfl rfl (fun S hS hd => (.cons (hd.1 rfl rfl _ _ rfl) (.cons (hd.2.1 rfl rfl _ _ rfl) (Sub.nil _)))) (fun F_289 X l_290 => ?_)) ?_
      · skip
        refine .mul rfl rfl rfl ?_
        exact .fin1 (Fz.le_refl _)
      refine .cons (.mk 154 (.int .i64 q271) [(150, (.int .i64 (w64 (b237.2.1 * 10000)))), (153, (.int .i64 (w64 (b237.1 * great264))))] rfl rfl rfl rfl (fun S hS hd => (.cons (hd.1 rfl rfl _ _ rfl) (.cons (hd.2.1 rfl rfl _ _ rfl) (Sub.nil _)))) (fun F_291 X l_292 => ?_)) ?_
      · skip
        refine .quoK hx273 rfl rfl rfl ?_
        exact .fin1 (Fz.le_refl _)
      refine .cons (.mk 155 (.int .i64 (imin 10000 q271)) [(154, (.int .i64 q271))] rfl rfl rfl rfl (fun S hS hd => (.cons (hd.1 rfl rfl _ _ rfl) (Sub.nil _))) (fun F_293 X l_294 => ?_)) ?_
      · skip
        refine .min2 rfl rfl rfl ?_
        exact .fin1 (Fz.le_refl _)
      refine .cons (.mk 156 (.int .i64 b237.2.2.1) [(6, (.int .i64 b237.2.2.1))] rfl rfl rfl rfl (fun S hS hd => (.cons (hS _ _ rfl) (Sub.nil _))) (fun F_295 X l_296 => ?_)) ?_
      · skip
        refine .move rfl rfl ?_
        exact .fin1 (Fz.le_refl _)
      refine .cons (.mk 157 (.int .i64 (w64 (b237.2.2.1 * 10000))) [(156, (.int .i64 b237.2.2.1))] rfl rfl rfl rfl (fun S hS hd => (.cons (hd.1 rfl rfl _ _ rfl) (Sub.nil _))) (fun F_297 X l_298 => ?_)) ?_
      · skip
        refine .mul rfl rfl rfl ?_
        exact .fin1 (Fz.le_refl _)
      refine .cons (.mk 158 (.int .i64 b237.1) [(4, (.int .i64 b237.1))] rfl rfl rfl rfl (fun S hS hd => (.cons (hS _ _ rfl) (Sub.nil _))) (fun F_299 X l_300 => ?_)) ?_
      · skip
        refine .move rfl rfl ?_
        exact .fin1 (Fz.le_refl _)
      refine .cons (.mk 159 (.int .i64 (w64 (10000 - b1.Shrink.Hi))) [(14, (.int .i64 (w64 (10000 - b1.Shrink.Hi))))] rfl rfl rfl rfl (fun S hS hd => (.cons (hS _ _ rfl) (Sub.nil _))) (fun F_301 X l_302 => ?_)) ?_
      · skip
        refine .move rfl rfl ?_
        exact .fin1 (Fz.le_refl _)
      refine .cons (.mk 160 (.int .i64 (w64 (b237.1 * (w64 (10000 - b1.Shrink.Hi))))) [(158, (.int .i64 b237.1)), (159, (.int .i64 (w64 (10000 - b1.Shrink.Hi))))] rfl rfl rfl rfl (fun S hS hd => (.cons (hd.1 rfl rfl _ _ rfl) (.cons (hd.2.1 rfl rfl _ _ rfl) (Sub.nil _)))) (fun F_303 X l_304 => ?_)) ?_
      · skip
        refine .mul rfl rfl rfl ?_
        exact .fin1 (Fz.le_refl _)
      refine .cons (.mk 161 (.int .i64 r_276) [(157, (.int .i64 (w64 (b237.2.2.1 * 10000)))), (160, (.int .i64 (w64 (b237.1 * (w64 (10000 - b1.Shrink.Hi))))))] rfl rfl rfl rfl (fun S hS hd => (.cons (hd.1 rfl rfl _ _ rfl) (.cons (hd.2.1 rfl rfl _ _ rfl) (Sub.nil _)))) (fun F_305 X l_306 => ?_)) ?_
      · skip
        refine .callK hx277 rfl Try.call88 rfl rfl rfl (c_wormtubref12_up _ (w64 (b237.2.2.1 * 10000)) (w64 (b237.1 * (w64 (10000 - b1.Shrink.Hi))))) ?_
        rintro F_307 _ l_308 rfl
        exact .fin1 l_308
      refine .cons (.mk 162 (.int .i64 (imin 10000 r_276)) [(161, (.int .i64 r_276))] rfl rfl rfl rfl (fun S hS hd => (.cons (hd.1 rfl rfl _ _ rfl) (Sub.nil _))) (fun F_309 X l_310 => ?_)) ?_
      · skip
        refine .min2 rfl rfl rfl ?_
        exact .fin1 (Fz.le_refl _)
      refine .cons (.mk 163 (eApiSpan (ApiSpan.mk (imin 10000 q271) (imin 10000 r_276))) [(155, (.int .i64 (imin 10000 q271))), (162, (.int .i64 (imin 10000 r_276)))] rfl rfl rfl rfl (fun S hS hd => (.cons (hd.1 rfl rfl _ _ rfl) (.cons (hd.2.1 rfl rfl _ _ rfl) (Sub.nil _)))) (fun F_311 X l_312 => ?_)) ?_
      · skip
        refine .build (cs := (cApiSpan (ApiSpan.mk (imin 10000 q271) (imin 10000 r_276))).toArray) rfl Try.underlying36 Try.zeroValue36 (plApiSpan _ Try.underlying36) rfl rfl (by kernel_rfl) ?_
        exact .fin1 (Fz.le_refl _)
      exact .nil
    refine .fieldAddr rfl Try.underlying56 rfl Try.sizeOf36 rfl ?_
    refine .letv (fun x313 e314 => ?_)
    refine .store (cs' := (cApiBottling x313)) Try.sizeOf36 rfl rfl rfl rfl (i := 1) rfl (Nat.le_of_ble_eq_true rfl) rfl (by rw [e314]; kernel_rfl) ?_
    refine .nil ?_
    refine .code ?_
    refine .seq ?_
    refine .region ?_
    refine .move rfl rfl ?_
    refine .lenS rfl rfl Try.underlying40 rfl ?_
    refine .fieldAddr rfl Try.underlying56 rfl Try.sizeOf3 rfl ?_
    refine .letv (fun x315 e316 => ?_)
    refine .store (cs' := (cApiBottling x315)) Try.sizeOf3 rfl rfl rfl rfl (i := 1) rfl (Nat.le_of_ble_eq_true rfl) rfl (by rw [e316]; kernel_rfl) ?_
    refine .nil ?_
    refine .keep (.cons (k := 2) rfl (.cons (k := 3) rfl (.nil _))) ?_
    refine .code ?_
    refine .seq ?_
    refine .region ?_
    refine .loadOA rfl Try.isAgg56 Try.sizeOf56 rfl (i := 1) rfl (vs := (cApiBottling x315)) (by kernel_rfl) rfl ?_
    refine .store (cs' := (cApiBottling x315)) Try.sizeOf56 rfl rfl rfl rfl (i := 2) rfl (Nat.le_of_ble_eq_true rfl) rfl (setMany_all (by rfl)) ?_
    refine .nil ?_
    refine .code ?_
    exact .ret0 Try.results58 (.agg rfl Try.isAgg56 Try.sizeOf56 (i := 2) rfl (vs' := (cApiBottling x315)) (by kernel_rfl) rfl (.nil)) (i := 3) rfl (Fz.le_trans l_7 (Fz.le_trans l_239 (Fz.le_trans l_245 (Fz.le_trans l_267 l_280)))) rfl

noncomputable def m_wormtubref12_True (b1 : ApiBatch) (c5 : ApiClaim) : Option Bool :=
  (m_wormtubref12_blend b1).bind fun r_16 => if (c5.Kind == 0) then (some (decide (r_16.Age ≥ c5.Number))) else (if (c5.Kind == 1) then ((idxO 8 c5.What).bind fun j20 => some (decide ((r_16.Woods j20) ≥ c5.Number))) else (if (c5.Kind == 2) then ((idxO 8 c5.What).bind fun j42 => some (decide ((r_16.Places j42) ≥ c5.Number))) else (if (c5.Kind == 3) then (some (r_16.Casks == 1)) else (if (c5.Kind == 4) then (some (b1.Water == 0)) else (if (c5.Kind == 5) then (some (!b1.Filtered)) else (if (c5.Kind == 6) then (some (!b1.Coloured)) else (some ((decide (r_16.Strength.Lo ≥ (w64 (c5.What - c5.Number)))) && (decide (r_16.Strength.Hi ≤ (w64 (c5.What + c5.Number))))))))))))
theorem c_wormtubref12_True (F0 : Fz) (b1 : ApiBatch) (p2 : Option Addr) (k3 : Nat) (h4 : RepSl 27 (Ex cApiDraught) F0 p2 k3 b1.Draughts) (c5 : ApiClaim) : CT0 Try.prog 61 [(eApiBatch b1 p2 k3), (eApiClaim c5)].toArray F0 (m_wormtubref12_True b1 c5) (fun r _ v => v = (.bool r)) := by
  refine CT0.enter Try.func61 rfl Try.ntmps61 rfl fun r R => ?_
  unfold m_wormtubref12_True
  refine .seq ?_
  refine .region ?_
  refine .boxF (cs := (cApiBatch b1 p2 k3)) rfl rfl rfl (fun b6 F_7 l_8 hb9 => ?_)
  refine .boxF (cs := (cApiClaim c5)) rfl rfl rfl (fun b10 F_11 l_12 hb13 => ?_)
  refine .assign rfl rfl ?_
  refine .nil ?_
  refine .code ?_
  refine .seq ?_
  refine .region ?_
  refine .loadFA rfl Try.isAgg38 Try.sizeOf38 rfl (l_12.mem _ _ hb9) (vs := (cApiBatch b1 p2 k3)) (by kernel_rfl) rfl ?_
  refine .call0 rfl Try.call58 rfl rfl rfl (c_wormtubref12_blend _ b1 p2 k3 (h4.mono (Fz.le_trans l_8 l_12))) ?_
  rintro r_16 F_14 _ - l_15 rfl
  refine .alloc (cs := (cApiBottling (ApiBottling.mk (ApiSpan.mk 0 0) (ApiSpan.mk 0 0) 0 (fun _ => 0) (fun _ => 0) 0))) rfl Try.zeroValue56 rfl (fun b17 => ?_)
  refine .store (cs' := (cApiBottling r_16)) Try.sizeOf56 rfl rfl rfl rfl (i := 0) rfl (Nat.le_of_ble_eq_true rfl) rfl (setMany_all (by rfl)) ?_
  refine .nil ?_
  refine .code ?_
  refine .seq ?_
  refine .seq ?_
  refine .region ?_
  refine .fieldAddr rfl Try.underlying46 rfl Try.sizeOf3 rfl ?_
  refine .loadF rfl Try.isAgg3 rfl (l_15.mem _ _ hb13) rfl ?_
  refine .nil ?_
  refine .code ?_
  refine .block ?_
  refine .seq ?_
  refine .region ?_
  refine .eql rfl rfl rfl ?_
  refine .assign rfl rfl ?_
  refine .nil ?_
  refine .code ?_
  refine .cond rfl (fun hb18 => ?_) (fun hb18 => ?_)
  · skip
    refine .seq ?_
    refine .region ?_
    refine .fieldAddr rfl Try.underlying56 rfl Try.sizeOf3 rfl ?_
    refine .loadO rfl Try.isAgg3 rfl (i := 0) rfl rfl ?_
    refine .fieldAddr rfl Try.underlying46 rfl Try.sizeOf3 rfl ?_
    refine .loadF rfl Try.isAgg3 rfl (l_15.mem _ _ hb13) rfl ?_
    refine .geq rfl rfl rfl ?_
    refine .assign rfl rfl ?_
    refine .nil ?_
    refine .code ?_
    exact .ret0 Try.results61 (.tmp rfl (.nil)) (i := 1) rfl (Fz.le_trans l_8 (Fz.le_trans l_12 l_15)) rfl
  · skip
    refine .seq ?_
    refine .region ?_
    refine .eql rfl rfl rfl ?_
    refine .assign rfl rfl ?_
    refine .nil ?_
    refine .code ?_
    refine .cond rfl (fun hb19 => ?_) (fun hb19 => ?_)
    · skip
      refine .seq ?_
      refine .keep (.cons (k := 3) rfl (.cons (k := 5) rfl (.nil _))) ?_
      refine .bind (fun j20 hj21 => ?_)
      refine .draw ⟨1000000, 0, [], 0⟩ [(19, (.pointer (some ⟨b10, 0 + 1, none⟩))), (20, (.int .i64 c5.What)), (21, (.pointer (some ⟨b17, 0 + 5, none⟩))), (22, (.pointer (some ⟨b17, 0 + 5 + j20 * 1, none⟩))), (23, (.int .i64 (r_16.Woods j20))), (24, (.pointer (some ⟨b10, 0 + 2, none⟩))), (25, (.int .i64 c5.Number)), (26, (.bool (decide ((r_16.Woods j20) ≥ c5.Number))))] mixedOK (by kernel_rfl) (by kernel_rfl) rfl (by kernel_rfl) ?_ (fun F_22 b23 l_24 => ?_)
      · skip
        refine .cons (.mk 19 (.pointer (some ⟨b10, 0 + 1, none⟩)) [(3, (.pointer (some ⟨b10, 0, none⟩)))] rfl rfl rfl rfl (fun S hS hd => (.cons (hS _ _ rfl) (Sub.nil _))) (fun F_25 X l_26 => ?_)) ?_
        · skip
          refine .fieldAddr rfl Try.underlying46 rfl Try.sizeOf3 rfl ?_
          exact .fin1 (Fz.le_refl _)
        refine .cons (.mk 20 (.int .i64 c5.What) [(19, (.pointer (some ⟨b10, 0 + 1, none⟩)))] rfl rfl rfl rfl (fun S hS hd => (.cons (hd.1 rfl rfl _ _ rfl) (Sub.nil _))) (fun F_27 X l_28 => ?_)) ?_
        · skip
          refine .loadF rfl Try.isAgg3 rfl ((Fz.le_trans l_15 l_28).mem _ _ hb13) rfl ?_
          exact .fin1 (Fz.le_refl _)
        refine .cons (.mk 21 (.pointer (some ⟨b17, 0 + 5, none⟩)) [(5, (.pointer (some ⟨b17, 0, none⟩)))] rfl rfl rfl rfl (fun S hS hd => (.cons (hS _ _ rfl) (Sub.nil _))) (fun F_29 X l_30 => ?_)) ?_
        · skip
          refine .fieldAddr rfl Try.underlying56 rfl Try.sizeOf47 rfl ?_
          exact .fin1 (Fz.le_refl _)
        refine .cons (.mk 22 (.pointer (some ⟨b17, 0 + 5 + j20 * 1, none⟩)) [(20, (.int .i64 c5.What)), (21, (.pointer (some ⟨b17, 0 + 5, none⟩)))] rfl rfl rfl rfl (fun S hS hd => (.cons (hd.2.1 rfl rfl _ _ rfl) (.cons (hd.1 rfl rfl _ _ rfl) (Sub.nil _)))) (fun F_31 X l_32 => ?_)) ?_
        · skip
          refine .indexAddrA rfl Try.underlying47 Try.sizeOf3 rfl rfl hj21 ?_
          exact .fin1 (Fz.le_refl _)
        refine .cons (.mk 23 (.int .i64 (r_16.Woods j20)) [(22, (.pointer (some ⟨b17, 0 + 5 + j20 * 1, none⟩)))] rfl rfl rfl rfl (fun S hS hd => (.cons (hd.1 rfl rfl _ _ rfl) (Sub.nil _))) (fun F_33 X l_34 => ?_)) ?_
        · skip
          refine .loadO rfl Try.isAgg3 rfl (i := 0) rfl (allLt8 (p := fun j20 => ((cApiBottling r_16))[0 + 5 + j20 * 1]? = some (.int .i64 (r_16.Woods j20))) rfl rfl rfl rfl rfl rfl rfl rfl _ (idxO_some hj21).2.2.2) ?_
          exact .fin1 (Fz.le_refl _)
        refine .cons (.mk 24 (.pointer (some ⟨b10, 0 + 2, none⟩)) [(3, (.pointer (some ⟨b10, 0, none⟩)))] rfl rfl rfl rfl (fun S hS hd => (.cons (hS _ _ rfl) (Sub.nil _))) (fun F_35 X l_36 => ?_)) ?_
        · skip
          refine .fieldAddr rfl Try.underlying46 rfl Try.sizeOf3 rfl ?_
          exact .fin1 (Fz.le_refl _)
        refine .cons (.mk 25 (.int .i64 c5.Number) [(24, (.pointer (some ⟨b10, 0 + 2, none⟩)))] rfl rfl rfl rfl (fun S hS hd => (.cons (hd.1 rfl rfl _ _ rfl) (Sub.nil _))) (fun F_37 X l_38 => ?_)) ?_
        · skip
          refine .loadF rfl Try.isAgg3 rfl ((Fz.le_trans l_15 l_38).mem _ _ hb13) rfl ?_
          exact .fin1 (Fz.le_refl _)
        refine .cons (.mk 26 (.bool (decide ((r_16.Woods j20) ≥ c5.Number))) [(23, (.int .i64 (r_16.Woods j20))), (25, (.int .i64 c5.Number))] rfl rfl rfl rfl (fun S hS hd => (.cons (hd.1 rfl rfl _ _ rfl) (.cons (hd.2.1 rfl rfl _ _ rfl) (Sub.nil _)))) (fun F_39 X l_40 => ?_)) ?_
        · skip
          refine .geq rfl rfl rfl ?_
          exact .fin1 (Fz.le_refl _)
        exact .nil
      refine .assign rfl rfl ?_
      refine .nil ?_
      refine .code ?_
      exact .ret0 Try.results61 (.tmp rfl (.nil)) (i := 1) rfl (Fz.le_trans l_8 (Fz.le_trans l_12 (Fz.le_trans l_15 l_24))) rfl
    · skip
      refine .seq ?_
      refine .region ?_
      refine .eql rfl rfl rfl ?_
      refine .assign rfl rfl ?_
      refine .nil ?_
      refine .code ?_
      refine .cond rfl (fun hb41 => ?_) (fun hb41 => ?_)
      · skip
        refine .seq ?_
        refine .keep (.cons (k := 3) rfl (.cons (k := 5) rfl (.nil _))) ?_
        refine .bind (fun j42 hj43 => ?_)
        refine .draw ⟨1000000, 0, [], 0⟩ [(29, (.pointer (some ⟨b10, 0 + 1, none⟩))), (30, (.int .i64 c5.What)), (31, (.pointer (some ⟨b17, 0 + 13, none⟩))), (32, (.pointer (some ⟨b17, 0 + 13 + j42 * 1, none⟩))), (33, (.int .i64 (r_16.Places j42))), (34, (.pointer (some ⟨b10, 0 + 2, none⟩))), (35, (.int .i64 c5.Number)), (36, (.bool (decide ((r_16.Places j42) ≥ c5.Number))))] mixedOK (by kernel_rfl) (by kernel_rfl) rfl (by kernel_rfl) ?_ (fun F_44 b45 l_46 => ?_)
        · skip
          refine .cons (.mk 29 (.pointer (some ⟨b10, 0 + 1, none⟩)) [(3, (.pointer (some ⟨b10, 0, none⟩)))] rfl rfl rfl rfl (fun S hS hd => (.cons (hS _ _ rfl) (Sub.nil _))) (fun F_47 X l_48 => ?_)) ?_
          · skip
            refine .fieldAddr rfl Try.underlying46 rfl Try.sizeOf3 rfl ?_
            exact .fin1 (Fz.le_refl _)
          refine .cons (.mk 30 (.int .i64 c5.What) [(29, (.pointer (some ⟨b10, 0 + 1, none⟩)))] rfl rfl rfl rfl (fun S hS hd => (.cons (hd.1 rfl rfl _ _ rfl) (Sub.nil _))) (fun F_49 X l_50 => ?_)) ?_
          · skip
            refine .loadF rfl Try.isAgg3 rfl ((Fz.le_trans l_15 l_50).mem _ _ hb13) rfl ?_
            exact .fin1 (Fz.le_refl _)
          refine .cons (.mk 31 (.pointer (some ⟨b17, 0 + 13, none⟩)) [(5, (.pointer (some ⟨b17, 0, none⟩)))] rfl rfl rfl rfl (fun S hS hd => (.cons (hS _ _ rfl) (Sub.nil _))) (fun F_51 X l_52 => ?_)) ?_
          · skip
            refine .fieldAddr rfl Try.underlying56 rfl Try.sizeOf47 rfl ?_
            exact .fin1 (Fz.le_refl _)
          refine .cons (.mk 32 (.pointer (some ⟨b17, 0 + 13 + j42 * 1, none⟩)) [(30, (.int .i64 c5.What)), (31, (.pointer (some ⟨b17, 0 + 13, none⟩)))] rfl rfl rfl rfl (fun S hS hd => (.cons (hd.2.1 rfl rfl _ _ rfl) (.cons (hd.1 rfl rfl _ _ rfl) (Sub.nil _)))) (fun F_53 X l_54 => ?_)) ?_
          · skip
            refine .indexAddrA rfl Try.underlying47 Try.sizeOf3 rfl rfl hj43 ?_
            exact .fin1 (Fz.le_refl _)
          refine .cons (.mk 33 (.int .i64 (r_16.Places j42)) [(32, (.pointer (some ⟨b17, 0 + 13 + j42 * 1, none⟩)))] rfl rfl rfl rfl (fun S hS hd => (.cons (hd.1 rfl rfl _ _ rfl) (Sub.nil _))) (fun F_55 X l_56 => ?_)) ?_
          · skip
            refine .loadO rfl Try.isAgg3 rfl (i := 0) rfl (allLt8 (p := fun j42 => ((cApiBottling r_16))[0 + 13 + j42 * 1]? = some (.int .i64 (r_16.Places j42))) rfl rfl rfl rfl rfl rfl rfl rfl _ (idxO_some hj43).2.2.2) ?_
            exact .fin1 (Fz.le_refl _)
          refine .cons (.mk 34 (.pointer (some ⟨b10, 0 + 2, none⟩)) [(3, (.pointer (some ⟨b10, 0, none⟩)))] rfl rfl rfl rfl (fun S hS hd => (.cons (hS _ _ rfl) (Sub.nil _))) (fun F_57 X l_58 => ?_)) ?_
          · skip
            refine .fieldAddr rfl Try.underlying46 rfl Try.sizeOf3 rfl ?_
            exact .fin1 (Fz.le_refl _)
          refine .cons (.mk 35 (.int .i64 c5.Number) [(34, (.pointer (some ⟨b10, 0 + 2, none⟩)))] rfl rfl rfl rfl (fun S hS hd => (.cons (hd.1 rfl rfl _ _ rfl) (Sub.nil _))) (fun F_59 X l_60 => ?_)) ?_
          · skip
            refine .loadF rfl Try.isAgg3 rfl ((Fz.le_trans l_15 l_60).mem _ _ hb13) rfl ?_
            exact .fin1 (Fz.le_refl _)
          refine .cons (.mk 36 (.bool (decide ((r_16.Places j42) ≥ c5.Number))) [(33, (.int .i64 (r_16.Places j42))), (35, (.int .i64 c5.Number))] rfl rfl rfl rfl (fun S hS hd => (.cons (hd.1 rfl rfl _ _ rfl) (.cons (hd.2.1 rfl rfl _ _ rfl) (Sub.nil _)))) (fun F_61 X l_62 => ?_)) ?_
          · skip
            refine .geq rfl rfl rfl ?_
            exact .fin1 (Fz.le_refl _)
          exact .nil
        refine .assign rfl rfl ?_
        refine .nil ?_
        refine .code ?_
        exact .ret0 Try.results61 (.tmp rfl (.nil)) (i := 1) rfl (Fz.le_trans l_8 (Fz.le_trans l_12 (Fz.le_trans l_15 l_46))) rfl
      · skip
        refine .seq ?_
        refine .region ?_
        refine .eql rfl rfl rfl ?_
        refine .assign rfl rfl ?_
        refine .nil ?_
        refine .code ?_
        refine .cond rfl (fun hb63 => ?_) (fun hb63 => ?_)
        · skip
          refine .seq ?_
          refine .region ?_
          refine .fieldAddr rfl Try.underlying56 rfl Try.sizeOf3 rfl ?_
          refine .loadO rfl Try.isAgg3 rfl (i := 0) rfl rfl ?_
          refine .eql rfl rfl rfl ?_
          refine .assign rfl rfl ?_
          refine .nil ?_
          refine .code ?_
          exact .ret0 Try.results61 (.tmp rfl (.nil)) (i := 1) rfl (Fz.le_trans l_8 (Fz.le_trans l_12 l_15)) rfl
        · skip
          refine .seq ?_
          refine .region ?_
          refine .eql rfl rfl rfl ?_
          refine .assign rfl rfl ?_
          refine .nil ?_
          refine .code ?_
          refine .cond rfl (fun hb64 => ?_) (fun hb64 => ?_)
          · skip
            refine .seq ?_
            refine .region ?_
            refine .fieldAddr rfl Try.underlying38 rfl Try.sizeOf3 rfl ?_
            refine .loadF rfl Try.isAgg3 rfl ((Fz.le_trans l_12 l_15).mem _ _ hb9) rfl ?_
            refine .eql rfl rfl rfl ?_
            refine .assign rfl rfl ?_
            refine .nil ?_
            refine .code ?_
            exact .ret0 Try.results61 (.tmp rfl (.nil)) (i := 1) rfl (Fz.le_trans l_8 (Fz.le_trans l_12 l_15)) rfl
          · skip
            refine .seq ?_
            refine .region ?_
            refine .eql rfl rfl rfl ?_
            refine .assign rfl rfl ?_
            refine .nil ?_
            refine .code ?_
            refine .cond rfl (fun hb65 => ?_) (fun hb65 => ?_)
            · skip
              refine .seq ?_
              refine .region ?_
              refine .fieldAddr rfl Try.underlying38 rfl Try.sizeOf4 rfl ?_
              refine .loadF rfl Try.isAgg4 rfl ((Fz.le_trans l_12 l_15).mem _ _ hb9) rfl ?_
              refine .not rfl rfl ?_
              refine .assign rfl rfl ?_
              refine .nil ?_
              refine .keep (.cons (k := 4) rfl (.nil _)) ?_
              refine .code ?_
              exact .ret0 Try.results61 (.tmp rfl (.nil)) (i := 1) rfl (Fz.le_trans l_8 (Fz.le_trans l_12 l_15)) rfl
            · skip
              refine .seq ?_
              refine .region ?_
              refine .eql rfl rfl rfl ?_
              refine .assign rfl rfl ?_
              refine .nil ?_
              refine .code ?_
              refine .cond rfl (fun hb66 => ?_) (fun hb66 => ?_)
              · skip
                refine .seq ?_
                refine .region ?_
                refine .fieldAddr rfl Try.underlying38 rfl Try.sizeOf4 rfl ?_
                refine .loadF rfl Try.isAgg4 rfl ((Fz.le_trans l_12 l_15).mem _ _ hb9) rfl ?_
                refine .not rfl rfl ?_
                refine .assign rfl rfl ?_
                refine .nil ?_
                refine .keep (.cons (k := 4) rfl (.nil _)) ?_
                refine .code ?_
                exact .ret0 Try.results61 (.tmp rfl (.nil)) (i := 1) rfl (Fz.le_trans l_8 (Fz.le_trans l_12 l_15)) rfl
              · skip
                refine .skip ?_
                refine .block ?_
                refine .code ?_
                refine .seq ?_
                refine .region ?_
                refine .fieldAddr rfl Try.underlying56 rfl Try.sizeOf36 rfl ?_
                refine .fieldAddr rfl Try.underlying36 rfl Try.sizeOf3 rfl ?_
                refine .loadO rfl Try.isAgg3 rfl (i := 0) rfl rfl ?_
                refine .fieldAddr rfl Try.underlying46 rfl Try.sizeOf3 rfl ?_
                refine .loadF rfl Try.isAgg3 rfl (l_15.mem _ _ hb13) rfl ?_
                refine .fieldAddr rfl Try.underlying46 rfl Try.sizeOf3 rfl ?_
                refine .loadF rfl Try.isAgg3 rfl (l_15.mem _ _ hb13) rfl ?_
                refine .sub rfl rfl rfl ?_
                refine .geq rfl rfl rfl ?_
                refine .move rfl rfl ?_
                refine .andP (b := (decide (r_16.Strength.Lo ≥ (w64 (c5.What - c5.Number))))) (b' := (decide (r_16.Strength.Hi ≤ (w64 (c5.What + c5.Number))))) 10 76 (fun hb67 => ?_) (fun hb68 => ?_) (fun F_69 l_70 => ?_)
                · skip
                  refine .onH hb67 rfl rfl ?_
                  refine .fieldAddr rfl Try.underlying56 rfl Try.sizeOf36 rfl ?_
                  refine .onH hb67 rfl rfl ?_
                  refine .fieldAddr rfl Try.underlying36 rfl Try.sizeOf3 rfl ?_
                  refine .onH hb67 rfl rfl ?_
                  refine .loadO rfl Try.isAgg3 rfl (i := 0) rfl rfl ?_
                  refine .onH hb67 rfl rfl ?_
                  refine .fieldAddr rfl Try.underlying46 rfl Try.sizeOf3 rfl ?_
                  refine .onH hb67 rfl rfl ?_
                  refine .loadF rfl Try.isAgg3 rfl (l_15.mem _ _ hb13) rfl ?_
                  refine .onH hb67 rfl rfl ?_
                  refine .fieldAddr rfl Try.underlying46 rfl Try.sizeOf3 rfl ?_
                  refine .onH hb67 rfl rfl ?_
                  refine .loadF rfl Try.isAgg3 rfl (l_15.mem _ _ hb13) rfl ?_
                  refine .onH hb67 rfl rfl ?_
                  refine .add rfl rfl rfl ?_
                  refine .onH hb67 rfl rfl ?_
                  refine .leq rfl rfl rfl ?_
                  refine .pickTH hb67 rfl rfl rfl ?_
                  exact .fin 10 rfl rfl (by kernel_rfl) (Fz.le_refl _)
                · skip
                  refine .offH hb68 rfl rfl rfl ?_
                  refine .offH hb68 rfl rfl rfl ?_
                  refine .offH hb68 rfl rfl rfl ?_
                  refine .offH hb68 rfl rfl rfl ?_
                  refine .offH hb68 rfl rfl rfl ?_
                  refine .offH hb68 rfl rfl rfl ?_
                  refine .offH hb68 rfl rfl rfl ?_
                  refine .offH hb68 rfl rfl rfl ?_
                  refine .offH hb68 rfl rfl rfl ?_
                  refine .pickFH hb68 rfl rfl rfl ?_
                  exact .fin 10 rfl rfl (by kernel_rfl) (Fz.le_refl _)
                refine .assign rfl rfl ?_
                refine .nil ?_
                refine .keep (.cons (k := 4) rfl (.nil _)) ?_
                refine .code ?_
                exact .ret0 Try.results61 (.tmp rfl (.nil)) (i := 1) rfl (Fz.le_trans l_8 (Fz.le_trans l_12 (Fz.le_trans l_15 l_70))) rfl

noncomputable def b_wormtubref12_False_1 (b1 : ApiBatch) (l_5 : (List ApiClaim)) (s27 : (List Int) × Int) : Option (Ctl ((List Int) × Int) (((List Int)))) :=
  if (decide (s27.2 < (l_5.length : Int))) then (((idxL l_5 s27.2).bind fun x34 => (m_wormtubref12_True b1 x34).bind fun r_46 => (if (!r_46) then ((appO s27.1 ([s27.2])).bind fun l_73 => some l_73) else (some s27.1) : Option ((List Int))).bind fun j77 => some j77 : Option ((List Int))).bind fun j83 => bindv (w64 (s27.2 + 1)) fun i89 => some (.next (j83, i89))) else (some (.done s27.1))
noncomputable def m_wormtubref12_False (b1 : ApiBatch) (l_5 : (List ApiClaim)) : Option ((List Int) × Int) :=
  (m_wormtubref12_Batch b1).bind fun r_15 => (if (!r_15) then some true else ((m_wormtubref12_Claims l_5).bind fun r_19 => some (!r_19))).bind fun z23 => if z23 then (some ([], 1)) else ((loopM (b_wormtubref12_False_1 b1 l_5) ([], 0)).bind fun b91 => some (b91, 0))
theorem c_wormtubref12_False (F0 : Fz) (b1 : ApiBatch) (p2 : Option Addr) (k3 : Nat) (h4 : RepSl 27 (Ex cApiDraught) F0 p2 k3 b1.Draughts) (l_5 : (List ApiClaim)) (p6 : Option Addr) (k7 : Nat) (h8 : RepSl 3 (Ex cApiClaim) F0 p6 k7 l_5) : CT0 Try.prog 28 [(eApiBatch b1 p2 k3), (.slice p6 l_5.length k7)].toArray F0 (m_wormtubref12_False b1 l_5) (fun r F v => ∃ p0 k0, v = .tuple #[(.slice p0 r.1.length k0), (.int .i64 r.2)] ∧ RepSl 1 (Ex (cInt .i64)) F p0 k0 r.1) := by
  refine CT0.enter Try.func28 rfl Try.ntmps28 rfl fun r R => ?_
  unfold m_wormtubref12_False
  refine .seq ?_
  refine .region ?_
  refine .boxF (cs := (cApiBatch b1 p2 k3)) rfl rfl rfl (fun b9 F_10 l_11 hb12 => ?_)
  refine .assign rfl rfl ?_
  refine .assign rfl rfl ?_
  refine .nil ?_
  refine .code ?_
  refine .seq ?_
  refine .seq ?_
  refine .region ?_
  refine .loadFA rfl Try.isAgg38 Try.sizeOf38 rfl hb12 (vs := (cApiBatch b1 p2 k3)) (by kernel_rfl) rfl ?_
  refine .call0 rfl Try.call18 rfl rfl rfl (c_wormtubref12_Batch _ b1 p2 k3 (h4.mono l_11)) ?_
  rintro r_15 F_13 _ - l_14 rfl
  refine .not rfl rfl ?_
  refine .move rfl rfl ?_
  refine .orM (b := (!r_15)) 4 15 (fun hb16 z24 => ?_) (fun hb20 => ?_) (fun z23 F_21 l_22 => ?_)
  · skip
    refine .onH hb16 rfl rfl ?_
    refine .move rfl rfl ?_
    refine .onH hb16 rfl rfl ?_
    refine .call0 rfl Try.call19 rfl rfl rfl (c_wormtubref12_Claims _ l_5 p6 k7 (h8.mono (Fz.le_trans l_11 l_14))) ?_
    rintro r_19 F_17 _ - l_18 rfl
    refine .onH hb16 rfl rfl ?_
    refine .not rfl rfl ?_
    refine .pickFH hb16 rfl rfl rfl ?_
    exact .finZ 4 rfl rfl (by kernel_rfl) l_18
  · skip
    refine .offH hb20 rfl rfl rfl ?_
    refine .offH hb20 rfl rfl rfl ?_
    refine .offH hb20 rfl rfl rfl ?_
    refine .pickTH hb20 rfl rfl rfl ?_
    exact .fin 4 rfl rfl (by kernel_rfl) (Fz.le_refl _)
  refine .nil ?_
  refine .code ?_
  refine .cond rfl (fun hb25 => ?_) (fun hb25 => ?_)
  · skip
    refine .seq ?_
    refine .region ?_
    refine .assign rfl rfl ?_
    refine .assign rfl rfl ?_
    refine .nil ?_
    refine .code ?_
    exact .ret0 Try.results28 (.tmp rfl (.tmp rfl (.nil))) (i := 0) rfl (Fz.le_trans l_11 (Fz.le_trans l_14 l_22)) ⟨none, 0, rfl, (RepSl.nil.mono (Fz.le_trans l_11 (Fz.le_trans l_14 l_22)))⟩
  · skip
    refine .skip ?_
    refine .code ?_
    refine .seq ?_
    refine .region ?_
    refine .assign rfl rfl ?_
    refine .nil ?_
    refine .code ?_
    refine .seq ?_
    refine .seq ?_
    refine .region ?_
    refine .assign rfl rfl ?_
    refine .nil ?_
    refine .code ?_
    refine .block ?_
    refine .ownNil 1 (Ex (cInt .i64)) 3 ?_
    refine .keep (.cons (k := 1) rfl (.cons (k := 2) rfl (.cons (k := 6) rfl (.cons (k := 7) rfl (.nil _))))) ?_
    refine .loop (fun (s27 : (List Int) × Int) a w => ∃ (F_28 : Fz) (p30 : Option Addr) (k31 : Nat), F_21 ≤ F_28 ∧ Hd 34 [] [(1, (.slice p6 l_5.length k7)), (2, (.pointer (some ⟨b9, 0, none⟩))), (6, (.slice p30 s27.1.length k31)), (7, (.int .i64 s27.2))] F_28 [ownSl 1 (Ex (cInt .i64)) F_28 3 p30 k31 s27.1, R] a w) (fun b91 e a w => e = .exit 0 ∧ ∃ (F_92 : Fz) (p94 : Option Addr) (k95 : Nat), F_21 ≤ F_92 ∧ Hd 34 [] [(6, (.slice p94 b91.length k95))] F_92 [ownSl 1 (Ex (cInt .i64)) F_92 3 p94 k95 b91, R] a w) ?_ ?_ ?_
    · exact fun a w h => ⟨F_21, none, 0, (Fz.le_refl _), h.1.sub (.cons (k := 1) rfl (.cons (k := 2) rfl (.cons (k := 6) rfl (.cons (k := 7) rfl (.nil _))))), h.2⟩
    · intro s27 ctl
      refine GC.ex (fun a w ⟨F_28, p30, k31, l_29, hA⟩ => ⟨_, hA, ?_⟩)
      unfold b_wormtubref12_False_1
      refine .seq ?_
      refine .seq ?_
      refine .region ?_
      refine .move rfl rfl ?_
      refine .move rfl rfl ?_
      refine .lenS rfl rfl Try.underlying39 rfl ?_
      refine .lss rfl rfl rfl ?_
      refine .nil ?_
      refine .code ?_
      refine .cond rfl (fun hb33 => ?_) (fun hb33 => ?_)
      · skip
        refine .skip ?_
        refine .code ?_
        refine .seq ?_
        refine .keep (.cons (k := 1) rfl (.cons (k := 2) rfl (.cons (k := 6) rfl (.cons (k := 7) rfl (.nil _))))) ?_
        refine GC.join0 (σ := (List Int)) (fun j83 a w => ∃ (F_84 : Fz) (p86 : Option Addr) (k87 : Nat), F_28 ≤ F_84 ∧ Hd 34 [] [(1, (.slice p6 l_5.length k7)), (2, (.pointer (some ⟨b9, 0, none⟩))), (6, (.slice p86 j83.length k87)), (7, (.int .i64 s27.2))] F_84 [ownSl 1 (Ex (cInt .i64)) F_84 3 p86 k87 j83, R] a w) (fun sj => ?_) (fun j83 hs0 => GE.ex (fun a w ⟨F_84, p86, k87, l_85, hA⟩ => ⟨_, hA, ?_⟩))
        · skip
          refine .block ?_
          refine .seq ?_
          refine .keep (.cons (k := 1) rfl (.cons (k := 2) rfl (.cons (k := 6) rfl (.cons (k := 7) rfl (.nil _))))) ?_
          refine .bind (fun x34 e40 => ?_)
          obtain ⟨b35, o36, T37, fr38, cs39, hm41, hv42, hq43⟩ := RepSl.idxE (h8.mono (Fz.le_trans l_11 (Fz.le_trans l_14 (Fz.le_trans l_22 l_29)))) e40
          refine .bind (fun r_46 hx47 => ?_)
          refine .draw ⟨1000000, 0, [], 0⟩ [(22, (eApiBatch b1 p2 k3)), (23, (.slice p6 l_5.length k7)), (24, (.int .i64 s27.2)), (25, (.pointer (some ⟨b35, o36, none⟩))), (26, (eApiClaim x34)), (27, (.bool r_46)), (28, (.bool (!r_46)))] mixedOK (by kernel_rfl) (by kernel_rfl) rfl (by kernel_rfl) ?_ (fun F_48 b49 l_50 => ?_)
          · skip
            refine .cons (.mk 22 (eApiBatch b1 p2 k3) [(2, (.pointer (some ⟨b9, 0, none⟩)))] rfl rfl rfl rfl (fun S hS hd => (.cons (hS _ _ rfl) (Sub.nil _))) (fun F_51 X l_52 => ?_)) ?_
            · skip
              refine .loadFA rfl Try.isAgg38 Try.sizeOf38 rfl ((Fz.le_trans l_14 (Fz.le_trans l_22 (Fz.le_trans l_29 l_52))).mem _ _ hb12) (vs := (cApiBatch b1 p2 k3)) (by kernel_rfl) rfl ?_
              exact .fin1 (Fz.le_refl _)
            refine .cons (.mk 23 (.slice p6 l_5.length k7) [(1, (.slice p6 l_5.length k7))] rfl rfl rfl rfl (fun S hS hd => (.cons (hS _ _ rfl) (Sub.nil _))) (fun F_53 X l_54 => ?_)) ?_
            · skip
              refine .move rfl rfl ?_
              exact .fin1 (Fz.le_refl _)
            refine .cons (.mk 24 (.int .i64 s27.2) [(7, (.int .i64 s27.2))] rfl rfl rfl rfl (fun S hS hd => (.cons (hS _ _ rfl) (Sub.nil _))) (fun F_55 X l_56 => ?_)) ?_
            · skip
              refine .move rfl rfl ?_
              exact .fin1 (Fz.le_refl _)
            refine .cons (.mk 25 (.pointer (some ⟨b35, o36, none⟩)) [(23, (.slice p6 l_5.length k7)), (24, (.int .i64 s27.2))] rfl rfl rfl rfl (fun S hS hd => (.cons (hd.1 rfl rfl _ _ rfl) (.cons (hd.2.1 rfl rfl _ _ rfl) (Sub.nil _)))) (fun F_57 X l_58 => ?_)) ?_
            · skip
              refine .idxQ rfl Try.underlying39 Try.sizeOf46 hq43 rfl rfl ?_
              exact .fin1 (Fz.le_refl _)
            refine .cons (.mk 26 (eApiClaim x34) [(25, (.pointer (some ⟨b35, o36, none⟩)))] rfl rfl rfl rfl (fun S hS hd => (.cons (hd.1 rfl rfl _ _ rfl) (Sub.nil _))) (fun F_59 X l_60 => ?_)) ?_
            · skip
              refine .loadFA rfl Try.isAgg46 Try.sizeOf46 rfl (l_60.mem _ _ hm41) hv42 rfl ?_
              exact .fin1 (Fz.le_refl _)
            refine .cons (.mk 27 (.bool r_46) [(22, (eApiBatch b1 p2 k3)), (26, (eApiClaim x34))] rfl rfl rfl rfl (fun S hS hd => (.cons (hd.1 rfl rfl _ _ rfl) (.cons (hd.2.1 rfl rfl _ _ rfl) (Sub.nil _)))) (fun F_61 X l_62 => ?_)) ?_
            · skip
              refine .callK hx47 rfl Try.call61 rfl rfl rfl (c_wormtubref12_True _ b1 p2 k3 (h4.mono (Fz.le_trans l_11 (Fz.le_trans l_14 (Fz.le_trans l_22 (Fz.le_trans l_29 l_62))))) x34) ?_
              rintro F_63 _ l_64 rfl
              exact .fin1 l_64
            refine .cons (.mk 28 (.bool (!r_46)) [(27, (.bool r_46))] rfl rfl rfl rfl (fun S hS hd => (.cons (hd.1 rfl rfl _ _ rfl) (Sub.nil _))) (fun F_65 X l_66 => ?_)) ?_
            · skip
              refine .not rfl rfl ?_
              exact .fin1 (Fz.le_refl _)
            exact .nil
          refine .nil ?_
          refine .code ?_
          refine .keep (.cons (k := 1) rfl (.cons (k := 2) rfl (.cons (k := 6) rfl (.cons (k := 7) rfl (.cons (k := 28) rfl (.nil _)))))) ?_
          refine GC.join0 (σ := (List Int)) (fun j77 a w => ∃ (F_78 : Fz) (p80 : Option Addr) (k81 : Nat), F_48 ≤ F_78 ∧ Hd 34 [] [(1, (.slice p6 l_5.length k7)), (2, (.pointer (some ⟨b9, 0, none⟩))), (6, (.slice p80 j77.length k81)), (7, (.int .i64 s27.2))] F_78 [ownSl 1 (Ex (cInt .i64)) F_78 3 p80 k81 j77, R] a w) (fun sj => ?_) (fun j77 hs0 => GE.ex (fun a w ⟨F_78, p80, k81, l_79, hA⟩ => ⟨_, hA, ?_⟩))
          · skip
            refine .cond rfl (fun hb67 => ?_) (fun hb67 => ?_)
            · skip
              refine .region ?_
              refine .move rfl rfl ?_
              refine .move rfl rfl ?_
              refine .sliceLit (cs := [.int .i64 s27.2]) (zc := [.int .i64 0]) rfl Try.underlying40 Try.sizeOf3 Try.zeroValue3 rfl rfl rfl (by kernel_rfl) (by kernel_rfl) (fun b68 F_69 l_70 hb71 => ?_)
              have h72 : RepSl 1 (Ex (cInt .i64)) F_69 (some ⟨b68, 0, none⟩) 1 ([s27.2]) := RepSl.ofRow hb71 (.cons ok_t3.mono rfl .nil) rfl rfl
              refine .append 0 ok_t3 (Fz.le_trans l_50 l_70) rfl Try.underlying40 Try.underlying40 rfl rfl rfl h72 rfl rfl (fun l_73 p74 k75 e76 => ?_)
              refine .assign rfl rfl ?_
              refine .nil ?_
              exact .nil fun e a w h => by cases e; exact ⟨rfl, ⟨F_69, p74, k75, l_70, h.1.sub (.cons (k := 1) rfl (.cons (k := 2) rfl (.cons (k := 6) rfl (.cons (k := 7) rfl (.nil _))))), h.2⟩⟩
            · skip
              refine .skip ?_
              refine .ownUp 0 l_50 rfl ?_
              exact .nil fun e a w h => by cases e; exact ⟨rfl, ⟨F_48, p30, k31, (Fz.le_refl _), h.1.sub (.cons (k := 1) rfl (.cons (k := 2) rfl (.cons (k := 6) rfl (.cons (k := 7) rfl (.nil _))))), h.2⟩⟩
          refine .block ?_
          exact .nil fun e a w h => by cases e; exact ⟨rfl, ⟨F_78, p80, k81, (Fz.le_trans l_50 l_79), h.1.sub (.cons (k := 1) rfl (.cons (k := 2) rfl (.cons (k := 6) rfl (.cons (k := 7) rfl (.nil _))))), h.2⟩⟩
        refine .code ?_
        refine .region ?_
        refine .move rfl rfl ?_
        refine .add rfl rfl rfl ?_
        refine .assignL rfl rfl (fun i89 e90 => ?_)
        refine .nil ?_
        exact .nil (LPost.norm fun a w h => ⟨F_84, p86, k87, (Fz.le_trans l_29 l_85), h.1.sub (.cons (k := 1) rfl (.cons (k := 2) rfl (.cons (k := 6) rfl (.cons (k := 7) rfl (.nil _))))), h.2⟩)
      · skip
        refine .exitOut rfl (LPost.exit fun a w h => ⟨rfl, F_28, p30, k31, l_29, h.1.sub (.cons (k := 6) rfl (.nil _)), h.2⟩)
    · intro b91 hb0 hk e a w hD
      obtain ⟨rfl, F_92, p94, k95, l_93, hA⟩ := hD
      refine interp_exit rfl (GE.app ?_ hk a w hA)
      refine .code ?_
      refine .seq ?_
      refine .region ?_
      refine .move rfl rfl ?_
      refine .assign rfl rfl ?_
      refine .assign rfl rfl ?_
      refine .nil ?_
      refine .code ?_
      refine .freezeSl 0 rfl (Fz.le_refl _) (fun F_97 l_98 h99 => ?_)
      exact .ret0 Try.results28 (.tmp rfl (.tmp rfl (.nil))) (i := 0) rfl (Fz.le_trans l_11 (Fz.le_trans l_14 (Fz.le_trans l_22 (Fz.le_trans l_93 l_98)))) ⟨p94, k95, rfl, h99⟩

noncomputable def b_bottle_areRules_1 (l_1 : (List ApiLabelRule)) (s7 : (List (Int × Bool)) × Int) : Option (Ctl ((List (Int × Bool)) × Int) (((List (Int × Bool))) ⊕ (Bool))) :=
  if (decide (s7.2 < (l_1.length : Int))) then ((idxL l_1 s7.2).bind fun x14 => if ((((((((mapGet s7.1 x14.Country).getD false) || (!(m_bottle_within x14.Country 0 255))) || (!(m_bottle_isStrength x14.Least))) || (!(m_bottle_isStrength x14.Most))) || (!(m_bottle_isDay x14.Age))) || (!(m_bottle_within x14.Must 0 255))) || (!(m_bottle_within x14.Never 0 255))) then (some (.done (.inr false))) else (bindv (mapSet s7.1 x14.Country true) fun m_62 => some (.next (m_62, (w64 (s7.2 + 1)))))) else (some (.done (.inl s7.1)))
noncomputable def m_bottle_areRules (l_1 : (List ApiLabelRule)) : Option Bool :=
  (loopM (b_bottle_areRules_1 l_1) ([], 0)).bind fun b0 => match b0 with | .inl _b64 => (some (decide ((l_1.length : Int) ≤ 64))) | .inr b64 => (some b64)
theorem c_bottle_areRules (F0 : Fz) (l_1 : (List ApiLabelRule)) (p2 : Option Addr) (k3 : Nat) (h4 : RepSl 6 (Ex cApiLabelRule) F0 p2 k3 l_1) : CT0 Try.prog 62 [(.slice p2 l_1.length k3)].toArray F0 (m_bottle_areRules l_1) (fun r _ v => v = (.bool r)) := by
  refine CT0.enter Try.func62 rfl Try.ntmps62 rfl fun r R => ?_
  unfold m_bottle_areRules
  refine .seq ?_
  refine .region ?_
  refine .assign rfl rfl ?_
  refine .nil ?_
  refine .code ?_
  refine .seq ?_
  refine .region ?_
  refine .makeMap (fun x : Int => (.int .i64 x)) (fun _ x v => v = (fun x : Bool => (.bool x)) x) rfl (fun b5 => ?_)
  refine .assign rfl rfl ?_
  refine .nil ?_
  refine .code ?_
  refine .seq ?_
  refine .seq ?_
  refine .region ?_
  refine .move rfl rfl ?_
  refine .lenS rfl rfl Try.underlying75 rfl ?_
  refine .move rfl rfl ?_
  refine .nil ?_
  refine .code ?_
  refine .block ?_
  refine .keep (.cons (k := 0) rfl (.cons (k := 3) rfl (.cons (k := 7) rfl (.cons (k := 8) rfl (.cons (k := 9) rfl (.nil _)))))) ?_
  refine .loop (fun (s7 : (List (Int × Bool)) × Int) a w => ∃ (F_8 : Fz) (p10 : Nat) (k11 : Unit), F0 ≤ F_8 ∧ Hd 60 [] [(0, (.slice p2 l_1.length k3)), (3, (.map (some p10))), (7, (.slice p2 l_1.length k3)), (8, (.int .i64 (l_1.length : Int))), (9, (.int .i64 s7.2))] F_8 [ownMap (fun x : Int => (.int .i64 x)) (fun _ x v => v = (fun x : Bool => (.bool x)) x) F_8 p10 s7.1, R] a w) (fun b0 e a w => match b0 with | .inl b64 => e = .exit 0 ∧ ∃ (F_65 : Fz) (p67 : Nat) (k68 : Unit), F0 ≤ F_65 ∧ Hd 60 [] [(0, (.slice p2 l_1.length k3)), (3, (.map (some p67)))] F_65 [ownMap (fun x : Int => (.int .i64 x)) (fun _ x v => v = (fun x : Bool => (.bool x)) x) F_65 p67 b64, R] a w | .inr b64 => e = .ret ∧ ∃ (F_70 : Fz), F0 ≤ F_70 ∧ Hd 60 [] [(2, (.bool b64))] F_70 [R] a w) ?_ ?_ ?_
  · exact fun a w h => ⟨F0, b5, (), (Fz.le_refl _), h.1.sub (.cons (k := 0) rfl (.cons (k := 3) rfl (.cons (k := 7) rfl (.cons (k := 8) rfl (.cons (k := 9) rfl (.nil _)))))), h.2⟩
  · intro s7 ctl
    refine GC.ex (fun a w ⟨F_8, p10, k11, l_9, hA⟩ => ⟨_, hA, ?_⟩)
    unfold b_bottle_areRules_1
    refine .seq ?_
    refine .region ?_
    refine .lss rfl rfl rfl ?_
    refine .nil ?_
    refine .code ?_
    refine .seq ?_
    refine .cond rfl (fun hb13 => ?_) (fun hb13 => ?_)
    · skip
      refine .skip ?_
      refine .code ?_
      refine .seq ?_
      refine .block ?_
      refine .seq ?_
      refine .region ?_
      refine .idx rfl Try.underlying75 Try.sizeOf114 (h4.mono l_9) rfl rfl (fun x14 b15 o16 T17 fr18 cs19 e20 hm21 hv22 => ?_)
      refine .loadFA rfl Try.isAgg114 Try.sizeOf114 rfl hm21 hv22 rfl ?_
      refine .alloc (cs := (cApiLabelRule (ApiLabelRule.mk 0 0 0 0 0 0))) rfl Try.zeroValue114 rfl (fun b24 => ?_)
      refine .store (cs' := (cApiLabelRule x14)) Try.sizeOf114 rfl rfl rfl rfl (i := 0) rfl (Nat.le_of_ble_eq_true rfl) rfl (setMany_all (by rfl)) ?_
      refine .nil ?_
      refine .code ?_
      refine .seq ?_
      refine .seq ?_
      refine .region ?_
      refine .move rfl rfl ?_
      refine .fieldAddr rfl Try.underlying114 rfl Try.sizeOf3 rfl ?_
      refine .loadO rfl Try.isAgg3 rfl (i := 0) rfl rfl ?_
      refine .lookupX (cv := (fun x : Bool => (.bool x))) (key := x14.Country) (z := false) 1 rfl rfl Try.underlying133 (.int Try.underlying3) Try.zeroValue4 rfl rfl ?_
      refine .move rfl rfl ?_
      refine .orP (b := ((mapGet s7.1 x14.Country).getD false)) (b' := (!(m_bottle_within x14.Country 0 255))) 5 22 (fun hb25 => ?_) (fun hb28 => ?_) (fun F_29 l_30 => ?_)
      · skip
        refine .onH hb25 rfl rfl ?_
        refine .fieldAddr rfl Try.underlying114 rfl Try.sizeOf3 rfl ?_
        refine .onH hb25 rfl rfl ?_
        refine .loadO rfl Try.isAgg3 rfl (i := 0) rfl rfl ?_
        refine .onH hb25 rfl rfl ?_
        refine .callP rfl Try.call44 rfl rfl rfl (c_bottle_within _ x14.Country 0 255) ?_
        rintro F_26 _ l_27 rfl
        refine .onH hb25 rfl rfl ?_
        refine .not rfl rfl ?_
        refine .pickFH hb25 rfl rfl rfl ?_
        exact .fin 5 rfl rfl (by kernel_rfl) l_27
      · skip
        refine .offH hb28 rfl rfl rfl ?_
        refine .offH hb28 rfl rfl rfl ?_
        refine .offH hb28 rfl rfl rfl ?_
        refine .offH hb28 rfl rfl rfl ?_
        refine .pickTH hb28 rfl rfl rfl ?_
        exact .fin 5 rfl rfl (by kernel_rfl) (Fz.le_refl _)
      refine .move rfl rfl ?_
      refine .orP (b := (((mapGet s7.1 x14.Country).getD false) || (!(m_bottle_within x14.Country 0 255)))) (b' := (!(m_bottle_isStrength x14.Least))) 5 28 (fun hb31 => ?_) (fun hb34 => ?_) (fun F_35 l_36 => ?_)
      · skip
        refine .onH hb31 rfl rfl ?_
        refine .fieldAddr rfl Try.underlying114 rfl Try.sizeOf3 rfl ?_
        refine .onH hb31 rfl rfl ?_
        refine .loadO rfl Try.isAgg3 rfl (i := 0) rfl rfl ?_
        refine .onH hb31 rfl rfl ?_
        refine .callP rfl Try.call53 rfl rfl rfl (c_bottle_isStrength _ x14.Least) ?_
        rintro F_32 _ l_33 rfl
        refine .onH hb31 rfl rfl ?_
        refine .not rfl rfl ?_
        refine .pickFH hb31 rfl rfl rfl ?_
        exact .fin 5 rfl rfl (by kernel_rfl) l_33
      · skip
        refine .offH hb34 rfl rfl rfl ?_
        refine .offH hb34 rfl rfl rfl ?_
        refine .offH hb34 rfl rfl rfl ?_
        refine .offH hb34 rfl rfl rfl ?_
        refine .pickTH hb34 rfl rfl rfl ?_
        exact .fin 5 rfl rfl (by kernel_rfl) (Fz.le_refl _)
      refine .move rfl rfl ?_
      refine .orP (b := ((((mapGet s7.1 x14.Country).getD false) || (!(m_bottle_within x14.Country 0 255))) || (!(m_bottle_isStrength x14.Least)))) (b' := (!(m_bottle_isStrength x14.Most))) 5 34 (fun hb37 => ?_) (fun hb40 => ?_) (fun F_41 l_42 => ?_)
      · skip
        refine .onH hb37 rfl rfl ?_
        refine .fieldAddr rfl Try.underlying114 rfl Try.sizeOf3 rfl ?_
        refine .onH hb37 rfl rfl ?_
        refine .loadO rfl Try.isAgg3 rfl (i := 0) rfl rfl ?_
        refine .onH hb37 rfl rfl ?_
        refine .callP rfl Try.call53 rfl rfl rfl (c_bottle_isStrength _ x14.Most) ?_
        rintro F_38 _ l_39 rfl
        refine .onH hb37 rfl rfl ?_
        refine .not rfl rfl ?_
        refine .pickFH hb37 rfl rfl rfl ?_
        exact .fin 5 rfl rfl (by kernel_rfl) l_39
      · skip
        refine .offH hb40 rfl rfl rfl ?_
        refine .offH hb40 rfl rfl rfl ?_
        refine .offH hb40 rfl rfl rfl ?_
        refine .offH hb40 rfl rfl rfl ?_
        refine .pickTH hb40 rfl rfl rfl ?_
        exact .fin 5 rfl rfl (by kernel_rfl) (Fz.le_refl _)
      refine .move rfl rfl ?_
      refine .orP (b := (((((mapGet s7.1 x14.Country).getD false) || (!(m_bottle_within x14.Country 0 255))) || (!(m_bottle_isStrength x14.Least))) || (!(m_bottle_isStrength x14.Most)))) (b' := (!(m_bottle_isDay x14.Age))) 5 40 (fun hb43 => ?_) (fun hb46 => ?_) (fun F_47 l_48 => ?_)
      · skip
        refine .onH hb43 rfl rfl ?_
        refine .fieldAddr rfl Try.underlying114 rfl Try.sizeOf3 rfl ?_
        refine .onH hb43 rfl rfl ?_
        refine .loadO rfl Try.isAgg3 rfl (i := 0) rfl rfl ?_
        refine .onH hb43 rfl rfl ?_
        refine .callP rfl Try.call89 rfl rfl rfl (c_bottle_isDay _ x14.Age) ?_
        rintro F_44 _ l_45 rfl
        refine .onH hb43 rfl rfl ?_
        refine .not rfl rfl ?_
        refine .pickFH hb43 rfl rfl rfl ?_
        exact .fin 5 rfl rfl (by kernel_rfl) l_45
      · skip
        refine .offH hb46 rfl rfl rfl ?_
        refine .offH hb46 rfl rfl rfl ?_
        refine .offH hb46 rfl rfl rfl ?_
        refine .offH hb46 rfl rfl rfl ?_
        refine .pickTH hb46 rfl rfl rfl ?_
        exact .fin 5 rfl rfl (by kernel_rfl) (Fz.le_refl _)
      refine .move rfl rfl ?_
      refine .orP (b := ((((((mapGet s7.1 x14.Country).getD false) || (!(m_bottle_within x14.Country 0 255))) || (!(m_bottle_isStrength x14.Least))) || (!(m_bottle_isStrength x14.Most))) || (!(m_bottle_isDay x14.Age)))) (b' := (!(m_bottle_within x14.Must 0 255))) 5 46 (fun hb49 => ?_) (fun hb52 => ?_) (fun F_53 l_54 => ?_)
      · skip
        refine .onH hb49 rfl rfl ?_
        refine .fieldAddr rfl Try.underlying114 rfl Try.sizeOf3 rfl ?_
        refine .onH hb49 rfl rfl ?_
        refine .loadO rfl Try.isAgg3 rfl (i := 0) rfl rfl ?_
        refine .onH hb49 rfl rfl ?_
        refine .callP rfl Try.call44 rfl rfl rfl (c_bottle_within _ x14.Must 0 255) ?_
        rintro F_50 _ l_51 rfl
        refine .onH hb49 rfl rfl ?_
        refine .not rfl rfl ?_
        refine .pickFH hb49 rfl rfl rfl ?_
        exact .fin 5 rfl rfl (by kernel_rfl) l_51
      · skip
        refine .offH hb52 rfl rfl rfl ?_
        refine .offH hb52 rfl rfl rfl ?_
        refine .offH hb52 rfl rfl rfl ?_
        refine .offH hb52 rfl rfl rfl ?_
        refine .pickTH hb52 rfl rfl rfl ?_
        exact .fin 5 rfl rfl (by kernel_rfl) (Fz.le_refl _)
      refine .move rfl rfl ?_
      refine .orP (b := (((((((mapGet s7.1 x14.Country).getD false) || (!(m_bottle_within x14.Country 0 255))) || (!(m_bottle_isStrength x14.Least))) || (!(m_bottle_isStrength x14.Most))) || (!(m_bottle_isDay x14.Age))) || (!(m_bottle_within x14.Must 0 255)))) (b' := (!(m_bottle_within x14.Never 0 255))) 5 52 (fun hb55 => ?_) (fun hb58 => ?_) (fun F_59 l_60 => ?_)
      · skip
        refine .onH hb55 rfl rfl ?_
        refine .fieldAddr rfl Try.underlying114 rfl Try.sizeOf3 rfl ?_
        refine .onH hb55 rfl rfl ?_
        refine .loadO rfl Try.isAgg3 rfl (i := 0) rfl rfl ?_
        refine .onH hb55 rfl rfl ?_
        refine .callP rfl Try.call44 rfl rfl rfl (c_bottle_within _ x14.Never 0 255) ?_
        rintro F_56 _ l_57 rfl
        refine .onH hb55 rfl rfl ?_
        refine .not rfl rfl ?_
        refine .pickFH hb55 rfl rfl rfl ?_
        exact .fin 5 rfl rfl (by kernel_rfl) l_57
      · skip
        refine .offH hb58 rfl rfl rfl ?_
        refine .offH hb58 rfl rfl rfl ?_
        refine .offH hb58 rfl rfl rfl ?_
        refine .offH hb58 rfl rfl rfl ?_
        refine .pickTH hb58 rfl rfl rfl ?_
        exact .fin 5 rfl rfl (by kernel_rfl) (Fz.le_refl _)
      refine .nil ?_
      refine .keep (.cons (k := 0) rfl (.cons (k := 3) rfl (.cons (k := 5) rfl (.cons (k := 7) rfl (.cons (k := 8) rfl (.cons (k := 9) rfl (.cons (k := 52) rfl (.nil _)))))))) ?_
      refine .code ?_
      refine .cond rfl (fun hb61 => ?_) (fun hb61 => ?_)
      · skip
        refine .seq ?_
        refine .region ?_
        refine .assign rfl rfl ?_
        refine .nil ?_
        refine .code ?_
        refine .drop 1 ?_
        refine .drop 0 ?_
        refine .retQ (LPost.ret fun a w h => ⟨rfl, F_59, (Fz.le_trans l_9 (Fz.le_trans l_30 (Fz.le_trans l_36 (Fz.le_trans l_42 (Fz.le_trans l_48 (Fz.le_trans l_54 l_60)))))), h.1.sub (.cons (k := 2) rfl (.nil _)), h.2⟩)
      · skip
        refine .skip ?_
        refine .code ?_
        refine .region ?_
        refine .move rfl rfl ?_
        refine .fieldAddr rfl Try.underlying114 rfl Try.sizeOf3 rfl ?_
        refine .loadO rfl Try.isAgg3 rfl (i := 0) rfl rfl ?_
        refine .letv (fun m_62 e63 => ?_)
        refine .mapUpdateE (key := x14.Country) (val := true) 1 rfl (Fz.le_trans l_30 (Fz.le_trans l_36 (Fz.le_trans l_42 (Fz.le_trans l_48 (Fz.le_trans l_54 l_60))))) Try.underlying133 (.int Try.underlying3) rfl rfl rfl (fun _ _ => rfl) e63 ?_
        refine .nil ?_
        refine .block ?_
        refine .code ?_
        refine .region ?_
        refine .add rfl rfl rfl ?_
        refine .move rfl rfl ?_
        refine .nil ?_
        refine .drop 0 ?_
        exact .nil (LPost.norm fun a w h => ⟨F_59, p10, k11, (Fz.le_trans l_9 (Fz.le_trans l_30 (Fz.le_trans l_36 (Fz.le_trans l_42 (Fz.le_trans l_48 (Fz.le_trans l_54 l_60)))))), h.1.sub (.cons (k := 0) rfl (.cons (k := 3) rfl (.cons (k := 7) rfl (.cons (k := 8) rfl (.cons (k := 9) rfl (.nil _)))))), h.2⟩)
    · skip
      refine .exitOut rfl (LPost.exit fun a w h => ⟨rfl, F_8, p10, k11, l_9, h.1.sub (.cons (k := 0) rfl (.cons (k := 3) rfl (.nil _))), h.2⟩)
  · intro b64 hb0 hk e a w hD
    rcases b64 with b64 | b64
    · skip
      obtain ⟨rfl, F_65, p67, k68, l_66, hA⟩ := hD
      refine interp_exit rfl (GE.app ?_ hk a w hA)
      refine .code ?_
      refine .seq ?_
      refine .region ?_
      refine .move rfl rfl ?_
      refine .lenS rfl rfl Try.underlying75 rfl ?_
      refine .leq rfl rfl rfl ?_
      refine .assign rfl rfl ?_
      refine .nil ?_
      refine .code ?_
      exact .ret0 Try.results62 (.tmp rfl (.nil)) (i := 1) rfl l_66 rfl
    obtain ⟨rfl, F_70, l_71, hA⟩ := hD
    exact interp_ret ((ret_post0 Try.results62 (.tmp rfl (.nil)) (i := 0) rfl l_71 rfl) hk a w hA)

noncomputable def b_slices_IndexFunc_LabelRule_1 (s1 : (List ApiLabelRule)) (f5 : (ApiLabelRule → Option Bool)) (s9 : Int) : Option (Ctl (Int) ((Unit) ⊕ (Int))) :=
  if (decide (s9 < (s1.length : Int))) then ((idxL s1 s9).bind fun x13 => (f5 x13).bind fun r_25 => if r_25 then (some (.done (.inr s9))) else (some (.next (w64 (s9 + 1))))) else (some (.done (.inl ())))
noncomputable def m_slices_IndexFunc_LabelRule (s1 : (List ApiLabelRule)) (f5 : (ApiLabelRule → Option Bool)) : Option Int :=
  (loopM (b_slices_IndexFunc_LabelRule_1 s1 f5) 0).bind fun b0 => match b0 with | .inl _b27 => (some (-1)) | .inr b27 => (some b27)
theorem c_slices_IndexFunc_LabelRule (F0 : Fz) (s1 : (List ApiLabelRule)) (p2 : Option Addr) (k3 : Nat) (h4 : RepSl 6 (Ex cApiLabelRule) F0 p2 k3 s1) (f5 : (ApiLabelRule → Option Bool)) (p6 : FuncId) (k7 : List Value) (h8 : RepFn Try.prog F0 p6 k7 (fun x _ vs => vs = [(eApiLabelRule x)]) (fun r _ v => v = (.bool r)) f5) : CT0 Try.prog 63 [(.slice p2 s1.length k3), (.func (.func p6) #[] k7.toArray)].toArray F0 (m_slices_IndexFunc_LabelRule s1 f5) (fun r _ v => v = (.int .i64 r)) := by
  refine CT0.enter Try.func63 rfl Try.ntmps63 rfl fun r R => ?_
  unfold m_slices_IndexFunc_LabelRule
  refine .seq ?_
  refine .region ?_
  refine .assign rfl rfl ?_
  refine .nil ?_
  refine .code ?_
  refine .seq ?_
  refine .seq ?_
  refine .region ?_
  refine .move rfl rfl ?_
  refine .lenS rfl rfl Try.underlying75 rfl ?_
  refine .move rfl rfl ?_
  refine .nil ?_
  refine .code ?_
  refine .block ?_
  refine .keep (.cons (k := 0) rfl (.cons (k := 1) rfl (.cons (k := 7) rfl (.cons (k := 8) rfl (.nil _))))) ?_
  refine .loop (fun (s9 : Int) a w => ∃ (F_10 : Fz), F0 ≤ F_10 ∧ Hd 19 [] [(0, (.slice p2 s1.length k3)), (1, (.func (.func p6) #[] k7.toArray)), (7, (.int .i64 (s1.length : Int))), (8, (.int .i64 s9))] F_10 [R] a w) (fun b0 e a w => match b0 with | .inl b27 => e = .exit 0 ∧ ∃ (F_28 : Fz), F0 ≤ F_28 ∧ Hd 19 [] [] F_28 [R] a w | .inr b27 => e = .ret ∧ ∃ (F_30 : Fz), F0 ≤ F_30 ∧ Hd 19 [] [(4, (.int .i64 b27))] F_30 [R] a w) ?_ ?_ ?_
  · exact fun a w h => ⟨F0, (Fz.le_refl _), h.1.sub (.cons (k := 0) rfl (.cons (k := 1) rfl (.cons (k := 7) rfl (.cons (k := 8) rfl (.nil _))))), h.2⟩
  · intro s9 ctl
    refine GC.ex (fun a w ⟨F_10, l_11, hA⟩ => ⟨_, hA, ?_⟩)
    unfold b_slices_IndexFunc_LabelRule_1
    refine .seq ?_
    refine .region ?_
    refine .lss rfl rfl rfl ?_
    refine .nil ?_
    refine .code ?_
    refine .seq ?_
    refine .cond rfl (fun hb12 => ?_) (fun hb12 => ?_)
    · skip
      refine .skip ?_
      refine .code ?_
      refine .seq ?_
      refine .block ?_
      refine .seq ?_
      refine .region ?_
      refine .move rfl rfl ?_
      refine .assign rfl rfl ?_
      refine .nil ?_
      refine .code ?_
      refine .seq ?_
      refine .region ?_
      refine .move rfl rfl ?_
      refine .move rfl rfl ?_
      refine .move rfl rfl ?_
      refine .idx rfl Try.underlying75 Try.sizeOf114 (h4.mono l_11) rfl rfl (fun x13 b14 o15 T16 fr17 cs18 e19 hm20 hv21 => ?_)
      refine .loadFA rfl Try.isAgg114 Try.sizeOf114 rfl hm20 hv21 rfl ?_
      refine .call0 rfl h8.1 rfl rfl rfl (h8.2 _ l_11 x13 [(eApiLabelRule x13)] rfl) ?_
      rintro r_25 F_23 _ - l_24 rfl
      refine .nil ?_
      refine .code ?_
      refine .cond rfl (fun hb26 => ?_) (fun hb26 => ?_)
      · skip
        refine .seq ?_
        refine .region ?_
        refine .move rfl rfl ?_
        refine .assign rfl rfl ?_
        refine .nil ?_
        refine .code ?_
        refine .retQ (LPost.ret fun a w h => ⟨rfl, F_23, (Fz.le_trans l_11 l_24), h.1.sub (.cons (k := 4) rfl (.nil _)), h.2⟩)
      · skip
        refine .skip ?_
        refine .block ?_
        refine .code ?_
        refine .region ?_
        refine .add rfl rfl rfl ?_
        refine .move rfl rfl ?_
        refine .nil ?_
        exact .nil (LPost.norm fun a w h => ⟨F_23, (Fz.le_trans l_11 l_24), h.1.sub (.cons (k := 0) rfl (.cons (k := 1) rfl (.cons (k := 7) rfl (.cons (k := 8) rfl (.nil _))))), h.2⟩)
    · skip
      refine .exitOut rfl (LPost.exit fun a w h => ⟨rfl, F_10, l_11, h.1.sub (.nil _), h.2⟩)
  · intro b27 hb0 hk e a w hD
    rcases b27 with b27 | b27
    · skip
      obtain ⟨rfl, F_28, l_29, hA⟩ := hD
      refine interp_exit rfl (GE.app ?_ hk a w hA)
      refine .code ?_
      refine .seq ?_
      refine .region ?_
      refine .assign rfl rfl ?_
      refine .nil ?_
      refine .code ?_
      exact .ret0 Try.results63 (.tmp rfl (.nil)) (i := 0) rfl l_29 rfl
    obtain ⟨rfl, F_30, l_31, hA⟩ := hD
    exact interp_ret ((ret_post0 Try.results63 (.tmp rfl (.nil)) (i := 0) rfl l_31 rfl) hk a w hA)

def m_bottle_Problems_1 (r_1 : ApiLabelRule) (c2 : Int) : Bool :=
  (r_1.Country == c2)
theorem c_bottle_Problems_1 (F0 : Fz) (r_1 : ApiLabelRule) (c2 : Int) (b3 : Nat) (hb4 : F0.mem b3 = some (.cells [(.int .i64 c2)].toArray 3)) : CT0 Try.prog 64 [(eApiLabelRule r_1), (.pointer (some ⟨b3, 0, none⟩))].toArray F0 (some (m_bottle_Problems_1 r_1 c2)) (fun r _ v => v = (.bool r)) := by
  refine CT0.enter Try.func64 rfl Try.ntmps64 rfl fun r R => ?_
  refine .seq ?_
  refine .region ?_
  refine .boxF (cs := (cApiLabelRule r_1)) rfl rfl rfl (fun b5 F_6 l_7 hb8 => ?_)
  refine .assign rfl rfl ?_
  refine .nil ?_
  refine .code ?_
  refine .seq ?_
  refine .region ?_
  refine .fieldAddr rfl Try.underlying114 rfl Try.sizeOf3 rfl ?_
  refine .loadF rfl Try.isAgg3 rfl hb8 rfl ?_
  refine .loadF rfl Try.isAgg3 rfl (l_7.mem _ _ hb4) rfl ?_
  refine .eql rfl rfl rfl ?_
  refine .assign rfl rfl ?_
  refine .nil ?_
  refine .code ?_
  exact .ret0 Try.results64 (.tmp rfl (.nil)) (i := 0) rfl l_7 rfl

def m_bottle_Problems_2_1 (c1 : ApiClaim) (c2 : Int) : Bool :=
  (c1.Kind == c2)
theorem c_bottle_Problems_2_1 (F0 : Fz) (c1 : ApiClaim) (c2 : Int) (b3 : Nat) (hb4 : F0.mem b3 = some (.cells [(.int .i64 c2)].toArray 3)) : CT0 Try.prog 67 [(eApiClaim c1), (.pointer (some ⟨b3, 0, none⟩))].toArray F0 (some (m_bottle_Problems_2_1 c1 c2)) (fun r _ v => v = (.bool r)) := by
  refine CT0.enter Try.func67 rfl Try.ntmps67 rfl fun r R => ?_
  refine .seq ?_
  refine .region ?_
  refine .boxF (cs := (cApiClaim c1)) rfl rfl rfl (fun b5 F_6 l_7 hb8 => ?_)
  refine .assign rfl rfl ?_
  refine .nil ?_
  refine .code ?_
  refine .seq ?_
  refine .region ?_
  refine .fieldAddr rfl Try.underlying46 rfl Try.sizeOf3 rfl ?_
  refine .loadF rfl Try.isAgg3 rfl hb8 rfl ?_
  refine .loadF rfl Try.isAgg3 rfl (l_7.mem _ _ hb4) rfl ?_
  refine .eql rfl rfl rfl ?_
  refine .assign rfl rfl ?_
  refine .nil ?_
  refine .code ?_
  exact .ret0 Try.results67 (.tmp rfl (.nil)) (i := 0) rfl l_7 rfl

noncomputable def m_bottle_Problems_2 (kind1 : Int) (c2 : (List ApiClaim)) : Option Bool :=
  (m_slices_ContainsFunc_Claim c2 (fun x => some (m_bottle_Problems_2_1 x kind1))).bind fun r_15 => some r_15
theorem c_bottle_Problems_2 (F0 : Fz) (kind1 : Int) (c2 : (List ApiClaim)) (b3 : Nat) (p5 : Option Addr) (k6 : Nat) (hb4 : F0.mem b3 = some (.cells [(.slice p5 c2.length k6)].toArray 39)) (h7 : RepSl 3 (Ex cApiClaim) F0 p5 k6 c2) : CT0 Try.prog 65 [(.int .i64 kind1), (.pointer (some ⟨b3, 0, none⟩))].toArray F0 (m_bottle_Problems_2 kind1 c2) (fun r _ v => v = (.bool r)) := by
  refine CT0.enter Try.func65 rfl Try.ntmps65 rfl fun r R => ?_
  unfold m_bottle_Problems_2
  refine .seq ?_
  refine .region ?_
  refine .boxF (cs := [(.int .i64 kind1)]) rfl rfl rfl (fun b8 F_9 l_10 hb11 => ?_)
  refine .assign rfl rfl ?_
  refine .nil ?_
  refine .code ?_
  refine .seq ?_
  refine .region ?_
  refine .loadF rfl Try.isAgg39 rfl (l_10.mem _ _ hb4) rfl ?_
  refine .makeFunc rfl rfl ?_
  have hf12 : RepFn Try.prog F_9 67 [(.pointer (some ⟨b8, 0, none⟩))] (fun x _ vs => vs = [(eApiClaim x)]) (fun r _ v => v = (.bool r)) (fun x => some (m_bottle_Problems_2_1 x kind1)) := ⟨Try.call67, fun F' le' x vs hv => by obtain rfl := hv; exact c_bottle_Problems_2_1 F' x kind1 b8 (le'.mem _ _ hb11)⟩
  refine .call0 rfl Try.call66 rfl rfl rfl (c_slices_ContainsFunc_Claim _ c2 p5 k6 (h7.mono l_10) (fun x => some (m_bottle_Problems_2_1 x kind1)) 67 ([(.pointer (some ⟨b8, 0, none⟩))]) hf12) ?_
  rintro r_15 F_13 _ - l_14 rfl
  refine .assign rfl rfl ?_
  refine .nil ?_
  refine .code ?_
  exact .ret0 Try.results65 (.tmp rfl (.nil)) (i := 0) rfl (Fz.le_trans l_10 l_14) rfl

noncomputable def m_bottle_kinds (set1 : Int) : Option (List Int) :=
  (L_bottle_kinds_1 set1).bind fun l_6 => some l_6
theorem c_bottle_kinds (F0 : Fz) (set1 : Int) : CT0 Try.prog 68 [(.int .i64 set1)].toArray F0 (m_bottle_kinds set1) (fun r F v => ∃ p0 k0, v = (.func (.func p0) #[] k0.toArray) ∧ RepIter Try.prog F p0 k0 (fun (x : Int) _ vs => vs = [(.int .i64 x)]) r) := by
  refine CT0.enter Try.func68 rfl Try.ntmps68 rfl fun r R => ?_
  unfold m_bottle_kinds
  refine .seq ?_
  refine .region ?_
  refine .boxF (cs := [(.int .i64 set1)]) rfl rfl rfl (fun b2 F_3 l_4 hb5 => ?_)
  refine .assign rfl rfl ?_
  refine .nil ?_
  refine .code ?_
  refine .seq ?_
  refine .region ?_
  refine .makeFunc rfl rfl ?_
  refine .bind (fun l_6 e7 => ?_)
  have h8 : RepIter Try.prog F_3 91 [(.pointer (some ⟨b2, 0, none⟩))] (fun (x : Int) _ vs => vs = [(.int .i64 x)]) l_6 := ⟨Try.call91, fun σ ly Y y F' le' hy s r hr => c_bottle_kinds_1 F' σ ly Y y hy set1 b2 (le'.mem _ _ hb5) s r (it_bottle_kinds_1 e7 hr)⟩
  refine .assign rfl rfl ?_
  refine .nil ?_
  refine .code ?_
  exact .ret0 Try.results68 (.tmp rfl (.nil)) (i := 0) rfl l_4 ⟨91, [(.pointer (some ⟨b2, 0, none⟩))], rfl, h8⟩

noncomputable def b_bottle_Problems_1 (l_5 : (List ApiClaim)) (x70 : Int) (s68 : Bool) : Option (Bool) :=
  (if s68 then some true else ((m_bottle_Problems_2 x70 l_5).bind fun r_77 => some (!r_77))).bind fun z81 => some z81
noncomputable def b_bottle_Problems_2 (l_5 : (List ApiClaim)) (x97 : Int) (s95 : Bool) : Option (Bool) :=
  (if s95 then some true else ((m_bottle_Problems_2 x97 l_5).bind fun r_104 => some r_104)).bind fun z108 => some z108
noncomputable def b_bottle_Problems_3 (r_28 : (BottleLabel × Bool)) (x48 : ApiLabelRule) (s84 : Bool) (s111 : Bool) (r_119 : (List Int)) (s191 : (List Int) × Int) : Option (Ctl ((List Int) × Int) (((List Int)))) :=
  if (decide (s191.2 < 6)) then (((idxO 6 s191.2).bind fun j198 => bindv ((arrOf [(decide (r_28.1.known.Strength.Lo < x48.Least)), (decide (r_28.1.known.Strength.Hi > x48.Most)), (decide (r_28.1.known.Age < x48.Age)), s84, s111, (decide ((r_119.length : Int) > 0))] false) j198) fun is_200 => (if is_200 then ((appO s191.1 ([s191.2])).bind fun l_208 => some l_208) else (some s191.1) : Option ((List Int))).bind fun j212 => some j212 : Option ((List Int))).bind fun j218 => some (.next (j218, (w64 (s191.2 + 1))))) else (some (.done s191.1))
noncomputable def m_bottle_Problems (b1 : ApiBatch) (l_5 : (List ApiClaim)) (rules9 : (List ApiLabelRule)) (country13 : Int) : Option ((List Int) × Int) :=
  (m_bottle_write b1 l_5).bind fun r_28 => (if (!r_28.2) then some true else ((m_bottle_areRules rules9).bind fun r_36 => some (!r_36))).bind fun z40 => if z40 then (some ([], 1)) else ((m_slices_IndexFunc_LabelRule rules9 (fun x => some (m_bottle_Problems_1 x country13))).bind fun r_46 => if (decide (r_46 < 0)) then (some ([], 4)) else ((idxL rules9 r_46).bind fun x48 => (m_bottle_kinds x48.Must).bind fun r_64 => (forL (b_bottle_Problems_1 l_5) r_64 false).bind fun s84 => (m_bottle_kinds x48.Never).bind fun r_91 => (forL (b_bottle_Problems_2 l_5) r_91 false).bind fun s111 => (m_bottle_label_lies r_28.1 l_5).bind fun r_119 => (loopM (b_bottle_Problems_3 r_28 x48 s84 s111 r_119) ([], 0)).bind fun b224 => some (b224, 0)))
theorem c_bottle_Problems (F0 : Fz) (b1 : ApiBatch) (p2 : Option Addr) (k3 : Nat) (h4 : RepSl 27 (Ex cApiDraught) F0 p2 k3 b1.Draughts) (l_5 : (List ApiClaim)) (p6 : Option Addr) (k7 : Nat) (h8 : RepSl 3 (Ex cApiClaim) F0 p6 k7 l_5) (rules9 : (List ApiLabelRule)) (p10 : Option Addr) (k11 : Nat) (h12 : RepSl 6 (Ex cApiLabelRule) F0 p10 k11 rules9) (country13 : Int) : CT0 Try.prog 29 [(eApiBatch b1 p2 k3), (.slice p6 l_5.length k7), (.slice p10 rules9.length k11), (.int .i64 country13)].toArray F0 (m_bottle_Problems b1 l_5 rules9 country13) (fun r F v => ∃ p0 k0, v = .tuple #[(.slice p0 r.1.length k0), (.int .i64 r.2)] ∧ RepSl 1 (Ex (cInt .i64)) F p0 k0 r.1) := by
  refine CT0.enterM Try.func29 rfl Try.ntmps29 rfl fun r R => ?_
  unfold m_bottle_Problems
  refine .seq ?_
  refine .region ?_
  refine .boxF (cs := (cApiBatch b1 p2 k3)) rfl rfl rfl (fun b14 F_15 l_16 hb17 => ?_)
  refine .boxF (cs := [(.slice p6 l_5.length k7)]) rfl rfl rfl (fun b18 F_19 l_20 hb21 => ?_)
  refine .boxF (cs := [(.int .i64 country13)]) rfl rfl rfl (fun b22 F_23 l_24 hb25 => ?_)
  refine .assign rfl rfl ?_
  refine .assign rfl rfl ?_
  refine .nil ?_
  refine .code ?_
  refine .seq ?_
  refine .region ?_
  refine .loadFA rfl Try.isAgg38 Try.sizeOf38 rfl ((Fz.le_trans l_20 l_24).mem _ _ hb17) (vs := (cApiBatch b1 p2 k3)) (by kernel_rfl) rfl ?_
  refine .loadF rfl Try.isAgg39 rfl (l_24.mem _ _ hb21) rfl ?_
  refine .call0 rfl Try.call45 rfl rfl rfl (c_bottle_write _ b1 p2 k3 (h4.mono (Fz.le_trans l_16 (Fz.le_trans l_20 l_24))) l_5 p6 k7 (h8.mono (Fz.le_trans l_16 (Fz.le_trans l_20 l_24)))) ?_
  rintro r_28 F_26 _ - l_27 ⟨p29, k30, rfl, h31⟩
  refine .move rfl rfl ?_
  refine .extract rfl rfl rfl ?_
  refine .extract rfl rfl rfl ?_
  refine .alloc (cs := (cBottleLabel (BottleLabel.mk (BottleBatch.mk (ApiBatch.mk ([]) 0 (ApiSpan.mk 0 0) false false) 0 0 0) (ApiBottling.mk (ApiSpan.mk 0 0) (ApiSpan.mk 0 0) 0 (fun _ => 0) (fun _ => 0) 0)) none 0)) rfl Try.zeroValue97 rfl (fun b32 => ?_)
  refine .store (cs' := (cBottleLabel r_28.1 p29 k30)) Try.sizeOf97 rfl rfl rfl rfl (i := 0) rfl (Nat.le_of_ble_eq_true rfl) rfl (setMany_all (by rfl)) ?_
  refine .assign rfl rfl ?_
  refine .nil ?_
  refine .code ?_
  refine .seq ?_
  refine .seq ?_
  refine .region ?_
  refine .move rfl rfl ?_
  refine .not rfl rfl ?_
  refine .move rfl rfl ?_
  refine .orM (b := (!r_28.2)) 4 34 (fun hb33 z41 => ?_) (fun hb37 => ?_) (fun z40 F_38 l_39 => ?_)
  · skip
    refine .onH hb33 rfl rfl ?_
    refine .move rfl rfl ?_
    refine .onH hb33 rfl rfl ?_
    refine .call0 rfl Try.call62 rfl rfl rfl (c_bottle_areRules _ rules9 p10 k11 (h12.mono (Fz.le_trans l_16 (Fz.le_trans l_20 (Fz.le_trans l_24 l_27))))) ?_
    rintro r_36 F_34 _ - l_35 rfl
    refine .onH hb33 rfl rfl ?_
    refine .not rfl rfl ?_
    refine .pickFH hb33 rfl rfl rfl ?_
    exact .finZ 4 rfl rfl (by kernel_rfl) l_35
  · skip
    refine .offH hb37 rfl rfl rfl ?_
    refine .offH hb37 rfl rfl rfl ?_
    refine .offH hb37 rfl rfl rfl ?_
    refine .pickTH hb37 rfl rfl rfl ?_
    exact .fin 4 rfl rfl (by kernel_rfl) (Fz.le_refl _)
  refine .nil ?_
  refine .code ?_
  refine .cond rfl (fun hb42 => ?_) (fun hb42 => ?_)
  · skip
    refine .seq ?_
    refine .region ?_
    refine .assign rfl rfl ?_
    refine .assign rfl rfl ?_
    refine .nil ?_
    refine .code ?_
    exact .ret0M [] Try.results29 trivial (.tmp rfl (.tmp rfl (.nil))) (i := 1) rfl (Fz.le_trans l_16 (Fz.le_trans l_20 (Fz.le_trans l_24 (Fz.le_trans l_27 l_39)))) ⟨none, 0, rfl, (RepSl.nil.mono (Fz.le_trans l_16 (Fz.le_trans l_20 (Fz.le_trans l_24 (Fz.le_trans l_27 l_39)))))⟩
  · skip
    refine .skip ?_
    refine .code ?_
    refine .seq ?_
    refine .region ?_
    refine .move rfl rfl ?_
    refine .makeFunc rfl rfl ?_
    have hf43 : RepFn Try.prog F_38 64 [(.pointer (some ⟨b22, 0, none⟩))] (fun x _ vs => vs = [(eApiLabelRule x)]) (fun r _ v => v = (.bool r)) (fun x => some (m_bottle_Problems_1 x country13)) := ⟨Try.call64, fun F' le' x vs hv => by obtain rfl := hv; exact c_bottle_Problems_1 F' x country13 b22 (le'.mem _ _ ((Fz.le_trans l_27 l_39).mem _ _ hb25))⟩
    refine .call0 rfl Try.call63 rfl rfl rfl (c_slices_IndexFunc_LabelRule _ rules9 p10 k11 (h12.mono (Fz.le_trans l_16 (Fz.le_trans l_20 (Fz.le_trans l_24 (Fz.le_trans l_27 l_39))))) (fun x => some (m_bottle_Problems_1 x country13)) 64 ([(.pointer (some ⟨b22, 0, none⟩))]) hf43) ?_
    rintro r_46 F_44 _ - l_45 rfl
    refine .assign rfl rfl ?_
    refine .nil ?_
    refine .keep (.cons (k := 2) rfl (.cons (k := 5) rfl (.cons (k := 10) rfl (.cons (k := 12) rfl (.nil _))))) ?_
    refine .code ?_
    refine .seq ?_
    refine .seq ?_
    refine .region ?_
    refine .move rfl rfl ?_
    refine .lss rfl rfl rfl ?_
    refine .nil ?_
    refine .code ?_
    refine .cond rfl (fun hb47 => ?_) (fun hb47 => ?_)
    · skip
      refine .seq ?_
      refine .region ?_
      refine .assign rfl rfl ?_
      refine .assign rfl rfl ?_
      refine .nil ?_
      refine .code ?_
      exact .ret0M [] Try.results29 trivial (.tmp rfl (.tmp rfl (.nil))) (i := 1) rfl (Fz.le_trans l_16 (Fz.le_trans l_20 (Fz.le_trans l_24 (Fz.le_trans l_27 (Fz.le_trans l_39 l_45))))) ⟨none, 0, rfl, (RepSl.nil.mono (Fz.le_trans l_16 (Fz.le_trans l_20 (Fz.le_trans l_24 (Fz.le_trans l_27 (Fz.le_trans l_39 l_45))))))⟩
    · skip
      refine .skip ?_
      refine .code ?_
      refine .seq ?_
      refine .region ?_
      refine .move rfl rfl ?_
      refine .move rfl rfl ?_
      refine .idx rfl Try.underlying75 Try.sizeOf114 (h12.mono (Fz.le_trans l_16 (Fz.le_trans l_20 (Fz.le_trans l_24 (Fz.le_trans l_27 (Fz.le_trans l_39 l_45)))))) rfl rfl (fun x48 b49 o50 T51 fr52 cs53 e54 hm55 hv56 => ?_)
      refine .loadFA rfl Try.isAgg114 Try.sizeOf114 rfl hm55 hv56 rfl ?_
      refine .alloc (cs := (cApiLabelRule (ApiLabelRule.mk 0 0 0 0 0 0))) rfl Try.zeroValue114 rfl (fun b58 => ?_)
      refine .store (cs' := (cApiLabelRule x48)) Try.sizeOf114 rfl rfl rfl rfl (i := 0) rfl (Nat.le_of_ble_eq_true rfl) rfl (setMany_all (by rfl)) ?_
      refine .nil ?_
      refine .code ?_
      refine .seq ?_
      refine .region ?_
      refine .makeFunc rfl rfl ?_
      refine .alloc (cs := [.nilFunc]) rfl Try.zeroValue65 rfl (fun b59 => ?_)
      refine .store (cs' := [(.func (.func 65) #[] [(.pointer (some ⟨b18, 0, none⟩))].toArray)]) Try.sizeOf65 rfl rfl rfl rfl (i := 0) rfl (Nat.le_of_ble_eq_true rfl) rfl rfl ?_
      refine .nil ?_
      refine .code ?_
      refine .seq ?_
      refine .region ?_
      refine .alloc (cs := [(.bool false)]) rfl Try.zeroValue4 rfl (fun b60 => ?_)
      refine .alloc (cs := [(.bool false)]) rfl Try.zeroValue4 rfl (fun b61 => ?_)
      refine .store (cs' := [(.bool false)]) Try.sizeOf4 rfl rfl rfl rfl (i := 1) rfl (Nat.le_of_ble_eq_true rfl) rfl rfl ?_
      refine .store (cs' := [(.bool false)]) Try.sizeOf4 rfl rfl rfl rfl (i := 0) rfl (Nat.le_of_ble_eq_true rfl) rfl rfl ?_
      refine .nil ?_
      refine .code ?_
      refine .seq ?_
      refine .seq ?_
      refine .region ?_
      refine .fieldAddr rfl Try.underlying114 rfl Try.sizeOf3 rfl ?_
      refine .loadO rfl Try.isAgg3 rfl (i := 3) rfl rfl ?_
      refine .call0 rfl Try.call68 rfl rfl rfl (c_bottle_kinds _ x48.Must) ?_
      rintro r_64 F_62 _ - l_63 ⟨p65, k66, rfl, h67⟩
      refine .nil ?_
      refine .code ?_
      refine .block ?_
      refine .keep (.cons (k := 5) rfl (.cons (k := 10) rfl (.cons (k := 13) rfl (.cons (k := 14) rfl (.cons (k := 15) rfl (.cons (k := 16) rfl (.cons (k := 47) rfl (.nil _)))))))) ?_
      refine .rangeFor (τ := Bool) (fun s68 F_69 hs' => hs' = [pt b61 (.cells [(.bool false)].toArray 4), pt b60 (.cells [(.bool s68)].toArray 4), pt b59 (.cells [(.func (.func 65) #[] [(.pointer (some ⟨b18, 0, none⟩))].toArray)].toArray 65), pt b58 (.cells (cApiLabelRule x48).toArray 114), pt b32 (.cells (cBottleLabel r_28.1 p29 k30).toArray 97), R]) rfl h67 rfl (fun _ _ _ h => by rw [h]; rfl) rfl ?_ ?_
      · intro lp Lp F_69 F_73 x70 vs s68 ctl Rp hs' l_71 l_72 hx hI
        obtain rfl := hx
        obtain rfl := hI
        unfold b_bottle_Problems_1
        refine .keep (.cons (k := 5) rfl (.cons (k := 10) rfl (.cons (k := 13) rfl (.cons (k := 14) rfl (.cons (k := 15) rfl (.cons (k := 16) rfl (.cons (k := 47) rfl (.cons (k := 48) rfl (.nil _))))))))) ?_
        refine .region ?_
        refine .assign rfl rfl ?_
        refine .nil ?_
        refine GE.begin 0 rfl ?_
        refine .block ?_
        refine .region ?_
        refine .loadO rfl Try.isAgg4 rfl (i := 3) rfl rfl ?_
        refine .move rfl rfl ?_
        refine .orM (b := s68) 5 55 (fun hb74 z82 => ?_) (fun hb78 => ?_) (fun z81 F_79 l_80 => ?_)
        · skip
          refine .onH hb74 rfl rfl ?_
          refine .loadO rfl Try.isAgg65 rfl (i := 4) rfl rfl ?_
          refine .onH hb74 rfl rfl ?_
          refine .move rfl rfl ?_
          refine .onH hb74 rfl rfl ?_
          refine .call0 rfl Try.call65 rfl rfl rfl (c_bottle_Problems_2 _ x70 l_5 b18 p6 k7 ((Fz.le_trans l_24 (Fz.le_trans l_27 (Fz.le_trans l_39 (Fz.le_trans l_45 (Fz.le_trans l_63 (Fz.le_trans l_71 l_72)))))).mem _ _ hb21) (h8.mono (Fz.le_trans l_16 (Fz.le_trans l_20 (Fz.le_trans l_24 (Fz.le_trans l_27 (Fz.le_trans l_39 (Fz.le_trans l_45 (Fz.le_trans l_63 (Fz.le_trans l_71 l_72)))))))))) ?_
          rintro r_77 F_75 _ - l_76 rfl
          refine .onH hb74 rfl rfl ?_
          refine .not rfl rfl ?_
          refine .pickFH hb74 rfl rfl rfl ?_
          exact .finZ 5 rfl rfl (by kernel_rfl) l_76
        · skip
          refine .offH hb78 rfl rfl rfl ?_
          refine .offH hb78 rfl rfl rfl ?_
          refine .offH hb78 rfl rfl rfl ?_
          refine .offH hb78 rfl rfl rfl ?_
          refine .pickTH hb78 rfl rfl rfl ?_
          exact .fin 5 rfl rfl (by kernel_rfl) (Fz.le_refl _)
        refine .store (cs' := [(.bool z81)]) Try.sizeOf4 rfl rfl rfl rfl (i := 3) rfl (Nat.le_of_ble_eq_true rfl) rfl rfl ?_
        refine .nil ?_
        refine .block ?_
        exact .nil (RP.normF l_80 rfl rfl)
      · intro q83 F_85 F_86 s84 hs' l_87 l_88 he hI
        obtain rfl := hI
        refine .block ?_
        refine .code ?_
        refine .seq ?_
        refine .seq ?_
        refine .region ?_
        refine .fieldAddr rfl Try.underlying114 rfl Try.sizeOf3 rfl ?_
        refine .loadO rfl Try.isAgg3 rfl (i := 4) rfl rfl ?_
        refine .call0 rfl Try.call68 rfl rfl rfl (c_bottle_kinds _ x48.Never) ?_
        rintro r_91 F_89 _ - l_90 ⟨p92, k93, rfl, h94⟩
        refine .nil ?_
        refine .code ?_
        refine .block ?_
        refine .keep (.cons (k := 5) rfl (.cons (k := 10) rfl (.cons (k := 13) rfl (.cons (k := 14) rfl (.cons (k := 15) rfl (.cons (k := 16) rfl (.cons (k := 58) rfl (.nil _)))))))) ?_
        refine .rangeFor (τ := Bool) (fun s95 F_96 hs' => hs' = [pt q83 (.deferred (some [])), pt b61 (.cells [(.bool s95)].toArray 4), pt b60 (.cells [(.bool s84)].toArray 4), pt b59 (.cells [(.func (.func 65) #[] [(.pointer (some ⟨b18, 0, none⟩))].toArray)].toArray 65), pt b58 (.cells (cApiLabelRule x48).toArray 114), pt b32 (.cells (cBottleLabel r_28.1 p29 k30).toArray 97), R]) rfl h94 rfl (fun _ _ _ h => by rw [h]; rfl) rfl ?_ ?_
        · intro lp Lp F_96 F_100 x97 vs s95 ctl Rp hs' l_98 l_99 hx hI
          obtain rfl := hx
          obtain rfl := hI
          unfold b_bottle_Problems_2
          refine .keep (.cons (k := 5) rfl (.cons (k := 10) rfl (.cons (k := 13) rfl (.cons (k := 14) rfl (.cons (k := 15) rfl (.cons (k := 16) rfl (.cons (k := 58) rfl (.cons (k := 59) rfl (.nil _))))))))) ?_
          refine .region ?_
          refine .assign rfl rfl ?_
          refine .nil ?_
          refine GE.begin 0 rfl ?_
          refine .block ?_
          refine .region ?_
          refine .loadO rfl Try.isAgg4 rfl (i := 3) rfl rfl ?_
          refine .move rfl rfl ?_
          refine .orM (b := s95) 4 65 (fun hb101 z109 => ?_) (fun hb105 => ?_) (fun z108 F_106 l_107 => ?_)
          · skip
            refine .onH hb101 rfl rfl ?_
            refine .loadO rfl Try.isAgg65 rfl (i := 5) rfl rfl ?_
            refine .onH hb101 rfl rfl ?_
            refine .move rfl rfl ?_
            refine .onH hb101 rfl rfl ?_
            refine .call0 rfl Try.call65 rfl rfl rfl (c_bottle_Problems_2 _ x97 l_5 b18 p6 k7 ((Fz.le_trans l_24 (Fz.le_trans l_27 (Fz.le_trans l_39 (Fz.le_trans l_45 (Fz.le_trans l_63 (Fz.le_trans l_87 (Fz.le_trans l_88 (Fz.le_trans l_90 (Fz.le_trans l_98 l_99))))))))).mem _ _ hb21) (h8.mono (Fz.le_trans l_16 (Fz.le_trans l_20 (Fz.le_trans l_24 (Fz.le_trans l_27 (Fz.le_trans l_39 (Fz.le_trans l_45 (Fz.le_trans l_63 (Fz.le_trans l_87 (Fz.le_trans l_88 (Fz.le_trans l_90 (Fz.le_trans l_98 l_99))))))))))))) ?_
            rintro r_104 F_102 _ - l_103 rfl
            refine .pickFH hb101 rfl rfl rfl ?_
            exact .finZ 4 rfl rfl (by kernel_rfl) l_103
          · skip
            refine .offH hb105 rfl rfl rfl ?_
            refine .offH hb105 rfl rfl rfl ?_
            refine .offH hb105 rfl rfl rfl ?_
            refine .pickTH hb105 rfl rfl rfl ?_
            exact .fin 4 rfl rfl (by kernel_rfl) (Fz.le_refl _)
          refine .store (cs' := [(.bool z108)]) Try.sizeOf4 rfl rfl rfl rfl (i := 3) rfl (Nat.le_of_ble_eq_true rfl) rfl rfl ?_
          refine .nil ?_
          refine .block ?_
          exact .nil (RP.normF l_107 rfl rfl)
        · intro q110 F_112 F_113 s111 hs' l_114 l_115 he hI
          obtain rfl := hI
          refine .block ?_
          refine .code ?_
          refine .seq ?_
          refine .region ?_
          refine .assign rfl rfl ?_
          refine .nil ?_
          refine .code ?_
          refine .seq ?_
          refine .seq ?_
          refine .keep (.cons (k := 5) rfl (.cons (k := 10) rfl (.cons (k := 13) rfl (.cons (k := 15) rfl (.cons (k := 16) rfl (.cons (k := 19) rfl (.nil _))))))) ?_
          refine .bind (fun r_119 hx124 => ?_)
          refine .drawG 29 0 (fun env116 => [((.pointer (some ⟨b32, 0 + 9, none⟩)), fun _ => True), ((.pointer (some ⟨b32, 0 + 9 + 2, none⟩)), fun _ => True), ((.pointer (some ⟨b32, 0 + 9 + 2 + 0, none⟩)), fun _ => True), ((.int .i64 r_28.1.known.Strength.Lo), fun _ => True), ((.pointer (some ⟨b58, 0 + 1, none⟩)), fun _ => True), ((.int .i64 x48.Least), fun _ => True), ((.bool (decide (r_28.1.known.Strength.Lo < x48.Least))), fun _ => True), ((.pointer (some ⟨b32, 0 + 9, none⟩)), fun _ => True), ((.pointer (some ⟨b32, 0 + 9 + 2, none⟩)), fun _ => True), ((.pointer (some ⟨b32, 0 + 9 + 2 + 1, none⟩)), fun _ => True), ((.int .i64 r_28.1.known.Strength.Hi), fun _ => True), ((.pointer (some ⟨b58, 0 + 2, none⟩)), fun _ => True), ((.int .i64 x48.Most), fun _ => True), ((.bool (decide (r_28.1.known.Strength.Hi > x48.Most))), fun _ => True), ((.pointer (some ⟨b32, 0 + 9, none⟩)), fun _ => True), ((.pointer (some ⟨b32, 0 + 9 + 4, none⟩)), fun _ => True), ((.int .i64 r_28.1.known.Age), fun _ => True), ((.pointer (some ⟨b58, 0 + 3, none⟩)), fun _ => True), ((.int .i64 x48.Age), fun _ => True), ((.bool (decide (r_28.1.known.Age < x48.Age))), fun _ => True), ((.bool s84), fun _ => True), ((.bool s111), fun _ => True), ((eBottleLabel r_28.1 p29 k30), fun _ => True), ((.slice p6 l_5.length k7), fun _ => True), ((.slice (env116.a 240) r_119.length (env116.n 240)), fun G => RepSl 1 (Ex (cInt .i64)) G (env116.a 240) (env116.n 240) r_119), ((.int .i64 (r_119.length : Int)), fun _ => True), ((.bool (decide ((r_119.length : Int) > 0))), fun _ => True), ((.agg ((cArr 6 cBool) (arrOf [(decide (r_28.1.known.Strength.Lo < x48.Least)), (decide (r_28.1.known.Strength.Hi > x48.Most)), (decide (r_28.1.known.Age < x48.Age)), s84, s111, (decide ((r_119.length : Int) > 0))] false)).toArray), fun _ => True), ((.int .i64 0), fun _ => True)]) (fun L env116 => [pt q110 (.deferred (some [])), pt q83 (.deferred (some [])), pt b61 (.cells [(.bool s111)].toArray 4), pt b60 (.cells [(.bool s84)].toArray 4), pt b59 (.cells [(.func (.func 65) #[] [(.pointer (some ⟨b18, 0, none⟩))].toArray)].toArray 65), pt b58 (.cells (cApiLabelRule x48).toArray 114), pt b32 (.cells (cBottleLabel r_28.1 p29 k30).toArray 97), R]) mixedOK (by kernel_rfl) (by kernel_rfl) rfl (fun _ => rfl) (by kernel_rfl) (fun _ => rfl) ?_ (fun env116 F_125 l_126 hphi => ?_)
          · skip
            refine .cons (fun L env116 F_127 l_128 hL hdn hup hphi => ⟨[(10, (.pointer (some ⟨b32, 0, none⟩)))], fun S hS hV => (.cons (hS _ _ rfl) (Sub.nil _)), ?_⟩) ?_
            · skip
              refine .fieldAddr rfl Try.underlying97 rfl Try.sizeOf56 rfl ?_
              exact .finV rfl rfl (Fz.le_refl _)
            refine .cons (fun L env116 F_129 l_130 hL hdn hup hphi => ⟨[(66, (.pointer (some ⟨b32, 0 + 9, none⟩)))], fun S hS hV => (.cons (hV 0 66 _ (hdn 1 0 rfl) rfl rfl) (Sub.nil _)), ?_⟩) ?_
            · skip
              refine .fieldAddr rfl Try.underlying56 rfl Try.sizeOf36 rfl ?_
              exact .finV rfl rfl (Fz.le_refl _)
            refine .cons (fun L env116 F_131 l_132 hL hdn hup hphi => ⟨[(67, (.pointer (some ⟨b32, 0 + 9 + 2, none⟩)))], fun S hS hV => (.cons (hV 1 67 _ (hdn 1 1 rfl) rfl rfl) (Sub.nil _)), ?_⟩) ?_
            · skip
              refine .fieldAddr rfl Try.underlying36 rfl Try.sizeOf3 rfl ?_
              exact .finV rfl rfl (Fz.le_refl _)
            refine .cons (fun L env116 F_133 l_134 hL hdn hup hphi => ⟨[(68, (.pointer (some ⟨b32, 0 + 9 + 2 + 0, none⟩)))], fun S hS hV => (.cons (hV 2 68 _ (hdn 1 2 rfl) rfl rfl) (Sub.nil _)), ?_⟩) ?_
            · skip
              refine .loadO rfl Try.isAgg3 rfl (i := 6) rfl rfl ?_
              exact .finV rfl rfl (Fz.le_refl _)
            refine .cons (fun L env116 F_135 l_136 hL hdn hup hphi => ⟨[(13, (.pointer (some ⟨b58, 0, none⟩)))], fun S hS hV => (.cons (hS _ _ rfl) (Sub.nil _)), ?_⟩) ?_
            · skip
              refine .fieldAddr rfl Try.underlying114 rfl Try.sizeOf3 rfl ?_
              exact .finV rfl rfl (Fz.le_refl _)
            refine .cons (fun L env116 F_137 l_138 hL hdn hup hphi => ⟨[(70, (.pointer (some ⟨b58, 0 + 1, none⟩)))], fun S hS hV => (.cons (hV 4 70 _ (hdn 1 4 rfl) rfl rfl) (Sub.nil _)), ?_⟩) ?_
            · skip
              refine .loadO rfl Try.isAgg3 rfl (i := 5) rfl rfl ?_
              exact .finV rfl rfl (Fz.le_refl _)
            refine .cons (fun L env116 F_139 l_140 hL hdn hup hphi => ⟨[(69, (.int .i64 r_28.1.known.Strength.Lo)), (71, (.int .i64 x48.Least))], fun S hS hV => (.cons (hV 3 69 _ (hdn 1 3 rfl) rfl rfl) (.cons (hV 5 71 _ (hdn 1 5 rfl) rfl rfl) (Sub.nil _))), ?_⟩) ?_
            · skip
              refine .lss rfl rfl rfl ?_
              exact .finV rfl rfl (Fz.le_refl _)
            refine .cons (fun L env116 F_141 l_142 hL hdn hup hphi => ⟨[(10, (.pointer (some ⟨b32, 0, none⟩)))], fun S hS hV => (.cons (hS _ _ rfl) (Sub.nil _)), ?_⟩) ?_
            · skip
              refine .fieldAddr rfl Try.underlying97 rfl Try.sizeOf56 rfl ?_
              exact .finV rfl rfl (Fz.le_refl _)
            refine .cons (fun L env116 F_143 l_144 hL hdn hup hphi => ⟨[(73, (.pointer (some ⟨b32, 0 + 9, none⟩)))], fun S hS hV => (.cons (hV 7 73 _ (hdn 1 7 rfl) rfl rfl) (Sub.nil _)), ?_⟩) ?_
            · skip
              refine .fieldAddr rfl Try.underlying56 rfl Try.sizeOf36 rfl ?_
              exact .finV rfl rfl (Fz.le_refl _)
            refine .cons (fun L env116 F_145 l_146 hL hdn hup hphi => ⟨[(74, (.pointer (some ⟨b32, 0 + 9 + 2, none⟩)))], fun S hS hV => (.cons (hV 8 74 _ (hdn 1 8 rfl) rfl rfl) (Sub.nil _)), ?_⟩) ?_
            · skip
              refine .fieldAddr rfl Try.underlying36 rfl Try.sizeOf3 rfl ?_
              exact .finV rfl rfl (Fz.le_refl _)
            refine .cons (fun L env116 F_147 l_148 hL hdn hup hphi => ⟨[(75, (.pointer (some ⟨b32, 0 + 9 + 2 + 1, none⟩)))], fun S hS hV => (.cons (hV 9 75 _ (hdn 1 9 rfl) rfl rfl) (Sub.nil _)), ?_⟩) ?_
            · skip
              refine .loadO rfl Try.isAgg3 rfl (i := 6) rfl rfl ?_
              exact .finV rfl rfl (Fz.le_refl _)
            refine .cons (fun L env116 F_149 l_150 hL hdn hup hphi => ⟨[(13, (.pointer (some ⟨b58, 0, none⟩)))], fun S hS hV => (.cons (hS _ _ rfl) (Sub.nil _)), ?_⟩) ?_
            · skip
              refine .fieldAddr rfl Try.underlying114 rfl Try.sizeOf3 rfl ?_
              exact .finV rfl rfl (Fz.le_refl _)
            refine .cons (fun L env116 F_151 l_152 hL hdn hup hphi => ⟨[(77, (.pointer (some ⟨b58, 0 + 2, none⟩)))], fun S hS hV => (.cons (hV 11 77 _ (hdn 1 11 rfl) rfl rfl) (Sub.nil _)), ?_⟩) ?_
            · skip
              refine .loadO rfl Try.isAgg3 rfl (i := 5) rfl rfl ?_
              exact .finV rfl rfl (Fz.le_refl _)
            refine .cons (fun L env116 F_153 l_154 hL hdn hup hphi => ⟨[(76, (.int .i64 r_28.1.known.Strength.Hi)), (78, (.int .i64 x48.Most))], fun S hS hV => (.cons (hV 10 76 _ (hdn 1 10 rfl) rfl rfl) (.cons (hV 12 78 _ (hdn 1 12 rfl) rfl rfl) (Sub.nil _))), ?_⟩) ?_
            · skip
              refine .gtr rfl rfl rfl ?_
              exact .finV rfl rfl (Fz.le_refl _)
            refine .cons (fun L env116 F_155 l_156 hL hdn hup hphi => ⟨[(10, (.pointer (some ⟨b32, 0, none⟩)))], fun S hS hV => (.cons (hS _ _ rfl) (Sub.nil _)), ?_⟩) ?_
            · skip
              refine .fieldAddr rfl Try.underlying97 rfl Try.sizeOf56 rfl ?_
              exact .finV rfl rfl (Fz.le_refl _)
            refine .cons (fun L env116 F_157 l_158 hL hdn hup hphi => ⟨[(80, (.pointer (some ⟨b32, 0 + 9, none⟩)))], fun S hS hV => (.cons (hV 14 80 _ (hdn 1 14 rfl) rfl rfl) (Sub.nil _)), ?_⟩) ?_
            · skip
              refine .fieldAddr rfl Try.underlying56 rfl Try.sizeOf3 rfl ?_
              exact .finV rfl rfl (Fz.le_refl _)
            refine .cons (fun L env116 F_159 l_160 hL hdn hup hphi => ⟨[(81, (.pointer (some ⟨b32, 0 + 9 + 4, none⟩)))], fun S hS hV => (.cons (hV 15 81 _ (hdn 1 15 rfl) rfl rfl) (Sub.nil _)), ?_⟩) ?_
            · skip
              refine .loadO rfl Try.isAgg3 rfl (i := 6) rfl rfl ?_
              exact .finV rfl rfl (Fz.le_refl _)
            refine .cons (fun L env116 F_161 l_162 hL hdn hup hphi => ⟨[(13, (.pointer (some ⟨b58, 0, none⟩)))], fun S hS hV => (.cons (hS _ _ rfl) (Sub.nil _)), ?_⟩) ?_
            · skip
              refine .fieldAddr rfl Try.underlying114 rfl Try.sizeOf3 rfl ?_
              exact .finV rfl rfl (Fz.le_refl _)
            refine .cons (fun L env116 F_163 l_164 hL hdn hup hphi => ⟨[(83, (.pointer (some ⟨b58, 0 + 3, none⟩)))], fun S hS hV => (.cons (hV 17 83 _ (hdn 1 17 rfl) rfl rfl) (Sub.nil _)), ?_⟩) ?_
            · skip
              refine .loadO rfl Try.isAgg3 rfl (i := 5) rfl rfl ?_
              exact .finV rfl rfl (Fz.le_refl _)
            refine .cons (fun L env116 F_165 l_166 hL hdn hup hphi => ⟨[(82, (.int .i64 r_28.1.known.Age)), (84, (.int .i64 x48.Age))], fun S hS hV => (.cons (hV 16 82 _ (hdn 1 16 rfl) rfl rfl) (.cons (hV 18 84 _ (hdn 1 18 rfl) rfl rfl) (Sub.nil _))), ?_⟩) ?_
            · skip
              refine .lss rfl rfl rfl ?_
              exact .finV rfl rfl (Fz.le_refl _)
            refine .cons (fun L env116 F_167 l_168 hL hdn hup hphi => ⟨[(15, (.pointer (some ⟨b60, 0, none⟩)))], fun S hS hV => (.cons (hS _ _ rfl) (Sub.nil _)), ?_⟩) ?_
            · skip
              refine .loadO rfl Try.isAgg4 rfl (i := 3) rfl rfl ?_
              exact .finV rfl rfl (Fz.le_refl _)
            refine .cons (fun L env116 F_169 l_170 hL hdn hup hphi => ⟨[(16, (.pointer (some ⟨b61, 0, none⟩)))], fun S hS hV => (.cons (hS _ _ rfl) (Sub.nil _)), ?_⟩) ?_
            · skip
              refine .loadO rfl Try.isAgg4 rfl (i := 2) rfl rfl ?_
              exact .finV rfl rfl (Fz.le_refl _)
            refine .cons (fun L env116 F_171 l_172 hL hdn hup hphi => ⟨[(10, (.pointer (some ⟨b32, 0, none⟩)))], fun S hS hV => (.cons (hS _ _ rfl) (Sub.nil _)), ?_⟩) ?_
            · skip
              refine .loadOA rfl Try.isAgg97 Try.sizeOf97 rfl (i := 6) rfl (vs := (cBottleLabel r_28.1 p29 k30)) (by kernel_rfl) rfl ?_
              exact .finV rfl rfl (Fz.le_refl _)
            refine .cons (fun L env116 F_173 l_174 hL hdn hup hphi => ⟨[(5, (.pointer (some ⟨b18, 0, none⟩)))], fun S hS hV => (.cons (hS _ _ rfl) (Sub.nil _)), ?_⟩) ?_
            · skip
              refine .loadF rfl Try.isAgg39 rfl ((Fz.le_trans l_24 (Fz.le_trans l_27 (Fz.le_trans l_39 (Fz.le_trans l_45 (Fz.le_trans l_63 (Fz.le_trans l_87 (Fz.le_trans l_88 (Fz.le_trans l_90 (Fz.le_trans l_114 (Fz.le_trans l_115 l_174)))))))))).mem _ _ hb21) rfl ?_
              exact .finV rfl rfl (Fz.le_refl _)
            refine .cons (fun L env116 F_175 l_176 hL hdn hup hphi => ⟨[(88, (eBottleLabel r_28.1 p29 k30)), (89, (.slice p6 l_5.length k7))], fun S hS hV => (.cons (hV 22 88 _ (hdn 1 22 rfl) rfl rfl) (.cons (hV 23 89 _ (hdn 1 23 rfl) rfl rfl) (Sub.nil _))), ?_⟩) ?_
            · skip
              refine .callK hx124 rfl Try.call46 rfl rfl rfl (c_bottle_label_lies _ r_28.1 p29 k30 (h31.mono (Fz.le_trans l_39 (Fz.le_trans l_45 (Fz.le_trans l_63 (Fz.le_trans l_87 (Fz.le_trans l_88 (Fz.le_trans l_90 (Fz.le_trans l_114 (Fz.le_trans l_115 l_176))))))))) l_5 p6 k7 (h8.mono (Fz.le_trans l_16 (Fz.le_trans l_20 (Fz.le_trans l_24 (Fz.le_trans l_27 (Fz.le_trans l_39 (Fz.le_trans l_45 (Fz.le_trans l_63 (Fz.le_trans l_87 (Fz.le_trans l_88 (Fz.le_trans l_90 (Fz.le_trans l_114 (Fz.le_trans l_115 l_176)))))))))))))) ?_
              rintro F_177 _ l_178 ⟨p179, k180, rfl, h181⟩
              exact .finQ ({ env116 with a := (updN env116.a 240 p179), n := (updN env116.n 240 k180), c := env116.c }) [true, true, true, true, true, true, true, true, true, true, true, true, true, true, true, true, true, true, true, true, true, true, true, true, false, false, false, false, true] rfl (by kernel_rfl) rfl rfl l_178 (fun _ le => h181.mono le) (cons_eq rfl (cons_eq rfl (cons_eq rfl (cons_eq rfl (cons_eq rfl (cons_eq rfl (cons_eq rfl (cons_eq rfl rfl))))))))
            refine .cons (fun L env116 F_182 l_183 hL hdn hup hphi => ⟨[(90, (.slice (env116.a 240) r_119.length (env116.n 240)))], fun S hS hV => (.cons (hV 24 90 _ (hdn 1 24 rfl) rfl rfl) (Sub.nil _)), ?_⟩) ?_
            · skip
              have h123 := hphi 24 _ (hdn 1 24 rfl) rfl _ (Fz.le_refl _)
              refine .lenS rfl rfl Try.underlying40 rfl ?_
              exact .finV rfl rfl (Fz.le_refl _)
            refine .cons (fun L env116 F_184 l_185 hL hdn hup hphi => ⟨[(91, (.int .i64 (r_119.length : Int)))], fun S hS hV => (.cons (hV 25 91 _ (hdn 1 25 rfl) rfl rfl) (Sub.nil _)), ?_⟩) ?_
            · skip
              have h123 := hphi 24 _ (hdn 2 24 rfl) rfl _ (Fz.le_refl _)
              refine .gtr rfl rfl rfl ?_
              exact .finV rfl rfl (Fz.le_refl _)
            refine .cons (fun L env116 F_186 l_187 hL hdn hup hphi => ⟨[(72, (.bool (decide (r_28.1.known.Strength.Lo < x48.Least)))), (79, (.bool (decide (r_28.1.known.Strength.Hi > x48.Most)))), (85, (.bool (decide (r_28.1.known.Age < x48.Age)))), (86, (.bool s84)), (87, (.bool s111)), (92, (.bool (decide ((r_119.length : Int) > 0))))], fun S hS hV => (.cons (hV 6 72 _ (hdn 1 6 rfl) rfl rfl) (.cons (hV 13 79 _ (hdn 1 13 rfl) rfl rfl) (.cons (hV 19 85 _ (hdn 1 19 rfl) rfl rfl) (.cons (hV 20 86 _ (hdn 1 20 rfl) rfl rfl) (.cons (hV 21 87 _ (hdn 1 21 rfl) rfl rfl) (.cons (hV 26 92 _ (hdn 1 26 rfl) rfl rfl) (Sub.nil _))))))), ?_⟩) ?_
            · skip
              have h123 := hphi 24 _ (hdn 3 24 rfl) rfl _ (Fz.le_refl _)
              refine .buildA (cs := ((cArr 6 cBool) (arrOf [(decide (r_28.1.known.Strength.Lo < x48.Least)), (decide (r_28.1.known.Strength.Hi > x48.Most)), (decide (r_28.1.known.Age < x48.Age)), s84, s111, (decide ((r_119.length : Int) > 0))] false)).toArray) rfl Try.underlying120 Try.zeroValue120 Try.sizeOf4 rfl rfl (by kernel_rfl) ?_
              exact .finV rfl rfl (Fz.le_refl _)
            refine .cons (fun L env116 F_188 l_189 hL hdn hup hphi => ⟨[], fun S hS hV => (Sub.nil _), ?_⟩) ?_
            · skip
              refine .move rfl rfl ?_
              exact .finV rfl rfl (Fz.le_refl _)
            exact .nil
          have h123 := hphi 24 _ rfl
          refine .norm (S' := [(5, (.pointer (some ⟨b18, 0, none⟩))), (10, (.pointer (some ⟨b32, 0, none⟩))), (13, (.pointer (some ⟨b58, 0, none⟩))), (15, (.pointer (some ⟨b60, 0, none⟩))), (16, (.pointer (some ⟨b61, 0, none⟩))), (19, (.slice none 0 0)), (66, (.pointer (some ⟨b32, 0 + 9, none⟩))), (67, (.pointer (some ⟨b32, 0 + 9 + 2, none⟩))), (68, (.pointer (some ⟨b32, 0 + 9 + 2 + 0, none⟩))), (69, (.int .i64 r_28.1.known.Strength.Lo)), (70, (.pointer (some ⟨b58, 0 + 1, none⟩))), (71, (.int .i64 x48.Least)), (72, (.bool (decide (r_28.1.known.Strength.Lo < x48.Least)))), (73, (.pointer (some ⟨b32, 0 + 9, none⟩))), (74, (.pointer (some ⟨b32, 0 + 9 + 2, none⟩))), (75, (.pointer (some ⟨b32, 0 + 9 + 2 + 1, none⟩))), (76, (.int .i64 r_28.1.known.Strength.Hi)), (77, (.pointer (some ⟨b58, 0 + 2, none⟩))), (78, (.int .i64 x48.Most)), (79, (.bool (decide (r_28.1.known.Strength.Hi > x48.Most)))), (80, (.pointer (some ⟨b32, 0 + 9, none⟩))), (81, (.pointer (some ⟨b32, 0 + 9 + 4, none⟩))), (82, (.int .i64 r_28.1.known.Age)), (83, (.pointer (some ⟨b58, 0 + 3, none⟩))), (84, (.int .i64 x48.Age)), (85, (.bool (decide (r_28.1.known.Age < x48.Age)))), (86, (.bool s84)), (87, (.bool s111)), (88, (eBottleLabel r_28.1 p29 k30)), (89, (.slice p6 l_5.length k7)), (90, (.slice (env116.a 240) r_119.length (env116.n 240))), (91, (.int .i64 (r_119.length : Int))), (92, (.bool (decide ((r_119.length : Int) > 0)))), (93, (.agg ((cArr 6 cBool) (arrOf [(decide (r_28.1.known.Strength.Lo < x48.Least)), (decide (r_28.1.known.Strength.Hi > x48.Most)), (decide (r_28.1.known.Age < x48.Age)), s84, s111, (decide ((r_119.length : Int) > 0))] false)).toArray)), (94, (.int .i64 0))]) (.cons (k := 5) rfl (.cons (k := 10) rfl (.cons (k := 13) rfl (.cons (k := 15) rfl (.cons (k := 16) rfl (.cons (k := 19) rfl (.cons (k := 66) rfl (.cons (k := 67) rfl (.cons (k := 68) rfl (.cons (k := 69) rfl (.cons (k := 70) rfl (.cons (k := 71) rfl (.cons (k := 72) rfl (.cons (k := 73) rfl (.cons (k := 74) rfl (.cons (k := 75) rfl (.cons (k := 76) rfl (.cons (k := 77) rfl (.cons (k := 78) rfl (.cons (k := 79) rfl (.cons (k := 80) rfl (.cons (k := 81) rfl (.cons (k := 82) rfl (.cons (k := 83) rfl (.cons (k := 84) rfl (.cons (k := 85) rfl (.cons (k := 86) rfl (.cons (k := 87) rfl (.cons (k := 88) rfl (.cons (k := 89) rfl (.cons (k := 90) rfl (.cons (k := 91) rfl (.cons (k := 92) rfl (.cons (k := 93) rfl (.cons (k := 94) rfl (.nil _)))))))))))))))))))))))))))))))))))) (rfl : _ = [pt q110 (.deferred (some [])), pt q83 (.deferred (some [])), pt b61 (.cells [(.bool s111)].toArray 4), pt b60 (.cells [(.bool s84)].toArray 4), pt b59 (.cells [(.func (.func 65) #[] [(.pointer (some ⟨b18, 0, none⟩))].toArray)].toArray 65), pt b58 (.cells (cApiLabelRule x48).toArray 114), pt b32 (.cells (cBottleLabel r_28.1 p29 k30).toArray 97), R]) ?_
          refine .nil ?_
          refine .keep (.cons (k := 19) rfl (.cons (k := 93) rfl (.cons (k := 94) rfl (.nil _)))) ?_
          refine .code ?_
          refine .block ?_
          refine .ownNil 1 (Ex (cInt .i64)) 3 ?_
          refine .keep (.cons (k := 19) rfl (.cons (k := 93) rfl (.cons (k := 94) rfl (.nil _)))) ?_
          refine .loop (fun (s191 : (List Int) × Int) a w => ∃ (F_192 : Fz) (p194 : Option Addr) (k195 : Nat), F_125 ≤ F_192 ∧ Hd 105 [dmark q110, dmark q83] [(19, (.slice p194 s191.1.length k195)), (93, (.agg ((cArr 6 cBool) (arrOf [(decide (r_28.1.known.Strength.Lo < x48.Least)), (decide (r_28.1.known.Strength.Hi > x48.Most)), (decide (r_28.1.known.Age < x48.Age)), s84, s111, (decide ((r_119.length : Int) > 0))] false)).toArray)), (94, (.int .i64 s191.2))] F_192 [ownSl 1 (Ex (cInt .i64)) F_192 3 p194 k195 s191.1, pt q110 (.deferred (some [])), pt q83 (.deferred (some [])), pt b61 (.cells [(.bool s111)].toArray 4), pt b60 (.cells [(.bool s84)].toArray 4), pt b59 (.cells [(.func (.func 65) #[] [(.pointer (some ⟨b18, 0, none⟩))].toArray)].toArray 65), pt b58 (.cells (cApiLabelRule x48).toArray 114), pt b32 (.cells (cBottleLabel r_28.1 p29 k30).toArray 97), R] a w) (fun b224 e a w => e = .exit 4 ∧ ∃ (F_225 : Fz) (p227 : Option Addr) (k228 : Nat), F_125 ≤ F_225 ∧ Hd 105 [dmark q110, dmark q83] [(19, (.slice p227 b224.length k228))] F_225 [ownSl 1 (Ex (cInt .i64)) F_225 3 p227 k228 b224, pt q110 (.deferred (some [])), pt q83 (.deferred (some [])), pt b61 (.cells [(.bool s111)].toArray 4), pt b60 (.cells [(.bool s84)].toArray 4), pt b59 (.cells [(.func (.func 65) #[] [(.pointer (some ⟨b18, 0, none⟩))].toArray)].toArray 65), pt b58 (.cells (cApiLabelRule x48).toArray 114), pt b32 (.cells (cBottleLabel r_28.1 p29 k30).toArray 97), R] a w) ?_ ?_ ?_
          · exact fun a w h => ⟨F_125, none, 0, (Fz.le_refl _), h.1.sub (.cons (k := 19) rfl (.cons (k := 93) rfl (.cons (k := 94) rfl (.nil _)))), h.2⟩
          · intro s191 ctl
            refine GC.ex (fun a w ⟨F_192, p194, k195, l_193, hA⟩ => ⟨_, hA, ?_⟩)
            unfold b_bottle_Problems_3
            refine .seq ?_
            refine .region ?_
            refine .lss rfl rfl rfl ?_
            refine .nil ?_
            refine .code ?_
            refine .seq ?_
            refine .cond rfl (fun hb197 => ?_) (fun hb197 => ?_)
            · skip
              refine .skip ?_
              refine .code ?_
              refine .seq ?_
              refine .keep (.cons (k := 19) rfl (.cons (k := 93) rfl (.cons (k := 94) rfl (.nil _)))) ?_
              refine GC.join0 (σ := (List Int)) (fun j218 a w => ∃ (F_219 : Fz) (p221 : Option Addr) (k222 : Nat), F_192 ≤ F_219 ∧ Hd 105 [dmark q110, dmark q83] [(19, (.slice p221 j218.length k222)), (93, (.agg ((cArr 6 cBool) (arrOf [(decide (r_28.1.known.Strength.Lo < x48.Least)), (decide (r_28.1.known.Strength.Hi > x48.Most)), (decide (r_28.1.known.Age < x48.Age)), s84, s111, (decide ((r_119.length : Int) > 0))] false)).toArray)), (94, (.int .i64 s191.2))] F_219 [ownSl 1 (Ex (cInt .i64)) F_219 3 p221 k222 j218, pt q110 (.deferred (some [])), pt q83 (.deferred (some [])), pt b61 (.cells [(.bool s111)].toArray 4), pt b60 (.cells [(.bool s84)].toArray 4), pt b59 (.cells [(.func (.func 65) #[] [(.pointer (some ⟨b18, 0, none⟩))].toArray)].toArray 65), pt b58 (.cells (cApiLabelRule x48).toArray 114), pt b32 (.cells (cBottleLabel r_28.1 p29 k30).toArray 97), R] a w) (fun sj => ?_) (fun j218 hs0 => GE.ex (fun a w ⟨F_219, p221, k222, l_220, hA⟩ => ⟨_, hA, ?_⟩))
              · skip
                refine .block ?_
                refine .seq ?_
                refine .region ?_
                refine .move rfl rfl ?_
                refine .bind (fun j198 hj199 => ?_)
                refine .indexA rfl Try.underlying120 Try.isAgg4 Try.sizeOf4 rfl rfl hj199 (allLt6 (p := fun j198 => (((cArr 6 cBool) (arrOf [(decide (r_28.1.known.Strength.Lo < x48.Least)), (decide (r_28.1.known.Strength.Hi > x48.Most)), (decide (r_28.1.known.Age < x48.Age)), s84, s111, (decide ((r_119.length : Int) > 0))] false)).toArray)[j198 * 1]? = some (.bool ((arrOf [(decide (r_28.1.known.Strength.Lo < x48.Least)), (decide (r_28.1.known.Strength.Hi > x48.Most)), (decide (r_28.1.known.Age < x48.Age)), s84, s111, (decide ((r_119.length : Int) > 0))] false) j198))) rfl rfl rfl rfl rfl rfl _ (idxO_some hj199).2.2.2) ?_
                refine .assign rfl rfl ?_
                refine .assignB rfl rfl (fun is_200 e201 => ?_)
                refine .nil ?_
                refine .code ?_
                refine .seq ?_
                refine .region ?_
                refine .move rfl rfl ?_
                refine .nil ?_
                refine .code ?_
                refine .keep (.cons (k := 19) rfl (.cons (k := 20) rfl (.cons (k := 93) rfl (.cons (k := 94) rfl (.cons (k := 98) rfl (.nil _)))))) ?_
                refine GC.join0 (σ := (List Int)) (fun j212 a w => ∃ (F_213 : Fz) (p215 : Option Addr) (k216 : Nat), F_192 ≤ F_213 ∧ Hd 105 [dmark q110, dmark q83] [(19, (.slice p215 j212.length k216)), (93, (.agg ((cArr 6 cBool) (arrOf [(decide (r_28.1.known.Strength.Lo < x48.Least)), (decide (r_28.1.known.Strength.Hi > x48.Most)), (decide (r_28.1.known.Age < x48.Age)), s84, s111, (decide ((r_119.length : Int) > 0))] false)).toArray)), (94, (.int .i64 s191.2))] F_213 [ownSl 1 (Ex (cInt .i64)) F_213 3 p215 k216 j212, pt q110 (.deferred (some [])), pt q83 (.deferred (some [])), pt b61 (.cells [(.bool s111)].toArray 4), pt b60 (.cells [(.bool s84)].toArray 4), pt b59 (.cells [(.func (.func 65) #[] [(.pointer (some ⟨b18, 0, none⟩))].toArray)].toArray 65), pt b58 (.cells (cApiLabelRule x48).toArray 114), pt b32 (.cells (cBottleLabel r_28.1 p29 k30).toArray 97), R] a w) (fun sj => ?_) (fun j212 hs0 => GE.ex (fun a w ⟨F_213, p215, k216, l_214, hA⟩ => ⟨_, hA, ?_⟩))
                · skip
                  refine .cond rfl (fun hb202 => ?_) (fun hb202 => ?_)
                  · skip
                    refine .region ?_
                    refine .move rfl rfl ?_
                    refine .move rfl rfl ?_
                    refine .sliceLit (cs := [.int .i64 s191.2]) (zc := [.int .i64 0]) rfl Try.underlying40 Try.sizeOf3 Try.zeroValue3 rfl rfl rfl (by kernel_rfl) (by kernel_rfl) (fun b203 F_204 l_205 hb206 => ?_)
                    have h207 : RepSl 1 (Ex (cInt .i64)) F_204 (some ⟨b203, 0, none⟩) 1 ([s191.2]) := RepSl.ofRow hb206 (.cons ok_t3.mono rfl .nil) rfl rfl
                    refine .append 0 ok_t3 l_205 rfl Try.underlying40 Try.underlying40 rfl rfl rfl h207 rfl rfl (fun l_208 p209 k210 e211 => ?_)
                    refine .assign rfl rfl ?_
                    refine .nil ?_
                    exact .nil fun e a w h => by cases e; exact ⟨rfl, ⟨F_204, p209, k210, l_205, h.1.sub (.cons (k := 19) rfl (.cons (k := 93) rfl (.cons (k := 94) rfl (.nil _)))), h.2⟩⟩
                  · skip
                    refine .skip ?_
                    exact .nil fun e a w h => by cases e; exact ⟨rfl, ⟨F_192, p194, k195, (Fz.le_refl _), h.1.sub (.cons (k := 19) rfl (.cons (k := 93) rfl (.cons (k := 94) rfl (.nil _)))), h.2⟩⟩
                refine .block ?_
                exact .nil fun e a w h => by cases e; exact ⟨rfl, ⟨F_213, p215, k216, l_214, h.1.sub (.cons (k := 19) rfl (.cons (k := 93) rfl (.cons (k := 94) rfl (.nil _)))), h.2⟩⟩
              refine .code ?_
              refine .region ?_
              refine .add rfl rfl rfl ?_
              refine .move rfl rfl ?_
              refine .nil ?_
              exact .nil (LPost.norm fun a w h => ⟨F_219, p221, k222, (Fz.le_trans l_193 l_220), h.1.sub (.cons (k := 19) rfl (.cons (k := 93) rfl (.cons (k := 94) rfl (.nil _)))), h.2⟩)
            · skip
              refine .exitOut rfl (LPost.exit fun a w h => ⟨rfl, F_192, p194, k195, l_193, h.1.sub (.cons (k := 19) rfl (.nil _)), h.2⟩)
          · intro b224 hb0 hk e a w hD
            obtain ⟨rfl, F_225, p227, k228, l_226, hA⟩ := hD
            refine interp_exit rfl (GE.app ?_ hk a w hA)
            refine .code ?_
            refine .seq ?_
            refine .region ?_
            refine .move rfl rfl ?_
            refine .assign rfl rfl ?_
            refine .assign rfl rfl ?_
            refine .nil ?_
            refine .code ?_
            refine .freezeSl 0 rfl (Fz.le_refl _) (fun F_230 l_231 h232 => ?_)
            exact .ret0M [(0, q110), (1, q83)] Try.results29 ⟨rfl, rfl, trivial⟩ (.tmp rfl (.tmp rfl (.nil))) (i := 7) rfl (Fz.le_trans l_16 (Fz.le_trans l_20 (Fz.le_trans l_24 (Fz.le_trans l_27 (Fz.le_trans l_39 (Fz.le_trans l_45 (Fz.le_trans l_63 (Fz.le_trans l_87 (Fz.le_trans l_88 (Fz.le_trans l_90 (Fz.le_trans l_114 (Fz.le_trans l_115 (Fz.le_trans l_126 (Fz.le_trans l_226 l_231)))))))))))))) ⟨p227, k228, rfl, h232⟩

noncomputable def b_wormtubref12_Rules_2 (l_1 : (List ApiLabelRule)) (s5 : Int) (x9 : ApiLabelRule) (s53 : Int) : Option (Ctl (Int) ((Unit) ⊕ (Bool))) :=
  if (decide (s53 < s5)) then ((idxL l_1 s53).bind fun x57 => if (x57.Country == x9.Country) then (some (.done (.inr false))) else (bindv (w64 (s53 + 1)) fun k87 => some (.next k87))) else (some (.done (.inl ())))
noncomputable def b_wormtubref12_Rules_1 (l_1 : (List ApiLabelRule)) (s5 : Int) : Option (Ctl (Int) ((Unit) ⊕ (Bool))) :=
  if (decide (s5 < (l_1.length : Int))) then ((idxL l_1 s5).bind fun x9 => if ((((((!(m_wormtubref12_in x9.Country 0 255)) || (!(m_wormtubref12_in x9.Least 0 10000))) || (!(m_wormtubref12_in x9.Most 0 10000))) || (!(m_wormtubref12_in x9.Age 0 65536))) || (!(m_wormtubref12_in x9.Must 0 255))) || (!(m_wormtubref12_in x9.Never 0 255))) then (some (.done (.inr false))) else ((loopM (b_wormtubref12_Rules_2 l_1 s5 x9) 0).bind fun b0 => match b0 with | .inl _b89 => (bindv (w64 (s5 + 1)) fun i94 => some (.next i94)) | .inr b89 => (some (.done (.inr b89))))) else (some (.done (.inl ())))
noncomputable def m_wormtubref12_Rules (l_1 : (List ApiLabelRule)) : Option Bool :=
  (loopM (b_wormtubref12_Rules_1 l_1) 0).bind fun b0 => match b0 with | .inl _b96 => (some (decide ((l_1.length : Int) ≤ 64))) | .inr b96 => (some b96)
theorem c_wormtubref12_Rules (F0 : Fz) (l_1 : (List ApiLabelRule)) (p2 : Option Addr) (k3 : Nat) (h4 : RepSl 6 (Ex cApiLabelRule) F0 p2 k3 l_1) : CT0 Try.prog 69 [(.slice p2 l_1.length k3)].toArray F0 (m_wormtubref12_Rules l_1) (fun r _ v => v = (.bool r)) := by
  refine CT0.enter Try.func69 rfl Try.ntmps69 rfl fun r R => ?_
  unfold m_wormtubref12_Rules
  refine .seq ?_
  refine .region ?_
  refine .assign rfl rfl ?_
  refine .nil ?_
  refine .code ?_
  refine .seq ?_
  refine .seq ?_
  refine .region ?_
  refine .assign rfl rfl ?_
  refine .nil ?_
  refine .code ?_
  refine .block ?_
  refine .keep (.cons (k := 0) rfl (.cons (k := 3) rfl (.nil _))) ?_
  refine .loop (fun (s5 : Int) a w => ∃ (F_6 : Fz), F0 ≤ F_6 ∧ Hd 66 [] [(0, (.slice p2 l_1.length k3)), (3, (.int .i64 s5))] F_6 [R] a w) (fun b0 e a w => match b0 with | .inl b96 => e = .exit 0 ∧ ∃ (F_97 : Fz), F0 ≤ F_97 ∧ Hd 66 [] [(0, (.slice p2 l_1.length k3))] F_97 [R] a w | .inr b96 => e = .ret ∧ ∃ (F_99 : Fz), F0 ≤ F_99 ∧ Hd 66 [] [(2, (.bool b96))] F_99 [R] a w) ?_ ?_ ?_
  · exact fun a w h => ⟨F0, (Fz.le_refl _), h.1.sub (.cons (k := 0) rfl (.cons (k := 3) rfl (.nil _))), h.2⟩
  · intro s5 ctl
    refine GC.ex (fun a w ⟨F_6, l_7, hA⟩ => ⟨_, hA, ?_⟩)
    unfold b_wormtubref12_Rules_1
    refine .seq ?_
    refine .seq ?_
    refine .region ?_
    refine .move rfl rfl ?_
    refine .move rfl rfl ?_
    refine .lenS rfl rfl Try.underlying75 rfl ?_
    refine .lss rfl rfl rfl ?_
    refine .nil ?_
    refine .code ?_
    refine .cond rfl (fun hb8 => ?_) (fun hb8 => ?_)
    · skip
      refine .skip ?_
      refine .code ?_
      refine .seq ?_
      refine .block ?_
      refine .seq ?_
      refine .region ?_
      refine .move rfl rfl ?_
      refine .move rfl rfl ?_
      refine .idx rfl Try.underlying75 Try.sizeOf114 (h4.mono l_7) rfl rfl (fun x9 b10 o11 T12 fr13 cs14 e15 hm16 hv17 => ?_)
      refine .loadFA rfl Try.isAgg114 Try.sizeOf114 rfl hm16 hv17 rfl ?_
      refine .alloc (cs := (cApiLabelRule (ApiLabelRule.mk 0 0 0 0 0 0))) rfl Try.zeroValue114 rfl (fun b19 => ?_)
      refine .store (cs' := (cApiLabelRule x9)) Try.sizeOf114 rfl rfl rfl rfl (i := 0) rfl (Nat.le_of_ble_eq_true rfl) rfl (setMany_all (by rfl)) ?_
      refine .nil ?_
      refine .code ?_
      refine .seq ?_
      refine .seq ?_
      refine .region ?_
      refine .fieldAddr rfl Try.underlying114 rfl Try.sizeOf3 rfl ?_
      refine .loadO rfl Try.isAgg3 rfl (i := 0) rfl rfl ?_
      refine .callP rfl Try.call48 rfl rfl rfl (c_wormtubref12_in _ x9.Country 0 255) ?_
      rintro F_20 _ l_21 rfl
      refine .not rfl rfl ?_
      refine .move rfl rfl ?_
      refine .orP (b := (!(m_wormtubref12_in x9.Country 0 255))) (b' := (!(m_wormtubref12_in x9.Least 0 10000))) 5 25 (fun hb22 => ?_) (fun hb25 => ?_) (fun F_26 l_27 => ?_)
      · skip
        refine .onH hb22 rfl rfl ?_
        refine .fieldAddr rfl Try.underlying114 rfl Try.sizeOf3 rfl ?_
        refine .onH hb22 rfl rfl ?_
        refine .loadO rfl Try.isAgg3 rfl (i := 0) rfl rfl ?_
        refine .onH hb22 rfl rfl ?_
        refine .callP rfl Try.call48 rfl rfl rfl (c_wormtubref12_in _ x9.Least 0 10000) ?_
        rintro F_23 _ l_24 rfl
        refine .onH hb22 rfl rfl ?_
        refine .not rfl rfl ?_
        refine .pickFH hb22 rfl rfl rfl ?_
        exact .fin 5 rfl rfl (by kernel_rfl) l_24
      · skip
        refine .offH hb25 rfl rfl rfl ?_
        refine .offH hb25 rfl rfl rfl ?_
        refine .offH hb25 rfl rfl rfl ?_
        refine .offH hb25 rfl rfl rfl ?_
        refine .pickTH hb25 rfl rfl rfl ?_
        exact .fin 5 rfl rfl (by kernel_rfl) (Fz.le_refl _)
      refine .move rfl rfl ?_
      refine .orP (b := ((!(m_wormtubref12_in x9.Country 0 255)) || (!(m_wormtubref12_in x9.Least 0 10000)))) (b' := (!(m_wormtubref12_in x9.Most 0 10000))) 5 31 (fun hb28 => ?_) (fun hb31 => ?_) (fun F_32 l_33 => ?_)
      · skip
        refine .onH hb28 rfl rfl ?_
        refine .fieldAddr rfl Try.underlying114 rfl Try.sizeOf3 rfl ?_
        refine .onH hb28 rfl rfl ?_
        refine .loadO rfl Try.isAgg3 rfl (i := 0) rfl rfl ?_
        refine .onH hb28 rfl rfl ?_
        refine .callP rfl Try.call48 rfl rfl rfl (c_wormtubref12_in _ x9.Most 0 10000) ?_
        rintro F_29 _ l_30 rfl
        refine .onH hb28 rfl rfl ?_
        refine .not rfl rfl ?_
        refine .pickFH hb28 rfl rfl rfl ?_
        exact .fin 5 rfl rfl (by kernel_rfl) l_30
      · skip
        refine .offH hb31 rfl rfl rfl ?_
        refine .offH hb31 rfl rfl rfl ?_
        refine .offH hb31 rfl rfl rfl ?_
        refine .offH hb31 rfl rfl rfl ?_
        refine .pickTH hb31 rfl rfl rfl ?_
        exact .fin 5 rfl rfl (by kernel_rfl) (Fz.le_refl _)
      refine .move rfl rfl ?_
      refine .orP (b := (((!(m_wormtubref12_in x9.Country 0 255)) || (!(m_wormtubref12_in x9.Least 0 10000))) || (!(m_wormtubref12_in x9.Most 0 10000)))) (b' := (!(m_wormtubref12_in x9.Age 0 65536))) 5 37 (fun hb34 => ?_) (fun hb37 => ?_) (fun F_38 l_39 => ?_)
      · skip
        refine .onH hb34 rfl rfl ?_
        refine .fieldAddr rfl Try.underlying114 rfl Try.sizeOf3 rfl ?_
        refine .onH hb34 rfl rfl ?_
        refine .loadO rfl Try.isAgg3 rfl (i := 0) rfl rfl ?_
        refine .onH hb34 rfl rfl ?_
        refine .callP rfl Try.call48 rfl rfl rfl (c_wormtubref12_in _ x9.Age 0 65536) ?_
        rintro F_35 _ l_36 rfl
        refine .onH hb34 rfl rfl ?_
        refine .not rfl rfl ?_
        refine .pickFH hb34 rfl rfl rfl ?_
        exact .fin 5 rfl rfl (by kernel_rfl) l_36
      · skip
        refine .offH hb37 rfl rfl rfl ?_
        refine .offH hb37 rfl rfl rfl ?_
        refine .offH hb37 rfl rfl rfl ?_
        refine .offH hb37 rfl rfl rfl ?_
        refine .pickTH hb37 rfl rfl rfl ?_
        exact .fin 5 rfl rfl (by kernel_rfl) (Fz.le_refl _)
      refine .move rfl rfl ?_
      refine .orP (b := ((((!(m_wormtubref12_in x9.Country 0 255)) || (!(m_wormtubref12_in x9.Least 0 10000))) || (!(m_wormtubref12_in x9.Most 0 10000))) || (!(m_wormtubref12_in x9.Age 0 65536)))) (b' := (!(m_wormtubref12_in x9.Must 0 255))) 5 43 (fun hb40 => ?_) (fun hb43 => ?_) (fun F_44 l_45 => ?_)
      · skip
        refine .onH hb40 rfl rfl ?_
        refine .fieldAddr rfl Try.underlying114 rfl Try.sizeOf3 rfl ?_
        refine .onH hb40 rfl rfl ?_
        refine .loadO rfl Try.isAgg3 rfl (i := 0) rfl rfl ?_
        refine .onH hb40 rfl rfl ?_
        refine .callP rfl Try.call48 rfl rfl rfl (c_wormtubref12_in _ x9.Must 0 255) ?_
        rintro F_41 _ l_42 rfl
        refine .onH hb40 rfl rfl ?_
        refine .not rfl rfl ?_
        refine .pickFH hb40 rfl rfl rfl ?_
        exact .fin 5 rfl rfl (by kernel_rfl) l_42
      · skip
        refine .offH hb43 rfl rfl rfl ?_
        refine .offH hb43 rfl rfl rfl ?_
        refine .offH hb43 rfl rfl rfl ?_
        refine .offH hb43 rfl rfl rfl ?_
        refine .pickTH hb43 rfl rfl rfl ?_
        exact .fin 5 rfl rfl (by kernel_rfl) (Fz.le_refl _)
      refine .move rfl rfl ?_
      refine .orP (b := (((((!(m_wormtubref12_in x9.Country 0 255)) || (!(m_wormtubref12_in x9.Least 0 10000))) || (!(m_wormtubref12_in x9.Most 0 10000))) || (!(m_wormtubref12_in x9.Age 0 65536))) || (!(m_wormtubref12_in x9.Must 0 255)))) (b' := (!(m_wormtubref12_in x9.Never 0 255))) 5 49 (fun hb46 => ?_) (fun hb49 => ?_) (fun F_50 l_51 => ?_)
      · skip
        refine .onH hb46 rfl rfl ?_
        refine .fieldAddr rfl Try.underlying114 rfl Try.sizeOf3 rfl ?_
        refine .onH hb46 rfl rfl ?_
        refine .loadO rfl Try.isAgg3 rfl (i := 0) rfl rfl ?_
        refine .onH hb46 rfl rfl ?_
        refine .callP rfl Try.call48 rfl rfl rfl (c_wormtubref12_in _ x9.Never 0 255) ?_
        rintro F_47 _ l_48 rfl
        refine .onH hb46 rfl rfl ?_
        refine .not rfl rfl ?_
        refine .pickFH hb46 rfl rfl rfl ?_
        exact .fin 5 rfl rfl (by kernel_rfl) l_48
      · skip
        refine .offH hb49 rfl rfl rfl ?_
        refine .offH hb49 rfl rfl rfl ?_
        refine .offH hb49 rfl rfl rfl ?_
        refine .offH hb49 rfl rfl rfl ?_
        refine .pickTH hb49 rfl rfl rfl ?_
        exact .fin 5 rfl rfl (by kernel_rfl) (Fz.le_refl _)
      refine .nil ?_
      refine .keep (.cons (k := 0) rfl (.cons (k := 3) rfl (.cons (k := 4) rfl (.cons (k := 49) rfl (.nil _))))) ?_
      refine .code ?_
      refine .cond rfl (fun hb52 => ?_) (fun hb52 => ?_)
      · skip
        refine .seq ?_
        refine .region ?_
        refine .assign rfl rfl ?_
        refine .nil ?_
        refine .code ?_
        refine .drop 0 ?_
        refine .retQ (LPost.ret fun a w h => ⟨rfl, F_50, (Fz.le_trans l_7 (Fz.le_trans l_21 (Fz.le_trans l_27 (Fz.le_trans l_33 (Fz.le_trans l_39 (Fz.le_trans l_45 l_51)))))), h.1.sub (.cons (k := 2) rfl (.nil _)), h.2⟩)
      · skip
        refine .skip ?_
        refine .code ?_
        refine .seq ?_
        refine .region ?_
        refine .assign rfl rfl ?_
        refine .nil ?_
        refine .code ?_
        refine .block ?_
        refine .keep (.cons (k := 0) rfl (.cons (k := 3) rfl (.cons (k := 4) rfl (.cons (k := 5) rfl (.nil _))))) ?_
        refine .loop (fun (s53 : Int) a w => ∃ (F_54 : Fz), F_50 ≤ F_54 ∧ Hd 66 [] [(0, (.slice p2 l_1.length k3)), (3, (.int .i64 s5)), (4, (.pointer (some ⟨b19, 0, none⟩))), (5, (.int .i64 s53))] F_54 [pt b19 (.cells (cApiLabelRule x9).toArray 114), R] a w) (fun b0 e a w => match b0 with | .inl b89 => e = .exit 2 ∧ ∃ (F_90 : Fz), F_50 ≤ F_90 ∧ Hd 66 [] [(0, (.slice p2 l_1.length k3)), (3, (.int .i64 s5))] F_90 [pt b19 (.cells (cApiLabelRule x9).toArray 114), R] a w | .inr b89 => e = .ret ∧ ∃ (F_92 : Fz), F_50 ≤ F_92 ∧ Hd 66 [] [(2, (.bool b89))] F_92 [R] a w) ?_ ?_ ?_
        · exact fun a w h => ⟨F_50, (Fz.le_refl _), h.1.sub (.cons (k := 0) rfl (.cons (k := 3) rfl (.cons (k := 4) rfl (.cons (k := 5) rfl (.nil _))))), h.2⟩
        · intro s53 ctl
          refine GC.ex (fun a w ⟨F_54, l_55, hA⟩ => ⟨_, hA, ?_⟩)
          unfold b_wormtubref12_Rules_2
          refine .seq ?_
          refine .seq ?_
          refine .region ?_
          refine .move rfl rfl ?_
          refine .move rfl rfl ?_
          refine .lss rfl rfl rfl ?_
          refine .nil ?_
          refine .code ?_
          refine .cond rfl (fun hb56 => ?_) (fun hb56 => ?_)
          · skip
            refine .skip ?_
            refine .code ?_
            refine .seq ?_
            refine .block ?_
            refine .seq ?_
            refine .keep (.cons (k := 0) rfl (.cons (k := 3) rfl (.cons (k := 4) rfl (.cons (k := 5) rfl (.nil _))))) ?_
            refine .bind (fun x57 e63 => ?_)
            obtain ⟨b58, o59, T60, fr61, cs62, hm64, hv65, hq66⟩ := RepSl.idxE (h4.mono (Fz.le_trans l_7 (Fz.le_trans l_21 (Fz.le_trans l_27 (Fz.le_trans l_33 (Fz.le_trans l_39 (Fz.le_trans l_45 (Fz.le_trans l_51 l_55)))))))) e63
            refine .draw ⟨1000000, 0, [], 0⟩ [(55, (.slice p2 l_1.length k3)), (56, (.int .i64 s53)), (57, (.pointer (some ⟨b58, o59, none⟩))), (58, (.pointer (some ⟨b58, o59, none⟩))), (59, (.int .i64 x57.Country)), (60, (.pointer (some ⟨b19, 0 + 0, none⟩))), (61, (.int .i64 x9.Country)), (62, (.bool (x57.Country == x9.Country)))] mixedOK (by kernel_rfl) (by kernel_rfl) rfl (by kernel_rfl) ?_ (fun F_67 b68 l_69 => ?_)
            · skip
              refine .cons (.mk 55 (.slice p2 l_1.length k3) [(0, (.slice p2 l_1.length k3))] rfl rfl rfl rfl (fun S hS hd => (.cons (hS _ _ rfl) (Sub.nil _))) (fun F_70 X l_71 => ?_)) ?_
              · skip
                refine .move rfl rfl ?_
                exact .fin1 (Fz.le_refl _)
              refine .cons (.mk 56 (.int .i64 s53) [(5, (.int .i64 s53))] rfl rfl rfl rfl (fun S hS hd => (.cons (hS _ _ rfl) (Sub.nil _))) (fun F_72 X l_73 => ?_)) ?_
              · skip
                refine .move rfl rfl ?_
                exact .fin1 (Fz.le_refl _)
              refine .cons (.mk 57 (.pointer (some ⟨b58, o59, none⟩)) [(55, (.slice p2 l_1.length k3)), (56, (.int .i64 s53))] rfl rfl rfl rfl (fun S hS hd => (.cons (hd.1 rfl rfl _ _ rfl) (.cons (hd.2.1 rfl rfl _ _ rfl) (Sub.nil _)))) (fun F_74 X l_75 => ?_)) ?_
              · skip
                refine .idxQ rfl Try.underlying75 Try.sizeOf114 hq66 rfl rfl ?_
                exact .fin1 (Fz.le_refl _)
              refine .cons (.mk 58 (.pointer (some ⟨b58, o59, none⟩)) [(57, (.pointer (some ⟨b58, o59, none⟩)))] rfl rfl rfl rfl (fun S hS hd => (.cons (hd.1 rfl rfl _ _ rfl) (Sub.nil _))) (fun F_76 X l_77 => ?_)) ?_
              · skip
                refine .fieldAddr rfl Try.underlying114 rfl Try.sizeOf3 rfl ?_
                exact .fin1 (Fz.le_refl _)
              refine .cons (.mk 59 (.int .i64 x57.Country) [(58, (.pointer (some ⟨b58, o59, none⟩)))] rfl rfl rfl rfl (fun S hS hd => (.cons (hd.1 rfl rfl _ _ rfl) (Sub.nil _))) (fun F_78 X l_79 => ?_)) ?_
              · skip
                refine .loadF rfl Try.isAgg3 rfl (l_79.mem _ _ hm64) (cell_of_take (k := 0) hv65 rfl) ?_
                exact .fin1 (Fz.le_refl _)
              refine .cons (.mk 60 (.pointer (some ⟨b19, 0 + 0, none⟩)) [(4, (.pointer (some ⟨b19, 0, none⟩)))] rfl rfl rfl rfl (fun S hS hd => (.cons (hS _ _ rfl) (Sub.nil _))) (fun F_80 X l_81 => ?_)) ?_
              · skip
                refine .fieldAddr rfl Try.underlying114 rfl Try.sizeOf3 rfl ?_
                exact .fin1 (Fz.le_refl _)
              refine .cons (.mk 61 (.int .i64 x9.Country) [(60, (.pointer (some ⟨b19, 0 + 0, none⟩)))] rfl rfl rfl rfl (fun S hS hd => (.cons (hd.1 rfl rfl _ _ rfl) (Sub.nil _))) (fun F_82 X l_83 => ?_)) ?_
              · skip
                refine .loadO rfl Try.isAgg3 rfl (i := 0) rfl rfl ?_
                exact .fin1 (Fz.le_refl _)
              refine .cons (.mk 62 (.bool (x57.Country == x9.Country)) [(59, (.int .i64 x57.Country)), (61, (.int .i64 x9.Country))] rfl rfl rfl rfl (fun S hS hd => (.cons (hd.1 rfl rfl _ _ rfl) (.cons (hd.2.1 rfl rfl _ _ rfl) (Sub.nil _)))) (fun F_84 X l_85 => ?_)) ?_
              · skip
                refine .eql rfl rfl rfl ?_
                exact .fin1 (Fz.le_refl _)
              exact .nil
            refine .nil ?_
            refine .code ?_
            refine .cond rfl (fun hb86 => ?_) (fun hb86 => ?_)
            · skip
              refine .seq ?_
              refine .region ?_
              refine .assign rfl rfl ?_
              refine .nil ?_
              refine .code ?_
              refine .drop 0 ?_
              refine .retQ (LPost.ret fun a w h => ⟨rfl, F_67, (Fz.le_trans l_55 l_69), h.1.sub (.cons (k := 2) rfl (.nil _)), h.2⟩)
            · skip
              refine .skip ?_
              refine .block ?_
              refine .code ?_
              refine .region ?_
              refine .move rfl rfl ?_
              refine .add rfl rfl rfl ?_
              refine .assignL rfl rfl (fun k87 e88 => ?_)
              refine .nil ?_
              exact .nil (LPost.norm fun a w h => ⟨F_67, (Fz.le_trans l_55 l_69), h.1.sub (.cons (k := 0) rfl (.cons (k := 3) rfl (.cons (k := 4) rfl (.cons (k := 5) rfl (.nil _))))), h.2⟩)
          · skip
            refine .exitOut rfl (LPost.exit fun a w h => ⟨rfl, F_54, l_55, h.1.sub (.cons (k := 0) rfl (.cons (k := 3) rfl (.nil _))), h.2⟩)
        · intro b89 hb0 hk e a w hD
          rcases b89 with b89 | b89
          · skip
            obtain ⟨rfl, F_90, l_91, hA⟩ := hD
            refine interp_exit rfl (GE.app ?_ hk a w hA)
            refine .block ?_
            refine .code ?_
            refine .region ?_
            refine .move rfl rfl ?_
            refine .add rfl rfl rfl ?_
            refine .assignL rfl rfl (fun i94 e95 => ?_)
            refine .nil ?_
            refine .drop 0 ?_
            exact .nil (LPost.norm fun a w h => ⟨F_90, (Fz.le_trans l_7 (Fz.le_trans l_21 (Fz.le_trans l_27 (Fz.le_trans l_33 (Fz.le_trans l_39 (Fz.le_trans l_45 (Fz.le_trans l_51 l_91))))))), h.1.sub (.cons (k := 0) rfl (.cons (k := 3) rfl (.nil _))), h.2⟩)
          obtain ⟨rfl, F_92, l_93, hA⟩ := hD
          exact interp_ret ((LPost.ret fun a w h => ⟨rfl, F_92, (Fz.le_trans l_7 (Fz.le_trans l_21 (Fz.le_trans l_27 (Fz.le_trans l_33 (Fz.le_trans l_39 (Fz.le_trans l_45 (Fz.le_trans l_51 l_93))))))), h.1.sub (.cons (k := 2) rfl (.nil _)), h.2⟩) hk a w hA)
    · skip
      refine .exitOut rfl (LPost.exit fun a w h => ⟨rfl, F_6, l_7, h.1.sub (.cons (k := 0) rfl (.nil _)), h.2⟩)
  · intro b96 hb0 hk e a w hD
    rcases b96 with b96 | b96
    · skip
      obtain ⟨rfl, F_97, l_98, hA⟩ := hD
      refine interp_exit rfl (GE.app ?_ hk a w hA)
      refine .code ?_
      refine .seq ?_
      refine .region ?_
      refine .move rfl rfl ?_
      refine .lenS rfl rfl Try.underlying75 rfl ?_
      refine .leq rfl rfl rfl ?_
      refine .assign rfl rfl ?_
      refine .nil ?_
      refine .code ?_
      exact .ret0 Try.results69 (.tmp rfl (.nil)) (i := 0) rfl l_98 rfl
    obtain ⟨rfl, F_99, l_100, hA⟩ := hD
    exact interp_ret ((ret_post0 Try.results69 (.tmp rfl (.nil)) (i := 0) rfl l_100 rfl) hk a w hA)

end Go.Proofs.Ytbomfcghpajaiaa
