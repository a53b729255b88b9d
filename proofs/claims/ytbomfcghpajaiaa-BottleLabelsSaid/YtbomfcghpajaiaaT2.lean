/- Printed by gen.py: plain models of the program's functions, and that the code does what they say. -/
import Derived.Test.YtbomfcghpajaiaaT0
namespace Go.Proofs.Ytbomfcghpajaiaa
open Go.Dec

def m_bottle_within (n_1 : Int) (least2 : Int) (most3 : Int) : Bool :=
  ((decide (n_1 ≥ least2)) && (decide (n_1 ≤ most3)))
theorem c_bottle_within (F0 : Fz) (n_1 : Int) (least2 : Int) (most3 : Int) : CT0 Try.prog 44 [(.int .i64 n_1), (.int .i64 least2), (.int .i64 most3)].toArray F0 (some (m_bottle_within n_1 least2 most3)) (fun r _ v => v = (.bool r)) := by
  refine CT0.enter Try.func44 rfl Try.ntmps44 rfl fun r R => ?_
  refine .seq ?_
  refine .region ?_
  refine .assign rfl rfl ?_
  refine .nil ?_
  refine .code ?_
  refine .seq ?_
  refine .region ?_
  refine .move rfl rfl ?_
  refine .move rfl rfl ?_
  refine .geq rfl rfl rfl ?_
  refine .move rfl rfl ?_
  refine .andP (b := (decide (n_1 ≥ least2))) (b' := (decide (n_1 ≤ most3))) 4 14 (fun hb4 => ?_) (fun hb5 => ?_) (fun F_6 l_7 => ?_)
  · skip
    refine .onH hb4 rfl rfl ?_
    refine .move rfl rfl ?_
    refine .onH hb4 rfl rfl ?_
    refine .move rfl rfl ?_
    refine .onH hb4 rfl rfl ?_
    refine .leq rfl rfl rfl ?_
    refine .pickTH hb4 rfl rfl rfl ?_
    exact .fin 4 rfl rfl (by kernel_rfl) (Fz.le_refl _)
  · skip
    refine .offH hb5 rfl rfl rfl ?_
    refine .offH hb5 rfl rfl rfl ?_
    refine .offH hb5 rfl rfl rfl ?_
    refine .pickFH hb5 rfl rfl rfl ?_
    exact .fin 4 rfl rfl (by kernel_rfl) (Fz.le_refl _)
  refine .assign rfl rfl ?_
  refine .nil ?_
  refine .code ?_
  exact .ret0 Try.results44 (.tmp rfl (.nil)) (i := 0) rfl l_7 rfl

def m_bottle_isSpan (s1 : ApiSpan) (most2 : Int) : Bool :=
  (((decide (s1.Lo ≥ 0)) && (decide (s1.Lo ≤ s1.Hi))) && (decide (s1.Hi ≤ most2)))
theorem c_bottle_isSpan (F0 : Fz) (s1 : ApiSpan) (most2 : Int) : CT0 Try.prog 71 [(eApiSpan s1), (.int .i64 most2)].toArray F0 (some (m_bottle_isSpan s1 most2)) (fun r _ v => v = (.bool r)) := by
  refine CT0.enter Try.func71 rfl Try.ntmps71 rfl fun r R => ?_
  refine .seq ?_
  refine .region ?_
  refine .boxF (cs := (cApiSpan s1)) rfl rfl rfl (fun b3 F_4 l_5 hb6 => ?_)
  refine .assign rfl rfl ?_
  refine .nil ?_
  refine .code ?_
  refine .seq ?_
  refine .region ?_
  refine .fieldAddr rfl Try.underlying36 rfl Try.sizeOf3 rfl ?_
  refine .loadF rfl Try.isAgg3 rfl hb6 rfl ?_
  refine .geq rfl rfl rfl ?_
  refine .move rfl rfl ?_
  refine .andP (b := (decide (s1.Lo ≥ 0))) (b' := (decide (s1.Lo ≤ s1.Hi))) 6 14 (fun hb7 => ?_) (fun hb8 => ?_) (fun F_9 l_10 => ?_)
  · skip
    refine .onH hb7 rfl rfl ?_
    refine .fieldAddr rfl Try.underlying36 rfl Try.sizeOf3 rfl ?_
    refine .onH hb7 rfl rfl ?_
    refine .loadF rfl Try.isAgg3 rfl hb6 rfl ?_
    refine .onH hb7 rfl rfl ?_
    refine .fieldAddr rfl Try.underlying36 rfl Try.sizeOf3 rfl ?_
    refine .onH hb7 rfl rfl ?_
    refine .loadF rfl Try.isAgg3 rfl hb6 rfl ?_
    refine .onH hb7 rfl rfl ?_
    refine .leq rfl rfl rfl ?_
    refine .pickTH hb7 rfl rfl rfl ?_
    exact .fin 6 rfl rfl (by kernel_rfl) (Fz.le_refl _)
  · skip
    refine .offH hb8 rfl rfl rfl ?_
    refine .offH hb8 rfl rfl rfl ?_
    refine .offH hb8 rfl rfl rfl ?_
    refine .offH hb8 rfl rfl rfl ?_
    refine .offH hb8 rfl rfl rfl ?_
    refine .pickFH hb8 rfl rfl rfl ?_
    exact .fin 6 rfl rfl (by kernel_rfl) (Fz.le_refl _)
  refine .move rfl rfl ?_
  refine .andP (b := ((decide (s1.Lo ≥ 0)) && (decide (s1.Lo ≤ s1.Hi)))) (b' := (decide (s1.Hi ≤ most2))) 5 20 (fun hb11 => ?_) (fun hb12 => ?_) (fun F_13 l_14 => ?_)
  · skip
    refine .onH hb11 rfl rfl ?_
    refine .fieldAddr rfl Try.underlying36 rfl Try.sizeOf3 rfl ?_
    refine .onH hb11 rfl rfl ?_
    refine .loadF rfl Try.isAgg3 rfl (l_10.mem _ _ hb6) rfl ?_
    refine .onH hb11 rfl rfl ?_
    refine .move rfl rfl ?_
    refine .onH hb11 rfl rfl ?_
    refine .leq rfl rfl rfl ?_
    refine .pickTH hb11 rfl rfl rfl ?_
    exact .fin 5 rfl rfl (by kernel_rfl) (Fz.le_refl _)
  · skip
    refine .offH hb12 rfl rfl rfl ?_
    refine .offH hb12 rfl rfl rfl ?_
    refine .offH hb12 rfl rfl rfl ?_
    refine .offH hb12 rfl rfl rfl ?_
    refine .pickFH hb12 rfl rfl rfl ?_
    exact .fin 5 rfl rfl (by kernel_rfl) (Fz.le_refl _)
  refine .assign rfl rfl ?_
  refine .nil ?_
  refine .code ?_
  exact .ret0 Try.results71 (.tmp rfl (.nil)) (i := 0) rfl (Fz.le_trans l_5 (Fz.le_trans l_10 l_14)) rfl

def m_bottle_isStamp (x1 : ApiStampEvent) : Bool :=
  (((m_bottle_within x1.Kind 0 3) && ((x1.Kind != 1) || (m_bottle_within x1.Batch 0 1073741824))) && (m_bottle_isSpan (ApiSpan.mk x1.First x1.Last) 1099511627776))
theorem c_bottle_isStamp (F0 : Fz) (x1 : ApiStampEvent) : CT0 Try.prog 33 [(eApiStampEvent x1)].toArray F0 (some (m_bottle_isStamp x1)) (fun r _ v => v = (.bool r)) := by
  refine CT0.enter Try.func33 rfl Try.ntmps33 rfl fun r R => ?_
  refine .seq ?_
  refine .region ?_
  refine .boxF (cs := (cApiStampEvent x1)) rfl rfl rfl (fun b2 F_3 l_4 hb5 => ?_)
  refine .assign rfl rfl ?_
  refine .nil ?_
  refine .code ?_
  refine .seq ?_
  refine .region ?_
  refine .fieldAddr rfl Try.underlying70 rfl Try.sizeOf3 rfl ?_
  refine .loadF rfl Try.isAgg3 rfl hb5 rfl ?_
  refine .callP rfl Try.call44 rfl rfl rfl (c_bottle_within _ x1.Kind 0 3) ?_
  rintro F_6 _ l_7 rfl
  refine .move rfl rfl ?_
  refine .andP (b := (m_bottle_within x1.Kind 0 3)) (b' := ((x1.Kind != 1) || (m_bottle_within x1.Batch 0 1073741824))) 9 16 (fun hb8 => ?_) (fun hb15 => ?_) (fun F_16 l_17 => ?_)
  · skip
    refine .onH hb8 rfl rfl ?_
    refine .fieldAddr rfl Try.underlying70 rfl Try.sizeOf3 rfl ?_
    refine .onH hb8 rfl rfl ?_
    refine .loadF rfl Try.isAgg3 rfl (l_7.mem _ _ hb5) rfl ?_
    refine .onH hb8 rfl rfl ?_
    refine .neq rfl rfl rfl ?_
    refine .onH hb8 rfl rfl ?_
    refine .move rfl rfl ?_
    refine .orP (b := (x1.Kind != 1)) (b' := (m_bottle_within x1.Batch 0 1073741824)) 4 15 (fun hb9 => ?_) (fun hb12 => ?_) (fun F_13 l_14 => ?_)
    · skip
      refine .onH hb9 rfl rfl ?_
      refine .fieldAddr rfl Try.underlying70 rfl Try.sizeOf3 rfl ?_
      refine .onH hb9 rfl rfl ?_
      refine .loadF rfl Try.isAgg3 rfl (l_7.mem _ _ hb5) rfl ?_
      refine .onH hb9 rfl rfl ?_
      refine .callP rfl Try.call44 rfl rfl rfl (c_bottle_within _ x1.Batch 0 1073741824) ?_
      rintro F_10 _ l_11 rfl
      refine .onH hb8 rfl rfl ?_
      refine .pickFH hb9 rfl rfl rfl ?_
      exact .fin 4 rfl rfl (by kernel_rfl) l_11
    · skip
      refine .offH hb12 rfl rfl rfl ?_
      refine .offH hb12 rfl rfl rfl ?_
      refine .offH hb12 rfl rfl rfl ?_
      refine .onH hb8 rfl rfl ?_
      refine .pickTH hb12 rfl rfl rfl ?_
      exact .fin 4 rfl rfl (by kernel_rfl) (Fz.le_refl _)
    refine .pickTH hb8 rfl rfl rfl ?_
    exact .fin 6 rfl rfl (by kernel_rfl) l_14
  · skip
    refine .offH hb15 rfl rfl rfl ?_
    refine .offH hb15 rfl rfl rfl ?_
    refine .offH hb15 rfl rfl rfl ?_
    refine .offH hb15 rfl rfl rfl ?_
    refine .off rfl rfl rfl rfl ?_
    refine .off rfl rfl rfl rfl ?_
    refine .off rfl rfl rfl rfl ?_
    refine .offH hb15 rfl rfl rfl ?_
    refine .pickFH hb15 rfl rfl rfl ?_
    exact .fin 9 rfl rfl (by kernel_rfl) (Fz.le_refl _)
  refine .assign rfl rfl ?_
  refine .nil ?_
  refine .code ?_
  refine .seq ?_
  refine .region ?_
  refine .move rfl rfl ?_
  refine .move rfl rfl ?_
  refine .andP (b := ((m_bottle_within x1.Kind 0 3) && ((x1.Kind != 1) || (m_bottle_within x1.Batch 0 1073741824)))) (b' := (m_bottle_isSpan (ApiSpan.mk x1.First x1.Last) 1099511627776)) 7 25 (fun hb18 => ?_) (fun hb21 => ?_) (fun F_22 l_23 => ?_)
  · skip
    refine .onH hb18 rfl rfl ?_
    refine .fieldAddr rfl Try.underlying70 rfl Try.sizeOf3 rfl ?_
    refine .onH hb18 rfl rfl ?_
    refine .loadF rfl Try.isAgg3 rfl ((Fz.le_trans l_7 l_17).mem _ _ hb5) rfl ?_
    refine .onH hb18 rfl rfl ?_
    refine .fieldAddr rfl Try.underlying70 rfl Try.sizeOf3 rfl ?_
    refine .onH hb18 rfl rfl ?_
    refine .loadF rfl Try.isAgg3 rfl ((Fz.le_trans l_7 l_17).mem _ _ hb5) rfl ?_
    refine .onH hb18 rfl rfl ?_
    refine .build (cs := (cApiSpan (ApiSpan.mk x1.First x1.Last)).toArray) rfl Try.underlying36 Try.zeroValue36 (plApiSpan _ Try.underlying36) rfl rfl (by kernel_rfl) ?_
    refine .onH hb18 rfl rfl ?_
    refine .callP rfl Try.call71 rfl rfl rfl (c_bottle_isSpan _ (ApiSpan.mk x1.First x1.Last) 1099511627776) ?_
    rintro F_19 _ l_20 rfl
    refine .pickTH hb18 rfl rfl rfl ?_
    exact .fin 7 rfl rfl (by kernel_rfl) l_20
  · skip
    refine .offH hb21 rfl rfl rfl ?_
    refine .offH hb21 rfl rfl rfl ?_
    refine .offH hb21 rfl rfl rfl ?_
    refine .offH hb21 rfl rfl rfl ?_
    refine .offH hb21 rfl rfl rfl ?_
    refine .offH hb21 rfl rfl rfl ?_
    refine .pickFH hb21 rfl rfl rfl ?_
    exact .fin 7 rfl rfl (by kernel_rfl) (Fz.le_refl _)
  refine .assign rfl rfl ?_
  refine .nil ?_
  refine .code ?_
  exact .ret0 Try.results33 (.tmp rfl (.nil)) (i := 0) rfl (Fz.le_trans l_4 (Fz.le_trans l_7 (Fz.le_trans l_17 l_23))) rfl

noncomputable def b_slices_IndexFunc_Span_1 (s1 : (List ApiSpan)) (f5 : (ApiSpan → Option Bool)) (s9 : Int) : Option (Ctl (Int) ((Unit) ⊕ (Int))) :=
  if (decide (s9 < (s1.length : Int))) then ((idxL s1 s9).bind fun x13 => (f5 x13).bind fun r_25 => if r_25 then (some (.done (.inr s9))) else (some (.next (w64 (s9 + 1))))) else (some (.done (.inl ())))
noncomputable def m_slices_IndexFunc_Span (s1 : (List ApiSpan)) (f5 : (ApiSpan → Option Bool)) : Option Int :=
  (loopM (b_slices_IndexFunc_Span_1 s1 f5) 0).bind fun b0 => match b0 with | .inl _b27 => (some (-1)) | .inr b27 => (some b27)
theorem c_slices_IndexFunc_Span (F0 : Fz) (s1 : (List ApiSpan)) (p2 : Option Addr) (k3 : Nat) (h4 : RepSl 2 (Ex cApiSpan) F0 p2 k3 s1) (f5 : (ApiSpan → Option Bool)) (p6 : FuncId) (k7 : List Value) (h8 : RepFn Try.prog F0 p6 k7 (fun x _ vs => vs = [(eApiSpan x)]) (fun r _ v => v = (.bool r)) f5) : CT0 Try.prog 76 [(.slice p2 s1.length k3), (.func (.func p6) #[] k7.toArray)].toArray F0 (m_slices_IndexFunc_Span s1 f5) (fun r _ v => v = (.int .i64 r)) := by
  refine CT0.enter Try.func76 rfl Try.ntmps76 rfl fun r R => ?_
  unfold m_slices_IndexFunc_Span
  refine .seq ?_
  refine .region ?_
  refine .assign rfl rfl ?_
  refine .nil ?_
  refine .code ?_
  refine .seq ?_
  refine .seq ?_
  refine .region ?_
  refine .move rfl rfl ?_
  refine .lenS rfl rfl Try.underlying81 rfl ?_
  refine .move rfl rfl ?_
  refine .nil ?_
  refine .code ?_
  refine .block ?_
  refine .keep (.cons (k := 0) rfl (.cons (k := 1) rfl (.cons (k := 7) rfl (.cons (k := 8) rfl (.nil _))))) ?_
  refine .loop (fun (s9 : Int) a w => ∃ (F_10 : Fz), F0 ≤ F_10 ∧ Hd 19 [] [(0, (.slice p2 s1.length k3)), (1, (.func (.func p6) #[] k7.toArray)), (7, (.int .i64 (s1.length : Int))), (8, (.int .i64 s9))] F_10 [R] a w) (fun b0 e a w => match b0 with | .inl b27 => e = .exit 0 ∧ ∃ (F_28 : Fz), F0 ≤ F_28 ∧ Hd 19 [] [] F_28 [R] a w | .inr b27 => e = .ret ∧ ∃ (F_30 : Fz), F0 ≤ F_30 ∧ Hd 19 [] [(4, (.int .i64 b27))] F_30 [R] a w) ?_ ?_ ?_
  · exact fun a w h => ⟨F0, (Fz.le_refl _), h.1.sub (.cons (k := 0) rfl (.cons (k := 1) rfl (.cons (k := 7) rfl (.cons (k := 8) rfl (.nil _))))), h.2⟩
  · intro s9 ctl
    refine GC.ex (fun a w ⟨F_10, l_11, hA⟩ => ⟨_, hA, ?_⟩)
    unfold b_slices_IndexFunc_Span_1
    refine .seq ?_
    refine .region ?_
    refine .lss rfl rfl rfl ?_
    refine .nil ?_
    refine .code ?_
    refine .seq ?_
    refine .cond rfl (fun hb12 => ?_) (fun hb12 => ?_)
    · skip
      refine .skip ?_
      refine .code ?_
      refine .seq ?_
      refine .block ?_
      refine .seq ?_
      refine .region ?_
      refine .move rfl rfl ?_
      refine .assign rfl rfl ?_
      refine .nil ?_
      refine .code ?_
      refine .seq ?_
      refine .region ?_
      refine .move rfl rfl ?_
      refine .move rfl rfl ?_
      refine .move rfl rfl ?_
      refine .idx rfl Try.underlying81 Try.sizeOf36 (h4.mono l_11) rfl rfl (fun x13 b14 o15 T16 fr17 cs18 e19 hm20 hv21 => ?_)
      refine .loadFA rfl Try.isAgg36 Try.sizeOf36 rfl hm20 hv21 rfl ?_
      refine .call0 rfl h8.1 rfl rfl rfl (h8.2 _ l_11 x13 [(eApiSpan x13)] rfl) ?_
      rintro r_25 F_23 _ - l_24 rfl
      refine .nil ?_
      refine .code ?_
      refine .cond rfl (fun hb26 => ?_) (fun hb26 => ?_)
      · skip
        refine .seq ?_
        refine .region ?_
        refine .move rfl rfl ?_
        refine .assign rfl rfl ?_
        refine .nil ?_
        refine .code ?_
        refine .retQ (LPost.ret fun a w h => ⟨rfl, F_23, (Fz.le_trans l_11 l_24), h.1.sub (.cons (k := 4) rfl (.nil _)), h.2⟩)
      · skip
        refine .skip ?_
        refine .block ?_
        refine .code ?_
        refine .region ?_
        refine .add rfl rfl rfl ?_
        refine .move rfl rfl ?_
        refine .nil ?_
        exact .nil (LPost.norm fun a w h => ⟨F_23, (Fz.le_trans l_11 l_24), h.1.sub (.cons (k := 0) rfl (.cons (k := 1) rfl (.cons (k := 7) rfl (.cons (k := 8) rfl (.nil _))))), h.2⟩)
    · skip
      refine .exitOut rfl (LPost.exit fun a w h => ⟨rfl, F_10, l_11, h.1.sub (.nil _), h.2⟩)
  · intro b27 hb0 hk e a w hD
    rcases b27 with b27 | b27
    · skip
      obtain ⟨rfl, F_28, l_29, hA⟩ := hD
      refine interp_exit rfl (GE.app ?_ hk a w hA)
      refine .code ?_
      refine .seq ?_
      refine .region ?_
      refine .assign rfl rfl ?_
      refine .nil ?_
      refine .code ?_
      exact .ret0 Try.results76 (.tmp rfl (.nil)) (i := 0) rfl l_29 rfl
    obtain ⟨rfl, F_30, l_31, hA⟩ := hD
    exact interp_ret ((ret_post0 Try.results76 (.tmp rfl (.nil)) (i := 0) rfl l_31 rfl) hk a w hA)

noncomputable def m_slices_ContainsFunc_Span (s1 : (List ApiSpan)) (f5 : (ApiSpan → Option Bool)) : Option Bool :=
  (m_slices_IndexFunc_Span s1 f5).bind fun r_11 => some (decide (r_11 ≥ 0))
theorem c_slices_ContainsFunc_Span (F0 : Fz) (s1 : (List ApiSpan)) (p2 : Option Addr) (k3 : Nat) (h4 : RepSl 2 (Ex cApiSpan) F0 p2 k3 s1) (f5 : (ApiSpan → Option Bool)) (p6 : FuncId) (k7 : List Value) (h8 : RepFn Try.prog F0 p6 k7 (fun x _ vs => vs = [(eApiSpan x)]) (fun r _ v => v = (.bool r)) f5) : CT0 Try.prog 72 [(.slice p2 s1.length k3), (.func (.func p6) #[] k7.toArray)].toArray F0 (m_slices_ContainsFunc_Span s1 f5) (fun r _ v => v = (.bool r)) := by
  refine CT0.enter Try.func72 rfl Try.ntmps72 rfl fun r R => ?_
  unfold m_slices_ContainsFunc_Span
  refine .seq ?_
  refine .region ?_
  refine .assign rfl rfl ?_
  refine .nil ?_
  refine .code ?_
  refine .seq ?_
  refine .region ?_
  refine .move rfl rfl ?_
  refine .move rfl rfl ?_
  refine .call0 rfl Try.call76 rfl rfl rfl (c_slices_IndexFunc_Span _ s1 p2 k3 h4 f5 p6 k7 h8) ?_
  rintro r_11 F_9 _ - l_10 rfl
  refine .geq rfl rfl rfl ?_
  refine .assign rfl rfl ?_
  refine .nil ?_
  refine .code ?_
  exact .ret0 Try.results72 (.tmp rfl (.nil)) (i := 0) rfl l_10 rfl

def m_bottle_spans_overlaps_1 (y1 : ApiSpan) (c2 : ApiSpan) : Bool :=
  ((decide (y1.Lo ≤ c2.Hi)) && (decide (c2.Lo ≤ y1.Hi)))
theorem c_bottle_spans_overlaps_1 (F0 : Fz) (y1 : ApiSpan) (c2 : ApiSpan) (b3 : Nat) (hb4 : F0.mem b3 = some (.cells (cApiSpan c2).toArray 36)) : CT0 Try.prog 73 [(eApiSpan y1), (.pointer (some ⟨b3, 0, none⟩))].toArray F0 (some (m_bottle_spans_overlaps_1 y1 c2)) (fun r _ v => v = (.bool r)) := by
  refine CT0.enter Try.func73 rfl Try.ntmps73 rfl fun r R => ?_
  refine .seq ?_
  refine .region ?_
  refine .boxF (cs := (cApiSpan y1)) rfl rfl rfl (fun b5 F_6 l_7 hb8 => ?_)
  refine .assign rfl rfl ?_
  refine .nil ?_
  refine .code ?_
  refine .seq ?_
  refine .region ?_
  refine .fieldAddr rfl Try.underlying36 rfl Try.sizeOf3 rfl ?_
  refine .loadF rfl Try.isAgg3 rfl hb8 rfl ?_
  refine .fieldAddr rfl Try.underlying36 rfl Try.sizeOf3 rfl ?_
  refine .loadF rfl Try.isAgg3 rfl (l_7.mem _ _ hb4) rfl ?_
  refine .leq rfl rfl rfl ?_
  refine .move rfl rfl ?_
  refine .andP (b := (decide (y1.Lo ≤ c2.Hi))) (b' := (decide (c2.Lo ≤ y1.Hi))) 6 15 (fun hb9 => ?_) (fun hb10 => ?_) (fun F_11 l_12 => ?_)
  · skip
    refine .onH hb9 rfl rfl ?_
    refine .fieldAddr rfl Try.underlying36 rfl Try.sizeOf3 rfl ?_
    refine .onH hb9 rfl rfl ?_
    refine .loadF rfl Try.isAgg3 rfl (l_7.mem _ _ hb4) rfl ?_
    refine .onH hb9 rfl rfl ?_
    refine .fieldAddr rfl Try.underlying36 rfl Try.sizeOf3 rfl ?_
    refine .onH hb9 rfl rfl ?_
    refine .loadF rfl Try.isAgg3 rfl hb8 rfl ?_
    refine .onH hb9 rfl rfl ?_
    refine .leq rfl rfl rfl ?_
    refine .pickTH hb9 rfl rfl rfl ?_
    exact .fin 6 rfl rfl (by kernel_rfl) (Fz.le_refl _)
  · skip
    refine .offH hb10 rfl rfl rfl ?_
    refine .offH hb10 rfl rfl rfl ?_
    refine .offH hb10 rfl rfl rfl ?_
    refine .offH hb10 rfl rfl rfl ?_
    refine .offH hb10 rfl rfl rfl ?_
    refine .pickFH hb10 rfl rfl rfl ?_
    exact .fin 6 rfl rfl (by kernel_rfl) (Fz.le_refl _)
  refine .assign rfl rfl ?_
  refine .nil ?_
  refine .code ?_
  exact .ret0 Try.results73 (.tmp rfl (.nil)) (i := 0) rfl (Fz.le_trans l_7 l_12) rfl

noncomputable def m_bottle_spans_overlaps (s1 : (List ApiSpan)) (x5 : ApiSpan) : Option Bool :=
  (m_slices_ContainsFunc_Span s1 (fun x => some (m_bottle_spans_overlaps_1 x x5))).bind fun r_13 => some r_13
theorem c_bottle_spans_overlaps (F0 : Fz) (s1 : (List ApiSpan)) (p2 : Option Addr) (k3 : Nat) (h4 : RepSl 2 (Ex cApiSpan) F0 p2 k3 s1) (x5 : ApiSpan) : CT0 Try.prog 34 [(.slice p2 s1.length k3), (eApiSpan x5)].toArray F0 (m_bottle_spans_overlaps s1 x5) (fun r _ v => v = (.bool r)) := by
  refine CT0.enter Try.func34 rfl Try.ntmps34 rfl fun r R => ?_
  unfold m_bottle_spans_overlaps
  refine .seq ?_
  refine .region ?_
  refine .boxF (cs := (cApiSpan x5)) rfl rfl rfl (fun b6 F_7 l_8 hb9 => ?_)
  refine .assign rfl rfl ?_
  refine .nil ?_
  refine .code ?_
  refine .seq ?_
  refine .region ?_
  refine .move rfl rfl ?_
  refine .makeFunc rfl rfl ?_
  have hf10 : RepFn Try.prog F_7 73 [(.pointer (some ⟨b6, 0, none⟩))] (fun x _ vs => vs = [(eApiSpan x)]) (fun r _ v => v = (.bool r)) (fun x => some (m_bottle_spans_overlaps_1 x x5)) := ⟨Try.call73, fun F' le' x vs hv => by obtain rfl := hv; exact c_bottle_spans_overlaps_1 F' x x5 b6 (le'.mem _ _ hb9)⟩
  refine .call0 rfl Try.call72 rfl rfl rfl (c_slices_ContainsFunc_Span _ s1 p2 k3 (h4.mono l_8) (fun x => some (m_bottle_spans_overlaps_1 x x5)) 73 ([(.pointer (some ⟨b6, 0, none⟩))]) hf10) ?_
  rintro r_13 F_11 _ - l_12 rfl
  refine .assign rfl rfl ?_
  refine .nil ?_
  refine .code ?_
  exact .ret0 Try.results34 (.tmp rfl (.nil)) (i := 0) rfl (Fz.le_trans l_8 l_12) rfl

noncomputable def m_slices_Grow_Span (n_1 : Int) : Option (List ApiSpan) :=
  (if (decide (n_1 < 0)) then (none) else (some ()) : Option (Unit)).bind fun _j3 => bindv (w64 (n_1 - (w64 (0 - 0)))) fun n_6 => (if (decide (n_6 > 0)) then ((makeN n_6).bind fun n_10 => (sliceL (List.replicate n_10 (ApiSpan.mk 0 0)) 0 0).bind fun l_13 => some l_13) else (some ([])) : Option ((List ApiSpan))).bind fun j16 => some j16
theorem c_slices_Grow_Span (F0 : Fz) (n_1 : Int) : CTown Try.prog 92 [(.slice none 0 0), (.int .i64 n_1)].toArray F0 (m_slices_Grow_Span n_1) 2 (Ex cApiSpan) 36 := by
  refine CTown.enter Try.func92 rfl Try.ntmps92 rfl fun r R => ?_
  unfold m_slices_Grow_Span
  refine .seq ?_
  refine .region ?_
  refine .assign rfl rfl ?_
  refine .nil ?_
  refine .code ?_
  refine .seq ?_
  refine .seq ?_
  refine .region ?_
  refine .move rfl rfl ?_
  refine .lss rfl rfl rfl ?_
  refine .nil ?_
  refine .code ?_
  refine .keep (.cons (k := 0) rfl (.cons (k := 1) rfl (.cons (k := 6) rfl (.nil _)))) ?_
  refine GC.join0 (σ := Unit) (fun j3 a w => ∃ (F_4 : Fz), F0 ≤ F_4 ∧ Hd 27 [] [(0, (.slice none 0 0)), (1, (.int .i64 n_1))] F_4 [R] a w) (fun sj => ?_) (fun j3 hs0 => GE.ex (fun a w ⟨F_4, l_5, hA⟩ => ⟨_, hA, ?_⟩))
  · skip
    refine .cond rfl (fun hb2 => ?_) (fun hb2 => ?_)
    · skip
      exact .noneM
    · skip
      refine .skip ?_
      exact .nil fun e a w h => by cases e; exact ⟨rfl, ⟨F0, (Fz.le_refl _), h.1.sub (.cons (k := 0) rfl (.cons (k := 1) rfl (.nil _))), h.2⟩⟩
  refine .code ?_
  refine .seq ?_
  refine .seq ?_
  refine .region ?_
  refine .move rfl rfl ?_
  refine .move rfl rfl ?_
  refine .capS rfl rfl Try.underlying81 rfl ?_
  refine .move rfl rfl ?_
  refine .lenS rfl rfl Try.underlying81 rfl ?_
  refine .sub rfl rfl rfl ?_
  refine .sub rfl rfl rfl ?_
  refine .assignL rfl rfl (fun n_6 e7 => ?_)
  refine .nil ?_
  refine .code ?_
  refine .seq ?_
  refine .region ?_
  refine .move rfl rfl ?_
  refine .gtr rfl rfl rfl ?_
  refine .nil ?_
  refine .code ?_
  refine .ownNil 2 (Ex cApiSpan) 36 ?_
  refine .keep (.cons (k := 0) rfl (.cons (k := 1) rfl (.cons (k := 16) rfl (.nil _)))) ?_
  refine GC.join0 (σ := (List ApiSpan)) (fun j16 a w => ∃ (F_17 : Fz) (p19 : Option Addr) (k20 : Nat), F_4 ≤ F_17 ∧ Hd 27 [] [(0, (.slice p19 j16.length k20))] F_17 [ownSl 2 (Ex cApiSpan) F_17 36 p19 k20 j16, R] a w) (fun sj => ?_) (fun j16 hs0 => GE.ex (fun a w ⟨F_17, p19, k20, l_18, hA⟩ => ⟨_, hA, ?_⟩))
  · skip
    refine .cond rfl (fun hb9 => ?_) (fun hb9 => ?_)
    · skip
      refine .region ?_
      refine .move rfl rfl ?_
      refine .move rfl rfl ?_
      refine .capS rfl rfl Try.underlying81 rfl ?_
      refine .sliceNil rfl Try.underlying81 Try.sizeOf36 rfl rfl rfl ?_
      refine .move rfl rfl ?_
      refine .growNil (z := (ApiSpan.mk 0 0)) 0 ok_t36 rfl Try.underlying81 Try.underlying3 rfl rfl Try.zeroValue36 (fun _ _ => rfl) rfl rfl rfl (fun n_10 b11 k12 _ => ?_)
      refine .move rfl rfl ?_
      refine .lenS rfl rfl Try.underlying81 rfl ?_
      refine .ownHi 0 rfl Try.underlying81 Try.sizeOf36 rfl rfl rfl (fun l_13 p14 e15 => ?_)
      refine .assign rfl rfl ?_
      refine .nil ?_
      exact .nil fun e a w h => by cases e; exact ⟨rfl, ⟨F_4, p14, k12, (Fz.le_refl _), h.1.sub (.cons (k := 0) rfl (.nil _)), h.2⟩⟩
    · skip
      refine .skip ?_
      exact .nil fun e a w h => by cases e; exact ⟨rfl, ⟨F_4, none, 0, (Fz.le_refl _), h.1.sub (.cons (k := 0) rfl (.nil _)), h.2⟩⟩
  refine .code ?_
  refine .seq ?_
  refine .region ?_
  refine .move rfl rfl ?_
  refine .assign rfl rfl ?_
  refine .nil ?_
  refine .code ?_
  exact .retW Try.results92 rfl (i := 0) rfl (Fz.le_refl _) (j := 0) rfl (Fz.le_trans l_5 l_18)

noncomputable def b_slices_Concat_Span_1 (slices1 : (List (List ApiSpan))) (s5 : Int × Int) : Option (Ctl (Int × Int) ((Int))) :=
  if (decide (s5.2 < (slices1.length : Int))) then (((idxL slices1 s5.2).bind fun x9 => bindv (w64 (s5.1 + (x9.length : Int))) fun size22 => (if (decide (size22 < 0)) then (none) else (some ()) : Option (Unit)).bind fun _j25 => some size22 : Option (Int)).bind fun j28 => some (.next (j28, (w64 (s5.2 + 1))))) else (some (.done s5.1))
noncomputable def b_slices_Concat_Span_2 (slices1 : (List (List ApiSpan))) (s40 : (List ApiSpan) × Int) : Option (Ctl ((List ApiSpan) × Int) (((List ApiSpan)))) :=
  if (decide (s40.2 < (slices1.length : Int))) then ((idxL slices1 s40.2).bind fun x47 => (appO s40.1 x47).bind fun l_60 => some (.next (l_60, (w64 (s40.2 + 1))))) else (some (.done s40.1))
noncomputable def m_slices_Concat_Span (slices1 : (List (List ApiSpan))) : Option (List ApiSpan) :=
  (loopM (b_slices_Concat_Span_1 slices1) (0, 0)).bind fun b31 => (m_slices_Grow_Span b31).bind fun r_34 => (loopM (b_slices_Concat_Span_2 slices1) (r_34, 0)).bind fun b64 => some b64
theorem c_slices_Concat_Span (F0 : Fz) (slices1 : (List (List ApiSpan))) (p2 : Option Addr) (k3 : Nat) (h4 : RepSl 1 (rSl 2 (Ex cApiSpan)) F0 p2 k3 slices1) : CT0 Try.prog 74 [(.slice p2 slices1.length k3)].toArray F0 (m_slices_Concat_Span slices1) (fun r F v => ∃ p0 k0, v = (.slice p0 r.length k0) ∧ RepSl 2 (Ex cApiSpan) F p0 k0 r) := by
  refine CT0.enter Try.func74 rfl Try.ntmps74 rfl fun r R => ?_
  unfold m_slices_Concat_Span
  refine .seq ?_
  refine .region ?_
  refine .assign rfl rfl ?_
  refine .nil ?_
  refine .code ?_
  refine .seq ?_
  refine .region ?_
  refine .assign rfl rfl ?_
  refine .nil ?_
  refine .code ?_
  refine .seq ?_
  refine .seq ?_
  refine .region ?_
  refine .move rfl rfl ?_
  refine .lenS rfl rfl Try.underlying136 rfl ?_
  refine .move rfl rfl ?_
  refine .nil ?_
  refine .code ?_
  refine .block ?_
  refine .keep (.cons (k := 0) rfl (.cons (k := 3) rfl (.cons (k := 9) rfl (.cons (k := 10) rfl (.cons (k := 11) rfl (.nil _)))))) ?_
  refine .loop (fun (s5 : Int × Int) a w => ∃ (F_6 : Fz), F0 ≤ F_6 ∧ Hd 36 [] [(0, (.slice p2 slices1.length k3)), (3, (.int .i64 s5.1)), (9, (.slice p2 slices1.length k3)), (10, (.int .i64 (slices1.length : Int))), (11, (.int .i64 s5.2))] F_6 [R] a w) (fun b31 e a w => e = .exit 0 ∧ ∃ (F_32 : Fz), F0 ≤ F_32 ∧ Hd 36 [] [(0, (.slice p2 slices1.length k3)), (3, (.int .i64 b31))] F_32 [R] a w) ?_ ?_ ?_
  · exact fun a w h => ⟨F0, (Fz.le_refl _), h.1.sub (.cons (k := 0) rfl (.cons (k := 3) rfl (.cons (k := 9) rfl (.cons (k := 10) rfl (.cons (k := 11) rfl (.nil _)))))), h.2⟩
  · intro s5 ctl
    refine GC.ex (fun a w ⟨F_6, l_7, hA⟩ => ⟨_, hA, ?_⟩)
    unfold b_slices_Concat_Span_1
    refine .seq ?_
    refine .region ?_
    refine .lss rfl rfl rfl ?_
    refine .nil ?_
    refine .code ?_
    refine .seq ?_
    refine .cond rfl (fun hb8 => ?_) (fun hb8 => ?_)
    · skip
      refine .skip ?_
      refine .code ?_
      refine .seq ?_
      refine .keep (.cons (k := 0) rfl (.cons (k := 3) rfl (.cons (k := 9) rfl (.cons (k := 10) rfl (.cons (k := 11) rfl (.nil _)))))) ?_
      refine GC.join0 (σ := Int) (fun j28 a w => ∃ (F_29 : Fz), F_6 ≤ F_29 ∧ Hd 36 [] [(0, (.slice p2 slices1.length k3)), (3, (.int .i64 j28)), (9, (.slice p2 slices1.length k3)), (10, (.int .i64 (slices1.length : Int))), (11, (.int .i64 s5.2))] F_29 [R] a w) (fun sj => ?_) (fun j28 hs0 => GE.ex (fun a w ⟨F_29, l_30, hA⟩ => ⟨_, hA, ?_⟩))
      · skip
        refine .block ?_
        refine .seq ?_
        refine .region ?_
        refine .idx rfl Try.underlying136 Try.sizeOf81 (h4.mono l_7) rfl rfl (fun x9 b10 o11 T12 fr13 cs14 e15 hm16 hv17 => ?_)
        obtain ⟨p19, k20, hv17, h21⟩ := hv17
        refine .loadF rfl Try.isAgg81 rfl hm16 (cell_of_take (k := 0) hv17 rfl) ?_
        refine .assign rfl rfl ?_
        refine .nil ?_
        refine .code ?_
        refine .seq ?_
        refine .region ?_
        refine .move rfl rfl ?_
        refine .move rfl rfl ?_
        refine .lenS rfl rfl Try.underlying81 rfl ?_
        refine .add rfl rfl rfl ?_
        refine .assignL rfl rfl (fun size22 e23 => ?_)
        refine .nil ?_
        refine .code ?_
        refine .seq ?_
        refine .region ?_
        refine .move rfl rfl ?_
        refine .lss rfl rfl rfl ?_
        refine .nil ?_
        refine .code ?_
        refine .keep (.cons (k := 0) rfl (.cons (k := 3) rfl (.cons (k := 9) rfl (.cons (k := 10) rfl (.cons (k := 11) rfl (.cons (k := 20) rfl (.nil _))))))) ?_
        refine GC.join0 (σ := Unit) (fun j25 a w => ∃ (F_26 : Fz), F_6 ≤ F_26 ∧ Hd 36 [] [(0, (.slice p2 slices1.length k3)), (3, (.int .i64 size22)), (9, (.slice p2 slices1.length k3)), (10, (.int .i64 (slices1.length : Int))), (11, (.int .i64 s5.2))] F_26 [R] a w) (fun sj => ?_) (fun j25 hs0 => GE.ex (fun a w ⟨F_26, l_27, hA⟩ => ⟨_, hA, ?_⟩))
        · skip
          refine .cond rfl (fun hb24 => ?_) (fun hb24 => ?_)
          · skip
            exact .noneM
          · skip
            refine .skip ?_
            exact .nil fun e a w h => by cases e; exact ⟨rfl, ⟨F_6, (Fz.le_refl _), h.1.sub (.cons (k := 0) rfl (.cons (k := 3) rfl (.cons (k := 9) rfl (.cons (k := 10) rfl (.cons (k := 11) rfl (.nil _)))))), h.2⟩⟩
        refine .block ?_
        exact .nil fun e a w h => by cases e; exact ⟨rfl, ⟨F_26, l_27, h.1.sub (.cons (k := 0) rfl (.cons (k := 3) rfl (.cons (k := 9) rfl (.cons (k := 10) rfl (.cons (k := 11) rfl (.nil _)))))), h.2⟩⟩
      refine .code ?_
      refine .region ?_
      refine .add rfl rfl rfl ?_
      refine .move rfl rfl ?_
      refine .nil ?_
      exact .nil (LPost.norm fun a w h => ⟨F_29, (Fz.le_trans l_7 l_30), h.1.sub (.cons (k := 0) rfl (.cons (k := 3) rfl (.cons (k := 9) rfl (.cons (k := 10) rfl (.cons (k := 11) rfl (.nil _)))))), h.2⟩)
    · skip
      refine .exitOut rfl (LPost.exit fun a w h => ⟨rfl, F_6, l_7, h.1.sub (.cons (k := 0) rfl (.cons (k := 3) rfl (.nil _))), h.2⟩)
  · intro b31 hb0 hk e a w hD
    obtain ⟨rfl, F_32, l_33, hA⟩ := hD
    refine interp_exit rfl (GE.app ?_ hk a w hA)
    refine .code ?_
    refine .seq ?_
    refine .region ?_
    refine .move rfl rfl ?_
    refine .callW rfl Try.call92 rfl rfl rfl (c_slices_Grow_Span _ b31) (fun r_34 F_35 p37 k38 _ l_36 => ?_)
    refine .assign rfl rfl ?_
    refine .nil ?_
    refine .code ?_
    refine .seq ?_
    refine .seq ?_
    refine .region ?_
    refine .move rfl rfl ?_
    refine .lenS rfl rfl Try.underlying136 rfl ?_
    refine .move rfl rfl ?_
    refine .nil ?_
    refine .code ?_
    refine .block ?_
    refine .keep (.cons (k := 6) rfl (.cons (k := 25) rfl (.cons (k := 26) rfl (.cons (k := 27) rfl (.nil _))))) ?_
    refine .loop (fun (s40 : (List ApiSpan) × Int) a w => ∃ (F_41 : Fz) (p43 : Option Addr) (k44 : Nat), F_35 ≤ F_41 ∧ Hd 36 [] [(6, (.slice p43 s40.1.length k44)), (25, (.slice p2 slices1.length k3)), (26, (.int .i64 (slices1.length : Int))), (27, (.int .i64 s40.2))] F_41 [ownSl 2 (Ex cApiSpan) F_41 36 p43 k44 s40.1, R] a w) (fun b64 e a w => e = .exit 2 ∧ ∃ (F_65 : Fz) (p67 : Option Addr) (k68 : Nat), F_35 ≤ F_65 ∧ Hd 36 [] [(6, (.slice p67 b64.length k68))] F_65 [ownSl 2 (Ex cApiSpan) F_65 36 p67 k68 b64, R] a w) ?_ ?_ ?_
    · exact fun a w h => ⟨F_35, p37, k38, (Fz.le_refl _), h.1.sub (.cons (k := 6) rfl (.cons (k := 25) rfl (.cons (k := 26) rfl (.cons (k := 27) rfl (.nil _))))), h.2⟩
    · intro s40 ctl
      refine GC.ex (fun a w ⟨F_41, p43, k44, l_42, hA⟩ => ⟨_, hA, ?_⟩)
      unfold b_slices_Concat_Span_2
      refine .seq ?_
      refine .region ?_
      refine .lss rfl rfl rfl ?_
      refine .nil ?_
      refine .code ?_
      refine .seq ?_
      refine .cond rfl (fun hb46 => ?_) (fun hb46 => ?_)
      · skip
        refine .skip ?_
        refine .code ?_
        refine .seq ?_
        refine .block ?_
        refine .seq ?_
        refine .region ?_
        refine .idx rfl Try.underlying136 Try.sizeOf81 (h4.mono (Fz.le_trans l_33 (Fz.le_trans l_36 l_42))) rfl rfl (fun x47 b48 o49 T50 fr51 cs52 e53 hm54 hv55 => ?_)
        obtain ⟨p57, k58, hv55, h59⟩ := hv55
        refine .loadF rfl Try.isAgg81 rfl hm54 (cell_of_take (k := 0) hv55 rfl) ?_
        refine .assign rfl rfl ?_
        refine .nil ?_
        refine .code ?_
        refine .region ?_
        refine .move rfl rfl ?_
        refine .move rfl rfl ?_
        refine .append 0 ok_t36 (Fz.le_refl _) rfl Try.underlying81 Try.underlying81 rfl rfl rfl h59 rfl rfl (fun l_60 p61 k62 e63 => ?_)
        refine .assign rfl rfl ?_
        refine .nil ?_
        refine .block ?_
        refine .code ?_
        refine .region ?_
        refine .add rfl rfl rfl ?_
        refine .move rfl rfl ?_
        refine .nil ?_
        exact .nil (LPost.norm fun a w h => ⟨F_41, p61, k62, l_42, h.1.sub (.cons (k := 6) rfl (.cons (k := 25) rfl (.cons (k := 26) rfl (.cons (k := 27) rfl (.nil _))))), h.2⟩)
      · skip
        refine .exitOut rfl (LPost.exit fun a w h => ⟨rfl, F_41, p43, k44, l_42, h.1.sub (.cons (k := 6) rfl (.nil _)), h.2⟩)
    · intro b64 hb0 hk e a w hD
      obtain ⟨rfl, F_65, p67, k68, l_66, hA⟩ := hD
      refine interp_exit rfl (GE.app ?_ hk a w hA)
      refine .code ?_
      refine .seq ?_
      refine .region ?_
      refine .move rfl rfl ?_
      refine .assign rfl rfl ?_
      refine .nil ?_
      refine .code ?_
      refine .freezeSl 0 rfl (Fz.le_refl _) (fun F_70 l_71 h72 => ?_)
      exact .ret0 Try.results74 (.tmp rfl (.nil)) (i := 0) rfl (Fz.le_trans l_33 (Fz.le_trans l_36 (Fz.le_trans l_66 l_71))) ⟨p67, k68, rfl, h72⟩

noncomputable def b_bottle_spans_with_1 (s1 : (List ApiSpan)) (x5 : ApiSpan) (s7 : Int) : Option (Ctl (Int) ((Int))) :=
  (if (decide (s7 < (s1.length : Int))) then ((idxL s1 s7).bind fun x11 => some (decide (x11.Hi < (w64 (x5.Lo - 1))))) else (some false) : Option (Bool)).bind fun j87 => if j87 then (bindv (w64 (s7 + 1)) fun i91 => some (.next i91)) else (some (.done s7))
noncomputable def b_bottle_spans_with_2 (s1 : (List ApiSpan)) (s96 : Int × ApiSpan) : Option (Ctl (Int × ApiSpan) ((Int × ApiSpan))) :=
  (if (decide (s96.1 < (s1.length : Int))) then ((idxL s1 s96.1).bind fun x100 => some (decide (x100.Lo ≤ (w64 (s96.2.Hi + 1))))) else (some false) : Option (Bool)).bind fun j176 => if j176 then ((idxL s1 s96.1).bind fun x180 => (idxL s1 s96.1).bind fun x190 => bindv (w64 (s96.1 + 1)) fun k237 => some (.next (k237, (ApiSpan.mk (imin s96.2.Lo x180.Lo) (imax s96.2.Hi x190.Hi))))) else (some (.done (s96.1, s96.2)))
noncomputable def m_bottle_spans_with (s1 : (List ApiSpan)) (x5 : ApiSpan) : Option (List ApiSpan) :=
  (loopM (b_bottle_spans_with_1 s1 x5) 0).bind fun b93 => (loopM (b_bottle_spans_with_2 s1) (b93, x5)).bind fun b239 => (sliceL s1 0 b93).bind fun l_243 => (sliceL s1 b239.1 s1.length).bind fun l_256 => (m_slices_Concat_Span ([l_243, [b239.2], l_256])).bind fun r_271 => some r_271
theorem c_bottle_spans_with (F0 : Fz) (s1 : (List ApiSpan)) (p2 : Option Addr) (k3 : Nat) (h4 : RepSl 2 (Ex cApiSpan) F0 p2 k3 s1) (x5 : ApiSpan) : CT0 Try.prog 35 [(.slice p2 s1.length k3), (eApiSpan x5)].toArray F0 (m_bottle_spans_with s1 x5) (fun r F v => ∃ p0 k0, v = (.slice p0 r.length k0) ∧ RepSl 2 (Ex cApiSpan) F p0 k0 r) := by
  refine CT0.enter Try.func35 rfl Try.ntmps35 rfl fun r R => ?_
  unfold m_bottle_spans_with
  refine .seq ?_
  refine .region ?_
  refine .box (cs := (cApiSpan x5)) rfl rfl rfl (fun b6 => ?_)
  refine .assign rfl rfl ?_
  refine .nil ?_
  refine .code ?_
  refine .seq ?_
  refine .region ?_
  refine .assign rfl rfl ?_
  refine .nil ?_
  refine .code ?_
  refine .seq ?_
  refine .block ?_
  refine .keep (.cons (k := 0) rfl (.cons (k := 3) rfl (.cons (k := 5) rfl (.nil _)))) ?_
  refine .loop (fun (s7 : Int) a w => ∃ (F_8 : Fz), F0 ≤ F_8 ∧ Hd 70 [] [(0, (.slice p2 s1.length k3)), (3, (.pointer (some ⟨b6, 0, none⟩))), (5, (.int .i64 s7))] F_8 [pt b6 (.cells (cApiSpan x5).toArray 36), R] a w) (fun b93 e a w => e = .exit 0 ∧ ∃ (F_94 : Fz), F0 ≤ F_94 ∧ Hd 70 [] [(0, (.slice p2 s1.length k3)), (3, (.pointer (some ⟨b6, 0, none⟩))), (5, (.int .i64 b93))] F_94 [pt b6 (.cells (cApiSpan x5).toArray 36), R] a w) ?_ ?_ ?_
  · exact fun a w h => ⟨F0, (Fz.le_refl _), h.1.sub (.cons (k := 0) rfl (.cons (k := 3) rfl (.cons (k := 5) rfl (.nil _)))), h.2⟩
  · intro s7 ctl
    refine GC.ex (fun a w ⟨F_8, l_9, hA⟩ => ⟨_, hA, ?_⟩)
    unfold b_bottle_spans_with_1
    refine .seq ?_
    refine .seq ?_
    refine .keep (.cons (k := 0) rfl (.cons (k := 3) rfl (.cons (k := 5) rfl (.nil _)))) ?_
    refine GC.join0 (σ := Bool) (fun j87 a w => ∃ (F_88 : Fz), F_8 ≤ F_88 ∧ Hd 70 [] [(0, (.slice p2 s1.length k3)), (3, (.pointer (some ⟨b6, 0, none⟩))), (5, (.int .i64 s7)), (21, (.bool j87))] F_88 [pt b6 (.cells (cApiSpan x5).toArray 36), R] a w) (fun sj => ?_) (fun j87 hs0 => GE.ex (fun a w ⟨F_88, l_89, hA⟩ => ⟨_, hA, ?_⟩))
    · skip
      refine .ite (fun hb10 => ?_) (fun hb10 => ?_)
      · skip
        refine .bind (fun x11 e17 => ?_)
        obtain ⟨b12, o13, T14, fr15, cs16, hm18, hv19, hq20⟩ := RepSl.idxE (h4.mono l_9) e17
        refine .draw ⟨1000000, 0, [], 0⟩ [(7, (.int .i64 s7)), (8, (.slice p2 s1.length k3)), (9, (.int .i64 (s1.length : Int))), (10, (.bool (decide (s7 < (s1.length : Int))))), (11, (.bool (decide (s7 < (s1.length : Int))))), (12, (.slice p2 s1.length k3)), (13, (.int .i64 s7)), (14, (.pointer (some ⟨b12, o13, none⟩))), (15, (.pointer (some ⟨b12, o13 + 1, none⟩))), (16, (.int .i64 x11.Hi)), (17, (.pointer (some ⟨b6, 0 + 0, none⟩))), (18, (.int .i64 x5.Lo)), (19, (.int .i64 (w64 (x5.Lo - 1)))), (20, (.bool (decide (x11.Hi < (w64 (x5.Lo - 1)))))), (21, (.bool (decide (x11.Hi < (w64 (x5.Lo - 1))))))] mixedOK (by kernel_rfl) (by kernel_rfl) rfl (by kernel_rfl) ?_ (fun F_21 b22 l_23 => ?_)
        · skip
          refine .cons (.mk 7 (.int .i64 s7) [(5, (.int .i64 s7))] rfl rfl rfl rfl (fun S hS hd => (.cons (hS _ _ rfl) (Sub.nil _))) (fun F_24 X l_25 => ?_)) ?_
          · skip
            refine .move rfl rfl ?_
            exact .fin1 (Fz.le_refl _)
          refine .cons (.mk 8 (.slice p2 s1.length k3) [(0, (.slice p2 s1.length k3))] rfl rfl rfl rfl (fun S hS hd => (.cons (hS _ _ rfl) (Sub.nil _))) (fun F_26 X l_27 => ?_)) ?_
          · skip
            refine .move rfl rfl ?_
            exact .fin1 (Fz.le_refl _)
          refine .cons (.mk 9 (.int .i64 (s1.length : Int)) [(8, (.slice p2 s1.length k3))] rfl rfl rfl rfl (fun S hS hd => (.cons (hd.1 rfl rfl _ _ rfl) (Sub.nil _))) (fun F_28 X l_29 => ?_)) ?_
          · skip
            refine .lenS rfl rfl Try.underlying81 rfl ?_
            exact .fin1 (Fz.le_refl _)
          refine .cons (.mk 10 (.bool (decide (s7 < (s1.length : Int)))) [(7, (.int .i64 s7)), (9, (.int .i64 (s1.length : Int)))] rfl rfl rfl rfl (fun S hS hd => (.cons (hd.1 rfl rfl _ _ rfl) (.cons (hd.2.1 rfl rfl _ _ rfl) (Sub.nil _)))) (fun F_30 X l_31 => ?_)) ?_
          · skip
            refine .lss rfl rfl rfl ?_
            exact .fin1 (Fz.le_refl _)
          refine .cons (.mk 11 (.bool (decide (s7 < (s1.length : Int)))) [(10, (.bool (decide (s7 < (s1.length : Int)))))] rfl rfl rfl rfl (fun S hS hd => (.cons (hd.1 rfl rfl _ _ rfl) (Sub.nil _))) (fun F_32 X l_33 => ?_)) ?_
          · skip
            refine .move rfl rfl ?_
            exact .fin1 (Fz.le_refl _)
          refine .cons (.mk 12 (.slice p2 s1.length k3) [(0, (.slice p2 s1.length k3)), (11, (.bool (decide (s7 < (s1.length : Int)))))] rfl rfl rfl rfl (fun S hS hd => (.cons (hS _ _ rfl) (.cons (hd.1 rfl rfl _ _ rfl) (Sub.nil _)))) (fun F_34 X l_35 => ?_)) ?_
          · skip
            refine .onH hb10 rfl rfl ?_
            refine .move rfl rfl ?_
            exact .fin1 (Fz.le_refl _)
          refine .cons (.mk 13 (.int .i64 s7) [(5, (.int .i64 s7)), (11, (.bool (decide (s7 < (s1.length : Int)))))] rfl rfl rfl rfl (fun S hS hd => (.cons (hS _ _ rfl) (.cons (hd.1 rfl rfl _ _ rfl) (Sub.nil _)))) (fun F_36 X l_37 => ?_)) ?_
          · skip
            refine .onH hb10 rfl rfl ?_
            refine .move rfl rfl ?_
            exact .fin1 (Fz.le_refl _)
          refine .cons (.mk 14 (.pointer (some ⟨b12, o13, none⟩)) [(11, (.bool (decide (s7 < (s1.length : Int))))), (12, (.slice p2 s1.length k3)), (13, (.int .i64 s7))] rfl rfl rfl rfl (fun S hS hd => (.cons (hd.2.2.1 rfl rfl _ _ rfl) (.cons (hd.1 rfl rfl _ _ rfl) (.cons (hd.2.1 rfl rfl _ _ rfl) (Sub.nil _))))) (fun F_38 X l_39 => ?_)) ?_
          · skip
            refine .onH hb10 rfl rfl ?_
            refine .idxQ rfl Try.underlying81 Try.sizeOf36 hq20 rfl rfl ?_
            exact .fin1 (Fz.le_refl _)
          refine .cons (.mk 15 (.pointer (some ⟨b12, o13 + 1, none⟩)) [(11, (.bool (decide (s7 < (s1.length : Int))))), (14, (.pointer (some ⟨b12, o13, none⟩)))] rfl rfl rfl rfl (fun S hS hd => (.cons (hd.2.1 rfl rfl _ _ rfl) (.cons (hd.1 rfl rfl _ _ rfl) (Sub.nil _)))) (fun F_40 X l_41 => ?_)) ?_
          · skip
            refine .onH hb10 rfl rfl ?_
            refine .fieldAddr rfl Try.underlying36 rfl Try.sizeOf3 rfl ?_
            exact .fin1 (Fz.le_refl _)
          refine .cons (.mk 16 (.int .i64 x11.Hi) [(11, (.bool (decide (s7 < (s1.length : Int))))), (15, (.pointer (some ⟨b12, o13 + 1, none⟩)))] rfl rfl rfl rfl (fun S hS hd => (.cons (hd.2.1 rfl rfl _ _ rfl) (.cons (hd.1 rfl rfl _ _ rfl) (Sub.nil _)))) (fun F_42 X l_43 => ?_)) ?_
          · skip
            refine .onH hb10 rfl rfl ?_
            refine .loadF rfl Try.isAgg3 rfl (l_43.mem _ _ hm18) (cell_of_take (k := 1) hv19 rfl) ?_
            exact .fin1 (Fz.le_refl _)
          refine .cons (.mk 17 (.pointer (some ⟨b6, 0 + 0, none⟩)) [(3, (.pointer (some ⟨b6, 0, none⟩))), (11, (.bool (decide (s7 < (s1.length : Int)))))] rfl rfl rfl rfl (fun S hS hd => (.cons (hS _ _ rfl) (.cons (hd.1 rfl rfl _ _ rfl) (Sub.nil _)))) (fun F_44 X l_45 => ?_)) ?_
          · skip
            refine .onH hb10 rfl rfl ?_
            refine .fieldAddr rfl Try.underlying36 rfl Try.sizeOf3 rfl ?_
            exact .fin1 (Fz.le_refl _)
          refine .cons (.mk 18 (.int .i64 x5.Lo) [(11, (.bool (decide (s7 < (s1.length : Int))))), (17, (.pointer (some ⟨b6, 0 + 0, none⟩)))] rfl rfl rfl rfl (fun S hS hd => (.cons (hd.2.1 rfl rfl _ _ rfl) (.cons (hd.1 rfl rfl _ _ rfl) (Sub.nil _)))) (fun F_46 X l_47 => ?_)) ?_
          · skip
            refine .onH hb10 rfl rfl ?_
            refine .loadO rfl Try.isAgg3 rfl (i := 0) rfl rfl ?_
            exact .fin1 (Fz.le_refl _)
          refine .cons (.mk 19 (.int .i64 (w64 (x5.Lo - 1))) [(11, (.bool (decide (s7 < (s1.length : Int))))), (18, (.int .i64 x5.Lo))] rfl rfl rfl rfl (fun S hS hd => (.cons (hd.2.1 rfl rfl _ _ rfl) (.cons (hd.1 rfl rfl _ _ rfl) (Sub.nil _)))) (fun F_48 X l_49 => ?_)) ?_
          · skip
            refine .onH hb10 rfl rfl ?_
            refine .sub rfl rfl rfl ?_
            exact .fin1 (Fz.le_refl _)
          refine .cons (.mk 20 (.bool (decide (x11.Hi < (w64 (x5.Lo - 1))))) [(11, (.bool (decide (s7 < (s1.length : Int))))), (16, (.int .i64 x11.Hi)), (19, (.int .i64 (w64 (x5.Lo - 1))))] rfl rfl rfl rfl (fun S hS hd => (.cons (hd.2.2.1 rfl rfl _ _ rfl) (.cons (hd.1 rfl rfl _ _ rfl) (.cons (hd.2.1 rfl rfl _ _ rfl) (Sub.nil _))))) (fun F_50 X l_51 => ?_)) ?_
          · skip
            refine .onH hb10 rfl rfl ?_
            refine .lss rfl rfl rfl ?_
            exact .fin1 (Fz.le_refl _)
          refine .cons (.mk 21 (.bool (decide (x11.Hi < (w64 (x5.Lo - 1))))) [(11, (.bool (decide (s7 < (s1.length : Int))))), (20, (.bool (decide (x11.Hi < (w64 (x5.Lo - 1))))))] rfl rfl rfl rfl (fun S hS hd => (.cons (hd.1 rfl rfl _ _ rfl) (.cons (hd.2.1 rfl rfl _ _ rfl) (Sub.nil _)))) (fun F_52 X l_53 => ?_)) ?_
          · skip
            refine .pickTH hb10  rfl rfl rfl ?_
            exact .fin1 (Fz.le_refl _)
          exact .nil
        refine .nil ?_
        exact .nil fun e a w h => by cases e; exact ⟨rfl, ⟨F_21, l_23, h.1.sub (.cons (k := 0) rfl (.cons (k := 3) rfl (.cons (k := 5) rfl (.cons (k := 21) rfl (.nil _))))), h.2⟩⟩
      · skip
        refine .draw ⟨1000000, 0, [], 0⟩ [(7, (.int .i64 s7)), (8, (.slice p2 s1.length k3)), (9, (.int .i64 (s1.length : Int))), (10, (.bool (decide (s7 < (s1.length : Int))))), (11, (.bool (decide (s7 < (s1.length : Int))))), (12, undef), (13, undef), (14, undef), (15, undef), (16, undef), (17, undef), (18, undef), (19, undef), (20, undef), (21, (.bool false))] mixedOK (by kernel_rfl) (by kernel_rfl) rfl (by kernel_rfl) ?_ (fun F_54 b55 l_56 => ?_)
        · skip
          refine .cons (.mk 7 (.int .i64 s7) [(5, (.int .i64 s7))] rfl rfl rfl rfl (fun S hS hd => (.cons (hS _ _ rfl) (Sub.nil _))) (fun F_57 X l_58 => ?_)) ?_
          · skip
            refine .move rfl rfl ?_
            exact .fin1 (Fz.le_refl _)
          refine .cons (.mk 8 (.slice p2 s1.length k3) [(0, (.slice p2 s1.length k3))] rfl rfl rfl rfl (fun S hS hd => (.cons (hS _ _ rfl) (Sub.nil _))) (fun F_59 X l_60 => ?_)) ?_
          · skip
            refine .move rfl rfl ?_
            exact .fin1 (Fz.le_refl _)
          refine .cons (.mk 9 (.int .i64 (s1.length : Int)) [(8, (.slice p2 s1.length k3))] rfl rfl rfl rfl (fun S hS hd => (.cons (hd.1 rfl rfl _ _ rfl) (Sub.nil _))) (fun F_61 X l_62 => ?_)) ?_
          · skip
            refine .lenS rfl rfl Try.underlying81 rfl ?_
            exact .fin1 (Fz.le_refl _)
          refine .cons (.mk 10 (.bool (decide (s7 < (s1.length : Int)))) [(7, (.int .i64 s7)), (9, (.int .i64 (s1.length : Int)))] rfl rfl rfl rfl (fun S hS hd => (.cons (hd.1 rfl rfl _ _ rfl) (.cons (hd.2.1 rfl rfl _ _ rfl) (Sub.nil _)))) (fun F_63 X l_64 => ?_)) ?_
          · skip
            refine .lss rfl rfl rfl ?_
            exact .fin1 (Fz.le_refl _)
          refine .cons (.mk 11 (.bool (decide (s7 < (s1.length : Int)))) [(10, (.bool (decide (s7 < (s1.length : Int)))))] rfl rfl rfl rfl (fun S hS hd => (.cons (hd.1 rfl rfl _ _ rfl) (Sub.nil _))) (fun F_65 X l_66 => ?_)) ?_
          · skip
            refine .move rfl rfl ?_
            exact .fin1 (Fz.le_refl _)
          refine .cons (.mk 12 undef [(0, (.slice p2 s1.length k3)), (11, (.bool (decide (s7 < (s1.length : Int)))))] rfl rfl rfl rfl (fun S hS hd => (.cons (hS _ _ rfl) (.cons (hd.1 rfl rfl _ _ rfl) (Sub.nil _)))) (fun F_67 X l_68 => ?_)) ?_
          · skip
            refine .offH hb10 rfl rfl rfl ?_
            exact .fin1 (Fz.le_refl _)
          refine .cons (.mk 13 undef [(5, (.int .i64 s7)), (11, (.bool (decide (s7 < (s1.length : Int)))))] rfl rfl rfl rfl (fun S hS hd => (.cons (hS _ _ rfl) (.cons (hd.1 rfl rfl _ _ rfl) (Sub.nil _)))) (fun F_69 X l_70 => ?_)) ?_
          · skip
            refine .offH hb10 rfl rfl rfl ?_
            exact .fin1 (Fz.le_refl _)
          refine .cons (.mk 14 undef [(11, (.bool (decide (s7 < (s1.length : Int))))), (12, undef), (13, undef)] rfl rfl rfl rfl (fun S hS hd => (.cons (hd.2.2.1 rfl rfl _ _ rfl) (.cons (hd.1 rfl rfl _ _ rfl) (.cons (hd.2.1 rfl rfl _ _ rfl) (Sub.nil _))))) (fun F_71 X l_72 => ?_)) ?_
          · skip
            refine .offH hb10 rfl rfl rfl ?_
            exact .fin1 (Fz.le_refl _)
          refine .cons (.mk 15 undef [(11, (.bool (decide (s7 < (s1.length : Int))))), (14, undef)] rfl rfl rfl rfl (fun S hS hd => (.cons (hd.2.1 rfl rfl _ _ rfl) (.cons (hd.1 rfl rfl _ _ rfl) (Sub.nil _)))) (fun F_73 X l_74 => ?_)) ?_
          · skip
            refine .offH hb10 rfl rfl rfl ?_
            exact .fin1 (Fz.le_refl _)
          refine .cons (.mk 16 undef [(11, (.bool (decide (s7 < (s1.length : Int))))), (15, undef)] rfl rfl rfl rfl (fun S hS hd => (.cons (hd.2.1 rfl rfl _ _ rfl) (.cons (hd.1 rfl rfl _ _ rfl) (Sub.nil _)))) (fun F_75 X l_76 => ?_)) ?_
          · skip
            refine .offH hb10 rfl rfl rfl ?_
            exact .fin1 (Fz.le_refl _)
          refine .cons (.mk 17 undef [(3, (.pointer (some ⟨b6, 0, none⟩))), (11, (.bool (decide (s7 < (s1.length : Int)))))] rfl rfl rfl rfl (fun S hS hd => (.cons (hS _ _ rfl) (.cons (hd.1 rfl rfl _ _ rfl) (Sub.nil _)))) (fun F_77 X l_78 => ?_)) ?_
          · skip
            refine .offH hb10 rfl rfl rfl ?_
            exact .fin1 (Fz.le_refl _)
          refine .cons (.mk 18 undef [(11, (.bool (decide (s7 < (s1.length : Int))))), (17, undef)] rfl rfl rfl rfl (fun S hS hd => (.cons (hd.2.1 rfl rfl _ _ rfl) (.cons (hd.1 rfl rfl _ _ rfl) (Sub.nil _)))) (fun F_79 X l_80 => ?_)) ?_
          · skip
            refine .offH hb10 rfl rfl rfl ?_
            exact .fin1 (Fz.le_refl _)
          refine .cons (.mk 19 undef [(11, (.bool (decide (s7 < (s1.length : Int))))), (18, undef)] rfl rfl rfl rfl (fun S hS hd => (.cons (hd.2.1 rfl rfl _ _ rfl) (.cons (hd.1 rfl rfl _ _ rfl) (Sub.nil _)))) (fun F_81 X l_82 => ?_)) ?_
          · skip
            refine .offH hb10 rfl rfl rfl ?_
            exact .fin1 (Fz.le_refl _)
          refine .cons (.mk 20 undef [(11, (.bool (decide (s7 < (s1.length : Int))))), (16, undef), (19, undef)] rfl rfl rfl rfl (fun S hS hd => (.cons (hd.2.2.1 rfl rfl _ _ rfl) (.cons (hd.1 rfl rfl _ _ rfl) (.cons (hd.2.1 rfl rfl _ _ rfl) (Sub.nil _))))) (fun F_83 X l_84 => ?_)) ?_
          · skip
            refine .offH hb10 rfl rfl rfl ?_
            exact .fin1 (Fz.le_refl _)
          refine .cons (.mk 21 (.bool false) [(11, (.bool (decide (s7 < (s1.length : Int))))), (20, undef)] rfl rfl rfl rfl (fun S hS hd => (.cons (hd.1 rfl rfl _ _ rfl) (.cons (hd.2.1 rfl rfl _ _ rfl) (Sub.nil _)))) (fun F_85 X l_86 => ?_)) ?_
          · skip
            refine .pickFH hb10  rfl rfl rfl ?_
            exact .fin1 (Fz.le_refl _)
          exact .nil
        refine .nil ?_
        exact .nil fun e a w h => by cases e; exact ⟨rfl, ⟨F_54, l_56, h.1.sub (.cons (k := 0) rfl (.cons (k := 3) rfl (.cons (k := 5) rfl (.cons (k := 21) rfl (.nil _))))), h.2⟩⟩
    refine .code ?_
    refine .cond rfl (fun hb90 => ?_) (fun hb90 => ?_)
    · skip
      refine .skip ?_
      refine .code ?_
      refine .block ?_
      refine .region ?_
      refine .move rfl rfl ?_
      refine .add rfl rfl rfl ?_
      refine .assignL rfl rfl (fun i91 e92 => ?_)
      refine .nil ?_
      refine .block ?_
      exact .nil (LPost.norm fun a w h => ⟨F_88, (Fz.le_trans l_9 l_89), h.1.sub (.cons (k := 0) rfl (.cons (k := 3) rfl (.cons (k := 5) rfl (.nil _)))), h.2⟩)
    · skip
      refine .exitOut rfl (LPost.exit fun a w h => ⟨rfl, F_88, (Fz.le_trans l_9 l_89), h.1.sub (.cons (k := 0) rfl (.cons (k := 3) rfl (.cons (k := 5) rfl (.nil _)))), h.2⟩)
  · intro b93 hb0 hk e a w hD
    obtain ⟨rfl, F_94, l_95, hA⟩ := hD
    refine interp_exit rfl (GE.app ?_ hk a w hA)
    refine .code ?_
    refine .seq ?_
    refine .region ?_
    refine .move rfl rfl ?_
    refine .assign rfl rfl ?_
    refine .nil ?_
    refine .code ?_
    refine .seq ?_
    refine .block ?_
    refine .keep (.cons (k := 0) rfl (.cons (k := 3) rfl (.cons (k := 5) rfl (.cons (k := 6) rfl (.nil _))))) ?_
    refine .loop (fun (s96 : Int × ApiSpan) a w => ∃ (F_97 : Fz), F_94 ≤ F_97 ∧ Hd 70 [] [(0, (.slice p2 s1.length k3)), (3, (.pointer (some ⟨b6, 0, none⟩))), (5, (.int .i64 b93)), (6, (.int .i64 s96.1))] F_97 [pt b6 (.cells (cApiSpan s96.2).toArray 36), R] a w) (fun b239 e a w => e = .exit 2 ∧ ∃ (F_240 : Fz), F_94 ≤ F_240 ∧ Hd 70 [] [(0, (.slice p2 s1.length k3)), (3, (.pointer (some ⟨b6, 0, none⟩))), (5, (.int .i64 b93)), (6, (.int .i64 b239.1))] F_240 [pt b6 (.cells (cApiSpan b239.2).toArray 36), R] a w) ?_ ?_ ?_
    · exact fun a w h => ⟨F_94, (Fz.le_refl _), h.1.sub (.cons (k := 0) rfl (.cons (k := 3) rfl (.cons (k := 5) rfl (.cons (k := 6) rfl (.nil _))))), h.2⟩
    · intro s96 ctl
      refine GC.ex (fun a w ⟨F_97, l_98, hA⟩ => ⟨_, hA, ?_⟩)
      unfold b_bottle_spans_with_2
      refine .seq ?_
      refine .seq ?_
      refine .keep (.cons (k := 0) rfl (.cons (k := 3) rfl (.cons (k := 5) rfl (.cons (k := 6) rfl (.nil _))))) ?_
      refine GC.join0 (σ := Bool) (fun j176 a w => ∃ (F_177 : Fz), F_97 ≤ F_177 ∧ Hd 70 [] [(0, (.slice p2 s1.length k3)), (3, (.pointer (some ⟨b6, 0, none⟩))), (5, (.int .i64 b93)), (6, (.int .i64 s96.1)), (39, (.bool j176))] F_177 [pt b6 (.cells (cApiSpan s96.2).toArray 36), R] a w) (fun sj => ?_) (fun j176 hs0 => GE.ex (fun a w ⟨F_177, l_178, hA⟩ => ⟨_, hA, ?_⟩))
      · skip
        refine .ite (fun hb99 => ?_) (fun hb99 => ?_)
        · skip
          refine .bind (fun x100 e106 => ?_)
          obtain ⟨b101, o102, T103, fr104, cs105, hm107, hv108, hq109⟩ := RepSl.idxE (h4.mono (Fz.le_trans l_95 l_98)) e106
          refine .draw ⟨1000000, 0, [], 0⟩ [(25, (.int .i64 s96.1)), (26, (.slice p2 s1.length k3)), (27, (.int .i64 (s1.length : Int))), (28, (.bool (decide (s96.1 < (s1.length : Int))))), (29, (.bool (decide (s96.1 < (s1.length : Int))))), (30, (.slice p2 s1.length k3)), (31, (.int .i64 s96.1)), (32, (.pointer (some ⟨b101, o102, none⟩))), (33, (.pointer (some ⟨b101, o102, none⟩))), (34, (.int .i64 x100.Lo)), (35, (.pointer (some ⟨b6, 0 + 1, none⟩))), (36, (.int .i64 s96.2.Hi)), (37, (.int .i64 (w64 (s96.2.Hi + 1)))), (38, (.bool (decide (x100.Lo ≤ (w64 (s96.2.Hi + 1)))))), (39, (.bool (decide (x100.Lo ≤ (w64 (s96.2.Hi + 1))))))] mixedOK (by kernel_rfl) (by kernel_rfl) rfl (by kernel_rfl) ?_ (fun F_110 b111 l_112 => ?_)
          · skip
            refine .cons (.mk 25 (.int .i64 s96.1) [(6, (.int .i64 s96.1))] rfl rfl rfl rfl (fun S hS hd => (.cons (hS _ _ rfl) (Sub.nil _))) (fun F_113 X l_114 => ?_)) ?_
            · skip
              refine .move rfl rfl ?_
              exact .fin1 (Fz.le_refl _)
            refine .cons (.mk 26 (.slice p2 s1.length k3) [(0, (.slice p2 s1.length k3))] rfl rfl rfl rfl (fun S hS hd => (.cons (hS _ _ rfl) (Sub.nil _))) (fun F_115 X l_116 => ?_)) ?_
            · skip
              refine .move rfl rfl ?_
              exact .fin1 (Fz.le_refl _)
            refine .cons (.mk 27 (.int .i64 (s1.length : Int)) [(26, (.slice p2 s1.length k3))] rfl rfl rfl rfl (fun S hS hd => (.cons (hd.1 rfl rfl _ _ rfl) (Sub.nil _))) (fun F_117 X l_118 => ?_)) ?_
            · skip
              refine .lenS rfl rfl Try.underlying81 rfl ?_
              exact .fin1 (Fz.le_refl _)
            refine .cons (.mk 28 (.bool (decide (s96.1 < (s1.length : Int)))) [(25, (.int .i64 s96.1)), (27, (.int .i64 (s1.length : Int)))] rfl rfl rfl rfl (fun S hS hd => (.cons (hd.1 rfl rfl _ _ rfl) (.cons (hd.2.1 rfl rfl _ _ rfl) (Sub.nil _)))) (fun F_119 X l_120 => ?_)) ?_
            · skip
              refine .lss rfl rfl rfl ?_
              exact .fin1 (Fz.le_refl _)
            refine .cons (.mk 29 (.bool (decide (s96.1 < (s1.length : Int)))) [(28, (.bool (decide (s96.1 < (s1.length : Int)))))] rfl rfl rfl rfl (fun S hS hd => (.cons (hd.1 rfl rfl _ _ rfl) (Sub.nil _))) (fun F_121 X l_122 => ?_)) ?_
            · skip
              refine .move rfl rfl ?_
              exact .fin1 (Fz.le_refl _)
            refine .cons (.mk 30 (.slice p2 s1.length k3) [(0, (.slice p2 s1.length k3)), (29, (.bool (decide (s96.1 < (s1.length : Int)))))] rfl rfl rfl rfl (fun S hS hd => (.cons (hS _ _ rfl) (.cons (hd.1 rfl rfl _ _ rfl) (Sub.nil _)))) (fun F_123 X l_124 => ?_)) ?_
            · skip
              refine .onH hb99 rfl rfl ?_
              refine .move rfl rfl ?_
              exact .fin1 (Fz.le_refl _)
            refine .cons (.mk 31 (.int .i64 s96.1) [(6, (.int .i64 s96.1)), (29, (.bool (decide (s96.1 < (s1.length : Int)))))] rfl rfl rfl rfl (fun S hS hd => (.cons (hS _ _ rfl) (.cons (hd.1 rfl rfl _ _ rfl) (Sub.nil _)))) (fun F_125 X l_126 => ?_)) ?_
            · skip
              refine .onH hb99 rfl rfl ?_
              refine .move rfl rfl ?_
              exact .fin1 (Fz.le_refl _)
            refine .cons (.mk 32 (.pointer (some ⟨b101, o102, none⟩)) [(29, (.bool (decide (s96.1 < (s1.length : Int))))), (30, (.slice p2 s1.length k3)), (31, (.int .i64 s96.1))] rfl rfl rfl rfl (fun S hS hd => (.cons (hd.2.2.1 rfl rfl _ _ rfl) (.cons (hd.1 rfl rfl _ _ rfl) (.cons (hd.2.1 rfl rfl _ _ rfl) (Sub.nil _))))) (fun F_127 X l_128 => ?_)) ?_
            · skip
              refine .onH hb99 rfl rfl ?_
              refine .idxQ rfl Try.underlying81 Try.sizeOf36 hq109 rfl rfl ?_
              exact .fin1 (Fz.le_refl _)
            refine .cons (.mk 33 (.pointer (some ⟨b101, o102, none⟩)) [(29, (.bool (decide (s96.1 < (s1.length : Int))))), (32, (.pointer (some ⟨b101, o102, none⟩)))] rfl rfl rfl rfl (fun S hS hd => (.cons (hd.2.1 rfl rfl _ _ rfl) (.cons (hd.1 rfl rfl _ _ rfl) (Sub.nil _)))) (fun F_129 X l_130 => ?_)) ?_
            · skip
              refine .onH hb99 rfl rfl ?_
              refine .fieldAddr rfl Try.underlying36 rfl Try.sizeOf3 rfl ?_
              exact .fin1 (Fz.le_refl _)
            refine .cons (.mk 34 (.int .i64 x100.Lo) [(29, (.bool (decide (s96.1 < (s1.length : Int))))), (33, (.pointer (some ⟨b101, o102, none⟩)))] rfl rfl rfl rfl (fun S hS hd => (.cons (hd.2.1 rfl rfl _ _ rfl) (.cons (hd.1 rfl rfl _ _ rfl) (Sub.nil _)))) (fun F_131 X l_132 => ?_)) ?_
            · skip
              refine .onH hb99 rfl rfl ?_
              refine .loadF rfl Try.isAgg3 rfl (l_132.mem _ _ hm107) (cell_of_take (k := 0) hv108 rfl) ?_
              exact .fin1 (Fz.le_refl _)
            refine .cons (.mk 35 (.pointer (some ⟨b6, 0 + 1, none⟩)) [(3, (.pointer (some ⟨b6, 0, none⟩))), (29, (.bool (decide (s96.1 < (s1.length : Int)))))] rfl rfl rfl rfl (fun S hS hd => (.cons (hS _ _ rfl) (.cons (hd.1 rfl rfl _ _ rfl) (Sub.nil _)))) (fun F_133 X l_134 => ?_)) ?_
            · skip
              refine .onH hb99 rfl rfl ?_
              refine .fieldAddr rfl Try.underlying36 rfl Try.sizeOf3 rfl ?_
              exact .fin1 (Fz.le_refl _)
            refine .cons (.mk 36 (.int .i64 s96.2.Hi) [(29, (.bool (decide (s96.1 < (s1.length : Int))))), (35, (.pointer (some ⟨b6, 0 + 1, none⟩)))] rfl rfl rfl rfl (fun S hS hd => (.cons (hd.2.1 rfl rfl _ _ rfl) (.cons (hd.1 rfl rfl _ _ rfl) (Sub.nil _)))) (fun F_135 X l_136 => ?_)) ?_
            · skip
              refine .onH hb99 rfl rfl ?_
              refine .loadO rfl Try.isAgg3 rfl (i := 0) rfl rfl ?_
              exact .fin1 (Fz.le_refl _)
            refine .cons (.mk 37 (.int .i64 (w64 (s96.2.Hi + 1))) [(29, (.bool (decide (s96.1 < (s1.length : Int))))), (36, (.int .i64 s96.2.Hi))] rfl rfl rfl rfl (fun S hS hd => (.cons (hd.2.1 rfl rfl _ _ rfl) (.cons (hd.1 rfl rfl _ _ rfl) (Sub.nil _)))) (fun F_137 X l_138 => ?_)) ?_
            · skip
              refine .onH hb99 rfl rfl ?_
              refine .add rfl rfl rfl ?_
              exact .fin1 (Fz.le_refl _)
            refine .cons (.mk 38 (.bool (decide (x100.Lo ≤ (w64 (s96.2.Hi + 1))))) [(29, (.bool (decide (s96.1 < (s1.length : Int))))), (34, (.int .i64 x100.Lo)), (37, (.int .i64 (w64 (s96.2.Hi + 1))))] rfl rfl rfl rfl (fun S hS hd => (.cons (hd.2.2.1 rfl rfl _ _ rfl) (.cons (hd.1 rfl rfl _ _ rfl) (.cons (hd.2.1 rfl rfl _ _ rfl) (Sub.nil _))))) (fun F_139 X l_140 => ?_)) ?_
            · skip
              refine .onH hb99 rfl rfl ?_
              refine .leq rfl rfl rfl ?_
              exact .fin1 (Fz.le_refl _)
            refine .cons (.mk 39 (.bool (decide (x100.Lo ≤ (w64 (s96.2.Hi + 1))))) [(29, (.bool (decide (s96.1 < (s1.length : Int))))), (38, (.bool (decide (x100.Lo ≤ (w64 (s96.2.Hi + 1))))))] rfl rfl rfl rfl (fun S hS hd => (.cons (hd.1 rfl rfl _ _ rfl) (.cons (hd.2.1 rfl rfl _ _ rfl) (Sub.nil _)))) (fun F_141 X l_142 => ?_)) ?_
            · skip
              refine .pickTH hb99  rfl rfl rfl ?_
              exact .fin1 (Fz.le_refl _)
            exact .nil
          refine .nil ?_
          exact .nil fun e a w h => by cases e; exact ⟨rfl, ⟨F_110, l_112, h.1.sub (.cons (k := 0) rfl (.cons (k := 3) rfl (.cons (k := 5) rfl (.cons (k := 6) rfl (.cons (k := 39) rfl (.nil _)))))), h.2⟩⟩
        · skip
          refine .draw ⟨1000000, 0, [], 0⟩ [(25, (.int .i64 s96.1)), (26, (.slice p2 s1.length k3)), (27, (.int .i64 (s1.length : Int))), (28, (.bool (decide (s96.1 < (s1.length : Int))))), (29, (.bool (decide (s96.1 < (s1.length : Int))))), (30, undef), (31, undef), (32, undef), (33, undef), (34, undef), (35, undef), (36, undef), (37, undef), (38, undef), (39, (.bool false))] mixedOK (by kernel_rfl) (by kernel_rfl) rfl (by kernel_rfl) ?_ (fun F_143 b144 l_145 => ?_)
          · skip
            refine .cons (.mk 25 (.int .i64 s96.1) [(6, (.int .i64 s96.1))] rfl rfl rfl rfl (fun S hS hd => (.cons (hS _ _ rfl) (Sub.nil _))) (fun F_146 X l_147 => ?_)) ?_
            · skip
              refine .move rfl rfl ?_
              exact .fin1 (Fz.le_refl _)
            refine .cons (.mk 26 (.slice p2 s1.length k3) [(0, (.slice p2 s1.length k3))] rfl rfl rfl rfl (fun S hS hd => (.cons (hS _ _ rfl) (Sub.nil _))) (fun F_148 X l_149 => ?_)) ?_
            · skip
              refine .move rfl rfl ?_
              exact .fin1 (Fz.le_refl _)
            refine .cons (.mk 27 (.int .i64 (s1.length : Int)) [(26, (.slice p2 s1.length k3))] rfl rfl rfl rfl (fun S hS hd => (.cons (hd.1 rfl rfl _ _ rfl) (Sub.nil _))) (fun F_150 X l_151 => ?_)) ?_
            · skip
              refine .lenS rfl rfl Try.underlying81 rfl ?_
              exact .fin1 (Fz.le_refl _)
            refine .cons (.mk 28 (.bool (decide (s96.1 < (s1.length : Int)))) [(25, (.int .i64 s96.1)), (27, (.int .i64 (s1.length : Int)))] rfl rfl rfl rfl (fun S hS hd => (.cons (hd.1 rfl rfl _ _ rfl) (.cons (hd.2.1 rfl rfl _ _ rfl) (Sub.nil _)))) (fun F_152 X l_153 => ?_)) ?_
            · skip
              refine .lss rfl rfl rfl ?_
              exact .fin1 (Fz.le_refl _)
            refine .cons (.mk 29 (.bool (decide (s96.1 < (s1.length : Int)))) [(28, (.bool (decide (s96.1 < (s1.length : Int)))))] rfl rfl rfl rfl (fun S hS hd => (.cons (hd.1 rfl rfl _ _ rfl) (Sub.nil _))) (fun F_154 X l_155 => ?_)) ?_
            · skip
              refine .move rfl rfl ?_
              exact .fin1 (Fz.le_refl _)
            refine .cons (.mk 30 undef [(0, (.slice p2 s1.length k3)), (29, (.bool (decide (s96.1 < (s1.length : Int)))))] rfl rfl rfl rfl (fun S hS hd => (.cons (hS _ _ rfl) (.cons (hd.1 rfl rfl _ _ rfl) (Sub.nil _)))) (fun F_156 X l_157 => ?_)) ?_
            · skip
              refine .offH hb99 rfl rfl rfl ?_
              exact .fin1 (Fz.le_refl _)
            refine .cons (.mk 31 undef [(6, (.int .i64 s96.1)), (29, (.bool (decide (s96.1 < (s1.length : Int)))))] rfl rfl rfl rfl (fun S hS hd => (.cons (hS _ _ rfl) (.cons (hd.1 rfl rfl _ _ rfl) (Sub.nil _)))) (fun F_158 X l_159 => ?_)) ?_
            · skip
              refine .offH hb99 rfl rfl rfl ?_
              exact .fin1 (Fz.le_refl _)
            refine .cons (.mk 32 undef [(29, (.bool (decide (s96.1 < (s1.length : Int))))), (30, undef), (31, undef)] rfl rfl rfl rfl (fun S hS hd => (.cons (hd.2.2.1 rfl rfl _ _ rfl) (.cons (hd.1 rfl rfl _ _ rfl) (.cons (hd.2.1 rfl rfl _ _ rfl) (Sub.nil _))))) (fun F_160 X l_161 => ?_)) ?_
            · skip
              refine .offH hb99 rfl rfl rfl ?_
              exact .fin1 (Fz.le_refl _)
            refine .cons (.mk 33 undef [(29, (.bool (decide (s96.1 < (s1.length : Int))))), (32, undef)] rfl rfl rfl rfl (fun S hS hd => (.cons (hd.2.1 rfl rfl _ _ rfl) (.cons (hd.1 rfl rfl _ _ rfl) (Sub.nil _)))) (fun F_162 X l_163 => ?_)) ?_
            · skip
              refine .offH hb99 rfl rfl rfl ?_
              exact .fin1 (Fz.le_refl _)
            refine .cons (.mk 34 undef [(29, (.bool (decide (s96.1 < (s1.length : Int))))), (33, undef)] rfl rfl rfl rfl (fun S hS hd => (.cons (hd.2.1 rfl rfl _ _ rfl) (.cons (hd.1 rfl rfl _ _ rfl) (Sub.nil _)))) (fun F_164 X l_165 => ?_)) ?_
            · skip
              refine .offH hb99 rfl rfl rfl ?_
              exact .fin1 (Fz.le_refl _)
            refine .cons (.mk 35 undef [(3, (.pointer (some ⟨b6, 0, none⟩))), (29, (.bool (decide (s96.1 < (s1.length : Int)))))] rfl rfl rfl rfl (fun S hS hd => (.cons (hS _ _ rfl) (.cons (hd.1 rfl rfl _ _ rfl) (Sub.nil _)))) (fun F_166 X l_167 => ?_)) ?_
            · skip
              refine .offH hb99 rfl rfl rfl ?_
              exact .fin1 (Fz.le_refl _)
            refine .cons (.mk 36 undef [(29, (.bool (decide (s96.1 < (s1.length : Int))))), (35, undef)] rfl rfl rfl rfl (fun S hS hd => (.cons (hd.2.1 rfl rfl _ _ rfl) (.cons (hd.1 rfl rfl _ _ rfl) (Sub.nil _)))) (fun F_168 X l_169 => ?_)) ?_
            · skip
              refine .offH hb99 rfl rfl rfl ?_
              exact .fin1 (Fz.le_refl _)
            refine .cons (.mk 37 undef [(29, (.bool (decide (s96.1 < (s1.length : Int))))), (36, undef)] rfl rfl rfl rfl (fun S hS hd => (.cons (hd.2.1 rfl rfl _ _ rfl) (.cons (hd.1 rfl rfl _ _ rfl) (Sub.nil _)))) (fun F_170 X l_171 => ?_)) ?_
            · skip
              refine .offH hb99 rfl rfl rfl ?_
              exact .fin1 (Fz.le_refl _)
            refine .cons (.mk 38 undef [(29, (.bool (decide (s96.1 < (s1.length : Int))))), (34, undef), (37, undef)] rfl rfl rfl rfl (fun S hS hd => (.cons (hd.2.2.1 rfl rfl _ _ rfl) (.cons (hd.1 rfl rfl _ _ rfl) (.cons (hd.2.1 rfl rfl _ _ rfl) (Sub.nil _))))) (fun F_172 X l_173 => ?_)) ?_
            · skip
              refine .offH hb99 rfl rfl rfl ?_
              exact .fin1 (Fz.le_refl _)
            refine .cons (.mk 39 (.bool false) [(29, (.bool (decide (s96.1 < (s1.length : Int))))), (38, undef)] rfl rfl rfl rfl (fun S hS hd => (.cons (hd.1 rfl rfl _ _ rfl) (.cons (hd.2.1 rfl rfl _ _ rfl) (Sub.nil _)))) (fun F_174 X l_175 => ?_)) ?_
            · skip
              refine .pickFH hb99  rfl rfl rfl ?_
              exact .fin1 (Fz.le_refl _)
            exact .nil
          refine .nil ?_
          exact .nil fun e a w h => by cases e; exact ⟨rfl, ⟨F_143, l_145, h.1.sub (.cons (k := 0) rfl (.cons (k := 3) rfl (.cons (k := 5) rfl (.cons (k := 6) rfl (.cons (k := 39) rfl (.nil _)))))), h.2⟩⟩
      refine .code ?_
      refine .cond rfl (fun hb179 => ?_) (fun hb179 => ?_)
      · skip
        refine .skip ?_
        refine .code ?_
        refine .block ?_
        refine .seq ?_
        refine .keep (.cons (k := 0) rfl (.cons (k := 3) rfl (.cons (k := 5) rfl (.cons (k := 6) rfl (.nil _))))) ?_
        refine .bind (fun x180 e186 => ?_)
        obtain ⟨b181, o182, T183, fr184, cs185, hm187, hv188, hq189⟩ := RepSl.idxE (h4.mono (Fz.le_trans l_95 (Fz.le_trans l_98 l_178))) e186
        refine .bind (fun x190 e196 => ?_)
        obtain ⟨b191, o192, T193, fr194, cs195, hm197, hv198, hq199⟩ := RepSl.idxE (h4.mono (Fz.le_trans l_95 (Fz.le_trans l_98 l_178))) e196
        refine .draw ⟨1000000, 0, [], 0⟩ [(40, (.pointer (some ⟨b6, 0 + 0, none⟩))), (41, (.int .i64 s96.2.Lo)), (42, (.slice p2 s1.length k3)), (43, (.int .i64 s96.1)), (44, (.pointer (some ⟨b181, o182, none⟩))), (45, (.pointer (some ⟨b181, o182, none⟩))), (46, (.int .i64 x180.Lo)), (47, (.int .i64 (imin s96.2.Lo x180.Lo))), (48, (.pointer (some ⟨b6, 0 + 1, none⟩))), (49, (.int .i64 s96.2.Hi)), (50, (.slice p2 s1.length k3)), (51, (.int .i64 s96.1)), (52, (.pointer (some ⟨b191, o192, none⟩))), (53, (.pointer (some ⟨b191, o192 + 1, none⟩))), (54, (.int .i64 x190.Hi)), (55, (.int .i64 (imax s96.2.Hi x190.Hi))), (56, (eApiSpan (ApiSpan.mk (imin s96.2.Lo x180.Lo) (imax s96.2.Hi x190.Hi))))] mixedOK (by kernel_rfl) (by kernel_rfl) rfl (by kernel_rfl) ?_ (fun F_200 b201 l_202 => ?_)
        · skip
          refine .cons (.mk 40 (.pointer (some ⟨b6, 0 + 0, none⟩)) [(3, (.pointer (some ⟨b6, 0, none⟩)))] rfl rfl rfl rfl (fun S hS hd => (.cons (hS _ _ rfl) (Sub.nil _))) (fun F_203 X l_204 => ?_)) ?_
          · skip
            refine .fieldAddr rfl Try.underlying36 rfl Try.sizeOf3 rfl ?_
            exact .fin1 (Fz.le_refl _)
          refine .cons (.mk 41 (.int .i64 s96.2.Lo) [(40, (.pointer (some ⟨b6, 0 + 0, none⟩)))] rfl rfl rfl rfl (fun S hS hd => (.cons (hd.1 rfl rfl _ _ rfl) (Sub.nil _))) (fun F_205 X l_206 => ?_)) ?_
          · skip
            refine .loadO rfl Try.isAgg3 rfl (i := 0) rfl rfl ?_
            exact .fin1 (Fz.le_refl _)
          refine .cons (.mk 42 (.slice p2 s1.length k3) [(0, (.slice p2 s1.length k3))] rfl rfl rfl rfl (fun S hS hd => (.cons (hS _ _ rfl) (Sub.nil _))) (fun F_207 X l_208 => ?_)) ?_
          · skip
            refine .move rfl rfl ?_
            exact .fin1 (Fz.le_refl _)
          refine .cons (.mk 43 (.int .i64 s96.1) [(6, (.int .i64 s96.1))] rfl rfl rfl rfl (fun S hS hd => (.cons (hS _ _ rfl) (Sub.nil _))) (fun F_209 X l_210 => ?_)) ?_
          · skip
            refine .move rfl rfl ?_
            exact .fin1 (Fz.le_refl _)
          refine .cons (.mk 44 (.pointer (some ⟨b181, o182, none⟩)) [(42, (.slice p2 s1.length k3)), (43, (.int .i64 s96.1))] rfl rfl rfl rfl (fun S hS hd => (.cons (hd.1 rfl rfl _ _ rfl) (.cons (hd.2.1 rfl rfl _ _ rfl) (Sub.nil _)))) (fun F_211 X l_212 => ?_)) ?_
          · skip
            refine .idxQ rfl Try.underlying81 Try.sizeOf36 hq189 rfl rfl ?_
            exact .fin1 (Fz.le_refl _)
          refine .cons (.mk 45 (.pointer (some ⟨b181, o182, none⟩)) [(44, (.pointer (some ⟨b181, o182, none⟩)))] rfl rfl rfl rfl (fun S hS hd => (.cons (hd.1 rfl rfl _ _ rfl) (Sub.nil _))) (fun F_213 X l_214 => ?_)) ?_
          · skip
            refine .fieldAddr rfl Try.underlying36 rfl Try.sizeOf3 rfl ?_
            exact .fin1 (Fz.le_refl _)
          refine .cons (.mk 46 (.int .i64 x180.Lo) [(45, (.pointer (some ⟨b181, o182, none⟩)))] rfl rfl rfl rfl (fun S hS hd => (.cons (hd.1 rfl rfl _ _ rfl) (Sub.nil _))) (fun F_215 X l_216 => ?_)) ?_
          · skip
            refine .loadF rfl Try.isAgg3 rfl (l_216.mem _ _ hm187) (cell_of_take (k := 0) hv188 rfl) ?_
            exact .fin1 (Fz.le_refl _)
          refine .cons (.mk 47 (.int .i64 (imin s96.2.Lo x180.Lo)) [(41, (.int .i64 s96.2.Lo)), (46, (.int .i64 x180.Lo))] rfl rfl rfl rfl (fun S hS hd => (.cons (hd.1 rfl rfl _ _ rfl) (.cons (hd.2.1 rfl rfl _ _ rfl) (Sub.nil _)))) (fun F_217 X l_218 => ?_)) ?_
          · skip
            refine .min2 rfl rfl rfl ?_
            exact .fin1 (Fz.le_refl _)
          refine .cons (.mk 48 (.pointer (some ⟨b6, 0 + 1, none⟩)) [(3, (.pointer (some ⟨b6, 0, none⟩)))] rfl rfl rfl rfl (fun S hS hd => (.cons (hS _ _ rfl) (Sub.nil _))) (fun F_219 X l_220 => ?_)) ?_
          · skip
            refine .fieldAddr rfl Try.underlying36 rfl Try.sizeOf3 rfl ?_
            exact .fin1 (Fz.le_refl _)
          refine .cons (.mk 49 (.int .i64 s96.2.Hi) [(48, (.pointer (some ⟨b6, 0 + 1, none⟩)))] rfl rfl rfl rfl (fun S hS hd => (.cons (hd.1 rfl rfl _ _ rfl) (Sub.nil _))) (fun F_221 X l_222 => ?_)) ?_
          · skip
            refine .loadO rfl Try.isAgg3 rfl (i := 0) rfl rfl ?_
            exact .fin1 (Fz.le_refl _)
          refine .cons (.mk 50 (.slice p2 s1.length k3) [(0, (.slice p2 s1.length k3))] rfl rfl rfl rfl (fun S hS hd => (.cons (hS _ _ rfl) (Sub.nil _))) (fun F_223 X l_224 => ?_)) ?_
          · skip
            refine .move rfl rfl ?_
            exact .fin1 (Fz.le_refl _)
          refine .cons (.mk 51 (.int .i64 s96.1) [(6, (.int .i64 s96.1))] rfl rfl rfl rfl (fun S hS hd => (.cons (hS _ _ rfl) (Sub.nil _))) (fun F_225 X l_226 => ?_)) ?_
          · skip
            refine .move rfl rfl ?_
            exact .fin1 (Fz.le_refl _)
          refine .cons (.mk 52 (.pointer (some ⟨b191, o192, none⟩)) [(50, (.slice p2 s1.length k3)), (51, (.int .i64 s96.1))] rfl rfl rfl rfl (fun S hS hd => (.cons (hd.1 rfl rfl _ _ rfl) (.cons (hd.2.1 rfl rfl _ _ rfl) (Sub.nil _)))) (fun F_227 X l_228 => ?_)) ?_
          · skip
            refine .idxQ rfl Try.underlying81 Try.sizeOf36 hq199 rfl rfl ?_
            exact .fin1 (Fz.le_refl _)
          refine .cons (.mk 53 (.pointer (some ⟨b191, o192 + 1, none⟩)) [(52, (.pointer (some ⟨b191, o192, none⟩)))] rfl rfl rfl rfl (fun S hS hd => (.cons (hd.1 rfl rfl _ _ rfl) (Sub.nil _))) (fun F_229 X l_230 => ?_)) ?_
          · skip
            refine .fieldAddr rfl Try.underlying36 rfl Try.sizeOf3 rfl ?_
            exact .fin1 (Fz.le_refl _)
          refine .cons (.mk 54 (.int .i64 x190.Hi) [(53, (.pointer (some ⟨b191, o192 + 1, none⟩)))] rfl rfl rfl rfl (fun S hS hd => (.cons (hd.1 rfl rfl _ _ rfl) (Sub.nil _))) (fun F_231 X l_232 => ?_)) ?_
          · skip
            refine .loadF rfl Try.isAgg3 rfl (l_232.mem _ _ hm197) (cell_of_take (k := 1) hv198 rfl) ?_
            exact .fin1 (Fz.le_refl _)
          refine .cons (.mk 55 (.int .i64 (imax s96.2.Hi x190.Hi)) [(49, (.int .i64 s96.2.Hi)), (54, (.int .i64 x190.Hi))] rfl rfl rfl rfl (fun S hS hd => (.cons (hd.1 rfl rfl _ _ rfl) (.cons (hd.2.1 rfl rfl _ _ rfl) (Sub.nil _)))) (fun F_233 X l_234 => ?_)) ?_
          · skip
            refine .max2 rfl rfl rfl ?_
            exact .fin1 (Fz.le_refl _)
          refine .cons (.mk 56 (eApiSpan (ApiSpan.mk (imin s96.2.Lo x180.Lo) (imax s96.2.Hi x190.Hi))) [(47, (.int .i64 (imin s96.2.Lo x180.Lo))), (55, (.int .i64 (imax s96.2.Hi x190.Hi)))] rfl rfl rfl rfl (fun S hS hd => (.cons (hd.1 rfl rfl _ _ rfl) (.cons (hd.2.1 rfl rfl _ _ rfl) (Sub.nil _)))) (fun F_235 X l_236 => ?_)) ?_
          · skip
            refine .build (cs := (cApiSpan (ApiSpan.mk (imin s96.2.Lo x180.Lo) (imax s96.2.Hi x190.Hi))).toArray) rfl Try.underlying36 Try.zeroValue36 (plApiSpan _ Try.underlying36) rfl rfl (by kernel_rfl) ?_
            exact .fin1 (Fz.le_refl _)
          exact .nil
        refine .store (cs' := (cApiSpan (ApiSpan.mk (imin s96.2.Lo x180.Lo) (imax s96.2.Hi x190.Hi)))) Try.sizeOf36 rfl rfl rfl rfl (i := 0) rfl (Nat.le_of_ble_eq_true rfl) rfl (setMany_all (by rfl)) ?_
        refine .nil ?_
        refine .code ?_
        refine .region ?_
        refine .move rfl rfl ?_
        refine .add rfl rfl rfl ?_
        refine .assignL rfl rfl (fun k237 e238 => ?_)
        refine .nil ?_
        refine .block ?_
        exact .nil (LPost.norm fun a w h => ⟨F_200, (Fz.le_trans l_98 (Fz.le_trans l_178 l_202)), h.1.sub (.cons (k := 0) rfl (.cons (k := 3) rfl (.cons (k := 5) rfl (.cons (k := 6) rfl (.nil _))))), h.2⟩)
      · skip
        refine .exitOut rfl (LPost.exit fun a w h => ⟨rfl, F_177, (Fz.le_trans l_98 l_178), h.1.sub (.cons (k := 0) rfl (.cons (k := 3) rfl (.cons (k := 5) rfl (.cons (k := 6) rfl (.nil _))))), h.2⟩)
    · intro b239 hb0 hk e a w hD
      obtain ⟨rfl, F_240, l_241, hA⟩ := hD
      refine interp_exit rfl (GE.app ?_ hk a w hA)
      refine .code ?_
      refine .seq ?_
      refine .keep (.cons (k := 0) rfl (.cons (k := 3) rfl (.cons (k := 5) rfl (.cons (k := 6) rfl (.nil _))))) ?_
      refine .bind (fun l_243 hx249 => ?_)
      refine .bind (fun l_256 hx262 => ?_)
      refine .bind (fun r_271 hx276 => ?_)
      refine .drawG 11 0 (fun env242 => [((.slice p2 s1.length k3), fun _ => True), ((.int .i64 b93), fun _ => True), ((.int .i64 b93), fun _ => True), ((.slice (env242.a 30) l_243.length (env242.n 30)), fun G => RepSl 2 (Ex cApiSpan) G (env242.a 30) (env242.n 30) l_243), ((eApiSpan b239.2), fun _ => True), ((.slice (some ⟨env242.n 50, 0, none⟩) ([b239.2]).length 1), fun G => RepSl 2 (Ex cApiSpan) G (some ⟨env242.n 50, 0, none⟩) 1 ([b239.2])), ((.slice p2 s1.length k3), fun _ => True), ((.int .i64 b239.1), fun _ => True), ((.slice (env242.a 80) l_256.length (env242.n 80)), fun G => RepSl 2 (Ex cApiSpan) G (env242.a 80) (env242.n 80) l_256), ((.slice (some ⟨env242.n 90, 0, none⟩) ([l_243, [b239.2], l_256]).length 3), fun G => RepSl 1 (rSl 2 (Ex cApiSpan)) G (some ⟨env242.n 90, 0, none⟩) 3 ([l_243, [b239.2], l_256])), ((.slice (env242.a 100) r_271.length (env242.n 100)), fun G => RepSl 2 (Ex cApiSpan) G (env242.a 100) (env242.n 100) r_271)]) (fun L env242 => [pt b6 (.cells (cApiSpan b239.2).toArray 36), R]) mixedOK (by kernel_rfl) (by kernel_rfl) rfl (fun _ => rfl) (by kernel_rfl) (fun _ => rfl) ?_ (fun env242 F_277 l_278 hphi => ?_)
      · skip
        refine .cons (fun L env242 F_279 l_280 hL hdn hup hphi => ⟨[(0, (.slice p2 s1.length k3))], fun S hS hV => (.cons (hS _ _ rfl) (Sub.nil _)), ?_⟩) ?_
        · skip
          refine .move rfl rfl ?_
          exact .finV rfl rfl (Fz.le_refl _)
        refine .cons (fun L env242 F_281 l_282 hL hdn hup hphi => ⟨[(5, (.int .i64 b93))], fun S hS hV => (.cons (hS _ _ rfl) (Sub.nil _)), ?_⟩) ?_
        · skip
          refine .move rfl rfl ?_
          exact .finV rfl rfl (Fz.le_refl _)
        refine .cons (fun L env242 F_283 l_284 hL hdn hup hphi => ⟨[(5, (.int .i64 b93))], fun S hS hV => (.cons (hS _ _ rfl) (Sub.nil _)), ?_⟩) ?_
        · skip
          refine .move rfl rfl ?_
          exact .finV rfl rfl (Fz.le_refl _)
        refine .cons (fun L env242 F_285 l_286 hL hdn hup hphi => ⟨[(59, (.slice p2 s1.length k3)), (60, (.int .i64 b93)), (61, (.int .i64 b93))], fun S hS hV => (.cons (hV 0 59 _ (hdn 1 0 rfl) rfl rfl) (.cons (hV 1 60 _ (hdn 1 1 rfl) rfl rfl) (.cons (hV 2 61 _ (hdn 1 2 rfl) rfl rfl) (Sub.nil _)))), ?_⟩) ?_
        · skip
          refine .sliceHiMK hx249 rfl Try.underlying81 Try.sizeOf36 (h4.mono (Fz.le_trans l_95 (Fz.le_trans l_241 l_286))) rfl rfl rfl (fun p288 k289 h291 => ?_)
          exact .finQ ({ env242 with a := (updN env242.a 30 p288), n := (updN env242.n 30 k289), c := env242.c }) [true, true, true, false, true, true, true, true, true, false, false] rfl (by kernel_rfl) rfl rfl (Fz.le_refl _) (fun _ le => h291.mono le) (cons_eq rfl (cons_eq rfl rfl))
        refine .cons (fun L env242 F_292 l_293 hL hdn hup hphi => ⟨[(3, (.pointer (some ⟨b6, 0, none⟩)))], fun S hS hV => (.cons (hS _ _ rfl) (Sub.nil _)), ?_⟩) ?_
        · skip
          refine .loadOA rfl Try.isAgg36 Try.sizeOf36 rfl (i := 0) rfl (vs := (cApiSpan b239.2)) (by kernel_rfl) rfl ?_
          exact .finV rfl rfl (Fz.le_refl _)
        refine .cons (fun L env242 F_294 l_295 hL hdn hup hphi => ⟨[(63, (eApiSpan b239.2))], fun S hS hV => (.cons (hV 4 63 _ (hdn 1 4 rfl) rfl rfl) (Sub.nil _)), ?_⟩) ?_
        · skip
          refine .sliceLit (cs := [.int .i64 b239.2.Lo, .int .i64 b239.2.Hi]) (zc := [.int .i64 (ApiSpan.mk 0 0).Lo, .int .i64 (ApiSpan.mk 0 0).Hi]) rfl Try.underlying81 Try.sizeOf36 Try.zeroValue36 rfl rfl rfl (by kernel_rfl) (by kernel_rfl) (fun b296 F_297 l_298 hb299 => ?_)
          have h300 : RepSl 2 (Ex cApiSpan) F_297 (some ⟨b296, 0, none⟩) 1 ([b239.2]) := RepSl.ofRow hb299 (.cons ok_t36.mono rfl .nil) rfl rfl
          exact .finQ ({ env242 with a := env242.a, n := (updN env242.n 50 b296), c := env242.c }) [true, true, true, true, true, false, true, true, true, false, false] rfl (by kernel_rfl) rfl rfl l_298 (fun _ le => h300.mono le) (cons_eq rfl (cons_eq rfl rfl))
        refine .cons (fun L env242 F_301 l_302 hL hdn hup hphi => ⟨[(0, (.slice p2 s1.length k3))], fun S hS hV => (.cons (hS _ _ rfl) (Sub.nil _)), ?_⟩) ?_
        · skip
          refine .move rfl rfl ?_
          exact .finV rfl rfl (Fz.le_refl _)
        refine .cons (fun L env242 F_303 l_304 hL hdn hup hphi => ⟨[(6, (.int .i64 b239.1))], fun S hS hV => (.cons (hS _ _ rfl) (Sub.nil _)), ?_⟩) ?_
        · skip
          refine .move rfl rfl ?_
          exact .finV rfl rfl (Fz.le_refl _)
        refine .cons (fun L env242 F_305 l_306 hL hdn hup hphi => ⟨[(65, (.slice p2 s1.length k3)), (66, (.int .i64 b239.1))], fun S hS hV => (.cons (hV 6 65 _ (hdn 1 6 rfl) rfl rfl) (.cons (hV 7 66 _ (hdn 1 7 rfl) rfl rfl) (Sub.nil _))), ?_⟩) ?_
        · skip
          refine .sliceLoK hx262 rfl Try.underlying81 Try.sizeOf36 (h4.mono (Fz.le_trans l_95 (Fz.le_trans l_241 l_306))) rfl rfl (fun p308 k309 h311 => ?_)
          exact .finQ ({ env242 with a := (updN env242.a 80 p308), n := (updN env242.n 80 k309), c := env242.c }) [true, true, true, true, true, true, true, true, false, false, false] rfl (by kernel_rfl) rfl rfl (Fz.le_refl _) (fun _ le => h311.mono le) (cons_eq rfl (cons_eq rfl rfl))
        refine .cons (fun L env242 F_312 l_313 hL hdn hup hphi => ⟨[(62, (.slice (env242.a 30) l_243.length (env242.n 30))), (64, (.slice (some ⟨env242.n 50, 0, none⟩) ([b239.2]).length 1)), (67, (.slice (env242.a 80) l_256.length (env242.n 80)))], fun S hS hV => (.cons (hV 3 62 _ (hdn 1 3 rfl) rfl rfl) (.cons (hV 5 64 _ (hdn 1 5 rfl) rfl rfl) (.cons (hV 8 67 _ (hdn 1 8 rfl) rfl rfl) (Sub.nil _)))), ?_⟩) ?_
        · skip
          have h248 := hphi 3 _ (hdn 1 3 rfl) rfl _ (Fz.le_refl _)
          have h255 := hphi 5 _ (hdn 1 5 rfl) rfl _ (Fz.le_refl _)
          have h261 := hphi 8 _ (hdn 1 8 rfl) rfl _ (Fz.le_refl _)
          refine .sliceLit (cs := [.slice (env242.a 30) l_243.length (env242.n 30), .slice (some ⟨env242.n 50, 0, none⟩) ([b239.2]).length 1, .slice (env242.a 80) l_256.length (env242.n 80)]) (zc := [.slice none 0 0, .slice none 0 0, .slice none 0 0]) rfl Try.underlying136 Try.sizeOf81 Try.zeroValue81 rfl rfl rfl (by kernel_rfl) (by kernel_rfl) (fun b314 F_315 l_316 hb317 => ?_)
          have h318 : RepSl 1 (rSl 2 (Ex cApiSpan)) F_315 (some ⟨b314, 0, none⟩) 3 ([l_243, [b239.2], l_256]) := RepSl.ofRow hb317 (.cons ok_t81.mono ⟨_, _, rfl, (h248.mono l_316)⟩ (.cons ok_t81.mono ⟨_, _, rfl, (h255.mono l_316)⟩ (.cons ok_t81.mono ⟨_, _, rfl, (h261.mono l_316)⟩ .nil))) rfl rfl
          exact .finQ ({ env242 with a := env242.a, n := (updN env242.n 90 b314), c := env242.c }) [true, true, true, true, true, true, true, true, true, false, false] rfl (by kernel_rfl) rfl rfl l_316 (fun _ le => h318.mono le) (cons_eq rfl (cons_eq rfl rfl))
        refine .cons (fun L env242 F_319 l_320 hL hdn hup hphi => ⟨[(68, (.slice (some ⟨env242.n 90, 0, none⟩) ([l_243, [b239.2], l_256]).length 3))], fun S hS hV => (.cons (hV 9 68 _ (hdn 1 9 rfl) rfl rfl) (Sub.nil _)), ?_⟩) ?_
        · skip
          have h248 := hphi 3 _ (hdn 2 3 rfl) rfl _ (Fz.le_refl _)
          have h255 := hphi 5 _ (hdn 2 5 rfl) rfl _ (Fz.le_refl _)
          have h261 := hphi 8 _ (hdn 2 8 rfl) rfl _ (Fz.le_refl _)
          have h268 := hphi 9 _ (hdn 1 9 rfl) rfl _ (Fz.le_refl _)
          refine .callK hx276 rfl Try.call74 rfl rfl rfl (c_slices_Concat_Span _ ([l_243, [b239.2], l_256]) (some ⟨env242.n 90, 0, none⟩) 3 h268) ?_
          rintro F_321 _ l_322 ⟨p323, k324, rfl, h325⟩
          exact .finQ ({ env242 with a := (updN env242.a 100 p323), n := (updN env242.n 100 k324), c := env242.c }) [true, true, true, true, true, true, true, true, true, true, false] rfl (by kernel_rfl) rfl rfl l_322 (fun _ le => h325.mono le) (cons_eq rfl (cons_eq rfl rfl))
        exact .nil
      have h248 := hphi 3 _ rfl
      have h255 := hphi 5 _ rfl
      have h261 := hphi 8 _ rfl
      have h268 := hphi 9 _ rfl
      have h275 := hphi 10 _ rfl
      refine .norm (S' := [(0, (.slice p2 s1.length k3)), (3, (.pointer (some ⟨b6, 0, none⟩))), (5, (.int .i64 b93)), (6, (.int .i64 b239.1)), (59, (.slice p2 s1.length k3)), (60, (.int .i64 b93)), (61, (.int .i64 b93)), (62, (.slice (env242.a 30) l_243.length (env242.n 30))), (63, (eApiSpan b239.2)), (64, (.slice (some ⟨env242.n 50, 0, none⟩) ([b239.2]).length 1)), (65, (.slice p2 s1.length k3)), (66, (.int .i64 b239.1)), (67, (.slice (env242.a 80) l_256.length (env242.n 80))), (68, (.slice (some ⟨env242.n 90, 0, none⟩) ([l_243, [b239.2], l_256]).length 3)), (69, (.slice (env242.a 100) r_271.length (env242.n 100)))]) (.cons (k := 0) rfl (.cons (k := 3) rfl (.cons (k := 5) rfl (.cons (k := 6) rfl (.cons (k := 59) rfl (.cons (k := 60) rfl (.cons (k := 61) rfl (.cons (k := 62) rfl (.cons (k := 63) rfl (.cons (k := 64) rfl (.cons (k := 65) rfl (.cons (k := 66) rfl (.cons (k := 67) rfl (.cons (k := 68) rfl (.cons (k := 69) rfl (.nil _)))))))))))))))) (rfl : _ = [pt b6 (.cells (cApiSpan b239.2).toArray 36), R]) ?_
      refine .assign rfl rfl ?_
      refine .nil ?_
      refine .code ?_
      exact .ret0 Try.results35 (.tmp rfl (.nil)) (i := 1) rfl (Fz.le_trans l_95 (Fz.le_trans l_241 l_278)) ⟨(env242.a 100), (env242.n 100), rfl, h275⟩

def m_bottle_spans_covers_1 (y1 : ApiSpan) (c2 : ApiSpan) : Bool :=
  ((decide (y1.Lo ≤ c2.Lo)) && (decide (c2.Hi ≤ y1.Hi)))
theorem c_bottle_spans_covers_1 (F0 : Fz) (y1 : ApiSpan) (c2 : ApiSpan) (b3 : Nat) (hb4 : F0.mem b3 = some (.cells (cApiSpan c2).toArray 36)) : CT0 Try.prog 75 [(eApiSpan y1), (.pointer (some ⟨b3, 0, none⟩))].toArray F0 (some (m_bottle_spans_covers_1 y1 c2)) (fun r _ v => v = (.bool r)) := by
  refine CT0.enter Try.func75 rfl Try.ntmps75 rfl fun r R => ?_
  refine .seq ?_
  refine .region ?_
  refine .boxF (cs := (cApiSpan y1)) rfl rfl rfl (fun b5 F_6 l_7 hb8 => ?_)
  refine .assign rfl rfl ?_
  refine .nil ?_
  refine .code ?_
  refine .seq ?_
  refine .region ?_
  refine .fieldAddr rfl Try.underlying36 rfl Try.sizeOf3 rfl ?_
  refine .loadF rfl Try.isAgg3 rfl hb8 rfl ?_
  refine .fieldAddr rfl Try.underlying36 rfl Try.sizeOf3 rfl ?_
  refine .loadF rfl Try.isAgg3 rfl (l_7.mem _ _ hb4) rfl ?_
  refine .leq rfl rfl rfl ?_
  refine .move rfl rfl ?_
  refine .andP (b := (decide (y1.Lo ≤ c2.Lo))) (b' := (decide (c2.Hi ≤ y1.Hi))) 6 15 (fun hb9 => ?_) (fun hb10 => ?_) (fun F_11 l_12 => ?_)
  · skip
    refine .onH hb9 rfl rfl ?_
    refine .fieldAddr rfl Try.underlying36 rfl Try.sizeOf3 rfl ?_
    refine .onH hb9 rfl rfl ?_
    refine .loadF rfl Try.isAgg3 rfl (l_7.mem _ _ hb4) rfl ?_
    refine .onH hb9 rfl rfl ?_
    refine .fieldAddr rfl Try.underlying36 rfl Try.sizeOf3 rfl ?_
    refine .onH hb9 rfl rfl ?_
    refine .loadF rfl Try.isAgg3 rfl hb8 rfl ?_
    refine .onH hb9 rfl rfl ?_
    refine .leq rfl rfl rfl ?_
    refine .pickTH hb9 rfl rfl rfl ?_
    exact .fin 6 rfl rfl (by kernel_rfl) (Fz.le_refl _)
  · skip
    refine .offH hb10 rfl rfl rfl ?_
    refine .offH hb10 rfl rfl rfl ?_
    refine .offH hb10 rfl rfl rfl ?_
    refine .offH hb10 rfl rfl rfl ?_
    refine .offH hb10 rfl rfl rfl ?_
    refine .pickFH hb10 rfl rfl rfl ?_
    exact .fin 6 rfl rfl (by kernel_rfl) (Fz.le_refl _)
  refine .assign rfl rfl ?_
  refine .nil ?_
  refine .code ?_
  exact .ret0 Try.results75 (.tmp rfl (.nil)) (i := 0) rfl (Fz.le_trans l_7 l_12) rfl

noncomputable def m_bottle_spans_covers (s1 : (List ApiSpan)) (x5 : ApiSpan) : Option Bool :=
  (m_slices_ContainsFunc_Span s1 (fun x => some (m_bottle_spans_covers_1 x x5))).bind fun r_13 => some r_13
theorem c_bottle_spans_covers (F0 : Fz) (s1 : (List ApiSpan)) (p2 : Option Addr) (k3 : Nat) (h4 : RepSl 2 (Ex cApiSpan) F0 p2 k3 s1) (x5 : ApiSpan) : CT0 Try.prog 36 [(.slice p2 s1.length k3), (eApiSpan x5)].toArray F0 (m_bottle_spans_covers s1 x5) (fun r _ v => v = (.bool r)) := by
  refine CT0.enter Try.func36 rfl Try.ntmps36 rfl fun r R => ?_
  unfold m_bottle_spans_covers
  refine .seq ?_
  refine .region ?_
  refine .boxF (cs := (cApiSpan x5)) rfl rfl rfl (fun b6 F_7 l_8 hb9 => ?_)
  refine .assign rfl rfl ?_
  refine .nil ?_
  refine .code ?_
  refine .seq ?_
  refine .region ?_
  refine .move rfl rfl ?_
  refine .makeFunc rfl rfl ?_
  have hf10 : RepFn Try.prog F_7 75 [(.pointer (some ⟨b6, 0, none⟩))] (fun x _ vs => vs = [(eApiSpan x)]) (fun r _ v => v = (.bool r)) (fun x => some (m_bottle_spans_covers_1 x x5)) := ⟨Try.call75, fun F' le' x vs hv => by obtain rfl := hv; exact c_bottle_spans_covers_1 F' x x5 b6 (le'.mem _ _ hb9)⟩
  refine .call0 rfl Try.call72 rfl rfl rfl (c_slices_ContainsFunc_Span _ s1 p2 k3 (h4.mono l_8) (fun x => some (m_bottle_spans_covers_1 x x5)) 75 ([(.pointer (some ⟨b6, 0, none⟩))]) hf10) ?_
  rintro r_13 F_11 _ - l_12 rfl
  refine .assign rfl rfl ?_
  refine .nil ?_
  refine .code ?_
  exact .ret0 Try.results36 (.tmp rfl (.nil)) (i := 0) rfl (Fz.le_trans l_8 l_12) rfl

def m_bottle_spans_without_1 (y1 : ApiSpan) (c2 : ApiSpan) : Bool :=
  ((decide (y1.Lo ≤ c2.Lo)) && (decide (c2.Hi ≤ y1.Hi)))
theorem c_bottle_spans_without_1 (F0 : Fz) (y1 : ApiSpan) (c2 : ApiSpan) (b3 : Nat) (hb4 : F0.mem b3 = some (.cells (cApiSpan c2).toArray 36)) : CT0 Try.prog 77 [(eApiSpan y1), (.pointer (some ⟨b3, 0, none⟩))].toArray F0 (some (m_bottle_spans_without_1 y1 c2)) (fun r _ v => v = (.bool r)) := by
  refine CT0.enter Try.func77 rfl Try.ntmps77 rfl fun r R => ?_
  refine .seq ?_
  refine .region ?_
  refine .boxF (cs := (cApiSpan y1)) rfl rfl rfl (fun b5 F_6 l_7 hb8 => ?_)
  refine .assign rfl rfl ?_
  refine .nil ?_
  refine .code ?_
  refine .seq ?_
  refine .region ?_
  refine .fieldAddr rfl Try.underlying36 rfl Try.sizeOf3 rfl ?_
  refine .loadF rfl Try.isAgg3 rfl hb8 rfl ?_
  refine .fieldAddr rfl Try.underlying36 rfl Try.sizeOf3 rfl ?_
  refine .loadF rfl Try.isAgg3 rfl (l_7.mem _ _ hb4) rfl ?_
  refine .leq rfl rfl rfl ?_
  refine .move rfl rfl ?_
  refine .andP (b := (decide (y1.Lo ≤ c2.Lo))) (b' := (decide (c2.Hi ≤ y1.Hi))) 6 15 (fun hb9 => ?_) (fun hb10 => ?_) (fun F_11 l_12 => ?_)
  · skip
    refine .onH hb9 rfl rfl ?_
    refine .fieldAddr rfl Try.underlying36 rfl Try.sizeOf3 rfl ?_
    refine .onH hb9 rfl rfl ?_
    refine .loadF rfl Try.isAgg3 rfl (l_7.mem _ _ hb4) rfl ?_
    refine .onH hb9 rfl rfl ?_
    refine .fieldAddr rfl Try.underlying36 rfl Try.sizeOf3 rfl ?_
    refine .onH hb9 rfl rfl ?_
    refine .loadF rfl Try.isAgg3 rfl hb8 rfl ?_
    refine .onH hb9 rfl rfl ?_
    refine .leq rfl rfl rfl ?_
    refine .pickTH hb9 rfl rfl rfl ?_
    exact .fin 6 rfl rfl (by kernel_rfl) (Fz.le_refl _)
  · skip
    refine .offH hb10 rfl rfl rfl ?_
    refine .offH hb10 rfl rfl rfl ?_
    refine .offH hb10 rfl rfl rfl ?_
    refine .offH hb10 rfl rfl rfl ?_
    refine .offH hb10 rfl rfl rfl ?_
    refine .pickFH hb10 rfl rfl rfl ?_
    exact .fin 6 rfl rfl (by kernel_rfl) (Fz.le_refl _)
  refine .assign rfl rfl ?_
  refine .nil ?_
  refine .code ?_
  exact .ret0 Try.results77 (.tmp rfl (.nil)) (i := 0) rfl (Fz.le_trans l_7 l_12) rfl

noncomputable def m_bottle_spans_without (s1 : (List ApiSpan)) (x5 : ApiSpan) : Option (List ApiSpan) :=
  (m_slices_IndexFunc_Span s1 (fun x => some (m_bottle_spans_without_1 x x5))).bind fun r_13 => (idxL s1 r_13).bind fun x14 => (if (decide (x14.Lo < x5.Lo)) then ((idxL s1 r_13).bind fun x46 => (appO ([]) ([(ApiSpan.mk x46.Lo (w64 (x5.Lo - 1)))])).bind fun l_62 => some l_62) else (some ([])) : Option ((List ApiSpan))).bind fun j103 => (idxL s1 r_13).bind fun x109 => (if (decide (x5.Hi < x109.Hi)) then ((idxL s1 r_13).bind fun x140 => (appO j103 ([(ApiSpan.mk (w64 (x5.Hi + 1)) x140.Hi)])).bind fun l_156 => some l_156) else (some j103) : Option ((List ApiSpan))).bind fun j197 => (mkO 0 (w64 ((s1.length : Int) + 1))).bind fun n_203 => (sliceL s1 0 r_13).bind fun l_206 => (appO (List.replicate n_203 (ApiSpan.mk 0 0)) l_206).bind fun l_211 => (appO l_211 j197).bind fun l_218 => (sliceL s1 (w64 (r_13 + 1)) s1.length).bind fun l_222 => (appO l_218 l_222).bind fun l_227 => some l_227
theorem c_bottle_spans_without (F0 : Fz) (s1 : (List ApiSpan)) (p2 : Option Addr) (k3 : Nat) (h4 : RepSl 2 (Ex cApiSpan) F0 p2 k3 s1) (x5 : ApiSpan) : CT0 Try.prog 37 [(.slice p2 s1.length k3), (eApiSpan x5)].toArray F0 (m_bottle_spans_without s1 x5) (fun r F v => ∃ p0 k0, v = (.slice p0 r.length k0) ∧ RepSl 2 (Ex cApiSpan) F p0 k0 r) := by
  refine CT0.enter Try.func37 rfl Try.ntmps37 rfl fun r R => ?_
  unfold m_bottle_spans_without
  refine .seq ?_
  refine .region ?_
  refine .boxF (cs := (cApiSpan x5)) rfl rfl rfl (fun b6 F_7 l_8 hb9 => ?_)
  refine .assign rfl rfl ?_
  refine .nil ?_
  refine .code ?_
  refine .seq ?_
  refine .region ?_
  refine .move rfl rfl ?_
  refine .makeFunc rfl rfl ?_
  have hf10 : RepFn Try.prog F_7 77 [(.pointer (some ⟨b6, 0, none⟩))] (fun x _ vs => vs = [(eApiSpan x)]) (fun r _ v => v = (.bool r)) (fun x => some (m_bottle_spans_without_1 x x5)) := ⟨Try.call77, fun F' le' x vs hv => by obtain rfl := hv; exact c_bottle_spans_without_1 F' x x5 b6 (le'.mem _ _ hb9)⟩
  refine .call0 rfl Try.call76 rfl rfl rfl (c_slices_IndexFunc_Span _ s1 p2 k3 (h4.mono l_8) (fun x => some (m_bottle_spans_without_1 x x5)) 77 ([(.pointer (some ⟨b6, 0, none⟩))]) hf10) ?_
  rintro r_13 F_11 _ - l_12 rfl
  refine .assign rfl rfl ?_
  refine .nil ?_
  refine .code ?_
  refine .seq ?_
  refine .region ?_
  refine .assign rfl rfl ?_
  refine .nil ?_
  refine .code ?_
  refine .seq ?_
  refine .seq ?_
  refine .keep (.cons (k := 0) rfl (.cons (k := 3) rfl (.cons (k := 5) rfl (.cons (k := 6) rfl (.nil _))))) ?_
  refine .bind (fun x14 e20 => ?_)
  obtain ⟨b15, o16, T17, fr18, cs19, hm21, hv22, hq23⟩ := RepSl.idxE (h4.mono (Fz.le_trans l_8 l_12)) e20
  refine .draw ⟨1000000, 0, [], 0⟩ [(11, (.slice p2 s1.length k3)), (12, (.int .i64 r_13)), (13, (.pointer (some ⟨b15, o16, none⟩))), (14, (.pointer (some ⟨b15, o16, none⟩))), (15, (.int .i64 x14.Lo)), (16, (.pointer (some ⟨b6, 0 + 0, none⟩))), (17, (.int .i64 x5.Lo)), (18, (.bool (decide (x14.Lo < x5.Lo))))] mixedOK (by kernel_rfl) (by kernel_rfl) rfl (by kernel_rfl) ?_ (fun F_24 b25 l_26 => ?_)
  · skip
    refine .cons (.mk 11 (.slice p2 s1.length k3) [(0, (.slice p2 s1.length k3))] rfl rfl rfl rfl (fun S hS hd => (.cons (hS _ _ rfl) (Sub.nil _))) (fun F_27 X l_28 => ?_)) ?_
    · skip
      refine .move rfl rfl ?_
      exact .fin1 (Fz.le_refl _)
    refine .cons (.mk 12 (.int .i64 r_13) [(5, (.int .i64 r_13))] rfl rfl rfl rfl (fun S hS hd => (.cons (hS _ _ rfl) (Sub.nil _))) (fun F_29 X l_30 => ?_)) ?_
    · skip
      refine .move rfl rfl ?_
      exact .fin1 (Fz.le_refl _)
    refine .cons (.mk 13 (.pointer (some ⟨b15, o16, none⟩)) [(11, (.slice p2 s1.length k3)), (12, (.int .i64 r_13))] rfl rfl rfl rfl (fun S hS hd => (.cons (hd.1 rfl rfl _ _ rfl) (.cons (hd.2.1 rfl rfl _ _ rfl) (Sub.nil _)))) (fun F_31 X l_32 => ?_)) ?_
    · skip
      refine .idxQ rfl Try.underlying81 Try.sizeOf36 hq23 rfl rfl ?_
      exact .fin1 (Fz.le_refl _)
    refine .cons (.mk 14 (.pointer (some ⟨b15, o16, none⟩)) [(13, (.pointer (some ⟨b15, o16, none⟩)))] rfl rfl rfl rfl (fun S hS hd => (.cons (hd.1 rfl rfl _ _ rfl) (Sub.nil _))) (fun F_33 X l_34 => ?_)) ?_
    · skip
      refine .fieldAddr rfl Try.underlying36 rfl Try.sizeOf3 rfl ?_
      exact .fin1 (Fz.le_refl _)
    refine .cons (.mk 15 (.int .i64 x14.Lo) [(14, (.pointer (some ⟨b15, o16, none⟩)))] rfl rfl rfl rfl (fun S hS hd => (.cons (hd.1 rfl rfl _ _ rfl) (Sub.nil _))) (fun F_35 X l_36 => ?_)) ?_
    · skip
      refine .loadF rfl Try.isAgg3 rfl (l_36.mem _ _ hm21) (cell_of_take (k := 0) hv22 rfl) ?_
      exact .fin1 (Fz.le_refl _)
    refine .cons (.mk 16 (.pointer (some ⟨b6, 0 + 0, none⟩)) [(3, (.pointer (some ⟨b6, 0, none⟩)))] rfl rfl rfl rfl (fun S hS hd => (.cons (hS _ _ rfl) (Sub.nil _))) (fun F_37 X l_38 => ?_)) ?_
    · skip
      refine .fieldAddr rfl Try.underlying36 rfl Try.sizeOf3 rfl ?_
      exact .fin1 (Fz.le_refl _)
    refine .cons (.mk 17 (.int .i64 x5.Lo) [(16, (.pointer (some ⟨b6, 0 + 0, none⟩)))] rfl rfl rfl rfl (fun S hS hd => (.cons (hd.1 rfl rfl _ _ rfl) (Sub.nil _))) (fun F_39 X l_40 => ?_)) ?_
    · skip
      refine .loadF rfl Try.isAgg3 rfl ((Fz.le_trans l_12 l_40).mem _ _ hb9) rfl ?_
      exact .fin1 (Fz.le_refl _)
    refine .cons (.mk 18 (.bool (decide (x14.Lo < x5.Lo))) [(15, (.int .i64 x14.Lo)), (17, (.int .i64 x5.Lo))] rfl rfl rfl rfl (fun S hS hd => (.cons (hd.1 rfl rfl _ _ rfl) (.cons (hd.2.1 rfl rfl _ _ rfl) (Sub.nil _)))) (fun F_41 X l_42 => ?_)) ?_
    · skip
      refine .lss rfl rfl rfl ?_
      exact .fin1 (Fz.le_refl _)
    exact .nil
  refine .nil ?_
  refine .code ?_
  refine .ownNil 2 (Ex cApiSpan) 36 ?_
  refine .keep (.cons (k := 0) rfl (.cons (k := 3) rfl (.cons (k := 5) rfl (.cons (k := 6) rfl (.cons (k := 18) rfl (.nil _)))))) ?_
  refine GC.join0 (σ := (List ApiSpan)) (fun j103 a w => ∃ (F_104 : Fz) (p106 : Option Addr) (k107 : Nat), F_24 ≤ F_104 ∧ Hd 70 [] [(0, (.slice p2 s1.length k3)), (3, (.pointer (some ⟨b6, 0, none⟩))), (5, (.int .i64 r_13)), (6, (.slice p106 j103.length k107))] F_104 [ownSl 2 (Ex cApiSpan) F_104 36 p106 k107 j103, R] a w) (fun sj => ?_) (fun j103 hs0 => GE.ex (fun a w ⟨F_104, p106, k107, l_105, hA⟩ => ⟨_, hA, ?_⟩))
  · skip
    refine .cond rfl (fun hb44 => ?_) (fun hb44 => ?_)
    · skip
      refine .keep (.cons (k := 0) rfl (.cons (k := 3) rfl (.cons (k := 5) rfl (.cons (k := 6) rfl (.nil _))))) ?_
      refine .bind (fun x46 e52 => ?_)
      obtain ⟨b47, o48, T49, fr50, cs51, hm53, hv54, hq55⟩ := RepSl.idxE (h4.mono (Fz.le_trans l_8 (Fz.le_trans l_12 l_26))) e52
      refine .bind (fun l_62 hx66 => ?_)
      refine .drawG 12 0 (fun env45 => [((.slice none 0 0), fun _ => True), ((.slice p2 s1.length k3), fun _ => True), ((.int .i64 r_13), fun _ => True), ((.pointer (some ⟨b47, o48, none⟩)), fun _ => True), ((.pointer (some ⟨b47, o48, none⟩)), fun _ => True), ((.int .i64 x46.Lo), fun _ => True), ((.pointer (some ⟨b6, 0 + 0, none⟩)), fun _ => True), ((.int .i64 x5.Lo), fun _ => True), ((.int .i64 (w64 (x5.Lo - 1))), fun _ => True), ((eApiSpan (ApiSpan.mk x46.Lo (w64 (x5.Lo - 1)))), fun _ => True), ((.slice (some ⟨env45.n 100, 0, none⟩) ([(ApiSpan.mk x46.Lo (w64 (x5.Lo - 1)))]).length 1), fun G => RepSl 2 (Ex cApiSpan) G (some ⟨env45.n 100, 0, none⟩) 1 ([(ApiSpan.mk x46.Lo (w64 (x5.Lo - 1)))])), ((.slice (env45.a 110) l_62.length (env45.n 110)), fun G => env45.f 110 ≤ G)]) (fun L env45 => [(bif L 11 then (ownSl 2 (Ex cApiSpan) (env45.f 110) 36 (env45.a 110) (env45.n 110) l_62) else (ownSl 2 (Ex cApiSpan) F_24 36 none 0 ([]))), R]) mixedOK (by kernel_rfl) (by kernel_rfl) rfl (fun _ => rfl) (by kernel_rfl) (fun _ => rfl) ?_ (fun env45 F_67 l_68 hphi => ?_)
      · skip
        refine .cons (fun L env45 F_70 l_71 hL hdn hup hphi => ⟨[(6, (.slice none 0 0))], fun S hS hV => (.cons (hS _ _ rfl) (Sub.nil _)), ?_⟩) ?_
        · skip
          refine .move rfl rfl ?_
          exact .finV rfl rfl (Fz.le_refl _)
        refine .cons (fun L env45 F_72 l_73 hL hdn hup hphi => ⟨[(0, (.slice p2 s1.length k3))], fun S hS hV => (.cons (hS _ _ rfl) (Sub.nil _)), ?_⟩) ?_
        · skip
          refine .move rfl rfl ?_
          exact .finV rfl rfl (Fz.le_refl _)
        refine .cons (fun L env45 F_74 l_75 hL hdn hup hphi => ⟨[(5, (.int .i64 r_13))], fun S hS hV => (.cons (hS _ _ rfl) (Sub.nil _)), ?_⟩) ?_
        · skip
          refine .move rfl rfl ?_
          exact .finV rfl rfl (Fz.le_refl _)
        refine .cons (fun L env45 F_76 l_77 hL hdn hup hphi => ⟨[(20, (.slice p2 s1.length k3)), (21, (.int .i64 r_13))], fun S hS hV => (.cons (hV 1 20 _ (hdn 1 1 rfl) rfl rfl) (.cons (hV 2 21 _ (hdn 1 2 rfl) rfl rfl) (Sub.nil _))), ?_⟩) ?_
        · skip
          refine .idxQ rfl Try.underlying81 Try.sizeOf36 hq55 rfl rfl ?_
          exact .finV rfl rfl (Fz.le_refl _)
        refine .cons (fun L env45 F_78 l_79 hL hdn hup hphi => ⟨[(22, (.pointer (some ⟨b47, o48, none⟩)))], fun S hS hV => (.cons (hV 3 22 _ (hdn 1 3 rfl) rfl rfl) (Sub.nil _)), ?_⟩) ?_
        · skip
          refine .fieldAddr rfl Try.underlying36 rfl Try.sizeOf3 rfl ?_
          exact .finV rfl rfl (Fz.le_refl _)
        refine .cons (fun L env45 F_80 l_81 hL hdn hup hphi => ⟨[(23, (.pointer (some ⟨b47, o48, none⟩)))], fun S hS hV => (.cons (hV 4 23 _ (hdn 1 4 rfl) rfl rfl) (Sub.nil _)), ?_⟩) ?_
        · skip
          refine .loadF rfl Try.isAgg3 rfl (l_81.mem _ _ hm53) (cell_of_take (k := 0) hv54 rfl) ?_
          exact .finV rfl rfl (Fz.le_refl _)
        refine .cons (fun L env45 F_82 l_83 hL hdn hup hphi => ⟨[(3, (.pointer (some ⟨b6, 0, none⟩)))], fun S hS hV => (.cons (hS _ _ rfl) (Sub.nil _)), ?_⟩) ?_
        · skip
          refine .fieldAddr rfl Try.underlying36 rfl Try.sizeOf3 rfl ?_
          exact .finV rfl rfl (Fz.le_refl _)
        refine .cons (fun L env45 F_84 l_85 hL hdn hup hphi => ⟨[(25, (.pointer (some ⟨b6, 0 + 0, none⟩)))], fun S hS hV => (.cons (hV 6 25 _ (hdn 1 6 rfl) rfl rfl) (Sub.nil _)), ?_⟩) ?_
        · skip
          refine .loadF rfl Try.isAgg3 rfl ((Fz.le_trans l_12 (Fz.le_trans l_26 l_85)).mem _ _ hb9) rfl ?_
          exact .finV rfl rfl (Fz.le_refl _)
        refine .cons (fun L env45 F_86 l_87 hL hdn hup hphi => ⟨[(26, (.int .i64 x5.Lo))], fun S hS hV => (.cons (hV 7 26 _ (hdn 1 7 rfl) rfl rfl) (Sub.nil _)), ?_⟩) ?_
        · skip
          refine .sub rfl rfl rfl ?_
          exact .finV rfl rfl (Fz.le_refl _)
        refine .cons (fun L env45 F_88 l_89 hL hdn hup hphi => ⟨[(24, (.int .i64 x46.Lo)), (27, (.int .i64 (w64 (x5.Lo - 1))))], fun S hS hV => (.cons (hV 5 24 _ (hdn 1 5 rfl) rfl rfl) (.cons (hV 8 27 _ (hdn 1 8 rfl) rfl rfl) (Sub.nil _))), ?_⟩) ?_
        · skip
          refine .build (cs := (cApiSpan (ApiSpan.mk x46.Lo (w64 (x5.Lo - 1)))).toArray) rfl Try.underlying36 Try.zeroValue36 (plApiSpan _ Try.underlying36) rfl rfl (by kernel_rfl) ?_
          exact .finV rfl rfl (Fz.le_refl _)
        refine .cons (fun L env45 F_90 l_91 hL hdn hup hphi => ⟨[(28, (eApiSpan (ApiSpan.mk x46.Lo (w64 (x5.Lo - 1)))))], fun S hS hV => (.cons (hV 9 28 _ (hdn 1 9 rfl) rfl rfl) (Sub.nil _)), ?_⟩) ?_
        · skip
          refine .sliceLit (cs := [.int .i64 (ApiSpan.mk x46.Lo (w64 (x5.Lo - 1))).Lo, .int .i64 (ApiSpan.mk x46.Lo (w64 (x5.Lo - 1))).Hi]) (zc := [.int .i64 (ApiSpan.mk 0 0).Lo, .int .i64 (ApiSpan.mk 0 0).Hi]) rfl Try.underlying81 Try.sizeOf36 Try.zeroValue36 rfl rfl rfl (by kernel_rfl) (by kernel_rfl) (fun b92 F_93 l_94 hb95 => ?_)
          have h96 : RepSl 2 (Ex cApiSpan) F_93 (some ⟨b92, 0, none⟩) 1 ([(ApiSpan.mk x46.Lo (w64 (x5.Lo - 1)))]) := RepSl.ofRow hb95 (.cons ok_t36.mono rfl .nil) rfl rfl
          exact .finQ ({ env45 with a := env45.a, n := (updN env45.n 100 b92), c := env45.c }) [true, true, true, true, true, true, true, true, true, true, false, false] rfl (by kernel_rfl) rfl rfl l_94 (fun _ le => h96.mono le) (cons_eq ((condF (b := updB L 10 11) (hup 1 11 rfl)).trans (condF (hup 1 11 rfl)).symm) (cons_eq rfl rfl))
        refine .cons (fun L env45 F_97 l_98 hL hdn hup hphi => ⟨[(19, (.slice none 0 0)), (29, (.slice (some ⟨env45.n 100, 0, none⟩) ([(ApiSpan.mk x46.Lo (w64 (x5.Lo - 1)))]).length 1))], fun S hS hV => (.cons (hV 0 19 _ (hdn 1 0 rfl) rfl rfl) (.cons (hV 10 29 _ (hdn 1 10 rfl) rfl rfl) (Sub.nil _))), ?_⟩) ?_
        · skip
          have h61 := hphi 10 _ (hdn 1 10 rfl) rfl _ (Fz.le_refl _)
          refine .appendK hx66 0 ok_t36 l_98 rfl Try.underlying81 Try.underlying81 rfl rfl (congrArg some (condF hL)) h61 rfl rfl (fun p100 k101 => ?_)
          exact .finQ ({ env45 with a := updN env45.a 110 p100, n := updN env45.n 110 k101, f := updN env45.f 110 F_97 }) [true, true, true, true, true, true, true, true, true, true, true, false] rfl (by kernel_rfl) rfl rfl (Fz.le_refl _) (fun _ le => le) (cons_eq (condT rfl) (cons_eq rfl rfl))
        exact .nil
      have h61 := hphi 10 _ rfl
      have l_69 := hphi 11 _ rfl
      refine .norm (S' := [(0, (.slice p2 s1.length k3)), (3, (.pointer (some ⟨b6, 0, none⟩))), (5, (.int .i64 r_13)), (6, (.slice none 0 0)), (19, (.slice none 0 0)), (20, (.slice p2 s1.length k3)), (21, (.int .i64 r_13)), (22, (.pointer (some ⟨b47, o48, none⟩))), (23, (.pointer (some ⟨b47, o48, none⟩))), (24, (.int .i64 x46.Lo)), (25, (.pointer (some ⟨b6, 0 + 0, none⟩))), (26, (.int .i64 x5.Lo)), (27, (.int .i64 (w64 (x5.Lo - 1)))), (28, (eApiSpan (ApiSpan.mk x46.Lo (w64 (x5.Lo - 1))))), (29, (.slice (some ⟨env45.n 100, 0, none⟩) ([(ApiSpan.mk x46.Lo (w64 (x5.Lo - 1)))]).length 1)), (30, (.slice (env45.a 110) l_62.length (env45.n 110)))]) (.cons (k := 0) rfl (.cons (k := 3) rfl (.cons (k := 5) rfl (.cons (k := 6) rfl (.cons (k := 19) rfl (.cons (k := 20) rfl (.cons (k := 21) rfl (.cons (k := 22) rfl (.cons (k := 23) rfl (.cons (k := 24) rfl (.cons (k := 25) rfl (.cons (k := 26) rfl (.cons (k := 27) rfl (.cons (k := 28) rfl (.cons (k := 29) rfl (.cons (k := 30) rfl (.nil _))))))))))))))))) (rfl : _ = [ownSl 2 (Ex cApiSpan) (env45.f 110) 36 (env45.a 110) (env45.n 110) l_62, R]) ?_
      refine .assign rfl rfl ?_
      refine .nil ?_
      refine .ownUp 0 l_69 rfl ?_
      exact .nil fun e a w h => by cases e; exact ⟨rfl, ⟨F_67, (env45.a 110), (env45.n 110), l_68, h.1.sub (.cons (k := 0) rfl (.cons (k := 3) rfl (.cons (k := 5) rfl (.cons (k := 6) rfl (.nil _))))), h.2⟩⟩
    · skip
      refine .skip ?_
      exact .nil fun e a w h => by cases e; exact ⟨rfl, ⟨F_24, none, 0, (Fz.le_refl _), h.1.sub (.cons (k := 0) rfl (.cons (k := 3) rfl (.cons (k := 5) rfl (.cons (k := 6) rfl (.nil _))))), h.2⟩⟩
  refine .code ?_
  refine .seq ?_
  refine .seq ?_
  refine .keep (.cons (k := 0) rfl (.cons (k := 3) rfl (.cons (k := 5) rfl (.cons (k := 6) rfl (.nil _))))) ?_
  refine .bind (fun x109 e115 => ?_)
  obtain ⟨b110, o111, T112, fr113, cs114, hm116, hv117, hq118⟩ := RepSl.idxE (h4.mono (Fz.le_trans l_8 (Fz.le_trans l_12 (Fz.le_trans l_26 l_105)))) e115
  refine .draw ⟨1000000, 0, [], 0⟩ [(31, (.pointer (some ⟨b6, 0 + 1, none⟩))), (32, (.int .i64 x5.Hi)), (33, (.slice p2 s1.length k3)), (34, (.int .i64 r_13)), (35, (.pointer (some ⟨b110, o111, none⟩))), (36, (.pointer (some ⟨b110, o111 + 1, none⟩))), (37, (.int .i64 x109.Hi)), (38, (.bool (decide (x5.Hi < x109.Hi))))] mixedOK (by kernel_rfl) (by kernel_rfl) rfl (by kernel_rfl) ?_ (fun F_119 b120 l_121 => ?_)
  · skip
    refine .cons (.mk 31 (.pointer (some ⟨b6, 0 + 1, none⟩)) [(3, (.pointer (some ⟨b6, 0, none⟩)))] rfl rfl rfl rfl (fun S hS hd => (.cons (hS _ _ rfl) (Sub.nil _))) (fun F_122 X l_123 => ?_)) ?_
    · skip
      refine .fieldAddr rfl Try.underlying36 rfl Try.sizeOf3 rfl ?_
      exact .fin1 (Fz.le_refl _)
    refine .cons (.mk 32 (.int .i64 x5.Hi) [(31, (.pointer (some ⟨b6, 0 + 1, none⟩)))] rfl rfl rfl rfl (fun S hS hd => (.cons (hd.1 rfl rfl _ _ rfl) (Sub.nil _))) (fun F_124 X l_125 => ?_)) ?_
    · skip
      refine .loadF rfl Try.isAgg3 rfl ((Fz.le_trans l_12 (Fz.le_trans l_26 (Fz.le_trans l_105 l_125))).mem _ _ hb9) rfl ?_
      exact .fin1 (Fz.le_refl _)
    refine .cons (.mk 33 (.slice p2 s1.length k3) [(0, (.slice p2 s1.length k3))] rfl rfl rfl rfl (fun S hS hd => (.cons (hS _ _ rfl) (Sub.nil _))) (fun F_126 X l_127 => ?_)) ?_
    · skip
      refine .move rfl rfl ?_
      exact .fin1 (Fz.le_refl _)
    refine .cons (.mk 34 (.int .i64 r_13) [(5, (.int .i64 r_13))] rfl rfl rfl rfl (fun S hS hd => (.cons (hS _ _ rfl) (Sub.nil _))) (fun F_128 X l_129 => ?_)) ?_
    · skip
      refine .move rfl rfl ?_
      exact .fin1 (Fz.le_refl _)
    refine .cons (.mk 35 (.pointer (some ⟨b110, o111, none⟩)) [(33, (.slice p2 s1.length k3)), (34, (.int .i64 r_13))] rfl rfl rfl rfl (fun S hS hd => (.cons (hd.1 rfl rfl _ _ rfl) (.cons (hd.2.1 rfl rfl _ _ rfl) (Sub.nil _)))) (fun F_130 X l_131 => ?_)) ?_
    · skip
      refine .idxQ rfl Try.underlying81 Try.sizeOf36 hq118 rfl rfl ?_
      exact .fin1 (Fz.le_refl _)
    refine .cons (.mk 36 (.pointer (some ⟨b110, o111 + 1, none⟩)) [(35, (.pointer (some ⟨b110, o111, none⟩)))] rfl rfl rfl rfl (fun S hS hd => (.cons (hd.1 rfl rfl _ _ rfl) (Sub.nil _))) (fun F_132 X l_133 => ?_)) ?_
    · skip
      refine .fieldAddr rfl Try.underlying36 rfl Try.sizeOf3 rfl ?_
      exact .fin1 (Fz.le_refl _)
    refine .cons (.mk 37 (.int .i64 x109.Hi) [(36, (.pointer (some ⟨b110, o111 + 1, none⟩)))] rfl rfl rfl rfl (fun S hS hd => (.cons (hd.1 rfl rfl _ _ rfl) (Sub.nil _))) (fun F_134 X l_135 => ?_)) ?_
    · skip
      refine .loadF rfl Try.isAgg3 rfl (l_135.mem _ _ hm116) (cell_of_take (k := 1) hv117 rfl) ?_
      exact .fin1 (Fz.le_refl _)
    refine .cons (.mk 38 (.bool (decide (x5.Hi < x109.Hi))) [(32, (.int .i64 x5.Hi)), (37, (.int .i64 x109.Hi))] rfl rfl rfl rfl (fun S hS hd => (.cons (hd.1 rfl rfl _ _ rfl) (.cons (hd.2.1 rfl rfl _ _ rfl) (Sub.nil _)))) (fun F_136 X l_137 => ?_)) ?_
    · skip
      refine .lss rfl rfl rfl ?_
      exact .fin1 (Fz.le_refl _)
    exact .nil
  refine .nil ?_
  refine .code ?_
  refine .keep (.cons (k := 0) rfl (.cons (k := 3) rfl (.cons (k := 5) rfl (.cons (k := 6) rfl (.cons (k := 38) rfl (.nil _)))))) ?_
  refine GC.join0 (σ := (List ApiSpan)) (fun j197 a w => ∃ (F_198 : Fz) (p200 : Option Addr) (k201 : Nat), F_119 ≤ F_198 ∧ Hd 70 [] [(0, (.slice p2 s1.length k3)), (5, (.int .i64 r_13)), (6, (.slice p200 j197.length k201))] F_198 [ownSl 2 (Ex cApiSpan) F_198 36 p200 k201 j197, R] a w) (fun sj => ?_) (fun j197 hs0 => GE.ex (fun a w ⟨F_198, p200, k201, l_199, hA⟩ => ⟨_, hA, ?_⟩))
  · skip
    refine .cond rfl (fun hb138 => ?_) (fun hb138 => ?_)
    · skip
      refine .keep (.cons (k := 0) rfl (.cons (k := 3) rfl (.cons (k := 5) rfl (.cons (k := 6) rfl (.nil _))))) ?_
      refine .bind (fun x140 e146 => ?_)
      obtain ⟨b141, o142, T143, fr144, cs145, hm147, hv148, hq149⟩ := RepSl.idxE (h4.mono (Fz.le_trans l_8 (Fz.le_trans l_12 (Fz.le_trans l_26 (Fz.le_trans l_105 l_121))))) e146
      refine .bind (fun l_156 hx160 => ?_)
      refine .drawG 12 0 (fun env139 => [((.slice p106 j103.length k107), fun _ => True), ((.pointer (some ⟨b6, 0 + 1, none⟩)), fun _ => True), ((.int .i64 x5.Hi), fun _ => True), ((.int .i64 (w64 (x5.Hi + 1))), fun _ => True), ((.slice p2 s1.length k3), fun _ => True), ((.int .i64 r_13), fun _ => True), ((.pointer (some ⟨b141, o142, none⟩)), fun _ => True), ((.pointer (some ⟨b141, o142 + 1, none⟩)), fun _ => True), ((.int .i64 x140.Hi), fun _ => True), ((eApiSpan (ApiSpan.mk (w64 (x5.Hi + 1)) x140.Hi)), fun _ => True), ((.slice (some ⟨env139.n 100, 0, none⟩) ([(ApiSpan.mk (w64 (x5.Hi + 1)) x140.Hi)]).length 1), fun G => RepSl 2 (Ex cApiSpan) G (some ⟨env139.n 100, 0, none⟩) 1 ([(ApiSpan.mk (w64 (x5.Hi + 1)) x140.Hi)])), ((.slice (env139.a 110) l_156.length (env139.n 110)), fun G => env139.f 110 ≤ G)]) (fun L env139 => [(bif L 11 then (ownSl 2 (Ex cApiSpan) (env139.f 110) 36 (env139.a 110) (env139.n 110) l_156) else (ownSl 2 (Ex cApiSpan) F_104 36 p106 k107 j103)), R]) mixedOK (by kernel_rfl) (by kernel_rfl) rfl (fun _ => rfl) (by kernel_rfl) (fun _ => rfl) ?_ (fun env139 F_161 l_162 hphi => ?_)
      · skip
        refine .cons (fun L env139 F_164 l_165 hL hdn hup hphi => ⟨[(6, (.slice p106 j103.length k107))], fun S hS hV => (.cons (hS _ _ rfl) (Sub.nil _)), ?_⟩) ?_
        · skip
          refine .move rfl rfl ?_
          exact .finV rfl rfl (Fz.le_refl _)
        refine .cons (fun L env139 F_166 l_167 hL hdn hup hphi => ⟨[(3, (.pointer (some ⟨b6, 0, none⟩)))], fun S hS hV => (.cons (hS _ _ rfl) (Sub.nil _)), ?_⟩) ?_
        · skip
          refine .fieldAddr rfl Try.underlying36 rfl Try.sizeOf3 rfl ?_
          exact .finV rfl rfl (Fz.le_refl _)
        refine .cons (fun L env139 F_168 l_169 hL hdn hup hphi => ⟨[(40, (.pointer (some ⟨b6, 0 + 1, none⟩)))], fun S hS hV => (.cons (hV 1 40 _ (hdn 1 1 rfl) rfl rfl) (Sub.nil _)), ?_⟩) ?_
        · skip
          refine .loadF rfl Try.isAgg3 rfl ((Fz.le_trans l_12 (Fz.le_trans l_26 (Fz.le_trans l_105 (Fz.le_trans l_121 l_169)))).mem _ _ hb9) rfl ?_
          exact .finV rfl rfl (Fz.le_refl _)
        refine .cons (fun L env139 F_170 l_171 hL hdn hup hphi => ⟨[(41, (.int .i64 x5.Hi))], fun S hS hV => (.cons (hV 2 41 _ (hdn 1 2 rfl) rfl rfl) (Sub.nil _)), ?_⟩) ?_
        · skip
          refine .add rfl rfl rfl ?_
          exact .finV rfl rfl (Fz.le_refl _)
        refine .cons (fun L env139 F_172 l_173 hL hdn hup hphi => ⟨[(0, (.slice p2 s1.length k3))], fun S hS hV => (.cons (hS _ _ rfl) (Sub.nil _)), ?_⟩) ?_
        · skip
          refine .move rfl rfl ?_
          exact .finV rfl rfl (Fz.le_refl _)
        refine .cons (fun L env139 F_174 l_175 hL hdn hup hphi => ⟨[(5, (.int .i64 r_13))], fun S hS hV => (.cons (hS _ _ rfl) (Sub.nil _)), ?_⟩) ?_
        · skip
          refine .move rfl rfl ?_
          exact .finV rfl rfl (Fz.le_refl _)
        refine .cons (fun L env139 F_176 l_177 hL hdn hup hphi => ⟨[(43, (.slice p2 s1.length k3)), (44, (.int .i64 r_13))], fun S hS hV => (.cons (hV 4 43 _ (hdn 1 4 rfl) rfl rfl) (.cons (hV 5 44 _ (hdn 1 5 rfl) rfl rfl) (Sub.nil _))), ?_⟩) ?_
        · skip
          refine .idxQ rfl Try.underlying81 Try.sizeOf36 hq149 rfl rfl ?_
          exact .finV rfl rfl (Fz.le_refl _)
        refine .cons (fun L env139 F_178 l_179 hL hdn hup hphi => ⟨[(45, (.pointer (some ⟨b141, o142, none⟩)))], fun S hS hV => (.cons (hV 6 45 _ (hdn 1 6 rfl) rfl rfl) (Sub.nil _)), ?_⟩) ?_
        · skip
          refine .fieldAddr rfl Try.underlying36 rfl Try.sizeOf3 rfl ?_
          exact .finV rfl rfl (Fz.le_refl _)
        refine .cons (fun L env139 F_180 l_181 hL hdn hup hphi => ⟨[(46, (.pointer (some ⟨b141, o142 + 1, none⟩)))], fun S hS hV => (.cons (hV 7 46 _ (hdn 1 7 rfl) rfl rfl) (Sub.nil _)), ?_⟩) ?_
        · skip
          refine .loadF rfl Try.isAgg3 rfl (l_181.mem _ _ hm147) (cell_of_take (k := 1) hv148 rfl) ?_
          exact .finV rfl rfl (Fz.le_refl _)
        refine .cons (fun L env139 F_182 l_183 hL hdn hup hphi => ⟨[(42, (.int .i64 (w64 (x5.Hi + 1)))), (47, (.int .i64 x140.Hi))], fun S hS hV => (.cons (hV 3 42 _ (hdn 1 3 rfl) rfl rfl) (.cons (hV 8 47 _ (hdn 1 8 rfl) rfl rfl) (Sub.nil _))), ?_⟩) ?_
        · skip
          refine .build (cs := (cApiSpan (ApiSpan.mk (w64 (x5.Hi + 1)) x140.Hi)).toArray) rfl Try.underlying36 Try.zeroValue36 (plApiSpan _ Try.underlying36) rfl rfl (by kernel_rfl) ?_
          exact .finV rfl rfl (Fz.le_refl _)
        refine .cons (fun L env139 F_184 l_185 hL hdn hup hphi => ⟨[(48, (eApiSpan (ApiSpan.mk (w64 (x5.Hi + 1)) x140.Hi)))], fun S hS hV => (.cons (hV 9 48 _ (hdn 1 9 rfl) rfl rfl) (Sub.nil _)), ?_⟩) ?_
        · skip
          refine .sliceLit (cs := [.int .i64 (ApiSpan.mk (w64 (x5.Hi + 1)) x140.Hi).Lo, .int .i64 (ApiSpan.mk (w64 (x5.Hi + 1)) x140.Hi).Hi]) (zc := [.int .i64 (ApiSpan.mk 0 0).Lo, .int .i64 (ApiSpan.mk 0 0).Hi]) rfl Try.underlying81 Try.sizeOf36 Try.zeroValue36 rfl rfl rfl (by kernel_rfl) (by kernel_rfl) (fun b186 F_187 l_188 hb189 => ?_)
          have h190 : RepSl 2 (Ex cApiSpan) F_187 (some ⟨b186, 0, none⟩) 1 ([(ApiSpan.mk (w64 (x5.Hi + 1)) x140.Hi)]) := RepSl.ofRow hb189 (.cons ok_t36.mono rfl .nil) rfl rfl
          exact .finQ ({ env139 with a := env139.a, n := (updN env139.n 100 b186), c := env139.c }) [true, true, true, true, true, true, true, true, true, true, false, false] rfl (by kernel_rfl) rfl rfl l_188 (fun _ le => h190.mono le) (cons_eq ((condF (b := updB L 10 11) (hup 1 11 rfl)).trans (condF (hup 1 11 rfl)).symm) (cons_eq rfl rfl))
        refine .cons (fun L env139 F_191 l_192 hL hdn hup hphi => ⟨[(39, (.slice p106 j103.length k107)), (49, (.slice (some ⟨env139.n 100, 0, none⟩) ([(ApiSpan.mk (w64 (x5.Hi + 1)) x140.Hi)]).length 1))], fun S hS hV => (.cons (hV 0 39 _ (hdn 1 0 rfl) rfl rfl) (.cons (hV 10 49 _ (hdn 1 10 rfl) rfl rfl) (Sub.nil _))), ?_⟩) ?_
        · skip
          have h155 := hphi 10 _ (hdn 1 10 rfl) rfl _ (Fz.le_refl _)
          refine .appendK hx160 0 ok_t36 (Fz.le_trans l_121 l_192) rfl Try.underlying81 Try.underlying81 rfl rfl (congrArg some (condF hL)) h155 rfl rfl (fun p194 k195 => ?_)
          exact .finQ ({ env139 with a := updN env139.a 110 p194, n := updN env139.n 110 k195, f := updN env139.f 110 F_191 }) [true, true, true, true, true, true, true, true, true, true, true, false] rfl (by kernel_rfl) rfl rfl (Fz.le_refl _) (fun _ le => le) (cons_eq (condT rfl) (cons_eq rfl rfl))
        exact .nil
      have h155 := hphi 10 _ rfl
      have l_163 := hphi 11 _ rfl
      refine .norm (S' := [(0, (.slice p2 s1.length k3)), (3, (.pointer (some ⟨b6, 0, none⟩))), (5, (.int .i64 r_13)), (6, (.slice p106 j103.length k107)), (39, (.slice p106 j103.length k107)), (40, (.pointer (some ⟨b6, 0 + 1, none⟩))), (41, (.int .i64 x5.Hi)), (42, (.int .i64 (w64 (x5.Hi + 1)))), (43, (.slice p2 s1.length k3)), (44, (.int .i64 r_13)), (45, (.pointer (some ⟨b141, o142, none⟩))), (46, (.pointer (some ⟨b141, o142 + 1, none⟩))), (47, (.int .i64 x140.Hi)), (48, (eApiSpan (ApiSpan.mk (w64 (x5.Hi + 1)) x140.Hi))), (49, (.slice (some ⟨env139.n 100, 0, none⟩) ([(ApiSpan.mk (w64 (x5.Hi + 1)) x140.Hi)]).length 1)), (50, (.slice (env139.a 110) l_156.length (env139.n 110)))]) (.cons (k := 0) rfl (.cons (k := 3) rfl (.cons (k := 5) rfl (.cons (k := 6) rfl (.cons (k := 39) rfl (.cons (k := 40) rfl (.cons (k := 41) rfl (.cons (k := 42) rfl (.cons (k := 43) rfl (.cons (k := 44) rfl (.cons (k := 45) rfl (.cons (k := 46) rfl (.cons (k := 47) rfl (.cons (k := 48) rfl (.cons (k := 49) rfl (.cons (k := 50) rfl (.nil _))))))))))))))))) (rfl : _ = [ownSl 2 (Ex cApiSpan) (env139.f 110) 36 (env139.a 110) (env139.n 110) l_156, R]) ?_
      refine .assign rfl rfl ?_
      refine .nil ?_
      refine .ownUp 0 l_163 rfl ?_
      exact .nil fun e a w h => by cases e; exact ⟨rfl, ⟨F_161, (env139.a 110), (env139.n 110), l_162, h.1.sub (.cons (k := 0) rfl (.cons (k := 5) rfl (.cons (k := 6) rfl (.nil _)))), h.2⟩⟩
    · skip
      refine .skip ?_
      refine .ownUp 0 l_121 rfl ?_
      exact .nil fun e a w h => by cases e; exact ⟨rfl, ⟨F_119, p106, k107, (Fz.le_refl _), h.1.sub (.cons (k := 0) rfl (.cons (k := 5) rfl (.cons (k := 6) rfl (.nil _)))), h.2⟩⟩
  refine .code ?_
  refine .seq ?_
  refine .region ?_
  refine .move rfl rfl ?_
  refine .lenS rfl rfl Try.underlying81 rfl ?_
  refine .add rfl rfl rfl ?_
  refine .makeSlice (z := (ApiSpan.mk 0 0)) ok_t36 rfl Try.underlying81 Try.zeroValue36 (fun _ _ => rfl) rfl rfl (fun n_203 b204 _ => ?_)
  refine .assign rfl rfl ?_
  refine .nil ?_
  refine .code ?_
  refine .seq ?_
  refine .region ?_
  refine .move rfl rfl ?_
  refine .move rfl rfl ?_
  refine .move rfl rfl ?_
  refine .move rfl rfl ?_
  refine .sliceHiM rfl Try.underlying81 Try.sizeOf36 (h4.mono (Fz.le_trans l_8 (Fz.le_trans l_12 (Fz.le_trans l_26 (Fz.le_trans l_105 (Fz.le_trans l_121 l_199)))))) rfl rfl rfl (fun l_206 p207 k208 e209 h210 => ?_)
  refine .append 0 ok_t36 (Fz.le_refl _) rfl Try.underlying81 Try.underlying81 rfl rfl rfl h210 rfl rfl (fun l_211 p212 k213 e214 => ?_)
  refine .assign rfl rfl ?_
  refine .nil ?_
  refine .code ?_
  refine .seq ?_
  refine .region ?_
  refine .move rfl rfl ?_
  refine .move rfl rfl ?_
  refine .freezeSl 1 rfl (Fz.le_refl _) (fun F_215 l_216 h217 => ?_)
  refine .append 0 ok_t36 l_216 rfl Try.underlying81 Try.underlying81 rfl rfl rfl h217 rfl rfl (fun l_218 p219 k220 e221 => ?_)
  refine .assign rfl rfl ?_
  refine .nil ?_
  refine .code ?_
  refine .seq ?_
  refine .region ?_
  refine .move rfl rfl ?_
  refine .move rfl rfl ?_
  refine .move rfl rfl ?_
  refine .add rfl rfl rfl ?_
  refine .sliceLo rfl Try.underlying81 Try.sizeOf36 (h4.mono (Fz.le_trans l_8 (Fz.le_trans l_12 (Fz.le_trans l_26 (Fz.le_trans l_105 (Fz.le_trans l_121 (Fz.le_trans l_199 l_216))))))) rfl rfl (fun l_222 p223 k224 e225 h226 => ?_)
  refine .append 0 ok_t36 (Fz.le_refl _) rfl Try.underlying81 Try.underlying81 rfl rfl rfl h226 rfl rfl (fun l_227 p228 k229 e230 => ?_)
  refine .assign rfl rfl ?_
  refine .nil ?_
  refine .code ?_
  refine .freezeSl 0 rfl (Fz.le_refl _) (fun F_231 l_232 h233 => ?_)
  exact .ret0 Try.results37 (.tmp rfl (.nil)) (i := 0) rfl (Fz.le_trans l_8 (Fz.le_trans l_12 (Fz.le_trans l_26 (Fz.le_trans l_105 (Fz.le_trans l_121 (Fz.le_trans l_199 (Fz.le_trans l_216 l_232))))))) ⟨p228, k229, rfl, h233⟩

noncomputable def m_slices_Clone_Span (s1 : (List ApiSpan)) : Option (List ApiSpan) :=
  (appO ([]) s1).bind fun l_8 => some l_8
theorem c_slices_Clone_Span (F0 : Fz) (s1 : (List ApiSpan)) (p2 : Option Addr) (k3 : Nat) (h4 : RepSl 2 (Ex cApiSpan) F0 p2 k3 s1) : CT0 Try.prog 38 [(.slice p2 s1.length k3)].toArray F0 (m_slices_Clone_Span s1) (fun r F v => ∃ p0 k0, v = (.slice p0 r.length k0) ∧ RepSl 2 (Ex cApiSpan) F p0 k0 r) := by
  refine CT0.enter Try.func38 rfl Try.ntmps38 rfl fun r R => ?_
  unfold m_slices_Clone_Span
  refine .seq ?_
  refine .region ?_
  refine .assign rfl rfl ?_
  refine .nil ?_
  refine .code ?_
  refine .seq ?_
  refine .seq ?_
  refine .region ?_
  refine .move rfl rfl ?_
  refine .eqlNil rfl Try.underlying81 rfl rfl ?_
  refine .nil ?_
  refine .code ?_
  rcases p2 with _ | _
  · skip
    have h5 := h4.isNil
    subst h5
    refine .condT rfl ?_
    refine .seq ?_
    refine .region ?_
    refine .assign rfl rfl ?_
    refine .nil ?_
    refine .code ?_
    exact .ret0 Try.results38 (.tmp rfl (.nil)) (i := 0) rfl (Fz.le_refl _) ⟨none, 0, rfl, RepSl.nil⟩
  · skip
    refine .condF rfl ?_
    refine .skip ?_
    refine .code ?_
    refine .seq ?_
    refine .region ?_
    refine .sliceOwn0 (Ex cApiSpan) rfl Try.underlying81 Try.sizeOf36 (fun b6 => ?_)
    refine .move rfl rfl ?_
    refine .append 0 ok_t36 (Fz.le_refl _) rfl Try.underlying81 Try.underlying81 rfl rfl rfl h4 rfl rfl (fun l_8 p9 k10 e11 => ?_)
    refine .assign rfl rfl ?_
    refine .nil ?_
    refine .code ?_
    refine .freezeSl 0 rfl (Fz.le_refl _) (fun F_12 l_13 h14 => ?_)
    exact .ret0 Try.results38 (.tmp rfl (.nil)) (i := 0) rfl l_13 ⟨p9, k10, rfl, h14⟩

noncomputable def b_bottle_Stamps_1 (l_1 : (List ApiStampEvent)) (s10 : Int × ApiStampBook × BottlePile × Int) : Option (Ctl (Int × ApiStampBook × BottlePile × Int) ((ApiStampBook × BottlePile × Int) ⊕ (ApiStampBook × Int × Int))) :=
  if (decide (s10.1 < (l_1.length : Int))) then ((idxL l_1 s10.1).bind fun x23 => if (!(m_bottle_isStamp x23)) then (some (.done (.inr ((ApiStampBook.mk ([]) 0 0 0), s10.1, 1)))) else ((if (x23.Kind == 0) then ((m_bottle_spans_overlaps s10.2.2.1.issued (ApiSpan.mk x23.First x23.Last)).bind fun r_41 => some r_41) else some false).bind fun z45 => if z45 then (some (.done (.inr ((ApiStampBook.mk ([]) 0 0 0), s10.1, 5)))) else (if (x23.Kind == 0) then ((m_bottle_spans_with s10.2.2.1.issued (ApiSpan.mk x23.First x23.Last)).bind fun r_52 => (m_bottle_spans_with s10.2.2.1.hand (ApiSpan.mk x23.First x23.Last)).bind fun r_60 => bindv ({ ({ s10.2.2.1 with issued := r_52 }) with hand := r_60 }) fun x100 => some (.next ((w64 (s10.1 + 1)), s10.2.1, x100, s10.2.2.2))) else ((m_bottle_spans_covers s10.2.2.1.hand (ApiSpan.mk x23.First x23.Last)).bind fun r_106 => if (!r_106) then (some (.done (.inr ((ApiStampBook.mk ([]) 0 0 0), s10.1, 4)))) else ((m_bottle_spans_without s10.2.2.1.hand (ApiSpan.mk x23.First x23.Last)).bind fun r_110 => bindv ({ s10.2.2.1 with hand := r_110 }) fun x114 => (idxO 4 x23.Kind).bind fun j118 => if (j118 == 0) then (some (.next ((w64 (s10.1 + 1)), s10.2.1, x114, (w64 (s10.2.2.2 + (w64 ((w64 (((ApiSpan.mk x23.First x23.Last).Hi) - ((ApiSpan.mk x23.First x23.Last).Lo))) + 1))))))) else if (j118 == 1) then (bindv ({ s10.2.1 with Stuck := (w64 (s10.2.1.Stuck + (w64 ((w64 (((ApiSpan.mk x23.First x23.Last).Hi) - ((ApiSpan.mk x23.First x23.Last).Lo))) + 1)))) }) fun x180 => some (.next ((w64 (s10.1 + 1)), x180, x114, s10.2.2.2))) else if (j118 == 2) then (bindv ({ s10.2.1 with Spoiled := (w64 (s10.2.1.Spoiled + (w64 ((w64 (((ApiSpan.mk x23.First x23.Last).Hi) - ((ApiSpan.mk x23.First x23.Last).Lo))) + 1)))) }) fun x213 => some (.next ((w64 (s10.1 + 1)), x213, x114, s10.2.2.2))) else (bindv ({ s10.2.1 with Returned := (w64 (s10.2.1.Returned + (w64 ((w64 (((ApiSpan.mk x23.First x23.Last).Hi) - ((ApiSpan.mk x23.First x23.Last).Lo))) + 1)))) }) fun x245 => some (.next ((w64 (s10.1 + 1)), x245, x114, s10.2.2.2)))))))) else (some (.done (.inl (s10.2.1, s10.2.2.1, s10.2.2.2))))
noncomputable def m_bottle_Stamps (l_1 : (List ApiStampEvent)) : Option (ApiStampBook × Int × Int) :=
  if (decide ((l_1.length : Int) > 256)) then (some ((ApiStampBook.mk ([]) 0 0 0), 0, 3)) else ((loopM (b_bottle_Stamps_1 l_1) (0, (ApiStampBook.mk ([]) 0 0 0), (BottlePile.mk ([]) ([])), 0)).bind fun b0 => match b0 with | .inl b248 => ((m_slices_Clone_Span b248.2.1.hand).bind fun r_267 => bindv ({ b248.1 with Hand := r_267 }) fun x271 => bindv (l_1.length : Int) fun index274 => some (x271, index274, 0)) | .inr b248 => (some (b248.1, b248.2.1, b248.2.2)))
theorem c_bottle_Stamps (F0 : Fz) (l_1 : (List ApiStampEvent)) (p2 : Option Addr) (k3 : Nat) (h4 : RepSl 4 (Ex cApiStampEvent) F0 p2 k3 l_1) : CT0 Try.prog 12 [(.slice p2 l_1.length k3)].toArray F0 (m_bottle_Stamps l_1) (fun r F v => ∃ p0 k0, v = .tuple #[(eApiStampBook r.1 p0 k0), (.int .i64 r.2.1), (.int .i64 r.2.2)] ∧ RepSl 2 (Ex cApiSpan) F p0 k0 r.1.Hand) := by
  refine CT0.enter Try.func12 rfl Try.ntmps12 rfl fun r R => ?_
  unfold m_bottle_Stamps
  refine .seq ?_
  refine .region ?_
  refine .alloc (cs := (cApiStampBook (ApiStampBook.mk ([]) 0 0 0) none 0)) rfl Try.zeroValue26 rfl (fun b5 => ?_)
  refine .assign rfl rfl ?_
  refine .assign rfl rfl ?_
  refine .nil ?_
  refine .code ?_
  refine .seq ?_
  refine .seq ?_
  refine .region ?_
  refine .move rfl rfl ?_
  refine .lenS rfl rfl Try.underlying22 rfl ?_
  refine .gtr rfl rfl rfl ?_
  refine .nil ?_
  refine .code ?_
  refine .cond rfl (fun hb6 => ?_) (fun hb6 => ?_)
  · skip
    refine .seq ?_
    refine .region ?_
    refine .loadOA rfl Try.isAgg26 Try.sizeOf26 rfl (i := 0) rfl (vs := (cApiStampBook (ApiStampBook.mk ([]) 0 0 0) none 0)) (by kernel_rfl) rfl ?_
    refine .store (cs' := (cApiStampBook (ApiStampBook.mk ([]) 0 0 0) none 0)) Try.sizeOf26 rfl rfl rfl rfl (i := 0) rfl (Nat.le_of_ble_eq_true rfl) rfl (setMany_all (by rfl)) ?_
    refine .assign rfl rfl ?_
    refine .assign rfl rfl ?_
    refine .nil ?_
    refine .code ?_
    exact .ret0 Try.results12 (.agg rfl Try.isAgg26 Try.sizeOf26 (i := 0) rfl (vs' := (cApiStampBook (ApiStampBook.mk ([]) 0 0 0) none 0)) (by kernel_rfl) rfl (.tmp rfl (.tmp rfl (.nil)))) (i := 1) rfl (Fz.le_refl _) ⟨none, 0, rfl, RepSl.nil⟩
  · skip
    refine .skip ?_
    refine .code ?_
    refine .seq ?_
    refine .region ?_
    refine .alloc (cs := (cBottlePile (BottlePile.mk ([]) ([])) none 0 none 0)) rfl Try.zeroValue83 rfl (fun b7 => ?_)
    refine .nil ?_
    refine .code ?_
    refine .seq ?_
    refine .region ?_
    refine .alloc (cs := [(.int .i64 0)]) rfl Try.zeroValue3 rfl (fun b8 => ?_)
    refine .fieldAddr rfl Try.underlying26 rfl Try.sizeOf3 rfl ?_
    refine .fieldAddr rfl Try.underlying26 rfl Try.sizeOf3 rfl ?_
    refine .fieldAddr rfl Try.underlying26 rfl Try.sizeOf3 rfl ?_
    refine .buildA (cs := [.pointer (some ⟨b8, 0, none⟩), .pointer (some ⟨b5, 0 + 1, none⟩), .pointer (some ⟨b5, 0 + 2, none⟩), .pointer (some ⟨b5, 0 + 3, none⟩)].toArray) rfl Try.underlying85 Try.zeroValue85 Try.sizeOf84 rfl rfl (by kernel_rfl) ?_
    refine .alloc (cs := [.pointer none, .pointer none, .pointer none, .pointer none]) rfl Try.zeroValue85 rfl (fun b9 => ?_)
    refine .store (cs' := [.pointer (some ⟨b8, 0, none⟩), .pointer (some ⟨b5, 0 + 1, none⟩), .pointer (some ⟨b5, 0 + 2, none⟩), .pointer (some ⟨b5, 0 + 3, none⟩)]) Try.sizeOf85 rfl rfl rfl rfl (i := 0) rfl (Nat.le_of_ble_eq_true rfl) rfl (setMany_all (by rfl)) ?_
    refine .nil ?_
    refine .code ?_
    refine .seq ?_
    refine .seq ?_
    refine .region ?_
    refine .move rfl rfl ?_
    refine .lenS rfl rfl Try.underlying22 rfl ?_
    refine .move rfl rfl ?_
    refine .nil ?_
    refine .code ?_
    refine .block ?_
    refine .keep (.cons (k := 0) rfl (.cons (k := 2) rfl (.cons (k := 5) rfl (.cons (k := 6) rfl (.cons (k := 19) rfl (.cons (k := 20) rfl (.cons (k := 21) rfl (.nil _)))))))) ?_
    refine .loop (fun (s10 : Int × ApiStampBook × BottlePile × Int) a w => ∃ (F_11 : Fz) (p13 : Option Addr) (k14 : Nat) (p16 : Option Addr) (k17 : Nat) (p19 : Option Addr) (k20 : Nat), F0 ≤ F_11 ∧ RepSl 2 (Ex cApiSpan) F_11 p13 k14 s10.2.1.Hand ∧ RepSl 2 (Ex cApiSpan) F_11 p16 k17 s10.2.2.1.issued ∧ RepSl 2 (Ex cApiSpan) F_11 p19 k20 s10.2.2.1.hand ∧ Hd 98 [] [(0, (.slice p2 l_1.length k3)), (2, (.pointer (some ⟨b5, 0, none⟩))), (5, (.pointer (some ⟨b7, 0, none⟩))), (6, (.pointer (some ⟨b9, 0, none⟩))), (19, (.slice p2 l_1.length k3)), (20, (.int .i64 (l_1.length : Int))), (21, (.int .i64 s10.1))] F_11 [pt b9 (.cells [.pointer (some ⟨b8, 0, none⟩), .pointer (some ⟨b5, 0 + 1, none⟩), .pointer (some ⟨b5, 0 + 2, none⟩), .pointer (some ⟨b5, 0 + 3, none⟩)].toArray 85), pt b8 (.cells [(.int .i64 s10.2.2.2)].toArray 3), pt b7 (.cells (cBottlePile s10.2.2.1 p16 k17 p19 k20).toArray 83), pt b5 (.cells (cApiStampBook s10.2.1 p13 k14).toArray 26), R] a w) (fun b0 e a w => match b0 with | .inl b248 => e = .exit 0 ∧ ∃ (F_249 : Fz) (p251 : Option Addr) (k252 : Nat) (p254 : Option Addr) (k255 : Nat) (p257 : Option Addr) (k258 : Nat), F0 ≤ F_249 ∧ RepSl 2 (Ex cApiSpan) F_249 p251 k252 b248.1.Hand ∧ RepSl 2 (Ex cApiSpan) F_249 p254 k255 b248.2.1.issued ∧ RepSl 2 (Ex cApiSpan) F_249 p257 k258 b248.2.1.hand ∧ Hd 98 [] [(0, (.slice p2 l_1.length k3)), (2, (.pointer (some ⟨b5, 0, none⟩))), (5, (.pointer (some ⟨b7, 0, none⟩)))] F_249 [pt b9 (.cells [.pointer (some ⟨b8, 0, none⟩), .pointer (some ⟨b5, 0 + 1, none⟩), .pointer (some ⟨b5, 0 + 2, none⟩), .pointer (some ⟨b5, 0 + 3, none⟩)].toArray 85), pt b8 (.cells [(.int .i64 b248.2.2)].toArray 3), pt b7 (.cells (cBottlePile b248.2.1 p254 k255 p257 k258).toArray 83), pt b5 (.cells (cApiStampBook b248.1 p251 k252).toArray 26), R] a w | .inr b248 => e = .ret ∧ ∃ (F_260 : Fz) (p262 : Option Addr) (k263 : Nat), F0 ≤ F_260 ∧ RepSl 2 (Ex cApiSpan) F_260 p262 k263 b248.1.Hand ∧ Hd 98 [] [(2, (.pointer (some ⟨b5, 0, none⟩))), (3, (.int .i64 b248.2.1)), (4, (.int .i64 b248.2.2))] F_260 [pt b5 (.cells (cApiStampBook b248.1 p262 k263).toArray 26), R] a w) ?_ ?_ ?_
    · exact fun a w h => ⟨F0, none, 0, none, 0, none, 0, (Fz.le_refl _), RepSl.nil, RepSl.nil, RepSl.nil, h.1.sub (.cons (k := 0) rfl (.cons (k := 2) rfl (.cons (k := 5) rfl (.cons (k := 6) rfl (.cons (k := 19) rfl (.cons (k := 20) rfl (.cons (k := 21) rfl (.nil _)))))))), h.2⟩
    · intro s10 ctl
      refine GC.ex (fun a w ⟨F_11, p13, k14, p16, k17, p19, k20, l_12, h15, h18, h21, hA⟩ => ⟨_, hA, ?_⟩)
      unfold b_bottle_Stamps_1
      refine .seq ?_
      refine .region ?_
      refine .lss rfl rfl rfl ?_
      refine .nil ?_
      refine .code ?_
      refine .seq ?_
      refine .cond rfl (fun hb22 => ?_) (fun hb22 => ?_)
      · skip
        refine .skip ?_
        refine .code ?_
        refine .seq ?_
        refine .block ?_
        refine .seq ?_
        refine .region ?_
        refine .move rfl rfl ?_
        refine .idx rfl Try.underlying22 Try.sizeOf70 (h4.mono l_12) rfl rfl (fun x23 b24 o25 T26 fr27 cs28 e29 hm30 hv31 => ?_)
        refine .loadFA rfl Try.isAgg70 Try.sizeOf70 rfl hm30 hv31 rfl ?_
        refine .alloc (cs := (cApiStampEvent (ApiStampEvent.mk 0 0 0 0))) rfl Try.zeroValue70 rfl (fun b33 => ?_)
        refine .assign rfl rfl ?_
        refine .store (cs' := (cApiStampEvent x23)) Try.sizeOf70 rfl rfl rfl rfl (i := 0) rfl (Nat.le_of_ble_eq_true rfl) rfl (setMany_all (by rfl)) ?_
        refine .nil ?_
        refine .code ?_
        refine .seq ?_
        refine .region ?_
        refine .fieldAddr rfl Try.underlying70 rfl Try.sizeOf3 rfl ?_
        refine .loadO rfl Try.isAgg3 rfl (i := 0) rfl rfl ?_
        refine .fieldAddr rfl Try.underlying70 rfl Try.sizeOf3 rfl ?_
        refine .loadO rfl Try.isAgg3 rfl (i := 0) rfl rfl ?_
        refine .build (cs := (cApiSpan (ApiSpan.mk x23.First x23.Last)).toArray) rfl Try.underlying36 Try.zeroValue36 (plApiSpan _ Try.underlying36) rfl rfl (by kernel_rfl) ?_
        refine .alloc (cs := (cApiSpan (ApiSpan.mk 0 0))) rfl Try.zeroValue36 rfl (fun b34 => ?_)
        refine .store (cs' := (cApiSpan (ApiSpan.mk x23.First x23.Last))) Try.sizeOf36 rfl rfl rfl rfl (i := 0) rfl (Nat.le_of_ble_eq_true rfl) rfl (setMany_all (by rfl)) ?_
        refine .nil ?_
        refine .code ?_
        refine .block ?_
        refine .seq ?_
        refine .region ?_
        refine .loadOA rfl Try.isAgg70 Try.sizeOf70 rfl (i := 1) rfl (vs := (cApiStampEvent x23)) (by kernel_rfl) rfl ?_
        refine .callP rfl Try.call33 rfl rfl rfl (c_bottle_isStamp _ x23) ?_
        rintro F_35 _ l_36 rfl
        refine .not rfl rfl ?_
        refine .assign rfl rfl ?_
        refine .nil ?_
        refine .code ?_
        refine .cond rfl (fun hb37 => ?_) (fun hb37 => ?_)
        · skip
          refine .seq ?_
          refine .region ?_
          refine .build (cs := (cApiStampBook (ApiStampBook.mk ([]) 0 0 0) none 0).toArray) rfl Try.underlying26 Try.zeroValue26 (plApiStampBook _ Try.underlying26) rfl rfl (by kernel_rfl) ?_
          refine .move rfl rfl ?_
          refine .store (cs' := (cApiStampBook (ApiStampBook.mk ([]) 0 0 0) none 0)) Try.sizeOf26 rfl rfl rfl rfl (i := 5) rfl (Nat.le_of_ble_eq_true rfl) rfl (setMany_all (by rfl)) ?_
          refine .assign rfl rfl ?_
          refine .assign rfl rfl ?_
          refine .nil ?_
          refine .keep (.cons (k := 2) rfl (.cons (k := 3) rfl (.cons (k := 4) rfl (.nil _)))) ?_
          refine .code ?_
          refine .drop 4 ?_
          refine .drop 3 ?_
          refine .drop 2 ?_
          refine .drop 1 ?_
          refine .drop 0 ?_
          refine .retQ (LPost.ret fun a w h => ⟨rfl, F_35, none, 0, (Fz.le_trans l_12 l_36), (RepSl.nil.mono (Fz.le_trans l_12 l_36)), h.1.sub (.cons (k := 2) rfl (.cons (k := 3) rfl (.cons (k := 4) rfl (.nil _)))), h.2⟩)
        · skip
          refine .seq ?_
          refine .region ?_
          refine .fieldAddr rfl Try.underlying70 rfl Try.sizeOf3 rfl ?_
          refine .loadO rfl Try.isAgg3 rfl (i := 1) rfl rfl ?_
          refine .eql rfl rfl rfl ?_
          refine .move rfl rfl ?_
          refine .andM (b := (x23.Kind == 0)) 5 65 (fun hb38 z46 => ?_) (fun hb42 => ?_) (fun z45 F_43 l_44 => ?_)
          · skip
            refine .onH hb38 rfl rfl ?_
            refine .fieldAddr rfl Try.underlying83 rfl Try.sizeOf81 rfl ?_
            refine .onH hb38 rfl rfl ?_
            refine .loadO rfl Try.isAgg81 rfl (i := 4) rfl rfl ?_
            refine .onH hb38 rfl rfl ?_
            refine .loadOA rfl Try.isAgg36 Try.sizeOf36 rfl (i := 0) rfl (vs := (cApiSpan (ApiSpan.mk x23.First x23.Last))) (by kernel_rfl) rfl ?_
            refine .onH hb38 rfl rfl ?_
            refine .call0 rfl Try.call34 rfl rfl rfl (c_bottle_spans_overlaps _ s10.2.2.1.issued p16 k17 (h18.mono l_36) (ApiSpan.mk x23.First x23.Last)) ?_
            rintro r_41 F_39 _ - l_40 rfl
            refine .pickTH hb38 rfl rfl rfl ?_
            exact .finZ 5 rfl rfl (by kernel_rfl) l_40
          · skip
            refine .offH hb42 rfl rfl rfl ?_
            refine .offH hb42 rfl rfl rfl ?_
            refine .offH hb42 rfl rfl rfl ?_
            refine .offH hb42 rfl rfl rfl ?_
            refine .pickFH hb42 rfl rfl rfl ?_
            exact .fin 5 rfl rfl (by kernel_rfl) (Fz.le_refl _)
          refine .assign rfl rfl ?_
          refine .nil ?_
          refine .keep (.cons (k := 0) rfl (.cons (k := 2) rfl (.cons (k := 5) rfl (.cons (k := 6) rfl (.cons (k := 7) rfl (.cons (k := 8) rfl (.cons (k := 9) rfl (.cons (k := 19) rfl (.cons (k := 20) rfl (.cons (k := 21) rfl (.cons (k := 56) rfl (.nil _)))))))))))) ?_
          refine .code ?_
          refine .cond rfl (fun hb47 => ?_) (fun hb47 => ?_)
          · skip
            refine .seq ?_
            refine .region ?_
            refine .build (cs := (cApiStampBook (ApiStampBook.mk ([]) 0 0 0) none 0).toArray) rfl Try.underlying26 Try.zeroValue26 (plApiStampBook _ Try.underlying26) rfl rfl (by kernel_rfl) ?_
            refine .move rfl rfl ?_
            refine .store (cs' := (cApiStampBook (ApiStampBook.mk ([]) 0 0 0) none 0)) Try.sizeOf26 rfl rfl rfl rfl (i := 5) rfl (Nat.le_of_ble_eq_true rfl) rfl (setMany_all (by rfl)) ?_
            refine .assign rfl rfl ?_
            refine .assign rfl rfl ?_
            refine .nil ?_
            refine .code ?_
            refine .drop 4 ?_
            refine .drop 3 ?_
            refine .drop 2 ?_
            refine .drop 1 ?_
            refine .drop 0 ?_
            refine .retQ (LPost.ret fun a w h => ⟨rfl, F_43, none, 0, (Fz.le_trans l_12 (Fz.le_trans l_36 l_44)), (RepSl.nil.mono (Fz.le_trans l_12 (Fz.le_trans l_36 l_44))), h.1.sub (.cons (k := 2) rfl (.cons (k := 3) rfl (.cons (k := 4) rfl (.nil _)))), h.2⟩)
          · skip
            refine .seq ?_
            refine .region ?_
            refine .fieldAddr rfl Try.underlying70 rfl Try.sizeOf3 rfl ?_
            refine .loadO rfl Try.isAgg3 rfl (i := 1) rfl rfl ?_
            refine .eql rfl rfl rfl ?_
            refine .assign rfl rfl ?_
            refine .nil ?_
            refine .code ?_
            refine .cond rfl (fun hb48 => ?_) (fun hb48 => ?_)
            · skip
              refine .keep (.cons (k := 0) rfl (.cons (k := 2) rfl (.cons (k := 5) rfl (.cons (k := 6) rfl (.cons (k := 9) rfl (.cons (k := 19) rfl (.cons (k := 20) rfl (.cons (k := 21) rfl (.nil _))))))))) ?_
              refine .bind (fun r_52 hx57 => ?_)
              refine .bind (fun r_60 hx65 => ?_)
              refine .drawG 10 0 (fun env49 => [((.pointer (some ⟨b7, 0 + 0, none⟩)), fun _ => True), ((.slice p16 s10.2.2.1.issued.length k17), fun _ => True), ((eApiSpan (ApiSpan.mk x23.First x23.Last)), fun _ => True), ((.slice (env49.a 30) r_52.length (env49.n 30)), fun G => RepSl 2 (Ex cApiSpan) G (env49.a 30) (env49.n 30) r_52), ((.pointer (some ⟨b7, 0 + 1, none⟩)), fun _ => True), ((.slice p19 s10.2.2.1.hand.length k20), fun _ => True), ((eApiSpan (ApiSpan.mk x23.First x23.Last)), fun _ => True), ((.slice (env49.a 70) r_60.length (env49.n 70)), fun G => RepSl 2 (Ex cApiSpan) G (env49.a 70) (env49.n 70) r_60), ((.pointer (some ⟨b7, 0 + 0, none⟩)), fun _ => True), (undef, fun _ => True)]) (fun L env49 => [pt b34 (.cells (cApiSpan (ApiSpan.mk x23.First x23.Last)).toArray 36), pt b33 (.cells (cApiStampEvent x23).toArray 70), pt b9 (.cells [.pointer (some ⟨b8, 0, none⟩), .pointer (some ⟨b5, 0 + 1, none⟩), .pointer (some ⟨b5, 0 + 2, none⟩), .pointer (some ⟨b5, 0 + 3, none⟩)].toArray 85), pt b8 (.cells [(.int .i64 s10.2.2.2)].toArray 3), (bif L 9 then (pt b7 (.cells (cBottlePile ({ s10.2.2.1 with issued := r_52 }) (env49.a 30) (env49.n 30) p19 k20).toArray 83)) else (pt b7 (.cells (cBottlePile s10.2.2.1 p16 k17 p19 k20).toArray 83))), pt b5 (.cells (cApiStampBook s10.2.1 p13 k14).toArray 26), R]) mixedOK (by kernel_rfl) (by kernel_rfl) rfl (fun _ => rfl) (by kernel_rfl) (fun _ => rfl) ?_ (fun env49 F_68 l_69 hphi => ?_)
              · skip
                refine .cons (fun L env49 F_70 l_71 hL hdn hup hphi => ⟨[(5, (.pointer (some ⟨b7, 0, none⟩)))], fun S hS hV => (.cons (hS _ _ rfl) (Sub.nil _)), ?_⟩) ?_
                · skip
                  refine .fieldAddr rfl Try.underlying83 rfl Try.sizeOf81 rfl ?_
                  exact .finV rfl rfl (Fz.le_refl _)
                refine .cons (fun L env49 F_72 l_73 hL hdn hup hphi => ⟨[(72, (.pointer (some ⟨b7, 0 + 0, none⟩)))], fun S hS hV => (.cons (hV 0 72 _ (hdn 1 0 rfl) rfl rfl) (Sub.nil _)), ?_⟩) ?_
                · skip
                  refine .loadO rfl Try.isAgg81 rfl (i := 4) (congrArg some (condF (hup 1 9 rfl))) rfl ?_
                  exact .finV rfl rfl (Fz.le_refl _)
                refine .cons (fun L env49 F_74 l_75 hL hdn hup hphi => ⟨[(9, (.pointer (some ⟨b34, 0, none⟩)))], fun S hS hV => (.cons (hS _ _ rfl) (Sub.nil _)), ?_⟩) ?_
                · skip
                  refine .loadOA rfl Try.isAgg36 Try.sizeOf36 rfl (i := 0) rfl (vs := (cApiSpan (ApiSpan.mk x23.First x23.Last))) (by kernel_rfl) rfl ?_
                  exact .finV rfl rfl (Fz.le_refl _)
                refine .cons (fun L env49 F_76 l_77 hL hdn hup hphi => ⟨[(73, (.slice p16 s10.2.2.1.issued.length k17)), (74, (eApiSpan (ApiSpan.mk x23.First x23.Last)))], fun S hS hV => (.cons (hV 1 73 _ (hdn 1 1 rfl) rfl rfl) (.cons (hV 2 74 _ (hdn 1 2 rfl) rfl rfl) (Sub.nil _))), ?_⟩) ?_
                · skip
                  refine .callK hx57 rfl Try.call35 rfl rfl rfl (c_bottle_spans_with _ s10.2.2.1.issued p16 k17 (h18.mono (Fz.le_trans l_36 (Fz.le_trans l_44 l_77))) (ApiSpan.mk x23.First x23.Last)) ?_
                  rintro F_78 _ l_79 ⟨p80, k81, rfl, h82⟩
                  exact .finQ ({ env49 with a := (updN env49.a 30 p80), n := (updN env49.n 30 k81), c := env49.c }) [true, true, true, false, true, true, true, false, false, false] rfl (by kernel_rfl) rfl rfl l_79 (fun _ le => h82.mono le) (cons_eq rfl (cons_eq rfl (cons_eq rfl (cons_eq rfl (cons_eq ((condF (b := updB L 3 9) (hup 1 9 rfl)).trans (condF (hup 1 9 rfl)).symm) (cons_eq rfl (cons_eq rfl rfl)))))))
                refine .cons (fun L env49 F_83 l_84 hL hdn hup hphi => ⟨[(5, (.pointer (some ⟨b7, 0, none⟩)))], fun S hS hV => (.cons (hS _ _ rfl) (Sub.nil _)), ?_⟩) ?_
                · skip
                  refine .fieldAddr rfl Try.underlying83 rfl Try.sizeOf81 rfl ?_
                  exact .finV rfl rfl (Fz.le_refl _)
                refine .cons (fun L env49 F_85 l_86 hL hdn hup hphi => ⟨[(76, (.pointer (some ⟨b7, 0 + 1, none⟩)))], fun S hS hV => (.cons (hV 4 76 _ (hdn 1 4 rfl) rfl rfl) (Sub.nil _)), ?_⟩) ?_
                · skip
                  refine .loadO rfl Try.isAgg81 rfl (i := 4) (congrArg some (condF (hup 1 9 rfl))) rfl ?_
                  exact .finV rfl rfl (Fz.le_refl _)
                refine .cons (fun L env49 F_87 l_88 hL hdn hup hphi => ⟨[(9, (.pointer (some ⟨b34, 0, none⟩)))], fun S hS hV => (.cons (hS _ _ rfl) (Sub.nil _)), ?_⟩) ?_
                · skip
                  refine .loadOA rfl Try.isAgg36 Try.sizeOf36 rfl (i := 0) rfl (vs := (cApiSpan (ApiSpan.mk x23.First x23.Last))) (by kernel_rfl) rfl ?_
                  exact .finV rfl rfl (Fz.le_refl _)
                refine .cons (fun L env49 F_89 l_90 hL hdn hup hphi => ⟨[(77, (.slice p19 s10.2.2.1.hand.length k20)), (78, (eApiSpan (ApiSpan.mk x23.First x23.Last)))], fun S hS hV => (.cons (hV 5 77 _ (hdn 1 5 rfl) rfl rfl) (.cons (hV 6 78 _ (hdn 1 6 rfl) rfl rfl) (Sub.nil _))), ?_⟩) ?_
                · skip
                  have h56 := hphi 3 _ (hdn 1 3 rfl) rfl _ (Fz.le_refl _)
                  refine .callK hx65 rfl Try.call35 rfl rfl rfl (c_bottle_spans_with _ s10.2.2.1.hand p19 k20 (h21.mono (Fz.le_trans l_36 (Fz.le_trans l_44 l_90))) (ApiSpan.mk x23.First x23.Last)) ?_
                  rintro F_91 _ l_92 ⟨p93, k94, rfl, h95⟩
                  exact .finQ ({ env49 with a := (updN env49.a 70 p93), n := (updN env49.n 70 k94), c := env49.c }) [true, true, true, true, true, true, true, false, true, false] rfl (by kernel_rfl) rfl rfl l_92 (fun _ le => h95.mono le) (cons_eq rfl (cons_eq rfl (cons_eq rfl (cons_eq rfl (cons_eq ((condF (b := updB L 7 9) (hup 1 9 rfl)).trans (condF (hup 1 9 rfl)).symm) (cons_eq rfl (cons_eq rfl rfl)))))))
                refine .cons (fun L env49 F_96 l_97 hL hdn hup hphi => ⟨[(5, (.pointer (some ⟨b7, 0, none⟩)))], fun S hS hV => (.cons (hS _ _ rfl) (Sub.nil _)), ?_⟩) ?_
                · skip
                  have h56 := hphi 3 _ (hdn 1 3 rfl) rfl _ (Fz.le_refl _)
                  refine .fieldAddr rfl Try.underlying83 rfl Try.sizeOf81 rfl ?_
                  exact .finV rfl rfl (Fz.le_refl _)
                refine .cons (fun L env49 F_98 l_99 hL hdn hup hphi => ⟨[(75, (.slice (env49.a 30) r_52.length (env49.n 30))), (80, (.pointer (some ⟨b7, 0 + 0, none⟩)))], fun S hS hV => (.cons (hV 3 75 _ (hdn 1 3 rfl) rfl rfl) (.cons (hV 8 80 _ (hdn 1 8 rfl) rfl rfl) (Sub.nil _))), ?_⟩) ?_
                · skip
                  have h56 := hphi 3 _ (hdn 1 3 rfl) rfl _ (Fz.le_refl _)
                  have h64 := hphi 7 _ (hdn 1 7 rfl) rfl _ (Fz.le_refl _)
                  refine .store (cs' := (cBottlePile ({ s10.2.2.1 with issued := r_52 }) (env49.a 30) (env49.n 30) p19 k20)) Try.sizeOf81 rfl rfl rfl rfl (i := 4) (congrArg some (condF hL)) (Nat.le_of_ble_eq_true rfl) rfl (by kernel_rfl) ?_
                  exact .finS rfl (Fz.le_refl _) (setC 4 (condT rfl))
                exact .nil
              have h56 := hphi 3 _ rfl
              have h64 := hphi 7 _ rfl
              refine .norm (S' := [(0, (.slice p2 l_1.length k3)), (2, (.pointer (some ⟨b5, 0, none⟩))), (5, (.pointer (some ⟨b7, 0, none⟩))), (6, (.pointer (some ⟨b9, 0, none⟩))), (9, (.pointer (some ⟨b34, 0, none⟩))), (19, (.slice p2 l_1.length k3)), (20, (.int .i64 (l_1.length : Int))), (21, (.int .i64 s10.1)), (72, (.pointer (some ⟨b7, 0 + 0, none⟩))), (73, (.slice p16 s10.2.2.1.issued.length k17)), (74, (eApiSpan (ApiSpan.mk x23.First x23.Last))), (75, (.slice (env49.a 30) r_52.length (env49.n 30))), (76, (.pointer (some ⟨b7, 0 + 1, none⟩))), (77, (.slice p19 s10.2.2.1.hand.length k20)), (78, (eApiSpan (ApiSpan.mk x23.First x23.Last))), (79, (.slice (env49.a 70) r_60.length (env49.n 70))), (80, (.pointer (some ⟨b7, 0 + 0, none⟩)))]) (.cons (k := 0) rfl (.cons (k := 2) rfl (.cons (k := 5) rfl (.cons (k := 6) rfl (.cons (k := 9) rfl (.cons (k := 19) rfl (.cons (k := 20) rfl (.cons (k := 21) rfl (.cons (k := 72) rfl (.cons (k := 73) rfl (.cons (k := 74) rfl (.cons (k := 75) rfl (.cons (k := 76) rfl (.cons (k := 77) rfl (.cons (k := 78) rfl (.cons (k := 79) rfl (.cons (k := 80) rfl (.nil _)))))))))))))))))) (rfl : _ = [pt b34 (.cells (cApiSpan (ApiSpan.mk x23.First x23.Last)).toArray 36), pt b33 (.cells (cApiStampEvent x23).toArray 70), pt b9 (.cells [.pointer (some ⟨b8, 0, none⟩), .pointer (some ⟨b5, 0 + 1, none⟩), .pointer (some ⟨b5, 0 + 2, none⟩), .pointer (some ⟨b5, 0 + 3, none⟩)].toArray 85), pt b8 (.cells [(.int .i64 s10.2.2.2)].toArray 3), pt b7 (.cells (cBottlePile ({ s10.2.2.1 with issued := r_52 }) (env49.a 30) (env49.n 30) p19 k20).toArray 83), pt b5 (.cells (cApiStampBook s10.2.1 p13 k14).toArray 26), R]) ?_
              refine .fieldAddr rfl Try.underlying83 rfl Try.sizeOf81 rfl ?_
              refine .letv (fun x100 e101 => ?_)
              have h102 : RepSl 2 (Ex cApiSpan) F_68 (env49.a 30) (env49.n 30) x100.issued := by rw [e101]; exact h56
              have h103 : RepSl 2 (Ex cApiSpan) F_68 (env49.a 70) (env49.n 70) x100.hand := by rw [e101]; exact h64
              refine .store (cs' := (cBottlePile x100 (env49.a 30) (env49.n 30) (env49.a 70) (env49.n 70))) Try.sizeOf81 rfl rfl rfl rfl (i := 4) rfl (Nat.le_of_ble_eq_true rfl) rfl (by rw [e101]; kernel_rfl) ?_
              refine .nil ?_
              refine .block ?_
              refine .block ?_
              refine .code ?_
              refine .region ?_
              refine .add rfl rfl rfl ?_
              refine .move rfl rfl ?_
              refine .nil ?_
              refine .drop 1 ?_
              refine .drop 0 ?_
              exact .nil (LPost.norm fun a w h => ⟨F_68, p13, k14, (env49.a 30), (env49.n 30), (env49.a 70), (env49.n 70), (Fz.le_trans l_12 (Fz.le_trans l_36 (Fz.le_trans l_44 l_69))), (h15.mono (Fz.le_trans l_36 (Fz.le_trans l_44 l_69))), h102, h103, h.1.sub (.cons (k := 0) rfl (.cons (k := 2) rfl (.cons (k := 5) rfl (.cons (k := 6) rfl (.cons (k := 19) rfl (.cons (k := 20) rfl (.cons (k := 21) rfl (.nil _)))))))), h.2⟩)
            · skip
              refine .seq ?_
              refine .region ?_
              refine .fieldAddr rfl Try.underlying83 rfl Try.sizeOf81 rfl ?_
              refine .loadO rfl Try.isAgg81 rfl (i := 4) rfl rfl ?_
              refine .loadOA rfl Try.isAgg36 Try.sizeOf36 rfl (i := 0) rfl (vs := (cApiSpan (ApiSpan.mk x23.First x23.Last))) (by kernel_rfl) rfl ?_
              refine .call0 rfl Try.call36 rfl rfl rfl (c_bottle_spans_covers _ s10.2.2.1.hand p19 k20 (h21.mono (Fz.le_trans l_36 l_44)) (ApiSpan.mk x23.First x23.Last)) ?_
              rintro r_106 F_104 _ - l_105 rfl
              refine .not rfl rfl ?_
              refine .assign rfl rfl ?_
              refine .nil ?_
              refine .code ?_
              refine .cond rfl (fun hb107 => ?_) (fun hb107 => ?_)
              · skip
                refine .seq ?_
                refine .region ?_
                refine .build (cs := (cApiStampBook (ApiStampBook.mk ([]) 0 0 0) none 0).toArray) rfl Try.underlying26 Try.zeroValue26 (plApiStampBook _ Try.underlying26) rfl rfl (by kernel_rfl) ?_
                refine .move rfl rfl ?_
                refine .store (cs' := (cApiStampBook (ApiStampBook.mk ([]) 0 0 0) none 0)) Try.sizeOf26 rfl rfl rfl rfl (i := 5) rfl (Nat.le_of_ble_eq_true rfl) rfl (setMany_all (by rfl)) ?_
                refine .assign rfl rfl ?_
                refine .assign rfl rfl ?_
                refine .nil ?_
                refine .keep (.cons (k := 2) rfl (.cons (k := 3) rfl (.cons (k := 4) rfl (.nil _)))) ?_
                refine .code ?_
                refine .drop 4 ?_
                refine .drop 3 ?_
                refine .drop 2 ?_
                refine .drop 1 ?_
                refine .drop 0 ?_
                refine .retQ (LPost.ret fun a w h => ⟨rfl, F_104, none, 0, (Fz.le_trans l_12 (Fz.le_trans l_36 (Fz.le_trans l_44 l_105))), (RepSl.nil.mono (Fz.le_trans l_12 (Fz.le_trans l_36 (Fz.le_trans l_44 l_105)))), h.1.sub (.cons (k := 2) rfl (.cons (k := 3) rfl (.cons (k := 4) rfl (.nil _)))), h.2⟩)
              · skip
                refine .seq ?_
                refine .region ?_
                refine .fieldAddr rfl Try.underlying83 rfl Try.sizeOf81 rfl ?_
                refine .loadO rfl Try.isAgg81 rfl (i := 4) rfl rfl ?_
                refine .loadOA rfl Try.isAgg36 Try.sizeOf36 rfl (i := 0) rfl (vs := (cApiSpan (ApiSpan.mk x23.First x23.Last))) (by kernel_rfl) rfl ?_
                refine .call0 rfl Try.call37 rfl rfl rfl (c_bottle_spans_without _ s10.2.2.1.hand p19 k20 (h21.mono (Fz.le_trans l_36 (Fz.le_trans l_44 l_105))) (ApiSpan.mk x23.First x23.Last)) ?_
                rintro r_110 F_108 _ - l_109 ⟨p111, k112, rfl, h113⟩
                refine .fieldAddr rfl Try.underlying83 rfl Try.sizeOf81 rfl ?_
                refine .letv (fun x114 e115 => ?_)
                have h116 : RepSl 2 (Ex cApiSpan) F_108 p16 k17 x114.issued := by rw [e115]; exact (h18.mono (Fz.le_trans l_36 (Fz.le_trans l_44 (Fz.le_trans l_105 l_109))))
                have h117 : RepSl 2 (Ex cApiSpan) F_108 p111 k112 x114.hand := by rw [e115]; exact h113
                refine .store (cs' := (cBottlePile x114 p16 k17 p111 k112)) Try.sizeOf81 rfl rfl rfl rfl (i := 4) rfl (Nat.le_of_ble_eq_true rfl) rfl (by rw [e115]; kernel_rfl) ?_
                refine .nil ?_
                refine .keep (.cons (k := 0) rfl (.cons (k := 2) rfl (.cons (k := 5) rfl (.cons (k := 6) rfl (.cons (k := 8) rfl (.cons (k := 9) rfl (.cons (k := 19) rfl (.cons (k := 20) rfl (.cons (k := 21) rfl (.nil _)))))))))) ?_
                refine .code ?_
                refine .keep (.cons (k := 0) rfl (.cons (k := 2) rfl (.cons (k := 5) rfl (.cons (k := 6) rfl (.cons (k := 8) rfl (.cons (k := 9) rfl (.cons (k := 19) rfl (.cons (k := 20) rfl (.cons (k := 21) rfl (.nil _)))))))))) ?_
                refine .bind (fun j118 hj119 => ?_)
                refine .ite (fun hb120 => ?_) (fun hb120 => ?_)
                · skip
                  obtain rfl : j118 = 0 := by simpa using hb120
                  refine .draw ⟨1000000, 0, [], 0⟩ [(36, (.pointer (some ⟨b33, 0 + 0, none⟩))), (37, (.int .i64 x23.Kind)), (38, (.pointer (some ⟨b9, 0 + 0 * 1, none⟩))), (39, (.pointer (some ⟨b8, 0, none⟩))), (40, (.pointer (some ⟨b8, 0, none⟩))), (41, (.int .i64 s10.2.2.2)), (42, (.pointer (some ⟨b34, 0 + 1, none⟩))), (43, (.int .i64 ((ApiSpan.mk x23.First x23.Last).Hi))), (44, (.pointer (some ⟨b34, 0 + 0, none⟩))), (45, (.int .i64 ((ApiSpan.mk x23.First x23.Last).Lo))), (46, (.int .i64 (w64 (((ApiSpan.mk x23.First x23.Last).Hi) - ((ApiSpan.mk x23.First x23.Last).Lo))))), (47, (.int .i64 (w64 ((w64 (((ApiSpan.mk x23.First x23.Last).Hi) - ((ApiSpan.mk x23.First x23.Last).Lo))) + 1)))), (48, (.int .i64 (w64 (s10.2.2.2 + (w64 ((w64 (((ApiSpan.mk x23.First x23.Last).Hi) - ((ApiSpan.mk x23.First x23.Last).Lo))) + 1))))))] mixedOK (by kernel_rfl) (by kernel_rfl) rfl (by kernel_rfl) ?_ (fun F_121 b122 l_123 => ?_)
                  · skip
                    refine .cons (.mk 36 (.pointer (some ⟨b33, 0 + 0, none⟩)) [(8, (.pointer (some ⟨b33, 0, none⟩)))] rfl rfl rfl rfl (fun S hS hd => (.cons (hS _ _ rfl) (Sub.nil _))) (fun F_124 X l_125 => ?_)) ?_
                    · skip
                      refine .fieldAddr rfl Try.underlying70 rfl Try.sizeOf3 rfl ?_
                      exact .fin1 (Fz.le_refl _)
                    refine .cons (.mk 37 (.int .i64 x23.Kind) [(36, (.pointer (some ⟨b33, 0 + 0, none⟩)))] rfl rfl rfl rfl (fun S hS hd => (.cons (hd.1 rfl rfl _ _ rfl) (Sub.nil _))) (fun F_126 X l_127 => ?_)) ?_
                    · skip
                      refine .loadO rfl Try.isAgg3 rfl (i := 1) rfl rfl ?_
                      exact .fin1 (Fz.le_refl _)
                    refine .cons (.mk 38 (.pointer (some ⟨b9, 0 + 0 * 1, none⟩)) [(6, (.pointer (some ⟨b9, 0, none⟩))), (37, (.int .i64 x23.Kind))] rfl rfl rfl rfl (fun S hS hd => (.cons (hS _ _ rfl) (.cons (hd.1 rfl rfl _ _ rfl) (Sub.nil _)))) (fun F_128 X l_129 => ?_)) ?_
                    · skip
                      refine .indexAddrA rfl Try.underlying85 Try.sizeOf84 rfl rfl hj119 ?_
                      exact .fin1 (Fz.le_refl _)
                    refine .cons (.mk 39 (.pointer (some ⟨b8, 0, none⟩)) [(38, (.pointer (some ⟨b9, 0 + 0 * 1, none⟩)))] rfl rfl rfl rfl (fun S hS hd => (.cons (hd.1 rfl rfl _ _ rfl) (Sub.nil _))) (fun F_130 X l_131 => ?_)) ?_
                    · skip
                      refine .loadO rfl Try.isAgg84 rfl (i := 2) rfl rfl ?_
                      exact .fin1 (Fz.le_refl _)
                    refine .cons (.mk 40 (.pointer (some ⟨b8, 0, none⟩)) [(39, (.pointer (some ⟨b8, 0, none⟩)))] rfl rfl rfl rfl (fun S hS hd => (.cons (hd.1 rfl rfl _ _ rfl) (Sub.nil _))) (fun F_132 X l_133 => ?_)) ?_
                    · skip
                      refine .nilCheck rfl rfl ?_
                      exact .fin1 (Fz.le_refl _)
                    refine .cons (.mk 41 (.int .i64 s10.2.2.2) [(40, (.pointer (some ⟨b8, 0, none⟩)))] rfl rfl rfl rfl (fun S hS hd => (.cons (hd.1 rfl rfl _ _ rfl) (Sub.nil _))) (fun F_134 X l_135 => ?_)) ?_
                    · skip
                      refine .loadO rfl Try.isAgg3 rfl (i := 3) rfl rfl ?_
                      exact .fin1 (Fz.le_refl _)
                    refine .cons (.mk 42 (.pointer (some ⟨b34, 0 + 1, none⟩)) [(9, (.pointer (some ⟨b34, 0, none⟩)))] rfl rfl rfl rfl (fun S hS hd => (.cons (hS _ _ rfl) (Sub.nil _))) (fun F_136 X l_137 => ?_)) ?_
                    · skip
                      refine .fieldAddr rfl Try.underlying36 rfl Try.sizeOf3 rfl ?_
                      exact .fin1 (Fz.le_refl _)
                    refine .cons (.mk 43 (.int .i64 ((ApiSpan.mk x23.First x23.Last).Hi)) [(42, (.pointer (some ⟨b34, 0 + 1, none⟩)))] rfl rfl rfl rfl (fun S hS hd => (.cons (hd.1 rfl rfl _ _ rfl) (Sub.nil _))) (fun F_138 X l_139 => ?_)) ?_
                    · skip
                      refine .loadO rfl Try.isAgg3 rfl (i := 0) rfl rfl ?_
                      exact .fin1 (Fz.le_refl _)
                    refine .cons (.mk 44 (.pointer (some ⟨b34, 0 + 0, none⟩)) [(9, (.pointer (some ⟨b34, 0, none⟩)))] rfl rfl rfl rfl (fun S hS hd => (.cons (hS _ _ rfl) (Sub.nil _))) (fun F_140 X l_141 => ?_)) ?_
                    · skip
                      refine .fieldAddr rfl Try.underlying36 rfl Try.sizeOf3 rfl ?_
                      exact .fin1 (Fz.le_refl _)
                    refine .cons (.mk 45 (.int .i64 ((ApiSpan.mk x23.First x23.Last).Lo)) [(44, (.pointer (some ⟨b34, 0 + 0, none⟩)))] rfl rfl rfl rfl (fun S hS hd => (.cons (hd.1 rfl rfl _ _ rfl) (Sub.nil _))) (fun F_142 X l_143 => ?_)) ?_
                    · skip
                      refine .loadO rfl Try.isAgg3 rfl (i := 0) rfl rfl ?_
                      exact .fin1 (Fz.le_refl _)
                    refine .cons (.mk 46 (.int .i64 (w64 (((ApiSpan.mk x23.First x23.Last).Hi) - ((ApiSpan.mk x23.First x23.Last).Lo)))) [(43, (.int .i64 ((ApiSpan.mk x23.First x23.Last).Hi))), (45, (.int .i64 ((ApiSpan.mk x23.First x23.Last).Lo)))] rfl rfl rfl rfl (fun S hS hd => (.cons (hd.1 rfl rfl _ _ rfl) (.cons (hd.2.1 rfl rfl _ _ rfl) (Sub.nil _)))) (fun F_144 X l_145 => ?_)) ?_
                    · skip
                      refine .sub rfl rfl rfl ?_
                      exact .fin1 (Fz.le_refl _)
                    refine .cons (.mk 47 (.int .i64 (w64 ((w64 (((ApiSpan.mk x23.First x23.Last).Hi) - ((ApiSpan.mk x23.First x23.Last).Lo))) + 1))) [(46, (.int .i64 (w64 (((ApiSpan.mk x23.First x23.Last).Hi) - ((ApiSpan.mk x23.First x23.Last).Lo)))))] rfl rfl rfl rfl (fun S hS hd => (.cons (hd.1 rfl rfl _ _ rfl) (Sub.nil _))) (fun F_146 X l_147 => ?_)) ?_
                    · skip
                      refine .add rfl rfl rfl ?_
                      exact .fin1 (Fz.le_refl _)
                    refine .cons (.mk 48 (.int .i64 (w64 (s10.2.2.2 + (w64 ((w64 (((ApiSpan.mk x23.First x23.Last).Hi) - ((ApiSpan.mk x23.First x23.Last).Lo))) + 1))))) [(41, (.int .i64 s10.2.2.2)), (47, (.int .i64 (w64 ((w64 (((ApiSpan.mk x23.First x23.Last).Hi) - ((ApiSpan.mk x23.First x23.Last).Lo))) + 1))))] rfl rfl rfl rfl (fun S hS hd => (.cons (hd.1 rfl rfl _ _ rfl) (.cons (hd.2.1 rfl rfl _ _ rfl) (Sub.nil _)))) (fun F_148 X l_149 => ?_)) ?_
                    · skip
                      refine .add rfl rfl rfl ?_
                      exact .fin1 (Fz.le_refl _)
                    exact .nil
                  refine .nilCheck rfl rfl ?_
                  refine .store (cs' := [(.int .i64 (w64 (s10.2.2.2 + (w64 ((w64 (((ApiSpan.mk x23.First x23.Last).Hi) - ((ApiSpan.mk x23.First x23.Last).Lo))) + 1)))))]) Try.sizeOf3 rfl rfl rfl rfl (i := 3) rfl (Nat.le_of_ble_eq_true rfl) rfl rfl ?_
                  refine .nil ?_
                  refine .block ?_
                  refine .block ?_
                  refine .code ?_
                  refine .region ?_
                  refine .add rfl rfl rfl ?_
                  refine .move rfl rfl ?_
                  refine .nil ?_
                  refine .drop 1 ?_
                  refine .drop 0 ?_
                  exact .nil (LPost.norm fun a w h => ⟨F_121, p13, k14, p16, k17, p111, k112, (Fz.le_trans l_12 (Fz.le_trans l_36 (Fz.le_trans l_44 (Fz.le_trans l_105 (Fz.le_trans l_109 l_123))))), (h15.mono (Fz.le_trans l_36 (Fz.le_trans l_44 (Fz.le_trans l_105 (Fz.le_trans l_109 l_123))))), (h116.mono l_123), (h117.mono l_123), h.1.sub (.cons (k := 0) rfl (.cons (k := 2) rfl (.cons (k := 5) rfl (.cons (k := 6) rfl (.cons (k := 19) rfl (.cons (k := 20) rfl (.cons (k := 21) rfl (.nil _)))))))), h.2⟩)
                refine .ite (fun hb150 => ?_) (fun hb150 => ?_)
                · skip
                  obtain rfl : j118 = 1 := by simpa using hb150
                  refine .draw ⟨1000000, 0, [], 0⟩ [(36, (.pointer (some ⟨b33, 0 + 0, none⟩))), (37, (.int .i64 x23.Kind)), (38, (.pointer (some ⟨b9, 0 + 1 * 1, none⟩))), (39, (.pointer (some ⟨b5, 0 + 1, none⟩))), (40, (.pointer (some ⟨b5, 0 + 1, none⟩))), (41, (.int .i64 s10.2.1.Stuck)), (42, (.pointer (some ⟨b34, 0 + 1, none⟩))), (43, (.int .i64 ((ApiSpan.mk x23.First x23.Last).Hi))), (44, (.pointer (some ⟨b34, 0 + 0, none⟩))), (45, (.int .i64 ((ApiSpan.mk x23.First x23.Last).Lo))), (46, (.int .i64 (w64 (((ApiSpan.mk x23.First x23.Last).Hi) - ((ApiSpan.mk x23.First x23.Last).Lo))))), (47, (.int .i64 (w64 ((w64 (((ApiSpan.mk x23.First x23.Last).Hi) - ((ApiSpan.mk x23.First x23.Last).Lo))) + 1)))), (48, (.int .i64 (w64 (s10.2.1.Stuck + (w64 ((w64 (((ApiSpan.mk x23.First x23.Last).Hi) - ((ApiSpan.mk x23.First x23.Last).Lo))) + 1))))))] mixedOK (by kernel_rfl) (by kernel_rfl) rfl (by kernel_rfl) ?_ (fun F_151 b152 l_153 => ?_)
                  · skip
                    refine .cons (.mk 36 (.pointer (some ⟨b33, 0 + 0, none⟩)) [(8, (.pointer (some ⟨b33, 0, none⟩)))] rfl rfl rfl rfl (fun S hS hd => (.cons (hS _ _ rfl) (Sub.nil _))) (fun F_154 X l_155 => ?_)) ?_
                    · skip
                      refine .fieldAddr rfl Try.underlying70 rfl Try.sizeOf3 rfl ?_
                      exact .fin1 (Fz.le_refl _)
                    refine .cons (.mk 37 (.int .i64 x23.Kind) [(36, (.pointer (some ⟨b33, 0 + 0, none⟩)))] rfl rfl rfl rfl (fun S hS hd => (.cons (hd.1 rfl rfl _ _ rfl) (Sub.nil _))) (fun F_156 X l_157 => ?_)) ?_
                    · skip
                      refine .loadO rfl Try.isAgg3 rfl (i := 1) rfl rfl ?_
                      exact .fin1 (Fz.le_refl _)
                    refine .cons (.mk 38 (.pointer (some ⟨b9, 0 + 1 * 1, none⟩)) [(6, (.pointer (some ⟨b9, 0, none⟩))), (37, (.int .i64 x23.Kind))] rfl rfl rfl rfl (fun S hS hd => (.cons (hS _ _ rfl) (.cons (hd.1 rfl rfl _ _ rfl) (Sub.nil _)))) (fun F_158 X l_159 => ?_)) ?_
                    · skip
                      refine .indexAddrA rfl Try.underlying85 Try.sizeOf84 rfl rfl hj119 ?_
                      exact .fin1 (Fz.le_refl _)
                    refine .cons (.mk 39 (.pointer (some ⟨b5, 0 + 1, none⟩)) [(38, (.pointer (some ⟨b9, 0 + 1 * 1, none⟩)))] rfl rfl rfl rfl (fun S hS hd => (.cons (hd.1 rfl rfl _ _ rfl) (Sub.nil _))) (fun F_160 X l_161 => ?_)) ?_
                    · skip
                      refine .loadO rfl Try.isAgg84 rfl (i := 2) rfl rfl ?_
                      exact .fin1 (Fz.le_refl _)
                    refine .cons (.mk 40 (.pointer (some ⟨b5, 0 + 1, none⟩)) [(39, (.pointer (some ⟨b5, 0 + 1, none⟩)))] rfl rfl rfl rfl (fun S hS hd => (.cons (hd.1 rfl rfl _ _ rfl) (Sub.nil _))) (fun F_162 X l_163 => ?_)) ?_
                    · skip
                      refine .nilCheck rfl rfl ?_
                      exact .fin1 (Fz.le_refl _)
                    refine .cons (.mk 41 (.int .i64 s10.2.1.Stuck) [(40, (.pointer (some ⟨b5, 0 + 1, none⟩)))] rfl rfl rfl rfl (fun S hS hd => (.cons (hd.1 rfl rfl _ _ rfl) (Sub.nil _))) (fun F_164 X l_165 => ?_)) ?_
                    · skip
                      refine .loadO rfl Try.isAgg3 rfl (i := 5) rfl rfl ?_
                      exact .fin1 (Fz.le_refl _)
                    refine .cons (.mk 42 (.pointer (some ⟨b34, 0 + 1, none⟩)) [(9, (.pointer (some ⟨b34, 0, none⟩)))] rfl rfl rfl rfl (fun S hS hd => (.cons (hS _ _ rfl) (Sub.nil _))) (fun F_166 X l_167 => ?_)) ?_
                    · skip
                      refine .fieldAddr rfl Try.underlying36 rfl Try.sizeOf3 rfl ?_
                      exact .fin1 (Fz.le_refl _)
                    refine .cons (.mk 43 (.int .i64 ((ApiSpan.mk x23.First x23.Last).Hi)) [(42, (.pointer (some ⟨b34, 0 + 1, none⟩)))] rfl rfl rfl rfl (fun S hS hd => (.cons (hd.1 rfl rfl _ _ rfl) (Sub.nil _))) (fun F_168 X l_169 => ?_)) ?_
                    · skip
                      refine .loadO rfl Try.isAgg3 rfl (i := 0) rfl rfl ?_
                      exact .fin1 (Fz.le_refl _)
                    refine .cons (.mk 44 (.pointer (some ⟨b34, 0 + 0, none⟩)) [(9, (.pointer (some ⟨b34, 0, none⟩)))] rfl rfl rfl rfl (fun S hS hd => (.cons (hS _ _ rfl) (Sub.nil _))) (fun F_170 X l_171 => ?_)) ?_
                    · skip
                      refine .fieldAddr rfl Try.underlying36 rfl Try.sizeOf3 rfl ?_
                      exact .fin1 (Fz.le_refl _)
                    refine .cons (.mk 45 (.int .i64 ((ApiSpan.mk x23.First x23.Last).Lo)) [(44, (.pointer (some ⟨b34, 0 + 0, none⟩)))] rfl rfl rfl rfl (fun S hS hd => (.cons (hd.1 rfl rfl _ _ rfl) (Sub.nil _))) (fun F_172 X l_173 => ?_)) ?_
                    · skip
                      refine .loadO rfl Try.isAgg3 rfl (i := 0) rfl rfl ?_
                      exact .fin1 (Fz.le_refl _)
                    refine .cons (.mk 46 (.int .i64 (w64 (((ApiSpan.mk x23.First x23.Last).Hi) - ((ApiSpan.mk x23.First x23.Last).Lo)))) [(43, (.int .i64 ((ApiSpan.mk x23.First x23.Last).Hi))), (45, (.int .i64 ((ApiSpan.mk x23.First x23.Last).Lo)))] rfl rfl rfl rfl (fun S hS hd => (.cons (hd.1 rfl rfl _ _ rfl) (.cons (hd.2.1 rfl rfl _ _ rfl) (Sub.nil _)))) (fun F_174 X l_175 => ?_)) ?_
                    · skip
                      refine .sub rfl rfl rfl ?_
                      exact .fin1 (Fz.le_refl _)
                    refine .cons (.mk 47 (.int .i64 (w64 ((w64 (((ApiSpan.mk x23.First x23.Last).Hi) - ((ApiSpan.mk x23.First x23.Last).Lo))) + 1))) [(46, (.int .i64 (w64 (((ApiSpan.mk x23.First x23.Last).Hi) - ((ApiSpan.mk x23.First x23.Last).Lo)))))] rfl rfl rfl rfl (fun S hS hd => (.cons (hd.1 rfl rfl _ _ rfl) (Sub.nil _))) (fun F_176 X l_177 => ?_)) ?_
                    · skip
                      refine .add rfl rfl rfl ?_
                      exact .fin1 (Fz.le_refl _)
                    refine .cons (.mk 48 (.int .i64 (w64 (s10.2.1.Stuck + (w64 ((w64 (((ApiSpan.mk x23.First x23.Last).Hi) - ((ApiSpan.mk x23.First x23.Last).Lo))) + 1))))) [(41, (.int .i64 s10.2.1.Stuck)), (47, (.int .i64 (w64 ((w64 (((ApiSpan.mk x23.First x23.Last).Hi) - ((ApiSpan.mk x23.First x23.Last).Lo))) + 1))))] rfl rfl rfl rfl (fun S hS hd => (.cons (hd.1 rfl rfl _ _ rfl) (.cons (hd.2.1 rfl rfl _ _ rfl) (Sub.nil _)))) (fun F_178 X l_179 => ?_)) ?_
                    · skip
                      refine .add rfl rfl rfl ?_
                      exact .fin1 (Fz.le_refl _)
                    exact .nil
                  refine .nilCheck rfl rfl ?_
                  refine .letv (fun x180 e181 => ?_)
                  have h182 : RepSl 2 (Ex cApiSpan) F_151 p13 k14 x180.Hand := by rw [e181]; exact (h15.mono (Fz.le_trans l_36 (Fz.le_trans l_44 (Fz.le_trans l_105 (Fz.le_trans l_109 l_153)))))
                  refine .store (cs' := (cApiStampBook x180 p13 k14)) Try.sizeOf3 rfl rfl rfl rfl (i := 5) rfl (Nat.le_of_ble_eq_true rfl) rfl (by rw [e181]; kernel_rfl) ?_
                  refine .nil ?_
                  refine .block ?_
                  refine .block ?_
                  refine .code ?_
                  refine .region ?_
                  refine .add rfl rfl rfl ?_
                  refine .move rfl rfl ?_
                  refine .nil ?_
                  refine .drop 1 ?_
                  refine .drop 0 ?_
                  exact .nil (LPost.norm fun a w h => ⟨F_151, p13, k14, p16, k17, p111, k112, (Fz.le_trans l_12 (Fz.le_trans l_36 (Fz.le_trans l_44 (Fz.le_trans l_105 (Fz.le_trans l_109 l_153))))), h182, (h116.mono l_153), (h117.mono l_153), h.1.sub (.cons (k := 0) rfl (.cons (k := 2) rfl (.cons (k := 5) rfl (.cons (k := 6) rfl (.cons (k := 19) rfl (.cons (k := 20) rfl (.cons (k := 21) rfl (.nil _)))))))), h.2⟩)
                refine .ite (fun hb183 => ?_) (fun hb183 => ?_)
                · skip
                  obtain rfl : j118 = 2 := by simpa using hb183
                  refine .draw ⟨1000000, 0, [], 0⟩ [(36, (.pointer (some ⟨b33, 0 + 0, none⟩))), (37, (.int .i64 x23.Kind)), (38, (.pointer (some ⟨b9, 0 + 2 * 1, none⟩))), (39, (.pointer (some ⟨b5, 0 + 2, none⟩))), (40, (.pointer (some ⟨b5, 0 + 2, none⟩))), (41, (.int .i64 s10.2.1.Spoiled)), (42, (.pointer (some ⟨b34, 0 + 1, none⟩))), (43, (.int .i64 ((ApiSpan.mk x23.First x23.Last).Hi))), (44, (.pointer (some ⟨b34, 0 + 0, none⟩))), (45, (.int .i64 ((ApiSpan.mk x23.First x23.Last).Lo))), (46, (.int .i64 (w64 (((ApiSpan.mk x23.First x23.Last).Hi) - ((ApiSpan.mk x23.First x23.Last).Lo))))), (47, (.int .i64 (w64 ((w64 (((ApiSpan.mk x23.First x23.Last).Hi) - ((ApiSpan.mk x23.First x23.Last).Lo))) + 1)))), (48, (.int .i64 (w64 (s10.2.1.Spoiled + (w64 ((w64 (((ApiSpan.mk x23.First x23.Last).Hi) - ((ApiSpan.mk x23.First x23.Last).Lo))) + 1))))))] mixedOK (by kernel_rfl) (by kernel_rfl) rfl (by kernel_rfl) ?_ (fun F_184 b185 l_186 => ?_)
                  · skip
                    refine .cons (.mk 36 (.pointer (some ⟨b33, 0 + 0, none⟩)) [(8, (.pointer (some ⟨b33, 0, none⟩)))] rfl rfl rfl rfl (fun S hS hd => (.cons (hS _ _ rfl) (Sub.nil _))) (fun F_187 X l_188 => ?_)) ?_
                    · skip
                      refine .fieldAddr rfl Try.underlying70 rfl Try.sizeOf3 rfl ?_
                      exact .fin1 (Fz.le_refl _)
                    refine .cons (.mk 37 (.int .i64 x23.Kind) [(36, (.pointer (some ⟨b33, 0 + 0, none⟩)))] rfl rfl rfl rfl (fun S hS hd => (.cons (hd.1 rfl rfl _ _ rfl) (Sub.nil _))) (fun F_189 X l_190 => ?_)) ?_
                    · skip
                      refine .loadO rfl Try.isAgg3 rfl (i := 1) rfl rfl ?_
                      exact .fin1 (Fz.le_refl _)
                    refine .cons (.mk 38 (.pointer (some ⟨b9, 0 + 2 * 1, none⟩)) [(6, (.pointer (some ⟨b9, 0, none⟩))), (37, (.int .i64 x23.Kind))] rfl rfl rfl rfl (fun S hS hd => (.cons (hS _ _ rfl) (.cons (hd.1 rfl rfl _ _ rfl) (Sub.nil _)))) (fun F_191 X l_192 => ?_)) ?_
                    · skip
                      refine .indexAddrA rfl Try.underlying85 Try.sizeOf84 rfl rfl hj119 ?_
                      exact .fin1 (Fz.le_refl _)
                    refine .cons (.mk 39 (.pointer (some ⟨b5, 0 + 2, none⟩)) [(38, (.pointer (some ⟨b9, 0 + 2 * 1, none⟩)))] rfl rfl rfl rfl (fun S hS hd => (.cons (hd.1 rfl rfl _ _ rfl) (Sub.nil _))) (fun F_193 X l_194 => ?_)) ?_
                    · skip
                      refine .loadO rfl Try.isAgg84 rfl (i := 2) rfl rfl ?_
                      exact .fin1 (Fz.le_refl _)
                    refine .cons (.mk 40 (.pointer (some ⟨b5, 0 + 2, none⟩)) [(39, (.pointer (some ⟨b5, 0 + 2, none⟩)))] rfl rfl rfl rfl (fun S hS hd => (.cons (hd.1 rfl rfl _ _ rfl) (Sub.nil _))) (fun F_195 X l_196 => ?_)) ?_
                    · skip
                      refine .nilCheck rfl rfl ?_
                      exact .fin1 (Fz.le_refl _)
                    refine .cons (.mk 41 (.int .i64 s10.2.1.Spoiled) [(40, (.pointer (some ⟨b5, 0 + 2, none⟩)))] rfl rfl rfl rfl (fun S hS hd => (.cons (hd.1 rfl rfl _ _ rfl) (Sub.nil _))) (fun F_197 X l_198 => ?_)) ?_
                    · skip
                      refine .loadO rfl Try.isAgg3 rfl (i := 5) rfl rfl ?_
                      exact .fin1 (Fz.le_refl _)
                    refine .cons (.mk 42 (.pointer (some ⟨b34, 0 + 1, none⟩)) [(9, (.pointer (some ⟨b34, 0, none⟩)))] rfl rfl rfl rfl (fun S hS hd => (.cons (hS _ _ rfl) (Sub.nil _))) (fun F_199 X l_200 => ?_)) ?_
                    · skip
                      refine .fieldAddr rfl Try.underlying36 rfl Try.sizeOf3 rfl ?_
                      exact .fin1 (Fz.le_refl _)
                    refine .cons (.mk 43 (.int .i64 ((ApiSpan.mk x23.First x23.Last).Hi)) [(42, (.pointer (some ⟨b34, 0 + 1, none⟩)))] rfl rfl rfl rfl (fun S hS hd => (.cons (hd.1 rfl rfl _ _ rfl) (Sub.nil _))) (fun F_201 X l_202 => ?_)) ?_
                    · skip
                      refine .loadO rfl Try.isAgg3 rfl (i := 0) rfl rfl ?_
                      exact .fin1 (Fz.le_refl _)
                    refine .cons (.mk 44 (.pointer (some ⟨b34, 0 + 0, none⟩)) [(9, (.pointer (some ⟨b34, 0, none⟩)))] rfl rfl rfl rfl (fun S hS hd => (.cons (hS _ _ rfl) (Sub.nil _))) (fun F_203 X l_204 => ?_)) ?_
                    · skip
                      refine .fieldAddr rfl Try.underlying36 rfl Try.sizeOf3 rfl ?_
                      exact .fin1 (Fz.le_refl _)
                    refine .cons (.mk 45 (.int .i64 ((ApiSpan.mk x23.First x23.Last).Lo)) [(44, (.pointer (some ⟨b34, 0 + 0, none⟩)))] rfl rfl rfl rfl (fun S hS hd => (.cons (hd.1 rfl rfl _ _ rfl) (Sub.nil _))) (fun F_205 X l_206 => ?_)) ?_
                    · skip
                      refine .loadO rfl Try.isAgg3 rfl (i := 0) rfl rfl ?_
                      exact .fin1 (Fz.le_refl _)
                    refine .cons (.mk 46 (.int .i64 (w64 (((ApiSpan.mk x23.First x23.Last).Hi) - ((ApiSpan.mk x23.First x23.Last).Lo)))) [(43, (.int .i64 ((ApiSpan.mk x23.First x23.Last).Hi))), (45, (.int .i64 ((ApiSpan.mk x23.First x23.Last).Lo)))] rfl rfl rfl rfl (fun S hS hd => (.cons (hd.1 rfl rfl _ _ rfl) (.cons (hd.2.1 rfl rfl _ _ rfl) (Sub.nil _)))) (fun F_207 X l_208 => ?_)) ?_
                    · skip
                      refine .sub rfl rfl rfl ?_
                      exact .fin1 (Fz.le_refl _)
                    refine .cons (.mk 47 (.int .i64 (w64 ((w64 (((ApiSpan.mk x23.First x23.Last).Hi) - ((ApiSpan.mk x23.First x23.Last).Lo))) + 1))) [(46, (.int .i64 (w64 (((ApiSpan.mk x23.First x23.Last).Hi) - ((ApiSpan.mk x23.First x23.Last).Lo)))))] rfl rfl rfl rfl (fun S hS hd => (.cons (hd.1 rfl rfl _ _ rfl) (Sub.nil _))) (fun F_209 X l_210 => ?_)) ?_
                    · skip
                      refine .add rfl rfl rfl ?_
                      exact .fin1 (Fz.le_refl _)
                    refine .cons (.mk 48 (.int .i64 (w64 (s10.2.1.Spoiled + (w64 ((w64 (((ApiSpan.mk x23.First x23.Last).Hi) - ((ApiSpan.mk x23.First x23.Last).Lo))) + 1))))) [(41, (.int .i64 s10.2.1.Spoiled)), (47, (.int .i64 (w64 ((w64 (((ApiSpan.mk x23.First x23.Last).Hi) - ((ApiSpan.mk x23.First x23.Last).Lo))) + 1))))] rfl rfl rfl rfl (fun S hS hd => (.cons (hd.1 rfl rfl _ _ rfl) (.cons (hd.2.1 rfl rfl _ _ rfl) (Sub.nil _)))) (fun F_211 X l_212 => ?_)) ?_
                    · skip
                      refine .add rfl rfl rfl ?_
                      exact .fin1 (Fz.le_refl _)
                    exact .nil
                  refine .nilCheck rfl rfl ?_
                  refine .letv (fun x213 e214 => ?_)
                  have h215 : RepSl 2 (Ex cApiSpan) F_184 p13 k14 x213.Hand := by rw [e214]; exact (h15.mono (Fz.le_trans l_36 (Fz.le_trans l_44 (Fz.le_trans l_105 (Fz.le_trans l_109 l_186)))))
                  refine .store (cs' := (cApiStampBook x213 p13 k14)) Try.sizeOf3 rfl rfl rfl rfl (i := 5) rfl (Nat.le_of_ble_eq_true rfl) rfl (by rw [e214]; kernel_rfl) ?_
                  refine .nil ?_
                  refine .block ?_
                  refine .block ?_
                  refine .code ?_
                  refine .region ?_
                  refine .add rfl rfl rfl ?_
                  refine .move rfl rfl ?_
                  refine .nil ?_
                  refine .drop 1 ?_
                  refine .drop 0 ?_
                  exact .nil (LPost.norm fun a w h => ⟨F_184, p13, k14, p16, k17, p111, k112, (Fz.le_trans l_12 (Fz.le_trans l_36 (Fz.le_trans l_44 (Fz.le_trans l_105 (Fz.le_trans l_109 l_186))))), h215, (h116.mono l_186), (h117.mono l_186), h.1.sub (.cons (k := 0) rfl (.cons (k := 2) rfl (.cons (k := 5) rfl (.cons (k := 6) rfl (.cons (k := 19) rfl (.cons (k := 20) rfl (.cons (k := 21) rfl (.nil _)))))))), h.2⟩)
                obtain rfl : j118 = 3 := by have h0 := (idxO_some hj119).2.2.2; simp at hb120 hb150 hb183; omega
                refine .draw ⟨1000000, 0, [], 0⟩ [(36, (.pointer (some ⟨b33, 0 + 0, none⟩))), (37, (.int .i64 x23.Kind)), (38, (.pointer (some ⟨b9, 0 + 3 * 1, none⟩))), (39, (.pointer (some ⟨b5, 0 + 3, none⟩))), (40, (.pointer (some ⟨b5, 0 + 3, none⟩))), (41, (.int .i64 s10.2.1.Returned)), (42, (.pointer (some ⟨b34, 0 + 1, none⟩))), (43, (.int .i64 ((ApiSpan.mk x23.First x23.Last).Hi))), (44, (.pointer (some ⟨b34, 0 + 0, none⟩))), (45, (.int .i64 ((ApiSpan.mk x23.First x23.Last).Lo))), (46, (.int .i64 (w64 (((ApiSpan.mk x23.First x23.Last).Hi) - ((ApiSpan.mk x23.First x23.Last).Lo))))), (47, (.int .i64 (w64 ((w64 (((ApiSpan.mk x23.First x23.Last).Hi) - ((ApiSpan.mk x23.First x23.Last).Lo))) + 1)))), (48, (.int .i64 (w64 (s10.2.1.Returned + (w64 ((w64 (((ApiSpan.mk x23.First x23.Last).Hi) - ((ApiSpan.mk x23.First x23.Last).Lo))) + 1))))))] mixedOK (by kernel_rfl) (by kernel_rfl) rfl (by kernel_rfl) ?_ (fun F_216 b217 l_218 => ?_)
                · skip
                  refine .cons (.mk 36 (.pointer (some ⟨b33, 0 + 0, none⟩)) [(8, (.pointer (some ⟨b33, 0, none⟩)))] rfl rfl rfl rfl (fun S hS hd => (.cons (hS _ _ rfl) (Sub.nil _))) (fun F_219 X l_220 => ?_)) ?_
                  · skip
                    refine .fieldAddr rfl Try.underlying70 rfl Try.sizeOf3 rfl ?_
                    exact .fin1 (Fz.le_refl _)
                  refine .cons (.mk 37 (.int .i64 x23.Kind) [(36, (.pointer (some ⟨b33, 0 + 0, none⟩)))] rfl rfl rfl rfl (fun S hS hd => (.cons (hd.1 rfl rfl _ _ rfl) (Sub.nil _))) (fun F_221 X l_222 => ?_)) ?_
                  · skip
                    refine .loadO rfl Try.isAgg3 rfl (i := 1) rfl rfl ?_
                    exact .fin1 (Fz.le_refl _)
                  refine .cons (.mk 38 (.pointer (some ⟨b9, 0 + 3 * 1, none⟩)) [(6, (.pointer (some ⟨b9, 0, none⟩))), (37, (.int .i64 x23.Kind))] rfl rfl rfl rfl (fun S hS hd => (.cons (hS _ _ rfl) (.cons (hd.1 rfl rfl _ _ rfl) (Sub.nil _)))) (fun F_223 X l_224 => ?_)) ?_
                  · skip
                    refine .indexAddrA rfl Try.underlying85 Try.sizeOf84 rfl rfl hj119 ?_
                    exact .fin1 (Fz.le_refl _)
                  refine .cons (.mk 39 (.pointer (some ⟨b5, 0 + 3, none⟩)) [(38, (.pointer (some ⟨b9, 0 + 3 * 1, none⟩)))] rfl rfl rfl rfl (fun S hS hd => (.cons (hd.1 rfl rfl _ _ rfl) (Sub.nil _))) (fun F_225 X l_226 => ?_)) ?_
                  · skip
                    refine .loadO rfl Try.isAgg84 rfl (i := 2) rfl rfl ?_
                    exact .fin1 (Fz.le_refl _)
                  refine .cons (.mk 40 (.pointer (some ⟨b5, 0 + 3, none⟩)) [(39, (.pointer (some ⟨b5, 0 + 3, none⟩)))] rfl rfl rfl rfl (fun S hS hd => (.cons (hd.1 rfl rfl _ _ rfl) (Sub.nil _))) (fun F_227 X l_228 => ?_)) ?_
                  · skip
                    refine .nilCheck rfl rfl ?_
                    exact .fin1 (Fz.le_refl _)
                  refine .cons (.mk 41 (.int .i64 s10.2.1.Returned) [(40, (.pointer (some ⟨b5, 0 + 3, none⟩)))] rfl rfl rfl rfl (fun S hS hd => (.cons (hd.1 rfl rfl _ _ rfl) (Sub.nil _))) (fun F_229 X l_230 => ?_)) ?_
                  · skip
                    refine .loadO rfl Try.isAgg3 rfl (i := 5) rfl rfl ?_
                    exact .fin1 (Fz.le_refl _)
                  refine .cons (.mk 42 (.pointer (some ⟨b34, 0 + 1, none⟩)) [(9, (.pointer (some ⟨b34, 0, none⟩)))] rfl rfl rfl rfl (fun S hS hd => (.cons (hS _ _ rfl) (Sub.nil _))) (fun F_231 X l_232 => ?_)) ?_
                  · skip
                    refine .fieldAddr rfl Try.underlying36 rfl Try.sizeOf3 rfl ?_
                    exact .fin1 (Fz.le_refl _)
                  refine .cons (.mk 43 (.int .i64 ((ApiSpan.mk x23.First x23.Last).Hi)) [(42, (.pointer (some ⟨b34, 0 + 1, none⟩)))] rfl rfl rfl rfl (fun S hS hd => (.cons (hd.1 rfl rfl _ _ rfl) (Sub.nil _))) (fun F_233 X l_234 => ?_)) ?_
                  · skip
                    refine .loadO rfl Try.isAgg3 rfl (i := 0) rfl rfl ?_
                    exact .fin1 (Fz.le_refl _)
                  refine .cons (.mk 44 (.pointer (some ⟨b34, 0 + 0, none⟩)) [(9, (.pointer (some ⟨b34, 0, none⟩)))] rfl rfl rfl rfl (fun S hS hd => (.cons (hS _ _ rfl) (Sub.nil _))) (fun F_235 X l_236 => ?_)) ?_
                  · skip
                    refine .fieldAddr rfl Try.underlying36 rfl Try.sizeOf3 rfl ?_
                    exact .fin1 (Fz.le_refl _)
                  refine .cons (.mk 45 (.int .i64 ((ApiSpan.mk x23.First x23.Last).Lo)) [(44, (.pointer (some ⟨b34, 0 + 0, none⟩)))] rfl rfl rfl rfl (fun S hS hd => (.cons (hd.1 rfl rfl _ _ rfl) (Sub.nil _))) (fun F_237 X l_238 => ?_)) ?_
                  · skip
                    refine .loadO rfl Try.isAgg3 rfl (i := 0) rfl rfl ?_
                    exact .fin1 (Fz.le_refl _)
                  refine .cons (.mk 46 (.int .i64 (w64 (((ApiSpan.mk x23.First x23.Last).Hi) - ((ApiSpan.mk x23.First x23.Last).Lo)))) [(43, (.int .i64 ((ApiSpan.mk x23.First x23.Last).Hi))), (45, (.int .i64 ((ApiSpan.mk x23.First x23.Last).Lo)))] rfl rfl rfl rfl (fun S hS hd => (.cons (hd.1 rfl rfl _ _ rfl) (.cons (hd.2.1 rfl rfl _ _ rfl) (Sub.nil _)))) (fun F_239 X l_240 => ?_)) ?_
                  · skip
                    refine .sub rfl rfl rfl ?_
                    exact .fin1 (Fz.le_refl _)
                  refine .cons (.mk 47 (.int .i64 (w64 ((w64 (((ApiSpan.mk x23.First x23.Last).Hi) - ((ApiSpan.mk x23.First x23.Last).Lo))) + 1))) [(46, (.int .i64 (w64 (((ApiSpan.mk x23.First x23.Last).Hi) - ((ApiSpan.mk x23.First x23.Last).Lo)))))] rfl rfl rfl rfl (fun S hS hd => (.cons (hd.1 rfl rfl _ _ rfl) (Sub.nil _))) (fun F_241 X l_242 => ?_)) ?_
                  · skip
                    refine .add rfl rfl rfl ?_
                    exact .fin1 (Fz.le_refl _)
                  refine .cons (.mk 48 (.int .i64 (w64 (s10.2.1.Returned + (w64 ((w64 (((ApiSpan.mk x23.First x23.Last).Hi) - ((ApiSpan.mk x23.First x23.Last).Lo))) + 1))))) [(41, (.int .i64 s10.2.1.Returned)), (47, (.int .i64 (w64 ((w64 (((ApiSpan.mk x23.First x23.Last).Hi) - ((ApiSpan.mk x23.First x23.Last).Lo))) + 1))))] rfl rfl rfl rfl (fun S hS hd => (.cons (hd.1 rfl rfl _ _ rfl) (.cons (hd.2.1 rfl rfl _ _ rfl) (Sub.nil _)))) (fun F_243 X l_244 => ?_)) ?_
                  · skip
                    refine .add rfl rfl rfl ?_
                    exact .fin1 (Fz.le_refl _)
                  exact .nil
                refine .nilCheck rfl rfl ?_
                refine .letv (fun x245 e246 => ?_)
                have h247 : RepSl 2 (Ex cApiSpan) F_216 p13 k14 x245.Hand := by rw [e246]; exact (h15.mono (Fz.le_trans l_36 (Fz.le_trans l_44 (Fz.le_trans l_105 (Fz.le_trans l_109 l_218)))))
                refine .store (cs' := (cApiStampBook x245 p13 k14)) Try.sizeOf3 rfl rfl rfl rfl (i := 5) rfl (Nat.le_of_ble_eq_true rfl) rfl (by rw [e246]; kernel_rfl) ?_
                refine .nil ?_
                refine .block ?_
                refine .block ?_
                refine .code ?_
                refine .region ?_
                refine .add rfl rfl rfl ?_
                refine .move rfl rfl ?_
                refine .nil ?_
                refine .drop 1 ?_
                refine .drop 0 ?_
                exact .nil (LPost.norm fun a w h => ⟨F_216, p13, k14, p16, k17, p111, k112, (Fz.le_trans l_12 (Fz.le_trans l_36 (Fz.le_trans l_44 (Fz.le_trans l_105 (Fz.le_trans l_109 l_218))))), h247, (h116.mono l_218), (h117.mono l_218), h.1.sub (.cons (k := 0) rfl (.cons (k := 2) rfl (.cons (k := 5) rfl (.cons (k := 6) rfl (.cons (k := 19) rfl (.cons (k := 20) rfl (.cons (k := 21) rfl (.nil _)))))))), h.2⟩)
      · skip
        refine .exitOut rfl (LPost.exit fun a w h => ⟨rfl, F_11, p13, k14, p16, k17, p19, k20, l_12, h15, h18, h21, h.1.sub (.cons (k := 0) rfl (.cons (k := 2) rfl (.cons (k := 5) rfl (.nil _)))), h.2⟩)
    · intro b248 hb0 hk e a w hD
      rcases b248 with b248 | b248
      · skip
        obtain ⟨rfl, F_249, p251, k252, p254, k255, p257, k258, l_250, h253, h256, h259, hA⟩ := hD
        refine interp_exit rfl (GE.app ?_ hk a w hA)
        refine .code ?_
        refine .seq ?_
        refine .region ?_
        refine .fieldAddr rfl Try.underlying83 rfl Try.sizeOf81 rfl ?_
        refine .loadO rfl Try.isAgg81 rfl (i := 2) rfl rfl ?_
        refine .call0 rfl Try.call38 rfl rfl rfl (c_slices_Clone_Span _ b248.2.1.hand p257 k258 h259) ?_
        rintro r_267 F_265 _ - l_266 ⟨p268, k269, rfl, h270⟩
        refine .fieldAddr rfl Try.underlying26 rfl Try.sizeOf24 rfl ?_
        refine .letv (fun x271 e272 => ?_)
        have h273 : RepSl 2 (Ex cApiSpan) F_265 p268 k269 x271.Hand := by rw [e272]; exact h270
        refine .store (cs' := (cApiStampBook x271 p268 k269)) Try.sizeOf24 rfl rfl rfl rfl (i := 3) rfl (Nat.le_of_ble_eq_true rfl) rfl (by rw [e272]; kernel_rfl) ?_
        refine .nil ?_
        refine .code ?_
        refine .seq ?_
        refine .region ?_
        refine .loadOA rfl Try.isAgg26 Try.sizeOf26 rfl (i := 3) rfl (vs := (cApiStampBook x271 p268 k269)) (by kernel_rfl) rfl ?_
        refine .move rfl rfl ?_
        refine .lenS rfl rfl Try.underlying22 rfl ?_
        refine .store (cs' := (cApiStampBook x271 p268 k269)) Try.sizeOf26 rfl rfl rfl rfl (i := 3) rfl (Nat.le_of_ble_eq_true rfl) rfl (setMany_all (by rfl)) ?_
        refine .assignL rfl rfl (fun index274 e275 => ?_)
        refine .assign rfl rfl ?_
        refine .nil ?_
        refine .code ?_
        exact .ret0 Try.results12 (.agg rfl Try.isAgg26 Try.sizeOf26 (i := 3) rfl (vs' := (cApiStampBook x271 p268 k269)) (by kernel_rfl) rfl (.tmp rfl (.tmp rfl (.nil)))) (i := 4) rfl (Fz.le_trans l_250 l_266) ⟨p268, k269, rfl, h273⟩
      obtain ⟨rfl, F_260, p262, k263, l_261, h264, hA⟩ := hD
      exact interp_ret ((ret_post0 Try.results12 (.agg rfl Try.isAgg26 Try.sizeOf26 (i := 0) rfl (vs' := (cApiStampBook b248.1 p262 k263)) (by kernel_rfl) rfl (.tmp rfl (.tmp rfl (.nil)))) (i := 1) rfl l_261 ⟨p262, k263, rfl, h264⟩) hk a w hA)

noncomputable def b_bottle_Whose_1 (l_1 : (List ApiStampEvent)) (stamp5 : Int) (s14 : Int) : Option (Ctl (Int) ((Unit) ⊕ (Int × Int))) :=
  if (decide (s14 < (l_1.length : Int))) then ((idxL l_1 s14).bind fun x18 => if ((x18.Kind == 1) && (m_bottle_within stamp5 x18.First x18.Last)) then (some (.done (.inr (x18.Batch, 0)))) else (some (.next (w64 (s14 + 1))))) else (some (.done (.inl ())))
noncomputable def m_bottle_Whose (l_1 : (List ApiStampEvent)) (stamp5 : Int) : Option (Int × Int) :=
  (m_bottle_Stamps l_1).bind fun r_8 => if (r_8.2.2 != 0) then (some (0, r_8.2.2)) else ((loopM (b_bottle_Whose_1 l_1 stamp5) 0).bind fun b0 => match b0 with | .inl _b36 => (some (0, 4)) | .inr b36 => (some (b36.1, b36.2)))
theorem c_bottle_Whose (F0 : Fz) (l_1 : (List ApiStampEvent)) (p2 : Option Addr) (k3 : Nat) (h4 : RepSl 4 (Ex cApiStampEvent) F0 p2 k3 l_1) (stamp5 : Int) : CT0 Try.prog 14 [(.slice p2 l_1.length k3), (.int .i64 stamp5)].toArray F0 (m_bottle_Whose l_1 stamp5) (fun r _ v => v = .tuple #[(.int .i64 r.1), (.int .i64 r.2)]) := by
  refine CT0.enter Try.func14 rfl Try.ntmps14 rfl fun r R => ?_
  unfold m_bottle_Whose
  refine .seq ?_
  refine .region ?_
  refine .assign rfl rfl ?_
  refine .assign rfl rfl ?_
  refine .nil ?_
  refine .code ?_
  refine .seq ?_
  refine .seq ?_
  refine .region ?_
  refine .move rfl rfl ?_
  refine .call0 rfl Try.call12 rfl rfl rfl (c_bottle_Stamps _ l_1 p2 k3 h4) ?_
  rintro r_8 F_6 _ - l_7 ⟨p9, k10, rfl, h11⟩
  refine .move rfl rfl ?_
  refine .extract rfl rfl rfl ?_
  refine .extract rfl rfl rfl ?_
  refine .extract rfl rfl rfl ?_
  refine .alloc (cs := (cApiStampBook (ApiStampBook.mk ([]) 0 0 0) none 0)) rfl Try.zeroValue26 rfl (fun b12 => ?_)
  refine .store (cs' := (cApiStampBook r_8.1 p9 k10)) Try.sizeOf26 rfl rfl rfl rfl (i := 0) rfl (Nat.le_of_ble_eq_true rfl) rfl (setMany_all (by rfl)) ?_
  refine .assign rfl rfl ?_
  refine .assign rfl rfl ?_
  refine .nil ?_
  refine .code ?_
  refine .seq ?_
  refine .region ?_
  refine .move rfl rfl ?_
  refine .neq rfl rfl rfl ?_
  refine .nil ?_
  refine .code ?_
  refine .cond rfl (fun hb13 => ?_) (fun hb13 => ?_)
  · skip
    refine .seq ?_
    refine .region ?_
    refine .move rfl rfl ?_
    refine .assign rfl rfl ?_
    refine .assign rfl rfl ?_
    refine .nil ?_
    refine .code ?_
    exact .ret0 Try.results14 (.tmp rfl (.tmp rfl (.nil))) (i := 1) rfl l_7 rfl
  · skip
    refine .skip ?_
    refine .code ?_
    refine .seq ?_
    refine .seq ?_
    refine .region ?_
    refine .move rfl rfl ?_
    refine .lenS rfl rfl Try.underlying22 rfl ?_
    refine .move rfl rfl ?_
    refine .nil ?_
    refine .code ?_
    refine .block ?_
    refine .keep (.cons (k := 1) rfl (.cons (k := 20) rfl (.cons (k := 21) rfl (.cons (k := 22) rfl (.nil _))))) ?_
    refine .loop (fun (s14 : Int) a w => ∃ (F_15 : Fz), F_6 ≤ F_15 ∧ Hd 40 [] [(1, (.int .i64 stamp5)), (20, (.slice p2 l_1.length k3)), (21, (.int .i64 (l_1.length : Int))), (22, (.int .i64 s14))] F_15 [pt b12 (.cells (cApiStampBook r_8.1 p9 k10).toArray 26), R] a w) (fun b0 e a w => match b0 with | .inl b36 => e = .exit 0 ∧ ∃ (F_37 : Fz), F_6 ≤ F_37 ∧ Hd 40 [] [] F_37 [pt b12 (.cells (cApiStampBook r_8.1 p9 k10).toArray 26), R] a w | .inr b36 => e = .ret ∧ ∃ (F_39 : Fz), F_6 ≤ F_39 ∧ Hd 40 [] [(4, (.int .i64 b36.1)), (5, (.int .i64 b36.2))] F_39 [R] a w) ?_ ?_ ?_
    · exact fun a w h => ⟨F_6, (Fz.le_refl _), h.1.sub (.cons (k := 1) rfl (.cons (k := 20) rfl (.cons (k := 21) rfl (.cons (k := 22) rfl (.nil _))))), h.2⟩
    · intro s14 ctl
      refine GC.ex (fun a w ⟨F_15, l_16, hA⟩ => ⟨_, hA, ?_⟩)
      unfold b_bottle_Whose_1
      refine .seq ?_
      refine .region ?_
      refine .lss rfl rfl rfl ?_
      refine .nil ?_
      refine .code ?_
      refine .seq ?_
      refine .cond rfl (fun hb17 => ?_) (fun hb17 => ?_)
      · skip
        refine .skip ?_
        refine .code ?_
        refine .seq ?_
        refine .block ?_
        refine .seq ?_
        refine .region ?_
        refine .idx rfl Try.underlying22 Try.sizeOf70 (h4.mono (Fz.le_trans l_7 l_16)) rfl rfl (fun x18 b19 o20 T21 fr22 cs23 e24 hm25 hv26 => ?_)
        refine .loadFA rfl Try.isAgg70 Try.sizeOf70 rfl hm25 hv26 rfl ?_
        refine .alloc (cs := (cApiStampEvent (ApiStampEvent.mk 0 0 0 0))) rfl Try.zeroValue70 rfl (fun b28 => ?_)
        refine .store (cs' := (cApiStampEvent x18)) Try.sizeOf70 rfl rfl rfl rfl (i := 0) rfl (Nat.le_of_ble_eq_true rfl) rfl (setMany_all (by rfl)) ?_
        refine .nil ?_
        refine .code ?_
        refine .seq ?_
        refine .region ?_
        refine .fieldAddr rfl Try.underlying70 rfl Try.sizeOf3 rfl ?_
        refine .loadO rfl Try.isAgg3 rfl (i := 0) rfl rfl ?_
        refine .eql rfl rfl rfl ?_
        refine .move rfl rfl ?_
        refine .andP (b := (x18.Kind == 1)) (b' := (m_bottle_within stamp5 x18.First x18.Last)) 7 36 (fun hb29 => ?_) (fun hb32 => ?_) (fun F_33 l_34 => ?_)
        · skip
          refine .onH hb29 rfl rfl ?_
          refine .move rfl rfl ?_
          refine .onH hb29 rfl rfl ?_
          refine .fieldAddr rfl Try.underlying70 rfl Try.sizeOf3 rfl ?_
          refine .onH hb29 rfl rfl ?_
          refine .loadO rfl Try.isAgg3 rfl (i := 0) rfl rfl ?_
          refine .onH hb29 rfl rfl ?_
          refine .fieldAddr rfl Try.underlying70 rfl Try.sizeOf3 rfl ?_
          refine .onH hb29 rfl rfl ?_
          refine .loadO rfl Try.isAgg3 rfl (i := 0) rfl rfl ?_
          refine .onH hb29 rfl rfl ?_
          refine .callP rfl Try.call44 rfl rfl rfl (c_bottle_within _ stamp5 x18.First x18.Last) ?_
          rintro F_30 _ l_31 rfl
          refine .pickTH hb29 rfl rfl rfl ?_
          exact .fin 7 rfl rfl (by kernel_rfl) l_31
        · skip
          refine .offH hb32 rfl rfl rfl ?_
          refine .offH hb32 rfl rfl rfl ?_
          refine .offH hb32 rfl rfl rfl ?_
          refine .offH hb32 rfl rfl rfl ?_
          refine .offH hb32 rfl rfl rfl ?_
          refine .offH hb32 rfl rfl rfl ?_
          refine .pickFH hb32 rfl rfl rfl ?_
          exact .fin 7 rfl rfl (by kernel_rfl) (Fz.le_refl _)
        refine .nil ?_
        refine .code ?_
        refine .cond rfl (fun hb35 => ?_) (fun hb35 => ?_)
        · skip
          refine .seq ?_
          refine .region ?_
          refine .fieldAddr rfl Try.underlying70 rfl Try.sizeOf3 rfl ?_
          refine .loadO rfl Try.isAgg3 rfl (i := 0) rfl rfl ?_
          refine .assign rfl rfl ?_
          refine .assign rfl rfl ?_
          refine .nil ?_
          refine .code ?_
          refine .drop 1 ?_
          refine .drop 0 ?_
          refine .retQ (LPost.ret fun a w h => ⟨rfl, F_33, (Fz.le_trans l_16 l_34), h.1.sub (.cons (k := 4) rfl (.cons (k := 5) rfl (.nil _))), h.2⟩)
        · skip
          refine .skip ?_
          refine .block ?_
          refine .code ?_
          refine .region ?_
          refine .add rfl rfl rfl ?_
          refine .move rfl rfl ?_
          refine .nil ?_
          refine .drop 0 ?_
          exact .nil (LPost.norm fun a w h => ⟨F_33, (Fz.le_trans l_16 l_34), h.1.sub (.cons (k := 1) rfl (.cons (k := 20) rfl (.cons (k := 21) rfl (.cons (k := 22) rfl (.nil _))))), h.2⟩)
      · skip
        refine .exitOut rfl (LPost.exit fun a w h => ⟨rfl, F_15, l_16, h.1.sub (.nil _), h.2⟩)
    · intro b36 hb0 hk e a w hD
      rcases b36 with b36 | b36
      · skip
        obtain ⟨rfl, F_37, l_38, hA⟩ := hD
        refine interp_exit rfl (GE.app ?_ hk a w hA)
        refine .code ?_
        refine .seq ?_
        refine .region ?_
        refine .assign rfl rfl ?_
        refine .assign rfl rfl ?_
        refine .nil ?_
        refine .code ?_
        exact .ret0 Try.results14 (.tmp rfl (.tmp rfl (.nil))) (i := 1) rfl (Fz.le_trans l_7 l_38) rfl
      obtain ⟨rfl, F_39, l_40, hA⟩ := hD
      exact interp_ret ((ret_post0 Try.results14 (.tmp rfl (.tmp rfl (.nil))) (i := 0) rfl (Fz.le_trans l_7 l_40) rfl) hk a w hA)

noncomputable def b_wormtubref12_Spans_1 (a1 : (List ApiSpan)) (b5 : (List ApiSpan)) (s10 : Int) : Option (Ctl (Int) ((Unit) ⊕ (Bool))) :=
  if (decide (s10 < (a1.length : Int))) then ((idxL a1 s10).bind fun x14 => (idxL b5 s10).bind fun x24 => if (!(eq_36 x14 x24)) then (some (.done (.inr false))) else (bindv (w64 (s10 + 1)) fun i56 => some (.next i56))) else (some (.done (.inl ())))
noncomputable def m_wormtubref12_Spans (a1 : (List ApiSpan)) (b5 : (List ApiSpan)) : Option Bool :=
  if ((a1.length : Int) != (b5.length : Int)) then (some false) else ((loopM (b_wormtubref12_Spans_1 a1 b5) 0).bind fun b0 => match b0 with | .inl _b58 => (some true) | .inr b58 => (some b58))
theorem c_wormtubref12_Spans (F0 : Fz) (a1 : (List ApiSpan)) (p2 : Option Addr) (k3 : Nat) (h4 : RepSl 2 (Ex cApiSpan) F0 p2 k3 a1) (b5 : (List ApiSpan)) (p6 : Option Addr) (k7 : Nat) (h8 : RepSl 2 (Ex cApiSpan) F0 p6 k7 b5) : CT0 Try.prog 16 [(.slice p2 a1.length k3), (.slice p6 b5.length k7)].toArray F0 (m_wormtubref12_Spans a1 b5) (fun r _ v => v = (.bool r)) := by
  refine CT0.enter Try.func16 rfl Try.ntmps16 rfl fun r R => ?_
  unfold m_wormtubref12_Spans
  refine .seq ?_
  refine .region ?_
  refine .assign rfl rfl ?_
  refine .nil ?_
  refine .code ?_
  refine .seq ?_
  refine .seq ?_
  refine .region ?_
  refine .move rfl rfl ?_
  refine .lenS rfl rfl Try.underlying24 rfl ?_
  refine .move rfl rfl ?_
  refine .lenS rfl rfl Try.underlying24 rfl ?_
  refine .neq rfl rfl rfl ?_
  refine .nil ?_
  refine .code ?_
  refine .cond rfl (fun hb9 => ?_) (fun hb9 => ?_)
  · skip
    refine .seq ?_
    refine .region ?_
    refine .assign rfl rfl ?_
    refine .nil ?_
    refine .code ?_
    exact .ret0 Try.results16 (.tmp rfl (.nil)) (i := 0) rfl (Fz.le_refl _) rfl
  · skip
    refine .skip ?_
    refine .code ?_
    refine .seq ?_
    refine .seq ?_
    refine .region ?_
    refine .assign rfl rfl ?_
    refine .nil ?_
    refine .code ?_
    refine .block ?_
    refine .keep (.cons (k := 0) rfl (.cons (k := 1) rfl (.cons (k := 5) rfl (.nil _)))) ?_
    refine .loop (fun (s10 : Int) a w => ∃ (F_11 : Fz), F0 ≤ F_11 ∧ Hd 26 [] [(0, (.slice p2 a1.length k3)), (1, (.slice p6 b5.length k7)), (5, (.int .i64 s10))] F_11 [R] a w) (fun b0 e a w => match b0 with | .inl b58 => e = .exit 0 ∧ ∃ (F_59 : Fz), F0 ≤ F_59 ∧ Hd 26 [] [] F_59 [R] a w | .inr b58 => e = .ret ∧ ∃ (F_61 : Fz), F0 ≤ F_61 ∧ Hd 26 [] [(4, (.bool b58))] F_61 [R] a w) ?_ ?_ ?_
    · exact fun a w h => ⟨F0, (Fz.le_refl _), h.1.sub (.cons (k := 0) rfl (.cons (k := 1) rfl (.cons (k := 5) rfl (.nil _)))), h.2⟩
    · intro s10 ctl
      refine GC.ex (fun a w ⟨F_11, l_12, hA⟩ => ⟨_, hA, ?_⟩)
      unfold b_wormtubref12_Spans_1
      refine .seq ?_
      refine .seq ?_
      refine .region ?_
      refine .move rfl rfl ?_
      refine .move rfl rfl ?_
      refine .lenS rfl rfl Try.underlying24 rfl ?_
      refine .lss rfl rfl rfl ?_
      refine .nil ?_
      refine .code ?_
      refine .cond rfl (fun hb13 => ?_) (fun hb13 => ?_)
      · skip
        refine .skip ?_
        refine .code ?_
        refine .seq ?_
        refine .block ?_
        refine .seq ?_
        refine .keep (.cons (k := 0) rfl (.cons (k := 1) rfl (.cons (k := 5) rfl (.nil _)))) ?_
        refine .bind (fun x14 e20 => ?_)
        obtain ⟨b15, o16, T17, fr18, cs19, hm21, hv22, hq23⟩ := RepSl.idxE (h4.mono l_12) e20
        refine .bind (fun x24 e30 => ?_)
        obtain ⟨b25, o26, T27, fr28, cs29, hm31, hv32, hq33⟩ := RepSl.idxE (h8.mono l_12) e30
        refine .draw ⟨1000000, 0, [], 0⟩ [(17, (.slice p2 a1.length k3)), (18, (.int .i64 s10)), (19, (.pointer (some ⟨b15, o16, none⟩))), (20, (eApiSpan x14)), (21, (.slice p6 b5.length k7)), (22, (.int .i64 s10)), (23, (.pointer (some ⟨b25, o26, none⟩))), (24, (eApiSpan x24)), (25, (.bool (!(eq_36 x14 x24))))] mixedOK (by kernel_rfl) (by kernel_rfl) rfl (by kernel_rfl) ?_ (fun F_34 b35 l_36 => ?_)
        · skip
          refine .cons (.mk 17 (.slice p2 a1.length k3) [(0, (.slice p2 a1.length k3))] rfl rfl rfl rfl (fun S hS hd => (.cons (hS _ _ rfl) (Sub.nil _))) (fun F_37 X l_38 => ?_)) ?_
          · skip
            refine .move rfl rfl ?_
            exact .fin1 (Fz.le_refl _)
          refine .cons (.mk 18 (.int .i64 s10) [(5, (.int .i64 s10))] rfl rfl rfl rfl (fun S hS hd => (.cons (hS _ _ rfl) (Sub.nil _))) (fun F_39 X l_40 => ?_)) ?_
          · skip
            refine .move rfl rfl ?_
            exact .fin1 (Fz.le_refl _)
          refine .cons (.mk 19 (.pointer (some ⟨b15, o16, none⟩)) [(17, (.slice p2 a1.length k3)), (18, (.int .i64 s10))] rfl rfl rfl rfl (fun S hS hd => (.cons (hd.1 rfl rfl _ _ rfl) (.cons (hd.2.1 rfl rfl _ _ rfl) (Sub.nil _)))) (fun F_41 X l_42 => ?_)) ?_
          · skip
            refine .idxQ rfl Try.underlying24 Try.sizeOf36 hq23 rfl rfl ?_
            exact .fin1 (Fz.le_refl _)
          refine .cons (.mk 20 (eApiSpan x14) [(19, (.pointer (some ⟨b15, o16, none⟩)))] rfl rfl rfl rfl (fun S hS hd => (.cons (hd.1 rfl rfl _ _ rfl) (Sub.nil _))) (fun F_43 X l_44 => ?_)) ?_
          · skip
            refine .loadFA rfl Try.isAgg36 Try.sizeOf36 rfl (l_44.mem _ _ hm21) hv22 rfl ?_
            exact .fin1 (Fz.le_refl _)
          refine .cons (.mk 21 (.slice p6 b5.length k7) [(1, (.slice p6 b5.length k7))] rfl rfl rfl rfl (fun S hS hd => (.cons (hS _ _ rfl) (Sub.nil _))) (fun F_45 X l_46 => ?_)) ?_
          · skip
            refine .move rfl rfl ?_
            exact .fin1 (Fz.le_refl _)
          refine .cons (.mk 22 (.int .i64 s10) [(5, (.int .i64 s10))] rfl rfl rfl rfl (fun S hS hd => (.cons (hS _ _ rfl) (Sub.nil _))) (fun F_47 X l_48 => ?_)) ?_
          · skip
            refine .move rfl rfl ?_
            exact .fin1 (Fz.le_refl _)
          refine .cons (.mk 23 (.pointer (some ⟨b25, o26, none⟩)) [(21, (.slice p6 b5.length k7)), (22, (.int .i64 s10))] rfl rfl rfl rfl (fun S hS hd => (.cons (hd.1 rfl rfl _ _ rfl) (.cons (hd.2.1 rfl rfl _ _ rfl) (Sub.nil _)))) (fun F_49 X l_50 => ?_)) ?_
          · skip
            refine .idxQ rfl Try.underlying24 Try.sizeOf36 hq33 rfl rfl ?_
            exact .fin1 (Fz.le_refl _)
          refine .cons (.mk 24 (eApiSpan x24) [(23, (.pointer (some ⟨b25, o26, none⟩)))] rfl rfl rfl rfl (fun S hS hd => (.cons (hd.1 rfl rfl _ _ rfl) (Sub.nil _))) (fun F_51 X l_52 => ?_)) ?_
          · skip
            refine .loadFA rfl Try.isAgg36 Try.sizeOf36 rfl (l_52.mem _ _ hm31) hv32 rfl ?_
            exact .fin1 (Fz.le_refl _)
          refine .cons (.mk 25 (.bool (!(eq_36 x14 x24))) [(20, (eApiSpan x14)), (24, (eApiSpan x24))] rfl rfl rfl rfl (fun S hS hd => (.cons (hd.1 rfl rfl _ _ rfl) (.cons (hd.2.1 rfl rfl _ _ rfl) (Sub.nil _)))) (fun F_53 X l_54 => ?_)) ?_
          · skip
            refine .neqR rfl Try.eqGuardType36 (fun w => req_36 x14 x24 w) rfl rfl ?_
            exact .fin1 (Fz.le_refl _)
          exact .nil
        refine .nil ?_
        refine .code ?_
        refine .cond rfl (fun hb55 => ?_) (fun hb55 => ?_)
        · skip
          refine .seq ?_
          refine .region ?_
          refine .assign rfl rfl ?_
          refine .nil ?_
          refine .code ?_
          refine .retQ (LPost.ret fun a w h => ⟨rfl, F_34, (Fz.le_trans l_12 l_36), h.1.sub (.cons (k := 4) rfl (.nil _)), h.2⟩)
        · skip
          refine .skip ?_
          refine .block ?_
          refine .code ?_
          refine .region ?_
          refine .move rfl rfl ?_
          refine .add rfl rfl rfl ?_
          refine .assignL rfl rfl (fun i56 e57 => ?_)
          refine .nil ?_
          exact .nil (LPost.norm fun a w h => ⟨F_34, (Fz.le_trans l_12 l_36), h.1.sub (.cons (k := 0) rfl (.cons (k := 1) rfl (.cons (k := 5) rfl (.nil _)))), h.2⟩)
      · skip
        refine .exitOut rfl (LPost.exit fun a w h => ⟨rfl, F_11, l_12, h.1.sub (.nil _), h.2⟩)
    · intro b58 hb0 hk e a w hD
      rcases b58 with b58 | b58
      · skip
        obtain ⟨rfl, F_59, l_60, hA⟩ := hD
        refine interp_exit rfl (GE.app ?_ hk a w hA)
        refine .code ?_
        refine .seq ?_
        refine .region ?_
        refine .assign rfl rfl ?_
        refine .nil ?_
        refine .code ?_
        exact .ret0 Try.results16 (.tmp rfl (.nil)) (i := 0) rfl l_60 rfl
      obtain ⟨rfl, F_61, l_62, hA⟩ := hD
      exact interp_ret ((ret_post0 Try.results16 (.tmp rfl (.nil)) (i := 0) rfl l_62 rfl) hk a w hA)

def m_bottle_isDay (n_1 : Int) : Bool :=
  (m_bottle_within n_1 0 65536)
theorem c_bottle_isDay (F0 : Fz) (n_1 : Int) : CT0 Try.prog 89 [(.int .i64 n_1)].toArray F0 (some (m_bottle_isDay n_1)) (fun r _ v => v = (.bool r)) := by
  refine CT0.enter Try.func89 rfl Try.ntmps89 rfl fun r R => ?_
  refine .seq ?_
  refine .region ?_
  refine .assign rfl rfl ?_
  refine .nil ?_
  refine .code ?_
  refine .seq ?_
  refine .region ?_
  refine .move rfl rfl ?_
  refine .callP rfl Try.call44 rfl rfl rfl (c_bottle_within _ n_1 0 65536) ?_
  rintro F_2 _ l_3 rfl
  refine .assign rfl rfl ?_
  refine .nil ?_
  refine .code ?_
  exact .ret0 Try.results89 (.tmp rfl (.nil)) (i := 0) rfl l_3 rfl

noncomputable def b_bottle_sum_1 (l_1 : (List Int)) (s5 : Int × Int) : Option (Ctl (Int × Int) ((Int) ⊕ (Int × Bool))) :=
  if (decide (s5.2 < (l_1.length : Int))) then ((idxL l_1 s5.2).bind fun x9 => if (!(m_bottle_isDay x9)) then (some (.done (.inr (0, false)))) else (bindv (w64 (s5.1 + x9)) fun n_22 => some (.next (n_22, (w64 (s5.2 + 1)))))) else (some (.done (.inl s5.1)))
noncomputable def m_bottle_sum (l_1 : (List Int)) : Option (Int × Bool) :=
  (loopM (b_bottle_sum_1 l_1) (0, 0)).bind fun b0 => match b0 with | .inl b24 => (some (b24, true)) | .inr b24 => (some (b24.1, b24.2))
theorem c_bottle_sum (F0 : Fz) (l_1 : (List Int)) (p2 : Option Addr) (k3 : Nat) (h4 : RepSl 1 (Ex (cInt .i64)) F0 p2 k3 l_1) : CT0 Try.prog 103 [(.slice p2 l_1.length k3)].toArray F0 (m_bottle_sum l_1) (fun r _ v => v = .tuple #[(.int .i64 r.1), (.bool r.2)]) := by
  refine CT0.enter Try.func103 rfl Try.ntmps103 rfl fun r R => ?_
  unfold m_bottle_sum
  refine .seq ?_
  refine .region ?_
  refine .assign rfl rfl ?_
  refine .assign rfl rfl ?_
  refine .nil ?_
  refine .code ?_
  refine .seq ?_
  refine .region ?_
  refine .assign rfl rfl ?_
  refine .nil ?_
  refine .code ?_
  refine .seq ?_
  refine .seq ?_
  refine .region ?_
  refine .move rfl rfl ?_
  refine .lenS rfl rfl Try.underlying40 rfl ?_
  refine .move rfl rfl ?_
  refine .nil ?_
  refine .code ?_
  refine .block ?_
  refine .keep (.cons (k := 4) rfl (.cons (k := 7) rfl (.cons (k := 8) rfl (.cons (k := 9) rfl (.nil _))))) ?_
  refine .loop (fun (s5 : Int × Int) a w => ∃ (F_6 : Fz), F0 ≤ F_6 ∧ Hd 21 [] [(4, (.int .i64 s5.1)), (7, (.slice p2 l_1.length k3)), (8, (.int .i64 (l_1.length : Int))), (9, (.int .i64 s5.2))] F_6 [R] a w) (fun b0 e a w => match b0 with | .inl b24 => e = .exit 0 ∧ ∃ (F_25 : Fz), F0 ≤ F_25 ∧ Hd 21 [] [(4, (.int .i64 b24))] F_25 [R] a w | .inr b24 => e = .ret ∧ ∃ (F_27 : Fz), F0 ≤ F_27 ∧ Hd 21 [] [(2, (.int .i64 b24.1)), (3, (.bool b24.2))] F_27 [R] a w) ?_ ?_ ?_
  · exact fun a w h => ⟨F0, (Fz.le_refl _), h.1.sub (.cons (k := 4) rfl (.cons (k := 7) rfl (.cons (k := 8) rfl (.cons (k := 9) rfl (.nil _))))), h.2⟩
  · intro s5 ctl
    refine GC.ex (fun a w ⟨F_6, l_7, hA⟩ => ⟨_, hA, ?_⟩)
    unfold b_bottle_sum_1
    refine .seq ?_
    refine .region ?_
    refine .lss rfl rfl rfl ?_
    refine .nil ?_
    refine .code ?_
    refine .seq ?_
    refine .cond rfl (fun hb8 => ?_) (fun hb8 => ?_)
    · skip
      refine .skip ?_
      refine .code ?_
      refine .seq ?_
      refine .block ?_
      refine .seq ?_
      refine .region ?_
      refine .idx rfl Try.underlying40 Try.sizeOf3 (h4.mono l_7) rfl rfl (fun x9 b10 o11 T12 fr13 cs14 e15 hm16 hv17 => ?_)
      refine .loadF rfl Try.isAgg3 rfl hm16 (cell_of_take (k := 0) hv17 rfl) ?_
      refine .assign rfl rfl ?_
      refine .nil ?_
      refine .code ?_
      refine .seq ?_
      refine .seq ?_
      refine .region ?_
      refine .move rfl rfl ?_
      refine .callP rfl Try.call89 rfl rfl rfl (c_bottle_isDay _ x9) ?_
      rintro F_19 _ l_20 rfl
      refine .not rfl rfl ?_
      refine .nil ?_
      refine .code ?_
      refine .cond rfl (fun hb21 => ?_) (fun hb21 => ?_)
      · skip
        refine .seq ?_
        refine .region ?_
        refine .assign rfl rfl ?_
        refine .assign rfl rfl ?_
        refine .nil ?_
        refine .code ?_
        refine .retQ (LPost.ret fun a w h => ⟨rfl, F_19, (Fz.le_trans l_7 l_20), h.1.sub (.cons (k := 2) rfl (.cons (k := 3) rfl (.nil _))), h.2⟩)
      · skip
        refine .skip ?_
        refine .code ?_
        refine .region ?_
        refine .move rfl rfl ?_
        refine .move rfl rfl ?_
        refine .add rfl rfl rfl ?_
        refine .assignL rfl rfl (fun n_22 e23 => ?_)
        refine .nil ?_
        refine .block ?_
        refine .code ?_
        refine .region ?_
        refine .add rfl rfl rfl ?_
        refine .move rfl rfl ?_
        refine .nil ?_
        exact .nil (LPost.norm fun a w h => ⟨F_19, (Fz.le_trans l_7 l_20), h.1.sub (.cons (k := 4) rfl (.cons (k := 7) rfl (.cons (k := 8) rfl (.cons (k := 9) rfl (.nil _))))), h.2⟩)
    · skip
      refine .exitOut rfl (LPost.exit fun a w h => ⟨rfl, F_6, l_7, h.1.sub (.cons (k := 4) rfl (.nil _)), h.2⟩)
  · intro b24 hb0 hk e a w hD
    rcases b24 with b24 | b24
    · skip
      obtain ⟨rfl, F_25, l_26, hA⟩ := hD
      refine interp_exit rfl (GE.app ?_ hk a w hA)
      refine .code ?_
      refine .seq ?_
      refine .region ?_
      refine .move rfl rfl ?_
      refine .assign rfl rfl ?_
      refine .assign rfl rfl ?_
      refine .nil ?_
      refine .code ?_
      exact .ret0 Try.results103 (.tmp rfl (.tmp rfl (.nil))) (i := 0) rfl l_26 rfl
    obtain ⟨rfl, F_27, l_28, hA⟩ := hD
    exact interp_ret ((ret_post0 Try.results103 (.tmp rfl (.tmp rfl (.nil))) (i := 0) rfl l_28 rfl) hk a w hA)

noncomputable def m_bottle_isDraught (d1 : ApiDraught) : Option Bool :=
  (m_bottle_sum (arrL 8 d1.From.Woods)).bind fun r_9 => (m_bottle_sum (arrL 8 d1.From.Places)).bind fun r_13 => bindv (((r_9.2 && r_13.2) && (m_bottle_isDay d1.From.Age)) && (decide (d1.From.Age ≥ (imax r_9.1 r_13.1)))) fun times28 => some (((times28 && (m_bottle_within d1.From.Number 0 1073741824)) && (m_bottle_within d1.Amount 1 1073741824)) && (m_bottle_isSpan d1.Strength 10000))
theorem c_bottle_isDraught (F0 : Fz) (d1 : ApiDraught) : CT0 Try.prog 81 [(eApiDraught d1)].toArray F0 (m_bottle_isDraught d1) (fun r _ v => v = (.bool r)) := by
  refine CT0.enter Try.func81 rfl Try.ntmps81 rfl fun r R => ?_
  unfold m_bottle_isDraught
  refine .seq ?_
  refine .region ?_
  refine .boxF (cs := (cApiDraught d1)) rfl rfl rfl (fun b2 F_3 l_4 hb5 => ?_)
  refine .assign rfl rfl ?_
  refine .nil ?_
  refine .code ?_
  refine .seq ?_
  refine .region ?_
  refine .fieldAddr rfl Try.underlying51 rfl Try.sizeOf49 rfl ?_
  refine .fieldAddr rfl Try.underlying49 rfl Try.sizeOf47 rfl ?_
  have h6 : RepSl 1 (Ex (cInt .i64)) F_3 (some ⟨b2, 0 + 0 + 8, none⟩) 8 (arrL 8 d1.From.Woods) := RepSl.ofArr (cs := (cApiDraught d1)) hb5 (arrL_len _ _) rfl (arrL_all (allLt8 (p := fun j => ∀ F', F_3 ≤ F' → (((cApiDraught d1)).drop (0 + 0 + 8 + j * 1)).take 1 = (cInt .i64) (d1.From.Woods j)) (fun _ _ => rfl) (fun _ _ => rfl) (fun _ _ => rfl) (fun _ _ => rfl) (fun _ _ => rfl) (fun _ _ => rfl) (fun _ _ => rfl) (fun _ _ => rfl)))
  refine .sliceArr rfl Try.underlying47 Try.sizeOf3 rfl rfl ?_
  skip
  refine .call0 rfl Try.call103 rfl rfl rfl (c_bottle_sum _ (arrL 8 d1.From.Woods) (some ⟨b2, 0 + 0 + 8, none⟩) 8 h6) ?_
  rintro r_9 F_7 _ - l_8 rfl
  refine .move rfl rfl ?_
  refine .extract rfl rfl rfl ?_
  refine .extract rfl rfl rfl ?_
  refine .assign rfl rfl ?_
  refine .assign rfl rfl ?_
  refine .nil ?_
  refine .code ?_
  refine .seq ?_
  refine .region ?_
  refine .fieldAddr rfl Try.underlying51 rfl Try.sizeOf49 rfl ?_
  refine .fieldAddr rfl Try.underlying49 rfl Try.sizeOf47 rfl ?_
  have h10 : RepSl 1 (Ex (cInt .i64)) F_7 (some ⟨b2, 0 + 0 + 16, none⟩) 8 (arrL 8 d1.From.Places) := RepSl.ofArr (cs := (cApiDraught d1)) (l_8.mem _ _ hb5) (arrL_len _ _) rfl (arrL_all (allLt8 (p := fun j => ∀ F', F_7 ≤ F' → (((cApiDraught d1)).drop (0 + 0 + 16 + j * 1)).take 1 = (cInt .i64) (d1.From.Places j)) (fun _ _ => rfl) (fun _ _ => rfl) (fun _ _ => rfl) (fun _ _ => rfl) (fun _ _ => rfl) (fun _ _ => rfl) (fun _ _ => rfl) (fun _ _ => rfl)))
  refine .sliceArr rfl Try.underlying47 Try.sizeOf3 rfl rfl ?_
  skip
  refine .call0 rfl Try.call103 rfl rfl rfl (c_bottle_sum _ (arrL 8 d1.From.Places) (some ⟨b2, 0 + 0 + 16, none⟩) 8 h10) ?_
  rintro r_13 F_11 _ - l_12 rfl
  refine .move rfl rfl ?_
  refine .extract rfl rfl rfl ?_
  refine .extract rfl rfl rfl ?_
  refine .assign rfl rfl ?_
  refine .assign rfl rfl ?_
  refine .nil ?_
  refine .code ?_
  refine .seq ?_
  refine .region ?_
  refine .move rfl rfl ?_
  refine .move rfl rfl ?_
  refine .andP (b := r_9.2) (b' := r_13.2) 2 25 (fun hb14 => ?_) (fun hb15 => ?_) (fun F_16 l_17 => ?_)
  · skip
    refine .onH hb14 rfl rfl ?_
    refine .move rfl rfl ?_
    refine .pickTH hb14 rfl rfl rfl ?_
    exact .fin 2 rfl rfl (by kernel_rfl) (Fz.le_refl _)
  · skip
    refine .offH hb15 rfl rfl rfl ?_
    refine .pickFH hb15 rfl rfl rfl ?_
    exact .fin 2 rfl rfl (by kernel_rfl) (Fz.le_refl _)
  refine .move rfl rfl ?_
  refine .andP (b := (r_9.2 && r_13.2)) (b' := (m_bottle_isDay d1.From.Age)) 5 31 (fun hb18 => ?_) (fun hb21 => ?_) (fun F_22 l_23 => ?_)
  · skip
    refine .onH hb18 rfl rfl ?_
    refine .fieldAddr rfl Try.underlying51 rfl Try.sizeOf49 rfl ?_
    refine .onH hb18 rfl rfl ?_
    refine .fieldAddr rfl Try.underlying49 rfl Try.sizeOf3 rfl ?_
    refine .onH hb18 rfl rfl ?_
    refine .loadF rfl Try.isAgg3 rfl ((Fz.le_trans l_8 (Fz.le_trans l_12 l_17)).mem _ _ hb5) rfl ?_
    refine .onH hb18 rfl rfl ?_
    refine .callP rfl Try.call89 rfl rfl rfl (c_bottle_isDay _ d1.From.Age) ?_
    rintro F_19 _ l_20 rfl
    refine .pickTH hb18 rfl rfl rfl ?_
    exact .fin 5 rfl rfl (by kernel_rfl) l_20
  · skip
    refine .offH hb21 rfl rfl rfl ?_
    refine .offH hb21 rfl rfl rfl ?_
    refine .offH hb21 rfl rfl rfl ?_
    refine .offH hb21 rfl rfl rfl ?_
    refine .pickFH hb21 rfl rfl rfl ?_
    exact .fin 5 rfl rfl (by kernel_rfl) (Fz.le_refl _)
  refine .move rfl rfl ?_
  refine .andP (b := ((r_9.2 && r_13.2) && (m_bottle_isDay d1.From.Age))) (b' := (decide (d1.From.Age ≥ (imax r_9.1 r_13.1)))) 8 40 (fun hb24 => ?_) (fun hb25 => ?_) (fun F_26 l_27 => ?_)
  · skip
    refine .onH hb24 rfl rfl ?_
    refine .fieldAddr rfl Try.underlying51 rfl Try.sizeOf49 rfl ?_
    refine .onH hb24 rfl rfl ?_
    refine .fieldAddr rfl Try.underlying49 rfl Try.sizeOf3 rfl ?_
    refine .onH hb24 rfl rfl ?_
    refine .loadF rfl Try.isAgg3 rfl ((Fz.le_trans l_8 (Fz.le_trans l_12 (Fz.le_trans l_17 l_23))).mem _ _ hb5) rfl ?_
    refine .onH hb24 rfl rfl ?_
    refine .move rfl rfl ?_
    refine .onH hb24 rfl rfl ?_
    refine .move rfl rfl ?_
    refine .onH hb24 rfl rfl ?_
    refine .max2 rfl rfl rfl ?_
    refine .onH hb24 rfl rfl ?_
    refine .geq rfl rfl rfl ?_
    refine .pickTH hb24 rfl rfl rfl ?_
    exact .fin 8 rfl rfl (by kernel_rfl) (Fz.le_refl _)
  · skip
    refine .offH hb25 rfl rfl rfl ?_
    refine .offH hb25 rfl rfl rfl ?_
    refine .offH hb25 rfl rfl rfl ?_
    refine .offH hb25 rfl rfl rfl ?_
    refine .offH hb25 rfl rfl rfl ?_
    refine .offH hb25 rfl rfl rfl ?_
    refine .offH hb25 rfl rfl rfl ?_
    refine .pickFH hb25 rfl rfl rfl ?_
    exact .fin 8 rfl rfl (by kernel_rfl) (Fz.le_refl _)
  refine .assignB rfl rfl (fun times28 e29 => ?_)
  refine .nil ?_
  refine .keep (.cons (k := 1) rfl (.cons (k := 7) rfl (.nil _))) ?_
  refine .code ?_
  refine .seq ?_
  refine .region ?_
  refine .move rfl rfl ?_
  refine .move rfl rfl ?_
  refine .andP (b := times28) (b' := (m_bottle_within d1.From.Number 0 1073741824)) 5 47 (fun hb30 => ?_) (fun hb33 => ?_) (fun F_34 l_35 => ?_)
  · skip
    refine .onH hb30 rfl rfl ?_
    refine .fieldAddr rfl Try.underlying51 rfl Try.sizeOf49 rfl ?_
    refine .onH hb30 rfl rfl ?_
    refine .fieldAddr rfl Try.underlying49 rfl Try.sizeOf3 rfl ?_
    refine .onH hb30 rfl rfl ?_
    refine .loadF rfl Try.isAgg3 rfl ((Fz.le_trans l_8 (Fz.le_trans l_12 (Fz.le_trans l_17 (Fz.le_trans l_23 l_27)))).mem _ _ hb5) rfl ?_
    refine .onH hb30 rfl rfl ?_
    refine .callP rfl Try.call44 rfl rfl rfl (c_bottle_within _ d1.From.Number 0 1073741824) ?_
    rintro F_31 _ l_32 rfl
    refine .pickTH hb30 rfl rfl rfl ?_
    exact .fin 5 rfl rfl (by kernel_rfl) l_32
  · skip
    refine .offH hb33 rfl rfl rfl ?_
    refine .offH hb33 rfl rfl rfl ?_
    refine .offH hb33 rfl rfl rfl ?_
    refine .offH hb33 rfl rfl rfl ?_
    refine .pickFH hb33 rfl rfl rfl ?_
    exact .fin 5 rfl rfl (by kernel_rfl) (Fz.le_refl _)
  refine .move rfl rfl ?_
  refine .andP (b := (times28 && (m_bottle_within d1.From.Number 0 1073741824))) (b' := (m_bottle_within d1.Amount 1 1073741824)) 4 52 (fun hb36 => ?_) (fun hb39 => ?_) (fun F_40 l_41 => ?_)
  · skip
    refine .onH hb36 rfl rfl ?_
    refine .fieldAddr rfl Try.underlying51 rfl Try.sizeOf3 rfl ?_
    refine .onH hb36 rfl rfl ?_
    refine .loadF rfl Try.isAgg3 rfl ((Fz.le_trans l_8 (Fz.le_trans l_12 (Fz.le_trans l_17 (Fz.le_trans l_23 (Fz.le_trans l_27 l_35))))).mem _ _ hb5) rfl ?_
    refine .onH hb36 rfl rfl ?_
    refine .callP rfl Try.call44 rfl rfl rfl (c_bottle_within _ d1.Amount 1 1073741824) ?_
    rintro F_37 _ l_38 rfl
    refine .pickTH hb36 rfl rfl rfl ?_
    exact .fin 4 rfl rfl (by kernel_rfl) l_38
  · skip
    refine .offH hb39 rfl rfl rfl ?_
    refine .offH hb39 rfl rfl rfl ?_
    refine .offH hb39 rfl rfl rfl ?_
    refine .pickFH hb39 rfl rfl rfl ?_
    exact .fin 4 rfl rfl (by kernel_rfl) (Fz.le_refl _)
  refine .move rfl rfl ?_
  refine .andP (b := ((times28 && (m_bottle_within d1.From.Number 0 1073741824)) && (m_bottle_within d1.Amount 1 1073741824))) (b' := (m_bottle_isSpan d1.Strength 10000)) 4 57 (fun hb42 => ?_) (fun hb45 => ?_) (fun F_46 l_47 => ?_)
  · skip
    refine .onH hb42 rfl rfl ?_
    refine .fieldAddr rfl Try.underlying51 rfl Try.sizeOf36 rfl ?_
    refine .onH hb42 rfl rfl ?_
    refine .loadFA rfl Try.isAgg36 Try.sizeOf36 rfl ((Fz.le_trans l_8 (Fz.le_trans l_12 (Fz.le_trans l_17 (Fz.le_trans l_23 (Fz.le_trans l_27 (Fz.le_trans l_35 l_41)))))).mem _ _ hb5) (vs := (cApiSpan d1.Strength)) (by kernel_rfl) rfl ?_
    refine .onH hb42 rfl rfl ?_
    refine .callP rfl Try.call71 rfl rfl rfl (c_bottle_isSpan _ d1.Strength 10000) ?_
    rintro F_43 _ l_44 rfl
    refine .pickTH hb42 rfl rfl rfl ?_
    exact .fin 4 rfl rfl (by kernel_rfl) l_44
  · skip
    refine .offH hb45 rfl rfl rfl ?_
    refine .offH hb45 rfl rfl rfl ?_
    refine .offH hb45 rfl rfl rfl ?_
    refine .pickFH hb45 rfl rfl rfl ?_
    exact .fin 4 rfl rfl (by kernel_rfl) (Fz.le_refl _)
  refine .assign rfl rfl ?_
  refine .nil ?_
  refine .code ?_
  exact .ret0 Try.results81 (.tmp rfl (.nil)) (i := 0) rfl (Fz.le_trans l_4 (Fz.le_trans l_8 (Fz.le_trans l_12 (Fz.le_trans l_17 (Fz.le_trans l_23 (Fz.le_trans l_27 (Fz.le_trans l_35 (Fz.le_trans l_41 l_47)))))))) rfl

end Go.Proofs.Ytbomfcghpajaiaa
