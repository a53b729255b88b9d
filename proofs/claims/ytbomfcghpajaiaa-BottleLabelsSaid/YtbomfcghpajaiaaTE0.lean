/- Printed by gen.py: closed calls, computed. -/
import Derived.Test.YtbomfcghpajaiaaKalR
import Derived.Test.YtbomfcghpajaiaaT2
import Derived.Test.YtbomfcghpajaiaaT3
namespace Go.Proofs.Ytbomfcghpajaiaa
open Go.Dec

noncomputable def g_slices_IndexFunc_Span_1 (_K : Nat) (s1 : (List ApiSpan)) (f5 : (ApiSpan → Option Bool)) (s9 : Int) : Option (Ctl (Int) ((Unit) ⊕ (Int))) :=
  if (decide (s9 < (s1.length : Int))) then ((idxL s1 s9).bind fun x13 => (f5 x13).bind fun r_25 => if r_25 then (some (.done (.inr s9))) else (some (.next (w64 (s9 + 1))))) else (some (.done (.inl ())))
theorem e_b_slices_IndexFunc_Span_1 (K : Nat) (s1 : (List ApiSpan)) (f5 f5' : (ApiSpan → Option Bool)) (hf5 : ∀ x, OLe (f5 x) (f5' x)) (s9 : Int) : OLe (g_slices_IndexFunc_Span_1 K s1 f5 s9) (b_slices_IndexFunc_Span_1 s1 f5' s9) := by
  unfold g_slices_IndexFunc_Span_1 b_slices_IndexFunc_Span_1
  repeat' first | with_reducible exact OLe.refl _ | exact hf5 _ | intro _ | with_reducible apply OLe.bind | with_reducible apply OLe.bindv | with_reducible apply OLe.ite | with_reducible apply OLe.loop | with_reducible apply OLe.forL  | split
noncomputable def f_slices_IndexFunc_Span (K : Nat) (s1 : (List ApiSpan)) (f5 : (ApiSpan → Option Bool)) : Option Int :=
  (loopN (g_slices_IndexFunc_Span_1 K s1 f5) K 0).bind fun b0 => match b0 with | .inl _b27 => (some (-1)) | .inr b27 => (some b27)
theorem e_m_slices_IndexFunc_Span (K : Nat) (s1 : (List ApiSpan)) (f5 f5' : (ApiSpan → Option Bool)) (hf5 : ∀ x, OLe (f5 x) (f5' x)) : OLe (f_slices_IndexFunc_Span K s1 f5) (m_slices_IndexFunc_Span s1 f5') := by
  unfold f_slices_IndexFunc_Span m_slices_IndexFunc_Span
  repeat' first | with_reducible exact OLe.refl _ | exact hf5 _ | intro _ | with_reducible apply OLe.bind | with_reducible apply OLe.bindv | with_reducible apply OLe.ite | with_reducible apply OLe.loop | with_reducible apply OLe.forL | apply e_b_slices_IndexFunc_Span_1 | split
noncomputable def f_slices_ContainsFunc_Span (K : Nat) (s1 : (List ApiSpan)) (f5 : (ApiSpan → Option Bool)) : Option Bool :=
  (f_slices_IndexFunc_Span K s1 f5).bind fun r_11 => some (decide (r_11 ≥ 0))
theorem e_m_slices_ContainsFunc_Span (K : Nat) (s1 : (List ApiSpan)) (f5 f5' : (ApiSpan → Option Bool)) (hf5 : ∀ x, OLe (f5 x) (f5' x)) : OLe (f_slices_ContainsFunc_Span K s1 f5) (m_slices_ContainsFunc_Span s1 f5') := by
  unfold f_slices_ContainsFunc_Span m_slices_ContainsFunc_Span
  repeat' first | with_reducible exact OLe.refl _ | exact hf5 _ | intro _ | with_reducible apply OLe.bind | with_reducible apply OLe.bindv | with_reducible apply OLe.ite | with_reducible apply OLe.loop | with_reducible apply OLe.forL | apply e_m_slices_IndexFunc_Span | split
noncomputable def f_bottle_spans_overlaps (K : Nat) (s1 : (List ApiSpan)) (x5 : ApiSpan) : Option Bool :=
  (f_slices_ContainsFunc_Span K s1 (fun x => some (m_bottle_spans_overlaps_1 x x5))).bind fun r_13 => some r_13
theorem e_m_bottle_spans_overlaps (K : Nat) (s1 : (List ApiSpan)) (x5 : ApiSpan) : OLe (f_bottle_spans_overlaps K s1 x5) (m_bottle_spans_overlaps s1 x5) := by
  unfold f_bottle_spans_overlaps m_bottle_spans_overlaps
  repeat' first | with_reducible exact OLe.refl _  | intro _ | with_reducible apply OLe.bind | with_reducible apply OLe.bindv | with_reducible apply OLe.ite | with_reducible apply OLe.loop | with_reducible apply OLe.forL | apply e_m_slices_ContainsFunc_Span | split
noncomputable def g_slices_Concat_Span_1 (_K : Nat) (slices1 : (List (List ApiSpan))) (s5 : Int × Int) : Option (Ctl (Int × Int) ((Int))) :=
  if (decide (s5.2 < (slices1.length : Int))) then (((idxL slices1 s5.2).bind fun x9 => bindv (w64 (s5.1 + (x9.length : Int))) fun size22 => (if (decide (size22 < 0)) then (none) else (some ()) : Option (Unit)).bind fun _j25 => some size22 : Option (Int)).bind fun j28 => some (.next (j28, (w64 (s5.2 + 1))))) else (some (.done s5.1))
theorem e_b_slices_Concat_Span_1 (K : Nat) (slices1 : (List (List ApiSpan))) (s5 : Int × Int) : OLe (g_slices_Concat_Span_1 K slices1 s5) (b_slices_Concat_Span_1 slices1 s5) := by
  unfold g_slices_Concat_Span_1 b_slices_Concat_Span_1
  repeat' first | with_reducible exact OLe.refl _  | intro _ | with_reducible apply OLe.bind | with_reducible apply OLe.bindv | with_reducible apply OLe.ite | with_reducible apply OLe.loop | with_reducible apply OLe.forL  | split
noncomputable def g_slices_Concat_Span_2 (_K : Nat) (slices1 : (List (List ApiSpan))) (s40 : (List ApiSpan) × Int) : Option (Ctl ((List ApiSpan) × Int) (((List ApiSpan)))) :=
  if (decide (s40.2 < (slices1.length : Int))) then ((idxL slices1 s40.2).bind fun x47 => (appO s40.1 x47).bind fun l_60 => some (.next (l_60, (w64 (s40.2 + 1))))) else (some (.done s40.1))
theorem e_b_slices_Concat_Span_2 (K : Nat) (slices1 : (List (List ApiSpan))) (s40 : (List ApiSpan) × Int) : OLe (g_slices_Concat_Span_2 K slices1 s40) (b_slices_Concat_Span_2 slices1 s40) := by
  unfold g_slices_Concat_Span_2 b_slices_Concat_Span_2
  repeat' first | with_reducible exact OLe.refl _  | intro _ | with_reducible apply OLe.bind | with_reducible apply OLe.bindv | with_reducible apply OLe.ite | with_reducible apply OLe.loop | with_reducible apply OLe.forL  | split
noncomputable def f_slices_Concat_Span (K : Nat) (slices1 : (List (List ApiSpan))) : Option (List ApiSpan) :=
  (loopN (g_slices_Concat_Span_1 K slices1) K (0, 0)).bind fun b31 => (m_slices_Grow_Span b31).bind fun r_34 => (loopN (g_slices_Concat_Span_2 K slices1) K (r_34, 0)).bind fun b64 => some b64
theorem e_m_slices_Concat_Span (K : Nat) (slices1 : (List (List ApiSpan))) : OLe (f_slices_Concat_Span K slices1) (m_slices_Concat_Span slices1) := by
  unfold f_slices_Concat_Span m_slices_Concat_Span
  repeat' first | with_reducible exact OLe.refl _  | intro _ | with_reducible apply OLe.bind | with_reducible apply OLe.bindv | with_reducible apply OLe.ite | with_reducible apply OLe.loop | with_reducible apply OLe.forL | apply e_b_slices_Concat_Span_1 | apply e_b_slices_Concat_Span_2 | split
noncomputable def g_bottle_spans_with_1 (_K : Nat) (s1 : (List ApiSpan)) (x5 : ApiSpan) (s7 : Int) : Option (Ctl (Int) ((Int))) :=
  (if (decide (s7 < (s1.length : Int))) then ((idxL s1 s7).bind fun x11 => some (decide (x11.Hi < (w64 (x5.Lo - 1))))) else (some false) : Option (Bool)).bind fun j87 => if j87 then (bindv (w64 (s7 + 1)) fun i91 => some (.next i91)) else (some (.done s7))
theorem e_b_bottle_spans_with_1 (K : Nat) (s1 : (List ApiSpan)) (x5 : ApiSpan) (s7 : Int) : OLe (g_bottle_spans_with_1 K s1 x5 s7) (b_bottle_spans_with_1 s1 x5 s7) := by
  unfold g_bottle_spans_with_1 b_bottle_spans_with_1
  repeat' first | with_reducible exact OLe.refl _  | intro _ | with_reducible apply OLe.bind | with_reducible apply OLe.bindv | with_reducible apply OLe.ite | with_reducible apply OLe.loop | with_reducible apply OLe.forL  | split
noncomputable def g_bottle_spans_with_2 (_K : Nat) (s1 : (List ApiSpan)) (s96 : Int × ApiSpan) : Option (Ctl (Int × ApiSpan) ((Int × ApiSpan))) :=
  (if (decide (s96.1 < (s1.length : Int))) then ((idxL s1 s96.1).bind fun x100 => some (decide (x100.Lo ≤ (w64 (s96.2.Hi + 1))))) else (some false) : Option (Bool)).bind fun j176 => if j176 then ((idxL s1 s96.1).bind fun x180 => (idxL s1 s96.1).bind fun x190 => bindv (w64 (s96.1 + 1)) fun k237 => some (.next (k237, (ApiSpan.mk (imin s96.2.Lo x180.Lo) (imax s96.2.Hi x190.Hi))))) else (some (.done (s96.1, s96.2)))
theorem e_b_bottle_spans_with_2 (K : Nat) (s1 : (List ApiSpan)) (s96 : Int × ApiSpan) : OLe (g_bottle_spans_with_2 K s1 s96) (b_bottle_spans_with_2 s1 s96) := by
  unfold g_bottle_spans_with_2 b_bottle_spans_with_2
  repeat' first | with_reducible exact OLe.refl _  | intro _ | with_reducible apply OLe.bind | with_reducible apply OLe.bindv | with_reducible apply OLe.ite | with_reducible apply OLe.loop | with_reducible apply OLe.forL  | split
noncomputable def f_bottle_spans_with (K : Nat) (s1 : (List ApiSpan)) (x5 : ApiSpan) : Option (List ApiSpan) :=
  (loopN (g_bottle_spans_with_1 K s1 x5) K 0).bind fun b93 => (loopN (g_bottle_spans_with_2 K s1) K (b93, x5)).bind fun b239 => (sliceL s1 0 b93).bind fun l_243 => (sliceL s1 b239.1 s1.length).bind fun l_256 => (f_slices_Concat_Span K ([l_243, [b239.2], l_256])).bind fun r_271 => some r_271
theorem e_m_bottle_spans_with (K : Nat) (s1 : (List ApiSpan)) (x5 : ApiSpan) : OLe (f_bottle_spans_with K s1 x5) (m_bottle_spans_with s1 x5) := by
  unfold f_bottle_spans_with m_bottle_spans_with
  repeat' first | with_reducible exact OLe.refl _  | intro _ | with_reducible apply OLe.bind | with_reducible apply OLe.bindv | with_reducible apply OLe.ite | with_reducible apply OLe.loop | with_reducible apply OLe.forL | apply e_b_bottle_spans_with_1 | apply e_b_bottle_spans_with_2 | apply e_m_slices_Concat_Span | split
noncomputable def f_bottle_spans_covers (K : Nat) (s1 : (List ApiSpan)) (x5 : ApiSpan) : Option Bool :=
  (f_slices_ContainsFunc_Span K s1 (fun x => some (m_bottle_spans_covers_1 x x5))).bind fun r_13 => some r_13
theorem e_m_bottle_spans_covers (K : Nat) (s1 : (List ApiSpan)) (x5 : ApiSpan) : OLe (f_bottle_spans_covers K s1 x5) (m_bottle_spans_covers s1 x5) := by
  unfold f_bottle_spans_covers m_bottle_spans_covers
  repeat' first | with_reducible exact OLe.refl _  | intro _ | with_reducible apply OLe.bind | with_reducible apply OLe.bindv | with_reducible apply OLe.ite | with_reducible apply OLe.loop | with_reducible apply OLe.forL | apply e_m_slices_ContainsFunc_Span | split
noncomputable def f_bottle_spans_without (K : Nat) (s1 : (List ApiSpan)) (x5 : ApiSpan) : Option (List ApiSpan) :=
  (f_slices_IndexFunc_Span K s1 (fun x => some (m_bottle_spans_without_1 x x5))).bind fun r_13 => (idxL s1 r_13).bind fun x14 => (if (decide (x14.Lo < x5.Lo)) then ((idxL s1 r_13).bind fun x46 => (appO ([]) ([(ApiSpan.mk x46.Lo (w64 (x5.Lo - 1)))])).bind fun l_62 => some l_62) else (some ([])) : Option ((List ApiSpan))).bind fun j103 => (idxL s1 r_13).bind fun x109 => (if (decide (x5.Hi < x109.Hi)) then ((idxL s1 r_13).bind fun x140 => (appO j103 ([(ApiSpan.mk (w64 (x5.Hi + 1)) x140.Hi)])).bind fun l_156 => some l_156) else (some j103) : Option ((List ApiSpan))).bind fun j197 => (mkO 0 (w64 ((s1.length : Int) + 1))).bind fun n_203 => (sliceL s1 0 r_13).bind fun l_206 => (appO (List.replicate n_203 (ApiSpan.mk 0 0)) l_206).bind fun l_211 => (appO l_211 j197).bind fun l_218 => (sliceL s1 (w64 (r_13 + 1)) s1.length).bind fun l_222 => (appO l_218 l_222).bind fun l_227 => some l_227
theorem e_m_bottle_spans_without (K : Nat) (s1 : (List ApiSpan)) (x5 : ApiSpan) : OLe (f_bottle_spans_without K s1 x5) (m_bottle_spans_without s1 x5) := by
  unfold f_bottle_spans_without m_bottle_spans_without
  repeat' first | with_reducible exact OLe.refl _  | intro _ | with_reducible apply OLe.bind | with_reducible apply OLe.bindv | with_reducible apply OLe.ite | with_reducible apply OLe.loop | with_reducible apply OLe.forL | apply e_m_slices_IndexFunc_Span | split
noncomputable def g_bottle_Stamps_1 (K : Nat) (l_1 : (List ApiStampEvent)) (s10 : Int × ApiStampBook × BottlePile × Int) : Option (Ctl (Int × ApiStampBook × BottlePile × Int) ((ApiStampBook × BottlePile × Int) ⊕ (ApiStampBook × Int × Int))) :=
  if (decide (s10.1 < (l_1.length : Int))) then ((idxL l_1 s10.1).bind fun x23 => if (!(m_bottle_isStamp x23)) then (some (.done (.inr ((ApiStampBook.mk ([]) 0 0 0), s10.1, 1)))) else ((if (x23.Kind == 0) then ((f_bottle_spans_overlaps K s10.2.2.1.issued (ApiSpan.mk x23.First x23.Last)).bind fun r_41 => some r_41) else some false).bind fun z45 => if z45 then (some (.done (.inr ((ApiStampBook.mk ([]) 0 0 0), s10.1, 5)))) else (if (x23.Kind == 0) then ((f_bottle_spans_with K s10.2.2.1.issued (ApiSpan.mk x23.First x23.Last)).bind fun r_52 => (f_bottle_spans_with K s10.2.2.1.hand (ApiSpan.mk x23.First x23.Last)).bind fun r_60 => bindv ({ ({ s10.2.2.1 with issued := r_52 }) with hand := r_60 }) fun x100 => some (.next ((w64 (s10.1 + 1)), s10.2.1, x100, s10.2.2.2))) else ((f_bottle_spans_covers K s10.2.2.1.hand (ApiSpan.mk x23.First x23.Last)).bind fun r_106 => if (!r_106) then (some (.done (.inr ((ApiStampBook.mk ([]) 0 0 0), s10.1, 4)))) else ((f_bottle_spans_without K s10.2.2.1.hand (ApiSpan.mk x23.First x23.Last)).bind fun r_110 => bindv ({ s10.2.2.1 with hand := r_110 }) fun x114 => (idxO 4 x23.Kind).bind fun j118 => if (j118 == 0) then (some (.next ((w64 (s10.1 + 1)), s10.2.1, x114, (w64 (s10.2.2.2 + (w64 ((w64 (((ApiSpan.mk x23.First x23.Last).Hi) - ((ApiSpan.mk x23.First x23.Last).Lo))) + 1))))))) else if (j118 == 1) then (bindv ({ s10.2.1 with Stuck := (w64 (s10.2.1.Stuck + (w64 ((w64 (((ApiSpan.mk x23.First x23.Last).Hi) - ((ApiSpan.mk x23.First x23.Last).Lo))) + 1)))) }) fun x180 => some (.next ((w64 (s10.1 + 1)), x180, x114, s10.2.2.2))) else if (j118 == 2) then (bindv ({ s10.2.1 with Spoiled := (w64 (s10.2.1.Spoiled + (w64 ((w64 (((ApiSpan.mk x23.First x23.Last).Hi) - ((ApiSpan.mk x23.First x23.Last).Lo))) + 1)))) }) fun x213 => some (.next ((w64 (s10.1 + 1)), x213, x114, s10.2.2.2))) else (bindv ({ s10.2.1 with Returned := (w64 (s10.2.1.Returned + (w64 ((w64 (((ApiSpan.mk x23.First x23.Last).Hi) - ((ApiSpan.mk x23.First x23.Last).Lo))) + 1)))) }) fun x245 => some (.next ((w64 (s10.1 + 1)), x245, x114, s10.2.2.2)))))))) else (some (.done (.inl (s10.2.1, s10.2.2.1, s10.2.2.2))))
theorem e_b_bottle_Stamps_1 (K : Nat) (l_1 : (List ApiStampEvent)) (s10 : Int × ApiStampBook × BottlePile × Int) : OLe (g_bottle_Stamps_1 K l_1 s10) (b_bottle_Stamps_1 l_1 s10) := by
  unfold g_bottle_Stamps_1 b_bottle_Stamps_1
  repeat' first | with_reducible exact OLe.refl _  | intro _ | with_reducible apply OLe.bind | with_reducible apply OLe.bindv | with_reducible apply OLe.ite | with_reducible apply OLe.loop | with_reducible apply OLe.forL | apply e_m_bottle_spans_covers | apply e_m_bottle_spans_overlaps | apply e_m_bottle_spans_with | apply e_m_bottle_spans_without | split
noncomputable def f_bottle_Stamps (K : Nat) (l_1 : (List ApiStampEvent)) : Option (ApiStampBook × Int × Int) :=
  if (decide ((l_1.length : Int) > 256)) then (some ((ApiStampBook.mk ([]) 0 0 0), 0, 3)) else ((loopN (g_bottle_Stamps_1 K l_1) K (0, (ApiStampBook.mk ([]) 0 0 0), (BottlePile.mk ([]) ([])), 0)).bind fun b0 => match b0 with | .inl b248 => ((m_slices_Clone_Span b248.2.1.hand).bind fun r_267 => bindv ({ b248.1 with Hand := r_267 }) fun x271 => bindv (l_1.length : Int) fun index274 => some (x271, index274, 0)) | .inr b248 => (some (b248.1, b248.2.1, b248.2.2)))
theorem e_m_bottle_Stamps (K : Nat) (l_1 : (List ApiStampEvent)) : OLe (f_bottle_Stamps K l_1) (m_bottle_Stamps l_1) := by
  unfold f_bottle_Stamps m_bottle_Stamps
  repeat' first | with_reducible exact OLe.refl _  | intro _ | with_reducible apply OLe.bind | with_reducible apply OLe.bindv | with_reducible apply OLe.ite | with_reducible apply OLe.loop | with_reducible apply OLe.forL | apply e_b_bottle_Stamps_1 | split
noncomputable def g_bottle_Whose_1 (_K : Nat) (l_1 : (List ApiStampEvent)) (stamp5 : Int) (s14 : Int) : Option (Ctl (Int) ((Unit) ⊕ (Int × Int))) :=
  if (decide (s14 < (l_1.length : Int))) then ((idxL l_1 s14).bind fun x18 => if ((x18.Kind == 1) && (m_bottle_within stamp5 x18.First x18.Last)) then (some (.done (.inr (x18.Batch, 0)))) else (some (.next (w64 (s14 + 1))))) else (some (.done (.inl ())))
theorem e_b_bottle_Whose_1 (K : Nat) (l_1 : (List ApiStampEvent)) (stamp5 : Int) (s14 : Int) : OLe (g_bottle_Whose_1 K l_1 stamp5 s14) (b_bottle_Whose_1 l_1 stamp5 s14) := by
  unfold g_bottle_Whose_1 b_bottle_Whose_1
  repeat' first | with_reducible exact OLe.refl _  | intro _ | with_reducible apply OLe.bind | with_reducible apply OLe.bindv | with_reducible apply OLe.ite | with_reducible apply OLe.loop | with_reducible apply OLe.forL  | split
noncomputable def f_bottle_Whose (K : Nat) (l_1 : (List ApiStampEvent)) (stamp5 : Int) : Option (Int × Int) :=
  (f_bottle_Stamps K l_1).bind fun r_8 => if (r_8.2.2 != 0) then (some (0, r_8.2.2)) else ((loopN (g_bottle_Whose_1 K l_1 stamp5) K 0).bind fun b0 => match b0 with | .inl _b36 => (some (0, 4)) | .inr b36 => (some (b36.1, b36.2)))
theorem e_m_bottle_Whose (K : Nat) (l_1 : (List ApiStampEvent)) (stamp5 : Int) : OLe (f_bottle_Whose K l_1 stamp5) (m_bottle_Whose l_1 stamp5) := by
  unfold f_bottle_Whose m_bottle_Whose
  repeat' first | with_reducible exact OLe.refl _  | intro _ | with_reducible apply OLe.bind | with_reducible apply OLe.bindv | with_reducible apply OLe.ite | with_reducible apply OLe.loop | with_reducible apply OLe.forL | apply e_b_bottle_Whose_1 | apply e_m_bottle_Stamps | split
noncomputable def g_wormtubref12_Spans_1 (_K : Nat) (a1 : (List ApiSpan)) (b5 : (List ApiSpan)) (s10 : Int) : Option (Ctl (Int) ((Unit) ⊕ (Bool))) :=
  if (decide (s10 < (a1.length : Int))) then ((idxL a1 s10).bind fun x14 => (idxL b5 s10).bind fun x24 => if (!(eq_36 x14 x24)) then (some (.done (.inr false))) else (bindv (w64 (s10 + 1)) fun i56 => some (.next i56))) else (some (.done (.inl ())))
theorem e_b_wormtubref12_Spans_1 (K : Nat) (a1 : (List ApiSpan)) (b5 : (List ApiSpan)) (s10 : Int) : OLe (g_wormtubref12_Spans_1 K a1 b5 s10) (b_wormtubref12_Spans_1 a1 b5 s10) := by
  unfold g_wormtubref12_Spans_1 b_wormtubref12_Spans_1
  repeat' first | with_reducible exact OLe.refl _  | intro _ | with_reducible apply OLe.bind | with_reducible apply OLe.bindv | with_reducible apply OLe.ite | with_reducible apply OLe.loop | with_reducible apply OLe.forL  | split
noncomputable def f_wormtubref12_Spans (K : Nat) (a1 : (List ApiSpan)) (b5 : (List ApiSpan)) : Option Bool :=
  if ((a1.length : Int) != (b5.length : Int)) then (some false) else ((loopN (g_wormtubref12_Spans_1 K a1 b5) K 0).bind fun b0 => match b0 with | .inl _b58 => (some true) | .inr b58 => (some b58))
theorem e_m_wormtubref12_Spans (K : Nat) (a1 : (List ApiSpan)) (b5 : (List ApiSpan)) : OLe (f_wormtubref12_Spans K a1 b5) (m_wormtubref12_Spans a1 b5) := by
  unfold f_wormtubref12_Spans m_wormtubref12_Spans
  repeat' first | with_reducible exact OLe.refl _  | intro _ | with_reducible apply OLe.bind | with_reducible apply OLe.bindv | with_reducible apply OLe.ite | with_reducible apply OLe.loop | with_reducible apply OLe.forL | apply e_b_wormtubref12_Spans_1 | split
noncomputable def g_bottle_sum_1 (_K : Nat) (l_1 : (List Int)) (s5 : Int × Int) : Option (Ctl (Int × Int) ((Int) ⊕ (Int × Bool))) :=
  if (decide (s5.2 < (l_1.length : Int))) then ((idxL l_1 s5.2).bind fun x9 => if (!(m_bottle_isDay x9)) then (some (.done (.inr (0, false)))) else (bindv (w64 (s5.1 + x9)) fun n_22 => some (.next (n_22, (w64 (s5.2 + 1)))))) else (some (.done (.inl s5.1)))
theorem e_b_bottle_sum_1 (K : Nat) (l_1 : (List Int)) (s5 : Int × Int) : OLe (g_bottle_sum_1 K l_1 s5) (b_bottle_sum_1 l_1 s5) := by
  unfold g_bottle_sum_1 b_bottle_sum_1
  repeat' first | with_reducible exact OLe.refl _  | intro _ | with_reducible apply OLe.bind | with_reducible apply OLe.bindv | with_reducible apply OLe.ite | with_reducible apply OLe.loop | with_reducible apply OLe.forL  | split
noncomputable def f_bottle_sum (K : Nat) (l_1 : (List Int)) : Option (Int × Bool) :=
  (loopN (g_bottle_sum_1 K l_1) K (0, 0)).bind fun b0 => match b0 with | .inl b24 => (some (b24, true)) | .inr b24 => (some (b24.1, b24.2))
theorem e_m_bottle_sum (K : Nat) (l_1 : (List Int)) : OLe (f_bottle_sum K l_1) (m_bottle_sum l_1) := by
  unfold f_bottle_sum m_bottle_sum
  repeat' first | with_reducible exact OLe.refl _  | intro _ | with_reducible apply OLe.bind | with_reducible apply OLe.bindv | with_reducible apply OLe.ite | with_reducible apply OLe.loop | with_reducible apply OLe.forL | apply e_b_bottle_sum_1 | split
noncomputable def f_bottle_isDraught (K : Nat) (d1 : ApiDraught) : Option Bool :=
  (f_bottle_sum K (arrL 8 d1.From.Woods)).bind fun r_9 => (f_bottle_sum K (arrL 8 d1.From.Places)).bind fun r_13 => bindv (((r_9.2 && r_13.2) && (m_bottle_isDay d1.From.Age)) && (decide (d1.From.Age ≥ (imax r_9.1 r_13.1)))) fun times28 => some (((times28 && (m_bottle_within d1.From.Number 0 1073741824)) && (m_bottle_within d1.Amount 1 1073741824)) && (m_bottle_isSpan d1.Strength 10000))
theorem e_m_bottle_isDraught (K : Nat) (d1 : ApiDraught) : OLe (f_bottle_isDraught K d1) (m_bottle_isDraught d1) := by
  unfold f_bottle_isDraught m_bottle_isDraught
  repeat' first | with_reducible exact OLe.refl _  | intro _ | with_reducible apply OLe.bind | with_reducible apply OLe.bindv | with_reducible apply OLe.ite | with_reducible apply OLe.loop | with_reducible apply OLe.forL | apply e_m_bottle_sum | split
noncomputable def g_bottle_open_1 (K : Nat) (b1 : ApiBatch) (s11 : Int × BottleBatch) : Option (Ctl (Int × BottleBatch) ((BottleBatch) ⊕ (BottleBatch × Bool))) :=
  if (decide (s11.1 < (b1.Draughts.length : Int))) then ((idxL b1.Draughts s11.1).bind fun x18 => (f_bottle_isDraught K x18).bind fun r_31 => if (!r_31) then (some (.done (.inr (s11.2, false)))) else (bindv ({ s11.2 with amount := (w64 (s11.2.amount + x18.Amount)) }) fun x33 => bindv ({ x33 with least := (w64 (x33.least + (w64 (x18.Amount * x18.Strength.Lo)))) }) fun x36 => bindv ({ x36 with most := (w64 (x36.most + (w64 (x18.Amount * x18.Strength.Hi)))) }) fun x39 => some (.next ((w64 (s11.1 + 1)), x39)))) else (some (.done (.inl s11.2)))
theorem e_b_bottle_open_1 (K : Nat) (b1 : ApiBatch) (s11 : Int × BottleBatch) : OLe (g_bottle_open_1 K b1 s11) (b_bottle_open_1 b1 s11) := by
  unfold g_bottle_open_1 b_bottle_open_1
  repeat' first | with_reducible exact OLe.refl _  | intro _ | with_reducible apply OLe.bind | with_reducible apply OLe.bindv | with_reducible apply OLe.ite | with_reducible apply OLe.loop | with_reducible apply OLe.forL | apply e_m_bottle_isDraught | split
noncomputable def f_bottle_open (K : Nat) (b1 : ApiBatch) : Option (BottleBatch × Bool) :=
  (loopN (g_bottle_open_1 K b1) K (0, (BottleBatch.mk b1 0 0 0))).bind fun b0 => match b0 with | .inl b42 => (if (m_bottle_within (b1.Draughts.length : Int) 1 16) then (if (m_bottle_within b1.Water 0 17179869184) then (some (b42, (m_bottle_isSpan b1.Shrink 1000))) else (some (b42, false))) else (some (b42, false))) | .inr b42 => (some (b42.1, b42.2))
theorem e_m_bottle_open (K : Nat) (b1 : ApiBatch) : OLe (f_bottle_open K b1) (m_bottle_open b1) := by
  unfold f_bottle_open m_bottle_open
  repeat' first | with_reducible exact OLe.refl _  | intro _ | with_reducible apply OLe.bind | with_reducible apply OLe.bindv | with_reducible apply OLe.ite | with_reducible apply OLe.loop | with_reducible apply OLe.forL | apply e_b_bottle_open_1 | split
noncomputable def g_bottle_batch_casks_1 (_K : Nat) (b1 : BottleBatch) (s11 : (List (Int × Bool)) × Int) : Option (Ctl ((List (Int × Bool)) × Int) (((List (Int × Bool))))) :=
  if (decide (s11.2 < (b1.Batch.Draughts.length : Int))) then ((idxL b1.Batch.Draughts s11.2).bind fun x18 => bindv (mapSet s11.1 x18.From.Number true) fun m_29 => some (.next (m_29, (w64 (s11.2 + 1))))) else (some (.done s11.1))
theorem e_b_bottle_batch_casks_1 (K : Nat) (b1 : BottleBatch) (s11 : (List (Int × Bool)) × Int) : OLe (g_bottle_batch_casks_1 K b1 s11) (b_bottle_batch_casks_1 b1 s11) := by
  unfold g_bottle_batch_casks_1 b_bottle_batch_casks_1
  repeat' first | with_reducible exact OLe.refl _  | intro _ | with_reducible apply OLe.bind | with_reducible apply OLe.bindv | with_reducible apply OLe.ite | with_reducible apply OLe.loop | with_reducible apply OLe.forL  | split
noncomputable def f_bottle_batch_casks (K : Nat) (b1 : BottleBatch) : Option Int :=
  (loopN (g_bottle_batch_casks_1 K b1) K ([], 0)).bind fun b31 => some (b31.length : Int)
theorem e_m_bottle_batch_casks (K : Nat) (b1 : BottleBatch) : OLe (f_bottle_batch_casks K b1) (m_bottle_batch_casks b1) := by
  unfold f_bottle_batch_casks m_bottle_batch_casks
  repeat' first | with_reducible exact OLe.refl _  | intro _ | with_reducible apply OLe.bind | with_reducible apply OLe.bindv | with_reducible apply OLe.ite | with_reducible apply OLe.loop | with_reducible apply OLe.forL | apply e_b_bottle_batch_casks_1 | split
noncomputable def g_bottle_least_int_1 (_K : Nat) (of_5 : (ApiDraught → Option Int)) (l_22 : (List ApiDraught)) (s27 : Int × Int) : Option (Ctl (Int × Int) ((Int))) :=
  if (decide (s27.2 < (l_22.length : Int))) then ((idxL l_22 s27.2).bind fun x31 => (of_5 x31).bind fun r_44 => bindv (imin s27.1 r_44) fun out45 => some (.next (out45, (w64 (s27.2 + 1))))) else (some (.done s27.1))
theorem e_b_bottle_least_int_1 (K : Nat) (of_5 of_5' : (ApiDraught → Option Int)) (hof_5 : ∀ x, OLe (of_5 x) (of_5' x)) (l_22 : (List ApiDraught)) (s27 : Int × Int) : OLe (g_bottle_least_int_1 K of_5 l_22 s27) (b_bottle_least_int_1 of_5' l_22 s27) := by
  unfold g_bottle_least_int_1 b_bottle_least_int_1
  repeat' first | with_reducible exact OLe.refl _ | exact hof_5 _ | intro _ | with_reducible apply OLe.bind | with_reducible apply OLe.bindv | with_reducible apply OLe.ite | with_reducible apply OLe.loop | with_reducible apply OLe.forL  | split
noncomputable def f_bottle_least_int (K : Nat) (l_1 : (List ApiDraught)) (of_5 : (ApiDraught → Option Int)) : Option Int :=
  (idxL l_1 0).bind fun x9 => (of_5 x9).bind fun r_21 => (sliceL l_1 1 l_1.length).bind fun l_22 => (loopN (g_bottle_least_int_1 K of_5 l_22) K (r_21, 0)).bind fun b47 => some b47
theorem e_m_bottle_least_int (K : Nat) (l_1 : (List ApiDraught)) (of_5 of_5' : (ApiDraught → Option Int)) (hof_5 : ∀ x, OLe (of_5 x) (of_5' x)) : OLe (f_bottle_least_int K l_1 of_5) (m_bottle_least_int l_1 of_5') := by
  unfold f_bottle_least_int m_bottle_least_int
  repeat' first | with_reducible exact OLe.refl _ | exact hof_5 _ | intro _ | with_reducible apply OLe.bind | with_reducible apply OLe.bindv | with_reducible apply OLe.ite | with_reducible apply OLe.loop | with_reducible apply OLe.forL | apply e_b_bottle_least_int_1 | split
noncomputable def g_bottle_batch_known_1 (K : Nat) (b1 : BottleBatch) (s63 : Int × ApiBottling) : Option (Ctl (Int × ApiBottling) ((ApiBottling))) :=
  if (decide (s63.1 < 8)) then ((f_bottle_least_int K b1.Batch.Draughts (fun x => m_bottle_batch_known_2 x s63.1)).bind fun r_74 => (idxO 8 s63.1).bind fun j76 => bindv ({ s63.2 with Woods := updN s63.2.Woods j76 r_74 }) fun x78 => some (.next ((w64 (s63.1 + 1)), x78))) else (some (.done s63.2))
theorem e_b_bottle_batch_known_1 (K : Nat) (b1 : BottleBatch) (s63 : Int × ApiBottling) : OLe (g_bottle_batch_known_1 K b1 s63) (b_bottle_batch_known_1 b1 s63) := by
  unfold g_bottle_batch_known_1 b_bottle_batch_known_1
  repeat' first | with_reducible exact OLe.refl _  | intro _ | with_reducible apply OLe.bind | with_reducible apply OLe.bindv | with_reducible apply OLe.ite | with_reducible apply OLe.loop | with_reducible apply OLe.forL | apply e_m_bottle_least_int | split
noncomputable def g_bottle_batch_known_2 (K : Nat) (b1 : BottleBatch) (s107 : Int × ApiBottling) : Option (Ctl (Int × ApiBottling) ((ApiBottling))) :=
  if (decide (s107.1 < 8)) then ((f_bottle_least_int K b1.Batch.Draughts (fun x => m_bottle_batch_known_3 x s107.1)).bind fun r_118 => (idxO 8 s107.1).bind fun j120 => bindv ({ s107.2 with Places := updN s107.2.Places j120 r_118 }) fun x122 => some (.next ((w64 (s107.1 + 1)), x122))) else (some (.done s107.2))
theorem e_b_bottle_batch_known_2 (K : Nat) (b1 : BottleBatch) (s107 : Int × ApiBottling) : OLe (g_bottle_batch_known_2 K b1 s107) (b_bottle_batch_known_2 b1 s107) := by
  unfold g_bottle_batch_known_2 b_bottle_batch_known_2
  repeat' first | with_reducible exact OLe.refl _  | intro _ | with_reducible apply OLe.bind | with_reducible apply OLe.bindv | with_reducible apply OLe.ite | with_reducible apply OLe.loop | with_reducible apply OLe.forL | apply e_m_bottle_least_int | split
noncomputable def f_bottle_batch_known (K : Nat) (b1 : BottleBatch) : Option ApiBottling :=
  (m_bottle_batch_volume b1 b1.Batch.Water).bind fun r_12 => (m_bottle_batch_strength b1 b1.Batch.Water).bind fun r_16 => (f_bottle_batch_casks K b1).bind fun r_20 => (f_bottle_least_int K b1.Batch.Draughts (fun x => some (m_bottle_batch_known_1 x))).bind fun r_60 => bindv ({ (ApiBottling.mk r_12 r_16 0 (fun _ => 0) (fun _ => 0) r_20) with Age := r_60 }) fun x61 => (loopN (g_bottle_batch_known_1 K b1) K (0, x61)).bind fun b104 => (loopN (g_bottle_batch_known_2 K b1) K (0, b104)).bind fun b148 => some b148
theorem e_m_bottle_batch_known (K : Nat) (b1 : BottleBatch) : OLe (f_bottle_batch_known K b1) (m_bottle_batch_known b1) := by
  unfold f_bottle_batch_known m_bottle_batch_known
  repeat' first | with_reducible exact OLe.refl _  | intro _ | with_reducible apply OLe.bind | with_reducible apply OLe.bindv | with_reducible apply OLe.ite | with_reducible apply OLe.loop | with_reducible apply OLe.forL | apply e_b_bottle_batch_known_1 | apply e_b_bottle_batch_known_2 | apply e_m_bottle_batch_casks | apply e_m_bottle_least_int | split
noncomputable def g_slices_IndexFunc_Claim_1 (_K : Nat) (s1 : (List ApiClaim)) (f5 : (ApiClaim → Option Bool)) (s9 : Int) : Option (Ctl (Int) ((Unit) ⊕ (Int))) :=
  if (decide (s9 < (s1.length : Int))) then ((idxL s1 s9).bind fun x13 => (f5 x13).bind fun r_25 => if r_25 then (some (.done (.inr s9))) else (some (.next (w64 (s9 + 1))))) else (some (.done (.inl ())))
theorem e_b_slices_IndexFunc_Claim_1 (K : Nat) (s1 : (List ApiClaim)) (f5 f5' : (ApiClaim → Option Bool)) (hf5 : ∀ x, OLe (f5 x) (f5' x)) (s9 : Int) : OLe (g_slices_IndexFunc_Claim_1 K s1 f5 s9) (b_slices_IndexFunc_Claim_1 s1 f5' s9) := by
  unfold g_slices_IndexFunc_Claim_1 b_slices_IndexFunc_Claim_1
  repeat' first | with_reducible exact OLe.refl _ | exact hf5 _ | intro _ | with_reducible apply OLe.bind | with_reducible apply OLe.bindv | with_reducible apply OLe.ite | with_reducible apply OLe.loop | with_reducible apply OLe.forL  | split
noncomputable def f_slices_IndexFunc_Claim (K : Nat) (s1 : (List ApiClaim)) (f5 : (ApiClaim → Option Bool)) : Option Int :=
  (loopN (g_slices_IndexFunc_Claim_1 K s1 f5) K 0).bind fun b0 => match b0 with | .inl _b27 => (some (-1)) | .inr b27 => (some b27)
theorem e_m_slices_IndexFunc_Claim (K : Nat) (s1 : (List ApiClaim)) (f5 f5' : (ApiClaim → Option Bool)) (hf5 : ∀ x, OLe (f5 x) (f5' x)) : OLe (f_slices_IndexFunc_Claim K s1 f5) (m_slices_IndexFunc_Claim s1 f5') := by
  unfold f_slices_IndexFunc_Claim m_slices_IndexFunc_Claim
  repeat' first | with_reducible exact OLe.refl _ | exact hf5 _ | intro _ | with_reducible apply OLe.bind | with_reducible apply OLe.bindv | with_reducible apply OLe.ite | with_reducible apply OLe.loop | with_reducible apply OLe.forL | apply e_b_slices_IndexFunc_Claim_1 | split
noncomputable def f_slices_ContainsFunc_Claim (K : Nat) (s1 : (List ApiClaim)) (f5 : (ApiClaim → Option Bool)) : Option Bool :=
  (f_slices_IndexFunc_Claim K s1 f5).bind fun r_11 => some (decide (r_11 ≥ 0))
theorem e_m_slices_ContainsFunc_Claim (K : Nat) (s1 : (List ApiClaim)) (f5 f5' : (ApiClaim → Option Bool)) (hf5 : ∀ x, OLe (f5 x) (f5' x)) : OLe (f_slices_ContainsFunc_Claim K s1 f5) (m_slices_ContainsFunc_Claim s1 f5') := by
  unfold f_slices_ContainsFunc_Claim m_slices_ContainsFunc_Claim
  repeat' first | with_reducible exact OLe.refl _ | exact hf5 _ | intro _ | with_reducible apply OLe.bind | with_reducible apply OLe.bindv | with_reducible apply OLe.ite | with_reducible apply OLe.loop | with_reducible apply OLe.forL | apply e_m_slices_IndexFunc_Claim | split
noncomputable def f_bottle_areClaims (K : Nat) (l_1 : (List ApiClaim)) : Option Bool :=
  (if (decide ((l_1.length : Int) ≤ 32)) then ((f_slices_ContainsFunc_Claim K l_1 (fun x => m_bottle_areClaims_1 x)).bind fun r_9 => some (!r_9)) else some false).bind fun z13 => some z13
theorem e_m_bottle_areClaims (K : Nat) (l_1 : (List ApiClaim)) : OLe (f_bottle_areClaims K l_1) (m_bottle_areClaims l_1) := by
  unfold f_bottle_areClaims m_bottle_areClaims
  repeat' first | with_reducible exact OLe.refl _  | intro _ | with_reducible apply OLe.bind | with_reducible apply OLe.bindv | with_reducible apply OLe.ite | with_reducible apply OLe.loop | with_reducible apply OLe.forL | apply e_m_slices_ContainsFunc_Claim | split
noncomputable def f_bottle_write (K : Nat) (b1 : ApiBatch) (claims5 : (List ApiClaim)) : Option (BottleLabel × Bool) :=
  (f_bottle_open K b1).bind fun r_16 => (if (!r_16.2) then some true else ((f_bottle_areClaims K claims5).bind fun r_24 => some (!r_24))).bind fun z28 => if z28 then (some ((BottleLabel.mk (BottleBatch.mk (ApiBatch.mk ([]) 0 (ApiSpan.mk 0 0) false false) 0 0 0) (ApiBottling.mk (ApiSpan.mk 0 0) (ApiSpan.mk 0 0) 0 (fun _ => 0) (fun _ => 0) 0)), false)) else ((f_bottle_batch_known K r_16.1).bind fun r_33 => some ((BottleLabel.mk r_16.1 r_33), true))
theorem e_m_bottle_write (K : Nat) (b1 : ApiBatch) (claims5 : (List ApiClaim)) : OLe (f_bottle_write K b1 claims5) (m_bottle_write b1 claims5) := by
  unfold f_bottle_write m_bottle_write
  repeat' first | with_reducible exact OLe.refl _  | intro _ | with_reducible apply OLe.bind | with_reducible apply OLe.bindv | with_reducible apply OLe.ite | with_reducible apply OLe.loop | with_reducible apply OLe.forL | apply e_m_bottle_areClaims | apply e_m_bottle_batch_known | apply e_m_bottle_open | split
noncomputable def g_bottle_label_lies_1 (_K : Nat) (claims5 : (List ApiClaim)) (r_15 : (Nat → (ApiClaim → Option Bool))) (s42 : (List Int) × Int) : Option (Ctl ((List Int) × Int) (((List Int)))) :=
  if (decide (s42.2 < (claims5.length : Int))) then (((idxL claims5 s42.2).bind fun x49 => (idxO 8 x49.Kind).bind fun j60 => ((r_15 j60) x49).bind fun r_68 => (if (!r_68) then ((appO s42.1 ([s42.2])).bind fun l_95 => some l_95) else (some s42.1) : Option ((List Int))).bind fun j99 => some j99 : Option ((List Int))).bind fun j105 => some (.next (j105, (w64 (s42.2 + 1))))) else (some (.done s42.1))
theorem e_b_bottle_label_lies_1 (K : Nat) (claims5 : (List ApiClaim)) (r_15 : (Nat → (ApiClaim → Option Bool))) (s42 : (List Int) × Int) : OLe (g_bottle_label_lies_1 K claims5 r_15 s42) (b_bottle_label_lies_1 claims5 r_15 s42) := by
  unfold g_bottle_label_lies_1 b_bottle_label_lies_1
  repeat' first | with_reducible exact OLe.refl _  | intro _ | with_reducible apply OLe.bind | with_reducible apply OLe.bindv | with_reducible apply OLe.ite | with_reducible apply OLe.loop | with_reducible apply OLe.forL  | split
noncomputable def f_bottle_label_lies (K : Nat) (l_1 : BottleLabel) (claims5 : (List ApiClaim)) : Option (List Int) :=
  (m_bottle_label_tests l_1).bind fun r_15 => (loopN (g_bottle_label_lies_1 K claims5 r_15) K ([], 0)).bind fun b111 => some b111
theorem e_m_bottle_label_lies (K : Nat) (l_1 : BottleLabel) (claims5 : (List ApiClaim)) : OLe (f_bottle_label_lies K l_1 claims5) (m_bottle_label_lies l_1 claims5) := by
  unfold f_bottle_label_lies m_bottle_label_lies
  repeat' first | with_reducible exact OLe.refl _  | intro _ | with_reducible apply OLe.bind | with_reducible apply OLe.bindv | with_reducible apply OLe.ite | with_reducible apply OLe.loop | with_reducible apply OLe.forL | apply e_b_bottle_label_lies_1 | split
noncomputable def f_bottle_False (K : Nat) (b1 : ApiBatch) (l_5 : (List ApiClaim)) : Option ((List Int) × Int) :=
  (f_bottle_write K b1 l_5).bind fun r_15 => if (!r_15.2) then (some ([], 1)) else ((f_bottle_label_lies K r_15.1 l_5).bind fun r_23 => some (r_23, 0))
theorem e_m_bottle_False (K : Nat) (b1 : ApiBatch) (l_5 : (List ApiClaim)) : OLe (f_bottle_False K b1 l_5) (m_bottle_False b1 l_5) := by
  unfold f_bottle_False m_bottle_False
  repeat' first | with_reducible exact OLe.refl _  | intro _ | with_reducible apply OLe.bind | with_reducible apply OLe.bindv | with_reducible apply OLe.ite | with_reducible apply OLe.loop | with_reducible apply OLe.forL | apply e_m_bottle_label_lies | apply e_m_bottle_write | split
noncomputable def f_bottle_Blend (K : Nat) (b1 : ApiBatch) : Option (ApiBottling × Int) :=
  (f_bottle_open K b1).bind fun r_12 => if (!r_12.2) then (some ((ApiBottling.mk (ApiSpan.mk 0 0) (ApiSpan.mk 0 0) 0 (fun _ => 0) (fun _ => 0) 0), 1)) else ((f_bottle_batch_known K r_12.1).bind fun r_20 => some (r_20, 0))
theorem e_m_bottle_Blend (K : Nat) (b1 : ApiBatch) : OLe (f_bottle_Blend K b1) (m_bottle_Blend b1) := by
  unfold f_bottle_Blend m_bottle_Blend
  repeat' first | with_reducible exact OLe.refl _  | intro _ | with_reducible apply OLe.bind | with_reducible apply OLe.bindv | with_reducible apply OLe.ite | with_reducible apply OLe.loop | with_reducible apply OLe.forL | apply e_m_bottle_batch_known | apply e_m_bottle_open | split
noncomputable def g_bottle_first_1 (_K : Nat) (is_3 : (Int → Option Bool)) (s7 : Int × Int) : Option (Ctl (Int × Int) ((Int))) :=
  if (decide (s7.1 < s7.2)) then ((bindv (w64 (s7.1 + (w64 (Int.tdiv (w64 (s7.2 - s7.1)) 2)))) fun mid11 => (is_3 mid11).bind fun r_15 => (if r_15 then (some (s7.1, mid11)) else (bindv (w64 (mid11 + 1)) fun low17 => some (low17, s7.2)) : Option (Int × Int)).bind fun j19 => some (j19.1, j19.2) : Option (Int × Int)).bind fun j22 => some (.next (j22.1, j22.2))) else (some (.done s7.1))
theorem e_b_bottle_first_1 (K : Nat) (is_3 is_3' : (Int → Option Bool)) (his_3 : ∀ x, OLe (is_3 x) (is_3' x)) (s7 : Int × Int) : OLe (g_bottle_first_1 K is_3 s7) (b_bottle_first_1 is_3' s7) := by
  unfold g_bottle_first_1 b_bottle_first_1
  repeat' first | with_reducible exact OLe.refl _ | exact his_3 _ | intro _ | with_reducible apply OLe.bind | with_reducible apply OLe.bindv | with_reducible apply OLe.ite | with_reducible apply OLe.loop | with_reducible apply OLe.forL  | split
noncomputable def f_bottle_first (K : Nat) (low1 : Int) (high2 : Int) (is_3 : (Int → Option Bool)) : Option Int :=
  (loopN (g_bottle_first_1 K is_3) K (low1, high2)).bind fun b25 => some b25
theorem e_m_bottle_first (K : Nat) (low1 : Int) (high2 : Int) (is_3 is_3' : (Int → Option Bool)) (his_3 : ∀ x, OLe (is_3 x) (is_3' x)) : OLe (f_bottle_first K low1 high2 is_3) (m_bottle_first low1 high2 is_3') := by
  unfold f_bottle_first m_bottle_first
  repeat' first | with_reducible exact OLe.refl _ | exact his_3 _ | intro _ | with_reducible apply OLe.bind | with_reducible apply OLe.bindv | with_reducible apply OLe.ite | with_reducible apply OLe.loop | with_reducible apply OLe.forL | apply e_b_bottle_first_1 | split
noncomputable def f_bottle_Water (K : Nat) (b1 : ApiBatch) (least5 : Int) (most6 : Int) : Option (ApiSpan × Int) :=
  (f_bottle_open K b1).bind fun r_22 => if (!r_22.2) then (some ((ApiSpan.mk 0 0), 1)) else (if ((!(m_bottle_isStrength least5)) || (!(m_bottle_isStrength most6))) then (some ((ApiSpan.mk 0 0), 2)) else ((f_bottle_first K 0 17179869185 (fun x => m_bottle_Water_1 x r_22.1 most6)).bind fun r_43 => (f_bottle_first K 0 17179869185 (fun x => m_bottle_Water_2 x r_22.1 least5)).bind fun r_47 => bindv (w64 (r_47 - 1)) fun hi48 => if (decide (r_43 > hi48)) then (some ((ApiSpan.mk 0 0), 4)) else (some ((ApiSpan.mk r_43 hi48), 0))))
theorem e_m_bottle_Water (K : Nat) (b1 : ApiBatch) (least5 : Int) (most6 : Int) : OLe (f_bottle_Water K b1 least5 most6) (m_bottle_Water b1 least5 most6) := by
  unfold f_bottle_Water m_bottle_Water
  repeat' first | with_reducible exact OLe.refl _  | intro _ | with_reducible apply OLe.bind | with_reducible apply OLe.bindv | with_reducible apply OLe.ite | with_reducible apply OLe.loop | with_reducible apply OLe.forL | apply e_m_bottle_first | apply e_m_bottle_open | split
noncomputable def g_wormtubref12_Ints_1 (_K : Nat) (a1 : (List Int)) (b5 : (List Int)) (s10 : Int) : Option (Ctl (Int) ((Unit) ⊕ (Bool))) :=
  if (decide (s10 < (a1.length : Int))) then ((idxL a1 s10).bind fun x14 => (idxL b5 s10).bind fun x24 => if (x14 != x24) then (some (.done (.inr false))) else (bindv (w64 (s10 + 1)) fun i56 => some (.next i56))) else (some (.done (.inl ())))
theorem e_b_wormtubref12_Ints_1 (K : Nat) (a1 : (List Int)) (b5 : (List Int)) (s10 : Int) : OLe (g_wormtubref12_Ints_1 K a1 b5 s10) (b_wormtubref12_Ints_1 a1 b5 s10) := by
  unfold g_wormtubref12_Ints_1 b_wormtubref12_Ints_1
  repeat' first | with_reducible exact OLe.refl _  | intro _ | with_reducible apply OLe.bind | with_reducible apply OLe.bindv | with_reducible apply OLe.ite | with_reducible apply OLe.loop | with_reducible apply OLe.forL  | split
noncomputable def f_wormtubref12_Ints (K : Nat) (a1 : (List Int)) (b5 : (List Int)) : Option Bool :=
  if ((a1.length : Int) != (b5.length : Int)) then (some false) else ((loopN (g_wormtubref12_Ints_1 K a1 b5) K 0).bind fun b0 => match b0 with | .inl _b58 => (some true) | .inr b58 => (some b58))
theorem e_m_wormtubref12_Ints (K : Nat) (a1 : (List Int)) (b5 : (List Int)) : OLe (f_wormtubref12_Ints K a1 b5) (m_wormtubref12_Ints a1 b5) := by
  unfold f_wormtubref12_Ints m_wormtubref12_Ints
  repeat' first | with_reducible exact OLe.refl _  | intro _ | with_reducible apply OLe.bind | with_reducible apply OLe.bindv | with_reducible apply OLe.ite | with_reducible apply OLe.loop | with_reducible apply OLe.forL | apply e_b_wormtubref12_Ints_1 | split
noncomputable def f_wormtublaw12_awake (K : Nat)  : Option Bool :=
  (m_wormtublaw12_sample).bind fun r_3 => (f_bottle_Blend K r_3.1).bind fun r_13 => (f_bottle_Water K r_3.1 4600 4620).bind fun r_17 => (f_bottle_False K r_3.1 ([(ApiClaim.mk 0 0 3650), (ApiClaim.mk 0 0 3701), (ApiClaim.mk 1 3 1)])).bind fun r_26 => (f_bottle_Stamps K r_3.2).bind fun r_32 => (f_bottle_Whose K r_3.2 13).bind fun r_39 => if (((((((((!(eq_36 r_13.1.Volume (ApiSpan.mk 999 1000))) || (!(eq_36 r_13.1.Strength (ApiSpan.mk 5800 5812)))) || (r_13.1.Age != 3700)) || ((r_13.1.Woods 2) != 700)) || ((r_13.1.Places 0) != 3000)) || (r_13.1.Casks != 2)) || (r_13.2 != 0)) || (!(eq_36 r_17.1 (ApiSpan.mk 258 260)))) || (r_17.2 != 0)) then (some false) else ((f_wormtubref12_Spans K r_32.1.Hand ([(ApiSpan.mk 10 11), (ApiSpan.mk 16 19), (ApiSpan.mk 21 31)])).bind fun r_80 => (f_wormtubref12_Ints K r_26.1 ([1, 2])).bind fun r_88 => some ((((((((r_88 && (r_26.2 == 0)) && r_80) && (r_32.1.Stuck == 4)) && (r_32.1.Spoiled == 1)) && (r_32.2.1 == 4)) && (r_32.2.2 == 0)) && (r_39.1 == 3)) && (r_39.2 == 0)))
theorem e_m_wormtublaw12_awake (K : Nat)  : OLe (f_wormtublaw12_awake K ) (m_wormtublaw12_awake ) := by
  unfold f_wormtublaw12_awake m_wormtublaw12_awake
  repeat' first | with_reducible exact OLe.refl _  | intro _ | with_reducible apply OLe.bind | with_reducible apply OLe.bindv | with_reducible apply OLe.ite | with_reducible apply OLe.loop | with_reducible apply OLe.forL | apply e_m_bottle_Blend | apply e_m_bottle_False | apply e_m_bottle_Stamps | apply e_m_bottle_Water | apply e_m_bottle_Whose | apply e_m_wormtubref12_Ints | apply e_m_wormtubref12_Spans | split

end Go.Proofs.Ytbomfcghpajaiaa
