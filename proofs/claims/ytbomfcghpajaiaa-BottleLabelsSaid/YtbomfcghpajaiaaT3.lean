/- Printed by gen.py: plain models of the program's functions, and that the code does what they say. -/
import Derived.Test.YtbomfcghpajaiaaT0
import Derived.Test.YtbomfcghpajaiaaT2
namespace Go.Proofs.Ytbomfcghpajaiaa
open Go.Dec

noncomputable def b_bottle_open_1 (b1 : ApiBatch) (s11 : Int × BottleBatch) : Option (Ctl (Int × BottleBatch) ((BottleBatch) ⊕ (BottleBatch × Bool))) :=
  if (decide (s11.1 < (b1.Draughts.length : Int))) then ((idxL b1.Draughts s11.1).bind fun x18 => (m_bottle_isDraught x18).bind fun r_31 => if (!r_31) then (some (.done (.inr (s11.2, false)))) else (bindv ({ s11.2 with amount := (w64 (s11.2.amount + x18.Amount)) }) fun x33 => bindv ({ x33 with least := (w64 (x33.least + (w64 (x18.Amount * x18.Strength.Lo)))) }) fun x36 => bindv ({ x36 with most := (w64 (x36.most + (w64 (x18.Amount * x18.Strength.Hi)))) }) fun x39 => some (.next ((w64 (s11.1 + 1)), x39)))) else (some (.done (.inl s11.2)))
noncomputable def m_bottle_open (b1 : ApiBatch) : Option (BottleBatch × Bool) :=
  (loopM (b_bottle_open_1 b1) (0, (BottleBatch.mk b1 0 0 0))).bind fun b0 => match b0 with | .inl b42 => (if (m_bottle_within (b1.Draughts.length : Int) 1 16) then (if (m_bottle_within b1.Water 0 17179869184) then (some (b42, (m_bottle_isSpan b1.Shrink 1000))) else (some (b42, false))) else (some (b42, false))) | .inr b42 => (some (b42.1, b42.2))
theorem c_bottle_open (F0 : Fz) (b1 : ApiBatch) (p2 : Option Addr) (k3 : Nat) (h4 : RepSl 27 (Ex cApiDraught) F0 p2 k3 b1.Draughts) : CT0 Try.prog 51 [(eApiBatch b1 p2 k3)].toArray F0 (m_bottle_open b1) (fun r F v => ∃ p0 k0, v = .tuple #[(eBottleBatch r.1 p0 k0), (.bool r.2)] ∧ RepSl 27 (Ex cApiDraught) F p0 k0 r.1.Batch.Draughts) := by
  refine CT0.enter Try.func51 rfl Try.ntmps51 rfl fun r R => ?_
  unfold m_bottle_open
  refine .seq ?_
  refine .region ?_
  refine .boxF (cs := (cApiBatch b1 p2 k3)) rfl rfl rfl (fun b5 F_6 l_7 hb8 => ?_)
  refine .alloc (cs := (cBottleBatch (BottleBatch.mk (ApiBatch.mk ([]) 0 (ApiSpan.mk 0 0) false false) 0 0 0) none 0)) rfl Try.zeroValue95 rfl (fun b9 => ?_)
  refine .assign rfl rfl ?_
  refine .nil ?_
  refine .code ?_
  refine .seq ?_
  refine .region ?_
  refine .loadFA rfl Try.isAgg38 Try.sizeOf38 rfl hb8 (vs := (cApiBatch b1 p2 k3)) (by kernel_rfl) rfl ?_
  refine .build (cs := (cBottleBatch (BottleBatch.mk b1 0 0 0) p2 k3).toArray) rfl Try.underlying95 Try.zeroValue95 (plBottleBatch _ Try.underlying95) rfl rfl (by kernel_rfl) ?_
  refine .alloc (cs := (cBottleBatch (BottleBatch.mk (ApiBatch.mk ([]) 0 (ApiSpan.mk 0 0) false false) 0 0 0) none 0)) rfl Try.zeroValue95 rfl (fun b10 => ?_)
  refine .store (cs' := (cBottleBatch (BottleBatch.mk b1 0 0 0) p2 k3)) Try.sizeOf95 rfl rfl rfl rfl (i := 0) rfl (Nat.le_of_ble_eq_true rfl) rfl (setMany_all (by rfl)) ?_
  refine .nil ?_
  refine .code ?_
  refine .seq ?_
  refine .seq ?_
  refine .region ?_
  refine .fieldAddr rfl Try.underlying38 rfl Try.sizeOf34 rfl ?_
  refine .loadF rfl Try.isAgg34 rfl hb8 rfl ?_
  refine .lenS rfl rfl Try.underlying34 rfl ?_
  refine .move rfl rfl ?_
  refine .nil ?_
  refine .code ?_
  refine .block ?_
  refine .keep (.cons (k := 1) rfl (.cons (k := 2) rfl (.cons (k := 4) rfl (.cons (k := 10) rfl (.cons (k := 11) rfl (.cons (k := 12) rfl (.nil _))))))) ?_
  refine .loop (fun (s11 : Int × BottleBatch) a w => ∃ (F_12 : Fz) (p14 : Option Addr) (k15 : Nat), F_6 ≤ F_12 ∧ RepSl 27 (Ex cApiDraught) F_12 p14 k15 s11.2.Batch.Draughts ∧ Hd 62 [] [(1, (.pointer (some ⟨b5, 0, none⟩))), (2, (.pointer (some ⟨b9, 0, none⟩))), (4, (.pointer (some ⟨b10, 0, none⟩))), (10, (.slice p2 b1.Draughts.length k3)), (11, (.int .i64 (b1.Draughts.length : Int))), (12, (.int .i64 s11.1))] F_12 [pt b10 (.cells (cBottleBatch s11.2 p14 k15).toArray 95), pt b9 (.cells (cBottleBatch (BottleBatch.mk (ApiBatch.mk ([]) 0 (ApiSpan.mk 0 0) false false) 0 0 0) none 0).toArray 95), R] a w) (fun b0 e a w => match b0 with | .inl b42 => e = .exit 0 ∧ ∃ (F_43 : Fz) (p45 : Option Addr) (k46 : Nat), F_6 ≤ F_43 ∧ RepSl 27 (Ex cApiDraught) F_43 p45 k46 b42.Batch.Draughts ∧ Hd 62 [] [(1, (.pointer (some ⟨b5, 0, none⟩))), (2, (.pointer (some ⟨b9, 0, none⟩))), (4, (.pointer (some ⟨b10, 0, none⟩)))] F_43 [pt b10 (.cells (cBottleBatch b42 p45 k46).toArray 95), pt b9 (.cells (cBottleBatch (BottleBatch.mk (ApiBatch.mk ([]) 0 (ApiSpan.mk 0 0) false false) 0 0 0) none 0).toArray 95), R] a w | .inr b42 => e = .ret ∧ ∃ (F_48 : Fz) (p50 : Option Addr) (k51 : Nat), F_6 ≤ F_48 ∧ RepSl 27 (Ex cApiDraught) F_48 p50 k51 b42.1.Batch.Draughts ∧ Hd 62 [] [(2, (.pointer (some ⟨b9, 0, none⟩))), (3, (.bool b42.2))] F_48 [pt b9 (.cells (cBottleBatch b42.1 p50 k51).toArray 95), R] a w) ?_ ?_ ?_
  · exact fun a w h => ⟨F_6, p2, k3, (Fz.le_refl _), (h4.mono l_7), h.1.sub (.cons (k := 1) rfl (.cons (k := 2) rfl (.cons (k := 4) rfl (.cons (k := 10) rfl (.cons (k := 11) rfl (.cons (k := 12) rfl (.nil _))))))), h.2⟩
  · intro s11 ctl
    refine GC.ex (fun a w ⟨F_12, p14, k15, l_13, h16, hA⟩ => ⟨_, hA, ?_⟩)
    unfold b_bottle_open_1
    refine .seq ?_
    refine .region ?_
    refine .lss rfl rfl rfl ?_
    refine .nil ?_
    refine .code ?_
    refine .seq ?_
    refine .cond rfl (fun hb17 => ?_) (fun hb17 => ?_)
    · skip
      refine .skip ?_
      refine .code ?_
      refine .seq ?_
      refine .block ?_
      refine .seq ?_
      refine .region ?_
      refine .idx rfl Try.underlying34 Try.sizeOf51 (h4.mono (Fz.le_trans l_7 l_13)) rfl rfl (fun x18 b19 o20 T21 fr22 cs23 e24 hm25 hv26 => ?_)
      refine .loadFA rfl Try.isAgg51 Try.sizeOf51 rfl hm25 hv26 rfl ?_
      refine .alloc (cs := (cApiDraught (ApiDraught.mk (ApiCask.mk 0 0 0 0 0 0 0 0 (fun _ => 0) (fun _ => 0)) 0 (ApiSpan.mk 0 0)))) rfl Try.zeroValue51 rfl (fun b28 => ?_)
      refine .store (cs' := (cApiDraught x18)) Try.sizeOf51 rfl rfl rfl rfl (i := 0) rfl (Nat.le_of_ble_eq_true rfl) rfl (setMany_all (by rfl)) ?_
      refine .nil ?_
      refine .code ?_
      refine .seq ?_
      refine .seq ?_
      refine .region ?_
      refine .loadOA rfl Try.isAgg51 Try.sizeOf51 rfl (i := 0) rfl (vs := (cApiDraught x18)) (by kernel_rfl) rfl ?_
      refine .call0 rfl Try.call81 rfl rfl rfl (c_bottle_isDraught _ x18) ?_
      rintro r_31 F_29 _ - l_30 rfl
      refine .not rfl rfl ?_
      refine .nil ?_
      refine .code ?_
      refine .cond rfl (fun hb32 => ?_) (fun hb32 => ?_)
      · skip
        refine .seq ?_
        refine .region ?_
        refine .loadOA rfl Try.isAgg95 Try.sizeOf95 rfl (i := 1) rfl (vs := (cBottleBatch s11.2 p14 k15)) (by kernel_rfl) rfl ?_
        refine .store (cs' := (cBottleBatch s11.2 p14 k15)) Try.sizeOf95 rfl rfl rfl rfl (i := 2) rfl (Nat.le_of_ble_eq_true rfl) rfl (setMany_all (by rfl)) ?_
        refine .assign rfl rfl ?_
        refine .nil ?_
        refine .code ?_
        refine .drop 1 ?_
        refine .drop 0 ?_
        refine .retQ (LPost.ret fun a w h => ⟨rfl, F_29, p14, k15, (Fz.le_trans l_13 l_30), (h16.mono l_30), h.1.sub (.cons (k := 2) rfl (.cons (k := 3) rfl (.nil _))), h.2⟩)
      · skip
        refine .skip ?_
        refine .code ?_
        refine .seq ?_
        refine .region ?_
        refine .fieldAddr rfl Try.underlying95 rfl Try.sizeOf3 rfl ?_
        refine .loadO rfl Try.isAgg3 rfl (i := 1) rfl rfl ?_
        refine .fieldAddr rfl Try.underlying51 rfl Try.sizeOf3 rfl ?_
        refine .loadO rfl Try.isAgg3 rfl (i := 0) rfl rfl ?_
        refine .add rfl rfl rfl ?_
        refine .fieldAddr rfl Try.underlying95 rfl Try.sizeOf3 rfl ?_
        refine .letv (fun x33 e34 => ?_)
        have h35 : RepSl 27 (Ex cApiDraught) F_29 p14 k15 x33.Batch.Draughts := by rw [e34]; exact (h16.mono l_30)
        refine .store (cs' := (cBottleBatch x33 p14 k15)) Try.sizeOf3 rfl rfl rfl rfl (i := 1) rfl (Nat.le_of_ble_eq_true rfl) rfl (by rw [e34]; kernel_rfl) ?_
        refine .nil ?_
        refine .code ?_
        refine .seq ?_
        refine .region ?_
        refine .fieldAddr rfl Try.underlying95 rfl Try.sizeOf3 rfl ?_
        refine .loadO rfl Try.isAgg3 rfl (i := 1) rfl rfl ?_
        refine .fieldAddr rfl Try.underlying51 rfl Try.sizeOf3 rfl ?_
        refine .loadO rfl Try.isAgg3 rfl (i := 0) rfl rfl ?_
        refine .fieldAddr rfl Try.underlying51 rfl Try.sizeOf36 rfl ?_
        refine .fieldAddr rfl Try.underlying36 rfl Try.sizeOf3 rfl ?_
        refine .loadO rfl Try.isAgg3 rfl (i := 0) rfl rfl ?_
        refine .mul rfl rfl rfl ?_
        refine .add rfl rfl rfl ?_
        refine .fieldAddr rfl Try.underlying95 rfl Try.sizeOf3 rfl ?_
        refine .letv (fun x36 e37 => ?_)
        have h38 : RepSl 27 (Ex cApiDraught) F_29 p14 k15 x36.Batch.Draughts := by rw [e37]; exact h35
        refine .store (cs' := (cBottleBatch x36 p14 k15)) Try.sizeOf3 rfl rfl rfl rfl (i := 1) rfl (Nat.le_of_ble_eq_true rfl) rfl (by rw [e37]; kernel_rfl) ?_
        refine .nil ?_
        refine .keep (.cons (k := 1) rfl (.cons (k := 2) rfl (.cons (k := 4) rfl (.cons (k := 6) rfl (.cons (k := 10) rfl (.cons (k := 11) rfl (.cons (k := 12) rfl (.nil _)))))))) ?_
        refine .code ?_
        refine .region ?_
        refine .fieldAddr rfl Try.underlying95 rfl Try.sizeOf3 rfl ?_
        refine .loadO rfl Try.isAgg3 rfl (i := 1) rfl rfl ?_
        refine .fieldAddr rfl Try.underlying51 rfl Try.sizeOf3 rfl ?_
        refine .loadO rfl Try.isAgg3 rfl (i := 0) rfl rfl ?_
        refine .fieldAddr rfl Try.underlying51 rfl Try.sizeOf36 rfl ?_
        refine .fieldAddr rfl Try.underlying36 rfl Try.sizeOf3 rfl ?_
        refine .loadO rfl Try.isAgg3 rfl (i := 0) rfl rfl ?_
        refine .mul rfl rfl rfl ?_
        refine .add rfl rfl rfl ?_
        refine .fieldAddr rfl Try.underlying95 rfl Try.sizeOf3 rfl ?_
        refine .letv (fun x39 e40 => ?_)
        have h41 : RepSl 27 (Ex cApiDraught) F_29 p14 k15 x39.Batch.Draughts := by rw [e40]; exact h38
        refine .store (cs' := (cBottleBatch x39 p14 k15)) Try.sizeOf3 rfl rfl rfl rfl (i := 1) rfl (Nat.le_of_ble_eq_true rfl) rfl (by rw [e40]; kernel_rfl) ?_
        refine .nil ?_
        refine .block ?_
        refine .code ?_
        refine .region ?_
        refine .add rfl rfl rfl ?_
        refine .move rfl rfl ?_
        refine .nil ?_
        refine .drop 0 ?_
        exact .nil (LPost.norm fun a w h => ⟨F_29, p14, k15, (Fz.le_trans l_13 l_30), h41, h.1.sub (.cons (k := 1) rfl (.cons (k := 2) rfl (.cons (k := 4) rfl (.cons (k := 10) rfl (.cons (k := 11) rfl (.cons (k := 12) rfl (.nil _))))))), h.2⟩)
    · skip
      refine .exitOut rfl (LPost.exit fun a w h => ⟨rfl, F_12, p14, k15, l_13, h16, h.1.sub (.cons (k := 1) rfl (.cons (k := 2) rfl (.cons (k := 4) rfl (.nil _)))), h.2⟩)
  · intro b42 hb0 hk e a w hD
    rcases b42 with b42 | b42
    · skip
      obtain ⟨rfl, F_43, p45, k46, l_44, h47, hA⟩ := hD
      refine interp_exit rfl (GE.app ?_ hk a w hA)
      refine .code ?_
      refine .seq ?_
      refine .keep (.cons (k := 1) rfl (.cons (k := 2) rfl (.cons (k := 4) rfl (.nil _)))) ?_
      refine .ite (fun hb55 => ?_) (fun hb55 => ?_)
      · skip
        refine .ite (fun hb58 => ?_) (fun hb58 => ?_)
        · skip
          refine .drawS ⟨1000000, 0, [], 0⟩ 15 [pt b10 (.cells (cBottleBatch b42 p45 k46).toArray 95), pt b9 (.cells (cBottleBatch b42 p45 k46).toArray 95), R] [0, 1, 2, 3, 4, 5, 6, 7, 8, 9, 10, 11, 12, 13] [(47, (eBottleBatch b42 p45 k46)), (48, (.pointer (some ⟨b5, 0 + 0, none⟩))), (49, (.slice p2 b1.Draughts.length k3)), (50, (.int .i64 (b1.Draughts.length : Int))), (51, (.bool (m_bottle_within (b1.Draughts.length : Int) 1 16))), (52, (.bool (m_bottle_within (b1.Draughts.length : Int) 1 16))), (53, (.pointer (some ⟨b5, 0 + 1, none⟩))), (54, (.int .i64 b1.Water)), (55, (.bool (m_bottle_within b1.Water 0 17179869184))), (56, (.bool (m_bottle_within b1.Water 0 17179869184))), (57, (.bool (m_bottle_within b1.Water 0 17179869184))), (58, (.pointer (some ⟨b5, 0 + 2, none⟩))), (59, (eApiSpan b1.Shrink)), (60, (.bool (m_bottle_isSpan b1.Shrink 1000))), (61, (.bool (m_bottle_isSpan b1.Shrink 1000))), (1000015, undef)] mixedOK (by kernel_rfl) (by kernel_rfl) rfl (by kernel_rfl) (by kernel_rfl) rfl rfl rfl rfl ?_ (fun F_61 b62 l_63 => ?_)
          · skip
            refine .cons (.pre rfl rfl (.mk 47 (eBottleBatch b42 p45 k46) [(4, (.pointer (some ⟨b10, 0, none⟩)))] rfl rfl rfl rfl (fun S hS hd => (.cons (hS _ _ rfl) (Sub.nil _))) (fun F_64 X l_65 => ?_))) ?_
            · skip
              refine .loadOA rfl Try.isAgg95 Try.sizeOf95 rfl (i := 0) rfl (vs := (cBottleBatch b42 p45 k46)) (by kernel_rfl) rfl ?_
              exact .fin1 (Fz.le_refl _)
            refine .cons (.pre rfl rfl (.mk 48 (.pointer (some ⟨b5, 0 + 0, none⟩)) [(1, (.pointer (some ⟨b5, 0, none⟩)))] rfl rfl rfl rfl (fun S hS hd => (.cons (hS _ _ rfl) (Sub.nil _))) (fun F_66 X l_67 => ?_))) ?_
            · skip
              refine .fieldAddr rfl Try.underlying38 rfl Try.sizeOf34 rfl ?_
              exact .fin1 (Fz.le_refl _)
            refine .cons (.pre rfl rfl (.mk 49 (.slice p2 b1.Draughts.length k3) [(48, (.pointer (some ⟨b5, 0 + 0, none⟩)))] rfl rfl rfl rfl (fun S hS hd => (.cons (hd.1 rfl rfl _ _ rfl) (Sub.nil _))) (fun F_68 X l_69 => ?_))) ?_
            · skip
              refine .loadF rfl Try.isAgg34 rfl ((Fz.le_trans l_44 l_69).mem _ _ hb8) rfl ?_
              exact .fin1 (Fz.le_refl _)
            refine .cons (.pre rfl rfl (.mk 50 (.int .i64 (b1.Draughts.length : Int)) [(49, (.slice p2 b1.Draughts.length k3))] rfl rfl rfl rfl (fun S hS hd => (.cons (hd.1 rfl rfl _ _ rfl) (Sub.nil _))) (fun F_70 X l_71 => ?_))) ?_
            · skip
              refine .lenS rfl rfl Try.underlying34 rfl ?_
              exact .fin1 (Fz.le_refl _)
            refine .cons (.pre rfl rfl (.mk 51 (.bool (m_bottle_within (b1.Draughts.length : Int) 1 16)) [(50, (.int .i64 (b1.Draughts.length : Int)))] rfl rfl rfl rfl (fun S hS hd => (.cons (hd.1 rfl rfl _ _ rfl) (Sub.nil _))) (fun F_72 X l_73 => ?_))) ?_
            · skip
              refine .callP rfl Try.call44 rfl rfl rfl (c_bottle_within _ (b1.Draughts.length : Int) 1 16) ?_
              rintro F_74 _ l_75 rfl
              exact .fin1 l_75
            refine .cons (.pre rfl rfl (.mk 52 (.bool (m_bottle_within (b1.Draughts.length : Int) 1 16)) [(51, (.bool (m_bottle_within (b1.Draughts.length : Int) 1 16)))] rfl rfl rfl rfl (fun S hS hd => (.cons (hd.1 rfl rfl _ _ rfl) (Sub.nil _))) (fun F_76 X l_77 => ?_))) ?_
            · skip
              refine .move rfl rfl ?_
              exact .fin1 (Fz.le_refl _)
            refine .cons (.pre rfl rfl (.mk 53 (.pointer (some ⟨b5, 0 + 1, none⟩)) [(1, (.pointer (some ⟨b5, 0, none⟩))), (52, (.bool (m_bottle_within (b1.Draughts.length : Int) 1 16)))] rfl rfl rfl rfl (fun S hS hd => (.cons (hS _ _ rfl) (.cons (hd.1 rfl rfl _ _ rfl) (Sub.nil _)))) (fun F_78 X l_79 => ?_))) ?_
            · skip
              refine .onH hb55 rfl rfl ?_
              refine .fieldAddr rfl Try.underlying38 rfl Try.sizeOf3 rfl ?_
              exact .fin1 (Fz.le_refl _)
            refine .cons (.pre rfl rfl (.mk 54 (.int .i64 b1.Water) [(52, (.bool (m_bottle_within (b1.Draughts.length : Int) 1 16))), (53, (.pointer (some ⟨b5, 0 + 1, none⟩)))] rfl rfl rfl rfl (fun S hS hd => (.cons (hd.2.1 rfl rfl _ _ rfl) (.cons (hd.1 rfl rfl _ _ rfl) (Sub.nil _)))) (fun F_80 X l_81 => ?_))) ?_
            · skip
              refine .onH hb55 rfl rfl ?_
              refine .loadF rfl Try.isAgg3 rfl ((Fz.le_trans l_44 l_81).mem _ _ hb8) rfl ?_
              exact .fin1 (Fz.le_refl _)
            refine .cons (.pre rfl rfl (.mk 55 (.bool (m_bottle_within b1.Water 0 17179869184)) [(52, (.bool (m_bottle_within (b1.Draughts.length : Int) 1 16))), (54, (.int .i64 b1.Water))] rfl rfl rfl rfl (fun S hS hd => (.cons (hd.2.1 rfl rfl _ _ rfl) (.cons (hd.1 rfl rfl _ _ rfl) (Sub.nil _)))) (fun F_82 X l_83 => ?_))) ?_
            · skip
              refine .onH hb55 rfl rfl ?_
              refine .callP rfl Try.call44 rfl rfl rfl (c_bottle_within _ b1.Water 0 17179869184) ?_
              rintro F_84 _ l_85 rfl
              exact .fin1 l_85
            refine .cons (.pre rfl rfl (.mk 56 (.bool (m_bottle_within b1.Water 0 17179869184)) [(52, (.bool (m_bottle_within (b1.Draughts.length : Int) 1 16))), (55, (.bool (m_bottle_within b1.Water 0 17179869184)))] rfl rfl rfl rfl (fun S hS hd => (.cons (hd.1 rfl rfl _ _ rfl) (.cons (hd.2.1 rfl rfl _ _ rfl) (Sub.nil _)))) (fun F_86 X l_87 => ?_))) ?_
            · skip
              refine .pickTH hb55  rfl rfl rfl ?_
              exact .fin1 (Fz.le_refl _)
            refine .cons (.pre rfl rfl (.mk 57 (.bool (m_bottle_within b1.Water 0 17179869184)) [(56, (.bool (m_bottle_within b1.Water 0 17179869184)))] rfl rfl rfl rfl (fun S hS hd => (.cons (hd.1 rfl rfl _ _ rfl) (Sub.nil _))) (fun F_88 X l_89 => ?_))) ?_
            · skip
              refine .move rfl rfl ?_
              exact .fin1 (Fz.le_refl _)
            refine .cons (.pre rfl rfl (.mk 58 (.pointer (some ⟨b5, 0 + 2, none⟩)) [(1, (.pointer (some ⟨b5, 0, none⟩))), (57, (.bool (m_bottle_within b1.Water 0 17179869184)))] rfl rfl rfl rfl (fun S hS hd => (.cons (hS _ _ rfl) (.cons (hd.1 rfl rfl _ _ rfl) (Sub.nil _)))) (fun F_90 X l_91 => ?_))) ?_
            · skip
              refine .onH hb58 rfl rfl ?_
              refine .fieldAddr rfl Try.underlying38 rfl Try.sizeOf36 rfl ?_
              exact .fin1 (Fz.le_refl _)
            refine .cons (.pre rfl rfl (.mk 59 (eApiSpan b1.Shrink) [(57, (.bool (m_bottle_within b1.Water 0 17179869184))), (58, (.pointer (some ⟨b5, 0 + 2, none⟩)))] rfl rfl rfl rfl (fun S hS hd => (.cons (hd.2.1 rfl rfl _ _ rfl) (.cons (hd.1 rfl rfl _ _ rfl) (Sub.nil _)))) (fun F_92 X l_93 => ?_))) ?_
            · skip
              refine .onH hb58 rfl rfl ?_
              refine .loadFA rfl Try.isAgg36 Try.sizeOf36 rfl ((Fz.le_trans l_44 l_93).mem _ _ hb8) (vs := (cApiSpan b1.Shrink)) (by kernel_rfl) rfl ?_
              exact .fin1 (Fz.le_refl _)
            refine .cons (.pre rfl rfl (.mk 60 (.bool (m_bottle_isSpan b1.Shrink 1000)) [(57, (.bool (m_bottle_within b1.Water 0 17179869184))), (59, (eApiSpan b1.Shrink))] rfl rfl rfl rfl (fun S hS hd => (.cons (hd.2.1 rfl rfl _ _ rfl) (.cons (hd.1 rfl rfl _ _ rfl) (Sub.nil _)))) (fun F_94 X l_95 => ?_))) ?_
            · skip
              refine .onH hb58 rfl rfl ?_
              refine .callP rfl Try.call71 rfl rfl rfl (c_bottle_isSpan _ b1.Shrink 1000) ?_
              rintro F_96 _ l_97 rfl
              exact .fin1 l_97
            refine .cons (.late 61 (.bool (m_bottle_isSpan b1.Shrink 1000)) [(57, (.bool (m_bottle_within b1.Water 0 17179869184))), (60, (.bool (m_bottle_isSpan b1.Shrink 1000)))] rfl rfl rfl rfl rfl rfl (fun S hS hd => (.cons (hd.1 rfl rfl _ _ rfl) (.cons (hd.2.1 rfl rfl _ _ rfl) (Sub.nil _)))) (fun F_98 hs_ l_99 => ?_)) ?_
            · skip
              refine .pickTH hb58  rfl rfl rfl ?_
              exact .fin1 (Fz.le_refl _)
            refine .cons (.store [(2, (.pointer (some ⟨b9, 0, none⟩))), (47, (eBottleBatch b42 p45 k46))] rfl rfl (fun S hS hd => (.cons (hS _ _ rfl) (.cons (hd.1 rfl rfl _ _ rfl) (Sub.nil _)))) (fun F_100 X l_101 => ?_)) ?_
            · skip
              refine .store (cs' := (cBottleBatch b42 p45 k46)) Try.sizeOf95 rfl rfl rfl rfl (i := 1) rfl (Nat.le_of_ble_eq_true rfl) rfl (setMany_all (by rfl)) ?_
              exact StPost.fin (Fz.le_refl _)
            exact .nil
          refine .assign rfl rfl ?_
          refine .nil ?_
          refine .code ?_
          exact .ret0 Try.results51 (.agg rfl Try.isAgg95 Try.sizeOf95 (i := 1) rfl (vs' := (cBottleBatch b42 p45 k46)) (by kernel_rfl) rfl (.tmp rfl (.nil))) (i := 2) rfl (Fz.le_trans l_7 (Fz.le_trans l_44 l_63)) ⟨p45, k46, rfl, (h47.mono l_63)⟩
        · skip
          refine .drawS ⟨1000000, 0, [], 0⟩ 15 [pt b10 (.cells (cBottleBatch b42 p45 k46).toArray 95), pt b9 (.cells (cBottleBatch b42 p45 k46).toArray 95), R] [0, 1, 2, 3, 4, 5, 6, 7, 8, 9, 10, 11, 12, 13] [(47, (eBottleBatch b42 p45 k46)), (48, (.pointer (some ⟨b5, 0 + 0, none⟩))), (49, (.slice p2 b1.Draughts.length k3)), (50, (.int .i64 (b1.Draughts.length : Int))), (51, (.bool (m_bottle_within (b1.Draughts.length : Int) 1 16))), (52, (.bool (m_bottle_within (b1.Draughts.length : Int) 1 16))), (53, (.pointer (some ⟨b5, 0 + 1, none⟩))), (54, (.int .i64 b1.Water)), (55, (.bool (m_bottle_within b1.Water 0 17179869184))), (56, (.bool (m_bottle_within b1.Water 0 17179869184))), (57, (.bool (m_bottle_within b1.Water 0 17179869184))), (58, undef), (59, undef), (60, undef), (61, (.bool false)), (1000015, undef)] mixedOK (by kernel_rfl) (by kernel_rfl) rfl (by kernel_rfl) (by kernel_rfl) rfl rfl rfl rfl ?_ (fun F_102 b103 l_104 => ?_)
          · skip
            refine .cons (.pre rfl rfl (.mk 47 (eBottleBatch b42 p45 k46) [(4, (.pointer (some ⟨b10, 0, none⟩)))] rfl rfl rfl rfl (fun S hS hd => (.cons (hS _ _ rfl) (Sub.nil _))) (fun F_105 X l_106 => ?_))) ?_
            · skip
              refine .loadOA rfl Try.isAgg95 Try.sizeOf95 rfl (i := 0) rfl (vs := (cBottleBatch b42 p45 k46)) (by kernel_rfl) rfl ?_
              exact .fin1 (Fz.le_refl _)
            refine .cons (.pre rfl rfl (.mk 48 (.pointer (some ⟨b5, 0 + 0, none⟩)) [(1, (.pointer (some ⟨b5, 0, none⟩)))] rfl rfl rfl rfl (fun S hS hd => (.cons (hS _ _ rfl) (Sub.nil _))) (fun F_107 X l_108 => ?_))) ?_
            · skip
              refine .fieldAddr rfl Try.underlying38 rfl Try.sizeOf34 rfl ?_
              exact .fin1 (Fz.le_refl _)
            refine .cons (.pre rfl rfl (.mk 49 (.slice p2 b1.Draughts.length k3) [(48, (.pointer (some ⟨b5, 0 + 0, none⟩)))] rfl rfl rfl rfl (fun S hS hd => (.cons (hd.1 rfl rfl _ _ rfl) (Sub.nil _))) (fun F_109 X l_110 => ?_))) ?_
            · skip
              refine .loadF rfl Try.isAgg34 rfl ((Fz.le_trans l_44 l_110).mem _ _ hb8) rfl ?_
              exact .fin1 (Fz.le_refl _)
            refine .cons (.pre rfl rfl (.mk 50 (.int .i64 (b1.Draughts.length : Int)) [(49, (.slice p2 b1.Draughts.length k3))] rfl rfl rfl rfl (fun S hS hd => (.cons (hd.1 rfl rfl _ _ rfl) (Sub.nil _))) (fun F_111 X l_112 => ?_))) ?_
            · skip
              refine .lenS rfl rfl Try.underlying34 rfl ?_
              exact .fin1 (Fz.le_refl _)
            refine .cons (.pre rfl rfl (.mk 51 (.bool (m_bottle_within (b1.Draughts.length : Int) 1 16)) [(50, (.int .i64 (b1.Draughts.length : Int)))] rfl rfl rfl rfl (fun S hS hd => (.cons (hd.1 rfl rfl _ _ rfl) (Sub.nil _))) (fun F_113 X l_114 => ?_))) ?_
            · skip
              refine .callP rfl Try.call44 rfl rfl rfl (c_bottle_within _ (b1.Draughts.length : Int) 1 16) ?_
              rintro F_115 _ l_116 rfl
              exact .fin1 l_116
            refine .cons (.pre rfl rfl (.mk 52 (.bool (m_bottle_within (b1.Draughts.length : Int) 1 16)) [(51, (.bool (m_bottle_within (b1.Draughts.length : Int) 1 16)))] rfl rfl rfl rfl (fun S hS hd => (.cons (hd.1 rfl rfl _ _ rfl) (Sub.nil _))) (fun F_117 X l_118 => ?_))) ?_
            · skip
              refine .move rfl rfl ?_
              exact .fin1 (Fz.le_refl _)
            refine .cons (.pre rfl rfl (.mk 53 (.pointer (some ⟨b5, 0 + 1, none⟩)) [(1, (.pointer (some ⟨b5, 0, none⟩))), (52, (.bool (m_bottle_within (b1.Draughts.length : Int) 1 16)))] rfl rfl rfl rfl (fun S hS hd => (.cons (hS _ _ rfl) (.cons (hd.1 rfl rfl _ _ rfl) (Sub.nil _)))) (fun F_119 X l_120 => ?_))) ?_
            · skip
              refine .onH hb55 rfl rfl ?_
              refine .fieldAddr rfl Try.underlying38 rfl Try.sizeOf3 rfl ?_
              exact .fin1 (Fz.le_refl _)
            refine .cons (.pre rfl rfl (.mk 54 (.int .i64 b1.Water) [(52, (.bool (m_bottle_within (b1.Draughts.length : Int) 1 16))), (53, (.pointer (some ⟨b5, 0 + 1, none⟩)))] rfl rfl rfl rfl (fun S hS hd => (.cons (hd.2.1 rfl rfl _ _ rfl) (.cons (hd.1 rfl rfl _ _ rfl) (Sub.nil _)))) (fun F_121 X l_122 => ?_))) ?_
            · skip
              refine .onH hb55 rfl rfl ?_
              refine .loadF rfl Try.isAgg3 rfl ((Fz.le_trans l_44 l_122).mem _ _ hb8) rfl ?_
              exact .fin1 (Fz.le_refl _)
            refine .cons (.pre rfl rfl (.mk 55 (.bool (m_bottle_within b1.Water 0 17179869184)) [(52, (.bool (m_bottle_within (b1.Draughts.length : Int) 1 16))), (54, (.int .i64 b1.Water))] rfl rfl rfl rfl (fun S hS hd => (.cons (hd.2.1 rfl rfl _ _ rfl) (.cons (hd.1 rfl rfl _ _ rfl) (Sub.nil _)))) (fun F_123 X l_124 => ?_))) ?_
            · skip
              refine .onH hb55 rfl rfl ?_
              refine .callP rfl Try.call44 rfl rfl rfl (c_bottle_within _ b1.Water 0 17179869184) ?_
              rintro F_125 _ l_126 rfl
              exact .fin1 l_126
            refine .cons (.pre rfl rfl (.mk 56 (.bool (m_bottle_within b1.Water 0 17179869184)) [(52, (.bool (m_bottle_within (b1.Draughts.length : Int) 1 16))), (55, (.bool (m_bottle_within b1.Water 0 17179869184)))] rfl rfl rfl rfl (fun S hS hd => (.cons (hd.1 rfl rfl _ _ rfl) (.cons (hd.2.1 rfl rfl _ _ rfl) (Sub.nil _)))) (fun F_127 X l_128 => ?_))) ?_
            · skip
              refine .pickTH hb55  rfl rfl rfl ?_
              exact .fin1 (Fz.le_refl _)
            refine .cons (.pre rfl rfl (.mk 57 (.bool (m_bottle_within b1.Water 0 17179869184)) [(56, (.bool (m_bottle_within b1.Water 0 17179869184)))] rfl rfl rfl rfl (fun S hS hd => (.cons (hd.1 rfl rfl _ _ rfl) (Sub.nil _))) (fun F_129 X l_130 => ?_))) ?_
            · skip
              refine .move rfl rfl ?_
              exact .fin1 (Fz.le_refl _)
            refine .cons (.pre rfl rfl (.mk 58 undef [(1, (.pointer (some ⟨b5, 0, none⟩))), (57, (.bool (m_bottle_within b1.Water 0 17179869184)))] rfl rfl rfl rfl (fun S hS hd => (.cons (hS _ _ rfl) (.cons (hd.1 rfl rfl _ _ rfl) (Sub.nil _)))) (fun F_131 X l_132 => ?_))) ?_
            · skip
              refine .offH hb58 rfl rfl rfl ?_
              exact .fin1 (Fz.le_refl _)
            refine .cons (.pre rfl rfl (.mk 59 undef [(57, (.bool (m_bottle_within b1.Water 0 17179869184))), (58, undef)] rfl rfl rfl rfl (fun S hS hd => (.cons (hd.2.1 rfl rfl _ _ rfl) (.cons (hd.1 rfl rfl _ _ rfl) (Sub.nil _)))) (fun F_133 X l_134 => ?_))) ?_
            · skip
              refine .offH hb58 rfl rfl rfl ?_
              exact .fin1 (Fz.le_refl _)
            refine .cons (.pre rfl rfl (.mk 60 undef [(57, (.bool (m_bottle_within b1.Water 0 17179869184))), (59, undef)] rfl rfl rfl rfl (fun S hS hd => (.cons (hd.2.1 rfl rfl _ _ rfl) (.cons (hd.1 rfl rfl _ _ rfl) (Sub.nil _)))) (fun F_135 X l_136 => ?_))) ?_
            · skip
              refine .offH hb58 rfl rfl rfl ?_
              exact .fin1 (Fz.le_refl _)
            refine .cons (.late 61 (.bool false) [(57, (.bool (m_bottle_within b1.Water 0 17179869184))), (60, undef)] rfl rfl rfl rfl rfl rfl (fun S hS hd => (.cons (hd.1 rfl rfl _ _ rfl) (.cons (hd.2.1 rfl rfl _ _ rfl) (Sub.nil _)))) (fun F_137 hs_ l_138 => ?_)) ?_
            · skip
              refine .pickFH hb58  rfl rfl rfl ?_
              exact .fin1 (Fz.le_refl _)
            refine .cons (.store [(2, (.pointer (some ⟨b9, 0, none⟩))), (47, (eBottleBatch b42 p45 k46))] rfl rfl (fun S hS hd => (.cons (hS _ _ rfl) (.cons (hd.1 rfl rfl _ _ rfl) (Sub.nil _)))) (fun F_139 X l_140 => ?_)) ?_
            · skip
              refine .store (cs' := (cBottleBatch b42 p45 k46)) Try.sizeOf95 rfl rfl rfl rfl (i := 1) rfl (Nat.le_of_ble_eq_true rfl) rfl (setMany_all (by rfl)) ?_
              exact StPost.fin (Fz.le_refl _)
            exact .nil
          refine .assign rfl rfl ?_
          refine .nil ?_
          refine .code ?_
          exact .ret0 Try.results51 (.agg rfl Try.isAgg95 Try.sizeOf95 (i := 1) rfl (vs' := (cBottleBatch b42 p45 k46)) (by kernel_rfl) rfl (.tmp rfl (.nil))) (i := 2) rfl (Fz.le_trans l_7 (Fz.le_trans l_44 l_104)) ⟨p45, k46, rfl, (h47.mono l_104)⟩
      · skip
        refine .drawS ⟨1000000, 0, [], 0⟩ 15 [pt b10 (.cells (cBottleBatch b42 p45 k46).toArray 95), pt b9 (.cells (cBottleBatch b42 p45 k46).toArray 95), R] [0, 1, 2, 3, 4, 5, 6, 7, 8, 9, 10, 11, 12, 13] [(47, (eBottleBatch b42 p45 k46)), (48, (.pointer (some ⟨b5, 0 + 0, none⟩))), (49, (.slice p2 b1.Draughts.length k3)), (50, (.int .i64 (b1.Draughts.length : Int))), (51, (.bool (m_bottle_within (b1.Draughts.length : Int) 1 16))), (52, (.bool (m_bottle_within (b1.Draughts.length : Int) 1 16))), (53, undef), (54, undef), (55, undef), (56, (.bool false)), (57, (.bool false)), (58, undef), (59, undef), (60, undef), (61, (.bool false)), (1000015, undef)] mixedOK (by kernel_rfl) (by kernel_rfl) rfl (by kernel_rfl) (by kernel_rfl) rfl rfl rfl rfl ?_ (fun F_141 b142 l_143 => ?_)
        · skip
          refine .cons (.pre rfl rfl (.mk 47 (eBottleBatch b42 p45 k46) [(4, (.pointer (some ⟨b10, 0, none⟩)))] rfl rfl rfl rfl (fun S hS hd => (.cons (hS _ _ rfl) (Sub.nil _))) (fun F_144 X l_145 => ?_))) ?_
          · skip
            refine .loadOA rfl Try.isAgg95 Try.sizeOf95 rfl (i := 0) rfl (vs := (cBottleBatch b42 p45 k46)) (by kernel_rfl) rfl ?_
            exact .fin1 (Fz.le_refl _)
          refine .cons (.pre rfl rfl (.mk 48 (.pointer (some ⟨b5, 0 + 0, none⟩)) [(1, (.pointer (some ⟨b5, 0, none⟩)))] rfl rfl rfl rfl (fun S hS hd => (.cons (hS _ _ rfl) (Sub.nil _))) (fun F_146 X l_147 => ?_))) ?_
          · skip
            refine .fieldAddr rfl Try.underlying38 rfl Try.sizeOf34 rfl ?_
            exact .fin1 (Fz.le_refl _)
          refine .cons (.pre rfl rfl (.mk 49 (.slice p2 b1.Draughts.length k3) [(48, (.pointer (some ⟨b5, 0 + 0, none⟩)))] rfl rfl rfl rfl (fun S hS hd => (.cons (hd.1 rfl rfl _ _ rfl) (Sub.nil _))) (fun F_148 X l_149 => ?_))) ?_
          · skip
            refine .loadF rfl Try.isAgg34 rfl ((Fz.le_trans l_44 l_149).mem _ _ hb8) rfl ?_
            exact .fin1 (Fz.le_refl _)
          refine .cons (.pre rfl rfl (.mk 50 (.int .i64 (b1.Draughts.length : Int)) [(49, (.slice p2 b1.Draughts.length k3))] rfl rfl rfl rfl (fun S hS hd => (.cons (hd.1 rfl rfl _ _ rfl) (Sub.nil _))) (fun F_150 X l_151 => ?_))) ?_
          · skip
            refine .lenS rfl rfl Try.underlying34 rfl ?_
            exact .fin1 (Fz.le_refl _)
          refine .cons (.pre rfl rfl (.mk 51 (.bool (m_bottle_within (b1.Draughts.length : Int) 1 16)) [(50, (.int .i64 (b1.Draughts.length : Int)))] rfl rfl rfl rfl (fun S hS hd => (.cons (hd.1 rfl rfl _ _ rfl) (Sub.nil _))) (fun F_152 X l_153 => ?_))) ?_
          · skip
            refine .callP rfl Try.call44 rfl rfl rfl (c_bottle_within _ (b1.Draughts.length : Int) 1 16) ?_
            rintro F_154 _ l_155 rfl
            exact .fin1 l_155
          refine .cons (.pre rfl rfl (.mk 52 (.bool (m_bottle_within (b1.Draughts.length : Int) 1 16)) [(51, (.bool (m_bottle_within (b1.Draughts.length : Int) 1 16)))] rfl rfl rfl rfl (fun S hS hd => (.cons (hd.1 rfl rfl _ _ rfl) (Sub.nil _))) (fun F_156 X l_157 => ?_))) ?_
          · skip
            refine .move rfl rfl ?_
            exact .fin1 (Fz.le_refl _)
          refine .cons (.pre rfl rfl (.mk 53 undef [(1, (.pointer (some ⟨b5, 0, none⟩))), (52, (.bool (m_bottle_within (b1.Draughts.length : Int) 1 16)))] rfl rfl rfl rfl (fun S hS hd => (.cons (hS _ _ rfl) (.cons (hd.1 rfl rfl _ _ rfl) (Sub.nil _)))) (fun F_158 X l_159 => ?_))) ?_
          · skip
            refine .offH hb55 rfl rfl rfl ?_
            exact .fin1 (Fz.le_refl _)
          refine .cons (.pre rfl rfl (.mk 54 undef [(52, (.bool (m_bottle_within (b1.Draughts.length : Int) 1 16))), (53, undef)] rfl rfl rfl rfl (fun S hS hd => (.cons (hd.2.1 rfl rfl _ _ rfl) (.cons (hd.1 rfl rfl _ _ rfl) (Sub.nil _)))) (fun F_160 X l_161 => ?_))) ?_
          · skip
            refine .offH hb55 rfl rfl rfl ?_
            exact .fin1 (Fz.le_refl _)
          refine .cons (.pre rfl rfl (.mk 55 undef [(52, (.bool (m_bottle_within (b1.Draughts.length : Int) 1 16))), (54, undef)] rfl rfl rfl rfl (fun S hS hd => (.cons (hd.2.1 rfl rfl _ _ rfl) (.cons (hd.1 rfl rfl _ _ rfl) (Sub.nil _)))) (fun F_162 X l_163 => ?_))) ?_
          · skip
            refine .offH hb55 rfl rfl rfl ?_
            exact .fin1 (Fz.le_refl _)
          refine .cons (.pre rfl rfl (.mk 56 (.bool false) [(52, (.bool (m_bottle_within (b1.Draughts.length : Int) 1 16))), (55, undef)] rfl rfl rfl rfl (fun S hS hd => (.cons (hd.1 rfl rfl _ _ rfl) (.cons (hd.2.1 rfl rfl _ _ rfl) (Sub.nil _)))) (fun F_164 X l_165 => ?_))) ?_
          · skip
            refine .pickFH hb55  rfl rfl rfl ?_
            exact .fin1 (Fz.le_refl _)
          refine .cons (.pre rfl rfl (.mk 57 (.bool false) [(56, (.bool false))] rfl rfl rfl rfl (fun S hS hd => (.cons (hd.1 rfl rfl _ _ rfl) (Sub.nil _))) (fun F_166 X l_167 => ?_))) ?_
          · skip
            refine .move rfl rfl ?_
            exact .fin1 (Fz.le_refl _)
          refine .cons (.pre rfl rfl (.mk 58 undef [(1, (.pointer (some ⟨b5, 0, none⟩))), (57, (.bool false))] rfl rfl rfl rfl (fun S hS hd => (.cons (hS _ _ rfl) (.cons (hd.1 rfl rfl _ _ rfl) (Sub.nil _)))) (fun F_168 X l_169 => ?_))) ?_
          · skip
            refine .off rfl rfl rfl rfl ?_
            exact .fin1 (Fz.le_refl _)
          refine .cons (.pre rfl rfl (.mk 59 undef [(57, (.bool false)), (58, undef)] rfl rfl rfl rfl (fun S hS hd => (.cons (hd.2.1 rfl rfl _ _ rfl) (.cons (hd.1 rfl rfl _ _ rfl) (Sub.nil _)))) (fun F_170 X l_171 => ?_))) ?_
          · skip
            refine .off rfl rfl rfl rfl ?_
            exact .fin1 (Fz.le_refl _)
          refine .cons (.pre rfl rfl (.mk 60 undef [(57, (.bool false)), (59, undef)] rfl rfl rfl rfl (fun S hS hd => (.cons (hd.2.1 rfl rfl _ _ rfl) (.cons (hd.1 rfl rfl _ _ rfl) (Sub.nil _)))) (fun F_172 X l_173 => ?_))) ?_
          · skip
            refine .off rfl rfl rfl rfl ?_
            exact .fin1 (Fz.le_refl _)
          refine .cons (.late 61 (.bool false) [(57, (.bool false)), (60, undef)] rfl rfl rfl rfl rfl rfl (fun S hS hd => (.cons (hd.1 rfl rfl _ _ rfl) (.cons (hd.2.1 rfl rfl _ _ rfl) (Sub.nil _)))) (fun F_174 hs_ l_175 => ?_)) ?_
          · skip
            refine .pickF  rfl rfl rfl ?_
            exact .fin1 (Fz.le_refl _)
          refine .cons (.store [(2, (.pointer (some ⟨b9, 0, none⟩))), (47, (eBottleBatch b42 p45 k46))] rfl rfl (fun S hS hd => (.cons (hS _ _ rfl) (.cons (hd.1 rfl rfl _ _ rfl) (Sub.nil _)))) (fun F_176 X l_177 => ?_)) ?_
          · skip
            refine .store (cs' := (cBottleBatch b42 p45 k46)) Try.sizeOf95 rfl rfl rfl rfl (i := 1) rfl (Nat.le_of_ble_eq_true rfl) rfl (setMany_all (by rfl)) ?_
            exact StPost.fin (Fz.le_refl _)
          exact .nil
        refine .assign rfl rfl ?_
        refine .nil ?_
        refine .code ?_
        exact .ret0 Try.results51 (.agg rfl Try.isAgg95 Try.sizeOf95 (i := 1) rfl (vs' := (cBottleBatch b42 p45 k46)) (by kernel_rfl) rfl (.tmp rfl (.nil))) (i := 2) rfl (Fz.le_trans l_7 (Fz.le_trans l_44 l_143)) ⟨p45, k46, rfl, (h47.mono l_143)⟩
    obtain ⟨rfl, F_48, p50, k51, l_49, h52, hA⟩ := hD
    exact interp_ret ((ret_post0 Try.results51 (.agg rfl Try.isAgg95 Try.sizeOf95 (i := 0) rfl (vs' := (cBottleBatch b42.1 p50 k51)) (by kernel_rfl) rfl (.tmp rfl (.nil))) (i := 1) rfl (Fz.le_trans l_7 l_49) ⟨p50, k51, rfl, h52⟩) hk a w hA)

noncomputable def m_bottle_up (a1 : Int) (b2 : Int) : Option Int :=
  (quoK .i64 (w64 ((w64 (a1 + b2)) - 1)) b2).bind fun q3 => some q3
theorem c_bottle_up (F0 : Fz) (a1 : Int) (b2 : Int) : CT0 Try.prog 87 [(.int .i64 a1), (.int .i64 b2)].toArray F0 (m_bottle_up a1 b2) (fun r _ v => v = (.int .i64 r)) := by
  refine CT0.enter Try.func87 rfl Try.ntmps87 rfl fun r R => ?_
  unfold m_bottle_up
  refine .seq ?_
  refine .region ?_
  refine .assign rfl rfl ?_
  refine .nil ?_
  refine .code ?_
  refine .seq ?_
  refine .region ?_
  refine .move rfl rfl ?_
  refine .move rfl rfl ?_
  refine .add rfl rfl rfl ?_
  refine .sub rfl rfl rfl ?_
  refine .move rfl rfl ?_
  refine .quo rfl rfl rfl (fun q3 e4 => ?_)
  refine .assign rfl rfl ?_
  refine .nil ?_
  refine .code ?_
  exact .ret0 Try.results87 (.tmp rfl (.nil)) (i := 0) rfl (Fz.le_refl _) rfl

noncomputable def m_bottle_batch_strength (b1 : BottleBatch) (water5 : Int) : Option ApiSpan :=
  bindv (w64 (b1.amount + water5)) fun t11 => (quoK .i64 (w64 (b1.least * 10000)) (w64 (t11 * (w64 (10000 - b1.Batch.Shrink.Lo))))).bind fun q13 => (m_bottle_up (w64 (b1.most * 10000)) (w64 (t11 * (w64 (10000 - b1.Batch.Shrink.Hi))))).bind fun r_17 => some (ApiSpan.mk (imin 10000 q13) (imin 10000 r_17))
theorem c_bottle_batch_strength (F0 : Fz) (b1 : BottleBatch) (p2 : Option Addr) (k3 : Nat) (_h4 : RepSl 27 (Ex cApiDraught) F0 p2 k3 b1.Batch.Draughts) (water5 : Int) : CT0 Try.prog 56 [(eBottleBatch b1 p2 k3), (.int .i64 water5)].toArray F0 (m_bottle_batch_strength b1 water5) (fun r _ v => v = (eApiSpan r)) := by
  refine CT0.enter Try.func56 rfl Try.ntmps56 rfl fun r R => ?_
  unfold m_bottle_batch_strength
  refine .seq ?_
  refine .region ?_
  refine .boxF (cs := (cBottleBatch b1 p2 k3)) rfl rfl rfl (fun b6 F_7 l_8 hb9 => ?_)
  refine .alloc (cs := (cApiSpan (ApiSpan.mk 0 0))) rfl Try.zeroValue36 rfl (fun b10 => ?_)
  refine .nil ?_
  refine .code ?_
  refine .seq ?_
  refine .region ?_
  refine .fieldAddr rfl Try.underlying95 rfl Try.sizeOf3 rfl ?_
  refine .loadF rfl Try.isAgg3 rfl hb9 rfl ?_
  refine .move rfl rfl ?_
  refine .add rfl rfl rfl ?_
  refine .assignL rfl rfl (fun t11 e12 => ?_)
  refine .nil ?_
  refine .code ?_
  refine .seq ?_
  refine .region ?_
  refine .fieldAddr rfl Try.underlying95 rfl Try.sizeOf3 rfl ?_
  refine .loadF rfl Try.isAgg3 rfl hb9 rfl ?_
  refine .mul rfl rfl rfl ?_
  refine .move rfl rfl ?_
  refine .fieldAddr rfl Try.underlying95 rfl Try.sizeOf38 rfl ?_
  refine .fieldAddr rfl Try.underlying38 rfl Try.sizeOf36 rfl ?_
  refine .fieldAddr rfl Try.underlying36 rfl Try.sizeOf3 rfl ?_
  refine .loadF rfl Try.isAgg3 rfl hb9 rfl ?_
  refine .sub rfl rfl rfl ?_
  refine .mul rfl rfl rfl ?_
  refine .quo rfl rfl rfl (fun q13 e14 => ?_)
  refine .assign rfl rfl ?_
  refine .nil ?_
  refine .code ?_
  refine .seq ?_
  refine .region ?_
  refine .fieldAddr rfl Try.underlying95 rfl Try.sizeOf3 rfl ?_
  refine .loadF rfl Try.isAgg3 rfl hb9 rfl ?_
  refine .mul rfl rfl rfl ?_
  refine .move rfl rfl ?_
  refine .fieldAddr rfl Try.underlying95 rfl Try.sizeOf38 rfl ?_
  refine .fieldAddr rfl Try.underlying38 rfl Try.sizeOf36 rfl ?_
  refine .fieldAddr rfl Try.underlying36 rfl Try.sizeOf3 rfl ?_
  refine .loadF rfl Try.isAgg3 rfl hb9 rfl ?_
  refine .sub rfl rfl rfl ?_
  refine .mul rfl rfl rfl ?_
  refine .call0 rfl Try.call87 rfl rfl rfl (c_bottle_up _ (w64 (b1.most * 10000)) (w64 (t11 * (w64 (10000 - b1.Batch.Shrink.Hi))))) ?_
  rintro r_17 F_15 _ - l_16 rfl
  refine .assign rfl rfl ?_
  refine .nil ?_
  refine .keep (.cons (k := 4) rfl (.cons (k := 6) rfl (.cons (k := 7) rfl (.nil _)))) ?_
  refine .code ?_
  refine .seq ?_
  refine .region ?_
  refine .move rfl rfl ?_
  refine .min2 rfl rfl rfl ?_
  refine .move rfl rfl ?_
  refine .min2 rfl rfl rfl ?_
  refine .build (cs := (cApiSpan (ApiSpan.mk (imin 10000 q13) (imin 10000 r_17))).toArray) rfl Try.underlying36 Try.zeroValue36 (plApiSpan _ Try.underlying36) rfl rfl (by kernel_rfl) ?_
  refine .store (cs' := (cApiSpan (ApiSpan.mk (imin 10000 q13) (imin 10000 r_17)))) Try.sizeOf36 rfl rfl rfl rfl (i := 0) rfl (Nat.le_of_ble_eq_true rfl) rfl (setMany_all (by rfl)) ?_
  refine .nil ?_
  refine .code ?_
  exact .ret0 Try.results56 (.agg rfl Try.isAgg36 Try.sizeOf36 (i := 0) rfl (vs' := (cApiSpan (ApiSpan.mk (imin 10000 q13) (imin 10000 r_17)))) (by kernel_rfl) rfl (.nil)) (i := 1) rfl (Fz.le_trans l_8 l_16) rfl

noncomputable def m_bottle_batch_volume (b1 : BottleBatch) (water5 : Int) : Option ApiSpan :=
  bindv (w64 (b1.amount + water5)) fun t11 => (m_bottle_up (w64 (t11 * (w64 (10000 - b1.Batch.Shrink.Lo)))) 10000).bind fun r_15 => some (ApiSpan.mk (w64 (Int.tdiv (w64 (t11 * (w64 (10000 - b1.Batch.Shrink.Hi)))) 10000)) r_15)
theorem c_bottle_batch_volume (F0 : Fz) (b1 : BottleBatch) (p2 : Option Addr) (k3 : Nat) (_h4 : RepSl 27 (Ex cApiDraught) F0 p2 k3 b1.Batch.Draughts) (water5 : Int) : CT0 Try.prog 60 [(eBottleBatch b1 p2 k3), (.int .i64 water5)].toArray F0 (m_bottle_batch_volume b1 water5) (fun r _ v => v = (eApiSpan r)) := by
  refine CT0.enter Try.func60 rfl Try.ntmps60 rfl fun r R => ?_
  unfold m_bottle_batch_volume
  refine .seq ?_
  refine .region ?_
  refine .boxF (cs := (cBottleBatch b1 p2 k3)) rfl rfl rfl (fun b6 F_7 l_8 hb9 => ?_)
  refine .alloc (cs := (cApiSpan (ApiSpan.mk 0 0))) rfl Try.zeroValue36 rfl (fun b10 => ?_)
  refine .nil ?_
  refine .code ?_
  refine .seq ?_
  refine .region ?_
  refine .fieldAddr rfl Try.underlying95 rfl Try.sizeOf3 rfl ?_
  refine .loadF rfl Try.isAgg3 rfl hb9 rfl ?_
  refine .move rfl rfl ?_
  refine .add rfl rfl rfl ?_
  refine .assignL rfl rfl (fun t11 e12 => ?_)
  refine .nil ?_
  refine .code ?_
  refine .seq ?_
  refine .keep (.cons (k := 2) rfl (.cons (k := 4) rfl (.cons (k := 5) rfl (.nil _)))) ?_
  refine .bind (fun r_15 hx16 => ?_)
  refine .draw ⟨1000000, 0, [], 0⟩ [(10, (.int .i64 t11)), (11, (.pointer (some ⟨b6, 0 + 0, none⟩))), (12, (.pointer (some ⟨b6, 0 + 0 + 2, none⟩))), (13, (.pointer (some ⟨b6, 0 + 0 + 2 + 1, none⟩))), (14, (.int .i64 b1.Batch.Shrink.Hi)), (15, (.int .i64 (w64 (10000 - b1.Batch.Shrink.Hi)))), (16, (.int .i64 (w64 (t11 * (w64 (10000 - b1.Batch.Shrink.Hi)))))), (17, (.int .i64 (w64 (Int.tdiv (w64 (t11 * (w64 (10000 - b1.Batch.Shrink.Hi)))) 10000)))), (18, (.int .i64 t11)), (19, (.pointer (some ⟨b6, 0 + 0, none⟩))), (20, (.pointer (some ⟨b6, 0 + 0 + 2, none⟩))), (21, (.pointer (some ⟨b6, 0 + 0 + 2 + 0, none⟩))), (22, (.int .i64 b1.Batch.Shrink.Lo)), (23, (.int .i64 (w64 (10000 - b1.Batch.Shrink.Lo)))), (24, (.int .i64 (w64 (t11 * (w64 (10000 - b1.Batch.Shrink.Lo)))))), (25, (.int .i64 r_15)), (26, (eApiSpan (ApiSpan.mk (w64 (Int.tdiv (w64 (t11 * (w64 (10000 - b1.Batch.Shrink.Hi)))) 10000)) r_15)))] mixedOK (by kernel_rfl) (by kernel_rfl) rfl (by kernel_rfl) ?_ (fun F_17 b18 l_19 => ?_)
  · skip
    refine .cons (.mk 10 (.int .i64 t11) [(5, (.int .i64 t11))] rfl rfl rfl rfl (fun S hS hd => (.cons (hS _ _ rfl) (Sub.nil _))) (fun F_20 X l_21 => ?_)) ?_
    · skip
      refine .move rfl rfl ?_
      exact .fin1 (Fz.le_refl _)
    refine .cons (.mk 11 (.pointer (some ⟨b6, 0 + 0, none⟩)) [(2, (.pointer (some ⟨b6, 0, none⟩)))] rfl rfl rfl rfl (fun S hS hd => (.cons (hS _ _ rfl) (Sub.nil _))) (fun F_22 X l_23 => ?_)) ?_
    · skip
      refine .fieldAddr rfl Try.underlying95 rfl Try.sizeOf38 rfl ?_
      exact .fin1 (Fz.le_refl _)
    refine .cons (.mk 12 (.pointer (some ⟨b6, 0 + 0 + 2, none⟩)) [(11, (.pointer (some ⟨b6, 0 + 0, none⟩)))] rfl rfl rfl rfl (fun S hS hd => (.cons (hd.1 rfl rfl _ _ rfl) (Sub.nil _))) (fun F_24 X l_25 => ?_)) ?_
    · skip
      refine .fieldAddr rfl Try.underlying38 rfl Try.sizeOf36 rfl ?_
      exact .fin1 (Fz.le_refl _)
    refine .cons (.mk 13 (.pointer (some ⟨b6, 0 + 0 + 2 + 1, none⟩)) [(12, (.pointer (some ⟨b6, 0 + 0 + 2, none⟩)))] rfl rfl rfl rfl (fun S hS hd => (.cons (hd.1 rfl rfl _ _ rfl) (Sub.nil _))) (fun F_26 X l_27 => ?_)) ?_
    · skip
      refine .fieldAddr rfl Try.underlying36 rfl Try.sizeOf3 rfl ?_
      exact .fin1 (Fz.le_refl _)
    refine .cons (.mk 14 (.int .i64 b1.Batch.Shrink.Hi) [(13, (.pointer (some ⟨b6, 0 + 0 + 2 + 1, none⟩)))] rfl rfl rfl rfl (fun S hS hd => (.cons (hd.1 rfl rfl _ _ rfl) (Sub.nil _))) (fun F_28 X l_29 => ?_)) ?_
    · skip
      refine .loadF rfl Try.isAgg3 rfl (l_29.mem _ _ hb9) rfl ?_
      exact .fin1 (Fz.le_refl _)
    refine .cons (.mk 15 (.int .i64 (w64 (10000 - b1.Batch.Shrink.Hi))) [(14, (.int .i64 b1.Batch.Shrink.Hi))] rfl rfl rfl rfl (fun S hS hd => (.cons (hd.1 rfl rfl _ _ rfl) (Sub.nil _))) (fun F_30 X l_31 => ?_)) ?_
    · skip
      refine .sub rfl rfl rfl ?_
      exact .fin1 (Fz.le_refl _)
    refine .cons (.mk 16 (.int .i64 (w64 (t11 * (w64 (10000 - b1.Batch.Shrink.Hi))))) [(10, (.int .i64 t11)), (15, (.int .i64 (w64 (10000 - b1.Batch.Shrink.Hi))))] rfl rfl rfl rfl (fun S hS hd => (.cons (hd.1 rfl rfl _ _ rfl) (.cons (hd.2.1 rfl rfl _ _ rfl) (Sub.nil _)))) (fun F_32 X l_33 => ?_)) ?_
    · skip
      refine .mul rfl rfl rfl ?_
      exact .fin1 (Fz.le_refl _)
    refine .cons (.mk 17 (.int .i64 (w64 (Int.tdiv (w64 (t11 * (w64 (10000 - b1.Batch.Shrink.Hi)))) 10000))) [(16, (.int .i64 (w64 (t11 * (w64 (10000 - b1.Batch.Shrink.Hi))))))] rfl rfl rfl rfl (fun S hS hd => (.cons (hd.1 rfl rfl _ _ rfl) (Sub.nil _))) (fun F_34 X l_35 => ?_)) ?_
    · skip
      refine .quoC rfl (by decide) rfl rfl ?_
      exact .fin1 (Fz.le_refl _)
    refine .cons (.mk 18 (.int .i64 t11) [(5, (.int .i64 t11))] rfl rfl rfl rfl (fun S hS hd => (.cons (hS _ _ rfl) (Sub.nil _))) (fun F_36 X l_37 => ?_)) ?_
    · skip
      refine .move rfl rfl ?_
      exact .fin1 (Fz.le_refl _)
    refine .cons (.mk 19 (.pointer (some ⟨b6, 0 + 0, none⟩)) [(2, (.pointer (some ⟨b6, 0, none⟩)))] rfl rfl rfl rfl (fun S hS hd => (.cons (hS _ _ rfl) (Sub.nil _))) (fun F_38 X l_39 => ?_)) ?_
    · skip
      refine .fieldAddr rfl Try.underlying95 rfl Try.sizeOf38 rfl ?_
      exact .fin1 (Fz.le_refl _)
    refine .cons (.mk 20 (.pointer (some ⟨b6, 0 + 0 + 2, none⟩)) [(19, (.pointer (some ⟨b6, 0 + 0, none⟩)))] rfl rfl rfl rfl (fun S hS hd => (.cons (hd.1 rfl rfl _ _ rfl) (Sub.nil _))) (fun F_40 X l_41 => ?_)) ?_
    · skip
      refine .fieldAddr rfl Try.underlying38 rfl Try.sizeOf36 rfl ?_
      exact .fin1 (Fz.le_refl _)
    refine .cons (.mk 21 (.pointer (some ⟨b6, 0 + 0 + 2 + 0, none⟩)) [(20, (.pointer (some ⟨b6, 0 + 0 + 2, none⟩)))] rfl rfl rfl rfl (fun S hS hd => (.cons (hd.1 rfl rfl _ _ rfl) (Sub.nil _))) (fun F_42 X l_43 => ?_)) ?_
    · skip
      refine .fieldAddr rfl Try.underlying36 rfl Try.sizeOf3 rfl ?_
      exact .fin1 (Fz.le_refl _)
    refine .cons (.mk 22 (.int .i64 b1.Batch.Shrink.Lo) [(21, (.pointer (some ⟨b6, 0 + 0 + 2 + 0, none⟩)))] rfl rfl rfl rfl (fun S hS hd => (.cons (hd.1 rfl rfl _ _ rfl) (Sub.nil _))) (fun F_44 X l_45 => ?_)) ?_
    · skip
      refine .loadF rfl Try.isAgg3 rfl (l_45.mem _ _ hb9) rfl ?_
      exact .fin1 (Fz.le_refl _)
    refine .cons (.mk 23 (.int .i64 (w64 (10000 - b1.Batch.Shrink.Lo))) [(22, (.int .i64 b1.Batch.Shrink.Lo))] rfl rfl rfl rfl (fun S hS hd => (.cons (hd.1 rfl rfl _ _ rfl) (Sub.nil _))) (fun F_46 X l_47 => ?_)) ?_
    · skip
      refine .sub rfl rfl rfl ?_
      exact .fin1 (Fz.le_refl _)
    refine .cons (.mk 24 (.int .i64 (w64 (t11 * (w64 (10000 - b1.Batch.Shrink.Lo))))) [(18, (.int .i64 t11)), (23, (.int .i64 (w64 (10000 - b1.Batch.Shrink.Lo))))] rfl rfl rfl rfl (fun S hS hd => (.cons (hd.1 rfl rfl _ _ rfl) (.cons (hd.2.1 rfl rfl _ _ rfl) (Sub.nil _)))) (fun F_48 X l_49 => ?_)) ?_
    · skip
      refine .mul rfl rfl rfl ?_
      exact .fin1 (Fz.le_refl _)
    refine .cons (.mk 25 (.int .i64 r_15) [(24, (.int .i64 (w64 (t11 * (w64 (10000 - b1.Batch.Shrink.Lo))))))] rfl rfl rfl rfl (fun S hS hd => (.cons (hd.1 rfl rfl _ _ rfl) (Sub.nil _))) (fun F_50 X l_51 => ?_)) ?_
    · skip
      refine .callK hx16 rfl Try.call87 rfl rfl rfl (c_bottle_up _ (w64 (t11 * (w64 (10000 - b1.Batch.Shrink.Lo)))) 10000) ?_
      rintro F_52 _ l_53 rfl
      exact .fin1 l_53
    refine .cons (.mk 26 (eApiSpan (ApiSpan.mk (w64 (Int.tdiv (w64 (t11 * (w64 (10000 - b1.Batch.Shrink.Hi)))) 10000)) r_15)) [(17, (.int .i64 (w64 (Int.tdiv (w64 (t11 * (w64 (10000 - b1.Batch.Shrink.Hi)))) 10000)))), (25, (.int .i64 r_15))] rfl rfl rfl rfl (fun S hS hd => (.cons (hd.1 rfl rfl _ _ rfl) (.cons (hd.2.1 rfl rfl _ _ rfl) (Sub.nil _)))) (fun F_54 X l_55 => ?_)) ?_
    · skip
      refine .build (cs := (cApiSpan (ApiSpan.mk (w64 (Int.tdiv (w64 (t11 * (w64 (10000 - b1.Batch.Shrink.Hi)))) 10000)) r_15)).toArray) rfl Try.underlying36 Try.zeroValue36 (plApiSpan _ Try.underlying36) rfl rfl (by kernel_rfl) ?_
      exact .fin1 (Fz.le_refl _)
    exact .nil
  refine .store (cs' := (cApiSpan (ApiSpan.mk (w64 (Int.tdiv (w64 (t11 * (w64 (10000 - b1.Batch.Shrink.Hi)))) 10000)) r_15))) Try.sizeOf36 rfl rfl rfl rfl (i := 0) rfl (Nat.le_of_ble_eq_true rfl) rfl (setMany_all (by rfl)) ?_
  refine .nil ?_
  refine .code ?_
  exact .ret0 Try.results60 (.agg rfl Try.isAgg36 Try.sizeOf36 (i := 0) rfl (vs' := (cApiSpan (ApiSpan.mk (w64 (Int.tdiv (w64 (t11 * (w64 (10000 - b1.Batch.Shrink.Hi)))) 10000)) r_15))) (by kernel_rfl) rfl (.nil)) (i := 1) rfl (Fz.le_trans l_8 l_19) rfl

noncomputable def b_bottle_batch_casks_1 (b1 : BottleBatch) (s11 : (List (Int × Bool)) × Int) : Option (Ctl ((List (Int × Bool)) × Int) (((List (Int × Bool))))) :=
  if (decide (s11.2 < (b1.Batch.Draughts.length : Int))) then ((idxL b1.Batch.Draughts s11.2).bind fun x18 => bindv (mapSet s11.1 x18.From.Number true) fun m_29 => some (.next (m_29, (w64 (s11.2 + 1))))) else (some (.done s11.1))
noncomputable def m_bottle_batch_casks (b1 : BottleBatch) : Option Int :=
  (loopM (b_bottle_batch_casks_1 b1) ([], 0)).bind fun b31 => some (b31.length : Int)
theorem c_bottle_batch_casks (F0 : Fz) (b1 : BottleBatch) (p2 : Option Addr) (k3 : Nat) (h4 : RepSl 27 (Ex cApiDraught) F0 p2 k3 b1.Batch.Draughts) : CT0 Try.prog 82 [(eBottleBatch b1 p2 k3)].toArray F0 (m_bottle_batch_casks b1) (fun r _ v => v = (.int .i64 r)) := by
  refine CT0.enter Try.func82 rfl Try.ntmps82 rfl fun r R => ?_
  unfold m_bottle_batch_casks
  refine .seq ?_
  refine .region ?_
  refine .boxF (cs := (cBottleBatch b1 p2 k3)) rfl rfl rfl (fun b5 F_6 l_7 hb8 => ?_)
  refine .assign rfl rfl ?_
  refine .nil ?_
  refine .code ?_
  refine .seq ?_
  refine .region ?_
  refine .makeMap (fun x : Int => (.int .i64 x)) (fun _ x v => v = (fun x : Bool => (.bool x)) x) rfl (fun b9 => ?_)
  refine .assign rfl rfl ?_
  refine .nil ?_
  refine .code ?_
  refine .seq ?_
  refine .seq ?_
  refine .region ?_
  refine .fieldAddr rfl Try.underlying95 rfl Try.sizeOf38 rfl ?_
  refine .fieldAddr rfl Try.underlying38 rfl Try.sizeOf34 rfl ?_
  refine .loadF rfl Try.isAgg34 rfl hb8 rfl ?_
  refine .lenS rfl rfl Try.underlying34 rfl ?_
  refine .move rfl rfl ?_
  refine .nil ?_
  refine .code ?_
  refine .block ?_
  refine .keep (.cons (k := 3) rfl (.cons (k := 9) rfl (.cons (k := 10) rfl (.cons (k := 11) rfl (.nil _))))) ?_
  refine .loop (fun (s11 : (List (Int × Bool)) × Int) a w => ∃ (F_12 : Fz) (p14 : Nat) (k15 : Unit), F_6 ≤ F_12 ∧ Hd 22 [] [(3, (.map (some p14))), (9, (.slice p2 b1.Batch.Draughts.length k3)), (10, (.int .i64 (b1.Batch.Draughts.length : Int))), (11, (.int .i64 s11.2))] F_12 [ownMap (fun x : Int => (.int .i64 x)) (fun _ x v => v = (fun x : Bool => (.bool x)) x) F_12 p14 s11.1, R] a w) (fun b31 e a w => e = .exit 0 ∧ ∃ (F_32 : Fz) (p34 : Nat) (k35 : Unit), F_6 ≤ F_32 ∧ Hd 22 [] [(3, (.map (some p34)))] F_32 [ownMap (fun x : Int => (.int .i64 x)) (fun _ x v => v = (fun x : Bool => (.bool x)) x) F_32 p34 b31, R] a w) ?_ ?_ ?_
  · exact fun a w h => ⟨F_6, b9, (), (Fz.le_refl _), h.1.sub (.cons (k := 3) rfl (.cons (k := 9) rfl (.cons (k := 10) rfl (.cons (k := 11) rfl (.nil _))))), h.2⟩
  · intro s11 ctl
    refine GC.ex (fun a w ⟨F_12, p14, k15, l_13, hA⟩ => ⟨_, hA, ?_⟩)
    unfold b_bottle_batch_casks_1
    refine .seq ?_
    refine .region ?_
    refine .lss rfl rfl rfl ?_
    refine .nil ?_
    refine .code ?_
    refine .seq ?_
    refine .cond rfl (fun hb17 => ?_) (fun hb17 => ?_)
    · skip
      refine .skip ?_
      refine .code ?_
      refine .seq ?_
      refine .block ?_
      refine .seq ?_
      refine .region ?_
      refine .idx rfl Try.underlying34 Try.sizeOf51 (h4.mono (Fz.le_trans l_7 l_13)) rfl rfl (fun x18 b19 o20 T21 fr22 cs23 e24 hm25 hv26 => ?_)
      refine .loadFA rfl Try.isAgg51 Try.sizeOf51 rfl hm25 hv26 rfl ?_
      refine .alloc (cs := (cApiDraught (ApiDraught.mk (ApiCask.mk 0 0 0 0 0 0 0 0 (fun _ => 0) (fun _ => 0)) 0 (ApiSpan.mk 0 0)))) rfl Try.zeroValue51 rfl (fun b28 => ?_)
      refine .store (cs' := (cApiDraught x18)) Try.sizeOf51 rfl rfl rfl rfl (i := 0) rfl (Nat.le_of_ble_eq_true rfl) rfl (setMany_all (by rfl)) ?_
      refine .nil ?_
      refine .code ?_
      refine .region ?_
      refine .move rfl rfl ?_
      refine .fieldAddr rfl Try.underlying51 rfl Try.sizeOf49 rfl ?_
      refine .fieldAddr rfl Try.underlying49 rfl Try.sizeOf3 rfl ?_
      refine .loadO rfl Try.isAgg3 rfl (i := 0) rfl rfl ?_
      refine .letv (fun m_29 e30 => ?_)
      refine .mapUpdateE (key := x18.From.Number) (val := true) 1 rfl (Fz.le_refl _) Try.underlying133 (.int Try.underlying3) rfl rfl rfl (fun _ _ => rfl) e30 ?_
      refine .nil ?_
      refine .block ?_
      refine .code ?_
      refine .region ?_
      refine .add rfl rfl rfl ?_
      refine .move rfl rfl ?_
      refine .nil ?_
      refine .drop 0 ?_
      exact .nil (LPost.norm fun a w h => ⟨F_12, p14, k15, l_13, h.1.sub (.cons (k := 3) rfl (.cons (k := 9) rfl (.cons (k := 10) rfl (.cons (k := 11) rfl (.nil _))))), h.2⟩)
    · skip
      refine .exitOut rfl (LPost.exit fun a w h => ⟨rfl, F_12, p14, k15, l_13, h.1.sub (.cons (k := 3) rfl (.nil _)), h.2⟩)
  · intro b31 hb0 hk e a w hD
    obtain ⟨rfl, F_32, p34, k35, l_33, hA⟩ := hD
    refine interp_exit rfl (GE.app ?_ hk a w hA)
    refine .code ?_
    refine .seq ?_
    refine .region ?_
    refine .move rfl rfl ?_
    refine .mapLen 0 rfl rfl rfl Try.underlying133 rfl ?_
    refine .assign rfl rfl ?_
    refine .nil ?_
    refine .code ?_
    exact .ret0 Try.results82 (.tmp rfl (.nil)) (i := 1) rfl (Fz.le_trans l_7 l_33) rfl

noncomputable def b_bottle_least_int_1 (of_5 : (ApiDraught → Option Int)) (l_22 : (List ApiDraught)) (s27 : Int × Int) : Option (Ctl (Int × Int) ((Int))) :=
  if (decide (s27.2 < (l_22.length : Int))) then ((idxL l_22 s27.2).bind fun x31 => (of_5 x31).bind fun r_44 => bindv (imin s27.1 r_44) fun out45 => some (.next (out45, (w64 (s27.2 + 1))))) else (some (.done s27.1))
noncomputable def m_bottle_least_int (l_1 : (List ApiDraught)) (of_5 : (ApiDraught → Option Int)) : Option Int :=
  (idxL l_1 0).bind fun x9 => (of_5 x9).bind fun r_21 => (sliceL l_1 1 l_1.length).bind fun l_22 => (loopM (b_bottle_least_int_1 of_5 l_22) (r_21, 0)).bind fun b47 => some b47
theorem c_bottle_least_int (F0 : Fz) (l_1 : (List ApiDraught)) (p2 : Option Addr) (k3 : Nat) (h4 : RepSl 27 (Ex cApiDraught) F0 p2 k3 l_1) (of_5 : (ApiDraught → Option Int)) (p6 : FuncId) (k7 : List Value) (h8 : RepFn Try.prog F0 p6 k7 (fun x _ vs => vs = [(eApiDraught x)]) (fun r _ v => v = (.int .i64 r)) of_5) : CT0 Try.prog 83 [(.slice p2 l_1.length k3), (.func (.func p6) #[] k7.toArray)].toArray F0 (m_bottle_least_int l_1 of_5) (fun r _ v => v = (.int .i64 r)) := by
  refine CT0.enter Try.func83 rfl Try.ntmps83 rfl fun r R => ?_
  unfold m_bottle_least_int
  refine .seq ?_
  refine .region ?_
  refine .assign rfl rfl ?_
  refine .nil ?_
  refine .code ?_
  refine .seq ?_
  refine .region ?_
  refine .move rfl rfl ?_
  refine .move rfl rfl ?_
  refine .idx rfl Try.underlying34 Try.sizeOf51 h4 rfl rfl (fun x9 b10 o11 T12 fr13 cs14 e15 hm16 hv17 => ?_)
  refine .loadFA rfl Try.isAgg51 Try.sizeOf51 rfl hm16 hv17 rfl ?_
  refine .call0 rfl h8.1 rfl rfl rfl (h8.2 _ (Fz.le_refl _) x9 [(eApiDraught x9)] rfl) ?_
  rintro r_21 F_19 _ - l_20 rfl
  refine .assign rfl rfl ?_
  refine .nil ?_
  refine .code ?_
  refine .seq ?_
  refine .seq ?_
  refine .region ?_
  refine .move rfl rfl ?_
  refine .sliceLo rfl Try.underlying34 Try.sizeOf51 (h4.mono l_20) rfl rfl (fun l_22 p23 k24 e25 h26 => ?_)
  refine .lenS rfl rfl Try.underlying34 rfl ?_
  refine .move rfl rfl ?_
  refine .nil ?_
  refine .code ?_
  refine .block ?_
  refine .keep (.cons (k := 1) rfl (.cons (k := 5) rfl (.cons (k := 14) rfl (.cons (k := 15) rfl (.cons (k := 16) rfl (.nil _)))))) ?_
  refine .loop (fun (s27 : Int × Int) a w => ∃ (F_28 : Fz), F_19 ≤ F_28 ∧ Hd 27 [] [(1, (.func (.func p6) #[] k7.toArray)), (5, (.int .i64 s27.1)), (14, (.slice p23 l_22.length k24)), (15, (.int .i64 (l_22.length : Int))), (16, (.int .i64 s27.2))] F_28 [R] a w) (fun b47 e a w => e = .exit 0 ∧ ∃ (F_48 : Fz), F_19 ≤ F_48 ∧ Hd 27 [] [(5, (.int .i64 b47))] F_48 [R] a w) ?_ ?_ ?_
  · exact fun a w h => ⟨F_19, (Fz.le_refl _), h.1.sub (.cons (k := 1) rfl (.cons (k := 5) rfl (.cons (k := 14) rfl (.cons (k := 15) rfl (.cons (k := 16) rfl (.nil _)))))), h.2⟩
  · intro s27 ctl
    refine GC.ex (fun a w ⟨F_28, l_29, hA⟩ => ⟨_, hA, ?_⟩)
    unfold b_bottle_least_int_1
    refine .seq ?_
    refine .region ?_
    refine .lss rfl rfl rfl ?_
    refine .nil ?_
    refine .code ?_
    refine .seq ?_
    refine .cond rfl (fun hb30 => ?_) (fun hb30 => ?_)
    · skip
      refine .skip ?_
      refine .code ?_
      refine .seq ?_
      refine .block ?_
      refine .seq ?_
      refine .region ?_
      refine .idx rfl Try.underlying34 Try.sizeOf51 (h26.mono l_29) rfl rfl (fun x31 b32 o33 T34 fr35 cs36 e37 hm38 hv39 => ?_)
      refine .loadFA rfl Try.isAgg51 Try.sizeOf51 rfl hm38 hv39 rfl ?_
      refine .alloc (cs := (cApiDraught (ApiDraught.mk (ApiCask.mk 0 0 0 0 0 0 0 0 (fun _ => 0) (fun _ => 0)) 0 (ApiSpan.mk 0 0)))) rfl Try.zeroValue51 rfl (fun b41 => ?_)
      refine .store (cs' := (cApiDraught x31)) Try.sizeOf51 rfl rfl rfl rfl (i := 0) rfl (Nat.le_of_ble_eq_true rfl) rfl (setMany_all (by rfl)) ?_
      refine .nil ?_
      refine .code ?_
      refine .region ?_
      refine .move rfl rfl ?_
      refine .move rfl rfl ?_
      refine .loadOA rfl Try.isAgg51 Try.sizeOf51 rfl (i := 0) rfl (vs := (cApiDraught x31)) (by kernel_rfl) rfl ?_
      refine .call0 rfl h8.1 rfl rfl rfl (h8.2 _ (Fz.le_trans l_20 l_29) x31 [(eApiDraught x31)] rfl) ?_
      rintro r_44 F_42 _ - l_43 rfl
      refine .min2 rfl rfl rfl ?_
      refine .assignL rfl rfl (fun out45 e46 => ?_)
      refine .nil ?_
      refine .block ?_
      refine .code ?_
      refine .region ?_
      refine .add rfl rfl rfl ?_
      refine .move rfl rfl ?_
      refine .nil ?_
      refine .drop 0 ?_
      exact .nil (LPost.norm fun a w h => ⟨F_42, (Fz.le_trans l_29 l_43), h.1.sub (.cons (k := 1) rfl (.cons (k := 5) rfl (.cons (k := 14) rfl (.cons (k := 15) rfl (.cons (k := 16) rfl (.nil _)))))), h.2⟩)
    · skip
      refine .exitOut rfl (LPost.exit fun a w h => ⟨rfl, F_28, l_29, h.1.sub (.cons (k := 5) rfl (.nil _)), h.2⟩)
  · intro b47 hb0 hk e a w hD
    obtain ⟨rfl, F_48, l_49, hA⟩ := hD
    refine interp_exit rfl (GE.app ?_ hk a w hA)
    refine .code ?_
    refine .seq ?_
    refine .region ?_
    refine .move rfl rfl ?_
    refine .assign rfl rfl ?_
    refine .nil ?_
    refine .code ?_
    exact .ret0 Try.results83 (.tmp rfl (.nil)) (i := 0) rfl (Fz.le_trans l_20 l_49) rfl

def m_bottle_batch_known_1 (d1 : ApiDraught) : Int :=
  d1.From.Age
theorem c_bottle_batch_known_1 (F0 : Fz) (d1 : ApiDraught) : CT0 Try.prog 84 [(eApiDraught d1)].toArray F0 (some (m_bottle_batch_known_1 d1)) (fun r _ v => v = (.int .i64 r)) := by
  refine CT0.enter Try.func84 rfl Try.ntmps84 rfl fun r R => ?_
  refine .seq ?_
  refine .region ?_
  refine .boxF (cs := (cApiDraught d1)) rfl rfl rfl (fun b2 F_3 l_4 hb5 => ?_)
  refine .assign rfl rfl ?_
  refine .nil ?_
  refine .code ?_
  refine .seq ?_
  refine .region ?_
  refine .fieldAddr rfl Try.underlying51 rfl Try.sizeOf49 rfl ?_
  refine .fieldAddr rfl Try.underlying49 rfl Try.sizeOf3 rfl ?_
  refine .loadF rfl Try.isAgg3 rfl hb5 rfl ?_
  refine .assign rfl rfl ?_
  refine .nil ?_
  refine .code ?_
  exact .ret0 Try.results84 (.tmp rfl (.nil)) (i := 0) rfl l_4 rfl

noncomputable def m_bottle_batch_known_2 (d1 : ApiDraught) (c2 : Int) : Option Int :=
  (idxO 8 c2).bind fun j9 => some (d1.From.Woods j9)
theorem c_bottle_batch_known_2 (F0 : Fz) (d1 : ApiDraught) (c2 : Int) (b3 : Nat) (hb4 : F0.mem b3 = some (.cells [(.int .i64 c2)].toArray 3)) : CT0 Try.prog 85 [(eApiDraught d1), (.pointer (some ⟨b3, 0, none⟩))].toArray F0 (m_bottle_batch_known_2 d1 c2) (fun r _ v => v = (.int .i64 r)) := by
  refine CT0.enter Try.func85 rfl Try.ntmps85 rfl fun r R => ?_
  unfold m_bottle_batch_known_2
  refine .seq ?_
  refine .region ?_
  refine .boxF (cs := (cApiDraught d1)) rfl rfl rfl (fun b5 F_6 l_7 hb8 => ?_)
  refine .assign rfl rfl ?_
  refine .nil ?_
  refine .code ?_
  refine .seq ?_
  refine .region ?_
  refine .loadF rfl Try.isAgg3 rfl (l_7.mem _ _ hb4) rfl ?_
  refine .fieldAddr rfl Try.underlying51 rfl Try.sizeOf49 rfl ?_
  refine .fieldAddr rfl Try.underlying49 rfl Try.sizeOf47 rfl ?_
  refine .bind (fun j9 hj10 => ?_)
  refine .indexAddrA rfl Try.underlying47 Try.sizeOf3 rfl rfl hj10 ?_
  refine .loadF rfl Try.isAgg3 rfl hb8 (allLt8 (p := fun j9 => ((cApiDraught d1))[0 + 0 + 8 + j9 * 1]? = some (.int .i64 (d1.From.Woods j9))) rfl rfl rfl rfl rfl rfl rfl rfl _ (idxO_some hj10).2.2.2) ?_
  refine .assign rfl rfl ?_
  refine .nil ?_
  refine .code ?_
  exact .ret0 Try.results85 (.tmp rfl (.nil)) (i := 0) rfl l_7 rfl

noncomputable def m_bottle_batch_known_3 (d1 : ApiDraught) (c2 : Int) : Option Int :=
  (idxO 8 c2).bind fun j9 => some (d1.From.Places j9)
theorem c_bottle_batch_known_3 (F0 : Fz) (d1 : ApiDraught) (c2 : Int) (b3 : Nat) (hb4 : F0.mem b3 = some (.cells [(.int .i64 c2)].toArray 3)) : CT0 Try.prog 86 [(eApiDraught d1), (.pointer (some ⟨b3, 0, none⟩))].toArray F0 (m_bottle_batch_known_3 d1 c2) (fun r _ v => v = (.int .i64 r)) := by
  refine CT0.enter Try.func86 rfl Try.ntmps86 rfl fun r R => ?_
  unfold m_bottle_batch_known_3
  refine .seq ?_
  refine .region ?_
  refine .boxF (cs := (cApiDraught d1)) rfl rfl rfl (fun b5 F_6 l_7 hb8 => ?_)
  refine .assign rfl rfl ?_
  refine .nil ?_
  refine .code ?_
  refine .seq ?_
  refine .region ?_
  refine .loadF rfl Try.isAgg3 rfl (l_7.mem _ _ hb4) rfl ?_
  refine .fieldAddr rfl Try.underlying51 rfl Try.sizeOf49 rfl ?_
  refine .fieldAddr rfl Try.underlying49 rfl Try.sizeOf47 rfl ?_
  refine .bind (fun j9 hj10 => ?_)
  refine .indexAddrA rfl Try.underlying47 Try.sizeOf3 rfl rfl hj10 ?_
  refine .loadF rfl Try.isAgg3 rfl hb8 (allLt8 (p := fun j9 => ((cApiDraught d1))[0 + 0 + 16 + j9 * 1]? = some (.int .i64 (d1.From.Places j9))) rfl rfl rfl rfl rfl rfl rfl rfl _ (idxO_some hj10).2.2.2) ?_
  refine .assign rfl rfl ?_
  refine .nil ?_
  refine .code ?_
  exact .ret0 Try.results86 (.tmp rfl (.nil)) (i := 0) rfl l_7 rfl

noncomputable def b_bottle_batch_known_1 (b1 : BottleBatch) (s63 : Int × ApiBottling) : Option (Ctl (Int × ApiBottling) ((ApiBottling))) :=
  if (decide (s63.1 < 8)) then ((m_bottle_least_int b1.Batch.Draughts (fun x => m_bottle_batch_known_2 x s63.1)).bind fun r_74 => (idxO 8 s63.1).bind fun j76 => bindv ({ s63.2 with Woods := updN s63.2.Woods j76 r_74 }) fun x78 => some (.next ((w64 (s63.1 + 1)), x78))) else (some (.done s63.2))
noncomputable def b_bottle_batch_known_2 (b1 : BottleBatch) (s107 : Int × ApiBottling) : Option (Ctl (Int × ApiBottling) ((ApiBottling))) :=
  if (decide (s107.1 < 8)) then ((m_bottle_least_int b1.Batch.Draughts (fun x => m_bottle_batch_known_3 x s107.1)).bind fun r_118 => (idxO 8 s107.1).bind fun j120 => bindv ({ s107.2 with Places := updN s107.2.Places j120 r_118 }) fun x122 => some (.next ((w64 (s107.1 + 1)), x122))) else (some (.done s107.2))
noncomputable def m_bottle_batch_known (b1 : BottleBatch) : Option ApiBottling :=
  (m_bottle_batch_volume b1 b1.Batch.Water).bind fun r_12 => (m_bottle_batch_strength b1 b1.Batch.Water).bind fun r_16 => (m_bottle_batch_casks b1).bind fun r_20 => (m_bottle_least_int b1.Batch.Draughts (fun x => some (m_bottle_batch_known_1 x))).bind fun r_60 => bindv ({ (ApiBottling.mk r_12 r_16 0 (fun _ => 0) (fun _ => 0) r_20) with Age := r_60 }) fun x61 => (loopM (b_bottle_batch_known_1 b1) (0, x61)).bind fun b104 => (loopM (b_bottle_batch_known_2 b1) (0, b104)).bind fun b148 => some b148
theorem c_bottle_batch_known (F0 : Fz) (b1 : BottleBatch) (p2 : Option Addr) (k3 : Nat) (h4 : RepSl 27 (Ex cApiDraught) F0 p2 k3 b1.Batch.Draughts) : CT0 Try.prog 52 [(eBottleBatch b1 p2 k3)].toArray F0 (m_bottle_batch_known b1) (fun r _ v => v = (eApiBottling r)) := by
  refine CT0.enter Try.func52 rfl Try.ntmps52 rfl fun r R => ?_
  unfold m_bottle_batch_known
  refine .seq ?_
  refine .region ?_
  refine .boxF (cs := (cBottleBatch b1 p2 k3)) rfl rfl rfl (fun b5 F_6 l_7 hb8 => ?_)
  refine .alloc (cs := (cApiBottling (ApiBottling.mk (ApiSpan.mk 0 0) (ApiSpan.mk 0 0) 0 (fun _ => 0) (fun _ => 0) 0))) rfl Try.zeroValue56 rfl (fun b9 => ?_)
  refine .nil ?_
  refine .code ?_
  refine .seq ?_
  refine .keep (.cons (k := 1) rfl (.cons (k := 2) rfl (.nil _))) ?_
  refine .bind (fun r_12 hx13 => ?_)
  refine .bind (fun r_16 hx17 => ?_)
  refine .bind (fun r_20 hx21 => ?_)
  refine .draw ⟨13, 3, (cApiBottling (ApiBottling.mk (ApiSpan.mk 0 0) (ApiSpan.mk 0 0) 0 (fun _ => 0) (fun _ => 0) 0)), 56⟩ [(6, (eBottleBatch b1 p2 k3)), (7, (.pointer (some ⟨b5, 0 + 0, none⟩))), (8, (.pointer (some ⟨b5, 0 + 0 + 1, none⟩))), (9, (.int .i64 b1.Batch.Water)), (10, (eApiSpan r_12)), (11, (eBottleBatch b1 p2 k3)), (12, (.pointer (some ⟨b5, 0 + 0, none⟩))), (13, (.pointer (some ⟨b5, 0 + 0 + 1, none⟩))), (14, (.int .i64 b1.Batch.Water)), (15, (eApiSpan r_16)), (16, (eBottleBatch b1 p2 k3)), (17, (.int .i64 r_20)), (18, (eApiBottling (ApiBottling.mk r_12 r_16 0 (fun _ => 0) (fun _ => 0) r_20))), (3, undef)] mixedOK (by kernel_rfl) (by kernel_rfl) rfl (by kernel_rfl) ?_ (fun F_23 b22 l_24 => ?_)
  · skip
    refine .cons (.mk 6 (eBottleBatch b1 p2 k3) [(1, (.pointer (some ⟨b5, 0, none⟩)))] rfl rfl rfl rfl (fun S hS hd => (.cons (hS _ _ rfl) (Sub.nil _))) (fun F_25 X l_26 => ?_)) ?_
    · skip
      refine .loadFA rfl Try.isAgg95 Try.sizeOf95 rfl (l_26.mem _ _ hb8) (vs := (cBottleBatch b1 p2 k3)) (by kernel_rfl) rfl ?_
      exact .fin1 (Fz.le_refl _)
    refine .cons (.mk 7 (.pointer (some ⟨b5, 0 + 0, none⟩)) [(1, (.pointer (some ⟨b5, 0, none⟩)))] rfl rfl rfl rfl (fun S hS hd => (.cons (hS _ _ rfl) (Sub.nil _))) (fun F_27 X l_28 => ?_)) ?_
    · skip
      refine .fieldAddr rfl Try.underlying95 rfl Try.sizeOf38 rfl ?_
      exact .fin1 (Fz.le_refl _)
    refine .cons (.mk 8 (.pointer (some ⟨b5, 0 + 0 + 1, none⟩)) [(7, (.pointer (some ⟨b5, 0 + 0, none⟩)))] rfl rfl rfl rfl (fun S hS hd => (.cons (hd.1 rfl rfl _ _ rfl) (Sub.nil _))) (fun F_29 X l_30 => ?_)) ?_
    · skip
      refine .fieldAddr rfl Try.underlying38 rfl Try.sizeOf3 rfl ?_
      exact .fin1 (Fz.le_refl _)
    refine .cons (.mk 9 (.int .i64 b1.Batch.Water) [(8, (.pointer (some ⟨b5, 0 + 0 + 1, none⟩)))] rfl rfl rfl rfl (fun S hS hd => (.cons (hd.1 rfl rfl _ _ rfl) (Sub.nil _))) (fun F_31 X l_32 => ?_)) ?_
    · skip
      refine .loadF rfl Try.isAgg3 rfl (l_32.mem _ _ hb8) rfl ?_
      exact .fin1 (Fz.le_refl _)
    refine .cons (.mk 10 (eApiSpan r_12) [(6, (eBottleBatch b1 p2 k3)), (9, (.int .i64 b1.Batch.Water))] rfl rfl rfl rfl (fun S hS hd => (.cons (hd.1 rfl rfl _ _ rfl) (.cons (hd.2.1 rfl rfl _ _ rfl) (Sub.nil _)))) (fun F_33 X l_34 => ?_)) ?_
    · skip
      refine .callK hx13 rfl Try.call60 rfl rfl rfl (c_bottle_batch_volume _ b1 p2 k3 (h4.mono (Fz.le_trans l_7 l_34)) b1.Batch.Water) ?_
      rintro F_35 _ l_36 rfl
      exact .fin1 l_36
    refine .cons (.mk 11 (eBottleBatch b1 p2 k3) [(1, (.pointer (some ⟨b5, 0, none⟩)))] rfl rfl rfl rfl (fun S hS hd => (.cons (hS _ _ rfl) (Sub.nil _))) (fun F_37 X l_38 => ?_)) ?_
    · skip
      refine .loadFA rfl Try.isAgg95 Try.sizeOf95 rfl (l_38.mem _ _ hb8) (vs := (cBottleBatch b1 p2 k3)) (by kernel_rfl) rfl ?_
      exact .fin1 (Fz.le_refl _)
    refine .cons (.mk 12 (.pointer (some ⟨b5, 0 + 0, none⟩)) [(1, (.pointer (some ⟨b5, 0, none⟩)))] rfl rfl rfl rfl (fun S hS hd => (.cons (hS _ _ rfl) (Sub.nil _))) (fun F_39 X l_40 => ?_)) ?_
    · skip
      refine .fieldAddr rfl Try.underlying95 rfl Try.sizeOf38 rfl ?_
      exact .fin1 (Fz.le_refl _)
    refine .cons (.mk 13 (.pointer (some ⟨b5, 0 + 0 + 1, none⟩)) [(12, (.pointer (some ⟨b5, 0 + 0, none⟩)))] rfl rfl rfl rfl (fun S hS hd => (.cons (hd.1 rfl rfl _ _ rfl) (Sub.nil _))) (fun F_41 X l_42 => ?_)) ?_
    · skip
      refine .fieldAddr rfl Try.underlying38 rfl Try.sizeOf3 rfl ?_
      exact .fin1 (Fz.le_refl _)
    refine .cons (.mk 14 (.int .i64 b1.Batch.Water) [(13, (.pointer (some ⟨b5, 0 + 0 + 1, none⟩)))] rfl rfl rfl rfl (fun S hS hd => (.cons (hd.1 rfl rfl _ _ rfl) (Sub.nil _))) (fun F_43 X l_44 => ?_)) ?_
    · skip
      refine .loadF rfl Try.isAgg3 rfl (l_44.mem _ _ hb8) rfl ?_
      exact .fin1 (Fz.le_refl _)
    refine .cons (.mk 15 (eApiSpan r_16) [(11, (eBottleBatch b1 p2 k3)), (14, (.int .i64 b1.Batch.Water))] rfl rfl rfl rfl (fun S hS hd => (.cons (hd.1 rfl rfl _ _ rfl) (.cons (hd.2.1 rfl rfl _ _ rfl) (Sub.nil _)))) (fun F_45 X l_46 => ?_)) ?_
    · skip
      refine .callK hx17 rfl Try.call56 rfl rfl rfl (c_bottle_batch_strength _ b1 p2 k3 (h4.mono (Fz.le_trans l_7 l_46)) b1.Batch.Water) ?_
      rintro F_47 _ l_48 rfl
      exact .fin1 l_48
    refine .cons (.mk 16 (eBottleBatch b1 p2 k3) [(1, (.pointer (some ⟨b5, 0, none⟩)))] rfl rfl rfl rfl (fun S hS hd => (.cons (hS _ _ rfl) (Sub.nil _))) (fun F_49 X l_50 => ?_)) ?_
    · skip
      refine .loadFA rfl Try.isAgg95 Try.sizeOf95 rfl (l_50.mem _ _ hb8) (vs := (cBottleBatch b1 p2 k3)) (by kernel_rfl) rfl ?_
      exact .fin1 (Fz.le_refl _)
    refine .cons (.mk 17 (.int .i64 r_20) [(16, (eBottleBatch b1 p2 k3))] rfl rfl rfl rfl (fun S hS hd => (.cons (hd.1 rfl rfl _ _ rfl) (Sub.nil _))) (fun F_51 X l_52 => ?_)) ?_
    · skip
      refine .callK hx21 rfl Try.call82 rfl rfl rfl (c_bottle_batch_casks _ b1 p2 k3 (h4.mono (Fz.le_trans l_7 l_52))) ?_
      rintro F_53 _ l_54 rfl
      exact .fin1 l_54
    refine .cons (.mk 18 (eApiBottling (ApiBottling.mk r_12 r_16 0 (fun _ => 0) (fun _ => 0) r_20)) [(10, (eApiSpan r_12)), (15, (eApiSpan r_16)), (17, (.int .i64 r_20))] rfl rfl rfl rfl (fun S hS hd => (.cons (hd.1 rfl rfl _ _ rfl) (.cons (hd.2.1 rfl rfl _ _ rfl) (.cons (hd.2.2.1 rfl rfl _ _ rfl) (Sub.nil _))))) (fun F_55 X l_56 => ?_)) ?_
    · skip
      refine .build (cs := (cApiBottling (ApiBottling.mk r_12 r_16 0 (fun _ => 0) (fun _ => 0) r_20)).toArray) rfl Try.underlying56 Try.zeroValue56 (plApiBottling _ Try.underlying56) rfl rfl (by kernel_rfl) ?_
      exact .fin1 (Fz.le_refl _)
    refine .cons (.new rfl rfl rfl Try.zeroValue56 rfl rfl) ?_
    exact .nil
  refine .store (cs' := (cApiBottling (ApiBottling.mk r_12 r_16 0 (fun _ => 0) (fun _ => 0) r_20))) Try.sizeOf56 rfl rfl rfl rfl (i := 2) rfl (Nat.le_of_ble_eq_true rfl) rfl (setMany_all (by rfl)) ?_
  refine .nil ?_
  refine .code ?_
  refine .seq ?_
  refine .region ?_
  refine .fieldAddr rfl Try.underlying95 rfl Try.sizeOf38 rfl ?_
  refine .fieldAddr rfl Try.underlying38 rfl Try.sizeOf34 rfl ?_
  refine .loadF rfl Try.isAgg34 rfl (l_24.mem _ _ hb8) rfl ?_
  have hf57 : RepFn Try.prog F_23 84 [] (fun x _ vs => vs = [(eApiDraught x)]) (fun r _ v => v = (.int .i64 r)) (fun x => some (m_bottle_batch_known_1 x)) := ⟨Try.call84, fun F' le' x vs hv => by obtain rfl := hv; exact c_bottle_batch_known_1 F' x⟩
  refine .call0 rfl Try.call83 rfl rfl rfl (c_bottle_least_int _ b1.Batch.Draughts p2 k3 (h4.mono (Fz.le_trans l_7 l_24)) (fun x => some (m_bottle_batch_known_1 x)) 84 ([]) hf57) ?_
  rintro r_60 F_58 _ - l_59 rfl
  refine .fieldAddr rfl Try.underlying56 rfl Try.sizeOf3 rfl ?_
  refine .letv (fun x61 e62 => ?_)
  refine .store (cs' := (cApiBottling x61)) Try.sizeOf3 rfl rfl rfl rfl (i := 2) rfl (Nat.le_of_ble_eq_true rfl) rfl (by rw [e62]; kernel_rfl) ?_
  refine .nil ?_
  refine .code ?_
  refine .seq ?_
  refine .seq ?_
  refine .region ?_
  refine .move rfl rfl ?_
  refine .nil ?_
  refine .code ?_
  refine .block ?_
  refine .keep (.cons (k := 1) rfl (.cons (k := 2) rfl (.cons (k := 3) rfl (.cons (k := 24) rfl (.nil _))))) ?_
  refine .loop (fun (s63 : Int × ApiBottling) a w => ∃ (F_64 : Fz), F_58 ≤ F_64 ∧ Hd 49 [] [(1, (.pointer (some ⟨b5, 0, none⟩))), (2, (.pointer (some ⟨b9, 0, none⟩))), (3, (.pointer (some ⟨b22, 0, none⟩))), (24, (.int .i64 s63.1))] F_64 [pt b9 (.cells (cApiBottling (ApiBottling.mk (ApiSpan.mk 0 0) (ApiSpan.mk 0 0) 0 (fun _ => 0) (fun _ => 0) 0)).toArray 56), R, pt b22 (.cells (cApiBottling s63.2).toArray 56)] a w) (fun b104 e a w => e = .exit 0 ∧ ∃ (F_105 : Fz), F_58 ≤ F_105 ∧ Hd 49 [] [(1, (.pointer (some ⟨b5, 0, none⟩))), (2, (.pointer (some ⟨b9, 0, none⟩))), (3, (.pointer (some ⟨b22, 0, none⟩)))] F_105 [pt b9 (.cells (cApiBottling (ApiBottling.mk (ApiSpan.mk 0 0) (ApiSpan.mk 0 0) 0 (fun _ => 0) (fun _ => 0) 0)).toArray 56), R, pt b22 (.cells (cApiBottling b104).toArray 56)] a w) ?_ ?_ ?_
  · exact fun a w h => ⟨F_58, (Fz.le_refl _), h.1.sub (.cons (k := 1) rfl (.cons (k := 2) rfl (.cons (k := 3) rfl (.cons (k := 24) rfl (.nil _))))), h.2⟩
  · intro s63 ctl
    refine GC.ex (fun a w ⟨F_64, l_65, hA⟩ => ⟨_, hA, ?_⟩)
    unfold b_bottle_batch_known_1
    refine .seq ?_
    refine .region ?_
    refine .lss rfl rfl rfl ?_
    refine .nil ?_
    refine .code ?_
    refine .seq ?_
    refine .cond rfl (fun hb66 => ?_) (fun hb66 => ?_)
    · skip
      refine .skip ?_
      refine .code ?_
      refine .seq ?_
      refine .block ?_
      refine .seq ?_
      refine .region ?_
      refine .move rfl rfl ?_
      refine .alloc (cs := [(.int .i64 0)]) rfl Try.zeroValue3 rfl (fun b67 => ?_)
      refine .store (cs' := [(.int .i64 s63.1)]) Try.sizeOf3 rfl rfl rfl rfl (i := 0) rfl (Nat.le_of_ble_eq_true rfl) rfl rfl ?_
      refine .nil ?_
      refine .code ?_
      refine .freeze 0 rfl (fun F_68 l_69 hb70 => ?_)
      refine .keep (.cons (k := 1) rfl (.cons (k := 2) rfl (.cons (k := 3) rfl (.cons (k := 4) rfl (.cons (k := 24) rfl (.nil _)))))) ?_
      refine .bind (fun r_74 hx75 => ?_)
      refine .bind (fun j76 hj77 => ?_)
      refine .letv (fun x78 e79 => ?_)
      refine .drawS ⟨1000000, 0, [], 0⟩ 8 [pt b9 (.cells (cApiBottling (ApiBottling.mk (ApiSpan.mk 0 0) (ApiSpan.mk 0 0) 0 (fun _ => 0) (fun _ => 0) 0)).toArray 56), R, pt b22 (.cells (cApiBottling x78).toArray 56)] [0, 1, 2, 3, 4, 5, 6, 7] [(27, (.int .i64 s63.1)), (28, (.pointer (some ⟨b5, 0 + 0, none⟩))), (29, (.pointer (some ⟨b5, 0 + 0 + 0, none⟩))), (30, (.slice p2 b1.Batch.Draughts.length k3)), (31, (.func (.func 85) #[] [(.pointer (some ⟨b67, 0, none⟩))].toArray)), (32, (.int .i64 r_74)), (33, (.pointer (some ⟨b22, 0 + 5, none⟩))), (34, (.pointer (some ⟨b22, 0 + 5 + j76 * 1, none⟩))), (1000008, undef)] mixedOK (by kernel_rfl) (by kernel_rfl) rfl (by kernel_rfl) (by kernel_rfl) rfl rfl rfl rfl ?_ (fun F_80 b81 l_82 => ?_)
      · skip
        refine .cons (.pre rfl rfl (.mk 27 (.int .i64 s63.1) [(4, (.pointer (some ⟨b67, 0, none⟩)))] rfl rfl rfl rfl (fun S hS hd => (.cons (hS _ _ rfl) (Sub.nil _))) (fun F_83 X l_84 => ?_))) ?_
        · skip
          refine .loadF rfl Try.isAgg3 rfl (l_84.mem _ _ hb70) rfl ?_
          exact .fin1 (Fz.le_refl _)
        refine .cons (.pre rfl rfl (.mk 28 (.pointer (some ⟨b5, 0 + 0, none⟩)) [(1, (.pointer (some ⟨b5, 0, none⟩)))] rfl rfl rfl rfl (fun S hS hd => (.cons (hS _ _ rfl) (Sub.nil _))) (fun F_85 X l_86 => ?_))) ?_
        · skip
          refine .fieldAddr rfl Try.underlying95 rfl Try.sizeOf38 rfl ?_
          exact .fin1 (Fz.le_refl _)
        refine .cons (.pre rfl rfl (.mk 29 (.pointer (some ⟨b5, 0 + 0 + 0, none⟩)) [(28, (.pointer (some ⟨b5, 0 + 0, none⟩)))] rfl rfl rfl rfl (fun S hS hd => (.cons (hd.1 rfl rfl _ _ rfl) (Sub.nil _))) (fun F_87 X l_88 => ?_))) ?_
        · skip
          refine .fieldAddr rfl Try.underlying38 rfl Try.sizeOf34 rfl ?_
          exact .fin1 (Fz.le_refl _)
        refine .cons (.pre rfl rfl (.mk 30 (.slice p2 b1.Batch.Draughts.length k3) [(29, (.pointer (some ⟨b5, 0 + 0 + 0, none⟩)))] rfl rfl rfl rfl (fun S hS hd => (.cons (hd.1 rfl rfl _ _ rfl) (Sub.nil _))) (fun F_89 X l_90 => ?_))) ?_
        · skip
          refine .loadF rfl Try.isAgg34 rfl ((Fz.le_trans l_24 (Fz.le_trans l_59 (Fz.le_trans l_65 (Fz.le_trans l_69 l_90)))).mem _ _ hb8) rfl ?_
          exact .fin1 (Fz.le_refl _)
        refine .cons (.pre rfl rfl (.mk 31 (.func (.func 85) #[] [(.pointer (some ⟨b67, 0, none⟩))].toArray) [(4, (.pointer (some ⟨b67, 0, none⟩)))] rfl rfl rfl rfl (fun S hS hd => (.cons (hS _ _ rfl) (Sub.nil _))) (fun F_91 X l_92 => ?_))) ?_
        · skip
          refine .makeFunc rfl rfl ?_
          exact .fin1 (Fz.le_refl _)
        refine .cons (.pre rfl rfl (.mk 32 (.int .i64 r_74) [(30, (.slice p2 b1.Batch.Draughts.length k3)), (31, (.func (.func 85) #[] [(.pointer (some ⟨b67, 0, none⟩))].toArray))] rfl rfl rfl rfl (fun S hS hd => (.cons (hd.1 rfl rfl _ _ rfl) (.cons (hd.2.1 rfl rfl _ _ rfl) (Sub.nil _)))) (fun F_93 X l_94 => ?_))) ?_
        · skip
          have hf95 : RepFn Try.prog F_93 85 [(.pointer (some ⟨b67, 0, none⟩))] (fun x _ vs => vs = [(eApiDraught x)]) (fun r _ v => v = (.int .i64 r)) (fun x => m_bottle_batch_known_2 x s63.1) := ⟨Try.call85, fun F' le' x vs hv => by obtain rfl := hv; exact c_bottle_batch_known_2 F' x s63.1 b67 (le'.mem _ _ (l_94.mem _ _ hb70))⟩
          refine .callK hx75 rfl Try.call83 rfl rfl rfl (c_bottle_least_int _ b1.Batch.Draughts p2 k3 (h4.mono (Fz.le_trans l_7 (Fz.le_trans l_24 (Fz.le_trans l_59 (Fz.le_trans l_65 (Fz.le_trans l_69 l_94)))))) (fun x => m_bottle_batch_known_2 x s63.1) 85 ([(.pointer (some ⟨b67, 0, none⟩))]) hf95) ?_
          rintro F_96 _ l_97 rfl
          exact .fin1 l_97
        refine .cons (.pre rfl rfl (.mk 33 (.pointer (some ⟨b22, 0 + 5, none⟩)) [(3, (.pointer (some ⟨b22, 0, none⟩)))] rfl rfl rfl rfl (fun S hS hd => (.cons (hS _ _ rfl) (Sub.nil _))) (fun F_98 X l_99 => ?_))) ?_
        · skip
          refine .fieldAddr rfl Try.underlying56 rfl Try.sizeOf47 rfl ?_
          exact .fin1 (Fz.le_refl _)
        refine .cons (.pre rfl rfl (.mk 34 (.pointer (some ⟨b22, 0 + 5 + j76 * 1, none⟩)) [(27, (.int .i64 s63.1)), (33, (.pointer (some ⟨b22, 0 + 5, none⟩)))] rfl rfl rfl rfl (fun S hS hd => (.cons (hd.2.1 rfl rfl _ _ rfl) (.cons (hd.1 rfl rfl _ _ rfl) (Sub.nil _)))) (fun F_100 X l_101 => ?_))) ?_
        · skip
          refine .indexAddrA rfl Try.underlying47 Try.sizeOf3 rfl rfl hj77 ?_
          exact .fin1 (Fz.le_refl _)
        refine .cons (.store [(32, (.int .i64 r_74)), (34, (.pointer (some ⟨b22, 0 + 5 + j76 * 1, none⟩)))] rfl rfl (fun S hS hd => (.cons (hd.2.1 rfl rfl _ _ rfl) (.cons (hd.1 rfl rfl _ _ rfl) (Sub.nil _)))) (fun F_102 X l_103 => ?_)) ?_
        · skip
          refine .store (cs' := (cApiBottling x78)) Try.sizeOf3 rfl rfl rfl rfl (i := 2) rfl (allLt8 (p := fun j76 => 0 + 5 + j76 * 1 + 1 ≤ 22) (by decide) (by decide) (by decide) (by decide) (by decide) (by decide) (by decide) (by decide) _ (idxO_some hj77).2.2.2) rfl (by rw [e79]; exact (allLt8 (p := fun j76 => setMany ((cApiBottling s63.2)) (0 + 5 + j76 * 1) [(.int .i64 r_74)] = (cApiBottling ({ s63.2 with Woods := updN s63.2.Woods j76 r_74 }))) rfl rfl rfl rfl rfl rfl rfl rfl _ (idxO_some hj77).2.2.2)) ?_
          exact StPost.fin (Fz.le_refl _)
        exact .nil
      refine .nil ?_
      refine .block ?_
      refine .code ?_
      refine .region ?_
      refine .add rfl rfl rfl ?_
      refine .move rfl rfl ?_
      refine .nil ?_
      exact .nil (LPost.norm fun a w h => ⟨F_80, (Fz.le_trans l_65 (Fz.le_trans l_69 l_82)), h.1.sub (.cons (k := 1) rfl (.cons (k := 2) rfl (.cons (k := 3) rfl (.cons (k := 24) rfl (.nil _))))), h.2⟩)
    · skip
      refine .exitOut rfl (LPost.exit fun a w h => ⟨rfl, F_64, l_65, h.1.sub (.cons (k := 1) rfl (.cons (k := 2) rfl (.cons (k := 3) rfl (.nil _)))), h.2⟩)
  · intro b104 hb0 hk e a w hD
    obtain ⟨rfl, F_105, l_106, hA⟩ := hD
    refine interp_exit rfl (GE.app ?_ hk a w hA)
    refine .code ?_
    refine .seq ?_
    refine .seq ?_
    refine .region ?_
    refine .move rfl rfl ?_
    refine .nil ?_
    refine .code ?_
    refine .block ?_
    refine .keep (.cons (k := 1) rfl (.cons (k := 2) rfl (.cons (k := 3) rfl (.cons (k := 36) rfl (.nil _))))) ?_
    refine .loop (fun (s107 : Int × ApiBottling) a w => ∃ (F_108 : Fz), F_105 ≤ F_108 ∧ Hd 49 [] [(1, (.pointer (some ⟨b5, 0, none⟩))), (2, (.pointer (some ⟨b9, 0, none⟩))), (3, (.pointer (some ⟨b22, 0, none⟩))), (36, (.int .i64 s107.1))] F_108 [pt b9 (.cells (cApiBottling (ApiBottling.mk (ApiSpan.mk 0 0) (ApiSpan.mk 0 0) 0 (fun _ => 0) (fun _ => 0) 0)).toArray 56), R, pt b22 (.cells (cApiBottling s107.2).toArray 56)] a w) (fun b148 e a w => e = .exit 2 ∧ ∃ (F_149 : Fz), F_105 ≤ F_149 ∧ Hd 49 [] [(2, (.pointer (some ⟨b9, 0, none⟩))), (3, (.pointer (some ⟨b22, 0, none⟩)))] F_149 [pt b9 (.cells (cApiBottling (ApiBottling.mk (ApiSpan.mk 0 0) (ApiSpan.mk 0 0) 0 (fun _ => 0) (fun _ => 0) 0)).toArray 56), R, pt b22 (.cells (cApiBottling b148).toArray 56)] a w) ?_ ?_ ?_
    · exact fun a w h => ⟨F_105, (Fz.le_refl _), h.1.sub (.cons (k := 1) rfl (.cons (k := 2) rfl (.cons (k := 3) rfl (.cons (k := 36) rfl (.nil _))))), h.2⟩
    · intro s107 ctl
      refine GC.ex (fun a w ⟨F_108, l_109, hA⟩ => ⟨_, hA, ?_⟩)
      unfold b_bottle_batch_known_2
      refine .seq ?_
      refine .region ?_
      refine .lss rfl rfl rfl ?_
      refine .nil ?_
      refine .code ?_
      refine .seq ?_
      refine .cond rfl (fun hb110 => ?_) (fun hb110 => ?_)
      · skip
        refine .skip ?_
        refine .code ?_
        refine .seq ?_
        refine .block ?_
        refine .seq ?_
        refine .region ?_
        refine .move rfl rfl ?_
        refine .alloc (cs := [(.int .i64 0)]) rfl Try.zeroValue3 rfl (fun b111 => ?_)
        refine .store (cs' := [(.int .i64 s107.1)]) Try.sizeOf3 rfl rfl rfl rfl (i := 0) rfl (Nat.le_of_ble_eq_true rfl) rfl rfl ?_
        refine .nil ?_
        refine .code ?_
        refine .freeze 0 rfl (fun F_112 l_113 hb114 => ?_)
        refine .keep (.cons (k := 1) rfl (.cons (k := 2) rfl (.cons (k := 3) rfl (.cons (k := 5) rfl (.cons (k := 36) rfl (.nil _)))))) ?_
        refine .bind (fun r_118 hx119 => ?_)
        refine .bind (fun j120 hj121 => ?_)
        refine .letv (fun x122 e123 => ?_)
        refine .drawS ⟨1000000, 0, [], 0⟩ 8 [pt b9 (.cells (cApiBottling (ApiBottling.mk (ApiSpan.mk 0 0) (ApiSpan.mk 0 0) 0 (fun _ => 0) (fun _ => 0) 0)).toArray 56), R, pt b22 (.cells (cApiBottling x122).toArray 56)] [0, 1, 2, 3, 4, 5, 6, 7] [(39, (.int .i64 s107.1)), (40, (.pointer (some ⟨b5, 0 + 0, none⟩))), (41, (.pointer (some ⟨b5, 0 + 0 + 0, none⟩))), (42, (.slice p2 b1.Batch.Draughts.length k3)), (43, (.func (.func 86) #[] [(.pointer (some ⟨b111, 0, none⟩))].toArray)), (44, (.int .i64 r_118)), (45, (.pointer (some ⟨b22, 0 + 13, none⟩))), (46, (.pointer (some ⟨b22, 0 + 13 + j120 * 1, none⟩))), (1000008, undef)] mixedOK (by kernel_rfl) (by kernel_rfl) rfl (by kernel_rfl) (by kernel_rfl) rfl rfl rfl rfl ?_ (fun F_124 b125 l_126 => ?_)
        · skip
          refine .cons (.pre rfl rfl (.mk 39 (.int .i64 s107.1) [(5, (.pointer (some ⟨b111, 0, none⟩)))] rfl rfl rfl rfl (fun S hS hd => (.cons (hS _ _ rfl) (Sub.nil _))) (fun F_127 X l_128 => ?_))) ?_
          · skip
            refine .loadF rfl Try.isAgg3 rfl (l_128.mem _ _ hb114) rfl ?_
            exact .fin1 (Fz.le_refl _)
          refine .cons (.pre rfl rfl (.mk 40 (.pointer (some ⟨b5, 0 + 0, none⟩)) [(1, (.pointer (some ⟨b5, 0, none⟩)))] rfl rfl rfl rfl (fun S hS hd => (.cons (hS _ _ rfl) (Sub.nil _))) (fun F_129 X l_130 => ?_))) ?_
          · skip
            refine .fieldAddr rfl Try.underlying95 rfl Try.sizeOf38 rfl ?_
            exact .fin1 (Fz.le_refl _)
          refine .cons (.pre rfl rfl (.mk 41 (.pointer (some ⟨b5, 0 + 0 + 0, none⟩)) [(40, (.pointer (some ⟨b5, 0 + 0, none⟩)))] rfl rfl rfl rfl (fun S hS hd => (.cons (hd.1 rfl rfl _ _ rfl) (Sub.nil _))) (fun F_131 X l_132 => ?_))) ?_
          · skip
            refine .fieldAddr rfl Try.underlying38 rfl Try.sizeOf34 rfl ?_
            exact .fin1 (Fz.le_refl _)
          refine .cons (.pre rfl rfl (.mk 42 (.slice p2 b1.Batch.Draughts.length k3) [(41, (.pointer (some ⟨b5, 0 + 0 + 0, none⟩)))] rfl rfl rfl rfl (fun S hS hd => (.cons (hd.1 rfl rfl _ _ rfl) (Sub.nil _))) (fun F_133 X l_134 => ?_))) ?_
          · skip
            refine .loadF rfl Try.isAgg34 rfl ((Fz.le_trans l_24 (Fz.le_trans l_59 (Fz.le_trans l_106 (Fz.le_trans l_109 (Fz.le_trans l_113 l_134))))).mem _ _ hb8) rfl ?_
            exact .fin1 (Fz.le_refl _)
          refine .cons (.pre rfl rfl (.mk 43 (.func (.func 86) #[] [(.pointer (some ⟨b111, 0, none⟩))].toArray) [(5, (.pointer (some ⟨b111, 0, none⟩)))] rfl rfl rfl rfl (fun S hS hd => (.cons (hS _ _ rfl) (Sub.nil _))) (fun F_135 X l_136 => ?_))) ?_
          · skip
            refine .makeFunc rfl rfl ?_
            exact .fin1 (Fz.le_refl _)
          refine .cons (.pre rfl rfl (.mk 44 (.int .i64 r_118) [(42, (.slice p2 b1.Batch.Draughts.length k3)), (43, (.func (.func 86) #[] [(.pointer (some ⟨b111, 0, none⟩))].toArray))] rfl rfl rfl rfl (fun S hS hd => (.cons (hd.1 rfl rfl _ _ rfl) (.cons (hd.2.1 rfl rfl _ _ rfl) (Sub.nil _)))) (fun F_137 X l_138 => ?_))) ?_
          · skip
            have hf139 : RepFn Try.prog F_137 86 [(.pointer (some ⟨b111, 0, none⟩))] (fun x _ vs => vs = [(eApiDraught x)]) (fun r _ v => v = (.int .i64 r)) (fun x => m_bottle_batch_known_3 x s107.1) := ⟨Try.call86, fun F' le' x vs hv => by obtain rfl := hv; exact c_bottle_batch_known_3 F' x s107.1 b111 (le'.mem _ _ (l_138.mem _ _ hb114))⟩
            refine .callK hx119 rfl Try.call83 rfl rfl rfl (c_bottle_least_int _ b1.Batch.Draughts p2 k3 (h4.mono (Fz.le_trans l_7 (Fz.le_trans l_24 (Fz.le_trans l_59 (Fz.le_trans l_106 (Fz.le_trans l_109 (Fz.le_trans l_113 l_138))))))) (fun x => m_bottle_batch_known_3 x s107.1) 86 ([(.pointer (some ⟨b111, 0, none⟩))]) hf139) ?_
            rintro F_140 _ l_141 rfl
            exact .fin1 l_141
          refine .cons (.pre rfl rfl (.mk 45 (.pointer (some ⟨b22, 0 + 13, none⟩)) [(3, (.pointer (some ⟨b22, 0, none⟩)))] rfl rfl rfl rfl (fun S hS hd => (.cons (hS _ _ rfl) (Sub.nil _))) (fun F_142 X l_143 => ?_))) ?_
          · skip
            refine .fieldAddr rfl Try.underlying56 rfl Try.sizeOf47 rfl ?_
            exact .fin1 (Fz.le_refl _)
          refine .cons (.pre rfl rfl (.mk 46 (.pointer (some ⟨b22, 0 + 13 + j120 * 1, none⟩)) [(39, (.int .i64 s107.1)), (45, (.pointer (some ⟨b22, 0 + 13, none⟩)))] rfl rfl rfl rfl (fun S hS hd => (.cons (hd.2.1 rfl rfl _ _ rfl) (.cons (hd.1 rfl rfl _ _ rfl) (Sub.nil _)))) (fun F_144 X l_145 => ?_))) ?_
          · skip
            refine .indexAddrA rfl Try.underlying47 Try.sizeOf3 rfl rfl hj121 ?_
            exact .fin1 (Fz.le_refl _)
          refine .cons (.store [(44, (.int .i64 r_118)), (46, (.pointer (some ⟨b22, 0 + 13 + j120 * 1, none⟩)))] rfl rfl (fun S hS hd => (.cons (hd.2.1 rfl rfl _ _ rfl) (.cons (hd.1 rfl rfl _ _ rfl) (Sub.nil _)))) (fun F_146 X l_147 => ?_)) ?_
          · skip
            refine .store (cs' := (cApiBottling x122)) Try.sizeOf3 rfl rfl rfl rfl (i := 2) rfl (allLt8 (p := fun j120 => 0 + 13 + j120 * 1 + 1 ≤ 22) (by decide) (by decide) (by decide) (by decide) (by decide) (by decide) (by decide) (by decide) _ (idxO_some hj121).2.2.2) rfl (by rw [e123]; exact (allLt8 (p := fun j120 => setMany ((cApiBottling s107.2)) (0 + 13 + j120 * 1) [(.int .i64 r_118)] = (cApiBottling ({ s107.2 with Places := updN s107.2.Places j120 r_118 }))) rfl rfl rfl rfl rfl rfl rfl rfl _ (idxO_some hj121).2.2.2)) ?_
            exact StPost.fin (Fz.le_refl _)
          exact .nil
        refine .nil ?_
        refine .block ?_
        refine .code ?_
        refine .region ?_
        refine .add rfl rfl rfl ?_
        refine .move rfl rfl ?_
        refine .nil ?_
        exact .nil (LPost.norm fun a w h => ⟨F_124, (Fz.le_trans l_109 (Fz.le_trans l_113 l_126)), h.1.sub (.cons (k := 1) rfl (.cons (k := 2) rfl (.cons (k := 3) rfl (.cons (k := 36) rfl (.nil _))))), h.2⟩)
      · skip
        refine .exitOut rfl (LPost.exit fun a w h => ⟨rfl, F_108, l_109, h.1.sub (.cons (k := 2) rfl (.cons (k := 3) rfl (.nil _))), h.2⟩)
    · intro b148 hb0 hk e a w hD
      obtain ⟨rfl, F_149, l_150, hA⟩ := hD
      refine interp_exit rfl (GE.app ?_ hk a w hA)
      refine .code ?_
      refine .seq ?_
      refine .region ?_
      refine .loadOA rfl Try.isAgg56 Try.sizeOf56 rfl (i := 2) rfl (vs := (cApiBottling b148)) (by kernel_rfl) rfl ?_
      refine .store (cs' := (cApiBottling b148)) Try.sizeOf56 rfl rfl rfl rfl (i := 0) rfl (Nat.le_of_ble_eq_true rfl) rfl (setMany_all (by rfl)) ?_
      refine .nil ?_
      refine .code ?_
      exact .ret0 Try.results52 (.agg rfl Try.isAgg56 Try.sizeOf56 (i := 0) rfl (vs' := (cApiBottling b148)) (by kernel_rfl) rfl (.nil)) (i := 1) rfl (Fz.le_trans l_7 (Fz.le_trans l_24 (Fz.le_trans l_59 (Fz.le_trans l_106 l_150)))) rfl

noncomputable def b_slices_IndexFunc_Claim_1 (s1 : (List ApiClaim)) (f5 : (ApiClaim → Option Bool)) (s9 : Int) : Option (Ctl (Int) ((Unit) ⊕ (Int))) :=
  if (decide (s9 < (s1.length : Int))) then ((idxL s1 s9).bind fun x13 => (f5 x13).bind fun r_25 => if r_25 then (some (.done (.inr s9))) else (some (.next (w64 (s9 + 1))))) else (some (.done (.inl ())))
noncomputable def m_slices_IndexFunc_Claim (s1 : (List ApiClaim)) (f5 : (ApiClaim → Option Bool)) : Option Int :=
  (loopM (b_slices_IndexFunc_Claim_1 s1 f5) 0).bind fun b0 => match b0 with | .inl _b27 => (some (-1)) | .inr b27 => (some b27)
theorem c_slices_IndexFunc_Claim (F0 : Fz) (s1 : (List ApiClaim)) (p2 : Option Addr) (k3 : Nat) (h4 : RepSl 3 (Ex cApiClaim) F0 p2 k3 s1) (f5 : (ApiClaim → Option Bool)) (p6 : FuncId) (k7 : List Value) (h8 : RepFn Try.prog F0 p6 k7 (fun x _ vs => vs = [(eApiClaim x)]) (fun r _ v => v = (.bool r)) f5) : CT0 Try.prog 90 [(.slice p2 s1.length k3), (.func (.func p6) #[] k7.toArray)].toArray F0 (m_slices_IndexFunc_Claim s1 f5) (fun r _ v => v = (.int .i64 r)) := by
  refine CT0.enter Try.func90 rfl Try.ntmps90 rfl fun r R => ?_
  unfold m_slices_IndexFunc_Claim
  refine .seq ?_
  refine .region ?_
  refine .assign rfl rfl ?_
  refine .nil ?_
  refine .code ?_
  refine .seq ?_
  refine .seq ?_
  refine .region ?_
  refine .move rfl rfl ?_
  refine .lenS rfl rfl Try.underlying39 rfl ?_
  refine .move rfl rfl ?_
  refine .nil ?_
  refine .code ?_
  refine .block ?_
  refine .keep (.cons (k := 0) rfl (.cons (k := 1) rfl (.cons (k := 7) rfl (.cons (k := 8) rfl (.nil _))))) ?_
  refine .loop (fun (s9 : Int) a w => ∃ (F_10 : Fz), F0 ≤ F_10 ∧ Hd 19 [] [(0, (.slice p2 s1.length k3)), (1, (.func (.func p6) #[] k7.toArray)), (7, (.int .i64 (s1.length : Int))), (8, (.int .i64 s9))] F_10 [R] a w) (fun b0 e a w => match b0 with | .inl b27 => e = .exit 0 ∧ ∃ (F_28 : Fz), F0 ≤ F_28 ∧ Hd 19 [] [] F_28 [R] a w | .inr b27 => e = .ret ∧ ∃ (F_30 : Fz), F0 ≤ F_30 ∧ Hd 19 [] [(4, (.int .i64 b27))] F_30 [R] a w) ?_ ?_ ?_
  · exact fun a w h => ⟨F0, (Fz.le_refl _), h.1.sub (.cons (k := 0) rfl (.cons (k := 1) rfl (.cons (k := 7) rfl (.cons (k := 8) rfl (.nil _))))), h.2⟩
  · intro s9 ctl
    refine GC.ex (fun a w ⟨F_10, l_11, hA⟩ => ⟨_, hA, ?_⟩)
    unfold b_slices_IndexFunc_Claim_1
    refine .seq ?_
    refine .region ?_
    refine .lss rfl rfl rfl ?_
    refine .nil ?_
    refine .code ?_
    refine .seq ?_
    refine .cond rfl (fun hb12 => ?_) (fun hb12 => ?_)
    · skip
      refine .skip ?_
      refine .code ?_
      refine .seq ?_
      refine .block ?_
      refine .seq ?_
      refine .region ?_
      refine .move rfl rfl ?_
      refine .assign rfl rfl ?_
      refine .nil ?_
      refine .code ?_
      refine .seq ?_
      refine .region ?_
      refine .move rfl rfl ?_
      refine .move rfl rfl ?_
      refine .move rfl rfl ?_
      refine .idx rfl Try.underlying39 Try.sizeOf46 (h4.mono l_11) rfl rfl (fun x13 b14 o15 T16 fr17 cs18 e19 hm20 hv21 => ?_)
      refine .loadFA rfl Try.isAgg46 Try.sizeOf46 rfl hm20 hv21 rfl ?_
      refine .call0 rfl h8.1 rfl rfl rfl (h8.2 _ l_11 x13 [(eApiClaim x13)] rfl) ?_
      rintro r_25 F_23 _ - l_24 rfl
      refine .nil ?_
      refine .code ?_
      refine .cond rfl (fun hb26 => ?_) (fun hb26 => ?_)
      · skip
        refine .seq ?_
        refine .region ?_
        refine .move rfl rfl ?_
        refine .assign rfl rfl ?_
        refine .nil ?_
        refine .code ?_
        refine .retQ (LPost.ret fun a w h => ⟨rfl, F_23, (Fz.le_trans l_11 l_24), h.1.sub (.cons (k := 4) rfl (.nil _)), h.2⟩)
      · skip
        refine .skip ?_
        refine .block ?_
        refine .code ?_
        refine .region ?_
        refine .add rfl rfl rfl ?_
        refine .move rfl rfl ?_
        refine .nil ?_
        exact .nil (LPost.norm fun a w h => ⟨F_23, (Fz.le_trans l_11 l_24), h.1.sub (.cons (k := 0) rfl (.cons (k := 1) rfl (.cons (k := 7) rfl (.cons (k := 8) rfl (.nil _))))), h.2⟩)
    · skip
      refine .exitOut rfl (LPost.exit fun a w h => ⟨rfl, F_10, l_11, h.1.sub (.nil _), h.2⟩)
  · intro b27 hb0 hk e a w hD
    rcases b27 with b27 | b27
    · skip
      obtain ⟨rfl, F_28, l_29, hA⟩ := hD
      refine interp_exit rfl (GE.app ?_ hk a w hA)
      refine .code ?_
      refine .seq ?_
      refine .region ?_
      refine .assign rfl rfl ?_
      refine .nil ?_
      refine .code ?_
      exact .ret0 Try.results90 (.tmp rfl (.nil)) (i := 0) rfl l_29 rfl
    obtain ⟨rfl, F_30, l_31, hA⟩ := hD
    exact interp_ret ((ret_post0 Try.results90 (.tmp rfl (.nil)) (i := 0) rfl l_31 rfl) hk a w hA)

noncomputable def m_slices_ContainsFunc_Claim (s1 : (List ApiClaim)) (f5 : (ApiClaim → Option Bool)) : Option Bool :=
  (m_slices_IndexFunc_Claim s1 f5).bind fun r_11 => some (decide (r_11 ≥ 0))
theorem c_slices_ContainsFunc_Claim (F0 : Fz) (s1 : (List ApiClaim)) (p2 : Option Addr) (k3 : Nat) (h4 : RepSl 3 (Ex cApiClaim) F0 p2 k3 s1) (f5 : (ApiClaim → Option Bool)) (p6 : FuncId) (k7 : List Value) (h8 : RepFn Try.prog F0 p6 k7 (fun x _ vs => vs = [(eApiClaim x)]) (fun r _ v => v = (.bool r)) f5) : CT0 Try.prog 66 [(.slice p2 s1.length k3), (.func (.func p6) #[] k7.toArray)].toArray F0 (m_slices_ContainsFunc_Claim s1 f5) (fun r _ v => v = (.bool r)) := by
  refine CT0.enter Try.func66 rfl Try.ntmps66 rfl fun r R => ?_
  unfold m_slices_ContainsFunc_Claim
  refine .seq ?_
  refine .region ?_
  refine .assign rfl rfl ?_
  refine .nil ?_
  refine .code ?_
  refine .seq ?_
  refine .region ?_
  refine .move rfl rfl ?_
  refine .move rfl rfl ?_
  refine .call0 rfl Try.call90 rfl rfl rfl (c_slices_IndexFunc_Claim _ s1 p2 k3 h4 f5 p6 k7 h8) ?_
  rintro r_11 F_9 _ - l_10 rfl
  refine .geq rfl rfl rfl ?_
  refine .assign rfl rfl ?_
  refine .nil ?_
  refine .code ?_
  exact .ret0 Try.results66 (.tmp rfl (.nil)) (i := 0) rfl l_10 rfl

def m_bottle_isStrength (n_1 : Int) : Bool :=
  (m_bottle_within n_1 0 10000)
theorem c_bottle_isStrength (F0 : Fz) (n_1 : Int) : CT0 Try.prog 53 [(.int .i64 n_1)].toArray F0 (some (m_bottle_isStrength n_1)) (fun r _ v => v = (.bool r)) := by
  refine CT0.enter Try.func53 rfl Try.ntmps53 rfl fun r R => ?_
  refine .seq ?_
  refine .region ?_
  refine .assign rfl rfl ?_
  refine .nil ?_
  refine .code ?_
  refine .seq ?_
  refine .region ?_
  refine .move rfl rfl ?_
  refine .callP rfl Try.call44 rfl rfl rfl (c_bottle_within _ n_1 0 10000) ?_
  rintro F_2 _ l_3 rfl
  refine .assign rfl rfl ?_
  refine .nil ?_
  refine .code ?_
  exact .ret0 Try.results53 (.tmp rfl (.nil)) (i := 0) rfl l_3 rfl

noncomputable def m_bottle_isClaim (c1 : ApiClaim) : Option Bool :=
  if (c1.Kind == 0) then (some (m_bottle_isDay c1.Number)) else (if (c1.Kind == 1) then (some ((m_bottle_isDay c1.Number) && (m_bottle_within c1.What 0 7))) else (if (c1.Kind == 2) then (some ((m_bottle_isDay c1.Number) && (m_bottle_within c1.What 0 7))) else (if (c1.Kind == 7) then (some ((m_bottle_isStrength c1.What) && (m_bottle_isStrength c1.Number))) else (some (m_bottle_within c1.Kind 0 7)))))
theorem c_bottle_isClaim (F0 : Fz) (c1 : ApiClaim) : CT0 Try.prog 94 [(eApiClaim c1)].toArray F0 (m_bottle_isClaim c1) (fun r _ v => v = (.bool r)) := by
  refine CT0.enter Try.func94 rfl Try.ntmps94 rfl fun r R => ?_
  unfold m_bottle_isClaim
  refine .seq ?_
  refine .region ?_
  refine .boxF (cs := (cApiClaim c1)) rfl rfl rfl (fun b2 F_3 l_4 hb5 => ?_)
  refine .assign rfl rfl ?_
  refine .nil ?_
  refine .code ?_
  refine .seq ?_
  refine .seq ?_
  refine .region ?_
  refine .fieldAddr rfl Try.underlying46 rfl Try.sizeOf3 rfl ?_
  refine .loadF rfl Try.isAgg3 rfl hb5 rfl ?_
  refine .nil ?_
  refine .code ?_
  refine .block ?_
  refine .seq ?_
  refine .region ?_
  refine .eql rfl rfl rfl ?_
  refine .assign rfl rfl ?_
  refine .nil ?_
  refine .code ?_
  refine .cond rfl (fun hb6 => ?_) (fun hb6 => ?_)
  · skip
    refine .seq ?_
    refine .region ?_
    refine .fieldAddr rfl Try.underlying46 rfl Try.sizeOf3 rfl ?_
    refine .loadF rfl Try.isAgg3 rfl hb5 rfl ?_
    refine .callP rfl Try.call89 rfl rfl rfl (c_bottle_isDay _ c1.Number) ?_
    rintro F_7 _ l_8 rfl
    refine .assign rfl rfl ?_
    refine .nil ?_
    refine .code ?_
    exact .ret0 Try.results94 (.tmp rfl (.nil)) (i := 0) rfl (Fz.le_trans l_4 l_8) rfl
  · skip
    refine .seq ?_
    refine .region ?_
    refine .eql rfl rfl rfl ?_
    refine .assign rfl rfl ?_
    refine .nil ?_
    refine .code ?_
    refine .cond rfl (fun hb9 => ?_) (fun hb9 => ?_)
    · skip
      refine .seq ?_
      refine .region ?_
      refine .fieldAddr rfl Try.underlying46 rfl Try.sizeOf3 rfl ?_
      refine .loadF rfl Try.isAgg3 rfl hb5 rfl ?_
      refine .callP rfl Try.call89 rfl rfl rfl (c_bottle_isDay _ c1.Number) ?_
      rintro F_10 _ l_11 rfl
      refine .move rfl rfl ?_
      refine .andP (b := (m_bottle_isDay c1.Number)) (b' := (m_bottle_within c1.What 0 7)) 4 19 (fun hb12 => ?_) (fun hb15 => ?_) (fun F_16 l_17 => ?_)
      · skip
        refine .onH hb12 rfl rfl ?_
        refine .fieldAddr rfl Try.underlying46 rfl Try.sizeOf3 rfl ?_
        refine .onH hb12 rfl rfl ?_
        refine .loadF rfl Try.isAgg3 rfl (l_11.mem _ _ hb5) rfl ?_
        refine .onH hb12 rfl rfl ?_
        refine .callP rfl Try.call44 rfl rfl rfl (c_bottle_within _ c1.What 0 7) ?_
        rintro F_13 _ l_14 rfl
        refine .pickTH hb12 rfl rfl rfl ?_
        exact .fin 4 rfl rfl (by kernel_rfl) l_14
      · skip
        refine .offH hb15 rfl rfl rfl ?_
        refine .offH hb15 rfl rfl rfl ?_
        refine .offH hb15 rfl rfl rfl ?_
        refine .pickFH hb15 rfl rfl rfl ?_
        exact .fin 4 rfl rfl (by kernel_rfl) (Fz.le_refl _)
      refine .assign rfl rfl ?_
      refine .nil ?_
      refine .code ?_
      exact .ret0 Try.results94 (.tmp rfl (.nil)) (i := 0) rfl (Fz.le_trans l_4 (Fz.le_trans l_11 l_17)) rfl
    · skip
      refine .seq ?_
      refine .region ?_
      refine .eql rfl rfl rfl ?_
      refine .assign rfl rfl ?_
      refine .nil ?_
      refine .code ?_
      refine .cond rfl (fun hb18 => ?_) (fun hb18 => ?_)
      · skip
        refine .seq ?_
        refine .region ?_
        refine .fieldAddr rfl Try.underlying46 rfl Try.sizeOf3 rfl ?_
        refine .loadF rfl Try.isAgg3 rfl hb5 rfl ?_
        refine .callP rfl Try.call89 rfl rfl rfl (c_bottle_isDay _ c1.Number) ?_
        rintro F_19 _ l_20 rfl
        refine .move rfl rfl ?_
        refine .andP (b := (m_bottle_isDay c1.Number)) (b' := (m_bottle_within c1.What 0 7)) 4 29 (fun hb21 => ?_) (fun hb24 => ?_) (fun F_25 l_26 => ?_)
        · skip
          refine .onH hb21 rfl rfl ?_
          refine .fieldAddr rfl Try.underlying46 rfl Try.sizeOf3 rfl ?_
          refine .onH hb21 rfl rfl ?_
          refine .loadF rfl Try.isAgg3 rfl (l_20.mem _ _ hb5) rfl ?_
          refine .onH hb21 rfl rfl ?_
          refine .callP rfl Try.call44 rfl rfl rfl (c_bottle_within _ c1.What 0 7) ?_
          rintro F_22 _ l_23 rfl
          refine .pickTH hb21 rfl rfl rfl ?_
          exact .fin 4 rfl rfl (by kernel_rfl) l_23
        · skip
          refine .offH hb24 rfl rfl rfl ?_
          refine .offH hb24 rfl rfl rfl ?_
          refine .offH hb24 rfl rfl rfl ?_
          refine .pickFH hb24 rfl rfl rfl ?_
          exact .fin 4 rfl rfl (by kernel_rfl) (Fz.le_refl _)
        refine .assign rfl rfl ?_
        refine .nil ?_
        refine .code ?_
        exact .ret0 Try.results94 (.tmp rfl (.nil)) (i := 0) rfl (Fz.le_trans l_4 (Fz.le_trans l_20 l_26)) rfl
      · skip
        refine .seq ?_
        refine .region ?_
        refine .eql rfl rfl rfl ?_
        refine .assign rfl rfl ?_
        refine .nil ?_
        refine .code ?_
        refine .cond rfl (fun hb27 => ?_) (fun hb27 => ?_)
        · skip
          refine .seq ?_
          refine .region ?_
          refine .fieldAddr rfl Try.underlying46 rfl Try.sizeOf3 rfl ?_
          refine .loadF rfl Try.isAgg3 rfl hb5 rfl ?_
          refine .callP rfl Try.call53 rfl rfl rfl (c_bottle_isStrength _ c1.What) ?_
          rintro F_28 _ l_29 rfl
          refine .move rfl rfl ?_
          refine .andP (b := (m_bottle_isStrength c1.What)) (b' := (m_bottle_isStrength c1.Number)) 4 39 (fun hb30 => ?_) (fun hb33 => ?_) (fun F_34 l_35 => ?_)
          · skip
            refine .onH hb30 rfl rfl ?_
            refine .fieldAddr rfl Try.underlying46 rfl Try.sizeOf3 rfl ?_
            refine .onH hb30 rfl rfl ?_
            refine .loadF rfl Try.isAgg3 rfl (l_29.mem _ _ hb5) rfl ?_
            refine .onH hb30 rfl rfl ?_
            refine .callP rfl Try.call53 rfl rfl rfl (c_bottle_isStrength _ c1.Number) ?_
            rintro F_31 _ l_32 rfl
            refine .pickTH hb30 rfl rfl rfl ?_
            exact .fin 4 rfl rfl (by kernel_rfl) l_32
          · skip
            refine .offH hb33 rfl rfl rfl ?_
            refine .offH hb33 rfl rfl rfl ?_
            refine .offH hb33 rfl rfl rfl ?_
            refine .pickFH hb33 rfl rfl rfl ?_
            exact .fin 4 rfl rfl (by kernel_rfl) (Fz.le_refl _)
          refine .assign rfl rfl ?_
          refine .nil ?_
          refine .code ?_
          exact .ret0 Try.results94 (.tmp rfl (.nil)) (i := 0) rfl (Fz.le_trans l_4 (Fz.le_trans l_29 l_35)) rfl
        · skip
          refine .skip ?_
          refine .block ?_
          refine .code ?_
          refine .seq ?_
          refine .region ?_
          refine .fieldAddr rfl Try.underlying46 rfl Try.sizeOf3 rfl ?_
          refine .loadF rfl Try.isAgg3 rfl hb5 rfl ?_
          refine .callP rfl Try.call44 rfl rfl rfl (c_bottle_within _ c1.Kind 0 7) ?_
          rintro F_36 _ l_37 rfl
          refine .assign rfl rfl ?_
          refine .nil ?_
          refine .code ?_
          exact .ret0 Try.results94 (.tmp rfl (.nil)) (i := 0) rfl (Fz.le_trans l_4 l_37) rfl

noncomputable def m_bottle_areClaims_1 (c1 : ApiClaim) : Option Bool :=
  (m_bottle_isClaim c1).bind fun r_8 => some (!r_8)
theorem c_bottle_areClaims_1 (F0 : Fz) (c1 : ApiClaim) : CT0 Try.prog 93 [(eApiClaim c1)].toArray F0 (m_bottle_areClaims_1 c1) (fun r _ v => v = (.bool r)) := by
  refine CT0.enter Try.func93 rfl Try.ntmps93 rfl fun r R => ?_
  unfold m_bottle_areClaims_1
  refine .seq ?_
  refine .region ?_
  refine .boxF (cs := (cApiClaim c1)) rfl rfl rfl (fun b2 F_3 l_4 hb5 => ?_)
  refine .assign rfl rfl ?_
  refine .nil ?_
  refine .code ?_
  refine .seq ?_
  refine .region ?_
  refine .loadFA rfl Try.isAgg46 Try.sizeOf46 rfl hb5 (vs := (cApiClaim c1)) (by kernel_rfl) rfl ?_
  refine .call0 rfl Try.call94 rfl rfl rfl (c_bottle_isClaim _ c1) ?_
  rintro r_8 F_6 _ - l_7 rfl
  refine .not rfl rfl ?_
  refine .assign rfl rfl ?_
  refine .nil ?_
  refine .code ?_
  exact .ret0 Try.results93 (.tmp rfl (.nil)) (i := 0) rfl (Fz.le_trans l_4 l_7) rfl

noncomputable def m_bottle_areClaims (l_1 : (List ApiClaim)) : Option Bool :=
  (if (decide ((l_1.length : Int) ≤ 32)) then ((m_slices_ContainsFunc_Claim l_1 (fun x => m_bottle_areClaims_1 x)).bind fun r_9 => some (!r_9)) else some false).bind fun z13 => some z13
theorem c_bottle_areClaims (F0 : Fz) (l_1 : (List ApiClaim)) (p2 : Option Addr) (k3 : Nat) (h4 : RepSl 3 (Ex cApiClaim) F0 p2 k3 l_1) : CT0 Try.prog 79 [(.slice p2 l_1.length k3)].toArray F0 (m_bottle_areClaims l_1) (fun r _ v => v = (.bool r)) := by
  refine CT0.enter Try.func79 rfl Try.ntmps79 rfl fun r R => ?_
  unfold m_bottle_areClaims
  refine .seq ?_
  refine .region ?_
  refine .assign rfl rfl ?_
  refine .nil ?_
  refine .code ?_
  refine .seq ?_
  refine .region ?_
  refine .move rfl rfl ?_
  refine .lenS rfl rfl Try.underlying39 rfl ?_
  refine .leq rfl rfl rfl ?_
  refine .move rfl rfl ?_
  refine .andM (b := (decide ((l_1.length : Int) ≤ 32))) 4 10 (fun hb5 z14 => ?_) (fun hb10 => ?_) (fun z13 F_11 l_12 => ?_)
  · skip
    refine .onH hb5 rfl rfl ?_
    refine .move rfl rfl ?_
    refine .onH hb5 rfl rfl ?_
    have hf6 : RepFn Try.prog F0 93 [] (fun x _ vs => vs = [(eApiClaim x)]) (fun r _ v => v = (.bool r)) (fun x => m_bottle_areClaims_1 x) := ⟨Try.call93, fun F' le' x vs hv => by obtain rfl := hv; exact c_bottle_areClaims_1 F' x⟩
    refine .call0 rfl Try.call66 rfl rfl rfl (c_slices_ContainsFunc_Claim _ l_1 p2 k3 h4 (fun x => m_bottle_areClaims_1 x) 93 ([]) hf6) ?_
    rintro r_9 F_7 _ - l_8 rfl
    refine .onH hb5 rfl rfl ?_
    refine .not rfl rfl ?_
    refine .pickTH hb5 rfl rfl rfl ?_
    exact .finZ 4 rfl rfl (by kernel_rfl) l_8
  · skip
    refine .offH hb10 rfl rfl rfl ?_
    refine .offH hb10 rfl rfl rfl ?_
    refine .offH hb10 rfl rfl rfl ?_
    refine .pickFH hb10 rfl rfl rfl ?_
    exact .fin 4 rfl rfl (by kernel_rfl) (Fz.le_refl _)
  refine .assign rfl rfl ?_
  refine .nil ?_
  refine .code ?_
  exact .ret0 Try.results79 (.tmp rfl (.nil)) (i := 0) rfl l_12 rfl

noncomputable def m_bottle_write (b1 : ApiBatch) (claims5 : (List ApiClaim)) : Option (BottleLabel × Bool) :=
  (m_bottle_open b1).bind fun r_16 => (if (!r_16.2) then some true else ((m_bottle_areClaims claims5).bind fun r_24 => some (!r_24))).bind fun z28 => if z28 then (some ((BottleLabel.mk (BottleBatch.mk (ApiBatch.mk ([]) 0 (ApiSpan.mk 0 0) false false) 0 0 0) (ApiBottling.mk (ApiSpan.mk 0 0) (ApiSpan.mk 0 0) 0 (fun _ => 0) (fun _ => 0) 0)), false)) else ((m_bottle_batch_known r_16.1).bind fun r_33 => some ((BottleLabel.mk r_16.1 r_33), true))
theorem c_bottle_write (F0 : Fz) (b1 : ApiBatch) (p2 : Option Addr) (k3 : Nat) (h4 : RepSl 27 (Ex cApiDraught) F0 p2 k3 b1.Draughts) (claims5 : (List ApiClaim)) (p6 : Option Addr) (k7 : Nat) (h8 : RepSl 3 (Ex cApiClaim) F0 p6 k7 claims5) : CT0 Try.prog 45 [(eApiBatch b1 p2 k3), (.slice p6 claims5.length k7)].toArray F0 (m_bottle_write b1 claims5) (fun r F v => ∃ p0 k0, v = .tuple #[(eBottleLabel r.1 p0 k0), (.bool r.2)] ∧ RepSl 27 (Ex cApiDraught) F p0 k0 r.1.batch.Batch.Draughts) := by
  refine CT0.enter Try.func45 rfl Try.ntmps45 rfl fun r R => ?_
  unfold m_bottle_write
  refine .seq ?_
  refine .region ?_
  refine .boxF (cs := (cApiBatch b1 p2 k3)) rfl rfl rfl (fun b9 F_10 l_11 hb12 => ?_)
  refine .alloc (cs := (cBottleLabel (BottleLabel.mk (BottleBatch.mk (ApiBatch.mk ([]) 0 (ApiSpan.mk 0 0) false false) 0 0 0) (ApiBottling.mk (ApiSpan.mk 0 0) (ApiSpan.mk 0 0) 0 (fun _ => 0) (fun _ => 0) 0)) none 0)) rfl Try.zeroValue97 rfl (fun b13 => ?_)
  refine .assign rfl rfl ?_
  refine .nil ?_
  refine .code ?_
  refine .seq ?_
  refine .region ?_
  refine .loadFA rfl Try.isAgg38 Try.sizeOf38 rfl hb12 (vs := (cApiBatch b1 p2 k3)) (by kernel_rfl) rfl ?_
  refine .call0 rfl Try.call51 rfl rfl rfl (c_bottle_open _ b1 p2 k3 (h4.mono l_11)) ?_
  rintro r_16 F_14 _ - l_15 ⟨p17, k18, rfl, h19⟩
  refine .move rfl rfl ?_
  refine .extract rfl rfl rfl ?_
  refine .extract rfl rfl rfl ?_
  refine .alloc (cs := (cBottleBatch (BottleBatch.mk (ApiBatch.mk ([]) 0 (ApiSpan.mk 0 0) false false) 0 0 0) none 0)) rfl Try.zeroValue95 rfl (fun b20 => ?_)
  refine .store (cs' := (cBottleBatch r_16.1 p17 k18)) Try.sizeOf95 rfl rfl rfl rfl (i := 0) rfl (Nat.le_of_ble_eq_true rfl) rfl (setMany_all (by rfl)) ?_
  refine .assign rfl rfl ?_
  refine .nil ?_
  refine .code ?_
  refine .seq ?_
  refine .seq ?_
  refine .region ?_
  refine .move rfl rfl ?_
  refine .not rfl rfl ?_
  refine .move rfl rfl ?_
  refine .orM (b := (!r_16.2)) 4 19 (fun hb21 z29 => ?_) (fun hb25 => ?_) (fun z28 F_26 l_27 => ?_)
  · skip
    refine .onH hb21 rfl rfl ?_
    refine .move rfl rfl ?_
    refine .onH hb21 rfl rfl ?_
    refine .call0 rfl Try.call79 rfl rfl rfl (c_bottle_areClaims _ claims5 p6 k7 (h8.mono (Fz.le_trans l_11 l_15))) ?_
    rintro r_24 F_22 _ - l_23 rfl
    refine .onH hb21 rfl rfl ?_
    refine .not rfl rfl ?_
    refine .pickFH hb21 rfl rfl rfl ?_
    exact .finZ 4 rfl rfl (by kernel_rfl) l_23
  · skip
    refine .offH hb25 rfl rfl rfl ?_
    refine .offH hb25 rfl rfl rfl ?_
    refine .offH hb25 rfl rfl rfl ?_
    refine .pickTH hb25 rfl rfl rfl ?_
    exact .fin 4 rfl rfl (by kernel_rfl) (Fz.le_refl _)
  refine .nil ?_
  refine .code ?_
  refine .cond rfl (fun hb30 => ?_) (fun hb30 => ?_)
  · skip
    refine .seq ?_
    refine .region ?_
    refine .build (cs := (cBottleLabel (BottleLabel.mk (BottleBatch.mk (ApiBatch.mk ([]) 0 (ApiSpan.mk 0 0) false false) 0 0 0) (ApiBottling.mk (ApiSpan.mk 0 0) (ApiSpan.mk 0 0) 0 (fun _ => 0) (fun _ => 0) 0)) none 0).toArray) rfl Try.underlying97 Try.zeroValue97 (plBottleLabel _ Try.underlying97) rfl rfl (by kernel_rfl) ?_
    refine .store (cs' := (cBottleLabel (BottleLabel.mk (BottleBatch.mk (ApiBatch.mk ([]) 0 (ApiSpan.mk 0 0) false false) 0 0 0) (ApiBottling.mk (ApiSpan.mk 0 0) (ApiSpan.mk 0 0) 0 (fun _ => 0) (fun _ => 0) 0)) none 0)) Try.sizeOf97 rfl rfl rfl rfl (i := 1) rfl (Nat.le_of_ble_eq_true rfl) rfl (setMany_all (by rfl)) ?_
    refine .assign rfl rfl ?_
    refine .nil ?_
    refine .code ?_
    exact .ret0 Try.results45 (.agg rfl Try.isAgg97 Try.sizeOf97 (i := 1) rfl (vs' := (cBottleLabel (BottleLabel.mk (BottleBatch.mk (ApiBatch.mk ([]) 0 (ApiSpan.mk 0 0) false false) 0 0 0) (ApiBottling.mk (ApiSpan.mk 0 0) (ApiSpan.mk 0 0) 0 (fun _ => 0) (fun _ => 0) 0)) none 0)) (by kernel_rfl) rfl (.tmp rfl (.nil))) (i := 2) rfl (Fz.le_trans l_11 (Fz.le_trans l_15 l_27)) ⟨none, 0, rfl, (RepSl.nil.mono (Fz.le_trans l_11 (Fz.le_trans l_15 l_27)))⟩
  · skip
    refine .skip ?_
    refine .code ?_
    refine .seq ?_
    refine .keep (.cons (k := 4) rfl (.cons (k := 6) rfl (.nil _))) ?_
    refine .bind (fun r_33 hx34 => ?_)
    refine .draw ⟨1000000, 0, [], 0⟩ [(21, (eBottleBatch r_16.1 p17 k18)), (22, (eBottleBatch r_16.1 p17 k18)), (23, (eApiBottling r_33)), (24, (eBottleLabel (BottleLabel.mk r_16.1 r_33) p17 k18))] mixedOK (by kernel_rfl) (by kernel_rfl) rfl (by kernel_rfl) ?_ (fun F_35 b36 l_37 => ?_)
    · skip
      refine .cons (.mk 21 (eBottleBatch r_16.1 p17 k18) [(6, (.pointer (some ⟨b20, 0, none⟩)))] rfl rfl rfl rfl (fun S hS hd => (.cons (hS _ _ rfl) (Sub.nil _))) (fun F_38 X l_39 => ?_)) ?_
      · skip
        refine .loadOA rfl Try.isAgg95 Try.sizeOf95 rfl (i := 0) rfl (vs := (cBottleBatch r_16.1 p17 k18)) (by kernel_rfl) rfl ?_
        exact .fin1 (Fz.le_refl _)
      refine .cons (.mk 22 (eBottleBatch r_16.1 p17 k18) [(6, (.pointer (some ⟨b20, 0, none⟩)))] rfl rfl rfl rfl (fun S hS hd => (.cons (hS _ _ rfl) (Sub.nil _))) (fun F_40 X l_41 => ?_)) ?_
      · skip
        refine .loadOA rfl Try.isAgg95 Try.sizeOf95 rfl (i := 0) rfl (vs := (cBottleBatch r_16.1 p17 k18)) (by kernel_rfl) rfl ?_
        exact .fin1 (Fz.le_refl _)
      refine .cons (.mk 23 (eApiBottling r_33) [(22, (eBottleBatch r_16.1 p17 k18))] rfl rfl rfl rfl (fun S hS hd => (.cons (hd.1 rfl rfl _ _ rfl) (Sub.nil _))) (fun F_42 X l_43 => ?_)) ?_
      · skip
        refine .callK hx34 rfl Try.call52 rfl rfl rfl (c_bottle_batch_known _ r_16.1 p17 k18 (h19.mono (Fz.le_trans l_27 l_43))) ?_
        rintro F_44 _ l_45 rfl
        exact .fin1 l_45
      refine .cons (.mk 24 (eBottleLabel (BottleLabel.mk r_16.1 r_33) p17 k18) [(21, (eBottleBatch r_16.1 p17 k18)), (23, (eApiBottling r_33))] rfl rfl rfl rfl (fun S hS hd => (.cons (hd.1 rfl rfl _ _ rfl) (.cons (hd.2.1 rfl rfl _ _ rfl) (Sub.nil _)))) (fun F_46 X l_47 => ?_)) ?_
      · skip
        refine .build (cs := (cBottleLabel (BottleLabel.mk r_16.1 r_33) p17 k18).toArray) rfl Try.underlying97 Try.zeroValue97 (plBottleLabel _ Try.underlying97) rfl rfl (by kernel_rfl) ?_
        exact .fin1 (Fz.le_refl _)
      exact .nil
    refine .store (cs' := (cBottleLabel (BottleLabel.mk r_16.1 r_33) p17 k18)) Try.sizeOf97 rfl rfl rfl rfl (i := 1) rfl (Nat.le_of_ble_eq_true rfl) rfl (setMany_all (by rfl)) ?_
    refine .assign rfl rfl ?_
    refine .nil ?_
    refine .code ?_
    exact .ret0 Try.results45 (.agg rfl Try.isAgg97 Try.sizeOf97 (i := 1) rfl (vs' := (cBottleLabel (BottleLabel.mk r_16.1 r_33) p17 k18)) (by kernel_rfl) rfl (.tmp rfl (.nil))) (i := 2) rfl (Fz.le_trans l_11 (Fz.le_trans l_15 (Fz.le_trans l_27 l_37))) ⟨p17, k18, rfl, (h19.mono (Fz.le_trans l_27 l_37))⟩

def m_bottle_label_tests_1 (c1 : ApiClaim) (c2 : BottleLabel) : Bool :=
  (decide (c2.known.Age ≥ c1.Number))
theorem c_bottle_label_tests_1 (F0 : Fz) (c1 : ApiClaim) (c2 : BottleLabel) (b3 : Nat) (p5 : Option Addr) (k6 : Nat) (hb4 : F0.mem b3 = some (.cells (cBottleLabel c2 p5 k6).toArray 97)) (_h7 : RepSl 27 (Ex cApiDraught) F0 p5 k6 c2.batch.Batch.Draughts) : CT0 Try.prog 95 [(eApiClaim c1), (.pointer (some ⟨b3, 0, none⟩))].toArray F0 (some (m_bottle_label_tests_1 c1 c2)) (fun r _ v => v = (.bool r)) := by
  refine CT0.enter Try.func95 rfl Try.ntmps95 rfl fun r R => ?_
  refine .seq ?_
  refine .region ?_
  refine .boxF (cs := (cApiClaim c1)) rfl rfl rfl (fun b8 F_9 l_10 hb11 => ?_)
  refine .assign rfl rfl ?_
  refine .nil ?_
  refine .code ?_
  refine .seq ?_
  refine .region ?_
  refine .fieldAddr rfl Try.underlying97 rfl Try.sizeOf56 rfl ?_
  refine .fieldAddr rfl Try.underlying56 rfl Try.sizeOf3 rfl ?_
  refine .loadF rfl Try.isAgg3 rfl (l_10.mem _ _ hb4) rfl ?_
  refine .fieldAddr rfl Try.underlying46 rfl Try.sizeOf3 rfl ?_
  refine .loadF rfl Try.isAgg3 rfl hb11 rfl ?_
  refine .geq rfl rfl rfl ?_
  refine .assign rfl rfl ?_
  refine .nil ?_
  refine .code ?_
  exact .ret0 Try.results95 (.tmp rfl (.nil)) (i := 0) rfl l_10 rfl

noncomputable def m_bottle_label_tests_2 (c1 : ApiClaim) (c2 : BottleLabel) : Option Bool :=
  (idxO 8 c1.What).bind fun j12 => some (decide ((c2.known.Woods j12) ≥ c1.Number))
theorem c_bottle_label_tests_2 (F0 : Fz) (c1 : ApiClaim) (c2 : BottleLabel) (b3 : Nat) (p5 : Option Addr) (k6 : Nat) (hb4 : F0.mem b3 = some (.cells (cBottleLabel c2 p5 k6).toArray 97)) (_h7 : RepSl 27 (Ex cApiDraught) F0 p5 k6 c2.batch.Batch.Draughts) : CT0 Try.prog 96 [(eApiClaim c1), (.pointer (some ⟨b3, 0, none⟩))].toArray F0 (m_bottle_label_tests_2 c1 c2) (fun r _ v => v = (.bool r)) := by
  refine CT0.enter Try.func96 rfl Try.ntmps96 rfl fun r R => ?_
  unfold m_bottle_label_tests_2
  refine .seq ?_
  refine .region ?_
  refine .boxF (cs := (cApiClaim c1)) rfl rfl rfl (fun b8 F_9 l_10 hb11 => ?_)
  refine .assign rfl rfl ?_
  refine .nil ?_
  refine .code ?_
  refine .seq ?_
  refine .keep (.cons (k := 1) rfl (.cons (k := 2) rfl (.nil _))) ?_
  refine .bind (fun j12 hj13 => ?_)
  refine .draw ⟨1000000, 0, [], 0⟩ [(4, (.pointer (some ⟨b8, 0 + 1, none⟩))), (5, (.int .i64 c1.What)), (6, (.pointer (some ⟨b3, 0 + 9, none⟩))), (7, (.pointer (some ⟨b3, 0 + 9 + 5, none⟩))), (8, (.pointer (some ⟨b3, 0 + 9 + 5 + j12 * 1, none⟩))), (9, (.int .i64 (c2.known.Woods j12))), (10, (.pointer (some ⟨b8, 0 + 2, none⟩))), (11, (.int .i64 c1.Number)), (12, (.bool (decide ((c2.known.Woods j12) ≥ c1.Number))))] mixedOK (by kernel_rfl) (by kernel_rfl) rfl (by kernel_rfl) ?_ (fun F_14 b15 l_16 => ?_)
  · skip
    refine .cons (.mk 4 (.pointer (some ⟨b8, 0 + 1, none⟩)) [(2, (.pointer (some ⟨b8, 0, none⟩)))] rfl rfl rfl rfl (fun S hS hd => (.cons (hS _ _ rfl) (Sub.nil _))) (fun F_17 X l_18 => ?_)) ?_
    · skip
      refine .fieldAddr rfl Try.underlying46 rfl Try.sizeOf3 rfl ?_
      exact .fin1 (Fz.le_refl _)
    refine .cons (.mk 5 (.int .i64 c1.What) [(4, (.pointer (some ⟨b8, 0 + 1, none⟩)))] rfl rfl rfl rfl (fun S hS hd => (.cons (hd.1 rfl rfl _ _ rfl) (Sub.nil _))) (fun F_19 X l_20 => ?_)) ?_
    · skip
      refine .loadF rfl Try.isAgg3 rfl (l_20.mem _ _ hb11) rfl ?_
      exact .fin1 (Fz.le_refl _)
    refine .cons (.mk 6 (.pointer (some ⟨b3, 0 + 9, none⟩)) [(1, (.pointer (some ⟨b3, 0, none⟩)))] rfl rfl rfl rfl (fun S hS hd => (.cons (hS _ _ rfl) (Sub.nil _))) (fun F_21 X l_22 => ?_)) ?_
    · skip
      refine .fieldAddr rfl Try.underlying97 rfl Try.sizeOf56 rfl ?_
      exact .fin1 (Fz.le_refl _)
    refine .cons (.mk 7 (.pointer (some ⟨b3, 0 + 9 + 5, none⟩)) [(6, (.pointer (some ⟨b3, 0 + 9, none⟩)))] rfl rfl rfl rfl (fun S hS hd => (.cons (hd.1 rfl rfl _ _ rfl) (Sub.nil _))) (fun F_23 X l_24 => ?_)) ?_
    · skip
      refine .fieldAddr rfl Try.underlying56 rfl Try.sizeOf47 rfl ?_
      exact .fin1 (Fz.le_refl _)
    refine .cons (.mk 8 (.pointer (some ⟨b3, 0 + 9 + 5 + j12 * 1, none⟩)) [(5, (.int .i64 c1.What)), (7, (.pointer (some ⟨b3, 0 + 9 + 5, none⟩)))] rfl rfl rfl rfl (fun S hS hd => (.cons (hd.2.1 rfl rfl _ _ rfl) (.cons (hd.1 rfl rfl _ _ rfl) (Sub.nil _)))) (fun F_25 X l_26 => ?_)) ?_
    · skip
      refine .indexAddrA rfl Try.underlying47 Try.sizeOf3 rfl rfl hj13 ?_
      exact .fin1 (Fz.le_refl _)
    refine .cons (.mk 9 (.int .i64 (c2.known.Woods j12)) [(8, (.pointer (some ⟨b3, 0 + 9 + 5 + j12 * 1, none⟩)))] rfl rfl rfl rfl (fun S hS hd => (.cons (hd.1 rfl rfl _ _ rfl) (Sub.nil _))) (fun F_27 X l_28 => ?_)) ?_
    · skip
      refine .loadF rfl Try.isAgg3 rfl ((Fz.le_trans l_10 l_28).mem _ _ hb4) (allLt8 (p := fun j12 => ((cBottleLabel c2 p5 k6))[0 + 9 + 5 + j12 * 1]? = some (.int .i64 (c2.known.Woods j12))) rfl rfl rfl rfl rfl rfl rfl rfl _ (idxO_some hj13).2.2.2) ?_
      exact .fin1 (Fz.le_refl _)
    refine .cons (.mk 10 (.pointer (some ⟨b8, 0 + 2, none⟩)) [(2, (.pointer (some ⟨b8, 0, none⟩)))] rfl rfl rfl rfl (fun S hS hd => (.cons (hS _ _ rfl) (Sub.nil _))) (fun F_29 X l_30 => ?_)) ?_
    · skip
      refine .fieldAddr rfl Try.underlying46 rfl Try.sizeOf3 rfl ?_
      exact .fin1 (Fz.le_refl _)
    refine .cons (.mk 11 (.int .i64 c1.Number) [(10, (.pointer (some ⟨b8, 0 + 2, none⟩)))] rfl rfl rfl rfl (fun S hS hd => (.cons (hd.1 rfl rfl _ _ rfl) (Sub.nil _))) (fun F_31 X l_32 => ?_)) ?_
    · skip
      refine .loadF rfl Try.isAgg3 rfl (l_32.mem _ _ hb11) rfl ?_
      exact .fin1 (Fz.le_refl _)
    refine .cons (.mk 12 (.bool (decide ((c2.known.Woods j12) ≥ c1.Number))) [(9, (.int .i64 (c2.known.Woods j12))), (11, (.int .i64 c1.Number))] rfl rfl rfl rfl (fun S hS hd => (.cons (hd.1 rfl rfl _ _ rfl) (.cons (hd.2.1 rfl rfl _ _ rfl) (Sub.nil _)))) (fun F_33 X l_34 => ?_)) ?_
    · skip
      refine .geq rfl rfl rfl ?_
      exact .fin1 (Fz.le_refl _)
    exact .nil
  refine .assign rfl rfl ?_
  refine .nil ?_
  refine .code ?_
  exact .ret0 Try.results96 (.tmp rfl (.nil)) (i := 0) rfl (Fz.le_trans l_10 l_16) rfl

noncomputable def m_bottle_label_tests_3 (c1 : ApiClaim) (c2 : BottleLabel) : Option Bool :=
  (idxO 8 c1.What).bind fun j12 => some (decide ((c2.known.Places j12) ≥ c1.Number))
theorem c_bottle_label_tests_3 (F0 : Fz) (c1 : ApiClaim) (c2 : BottleLabel) (b3 : Nat) (p5 : Option Addr) (k6 : Nat) (hb4 : F0.mem b3 = some (.cells (cBottleLabel c2 p5 k6).toArray 97)) (_h7 : RepSl 27 (Ex cApiDraught) F0 p5 k6 c2.batch.Batch.Draughts) : CT0 Try.prog 97 [(eApiClaim c1), (.pointer (some ⟨b3, 0, none⟩))].toArray F0 (m_bottle_label_tests_3 c1 c2) (fun r _ v => v = (.bool r)) := by
  refine CT0.enter Try.func97 rfl Try.ntmps97 rfl fun r R => ?_
  unfold m_bottle_label_tests_3
  refine .seq ?_
  refine .region ?_
  refine .boxF (cs := (cApiClaim c1)) rfl rfl rfl (fun b8 F_9 l_10 hb11 => ?_)
  refine .assign rfl rfl ?_
  refine .nil ?_
  refine .code ?_
  refine .seq ?_
  refine .keep (.cons (k := 1) rfl (.cons (k := 2) rfl (.nil _))) ?_
  refine .bind (fun j12 hj13 => ?_)
  refine .draw ⟨1000000, 0, [], 0⟩ [(4, (.pointer (some ⟨b8, 0 + 1, none⟩))), (5, (.int .i64 c1.What)), (6, (.pointer (some ⟨b3, 0 + 9, none⟩))), (7, (.pointer (some ⟨b3, 0 + 9 + 13, none⟩))), (8, (.pointer (some ⟨b3, 0 + 9 + 13 + j12 * 1, none⟩))), (9, (.int .i64 (c2.known.Places j12))), (10, (.pointer (some ⟨b8, 0 + 2, none⟩))), (11, (.int .i64 c1.Number)), (12, (.bool (decide ((c2.known.Places j12) ≥ c1.Number))))] mixedOK (by kernel_rfl) (by kernel_rfl) rfl (by kernel_rfl) ?_ (fun F_14 b15 l_16 => ?_)
  · skip
    refine .cons (.mk 4 (.pointer (some ⟨b8, 0 + 1, none⟩)) [(2, (.pointer (some ⟨b8, 0, none⟩)))] rfl rfl rfl rfl (fun S hS hd => (.cons (hS _ _ rfl) (Sub.nil _))) (fun F_17 X l_18 => ?_)) ?_
    · skip
      refine .fieldAddr rfl Try.underlying46 rfl Try.sizeOf3 rfl ?_
      exact .fin1 (Fz.le_refl _)
    refine .cons (.mk 5 (.int .i64 c1.What) [(4, (.pointer (some ⟨b8, 0 + 1, none⟩)))] rfl rfl rfl rfl (fun S hS hd => (.cons (hd.1 rfl rfl _ _ rfl) (Sub.nil _))) (fun F_19 X l_20 => ?_)) ?_
    · skip
      refine .loadF rfl Try.isAgg3 rfl (l_20.mem _ _ hb11) rfl ?_
      exact .fin1 (Fz.le_refl _)
    refine .cons (.mk 6 (.pointer (some ⟨b3, 0 + 9, none⟩)) [(1, (.pointer (some ⟨b3, 0, none⟩)))] rfl rfl rfl rfl (fun S hS hd => (.cons (hS _ _ rfl) (Sub.nil _))) (fun F_21 X l_22 => ?_)) ?_
    · skip
      refine .fieldAddr rfl Try.underlying97 rfl Try.sizeOf56 rfl ?_
      exact .fin1 (Fz.le_refl _)
    refine .cons (.mk 7 (.pointer (some ⟨b3, 0 + 9 + 13, none⟩)) [(6, (.pointer (some ⟨b3, 0 + 9, none⟩)))] rfl rfl rfl rfl (fun S hS hd => (.cons (hd.1 rfl rfl _ _ rfl) (Sub.nil _))) (fun F_23 X l_24 => ?_)) ?_
    · skip
      refine .fieldAddr rfl Try.underlying56 rfl Try.sizeOf47 rfl ?_
      exact .fin1 (Fz.le_refl _)
    refine .cons (.mk 8 (.pointer (some ⟨b3, 0 + 9 + 13 + j12 * 1, none⟩)) [(5, (.int .i64 c1.What)), (7, (.pointer (some ⟨b3, 0 + 9 + 13, none⟩)))] rfl rfl rfl rfl (fun S hS hd => (.cons (hd.2.1 rfl rfl _ _ rfl) (.cons (hd.1 rfl rfl _ _ rfl) (Sub.nil _)))) (fun F_25 X l_26 => ?_)) ?_
    · skip
      refine .indexAddrA rfl Try.underlying47 Try.sizeOf3 rfl rfl hj13 ?_
      exact .fin1 (Fz.le_refl _)
    refine .cons (.mk 9 (.int .i64 (c2.known.Places j12)) [(8, (.pointer (some ⟨b3, 0 + 9 + 13 + j12 * 1, none⟩)))] rfl rfl rfl rfl (fun S hS hd => (.cons (hd.1 rfl rfl _ _ rfl) (Sub.nil _))) (fun F_27 X l_28 => ?_)) ?_
    · skip
      refine .loadF rfl Try.isAgg3 rfl ((Fz.le_trans l_10 l_28).mem _ _ hb4) (allLt8 (p := fun j12 => ((cBottleLabel c2 p5 k6))[0 + 9 + 13 + j12 * 1]? = some (.int .i64 (c2.known.Places j12))) rfl rfl rfl rfl rfl rfl rfl rfl _ (idxO_some hj13).2.2.2) ?_
      exact .fin1 (Fz.le_refl _)
    refine .cons (.mk 10 (.pointer (some ⟨b8, 0 + 2, none⟩)) [(2, (.pointer (some ⟨b8, 0, none⟩)))] rfl rfl rfl rfl (fun S hS hd => (.cons (hS _ _ rfl) (Sub.nil _))) (fun F_29 X l_30 => ?_)) ?_
    · skip
      refine .fieldAddr rfl Try.underlying46 rfl Try.sizeOf3 rfl ?_
      exact .fin1 (Fz.le_refl _)
    refine .cons (.mk 11 (.int .i64 c1.Number) [(10, (.pointer (some ⟨b8, 0 + 2, none⟩)))] rfl rfl rfl rfl (fun S hS hd => (.cons (hd.1 rfl rfl _ _ rfl) (Sub.nil _))) (fun F_31 X l_32 => ?_)) ?_
    · skip
      refine .loadF rfl Try.isAgg3 rfl (l_32.mem _ _ hb11) rfl ?_
      exact .fin1 (Fz.le_refl _)
    refine .cons (.mk 12 (.bool (decide ((c2.known.Places j12) ≥ c1.Number))) [(9, (.int .i64 (c2.known.Places j12))), (11, (.int .i64 c1.Number))] rfl rfl rfl rfl (fun S hS hd => (.cons (hd.1 rfl rfl _ _ rfl) (.cons (hd.2.1 rfl rfl _ _ rfl) (Sub.nil _)))) (fun F_33 X l_34 => ?_)) ?_
    · skip
      refine .geq rfl rfl rfl ?_
      exact .fin1 (Fz.le_refl _)
    exact .nil
  refine .assign rfl rfl ?_
  refine .nil ?_
  refine .code ?_
  exact .ret0 Try.results97 (.tmp rfl (.nil)) (i := 0) rfl (Fz.le_trans l_10 l_16) rfl

def m_bottle_label_tests_4 (_a1 : ApiClaim) (c2 : BottleLabel) : Bool :=
  (c2.known.Casks == 1)
theorem c_bottle_label_tests_4 (F0 : Fz) (a1 : ApiClaim) (c2 : BottleLabel) (b3 : Nat) (p5 : Option Addr) (k6 : Nat) (hb4 : F0.mem b3 = some (.cells (cBottleLabel c2 p5 k6).toArray 97)) (_h7 : RepSl 27 (Ex cApiDraught) F0 p5 k6 c2.batch.Batch.Draughts) : CT0 Try.prog 98 [(eApiClaim a1), (.pointer (some ⟨b3, 0, none⟩))].toArray F0 (some (m_bottle_label_tests_4 a1 c2)) (fun r _ v => v = (.bool r)) := by
  refine CT0.enter Try.func98 rfl Try.ntmps98 rfl fun r R => ?_
  refine .seq ?_
  refine .region ?_
  refine .boxF (cs := (cApiClaim a1)) rfl rfl rfl (fun b8 F_9 l_10 hb11 => ?_)
  refine .assign rfl rfl ?_
  refine .nil ?_
  refine .code ?_
  refine .seq ?_
  refine .region ?_
  refine .fieldAddr rfl Try.underlying97 rfl Try.sizeOf56 rfl ?_
  refine .fieldAddr rfl Try.underlying56 rfl Try.sizeOf3 rfl ?_
  refine .loadF rfl Try.isAgg3 rfl (l_10.mem _ _ hb4) rfl ?_
  refine .eql rfl rfl rfl ?_
  refine .assign rfl rfl ?_
  refine .nil ?_
  refine .code ?_
  exact .ret0 Try.results98 (.tmp rfl (.nil)) (i := 0) rfl l_10 rfl

def m_bottle_label_tests_5 (_a1 : ApiClaim) (c2 : BottleLabel) : Bool :=
  (c2.batch.Batch.Water == 0)
theorem c_bottle_label_tests_5 (F0 : Fz) (a1 : ApiClaim) (c2 : BottleLabel) (b3 : Nat) (p5 : Option Addr) (k6 : Nat) (hb4 : F0.mem b3 = some (.cells (cBottleLabel c2 p5 k6).toArray 97)) (_h7 : RepSl 27 (Ex cApiDraught) F0 p5 k6 c2.batch.Batch.Draughts) : CT0 Try.prog 99 [(eApiClaim a1), (.pointer (some ⟨b3, 0, none⟩))].toArray F0 (some (m_bottle_label_tests_5 a1 c2)) (fun r _ v => v = (.bool r)) := by
  refine CT0.enter Try.func99 rfl Try.ntmps99 rfl fun r R => ?_
  refine .seq ?_
  refine .region ?_
  refine .boxF (cs := (cApiClaim a1)) rfl rfl rfl (fun b8 F_9 l_10 hb11 => ?_)
  refine .assign rfl rfl ?_
  refine .nil ?_
  refine .code ?_
  refine .seq ?_
  refine .region ?_
  refine .fieldAddr rfl Try.underlying97 rfl Try.sizeOf95 rfl ?_
  refine .fieldAddr rfl Try.underlying95 rfl Try.sizeOf38 rfl ?_
  refine .fieldAddr rfl Try.underlying38 rfl Try.sizeOf3 rfl ?_
  refine .loadF rfl Try.isAgg3 rfl (l_10.mem _ _ hb4) rfl ?_
  refine .eql rfl rfl rfl ?_
  refine .assign rfl rfl ?_
  refine .nil ?_
  refine .code ?_
  exact .ret0 Try.results99 (.tmp rfl (.nil)) (i := 0) rfl l_10 rfl

def m_bottle_label_tests_6 (_a1 : ApiClaim) (c2 : BottleLabel) : Bool :=
  (!c2.batch.Batch.Filtered)
theorem c_bottle_label_tests_6 (F0 : Fz) (a1 : ApiClaim) (c2 : BottleLabel) (b3 : Nat) (p5 : Option Addr) (k6 : Nat) (hb4 : F0.mem b3 = some (.cells (cBottleLabel c2 p5 k6).toArray 97)) (_h7 : RepSl 27 (Ex cApiDraught) F0 p5 k6 c2.batch.Batch.Draughts) : CT0 Try.prog 100 [(eApiClaim a1), (.pointer (some ⟨b3, 0, none⟩))].toArray F0 (some (m_bottle_label_tests_6 a1 c2)) (fun r _ v => v = (.bool r)) := by
  refine CT0.enter Try.func100 rfl Try.ntmps100 rfl fun r R => ?_
  refine .seq ?_
  refine .region ?_
  refine .boxF (cs := (cApiClaim a1)) rfl rfl rfl (fun b8 F_9 l_10 hb11 => ?_)
  refine .assign rfl rfl ?_
  refine .nil ?_
  refine .code ?_
  refine .seq ?_
  refine .region ?_
  refine .fieldAddr rfl Try.underlying97 rfl Try.sizeOf95 rfl ?_
  refine .fieldAddr rfl Try.underlying95 rfl Try.sizeOf38 rfl ?_
  refine .fieldAddr rfl Try.underlying38 rfl Try.sizeOf4 rfl ?_
  refine .loadF rfl Try.isAgg4 rfl (l_10.mem _ _ hb4) rfl ?_
  refine .not rfl rfl ?_
  refine .assign rfl rfl ?_
  refine .nil ?_
  refine .code ?_
  exact .ret0 Try.results100 (.tmp rfl (.nil)) (i := 0) rfl l_10 rfl

def m_bottle_label_tests_7 (_a1 : ApiClaim) (c2 : BottleLabel) : Bool :=
  (!c2.batch.Batch.Coloured)
theorem c_bottle_label_tests_7 (F0 : Fz) (a1 : ApiClaim) (c2 : BottleLabel) (b3 : Nat) (p5 : Option Addr) (k6 : Nat) (hb4 : F0.mem b3 = some (.cells (cBottleLabel c2 p5 k6).toArray 97)) (_h7 : RepSl 27 (Ex cApiDraught) F0 p5 k6 c2.batch.Batch.Draughts) : CT0 Try.prog 101 [(eApiClaim a1), (.pointer (some ⟨b3, 0, none⟩))].toArray F0 (some (m_bottle_label_tests_7 a1 c2)) (fun r _ v => v = (.bool r)) := by
  refine CT0.enter Try.func101 rfl Try.ntmps101 rfl fun r R => ?_
  refine .seq ?_
  refine .region ?_
  refine .boxF (cs := (cApiClaim a1)) rfl rfl rfl (fun b8 F_9 l_10 hb11 => ?_)
  refine .assign rfl rfl ?_
  refine .nil ?_
  refine .code ?_
  refine .seq ?_
  refine .region ?_
  refine .fieldAddr rfl Try.underlying97 rfl Try.sizeOf95 rfl ?_
  refine .fieldAddr rfl Try.underlying95 rfl Try.sizeOf38 rfl ?_
  refine .fieldAddr rfl Try.underlying38 rfl Try.sizeOf4 rfl ?_
  refine .loadF rfl Try.isAgg4 rfl (l_10.mem _ _ hb4) rfl ?_
  refine .not rfl rfl ?_
  refine .assign rfl rfl ?_
  refine .nil ?_
  refine .code ?_
  exact .ret0 Try.results101 (.tmp rfl (.nil)) (i := 0) rfl l_10 rfl

def m_bottle_label_tests_8 (c1 : ApiClaim) (c2 : BottleLabel) : Bool :=
  ((decide (c2.known.Strength.Lo ≥ (w64 (c1.What - c1.Number)))) && (decide (c2.known.Strength.Hi ≤ (w64 (c1.What + c1.Number)))))
theorem c_bottle_label_tests_8 (F0 : Fz) (c1 : ApiClaim) (c2 : BottleLabel) (b3 : Nat) (p5 : Option Addr) (k6 : Nat) (hb4 : F0.mem b3 = some (.cells (cBottleLabel c2 p5 k6).toArray 97)) (_h7 : RepSl 27 (Ex cApiDraught) F0 p5 k6 c2.batch.Batch.Draughts) : CT0 Try.prog 102 [(eApiClaim c1), (.pointer (some ⟨b3, 0, none⟩))].toArray F0 (some (m_bottle_label_tests_8 c1 c2)) (fun r _ v => v = (.bool r)) := by
  refine CT0.enter Try.func102 rfl Try.ntmps102 rfl fun r R => ?_
  refine .seq ?_
  refine .region ?_
  refine .boxF (cs := (cApiClaim c1)) rfl rfl rfl (fun b8 F_9 l_10 hb11 => ?_)
  refine .assign rfl rfl ?_
  refine .nil ?_
  refine .code ?_
  refine .seq ?_
  refine .region ?_
  refine .fieldAddr rfl Try.underlying97 rfl Try.sizeOf56 rfl ?_
  refine .fieldAddr rfl Try.underlying56 rfl Try.sizeOf36 rfl ?_
  refine .fieldAddr rfl Try.underlying36 rfl Try.sizeOf3 rfl ?_
  refine .loadF rfl Try.isAgg3 rfl (l_10.mem _ _ hb4) rfl ?_
  refine .fieldAddr rfl Try.underlying46 rfl Try.sizeOf3 rfl ?_
  refine .loadF rfl Try.isAgg3 rfl hb11 rfl ?_
  refine .fieldAddr rfl Try.underlying46 rfl Try.sizeOf3 rfl ?_
  refine .loadF rfl Try.isAgg3 rfl hb11 rfl ?_
  refine .sub rfl rfl rfl ?_
  refine .geq rfl rfl rfl ?_
  refine .move rfl rfl ?_
  refine .andP (b := (decide (c2.known.Strength.Lo ≥ (w64 (c1.What - c1.Number))))) (b' := (decide (c2.known.Strength.Hi ≤ (w64 (c1.What + c1.Number))))) 11 25 (fun hb12 => ?_) (fun hb13 => ?_) (fun F_14 l_15 => ?_)
  · skip
    refine .onH hb12 rfl rfl ?_
    refine .fieldAddr rfl Try.underlying97 rfl Try.sizeOf56 rfl ?_
    refine .onH hb12 rfl rfl ?_
    refine .fieldAddr rfl Try.underlying56 rfl Try.sizeOf36 rfl ?_
    refine .onH hb12 rfl rfl ?_
    refine .fieldAddr rfl Try.underlying36 rfl Try.sizeOf3 rfl ?_
    refine .onH hb12 rfl rfl ?_
    refine .loadF rfl Try.isAgg3 rfl (l_10.mem _ _ hb4) rfl ?_
    refine .onH hb12 rfl rfl ?_
    refine .fieldAddr rfl Try.underlying46 rfl Try.sizeOf3 rfl ?_
    refine .onH hb12 rfl rfl ?_
    refine .loadF rfl Try.isAgg3 rfl hb11 rfl ?_
    refine .onH hb12 rfl rfl ?_
    refine .fieldAddr rfl Try.underlying46 rfl Try.sizeOf3 rfl ?_
    refine .onH hb12 rfl rfl ?_
    refine .loadF rfl Try.isAgg3 rfl hb11 rfl ?_
    refine .onH hb12 rfl rfl ?_
    refine .add rfl rfl rfl ?_
    refine .onH hb12 rfl rfl ?_
    refine .leq rfl rfl rfl ?_
    refine .pickTH hb12 rfl rfl rfl ?_
    exact .fin 11 rfl rfl (by kernel_rfl) (Fz.le_refl _)
  · skip
    refine .offH hb13 rfl rfl rfl ?_
    refine .offH hb13 rfl rfl rfl ?_
    refine .offH hb13 rfl rfl rfl ?_
    refine .offH hb13 rfl rfl rfl ?_
    refine .offH hb13 rfl rfl rfl ?_
    refine .offH hb13 rfl rfl rfl ?_
    refine .offH hb13 rfl rfl rfl ?_
    refine .offH hb13 rfl rfl rfl ?_
    refine .offH hb13 rfl rfl rfl ?_
    refine .offH hb13 rfl rfl rfl ?_
    refine .pickFH hb13 rfl rfl rfl ?_
    exact .fin 11 rfl rfl (by kernel_rfl) (Fz.le_refl _)
  refine .assign rfl rfl ?_
  refine .nil ?_
  refine .code ?_
  exact .ret0 Try.results102 (.tmp rfl (.nil)) (i := 0) rfl (Fz.le_trans l_10 l_15) rfl

noncomputable def m_bottle_label_tests (l_1 : BottleLabel) : Option (Nat → (ApiClaim → Option Bool)) :=
  some (arrOf [(fun x => some (m_bottle_label_tests_1 x l_1)), (fun x => m_bottle_label_tests_2 x l_1), (fun x => m_bottle_label_tests_3 x l_1), (fun x => some (m_bottle_label_tests_4 x l_1)), (fun x => some (m_bottle_label_tests_5 x l_1)), (fun x => some (m_bottle_label_tests_6 x l_1)), (fun x => some (m_bottle_label_tests_7 x l_1)), (fun x => some (m_bottle_label_tests_8 x l_1))] (fun _ => none))
theorem c_bottle_label_tests (F0 : Fz) (l_1 : BottleLabel) (p2 : Option Addr) (k3 : Nat) (h4 : RepSl 27 (Ex cApiDraught) F0 p2 k3 l_1.batch.Batch.Draughts) : CT0 Try.prog 80 [(eBottleLabel l_1 p2 k3)].toArray F0 (m_bottle_label_tests l_1) (fun r F v => ∃ p0 k0 p1 k1 p2 k2 p3 k3 p4 k4 p5 k5 p6 k6 p7 k7, v = (.agg [.func (.func p0) #[] k0.toArray, .func (.func p1) #[] k1.toArray, .func (.func p2) #[] k2.toArray, .func (.func p3) #[] k3.toArray, .func (.func p4) #[] k4.toArray, .func (.func p5) #[] k5.toArray, .func (.func p6) #[] k6.toArray, .func (.func p7) #[] k7.toArray].toArray) ∧ RepFn Try.prog F p0 k0 (fun x _ vs => vs = [(eApiClaim x)]) (fun r _ v => v = (.bool r)) (r 0) ∧ RepFn Try.prog F p1 k1 (fun x _ vs => vs = [(eApiClaim x)]) (fun r _ v => v = (.bool r)) (r 1) ∧ RepFn Try.prog F p2 k2 (fun x _ vs => vs = [(eApiClaim x)]) (fun r _ v => v = (.bool r)) (r 2) ∧ RepFn Try.prog F p3 k3 (fun x _ vs => vs = [(eApiClaim x)]) (fun r _ v => v = (.bool r)) (r 3) ∧ RepFn Try.prog F p4 k4 (fun x _ vs => vs = [(eApiClaim x)]) (fun r _ v => v = (.bool r)) (r 4) ∧ RepFn Try.prog F p5 k5 (fun x _ vs => vs = [(eApiClaim x)]) (fun r _ v => v = (.bool r)) (r 5) ∧ RepFn Try.prog F p6 k6 (fun x _ vs => vs = [(eApiClaim x)]) (fun r _ v => v = (.bool r)) (r 6) ∧ RepFn Try.prog F p7 k7 (fun x _ vs => vs = [(eApiClaim x)]) (fun r _ v => v = (.bool r)) (r 7)) := by
  refine CT0.enter Try.func80 rfl Try.ntmps80 rfl fun r R => ?_
  unfold m_bottle_label_tests
  refine .seq ?_
  refine .region ?_
  refine .boxF (cs := (cBottleLabel l_1 p2 k3)) rfl rfl rfl (fun b5 F_6 l_7 hb8 => ?_)
  refine .alloc (cs := [.nilFunc, .nilFunc, .nilFunc, .nilFunc, .nilFunc, .nilFunc, .nilFunc, .nilFunc]) rfl Try.zeroValue126 rfl (fun b9 => ?_)
  refine .nil ?_
  refine .code ?_
  refine .seq ?_
  refine .region ?_
  refine .makeFunc rfl rfl ?_
  refine .makeFunc rfl rfl ?_
  refine .makeFunc rfl rfl ?_
  refine .makeFunc rfl rfl ?_
  refine .makeFunc rfl rfl ?_
  refine .makeFunc rfl rfl ?_
  refine .makeFunc rfl rfl ?_
  refine .makeFunc rfl rfl ?_
  have hf10 : RepFn Try.prog F_6 95 [(.pointer (some ⟨b5, 0, none⟩))] (fun x _ vs => vs = [(eApiClaim x)]) (fun r _ v => v = (.bool r)) (fun x => some (m_bottle_label_tests_1 x l_1)) := ⟨Try.call95, fun F' le' x vs hv => by obtain rfl := hv; exact c_bottle_label_tests_1 F' x l_1 b5 p2 k3 (le'.mem _ _ hb8) ((h4.mono l_7).mono le')⟩
  have hf11 : RepFn Try.prog F_6 96 [(.pointer (some ⟨b5, 0, none⟩))] (fun x _ vs => vs = [(eApiClaim x)]) (fun r _ v => v = (.bool r)) (fun x => m_bottle_label_tests_2 x l_1) := ⟨Try.call96, fun F' le' x vs hv => by obtain rfl := hv; exact c_bottle_label_tests_2 F' x l_1 b5 p2 k3 (le'.mem _ _ hb8) ((h4.mono l_7).mono le')⟩
  have hf12 : RepFn Try.prog F_6 97 [(.pointer (some ⟨b5, 0, none⟩))] (fun x _ vs => vs = [(eApiClaim x)]) (fun r _ v => v = (.bool r)) (fun x => m_bottle_label_tests_3 x l_1) := ⟨Try.call97, fun F' le' x vs hv => by obtain rfl := hv; exact c_bottle_label_tests_3 F' x l_1 b5 p2 k3 (le'.mem _ _ hb8) ((h4.mono l_7).mono le')⟩
  have hf13 : RepFn Try.prog F_6 98 [(.pointer (some ⟨b5, 0, none⟩))] (fun x _ vs => vs = [(eApiClaim x)]) (fun r _ v => v = (.bool r)) (fun x => some (m_bottle_label_tests_4 x l_1)) := ⟨Try.call98, fun F' le' x vs hv => by obtain rfl := hv; exact c_bottle_label_tests_4 F' x l_1 b5 p2 k3 (le'.mem _ _ hb8) ((h4.mono l_7).mono le')⟩
  have hf14 : RepFn Try.prog F_6 99 [(.pointer (some ⟨b5, 0, none⟩))] (fun x _ vs => vs = [(eApiClaim x)]) (fun r _ v => v = (.bool r)) (fun x => some (m_bottle_label_tests_5 x l_1)) := ⟨Try.call99, fun F' le' x vs hv => by obtain rfl := hv; exact c_bottle_label_tests_5 F' x l_1 b5 p2 k3 (le'.mem _ _ hb8) ((h4.mono l_7).mono le')⟩
  have hf15 : RepFn Try.prog F_6 100 [(.pointer (some ⟨b5, 0, none⟩))] (fun x _ vs => vs = [(eApiClaim x)]) (fun r _ v => v = (.bool r)) (fun x => some (m_bottle_label_tests_6 x l_1)) := ⟨Try.call100, fun F' le' x vs hv => by obtain rfl := hv; exact c_bottle_label_tests_6 F' x l_1 b5 p2 k3 (le'.mem _ _ hb8) ((h4.mono l_7).mono le')⟩
  have hf16 : RepFn Try.prog F_6 101 [(.pointer (some ⟨b5, 0, none⟩))] (fun x _ vs => vs = [(eApiClaim x)]) (fun r _ v => v = (.bool r)) (fun x => some (m_bottle_label_tests_7 x l_1)) := ⟨Try.call101, fun F' le' x vs hv => by obtain rfl := hv; exact c_bottle_label_tests_7 F' x l_1 b5 p2 k3 (le'.mem _ _ hb8) ((h4.mono l_7).mono le')⟩
  have hf17 : RepFn Try.prog F_6 102 [(.pointer (some ⟨b5, 0, none⟩))] (fun x _ vs => vs = [(eApiClaim x)]) (fun r _ v => v = (.bool r)) (fun x => some (m_bottle_label_tests_8 x l_1)) := ⟨Try.call102, fun F' le' x vs hv => by obtain rfl := hv; exact c_bottle_label_tests_8 F' x l_1 b5 p2 k3 (le'.mem _ _ hb8) ((h4.mono l_7).mono le')⟩
  refine .buildA (cs := [.func (.func 95) #[] [(.pointer (some ⟨b5, 0, none⟩))].toArray, .func (.func 96) #[] [(.pointer (some ⟨b5, 0, none⟩))].toArray, .func (.func 97) #[] [(.pointer (some ⟨b5, 0, none⟩))].toArray, .func (.func 98) #[] [(.pointer (some ⟨b5, 0, none⟩))].toArray, .func (.func 99) #[] [(.pointer (some ⟨b5, 0, none⟩))].toArray, .func (.func 100) #[] [(.pointer (some ⟨b5, 0, none⟩))].toArray, .func (.func 101) #[] [(.pointer (some ⟨b5, 0, none⟩))].toArray, .func (.func 102) #[] [(.pointer (some ⟨b5, 0, none⟩))].toArray].toArray) rfl Try.underlying126 Try.zeroValue126 Try.sizeOf102 rfl rfl (by kernel_rfl) ?_
  refine .store (cs' := [.func (.func 95) #[] [(.pointer (some ⟨b5, 0, none⟩))].toArray, .func (.func 96) #[] [(.pointer (some ⟨b5, 0, none⟩))].toArray, .func (.func 97) #[] [(.pointer (some ⟨b5, 0, none⟩))].toArray, .func (.func 98) #[] [(.pointer (some ⟨b5, 0, none⟩))].toArray, .func (.func 99) #[] [(.pointer (some ⟨b5, 0, none⟩))].toArray, .func (.func 100) #[] [(.pointer (some ⟨b5, 0, none⟩))].toArray, .func (.func 101) #[] [(.pointer (some ⟨b5, 0, none⟩))].toArray, .func (.func 102) #[] [(.pointer (some ⟨b5, 0, none⟩))].toArray]) Try.sizeOf126 rfl rfl rfl rfl (i := 0) rfl (Nat.le_of_ble_eq_true rfl) rfl (setMany_all (by rfl)) ?_
  refine .nil ?_
  refine .code ?_
  exact .ret0 Try.results80 (.agg rfl Try.isAgg126 Try.sizeOf126 (i := 0) rfl (vs' := [.func (.func 95) #[] [(.pointer (some ⟨b5, 0, none⟩))].toArray, .func (.func 96) #[] [(.pointer (some ⟨b5, 0, none⟩))].toArray, .func (.func 97) #[] [(.pointer (some ⟨b5, 0, none⟩))].toArray, .func (.func 98) #[] [(.pointer (some ⟨b5, 0, none⟩))].toArray, .func (.func 99) #[] [(.pointer (some ⟨b5, 0, none⟩))].toArray, .func (.func 100) #[] [(.pointer (some ⟨b5, 0, none⟩))].toArray, .func (.func 101) #[] [(.pointer (some ⟨b5, 0, none⟩))].toArray, .func (.func 102) #[] [(.pointer (some ⟨b5, 0, none⟩))].toArray]) (by kernel_rfl) rfl (.nil)) (i := 1) rfl l_7 ⟨95, [(.pointer (some ⟨b5, 0, none⟩))], 96, [(.pointer (some ⟨b5, 0, none⟩))], 97, [(.pointer (some ⟨b5, 0, none⟩))], 98, [(.pointer (some ⟨b5, 0, none⟩))], 99, [(.pointer (some ⟨b5, 0, none⟩))], 100, [(.pointer (some ⟨b5, 0, none⟩))], 101, [(.pointer (some ⟨b5, 0, none⟩))], 102, [(.pointer (some ⟨b5, 0, none⟩))], rfl, hf10, hf11, hf12, hf13, hf14, hf15, hf16, hf17⟩

noncomputable def b_bottle_label_lies_1 (claims5 : (List ApiClaim)) (r_15 : (Nat → (ApiClaim → Option Bool))) (s42 : (List Int) × Int) : Option (Ctl ((List Int) × Int) (((List Int)))) :=
  if (decide (s42.2 < (claims5.length : Int))) then (((idxL claims5 s42.2).bind fun x49 => (idxO 8 x49.Kind).bind fun j60 => ((r_15 j60) x49).bind fun r_68 => (if (!r_68) then ((appO s42.1 ([s42.2])).bind fun l_95 => some l_95) else (some s42.1) : Option ((List Int))).bind fun j99 => some j99 : Option ((List Int))).bind fun j105 => some (.next (j105, (w64 (s42.2 + 1))))) else (some (.done s42.1))
noncomputable def m_bottle_label_lies (l_1 : BottleLabel) (claims5 : (List ApiClaim)) : Option (List Int) :=
  (m_bottle_label_tests l_1).bind fun r_15 => (loopM (b_bottle_label_lies_1 claims5 r_15) ([], 0)).bind fun b111 => some b111
theorem c_bottle_label_lies (F0 : Fz) (l_1 : BottleLabel) (p2 : Option Addr) (k3 : Nat) (h4 : RepSl 27 (Ex cApiDraught) F0 p2 k3 l_1.batch.Batch.Draughts) (claims5 : (List ApiClaim)) (p6 : Option Addr) (k7 : Nat) (h8 : RepSl 3 (Ex cApiClaim) F0 p6 k7 claims5) : CT0 Try.prog 46 [(eBottleLabel l_1 p2 k3), (.slice p6 claims5.length k7)].toArray F0 (m_bottle_label_lies l_1 claims5) (fun r F v => ∃ p0 k0, v = (.slice p0 r.length k0) ∧ RepSl 1 (Ex (cInt .i64)) F p0 k0 r) := by
  refine CT0.enter Try.func46 rfl Try.ntmps46 rfl fun r R => ?_
  unfold m_bottle_label_lies
  refine .seq ?_
  refine .region ?_
  refine .boxF (cs := (cBottleLabel l_1 p2 k3)) rfl rfl rfl (fun b9 F_10 l_11 hb12 => ?_)
  refine .assign rfl rfl ?_
  refine .nil ?_
  refine .code ?_
  refine .seq ?_
  refine .region ?_
  refine .assign rfl rfl ?_
  refine .nil ?_
  refine .code ?_
  refine .seq ?_
  refine .region ?_
  refine .loadFA rfl Try.isAgg97 Try.sizeOf97 rfl hb12 (vs := (cBottleLabel l_1 p2 k3)) (by kernel_rfl) rfl ?_
  refine .call0 rfl Try.call80 rfl rfl rfl (c_bottle_label_tests _ l_1 p2 k3 (h4.mono l_11)) ?_
  rintro r_15 F_13 _ - l_14 ⟨p16, k17, p19, k20, p22, k23, p25, k26, p28, k29, p31, k32, p34, k35, p37, k38, rfl, h18, h21, h24, h27, h30, h33, h36, h39⟩
  refine .alloc (cs := [.nilFunc, .nilFunc, .nilFunc, .nilFunc, .nilFunc, .nilFunc, .nilFunc, .nilFunc]) rfl Try.zeroValue126 rfl (fun b40 => ?_)
  refine .store (cs' := [.func (.func p16) #[] k17.toArray, .func (.func p19) #[] k20.toArray, .func (.func p22) #[] k23.toArray, .func (.func p25) #[] k26.toArray, .func (.func p28) #[] k29.toArray, .func (.func p31) #[] k32.toArray, .func (.func p34) #[] k35.toArray, .func (.func p37) #[] k38.toArray]) Try.sizeOf126 rfl rfl rfl rfl (i := 0) rfl (Nat.le_of_ble_eq_true rfl) rfl (setMany_all (by rfl)) ?_
  refine .nil ?_
  refine .code ?_
  refine .seq ?_
  refine .seq ?_
  refine .region ?_
  refine .move rfl rfl ?_
  refine .lenS rfl rfl Try.underlying39 rfl ?_
  refine .move rfl rfl ?_
  refine .nil ?_
  refine .code ?_
  refine .block ?_
  refine .ownNil 1 (Ex (cInt .i64)) 3 ?_
  refine .keep (.cons (k := 5) rfl (.cons (k := 6) rfl (.cons (k := 11) rfl (.cons (k := 12) rfl (.cons (k := 13) rfl (.nil _)))))) ?_
  refine .loop (fun (s42 : (List Int) × Int) a w => ∃ (F_43 : Fz) (p45 : Option Addr) (k46 : Nat), F_13 ≤ F_43 ∧ Hd 31 [] [(5, (.slice p45 s42.1.length k46)), (6, (.pointer (some ⟨b40, 0, none⟩))), (11, (.slice p6 claims5.length k7)), (12, (.int .i64 (claims5.length : Int))), (13, (.int .i64 s42.2))] F_43 [ownSl 1 (Ex (cInt .i64)) F_43 3 p45 k46 s42.1, pt b40 (.cells [.func (.func p16) #[] k17.toArray, .func (.func p19) #[] k20.toArray, .func (.func p22) #[] k23.toArray, .func (.func p25) #[] k26.toArray, .func (.func p28) #[] k29.toArray, .func (.func p31) #[] k32.toArray, .func (.func p34) #[] k35.toArray, .func (.func p37) #[] k38.toArray].toArray 126), R] a w) (fun b111 e a w => e = .exit 0 ∧ ∃ (F_112 : Fz) (p114 : Option Addr) (k115 : Nat), F_13 ≤ F_112 ∧ Hd 31 [] [(5, (.slice p114 b111.length k115))] F_112 [ownSl 1 (Ex (cInt .i64)) F_112 3 p114 k115 b111, pt b40 (.cells [.func (.func p16) #[] k17.toArray, .func (.func p19) #[] k20.toArray, .func (.func p22) #[] k23.toArray, .func (.func p25) #[] k26.toArray, .func (.func p28) #[] k29.toArray, .func (.func p31) #[] k32.toArray, .func (.func p34) #[] k35.toArray, .func (.func p37) #[] k38.toArray].toArray 126), R] a w) ?_ ?_ ?_
  · exact fun a w h => ⟨F_13, none, 0, (Fz.le_refl _), h.1.sub (.cons (k := 5) rfl (.cons (k := 6) rfl (.cons (k := 11) rfl (.cons (k := 12) rfl (.cons (k := 13) rfl (.nil _)))))), h.2⟩
  · intro s42 ctl
    refine GC.ex (fun a w ⟨F_43, p45, k46, l_44, hA⟩ => ⟨_, hA, ?_⟩)
    unfold b_bottle_label_lies_1
    refine .seq ?_
    refine .region ?_
    refine .lss rfl rfl rfl ?_
    refine .nil ?_
    refine .code ?_
    refine .seq ?_
    refine .cond rfl (fun hb48 => ?_) (fun hb48 => ?_)
    · skip
      refine .skip ?_
      refine .code ?_
      refine .seq ?_
      refine .keep (.cons (k := 5) rfl (.cons (k := 6) rfl (.cons (k := 11) rfl (.cons (k := 12) rfl (.cons (k := 13) rfl (.nil _)))))) ?_
      refine GC.join0 (σ := (List Int)) (fun j105 a w => ∃ (F_106 : Fz) (p108 : Option Addr) (k109 : Nat), F_43 ≤ F_106 ∧ Hd 31 [] [(5, (.slice p108 j105.length k109)), (6, (.pointer (some ⟨b40, 0, none⟩))), (11, (.slice p6 claims5.length k7)), (12, (.int .i64 (claims5.length : Int))), (13, (.int .i64 s42.2))] F_106 [ownSl 1 (Ex (cInt .i64)) F_106 3 p108 k109 j105, pt b40 (.cells [.func (.func p16) #[] k17.toArray, .func (.func p19) #[] k20.toArray, .func (.func p22) #[] k23.toArray, .func (.func p25) #[] k26.toArray, .func (.func p28) #[] k29.toArray, .func (.func p31) #[] k32.toArray, .func (.func p34) #[] k35.toArray, .func (.func p37) #[] k38.toArray].toArray 126), R] a w) (fun sj => ?_) (fun j105 hs0 => GE.ex (fun a w ⟨F_106, p108, k109, l_107, hA⟩ => ⟨_, hA, ?_⟩))
      · skip
        refine .block ?_
        refine .seq ?_
        refine .region ?_
        refine .move rfl rfl ?_
        refine .idx rfl Try.underlying39 Try.sizeOf46 (h8.mono (Fz.le_trans l_11 (Fz.le_trans l_14 l_44))) rfl rfl (fun x49 b50 o51 T52 fr53 cs54 e55 hm56 hv57 => ?_)
        refine .loadFA rfl Try.isAgg46 Try.sizeOf46 rfl hm56 hv57 rfl ?_
        refine .alloc (cs := (cApiClaim (ApiClaim.mk 0 0 0))) rfl Try.zeroValue46 rfl (fun b59 => ?_)
        refine .assign rfl rfl ?_
        refine .store (cs' := (cApiClaim x49)) Try.sizeOf46 rfl rfl rfl rfl (i := 0) rfl (Nat.le_of_ble_eq_true rfl) rfl (setMany_all (by rfl)) ?_
        refine .nil ?_
        refine .code ?_
        refine .seq ?_
        refine .keep (.cons (k := 5) rfl (.cons (k := 6) rfl (.cons (k := 7) rfl (.cons (k := 8) rfl (.cons (k := 11) rfl (.cons (k := 12) rfl (.cons (k := 13) rfl (.nil _)))))))) ?_
        refine .bind (fun j60 hj61 => ?_)
        obtain ⟨p62, k63, hc64, h65⟩ := allLt8 (p := fun j60 => ∃ p k, ([.func (.func p16) #[] k17.toArray, .func (.func p19) #[] k20.toArray, .func (.func p22) #[] k23.toArray, .func (.func p25) #[] k26.toArray, .func (.func p28) #[] k29.toArray, .func (.func p31) #[] k32.toArray, .func (.func p34) #[] k35.toArray, .func (.func p37) #[] k38.toArray] : List Value)[0 + j60 * 1]? = some (.func (.func p) #[] (List.toArray k)) ∧ RepFn Try.prog F_43 p k (fun x _ vs => vs = [(eApiClaim x)]) (fun r _ v => v = (.bool r)) (r_15 j60)) ⟨_, _, rfl, (h18.mono l_44)⟩ ⟨_, _, rfl, (h21.mono l_44)⟩ ⟨_, _, rfl, (h24.mono l_44)⟩ ⟨_, _, rfl, (h27.mono l_44)⟩ ⟨_, _, rfl, (h30.mono l_44)⟩ ⟨_, _, rfl, (h33.mono l_44)⟩ ⟨_, _, rfl, (h36.mono l_44)⟩ ⟨_, _, rfl, (h39.mono l_44)⟩ _ (idxO_some hj61).2.2.2
        refine .bind (fun r_68 hx69 => ?_)
        refine .draw ⟨1000000, 0, [], 0⟩ [(18, (.pointer (some ⟨b59, 0 + 0, none⟩))), (19, (.int .i64 x49.Kind)), (20, (.pointer (some ⟨b40, 0 + j60 * 1, none⟩))), (21, (.func (.func p62) #[] k63.toArray)), (22, (eApiClaim x49)), (23, (.bool r_68)), (24, (.bool (!r_68)))] mixedOK (by kernel_rfl) (by kernel_rfl) rfl (by kernel_rfl) ?_ (fun F_70 b71 l_72 => ?_)
        · skip
          refine .cons (.mk 18 (.pointer (some ⟨b59, 0 + 0, none⟩)) [(8, (.pointer (some ⟨b59, 0, none⟩)))] rfl rfl rfl rfl (fun S hS hd => (.cons (hS _ _ rfl) (Sub.nil _))) (fun F_73 X l_74 => ?_)) ?_
          · skip
            refine .fieldAddr rfl Try.underlying46 rfl Try.sizeOf3 rfl ?_
            exact .fin1 (Fz.le_refl _)
          refine .cons (.mk 19 (.int .i64 x49.Kind) [(18, (.pointer (some ⟨b59, 0 + 0, none⟩)))] rfl rfl rfl rfl (fun S hS hd => (.cons (hd.1 rfl rfl _ _ rfl) (Sub.nil _))) (fun F_75 X l_76 => ?_)) ?_
          · skip
            refine .loadO rfl Try.isAgg3 rfl (i := 0) rfl rfl ?_
            exact .fin1 (Fz.le_refl _)
          refine .cons (.mk 20 (.pointer (some ⟨b40, 0 + j60 * 1, none⟩)) [(6, (.pointer (some ⟨b40, 0, none⟩))), (19, (.int .i64 x49.Kind))] rfl rfl rfl rfl (fun S hS hd => (.cons (hS _ _ rfl) (.cons (hd.1 rfl rfl _ _ rfl) (Sub.nil _)))) (fun F_77 X l_78 => ?_)) ?_
          · skip
            refine .indexAddrA rfl Try.underlying126 Try.sizeOf102 rfl rfl hj61 ?_
            exact .fin1 (Fz.le_refl _)
          refine .cons (.mk 21 (.func (.func p62) #[] k63.toArray) [(20, (.pointer (some ⟨b40, 0 + j60 * 1, none⟩)))] rfl rfl rfl rfl (fun S hS hd => (.cons (hd.1 rfl rfl _ _ rfl) (Sub.nil _))) (fun F_79 X l_80 => ?_)) ?_
          · skip
            refine .loadO rfl Try.isAgg102 rfl (i := 2) rfl hc64 ?_
            exact .fin1 (Fz.le_refl _)
          refine .cons (.mk 22 (eApiClaim x49) [(8, (.pointer (some ⟨b59, 0, none⟩)))] rfl rfl rfl rfl (fun S hS hd => (.cons (hS _ _ rfl) (Sub.nil _))) (fun F_81 X l_82 => ?_)) ?_
          · skip
            refine .loadOA rfl Try.isAgg46 Try.sizeOf46 rfl (i := 0) rfl (vs := (cApiClaim x49)) (by kernel_rfl) rfl ?_
            exact .fin1 (Fz.le_refl _)
          refine .cons (.mk 23 (.bool r_68) [(21, (.func (.func p62) #[] k63.toArray)), (22, (eApiClaim x49))] rfl rfl rfl rfl (fun S hS hd => (.cons (hd.1 rfl rfl _ _ rfl) (.cons (hd.2.1 rfl rfl _ _ rfl) (Sub.nil _)))) (fun F_83 X l_84 => ?_)) ?_
          · skip
            refine .callK hx69 rfl h65.1 rfl rfl rfl (h65.2 _ l_84 x49 [(eApiClaim x49)] rfl) ?_
            rintro F_85 _ l_86 rfl
            exact .fin1 l_86
          refine .cons (.mk 24 (.bool (!r_68)) [(23, (.bool r_68))] rfl rfl rfl rfl (fun S hS hd => (.cons (hd.1 rfl rfl _ _ rfl) (Sub.nil _))) (fun F_87 X l_88 => ?_)) ?_
          · skip
            refine .not rfl rfl ?_
            exact .fin1 (Fz.le_refl _)
          exact .nil
        refine .nil ?_
        refine .code ?_
        refine .keep (.cons (k := 5) rfl (.cons (k := 6) rfl (.cons (k := 7) rfl (.cons (k := 11) rfl (.cons (k := 12) rfl (.cons (k := 13) rfl (.cons (k := 24) rfl (.nil _)))))))) ?_
        refine GC.join0 (σ := (List Int)) (fun j99 a w => ∃ (F_100 : Fz) (p102 : Option Addr) (k103 : Nat), F_70 ≤ F_100 ∧ Hd 31 [] [(5, (.slice p102 j99.length k103)), (6, (.pointer (some ⟨b40, 0, none⟩))), (11, (.slice p6 claims5.length k7)), (12, (.int .i64 (claims5.length : Int))), (13, (.int .i64 s42.2))] F_100 [pt b59 (.cells (cApiClaim x49).toArray 46), ownSl 1 (Ex (cInt .i64)) F_100 3 p102 k103 j99, pt b40 (.cells [.func (.func p16) #[] k17.toArray, .func (.func p19) #[] k20.toArray, .func (.func p22) #[] k23.toArray, .func (.func p25) #[] k26.toArray, .func (.func p28) #[] k29.toArray, .func (.func p31) #[] k32.toArray, .func (.func p34) #[] k35.toArray, .func (.func p37) #[] k38.toArray].toArray 126), R] a w) (fun sj => ?_) (fun j99 hs0 => GE.ex (fun a w ⟨F_100, p102, k103, l_101, hA⟩ => ⟨_, hA, ?_⟩))
        · skip
          refine .cond rfl (fun hb89 => ?_) (fun hb89 => ?_)
          · skip
            refine .region ?_
            refine .move rfl rfl ?_
            refine .move rfl rfl ?_
            refine .sliceLit (cs := [.int .i64 s42.2]) (zc := [.int .i64 0]) rfl Try.underlying40 Try.sizeOf3 Try.zeroValue3 rfl rfl rfl (by kernel_rfl) (by kernel_rfl) (fun b90 F_91 l_92 hb93 => ?_)
            have h94 : RepSl 1 (Ex (cInt .i64)) F_91 (some ⟨b90, 0, none⟩) 1 ([s42.2]) := RepSl.ofRow hb93 (.cons ok_t3.mono rfl .nil) rfl rfl
            refine .append 1 ok_t3 (Fz.le_trans l_72 l_92) rfl Try.underlying40 Try.underlying40 rfl rfl rfl h94 rfl rfl (fun l_95 p96 k97 e98 => ?_)
            refine .assign rfl rfl ?_
            refine .nil ?_
            exact .nil fun e a w h => by cases e; exact ⟨rfl, ⟨F_91, p96, k97, l_92, h.1.sub (.cons (k := 5) rfl (.cons (k := 6) rfl (.cons (k := 11) rfl (.cons (k := 12) rfl (.cons (k := 13) rfl (.nil _)))))), h.2⟩⟩
          · skip
            refine .skip ?_
            refine .ownUp 1 l_72 rfl ?_
            exact .nil fun e a w h => by cases e; exact ⟨rfl, ⟨F_70, p45, k46, (Fz.le_refl _), h.1.sub (.cons (k := 5) rfl (.cons (k := 6) rfl (.cons (k := 11) rfl (.cons (k := 12) rfl (.cons (k := 13) rfl (.nil _)))))), h.2⟩⟩
        refine .block ?_
        refine .drop 0 ?_
        exact .nil fun e a w h => by cases e; exact ⟨rfl, ⟨F_100, p102, k103, (Fz.le_trans l_72 l_101), h.1.sub (.cons (k := 5) rfl (.cons (k := 6) rfl (.cons (k := 11) rfl (.cons (k := 12) rfl (.cons (k := 13) rfl (.nil _)))))), h.2⟩⟩
      refine .code ?_
      refine .region ?_
      refine .add rfl rfl rfl ?_
      refine .move rfl rfl ?_
      refine .nil ?_
      exact .nil (LPost.norm fun a w h => ⟨F_106, p108, k109, (Fz.le_trans l_44 l_107), h.1.sub (.cons (k := 5) rfl (.cons (k := 6) rfl (.cons (k := 11) rfl (.cons (k := 12) rfl (.cons (k := 13) rfl (.nil _)))))), h.2⟩)
    · skip
      refine .exitOut rfl (LPost.exit fun a w h => ⟨rfl, F_43, p45, k46, l_44, h.1.sub (.cons (k := 5) rfl (.nil _)), h.2⟩)
  · intro b111 hb0 hk e a w hD
    obtain ⟨rfl, F_112, p114, k115, l_113, hA⟩ := hD
    refine interp_exit rfl (GE.app ?_ hk a w hA)
    refine .code ?_
    refine .seq ?_
    refine .region ?_
    refine .move rfl rfl ?_
    refine .assign rfl rfl ?_
    refine .nil ?_
    refine .code ?_
    refine .freezeSl 0 rfl (Fz.le_refl _) (fun F_117 l_118 h119 => ?_)
    exact .ret0 Try.results46 (.tmp rfl (.nil)) (i := 1) rfl (Fz.le_trans l_11 (Fz.le_trans l_14 (Fz.le_trans l_113 l_118))) ⟨p114, k115, rfl, h119⟩

noncomputable def m_bottle_False (b1 : ApiBatch) (l_5 : (List ApiClaim)) : Option ((List Int) × Int) :=
  (m_bottle_write b1 l_5).bind fun r_15 => if (!r_15.2) then (some ([], 1)) else ((m_bottle_label_lies r_15.1 l_5).bind fun r_23 => some (r_23, 0))
theorem c_bottle_False (F0 : Fz) (b1 : ApiBatch) (p2 : Option Addr) (k3 : Nat) (h4 : RepSl 27 (Ex cApiDraught) F0 p2 k3 b1.Draughts) (l_5 : (List ApiClaim)) (p6 : Option Addr) (k7 : Nat) (h8 : RepSl 3 (Ex cApiClaim) F0 p6 k7 l_5) : CT0 Try.prog 17 [(eApiBatch b1 p2 k3), (.slice p6 l_5.length k7)].toArray F0 (m_bottle_False b1 l_5) (fun r F v => ∃ p0 k0, v = .tuple #[(.slice p0 r.1.length k0), (.int .i64 r.2)] ∧ RepSl 1 (Ex (cInt .i64)) F p0 k0 r.1) := by
  refine CT0.enter Try.func17 rfl Try.ntmps17 rfl fun r R => ?_
  unfold m_bottle_False
  refine .seq ?_
  refine .region ?_
  refine .boxF (cs := (cApiBatch b1 p2 k3)) rfl rfl rfl (fun b9 F_10 l_11 hb12 => ?_)
  refine .assign rfl rfl ?_
  refine .assign rfl rfl ?_
  refine .nil ?_
  refine .code ?_
  refine .seq ?_
  refine .region ?_
  refine .loadFA rfl Try.isAgg38 Try.sizeOf38 rfl hb12 (vs := (cApiBatch b1 p2 k3)) (by kernel_rfl) rfl ?_
  refine .move rfl rfl ?_
  refine .call0 rfl Try.call45 rfl rfl rfl (c_bottle_write _ b1 p2 k3 (h4.mono l_11) l_5 p6 k7 (h8.mono l_11)) ?_
  rintro r_15 F_13 _ - l_14 ⟨p16, k17, rfl, h18⟩
  refine .move rfl rfl ?_
  refine .extract rfl rfl rfl ?_
  refine .extract rfl rfl rfl ?_
  refine .alloc (cs := (cBottleLabel (BottleLabel.mk (BottleBatch.mk (ApiBatch.mk ([]) 0 (ApiSpan.mk 0 0) false false) 0 0 0) (ApiBottling.mk (ApiSpan.mk 0 0) (ApiSpan.mk 0 0) 0 (fun _ => 0) (fun _ => 0) 0)) none 0)) rfl Try.zeroValue97 rfl (fun b19 => ?_)
  refine .store (cs' := (cBottleLabel r_15.1 p16 k17)) Try.sizeOf97 rfl rfl rfl rfl (i := 0) rfl (Nat.le_of_ble_eq_true rfl) rfl (setMany_all (by rfl)) ?_
  refine .assign rfl rfl ?_
  refine .nil ?_
  refine .code ?_
  refine .seq ?_
  refine .seq ?_
  refine .region ?_
  refine .move rfl rfl ?_
  refine .not rfl rfl ?_
  refine .nil ?_
  refine .code ?_
  refine .cond rfl (fun hb20 => ?_) (fun hb20 => ?_)
  · skip
    refine .seq ?_
    refine .region ?_
    refine .assign rfl rfl ?_
    refine .assign rfl rfl ?_
    refine .nil ?_
    refine .code ?_
    exact .ret0 Try.results17 (.tmp rfl (.tmp rfl (.nil))) (i := 1) rfl (Fz.le_trans l_11 l_14) ⟨none, 0, rfl, (RepSl.nil.mono (Fz.le_trans l_11 l_14))⟩
  · skip
    refine .skip ?_
    refine .code ?_
    refine .seq ?_
    refine .region ?_
    refine .loadOA rfl Try.isAgg97 Try.sizeOf97 rfl (i := 0) rfl (vs := (cBottleLabel r_15.1 p16 k17)) (by kernel_rfl) rfl ?_
    refine .move rfl rfl ?_
    refine .call0 rfl Try.call46 rfl rfl rfl (c_bottle_label_lies _ r_15.1 p16 k17 h18 l_5 p6 k7 (h8.mono (Fz.le_trans l_11 l_14))) ?_
    rintro r_23 F_21 _ - l_22 ⟨p24, k25, rfl, h26⟩
    refine .assign rfl rfl ?_
    refine .assign rfl rfl ?_
    refine .nil ?_
    refine .code ?_
    exact .ret0 Try.results17 (.tmp rfl (.tmp rfl (.nil))) (i := 1) rfl (Fz.le_trans l_11 (Fz.le_trans l_14 l_22)) ⟨p24, k25, rfl, h26⟩

noncomputable def m_bottle_Blend (b1 : ApiBatch) : Option (ApiBottling × Int) :=
  (m_bottle_open b1).bind fun r_12 => if (!r_12.2) then (some ((ApiBottling.mk (ApiSpan.mk 0 0) (ApiSpan.mk 0 0) 0 (fun _ => 0) (fun _ => 0) 0), 1)) else ((m_bottle_batch_known r_12.1).bind fun r_20 => some (r_20, 0))
theorem c_bottle_Blend (F0 : Fz) (b1 : ApiBatch) (p2 : Option Addr) (k3 : Nat) (h4 : RepSl 27 (Ex cApiDraught) F0 p2 k3 b1.Draughts) : CT0 Try.prog 20 [(eApiBatch b1 p2 k3)].toArray F0 (m_bottle_Blend b1) (fun r _ v => v = .tuple #[(eApiBottling r.1), (.int .i64 r.2)]) := by
  refine CT0.enter Try.func20 rfl Try.ntmps20 rfl fun r R => ?_
  unfold m_bottle_Blend
  refine .seq ?_
  refine .region ?_
  refine .boxF (cs := (cApiBatch b1 p2 k3)) rfl rfl rfl (fun b5 F_6 l_7 hb8 => ?_)
  refine .alloc (cs := (cApiBottling (ApiBottling.mk (ApiSpan.mk 0 0) (ApiSpan.mk 0 0) 0 (fun _ => 0) (fun _ => 0) 0))) rfl Try.zeroValue56 rfl (fun b9 => ?_)
  refine .assign rfl rfl ?_
  refine .nil ?_
  refine .code ?_
  refine .seq ?_
  refine .region ?_
  refine .loadFA rfl Try.isAgg38 Try.sizeOf38 rfl hb8 (vs := (cApiBatch b1 p2 k3)) (by kernel_rfl) rfl ?_
  refine .call0 rfl Try.call51 rfl rfl rfl (c_bottle_open _ b1 p2 k3 (h4.mono l_7)) ?_
  rintro r_12 F_10 _ - l_11 ⟨p13, k14, rfl, h15⟩
  refine .move rfl rfl ?_
  refine .extract rfl rfl rfl ?_
  refine .extract rfl rfl rfl ?_
  refine .alloc (cs := (cBottleBatch (BottleBatch.mk (ApiBatch.mk ([]) 0 (ApiSpan.mk 0 0) false false) 0 0 0) none 0)) rfl Try.zeroValue95 rfl (fun b16 => ?_)
  refine .store (cs' := (cBottleBatch r_12.1 p13 k14)) Try.sizeOf95 rfl rfl rfl rfl (i := 0) rfl (Nat.le_of_ble_eq_true rfl) rfl (setMany_all (by rfl)) ?_
  refine .assign rfl rfl ?_
  refine .nil ?_
  refine .code ?_
  refine .seq ?_
  refine .seq ?_
  refine .region ?_
  refine .move rfl rfl ?_
  refine .not rfl rfl ?_
  refine .nil ?_
  refine .code ?_
  refine .cond rfl (fun hb17 => ?_) (fun hb17 => ?_)
  · skip
    refine .seq ?_
    refine .region ?_
    refine .build (cs := (cApiBottling (ApiBottling.mk (ApiSpan.mk 0 0) (ApiSpan.mk 0 0) 0 (fun _ => 0) (fun _ => 0) 0)).toArray) rfl Try.underlying56 Try.zeroValue56 (plApiBottling _ Try.underlying56) rfl rfl (by kernel_rfl) ?_
    refine .store (cs' := (cApiBottling (ApiBottling.mk (ApiSpan.mk 0 0) (ApiSpan.mk 0 0) 0 (fun _ => 0) (fun _ => 0) 0))) Try.sizeOf56 rfl rfl rfl rfl (i := 1) rfl (Nat.le_of_ble_eq_true rfl) rfl (setMany_all (by rfl)) ?_
    refine .assign rfl rfl ?_
    refine .nil ?_
    refine .code ?_
    exact .ret0 Try.results20 (.agg rfl Try.isAgg56 Try.sizeOf56 (i := 1) rfl (vs' := (cApiBottling (ApiBottling.mk (ApiSpan.mk 0 0) (ApiSpan.mk 0 0) 0 (fun _ => 0) (fun _ => 0) 0))) (by kernel_rfl) rfl (.tmp rfl (.nil))) (i := 2) rfl (Fz.le_trans l_7 l_11) rfl
  · skip
    refine .skip ?_
    refine .code ?_
    refine .seq ?_
    refine .region ?_
    refine .loadOA rfl Try.isAgg95 Try.sizeOf95 rfl (i := 0) rfl (vs := (cBottleBatch r_12.1 p13 k14)) (by kernel_rfl) rfl ?_
    refine .call0 rfl Try.call52 rfl rfl rfl (c_bottle_batch_known _ r_12.1 p13 k14 h15) ?_
    rintro r_20 F_18 _ - l_19 rfl
    refine .store (cs' := (cApiBottling r_20)) Try.sizeOf56 rfl rfl rfl rfl (i := 1) rfl (Nat.le_of_ble_eq_true rfl) rfl (setMany_all (by rfl)) ?_
    refine .assign rfl rfl ?_
    refine .nil ?_
    refine .code ?_
    exact .ret0 Try.results20 (.agg rfl Try.isAgg56 Try.sizeOf56 (i := 1) rfl (vs' := (cApiBottling r_20)) (by kernel_rfl) rfl (.tmp rfl (.nil))) (i := 2) rfl (Fz.le_trans l_7 (Fz.le_trans l_11 l_19)) rfl

noncomputable def b_bottle_first_1 (is_3 : (Int → Option Bool)) (s7 : Int × Int) : Option (Ctl (Int × Int) ((Int))) :=
  if (decide (s7.1 < s7.2)) then ((bindv (w64 (s7.1 + (w64 (Int.tdiv (w64 (s7.2 - s7.1)) 2)))) fun mid11 => (is_3 mid11).bind fun r_15 => (if r_15 then (some (s7.1, mid11)) else (bindv (w64 (mid11 + 1)) fun low17 => some (low17, s7.2)) : Option (Int × Int)).bind fun j19 => some (j19.1, j19.2) : Option (Int × Int)).bind fun j22 => some (.next (j22.1, j22.2))) else (some (.done s7.1))
noncomputable def m_bottle_first (low1 : Int) (high2 : Int) (is_3 : (Int → Option Bool)) : Option Int :=
  (loopM (b_bottle_first_1 is_3) (low1, high2)).bind fun b25 => some b25
theorem c_bottle_first (F0 : Fz) (low1 : Int) (high2 : Int) (is_3 : (Int → Option Bool)) (p4 : FuncId) (k5 : List Value) (h6 : RepFn Try.prog F0 p4 k5 (fun x _ vs => vs = [(.int .i64 x)]) (fun r _ v => v = (.bool r)) is_3) : CT0 Try.prog 54 [(.int .i64 low1), (.int .i64 high2), (.func (.func p4) #[] k5.toArray)].toArray F0 (m_bottle_first low1 high2 is_3) (fun r _ v => v = (.int .i64 r)) := by
  refine CT0.enter Try.func54 rfl Try.ntmps54 rfl fun r R => ?_
  unfold m_bottle_first
  refine .seq ?_
  refine .region ?_
  refine .assign rfl rfl ?_
  refine .nil ?_
  refine .code ?_
  refine .seq ?_
  refine .block ?_
  refine .keep (.cons (k := 0) rfl (.cons (k := 1) rfl (.cons (k := 2) rfl (.nil _)))) ?_
  refine .loop (fun (s7 : Int × Int) a w => ∃ (F_8 : Fz), F0 ≤ F_8 ∧ Hd 24 [] [(0, (.int .i64 s7.1)), (1, (.int .i64 s7.2)), (2, (.func (.func p4) #[] k5.toArray))] F_8 [R] a w) (fun b25 e a w => e = .exit 0 ∧ ∃ (F_26 : Fz), F0 ≤ F_26 ∧ Hd 24 [] [(0, (.int .i64 b25))] F_26 [R] a w) ?_ ?_ ?_
  · exact fun a w h => ⟨F0, (Fz.le_refl _), h.1.sub (.cons (k := 0) rfl (.cons (k := 1) rfl (.cons (k := 2) rfl (.nil _)))), h.2⟩
  · intro s7 ctl
    refine GC.ex (fun a w ⟨F_8, l_9, hA⟩ => ⟨_, hA, ?_⟩)
    unfold b_bottle_first_1
    refine .seq ?_
    refine .seq ?_
    refine .region ?_
    refine .move rfl rfl ?_
    refine .move rfl rfl ?_
    refine .lss rfl rfl rfl ?_
    refine .nil ?_
    refine .code ?_
    refine .cond rfl (fun hb10 => ?_) (fun hb10 => ?_)
    · skip
      refine .skip ?_
      refine .code ?_
      refine .keep (.cons (k := 0) rfl (.cons (k := 1) rfl (.cons (k := 2) rfl (.nil _)))) ?_
      refine GC.join0 (σ := Int × Int) (fun j22 a w => ∃ (F_23 : Fz), F_8 ≤ F_23 ∧ Hd 24 [] [(0, (.int .i64 j22.1)), (1, (.int .i64 j22.2)), (2, (.func (.func p4) #[] k5.toArray))] F_23 [R] a w) (fun sj => ?_) (fun j22 hs0 => GE.ex (fun a w ⟨F_23, l_24, hA⟩ => ⟨_, hA, ?_⟩))
      · skip
        refine .block ?_
        refine .seq ?_
        refine .region ?_
        refine .move rfl rfl ?_
        refine .move rfl rfl ?_
        refine .move rfl rfl ?_
        refine .sub rfl rfl rfl ?_
        refine .quoC rfl (by decide) rfl rfl ?_
        refine .add rfl rfl rfl ?_
        refine .assignL rfl rfl (fun mid11 e12 => ?_)
        refine .nil ?_
        refine .code ?_
        refine .seq ?_
        refine .region ?_
        refine .move rfl rfl ?_
        refine .move rfl rfl ?_
        refine .call0 rfl h6.1 rfl rfl rfl (h6.2 _ l_9 mid11 [(.int .i64 mid11)] rfl) ?_
        rintro r_15 F_13 _ - l_14 rfl
        refine .nil ?_
        refine .code ?_
        refine .keep (.cons (k := 0) rfl (.cons (k := 1) rfl (.cons (k := 2) rfl (.cons (k := 7) rfl (.cons (k := 19) rfl (.nil _)))))) ?_
        refine GC.join0 (σ := Int × Int) (fun j19 a w => ∃ (F_20 : Fz), F_13 ≤ F_20 ∧ Hd 24 [] [(0, (.int .i64 j19.1)), (1, (.int .i64 j19.2)), (2, (.func (.func p4) #[] k5.toArray))] F_20 [R] a w) (fun sj => ?_) (fun j19 hs0 => GE.ex (fun a w ⟨F_20, l_21, hA⟩ => ⟨_, hA, ?_⟩))
        · skip
          refine .cond rfl (fun hb16 => ?_) (fun hb16 => ?_)
          · skip
            refine .region ?_
            refine .move rfl rfl ?_
            refine .assign rfl rfl ?_
            refine .nil ?_
            exact .nil fun e a w h => by cases e; exact ⟨rfl, ⟨F_13, (Fz.le_refl _), h.1.sub (.cons (k := 0) rfl (.cons (k := 1) rfl (.cons (k := 2) rfl (.nil _)))), h.2⟩⟩
          · skip
            refine .region ?_
            refine .move rfl rfl ?_
            refine .add rfl rfl rfl ?_
            refine .assignL rfl rfl (fun low17 e18 => ?_)
            refine .nil ?_
            exact .nil fun e a w h => by cases e; exact ⟨rfl, ⟨F_13, (Fz.le_refl _), h.1.sub (.cons (k := 0) rfl (.cons (k := 1) rfl (.cons (k := 2) rfl (.nil _)))), h.2⟩⟩
        refine .block ?_
        exact .nil fun e a w h => by cases e; exact ⟨rfl, ⟨F_20, (Fz.le_trans l_14 l_21), h.1.sub (.cons (k := 0) rfl (.cons (k := 1) rfl (.cons (k := 2) rfl (.nil _)))), h.2⟩⟩
      exact .nil (LPost.norm fun a w h => ⟨F_23, (Fz.le_trans l_9 l_24), h.1.sub (.cons (k := 0) rfl (.cons (k := 1) rfl (.cons (k := 2) rfl (.nil _)))), h.2⟩)
    · skip
      refine .exitOut rfl (LPost.exit fun a w h => ⟨rfl, F_8, l_9, h.1.sub (.cons (k := 0) rfl (.nil _)), h.2⟩)
  · intro b25 hb0 hk e a w hD
    obtain ⟨rfl, F_26, l_27, hA⟩ := hD
    refine interp_exit rfl (GE.app ?_ hk a w hA)
    refine .code ?_
    refine .seq ?_
    refine .region ?_
    refine .move rfl rfl ?_
    refine .assign rfl rfl ?_
    refine .nil ?_
    refine .code ?_
    exact .ret0 Try.results54 (.tmp rfl (.nil)) (i := 0) rfl l_27 rfl

noncomputable def m_bottle_Water_1 (w1 : Int) (c2 : BottleBatch) (c8 : Int) : Option Bool :=
  (m_bottle_batch_strength c2 w1).bind fun r_13 => some (decide (r_13.Hi ≤ c8))
theorem c_bottle_Water_1 (F0 : Fz) (w1 : Int) (c2 : BottleBatch) (b3 : Nat) (p5 : Option Addr) (k6 : Nat) (hb4 : F0.mem b3 = some (.cells (cBottleBatch c2 p5 k6).toArray 95)) (h7 : RepSl 27 (Ex cApiDraught) F0 p5 k6 c2.Batch.Draughts) (c8 : Int) (b9 : Nat) (hb10 : F0.mem b9 = some (.cells [(.int .i64 c8)].toArray 3)) : CT0 Try.prog 55 [(.int .i64 w1), (.pointer (some ⟨b3, 0, none⟩)), (.pointer (some ⟨b9, 0, none⟩))].toArray F0 (m_bottle_Water_1 w1 c2 c8) (fun r _ v => v = (.bool r)) := by
  refine CT0.enter Try.func55 rfl Try.ntmps55 rfl fun r R => ?_
  unfold m_bottle_Water_1
  refine .seq ?_
  refine .region ?_
  refine .assign rfl rfl ?_
  refine .nil ?_
  refine .code ?_
  refine .seq ?_
  refine .keep (.cons (k := 0) rfl (.cons (k := 1) rfl (.cons (k := 2) rfl (.nil _)))) ?_
  refine .bind (fun r_13 hx14 => ?_)
  refine .draw ⟨1000000, 0, [], 0⟩ [(5, (eBottleBatch c2 p5 k6)), (6, (.int .i64 w1)), (7, (eApiSpan r_13)), (8, (.int .i64 r_13.Hi)), (9, (.int .i64 c8)), (10, (.bool (decide (r_13.Hi ≤ c8))))] mixedOK (by kernel_rfl) (by kernel_rfl) rfl (by kernel_rfl) ?_ (fun F_15 b16 l_17 => ?_)
  · skip
    refine .cons (.mk 5 (eBottleBatch c2 p5 k6) [(1, (.pointer (some ⟨b3, 0, none⟩)))] rfl rfl rfl rfl (fun S hS hd => (.cons (hS _ _ rfl) (Sub.nil _))) (fun F_18 X l_19 => ?_)) ?_
    · skip
      refine .loadFA rfl Try.isAgg95 Try.sizeOf95 rfl (l_19.mem _ _ hb4) (vs := (cBottleBatch c2 p5 k6)) (by kernel_rfl) rfl ?_
      exact .fin1 (Fz.le_refl _)
    refine .cons (.mk 6 (.int .i64 w1) [(0, (.int .i64 w1))] rfl rfl rfl rfl (fun S hS hd => (.cons (hS _ _ rfl) (Sub.nil _))) (fun F_20 X l_21 => ?_)) ?_
    · skip
      refine .move rfl rfl ?_
      exact .fin1 (Fz.le_refl _)
    refine .cons (.mk 7 (eApiSpan r_13) [(5, (eBottleBatch c2 p5 k6)), (6, (.int .i64 w1))] rfl rfl rfl rfl (fun S hS hd => (.cons (hd.1 rfl rfl _ _ rfl) (.cons (hd.2.1 rfl rfl _ _ rfl) (Sub.nil _)))) (fun F_22 X l_23 => ?_)) ?_
    · skip
      refine .callK hx14 rfl Try.call56 rfl rfl rfl (c_bottle_batch_strength _ c2 p5 k6 (h7.mono l_23) w1) ?_
      rintro F_24 _ l_25 rfl
      exact .fin1 l_25
    refine .cons (.mk 8 (.int .i64 r_13.Hi) [(7, (eApiSpan r_13))] rfl rfl rfl rfl (fun S hS hd => (.cons (hd.1 rfl rfl _ _ rfl) (Sub.nil _))) (fun F_26 X l_27 => ?_)) ?_
    · skip
      refine .field rfl Try.underlying36 rfl Try.isAgg3 rfl rfl ?_
      exact .fin1 (Fz.le_refl _)
    refine .cons (.mk 9 (.int .i64 c8) [(2, (.pointer (some ⟨b9, 0, none⟩)))] rfl rfl rfl rfl (fun S hS hd => (.cons (hS _ _ rfl) (Sub.nil _))) (fun F_28 X l_29 => ?_)) ?_
    · skip
      refine .loadF rfl Try.isAgg3 rfl (l_29.mem _ _ hb10) rfl ?_
      exact .fin1 (Fz.le_refl _)
    refine .cons (.mk 10 (.bool (decide (r_13.Hi ≤ c8))) [(8, (.int .i64 r_13.Hi)), (9, (.int .i64 c8))] rfl rfl rfl rfl (fun S hS hd => (.cons (hd.1 rfl rfl _ _ rfl) (.cons (hd.2.1 rfl rfl _ _ rfl) (Sub.nil _)))) (fun F_30 X l_31 => ?_)) ?_
    · skip
      refine .leq rfl rfl rfl ?_
      exact .fin1 (Fz.le_refl _)
    exact .nil
  refine .assign rfl rfl ?_
  refine .nil ?_
  refine .code ?_
  exact .ret0 Try.results55 (.tmp rfl (.nil)) (i := 0) rfl l_17 rfl

noncomputable def m_bottle_Water_2 (w1 : Int) (c2 : BottleBatch) (c8 : Int) : Option Bool :=
  (m_bottle_batch_strength c2 w1).bind fun r_13 => some (decide (r_13.Lo < c8))
theorem c_bottle_Water_2 (F0 : Fz) (w1 : Int) (c2 : BottleBatch) (b3 : Nat) (p5 : Option Addr) (k6 : Nat) (hb4 : F0.mem b3 = some (.cells (cBottleBatch c2 p5 k6).toArray 95)) (h7 : RepSl 27 (Ex cApiDraught) F0 p5 k6 c2.Batch.Draughts) (c8 : Int) (b9 : Nat) (hb10 : F0.mem b9 = some (.cells [(.int .i64 c8)].toArray 3)) : CT0 Try.prog 57 [(.int .i64 w1), (.pointer (some ⟨b3, 0, none⟩)), (.pointer (some ⟨b9, 0, none⟩))].toArray F0 (m_bottle_Water_2 w1 c2 c8) (fun r _ v => v = (.bool r)) := by
  refine CT0.enter Try.func57 rfl Try.ntmps57 rfl fun r R => ?_
  unfold m_bottle_Water_2
  refine .seq ?_
  refine .region ?_
  refine .assign rfl rfl ?_
  refine .nil ?_
  refine .code ?_
  refine .seq ?_
  refine .keep (.cons (k := 0) rfl (.cons (k := 1) rfl (.cons (k := 2) rfl (.nil _)))) ?_
  refine .bind (fun r_13 hx14 => ?_)
  refine .draw ⟨1000000, 0, [], 0⟩ [(5, (eBottleBatch c2 p5 k6)), (6, (.int .i64 w1)), (7, (eApiSpan r_13)), (8, (.int .i64 r_13.Lo)), (9, (.int .i64 c8)), (10, (.bool (decide (r_13.Lo < c8))))] mixedOK (by kernel_rfl) (by kernel_rfl) rfl (by kernel_rfl) ?_ (fun F_15 b16 l_17 => ?_)
  · skip
    refine .cons (.mk 5 (eBottleBatch c2 p5 k6) [(1, (.pointer (some ⟨b3, 0, none⟩)))] rfl rfl rfl rfl (fun S hS hd => (.cons (hS _ _ rfl) (Sub.nil _))) (fun F_18 X l_19 => ?_)) ?_
    · skip
      refine .loadFA rfl Try.isAgg95 Try.sizeOf95 rfl (l_19.mem _ _ hb4) (vs := (cBottleBatch c2 p5 k6)) (by kernel_rfl) rfl ?_
      exact .fin1 (Fz.le_refl _)
    refine .cons (.mk 6 (.int .i64 w1) [(0, (.int .i64 w1))] rfl rfl rfl rfl (fun S hS hd => (.cons (hS _ _ rfl) (Sub.nil _))) (fun F_20 X l_21 => ?_)) ?_
    · skip
      refine .move rfl rfl ?_
      exact .fin1 (Fz.le_refl _)
    refine .cons (.mk 7 (eApiSpan r_13) [(5, (eBottleBatch c2 p5 k6)), (6, (.int .i64 w1))] rfl rfl rfl rfl (fun S hS hd => (.cons (hd.1 rfl rfl _ _ rfl) (.cons (hd.2.1 rfl rfl _ _ rfl) (Sub.nil _)))) (fun F_22 X l_23 => ?_)) ?_
    · skip
      refine .callK hx14 rfl Try.call56 rfl rfl rfl (c_bottle_batch_strength _ c2 p5 k6 (h7.mono l_23) w1) ?_
      rintro F_24 _ l_25 rfl
      exact .fin1 l_25
    refine .cons (.mk 8 (.int .i64 r_13.Lo) [(7, (eApiSpan r_13))] rfl rfl rfl rfl (fun S hS hd => (.cons (hd.1 rfl rfl _ _ rfl) (Sub.nil _))) (fun F_26 X l_27 => ?_)) ?_
    · skip
      refine .field rfl Try.underlying36 rfl Try.isAgg3 rfl rfl ?_
      exact .fin1 (Fz.le_refl _)
    refine .cons (.mk 9 (.int .i64 c8) [(2, (.pointer (some ⟨b9, 0, none⟩)))] rfl rfl rfl rfl (fun S hS hd => (.cons (hS _ _ rfl) (Sub.nil _))) (fun F_28 X l_29 => ?_)) ?_
    · skip
      refine .loadF rfl Try.isAgg3 rfl (l_29.mem _ _ hb10) rfl ?_
      exact .fin1 (Fz.le_refl _)
    refine .cons (.mk 10 (.bool (decide (r_13.Lo < c8))) [(8, (.int .i64 r_13.Lo)), (9, (.int .i64 c8))] rfl rfl rfl rfl (fun S hS hd => (.cons (hd.1 rfl rfl _ _ rfl) (.cons (hd.2.1 rfl rfl _ _ rfl) (Sub.nil _)))) (fun F_30 X l_31 => ?_)) ?_
    · skip
      refine .lss rfl rfl rfl ?_
      exact .fin1 (Fz.le_refl _)
    exact .nil
  refine .assign rfl rfl ?_
  refine .nil ?_
  refine .code ?_
  exact .ret0 Try.results57 (.tmp rfl (.nil)) (i := 0) rfl l_17 rfl

noncomputable def m_bottle_Water (b1 : ApiBatch) (least5 : Int) (most6 : Int) : Option (ApiSpan × Int) :=
  (m_bottle_open b1).bind fun r_22 => if (!r_22.2) then (some ((ApiSpan.mk 0 0), 1)) else (if ((!(m_bottle_isStrength least5)) || (!(m_bottle_isStrength most6))) then (some ((ApiSpan.mk 0 0), 2)) else ((m_bottle_first 0 17179869185 (fun x => m_bottle_Water_1 x r_22.1 most6)).bind fun r_43 => (m_bottle_first 0 17179869185 (fun x => m_bottle_Water_2 x r_22.1 least5)).bind fun r_47 => bindv (w64 (r_47 - 1)) fun hi48 => if (decide (r_43 > hi48)) then (some ((ApiSpan.mk 0 0), 4)) else (some ((ApiSpan.mk r_43 hi48), 0))))
theorem c_bottle_Water (F0 : Fz) (b1 : ApiBatch) (p2 : Option Addr) (k3 : Nat) (h4 : RepSl 27 (Ex cApiDraught) F0 p2 k3 b1.Draughts) (least5 : Int) (most6 : Int) : CT0 Try.prog 22 [(eApiBatch b1 p2 k3), (.int .i64 least5), (.int .i64 most6)].toArray F0 (m_bottle_Water b1 least5 most6) (fun r _ v => v = .tuple #[(eApiSpan r.1), (.int .i64 r.2)]) := by
  refine CT0.enter Try.func22 rfl Try.ntmps22 rfl fun r R => ?_
  unfold m_bottle_Water
  refine .seq ?_
  refine .region ?_
  refine .boxF (cs := (cApiBatch b1 p2 k3)) rfl rfl rfl (fun b7 F_8 l_9 hb10 => ?_)
  refine .boxF (cs := [(.int .i64 least5)]) rfl rfl rfl (fun b11 F_12 l_13 hb14 => ?_)
  refine .boxF (cs := [(.int .i64 most6)]) rfl rfl rfl (fun b15 F_16 l_17 hb18 => ?_)
  refine .alloc (cs := (cApiSpan (ApiSpan.mk 0 0))) rfl Try.zeroValue36 rfl (fun b19 => ?_)
  refine .assign rfl rfl ?_
  refine .nil ?_
  refine .code ?_
  refine .seq ?_
  refine .region ?_
  refine .loadFA rfl Try.isAgg38 Try.sizeOf38 rfl ((Fz.le_trans l_13 l_17).mem _ _ hb10) (vs := (cApiBatch b1 p2 k3)) (by kernel_rfl) rfl ?_
  refine .call0 rfl Try.call51 rfl rfl rfl (c_bottle_open _ b1 p2 k3 (h4.mono (Fz.le_trans l_9 (Fz.le_trans l_13 l_17)))) ?_
  rintro r_22 F_20 _ - l_21 ⟨p23, k24, rfl, h25⟩
  refine .move rfl rfl ?_
  refine .extract rfl rfl rfl ?_
  refine .extract rfl rfl rfl ?_
  refine .alloc (cs := (cBottleBatch (BottleBatch.mk (ApiBatch.mk ([]) 0 (ApiSpan.mk 0 0) false false) 0 0 0) none 0)) rfl Try.zeroValue95 rfl (fun b26 => ?_)
  refine .store (cs' := (cBottleBatch r_22.1 p23 k24)) Try.sizeOf95 rfl rfl rfl rfl (i := 0) rfl (Nat.le_of_ble_eq_true rfl) rfl (setMany_all (by rfl)) ?_
  refine .assign rfl rfl ?_
  refine .nil ?_
  refine .code ?_
  refine .seq ?_
  refine .block ?_
  refine .seq ?_
  refine .region ?_
  refine .move rfl rfl ?_
  refine .not rfl rfl ?_
  refine .assign rfl rfl ?_
  refine .nil ?_
  refine .code ?_
  refine .cond rfl (fun hb27 => ?_) (fun hb27 => ?_)
  · skip
    refine .seq ?_
    refine .region ?_
    refine .build (cs := (cApiSpan (ApiSpan.mk 0 0)).toArray) rfl Try.underlying36 Try.zeroValue36 (plApiSpan _ Try.underlying36) rfl rfl (by kernel_rfl) ?_
    refine .store (cs' := (cApiSpan (ApiSpan.mk 0 0))) Try.sizeOf36 rfl rfl rfl rfl (i := 1) rfl (Nat.le_of_ble_eq_true rfl) rfl (setMany_all (by rfl)) ?_
    refine .assign rfl rfl ?_
    refine .nil ?_
    refine .code ?_
    exact .ret0 Try.results22 (.agg rfl Try.isAgg36 Try.sizeOf36 (i := 1) rfl (vs' := (cApiSpan (ApiSpan.mk 0 0))) (by kernel_rfl) rfl (.tmp rfl (.nil))) (i := 2) rfl (Fz.le_trans l_9 (Fz.le_trans l_13 (Fz.le_trans l_17 l_21))) rfl
  · skip
    refine .seq ?_
    refine .region ?_
    refine .loadF rfl Try.isAgg3 rfl ((Fz.le_trans l_17 l_21).mem _ _ hb14) rfl ?_
    refine .callP rfl Try.call53 rfl rfl rfl (c_bottle_isStrength _ least5) ?_
    rintro F_28 _ l_29 rfl
    refine .not rfl rfl ?_
    refine .move rfl rfl ?_
    refine .orP (b := (!(m_bottle_isStrength least5))) (b' := (!(m_bottle_isStrength most6))) 4 29 (fun hb30 => ?_) (fun hb33 => ?_) (fun F_34 l_35 => ?_)
    · skip
      refine .onH hb30 rfl rfl ?_
      refine .loadF rfl Try.isAgg3 rfl ((Fz.le_trans l_21 l_29).mem _ _ hb18) rfl ?_
      refine .onH hb30 rfl rfl ?_
      refine .callP rfl Try.call53 rfl rfl rfl (c_bottle_isStrength _ most6) ?_
      rintro F_31 _ l_32 rfl
      refine .onH hb30 rfl rfl ?_
      refine .not rfl rfl ?_
      refine .pickFH hb30 rfl rfl rfl ?_
      exact .fin 4 rfl rfl (by kernel_rfl) l_32
    · skip
      refine .offH hb33 rfl rfl rfl ?_
      refine .offH hb33 rfl rfl rfl ?_
      refine .offH hb33 rfl rfl rfl ?_
      refine .pickTH hb33 rfl rfl rfl ?_
      exact .fin 4 rfl rfl (by kernel_rfl) (Fz.le_refl _)
    refine .assign rfl rfl ?_
    refine .nil ?_
    refine .code ?_
    refine .cond rfl (fun hb36 => ?_) (fun hb36 => ?_)
    · skip
      refine .seq ?_
      refine .region ?_
      refine .build (cs := (cApiSpan (ApiSpan.mk 0 0)).toArray) rfl Try.underlying36 Try.zeroValue36 (plApiSpan _ Try.underlying36) rfl rfl (by kernel_rfl) ?_
      refine .store (cs' := (cApiSpan (ApiSpan.mk 0 0))) Try.sizeOf36 rfl rfl rfl rfl (i := 1) rfl (Nat.le_of_ble_eq_true rfl) rfl (setMany_all (by rfl)) ?_
      refine .assign rfl rfl ?_
      refine .nil ?_
      refine .keep (.cons (k := 6) rfl (.cons (k := 7) rfl (.nil _))) ?_
      refine .code ?_
      exact .ret0 Try.results22 (.agg rfl Try.isAgg36 Try.sizeOf36 (i := 1) rfl (vs' := (cApiSpan (ApiSpan.mk 0 0))) (by kernel_rfl) rfl (.tmp rfl (.nil))) (i := 2) rfl (Fz.le_trans l_9 (Fz.le_trans l_13 (Fz.le_trans l_17 (Fz.le_trans l_21 (Fz.le_trans l_29 l_35))))) rfl
    · skip
      refine .skip ?_
      refine .block ?_
      refine .code ?_
      refine .seq ?_
      refine .region ?_
      refine .freeze 0 rfl (fun F_37 l_38 hb39 => ?_)
      refine .makeFunc rfl rfl ?_
      have hf40 : RepFn Try.prog F_37 55 [(.pointer (some ⟨b26, 0, none⟩)), (.pointer (some ⟨b15, 0, none⟩))] (fun x _ vs => vs = [(.int .i64 x)]) (fun r _ v => v = (.bool r)) (fun x => m_bottle_Water_1 x r_22.1 most6) := ⟨Try.call55, fun F' le' x vs hv => by obtain rfl := hv; exact c_bottle_Water_1 F' x r_22.1 b26 p23 k24 (le'.mem _ _ hb39) ((h25.mono (Fz.le_trans l_29 (Fz.le_trans l_35 l_38))).mono le') most6 b15 (le'.mem _ _ ((Fz.le_trans l_21 (Fz.le_trans l_29 (Fz.le_trans l_35 l_38))).mem _ _ hb18))⟩
      refine .call0 rfl Try.call54 rfl rfl rfl (c_bottle_first _ 0 17179869185 (fun x => m_bottle_Water_1 x r_22.1 most6) 55 ([(.pointer (some ⟨b26, 0, none⟩)), (.pointer (some ⟨b15, 0, none⟩))]) hf40) ?_
      rintro r_43 F_41 _ - l_42 rfl
      refine .assign rfl rfl ?_
      refine .nil ?_
      refine .keep (.cons (k := 4) rfl (.cons (k := 6) rfl (.cons (k := 8) rfl (.cons (k := 10) rfl (.nil _))))) ?_
      refine .code ?_
      refine .seq ?_
      refine .region ?_
      refine .makeFunc rfl rfl ?_
      have hf44 : RepFn Try.prog F_41 57 [(.pointer (some ⟨b26, 0, none⟩)), (.pointer (some ⟨b11, 0, none⟩))] (fun x _ vs => vs = [(.int .i64 x)]) (fun r _ v => v = (.bool r)) (fun x => m_bottle_Water_2 x r_22.1 least5) := ⟨Try.call57, fun F' le' x vs hv => by obtain rfl := hv; exact c_bottle_Water_2 F' x r_22.1 b26 p23 k24 (le'.mem _ _ (l_42.mem _ _ hb39)) ((h25.mono (Fz.le_trans l_29 (Fz.le_trans l_35 (Fz.le_trans l_38 l_42)))).mono le') least5 b11 (le'.mem _ _ ((Fz.le_trans l_17 (Fz.le_trans l_21 (Fz.le_trans l_29 (Fz.le_trans l_35 (Fz.le_trans l_38 l_42))))).mem _ _ hb14))⟩
      refine .call0 rfl Try.call54 rfl rfl rfl (c_bottle_first _ 0 17179869185 (fun x => m_bottle_Water_2 x r_22.1 least5) 57 ([(.pointer (some ⟨b26, 0, none⟩)), (.pointer (some ⟨b11, 0, none⟩))]) hf44) ?_
      rintro r_47 F_45 _ - l_46 rfl
      refine .sub rfl rfl rfl ?_
      refine .assignL rfl rfl (fun hi48 e49 => ?_)
      refine .nil ?_
      refine .code ?_
      refine .seq ?_
      refine .seq ?_
      refine .region ?_
      refine .move rfl rfl ?_
      refine .move rfl rfl ?_
      refine .gtr rfl rfl rfl ?_
      refine .nil ?_
      refine .code ?_
      refine .cond rfl (fun hb50 => ?_) (fun hb50 => ?_)
      · skip
        refine .seq ?_
        refine .region ?_
        refine .build (cs := (cApiSpan (ApiSpan.mk 0 0)).toArray) rfl Try.underlying36 Try.zeroValue36 (plApiSpan _ Try.underlying36) rfl rfl (by kernel_rfl) ?_
        refine .store (cs' := (cApiSpan (ApiSpan.mk 0 0))) Try.sizeOf36 rfl rfl rfl rfl (i := 0) rfl (Nat.le_of_ble_eq_true rfl) rfl (setMany_all (by rfl)) ?_
        refine .assign rfl rfl ?_
        refine .nil ?_
        refine .code ?_
        exact .ret0 Try.results22 (.agg rfl Try.isAgg36 Try.sizeOf36 (i := 0) rfl (vs' := (cApiSpan (ApiSpan.mk 0 0))) (by kernel_rfl) rfl (.tmp rfl (.nil))) (i := 1) rfl (Fz.le_trans l_9 (Fz.le_trans l_13 (Fz.le_trans l_17 (Fz.le_trans l_21 (Fz.le_trans l_29 (Fz.le_trans l_35 (Fz.le_trans l_38 (Fz.le_trans l_42 l_46)))))))) rfl
      · skip
        refine .skip ?_
        refine .code ?_
        refine .seq ?_
        refine .region ?_
        refine .move rfl rfl ?_
        refine .move rfl rfl ?_
        refine .build (cs := (cApiSpan (ApiSpan.mk r_43 hi48)).toArray) rfl Try.underlying36 Try.zeroValue36 (plApiSpan _ Try.underlying36) rfl rfl (by kernel_rfl) ?_
        refine .store (cs' := (cApiSpan (ApiSpan.mk r_43 hi48))) Try.sizeOf36 rfl rfl rfl rfl (i := 0) rfl (Nat.le_of_ble_eq_true rfl) rfl (setMany_all (by rfl)) ?_
        refine .assign rfl rfl ?_
        refine .nil ?_
        refine .code ?_
        exact .ret0 Try.results22 (.agg rfl Try.isAgg36 Try.sizeOf36 (i := 0) rfl (vs' := (cApiSpan (ApiSpan.mk r_43 hi48))) (by kernel_rfl) rfl (.tmp rfl (.nil))) (i := 1) rfl (Fz.le_trans l_9 (Fz.le_trans l_13 (Fz.le_trans l_17 (Fz.le_trans l_21 (Fz.le_trans l_29 (Fz.le_trans l_35 (Fz.le_trans l_38 (Fz.le_trans l_42 l_46)))))))) rfl

noncomputable def b_wormtubref12_Ints_1 (a1 : (List Int)) (b5 : (List Int)) (s10 : Int) : Option (Ctl (Int) ((Unit) ⊕ (Bool))) :=
  if (decide (s10 < (a1.length : Int))) then ((idxL a1 s10).bind fun x14 => (idxL b5 s10).bind fun x24 => if (x14 != x24) then (some (.done (.inr false))) else (bindv (w64 (s10 + 1)) fun i56 => some (.next i56))) else (some (.done (.inl ())))
noncomputable def m_wormtubref12_Ints (a1 : (List Int)) (b5 : (List Int)) : Option Bool :=
  if ((a1.length : Int) != (b5.length : Int)) then (some false) else ((loopM (b_wormtubref12_Ints_1 a1 b5) 0).bind fun b0 => match b0 with | .inl _b58 => (some true) | .inr b58 => (some b58))
theorem c_wormtubref12_Ints (F0 : Fz) (a1 : (List Int)) (p2 : Option Addr) (k3 : Nat) (h4 : RepSl 1 (Ex (cInt .i64)) F0 p2 k3 a1) (b5 : (List Int)) (p6 : Option Addr) (k7 : Nat) (h8 : RepSl 1 (Ex (cInt .i64)) F0 p6 k7 b5) : CT0 Try.prog 31 [(.slice p2 a1.length k3), (.slice p6 b5.length k7)].toArray F0 (m_wormtubref12_Ints a1 b5) (fun r _ v => v = (.bool r)) := by
  refine CT0.enter Try.func31 rfl Try.ntmps31 rfl fun r R => ?_
  unfold m_wormtubref12_Ints
  refine .seq ?_
  refine .region ?_
  refine .assign rfl rfl ?_
  refine .nil ?_
  refine .code ?_
  refine .seq ?_
  refine .seq ?_
  refine .region ?_
  refine .move rfl rfl ?_
  refine .lenS rfl rfl Try.underlying40 rfl ?_
  refine .move rfl rfl ?_
  refine .lenS rfl rfl Try.underlying40 rfl ?_
  refine .neq rfl rfl rfl ?_
  refine .nil ?_
  refine .code ?_
  refine .cond rfl (fun hb9 => ?_) (fun hb9 => ?_)
  · skip
    refine .seq ?_
    refine .region ?_
    refine .assign rfl rfl ?_
    refine .nil ?_
    refine .code ?_
    exact .ret0 Try.results31 (.tmp rfl (.nil)) (i := 0) rfl (Fz.le_refl _) rfl
  · skip
    refine .skip ?_
    refine .code ?_
    refine .seq ?_
    refine .seq ?_
    refine .region ?_
    refine .assign rfl rfl ?_
    refine .nil ?_
    refine .code ?_
    refine .block ?_
    refine .keep (.cons (k := 0) rfl (.cons (k := 1) rfl (.cons (k := 5) rfl (.nil _)))) ?_
    refine .loop (fun (s10 : Int) a w => ∃ (F_11 : Fz), F0 ≤ F_11 ∧ Hd 26 [] [(0, (.slice p2 a1.length k3)), (1, (.slice p6 b5.length k7)), (5, (.int .i64 s10))] F_11 [R] a w) (fun b0 e a w => match b0 with | .inl b58 => e = .exit 0 ∧ ∃ (F_59 : Fz), F0 ≤ F_59 ∧ Hd 26 [] [] F_59 [R] a w | .inr b58 => e = .ret ∧ ∃ (F_61 : Fz), F0 ≤ F_61 ∧ Hd 26 [] [(4, (.bool b58))] F_61 [R] a w) ?_ ?_ ?_
    · exact fun a w h => ⟨F0, (Fz.le_refl _), h.1.sub (.cons (k := 0) rfl (.cons (k := 1) rfl (.cons (k := 5) rfl (.nil _)))), h.2⟩
    · intro s10 ctl
      refine GC.ex (fun a w ⟨F_11, l_12, hA⟩ => ⟨_, hA, ?_⟩)
      unfold b_wormtubref12_Ints_1
      refine .seq ?_
      refine .seq ?_
      refine .region ?_
      refine .move rfl rfl ?_
      refine .move rfl rfl ?_
      refine .lenS rfl rfl Try.underlying40 rfl ?_
      refine .lss rfl rfl rfl ?_
      refine .nil ?_
      refine .code ?_
      refine .cond rfl (fun hb13 => ?_) (fun hb13 => ?_)
      · skip
        refine .skip ?_
        refine .code ?_
        refine .seq ?_
        refine .block ?_
        refine .seq ?_
        refine .keep (.cons (k := 0) rfl (.cons (k := 1) rfl (.cons (k := 5) rfl (.nil _)))) ?_
        refine .bind (fun x14 e20 => ?_)
        obtain ⟨b15, o16, T17, fr18, cs19, hm21, hv22, hq23⟩ := RepSl.idxE (h4.mono l_12) e20
        refine .bind (fun x24 e30 => ?_)
        obtain ⟨b25, o26, T27, fr28, cs29, hm31, hv32, hq33⟩ := RepSl.idxE (h8.mono l_12) e30
        refine .draw ⟨1000000, 0, [], 0⟩ [(17, (.slice p2 a1.length k3)), (18, (.int .i64 s10)), (19, (.pointer (some ⟨b15, o16, none⟩))), (20, (.int .i64 x14)), (21, (.slice p6 b5.length k7)), (22, (.int .i64 s10)), (23, (.pointer (some ⟨b25, o26, none⟩))), (24, (.int .i64 x24)), (25, (.bool (x14 != x24)))] mixedOK (by kernel_rfl) (by kernel_rfl) rfl (by kernel_rfl) ?_ (fun F_34 b35 l_36 => ?_)
        · skip
          refine .cons (.mk 17 (.slice p2 a1.length k3) [(0, (.slice p2 a1.length k3))] rfl rfl rfl rfl (fun S hS hd => (.cons (hS _ _ rfl) (Sub.nil _))) (fun F_37 X l_38 => ?_)) ?_
          · skip
            refine .move rfl rfl ?_
            exact .fin1 (Fz.le_refl _)
          refine .cons (.mk 18 (.int .i64 s10) [(5, (.int .i64 s10))] rfl rfl rfl rfl (fun S hS hd => (.cons (hS _ _ rfl) (Sub.nil _))) (fun F_39 X l_40 => ?_)) ?_
          · skip
            refine .move rfl rfl ?_
            exact .fin1 (Fz.le_refl _)
          refine .cons (.mk 19 (.pointer (some ⟨b15, o16, none⟩)) [(17, (.slice p2 a1.length k3)), (18, (.int .i64 s10))] rfl rfl rfl rfl (fun S hS hd => (.cons (hd.1 rfl rfl _ _ rfl) (.cons (hd.2.1 rfl rfl _ _ rfl) (Sub.nil _)))) (fun F_41 X l_42 => ?_)) ?_
          · skip
            refine .idxQ rfl Try.underlying40 Try.sizeOf3 hq23 rfl rfl ?_
            exact .fin1 (Fz.le_refl _)
          refine .cons (.mk 20 (.int .i64 x14) [(19, (.pointer (some ⟨b15, o16, none⟩)))] rfl rfl rfl rfl (fun S hS hd => (.cons (hd.1 rfl rfl _ _ rfl) (Sub.nil _))) (fun F_43 X l_44 => ?_)) ?_
          · skip
            refine .loadF rfl Try.isAgg3 rfl (l_44.mem _ _ hm21) (cell_of_take (k := 0) hv22 rfl) ?_
            exact .fin1 (Fz.le_refl _)
          refine .cons (.mk 21 (.slice p6 b5.length k7) [(1, (.slice p6 b5.length k7))] rfl rfl rfl rfl (fun S hS hd => (.cons (hS _ _ rfl) (Sub.nil _))) (fun F_45 X l_46 => ?_)) ?_
          · skip
            refine .move rfl rfl ?_
            exact .fin1 (Fz.le_refl _)
          refine .cons (.mk 22 (.int .i64 s10) [(5, (.int .i64 s10))] rfl rfl rfl rfl (fun S hS hd => (.cons (hS _ _ rfl) (Sub.nil _))) (fun F_47 X l_48 => ?_)) ?_
          · skip
            refine .move rfl rfl ?_
            exact .fin1 (Fz.le_refl _)
          refine .cons (.mk 23 (.pointer (some ⟨b25, o26, none⟩)) [(21, (.slice p6 b5.length k7)), (22, (.int .i64 s10))] rfl rfl rfl rfl (fun S hS hd => (.cons (hd.1 rfl rfl _ _ rfl) (.cons (hd.2.1 rfl rfl _ _ rfl) (Sub.nil _)))) (fun F_49 X l_50 => ?_)) ?_
          · skip
            refine .idxQ rfl Try.underlying40 Try.sizeOf3 hq33 rfl rfl ?_
            exact .fin1 (Fz.le_refl _)
          refine .cons (.mk 24 (.int .i64 x24) [(23, (.pointer (some ⟨b25, o26, none⟩)))] rfl rfl rfl rfl (fun S hS hd => (.cons (hd.1 rfl rfl _ _ rfl) (Sub.nil _))) (fun F_51 X l_52 => ?_)) ?_
          · skip
            refine .loadF rfl Try.isAgg3 rfl (l_52.mem _ _ hm31) (cell_of_take (k := 0) hv32 rfl) ?_
            exact .fin1 (Fz.le_refl _)
          refine .cons (.mk 25 (.bool (x14 != x24)) [(20, (.int .i64 x14)), (24, (.int .i64 x24))] rfl rfl rfl rfl (fun S hS hd => (.cons (hd.1 rfl rfl _ _ rfl) (.cons (hd.2.1 rfl rfl _ _ rfl) (Sub.nil _)))) (fun F_53 X l_54 => ?_)) ?_
          · skip
            refine .neq rfl rfl rfl ?_
            exact .fin1 (Fz.le_refl _)
          exact .nil
        refine .nil ?_
        refine .code ?_
        refine .cond rfl (fun hb55 => ?_) (fun hb55 => ?_)
        · skip
          refine .seq ?_
          refine .region ?_
          refine .assign rfl rfl ?_
          refine .nil ?_
          refine .code ?_
          refine .retQ (LPost.ret fun a w h => ⟨rfl, F_34, (Fz.le_trans l_12 l_36), h.1.sub (.cons (k := 4) rfl (.nil _)), h.2⟩)
        · skip
          refine .skip ?_
          refine .block ?_
          refine .code ?_
          refine .region ?_
          refine .move rfl rfl ?_
          refine .add rfl rfl rfl ?_
          refine .assignL rfl rfl (fun i56 e57 => ?_)
          refine .nil ?_
          exact .nil (LPost.norm fun a w h => ⟨F_34, (Fz.le_trans l_12 l_36), h.1.sub (.cons (k := 0) rfl (.cons (k := 1) rfl (.cons (k := 5) rfl (.nil _)))), h.2⟩)
      · skip
        refine .exitOut rfl (LPost.exit fun a w h => ⟨rfl, F_11, l_12, h.1.sub (.nil _), h.2⟩)
    · intro b58 hb0 hk e a w hD
      rcases b58 with b58 | b58
      · skip
        obtain ⟨rfl, F_59, l_60, hA⟩ := hD
        refine interp_exit rfl (GE.app ?_ hk a w hA)
        refine .code ?_
        refine .seq ?_
        refine .region ?_
        refine .assign rfl rfl ?_
        refine .nil ?_
        refine .code ?_
        exact .ret0 Try.results31 (.tmp rfl (.nil)) (i := 0) rfl l_60 rfl
      obtain ⟨rfl, F_61, l_62, hA⟩ := hD
      exact interp_ret ((ret_post0 Try.results31 (.tmp rfl (.nil)) (i := 0) rfl l_62 rfl) hk a w hA)

noncomputable def m_wormtublaw12_sample  : Option (ApiBatch × (List ApiStampEvent)) :=
  bindv (updN (arrOf [(ApiDraught.mk (ApiCask.mk 1 0 0 0 0 0 0 4000 (fun _ => 0) (fun _ => 0)) 600 (ApiSpan.mk 6000 6010)), (ApiDraught.mk (ApiCask.mk 2 0 0 0 0 0 0 3700 (fun _ => 0) (fun _ => 0)) 400 (ApiSpan.mk 5500 5500))] (ApiDraught.mk (ApiCask.mk 0 0 0 0 0 0 0 0 (fun _ => 0) (fun _ => 0)) 0 (ApiSpan.mk 0 0))) 0 ({ ((arrOf [(ApiDraught.mk (ApiCask.mk 1 0 0 0 0 0 0 4000 (fun _ => 0) (fun _ => 0)) 600 (ApiSpan.mk 6000 6010)), (ApiDraught.mk (ApiCask.mk 2 0 0 0 0 0 0 3700 (fun _ => 0) (fun _ => 0)) 400 (ApiSpan.mk 5500 5500))] (ApiDraught.mk (ApiCask.mk 0 0 0 0 0 0 0 0 (fun _ => 0) (fun _ => 0)) 0 (ApiSpan.mk 0 0))) 0) with From := { ((arrOf [(ApiDraught.mk (ApiCask.mk 1 0 0 0 0 0 0 4000 (fun _ => 0) (fun _ => 0)) 600 (ApiSpan.mk 6000 6010)), (ApiDraught.mk (ApiCask.mk 2 0 0 0 0 0 0 3700 (fun _ => 0) (fun _ => 0)) 400 (ApiSpan.mk 5500 5500))] (ApiDraught.mk (ApiCask.mk 0 0 0 0 0 0 0 0 (fun _ => 0) (fun _ => 0)) 0 (ApiSpan.mk 0 0))) 0).From with Woods := updN ((((arrOf [(ApiDraught.mk (ApiCask.mk 1 0 0 0 0 0 0 4000 (fun _ => 0) (fun _ => 0)) 600 (ApiSpan.mk 6000 6010)), (ApiDraught.mk (ApiCask.mk 2 0 0 0 0 0 0 3700 (fun _ => 0) (fun _ => 0)) 400 (ApiSpan.mk 5500 5500))] (ApiDraught.mk (ApiCask.mk 0 0 0 0 0 0 0 0 (fun _ => 0) (fun _ => 0)) 0 (ApiSpan.mk 0 0))) 0).From).Woods) 2 4000 } })) fun x4 => bindv (updN x4 0 ({ (x4 0) with From := { (x4 0).From with Places := (arrOf [3000, 1000, 0, 0, 0, 0, 0, 0] 0) } })) fun x6 => bindv (updN x6 1 ({ (x6 1) with From := { (x6 1).From with Woods := updN (((x6 1).From).Woods) 2 700 } })) fun x8 => bindv (updN x8 1 ({ (x8 1) with From := { (x8 1).From with Woods := updN (((x8 1).From).Woods) 3 3000 } })) fun x10 => bindv (updN x10 1 ({ (x10 1) with From := { (x10 1).From with Places := updN (((x10 1).From).Places) 0 3700 } })) fun x12 => some ({ (ApiBatch.mk (arrL 2 (arrOf [(ApiDraught.mk (ApiCask.mk 1 0 0 0 0 0 0 4000 (fun _ => 0) (fun _ => 0)) 600 (ApiSpan.mk 6000 6010)), (ApiDraught.mk (ApiCask.mk 2 0 0 0 0 0 0 3700 (fun _ => 0) (fun _ => 0)) 400 (ApiSpan.mk 5500 5500))] (ApiDraught.mk (ApiCask.mk 0 0 0 0 0 0 0 0 (fun _ => 0) (fun _ => 0)) 0 (ApiSpan.mk 0 0)))) 0 (ApiSpan.mk 0 10) false false) with Draughts := (arrL 2 x12) }, (arrL 4 (arrOf [(ApiStampEvent.mk 0 10 29 0), (ApiStampEvent.mk 1 12 15 3), (ApiStampEvent.mk 2 20 20 0), (ApiStampEvent.mk 0 30 31 0)] (ApiStampEvent.mk 0 0 0 0))))
theorem c_wormtublaw12_sample (F0 : Fz)  : CT0 Try.prog 32 [].toArray F0 (m_wormtublaw12_sample) (fun r F v => ∃ p0 k0 p1 k1, v = .tuple #[(eApiBatch r.1 p0 k0), (.slice p1 r.2.length k1)] ∧ RepSl 27 (Ex cApiDraught) F p0 k0 r.1.Draughts ∧ RepSl 4 (Ex cApiStampEvent) F p1 k1 r.2) := by
  refine CT0.enter Try.func32 rfl Try.ntmps32 rfl fun r R => ?_
  unfold m_wormtublaw12_sample
  refine .seq ?_
  refine .region ?_
  refine .alloc (cs := (cApiBatch (ApiBatch.mk ([]) 0 (ApiSpan.mk 0 0) false false) none 0)) rfl Try.zeroValue38 rfl (fun b1 => ?_)
  refine .assign rfl rfl ?_
  refine .nil ?_
  refine .code ?_
  refine .seq ?_
  refine .region ?_
  refine .build (cs := (cApiSpan (ApiSpan.mk 0 10)).toArray) rfl Try.underlying36 Try.zeroValue36 (plApiSpan _ Try.underlying36) rfl rfl (by kernel_rfl) ?_
  refine .build (cs := (cApiCask (ApiCask.mk 1 0 0 0 0 0 0 4000 (fun _ => 0) (fun _ => 0))).toArray) rfl Try.underlying49 Try.zeroValue49 (plApiCask _ Try.underlying49) rfl rfl (by kernel_rfl) ?_
  refine .build (cs := (cApiSpan (ApiSpan.mk 6000 6010)).toArray) rfl Try.underlying36 Try.zeroValue36 (plApiSpan _ Try.underlying36) rfl rfl (by kernel_rfl) ?_
  refine .build (cs := (cApiDraught (ApiDraught.mk (ApiCask.mk 1 0 0 0 0 0 0 4000 (fun _ => 0) (fun _ => 0)) 600 (ApiSpan.mk 6000 6010))).toArray) rfl Try.underlying51 Try.zeroValue51 (plApiDraught _ Try.underlying51) rfl rfl (by kernel_rfl) ?_
  refine .build (cs := (cApiCask (ApiCask.mk 2 0 0 0 0 0 0 3700 (fun _ => 0) (fun _ => 0))).toArray) rfl Try.underlying49 Try.zeroValue49 (plApiCask _ Try.underlying49) rfl rfl (by kernel_rfl) ?_
  refine .build (cs := (cApiSpan (ApiSpan.mk 5500 5500)).toArray) rfl Try.underlying36 Try.zeroValue36 (plApiSpan _ Try.underlying36) rfl rfl (by kernel_rfl) ?_
  refine .build (cs := (cApiDraught (ApiDraught.mk (ApiCask.mk 2 0 0 0 0 0 0 3700 (fun _ => 0) (fun _ => 0)) 400 (ApiSpan.mk 5500 5500))).toArray) rfl Try.underlying51 Try.zeroValue51 (plApiDraught _ Try.underlying51) rfl rfl (by kernel_rfl) ?_
  refine .sliceRow (cs := ((cArr 2 cApiDraught) (arrOf [(ApiDraught.mk (ApiCask.mk 1 0 0 0 0 0 0 4000 (fun _ => 0) (fun _ => 0)) 600 (ApiSpan.mk 6000 6010)), (ApiDraught.mk (ApiCask.mk 2 0 0 0 0 0 0 3700 (fun _ => 0) (fun _ => 0)) 400 (ApiSpan.mk 5500 5500))] (ApiDraught.mk (ApiCask.mk 0 0 0 0 0 0 0 0 (fun _ => 0) (fun _ => 0)) 0 (ApiSpan.mk 0 0))))) (zc := [.int .i64 (ApiDraught.mk (ApiCask.mk 0 0 0 0 0 0 0 0 (fun _ => 0) (fun _ => 0)) 0 (ApiSpan.mk 0 0)).From.Number, .int .i64 (ApiDraught.mk (ApiCask.mk 0 0 0 0 0 0 0 0 (fun _ => 0) (fun _ => 0)) 0 (ApiSpan.mk 0 0)).From.Wood, .int .i64 (ApiDraught.mk (ApiCask.mk 0 0 0 0 0 0 0 0 (fun _ => 0) (fun _ => 0)) 0 (ApiSpan.mk 0 0)).From.Place, .int .i64 (ApiDraught.mk (ApiCask.mk 0 0 0 0 0 0 0 0 (fun _ => 0) (fun _ => 0)) 0 (ApiSpan.mk 0 0)).From.Room, .int .i64 (ApiDraught.mk (ApiCask.mk 0 0 0 0 0 0 0 0 (fun _ => 0) (fun _ => 0)) 0 (ApiSpan.mk 0 0)).From.Owner, .int .i64 (ApiDraught.mk (ApiCask.mk 0 0 0 0 0 0 0 0 (fun _ => 0) (fun _ => 0)) 0 (ApiSpan.mk 0 0)).From.Creditor, .int .i64 (ApiDraught.mk (ApiCask.mk 0 0 0 0 0 0 0 0 (fun _ => 0) (fun _ => 0)) 0 (ApiSpan.mk 0 0)).From.Amount, .int .i64 (ApiDraught.mk (ApiCask.mk 0 0 0 0 0 0 0 0 (fun _ => 0) (fun _ => 0)) 0 (ApiSpan.mk 0 0)).From.Age, .int .i64 ((ApiDraught.mk (ApiCask.mk 0 0 0 0 0 0 0 0 (fun _ => 0) (fun _ => 0)) 0 (ApiSpan.mk 0 0)).From.Woods 0), .int .i64 ((ApiDraught.mk (ApiCask.mk 0 0 0 0 0 0 0 0 (fun _ => 0) (fun _ => 0)) 0 (ApiSpan.mk 0 0)).From.Woods 1), .int .i64 ((ApiDraught.mk (ApiCask.mk 0 0 0 0 0 0 0 0 (fun _ => 0) (fun _ => 0)) 0 (ApiSpan.mk 0 0)).From.Woods 2), .int .i64 ((ApiDraught.mk (ApiCask.mk 0 0 0 0 0 0 0 0 (fun _ => 0) (fun _ => 0)) 0 (ApiSpan.mk 0 0)).From.Woods 3), .int .i64 ((ApiDraught.mk (ApiCask.mk 0 0 0 0 0 0 0 0 (fun _ => 0) (fun _ => 0)) 0 (ApiSpan.mk 0 0)).From.Woods 4), .int .i64 ((ApiDraught.mk (ApiCask.mk 0 0 0 0 0 0 0 0 (fun _ => 0) (fun _ => 0)) 0 (ApiSpan.mk 0 0)).From.Woods 5), .int .i64 ((ApiDraught.mk (ApiCask.mk 0 0 0 0 0 0 0 0 (fun _ => 0) (fun _ => 0)) 0 (ApiSpan.mk 0 0)).From.Woods 6), .int .i64 ((ApiDraught.mk (ApiCask.mk 0 0 0 0 0 0 0 0 (fun _ => 0) (fun _ => 0)) 0 (ApiSpan.mk 0 0)).From.Woods 7), .int .i64 ((ApiDraught.mk (ApiCask.mk 0 0 0 0 0 0 0 0 (fun _ => 0) (fun _ => 0)) 0 (ApiSpan.mk 0 0)).From.Places 0), .int .i64 ((ApiDraught.mk (ApiCask.mk 0 0 0 0 0 0 0 0 (fun _ => 0) (fun _ => 0)) 0 (ApiSpan.mk 0 0)).From.Places 1), .int .i64 ((ApiDraught.mk (ApiCask.mk 0 0 0 0 0 0 0 0 (fun _ => 0) (fun _ => 0)) 0 (ApiSpan.mk 0 0)).From.Places 2), .int .i64 ((ApiDraught.mk (ApiCask.mk 0 0 0 0 0 0 0 0 (fun _ => 0) (fun _ => 0)) 0 (ApiSpan.mk 0 0)).From.Places 3), .int .i64 ((ApiDraught.mk (ApiCask.mk 0 0 0 0 0 0 0 0 (fun _ => 0) (fun _ => 0)) 0 (ApiSpan.mk 0 0)).From.Places 4), .int .i64 ((ApiDraught.mk (ApiCask.mk 0 0 0 0 0 0 0 0 (fun _ => 0) (fun _ => 0)) 0 (ApiSpan.mk 0 0)).From.Places 5), .int .i64 ((ApiDraught.mk (ApiCask.mk 0 0 0 0 0 0 0 0 (fun _ => 0) (fun _ => 0)) 0 (ApiSpan.mk 0 0)).From.Places 6), .int .i64 ((ApiDraught.mk (ApiCask.mk 0 0 0 0 0 0 0 0 (fun _ => 0) (fun _ => 0)) 0 (ApiSpan.mk 0 0)).From.Places 7), .int .i64 (ApiDraught.mk (ApiCask.mk 0 0 0 0 0 0 0 0 (fun _ => 0) (fun _ => 0)) 0 (ApiSpan.mk 0 0)).Amount, .int .i64 (ApiDraught.mk (ApiCask.mk 0 0 0 0 0 0 0 0 (fun _ => 0) (fun _ => 0)) 0 (ApiSpan.mk 0 0)).Strength.Lo, .int .i64 (ApiDraught.mk (ApiCask.mk 0 0 0 0 0 0 0 0 (fun _ => 0) (fun _ => 0)) 0 (ApiSpan.mk 0 0)).Strength.Hi, .int .i64 (ApiDraught.mk (ApiCask.mk 0 0 0 0 0 0 0 0 (fun _ => 0) (fun _ => 0)) 0 (ApiSpan.mk 0 0)).From.Number, .int .i64 (ApiDraught.mk (ApiCask.mk 0 0 0 0 0 0 0 0 (fun _ => 0) (fun _ => 0)) 0 (ApiSpan.mk 0 0)).From.Wood, .int .i64 (ApiDraught.mk (ApiCask.mk 0 0 0 0 0 0 0 0 (fun _ => 0) (fun _ => 0)) 0 (ApiSpan.mk 0 0)).From.Place, .int .i64 (ApiDraught.mk (ApiCask.mk 0 0 0 0 0 0 0 0 (fun _ => 0) (fun _ => 0)) 0 (ApiSpan.mk 0 0)).From.Room, .int .i64 (ApiDraught.mk (ApiCask.mk 0 0 0 0 0 0 0 0 (fun _ => 0) (fun _ => 0)) 0 (ApiSpan.mk 0 0)).From.Owner, .int .i64 (ApiDraught.mk (ApiCask.mk 0 0 0 0 0 0 0 0 (fun _ => 0) (fun _ => 0)) 0 (ApiSpan.mk 0 0)).From.Creditor, .int .i64 (ApiDraught.mk (ApiCask.mk 0 0 0 0 0 0 0 0 (fun _ => 0) (fun _ => 0)) 0 (ApiSpan.mk 0 0)).From.Amount, .int .i64 (ApiDraught.mk (ApiCask.mk 0 0 0 0 0 0 0 0 (fun _ => 0) (fun _ => 0)) 0 (ApiSpan.mk 0 0)).From.Age, .int .i64 ((ApiDraught.mk (ApiCask.mk 0 0 0 0 0 0 0 0 (fun _ => 0) (fun _ => 0)) 0 (ApiSpan.mk 0 0)).From.Woods 0), .int .i64 ((ApiDraught.mk (ApiCask.mk 0 0 0 0 0 0 0 0 (fun _ => 0) (fun _ => 0)) 0 (ApiSpan.mk 0 0)).From.Woods 1), .int .i64 ((ApiDraught.mk (ApiCask.mk 0 0 0 0 0 0 0 0 (fun _ => 0) (fun _ => 0)) 0 (ApiSpan.mk 0 0)).From.Woods 2), .int .i64 ((ApiDraught.mk (ApiCask.mk 0 0 0 0 0 0 0 0 (fun _ => 0) (fun _ => 0)) 0 (ApiSpan.mk 0 0)).From.Woods 3), .int .i64 ((ApiDraught.mk (ApiCask.mk 0 0 0 0 0 0 0 0 (fun _ => 0) (fun _ => 0)) 0 (ApiSpan.mk 0 0)).From.Woods 4), .int .i64 ((ApiDraught.mk (ApiCask.mk 0 0 0 0 0 0 0 0 (fun _ => 0) (fun _ => 0)) 0 (ApiSpan.mk 0 0)).From.Woods 5), .int .i64 ((ApiDraught.mk (ApiCask.mk 0 0 0 0 0 0 0 0 (fun _ => 0) (fun _ => 0)) 0 (ApiSpan.mk 0 0)).From.Woods 6), .int .i64 ((ApiDraught.mk (ApiCask.mk 0 0 0 0 0 0 0 0 (fun _ => 0) (fun _ => 0)) 0 (ApiSpan.mk 0 0)).From.Woods 7), .int .i64 ((ApiDraught.mk (ApiCask.mk 0 0 0 0 0 0 0 0 (fun _ => 0) (fun _ => 0)) 0 (ApiSpan.mk 0 0)).From.Places 0), .int .i64 ((ApiDraught.mk (ApiCask.mk 0 0 0 0 0 0 0 0 (fun _ => 0) (fun _ => 0)) 0 (ApiSpan.mk 0 0)).From.Places 1), .int .i64 ((ApiDraught.mk (ApiCask.mk 0 0 0 0 0 0 0 0 (fun _ => 0) (fun _ => 0)) 0 (ApiSpan.mk 0 0)).From.Places 2), .int .i64 ((ApiDraught.mk (ApiCask.mk 0 0 0 0 0 0 0 0 (fun _ => 0) (fun _ => 0)) 0 (ApiSpan.mk 0 0)).From.Places 3), .int .i64 ((ApiDraught.mk (ApiCask.mk 0 0 0 0 0 0 0 0 (fun _ => 0) (fun _ => 0)) 0 (ApiSpan.mk 0 0)).From.Places 4), .int .i64 ((ApiDraught.mk (ApiCask.mk 0 0 0 0 0 0 0 0 (fun _ => 0) (fun _ => 0)) 0 (ApiSpan.mk 0 0)).From.Places 5), .int .i64 ((ApiDraught.mk (ApiCask.mk 0 0 0 0 0 0 0 0 (fun _ => 0) (fun _ => 0)) 0 (ApiSpan.mk 0 0)).From.Places 6), .int .i64 ((ApiDraught.mk (ApiCask.mk 0 0 0 0 0 0 0 0 (fun _ => 0) (fun _ => 0)) 0 (ApiSpan.mk 0 0)).From.Places 7), .int .i64 (ApiDraught.mk (ApiCask.mk 0 0 0 0 0 0 0 0 (fun _ => 0) (fun _ => 0)) 0 (ApiSpan.mk 0 0)).Amount, .int .i64 (ApiDraught.mk (ApiCask.mk 0 0 0 0 0 0 0 0 (fun _ => 0) (fun _ => 0)) 0 (ApiSpan.mk 0 0)).Strength.Lo, .int .i64 (ApiDraught.mk (ApiCask.mk 0 0 0 0 0 0 0 0 (fun _ => 0) (fun _ => 0)) 0 (ApiSpan.mk 0 0)).Strength.Hi]) rfl Try.underlying34 Try.sizeOf51 Try.zeroValue51 rfl rfl rfl (by kernel_rfl) (by kernel_rfl) (fun b2 => ?_)
  refine .build (cs := (cApiBatch (ApiBatch.mk (arrL 2 (arrOf [(ApiDraught.mk (ApiCask.mk 1 0 0 0 0 0 0 4000 (fun _ => 0) (fun _ => 0)) 600 (ApiSpan.mk 6000 6010)), (ApiDraught.mk (ApiCask.mk 2 0 0 0 0 0 0 3700 (fun _ => 0) (fun _ => 0)) 400 (ApiSpan.mk 5500 5500))] (ApiDraught.mk (ApiCask.mk 0 0 0 0 0 0 0 0 (fun _ => 0) (fun _ => 0)) 0 (ApiSpan.mk 0 0)))) 0 (ApiSpan.mk 0 10) false false) (some ⟨b2, 0, none⟩) 2).toArray) rfl Try.underlying38 Try.zeroValue38 (plApiBatch _ Try.underlying38) rfl rfl (by kernel_rfl) ?_
  refine .alloc (cs := (cApiBatch (ApiBatch.mk ([]) 0 (ApiSpan.mk 0 0) false false) none 0)) rfl Try.zeroValue38 rfl (fun b3 => ?_)
  refine .store (cs' := (cApiBatch (ApiBatch.mk (arrL 2 (arrOf [(ApiDraught.mk (ApiCask.mk 1 0 0 0 0 0 0 4000 (fun _ => 0) (fun _ => 0)) 600 (ApiSpan.mk 6000 6010)), (ApiDraught.mk (ApiCask.mk 2 0 0 0 0 0 0 3700 (fun _ => 0) (fun _ => 0)) 400 (ApiSpan.mk 5500 5500))] (ApiDraught.mk (ApiCask.mk 0 0 0 0 0 0 0 0 (fun _ => 0) (fun _ => 0)) 0 (ApiSpan.mk 0 0)))) 0 (ApiSpan.mk 0 10) false false) (some ⟨b2, 0, none⟩) 2)) Try.sizeOf38 rfl rfl rfl rfl (i := 0) rfl (Nat.le_of_ble_eq_true rfl) rfl (setMany_all (by rfl)) ?_
  refine .nil ?_
  refine .code ?_
  refine .seq ?_
  refine .region ?_
  refine .fieldAddr rfl Try.underlying38 rfl Try.sizeOf34 rfl ?_
  refine .loadO rfl Try.isAgg34 rfl (i := 0) rfl rfl ?_
  refine .indexAddrS rfl Try.underlying34 Try.sizeOf51 rfl rfl (j := 0) rfl ?_
  refine .fieldAddr rfl Try.underlying51 rfl Try.sizeOf49 rfl ?_
  refine .fieldAddr rfl Try.underlying49 rfl Try.sizeOf47 rfl ?_
  refine .indexAddrA rfl Try.underlying47 Try.sizeOf3 rfl rfl (j := 2) rfl ?_
  refine .letv (fun x4 e5 => ?_)
  refine .store (cs' := ((cArr 2 cApiDraught) x4)) Try.sizeOf3 rfl rfl rfl rfl (i := 1) rfl (Nat.le_of_ble_eq_true rfl) rfl (by rw [e5]; kernel_rfl) ?_
  refine .nil ?_
  refine .code ?_
  refine .seq ?_
  refine .region ?_
  refine .fieldAddr rfl Try.underlying38 rfl Try.sizeOf34 rfl ?_
  refine .loadO rfl Try.isAgg34 rfl (i := 0) rfl rfl ?_
  refine .buildA (cs := ((cArr 8 (cInt .i64)) (arrOf [3000, 1000, 0, 0, 0, 0, 0, 0] 0)).toArray) rfl Try.underlying47 Try.zeroValue47 Try.sizeOf3 rfl rfl (by kernel_rfl) ?_
  refine .indexAddrS rfl Try.underlying34 Try.sizeOf51 rfl rfl (j := 0) rfl ?_
  refine .fieldAddr rfl Try.underlying51 rfl Try.sizeOf49 rfl ?_
  refine .fieldAddr rfl Try.underlying49 rfl Try.sizeOf47 rfl ?_
  refine .letv (fun x6 e7 => ?_)
  refine .store (cs' := ((cArr 2 cApiDraught) x6)) Try.sizeOf47 rfl rfl rfl rfl (i := 1) rfl (Nat.le_of_ble_eq_true rfl) rfl (by rw [e7]; kernel_rfl) ?_
  refine .nil ?_
  refine .code ?_
  refine .seq ?_
  refine .region ?_
  refine .fieldAddr rfl Try.underlying38 rfl Try.sizeOf34 rfl ?_
  refine .loadO rfl Try.isAgg34 rfl (i := 0) rfl rfl ?_
  refine .indexAddrS rfl Try.underlying34 Try.sizeOf51 rfl rfl (j := 1) rfl ?_
  refine .fieldAddr rfl Try.underlying51 rfl Try.sizeOf49 rfl ?_
  refine .fieldAddr rfl Try.underlying49 rfl Try.sizeOf47 rfl ?_
  refine .indexAddrA rfl Try.underlying47 Try.sizeOf3 rfl rfl (j := 2) rfl ?_
  refine .letv (fun x8 e9 => ?_)
  refine .store (cs' := ((cArr 2 cApiDraught) x8)) Try.sizeOf3 rfl rfl rfl rfl (i := 1) rfl (Nat.le_of_ble_eq_true rfl) rfl (by rw [e9]; kernel_rfl) ?_
  refine .nil ?_
  refine .keep (.cons (k := 0) rfl (.cons (k := 2) rfl (.nil _))) ?_
  refine .code ?_
  refine .seq ?_
  refine .region ?_
  refine .fieldAddr rfl Try.underlying38 rfl Try.sizeOf34 rfl ?_
  refine .loadO rfl Try.isAgg34 rfl (i := 0) rfl rfl ?_
  refine .indexAddrS rfl Try.underlying34 Try.sizeOf51 rfl rfl (j := 1) rfl ?_
  refine .fieldAddr rfl Try.underlying51 rfl Try.sizeOf49 rfl ?_
  refine .fieldAddr rfl Try.underlying49 rfl Try.sizeOf47 rfl ?_
  refine .indexAddrA rfl Try.underlying47 Try.sizeOf3 rfl rfl (j := 3) rfl ?_
  refine .letv (fun x10 e11 => ?_)
  refine .store (cs' := ((cArr 2 cApiDraught) x10)) Try.sizeOf3 rfl rfl rfl rfl (i := 1) rfl (Nat.le_of_ble_eq_true rfl) rfl (by rw [e11]; kernel_rfl) ?_
  refine .nil ?_
  refine .code ?_
  refine .seq ?_
  refine .region ?_
  refine .fieldAddr rfl Try.underlying38 rfl Try.sizeOf34 rfl ?_
  refine .loadO rfl Try.isAgg34 rfl (i := 0) rfl rfl ?_
  refine .indexAddrS rfl Try.underlying34 Try.sizeOf51 rfl rfl (j := 1) rfl ?_
  refine .fieldAddr rfl Try.underlying51 rfl Try.sizeOf49 rfl ?_
  refine .fieldAddr rfl Try.underlying49 rfl Try.sizeOf47 rfl ?_
  refine .indexAddrA rfl Try.underlying47 Try.sizeOf3 rfl rfl (j := 0) rfl ?_
  refine .letv (fun x12 e13 => ?_)
  refine .store (cs' := ((cArr 2 cApiDraught) x12)) Try.sizeOf3 rfl rfl rfl rfl (i := 1) rfl (Nat.le_of_ble_eq_true rfl) rfl (by rw [e13]; kernel_rfl) ?_
  refine .nil ?_
  refine .code ?_
  refine .seq ?_
  refine .region ?_
  refine .loadOA rfl Try.isAgg38 Try.sizeOf38 rfl (i := 0) rfl (vs := (cApiBatch (ApiBatch.mk (arrL 2 (arrOf [(ApiDraught.mk (ApiCask.mk 1 0 0 0 0 0 0 4000 (fun _ => 0) (fun _ => 0)) 600 (ApiSpan.mk 6000 6010)), (ApiDraught.mk (ApiCask.mk 2 0 0 0 0 0 0 3700 (fun _ => 0) (fun _ => 0)) 400 (ApiSpan.mk 5500 5500))] (ApiDraught.mk (ApiCask.mk 0 0 0 0 0 0 0 0 (fun _ => 0) (fun _ => 0)) 0 (ApiSpan.mk 0 0)))) 0 (ApiSpan.mk 0 10) false false) (some ⟨b2, 0, none⟩) 2)) (by kernel_rfl) rfl ?_
  refine .freeze 1 rfl (fun F_14 l_15 hb16 => ?_)
  have h17 : RepSl 27 (Ex cApiDraught) F_14 (some ⟨b2, 0, none⟩) 2 (arrL 2 x12) := RepSl.ofArr (cs := ((cArr 2 cApiDraught) x12)) hb16 (arrL_len _ _) rfl (arrL_all (allLt2 (p := fun j => ∀ F', F_14 ≤ F' → ((((cArr 2 cApiDraught) x12)).drop (0 + j * 27)).take 27 = cApiDraught (x12 j)) (fun _ _ => rfl) (fun _ _ => rfl)))
  refine .build (cs := (cApiStampEvent (ApiStampEvent.mk 0 10 29 0)).toArray) rfl Try.underlying70 Try.zeroValue70 (plApiStampEvent _ Try.underlying70) rfl rfl (by kernel_rfl) ?_
  refine .build (cs := (cApiStampEvent (ApiStampEvent.mk 1 12 15 3)).toArray) rfl Try.underlying70 Try.zeroValue70 (plApiStampEvent _ Try.underlying70) rfl rfl (by kernel_rfl) ?_
  refine .build (cs := (cApiStampEvent (ApiStampEvent.mk 2 20 20 0)).toArray) rfl Try.underlying70 Try.zeroValue70 (plApiStampEvent _ Try.underlying70) rfl rfl (by kernel_rfl) ?_
  refine .build (cs := (cApiStampEvent (ApiStampEvent.mk 0 30 31 0)).toArray) rfl Try.underlying70 Try.zeroValue70 (plApiStampEvent _ Try.underlying70) rfl rfl (by kernel_rfl) ?_
  refine .sliceRow (cs := ((cArr 4 cApiStampEvent) (arrOf [(ApiStampEvent.mk 0 10 29 0), (ApiStampEvent.mk 1 12 15 3), (ApiStampEvent.mk 2 20 20 0), (ApiStampEvent.mk 0 30 31 0)] (ApiStampEvent.mk 0 0 0 0)))) (zc := [.int .i64 (ApiStampEvent.mk 0 0 0 0).Kind, .int .i64 (ApiStampEvent.mk 0 0 0 0).First, .int .i64 (ApiStampEvent.mk 0 0 0 0).Last, .int .i64 (ApiStampEvent.mk 0 0 0 0).Batch, .int .i64 (ApiStampEvent.mk 0 0 0 0).Kind, .int .i64 (ApiStampEvent.mk 0 0 0 0).First, .int .i64 (ApiStampEvent.mk 0 0 0 0).Last, .int .i64 (ApiStampEvent.mk 0 0 0 0).Batch, .int .i64 (ApiStampEvent.mk 0 0 0 0).Kind, .int .i64 (ApiStampEvent.mk 0 0 0 0).First, .int .i64 (ApiStampEvent.mk 0 0 0 0).Last, .int .i64 (ApiStampEvent.mk 0 0 0 0).Batch, .int .i64 (ApiStampEvent.mk 0 0 0 0).Kind, .int .i64 (ApiStampEvent.mk 0 0 0 0).First, .int .i64 (ApiStampEvent.mk 0 0 0 0).Last, .int .i64 (ApiStampEvent.mk 0 0 0 0).Batch]) rfl Try.underlying22 Try.sizeOf70 Try.zeroValue70 rfl rfl rfl (by kernel_rfl) (by kernel_rfl) (fun b18 => ?_)
  refine .store (cs' := (cApiBatch ({ (ApiBatch.mk (arrL 2 (arrOf [(ApiDraught.mk (ApiCask.mk 1 0 0 0 0 0 0 4000 (fun _ => 0) (fun _ => 0)) 600 (ApiSpan.mk 6000 6010)), (ApiDraught.mk (ApiCask.mk 2 0 0 0 0 0 0 3700 (fun _ => 0) (fun _ => 0)) 400 (ApiSpan.mk 5500 5500))] (ApiDraught.mk (ApiCask.mk 0 0 0 0 0 0 0 0 (fun _ => 0) (fun _ => 0)) 0 (ApiSpan.mk 0 0)))) 0 (ApiSpan.mk 0 10) false false) with Draughts := (arrL 2 x12) }) (some ⟨b2, 0, none⟩) 2)) Try.sizeOf38 rfl rfl rfl rfl (i := 2) rfl (Nat.le_of_ble_eq_true rfl) rfl (setMany_all (by rfl)) ?_
  refine .assign rfl rfl ?_
  refine .nil ?_
  refine .code ?_
  refine .freeze 0 rfl (fun F_19 l_20 hb21 => ?_)
  have h22 : RepSl 4 (Ex cApiStampEvent) F_19 (some ⟨b18, 0, none⟩) 4 (arrL 4 (arrOf [(ApiStampEvent.mk 0 10 29 0), (ApiStampEvent.mk 1 12 15 3), (ApiStampEvent.mk 2 20 20 0), (ApiStampEvent.mk 0 30 31 0)] (ApiStampEvent.mk 0 0 0 0))) := RepSl.ofArr (cs := ((cArr 4 cApiStampEvent) (arrOf [(ApiStampEvent.mk 0 10 29 0), (ApiStampEvent.mk 1 12 15 3), (ApiStampEvent.mk 2 20 20 0), (ApiStampEvent.mk 0 30 31 0)] (ApiStampEvent.mk 0 0 0 0)))) hb21 (arrL_len _ _) rfl (arrL_all (allLt4 (p := fun j => ∀ F', F_19 ≤ F' → ((((cArr 4 cApiStampEvent) (arrOf [(ApiStampEvent.mk 0 10 29 0), (ApiStampEvent.mk 1 12 15 3), (ApiStampEvent.mk 2 20 20 0), (ApiStampEvent.mk 0 30 31 0)] (ApiStampEvent.mk 0 0 0 0)))).drop (0 + j * 4)).take 4 = cApiStampEvent ((arrOf [(ApiStampEvent.mk 0 10 29 0), (ApiStampEvent.mk 1 12 15 3), (ApiStampEvent.mk 2 20 20 0), (ApiStampEvent.mk 0 30 31 0)] (ApiStampEvent.mk 0 0 0 0)) j)) (fun _ _ => rfl) (fun _ _ => rfl) (fun _ _ => rfl) (fun _ _ => rfl)))
  exact .ret0 Try.results32 (.agg rfl Try.isAgg38 Try.sizeOf38 (i := 1) rfl (vs' := (cApiBatch ({ (ApiBatch.mk (arrL 2 (arrOf [(ApiDraught.mk (ApiCask.mk 1 0 0 0 0 0 0 4000 (fun _ => 0) (fun _ => 0)) 600 (ApiSpan.mk 6000 6010)), (ApiDraught.mk (ApiCask.mk 2 0 0 0 0 0 0 3700 (fun _ => 0) (fun _ => 0)) 400 (ApiSpan.mk 5500 5500))] (ApiDraught.mk (ApiCask.mk 0 0 0 0 0 0 0 0 (fun _ => 0) (fun _ => 0)) 0 (ApiSpan.mk 0 0)))) 0 (ApiSpan.mk 0 10) false false) with Draughts := (arrL 2 x12) }) (some ⟨b2, 0, none⟩) 2)) (by kernel_rfl) rfl (.tmp rfl (.nil))) (i := 2) rfl (Fz.le_trans l_15 l_20) ⟨(some ⟨b2, 0, none⟩), 2, (some ⟨b18, 0, none⟩), 4, rfl, (h17.mono l_20), h22⟩

noncomputable def m_wormtublaw12_awake  : Option Bool :=
  (m_wormtublaw12_sample).bind fun r_3 => (m_bottle_Blend r_3.1).bind fun r_13 => (m_bottle_Water r_3.1 4600 4620).bind fun r_17 => (m_bottle_False r_3.1 ([(ApiClaim.mk 0 0 3650), (ApiClaim.mk 0 0 3701), (ApiClaim.mk 1 3 1)])).bind fun r_26 => (m_bottle_Stamps r_3.2).bind fun r_32 => (m_bottle_Whose r_3.2 13).bind fun r_39 => if (((((((((!(eq_36 r_13.1.Volume (ApiSpan.mk 999 1000))) || (!(eq_36 r_13.1.Strength (ApiSpan.mk 5800 5812)))) || (r_13.1.Age != 3700)) || ((r_13.1.Woods 2) != 700)) || ((r_13.1.Places 0) != 3000)) || (r_13.1.Casks != 2)) || (r_13.2 != 0)) || (!(eq_36 r_17.1 (ApiSpan.mk 258 260)))) || (r_17.2 != 0)) then (some false) else ((m_wormtubref12_Spans r_32.1.Hand ([(ApiSpan.mk 10 11), (ApiSpan.mk 16 19), (ApiSpan.mk 21 31)])).bind fun r_80 => (m_wormtubref12_Ints r_26.1 ([1, 2])).bind fun r_88 => some ((((((((r_88 && (r_26.2 == 0)) && r_80) && (r_32.1.Stuck == 4)) && (r_32.1.Spoiled == 1)) && (r_32.2.1 == 4)) && (r_32.2.2 == 0)) && (r_39.1 == 3)) && (r_39.2 == 0)))
theorem c_wormtublaw12_awake (F0 : Fz)  : CT0 Try.prog 11 [].toArray F0 (m_wormtublaw12_awake) (fun r _ v => v = (.bool r)) := by
  refine CT0.enter Try.func11 rfl Try.ntmps11 rfl fun r R => ?_
  unfold m_wormtublaw12_awake
  refine .seq ?_
  refine .region ?_
  refine .assign rfl rfl ?_
  refine .nil ?_
  refine .code ?_
  refine .seq ?_
  refine .region ?_
  refine .call0 rfl Try.call32 rfl rfl rfl (c_wormtublaw12_sample _ ) ?_
  rintro r_3 F_1 _ - l_2 ⟨p4, k5, p7, k8, rfl, h6, h9⟩
  refine .move rfl rfl ?_
  refine .extract rfl rfl rfl ?_
  refine .extract rfl rfl rfl ?_
  refine .alloc (cs := (cApiBatch (ApiBatch.mk ([]) 0 (ApiSpan.mk 0 0) false false) none 0)) rfl Try.zeroValue38 rfl (fun b10 => ?_)
  refine .store (cs' := (cApiBatch r_3.1 p4 k5)) Try.sizeOf38 rfl rfl rfl rfl (i := 0) rfl (Nat.le_of_ble_eq_true rfl) rfl (setMany_all (by rfl)) ?_
  refine .assign rfl rfl ?_
  refine .nil ?_
  refine .code ?_
  refine .seq ?_
  refine .region ?_
  refine .loadOA rfl Try.isAgg38 Try.sizeOf38 rfl (i := 0) rfl (vs := (cApiBatch r_3.1 p4 k5)) (by kernel_rfl) rfl ?_
  refine .call0 rfl Try.call20 rfl rfl rfl (c_bottle_Blend _ r_3.1 p4 k5 h6) ?_
  rintro r_13 F_11 _ - l_12 rfl
  refine .move rfl rfl ?_
  refine .extract rfl rfl rfl ?_
  refine .extract rfl rfl rfl ?_
  refine .alloc (cs := (cApiBottling (ApiBottling.mk (ApiSpan.mk 0 0) (ApiSpan.mk 0 0) 0 (fun _ => 0) (fun _ => 0) 0))) rfl Try.zeroValue56 rfl (fun b14 => ?_)
  refine .store (cs' := (cApiBottling r_13.1)) Try.sizeOf56 rfl rfl rfl rfl (i := 0) rfl (Nat.le_of_ble_eq_true rfl) rfl (setMany_all (by rfl)) ?_
  refine .assign rfl rfl ?_
  refine .nil ?_
  refine .code ?_
  refine .seq ?_
  refine .region ?_
  refine .loadOA rfl Try.isAgg38 Try.sizeOf38 rfl (i := 1) rfl (vs := (cApiBatch r_3.1 p4 k5)) (by kernel_rfl) rfl ?_
  refine .call0 rfl Try.call22 rfl rfl rfl (c_bottle_Water _ r_3.1 p4 k5 (h6.mono l_12) 4600 4620) ?_
  rintro r_17 F_15 _ - l_16 rfl
  refine .move rfl rfl ?_
  refine .extract rfl rfl rfl ?_
  refine .extract rfl rfl rfl ?_
  refine .alloc (cs := (cApiSpan (ApiSpan.mk 0 0))) rfl Try.zeroValue36 rfl (fun b18 => ?_)
  refine .store (cs' := (cApiSpan r_17.1)) Try.sizeOf36 rfl rfl rfl rfl (i := 0) rfl (Nat.le_of_ble_eq_true rfl) rfl (setMany_all (by rfl)) ?_
  refine .assign rfl rfl ?_
  refine .nil ?_
  refine .code ?_
  refine .seq ?_
  refine .region ?_
  refine .loadOA rfl Try.isAgg38 Try.sizeOf38 rfl (i := 2) rfl (vs := (cApiBatch r_3.1 p4 k5)) (by kernel_rfl) rfl ?_
  refine .build (cs := (cApiClaim (ApiClaim.mk 0 0 3650)).toArray) rfl Try.underlying46 Try.zeroValue46 (plApiClaim _ Try.underlying46) rfl rfl (by kernel_rfl) ?_
  refine .build (cs := (cApiClaim (ApiClaim.mk 0 0 3701)).toArray) rfl Try.underlying46 Try.zeroValue46 (plApiClaim _ Try.underlying46) rfl rfl (by kernel_rfl) ?_
  refine .build (cs := (cApiClaim (ApiClaim.mk 1 3 1)).toArray) rfl Try.underlying46 Try.zeroValue46 (plApiClaim _ Try.underlying46) rfl rfl (by kernel_rfl) ?_
  refine .sliceLit (cs := [.int .i64 (ApiClaim.mk 0 0 3650).Kind, .int .i64 (ApiClaim.mk 0 0 3650).What, .int .i64 (ApiClaim.mk 0 0 3650).Number, .int .i64 (ApiClaim.mk 0 0 3701).Kind, .int .i64 (ApiClaim.mk 0 0 3701).What, .int .i64 (ApiClaim.mk 0 0 3701).Number, .int .i64 (ApiClaim.mk 1 3 1).Kind, .int .i64 (ApiClaim.mk 1 3 1).What, .int .i64 (ApiClaim.mk 1 3 1).Number]) (zc := [.int .i64 (ApiClaim.mk 0 0 0).Kind, .int .i64 (ApiClaim.mk 0 0 0).What, .int .i64 (ApiClaim.mk 0 0 0).Number, .int .i64 (ApiClaim.mk 0 0 0).Kind, .int .i64 (ApiClaim.mk 0 0 0).What, .int .i64 (ApiClaim.mk 0 0 0).Number, .int .i64 (ApiClaim.mk 0 0 0).Kind, .int .i64 (ApiClaim.mk 0 0 0).What, .int .i64 (ApiClaim.mk 0 0 0).Number]) rfl Try.underlying39 Try.sizeOf46 Try.zeroValue46 rfl rfl rfl (by kernel_rfl) (by kernel_rfl) (fun b19 F_20 l_21 hb22 => ?_)
  have h23 : RepSl 3 (Ex cApiClaim) F_20 (some ⟨b19, 0, none⟩) 3 ([(ApiClaim.mk 0 0 3650), (ApiClaim.mk 0 0 3701), (ApiClaim.mk 1 3 1)]) := RepSl.ofRow hb22 (.cons ok_t46.mono rfl (.cons ok_t46.mono rfl (.cons ok_t46.mono rfl .nil))) rfl rfl
  refine .call0 rfl Try.call17 rfl rfl rfl (c_bottle_False _ r_3.1 p4 k5 (h6.mono (Fz.le_trans l_12 (Fz.le_trans l_16 l_21))) ([(ApiClaim.mk 0 0 3650), (ApiClaim.mk 0 0 3701), (ApiClaim.mk 1 3 1)]) (some ⟨b19, 0, none⟩) 3 h23) ?_
  rintro r_26 F_24 _ - l_25 ⟨p27, k28, rfl, h29⟩
  refine .move rfl rfl ?_
  refine .extract rfl rfl rfl ?_
  refine .extract rfl rfl rfl ?_
  refine .assign rfl rfl ?_
  refine .assign rfl rfl ?_
  refine .nil ?_
  refine .keep (.cons (k := 2) rfl (.cons (k := 3) rfl (.cons (k := 4) rfl (.cons (k := 5) rfl (.cons (k := 6) rfl (.cons (k := 7) rfl (.cons (k := 8) rfl (.nil _)))))))) ?_
  refine .code ?_
  refine .seq ?_
  refine .region ?_
  refine .move rfl rfl ?_
  refine .call0 rfl Try.call12 rfl rfl rfl (c_bottle_Stamps _ r_3.2 p7 k8 (h9.mono (Fz.le_trans l_12 (Fz.le_trans l_16 (Fz.le_trans l_21 l_25))))) ?_
  rintro r_32 F_30 _ - l_31 ⟨p33, k34, rfl, h35⟩
  refine .move rfl rfl ?_
  refine .extract rfl rfl rfl ?_
  refine .extract rfl rfl rfl ?_
  refine .extract rfl rfl rfl ?_
  refine .alloc (cs := (cApiStampBook (ApiStampBook.mk ([]) 0 0 0) none 0)) rfl Try.zeroValue26 rfl (fun b36 => ?_)
  refine .store (cs' := (cApiStampBook r_32.1 p33 k34)) Try.sizeOf26 rfl rfl rfl rfl (i := 0) rfl (Nat.le_of_ble_eq_true rfl) rfl (setMany_all (by rfl)) ?_
  refine .assign rfl rfl ?_
  refine .assign rfl rfl ?_
  refine .nil ?_
  refine .code ?_
  refine .seq ?_
  refine .region ?_
  refine .move rfl rfl ?_
  refine .call0 rfl Try.call14 rfl rfl rfl (c_bottle_Whose _ r_3.2 p7 k8 (h9.mono (Fz.le_trans l_12 (Fz.le_trans l_16 (Fz.le_trans l_21 (Fz.le_trans l_25 l_31))))) 13) ?_
  rintro r_39 F_37 _ - l_38 rfl
  refine .move rfl rfl ?_
  refine .extract rfl rfl rfl ?_
  refine .extract rfl rfl rfl ?_
  refine .assign rfl rfl ?_
  refine .assign rfl rfl ?_
  refine .nil ?_
  refine .code ?_
  refine .seq ?_
  refine .seq ?_
  refine .region ?_
  refine .fieldAddr rfl Try.underlying56 rfl Try.sizeOf36 rfl ?_
  refine .loadOA rfl Try.isAgg36 Try.sizeOf36 rfl (i := 2) rfl (vs := (cApiSpan r_13.1.Volume)) (by kernel_rfl) rfl ?_
  refine .build (cs := (cApiSpan (ApiSpan.mk 999 1000)).toArray) rfl Try.underlying36 Try.zeroValue36 (plApiSpan _ Try.underlying36) rfl rfl (by kernel_rfl) ?_
  refine .neqR rfl Try.eqGuardType36 (fun w => req_36 r_13.1.Volume (ApiSpan.mk 999 1000) w) rfl rfl ?_
  refine .move rfl rfl ?_
  refine .orP (b := (!(eq_36 r_13.1.Volume (ApiSpan.mk 999 1000)))) (b' := (!(eq_36 r_13.1.Strength (ApiSpan.mk 5800 5812)))) 5 58 (fun hb40 => ?_) (fun hb41 => ?_) (fun F_42 l_43 => ?_)
  · skip
    refine .onH hb40 rfl rfl ?_
    refine .fieldAddr rfl Try.underlying56 rfl Try.sizeOf36 rfl ?_
    refine .onH hb40 rfl rfl ?_
    refine .loadOA rfl Try.isAgg36 Try.sizeOf36 rfl (i := 2) rfl (vs := (cApiSpan r_13.1.Strength)) (by kernel_rfl) rfl ?_
    refine .onH hb40 rfl rfl ?_
    refine .build (cs := (cApiSpan (ApiSpan.mk 5800 5812)).toArray) rfl Try.underlying36 Try.zeroValue36 (plApiSpan _ Try.underlying36) rfl rfl (by kernel_rfl) ?_
    refine .onH hb40 rfl rfl ?_
    refine .neqR rfl Try.eqGuardType36 (fun w => req_36 r_13.1.Strength (ApiSpan.mk 5800 5812) w) rfl rfl ?_
    refine .pickFH hb40 rfl rfl rfl ?_
    exact .fin 5 rfl rfl (by kernel_rfl) (Fz.le_refl _)
  · skip
    refine .offH hb41 rfl rfl rfl ?_
    refine .offH hb41 rfl rfl rfl ?_
    refine .offH hb41 rfl rfl rfl ?_
    refine .offH hb41 rfl rfl rfl ?_
    refine .pickTH hb41 rfl rfl rfl ?_
    exact .fin 5 rfl rfl (by kernel_rfl) (Fz.le_refl _)
  refine .move rfl rfl ?_
  refine .orP (b := ((!(eq_36 r_13.1.Volume (ApiSpan.mk 999 1000))) || (!(eq_36 r_13.1.Strength (ApiSpan.mk 5800 5812))))) (b' := (r_13.1.Age != 3700)) 4 63 (fun hb44 => ?_) (fun hb45 => ?_) (fun F_46 l_47 => ?_)
  · skip
    refine .onH hb44 rfl rfl ?_
    refine .fieldAddr rfl Try.underlying56 rfl Try.sizeOf3 rfl ?_
    refine .onH hb44 rfl rfl ?_
    refine .loadO rfl Try.isAgg3 rfl (i := 2) rfl rfl ?_
    refine .onH hb44 rfl rfl ?_
    refine .neq rfl rfl rfl ?_
    refine .pickFH hb44 rfl rfl rfl ?_
    exact .fin 4 rfl rfl (by kernel_rfl) (Fz.le_refl _)
  · skip
    refine .offH hb45 rfl rfl rfl ?_
    refine .offH hb45 rfl rfl rfl ?_
    refine .offH hb45 rfl rfl rfl ?_
    refine .pickTH hb45 rfl rfl rfl ?_
    exact .fin 4 rfl rfl (by kernel_rfl) (Fz.le_refl _)
  refine .move rfl rfl ?_
  refine .orP (b := (((!(eq_36 r_13.1.Volume (ApiSpan.mk 999 1000))) || (!(eq_36 r_13.1.Strength (ApiSpan.mk 5800 5812)))) || (r_13.1.Age != 3700))) (b' := ((r_13.1.Woods 2) != 700)) 5 69 (fun hb48 => ?_) (fun hb49 => ?_) (fun F_50 l_51 => ?_)
  · skip
    refine .onH hb48 rfl rfl ?_
    refine .fieldAddr rfl Try.underlying56 rfl Try.sizeOf47 rfl ?_
    refine .onH hb48 rfl rfl ?_
    refine .indexAddrA rfl Try.underlying47 Try.sizeOf3 rfl rfl (j := 2) rfl ?_
    refine .onH hb48 rfl rfl ?_
    refine .loadO rfl Try.isAgg3 rfl (i := 2) rfl rfl ?_
    refine .onH hb48 rfl rfl ?_
    refine .neq rfl rfl rfl ?_
    refine .pickFH hb48 rfl rfl rfl ?_
    exact .fin 5 rfl rfl (by kernel_rfl) (Fz.le_refl _)
  · skip
    refine .offH hb49 rfl rfl rfl ?_
    refine .offH hb49 rfl rfl rfl ?_
    refine .offH hb49 rfl rfl rfl ?_
    refine .offH hb49 rfl rfl rfl ?_
    refine .pickTH hb49 rfl rfl rfl ?_
    exact .fin 5 rfl rfl (by kernel_rfl) (Fz.le_refl _)
  refine .move rfl rfl ?_
  refine .orP (b := ((((!(eq_36 r_13.1.Volume (ApiSpan.mk 999 1000))) || (!(eq_36 r_13.1.Strength (ApiSpan.mk 5800 5812)))) || (r_13.1.Age != 3700)) || ((r_13.1.Woods 2) != 700))) (b' := ((r_13.1.Places 0) != 3000)) 5 75 (fun hb52 => ?_) (fun hb53 => ?_) (fun F_54 l_55 => ?_)
  · skip
    refine .onH hb52 rfl rfl ?_
    refine .fieldAddr rfl Try.underlying56 rfl Try.sizeOf47 rfl ?_
    refine .onH hb52 rfl rfl ?_
    refine .indexAddrA rfl Try.underlying47 Try.sizeOf3 rfl rfl (j := 0) rfl ?_
    refine .onH hb52 rfl rfl ?_
    refine .loadO rfl Try.isAgg3 rfl (i := 2) rfl rfl ?_
    refine .onH hb52 rfl rfl ?_
    refine .neq rfl rfl rfl ?_
    refine .pickFH hb52 rfl rfl rfl ?_
    exact .fin 5 rfl rfl (by kernel_rfl) (Fz.le_refl _)
  · skip
    refine .offH hb53 rfl rfl rfl ?_
    refine .offH hb53 rfl rfl rfl ?_
    refine .offH hb53 rfl rfl rfl ?_
    refine .offH hb53 rfl rfl rfl ?_
    refine .pickTH hb53 rfl rfl rfl ?_
    exact .fin 5 rfl rfl (by kernel_rfl) (Fz.le_refl _)
  refine .move rfl rfl ?_
  refine .orP (b := (((((!(eq_36 r_13.1.Volume (ApiSpan.mk 999 1000))) || (!(eq_36 r_13.1.Strength (ApiSpan.mk 5800 5812)))) || (r_13.1.Age != 3700)) || ((r_13.1.Woods 2) != 700)) || ((r_13.1.Places 0) != 3000))) (b' := (r_13.1.Casks != 2)) 4 80 (fun hb56 => ?_) (fun hb57 => ?_) (fun F_58 l_59 => ?_)
  · skip
    refine .onH hb56 rfl rfl ?_
    refine .fieldAddr rfl Try.underlying56 rfl Try.sizeOf3 rfl ?_
    refine .onH hb56 rfl rfl ?_
    refine .loadO rfl Try.isAgg3 rfl (i := 2) rfl rfl ?_
    refine .onH hb56 rfl rfl ?_
    refine .neq rfl rfl rfl ?_
    refine .pickFH hb56 rfl rfl rfl ?_
    exact .fin 4 rfl rfl (by kernel_rfl) (Fz.le_refl _)
  · skip
    refine .offH hb57 rfl rfl rfl ?_
    refine .offH hb57 rfl rfl rfl ?_
    refine .offH hb57 rfl rfl rfl ?_
    refine .pickTH hb57 rfl rfl rfl ?_
    exact .fin 4 rfl rfl (by kernel_rfl) (Fz.le_refl _)
  refine .move rfl rfl ?_
  refine .orP (b := ((((((!(eq_36 r_13.1.Volume (ApiSpan.mk 999 1000))) || (!(eq_36 r_13.1.Strength (ApiSpan.mk 5800 5812)))) || (r_13.1.Age != 3700)) || ((r_13.1.Woods 2) != 700)) || ((r_13.1.Places 0) != 3000)) || (r_13.1.Casks != 2))) (b' := (r_13.2 != 0)) 3 84 (fun hb60 => ?_) (fun hb61 => ?_) (fun F_62 l_63 => ?_)
  · skip
    refine .onH hb60 rfl rfl ?_
    refine .move rfl rfl ?_
    refine .onH hb60 rfl rfl ?_
    refine .neq rfl rfl rfl ?_
    refine .pickFH hb60 rfl rfl rfl ?_
    exact .fin 3 rfl rfl (by kernel_rfl) (Fz.le_refl _)
  · skip
    refine .offH hb61 rfl rfl rfl ?_
    refine .offH hb61 rfl rfl rfl ?_
    refine .pickTH hb61 rfl rfl rfl ?_
    exact .fin 3 rfl rfl (by kernel_rfl) (Fz.le_refl _)
  refine .move rfl rfl ?_
  refine .orP (b := (((((((!(eq_36 r_13.1.Volume (ApiSpan.mk 999 1000))) || (!(eq_36 r_13.1.Strength (ApiSpan.mk 5800 5812)))) || (r_13.1.Age != 3700)) || ((r_13.1.Woods 2) != 700)) || ((r_13.1.Places 0) != 3000)) || (r_13.1.Casks != 2)) || (r_13.2 != 0))) (b' := (!(eq_36 r_17.1 (ApiSpan.mk 258 260)))) 4 89 (fun hb64 => ?_) (fun hb65 => ?_) (fun F_66 l_67 => ?_)
  · skip
    refine .onH hb64 rfl rfl ?_
    refine .loadOA rfl Try.isAgg36 Try.sizeOf36 rfl (i := 1) rfl (vs := (cApiSpan r_17.1)) (by kernel_rfl) rfl ?_
    refine .onH hb64 rfl rfl ?_
    refine .build (cs := (cApiSpan (ApiSpan.mk 258 260)).toArray) rfl Try.underlying36 Try.zeroValue36 (plApiSpan _ Try.underlying36) rfl rfl (by kernel_rfl) ?_
    refine .onH hb64 rfl rfl ?_
    refine .neqR rfl Try.eqGuardType36 (fun w => req_36 r_17.1 (ApiSpan.mk 258 260) w) rfl rfl ?_
    refine .pickFH hb64 rfl rfl rfl ?_
    exact .fin 4 rfl rfl (by kernel_rfl) (Fz.le_refl _)
  · skip
    refine .offH hb65 rfl rfl rfl ?_
    refine .offH hb65 rfl rfl rfl ?_
    refine .offH hb65 rfl rfl rfl ?_
    refine .pickTH hb65 rfl rfl rfl ?_
    exact .fin 4 rfl rfl (by kernel_rfl) (Fz.le_refl _)
  refine .move rfl rfl ?_
  refine .orP (b := ((((((((!(eq_36 r_13.1.Volume (ApiSpan.mk 999 1000))) || (!(eq_36 r_13.1.Strength (ApiSpan.mk 5800 5812)))) || (r_13.1.Age != 3700)) || ((r_13.1.Woods 2) != 700)) || ((r_13.1.Places 0) != 3000)) || (r_13.1.Casks != 2)) || (r_13.2 != 0)) || (!(eq_36 r_17.1 (ApiSpan.mk 258 260))))) (b' := (r_17.2 != 0)) 3 93 (fun hb68 => ?_) (fun hb69 => ?_) (fun F_70 l_71 => ?_)
  · skip
    refine .onH hb68 rfl rfl ?_
    refine .move rfl rfl ?_
    refine .onH hb68 rfl rfl ?_
    refine .neq rfl rfl rfl ?_
    refine .pickFH hb68 rfl rfl rfl ?_
    exact .fin 3 rfl rfl (by kernel_rfl) (Fz.le_refl _)
  · skip
    refine .offH hb69 rfl rfl rfl ?_
    refine .offH hb69 rfl rfl rfl ?_
    refine .pickTH hb69 rfl rfl rfl ?_
    exact .fin 3 rfl rfl (by kernel_rfl) (Fz.le_refl _)
  refine .nil ?_
  refine .keep (.cons (k := 7) rfl (.cons (k := 8) rfl (.cons (k := 9) rfl (.cons (k := 10) rfl (.cons (k := 11) rfl (.cons (k := 12) rfl (.cons (k := 13) rfl (.cons (k := 93) rfl (.nil _))))))))) ?_
  refine .code ?_
  refine .cond rfl (fun hb72 => ?_) (fun hb72 => ?_)
  · skip
    refine .seq ?_
    refine .region ?_
    refine .assign rfl rfl ?_
    refine .nil ?_
    refine .code ?_
    exact .ret0 Try.results11 (.tmp rfl (.nil)) (i := 4) rfl (Fz.le_trans l_2 (Fz.le_trans l_12 (Fz.le_trans l_16 (Fz.le_trans l_21 (Fz.le_trans l_25 (Fz.le_trans l_31 (Fz.le_trans l_38 (Fz.le_trans l_43 (Fz.le_trans l_47 (Fz.le_trans l_51 (Fz.le_trans l_55 (Fz.le_trans l_59 (Fz.le_trans l_63 (Fz.le_trans l_67 l_71)))))))))))))) rfl
  · skip
    refine .skip ?_
    refine .code ?_
    refine .seq ?_
    refine .region ?_
    refine .fieldAddr rfl Try.underlying26 rfl Try.sizeOf24 rfl ?_
    refine .loadO rfl Try.isAgg24 rfl (i := 0) rfl rfl ?_
    refine .build (cs := (cApiSpan (ApiSpan.mk 10 11)).toArray) rfl Try.underlying36 Try.zeroValue36 (plApiSpan _ Try.underlying36) rfl rfl (by kernel_rfl) ?_
    refine .build (cs := (cApiSpan (ApiSpan.mk 16 19)).toArray) rfl Try.underlying36 Try.zeroValue36 (plApiSpan _ Try.underlying36) rfl rfl (by kernel_rfl) ?_
    refine .build (cs := (cApiSpan (ApiSpan.mk 21 31)).toArray) rfl Try.underlying36 Try.zeroValue36 (plApiSpan _ Try.underlying36) rfl rfl (by kernel_rfl) ?_
    refine .sliceLit (cs := [.int .i64 (ApiSpan.mk 10 11).Lo, .int .i64 (ApiSpan.mk 10 11).Hi, .int .i64 (ApiSpan.mk 16 19).Lo, .int .i64 (ApiSpan.mk 16 19).Hi, .int .i64 (ApiSpan.mk 21 31).Lo, .int .i64 (ApiSpan.mk 21 31).Hi]) (zc := [.int .i64 (ApiSpan.mk 0 0).Lo, .int .i64 (ApiSpan.mk 0 0).Hi, .int .i64 (ApiSpan.mk 0 0).Lo, .int .i64 (ApiSpan.mk 0 0).Hi, .int .i64 (ApiSpan.mk 0 0).Lo, .int .i64 (ApiSpan.mk 0 0).Hi]) rfl Try.underlying24 Try.sizeOf36 Try.zeroValue36 rfl rfl rfl (by kernel_rfl) (by kernel_rfl) (fun b73 F_74 l_75 hb76 => ?_)
    have h77 : RepSl 2 (Ex cApiSpan) F_74 (some ⟨b73, 0, none⟩) 3 ([(ApiSpan.mk 10 11), (ApiSpan.mk 16 19), (ApiSpan.mk 21 31)]) := RepSl.ofRow hb76 (.cons ok_t36.mono rfl (.cons ok_t36.mono rfl (.cons ok_t36.mono rfl .nil))) rfl rfl
    refine .call0 rfl Try.call16 rfl rfl rfl (c_wormtubref12_Spans _ r_32.1.Hand p33 k34 (h35.mono (Fz.le_trans l_38 (Fz.le_trans l_43 (Fz.le_trans l_47 (Fz.le_trans l_51 (Fz.le_trans l_55 (Fz.le_trans l_59 (Fz.le_trans l_63 (Fz.le_trans l_67 (Fz.le_trans l_71 l_75)))))))))) ([(ApiSpan.mk 10 11), (ApiSpan.mk 16 19), (ApiSpan.mk 21 31)]) (some ⟨b73, 0, none⟩) 3 h77) ?_
    rintro r_80 F_78 _ - l_79 rfl
    refine .assign rfl rfl ?_
    refine .nil ?_
    refine .code ?_
    refine .seq ?_
    refine .region ?_
    refine .move rfl rfl ?_
    refine .sliceLit (cs := [.int .i64 1, .int .i64 2]) (zc := [.int .i64 0, .int .i64 0]) rfl Try.underlying40 Try.sizeOf3 Try.zeroValue3 rfl rfl rfl (by kernel_rfl) (by kernel_rfl) (fun b81 F_82 l_83 hb84 => ?_)
    have h85 : RepSl 1 (Ex (cInt .i64)) F_82 (some ⟨b81, 0, none⟩) 2 ([1, 2]) := RepSl.ofRow hb84 (.cons ok_t3.mono rfl (.cons ok_t3.mono rfl .nil)) rfl rfl
    refine .call0 rfl Try.call31 rfl rfl rfl (c_wormtubref12_Ints _ r_26.1 p27 k28 (h29.mono (Fz.le_trans l_31 (Fz.le_trans l_38 (Fz.le_trans l_43 (Fz.le_trans l_47 (Fz.le_trans l_51 (Fz.le_trans l_55 (Fz.le_trans l_59 (Fz.le_trans l_63 (Fz.le_trans l_67 (Fz.le_trans l_71 (Fz.le_trans l_75 (Fz.le_trans l_79 l_83))))))))))))) ([1, 2]) (some ⟨b81, 0, none⟩) 2 h85) ?_
    rintro r_88 F_86 _ - l_87 rfl
    refine .move rfl rfl ?_
    refine .andP (b := r_88) (b' := (r_26.2 == 0)) 3 107 (fun hb89 => ?_) (fun hb90 => ?_) (fun F_91 l_92 => ?_)
    · skip
      refine .onH hb89 rfl rfl ?_
      refine .move rfl rfl ?_
      refine .onH hb89 rfl rfl ?_
      refine .eql rfl rfl rfl ?_
      refine .pickTH hb89 rfl rfl rfl ?_
      exact .fin 3 rfl rfl (by kernel_rfl) (Fz.le_refl _)
    · skip
      refine .offH hb90 rfl rfl rfl ?_
      refine .offH hb90 rfl rfl rfl ?_
      refine .pickFH hb90 rfl rfl rfl ?_
      exact .fin 3 rfl rfl (by kernel_rfl) (Fz.le_refl _)
    refine .move rfl rfl ?_
    refine .andP (b := (r_88 && (r_26.2 == 0))) (b' := r_80) 2 110 (fun hb93 => ?_) (fun hb94 => ?_) (fun F_95 l_96 => ?_)
    · skip
      refine .onH hb93 rfl rfl ?_
      refine .move rfl rfl ?_
      refine .pickTH hb93 rfl rfl rfl ?_
      exact .fin 2 rfl rfl (by kernel_rfl) (Fz.le_refl _)
    · skip
      refine .offH hb94 rfl rfl rfl ?_
      refine .pickFH hb94 rfl rfl rfl ?_
      exact .fin 2 rfl rfl (by kernel_rfl) (Fz.le_refl _)
    refine .move rfl rfl ?_
    refine .andP (b := ((r_88 && (r_26.2 == 0)) && r_80)) (b' := (r_32.1.Stuck == 4)) 4 115 (fun hb97 => ?_) (fun hb98 => ?_) (fun F_99 l_100 => ?_)
    · skip
      refine .onH hb97 rfl rfl ?_
      refine .fieldAddr rfl Try.underlying26 rfl Try.sizeOf3 rfl ?_
      refine .onH hb97 rfl rfl ?_
      refine .loadO rfl Try.isAgg3 rfl (i := 0) rfl rfl ?_
      refine .onH hb97 rfl rfl ?_
      refine .eql rfl rfl rfl ?_
      refine .pickTH hb97 rfl rfl rfl ?_
      exact .fin 4 rfl rfl (by kernel_rfl) (Fz.le_refl _)
    · skip
      refine .offH hb98 rfl rfl rfl ?_
      refine .offH hb98 rfl rfl rfl ?_
      refine .offH hb98 rfl rfl rfl ?_
      refine .pickFH hb98 rfl rfl rfl ?_
      exact .fin 4 rfl rfl (by kernel_rfl) (Fz.le_refl _)
    refine .move rfl rfl ?_
    refine .andP (b := (((r_88 && (r_26.2 == 0)) && r_80) && (r_32.1.Stuck == 4))) (b' := (r_32.1.Spoiled == 1)) 4 120 (fun hb101 => ?_) (fun hb102 => ?_) (fun F_103 l_104 => ?_)
    · skip
      refine .onH hb101 rfl rfl ?_
      refine .fieldAddr rfl Try.underlying26 rfl Try.sizeOf3 rfl ?_
      refine .onH hb101 rfl rfl ?_
      refine .loadO rfl Try.isAgg3 rfl (i := 0) rfl rfl ?_
      refine .onH hb101 rfl rfl ?_
      refine .eql rfl rfl rfl ?_
      refine .pickTH hb101 rfl rfl rfl ?_
      exact .fin 4 rfl rfl (by kernel_rfl) (Fz.le_refl _)
    · skip
      refine .offH hb102 rfl rfl rfl ?_
      refine .offH hb102 rfl rfl rfl ?_
      refine .offH hb102 rfl rfl rfl ?_
      refine .pickFH hb102 rfl rfl rfl ?_
      exact .fin 4 rfl rfl (by kernel_rfl) (Fz.le_refl _)
    refine .move rfl rfl ?_
    refine .andP (b := ((((r_88 && (r_26.2 == 0)) && r_80) && (r_32.1.Stuck == 4)) && (r_32.1.Spoiled == 1))) (b' := (r_32.2.1 == 4)) 3 124 (fun hb105 => ?_) (fun hb106 => ?_) (fun F_107 l_108 => ?_)
    · skip
      refine .onH hb105 rfl rfl ?_
      refine .move rfl rfl ?_
      refine .onH hb105 rfl rfl ?_
      refine .eql rfl rfl rfl ?_
      refine .pickTH hb105 rfl rfl rfl ?_
      exact .fin 3 rfl rfl (by kernel_rfl) (Fz.le_refl _)
    · skip
      refine .offH hb106 rfl rfl rfl ?_
      refine .offH hb106 rfl rfl rfl ?_
      refine .pickFH hb106 rfl rfl rfl ?_
      exact .fin 3 rfl rfl (by kernel_rfl) (Fz.le_refl _)
    refine .move rfl rfl ?_
    refine .andP (b := (((((r_88 && (r_26.2 == 0)) && r_80) && (r_32.1.Stuck == 4)) && (r_32.1.Spoiled == 1)) && (r_32.2.1 == 4))) (b' := (r_32.2.2 == 0)) 3 128 (fun hb109 => ?_) (fun hb110 => ?_) (fun F_111 l_112 => ?_)
    · skip
      refine .onH hb109 rfl rfl ?_
      refine .move rfl rfl ?_
      refine .onH hb109 rfl rfl ?_
      refine .eql rfl rfl rfl ?_
      refine .pickTH hb109 rfl rfl rfl ?_
      exact .fin 3 rfl rfl (by kernel_rfl) (Fz.le_refl _)
    · skip
      refine .offH hb110 rfl rfl rfl ?_
      refine .offH hb110 rfl rfl rfl ?_
      refine .pickFH hb110 rfl rfl rfl ?_
      exact .fin 3 rfl rfl (by kernel_rfl) (Fz.le_refl _)
    refine .move rfl rfl ?_
    refine .andP (b := ((((((r_88 && (r_26.2 == 0)) && r_80) && (r_32.1.Stuck == 4)) && (r_32.1.Spoiled == 1)) && (r_32.2.1 == 4)) && (r_32.2.2 == 0))) (b' := (r_39.1 == 3)) 3 132 (fun hb113 => ?_) (fun hb114 => ?_) (fun F_115 l_116 => ?_)
    · skip
      refine .onH hb113 rfl rfl ?_
      refine .move rfl rfl ?_
      refine .onH hb113 rfl rfl ?_
      refine .eql rfl rfl rfl ?_
      refine .pickTH hb113 rfl rfl rfl ?_
      exact .fin 3 rfl rfl (by kernel_rfl) (Fz.le_refl _)
    · skip
      refine .offH hb114 rfl rfl rfl ?_
      refine .offH hb114 rfl rfl rfl ?_
      refine .pickFH hb114 rfl rfl rfl ?_
      exact .fin 3 rfl rfl (by kernel_rfl) (Fz.le_refl _)
    refine .move rfl rfl ?_
    refine .andP (b := (((((((r_88 && (r_26.2 == 0)) && r_80) && (r_32.1.Stuck == 4)) && (r_32.1.Spoiled == 1)) && (r_32.2.1 == 4)) && (r_32.2.2 == 0)) && (r_39.1 == 3))) (b' := (r_39.2 == 0)) 3 136 (fun hb117 => ?_) (fun hb118 => ?_) (fun F_119 l_120 => ?_)
    · skip
      refine .onH hb117 rfl rfl ?_
      refine .move rfl rfl ?_
      refine .onH hb117 rfl rfl ?_
      refine .eql rfl rfl rfl ?_
      refine .pickTH hb117 rfl rfl rfl ?_
      exact .fin 3 rfl rfl (by kernel_rfl) (Fz.le_refl _)
    · skip
      refine .offH hb118 rfl rfl rfl ?_
      refine .offH hb118 rfl rfl rfl ?_
      refine .pickFH hb118 rfl rfl rfl ?_
      exact .fin 3 rfl rfl (by kernel_rfl) (Fz.le_refl _)
    refine .assign rfl rfl ?_
    refine .nil ?_
    refine .keep (.cons (k := 0) rfl (.nil _)) ?_
    refine .code ?_
    exact .ret0 Try.results11 (.tmp rfl (.nil)) (i := 4) rfl (Fz.le_trans l_2 (Fz.le_trans l_12 (Fz.le_trans l_16 (Fz.le_trans l_21 (Fz.le_trans l_25 (Fz.le_trans l_31 (Fz.le_trans l_38 (Fz.le_trans l_43 (Fz.le_trans l_47 (Fz.le_trans l_51 (Fz.le_trans l_55 (Fz.le_trans l_59 (Fz.le_trans l_63 (Fz.le_trans l_67 (Fz.le_trans l_71 (Fz.le_trans l_75 (Fz.le_trans l_79 (Fz.le_trans l_83 (Fz.le_trans l_87 (Fz.le_trans l_92 (Fz.le_trans l_96 (Fz.le_trans l_100 (Fz.le_trans l_104 (Fz.le_trans l_108 (Fz.le_trans l_112 (Fz.le_trans l_116 l_120)))))))))))))))))))))))))) rfl

def m_wormtubref12_in (n_1 : Int) (least2 : Int) (most3 : Int) : Bool :=
  ((decide (n_1 ≥ least2)) && (decide (n_1 ≤ most3)))
theorem c_wormtubref12_in (F0 : Fz) (n_1 : Int) (least2 : Int) (most3 : Int) : CT0 Try.prog 48 [(.int .i64 n_1), (.int .i64 least2), (.int .i64 most3)].toArray F0 (some (m_wormtubref12_in n_1 least2 most3)) (fun r _ v => v = (.bool r)) := by
  refine CT0.enter Try.func48 rfl Try.ntmps48 rfl fun r R => ?_
  refine .seq ?_
  refine .region ?_
  refine .assign rfl rfl ?_
  refine .nil ?_
  refine .code ?_
  refine .seq ?_
  refine .region ?_
  refine .move rfl rfl ?_
  refine .move rfl rfl ?_
  refine .geq rfl rfl rfl ?_
  refine .move rfl rfl ?_
  refine .andP (b := (decide (n_1 ≥ least2))) (b' := (decide (n_1 ≤ most3))) 4 14 (fun hb4 => ?_) (fun hb5 => ?_) (fun F_6 l_7 => ?_)
  · skip
    refine .onH hb4 rfl rfl ?_
    refine .move rfl rfl ?_
    refine .onH hb4 rfl rfl ?_
    refine .move rfl rfl ?_
    refine .onH hb4 rfl rfl ?_
    refine .leq rfl rfl rfl ?_
    refine .pickTH hb4 rfl rfl rfl ?_
    exact .fin 4 rfl rfl (by kernel_rfl) (Fz.le_refl _)
  · skip
    refine .offH hb5 rfl rfl rfl ?_
    refine .offH hb5 rfl rfl rfl ?_
    refine .offH hb5 rfl rfl rfl ?_
    refine .pickFH hb5 rfl rfl rfl ?_
    exact .fin 4 rfl rfl (by kernel_rfl) (Fz.le_refl _)
  refine .assign rfl rfl ?_
  refine .nil ?_
  refine .code ?_
  exact .ret0 Try.results48 (.tmp rfl (.nil)) (i := 0) rfl l_7 rfl

end Go.Proofs.Ytbomfcghpajaiaa
