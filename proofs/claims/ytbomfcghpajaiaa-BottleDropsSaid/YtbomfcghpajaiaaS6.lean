/- Printed by gen.py: plain models of the program's functions, and that the code does what they say. -/
import Derived.Test.YtbomfcghpajaiaaS0
import Derived.Test.YtbomfcghpajaiaaS2
import Derived.Test.YtbomfcghpajaiaaS3
import Derived.Test.YtbomfcghpajaiaaS5
namespace Go.Proofs.Ytbomfcghpajaiaa
open Go.Dec

noncomputable def m_wormtubref12_claim (c1 : ApiClaim) : Option Bool :=
  if (c1.Kind == 0) then (some (m_wormtubref12_in c1.Number 0 65536)) else (if (c1.Kind == 1) then (some ((m_wormtubref12_in c1.Number 0 65536) && (m_wormtubref12_in c1.What 0 7))) else (if (c1.Kind == 2) then (some ((m_wormtubref12_in c1.Number 0 65536) && (m_wormtubref12_in c1.What 0 7))) else (if (c1.Kind == 7) then (some ((m_wormtubref12_in c1.Number 0 10000) && (m_wormtubref12_in c1.What 0 10000))) else (some (m_wormtubref12_in c1.Kind 0 7)))))
theorem c_wormtubref12_claim (F0 : Fz) (c1 : ApiClaim) : CT0 Try.prog 50 [(eApiClaim c1)].toArray F0 (m_wormtubref12_claim c1) (fun r _ v => v = (.bool r)) := by
  refine CT0.enter Try.func50 rfl Try.ntmps50 rfl fun r R => ?_
  unfold m_wormtubref12_claim
  refine .seq ?_
  refine .region ?_
  refine .boxF (cs := (cApiClaim c1)) rfl rfl rfl (fun b2 F_3 l_4 hb5 => ?_)
  refine .assign rfl rfl ?_
  refine .nil ?_
  refine .code ?_
  refine .seq ?_
  refine .seq ?_
  refine .region ?_
  refine .fieldAddr rfl Try.underlying46 rfl Try.sizeOf3 rfl ?_
  refine .loadF rfl Try.isAgg3 rfl hb5 rfl ?_
  refine .nil ?_
  refine .code ?_
  refine .block ?_
  refine .seq ?_
  refine .region ?_
  refine .eql rfl rfl rfl ?_
  refine .assign rfl rfl ?_
  refine .nil ?_
  refine .code ?_
  refine .cond rfl (fun hb6 => ?_) (fun hb6 => ?_)
  · skip
    refine .seq ?_
    refine .region ?_
    refine .fieldAddr rfl Try.underlying46 rfl Try.sizeOf3 rfl ?_
    refine .loadF rfl Try.isAgg3 rfl hb5 rfl ?_
    refine .callP rfl Try.call48 rfl rfl rfl (c_wormtubref12_in _ c1.Number 0 65536) ?_
    rintro F_7 _ l_8 rfl
    refine .assign rfl rfl ?_
    refine .nil ?_
    refine .code ?_
    exact .ret0 Try.results50 (.tmp rfl (.nil)) (i := 0) rfl (Fz.le_trans l_4 l_8) rfl
  · skip
    refine .seq ?_
    refine .region ?_
    refine .eql rfl rfl rfl ?_
    refine .assign rfl rfl ?_
    refine .nil ?_
    refine .code ?_
    refine .cond rfl (fun hb9 => ?_) (fun hb9 => ?_)
    · skip
      refine .seq ?_
      refine .region ?_
      refine .fieldAddr rfl Try.underlying46 rfl Try.sizeOf3 rfl ?_
      refine .loadF rfl Try.isAgg3 rfl hb5 rfl ?_
      refine .callP rfl Try.call48 rfl rfl rfl (c_wormtubref12_in _ c1.Number 0 65536) ?_
      rintro F_10 _ l_11 rfl
      refine .move rfl rfl ?_
      refine .andP (b := (m_wormtubref12_in c1.Number 0 65536)) (b' := (m_wormtubref12_in c1.What 0 7)) 4 19 (fun hb12 => ?_) (fun hb15 => ?_) (fun F_16 l_17 => ?_)
      · skip
        refine .onH hb12 rfl rfl ?_
        refine .fieldAddr rfl Try.underlying46 rfl Try.sizeOf3 rfl ?_
        refine .onH hb12 rfl rfl ?_
        refine .loadF rfl Try.isAgg3 rfl (l_11.mem _ _ hb5) rfl ?_
        refine .onH hb12 rfl rfl ?_
        refine .callP rfl Try.call48 rfl rfl rfl (c_wormtubref12_in _ c1.What 0 7) ?_
        rintro F_13 _ l_14 rfl
        refine .pickTH hb12 rfl rfl rfl ?_
        exact .fin 4 rfl rfl (by kernel_rfl) l_14
      · skip
        refine .offH hb15 rfl rfl rfl ?_
        refine .offH hb15 rfl rfl rfl ?_
        refine .offH hb15 rfl rfl rfl ?_
        refine .pickFH hb15 rfl rfl rfl ?_
        exact .fin 4 rfl rfl (by kernel_rfl) (Fz.le_refl _)
      refine .assign rfl rfl ?_
      refine .nil ?_
      refine .code ?_
      exact .ret0 Try.results50 (.tmp rfl (.nil)) (i := 0) rfl (Fz.le_trans l_4 (Fz.le_trans l_11 l_17)) rfl
    · skip
      refine .seq ?_
      refine .region ?_
      refine .eql rfl rfl rfl ?_
      refine .assign rfl rfl ?_
      refine .nil ?_
      refine .code ?_
      refine .cond rfl (fun hb18 => ?_) (fun hb18 => ?_)
      · skip
        refine .seq ?_
        refine .region ?_
        refine .fieldAddr rfl Try.underlying46 rfl Try.sizeOf3 rfl ?_
        refine .loadF rfl Try.isAgg3 rfl hb5 rfl ?_
        refine .callP rfl Try.call48 rfl rfl rfl (c_wormtubref12_in _ c1.Number 0 65536) ?_
        rintro F_19 _ l_20 rfl
        refine .move rfl rfl ?_
        refine .andP (b := (m_wormtubref12_in c1.Number 0 65536)) (b' := (m_wormtubref12_in c1.What 0 7)) 4 29 (fun hb21 => ?_) (fun hb24 => ?_) (fun F_25 l_26 => ?_)
        · skip
          refine .onH hb21 rfl rfl ?_
          refine .fieldAddr rfl Try.underlying46 rfl Try.sizeOf3 rfl ?_
          refine .onH hb21 rfl rfl ?_
          refine .loadF rfl Try.isAgg3 rfl (l_20.mem _ _ hb5) rfl ?_
          refine .onH hb21 rfl rfl ?_
          refine .callP rfl Try.call48 rfl rfl rfl (c_wormtubref12_in _ c1.What 0 7) ?_
          rintro F_22 _ l_23 rfl
          refine .pickTH hb21 rfl rfl rfl ?_
          exact .fin 4 rfl rfl (by kernel_rfl) l_23
        · skip
          refine .offH hb24 rfl rfl rfl ?_
          refine .offH hb24 rfl rfl rfl ?_
          refine .offH hb24 rfl rfl rfl ?_
          refine .pickFH hb24 rfl rfl rfl ?_
          exact .fin 4 rfl rfl (by kernel_rfl) (Fz.le_refl _)
        refine .assign rfl rfl ?_
        refine .nil ?_
        refine .code ?_
        exact .ret0 Try.results50 (.tmp rfl (.nil)) (i := 0) rfl (Fz.le_trans l_4 (Fz.le_trans l_20 l_26)) rfl
      · skip
        refine .seq ?_
        refine .region ?_
        refine .eql rfl rfl rfl ?_
        refine .assign rfl rfl ?_
        refine .nil ?_
        refine .code ?_
        refine .cond rfl (fun hb27 => ?_) (fun hb27 => ?_)
        · skip
          refine .seq ?_
          refine .region ?_
          refine .fieldAddr rfl Try.underlying46 rfl Try.sizeOf3 rfl ?_
          refine .loadF rfl Try.isAgg3 rfl hb5 rfl ?_
          refine .callP rfl Try.call48 rfl rfl rfl (c_wormtubref12_in _ c1.Number 0 10000) ?_
          rintro F_28 _ l_29 rfl
          refine .move rfl rfl ?_
          refine .andP (b := (m_wormtubref12_in c1.Number 0 10000)) (b' := (m_wormtubref12_in c1.What 0 10000)) 4 39 (fun hb30 => ?_) (fun hb33 => ?_) (fun F_34 l_35 => ?_)
          · skip
            refine .onH hb30 rfl rfl ?_
            refine .fieldAddr rfl Try.underlying46 rfl Try.sizeOf3 rfl ?_
            refine .onH hb30 rfl rfl ?_
            refine .loadF rfl Try.isAgg3 rfl (l_29.mem _ _ hb5) rfl ?_
            refine .onH hb30 rfl rfl ?_
            refine .callP rfl Try.call48 rfl rfl rfl (c_wormtubref12_in _ c1.What 0 10000) ?_
            rintro F_31 _ l_32 rfl
            refine .pickTH hb30 rfl rfl rfl ?_
            exact .fin 4 rfl rfl (by kernel_rfl) l_32
          · skip
            refine .offH hb33 rfl rfl rfl ?_
            refine .offH hb33 rfl rfl rfl ?_
            refine .offH hb33 rfl rfl rfl ?_
            refine .pickFH hb33 rfl rfl rfl ?_
            exact .fin 4 rfl rfl (by kernel_rfl) (Fz.le_refl _)
          refine .assign rfl rfl ?_
          refine .nil ?_
          refine .code ?_
          exact .ret0 Try.results50 (.tmp rfl (.nil)) (i := 0) rfl (Fz.le_trans l_4 (Fz.le_trans l_29 l_35)) rfl
        · skip
          refine .skip ?_
          refine .block ?_
          refine .code ?_
          refine .seq ?_
          refine .region ?_
          refine .fieldAddr rfl Try.underlying46 rfl Try.sizeOf3 rfl ?_
          refine .loadF rfl Try.isAgg3 rfl hb5 rfl ?_
          refine .callP rfl Try.call48 rfl rfl rfl (c_wormtubref12_in _ c1.Kind 0 7) ?_
          rintro F_36 _ l_37 rfl
          refine .assign rfl rfl ?_
          refine .nil ?_
          refine .code ?_
          exact .ret0 Try.results50 (.tmp rfl (.nil)) (i := 0) rfl (Fz.le_trans l_4 l_37) rfl

noncomputable def b_wormtubref12_Claims_1 (l_1 : (List ApiClaim)) (s5 : Int) : Option (Ctl (Int) ((Unit) ⊕ (Bool))) :=
  if ((decide (s5 < (l_1.length : Int))) && (decide (s5 ≤ 32))) then ((idxL l_1 s5).bind fun x13 => (m_wormtubref12_claim x13).bind fun r_25 => if (!r_25) then (some (.done (.inr false))) else (bindv (w64 (s5 + 1)) fun i27 => some (.next i27))) else (some (.done (.inl ())))
noncomputable def m_wormtubref12_Claims (l_1 : (List ApiClaim)) : Option Bool :=
  (loopM (b_wormtubref12_Claims_1 l_1) 0).bind fun b0 => match b0 with | .inl _b29 => (some (decide ((l_1.length : Int) ≤ 32))) | .inr b29 => (some b29)
theorem c_wormtubref12_Claims (F0 : Fz) (l_1 : (List ApiClaim)) (p2 : Option Addr) (k3 : Nat) (h4 : RepSl 3 (Ex cApiClaim) F0 p2 k3 l_1) : CT0 Try.prog 19 [(.slice p2 l_1.length k3)].toArray F0 (m_wormtubref12_Claims l_1) (fun r _ v => v = (.bool r)) := by
  refine CT0.enter Try.func19 rfl Try.ntmps19 rfl fun r R => ?_
  unfold m_wormtubref12_Claims
  refine .seq ?_
  refine .region ?_
  refine .assign rfl rfl ?_
  refine .nil ?_
  refine .code ?_
  refine .seq ?_
  refine .seq ?_
  refine .region ?_
  refine .assign rfl rfl ?_
  refine .nil ?_
  refine .code ?_
  refine .block ?_
  refine .keep (.cons (k := 0) rfl (.cons (k := 3) rfl (.nil _))) ?_
  refine .loop (fun (s5 : Int) a w => ∃ (F_6 : Fz), F0 ≤ F_6 ∧ Hd 23 [] [(0, (.slice p2 l_1.length k3)), (3, (.int .i64 s5))] F_6 [R] a w) (fun b0 e a w => match b0 with | .inl b29 => e = .exit 0 ∧ ∃ (F_30 : Fz), F0 ≤ F_30 ∧ Hd 23 [] [(0, (.slice p2 l_1.length k3))] F_30 [R] a w | .inr b29 => e = .ret ∧ ∃ (F_32 : Fz), F0 ≤ F_32 ∧ Hd 23 [] [(2, (.bool b29))] F_32 [R] a w) ?_ ?_ ?_
  · exact fun a w h => ⟨F0, (Fz.le_refl _), h.1.sub (.cons (k := 0) rfl (.cons (k := 3) rfl (.nil _))), h.2⟩
  · intro s5 ctl
    refine GC.ex (fun a w ⟨F_6, l_7, hA⟩ => ⟨_, hA, ?_⟩)
    unfold b_wormtubref12_Claims_1
    refine .seq ?_
    refine .seq ?_
    refine .region ?_
    refine .move rfl rfl ?_
    refine .move rfl rfl ?_
    refine .lenS rfl rfl Try.underlying39 rfl ?_
    refine .lss rfl rfl rfl ?_
    refine .move rfl rfl ?_
    refine .andP (b := (decide (s5 < (l_1.length : Int)))) (b' := (decide (s5 ≤ 32))) 3 11 (fun hb8 => ?_) (fun hb9 => ?_) (fun F_10 l_11 => ?_)
    · skip
      refine .onH hb8 rfl rfl ?_
      refine .move rfl rfl ?_
      refine .onH hb8 rfl rfl ?_
      refine .leq rfl rfl rfl ?_
      refine .pickTH hb8 rfl rfl rfl ?_
      exact .fin 3 rfl rfl (by kernel_rfl) (Fz.le_refl _)
    · skip
      refine .offH hb9 rfl rfl rfl ?_
      refine .offH hb9 rfl rfl rfl ?_
      refine .pickFH hb9 rfl rfl rfl ?_
      exact .fin 3 rfl rfl (by kernel_rfl) (Fz.le_refl _)
    refine .nil ?_
    refine .code ?_
    refine .cond rfl (fun hb12 => ?_) (fun hb12 => ?_)
    · skip
      refine .skip ?_
      refine .code ?_
      refine .seq ?_
      refine .block ?_
      refine .seq ?_
      refine .region ?_
      refine .move rfl rfl ?_
      refine .move rfl rfl ?_
      refine .idx rfl Try.underlying39 Try.sizeOf46 (h4.mono (Fz.le_trans l_7 l_11)) rfl rfl (fun x13 b14 o15 T16 fr17 cs18 e19 hm20 hv21 => ?_)
      refine .loadFA rfl Try.isAgg46 Try.sizeOf46 rfl hm20 hv21 rfl ?_
      refine .call0 rfl Try.call50 rfl rfl rfl (c_wormtubref12_claim _ x13) ?_
      rintro r_25 F_23 _ - l_24 rfl
      refine .not rfl rfl ?_
      refine .nil ?_
      refine .code ?_
      refine .cond rfl (fun hb26 => ?_) (fun hb26 => ?_)
      · skip
        refine .seq ?_
        refine .region ?_
        refine .assign rfl rfl ?_
        refine .nil ?_
        refine .code ?_
        refine .retQ (LPost.ret fun a w h => ⟨rfl, F_23, (Fz.le_trans l_7 (Fz.le_trans l_11 l_24)), h.1.sub (.cons (k := 2) rfl (.nil _)), h.2⟩)
      · skip
        refine .skip ?_
        refine .block ?_
        refine .code ?_
        refine .region ?_
        refine .move rfl rfl ?_
        refine .add rfl rfl rfl ?_
        refine .assignL rfl rfl (fun i27 e28 => ?_)
        refine .nil ?_
        exact .nil (LPost.norm fun a w h => ⟨F_23, (Fz.le_trans l_7 (Fz.le_trans l_11 l_24)), h.1.sub (.cons (k := 0) rfl (.cons (k := 3) rfl (.nil _))), h.2⟩)
    · skip
      refine .exitOut rfl (LPost.exit fun a w h => ⟨rfl, F_10, (Fz.le_trans l_7 l_11), h.1.sub (.cons (k := 0) rfl (.nil _)), h.2⟩)
  · intro b29 hb0 hk e a w hD
    rcases b29 with b29 | b29
    · skip
      obtain ⟨rfl, F_30, l_31, hA⟩ := hD
      refine interp_exit rfl (GE.app ?_ hk a w hA)
      refine .code ?_
      refine .seq ?_
      refine .region ?_
      refine .move rfl rfl ?_
      refine .lenS rfl rfl Try.underlying39 rfl ?_
      refine .leq rfl rfl rfl ?_
      refine .assign rfl rfl ?_
      refine .nil ?_
      refine .code ?_
      exact .ret0 Try.results19 (.tmp rfl (.nil)) (i := 0) rfl l_31 rfl
    obtain ⟨rfl, F_32, l_33, hA⟩ := hD
    exact interp_ret ((ret_post0 Try.results19 (.tmp rfl (.nil)) (i := 0) rfl l_33 rfl) hk a w hA)

noncomputable def b_wormtublaw12_BottleDrops_2 (b1 : ApiBatch) (x54 : ApiClaim) (s90 : Bool × Int) : Option (Ctl (Bool × Int) ((Bool))) :=
  if (decide (s90.2 < (b1.Draughts.length : Int))) then (((idxL b1.Draughts s90.2).bind fun x94 => ((if (x54.Kind == 0) then (bindv (s90.1 && (decide (x94.From.Age ≥ x54.Number))) fun is_110 => some is_110) else (if (x54.Kind == 1) then (if s90.1 then ((idxO 8 x54.What).bind fun j114 => bindv (decide ((x94.From.Woods j114) ≥ x54.Number)) fun is_141 => some is_141) else (some false)) else (if (x54.Kind == 2) then (if s90.1 then ((idxO 8 x54.What).bind fun j170 => bindv (decide ((x94.From.Places j170) ≥ x54.Number)) fun is_197 => some is_197) else (some false)) else (if (x54.Kind == 3) then (if s90.1 then ((idxL b1.Draughts 0).bind fun x226 => bindv (x94.From.Number == x226.From.Number) fun is_263 => some is_263) else (some false)) else (some s90.1)))) : Option (Bool)).bind fun j292 => some j292 : Option (Bool)).bind fun j295 => some j295 : Option (Bool)).bind fun j298 => bindv (w64 (s90.2 + 1)) fun k301 => some (.next (j298, k301))) else (some (.done s90.1))
noncomputable def b_wormtublaw12_BottleDrops_1 (b1 : ApiBatch) (l_5 : (List ApiClaim)) (r_23 : ((List Int) × Int)) (s50 : Int × Int) : Option (Ctl (Int × Int) ((Int) ⊕ (Bool))) :=
  if (decide (s50.2 < (l_5.length : Int))) then ((idxL l_5 s50.2).bind fun x54 => if (x54.Kind == 7) then ((if (decide (s50.1 < (r_23.1.length : Int))) then ((idxL r_23.1 s50.1).bind fun x67 => some (x67 == s50.2)) else some false).bind fun z80 => (if z80 then (bindv (w64 (s50.1 + 1)) fun n_83 => some n_83) else (some s50.1) : Option (Int)).bind fun j85 => bindv (w64 (s50.2 + 1)) fun i88 => some (.next (j85, i88))) else ((loopM (b_wormtublaw12_BottleDrops_2 b1 x54) (true, 0)).bind fun b303 => ((if (x54.Kind == 4) then (bindv (b1.Water == 0) fun is_307 => some is_307) else (if (x54.Kind == 5) then (bindv (!b1.Filtered) fun is_310 => some is_310) else (if (x54.Kind == 6) then (bindv (!b1.Coloured) fun is_313 => some is_313) else (some b303))) : Option (Bool)).bind fun j315 => some j315 : Option (Bool)).bind fun j318 => (if (decide (s50.1 < (r_23.1.length : Int))) then ((idxL r_23.1 s50.1).bind fun x322 => some (x322 == s50.2)) else some false).bind fun z335 => (if z335 then (bindv (w64 (s50.1 + 1)) fun n_338 => some n_338) else (some s50.1) : Option (Int)).bind fun j340 => if (z335 == j318) then (some (.done (.inr false))) else (bindv (w64 (s50.2 + 1)) fun i344 => some (.next (j340, i344))))) else (some (.done (.inl s50.1)))
noncomputable def m_wormtublaw12_BottleDrops (b1 : ApiBatch) (l_5 : (List ApiClaim)) : Option Bool :=
  if ((decide ((b1.Draughts.length : Int) > 20)) || (decide ((l_5.length : Int) > 40))) then ((m_wormtublaw12_awake).bind fun r_20 => some r_20) else ((m_bottle_False b1 l_5).bind fun r_23 => if (r_23.2 != 0) then ((if ((r_23.1.length : Int) == 0) then ((m_wormtublaw12_awake).bind fun r_31 => some r_31) else some false).bind fun z35 => some z35) else ((m_wormtubref12_Batch b1).bind fun r_39 => (if (!r_39) then some true else ((m_wormtubref12_Claims l_5).bind fun r_43 => some (!r_43))).bind fun z47 => if z47 then (some false) else ((loopM (b_wormtublaw12_BottleDrops_1 b1 l_5 r_23) (0, 0)).bind fun b0 => match b0 with | .inl b346 => ((if (b346 == (r_23.1.length : Int)) then ((m_wormtublaw12_awake).bind fun r_354 => some r_354) else some false).bind fun z358 => some z358) | .inr b346 => (some b346))))
theorem c_wormtublaw12_BottleDrops (F0 : Fz) (b1 : ApiBatch) (p2 : Option Addr) (k3 : Nat) (h4 : RepSl 27 (Ex cApiDraught) F0 p2 k3 b1.Draughts) (l_5 : (List ApiClaim)) (p6 : Option Addr) (k7 : Nat) (h8 : RepSl 3 (Ex cApiClaim) F0 p6 k7 l_5) : CT0 Try.prog 4 [(eApiBatch b1 p2 k3), (.slice p6 l_5.length k7)].toArray F0 (m_wormtublaw12_BottleDrops b1 l_5) (fun r _ v => v = (.bool r)) := by
  refine CT0.enter Try.func4 rfl Try.ntmps4 rfl fun r R => ?_
  unfold m_wormtublaw12_BottleDrops
  refine .seq ?_
  refine .region ?_
  refine .boxF (cs := (cApiBatch b1 p2 k3)) rfl rfl rfl (fun b9 F_10 l_11 hb12 => ?_)
  refine .assign rfl rfl ?_
  refine .nil ?_
  refine .code ?_
  refine .seq ?_
  refine .seq ?_
  refine .region ?_
  refine .fieldAddr rfl Try.underlying38 rfl Try.sizeOf34 rfl ?_
  refine .loadF rfl Try.isAgg34 rfl hb12 rfl ?_
  refine .lenS rfl rfl Try.underlying34 rfl ?_
  refine .gtr rfl rfl rfl ?_
  refine .move rfl rfl ?_
  refine .orP (b := (decide ((b1.Draughts.length : Int) > 20))) (b' := (decide ((l_5.length : Int) > 40))) 4 22 (fun hb13 => ?_) (fun hb14 => ?_) (fun F_15 l_16 => ?_)
  · skip
    refine .onH hb13 rfl rfl ?_
    refine .move rfl rfl ?_
    refine .onH hb13 rfl rfl ?_
    refine .lenS rfl rfl Try.underlying39 rfl ?_
    refine .onH hb13 rfl rfl ?_
    refine .gtr rfl rfl rfl ?_
    refine .pickFH hb13 rfl rfl rfl ?_
    exact .fin 4 rfl rfl (by kernel_rfl) (Fz.le_refl _)
  · skip
    refine .offH hb14 rfl rfl rfl ?_
    refine .offH hb14 rfl rfl rfl ?_
    refine .offH hb14 rfl rfl rfl ?_
    refine .pickTH hb14 rfl rfl rfl ?_
    exact .fin 4 rfl rfl (by kernel_rfl) (Fz.le_refl _)
  refine .nil ?_
  refine .code ?_
  refine .cond rfl (fun hb17 => ?_) (fun hb17 => ?_)
  · skip
    refine .seq ?_
    refine .region ?_
    refine .call0 rfl Try.call11 rfl rfl rfl (c_wormtublaw12_awake _ ) ?_
    rintro r_20 F_18 _ - l_19 rfl
    refine .assign rfl rfl ?_
    refine .nil ?_
    refine .code ?_
    exact .ret0 Try.results4 (.tmp rfl (.nil)) (i := 0) rfl (Fz.le_trans l_11 (Fz.le_trans l_16 l_19)) rfl
  · skip
    refine .skip ?_
    refine .code ?_
    refine .seq ?_
    refine .region ?_
    refine .loadFA rfl Try.isAgg38 Try.sizeOf38 rfl (l_16.mem _ _ hb12) (vs := (cApiBatch b1 p2 k3)) (by kernel_rfl) rfl ?_
    refine .move rfl rfl ?_
    refine .call0 rfl Try.call17 rfl rfl rfl (c_bottle_False _ b1 p2 k3 (h4.mono (Fz.le_trans l_11 l_16)) l_5 p6 k7 (h8.mono (Fz.le_trans l_11 l_16))) ?_
    rintro r_23 F_21 _ - l_22 ⟨p24, k25, rfl, h26⟩
    refine .move rfl rfl ?_
    refine .extract rfl rfl rfl ?_
    refine .extract rfl rfl rfl ?_
    refine .assign rfl rfl ?_
    refine .assign rfl rfl ?_
    refine .nil ?_
    refine .code ?_
    refine .seq ?_
    refine .seq ?_
    refine .region ?_
    refine .move rfl rfl ?_
    refine .neq rfl rfl rfl ?_
    refine .nil ?_
    refine .code ?_
    refine .cond rfl (fun hb27 => ?_) (fun hb27 => ?_)
    · skip
      refine .seq ?_
      refine .region ?_
      refine .move rfl rfl ?_
      refine .lenS rfl rfl Try.underlying40 rfl ?_
      refine .eql rfl rfl rfl ?_
      refine .move rfl rfl ?_
      refine .andM (b := ((r_23.1.length : Int) == 0)) 2 37 (fun hb28 z36 => ?_) (fun hb32 => ?_) (fun z35 F_33 l_34 => ?_)
      · skip
        refine .onH hb28 rfl rfl ?_
        refine .call0 rfl Try.call11 rfl rfl rfl (c_wormtublaw12_awake _ ) ?_
        rintro r_31 F_29 _ - l_30 rfl
        refine .pickTH hb28 rfl rfl rfl ?_
        exact .finZ 2 rfl rfl (by kernel_rfl) l_30
      · skip
        refine .offH hb32 rfl rfl rfl ?_
        refine .pickFH hb32 rfl rfl rfl ?_
        exact .fin 2 rfl rfl (by kernel_rfl) (Fz.le_refl _)
      refine .assign rfl rfl ?_
      refine .nil ?_
      refine .keep (.cons (k := 4) rfl (.nil _)) ?_
      refine .code ?_
      exact .ret0 Try.results4 (.tmp rfl (.nil)) (i := 0) rfl (Fz.le_trans l_11 (Fz.le_trans l_16 (Fz.le_trans l_22 l_34))) rfl
    · skip
      refine .skip ?_
      refine .code ?_
      refine .seq ?_
      refine .seq ?_
      refine .region ?_
      refine .loadFA rfl Try.isAgg38 Try.sizeOf38 rfl ((Fz.le_trans l_16 l_22).mem _ _ hb12) (vs := (cApiBatch b1 p2 k3)) (by kernel_rfl) rfl ?_
      refine .call0 rfl Try.call18 rfl rfl rfl (c_wormtubref12_Batch _ b1 p2 k3 (h4.mono (Fz.le_trans l_11 (Fz.le_trans l_16 l_22)))) ?_
      rintro r_39 F_37 _ - l_38 rfl
      refine .not rfl rfl ?_
      refine .move rfl rfl ?_
      refine .orM (b := (!r_39)) 4 45 (fun hb40 z48 => ?_) (fun hb44 => ?_) (fun z47 F_45 l_46 => ?_)
      · skip
        refine .onH hb40 rfl rfl ?_
        refine .move rfl rfl ?_
        refine .onH hb40 rfl rfl ?_
        refine .call0 rfl Try.call19 rfl rfl rfl (c_wormtubref12_Claims _ l_5 p6 k7 (h8.mono (Fz.le_trans l_11 (Fz.le_trans l_16 (Fz.le_trans l_22 l_38))))) ?_
        rintro r_43 F_41 _ - l_42 rfl
        refine .onH hb40 rfl rfl ?_
        refine .not rfl rfl ?_
        refine .pickFH hb40 rfl rfl rfl ?_
        exact .finZ 4 rfl rfl (by kernel_rfl) l_42
      · skip
        refine .offH hb44 rfl rfl rfl ?_
        refine .offH hb44 rfl rfl rfl ?_
        refine .offH hb44 rfl rfl rfl ?_
        refine .pickTH hb44 rfl rfl rfl ?_
        exact .fin 4 rfl rfl (by kernel_rfl) (Fz.le_refl _)
      refine .nil ?_
      refine .keep (.cons (k := 1) rfl (.cons (k := 2) rfl (.cons (k := 5) rfl (.cons (k := 45) rfl (.nil _))))) ?_
      refine .code ?_
      refine .cond rfl (fun hb49 => ?_) (fun hb49 => ?_)
      · skip
        refine .seq ?_
        refine .region ?_
        refine .assign rfl rfl ?_
        refine .nil ?_
        refine .code ?_
        exact .ret0 Try.results4 (.tmp rfl (.nil)) (i := 0) rfl (Fz.le_trans l_11 (Fz.le_trans l_16 (Fz.le_trans l_22 (Fz.le_trans l_38 l_46)))) rfl
      · skip
        refine .skip ?_
        refine .code ?_
        refine .seq ?_
        refine .region ?_
        refine .assign rfl rfl ?_
        refine .nil ?_
        refine .code ?_
        refine .seq ?_
        refine .seq ?_
        refine .region ?_
        refine .assign rfl rfl ?_
        refine .nil ?_
        refine .code ?_
        refine .block ?_
        refine .keep (.cons (k := 1) rfl (.cons (k := 2) rfl (.cons (k := 5) rfl (.cons (k := 7) rfl (.cons (k := 8) rfl (.nil _)))))) ?_
        refine .loop (fun (s50 : Int × Int) a w => ∃ (F_51 : Fz), F_45 ≤ F_51 ∧ Hd 180 [] [(1, (.slice p6 l_5.length k7)), (2, (.pointer (some ⟨b9, 0, none⟩))), (5, (.slice p24 r_23.1.length k25)), (7, (.int .i64 s50.1)), (8, (.int .i64 s50.2))] F_51 [R] a w) (fun b0 e a w => match b0 with | .inl b346 => e = .exit 0 ∧ ∃ (F_347 : Fz), F_45 ≤ F_347 ∧ Hd 180 [] [(5, (.slice p24 r_23.1.length k25)), (7, (.int .i64 b346))] F_347 [R] a w | .inr b346 => e = .ret ∧ ∃ (F_349 : Fz), F_45 ≤ F_349 ∧ Hd 180 [] [(4, (.bool b346))] F_349 [R] a w) ?_ ?_ ?_
        · exact fun a w h => ⟨F_45, (Fz.le_refl _), h.1.sub (.cons (k := 1) rfl (.cons (k := 2) rfl (.cons (k := 5) rfl (.cons (k := 7) rfl (.cons (k := 8) rfl (.nil _)))))), h.2⟩
        · intro s50 ctl
          refine GC.ex (fun a w ⟨F_51, l_52, hA⟩ => ⟨_, hA, ?_⟩)
          unfold b_wormtublaw12_BottleDrops_1
          refine .seq ?_
          refine .seq ?_
          refine .region ?_
          refine .move rfl rfl ?_
          refine .move rfl rfl ?_
          refine .lenS rfl rfl Try.underlying39 rfl ?_
          refine .lss rfl rfl rfl ?_
          refine .nil ?_
          refine .code ?_
          refine .cond rfl (fun hb53 => ?_) (fun hb53 => ?_)
          · skip
            refine .skip ?_
            refine .code ?_
            refine .seq ?_
            refine .block ?_
            refine .seq ?_
            refine .region ?_
            refine .move rfl rfl ?_
            refine .move rfl rfl ?_
            refine .idx rfl Try.underlying39 Try.sizeOf46 (h8.mono (Fz.le_trans l_11 (Fz.le_trans l_16 (Fz.le_trans l_22 (Fz.le_trans l_38 (Fz.le_trans l_46 l_52)))))) rfl rfl (fun x54 b55 o56 T57 fr58 cs59 e60 hm61 hv62 => ?_)
            refine .loadFA rfl Try.isAgg46 Try.sizeOf46 rfl hm61 hv62 rfl ?_
            refine .alloc (cs := (cApiClaim (ApiClaim.mk 0 0 0))) rfl Try.zeroValue46 rfl (fun b64 => ?_)
            refine .store (cs' := (cApiClaim x54)) Try.sizeOf46 rfl rfl rfl rfl (i := 0) rfl (Nat.le_of_ble_eq_true rfl) rfl (setMany_all (by rfl)) ?_
            refine .nil ?_
            refine .code ?_
            refine .seq ?_
            refine .seq ?_
            refine .region ?_
            refine .fieldAddr rfl Try.underlying46 rfl Try.sizeOf3 rfl ?_
            refine .loadO rfl Try.isAgg3 rfl (i := 0) rfl rfl ?_
            refine .eql rfl rfl rfl ?_
            refine .nil ?_
            refine .code ?_
            refine .cond rfl (fun hb65 => ?_) (fun hb65 => ?_)
            · skip
              refine .seq ?_
              refine .seq ?_
              refine .region ?_
              refine .move rfl rfl ?_
              refine .move rfl rfl ?_
              refine .lenS rfl rfl Try.underlying40 rfl ?_
              refine .lss rfl rfl rfl ?_
              refine .move rfl rfl ?_
              refine .andM (b := (decide (s50.1 < (r_23.1.length : Int)))) 7 70 (fun hb66 z81 => ?_) (fun hb77 => ?_) (fun z80 F_78 l_79 => ?_)
              · skip
                refine .onH hb66 rfl rfl ?_
                refine .move rfl rfl ?_
                refine .onH hb66 rfl rfl ?_
                refine .move rfl rfl ?_
                refine .onH hb66 rfl rfl ?_
                refine .idx rfl Try.underlying40 Try.sizeOf3 (h26.mono (Fz.le_trans l_38 (Fz.le_trans l_46 l_52))) rfl rfl (fun x67 b68 o69 T70 fr71 cs72 e73 hm74 hv75 => ?_)
                refine .onH hb66 rfl rfl ?_
                refine .loadF rfl Try.isAgg3 rfl hm74 (cell_of_take (k := 0) hv75 rfl) ?_
                refine .onH hb66 rfl rfl ?_
                refine .move rfl rfl ?_
                refine .onH hb66 rfl rfl ?_
                refine .eql rfl rfl rfl ?_
                refine .pickTH hb66 rfl rfl rfl ?_
                exact .finZ 7 rfl rfl (by kernel_rfl) (Fz.le_refl _)
              · skip
                refine .offH hb77 rfl rfl rfl ?_
                refine .offH hb77 rfl rfl rfl ?_
                refine .offH hb77 rfl rfl rfl ?_
                refine .offH hb77 rfl rfl rfl ?_
                refine .offH hb77 rfl rfl rfl ?_
                refine .offH hb77 rfl rfl rfl ?_
                refine .pickFH hb77 rfl rfl rfl ?_
                exact .fin 7 rfl rfl (by kernel_rfl) (Fz.le_refl _)
              refine .nil ?_
              refine .code ?_
              refine .keep (.cons (k := 1) rfl (.cons (k := 2) rfl (.cons (k := 5) rfl (.cons (k := 7) rfl (.cons (k := 8) rfl (.cons (k := 70) rfl (.nil _))))))) ?_
              refine GC.join0 (σ := Int) (fun j85 a w => ∃ (F_86 : Fz), F_78 ≤ F_86 ∧ Hd 180 [] [(1, (.slice p6 l_5.length k7)), (2, (.pointer (some ⟨b9, 0, none⟩))), (5, (.slice p24 r_23.1.length k25)), (7, (.int .i64 j85)), (8, (.int .i64 s50.2))] F_86 [pt b64 (.cells (cApiClaim x54).toArray 46), R] a w) (fun sj => ?_) (fun j85 hs0 => GE.ex (fun a w ⟨F_86, l_87, hA⟩ => ⟨_, hA, ?_⟩))
              · skip
                refine .cond rfl (fun hb82 => ?_) (fun hb82 => ?_)
                · skip
                  refine .region ?_
                  refine .move rfl rfl ?_
                  refine .add rfl rfl rfl ?_
                  refine .assignL rfl rfl (fun n_83 e84 => ?_)
                  refine .nil ?_
                  exact .nil fun e a w h => by cases e; exact ⟨rfl, ⟨F_78, (Fz.le_refl _), h.1.sub (.cons (k := 1) rfl (.cons (k := 2) rfl (.cons (k := 5) rfl (.cons (k := 7) rfl (.cons (k := 8) rfl (.nil _)))))), h.2⟩⟩
                · skip
                  refine .skip ?_
                  exact .nil fun e a w h => by cases e; exact ⟨rfl, ⟨F_78, (Fz.le_refl _), h.1.sub (.cons (k := 1) rfl (.cons (k := 2) rfl (.cons (k := 5) rfl (.cons (k := 7) rfl (.cons (k := 8) rfl (.nil _)))))), h.2⟩⟩
              refine .code ?_
              refine .exit rfl ?_
              refine .code ?_
              refine .region ?_
              refine .move rfl rfl ?_
              refine .add rfl rfl rfl ?_
              refine .assignL rfl rfl (fun i88 e89 => ?_)
              refine .nil ?_
              refine .drop 0 ?_
              exact .nil (LPost.norm fun a w h => ⟨F_86, (Fz.le_trans l_52 (Fz.le_trans l_79 l_87)), h.1.sub (.cons (k := 1) rfl (.cons (k := 2) rfl (.cons (k := 5) rfl (.cons (k := 7) rfl (.cons (k := 8) rfl (.nil _)))))), h.2⟩)
            · skip
              refine .skip ?_
              refine .code ?_
              refine .seq ?_
              refine .region ?_
              refine .assign rfl rfl ?_
              refine .nil ?_
              refine .code ?_
              refine .seq ?_
              refine .seq ?_
              refine .region ?_
              refine .assign rfl rfl ?_
              refine .nil ?_
              refine .code ?_
              refine .block ?_
              refine .keep (.cons (k := 1) rfl (.cons (k := 2) rfl (.cons (k := 5) rfl (.cons (k := 7) rfl (.cons (k := 8) rfl (.cons (k := 9) rfl (.cons (k := 10) rfl (.cons (k := 11) rfl (.nil _))))))))) ?_
              refine .loop (fun (s90 : Bool × Int) a w => ∃ (F_91 : Fz), F_51 ≤ F_91 ∧ Hd 180 [] [(1, (.slice p6 l_5.length k7)), (2, (.pointer (some ⟨b9, 0, none⟩))), (5, (.slice p24 r_23.1.length k25)), (7, (.int .i64 s50.1)), (8, (.int .i64 s50.2)), (9, (.pointer (some ⟨b64, 0, none⟩))), (10, (.bool s90.1)), (11, (.int .i64 s90.2))] F_91 [pt b64 (.cells (cApiClaim x54).toArray 46), R] a w) (fun b303 e a w => e = .exit 2 ∧ ∃ (F_304 : Fz), F_51 ≤ F_304 ∧ Hd 180 [] [(1, (.slice p6 l_5.length k7)), (2, (.pointer (some ⟨b9, 0, none⟩))), (5, (.slice p24 r_23.1.length k25)), (7, (.int .i64 s50.1)), (8, (.int .i64 s50.2)), (9, (.pointer (some ⟨b64, 0, none⟩))), (10, (.bool b303))] F_304 [pt b64 (.cells (cApiClaim x54).toArray 46), R] a w) ?_ ?_ ?_
              · exact fun a w h => ⟨F_51, (Fz.le_refl _), h.1.sub (.cons (k := 1) rfl (.cons (k := 2) rfl (.cons (k := 5) rfl (.cons (k := 7) rfl (.cons (k := 8) rfl (.cons (k := 9) rfl (.cons (k := 10) rfl (.cons (k := 11) rfl (.nil _))))))))), h.2⟩
              · intro s90 ctl
                refine GC.ex (fun a w ⟨F_91, l_92, hA⟩ => ⟨_, hA, ?_⟩)
                unfold b_wormtublaw12_BottleDrops_2
                refine .seq ?_
                refine .seq ?_
                refine .region ?_
                refine .move rfl rfl ?_
                refine .fieldAddr rfl Try.underlying38 rfl Try.sizeOf34 rfl ?_
                refine .loadF rfl Try.isAgg34 rfl ((Fz.le_trans l_16 (Fz.le_trans l_22 (Fz.le_trans l_38 (Fz.le_trans l_46 (Fz.le_trans l_52 l_92))))).mem _ _ hb12) rfl ?_
                refine .lenS rfl rfl Try.underlying34 rfl ?_
                refine .lss rfl rfl rfl ?_
                refine .nil ?_
                refine .code ?_
                refine .cond rfl (fun hb93 => ?_) (fun hb93 => ?_)
                · skip
                  refine .skip ?_
                  refine .code ?_
                  refine .seq ?_
                  refine .keep (.cons (k := 1) rfl (.cons (k := 2) rfl (.cons (k := 5) rfl (.cons (k := 7) rfl (.cons (k := 8) rfl (.cons (k := 9) rfl (.cons (k := 10) rfl (.cons (k := 11) rfl (.nil _))))))))) ?_
                  refine GC.join0 (σ := Bool) (fun j298 a w => ∃ (F_299 : Fz), F_91 ≤ F_299 ∧ Hd 180 [] [(1, (.slice p6 l_5.length k7)), (2, (.pointer (some ⟨b9, 0, none⟩))), (5, (.slice p24 r_23.1.length k25)), (7, (.int .i64 s50.1)), (8, (.int .i64 s50.2)), (9, (.pointer (some ⟨b64, 0, none⟩))), (10, (.bool j298)), (11, (.int .i64 s90.2))] F_299 [pt b64 (.cells (cApiClaim x54).toArray 46), R] a w) (fun sj => ?_) (fun j298 hs0 => GE.ex (fun a w ⟨F_299, l_300, hA⟩ => ⟨_, hA, ?_⟩))
                  · skip
                    refine .block ?_
                    refine .seq ?_
                    refine .region ?_
                    refine .fieldAddr rfl Try.underlying38 rfl Try.sizeOf34 rfl ?_
                    refine .loadF rfl Try.isAgg34 rfl ((Fz.le_trans l_16 (Fz.le_trans l_22 (Fz.le_trans l_38 (Fz.le_trans l_46 (Fz.le_trans l_52 l_92))))).mem _ _ hb12) rfl ?_
                    refine .move rfl rfl ?_
                    refine .idx rfl Try.underlying34 Try.sizeOf51 (h4.mono (Fz.le_trans l_11 (Fz.le_trans l_16 (Fz.le_trans l_22 (Fz.le_trans l_38 (Fz.le_trans l_46 (Fz.le_trans l_52 l_92))))))) rfl rfl (fun x94 b95 o96 T97 fr98 cs99 e100 hm101 hv102 => ?_)
                    refine .fieldAddr rfl Try.underlying51 rfl Try.sizeOf49 rfl ?_
                    refine .loadFA rfl Try.isAgg49 Try.sizeOf49 rfl hm101 (take_of_take (k := 0) (us := (cApiCask x94.From)) hv102 rfl rfl) rfl ?_
                    refine .alloc (cs := (cApiCask (ApiCask.mk 0 0 0 0 0 0 0 0 (fun _ => 0) (fun _ => 0)))) rfl Try.zeroValue49 rfl (fun b104 => ?_)
                    refine .store (cs' := (cApiCask x94.From)) Try.sizeOf49 rfl rfl rfl rfl (i := 0) rfl (Nat.le_of_ble_eq_true rfl) rfl (setMany_all (by rfl)) ?_
                    refine .nil ?_
                    refine .code ?_
                    refine .seq ?_
                    refine .region ?_
                    refine .fieldAddr rfl Try.underlying46 rfl Try.sizeOf3 rfl ?_
                    refine .loadO rfl Try.isAgg3 rfl (i := 1) rfl rfl ?_
                    refine .nil ?_
                    refine .code ?_
                    refine .keep (.cons (k := 1) rfl (.cons (k := 2) rfl (.cons (k := 5) rfl (.cons (k := 7) rfl (.cons (k := 8) rfl (.cons (k := 9) rfl (.cons (k := 10) rfl (.cons (k := 11) rfl (.cons (k := 12) rfl (.cons (k := 87) rfl (.nil _))))))))))) ?_
                    refine GC.join0 (σ := Bool) (fun j295 a w => ∃ (F_296 : Fz), F_91 ≤ F_296 ∧ Hd 180 [] [(1, (.slice p6 l_5.length k7)), (2, (.pointer (some ⟨b9, 0, none⟩))), (5, (.slice p24 r_23.1.length k25)), (7, (.int .i64 s50.1)), (8, (.int .i64 s50.2)), (9, (.pointer (some ⟨b64, 0, none⟩))), (10, (.bool j295)), (11, (.int .i64 s90.2))] F_296 [pt b104 (.cells (cApiCask x94.From).toArray 49), pt b64 (.cells (cApiClaim x54).toArray 46), R] a w) (fun sj => ?_) (fun j295 hs0 => GE.ex (fun a w ⟨F_296, l_297, hA⟩ => ⟨_, hA, ?_⟩))
                    · skip
                      refine .block ?_
                      refine .seq ?_
                      refine .region ?_
                      refine .eql rfl rfl rfl ?_
                      refine .assign rfl rfl ?_
                      refine .nil ?_
                      refine .code ?_
                      refine .keep (.cons (k := 1) rfl (.cons (k := 2) rfl (.cons (k := 5) rfl (.cons (k := 7) rfl (.cons (k := 8) rfl (.cons (k := 9) rfl (.cons (k := 10) rfl (.cons (k := 11) rfl (.cons (k := 12) rfl (.cons (k := 87) rfl (.cons (k := 88) rfl (.nil _)))))))))))) ?_
                      refine GC.join0 (σ := Bool) (fun j292 a w => ∃ (F_293 : Fz), F_91 ≤ F_293 ∧ Hd 180 [] [(1, (.slice p6 l_5.length k7)), (2, (.pointer (some ⟨b9, 0, none⟩))), (5, (.slice p24 r_23.1.length k25)), (7, (.int .i64 s50.1)), (8, (.int .i64 s50.2)), (9, (.pointer (some ⟨b64, 0, none⟩))), (10, (.bool j292)), (11, (.int .i64 s90.2))] F_293 [pt b104 (.cells (cApiCask x94.From).toArray 49), pt b64 (.cells (cApiClaim x54).toArray 46), R] a w) (fun sj => ?_) (fun j292 hs0 => GE.ex (fun a w ⟨F_293, l_294, hA⟩ => ⟨_, hA, ?_⟩))
                      · skip
                        refine .cond rfl (fun hb105 => ?_) (fun hb105 => ?_)
                        · skip
                          refine .region ?_
                          refine .move rfl rfl ?_
                          refine .move rfl rfl ?_
                          refine .andP (b := s90.1) (b' := (decide (x94.From.Age ≥ x54.Number))) 6 97 (fun hb106 => ?_) (fun hb107 => ?_) (fun F_108 l_109 => ?_)
                          · skip
                            refine .onH hb106 rfl rfl ?_
                            refine .fieldAddr rfl Try.underlying49 rfl Try.sizeOf3 rfl ?_
                            refine .onH hb106 rfl rfl ?_
                            refine .loadO rfl Try.isAgg3 rfl (i := 0) rfl rfl ?_
                            refine .onH hb106 rfl rfl ?_
                            refine .fieldAddr rfl Try.underlying46 rfl Try.sizeOf3 rfl ?_
                            refine .onH hb106 rfl rfl ?_
                            refine .loadO rfl Try.isAgg3 rfl (i := 1) rfl rfl ?_
                            refine .onH hb106 rfl rfl ?_
                            refine .geq rfl rfl rfl ?_
                            refine .pickTH hb106 rfl rfl rfl ?_
                            exact .fin 6 rfl rfl (by kernel_rfl) (Fz.le_refl _)
                          · skip
                            refine .offH hb107 rfl rfl rfl ?_
                            refine .offH hb107 rfl rfl rfl ?_
                            refine .offH hb107 rfl rfl rfl ?_
                            refine .offH hb107 rfl rfl rfl ?_
                            refine .offH hb107 rfl rfl rfl ?_
                            refine .pickFH hb107 rfl rfl rfl ?_
                            exact .fin 6 rfl rfl (by kernel_rfl) (Fz.le_refl _)
                          refine .assignB rfl rfl (fun is_110 e111 => ?_)
                          refine .nil ?_
                          exact .nil fun e a w h => by cases e; exact ⟨rfl, ⟨F_108, l_109, h.1.sub (.cons (k := 1) rfl (.cons (k := 2) rfl (.cons (k := 5) rfl (.cons (k := 7) rfl (.cons (k := 8) rfl (.cons (k := 9) rfl (.cons (k := 10) rfl (.cons (k := 11) rfl (.nil _))))))))), h.2⟩⟩
                        · skip
                          refine .seq ?_
                          refine .region ?_
                          refine .eql rfl rfl rfl ?_
                          refine .assign rfl rfl ?_
                          refine .nil ?_
                          refine .code ?_
                          refine .cond rfl (fun hb112 => ?_) (fun hb112 => ?_)
                          · skip
                            refine .keep (.cons (k := 1) rfl (.cons (k := 2) rfl (.cons (k := 5) rfl (.cons (k := 7) rfl (.cons (k := 8) rfl (.cons (k := 9) rfl (.cons (k := 10) rfl (.cons (k := 11) rfl (.cons (k := 12) rfl (.nil _)))))))))) ?_
                            refine .ite (fun hb113 => ?_) (fun hb113 => ?_)
                            · skip
                              refine .bind (fun j114 hj115 => ?_)
                              refine .draw ⟨1000000, 0, [], 0⟩ [(100, (.bool s90.1)), (101, (.bool s90.1)), (102, (.pointer (some ⟨b64, 0 + 1, none⟩))), (103, (.int .i64 x54.What)), (104, (.pointer (some ⟨b104, 0 + 8, none⟩))), (105, (.pointer (some ⟨b104, 0 + 8 + j114 * 1, none⟩))), (106, (.int .i64 (x94.From.Woods j114))), (107, (.pointer (some ⟨b64, 0 + 2, none⟩))), (108, (.int .i64 x54.Number)), (109, (.bool (decide ((x94.From.Woods j114) ≥ x54.Number)))), (110, (.bool (decide ((x94.From.Woods j114) ≥ x54.Number))))] mixedOK (by kernel_rfl) (by kernel_rfl) rfl (by kernel_rfl) ?_ (fun F_116 b117 l_118 => ?_)
                              · skip
                                refine .cons (.mk 100 (.bool s90.1) [(10, (.bool s90.1))] rfl rfl rfl rfl (fun S hS hd => (.cons (hS _ _ rfl) (Sub.nil _))) (fun F_119 X l_120 => ?_)) ?_
                                · skip
                                  refine .move rfl rfl ?_
                                  exact .fin1 (Fz.le_refl _)
                                refine .cons (.mk 101 (.bool s90.1) [(100, (.bool s90.1))] rfl rfl rfl rfl (fun S hS hd => (.cons (hd.1 rfl rfl _ _ rfl) (Sub.nil _))) (fun F_121 X l_122 => ?_)) ?_
                                · skip
                                  refine .move rfl rfl ?_
                                  exact .fin1 (Fz.le_refl _)
                                refine .cons (.mk 102 (.pointer (some ⟨b64, 0 + 1, none⟩)) [(9, (.pointer (some ⟨b64, 0, none⟩))), (101, (.bool s90.1))] rfl rfl rfl rfl (fun S hS hd => (.cons (hS _ _ rfl) (.cons (hd.1 rfl rfl _ _ rfl) (Sub.nil _)))) (fun F_123 X l_124 => ?_)) ?_
                                · skip
                                  refine .onH hb113 rfl rfl ?_
                                  refine .fieldAddr rfl Try.underlying46 rfl Try.sizeOf3 rfl ?_
                                  exact .fin1 (Fz.le_refl _)
                                refine .cons (.mk 103 (.int .i64 x54.What) [(101, (.bool s90.1)), (102, (.pointer (some ⟨b64, 0 + 1, none⟩)))] rfl rfl rfl rfl (fun S hS hd => (.cons (hd.2.1 rfl rfl _ _ rfl) (.cons (hd.1 rfl rfl _ _ rfl) (Sub.nil _)))) (fun F_125 X l_126 => ?_)) ?_
                                · skip
                                  refine .onH hb113 rfl rfl ?_
                                  refine .loadO rfl Try.isAgg3 rfl (i := 1) rfl rfl ?_
                                  exact .fin1 (Fz.le_refl _)
                                refine .cons (.mk 104 (.pointer (some ⟨b104, 0 + 8, none⟩)) [(12, (.pointer (some ⟨b104, 0, none⟩))), (101, (.bool s90.1))] rfl rfl rfl rfl (fun S hS hd => (.cons (hS _ _ rfl) (.cons (hd.1 rfl rfl _ _ rfl) (Sub.nil _)))) (fun F_127 X l_128 => ?_)) ?_
                                · skip
                                  refine .onH hb113 rfl rfl ?_
                                  refine .fieldAddr rfl Try.underlying49 rfl Try.sizeOf47 rfl ?_
                                  exact .fin1 (Fz.le_refl _)
                                refine .cons (.mk 105 (.pointer (some ⟨b104, 0 + 8 + j114 * 1, none⟩)) [(101, (.bool s90.1)), (103, (.int .i64 x54.What)), (104, (.pointer (some ⟨b104, 0 + 8, none⟩)))] rfl rfl rfl rfl (fun S hS hd => (.cons (hd.2.2.1 rfl rfl _ _ rfl) (.cons (hd.2.1 rfl rfl _ _ rfl) (.cons (hd.1 rfl rfl _ _ rfl) (Sub.nil _))))) (fun F_129 X l_130 => ?_)) ?_
                                · skip
                                  refine .onH hb113 rfl rfl ?_
                                  refine .indexAddrA rfl Try.underlying47 Try.sizeOf3 rfl rfl hj115 ?_
                                  exact .fin1 (Fz.le_refl _)
                                refine .cons (.mk 106 (.int .i64 (x94.From.Woods j114)) [(101, (.bool s90.1)), (105, (.pointer (some ⟨b104, 0 + 8 + j114 * 1, none⟩)))] rfl rfl rfl rfl (fun S hS hd => (.cons (hd.2.1 rfl rfl _ _ rfl) (.cons (hd.1 rfl rfl _ _ rfl) (Sub.nil _)))) (fun F_131 X l_132 => ?_)) ?_
                                · skip
                                  refine .onH hb113 rfl rfl ?_
                                  refine .loadO rfl Try.isAgg3 rfl (i := 0) rfl (allLt8 (p := fun j114 => ((cApiCask x94.From))[0 + 8 + j114 * 1]? = some (.int .i64 (x94.From.Woods j114))) rfl rfl rfl rfl rfl rfl rfl rfl _ (idxO_some hj115).2.2.2) ?_
                                  exact .fin1 (Fz.le_refl _)
                                refine .cons (.mk 107 (.pointer (some ⟨b64, 0 + 2, none⟩)) [(9, (.pointer (some ⟨b64, 0, none⟩))), (101, (.bool s90.1))] rfl rfl rfl rfl (fun S hS hd => (.cons (hS _ _ rfl) (.cons (hd.1 rfl rfl _ _ rfl) (Sub.nil _)))) (fun F_133 X l_134 => ?_)) ?_
                                · skip
                                  refine .onH hb113 rfl rfl ?_
                                  refine .fieldAddr rfl Try.underlying46 rfl Try.sizeOf3 rfl ?_
                                  exact .fin1 (Fz.le_refl _)
                                refine .cons (.mk 108 (.int .i64 x54.Number) [(101, (.bool s90.1)), (107, (.pointer (some ⟨b64, 0 + 2, none⟩)))] rfl rfl rfl rfl (fun S hS hd => (.cons (hd.2.1 rfl rfl _ _ rfl) (.cons (hd.1 rfl rfl _ _ rfl) (Sub.nil _)))) (fun F_135 X l_136 => ?_)) ?_
                                · skip
                                  refine .onH hb113 rfl rfl ?_
                                  refine .loadO rfl Try.isAgg3 rfl (i := 1) rfl rfl ?_
                                  exact .fin1 (Fz.le_refl _)
                                refine .cons (.mk 109 (.bool (decide ((x94.From.Woods j114) ≥ x54.Number))) [(101, (.bool s90.1)), (106, (.int .i64 (x94.From.Woods j114))), (108, (.int .i64 x54.Number))] rfl rfl rfl rfl (fun S hS hd => (.cons (hd.2.2.1 rfl rfl _ _ rfl) (.cons (hd.1 rfl rfl _ _ rfl) (.cons (hd.2.1 rfl rfl _ _ rfl) (Sub.nil _))))) (fun F_137 X l_138 => ?_)) ?_
                                · skip
                                  refine .onH hb113 rfl rfl ?_
                                  refine .geq rfl rfl rfl ?_
                                  exact .fin1 (Fz.le_refl _)
                                refine .cons (.mk 110 (.bool (decide ((x94.From.Woods j114) ≥ x54.Number))) [(101, (.bool s90.1)), (109, (.bool (decide ((x94.From.Woods j114) ≥ x54.Number))))] rfl rfl rfl rfl (fun S hS hd => (.cons (hd.1 rfl rfl _ _ rfl) (.cons (hd.2.1 rfl rfl _ _ rfl) (Sub.nil _)))) (fun F_139 X l_140 => ?_)) ?_
                                · skip
                                  refine .pickTH hb113  rfl rfl rfl ?_
                                  exact .fin1 (Fz.le_refl _)
                                exact .nil
                              refine .assignB rfl rfl (fun is_141 e142 => ?_)
                              refine .nil ?_
                              exact .nil fun e a w h => by cases e; exact ⟨rfl, ⟨F_116, l_118, h.1.sub (.cons (k := 1) rfl (.cons (k := 2) rfl (.cons (k := 5) rfl (.cons (k := 7) rfl (.cons (k := 8) rfl (.cons (k := 9) rfl (.cons (k := 10) rfl (.cons (k := 11) rfl (.nil _))))))))), h.2⟩⟩
                            · skip
                              refine .draw ⟨1000000, 0, [], 0⟩ [(100, (.bool s90.1)), (101, (.bool s90.1)), (102, undef), (103, undef), (104, undef), (105, undef), (106, undef), (107, undef), (108, undef), (109, undef), (110, (.bool false))] mixedOK (by kernel_rfl) (by kernel_rfl) rfl (by kernel_rfl) ?_ (fun F_143 b144 l_145 => ?_)
                              · skip
                                refine .cons (.mk 100 (.bool s90.1) [(10, (.bool s90.1))] rfl rfl rfl rfl (fun S hS hd => (.cons (hS _ _ rfl) (Sub.nil _))) (fun F_146 X l_147 => ?_)) ?_
                                · skip
                                  refine .move rfl rfl ?_
                                  exact .fin1 (Fz.le_refl _)
                                refine .cons (.mk 101 (.bool s90.1) [(100, (.bool s90.1))] rfl rfl rfl rfl (fun S hS hd => (.cons (hd.1 rfl rfl _ _ rfl) (Sub.nil _))) (fun F_148 X l_149 => ?_)) ?_
                                · skip
                                  refine .move rfl rfl ?_
                                  exact .fin1 (Fz.le_refl _)
                                refine .cons (.mk 102 undef [(9, (.pointer (some ⟨b64, 0, none⟩))), (101, (.bool s90.1))] rfl rfl rfl rfl (fun S hS hd => (.cons (hS _ _ rfl) (.cons (hd.1 rfl rfl _ _ rfl) (Sub.nil _)))) (fun F_150 X l_151 => ?_)) ?_
                                · skip
                                  refine .offH hb113 rfl rfl rfl ?_
                                  exact .fin1 (Fz.le_refl _)
                                refine .cons (.mk 103 undef [(101, (.bool s90.1)), (102, undef)] rfl rfl rfl rfl (fun S hS hd => (.cons (hd.2.1 rfl rfl _ _ rfl) (.cons (hd.1 rfl rfl _ _ rfl) (Sub.nil _)))) (fun F_152 X l_153 => ?_)) ?_
                                · skip
                                  refine .offH hb113 rfl rfl rfl ?_
                                  exact .fin1 (Fz.le_refl _)
                                refine .cons (.mk 104 undef [(12, (.pointer (some ⟨b104, 0, none⟩))), (101, (.bool s90.1))] rfl rfl rfl rfl (fun S hS hd => (.cons (hS _ _ rfl) (.cons (hd.1 rfl rfl _ _ rfl) (Sub.nil _)))) (fun F_154 X l_155 => ?_)) ?_
                                · skip
                                  refine .offH hb113 rfl rfl rfl ?_
                                  exact .fin1 (Fz.le_refl _)
                                refine .cons (.mk 105 undef [(101, (.bool s90.1)), (103, undef), (104, undef)] rfl rfl rfl rfl (fun S hS hd => (.cons (hd.2.2.1 rfl rfl _ _ rfl) (.cons (hd.2.1 rfl rfl _ _ rfl) (.cons (hd.1 rfl rfl _ _ rfl) (Sub.nil _))))) (fun F_156 X l_157 => ?_)) ?_
                                · skip
                                  refine .offH hb113 rfl rfl rfl ?_
                                  exact .fin1 (Fz.le_refl _)
                                refine .cons (.mk 106 undef [(101, (.bool s90.1)), (105, undef)] rfl rfl rfl rfl (fun S hS hd => (.cons (hd.2.1 rfl rfl _ _ rfl) (.cons (hd.1 rfl rfl _ _ rfl) (Sub.nil _)))) (fun F_158 X l_159 => ?_)) ?_
                                · skip
                                  refine .offH hb113 rfl rfl rfl ?_
                                  exact .fin1 (Fz.le_refl _)
                                refine .cons (.mk 107 undef [(9, (.pointer (some ⟨b64, 0, none⟩))), (101, (.bool s90.1))] rfl rfl rfl rfl (fun S hS hd => (.cons (hS _ _ rfl) (.cons (hd.1 rfl rfl _ _ rfl) (Sub.nil _)))) (fun F_160 X l_161 => ?_)) ?_
                                · skip
                                  refine .offH hb113 rfl rfl rfl ?_
                                  exact .fin1 (Fz.le_refl _)
                                refine .cons (.mk 108 undef [(101, (.bool s90.1)), (107, undef)] rfl rfl rfl rfl (fun S hS hd => (.cons (hd.2.1 rfl rfl _ _ rfl) (.cons (hd.1 rfl rfl _ _ rfl) (Sub.nil _)))) (fun F_162 X l_163 => ?_)) ?_
                                · skip
                                  refine .offH hb113 rfl rfl rfl ?_
                                  exact .fin1 (Fz.le_refl _)
                                refine .cons (.mk 109 undef [(101, (.bool s90.1)), (106, undef), (108, undef)] rfl rfl rfl rfl (fun S hS hd => (.cons (hd.2.2.1 rfl rfl _ _ rfl) (.cons (hd.1 rfl rfl _ _ rfl) (.cons (hd.2.1 rfl rfl _ _ rfl) (Sub.nil _))))) (fun F_164 X l_165 => ?_)) ?_
                                · skip
                                  refine .offH hb113 rfl rfl rfl ?_
                                  exact .fin1 (Fz.le_refl _)
                                refine .cons (.mk 110 (.bool false) [(101, (.bool s90.1)), (109, undef)] rfl rfl rfl rfl (fun S hS hd => (.cons (hd.1 rfl rfl _ _ rfl) (.cons (hd.2.1 rfl rfl _ _ rfl) (Sub.nil _)))) (fun F_166 X l_167 => ?_)) ?_
                                · skip
                                  refine .pickFH hb113  rfl rfl rfl ?_
                                  exact .fin1 (Fz.le_refl _)
                                exact .nil
                              refine .assign rfl rfl ?_
                              refine .nil ?_
                              exact .nil fun e a w h => by cases e; exact ⟨rfl, ⟨F_143, l_145, h.1.sub (.cons (k := 1) rfl (.cons (k := 2) rfl (.cons (k := 5) rfl (.cons (k := 7) rfl (.cons (k := 8) rfl (.cons (k := 9) rfl (.cons (k := 10) rfl (.cons (k := 11) rfl (.nil _))))))))), h.2⟩⟩
                          · skip
                            refine .seq ?_
                            refine .region ?_
                            refine .eql rfl rfl rfl ?_
                            refine .assign rfl rfl ?_
                            refine .nil ?_
                            refine .code ?_
                            refine .cond rfl (fun hb168 => ?_) (fun hb168 => ?_)
                            · skip
                              refine .keep (.cons (k := 1) rfl (.cons (k := 2) rfl (.cons (k := 5) rfl (.cons (k := 7) rfl (.cons (k := 8) rfl (.cons (k := 9) rfl (.cons (k := 10) rfl (.cons (k := 11) rfl (.cons (k := 12) rfl (.nil _)))))))))) ?_
                              refine .ite (fun hb169 => ?_) (fun hb169 => ?_)
                              · skip
                                refine .bind (fun j170 hj171 => ?_)
                                refine .draw ⟨1000000, 0, [], 0⟩ [(113, (.bool s90.1)), (114, (.bool s90.1)), (115, (.pointer (some ⟨b64, 0 + 1, none⟩))), (116, (.int .i64 x54.What)), (117, (.pointer (some ⟨b104, 0 + 16, none⟩))), (118, (.pointer (some ⟨b104, 0 + 16 + j170 * 1, none⟩))), (119, (.int .i64 (x94.From.Places j170))), (120, (.pointer (some ⟨b64, 0 + 2, none⟩))), (121, (.int .i64 x54.Number)), (122, (.bool (decide ((x94.From.Places j170) ≥ x54.Number)))), (123, (.bool (decide ((x94.From.Places j170) ≥ x54.Number))))] mixedOK (by kernel_rfl) (by kernel_rfl) rfl (by kernel_rfl) ?_ (fun F_172 b173 l_174 => ?_)
                                · skip
                                  refine .cons (.mk 113 (.bool s90.1) [(10, (.bool s90.1))] rfl rfl rfl rfl (fun S hS hd => (.cons (hS _ _ rfl) (Sub.nil _))) (fun F_175 X l_176 => ?_)) ?_
                                  · skip
                                    refine .move rfl rfl ?_
                                    exact .fin1 (Fz.le_refl _)
                                  refine .cons (.mk 114 (.bool s90.1) [(113, (.bool s90.1))] rfl rfl rfl rfl (fun S hS hd => (.cons (hd.1 rfl rfl _ _ rfl) (Sub.nil _))) (fun F_177 X l_178 => ?_)) ?_
                                  · skip
                                    refine .move rfl rfl ?_
                                    exact .fin1 (Fz.le_refl _)
                                  refine .cons (.mk 115 (.pointer (some ⟨b64, 0 + 1, none⟩)) [(9, (.pointer (some ⟨b64, 0, none⟩))), (114, (.bool s90.1))] rfl rfl rfl rfl (fun S hS hd => (.cons (hS _ _ rfl) (.cons (hd.1 rfl rfl _ _ rfl) (Sub.nil _)))) (fun F_179 X l_180 => ?_)) ?_
                                  · skip
                                    refine .onH hb169 rfl rfl ?_
                                    refine .fieldAddr rfl Try.underlying46 rfl Try.sizeOf3 rfl ?_
                                    exact .fin1 (Fz.le_refl _)
                                  refine .cons (.mk 116 (.int .i64 x54.What) [(114, (.bool s90.1)), (115, (.pointer (some ⟨b64, 0 + 1, none⟩)))] rfl rfl rfl rfl (fun S hS hd => (.cons (hd.2.1 rfl rfl _ _ rfl) (.cons (hd.1 rfl rfl _ _ rfl) (Sub.nil _)))) (fun F_181 X l_182 => ?_)) ?_
                                  · skip
                                    refine .onH hb169 rfl rfl ?_
                                    refine .loadO rfl Try.isAgg3 rfl (i := 1) rfl rfl ?_
                                    exact .fin1 (Fz.le_refl _)
                                  refine .cons (.mk 117 (.pointer (some ⟨b104, 0 + 16, none⟩)) [(12, (.pointer (some ⟨b104, 0, none⟩))), (114, (.bool s90.1))] rfl rfl rfl rfl (fun S hS hd => (.cons (hS _ _ rfl) (.cons (hd.1 rfl rfl _ _ rfl) (Sub.nil _)))) (fun F_183 X l_184 => ?_)) ?_
                                  · skip
                                    refine .onH hb169 rfl rfl ?_
                                    refine .fieldAddr rfl Try.underlying49 rfl Try.sizeOf47 rfl ?_
                                    exact .fin1 (Fz.le_refl _)
                                  refine .cons (.mk 118 (.pointer (some ⟨b104, 0 + 16 + j170 * 1, none⟩)) [(114, (.bool s90.1)), (116, (.int .i64 x54.What)), (117, (.pointer (some ⟨b104, 0 + 16, none⟩)))] rfl rfl rfl rfl (fun S hS hd => (.cons (hd.2.2.1 rfl rfl _ _ rfl) (.cons (hd.2.1 rfl rfl _ _ rfl) (.cons (hd.1 rfl rfl _ _ rfl) (Sub.nil _))))) (fun F_185 X l_186 => ?_)) ?_
                                  · skip
                                    refine .onH hb169 rfl rfl ?_
                                    refine .indexAddrA rfl Try.underlying47 Try.sizeOf3 rfl rfl hj171 ?_
                                    exact .fin1 (Fz.le_refl _)
                                  refine .cons (.mk 119 (.int .i64 (x94.From.Places j170)) [(114, (.bool s90.1)), (118, (.pointer (some ⟨b104, 0 + 16 + j170 * 1, none⟩)))] rfl rfl rfl rfl (fun S hS hd => (.cons (hd.2.1 rfl rfl _ _ rfl) (.cons (hd.1 rfl rfl _ _ rfl) (Sub.nil _)))) (fun F_187 X l_188 => ?_)) ?_
                                  · skip
                                    refine .onH hb169 rfl rfl ?_
                                    refine .loadO rfl Try.isAgg3 rfl (i := 0) rfl (allLt8 (p := fun j170 => ((cApiCask x94.From))[0 + 16 + j170 * 1]? = some (.int .i64 (x94.From.Places j170))) rfl rfl rfl rfl rfl rfl rfl rfl _ (idxO_some hj171).2.2.2) ?_
                                    exact .fin1 (Fz.le_refl _)
                                  refine .cons (.mk 120 (.pointer (some ⟨b64, 0 + 2, none⟩)) [(9, (.pointer (some ⟨b64, 0, none⟩))), (114, (.bool s90.1))] rfl rfl rfl rfl (fun S hS hd => (.cons (hS _ _ rfl) (.cons (hd.1 rfl rfl _ _ rfl) (Sub.nil _)))) (fun F_189 X l_190 => ?_)) ?_
                                  · skip
                                    refine .onH hb169 rfl rfl ?_
                                    refine .fieldAddr rfl Try.underlying46 rfl Try.sizeOf3 rfl ?_
                                    exact .fin1 (Fz.le_refl _)
                                  refine .cons (.mk 121 (.int .i64 x54.Number) [(114, (.bool s90.1)), (120, (.pointer (some ⟨b64, 0 + 2, none⟩)))] rfl rfl rfl rfl (fun S hS hd => (.cons (hd.2.1 rfl rfl _ _ rfl) (.cons (hd.1 rfl rfl _ _ rfl) (Sub.nil _)))) (fun F_191 X l_192 => ?_)) ?_
                                  · skip
                                    refine .onH hb169 rfl rfl ?_
                                    refine .loadO rfl Try.isAgg3 rfl (i := 1) rfl rfl ?_
                                    exact .fin1 (Fz.le_refl _)
                                  refine .cons (.mk 122 (.bool (decide ((x94.From.Places j170) ≥ x54.Number))) [(114, (.bool s90.1)), (119, (.int .i64 (x94.From.Places j170))), (121, (.int .i64 x54.Number))] rfl rfl rfl rfl (fun S hS hd => (.cons (hd.2.2.1 rfl rfl _ _ rfl) (.cons (hd.1 rfl rfl _ _ rfl) (.cons (hd.2.1 rfl rfl _ _ rfl) (Sub.nil _))))) (fun F_193 X l_194 => ?_)) ?_
                                  · skip
                                    refine .onH hb169 rfl rfl ?_
                                    refine .geq rfl rfl rfl ?_
                                    exact .fin1 (Fz.le_refl _)
                                  refine .cons (.mk 123 (.bool (decide ((x94.From.Places j170) ≥ x54.Number))) [(114, (.bool s90.1)), (122, (.bool (decide ((x94.From.Places j170) ≥ x54.Number))))] rfl rfl rfl rfl (fun S hS hd => (.cons (hd.1 rfl rfl _ _ rfl) (.cons (hd.2.1 rfl rfl _ _ rfl) (Sub.nil _)))) (fun F_195 X l_196 => ?_)) ?_
                                  · skip
                                    refine .pickTH hb169  rfl rfl rfl ?_
                                    exact .fin1 (Fz.le_refl _)
                                  exact .nil
                                refine .assignB rfl rfl (fun is_197 e198 => ?_)
                                refine .nil ?_
                                exact .nil fun e a w h => by cases e; exact ⟨rfl, ⟨F_172, l_174, h.1.sub (.cons (k := 1) rfl (.cons (k := 2) rfl (.cons (k := 5) rfl (.cons (k := 7) rfl (.cons (k := 8) rfl (.cons (k := 9) rfl (.cons (k := 10) rfl (.cons (k := 11) rfl (.nil _))))))))), h.2⟩⟩
                              · skip
                                refine .draw ⟨1000000, 0, [], 0⟩ [(113, (.bool s90.1)), (114, (.bool s90.1)), (115, undef), (116, undef), (117, undef), (118, undef), (119, undef), (120, undef), (121, undef), (122, undef), (123, (.bool false))] mixedOK (by kernel_rfl) (by kernel_rfl) rfl (by kernel_rfl) ?_ (fun F_199 b200 l_201 => ?_)
                                · skip
                                  refine .cons (.mk 113 (.bool s90.1) [(10, (.bool s90.1))] rfl rfl rfl rfl (fun S hS hd => (.cons (hS _ _ rfl) (Sub.nil _))) (fun F_202 X l_203 => ?_)) ?_
                                  · skip
                                    refine .move rfl rfl ?_
                                    exact .fin1 (Fz.le_refl _)
                                  refine .cons (.mk 114 (.bool s90.1) [(113, (.bool s90.1))] rfl rfl rfl rfl (fun S hS hd => (.cons (hd.1 rfl rfl _ _ rfl) (Sub.nil _))) (fun F_204 X l_205 => ?_)) ?_
                                  · skip
                                    refine .move rfl rfl ?_
                                    exact .fin1 (Fz.le_refl _)
                                  refine .cons (.mk 115 undef [(9, (.pointer (some ⟨b64, 0, none⟩))), (114, (.bool s90.1))] rfl rfl rfl rfl (fun S hS hd => (.cons (hS _ _ rfl) (.cons (hd.1 rfl rfl _ _ rfl) (Sub.nil _)))) (fun F_206 X l_207 => ?_)) ?_
                                  · skip
                                    refine .offH hb169 rfl rfl rfl ?_
                                    exact .fin1 (Fz.le_refl _)
                                  refine .cons (.mk 116 undef [(114, (.bool s90.1)), (115, undef)] rfl rfl rfl rfl (fun S hS hd => (.cons (hd.2.1 rfl rfl _ _ rfl) (.cons (hd.1 rfl rfl _ _ rfl) (Sub.nil _)))) (fun F_208 X l_209 => ?_)) ?_
                                  · skip
                                    refine .offH hb169 rfl rfl rfl ?_
                                    exact .fin1 (Fz.le_refl _)
                                  refine .cons (.mk 117 undef [(12, (.pointer (some ⟨b104, 0, none⟩))), (114, (.bool s90.1))] rfl rfl rfl rfl (fun S hS hd => (.cons (hS _ _ rfl) (.cons (hd.1 rfl rfl _ _ rfl) (Sub.nil _)))) (fun F_210 X l_211 => ?_)) ?_
                                  · skip
                                    refine .offH hb169 rfl rfl rfl ?_
                                    exact .fin1 (Fz.le_refl _)
                                  refine .cons (.mk 118 undef [(114, (.bool s90.1)), (116, undef), (117, undef)] rfl rfl rfl rfl (fun S hS hd => (.cons (hd.2.2.1 rfl rfl _ _ rfl) (.cons (hd.2.1 rfl rfl _ _ rfl) (.cons (hd.1 rfl rfl _ _ rfl) (Sub.nil _))))) (fun F_212 X l_213 => ?_)) ?_
                                  · skip
                                    refine .offH hb169 rfl rfl rfl ?_
                                    exact .fin1 (Fz.le_refl _)
                                  refine .cons (.mk 119 undef [(114, (.bool s90.1)), (118, undef)] rfl rfl rfl rfl (fun S hS hd => (.cons (hd.2.1 rfl rfl _ _ rfl) (.cons (hd.1 rfl rfl _ _ rfl) (Sub.nil _)))) (fun F_214 X l_215 => ?_)) ?_
                                  · skip
                                    refine .offH hb169 rfl rfl rfl ?_
                                    exact .fin1 (Fz.le_refl _)
                                  refine .cons (.mk 120 undef [(9, (.pointer (some ⟨b64, 0, none⟩))), (114, (.bool s90.1))] rfl rfl rfl rfl (fun S hS hd => (.cons (hS _ _ rfl) (.cons (hd.1 rfl rfl _ _ rfl) (Sub.nil _)))) (fun F_216 X l_217 => ?_)) ?_
                                  · skip
                                    refine .offH hb169 rfl rfl rfl ?_
                                    exact .fin1 (Fz.le_refl _)
                                  refine .cons (.mk 121 undef [(114, (.bool s90.1)), (120, undef)] rfl rfl rfl rfl (fun S hS hd => (.cons (hd.2.1 rfl rfl _ _ rfl) (.cons (hd.1 rfl rfl _ _ rfl) (Sub.nil _)))) (fun F_218 X l_219 => ?_)) ?_
                                  · skip
                                    refine .offH hb169 rfl rfl rfl ?_
                                    exact .fin1 (Fz.le_refl _)
                                  refine .cons (.mk 122 undef [(114, (.bool s90.1)), (119, undef), (121, undef)] rfl rfl rfl rfl (fun S hS hd => (.cons (hd.2.2.1 rfl rfl _ _ rfl) (.cons (hd.1 rfl rfl _ _ rfl) (.cons (hd.2.1 rfl rfl _ _ rfl) (Sub.nil _))))) (fun F_220 X l_221 => ?_)) ?_
                                  · skip
                                    refine .offH hb169 rfl rfl rfl ?_
                                    exact .fin1 (Fz.le_refl _)
                                  refine .cons (.mk 123 (.bool false) [(114, (.bool s90.1)), (122, undef)] rfl rfl rfl rfl (fun S hS hd => (.cons (hd.1 rfl rfl _ _ rfl) (.cons (hd.2.1 rfl rfl _ _ rfl) (Sub.nil _)))) (fun F_222 X l_223 => ?_)) ?_
                                  · skip
                                    refine .pickFH hb169  rfl rfl rfl ?_
                                    exact .fin1 (Fz.le_refl _)
                                  exact .nil
                                refine .assign rfl rfl ?_
                                refine .nil ?_
                                exact .nil fun e a w h => by cases e; exact ⟨rfl, ⟨F_199, l_201, h.1.sub (.cons (k := 1) rfl (.cons (k := 2) rfl (.cons (k := 5) rfl (.cons (k := 7) rfl (.cons (k := 8) rfl (.cons (k := 9) rfl (.cons (k := 10) rfl (.cons (k := 11) rfl (.nil _))))))))), h.2⟩⟩
                            · skip
                              refine .seq ?_
                              refine .region ?_
                              refine .eql rfl rfl rfl ?_
                              refine .assign rfl rfl ?_
                              refine .nil ?_
                              refine .code ?_
                              refine .cond rfl (fun hb224 => ?_) (fun hb224 => ?_)
                              · skip
                                refine .keep (.cons (k := 1) rfl (.cons (k := 2) rfl (.cons (k := 5) rfl (.cons (k := 7) rfl (.cons (k := 8) rfl (.cons (k := 9) rfl (.cons (k := 10) rfl (.cons (k := 11) rfl (.cons (k := 12) rfl (.nil _)))))))))) ?_
                                refine .ite (fun hb225 => ?_) (fun hb225 => ?_)
                                · skip
                                  refine .bind (fun x226 e232 => ?_)
                                  obtain ⟨b227, o228, T229, fr230, cs231, hm233, hv234, hq235⟩ := RepSl.idxE (h4.mono (Fz.le_trans l_11 (Fz.le_trans l_16 (Fz.le_trans l_22 (Fz.le_trans l_38 (Fz.le_trans l_46 (Fz.le_trans l_52 l_92))))))) e232
                                  refine .draw ⟨1000000, 0, [], 0⟩ [(126, (.bool s90.1)), (127, (.bool s90.1)), (128, (.pointer (some ⟨b104, 0 + 0, none⟩))), (129, (.int .i64 x94.From.Number)), (130, (.pointer (some ⟨b9, 0 + 0, none⟩))), (131, (.slice p2 b1.Draughts.length k3)), (132, (.pointer (some ⟨b227, o228, none⟩))), (133, (.pointer (some ⟨b227, o228, none⟩))), (134, (.pointer (some ⟨b227, o228, none⟩))), (135, (.int .i64 x226.From.Number)), (136, (.bool (x94.From.Number == x226.From.Number))), (137, (.bool (x94.From.Number == x226.From.Number)))] mixedOK (by kernel_rfl) (by kernel_rfl) rfl (by kernel_rfl) ?_ (fun F_236 b237 l_238 => ?_)
                                  · skip
                                    refine .cons (.mk 126 (.bool s90.1) [(10, (.bool s90.1))] rfl rfl rfl rfl (fun S hS hd => (.cons (hS _ _ rfl) (Sub.nil _))) (fun F_239 X l_240 => ?_)) ?_
                                    · skip
                                      refine .move rfl rfl ?_
                                      exact .fin1 (Fz.le_refl _)
                                    refine .cons (.mk 127 (.bool s90.1) [(126, (.bool s90.1))] rfl rfl rfl rfl (fun S hS hd => (.cons (hd.1 rfl rfl _ _ rfl) (Sub.nil _))) (fun F_241 X l_242 => ?_)) ?_
                                    · skip
                                      refine .move rfl rfl ?_
                                      exact .fin1 (Fz.le_refl _)
                                    refine .cons (.mk 128 (.pointer (some ⟨b104, 0 + 0, none⟩)) [(12, (.pointer (some ⟨b104, 0, none⟩))), (127, (.bool s90.1))] rfl rfl rfl rfl (fun S hS hd => (.cons (hS _ _ rfl) (.cons (hd.1 rfl rfl _ _ rfl) (Sub.nil _)))) (fun F_243 X l_244 => ?_)) ?_
                                    · skip
                                      refine .onH hb225 rfl rfl ?_
                                      refine .fieldAddr rfl Try.underlying49 rfl Try.sizeOf3 rfl ?_
                                      exact .fin1 (Fz.le_refl _)
                                    refine .cons (.mk 129 (.int .i64 x94.From.Number) [(127, (.bool s90.1)), (128, (.pointer (some ⟨b104, 0 + 0, none⟩)))] rfl rfl rfl rfl (fun S hS hd => (.cons (hd.2.1 rfl rfl _ _ rfl) (.cons (hd.1 rfl rfl _ _ rfl) (Sub.nil _)))) (fun F_245 X l_246 => ?_)) ?_
                                    · skip
                                      refine .onH hb225 rfl rfl ?_
                                      refine .loadO rfl Try.isAgg3 rfl (i := 0) rfl rfl ?_
                                      exact .fin1 (Fz.le_refl _)
                                    refine .cons (.mk 130 (.pointer (some ⟨b9, 0 + 0, none⟩)) [(2, (.pointer (some ⟨b9, 0, none⟩))), (127, (.bool s90.1))] rfl rfl rfl rfl (fun S hS hd => (.cons (hS _ _ rfl) (.cons (hd.1 rfl rfl _ _ rfl) (Sub.nil _)))) (fun F_247 X l_248 => ?_)) ?_
                                    · skip
                                      refine .onH hb225 rfl rfl ?_
                                      refine .fieldAddr rfl Try.underlying38 rfl Try.sizeOf34 rfl ?_
                                      exact .fin1 (Fz.le_refl _)
                                    refine .cons (.mk 131 (.slice p2 b1.Draughts.length k3) [(127, (.bool s90.1)), (130, (.pointer (some ⟨b9, 0 + 0, none⟩)))] rfl rfl rfl rfl (fun S hS hd => (.cons (hd.2.1 rfl rfl _ _ rfl) (.cons (hd.1 rfl rfl _ _ rfl) (Sub.nil _)))) (fun F_249 X l_250 => ?_)) ?_
                                    · skip
                                      refine .onH hb225 rfl rfl ?_
                                      refine .loadF rfl Try.isAgg34 rfl ((Fz.le_trans l_16 (Fz.le_trans l_22 (Fz.le_trans l_38 (Fz.le_trans l_46 (Fz.le_trans l_52 (Fz.le_trans l_92 l_250)))))).mem _ _ hb12) rfl ?_
                                      exact .fin1 (Fz.le_refl _)
                                    refine .cons (.mk 132 (.pointer (some ⟨b227, o228, none⟩)) [(127, (.bool s90.1)), (131, (.slice p2 b1.Draughts.length k3))] rfl rfl rfl rfl (fun S hS hd => (.cons (hd.2.1 rfl rfl _ _ rfl) (.cons (hd.1 rfl rfl _ _ rfl) (Sub.nil _)))) (fun F_251 X l_252 => ?_)) ?_
                                    · skip
                                      refine .onH hb225 rfl rfl ?_
                                      refine .idxQ rfl Try.underlying34 Try.sizeOf51 hq235 rfl rfl ?_
                                      exact .fin1 (Fz.le_refl _)
                                    refine .cons (.mk 133 (.pointer (some ⟨b227, o228, none⟩)) [(127, (.bool s90.1)), (132, (.pointer (some ⟨b227, o228, none⟩)))] rfl rfl rfl rfl (fun S hS hd => (.cons (hd.2.1 rfl rfl _ _ rfl) (.cons (hd.1 rfl rfl _ _ rfl) (Sub.nil _)))) (fun F_253 X l_254 => ?_)) ?_
                                    · skip
                                      refine .onH hb225 rfl rfl ?_
                                      refine .fieldAddr rfl Try.underlying51 rfl Try.sizeOf49 rfl ?_
                                      exact .fin1 (Fz.le_refl _)
                                    refine .cons (.mk 134 (.pointer (some ⟨b227, o228, none⟩)) [(127, (.bool s90.1)), (133, (.pointer (some ⟨b227, o228, none⟩)))] rfl rfl rfl rfl (fun S hS hd => (.cons (hd.2.1 rfl rfl _ _ rfl) (.cons (hd.1 rfl rfl _ _ rfl) (Sub.nil _)))) (fun F_255 X l_256 => ?_)) ?_
                                    · skip
                                      refine .onH hb225 rfl rfl ?_
                                      refine .fieldAddr rfl Try.underlying49 rfl Try.sizeOf3 rfl ?_
                                      exact .fin1 (Fz.le_refl _)
                                    refine .cons (.mk 135 (.int .i64 x226.From.Number) [(127, (.bool s90.1)), (134, (.pointer (some ⟨b227, o228, none⟩)))] rfl rfl rfl rfl (fun S hS hd => (.cons (hd.2.1 rfl rfl _ _ rfl) (.cons (hd.1 rfl rfl _ _ rfl) (Sub.nil _)))) (fun F_257 X l_258 => ?_)) ?_
                                    · skip
                                      refine .onH hb225 rfl rfl ?_
                                      refine .loadF rfl Try.isAgg3 rfl (l_258.mem _ _ hm233) (cell_of_take (k := 0) hv234 rfl) ?_
                                      exact .fin1 (Fz.le_refl _)
                                    refine .cons (.mk 136 (.bool (x94.From.Number == x226.From.Number)) [(127, (.bool s90.1)), (129, (.int .i64 x94.From.Number)), (135, (.int .i64 x226.From.Number))] rfl rfl rfl rfl (fun S hS hd => (.cons (hd.2.2.1 rfl rfl _ _ rfl) (.cons (hd.1 rfl rfl _ _ rfl) (.cons (hd.2.1 rfl rfl _ _ rfl) (Sub.nil _))))) (fun F_259 X l_260 => ?_)) ?_
                                    · skip
                                      refine .onH hb225 rfl rfl ?_
                                      refine .eql rfl rfl rfl ?_
                                      exact .fin1 (Fz.le_refl _)
                                    refine .cons (.mk 137 (.bool (x94.From.Number == x226.From.Number)) [(127, (.bool s90.1)), (136, (.bool (x94.From.Number == x226.From.Number)))] rfl rfl rfl rfl (fun S hS hd => (.cons (hd.1 rfl rfl _ _ rfl) (.cons (hd.2.1 rfl rfl _ _ rfl) (Sub.nil _)))) (fun F_261 X l_262 => ?_)) ?_
                                    · skip
                                      refine .pickTH hb225  rfl rfl rfl ?_
                                      exact .fin1 (Fz.le_refl _)
                                    exact .nil
                                  refine .assignB rfl rfl (fun is_263 e264 => ?_)
                                  refine .nil ?_
                                  exact .nil fun e a w h => by cases e; exact ⟨rfl, ⟨F_236, l_238, h.1.sub (.cons (k := 1) rfl (.cons (k := 2) rfl (.cons (k := 5) rfl (.cons (k := 7) rfl (.cons (k := 8) rfl (.cons (k := 9) rfl (.cons (k := 10) rfl (.cons (k := 11) rfl (.nil _))))))))), h.2⟩⟩
                                · skip
                                  refine .draw ⟨1000000, 0, [], 0⟩ [(126, (.bool s90.1)), (127, (.bool s90.1)), (128, undef), (129, undef), (130, undef), (131, undef), (132, undef), (133, undef), (134, undef), (135, undef), (136, undef), (137, (.bool false))] mixedOK (by kernel_rfl) (by kernel_rfl) rfl (by kernel_rfl) ?_ (fun F_265 b266 l_267 => ?_)
                                  · skip
                                    refine .cons (.mk 126 (.bool s90.1) [(10, (.bool s90.1))] rfl rfl rfl rfl (fun S hS hd => (.cons (hS _ _ rfl) (Sub.nil _))) (fun F_268 X l_269 => ?_)) ?_
                                    · skip
                                      refine .move rfl rfl ?_
                                      exact .fin1 (Fz.le_refl _)
                                    refine .cons (.mk 127 (.bool s90.1) [(126, (.bool s90.1))] rfl rfl rfl rfl (fun S hS hd => (.cons (hd.1 rfl rfl _ _ rfl) (Sub.nil _))) (fun F_270 X l_271 => ?_)) ?_
                                    · skip
                                      refine .move rfl rfl ?_
                                      exact .fin1 (Fz.le_refl _)
                                    refine .cons (.mk 128 undef [(12, (.pointer (some ⟨b104, 0, none⟩))), (127, (.bool s90.1))] rfl rfl rfl rfl (fun S hS hd => (.cons (hS _ _ rfl) (.cons (hd.1 rfl rfl _ _ rfl) (Sub.nil _)))) (fun F_272 X l_273 => ?_)) ?_
                                    · skip
                                      refine .offH hb225 rfl rfl rfl ?_
                                      exact .fin1 (Fz.le_refl _)
                                    refine .cons (.mk 129 undef [(127, (.bool s90.1)), (128, undef)] rfl rfl rfl rfl (fun S hS hd => (.cons (hd.2.1 rfl rfl _ _ rfl) (.cons (hd.1 rfl rfl _ _ rfl) (Sub.nil _)))) (fun F_274 X l_275 => ?_)) ?_
                                    · skip
                                      refine .offH hb225 rfl rfl rfl ?_
                                      exact .fin1 (Fz.le_refl _)
                                    refine .cons (.mk 130 undef [(2, (.pointer (some ⟨b9, 0, none⟩))), (127, (.bool s90.1))] rfl rfl rfl rfl (fun S hS hd => (.cons (hS _ _ rfl) (.cons (hd.1 rfl rfl _ _ rfl) (Sub.nil _)))) (fun F_276 X l_277 => ?_)) ?_
                                    · skip
                                      refine .offH hb225 rfl rfl rfl ?_
                                      exact .fin1 (Fz.le_refl _)
                                    refine .cons (.mk 131 undef [(127, (.bool s90.1)), (130, undef)] rfl rfl rfl rfl (fun S hS hd => (.cons (hd.2.1 rfl rfl _ _ rfl) (.cons (hd.1 rfl rfl _ _ rfl) (Sub.nil _)))) (fun F_278 X l_279 => ?_)) ?_
                                    · skip
                                      refine .offH hb225 rfl rfl rfl ?_
                                      exact .fin1 (Fz.le_refl _)
                                    refine .cons (.mk 132 undef [(127, (.bool s90.1)), (131, undef)] rfl rfl rfl rfl (fun S hS hd => (.cons (hd.2.1 rfl rfl _ _ rfl) (.cons (hd.1 rfl rfl _ _ rfl) (Sub.nil _)))) (fun F_280 X l_281 => ?_)) ?_
                                    · skip
                                      refine .offH hb225 rfl rfl rfl ?_
                                      exact .fin1 (Fz.le_refl _)
                                    refine .cons (.mk 133 undef [(127, (.bool s90.1)), (132, undef)] rfl rfl rfl rfl (fun S hS hd => (.cons (hd.2.1 rfl rfl _ _ rfl) (.cons (hd.1 rfl rfl _ _ rfl) (Sub.nil _)))) (fun F_282 X l_283 => ?_)) ?_
                                    · skip
                                      refine .offH hb225 rfl rfl rfl ?_
                                      exact .fin1 (Fz.le_refl _)
                                    refine .cons (.mk 134 undef [(127, (.bool s90.1)), (133, undef)] rfl rfl rfl rfl (fun S hS hd => (.cons (hd.2.1 rfl rfl _ _ rfl) (.cons (hd.1 rfl rfl _ _ rfl) (Sub.nil _)))) (fun F_284 X l_285 => ?_)) ?_
                                    · skip
                                      refine .offH hb225 rfl rfl rfl ?_
                                      exact .fin1 (Fz.le_refl _)
                                    refine .cons (.mk 135 undef [(127, (.bool s90.1)), (134, undef)] rfl rfl rfl rfl (fun S hS hd => (.cons (hd.2.1 rfl rfl _ _ rfl) (.cons (hd.1 rfl rfl _ _ rfl) (Sub.nil _)))) (fun F_286 X l_287 => ?_)) ?_
                                    · skip
                                      refine .offH hb225 rfl rfl rfl ?_
                                      exact .fin1 (Fz.le_refl _)
                                    refine .cons (.mk 136 undef [(127, (.bool s90.1)), (129, undef), (135, undef)] rfl rfl rfl rfl (fun S hS hd => (.cons (hd.2.2.1 rfl rfl _ _ rfl) (.cons (hd.1 rfl rfl _ _ rfl) (.cons (hd.2.1 rfl rfl _ _ rfl) (Sub.nil _))))) (fun F_288 X l_289 => ?_)) ?_
                                    · skip
                                      refine .offH hb225 rfl rfl rfl ?_
                                      exact .fin1 (Fz.le_refl _)
                                    refine .cons (.mk 137 (.bool false) [(127, (.bool s90.1)), (136, undef)] rfl rfl rfl rfl (fun S hS hd => (.cons (hd.1 rfl rfl _ _ rfl) (.cons (hd.2.1 rfl rfl _ _ rfl) (Sub.nil _)))) (fun F_290 X l_291 => ?_)) ?_
                                    · skip
                                      refine .pickFH hb225  rfl rfl rfl ?_
                                      exact .fin1 (Fz.le_refl _)
                                    exact .nil
                                  refine .assign rfl rfl ?_
                                  refine .nil ?_
                                  exact .nil fun e a w h => by cases e; exact ⟨rfl, ⟨F_265, l_267, h.1.sub (.cons (k := 1) rfl (.cons (k := 2) rfl (.cons (k := 5) rfl (.cons (k := 7) rfl (.cons (k := 8) rfl (.cons (k := 9) rfl (.cons (k := 10) rfl (.cons (k := 11) rfl (.nil _))))))))), h.2⟩⟩
                              · skip
                                refine .skip ?_
                                exact .nil fun e a w h => by cases e; exact ⟨rfl, ⟨F_91, (Fz.le_refl _), h.1.sub (.cons (k := 1) rfl (.cons (k := 2) rfl (.cons (k := 5) rfl (.cons (k := 7) rfl (.cons (k := 8) rfl (.cons (k := 9) rfl (.cons (k := 10) rfl (.cons (k := 11) rfl (.nil _))))))))), h.2⟩⟩
                      refine .block ?_
                      exact .nil fun e a w h => by cases e; exact ⟨rfl, ⟨F_293, l_294, h.1.sub (.cons (k := 1) rfl (.cons (k := 2) rfl (.cons (k := 5) rfl (.cons (k := 7) rfl (.cons (k := 8) rfl (.cons (k := 9) rfl (.cons (k := 10) rfl (.cons (k := 11) rfl (.nil _))))))))), h.2⟩⟩
                    refine .block ?_
                    refine .drop 0 ?_
                    exact .nil fun e a w h => by cases e; exact ⟨rfl, ⟨F_296, l_297, h.1.sub (.cons (k := 1) rfl (.cons (k := 2) rfl (.cons (k := 5) rfl (.cons (k := 7) rfl (.cons (k := 8) rfl (.cons (k := 9) rfl (.cons (k := 10) rfl (.cons (k := 11) rfl (.nil _))))))))), h.2⟩⟩
                  refine .code ?_
                  refine .region ?_
                  refine .move rfl rfl ?_
                  refine .add rfl rfl rfl ?_
                  refine .assignL rfl rfl (fun k301 e302 => ?_)
                  refine .nil ?_
                  exact .nil (LPost.norm fun a w h => ⟨F_299, (Fz.le_trans l_92 l_300), h.1.sub (.cons (k := 1) rfl (.cons (k := 2) rfl (.cons (k := 5) rfl (.cons (k := 7) rfl (.cons (k := 8) rfl (.cons (k := 9) rfl (.cons (k := 10) rfl (.cons (k := 11) rfl (.nil _))))))))), h.2⟩)
                · skip
                  refine .exitOut rfl (LPost.exit fun a w h => ⟨rfl, F_91, l_92, h.1.sub (.cons (k := 1) rfl (.cons (k := 2) rfl (.cons (k := 5) rfl (.cons (k := 7) rfl (.cons (k := 8) rfl (.cons (k := 9) rfl (.cons (k := 10) rfl (.nil _)))))))), h.2⟩)
              · intro b303 hb0 hk e a w hD
                obtain ⟨rfl, F_304, l_305, hA⟩ := hD
                refine interp_exit rfl (GE.app ?_ hk a w hA)
                refine .code ?_
                refine .seq ?_
                refine .seq ?_
                refine .region ?_
                refine .fieldAddr rfl Try.underlying46 rfl Try.sizeOf3 rfl ?_
                refine .loadO rfl Try.isAgg3 rfl (i := 0) rfl rfl ?_
                refine .nil ?_
                refine .code ?_
                refine .keep (.cons (k := 1) rfl (.cons (k := 2) rfl (.cons (k := 5) rfl (.cons (k := 7) rfl (.cons (k := 8) rfl (.cons (k := 10) rfl (.cons (k := 139) rfl (.nil _)))))))) ?_
                refine GC.join0 (σ := Bool) (fun j318 a w => ∃ (F_319 : Fz), F_304 ≤ F_319 ∧ Hd 180 [] [(1, (.slice p6 l_5.length k7)), (2, (.pointer (some ⟨b9, 0, none⟩))), (5, (.slice p24 r_23.1.length k25)), (7, (.int .i64 s50.1)), (8, (.int .i64 s50.2)), (10, (.bool j318))] F_319 [pt b64 (.cells (cApiClaim x54).toArray 46), R] a w) (fun sj => ?_) (fun j318 hs0 => GE.ex (fun a w ⟨F_319, l_320, hA⟩ => ⟨_, hA, ?_⟩))
                · skip
                  refine .block ?_
                  refine .seq ?_
                  refine .region ?_
                  refine .eql rfl rfl rfl ?_
                  refine .assign rfl rfl ?_
                  refine .nil ?_
                  refine .code ?_
                  refine .keep (.cons (k := 1) rfl (.cons (k := 2) rfl (.cons (k := 5) rfl (.cons (k := 7) rfl (.cons (k := 8) rfl (.cons (k := 10) rfl (.cons (k := 139) rfl (.cons (k := 140) rfl (.nil _))))))))) ?_
                  refine GC.join0 (σ := Bool) (fun j315 a w => ∃ (F_316 : Fz), F_304 ≤ F_316 ∧ Hd 180 [] [(1, (.slice p6 l_5.length k7)), (2, (.pointer (some ⟨b9, 0, none⟩))), (5, (.slice p24 r_23.1.length k25)), (7, (.int .i64 s50.1)), (8, (.int .i64 s50.2)), (10, (.bool j315))] F_316 [pt b64 (.cells (cApiClaim x54).toArray 46), R] a w) (fun sj => ?_) (fun j315 hs0 => GE.ex (fun a w ⟨F_316, l_317, hA⟩ => ⟨_, hA, ?_⟩))
                  · skip
                    refine .cond rfl (fun hb306 => ?_) (fun hb306 => ?_)
                    · skip
                      refine .region ?_
                      refine .fieldAddr rfl Try.underlying38 rfl Try.sizeOf3 rfl ?_
                      refine .loadF rfl Try.isAgg3 rfl ((Fz.le_trans l_16 (Fz.le_trans l_22 (Fz.le_trans l_38 (Fz.le_trans l_46 (Fz.le_trans l_52 l_305))))).mem _ _ hb12) rfl ?_
                      refine .eql rfl rfl rfl ?_
                      refine .assignB rfl rfl (fun is_307 e308 => ?_)
                      refine .nil ?_
                      exact .nil fun e a w h => by cases e; exact ⟨rfl, ⟨F_304, (Fz.le_refl _), h.1.sub (.cons (k := 1) rfl (.cons (k := 2) rfl (.cons (k := 5) rfl (.cons (k := 7) rfl (.cons (k := 8) rfl (.cons (k := 10) rfl (.nil _))))))), h.2⟩⟩
                    · skip
                      refine .seq ?_
                      refine .region ?_
                      refine .eql rfl rfl rfl ?_
                      refine .assign rfl rfl ?_
                      refine .nil ?_
                      refine .code ?_
                      refine .cond rfl (fun hb309 => ?_) (fun hb309 => ?_)
                      · skip
                        refine .region ?_
                        refine .fieldAddr rfl Try.underlying38 rfl Try.sizeOf4 rfl ?_
                        refine .loadF rfl Try.isAgg4 rfl ((Fz.le_trans l_16 (Fz.le_trans l_22 (Fz.le_trans l_38 (Fz.le_trans l_46 (Fz.le_trans l_52 l_305))))).mem _ _ hb12) rfl ?_
                        refine .not rfl rfl ?_
                        refine .assignB rfl rfl (fun is_310 e311 => ?_)
                        refine .nil ?_
                        exact .nil fun e a w h => by cases e; exact ⟨rfl, ⟨F_304, (Fz.le_refl _), h.1.sub (.cons (k := 1) rfl (.cons (k := 2) rfl (.cons (k := 5) rfl (.cons (k := 7) rfl (.cons (k := 8) rfl (.cons (k := 10) rfl (.nil _))))))), h.2⟩⟩
                      · skip
                        refine .seq ?_
                        refine .region ?_
                        refine .eql rfl rfl rfl ?_
                        refine .assign rfl rfl ?_
                        refine .nil ?_
                        refine .code ?_
                        refine .cond rfl (fun hb312 => ?_) (fun hb312 => ?_)
                        · skip
                          refine .region ?_
                          refine .fieldAddr rfl Try.underlying38 rfl Try.sizeOf4 rfl ?_
                          refine .loadF rfl Try.isAgg4 rfl ((Fz.le_trans l_16 (Fz.le_trans l_22 (Fz.le_trans l_38 (Fz.le_trans l_46 (Fz.le_trans l_52 l_305))))).mem _ _ hb12) rfl ?_
                          refine .not rfl rfl ?_
                          refine .assignB rfl rfl (fun is_313 e314 => ?_)
                          refine .nil ?_
                          exact .nil fun e a w h => by cases e; exact ⟨rfl, ⟨F_304, (Fz.le_refl _), h.1.sub (.cons (k := 1) rfl (.cons (k := 2) rfl (.cons (k := 5) rfl (.cons (k := 7) rfl (.cons (k := 8) rfl (.cons (k := 10) rfl (.nil _))))))), h.2⟩⟩
                        · skip
                          refine .skip ?_
                          exact .nil fun e a w h => by cases e; exact ⟨rfl, ⟨F_304, (Fz.le_refl _), h.1.sub (.cons (k := 1) rfl (.cons (k := 2) rfl (.cons (k := 5) rfl (.cons (k := 7) rfl (.cons (k := 8) rfl (.cons (k := 10) rfl (.nil _))))))), h.2⟩⟩
                  refine .block ?_
                  exact .nil fun e a w h => by cases e; exact ⟨rfl, ⟨F_316, l_317, h.1.sub (.cons (k := 1) rfl (.cons (k := 2) rfl (.cons (k := 5) rfl (.cons (k := 7) rfl (.cons (k := 8) rfl (.cons (k := 10) rfl (.nil _))))))), h.2⟩⟩
                refine .code ?_
                refine .seq ?_
                refine .region ?_
                refine .move rfl rfl ?_
                refine .move rfl rfl ?_
                refine .lenS rfl rfl Try.underlying40 rfl ?_
                refine .lss rfl rfl rfl ?_
                refine .move rfl rfl ?_
                refine .andM (b := (decide (s50.1 < (r_23.1.length : Int)))) 7 166 (fun hb321 z336 => ?_) (fun hb332 => ?_) (fun z335 F_333 l_334 => ?_)
                · skip
                  refine .onH hb321 rfl rfl ?_
                  refine .move rfl rfl ?_
                  refine .onH hb321 rfl rfl ?_
                  refine .move rfl rfl ?_
                  refine .onH hb321 rfl rfl ?_
                  refine .idx rfl Try.underlying40 Try.sizeOf3 (h26.mono (Fz.le_trans l_38 (Fz.le_trans l_46 (Fz.le_trans l_52 (Fz.le_trans l_305 l_320))))) rfl rfl (fun x322 b323 o324 T325 fr326 cs327 e328 hm329 hv330 => ?_)
                  refine .onH hb321 rfl rfl ?_
                  refine .loadF rfl Try.isAgg3 rfl hm329 (cell_of_take (k := 0) hv330 rfl) ?_
                  refine .onH hb321 rfl rfl ?_
                  refine .move rfl rfl ?_
                  refine .onH hb321 rfl rfl ?_
                  refine .eql rfl rfl rfl ?_
                  refine .pickTH hb321 rfl rfl rfl ?_
                  exact .finZ 7 rfl rfl (by kernel_rfl) (Fz.le_refl _)
                · skip
                  refine .offH hb332 rfl rfl rfl ?_
                  refine .offH hb332 rfl rfl rfl ?_
                  refine .offH hb332 rfl rfl rfl ?_
                  refine .offH hb332 rfl rfl rfl ?_
                  refine .offH hb332 rfl rfl rfl ?_
                  refine .offH hb332 rfl rfl rfl ?_
                  refine .pickFH hb332 rfl rfl rfl ?_
                  exact .fin 7 rfl rfl (by kernel_rfl) (Fz.le_refl _)
                refine .assign rfl rfl ?_
                refine .nil ?_
                refine .code ?_
                refine .seq ?_
                refine .seq ?_
                refine .region ?_
                refine .move rfl rfl ?_
                refine .nil ?_
                refine .code ?_
                refine .keep (.cons (k := 1) rfl (.cons (k := 2) rfl (.cons (k := 5) rfl (.cons (k := 7) rfl (.cons (k := 8) rfl (.cons (k := 10) rfl (.cons (k := 13) rfl (.cons (k := 167) rfl (.nil _))))))))) ?_
                refine GC.join0 (σ := Int) (fun j340 a w => ∃ (F_341 : Fz), F_333 ≤ F_341 ∧ Hd 180 [] [(1, (.slice p6 l_5.length k7)), (2, (.pointer (some ⟨b9, 0, none⟩))), (5, (.slice p24 r_23.1.length k25)), (7, (.int .i64 j340)), (8, (.int .i64 s50.2)), (10, (.bool j318)), (13, (.bool z335))] F_341 [pt b64 (.cells (cApiClaim x54).toArray 46), R] a w) (fun sj => ?_) (fun j340 hs0 => GE.ex (fun a w ⟨F_341, l_342, hA⟩ => ⟨_, hA, ?_⟩))
                · skip
                  refine .cond rfl (fun hb337 => ?_) (fun hb337 => ?_)
                  · skip
                    refine .region ?_
                    refine .move rfl rfl ?_
                    refine .add rfl rfl rfl ?_
                    refine .assignL rfl rfl (fun n_338 e339 => ?_)
                    refine .nil ?_
                    exact .nil fun e a w h => by cases e; exact ⟨rfl, ⟨F_333, (Fz.le_refl _), h.1.sub (.cons (k := 1) rfl (.cons (k := 2) rfl (.cons (k := 5) rfl (.cons (k := 7) rfl (.cons (k := 8) rfl (.cons (k := 10) rfl (.cons (k := 13) rfl (.nil _)))))))), h.2⟩⟩
                  · skip
                    refine .skip ?_
                    exact .nil fun e a w h => by cases e; exact ⟨rfl, ⟨F_333, (Fz.le_refl _), h.1.sub (.cons (k := 1) rfl (.cons (k := 2) rfl (.cons (k := 5) rfl (.cons (k := 7) rfl (.cons (k := 8) rfl (.cons (k := 10) rfl (.cons (k := 13) rfl (.nil _)))))))), h.2⟩⟩
                refine .code ?_
                refine .seq ?_
                refine .region ?_
                refine .move rfl rfl ?_
                refine .move rfl rfl ?_
                refine .eqlB rfl Try.underlying4 rfl rfl ?_
                refine .nil ?_
                refine .code ?_
                refine .cond rfl (fun hb343 => ?_) (fun hb343 => ?_)
                · skip
                  refine .seq ?_
                  refine .region ?_
                  refine .assign rfl rfl ?_
                  refine .nil ?_
                  refine .code ?_
                  refine .drop 0 ?_
                  refine .retQ (LPost.ret fun a w h => ⟨rfl, F_341, (Fz.le_trans l_52 (Fz.le_trans l_305 (Fz.le_trans l_320 (Fz.le_trans l_334 l_342)))), h.1.sub (.cons (k := 4) rfl (.nil _)), h.2⟩)
                · skip
                  refine .skip ?_
                  refine .block ?_
                  refine .code ?_
                  refine .region ?_
                  refine .move rfl rfl ?_
                  refine .add rfl rfl rfl ?_
                  refine .assignL rfl rfl (fun i344 e345 => ?_)
                  refine .nil ?_
                  refine .drop 0 ?_
                  exact .nil (LPost.norm fun a w h => ⟨F_341, (Fz.le_trans l_52 (Fz.le_trans l_305 (Fz.le_trans l_320 (Fz.le_trans l_334 l_342)))), h.1.sub (.cons (k := 1) rfl (.cons (k := 2) rfl (.cons (k := 5) rfl (.cons (k := 7) rfl (.cons (k := 8) rfl (.nil _)))))), h.2⟩)
          · skip
            refine .exitOut rfl (LPost.exit fun a w h => ⟨rfl, F_51, l_52, h.1.sub (.cons (k := 5) rfl (.cons (k := 7) rfl (.nil _))), h.2⟩)
        · intro b346 hb0 hk e a w hD
          rcases b346 with b346 | b346
          · skip
            obtain ⟨rfl, F_347, l_348, hA⟩ := hD
            refine interp_exit rfl (GE.app ?_ hk a w hA)
            refine .code ?_
            refine .seq ?_
            refine .region ?_
            refine .move rfl rfl ?_
            refine .move rfl rfl ?_
            refine .lenS rfl rfl Try.underlying40 rfl ?_
            refine .eql rfl rfl rfl ?_
            refine .move rfl rfl ?_
            refine .andM (b := (b346 == (r_23.1.length : Int))) 2 179 (fun hb351 z359 => ?_) (fun hb355 => ?_) (fun z358 F_356 l_357 => ?_)
            · skip
              refine .onH hb351 rfl rfl ?_
              refine .call0 rfl Try.call11 rfl rfl rfl (c_wormtublaw12_awake _ ) ?_
              rintro r_354 F_352 _ - l_353 rfl
              refine .pickTH hb351 rfl rfl rfl ?_
              exact .finZ 2 rfl rfl (by kernel_rfl) l_353
            · skip
              refine .offH hb355 rfl rfl rfl ?_
              refine .pickFH hb355 rfl rfl rfl ?_
              exact .fin 2 rfl rfl (by kernel_rfl) (Fz.le_refl _)
            refine .assign rfl rfl ?_
            refine .nil ?_
            refine .code ?_
            exact .ret0 Try.results4 (.tmp rfl (.nil)) (i := 0) rfl (Fz.le_trans l_11 (Fz.le_trans l_16 (Fz.le_trans l_22 (Fz.le_trans l_38 (Fz.le_trans l_46 (Fz.le_trans l_348 l_357)))))) rfl
          obtain ⟨rfl, F_349, l_350, hA⟩ := hD
          exact interp_ret ((ret_post0 Try.results4 (.tmp rfl (.nil)) (i := 0) rfl (Fz.le_trans l_11 (Fz.le_trans l_16 (Fz.le_trans l_22 (Fz.le_trans l_38 (Fz.le_trans l_46 l_350))))) rfl) hk a w hA)

end Go.Proofs.Ytbomfcghpajaiaa
