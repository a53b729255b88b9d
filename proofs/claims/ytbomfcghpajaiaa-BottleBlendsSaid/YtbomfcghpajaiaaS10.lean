/- Printed by gen.py: plain models of the program's functions, and that the code does what they say. -/
import Derived.Test.YtbomfcghpajaiaaS0
import Derived.Test.YtbomfcghpajaiaaS1
import Derived.Test.YtbomfcghpajaiaaS2
import Derived.Test.YtbomfcghpajaiaaS3
import Derived.Test.YtbomfcghpajaiaaS5
namespace Go.Proofs.Ytbomfcghpajaiaa
open Go.Dec

noncomputable def m_wormtubref12_up (a1 : Int) (b2 : Int) : Option Int :=
  (quoK .i64 (w64 ((w64 (a1 + b2)) - 1)) b2).bind fun q3 => some q3
theorem c_wormtubref12_up (F0 : Fz) (a1 : Int) (b2 : Int) : CT0 Try.prog 88 [(.int .i64 a1), (.int .i64 b2)].toArray F0 (m_wormtubref12_up a1 b2) (fun r _ v => v = (.int .i64 r)) := by
  refine CT0.enter Try.func88 rfl Try.ntmps88 rfl fun r R => ?_
  unfold m_wormtubref12_up
  refine .seq ?_
  refine .region ?_
  refine .assign rfl rfl ?_
  refine .nil ?_
  refine .code ?_
  refine .seq ?_
  refine .region ?_
  refine .move rfl rfl ?_
  refine .move rfl rfl ?_
  refine .add rfl rfl rfl ?_
  refine .sub rfl rfl rfl ?_
  refine .move rfl rfl ?_
  refine .quo rfl rfl rfl (fun q3 e4 => ?_)
  refine .assign rfl rfl ?_
  refine .nil ?_
  refine .code ?_
  exact .ret0 Try.results88 (.tmp rfl (.nil)) (i := 0) rfl (Fz.le_refl _) rfl

noncomputable def b_wormtubref12_blend_2 (x19 : ApiDraught) (s48 : Int × ApiBottling) : Option (Ctl (Int × ApiBottling) ((ApiBottling))) :=
  if (decide (s48.1 < 8)) then ((idxO 8 s48.1).bind fun j52 => (idxO 8 s48.1).bind fun j54 => (idxO 8 s48.1).bind fun j56 => bindv ({ s48.2 with Woods := updN s48.2.Woods j56 (imin (s48.2.Woods j52) (x19.From.Woods j54)) }) fun x58 => bindv (w64 (s48.1 + 1)) fun k91 => some (.next (k91, x58))) else (some (.done s48.2))
noncomputable def b_wormtubref12_blend_3 (x19 : ApiDraught) (s96 : Int × ApiBottling) : Option (Ctl (Int × ApiBottling) ((ApiBottling))) :=
  if (decide (s96.1 < 8)) then ((idxO 8 s96.1).bind fun j100 => (idxO 8 s96.1).bind fun j102 => (idxO 8 s96.1).bind fun j104 => bindv ({ s96.2 with Places := updN s96.2.Places j104 (imin (s96.2.Places j100) (x19.From.Places j102)) }) fun x106 => bindv (w64 (s96.1 + 1)) fun k139 => some (.next (k139, x106))) else (some (.done s96.2))
noncomputable def b_wormtubref12_blend_4 (s12 : Int × Int × Int × (List Int) × Int × ApiBottling) (x19 : ApiDraught) (s144 : Bool × Int) : Option (Ctl (Bool × Int) ((Bool))) :=
  if (decide (s144.2 < (s12.2.2.2.1.length : Int))) then ((if s144.1 then (some true) else ((idxL s12.2.2.2.1 s144.2).bind fun x174 => bindv (x174 == x19.From.Number) fun there203 => some there203) : Option (Bool)).bind fun j205 => bindv (w64 (s144.2 + 1)) fun k208 => some (.next (j205, k208))) else (some (.done s144.1))
noncomputable def b_wormtubref12_blend_1 (b1 : ApiBatch) (s12 : Int × Int × Int × (List Int) × Int × ApiBottling) : Option (Ctl (Int × Int × Int × (List Int) × Int × ApiBottling) ((Int × Int × Int × (List Int) × ApiBottling))) :=
  if (decide (s12.2.2.2.2.1 < (b1.Draughts.length : Int))) then (((idxL b1.Draughts s12.2.2.2.2.1).bind fun x19 => bindv (w64 (s12.1 + x19.Amount)) fun total30 => bindv (w64 (s12.2.1 + (w64 (x19.Amount * x19.Strength.Lo)))) fun least32 => bindv (w64 (s12.2.2.1 + (w64 (x19.Amount * x19.Strength.Hi)))) fun most34 => (if (s12.2.2.2.2.1 == 0) then (bindv ({ s12.2.2.2.2.2 with Age := x19.From.Age }) fun x37 => bindv ({ x37 with Woods := x19.From.Woods }) fun x39 => bindv ({ x39 with Places := x19.From.Places }) fun x41 => some x41) else (some s12.2.2.2.2.2) : Option (ApiBottling)).bind fun j43 => bindv ({ j43 with Age := (imin j43.Age x19.From.Age) }) fun x46 => (loopM (b_wormtubref12_blend_2 x19) (0, x46)).bind fun b93 => (loopM (b_wormtubref12_blend_3 x19) (0, b93)).bind fun b141 => (loopM (b_wormtubref12_blend_4 s12 x19) (false, 0)).bind fun b210 => (if (!b210) then ((appO s12.2.2.2.1 ([x19.From.Number])).bind fun l_219 => some l_219) else (some s12.2.2.2.1) : Option ((List Int))).bind fun j223 => some (total30, least32, most34, j223, b141) : Option (Int × Int × Int × (List Int) × ApiBottling)).bind fun j229 => bindv (w64 (s12.2.2.2.2.1 + 1)) fun i235 => some (.next (j229.1, j229.2.1, j229.2.2.1, j229.2.2.2.1, i235, j229.2.2.2.2))) else (some (.done (s12.1, s12.2.1, s12.2.2.1, s12.2.2.2.1, s12.2.2.2.2.2)))
noncomputable def m_wormtubref12_blend (b1 : ApiBatch) : Option ApiBottling :=
  (loopM (b_wormtubref12_blend_1 b1) (b1.Water, 0, 0, [], 0, (ApiBottling.mk (ApiSpan.mk 0 0) (ApiSpan.mk 0 0) 0 (fun _ => 0) (fun _ => 0) 0))).bind fun b237 => bindv (w64 (10000 - b1.Shrink.Lo)) fun great264 => (m_wormtubref12_up (w64 (b237.1 * great264)) 10000).bind fun r_268 => bindv ({ b237.2.2.2.2 with Volume := (ApiSpan.mk (w64 (Int.tdiv (w64 (b237.1 * (w64 (10000 - b1.Shrink.Hi)))) 10000)) r_268) }) fun x269 => (quoK .i64 (w64 (b237.2.1 * 10000)) (w64 (b237.1 * great264))).bind fun q271 => (m_wormtubref12_up (w64 (b237.2.2.1 * 10000)) (w64 (b237.1 * (w64 (10000 - b1.Shrink.Hi))))).bind fun r_276 => bindv ({ x269 with Strength := (ApiSpan.mk (imin 10000 q271) (imin 10000 r_276)) }) fun x313 => bindv ({ x313 with Casks := (b237.2.2.2.1.length : Int) }) fun x315 => some x315
theorem c_wormtubref12_blend (F0 : Fz) (b1 : ApiBatch) (p2 : Option Addr) (k3 : Nat) (h4 : RepSl 27 (Ex cApiDraught) F0 p2 k3 b1.Draughts) : CT0 Try.prog 58 [(eApiBatch b1 p2 k3)].toArray F0 (m_wormtubref12_blend b1) (fun r _ v => v = (eApiBottling r)) := by
  refine CT0.enter Try.func58 rfl Try.ntmps58 rfl fun r R => ?_
  unfold m_wormtubref12_blend
  refine .seq ?_
  refine .region ?_
  refine .boxF (cs := (cApiBatch b1 p2 k3)) rfl rfl rfl (fun b5 F_6 l_7 hb8 => ?_)
  refine .alloc (cs := (cApiBottling (ApiBottling.mk (ApiSpan.mk 0 0) (ApiSpan.mk 0 0) 0 (fun _ => 0) (fun _ => 0) 0))) rfl Try.zeroValue56 rfl (fun b9 => ?_)
  refine .nil ?_
  refine .code ?_
  refine .seq ?_
  refine .region ?_
  refine .build (cs := (cApiBottling (ApiBottling.mk (ApiSpan.mk 0 0) (ApiSpan.mk 0 0) 0 (fun _ => 0) (fun _ => 0) 0)).toArray) rfl Try.underlying56 Try.zeroValue56 (plApiBottling _ Try.underlying56) rfl rfl (by kernel_rfl) ?_
  refine .alloc (cs := (cApiBottling (ApiBottling.mk (ApiSpan.mk 0 0) (ApiSpan.mk 0 0) 0 (fun _ => 0) (fun _ => 0) 0))) rfl Try.zeroValue56 rfl (fun b10 => ?_)
  refine .store (cs' := (cApiBottling (ApiBottling.mk (ApiSpan.mk 0 0) (ApiSpan.mk 0 0) 0 (fun _ => 0) (fun _ => 0) 0))) Try.sizeOf56 rfl rfl rfl rfl (i := 0) rfl (Nat.le_of_ble_eq_true rfl) rfl (setMany_all (by rfl)) ?_
  refine .nil ?_
  refine .code ?_
  refine .seq ?_
  refine .region ?_
  refine .fieldAddr rfl Try.underlying38 rfl Try.sizeOf3 rfl ?_
  refine .loadF rfl Try.isAgg3 rfl hb8 rfl ?_
  refine .assign rfl rfl ?_
  refine .assign rfl rfl ?_
  refine .assign rfl rfl ?_
  refine .nil ?_
  refine .code ?_
  refine .seq ?_
  refine .region ?_
  refine .assign rfl rfl ?_
  refine .nil ?_
  refine .code ?_
  refine .seq ?_
  refine .seq ?_
  refine .region ?_
  refine .assign rfl rfl ?_
  refine .nil ?_
  refine .code ?_
  refine .block ?_
  refine .ownNil 1 (Ex (cInt .i64)) 3 ?_
  refine .keep (.cons (k := 1) rfl (.cons (k := 2) rfl (.cons (k := 3) rfl (.cons (k := 4) rfl (.cons (k := 5) rfl (.cons (k := 6) rfl (.cons (k := 7) rfl (.cons (k := 8) rfl (.nil _))))))))) ?_
  refine .loop (fun (s12 : Int × Int × Int × (List Int) × Int × ApiBottling) a w => ∃ (F_13 : Fz) (p15 : Option Addr) (k16 : Nat), F_6 ≤ F_13 ∧ Hd 169 [] [(1, (.pointer (some ⟨b5, 0, none⟩))), (2, (.pointer (some ⟨b9, 0, none⟩))), (3, (.pointer (some ⟨b10, 0, none⟩))), (4, (.int .i64 s12.1)), (5, (.int .i64 s12.2.1)), (6, (.int .i64 s12.2.2.1)), (7, (.slice p15 s12.2.2.2.1.length k16)), (8, (.int .i64 s12.2.2.2.2.1))] F_13 [ownSl 1 (Ex (cInt .i64)) F_13 3 p15 k16 s12.2.2.2.1, pt b10 (.cells (cApiBottling s12.2.2.2.2.2).toArray 56), pt b9 (.cells (cApiBottling (ApiBottling.mk (ApiSpan.mk 0 0) (ApiSpan.mk 0 0) 0 (fun _ => 0) (fun _ => 0) 0)).toArray 56), R] a w) (fun b237 e a w => e = .exit 0 ∧ ∃ (F_238 : Fz) (p240 : Option Addr) (k241 : Nat), F_6 ≤ F_238 ∧ Hd 169 [] [(1, (.pointer (some ⟨b5, 0, none⟩))), (2, (.pointer (some ⟨b9, 0, none⟩))), (3, (.pointer (some ⟨b10, 0, none⟩))), (4, (.int .i64 b237.1)), (5, (.int .i64 b237.2.1)), (6, (.int .i64 b237.2.2.1)), (7, (.slice p240 b237.2.2.2.1.length k241))] F_238 [ownSl 1 (Ex (cInt .i64)) F_238 3 p240 k241 b237.2.2.2.1, pt b10 (.cells (cApiBottling b237.2.2.2.2).toArray 56), pt b9 (.cells (cApiBottling (ApiBottling.mk (ApiSpan.mk 0 0) (ApiSpan.mk 0 0) 0 (fun _ => 0) (fun _ => 0) 0)).toArray 56), R] a w) ?_ ?_ ?_
  · exact fun a w h => ⟨F_6, none, 0, (Fz.le_refl _), h.1.sub (.cons (k := 1) rfl (.cons (k := 2) rfl (.cons (k := 3) rfl (.cons (k := 4) rfl (.cons (k := 5) rfl (.cons (k := 6) rfl (.cons (k := 7) rfl (.cons (k := 8) rfl (.nil _))))))))), h.2⟩
  · intro s12 ctl
    refine GC.ex (fun a w ⟨F_13, p15, k16, l_14, hA⟩ => ⟨_, hA, ?_⟩)
    unfold b_wormtubref12_blend_1
    refine .seq ?_
    refine .seq ?_
    refine .region ?_
    refine .move rfl rfl ?_
    refine .fieldAddr rfl Try.underlying38 rfl Try.sizeOf34 rfl ?_
    refine .loadF rfl Try.isAgg34 rfl (l_14.mem _ _ hb8) rfl ?_
    refine .lenS rfl rfl Try.underlying34 rfl ?_
    refine .lss rfl rfl rfl ?_
    refine .nil ?_
    refine .code ?_
    refine .cond rfl (fun hb18 => ?_) (fun hb18 => ?_)
    · skip
      refine .skip ?_
      refine .code ?_
      refine .seq ?_
      refine .keep (.cons (k := 1) rfl (.cons (k := 2) rfl (.cons (k := 3) rfl (.cons (k := 4) rfl (.cons (k := 5) rfl (.cons (k := 6) rfl (.cons (k := 7) rfl (.cons (k := 8) rfl (.nil _))))))))) ?_
      refine GC.join0 (σ := Int × Int × Int × (List Int) × ApiBottling) (fun j229 a w => ∃ (F_230 : Fz) (p232 : Option Addr) (k233 : Nat), F_13 ≤ F_230 ∧ Hd 169 [] [(1, (.pointer (some ⟨b5, 0, none⟩))), (2, (.pointer (some ⟨b9, 0, none⟩))), (3, (.pointer (some ⟨b10, 0, none⟩))), (4, (.int .i64 j229.1)), (5, (.int .i64 j229.2.1)), (6, (.int .i64 j229.2.2.1)), (7, (.slice p232 j229.2.2.2.1.length k233)), (8, (.int .i64 s12.2.2.2.2.1))] F_230 [ownSl 1 (Ex (cInt .i64)) F_230 3 p232 k233 j229.2.2.2.1, pt b10 (.cells (cApiBottling j229.2.2.2.2).toArray 56), pt b9 (.cells (cApiBottling (ApiBottling.mk (ApiSpan.mk 0 0) (ApiSpan.mk 0 0) 0 (fun _ => 0) (fun _ => 0) 0)).toArray 56), R] a w) (fun sj => ?_) (fun j229 hs0 => GE.ex (fun a w ⟨F_230, p232, k233, l_231, hA⟩ => ⟨_, hA, ?_⟩))
      · skip
        refine .block ?_
        refine .seq ?_
        refine .region ?_
        refine .fieldAddr rfl Try.underlying38 rfl Try.sizeOf34 rfl ?_
        refine .loadF rfl Try.isAgg34 rfl (l_14.mem _ _ hb8) rfl ?_
        refine .move rfl rfl ?_
        refine .idx rfl Try.underlying34 Try.sizeOf51 (h4.mono (Fz.le_trans l_7 l_14)) rfl rfl (fun x19 b20 o21 T22 fr23 cs24 e25 hm26 hv27 => ?_)
        refine .loadFA rfl Try.isAgg51 Try.sizeOf51 rfl hm26 hv27 rfl ?_
        refine .alloc (cs := (cApiDraught (ApiDraught.mk (ApiCask.mk 0 0 0 0 0 0 0 0 (fun _ => 0) (fun _ => 0)) 0 (ApiSpan.mk 0 0)))) rfl Try.zeroValue51 rfl (fun b29 => ?_)
        refine .store (cs' := (cApiDraught x19)) Try.sizeOf51 rfl rfl rfl rfl (i := 0) rfl (Nat.le_of_ble_eq_true rfl) rfl (setMany_all (by rfl)) ?_
        refine .nil ?_
        refine .code ?_
        refine .seq ?_
        refine .region ?_
        refine .move rfl rfl ?_
        refine .fieldAddr rfl Try.underlying51 rfl Try.sizeOf3 rfl ?_
        refine .loadO rfl Try.isAgg3 rfl (i := 0) rfl rfl ?_
        refine .add rfl rfl rfl ?_
        refine .assignL rfl rfl (fun total30 e31 => ?_)
        refine .nil ?_
        refine .code ?_
        refine .seq ?_
        refine .region ?_
        refine .move rfl rfl ?_
        refine .fieldAddr rfl Try.underlying51 rfl Try.sizeOf3 rfl ?_
        refine .loadO rfl Try.isAgg3 rfl (i := 0) rfl rfl ?_
        refine .fieldAddr rfl Try.underlying51 rfl Try.sizeOf36 rfl ?_
        refine .fieldAddr rfl Try.underlying36 rfl Try.sizeOf3 rfl ?_
        refine .loadO rfl Try.isAgg3 rfl (i := 0) rfl rfl ?_
        refine .mul rfl rfl rfl ?_
        refine .add rfl rfl rfl ?_
        refine .assignL rfl rfl (fun least32 e33 => ?_)
        refine .nil ?_
        refine .keep (.cons (k := 1) rfl (.cons (k := 2) rfl (.cons (k := 3) rfl (.cons (k := 4) rfl (.cons (k := 5) rfl (.cons (k := 6) rfl (.cons (k := 7) rfl (.cons (k := 8) rfl (.cons (k := 9) rfl (.nil _)))))))))) ?_
        refine .code ?_
        refine .seq ?_
        refine .region ?_
        refine .move rfl rfl ?_
        refine .fieldAddr rfl Try.underlying51 rfl Try.sizeOf3 rfl ?_
        refine .loadO rfl Try.isAgg3 rfl (i := 0) rfl rfl ?_
        refine .fieldAddr rfl Try.underlying51 rfl Try.sizeOf36 rfl ?_
        refine .fieldAddr rfl Try.underlying36 rfl Try.sizeOf3 rfl ?_
        refine .loadO rfl Try.isAgg3 rfl (i := 0) rfl rfl ?_
        refine .mul rfl rfl rfl ?_
        refine .add rfl rfl rfl ?_
        refine .assignL rfl rfl (fun most34 e35 => ?_)
        refine .nil ?_
        refine .code ?_
        refine .seq ?_
        refine .seq ?_
        refine .region ?_
        refine .move rfl rfl ?_
        refine .eql rfl rfl rfl ?_
        refine .nil ?_
        refine .code ?_
        refine .keep (.cons (k := 1) rfl (.cons (k := 2) rfl (.cons (k := 3) rfl (.cons (k := 4) rfl (.cons (k := 5) rfl (.cons (k := 6) rfl (.cons (k := 7) rfl (.cons (k := 8) rfl (.cons (k := 9) rfl (.cons (k := 52) rfl (.nil _))))))))))) ?_
        refine GC.join0 (σ := ApiBottling) (fun j43 a w => ∃ (F_44 : Fz), F_13 ≤ F_44 ∧ Hd 169 [] [(1, (.pointer (some ⟨b5, 0, none⟩))), (2, (.pointer (some ⟨b9, 0, none⟩))), (3, (.pointer (some ⟨b10, 0, none⟩))), (4, (.int .i64 total30)), (5, (.int .i64 least32)), (6, (.int .i64 most34)), (7, (.slice p15 s12.2.2.2.1.length k16)), (8, (.int .i64 s12.2.2.2.2.1)), (9, (.pointer (some ⟨b29, 0, none⟩)))] F_44 [pt b29 (.cells (cApiDraught x19).toArray 51), ownSl 1 (Ex (cInt .i64)) F_13 3 p15 k16 s12.2.2.2.1, pt b10 (.cells (cApiBottling j43).toArray 56), pt b9 (.cells (cApiBottling (ApiBottling.mk (ApiSpan.mk 0 0) (ApiSpan.mk 0 0) 0 (fun _ => 0) (fun _ => 0) 0)).toArray 56), R] a w) (fun sj => ?_) (fun j43 hs0 => GE.ex (fun a w ⟨F_44, l_45, hA⟩ => ⟨_, hA, ?_⟩))
        · skip
          refine .cond rfl (fun hb36 => ?_) (fun hb36 => ?_)
          · skip
            refine .seq ?_
            refine .region ?_
            refine .fieldAddr rfl Try.underlying51 rfl Try.sizeOf49 rfl ?_
            refine .fieldAddr rfl Try.underlying49 rfl Try.sizeOf3 rfl ?_
            refine .loadO rfl Try.isAgg3 rfl (i := 0) rfl rfl ?_
            refine .fieldAddr rfl Try.underlying56 rfl Try.sizeOf3 rfl ?_
            refine .letv (fun x37 e38 => ?_)
            refine .store (cs' := (cApiBottling x37)) Try.sizeOf3 rfl rfl rfl rfl (i := 2) rfl (Nat.le_of_ble_eq_true rfl) rfl (by rw [e38]; kernel_rfl) ?_
            refine .nil ?_
            refine .code ?_
            refine .seq ?_
            refine .region ?_
            refine .fieldAddr rfl Try.underlying51 rfl Try.sizeOf49 rfl ?_
            refine .fieldAddr rfl Try.underlying49 rfl Try.sizeOf47 rfl ?_
            refine .loadOA rfl Try.isAgg47 Try.sizeOf47 rfl (i := 0) rfl (vs := ((cArr 8 (cInt .i64)) x19.From.Woods)) (by kernel_rfl) rfl ?_
            refine .fieldAddr rfl Try.underlying56 rfl Try.sizeOf47 rfl ?_
            refine .letv (fun x39 e40 => ?_)
            refine .store (cs' := (cApiBottling x39)) Try.sizeOf47 rfl rfl rfl rfl (i := 2) rfl (Nat.le_of_ble_eq_true rfl) rfl (by rw [e40]; kernel_rfl) ?_
            refine .nil ?_
            refine .code ?_
            refine .region ?_
            refine .fieldAddr rfl Try.underlying51 rfl Try.sizeOf49 rfl ?_
            refine .fieldAddr rfl Try.underlying49 rfl Try.sizeOf47 rfl ?_
            refine .loadOA rfl Try.isAgg47 Try.sizeOf47 rfl (i := 0) rfl (vs := ((cArr 8 (cInt .i64)) x19.From.Places)) (by kernel_rfl) rfl ?_
            refine .fieldAddr rfl Try.underlying56 rfl Try.sizeOf47 rfl ?_
            refine .letv (fun x41 e42 => ?_)
            refine .store (cs' := (cApiBottling x41)) Try.sizeOf47 rfl rfl rfl rfl (i := 2) rfl (Nat.le_of_ble_eq_true rfl) rfl (by rw [e42]; kernel_rfl) ?_
            refine .nil ?_
            exact .nil fun e a w h => by cases e; exact ⟨rfl, ⟨F_13, (Fz.le_refl _), h.1.sub (.cons (k := 1) rfl (.cons (k := 2) rfl (.cons (k := 3) rfl (.cons (k := 4) rfl (.cons (k := 5) rfl (.cons (k := 6) rfl (.cons (k := 7) rfl (.cons (k := 8) rfl (.cons (k := 9) rfl (.nil _)))))))))), h.2⟩⟩
          · skip
            refine .skip ?_
            exact .nil fun e a w h => by cases e; exact ⟨rfl, ⟨F_13, (Fz.le_refl _), h.1.sub (.cons (k := 1) rfl (.cons (k := 2) rfl (.cons (k := 3) rfl (.cons (k := 4) rfl (.cons (k := 5) rfl (.cons (k := 6) rfl (.cons (k := 7) rfl (.cons (k := 8) rfl (.cons (k := 9) rfl (.nil _)))))))))), h.2⟩⟩
        refine .code ?_
        refine .seq ?_
        refine .region ?_
        refine .fieldAddr rfl Try.underlying56 rfl Try.sizeOf3 rfl ?_
        refine .loadO rfl Try.isAgg3 rfl (i := 2) rfl rfl ?_
        refine .fieldAddr rfl Try.underlying51 rfl Try.sizeOf49 rfl ?_
        refine .fieldAddr rfl Try.underlying49 rfl Try.sizeOf3 rfl ?_
        refine .loadO rfl Try.isAgg3 rfl (i := 0) rfl rfl ?_
        refine .min2 rfl rfl rfl ?_
        refine .fieldAddr rfl Try.underlying56 rfl Try.sizeOf3 rfl ?_
        refine .letv (fun x46 e47 => ?_)
        refine .store (cs' := (cApiBottling x46)) Try.sizeOf3 rfl rfl rfl rfl (i := 2) rfl (Nat.le_of_ble_eq_true rfl) rfl (by rw [e47]; kernel_rfl) ?_
        refine .nil ?_
        refine .code ?_
        refine .seq ?_
        refine .seq ?_
        refine .region ?_
        refine .assign rfl rfl ?_
        refine .nil ?_
        refine .code ?_
        refine .block ?_
        refine .keep (.cons (k := 1) rfl (.cons (k := 2) rfl (.cons (k := 3) rfl (.cons (k := 4) rfl (.cons (k := 5) rfl (.cons (k := 6) rfl (.cons (k := 7) rfl (.cons (k := 8) rfl (.cons (k := 9) rfl (.cons (k := 10) rfl (.nil _))))))))))) ?_
        refine .loop (fun (s48 : Int × ApiBottling) a w => ∃ (F_49 : Fz), F_44 ≤ F_49 ∧ Hd 169 [] [(1, (.pointer (some ⟨b5, 0, none⟩))), (2, (.pointer (some ⟨b9, 0, none⟩))), (3, (.pointer (some ⟨b10, 0, none⟩))), (4, (.int .i64 total30)), (5, (.int .i64 least32)), (6, (.int .i64 most34)), (7, (.slice p15 s12.2.2.2.1.length k16)), (8, (.int .i64 s12.2.2.2.2.1)), (9, (.pointer (some ⟨b29, 0, none⟩))), (10, (.int .i64 s48.1))] F_49 [pt b29 (.cells (cApiDraught x19).toArray 51), ownSl 1 (Ex (cInt .i64)) F_13 3 p15 k16 s12.2.2.2.1, pt b10 (.cells (cApiBottling s48.2).toArray 56), pt b9 (.cells (cApiBottling (ApiBottling.mk (ApiSpan.mk 0 0) (ApiSpan.mk 0 0) 0 (fun _ => 0) (fun _ => 0) 0)).toArray 56), R] a w) (fun b93 e a w => e = .exit 2 ∧ ∃ (F_94 : Fz), F_44 ≤ F_94 ∧ Hd 169 [] [(1, (.pointer (some ⟨b5, 0, none⟩))), (2, (.pointer (some ⟨b9, 0, none⟩))), (3, (.pointer (some ⟨b10, 0, none⟩))), (4, (.int .i64 total30)), (5, (.int .i64 least32)), (6, (.int .i64 most34)), (7, (.slice p15 s12.2.2.2.1.length k16)), (8, (.int .i64 s12.2.2.2.2.1)), (9, (.pointer (some ⟨b29, 0, none⟩)))] F_94 [pt b29 (.cells (cApiDraught x19).toArray 51), ownSl 1 (Ex (cInt .i64)) F_13 3 p15 k16 s12.2.2.2.1, pt b10 (.cells (cApiBottling b93).toArray 56), pt b9 (.cells (cApiBottling (ApiBottling.mk (ApiSpan.mk 0 0) (ApiSpan.mk 0 0) 0 (fun _ => 0) (fun _ => 0) 0)).toArray 56), R] a w) ?_ ?_ ?_
        · exact fun a w h => ⟨F_44, (Fz.le_refl _), h.1.sub (.cons (k := 1) rfl (.cons (k := 2) rfl (.cons (k := 3) rfl (.cons (k := 4) rfl (.cons (k := 5) rfl (.cons (k := 6) rfl (.cons (k := 7) rfl (.cons (k := 8) rfl (.cons (k := 9) rfl (.cons (k := 10) rfl (.nil _))))))))))), h.2⟩
        · intro s48 ctl
          refine GC.ex (fun a w ⟨F_49, l_50, hA⟩ => ⟨_, hA, ?_⟩)
          unfold b_wormtubref12_blend_2
          refine .seq ?_
          refine .seq ?_
          refine .region ?_
          refine .move rfl rfl ?_
          refine .lss rfl rfl rfl ?_
          refine .nil ?_
          refine .code ?_
          refine .cond rfl (fun hb51 => ?_) (fun hb51 => ?_)
          · skip
            refine .skip ?_
            refine .code ?_
            refine .seq ?_
            refine .block ?_
            refine .keep (.cons (k := 1) rfl (.cons (k := 2) rfl (.cons (k := 3) rfl (.cons (k := 4) rfl (.cons (k := 5) rfl (.cons (k := 6) rfl (.cons (k := 7) rfl (.cons (k := 8) rfl (.cons (k := 9) rfl (.cons (k := 10) rfl (.nil _))))))))))) ?_
            refine .bind (fun j52 hj53 => ?_)
            refine .bind (fun j54 hj55 => ?_)
            refine .bind (fun j56 hj57 => ?_)
            refine .letv (fun x58 e59 => ?_)
            refine .drawS ⟨1000000, 0, [], 0⟩ 13 [pt b29 (.cells (cApiDraught x19).toArray 51), ownSl 1 (Ex (cInt .i64)) F_13 3 p15 k16 s12.2.2.2.1, pt b10 (.cells (cApiBottling x58).toArray 56), pt b9 (.cells (cApiBottling (ApiBottling.mk (ApiSpan.mk 0 0) (ApiSpan.mk 0 0) 0 (fun _ => 0) (fun _ => 0) 0)).toArray 56), R] [0, 1, 2, 3, 4, 5, 6, 7, 8, 9, 10, 11, 12] [(76, (.int .i64 s48.1)), (77, (.int .i64 s48.1)), (78, (.pointer (some ⟨b10, 0 + 5, none⟩))), (79, (.pointer (some ⟨b10, 0 + 5 + j52 * 1, none⟩))), (80, (.int .i64 (s48.2.Woods j52))), (81, (.int .i64 s48.1)), (82, (.pointer (some ⟨b29, 0 + 0, none⟩))), (83, (.pointer (some ⟨b29, 0 + 0 + 8, none⟩))), (84, (.pointer (some ⟨b29, 0 + 0 + 8 + j54 * 1, none⟩))), (85, (.int .i64 (x19.From.Woods j54))), (86, (.int .i64 (imin (s48.2.Woods j52) (x19.From.Woods j54)))), (87, (.pointer (some ⟨b10, 0 + 5, none⟩))), (88, (.pointer (some ⟨b10, 0 + 5 + j56 * 1, none⟩))), (1000013, undef)] mixedOK (by kernel_rfl) (by kernel_rfl) rfl (by kernel_rfl) (by kernel_rfl) rfl rfl rfl rfl ?_ (fun F_60 b61 l_62 => ?_)
            · skip
              refine .cons (.pre rfl rfl (.mk 76 (.int .i64 s48.1) [(10, (.int .i64 s48.1))] rfl rfl rfl rfl (fun S hS hd => (.cons (hS _ _ rfl) (Sub.nil _))) (fun F_63 X l_64 => ?_))) ?_
              · skip
                refine .move rfl rfl ?_
                exact .fin1 (Fz.le_refl _)
              refine .cons (.pre rfl rfl (.mk 77 (.int .i64 s48.1) [(10, (.int .i64 s48.1))] rfl rfl rfl rfl (fun S hS hd => (.cons (hS _ _ rfl) (Sub.nil _))) (fun F_65 X l_66 => ?_))) ?_
              · skip
                refine .move rfl rfl ?_
                exact .fin1 (Fz.le_refl _)
              refine .cons (.pre rfl rfl (.mk 78 (.pointer (some ⟨b10, 0 + 5, none⟩)) [(3, (.pointer (some ⟨b10, 0, none⟩)))] rfl rfl rfl rfl (fun S hS hd => (.cons (hS _ _ rfl) (Sub.nil _))) (fun F_67 X l_68 => ?_))) ?_
              · skip
                refine .fieldAddr rfl Try.underlying56 rfl Try.sizeOf47 rfl ?_
                exact .fin1 (Fz.le_refl _)
              refine .cons (.pre rfl rfl (.mk 79 (.pointer (some ⟨b10, 0 + 5 + j52 * 1, none⟩)) [(77, (.int .i64 s48.1)), (78, (.pointer (some ⟨b10, 0 + 5, none⟩)))] rfl rfl rfl rfl (fun S hS hd => (.cons (hd.2.1 rfl rfl _ _ rfl) (.cons (hd.1 rfl rfl _ _ rfl) (Sub.nil _)))) (fun F_69 X l_70 => ?_))) ?_
              · skip
                refine .indexAddrA rfl Try.underlying47 Try.sizeOf3 rfl rfl hj53 ?_
                exact .fin1 (Fz.le_refl _)
              refine .cons (.pre rfl rfl (.mk 80 (.int .i64 (s48.2.Woods j52)) [(79, (.pointer (some ⟨b10, 0 + 5 + j52 * 1, none⟩)))] rfl rfl rfl rfl (fun S hS hd => (.cons (hd.1 rfl rfl _ _ rfl) (Sub.nil _))) (fun F_71 X l_72 => ?_))) ?_
              · skip
                refine .loadO rfl Try.isAgg3 rfl (i := 2) rfl (allLt8 (p := fun j52 => ((cApiBottling s48.2))[0 + 5 + j52 * 1]? = some (.int .i64 (s48.2.Woods j52))) rfl rfl rfl rfl rfl rfl rfl rfl _ (idxO_some hj53).2.2.2) ?_
                exact .fin1 (Fz.le_refl _)
              refine .cons (.pre rfl rfl (.mk 81 (.int .i64 s48.1) [(10, (.int .i64 s48.1))] rfl rfl rfl rfl (fun S hS hd => (.cons (hS _ _ rfl) (Sub.nil _))) (fun F_73 X l_74 => ?_))) ?_
              · skip
                refine .move rfl rfl ?_
                exact .fin1 (Fz.le_refl _)
              refine .cons (.pre rfl rfl (.mk 82 (.pointer (some ⟨b29, 0 + 0, none⟩)) [(9, (.pointer (some ⟨b29, 0, none⟩)))] rfl rfl rfl rfl (fun S hS hd => (.cons (hS _ _ rfl) (Sub.nil _))) (fun F_75 X l_76 => ?_))) ?_
              · skip
                refine .fieldAddr rfl Try.underlying51 rfl Try.sizeOf49 rfl ?_
                exact .fin1 (Fz.le_refl _)
              refine .cons (.pre rfl rfl (.mk 83 (.pointer (some ⟨b29, 0 + 0 + 8, none⟩)) [(82, (.pointer (some ⟨b29, 0 + 0, none⟩)))] rfl rfl rfl rfl (fun S hS hd => (.cons (hd.1 rfl rfl _ _ rfl) (Sub.nil _))) (fun F_77 X l_78 => ?_))) ?_
              · skip
                refine .fieldAddr rfl Try.underlying49 rfl Try.sizeOf47 rfl ?_
                exact .fin1 (Fz.le_refl _)
              refine .cons (.pre rfl rfl (.mk 84 (.pointer (some ⟨b29, 0 + 0 + 8 + j54 * 1, none⟩)) [(81, (.int .i64 s48.1)), (83, (.pointer (some ⟨b29, 0 + 0 + 8, none⟩)))] rfl rfl rfl rfl (fun S hS hd => (.cons (hd.2.1 rfl rfl _ _ rfl) (.cons (hd.1 rfl rfl _ _ rfl) (Sub.nil _)))) (fun F_79 X l_80 => ?_))) ?_
              · skip
                refine .indexAddrA rfl Try.underlying47 Try.sizeOf3 rfl rfl hj55 ?_
                exact .fin1 (Fz.le_refl _)
              refine .cons (.pre rfl rfl (.mk 85 (.int .i64 (x19.From.Woods j54)) [(84, (.pointer (some ⟨b29, 0 + 0 + 8 + j54 * 1, none⟩)))] rfl rfl rfl rfl (fun S hS hd => (.cons (hd.1 rfl rfl _ _ rfl) (Sub.nil _))) (fun F_81 X l_82 => ?_))) ?_
              · skip
                refine .loadO rfl Try.isAgg3 rfl (i := 0) rfl (allLt8 (p := fun j54 => ((cApiDraught x19))[0 + 0 + 8 + j54 * 1]? = some (.int .i64 (x19.From.Woods j54))) rfl rfl rfl rfl rfl rfl rfl rfl _ (idxO_some hj55).2.2.2) ?_
                exact .fin1 (Fz.le_refl _)
              refine .cons (.pre rfl rfl (.mk 86 (.int .i64 (imin (s48.2.Woods j52) (x19.From.Woods j54))) [(80, (.int .i64 (s48.2.Woods j52))), (85, (.int .i64 (x19.From.Woods j54)))] rfl rfl rfl rfl (fun S hS hd => (.cons (hd.1 rfl rfl _ _ rfl) (.cons (hd.2.1 rfl rfl _ _ rfl) (Sub.nil _)))) (fun F_83 X l_84 => ?_))) ?_
              · skip
                refine .min2 rfl rfl rfl ?_
                exact .fin1 (Fz.le_refl _)
              refine .cons (.pre rfl rfl (.mk 87 (.pointer (some ⟨b10, 0 + 5, none⟩)) [(3, (.pointer (some ⟨b10, 0, none⟩)))] rfl rfl rfl rfl (fun S hS hd => (.cons (hS _ _ rfl) (Sub.nil _))) (fun F_85 X l_86 => ?_))) ?_
              · skip
                refine .fieldAddr rfl Try.underlying56 rfl Try.sizeOf47 rfl ?_
                exact .fin1 (Fz.le_refl _)
              refine .cons (.pre rfl rfl (.mk 88 (.pointer (some ⟨b10, 0 + 5 + j56 * 1, none⟩)) [(76, (.int .i64 s48.1)), (87, (.pointer (some ⟨b10, 0 + 5, none⟩)))] rfl rfl rfl rfl (fun S hS hd => (.cons (hd.2.1 rfl rfl _ _ rfl) (.cons (hd.1 rfl rfl _ _ rfl) (Sub.nil _)))) (fun F_87 X l_88 => ?_))) ?_
              · skip
                refine .indexAddrA rfl Try.underlying47 Try.sizeOf3 rfl rfl hj57 ?_
                exact .fin1 (Fz.le_refl _)
              refine .cons (.store [(86, (.int .i64 (imin (s48.2.Woods j52) (x19.From.Woods j54)))), (88, (.pointer (some ⟨b10, 0 + 5 + j56 * 1, none⟩)))] rfl rfl (fun S hS hd => (.cons (hd.2.1 rfl rfl _ _ rfl) (.cons (hd.1 rfl rfl _ _ rfl) (Sub.nil _)))) (fun F_89 X l_90 => ?_)) ?_
              · skip
                refine .store (cs' := (cApiBottling x58)) Try.sizeOf3 rfl rfl rfl rfl (i := 2) rfl (allLt8 (p := fun j56 => 0 + 5 + j56 * 1 + 1 ≤ 22) (by decide) (by decide) (by decide) (by decide) (by decide) (by decide) (by decide) (by decide) _ (idxO_some hj57).2.2.2) rfl (by rw [e59]; exact (allLt8 (p := fun j56 => setMany ((cApiBottling s48.2)) (0 + 5 + j56 * 1) [(.int .i64 (imin (s48.2.Woods j52) (x19.From.Woods j54)))] = (cApiBottling ({ s48.2 with Woods := updN s48.2.Woods j56 (imin (s48.2.Woods j52) (x19.From.Woods j54)) }))) rfl rfl rfl rfl rfl rfl rfl rfl _ (idxO_some hj57).2.2.2)) ?_
                exact StPost.fin (Fz.le_refl _)
              exact .nil
            refine .nil ?_
            refine .block ?_
            refine .code ?_
            refine .region ?_
            refine .move rfl rfl ?_
            refine .add rfl rfl rfl ?_
            refine .assignL rfl rfl (fun k91 e92 => ?_)
            refine .nil ?_
            exact .nil (LPost.norm fun a w h => ⟨F_60, (Fz.le_trans l_50 l_62), h.1.sub (.cons (k := 1) rfl (.cons (k := 2) rfl (.cons (k := 3) rfl (.cons (k := 4) rfl (.cons (k := 5) rfl (.cons (k := 6) rfl (.cons (k := 7) rfl (.cons (k := 8) rfl (.cons (k := 9) rfl (.cons (k := 10) rfl (.nil _))))))))))), h.2⟩)
          · skip
            refine .exitOut rfl (LPost.exit fun a w h => ⟨rfl, F_49, l_50, h.1.sub (.cons (k := 1) rfl (.cons (k := 2) rfl (.cons (k := 3) rfl (.cons (k := 4) rfl (.cons (k := 5) rfl (.cons (k := 6) rfl (.cons (k := 7) rfl (.cons (k := 8) rfl (.cons (k := 9) rfl (.nil _)))))))))), h.2⟩)
        · intro b93 hb0 hk e a w hD
          obtain ⟨rfl, F_94, l_95, hA⟩ := hD
          refine interp_exit rfl (GE.app ?_ hk a w hA)
          refine .code ?_
          refine .seq ?_
          refine .seq ?_
          refine .region ?_
          refine .assign rfl rfl ?_
          refine .nil ?_
          refine .code ?_
          refine .block ?_
          refine .keep (.cons (k := 1) rfl (.cons (k := 2) rfl (.cons (k := 3) rfl (.cons (k := 4) rfl (.cons (k := 5) rfl (.cons (k := 6) rfl (.cons (k := 7) rfl (.cons (k := 8) rfl (.cons (k := 9) rfl (.cons (k := 11) rfl (.nil _))))))))))) ?_
          refine .loop (fun (s96 : Int × ApiBottling) a w => ∃ (F_97 : Fz), F_94 ≤ F_97 ∧ Hd 169 [] [(1, (.pointer (some ⟨b5, 0, none⟩))), (2, (.pointer (some ⟨b9, 0, none⟩))), (3, (.pointer (some ⟨b10, 0, none⟩))), (4, (.int .i64 total30)), (5, (.int .i64 least32)), (6, (.int .i64 most34)), (7, (.slice p15 s12.2.2.2.1.length k16)), (8, (.int .i64 s12.2.2.2.2.1)), (9, (.pointer (some ⟨b29, 0, none⟩))), (11, (.int .i64 s96.1))] F_97 [pt b29 (.cells (cApiDraught x19).toArray 51), ownSl 1 (Ex (cInt .i64)) F_13 3 p15 k16 s12.2.2.2.1, pt b10 (.cells (cApiBottling s96.2).toArray 56), pt b9 (.cells (cApiBottling (ApiBottling.mk (ApiSpan.mk 0 0) (ApiSpan.mk 0 0) 0 (fun _ => 0) (fun _ => 0) 0)).toArray 56), R] a w) (fun b141 e a w => e = .exit 4 ∧ ∃ (F_142 : Fz), F_94 ≤ F_142 ∧ Hd 169 [] [(1, (.pointer (some ⟨b5, 0, none⟩))), (2, (.pointer (some ⟨b9, 0, none⟩))), (3, (.pointer (some ⟨b10, 0, none⟩))), (4, (.int .i64 total30)), (5, (.int .i64 least32)), (6, (.int .i64 most34)), (7, (.slice p15 s12.2.2.2.1.length k16)), (8, (.int .i64 s12.2.2.2.2.1)), (9, (.pointer (some ⟨b29, 0, none⟩)))] F_142 [pt b29 (.cells (cApiDraught x19).toArray 51), ownSl 1 (Ex (cInt .i64)) F_13 3 p15 k16 s12.2.2.2.1, pt b10 (.cells (cApiBottling b141).toArray 56), pt b9 (.cells (cApiBottling (ApiBottling.mk (ApiSpan.mk 0 0) (ApiSpan.mk 0 0) 0 (fun _ => 0) (fun _ => 0) 0)).toArray 56), R] a w) ?_ ?_ ?_
          · exact fun a w h => ⟨F_94, (Fz.le_refl _), h.1.sub (.cons (k := 1) rfl (.cons (k := 2) rfl (.cons (k := 3) rfl (.cons (k := 4) rfl (.cons (k := 5) rfl (.cons (k := 6) rfl (.cons (k := 7) rfl (.cons (k := 8) rfl (.cons (k := 9) rfl (.cons (k := 11) rfl (.nil _))))))))))), h.2⟩
          · intro s96 ctl
            refine GC.ex (fun a w ⟨F_97, l_98, hA⟩ => ⟨_, hA, ?_⟩)
            unfold b_wormtubref12_blend_3
            refine .seq ?_
            refine .seq ?_
            refine .region ?_
            refine .move rfl rfl ?_
            refine .lss rfl rfl rfl ?_
            refine .nil ?_
            refine .code ?_
            refine .cond rfl (fun hb99 => ?_) (fun hb99 => ?_)
            · skip
              refine .skip ?_
              refine .code ?_
              refine .seq ?_
              refine .block ?_
              refine .keep (.cons (k := 1) rfl (.cons (k := 2) rfl (.cons (k := 3) rfl (.cons (k := 4) rfl (.cons (k := 5) rfl (.cons (k := 6) rfl (.cons (k := 7) rfl (.cons (k := 8) rfl (.cons (k := 9) rfl (.cons (k := 11) rfl (.nil _))))))))))) ?_
              refine .bind (fun j100 hj101 => ?_)
              refine .bind (fun j102 hj103 => ?_)
              refine .bind (fun j104 hj105 => ?_)
              refine .letv (fun x106 e107 => ?_)
              refine .drawS ⟨1000000, 0, [], 0⟩ 13 [pt b29 (.cells (cApiDraught x19).toArray 51), ownSl 1 (Ex (cInt .i64)) F_13 3 p15 k16 s12.2.2.2.1, pt b10 (.cells (cApiBottling x106).toArray 56), pt b9 (.cells (cApiBottling (ApiBottling.mk (ApiSpan.mk 0 0) (ApiSpan.mk 0 0) 0 (fun _ => 0) (fun _ => 0) 0)).toArray 56), R] [0, 1, 2, 3, 4, 5, 6, 7, 8, 9, 10, 11, 12] [(93, (.int .i64 s96.1)), (94, (.int .i64 s96.1)), (95, (.pointer (some ⟨b10, 0 + 13, none⟩))), (96, (.pointer (some ⟨b10, 0 + 13 + j100 * 1, none⟩))), (97, (.int .i64 (s96.2.Places j100))), (98, (.int .i64 s96.1)), (99, (.pointer (some ⟨b29, 0 + 0, none⟩))), (100, (.pointer (some ⟨b29, 0 + 0 + 16, none⟩))), (101, (.pointer (some ⟨b29, 0 + 0 + 16 + j102 * 1, none⟩))), (102, (.int .i64 (x19.From.Places j102))), (103, (.int .i64 (imin (s96.2.Places j100) (x19.From.Places j102)))), (104, (.pointer (some ⟨b10, 0 + 13, none⟩))), (105, (.pointer (some ⟨b10, 0 + 13 + j104 * 1, none⟩))), (1000013, undef)] mixedOK (by kernel_rfl) (by kernel_rfl) rfl (by kernel_rfl) (by kernel_rfl) rfl rfl rfl rfl ?_ (fun F_108 b109 l_110 => ?_)
              · skip
                refine .cons (.pre rfl rfl (.mk 93 (.int .i64 s96.1) [(11, (.int .i64 s96.1))] rfl rfl rfl rfl (fun S hS hd => (.cons (hS _ _ rfl) (Sub.nil _))) (fun F_111 X l_112 => ?_))) ?_
                · skip
                  refine .move rfl rfl ?_
                  exact .fin1 (Fz.le_refl _)
                refine .cons (.pre rfl rfl (.mk 94 (.int .i64 s96.1) [(11, (.int .i64 s96.1))] rfl rfl rfl rfl (fun S hS hd => (.cons (hS _ _ rfl) (Sub.nil _))) (fun F_113 X l_114 => ?_))) ?_
                · skip
                  refine .move rfl rfl ?_
                  exact .fin1 (Fz.le_refl _)
                refine .cons (.pre rfl rfl (.mk 95 (.pointer (some ⟨b10, 0 + 13, none⟩)) [(3, (.pointer (some ⟨b10, 0, none⟩)))] rfl rfl rfl rfl (fun S hS hd => (.cons (hS _ _ rfl) (Sub.nil _))) (fun F_115 X l_116 => ?_))) ?_
                · skip
                  refine .fieldAddr rfl Try.underlying56 rfl Try.sizeOf47 rfl ?_
                  exact .fin1 (Fz.le_refl _)
                refine .cons (.pre rfl rfl (.mk 96 (.pointer (some ⟨b10, 0 + 13 + j100 * 1, none⟩)) [(94, (.int .i64 s96.1)), (95, (.pointer (some ⟨b10, 0 + 13, none⟩)))] rfl rfl rfl rfl (fun S hS hd => (.cons (hd.2.1 rfl rfl _ _ rfl) (.cons (hd.1 rfl rfl _ _ rfl) (Sub.nil _)))) (fun F_117 X l_118 => ?_))) ?_
                · skip
                  refine .indexAddrA rfl Try.underlying47 Try.sizeOf3 rfl rfl hj101 ?_
                  exact .fin1 (Fz.le_refl _)
                refine .cons (.pre rfl rfl (.mk 97 (.int .i64 (s96.2.Places j100)) [(96, (.pointer (some ⟨b10, 0 + 13 + j100 * 1, none⟩)))] rfl rfl rfl rfl (fun S hS hd => (.cons (hd.1 rfl rfl _ _ rfl) (Sub.nil _))) (fun F_119 X l_120 => ?_))) ?_
                · skip
                  refine .loadO rfl Try.isAgg3 rfl (i := 2) rfl (allLt8 (p := fun j100 => ((cApiBottling s96.2))[0 + 13 + j100 * 1]? = some (.int .i64 (s96.2.Places j100))) rfl rfl rfl rfl rfl rfl rfl rfl _ (idxO_some hj101).2.2.2) ?_
                  exact .fin1 (Fz.le_refl _)
                refine .cons (.pre rfl rfl (.mk 98 (.int .i64 s96.1) [(11, (.int .i64 s96.1))] rfl rfl rfl rfl (fun S hS hd => (.cons (hS _ _ rfl) (Sub.nil _))) (fun F_121 X l_122 => ?_))) ?_
                · skip
                  refine .move rfl rfl ?_
                  exact .fin1 (Fz.le_refl _)
                refine .cons (.pre rfl rfl (.mk 99 (.pointer (some ⟨b29, 0 + 0, none⟩)) [(9, (.pointer (some ⟨b29, 0, none⟩)))] rfl rfl rfl rfl (fun S hS hd => (.cons (hS _ _ rfl) (Sub.nil _))) (fun F_123 X l_124 => ?_))) ?_
                · skip
                  refine .fieldAddr rfl Try.underlying51 rfl Try.sizeOf49 rfl ?_
                  exact .fin1 (Fz.le_refl _)
                refine .cons (.pre rfl rfl (.mk 100 (.pointer (some ⟨b29, 0 + 0 + 16, none⟩)) [(99, (.pointer (some ⟨b29, 0 + 0, none⟩)))] rfl rfl rfl rfl (fun S hS hd => (.cons (hd.1 rfl rfl _ _ rfl) (Sub.nil _))) (fun F_125 X l_126 => ?_))) ?_
                · skip
                  refine .fieldAddr rfl Try.underlying49 rfl Try.sizeOf47 rfl ?_
                  exact .fin1 (Fz.le_refl _)
                refine .cons (.pre rfl rfl (.mk 101 (.pointer (some ⟨b29, 0 + 0 + 16 + j102 * 1, none⟩)) [(98, (.int .i64 s96.1)), (100, (.pointer (some ⟨b29, 0 + 0 + 16, none⟩)))] rfl rfl rfl rfl (fun S hS hd => (.cons (hd.2.1 rfl rfl _ _ rfl) (.cons (hd.1 rfl rfl _ _ rfl) (Sub.nil _)))) (fun F_127 X l_128 => ?_))) ?_
                · skip
                  refine .indexAddrA rfl Try.underlying47 Try.sizeOf3 rfl rfl hj103 ?_
                  exact .fin1 (Fz.le_refl _)
                refine .cons (.pre rfl rfl (.mk 102 (.int .i64 (x19.From.Places j102)) [(101, (.pointer (some ⟨b29, 0 + 0 + 16 + j102 * 1, none⟩)))] rfl rfl rfl rfl (fun S hS hd => (.cons (hd.1 rfl rfl _ _ rfl) (Sub.nil _))) (fun F_129 X l_130 => ?_))) ?_
                · skip
                  refine .loadO rfl Try.isAgg3 rfl (i := 0) rfl (allLt8 (p := fun j102 => ((cApiDraught x19))[0 + 0 + 16 + j102 * 1]? = some (.int .i64 (x19.From.Places j102))) rfl rfl rfl rfl rfl rfl rfl rfl _ (idxO_some hj103).2.2.2) ?_
                  exact .fin1 (Fz.le_refl _)
                refine .cons (.pre rfl rfl (.mk 103 (.int .i64 (imin (s96.2.Places j100) (x19.From.Places j102))) [(97, (.int .i64 (s96.2.Places j100))), (102, (.int .i64 (x19.From.Places j102)))] rfl rfl rfl rfl (fun S hS hd => (.cons (hd.1 rfl rfl _ _ rfl) (.cons (hd.2.1 rfl rfl _ _ rfl) (Sub.nil _)))) (fun F_131 X l_132 => ?_))) ?_
                · skip
                  refine .min2 rfl rfl rfl ?_
                  exact .fin1 (Fz.le_refl _)
                refine .cons (.pre rfl rfl (.mk 104 (.pointer (some ⟨b10, 0 + 13, none⟩)) [(3, (.pointer (some ⟨b10, 0, none⟩)))] rfl rfl rfl rfl (fun S hS hd => (.cons (hS _ _ rfl) (Sub.nil _))) (fun F_133 X l_134 => ?_))) ?_
                · skip
                  refine .fieldAddr rfl Try.underlying56 rfl Try.sizeOf47 rfl ?_
                  exact .fin1 (Fz.le_refl _)
                refine .cons (.pre rfl rfl (.mk 105 (.pointer (some ⟨b10, 0 + 13 + j104 * 1, none⟩)) [(93, (.int .i64 s96.1)), (104, (.pointer (some ⟨b10, 0 + 13, none⟩)))] rfl rfl rfl rfl (fun S hS hd => (.cons (hd.2.1 rfl rfl _ _ rfl) (.cons (hd.1 rfl rfl _ _ rfl) (Sub.nil _)))) (fun F_135 X l_136 => ?_))) ?_
                · skip
                  refine .indexAddrA rfl Try.underlying47 Try.sizeOf3 rfl rfl hj105 ?_
                  exact .fin1 (Fz.le_refl _)
                refine .cons (.store [(103, (.int .i64 (imin (s96.2.Places j100) (x19.From.Places j102)))), (105, (.pointer (some ⟨b10, 0 + 13 + j104 * 1, none⟩)))] rfl rfl (fun S hS hd => (.cons (hd.2.1 rfl rfl _ _ rfl) (.cons (hd.1 rfl rfl _ _ rfl) (Sub.nil _)))) (fun F_137 X l_138 => ?_)) ?_
                · skip
                  refine .store (cs' := (cApiBottling x106)) Try.sizeOf3 rfl rfl rfl rfl (i := 2) rfl (allLt8 (p := fun j104 => 0 + 13 + j104 * 1 + 1 ≤ 22) (by decide) (by decide) (by decide) (by decide) (by decide) (by decide) (by decide) (by decide) _ (idxO_some hj105).2.2.2) rfl (by rw [e107]; exact (allLt8 (p := fun j104 => setMany ((cApiBottling s96.2)) (0 + 13 + j104 * 1) [(.int .i64 (imin (s96.2.Places j100) (x19.From.Places j102)))] = (cApiBottling ({ s96.2 with Places := updN s96.2.Places j104 (imin (s96.2.Places j100) (x19.From.Places j102)) }))) rfl rfl rfl rfl rfl rfl rfl rfl _ (idxO_some hj105).2.2.2)) ?_
                  exact StPost.fin (Fz.le_refl _)
                exact .nil
              refine .nil ?_
              refine .block ?_
              refine .code ?_
              refine .region ?_
              refine .move rfl rfl ?_
              refine .add rfl rfl rfl ?_
              refine .assignL rfl rfl (fun k139 e140 => ?_)
              refine .nil ?_
              exact .nil (LPost.norm fun a w h => ⟨F_108, (Fz.le_trans l_98 l_110), h.1.sub (.cons (k := 1) rfl (.cons (k := 2) rfl (.cons (k := 3) rfl (.cons (k := 4) rfl (.cons (k := 5) rfl (.cons (k := 6) rfl (.cons (k := 7) rfl (.cons (k := 8) rfl (.cons (k := 9) rfl (.cons (k := 11) rfl (.nil _))))))))))), h.2⟩)
            · skip
              refine .exitOut rfl (LPost.exit fun a w h => ⟨rfl, F_97, l_98, h.1.sub (.cons (k := 1) rfl (.cons (k := 2) rfl (.cons (k := 3) rfl (.cons (k := 4) rfl (.cons (k := 5) rfl (.cons (k := 6) rfl (.cons (k := 7) rfl (.cons (k := 8) rfl (.cons (k := 9) rfl (.nil _)))))))))), h.2⟩)
          · intro b141 hb0 hk e a w hD
            obtain ⟨rfl, F_142, l_143, hA⟩ := hD
            refine interp_exit rfl (GE.app ?_ hk a w hA)
            refine .code ?_
            refine .seq ?_
            refine .region ?_
            refine .assign rfl rfl ?_
            refine .nil ?_
            refine .code ?_
            refine .seq ?_
            refine .seq ?_
            refine .region ?_
            refine .assign rfl rfl ?_
            refine .nil ?_
            refine .code ?_
            refine .block ?_
            refine .keep (.cons (k := 1) rfl (.cons (k := 2) rfl (.cons (k := 3) rfl (.cons (k := 4) rfl (.cons (k := 5) rfl (.cons (k := 6) rfl (.cons (k := 7) rfl (.cons (k := 8) rfl (.cons (k := 9) rfl (.cons (k := 12) rfl (.cons (k := 13) rfl (.nil _)))))))))))) ?_
            refine .loop (fun (s144 : Bool × Int) a w => ∃ (F_145 : Fz), F_142 ≤ F_145 ∧ Hd 169 [] [(1, (.pointer (some ⟨b5, 0, none⟩))), (2, (.pointer (some ⟨b9, 0, none⟩))), (3, (.pointer (some ⟨b10, 0, none⟩))), (4, (.int .i64 total30)), (5, (.int .i64 least32)), (6, (.int .i64 most34)), (7, (.slice p15 s12.2.2.2.1.length k16)), (8, (.int .i64 s12.2.2.2.2.1)), (9, (.pointer (some ⟨b29, 0, none⟩))), (12, (.bool s144.1)), (13, (.int .i64 s144.2))] F_145 [pt b29 (.cells (cApiDraught x19).toArray 51), ownSl 1 (Ex (cInt .i64)) F_13 3 p15 k16 s12.2.2.2.1, pt b10 (.cells (cApiBottling b141).toArray 56), pt b9 (.cells (cApiBottling (ApiBottling.mk (ApiSpan.mk 0 0) (ApiSpan.mk 0 0) 0 (fun _ => 0) (fun _ => 0) 0)).toArray 56), R] a w) (fun b210 e a w => e = .exit 6 ∧ ∃ (F_211 : Fz), F_142 ≤ F_211 ∧ Hd 169 [] [(1, (.pointer (some ⟨b5, 0, none⟩))), (2, (.pointer (some ⟨b9, 0, none⟩))), (3, (.pointer (some ⟨b10, 0, none⟩))), (4, (.int .i64 total30)), (5, (.int .i64 least32)), (6, (.int .i64 most34)), (7, (.slice p15 s12.2.2.2.1.length k16)), (8, (.int .i64 s12.2.2.2.2.1)), (9, (.pointer (some ⟨b29, 0, none⟩))), (12, (.bool b210))] F_211 [pt b29 (.cells (cApiDraught x19).toArray 51), ownSl 1 (Ex (cInt .i64)) F_13 3 p15 k16 s12.2.2.2.1, pt b10 (.cells (cApiBottling b141).toArray 56), pt b9 (.cells (cApiBottling (ApiBottling.mk (ApiSpan.mk 0 0) (ApiSpan.mk 0 0) 0 (fun _ => 0) (fun _ => 0) 0)).toArray 56), R] a w) ?_ ?_ ?_
            · exact fun a w h => ⟨F_142, (Fz.le_refl _), h.1.sub (.cons (k := 1) rfl (.cons (k := 2) rfl (.cons (k := 3) rfl (.cons (k := 4) rfl (.cons (k := 5) rfl (.cons (k := 6) rfl (.cons (k := 7) rfl (.cons (k := 8) rfl (.cons (k := 9) rfl (.cons (k := 12) rfl (.cons (k := 13) rfl (.nil _)))))))))))), h.2⟩
            · intro s144 ctl
              refine GC.ex (fun a w ⟨F_145, l_146, hA⟩ => ⟨_, hA, ?_⟩)
              unfold b_wormtubref12_blend_4
              refine .seq ?_
              refine .seq ?_
              refine .region ?_
              refine .move rfl rfl ?_
              refine .move rfl rfl ?_
              refine .lenS rfl rfl Try.underlying40 rfl ?_
              refine .lss rfl rfl rfl ?_
              refine .nil ?_
              refine .code ?_
              refine .cond rfl (fun hb147 => ?_) (fun hb147 => ?_)
              · skip
                refine .skip ?_
                refine .code ?_
                refine .seq ?_
                refine .block ?_
                refine .keep (.cons (k := 1) rfl (.cons (k := 2) rfl (.cons (k := 3) rfl (.cons (k := 4) rfl (.cons (k := 5) rfl (.cons (k := 6) rfl (.cons (k := 7) rfl (.cons (k := 8) rfl (.cons (k := 9) rfl (.cons (k := 12) rfl (.cons (k := 13) rfl (.nil _)))))))))))) ?_
                refine GC.join0 (σ := Bool) (fun j205 a w => ∃ (F_206 : Fz), F_145 ≤ F_206 ∧ Hd 169 [] [(1, (.pointer (some ⟨b5, 0, none⟩))), (2, (.pointer (some ⟨b9, 0, none⟩))), (3, (.pointer (some ⟨b10, 0, none⟩))), (4, (.int .i64 total30)), (5, (.int .i64 least32)), (6, (.int .i64 most34)), (7, (.slice p15 s12.2.2.2.1.length k16)), (8, (.int .i64 s12.2.2.2.2.1)), (9, (.pointer (some ⟨b29, 0, none⟩))), (12, (.bool j205)), (13, (.int .i64 s144.2))] F_206 [pt b29 (.cells (cApiDraught x19).toArray 51), ownSl 1 (Ex (cInt .i64)) F_13 3 p15 k16 s12.2.2.2.1, pt b10 (.cells (cApiBottling b141).toArray 56), pt b9 (.cells (cApiBottling (ApiBottling.mk (ApiSpan.mk 0 0) (ApiSpan.mk 0 0) 0 (fun _ => 0) (fun _ => 0) 0)).toArray 56), R] a w) (fun sj => ?_) (fun j205 hs0 => GE.ex (fun a w ⟨F_206, l_207, hA⟩ => ⟨_, hA, ?_⟩))
                · skip
                  refine .ite (fun hb148 => ?_) (fun hb148 => ?_)
                  · skip
                    refine .draw ⟨1000000, 0, [], 0⟩ [(112, (.bool s144.1)), (113, (.bool s144.1)), (114, undef), (115, undef), (116, undef), (117, undef), (118, undef), (119, undef), (120, undef), (121, undef), (122, (.bool true))] mixedOK (by kernel_rfl) (by kernel_rfl) rfl (by kernel_rfl) ?_ (fun F_149 b150 l_151 => ?_)
                    · skip
                      refine .cons (.mk 112 (.bool s144.1) [(12, (.bool s144.1))] rfl rfl rfl rfl (fun S hS hd => (.cons (hS _ _ rfl) (Sub.nil _))) (fun F_152 X l_153 => ?_)) ?_
                      · skip
                        refine .move rfl rfl ?_
                        exact .fin1 (Fz.le_refl _)
                      refine .cons (.mk 113 (.bool s144.1) [(112, (.bool s144.1))] rfl rfl rfl rfl (fun S hS hd => (.cons (hd.1 rfl rfl _ _ rfl) (Sub.nil _))) (fun F_154 X l_155 => ?_)) ?_
                      · skip
                        refine .move rfl rfl ?_
                        exact .fin1 (Fz.le_refl _)
                      refine .cons (.mk 114 undef [(7, (.slice p15 s12.2.2.2.1.length k16)), (113, (.bool s144.1))] rfl rfl rfl rfl (fun S hS hd => (.cons (hS _ _ rfl) (.cons (hd.1 rfl rfl _ _ rfl) (Sub.nil _)))) (fun F_156 X l_157 => ?_)) ?_
                      · skip
                        refine .offH hb148 rfl rfl rfl ?_
                        exact .fin1 (Fz.le_refl _)
                      refine .cons (.mk 115 undef [(13, (.int .i64 s144.2)), (113, (.bool s144.1))] rfl rfl rfl rfl (fun S hS hd => (.cons (hS _ _ rfl) (.cons (hd.1 rfl rfl _ _ rfl) (Sub.nil _)))) (fun F_158 X l_159 => ?_)) ?_
                      · skip
                        refine .offH hb148 rfl rfl rfl ?_
                        exact .fin1 (Fz.le_refl _)
                      refine .cons (.mk 116 undef [(113, (.bool s144.1)), (114, undef), (115, undef)] rfl rfl rfl rfl (fun S hS hd => (.cons (hd.2.2.1 rfl rfl _ _ rfl) (.cons (hd.1 rfl rfl _ _ rfl) (.cons (hd.2.1 rfl rfl _ _ rfl) (Sub.nil _))))) (fun F_160 X l_161 => ?_)) ?_
                      · skip
                        refine .offH hb148 rfl rfl rfl ?_
                        exact .fin1 (Fz.le_refl _)
                      refine .cons (.mk 117 undef [(113, (.bool s144.1)), (116, undef)] rfl rfl rfl rfl (fun S hS hd => (.cons (hd.2.1 rfl rfl _ _ rfl) (.cons (hd.1 rfl rfl _ _ rfl) (Sub.nil _)))) (fun F_162 X l_163 => ?_)) ?_
                      · skip
                        refine .offH hb148 rfl rfl rfl ?_
                        exact .fin1 (Fz.le_refl _)
                      refine .cons (.mk 118 undef [(9, (.pointer (some ⟨b29, 0, none⟩))), (113, (.bool s144.1))] rfl rfl rfl rfl (fun S hS hd => (.cons (hS _ _ rfl) (.cons (hd.1 rfl rfl _ _ rfl) (Sub.nil _)))) (fun F_164 X l_165 => ?_)) ?_
                      · skip
                        refine .offH hb148 rfl rfl rfl ?_
                        exact .fin1 (Fz.le_refl _)
                      refine .cons (.mk 119 undef [(113, (.bool s144.1)), (118, undef)] rfl rfl rfl rfl (fun S hS hd => (.cons (hd.2.1 rfl rfl _ _ rfl) (.cons (hd.1 rfl rfl _ _ rfl) (Sub.nil _)))) (fun F_166 X l_167 => ?_)) ?_
                      · skip
                        refine .offH hb148 rfl rfl rfl ?_
                        exact .fin1 (Fz.le_refl _)
                      refine .cons (.mk 120 undef [(113, (.bool s144.1)), (119, undef)] rfl rfl rfl rfl (fun S hS hd => (.cons (hd.2.1 rfl rfl _ _ rfl) (.cons (hd.1 rfl rfl _ _ rfl) (Sub.nil _)))) (fun F_168 X l_169 => ?_)) ?_
                      · skip
                        refine .offH hb148 rfl rfl rfl ?_
                        exact .fin1 (Fz.le_refl _)
                      refine .cons (.mk 121 undef [(113, (.bool s144.1)), (117, undef), (120, undef)] rfl rfl rfl rfl (fun S hS hd => (.cons (hd.2.2.1 rfl rfl _ _ rfl) (.cons (hd.1 rfl rfl _ _ rfl) (.cons (hd.2.1 rfl rfl _ _ rfl) (Sub.nil _))))) (fun F_170 X l_171 => ?_)) ?_
                      · skip
                        refine .offH hb148 rfl rfl rfl ?_
                        exact .fin1 (Fz.le_refl _)
                      refine .cons (.mk 122 (.bool true) [(113, (.bool s144.1)), (121, undef)] rfl rfl rfl rfl (fun S hS hd => (.cons (hd.1 rfl rfl _ _ rfl) (.cons (hd.2.1 rfl rfl _ _ rfl) (Sub.nil _)))) (fun F_172 X l_173 => ?_)) ?_
                      · skip
                        refine .pickTH hb148  rfl rfl rfl ?_
                        exact .fin1 (Fz.le_refl _)
                      exact .nil
                    refine .assign rfl rfl ?_
                    refine .nil ?_
                    exact .nil fun e a w h => by cases e; exact ⟨rfl, ⟨F_149, l_151, h.1.sub (.cons (k := 1) rfl (.cons (k := 2) rfl (.cons (k := 3) rfl (.cons (k := 4) rfl (.cons (k := 5) rfl (.cons (k := 6) rfl (.cons (k := 7) rfl (.cons (k := 8) rfl (.cons (k := 9) rfl (.cons (k := 12) rfl (.cons (k := 13) rfl (.nil _)))))))))))), h.2⟩⟩
                  · skip
                    refine .bind (fun x174 e175 => ?_)
                    refine .ownAddr 1 rfl e175 (fun b176 hp177 => ?_)
                    refine .draw ⟨1000000, 0, [], 0⟩ [(112, (.bool s144.1)), (113, (.bool s144.1)), (114, (.slice p15 s12.2.2.2.1.length k16)), (115, (.int .i64 s144.2)), (116, (.pointer (some ⟨b176, 0 + (s144.2).toNat * 1, none⟩))), (117, (.int .i64 x174)), (118, (.pointer (some ⟨b29, 0 + 0, none⟩))), (119, (.pointer (some ⟨b29, 0 + 0 + 0, none⟩))), (120, (.int .i64 x19.From.Number)), (121, (.bool (x174 == x19.From.Number))), (122, (.bool (x174 == x19.From.Number)))] mixedOK (by kernel_rfl) (by kernel_rfl) rfl (by kernel_rfl) ?_ (fun F_178 b179 l_180 => ?_)
                    · skip
                      refine .cons (.mk 112 (.bool s144.1) [(12, (.bool s144.1))] rfl rfl rfl rfl (fun S hS hd => (.cons (hS _ _ rfl) (Sub.nil _))) (fun F_181 X l_182 => ?_)) ?_
                      · skip
                        refine .move rfl rfl ?_
                        exact .fin1 (Fz.le_refl _)
                      refine .cons (.mk 113 (.bool s144.1) [(112, (.bool s144.1))] rfl rfl rfl rfl (fun S hS hd => (.cons (hd.1 rfl rfl _ _ rfl) (Sub.nil _))) (fun F_183 X l_184 => ?_)) ?_
                      · skip
                        refine .move rfl rfl ?_
                        exact .fin1 (Fz.le_refl _)
                      refine .cons (.mk 114 (.slice p15 s12.2.2.2.1.length k16) [(7, (.slice p15 s12.2.2.2.1.length k16)), (113, (.bool s144.1))] rfl rfl rfl rfl (fun S hS hd => (.cons (hS _ _ rfl) (.cons (hd.1 rfl rfl _ _ rfl) (Sub.nil _)))) (fun F_185 X l_186 => ?_)) ?_
                      · skip
                        refine .onH hb148 rfl rfl ?_
                        refine .move rfl rfl ?_
                        exact .fin1 (Fz.le_refl _)
                      refine .cons (.mk 115 (.int .i64 s144.2) [(13, (.int .i64 s144.2)), (113, (.bool s144.1))] rfl rfl rfl rfl (fun S hS hd => (.cons (hS _ _ rfl) (.cons (hd.1 rfl rfl _ _ rfl) (Sub.nil _)))) (fun F_187 X l_188 => ?_)) ?_
                      · skip
                        refine .onH hb148 rfl rfl ?_
                        refine .move rfl rfl ?_
                        exact .fin1 (Fz.le_refl _)
                      refine .cons (.mk 116 (.pointer (some ⟨b176, 0 + (s144.2).toNat * 1, none⟩)) [(113, (.bool s144.1)), (114, (.slice p15 s12.2.2.2.1.length k16)), (115, (.int .i64 s144.2))] rfl rfl rfl rfl (fun S hS hd => (.cons (hd.2.2.1 rfl rfl _ _ rfl) (.cons (hd.1 rfl rfl _ _ rfl) (.cons (hd.2.1 rfl rfl _ _ rfl) (Sub.nil _))))) (fun F_189 X l_190 => ?_)) ?_
                      · skip
                        refine .onH hb148 rfl rfl ?_
                        refine .idxOwn rfl Try.underlying40 Try.sizeOf3 hp177 e175 rfl rfl ?_
                        exact .fin1 (Fz.le_refl _)
                      refine .cons (.mk 117 (.int .i64 x174) [(113, (.bool s144.1)), (116, (.pointer (some ⟨b176, 0 + (s144.2).toNat * 1, none⟩)))] rfl rfl rfl rfl (fun S hS hd => (.cons (hd.2.1 rfl rfl _ _ rfl) (.cons (hd.1 rfl rfl _ _ rfl) (Sub.nil _)))) (fun F_191 X l_192 => ?_)) ?_
                      · skip
                        refine .onH hb148 rfl rfl ?_
                        refine .loadOwn (off := 0) (Φ := fun v => v = (.int .i64 x174)) 1 rfl (Fz.le_trans l_45 (Fz.le_trans l_95 (Fz.le_trans l_143 (Fz.le_trans l_146 l_192)))) rfl Try.isAgg3 hp177 e175 rfl rfl (fun vs h => ⟨_, by subst h; rfl, rfl⟩) (fun v hv => ?_)
                        subst hv
                        exact .fin1 (Fz.le_refl _)
                      refine .cons (.mk 118 (.pointer (some ⟨b29, 0 + 0, none⟩)) [(9, (.pointer (some ⟨b29, 0, none⟩))), (113, (.bool s144.1))] rfl rfl rfl rfl (fun S hS hd => (.cons (hS _ _ rfl) (.cons (hd.1 rfl rfl _ _ rfl) (Sub.nil _)))) (fun F_193 X l_194 => ?_)) ?_
                      · skip
                        refine .onH hb148 rfl rfl ?_
                        refine .fieldAddr rfl Try.underlying51 rfl Try.sizeOf49 rfl ?_
                        exact .fin1 (Fz.le_refl _)
                      refine .cons (.mk 119 (.pointer (some ⟨b29, 0 + 0 + 0, none⟩)) [(113, (.bool s144.1)), (118, (.pointer (some ⟨b29, 0 + 0, none⟩)))] rfl rfl rfl rfl (fun S hS hd => (.cons (hd.2.1 rfl rfl _ _ rfl) (.cons (hd.1 rfl rfl _ _ rfl) (Sub.nil _)))) (fun F_195 X l_196 => ?_)) ?_
                      · skip
                        refine .onH hb148 rfl rfl ?_
                        refine .fieldAddr rfl Try.underlying49 rfl Try.sizeOf3 rfl ?_
                        exact .fin1 (Fz.le_refl _)
                      refine .cons (.mk 120 (.int .i64 x19.From.Number) [(113, (.bool s144.1)), (119, (.pointer (some ⟨b29, 0 + 0 + 0, none⟩)))] rfl rfl rfl rfl (fun S hS hd => (.cons (hd.2.1 rfl rfl _ _ rfl) (.cons (hd.1 rfl rfl _ _ rfl) (Sub.nil _)))) (fun F_197 X l_198 => ?_)) ?_
                      · skip
                        refine .onH hb148 rfl rfl ?_
                        refine .loadO rfl Try.isAgg3 rfl (i := 0) rfl rfl ?_
                        exact .fin1 (Fz.le_refl _)
                      refine .cons (.mk 121 (.bool (x174 == x19.From.Number)) [(113, (.bool s144.1)), (117, (.int .i64 x174)), (120, (.int .i64 x19.From.Number))] rfl rfl rfl rfl (fun S hS hd => (.cons (hd.2.2.1 rfl rfl _ _ rfl) (.cons (hd.1 rfl rfl _ _ rfl) (.cons (hd.2.1 rfl rfl _ _ rfl) (Sub.nil _))))) (fun F_199 X l_200 => ?_)) ?_
                      · skip
                        refine .onH hb148 rfl rfl ?_
                        refine .eql rfl rfl rfl ?_
                        exact .fin1 (Fz.le_refl _)
                      refine .cons (.mk 122 (.bool (x174 == x19.From.Number)) [(113, (.bool s144.1)), (121, (.bool (x174 == x19.From.Number)))] rfl rfl rfl rfl (fun S hS hd => (.cons (hd.1 rfl rfl _ _ rfl) (.cons (hd.2.1 rfl rfl _ _ rfl) (Sub.nil _)))) (fun F_201 X l_202 => ?_)) ?_
                      · skip
                        refine .pickFH hb148  rfl rfl rfl ?_
                        exact .fin1 (Fz.le_refl _)
                      exact .nil
                    refine .assignB rfl rfl (fun there203 e204 => ?_)
                    refine .nil ?_
                    exact .nil fun e a w h => by cases e; exact ⟨rfl, ⟨F_178, l_180, h.1.sub (.cons (k := 1) rfl (.cons (k := 2) rfl (.cons (k := 3) rfl (.cons (k := 4) rfl (.cons (k := 5) rfl (.cons (k := 6) rfl (.cons (k := 7) rfl (.cons (k := 8) rfl (.cons (k := 9) rfl (.cons (k := 12) rfl (.cons (k := 13) rfl (.nil _)))))))))))), h.2⟩⟩
                refine .block ?_
                refine .code ?_
                refine .region ?_
                refine .move rfl rfl ?_
                refine .add rfl rfl rfl ?_
                refine .assignL rfl rfl (fun k208 e209 => ?_)
                refine .nil ?_
                exact .nil (LPost.norm fun a w h => ⟨F_206, (Fz.le_trans l_146 l_207), h.1.sub (.cons (k := 1) rfl (.cons (k := 2) rfl (.cons (k := 3) rfl (.cons (k := 4) rfl (.cons (k := 5) rfl (.cons (k := 6) rfl (.cons (k := 7) rfl (.cons (k := 8) rfl (.cons (k := 9) rfl (.cons (k := 12) rfl (.cons (k := 13) rfl (.nil _)))))))))))), h.2⟩)
              · skip
                refine .exitOut rfl (LPost.exit fun a w h => ⟨rfl, F_145, l_146, h.1.sub (.cons (k := 1) rfl (.cons (k := 2) rfl (.cons (k := 3) rfl (.cons (k := 4) rfl (.cons (k := 5) rfl (.cons (k := 6) rfl (.cons (k := 7) rfl (.cons (k := 8) rfl (.cons (k := 9) rfl (.cons (k := 12) rfl (.nil _))))))))))), h.2⟩)
            · intro b210 hb0 hk e a w hD
              obtain ⟨rfl, F_211, l_212, hA⟩ := hD
              refine interp_exit rfl (GE.app ?_ hk a w hA)
              refine .code ?_
              refine .seq ?_
              refine .region ?_
              refine .move rfl rfl ?_
              refine .not rfl rfl ?_
              refine .nil ?_
              refine .code ?_
              refine .keep (.cons (k := 1) rfl (.cons (k := 2) rfl (.cons (k := 3) rfl (.cons (k := 4) rfl (.cons (k := 5) rfl (.cons (k := 6) rfl (.cons (k := 7) rfl (.cons (k := 8) rfl (.cons (k := 9) rfl (.cons (k := 124) rfl (.nil _))))))))))) ?_
              refine GC.join0 (σ := (List Int)) (fun j223 a w => ∃ (F_224 : Fz) (p226 : Option Addr) (k227 : Nat), F_211 ≤ F_224 ∧ Hd 169 [] [(1, (.pointer (some ⟨b5, 0, none⟩))), (2, (.pointer (some ⟨b9, 0, none⟩))), (3, (.pointer (some ⟨b10, 0, none⟩))), (4, (.int .i64 total30)), (5, (.int .i64 least32)), (6, (.int .i64 most34)), (7, (.slice p226 j223.length k227)), (8, (.int .i64 s12.2.2.2.2.1))] F_224 [pt b29 (.cells (cApiDraught x19).toArray 51), ownSl 1 (Ex (cInt .i64)) F_224 3 p226 k227 j223, pt b10 (.cells (cApiBottling b141).toArray 56), pt b9 (.cells (cApiBottling (ApiBottling.mk (ApiSpan.mk 0 0) (ApiSpan.mk 0 0) 0 (fun _ => 0) (fun _ => 0) 0)).toArray 56), R] a w) (fun sj => ?_) (fun j223 hs0 => GE.ex (fun a w ⟨F_224, p226, k227, l_225, hA⟩ => ⟨_, hA, ?_⟩))
              · skip
                refine .cond rfl (fun hb213 => ?_) (fun hb213 => ?_)
                · skip
                  refine .region ?_
                  refine .move rfl rfl ?_
                  refine .fieldAddr rfl Try.underlying51 rfl Try.sizeOf49 rfl ?_
                  refine .fieldAddr rfl Try.underlying49 rfl Try.sizeOf3 rfl ?_
                  refine .loadO rfl Try.isAgg3 rfl (i := 0) rfl rfl ?_
                  refine .sliceLit (cs := [.int .i64 x19.From.Number]) (zc := [.int .i64 0]) rfl Try.underlying40 Try.sizeOf3 Try.zeroValue3 rfl rfl rfl (by kernel_rfl) (by kernel_rfl) (fun b214 F_215 l_216 hb217 => ?_)
                  have h218 : RepSl 1 (Ex (cInt .i64)) F_215 (some ⟨b214, 0, none⟩) 1 ([x19.From.Number]) := RepSl.ofRow hb217 (.cons ok_t3.mono rfl .nil) rfl rfl
                  refine .append 1 ok_t3 (Fz.le_trans l_45 (Fz.le_trans l_95 (Fz.le_trans l_143 (Fz.le_trans l_212 l_216)))) rfl Try.underlying40 Try.underlying40 rfl rfl rfl h218 rfl rfl (fun l_219 p220 k221 e222 => ?_)
                  refine .assign rfl rfl ?_
                  refine .nil ?_
                  exact .nil fun e a w h => by cases e; exact ⟨rfl, ⟨F_215, p220, k221, l_216, h.1.sub (.cons (k := 1) rfl (.cons (k := 2) rfl (.cons (k := 3) rfl (.cons (k := 4) rfl (.cons (k := 5) rfl (.cons (k := 6) rfl (.cons (k := 7) rfl (.cons (k := 8) rfl (.nil _))))))))), h.2⟩⟩
                · skip
                  refine .skip ?_
                  refine .ownUp 1 (Fz.le_trans l_45 (Fz.le_trans l_95 (Fz.le_trans l_143 l_212))) rfl ?_
                  exact .nil fun e a w h => by cases e; exact ⟨rfl, ⟨F_211, p15, k16, (Fz.le_refl _), h.1.sub (.cons (k := 1) rfl (.cons (k := 2) rfl (.cons (k := 3) rfl (.cons (k := 4) rfl (.cons (k := 5) rfl (.cons (k := 6) rfl (.cons (k := 7) rfl (.cons (k := 8) rfl (.nil _))))))))), h.2⟩⟩
              refine .block ?_
              refine .drop 0 ?_
              exact .nil fun e a w h => by cases e; exact ⟨rfl, ⟨F_224, p226, k227, (Fz.le_trans l_45 (Fz.le_trans l_95 (Fz.le_trans l_143 (Fz.le_trans l_212 l_225)))), h.1.sub (.cons (k := 1) rfl (.cons (k := 2) rfl (.cons (k := 3) rfl (.cons (k := 4) rfl (.cons (k := 5) rfl (.cons (k := 6) rfl (.cons (k := 7) rfl (.cons (k := 8) rfl (.nil _))))))))), h.2⟩⟩
      refine .code ?_
      refine .region ?_
      refine .move rfl rfl ?_
      refine .add rfl rfl rfl ?_
      refine .assignL rfl rfl (fun i235 e236 => ?_)
      refine .nil ?_
      exact .nil (LPost.norm fun a w h => ⟨F_230, p232, k233, (Fz.le_trans l_14 l_231), h.1.sub (.cons (k := 1) rfl (.cons (k := 2) rfl (.cons (k := 3) rfl (.cons (k := 4) rfl (.cons (k := 5) rfl (.cons (k := 6) rfl (.cons (k := 7) rfl (.cons (k := 8) rfl (.nil _))))))))), h.2⟩)
    · skip
      refine .exitOut rfl (LPost.exit fun a w h => ⟨rfl, F_13, p15, k16, l_14, h.1.sub (.cons (k := 1) rfl (.cons (k := 2) rfl (.cons (k := 3) rfl (.cons (k := 4) rfl (.cons (k := 5) rfl (.cons (k := 6) rfl (.cons (k := 7) rfl (.nil _)))))))), h.2⟩)
  · intro b237 hb0 hk e a w hD
    obtain ⟨rfl, F_238, p240, k241, l_239, hA⟩ := hD
    refine interp_exit rfl (GE.app ?_ hk a w hA)
    refine .code ?_
    refine .seq ?_
    refine .keep (.cons (k := 1) rfl (.cons (k := 2) rfl (.cons (k := 3) rfl (.cons (k := 4) rfl (.cons (k := 5) rfl (.cons (k := 6) rfl (.cons (k := 7) rfl (.nil _)))))))) ?_
    refine .draw ⟨1000000, 0, [], 0⟩ [(131, (.pointer (some ⟨b5, 0 + 2, none⟩))), (132, (.pointer (some ⟨b5, 0 + 2 + 1, none⟩))), (133, (.int .i64 b1.Shrink.Hi)), (134, (.int .i64 (w64 (10000 - b1.Shrink.Hi)))), (135, (.pointer (some ⟨b5, 0 + 2, none⟩))), (136, (.pointer (some ⟨b5, 0 + 2 + 0, none⟩))), (137, (.int .i64 b1.Shrink.Lo)), (138, (.int .i64 (w64 (10000 - b1.Shrink.Lo)))), (14, (.int .i64 (w64 (10000 - b1.Shrink.Hi))))] mixedOK (by kernel_rfl) (by kernel_rfl) rfl (by kernel_rfl) ?_ (fun F_243 b244 l_245 => ?_)
    · skip
      refine .cons (.mk 131 (.pointer (some ⟨b5, 0 + 2, none⟩)) [(1, (.pointer (some ⟨b5, 0, none⟩)))] rfl rfl rfl rfl (fun S hS hd => (.cons (hS _ _ rfl) (Sub.nil _))) (fun F_246 X l_247 => ?_)) ?_
      · skip
        refine .fieldAddr rfl Try.underlying38 rfl Try.sizeOf36 rfl ?_
        exact .fin1 (Fz.le_refl _)
      refine .cons (.mk 132 (.pointer (some ⟨b5, 0 + 2 + 1, none⟩)) [(131, (.pointer (some ⟨b5, 0 + 2, none⟩)))] rfl rfl rfl rfl (fun S hS hd => (.cons (hd.1 rfl rfl _ _ rfl) (Sub.nil _))) (fun F_248 X l_249 => ?_)) ?_
      · skip
        refine .fieldAddr rfl Try.underlying36 rfl Try.sizeOf3 rfl ?_
        exact .fin1 (Fz.le_refl _)
      refine .cons (.mk 133 (.int .i64 b1.Shrink.Hi) [(132, (.pointer (some ⟨b5, 0 + 2 + 1, none⟩)))] rfl rfl rfl rfl (fun S hS hd => (.cons (hd.1 rfl rfl _ _ rfl) (Sub.nil _))) (fun F_250 X l_251 => ?_)) ?_
      · skip
        refine .loadF rfl Try.isAgg3 rfl ((Fz.le_trans l_239 l_251).mem _ _ hb8) rfl ?_
        exact .fin1 (Fz.le_refl _)
      refine .cons (.mk 134 (.int .i64 (w64 (10000 - b1.Shrink.Hi))) [(133, (.int .i64 b1.Shrink.Hi))] rfl rfl rfl rfl (fun S hS hd => (.cons (hd.1 rfl rfl _ _ rfl) (Sub.nil _))) (fun F_252 X l_253 => ?_)) ?_
      · skip
        refine .sub rfl rfl rfl ?_
        exact .fin1 (Fz.le_refl _)
      refine .cons (.mk 135 (.pointer (some ⟨b5, 0 + 2, none⟩)) [(1, (.pointer (some ⟨b5, 0, none⟩)))] rfl rfl rfl rfl (fun S hS hd => (.cons (hS _ _ rfl) (Sub.nil _))) (fun F_254 X l_255 => ?_)) ?_
      · skip
        refine .fieldAddr rfl Try.underlying38 rfl Try.sizeOf36 rfl ?_
        exact .fin1 (Fz.le_refl _)
      refine .cons (.mk 136 (.pointer (some ⟨b5, 0 + 2 + 0, none⟩)) [(135, (.pointer (some ⟨b5, 0 + 2, none⟩)))] rfl rfl rfl rfl (fun S hS hd => (.cons (hd.1 rfl rfl _ _ rfl) (Sub.nil _))) (fun F_256 X l_257 => ?_)) ?_
      · skip
        refine .fieldAddr rfl Try.underlying36 rfl Try.sizeOf3 rfl ?_
        exact .fin1 (Fz.le_refl _)
      refine .cons (.mk 137 (.int .i64 b1.Shrink.Lo) [(136, (.pointer (some ⟨b5, 0 + 2 + 0, none⟩)))] rfl rfl rfl rfl (fun S hS hd => (.cons (hd.1 rfl rfl _ _ rfl) (Sub.nil _))) (fun F_258 X l_259 => ?_)) ?_
      · skip
        refine .loadF rfl Try.isAgg3 rfl ((Fz.le_trans l_239 l_259).mem _ _ hb8) rfl ?_
        exact .fin1 (Fz.le_refl _)
      refine .cons (.mk 138 (.int .i64 (w64 (10000 - b1.Shrink.Lo))) [(137, (.int .i64 b1.Shrink.Lo))] rfl rfl rfl rfl (fun S hS hd => (.cons (hd.1 rfl rfl _ _ rfl) (Sub.nil _))) (fun F_260 X l_261 => ?_)) ?_
      · skip
        refine .sub rfl rfl rfl ?_
        exact .fin1 (Fz.le_refl _)
      refine .cons (.mk 14 (.int .i64 (w64 (10000 - b1.Shrink.Hi))) [(134, (.int .i64 (w64 (10000 - b1.Shrink.Hi))))] rfl rfl rfl rfl (fun S hS hd => (.cons (hd.1 rfl rfl _ _ rfl) (Sub.nil _))) (fun F_262 X l_263 => ?_)) ?_
      · skip
        refine .assign rfl rfl ?_
        exact .fin1 (Fz.le_refl _)
      exact .nil
    refine .assignL rfl rfl (fun great264 e265 => ?_)
    refine .nil ?_
    refine .code ?_
    refine .seq ?_
    refine .region ?_
    refine .move rfl rfl ?_
    refine .move rfl rfl ?_
    refine .mul rfl rfl rfl ?_
    refine .quoC rfl (by decide) rfl rfl ?_
    refine .move rfl rfl ?_
    refine .move rfl rfl ?_
    refine .mul rfl rfl rfl ?_
    refine .call0 rfl Try.call88 rfl rfl rfl (c_wormtubref12_up _ (w64 (b237.1 * great264)) 10000) ?_
    rintro r_268 F_266 _ - l_267 rfl
    refine .build (cs := (cApiSpan (ApiSpan.mk (w64 (Int.tdiv (w64 (b237.1 * (w64 (10000 - b1.Shrink.Hi)))) 10000)) r_268)).toArray) rfl Try.underlying36 Try.zeroValue36 (plApiSpan _ Try.underlying36) rfl rfl (by kernel_rfl) ?_
    refine .fieldAddr rfl Try.underlying56 rfl Try.sizeOf36 rfl ?_
    refine .letv (fun x269 e270 => ?_)
    refine .store (cs' := (cApiBottling x269)) Try.sizeOf36 rfl rfl rfl rfl (i := 1) rfl (Nat.le_of_ble_eq_true rfl) rfl (by rw [e270]; kernel_rfl) ?_
    refine .nil ?_
    refine .keep (.cons (k := 2) rfl (.cons (k := 3) rfl (.cons (k := 4) rfl (.cons (k := 5) rfl (.cons (k := 6) rfl (.cons (k := 7) rfl (.cons (k := 14) rfl (.cons (k := 15) rfl (.nil _))))))))) ?_
    refine .code ?_
    refine .seq ?_
    refine .keep (.cons (k := 2) rfl (.cons (k := 3) rfl (.cons (k := 4) rfl (.cons (k := 5) rfl (.cons (k := 6) rfl (.cons (k := 7) rfl (.cons (k := 14) rfl (.cons (k := 15) rfl (.nil _))))))))) ?_
    refine .bind (fun q271 hx273 => ?_)
    refine .bind (fun r_276 hx277 => ?_)
    refine .draw ⟨1000000, 0, [], 0⟩ [(149, (.int .i64 b237.2.1)), (150, (.int .i64 (w64 (b237.2.1 * 10000)))), (151, (.int .i64 b237.1)), (152, (.int .i64 great264)), (153, (.int .i64 (w64 (b237.1 * great264)))), (154, (.int .i64 q271)), (155, (.int .i64 (imin 10000 q271))), (156, (.int .i64 b237.2.2.1)), (157, (.int .i64 (w64 (b237.2.2.1 * 10000)))), (158, (.int .i64 b237.1)), (159, (.int .i64 (w64 (10000 - b1.Shrink.Hi)))), (160, (.int .i64 (w64 (b237.1 * (w64 (10000 - b1.Shrink.Hi)))))), (161, (.int .i64 r_276)), (162, (.int .i64 (imin 10000 r_276))), (163, (eApiSpan (ApiSpan.mk (imin 10000 q271) (imin 10000 r_276))))] mixedOK (by kernel_rfl) (by kernel_rfl) rfl (by kernel_rfl) ?_ (fun F_278 b279 l_280 => ?_)
    · skip
      refine .cons (.mk 149 (.int .i64 b237.2.1) [(5, (.int .i64 b237.2.1))] rfl rfl rfl rfl (fun S hS hd => (.cons (hS _ _ rfl) (Sub.nil _))) (fun F_281 X l_282 => ?_)) ?_
      · skip
        refine .move rfl rfl ?_
        exact .fin1 (Fz.le_refl _)
      refine .cons (.mk 150 (.int .i64 (w64 (b237.2.1 * 10000))) [(149, (.int .i64 b237.2.1))] rfl rfl rfl rfl (fun S hS hd => (.cons (hd.1 rfl rfl _ _ rfl) (Sub.nil _))) (fun F_283 X l_284 => ?_)) ?_
      · skip
        refine .mul rfl rfl rfl ?_
        exact .fin1 (Fz.le_refl _)
      refine .cons (.mk 151 (.int .i64 b237.1) [(4, (.int .i64 b237.1))] rfl rfl rfl rfl (fun S hS hd => (.cons (hS _ _ rfl) (Sub.nil _))) (fun F_285 X l_286 => ?_)) ?_
      · skip
        refine .move rfl rfl ?_
        exact .fin1 (Fz.le_refl _)
      refine .cons (.mk 152 (.int .i64 great264) [(15, (.int .i64 great264))] rfl rfl rfl rfl (fun S hS hd => (.cons (hS _ _ rfl) (Sub.nil _))) (fun F_287 X l_288 => ?_)) ?_
      · skip
        refine .move rfl rfl ?_
        exact .fin1 (Fz.le_refl _)
      refine .cons (.mk 153 (.int .i64 (w64 (b237.1 * great264))) [(151, (.int .i64 b237.1)), (152, (.int .i64 great264))] rfl rfl rfl rfl (fun S hS hd => (.cons (hd.1 rfl rfl _ _ rfl) (.cons (hd.2.1 rfl rfl _ _ rfl) (Sub.nil _)))) (fun F_289 X l_290 => ?_)) ?_
      · skip
        refine .mul rfl rfl rfl ?_
        exact .fin1 (Fz.le_refl _)
      refine .cons (.mk 154 (.int .i64 q271) [(150, (.int .i64 (w64 (b237.2.1 * 10000)))), (153, (.int .i64 (w64 (b237.1 * great264))))] rfl rfl rfl rfl (fun S hS hd => (.cons (hd.1 rfl rfl _ _ rfl) (.cons (hd.2.1 rfl rfl _ _ rfl) (Sub.nil _)))) (fun F_291 X l_292 => ?_)) ?_
      · skip
        refine .quoK hx273 rfl rfl rfl ?_
        exact .fin1 (Fz.le_refl _)
      refine .cons (.mk 155 (.int .i64 (imin 10000 q271)) [(154, (.int .i64 q271))] rfl rfl rfl rfl (fun S hS hd => (.cons (hd.1 rfl rfl _ _ rfl) (Sub.nil _))) (fun F_293 X l_294 => ?_)) ?_
      · skip
        refine .min2 rfl rfl rfl ?_
        exact .fin1 (Fz.le_refl _)
      refine .cons (.mk 156 (.int .i64 b237.2.2.1) [(6, (.int .i64 b237.2.2.1))] rfl rfl rfl rfl (fun S hS hd => (.cons (hS _ _ rfl) (Sub.nil _))) (fun F_295 X l_296 => ?_)) ?_
      · skip
        refine .move rfl rfl ?_
        exact .fin1 (Fz.le_refl _)
      refine .cons (.mk 157 (.int .i64 (w64 (b237.2.2.1 * 10000))) [(156, (.int .i64 b237.2.2.1))] rfl rfl rfl rfl (fun S hS hd => (.cons (hd.1 rfl rfl _ _ rfl) (Sub.nil _))) (fun F_297 X l_298 => ?_)) ?_
      · skip
        refine .mul rfl rfl rfl ?_
        exact .fin1 (Fz.le_refl _)
      refine .cons (.mk 158 (.int .i64 b237.1) [(4, (.int .i64 b237.1))] rfl rfl rfl rfl (fun S hS hd => (.cons (hS _ _ rfl) (Sub.nil _))) (fun F_299 X l_300 => ?_)) ?_
      · skip
        refine .move rfl rfl ?_
        exact .fin1 (Fz.le_refl _)
      refine .cons (.mk 159 (.int .i64 (w64 (10000 - b1.Shrink.Hi))) [(14, (.int .i64 (w64 (10000 - b1.Shrink.Hi))))] rfl rfl rfl rfl (fun S hS hd => (.cons (hS _ _ rfl) (Sub.nil _))) (fun F_301 X l_302 => ?_)) ?_
      · skip
        refine .move rfl rfl ?_
        exact .fin1 (Fz.le_refl _)
      refine .cons (.mk 160 (.int .i64 (w64 (b237.1 * (w64 (10000 - b1.Shrink.Hi))))) [(158, (.int .i64 b237.1)), (159, (.int .i64 (w64 (10000 - b1.Shrink.Hi))))] rfl rfl rfl rfl (fun S hS hd => (.cons (hd.1 rfl rfl _ _ rfl) (.cons (hd.2.1 rfl rfl _ _ rfl) (Sub.nil _)))) (fun F_303 X l_304 => ?_)) ?_
      · skip
        refine .mul rfl rfl rfl ?_
        exact .fin1 (Fz.le_refl _)
      refine .cons (.mk 161 (.int .i64 r_276) [(157, (.int .i64 (w64 (b237.2.2.1 * 10000)))), (160, (.int .i64 (w64 (b237.1 * (w64 (10000 - b1.Shrink.Hi))))))] rfl rfl rfl rfl (fun S hS hd => (.cons (hd.1 rfl rfl _ _ rfl) (.cons (hd.2.1 rfl rfl _ _ rfl) (Sub.nil _)))) (fun F_305 X l_306 => ?_)) ?_
      · skip
        refine .callK hx277 rfl Try.call88 rfl rfl rfl (c_wormtubref12_up _ (w64 (b237.2.2.1 * 10000)) (w64 (b237.1 * (w64 (10000 - b1.Shrink.Hi))))) ?_
        rintro F_307 _ l_308 rfl
        exact .fin1 l_308
      refine .cons (.mk 162 (.int .i64 (imin 10000 r_276)) [(161, (.int .i64 r_276))] rfl rfl rfl rfl (fun S hS hd => (.cons (hd.1 rfl rfl _ _ rfl) (Sub.nil _))) (fun F_309 X l_310 => ?_)) ?_
      · skip
        refine .min2 rfl rfl rfl ?_
        exact .fin1 (Fz.le_refl _)
      refine .cons (.mk 163 (eApiSpan (ApiSpan.mk (imin 10000 q271) (imin 10000 r_276))) [(155, (.int .i64 (imin 10000 q271))), (162, (.int .i64 (imin 10000 r_276)))] rfl rfl rfl rfl (fun S hS hd => (.cons (hd.1 rfl rfl _ _ rfl) (.cons (hd.2.1 rfl rfl _ _ rfl) (Sub.nil _)))) (fun F_311 X l_312 => ?_)) ?_
      · skip
        refine .build (cs := (cApiSpan (ApiSpan.mk (imin 10000 q271) (imin 10000 r_276))).toArray) rfl Try.underlying36 Try.zeroValue36 (plApiSpan _ Try.underlying36) rfl rfl (by kernel_rfl) ?_
        exact .fin1 (Fz.le_refl _)
      exact .nil
    refine .fieldAddr rfl Try.underlying56 rfl Try.sizeOf36 rfl ?_
    refine .letv (fun x313 e314 => ?_)
    refine .store (cs' := (cApiBottling x313)) Try.sizeOf36 rfl rfl rfl rfl (i := 1) rfl (Nat.le_of_ble_eq_true rfl) rfl (by rw [e314]; kernel_rfl) ?_
    refine .nil ?_
    refine .code ?_
    refine .seq ?_
    refine .region ?_
    refine .move rfl rfl ?_
    refine .lenS rfl rfl Try.underlying40 rfl ?_
    refine .fieldAddr rfl Try.underlying56 rfl Try.sizeOf3 rfl ?_
    refine .letv (fun x315 e316 => ?_)
    refine .store (cs' := (cApiBottling x315)) Try.sizeOf3 rfl rfl rfl rfl (i := 1) rfl (Nat.le_of_ble_eq_true rfl) rfl (by rw [e316]; kernel_rfl) ?_
    refine .nil ?_
    refine .keep (.cons (k := 2) rfl (.cons (k := 3) rfl (.nil _))) ?_
    refine .code ?_
    refine .seq ?_
    refine .region ?_
    refine .loadOA rfl Try.isAgg56 Try.sizeOf56 rfl (i := 1) rfl (vs := (cApiBottling x315)) (by kernel_rfl) rfl ?_
    refine .store (cs' := (cApiBottling x315)) Try.sizeOf56 rfl rfl rfl rfl (i := 2) rfl (Nat.le_of_ble_eq_true rfl) rfl (setMany_all (by rfl)) ?_
    refine .nil ?_
    refine .code ?_
    exact .ret0 Try.results58 (.agg rfl Try.isAgg56 Try.sizeOf56 (i := 2) rfl (vs' := (cApiBottling x315)) (by kernel_rfl) rfl (.nil)) (i := 3) rfl (Fz.le_trans l_7 (Fz.le_trans l_239 (Fz.le_trans l_245 (Fz.le_trans l_267 l_280)))) rfl

noncomputable def m_wormtubref12_Blend (b1 : ApiBatch) : Option (ApiBottling × Int) :=
  (m_wormtubref12_Batch b1).bind fun r_12 => if (!r_12) then (some ((ApiBottling.mk (ApiSpan.mk 0 0) (ApiSpan.mk 0 0) 0 (fun _ => 0) (fun _ => 0) 0), 1)) else ((m_wormtubref12_blend b1).bind fun r_16 => some (r_16, 0))
theorem c_wormtubref12_Blend (F0 : Fz) (b1 : ApiBatch) (p2 : Option Addr) (k3 : Nat) (h4 : RepSl 27 (Ex cApiDraught) F0 p2 k3 b1.Draughts) : CT0 Try.prog 24 [(eApiBatch b1 p2 k3)].toArray F0 (m_wormtubref12_Blend b1) (fun r _ v => v = .tuple #[(eApiBottling r.1), (.int .i64 r.2)]) := by
  refine CT0.enter Try.func24 rfl Try.ntmps24 rfl fun r R => ?_
  unfold m_wormtubref12_Blend
  refine .seq ?_
  refine .region ?_
  refine .boxF (cs := (cApiBatch b1 p2 k3)) rfl rfl rfl (fun b5 F_6 l_7 hb8 => ?_)
  refine .alloc (cs := (cApiBottling (ApiBottling.mk (ApiSpan.mk 0 0) (ApiSpan.mk 0 0) 0 (fun _ => 0) (fun _ => 0) 0))) rfl Try.zeroValue56 rfl (fun b9 => ?_)
  refine .assign rfl rfl ?_
  refine .nil ?_
  refine .code ?_
  refine .seq ?_
  refine .seq ?_
  refine .region ?_
  refine .loadFA rfl Try.isAgg38 Try.sizeOf38 rfl hb8 (vs := (cApiBatch b1 p2 k3)) (by kernel_rfl) rfl ?_
  refine .call0 rfl Try.call18 rfl rfl rfl (c_wormtubref12_Batch _ b1 p2 k3 (h4.mono l_7)) ?_
  rintro r_12 F_10 _ - l_11 rfl
  refine .not rfl rfl ?_
  refine .nil ?_
  refine .code ?_
  refine .cond rfl (fun hb13 => ?_) (fun hb13 => ?_)
  · skip
    refine .seq ?_
    refine .region ?_
    refine .build (cs := (cApiBottling (ApiBottling.mk (ApiSpan.mk 0 0) (ApiSpan.mk 0 0) 0 (fun _ => 0) (fun _ => 0) 0)).toArray) rfl Try.underlying56 Try.zeroValue56 (plApiBottling _ Try.underlying56) rfl rfl (by kernel_rfl) ?_
    refine .store (cs' := (cApiBottling (ApiBottling.mk (ApiSpan.mk 0 0) (ApiSpan.mk 0 0) 0 (fun _ => 0) (fun _ => 0) 0))) Try.sizeOf56 rfl rfl rfl rfl (i := 0) rfl (Nat.le_of_ble_eq_true rfl) rfl (setMany_all (by rfl)) ?_
    refine .assign rfl rfl ?_
    refine .nil ?_
    refine .code ?_
    exact .ret0 Try.results24 (.agg rfl Try.isAgg56 Try.sizeOf56 (i := 0) rfl (vs' := (cApiBottling (ApiBottling.mk (ApiSpan.mk 0 0) (ApiSpan.mk 0 0) 0 (fun _ => 0) (fun _ => 0) 0))) (by kernel_rfl) rfl (.tmp rfl (.nil))) (i := 1) rfl (Fz.le_trans l_7 l_11) rfl
  · skip
    refine .skip ?_
    refine .code ?_
    refine .seq ?_
    refine .region ?_
    refine .loadFA rfl Try.isAgg38 Try.sizeOf38 rfl (l_11.mem _ _ hb8) (vs := (cApiBatch b1 p2 k3)) (by kernel_rfl) rfl ?_
    refine .call0 rfl Try.call58 rfl rfl rfl (c_wormtubref12_blend _ b1 p2 k3 (h4.mono (Fz.le_trans l_7 l_11))) ?_
    rintro r_16 F_14 _ - l_15 rfl
    refine .store (cs' := (cApiBottling r_16)) Try.sizeOf56 rfl rfl rfl rfl (i := 0) rfl (Nat.le_of_ble_eq_true rfl) rfl (setMany_all (by rfl)) ?_
    refine .assign rfl rfl ?_
    refine .nil ?_
    refine .code ?_
    exact .ret0 Try.results24 (.agg rfl Try.isAgg56 Try.sizeOf56 (i := 0) rfl (vs' := (cApiBottling r_16)) (by kernel_rfl) rfl (.tmp rfl (.nil))) (i := 1) rfl (Fz.le_trans l_7 (Fz.le_trans l_11 l_15)) rfl

def m_wormtubref12_with (b1 : ApiBatch) (w5 : Int) : ApiBatch :=
  ({ b1 with Water := w5 })
theorem c_wormtubref12_with (F0 : Fz) (b1 : ApiBatch) (p2 : Option Addr) (k3 : Nat) (h4 : RepSl 27 (Ex cApiDraught) F0 p2 k3 b1.Draughts) (w5 : Int) : CT0 Try.prog 59 [(eApiBatch b1 p2 k3), (.int .i64 w5)].toArray F0 (some (m_wormtubref12_with b1 w5)) (fun r F v => ∃ p0 k0, v = (eApiBatch r p0 k0) ∧ RepSl 27 (Ex cApiDraught) F p0 k0 r.Draughts) := by
  refine CT0.enter Try.func59 rfl Try.ntmps59 rfl fun r R => ?_
  refine .seq ?_
  refine .region ?_
  refine .box (cs := (cApiBatch b1 p2 k3)) rfl rfl rfl (fun b6 => ?_)
  refine .alloc (cs := (cApiBatch (ApiBatch.mk ([]) 0 (ApiSpan.mk 0 0) false false) none 0)) rfl Try.zeroValue38 rfl (fun b7 => ?_)
  refine .nil ?_
  refine .code ?_
  refine .seq ?_
  refine .region ?_
  refine .move rfl rfl ?_
  refine .fieldAddr rfl Try.underlying38 rfl Try.sizeOf3 rfl ?_
  refine .store (cs' := (cApiBatch ({ b1 with Water := w5 }) p2 k3)) Try.sizeOf3 rfl rfl rfl rfl (i := 1) rfl (Nat.le_of_ble_eq_true rfl) rfl (by kernel_rfl) ?_
  refine .nil ?_
  refine .code ?_
  refine .seq ?_
  refine .region ?_
  refine .loadOA rfl Try.isAgg38 Try.sizeOf38 rfl (i := 1) rfl (vs := (cApiBatch ({ b1 with Water := w5 }) p2 k3)) (by kernel_rfl) rfl ?_
  refine .store (cs' := (cApiBatch ({ b1 with Water := w5 }) p2 k3)) Try.sizeOf38 rfl rfl rfl rfl (i := 0) rfl (Nat.le_of_ble_eq_true rfl) rfl (setMany_all (by rfl)) ?_
  refine .nil ?_
  refine .code ?_
  exact .ret0 Try.results59 (.agg rfl Try.isAgg38 Try.sizeOf38 (i := 0) rfl (vs' := (cApiBatch ({ b1 with Water := w5 }) p2 k3)) (by kernel_rfl) rfl (.nil)) (i := 2) rfl (Fz.le_refl _) ⟨p2, k3, rfl, h4⟩

noncomputable def b_wormtubref12_Water_1 (b1 : ApiBatch) (most6 : Int) (s25 : Int × Int) : Option (Ctl (Int × Int) ((Int))) :=
  if (decide (s25.1 < s25.2)) then ((bindv (w64 (Int.tdiv (w64 (s25.1 + s25.2)) 2)) fun mid29 => (m_wormtubref12_blend (m_wormtubref12_with b1 mid29)).bind fun r_38 => (if (decide (r_38.Strength.Hi ≤ most6)) then (some (s25.1, mid29)) else (bindv (w64 (mid29 + 1)) fun low40 => some (low40, s25.2)) : Option (Int × Int)).bind fun j42 => some (j42.1, j42.2) : Option (Int × Int)).bind fun j45 => some (.next (j45.1, j45.2))) else (some (.done s25.1))
noncomputable def b_wormtubref12_Water_2 (b1 : ApiBatch) (least5 : Int) (s53 : Int × Int) : Option (Ctl (Int × Int) ((Int))) :=
  if (decide (s53.1 < s53.2)) then ((bindv (w64 (Int.tdiv (w64 ((w64 (s53.1 + s53.2)) + 1)) 2)) fun mid57 => (m_wormtubref12_blend (m_wormtubref12_with b1 mid57)).bind fun r_66 => (if (decide (r_66.Strength.Lo ≥ least5)) then (some (mid57, s53.2)) else (bindv (w64 (mid57 - 1)) fun high68 => some (s53.1, high68)) : Option (Int × Int)).bind fun j70 => some (j70.1, j70.2) : Option (Int × Int)).bind fun j73 => some (.next (j73.1, j73.2))) else (some (.done s53.1))
noncomputable def m_wormtubref12_Water (b1 : ApiBatch) (least5 : Int) (most6 : Int) : Option (ApiSpan × Int) :=
  (m_wormtubref12_Batch b1).bind fun r_14 => if (!r_14) then (some ((ApiSpan.mk 0 0), 1)) else (if ((!(m_wormtubref12_in least5 0 10000)) || (!(m_wormtubref12_in most6 0 10000))) then (some ((ApiSpan.mk 0 0), 2)) else ((loopM (b_wormtubref12_Water_1 b1 most6) (0, 17179869185)).bind fun b48 => bindv (-1) fun low51 => (loopM (b_wormtubref12_Water_2 b1 least5) (low51, 17179869184)).bind fun b76 => if (decide (b48 > b76)) then (some ((ApiSpan.mk 0 0), 4)) else (some ((ApiSpan.mk b48 b76), 0))))
theorem c_wormtubref12_Water (F0 : Fz) (b1 : ApiBatch) (p2 : Option Addr) (k3 : Nat) (h4 : RepSl 27 (Ex cApiDraught) F0 p2 k3 b1.Draughts) (least5 : Int) (most6 : Int) : CT0 Try.prog 25 [(eApiBatch b1 p2 k3), (.int .i64 least5), (.int .i64 most6)].toArray F0 (m_wormtubref12_Water b1 least5 most6) (fun r _ v => v = .tuple #[(eApiSpan r.1), (.int .i64 r.2)]) := by
  refine CT0.enter Try.func25 rfl Try.ntmps25 rfl fun r R => ?_
  unfold m_wormtubref12_Water
  refine .seq ?_
  refine .region ?_
  refine .boxF (cs := (cApiBatch b1 p2 k3)) rfl rfl rfl (fun b7 F_8 l_9 hb10 => ?_)
  refine .alloc (cs := (cApiSpan (ApiSpan.mk 0 0))) rfl Try.zeroValue36 rfl (fun b11 => ?_)
  refine .assign rfl rfl ?_
  refine .nil ?_
  refine .code ?_
  refine .seq ?_
  refine .seq ?_
  refine .region ?_
  refine .loadFA rfl Try.isAgg38 Try.sizeOf38 rfl hb10 (vs := (cApiBatch b1 p2 k3)) (by kernel_rfl) rfl ?_
  refine .call0 rfl Try.call18 rfl rfl rfl (c_wormtubref12_Batch _ b1 p2 k3 (h4.mono l_9)) ?_
  rintro r_14 F_12 _ - l_13 rfl
  refine .not rfl rfl ?_
  refine .nil ?_
  refine .code ?_
  refine .cond rfl (fun hb15 => ?_) (fun hb15 => ?_)
  · skip
    refine .seq ?_
    refine .region ?_
    refine .build (cs := (cApiSpan (ApiSpan.mk 0 0)).toArray) rfl Try.underlying36 Try.zeroValue36 (plApiSpan _ Try.underlying36) rfl rfl (by kernel_rfl) ?_
    refine .store (cs' := (cApiSpan (ApiSpan.mk 0 0))) Try.sizeOf36 rfl rfl rfl rfl (i := 0) rfl (Nat.le_of_ble_eq_true rfl) rfl (setMany_all (by rfl)) ?_
    refine .assign rfl rfl ?_
    refine .nil ?_
    refine .code ?_
    exact .ret0 Try.results25 (.agg rfl Try.isAgg36 Try.sizeOf36 (i := 0) rfl (vs' := (cApiSpan (ApiSpan.mk 0 0))) (by kernel_rfl) rfl (.tmp rfl (.nil))) (i := 1) rfl (Fz.le_trans l_9 l_13) rfl
  · skip
    refine .skip ?_
    refine .code ?_
    refine .seq ?_
    refine .seq ?_
    refine .region ?_
    refine .move rfl rfl ?_
    refine .callP rfl Try.call48 rfl rfl rfl (c_wormtubref12_in _ least5 0 10000) ?_
    rintro F_16 _ l_17 rfl
    refine .not rfl rfl ?_
    refine .move rfl rfl ?_
    refine .orP (b := (!(m_wormtubref12_in least5 0 10000))) (b' := (!(m_wormtubref12_in most6 0 10000))) 4 24 (fun hb18 => ?_) (fun hb21 => ?_) (fun F_22 l_23 => ?_)
    · skip
      refine .onH hb18 rfl rfl ?_
      refine .move rfl rfl ?_
      refine .onH hb18 rfl rfl ?_
      refine .callP rfl Try.call48 rfl rfl rfl (c_wormtubref12_in _ most6 0 10000) ?_
      rintro F_19 _ l_20 rfl
      refine .onH hb18 rfl rfl ?_
      refine .not rfl rfl ?_
      refine .pickFH hb18 rfl rfl rfl ?_
      exact .fin 4 rfl rfl (by kernel_rfl) l_20
    · skip
      refine .offH hb21 rfl rfl rfl ?_
      refine .offH hb21 rfl rfl rfl ?_
      refine .offH hb21 rfl rfl rfl ?_
      refine .pickTH hb21 rfl rfl rfl ?_
      exact .fin 4 rfl rfl (by kernel_rfl) (Fz.le_refl _)
    refine .nil ?_
    refine .code ?_
    refine .cond rfl (fun hb24 => ?_) (fun hb24 => ?_)
    · skip
      refine .seq ?_
      refine .region ?_
      refine .build (cs := (cApiSpan (ApiSpan.mk 0 0)).toArray) rfl Try.underlying36 Try.zeroValue36 (plApiSpan _ Try.underlying36) rfl rfl (by kernel_rfl) ?_
      refine .store (cs' := (cApiSpan (ApiSpan.mk 0 0))) Try.sizeOf36 rfl rfl rfl rfl (i := 0) rfl (Nat.le_of_ble_eq_true rfl) rfl (setMany_all (by rfl)) ?_
      refine .assign rfl rfl ?_
      refine .nil ?_
      refine .code ?_
      exact .ret0 Try.results25 (.agg rfl Try.isAgg36 Try.sizeOf36 (i := 0) rfl (vs' := (cApiSpan (ApiSpan.mk 0 0))) (by kernel_rfl) rfl (.tmp rfl (.nil))) (i := 1) rfl (Fz.le_trans l_9 (Fz.le_trans l_13 (Fz.le_trans l_17 l_23))) rfl
    · skip
      refine .skip ?_
      refine .code ?_
      refine .seq ?_
      refine .region ?_
      refine .assign rfl rfl ?_
      refine .assign rfl rfl ?_
      refine .nil ?_
      refine .code ?_
      refine .seq ?_
      refine .block ?_
      refine .keep (.cons (k := 1) rfl (.cons (k := 2) rfl (.cons (k := 3) rfl (.cons (k := 6) rfl (.cons (k := 8) rfl (.cons (k := 9) rfl (.nil _))))))) ?_
      refine .loop (fun (s25 : Int × Int) a w => ∃ (F_26 : Fz), F_22 ≤ F_26 ∧ Hd 71 [] [(1, (.int .i64 least5)), (2, (.int .i64 most6)), (3, (.pointer (some ⟨b7, 0, none⟩))), (6, (.pointer (some ⟨b11, 0, none⟩))), (8, (.int .i64 s25.1)), (9, (.int .i64 s25.2))] F_26 [pt b11 (.cells (cApiSpan (ApiSpan.mk 0 0)).toArray 36), R] a w) (fun b48 e a w => e = .exit 0 ∧ ∃ (F_49 : Fz), F_22 ≤ F_49 ∧ Hd 71 [] [(1, (.int .i64 least5)), (3, (.pointer (some ⟨b7, 0, none⟩))), (6, (.pointer (some ⟨b11, 0, none⟩))), (8, (.int .i64 b48))] F_49 [pt b11 (.cells (cApiSpan (ApiSpan.mk 0 0)).toArray 36), R] a w) ?_ ?_ ?_
      · exact fun a w h => ⟨F_22, (Fz.le_refl _), h.1.sub (.cons (k := 1) rfl (.cons (k := 2) rfl (.cons (k := 3) rfl (.cons (k := 6) rfl (.cons (k := 8) rfl (.cons (k := 9) rfl (.nil _))))))), h.2⟩
      · intro s25 ctl
        refine GC.ex (fun a w ⟨F_26, l_27, hA⟩ => ⟨_, hA, ?_⟩)
        unfold b_wormtubref12_Water_1
        refine .seq ?_
        refine .seq ?_
        refine .region ?_
        refine .move rfl rfl ?_
        refine .move rfl rfl ?_
        refine .lss rfl rfl rfl ?_
        refine .nil ?_
        refine .code ?_
        refine .cond rfl (fun hb28 => ?_) (fun hb28 => ?_)
        · skip
          refine .skip ?_
          refine .code ?_
          refine .keep (.cons (k := 1) rfl (.cons (k := 2) rfl (.cons (k := 3) rfl (.cons (k := 6) rfl (.cons (k := 8) rfl (.cons (k := 9) rfl (.nil _))))))) ?_
          refine GC.join0 (σ := Int × Int) (fun j45 a w => ∃ (F_46 : Fz), F_26 ≤ F_46 ∧ Hd 71 [] [(1, (.int .i64 least5)), (2, (.int .i64 most6)), (3, (.pointer (some ⟨b7, 0, none⟩))), (6, (.pointer (some ⟨b11, 0, none⟩))), (8, (.int .i64 j45.1)), (9, (.int .i64 j45.2))] F_46 [pt b11 (.cells (cApiSpan (ApiSpan.mk 0 0)).toArray 36), R] a w) (fun sj => ?_) (fun j45 hs0 => GE.ex (fun a w ⟨F_46, l_47, hA⟩ => ⟨_, hA, ?_⟩))
          · skip
            refine .block ?_
            refine .seq ?_
            refine .region ?_
            refine .move rfl rfl ?_
            refine .move rfl rfl ?_
            refine .add rfl rfl rfl ?_
            refine .quoC rfl (by decide) rfl rfl ?_
            refine .assignL rfl rfl (fun mid29 e30 => ?_)
            refine .nil ?_
            refine .code ?_
            refine .seq ?_
            refine .region ?_
            refine .loadFA rfl Try.isAgg38 Try.sizeOf38 rfl ((Fz.le_trans l_13 (Fz.le_trans l_17 (Fz.le_trans l_23 l_27))).mem _ _ hb10) (vs := (cApiBatch b1 p2 k3)) (by kernel_rfl) rfl ?_
            refine .move rfl rfl ?_
            refine .callP rfl Try.call59 rfl rfl rfl (c_wormtubref12_with _ b1 p2 k3 (h4.mono (Fz.le_trans l_9 (Fz.le_trans l_13 (Fz.le_trans l_17 (Fz.le_trans l_23 l_27))))) mid29) ?_
            rintro F_31 _ l_32 ⟨p33, k34, rfl, h35⟩
            refine .call0 rfl Try.call58 rfl rfl rfl (c_wormtubref12_blend _ (m_wormtubref12_with b1 mid29) p33 k34 h35) ?_
            rintro r_38 F_36 _ - l_37 rfl
            refine .fieldA rfl Try.underlying56 rfl Try.isAgg36 Try.sizeOf36 rfl (vs := (cApiSpan r_38.Strength).toArray) (by kernel_rfl) ?_
            refine .field rfl Try.underlying36 rfl Try.isAgg3 rfl rfl ?_
            refine .move rfl rfl ?_
            refine .leq rfl rfl rfl ?_
            refine .nil ?_
            refine .code ?_
            refine .keep (.cons (k := 1) rfl (.cons (k := 2) rfl (.cons (k := 3) rfl (.cons (k := 6) rfl (.cons (k := 8) rfl (.cons (k := 9) rfl (.cons (k := 10) rfl (.cons (k := 40) rfl (.nil _))))))))) ?_
            refine GC.join0 (σ := Int × Int) (fun j42 a w => ∃ (F_43 : Fz), F_36 ≤ F_43 ∧ Hd 71 [] [(1, (.int .i64 least5)), (2, (.int .i64 most6)), (3, (.pointer (some ⟨b7, 0, none⟩))), (6, (.pointer (some ⟨b11, 0, none⟩))), (8, (.int .i64 j42.1)), (9, (.int .i64 j42.2))] F_43 [pt b11 (.cells (cApiSpan (ApiSpan.mk 0 0)).toArray 36), R] a w) (fun sj => ?_) (fun j42 hs0 => GE.ex (fun a w ⟨F_43, l_44, hA⟩ => ⟨_, hA, ?_⟩))
            · skip
              refine .cond rfl (fun hb39 => ?_) (fun hb39 => ?_)
              · skip
                refine .region ?_
                refine .move rfl rfl ?_
                refine .assign rfl rfl ?_
                refine .nil ?_
                exact .nil fun e a w h => by cases e; exact ⟨rfl, ⟨F_36, (Fz.le_refl _), h.1.sub (.cons (k := 1) rfl (.cons (k := 2) rfl (.cons (k := 3) rfl (.cons (k := 6) rfl (.cons (k := 8) rfl (.cons (k := 9) rfl (.nil _))))))), h.2⟩⟩
              · skip
                refine .region ?_
                refine .move rfl rfl ?_
                refine .add rfl rfl rfl ?_
                refine .assignL rfl rfl (fun low40 e41 => ?_)
                refine .nil ?_
                exact .nil fun e a w h => by cases e; exact ⟨rfl, ⟨F_36, (Fz.le_refl _), h.1.sub (.cons (k := 1) rfl (.cons (k := 2) rfl (.cons (k := 3) rfl (.cons (k := 6) rfl (.cons (k := 8) rfl (.cons (k := 9) rfl (.nil _))))))), h.2⟩⟩
            refine .block ?_
            exact .nil fun e a w h => by cases e; exact ⟨rfl, ⟨F_43, (Fz.le_trans l_32 (Fz.le_trans l_37 l_44)), h.1.sub (.cons (k := 1) rfl (.cons (k := 2) rfl (.cons (k := 3) rfl (.cons (k := 6) rfl (.cons (k := 8) rfl (.cons (k := 9) rfl (.nil _))))))), h.2⟩⟩
          exact .nil (LPost.norm fun a w h => ⟨F_46, (Fz.le_trans l_27 l_47), h.1.sub (.cons (k := 1) rfl (.cons (k := 2) rfl (.cons (k := 3) rfl (.cons (k := 6) rfl (.cons (k := 8) rfl (.cons (k := 9) rfl (.nil _))))))), h.2⟩)
        · skip
          refine .exitOut rfl (LPost.exit fun a w h => ⟨rfl, F_26, l_27, h.1.sub (.cons (k := 1) rfl (.cons (k := 3) rfl (.cons (k := 6) rfl (.cons (k := 8) rfl (.nil _))))), h.2⟩)
      · intro b48 hb0 hk e a w hD
        obtain ⟨rfl, F_49, l_50, hA⟩ := hD
        refine interp_exit rfl (GE.app ?_ hk a w hA)
        refine .code ?_
        refine .seq ?_
        refine .region ?_
        refine .move rfl rfl ?_
        refine .assign rfl rfl ?_
        refine .nil ?_
        refine .code ?_
        refine .seq ?_
        refine .region ?_
        refine .assignL rfl rfl (fun low51 e52 => ?_)
        refine .assign rfl rfl ?_
        refine .nil ?_
        refine .code ?_
        refine .seq ?_
        refine .block ?_
        refine .keep (.cons (k := 1) rfl (.cons (k := 3) rfl (.cons (k := 6) rfl (.cons (k := 8) rfl (.cons (k := 9) rfl (.cons (k := 11) rfl (.nil _))))))) ?_
        refine .loop (fun (s53 : Int × Int) a w => ∃ (F_54 : Fz), F_49 ≤ F_54 ∧ Hd 71 [] [(1, (.int .i64 least5)), (3, (.pointer (some ⟨b7, 0, none⟩))), (6, (.pointer (some ⟨b11, 0, none⟩))), (8, (.int .i64 s53.1)), (9, (.int .i64 s53.2)), (11, (.int .i64 b48))] F_54 [pt b11 (.cells (cApiSpan (ApiSpan.mk 0 0)).toArray 36), R] a w) (fun b76 e a w => e = .exit 2 ∧ ∃ (F_77 : Fz), F_49 ≤ F_77 ∧ Hd 71 [] [(6, (.pointer (some ⟨b11, 0, none⟩))), (8, (.int .i64 b76)), (11, (.int .i64 b48))] F_77 [pt b11 (.cells (cApiSpan (ApiSpan.mk 0 0)).toArray 36), R] a w) ?_ ?_ ?_
        · exact fun a w h => ⟨F_49, (Fz.le_refl _), h.1.sub (.cons (k := 1) rfl (.cons (k := 3) rfl (.cons (k := 6) rfl (.cons (k := 8) rfl (.cons (k := 9) rfl (.cons (k := 11) rfl (.nil _))))))), h.2⟩
        · intro s53 ctl
          refine GC.ex (fun a w ⟨F_54, l_55, hA⟩ => ⟨_, hA, ?_⟩)
          unfold b_wormtubref12_Water_2
          refine .seq ?_
          refine .seq ?_
          refine .region ?_
          refine .move rfl rfl ?_
          refine .move rfl rfl ?_
          refine .lss rfl rfl rfl ?_
          refine .nil ?_
          refine .code ?_
          refine .cond rfl (fun hb56 => ?_) (fun hb56 => ?_)
          · skip
            refine .skip ?_
            refine .code ?_
            refine .keep (.cons (k := 1) rfl (.cons (k := 3) rfl (.cons (k := 6) rfl (.cons (k := 8) rfl (.cons (k := 9) rfl (.cons (k := 11) rfl (.nil _))))))) ?_
            refine GC.join0 (σ := Int × Int) (fun j73 a w => ∃ (F_74 : Fz), F_54 ≤ F_74 ∧ Hd 71 [] [(1, (.int .i64 least5)), (3, (.pointer (some ⟨b7, 0, none⟩))), (6, (.pointer (some ⟨b11, 0, none⟩))), (8, (.int .i64 j73.1)), (9, (.int .i64 j73.2)), (11, (.int .i64 b48))] F_74 [pt b11 (.cells (cApiSpan (ApiSpan.mk 0 0)).toArray 36), R] a w) (fun sj => ?_) (fun j73 hs0 => GE.ex (fun a w ⟨F_74, l_75, hA⟩ => ⟨_, hA, ?_⟩))
            · skip
              refine .block ?_
              refine .seq ?_
              refine .region ?_
              refine .move rfl rfl ?_
              refine .move rfl rfl ?_
              refine .add rfl rfl rfl ?_
              refine .add rfl rfl rfl ?_
              refine .quoC rfl (by decide) rfl rfl ?_
              refine .assignL rfl rfl (fun mid57 e58 => ?_)
              refine .nil ?_
              refine .code ?_
              refine .seq ?_
              refine .region ?_
              refine .loadFA rfl Try.isAgg38 Try.sizeOf38 rfl ((Fz.le_trans l_13 (Fz.le_trans l_17 (Fz.le_trans l_23 (Fz.le_trans l_50 l_55)))).mem _ _ hb10) (vs := (cApiBatch b1 p2 k3)) (by kernel_rfl) rfl ?_
              refine .move rfl rfl ?_
              refine .callP rfl Try.call59 rfl rfl rfl (c_wormtubref12_with _ b1 p2 k3 (h4.mono (Fz.le_trans l_9 (Fz.le_trans l_13 (Fz.le_trans l_17 (Fz.le_trans l_23 (Fz.le_trans l_50 l_55)))))) mid57) ?_
              rintro F_59 _ l_60 ⟨p61, k62, rfl, h63⟩
              refine .call0 rfl Try.call58 rfl rfl rfl (c_wormtubref12_blend _ (m_wormtubref12_with b1 mid57) p61 k62 h63) ?_
              rintro r_66 F_64 _ - l_65 rfl
              refine .fieldA rfl Try.underlying56 rfl Try.isAgg36 Try.sizeOf36 rfl (vs := (cApiSpan r_66.Strength).toArray) (by kernel_rfl) ?_
              refine .field rfl Try.underlying36 rfl Try.isAgg3 rfl rfl ?_
              refine .move rfl rfl ?_
              refine .geq rfl rfl rfl ?_
              refine .nil ?_
              refine .code ?_
              refine .keep (.cons (k := 1) rfl (.cons (k := 3) rfl (.cons (k := 6) rfl (.cons (k := 8) rfl (.cons (k := 9) rfl (.cons (k := 11) rfl (.cons (k := 12) rfl (.cons (k := 60) rfl (.nil _))))))))) ?_
              refine GC.join0 (σ := Int × Int) (fun j70 a w => ∃ (F_71 : Fz), F_64 ≤ F_71 ∧ Hd 71 [] [(1, (.int .i64 least5)), (3, (.pointer (some ⟨b7, 0, none⟩))), (6, (.pointer (some ⟨b11, 0, none⟩))), (8, (.int .i64 j70.1)), (9, (.int .i64 j70.2)), (11, (.int .i64 b48))] F_71 [pt b11 (.cells (cApiSpan (ApiSpan.mk 0 0)).toArray 36), R] a w) (fun sj => ?_) (fun j70 hs0 => GE.ex (fun a w ⟨F_71, l_72, hA⟩ => ⟨_, hA, ?_⟩))
              · skip
                refine .cond rfl (fun hb67 => ?_) (fun hb67 => ?_)
                · skip
                  refine .region ?_
                  refine .move rfl rfl ?_
                  refine .assign rfl rfl ?_
                  refine .nil ?_
                  exact .nil fun e a w h => by cases e; exact ⟨rfl, ⟨F_64, (Fz.le_refl _), h.1.sub (.cons (k := 1) rfl (.cons (k := 3) rfl (.cons (k := 6) rfl (.cons (k := 8) rfl (.cons (k := 9) rfl (.cons (k := 11) rfl (.nil _))))))), h.2⟩⟩
                · skip
                  refine .region ?_
                  refine .move rfl rfl ?_
                  refine .sub rfl rfl rfl ?_
                  refine .assignL rfl rfl (fun high68 e69 => ?_)
                  refine .nil ?_
                  exact .nil fun e a w h => by cases e; exact ⟨rfl, ⟨F_64, (Fz.le_refl _), h.1.sub (.cons (k := 1) rfl (.cons (k := 3) rfl (.cons (k := 6) rfl (.cons (k := 8) rfl (.cons (k := 9) rfl (.cons (k := 11) rfl (.nil _))))))), h.2⟩⟩
              refine .block ?_
              exact .nil fun e a w h => by cases e; exact ⟨rfl, ⟨F_71, (Fz.le_trans l_60 (Fz.le_trans l_65 l_72)), h.1.sub (.cons (k := 1) rfl (.cons (k := 3) rfl (.cons (k := 6) rfl (.cons (k := 8) rfl (.cons (k := 9) rfl (.cons (k := 11) rfl (.nil _))))))), h.2⟩⟩
            exact .nil (LPost.norm fun a w h => ⟨F_74, (Fz.le_trans l_55 l_75), h.1.sub (.cons (k := 1) rfl (.cons (k := 3) rfl (.cons (k := 6) rfl (.cons (k := 8) rfl (.cons (k := 9) rfl (.cons (k := 11) rfl (.nil _))))))), h.2⟩)
          · skip
            refine .exitOut rfl (LPost.exit fun a w h => ⟨rfl, F_54, l_55, h.1.sub (.cons (k := 6) rfl (.cons (k := 8) rfl (.cons (k := 11) rfl (.nil _)))), h.2⟩)
        · intro b76 hb0 hk e a w hD
          obtain ⟨rfl, F_77, l_78, hA⟩ := hD
          refine interp_exit rfl (GE.app ?_ hk a w hA)
          refine .code ?_
          refine .seq ?_
          refine .seq ?_
          refine .region ?_
          refine .move rfl rfl ?_
          refine .move rfl rfl ?_
          refine .gtr rfl rfl rfl ?_
          refine .nil ?_
          refine .code ?_
          refine .cond rfl (fun hb79 => ?_) (fun hb79 => ?_)
          · skip
            refine .seq ?_
            refine .region ?_
            refine .build (cs := (cApiSpan (ApiSpan.mk 0 0)).toArray) rfl Try.underlying36 Try.zeroValue36 (plApiSpan _ Try.underlying36) rfl rfl (by kernel_rfl) ?_
            refine .store (cs' := (cApiSpan (ApiSpan.mk 0 0))) Try.sizeOf36 rfl rfl rfl rfl (i := 0) rfl (Nat.le_of_ble_eq_true rfl) rfl (setMany_all (by rfl)) ?_
            refine .assign rfl rfl ?_
            refine .nil ?_
            refine .code ?_
            exact .ret0 Try.results25 (.agg rfl Try.isAgg36 Try.sizeOf36 (i := 0) rfl (vs' := (cApiSpan (ApiSpan.mk 0 0))) (by kernel_rfl) rfl (.tmp rfl (.nil))) (i := 1) rfl (Fz.le_trans l_9 (Fz.le_trans l_13 (Fz.le_trans l_17 (Fz.le_trans l_23 (Fz.le_trans l_50 l_78))))) rfl
          · skip
            refine .skip ?_
            refine .code ?_
            refine .seq ?_
            refine .region ?_
            refine .move rfl rfl ?_
            refine .move rfl rfl ?_
            refine .build (cs := (cApiSpan (ApiSpan.mk b48 b76)).toArray) rfl Try.underlying36 Try.zeroValue36 (plApiSpan _ Try.underlying36) rfl rfl (by kernel_rfl) ?_
            refine .store (cs' := (cApiSpan (ApiSpan.mk b48 b76))) Try.sizeOf36 rfl rfl rfl rfl (i := 0) rfl (Nat.le_of_ble_eq_true rfl) rfl (setMany_all (by rfl)) ?_
            refine .assign rfl rfl ?_
            refine .nil ?_
            refine .code ?_
            exact .ret0 Try.results25 (.agg rfl Try.isAgg36 Try.sizeOf36 (i := 0) rfl (vs' := (cApiSpan (ApiSpan.mk b48 b76))) (by kernel_rfl) rfl (.tmp rfl (.nil))) (i := 1) rfl (Fz.le_trans l_9 (Fz.le_trans l_13 (Fz.le_trans l_17 (Fz.le_trans l_23 (Fz.le_trans l_50 l_78))))) rfl

noncomputable def m_bottle_Fill (b1 : ApiBatch) (size5 : Int) : Option (Int × Int × Int) :=
  (m_bottle_open b1).bind fun r_12 => if (!r_12.2) then (some (0, 0, 1)) else (if (!(m_bottle_within size5 1 1048576)) then (some (0, 0, 2)) else ((m_bottle_batch_volume r_12.1 r_12.1.Batch.Water).bind fun r_23 => (quoK .i64 r_23.Lo size5).bind fun q25 => (quoK .i64 r_23.Hi size5).bind fun q28 => some (q25, q28, 0)))
theorem c_bottle_Fill (F0 : Fz) (b1 : ApiBatch) (p2 : Option Addr) (k3 : Nat) (h4 : RepSl 27 (Ex cApiDraught) F0 p2 k3 b1.Draughts) (size5 : Int) : CT0 Try.prog 26 [(eApiBatch b1 p2 k3), (.int .i64 size5)].toArray F0 (m_bottle_Fill b1 size5) (fun r _ v => v = .tuple #[(.int .i64 r.1), (.int .i64 r.2.1), (.int .i64 r.2.2)]) := by
  refine CT0.enter Try.func26 rfl Try.ntmps26 rfl fun r R => ?_
  unfold m_bottle_Fill
  refine .seq ?_
  refine .region ?_
  refine .boxF (cs := (cApiBatch b1 p2 k3)) rfl rfl rfl (fun b6 F_7 l_8 hb9 => ?_)
  refine .assign rfl rfl ?_
  refine .assign rfl rfl ?_
  refine .assign rfl rfl ?_
  refine .nil ?_
  refine .code ?_
  refine .seq ?_
  refine .region ?_
  refine .loadFA rfl Try.isAgg38 Try.sizeOf38 rfl hb9 (vs := (cApiBatch b1 p2 k3)) (by kernel_rfl) rfl ?_
  refine .call0 rfl Try.call51 rfl rfl rfl (c_bottle_open _ b1 p2 k3 (h4.mono l_8)) ?_
  rintro r_12 F_10 _ - l_11 ⟨p13, k14, rfl, h15⟩
  refine .move rfl rfl ?_
  refine .extract rfl rfl rfl ?_
  refine .extract rfl rfl rfl ?_
  refine .alloc (cs := (cBottleBatch (BottleBatch.mk (ApiBatch.mk ([]) 0 (ApiSpan.mk 0 0) false false) 0 0 0) none 0)) rfl Try.zeroValue95 rfl (fun b16 => ?_)
  refine .store (cs' := (cBottleBatch r_12.1 p13 k14)) Try.sizeOf95 rfl rfl rfl rfl (i := 0) rfl (Nat.le_of_ble_eq_true rfl) rfl (setMany_all (by rfl)) ?_
  refine .assign rfl rfl ?_
  refine .nil ?_
  refine .code ?_
  refine .seq ?_
  refine .block ?_
  refine .seq ?_
  refine .region ?_
  refine .move rfl rfl ?_
  refine .not rfl rfl ?_
  refine .assign rfl rfl ?_
  refine .nil ?_
  refine .code ?_
  refine .cond rfl (fun hb17 => ?_) (fun hb17 => ?_)
  · skip
    refine .seq ?_
    refine .region ?_
    refine .assign rfl rfl ?_
    refine .assign rfl rfl ?_
    refine .assign rfl rfl ?_
    refine .nil ?_
    refine .code ?_
    exact .ret0 Try.results26 (.tmp rfl (.tmp rfl (.tmp rfl (.nil)))) (i := 1) rfl (Fz.le_trans l_8 l_11) rfl
  · skip
    refine .seq ?_
    refine .region ?_
    refine .move rfl rfl ?_
    refine .callP rfl Try.call44 rfl rfl rfl (c_bottle_within _ size5 1 1048576) ?_
    rintro F_18 _ l_19 rfl
    refine .not rfl rfl ?_
    refine .assign rfl rfl ?_
    refine .nil ?_
    refine .code ?_
    refine .cond rfl (fun hb20 => ?_) (fun hb20 => ?_)
    · skip
      refine .seq ?_
      refine .region ?_
      refine .assign rfl rfl ?_
      refine .assign rfl rfl ?_
      refine .assign rfl rfl ?_
      refine .nil ?_
      refine .code ?_
      exact .ret0 Try.results26 (.tmp rfl (.tmp rfl (.tmp rfl (.nil)))) (i := 1) rfl (Fz.le_trans l_8 (Fz.le_trans l_11 l_19)) rfl
    · skip
      refine .skip ?_
      refine .block ?_
      refine .code ?_
      refine .seq ?_
      refine .region ?_
      refine .loadOA rfl Try.isAgg95 Try.sizeOf95 rfl (i := 0) rfl (vs := (cBottleBatch r_12.1 p13 k14)) (by kernel_rfl) rfl ?_
      refine .fieldAddr rfl Try.underlying95 rfl Try.sizeOf38 rfl ?_
      refine .fieldAddr rfl Try.underlying38 rfl Try.sizeOf3 rfl ?_
      refine .loadO rfl Try.isAgg3 rfl (i := 0) rfl rfl ?_
      refine .call0 rfl Try.call60 rfl rfl rfl (c_bottle_batch_volume _ r_12.1 p13 k14 (h15.mono l_19) r_12.1.Batch.Water) ?_
      rintro r_23 F_21 _ - l_22 rfl
      refine .alloc (cs := (cApiSpan (ApiSpan.mk 0 0))) rfl Try.zeroValue36 rfl (fun b24 => ?_)
      refine .store (cs' := (cApiSpan r_23)) Try.sizeOf36 rfl rfl rfl rfl (i := 0) rfl (Nat.le_of_ble_eq_true rfl) rfl (setMany_all (by rfl)) ?_
      refine .nil ?_
      refine .keep (.cons (k := 1) rfl (.cons (k := 9) rfl (.nil _))) ?_
      refine .code ?_
      refine .seq ?_
      refine .keep (.cons (k := 1) rfl (.cons (k := 9) rfl (.nil _))) ?_
      refine .bind (fun q25 hx27 => ?_)
      refine .bind (fun q28 hx30 => ?_)
      refine .draw ⟨1000000, 0, [], 0⟩ [(27, (.pointer (some ⟨b24, 0 + 0, none⟩))), (28, (.int .i64 r_23.Lo)), (29, (.int .i64 size5)), (30, (.int .i64 q25)), (31, (.pointer (some ⟨b24, 0 + 1, none⟩))), (32, (.int .i64 r_23.Hi)), (33, (.int .i64 size5)), (34, (.int .i64 q28)), (4, (.int .i64 q25))] mixedOK (by kernel_rfl) (by kernel_rfl) rfl (by kernel_rfl) ?_ (fun F_31 b32 l_33 => ?_)
      · skip
        refine .cons (.mk 27 (.pointer (some ⟨b24, 0 + 0, none⟩)) [(9, (.pointer (some ⟨b24, 0, none⟩)))] rfl rfl rfl rfl (fun S hS hd => (.cons (hS _ _ rfl) (Sub.nil _))) (fun F_34 X l_35 => ?_)) ?_
        · skip
          refine .fieldAddr rfl Try.underlying36 rfl Try.sizeOf3 rfl ?_
          exact .fin1 (Fz.le_refl _)
        refine .cons (.mk 28 (.int .i64 r_23.Lo) [(27, (.pointer (some ⟨b24, 0 + 0, none⟩)))] rfl rfl rfl rfl (fun S hS hd => (.cons (hd.1 rfl rfl _ _ rfl) (Sub.nil _))) (fun F_36 X l_37 => ?_)) ?_
        · skip
          refine .loadO rfl Try.isAgg3 rfl (i := 0) rfl rfl ?_
          exact .fin1 (Fz.le_refl _)
        refine .cons (.mk 29 (.int .i64 size5) [(1, (.int .i64 size5))] rfl rfl rfl rfl (fun S hS hd => (.cons (hS _ _ rfl) (Sub.nil _))) (fun F_38 X l_39 => ?_)) ?_
        · skip
          refine .move rfl rfl ?_
          exact .fin1 (Fz.le_refl _)
        refine .cons (.mk 30 (.int .i64 q25) [(28, (.int .i64 r_23.Lo)), (29, (.int .i64 size5))] rfl rfl rfl rfl (fun S hS hd => (.cons (hd.1 rfl rfl _ _ rfl) (.cons (hd.2.1 rfl rfl _ _ rfl) (Sub.nil _)))) (fun F_40 X l_41 => ?_)) ?_
        · skip
          refine .quoK hx27 rfl rfl rfl ?_
          exact .fin1 (Fz.le_refl _)
        refine .cons (.mk 31 (.pointer (some ⟨b24, 0 + 1, none⟩)) [(9, (.pointer (some ⟨b24, 0, none⟩)))] rfl rfl rfl rfl (fun S hS hd => (.cons (hS _ _ rfl) (Sub.nil _))) (fun F_42 X l_43 => ?_)) ?_
        · skip
          refine .fieldAddr rfl Try.underlying36 rfl Try.sizeOf3 rfl ?_
          exact .fin1 (Fz.le_refl _)
        refine .cons (.mk 32 (.int .i64 r_23.Hi) [(31, (.pointer (some ⟨b24, 0 + 1, none⟩)))] rfl rfl rfl rfl (fun S hS hd => (.cons (hd.1 rfl rfl _ _ rfl) (Sub.nil _))) (fun F_44 X l_45 => ?_)) ?_
        · skip
          refine .loadO rfl Try.isAgg3 rfl (i := 0) rfl rfl ?_
          exact .fin1 (Fz.le_refl _)
        refine .cons (.mk 33 (.int .i64 size5) [(1, (.int .i64 size5))] rfl rfl rfl rfl (fun S hS hd => (.cons (hS _ _ rfl) (Sub.nil _))) (fun F_46 X l_47 => ?_)) ?_
        · skip
          refine .move rfl rfl ?_
          exact .fin1 (Fz.le_refl _)
        refine .cons (.mk 34 (.int .i64 q28) [(32, (.int .i64 r_23.Hi)), (33, (.int .i64 size5))] rfl rfl rfl rfl (fun S hS hd => (.cons (hd.1 rfl rfl _ _ rfl) (.cons (hd.2.1 rfl rfl _ _ rfl) (Sub.nil _)))) (fun F_48 X l_49 => ?_)) ?_
        · skip
          refine .quoK hx30 rfl rfl rfl ?_
          exact .fin1 (Fz.le_refl _)
        refine .cons (.mk 4 (.int .i64 q25) [(30, (.int .i64 q25))] rfl rfl rfl rfl (fun S hS hd => (.cons (hd.1 rfl rfl _ _ rfl) (Sub.nil _))) (fun F_50 X l_51 => ?_)) ?_
        · skip
          refine .assign rfl rfl ?_
          exact .fin1 (Fz.le_refl _)
        exact .nil
      refine .assign rfl rfl ?_
      refine .assign rfl rfl ?_
      refine .nil ?_
      refine .code ?_
      exact .ret0 Try.results26 (.tmp rfl (.tmp rfl (.tmp rfl (.nil)))) (i := 2) rfl (Fz.le_trans l_8 (Fz.le_trans l_11 (Fz.le_trans l_19 (Fz.le_trans l_22 l_33)))) rfl

noncomputable def m_wormtubref12_Fill (b1 : ApiBatch) (n_5 : Int) : Option (Int × Int × Int) :=
  (m_wormtubref12_Batch b1).bind fun r_12 => if (!r_12) then (some (0, 0, 1)) else (if (!(m_wormtubref12_in n_5 1 1048576)) then (some (0, 0, 2)) else ((m_wormtubref12_blend b1).bind fun r_19 => (quoK .i64 r_19.Volume.Lo n_5).bind fun q21 => (quoK .i64 r_19.Volume.Hi n_5).bind fun q24 => some (q21, q24, 0)))
theorem c_wormtubref12_Fill (F0 : Fz) (b1 : ApiBatch) (p2 : Option Addr) (k3 : Nat) (h4 : RepSl 27 (Ex cApiDraught) F0 p2 k3 b1.Draughts) (n_5 : Int) : CT0 Try.prog 27 [(eApiBatch b1 p2 k3), (.int .i64 n_5)].toArray F0 (m_wormtubref12_Fill b1 n_5) (fun r _ v => v = .tuple #[(.int .i64 r.1), (.int .i64 r.2.1), (.int .i64 r.2.2)]) := by
  refine CT0.enter Try.func27 rfl Try.ntmps27 rfl fun r R => ?_
  unfold m_wormtubref12_Fill
  refine .seq ?_
  refine .region ?_
  refine .boxF (cs := (cApiBatch b1 p2 k3)) rfl rfl rfl (fun b6 F_7 l_8 hb9 => ?_)
  refine .assign rfl rfl ?_
  refine .assign rfl rfl ?_
  refine .assign rfl rfl ?_
  refine .nil ?_
  refine .code ?_
  refine .seq ?_
  refine .seq ?_
  refine .region ?_
  refine .loadFA rfl Try.isAgg38 Try.sizeOf38 rfl hb9 (vs := (cApiBatch b1 p2 k3)) (by kernel_rfl) rfl ?_
  refine .call0 rfl Try.call18 rfl rfl rfl (c_wormtubref12_Batch _ b1 p2 k3 (h4.mono l_8)) ?_
  rintro r_12 F_10 _ - l_11 rfl
  refine .not rfl rfl ?_
  refine .nil ?_
  refine .code ?_
  refine .cond rfl (fun hb13 => ?_) (fun hb13 => ?_)
  · skip
    refine .seq ?_
    refine .region ?_
    refine .assign rfl rfl ?_
    refine .assign rfl rfl ?_
    refine .assign rfl rfl ?_
    refine .nil ?_
    refine .code ?_
    exact .ret0 Try.results27 (.tmp rfl (.tmp rfl (.tmp rfl (.nil)))) (i := 0) rfl (Fz.le_trans l_8 l_11) rfl
  · skip
    refine .skip ?_
    refine .code ?_
    refine .seq ?_
    refine .seq ?_
    refine .region ?_
    refine .move rfl rfl ?_
    refine .callP rfl Try.call48 rfl rfl rfl (c_wormtubref12_in _ n_5 1 1048576) ?_
    rintro F_14 _ l_15 rfl
    refine .not rfl rfl ?_
    refine .nil ?_
    refine .code ?_
    refine .cond rfl (fun hb16 => ?_) (fun hb16 => ?_)
    · skip
      refine .seq ?_
      refine .region ?_
      refine .assign rfl rfl ?_
      refine .assign rfl rfl ?_
      refine .assign rfl rfl ?_
      refine .nil ?_
      refine .code ?_
      exact .ret0 Try.results27 (.tmp rfl (.tmp rfl (.tmp rfl (.nil)))) (i := 0) rfl (Fz.le_trans l_8 (Fz.le_trans l_11 l_15)) rfl
    · skip
      refine .skip ?_
      refine .code ?_
      refine .seq ?_
      refine .region ?_
      refine .loadFA rfl Try.isAgg38 Try.sizeOf38 rfl ((Fz.le_trans l_11 l_15).mem _ _ hb9) (vs := (cApiBatch b1 p2 k3)) (by kernel_rfl) rfl ?_
      refine .call0 rfl Try.call58 rfl rfl rfl (c_wormtubref12_blend _ b1 p2 k3 (h4.mono (Fz.le_trans l_8 (Fz.le_trans l_11 l_15)))) ?_
      rintro r_19 F_17 _ - l_18 rfl
      refine .alloc (cs := (cApiBottling (ApiBottling.mk (ApiSpan.mk 0 0) (ApiSpan.mk 0 0) 0 (fun _ => 0) (fun _ => 0) 0))) rfl Try.zeroValue56 rfl (fun b20 => ?_)
      refine .store (cs' := (cApiBottling r_19)) Try.sizeOf56 rfl rfl rfl rfl (i := 0) rfl (Nat.le_of_ble_eq_true rfl) rfl (setMany_all (by rfl)) ?_
      refine .nil ?_
      refine .code ?_
      refine .seq ?_
      refine .keep (.cons (k := 1) rfl (.cons (k := 7) rfl (.nil _))) ?_
      refine .bind (fun q21 hx23 => ?_)
      refine .bind (fun q24 hx26 => ?_)
      refine .draw ⟨1000000, 0, [], 0⟩ [(16, (.pointer (some ⟨b20, 0 + 0, none⟩))), (17, (.pointer (some ⟨b20, 0 + 0 + 0, none⟩))), (18, (.int .i64 r_19.Volume.Lo)), (19, (.int .i64 n_5)), (20, (.int .i64 q21)), (21, (.pointer (some ⟨b20, 0 + 0, none⟩))), (22, (.pointer (some ⟨b20, 0 + 0 + 1, none⟩))), (23, (.int .i64 r_19.Volume.Hi)), (24, (.int .i64 n_5)), (25, (.int .i64 q24)), (4, (.int .i64 q21))] mixedOK (by kernel_rfl) (by kernel_rfl) rfl (by kernel_rfl) ?_ (fun F_27 b28 l_29 => ?_)
      · skip
        refine .cons (.mk 16 (.pointer (some ⟨b20, 0 + 0, none⟩)) [(7, (.pointer (some ⟨b20, 0, none⟩)))] rfl rfl rfl rfl (fun S hS hd => (.cons (hS _ _ rfl) (Sub.nil _))) (fun F_30 X l_31 => ?_)) ?_
        · skip
          refine .fieldAddr rfl Try.underlying56 rfl Try.sizeOf36 rfl ?_
          exact .fin1 (Fz.le_refl _)
        refine .cons (.mk 17 (.pointer (some ⟨b20, 0 + 0 + 0, none⟩)) [(16, (.pointer (some ⟨b20, 0 + 0, none⟩)))] rfl rfl rfl rfl (fun S hS hd => (.cons (hd.1 rfl rfl _ _ rfl) (Sub.nil _))) (fun F_32 X l_33 => ?_)) ?_
        · skip
          refine .fieldAddr rfl Try.underlying36 rfl Try.sizeOf3 rfl ?_
          exact .fin1 (Fz.le_refl _)
        refine .cons (.mk 18 (.int .i64 r_19.Volume.Lo) [(17, (.pointer (some ⟨b20, 0 + 0 + 0, none⟩)))] rfl rfl rfl rfl (fun S hS hd => (.cons (hd.1 rfl rfl _ _ rfl) (Sub.nil _))) (fun F_34 X l_35 => ?_)) ?_
        · skip
          refine .loadO rfl Try.isAgg3 rfl (i := 0) rfl rfl ?_
          exact .fin1 (Fz.le_refl _)
        refine .cons (.mk 19 (.int .i64 n_5) [(1, (.int .i64 n_5))] rfl rfl rfl rfl (fun S hS hd => (.cons (hS _ _ rfl) (Sub.nil _))) (fun F_36 X l_37 => ?_)) ?_
        · skip
          refine .move rfl rfl ?_
          exact .fin1 (Fz.le_refl _)
        refine .cons (.mk 20 (.int .i64 q21) [(18, (.int .i64 r_19.Volume.Lo)), (19, (.int .i64 n_5))] rfl rfl rfl rfl (fun S hS hd => (.cons (hd.1 rfl rfl _ _ rfl) (.cons (hd.2.1 rfl rfl _ _ rfl) (Sub.nil _)))) (fun F_38 X l_39 => ?_)) ?_
        · skip
          refine .quoK hx23 rfl rfl rfl ?_
          exact .fin1 (Fz.le_refl _)
        refine .cons (.mk 21 (.pointer (some ⟨b20, 0 + 0, none⟩)) [(7, (.pointer (some ⟨b20, 0, none⟩)))] rfl rfl rfl rfl (fun S hS hd => (.cons (hS _ _ rfl) (Sub.nil _))) (fun F_40 X l_41 => ?_)) ?_
        · skip
          refine .fieldAddr rfl Try.underlying56 rfl Try.sizeOf36 rfl ?_
          exact .fin1 (Fz.le_refl _)
        refine .cons (.mk 22 (.pointer (some ⟨b20, 0 + 0 + 1, none⟩)) [(21, (.pointer (some ⟨b20, 0 + 0, none⟩)))] rfl rfl rfl rfl (fun S hS hd => (.cons (hd.1 rfl rfl _ _ rfl) (Sub.nil _))) (fun F_42 X l_43 => ?_)) ?_
        · skip
          refine .fieldAddr rfl Try.underlying36 rfl Try.sizeOf3 rfl ?_
          exact .fin1 (Fz.le_refl _)
        refine .cons (.mk 23 (.int .i64 r_19.Volume.Hi) [(22, (.pointer (some ⟨b20, 0 + 0 + 1, none⟩)))] rfl rfl rfl rfl (fun S hS hd => (.cons (hd.1 rfl rfl _ _ rfl) (Sub.nil _))) (fun F_44 X l_45 => ?_)) ?_
        · skip
          refine .loadO rfl Try.isAgg3 rfl (i := 0) rfl rfl ?_
          exact .fin1 (Fz.le_refl _)
        refine .cons (.mk 24 (.int .i64 n_5) [(1, (.int .i64 n_5))] rfl rfl rfl rfl (fun S hS hd => (.cons (hS _ _ rfl) (Sub.nil _))) (fun F_46 X l_47 => ?_)) ?_
        · skip
          refine .move rfl rfl ?_
          exact .fin1 (Fz.le_refl _)
        refine .cons (.mk 25 (.int .i64 q24) [(23, (.int .i64 r_19.Volume.Hi)), (24, (.int .i64 n_5))] rfl rfl rfl rfl (fun S hS hd => (.cons (hd.1 rfl rfl _ _ rfl) (.cons (hd.2.1 rfl rfl _ _ rfl) (Sub.nil _)))) (fun F_48 X l_49 => ?_)) ?_
        · skip
          refine .quoK hx26 rfl rfl rfl ?_
          exact .fin1 (Fz.le_refl _)
        refine .cons (.mk 4 (.int .i64 q21) [(20, (.int .i64 q21))] rfl rfl rfl rfl (fun S hS hd => (.cons (hd.1 rfl rfl _ _ rfl) (Sub.nil _))) (fun F_50 X l_51 => ?_)) ?_
        · skip
          refine .assign rfl rfl ?_
          exact .fin1 (Fz.le_refl _)
        exact .nil
      refine .assign rfl rfl ?_
      refine .assign rfl rfl ?_
      refine .nil ?_
      refine .code ?_
      exact .ret0 Try.results27 (.tmp rfl (.tmp rfl (.tmp rfl (.nil)))) (i := 1) rfl (Fz.le_trans l_8 (Fz.le_trans l_11 (Fz.le_trans l_15 (Fz.le_trans l_18 l_29)))) rfl

noncomputable def m_wormtublaw12_BottleBlends (b1 : ApiBatch) (least5 : Int) (most6 : Int) (size7 : Int) : Option Bool :=
  if (decide ((b1.Draughts.length : Int) > 20)) then ((m_wormtublaw12_awake).bind fun r_15 => some r_15) else ((m_bottle_Blend b1).bind fun r_18 => (m_wormtubref12_Blend b1).bind fun r_22 => (m_bottle_Water b1 least5 most6).bind fun r_26 => (m_wormtubref12_Water b1 least5 most6).bind fun r_30 => (m_bottle_Fill b1 size7).bind fun r_34 => (m_wormtubref12_Fill b1 size7).bind fun r_37 => (if (((((((eq_56 r_18.1 r_22.1) && (r_18.2 == r_22.2)) && (eq_36 r_26.1 r_30.1)) && (r_26.2 == r_30.2)) && (r_34.1 == r_37.1)) && (r_34.2.1 == r_37.2.1)) && (r_34.2.2 == r_37.2.2)) then ((m_wormtublaw12_awake).bind fun r_65 => some r_65) else some false).bind fun z69 => some z69)
theorem c_wormtublaw12_BottleBlends (F0 : Fz) (b1 : ApiBatch) (p2 : Option Addr) (k3 : Nat) (h4 : RepSl 27 (Ex cApiDraught) F0 p2 k3 b1.Draughts) (least5 : Int) (most6 : Int) (size7 : Int) : CT0 Try.prog 9 [(eApiBatch b1 p2 k3), (.int .i64 least5), (.int .i64 most6), (.int .i64 size7)].toArray F0 (m_wormtublaw12_BottleBlends b1 least5 most6 size7) (fun r _ v => v = (.bool r)) := by
  refine CT0.enter Try.func9 rfl Try.ntmps9 rfl fun r R => ?_
  unfold m_wormtublaw12_BottleBlends
  refine .seq ?_
  refine .region ?_
  refine .boxF (cs := (cApiBatch b1 p2 k3)) rfl rfl rfl (fun b8 F_9 l_10 hb11 => ?_)
  refine .assign rfl rfl ?_
  refine .nil ?_
  refine .code ?_
  refine .seq ?_
  refine .seq ?_
  refine .region ?_
  refine .fieldAddr rfl Try.underlying38 rfl Try.sizeOf34 rfl ?_
  refine .loadF rfl Try.isAgg34 rfl hb11 rfl ?_
  refine .lenS rfl rfl Try.underlying34 rfl ?_
  refine .gtr rfl rfl rfl ?_
  refine .nil ?_
  refine .code ?_
  refine .cond rfl (fun hb12 => ?_) (fun hb12 => ?_)
  · skip
    refine .seq ?_
    refine .region ?_
    refine .call0 rfl Try.call11 rfl rfl rfl (c_wormtublaw12_awake _ ) ?_
    rintro r_15 F_13 _ - l_14 rfl
    refine .assign rfl rfl ?_
    refine .nil ?_
    refine .code ?_
    exact .ret0 Try.results9 (.tmp rfl (.nil)) (i := 0) rfl (Fz.le_trans l_10 l_14) rfl
  · skip
    refine .skip ?_
    refine .code ?_
    refine .seq ?_
    refine .region ?_
    refine .loadFA rfl Try.isAgg38 Try.sizeOf38 rfl hb11 (vs := (cApiBatch b1 p2 k3)) (by kernel_rfl) rfl ?_
    refine .call0 rfl Try.call20 rfl rfl rfl (c_bottle_Blend _ b1 p2 k3 (h4.mono l_10)) ?_
    rintro r_18 F_16 _ - l_17 rfl
    refine .move rfl rfl ?_
    refine .extract rfl rfl rfl ?_
    refine .extract rfl rfl rfl ?_
    refine .alloc (cs := (cApiBottling (ApiBottling.mk (ApiSpan.mk 0 0) (ApiSpan.mk 0 0) 0 (fun _ => 0) (fun _ => 0) 0))) rfl Try.zeroValue56 rfl (fun b19 => ?_)
    refine .store (cs' := (cApiBottling r_18.1)) Try.sizeOf56 rfl rfl rfl rfl (i := 0) rfl (Nat.le_of_ble_eq_true rfl) rfl (setMany_all (by rfl)) ?_
    refine .assign rfl rfl ?_
    refine .nil ?_
    refine .code ?_
    refine .seq ?_
    refine .region ?_
    refine .loadFA rfl Try.isAgg38 Try.sizeOf38 rfl (l_17.mem _ _ hb11) (vs := (cApiBatch b1 p2 k3)) (by kernel_rfl) rfl ?_
    refine .call0 rfl Try.call24 rfl rfl rfl (c_wormtubref12_Blend _ b1 p2 k3 (h4.mono (Fz.le_trans l_10 l_17))) ?_
    rintro r_22 F_20 _ - l_21 rfl
    refine .move rfl rfl ?_
    refine .extract rfl rfl rfl ?_
    refine .extract rfl rfl rfl ?_
    refine .alloc (cs := (cApiBottling (ApiBottling.mk (ApiSpan.mk 0 0) (ApiSpan.mk 0 0) 0 (fun _ => 0) (fun _ => 0) 0))) rfl Try.zeroValue56 rfl (fun b23 => ?_)
    refine .store (cs' := (cApiBottling r_22.1)) Try.sizeOf56 rfl rfl rfl rfl (i := 0) rfl (Nat.le_of_ble_eq_true rfl) rfl (setMany_all (by rfl)) ?_
    refine .assign rfl rfl ?_
    refine .nil ?_
    refine .code ?_
    refine .seq ?_
    refine .region ?_
    refine .loadFA rfl Try.isAgg38 Try.sizeOf38 rfl ((Fz.le_trans l_17 l_21).mem _ _ hb11) (vs := (cApiBatch b1 p2 k3)) (by kernel_rfl) rfl ?_
    refine .move rfl rfl ?_
    refine .move rfl rfl ?_
    refine .call0 rfl Try.call22 rfl rfl rfl (c_bottle_Water _ b1 p2 k3 (h4.mono (Fz.le_trans l_10 (Fz.le_trans l_17 l_21))) least5 most6) ?_
    rintro r_26 F_24 _ - l_25 rfl
    refine .move rfl rfl ?_
    refine .extract rfl rfl rfl ?_
    refine .extract rfl rfl rfl ?_
    refine .alloc (cs := (cApiSpan (ApiSpan.mk 0 0))) rfl Try.zeroValue36 rfl (fun b27 => ?_)
    refine .store (cs' := (cApiSpan r_26.1)) Try.sizeOf36 rfl rfl rfl rfl (i := 0) rfl (Nat.le_of_ble_eq_true rfl) rfl (setMany_all (by rfl)) ?_
    refine .assign rfl rfl ?_
    refine .nil ?_
    refine .keep (.cons (k := 1) rfl (.cons (k := 2) rfl (.cons (k := 3) rfl (.cons (k := 4) rfl (.cons (k := 9) rfl (.cons (k := 10) rfl (.cons (k := 11) rfl (.cons (k := 12) rfl (.cons (k := 13) rfl (.cons (k := 14) rfl (.nil _))))))))))) ?_
    refine .code ?_
    refine .seq ?_
    refine .region ?_
    refine .loadFA rfl Try.isAgg38 Try.sizeOf38 rfl ((Fz.le_trans l_17 (Fz.le_trans l_21 l_25)).mem _ _ hb11) (vs := (cApiBatch b1 p2 k3)) (by kernel_rfl) rfl ?_
    refine .move rfl rfl ?_
    refine .move rfl rfl ?_
    refine .call0 rfl Try.call25 rfl rfl rfl (c_wormtubref12_Water _ b1 p2 k3 (h4.mono (Fz.le_trans l_10 (Fz.le_trans l_17 (Fz.le_trans l_21 l_25)))) least5 most6) ?_
    rintro r_30 F_28 _ - l_29 rfl
    refine .move rfl rfl ?_
    refine .extract rfl rfl rfl ?_
    refine .extract rfl rfl rfl ?_
    refine .alloc (cs := (cApiSpan (ApiSpan.mk 0 0))) rfl Try.zeroValue36 rfl (fun b31 => ?_)
    refine .store (cs' := (cApiSpan r_30.1)) Try.sizeOf36 rfl rfl rfl rfl (i := 0) rfl (Nat.le_of_ble_eq_true rfl) rfl (setMany_all (by rfl)) ?_
    refine .assign rfl rfl ?_
    refine .nil ?_
    refine .code ?_
    refine .seq ?_
    refine .region ?_
    refine .loadFA rfl Try.isAgg38 Try.sizeOf38 rfl ((Fz.le_trans l_17 (Fz.le_trans l_21 (Fz.le_trans l_25 l_29))).mem _ _ hb11) (vs := (cApiBatch b1 p2 k3)) (by kernel_rfl) rfl ?_
    refine .move rfl rfl ?_
    refine .call0 rfl Try.call26 rfl rfl rfl (c_bottle_Fill _ b1 p2 k3 (h4.mono (Fz.le_trans l_10 (Fz.le_trans l_17 (Fz.le_trans l_21 (Fz.le_trans l_25 l_29))))) size7) ?_
    rintro r_34 F_32 _ - l_33 rfl
    refine .move rfl rfl ?_
    refine .extract rfl rfl rfl ?_
    refine .extract rfl rfl rfl ?_
    refine .extract rfl rfl rfl ?_
    refine .assign rfl rfl ?_
    refine .assign rfl rfl ?_
    refine .assign rfl rfl ?_
    refine .nil ?_
    refine .keep (.cons (k := 3) rfl (.cons (k := 4) rfl (.cons (k := 9) rfl (.cons (k := 10) rfl (.cons (k := 11) rfl (.cons (k := 12) rfl (.cons (k := 13) rfl (.cons (k := 14) rfl (.cons (k := 15) rfl (.cons (k := 16) rfl (.cons (k := 17) rfl (.cons (k := 18) rfl (.cons (k := 19) rfl (.nil _)))))))))))))) ?_
    refine .code ?_
    refine .seq ?_
    refine .region ?_
    refine .loadFA rfl Try.isAgg38 Try.sizeOf38 rfl ((Fz.le_trans l_17 (Fz.le_trans l_21 (Fz.le_trans l_25 (Fz.le_trans l_29 l_33)))).mem _ _ hb11) (vs := (cApiBatch b1 p2 k3)) (by kernel_rfl) rfl ?_
    refine .move rfl rfl ?_
    refine .call0 rfl Try.call27 rfl rfl rfl (c_wormtubref12_Fill _ b1 p2 k3 (h4.mono (Fz.le_trans l_10 (Fz.le_trans l_17 (Fz.le_trans l_21 (Fz.le_trans l_25 (Fz.le_trans l_29 l_33)))))) size7) ?_
    rintro r_37 F_35 _ - l_36 rfl
    refine .move rfl rfl ?_
    refine .extract rfl rfl rfl ?_
    refine .extract rfl rfl rfl ?_
    refine .extract rfl rfl rfl ?_
    refine .assign rfl rfl ?_
    refine .assign rfl rfl ?_
    refine .assign rfl rfl ?_
    refine .nil ?_
    refine .code ?_
    refine .seq ?_
    refine .region ?_
    refine .loadOA rfl Try.isAgg56 Try.sizeOf56 rfl (i := 3) rfl (vs := (cApiBottling r_18.1)) (by kernel_rfl) rfl ?_
    refine .loadOA rfl Try.isAgg56 Try.sizeOf56 rfl (i := 2) rfl (vs := (cApiBottling r_22.1)) (by kernel_rfl) rfl ?_
    refine .eqlR rfl Try.eqGuardType56 (fun w => req_56 r_18.1 r_22.1 w) rfl rfl ?_
    refine .move rfl rfl ?_
    refine .andP (b := (eq_56 r_18.1 r_22.1)) (b' := (r_18.2 == r_22.2)) 4 73 (fun hb38 => ?_) (fun hb39 => ?_) (fun F_40 l_41 => ?_)
    · skip
      refine .onH hb38 rfl rfl ?_
      refine .move rfl rfl ?_
      refine .onH hb38 rfl rfl ?_
      refine .move rfl rfl ?_
      refine .onH hb38 rfl rfl ?_
      refine .eql rfl rfl rfl ?_
      refine .pickTH hb38 rfl rfl rfl ?_
      exact .fin 4 rfl rfl (by kernel_rfl) (Fz.le_refl _)
    · skip
      refine .offH hb39 rfl rfl rfl ?_
      refine .offH hb39 rfl rfl rfl ?_
      refine .offH hb39 rfl rfl rfl ?_
      refine .pickFH hb39 rfl rfl rfl ?_
      exact .fin 4 rfl rfl (by kernel_rfl) (Fz.le_refl _)
    refine .move rfl rfl ?_
    refine .andP (b := ((eq_56 r_18.1 r_22.1) && (r_18.2 == r_22.2))) (b' := (eq_36 r_26.1 r_30.1)) 4 78 (fun hb42 => ?_) (fun hb43 => ?_) (fun F_44 l_45 => ?_)
    · skip
      refine .onH hb42 rfl rfl ?_
      refine .loadOA rfl Try.isAgg36 Try.sizeOf36 rfl (i := 1) rfl (vs := (cApiSpan r_26.1)) (by kernel_rfl) rfl ?_
      refine .onH hb42 rfl rfl ?_
      refine .loadOA rfl Try.isAgg36 Try.sizeOf36 rfl (i := 0) rfl (vs := (cApiSpan r_30.1)) (by kernel_rfl) rfl ?_
      refine .onH hb42 rfl rfl ?_
      refine .eqlR rfl Try.eqGuardType36 (fun w => req_36 r_26.1 r_30.1 w) rfl rfl ?_
      refine .pickTH hb42 rfl rfl rfl ?_
      exact .fin 4 rfl rfl (by kernel_rfl) (Fz.le_refl _)
    · skip
      refine .offH hb43 rfl rfl rfl ?_
      refine .offH hb43 rfl rfl rfl ?_
      refine .offH hb43 rfl rfl rfl ?_
      refine .pickFH hb43 rfl rfl rfl ?_
      exact .fin 4 rfl rfl (by kernel_rfl) (Fz.le_refl _)
    refine .move rfl rfl ?_
    refine .andP (b := (((eq_56 r_18.1 r_22.1) && (r_18.2 == r_22.2)) && (eq_36 r_26.1 r_30.1))) (b' := (r_26.2 == r_30.2)) 4 83 (fun hb46 => ?_) (fun hb47 => ?_) (fun F_48 l_49 => ?_)
    · skip
      refine .onH hb46 rfl rfl ?_
      refine .move rfl rfl ?_
      refine .onH hb46 rfl rfl ?_
      refine .move rfl rfl ?_
      refine .onH hb46 rfl rfl ?_
      refine .eql rfl rfl rfl ?_
      refine .pickTH hb46 rfl rfl rfl ?_
      exact .fin 4 rfl rfl (by kernel_rfl) (Fz.le_refl _)
    · skip
      refine .offH hb47 rfl rfl rfl ?_
      refine .offH hb47 rfl rfl rfl ?_
      refine .offH hb47 rfl rfl rfl ?_
      refine .pickFH hb47 rfl rfl rfl ?_
      exact .fin 4 rfl rfl (by kernel_rfl) (Fz.le_refl _)
    refine .move rfl rfl ?_
    refine .andP (b := ((((eq_56 r_18.1 r_22.1) && (r_18.2 == r_22.2)) && (eq_36 r_26.1 r_30.1)) && (r_26.2 == r_30.2))) (b' := (r_34.1 == r_37.1)) 4 88 (fun hb50 => ?_) (fun hb51 => ?_) (fun F_52 l_53 => ?_)
    · skip
      refine .onH hb50 rfl rfl ?_
      refine .move rfl rfl ?_
      refine .onH hb50 rfl rfl ?_
      refine .move rfl rfl ?_
      refine .onH hb50 rfl rfl ?_
      refine .eql rfl rfl rfl ?_
      refine .pickTH hb50 rfl rfl rfl ?_
      exact .fin 4 rfl rfl (by kernel_rfl) (Fz.le_refl _)
    · skip
      refine .offH hb51 rfl rfl rfl ?_
      refine .offH hb51 rfl rfl rfl ?_
      refine .offH hb51 rfl rfl rfl ?_
      refine .pickFH hb51 rfl rfl rfl ?_
      exact .fin 4 rfl rfl (by kernel_rfl) (Fz.le_refl _)
    refine .move rfl rfl ?_
    refine .andP (b := (((((eq_56 r_18.1 r_22.1) && (r_18.2 == r_22.2)) && (eq_36 r_26.1 r_30.1)) && (r_26.2 == r_30.2)) && (r_34.1 == r_37.1))) (b' := (r_34.2.1 == r_37.2.1)) 4 93 (fun hb54 => ?_) (fun hb55 => ?_) (fun F_56 l_57 => ?_)
    · skip
      refine .onH hb54 rfl rfl ?_
      refine .move rfl rfl ?_
      refine .onH hb54 rfl rfl ?_
      refine .move rfl rfl ?_
      refine .onH hb54 rfl rfl ?_
      refine .eql rfl rfl rfl ?_
      refine .pickTH hb54 rfl rfl rfl ?_
      exact .fin 4 rfl rfl (by kernel_rfl) (Fz.le_refl _)
    · skip
      refine .offH hb55 rfl rfl rfl ?_
      refine .offH hb55 rfl rfl rfl ?_
      refine .offH hb55 rfl rfl rfl ?_
      refine .pickFH hb55 rfl rfl rfl ?_
      exact .fin 4 rfl rfl (by kernel_rfl) (Fz.le_refl _)
    refine .move rfl rfl ?_
    refine .andP (b := ((((((eq_56 r_18.1 r_22.1) && (r_18.2 == r_22.2)) && (eq_36 r_26.1 r_30.1)) && (r_26.2 == r_30.2)) && (r_34.1 == r_37.1)) && (r_34.2.1 == r_37.2.1))) (b' := (r_34.2.2 == r_37.2.2)) 4 98 (fun hb58 => ?_) (fun hb59 => ?_) (fun F_60 l_61 => ?_)
    · skip
      refine .onH hb58 rfl rfl ?_
      refine .move rfl rfl ?_
      refine .onH hb58 rfl rfl ?_
      refine .move rfl rfl ?_
      refine .onH hb58 rfl rfl ?_
      refine .eql rfl rfl rfl ?_
      refine .pickTH hb58 rfl rfl rfl ?_
      exact .fin 4 rfl rfl (by kernel_rfl) (Fz.le_refl _)
    · skip
      refine .offH hb59 rfl rfl rfl ?_
      refine .offH hb59 rfl rfl rfl ?_
      refine .offH hb59 rfl rfl rfl ?_
      refine .pickFH hb59 rfl rfl rfl ?_
      exact .fin 4 rfl rfl (by kernel_rfl) (Fz.le_refl _)
    refine .move rfl rfl ?_
    refine .andM (b := (((((((eq_56 r_18.1 r_22.1) && (r_18.2 == r_22.2)) && (eq_36 r_26.1 r_30.1)) && (r_26.2 == r_30.2)) && (r_34.1 == r_37.1)) && (r_34.2.1 == r_37.2.1)) && (r_34.2.2 == r_37.2.2))) 2 101 (fun hb62 z70 => ?_) (fun hb66 => ?_) (fun z69 F_67 l_68 => ?_)
    · skip
      refine .onH hb62 rfl rfl ?_
      refine .call0 rfl Try.call11 rfl rfl rfl (c_wormtublaw12_awake _ ) ?_
      rintro r_65 F_63 _ - l_64 rfl
      refine .pickTH hb62 rfl rfl rfl ?_
      exact .finZ 2 rfl rfl (by kernel_rfl) l_64
    · skip
      refine .offH hb66 rfl rfl rfl ?_
      refine .pickFH hb66 rfl rfl rfl ?_
      exact .fin 2 rfl rfl (by kernel_rfl) (Fz.le_refl _)
    refine .assign rfl rfl ?_
    refine .nil ?_
    refine .keep (.cons (k := 8) rfl (.nil _)) ?_
    refine .code ?_
    exact .ret0 Try.results9 (.tmp rfl (.nil)) (i := 4) rfl (Fz.le_trans l_10 (Fz.le_trans l_17 (Fz.le_trans l_21 (Fz.le_trans l_25 (Fz.le_trans l_29 (Fz.le_trans l_33 (Fz.le_trans l_36 (Fz.le_trans l_41 (Fz.le_trans l_45 (Fz.le_trans l_49 (Fz.le_trans l_53 (Fz.le_trans l_57 (Fz.le_trans l_61 l_68))))))))))))) rfl

end Go.Proofs.Ytbomfcghpajaiaa
