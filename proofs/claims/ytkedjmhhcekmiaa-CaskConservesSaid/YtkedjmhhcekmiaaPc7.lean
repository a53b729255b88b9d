/- Own texts and texts printed by a program of mine, for caskConserves_holds; only what it reaches. -/
import Derived.Test.YtkedjmhhcekmiaaPc6
section
namespace Go.Proofs.Ytkedjmhhcekmiaa
open Go.Dec Go.Shelf Go.RowKit Go.Maps Go.Sort
noncomputable def b_wormtublaw06_CaskConserves_1 (l_1 : (List ApiCaskEvent)) (day5 : Int) (r_12 : ((List ApiCask) × Int × Int)) (s39 : Int × Int × Int) : Option (Ctl (Int × Int × Int) ((Int × Int) ⊕ (Bool))) :=
 if (decide (s39.2.2 < r_12.2.1)) then ((idxL l_1 s39.2.2).bind fun x43 => ((if (x43.Kind == 0) then (bindv (w64 (s39.2.1 + 1)) fun made54 => some (s39.1, made54)) else (if (x43.Kind == 1) then ((idxL l_1 s39.2.2).bind fun x57 => bindv (w64 (s39.1 + x57.Amount)) fun sum67 => some (sum67, s39.2.1)) else (if (x43.Kind == 3) then ((idxL l_1 s39.2.2).bind fun x70 => bindv (w64 (s39.1 - x70.Amount)) fun sum80 => some (sum80, s39.2.1)) else (some (s39.1, s39.2.1)))) : Option (Int × Int)).bind fun j82 => some (j82.1, j82.2) : Option (Int × Int)).bind fun j85 => ((idxL l_1 s39.2.2).bind fun x88 => if (decide (x88.Day > day5)) then (some true) else (if (decide (s39.2.2 > 0)) then ((idxL l_1 s39.2.2).bind fun x153 => (idxL l_1 (w64 (s39.2.2 - 1))).bind fun x163 => some (decide (x153.Day < x163.Day))) else (some false)) : Option (Bool)).bind fun j279 => if j279 then (some (.done (.inr false))) else (bindv (w64 (s39.2.2 + 1)) fun i283 => some (.next (j85.1, j85.2, i283)))) else (some (.done (.inl (s39.1, s39.2.1))))
noncomputable def b_wormtublaw06_CaskConserves_3 (x294 : ApiCask) (s307 : Int × Int) : Option (Ctl (Int × Int) ((Int))) :=
 if (decide (s307.2 < 8)) then ((idxO 8 s307.2).bind fun j311 => bindv (w64 (s307.1 + (x294.Woods j311))) fun woods313 => bindv (w64 (s307.2 + 1)) fun k315 => some (.next (woods313, k315))) else (some (.done s307.1))
noncomputable def b_wormtublaw06_CaskConserves_4 (x294 : ApiCask) (s320 : Int × Int) : Option (Ctl (Int × Int) ((Int))) :=
 if (decide (s320.2 < 8)) then ((idxO 8 s320.2).bind fun j324 => bindv (w64 (s320.1 + (x294.Places j324))) fun places326 => bindv (w64 (s320.2 + 1)) fun k328 => some (.next (places326, k328))) else (some (.done s320.1))
noncomputable def b_wormtublaw06_CaskConserves_2 (day5 : Int) (r_12 : ((List ApiCask) × Int × Int)) (s290 : Int × Int) : Option (Ctl (Int × Int) ((Int) ⊕ (Bool))) :=
 if (decide (s290.2 < (r_12.1.length : Int))) then ((idxL r_12.1 s290.2).bind fun x294 => bindv (w64 (s290.1 - x294.Amount)) fun sum305 => (loopM (b_wormtublaw06_CaskConserves_3 x294) (0, 0)).bind fun b317 => (loopM (b_wormtublaw06_CaskConserves_4 x294) (0, 0)).bind fun b330 => (if (decide (x294.Amount < 0)) then (some true) else (if (decide (x294.Amount > x294.Room)) then (some true) else (if (decide (x294.Age < b317)) then (some true) else (if (decide (x294.Age < b330)) then (some true) else (if (decide (x294.Age > day5)) then (some true) else (if (decide (s290.2 > 0)) then ((idxL r_12.1 (w64 (s290.2 - 1))).bind fun x784 => some (decide (x294.Number ≤ x784.Number))) else (some false)))))) : Option (Bool)).bind fun j972 => if j972 then (some (.done (.inr false))) else (if ((x294.Amount == 0) && (((x294.Age != 0) || (!(eq_29 x294.Woods (arrOf [0, 0, 0, 0, 0, 0, 0, 0] 0)))) || (!(eq_29 x294.Places (arrOf [0, 0, 0, 0, 0, 0, 0, 0] 0))))) then (some (.done (.inr false))) else (bindv (w64 (s290.2 + 1)) fun i989 => some (.next (sum305, i989))))) else (some (.done (.inl s290.1)))
noncomputable def m_wormtublaw06_CaskConserves (l_1 : (List ApiCaskEvent)) (day5 : Int) : Option Bool :=
 if (decide ((l_1.length : Int) > 60)) then ((m_wormtublaw06_awake).bind fun r_9 => some r_9) else ((m_cask_Play l_1 day5).bind fun r_12 => if (r_12.2.2 != 0) then ((if ((((r_12.1.length : Int) == 0) && (decide (r_12.2.1 ≥ 0))) && (decide (r_12.2.1 ≤ (l_1.length : Int)))) then ((m_wormtublaw06_awake).bind fun r_28 => some r_28) else some false).bind fun z32 => some z32) else (if ((decide (r_12.2.1 < 0)) || (decide (r_12.2.1 > (l_1.length : Int)))) then (some false) else ((loopM (b_wormtublaw06_CaskConserves_1 l_1 day5 r_12) (0, 0, 0)).bind fun b0 => match b0 with | .inl b285 => ((loopM (b_wormtublaw06_CaskConserves_2 day5 r_12) (b285.1, 0)).bind fun b0 => match b0 with | .inl b991 => ((if ((b991 == 0) && ((r_12.1.length : Int) == b285.2)) then ((m_wormtublaw06_awake).bind fun r_1003 => some r_1003) else some false).bind fun z1007 => some z1007) | .inr b991 => (some b991)) | .inr b285 => (some b285))))
set_option maxHeartbeats 4000000 in
theorem c_wormtublaw06_CaskConserves (F0 : Fz) (l_1 : (List ApiCaskEvent)) (p2 : Option Addr) (k3 : Nat) (h4 : RepSl 8 (Ex cApiCaskEvent) F0 p2 k3 l_1) (day5 : Int) : CT0 Try.prog 6 [(.slice p2 l_1.length k3), (.int .i64 day5)].toArray F0 (m_wormtublaw06_CaskConserves l_1 day5) (fun r _ v => v = (.bool r)) := by
 refine CT0.enter Try.func6 rfl Try.ntmps6 rfl fun r R => ?_
 unfold m_wormtublaw06_CaskConserves
 refine .seq ?_
 refine .region ?_
 refine .assign rfl rfl ?_
 refine .nil ?_
 refine .code ?_
 refine .seq ?_
 refine .seq ?_
 refine .region ?_
 refine .move rfl rfl ?_
 refine .lenS rfl rfl Try.underlying22 rfl ?_
 refine .gtr rfl rfl rfl ?_
 refine .nil ?_
 refine .code ?_
 refine .cond rfl (fun hb6 => ?_) (fun hb6 => ?_)
 ·skip
  refine .seq ?_
  refine .region ?_
  refine .call0 rfl Try.call11 rfl rfl rfl (c_wormtublaw06_awake _ ) ?_
  rintro r_9 F_7 _ - l_8 rfl
  refine .assign rfl rfl ?_
  refine .nil ?_
  refine .code ?_
  exact .ret0 Try.results6 (.tmp rfl (.nil)) (i := 0) rfl l_8 rfl
 ·skip
  refine .skip ?_
  refine .code ?_
  refine .seq ?_
  refine .region ?_
  refine .move rfl rfl ?_
  refine .move rfl rfl ?_
  refine .call0 rfl Try.call12 rfl rfl rfl (c_cask_Play _ l_1 p2 k3 h4 day5) ?_
  rintro r_12 F_10 _ - l_11 ⟨p13, k14, rfl, h15⟩
  refine .move rfl rfl ?_
  refine .extract rfl rfl rfl ?_
  refine .extract rfl rfl rfl ?_
  refine .extract rfl rfl rfl ?_
  refine .assign rfl rfl ?_
  refine .assign rfl rfl ?_
  refine .assign rfl rfl ?_
  refine .nil ?_
  refine .code ?_
  refine .seq ?_
  refine .seq ?_
  refine .region ?_
  refine .move rfl rfl ?_
  refine .neq rfl rfl rfl ?_
  refine .nil ?_
  refine .code ?_
  refine .cond rfl (fun hb16 => ?_) (fun hb16 => ?_)
  ·skip
   refine .seq ?_
   refine .region ?_
   refine .move rfl rfl ?_
   refine .lenS rfl rfl Try.underlying25 rfl ?_
   refine .eql rfl rfl rfl ?_
   refine .move rfl rfl ?_
   refine .andP (b := ((r_12.1.length : Int) == 0)) (b' := (decide (r_12.2.1 ≥ 0))) 3 36 (fun hb17 => ?_) (fun hb18 => ?_) (fun F_19 l_20 => ?_)
   ·skip
    refine .onH hb17 rfl rfl ?_
    refine .move rfl rfl ?_
    refine .onH hb17 rfl rfl ?_
    refine .geq rfl rfl rfl ?_
    refine .pickTH hb17 rfl rfl rfl ?_
    exact .fin 3 rfl rfl (by kernel_rfl) (Fz.le_refl _)
   ·skip
    refine .offH hb18 rfl rfl rfl ?_
    refine .offH hb18 rfl rfl rfl ?_
    refine .pickFH hb18 rfl rfl rfl ?_
    exact .fin 3 rfl rfl (by kernel_rfl) (Fz.le_refl _)
   refine .move rfl rfl ?_
   refine .andP (b := (((r_12.1.length : Int) == 0) && (decide (r_12.2.1 ≥ 0)))) (b' := (decide (r_12.2.1 ≤ (l_1.length : Int)))) 5 42 (fun hb21 => ?_) (fun hb22 => ?_) (fun F_23 l_24 => ?_)
   ·skip
    refine .onH hb21 rfl rfl ?_
    refine .move rfl rfl ?_
    refine .onH hb21 rfl rfl ?_
    refine .move rfl rfl ?_
    refine .onH hb21 rfl rfl ?_
    refine .lenS rfl rfl Try.underlying22 rfl ?_
    refine .onH hb21 rfl rfl ?_
    refine .leq rfl rfl rfl ?_
    refine .pickTH hb21 rfl rfl rfl ?_
    exact .fin 5 rfl rfl (by kernel_rfl) (Fz.le_refl _)
   ·skip
    refine .offH hb22 rfl rfl rfl ?_
    refine .offH hb22 rfl rfl rfl ?_
    refine .offH hb22 rfl rfl rfl ?_
    refine .offH hb22 rfl rfl rfl ?_
    refine .pickFH hb22 rfl rfl rfl ?_
    exact .fin 5 rfl rfl (by kernel_rfl) (Fz.le_refl _)
   refine .move rfl rfl ?_
   refine .andM (b := ((((r_12.1.length : Int) == 0) && (decide (r_12.2.1 ≥ 0))) && (decide (r_12.2.1 ≤ (l_1.length : Int))))) 2 45 (fun hb25 z33 => ?_) (fun hb29 => ?_) (fun z32 F_30 l_31 => ?_)
   ·skip
    refine .onH hb25 rfl rfl ?_
    refine .call0 rfl Try.call11 rfl rfl rfl (c_wormtublaw06_awake _ ) ?_
    rintro r_28 F_26 _ - l_27 rfl
    refine .pickTH hb25 rfl rfl rfl ?_
    exact .finZ 2 rfl rfl (by kernel_rfl) l_27
   ·skip
    refine .offH hb29 rfl rfl rfl ?_
    refine .pickFH hb29 rfl rfl rfl ?_
    exact .fin 2 rfl rfl (by kernel_rfl) (Fz.le_refl _)
   refine .assign rfl rfl ?_
   refine .nil ?_
   refine .keep (.cons (k := 4) rfl (.nil _)) ?_
   refine .code ?_
   exact .ret0 Try.results6 (.tmp rfl (.nil)) (i := 0) rfl (Fz.le_trans l_11 (Fz.le_trans l_20 (Fz.le_trans l_24 l_31))) rfl
  ·skip
   refine .skip ?_
   refine .code ?_
   refine .seq ?_
   refine .seq ?_
   refine .region ?_
   refine .move rfl rfl ?_
   refine .lss rfl rfl rfl ?_
   refine .move rfl rfl ?_
   refine .orP (b := (decide (r_12.2.1 < 0))) (b' := (decide (r_12.2.1 > (l_1.length : Int)))) 5 53 (fun hb34 => ?_) (fun hb35 => ?_) (fun F_36 l_37 => ?_)
   ·skip
    refine .onH hb34 rfl rfl ?_
    refine .move rfl rfl ?_
    refine .onH hb34 rfl rfl ?_
    refine .move rfl rfl ?_
    refine .onH hb34 rfl rfl ?_
    refine .lenS rfl rfl Try.underlying22 rfl ?_
    refine .onH hb34 rfl rfl ?_
    refine .gtr rfl rfl rfl ?_
    refine .pickFH hb34 rfl rfl rfl ?_
    exact .fin 5 rfl rfl (by kernel_rfl) (Fz.le_refl _)
   ·skip
    refine .offH hb35 rfl rfl rfl ?_
    refine .offH hb35 rfl rfl rfl ?_
    refine .offH hb35 rfl rfl rfl ?_
    refine .offH hb35 rfl rfl rfl ?_
    refine .pickTH hb35 rfl rfl rfl ?_
    exact .fin 5 rfl rfl (by kernel_rfl) (Fz.le_refl _)
   refine .nil ?_
   refine .code ?_
   refine .cond rfl (fun hb38 => ?_) (fun hb38 => ?_)
   ·skip
    refine .seq ?_
    refine .region ?_
    refine .assign rfl rfl ?_
    refine .nil ?_
    refine .code ?_
    exact .ret0 Try.results6 (.tmp rfl (.nil)) (i := 0) rfl (Fz.le_trans l_11 l_37) rfl
   ·skip
    refine .skip ?_
    refine .code ?_
    refine .seq ?_
    refine .region ?_
    refine .assign rfl rfl ?_
    refine .assign rfl rfl ?_
    refine .nil ?_
    refine .code ?_
    refine .seq ?_
    refine .seq ?_
    refine .region ?_
    refine .assign rfl rfl ?_
    refine .nil ?_
    refine .keep (.cons (k := 0) rfl (.cons (k := 1) rfl (.cons (k := 5) rfl (.cons (k := 6) rfl (.cons (k := 8) rfl (.cons (k := 9) rfl (.cons (k := 10) rfl (.nil _)))))))) ?_
    refine .code ?_
    refine .block ?_
    refine .keep (.cons (k := 0) rfl (.cons (k := 1) rfl (.cons (k := 5) rfl (.cons (k := 6) rfl (.cons (k := 8) rfl (.cons (k := 9) rfl (.cons (k := 10) rfl (.nil _)))))))) ?_
    refine .loop (fun (s39 : Int × Int × Int) a w => ∃ (F_40 : Fz), F_36 ≤ F_40 ∧ Hd 219 [] [(0, (.slice p2 l_1.length k3)), (1, (.int .i64 day5)), (5, (.slice p13 r_12.1.length k14)), (6, (.int .i64 r_12.2.1)), (8, (.int .i64 s39.1)), (9, (.int .i64 s39.2.1)), (10, (.int .i64 s39.2.2))] F_40 [R] a w) (fun b0 e a w => match b0 with | .inl b285 => e = .exit 0 ∧ ∃ (F_286 : Fz), F_36 ≤ F_286 ∧ Hd 219 [] [(1, (.int .i64 day5)), (5, (.slice p13 r_12.1.length k14)), (8, (.int .i64 b285.1)), (9, (.int .i64 b285.2))] F_286 [R] a w | .inr b285 => e = .ret ∧ ∃ (F_288 : Fz), F_36 ≤ F_288 ∧ Hd 219 [] [(4, (.bool b285))] F_288 [R] a w) ?_ ?_ ?_
    ·exact fun a w h => ⟨F_36, (Fz.le_refl _), h.1.sub (.cons (k := 0) rfl (.cons (k := 1) rfl (.cons (k := 5) rfl (.cons (k := 6) rfl (.cons (k := 8) rfl (.cons (k := 9) rfl (.cons (k := 10) rfl (.nil _)))))))), h.2⟩
    ·intro s39 ctl
     refine GC.ex (fun a w ⟨F_40, l_41, hA⟩ => ⟨_, hA, ?_⟩)
     unfold b_wormtublaw06_CaskConserves_1
     refine .seq ?_
     refine .seq ?_
     refine .region ?_
     refine .move rfl rfl ?_
     refine .move rfl rfl ?_
     refine .lss rfl rfl rfl ?_
     refine .nil ?_
     refine .code ?_
     refine .cond rfl (fun hb42 => ?_) (fun hb42 => ?_)
     ·skip
      refine .skip ?_
      refine .code ?_
      refine .seq ?_
      refine .block ?_
      refine .seq ?_
      refine .seq ?_
      refine .region ?_
      refine .move rfl rfl ?_
      refine .move rfl rfl ?_
      refine .idx rfl Try.underlying22 Try.sizeOf45 (h4.mono (Fz.le_trans l_11 (Fz.le_trans l_37 l_41))) rfl rfl (fun x43 b44 o45 T46 fr47 cs48 e49 hm50 hv51 => ?_)
      refine .fieldAddr rfl Try.underlying45 rfl Try.sizeOf3 rfl ?_
      refine .loadF rfl Try.isAgg3 rfl hm50 (cell_of_take (k := 0) hv51 rfl) ?_
      refine .nil ?_
      refine .code ?_
      refine .keep (.cons (k := 0) rfl (.cons (k := 1) rfl (.cons (k := 5) rfl (.cons (k := 6) rfl (.cons (k := 8) rfl (.cons (k := 9) rfl (.cons (k := 10) rfl (.cons (k := 63) rfl (.nil _))))))))) ?_
      refine GC.join0 (σ := Int × Int) (fun j85 a w => ∃ (F_86 : Fz), F_40 ≤ F_86 ∧ Hd 219 [] [(0, (.slice p2 l_1.length k3)), (1, (.int .i64 day5)), (5, (.slice p13 r_12.1.length k14)), (6, (.int .i64 r_12.2.1)), (8, (.int .i64 j85.1)), (9, (.int .i64 j85.2)), (10, (.int .i64 s39.2.2))] F_86 [R] a w) (fun sj => ?_) (fun j85 hs0 => GE.ex (fun a w ⟨F_86, l_87, hA⟩ => ⟨_, hA, ?_⟩))
      ·skip
       refine .block ?_
       refine .seq ?_
       refine .region ?_
       refine .eql rfl rfl rfl ?_
       refine .assign rfl rfl ?_
       refine .nil ?_
       refine .code ?_
       refine .keep (.cons (k := 0) rfl (.cons (k := 1) rfl (.cons (k := 5) rfl (.cons (k := 6) rfl (.cons (k := 8) rfl (.cons (k := 9) rfl (.cons (k := 10) rfl (.cons (k := 63) rfl (.cons (k := 64) rfl (.nil _)))))))))) ?_
       refine GC.join0 (σ := Int × Int) (fun j82 a w => ∃ (F_83 : Fz), F_40 ≤ F_83 ∧ Hd 219 [] [(0, (.slice p2 l_1.length k3)), (1, (.int .i64 day5)), (5, (.slice p13 r_12.1.length k14)), (6, (.int .i64 r_12.2.1)), (8, (.int .i64 j82.1)), (9, (.int .i64 j82.2)), (10, (.int .i64 s39.2.2))] F_83 [R] a w) (fun sj => ?_) (fun j82 hs0 => GE.ex (fun a w ⟨F_83, l_84, hA⟩ => ⟨_, hA, ?_⟩))
       ·skip
        refine .cond rfl (fun hb53 => ?_) (fun hb53 => ?_)
        ·skip
         refine .region ?_
         refine .move rfl rfl ?_
         refine .add rfl rfl rfl ?_
         refine .assignL rfl rfl (fun made54 e55 => ?_)
         refine .nil ?_
         exact .nil fun e a w h => by cases e; exact ⟨rfl, ⟨F_40, (Fz.le_refl _), h.1.sub (.cons (k := 0) rfl (.cons (k := 1) rfl (.cons (k := 5) rfl (.cons (k := 6) rfl (.cons (k := 8) rfl (.cons (k := 9) rfl (.cons (k := 10) rfl (.nil _)))))))), h.2⟩⟩
        ·skip
         refine .seq ?_
         refine .region ?_
         refine .eql rfl rfl rfl ?_
         refine .assign rfl rfl ?_
         refine .nil ?_
         refine .code ?_
         refine .cond rfl (fun hb56 => ?_) (fun hb56 => ?_)
         ·skip
          refine .region ?_
          refine .move rfl rfl ?_
          refine .move rfl rfl ?_
          refine .move rfl rfl ?_
          refine .idx rfl Try.underlying22 Try.sizeOf45 (h4.mono (Fz.le_trans l_11 (Fz.le_trans l_37 l_41))) rfl rfl (fun x57 b58 o59 T60 fr61 cs62 e63 hm64 hv65 => ?_)
          refine .fieldAddr rfl Try.underlying45 rfl Try.sizeOf3 rfl ?_
          refine .loadF rfl Try.isAgg3 rfl hm64 (cell_of_take (k := 6) hv65 rfl) ?_
          refine .add rfl rfl rfl ?_
          refine .assignL rfl rfl (fun sum67 e68 => ?_)
          refine .nil ?_
          exact .nil fun e a w h => by cases e; exact ⟨rfl, ⟨F_40, (Fz.le_refl _), h.1.sub (.cons (k := 0) rfl (.cons (k := 1) rfl (.cons (k := 5) rfl (.cons (k := 6) rfl (.cons (k := 8) rfl (.cons (k := 9) rfl (.cons (k := 10) rfl (.nil _)))))))), h.2⟩⟩
         ·skip
          refine .seq ?_
          refine .region ?_
          refine .eql rfl rfl rfl ?_
          refine .assign rfl rfl ?_
          refine .nil ?_
          refine .code ?_
          refine .cond rfl (fun hb69 => ?_) (fun hb69 => ?_)
          ·skip
           refine .region ?_
           refine .move rfl rfl ?_
           refine .move rfl rfl ?_
           refine .move rfl rfl ?_
           refine .idx rfl Try.underlying22 Try.sizeOf45 (h4.mono (Fz.le_trans l_11 (Fz.le_trans l_37 l_41))) rfl rfl (fun x70 b71 o72 T73 fr74 cs75 e76 hm77 hv78 => ?_)
           refine .fieldAddr rfl Try.underlying45 rfl Try.sizeOf3 rfl ?_
           refine .loadF rfl Try.isAgg3 rfl hm77 (cell_of_take (k := 6) hv78 rfl) ?_
           refine .sub rfl rfl rfl ?_
           refine .assignL rfl rfl (fun sum80 e81 => ?_)
           refine .nil ?_
           exact .nil fun e a w h => by cases e; exact ⟨rfl, ⟨F_40, (Fz.le_refl _), h.1.sub (.cons (k := 0) rfl (.cons (k := 1) rfl (.cons (k := 5) rfl (.cons (k := 6) rfl (.cons (k := 8) rfl (.cons (k := 9) rfl (.cons (k := 10) rfl (.nil _)))))))), h.2⟩⟩
          ·skip
           refine .skip ?_
           exact .nil fun e a w h => by cases e; exact ⟨rfl, ⟨F_40, (Fz.le_refl _), h.1.sub (.cons (k := 0) rfl (.cons (k := 1) rfl (.cons (k := 5) rfl (.cons (k := 6) rfl (.cons (k := 8) rfl (.cons (k := 9) rfl (.cons (k := 10) rfl (.nil _)))))))), h.2⟩⟩
       refine .block ?_
       exact .nil fun e a w h => by cases e; exact ⟨rfl, ⟨F_83, l_84, h.1.sub (.cons (k := 0) rfl (.cons (k := 1) rfl (.cons (k := 5) rfl (.cons (k := 6) rfl (.cons (k := 8) rfl (.cons (k := 9) rfl (.cons (k := 10) rfl (.nil _)))))))), h.2⟩⟩
      refine .code ?_
      refine .seq ?_
      refine .keep (.cons (k := 0) rfl (.cons (k := 1) rfl (.cons (k := 5) rfl (.cons (k := 6) rfl (.cons (k := 8) rfl (.cons (k := 9) rfl (.cons (k := 10) rfl (.nil _)))))))) ?_
      refine GC.join0 (σ := Bool) (fun j279 a w => ∃ (F_280 : Fz), F_86 ≤ F_280 ∧ Hd 219 [] [(0, (.slice p2 l_1.length k3)), (1, (.int .i64 day5)), (5, (.slice p13 r_12.1.length k14)), (6, (.int .i64 r_12.2.1)), (8, (.int .i64 j85.1)), (9, (.int .i64 j85.2)), (10, (.int .i64 s39.2.2)), (110, (.bool j279))] F_280 [R] a w) (fun sj => ?_) (fun j279 hs0 => GE.ex (fun a w ⟨F_280, l_281, hA⟩ => ⟨_, hA, ?_⟩))
      ·skip
       refine .bind (fun x88 e94 => ?_)
       obtain ⟨b89, o90, T91, fr92, cs93, hm95, hv96, hq97⟩ := RepSl.idxE (h4.mono (Fz.le_trans l_11 (Fz.le_trans l_37 (Fz.le_trans l_41 l_87)))) e94
       refine .ite (fun hb98 => ?_) (fun hb98 => ?_)
       ·skip
        refine .draw ⟨1000000, 0, [], 0⟩ [(86, (.slice p2 l_1.length k3)), (87, (.int .i64 s39.2.2)), (88, (.pointer (some ⟨b89, o90, none⟩))), (89, (.pointer (some ⟨b89, o90 + 1, none⟩))), (90, (.int .i64 x88.Day)), (91, (.int .i64 day5)), (92, (.bool (decide (x88.Day > day5)))), (93, (.bool (decide (x88.Day > day5)))), (94, undef), (95, undef), (96, undef), (97, undef), (98, undef), (99, undef), (100, undef), (101, undef), (102, undef), (103, undef), (104, undef), (105, undef), (106, undef), (107, undef), (108, undef), (109, undef), (110, (.bool true))] mixedOK (by kernel_rfl) (by kernel_rfl) rfl (by kernel_rfl) ?_ (fun F_99 b100 l_101 => ?_)
        ·skip
         refine .cons (.mk 86 (.slice p2 l_1.length k3) [(0, (.slice p2 l_1.length k3))] rfl rfl rfl rfl (fun S hS hd => (.cons (hS _ _ rfl) (Sub.nil _))) (fun F_102 X l_103 => ?_)) ?_
         ·skip
          refine .move rfl rfl ?_
          exact .fin1 (Fz.le_refl _)
         refine .cons (.mk 87 (.int .i64 s39.2.2) [(10, (.int .i64 s39.2.2))] rfl rfl rfl rfl (fun S hS hd => (.cons (hS _ _ rfl) (Sub.nil _))) (fun F_104 X l_105 => ?_)) ?_
         ·skip
          refine .move rfl rfl ?_
          exact .fin1 (Fz.le_refl _)
         refine .cons (.mk 88 (.pointer (some ⟨b89, o90, none⟩)) [(86, (.slice p2 l_1.length k3)), (87, (.int .i64 s39.2.2))] rfl rfl rfl rfl (fun S hS hd => (.cons (hd.1 rfl rfl _ _ rfl) (.cons (hd.2.1 rfl rfl _ _ rfl) (Sub.nil _)))) (fun F_106 X l_107 => ?_)) ?_
         ·skip
          refine .idxQ rfl Try.underlying22 Try.sizeOf45 hq97 rfl rfl ?_
          exact .fin1 (Fz.le_refl _)
         refine .cons (.mk 89 (.pointer (some ⟨b89, o90 + 1, none⟩)) [(88, (.pointer (some ⟨b89, o90, none⟩)))] rfl rfl rfl rfl (fun S hS hd => (.cons (hd.1 rfl rfl _ _ rfl) (Sub.nil _))) (fun F_108 X l_109 => ?_)) ?_
         ·skip
          refine .fieldAddr rfl Try.underlying45 rfl Try.sizeOf3 rfl ?_
          exact .fin1 (Fz.le_refl _)
         refine .cons (.mk 90 (.int .i64 x88.Day) [(89, (.pointer (some ⟨b89, o90 + 1, none⟩)))] rfl rfl rfl rfl (fun S hS hd => (.cons (hd.1 rfl rfl _ _ rfl) (Sub.nil _))) (fun F_110 X l_111 => ?_)) ?_
         ·skip
          refine .loadF rfl Try.isAgg3 rfl (l_111.mem _ _ hm95) (cell_of_take (k := 1) hv96 rfl) ?_
          exact .fin1 (Fz.le_refl _)
         refine .cons (.mk 91 (.int .i64 day5) [(1, (.int .i64 day5))] rfl rfl rfl rfl (fun S hS hd => (.cons (hS _ _ rfl) (Sub.nil _))) (fun F_112 X l_113 => ?_)) ?_
         ·skip
          refine .move rfl rfl ?_
          exact .fin1 (Fz.le_refl _)
         refine .cons (.mk 92 (.bool (decide (x88.Day > day5))) [(90, (.int .i64 x88.Day)), (91, (.int .i64 day5))] rfl rfl rfl rfl (fun S hS hd => (.cons (hd.1 rfl rfl _ _ rfl) (.cons (hd.2.1 rfl rfl _ _ rfl) (Sub.nil _)))) (fun F_114 X l_115 => ?_)) ?_
         ·skip
          refine .gtr rfl rfl rfl ?_
          exact .fin1 (Fz.le_refl _)
         refine .cons (.mk 93 (.bool (decide (x88.Day > day5))) [(92, (.bool (decide (x88.Day > day5))))] rfl rfl rfl rfl (fun S hS hd => (.cons (hd.1 rfl rfl _ _ rfl) (Sub.nil _))) (fun F_116 X l_117 => ?_)) ?_
         ·skip
          refine .move rfl rfl ?_
          exact .fin1 (Fz.le_refl _)
         refine .cons (.mk 94 undef [(10, (.int .i64 s39.2.2)), (93, (.bool (decide (x88.Day > day5))))] rfl rfl rfl rfl (fun S hS hd => (.cons (hS _ _ rfl) (.cons (hd.1 rfl rfl _ _ rfl) (Sub.nil _)))) (fun F_118 X l_119 => ?_)) ?_
         ·skip
          refine .offH hb98 rfl rfl rfl ?_
          exact .fin1 (Fz.le_refl _)
         refine .cons (.mk 95 undef [(93, (.bool (decide (x88.Day > day5)))), (94, undef)] rfl rfl rfl rfl (fun S hS hd => (.cons (hd.2.1 rfl rfl _ _ rfl) (.cons (hd.1 rfl rfl _ _ rfl) (Sub.nil _)))) (fun F_120 X l_121 => ?_)) ?_
         ·skip
          refine .offH hb98 rfl rfl rfl ?_
          exact .fin1 (Fz.le_refl _)
         refine .cons (.mk 96 undef [(93, (.bool (decide (x88.Day > day5)))), (95, undef)] rfl rfl rfl rfl (fun S hS hd => (.cons (hd.2.1 rfl rfl _ _ rfl) (.cons (hd.1 rfl rfl _ _ rfl) (Sub.nil _)))) (fun F_122 X l_123 => ?_)) ?_
         ·skip
          refine .offH hb98 rfl rfl rfl ?_
          exact .fin1 (Fz.le_refl _)
         refine .cons (.mk 97 undef [(0, (.slice p2 l_1.length k3)), (96, undef)] rfl rfl rfl rfl (fun S hS hd => (.cons (hS _ _ rfl) (.cons (hd.1 rfl rfl _ _ rfl) (Sub.nil _)))) (fun F_124 X l_125 => ?_)) ?_
         ·skip
          refine .off rfl rfl rfl rfl ?_
          exact .fin1 (Fz.le_refl _)
         refine .cons (.mk 98 undef [(10, (.int .i64 s39.2.2)), (96, undef)] rfl rfl rfl rfl (fun S hS hd => (.cons (hS _ _ rfl) (.cons (hd.1 rfl rfl _ _ rfl) (Sub.nil _)))) (fun F_126 X l_127 => ?_)) ?_
         ·skip
          refine .off rfl rfl rfl rfl ?_
          exact .fin1 (Fz.le_refl _)
         refine .cons (.mk 99 undef [(96, undef), (97, undef), (98, undef)] rfl rfl rfl rfl (fun S hS hd => (.cons (hd.2.2.1 rfl rfl _ _ rfl) (.cons (hd.1 rfl rfl _ _ rfl) (.cons (hd.2.1 rfl rfl _ _ rfl) (Sub.nil _))))) (fun F_128 X l_129 => ?_)) ?_
         ·skip
          refine .off rfl rfl rfl rfl ?_
          exact .fin1 (Fz.le_refl _)
         refine .cons (.mk 100 undef [(96, undef), (99, undef)] rfl rfl rfl rfl (fun S hS hd => (.cons (hd.2.1 rfl rfl _ _ rfl) (.cons (hd.1 rfl rfl _ _ rfl) (Sub.nil _)))) (fun F_130 X l_131 => ?_)) ?_
         ·skip
          refine .off rfl rfl rfl rfl ?_
          exact .fin1 (Fz.le_refl _)
         refine .cons (.mk 101 undef [(96, undef), (100, undef)] rfl rfl rfl rfl (fun S hS hd => (.cons (hd.2.1 rfl rfl _ _ rfl) (.cons (hd.1 rfl rfl _ _ rfl) (Sub.nil _)))) (fun F_132 X l_133 => ?_)) ?_
         ·skip
          refine .off rfl rfl rfl rfl ?_
          exact .fin1 (Fz.le_refl _)
         refine .cons (.mk 102 undef [(0, (.slice p2 l_1.length k3)), (96, undef)] rfl rfl rfl rfl (fun S hS hd => (.cons (hS _ _ rfl) (.cons (hd.1 rfl rfl _ _ rfl) (Sub.nil _)))) (fun F_134 X l_135 => ?_)) ?_
         ·skip
          refine .off rfl rfl rfl rfl ?_
          exact .fin1 (Fz.le_refl _)
         refine .cons (.mk 103 undef [(10, (.int .i64 s39.2.2)), (96, undef)] rfl rfl rfl rfl (fun S hS hd => (.cons (hS _ _ rfl) (.cons (hd.1 rfl rfl _ _ rfl) (Sub.nil _)))) (fun F_136 X l_137 => ?_)) ?_
         ·skip
          refine .off rfl rfl rfl rfl ?_
          exact .fin1 (Fz.le_refl _)
         refine .cons (.mk 104 undef [(96, undef), (103, undef)] rfl rfl rfl rfl (fun S hS hd => (.cons (hd.2.1 rfl rfl _ _ rfl) (.cons (hd.1 rfl rfl _ _ rfl) (Sub.nil _)))) (fun F_138 X l_139 => ?_)) ?_
         ·skip
          refine .off rfl rfl rfl rfl ?_
          exact .fin1 (Fz.le_refl _)
         refine .cons (.mk 105 undef [(96, undef), (102, undef), (104, undef)] rfl rfl rfl rfl (fun S hS hd => (.cons (hd.2.2.1 rfl rfl _ _ rfl) (.cons (hd.1 rfl rfl _ _ rfl) (.cons (hd.2.1 rfl rfl _ _ rfl) (Sub.nil _))))) (fun F_140 X l_141 => ?_)) ?_
         ·skip
          refine .off rfl rfl rfl rfl ?_
          exact .fin1 (Fz.le_refl _)
         refine .cons (.mk 106 undef [(96, undef), (105, undef)] rfl rfl rfl rfl (fun S hS hd => (.cons (hd.2.1 rfl rfl _ _ rfl) (.cons (hd.1 rfl rfl _ _ rfl) (Sub.nil _)))) (fun F_142 X l_143 => ?_)) ?_
         ·skip
          refine .off rfl rfl rfl rfl ?_
          exact .fin1 (Fz.le_refl _)
         refine .cons (.mk 107 undef [(96, undef), (106, undef)] rfl rfl rfl rfl (fun S hS hd => (.cons (hd.2.1 rfl rfl _ _ rfl) (.cons (hd.1 rfl rfl _ _ rfl) (Sub.nil _)))) (fun F_144 X l_145 => ?_)) ?_
         ·skip
          refine .off rfl rfl rfl rfl ?_
          exact .fin1 (Fz.le_refl _)
         refine .cons (.mk 108 undef [(96, undef), (101, undef), (107, undef)] rfl rfl rfl rfl (fun S hS hd => (.cons (hd.2.2.1 rfl rfl _ _ rfl) (.cons (hd.1 rfl rfl _ _ rfl) (.cons (hd.2.1 rfl rfl _ _ rfl) (Sub.nil _))))) (fun F_146 X l_147 => ?_)) ?_
         ·skip
          refine .off rfl rfl rfl rfl ?_
          exact .fin1 (Fz.le_refl _)
         refine .cons (.mk 109 undef [(93, (.bool (decide (x88.Day > day5)))), (96, undef), (108, undef)] rfl rfl rfl rfl (fun S hS hd => (.cons (hd.2.2.1 rfl rfl _ _ rfl) (.cons (hd.1 rfl rfl _ _ rfl) (.cons (hd.2.1 rfl rfl _ _ rfl) (Sub.nil _))))) (fun F_148 X l_149 => ?_)) ?_
         ·skip
          refine .offH hb98 rfl rfl rfl ?_
          exact .fin1 (Fz.le_refl _)
         refine .cons (.mk 110 (.bool true) [(93, (.bool (decide (x88.Day > day5)))), (109, undef)] rfl rfl rfl rfl (fun S hS hd => (.cons (hd.1 rfl rfl _ _ rfl) (.cons (hd.2.1 rfl rfl _ _ rfl) (Sub.nil _)))) (fun F_150 X l_151 => ?_)) ?_
         ·skip
          refine .pickTH hb98  rfl rfl rfl ?_
          exact .fin1 (Fz.le_refl _)
         exact .nil
        refine .nil ?_
        exact .nil fun e a w h => by cases e; exact ⟨rfl, ⟨F_99, l_101, h.1.sub (.cons (k := 0) rfl (.cons (k := 1) rfl (.cons (k := 5) rfl (.cons (k := 6) rfl (.cons (k := 8) rfl (.cons (k := 9) rfl (.cons (k := 10) rfl (.cons (k := 110) rfl (.nil _))))))))), h.2⟩⟩
       ·skip
        refine .ite (fun hb152 => ?_) (fun hb152 => ?_)
        ·skip
         refine .bind (fun x153 e159 => ?_)
         obtain ⟨b154, o155, T156, fr157, cs158, hm160, hv161, hq162⟩ := RepSl.idxE (h4.mono (Fz.le_trans l_11 (Fz.le_trans l_37 (Fz.le_trans l_41 l_87)))) e159
         refine .bind (fun x163 e169 => ?_)
         obtain ⟨b164, o165, T166, fr167, cs168, hm170, hv171, hq172⟩ := RepSl.idxE (h4.mono (Fz.le_trans l_11 (Fz.le_trans l_37 (Fz.le_trans l_41 l_87)))) e169
         refine .draw ⟨1000000, 0, [], 0⟩ [(86, (.slice p2 l_1.length k3)), (87, (.int .i64 s39.2.2)), (88, (.pointer (some ⟨b89, o90, none⟩))), (89, (.pointer (some ⟨b89, o90 + 1, none⟩))), (90, (.int .i64 x88.Day)), (91, (.int .i64 day5)), (92, (.bool (decide (x88.Day > day5)))), (93, (.bool (decide (x88.Day > day5)))), (94, (.int .i64 s39.2.2)), (95, (.bool (decide (s39.2.2 > 0)))), (96, (.bool (decide (s39.2.2 > 0)))), (97, (.slice p2 l_1.length k3)), (98, (.int .i64 s39.2.2)), (99, (.pointer (some ⟨b154, o155, none⟩))), (100, (.pointer (some ⟨b154, o155 + 1, none⟩))), (101, (.int .i64 x153.Day)), (102, (.slice p2 l_1.length k3)), (103, (.int .i64 s39.2.2)), (104, (.int .i64 (w64 (s39.2.2 - 1)))), (105, (.pointer (some ⟨b164, o165, none⟩))), (106, (.pointer (some ⟨b164, o165 + 1, none⟩))), (107, (.int .i64 x163.Day)), (108, (.bool (decide (x153.Day < x163.Day)))), (109, (.bool (decide (x153.Day < x163.Day)))), (110, (.bool (decide (x153.Day < x163.Day))))] mixedOK (by kernel_rfl) (by kernel_rfl) rfl (by kernel_rfl) ?_ (fun F_173 b174 l_175 => ?_)
         ·skip
          refine .cons (.mk 86 (.slice p2 l_1.length k3) [(0, (.slice p2 l_1.length k3))] rfl rfl rfl rfl (fun S hS hd => (.cons (hS _ _ rfl) (Sub.nil _))) (fun F_176 X l_177 => ?_)) ?_
          ·skip
           refine .move rfl rfl ?_
           exact .fin1 (Fz.le_refl _)
          refine .cons (.mk 87 (.int .i64 s39.2.2) [(10, (.int .i64 s39.2.2))] rfl rfl rfl rfl (fun S hS hd => (.cons (hS _ _ rfl) (Sub.nil _))) (fun F_178 X l_179 => ?_)) ?_
          ·skip
           refine .move rfl rfl ?_
           exact .fin1 (Fz.le_refl _)
          refine .cons (.mk 88 (.pointer (some ⟨b89, o90, none⟩)) [(86, (.slice p2 l_1.length k3)), (87, (.int .i64 s39.2.2))] rfl rfl rfl rfl (fun S hS hd => (.cons (hd.1 rfl rfl _ _ rfl) (.cons (hd.2.1 rfl rfl _ _ rfl) (Sub.nil _)))) (fun F_180 X l_181 => ?_)) ?_
          ·skip
           refine .idxQ rfl Try.underlying22 Try.sizeOf45 hq97 rfl rfl ?_
           exact .fin1 (Fz.le_refl _)
          refine .cons (.mk 89 (.pointer (some ⟨b89, o90 + 1, none⟩)) [(88, (.pointer (some ⟨b89, o90, none⟩)))] rfl rfl rfl rfl (fun S hS hd => (.cons (hd.1 rfl rfl _ _ rfl) (Sub.nil _))) (fun F_182 X l_183 => ?_)) ?_
          ·skip
           refine .fieldAddr rfl Try.underlying45 rfl Try.sizeOf3 rfl ?_
           exact .fin1 (Fz.le_refl _)
          refine .cons (.mk 90 (.int .i64 x88.Day) [(89, (.pointer (some ⟨b89, o90 + 1, none⟩)))] rfl rfl rfl rfl (fun S hS hd => (.cons (hd.1 rfl rfl _ _ rfl) (Sub.nil _))) (fun F_184 X l_185 => ?_)) ?_
          ·skip
           refine .loadF rfl Try.isAgg3 rfl (l_185.mem _ _ hm95) (cell_of_take (k := 1) hv96 rfl) ?_
           exact .fin1 (Fz.le_refl _)
          refine .cons (.mk 91 (.int .i64 day5) [(1, (.int .i64 day5))] rfl rfl rfl rfl (fun S hS hd => (.cons (hS _ _ rfl) (Sub.nil _))) (fun F_186 X l_187 => ?_)) ?_
          ·skip
           refine .move rfl rfl ?_
           exact .fin1 (Fz.le_refl _)
          refine .cons (.mk 92 (.bool (decide (x88.Day > day5))) [(90, (.int .i64 x88.Day)), (91, (.int .i64 day5))] rfl rfl rfl rfl (fun S hS hd => (.cons (hd.1 rfl rfl _ _ rfl) (.cons (hd.2.1 rfl rfl _ _ rfl) (Sub.nil _)))) (fun F_188 X l_189 => ?_)) ?_
          ·skip
           refine .gtr rfl rfl rfl ?_
           exact .fin1 (Fz.le_refl _)
          refine .cons (.mk 93 (.bool (decide (x88.Day > day5))) [(92, (.bool (decide (x88.Day > day5))))] rfl rfl rfl rfl (fun S hS hd => (.cons (hd.1 rfl rfl _ _ rfl) (Sub.nil _))) (fun F_190 X l_191 => ?_)) ?_
          ·skip
           refine .move rfl rfl ?_
           exact .fin1 (Fz.le_refl _)
          refine .cons (.mk 94 (.int .i64 s39.2.2) [(10, (.int .i64 s39.2.2)), (93, (.bool (decide (x88.Day > day5))))] rfl rfl rfl rfl (fun S hS hd => (.cons (hS _ _ rfl) (.cons (hd.1 rfl rfl _ _ rfl) (Sub.nil _)))) (fun F_192 X l_193 => ?_)) ?_
          ·skip
           refine .onH hb98 rfl rfl ?_
           refine .move rfl rfl ?_
           exact .fin1 (Fz.le_refl _)
          refine .cons (.mk 95 (.bool (decide (s39.2.2 > 0))) [(93, (.bool (decide (x88.Day > day5)))), (94, (.int .i64 s39.2.2))] rfl rfl rfl rfl (fun S hS hd => (.cons (hd.2.1 rfl rfl _ _ rfl) (.cons (hd.1 rfl rfl _ _ rfl) (Sub.nil _)))) (fun F_194 X l_195 => ?_)) ?_
          ·skip
           refine .onH hb98 rfl rfl ?_
           refine .gtr rfl rfl rfl ?_
           exact .fin1 (Fz.le_refl _)
          refine .cons (.mk 96 (.bool (decide (s39.2.2 > 0))) [(93, (.bool (decide (x88.Day > day5)))), (95, (.bool (decide (s39.2.2 > 0))))] rfl rfl rfl rfl (fun S hS hd => (.cons (hd.2.1 rfl rfl _ _ rfl) (.cons (hd.1 rfl rfl _ _ rfl) (Sub.nil _)))) (fun F_196 X l_197 => ?_)) ?_
          ·skip
           refine .onH hb98 rfl rfl ?_
           refine .move rfl rfl ?_
           exact .fin1 (Fz.le_refl _)
          refine .cons (.mk 97 (.slice p2 l_1.length k3) [(0, (.slice p2 l_1.length k3)), (96, (.bool (decide (s39.2.2 > 0))))] rfl rfl rfl rfl (fun S hS hd => (.cons (hS _ _ rfl) (.cons (hd.1 rfl rfl _ _ rfl) (Sub.nil _)))) (fun F_198 X l_199 => ?_)) ?_
          ·skip
           refine .onH hb152 rfl rfl ?_
           refine .move rfl rfl ?_
           exact .fin1 (Fz.le_refl _)
          refine .cons (.mk 98 (.int .i64 s39.2.2) [(10, (.int .i64 s39.2.2)), (96, (.bool (decide (s39.2.2 > 0))))] rfl rfl rfl rfl (fun S hS hd => (.cons (hS _ _ rfl) (.cons (hd.1 rfl rfl _ _ rfl) (Sub.nil _)))) (fun F_200 X l_201 => ?_)) ?_
          ·skip
           refine .onH hb152 rfl rfl ?_
           refine .move rfl rfl ?_
           exact .fin1 (Fz.le_refl _)
          refine .cons (.mk 99 (.pointer (some ⟨b154, o155, none⟩)) [(96, (.bool (decide (s39.2.2 > 0)))), (97, (.slice p2 l_1.length k3)), (98, (.int .i64 s39.2.2))] rfl rfl rfl rfl (fun S hS hd => (.cons (hd.2.2.1 rfl rfl _ _ rfl) (.cons (hd.1 rfl rfl _ _ rfl) (.cons (hd.2.1 rfl rfl _ _ rfl) (Sub.nil _))))) (fun F_202 X l_203 => ?_)) ?_
          ·skip
           refine .onH hb152 rfl rfl ?_
           refine .idxQ rfl Try.underlying22 Try.sizeOf45 hq162 rfl rfl ?_
           exact .fin1 (Fz.le_refl _)
          refine .cons (.mk 100 (.pointer (some ⟨b154, o155 + 1, none⟩)) [(96, (.bool (decide (s39.2.2 > 0)))), (99, (.pointer (some ⟨b154, o155, none⟩)))] rfl rfl rfl rfl (fun S hS hd => (.cons (hd.2.1 rfl rfl _ _ rfl) (.cons (hd.1 rfl rfl _ _ rfl) (Sub.nil _)))) (fun F_204 X l_205 => ?_)) ?_
          ·skip
           refine .onH hb152 rfl rfl ?_
           refine .fieldAddr rfl Try.underlying45 rfl Try.sizeOf3 rfl ?_
           exact .fin1 (Fz.le_refl _)
          refine .cons (.mk 101 (.int .i64 x153.Day) [(96, (.bool (decide (s39.2.2 > 0)))), (100, (.pointer (some ⟨b154, o155 + 1, none⟩)))] rfl rfl rfl rfl (fun S hS hd => (.cons (hd.2.1 rfl rfl _ _ rfl) (.cons (hd.1 rfl rfl _ _ rfl) (Sub.nil _)))) (fun F_206 X l_207 => ?_)) ?_
          ·skip
           refine .onH hb152 rfl rfl ?_
           refine .loadF rfl Try.isAgg3 rfl (l_207.mem _ _ hm160) (cell_of_take (k := 1) hv161 rfl) ?_
           exact .fin1 (Fz.le_refl _)
          refine .cons (.mk 102 (.slice p2 l_1.length k3) [(0, (.slice p2 l_1.length k3)), (96, (.bool (decide (s39.2.2 > 0))))] rfl rfl rfl rfl (fun S hS hd => (.cons (hS _ _ rfl) (.cons (hd.1 rfl rfl _ _ rfl) (Sub.nil _)))) (fun F_208 X l_209 => ?_)) ?_
          ·skip
           refine .onH hb152 rfl rfl ?_
           refine .move rfl rfl ?_
           exact .fin1 (Fz.le_refl _)
          refine .cons (.mk 103 (.int .i64 s39.2.2) [(10, (.int .i64 s39.2.2)), (96, (.bool (decide (s39.2.2 > 0))))] rfl rfl rfl rfl (fun S hS hd => (.cons (hS _ _ rfl) (.cons (hd.1 rfl rfl _ _ rfl) (Sub.nil _)))) (fun F_210 X l_211 => ?_)) ?_
          ·skip
           refine .onH hb152 rfl rfl ?_
           refine .move rfl rfl ?_
           exact .fin1 (Fz.le_refl _)
          refine .cons (.mk 104 (.int .i64 (w64 (s39.2.2 - 1))) [(96, (.bool (decide (s39.2.2 > 0)))), (103, (.int .i64 s39.2.2))] rfl rfl rfl rfl (fun S hS hd => (.cons (hd.2.1 rfl rfl _ _ rfl) (.cons (hd.1 rfl rfl _ _ rfl) (Sub.nil _)))) (fun F_212 X l_213 => ?_)) ?_
          ·skip
           refine .onH hb152 rfl rfl ?_
           refine .sub rfl rfl rfl ?_
           exact .fin1 (Fz.le_refl _)
          refine .cons (.mk 105 (.pointer (some ⟨b164, o165, none⟩)) [(96, (.bool (decide (s39.2.2 > 0)))), (102, (.slice p2 l_1.length k3)), (104, (.int .i64 (w64 (s39.2.2 - 1))))] rfl rfl rfl rfl (fun S hS hd => (.cons (hd.2.2.1 rfl rfl _ _ rfl) (.cons (hd.1 rfl rfl _ _ rfl) (.cons (hd.2.1 rfl rfl _ _ rfl) (Sub.nil _))))) (fun F_214 X l_215 => ?_)) ?_
          ·skip
           refine .onH hb152 rfl rfl ?_
           refine .idxQ rfl Try.underlying22 Try.sizeOf45 hq172 rfl rfl ?_
           exact .fin1 (Fz.le_refl _)
          refine .cons (.mk 106 (.pointer (some ⟨b164, o165 + 1, none⟩)) [(96, (.bool (decide (s39.2.2 > 0)))), (105, (.pointer (some ⟨b164, o165, none⟩)))] rfl rfl rfl rfl (fun S hS hd => (.cons (hd.2.1 rfl rfl _ _ rfl) (.cons (hd.1 rfl rfl _ _ rfl) (Sub.nil _)))) (fun F_216 X l_217 => ?_)) ?_
          ·skip
           refine .onH hb152 rfl rfl ?_
           refine .fieldAddr rfl Try.underlying45 rfl Try.sizeOf3 rfl ?_
           exact .fin1 (Fz.le_refl _)
          refine .cons (.mk 107 (.int .i64 x163.Day) [(96, (.bool (decide (s39.2.2 > 0)))), (106, (.pointer (some ⟨b164, o165 + 1, none⟩)))] rfl rfl rfl rfl (fun S hS hd => (.cons (hd.2.1 rfl rfl _ _ rfl) (.cons (hd.1 rfl rfl _ _ rfl) (Sub.nil _)))) (fun F_218 X l_219 => ?_)) ?_
          ·skip
           refine .onH hb152 rfl rfl ?_
           refine .loadF rfl Try.isAgg3 rfl (l_219.mem _ _ hm170) (cell_of_take (k := 1) hv171 rfl) ?_
           exact .fin1 (Fz.le_refl _)
          refine .cons (.mk 108 (.bool (decide (x153.Day < x163.Day))) [(96, (.bool (decide (s39.2.2 > 0)))), (101, (.int .i64 x153.Day)), (107, (.int .i64 x163.Day))] rfl rfl rfl rfl (fun S hS hd => (.cons (hd.2.2.1 rfl rfl _ _ rfl) (.cons (hd.1 rfl rfl _ _ rfl) (.cons (hd.2.1 rfl rfl _ _ rfl) (Sub.nil _))))) (fun F_220 X l_221 => ?_)) ?_
          ·skip
           refine .onH hb152 rfl rfl ?_
           refine .lss rfl rfl rfl ?_
           exact .fin1 (Fz.le_refl _)
          refine .cons (.mk 109 (.bool (decide (x153.Day < x163.Day))) [(93, (.bool (decide (x88.Day > day5)))), (96, (.bool (decide (s39.2.2 > 0)))), (108, (.bool (decide (x153.Day < x163.Day))))] rfl rfl rfl rfl (fun S hS hd => (.cons (hd.2.2.1 rfl rfl _ _ rfl) (.cons (hd.1 rfl rfl _ _ rfl) (.cons (hd.2.1 rfl rfl _ _ rfl) (Sub.nil _))))) (fun F_222 X l_223 => ?_)) ?_
          ·skip
           refine .onH hb98 rfl rfl ?_
           refine .pickTH hb152  rfl rfl rfl ?_
           exact .fin1 (Fz.le_refl _)
          refine .cons (.mk 110 (.bool (decide (x153.Day < x163.Day))) [(93, (.bool (decide (x88.Day > day5)))), (109, (.bool (decide (x153.Day < x163.Day))))] rfl rfl rfl rfl (fun S hS hd => (.cons (hd.1 rfl rfl _ _ rfl) (.cons (hd.2.1 rfl rfl _ _ rfl) (Sub.nil _)))) (fun F_224 X l_225 => ?_)) ?_
          ·skip
           refine .pickFH hb98  rfl rfl rfl ?_
           exact .fin1 (Fz.le_refl _)
          exact .nil
         refine .nil ?_
         exact .nil fun e a w h => by cases e; exact ⟨rfl, ⟨F_173, l_175, h.1.sub (.cons (k := 0) rfl (.cons (k := 1) rfl (.cons (k := 5) rfl (.cons (k := 6) rfl (.cons (k := 8) rfl (.cons (k := 9) rfl (.cons (k := 10) rfl (.cons (k := 110) rfl (.nil _))))))))), h.2⟩⟩
        ·skip
         refine .draw ⟨1000000, 0, [], 0⟩ [(86, (.slice p2 l_1.length k3)), (87, (.int .i64 s39.2.2)), (88, (.pointer (some ⟨b89, o90, none⟩))), (89, (.pointer (some ⟨b89, o90 + 1, none⟩))), (90, (.int .i64 x88.Day)), (91, (.int .i64 day5)), (92, (.bool (decide (x88.Day > day5)))), (93, (.bool (decide (x88.Day > day5)))), (94, (.int .i64 s39.2.2)), (95, (.bool (decide (s39.2.2 > 0)))), (96, (.bool (decide (s39.2.2 > 0)))), (97, undef), (98, undef), (99, undef), (100, undef), (101, undef), (102, undef), (103, undef), (104, undef), (105, undef), (106, undef), (107, undef), (108, undef), (109, (.bool false)), (110, (.bool false))] mixedOK (by kernel_rfl) (by kernel_rfl) rfl (by kernel_rfl) ?_ (fun F_226 b227 l_228 => ?_)
         ·skip
          refine .cons (.mk 86 (.slice p2 l_1.length k3) [(0, (.slice p2 l_1.length k3))] rfl rfl rfl rfl (fun S hS hd => (.cons (hS _ _ rfl) (Sub.nil _))) (fun F_229 X l_230 => ?_)) ?_
          ·skip
           refine .move rfl rfl ?_
           exact .fin1 (Fz.le_refl _)
          refine .cons (.mk 87 (.int .i64 s39.2.2) [(10, (.int .i64 s39.2.2))] rfl rfl rfl rfl (fun S hS hd => (.cons (hS _ _ rfl) (Sub.nil _))) (fun F_231 X l_232 => ?_)) ?_
          ·skip
           refine .move rfl rfl ?_
           exact .fin1 (Fz.le_refl _)
          refine .cons (.mk 88 (.pointer (some ⟨b89, o90, none⟩)) [(86, (.slice p2 l_1.length k3)), (87, (.int .i64 s39.2.2))] rfl rfl rfl rfl (fun S hS hd => (.cons (hd.1 rfl rfl _ _ rfl) (.cons (hd.2.1 rfl rfl _ _ rfl) (Sub.nil _)))) (fun F_233 X l_234 => ?_)) ?_
          ·skip
           refine .idxQ rfl Try.underlying22 Try.sizeOf45 hq97 rfl rfl ?_
           exact .fin1 (Fz.le_refl _)
          refine .cons (.mk 89 (.pointer (some ⟨b89, o90 + 1, none⟩)) [(88, (.pointer (some ⟨b89, o90, none⟩)))] rfl rfl rfl rfl (fun S hS hd => (.cons (hd.1 rfl rfl _ _ rfl) (Sub.nil _))) (fun F_235 X l_236 => ?_)) ?_
          ·skip
           refine .fieldAddr rfl Try.underlying45 rfl Try.sizeOf3 rfl ?_
           exact .fin1 (Fz.le_refl _)
          refine .cons (.mk 90 (.int .i64 x88.Day) [(89, (.pointer (some ⟨b89, o90 + 1, none⟩)))] rfl rfl rfl rfl (fun S hS hd => (.cons (hd.1 rfl rfl _ _ rfl) (Sub.nil _))) (fun F_237 X l_238 => ?_)) ?_
          ·skip
           refine .loadF rfl Try.isAgg3 rfl (l_238.mem _ _ hm95) (cell_of_take (k := 1) hv96 rfl) ?_
           exact .fin1 (Fz.le_refl _)
          refine .cons (.mk 91 (.int .i64 day5) [(1, (.int .i64 day5))] rfl rfl rfl rfl (fun S hS hd => (.cons (hS _ _ rfl) (Sub.nil _))) (fun F_239 X l_240 => ?_)) ?_
          ·skip
           refine .move rfl rfl ?_
           exact .fin1 (Fz.le_refl _)
          refine .cons (.mk 92 (.bool (decide (x88.Day > day5))) [(90, (.int .i64 x88.Day)), (91, (.int .i64 day5))] rfl rfl rfl rfl (fun S hS hd => (.cons (hd.1 rfl rfl _ _ rfl) (.cons (hd.2.1 rfl rfl _ _ rfl) (Sub.nil _)))) (fun F_241 X l_242 => ?_)) ?_
          ·skip
           refine .gtr rfl rfl rfl ?_
           exact .fin1 (Fz.le_refl _)
          refine .cons (.mk 93 (.bool (decide (x88.Day > day5))) [(92, (.bool (decide (x88.Day > day5))))] rfl rfl rfl rfl (fun S hS hd => (.cons (hd.1 rfl rfl _ _ rfl) (Sub.nil _))) (fun F_243 X l_244 => ?_)) ?_
          ·skip
           refine .move rfl rfl ?_
           exact .fin1 (Fz.le_refl _)
          refine .cons (.mk 94 (.int .i64 s39.2.2) [(10, (.int .i64 s39.2.2)), (93, (.bool (decide (x88.Day > day5))))] rfl rfl rfl rfl (fun S hS hd => (.cons (hS _ _ rfl) (.cons (hd.1 rfl rfl _ _ rfl) (Sub.nil _)))) (fun F_245 X l_246 => ?_)) ?_
          ·skip
           refine .onH hb98 rfl rfl ?_
           refine .move rfl rfl ?_
           exact .fin1 (Fz.le_refl _)
          refine .cons (.mk 95 (.bool (decide (s39.2.2 > 0))) [(93, (.bool (decide (x88.Day > day5)))), (94, (.int .i64 s39.2.2))] rfl rfl rfl rfl (fun S hS hd => (.cons (hd.2.1 rfl rfl _ _ rfl) (.cons (hd.1 rfl rfl _ _ rfl) (Sub.nil _)))) (fun F_247 X l_248 => ?_)) ?_
          ·skip
           refine .onH hb98 rfl rfl ?_
           refine .gtr rfl rfl rfl ?_
           exact .fin1 (Fz.le_refl _)
          refine .cons (.mk 96 (.bool (decide (s39.2.2 > 0))) [(93, (.bool (decide (x88.Day > day5)))), (95, (.bool (decide (s39.2.2 > 0))))] rfl rfl rfl rfl (fun S hS hd => (.cons (hd.2.1 rfl rfl _ _ rfl) (.cons (hd.1 rfl rfl _ _ rfl) (Sub.nil _)))) (fun F_249 X l_250 => ?_)) ?_
          ·skip
           refine .onH hb98 rfl rfl ?_
           refine .move rfl rfl ?_
           exact .fin1 (Fz.le_refl _)
          refine .cons (.mk 97 undef [(0, (.slice p2 l_1.length k3)), (96, (.bool (decide (s39.2.2 > 0))))] rfl rfl rfl rfl (fun S hS hd => (.cons (hS _ _ rfl) (.cons (hd.1 rfl rfl _ _ rfl) (Sub.nil _)))) (fun F_251 X l_252 => ?_)) ?_
          ·skip
           refine .offH hb152 rfl rfl rfl ?_
           exact .fin1 (Fz.le_refl _)
          refine .cons (.mk 98 undef [(10, (.int .i64 s39.2.2)), (96, (.bool (decide (s39.2.2 > 0))))] rfl rfl rfl rfl (fun S hS hd => (.cons (hS _ _ rfl) (.cons (hd.1 rfl rfl _ _ rfl) (Sub.nil _)))) (fun F_253 X l_254 => ?_)) ?_
          ·skip
           refine .offH hb152 rfl rfl rfl ?_
           exact .fin1 (Fz.le_refl _)
          refine .cons (.mk 99 undef [(96, (.bool (decide (s39.2.2 > 0)))), (97, undef), (98, undef)] rfl rfl rfl rfl (fun S hS hd => (.cons (hd.2.2.1 rfl rfl _ _ rfl) (.cons (hd.1 rfl rfl _ _ rfl) (.cons (hd.2.1 rfl rfl _ _ rfl) (Sub.nil _))))) (fun F_255 X l_256 => ?_)) ?_
          ·skip
           refine .offH hb152 rfl rfl rfl ?_
           exact .fin1 (Fz.le_refl _)
          refine .cons (.mk 100 undef [(96, (.bool (decide (s39.2.2 > 0)))), (99, undef)] rfl rfl rfl rfl (fun S hS hd => (.cons (hd.2.1 rfl rfl _ _ rfl) (.cons (hd.1 rfl rfl _ _ rfl) (Sub.nil _)))) (fun F_257 X l_258 => ?_)) ?_
          ·skip
           refine .offH hb152 rfl rfl rfl ?_
           exact .fin1 (Fz.le_refl _)
          refine .cons (.mk 101 undef [(96, (.bool (decide (s39.2.2 > 0)))), (100, undef)] rfl rfl rfl rfl (fun S hS hd => (.cons (hd.2.1 rfl rfl _ _ rfl) (.cons (hd.1 rfl rfl _ _ rfl) (Sub.nil _)))) (fun F_259 X l_260 => ?_)) ?_
          ·skip
           refine .offH hb152 rfl rfl rfl ?_
           exact .fin1 (Fz.le_refl _)
          refine .cons (.mk 102 undef [(0, (.slice p2 l_1.length k3)), (96, (.bool (decide (s39.2.2 > 0))))] rfl rfl rfl rfl (fun S hS hd => (.cons (hS _ _ rfl) (.cons (hd.1 rfl rfl _ _ rfl) (Sub.nil _)))) (fun F_261 X l_262 => ?_)) ?_
          ·skip
           refine .offH hb152 rfl rfl rfl ?_
           exact .fin1 (Fz.le_refl _)
          refine .cons (.mk 103 undef [(10, (.int .i64 s39.2.2)), (96, (.bool (decide (s39.2.2 > 0))))] rfl rfl rfl rfl (fun S hS hd => (.cons (hS _ _ rfl) (.cons (hd.1 rfl rfl _ _ rfl) (Sub.nil _)))) (fun F_263 X l_264 => ?_)) ?_
          ·skip
           refine .offH hb152 rfl rfl rfl ?_
           exact .fin1 (Fz.le_refl _)
          refine .cons (.mk 104 undef [(96, (.bool (decide (s39.2.2 > 0)))), (103, undef)] rfl rfl rfl rfl (fun S hS hd => (.cons (hd.2.1 rfl rfl _ _ rfl) (.cons (hd.1 rfl rfl _ _ rfl) (Sub.nil _)))) (fun F_265 X l_266 => ?_)) ?_
          ·skip
           refine .offH hb152 rfl rfl rfl ?_
           exact .fin1 (Fz.le_refl _)
          refine .cons (.mk 105 undef [(96, (.bool (decide (s39.2.2 > 0)))), (102, undef), (104, undef)] rfl rfl rfl rfl (fun S hS hd => (.cons (hd.2.2.1 rfl rfl _ _ rfl) (.cons (hd.1 rfl rfl _ _ rfl) (.cons (hd.2.1 rfl rfl _ _ rfl) (Sub.nil _))))) (fun F_267 X l_268 => ?_)) ?_
          ·skip
           refine .offH hb152 rfl rfl rfl ?_
           exact .fin1 (Fz.le_refl _)
          refine .cons (.mk 106 undef [(96, (.bool (decide (s39.2.2 > 0)))), (105, undef)] rfl rfl rfl rfl (fun S hS hd => (.cons (hd.2.1 rfl rfl _ _ rfl) (.cons (hd.1 rfl rfl _ _ rfl) (Sub.nil _)))) (fun F_269 X l_270 => ?_)) ?_
          ·skip
           refine .offH hb152 rfl rfl rfl ?_
           exact .fin1 (Fz.le_refl _)
          refine .cons (.mk 107 undef [(96, (.bool (decide (s39.2.2 > 0)))), (106, undef)] rfl rfl rfl rfl (fun S hS hd => (.cons (hd.2.1 rfl rfl _ _ rfl) (.cons (hd.1 rfl rfl _ _ rfl) (Sub.nil _)))) (fun F_271 X l_272 => ?_)) ?_
          ·skip
           refine .offH hb152 rfl rfl rfl ?_
           exact .fin1 (Fz.le_refl _)
          refine .cons (.mk 108 undef [(96, (.bool (decide (s39.2.2 > 0)))), (101, undef), (107, undef)] rfl rfl rfl rfl (fun S hS hd => (.cons (hd.2.2.1 rfl rfl _ _ rfl) (.cons (hd.1 rfl rfl _ _ rfl) (.cons (hd.2.1 rfl rfl _ _ rfl) (Sub.nil _))))) (fun F_273 X l_274 => ?_)) ?_
          ·skip
           refine .offH hb152 rfl rfl rfl ?_
           exact .fin1 (Fz.le_refl _)
          refine .cons (.mk 109 (.bool false) [(93, (.bool (decide (x88.Day > day5)))), (96, (.bool (decide (s39.2.2 > 0)))), (108, undef)] rfl rfl rfl rfl (fun S hS hd => (.cons (hd.2.2.1 rfl rfl _ _ rfl) (.cons (hd.1 rfl rfl _ _ rfl) (.cons (hd.2.1 rfl rfl _ _ rfl) (Sub.nil _))))) (fun F_275 X l_276 => ?_)) ?_
          ·skip
           refine .onH hb98 rfl rfl ?_
           refine .pickFH hb152  rfl rfl rfl ?_
           exact .fin1 (Fz.le_refl _)
          refine .cons (.mk 110 (.bool false) [(93, (.bool (decide (x88.Day > day5)))), (109, (.bool false))] rfl rfl rfl rfl (fun S hS hd => (.cons (hd.1 rfl rfl _ _ rfl) (.cons (hd.2.1 rfl rfl _ _ rfl) (Sub.nil _)))) (fun F_277 X l_278 => ?_)) ?_
          ·skip
           refine .pickFH hb98  rfl rfl rfl ?_
           exact .fin1 (Fz.le_refl _)
          exact .nil
         refine .nil ?_
         exact .nil fun e a w h => by cases e; exact ⟨rfl, ⟨F_226, l_228, h.1.sub (.cons (k := 0) rfl (.cons (k := 1) rfl (.cons (k := 5) rfl (.cons (k := 6) rfl (.cons (k := 8) rfl (.cons (k := 9) rfl (.cons (k := 10) rfl (.cons (k := 110) rfl (.nil _))))))))), h.2⟩⟩
      refine .code ?_
      refine .cond rfl (fun hb282 => ?_) (fun hb282 => ?_)
      ·skip
       refine .seq ?_
       refine .region ?_
       refine .assign rfl rfl ?_
       refine .nil ?_
       refine .code ?_
       refine .retQ (LPost.ret fun a w h => ⟨rfl, F_280, (Fz.le_trans l_41 (Fz.le_trans l_87 l_281)), h.1.sub (.cons (k := 4) rfl (.nil _)), h.2⟩)
      ·skip
       refine .skip ?_
       refine .block ?_
       refine .code ?_
       refine .region ?_
       refine .move rfl rfl ?_
       refine .add rfl rfl rfl ?_
       refine .assignL rfl rfl (fun i283 e284 => ?_)
       refine .nil ?_
       exact .nil (LPost.norm fun a w h => ⟨F_280, (Fz.le_trans l_41 (Fz.le_trans l_87 l_281)), h.1.sub (.cons (k := 0) rfl (.cons (k := 1) rfl (.cons (k := 5) rfl (.cons (k := 6) rfl (.cons (k := 8) rfl (.cons (k := 9) rfl (.cons (k := 10) rfl (.nil _)))))))), h.2⟩)
     ·skip
      refine .exitOut rfl (LPost.exit fun a w h => ⟨rfl, F_40, l_41, h.1.sub (.cons (k := 1) rfl (.cons (k := 5) rfl (.cons (k := 8) rfl (.cons (k := 9) rfl (.nil _))))), h.2⟩)
    ·intro b285 hb0 hk e a w hD
     rcases b285 with b285 | b285
     ·skip
      obtain ⟨rfl, F_286, l_287, hA⟩ := hD
      refine interp_exit rfl (GE.app ?_ hk a w hA)
      refine .code ?_
      refine .seq ?_
      refine .seq ?_
      refine .region ?_
      refine .assign rfl rfl ?_
      refine .nil ?_
      refine .code ?_
      refine .block ?_
      refine .keep (.cons (k := 1) rfl (.cons (k := 5) rfl (.cons (k := 8) rfl (.cons (k := 9) rfl (.cons (k := 11) rfl (.nil _)))))) ?_
      refine .loop (fun (s290 : Int × Int) a w => ∃ (F_291 : Fz), F_286 ≤ F_291 ∧ Hd 219 [] [(1, (.int .i64 day5)), (5, (.slice p13 r_12.1.length k14)), (8, (.int .i64 s290.1)), (9, (.int .i64 b285.2)), (11, (.int .i64 s290.2))] F_291 [R] a w) (fun b0 e a w => match b0 with | .inl b991 => e = .exit 3 ∧ ∃ (F_992 : Fz), F_286 ≤ F_992 ∧ Hd 219 [] [(5, (.slice p13 r_12.1.length k14)), (8, (.int .i64 b991)), (9, (.int .i64 b285.2))] F_992 [R] a w | .inr b991 => e = .ret ∧ ∃ (F_994 : Fz), F_286 ≤ F_994 ∧ Hd 219 [] [(4, (.bool b991))] F_994 [R] a w) ?_ ?_ ?_
      ·exact fun a w h => ⟨F_286, (Fz.le_refl _), h.1.sub (.cons (k := 1) rfl (.cons (k := 5) rfl (.cons (k := 8) rfl (.cons (k := 9) rfl (.cons (k := 11) rfl (.nil _)))))), h.2⟩
      ·intro s290 ctl
       refine GC.ex (fun a w ⟨F_291, l_292, hA⟩ => ⟨_, hA, ?_⟩)
       unfold b_wormtublaw06_CaskConserves_2
       refine .seq ?_
       refine .seq ?_
       refine .region ?_
       refine .move rfl rfl ?_
       refine .move rfl rfl ?_
       refine .lenS rfl rfl Try.underlying25 rfl ?_
       refine .lss rfl rfl rfl ?_
       refine .nil ?_
       refine .code ?_
       refine .cond rfl (fun hb293 => ?_) (fun hb293 => ?_)
       ·skip
        refine .skip ?_
        refine .code ?_
        refine .seq ?_
        refine .block ?_
        refine .seq ?_
        refine .region ?_
        refine .move rfl rfl ?_
        refine .move rfl rfl ?_
        refine .idx rfl Try.underlying25 Try.sizeOf31 (h15.mono (Fz.le_trans l_37 (Fz.le_trans l_287 l_292))) rfl rfl (fun x294 b295 o296 T297 fr298 cs299 e300 hm301 hv302 => ?_)
        refine .loadFA rfl Try.isAgg31 Try.sizeOf31 rfl hm301 hv302 rfl ?_
        refine .alloc (cs := (cApiCask (ApiCask.mk 0 0 0 0 0 0 0 0 (fun _ => 0) (fun _ => 0)))) rfl Try.zeroValue31 rfl (fun b304 => ?_)
        refine .store (cs' := (cApiCask x294)) Try.sizeOf31 rfl rfl rfl rfl (i := 0) rfl (Nat.le_of_ble_eq_true rfl) rfl (setMany_all (by rfl)) ?_
        refine .nil ?_
        refine .code ?_
        refine .seq ?_
        refine .region ?_
        refine .move rfl rfl ?_
        refine .fieldAddr rfl Try.underlying31 rfl Try.sizeOf3 rfl ?_
        refine .loadO rfl Try.isAgg3 rfl (i := 0) rfl rfl ?_
        refine .sub rfl rfl rfl ?_
        refine .assignL rfl rfl (fun sum305 e306 => ?_)
        refine .nil ?_
        refine .code ?_
        refine .seq ?_
        refine .region ?_
        refine .assign rfl rfl ?_
        refine .assign rfl rfl ?_
        refine .nil ?_
        refine .code ?_
        refine .seq ?_
        refine .seq ?_
        refine .region ?_
        refine .assign rfl rfl ?_
        refine .nil ?_
        refine .code ?_
        refine .block ?_
        refine .keep (.cons (k := 1) rfl (.cons (k := 5) rfl (.cons (k := 8) rfl (.cons (k := 9) rfl (.cons (k := 11) rfl (.cons (k := 12) rfl (.cons (k := 13) rfl (.cons (k := 14) rfl (.cons (k := 15) rfl (.nil _)))))))))) ?_
        refine .loop (fun (s307 : Int × Int) a w => ∃ (F_308 : Fz), F_291 ≤ F_308 ∧ Hd 219 [] [(1, (.int .i64 day5)), (5, (.slice p13 r_12.1.length k14)), (8, (.int .i64 sum305)), (9, (.int .i64 b285.2)), (11, (.int .i64 s290.2)), (12, (.pointer (some ⟨b304, 0, none⟩))), (13, (.int .i64 s307.1)), (14, (.int .i64 0)), (15, (.int .i64 s307.2))] F_308 [pt b304 (.cells (cApiCask x294).toArray 31), R] a w) (fun b317 e a w => e = .exit 5 ∧ ∃ (F_318 : Fz), F_291 ≤ F_318 ∧ Hd 219 [] [(1, (.int .i64 day5)), (5, (.slice p13 r_12.1.length k14)), (8, (.int .i64 sum305)), (9, (.int .i64 b285.2)), (11, (.int .i64 s290.2)), (12, (.pointer (some ⟨b304, 0, none⟩))), (13, (.int .i64 b317)), (14, (.int .i64 0))] F_318 [pt b304 (.cells (cApiCask x294).toArray 31), R] a w) ?_ ?_ ?_
        ·exact fun a w h => ⟨F_291, (Fz.le_refl _), h.1.sub (.cons (k := 1) rfl (.cons (k := 5) rfl (.cons (k := 8) rfl (.cons (k := 9) rfl (.cons (k := 11) rfl (.cons (k := 12) rfl (.cons (k := 13) rfl (.cons (k := 14) rfl (.cons (k := 15) rfl (.nil _)))))))))), h.2⟩
        ·intro s307 ctl
         refine GC.ex (fun a w ⟨F_308, l_309, hA⟩ => ⟨_, hA, ?_⟩)
         unfold b_wormtublaw06_CaskConserves_3
         refine .seq ?_
         refine .seq ?_
         refine .region ?_
         refine .move rfl rfl ?_
         refine .lss rfl rfl rfl ?_
         refine .nil ?_
         refine .code ?_
         refine .cond rfl (fun hb310 => ?_) (fun hb310 => ?_)
         ·skip
          refine .skip ?_
          refine .code ?_
          refine .seq ?_
          refine .block ?_
          refine .region ?_
          refine .move rfl rfl ?_
          refine .move rfl rfl ?_
          refine .fieldAddr rfl Try.underlying31 rfl Try.sizeOf29 rfl ?_
          refine .bind (fun j311 hj312 => ?_)
          refine .indexAddrA rfl Try.underlying29 Try.sizeOf3 rfl rfl hj312 ?_
          refine .loadO rfl Try.isAgg3 rfl (i := 0) rfl (allLt8 (p := fun j311 => ((cApiCask x294))[0 + 8 + j311 * 1]? = some (.int .i64 (x294.Woods j311))) rfl rfl rfl rfl rfl rfl rfl rfl _ (idxO_some hj312).2.2.2) ?_
          refine .add rfl rfl rfl ?_
          refine .assignL rfl rfl (fun woods313 e314 => ?_)
          refine .nil ?_
          refine .block ?_
          refine .code ?_
          refine .region ?_
          refine .move rfl rfl ?_
          refine .add rfl rfl rfl ?_
          refine .assignL rfl rfl (fun k315 e316 => ?_)
          refine .nil ?_
          exact .nil (LPost.norm fun a w h => ⟨F_308, l_309, h.1.sub (.cons (k := 1) rfl (.cons (k := 5) rfl (.cons (k := 8) rfl (.cons (k := 9) rfl (.cons (k := 11) rfl (.cons (k := 12) rfl (.cons (k := 13) rfl (.cons (k := 14) rfl (.cons (k := 15) rfl (.nil _)))))))))), h.2⟩)
         ·skip
          refine .exitOut rfl (LPost.exit fun a w h => ⟨rfl, F_308, l_309, h.1.sub (.cons (k := 1) rfl (.cons (k := 5) rfl (.cons (k := 8) rfl (.cons (k := 9) rfl (.cons (k := 11) rfl (.cons (k := 12) rfl (.cons (k := 13) rfl (.cons (k := 14) rfl (.nil _))))))))), h.2⟩)
        ·intro b317 hb0 hk e a w hD
         obtain ⟨rfl, F_318, l_319, hA⟩ := hD
         refine interp_exit rfl (GE.app ?_ hk a w hA)
         refine .code ?_
         refine .seq ?_
         refine .seq ?_
         refine .region ?_
         refine .assign rfl rfl ?_
         refine .nil ?_
         refine .code ?_
         refine .block ?_
         refine .keep (.cons (k := 1) rfl (.cons (k := 5) rfl (.cons (k := 8) rfl (.cons (k := 9) rfl (.cons (k := 11) rfl (.cons (k := 12) rfl (.cons (k := 13) rfl (.cons (k := 14) rfl (.cons (k := 16) rfl (.nil _)))))))))) ?_
         refine .loop (fun (s320 : Int × Int) a w => ∃ (F_321 : Fz), F_318 ≤ F_321 ∧ Hd 219 [] [(1, (.int .i64 day5)), (5, (.slice p13 r_12.1.length k14)), (8, (.int .i64 sum305)), (9, (.int .i64 b285.2)), (11, (.int .i64 s290.2)), (12, (.pointer (some ⟨b304, 0, none⟩))), (13, (.int .i64 b317)), (14, (.int .i64 s320.1)), (16, (.int .i64 s320.2))] F_321 [pt b304 (.cells (cApiCask x294).toArray 31), R] a w) (fun b330 e a w => e = .exit 7 ∧ ∃ (F_331 : Fz), F_318 ≤ F_331 ∧ Hd 219 [] [(1, (.int .i64 day5)), (5, (.slice p13 r_12.1.length k14)), (8, (.int .i64 sum305)), (9, (.int .i64 b285.2)), (11, (.int .i64 s290.2)), (12, (.pointer (some ⟨b304, 0, none⟩))), (13, (.int .i64 b317)), (14, (.int .i64 b330))] F_331 [pt b304 (.cells (cApiCask x294).toArray 31), R] a w) ?_ ?_ ?_
         ·exact fun a w h => ⟨F_318, (Fz.le_refl _), h.1.sub (.cons (k := 1) rfl (.cons (k := 5) rfl (.cons (k := 8) rfl (.cons (k := 9) rfl (.cons (k := 11) rfl (.cons (k := 12) rfl (.cons (k := 13) rfl (.cons (k := 14) rfl (.cons (k := 16) rfl (.nil _)))))))))), h.2⟩
         ·intro s320 ctl
          refine GC.ex (fun a w ⟨F_321, l_322, hA⟩ => ⟨_, hA, ?_⟩)
          unfold b_wormtublaw06_CaskConserves_4
          refine .seq ?_
          refine .seq ?_
          refine .region ?_
          refine .move rfl rfl ?_
          refine .lss rfl rfl rfl ?_
          refine .nil ?_
          refine .code ?_
          refine .cond rfl (fun hb323 => ?_) (fun hb323 => ?_)
          ·skip
           refine .skip ?_
           refine .code ?_
           refine .seq ?_
           refine .block ?_
           refine .region ?_
           refine .move rfl rfl ?_
           refine .move rfl rfl ?_
           refine .fieldAddr rfl Try.underlying31 rfl Try.sizeOf29 rfl ?_
           refine .bind (fun j324 hj325 => ?_)
           refine .indexAddrA rfl Try.underlying29 Try.sizeOf3 rfl rfl hj325 ?_
           refine .loadO rfl Try.isAgg3 rfl (i := 0) rfl (allLt8 (p := fun j324 => ((cApiCask x294))[0 + 16 + j324 * 1]? = some (.int .i64 (x294.Places j324))) rfl rfl rfl rfl rfl rfl rfl rfl _ (idxO_some hj325).2.2.2) ?_
           refine .add rfl rfl rfl ?_
           refine .assignL rfl rfl (fun places326 e327 => ?_)
           refine .nil ?_
           refine .block ?_
           refine .code ?_
           refine .region ?_
           refine .move rfl rfl ?_
           refine .add rfl rfl rfl ?_
           refine .assignL rfl rfl (fun k328 e329 => ?_)
           refine .nil ?_
           exact .nil (LPost.norm fun a w h => ⟨F_321, l_322, h.1.sub (.cons (k := 1) rfl (.cons (k := 5) rfl (.cons (k := 8) rfl (.cons (k := 9) rfl (.cons (k := 11) rfl (.cons (k := 12) rfl (.cons (k := 13) rfl (.cons (k := 14) rfl (.cons (k := 16) rfl (.nil _)))))))))), h.2⟩)
          ·skip
           refine .exitOut rfl (LPost.exit fun a w h => ⟨rfl, F_321, l_322, h.1.sub (.cons (k := 1) rfl (.cons (k := 5) rfl (.cons (k := 8) rfl (.cons (k := 9) rfl (.cons (k := 11) rfl (.cons (k := 12) rfl (.cons (k := 13) rfl (.cons (k := 14) rfl (.nil _))))))))), h.2⟩)
         ·intro b330 hb0 hk e a w hD
          obtain ⟨rfl, F_331, l_332, hA⟩ := hD
          refine interp_exit rfl (GE.app ?_ hk a w hA)
          refine .code ?_
          refine .seq ?_
          refine .seq ?_
          refine .keep (.cons (k := 1) rfl (.cons (k := 5) rfl (.cons (k := 8) rfl (.cons (k := 9) rfl (.cons (k := 11) rfl (.cons (k := 12) rfl (.cons (k := 13) rfl (.cons (k := 14) rfl (.nil _))))))))) ?_
          refine GC.join0 (σ := Bool) (fun j972 a w => ∃ (F_973 : Fz), F_331 ≤ F_973 ∧ Hd 219 [] [(1, (.int .i64 day5)), (5, (.slice p13 r_12.1.length k14)), (8, (.int .i64 sum305)), (9, (.int .i64 b285.2)), (11, (.int .i64 s290.2)), (12, (.pointer (some ⟨b304, 0, none⟩))), (187, (.bool j972))] F_973 [pt b304 (.cells (cApiCask x294).toArray 31), R] a w) (fun sj => ?_) (fun j972 hs0 => GE.ex (fun a w ⟨F_973, l_974, hA⟩ => ⟨_, hA, ?_⟩))
          ·skip
           refine .ite (fun hb333 => ?_) (fun hb333 => ?_)
           ·skip
            refine .draw ⟨1000000, 0, [], 0⟩ [(145, (.pointer (some ⟨b304, 0 + 6, none⟩))), (146, (.int .i64 x294.Amount)), (147, (.bool (decide (x294.Amount < 0)))), (148, (.bool (decide (x294.Amount < 0)))), (149, undef), (150, undef), (151, undef), (152, undef), (153, undef), (154, (.bool true)), (155, (.bool true)), (156, undef), (157, undef), (158, undef), (159, undef), (160, (.bool true)), (161, (.bool true)), (162, undef), (163, undef), (164, undef), (165, undef), (166, (.bool true)), (167, (.bool true)), (168, undef), (169, undef), (170, undef), (171, undef), (172, (.bool true)), (173, (.bool true)), (174, undef), (175, undef), (176, undef), (177, undef), (178, undef), (179, undef), (180, undef), (181, undef), (182, undef), (183, undef), (184, undef), (185, undef), (186, undef), (187, (.bool true))] mixedOK (by kernel_rfl) (by kernel_rfl) rfl (by kernel_rfl) ?_ (fun F_334 b335 l_336 => ?_)
            ·skip
             refine .cons (.mk 145 (.pointer (some ⟨b304, 0 + 6, none⟩)) [(12, (.pointer (some ⟨b304, 0, none⟩)))] rfl rfl rfl rfl (fun S hS hd => (.cons (hS _ _ rfl) (Sub.nil _))) (fun F_337 X l_338 => ?_)) ?_
             ·skip
              refine .fieldAddr rfl Try.underlying31 rfl Try.sizeOf3 rfl ?_
              exact .fin1 (Fz.le_refl _)
             refine .cons (.mk 146 (.int .i64 x294.Amount) [(145, (.pointer (some ⟨b304, 0 + 6, none⟩)))] rfl rfl rfl rfl (fun S hS hd => (.cons (hd.1 rfl rfl _ _ rfl) (Sub.nil _))) (fun F_339 X l_340 => ?_)) ?_
             ·skip
              refine .loadO rfl Try.isAgg3 rfl (i := 0) rfl rfl ?_
              exact .fin1 (Fz.le_refl _)
             refine .cons (.mk 147 (.bool (decide (x294.Amount < 0))) [(146, (.int .i64 x294.Amount))] rfl rfl rfl rfl (fun S hS hd => (.cons (hd.1 rfl rfl _ _ rfl) (Sub.nil _))) (fun F_341 X l_342 => ?_)) ?_
             ·skip
              refine .lss rfl rfl rfl ?_
              exact .fin1 (Fz.le_refl _)
             refine .cons (.mk 148 (.bool (decide (x294.Amount < 0))) [(147, (.bool (decide (x294.Amount < 0))))] rfl rfl rfl rfl (fun S hS hd => (.cons (hd.1 rfl rfl _ _ rfl) (Sub.nil _))) (fun F_343 X l_344 => ?_)) ?_
             ·skip
              refine .move rfl rfl ?_
              exact .fin1 (Fz.le_refl _)
             refine .cons (.mk 149 undef [(12, (.pointer (some ⟨b304, 0, none⟩))), (148, (.bool (decide (x294.Amount < 0))))] rfl rfl rfl rfl (fun S hS hd => (.cons (hS _ _ rfl) (.cons (hd.1 rfl rfl _ _ rfl) (Sub.nil _)))) (fun F_345 X l_346 => ?_)) ?_
             ·skip
              refine .offH hb333 rfl rfl rfl ?_
              exact .fin1 (Fz.le_refl _)
             refine .cons (.mk 150 undef [(148, (.bool (decide (x294.Amount < 0)))), (149, undef)] rfl rfl rfl rfl (fun S hS hd => (.cons (hd.2.1 rfl rfl _ _ rfl) (.cons (hd.1 rfl rfl _ _ rfl) (Sub.nil _)))) (fun F_347 X l_348 => ?_)) ?_
             ·skip
              refine .offH hb333 rfl rfl rfl ?_
              exact .fin1 (Fz.le_refl _)
             refine .cons (.mk 151 undef [(12, (.pointer (some ⟨b304, 0, none⟩))), (148, (.bool (decide (x294.Amount < 0))))] rfl rfl rfl rfl (fun S hS hd => (.cons (hS _ _ rfl) (.cons (hd.1 rfl rfl _ _ rfl) (Sub.nil _)))) (fun F_349 X l_350 => ?_)) ?_
             ·skip
              refine .offH hb333 rfl rfl rfl ?_
              exact .fin1 (Fz.le_refl _)
             refine .cons (.mk 152 undef [(148, (.bool (decide (x294.Amount < 0)))), (151, undef)] rfl rfl rfl rfl (fun S hS hd => (.cons (hd.2.1 rfl rfl _ _ rfl) (.cons (hd.1 rfl rfl _ _ rfl) (Sub.nil _)))) (fun F_351 X l_352 => ?_)) ?_
             ·skip
              refine .offH hb333 rfl rfl rfl ?_
              exact .fin1 (Fz.le_refl _)
             refine .cons (.mk 153 undef [(148, (.bool (decide (x294.Amount < 0)))), (150, undef), (152, undef)] rfl rfl rfl rfl (fun S hS hd => (.cons (hd.2.2.1 rfl rfl _ _ rfl) (.cons (hd.1 rfl rfl _ _ rfl) (.cons (hd.2.1 rfl rfl _ _ rfl) (Sub.nil _))))) (fun F_353 X l_354 => ?_)) ?_
             ·skip
              refine .offH hb333 rfl rfl rfl ?_
              exact .fin1 (Fz.le_refl _)
             refine .cons (.mk 154 (.bool true) [(148, (.bool (decide (x294.Amount < 0)))), (153, undef)] rfl rfl rfl rfl (fun S hS hd => (.cons (hd.1 rfl rfl _ _ rfl) (.cons (hd.2.1 rfl rfl _ _ rfl) (Sub.nil _)))) (fun F_355 X l_356 => ?_)) ?_
             ·skip
              refine .pickTH hb333  rfl rfl rfl ?_
              exact .fin1 (Fz.le_refl _)
             refine .cons (.mk 155 (.bool true) [(154, (.bool true))] rfl rfl rfl rfl (fun S hS hd => (.cons (hd.1 rfl rfl _ _ rfl) (Sub.nil _))) (fun F_357 X l_358 => ?_)) ?_
             ·skip
              refine .move rfl rfl ?_
              exact .fin1 (Fz.le_refl _)
             refine .cons (.mk 156 undef [(12, (.pointer (some ⟨b304, 0, none⟩))), (155, (.bool true))] rfl rfl rfl rfl (fun S hS hd => (.cons (hS _ _ rfl) (.cons (hd.1 rfl rfl _ _ rfl) (Sub.nil _)))) (fun F_359 X l_360 => ?_)) ?_
             ·skip
              refine .off rfl rfl rfl rfl ?_
              exact .fin1 (Fz.le_refl _)
             refine .cons (.mk 157 undef [(155, (.bool true)), (156, undef)] rfl rfl rfl rfl (fun S hS hd => (.cons (hd.2.1 rfl rfl _ _ rfl) (.cons (hd.1 rfl rfl _ _ rfl) (Sub.nil _)))) (fun F_361 X l_362 => ?_)) ?_
             ·skip
              refine .off rfl rfl rfl rfl ?_
              exact .fin1 (Fz.le_refl _)
             refine .cons (.mk 158 undef [(13, (.int .i64 b317)), (155, (.bool true))] rfl rfl rfl rfl (fun S hS hd => (.cons (hS _ _ rfl) (.cons (hd.1 rfl rfl _ _ rfl) (Sub.nil _)))) (fun F_363 X l_364 => ?_)) ?_
             ·skip
              refine .off rfl rfl rfl rfl ?_
              exact .fin1 (Fz.le_refl _)
             refine .cons (.mk 159 undef [(155, (.bool true)), (157, undef), (158, undef)] rfl rfl rfl rfl (fun S hS hd => (.cons (hd.2.2.1 rfl rfl _ _ rfl) (.cons (hd.1 rfl rfl _ _ rfl) (.cons (hd.2.1 rfl rfl _ _ rfl) (Sub.nil _))))) (fun F_365 X l_366 => ?_)) ?_
             ·skip
              refine .off rfl rfl rfl rfl ?_
              exact .fin1 (Fz.le_refl _)
             refine .cons (.mk 160 (.bool true) [(155, (.bool true)), (159, undef)] rfl rfl rfl rfl (fun S hS hd => (.cons (hd.1 rfl rfl _ _ rfl) (.cons (hd.2.1 rfl rfl _ _ rfl) (Sub.nil _)))) (fun F_367 X l_368 => ?_)) ?_
             ·skip
              refine .pickT  rfl rfl rfl ?_
              exact .fin1 (Fz.le_refl _)
             refine .cons (.mk 161 (.bool true) [(160, (.bool true))] rfl rfl rfl rfl (fun S hS hd => (.cons (hd.1 rfl rfl _ _ rfl) (Sub.nil _))) (fun F_369 X l_370 => ?_)) ?_
             ·skip
              refine .move rfl rfl ?_
              exact .fin1 (Fz.le_refl _)
             refine .cons (.mk 162 undef [(12, (.pointer (some ⟨b304, 0, none⟩))), (161, (.bool true))] rfl rfl rfl rfl (fun S hS hd => (.cons (hS _ _ rfl) (.cons (hd.1 rfl rfl _ _ rfl) (Sub.nil _)))) (fun F_371 X l_372 => ?_)) ?_
             ·skip
              refine .off rfl rfl rfl rfl ?_
              exact .fin1 (Fz.le_refl _)
             refine .cons (.mk 163 undef [(161, (.bool true)), (162, undef)] rfl rfl rfl rfl (fun S hS hd => (.cons (hd.2.1 rfl rfl _ _ rfl) (.cons (hd.1 rfl rfl _ _ rfl) (Sub.nil _)))) (fun F_373 X l_374 => ?_)) ?_
             ·skip
              refine .off rfl rfl rfl rfl ?_
              exact .fin1 (Fz.le_refl _)
             refine .cons (.mk 164 undef [(14, (.int .i64 b330)), (161, (.bool true))] rfl rfl rfl rfl (fun S hS hd => (.cons (hS _ _ rfl) (.cons (hd.1 rfl rfl _ _ rfl) (Sub.nil _)))) (fun F_375 X l_376 => ?_)) ?_
             ·skip
              refine .off rfl rfl rfl rfl ?_
              exact .fin1 (Fz.le_refl _)
             refine .cons (.mk 165 undef [(161, (.bool true)), (163, undef), (164, undef)] rfl rfl rfl rfl (fun S hS hd => (.cons (hd.2.2.1 rfl rfl _ _ rfl) (.cons (hd.1 rfl rfl _ _ rfl) (.cons (hd.2.1 rfl rfl _ _ rfl) (Sub.nil _))))) (fun F_377 X l_378 => ?_)) ?_
             ·skip
              refine .off rfl rfl rfl rfl ?_
              exact .fin1 (Fz.le_refl _)
             refine .cons (.mk 166 (.bool true) [(161, (.bool true)), (165, undef)] rfl rfl rfl rfl (fun S hS hd => (.cons (hd.1 rfl rfl _ _ rfl) (.cons (hd.2.1 rfl rfl _ _ rfl) (Sub.nil _)))) (fun F_379 X l_380 => ?_)) ?_
             ·skip
              refine .pickT  rfl rfl rfl ?_
              exact .fin1 (Fz.le_refl _)
             refine .cons (.mk 167 (.bool true) [(166, (.bool true))] rfl rfl rfl rfl (fun S hS hd => (.cons (hd.1 rfl rfl _ _ rfl) (Sub.nil _))) (fun F_381 X l_382 => ?_)) ?_
             ·skip
              refine .move rfl rfl ?_
              exact .fin1 (Fz.le_refl _)
             refine .cons (.mk 168 undef [(12, (.pointer (some ⟨b304, 0, none⟩))), (167, (.bool true))] rfl rfl rfl rfl (fun S hS hd => (.cons (hS _ _ rfl) (.cons (hd.1 rfl rfl _ _ rfl) (Sub.nil _)))) (fun F_383 X l_384 => ?_)) ?_
             ·skip
              refine .off rfl rfl rfl rfl ?_
              exact .fin1 (Fz.le_refl _)
             refine .cons (.mk 169 undef [(167, (.bool true)), (168, undef)] rfl rfl rfl rfl (fun S hS hd => (.cons (hd.2.1 rfl rfl _ _ rfl) (.cons (hd.1 rfl rfl _ _ rfl) (Sub.nil _)))) (fun F_385 X l_386 => ?_)) ?_
             ·skip
              refine .off rfl rfl rfl rfl ?_
              exact .fin1 (Fz.le_refl _)
             refine .cons (.mk 170 undef [(1, (.int .i64 day5)), (167, (.bool true))] rfl rfl rfl rfl (fun S hS hd => (.cons (hS _ _ rfl) (.cons (hd.1 rfl rfl _ _ rfl) (Sub.nil _)))) (fun F_387 X l_388 => ?_)) ?_
             ·skip
              refine .off rfl rfl rfl rfl ?_
              exact .fin1 (Fz.le_refl _)
             refine .cons (.mk 171 undef [(167, (.bool true)), (169, undef), (170, undef)] rfl rfl rfl rfl (fun S hS hd => (.cons (hd.2.2.1 rfl rfl _ _ rfl) (.cons (hd.1 rfl rfl _ _ rfl) (.cons (hd.2.1 rfl rfl _ _ rfl) (Sub.nil _))))) (fun F_389 X l_390 => ?_)) ?_
             ·skip
              refine .off rfl rfl rfl rfl ?_
              exact .fin1 (Fz.le_refl _)
             refine .cons (.mk 172 (.bool true) [(167, (.bool true)), (171, undef)] rfl rfl rfl rfl (fun S hS hd => (.cons (hd.1 rfl rfl _ _ rfl) (.cons (hd.2.1 rfl rfl _ _ rfl) (Sub.nil _)))) (fun F_391 X l_392 => ?_)) ?_
             ·skip
              refine .pickT  rfl rfl rfl ?_
              exact .fin1 (Fz.le_refl _)
             refine .cons (.mk 173 (.bool true) [(172, (.bool true))] rfl rfl rfl rfl (fun S hS hd => (.cons (hd.1 rfl rfl _ _ rfl) (Sub.nil _))) (fun F_393 X l_394 => ?_)) ?_
             ·skip
              refine .move rfl rfl ?_
              exact .fin1 (Fz.le_refl _)
             refine .cons (.mk 174 undef [(11, (.int .i64 s290.2)), (173, (.bool true))] rfl rfl rfl rfl (fun S hS hd => (.cons (hS _ _ rfl) (.cons (hd.1 rfl rfl _ _ rfl) (Sub.nil _)))) (fun F_395 X l_396 => ?_)) ?_
             ·skip
              refine .off rfl rfl rfl rfl ?_
              exact .fin1 (Fz.le_refl _)
             refine .cons (.mk 175 undef [(173, (.bool true)), (174, undef)] rfl rfl rfl rfl (fun S hS hd => (.cons (hd.2.1 rfl rfl _ _ rfl) (.cons (hd.1 rfl rfl _ _ rfl) (Sub.nil _)))) (fun F_397 X l_398 => ?_)) ?_
             ·skip
              refine .off rfl rfl rfl rfl ?_
              exact .fin1 (Fz.le_refl _)
             refine .cons (.mk 176 undef [(173, (.bool true)), (175, undef)] rfl rfl rfl rfl (fun S hS hd => (.cons (hd.2.1 rfl rfl _ _ rfl) (.cons (hd.1 rfl rfl _ _ rfl) (Sub.nil _)))) (fun F_399 X l_400 => ?_)) ?_
             ·skip
              refine .off rfl rfl rfl rfl ?_
              exact .fin1 (Fz.le_refl _)
             refine .cons (.mk 177 undef [(12, (.pointer (some ⟨b304, 0, none⟩))), (176, undef)] rfl rfl rfl rfl (fun S hS hd => (.cons (hS _ _ rfl) (.cons (hd.1 rfl rfl _ _ rfl) (Sub.nil _)))) (fun F_401 X l_402 => ?_)) ?_
             ·skip
              refine .off rfl rfl rfl rfl ?_
              exact .fin1 (Fz.le_refl _)
             refine .cons (.mk 178 undef [(176, undef), (177, undef)] rfl rfl rfl rfl (fun S hS hd => (.cons (hd.2.1 rfl rfl _ _ rfl) (.cons (hd.1 rfl rfl _ _ rfl) (Sub.nil _)))) (fun F_403 X l_404 => ?_)) ?_
             ·skip
              refine .off rfl rfl rfl rfl ?_
              exact .fin1 (Fz.le_refl _)
             refine .cons (.mk 179 undef [(5, (.slice p13 r_12.1.length k14)), (176, undef)] rfl rfl rfl rfl (fun S hS hd => (.cons (hS _ _ rfl) (.cons (hd.1 rfl rfl _ _ rfl) (Sub.nil _)))) (fun F_405 X l_406 => ?_)) ?_
             ·skip
              refine .off rfl rfl rfl rfl ?_
              exact .fin1 (Fz.le_refl _)
             refine .cons (.mk 180 undef [(11, (.int .i64 s290.2)), (176, undef)] rfl rfl rfl rfl (fun S hS hd => (.cons (hS _ _ rfl) (.cons (hd.1 rfl rfl _ _ rfl) (Sub.nil _)))) (fun F_407 X l_408 => ?_)) ?_
             ·skip
              refine .off rfl rfl rfl rfl ?_
              exact .fin1 (Fz.le_refl _)
             refine .cons (.mk 181 undef [(176, undef), (180, undef)] rfl rfl rfl rfl (fun S hS hd => (.cons (hd.2.1 rfl rfl _ _ rfl) (.cons (hd.1 rfl rfl _ _ rfl) (Sub.nil _)))) (fun F_409 X l_410 => ?_)) ?_
             ·skip
              refine .off rfl rfl rfl rfl ?_
              exact .fin1 (Fz.le_refl _)
             refine .cons (.mk 182 undef [(176, undef), (179, undef), (181, undef)] rfl rfl rfl rfl (fun S hS hd => (.cons (hd.2.2.1 rfl rfl _ _ rfl) (.cons (hd.1 rfl rfl _ _ rfl) (.cons (hd.2.1 rfl rfl _ _ rfl) (Sub.nil _))))) (fun F_411 X l_412 => ?_)) ?_
             ·skip
              refine .off rfl rfl rfl rfl ?_
              exact .fin1 (Fz.le_refl _)
             refine .cons (.mk 183 undef [(176, undef), (182, undef)] rfl rfl rfl rfl (fun S hS hd => (.cons (hd.2.1 rfl rfl _ _ rfl) (.cons (hd.1 rfl rfl _ _ rfl) (Sub.nil _)))) (fun F_413 X l_414 => ?_)) ?_
             ·skip
              refine .off rfl rfl rfl rfl ?_
              exact .fin1 (Fz.le_refl _)
             refine .cons (.mk 184 undef [(176, undef), (183, undef)] rfl rfl rfl rfl (fun S hS hd => (.cons (hd.2.1 rfl rfl _ _ rfl) (.cons (hd.1 rfl rfl _ _ rfl) (Sub.nil _)))) (fun F_415 X l_416 => ?_)) ?_
             ·skip
              refine .off rfl rfl rfl rfl ?_
              exact .fin1 (Fz.le_refl _)
             refine .cons (.mk 185 undef [(176, undef), (178, undef), (184, undef)] rfl rfl rfl rfl (fun S hS hd => (.cons (hd.2.2.1 rfl rfl _ _ rfl) (.cons (hd.1 rfl rfl _ _ rfl) (.cons (hd.2.1 rfl rfl _ _ rfl) (Sub.nil _))))) (fun F_417 X l_418 => ?_)) ?_
             ·skip
              refine .off rfl rfl rfl rfl ?_
              exact .fin1 (Fz.le_refl _)
             refine .cons (.mk 186 undef [(173, (.bool true)), (176, undef), (185, undef)] rfl rfl rfl rfl (fun S hS hd => (.cons (hd.2.2.1 rfl rfl _ _ rfl) (.cons (hd.1 rfl rfl _ _ rfl) (.cons (hd.2.1 rfl rfl _ _ rfl) (Sub.nil _))))) (fun F_419 X l_420 => ?_)) ?_
             ·skip
              refine .off rfl rfl rfl rfl ?_
              exact .fin1 (Fz.le_refl _)
             refine .cons (.mk 187 (.bool true) [(173, (.bool true)), (186, undef)] rfl rfl rfl rfl (fun S hS hd => (.cons (hd.1 rfl rfl _ _ rfl) (.cons (hd.2.1 rfl rfl _ _ rfl) (Sub.nil _)))) (fun F_421 X l_422 => ?_)) ?_
             ·skip
              refine .pickT  rfl rfl rfl ?_
              exact .fin1 (Fz.le_refl _)
             exact .nil
            refine .nil ?_
            exact .nil fun e a w h => by cases e; exact ⟨rfl, ⟨F_334, l_336, h.1.sub (.cons (k := 1) rfl (.cons (k := 5) rfl (.cons (k := 8) rfl (.cons (k := 9) rfl (.cons (k := 11) rfl (.cons (k := 12) rfl (.cons (k := 187) rfl (.nil _)))))))), h.2⟩⟩
           ·skip
            refine .ite (fun hb423 => ?_) (fun hb423 => ?_)
            ·skip
             refine .draw ⟨1000000, 0, [], 0⟩ [(145, (.pointer (some ⟨b304, 0 + 6, none⟩))), (146, (.int .i64 x294.Amount)), (147, (.bool (decide (x294.Amount < 0)))), (148, (.bool (decide (x294.Amount < 0)))), (149, (.pointer (some ⟨b304, 0 + 6, none⟩))), (150, (.int .i64 x294.Amount)), (151, (.pointer (some ⟨b304, 0 + 3, none⟩))), (152, (.int .i64 x294.Room)), (153, (.bool (decide (x294.Amount > x294.Room)))), (154, (.bool (decide (x294.Amount > x294.Room)))), (155, (.bool (decide (x294.Amount > x294.Room)))), (156, undef), (157, undef), (158, undef), (159, undef), (160, (.bool true)), (161, (.bool true)), (162, undef), (163, undef), (164, undef), (165, undef), (166, (.bool true)), (167, (.bool true)), (168, undef), (169, undef), (170, undef), (171, undef), (172, (.bool true)), (173, (.bool true)), (174, undef), (175, undef), (176, undef), (177, undef), (178, undef), (179, undef), (180, undef), (181, undef), (182, undef), (183, undef), (184, undef), (185, undef), (186, undef), (187, (.bool true))] mixedOK (by kernel_rfl) (by kernel_rfl) rfl (by kernel_rfl) ?_ (fun F_424 b425 l_426 => ?_)
             ·skip
              refine .cons (.mk 145 (.pointer (some ⟨b304, 0 + 6, none⟩)) [(12, (.pointer (some ⟨b304, 0, none⟩)))] rfl rfl rfl rfl (fun S hS hd => (.cons (hS _ _ rfl) (Sub.nil _))) (fun F_427 X l_428 => ?_)) ?_
              ·skip
               refine .fieldAddr rfl Try.underlying31 rfl Try.sizeOf3 rfl ?_
               exact .fin1 (Fz.le_refl _)
              refine .cons (.mk 146 (.int .i64 x294.Amount) [(145, (.pointer (some ⟨b304, 0 + 6, none⟩)))] rfl rfl rfl rfl (fun S hS hd => (.cons (hd.1 rfl rfl _ _ rfl) (Sub.nil _))) (fun F_429 X l_430 => ?_)) ?_
              ·skip
               refine .loadO rfl Try.isAgg3 rfl (i := 0) rfl rfl ?_
               exact .fin1 (Fz.le_refl _)
              refine .cons (.mk 147 (.bool (decide (x294.Amount < 0))) [(146, (.int .i64 x294.Amount))] rfl rfl rfl rfl (fun S hS hd => (.cons (hd.1 rfl rfl _ _ rfl) (Sub.nil _))) (fun F_431 X l_432 => ?_)) ?_
              ·skip
               refine .lss rfl rfl rfl ?_
               exact .fin1 (Fz.le_refl _)
              refine .cons (.mk 148 (.bool (decide (x294.Amount < 0))) [(147, (.bool (decide (x294.Amount < 0))))] rfl rfl rfl rfl (fun S hS hd => (.cons (hd.1 rfl rfl _ _ rfl) (Sub.nil _))) (fun F_433 X l_434 => ?_)) ?_
              ·skip
               refine .move rfl rfl ?_
               exact .fin1 (Fz.le_refl _)
              refine .cons (.mk 149 (.pointer (some ⟨b304, 0 + 6, none⟩)) [(12, (.pointer (some ⟨b304, 0, none⟩))), (148, (.bool (decide (x294.Amount < 0))))] rfl rfl rfl rfl (fun S hS hd => (.cons (hS _ _ rfl) (.cons (hd.1 rfl rfl _ _ rfl) (Sub.nil _)))) (fun F_435 X l_436 => ?_)) ?_
              ·skip
               refine .onH hb333 rfl rfl ?_
               refine .fieldAddr rfl Try.underlying31 rfl Try.sizeOf3 rfl ?_
               exact .fin1 (Fz.le_refl _)
              refine .cons (.mk 150 (.int .i64 x294.Amount) [(148, (.bool (decide (x294.Amount < 0)))), (149, (.pointer (some ⟨b304, 0 + 6, none⟩)))] rfl rfl rfl rfl (fun S hS hd => (.cons (hd.2.1 rfl rfl _ _ rfl) (.cons (hd.1 rfl rfl _ _ rfl) (Sub.nil _)))) (fun F_437 X l_438 => ?_)) ?_
              ·skip
               refine .onH hb333 rfl rfl ?_
               refine .loadO rfl Try.isAgg3 rfl (i := 0) rfl rfl ?_
               exact .fin1 (Fz.le_refl _)
              refine .cons (.mk 151 (.pointer (some ⟨b304, 0 + 3, none⟩)) [(12, (.pointer (some ⟨b304, 0, none⟩))), (148, (.bool (decide (x294.Amount < 0))))] rfl rfl rfl rfl (fun S hS hd => (.cons (hS _ _ rfl) (.cons (hd.1 rfl rfl _ _ rfl) (Sub.nil _)))) (fun F_439 X l_440 => ?_)) ?_
              ·skip
               refine .onH hb333 rfl rfl ?_
               refine .fieldAddr rfl Try.underlying31 rfl Try.sizeOf3 rfl ?_
               exact .fin1 (Fz.le_refl _)
              refine .cons (.mk 152 (.int .i64 x294.Room) [(148, (.bool (decide (x294.Amount < 0)))), (151, (.pointer (some ⟨b304, 0 + 3, none⟩)))] rfl rfl rfl rfl (fun S hS hd => (.cons (hd.2.1 rfl rfl _ _ rfl) (.cons (hd.1 rfl rfl _ _ rfl) (Sub.nil _)))) (fun F_441 X l_442 => ?_)) ?_
              ·skip
               refine .onH hb333 rfl rfl ?_
               refine .loadO rfl Try.isAgg3 rfl (i := 0) rfl rfl ?_
               exact .fin1 (Fz.le_refl _)
              refine .cons (.mk 153 (.bool (decide (x294.Amount > x294.Room))) [(148, (.bool (decide (x294.Amount < 0)))), (150, (.int .i64 x294.Amount)), (152, (.int .i64 x294.Room))] rfl rfl rfl rfl (fun S hS hd => (.cons (hd.2.2.1 rfl rfl _ _ rfl) (.cons (hd.1 rfl rfl _ _ rfl) (.cons (hd.2.1 rfl rfl _ _ rfl) (Sub.nil _))))) (fun F_443 X l_444 => ?_)) ?_
              ·skip
               refine .onH hb333 rfl rfl ?_
               refine .gtr rfl rfl rfl ?_
               exact .fin1 (Fz.le_refl _)
              refine .cons (.mk 154 (.bool (decide (x294.Amount > x294.Room))) [(148, (.bool (decide (x294.Amount < 0)))), (153, (.bool (decide (x294.Amount > x294.Room))))] rfl rfl rfl rfl (fun S hS hd => (.cons (hd.1 rfl rfl _ _ rfl) (.cons (hd.2.1 rfl rfl _ _ rfl) (Sub.nil _)))) (fun F_445 X l_446 => ?_)) ?_
              ·skip
               refine .pickFH hb333  rfl rfl rfl ?_
               exact .fin1 (Fz.le_refl _)
              refine .cons (.mk 155 (.bool (decide (x294.Amount > x294.Room))) [(154, (.bool (decide (x294.Amount > x294.Room))))] rfl rfl rfl rfl (fun S hS hd => (.cons (hd.1 rfl rfl _ _ rfl) (Sub.nil _))) (fun F_447 X l_448 => ?_)) ?_
              ·skip
               refine .move rfl rfl ?_
               exact .fin1 (Fz.le_refl _)
              refine .cons (.mk 156 undef [(12, (.pointer (some ⟨b304, 0, none⟩))), (155, (.bool (decide (x294.Amount > x294.Room))))] rfl rfl rfl rfl (fun S hS hd => (.cons (hS _ _ rfl) (.cons (hd.1 rfl rfl _ _ rfl) (Sub.nil _)))) (fun F_449 X l_450 => ?_)) ?_
              ·skip
               refine .offH hb423 rfl rfl rfl ?_
               exact .fin1 (Fz.le_refl _)
              refine .cons (.mk 157 undef [(155, (.bool (decide (x294.Amount > x294.Room)))), (156, undef)] rfl rfl rfl rfl (fun S hS hd => (.cons (hd.2.1 rfl rfl _ _ rfl) (.cons (hd.1 rfl rfl _ _ rfl) (Sub.nil _)))) (fun F_451 X l_452 => ?_)) ?_
              ·skip
               refine .offH hb423 rfl rfl rfl ?_
               exact .fin1 (Fz.le_refl _)
              refine .cons (.mk 158 undef [(13, (.int .i64 b317)), (155, (.bool (decide (x294.Amount > x294.Room))))] rfl rfl rfl rfl (fun S hS hd => (.cons (hS _ _ rfl) (.cons (hd.1 rfl rfl _ _ rfl) (Sub.nil _)))) (fun F_453 X l_454 => ?_)) ?_
              ·skip
               refine .offH hb423 rfl rfl rfl ?_
               exact .fin1 (Fz.le_refl _)
              refine .cons (.mk 159 undef [(155, (.bool (decide (x294.Amount > x294.Room)))), (157, undef), (158, undef)] rfl rfl rfl rfl (fun S hS hd => (.cons (hd.2.2.1 rfl rfl _ _ rfl) (.cons (hd.1 rfl rfl _ _ rfl) (.cons (hd.2.1 rfl rfl _ _ rfl) (Sub.nil _))))) (fun F_455 X l_456 => ?_)) ?_
              ·skip
               refine .offH hb423 rfl rfl rfl ?_
               exact .fin1 (Fz.le_refl _)
              refine .cons (.mk 160 (.bool true) [(155, (.bool (decide (x294.Amount > x294.Room)))), (159, undef)] rfl rfl rfl rfl (fun S hS hd => (.cons (hd.1 rfl rfl _ _ rfl) (.cons (hd.2.1 rfl rfl _ _ rfl) (Sub.nil _)))) (fun F_457 X l_458 => ?_)) ?_
              ·skip
               refine .pickTH hb423  rfl rfl rfl ?_
               exact .fin1 (Fz.le_refl _)
              refine .cons (.mk 161 (.bool true) [(160, (.bool true))] rfl rfl rfl rfl (fun S hS hd => (.cons (hd.1 rfl rfl _ _ rfl) (Sub.nil _))) (fun F_459 X l_460 => ?_)) ?_
              ·skip
               refine .move rfl rfl ?_
               exact .fin1 (Fz.le_refl _)
              refine .cons (.mk 162 undef [(12, (.pointer (some ⟨b304, 0, none⟩))), (161, (.bool true))] rfl rfl rfl rfl (fun S hS hd => (.cons (hS _ _ rfl) (.cons (hd.1 rfl rfl _ _ rfl) (Sub.nil _)))) (fun F_461 X l_462 => ?_)) ?_
              ·skip
               refine .off rfl rfl rfl rfl ?_
               exact .fin1 (Fz.le_refl _)
              refine .cons (.mk 163 undef [(161, (.bool true)), (162, undef)] rfl rfl rfl rfl (fun S hS hd => (.cons (hd.2.1 rfl rfl _ _ rfl) (.cons (hd.1 rfl rfl _ _ rfl) (Sub.nil _)))) (fun F_463 X l_464 => ?_)) ?_
              ·skip
               refine .off rfl rfl rfl rfl ?_
               exact .fin1 (Fz.le_refl _)
              refine .cons (.mk 164 undef [(14, (.int .i64 b330)), (161, (.bool true))] rfl rfl rfl rfl (fun S hS hd => (.cons (hS _ _ rfl) (.cons (hd.1 rfl rfl _ _ rfl) (Sub.nil _)))) (fun F_465 X l_466 => ?_)) ?_
              ·skip
               refine .off rfl rfl rfl rfl ?_
               exact .fin1 (Fz.le_refl _)
              refine .cons (.mk 165 undef [(161, (.bool true)), (163, undef), (164, undef)] rfl rfl rfl rfl (fun S hS hd => (.cons (hd.2.2.1 rfl rfl _ _ rfl) (.cons (hd.1 rfl rfl _ _ rfl) (.cons (hd.2.1 rfl rfl _ _ rfl) (Sub.nil _))))) (fun F_467 X l_468 => ?_)) ?_
              ·skip
               refine .off rfl rfl rfl rfl ?_
               exact .fin1 (Fz.le_refl _)
              refine .cons (.mk 166 (.bool true) [(161, (.bool true)), (165, undef)] rfl rfl rfl rfl (fun S hS hd => (.cons (hd.1 rfl rfl _ _ rfl) (.cons (hd.2.1 rfl rfl _ _ rfl) (Sub.nil _)))) (fun F_469 X l_470 => ?_)) ?_
              ·skip
               refine .pickT  rfl rfl rfl ?_
               exact .fin1 (Fz.le_refl _)
              refine .cons (.mk 167 (.bool true) [(166, (.bool true))] rfl rfl rfl rfl (fun S hS hd => (.cons (hd.1 rfl rfl _ _ rfl) (Sub.nil _))) (fun F_471 X l_472 => ?_)) ?_
              ·skip
               refine .move rfl rfl ?_
               exact .fin1 (Fz.le_refl _)
              refine .cons (.mk 168 undef [(12, (.pointer (some ⟨b304, 0, none⟩))), (167, (.bool true))] rfl rfl rfl rfl (fun S hS hd => (.cons (hS _ _ rfl) (.cons (hd.1 rfl rfl _ _ rfl) (Sub.nil _)))) (fun F_473 X l_474 => ?_)) ?_
              ·skip
               refine .off rfl rfl rfl rfl ?_
               exact .fin1 (Fz.le_refl _)
              refine .cons (.mk 169 undef [(167, (.bool true)), (168, undef)] rfl rfl rfl rfl (fun S hS hd => (.cons (hd.2.1 rfl rfl _ _ rfl) (.cons (hd.1 rfl rfl _ _ rfl) (Sub.nil _)))) (fun F_475 X l_476 => ?_)) ?_
              ·skip
               refine .off rfl rfl rfl rfl ?_
               exact .fin1 (Fz.le_refl _)
              refine .cons (.mk 170 undef [(1, (.int .i64 day5)), (167, (.bool true))] rfl rfl rfl rfl (fun S hS hd => (.cons (hS _ _ rfl) (.cons (hd.1 rfl rfl _ _ rfl) (Sub.nil _)))) (fun F_477 X l_478 => ?_)) ?_
              ·skip
               refine .off rfl rfl rfl rfl ?_
               exact .fin1 (Fz.le_refl _)
              refine .cons (.mk 171 undef [(167, (.bool true)), (169, undef), (170, undef)] rfl rfl rfl rfl (fun S hS hd => (.cons (hd.2.2.1 rfl rfl _ _ rfl) (.cons (hd.1 rfl rfl _ _ rfl) (.cons (hd.2.1 rfl rfl _ _ rfl) (Sub.nil _))))) (fun F_479 X l_480 => ?_)) ?_
              ·skip
               refine .off rfl rfl rfl rfl ?_
               exact .fin1 (Fz.le_refl _)
              refine .cons (.mk 172 (.bool true) [(167, (.bool true)), (171, undef)] rfl rfl rfl rfl (fun S hS hd => (.cons (hd.1 rfl rfl _ _ rfl) (.cons (hd.2.1 rfl rfl _ _ rfl) (Sub.nil _)))) (fun F_481 X l_482 => ?_)) ?_
              ·skip
               refine .pickT  rfl rfl rfl ?_
               exact .fin1 (Fz.le_refl _)
              refine .cons (.mk 173 (.bool true) [(172, (.bool true))] rfl rfl rfl rfl (fun S hS hd => (.cons (hd.1 rfl rfl _ _ rfl) (Sub.nil _))) (fun F_483 X l_484 => ?_)) ?_
              ·skip
               refine .move rfl rfl ?_
               exact .fin1 (Fz.le_refl _)
              refine .cons (.mk 174 undef [(11, (.int .i64 s290.2)), (173, (.bool true))] rfl rfl rfl rfl (fun S hS hd => (.cons (hS _ _ rfl) (.cons (hd.1 rfl rfl _ _ rfl) (Sub.nil _)))) (fun F_485 X l_486 => ?_)) ?_
              ·skip
               refine .off rfl rfl rfl rfl ?_
               exact .fin1 (Fz.le_refl _)
              refine .cons (.mk 175 undef [(173, (.bool true)), (174, undef)] rfl rfl rfl rfl (fun S hS hd => (.cons (hd.2.1 rfl rfl _ _ rfl) (.cons (hd.1 rfl rfl _ _ rfl) (Sub.nil _)))) (fun F_487 X l_488 => ?_)) ?_
              ·skip
               refine .off rfl rfl rfl rfl ?_
               exact .fin1 (Fz.le_refl _)
              refine .cons (.mk 176 undef [(173, (.bool true)), (175, undef)] rfl rfl rfl rfl (fun S hS hd => (.cons (hd.2.1 rfl rfl _ _ rfl) (.cons (hd.1 rfl rfl _ _ rfl) (Sub.nil _)))) (fun F_489 X l_490 => ?_)) ?_
              ·skip
               refine .off rfl rfl rfl rfl ?_
               exact .fin1 (Fz.le_refl _)
              refine .cons (.mk 177 undef [(12, (.pointer (some ⟨b304, 0, none⟩))), (176, undef)] rfl rfl rfl rfl (fun S hS hd => (.cons (hS _ _ rfl) (.cons (hd.1 rfl rfl _ _ rfl) (Sub.nil _)))) (fun F_491 X l_492 => ?_)) ?_
              ·skip
               refine .off rfl rfl rfl rfl ?_
               exact .fin1 (Fz.le_refl _)
              refine .cons (.mk 178 undef [(176, undef), (177, undef)] rfl rfl rfl rfl (fun S hS hd => (.cons (hd.2.1 rfl rfl _ _ rfl) (.cons (hd.1 rfl rfl _ _ rfl) (Sub.nil _)))) (fun F_493 X l_494 => ?_)) ?_
              ·skip
               refine .off rfl rfl rfl rfl ?_
               exact .fin1 (Fz.le_refl _)
              refine .cons (.mk 179 undef [(5, (.slice p13 r_12.1.length k14)), (176, undef)] rfl rfl rfl rfl (fun S hS hd => (.cons (hS _ _ rfl) (.cons (hd.1 rfl rfl _ _ rfl) (Sub.nil _)))) (fun F_495 X l_496 => ?_)) ?_
              ·skip
               refine .off rfl rfl rfl rfl ?_
               exact .fin1 (Fz.le_refl _)
              refine .cons (.mk 180 undef [(11, (.int .i64 s290.2)), (176, undef)] rfl rfl rfl rfl (fun S hS hd => (.cons (hS _ _ rfl) (.cons (hd.1 rfl rfl _ _ rfl) (Sub.nil _)))) (fun F_497 X l_498 => ?_)) ?_
              ·skip
               refine .off rfl rfl rfl rfl ?_
               exact .fin1 (Fz.le_refl _)
              refine .cons (.mk 181 undef [(176, undef), (180, undef)] rfl rfl rfl rfl (fun S hS hd => (.cons (hd.2.1 rfl rfl _ _ rfl) (.cons (hd.1 rfl rfl _ _ rfl) (Sub.nil _)))) (fun F_499 X l_500 => ?_)) ?_
              ·skip
               refine .off rfl rfl rfl rfl ?_
               exact .fin1 (Fz.le_refl _)
              refine .cons (.mk 182 undef [(176, undef), (179, undef), (181, undef)] rfl rfl rfl rfl (fun S hS hd => (.cons (hd.2.2.1 rfl rfl _ _ rfl) (.cons (hd.1 rfl rfl _ _ rfl) (.cons (hd.2.1 rfl rfl _ _ rfl) (Sub.nil _))))) (fun F_501 X l_502 => ?_)) ?_
              ·skip
               refine .off rfl rfl rfl rfl ?_
               exact .fin1 (Fz.le_refl _)
              refine .cons (.mk 183 undef [(176, undef), (182, undef)] rfl rfl rfl rfl (fun S hS hd => (.cons (hd.2.1 rfl rfl _ _ rfl) (.cons (hd.1 rfl rfl _ _ rfl) (Sub.nil _)))) (fun F_503 X l_504 => ?_)) ?_
              ·skip
               refine .off rfl rfl rfl rfl ?_
               exact .fin1 (Fz.le_refl _)
              refine .cons (.mk 184 undef [(176, undef), (183, undef)] rfl rfl rfl rfl (fun S hS hd => (.cons (hd.2.1 rfl rfl _ _ rfl) (.cons (hd.1 rfl rfl _ _ rfl) (Sub.nil _)))) (fun F_505 X l_506 => ?_)) ?_
              ·skip
               refine .off rfl rfl rfl rfl ?_
               exact .fin1 (Fz.le_refl _)
              refine .cons (.mk 185 undef [(176, undef), (178, undef), (184, undef)] rfl rfl rfl rfl (fun S hS hd => (.cons (hd.2.2.1 rfl rfl _ _ rfl) (.cons (hd.1 rfl rfl _ _ rfl) (.cons (hd.2.1 rfl rfl _ _ rfl) (Sub.nil _))))) (fun F_507 X l_508 => ?_)) ?_
              ·skip
               refine .off rfl rfl rfl rfl ?_
               exact .fin1 (Fz.le_refl _)
              refine .cons (.mk 186 undef [(173, (.bool true)), (176, undef), (185, undef)] rfl rfl rfl rfl (fun S hS hd => (.cons (hd.2.2.1 rfl rfl _ _ rfl) (.cons (hd.1 rfl rfl _ _ rfl) (.cons (hd.2.1 rfl rfl _ _ rfl) (Sub.nil _))))) (fun F_509 X l_510 => ?_)) ?_
              ·skip
               refine .off rfl rfl rfl rfl ?_
               exact .fin1 (Fz.le_refl _)
              refine .cons (.mk 187 (.bool true) [(173, (.bool true)), (186, undef)] rfl rfl rfl rfl (fun S hS hd => (.cons (hd.1 rfl rfl _ _ rfl) (.cons (hd.2.1 rfl rfl _ _ rfl) (Sub.nil _)))) (fun F_511 X l_512 => ?_)) ?_
              ·skip
               refine .pickT  rfl rfl rfl ?_
               exact .fin1 (Fz.le_refl _)
              exact .nil
             refine .nil ?_
             exact .nil fun e a w h => by cases e; exact ⟨rfl, ⟨F_424, l_426, h.1.sub (.cons (k := 1) rfl (.cons (k := 5) rfl (.cons (k := 8) rfl (.cons (k := 9) rfl (.cons (k := 11) rfl (.cons (k := 12) rfl (.cons (k := 187) rfl (.nil _)))))))), h.2⟩⟩
            ·skip
             refine .ite (fun hb513 => ?_) (fun hb513 => ?_)
             ·skip
              refine .draw ⟨1000000, 0, [], 0⟩ [(145, (.pointer (some ⟨b304, 0 + 6, none⟩))), (146, (.int .i64 x294.Amount)), (147, (.bool (decide (x294.Amount < 0)))), (148, (.bool (decide (x294.Amount < 0)))), (149, (.pointer (some ⟨b304, 0 + 6, none⟩))), (150, (.int .i64 x294.Amount)), (151, (.pointer (some ⟨b304, 0 + 3, none⟩))), (152, (.int .i64 x294.Room)), (153, (.bool (decide (x294.Amount > x294.Room)))), (154, (.bool (decide (x294.Amount > x294.Room)))), (155, (.bool (decide (x294.Amount > x294.Room)))), (156, (.pointer (some ⟨b304, 0 + 7, none⟩))), (157, (.int .i64 x294.Age)), (158, (.int .i64 b317)), (159, (.bool (decide (x294.Age < b317)))), (160, (.bool (decide (x294.Age < b317)))), (161, (.bool (decide (x294.Age < b317)))), (162, undef), (163, undef), (164, undef), (165, undef), (166, (.bool true)), (167, (.bool true)), (168, undef), (169, undef), (170, undef), (171, undef), (172, (.bool true)), (173, (.bool true)), (174, undef), (175, undef), (176, undef), (177, undef), (178, undef), (179, undef), (180, undef), (181, undef), (182, undef), (183, undef), (184, undef), (185, undef), (186, undef), (187, (.bool true))] mixedOK (by kernel_rfl) (by kernel_rfl) rfl (by kernel_rfl) ?_ (fun F_514 b515 l_516 => ?_)
              ·skip
               refine .cons (.mk 145 (.pointer (some ⟨b304, 0 + 6, none⟩)) [(12, (.pointer (some ⟨b304, 0, none⟩)))] rfl rfl rfl rfl (fun S hS hd => (.cons (hS _ _ rfl) (Sub.nil _))) (fun F_517 X l_518 => ?_)) ?_
               ·skip
                refine .fieldAddr rfl Try.underlying31 rfl Try.sizeOf3 rfl ?_
                exact .fin1 (Fz.le_refl _)
               refine .cons (.mk 146 (.int .i64 x294.Amount) [(145, (.pointer (some ⟨b304, 0 + 6, none⟩)))] rfl rfl rfl rfl (fun S hS hd => (.cons (hd.1 rfl rfl _ _ rfl) (Sub.nil _))) (fun F_519 X l_520 => ?_)) ?_
               ·skip
                refine .loadO rfl Try.isAgg3 rfl (i := 0) rfl rfl ?_
                exact .fin1 (Fz.le_refl _)
               refine .cons (.mk 147 (.bool (decide (x294.Amount < 0))) [(146, (.int .i64 x294.Amount))] rfl rfl rfl rfl (fun S hS hd => (.cons (hd.1 rfl rfl _ _ rfl) (Sub.nil _))) (fun F_521 X l_522 => ?_)) ?_
               ·skip
                refine .lss rfl rfl rfl ?_
                exact .fin1 (Fz.le_refl _)
               refine .cons (.mk 148 (.bool (decide (x294.Amount < 0))) [(147, (.bool (decide (x294.Amount < 0))))] rfl rfl rfl rfl (fun S hS hd => (.cons (hd.1 rfl rfl _ _ rfl) (Sub.nil _))) (fun F_523 X l_524 => ?_)) ?_
               ·skip
                refine .move rfl rfl ?_
                exact .fin1 (Fz.le_refl _)
               refine .cons (.mk 149 (.pointer (some ⟨b304, 0 + 6, none⟩)) [(12, (.pointer (some ⟨b304, 0, none⟩))), (148, (.bool (decide (x294.Amount < 0))))] rfl rfl rfl rfl (fun S hS hd => (.cons (hS _ _ rfl) (.cons (hd.1 rfl rfl _ _ rfl) (Sub.nil _)))) (fun F_525 X l_526 => ?_)) ?_
               ·skip
                refine .onH hb333 rfl rfl ?_
                refine .fieldAddr rfl Try.underlying31 rfl Try.sizeOf3 rfl ?_
                exact .fin1 (Fz.le_refl _)
               refine .cons (.mk 150 (.int .i64 x294.Amount) [(148, (.bool (decide (x294.Amount < 0)))), (149, (.pointer (some ⟨b304, 0 + 6, none⟩)))] rfl rfl rfl rfl (fun S hS hd => (.cons (hd.2.1 rfl rfl _ _ rfl) (.cons (hd.1 rfl rfl _ _ rfl) (Sub.nil _)))) (fun F_527 X l_528 => ?_)) ?_
               ·skip
                refine .onH hb333 rfl rfl ?_
                refine .loadO rfl Try.isAgg3 rfl (i := 0) rfl rfl ?_
                exact .fin1 (Fz.le_refl _)
               refine .cons (.mk 151 (.pointer (some ⟨b304, 0 + 3, none⟩)) [(12, (.pointer (some ⟨b304, 0, none⟩))), (148, (.bool (decide (x294.Amount < 0))))] rfl rfl rfl rfl (fun S hS hd => (.cons (hS _ _ rfl) (.cons (hd.1 rfl rfl _ _ rfl) (Sub.nil _)))) (fun F_529 X l_530 => ?_)) ?_
               ·skip
                refine .onH hb333 rfl rfl ?_
                refine .fieldAddr rfl Try.underlying31 rfl Try.sizeOf3 rfl ?_
                exact .fin1 (Fz.le_refl _)
               refine .cons (.mk 152 (.int .i64 x294.Room) [(148, (.bool (decide (x294.Amount < 0)))), (151, (.pointer (some ⟨b304, 0 + 3, none⟩)))] rfl rfl rfl rfl (fun S hS hd => (.cons (hd.2.1 rfl rfl _ _ rfl) (.cons (hd.1 rfl rfl _ _ rfl) (Sub.nil _)))) (fun F_531 X l_532 => ?_)) ?_
               ·skip
                refine .onH hb333 rfl rfl ?_
                refine .loadO rfl Try.isAgg3 rfl (i := 0) rfl rfl ?_
                exact .fin1 (Fz.le_refl _)
               refine .cons (.mk 153 (.bool (decide (x294.Amount > x294.Room))) [(148, (.bool (decide (x294.Amount < 0)))), (150, (.int .i64 x294.Amount)), (152, (.int .i64 x294.Room))] rfl rfl rfl rfl (fun S hS hd => (.cons (hd.2.2.1 rfl rfl _ _ rfl) (.cons (hd.1 rfl rfl _ _ rfl) (.cons (hd.2.1 rfl rfl _ _ rfl) (Sub.nil _))))) (fun F_533 X l_534 => ?_)) ?_
               ·skip
                refine .onH hb333 rfl rfl ?_
                refine .gtr rfl rfl rfl ?_
                exact .fin1 (Fz.le_refl _)
               refine .cons (.mk 154 (.bool (decide (x294.Amount > x294.Room))) [(148, (.bool (decide (x294.Amount < 0)))), (153, (.bool (decide (x294.Amount > x294.Room))))] rfl rfl rfl rfl (fun S hS hd => (.cons (hd.1 rfl rfl _ _ rfl) (.cons (hd.2.1 rfl rfl _ _ rfl) (Sub.nil _)))) (fun F_535 X l_536 => ?_)) ?_
               ·skip
                refine .pickFH hb333  rfl rfl rfl ?_
                exact .fin1 (Fz.le_refl _)
               refine .cons (.mk 155 (.bool (decide (x294.Amount > x294.Room))) [(154, (.bool (decide (x294.Amount > x294.Room))))] rfl rfl rfl rfl (fun S hS hd => (.cons (hd.1 rfl rfl _ _ rfl) (Sub.nil _))) (fun F_537 X l_538 => ?_)) ?_
               ·skip
                refine .move rfl rfl ?_
                exact .fin1 (Fz.le_refl _)
               refine .cons (.mk 156 (.pointer (some ⟨b304, 0 + 7, none⟩)) [(12, (.pointer (some ⟨b304, 0, none⟩))), (155, (.bool (decide (x294.Amount > x294.Room))))] rfl rfl rfl rfl (fun S hS hd => (.cons (hS _ _ rfl) (.cons (hd.1 rfl rfl _ _ rfl) (Sub.nil _)))) (fun F_539 X l_540 => ?_)) ?_
               ·skip
                refine .onH hb423 rfl rfl ?_
                refine .fieldAddr rfl Try.underlying31 rfl Try.sizeOf3 rfl ?_
                exact .fin1 (Fz.le_refl _)
               refine .cons (.mk 157 (.int .i64 x294.Age) [(155, (.bool (decide (x294.Amount > x294.Room)))), (156, (.pointer (some ⟨b304, 0 + 7, none⟩)))] rfl rfl rfl rfl (fun S hS hd => (.cons (hd.2.1 rfl rfl _ _ rfl) (.cons (hd.1 rfl rfl _ _ rfl) (Sub.nil _)))) (fun F_541 X l_542 => ?_)) ?_
               ·skip
                refine .onH hb423 rfl rfl ?_
                refine .loadO rfl Try.isAgg3 rfl (i := 0) rfl rfl ?_
                exact .fin1 (Fz.le_refl _)
               refine .cons (.mk 158 (.int .i64 b317) [(13, (.int .i64 b317)), (155, (.bool (decide (x294.Amount > x294.Room))))] rfl rfl rfl rfl (fun S hS hd => (.cons (hS _ _ rfl) (.cons (hd.1 rfl rfl _ _ rfl) (Sub.nil _)))) (fun F_543 X l_544 => ?_)) ?_
               ·skip
                refine .onH hb423 rfl rfl ?_
                refine .move rfl rfl ?_
                exact .fin1 (Fz.le_refl _)
               refine .cons (.mk 159 (.bool (decide (x294.Age < b317))) [(155, (.bool (decide (x294.Amount > x294.Room)))), (157, (.int .i64 x294.Age)), (158, (.int .i64 b317))] rfl rfl rfl rfl (fun S hS hd => (.cons (hd.2.2.1 rfl rfl _ _ rfl) (.cons (hd.1 rfl rfl _ _ rfl) (.cons (hd.2.1 rfl rfl _ _ rfl) (Sub.nil _))))) (fun F_545 X l_546 => ?_)) ?_
               ·skip
                refine .onH hb423 rfl rfl ?_
                refine .lss rfl rfl rfl ?_
                exact .fin1 (Fz.le_refl _)
               refine .cons (.mk 160 (.bool (decide (x294.Age < b317))) [(155, (.bool (decide (x294.Amount > x294.Room)))), (159, (.bool (decide (x294.Age < b317))))] rfl rfl rfl rfl (fun S hS hd => (.cons (hd.1 rfl rfl _ _ rfl) (.cons (hd.2.1 rfl rfl _ _ rfl) (Sub.nil _)))) (fun F_547 X l_548 => ?_)) ?_
               ·skip
                refine .pickFH hb423  rfl rfl rfl ?_
                exact .fin1 (Fz.le_refl _)
               refine .cons (.mk 161 (.bool (decide (x294.Age < b317))) [(160, (.bool (decide (x294.Age < b317))))] rfl rfl rfl rfl (fun S hS hd => (.cons (hd.1 rfl rfl _ _ rfl) (Sub.nil _))) (fun F_549 X l_550 => ?_)) ?_
               ·skip
                refine .move rfl rfl ?_
                exact .fin1 (Fz.le_refl _)
               refine .cons (.mk 162 undef [(12, (.pointer (some ⟨b304, 0, none⟩))), (161, (.bool (decide (x294.Age < b317))))] rfl rfl rfl rfl (fun S hS hd => (.cons (hS _ _ rfl) (.cons (hd.1 rfl rfl _ _ rfl) (Sub.nil _)))) (fun F_551 X l_552 => ?_)) ?_
               ·skip
                refine .offH hb513 rfl rfl rfl ?_
                exact .fin1 (Fz.le_refl _)
               refine .cons (.mk 163 undef [(161, (.bool (decide (x294.Age < b317)))), (162, undef)] rfl rfl rfl rfl (fun S hS hd => (.cons (hd.2.1 rfl rfl _ _ rfl) (.cons (hd.1 rfl rfl _ _ rfl) (Sub.nil _)))) (fun F_553 X l_554 => ?_)) ?_
               ·skip
                refine .offH hb513 rfl rfl rfl ?_
                exact .fin1 (Fz.le_refl _)
               refine .cons (.mk 164 undef [(14, (.int .i64 b330)), (161, (.bool (decide (x294.Age < b317))))] rfl rfl rfl rfl (fun S hS hd => (.cons (hS _ _ rfl) (.cons (hd.1 rfl rfl _ _ rfl) (Sub.nil _)))) (fun F_555 X l_556 => ?_)) ?_
               ·skip
                refine .offH hb513 rfl rfl rfl ?_
                exact .fin1 (Fz.le_refl _)
               refine .cons (.mk 165 undef [(161, (.bool (decide (x294.Age < b317)))), (163, undef), (164, undef)] rfl rfl rfl rfl (fun S hS hd => (.cons (hd.2.2.1 rfl rfl _ _ rfl) (.cons (hd.1 rfl rfl _ _ rfl) (.cons (hd.2.1 rfl rfl _ _ rfl) (Sub.nil _))))) (fun F_557 X l_558 => ?_)) ?_
               ·skip
                refine .offH hb513 rfl rfl rfl ?_
                exact .fin1 (Fz.le_refl _)
               refine .cons (.mk 166 (.bool true) [(161, (.bool (decide (x294.Age < b317)))), (165, undef)] rfl rfl rfl rfl (fun S hS hd => (.cons (hd.1 rfl rfl _ _ rfl) (.cons (hd.2.1 rfl rfl _ _ rfl) (Sub.nil _)))) (fun F_559 X l_560 => ?_)) ?_
               ·skip
                refine .pickTH hb513  rfl rfl rfl ?_
                exact .fin1 (Fz.le_refl _)
               refine .cons (.mk 167 (.bool true) [(166, (.bool true))] rfl rfl rfl rfl (fun S hS hd => (.cons (hd.1 rfl rfl _ _ rfl) (Sub.nil _))) (fun F_561 X l_562 => ?_)) ?_
               ·skip
                refine .move rfl rfl ?_
                exact .fin1 (Fz.le_refl _)
               refine .cons (.mk 168 undef [(12, (.pointer (some ⟨b304, 0, none⟩))), (167, (.bool true))] rfl rfl rfl rfl (fun S hS hd => (.cons (hS _ _ rfl) (.cons (hd.1 rfl rfl _ _ rfl) (Sub.nil _)))) (fun F_563 X l_564 => ?_)) ?_
               ·skip
                refine .off rfl rfl rfl rfl ?_
                exact .fin1 (Fz.le_refl _)
               refine .cons (.mk 169 undef [(167, (.bool true)), (168, undef)] rfl rfl rfl rfl (fun S hS hd => (.cons (hd.2.1 rfl rfl _ _ rfl) (.cons (hd.1 rfl rfl _ _ rfl) (Sub.nil _)))) (fun F_565 X l_566 => ?_)) ?_
               ·skip
                refine .off rfl rfl rfl rfl ?_
                exact .fin1 (Fz.le_refl _)
               refine .cons (.mk 170 undef [(1, (.int .i64 day5)), (167, (.bool true))] rfl rfl rfl rfl (fun S hS hd => (.cons (hS _ _ rfl) (.cons (hd.1 rfl rfl _ _ rfl) (Sub.nil _)))) (fun F_567 X l_568 => ?_)) ?_
               ·skip
                refine .off rfl rfl rfl rfl ?_
                exact .fin1 (Fz.le_refl _)
               refine .cons (.mk 171 undef [(167, (.bool true)), (169, undef), (170, undef)] rfl rfl rfl rfl (fun S hS hd => (.cons (hd.2.2.1 rfl rfl _ _ rfl) (.cons (hd.1 rfl rfl _ _ rfl) (.cons (hd.2.1 rfl rfl _ _ rfl) (Sub.nil _))))) (fun F_569 X l_570 => ?_)) ?_
               ·skip
                refine .off rfl rfl rfl rfl ?_
                exact .fin1 (Fz.le_refl _)
               refine .cons (.mk 172 (.bool true) [(167, (.bool true)), (171, undef)] rfl rfl rfl rfl (fun S hS hd => (.cons (hd.1 rfl rfl _ _ rfl) (.cons (hd.2.1 rfl rfl _ _ rfl) (Sub.nil _)))) (fun F_571 X l_572 => ?_)) ?_
               ·skip
                refine .pickT  rfl rfl rfl ?_
                exact .fin1 (Fz.le_refl _)
               refine .cons (.mk 173 (.bool true) [(172, (.bool true))] rfl rfl rfl rfl (fun S hS hd => (.cons (hd.1 rfl rfl _ _ rfl) (Sub.nil _))) (fun F_573 X l_574 => ?_)) ?_
               ·skip
                refine .move rfl rfl ?_
                exact .fin1 (Fz.le_refl _)
               refine .cons (.mk 174 undef [(11, (.int .i64 s290.2)), (173, (.bool true))] rfl rfl rfl rfl (fun S hS hd => (.cons (hS _ _ rfl) (.cons (hd.1 rfl rfl _ _ rfl) (Sub.nil _)))) (fun F_575 X l_576 => ?_)) ?_
               ·skip
                refine .off rfl rfl rfl rfl ?_
                exact .fin1 (Fz.le_refl _)
               refine .cons (.mk 175 undef [(173, (.bool true)), (174, undef)] rfl rfl rfl rfl (fun S hS hd => (.cons (hd.2.1 rfl rfl _ _ rfl) (.cons (hd.1 rfl rfl _ _ rfl) (Sub.nil _)))) (fun F_577 X l_578 => ?_)) ?_
               ·skip
                refine .off rfl rfl rfl rfl ?_
                exact .fin1 (Fz.le_refl _)
               refine .cons (.mk 176 undef [(173, (.bool true)), (175, undef)] rfl rfl rfl rfl (fun S hS hd => (.cons (hd.2.1 rfl rfl _ _ rfl) (.cons (hd.1 rfl rfl _ _ rfl) (Sub.nil _)))) (fun F_579 X l_580 => ?_)) ?_
               ·skip
                refine .off rfl rfl rfl rfl ?_
                exact .fin1 (Fz.le_refl _)
               refine .cons (.mk 177 undef [(12, (.pointer (some ⟨b304, 0, none⟩))), (176, undef)] rfl rfl rfl rfl (fun S hS hd => (.cons (hS _ _ rfl) (.cons (hd.1 rfl rfl _ _ rfl) (Sub.nil _)))) (fun F_581 X l_582 => ?_)) ?_
               ·skip
                refine .off rfl rfl rfl rfl ?_
                exact .fin1 (Fz.le_refl _)
               refine .cons (.mk 178 undef [(176, undef), (177, undef)] rfl rfl rfl rfl (fun S hS hd => (.cons (hd.2.1 rfl rfl _ _ rfl) (.cons (hd.1 rfl rfl _ _ rfl) (Sub.nil _)))) (fun F_583 X l_584 => ?_)) ?_
               ·skip
                refine .off rfl rfl rfl rfl ?_
                exact .fin1 (Fz.le_refl _)
               refine .cons (.mk 179 undef [(5, (.slice p13 r_12.1.length k14)), (176, undef)] rfl rfl rfl rfl (fun S hS hd => (.cons (hS _ _ rfl) (.cons (hd.1 rfl rfl _ _ rfl) (Sub.nil _)))) (fun F_585 X l_586 => ?_)) ?_
               ·skip
                refine .off rfl rfl rfl rfl ?_
                exact .fin1 (Fz.le_refl _)
               refine .cons (.mk 180 undef [(11, (.int .i64 s290.2)), (176, undef)] rfl rfl rfl rfl (fun S hS hd => (.cons (hS _ _ rfl) (.cons (hd.1 rfl rfl _ _ rfl) (Sub.nil _)))) (fun F_587 X l_588 => ?_)) ?_
               ·skip
                refine .off rfl rfl rfl rfl ?_
                exact .fin1 (Fz.le_refl _)
               refine .cons (.mk 181 undef [(176, undef), (180, undef)] rfl rfl rfl rfl (fun S hS hd => (.cons (hd.2.1 rfl rfl _ _ rfl) (.cons (hd.1 rfl rfl _ _ rfl) (Sub.nil _)))) (fun F_589 X l_590 => ?_)) ?_
               ·skip
                refine .off rfl rfl rfl rfl ?_
                exact .fin1 (Fz.le_refl _)
               refine .cons (.mk 182 undef [(176, undef), (179, undef), (181, undef)] rfl rfl rfl rfl (fun S hS hd => (.cons (hd.2.2.1 rfl rfl _ _ rfl) (.cons (hd.1 rfl rfl _ _ rfl) (.cons (hd.2.1 rfl rfl _ _ rfl) (Sub.nil _))))) (fun F_591 X l_592 => ?_)) ?_
               ·skip
                refine .off rfl rfl rfl rfl ?_
                exact .fin1 (Fz.le_refl _)
               refine .cons (.mk 183 undef [(176, undef), (182, undef)] rfl rfl rfl rfl (fun S hS hd => (.cons (hd.2.1 rfl rfl _ _ rfl) (.cons (hd.1 rfl rfl _ _ rfl) (Sub.nil _)))) (fun F_593 X l_594 => ?_)) ?_
               ·skip
                refine .off rfl rfl rfl rfl ?_
                exact .fin1 (Fz.le_refl _)
               refine .cons (.mk 184 undef [(176, undef), (183, undef)] rfl rfl rfl rfl (fun S hS hd => (.cons (hd.2.1 rfl rfl _ _ rfl) (.cons (hd.1 rfl rfl _ _ rfl) (Sub.nil _)))) (fun F_595 X l_596 => ?_)) ?_
               ·skip
                refine .off rfl rfl rfl rfl ?_
                exact .fin1 (Fz.le_refl _)
               refine .cons (.mk 185 undef [(176, undef), (178, undef), (184, undef)] rfl rfl rfl rfl (fun S hS hd => (.cons (hd.2.2.1 rfl rfl _ _ rfl) (.cons (hd.1 rfl rfl _ _ rfl) (.cons (hd.2.1 rfl rfl _ _ rfl) (Sub.nil _))))) (fun F_597 X l_598 => ?_)) ?_
               ·skip
                refine .off rfl rfl rfl rfl ?_
                exact .fin1 (Fz.le_refl _)
               refine .cons (.mk 186 undef [(173, (.bool true)), (176, undef), (185, undef)] rfl rfl rfl rfl (fun S hS hd => (.cons (hd.2.2.1 rfl rfl _ _ rfl) (.cons (hd.1 rfl rfl _ _ rfl) (.cons (hd.2.1 rfl rfl _ _ rfl) (Sub.nil _))))) (fun F_599 X l_600 => ?_)) ?_
               ·skip
                refine .off rfl rfl rfl rfl ?_
                exact .fin1 (Fz.le_refl _)
               refine .cons (.mk 187 (.bool true) [(173, (.bool true)), (186, undef)] rfl rfl rfl rfl (fun S hS hd => (.cons (hd.1 rfl rfl _ _ rfl) (.cons (hd.2.1 rfl rfl _ _ rfl) (Sub.nil _)))) (fun F_601 X l_602 => ?_)) ?_
               ·skip
                refine .pickT  rfl rfl rfl ?_
                exact .fin1 (Fz.le_refl _)
               exact .nil
              refine .nil ?_
              exact .nil fun e a w h => by cases e; exact ⟨rfl, ⟨F_514, l_516, h.1.sub (.cons (k := 1) rfl (.cons (k := 5) rfl (.cons (k := 8) rfl (.cons (k := 9) rfl (.cons (k := 11) rfl (.cons (k := 12) rfl (.cons (k := 187) rfl (.nil _)))))))), h.2⟩⟩
             ·skip
              refine .ite (fun hb603 => ?_) (fun hb603 => ?_)
              ·skip
               refine .draw ⟨1000000, 0, [], 0⟩ [(145, (.pointer (some ⟨b304, 0 + 6, none⟩))), (146, (.int .i64 x294.Amount)), (147, (.bool (decide (x294.Amount < 0)))), (148, (.bool (decide (x294.Amount < 0)))), (149, (.pointer (some ⟨b304, 0 + 6, none⟩))), (150, (.int .i64 x294.Amount)), (151, (.pointer (some ⟨b304, 0 + 3, none⟩))), (152, (.int .i64 x294.Room)), (153, (.bool (decide (x294.Amount > x294.Room)))), (154, (.bool (decide (x294.Amount > x294.Room)))), (155, (.bool (decide (x294.Amount > x294.Room)))), (156, (.pointer (some ⟨b304, 0 + 7, none⟩))), (157, (.int .i64 x294.Age)), (158, (.int .i64 b317)), (159, (.bool (decide (x294.Age < b317)))), (160, (.bool (decide (x294.Age < b317)))), (161, (.bool (decide (x294.Age < b317)))), (162, (.pointer (some ⟨b304, 0 + 7, none⟩))), (163, (.int .i64 x294.Age)), (164, (.int .i64 b330)), (165, (.bool (decide (x294.Age < b330)))), (166, (.bool (decide (x294.Age < b330)))), (167, (.bool (decide (x294.Age < b330)))), (168, undef), (169, undef), (170, undef), (171, undef), (172, (.bool true)), (173, (.bool true)), (174, undef), (175, undef), (176, undef), (177, undef), (178, undef), (179, undef), (180, undef), (181, undef), (182, undef), (183, undef), (184, undef), (185, undef), (186, undef), (187, (.bool true))] mixedOK (by kernel_rfl) (by kernel_rfl) rfl (by kernel_rfl) ?_ (fun F_604 b605 l_606 => ?_)
               ·skip
                refine .cons (.mk 145 (.pointer (some ⟨b304, 0 + 6, none⟩)) [(12, (.pointer (some ⟨b304, 0, none⟩)))] rfl rfl rfl rfl (fun S hS hd => (.cons (hS _ _ rfl) (Sub.nil _))) (fun F_607 X l_608 => ?_)) ?_
                ·skip
                 refine .fieldAddr rfl Try.underlying31 rfl Try.sizeOf3 rfl ?_
                 exact .fin1 (Fz.le_refl _)
                refine .cons (.mk 146 (.int .i64 x294.Amount) [(145, (.pointer (some ⟨b304, 0 + 6, none⟩)))] rfl rfl rfl rfl (fun S hS hd => (.cons (hd.1 rfl rfl _ _ rfl) (Sub.nil _))) (fun F_609 X l_610 => ?_)) ?_
                ·skip
                 refine .loadO rfl Try.isAgg3 rfl (i := 0) rfl rfl ?_
                 exact .fin1 (Fz.le_refl _)
                refine .cons (.mk 147 (.bool (decide (x294.Amount < 0))) [(146, (.int .i64 x294.Amount))] rfl rfl rfl rfl (fun S hS hd => (.cons (hd.1 rfl rfl _ _ rfl) (Sub.nil _))) (fun F_611 X l_612 => ?_)) ?_
                ·skip
                 refine .lss rfl rfl rfl ?_
                 exact .fin1 (Fz.le_refl _)
                refine .cons (.mk 148 (.bool (decide (x294.Amount < 0))) [(147, (.bool (decide (x294.Amount < 0))))] rfl rfl rfl rfl (fun S hS hd => (.cons (hd.1 rfl rfl _ _ rfl) (Sub.nil _))) (fun F_613 X l_614 => ?_)) ?_
                ·skip
                 refine .move rfl rfl ?_
                 exact .fin1 (Fz.le_refl _)
                refine .cons (.mk 149 (.pointer (some ⟨b304, 0 + 6, none⟩)) [(12, (.pointer (some ⟨b304, 0, none⟩))), (148, (.bool (decide (x294.Amount < 0))))] rfl rfl rfl rfl (fun S hS hd => (.cons (hS _ _ rfl) (.cons (hd.1 rfl rfl _ _ rfl) (Sub.nil _)))) (fun F_615 X l_616 => ?_)) ?_
                ·skip
                 refine .onH hb333 rfl rfl ?_
                 refine .fieldAddr rfl Try.underlying31 rfl Try.sizeOf3 rfl ?_
                 exact .fin1 (Fz.le_refl _)
                refine .cons (.mk 150 (.int .i64 x294.Amount) [(148, (.bool (decide (x294.Amount < 0)))), (149, (.pointer (some ⟨b304, 0 + 6, none⟩)))] rfl rfl rfl rfl (fun S hS hd => (.cons (hd.2.1 rfl rfl _ _ rfl) (.cons (hd.1 rfl rfl _ _ rfl) (Sub.nil _)))) (fun F_617 X l_618 => ?_)) ?_
                ·skip
                 refine .onH hb333 rfl rfl ?_
                 refine .loadO rfl Try.isAgg3 rfl (i := 0) rfl rfl ?_
                 exact .fin1 (Fz.le_refl _)
                refine .cons (.mk 151 (.pointer (some ⟨b304, 0 + 3, none⟩)) [(12, (.pointer (some ⟨b304, 0, none⟩))), (148, (.bool (decide (x294.Amount < 0))))] rfl rfl rfl rfl (fun S hS hd => (.cons (hS _ _ rfl) (.cons (hd.1 rfl rfl _ _ rfl) (Sub.nil _)))) (fun F_619 X l_620 => ?_)) ?_
                ·skip
                 refine .onH hb333 rfl rfl ?_
                 refine .fieldAddr rfl Try.underlying31 rfl Try.sizeOf3 rfl ?_
                 exact .fin1 (Fz.le_refl _)
                refine .cons (.mk 152 (.int .i64 x294.Room) [(148, (.bool (decide (x294.Amount < 0)))), (151, (.pointer (some ⟨b304, 0 + 3, none⟩)))] rfl rfl rfl rfl (fun S hS hd => (.cons (hd.2.1 rfl rfl _ _ rfl) (.cons (hd.1 rfl rfl _ _ rfl) (Sub.nil _)))) (fun F_621 X l_622 => ?_)) ?_
                ·skip
                 refine .onH hb333 rfl rfl ?_
                 refine .loadO rfl Try.isAgg3 rfl (i := 0) rfl rfl ?_
                 exact .fin1 (Fz.le_refl _)
                refine .cons (.mk 153 (.bool (decide (x294.Amount > x294.Room))) [(148, (.bool (decide (x294.Amount < 0)))), (150, (.int .i64 x294.Amount)), (152, (.int .i64 x294.Room))] rfl rfl rfl rfl (fun S hS hd => (.cons (hd.2.2.1 rfl rfl _ _ rfl) (.cons (hd.1 rfl rfl _ _ rfl) (.cons (hd.2.1 rfl rfl _ _ rfl) (Sub.nil _))))) (fun F_623 X l_624 => ?_)) ?_
                ·skip
                 refine .onH hb333 rfl rfl ?_
                 refine .gtr rfl rfl rfl ?_
                 exact .fin1 (Fz.le_refl _)
                refine .cons (.mk 154 (.bool (decide (x294.Amount > x294.Room))) [(148, (.bool (decide (x294.Amount < 0)))), (153, (.bool (decide (x294.Amount > x294.Room))))] rfl rfl rfl rfl (fun S hS hd => (.cons (hd.1 rfl rfl _ _ rfl) (.cons (hd.2.1 rfl rfl _ _ rfl) (Sub.nil _)))) (fun F_625 X l_626 => ?_)) ?_
                ·skip
                 refine .pickFH hb333  rfl rfl rfl ?_
                 exact .fin1 (Fz.le_refl _)
                refine .cons (.mk 155 (.bool (decide (x294.Amount > x294.Room))) [(154, (.bool (decide (x294.Amount > x294.Room))))] rfl rfl rfl rfl (fun S hS hd => (.cons (hd.1 rfl rfl _ _ rfl) (Sub.nil _))) (fun F_627 X l_628 => ?_)) ?_
                ·skip
                 refine .move rfl rfl ?_
                 exact .fin1 (Fz.le_refl _)
                refine .cons (.mk 156 (.pointer (some ⟨b304, 0 + 7, none⟩)) [(12, (.pointer (some ⟨b304, 0, none⟩))), (155, (.bool (decide (x294.Amount > x294.Room))))] rfl rfl rfl rfl (fun S hS hd => (.cons (hS _ _ rfl) (.cons (hd.1 rfl rfl _ _ rfl) (Sub.nil _)))) (fun F_629 X l_630 => ?_)) ?_
                ·skip
                 refine .onH hb423 rfl rfl ?_
                 refine .fieldAddr rfl Try.underlying31 rfl Try.sizeOf3 rfl ?_
                 exact .fin1 (Fz.le_refl _)
                refine .cons (.mk 157 (.int .i64 x294.Age) [(155, (.bool (decide (x294.Amount > x294.Room)))), (156, (.pointer (some ⟨b304, 0 + 7, none⟩)))] rfl rfl rfl rfl (fun S hS hd => (.cons (hd.2.1 rfl rfl _ _ rfl) (.cons (hd.1 rfl rfl _ _ rfl) (Sub.nil _)))) (fun F_631 X l_632 => ?_)) ?_
                ·skip
                 refine .onH hb423 rfl rfl ?_
                 refine .loadO rfl Try.isAgg3 rfl (i := 0) rfl rfl ?_
                 exact .fin1 (Fz.le_refl _)
                refine .cons (.mk 158 (.int .i64 b317) [(13, (.int .i64 b317)), (155, (.bool (decide (x294.Amount > x294.Room))))] rfl rfl rfl rfl (fun S hS hd => (.cons (hS _ _ rfl) (.cons (hd.1 rfl rfl _ _ rfl) (Sub.nil _)))) (fun F_633 X l_634 => ?_)) ?_
                ·skip
                 refine .onH hb423 rfl rfl ?_
                 refine .move rfl rfl ?_
                 exact .fin1 (Fz.le_refl _)
                refine .cons (.mk 159 (.bool (decide (x294.Age < b317))) [(155, (.bool (decide (x294.Amount > x294.Room)))), (157, (.int .i64 x294.Age)), (158, (.int .i64 b317))] rfl rfl rfl rfl (fun S hS hd => (.cons (hd.2.2.1 rfl rfl _ _ rfl) (.cons (hd.1 rfl rfl _ _ rfl) (.cons (hd.2.1 rfl rfl _ _ rfl) (Sub.nil _))))) (fun F_635 X l_636 => ?_)) ?_
                ·skip
                 refine .onH hb423 rfl rfl ?_
                 refine .lss rfl rfl rfl ?_
                 exact .fin1 (Fz.le_refl _)
                refine .cons (.mk 160 (.bool (decide (x294.Age < b317))) [(155, (.bool (decide (x294.Amount > x294.Room)))), (159, (.bool (decide (x294.Age < b317))))] rfl rfl rfl rfl (fun S hS hd => (.cons (hd.1 rfl rfl _ _ rfl) (.cons (hd.2.1 rfl rfl _ _ rfl) (Sub.nil _)))) (fun F_637 X l_638 => ?_)) ?_
                ·skip
                 refine .pickFH hb423  rfl rfl rfl ?_
                 exact .fin1 (Fz.le_refl _)
                refine .cons (.mk 161 (.bool (decide (x294.Age < b317))) [(160, (.bool (decide (x294.Age < b317))))] rfl rfl rfl rfl (fun S hS hd => (.cons (hd.1 rfl rfl _ _ rfl) (Sub.nil _))) (fun F_639 X l_640 => ?_)) ?_
                ·skip
                 refine .move rfl rfl ?_
                 exact .fin1 (Fz.le_refl _)
                refine .cons (.mk 162 (.pointer (some ⟨b304, 0 + 7, none⟩)) [(12, (.pointer (some ⟨b304, 0, none⟩))), (161, (.bool (decide (x294.Age < b317))))] rfl rfl rfl rfl (fun S hS hd => (.cons (hS _ _ rfl) (.cons (hd.1 rfl rfl _ _ rfl) (Sub.nil _)))) (fun F_641 X l_642 => ?_)) ?_
                ·skip
                 refine .onH hb513 rfl rfl ?_
                 refine .fieldAddr rfl Try.underlying31 rfl Try.sizeOf3 rfl ?_
                 exact .fin1 (Fz.le_refl _)
                refine .cons (.mk 163 (.int .i64 x294.Age) [(161, (.bool (decide (x294.Age < b317)))), (162, (.pointer (some ⟨b304, 0 + 7, none⟩)))] rfl rfl rfl rfl (fun S hS hd => (.cons (hd.2.1 rfl rfl _ _ rfl) (.cons (hd.1 rfl rfl _ _ rfl) (Sub.nil _)))) (fun F_643 X l_644 => ?_)) ?_
                ·skip
                 refine .onH hb513 rfl rfl ?_
                 refine .loadO rfl Try.isAgg3 rfl (i := 0) rfl rfl ?_
                 exact .fin1 (Fz.le_refl _)
                refine .cons (.mk 164 (.int .i64 b330) [(14, (.int .i64 b330)), (161, (.bool (decide (x294.Age < b317))))] rfl rfl rfl rfl (fun S hS hd => (.cons (hS _ _ rfl) (.cons (hd.1 rfl rfl _ _ rfl) (Sub.nil _)))) (fun F_645 X l_646 => ?_)) ?_
                ·skip
                 refine .onH hb513 rfl rfl ?_
                 refine .move rfl rfl ?_
                 exact .fin1 (Fz.le_refl _)
                refine .cons (.mk 165 (.bool (decide (x294.Age < b330))) [(161, (.bool (decide (x294.Age < b317)))), (163, (.int .i64 x294.Age)), (164, (.int .i64 b330))] rfl rfl rfl rfl (fun S hS hd => (.cons (hd.2.2.1 rfl rfl _ _ rfl) (.cons (hd.1 rfl rfl _ _ rfl) (.cons (hd.2.1 rfl rfl _ _ rfl) (Sub.nil _))))) (fun F_647 X l_648 => ?_)) ?_
                ·skip
                 refine .onH hb513 rfl rfl ?_
                 refine .lss rfl rfl rfl ?_
                 exact .fin1 (Fz.le_refl _)
                refine .cons (.mk 166 (.bool (decide (x294.Age < b330))) [(161, (.bool (decide (x294.Age < b317)))), (165, (.bool (decide (x294.Age < b330))))] rfl rfl rfl rfl (fun S hS hd => (.cons (hd.1 rfl rfl _ _ rfl) (.cons (hd.2.1 rfl rfl _ _ rfl) (Sub.nil _)))) (fun F_649 X l_650 => ?_)) ?_
                ·skip
                 refine .pickFH hb513  rfl rfl rfl ?_
                 exact .fin1 (Fz.le_refl _)
                refine .cons (.mk 167 (.bool (decide (x294.Age < b330))) [(166, (.bool (decide (x294.Age < b330))))] rfl rfl rfl rfl (fun S hS hd => (.cons (hd.1 rfl rfl _ _ rfl) (Sub.nil _))) (fun F_651 X l_652 => ?_)) ?_
                ·skip
                 refine .move rfl rfl ?_
                 exact .fin1 (Fz.le_refl _)
                refine .cons (.mk 168 undef [(12, (.pointer (some ⟨b304, 0, none⟩))), (167, (.bool (decide (x294.Age < b330))))] rfl rfl rfl rfl (fun S hS hd => (.cons (hS _ _ rfl) (.cons (hd.1 rfl rfl _ _ rfl) (Sub.nil _)))) (fun F_653 X l_654 => ?_)) ?_
                ·skip
                 refine .offH hb603 rfl rfl rfl ?_
                 exact .fin1 (Fz.le_refl _)
                refine .cons (.mk 169 undef [(167, (.bool (decide (x294.Age < b330)))), (168, undef)] rfl rfl rfl rfl (fun S hS hd => (.cons (hd.2.1 rfl rfl _ _ rfl) (.cons (hd.1 rfl rfl _ _ rfl) (Sub.nil _)))) (fun F_655 X l_656 => ?_)) ?_
                ·skip
                 refine .offH hb603 rfl rfl rfl ?_
                 exact .fin1 (Fz.le_refl _)
                refine .cons (.mk 170 undef [(1, (.int .i64 day5)), (167, (.bool (decide (x294.Age < b330))))] rfl rfl rfl rfl (fun S hS hd => (.cons (hS _ _ rfl) (.cons (hd.1 rfl rfl _ _ rfl) (Sub.nil _)))) (fun F_657 X l_658 => ?_)) ?_
                ·skip
                 refine .offH hb603 rfl rfl rfl ?_
                 exact .fin1 (Fz.le_refl _)
                refine .cons (.mk 171 undef [(167, (.bool (decide (x294.Age < b330)))), (169, undef), (170, undef)] rfl rfl rfl rfl (fun S hS hd => (.cons (hd.2.2.1 rfl rfl _ _ rfl) (.cons (hd.1 rfl rfl _ _ rfl) (.cons (hd.2.1 rfl rfl _ _ rfl) (Sub.nil _))))) (fun F_659 X l_660 => ?_)) ?_
                ·skip
                 refine .offH hb603 rfl rfl rfl ?_
                 exact .fin1 (Fz.le_refl _)
                refine .cons (.mk 172 (.bool true) [(167, (.bool (decide (x294.Age < b330)))), (171, undef)] rfl rfl rfl rfl (fun S hS hd => (.cons (hd.1 rfl rfl _ _ rfl) (.cons (hd.2.1 rfl rfl _ _ rfl) (Sub.nil _)))) (fun F_661 X l_662 => ?_)) ?_
                ·skip
                 refine .pickTH hb603  rfl rfl rfl ?_
                 exact .fin1 (Fz.le_refl _)
                refine .cons (.mk 173 (.bool true) [(172, (.bool true))] rfl rfl rfl rfl (fun S hS hd => (.cons (hd.1 rfl rfl _ _ rfl) (Sub.nil _))) (fun F_663 X l_664 => ?_)) ?_
                ·skip
                 refine .move rfl rfl ?_
                 exact .fin1 (Fz.le_refl _)
                refine .cons (.mk 174 undef [(11, (.int .i64 s290.2)), (173, (.bool true))] rfl rfl rfl rfl (fun S hS hd => (.cons (hS _ _ rfl) (.cons (hd.1 rfl rfl _ _ rfl) (Sub.nil _)))) (fun F_665 X l_666 => ?_)) ?_
                ·skip
                 refine .off rfl rfl rfl rfl ?_
                 exact .fin1 (Fz.le_refl _)
                refine .cons (.mk 175 undef [(173, (.bool true)), (174, undef)] rfl rfl rfl rfl (fun S hS hd => (.cons (hd.2.1 rfl rfl _ _ rfl) (.cons (hd.1 rfl rfl _ _ rfl) (Sub.nil _)))) (fun F_667 X l_668 => ?_)) ?_
                ·skip
                 refine .off rfl rfl rfl rfl ?_
                 exact .fin1 (Fz.le_refl _)
                refine .cons (.mk 176 undef [(173, (.bool true)), (175, undef)] rfl rfl rfl rfl (fun S hS hd => (.cons (hd.2.1 rfl rfl _ _ rfl) (.cons (hd.1 rfl rfl _ _ rfl) (Sub.nil _)))) (fun F_669 X l_670 => ?_)) ?_
                ·skip
                 refine .off rfl rfl rfl rfl ?_
                 exact .fin1 (Fz.le_refl _)
                refine .cons (.mk 177 undef [(12, (.pointer (some ⟨b304, 0, none⟩))), (176, undef)] rfl rfl rfl rfl (fun S hS hd => (.cons (hS _ _ rfl) (.cons (hd.1 rfl rfl _ _ rfl) (Sub.nil _)))) (fun F_671 X l_672 => ?_)) ?_
                ·skip
                 refine .off rfl rfl rfl rfl ?_
                 exact .fin1 (Fz.le_refl _)
                refine .cons (.mk 178 undef [(176, undef), (177, undef)] rfl rfl rfl rfl (fun S hS hd => (.cons (hd.2.1 rfl rfl _ _ rfl) (.cons (hd.1 rfl rfl _ _ rfl) (Sub.nil _)))) (fun F_673 X l_674 => ?_)) ?_
                ·skip
                 refine .off rfl rfl rfl rfl ?_
                 exact .fin1 (Fz.le_refl _)
                refine .cons (.mk 179 undef [(5, (.slice p13 r_12.1.length k14)), (176, undef)] rfl rfl rfl rfl (fun S hS hd => (.cons (hS _ _ rfl) (.cons (hd.1 rfl rfl _ _ rfl) (Sub.nil _)))) (fun F_675 X l_676 => ?_)) ?_
                ·skip
                 refine .off rfl rfl rfl rfl ?_
                 exact .fin1 (Fz.le_refl _)
                refine .cons (.mk 180 undef [(11, (.int .i64 s290.2)), (176, undef)] rfl rfl rfl rfl (fun S hS hd => (.cons (hS _ _ rfl) (.cons (hd.1 rfl rfl _ _ rfl) (Sub.nil _)))) (fun F_677 X l_678 => ?_)) ?_
                ·skip
                 refine .off rfl rfl rfl rfl ?_
                 exact .fin1 (Fz.le_refl _)
                refine .cons (.mk 181 undef [(176, undef), (180, undef)] rfl rfl rfl rfl (fun S hS hd => (.cons (hd.2.1 rfl rfl _ _ rfl) (.cons (hd.1 rfl rfl _ _ rfl) (Sub.nil _)))) (fun F_679 X l_680 => ?_)) ?_
                ·skip
                 refine .off rfl rfl rfl rfl ?_
                 exact .fin1 (Fz.le_refl _)
                refine .cons (.mk 182 undef [(176, undef), (179, undef), (181, undef)] rfl rfl rfl rfl (fun S hS hd => (.cons (hd.2.2.1 rfl rfl _ _ rfl) (.cons (hd.1 rfl rfl _ _ rfl) (.cons (hd.2.1 rfl rfl _ _ rfl) (Sub.nil _))))) (fun F_681 X l_682 => ?_)) ?_
                ·skip
                 refine .off rfl rfl rfl rfl ?_
                 exact .fin1 (Fz.le_refl _)
                refine .cons (.mk 183 undef [(176, undef), (182, undef)] rfl rfl rfl rfl (fun S hS hd => (.cons (hd.2.1 rfl rfl _ _ rfl) (.cons (hd.1 rfl rfl _ _ rfl) (Sub.nil _)))) (fun F_683 X l_684 => ?_)) ?_
                ·skip
                 refine .off rfl rfl rfl rfl ?_
                 exact .fin1 (Fz.le_refl _)
                refine .cons (.mk 184 undef [(176, undef), (183, undef)] rfl rfl rfl rfl (fun S hS hd => (.cons (hd.2.1 rfl rfl _ _ rfl) (.cons (hd.1 rfl rfl _ _ rfl) (Sub.nil _)))) (fun F_685 X l_686 => ?_)) ?_
                ·skip
                 refine .off rfl rfl rfl rfl ?_
                 exact .fin1 (Fz.le_refl _)
                refine .cons (.mk 185 undef [(176, undef), (178, undef), (184, undef)] rfl rfl rfl rfl (fun S hS hd => (.cons (hd.2.2.1 rfl rfl _ _ rfl) (.cons (hd.1 rfl rfl _ _ rfl) (.cons (hd.2.1 rfl rfl _ _ rfl) (Sub.nil _))))) (fun F_687 X l_688 => ?_)) ?_
                ·skip
                 refine .off rfl rfl rfl rfl ?_
                 exact .fin1 (Fz.le_refl _)
                refine .cons (.mk 186 undef [(173, (.bool true)), (176, undef), (185, undef)] rfl rfl rfl rfl (fun S hS hd => (.cons (hd.2.2.1 rfl rfl _ _ rfl) (.cons (hd.1 rfl rfl _ _ rfl) (.cons (hd.2.1 rfl rfl _ _ rfl) (Sub.nil _))))) (fun F_689 X l_690 => ?_)) ?_
                ·skip
                 refine .off rfl rfl rfl rfl ?_
                 exact .fin1 (Fz.le_refl _)
                refine .cons (.mk 187 (.bool true) [(173, (.bool true)), (186, undef)] rfl rfl rfl rfl (fun S hS hd => (.cons (hd.1 rfl rfl _ _ rfl) (.cons (hd.2.1 rfl rfl _ _ rfl) (Sub.nil _)))) (fun F_691 X l_692 => ?_)) ?_
                ·skip
                 refine .pickT  rfl rfl rfl ?_
                 exact .fin1 (Fz.le_refl _)
                exact .nil
               refine .nil ?_
               exact .nil fun e a w h => by cases e; exact ⟨rfl, ⟨F_604, l_606, h.1.sub (.cons (k := 1) rfl (.cons (k := 5) rfl (.cons (k := 8) rfl (.cons (k := 9) rfl (.cons (k := 11) rfl (.cons (k := 12) rfl (.cons (k := 187) rfl (.nil _)))))))), h.2⟩⟩
              ·skip
               refine .ite (fun hb693 => ?_) (fun hb693 => ?_)
               ·skip
                refine .draw ⟨1000000, 0, [], 0⟩ [(145, (.pointer (some ⟨b304, 0 + 6, none⟩))), (146, (.int .i64 x294.Amount)), (147, (.bool (decide (x294.Amount < 0)))), (148, (.bool (decide (x294.Amount < 0)))), (149, (.pointer (some ⟨b304, 0 + 6, none⟩))), (150, (.int .i64 x294.Amount)), (151, (.pointer (some ⟨b304, 0 + 3, none⟩))), (152, (.int .i64 x294.Room)), (153, (.bool (decide (x294.Amount > x294.Room)))), (154, (.bool (decide (x294.Amount > x294.Room)))), (155, (.bool (decide (x294.Amount > x294.Room)))), (156, (.pointer (some ⟨b304, 0 + 7, none⟩))), (157, (.int .i64 x294.Age)), (158, (.int .i64 b317)), (159, (.bool (decide (x294.Age < b317)))), (160, (.bool (decide (x294.Age < b317)))), (161, (.bool (decide (x294.Age < b317)))), (162, (.pointer (some ⟨b304, 0 + 7, none⟩))), (163, (.int .i64 x294.Age)), (164, (.int .i64 b330)), (165, (.bool (decide (x294.Age < b330)))), (166, (.bool (decide (x294.Age < b330)))), (167, (.bool (decide (x294.Age < b330)))), (168, (.pointer (some ⟨b304, 0 + 7, none⟩))), (169, (.int .i64 x294.Age)), (170, (.int .i64 day5)), (171, (.bool (decide (x294.Age > day5)))), (172, (.bool (decide (x294.Age > day5)))), (173, (.bool (decide (x294.Age > day5)))), (174, undef), (175, undef), (176, undef), (177, undef), (178, undef), (179, undef), (180, undef), (181, undef), (182, undef), (183, undef), (184, undef), (185, undef), (186, undef), (187, (.bool true))] mixedOK (by kernel_rfl) (by kernel_rfl) rfl (by kernel_rfl) ?_ (fun F_694 b695 l_696 => ?_)
                ·skip
                 refine .cons (.mk 145 (.pointer (some ⟨b304, 0 + 6, none⟩)) [(12, (.pointer (some ⟨b304, 0, none⟩)))] rfl rfl rfl rfl (fun S hS hd => (.cons (hS _ _ rfl) (Sub.nil _))) (fun F_697 X l_698 => ?_)) ?_
                 ·skip
                  refine .fieldAddr rfl Try.underlying31 rfl Try.sizeOf3 rfl ?_
                  exact .fin1 (Fz.le_refl _)
                 refine .cons (.mk 146 (.int .i64 x294.Amount) [(145, (.pointer (some ⟨b304, 0 + 6, none⟩)))] rfl rfl rfl rfl (fun S hS hd => (.cons (hd.1 rfl rfl _ _ rfl) (Sub.nil _))) (fun F_699 X l_700 => ?_)) ?_
                 ·skip
                  refine .loadO rfl Try.isAgg3 rfl (i := 0) rfl rfl ?_
                  exact .fin1 (Fz.le_refl _)
                 refine .cons (.mk 147 (.bool (decide (x294.Amount < 0))) [(146, (.int .i64 x294.Amount))] rfl rfl rfl rfl (fun S hS hd => (.cons (hd.1 rfl rfl _ _ rfl) (Sub.nil _))) (fun F_701 X l_702 => ?_)) ?_
                 ·skip
                  refine .lss rfl rfl rfl ?_
                  exact .fin1 (Fz.le_refl _)
                 refine .cons (.mk 148 (.bool (decide (x294.Amount < 0))) [(147, (.bool (decide (x294.Amount < 0))))] rfl rfl rfl rfl (fun S hS hd => (.cons (hd.1 rfl rfl _ _ rfl) (Sub.nil _))) (fun F_703 X l_704 => ?_)) ?_
                 ·skip
                  refine .move rfl rfl ?_
                  exact .fin1 (Fz.le_refl _)
                 refine .cons (.mk 149 (.pointer (some ⟨b304, 0 + 6, none⟩)) [(12, (.pointer (some ⟨b304, 0, none⟩))), (148, (.bool (decide (x294.Amount < 0))))] rfl rfl rfl rfl (fun S hS hd => (.cons (hS _ _ rfl) (.cons (hd.1 rfl rfl _ _ rfl) (Sub.nil _)))) (fun F_705 X l_706 => ?_)) ?_
                 ·skip
                  refine .onH hb333 rfl rfl ?_
                  refine .fieldAddr rfl Try.underlying31 rfl Try.sizeOf3 rfl ?_
                  exact .fin1 (Fz.le_refl _)
                 refine .cons (.mk 150 (.int .i64 x294.Amount) [(148, (.bool (decide (x294.Amount < 0)))), (149, (.pointer (some ⟨b304, 0 + 6, none⟩)))] rfl rfl rfl rfl (fun S hS hd => (.cons (hd.2.1 rfl rfl _ _ rfl) (.cons (hd.1 rfl rfl _ _ rfl) (Sub.nil _)))) (fun F_707 X l_708 => ?_)) ?_
                 ·skip
                  refine .onH hb333 rfl rfl ?_
                  refine .loadO rfl Try.isAgg3 rfl (i := 0) rfl rfl ?_
                  exact .fin1 (Fz.le_refl _)
                 refine .cons (.mk 151 (.pointer (some ⟨b304, 0 + 3, none⟩)) [(12, (.pointer (some ⟨b304, 0, none⟩))), (148, (.bool (decide (x294.Amount < 0))))] rfl rfl rfl rfl (fun S hS hd => (.cons (hS _ _ rfl) (.cons (hd.1 rfl rfl _ _ rfl) (Sub.nil _)))) (fun F_709 X l_710 => ?_)) ?_
                 ·skip
                  refine .onH hb333 rfl rfl ?_
                  refine .fieldAddr rfl Try.underlying31 rfl Try.sizeOf3 rfl ?_
                  exact .fin1 (Fz.le_refl _)
                 refine .cons (.mk 152 (.int .i64 x294.Room) [(148, (.bool (decide (x294.Amount < 0)))), (151, (.pointer (some ⟨b304, 0 + 3, none⟩)))] rfl rfl rfl rfl (fun S hS hd => (.cons (hd.2.1 rfl rfl _ _ rfl) (.cons (hd.1 rfl rfl _ _ rfl) (Sub.nil _)))) (fun F_711 X l_712 => ?_)) ?_
                 ·skip
                  refine .onH hb333 rfl rfl ?_
                  refine .loadO rfl Try.isAgg3 rfl (i := 0) rfl rfl ?_
                  exact .fin1 (Fz.le_refl _)
                 refine .cons (.mk 153 (.bool (decide (x294.Amount > x294.Room))) [(148, (.bool (decide (x294.Amount < 0)))), (150, (.int .i64 x294.Amount)), (152, (.int .i64 x294.Room))] rfl rfl rfl rfl (fun S hS hd => (.cons (hd.2.2.1 rfl rfl _ _ rfl) (.cons (hd.1 rfl rfl _ _ rfl) (.cons (hd.2.1 rfl rfl _ _ rfl) (Sub.nil _))))) (fun F_713 X l_714 => ?_)) ?_
                 ·skip
                  refine .onH hb333 rfl rfl ?_
                  refine .gtr rfl rfl rfl ?_
                  exact .fin1 (Fz.le_refl _)
                 refine .cons (.mk 154 (.bool (decide (x294.Amount > x294.Room))) [(148, (.bool (decide (x294.Amount < 0)))), (153, (.bool (decide (x294.Amount > x294.Room))))] rfl rfl rfl rfl (fun S hS hd => (.cons (hd.1 rfl rfl _ _ rfl) (.cons (hd.2.1 rfl rfl _ _ rfl) (Sub.nil _)))) (fun F_715 X l_716 => ?_)) ?_
                 ·skip
                  refine .pickFH hb333  rfl rfl rfl ?_
                  exact .fin1 (Fz.le_refl _)
                 refine .cons (.mk 155 (.bool (decide (x294.Amount > x294.Room))) [(154, (.bool (decide (x294.Amount > x294.Room))))] rfl rfl rfl rfl (fun S hS hd => (.cons (hd.1 rfl rfl _ _ rfl) (Sub.nil _))) (fun F_717 X l_718 => ?_)) ?_
                 ·skip
                  refine .move rfl rfl ?_
                  exact .fin1 (Fz.le_refl _)
                 refine .cons (.mk 156 (.pointer (some ⟨b304, 0 + 7, none⟩)) [(12, (.pointer (some ⟨b304, 0, none⟩))), (155, (.bool (decide (x294.Amount > x294.Room))))] rfl rfl rfl rfl (fun S hS hd => (.cons (hS _ _ rfl) (.cons (hd.1 rfl rfl _ _ rfl) (Sub.nil _)))) (fun F_719 X l_720 => ?_)) ?_
                 ·skip
                  refine .onH hb423 rfl rfl ?_
                  refine .fieldAddr rfl Try.underlying31 rfl Try.sizeOf3 rfl ?_
                  exact .fin1 (Fz.le_refl _)
                 refine .cons (.mk 157 (.int .i64 x294.Age) [(155, (.bool (decide (x294.Amount > x294.Room)))), (156, (.pointer (some ⟨b304, 0 + 7, none⟩)))] rfl rfl rfl rfl (fun S hS hd => (.cons (hd.2.1 rfl rfl _ _ rfl) (.cons (hd.1 rfl rfl _ _ rfl) (Sub.nil _)))) (fun F_721 X l_722 => ?_)) ?_
                 ·skip
                  refine .onH hb423 rfl rfl ?_
                  refine .loadO rfl Try.isAgg3 rfl (i := 0) rfl rfl ?_
                  exact .fin1 (Fz.le_refl _)
                 refine .cons (.mk 158 (.int .i64 b317) [(13, (.int .i64 b317)), (155, (.bool (decide (x294.Amount > x294.Room))))] rfl rfl rfl rfl (fun S hS hd => (.cons (hS _ _ rfl) (.cons (hd.1 rfl rfl _ _ rfl) (Sub.nil _)))) (fun F_723 X l_724 => ?_)) ?_
                 ·skip
                  refine .onH hb423 rfl rfl ?_
                  refine .move rfl rfl ?_
                  exact .fin1 (Fz.le_refl _)
                 refine .cons (.mk 159 (.bool (decide (x294.Age < b317))) [(155, (.bool (decide (x294.Amount > x294.Room)))), (157, (.int .i64 x294.Age)), (158, (.int .i64 b317))] rfl rfl rfl rfl (fun S hS hd => (.cons (hd.2.2.1 rfl rfl _ _ rfl) (.cons (hd.1 rfl rfl _ _ rfl) (.cons (hd.2.1 rfl rfl _ _ rfl) (Sub.nil _))))) (fun F_725 X l_726 => ?_)) ?_
                 ·skip
                  refine .onH hb423 rfl rfl ?_
                  refine .lss rfl rfl rfl ?_
                  exact .fin1 (Fz.le_refl _)
                 refine .cons (.mk 160 (.bool (decide (x294.Age < b317))) [(155, (.bool (decide (x294.Amount > x294.Room)))), (159, (.bool (decide (x294.Age < b317))))] rfl rfl rfl rfl (fun S hS hd => (.cons (hd.1 rfl rfl _ _ rfl) (.cons (hd.2.1 rfl rfl _ _ rfl) (Sub.nil _)))) (fun F_727 X l_728 => ?_)) ?_
                 ·skip
                  refine .pickFH hb423  rfl rfl rfl ?_
                  exact .fin1 (Fz.le_refl _)
                 refine .cons (.mk 161 (.bool (decide (x294.Age < b317))) [(160, (.bool (decide (x294.Age < b317))))] rfl rfl rfl rfl (fun S hS hd => (.cons (hd.1 rfl rfl _ _ rfl) (Sub.nil _))) (fun F_729 X l_730 => ?_)) ?_
                 ·skip
                  refine .move rfl rfl ?_
                  exact .fin1 (Fz.le_refl _)
                 refine .cons (.mk 162 (.pointer (some ⟨b304, 0 + 7, none⟩)) [(12, (.pointer (some ⟨b304, 0, none⟩))), (161, (.bool (decide (x294.Age < b317))))] rfl rfl rfl rfl (fun S hS hd => (.cons (hS _ _ rfl) (.cons (hd.1 rfl rfl _ _ rfl) (Sub.nil _)))) (fun F_731 X l_732 => ?_)) ?_
                 ·skip
                  refine .onH hb513 rfl rfl ?_
                  refine .fieldAddr rfl Try.underlying31 rfl Try.sizeOf3 rfl ?_
                  exact .fin1 (Fz.le_refl _)
                 refine .cons (.mk 163 (.int .i64 x294.Age) [(161, (.bool (decide (x294.Age < b317)))), (162, (.pointer (some ⟨b304, 0 + 7, none⟩)))] rfl rfl rfl rfl (fun S hS hd => (.cons (hd.2.1 rfl rfl _ _ rfl) (.cons (hd.1 rfl rfl _ _ rfl) (Sub.nil _)))) (fun F_733 X l_734 => ?_)) ?_
                 ·skip
                  refine .onH hb513 rfl rfl ?_
                  refine .loadO rfl Try.isAgg3 rfl (i := 0) rfl rfl ?_
                  exact .fin1 (Fz.le_refl _)
                 refine .cons (.mk 164 (.int .i64 b330) [(14, (.int .i64 b330)), (161, (.bool (decide (x294.Age < b317))))] rfl rfl rfl rfl (fun S hS hd => (.cons (hS _ _ rfl) (.cons (hd.1 rfl rfl _ _ rfl) (Sub.nil _)))) (fun F_735 X l_736 => ?_)) ?_
                 ·skip
                  refine .onH hb513 rfl rfl ?_
                  refine .move rfl rfl ?_
                  exact .fin1 (Fz.le_refl _)
                 refine .cons (.mk 165 (.bool (decide (x294.Age < b330))) [(161, (.bool (decide (x294.Age < b317)))), (163, (.int .i64 x294.Age)), (164, (.int .i64 b330))] rfl rfl rfl rfl (fun S hS hd => (.cons (hd.2.2.1 rfl rfl _ _ rfl) (.cons (hd.1 rfl rfl _ _ rfl) (.cons (hd.2.1 rfl rfl _ _ rfl) (Sub.nil _))))) (fun F_737 X l_738 => ?_)) ?_
                 ·skip
                  refine .onH hb513 rfl rfl ?_
                  refine .lss rfl rfl rfl ?_
                  exact .fin1 (Fz.le_refl _)
                 refine .cons (.mk 166 (.bool (decide (x294.Age < b330))) [(161, (.bool (decide (x294.Age < b317)))), (165, (.bool (decide (x294.Age < b330))))] rfl rfl rfl rfl (fun S hS hd => (.cons (hd.1 rfl rfl _ _ rfl) (.cons (hd.2.1 rfl rfl _ _ rfl) (Sub.nil _)))) (fun F_739 X l_740 => ?_)) ?_
                 ·skip
                  refine .pickFH hb513  rfl rfl rfl ?_
                  exact .fin1 (Fz.le_refl _)
                 refine .cons (.mk 167 (.bool (decide (x294.Age < b330))) [(166, (.bool (decide (x294.Age < b330))))] rfl rfl rfl rfl (fun S hS hd => (.cons (hd.1 rfl rfl _ _ rfl) (Sub.nil _))) (fun F_741 X l_742 => ?_)) ?_
                 ·skip
                  refine .move rfl rfl ?_
                  exact .fin1 (Fz.le_refl _)
                 refine .cons (.mk 168 (.pointer (some ⟨b304, 0 + 7, none⟩)) [(12, (.pointer (some ⟨b304, 0, none⟩))), (167, (.bool (decide (x294.Age < b330))))] rfl rfl rfl rfl (fun S hS hd => (.cons (hS _ _ rfl) (.cons (hd.1 rfl rfl _ _ rfl) (Sub.nil _)))) (fun F_743 X l_744 => ?_)) ?_
                 ·skip
                  refine .onH hb603 rfl rfl ?_
                  refine .fieldAddr rfl Try.underlying31 rfl Try.sizeOf3 rfl ?_
                  exact .fin1 (Fz.le_refl _)
                 refine .cons (.mk 169 (.int .i64 x294.Age) [(167, (.bool (decide (x294.Age < b330)))), (168, (.pointer (some ⟨b304, 0 + 7, none⟩)))] rfl rfl rfl rfl (fun S hS hd => (.cons (hd.2.1 rfl rfl _ _ rfl) (.cons (hd.1 rfl rfl _ _ rfl) (Sub.nil _)))) (fun F_745 X l_746 => ?_)) ?_
                 ·skip
                  refine .onH hb603 rfl rfl ?_
                  refine .loadO rfl Try.isAgg3 rfl (i := 0) rfl rfl ?_
                  exact .fin1 (Fz.le_refl _)
                 refine .cons (.mk 170 (.int .i64 day5) [(1, (.int .i64 day5)), (167, (.bool (decide (x294.Age < b330))))] rfl rfl rfl rfl (fun S hS hd => (.cons (hS _ _ rfl) (.cons (hd.1 rfl rfl _ _ rfl) (Sub.nil _)))) (fun F_747 X l_748 => ?_)) ?_
                 ·skip
                  refine .onH hb603 rfl rfl ?_
                  refine .move rfl rfl ?_
                  exact .fin1 (Fz.le_refl _)
                 refine .cons (.mk 171 (.bool (decide (x294.Age > day5))) [(167, (.bool (decide (x294.Age < b330)))), (169, (.int .i64 x294.Age)), (170, (.int .i64 day5))] rfl rfl rfl rfl (fun S hS hd => (.cons (hd.2.2.1 rfl rfl _ _ rfl) (.cons (hd.1 rfl rfl _ _ rfl) (.cons (hd.2.1 rfl rfl _ _ rfl) (Sub.nil _))))) (fun F_749 X l_750 => ?_)) ?_
                 ·skip
                  refine .onH hb603 rfl rfl ?_
                  refine .gtr rfl rfl rfl ?_
                  exact .fin1 (Fz.le_refl _)
                 refine .cons (.mk 172 (.bool (decide (x294.Age > day5))) [(167, (.bool (decide (x294.Age < b330)))), (171, (.bool (decide (x294.Age > day5))))] rfl rfl rfl rfl (fun S hS hd => (.cons (hd.1 rfl rfl _ _ rfl) (.cons (hd.2.1 rfl rfl _ _ rfl) (Sub.nil _)))) (fun F_751 X l_752 => ?_)) ?_
                 ·skip
                  refine .pickFH hb603  rfl rfl rfl ?_
                  exact .fin1 (Fz.le_refl _)
                 refine .cons (.mk 173 (.bool (decide (x294.Age > day5))) [(172, (.bool (decide (x294.Age > day5))))] rfl rfl rfl rfl (fun S hS hd => (.cons (hd.1 rfl rfl _ _ rfl) (Sub.nil _))) (fun F_753 X l_754 => ?_)) ?_
                 ·skip
                  refine .move rfl rfl ?_
                  exact .fin1 (Fz.le_refl _)
                 refine .cons (.mk 174 undef [(11, (.int .i64 s290.2)), (173, (.bool (decide (x294.Age > day5))))] rfl rfl rfl rfl (fun S hS hd => (.cons (hS _ _ rfl) (.cons (hd.1 rfl rfl _ _ rfl) (Sub.nil _)))) (fun F_755 X l_756 => ?_)) ?_
                 ·skip
                  refine .offH hb693 rfl rfl rfl ?_
                  exact .fin1 (Fz.le_refl _)
                 refine .cons (.mk 175 undef [(173, (.bool (decide (x294.Age > day5)))), (174, undef)] rfl rfl rfl rfl (fun S hS hd => (.cons (hd.2.1 rfl rfl _ _ rfl) (.cons (hd.1 rfl rfl _ _ rfl) (Sub.nil _)))) (fun F_757 X l_758 => ?_)) ?_
                 ·skip
                  refine .offH hb693 rfl rfl rfl ?_
                  exact .fin1 (Fz.le_refl _)
                 refine .cons (.mk 176 undef [(173, (.bool (decide (x294.Age > day5)))), (175, undef)] rfl rfl rfl rfl (fun S hS hd => (.cons (hd.2.1 rfl rfl _ _ rfl) (.cons (hd.1 rfl rfl _ _ rfl) (Sub.nil _)))) (fun F_759 X l_760 => ?_)) ?_
                 ·skip
                  refine .offH hb693 rfl rfl rfl ?_
                  exact .fin1 (Fz.le_refl _)
                 refine .cons (.mk 177 undef [(12, (.pointer (some ⟨b304, 0, none⟩))), (176, undef)] rfl rfl rfl rfl (fun S hS hd => (.cons (hS _ _ rfl) (.cons (hd.1 rfl rfl _ _ rfl) (Sub.nil _)))) (fun F_761 X l_762 => ?_)) ?_
                 ·skip
                  refine .off rfl rfl rfl rfl ?_
                  exact .fin1 (Fz.le_refl _)
                 refine .cons (.mk 178 undef [(176, undef), (177, undef)] rfl rfl rfl rfl (fun S hS hd => (.cons (hd.2.1 rfl rfl _ _ rfl) (.cons (hd.1 rfl rfl _ _ rfl) (Sub.nil _)))) (fun F_763 X l_764 => ?_)) ?_
                 ·skip
                  refine .off rfl rfl rfl rfl ?_
                  exact .fin1 (Fz.le_refl _)
                 refine .cons (.mk 179 undef [(5, (.slice p13 r_12.1.length k14)), (176, undef)] rfl rfl rfl rfl (fun S hS hd => (.cons (hS _ _ rfl) (.cons (hd.1 rfl rfl _ _ rfl) (Sub.nil _)))) (fun F_765 X l_766 => ?_)) ?_
                 ·skip
                  refine .off rfl rfl rfl rfl ?_
                  exact .fin1 (Fz.le_refl _)
                 refine .cons (.mk 180 undef [(11, (.int .i64 s290.2)), (176, undef)] rfl rfl rfl rfl (fun S hS hd => (.cons (hS _ _ rfl) (.cons (hd.1 rfl rfl _ _ rfl) (Sub.nil _)))) (fun F_767 X l_768 => ?_)) ?_
                 ·skip
                  refine .off rfl rfl rfl rfl ?_
                  exact .fin1 (Fz.le_refl _)
                 refine .cons (.mk 181 undef [(176, undef), (180, undef)] rfl rfl rfl rfl (fun S hS hd => (.cons (hd.2.1 rfl rfl _ _ rfl) (.cons (hd.1 rfl rfl _ _ rfl) (Sub.nil _)))) (fun F_769 X l_770 => ?_)) ?_
                 ·skip
                  refine .off rfl rfl rfl rfl ?_
                  exact .fin1 (Fz.le_refl _)
                 refine .cons (.mk 182 undef [(176, undef), (179, undef), (181, undef)] rfl rfl rfl rfl (fun S hS hd => (.cons (hd.2.2.1 rfl rfl _ _ rfl) (.cons (hd.1 rfl rfl _ _ rfl) (.cons (hd.2.1 rfl rfl _ _ rfl) (Sub.nil _))))) (fun F_771 X l_772 => ?_)) ?_
                 ·skip
                  refine .off rfl rfl rfl rfl ?_
                  exact .fin1 (Fz.le_refl _)
                 refine .cons (.mk 183 undef [(176, undef), (182, undef)] rfl rfl rfl rfl (fun S hS hd => (.cons (hd.2.1 rfl rfl _ _ rfl) (.cons (hd.1 rfl rfl _ _ rfl) (Sub.nil _)))) (fun F_773 X l_774 => ?_)) ?_
                 ·skip
                  refine .off rfl rfl rfl rfl ?_
                  exact .fin1 (Fz.le_refl _)
                 refine .cons (.mk 184 undef [(176, undef), (183, undef)] rfl rfl rfl rfl (fun S hS hd => (.cons (hd.2.1 rfl rfl _ _ rfl) (.cons (hd.1 rfl rfl _ _ rfl) (Sub.nil _)))) (fun F_775 X l_776 => ?_)) ?_
                 ·skip
                  refine .off rfl rfl rfl rfl ?_
                  exact .fin1 (Fz.le_refl _)
                 refine .cons (.mk 185 undef [(176, undef), (178, undef), (184, undef)] rfl rfl rfl rfl (fun S hS hd => (.cons (hd.2.2.1 rfl rfl _ _ rfl) (.cons (hd.1 rfl rfl _ _ rfl) (.cons (hd.2.1 rfl rfl _ _ rfl) (Sub.nil _))))) (fun F_777 X l_778 => ?_)) ?_
                 ·skip
                  refine .off rfl rfl rfl rfl ?_
                  exact .fin1 (Fz.le_refl _)
                 refine .cons (.mk 186 undef [(173, (.bool (decide (x294.Age > day5)))), (176, undef), (185, undef)] rfl rfl rfl rfl (fun S hS hd => (.cons (hd.2.2.1 rfl rfl _ _ rfl) (.cons (hd.1 rfl rfl _ _ rfl) (.cons (hd.2.1 rfl rfl _ _ rfl) (Sub.nil _))))) (fun F_779 X l_780 => ?_)) ?_
                 ·skip
                  refine .offH hb693 rfl rfl rfl ?_
                  exact .fin1 (Fz.le_refl _)
                 refine .cons (.mk 187 (.bool true) [(173, (.bool (decide (x294.Age > day5)))), (186, undef)] rfl rfl rfl rfl (fun S hS hd => (.cons (hd.1 rfl rfl _ _ rfl) (.cons (hd.2.1 rfl rfl _ _ rfl) (Sub.nil _)))) (fun F_781 X l_782 => ?_)) ?_
                 ·skip
                  refine .pickTH hb693  rfl rfl rfl ?_
                  exact .fin1 (Fz.le_refl _)
                 exact .nil
                refine .nil ?_
                exact .nil fun e a w h => by cases e; exact ⟨rfl, ⟨F_694, l_696, h.1.sub (.cons (k := 1) rfl (.cons (k := 5) rfl (.cons (k := 8) rfl (.cons (k := 9) rfl (.cons (k := 11) rfl (.cons (k := 12) rfl (.cons (k := 187) rfl (.nil _)))))))), h.2⟩⟩
               ·skip
                refine .ite (fun hb783 => ?_) (fun hb783 => ?_)
                ·skip
                 refine .bind (fun x784 e790 => ?_)
                 obtain ⟨b785, o786, T787, fr788, cs789, hm791, hv792, hq793⟩ := RepSl.idxE (h15.mono (Fz.le_trans l_37 (Fz.le_trans l_287 (Fz.le_trans l_292 (Fz.le_trans l_319 l_332))))) e790
                 refine .draw ⟨1000000, 0, [], 0⟩ [(145, (.pointer (some ⟨b304, 0 + 6, none⟩))), (146, (.int .i64 x294.Amount)), (147, (.bool (decide (x294.Amount < 0)))), (148, (.bool (decide (x294.Amount < 0)))), (149, (.pointer (some ⟨b304, 0 + 6, none⟩))), (150, (.int .i64 x294.Amount)), (151, (.pointer (some ⟨b304, 0 + 3, none⟩))), (152, (.int .i64 x294.Room)), (153, (.bool (decide (x294.Amount > x294.Room)))), (154, (.bool (decide (x294.Amount > x294.Room)))), (155, (.bool (decide (x294.Amount > x294.Room)))), (156, (.pointer (some ⟨b304, 0 + 7, none⟩))), (157, (.int .i64 x294.Age)), (158, (.int .i64 b317)), (159, (.bool (decide (x294.Age < b317)))), (160, (.bool (decide (x294.Age < b317)))), (161, (.bool (decide (x294.Age < b317)))), (162, (.pointer (some ⟨b304, 0 + 7, none⟩))), (163, (.int .i64 x294.Age)), (164, (.int .i64 b330)), (165, (.bool (decide (x294.Age < b330)))), (166, (.bool (decide (x294.Age < b330)))), (167, (.bool (decide (x294.Age < b330)))), (168, (.pointer (some ⟨b304, 0 + 7, none⟩))), (169, (.int .i64 x294.Age)), (170, (.int .i64 day5)), (171, (.bool (decide (x294.Age > day5)))), (172, (.bool (decide (x294.Age > day5)))), (173, (.bool (decide (x294.Age > day5)))), (174, (.int .i64 s290.2)), (175, (.bool (decide (s290.2 > 0)))), (176, (.bool (decide (s290.2 > 0)))), (177, (.pointer (some ⟨b304, 0 + 0, none⟩))), (178, (.int .i64 x294.Number)), (179, (.slice p13 r_12.1.length k14)), (180, (.int .i64 s290.2)), (181, (.int .i64 (w64 (s290.2 - 1)))), (182, (.pointer (some ⟨b785, o786, none⟩))), (183, (.pointer (some ⟨b785, o786, none⟩))), (184, (.int .i64 x784.Number)), (185, (.bool (decide (x294.Number ≤ x784.Number)))), (186, (.bool (decide (x294.Number ≤ x784.Number)))), (187, (.bool (decide (x294.Number ≤ x784.Number))))] mixedOK (by kernel_rfl) (by kernel_rfl) rfl (by kernel_rfl) ?_ (fun F_794 b795 l_796 => ?_)
                 ·skip
                  refine .cons (.mk 145 (.pointer (some ⟨b304, 0 + 6, none⟩)) [(12, (.pointer (some ⟨b304, 0, none⟩)))] rfl rfl rfl rfl (fun S hS hd => (.cons (hS _ _ rfl) (Sub.nil _))) (fun F_797 X l_798 => ?_)) ?_
                  ·skip
                   refine .fieldAddr rfl Try.underlying31 rfl Try.sizeOf3 rfl ?_
                   exact .fin1 (Fz.le_refl _)
                  refine .cons (.mk 146 (.int .i64 x294.Amount) [(145, (.pointer (some ⟨b304, 0 + 6, none⟩)))] rfl rfl rfl rfl (fun S hS hd => (.cons (hd.1 rfl rfl _ _ rfl) (Sub.nil _))) (fun F_799 X l_800 => ?_)) ?_
                  ·skip
                   refine .loadO rfl Try.isAgg3 rfl (i := 0) rfl rfl ?_
                   exact .fin1 (Fz.le_refl _)
                  refine .cons (.mk 147 (.bool (decide (x294.Amount < 0))) [(146, (.int .i64 x294.Amount))] rfl rfl rfl rfl (fun S hS hd => (.cons (hd.1 rfl rfl _ _ rfl) (Sub.nil _))) (fun F_801 X l_802 => ?_)) ?_
                  ·skip
                   refine .lss rfl rfl rfl ?_
                   exact .fin1 (Fz.le_refl _)
                  refine .cons (.mk 148 (.bool (decide (x294.Amount < 0))) [(147, (.bool (decide (x294.Amount < 0))))] rfl rfl rfl rfl (fun S hS hd => (.cons (hd.1 rfl rfl _ _ rfl) (Sub.nil _))) (fun F_803 X l_804 => ?_)) ?_
                  ·skip
                   refine .move rfl rfl ?_
                   exact .fin1 (Fz.le_refl _)
                  refine .cons (.mk 149 (.pointer (some ⟨b304, 0 + 6, none⟩)) [(12, (.pointer (some ⟨b304, 0, none⟩))), (148, (.bool (decide (x294.Amount < 0))))] rfl rfl rfl rfl (fun S hS hd => (.cons (hS _ _ rfl) (.cons (hd.1 rfl rfl _ _ rfl) (Sub.nil _)))) (fun F_805 X l_806 => ?_)) ?_
                  ·skip
                   refine .onH hb333 rfl rfl ?_
                   refine .fieldAddr rfl Try.underlying31 rfl Try.sizeOf3 rfl ?_
                   exact .fin1 (Fz.le_refl _)
                  refine .cons (.mk 150 (.int .i64 x294.Amount) [(148, (.bool (decide (x294.Amount < 0)))), (149, (.pointer (some ⟨b304, 0 + 6, none⟩)))] rfl rfl rfl rfl (fun S hS hd => (.cons (hd.2.1 rfl rfl _ _ rfl) (.cons (hd.1 rfl rfl _ _ rfl) (Sub.nil _)))) (fun F_807 X l_808 => ?_)) ?_
                  ·skip
                   refine .onH hb333 rfl rfl ?_
                   refine .loadO rfl Try.isAgg3 rfl (i := 0) rfl rfl ?_
                   exact .fin1 (Fz.le_refl _)
                  refine .cons (.mk 151 (.pointer (some ⟨b304, 0 + 3, none⟩)) [(12, (.pointer (some ⟨b304, 0, none⟩))), (148, (.bool (decide (x294.Amount < 0))))] rfl rfl rfl rfl (fun S hS hd => (.cons (hS _ _ rfl) (.cons (hd.1 rfl rfl _ _ rfl) (Sub.nil _)))) (fun F_809 X l_810 => ?_)) ?_
                  ·skip
                   refine .onH hb333 rfl rfl ?_
                   refine .fieldAddr rfl Try.underlying31 rfl Try.sizeOf3 rfl ?_
                   exact .fin1 (Fz.le_refl _)
                  refine .cons (.mk 152 (.int .i64 x294.Room) [(148, (.bool (decide (x294.Amount < 0)))), (151, (.pointer (some ⟨b304, 0 + 3, none⟩)))] rfl rfl rfl rfl (fun S hS hd => (.cons (hd.2.1 rfl rfl _ _ rfl) (.cons (hd.1 rfl rfl _ _ rfl) (Sub.nil _)))) (fun F_811 X l_812 => ?_)) ?_
                  ·skip
                   refine .onH hb333 rfl rfl ?_
                   refine .loadO rfl Try.isAgg3 rfl (i := 0) rfl rfl ?_
                   exact .fin1 (Fz.le_refl _)
                  refine .cons (.mk 153 (.bool (decide (x294.Amount > x294.Room))) [(148, (.bool (decide (x294.Amount < 0)))), (150, (.int .i64 x294.Amount)), (152, (.int .i64 x294.Room))] rfl rfl rfl rfl (fun S hS hd => (.cons (hd.2.2.1 rfl rfl _ _ rfl) (.cons (hd.1 rfl rfl _ _ rfl) (.cons (hd.2.1 rfl rfl _ _ rfl) (Sub.nil _))))) (fun F_813 X l_814 => ?_)) ?_
                  ·skip
                   refine .onH hb333 rfl rfl ?_
                   refine .gtr rfl rfl rfl ?_
                   exact .fin1 (Fz.le_refl _)
                  refine .cons (.mk 154 (.bool (decide (x294.Amount > x294.Room))) [(148, (.bool (decide (x294.Amount < 0)))), (153, (.bool (decide (x294.Amount > x294.Room))))] rfl rfl rfl rfl (fun S hS hd => (.cons (hd.1 rfl rfl _ _ rfl) (.cons (hd.2.1 rfl rfl _ _ rfl) (Sub.nil _)))) (fun F_815 X l_816 => ?_)) ?_
                  ·skip
                   refine .pickFH hb333  rfl rfl rfl ?_
                   exact .fin1 (Fz.le_refl _)
                  refine .cons (.mk 155 (.bool (decide (x294.Amount > x294.Room))) [(154, (.bool (decide (x294.Amount > x294.Room))))] rfl rfl rfl rfl (fun S hS hd => (.cons (hd.1 rfl rfl _ _ rfl) (Sub.nil _))) (fun F_817 X l_818 => ?_)) ?_
                  ·skip
                   refine .move rfl rfl ?_
                   exact .fin1 (Fz.le_refl _)
                  refine .cons (.mk 156 (.pointer (some ⟨b304, 0 + 7, none⟩)) [(12, (.pointer (some ⟨b304, 0, none⟩))), (155, (.bool (decide (x294.Amount > x294.Room))))] rfl rfl rfl rfl (fun S hS hd => (.cons (hS _ _ rfl) (.cons (hd.1 rfl rfl _ _ rfl) (Sub.nil _)))) (fun F_819 X l_820 => ?_)) ?_
                  ·skip
                   refine .onH hb423 rfl rfl ?_
                   refine .fieldAddr rfl Try.underlying31 rfl Try.sizeOf3 rfl ?_
                   exact .fin1 (Fz.le_refl _)
                  refine .cons (.mk 157 (.int .i64 x294.Age) [(155, (.bool (decide (x294.Amount > x294.Room)))), (156, (.pointer (some ⟨b304, 0 + 7, none⟩)))] rfl rfl rfl rfl (fun S hS hd => (.cons (hd.2.1 rfl rfl _ _ rfl) (.cons (hd.1 rfl rfl _ _ rfl) (Sub.nil _)))) (fun F_821 X l_822 => ?_)) ?_
                  ·skip
                   refine .onH hb423 rfl rfl ?_
                   refine .loadO rfl Try.isAgg3 rfl (i := 0) rfl rfl ?_
                   exact .fin1 (Fz.le_refl _)
                  refine .cons (.mk 158 (.int .i64 b317) [(13, (.int .i64 b317)), (155, (.bool (decide (x294.Amount > x294.Room))))] rfl rfl rfl rfl (fun S hS hd => (.cons (hS _ _ rfl) (.cons (hd.1 rfl rfl _ _ rfl) (Sub.nil _)))) (fun F_823 X l_824 => ?_)) ?_
                  ·skip
                   refine .onH hb423 rfl rfl ?_
                   refine .move rfl rfl ?_
                   exact .fin1 (Fz.le_refl _)
                  refine .cons (.mk 159 (.bool (decide (x294.Age < b317))) [(155, (.bool (decide (x294.Amount > x294.Room)))), (157, (.int .i64 x294.Age)), (158, (.int .i64 b317))] rfl rfl rfl rfl (fun S hS hd => (.cons (hd.2.2.1 rfl rfl _ _ rfl) (.cons (hd.1 rfl rfl _ _ rfl) (.cons (hd.2.1 rfl rfl _ _ rfl) (Sub.nil _))))) (fun F_825 X l_826 => ?_)) ?_
                  ·skip
                   refine .onH hb423 rfl rfl ?_
                   refine .lss rfl rfl rfl ?_
                   exact .fin1 (Fz.le_refl _)
                  refine .cons (.mk 160 (.bool (decide (x294.Age < b317))) [(155, (.bool (decide (x294.Amount > x294.Room)))), (159, (.bool (decide (x294.Age < b317))))] rfl rfl rfl rfl (fun S hS hd => (.cons (hd.1 rfl rfl _ _ rfl) (.cons (hd.2.1 rfl rfl _ _ rfl) (Sub.nil _)))) (fun F_827 X l_828 => ?_)) ?_
                  ·skip
                   refine .pickFH hb423  rfl rfl rfl ?_
                   exact .fin1 (Fz.le_refl _)
                  refine .cons (.mk 161 (.bool (decide (x294.Age < b317))) [(160, (.bool (decide (x294.Age < b317))))] rfl rfl rfl rfl (fun S hS hd => (.cons (hd.1 rfl rfl _ _ rfl) (Sub.nil _))) (fun F_829 X l_830 => ?_)) ?_
                  ·skip
                   refine .move rfl rfl ?_
                   exact .fin1 (Fz.le_refl _)
                  refine .cons (.mk 162 (.pointer (some ⟨b304, 0 + 7, none⟩)) [(12, (.pointer (some ⟨b304, 0, none⟩))), (161, (.bool (decide (x294.Age < b317))))] rfl rfl rfl rfl (fun S hS hd => (.cons (hS _ _ rfl) (.cons (hd.1 rfl rfl _ _ rfl) (Sub.nil _)))) (fun F_831 X l_832 => ?_)) ?_
                  ·skip
                   refine .onH hb513 rfl rfl ?_
                   refine .fieldAddr rfl Try.underlying31 rfl Try.sizeOf3 rfl ?_
                   exact .fin1 (Fz.le_refl _)
                  refine .cons (.mk 163 (.int .i64 x294.Age) [(161, (.bool (decide (x294.Age < b317)))), (162, (.pointer (some ⟨b304, 0 + 7, none⟩)))] rfl rfl rfl rfl (fun S hS hd => (.cons (hd.2.1 rfl rfl _ _ rfl) (.cons (hd.1 rfl rfl _ _ rfl) (Sub.nil _)))) (fun F_833 X l_834 => ?_)) ?_
                  ·skip
                   refine .onH hb513 rfl rfl ?_
                   refine .loadO rfl Try.isAgg3 rfl (i := 0) rfl rfl ?_
                   exact .fin1 (Fz.le_refl _)
                  refine .cons (.mk 164 (.int .i64 b330) [(14, (.int .i64 b330)), (161, (.bool (decide (x294.Age < b317))))] rfl rfl rfl rfl (fun S hS hd => (.cons (hS _ _ rfl) (.cons (hd.1 rfl rfl _ _ rfl) (Sub.nil _)))) (fun F_835 X l_836 => ?_)) ?_
                  ·skip
                   refine .onH hb513 rfl rfl ?_
                   refine .move rfl rfl ?_
                   exact .fin1 (Fz.le_refl _)
                  refine .cons (.mk 165 (.bool (decide (x294.Age < b330))) [(161, (.bool (decide (x294.Age < b317)))), (163, (.int .i64 x294.Age)), (164, (.int .i64 b330))] rfl rfl rfl rfl (fun S hS hd => (.cons (hd.2.2.1 rfl rfl _ _ rfl) (.cons (hd.1 rfl rfl _ _ rfl) (.cons (hd.2.1 rfl rfl _ _ rfl) (Sub.nil _))))) (fun F_837 X l_838 => ?_)) ?_
                  ·skip
                   refine .onH hb513 rfl rfl ?_
                   refine .lss rfl rfl rfl ?_
                   exact .fin1 (Fz.le_refl _)
                  refine .cons (.mk 166 (.bool (decide (x294.Age < b330))) [(161, (.bool (decide (x294.Age < b317)))), (165, (.bool (decide (x294.Age < b330))))] rfl rfl rfl rfl (fun S hS hd => (.cons (hd.1 rfl rfl _ _ rfl) (.cons (hd.2.1 rfl rfl _ _ rfl) (Sub.nil _)))) (fun F_839 X l_840 => ?_)) ?_
                  ·skip
                   refine .pickFH hb513  rfl rfl rfl ?_
                   exact .fin1 (Fz.le_refl _)
                  refine .cons (.mk 167 (.bool (decide (x294.Age < b330))) [(166, (.bool (decide (x294.Age < b330))))] rfl rfl rfl rfl (fun S hS hd => (.cons (hd.1 rfl rfl _ _ rfl) (Sub.nil _))) (fun F_841 X l_842 => ?_)) ?_
                  ·skip
                   refine .move rfl rfl ?_
                   exact .fin1 (Fz.le_refl _)
                  refine .cons (.mk 168 (.pointer (some ⟨b304, 0 + 7, none⟩)) [(12, (.pointer (some ⟨b304, 0, none⟩))), (167, (.bool (decide (x294.Age < b330))))] rfl rfl rfl rfl (fun S hS hd => (.cons (hS _ _ rfl) (.cons (hd.1 rfl rfl _ _ rfl) (Sub.nil _)))) (fun F_843 X l_844 => ?_)) ?_
                  ·skip
                   refine .onH hb603 rfl rfl ?_
                   refine .fieldAddr rfl Try.underlying31 rfl Try.sizeOf3 rfl ?_
                   exact .fin1 (Fz.le_refl _)
                  refine .cons (.mk 169 (.int .i64 x294.Age) [(167, (.bool (decide (x294.Age < b330)))), (168, (.pointer (some ⟨b304, 0 + 7, none⟩)))] rfl rfl rfl rfl (fun S hS hd => (.cons (hd.2.1 rfl rfl _ _ rfl) (.cons (hd.1 rfl rfl _ _ rfl) (Sub.nil _)))) (fun F_845 X l_846 => ?_)) ?_
                  ·skip
                   refine .onH hb603 rfl rfl ?_
                   refine .loadO rfl Try.isAgg3 rfl (i := 0) rfl rfl ?_
                   exact .fin1 (Fz.le_refl _)
                  refine .cons (.mk 170 (.int .i64 day5) [(1, (.int .i64 day5)), (167, (.bool (decide (x294.Age < b330))))] rfl rfl rfl rfl (fun S hS hd => (.cons (hS _ _ rfl) (.cons (hd.1 rfl rfl _ _ rfl) (Sub.nil _)))) (fun F_847 X l_848 => ?_)) ?_
                  ·skip
                   refine .onH hb603 rfl rfl ?_
                   refine .move rfl rfl ?_
                   exact .fin1 (Fz.le_refl _)
                  refine .cons (.mk 171 (.bool (decide (x294.Age > day5))) [(167, (.bool (decide (x294.Age < b330)))), (169, (.int .i64 x294.Age)), (170, (.int .i64 day5))] rfl rfl rfl rfl (fun S hS hd => (.cons (hd.2.2.1 rfl rfl _ _ rfl) (.cons (hd.1 rfl rfl _ _ rfl) (.cons (hd.2.1 rfl rfl _ _ rfl) (Sub.nil _))))) (fun F_849 X l_850 => ?_)) ?_
                  ·skip
                   refine .onH hb603 rfl rfl ?_
                   refine .gtr rfl rfl rfl ?_
                   exact .fin1 (Fz.le_refl _)
                  refine .cons (.mk 172 (.bool (decide (x294.Age > day5))) [(167, (.bool (decide (x294.Age < b330)))), (171, (.bool (decide (x294.Age > day5))))] rfl rfl rfl rfl (fun S hS hd => (.cons (hd.1 rfl rfl _ _ rfl) (.cons (hd.2.1 rfl rfl _ _ rfl) (Sub.nil _)))) (fun F_851 X l_852 => ?_)) ?_
                  ·skip
                   refine .pickFH hb603  rfl rfl rfl ?_
                   exact .fin1 (Fz.le_refl _)
                  refine .cons (.mk 173 (.bool (decide (x294.Age > day5))) [(172, (.bool (decide (x294.Age > day5))))] rfl rfl rfl rfl (fun S hS hd => (.cons (hd.1 rfl rfl _ _ rfl) (Sub.nil _))) (fun F_853 X l_854 => ?_)) ?_
                  ·skip
                   refine .move rfl rfl ?_
                   exact .fin1 (Fz.le_refl _)
                  refine .cons (.mk 174 (.int .i64 s290.2) [(11, (.int .i64 s290.2)), (173, (.bool (decide (x294.Age > day5))))] rfl rfl rfl rfl (fun S hS hd => (.cons (hS _ _ rfl) (.cons (hd.1 rfl rfl _ _ rfl) (Sub.nil _)))) (fun F_855 X l_856 => ?_)) ?_
                  ·skip
                   refine .onH hb693 rfl rfl ?_
                   refine .move rfl rfl ?_
                   exact .fin1 (Fz.le_refl _)
                  refine .cons (.mk 175 (.bool (decide (s290.2 > 0))) [(173, (.bool (decide (x294.Age > day5)))), (174, (.int .i64 s290.2))] rfl rfl rfl rfl (fun S hS hd => (.cons (hd.2.1 rfl rfl _ _ rfl) (.cons (hd.1 rfl rfl _ _ rfl) (Sub.nil _)))) (fun F_857 X l_858 => ?_)) ?_
                  ·skip
                   refine .onH hb693 rfl rfl ?_
                   refine .gtr rfl rfl rfl ?_
                   exact .fin1 (Fz.le_refl _)
                  refine .cons (.mk 176 (.bool (decide (s290.2 > 0))) [(173, (.bool (decide (x294.Age > day5)))), (175, (.bool (decide (s290.2 > 0))))] rfl rfl rfl rfl (fun S hS hd => (.cons (hd.2.1 rfl rfl _ _ rfl) (.cons (hd.1 rfl rfl _ _ rfl) (Sub.nil _)))) (fun F_859 X l_860 => ?_)) ?_
                  ·skip
                   refine .onH hb693 rfl rfl ?_
                   refine .move rfl rfl ?_
                   exact .fin1 (Fz.le_refl _)
                  refine .cons (.mk 177 (.pointer (some ⟨b304, 0 + 0, none⟩)) [(12, (.pointer (some ⟨b304, 0, none⟩))), (176, (.bool (decide (s290.2 > 0))))] rfl rfl rfl rfl (fun S hS hd => (.cons (hS _ _ rfl) (.cons (hd.1 rfl rfl _ _ rfl) (Sub.nil _)))) (fun F_861 X l_862 => ?_)) ?_
                  ·skip
                   refine .onH hb783 rfl rfl ?_
                   refine .fieldAddr rfl Try.underlying31 rfl Try.sizeOf3 rfl ?_
                   exact .fin1 (Fz.le_refl _)
                  refine .cons (.mk 178 (.int .i64 x294.Number) [(176, (.bool (decide (s290.2 > 0)))), (177, (.pointer (some ⟨b304, 0 + 0, none⟩)))] rfl rfl rfl rfl (fun S hS hd => (.cons (hd.2.1 rfl rfl _ _ rfl) (.cons (hd.1 rfl rfl _ _ rfl) (Sub.nil _)))) (fun F_863 X l_864 => ?_)) ?_
                  ·skip
                   refine .onH hb783 rfl rfl ?_
                   refine .loadO rfl Try.isAgg3 rfl (i := 0) rfl rfl ?_
                   exact .fin1 (Fz.le_refl _)
                  refine .cons (.mk 179 (.slice p13 r_12.1.length k14) [(5, (.slice p13 r_12.1.length k14)), (176, (.bool (decide (s290.2 > 0))))] rfl rfl rfl rfl (fun S hS hd => (.cons (hS _ _ rfl) (.cons (hd.1 rfl rfl _ _ rfl) (Sub.nil _)))) (fun F_865 X l_866 => ?_)) ?_
                  ·skip
                   refine .onH hb783 rfl rfl ?_
                   refine .move rfl rfl ?_
                   exact .fin1 (Fz.le_refl _)
                  refine .cons (.mk 180 (.int .i64 s290.2) [(11, (.int .i64 s290.2)), (176, (.bool (decide (s290.2 > 0))))] rfl rfl rfl rfl (fun S hS hd => (.cons (hS _ _ rfl) (.cons (hd.1 rfl rfl _ _ rfl) (Sub.nil _)))) (fun F_867 X l_868 => ?_)) ?_
                  ·skip
                   refine .onH hb783 rfl rfl ?_
                   refine .move rfl rfl ?_
                   exact .fin1 (Fz.le_refl _)
                  refine .cons (.mk 181 (.int .i64 (w64 (s290.2 - 1))) [(176, (.bool (decide (s290.2 > 0)))), (180, (.int .i64 s290.2))] rfl rfl rfl rfl (fun S hS hd => (.cons (hd.2.1 rfl rfl _ _ rfl) (.cons (hd.1 rfl rfl _ _ rfl) (Sub.nil _)))) (fun F_869 X l_870 => ?_)) ?_
                  ·skip
                   refine .onH hb783 rfl rfl ?_
                   refine .sub rfl rfl rfl ?_
                   exact .fin1 (Fz.le_refl _)
                  refine .cons (.mk 182 (.pointer (some ⟨b785, o786, none⟩)) [(176, (.bool (decide (s290.2 > 0)))), (179, (.slice p13 r_12.1.length k14)), (181, (.int .i64 (w64 (s290.2 - 1))))] rfl rfl rfl rfl (fun S hS hd => (.cons (hd.2.2.1 rfl rfl _ _ rfl) (.cons (hd.1 rfl rfl _ _ rfl) (.cons (hd.2.1 rfl rfl _ _ rfl) (Sub.nil _))))) (fun F_871 X l_872 => ?_)) ?_
                  ·skip
                   refine .onH hb783 rfl rfl ?_
                   refine .idxQ rfl Try.underlying25 Try.sizeOf31 hq793 rfl rfl ?_
                   exact .fin1 (Fz.le_refl _)
                  refine .cons (.mk 183 (.pointer (some ⟨b785, o786, none⟩)) [(176, (.bool (decide (s290.2 > 0)))), (182, (.pointer (some ⟨b785, o786, none⟩)))] rfl rfl rfl rfl (fun S hS hd => (.cons (hd.2.1 rfl rfl _ _ rfl) (.cons (hd.1 rfl rfl _ _ rfl) (Sub.nil _)))) (fun F_873 X l_874 => ?_)) ?_
                  ·skip
                   refine .onH hb783 rfl rfl ?_
                   refine .fieldAddr rfl Try.underlying31 rfl Try.sizeOf3 rfl ?_
                   exact .fin1 (Fz.le_refl _)
                  refine .cons (.mk 184 (.int .i64 x784.Number) [(176, (.bool (decide (s290.2 > 0)))), (183, (.pointer (some ⟨b785, o786, none⟩)))] rfl rfl rfl rfl (fun S hS hd => (.cons (hd.2.1 rfl rfl _ _ rfl) (.cons (hd.1 rfl rfl _ _ rfl) (Sub.nil _)))) (fun F_875 X l_876 => ?_)) ?_
                  ·skip
                   refine .onH hb783 rfl rfl ?_
                   refine .loadF rfl Try.isAgg3 rfl (l_876.mem _ _ hm791) (cell_of_take (k := 0) hv792 rfl) ?_
                   exact .fin1 (Fz.le_refl _)
                  refine .cons (.mk 185 (.bool (decide (x294.Number ≤ x784.Number))) [(176, (.bool (decide (s290.2 > 0)))), (178, (.int .i64 x294.Number)), (184, (.int .i64 x784.Number))] rfl rfl rfl rfl (fun S hS hd => (.cons (hd.2.2.1 rfl rfl _ _ rfl) (.cons (hd.1 rfl rfl _ _ rfl) (.cons (hd.2.1 rfl rfl _ _ rfl) (Sub.nil _))))) (fun F_877 X l_878 => ?_)) ?_
                  ·skip
                   refine .onH hb783 rfl rfl ?_
                   refine .leq rfl rfl rfl ?_
                   exact .fin1 (Fz.le_refl _)
                  refine .cons (.mk 186 (.bool (decide (x294.Number ≤ x784.Number))) [(173, (.bool (decide (x294.Age > day5)))), (176, (.bool (decide (s290.2 > 0)))), (185, (.bool (decide (x294.Number ≤ x784.Number))))] rfl rfl rfl rfl (fun S hS hd => (.cons (hd.2.2.1 rfl rfl _ _ rfl) (.cons (hd.1 rfl rfl _ _ rfl) (.cons (hd.2.1 rfl rfl _ _ rfl) (Sub.nil _))))) (fun F_879 X l_880 => ?_)) ?_
                  ·skip
                   refine .onH hb693 rfl rfl ?_
                   refine .pickTH hb783  rfl rfl rfl ?_
                   exact .fin1 (Fz.le_refl _)
                  refine .cons (.mk 187 (.bool (decide (x294.Number ≤ x784.Number))) [(173, (.bool (decide (x294.Age > day5)))), (186, (.bool (decide (x294.Number ≤ x784.Number))))] rfl rfl rfl rfl (fun S hS hd => (.cons (hd.1 rfl rfl _ _ rfl) (.cons (hd.2.1 rfl rfl _ _ rfl) (Sub.nil _)))) (fun F_881 X l_882 => ?_)) ?_
                  ·skip
                   refine .pickFH hb693  rfl rfl rfl ?_
                   exact .fin1 (Fz.le_refl _)
                  exact .nil
                 refine .nil ?_
                 exact .nil fun e a w h => by cases e; exact ⟨rfl, ⟨F_794, l_796, h.1.sub (.cons (k := 1) rfl (.cons (k := 5) rfl (.cons (k := 8) rfl (.cons (k := 9) rfl (.cons (k := 11) rfl (.cons (k := 12) rfl (.cons (k := 187) rfl (.nil _)))))))), h.2⟩⟩
                ·skip
                 refine .draw ⟨1000000, 0, [], 0⟩ [(145, (.pointer (some ⟨b304, 0 + 6, none⟩))), (146, (.int .i64 x294.Amount)), (147, (.bool (decide (x294.Amount < 0)))), (148, (.bool (decide (x294.Amount < 0)))), (149, (.pointer (some ⟨b304, 0 + 6, none⟩))), (150, (.int .i64 x294.Amount)), (151, (.pointer (some ⟨b304, 0 + 3, none⟩))), (152, (.int .i64 x294.Room)), (153, (.bool (decide (x294.Amount > x294.Room)))), (154, (.bool (decide (x294.Amount > x294.Room)))), (155, (.bool (decide (x294.Amount > x294.Room)))), (156, (.pointer (some ⟨b304, 0 + 7, none⟩))), (157, (.int .i64 x294.Age)), (158, (.int .i64 b317)), (159, (.bool (decide (x294.Age < b317)))), (160, (.bool (decide (x294.Age < b317)))), (161, (.bool (decide (x294.Age < b317)))), (162, (.pointer (some ⟨b304, 0 + 7, none⟩))), (163, (.int .i64 x294.Age)), (164, (.int .i64 b330)), (165, (.bool (decide (x294.Age < b330)))), (166, (.bool (decide (x294.Age < b330)))), (167, (.bool (decide (x294.Age < b330)))), (168, (.pointer (some ⟨b304, 0 + 7, none⟩))), (169, (.int .i64 x294.Age)), (170, (.int .i64 day5)), (171, (.bool (decide (x294.Age > day5)))), (172, (.bool (decide (x294.Age > day5)))), (173, (.bool (decide (x294.Age > day5)))), (174, (.int .i64 s290.2)), (175, (.bool (decide (s290.2 > 0)))), (176, (.bool (decide (s290.2 > 0)))), (177, undef), (178, undef), (179, undef), (180, undef), (181, undef), (182, undef), (183, undef), (184, undef), (185, undef), (186, (.bool false)), (187, (.bool false))] mixedOK (by kernel_rfl) (by kernel_rfl) rfl (by kernel_rfl) ?_ (fun F_883 b884 l_885 => ?_)
                 ·skip
                  refine .cons (.mk 145 (.pointer (some ⟨b304, 0 + 6, none⟩)) [(12, (.pointer (some ⟨b304, 0, none⟩)))] rfl rfl rfl rfl (fun S hS hd => (.cons (hS _ _ rfl) (Sub.nil _))) (fun F_886 X l_887 => ?_)) ?_
                  ·skip
                   refine .fieldAddr rfl Try.underlying31 rfl Try.sizeOf3 rfl ?_
                   exact .fin1 (Fz.le_refl _)
                  refine .cons (.mk 146 (.int .i64 x294.Amount) [(145, (.pointer (some ⟨b304, 0 + 6, none⟩)))] rfl rfl rfl rfl (fun S hS hd => (.cons (hd.1 rfl rfl _ _ rfl) (Sub.nil _))) (fun F_888 X l_889 => ?_)) ?_
                  ·skip
                   refine .loadO rfl Try.isAgg3 rfl (i := 0) rfl rfl ?_
                   exact .fin1 (Fz.le_refl _)
                  refine .cons (.mk 147 (.bool (decide (x294.Amount < 0))) [(146, (.int .i64 x294.Amount))] rfl rfl rfl rfl (fun S hS hd => (.cons (hd.1 rfl rfl _ _ rfl) (Sub.nil _))) (fun F_890 X l_891 => ?_)) ?_
                  ·skip
                   refine .lss rfl rfl rfl ?_
                   exact .fin1 (Fz.le_refl _)
                  refine .cons (.mk 148 (.bool (decide (x294.Amount < 0))) [(147, (.bool (decide (x294.Amount < 0))))] rfl rfl rfl rfl (fun S hS hd => (.cons (hd.1 rfl rfl _ _ rfl) (Sub.nil _))) (fun F_892 X l_893 => ?_)) ?_
                  ·skip
                   refine .move rfl rfl ?_
                   exact .fin1 (Fz.le_refl _)
                  refine .cons (.mk 149 (.pointer (some ⟨b304, 0 + 6, none⟩)) [(12, (.pointer (some ⟨b304, 0, none⟩))), (148, (.bool (decide (x294.Amount < 0))))] rfl rfl rfl rfl (fun S hS hd => (.cons (hS _ _ rfl) (.cons (hd.1 rfl rfl _ _ rfl) (Sub.nil _)))) (fun F_894 X l_895 => ?_)) ?_
                  ·skip
                   refine .onH hb333 rfl rfl ?_
                   refine .fieldAddr rfl Try.underlying31 rfl Try.sizeOf3 rfl ?_
                   exact .fin1 (Fz.le_refl _)
                  refine .cons (.mk 150 (.int .i64 x294.Amount) [(148, (.bool (decide (x294.Amount < 0)))), (149, (.pointer (some ⟨b304, 0 + 6, none⟩)))] rfl rfl rfl rfl (fun S hS hd => (.cons (hd.2.1 rfl rfl _ _ rfl) (.cons (hd.1 rfl rfl _ _ rfl) (Sub.nil _)))) (fun F_896 X l_897 => ?_)) ?_
                  ·skip
                   refine .onH hb333 rfl rfl ?_
                   refine .loadO rfl Try.isAgg3 rfl (i := 0) rfl rfl ?_
                   exact .fin1 (Fz.le_refl _)
                  refine .cons (.mk 151 (.pointer (some ⟨b304, 0 + 3, none⟩)) [(12, (.pointer (some ⟨b304, 0, none⟩))), (148, (.bool (decide (x294.Amount < 0))))] rfl rfl rfl rfl (fun S hS hd => (.cons (hS _ _ rfl) (.cons (hd.1 rfl rfl _ _ rfl) (Sub.nil _)))) (fun F_898 X l_899 => ?_)) ?_
                  ·skip
                   refine .onH hb333 rfl rfl ?_
                   refine .fieldAddr rfl Try.underlying31 rfl Try.sizeOf3 rfl ?_
                   exact .fin1 (Fz.le_refl _)
                  refine .cons (.mk 152 (.int .i64 x294.Room) [(148, (.bool (decide (x294.Amount < 0)))), (151, (.pointer (some ⟨b304, 0 + 3, none⟩)))] rfl rfl rfl rfl (fun S hS hd => (.cons (hd.2.1 rfl rfl _ _ rfl) (.cons (hd.1 rfl rfl _ _ rfl) (Sub.nil _)))) (fun F_900 X l_901 => ?_)) ?_
                  ·skip
                   refine .onH hb333 rfl rfl ?_
                   refine .loadO rfl Try.isAgg3 rfl (i := 0) rfl rfl ?_
                   exact .fin1 (Fz.le_refl _)
                  refine .cons (.mk 153 (.bool (decide (x294.Amount > x294.Room))) [(148, (.bool (decide (x294.Amount < 0)))), (150, (.int .i64 x294.Amount)), (152, (.int .i64 x294.Room))] rfl rfl rfl rfl (fun S hS hd => (.cons (hd.2.2.1 rfl rfl _ _ rfl) (.cons (hd.1 rfl rfl _ _ rfl) (.cons (hd.2.1 rfl rfl _ _ rfl) (Sub.nil _))))) (fun F_902 X l_903 => ?_)) ?_
                  ·skip
                   refine .onH hb333 rfl rfl ?_
                   refine .gtr rfl rfl rfl ?_
                   exact .fin1 (Fz.le_refl _)
                  refine .cons (.mk 154 (.bool (decide (x294.Amount > x294.Room))) [(148, (.bool (decide (x294.Amount < 0)))), (153, (.bool (decide (x294.Amount > x294.Room))))] rfl rfl rfl rfl (fun S hS hd => (.cons (hd.1 rfl rfl _ _ rfl) (.cons (hd.2.1 rfl rfl _ _ rfl) (Sub.nil _)))) (fun F_904 X l_905 => ?_)) ?_
                  ·skip
                   refine .pickFH hb333  rfl rfl rfl ?_
                   exact .fin1 (Fz.le_refl _)
                  refine .cons (.mk 155 (.bool (decide (x294.Amount > x294.Room))) [(154, (.bool (decide (x294.Amount > x294.Room))))] rfl rfl rfl rfl (fun S hS hd => (.cons (hd.1 rfl rfl _ _ rfl) (Sub.nil _))) (fun F_906 X l_907 => ?_)) ?_
                  ·skip
                   refine .move rfl rfl ?_
                   exact .fin1 (Fz.le_refl _)
                  refine .cons (.mk 156 (.pointer (some ⟨b304, 0 + 7, none⟩)) [(12, (.pointer (some ⟨b304, 0, none⟩))), (155, (.bool (decide (x294.Amount > x294.Room))))] rfl rfl rfl rfl (fun S hS hd => (.cons (hS _ _ rfl) (.cons (hd.1 rfl rfl _ _ rfl) (Sub.nil _)))) (fun F_908 X l_909 => ?_)) ?_
                  ·skip
                   refine .onH hb423 rfl rfl ?_
                   refine .fieldAddr rfl Try.underlying31 rfl Try.sizeOf3 rfl ?_
                   exact .fin1 (Fz.le_refl _)
                  refine .cons (.mk 157 (.int .i64 x294.Age) [(155, (.bool (decide (x294.Amount > x294.Room)))), (156, (.pointer (some ⟨b304, 0 + 7, none⟩)))] rfl rfl rfl rfl (fun S hS hd => (.cons (hd.2.1 rfl rfl _ _ rfl) (.cons (hd.1 rfl rfl _ _ rfl) (Sub.nil _)))) (fun F_910 X l_911 => ?_)) ?_
                  ·skip
                   refine .onH hb423 rfl rfl ?_
                   refine .loadO rfl Try.isAgg3 rfl (i := 0) rfl rfl ?_
                   exact .fin1 (Fz.le_refl _)
                  refine .cons (.mk 158 (.int .i64 b317) [(13, (.int .i64 b317)), (155, (.bool (decide (x294.Amount > x294.Room))))] rfl rfl rfl rfl (fun S hS hd => (.cons (hS _ _ rfl) (.cons (hd.1 rfl rfl _ _ rfl) (Sub.nil _)))) (fun F_912 X l_913 => ?_)) ?_
                  ·skip
                   refine .onH hb423 rfl rfl ?_
                   refine .move rfl rfl ?_
                   exact .fin1 (Fz.le_refl _)
                  refine .cons (.mk 159 (.bool (decide (x294.Age < b317))) [(155, (.bool (decide (x294.Amount > x294.Room)))), (157, (.int .i64 x294.Age)), (158, (.int .i64 b317))] rfl rfl rfl rfl (fun S hS hd => (.cons (hd.2.2.1 rfl rfl _ _ rfl) (.cons (hd.1 rfl rfl _ _ rfl) (.cons (hd.2.1 rfl rfl _ _ rfl) (Sub.nil _))))) (fun F_914 X l_915 => ?_)) ?_
                  ·skip
                   refine .onH hb423 rfl rfl ?_
                   refine .lss rfl rfl rfl ?_
                   exact .fin1 (Fz.le_refl _)
                  refine .cons (.mk 160 (.bool (decide (x294.Age < b317))) [(155, (.bool (decide (x294.Amount > x294.Room)))), (159, (.bool (decide (x294.Age < b317))))] rfl rfl rfl rfl (fun S hS hd => (.cons (hd.1 rfl rfl _ _ rfl) (.cons (hd.2.1 rfl rfl _ _ rfl) (Sub.nil _)))) (fun F_916 X l_917 => ?_)) ?_
                  ·skip
                   refine .pickFH hb423  rfl rfl rfl ?_
                   exact .fin1 (Fz.le_refl _)
                  refine .cons (.mk 161 (.bool (decide (x294.Age < b317))) [(160, (.bool (decide (x294.Age < b317))))] rfl rfl rfl rfl (fun S hS hd => (.cons (hd.1 rfl rfl _ _ rfl) (Sub.nil _))) (fun F_918 X l_919 => ?_)) ?_
                  ·skip
                   refine .move rfl rfl ?_
                   exact .fin1 (Fz.le_refl _)
                  refine .cons (.mk 162 (.pointer (some ⟨b304, 0 + 7, none⟩)) [(12, (.pointer (some ⟨b304, 0, none⟩))), (161, (.bool (decide (x294.Age < b317))))] rfl rfl rfl rfl (fun S hS hd => (.cons (hS _ _ rfl) (.cons (hd.1 rfl rfl _ _ rfl) (Sub.nil _)))) (fun F_920 X l_921 => ?_)) ?_
                  ·skip
                   refine .onH hb513 rfl rfl ?_
                   refine .fieldAddr rfl Try.underlying31 rfl Try.sizeOf3 rfl ?_
                   exact .fin1 (Fz.le_refl _)
                  refine .cons (.mk 163 (.int .i64 x294.Age) [(161, (.bool (decide (x294.Age < b317)))), (162, (.pointer (some ⟨b304, 0 + 7, none⟩)))] rfl rfl rfl rfl (fun S hS hd => (.cons (hd.2.1 rfl rfl _ _ rfl) (.cons (hd.1 rfl rfl _ _ rfl) (Sub.nil _)))) (fun F_922 X l_923 => ?_)) ?_
                  ·skip
                   refine .onH hb513 rfl rfl ?_
                   refine .loadO rfl Try.isAgg3 rfl (i := 0) rfl rfl ?_
                   exact .fin1 (Fz.le_refl _)
                  refine .cons (.mk 164 (.int .i64 b330) [(14, (.int .i64 b330)), (161, (.bool (decide (x294.Age < b317))))] rfl rfl rfl rfl (fun S hS hd => (.cons (hS _ _ rfl) (.cons (hd.1 rfl rfl _ _ rfl) (Sub.nil _)))) (fun F_924 X l_925 => ?_)) ?_
                  ·skip
                   refine .onH hb513 rfl rfl ?_
                   refine .move rfl rfl ?_
                   exact .fin1 (Fz.le_refl _)
                  refine .cons (.mk 165 (.bool (decide (x294.Age < b330))) [(161, (.bool (decide (x294.Age < b317)))), (163, (.int .i64 x294.Age)), (164, (.int .i64 b330))] rfl rfl rfl rfl (fun S hS hd => (.cons (hd.2.2.1 rfl rfl _ _ rfl) (.cons (hd.1 rfl rfl _ _ rfl) (.cons (hd.2.1 rfl rfl _ _ rfl) (Sub.nil _))))) (fun F_926 X l_927 => ?_)) ?_
                  ·skip
                   refine .onH hb513 rfl rfl ?_
                   refine .lss rfl rfl rfl ?_
                   exact .fin1 (Fz.le_refl _)
                  refine .cons (.mk 166 (.bool (decide (x294.Age < b330))) [(161, (.bool (decide (x294.Age < b317)))), (165, (.bool (decide (x294.Age < b330))))] rfl rfl rfl rfl (fun S hS hd => (.cons (hd.1 rfl rfl _ _ rfl) (.cons (hd.2.1 rfl rfl _ _ rfl) (Sub.nil _)))) (fun F_928 X l_929 => ?_)) ?_
                  ·skip
                   refine .pickFH hb513  rfl rfl rfl ?_
                   exact .fin1 (Fz.le_refl _)
                  refine .cons (.mk 167 (.bool (decide (x294.Age < b330))) [(166, (.bool (decide (x294.Age < b330))))] rfl rfl rfl rfl (fun S hS hd => (.cons (hd.1 rfl rfl _ _ rfl) (Sub.nil _))) (fun F_930 X l_931 => ?_)) ?_
                  ·skip
                   refine .move rfl rfl ?_
                   exact .fin1 (Fz.le_refl _)
                  refine .cons (.mk 168 (.pointer (some ⟨b304, 0 + 7, none⟩)) [(12, (.pointer (some ⟨b304, 0, none⟩))), (167, (.bool (decide (x294.Age < b330))))] rfl rfl rfl rfl (fun S hS hd => (.cons (hS _ _ rfl) (.cons (hd.1 rfl rfl _ _ rfl) (Sub.nil _)))) (fun F_932 X l_933 => ?_)) ?_
                  ·skip
                   refine .onH hb603 rfl rfl ?_
                   refine .fieldAddr rfl Try.underlying31 rfl Try.sizeOf3 rfl ?_
                   exact .fin1 (Fz.le_refl _)
                  refine .cons (.mk 169 (.int .i64 x294.Age) [(167, (.bool (decide (x294.Age < b330)))), (168, (.pointer (some ⟨b304, 0 + 7, none⟩)))] rfl rfl rfl rfl (fun S hS hd => (.cons (hd.2.1 rfl rfl _ _ rfl) (.cons (hd.1 rfl rfl _ _ rfl) (Sub.nil _)))) (fun F_934 X l_935 => ?_)) ?_
                  ·skip
                   refine .onH hb603 rfl rfl ?_
                   refine .loadO rfl Try.isAgg3 rfl (i := 0) rfl rfl ?_
                   exact .fin1 (Fz.le_refl _)
                  refine .cons (.mk 170 (.int .i64 day5) [(1, (.int .i64 day5)), (167, (.bool (decide (x294.Age < b330))))] rfl rfl rfl rfl (fun S hS hd => (.cons (hS _ _ rfl) (.cons (hd.1 rfl rfl _ _ rfl) (Sub.nil _)))) (fun F_936 X l_937 => ?_)) ?_
                  ·skip
                   refine .onH hb603 rfl rfl ?_
                   refine .move rfl rfl ?_
                   exact .fin1 (Fz.le_refl _)
                  refine .cons (.mk 171 (.bool (decide (x294.Age > day5))) [(167, (.bool (decide (x294.Age < b330)))), (169, (.int .i64 x294.Age)), (170, (.int .i64 day5))] rfl rfl rfl rfl (fun S hS hd => (.cons (hd.2.2.1 rfl rfl _ _ rfl) (.cons (hd.1 rfl rfl _ _ rfl) (.cons (hd.2.1 rfl rfl _ _ rfl) (Sub.nil _))))) (fun F_938 X l_939 => ?_)) ?_
                  ·skip
                   refine .onH hb603 rfl rfl ?_
                   refine .gtr rfl rfl rfl ?_
                   exact .fin1 (Fz.le_refl _)
                  refine .cons (.mk 172 (.bool (decide (x294.Age > day5))) [(167, (.bool (decide (x294.Age < b330)))), (171, (.bool (decide (x294.Age > day5))))] rfl rfl rfl rfl (fun S hS hd => (.cons (hd.1 rfl rfl _ _ rfl) (.cons (hd.2.1 rfl rfl _ _ rfl) (Sub.nil _)))) (fun F_940 X l_941 => ?_)) ?_
                  ·skip
                   refine .pickFH hb603  rfl rfl rfl ?_
                   exact .fin1 (Fz.le_refl _)
                  refine .cons (.mk 173 (.bool (decide (x294.Age > day5))) [(172, (.bool (decide (x294.Age > day5))))] rfl rfl rfl rfl (fun S hS hd => (.cons (hd.1 rfl rfl _ _ rfl) (Sub.nil _))) (fun F_942 X l_943 => ?_)) ?_
                  ·skip
                   refine .move rfl rfl ?_
                   exact .fin1 (Fz.le_refl _)
                  refine .cons (.mk 174 (.int .i64 s290.2) [(11, (.int .i64 s290.2)), (173, (.bool (decide (x294.Age > day5))))] rfl rfl rfl rfl (fun S hS hd => (.cons (hS _ _ rfl) (.cons (hd.1 rfl rfl _ _ rfl) (Sub.nil _)))) (fun F_944 X l_945 => ?_)) ?_
                  ·skip
                   refine .onH hb693 rfl rfl ?_
                   refine .move rfl rfl ?_
                   exact .fin1 (Fz.le_refl _)
                  refine .cons (.mk 175 (.bool (decide (s290.2 > 0))) [(173, (.bool (decide (x294.Age > day5)))), (174, (.int .i64 s290.2))] rfl rfl rfl rfl (fun S hS hd => (.cons (hd.2.1 rfl rfl _ _ rfl) (.cons (hd.1 rfl rfl _ _ rfl) (Sub.nil _)))) (fun F_946 X l_947 => ?_)) ?_
                  ·skip
                   refine .onH hb693 rfl rfl ?_
                   refine .gtr rfl rfl rfl ?_
                   exact .fin1 (Fz.le_refl _)
                  refine .cons (.mk 176 (.bool (decide (s290.2 > 0))) [(173, (.bool (decide (x294.Age > day5)))), (175, (.bool (decide (s290.2 > 0))))] rfl rfl rfl rfl (fun S hS hd => (.cons (hd.2.1 rfl rfl _ _ rfl) (.cons (hd.1 rfl rfl _ _ rfl) (Sub.nil _)))) (fun F_948 X l_949 => ?_)) ?_
                  ·skip
                   refine .onH hb693 rfl rfl ?_
                   refine .move rfl rfl ?_
                   exact .fin1 (Fz.le_refl _)
                  refine .cons (.mk 177 undef [(12, (.pointer (some ⟨b304, 0, none⟩))), (176, (.bool (decide (s290.2 > 0))))] rfl rfl rfl rfl (fun S hS hd => (.cons (hS _ _ rfl) (.cons (hd.1 rfl rfl _ _ rfl) (Sub.nil _)))) (fun F_950 X l_951 => ?_)) ?_
                  ·skip
                   refine .offH hb783 rfl rfl rfl ?_
                   exact .fin1 (Fz.le_refl _)
                  refine .cons (.mk 178 undef [(176, (.bool (decide (s290.2 > 0)))), (177, undef)] rfl rfl rfl rfl (fun S hS hd => (.cons (hd.2.1 rfl rfl _ _ rfl) (.cons (hd.1 rfl rfl _ _ rfl) (Sub.nil _)))) (fun F_952 X l_953 => ?_)) ?_
                  ·skip
                   refine .offH hb783 rfl rfl rfl ?_
                   exact .fin1 (Fz.le_refl _)
                  refine .cons (.mk 179 undef [(5, (.slice p13 r_12.1.length k14)), (176, (.bool (decide (s290.2 > 0))))] rfl rfl rfl rfl (fun S hS hd => (.cons (hS _ _ rfl) (.cons (hd.1 rfl rfl _ _ rfl) (Sub.nil _)))) (fun F_954 X l_955 => ?_)) ?_
                  ·skip
                   refine .offH hb783 rfl rfl rfl ?_
                   exact .fin1 (Fz.le_refl _)
                  refine .cons (.mk 180 undef [(11, (.int .i64 s290.2)), (176, (.bool (decide (s290.2 > 0))))] rfl rfl rfl rfl (fun S hS hd => (.cons (hS _ _ rfl) (.cons (hd.1 rfl rfl _ _ rfl) (Sub.nil _)))) (fun F_956 X l_957 => ?_)) ?_
                  ·skip
                   refine .offH hb783 rfl rfl rfl ?_
                   exact .fin1 (Fz.le_refl _)
                  refine .cons (.mk 181 undef [(176, (.bool (decide (s290.2 > 0)))), (180, undef)] rfl rfl rfl rfl (fun S hS hd => (.cons (hd.2.1 rfl rfl _ _ rfl) (.cons (hd.1 rfl rfl _ _ rfl) (Sub.nil _)))) (fun F_958 X l_959 => ?_)) ?_
                  ·skip
                   refine .offH hb783 rfl rfl rfl ?_
                   exact .fin1 (Fz.le_refl _)
                  refine .cons (.mk 182 undef [(176, (.bool (decide (s290.2 > 0)))), (179, undef), (181, undef)] rfl rfl rfl rfl (fun S hS hd => (.cons (hd.2.2.1 rfl rfl _ _ rfl) (.cons (hd.1 rfl rfl _ _ rfl) (.cons (hd.2.1 rfl rfl _ _ rfl) (Sub.nil _))))) (fun F_960 X l_961 => ?_)) ?_
                  ·skip
                   refine .offH hb783 rfl rfl rfl ?_
                   exact .fin1 (Fz.le_refl _)
                  refine .cons (.mk 183 undef [(176, (.bool (decide (s290.2 > 0)))), (182, undef)] rfl rfl rfl rfl (fun S hS hd => (.cons (hd.2.1 rfl rfl _ _ rfl) (.cons (hd.1 rfl rfl _ _ rfl) (Sub.nil _)))) (fun F_962 X l_963 => ?_)) ?_
                  ·skip
                   refine .offH hb783 rfl rfl rfl ?_
                   exact .fin1 (Fz.le_refl _)
                  refine .cons (.mk 184 undef [(176, (.bool (decide (s290.2 > 0)))), (183, undef)] rfl rfl rfl rfl (fun S hS hd => (.cons (hd.2.1 rfl rfl _ _ rfl) (.cons (hd.1 rfl rfl _ _ rfl) (Sub.nil _)))) (fun F_964 X l_965 => ?_)) ?_
                  ·skip
                   refine .offH hb783 rfl rfl rfl ?_
                   exact .fin1 (Fz.le_refl _)
                  refine .cons (.mk 185 undef [(176, (.bool (decide (s290.2 > 0)))), (178, undef), (184, undef)] rfl rfl rfl rfl (fun S hS hd => (.cons (hd.2.2.1 rfl rfl _ _ rfl) (.cons (hd.1 rfl rfl _ _ rfl) (.cons (hd.2.1 rfl rfl _ _ rfl) (Sub.nil _))))) (fun F_966 X l_967 => ?_)) ?_
                  ·skip
                   refine .offH hb783 rfl rfl rfl ?_
                   exact .fin1 (Fz.le_refl _)
                  refine .cons (.mk 186 (.bool false) [(173, (.bool (decide (x294.Age > day5)))), (176, (.bool (decide (s290.2 > 0)))), (185, undef)] rfl rfl rfl rfl (fun S hS hd => (.cons (hd.2.2.1 rfl rfl _ _ rfl) (.cons (hd.1 rfl rfl _ _ rfl) (.cons (hd.2.1 rfl rfl _ _ rfl) (Sub.nil _))))) (fun F_968 X l_969 => ?_)) ?_
                  ·skip
                   refine .onH hb693 rfl rfl ?_
                   refine .pickFH hb783  rfl rfl rfl ?_
                   exact .fin1 (Fz.le_refl _)
                  refine .cons (.mk 187 (.bool false) [(173, (.bool (decide (x294.Age > day5)))), (186, (.bool false))] rfl rfl rfl rfl (fun S hS hd => (.cons (hd.1 rfl rfl _ _ rfl) (.cons (hd.2.1 rfl rfl _ _ rfl) (Sub.nil _)))) (fun F_970 X l_971 => ?_)) ?_
                  ·skip
                   refine .pickFH hb693  rfl rfl rfl ?_
                   exact .fin1 (Fz.le_refl _)
                  exact .nil
                 refine .nil ?_
                 exact .nil fun e a w h => by cases e; exact ⟨rfl, ⟨F_883, l_885, h.1.sub (.cons (k := 1) rfl (.cons (k := 5) rfl (.cons (k := 8) rfl (.cons (k := 9) rfl (.cons (k := 11) rfl (.cons (k := 12) rfl (.cons (k := 187) rfl (.nil _)))))))), h.2⟩⟩
          refine .code ?_
          refine .cond rfl (fun hb975 => ?_) (fun hb975 => ?_)
          ·skip
           refine .seq ?_
           refine .region ?_
           refine .assign rfl rfl ?_
           refine .nil ?_
           refine .code ?_
           refine .drop 0 ?_
           refine .retQ (LPost.ret fun a w h => ⟨rfl, F_973, (Fz.le_trans l_292 (Fz.le_trans l_319 (Fz.le_trans l_332 l_974))), h.1.sub (.cons (k := 4) rfl (.nil _)), h.2⟩)
          ·skip
           refine .skip ?_
           refine .code ?_
           refine .seq ?_
           refine .region ?_
           refine .fieldAddr rfl Try.underlying31 rfl Try.sizeOf3 rfl ?_
           refine .loadO rfl Try.isAgg3 rfl (i := 0) rfl rfl ?_
           refine .eql rfl rfl rfl ?_
           refine .move rfl rfl ?_
           refine .andP (b := (x294.Amount == 0)) (b' := (((x294.Age != 0) || (!(eq_29 x294.Woods (arrOf [0, 0, 0, 0, 0, 0, 0, 0] 0)))) || (!(eq_29 x294.Places (arrOf [0, 0, 0, 0, 0, 0, 0, 0] 0))))) 16 207 (fun hb976 => ?_) (fun hb985 => ?_) (fun F_986 l_987 => ?_)
           ·skip
            refine .onH hb976 rfl rfl ?_
            refine .fieldAddr rfl Try.underlying31 rfl Try.sizeOf3 rfl ?_
            refine .onH hb976 rfl rfl ?_
            refine .loadO rfl Try.isAgg3 rfl (i := 0) rfl rfl ?_
            refine .onH hb976 rfl rfl ?_
            refine .neq rfl rfl rfl ?_
            refine .onH hb976 rfl rfl ?_
            refine .move rfl rfl ?_
            refine .orP (b := (x294.Age != 0)) (b' := (!(eq_29 x294.Woods (arrOf [0, 0, 0, 0, 0, 0, 0, 0] 0)))) 5 200 (fun hb977 => ?_) (fun hb978 => ?_) (fun F_979 l_980 => ?_)
            ·skip
             refine .onH hb977 rfl rfl ?_
             refine .fieldAddr rfl Try.underlying31 rfl Try.sizeOf29 rfl ?_
             refine .onH hb977 rfl rfl ?_
             refine .loadOA rfl Try.isAgg29 Try.sizeOf29 rfl (i := 0) rfl (vs := ((cArr 8 (cInt .i64)) x294.Woods)) (by kernel_rfl) rfl ?_
             refine .onH hb977 rfl rfl ?_
             refine .buildA (cs := ((cArr 8 (cInt .i64)) (arrOf [0, 0, 0, 0, 0, 0, 0, 0] 0)).toArray) rfl Try.underlying29 Try.zeroValue29 Try.sizeOf3 rfl rfl (by kernel_rfl) ?_
             refine .onH hb977 rfl rfl ?_
             refine .neqR rfl Try.eqGuardType29 (fun w => req_29 x294.Woods (arrOf [0, 0, 0, 0, 0, 0, 0, 0] 0) w) rfl rfl ?_
             refine .onH hb976 rfl rfl ?_
             refine .pickFH hb977 rfl rfl rfl ?_
             exact .fin 5 rfl rfl (by kernel_rfl) (Fz.le_refl _)
            ·skip
             refine .offH hb978 rfl rfl rfl ?_
             refine .offH hb978 rfl rfl rfl ?_
             refine .offH hb978 rfl rfl rfl ?_
             refine .offH hb978 rfl rfl rfl ?_
             refine .onH hb976 rfl rfl ?_
             refine .pickTH hb978 rfl rfl rfl ?_
             exact .fin 5 rfl rfl (by kernel_rfl) (Fz.le_refl _)
            refine .onH hb976 rfl rfl ?_
            refine .move rfl rfl ?_
            refine .orP (b := ((x294.Age != 0) || (!(eq_29 x294.Woods (arrOf [0, 0, 0, 0, 0, 0, 0, 0] 0))))) (b' := (!(eq_29 x294.Places (arrOf [0, 0, 0, 0, 0, 0, 0, 0] 0)))) 5 206 (fun hb981 => ?_) (fun hb982 => ?_) (fun F_983 l_984 => ?_)
            ·skip
             refine .onH hb981 rfl rfl ?_
             refine .fieldAddr rfl Try.underlying31 rfl Try.sizeOf29 rfl ?_
             refine .onH hb981 rfl rfl ?_
             refine .loadOA rfl Try.isAgg29 Try.sizeOf29 rfl (i := 0) rfl (vs := ((cArr 8 (cInt .i64)) x294.Places)) (by kernel_rfl) rfl ?_
             refine .onH hb981 rfl rfl ?_
             refine .buildA (cs := ((cArr 8 (cInt .i64)) (arrOf [0, 0, 0, 0, 0, 0, 0, 0] 0)).toArray) rfl Try.underlying29 Try.zeroValue29 Try.sizeOf3 rfl rfl (by kernel_rfl) ?_
             refine .onH hb981 rfl rfl ?_
             refine .neqR rfl Try.eqGuardType29 (fun w => req_29 x294.Places (arrOf [0, 0, 0, 0, 0, 0, 0, 0] 0) w) rfl rfl ?_
             refine .onH hb976 rfl rfl ?_
             refine .pickFH hb981 rfl rfl rfl ?_
             exact .fin 5 rfl rfl (by kernel_rfl) (Fz.le_refl _)
            ·skip
             refine .offH hb982 rfl rfl rfl ?_
             refine .offH hb982 rfl rfl rfl ?_
             refine .offH hb982 rfl rfl rfl ?_
             refine .offH hb982 rfl rfl rfl ?_
             refine .onH hb976 rfl rfl ?_
             refine .pickTH hb982 rfl rfl rfl ?_
             exact .fin 5 rfl rfl (by kernel_rfl) (Fz.le_refl _)
            refine .pickTH hb976 rfl rfl rfl ?_
            exact .fin 8 rfl rfl (by kernel_rfl) (Fz.le_trans l_980 l_984)
           ·skip
            refine .offH hb985 rfl rfl rfl ?_
            refine .offH hb985 rfl rfl rfl ?_
            refine .offH hb985 rfl rfl rfl ?_
            refine .offH hb985 rfl rfl rfl ?_
            refine .off rfl rfl rfl rfl ?_
            refine .off rfl rfl rfl rfl ?_
            refine .off rfl rfl rfl rfl ?_
            refine .off rfl rfl rfl rfl ?_
            refine .offH hb985 rfl rfl rfl ?_
            refine .offH hb985 rfl rfl rfl ?_
            refine .off rfl rfl rfl rfl ?_
            refine .off rfl rfl rfl rfl ?_
            refine .off rfl rfl rfl rfl ?_
            refine .off rfl rfl rfl rfl ?_
            refine .offH hb985 rfl rfl rfl ?_
            refine .pickFH hb985 rfl rfl rfl ?_
            exact .fin 16 rfl rfl (by kernel_rfl) (Fz.le_refl _)
           refine .nil ?_
           refine .code ?_
           refine .cond rfl (fun hb988 => ?_) (fun hb988 => ?_)
           ·skip
            refine .seq ?_
            refine .region ?_
            refine .assign rfl rfl ?_
            refine .nil ?_
            refine .code ?_
            refine .drop 0 ?_
            refine .retQ (LPost.ret fun a w h => ⟨rfl, F_986, (Fz.le_trans l_292 (Fz.le_trans l_319 (Fz.le_trans l_332 (Fz.le_trans l_974 l_987)))), h.1.sub (.cons (k := 4) rfl (.nil _)), h.2⟩)
           ·skip
            refine .skip ?_
            refine .block ?_
            refine .code ?_
            refine .region ?_
            refine .move rfl rfl ?_
            refine .add rfl rfl rfl ?_
            refine .assignL rfl rfl (fun i989 e990 => ?_)
            refine .nil ?_
            refine .drop 0 ?_
            exact .nil (LPost.norm fun a w h => ⟨F_986, (Fz.le_trans l_292 (Fz.le_trans l_319 (Fz.le_trans l_332 (Fz.le_trans l_974 l_987)))), h.1.sub (.cons (k := 1) rfl (.cons (k := 5) rfl (.cons (k := 8) rfl (.cons (k := 9) rfl (.cons (k := 11) rfl (.nil _)))))), h.2⟩)
       ·skip
        refine .exitOut rfl (LPost.exit fun a w h => ⟨rfl, F_291, l_292, h.1.sub (.cons (k := 5) rfl (.cons (k := 8) rfl (.cons (k := 9) rfl (.nil _)))), h.2⟩)
      ·intro b991 hb0 hk e a w hD
       rcases b991 with b991 | b991
       ·skip
        obtain ⟨rfl, F_992, l_993, hA⟩ := hD
        refine interp_exit rfl (GE.app ?_ hk a w hA)
        refine .code ?_
        refine .seq ?_
        refine .region ?_
        refine .move rfl rfl ?_
        refine .eql rfl rfl rfl ?_
        refine .move rfl rfl ?_
        refine .andP (b := (b991 == 0)) (b' := ((r_12.1.length : Int) == b285.2)) 5 215 (fun hb996 => ?_) (fun hb997 => ?_) (fun F_998 l_999 => ?_)
        ·skip
         refine .onH hb996 rfl rfl ?_
         refine .move rfl rfl ?_
         refine .onH hb996 rfl rfl ?_
         refine .lenS rfl rfl Try.underlying25 rfl ?_
         refine .onH hb996 rfl rfl ?_
         refine .move rfl rfl ?_
         refine .onH hb996 rfl rfl ?_
         refine .eql rfl rfl rfl ?_
         refine .pickTH hb996 rfl rfl rfl ?_
         exact .fin 5 rfl rfl (by kernel_rfl) (Fz.le_refl _)
        ·skip
         refine .offH hb997 rfl rfl rfl ?_
         refine .offH hb997 rfl rfl rfl ?_
         refine .offH hb997 rfl rfl rfl ?_
         refine .offH hb997 rfl rfl rfl ?_
         refine .pickFH hb997 rfl rfl rfl ?_
         exact .fin 5 rfl rfl (by kernel_rfl) (Fz.le_refl _)
        refine .move rfl rfl ?_
        refine .andM (b := ((b991 == 0) && ((r_12.1.length : Int) == b285.2))) 2 218 (fun hb1000 z1008 => ?_) (fun hb1004 => ?_) (fun z1007 F_1005 l_1006 => ?_)
        ·skip
         refine .onH hb1000 rfl rfl ?_
         refine .call0 rfl Try.call11 rfl rfl rfl (c_wormtublaw06_awake _ ) ?_
         rintro r_1003 F_1001 _ - l_1002 rfl
         refine .pickTH hb1000 rfl rfl rfl ?_
         exact .finZ 2 rfl rfl (by kernel_rfl) l_1002
        ·skip
         refine .offH hb1004 rfl rfl rfl ?_
         refine .pickFH hb1004 rfl rfl rfl ?_
         exact .fin 2 rfl rfl (by kernel_rfl) (Fz.le_refl _)
        refine .assign rfl rfl ?_
        refine .nil ?_
        refine .code ?_
        exact .ret0 Try.results6 (.tmp rfl (.nil)) (i := 0) rfl (Fz.le_trans l_11 (Fz.le_trans l_37 (Fz.le_trans l_287 (Fz.le_trans l_993 (Fz.le_trans l_999 l_1006))))) rfl
       obtain ⟨rfl, F_994, l_995, hA⟩ := hD
       exact interp_ret ((ret_post0 Try.results6 (.tmp rfl (.nil)) (i := 0) rfl (Fz.le_trans l_11 (Fz.le_trans l_37 (Fz.le_trans l_287 l_995))) rfl) hk a w hA)
     obtain ⟨rfl, F_288, l_289, hA⟩ := hD
     exact interp_ret ((ret_post0 Try.results6 (.tmp rfl (.nil)) (i := 0) rfl (Fz.le_trans l_11 (Fz.le_trans l_37 l_289)) rfl) hk a w hA)
end Go.Proofs.Ytkedjmhhcekmiaa
end

section
namespace Go.Proofs.Ytkedjmhhcekmiaa
open Go.Dec
open Go.ChangeShapes Go.WideShapes Go.ChangeAt Go.RowKit
def LawCaskConserves : Prop := ∀ (a0 : (List ApiCaskEvent)) (a1 : Int), (∀ y ∈ a0, okApiCaskEvent y) → (Lit.int .i64 a1).wf = true → m_wormtublaw06_CaskConserves a0 a1 = some true
set_option maxRecDepth 100000 in
theorem lifted_CaskConserves (law : LawCaskConserves) (os : Os) (started : os.Started) (H : Type) (enc : TypeId × Value → H) :
  ReturnsInHanded {} Try.checked os 6 .any (Rows.caskConservesSpec.pre6 enc Try.prog Try.f6 Rows.caskConservesRow.domain false) (Rows.caskConservesSpec.post enc Try.prog Try.f6 false true false false) := by
 refine returnsInHanded_of_change (C := Try.checked) Try.own started (by kernel_rfl) Try.func6 (ChangeSpec.witness6 (enc := enc) (C := Try.checked) false ⟨#[], #[.slice none 0 0, .int .i64 0], []⟩ 12 (by kernel_rfl) (by kernel_rfl) (by kernel_rfl) (by kernel_rfl)) ?_
 intro W base args ds gs before hval hW _ _
 refine law_contract (P := Try.prog) Try.laidOut (by kernel_rfl) rfl (by kernel_rfl : Try.f6.resultTypes = #[4]) Try.underlying4 (fun ds h => ?_) (fun W base args ds ps hval hA => ?_) W base args ds gs before hval hW
 ·match ds, h with
  | [d0, d1], _ => rfl
 ·rw [Try.params6] at hA hval
  obtain ⟨v0, l0, _, _, _, _, e0, _, _, t0, hA⟩ := trodAll_cons hA
  obtain ⟨v1, l1, _, _, _, _, e1, _, _, t1, hA⟩ := trodAll_cons hA
  obtain ⟨e2, _, _⟩ := trodAll_nil hA
  subst e2 e1
  obtain rfl : args = [v0, v1].toArray := by rw [← e0]
  obtain ⟨m0, p0, k0, o0, rfl, h0⟩ := argSlice Try.underlying22 vt22 (hval 0 _ _ rfl rfl) t0
  obtain ⟨m1, o1, rfl⟩ := argInt Try.underlying3 (hval 1 _ _ rfl rfl) t1
  have hl := law m0 m1 o0 o1
  have hc := c_wormtublaw06_CaskConserves (FW W) m0 p0 k0 h0 m1
  rw [hl] at hc
  exact hc
theorem said_CaskConserves (law : LawCaskConserves) : Rows.CaskConservesSaid :=
 OpenClaim.holds_of_wide 6 Try.f6 rfl rfl rfl rfl rfl rfl rfl ⟨rfl, rfl, rfl, rfl, rfl⟩ rfl rfl rfl rfl rfl (by kernel_rfl) Try.func6 (by kernel_rfl)
  (of_decide_eq_true (by kernel_rfl)) (by unfold Func.isWrapper; first | (rw [if_pos (by decide +kernel)]; kernel_rfl) | (rw [if_neg (by decide +kernel)]; exact ⟨rfl, rfl⟩))
  (fun os started H enc _ => lifted_CaskConserves law os started H enc)
end Go.Proofs.Ytkedjmhhcekmiaa
end

section
namespace Go.Proofs.Ytkedjmhhcekmiaa
open Go.Dec
def amtH (l : List Held) : Int := (l.map (·.C.Amount)).sum
def fdE (x : Ev) : Int := if x.Kind == 0 then 0 else if x.Kind == 1 then x.Amount else if x.Kind == 3 then -x.Amount else 0
def fdS (l : List Ev) : Int := (l.map fdE).sum
def mkS (l : List Ev) : Nat := (l.filter fun x => x.Kind == 0).length
theorem amtH_set : ∀ {l : List Held} {i : Nat} {c h : Held}, l[i]? = some c → amtH (l.set i h) = amtH l - c.C.Amount + h.C.Amount
  | [], _, _, _, e => by simp at e
  | y :: l, 0, c, h, e => by simp at e; subst e; simp [amtH]; omega
  | y :: l, i + 1, c, h, e => by
    have := amtH_set (h := h) (show l[i]? = some c by simpa using e)
    simp only [amtH, List.set_cons_succ, List.map_cons, List.sum_cons] at this ⊢
    omega
theorem amtH_app (a b : List Held) : amtH (a ++ b) = amtH a + amtH b := by simp [amtH]
theorem amtH_older (n : Int) (l : List Held) : amtH (l.map (olderS n)) = amtH l := by
  unfold amtH
  rw [List.map_map]
  congr 1
  exact List.map_congr_left fun h _ => by show (olderS n h).C.Amount = _; unfold olderS; split <;> rfl
theorem amtH_perm {a b : List Held} (h : a.Perm b) : amtH a = amtH b := by
  unfold amtH
  induction h with
  | nil => rfl
  | cons x _ ih => simp only [List.map_cons, List.sum_cons, ih]
  | swap x y l => simp only [List.map_cons, List.sum_cons]; omega
  | trans _ _ h1 h2 => exact h1.trans h2
theorem pour_amt (h s : Held) (n : Int) : (pourS h s n).C.Amount = h.C.Amount + n := by unfold pourS; split <;> rfl
theorem less_amt (h : Held) (n : Int) : (lessS h n).C.Amount = h.C.Amount - n := by
  unfold lessS
  split
  · rename_i e; have := beq_iff_eq.1 e; show (0 : Int) = _; omega
  · rfl
structure Csv (pre : List Ev) (s : Cur) : Prop where
  amt : amtH s.all = fdS pre
  made : s.all.length = mkS pre
  days : ∀ x ∈ pre, x.Day ≤ s.last
  rise : pre.Pairwise fun x y => x.Day ≤ y.Day
  ok : ∀ x ∈ pre, evB x = true
theorem Csv.start : Csv [] ⟨[], 0⟩ := ⟨rfl, rfl, fun _ h => (by cases h), List.Pairwise.nil, fun _ h => (by cases h)⟩
theorem fdS_snoc (pre : List Ev) (x : Ev) : fdS (pre ++ [x]) = fdS pre + fdE x := by simp [fdS]
theorem mkS_snoc (pre : List Ev) (x : Ev) : mkS (pre ++ [x]) = mkS pre + if x.Kind == 0 then 1 else 0 := by
  unfold mkS
  rw [List.filter_append, List.length_append]
  cases h : x.Kind == 0 <;> simp [h]
theorem Csv.step {pre : List Ev} {x : Ev} {s : Cur} {l' : List Held} (h : Csv pre s) (hv : evB x = true) (hd : s.last ≤ x.Day) (d : EvD (atS x.Day s) x pre.length l') : Csv (pre ++ [x]) ⟨l', x.Day⟩ := by
  have ha : amtH (atS x.Day s) = fdS pre := by rw [← h.amt]; exact amtH_older _ _
  have hl : (atS x.Day s).length = mkS pre := by rw [← h.made]; simp [atS]
  have key : amtH l' = fdS (pre ++ [x]) ∧ l'.length = mkS (pre ++ [x]) := by
    rw [fdS_snoc, mkS_snoc, ← ha, ← hl]
    cases d with
    | make k f n => simp [amtH, newS, fdE, k]
    | fill k i c f h1 r => simp [amtH_set h1, pour_amt, fdE, k]; omega
    | rack k i c f h1 j o f' h2 ne ow c1 c2 a r =>
      have h3 : ((atS x.Day s).set j (pourS o c x.Amount))[i]? = some c := by rw [List.getElem?_set_ne (Ne.symm ne)]; exact h1
      simp [amtH_set h3, amtH_set h2, pour_amt, less_amt, fdE, k]; omega
    | drain k i c f h1 c1 a => simp [amtH_set h1, less_amt, fdE, k]; omega
    | carry k i c f h1 => simp [amtH_set h1, fdE, k] <;> omega
    | sell k i c f h1 o c1 t => simp [amtH_set h1, fdE, k] <;> omega
    | pledge k i c f h1 o c1 => simp [amtH_set h1, fdE, k] <;> omega
    | free k i c f h1 c1 => simp [amtH_set h1, fdE, k] <;> omega
    | char k i c f h1 a => simp [amtH_set h1, fdE, k] <;> omega
  refine ⟨key.1, key.2, fun y hy => ?_, ?_, fun y hy => ?_⟩
  · rcases List.mem_append.1 hy with hy | hy
    · have := h.days y hy; show y.Day ≤ x.Day; omega
    · simp at hy; subst hy; exact Int.le_refl _
  · rw [List.pairwise_append]
    refine ⟨h.rise, by simp, fun a hm b hb => ?_⟩
    simp at hb; subst hb
    have := h.days a hm; omega
  · rcases List.mem_append.1 hy with hy | hy
    · exact h.ok y hy
    · simp at hy; subst hy; exact hv
theorem fd_bound {x : Ev} (h : evB x = true) : -1099511627776 ≤ fdE x ∧ fdE x ≤ 1099511627776 := by
  unfold fdE
  split
  · omega
  · split
    · rename_i k; have := evAmt h (.inl (beq_iff_eq.1 k)); omega
    · split
      · rename_i k; have := evAmt h (.inr (.inr (beq_iff_eq.1 k))); omega
      · omega
theorem fdS_bound : ∀ {l : List Ev}, (∀ x ∈ l, evB x = true) → -1099511627776 * (l.length : Int) ≤ fdS l ∧ fdS l ≤ 1099511627776 * (l.length : Int)
  | [], _ => by simp [fdS]
  | x :: l, h => by
    have h1 := fd_bound (h x (by simp))
    have h2 := fdS_bound (l := l) fun y hy => h y (List.mem_cons_of_mem _ hy)
    simp only [fdS, List.map_cons, List.sum_cons, List.length_cons] at h2 ⊢
    omega
theorem mkS_le (l : List Ev) : mkS l ≤ l.length := List.length_filter_le _ _
theorem amt_prefix {a b : List Held} {last : Int} {n : Nat} (h : ∀ x ∈ a ++ b, HOk last n x) : 0 ≤ amtH a ∧ amtH a ≤ 1099511627776 * (a.length : Int) := by
  have : ∀ L : List Held, (∀ x ∈ L, HOk last n x) → 0 ≤ amtH L ∧ amtH L ≤ 1099511627776 * (L.length : Int) := fun L => by
    induction L with
    | nil => intro _; simp [amtH]
    | cons x L ih =>
      intro hL
      have h1 := hL x (by simp)
      have h2 := ih fun y hy => hL y (List.mem_cons_of_mem _ hy)
      have h3 := h1.amt
      have h4 := h1.room
      simp only [amtH, List.map_cons, List.sum_cons, List.length_cons] at h2 ⊢
      omega
  exact this a fun x hx => h x (List.mem_append_left _ hx)
def psum (f : Nat → Int) : Nat → Int
  | 0 => 0
  | k + 1 => psum f k + f k
theorem psum8 (f : Nat → Int) : psum f 8 = sum8 f := by simp [psum, sum8]
theorem psum_le {a : Int} {f : Nat → Int} (h : TOk a f) : ∀ k, k ≤ 8 → 0 ≤ psum f k ∧ psum f k ≤ a * k
  | 0, _ => by simp [psum]
  | k + 1, hk => by
    have h1 := psum_le h k (by omega)
    have h2 := h.le k
    have e : a * ((k + 1 : Nat) : Int) = a * (k : Int) + a := by rw [Int.natCast_add, Int.mul_add]; simp
    simp only [psum]
    rw [e]
    omega
theorem woods_loop {c : ApiCask} (h : TOk c.Age c.Woods) (ha : 0 ≤ c.Age ∧ c.Age ≤ 65536) : loopM (b_wormtublaw06_CaskConserves_3 c) (0, 0) = some (sum8 c.Woods) := by
  obtain ⟨t', ht, hl⟩ := loopM_upto (body := b_wormtublaw06_CaskConserves_3 c) (fun i (t : Int) => (t, (i : Int))) (fun t => t) (fun i t => t = psum c.Woods i) 8
    (fun i t hi ht => by
      subst ht
      have h1 := psum_le h i (by omega)
      have h2 := h.le i
      have h3 : c.Age * (i : Int) ≤ 65536 * 8 := by
        have := Int.mul_le_mul ha.2 (show (i : Int) ≤ 8 by omega) (by omega) (by omega)
        exact this
      refine ⟨psum c.Woods (i + 1), ?_, rfl⟩
      unfold b_wormtublaw06_CaskConserves_3
      have e1 : decide ((i : Int) < 8) = true := decide_eq_true (by omega)
      have e2 : w64 (psum c.Woods i + c.Woods i) = psum c.Woods (i + 1) := w64_id (by omega) (by omega)
      have e3 : w64 ((i : Int) + 1) = ((i + 1 : Nat) : Int) := by rw [w64_id (by omega) (by omega)]; rfl
      simp only [e1, if_true, idxO_nat (show i < 8 from hi), Option.bind_some, bindv, e2, e3])
    (fun t ht => by
      unfold b_wormtublaw06_CaskConserves_3
      rw [if_neg (by simp)]) 8 0 0 rfl rfl
  rw [← psum8, ← ht]; exact hl
theorem places_loop {c : ApiCask} (h : TOk c.Age c.Places) (ha : 0 ≤ c.Age ∧ c.Age ≤ 65536) : loopM (b_wormtublaw06_CaskConserves_4 c) (0, 0) = some (sum8 c.Places) := by
  obtain ⟨t', ht, hl⟩ := loopM_upto (body := b_wormtublaw06_CaskConserves_4 c) (fun i (t : Int) => (t, (i : Int))) (fun t => t) (fun i t => t = psum c.Places i) 8
    (fun i t hi ht => by
      subst ht
      have h1 := psum_le h i (by omega)
      have h2 := h.le i
      have h3 : c.Age * (i : Int) ≤ 65536 * 8 := by
        have := Int.mul_le_mul ha.2 (show (i : Int) ≤ 8 by omega) (by omega) (by omega)
        exact this
      refine ⟨psum c.Places (i + 1), ?_, rfl⟩
      unfold b_wormtublaw06_CaskConserves_4
      have e1 : decide ((i : Int) < 8) = true := decide_eq_true (by omega)
      have e2 : w64 (psum c.Places i + c.Places i) = psum c.Places (i + 1) := w64_id (by omega) (by omega)
      have e3 : w64 ((i : Int) + 1) = ((i + 1 : Nat) : Int) := by rw [w64_id (by omega) (by omega)]; rfl
      simp only [e1, if_true, idxO_nat (show i < 8 from hi), Option.bind_some, bindv, e2, e3])
    (fun t ht => by
      unfold b_wormtublaw06_CaskConserves_4
      rw [if_neg (by simp)]) 8 0 0 rfl rfl
  rw [← psum8, ← ht]; exact hl
theorem zeros_eq : eq_29 zN (arrOf [0, 0, 0, 0, 0, 0, 0, 0] 0) = true := by decide
theorem events_loop {l : List Ev} {day : Int} {k : Nat} {r : List ApiCask × Int × Int} {s : Cur} (hc : Csv (l.take k) s) (hd : s.last ≤ day) (hk : k ≤ l.length) (h60 : l.length ≤ 60) (hr : r.2.1 = (k : Int)) :
    loopM (b_wormtublaw06_CaskConserves_1 l day r) (0, 0, 0) = some (.inl (fdS (l.take k), (mkS (l.take k) : Int))) := by
  have hlen : (l.take k).length = k := by simp; omega
  obtain ⟨t', ht, hl⟩ := loopM_pre (body := b_wormtublaw06_CaskConserves_1 l day r) (fun i (t : Int × Int) => (t.1, t.2, (i : Int))) (fun t => (.inl t : Int × Int ⊕ Bool)) (fun pre t => t = (fdS pre, (mkS pre : Int))) (l.take k)
    (fun pre x post t hl ht => by
      subst ht
      have hlt : pre.length < k := by have := lt_mid hl; omega
      have hx : l[pre.length]? = some x := by
        have := getEl_mid hl
        rwa [List.getElem?_take, if_pos hlt] at this
      have hmem : x ∈ l.take k := by rw [hl]; simp
      have hv := hc.ok x hmem
      have hdx : x.Day ≤ day := by have := hc.days x hmem; omega
      have hb := fdS_bound (l := pre) fun y hy => hc.ok y (by rw [hl]; exact List.mem_append_left _ hy)
      have hb2 := fd_bound hv
      have hmk := mkS_le pre
      have e1 : decide ((pre.length : Int) < r.2.1) = true := decide_eq_true (by omega)
      have e3 : w64 ((pre.length : Int) + 1) = ((pre.length + 1 : Nat) : Int) := by rw [w64_id (by omega) (by omega)]; rfl
      have ed : decide (x.Day > day) = false := decide_eq_false (by omega)
      have em : w64 ((mkS pre : Int) + 1) = (mkS pre : Int) + 1 := w64_id (by omega) (by omega)
      have e4 : (if decide ((pre.length : Int) > 0) = true then ((idxL l (pre.length : Int)).bind fun x153 => (idxL l (w64 ((pre.length : Int) - 1))).bind fun x163 => some (decide (x153.Day < x163.Day))) else (some false)) = some false := by
        by_cases h0 : pre.length = 0
        · rw [if_neg (by simp [h0])]
        · rw [if_pos (decide_eq_true (by omega))]
          have e5 : w64 ((pre.length : Int) - 1) = ((pre.length - 1 : Nat) : Int) := by rw [w64_id (by omega) (by omega)]; omega
          have hp : pre[pre.length - 1]? = some pre[pre.length - 1] := List.getElem?_eq_getElem (by omega)
          have hy : l[pre.length - 1]? = some pre[pre.length - 1] := by
            have h1 : (l.take k)[pre.length - 1]? = some pre[pre.length - 1] := by
              rw [hl, List.getElem?_append_left (by omega)]; exact hp
            rwa [List.getElem?_take, if_pos (by omega)] at h1
          have hle : pre[pre.length - 1].Day ≤ x.Day := by
            have := hc.rise
            rw [hl] at this
            exact (List.pairwise_append.1 this).2.2 _ (List.getElem_mem _) x (by simp)
          rw [idxL_nat, hx, e5, idxL_nat, hy]
          simp only [Option.bind_some]
          rw [decide_eq_false (by omega)]
      have key : ((if (x.Kind == 0) then (bindv (w64 ((mkS pre : Int) + 1)) fun made54 => some (fdS pre, made54)) else (if (x.Kind == 1) then ((idxL l (pre.length : Int)).bind fun x57 => bindv (w64 (fdS pre + x57.Amount)) fun sum67 => some (sum67, (mkS pre : Int))) else (if (x.Kind == 3) then ((idxL l (pre.length : Int)).bind fun x70 => bindv (w64 (fdS pre - x70.Amount)) fun sum80 => some (sum80, (mkS pre : Int))) else (some (fdS pre, (mkS pre : Int)))))) : Option (Int × Int)) = some (fdS (pre ++ [x]), (mkS (pre ++ [x]) : Int)) := by
        rw [fdS_snoc, mkS_snoc]
        rw [idxL_nat, hx]
        unfold fdE at hb2 ⊢
        by_cases k0 : x.Kind = 0
        · have e0 : (x.Kind == 0) = true := by simp [k0]
          simp only [e0, if_true, bindv, em]; simp
        · have e0 : (x.Kind == 0) = false := by simpa using k0
          simp only [e0, Bool.false_eq_true, if_false] at hb2 ⊢
          by_cases k1 : x.Kind = 1
          · have e1 : (x.Kind == 1) = true := by simp [k1]
            simp only [e1, if_true] at hb2 ⊢
            have e6 : w64 (fdS pre + x.Amount) = fdS pre + x.Amount := w64_id (by omega) (by omega)
            simp only [Option.bind_some, bindv, e6]; simp
          · have e1 : (x.Kind == 1) = false := by simpa using k1
            simp only [e1, Bool.false_eq_true, if_false] at hb2 ⊢
            by_cases k3 : x.Kind = 3
            · have e2 : (x.Kind == 3) = true := by simp [k3]
              simp only [e2, if_true] at hb2 ⊢
              have e6 : w64 (fdS pre - x.Amount) = fdS pre - x.Amount := w64_id (by omega) (by omega)
              simp only [Option.bind_some, bindv, e6]; simp; omega
            · have e2 : (x.Kind == 3) = false := by simpa using k3
              simp only [e2, Bool.false_eq_true, if_false]; simp
      refine ⟨(fdS (pre ++ [x]), (mkS (pre ++ [x]) : Int)), ?_, rfl⟩
      unfold b_wormtublaw06_CaskConserves_1
      simp only [e1, if_true]
      rw [idxL_nat, hx]
      rw [idxL_nat, hx] at key e4
      simp only [Option.bind_some] at key e4 ⊢
      rw [key]
      simp only [Option.bind_some, ed, Bool.false_eq_true, if_false]
      rw [e4]
      simp only [Option.bind_some, Bool.false_eq_true, if_false, bindv, e3])
    (fun t ht => by
      unfold b_wormtublaw06_CaskConserves_1
      rw [if_neg (by simp [hr]; omega)]) (l.take k) [] (0, 0) rfl rfl
  rw [ht] at hl
  exact hl
theorem casks_loop {day S : Int} {r : List ApiCask × Int × Int} {A : List Held} {last : Int} {n : Nat} (hA : r.1 = A.map (·.C)) (hok : ∀ h ∈ A, HOk last n h) (hn : (A.map (·.C.Number)).Pairwise (· < ·)) (hl : last ≤ day) (hd : day ≤ 65536) (h256 : A.length ≤ 256) (hS : -65970697666560 ≤ S ∧ S ≤ 65970697666560) :
    loopM (b_wormtublaw06_CaskConserves_2 day r) (S, 0) = some (.inl (S - amtH A)) := by
  obtain ⟨t', ht, hloop⟩ := loopM_pre (body := b_wormtublaw06_CaskConserves_2 day r) (fun i (t : Int) => (t, (i : Int))) (fun t => (.inl t : Int ⊕ Bool)) (fun pre t => t = S - amtH pre) A
    (fun pre h post t hl' ht => by
      subst ht
      have hho := hok h (by rw [hl']; simp)
      have hlt := lt_mid hl'
      have hx : r.1[pre.length]? = some h.C := by rw [hA, List.getElem?_map, getEl_mid hl']; rfl
      have hb := amt_prefix (a := pre) (b := h :: post) (by rw [← hl']; exact hok)
      have hamt := hho.amt
      have hroom := hho.room
      have hage := hho.age
      have ha : 0 ≤ h.C.Age ∧ h.C.Age ≤ 65536 := by omega
      have e1 : decide ((pre.length : Int) < (r.1.length : Int)) = true := decide_eq_true (by rw [hA]; simp; omega)
      have e2 : w64 (S - amtH pre - h.C.Amount) = S - amtH (pre ++ [h]) := by
        rw [w64_id (by omega) (by omega), amtH_app]
        simp [amtH]; omega
      have e3 : w64 ((pre.length : Int) + 1) = ((pre.length + 1 : Nat) : Int) := by rw [w64_id (by omega) (by omega)]; rfl
      have d1 : decide (h.C.Amount < 0) = false := decide_eq_false (by omega)
      have d2 : decide (h.C.Amount > h.C.Room) = false := decide_eq_false (by omega)
      have d3 : decide (h.C.Age < sum8 h.C.Woods) = false := decide_eq_false (by have := hho.woods.sum; omega)
      have d4 : decide (h.C.Age < sum8 h.C.Places) = false := decide_eq_false (by have := hho.places.sum; omega)
      have d5 : decide (h.C.Age > day) = false := decide_eq_false (by omega)
      have d6 : (if decide ((pre.length : Int) > 0) = true then ((idxL r.1 (w64 ((pre.length : Int) - 1))).bind fun x784 => some (decide (h.C.Number ≤ x784.Number))) else (some false)) = some false := by
        by_cases h0 : pre.length = 0
        · rw [if_neg (by simp [h0])]
        · rw [if_pos (decide_eq_true (by omega))]
          have e5 : w64 ((pre.length : Int) - 1) = ((pre.length - 1 : Nat) : Int) := by rw [w64_id (by omega) (by omega)]; omega
          have hp : pre[pre.length - 1]? = some pre[pre.length - 1] := List.getElem?_eq_getElem (by omega)
          have hy : r.1[pre.length - 1]? = some pre[pre.length - 1].C := by
            rw [hA, List.getElem?_map, hl', List.getElem?_append_left (by omega), hp]; rfl
          have hlt' : pre[pre.length - 1].C.Number < h.C.Number := by
            rw [hl', List.map_append, List.map_cons] at hn
            exact (List.pairwise_append.1 hn).2.2 _ (List.mem_map_of_mem (List.getElem_mem _)) _ (by simp)
          rw [e5, idxL_nat, hy]
          simp only [Option.bind_some]
          rw [decide_eq_false (by omega)]
      have d7 : ((h.C.Amount == 0) && (((h.C.Age != 0) || (!(eq_29 h.C.Woods (arrOf [0, 0, 0, 0, 0, 0, 0, 0] 0)))) || (!(eq_29 h.C.Places (arrOf [0, 0, 0, 0, 0, 0, 0, 0] 0))))) = false := by
        by_cases e0 : h.C.Amount = 0
        · obtain ⟨z1, z2, z3, _⟩ := hho.empty e0
          rw [z1, z2, z3, zeros_eq]; simp
        · have : (h.C.Amount == 0) = false := by simpa using e0
          rw [this]; rfl
      refine ⟨S - amtH (pre ++ [h]), ?_, rfl⟩
      unfold b_wormtublaw06_CaskConserves_2
      simp only [e1, if_true]
      rw [idxL_nat, hx]
      simp only [Option.bind_some, bindv, e2]
      rw [woods_loop hho.woods ha, Option.bind_some, places_loop hho.places ha, Option.bind_some]
      simp only [d1, d2, d3, d4, d5, Bool.false_eq_true, if_false]
      rw [d6]
      simp only [Option.bind_some, Bool.false_eq_true, if_false, d7, e3])
    (fun t ht => by
      unfold b_wormtublaw06_CaskConserves_2
      rw [if_neg (by rw [hA]; simp)]) A [] S rfl (by simp [amtH])
  rw [ht] at hloop
  exact hloop
theorem law_CaskConserves : LawCaskConserves := fun a0 a1 _ _ => by
  unfold m_wormtublaw06_CaskConserves
  by_cases h60 : (a0.length : Int) > 60
  · rw [if_pos (by simpa using h60), awake_true]; rfl
  · rw [if_neg (by simpa using h60)]
    have hlen : a0.length ≤ 60 := by omega
    refine bind_of (Play_prog _ _) ?_
    cases hp : playS a0 a1 with
    | mk r k =>
      have hk := play_le hp
      cases r with
      | inr e =>
        have he := playS_err hp
        have hA : allS' a0 a1 = ([], (k : Int), e) := by unfold allS'; rw [hp]
        rw [hA]
        have e1 : (e != 0) = true := by simpa using he
        have e2 : decide ((k : Int) ≥ 0) = true := decide_eq_true (by omega)
        have e3 : decide ((k : Int) ≤ (a0.length : Int)) = true := decide_eq_true (by omega)
        simp only [e1, if_true, List.length_nil, e2, e3, awake_true]
        rfl
      | inl all =>
        have hA : allS' a0 a1 = ((ordS all).map (·.C), (k : Int), 0) := by unfold allS'; rw [hp]
        obtain ⟨hok, _, _, hday⟩ := playS_ok hp
        obtain ⟨s, hall, hc, hso, hsl, _, _, _, _⟩ := play_hist Csv Csv.start (fun pre x s l' h _ hv hd _ d => h.step hv hd d) hp
        rw [hA]
        have e0 : ((0 : Int) != 0) = false := rfl
        have e1 : (decide ((k : Int) < 0) || decide ((k : Int) > (a0.length : Int))) = false := by
          rw [decide_eq_false (by omega), decide_eq_false (by omega)]; rfl
        simp only [e0, Bool.false_eq_true, if_false, e1]
        rw [events_loop (r := ((ordS all).map (·.C), (k : Int), 0)) hc hsl hk hlen rfl]
        simp only [Option.bind_some]
        have hb := fdS_bound hc.ok
        have htl : (a0.take k).length ≤ 60 := by simp; omega
        have hperm := ord_perm hok
        have hamt : amtH (ordS all) = fdS (a0.take k) := by
          rw [amtH_perm hperm, hall, ← hc.amt]; exact amtH_older _ _
        rw [casks_loop (A := ordS all) rfl (fun h hh => hok.each h (hperm.mem_iff.1 hh)) (by rw [ord_nums]; exact nums_sorted hok.nums) (Int.le_refl _) hday (by rw [ord_len hok]; exact hok.few) (by omega)]
        simp only [Option.bind_some]
        have hm : (((ordS all).map (·.C)).length : Int) = (mkS (a0.take k) : Int) := by
          rw [List.length_map, ord_len hok, hall, ← hc.made]; simp [atS]
        rw [hamt, hm]
        simp [awake_true]
theorem caskConserves_holds : Rows.CaskConservesSaid := said_CaskConserves law_CaskConserves
end Go.Proofs.Ytkedjmhhcekmiaa
end
