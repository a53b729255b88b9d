/- Own texts and texts printed by a program of mine, for exciseReturns_holds; only what it reaches. -/
import Derived.Test.YtadpjmaaokkhjaaPb3
section
namespace Go.Proofs.Ytadpjmaaokkhjaa
open Go.Dec Go.Shelf Go.RowKit Go.Maps Go.Sort
def m_wormtublaw11_long (r_1 : ApiDutyRules) (l_5 : (List ApiDutyEvent)) : Bool :=
 (((decide ((r_1.Rates.length : Int) > 70)) || ((decide ((l_5.length : Int) > 60)) && (decide ((l_5.length : Int) ≤ 4096)))) || (decide ((l_5.length : Int) > 4100)))
theorem c_wormtublaw11_long (F0 : Fz) (r_1 : ApiDutyRules) (p2 : Option Addr) (k3 : Nat) (_h4 : RepSl 2 (Ex cApiDutyRate) F0 p2 k3 r_1.Rates) (l_5 : (List ApiDutyEvent)) (p6 : Option Addr) (k7 : Nat) (_h8 : RepSl 6 (Ex cApiDutyEvent) F0 p6 k7 l_5) : CT0 Try.prog 11 [(eApiDutyRules r_1 p2 k3), (.slice p6 l_5.length k7)].toArray F0 (some (m_wormtublaw11_long r_1 l_5)) (fun r _ v => v = (.bool r)) := by
 refine CT0.enter Try.func11 rfl Try.ntmps11 rfl fun r R => ?_
 refine .seq ?_
 refine .region ?_
 refine .boxF (cs := (cApiDutyRules r_1 p2 k3)) rfl rfl rfl (fun b9 F_10 l_11 hb12 => ?_)
 refine .assign rfl rfl ?_
 refine .nil ?_
 refine .code ?_
 refine .seq ?_
 refine .region ?_
 refine .fieldAddr rfl Try.underlying24 rfl Try.sizeOf22 rfl ?_
 refine .loadF rfl Try.isAgg22 rfl hb12 rfl ?_
 refine .lenS rfl rfl Try.underlying22 rfl ?_
 refine .gtr rfl rfl rfl ?_
 refine .move rfl rfl ?_
 refine .orP (b := (decide ((r_1.Rates.length : Int) > 70))) (b' := ((decide ((l_5.length : Int) > 60)) && (decide ((l_5.length : Int) ≤ 4096)))) 9 18 (fun hb13 => ?_) (fun hb18 => ?_) (fun F_19 l_20 => ?_)
 ·skip
  refine .onH hb13 rfl rfl ?_
  refine .move rfl rfl ?_
  refine .onH hb13 rfl rfl ?_
  refine .lenS rfl rfl Try.underlying25 rfl ?_
  refine .onH hb13 rfl rfl ?_
  refine .gtr rfl rfl rfl ?_
  refine .onH hb13 rfl rfl ?_
  refine .move rfl rfl ?_
  refine .andP (b := (decide ((l_5.length : Int) > 60))) (b' := (decide ((l_5.length : Int) ≤ 4096))) 4 17 (fun hb14 => ?_) (fun hb15 => ?_) (fun F_16 l_17 => ?_)
  ·skip
   refine .onH hb14 rfl rfl ?_
   refine .move rfl rfl ?_
   refine .onH hb14 rfl rfl ?_
   refine .lenS rfl rfl Try.underlying25 rfl ?_
   refine .onH hb14 rfl rfl ?_
   refine .leq rfl rfl rfl ?_
   refine .onH hb13 rfl rfl ?_
   refine .pickTH hb14 rfl rfl rfl ?_
   exact .fin 4 rfl rfl (by kernel_rfl) (Fz.le_refl _)
  ·skip
   refine .offH hb15 rfl rfl rfl ?_
   refine .offH hb15 rfl rfl rfl ?_
   refine .offH hb15 rfl rfl rfl ?_
   refine .onH hb13 rfl rfl ?_
   refine .pickFH hb15 rfl rfl rfl ?_
   exact .fin 4 rfl rfl (by kernel_rfl) (Fz.le_refl _)
  refine .pickFH hb13 rfl rfl rfl ?_
  exact .fin 6 rfl rfl (by kernel_rfl) l_17
 ·skip
  refine .offH hb18 rfl rfl rfl ?_
  refine .offH hb18 rfl rfl rfl ?_
  refine .offH hb18 rfl rfl rfl ?_
  refine .offH hb18 rfl rfl rfl ?_
  refine .off rfl rfl rfl rfl ?_
  refine .off rfl rfl rfl rfl ?_
  refine .off rfl rfl rfl rfl ?_
  refine .offH hb18 rfl rfl rfl ?_
  refine .pickTH hb18 rfl rfl rfl ?_
  exact .fin 9 rfl rfl (by kernel_rfl) (Fz.le_refl _)
 refine .move rfl rfl ?_
 refine .orP (b := ((decide ((r_1.Rates.length : Int) > 70)) || ((decide ((l_5.length : Int) > 60)) && (decide ((l_5.length : Int) ≤ 4096))))) (b' := (decide ((l_5.length : Int) > 4100))) 4 23 (fun hb21 => ?_) (fun hb22 => ?_) (fun F_23 l_24 => ?_)
 ·skip
  refine .onH hb21 rfl rfl ?_
  refine .move rfl rfl ?_
  refine .onH hb21 rfl rfl ?_
  refine .lenS rfl rfl Try.underlying25 rfl ?_
  refine .onH hb21 rfl rfl ?_
  refine .gtr rfl rfl rfl ?_
  refine .pickFH hb21 rfl rfl rfl ?_
  exact .fin 4 rfl rfl (by kernel_rfl) (Fz.le_refl _)
 ·skip
  refine .offH hb22 rfl rfl rfl ?_
  refine .offH hb22 rfl rfl rfl ?_
  refine .offH hb22 rfl rfl rfl ?_
  refine .pickTH hb22 rfl rfl rfl ?_
  exact .fin 4 rfl rfl (by kernel_rfl) (Fz.le_refl _)
 refine .assign rfl rfl ?_
 refine .nil ?_
 refine .code ?_
 exact .ret0 Try.results11 (.tmp rfl (.nil)) (i := 0) rfl (Fz.le_trans l_11 (Fz.le_trans l_20 l_24)) rfl
def m_wormtubref11_bond (n_1 : Int) : Bool :=
 (m_wormtubref11_in n_1 0 15)
theorem c_wormtubref11_bond (F0 : Fz) (n_1 : Int) : CT0 Try.prog 47 [(.int .i64 n_1)].toArray F0 (some (m_wormtubref11_bond n_1)) (fun r _ v => v = (.bool r)) := by
 refine CT0.enter Try.func47 rfl Try.ntmps47 rfl fun r R => ?_
 refine .seq ?_
 refine .region ?_
 refine .assign rfl rfl ?_
 refine .nil ?_
 refine .code ?_
 refine .seq ?_
 refine .region ?_
 refine .move rfl rfl ?_
 refine .callP rfl Try.call28 rfl rfl rfl (c_wormtubref11_in _ n_1 0 15) ?_
 rintro F_2 _ l_3 rfl
 refine .assign rfl rfl ?_
 refine .nil ?_
 refine .code ?_
 exact .ret0 Try.results47 (.tmp rfl (.nil)) (i := 0) rfl l_3 rfl
noncomputable def m_wormtubref11_Event (x1 : ApiDutyEvent) : Option Bool :=
 if (!(m_wormtubref11_in x1.Day 0 65536)) then (some false) else ((if (x1.Kind == 0) then (some (x1.Kind == 0)) else (if (x1.Kind == 3) then (some (x1.Kind == 3)) else (some (x1.Kind == 4))) : Option (Bool)).bind fun j11 => if j11 then (some ((m_wormtubref11_bond x1.Bond) && (m_wormtubref11_in x1.Amount 1 17179869184))) else (if (x1.Kind == 1) then (some ((((m_wormtubref11_bond x1.Bond) && (m_wormtubref11_bond x1.To)) && (m_wormtubref11_in x1.Id 0 1073741824)) && (m_wormtubref11_in x1.Amount 1 17179869184))) else (if (x1.Kind == 2) then (some (((m_wormtubref11_bond x1.Bond) && (m_wormtubref11_in x1.Id 0 1073741824)) && (m_wormtubref11_in x1.Amount 0 17179869184))) else (if (x1.Kind == 5) then (some ((m_wormtubref11_bond x1.Bond) && (m_wormtubref11_in x1.Amount 0 17179869184))) else (if (x1.Kind == 6) then (some (m_wormtubref11_in x1.Amount 1 72057594037927936)) else (some false))))))
theorem c_wormtubref11_Event (F0 : Fz) (x1 : ApiDutyEvent) : CT0 Try.prog 29 [(eApiDutyEvent x1)].toArray F0 (m_wormtubref11_Event x1) (fun r _ v => v = (.bool r)) := by
 refine CT0.enter Try.func29 rfl Try.ntmps29 rfl fun r R => ?_
 unfold m_wormtubref11_Event
 refine .seq ?_
 refine .region ?_
 refine .boxF (cs := (cApiDutyEvent x1)) rfl rfl rfl (fun b2 F_3 l_4 hb5 => ?_)
 refine .assign rfl rfl ?_
 refine .nil ?_
 refine .code ?_
 refine .seq ?_
 refine .seq ?_
 refine .region ?_
 refine .fieldAddr rfl Try.underlying47 rfl Try.sizeOf3 rfl ?_
 refine .loadF rfl Try.isAgg3 rfl hb5 rfl ?_
 refine .callP rfl Try.call28 rfl rfl rfl (c_wormtubref11_in _ x1.Day 0 65536) ?_
 rintro F_6 _ l_7 rfl
 refine .not rfl rfl ?_
 refine .nil ?_
 refine .code ?_
 refine .cond rfl (fun hb8 => ?_) (fun hb8 => ?_)
 ·skip
  refine .seq ?_
  refine .region ?_
  refine .assign rfl rfl ?_
  refine .nil ?_
  refine .code ?_
  exact .ret0 Try.results29 (.tmp rfl (.nil)) (i := 0) rfl (Fz.le_trans l_4 l_7) rfl
 ·skip
  refine .skip ?_
  refine .code ?_
  refine .seq ?_
  refine .seq ?_
  refine .region ?_
  refine .fieldAddr rfl Try.underlying47 rfl Try.sizeOf3 rfl ?_
  refine .loadF rfl Try.isAgg3 rfl (l_7.mem _ _ hb5) rfl ?_
  refine .nil ?_
  refine .code ?_
  refine .block ?_
  refine .seq ?_
  refine .seq ?_
  refine .region ?_
  refine .eql rfl rfl rfl ?_
  refine .assign rfl rfl ?_
  refine .nil ?_
  refine .code ?_
  refine .keep (.cons (k := 1) rfl (.cons (k := 8) rfl (.cons (k := 9) rfl (.nil _)))) ?_
  refine GC.join0 (σ := Bool) (fun j11 a w => ∃ (F_12 : Fz), F_6 ≤ F_12 ∧ Hd 71 [] [(1, (.pointer (some ⟨b2, 0, none⟩))), (8, (.int .i64 x1.Kind)), (9, (.bool j11))] F_12 [R] a w) (fun sj => ?_) (fun j11 hs0 => GE.ex (fun a w ⟨F_12, l_13, hA⟩ => ⟨_, hA, ?_⟩))
  ·skip
   refine .cond rfl (fun hb9 => ?_) (fun hb9 => ?_)
   ·skip
    refine .skip ?_
    exact .nil fun e a w h => by cases e; exact ⟨rfl, ⟨F_6, (Fz.le_refl _), h.1.sub (.cons (k := 1) rfl (.cons (k := 8) rfl (.cons (k := 9) rfl (.nil _)))), h.2⟩⟩
   ·skip
    refine .seq ?_
    refine .region ?_
    refine .eql rfl rfl rfl ?_
    refine .assign rfl rfl ?_
    refine .nil ?_
    refine .code ?_
    refine .cond rfl (fun hb10 => ?_) (fun hb10 => ?_)
    ·skip
     refine .skip ?_
     exact .nil fun e a w h => by cases e; exact ⟨rfl, ⟨F_6, (Fz.le_refl _), h.1.sub (.cons (k := 1) rfl (.cons (k := 8) rfl (.cons (k := 9) rfl (.nil _)))), h.2⟩⟩
    ·skip
     refine .region ?_
     refine .eql rfl rfl rfl ?_
     refine .assign rfl rfl ?_
     refine .nil ?_
     exact .nil fun e a w h => by cases e; exact ⟨rfl, ⟨F_6, (Fz.le_refl _), h.1.sub (.cons (k := 1) rfl (.cons (k := 8) rfl (.cons (k := 9) rfl (.nil _)))), h.2⟩⟩
  refine .code ?_
  refine .cond rfl (fun hb14 => ?_) (fun hb14 => ?_)
  ·skip
   refine .seq ?_
   refine .region ?_
   refine .fieldAddr rfl Try.underlying47 rfl Try.sizeOf3 rfl ?_
   refine .loadF rfl Try.isAgg3 rfl ((Fz.le_trans l_7 l_13).mem _ _ hb5) rfl ?_
   refine .callP rfl Try.call47 rfl rfl rfl (c_wormtubref11_bond _ x1.Bond) ?_
   rintro F_15 _ l_16 rfl
   refine .move rfl rfl ?_
   refine .andP (b := (m_wormtubref11_bond x1.Bond)) (b' := (m_wormtubref11_in x1.Amount 1 17179869184)) 4 20 (fun hb17 => ?_) (fun hb20 => ?_) (fun F_21 l_22 => ?_)
   ·skip
    refine .onH hb17 rfl rfl ?_
    refine .fieldAddr rfl Try.underlying47 rfl Try.sizeOf3 rfl ?_
    refine .onH hb17 rfl rfl ?_
    refine .loadF rfl Try.isAgg3 rfl ((Fz.le_trans l_7 (Fz.le_trans l_13 l_16)).mem _ _ hb5) rfl ?_
    refine .onH hb17 rfl rfl ?_
    refine .callP rfl Try.call28 rfl rfl rfl (c_wormtubref11_in _ x1.Amount 1 17179869184) ?_
    rintro F_18 _ l_19 rfl
    refine .pickTH hb17 rfl rfl rfl ?_
    exact .fin 4 rfl rfl (by kernel_rfl) l_19
   ·skip
    refine .offH hb20 rfl rfl rfl ?_
    refine .offH hb20 rfl rfl rfl ?_
    refine .offH hb20 rfl rfl rfl ?_
    refine .pickFH hb20 rfl rfl rfl ?_
    exact .fin 4 rfl rfl (by kernel_rfl) (Fz.le_refl _)
   refine .assign rfl rfl ?_
   refine .nil ?_
   refine .code ?_
   exact .ret0 Try.results29 (.tmp rfl (.nil)) (i := 0) rfl (Fz.le_trans l_4 (Fz.le_trans l_7 (Fz.le_trans l_13 (Fz.le_trans l_16 l_22)))) rfl
  ·skip
   refine .seq ?_
   refine .region ?_
   refine .eql rfl rfl rfl ?_
   refine .assign rfl rfl ?_
   refine .nil ?_
   refine .code ?_
   refine .cond rfl (fun hb23 => ?_) (fun hb23 => ?_)
   ·skip
    refine .seq ?_
    refine .region ?_
    refine .fieldAddr rfl Try.underlying47 rfl Try.sizeOf3 rfl ?_
    refine .loadF rfl Try.isAgg3 rfl ((Fz.le_trans l_7 l_13).mem _ _ hb5) rfl ?_
    refine .callP rfl Try.call47 rfl rfl rfl (c_wormtubref11_bond _ x1.Bond) ?_
    rintro F_24 _ l_25 rfl
    refine .move rfl rfl ?_
    refine .andP (b := (m_wormtubref11_bond x1.Bond)) (b' := (m_wormtubref11_bond x1.To)) 4 30 (fun hb26 => ?_) (fun hb29 => ?_) (fun F_30 l_31 => ?_)
    ·skip
     refine .onH hb26 rfl rfl ?_
     refine .fieldAddr rfl Try.underlying47 rfl Try.sizeOf3 rfl ?_
     refine .onH hb26 rfl rfl ?_
     refine .loadF rfl Try.isAgg3 rfl ((Fz.le_trans l_7 (Fz.le_trans l_13 l_25)).mem _ _ hb5) rfl ?_
     refine .onH hb26 rfl rfl ?_
     refine .callP rfl Try.call47 rfl rfl rfl (c_wormtubref11_bond _ x1.To) ?_
     rintro F_27 _ l_28 rfl
     refine .pickTH hb26 rfl rfl rfl ?_
     exact .fin 4 rfl rfl (by kernel_rfl) l_28
    ·skip
     refine .offH hb29 rfl rfl rfl ?_
     refine .offH hb29 rfl rfl rfl ?_
     refine .offH hb29 rfl rfl rfl ?_
     refine .pickFH hb29 rfl rfl rfl ?_
     exact .fin 4 rfl rfl (by kernel_rfl) (Fz.le_refl _)
    refine .move rfl rfl ?_
    refine .andP (b := ((m_wormtubref11_bond x1.Bond) && (m_wormtubref11_bond x1.To))) (b' := (m_wormtubref11_in x1.Id 0 1073741824)) 4 35 (fun hb32 => ?_) (fun hb35 => ?_) (fun F_36 l_37 => ?_)
    ·skip
     refine .onH hb32 rfl rfl ?_
     refine .fieldAddr rfl Try.underlying47 rfl Try.sizeOf3 rfl ?_
     refine .onH hb32 rfl rfl ?_
     refine .loadF rfl Try.isAgg3 rfl ((Fz.le_trans l_7 (Fz.le_trans l_13 (Fz.le_trans l_25 l_31))).mem _ _ hb5) rfl ?_
     refine .onH hb32 rfl rfl ?_
     refine .callP rfl Try.call28 rfl rfl rfl (c_wormtubref11_in _ x1.Id 0 1073741824) ?_
     rintro F_33 _ l_34 rfl
     refine .pickTH hb32 rfl rfl rfl ?_
     exact .fin 4 rfl rfl (by kernel_rfl) l_34
    ·skip
     refine .offH hb35 rfl rfl rfl ?_
     refine .offH hb35 rfl rfl rfl ?_
     refine .offH hb35 rfl rfl rfl ?_
     refine .pickFH hb35 rfl rfl rfl ?_
     exact .fin 4 rfl rfl (by kernel_rfl) (Fz.le_refl _)
    refine .move rfl rfl ?_
    refine .andP (b := (((m_wormtubref11_bond x1.Bond) && (m_wormtubref11_bond x1.To)) && (m_wormtubref11_in x1.Id 0 1073741824))) (b' := (m_wormtubref11_in x1.Amount 1 17179869184)) 4 40 (fun hb38 => ?_) (fun hb41 => ?_) (fun F_42 l_43 => ?_)
    ·skip
     refine .onH hb38 rfl rfl ?_
     refine .fieldAddr rfl Try.underlying47 rfl Try.sizeOf3 rfl ?_
     refine .onH hb38 rfl rfl ?_
     refine .loadF rfl Try.isAgg3 rfl ((Fz.le_trans l_7 (Fz.le_trans l_13 (Fz.le_trans l_25 (Fz.le_trans l_31 l_37)))).mem _ _ hb5) rfl ?_
     refine .onH hb38 rfl rfl ?_
     refine .callP rfl Try.call28 rfl rfl rfl (c_wormtubref11_in _ x1.Amount 1 17179869184) ?_
     rintro F_39 _ l_40 rfl
     refine .pickTH hb38 rfl rfl rfl ?_
     exact .fin 4 rfl rfl (by kernel_rfl) l_40
    ·skip
     refine .offH hb41 rfl rfl rfl ?_
     refine .offH hb41 rfl rfl rfl ?_
     refine .offH hb41 rfl rfl rfl ?_
     refine .pickFH hb41 rfl rfl rfl ?_
     exact .fin 4 rfl rfl (by kernel_rfl) (Fz.le_refl _)
    refine .assign rfl rfl ?_
    refine .nil ?_
    refine .code ?_
    exact .ret0 Try.results29 (.tmp rfl (.nil)) (i := 0) rfl (Fz.le_trans l_4 (Fz.le_trans l_7 (Fz.le_trans l_13 (Fz.le_trans l_25 (Fz.le_trans l_31 (Fz.le_trans l_37 l_43)))))) rfl
   ·skip
    refine .seq ?_
    refine .region ?_
    refine .eql rfl rfl rfl ?_
    refine .assign rfl rfl ?_
    refine .nil ?_
    refine .code ?_
    refine .cond rfl (fun hb44 => ?_) (fun hb44 => ?_)
    ·skip
     refine .seq ?_
     refine .region ?_
     refine .fieldAddr rfl Try.underlying47 rfl Try.sizeOf3 rfl ?_
     refine .loadF rfl Try.isAgg3 rfl ((Fz.le_trans l_7 l_13).mem _ _ hb5) rfl ?_
     refine .callP rfl Try.call47 rfl rfl rfl (c_wormtubref11_bond _ x1.Bond) ?_
     rintro F_45 _ l_46 rfl
     refine .move rfl rfl ?_
     refine .andP (b := (m_wormtubref11_bond x1.Bond)) (b' := (m_wormtubref11_in x1.Id 0 1073741824)) 4 50 (fun hb47 => ?_) (fun hb50 => ?_) (fun F_51 l_52 => ?_)
     ·skip
      refine .onH hb47 rfl rfl ?_
      refine .fieldAddr rfl Try.underlying47 rfl Try.sizeOf3 rfl ?_
      refine .onH hb47 rfl rfl ?_
      refine .loadF rfl Try.isAgg3 rfl ((Fz.le_trans l_7 (Fz.le_trans l_13 l_46)).mem _ _ hb5) rfl ?_
      refine .onH hb47 rfl rfl ?_
      refine .callP rfl Try.call28 rfl rfl rfl (c_wormtubref11_in _ x1.Id 0 1073741824) ?_
      rintro F_48 _ l_49 rfl
      refine .pickTH hb47 rfl rfl rfl ?_
      exact .fin 4 rfl rfl (by kernel_rfl) l_49
     ·skip
      refine .offH hb50 rfl rfl rfl ?_
      refine .offH hb50 rfl rfl rfl ?_
      refine .offH hb50 rfl rfl rfl ?_
      refine .pickFH hb50 rfl rfl rfl ?_
      exact .fin 4 rfl rfl (by kernel_rfl) (Fz.le_refl _)
     refine .move rfl rfl ?_
     refine .andP (b := ((m_wormtubref11_bond x1.Bond) && (m_wormtubref11_in x1.Id 0 1073741824))) (b' := (m_wormtubref11_in x1.Amount 0 17179869184)) 4 55 (fun hb53 => ?_) (fun hb56 => ?_) (fun F_57 l_58 => ?_)
     ·skip
      refine .onH hb53 rfl rfl ?_
      refine .fieldAddr rfl Try.underlying47 rfl Try.sizeOf3 rfl ?_
      refine .onH hb53 rfl rfl ?_
      refine .loadF rfl Try.isAgg3 rfl ((Fz.le_trans l_7 (Fz.le_trans l_13 (Fz.le_trans l_46 l_52))).mem _ _ hb5) rfl ?_
      refine .onH hb53 rfl rfl ?_
      refine .callP rfl Try.call28 rfl rfl rfl (c_wormtubref11_in _ x1.Amount 0 17179869184) ?_
      rintro F_54 _ l_55 rfl
      refine .pickTH hb53 rfl rfl rfl ?_
      exact .fin 4 rfl rfl (by kernel_rfl) l_55
     ·skip
      refine .offH hb56 rfl rfl rfl ?_
      refine .offH hb56 rfl rfl rfl ?_
      refine .offH hb56 rfl rfl rfl ?_
      refine .pickFH hb56 rfl rfl rfl ?_
      exact .fin 4 rfl rfl (by kernel_rfl) (Fz.le_refl _)
     refine .assign rfl rfl ?_
     refine .nil ?_
     refine .code ?_
     exact .ret0 Try.results29 (.tmp rfl (.nil)) (i := 0) rfl (Fz.le_trans l_4 (Fz.le_trans l_7 (Fz.le_trans l_13 (Fz.le_trans l_46 (Fz.le_trans l_52 l_58))))) rfl
    ·skip
     refine .seq ?_
     refine .region ?_
     refine .eql rfl rfl rfl ?_
     refine .assign rfl rfl ?_
     refine .nil ?_
     refine .code ?_
     refine .cond rfl (fun hb59 => ?_) (fun hb59 => ?_)
     ·skip
      refine .seq ?_
      refine .region ?_
      refine .fieldAddr rfl Try.underlying47 rfl Try.sizeOf3 rfl ?_
      refine .loadF rfl Try.isAgg3 rfl ((Fz.le_trans l_7 l_13).mem _ _ hb5) rfl ?_
      refine .callP rfl Try.call47 rfl rfl rfl (c_wormtubref11_bond _ x1.Bond) ?_
      rintro F_60 _ l_61 rfl
      refine .move rfl rfl ?_
      refine .andP (b := (m_wormtubref11_bond x1.Bond)) (b' := (m_wormtubref11_in x1.Amount 0 17179869184)) 4 65 (fun hb62 => ?_) (fun hb65 => ?_) (fun F_66 l_67 => ?_)
      ·skip
       refine .onH hb62 rfl rfl ?_
       refine .fieldAddr rfl Try.underlying47 rfl Try.sizeOf3 rfl ?_
       refine .onH hb62 rfl rfl ?_
       refine .loadF rfl Try.isAgg3 rfl ((Fz.le_trans l_7 (Fz.le_trans l_13 l_61)).mem _ _ hb5) rfl ?_
       refine .onH hb62 rfl rfl ?_
       refine .callP rfl Try.call28 rfl rfl rfl (c_wormtubref11_in _ x1.Amount 0 17179869184) ?_
       rintro F_63 _ l_64 rfl
       refine .pickTH hb62 rfl rfl rfl ?_
       exact .fin 4 rfl rfl (by kernel_rfl) l_64
      ·skip
       refine .offH hb65 rfl rfl rfl ?_
       refine .offH hb65 rfl rfl rfl ?_
       refine .offH hb65 rfl rfl rfl ?_
       refine .pickFH hb65 rfl rfl rfl ?_
       exact .fin 4 rfl rfl (by kernel_rfl) (Fz.le_refl _)
      refine .assign rfl rfl ?_
      refine .nil ?_
      refine .code ?_
      exact .ret0 Try.results29 (.tmp rfl (.nil)) (i := 0) rfl (Fz.le_trans l_4 (Fz.le_trans l_7 (Fz.le_trans l_13 (Fz.le_trans l_61 l_67)))) rfl
     ·skip
      refine .seq ?_
      refine .region ?_
      refine .eql rfl rfl rfl ?_
      refine .assign rfl rfl ?_
      refine .nil ?_
      refine .code ?_
      refine .cond rfl (fun hb68 => ?_) (fun hb68 => ?_)
      ·skip
       refine .seq ?_
       refine .region ?_
       refine .fieldAddr rfl Try.underlying47 rfl Try.sizeOf3 rfl ?_
       refine .loadF rfl Try.isAgg3 rfl ((Fz.le_trans l_7 l_13).mem _ _ hb5) rfl ?_
       refine .callP rfl Try.call28 rfl rfl rfl (c_wormtubref11_in _ x1.Amount 1 72057594037927936) ?_
       rintro F_69 _ l_70 rfl
       refine .assign rfl rfl ?_
       refine .nil ?_
       refine .code ?_
       exact .ret0 Try.results29 (.tmp rfl (.nil)) (i := 0) rfl (Fz.le_trans l_4 (Fz.le_trans l_7 (Fz.le_trans l_13 l_70))) rfl
      ·skip
       refine .skip ?_
       refine .block ?_
       refine .code ?_
       refine .seq ?_
       refine .region ?_
       refine .assign rfl rfl ?_
       refine .nil ?_
       refine .code ?_
       exact .ret0 Try.results29 (.tmp rfl (.nil)) (i := 0) rfl (Fz.le_trans l_4 (Fz.le_trans l_7 l_13)) rfl
noncomputable def b_wormtubref11_duty_1 (r_1 : ApiDutyRules) (day6 : Int) (s11 : Int × Int) : Option (Ctl (Int × Int) ((Int))) :=
 if (decide (s11.2 < (r_1.Rates.length : Int))) then (((idxL r_1.Rates s11.2).bind fun x15 => (if (decide (x15.From ≤ day6)) then ((idxL r_1.Rates s11.2).bind fun x26 => some x26.Rate) else (some s11.1) : Option (Int)).bind fun j36 => some j36 : Option (Int)).bind fun j39 => bindv (w64 (s11.2 + 1)) fun i42 => some (.next (j39, i42))) else (some (.done s11.1))
noncomputable def m_wormtubref11_duty (r_1 : ApiDutyRules) (amount5 : Int) (day6 : Int) : Option Int :=
 (loopM (b_wormtubref11_duty_1 r_1 day6) (0, 0)).bind fun b44 => some (w64 (Int.tdiv (w64 (amount5 * b44)) 1000))
theorem c_wormtubref11_duty (F0 : Fz) (r_1 : ApiDutyRules) (p2 : Option Addr) (k3 : Nat) (h4 : RepSl 2 (Ex cApiDutyRate) F0 p2 k3 r_1.Rates) (amount5 : Int) (day6 : Int) : CT0 Try.prog 36 [(eApiDutyRules r_1 p2 k3), (.int .i64 amount5), (.int .i64 day6)].toArray F0 (m_wormtubref11_duty r_1 amount5 day6) (fun r _ v => v = (.int .i64 r)) := by
 refine CT0.enter Try.func36 rfl Try.ntmps36 rfl fun r R => ?_
 unfold m_wormtubref11_duty
 refine .seq ?_
 refine .region ?_
 refine .boxF (cs := (cApiDutyRules r_1 p2 k3)) rfl rfl rfl (fun b7 F_8 l_9 hb10 => ?_)
 refine .assign rfl rfl ?_
 refine .nil ?_
 refine .code ?_
 refine .seq ?_
 refine .region ?_
 refine .assign rfl rfl ?_
 refine .nil ?_
 refine .code ?_
 refine .seq ?_
 refine .seq ?_
 refine .region ?_
 refine .assign rfl rfl ?_
 refine .nil ?_
 refine .code ?_
 refine .block ?_
 refine .keep (.cons (k := 1) rfl (.cons (k := 2) rfl (.cons (k := 3) rfl (.cons (k := 7) rfl (.cons (k := 8) rfl (.nil _)))))) ?_
 refine .loop (fun (s11 : Int × Int) a w => ∃ (F_12 : Fz), F_8 ≤ F_12 ∧ Hd 34 [] [(1, (.int .i64 amount5)), (2, (.int .i64 day6)), (3, (.pointer (some ⟨b7, 0, none⟩))), (7, (.int .i64 s11.1)), (8, (.int .i64 s11.2))] F_12 [R] a w) (fun b44 e a w => e = .exit 0 ∧ ∃ (F_45 : Fz), F_8 ≤ F_45 ∧ Hd 34 [] [(1, (.int .i64 amount5)), (7, (.int .i64 b44))] F_45 [R] a w) ?_ ?_ ?_
 ·exact fun a w h => ⟨F_8, (Fz.le_refl _), h.1.sub (.cons (k := 1) rfl (.cons (k := 2) rfl (.cons (k := 3) rfl (.cons (k := 7) rfl (.cons (k := 8) rfl (.nil _)))))), h.2⟩
 ·intro s11 ctl
  refine GC.ex (fun a w ⟨F_12, l_13, hA⟩ => ⟨_, hA, ?_⟩)
  unfold b_wormtubref11_duty_1
  refine .seq ?_
  refine .seq ?_
  refine .region ?_
  refine .move rfl rfl ?_
  refine .fieldAddr rfl Try.underlying24 rfl Try.sizeOf22 rfl ?_
  refine .loadF rfl Try.isAgg22 rfl (l_13.mem _ _ hb10) rfl ?_
  refine .lenS rfl rfl Try.underlying22 rfl ?_
  refine .lss rfl rfl rfl ?_
  refine .nil ?_
  refine .code ?_
  refine .cond rfl (fun hb14 => ?_) (fun hb14 => ?_)
  ·skip
   refine .skip ?_
   refine .code ?_
   refine .seq ?_
   refine .keep (.cons (k := 1) rfl (.cons (k := 2) rfl (.cons (k := 3) rfl (.cons (k := 7) rfl (.cons (k := 8) rfl (.nil _)))))) ?_
   refine GC.join0 (σ := Int) (fun j39 a w => ∃ (F_40 : Fz), F_12 ≤ F_40 ∧ Hd 34 [] [(1, (.int .i64 amount5)), (2, (.int .i64 day6)), (3, (.pointer (some ⟨b7, 0, none⟩))), (7, (.int .i64 j39)), (8, (.int .i64 s11.2))] F_40 [R] a w) (fun sj => ?_) (fun j39 hs0 => GE.ex (fun a w ⟨F_40, l_41, hA⟩ => ⟨_, hA, ?_⟩))
   ·skip
    refine .block ?_
    refine .seq ?_
    refine .region ?_
    refine .fieldAddr rfl Try.underlying24 rfl Try.sizeOf22 rfl ?_
    refine .loadF rfl Try.isAgg22 rfl (l_13.mem _ _ hb10) rfl ?_
    refine .move rfl rfl ?_
    refine .idx rfl Try.underlying22 Try.sizeOf53 (h4.mono (Fz.le_trans l_9 l_13)) rfl rfl (fun x15 b16 o17 T18 fr19 cs20 e21 hm22 hv23 => ?_)
    refine .fieldAddr rfl Try.underlying53 rfl Try.sizeOf3 rfl ?_
    refine .loadF rfl Try.isAgg3 rfl hm22 (cell_of_take (k := 0) hv23 rfl) ?_
    refine .move rfl rfl ?_
    refine .leq rfl rfl rfl ?_
    refine .nil ?_
    refine .code ?_
    refine .keep (.cons (k := 1) rfl (.cons (k := 2) rfl (.cons (k := 3) rfl (.cons (k := 7) rfl (.cons (k := 8) rfl (.cons (k := 23) rfl (.nil _))))))) ?_
    refine GC.join0 (σ := Int) (fun j36 a w => ∃ (F_37 : Fz), F_12 ≤ F_37 ∧ Hd 34 [] [(1, (.int .i64 amount5)), (2, (.int .i64 day6)), (3, (.pointer (some ⟨b7, 0, none⟩))), (7, (.int .i64 j36)), (8, (.int .i64 s11.2))] F_37 [R] a w) (fun sj => ?_) (fun j36 hs0 => GE.ex (fun a w ⟨F_37, l_38, hA⟩ => ⟨_, hA, ?_⟩))
    ·skip
     refine .cond rfl (fun hb25 => ?_) (fun hb25 => ?_)
     ·skip
      refine .region ?_
      refine .fieldAddr rfl Try.underlying24 rfl Try.sizeOf22 rfl ?_
      refine .loadF rfl Try.isAgg22 rfl (l_13.mem _ _ hb10) rfl ?_
      refine .move rfl rfl ?_
      refine .idx rfl Try.underlying22 Try.sizeOf53 (h4.mono (Fz.le_trans l_9 l_13)) rfl rfl (fun x26 b27 o28 T29 fr30 cs31 e32 hm33 hv34 => ?_)
      refine .fieldAddr rfl Try.underlying53 rfl Try.sizeOf3 rfl ?_
      refine .loadF rfl Try.isAgg3 rfl hm33 (cell_of_take (k := 1) hv34 rfl) ?_
      refine .assign rfl rfl ?_
      refine .nil ?_
      exact .nil fun e a w h => by cases e; exact ⟨rfl, ⟨F_12, (Fz.le_refl _), h.1.sub (.cons (k := 1) rfl (.cons (k := 2) rfl (.cons (k := 3) rfl (.cons (k := 7) rfl (.cons (k := 8) rfl (.nil _)))))), h.2⟩⟩
     ·skip
      refine .skip ?_
      exact .nil fun e a w h => by cases e; exact ⟨rfl, ⟨F_12, (Fz.le_refl _), h.1.sub (.cons (k := 1) rfl (.cons (k := 2) rfl (.cons (k := 3) rfl (.cons (k := 7) rfl (.cons (k := 8) rfl (.nil _)))))), h.2⟩⟩
    refine .block ?_
    exact .nil fun e a w h => by cases e; exact ⟨rfl, ⟨F_37, l_38, h.1.sub (.cons (k := 1) rfl (.cons (k := 2) rfl (.cons (k := 3) rfl (.cons (k := 7) rfl (.cons (k := 8) rfl (.nil _)))))), h.2⟩⟩
   refine .code ?_
   refine .region ?_
   refine .move rfl rfl ?_
   refine .add rfl rfl rfl ?_
   refine .assignL rfl rfl (fun i42 e43 => ?_)
   refine .nil ?_
   exact .nil (LPost.norm fun a w h => ⟨F_40, (Fz.le_trans l_13 l_41), h.1.sub (.cons (k := 1) rfl (.cons (k := 2) rfl (.cons (k := 3) rfl (.cons (k := 7) rfl (.cons (k := 8) rfl (.nil _)))))), h.2⟩)
  ·skip
   refine .exitOut rfl (LPost.exit fun a w h => ⟨rfl, F_12, l_13, h.1.sub (.cons (k := 1) rfl (.cons (k := 7) rfl (.nil _))), h.2⟩)
 ·intro b44 hb0 hk e a w hD
  obtain ⟨rfl, F_45, l_46, hA⟩ := hD
  refine interp_exit rfl (GE.app ?_ hk a w hA)
  refine .code ?_
  refine .seq ?_
  refine .region ?_
  refine .move rfl rfl ?_
  refine .move rfl rfl ?_
  refine .mul rfl rfl rfl ?_
  refine .quoC rfl (by decide) rfl rfl ?_
  refine .assign rfl rfl ?_
  refine .nil ?_
  refine .code ?_
  exact .ret0 Try.results36 (.tmp rfl (.nil)) (i := 0) rfl (Fz.le_trans l_9 l_46) rfl
noncomputable def m_wormtubref11_without (l_1 : (List ApiParcel)) (i5 : Int) : Option (List ApiParcel) :=
 (sliceL l_1 0 i5).bind fun l_8 => (appO ([]) l_8).bind fun l_15 => (sliceL l_1 (w64 (i5 + 1)) l_1.length).bind fun l_20 => (appO l_15 l_20).bind fun l_64 => some l_64
theorem c_wormtubref11_without (F0 : Fz) (l_1 : (List ApiParcel)) (p2 : Option Addr) (k3 : Nat) (h4 : RepSl 5 (Ex cApiParcel) F0 p2 k3 l_1) (i5 : Int) : CT0 Try.prog 48 [(.slice p2 l_1.length k3), (.int .i64 i5)].toArray F0 (m_wormtubref11_without l_1 i5) (fun r F v => ∃ (p0 : Option Addr) (k0 : Nat), v = (.slice p0 r.length k0) ∧ RepSl 5 (Ex cApiParcel) F p0 k0 r) := by
 refine CT0.enter Try.func48 rfl Try.ntmps48 rfl fun r R => ?_
 unfold m_wormtubref11_without
 refine .seq ?_
 refine .region ?_
 refine .assign rfl rfl ?_
 refine .nil ?_
 refine .code ?_
 refine .seq ?_
 refine .keep (.cons (k := 0) rfl (.cons (k := 1) rfl (.nil _))) ?_
 refine .bind (fun l_8 hx14 => ?_)
 refine .bind (fun l_15 hx19 => ?_)
 refine .bind (fun l_20 hx26 => ?_)
 refine .drawGD 9 1 (fun env6 => [((.slice (some ⟨env6.n 0, 0, none⟩) 0 0), fun G => env6.f 0 ≤ G), ((.slice p2 l_1.length k3), fun _ => True), ((.int .i64 i5), fun _ => True), ((.slice (env6.a 30) l_8.length (env6.n 30)), fun G => RepSl 5 (Ex cApiParcel) G (env6.a 30) (env6.n 30) l_8), ((.slice (env6.a 40) l_15.length (env6.n 40)), fun G => env6.f 40 ≤ G), ((.slice p2 l_1.length k3), fun _ => True), ((.int .i64 i5), fun _ => True), ((.int .i64 (w64 (i5 + 1))), fun _ => True), ((.slice (env6.a 80) l_20.length (env6.n 80)), fun G => RepSl 5 (Ex cApiParcel) G (env6.a 80) (env6.n 80) l_20)]) (fun L env6 => [R, (bif L 4 then (ownSl 5 (Ex cApiParcel) (env6.f 40) 49 (env6.a 40) (env6.n 40) l_15) else (bif L 0 then (ownSl 5 (Ex cApiParcel) (env6.f 0) 49 (some ⟨env6.n 0, 0, none⟩) 0 ([])) else emp))]) mixedOK (by kernel_rfl) (deepN (k := 9) (n := 11) rfl (allLt11 (p := fun t => 9 ≤ t → ∀ j, j < t → ∃ s, depB _ s t j = true) (fun h => absurd h (by decide)) (fun h => absurd h (by decide)) (fun h => absurd h (by decide)) (fun h => absurd h (by decide)) (fun h => absurd h (by decide)) (fun h => absurd h (by decide)) (fun h => absurd h (by decide)) (fun h => absurd h (by decide)) (fun h => absurd h (by decide)) (fun _ => allLt9 (p := fun j => ∃ s, depB _ s 9 j = true) ⟨2, rfl⟩ ⟨3, rfl⟩ ⟨3, rfl⟩ ⟨2, rfl⟩ ⟨1, rfl⟩ ⟨2, rfl⟩ ⟨3, rfl⟩ ⟨2, rfl⟩ ⟨1, rfl⟩) (fun _ => allLt10 (p := fun j => ∃ s, depB _ s 10 j = true) ⟨1, rfl⟩ ⟨1, rfl⟩ ⟨1, rfl⟩ ⟨1, rfl⟩ ⟨1, rfl⟩ ⟨1, rfl⟩ ⟨1, rfl⟩ ⟨1, rfl⟩ ⟨1, rfl⟩ ⟨1, rfl⟩))) rfl (fun _ => rfl) (by kernel_rfl) (fun _ => rfl) ?_ (fun env6 F_27 l_28 hphi => ?_)
 ·skip
  refine .cons (fun L env6 F_31 l_32 hL hdn hup hphi => ⟨[], fun S hS hV => (Sub.nil _), ?_⟩) ?_
  ·skip
   refine .sliceOwn0 (Ex cApiParcel) rfl Try.underlying29 Try.sizeOf49 (fun b33 => ?_)
   exact .finG ({ env6 with n := updN env6.n 0 b33, f := updN env6.f 0 F_31 }) [false, true, true, true, false, true, true, true, true] rfl (by kernel_rfl) rfl rfl (Fz.le_refl _) (fun _ le => le) (fun _ h => SH.placeC 1 (congrArg some ((condF (hup 1 4 rfl)).trans (condF hL))) ((condF (b := updB L 0 4) (hup 1 4 rfl)).trans (condT rfl)) h)
  refine .cons (fun L env6 F_34 l_35 hL hdn hup hphi => ⟨[(0, (.slice p2 l_1.length k3))], fun S hS hV => (.cons (hS _ _ rfl) (Sub.nil _)), ?_⟩) ?_
  ·skip
   refine .move rfl rfl ?_
   exact .finV rfl rfl (Fz.le_refl _)
  refine .cons (fun L env6 F_36 l_37 hL hdn hup hphi => ⟨[(1, (.int .i64 i5))], fun S hS hV => (.cons (hS _ _ rfl) (Sub.nil _)), ?_⟩) ?_
  ·skip
   refine .move rfl rfl ?_
   exact .finV rfl rfl (Fz.le_refl _)
  refine .cons (fun L env6 F_38 l_39 hL hdn hup hphi => ⟨[(6, (.slice p2 l_1.length k3)), (7, (.int .i64 i5))], fun S hS hV => (.cons (hV 1 6 _ (hdn 1 1 rfl) rfl rfl) (.cons (hV 2 7 _ (hdn 1 2 rfl) rfl rfl) (Sub.nil _))), ?_⟩) ?_
  ·skip
   refine .sliceHiK hx14 rfl Try.underlying29 Try.sizeOf49 (h4.mono l_39) rfl rfl (fun p41 k42 h44 => ?_)
   exact .finQ ({ env6 with a := (updN env6.a 30 p41), n := (updN env6.n 30 k42), c := env6.c, o := env6.o }) [true, true, true, false, false, true, true, true, true] rfl (by kernel_rfl) rfl rfl (Fz.le_refl _) (fun _ le => h44.mono le) (cons_eq rfl (cons_eq ((condF (b := updB L 3 4) (hup 1 4 rfl)).trans (condF (hup 1 4 rfl)).symm) rfl))
  refine .cons (fun L env6 F_45 l_46 hL hdn hup hphi => ⟨[(5, (.slice (some ⟨env6.n 0, 0, none⟩) 0 0)), (8, (.slice (env6.a 30) l_8.length (env6.n 30)))], fun S hS hV => (.cons (hV 0 5 _ (hdn 1 0 rfl) rfl rfl) (.cons (hV 3 8 _ (hdn 1 3 rfl) rfl rfl) (Sub.nil _))), ?_⟩) ?_
  ·skip
   have l_29 := hphi 0 _ (hdn 1 0 rfl) rfl _ (Fz.le_refl _)
   have h13 := hphi 3 _ (hdn 1 3 rfl) rfl _ (Fz.le_refl _)
   refine .appendK hx19 1 ok_t49 l_29 rfl Try.underlying29 Try.underlying29 rfl rfl (congrArg some ((condF hL).trans (condT (hdn 1 0 rfl)))) h13 rfl rfl (fun p48 k49 => ?_)
   exact .finQ ({ env6 with a := updN env6.a 40 p48, n := updN env6.n 40 k49, f := updN env6.f 40 F_45 }) [true, true, true, true, false, true, true, true, true] rfl (by kernel_rfl) rfl rfl (Fz.le_refl _) (fun _ le => le) (cons_eq rfl (cons_eq (condT rfl) rfl))
  refine .cons (fun L env6 F_51 l_52 hL hdn hup hphi => ⟨[(0, (.slice p2 l_1.length k3))], fun S hS hV => (.cons (hS _ _ rfl) (Sub.nil _)), ?_⟩) ?_
  ·skip
   refine .move rfl rfl ?_
   exact .finV rfl rfl (Fz.le_refl _)
  refine .cons (fun L env6 F_53 l_54 hL hdn hup hphi => ⟨[(1, (.int .i64 i5))], fun S hS hV => (.cons (hS _ _ rfl) (Sub.nil _)), ?_⟩) ?_
  ·skip
   refine .move rfl rfl ?_
   exact .finV rfl rfl (Fz.le_refl _)
  refine .cons (fun L env6 F_55 l_56 hL hdn hup hphi => ⟨[(11, (.int .i64 i5))], fun S hS hV => (.cons (hV 6 11 _ (hdn 1 6 rfl) rfl rfl) (Sub.nil _)), ?_⟩) ?_
  ·skip
   refine .add rfl rfl rfl ?_
   exact .finV rfl rfl (Fz.le_refl _)
  refine .cons (fun L env6 F_57 l_58 hL hdn hup hphi => ⟨[(10, (.slice p2 l_1.length k3)), (12, (.int .i64 (w64 (i5 + 1))))], fun S hS hV => (.cons (hV 5 10 _ (hdn 1 5 rfl) rfl rfl) (.cons (hV 7 12 _ (hdn 1 7 rfl) rfl rfl) (Sub.nil _))), ?_⟩) ?_
  ·skip
   refine .sliceLoK hx26 rfl Try.underlying29 Try.sizeOf49 (h4.mono l_58) rfl rfl (fun p60 k61 h63 => ?_)
   exact .finQ ({ env6 with a := (updN env6.a 80 p60), n := (updN env6.n 80 k61), c := env6.c, o := env6.o }) [true, true, true, true, true, true, true, true, false] rfl (by kernel_rfl) rfl rfl (Fz.le_refl _) (fun _ le => h63.mono le) (cons_eq rfl (cons_eq rfl rfl))
  exact .nil
 have l_29 := hphi 0 _ rfl
 have h13 := hphi 3 _ rfl
 have l_30 := hphi 4 _ rfl
 have h25 := hphi 8 _ rfl
 refine .norm (S' := [(0, (.slice p2 l_1.length k3)), (1, (.int .i64 i5)), (5, (.slice (some ⟨env6.n 0, 0, none⟩) 0 0)), (6, (.slice p2 l_1.length k3)), (7, (.int .i64 i5)), (8, (.slice (env6.a 30) l_8.length (env6.n 30))), (9, (.slice (env6.a 40) l_15.length (env6.n 40))), (10, (.slice p2 l_1.length k3)), (11, (.int .i64 i5)), (12, (.int .i64 (w64 (i5 + 1)))), (13, (.slice (env6.a 80) l_20.length (env6.n 80)))]) (.cons (k := 0) rfl (.cons (k := 1) rfl (.cons (k := 5) rfl (.cons (k := 6) rfl (.cons (k := 7) rfl (.cons (k := 8) rfl (.cons (k := 9) rfl (.cons (k := 10) rfl (.cons (k := 11) rfl (.cons (k := 12) rfl (.cons (k := 13) rfl (.nil _)))))))))))) (rfl : _ = [R, ownSl 5 (Ex cApiParcel) (env6.f 40) 49 (env6.a 40) (env6.n 40) l_15]) ?_
 refine .append 1 ok_t49 l_30 rfl Try.underlying29 Try.underlying29 rfl rfl rfl h25 rfl rfl (fun l_64 p65 k66 e67 => ?_)
 refine .assign rfl rfl ?_
 refine .nil ?_
 refine .code ?_
 refine .freezeSl 1 rfl (Fz.le_refl _) (fun F_68 l_69 h70 => ?_)
 exact .ret0 Try.results48 (.tmp rfl (.nil)) (i := 0) rfl (Fz.le_trans l_28 l_69) ⟨p65, k66, rfl, h70⟩
noncomputable def b_wormtubref11_night_1  (s19 : Int × Wormtubref11State) : Option (Ctl (Int × Wormtubref11State) ((Wormtubref11State))) :=
 if (decide (s19.1 < 16)) then ((idxO 16 s19.1).bind fun j29 => (idxO 16 s19.1).bind fun j31 => (idxO 16 s19.1).bind fun j33 => bindv ({ s19.2 with Sums := updN s19.2.Sums j33 (w64 ((s19.2.Sums j29) + (s19.2.B.Bonds j31))) }) fun x35 => bindv (w64 (s19.1 + 1)) fun i39 => some (.next (i39, x35))) else (some (.done s19.2))
noncomputable def b_wormtubref11_night_2 (r_1 : ApiDutyRules) (next_12 : Int) (s50 : Int × Wormtubref11State) : Option (Ctl (Int × Wormtubref11State) ((Wormtubref11State))) :=
 if (decide (s50.1 < (s50.2.B.Moving.length : Int))) then (((idxL s50.2.B.Moving s50.1).bind fun x60 => if (next_12 != (w64 ((w64 (x60.Sent + r_1.Transit)) + 1))) then (bindv (w64 (s50.1 + 1)) fun i72 => some (i72, s50.2)) else ((m_wormtubref11_without s50.2.B.Moving s50.1).bind fun r_76 => bindv ({ s50.2 with B := { s50.2.B with Moving := r_76 } }) fun x80 => bindv ({ x80 with B := { x80.B with Used := (w64 (x80.B.Used + x60.Amount)) } }) fun x84 => (m_wormtubref11_duty r_1 x60.Amount next_12).bind fun r_91 => bindv ({ x84 with B := { x84.B with Due := (w64 (x84.B.Due + r_91)) } }) fun x113 => some (s50.1, x113)) : Option (Int × Wormtubref11State)).bind fun j117 => some (.next (j117.1, j117.2))) else (some (.done s50.2))
noncomputable def m_wormtubref11_night (r_1 : ApiDutyRules) (s5 : Wormtubref11State) (next_12 : Int) : Option Wormtubref11State :=
 (loopM b_wormtubref11_night_1 (0, s5)).bind fun b41 => (loopM (b_wormtubref11_night_2 r_1 next_12) (0, b41)).bind fun b126 => some b126
theorem c_wormtubref11_night (F0 : Fz) (r_1 : ApiDutyRules) (p2 : Option Addr) (k3 : Nat) (h4 : RepSl 2 (Ex cApiDutyRate) F0 p2 k3 r_1.Rates) (s5 : Wormtubref11State) (p6 : Option Addr) (k7 : Nat) (p9 : Option Addr) (k10 : Nat) (h8 : RepSl 5 (Ex cApiParcel) F0 p6 k7 s5.B.Moving) (h11 : RepSl 1 (Ex (cInt .i64)) F0 p9 k10 s5.Ids) (next_12 : Int) : CT0 Try.prog 30 [(eApiDutyRules r_1 p2 k3), (eWormtubref11State s5 p6 k7 p9 k10), (.int .i64 next_12)].toArray F0 (m_wormtubref11_night r_1 s5 next_12) (fun r F v => ∃ (p0 : Option Addr) (k0 : Nat) (p1 : Option Addr) (k1 : Nat), v = (eWormtubref11State r p0 k0 p1 k1) ∧ RepSl 5 (Ex cApiParcel) F p0 k0 r.B.Moving ∧ RepSl 1 (Ex (cInt .i64)) F p1 k1 r.Ids) := by
 refine CT0.enter Try.func30 rfl Try.ntmps30 rfl fun r R => ?_
 unfold m_wormtubref11_night
 refine .seq ?_
 refine .region ?_
 refine .boxF (cs := (cApiDutyRules r_1 p2 k3)) rfl rfl rfl (fun b13 F_14 l_15 hb16 => ?_)
 refine .box (cs := (cWormtubref11State s5 p6 k7 p9 k10)) rfl rfl rfl (fun b17 => ?_)
 refine .alloc (cs := (cWormtubref11State (Wormtubref11State.mk (ApiDutyBook.mk (fun _ => 0) ([]) 0 0 0 0 0 0 0 0) ([]) (fun _ => 0)) none 0 none 0)) rfl Try.zeroValue73 rfl (fun b18 => ?_)
 refine .nil ?_
 refine .code ?_
 refine .seq ?_
 refine .seq ?_
 refine .region ?_
 refine .assign rfl rfl ?_
 refine .nil ?_
 refine .code ?_
 refine .block ?_
 refine .keep (.cons (k := 2) rfl (.cons (k := 3) rfl (.cons (k := 4) rfl (.cons (k := 6) rfl (.cons (k := 7) rfl (.nil _)))))) ?_
 refine .loop (fun (s19 : Int × Wormtubref11State) a w => ∃ (F_20 : Fz) (p22 : Option Addr) (k23 : Nat) (p25 : Option Addr) (k26 : Nat), F_14 ≤ F_20 ∧ RepSl 5 (Ex cApiParcel) F_20 p22 k23 s19.2.B.Moving ∧ RepSl 1 (Ex (cInt .i64)) F_20 p25 k26 s19.2.Ids ∧ Hd 76 [] [(2, (.int .i64 next_12)), (3, (.pointer (some ⟨b13, 0, none⟩))), (4, (.pointer (some ⟨b17, 0, none⟩))), (6, (.pointer (some ⟨b18, 0, none⟩))), (7, (.int .i64 s19.1))] F_20 [pt b18 (.cells (cWormtubref11State (Wormtubref11State.mk (ApiDutyBook.mk (fun _ => 0) ([]) 0 0 0 0 0 0 0 0) ([]) (fun _ => 0)) none 0 none 0).toArray 73), pt b17 (.cells (cWormtubref11State s19.2 p22 k23 p25 k26).toArray 73), R] a w) (fun b41 e a w => e = .exit 0 ∧ ∃ (F_42 : Fz) (p44 : Option Addr) (k45 : Nat) (p47 : Option Addr) (k48 : Nat), F_14 ≤ F_42 ∧ RepSl 5 (Ex cApiParcel) F_42 p44 k45 b41.B.Moving ∧ RepSl 1 (Ex (cInt .i64)) F_42 p47 k48 b41.Ids ∧ Hd 76 [] [(2, (.int .i64 next_12)), (3, (.pointer (some ⟨b13, 0, none⟩))), (4, (.pointer (some ⟨b17, 0, none⟩))), (6, (.pointer (some ⟨b18, 0, none⟩)))] F_42 [pt b18 (.cells (cWormtubref11State (Wormtubref11State.mk (ApiDutyBook.mk (fun _ => 0) ([]) 0 0 0 0 0 0 0 0) ([]) (fun _ => 0)) none 0 none 0).toArray 73), pt b17 (.cells (cWormtubref11State b41 p44 k45 p47 k48).toArray 73), R] a w) ?_ ?_ ?_
 ·exact fun a w h => ⟨F_14, p6, k7, p9, k10, (Fz.le_refl _), (h8.mono l_15), (h11.mono l_15), h.1.sub (.cons (k := 2) rfl (.cons (k := 3) rfl (.cons (k := 4) rfl (.cons (k := 6) rfl (.cons (k := 7) rfl (.nil _)))))), h.2⟩
 ·intro s19 ctl
  refine GC.ex (fun a w ⟨F_20, p22, k23, p25, k26, l_21, h24, h27, hA⟩ => ⟨_, hA, ?_⟩)
  unfold b_wormtubref11_night_1
  refine .seq ?_
  refine .seq ?_
  refine .region ?_
  refine .move rfl rfl ?_
  refine .lss rfl rfl rfl ?_
  refine .nil ?_
  refine .code ?_
  refine .cond rfl (fun hb28 => ?_) (fun hb28 => ?_)
  ·skip
   refine .skip ?_
   refine .code ?_
   refine .seq ?_
   refine .block ?_
   refine .keep (.cons (k := 2) rfl (.cons (k := 3) rfl (.cons (k := 4) rfl (.cons (k := 6) rfl (.cons (k := 7) rfl (.nil _)))))) ?_
   refine .drawZ 13 mixedOK (by kernel_rfl) ?_
   refine .move rfl rfl ?_
   refine .move rfl rfl ?_
   refine .fieldAddr rfl Try.underlying73 rfl Try.sizeOf28 rfl ?_
   refine .bind (fun j29 hj30 => ?_)
   refine .indexAddrA rfl Try.underlying28 Try.sizeOf3 rfl rfl hj30 ?_
   refine .loadO rfl Try.isAgg3 rfl (i := 1) rfl (allLt16 (p := fun j29 => ((cWormtubref11State s19.2 p22 k23 p25 k26))[0 + 26 + j29 * 1]? = some (.int .i64 (s19.2.Sums j29))) rfl rfl rfl rfl rfl rfl rfl rfl rfl rfl rfl rfl rfl rfl rfl rfl _ (idxO_some hj30).2.2.2) ?_
   refine .move rfl rfl ?_
   refine .fieldAddr rfl Try.underlying73 rfl Try.sizeOf31 rfl ?_
   refine .fieldAddr rfl Try.underlying31 rfl Try.sizeOf28 rfl ?_
   refine .bind (fun j31 hj32 => ?_)
   refine .indexAddrA rfl Try.underlying28 Try.sizeOf3 rfl rfl hj32 ?_
   refine .loadO rfl Try.isAgg3 rfl (i := 1) rfl (allLt16 (p := fun j31 => ((cWormtubref11State s19.2 p22 k23 p25 k26))[0 + 0 + 0 + j31 * 1]? = some (.int .i64 (s19.2.B.Bonds j31))) rfl rfl rfl rfl rfl rfl rfl rfl rfl rfl rfl rfl rfl rfl rfl rfl _ (idxO_some hj32).2.2.2) ?_
   refine .add rfl rfl rfl ?_
   refine .fieldAddr rfl Try.underlying73 rfl Try.sizeOf28 rfl ?_
   refine .bind (fun j33 hj34 => ?_)
   refine .indexAddrA rfl Try.underlying28 Try.sizeOf3 rfl rfl hj34 ?_
   refine .pend ?_
   refine .letv (fun x35 e36 => ?_)
   have h37 : RepSl 5 (Ex cApiParcel) F_20 p22 k23 x35.B.Moving := by rw [e36]; exact h24
   have h38 : RepSl 1 (Ex (cInt .i64)) F_20 p25 k26 x35.Ids := by rw [e36]; exact h27
   refine .store (cs' := (cWormtubref11State x35 p22 k23 p25 k26)) Try.sizeOf3 rfl rfl rfl rfl (i := 1) rfl (allLt16 (p := fun j33 => 0 + 26 + j33 * 1 + 1 ≤ 42) (by decide) (by decide) (by decide) (by decide) (by decide) (by decide) (by decide) (by decide) (by decide) (by decide) (by decide) (by decide) (by decide) (by decide) (by decide) (by decide) _ (idxO_some hj34).2.2.2) rfl (by rw [e36]; exact (allLt16 (p := fun j33 => setMany ((cWormtubref11State s19.2 p22 k23 p25 k26)) (0 + 26 + j33 * 1) [(.int .i64 (w64 ((s19.2.Sums j29) + (s19.2.B.Bonds j31))))] = (cWormtubref11State ({ s19.2 with Sums := updN s19.2.Sums j33 (w64 ((s19.2.Sums j29) + (s19.2.B.Bonds j31))) }) p22 k23 p25 k26)) rfl rfl rfl rfl rfl rfl rfl rfl rfl rfl rfl rfl rfl rfl rfl rfl _ (idxO_some hj34).2.2.2)) ?_
   refine .nil ?_
   refine .block ?_
   refine .code ?_
   refine .region ?_
   refine .move rfl rfl ?_
   refine .add rfl rfl rfl ?_
   refine .assignL rfl rfl (fun i39 e40 => ?_)
   refine .nil ?_
   exact .nil (LPost.norm fun a w h => ⟨F_20, p22, k23, p25, k26, l_21, h37, h38, h.1.sub (.cons (k := 2) rfl (.cons (k := 3) rfl (.cons (k := 4) rfl (.cons (k := 6) rfl (.cons (k := 7) rfl (.nil _)))))), h.2⟩)
  ·skip
   refine .exitOut rfl (LPost.exit fun a w h => ⟨rfl, F_20, p22, k23, p25, k26, l_21, h24, h27, h.1.sub (.cons (k := 2) rfl (.cons (k := 3) rfl (.cons (k := 4) rfl (.cons (k := 6) rfl (.nil _))))), h.2⟩)
 ·intro b41 hb0 hk e a w hD
  obtain ⟨rfl, F_42, p44, k45, p47, k48, l_43, h46, h49, hA⟩ := hD
  refine interp_exit rfl (GE.app ?_ hk a w hA)
  refine .code ?_
  refine .seq ?_
  refine .seq ?_
  refine .region ?_
  refine .assign rfl rfl ?_
  refine .nil ?_
  refine .code ?_
  refine .block ?_
  refine .keep (.cons (k := 2) rfl (.cons (k := 3) rfl (.cons (k := 4) rfl (.cons (k := 6) rfl (.cons (k := 8) rfl (.nil _)))))) ?_
  refine .loop (fun (s50 : Int × Wormtubref11State) a w => ∃ (F_51 : Fz) (p53 : Option Addr) (k54 : Nat) (p56 : Option Addr) (k57 : Nat), F_42 ≤ F_51 ∧ RepSl 5 (Ex cApiParcel) F_51 p53 k54 s50.2.B.Moving ∧ RepSl 1 (Ex (cInt .i64)) F_51 p56 k57 s50.2.Ids ∧ Hd 76 [] [(2, (.int .i64 next_12)), (3, (.pointer (some ⟨b13, 0, none⟩))), (4, (.pointer (some ⟨b17, 0, none⟩))), (6, (.pointer (some ⟨b18, 0, none⟩))), (8, (.int .i64 s50.1))] F_51 [pt b18 (.cells (cWormtubref11State (Wormtubref11State.mk (ApiDutyBook.mk (fun _ => 0) ([]) 0 0 0 0 0 0 0 0) ([]) (fun _ => 0)) none 0 none 0).toArray 73), pt b17 (.cells (cWormtubref11State s50.2 p53 k54 p56 k57).toArray 73), R] a w) (fun b126 e a w => e = .exit 2 ∧ ∃ (F_127 : Fz) (p129 : Option Addr) (k130 : Nat) (p132 : Option Addr) (k133 : Nat), F_42 ≤ F_127 ∧ RepSl 5 (Ex cApiParcel) F_127 p129 k130 b126.B.Moving ∧ RepSl 1 (Ex (cInt .i64)) F_127 p132 k133 b126.Ids ∧ Hd 76 [] [(4, (.pointer (some ⟨b17, 0, none⟩))), (6, (.pointer (some ⟨b18, 0, none⟩)))] F_127 [pt b18 (.cells (cWormtubref11State (Wormtubref11State.mk (ApiDutyBook.mk (fun _ => 0) ([]) 0 0 0 0 0 0 0 0) ([]) (fun _ => 0)) none 0 none 0).toArray 73), pt b17 (.cells (cWormtubref11State b126 p129 k130 p132 k133).toArray 73), R] a w) ?_ ?_ ?_
  ·exact fun a w h => ⟨F_42, p44, k45, p47, k48, (Fz.le_refl _), h46, h49, h.1.sub (.cons (k := 2) rfl (.cons (k := 3) rfl (.cons (k := 4) rfl (.cons (k := 6) rfl (.cons (k := 8) rfl (.nil _)))))), h.2⟩
  ·intro s50 ctl
   refine GC.ex (fun a w ⟨F_51, p53, k54, p56, k57, l_52, h55, h58, hA⟩ => ⟨_, hA, ?_⟩)
   unfold b_wormtubref11_night_2
   refine .seq ?_
   refine .seq ?_
   refine .region ?_
   refine .move rfl rfl ?_
   refine .fieldAddr rfl Try.underlying73 rfl Try.sizeOf31 rfl ?_
   refine .fieldAddr rfl Try.underlying31 rfl Try.sizeOf29 rfl ?_
   refine .loadO rfl Try.isAgg29 rfl (i := 1) rfl rfl ?_
   refine .lenS rfl rfl Try.underlying29 rfl ?_
   refine .lss rfl rfl rfl ?_
   refine .nil ?_
   refine .code ?_
   refine .cond rfl (fun hb59 => ?_) (fun hb59 => ?_)
   ·skip
    refine .skip ?_
    refine .code ?_
    refine .keep (.cons (k := 2) rfl (.cons (k := 3) rfl (.cons (k := 4) rfl (.cons (k := 6) rfl (.cons (k := 8) rfl (.nil _)))))) ?_
    refine GC.join0 (σ := Int × Wormtubref11State) (fun j117 a w => ∃ (F_118 : Fz) (p120 : Option Addr) (k121 : Nat) (p123 : Option Addr) (k124 : Nat), F_51 ≤ F_118 ∧ RepSl 5 (Ex cApiParcel) F_118 p120 k121 j117.2.B.Moving ∧ RepSl 1 (Ex (cInt .i64)) F_118 p123 k124 j117.2.Ids ∧ Hd 76 [] [(2, (.int .i64 next_12)), (3, (.pointer (some ⟨b13, 0, none⟩))), (4, (.pointer (some ⟨b17, 0, none⟩))), (6, (.pointer (some ⟨b18, 0, none⟩))), (8, (.int .i64 j117.1))] F_118 [pt b18 (.cells (cWormtubref11State (Wormtubref11State.mk (ApiDutyBook.mk (fun _ => 0) ([]) 0 0 0 0 0 0 0 0) ([]) (fun _ => 0)) none 0 none 0).toArray 73), pt b17 (.cells (cWormtubref11State j117.2 p120 k121 p123 k124).toArray 73), R] a w) (fun sj => ?_) (fun j117 hs0 => GE.ex (fun a w ⟨F_118, p120, k121, p123, k124, l_119, h122, h125, hA⟩ => ⟨_, hA, ?_⟩))
    ·skip
     refine .block ?_
     refine .seq ?_
     refine .region ?_
     refine .fieldAddr rfl Try.underlying73 rfl Try.sizeOf31 rfl ?_
     refine .fieldAddr rfl Try.underlying31 rfl Try.sizeOf29 rfl ?_
     refine .loadO rfl Try.isAgg29 rfl (i := 1) rfl rfl ?_
     refine .move rfl rfl ?_
     refine .idx rfl Try.underlying29 Try.sizeOf49 h55 rfl rfl (fun x60 b61 o62 T63 fr64 cs65 e66 hm67 hv68 => ?_)
     refine .loadFA rfl Try.isAgg49 Try.sizeOf49 rfl hm67 hv68 rfl ?_
     refine .alloc (cs := (cApiParcel (ApiParcel.mk 0 0 0 0 0))) rfl Try.zeroValue49 rfl (fun b70 => ?_)
     refine .store (cs' := (cApiParcel x60)) Try.sizeOf49 rfl rfl rfl rfl (i := 0) rfl (Nat.le_of_ble_eq_true rfl) rfl (setMany_all (by rfl)) ?_
     refine .nil ?_
     refine .code ?_
     refine .seq ?_
     refine .seq ?_
     refine .region ?_
     refine .move rfl rfl ?_
     refine .fieldAddr rfl Try.underlying49 rfl Try.sizeOf3 rfl ?_
     refine .loadO rfl Try.isAgg3 rfl (i := 0) rfl rfl ?_
     refine .fieldAddr rfl Try.underlying24 rfl Try.sizeOf3 rfl ?_
     refine .loadF rfl Try.isAgg3 rfl ((Fz.le_trans l_43 l_52).mem _ _ hb16) rfl ?_
     refine .add rfl rfl rfl ?_
     refine .add rfl rfl rfl ?_
     refine .neq rfl rfl rfl ?_
     refine .nil ?_
     refine .code ?_
     refine .cond rfl (fun hb71 => ?_) (fun hb71 => ?_)
     ·skip
      refine .seq ?_
      refine .region ?_
      refine .move rfl rfl ?_
      refine .add rfl rfl rfl ?_
      refine .assignL rfl rfl (fun i72 e73 => ?_)
      refine .nil ?_
      refine .code ?_
      refine .exit rfl ?_
      refine .drop 0 ?_
      exact .nil fun e a w h => by cases e; exact ⟨rfl, ⟨F_51, p53, k54, p56, k57, (Fz.le_refl _), h55, h58, h.1.sub (.cons (k := 2) rfl (.cons (k := 3) rfl (.cons (k := 4) rfl (.cons (k := 6) rfl (.cons (k := 8) rfl (.nil _)))))), h.2⟩⟩
     ·skip
      refine .skip ?_
      refine .code ?_
      refine .seq ?_
      refine .region ?_
      refine .fieldAddr rfl Try.underlying73 rfl Try.sizeOf31 rfl ?_
      refine .fieldAddr rfl Try.underlying31 rfl Try.sizeOf29 rfl ?_
      refine .loadO rfl Try.isAgg29 rfl (i := 2) rfl rfl ?_
      refine .move rfl rfl ?_
      refine .call0 rfl Try.call48 rfl rfl rfl (c_wormtubref11_without _ s50.2.B.Moving p53 k54 h55 s50.1) ?_
      rintro r_76 F_74 _ - l_75 ⟨p77, k78, rfl, h79⟩
      refine .fieldAddr rfl Try.underlying73 rfl Try.sizeOf31 rfl ?_
      refine .fieldAddr rfl Try.underlying31 rfl Try.sizeOf29 rfl ?_
      refine .letv (fun x80 e81 => ?_)
      have h82 : RepSl 5 (Ex cApiParcel) F_74 p77 k78 x80.B.Moving := by rw [e81]; exact h79
      have h83 : RepSl 1 (Ex (cInt .i64)) F_74 p56 k57 x80.Ids := by rw [e81]; exact (h58.mono l_75)
      refine .store (cs' := (cWormtubref11State x80 p77 k78 p56 k57)) Try.sizeOf29 rfl rfl rfl rfl (i := 2) rfl (Nat.le_of_ble_eq_true rfl) rfl (by rw [e81]; kernel_rfl) ?_
      refine .nil ?_
      refine .keep (.cons (k := 2) rfl (.cons (k := 3) rfl (.cons (k := 4) rfl (.cons (k := 6) rfl (.cons (k := 8) rfl (.cons (k := 9) rfl (.nil _))))))) ?_
      refine .code ?_
      refine .seq ?_
      refine .region ?_
      refine .fieldAddr rfl Try.underlying73 rfl Try.sizeOf31 rfl ?_
      refine .fieldAddr rfl Try.underlying31 rfl Try.sizeOf3 rfl ?_
      refine .loadO rfl Try.isAgg3 rfl (i := 2) rfl rfl ?_
      refine .fieldAddr rfl Try.underlying49 rfl Try.sizeOf3 rfl ?_
      refine .loadO rfl Try.isAgg3 rfl (i := 0) rfl rfl ?_
      refine .add rfl rfl rfl ?_
      refine .fieldAddr rfl Try.underlying73 rfl Try.sizeOf31 rfl ?_
      refine .fieldAddr rfl Try.underlying31 rfl Try.sizeOf3 rfl ?_
      refine .letv (fun x84 e85 => ?_)
      have h86 : RepSl 5 (Ex cApiParcel) F_74 p77 k78 x84.B.Moving := by rw [e85]; exact h82
      have h87 : RepSl 1 (Ex (cInt .i64)) F_74 p56 k57 x84.Ids := by rw [e85]; exact h83
      refine .store (cs' := (cWormtubref11State x84 p77 k78 p56 k57)) Try.sizeOf3 rfl rfl rfl rfl (i := 2) rfl (Nat.le_of_ble_eq_true rfl) rfl (by rw [e85]; kernel_rfl) ?_
      refine .nil ?_
      refine .code ?_
      refine .keep (.cons (k := 2) rfl (.cons (k := 3) rfl (.cons (k := 4) rfl (.cons (k := 6) rfl (.cons (k := 8) rfl (.cons (k := 9) rfl (.nil _))))))) ?_
      refine .bind (fun r_91 hx92 => ?_)
      refine .drawGD 8 0 (fun env88 => [((.pointer (some ⟨b17, 0 + 0, none⟩)), fun _ => True), ((.pointer (some ⟨b17, 0 + 0 + 23, none⟩)), fun _ => True), ((.int .i64 x84.B.Due), fun _ => True), ((eApiDutyRules r_1 p2 k3), fun _ => True), ((.pointer (some ⟨b70, 0 + 4, none⟩)), fun _ => True), ((.int .i64 x60.Amount), fun _ => True), ((.int .i64 next_12), fun _ => True), ((.int .i64 r_91), fun _ => True)]) (fun L env88 => [pt b70 (.cells (cApiParcel x60).toArray 49), pt b18 (.cells (cWormtubref11State (Wormtubref11State.mk (ApiDutyBook.mk (fun _ => 0) ([]) 0 0 0 0 0 0 0 0) ([]) (fun _ => 0)) none 0 none 0).toArray 73), pt b17 (.cells (cWormtubref11State x84 p77 k78 p56 k57).toArray 73), R]) mixedOK (by kernel_rfl) (deepN (k := 8) (n := 12) rfl (allLt12 (p := fun t => 8 ≤ t → ∀ j, j < t → ∃ s, depB _ s t j = true) (fun h => absurd h (by decide)) (fun h => absurd h (by decide)) (fun h => absurd h (by decide)) (fun h => absurd h (by decide)) (fun h => absurd h (by decide)) (fun h => absurd h (by decide)) (fun h => absurd h (by decide)) (fun h => absurd h (by decide)) (fun _ => allLt8 (p := fun j => ∃ s, depB _ s 8 j = true) ⟨3, rfl⟩ ⟨2, rfl⟩ ⟨1, rfl⟩ ⟨2, rfl⟩ ⟨3, rfl⟩ ⟨2, rfl⟩ ⟨2, rfl⟩ ⟨1, rfl⟩) (fun _ => allLt9 (p := fun j => ∃ s, depB _ s 9 j = true) ⟨1, rfl⟩ ⟨1, rfl⟩ ⟨1, rfl⟩ ⟨1, rfl⟩ ⟨1, rfl⟩ ⟨1, rfl⟩ ⟨1, rfl⟩ ⟨1, rfl⟩ ⟨1, rfl⟩) (fun _ => allLt10 (p := fun j => ∃ s, depB _ s 10 j = true) ⟨1, rfl⟩ ⟨1, rfl⟩ ⟨1, rfl⟩ ⟨1, rfl⟩ ⟨1, rfl⟩ ⟨1, rfl⟩ ⟨1, rfl⟩ ⟨1, rfl⟩ ⟨1, rfl⟩ ⟨1, rfl⟩) (fun _ => allLt11 (p := fun j => ∃ s, depB _ s 11 j = true) ⟨1, rfl⟩ ⟨1, rfl⟩ ⟨1, rfl⟩ ⟨1, rfl⟩ ⟨1, rfl⟩ ⟨1, rfl⟩ ⟨1, rfl⟩ ⟨1, rfl⟩ ⟨1, rfl⟩ ⟨2, rfl⟩ ⟨1, rfl⟩))) rfl (fun _ => rfl) (by kernel_rfl) (fun _ => rfl) ?_ (fun env88 F_93 l_94 hphi => ?_)
      ·skip
       refine .cons (fun L env88 F_95 l_96 hL hdn hup hphi => ⟨[(4, (.pointer (some ⟨b17, 0, none⟩)))], fun S hS hV => (.cons (hS _ _ rfl) (Sub.nil _)), ?_⟩) ?_
       ·skip
        refine .fieldAddr rfl Try.underlying73 rfl Try.sizeOf31 rfl ?_
        exact .finV rfl rfl (Fz.le_refl _)
       refine .cons (fun L env88 F_97 l_98 hL hdn hup hphi => ⟨[(64, (.pointer (some ⟨b17, 0 + 0, none⟩)))], fun S hS hV => (.cons (hV 0 64 _ (hdn 1 0 rfl) rfl rfl) (Sub.nil _)), ?_⟩) ?_
       ·skip
        refine .fieldAddr rfl Try.underlying31 rfl Try.sizeOf3 rfl ?_
        exact .finV rfl rfl (Fz.le_refl _)
       refine .cons (fun L env88 F_99 l_100 hL hdn hup hphi => ⟨[(65, (.pointer (some ⟨b17, 0 + 0 + 23, none⟩)))], fun S hS hV => (.cons (hV 1 65 _ (hdn 1 1 rfl) rfl rfl) (Sub.nil _)), ?_⟩) ?_
       ·skip
        refine .loadO rfl Try.isAgg3 rfl (i := 2) rfl rfl ?_
        exact .finV rfl rfl (Fz.le_refl _)
       refine .cons (fun L env88 F_101 l_102 hL hdn hup hphi => ⟨[(3, (.pointer (some ⟨b13, 0, none⟩)))], fun S hS hV => (.cons (hS _ _ rfl) (Sub.nil _)), ?_⟩) ?_
       ·skip
        refine .loadFA rfl Try.isAgg24 Try.sizeOf24 rfl ((Fz.le_trans l_43 (Fz.le_trans l_52 (Fz.le_trans l_75 l_102))).mem _ _ hb16) (vs := (cApiDutyRules r_1 p2 k3)) (by kernel_rfl) rfl ?_
        exact .finV rfl rfl (Fz.le_refl _)
       refine .cons (fun L env88 F_103 l_104 hL hdn hup hphi => ⟨[(9, (.pointer (some ⟨b70, 0, none⟩)))], fun S hS hV => (.cons (hS _ _ rfl) (Sub.nil _)), ?_⟩) ?_
       ·skip
        refine .fieldAddr rfl Try.underlying49 rfl Try.sizeOf3 rfl ?_
        exact .finV rfl rfl (Fz.le_refl _)
       refine .cons (fun L env88 F_105 l_106 hL hdn hup hphi => ⟨[(68, (.pointer (some ⟨b70, 0 + 4, none⟩)))], fun S hS hV => (.cons (hV 4 68 _ (hdn 1 4 rfl) rfl rfl) (Sub.nil _)), ?_⟩) ?_
       ·skip
        refine .loadO rfl Try.isAgg3 rfl (i := 0) rfl rfl ?_
        exact .finV rfl rfl (Fz.le_refl _)
       refine .cons (fun L env88 F_107 l_108 hL hdn hup hphi => ⟨[(2, (.int .i64 next_12))], fun S hS hV => (.cons (hS _ _ rfl) (Sub.nil _)), ?_⟩) ?_
       ·skip
        refine .move rfl rfl ?_
        exact .finV rfl rfl (Fz.le_refl _)
       refine .cons (fun L env88 F_109 l_110 hL hdn hup hphi => ⟨[(67, (eApiDutyRules r_1 p2 k3)), (69, (.int .i64 x60.Amount)), (70, (.int .i64 next_12))], fun S hS hV => (.cons (hV 3 67 _ (hdn 1 3 rfl) rfl rfl) (.cons (hV 5 69 _ (hdn 1 5 rfl) rfl rfl) (.cons (hV 6 70 _ (hdn 1 6 rfl) rfl rfl) (Sub.nil _)))), ?_⟩) ?_
       ·skip
        refine .callK hx92 rfl Try.call36 rfl rfl rfl (c_wormtubref11_duty _ r_1 p2 k3 (h4.mono (Fz.le_trans l_15 (Fz.le_trans l_43 (Fz.le_trans l_52 (Fz.le_trans l_75 l_110))))) x60.Amount next_12) ?_
        rintro F_111 _ l_112 rfl
        exact .finV rfl rfl l_112
       exact .nil
      refine .norm (S' := [(2, (.int .i64 next_12)), (3, (.pointer (some ⟨b13, 0, none⟩))), (4, (.pointer (some ⟨b17, 0, none⟩))), (6, (.pointer (some ⟨b18, 0, none⟩))), (8, (.int .i64 s50.1)), (9, (.pointer (some ⟨b70, 0, none⟩))), (64, (.pointer (some ⟨b17, 0 + 0, none⟩))), (65, (.pointer (some ⟨b17, 0 + 0 + 23, none⟩))), (66, (.int .i64 x84.B.Due)), (67, (eApiDutyRules r_1 p2 k3)), (68, (.pointer (some ⟨b70, 0 + 4, none⟩))), (69, (.int .i64 x60.Amount)), (70, (.int .i64 next_12)), (71, (.int .i64 r_91))]) (.cons (k := 2) rfl (.cons (k := 3) rfl (.cons (k := 4) rfl (.cons (k := 6) rfl (.cons (k := 8) rfl (.cons (k := 9) rfl (.cons (k := 64) rfl (.cons (k := 65) rfl (.cons (k := 66) rfl (.cons (k := 67) rfl (.cons (k := 68) rfl (.cons (k := 69) rfl (.cons (k := 70) rfl (.cons (k := 71) rfl (.nil _))))))))))))))) (rfl : _ = [pt b70 (.cells (cApiParcel x60).toArray 49), pt b18 (.cells (cWormtubref11State (Wormtubref11State.mk (ApiDutyBook.mk (fun _ => 0) ([]) 0 0 0 0 0 0 0 0) ([]) (fun _ => 0)) none 0 none 0).toArray 73), pt b17 (.cells (cWormtubref11State x84 p77 k78 p56 k57).toArray 73), R]) ?_
      refine .add rfl rfl rfl ?_
      refine .fieldAddr rfl Try.underlying73 rfl Try.sizeOf31 rfl ?_
      refine .fieldAddr rfl Try.underlying31 rfl Try.sizeOf3 rfl ?_
      refine .letv (fun x113 e114 => ?_)
      have h115 : RepSl 5 (Ex cApiParcel) F_93 p77 k78 x113.B.Moving := by rw [e114]; exact (h86.mono l_94)
      have h116 : RepSl 1 (Ex (cInt .i64)) F_93 p56 k57 x113.Ids := by rw [e114]; exact (h87.mono l_94)
      refine .store (cs' := (cWormtubref11State x113 p77 k78 p56 k57)) Try.sizeOf3 rfl rfl rfl rfl (i := 2) rfl (Nat.le_of_ble_eq_true rfl) rfl (by rw [e114]; kernel_rfl) ?_
      refine .nil ?_
      refine .block ?_
      refine .drop 0 ?_
      exact .nil fun e a w h => by cases e; exact ⟨rfl, ⟨F_93, p77, k78, p56, k57, (Fz.le_trans l_75 l_94), h115, h116, h.1.sub (.cons (k := 2) rfl (.cons (k := 3) rfl (.cons (k := 4) rfl (.cons (k := 6) rfl (.cons (k := 8) rfl (.nil _)))))), h.2⟩⟩
    exact .nil (LPost.norm fun a w h => ⟨F_118, p120, k121, p123, k124, (Fz.le_trans l_52 l_119), h122, h125, h.1.sub (.cons (k := 2) rfl (.cons (k := 3) rfl (.cons (k := 4) rfl (.cons (k := 6) rfl (.cons (k := 8) rfl (.nil _)))))), h.2⟩)
   ·skip
    refine .exitOut rfl (LPost.exit fun a w h => ⟨rfl, F_51, p53, k54, p56, k57, l_52, h55, h58, h.1.sub (.cons (k := 4) rfl (.cons (k := 6) rfl (.nil _))), h.2⟩)
  ·intro b126 hb0 hk e a w hD
   obtain ⟨rfl, F_127, p129, k130, p132, k133, l_128, h131, h134, hA⟩ := hD
   refine interp_exit rfl (GE.app ?_ hk a w hA)
   refine .code ?_
   refine .seq ?_
   refine .region ?_
   refine .loadOA rfl Try.isAgg73 Try.sizeOf73 rfl (i := 1) rfl (vs := (cWormtubref11State b126 p129 k130 p132 k133)) (by kernel_rfl) rfl ?_
   refine .store (cs' := (cWormtubref11State b126 p129 k130 p132 k133)) Try.sizeOf73 rfl rfl rfl rfl (i := 0) rfl (Nat.le_of_ble_eq_true rfl) rfl (setMany_all (by rfl)) ?_
   refine .nil ?_
   refine .code ?_
   exact .ret0 Try.results30 (.agg rfl Try.isAgg73 Try.sizeOf73 (i := 0) rfl (vs' := (cWormtubref11State b126 p129 k130 p132 k133)) (by kernel_rfl) rfl (.nil)) (i := 2) rfl (Fz.le_trans l_15 (Fz.le_trans l_43 l_128)) ⟨p129, k130, p132, k133, rfl, h131, h134⟩
noncomputable def b_wormtubref11_find_1 (s1 : Wormtubref11State) (id8 : Int) (s13 : Int) : Option (Ctl (Int) ((Unit) ⊕ (Int))) :=
 if (decide (s13 < (s1.B.Moving.length : Int))) then ((idxL s1.B.Moving s13).bind fun x17 => if (x17.Id == id8) then (some (.done (.inr s13))) else (bindv (w64 (s13 + 1)) fun i28 => some (.next i28))) else (some (.done (.inl ())))
noncomputable def m_wormtubref11_find (s1 : Wormtubref11State) (id8 : Int) : Option Int :=
 (loopM (b_wormtubref11_find_1 s1 id8) 0).bind fun b0 => match b0 with | .inl _b30 => (some (-1)) | .inr b30 => (some b30)
theorem c_wormtubref11_find (F0 : Fz) (s1 : Wormtubref11State) (p2 : Option Addr) (k3 : Nat) (p5 : Option Addr) (k6 : Nat) (h4 : RepSl 5 (Ex cApiParcel) F0 p2 k3 s1.B.Moving) (_h7 : RepSl 1 (Ex (cInt .i64)) F0 p5 k6 s1.Ids) (id8 : Int) : CT0 Try.prog 49 [(eWormtubref11State s1 p2 k3 p5 k6), (.int .i64 id8)].toArray F0 (m_wormtubref11_find s1 id8) (fun r _ v => v = (.int .i64 r)) := by
 refine CT0.enter Try.func49 rfl Try.ntmps49 rfl fun r R => ?_
 unfold m_wormtubref11_find
 refine .seq ?_
 refine .region ?_
 refine .boxF (cs := (cWormtubref11State s1 p2 k3 p5 k6)) rfl rfl rfl (fun b9 F_10 l_11 hb12 => ?_)
 refine .assign rfl rfl ?_
 refine .nil ?_
 refine .code ?_
 refine .seq ?_
 refine .seq ?_
 refine .region ?_
 refine .assign rfl rfl ?_
 refine .nil ?_
 refine .code ?_
 refine .block ?_
 refine .keep (.cons (k := 1) rfl (.cons (k := 2) rfl (.cons (k := 5) rfl (.nil _)))) ?_
 refine .loop (fun (s13 : Int) a w => ∃ (F_14 : Fz), F_10 ≤ F_14 ∧ Hd 24 [] [(1, (.int .i64 id8)), (2, (.pointer (some ⟨b9, 0, none⟩))), (5, (.int .i64 s13))] F_14 [R] a w) (fun b0 e a w => match b0 with | .inl b30 => e = .exit 0 ∧ ∃ (F_31 : Fz), F_10 ≤ F_31 ∧ Hd 24 [] [] F_31 [R] a w | .inr b30 => e = .ret ∧ ∃ (F_33 : Fz), F_10 ≤ F_33 ∧ Hd 24 [] [(4, (.int .i64 b30))] F_33 [R] a w) ?_ ?_ ?_
 ·exact fun a w h => ⟨F_10, (Fz.le_refl _), h.1.sub (.cons (k := 1) rfl (.cons (k := 2) rfl (.cons (k := 5) rfl (.nil _)))), h.2⟩
 ·intro s13 ctl
  refine GC.ex (fun a w ⟨F_14, l_15, hA⟩ => ⟨_, hA, ?_⟩)
  unfold b_wormtubref11_find_1
  refine .seq ?_
  refine .seq ?_
  refine .region ?_
  refine .move rfl rfl ?_
  refine .fieldAddr rfl Try.underlying73 rfl Try.sizeOf31 rfl ?_
  refine .fieldAddr rfl Try.underlying31 rfl Try.sizeOf29 rfl ?_
  refine .loadF rfl Try.isAgg29 rfl (l_15.mem _ _ hb12) rfl ?_
  refine .lenS rfl rfl Try.underlying29 rfl ?_
  refine .lss rfl rfl rfl ?_
  refine .nil ?_
  refine .code ?_
  refine .cond rfl (fun hb16 => ?_) (fun hb16 => ?_)
  ·skip
   refine .skip ?_
   refine .code ?_
   refine .seq ?_
   refine .block ?_
   refine .seq ?_
   refine .region ?_
   refine .fieldAddr rfl Try.underlying73 rfl Try.sizeOf31 rfl ?_
   refine .fieldAddr rfl Try.underlying31 rfl Try.sizeOf29 rfl ?_
   refine .loadF rfl Try.isAgg29 rfl (l_15.mem _ _ hb12) rfl ?_
   refine .move rfl rfl ?_
   refine .idx rfl Try.underlying29 Try.sizeOf49 (h4.mono (Fz.le_trans l_11 l_15)) rfl rfl (fun x17 b18 o19 T20 fr21 cs22 e23 hm24 hv25 => ?_)
   refine .fieldAddr rfl Try.underlying49 rfl Try.sizeOf3 rfl ?_
   refine .loadF rfl Try.isAgg3 rfl hm24 (cell_of_take (k := 0) hv25 rfl) ?_
   refine .move rfl rfl ?_
   refine .eql rfl rfl rfl ?_
   refine .nil ?_
   refine .code ?_
   refine .cond rfl (fun hb27 => ?_) (fun hb27 => ?_)
   ·skip
    refine .seq ?_
    refine .region ?_
    refine .move rfl rfl ?_
    refine .assign rfl rfl ?_
    refine .nil ?_
    refine .code ?_
    refine .retQ (LPost.ret fun a w h => ⟨rfl, F_14, l_15, h.1.sub (.cons (k := 4) rfl (.nil _)), h.2⟩)
   ·skip
    refine .skip ?_
    refine .block ?_
    refine .code ?_
    refine .region ?_
    refine .move rfl rfl ?_
    refine .add rfl rfl rfl ?_
    refine .assignL rfl rfl (fun i28 e29 => ?_)
    refine .nil ?_
    exact .nil (LPost.norm fun a w h => ⟨F_14, l_15, h.1.sub (.cons (k := 1) rfl (.cons (k := 2) rfl (.cons (k := 5) rfl (.nil _)))), h.2⟩)
  ·skip
   refine .exitOut rfl (LPost.exit fun a w h => ⟨rfl, F_14, l_15, h.1.sub (.nil _), h.2⟩)
 ·intro b30 hb0 hk e a w hD
  rcases b30 with b30 | b30
  ·skip
   obtain ⟨rfl, F_31, l_32, hA⟩ := hD
   refine interp_exit rfl (GE.app ?_ hk a w hA)
   refine .code ?_
   refine .seq ?_
   refine .region ?_
   refine .assign rfl rfl ?_
   refine .nil ?_
   refine .code ?_
   exact .ret0 Try.results49 (.tmp rfl (.nil)) (i := 0) rfl (Fz.le_trans l_11 l_32) rfl
  obtain ⟨rfl, F_33, l_34, hA⟩ := hD
  exact interp_ret ((ret_post0 Try.results49 (.tmp rfl (.nil)) (i := 0) rfl (Fz.le_trans l_11 l_34) rfl) hk a w hA)
noncomputable def m_wormtubref11_missing (r_1 : ApiDutyRules) (s5 : Wormtubref11State) (lost12 : Int) (allowed13 : Int) (day14 : Int) : Option Wormtubref11State :=
 bindv ({ s5 with B := { s5.B with Lost := (w64 (s5.B.Lost + (imin lost12 allowed13))) } }) fun x21 => bindv (w64 (lost12 - (imin lost12 allowed13))) fun beyond25 => bindv ({ x21 with B := { x21.B with Charged := (w64 (x21.B.Charged + beyond25)) } }) fun x27 => (m_wormtubref11_duty r_1 beyond25 day14).bind fun r_34 => bindv ({ x27 with B := { x27.B with Due := (w64 (x27.B.Due + r_34)) } }) fun x54 => some x54
theorem c_wormtubref11_missing (F0 : Fz) (r_1 : ApiDutyRules) (p2 : Option Addr) (k3 : Nat) (h4 : RepSl 2 (Ex cApiDutyRate) F0 p2 k3 r_1.Rates) (s5 : Wormtubref11State) (p6 : Option Addr) (k7 : Nat) (p9 : Option Addr) (k10 : Nat) (h8 : RepSl 5 (Ex cApiParcel) F0 p6 k7 s5.B.Moving) (h11 : RepSl 1 (Ex (cInt .i64)) F0 p9 k10 s5.Ids) (lost12 : Int) (allowed13 : Int) (day14 : Int) : CT0 Try.prog 50 [(eApiDutyRules r_1 p2 k3), (eWormtubref11State s5 p6 k7 p9 k10), (.int .i64 lost12), (.int .i64 allowed13), (.int .i64 day14)].toArray F0 (m_wormtubref11_missing r_1 s5 lost12 allowed13 day14) (fun r F v => ∃ (p0 : Option Addr) (k0 : Nat) (p1 : Option Addr) (k1 : Nat), v = (eWormtubref11State r p0 k0 p1 k1) ∧ RepSl 5 (Ex cApiParcel) F p0 k0 r.B.Moving ∧ RepSl 1 (Ex (cInt .i64)) F p1 k1 r.Ids) := by
 refine CT0.enter Try.func50 rfl Try.ntmps50 rfl fun r R => ?_
 unfold m_wormtubref11_missing
 refine .seq ?_
 refine .region ?_
 refine .boxF (cs := (cApiDutyRules r_1 p2 k3)) rfl rfl rfl (fun b15 F_16 l_17 hb18 => ?_)
 refine .box (cs := (cWormtubref11State s5 p6 k7 p9 k10)) rfl rfl rfl (fun b19 => ?_)
 refine .alloc (cs := (cWormtubref11State (Wormtubref11State.mk (ApiDutyBook.mk (fun _ => 0) ([]) 0 0 0 0 0 0 0 0) ([]) (fun _ => 0)) none 0 none 0)) rfl Try.zeroValue73 rfl (fun b20 => ?_)
 refine .nil ?_
 refine .code ?_
 refine .seq ?_
 refine .region ?_
 refine .fieldAddr rfl Try.underlying73 rfl Try.sizeOf31 rfl ?_
 refine .fieldAddr rfl Try.underlying31 rfl Try.sizeOf3 rfl ?_
 refine .loadO rfl Try.isAgg3 rfl (i := 1) rfl rfl ?_
 refine .move rfl rfl ?_
 refine .move rfl rfl ?_
 refine .min2 rfl rfl rfl ?_
 refine .add rfl rfl rfl ?_
 refine .fieldAddr rfl Try.underlying73 rfl Try.sizeOf31 rfl ?_
 refine .fieldAddr rfl Try.underlying31 rfl Try.sizeOf3 rfl ?_
 refine .letv (fun x21 e22 => ?_)
 have h23 : RepSl 5 (Ex cApiParcel) F_16 p6 k7 x21.B.Moving := by rw [e22]; exact (h8.mono l_17)
 have h24 : RepSl 1 (Ex (cInt .i64)) F_16 p9 k10 x21.Ids := by rw [e22]; exact (h11.mono l_17)
 refine .store (cs' := (cWormtubref11State x21 p6 k7 p9 k10)) Try.sizeOf3 rfl rfl rfl rfl (i := 1) rfl (Nat.le_of_ble_eq_true rfl) rfl (by rw [e22]; kernel_rfl) ?_
 refine .nil ?_
 refine .code ?_
 refine .seq ?_
 refine .region ?_
 refine .move rfl rfl ?_
 refine .move rfl rfl ?_
 refine .move rfl rfl ?_
 refine .min2 rfl rfl rfl ?_
 refine .sub rfl rfl rfl ?_
 refine .assignL rfl rfl (fun beyond25 e26 => ?_)
 refine .nil ?_
 refine .code ?_
 refine .seq ?_
 refine .region ?_
 refine .fieldAddr rfl Try.underlying73 rfl Try.sizeOf31 rfl ?_
 refine .fieldAddr rfl Try.underlying31 rfl Try.sizeOf3 rfl ?_
 refine .loadO rfl Try.isAgg3 rfl (i := 1) rfl rfl ?_
 refine .move rfl rfl ?_
 refine .add rfl rfl rfl ?_
 refine .fieldAddr rfl Try.underlying73 rfl Try.sizeOf31 rfl ?_
 refine .fieldAddr rfl Try.underlying31 rfl Try.sizeOf3 rfl ?_
 refine .letv (fun x27 e28 => ?_)
 have h29 : RepSl 5 (Ex cApiParcel) F_16 p6 k7 x27.B.Moving := by rw [e28]; exact h23
 have h30 : RepSl 1 (Ex (cInt .i64)) F_16 p9 k10 x27.Ids := by rw [e28]; exact h24
 refine .store (cs' := (cWormtubref11State x27 p6 k7 p9 k10)) Try.sizeOf3 rfl rfl rfl rfl (i := 1) rfl (Nat.le_of_ble_eq_true rfl) rfl (by rw [e28]; kernel_rfl) ?_
 refine .nil ?_
 refine .keep (.cons (k := 4) rfl (.cons (k := 5) rfl (.cons (k := 6) rfl (.cons (k := 10) rfl (.cons (k := 11) rfl (.nil _)))))) ?_
 refine .code ?_
 refine .seq ?_
 refine .keep (.cons (k := 4) rfl (.cons (k := 5) rfl (.cons (k := 6) rfl (.cons (k := 10) rfl (.cons (k := 11) rfl (.nil _)))))) ?_
 refine .bind (fun r_34 hx35 => ?_)
 refine .drawGD 7 0 (fun env31 => [((.pointer (some ⟨b19, 0 + 0, none⟩)), fun _ => True), ((.pointer (some ⟨b19, 0 + 0 + 23, none⟩)), fun _ => True), ((.int .i64 x27.B.Due), fun _ => True), ((eApiDutyRules r_1 p2 k3), fun _ => True), ((.int .i64 beyond25), fun _ => True), ((.int .i64 day14), fun _ => True), ((.int .i64 r_34), fun _ => True)]) (fun L env31 => [pt b20 (.cells (cWormtubref11State (Wormtubref11State.mk (ApiDutyBook.mk (fun _ => 0) ([]) 0 0 0 0 0 0 0 0) ([]) (fun _ => 0)) none 0 none 0).toArray 73), pt b19 (.cells (cWormtubref11State x27 p6 k7 p9 k10).toArray 73), R]) mixedOK (by kernel_rfl) (deepN (k := 7) (n := 11) rfl (allLt11 (p := fun t => 7 ≤ t → ∀ j, j < t → ∃ s, depB _ s t j = true) (fun h => absurd h (by decide)) (fun h => absurd h (by decide)) (fun h => absurd h (by decide)) (fun h => absurd h (by decide)) (fun h => absurd h (by decide)) (fun h => absurd h (by decide)) (fun h => absurd h (by decide)) (fun _ => allLt7 (p := fun j => ∃ s, depB _ s 7 j = true) ⟨3, rfl⟩ ⟨2, rfl⟩ ⟨1, rfl⟩ ⟨2, rfl⟩ ⟨2, rfl⟩ ⟨2, rfl⟩ ⟨1, rfl⟩) (fun _ => allLt8 (p := fun j => ∃ s, depB _ s 8 j = true) ⟨1, rfl⟩ ⟨1, rfl⟩ ⟨1, rfl⟩ ⟨1, rfl⟩ ⟨1, rfl⟩ ⟨1, rfl⟩ ⟨1, rfl⟩ ⟨1, rfl⟩) (fun _ => allLt9 (p := fun j => ∃ s, depB _ s 9 j = true) ⟨1, rfl⟩ ⟨1, rfl⟩ ⟨1, rfl⟩ ⟨1, rfl⟩ ⟨1, rfl⟩ ⟨1, rfl⟩ ⟨1, rfl⟩ ⟨1, rfl⟩ ⟨1, rfl⟩) (fun _ => allLt10 (p := fun j => ∃ s, depB _ s 10 j = true) ⟨1, rfl⟩ ⟨1, rfl⟩ ⟨1, rfl⟩ ⟨1, rfl⟩ ⟨1, rfl⟩ ⟨1, rfl⟩ ⟨1, rfl⟩ ⟨1, rfl⟩ ⟨2, rfl⟩ ⟨1, rfl⟩))) rfl (fun _ => rfl) (by kernel_rfl) (fun _ => rfl) ?_ (fun env31 F_36 l_37 hphi => ?_)
 ·skip
  refine .cons (fun L env31 F_38 l_39 hL hdn hup hphi => ⟨[(6, (.pointer (some ⟨b19, 0, none⟩)))], fun S hS hV => (.cons (hS _ _ rfl) (Sub.nil _)), ?_⟩) ?_
  ·skip
   refine .fieldAddr rfl Try.underlying73 rfl Try.sizeOf31 rfl ?_
   exact .finV rfl rfl (Fz.le_refl _)
  refine .cons (fun L env31 F_40 l_41 hL hdn hup hphi => ⟨[(33, (.pointer (some ⟨b19, 0 + 0, none⟩)))], fun S hS hV => (.cons (hV 0 33 _ (hdn 1 0 rfl) rfl rfl) (Sub.nil _)), ?_⟩) ?_
  ·skip
   refine .fieldAddr rfl Try.underlying31 rfl Try.sizeOf3 rfl ?_
   exact .finV rfl rfl (Fz.le_refl _)
  refine .cons (fun L env31 F_42 l_43 hL hdn hup hphi => ⟨[(34, (.pointer (some ⟨b19, 0 + 0 + 23, none⟩)))], fun S hS hV => (.cons (hV 1 34 _ (hdn 1 1 rfl) rfl rfl) (Sub.nil _)), ?_⟩) ?_
  ·skip
   refine .loadO rfl Try.isAgg3 rfl (i := 1) rfl rfl ?_
   exact .finV rfl rfl (Fz.le_refl _)
  refine .cons (fun L env31 F_44 l_45 hL hdn hup hphi => ⟨[(5, (.pointer (some ⟨b15, 0, none⟩)))], fun S hS hV => (.cons (hS _ _ rfl) (Sub.nil _)), ?_⟩) ?_
  ·skip
   refine .loadFA rfl Try.isAgg24 Try.sizeOf24 rfl (l_45.mem _ _ hb18) (vs := (cApiDutyRules r_1 p2 k3)) (by kernel_rfl) rfl ?_
   exact .finV rfl rfl (Fz.le_refl _)
  refine .cons (fun L env31 F_46 l_47 hL hdn hup hphi => ⟨[(11, (.int .i64 beyond25))], fun S hS hV => (.cons (hS _ _ rfl) (Sub.nil _)), ?_⟩) ?_
  ·skip
   refine .move rfl rfl ?_
   exact .finV rfl rfl (Fz.le_refl _)
  refine .cons (fun L env31 F_48 l_49 hL hdn hup hphi => ⟨[(4, (.int .i64 day14))], fun S hS hV => (.cons (hS _ _ rfl) (Sub.nil _)), ?_⟩) ?_
  ·skip
   refine .move rfl rfl ?_
   exact .finV rfl rfl (Fz.le_refl _)
  refine .cons (fun L env31 F_50 l_51 hL hdn hup hphi => ⟨[(36, (eApiDutyRules r_1 p2 k3)), (37, (.int .i64 beyond25)), (38, (.int .i64 day14))], fun S hS hV => (.cons (hV 3 36 _ (hdn 1 3 rfl) rfl rfl) (.cons (hV 4 37 _ (hdn 1 4 rfl) rfl rfl) (.cons (hV 5 38 _ (hdn 1 5 rfl) rfl rfl) (Sub.nil _)))), ?_⟩) ?_
  ·skip
   refine .callK hx35 rfl Try.call36 rfl rfl rfl (c_wormtubref11_duty _ r_1 p2 k3 (h4.mono (Fz.le_trans l_17 l_51)) beyond25 day14) ?_
   rintro F_52 _ l_53 rfl
   exact .finV rfl rfl l_53
  exact .nil
 refine .norm (S' := [(4, (.int .i64 day14)), (5, (.pointer (some ⟨b15, 0, none⟩))), (6, (.pointer (some ⟨b19, 0, none⟩))), (10, (.pointer (some ⟨b20, 0, none⟩))), (11, (.int .i64 beyond25)), (33, (.pointer (some ⟨b19, 0 + 0, none⟩))), (34, (.pointer (some ⟨b19, 0 + 0 + 23, none⟩))), (35, (.int .i64 x27.B.Due)), (36, (eApiDutyRules r_1 p2 k3)), (37, (.int .i64 beyond25)), (38, (.int .i64 day14)), (39, (.int .i64 r_34))]) (.cons (k := 4) rfl (.cons (k := 5) rfl (.cons (k := 6) rfl (.cons (k := 10) rfl (.cons (k := 11) rfl (.cons (k := 33) rfl (.cons (k := 34) rfl (.cons (k := 35) rfl (.cons (k := 36) rfl (.cons (k := 37) rfl (.cons (k := 38) rfl (.cons (k := 39) rfl (.nil _))))))))))))) (rfl : _ = [pt b20 (.cells (cWormtubref11State (Wormtubref11State.mk (ApiDutyBook.mk (fun _ => 0) ([]) 0 0 0 0 0 0 0 0) ([]) (fun _ => 0)) none 0 none 0).toArray 73), pt b19 (.cells (cWormtubref11State x27 p6 k7 p9 k10).toArray 73), R]) ?_
 refine .add rfl rfl rfl ?_
 refine .fieldAddr rfl Try.underlying73 rfl Try.sizeOf31 rfl ?_
 refine .fieldAddr rfl Try.underlying31 rfl Try.sizeOf3 rfl ?_
 refine .letv (fun x54 e55 => ?_)
 have h56 : RepSl 5 (Ex cApiParcel) F_36 p6 k7 x54.B.Moving := by rw [e55]; exact (h29.mono l_37)
 have h57 : RepSl 1 (Ex (cInt .i64)) F_36 p9 k10 x54.Ids := by rw [e55]; exact (h30.mono l_37)
 refine .store (cs' := (cWormtubref11State x54 p6 k7 p9 k10)) Try.sizeOf3 rfl rfl rfl rfl (i := 1) rfl (Nat.le_of_ble_eq_true rfl) rfl (by rw [e55]; kernel_rfl) ?_
 refine .nil ?_
 refine .code ?_
 refine .seq ?_
 refine .region ?_
 refine .loadOA rfl Try.isAgg73 Try.sizeOf73 rfl (i := 1) rfl (vs := (cWormtubref11State x54 p6 k7 p9 k10)) (by kernel_rfl) rfl ?_
 refine .store (cs' := (cWormtubref11State x54 p6 k7 p9 k10)) Try.sizeOf73 rfl rfl rfl rfl (i := 0) rfl (Nat.le_of_ble_eq_true rfl) rfl (setMany_all (by rfl)) ?_
 refine .nil ?_
 refine .code ?_
 exact .ret0 Try.results50 (.agg rfl Try.isAgg73 Try.sizeOf73 (i := 0) rfl (vs' := (cWormtubref11State x54 p6 k7 p9 k10)) (by kernel_rfl) rfl (.nil)) (i := 2) rfl (Fz.le_trans l_17 l_37) ⟨p6, k7, p9, k10, rfl, h56, h57⟩
noncomputable def b_wormtubref11_do_1 (s5 : Wormtubref11State) (x12 : ApiDutyEvent) (s49 : Int) : Option (Ctl (Int) ((Unit) ⊕ (Wormtubref11State × Int))) :=
 if (decide (s49 < (s5.Ids.length : Int))) then ((idxL s5.Ids s49).bind fun x53 => if (x53 == x12.Id) then (some (.done (.inr (s5, 5)))) else (bindv (w64 (s49 + 1)) fun i64 => some (.next i64))) else (some (.done (.inl ())))
noncomputable def b_wormtubref11_do_2 (x12 : ApiDutyEvent) (x132 : Wormtubref11State) (s136 : Int) : Option (Ctl (Int) ((Int))) :=
 (if (decide (s136 < (x132.B.Moving.length : Int))) then ((idxL x132.B.Moving s136).bind fun x140 => some (decide (x140.Id < x12.Id))) else some false).bind fun z153 => if z153 then (bindv (w64 (s136 + 1)) fun n_156 => some (.next n_156)) else (some (.done s136))
noncomputable def m_wormtubref11_do (r_1 : ApiDutyRules) (s5 : Wormtubref11State) (x12 : ApiDutyEvent) : Option (Wormtubref11State × Int) :=
 bindv (s5.B.Bonds 0) fun here23 => (if (m_wormtubref11_bond x12.Bond) then ((idxO 16 x12.Bond).bind fun j28 => bindv (s5.B.Bonds j28) fun here30 => some here30) else (some here23) : Option (Int)).bind fun j32 => if (x12.Kind == 0) then (if (decide ((w64 (j32 + x12.Amount)) > 17179869184)) then (some (s5, 12)) else ((idxO 16 x12.Bond).bind fun j37 => bindv ({ s5 with B := { s5.B with Bonds := updN s5.B.Bonds j37 (w64 (j32 + x12.Amount)) } }) fun x39 => bindv ({ x39 with B := { x39.B with Made := (w64 (x39.B.Made + x12.Amount)) } }) fun x43 => some (x43, 0))) else (if (x12.Kind == 1) then (if (x12.Bond == x12.To) then (some (s5, 11)) else ((loopM (b_wormtubref11_do_1 s5 x12) 0).bind fun b0 => match b0 with | .inl _b66 => (if (decide (j32 < x12.Amount)) then (some (s5, 10)) else ((idxO 16 x12.Bond).bind fun j78 => bindv ({ s5 with B := { s5.B with Bonds := updN s5.B.Bonds j78 (w64 (j32 - x12.Amount)) } }) fun x80 => (appO ([]) x80.Ids).bind fun l_86 => (appO l_86 ([x12.Id])).bind fun l_125 => bindv ({ x80 with Ids := l_125 }) fun x132 => (loopM (b_wormtubref11_do_2 x12 x132) 0).bind fun b158 => (sliceL x132.B.Moving b158 x132.B.Moving.length).bind fun l_164 => (appO ([(ApiParcel.mk x12.Id x12.Bond x12.To x12.Day x12.Amount)]) l_164).bind fun l_194 => (sliceL x132.B.Moving 0 b158).bind fun l_200 => (appO ([]) l_200).bind fun l_205 => (appO l_205 l_194).bind fun l_212 => bindv ({ x132 with B := { x132.B with Moving := l_212 } }) fun x219 => some (x219, 0))) | .inr b66 => (some (b66.1, b66.2)))) else (if (x12.Kind == 2) then ((m_wormtubref11_find s5 x12.Id).bind fun r_226 => if (decide (r_226 < 0)) then (some (s5, 4)) else ((idxL s5.B.Moving r_226).bind fun x228 => if (x228.To != x12.Bond) then (some (s5, 11)) else (if (decide ((w64 (j32 + x12.Amount)) > 17179869184)) then (some (s5, 12)) else ((m_wormtubref11_without s5.B.Moving r_226).bind fun r_243 => bindv ({ s5 with B := { s5.B with Moving := r_243 } }) fun x247 => (idxO 16 x12.Bond).bind fun j251 => bindv ({ x247 with B := { x247.B with Bonds := updN x247.B.Bonds j251 (w64 (j32 + x12.Amount)) } }) fun x253 => bindv ({ x253 with B := { x253.B with Found := (w64 (x253.B.Found + (imax 0 (w64 (x12.Amount - x228.Amount))))) } }) fun x257 => (m_wormtubref11_missing r_1 x257 (imax 0 (w64 (x228.Amount - x12.Amount))) (w64 (Int.tdiv (w64 (x228.Amount * r_1.Loss)) 10000)) x12.Day).bind fun r_263 => some (r_263, 0))))) else ((if (x12.Kind == 3) then (some (x12.Kind == 3)) else (some (x12.Kind == 4)) : Option (Bool)).bind fun j271 => if j271 then (if (decide (j32 < x12.Amount)) then (some (s5, 10)) else ((idxO 16 x12.Bond).bind fun j276 => bindv ({ s5 with B := { s5.B with Bonds := updN s5.B.Bonds j276 (w64 (j32 - x12.Amount)) } }) fun x278 => if (x12.Kind == 4) then (bindv ({ x278 with B := { x278.B with Exported := (w64 (x278.B.Exported + x12.Amount)) } }) fun x283 => some (x283, 0)) else (bindv ({ x278 with B := { x278.B with Used := (w64 (x278.B.Used + x12.Amount)) } }) fun x287 => (m_wormtubref11_duty r_1 x12.Amount x12.Day).bind fun r_294 => bindv ({ x287 with B := { x287.B with Due := (w64 (x287.B.Due + r_294)) } }) fun x318 => some (x318, 0)))) else (if (x12.Kind == 5) then ((idxO 16 x12.Bond).bind fun j323 => bindv (w64 (Int.tdiv (w64 ((s5.Sums j323) * r_1.Share)) 3650000)) fun allowed325 => (idxO 16 x12.Bond).bind fun j327 => bindv ({ s5 with Sums := updN s5.Sums j327 0 }) fun x329 => (idxO 16 x12.Bond).bind fun j333 => bindv ({ x329 with B := { x329.B with Bonds := updN x329.B.Bonds j333 x12.Amount } }) fun x335 => bindv ({ x335 with B := { x335.B with Found := (w64 (x335.B.Found + (imax 0 (w64 (x12.Amount - j32))))) } }) fun x339 => (m_wormtubref11_missing r_1 x339 (imax 0 (w64 (j32 - x12.Amount))) allowed325 x12.Day).bind fun r_345 => some (r_345, 0)) else (if (x12.Kind == 6) then (if (decide (x12.Amount > (w64 (s5.B.Due - s5.B.Paid)))) then (some (s5, 11)) else (bindv ({ s5 with B := { s5.B with Paid := (w64 (s5.B.Paid + x12.Amount)) } }) fun x354 => some (x354, 0))) else (some (s5, 0)))))))
set_option maxHeartbeats 4000000 in
theorem c_wormtubref11_do (F0 : Fz) (r_1 : ApiDutyRules) (p2 : Option Addr) (k3 : Nat) (h4 : RepSl 2 (Ex cApiDutyRate) F0 p2 k3 r_1.Rates) (s5 : Wormtubref11State) (p6 : Option Addr) (k7 : Nat) (p9 : Option Addr) (k10 : Nat) (h8 : RepSl 5 (Ex cApiParcel) F0 p6 k7 s5.B.Moving) (h11 : RepSl 1 (Ex (cInt .i64)) F0 p9 k10 s5.Ids) (x12 : ApiDutyEvent) : CT0 Try.prog 31 [(eApiDutyRules r_1 p2 k3), (eWormtubref11State s5 p6 k7 p9 k10), (eApiDutyEvent x12)].toArray F0 (m_wormtubref11_do r_1 s5 x12) (fun r F v => ∃ (p0 : Option Addr) (k0 : Nat) (p1 : Option Addr) (k1 : Nat), v = .tuple #[(eWormtubref11State r.1 p0 k0 p1 k1), (.int .i64 r.2)] ∧ RepSl 5 (Ex cApiParcel) F p0 k0 r.1.B.Moving ∧ RepSl 1 (Ex (cInt .i64)) F p1 k1 r.1.Ids) := by
 refine CT0.enter Try.func31 rfl Try.ntmps31 rfl fun r R => ?_
 unfold m_wormtubref11_do
 refine .seq ?_
 refine .region ?_
 refine .boxF (cs := (cApiDutyRules r_1 p2 k3)) rfl rfl rfl (fun b13 F_14 l_15 hb16 => ?_)
 refine .box (cs := (cWormtubref11State s5 p6 k7 p9 k10)) rfl rfl rfl (fun b17 => ?_)
 refine .boxF (cs := (cApiDutyEvent x12)) rfl rfl rfl (fun b18 F_19 l_20 hb21 => ?_)
 refine .alloc (cs := (cWormtubref11State (Wormtubref11State.mk (ApiDutyBook.mk (fun _ => 0) ([]) 0 0 0 0 0 0 0 0) ([]) (fun _ => 0)) none 0 none 0)) rfl Try.zeroValue73 rfl (fun b22 => ?_)
 refine .assign rfl rfl ?_
 refine .nil ?_
 refine .code ?_
 refine .seq ?_
 refine .region ?_
 refine .fieldAddr rfl Try.underlying73 rfl Try.sizeOf31 rfl ?_
 refine .fieldAddr rfl Try.underlying31 rfl Try.sizeOf28 rfl ?_
 refine .indexAddrA rfl Try.underlying28 Try.sizeOf3 rfl rfl (j := 0) rfl ?_
 refine .loadO rfl Try.isAgg3 rfl (i := 1) rfl rfl ?_
 refine .assignL rfl rfl (fun here23 e24 => ?_)
 refine .nil ?_
 refine .code ?_
 refine .seq ?_
 refine .seq ?_
 refine .region ?_
 refine .fieldAddr rfl Try.underlying47 rfl Try.sizeOf3 rfl ?_
 refine .loadF rfl Try.isAgg3 rfl hb21 rfl ?_
 refine .callP rfl Try.call47 rfl rfl rfl (c_wormtubref11_bond _ x12.Bond) ?_
 rintro F_25 _ l_26 rfl
 refine .nil ?_
 refine .code ?_
 refine .keep (.cons (k := 3) rfl (.cons (k := 4) rfl (.cons (k := 5) rfl (.cons (k := 6) rfl (.cons (k := 8) rfl (.cons (k := 22) rfl (.nil _))))))) ?_
 refine GC.join0 (σ := Int) (fun j32 a w => ∃ (F_33 : Fz), F_25 ≤ F_33 ∧ Hd 340 [] [(3, (.pointer (some ⟨b13, 0, none⟩))), (4, (.pointer (some ⟨b17, 0, none⟩))), (5, (.pointer (some ⟨b18, 0, none⟩))), (6, (.pointer (some ⟨b22, 0, none⟩))), (8, (.int .i64 j32))] F_33 [pt b22 (.cells (cWormtubref11State (Wormtubref11State.mk (ApiDutyBook.mk (fun _ => 0) ([]) 0 0 0 0 0 0 0 0) ([]) (fun _ => 0)) none 0 none 0).toArray 73), pt b17 (.cells (cWormtubref11State s5 p6 k7 p9 k10).toArray 73), R] a w) (fun sj => ?_) (fun j32 hs0 => GE.ex (fun a w ⟨F_33, l_34, hA⟩ => ⟨_, hA, ?_⟩))
 ·skip
  refine .cond rfl (fun hb27 => ?_) (fun hb27 => ?_)
  ·skip
   refine .region ?_
   refine .fieldAddr rfl Try.underlying47 rfl Try.sizeOf3 rfl ?_
   refine .loadF rfl Try.isAgg3 rfl (l_26.mem _ _ hb21) rfl ?_
   refine .fieldAddr rfl Try.underlying73 rfl Try.sizeOf31 rfl ?_
   refine .fieldAddr rfl Try.underlying31 rfl Try.sizeOf28 rfl ?_
   refine .bind (fun j28 hj29 => ?_)
   refine .indexAddrA rfl Try.underlying28 Try.sizeOf3 rfl rfl hj29 ?_
   refine .loadO rfl Try.isAgg3 rfl (i := 1) rfl (allLt16 (p := fun j28 => ((cWormtubref11State s5 p6 k7 p9 k10))[0 + 0 + 0 + j28 * 1]? = some (.int .i64 (s5.B.Bonds j28))) rfl rfl rfl rfl rfl rfl rfl rfl rfl rfl rfl rfl rfl rfl rfl rfl _ (idxO_some hj29).2.2.2) ?_
   refine .assignL rfl rfl (fun here30 e31 => ?_)
   refine .nil ?_
   exact .nil fun e a w h => by cases e; exact ⟨rfl, ⟨F_25, (Fz.le_refl _), h.1.sub (.cons (k := 3) rfl (.cons (k := 4) rfl (.cons (k := 5) rfl (.cons (k := 6) rfl (.cons (k := 8) rfl (.nil _)))))), h.2⟩⟩
  ·skip
   refine .skip ?_
   exact .nil fun e a w h => by cases e; exact ⟨rfl, ⟨F_25, (Fz.le_refl _), h.1.sub (.cons (k := 3) rfl (.cons (k := 4) rfl (.cons (k := 5) rfl (.cons (k := 6) rfl (.cons (k := 8) rfl (.nil _)))))), h.2⟩⟩
 refine .code ?_
 refine .seq ?_
 refine .seq ?_
 refine .region ?_
 refine .fieldAddr rfl Try.underlying47 rfl Try.sizeOf3 rfl ?_
 refine .loadF rfl Try.isAgg3 rfl ((Fz.le_trans l_26 l_34).mem _ _ hb21) rfl ?_
 refine .nil ?_
 refine .code ?_
 refine .block ?_
 refine .seq ?_
 refine .region ?_
 refine .eql rfl rfl rfl ?_
 refine .assign rfl rfl ?_
 refine .nil ?_
 refine .code ?_
 refine .cond rfl (fun hb35 => ?_) (fun hb35 => ?_)
 ·skip
  refine .seq ?_
  refine .seq ?_
  refine .region ?_
  refine .move rfl rfl ?_
  refine .fieldAddr rfl Try.underlying47 rfl Try.sizeOf3 rfl ?_
  refine .loadF rfl Try.isAgg3 rfl ((Fz.le_trans l_26 l_34).mem _ _ hb21) rfl ?_
  refine .add rfl rfl rfl ?_
  refine .gtr rfl rfl rfl ?_
  refine .nil ?_
  refine .code ?_
  refine .cond rfl (fun hb36 => ?_) (fun hb36 => ?_)
  ·skip
   refine .seq ?_
   refine .region ?_
   refine .loadOA rfl Try.isAgg73 Try.sizeOf73 rfl (i := 1) rfl (vs := (cWormtubref11State s5 p6 k7 p9 k10)) (by kernel_rfl) rfl ?_
   refine .store (cs' := (cWormtubref11State s5 p6 k7 p9 k10)) Try.sizeOf73 rfl rfl rfl rfl (i := 0) rfl (Nat.le_of_ble_eq_true rfl) rfl (setMany_all (by rfl)) ?_
   refine .assign rfl rfl ?_
   refine .nil ?_
   refine .code ?_
   exact .ret0 Try.results31 (.agg rfl Try.isAgg73 Try.sizeOf73 (i := 0) rfl (vs' := (cWormtubref11State s5 p6 k7 p9 k10)) (by kernel_rfl) rfl (.tmp rfl (.nil))) (i := 2) rfl (Fz.le_trans l_15 (Fz.le_trans l_20 (Fz.le_trans l_26 l_34))) ⟨p6, k7, p9, k10, rfl, (h8.mono (Fz.le_trans l_15 (Fz.le_trans l_20 (Fz.le_trans l_26 l_34)))), (h11.mono (Fz.le_trans l_15 (Fz.le_trans l_20 (Fz.le_trans l_26 l_34))))⟩
  ·skip
   refine .skip ?_
   refine .code ?_
   refine .seq ?_
   refine .region ?_
   refine .fieldAddr rfl Try.underlying47 rfl Try.sizeOf3 rfl ?_
   refine .loadF rfl Try.isAgg3 rfl ((Fz.le_trans l_26 l_34).mem _ _ hb21) rfl ?_
   refine .move rfl rfl ?_
   refine .fieldAddr rfl Try.underlying47 rfl Try.sizeOf3 rfl ?_
   refine .loadF rfl Try.isAgg3 rfl ((Fz.le_trans l_26 l_34).mem _ _ hb21) rfl ?_
   refine .add rfl rfl rfl ?_
   refine .fieldAddr rfl Try.underlying73 rfl Try.sizeOf31 rfl ?_
   refine .fieldAddr rfl Try.underlying31 rfl Try.sizeOf28 rfl ?_
   refine .bind (fun j37 hj38 => ?_)
   refine .indexAddrA rfl Try.underlying28 Try.sizeOf3 rfl rfl hj38 ?_
   refine .letv (fun x39 e40 => ?_)
   have h41 : RepSl 5 (Ex cApiParcel) F_33 p6 k7 x39.B.Moving := by rw [e40]; exact (h8.mono (Fz.le_trans l_15 (Fz.le_trans l_20 (Fz.le_trans l_26 l_34))))
   have h42 : RepSl 1 (Ex (cInt .i64)) F_33 p9 k10 x39.Ids := by rw [e40]; exact (h11.mono (Fz.le_trans l_15 (Fz.le_trans l_20 (Fz.le_trans l_26 l_34))))
   refine .store (cs' := (cWormtubref11State x39 p6 k7 p9 k10)) Try.sizeOf3 rfl rfl rfl rfl (i := 1) rfl (allLt16 (p := fun j37 => 0 + 0 + 0 + j37 * 1 + 1 ≤ 42) (by decide) (by decide) (by decide) (by decide) (by decide) (by decide) (by decide) (by decide) (by decide) (by decide) (by decide) (by decide) (by decide) (by decide) (by decide) (by decide) _ (idxO_some hj38).2.2.2) rfl (by rw [e40]; exact (allLt16 (p := fun j37 => setMany ((cWormtubref11State s5 p6 k7 p9 k10)) (0 + 0 + 0 + j37 * 1) [(.int .i64 (w64 (j32 + x12.Amount)))] = (cWormtubref11State ({ s5 with B := { s5.B with Bonds := updN s5.B.Bonds j37 (w64 (j32 + x12.Amount)) } }) p6 k7 p9 k10)) rfl rfl rfl rfl rfl rfl rfl rfl rfl rfl rfl rfl rfl rfl rfl rfl _ (idxO_some hj38).2.2.2)) ?_
   refine .nil ?_
   refine .code ?_
   refine .region ?_
   refine .fieldAddr rfl Try.underlying73 rfl Try.sizeOf31 rfl ?_
   refine .fieldAddr rfl Try.underlying31 rfl Try.sizeOf3 rfl ?_
   refine .loadO rfl Try.isAgg3 rfl (i := 1) rfl rfl ?_
   refine .fieldAddr rfl Try.underlying47 rfl Try.sizeOf3 rfl ?_
   refine .loadF rfl Try.isAgg3 rfl ((Fz.le_trans l_26 l_34).mem _ _ hb21) rfl ?_
   refine .add rfl rfl rfl ?_
   refine .fieldAddr rfl Try.underlying73 rfl Try.sizeOf31 rfl ?_
   refine .fieldAddr rfl Try.underlying31 rfl Try.sizeOf3 rfl ?_
   refine .letv (fun x43 e44 => ?_)
   have h45 : RepSl 5 (Ex cApiParcel) F_33 p6 k7 x43.B.Moving := by rw [e44]; exact h41
   have h46 : RepSl 1 (Ex (cInt .i64)) F_33 p9 k10 x43.Ids := by rw [e44]; exact h42
   refine .store (cs' := (cWormtubref11State x43 p6 k7 p9 k10)) Try.sizeOf3 rfl rfl rfl rfl (i := 1) rfl (Nat.le_of_ble_eq_true rfl) rfl (by rw [e44]; kernel_rfl) ?_
   refine .nil ?_
   refine .block ?_
   refine .keep (.cons (k := 4) rfl (.cons (k := 6) rfl (.nil _))) ?_
   refine .code ?_
   refine .seq ?_
   refine .region ?_
   refine .loadOA rfl Try.isAgg73 Try.sizeOf73 rfl (i := 1) rfl (vs := (cWormtubref11State x43 p6 k7 p9 k10)) (by kernel_rfl) rfl ?_
   refine .store (cs' := (cWormtubref11State x43 p6 k7 p9 k10)) Try.sizeOf73 rfl rfl rfl rfl (i := 0) rfl (Nat.le_of_ble_eq_true rfl) rfl (setMany_all (by rfl)) ?_
   refine .assign rfl rfl ?_
   refine .nil ?_
   refine .code ?_
   exact .ret0 Try.results31 (.agg rfl Try.isAgg73 Try.sizeOf73 (i := 0) rfl (vs' := (cWormtubref11State x43 p6 k7 p9 k10)) (by kernel_rfl) rfl (.tmp rfl (.nil))) (i := 2) rfl (Fz.le_trans l_15 (Fz.le_trans l_20 (Fz.le_trans l_26 l_34))) ⟨p6, k7, p9, k10, rfl, h45, h46⟩
 ·skip
  refine .seq ?_
  refine .region ?_
  refine .eql rfl rfl rfl ?_
  refine .assign rfl rfl ?_
  refine .nil ?_
  refine .code ?_
  refine .cond rfl (fun hb47 => ?_) (fun hb47 => ?_)
  ·skip
   refine .seq ?_
   refine .seq ?_
   refine .region ?_
   refine .fieldAddr rfl Try.underlying47 rfl Try.sizeOf3 rfl ?_
   refine .loadF rfl Try.isAgg3 rfl ((Fz.le_trans l_26 l_34).mem _ _ hb21) rfl ?_
   refine .fieldAddr rfl Try.underlying47 rfl Try.sizeOf3 rfl ?_
   refine .loadF rfl Try.isAgg3 rfl ((Fz.le_trans l_26 l_34).mem _ _ hb21) rfl ?_
   refine .eql rfl rfl rfl ?_
   refine .nil ?_
   refine .code ?_
   refine .cond rfl (fun hb48 => ?_) (fun hb48 => ?_)
   ·skip
    refine .seq ?_
    refine .region ?_
    refine .loadOA rfl Try.isAgg73 Try.sizeOf73 rfl (i := 1) rfl (vs := (cWormtubref11State s5 p6 k7 p9 k10)) (by kernel_rfl) rfl ?_
    refine .store (cs' := (cWormtubref11State s5 p6 k7 p9 k10)) Try.sizeOf73 rfl rfl rfl rfl (i := 0) rfl (Nat.le_of_ble_eq_true rfl) rfl (setMany_all (by rfl)) ?_
    refine .assign rfl rfl ?_
    refine .nil ?_
    refine .code ?_
    exact .ret0 Try.results31 (.agg rfl Try.isAgg73 Try.sizeOf73 (i := 0) rfl (vs' := (cWormtubref11State s5 p6 k7 p9 k10)) (by kernel_rfl) rfl (.tmp rfl (.nil))) (i := 2) rfl (Fz.le_trans l_15 (Fz.le_trans l_20 (Fz.le_trans l_26 l_34))) ⟨p6, k7, p9, k10, rfl, (h8.mono (Fz.le_trans l_15 (Fz.le_trans l_20 (Fz.le_trans l_26 l_34)))), (h11.mono (Fz.le_trans l_15 (Fz.le_trans l_20 (Fz.le_trans l_26 l_34))))⟩
   ·skip
    refine .skip ?_
    refine .code ?_
    refine .seq ?_
    refine .seq ?_
    refine .region ?_
    refine .assign rfl rfl ?_
    refine .nil ?_
    refine .code ?_
    refine .block ?_
    refine .keep (.cons (k := 4) rfl (.cons (k := 5) rfl (.cons (k := 6) rfl (.cons (k := 8) rfl (.cons (k := 9) rfl (.nil _)))))) ?_
    refine .loop (fun (s49 : Int) a w => ∃ (F_50 : Fz), F_33 ≤ F_50 ∧ Hd 340 [] [(4, (.pointer (some ⟨b17, 0, none⟩))), (5, (.pointer (some ⟨b18, 0, none⟩))), (6, (.pointer (some ⟨b22, 0, none⟩))), (8, (.int .i64 j32)), (9, (.int .i64 s49))] F_50 [pt b22 (.cells (cWormtubref11State (Wormtubref11State.mk (ApiDutyBook.mk (fun _ => 0) ([]) 0 0 0 0 0 0 0 0) ([]) (fun _ => 0)) none 0 none 0).toArray 73), pt b17 (.cells (cWormtubref11State s5 p6 k7 p9 k10).toArray 73), R] a w) (fun b0 e a w => match b0 with | .inl b66 => e = .exit 1 ∧ ∃ (F_67 : Fz), F_33 ≤ F_67 ∧ Hd 340 [] [(4, (.pointer (some ⟨b17, 0, none⟩))), (5, (.pointer (some ⟨b18, 0, none⟩))), (6, (.pointer (some ⟨b22, 0, none⟩))), (8, (.int .i64 j32))] F_67 [pt b22 (.cells (cWormtubref11State (Wormtubref11State.mk (ApiDutyBook.mk (fun _ => 0) ([]) 0 0 0 0 0 0 0 0) ([]) (fun _ => 0)) none 0 none 0).toArray 73), pt b17 (.cells (cWormtubref11State s5 p6 k7 p9 k10).toArray 73), R] a w | .inr b66 => e = .ret ∧ ∃ (F_69 : Fz) (p71 : Option Addr) (k72 : Nat) (p74 : Option Addr) (k75 : Nat), F_33 ≤ F_69 ∧ RepSl 5 (Ex cApiParcel) F_69 p71 k72 b66.1.B.Moving ∧ RepSl 1 (Ex (cInt .i64)) F_69 p74 k75 b66.1.Ids ∧ Hd 340 [] [(6, (.pointer (some ⟨b22, 0, none⟩))), (7, (.int .i64 b66.2))] F_69 [pt b22 (.cells (cWormtubref11State b66.1 p71 k72 p74 k75).toArray 73), R] a w) ?_ ?_ ?_
    ·exact fun a w h => ⟨F_33, (Fz.le_refl _), h.1.sub (.cons (k := 4) rfl (.cons (k := 5) rfl (.cons (k := 6) rfl (.cons (k := 8) rfl (.cons (k := 9) rfl (.nil _)))))), h.2⟩
    ·intro s49 ctl
     refine GC.ex (fun a w ⟨F_50, l_51, hA⟩ => ⟨_, hA, ?_⟩)
     unfold b_wormtubref11_do_1
     refine .seq ?_
     refine .seq ?_
     refine .region ?_
     refine .move rfl rfl ?_
     refine .fieldAddr rfl Try.underlying73 rfl Try.sizeOf41 rfl ?_
     refine .loadO rfl Try.isAgg41 rfl (i := 1) rfl rfl ?_
     refine .lenS rfl rfl Try.underlying41 rfl ?_
     refine .lss rfl rfl rfl ?_
     refine .nil ?_
     refine .code ?_
     refine .cond rfl (fun hb52 => ?_) (fun hb52 => ?_)
     ·skip
      refine .skip ?_
      refine .code ?_
      refine .seq ?_
      refine .block ?_
      refine .seq ?_
      refine .keep (.cons (k := 4) rfl (.cons (k := 5) rfl (.cons (k := 6) rfl (.cons (k := 8) rfl (.cons (k := 9) rfl (.nil _)))))) ?_
      refine .drawZ 8 mixedOK (by kernel_rfl) ?_
      refine .fieldAddr rfl Try.underlying73 rfl Try.sizeOf41 rfl ?_
      refine .loadO rfl Try.isAgg41 rfl (i := 1) rfl rfl ?_
      refine .move rfl rfl ?_
      refine .idx rfl Try.underlying41 Try.sizeOf3 (h11.mono (Fz.le_trans l_15 (Fz.le_trans l_20 (Fz.le_trans l_26 (Fz.le_trans l_34 l_51))))) rfl rfl (fun x53 b54 o55 T56 fr57 cs58 e59 hm60 hv61 => ?_)
      refine .loadF rfl Try.isAgg3 rfl hm60 (cell_of_take (k := 0) hv61 rfl) ?_
      refine .fieldAddr rfl Try.underlying47 rfl Try.sizeOf3 rfl ?_
      refine .loadF rfl Try.isAgg3 rfl ((Fz.le_trans l_26 (Fz.le_trans l_34 l_51)).mem _ _ hb21) rfl ?_
      refine .eql rfl rfl rfl ?_
      refine .pend ?_
      refine .nil ?_
      refine .code ?_
      refine .cond rfl (fun hb63 => ?_) (fun hb63 => ?_)
      ·skip
       refine .seq ?_
       refine .region ?_
       refine .loadOA rfl Try.isAgg73 Try.sizeOf73 rfl (i := 1) rfl (vs := (cWormtubref11State s5 p6 k7 p9 k10)) (by kernel_rfl) rfl ?_
       refine .store (cs' := (cWormtubref11State s5 p6 k7 p9 k10)) Try.sizeOf73 rfl rfl rfl rfl (i := 0) rfl (Nat.le_of_ble_eq_true rfl) rfl (setMany_all (by rfl)) ?_
       refine .assign rfl rfl ?_
       refine .nil ?_
       refine .code ?_
       refine .drop 1 ?_
       refine .retQ (LPost.ret fun a w h => ⟨rfl, F_50, p6, k7, p9, k10, l_51, (h8.mono (Fz.le_trans l_15 (Fz.le_trans l_20 (Fz.le_trans l_26 (Fz.le_trans l_34 l_51))))), (h11.mono (Fz.le_trans l_15 (Fz.le_trans l_20 (Fz.le_trans l_26 (Fz.le_trans l_34 l_51))))), h.1.sub (.cons (k := 6) rfl (.cons (k := 7) rfl (.nil _))), h.2⟩)
      ·skip
       refine .skip ?_
       refine .block ?_
       refine .code ?_
       refine .region ?_
       refine .move rfl rfl ?_
       refine .add rfl rfl rfl ?_
       refine .assignL rfl rfl (fun i64 e65 => ?_)
       refine .nil ?_
       exact .nil (LPost.norm fun a w h => ⟨F_50, l_51, h.1.sub (.cons (k := 4) rfl (.cons (k := 5) rfl (.cons (k := 6) rfl (.cons (k := 8) rfl (.cons (k := 9) rfl (.nil _)))))), h.2⟩)
     ·skip
      refine .exitOut rfl (LPost.exit fun a w h => ⟨rfl, F_50, l_51, h.1.sub (.cons (k := 4) rfl (.cons (k := 5) rfl (.cons (k := 6) rfl (.cons (k := 8) rfl (.nil _))))), h.2⟩)
    ·intro b66 hb0 hk e a w hD
     rcases b66 with b66 | b66
     ·skip
      obtain ⟨rfl, F_67, l_68, hA⟩ := hD
      refine interp_exit rfl (GE.app ?_ hk a w hA)
      refine .code ?_
      refine .seq ?_
      refine .seq ?_
      refine .region ?_
      refine .move rfl rfl ?_
      refine .fieldAddr rfl Try.underlying47 rfl Try.sizeOf3 rfl ?_
      refine .loadF rfl Try.isAgg3 rfl ((Fz.le_trans l_26 (Fz.le_trans l_34 l_68)).mem _ _ hb21) rfl ?_
      refine .lss rfl rfl rfl ?_
      refine .nil ?_
      refine .code ?_
      refine .cond rfl (fun hb77 => ?_) (fun hb77 => ?_)
      ·skip
       refine .seq ?_
       refine .region ?_
       refine .loadOA rfl Try.isAgg73 Try.sizeOf73 rfl (i := 1) rfl (vs := (cWormtubref11State s5 p6 k7 p9 k10)) (by kernel_rfl) rfl ?_
       refine .store (cs' := (cWormtubref11State s5 p6 k7 p9 k10)) Try.sizeOf73 rfl rfl rfl rfl (i := 0) rfl (Nat.le_of_ble_eq_true rfl) rfl (setMany_all (by rfl)) ?_
       refine .assign rfl rfl ?_
       refine .nil ?_
       refine .code ?_
       exact .ret0 Try.results31 (.agg rfl Try.isAgg73 Try.sizeOf73 (i := 0) rfl (vs' := (cWormtubref11State s5 p6 k7 p9 k10)) (by kernel_rfl) rfl (.tmp rfl (.nil))) (i := 2) rfl (Fz.le_trans l_15 (Fz.le_trans l_20 (Fz.le_trans l_26 (Fz.le_trans l_34 l_68)))) ⟨p6, k7, p9, k10, rfl, (h8.mono (Fz.le_trans l_15 (Fz.le_trans l_20 (Fz.le_trans l_26 (Fz.le_trans l_34 l_68))))), (h11.mono (Fz.le_trans l_15 (Fz.le_trans l_20 (Fz.le_trans l_26 (Fz.le_trans l_34 l_68)))))⟩
      ·skip
       refine .skip ?_
       refine .code ?_
       refine .seq ?_
       refine .region ?_
       refine .fieldAddr rfl Try.underlying47 rfl Try.sizeOf3 rfl ?_
       refine .loadF rfl Try.isAgg3 rfl ((Fz.le_trans l_26 (Fz.le_trans l_34 l_68)).mem _ _ hb21) rfl ?_
       refine .move rfl rfl ?_
       refine .fieldAddr rfl Try.underlying47 rfl Try.sizeOf3 rfl ?_
       refine .loadF rfl Try.isAgg3 rfl ((Fz.le_trans l_26 (Fz.le_trans l_34 l_68)).mem _ _ hb21) rfl ?_
       refine .sub rfl rfl rfl ?_
       refine .fieldAddr rfl Try.underlying73 rfl Try.sizeOf31 rfl ?_
       refine .fieldAddr rfl Try.underlying31 rfl Try.sizeOf28 rfl ?_
       refine .bind (fun j78 hj79 => ?_)
       refine .indexAddrA rfl Try.underlying28 Try.sizeOf3 rfl rfl hj79 ?_
       refine .letv (fun x80 e81 => ?_)
       have h82 : RepSl 5 (Ex cApiParcel) F_67 p6 k7 x80.B.Moving := by rw [e81]; exact (h8.mono (Fz.le_trans l_15 (Fz.le_trans l_20 (Fz.le_trans l_26 (Fz.le_trans l_34 l_68)))))
       have h83 : RepSl 1 (Ex (cInt .i64)) F_67 p9 k10 x80.Ids := by rw [e81]; exact (h11.mono (Fz.le_trans l_15 (Fz.le_trans l_20 (Fz.le_trans l_26 (Fz.le_trans l_34 l_68)))))
       refine .store (cs' := (cWormtubref11State x80 p6 k7 p9 k10)) Try.sizeOf3 rfl rfl rfl rfl (i := 1) rfl (allLt16 (p := fun j78 => 0 + 0 + 0 + j78 * 1 + 1 ≤ 42) (by decide) (by decide) (by decide) (by decide) (by decide) (by decide) (by decide) (by decide) (by decide) (by decide) (by decide) (by decide) (by decide) (by decide) (by decide) (by decide) _ (idxO_some hj79).2.2.2) rfl (by rw [e81]; exact (allLt16 (p := fun j78 => setMany ((cWormtubref11State s5 p6 k7 p9 k10)) (0 + 0 + 0 + j78 * 1) [(.int .i64 (w64 (j32 - x12.Amount)))] = (cWormtubref11State ({ s5 with B := { s5.B with Bonds := updN s5.B.Bonds j78 (w64 (j32 - x12.Amount)) } }) p6 k7 p9 k10)) rfl rfl rfl rfl rfl rfl rfl rfl rfl rfl rfl rfl rfl rfl rfl rfl _ (idxO_some hj79).2.2.2)) ?_
       refine .nil ?_
       refine .code ?_
       refine .seq ?_
       refine .keep (.cons (k := 4) rfl (.cons (k := 5) rfl (.cons (k := 6) rfl (.nil _)))) ?_
       refine .bind (fun l_86 hx90 => ?_)
       refine .drawGD 7 1 (fun env84 => [((.slice (some ⟨env84.n 0, 0, none⟩) 0 0), fun G => env84.f 0 ≤ G), ((.pointer (some ⟨b17, 0 + 25, none⟩)), fun _ => True), ((.slice p9 x80.Ids.length k10), fun _ => True), ((.slice (env84.a 30) l_86.length (env84.n 30)), fun G => env84.f 30 ≤ G), ((.pointer (some ⟨b18, 0 + 4, none⟩)), fun _ => True), ((.int .i64 x12.Id), fun _ => True), ((.slice (some ⟨env84.n 60, 0, none⟩) ([x12.Id]).length 1), fun G => RepSl 1 (Ex (cInt .i64)) G (some ⟨env84.n 60, 0, none⟩) 1 ([x12.Id]))]) (fun L env84 => [pt b22 (.cells (cWormtubref11State (Wormtubref11State.mk (ApiDutyBook.mk (fun _ => 0) ([]) 0 0 0 0 0 0 0 0) ([]) (fun _ => 0)) none 0 none 0).toArray 73), pt b17 (.cells (cWormtubref11State x80 p6 k7 p9 k10).toArray 73), R, (bif L 3 then (ownSl 1 (Ex (cInt .i64)) (env84.f 30) 3 (env84.a 30) (env84.n 30) l_86) else (bif L 0 then (ownSl 1 (Ex (cInt .i64)) (env84.f 0) 3 (some ⟨env84.n 0, 0, none⟩) 0 ([])) else emp))]) mixedOK (by kernel_rfl) (deepN (k := 7) (n := 10) rfl (allLt10 (p := fun t => 7 ≤ t → ∀ j, j < t → ∃ s, depB _ s t j = true) (fun h => absurd h (by decide)) (fun h => absurd h (by decide)) (fun h => absurd h (by decide)) (fun h => absurd h (by decide)) (fun h => absurd h (by decide)) (fun h => absurd h (by decide)) (fun h => absurd h (by decide)) (fun _ => allLt7 (p := fun j => ∃ s, depB _ s 7 j = true) ⟨2, rfl⟩ ⟨3, rfl⟩ ⟨2, rfl⟩ ⟨1, rfl⟩ ⟨3, rfl⟩ ⟨2, rfl⟩ ⟨1, rfl⟩) (fun _ => allLt8 (p := fun j => ∃ s, depB _ s 8 j = true) ⟨1, rfl⟩ ⟨1, rfl⟩ ⟨1, rfl⟩ ⟨1, rfl⟩ ⟨1, rfl⟩ ⟨1, rfl⟩ ⟨1, rfl⟩ ⟨1, rfl⟩) (fun _ => allLt9 (p := fun j => ∃ s, depB _ s 9 j = true) ⟨1, rfl⟩ ⟨1, rfl⟩ ⟨1, rfl⟩ ⟨1, rfl⟩ ⟨1, rfl⟩ ⟨1, rfl⟩ ⟨1, rfl⟩ ⟨1, rfl⟩ ⟨1, rfl⟩))) rfl (fun _ => rfl) (by kernel_rfl) (fun _ => rfl) ?_ (fun env84 F_97 l_98 hphi => ?_)
       ·skip
        refine .cons (fun L env84 F_101 l_102 hL hdn hup hphi => ⟨[], fun S hS hV => (Sub.nil _), ?_⟩) ?_
        ·skip
         refine .sliceOwn0 (Ex (cInt .i64)) rfl Try.underlying41 Try.sizeOf3 (fun b103 => ?_)
         exact .finG ({ env84 with n := updN env84.n 0 b103, f := updN env84.f 0 F_101 }) [false, true, true, false, true, true, true] rfl (by kernel_rfl) rfl rfl (Fz.le_refl _) (fun _ le => le) (fun _ h => SH.placeC 3 (congrArg some ((condF (hup 1 3 rfl)).trans (condF hL))) ((condF (b := updB L 0 3) (hup 1 3 rfl)).trans (condT rfl)) h)
        refine .cons (fun L env84 F_104 l_105 hL hdn hup hphi => ⟨[(4, (.pointer (some ⟨b17, 0, none⟩)))], fun S hS hV => (.cons (hS _ _ rfl) (Sub.nil _)), ?_⟩) ?_
        ·skip
         refine .fieldAddr rfl Try.underlying73 rfl Try.sizeOf41 rfl ?_
         exact .finV rfl rfl (Fz.le_refl _)
        refine .cons (fun L env84 F_106 l_107 hL hdn hup hphi => ⟨[(95, (.pointer (some ⟨b17, 0 + 25, none⟩)))], fun S hS hV => (.cons (hV 1 95 _ (hdn 1 1 rfl) rfl rfl) (Sub.nil _)), ?_⟩) ?_
        ·skip
         refine .loadO rfl Try.isAgg41 rfl (i := 1) rfl rfl ?_
         exact .finV rfl rfl (Fz.le_refl _)
        refine .cons (fun L env84 F_108 l_109 hL hdn hup hphi => ⟨[(94, (.slice (some ⟨env84.n 0, 0, none⟩) 0 0)), (96, (.slice p9 x80.Ids.length k10))], fun S hS hV => (.cons (hV 0 94 _ (hdn 1 0 rfl) rfl rfl) (.cons (hV 2 96 _ (hdn 1 2 rfl) rfl rfl) (Sub.nil _))), ?_⟩) ?_
        ·skip
         have l_99 := hphi 0 _ (hdn 1 0 rfl) rfl _ (Fz.le_refl _)
         refine .appendK hx90 3 ok_t3 l_99 rfl Try.underlying41 Try.underlying41 rfl rfl (congrArg some ((condF hL).trans (condT (hdn 1 0 rfl)))) (h83.mono l_109) rfl rfl (fun p111 k112 => ?_)
         exact .finQ ({ env84 with a := updN env84.a 30 p111, n := updN env84.n 30 k112, f := updN env84.f 30 F_108 }) [true, true, true, false, true, true, true] rfl (by kernel_rfl) rfl rfl (Fz.le_refl _) (fun _ le => le) (cons_eq rfl (cons_eq rfl (cons_eq rfl (cons_eq (condT rfl) rfl))))
        refine .cons (fun L env84 F_114 l_115 hL hdn hup hphi => ⟨[(5, (.pointer (some ⟨b18, 0, none⟩)))], fun S hS hV => (.cons (hS _ _ rfl) (Sub.nil _)), ?_⟩) ?_
        ·skip
         refine .fieldAddr rfl Try.underlying47 rfl Try.sizeOf3 rfl ?_
         exact .finV rfl rfl (Fz.le_refl _)
        refine .cons (fun L env84 F_116 l_117 hL hdn hup hphi => ⟨[(98, (.pointer (some ⟨b18, 0 + 4, none⟩)))], fun S hS hV => (.cons (hV 4 98 _ (hdn 1 4 rfl) rfl rfl) (Sub.nil _)), ?_⟩) ?_
        ·skip
         refine .loadF rfl Try.isAgg3 rfl ((Fz.le_trans l_26 (Fz.le_trans l_34 (Fz.le_trans l_68 l_117))).mem _ _ hb21) rfl ?_
         exact .finV rfl rfl (Fz.le_refl _)
        refine .cons (fun L env84 F_118 l_119 hL hdn hup hphi => ⟨[(99, (.int .i64 x12.Id))], fun S hS hV => (.cons (hV 5 99 _ (hdn 1 5 rfl) rfl rfl) (Sub.nil _)), ?_⟩) ?_
        ·skip
         refine .sliceLit (cs := [.int .i64 x12.Id]) (zc := [.int .i64 0]) rfl Try.underlying41 Try.sizeOf3 Try.zeroValue3 rfl rfl rfl (by kernel_rfl) (by kernel_rfl) (fun b120 F_121 l_122 hb123 => ?_)
         have h124 : RepSl 1 (Ex (cInt .i64)) F_121 (some ⟨b120, 0, none⟩) 1 ([x12.Id]) := RepSl.ofRow hb123 (.cons ok_t3.mono rfl .nil) rfl rfl
         exact .finQ ({ env84 with a := env84.a, n := (updN env84.n 60 b120), c := env84.c, o := env84.o }) [true, true, true, true, true, true, false] rfl (by kernel_rfl) rfl rfl l_122 (fun _ le => h124.mono le) (cons_eq rfl (cons_eq rfl (cons_eq rfl (cons_eq rfl rfl))))
        exact .nil
       have l_99 := hphi 0 _ rfl
       have l_100 := hphi 3 _ rfl
       have h96 := hphi 6 _ rfl
       refine .norm (S' := [(4, (.pointer (some ⟨b17, 0, none⟩))), (5, (.pointer (some ⟨b18, 0, none⟩))), (6, (.pointer (some ⟨b22, 0, none⟩))), (94, (.slice (some ⟨env84.n 0, 0, none⟩) 0 0)), (95, (.pointer (some ⟨b17, 0 + 25, none⟩))), (96, (.slice p9 x80.Ids.length k10)), (97, (.slice (env84.a 30) l_86.length (env84.n 30))), (98, (.pointer (some ⟨b18, 0 + 4, none⟩))), (99, (.int .i64 x12.Id)), (100, (.slice (some ⟨env84.n 60, 0, none⟩) ([x12.Id]).length 1))]) (.cons (k := 4) rfl (.cons (k := 5) rfl (.cons (k := 6) rfl (.cons (k := 94) rfl (.cons (k := 95) rfl (.cons (k := 96) rfl (.cons (k := 97) rfl (.cons (k := 98) rfl (.cons (k := 99) rfl (.cons (k := 100) rfl (.nil _))))))))))) (rfl : _ = [pt b22 (.cells (cWormtubref11State (Wormtubref11State.mk (ApiDutyBook.mk (fun _ => 0) ([]) 0 0 0 0 0 0 0 0) ([]) (fun _ => 0)) none 0 none 0).toArray 73), pt b17 (.cells (cWormtubref11State x80 p6 k7 p9 k10).toArray 73), R, ownSl 1 (Ex (cInt .i64)) (env84.f 30) 3 (env84.a 30) (env84.n 30) l_86]) ?_
       refine .append 3 ok_t3 l_100 rfl Try.underlying41 Try.underlying41 rfl rfl rfl h96 rfl rfl (fun l_125 p126 k127 e128 => ?_)
       refine .fieldAddr rfl Try.underlying73 rfl Try.sizeOf41 rfl ?_
       refine .freezeSl 3 rfl (Fz.le_refl _) (fun F_129 l_130 h131 => ?_)
       refine .letv (fun x132 e133 => ?_)
       have h134 : RepSl 5 (Ex cApiParcel) F_129 p6 k7 x132.B.Moving := by rw [e133]; exact (h82.mono (Fz.le_trans l_98 l_130))
       have h135 : RepSl 1 (Ex (cInt .i64)) F_129 p126 k127 x132.Ids := by rw [e133]; exact h131
       refine .store (cs' := (cWormtubref11State x132 p6 k7 p126 k127)) Try.sizeOf41 rfl rfl rfl rfl (i := 1) rfl (Nat.le_of_ble_eq_true rfl) rfl (by rw [e133]; kernel_rfl) ?_
       refine .nil ?_
       refine .code ?_
       refine .seq ?_
       refine .region ?_
       refine .assign rfl rfl ?_
       refine .nil ?_
       refine .code ?_
       refine .seq ?_
       refine .block ?_
       refine .keep (.cons (k := 4) rfl (.cons (k := 5) rfl (.cons (k := 6) rfl (.cons (k := 10) rfl (.nil _))))) ?_
       refine .loop (fun (s136 : Int) a w => ∃ (F_137 : Fz), F_129 ≤ F_137 ∧ Hd 340 [] [(4, (.pointer (some ⟨b17, 0, none⟩))), (5, (.pointer (some ⟨b18, 0, none⟩))), (6, (.pointer (some ⟨b22, 0, none⟩))), (10, (.int .i64 s136))] F_137 [pt b22 (.cells (cWormtubref11State (Wormtubref11State.mk (ApiDutyBook.mk (fun _ => 0) ([]) 0 0 0 0 0 0 0 0) ([]) (fun _ => 0)) none 0 none 0).toArray 73), pt b17 (.cells (cWormtubref11State x132 p6 k7 p126 k127).toArray 73), R] a w) (fun b158 e a w => e = .exit 3 ∧ ∃ (F_159 : Fz), F_129 ≤ F_159 ∧ Hd 340 [] [(4, (.pointer (some ⟨b17, 0, none⟩))), (5, (.pointer (some ⟨b18, 0, none⟩))), (6, (.pointer (some ⟨b22, 0, none⟩))), (10, (.int .i64 b158))] F_159 [pt b22 (.cells (cWormtubref11State (Wormtubref11State.mk (ApiDutyBook.mk (fun _ => 0) ([]) 0 0 0 0 0 0 0 0) ([]) (fun _ => 0)) none 0 none 0).toArray 73), pt b17 (.cells (cWormtubref11State x132 p6 k7 p126 k127).toArray 73), R] a w) ?_ ?_ ?_
       ·exact fun a w h => ⟨F_129, (Fz.le_refl _), h.1.sub (.cons (k := 4) rfl (.cons (k := 5) rfl (.cons (k := 6) rfl (.cons (k := 10) rfl (.nil _))))), h.2⟩
       ·intro s136 ctl
        refine GC.ex (fun a w ⟨F_137, l_138, hA⟩ => ⟨_, hA, ?_⟩)
        unfold b_wormtubref11_do_2
        refine .seq ?_
        refine .seq ?_
        refine .keep (.cons (k := 4) rfl (.cons (k := 5) rfl (.cons (k := 6) rfl (.cons (k := 10) rfl (.nil _))))) ?_
        refine .drawZ 18 mixedOK (by kernel_rfl) ?_
        refine .move rfl rfl ?_
        refine .fieldAddr rfl Try.underlying73 rfl Try.sizeOf31 rfl ?_
        refine .fieldAddr rfl Try.underlying31 rfl Try.sizeOf29 rfl ?_
        refine .loadO rfl Try.isAgg29 rfl (i := 1) rfl rfl ?_
        refine .lenS rfl rfl Try.underlying29 rfl ?_
        refine .lss rfl rfl rfl ?_
        refine .move rfl rfl ?_
        refine .andM (b := (decide (s136 < (x132.B.Moving.length : Int)))) 11 120 (fun hb139 z154 => ?_) (fun hb150 => ?_) (fun z153 F_151 l_152 => ?_)
        ·skip
         refine .onH hb139 rfl rfl ?_
         refine .fieldAddr rfl Try.underlying73 rfl Try.sizeOf31 rfl ?_
         refine .onH hb139 rfl rfl ?_
         refine .fieldAddr rfl Try.underlying31 rfl Try.sizeOf29 rfl ?_
         refine .onH hb139 rfl rfl ?_
         refine .loadO rfl Try.isAgg29 rfl (i := 1) rfl rfl ?_
         refine .onH hb139 rfl rfl ?_
         refine .move rfl rfl ?_
         refine .onH hb139 rfl rfl ?_
         refine .idx rfl Try.underlying29 Try.sizeOf49 (h134.mono l_138) rfl rfl (fun x140 b141 o142 T143 fr144 cs145 e146 hm147 hv148 => ?_)
         refine .onH hb139 rfl rfl ?_
         refine .fieldAddr rfl Try.underlying49 rfl Try.sizeOf3 rfl ?_
         refine .onH hb139 rfl rfl ?_
         refine .loadF rfl Try.isAgg3 rfl hm147 (cell_of_take (k := 0) hv148 rfl) ?_
         refine .onH hb139 rfl rfl ?_
         refine .fieldAddr rfl Try.underlying47 rfl Try.sizeOf3 rfl ?_
         refine .onH hb139 rfl rfl ?_
         refine .loadF rfl Try.isAgg3 rfl ((Fz.le_trans l_26 (Fz.le_trans l_34 (Fz.le_trans l_68 (Fz.le_trans l_98 (Fz.le_trans l_130 l_138))))).mem _ _ hb21) rfl ?_
         refine .onH hb139 rfl rfl ?_
         refine .lss rfl rfl rfl ?_
         refine .pickTH hb139 rfl rfl rfl ?_
         exact .finZ 11 rfl rfl (by kernel_rfl) (Fz.le_refl _)
        ·skip
         refine .offH hb150 rfl rfl rfl ?_
         refine .offH hb150 rfl rfl rfl ?_
         refine .offH hb150 rfl rfl rfl ?_
         refine .offH hb150 rfl rfl rfl ?_
         refine .offH hb150 rfl rfl rfl ?_
         refine .offH hb150 rfl rfl rfl ?_
         refine .offH hb150 rfl rfl rfl ?_
         refine .offH hb150 rfl rfl rfl ?_
         refine .offH hb150 rfl rfl rfl ?_
         refine .offH hb150 rfl rfl rfl ?_
         refine .pickFH hb150 rfl rfl rfl ?_
         exact .fin 11 rfl rfl (by kernel_rfl) (Fz.le_refl _)
        refine .pend ?_
        refine .nil ?_
        refine .code ?_
        refine .cond rfl (fun hb155 => ?_) (fun hb155 => ?_)
        ·skip
         refine .skip ?_
         refine .code ?_
         refine .block ?_
         refine .region ?_
         refine .move rfl rfl ?_
         refine .add rfl rfl rfl ?_
         refine .assignL rfl rfl (fun n_156 e157 => ?_)
         refine .nil ?_
         refine .block ?_
         exact .nil (LPost.norm fun a w h => ⟨F_151, (Fz.le_trans l_138 l_152), h.1.sub (.cons (k := 4) rfl (.cons (k := 5) rfl (.cons (k := 6) rfl (.cons (k := 10) rfl (.nil _))))), h.2⟩)
        ·skip
         refine .exitOut rfl (LPost.exit fun a w h => ⟨rfl, F_151, (Fz.le_trans l_138 l_152), h.1.sub (.cons (k := 4) rfl (.cons (k := 5) rfl (.cons (k := 6) rfl (.cons (k := 10) rfl (.nil _))))), h.2⟩)
       ·intro b158 hb0 hk e a w hD
        obtain ⟨rfl, F_159, l_160, hA⟩ := hD
        refine interp_exit rfl (GE.app ?_ hk a w hA)
        refine .code ?_
        refine .seq ?_
        refine .region ?_
        refine .fieldAddr rfl Try.underlying47 rfl Try.sizeOf3 rfl ?_
        refine .loadF rfl Try.isAgg3 rfl ((Fz.le_trans l_26 (Fz.le_trans l_34 (Fz.le_trans l_68 (Fz.le_trans l_98 (Fz.le_trans l_130 l_160))))).mem _ _ hb21) rfl ?_
        refine .fieldAddr rfl Try.underlying47 rfl Try.sizeOf3 rfl ?_
        refine .loadF rfl Try.isAgg3 rfl ((Fz.le_trans l_26 (Fz.le_trans l_34 (Fz.le_trans l_68 (Fz.le_trans l_98 (Fz.le_trans l_130 l_160))))).mem _ _ hb21) rfl ?_
        refine .fieldAddr rfl Try.underlying47 rfl Try.sizeOf3 rfl ?_
        refine .loadF rfl Try.isAgg3 rfl ((Fz.le_trans l_26 (Fz.le_trans l_34 (Fz.le_trans l_68 (Fz.le_trans l_98 (Fz.le_trans l_130 l_160))))).mem _ _ hb21) rfl ?_
        refine .fieldAddr rfl Try.underlying47 rfl Try.sizeOf3 rfl ?_
        refine .loadF rfl Try.isAgg3 rfl ((Fz.le_trans l_26 (Fz.le_trans l_34 (Fz.le_trans l_68 (Fz.le_trans l_98 (Fz.le_trans l_130 l_160))))).mem _ _ hb21) rfl ?_
        refine .fieldAddr rfl Try.underlying47 rfl Try.sizeOf3 rfl ?_
        refine .loadF rfl Try.isAgg3 rfl ((Fz.le_trans l_26 (Fz.le_trans l_34 (Fz.le_trans l_68 (Fz.le_trans l_98 (Fz.le_trans l_130 l_160))))).mem _ _ hb21) rfl ?_
        refine .build (cs := (cApiParcel (ApiParcel.mk x12.Id x12.Bond x12.To x12.Day x12.Amount)).toArray) rfl Try.underlying49 Try.zeroValue49 (plApiParcel _ Try.underlying49) rfl rfl (by kernel_rfl) ?_
        refine .alloc (cs := (cApiParcel (ApiParcel.mk 0 0 0 0 0))) rfl Try.zeroValue49 rfl (fun b161 => ?_)
        refine .store (cs' := (cApiParcel (ApiParcel.mk x12.Id x12.Bond x12.To x12.Day x12.Amount))) Try.sizeOf49 rfl rfl rfl rfl (i := 0) rfl (Nat.le_of_ble_eq_true rfl) rfl (setMany_all (by rfl)) ?_
        refine .nil ?_
        refine .code ?_
        refine .seq ?_
        refine .keep (.cons (k := 4) rfl (.cons (k := 6) rfl (.cons (k := 10) rfl (.cons (k := 11) rfl (.nil _))))) ?_
        refine .bind (fun l_164 hx170 => ?_)
        refine .drawGD 7 1 (fun env162 => [((eApiParcel (ApiParcel.mk x12.Id x12.Bond x12.To x12.Day x12.Amount)), fun _ => True), ((.slice (some ⟨env162.n 10, 0, none⟩) ([(ApiParcel.mk x12.Id x12.Bond x12.To x12.Day x12.Amount)]).length 1), fun G => env162.f 10 ≤ G), ((.pointer (some ⟨b17, 0 + 0, none⟩)), fun _ => True), ((.pointer (some ⟨b17, 0 + 0 + 16, none⟩)), fun _ => True), ((.slice p6 x132.B.Moving.length k7), fun _ => True), ((.int .i64 b158), fun _ => True), ((.slice (env162.a 60) l_164.length (env162.n 60)), fun G => RepSl 5 (Ex cApiParcel) G (env162.a 60) (env162.n 60) l_164)]) (fun L env162 => [pt b161 (.cells (cApiParcel (ApiParcel.mk x12.Id x12.Bond x12.To x12.Day x12.Amount)).toArray 49), pt b22 (.cells (cWormtubref11State (Wormtubref11State.mk (ApiDutyBook.mk (fun _ => 0) ([]) 0 0 0 0 0 0 0 0) ([]) (fun _ => 0)) none 0 none 0).toArray 73), pt b17 (.cells (cWormtubref11State x132 p6 k7 p126 k127).toArray 73), R, (bif L 1 then (ownSl 5 (Ex cApiParcel) (env162.f 10) 49 (some ⟨env162.n 10, 0, none⟩) 1 ([(ApiParcel.mk x12.Id x12.Bond x12.To x12.Day x12.Amount)])) else emp)]) mixedOK (by kernel_rfl) (deepN (k := 7) (n := 9) rfl (allLt9 (p := fun t => 7 ≤ t → ∀ j, j < t → ∃ s, depB _ s t j = true) (fun h => absurd h (by decide)) (fun h => absurd h (by decide)) (fun h => absurd h (by decide)) (fun h => absurd h (by decide)) (fun h => absurd h (by decide)) (fun h => absurd h (by decide)) (fun h => absurd h (by decide)) (fun _ => allLt7 (p := fun j => ∃ s, depB _ s 7 j = true) ⟨2, rfl⟩ ⟨1, rfl⟩ ⟨4, rfl⟩ ⟨3, rfl⟩ ⟨2, rfl⟩ ⟨2, rfl⟩ ⟨1, rfl⟩) (fun _ => allLt8 (p := fun j => ∃ s, depB _ s 8 j = true) ⟨1, rfl⟩ ⟨1, rfl⟩ ⟨1, rfl⟩ ⟨1, rfl⟩ ⟨1, rfl⟩ ⟨1, rfl⟩ ⟨1, rfl⟩ ⟨1, rfl⟩))) rfl (fun _ => rfl) (by kernel_rfl) (fun _ => rfl) ?_ (fun env162 F_171 l_172 hphi => ?_)
        ·skip
         refine .cons (fun L env162 F_174 l_175 hL hdn hup hphi => ⟨[(11, (.pointer (some ⟨b161, 0, none⟩)))], fun S hS hV => (.cons (hS _ _ rfl) (Sub.nil _)), ?_⟩) ?_
         ·skip
          refine .loadOA rfl Try.isAgg49 Try.sizeOf49 rfl (i := 0) rfl (vs := (cApiParcel (ApiParcel.mk x12.Id x12.Bond x12.To x12.Day x12.Amount))) (by kernel_rfl) rfl ?_
          exact .finV rfl rfl (Fz.le_refl _)
         refine .cons (fun L env162 F_176 l_177 hL hdn hup hphi => ⟨[(134, (eApiParcel (ApiParcel.mk x12.Id x12.Bond x12.To x12.Day x12.Amount)))], fun S hS hV => (.cons (hV 0 134 _ (hdn 1 0 rfl) rfl rfl) (Sub.nil _)), ?_⟩) ?_
         ·skip
          refine .sliceOwn (cs := [.int .i64 (ApiParcel.mk x12.Id x12.Bond x12.To x12.Day x12.Amount).Id, .int .i64 (ApiParcel.mk x12.Id x12.Bond x12.To x12.Day x12.Amount).From, .int .i64 (ApiParcel.mk x12.Id x12.Bond x12.To x12.Day x12.Amount).To, .int .i64 (ApiParcel.mk x12.Id x12.Bond x12.To x12.Day x12.Amount).Sent, .int .i64 (ApiParcel.mk x12.Id x12.Bond x12.To x12.Day x12.Amount).Amount]) (zc := [.int .i64 (ApiParcel.mk 0 0 0 0 0).Id, .int .i64 (ApiParcel.mk 0 0 0 0 0).From, .int .i64 (ApiParcel.mk 0 0 0 0 0).To, .int .i64 (ApiParcel.mk 0 0 0 0 0).Sent, .int .i64 (ApiParcel.mk 0 0 0 0 0).Amount]) (c := (Ex cApiParcel)) [(ApiParcel.mk x12.Id x12.Bond x12.To x12.Day x12.Amount)] rfl Try.underlying29 Try.sizeOf49 Try.zeroValue49 rfl rfl rfl (by kernel_rfl) (by kernel_rfl) rfl rfl (.cons ok_t49.mono rfl .nil) (fun b178 => ?_)
          exact .finG ({ env162 with n := updN env162.n 10 b178, f := updN env162.f 10 F_176 }) [true, false, true, true, true, true, true] rfl (by kernel_rfl) rfl rfl (Fz.le_refl _) (fun _ le => le) (fun _ h => SH.placeC 4 (congrArg some (condF hL)) (condT rfl) h)
         refine .cons (fun L env162 F_179 l_180 hL hdn hup hphi => ⟨[(4, (.pointer (some ⟨b17, 0, none⟩)))], fun S hS hV => (.cons (hS _ _ rfl) (Sub.nil _)), ?_⟩) ?_
         ·skip
          refine .fieldAddr rfl Try.underlying73 rfl Try.sizeOf31 rfl ?_
          exact .finV rfl rfl (Fz.le_refl _)
         refine .cons (fun L env162 F_181 l_182 hL hdn hup hphi => ⟨[(136, (.pointer (some ⟨b17, 0 + 0, none⟩)))], fun S hS hV => (.cons (hV 2 136 _ (hdn 1 2 rfl) rfl rfl) (Sub.nil _)), ?_⟩) ?_
         ·skip
          refine .fieldAddr rfl Try.underlying31 rfl Try.sizeOf29 rfl ?_
          exact .finV rfl rfl (Fz.le_refl _)
         refine .cons (fun L env162 F_183 l_184 hL hdn hup hphi => ⟨[(137, (.pointer (some ⟨b17, 0 + 0 + 16, none⟩)))], fun S hS hV => (.cons (hV 3 137 _ (hdn 1 3 rfl) rfl rfl) (Sub.nil _)), ?_⟩) ?_
         ·skip
          refine .loadO rfl Try.isAgg29 rfl (i := 2) rfl rfl ?_
          exact .finV rfl rfl (Fz.le_refl _)
         refine .cons (fun L env162 F_185 l_186 hL hdn hup hphi => ⟨[(10, (.int .i64 b158))], fun S hS hV => (.cons (hS _ _ rfl) (Sub.nil _)), ?_⟩) ?_
         ·skip
          refine .move rfl rfl ?_
          exact .finV rfl rfl (Fz.le_refl _)
         refine .cons (fun L env162 F_187 l_188 hL hdn hup hphi => ⟨[(138, (.slice p6 x132.B.Moving.length k7)), (139, (.int .i64 b158))], fun S hS hV => (.cons (hV 4 138 _ (hdn 1 4 rfl) rfl rfl) (.cons (hV 5 139 _ (hdn 1 5 rfl) rfl rfl) (Sub.nil _))), ?_⟩) ?_
         ·skip
          refine .sliceLoK hx170 rfl Try.underlying29 Try.sizeOf49 (h134.mono (Fz.le_trans l_160 l_188)) rfl rfl (fun p190 k191 h193 => ?_)
          exact .finQ ({ env162 with a := (updN env162.a 60 p190), n := (updN env162.n 60 k191), c := env162.c, o := env162.o }) [true, true, true, true, true, true, false] rfl (by kernel_rfl) rfl rfl (Fz.le_refl _) (fun _ le => h193.mono le) (cons_eq rfl (cons_eq rfl (cons_eq rfl (cons_eq rfl (cons_eq rfl rfl)))))
         exact .nil
        have l_173 := hphi 1 _ rfl
        have h169 := hphi 6 _ rfl
        refine .norm (S' := [(4, (.pointer (some ⟨b17, 0, none⟩))), (6, (.pointer (some ⟨b22, 0, none⟩))), (10, (.int .i64 b158)), (11, (.pointer (some ⟨b161, 0, none⟩))), (134, (eApiParcel (ApiParcel.mk x12.Id x12.Bond x12.To x12.Day x12.Amount))), (135, (.slice (some ⟨env162.n 10, 0, none⟩) ([(ApiParcel.mk x12.Id x12.Bond x12.To x12.Day x12.Amount)]).length 1)), (136, (.pointer (some ⟨b17, 0 + 0, none⟩))), (137, (.pointer (some ⟨b17, 0 + 0 + 16, none⟩))), (138, (.slice p6 x132.B.Moving.length k7)), (139, (.int .i64 b158)), (140, (.slice (env162.a 60) l_164.length (env162.n 60)))]) (.cons (k := 4) rfl (.cons (k := 6) rfl (.cons (k := 10) rfl (.cons (k := 11) rfl (.cons (k := 134) rfl (.cons (k := 135) rfl (.cons (k := 136) rfl (.cons (k := 137) rfl (.cons (k := 138) rfl (.cons (k := 139) rfl (.cons (k := 140) rfl (.nil _)))))))))))) (rfl : _ = [pt b161 (.cells (cApiParcel (ApiParcel.mk x12.Id x12.Bond x12.To x12.Day x12.Amount)).toArray 49), pt b22 (.cells (cWormtubref11State (Wormtubref11State.mk (ApiDutyBook.mk (fun _ => 0) ([]) 0 0 0 0 0 0 0 0) ([]) (fun _ => 0)) none 0 none 0).toArray 73), pt b17 (.cells (cWormtubref11State x132 p6 k7 p126 k127).toArray 73), R, ownSl 5 (Ex cApiParcel) (env162.f 10) 49 (some ⟨env162.n 10, 0, none⟩) 1 ([(ApiParcel.mk x12.Id x12.Bond x12.To x12.Day x12.Amount)])]) ?_
        refine .append 4 ok_t49 l_173 rfl Try.underlying29 Try.underlying29 rfl rfl rfl h169 rfl rfl (fun l_194 p195 k196 e197 => ?_)
        refine .assign rfl rfl ?_
        refine .nil ?_
        refine .code ?_
        refine .region ?_
        refine .sliceOwn0 (Ex cApiParcel) rfl Try.underlying29 Try.sizeOf49 (fun b198 => ?_)
        refine .fieldAddr rfl Try.underlying73 rfl Try.sizeOf31 rfl ?_
        refine .fieldAddr rfl Try.underlying31 rfl Try.sizeOf29 rfl ?_
        refine .loadO rfl Try.isAgg29 rfl (i := 3) rfl rfl ?_
        refine .move rfl rfl ?_
        refine .sliceHi rfl Try.underlying29 Try.sizeOf49 (h134.mono (Fz.le_trans l_160 l_172)) rfl rfl (fun l_200 p201 k202 e203 h204 => ?_)
        refine .append 0 ok_t49 (Fz.le_refl _) rfl Try.underlying29 Try.underlying29 rfl rfl rfl h204 rfl rfl (fun l_205 p206 k207 e208 => ?_)
        refine .move rfl rfl ?_
        refine .freezeSl 5 rfl (Fz.le_refl _) (fun F_209 l_210 h211 => ?_)
        refine .append 0 ok_t49 l_210 rfl Try.underlying29 Try.underlying29 rfl rfl rfl h211 rfl rfl (fun l_212 p213 k214 e215 => ?_)
        refine .fieldAddr rfl Try.underlying73 rfl Try.sizeOf31 rfl ?_
        refine .fieldAddr rfl Try.underlying31 rfl Try.sizeOf29 rfl ?_
        refine .freezeSl 0 rfl (Fz.le_refl _) (fun F_216 l_217 h218 => ?_)
        refine .letv (fun x219 e220 => ?_)
        have h221 : RepSl 5 (Ex cApiParcel) F_216 p213 k214 x219.B.Moving := by rw [e220]; exact h218
        have h222 : RepSl 1 (Ex (cInt .i64)) F_216 p126 k127 x219.Ids := by rw [e220]; exact (h135.mono (Fz.le_trans l_160 (Fz.le_trans l_172 (Fz.le_trans l_210 l_217))))
        refine .store (cs' := (cWormtubref11State x219 p213 k214 p126 k127)) Try.sizeOf29 rfl rfl rfl rfl (i := 2) rfl (Nat.le_of_ble_eq_true rfl) rfl (by rw [e220]; kernel_rfl) ?_
        refine .nil ?_
        refine .block ?_
        refine .code ?_
        refine .seq ?_
        refine .region ?_
        refine .loadOA rfl Try.isAgg73 Try.sizeOf73 rfl (i := 2) rfl (vs := (cWormtubref11State x219 p213 k214 p126 k127)) (by kernel_rfl) rfl ?_
        refine .store (cs' := (cWormtubref11State x219 p213 k214 p126 k127)) Try.sizeOf73 rfl rfl rfl rfl (i := 1) rfl (Nat.le_of_ble_eq_true rfl) rfl (setMany_all (by rfl)) ?_
        refine .assign rfl rfl ?_
        refine .nil ?_
        refine .keep (.cons (k := 6) rfl (.cons (k := 7) rfl (.nil _))) ?_
        refine .code ?_
        exact .ret0 Try.results31 (.agg rfl Try.isAgg73 Try.sizeOf73 (i := 1) rfl (vs' := (cWormtubref11State x219 p213 k214 p126 k127)) (by kernel_rfl) rfl (.tmp rfl (.nil))) (i := 3) rfl (Fz.le_trans l_15 (Fz.le_trans l_20 (Fz.le_trans l_26 (Fz.le_trans l_34 (Fz.le_trans l_68 (Fz.le_trans l_98 (Fz.le_trans l_130 (Fz.le_trans l_160 (Fz.le_trans l_172 (Fz.le_trans l_210 l_217)))))))))) ⟨p213, k214, p126, k127, rfl, h221, h222⟩
     obtain ⟨rfl, F_69, p71, k72, p74, k75, l_70, h73, h76, hA⟩ := hD
     exact interp_ret ((ret_post0 Try.results31 (.agg rfl Try.isAgg73 Try.sizeOf73 (i := 0) rfl (vs' := (cWormtubref11State b66.1 p71 k72 p74 k75)) (by kernel_rfl) rfl (.tmp rfl (.nil))) (i := 1) rfl (Fz.le_trans l_15 (Fz.le_trans l_20 (Fz.le_trans l_26 (Fz.le_trans l_34 l_70)))) ⟨p71, k72, p74, k75, rfl, h73, h76⟩) hk a w hA)
  ·skip
   refine .seq ?_
   refine .region ?_
   refine .eql rfl rfl rfl ?_
   refine .assign rfl rfl ?_
   refine .nil ?_
   refine .code ?_
   refine .cond rfl (fun hb223 => ?_) (fun hb223 => ?_)
   ·skip
    refine .seq ?_
    refine .region ?_
    refine .loadOA rfl Try.isAgg73 Try.sizeOf73 rfl (i := 1) rfl (vs := (cWormtubref11State s5 p6 k7 p9 k10)) (by kernel_rfl) rfl ?_
    refine .fieldAddr rfl Try.underlying47 rfl Try.sizeOf3 rfl ?_
    refine .loadF rfl Try.isAgg3 rfl ((Fz.le_trans l_26 l_34).mem _ _ hb21) rfl ?_
    refine .call0 rfl Try.call49 rfl rfl rfl (c_wormtubref11_find _ s5 p6 k7 p9 k10 (h8.mono (Fz.le_trans l_15 (Fz.le_trans l_20 (Fz.le_trans l_26 l_34)))) (h11.mono (Fz.le_trans l_15 (Fz.le_trans l_20 (Fz.le_trans l_26 l_34)))) x12.Id) ?_
    rintro r_226 F_224 _ - l_225 rfl
    refine .assign rfl rfl ?_
    refine .nil ?_
    refine .code ?_
    refine .seq ?_
    refine .seq ?_
    refine .region ?_
    refine .move rfl rfl ?_
    refine .lss rfl rfl rfl ?_
    refine .nil ?_
    refine .code ?_
    refine .cond rfl (fun hb227 => ?_) (fun hb227 => ?_)
    ·skip
     refine .seq ?_
     refine .region ?_
     refine .loadOA rfl Try.isAgg73 Try.sizeOf73 rfl (i := 1) rfl (vs := (cWormtubref11State s5 p6 k7 p9 k10)) (by kernel_rfl) rfl ?_
     refine .store (cs' := (cWormtubref11State s5 p6 k7 p9 k10)) Try.sizeOf73 rfl rfl rfl rfl (i := 0) rfl (Nat.le_of_ble_eq_true rfl) rfl (setMany_all (by rfl)) ?_
     refine .assign rfl rfl ?_
     refine .nil ?_
     refine .code ?_
     exact .ret0 Try.results31 (.agg rfl Try.isAgg73 Try.sizeOf73 (i := 0) rfl (vs' := (cWormtubref11State s5 p6 k7 p9 k10)) (by kernel_rfl) rfl (.tmp rfl (.nil))) (i := 2) rfl (Fz.le_trans l_15 (Fz.le_trans l_20 (Fz.le_trans l_26 (Fz.le_trans l_34 l_225)))) ⟨p6, k7, p9, k10, rfl, (h8.mono (Fz.le_trans l_15 (Fz.le_trans l_20 (Fz.le_trans l_26 (Fz.le_trans l_34 l_225))))), (h11.mono (Fz.le_trans l_15 (Fz.le_trans l_20 (Fz.le_trans l_26 (Fz.le_trans l_34 l_225)))))⟩
    ·skip
     refine .skip ?_
     refine .code ?_
     refine .seq ?_
     refine .region ?_
     refine .fieldAddr rfl Try.underlying73 rfl Try.sizeOf31 rfl ?_
     refine .fieldAddr rfl Try.underlying31 rfl Try.sizeOf29 rfl ?_
     refine .loadO rfl Try.isAgg29 rfl (i := 1) rfl rfl ?_
     refine .move rfl rfl ?_
     refine .idx rfl Try.underlying29 Try.sizeOf49 (h8.mono (Fz.le_trans l_15 (Fz.le_trans l_20 (Fz.le_trans l_26 (Fz.le_trans l_34 l_225))))) rfl rfl (fun x228 b229 o230 T231 fr232 cs233 e234 hm235 hv236 => ?_)
     refine .loadFA rfl Try.isAgg49 Try.sizeOf49 rfl hm235 hv236 rfl ?_
     refine .alloc (cs := (cApiParcel (ApiParcel.mk 0 0 0 0 0))) rfl Try.zeroValue49 rfl (fun b238 => ?_)
     refine .store (cs' := (cApiParcel x228)) Try.sizeOf49 rfl rfl rfl rfl (i := 0) rfl (Nat.le_of_ble_eq_true rfl) rfl (setMany_all (by rfl)) ?_
     refine .nil ?_
     refine .keep (.cons (k := 3) rfl (.cons (k := 4) rfl (.cons (k := 5) rfl (.cons (k := 6) rfl (.cons (k := 8) rfl (.cons (k := 13) rfl (.cons (k := 14) rfl (.nil _)))))))) ?_
     refine .code ?_
     refine .seq ?_
     refine .seq ?_
     refine .region ?_
     refine .fieldAddr rfl Try.underlying49 rfl Try.sizeOf3 rfl ?_
     refine .loadO rfl Try.isAgg3 rfl (i := 0) rfl rfl ?_
     refine .fieldAddr rfl Try.underlying47 rfl Try.sizeOf3 rfl ?_
     refine .loadF rfl Try.isAgg3 rfl ((Fz.le_trans l_26 (Fz.le_trans l_34 l_225)).mem _ _ hb21) rfl ?_
     refine .neq rfl rfl rfl ?_
     refine .nil ?_
     refine .code ?_
     refine .cond rfl (fun hb239 => ?_) (fun hb239 => ?_)
     ·skip
      refine .seq ?_
      refine .region ?_
      refine .loadOA rfl Try.isAgg73 Try.sizeOf73 rfl (i := 2) rfl (vs := (cWormtubref11State s5 p6 k7 p9 k10)) (by kernel_rfl) rfl ?_
      refine .store (cs' := (cWormtubref11State s5 p6 k7 p9 k10)) Try.sizeOf73 rfl rfl rfl rfl (i := 1) rfl (Nat.le_of_ble_eq_true rfl) rfl (setMany_all (by rfl)) ?_
      refine .assign rfl rfl ?_
      refine .nil ?_
      refine .code ?_
      exact .ret0 Try.results31 (.agg rfl Try.isAgg73 Try.sizeOf73 (i := 1) rfl (vs' := (cWormtubref11State s5 p6 k7 p9 k10)) (by kernel_rfl) rfl (.tmp rfl (.nil))) (i := 3) rfl (Fz.le_trans l_15 (Fz.le_trans l_20 (Fz.le_trans l_26 (Fz.le_trans l_34 l_225)))) ⟨p6, k7, p9, k10, rfl, (h8.mono (Fz.le_trans l_15 (Fz.le_trans l_20 (Fz.le_trans l_26 (Fz.le_trans l_34 l_225))))), (h11.mono (Fz.le_trans l_15 (Fz.le_trans l_20 (Fz.le_trans l_26 (Fz.le_trans l_34 l_225)))))⟩
     ·skip
      refine .skip ?_
      refine .code ?_
      refine .seq ?_
      refine .seq ?_
      refine .region ?_
      refine .move rfl rfl ?_
      refine .fieldAddr rfl Try.underlying47 rfl Try.sizeOf3 rfl ?_
      refine .loadF rfl Try.isAgg3 rfl ((Fz.le_trans l_26 (Fz.le_trans l_34 l_225)).mem _ _ hb21) rfl ?_
      refine .add rfl rfl rfl ?_
      refine .gtr rfl rfl rfl ?_
      refine .nil ?_
      refine .code ?_
      refine .cond rfl (fun hb240 => ?_) (fun hb240 => ?_)
      ·skip
       refine .seq ?_
       refine .region ?_
       refine .loadOA rfl Try.isAgg73 Try.sizeOf73 rfl (i := 2) rfl (vs := (cWormtubref11State s5 p6 k7 p9 k10)) (by kernel_rfl) rfl ?_
       refine .store (cs' := (cWormtubref11State s5 p6 k7 p9 k10)) Try.sizeOf73 rfl rfl rfl rfl (i := 1) rfl (Nat.le_of_ble_eq_true rfl) rfl (setMany_all (by rfl)) ?_
       refine .assign rfl rfl ?_
       refine .nil ?_
       refine .code ?_
       exact .ret0 Try.results31 (.agg rfl Try.isAgg73 Try.sizeOf73 (i := 1) rfl (vs' := (cWormtubref11State s5 p6 k7 p9 k10)) (by kernel_rfl) rfl (.tmp rfl (.nil))) (i := 3) rfl (Fz.le_trans l_15 (Fz.le_trans l_20 (Fz.le_trans l_26 (Fz.le_trans l_34 l_225)))) ⟨p6, k7, p9, k10, rfl, (h8.mono (Fz.le_trans l_15 (Fz.le_trans l_20 (Fz.le_trans l_26 (Fz.le_trans l_34 l_225))))), (h11.mono (Fz.le_trans l_15 (Fz.le_trans l_20 (Fz.le_trans l_26 (Fz.le_trans l_34 l_225)))))⟩
      ·skip
       refine .skip ?_
       refine .code ?_
       refine .seq ?_
       refine .region ?_
       refine .fieldAddr rfl Try.underlying73 rfl Try.sizeOf31 rfl ?_
       refine .fieldAddr rfl Try.underlying31 rfl Try.sizeOf29 rfl ?_
       refine .loadO rfl Try.isAgg29 rfl (i := 2) rfl rfl ?_
       refine .move rfl rfl ?_
       refine .call0 rfl Try.call48 rfl rfl rfl (c_wormtubref11_without _ s5.B.Moving p6 k7 (h8.mono (Fz.le_trans l_15 (Fz.le_trans l_20 (Fz.le_trans l_26 (Fz.le_trans l_34 l_225))))) r_226) ?_
       rintro r_243 F_241 _ - l_242 ⟨p244, k245, rfl, h246⟩
       refine .fieldAddr rfl Try.underlying73 rfl Try.sizeOf31 rfl ?_
       refine .fieldAddr rfl Try.underlying31 rfl Try.sizeOf29 rfl ?_
       refine .letv (fun x247 e248 => ?_)
       have h249 : RepSl 5 (Ex cApiParcel) F_241 p244 k245 x247.B.Moving := by rw [e248]; exact h246
       have h250 : RepSl 1 (Ex (cInt .i64)) F_241 p9 k10 x247.Ids := by rw [e248]; exact (h11.mono (Fz.le_trans l_15 (Fz.le_trans l_20 (Fz.le_trans l_26 (Fz.le_trans l_34 (Fz.le_trans l_225 l_242))))))
       refine .store (cs' := (cWormtubref11State x247 p244 k245 p9 k10)) Try.sizeOf29 rfl rfl rfl rfl (i := 2) rfl (Nat.le_of_ble_eq_true rfl) rfl (by rw [e248]; kernel_rfl) ?_
       refine .nil ?_
       refine .code ?_
       refine .seq ?_
       refine .region ?_
       refine .fieldAddr rfl Try.underlying47 rfl Try.sizeOf3 rfl ?_
       refine .loadF rfl Try.isAgg3 rfl ((Fz.le_trans l_26 (Fz.le_trans l_34 (Fz.le_trans l_225 l_242))).mem _ _ hb21) rfl ?_
       refine .move rfl rfl ?_
       refine .fieldAddr rfl Try.underlying47 rfl Try.sizeOf3 rfl ?_
       refine .loadF rfl Try.isAgg3 rfl ((Fz.le_trans l_26 (Fz.le_trans l_34 (Fz.le_trans l_225 l_242))).mem _ _ hb21) rfl ?_
       refine .add rfl rfl rfl ?_
       refine .fieldAddr rfl Try.underlying73 rfl Try.sizeOf31 rfl ?_
       refine .fieldAddr rfl Try.underlying31 rfl Try.sizeOf28 rfl ?_
       refine .bind (fun j251 hj252 => ?_)
       refine .indexAddrA rfl Try.underlying28 Try.sizeOf3 rfl rfl hj252 ?_
       refine .letv (fun x253 e254 => ?_)
       have h255 : RepSl 5 (Ex cApiParcel) F_241 p244 k245 x253.B.Moving := by rw [e254]; exact h249
       have h256 : RepSl 1 (Ex (cInt .i64)) F_241 p9 k10 x253.Ids := by rw [e254]; exact h250
       refine .store (cs' := (cWormtubref11State x253 p244 k245 p9 k10)) Try.sizeOf3 rfl rfl rfl rfl (i := 2) rfl (allLt16 (p := fun j251 => 0 + 0 + 0 + j251 * 1 + 1 ≤ 42) (by decide) (by decide) (by decide) (by decide) (by decide) (by decide) (by decide) (by decide) (by decide) (by decide) (by decide) (by decide) (by decide) (by decide) (by decide) (by decide) _ (idxO_some hj252).2.2.2) rfl (by rw [e254]; exact (allLt16 (p := fun j251 => setMany ((cWormtubref11State x247 p244 k245 p9 k10)) (0 + 0 + 0 + j251 * 1) [(.int .i64 (w64 (j32 + x12.Amount)))] = (cWormtubref11State ({ x247 with B := { x247.B with Bonds := updN x247.B.Bonds j251 (w64 (j32 + x12.Amount)) } }) p244 k245 p9 k10)) rfl rfl rfl rfl rfl rfl rfl rfl rfl rfl rfl rfl rfl rfl rfl rfl _ (idxO_some hj252).2.2.2)) ?_
       refine .nil ?_
       refine .keep (.cons (k := 3) rfl (.cons (k := 4) rfl (.cons (k := 5) rfl (.cons (k := 6) rfl (.cons (k := 14) rfl (.nil _)))))) ?_
       refine .code ?_
       refine .seq ?_
       refine .region ?_
       refine .fieldAddr rfl Try.underlying73 rfl Try.sizeOf31 rfl ?_
       refine .fieldAddr rfl Try.underlying31 rfl Try.sizeOf3 rfl ?_
       refine .loadO rfl Try.isAgg3 rfl (i := 2) rfl rfl ?_
       refine .fieldAddr rfl Try.underlying47 rfl Try.sizeOf3 rfl ?_
       refine .loadF rfl Try.isAgg3 rfl ((Fz.le_trans l_26 (Fz.le_trans l_34 (Fz.le_trans l_225 l_242))).mem _ _ hb21) rfl ?_
       refine .fieldAddr rfl Try.underlying49 rfl Try.sizeOf3 rfl ?_
       refine .loadO rfl Try.isAgg3 rfl (i := 0) rfl rfl ?_
       refine .sub rfl rfl rfl ?_
       refine .max2 rfl rfl rfl ?_
       refine .add rfl rfl rfl ?_
       refine .fieldAddr rfl Try.underlying73 rfl Try.sizeOf31 rfl ?_
       refine .fieldAddr rfl Try.underlying31 rfl Try.sizeOf3 rfl ?_
       refine .letv (fun x257 e258 => ?_)
       have h259 : RepSl 5 (Ex cApiParcel) F_241 p244 k245 x257.B.Moving := by rw [e258]; exact h255
       have h260 : RepSl 1 (Ex (cInt .i64)) F_241 p9 k10 x257.Ids := by rw [e258]; exact h256
       refine .store (cs' := (cWormtubref11State x257 p244 k245 p9 k10)) Try.sizeOf3 rfl rfl rfl rfl (i := 2) rfl (Nat.le_of_ble_eq_true rfl) rfl (by rw [e258]; kernel_rfl) ?_
       refine .nil ?_
       refine .code ?_
       refine .region ?_
       refine .loadFA rfl Try.isAgg24 Try.sizeOf24 rfl ((Fz.le_trans l_20 (Fz.le_trans l_26 (Fz.le_trans l_34 (Fz.le_trans l_225 l_242)))).mem _ _ hb16) (vs := (cApiDutyRules r_1 p2 k3)) (by kernel_rfl) rfl ?_
       refine .loadOA rfl Try.isAgg73 Try.sizeOf73 rfl (i := 2) rfl (vs := (cWormtubref11State x257 p244 k245 p9 k10)) (by kernel_rfl) rfl ?_
       refine .fieldAddr rfl Try.underlying49 rfl Try.sizeOf3 rfl ?_
       refine .loadO rfl Try.isAgg3 rfl (i := 0) rfl rfl ?_
       refine .fieldAddr rfl Try.underlying47 rfl Try.sizeOf3 rfl ?_
       refine .loadF rfl Try.isAgg3 rfl ((Fz.le_trans l_26 (Fz.le_trans l_34 (Fz.le_trans l_225 l_242))).mem _ _ hb21) rfl ?_
       refine .sub rfl rfl rfl ?_
       refine .max2 rfl rfl rfl ?_
       refine .fieldAddr rfl Try.underlying49 rfl Try.sizeOf3 rfl ?_
       refine .loadO rfl Try.isAgg3 rfl (i := 0) rfl rfl ?_
       refine .fieldAddr rfl Try.underlying24 rfl Try.sizeOf3 rfl ?_
       refine .loadF rfl Try.isAgg3 rfl ((Fz.le_trans l_20 (Fz.le_trans l_26 (Fz.le_trans l_34 (Fz.le_trans l_225 l_242)))).mem _ _ hb16) rfl ?_
       refine .mul rfl rfl rfl ?_
       refine .quoC rfl (by decide) rfl rfl ?_
       refine .fieldAddr rfl Try.underlying47 rfl Try.sizeOf3 rfl ?_
       refine .loadF rfl Try.isAgg3 rfl ((Fz.le_trans l_26 (Fz.le_trans l_34 (Fz.le_trans l_225 l_242))).mem _ _ hb21) rfl ?_
       refine .call0 rfl Try.call50 rfl rfl rfl (c_wormtubref11_missing _ r_1 p2 k3 (h4.mono (Fz.le_trans l_15 (Fz.le_trans l_20 (Fz.le_trans l_26 (Fz.le_trans l_34 (Fz.le_trans l_225 l_242)))))) x257 p244 k245 p9 k10 h259 h260 (imax 0 (w64 (x228.Amount - x12.Amount))) (w64 (Int.tdiv (w64 (x228.Amount * r_1.Loss)) 10000)) x12.Day) ?_
       rintro r_263 F_261 _ - l_262 ⟨p264, k265, p267, k268, rfl, h266, h269⟩
       refine .store (cs' := (cWormtubref11State r_263 p264 k265 p267 k268)) Try.sizeOf73 rfl rfl rfl rfl (i := 2) rfl (Nat.le_of_ble_eq_true rfl) rfl (setMany_all (by rfl)) ?_
       refine .nil ?_
       refine .block ?_
       refine .keep (.cons (k := 4) rfl (.cons (k := 6) rfl (.nil _))) ?_
       refine .code ?_
       refine .seq ?_
       refine .region ?_
       refine .loadOA rfl Try.isAgg73 Try.sizeOf73 rfl (i := 2) rfl (vs := (cWormtubref11State r_263 p264 k265 p267 k268)) (by kernel_rfl) rfl ?_
       refine .store (cs' := (cWormtubref11State r_263 p264 k265 p267 k268)) Try.sizeOf73 rfl rfl rfl rfl (i := 1) rfl (Nat.le_of_ble_eq_true rfl) rfl (setMany_all (by rfl)) ?_
       refine .assign rfl rfl ?_
       refine .nil ?_
       refine .code ?_
       exact .ret0 Try.results31 (.agg rfl Try.isAgg73 Try.sizeOf73 (i := 1) rfl (vs' := (cWormtubref11State r_263 p264 k265 p267 k268)) (by kernel_rfl) rfl (.tmp rfl (.nil))) (i := 3) rfl (Fz.le_trans l_15 (Fz.le_trans l_20 (Fz.le_trans l_26 (Fz.le_trans l_34 (Fz.le_trans l_225 (Fz.le_trans l_242 l_262)))))) ⟨p264, k265, p267, k268, rfl, h266, h269⟩
   ·skip
    refine .seq ?_
    refine .seq ?_
    refine .region ?_
    refine .eql rfl rfl rfl ?_
    refine .assign rfl rfl ?_
    refine .nil ?_
    refine .code ?_
    refine .keep (.cons (k := 3) rfl (.cons (k := 4) rfl (.cons (k := 5) rfl (.cons (k := 6) rfl (.cons (k := 8) rfl (.cons (k := 30) rfl (.cons (k := 225) rfl (.nil _)))))))) ?_
    refine GC.join0 (σ := Bool) (fun j271 a w => ∃ (F_272 : Fz), F_33 ≤ F_272 ∧ Hd 340 [] [(3, (.pointer (some ⟨b13, 0, none⟩))), (4, (.pointer (some ⟨b17, 0, none⟩))), (5, (.pointer (some ⟨b18, 0, none⟩))), (6, (.pointer (some ⟨b22, 0, none⟩))), (8, (.int .i64 j32)), (30, (.int .i64 x12.Kind)), (225, (.bool j271))] F_272 [pt b22 (.cells (cWormtubref11State (Wormtubref11State.mk (ApiDutyBook.mk (fun _ => 0) ([]) 0 0 0 0 0 0 0 0) ([]) (fun _ => 0)) none 0 none 0).toArray 73), pt b17 (.cells (cWormtubref11State s5 p6 k7 p9 k10).toArray 73), R] a w) (fun sj => ?_) (fun j271 hs0 => GE.ex (fun a w ⟨F_272, l_273, hA⟩ => ⟨_, hA, ?_⟩))
    ·skip
     refine .cond rfl (fun hb270 => ?_) (fun hb270 => ?_)
     ·skip
      refine .skip ?_
      exact .nil fun e a w h => by cases e; exact ⟨rfl, ⟨F_33, (Fz.le_refl _), h.1.sub (.cons (k := 3) rfl (.cons (k := 4) rfl (.cons (k := 5) rfl (.cons (k := 6) rfl (.cons (k := 8) rfl (.cons (k := 30) rfl (.cons (k := 225) rfl (.nil _)))))))), h.2⟩⟩
     ·skip
      refine .region ?_
      refine .eql rfl rfl rfl ?_
      refine .assign rfl rfl ?_
      refine .nil ?_
      exact .nil fun e a w h => by cases e; exact ⟨rfl, ⟨F_33, (Fz.le_refl _), h.1.sub (.cons (k := 3) rfl (.cons (k := 4) rfl (.cons (k := 5) rfl (.cons (k := 6) rfl (.cons (k := 8) rfl (.cons (k := 30) rfl (.cons (k := 225) rfl (.nil _)))))))), h.2⟩⟩
    refine .code ?_
    refine .cond rfl (fun hb274 => ?_) (fun hb274 => ?_)
    ·skip
     refine .seq ?_
     refine .seq ?_
     refine .region ?_
     refine .move rfl rfl ?_
     refine .fieldAddr rfl Try.underlying47 rfl Try.sizeOf3 rfl ?_
     refine .loadF rfl Try.isAgg3 rfl ((Fz.le_trans l_26 (Fz.le_trans l_34 l_273)).mem _ _ hb21) rfl ?_
     refine .lss rfl rfl rfl ?_
     refine .nil ?_
     refine .code ?_
     refine .cond rfl (fun hb275 => ?_) (fun hb275 => ?_)
     ·skip
      refine .seq ?_
      refine .region ?_
      refine .loadOA rfl Try.isAgg73 Try.sizeOf73 rfl (i := 1) rfl (vs := (cWormtubref11State s5 p6 k7 p9 k10)) (by kernel_rfl) rfl ?_
      refine .store (cs' := (cWormtubref11State s5 p6 k7 p9 k10)) Try.sizeOf73 rfl rfl rfl rfl (i := 0) rfl (Nat.le_of_ble_eq_true rfl) rfl (setMany_all (by rfl)) ?_
      refine .assign rfl rfl ?_
      refine .nil ?_
      refine .code ?_
      exact .ret0 Try.results31 (.agg rfl Try.isAgg73 Try.sizeOf73 (i := 0) rfl (vs' := (cWormtubref11State s5 p6 k7 p9 k10)) (by kernel_rfl) rfl (.tmp rfl (.nil))) (i := 2) rfl (Fz.le_trans l_15 (Fz.le_trans l_20 (Fz.le_trans l_26 (Fz.le_trans l_34 l_273)))) ⟨p6, k7, p9, k10, rfl, (h8.mono (Fz.le_trans l_15 (Fz.le_trans l_20 (Fz.le_trans l_26 (Fz.le_trans l_34 l_273))))), (h11.mono (Fz.le_trans l_15 (Fz.le_trans l_20 (Fz.le_trans l_26 (Fz.le_trans l_34 l_273)))))⟩
     ·skip
      refine .skip ?_
      refine .code ?_
      refine .seq ?_
      refine .region ?_
      refine .fieldAddr rfl Try.underlying47 rfl Try.sizeOf3 rfl ?_
      refine .loadF rfl Try.isAgg3 rfl ((Fz.le_trans l_26 (Fz.le_trans l_34 l_273)).mem _ _ hb21) rfl ?_
      refine .move rfl rfl ?_
      refine .fieldAddr rfl Try.underlying47 rfl Try.sizeOf3 rfl ?_
      refine .loadF rfl Try.isAgg3 rfl ((Fz.le_trans l_26 (Fz.le_trans l_34 l_273)).mem _ _ hb21) rfl ?_
      refine .sub rfl rfl rfl ?_
      refine .fieldAddr rfl Try.underlying73 rfl Try.sizeOf31 rfl ?_
      refine .fieldAddr rfl Try.underlying31 rfl Try.sizeOf28 rfl ?_
      refine .bind (fun j276 hj277 => ?_)
      refine .indexAddrA rfl Try.underlying28 Try.sizeOf3 rfl rfl hj277 ?_
      refine .letv (fun x278 e279 => ?_)
      have h280 : RepSl 5 (Ex cApiParcel) F_272 p6 k7 x278.B.Moving := by rw [e279]; exact (h8.mono (Fz.le_trans l_15 (Fz.le_trans l_20 (Fz.le_trans l_26 (Fz.le_trans l_34 l_273)))))
      have h281 : RepSl 1 (Ex (cInt .i64)) F_272 p9 k10 x278.Ids := by rw [e279]; exact (h11.mono (Fz.le_trans l_15 (Fz.le_trans l_20 (Fz.le_trans l_26 (Fz.le_trans l_34 l_273)))))
      refine .store (cs' := (cWormtubref11State x278 p6 k7 p9 k10)) Try.sizeOf3 rfl rfl rfl rfl (i := 1) rfl (allLt16 (p := fun j276 => 0 + 0 + 0 + j276 * 1 + 1 ≤ 42) (by decide) (by decide) (by decide) (by decide) (by decide) (by decide) (by decide) (by decide) (by decide) (by decide) (by decide) (by decide) (by decide) (by decide) (by decide) (by decide) _ (idxO_some hj277).2.2.2) rfl (by rw [e279]; exact (allLt16 (p := fun j276 => setMany ((cWormtubref11State s5 p6 k7 p9 k10)) (0 + 0 + 0 + j276 * 1) [(.int .i64 (w64 (j32 - x12.Amount)))] = (cWormtubref11State ({ s5 with B := { s5.B with Bonds := updN s5.B.Bonds j276 (w64 (j32 - x12.Amount)) } }) p6 k7 p9 k10)) rfl rfl rfl rfl rfl rfl rfl rfl rfl rfl rfl rfl rfl rfl rfl rfl _ (idxO_some hj277).2.2.2)) ?_
      refine .nil ?_
      refine .code ?_
      refine .seq ?_
      refine .seq ?_
      refine .region ?_
      refine .fieldAddr rfl Try.underlying47 rfl Try.sizeOf3 rfl ?_
      refine .loadF rfl Try.isAgg3 rfl ((Fz.le_trans l_26 (Fz.le_trans l_34 l_273)).mem _ _ hb21) rfl ?_
      refine .eql rfl rfl rfl ?_
      refine .nil ?_
      refine .code ?_
      refine .cond rfl (fun hb282 => ?_) (fun hb282 => ?_)
      ·skip
       refine .seq ?_
       refine .region ?_
       refine .fieldAddr rfl Try.underlying73 rfl Try.sizeOf31 rfl ?_
       refine .fieldAddr rfl Try.underlying31 rfl Try.sizeOf3 rfl ?_
       refine .loadO rfl Try.isAgg3 rfl (i := 1) rfl rfl ?_
       refine .fieldAddr rfl Try.underlying47 rfl Try.sizeOf3 rfl ?_
       refine .loadF rfl Try.isAgg3 rfl ((Fz.le_trans l_26 (Fz.le_trans l_34 l_273)).mem _ _ hb21) rfl ?_
       refine .add rfl rfl rfl ?_
       refine .fieldAddr rfl Try.underlying73 rfl Try.sizeOf31 rfl ?_
       refine .fieldAddr rfl Try.underlying31 rfl Try.sizeOf3 rfl ?_
       refine .letv (fun x283 e284 => ?_)
       have h285 : RepSl 5 (Ex cApiParcel) F_272 p6 k7 x283.B.Moving := by rw [e284]; exact h280
       have h286 : RepSl 1 (Ex (cInt .i64)) F_272 p9 k10 x283.Ids := by rw [e284]; exact h281
       refine .store (cs' := (cWormtubref11State x283 p6 k7 p9 k10)) Try.sizeOf3 rfl rfl rfl rfl (i := 1) rfl (Nat.le_of_ble_eq_true rfl) rfl (by rw [e284]; kernel_rfl) ?_
       refine .nil ?_
       refine .keep (.cons (k := 4) rfl (.cons (k := 6) rfl (.nil _))) ?_
       refine .code ?_
       refine .seq ?_
       refine .region ?_
       refine .loadOA rfl Try.isAgg73 Try.sizeOf73 rfl (i := 1) rfl (vs := (cWormtubref11State x283 p6 k7 p9 k10)) (by kernel_rfl) rfl ?_
       refine .store (cs' := (cWormtubref11State x283 p6 k7 p9 k10)) Try.sizeOf73 rfl rfl rfl rfl (i := 0) rfl (Nat.le_of_ble_eq_true rfl) rfl (setMany_all (by rfl)) ?_
       refine .assign rfl rfl ?_
       refine .nil ?_
       refine .code ?_
       exact .ret0 Try.results31 (.agg rfl Try.isAgg73 Try.sizeOf73 (i := 0) rfl (vs' := (cWormtubref11State x283 p6 k7 p9 k10)) (by kernel_rfl) rfl (.tmp rfl (.nil))) (i := 2) rfl (Fz.le_trans l_15 (Fz.le_trans l_20 (Fz.le_trans l_26 (Fz.le_trans l_34 l_273)))) ⟨p6, k7, p9, k10, rfl, h285, h286⟩
      ·skip
       refine .skip ?_
       refine .code ?_
       refine .seq ?_
       refine .region ?_
       refine .fieldAddr rfl Try.underlying73 rfl Try.sizeOf31 rfl ?_
       refine .fieldAddr rfl Try.underlying31 rfl Try.sizeOf3 rfl ?_
       refine .loadO rfl Try.isAgg3 rfl (i := 1) rfl rfl ?_
       refine .fieldAddr rfl Try.underlying47 rfl Try.sizeOf3 rfl ?_
       refine .loadF rfl Try.isAgg3 rfl ((Fz.le_trans l_26 (Fz.le_trans l_34 l_273)).mem _ _ hb21) rfl ?_
       refine .add rfl rfl rfl ?_
       refine .fieldAddr rfl Try.underlying73 rfl Try.sizeOf31 rfl ?_
       refine .fieldAddr rfl Try.underlying31 rfl Try.sizeOf3 rfl ?_
       refine .letv (fun x287 e288 => ?_)
       have h289 : RepSl 5 (Ex cApiParcel) F_272 p6 k7 x287.B.Moving := by rw [e288]; exact h280
       have h290 : RepSl 1 (Ex (cInt .i64)) F_272 p9 k10 x287.Ids := by rw [e288]; exact h281
       refine .store (cs' := (cWormtubref11State x287 p6 k7 p9 k10)) Try.sizeOf3 rfl rfl rfl rfl (i := 1) rfl (Nat.le_of_ble_eq_true rfl) rfl (by rw [e288]; kernel_rfl) ?_
       refine .nil ?_
       refine .keep (.cons (k := 3) rfl (.cons (k := 4) rfl (.cons (k := 5) rfl (.cons (k := 6) rfl (.nil _))))) ?_
       refine .code ?_
       refine .keep (.cons (k := 3) rfl (.cons (k := 4) rfl (.cons (k := 5) rfl (.cons (k := 6) rfl (.nil _))))) ?_
       refine .bind (fun r_294 hx295 => ?_)
       refine .drawGD 9 0 (fun env291 => [((.pointer (some ⟨b17, 0 + 0, none⟩)), fun _ => True), ((.pointer (some ⟨b17, 0 + 0 + 23, none⟩)), fun _ => True), ((.int .i64 x287.B.Due), fun _ => True), ((eApiDutyRules r_1 p2 k3), fun _ => True), ((.pointer (some ⟨b18, 0 + 5, none⟩)), fun _ => True), ((.int .i64 x12.Amount), fun _ => True), ((.pointer (some ⟨b18, 0 + 1, none⟩)), fun _ => True), ((.int .i64 x12.Day), fun _ => True), ((.int .i64 r_294), fun _ => True)]) (fun L env291 => [pt b22 (.cells (cWormtubref11State (Wormtubref11State.mk (ApiDutyBook.mk (fun _ => 0) ([]) 0 0 0 0 0 0 0 0) ([]) (fun _ => 0)) none 0 none 0).toArray 73), pt b17 (.cells (cWormtubref11State x287 p6 k7 p9 k10).toArray 73), R]) mixedOK (by kernel_rfl) (deepN (k := 9) (n := 13) rfl (allLt13 (p := fun t => 9 ≤ t → ∀ j, j < t → ∃ s, depB _ s t j = true) (fun h => absurd h (by decide)) (fun h => absurd h (by decide)) (fun h => absurd h (by decide)) (fun h => absurd h (by decide)) (fun h => absurd h (by decide)) (fun h => absurd h (by decide)) (fun h => absurd h (by decide)) (fun h => absurd h (by decide)) (fun h => absurd h (by decide)) (fun _ => allLt9 (p := fun j => ∃ s, depB _ s 9 j = true) ⟨3, rfl⟩ ⟨2, rfl⟩ ⟨1, rfl⟩ ⟨2, rfl⟩ ⟨3, rfl⟩ ⟨2, rfl⟩ ⟨3, rfl⟩ ⟨2, rfl⟩ ⟨1, rfl⟩) (fun _ => allLt10 (p := fun j => ∃ s, depB _ s 10 j = true) ⟨1, rfl⟩ ⟨1, rfl⟩ ⟨1, rfl⟩ ⟨1, rfl⟩ ⟨1, rfl⟩ ⟨1, rfl⟩ ⟨1, rfl⟩ ⟨1, rfl⟩ ⟨1, rfl⟩ ⟨1, rfl⟩) (fun _ => allLt11 (p := fun j => ∃ s, depB _ s 11 j = true) ⟨1, rfl⟩ ⟨1, rfl⟩ ⟨1, rfl⟩ ⟨1, rfl⟩ ⟨1, rfl⟩ ⟨1, rfl⟩ ⟨1, rfl⟩ ⟨1, rfl⟩ ⟨1, rfl⟩ ⟨1, rfl⟩ ⟨1, rfl⟩) (fun _ => allLt12 (p := fun j => ∃ s, depB _ s 12 j = true) ⟨1, rfl⟩ ⟨1, rfl⟩ ⟨1, rfl⟩ ⟨1, rfl⟩ ⟨1, rfl⟩ ⟨1, rfl⟩ ⟨1, rfl⟩ ⟨1, rfl⟩ ⟨1, rfl⟩ ⟨1, rfl⟩ ⟨2, rfl⟩ ⟨1, rfl⟩))) rfl (fun _ => rfl) (by kernel_rfl) (fun _ => rfl) ?_ (fun env291 F_296 l_297 hphi => ?_)
       ·skip
        refine .cons (fun L env291 F_298 l_299 hL hdn hup hphi => ⟨[(4, (.pointer (some ⟨b17, 0, none⟩)))], fun S hS hV => (.cons (hS _ _ rfl) (Sub.nil _)), ?_⟩) ?_
        ·skip
         refine .fieldAddr rfl Try.underlying73 rfl Try.sizeOf31 rfl ?_
         exact .finV rfl rfl (Fz.le_refl _)
        refine .cons (fun L env291 F_300 l_301 hL hdn hup hphi => ⟨[(262, (.pointer (some ⟨b17, 0 + 0, none⟩)))], fun S hS hV => (.cons (hV 0 262 _ (hdn 1 0 rfl) rfl rfl) (Sub.nil _)), ?_⟩) ?_
        ·skip
         refine .fieldAddr rfl Try.underlying31 rfl Try.sizeOf3 rfl ?_
         exact .finV rfl rfl (Fz.le_refl _)
        refine .cons (fun L env291 F_302 l_303 hL hdn hup hphi => ⟨[(263, (.pointer (some ⟨b17, 0 + 0 + 23, none⟩)))], fun S hS hV => (.cons (hV 1 263 _ (hdn 1 1 rfl) rfl rfl) (Sub.nil _)), ?_⟩) ?_
        ·skip
         refine .loadO rfl Try.isAgg3 rfl (i := 1) rfl rfl ?_
         exact .finV rfl rfl (Fz.le_refl _)
        refine .cons (fun L env291 F_304 l_305 hL hdn hup hphi => ⟨[(3, (.pointer (some ⟨b13, 0, none⟩)))], fun S hS hV => (.cons (hS _ _ rfl) (Sub.nil _)), ?_⟩) ?_
        ·skip
         refine .loadFA rfl Try.isAgg24 Try.sizeOf24 rfl ((Fz.le_trans l_20 (Fz.le_trans l_26 (Fz.le_trans l_34 (Fz.le_trans l_273 l_305)))).mem _ _ hb16) (vs := (cApiDutyRules r_1 p2 k3)) (by kernel_rfl) rfl ?_
         exact .finV rfl rfl (Fz.le_refl _)
        refine .cons (fun L env291 F_306 l_307 hL hdn hup hphi => ⟨[(5, (.pointer (some ⟨b18, 0, none⟩)))], fun S hS hV => (.cons (hS _ _ rfl) (Sub.nil _)), ?_⟩) ?_
        ·skip
         refine .fieldAddr rfl Try.underlying47 rfl Try.sizeOf3 rfl ?_
         exact .finV rfl rfl (Fz.le_refl _)
        refine .cons (fun L env291 F_308 l_309 hL hdn hup hphi => ⟨[(266, (.pointer (some ⟨b18, 0 + 5, none⟩)))], fun S hS hV => (.cons (hV 4 266 _ (hdn 1 4 rfl) rfl rfl) (Sub.nil _)), ?_⟩) ?_
        ·skip
         refine .loadF rfl Try.isAgg3 rfl ((Fz.le_trans l_26 (Fz.le_trans l_34 (Fz.le_trans l_273 l_309))).mem _ _ hb21) rfl ?_
         exact .finV rfl rfl (Fz.le_refl _)
        refine .cons (fun L env291 F_310 l_311 hL hdn hup hphi => ⟨[(5, (.pointer (some ⟨b18, 0, none⟩)))], fun S hS hV => (.cons (hS _ _ rfl) (Sub.nil _)), ?_⟩) ?_
        ·skip
         refine .fieldAddr rfl Try.underlying47 rfl Try.sizeOf3 rfl ?_
         exact .finV rfl rfl (Fz.le_refl _)
        refine .cons (fun L env291 F_312 l_313 hL hdn hup hphi => ⟨[(268, (.pointer (some ⟨b18, 0 + 1, none⟩)))], fun S hS hV => (.cons (hV 6 268 _ (hdn 1 6 rfl) rfl rfl) (Sub.nil _)), ?_⟩) ?_
        ·skip
         refine .loadF rfl Try.isAgg3 rfl ((Fz.le_trans l_26 (Fz.le_trans l_34 (Fz.le_trans l_273 l_313))).mem _ _ hb21) rfl ?_
         exact .finV rfl rfl (Fz.le_refl _)
        refine .cons (fun L env291 F_314 l_315 hL hdn hup hphi => ⟨[(265, (eApiDutyRules r_1 p2 k3)), (267, (.int .i64 x12.Amount)), (269, (.int .i64 x12.Day))], fun S hS hV => (.cons (hV 3 265 _ (hdn 1 3 rfl) rfl rfl) (.cons (hV 5 267 _ (hdn 1 5 rfl) rfl rfl) (.cons (hV 7 269 _ (hdn 1 7 rfl) rfl rfl) (Sub.nil _)))), ?_⟩) ?_
        ·skip
         refine .callK hx295 rfl Try.call36 rfl rfl rfl (c_wormtubref11_duty _ r_1 p2 k3 (h4.mono (Fz.le_trans l_15 (Fz.le_trans l_20 (Fz.le_trans l_26 (Fz.le_trans l_34 (Fz.le_trans l_273 l_315)))))) x12.Amount x12.Day) ?_
         rintro F_316 _ l_317 rfl
         exact .finV rfl rfl l_317
        exact .nil
       refine .norm (S' := [(3, (.pointer (some ⟨b13, 0, none⟩))), (4, (.pointer (some ⟨b17, 0, none⟩))), (5, (.pointer (some ⟨b18, 0, none⟩))), (6, (.pointer (some ⟨b22, 0, none⟩))), (262, (.pointer (some ⟨b17, 0 + 0, none⟩))), (263, (.pointer (some ⟨b17, 0 + 0 + 23, none⟩))), (264, (.int .i64 x287.B.Due)), (265, (eApiDutyRules r_1 p2 k3)), (266, (.pointer (some ⟨b18, 0 + 5, none⟩))), (267, (.int .i64 x12.Amount)), (268, (.pointer (some ⟨b18, 0 + 1, none⟩))), (269, (.int .i64 x12.Day)), (270, (.int .i64 r_294))]) (.cons (k := 3) rfl (.cons (k := 4) rfl (.cons (k := 5) rfl (.cons (k := 6) rfl (.cons (k := 262) rfl (.cons (k := 263) rfl (.cons (k := 264) rfl (.cons (k := 265) rfl (.cons (k := 266) rfl (.cons (k := 267) rfl (.cons (k := 268) rfl (.cons (k := 269) rfl (.cons (k := 270) rfl (.nil _)))))))))))))) (rfl : _ = [pt b22 (.cells (cWormtubref11State (Wormtubref11State.mk (ApiDutyBook.mk (fun _ => 0) ([]) 0 0 0 0 0 0 0 0) ([]) (fun _ => 0)) none 0 none 0).toArray 73), pt b17 (.cells (cWormtubref11State x287 p6 k7 p9 k10).toArray 73), R]) ?_
       refine .add rfl rfl rfl ?_
       refine .fieldAddr rfl Try.underlying73 rfl Try.sizeOf31 rfl ?_
       refine .fieldAddr rfl Try.underlying31 rfl Try.sizeOf3 rfl ?_
       refine .letv (fun x318 e319 => ?_)
       have h320 : RepSl 5 (Ex cApiParcel) F_296 p6 k7 x318.B.Moving := by rw [e319]; exact (h289.mono l_297)
       have h321 : RepSl 1 (Ex (cInt .i64)) F_296 p9 k10 x318.Ids := by rw [e319]; exact (h290.mono l_297)
       refine .store (cs' := (cWormtubref11State x318 p6 k7 p9 k10)) Try.sizeOf3 rfl rfl rfl rfl (i := 1) rfl (Nat.le_of_ble_eq_true rfl) rfl (by rw [e319]; kernel_rfl) ?_
       refine .nil ?_
       refine .block ?_
       refine .code ?_
       refine .seq ?_
       refine .region ?_
       refine .loadOA rfl Try.isAgg73 Try.sizeOf73 rfl (i := 1) rfl (vs := (cWormtubref11State x318 p6 k7 p9 k10)) (by kernel_rfl) rfl ?_
       refine .store (cs' := (cWormtubref11State x318 p6 k7 p9 k10)) Try.sizeOf73 rfl rfl rfl rfl (i := 0) rfl (Nat.le_of_ble_eq_true rfl) rfl (setMany_all (by rfl)) ?_
       refine .assign rfl rfl ?_
       refine .nil ?_
       refine .code ?_
       exact .ret0 Try.results31 (.agg rfl Try.isAgg73 Try.sizeOf73 (i := 0) rfl (vs' := (cWormtubref11State x318 p6 k7 p9 k10)) (by kernel_rfl) rfl (.tmp rfl (.nil))) (i := 2) rfl (Fz.le_trans l_15 (Fz.le_trans l_20 (Fz.le_trans l_26 (Fz.le_trans l_34 (Fz.le_trans l_273 l_297))))) ⟨p6, k7, p9, k10, rfl, h320, h321⟩
    ·skip
     refine .seq ?_
     refine .region ?_
     refine .eql rfl rfl rfl ?_
     refine .assign rfl rfl ?_
     refine .nil ?_
     refine .code ?_
     refine .cond rfl (fun hb322 => ?_) (fun hb322 => ?_)
     ·skip
      refine .seq ?_
      refine .keep (.cons (k := 3) rfl (.cons (k := 4) rfl (.cons (k := 5) rfl (.cons (k := 6) rfl (.cons (k := 8) rfl (.nil _)))))) ?_
      refine .drawZ 10 mixedOK (by kernel_rfl) ?_
      refine .fieldAddr rfl Try.underlying47 rfl Try.sizeOf3 rfl ?_
      refine .loadF rfl Try.isAgg3 rfl ((Fz.le_trans l_26 (Fz.le_trans l_34 l_273)).mem _ _ hb21) rfl ?_
      refine .fieldAddr rfl Try.underlying73 rfl Try.sizeOf28 rfl ?_
      refine .bind (fun j323 hj324 => ?_)
      refine .indexAddrA rfl Try.underlying28 Try.sizeOf3 rfl rfl hj324 ?_
      refine .loadO rfl Try.isAgg3 rfl (i := 1) rfl (allLt16 (p := fun j323 => ((cWormtubref11State s5 p6 k7 p9 k10))[0 + 26 + j323 * 1]? = some (.int .i64 (s5.Sums j323))) rfl rfl rfl rfl rfl rfl rfl rfl rfl rfl rfl rfl rfl rfl rfl rfl _ (idxO_some hj324).2.2.2) ?_
      refine .fieldAddr rfl Try.underlying24 rfl Try.sizeOf3 rfl ?_
      refine .loadF rfl Try.isAgg3 rfl ((Fz.le_trans l_20 (Fz.le_trans l_26 (Fz.le_trans l_34 l_273))).mem _ _ hb16) rfl ?_
      refine .mul rfl rfl rfl ?_
      refine .quoC rfl (by decide) rfl rfl ?_
      refine .assignL rfl rfl (fun allowed325 e326 => ?_)
      refine .pend ?_
      refine .nil ?_
      refine .code ?_
      refine .seq ?_
      refine .region ?_
      refine .fieldAddr rfl Try.underlying47 rfl Try.sizeOf3 rfl ?_
      refine .loadF rfl Try.isAgg3 rfl ((Fz.le_trans l_26 (Fz.le_trans l_34 l_273)).mem _ _ hb21) rfl ?_
      refine .fieldAddr rfl Try.underlying73 rfl Try.sizeOf28 rfl ?_
      refine .bind (fun j327 hj328 => ?_)
      refine .indexAddrA rfl Try.underlying28 Try.sizeOf3 rfl rfl hj328 ?_
      refine .letv (fun x329 e330 => ?_)
      have h331 : RepSl 5 (Ex cApiParcel) F_272 p6 k7 x329.B.Moving := by rw [e330]; exact (h8.mono (Fz.le_trans l_15 (Fz.le_trans l_20 (Fz.le_trans l_26 (Fz.le_trans l_34 l_273)))))
      have h332 : RepSl 1 (Ex (cInt .i64)) F_272 p9 k10 x329.Ids := by rw [e330]; exact (h11.mono (Fz.le_trans l_15 (Fz.le_trans l_20 (Fz.le_trans l_26 (Fz.le_trans l_34 l_273)))))
      refine .store (cs' := (cWormtubref11State x329 p6 k7 p9 k10)) Try.sizeOf3 rfl rfl rfl rfl (i := 1) rfl (allLt16 (p := fun j327 => 0 + 26 + j327 * 1 + 1 ≤ 42) (by decide) (by decide) (by decide) (by decide) (by decide) (by decide) (by decide) (by decide) (by decide) (by decide) (by decide) (by decide) (by decide) (by decide) (by decide) (by decide) _ (idxO_some hj328).2.2.2) rfl (by rw [e330]; exact (allLt16 (p := fun j327 => setMany ((cWormtubref11State s5 p6 k7 p9 k10)) (0 + 26 + j327 * 1) [(.int .i64 0)] = (cWormtubref11State ({ s5 with Sums := updN s5.Sums j327 0 }) p6 k7 p9 k10)) rfl rfl rfl rfl rfl rfl rfl rfl rfl rfl rfl rfl rfl rfl rfl rfl _ (idxO_some hj328).2.2.2)) ?_
      refine .nil ?_
      refine .code ?_
      refine .seq ?_
      refine .region ?_
      refine .fieldAddr rfl Try.underlying47 rfl Try.sizeOf3 rfl ?_
      refine .loadF rfl Try.isAgg3 rfl ((Fz.le_trans l_26 (Fz.le_trans l_34 l_273)).mem _ _ hb21) rfl ?_
      refine .fieldAddr rfl Try.underlying47 rfl Try.sizeOf3 rfl ?_
      refine .loadF rfl Try.isAgg3 rfl ((Fz.le_trans l_26 (Fz.le_trans l_34 l_273)).mem _ _ hb21) rfl ?_
      refine .fieldAddr rfl Try.underlying73 rfl Try.sizeOf31 rfl ?_
      refine .fieldAddr rfl Try.underlying31 rfl Try.sizeOf28 rfl ?_
      refine .bind (fun j333 hj334 => ?_)
      refine .indexAddrA rfl Try.underlying28 Try.sizeOf3 rfl rfl hj334 ?_
      refine .letv (fun x335 e336 => ?_)
      have h337 : RepSl 5 (Ex cApiParcel) F_272 p6 k7 x335.B.Moving := by rw [e336]; exact h331
      have h338 : RepSl 1 (Ex (cInt .i64)) F_272 p9 k10 x335.Ids := by rw [e336]; exact h332
      refine .store (cs' := (cWormtubref11State x335 p6 k7 p9 k10)) Try.sizeOf3 rfl rfl rfl rfl (i := 1) rfl (allLt16 (p := fun j333 => 0 + 0 + 0 + j333 * 1 + 1 ≤ 42) (by decide) (by decide) (by decide) (by decide) (by decide) (by decide) (by decide) (by decide) (by decide) (by decide) (by decide) (by decide) (by decide) (by decide) (by decide) (by decide) _ (idxO_some hj334).2.2.2) rfl (by rw [e336]; exact (allLt16 (p := fun j333 => setMany ((cWormtubref11State x329 p6 k7 p9 k10)) (0 + 0 + 0 + j333 * 1) [(.int .i64 x12.Amount)] = (cWormtubref11State ({ x329 with B := { x329.B with Bonds := updN x329.B.Bonds j333 x12.Amount } }) p6 k7 p9 k10)) rfl rfl rfl rfl rfl rfl rfl rfl rfl rfl rfl rfl rfl rfl rfl rfl _ (idxO_some hj334).2.2.2)) ?_
      refine .nil ?_
      refine .keep (.cons (k := 3) rfl (.cons (k := 4) rfl (.cons (k := 5) rfl (.cons (k := 6) rfl (.cons (k := 8) rfl (.cons (k := 15) rfl (.nil _))))))) ?_
      refine .code ?_
      refine .seq ?_
      refine .region ?_
      refine .fieldAddr rfl Try.underlying73 rfl Try.sizeOf31 rfl ?_
      refine .fieldAddr rfl Try.underlying31 rfl Try.sizeOf3 rfl ?_
      refine .loadO rfl Try.isAgg3 rfl (i := 1) rfl rfl ?_
      refine .fieldAddr rfl Try.underlying47 rfl Try.sizeOf3 rfl ?_
      refine .loadF rfl Try.isAgg3 rfl ((Fz.le_trans l_26 (Fz.le_trans l_34 l_273)).mem _ _ hb21) rfl ?_
      refine .move rfl rfl ?_
      refine .sub rfl rfl rfl ?_
      refine .max2 rfl rfl rfl ?_
      refine .add rfl rfl rfl ?_
      refine .fieldAddr rfl Try.underlying73 rfl Try.sizeOf31 rfl ?_
      refine .fieldAddr rfl Try.underlying31 rfl Try.sizeOf3 rfl ?_
      refine .letv (fun x339 e340 => ?_)
      have h341 : RepSl 5 (Ex cApiParcel) F_272 p6 k7 x339.B.Moving := by rw [e340]; exact h337
      have h342 : RepSl 1 (Ex (cInt .i64)) F_272 p9 k10 x339.Ids := by rw [e340]; exact h338
      refine .store (cs' := (cWormtubref11State x339 p6 k7 p9 k10)) Try.sizeOf3 rfl rfl rfl rfl (i := 1) rfl (Nat.le_of_ble_eq_true rfl) rfl (by rw [e340]; kernel_rfl) ?_
      refine .nil ?_
      refine .code ?_
      refine .region ?_
      refine .loadFA rfl Try.isAgg24 Try.sizeOf24 rfl ((Fz.le_trans l_20 (Fz.le_trans l_26 (Fz.le_trans l_34 l_273))).mem _ _ hb16) (vs := (cApiDutyRules r_1 p2 k3)) (by kernel_rfl) rfl ?_
      refine .loadOA rfl Try.isAgg73 Try.sizeOf73 rfl (i := 1) rfl (vs := (cWormtubref11State x339 p6 k7 p9 k10)) (by kernel_rfl) rfl ?_
      refine .move rfl rfl ?_
      refine .fieldAddr rfl Try.underlying47 rfl Try.sizeOf3 rfl ?_
      refine .loadF rfl Try.isAgg3 rfl ((Fz.le_trans l_26 (Fz.le_trans l_34 l_273)).mem _ _ hb21) rfl ?_
      refine .sub rfl rfl rfl ?_
      refine .max2 rfl rfl rfl ?_
      refine .move rfl rfl ?_
      refine .fieldAddr rfl Try.underlying47 rfl Try.sizeOf3 rfl ?_
      refine .loadF rfl Try.isAgg3 rfl ((Fz.le_trans l_26 (Fz.le_trans l_34 l_273)).mem _ _ hb21) rfl ?_
      refine .call0 rfl Try.call50 rfl rfl rfl (c_wormtubref11_missing _ r_1 p2 k3 (h4.mono (Fz.le_trans l_15 (Fz.le_trans l_20 (Fz.le_trans l_26 (Fz.le_trans l_34 l_273))))) x339 p6 k7 p9 k10 h341 h342 (imax 0 (w64 (j32 - x12.Amount))) allowed325 x12.Day) ?_
      rintro r_345 F_343 _ - l_344 ⟨p346, k347, p349, k350, rfl, h348, h351⟩
      refine .store (cs' := (cWormtubref11State r_345 p346 k347 p349 k350)) Try.sizeOf73 rfl rfl rfl rfl (i := 1) rfl (Nat.le_of_ble_eq_true rfl) rfl (setMany_all (by rfl)) ?_
      refine .nil ?_
      refine .block ?_
      refine .keep (.cons (k := 4) rfl (.cons (k := 6) rfl (.nil _))) ?_
      refine .code ?_
      refine .seq ?_
      refine .region ?_
      refine .loadOA rfl Try.isAgg73 Try.sizeOf73 rfl (i := 1) rfl (vs := (cWormtubref11State r_345 p346 k347 p349 k350)) (by kernel_rfl) rfl ?_
      refine .store (cs' := (cWormtubref11State r_345 p346 k347 p349 k350)) Try.sizeOf73 rfl rfl rfl rfl (i := 0) rfl (Nat.le_of_ble_eq_true rfl) rfl (setMany_all (by rfl)) ?_
      refine .assign rfl rfl ?_
      refine .nil ?_
      refine .code ?_
      exact .ret0 Try.results31 (.agg rfl Try.isAgg73 Try.sizeOf73 (i := 0) rfl (vs' := (cWormtubref11State r_345 p346 k347 p349 k350)) (by kernel_rfl) rfl (.tmp rfl (.nil))) (i := 2) rfl (Fz.le_trans l_15 (Fz.le_trans l_20 (Fz.le_trans l_26 (Fz.le_trans l_34 (Fz.le_trans l_273 l_344))))) ⟨p346, k347, p349, k350, rfl, h348, h351⟩
     ·skip
      refine .seq ?_
      refine .region ?_
      refine .eql rfl rfl rfl ?_
      refine .assign rfl rfl ?_
      refine .nil ?_
      refine .code ?_
      refine .cond rfl (fun hb352 => ?_) (fun hb352 => ?_)
      ·skip
       refine .seq ?_
       refine .seq ?_
       refine .region ?_
       refine .fieldAddr rfl Try.underlying47 rfl Try.sizeOf3 rfl ?_
       refine .loadF rfl Try.isAgg3 rfl ((Fz.le_trans l_26 (Fz.le_trans l_34 l_273)).mem _ _ hb21) rfl ?_
       refine .fieldAddr rfl Try.underlying73 rfl Try.sizeOf31 rfl ?_
       refine .fieldAddr rfl Try.underlying31 rfl Try.sizeOf3 rfl ?_
       refine .loadO rfl Try.isAgg3 rfl (i := 1) rfl rfl ?_
       refine .fieldAddr rfl Try.underlying73 rfl Try.sizeOf31 rfl ?_
       refine .fieldAddr rfl Try.underlying31 rfl Try.sizeOf3 rfl ?_
       refine .loadO rfl Try.isAgg3 rfl (i := 1) rfl rfl ?_
       refine .sub rfl rfl rfl ?_
       refine .gtr rfl rfl rfl ?_
       refine .nil ?_
       refine .code ?_
       refine .cond rfl (fun hb353 => ?_) (fun hb353 => ?_)
       ·skip
        refine .seq ?_
        refine .region ?_
        refine .loadOA rfl Try.isAgg73 Try.sizeOf73 rfl (i := 1) rfl (vs := (cWormtubref11State s5 p6 k7 p9 k10)) (by kernel_rfl) rfl ?_
        refine .store (cs' := (cWormtubref11State s5 p6 k7 p9 k10)) Try.sizeOf73 rfl rfl rfl rfl (i := 0) rfl (Nat.le_of_ble_eq_true rfl) rfl (setMany_all (by rfl)) ?_
        refine .assign rfl rfl ?_
        refine .nil ?_
        refine .code ?_
        exact .ret0 Try.results31 (.agg rfl Try.isAgg73 Try.sizeOf73 (i := 0) rfl (vs' := (cWormtubref11State s5 p6 k7 p9 k10)) (by kernel_rfl) rfl (.tmp rfl (.nil))) (i := 2) rfl (Fz.le_trans l_15 (Fz.le_trans l_20 (Fz.le_trans l_26 (Fz.le_trans l_34 l_273)))) ⟨p6, k7, p9, k10, rfl, (h8.mono (Fz.le_trans l_15 (Fz.le_trans l_20 (Fz.le_trans l_26 (Fz.le_trans l_34 l_273))))), (h11.mono (Fz.le_trans l_15 (Fz.le_trans l_20 (Fz.le_trans l_26 (Fz.le_trans l_34 l_273)))))⟩
       ·skip
        refine .skip ?_
        refine .code ?_
        refine .region ?_
        refine .fieldAddr rfl Try.underlying73 rfl Try.sizeOf31 rfl ?_
        refine .fieldAddr rfl Try.underlying31 rfl Try.sizeOf3 rfl ?_
        refine .loadO rfl Try.isAgg3 rfl (i := 1) rfl rfl ?_
        refine .fieldAddr rfl Try.underlying47 rfl Try.sizeOf3 rfl ?_
        refine .loadF rfl Try.isAgg3 rfl ((Fz.le_trans l_26 (Fz.le_trans l_34 l_273)).mem _ _ hb21) rfl ?_
        refine .add rfl rfl rfl ?_
        refine .fieldAddr rfl Try.underlying73 rfl Try.sizeOf31 rfl ?_
        refine .fieldAddr rfl Try.underlying31 rfl Try.sizeOf3 rfl ?_
        refine .letv (fun x354 e355 => ?_)
        have h356 : RepSl 5 (Ex cApiParcel) F_272 p6 k7 x354.B.Moving := by rw [e355]; exact (h8.mono (Fz.le_trans l_15 (Fz.le_trans l_20 (Fz.le_trans l_26 (Fz.le_trans l_34 l_273)))))
        have h357 : RepSl 1 (Ex (cInt .i64)) F_272 p9 k10 x354.Ids := by rw [e355]; exact (h11.mono (Fz.le_trans l_15 (Fz.le_trans l_20 (Fz.le_trans l_26 (Fz.le_trans l_34 l_273)))))
        refine .store (cs' := (cWormtubref11State x354 p6 k7 p9 k10)) Try.sizeOf3 rfl rfl rfl rfl (i := 1) rfl (Nat.le_of_ble_eq_true rfl) rfl (by rw [e355]; kernel_rfl) ?_
        refine .nil ?_
        refine .block ?_
        refine .keep (.cons (k := 4) rfl (.cons (k := 6) rfl (.nil _))) ?_
        refine .code ?_
        refine .seq ?_
        refine .region ?_
        refine .loadOA rfl Try.isAgg73 Try.sizeOf73 rfl (i := 1) rfl (vs := (cWormtubref11State x354 p6 k7 p9 k10)) (by kernel_rfl) rfl ?_
        refine .store (cs' := (cWormtubref11State x354 p6 k7 p9 k10)) Try.sizeOf73 rfl rfl rfl rfl (i := 0) rfl (Nat.le_of_ble_eq_true rfl) rfl (setMany_all (by rfl)) ?_
        refine .assign rfl rfl ?_
        refine .nil ?_
        refine .code ?_
        exact .ret0 Try.results31 (.agg rfl Try.isAgg73 Try.sizeOf73 (i := 0) rfl (vs' := (cWormtubref11State x354 p6 k7 p9 k10)) (by kernel_rfl) rfl (.tmp rfl (.nil))) (i := 2) rfl (Fz.le_trans l_15 (Fz.le_trans l_20 (Fz.le_trans l_26 (Fz.le_trans l_34 l_273)))) ⟨p6, k7, p9, k10, rfl, h356, h357⟩
      ·skip
       refine .skip ?_
       refine .block ?_
       refine .code ?_
       refine .seq ?_
       refine .region ?_
       refine .loadOA rfl Try.isAgg73 Try.sizeOf73 rfl (i := 1) rfl (vs := (cWormtubref11State s5 p6 k7 p9 k10)) (by kernel_rfl) rfl ?_
       refine .store (cs' := (cWormtubref11State s5 p6 k7 p9 k10)) Try.sizeOf73 rfl rfl rfl rfl (i := 0) rfl (Nat.le_of_ble_eq_true rfl) rfl (setMany_all (by rfl)) ?_
       refine .assign rfl rfl ?_
       refine .nil ?_
       refine .code ?_
       exact .ret0 Try.results31 (.agg rfl Try.isAgg73 Try.sizeOf73 (i := 0) rfl (vs' := (cWormtubref11State s5 p6 k7 p9 k10)) (by kernel_rfl) rfl (.tmp rfl (.nil))) (i := 2) rfl (Fz.le_trans l_15 (Fz.le_trans l_20 (Fz.le_trans l_26 (Fz.le_trans l_34 l_273)))) ⟨p6, k7, p9, k10, rfl, (h8.mono (Fz.le_trans l_15 (Fz.le_trans l_20 (Fz.le_trans l_26 (Fz.le_trans l_34 l_273))))), (h11.mono (Fz.le_trans l_15 (Fz.le_trans l_20 (Fz.le_trans l_26 (Fz.le_trans l_34 l_273)))))⟩
noncomputable def b_wormtubref11_Play_2 (r_1 : ApiDutyRules) (x50 : ApiDutyEvent) (s66 : Int × Wormtubref11State) : Option (Ctl (Int × Wormtubref11State) ((Int × Wormtubref11State))) :=
 if (decide (s66.1 < x50.Day)) then (bindv (w64 (s66.1 + 1)) fun today76 => (m_wormtubref11_night r_1 s66.2 today76).bind fun r_80 => some (.next (today76, r_80))) else (some (.done (s66.1, s66.2)))
noncomputable def b_wormtubref11_Play_1 (r_1 : ApiDutyRules) (l_5 : (List ApiDutyEvent)) (day9 : Int) (s24 : Int × Int × Wormtubref11State) : Option (Ctl (Int × Int × Wormtubref11State) ((Int × Int × Wormtubref11State) ⊕ (ApiDutyBook × Int × Int))) :=
 (if (decide (s24.2.1 < (l_5.length : Int))) then ((idxL l_5 s24.2.1).bind fun x34 => some (decide (x34.Day ≤ day9))) else some false).bind fun z47 => if z47 then ((idxL l_5 s24.2.1).bind fun x50 => (m_wormtubref11_Event x50).bind fun r_63 => if (!r_63) then (some (.done (.inr ((ApiDutyBook.mk (fun _ => 0) ([]) 0 0 0 0 0 0 0 0), s24.2.1, 1)))) else (if (decide (x50.Day < s24.1)) then (some (.done (.inr ((ApiDutyBook.mk (fun _ => 0) ([]) 0 0 0 0 0 0 0 0), s24.2.1, 7)))) else ((loopM (b_wormtubref11_Play_2 r_1 x50) (s24.1, s24.2.2)).bind fun b87 => (m_wormtubref11_do r_1 b87.2 x50).bind fun r_98 => if (r_98.2 != 0) then (some (.done (.inr ((ApiDutyBook.mk (fun _ => 0) ([]) 0 0 0 0 0 0 0 0), s24.2.1, r_98.2)))) else (bindv (w64 (s24.2.1 + 1)) fun n_107 => some (.next (b87.1, n_107, r_98.1)))))) else (some (.done (.inl (s24.1, s24.2.1, s24.2.2))))
noncomputable def b_wormtubref11_Play_3 (r_1 : ApiDutyRules) (day9 : Int) (s123 : Int × Wormtubref11State) : Option (Ctl (Int × Wormtubref11State) ((Wormtubref11State))) :=
 if (decide (s123.1 < day9)) then (bindv (w64 (s123.1 + 1)) fun today133 => (m_wormtubref11_night r_1 s123.2 today133).bind fun r_137 => some (.next (today133, r_137))) else (some (.done s123.2))
noncomputable def m_wormtubref11_Play (r_1 : ApiDutyRules) (l_5 : (List ApiDutyEvent)) (day9 : Int) : Option (ApiDutyBook × Int × Int) :=
 (m_wormtubref11_Rules r_1).bind fun r_17 => if (!r_17) then (some ((ApiDutyBook.mk (fun _ => 0) ([]) 0 0 0 0 0 0 0 0), 0, 1)) else (if (decide ((l_5.length : Int) > 4096)) then (some ((ApiDutyBook.mk (fun _ => 0) ([]) 0 0 0 0 0 0 0 0), 0, 3)) else (if (!(m_wormtubref11_in day9 0 65536)) then (some ((ApiDutyBook.mk (fun _ => 0) ([]) 0 0 0 0 0 0 0 0), 0, 2)) else ((loopM (b_wormtubref11_Play_1 r_1 l_5 day9) (0, 0, (Wormtubref11State.mk (ApiDutyBook.mk (fun _ => 0) ([]) 0 0 0 0 0 0 0 0) ([]) (fun _ => 0)))).bind fun b0 => match b0 with | .inl b109 => ((loopM (b_wormtubref11_Play_3 r_1 day9) (b109.1, b109.2.2)).bind fun b144 => some (b144.B, b109.2.1, 0)) | .inr b109 => (some (b109.1, b109.2.1, b109.2.2)))))
theorem c_wormtubref11_Play (F0 : Fz) (r_1 : ApiDutyRules) (p2 : Option Addr) (k3 : Nat) (h4 : RepSl 2 (Ex cApiDutyRate) F0 p2 k3 r_1.Rates) (l_5 : (List ApiDutyEvent)) (p6 : Option Addr) (k7 : Nat) (h8 : RepSl 6 (Ex cApiDutyEvent) F0 p6 k7 l_5) (day9 : Int) : CT0 Try.prog 14 [(eApiDutyRules r_1 p2 k3), (.slice p6 l_5.length k7), (.int .i64 day9)].toArray F0 (m_wormtubref11_Play r_1 l_5 day9) (fun r F v => ∃ (p0 : Option Addr) (k0 : Nat), v = .tuple #[(eApiDutyBook r.1 p0 k0), (.int .i64 r.2.1), (.int .i64 r.2.2)] ∧ RepSl 5 (Ex cApiParcel) F p0 k0 r.1.Moving) := by
 refine CT0.enter Try.func14 rfl Try.ntmps14 rfl fun r R => ?_
 unfold m_wormtubref11_Play
 refine .seq ?_
 refine .region ?_
 refine .boxF (cs := (cApiDutyRules r_1 p2 k3)) rfl rfl rfl (fun b10 F_11 l_12 hb13 => ?_)
 refine .alloc (cs := (cApiDutyBook (ApiDutyBook.mk (fun _ => 0) ([]) 0 0 0 0 0 0 0 0) none 0)) rfl Try.zeroValue31 rfl (fun b14 => ?_)
 refine .assign rfl rfl ?_
 refine .assign rfl rfl ?_
 refine .nil ?_
 refine .code ?_
 refine .seq ?_
 refine .seq ?_
 refine .region ?_
 refine .loadFA rfl Try.isAgg24 Try.sizeOf24 rfl hb13 (vs := (cApiDutyRules r_1 p2 k3)) (by kernel_rfl) rfl ?_
 refine .call0 rfl Try.call23 rfl rfl rfl (c_wormtubref11_Rules _ r_1 p2 k3 (h4.mono l_12)) ?_
 rintro r_17 F_15 _ - l_16 rfl
 refine .not rfl rfl ?_
 refine .nil ?_
 refine .code ?_
 refine .cond rfl (fun hb18 => ?_) (fun hb18 => ?_)
 ·skip
  refine .seq ?_
  refine .region ?_
  refine .build (cs := (cApiDutyBook (ApiDutyBook.mk (fun _ => 0) ([]) 0 0 0 0 0 0 0 0) none 0).toArray) rfl Try.underlying31 Try.zeroValue31 (plApiDutyBook _ Try.underlying31) rfl rfl (by kernel_rfl) ?_
  refine .store (cs' := (cApiDutyBook (ApiDutyBook.mk (fun _ => 0) ([]) 0 0 0 0 0 0 0 0) none 0)) Try.sizeOf31 rfl rfl rfl rfl (i := 0) rfl (Nat.le_of_ble_eq_true rfl) rfl (setMany_all (by rfl)) ?_
  refine .assign rfl rfl ?_
  refine .assign rfl rfl ?_
  refine .nil ?_
  refine .code ?_
  exact .ret0 Try.results14 (.agg rfl Try.isAgg31 Try.sizeOf31 (i := 0) rfl (vs' := (cApiDutyBook (ApiDutyBook.mk (fun _ => 0) ([]) 0 0 0 0 0 0 0 0) none 0)) (by kernel_rfl) rfl (.tmp rfl (.tmp rfl (.nil)))) (i := 1) rfl (Fz.le_trans l_12 l_16) ⟨none, 0, rfl, (RepSl.nil.mono (Fz.le_trans l_12 l_16))⟩
 ·skip
  refine .skip ?_
  refine .code ?_
  refine .seq ?_
  refine .seq ?_
  refine .region ?_
  refine .move rfl rfl ?_
  refine .lenS rfl rfl Try.underlying25 rfl ?_
  refine .gtr rfl rfl rfl ?_
  refine .nil ?_
  refine .code ?_
  refine .cond rfl (fun hb19 => ?_) (fun hb19 => ?_)
  ·skip
   refine .seq ?_
   refine .region ?_
   refine .build (cs := (cApiDutyBook (ApiDutyBook.mk (fun _ => 0) ([]) 0 0 0 0 0 0 0 0) none 0).toArray) rfl Try.underlying31 Try.zeroValue31 (plApiDutyBook _ Try.underlying31) rfl rfl (by kernel_rfl) ?_
   refine .store (cs' := (cApiDutyBook (ApiDutyBook.mk (fun _ => 0) ([]) 0 0 0 0 0 0 0 0) none 0)) Try.sizeOf31 rfl rfl rfl rfl (i := 0) rfl (Nat.le_of_ble_eq_true rfl) rfl (setMany_all (by rfl)) ?_
   refine .assign rfl rfl ?_
   refine .assign rfl rfl ?_
   refine .nil ?_
   refine .code ?_
   exact .ret0 Try.results14 (.agg rfl Try.isAgg31 Try.sizeOf31 (i := 0) rfl (vs' := (cApiDutyBook (ApiDutyBook.mk (fun _ => 0) ([]) 0 0 0 0 0 0 0 0) none 0)) (by kernel_rfl) rfl (.tmp rfl (.tmp rfl (.nil)))) (i := 1) rfl (Fz.le_trans l_12 l_16) ⟨none, 0, rfl, (RepSl.nil.mono (Fz.le_trans l_12 l_16))⟩
  ·skip
   refine .skip ?_
   refine .code ?_
   refine .seq ?_
   refine .seq ?_
   refine .region ?_
   refine .move rfl rfl ?_
   refine .callP rfl Try.call28 rfl rfl rfl (c_wormtubref11_in _ day9 0 65536) ?_
   rintro F_20 _ l_21 rfl
   refine .not rfl rfl ?_
   refine .nil ?_
   refine .code ?_
   refine .cond rfl (fun hb22 => ?_) (fun hb22 => ?_)
   ·skip
    refine .seq ?_
    refine .region ?_
    refine .build (cs := (cApiDutyBook (ApiDutyBook.mk (fun _ => 0) ([]) 0 0 0 0 0 0 0 0) none 0).toArray) rfl Try.underlying31 Try.zeroValue31 (plApiDutyBook _ Try.underlying31) rfl rfl (by kernel_rfl) ?_
    refine .store (cs' := (cApiDutyBook (ApiDutyBook.mk (fun _ => 0) ([]) 0 0 0 0 0 0 0 0) none 0)) Try.sizeOf31 rfl rfl rfl rfl (i := 0) rfl (Nat.le_of_ble_eq_true rfl) rfl (setMany_all (by rfl)) ?_
    refine .assign rfl rfl ?_
    refine .assign rfl rfl ?_
    refine .nil ?_
    refine .code ?_
    exact .ret0 Try.results14 (.agg rfl Try.isAgg31 Try.sizeOf31 (i := 0) rfl (vs' := (cApiDutyBook (ApiDutyBook.mk (fun _ => 0) ([]) 0 0 0 0 0 0 0 0) none 0)) (by kernel_rfl) rfl (.tmp rfl (.tmp rfl (.nil)))) (i := 1) rfl (Fz.le_trans l_12 (Fz.le_trans l_16 l_21)) ⟨none, 0, rfl, (RepSl.nil.mono (Fz.le_trans l_12 (Fz.le_trans l_16 l_21)))⟩
   ·skip
    refine .skip ?_
    refine .code ?_
    refine .seq ?_
    refine .region ?_
    refine .alloc (cs := (cWormtubref11State (Wormtubref11State.mk (ApiDutyBook.mk (fun _ => 0) ([]) 0 0 0 0 0 0 0 0) ([]) (fun _ => 0)) none 0 none 0)) rfl Try.zeroValue73 rfl (fun b23 => ?_)
    refine .nil ?_
    refine .code ?_
    refine .seq ?_
    refine .region ?_
    refine .assign rfl rfl ?_
    refine .assign rfl rfl ?_
    refine .nil ?_
    refine .code ?_
    refine .seq ?_
    refine .block ?_
    refine .keep (.cons (k := 1) rfl (.cons (k := 2) rfl (.cons (k := 3) rfl (.cons (k := 6) rfl (.cons (k := 9) rfl (.cons (k := 10) rfl (.cons (k := 11) rfl (.nil _)))))))) ?_
    refine .loop (fun (s24 : Int × Int × Wormtubref11State) a w => ∃ (F_25 : Fz) (p27 : Option Addr) (k28 : Nat) (p30 : Option Addr) (k31 : Nat), F_20 ≤ F_25 ∧ RepSl 5 (Ex cApiParcel) F_25 p27 k28 s24.2.2.B.Moving ∧ RepSl 1 (Ex (cInt .i64)) F_25 p30 k31 s24.2.2.Ids ∧ Hd 92 [] [(1, (.slice p6 l_5.length k7)), (2, (.int .i64 day9)), (3, (.pointer (some ⟨b10, 0, none⟩))), (6, (.pointer (some ⟨b14, 0, none⟩))), (9, (.pointer (some ⟨b23, 0, none⟩))), (10, (.int .i64 s24.1)), (11, (.int .i64 s24.2.1))] F_25 [pt b23 (.cells (cWormtubref11State s24.2.2 p27 k28 p30 k31).toArray 73), pt b14 (.cells (cApiDutyBook (ApiDutyBook.mk (fun _ => 0) ([]) 0 0 0 0 0 0 0 0) none 0).toArray 31), R] a w) (fun b0 e a w => match b0 with | .inl b109 => e = .exit 0 ∧ ∃ (F_110 : Fz) (p112 : Option Addr) (k113 : Nat) (p115 : Option Addr) (k116 : Nat), F_20 ≤ F_110 ∧ RepSl 5 (Ex cApiParcel) F_110 p112 k113 b109.2.2.B.Moving ∧ RepSl 1 (Ex (cInt .i64)) F_110 p115 k116 b109.2.2.Ids ∧ Hd 92 [] [(2, (.int .i64 day9)), (3, (.pointer (some ⟨b10, 0, none⟩))), (6, (.pointer (some ⟨b14, 0, none⟩))), (9, (.pointer (some ⟨b23, 0, none⟩))), (10, (.int .i64 b109.1)), (11, (.int .i64 b109.2.1))] F_110 [pt b23 (.cells (cWormtubref11State b109.2.2 p112 k113 p115 k116).toArray 73), pt b14 (.cells (cApiDutyBook (ApiDutyBook.mk (fun _ => 0) ([]) 0 0 0 0 0 0 0 0) none 0).toArray 31), R] a w | .inr b109 => e = .ret ∧ ∃ (F_118 : Fz) (p120 : Option Addr) (k121 : Nat), F_20 ≤ F_118 ∧ RepSl 5 (Ex cApiParcel) F_118 p120 k121 b109.1.Moving ∧ Hd 92 [] [(6, (.pointer (some ⟨b14, 0, none⟩))), (7, (.int .i64 b109.2.1)), (8, (.int .i64 b109.2.2))] F_118 [pt b14 (.cells (cApiDutyBook b109.1 p120 k121).toArray 31), R] a w) ?_ ?_ ?_
    ·exact fun a w h => ⟨F_20, none, 0, none, 0, (Fz.le_refl _), (RepSl.nil.mono (Fz.le_trans l_12 (Fz.le_trans l_16 l_21))), (RepSl.nil.mono (Fz.le_trans l_12 (Fz.le_trans l_16 l_21))), h.1.sub (.cons (k := 1) rfl (.cons (k := 2) rfl (.cons (k := 3) rfl (.cons (k := 6) rfl (.cons (k := 9) rfl (.cons (k := 10) rfl (.cons (k := 11) rfl (.nil _)))))))), h.2⟩
    ·intro s24 ctl
     refine GC.ex (fun a w ⟨F_25, p27, k28, p30, k31, l_26, h29, h32, hA⟩ => ⟨_, hA, ?_⟩)
     unfold b_wormtubref11_Play_1
     refine .seq ?_
     refine .seq ?_
     refine .region ?_
     refine .move rfl rfl ?_
     refine .move rfl rfl ?_
     refine .lenS rfl rfl Try.underlying25 rfl ?_
     refine .lss rfl rfl rfl ?_
     refine .move rfl rfl ?_
     refine .andM (b := (decide (s24.2.1 < (l_5.length : Int)))) 8 39 (fun hb33 z48 => ?_) (fun hb44 => ?_) (fun z47 F_45 l_46 => ?_)
     ·skip
      refine .onH hb33 rfl rfl ?_
      refine .move rfl rfl ?_
      refine .onH hb33 rfl rfl ?_
      refine .move rfl rfl ?_
      refine .onH hb33 rfl rfl ?_
      refine .idx rfl Try.underlying25 Try.sizeOf47 (h8.mono (Fz.le_trans l_12 (Fz.le_trans l_16 (Fz.le_trans l_21 l_26)))) rfl rfl (fun x34 b35 o36 T37 fr38 cs39 e40 hm41 hv42 => ?_)
      refine .onH hb33 rfl rfl ?_
      refine .fieldAddr rfl Try.underlying47 rfl Try.sizeOf3 rfl ?_
      refine .onH hb33 rfl rfl ?_
      refine .loadF rfl Try.isAgg3 rfl hm41 (cell_of_take (k := 1) hv42 rfl) ?_
      refine .onH hb33 rfl rfl ?_
      refine .move rfl rfl ?_
      refine .onH hb33 rfl rfl ?_
      refine .leq rfl rfl rfl ?_
      refine .pickTH hb33 rfl rfl rfl ?_
      exact .finZ 8 rfl rfl (by kernel_rfl) (Fz.le_refl _)
     ·skip
      refine .offH hb44 rfl rfl rfl ?_
      refine .offH hb44 rfl rfl rfl ?_
      refine .offH hb44 rfl rfl rfl ?_
      refine .offH hb44 rfl rfl rfl ?_
      refine .offH hb44 rfl rfl rfl ?_
      refine .offH hb44 rfl rfl rfl ?_
      refine .offH hb44 rfl rfl rfl ?_
      refine .pickFH hb44 rfl rfl rfl ?_
      exact .fin 8 rfl rfl (by kernel_rfl) (Fz.le_refl _)
     refine .nil ?_
     refine .code ?_
     refine .cond rfl (fun hb49 => ?_) (fun hb49 => ?_)
     ·skip
      refine .skip ?_
      refine .code ?_
      refine .block ?_
      refine .seq ?_
      refine .region ?_
      refine .move rfl rfl ?_
      refine .move rfl rfl ?_
      refine .idx rfl Try.underlying25 Try.sizeOf47 (h8.mono (Fz.le_trans l_12 (Fz.le_trans l_16 (Fz.le_trans l_21 (Fz.le_trans l_26 l_46))))) rfl rfl (fun x50 b51 o52 T53 fr54 cs55 e56 hm57 hv58 => ?_)
      refine .loadFA rfl Try.isAgg47 Try.sizeOf47 rfl hm57 hv58 rfl ?_
      refine .alloc (cs := (cApiDutyEvent (ApiDutyEvent.mk 0 0 0 0 0 0))) rfl Try.zeroValue47 rfl (fun b60 => ?_)
      refine .store (cs' := (cApiDutyEvent x50)) Try.sizeOf47 rfl rfl rfl rfl (i := 0) rfl (Nat.le_of_ble_eq_true rfl) rfl (setMany_all (by rfl)) ?_
      refine .nil ?_
      refine .code ?_
      refine .seq ?_
      refine .seq ?_
      refine .region ?_
      refine .loadOA rfl Try.isAgg47 Try.sizeOf47 rfl (i := 0) rfl (vs := (cApiDutyEvent x50)) (by kernel_rfl) rfl ?_
      refine .call0 rfl Try.call29 rfl rfl rfl (c_wormtubref11_Event _ x50) ?_
      rintro r_63 F_61 _ - l_62 rfl
      refine .not rfl rfl ?_
      refine .nil ?_
      refine .code ?_
      refine .cond rfl (fun hb64 => ?_) (fun hb64 => ?_)
      ·skip
       refine .seq ?_
       refine .region ?_
       refine .build (cs := (cApiDutyBook (ApiDutyBook.mk (fun _ => 0) ([]) 0 0 0 0 0 0 0 0) none 0).toArray) rfl Try.underlying31 Try.zeroValue31 (plApiDutyBook _ Try.underlying31) rfl rfl (by kernel_rfl) ?_
       refine .move rfl rfl ?_
       refine .store (cs' := (cApiDutyBook (ApiDutyBook.mk (fun _ => 0) ([]) 0 0 0 0 0 0 0 0) none 0)) Try.sizeOf31 rfl rfl rfl rfl (i := 2) rfl (Nat.le_of_ble_eq_true rfl) rfl (setMany_all (by rfl)) ?_
       refine .assign rfl rfl ?_
       refine .assign rfl rfl ?_
       refine .nil ?_
       refine .keep (.cons (k := 6) rfl (.cons (k := 7) rfl (.cons (k := 8) rfl (.nil _)))) ?_
       refine .code ?_
       refine .drop 1 ?_
       refine .drop 0 ?_
       refine .retQ (LPost.ret fun a w h => ⟨rfl, F_61, none, 0, (Fz.le_trans l_26 (Fz.le_trans l_46 l_62)), (RepSl.nil.mono (Fz.le_trans l_12 (Fz.le_trans l_16 (Fz.le_trans l_21 (Fz.le_trans l_26 (Fz.le_trans l_46 l_62)))))), h.1.sub (.cons (k := 6) rfl (.cons (k := 7) rfl (.cons (k := 8) rfl (.nil _)))), h.2⟩)
      ·skip
       refine .skip ?_
       refine .code ?_
       refine .seq ?_
       refine .seq ?_
       refine .region ?_
       refine .fieldAddr rfl Try.underlying47 rfl Try.sizeOf3 rfl ?_
       refine .loadO rfl Try.isAgg3 rfl (i := 0) rfl rfl ?_
       refine .move rfl rfl ?_
       refine .lss rfl rfl rfl ?_
       refine .nil ?_
       refine .keep (.cons (k := 1) rfl (.cons (k := 2) rfl (.cons (k := 3) rfl (.cons (k := 6) rfl (.cons (k := 9) rfl (.cons (k := 10) rfl (.cons (k := 11) rfl (.cons (k := 12) rfl (.cons (k := 52) rfl (.nil _)))))))))) ?_
       refine .code ?_
       refine .cond rfl (fun hb65 => ?_) (fun hb65 => ?_)
       ·skip
        refine .seq ?_
        refine .region ?_
        refine .build (cs := (cApiDutyBook (ApiDutyBook.mk (fun _ => 0) ([]) 0 0 0 0 0 0 0 0) none 0).toArray) rfl Try.underlying31 Try.zeroValue31 (plApiDutyBook _ Try.underlying31) rfl rfl (by kernel_rfl) ?_
        refine .move rfl rfl ?_
        refine .store (cs' := (cApiDutyBook (ApiDutyBook.mk (fun _ => 0) ([]) 0 0 0 0 0 0 0 0) none 0)) Try.sizeOf31 rfl rfl rfl rfl (i := 2) rfl (Nat.le_of_ble_eq_true rfl) rfl (setMany_all (by rfl)) ?_
        refine .assign rfl rfl ?_
        refine .assign rfl rfl ?_
        refine .nil ?_
        refine .code ?_
        refine .drop 1 ?_
        refine .drop 0 ?_
        refine .retQ (LPost.ret fun a w h => ⟨rfl, F_61, none, 0, (Fz.le_trans l_26 (Fz.le_trans l_46 l_62)), (RepSl.nil.mono (Fz.le_trans l_12 (Fz.le_trans l_16 (Fz.le_trans l_21 (Fz.le_trans l_26 (Fz.le_trans l_46 l_62)))))), h.1.sub (.cons (k := 6) rfl (.cons (k := 7) rfl (.cons (k := 8) rfl (.nil _)))), h.2⟩)
       ·skip
        refine .skip ?_
        refine .code ?_
        refine .seq ?_
        refine .block ?_
        refine .keep (.cons (k := 1) rfl (.cons (k := 2) rfl (.cons (k := 3) rfl (.cons (k := 6) rfl (.cons (k := 9) rfl (.cons (k := 10) rfl (.cons (k := 11) rfl (.cons (k := 12) rfl (.nil _))))))))) ?_
        refine .loop (fun (s66 : Int × Wormtubref11State) a w => ∃ (F_67 : Fz) (p69 : Option Addr) (k70 : Nat) (p72 : Option Addr) (k73 : Nat), F_61 ≤ F_67 ∧ RepSl 5 (Ex cApiParcel) F_67 p69 k70 s66.2.B.Moving ∧ RepSl 1 (Ex (cInt .i64)) F_67 p72 k73 s66.2.Ids ∧ Hd 92 [] [(1, (.slice p6 l_5.length k7)), (2, (.int .i64 day9)), (3, (.pointer (some ⟨b10, 0, none⟩))), (6, (.pointer (some ⟨b14, 0, none⟩))), (9, (.pointer (some ⟨b23, 0, none⟩))), (10, (.int .i64 s66.1)), (11, (.int .i64 s24.2.1)), (12, (.pointer (some ⟨b60, 0, none⟩)))] F_67 [pt b60 (.cells (cApiDutyEvent x50).toArray 47), pt b23 (.cells (cWormtubref11State s66.2 p69 k70 p72 k73).toArray 73), pt b14 (.cells (cApiDutyBook (ApiDutyBook.mk (fun _ => 0) ([]) 0 0 0 0 0 0 0 0) none 0).toArray 31), R] a w) (fun b87 e a w => e = .exit 2 ∧ ∃ (F_88 : Fz) (p90 : Option Addr) (k91 : Nat) (p93 : Option Addr) (k94 : Nat), F_61 ≤ F_88 ∧ RepSl 5 (Ex cApiParcel) F_88 p90 k91 b87.2.B.Moving ∧ RepSl 1 (Ex (cInt .i64)) F_88 p93 k94 b87.2.Ids ∧ Hd 92 [] [(1, (.slice p6 l_5.length k7)), (2, (.int .i64 day9)), (3, (.pointer (some ⟨b10, 0, none⟩))), (6, (.pointer (some ⟨b14, 0, none⟩))), (9, (.pointer (some ⟨b23, 0, none⟩))), (10, (.int .i64 b87.1)), (11, (.int .i64 s24.2.1)), (12, (.pointer (some ⟨b60, 0, none⟩)))] F_88 [pt b60 (.cells (cApiDutyEvent x50).toArray 47), pt b23 (.cells (cWormtubref11State b87.2 p90 k91 p93 k94).toArray 73), pt b14 (.cells (cApiDutyBook (ApiDutyBook.mk (fun _ => 0) ([]) 0 0 0 0 0 0 0 0) none 0).toArray 31), R] a w) ?_ ?_ ?_
        ·exact fun a w h => ⟨F_61, p27, k28, p30, k31, (Fz.le_refl _), (h29.mono (Fz.le_trans l_46 l_62)), (h32.mono (Fz.le_trans l_46 l_62)), h.1.sub (.cons (k := 1) rfl (.cons (k := 2) rfl (.cons (k := 3) rfl (.cons (k := 6) rfl (.cons (k := 9) rfl (.cons (k := 10) rfl (.cons (k := 11) rfl (.cons (k := 12) rfl (.nil _))))))))), h.2⟩
        ·intro s66 ctl
         refine GC.ex (fun a w ⟨F_67, p69, k70, p72, k73, l_68, h71, h74, hA⟩ => ⟨_, hA, ?_⟩)
         unfold b_wormtubref11_Play_2
         refine .seq ?_
         refine .seq ?_
         refine .region ?_
         refine .move rfl rfl ?_
         refine .fieldAddr rfl Try.underlying47 rfl Try.sizeOf3 rfl ?_
         refine .loadO rfl Try.isAgg3 rfl (i := 0) rfl rfl ?_
         refine .lss rfl rfl rfl ?_
         refine .nil ?_
         refine .code ?_
         refine .cond rfl (fun hb75 => ?_) (fun hb75 => ?_)
         ·skip
          refine .skip ?_
          refine .code ?_
          refine .block ?_
          refine .seq ?_
          refine .region ?_
          refine .move rfl rfl ?_
          refine .add rfl rfl rfl ?_
          refine .assignL rfl rfl (fun today76 e77 => ?_)
          refine .nil ?_
          refine .code ?_
          refine .region ?_
          refine .loadFA rfl Try.isAgg24 Try.sizeOf24 rfl ((Fz.le_trans l_16 (Fz.le_trans l_21 (Fz.le_trans l_26 (Fz.le_trans l_46 (Fz.le_trans l_62 l_68))))).mem _ _ hb13) (vs := (cApiDutyRules r_1 p2 k3)) (by kernel_rfl) rfl ?_
          refine .loadOA rfl Try.isAgg73 Try.sizeOf73 rfl (i := 1) rfl (vs := (cWormtubref11State s66.2 p69 k70 p72 k73)) (by kernel_rfl) rfl ?_
          refine .move rfl rfl ?_
          refine .call0 rfl Try.call30 rfl rfl rfl (c_wormtubref11_night _ r_1 p2 k3 (h4.mono (Fz.le_trans l_12 (Fz.le_trans l_16 (Fz.le_trans l_21 (Fz.le_trans l_26 (Fz.le_trans l_46 (Fz.le_trans l_62 l_68))))))) s66.2 p69 k70 p72 k73 h71 h74 today76) ?_
          rintro r_80 F_78 _ - l_79 ⟨p81, k82, p84, k85, rfl, h83, h86⟩
          refine .store (cs' := (cWormtubref11State r_80 p81 k82 p84 k85)) Try.sizeOf73 rfl rfl rfl rfl (i := 1) rfl (Nat.le_of_ble_eq_true rfl) rfl (setMany_all (by rfl)) ?_
          refine .nil ?_
          refine .block ?_
          exact .nil (LPost.norm fun a w h => ⟨F_78, p81, k82, p84, k85, (Fz.le_trans l_68 l_79), h83, h86, h.1.sub (.cons (k := 1) rfl (.cons (k := 2) rfl (.cons (k := 3) rfl (.cons (k := 6) rfl (.cons (k := 9) rfl (.cons (k := 10) rfl (.cons (k := 11) rfl (.cons (k := 12) rfl (.nil _))))))))), h.2⟩)
         ·skip
          refine .exitOut rfl (LPost.exit fun a w h => ⟨rfl, F_67, p69, k70, p72, k73, l_68, h71, h74, h.1.sub (.cons (k := 1) rfl (.cons (k := 2) rfl (.cons (k := 3) rfl (.cons (k := 6) rfl (.cons (k := 9) rfl (.cons (k := 10) rfl (.cons (k := 11) rfl (.cons (k := 12) rfl (.nil _))))))))), h.2⟩)
        ·intro b87 hb0 hk e a w hD
         obtain ⟨rfl, F_88, p90, k91, p93, k94, l_89, h92, h95, hA⟩ := hD
         refine interp_exit rfl (GE.app ?_ hk a w hA)
         refine .code ?_
         refine .seq ?_
         refine .region ?_
         refine .loadFA rfl Try.isAgg24 Try.sizeOf24 rfl ((Fz.le_trans l_16 (Fz.le_trans l_21 (Fz.le_trans l_26 (Fz.le_trans l_46 (Fz.le_trans l_62 l_89))))).mem _ _ hb13) (vs := (cApiDutyRules r_1 p2 k3)) (by kernel_rfl) rfl ?_
         refine .loadOA rfl Try.isAgg73 Try.sizeOf73 rfl (i := 1) rfl (vs := (cWormtubref11State b87.2 p90 k91 p93 k94)) (by kernel_rfl) rfl ?_
         refine .loadOA rfl Try.isAgg47 Try.sizeOf47 rfl (i := 0) rfl (vs := (cApiDutyEvent x50)) (by kernel_rfl) rfl ?_
         refine .call0 rfl Try.call31 rfl rfl rfl (c_wormtubref11_do _ r_1 p2 k3 (h4.mono (Fz.le_trans l_12 (Fz.le_trans l_16 (Fz.le_trans l_21 (Fz.le_trans l_26 (Fz.le_trans l_46 (Fz.le_trans l_62 l_89))))))) b87.2 p90 k91 p93 k94 h92 h95 x50) ?_
         rintro r_98 F_96 _ - l_97 ⟨p99, k100, p102, k103, rfl, h101, h104⟩
         refine .move rfl rfl ?_
         refine .extract rfl rfl rfl ?_
         refine .extract rfl rfl rfl ?_
         refine .alloc (cs := (cWormtubref11State (Wormtubref11State.mk (ApiDutyBook.mk (fun _ => 0) ([]) 0 0 0 0 0 0 0 0) ([]) (fun _ => 0)) none 0 none 0)) rfl Try.zeroValue73 rfl (fun b105 => ?_)
         refine .store (cs' := (cWormtubref11State r_98.1 p99 k100 p102 k103)) Try.sizeOf73 rfl rfl rfl rfl (i := 0) rfl (Nat.le_of_ble_eq_true rfl) rfl (setMany_all (by rfl)) ?_
         refine .assign rfl rfl ?_
         refine .nil ?_
         refine .code ?_
         refine .seq ?_
         refine .seq ?_
         refine .region ?_
         refine .move rfl rfl ?_
         refine .neq rfl rfl rfl ?_
         refine .nil ?_
         refine .code ?_
         refine .cond rfl (fun hb106 => ?_) (fun hb106 => ?_)
         ·skip
          refine .seq ?_
          refine .region ?_
          refine .build (cs := (cApiDutyBook (ApiDutyBook.mk (fun _ => 0) ([]) 0 0 0 0 0 0 0 0) none 0).toArray) rfl Try.underlying31 Try.zeroValue31 (plApiDutyBook _ Try.underlying31) rfl rfl (by kernel_rfl) ?_
          refine .move rfl rfl ?_
          refine .move rfl rfl ?_
          refine .store (cs' := (cApiDutyBook (ApiDutyBook.mk (fun _ => 0) ([]) 0 0 0 0 0 0 0 0) none 0)) Try.sizeOf31 rfl rfl rfl rfl (i := 3) rfl (Nat.le_of_ble_eq_true rfl) rfl (setMany_all (by rfl)) ?_
          refine .assign rfl rfl ?_
          refine .assign rfl rfl ?_
          refine .nil ?_
          refine .code ?_
          refine .drop 2 ?_
          refine .drop 1 ?_
          refine .drop 0 ?_
          refine .retQ (LPost.ret fun a w h => ⟨rfl, F_96, none, 0, (Fz.le_trans l_26 (Fz.le_trans l_46 (Fz.le_trans l_62 (Fz.le_trans l_89 l_97)))), (RepSl.nil.mono (Fz.le_trans l_12 (Fz.le_trans l_16 (Fz.le_trans l_21 (Fz.le_trans l_26 (Fz.le_trans l_46 (Fz.le_trans l_62 (Fz.le_trans l_89 l_97)))))))), h.1.sub (.cons (k := 6) rfl (.cons (k := 7) rfl (.cons (k := 8) rfl (.nil _)))), h.2⟩)
         ·skip
          refine .skip ?_
          refine .code ?_
          refine .seq ?_
          refine .region ?_
          refine .loadOA rfl Try.isAgg73 Try.sizeOf73 rfl (i := 0) rfl (vs := (cWormtubref11State r_98.1 p99 k100 p102 k103)) (by kernel_rfl) rfl ?_
          refine .store (cs' := (cWormtubref11State r_98.1 p99 k100 p102 k103)) Try.sizeOf73 rfl rfl rfl rfl (i := 2) rfl (Nat.le_of_ble_eq_true rfl) rfl (setMany_all (by rfl)) ?_
          refine .nil ?_
          refine .code ?_
          refine .region ?_
          refine .move rfl rfl ?_
          refine .add rfl rfl rfl ?_
          refine .assignL rfl rfl (fun n_107 e108 => ?_)
          refine .nil ?_
          refine .block ?_
          refine .drop 1 ?_
          refine .drop 0 ?_
          exact .nil (LPost.norm fun a w h => ⟨F_96, p99, k100, p102, k103, (Fz.le_trans l_26 (Fz.le_trans l_46 (Fz.le_trans l_62 (Fz.le_trans l_89 l_97)))), h101, h104, h.1.sub (.cons (k := 1) rfl (.cons (k := 2) rfl (.cons (k := 3) rfl (.cons (k := 6) rfl (.cons (k := 9) rfl (.cons (k := 10) rfl (.cons (k := 11) rfl (.nil _)))))))), h.2⟩)
     ·skip
      refine .exitOut rfl (LPost.exit fun a w h => ⟨rfl, F_45, p27, k28, p30, k31, (Fz.le_trans l_26 l_46), (h29.mono l_46), (h32.mono l_46), h.1.sub (.cons (k := 2) rfl (.cons (k := 3) rfl (.cons (k := 6) rfl (.cons (k := 9) rfl (.cons (k := 10) rfl (.cons (k := 11) rfl (.nil _))))))), h.2⟩)
    ·intro b109 hb0 hk e a w hD
     rcases b109 with b109 | b109
     ·skip
      obtain ⟨rfl, F_110, p112, k113, p115, k116, l_111, h114, h117, hA⟩ := hD
      refine interp_exit rfl (GE.app ?_ hk a w hA)
      refine .code ?_
      refine .seq ?_
      refine .block ?_
      refine .keep (.cons (k := 2) rfl (.cons (k := 3) rfl (.cons (k := 6) rfl (.cons (k := 9) rfl (.cons (k := 10) rfl (.cons (k := 11) rfl (.nil _))))))) ?_
      refine .loop (fun (s123 : Int × Wormtubref11State) a w => ∃ (F_124 : Fz) (p126 : Option Addr) (k127 : Nat) (p129 : Option Addr) (k130 : Nat), F_110 ≤ F_124 ∧ RepSl 5 (Ex cApiParcel) F_124 p126 k127 s123.2.B.Moving ∧ RepSl 1 (Ex (cInt .i64)) F_124 p129 k130 s123.2.Ids ∧ Hd 92 [] [(2, (.int .i64 day9)), (3, (.pointer (some ⟨b10, 0, none⟩))), (6, (.pointer (some ⟨b14, 0, none⟩))), (9, (.pointer (some ⟨b23, 0, none⟩))), (10, (.int .i64 s123.1)), (11, (.int .i64 b109.2.1))] F_124 [pt b23 (.cells (cWormtubref11State s123.2 p126 k127 p129 k130).toArray 73), pt b14 (.cells (cApiDutyBook (ApiDutyBook.mk (fun _ => 0) ([]) 0 0 0 0 0 0 0 0) none 0).toArray 31), R] a w) (fun b144 e a w => e = .exit 4 ∧ ∃ (F_145 : Fz) (p147 : Option Addr) (k148 : Nat) (p150 : Option Addr) (k151 : Nat), F_110 ≤ F_145 ∧ RepSl 5 (Ex cApiParcel) F_145 p147 k148 b144.B.Moving ∧ RepSl 1 (Ex (cInt .i64)) F_145 p150 k151 b144.Ids ∧ Hd 92 [] [(6, (.pointer (some ⟨b14, 0, none⟩))), (9, (.pointer (some ⟨b23, 0, none⟩))), (11, (.int .i64 b109.2.1))] F_145 [pt b23 (.cells (cWormtubref11State b144 p147 k148 p150 k151).toArray 73), pt b14 (.cells (cApiDutyBook (ApiDutyBook.mk (fun _ => 0) ([]) 0 0 0 0 0 0 0 0) none 0).toArray 31), R] a w) ?_ ?_ ?_
      ·exact fun a w h => ⟨F_110, p112, k113, p115, k116, (Fz.le_refl _), h114, h117, h.1.sub (.cons (k := 2) rfl (.cons (k := 3) rfl (.cons (k := 6) rfl (.cons (k := 9) rfl (.cons (k := 10) rfl (.cons (k := 11) rfl (.nil _))))))), h.2⟩
      ·intro s123 ctl
       refine GC.ex (fun a w ⟨F_124, p126, k127, p129, k130, l_125, h128, h131, hA⟩ => ⟨_, hA, ?_⟩)
       unfold b_wormtubref11_Play_3
       refine .seq ?_
       refine .seq ?_
       refine .region ?_
       refine .move rfl rfl ?_
       refine .move rfl rfl ?_
       refine .lss rfl rfl rfl ?_
       refine .nil ?_
       refine .code ?_
       refine .cond rfl (fun hb132 => ?_) (fun hb132 => ?_)
       ·skip
        refine .skip ?_
        refine .code ?_
        refine .block ?_
        refine .seq ?_
        refine .region ?_
        refine .move rfl rfl ?_
        refine .add rfl rfl rfl ?_
        refine .assignL rfl rfl (fun today133 e134 => ?_)
        refine .nil ?_
        refine .code ?_
        refine .region ?_
        refine .loadFA rfl Try.isAgg24 Try.sizeOf24 rfl ((Fz.le_trans l_16 (Fz.le_trans l_21 (Fz.le_trans l_111 l_125))).mem _ _ hb13) (vs := (cApiDutyRules r_1 p2 k3)) (by kernel_rfl) rfl ?_
        refine .loadOA rfl Try.isAgg73 Try.sizeOf73 rfl (i := 0) rfl (vs := (cWormtubref11State s123.2 p126 k127 p129 k130)) (by kernel_rfl) rfl ?_
        refine .move rfl rfl ?_
        refine .call0 rfl Try.call30 rfl rfl rfl (c_wormtubref11_night _ r_1 p2 k3 (h4.mono (Fz.le_trans l_12 (Fz.le_trans l_16 (Fz.le_trans l_21 (Fz.le_trans l_111 l_125))))) s123.2 p126 k127 p129 k130 h128 h131 today133) ?_
        rintro r_137 F_135 _ - l_136 ⟨p138, k139, p141, k142, rfl, h140, h143⟩
        refine .store (cs' := (cWormtubref11State r_137 p138 k139 p141 k142)) Try.sizeOf73 rfl rfl rfl rfl (i := 0) rfl (Nat.le_of_ble_eq_true rfl) rfl (setMany_all (by rfl)) ?_
        refine .nil ?_
        refine .block ?_
        exact .nil (LPost.norm fun a w h => ⟨F_135, p138, k139, p141, k142, (Fz.le_trans l_125 l_136), h140, h143, h.1.sub (.cons (k := 2) rfl (.cons (k := 3) rfl (.cons (k := 6) rfl (.cons (k := 9) rfl (.cons (k := 10) rfl (.cons (k := 11) rfl (.nil _))))))), h.2⟩)
       ·skip
        refine .exitOut rfl (LPost.exit fun a w h => ⟨rfl, F_124, p126, k127, p129, k130, l_125, h128, h131, h.1.sub (.cons (k := 6) rfl (.cons (k := 9) rfl (.cons (k := 11) rfl (.nil _)))), h.2⟩)
      ·intro b144 hb0 hk e a w hD
       obtain ⟨rfl, F_145, p147, k148, p150, k151, l_146, h149, h152, hA⟩ := hD
       refine interp_exit rfl (GE.app ?_ hk a w hA)
       refine .code ?_
       refine .seq ?_
       refine .region ?_
       refine .fieldAddr rfl Try.underlying73 rfl Try.sizeOf31 rfl ?_
       refine .loadOA rfl Try.isAgg31 Try.sizeOf31 rfl (i := 0) rfl (vs := (cApiDutyBook b144.B p147 k148)) (by kernel_rfl) rfl ?_
       refine .move rfl rfl ?_
       refine .store (cs' := (cApiDutyBook b144.B p147 k148)) Try.sizeOf31 rfl rfl rfl rfl (i := 1) rfl (Nat.le_of_ble_eq_true rfl) rfl (setMany_all (by rfl)) ?_
       refine .assign rfl rfl ?_
       refine .assign rfl rfl ?_
       refine .nil ?_
       refine .code ?_
       exact .ret0 Try.results14 (.agg rfl Try.isAgg31 Try.sizeOf31 (i := 1) rfl (vs' := (cApiDutyBook b144.B p147 k148)) (by kernel_rfl) rfl (.tmp rfl (.tmp rfl (.nil)))) (i := 2) rfl (Fz.le_trans l_12 (Fz.le_trans l_16 (Fz.le_trans l_21 (Fz.le_trans l_111 l_146)))) ⟨p147, k148, rfl, h149⟩
     obtain ⟨rfl, F_118, p120, k121, l_119, h122, hA⟩ := hD
     exact interp_ret ((ret_post0 Try.results14 (.agg rfl Try.isAgg31 Try.sizeOf31 (i := 0) rfl (vs' := (cApiDutyBook b109.1 p120 k121)) (by kernel_rfl) rfl (.tmp rfl (.tmp rfl (.nil)))) (i := 1) rfl (Fz.le_trans l_12 (Fz.le_trans l_16 (Fz.le_trans l_21 l_119))) ⟨p120, k121, rfl, h122⟩) hk a w hA)
end Go.Proofs.Ytadpjmaaokkhjaa
end

section
namespace Go.Proofs.Ytadpjmaaokkhjaa
open Go.Dec
variable {r : Rul} {n : Nat} {t d : Int} {s s' : Acc} {x : Ev} {p : ApiParcel}
theorem ref_in (n a b : Int) : m_wormtubref11_in n a b = inB n a b := by unfold m_wormtubref11_in inB; exact rfl
theorem ref_bond (n : Int) : m_wormtubref11_bond n = bondB n := by unfold m_wormtubref11_bond bondB; exact ref_in ..
theorem w64_next {i : Nat} (h : i ≤ 4294967296) : w64 ((i : Int) + 1) = ((i + 1 : Nat) : Int) := by rw [w64_id (by omega) (by omega)]; rfl
theorem Event_doc (x : Ev) : m_wormtubref11_Event x = some (evB x) := by
  unfold m_wormtubref11_Event evB
  simp only [ref_in, ref_bond]
  cases h1 : inB x.Day 0 65536 with
  | false => simp
  | true =>
    simp only [Bool.not_true, Bool.false_eq_true, if_false, Bool.true_and]
    by_cases k0 : (x.Kind == 0) = true
    · simp [k0]
    · simp only [Bool.not_eq_true] at k0
      by_cases k3 : (x.Kind == 3) = true
      · simp [k0, k3]
      · simp only [Bool.not_eq_true] at k3
        by_cases k4 : (x.Kind == 4) = true
        · simp [k0, k3, k4]
        · simp only [Bool.not_eq_true] at k4
          simp only [k0, k3, k4, Bool.or_self, Bool.false_eq_true, if_false, Option.bind_some]
          by_cases k1 : (x.Kind == 1) = true
          · rw [if_pos k1, if_pos k1]
          · rw [if_neg k1, if_neg k1]
            by_cases k2 : (x.Kind == 2) = true
            · rw [if_pos k2, if_pos k2]
            · rw [if_neg k2, if_neg k2]
              by_cases k5 : (x.Kind == 5) = true
              · rw [if_pos k5, if_pos k5]
              · rw [if_neg k5, if_neg k5]
                by_cases k6 : (x.Kind == 6) = true
                · rw [if_pos k6, if_pos k6]
                · rw [if_neg k6, if_neg k6]
theorem rates_step (r : Rul) (hl : r.Rates.length ≤ 64) {i : Nat} {last : Int} {x : ApiDutyRate} (hx : r.Rates[i]? = some x) (h0 : i = 0 → last = -1) (h1 : ∀ y, i ≠ 0 → r.Rates[i - 1]? = some y → y.From = last) :
    b_wormtubref11_Rules_1 r (i : Int) = some (if inB x.From 0 65536 && decide (last < x.From) && inB x.Rate 0 1048576 then .next ((i + 1 : Nat) : Int) else .done (.inr false)) := by
  have hil : i < r.Rates.length := (List.getElem?_eq_some_iff.1 hx).1
  unfold b_wormtubref11_Rules_1
  rw [if_pos (by simp; omega)]
  simp only [idxL_nat, hx, Option.bind_some, ref_in]
  by_cases c1 : inB x.From 0 65536 = true
  case neg => simp only [Bool.not_eq_true] at c1; simp [c1]
  case pos =>
    by_cases c2 : inB x.Rate 0 1048576 = true
    case neg => simp only [Bool.not_eq_true] at c2; simp [c1, c2]
    case pos =>
      have hf := inB_iff.1 c1
      simp only [c1, c2, Bool.not_true, Bool.false_eq_true, if_false, Bool.true_and, Bool.and_true]
      by_cases hi0 : i = 0
      · have := h0 hi0; subst this
        have e1 : decide ((i : Int) > 0) = false := by simp; omega
        have e2 : decide (-1 < x.From) = true := by simp; omega
        simp only [e1, e2, Bool.false_eq_true, if_false, Option.bind_some, bindv, if_true]
        rw [w64_next (by omega)]
      · have e1 : decide ((i : Int) > 0) = true := by simp; omega
        have hp : i - 1 < r.Rates.length := by omega
        have hy : r.Rates[i - 1]? = some r.Rates[i - 1] := by simp [hp]
        have e3 : w64 ((i : Int) - 1) = ((i - 1 : Nat) : Int) := by rw [w64_id (by omega) (by omega)]; omega
        have e4 := h1 _ hi0 hy
        simp only [e1, if_true, e3, idxL_nat, hy, Option.bind_some, e4]
        by_cases hle : x.From ≤ last
        · have e5 : decide (last < x.From) = false := by simp; omega
          simp [hle, e5]
        · have e5 : decide (last < x.From) = true := by simp; omega
          simp only [hle, decide_false, Bool.false_eq_true, if_false, bindv, e5, if_true]
          rw [w64_next (by omega)]
theorem rates_loop (r : Rul) (hl : r.Rates.length ≤ 64) : ∀ (k i : Nat) (last : Int), i + k = r.Rates.length → (i = 0 → last = -1) → (∀ y, i ≠ 0 → r.Rates[i - 1]? = some y → y.From = last) →
    loopM (b_wormtubref11_Rules_1 r) (i : Int) = some (if okRates last (r.Rates.drop i) then .inl () else .inr false)
  | 0, i, last, hi, _, _ => by
    rw [loopM_eq, List.drop_eq_nil_of_le (by omega)]
    unfold b_wormtubref11_Rules_1
    rw [if_neg (by simp; omega)]; rfl
  | k + 1, i, last, hi, h0, h1 => by
    have hil : i < r.Rates.length := by omega
    have hx : r.Rates[i]? = some r.Rates[i] := by simp [hil]
    rw [loopM_eq, List.drop_eq_getElem_cons hil, rates_step r hl hx h0 h1]
    by_cases hc : (inB r.Rates[i].From 0 65536 && decide (last < r.Rates[i].From) && inB r.Rates[i].Rate 0 1048576) = true
    case neg => simp only [Bool.not_eq_true] at hc; simp [okRates, hc]
    case pos =>
      simp only [okRates, hc, if_true, Bool.true_and]
      exact rates_loop r hl k (i + 1) r.Rates[i].From (by omega) (by omega) (fun y _ hy => by rw [Nat.add_sub_cancel, hx] at hy; simp only [Option.some.injEq] at hy; rw [hy])
theorem Rules_doc (r : Rul) : m_wormtubref11_Rules r = some (rulesB r) := by
  unfold m_wormtubref11_Rules rulesB
  simp only [ref_in]
  cases h1 : inB (r.Rates.length : Int) 1 64 with
  | false => simp
  | true =>
    have hl := inB_iff.1 h1
    have h00 : 0 < r.Rates.length := by omega
    obtain ⟨y, l, e⟩ : ∃ y l, r.Rates = y :: l := by
      cases hr : r.Rates with
      | nil => rw [hr] at h00; simp at h00
      | cons y l => exact ⟨y, l, rfl⟩
    have hx : idxL r.Rates 0 = some y := by
      have := idxL_nat r.Rates 0
      rw [e] at this ⊢; exact this
    have hloop := rates_loop r (by omega) r.Rates.length 0 (-1) (by omega) (fun _ => rfl) (fun _ h => absurd rfl h)
    simp only [Int.natCast_zero, List.drop_zero] at hloop
    simp only [Bool.not_true, Bool.false_eq_true, if_false, hx, Option.bind_some, Bool.true_and]
    rw [hloop]
    have hm : firstB r.Rates = (y.From == 0) := by rw [e]; rfl
    rw [hm]
    cases h2 : (y.From == 0) with
    | false => have : (y.From != 0) = true := by simp [bne, h2]
               simp [this]
    | true =>
      have : (y.From != 0) = false := by simp [bne, h2]
      simp only [this, Bool.false_or, Bool.true_and]
      cases inB r.Transit 0 65536 <;> cases inB r.Loss 0 10000 <;> cases inB r.Share 0 1000 <;> simp
      cases okRates (-1) r.Rates <;> simp
theorem goL_rate {day : Int} : ∀ (l : List ApiDutyRate) (i : Nat) (own : Int), goL (β := Int) (fun (own : Int) _ (x : ApiDutyRate) => some (.next (if x.From ≤ day then x.Rate else own))) (fun own => own) l i own = some (l.foldl (fun own x => if x.From ≤ day then x.Rate else own) own)
  | [], _, _ => rfl
  | x :: l, i, own => by
    simp only [goL, goL_rate l (i + 1), List.foldl_cons]
theorem rate_doc (r : Rul) (day : Int) (hl : r.Rates.length ≤ 1000000) : loopM (b_wormtubref11_duty_1 r day) (0, 0) = some (rateS r.Rates day) := by
  have h := loop_list (body := b_wormtubref11_duty_1 r day) (fun (own : Int) i => (own, ((i : Nat) : Int))) (fun (own : Int) _ (x : ApiDutyRate) => some (.next (if x.From ≤ day then x.Rate else own))) (fun own => own) r.Rates ?_ ?_ 0
  · exact h.trans (goL_rate _ _ _)
  · intro own i x hx
    have hi : i < r.Rates.length := (List.getElem?_eq_some_iff.1 hx).1
    unfold b_wormtubref11_duty_1
    rw [if_pos (by simp; omega)]
    simp only [idxL_nat, hx, Option.bind_some]
    by_cases h : x.From ≤ day
    · simp only [h, decide_true, if_true, Option.bind_some, bindv, w64_next (by omega : i ≤ 4294967296)]; rfl
    · simp only [h, decide_false, Bool.false_eq_true, if_false, Option.bind_some, bindv, w64_next (by omega : i ≤ 4294967296)]; rfl
  · intro own
    unfold b_wormtubref11_duty_1
    rw [if_neg (by simp)]
theorem duty_w64 (hr : RulOk r) {a : Int} (ha : 0 ≤ a) (hb : a ≤ 17179869184) (day : Int) : w64 (Int.tdiv (w64 (a * rateS r.Rates day)) 1000) = dutyS r a day := by
  have h := hr.duty_lim (d := day) ha hb
  rw [w64_id (n := a * rateS r.Rates day) (by omega) (by omega), Int.tdiv_eq_ediv_of_nonneg h.1]
  unfold dutyS
  rw [w64_id (by omega) (by omega)]
theorem duty_doc (hr : RulOk r) {a : Int} (ha : 0 ≤ a) (hb : a ≤ 17179869184) (day : Int) : m_wormtubref11_duty r a day = some (dutyS r a day) := by
  unfold m_wormtubref11_duty
  refine bind_of (rate_doc r day (by have := hr.len; omega)) ?_
  rw [duty_w64 hr ha hb]
theorem without_doc {l : List ApiParcel} {i : Nat} (h : i < l.length) (hl : l.length ≤ 1000000) : m_wormtubref11_without l (i : Int) = some (l.take i ++ l.drop (i + 1)) := by
  unfold m_wormtubref11_without
  have e1 : sliceL l 0 (i : Int) = some (l.take i) := by unfold sliceL; rw [if_pos (by omega)]; simp
  have e2 : sliceL l ((i + 1 : Nat) : Int) l.length = some (l.drop (i + 1)) := by
    unfold sliceL; rw [if_pos (by omega)]
    simp only [Int.toNat_natCast]
    rw [List.take_of_length_le (by simp)]
  refine bind_of e1 (bind_of (appO_some' (by simp; omega)) ?_)
  rw [w64_next (by omega)]
  refine bind_of e2 (bind_of (appO_some' (by simp; omega)) ?_)
  simp
def sumsS (s : Acc) : Acc := { s with Sums := fun i => if i < 16 then s.Sums i + s.B.Bonds i else s.Sums i }
theorem sums_loop (h : SOk r n t s) (ht : t ≤ 65536) (h0 : 0 ≤ t) : loopM b_wormtubref11_night_1 (0, s) = some (sumsS s) := by
  obtain ⟨f, hf, hloop⟩ := loopM_upto (body := b_wormtubref11_night_1) (fun i (f : Nat → Int) => ((i : Int), ({ s with Sums := f } : Acc))) (fun f => ({ s with Sums := f } : Acc)) (fun i f => f = fun k => if k < i then s.Sums k + s.B.Bonds k else s.Sums k) 16
    (fun i f hi hf => by
      have e : idxO 16 ((i : Nat) : Int) = some i := idxO_nat hi
      have h1 := h.sums i hi; have h2 := h.bonds i hi
      have hfi : f i = s.Sums i := by rw [hf]; simp
      refine ⟨updN f i (s.Sums i + s.B.Bonds i), ?_, ?_⟩
      · unfold b_wormtubref11_night_1
        rw [if_pos (by simp; omega)]
        simp only [e, Option.bind_some, bindv, hfi, w64_next (by omega : i ≤ 4294967296)]
        rw [w64_id (n := s.Sums i + s.B.Bonds i) (by omega) (by omega)]
      · funext k
        by_cases hk : k = i
        · subst hk; rw [updN_self, if_pos (by omega)]
        · rw [updN_ne hk, hf]
          by_cases hlt : k < i
          · simp only [hlt, if_true]; rw [if_pos (by omega)]
          · simp only [hlt, if_false]; rw [if_neg (by omega)])
    (fun f hf => by unfold b_wormtubref11_night_1; rw [if_neg (by simp)]) 16 0 s.Sums rfl (by funext k; simp)
  have h0' : loopM b_wormtubref11_night_1 (0, s) = some ({ s with Sums := f } : Acc) := hloop
  rw [h0', hf]; rfl
end Go.Proofs.Ytadpjmaaokkhjaa
end

section
namespace Go.Proofs.Ytadpjmaaokkhjaa
open Go.Dec
variable {r : Rul} {n : Nat} {t d : Int} {s s' : Acc} {x : Ev} {p : ApiParcel}
theorem sumF_congr {f g : ApiParcel → Int} : ∀ {l : List ApiParcel}, (∀ p ∈ l, f p = g p) → sumF f l = sumF g l
  | [], _ => rfl
  | p :: l, h => by simp only [sumF]; rw [h p (List.mem_cons_self ..), sumF_congr (l := l) fun q hq => h q (List.mem_cons_of_mem _ hq)]
def nightS (r : Rul) (next : Int) (s : Acc) (pre post : List ApiParcel) : Acc :=
  { s with B := { s.B with Moving := pre ++ post.filter (fun p => !(lateS r p == next)), Used := s.B.Used + sumF ApiParcel.Amount (post.filter (fun p => lateS r p == next)), Due := s.B.Due + sumF (fun p => dutyS r p.Amount next) (post.filter (fun p => lateS r p == next)) } }
theorem night_loop (hr : RulOk r) {next : Int} : ∀ (post pre : List ApiParcel) (s : Acc), s.B.Moving = pre ++ post → pre.length + post.length ≤ 1000000 → (∀ p ∈ post, (1 ≤ p.Amount ∧ p.Amount ≤ 17179869184) ∧ 0 ≤ p.Sent ∧ p.Sent ≤ 65536) →
    0 ≤ s.B.Used → s.B.Used + sumF ApiParcel.Amount post ≤ 4611686018427387904 → 0 ≤ s.B.Due → s.B.Due + 1049 * sumF ApiParcel.Amount post ≤ 4611686018427387904 →
    loopM (b_wormtubref11_night_2 r next) ((pre.length : Int), s) = some (nightS r next s pre post)
  | [], pre, s, hm, _, _, _, _, _, _ => by
    rw [loopM_eq]
    have e : b_wormtubref11_night_2 r next ((pre.length : Int), s) = some (.done s) := by
      unfold b_wormtubref11_night_2
      rw [if_neg (by simp [hm])]
    rw [e]
    simp only [nightS, List.filter_nil, List.append_nil, sumF, Int.add_zero]
    have : s.B.Moving = pre := by simpa using hm
    rw [← this]
  | p :: post, pre, s, hm, hl, hp, u0, u1, d0, d1 => by
    have hpp := hp p (List.mem_cons_self ..)
    have hx : s.B.Moving[pre.length]? = some p := by rw [hm]; simp
    have hlen : (pre.length : Int) < s.B.Moving.length := by rw [hm, List.length_append, List.length_cons]; omega
    have ht := hr.transit
    have hw : w64 (w64 (p.Sent + r.Transit) + 1) = lateS r p := by rw [w64_id (n := p.Sent + r.Transit) (by omega) (by omega), w64_id (by omega) (by omega)]; rfl
    have hs := sumF_pos (f := ApiParcel.Amount) (l := post) fun q hq => by have := (hp q (List.mem_cons_of_mem _ hq)).1.1; omega
    simp only [sumF] at u1 d1
    simp only [List.length_cons] at hl
    by_cases hc : lateS r p = next
    · have e : b_wormtubref11_night_2 r next ((pre.length : Int), s) = some (.next ((pre.length : Int), { s with B := { s.B with Moving := pre ++ post, Used := s.B.Used + p.Amount, Due := s.B.Due + dutyS r p.Amount next } })) := by
        unfold b_wormtubref11_night_2
        have hd := hr.duty (a := p.Amount) (d := next) (by omega)
        have ht1 : s.B.Moving.take pre.length ++ s.B.Moving.drop (pre.length + 1) = pre ++ post := by rw [hm]; simp
        rw [if_pos (by simpa using hlen)]
        simp only [idxL_nat, hx, Option.bind_some, hw, hc, bne_self_eq_false, Bool.false_eq_true, if_false]
        rw [without_doc (by omega) (by rw [hm, List.length_append, List.length_cons]; omega), ht1]
        simp only [Option.bind_some, bindv]
        rw [duty_doc hr (by omega) (by omega)]
        simp only [Option.bind_some]
        rw [w64_id (n := s.B.Used + p.Amount) (by omega) (by omega), w64_id (n := s.B.Due + dutyS r p.Amount next) (by omega) (by omega)]
      have hd := hr.duty (a := p.Amount) (d := next) (by omega)
      rw [loopM_eq, e]
      have ih := night_loop hr (next := next) post pre { s with B := { s.B with Moving := pre ++ post, Used := s.B.Used + p.Amount, Due := s.B.Due + dutyS r p.Amount next } } rfl (by omega) (fun q hq => hp q (List.mem_cons_of_mem _ hq)) (by show 0 ≤ s.B.Used + p.Amount; omega) (by show s.B.Used + p.Amount + _ ≤ _; omega) (by show 0 ≤ s.B.Due + dutyS r p.Amount next; omega) (by show s.B.Due + dutyS r p.Amount next + _ ≤ _; omega)
      refine ih.trans ?_
      have hb : (lateS r p == next) = true := by simpa using hc
      simp only [nightS, List.filter_cons, hb, Bool.not_true, Bool.false_eq_true, if_false, if_true, sumF, Int.add_assoc]
    · have e : b_wormtubref11_night_2 r next ((pre.length : Int), s) = some (.next (((pre ++ [p]).length : Int), s)) := by
        unfold b_wormtubref11_night_2
        have hne : (next != lateS r p) = true := by simpa using Ne.symm hc
        rw [if_pos (by simpa using hlen)]
        simp only [idxL_nat, hx, Option.bind_some, hw, hne, if_true, bindv]
        rw [w64_next (by omega)]
        simp
      rw [loopM_eq, e]
      have ih := night_loop hr (next := next) post (pre ++ [p]) s (by rw [hm]; simp) (by simp; omega) (fun q hq => hp q (List.mem_cons_of_mem _ hq)) u0 (by omega) d0 (by omega)
      refine ih.trans ?_
      have hb : (lateS r p == next) = false := by simpa using hc
      simp only [nightS, List.filter_cons, hb, Bool.not_false, Bool.false_eq_true, if_false, if_true, List.append_assoc, List.singleton_append]
theorem night_doc (hr : RulOk r) (h : SOk r n t s) (hn : n ≤ 1000) (h0 : 0 ≤ t) (ht : t < 65536) : m_wormtubref11_night r s (t + 1) = some (passS r t (t + 1) s) := by
  unfold m_wormtubref11_night
  refine bind_of (sums_loop h (by omega) h0) ?_
  have hl := h.lim
  have hp := h.pos
  have hd := h.due
  have hk := night_loop hr (next := t + 1) s.B.Moving [] (sumsS s) rfl (by have := h.mlen; simp; omega) (fun p hp => ⟨(h.mov p hp).amount, (h.mov p hp).sent.1, by have := (h.mov p hp).sent.2; omega⟩) hp.2.2.1 (by show s.B.Used + _ ≤ _; omega) (by show 0 ≤ s.B.Due; omega) (by show s.B.Due + _ ≤ _; omega)
  have hk' : loopM (b_wormtubref11_night_2 r (t + 1)) (0, sumsS s) = some (nightS r (t + 1) (sumsS s) [] s.B.Moving) := hk
  rw [hk']
  simp only [Option.bind_some, nightS, passS, sumsS, List.nil_append]
  have e1 : s.B.Moving.filter (fun p => !(lateS r p == t + 1)) = s.B.Moving.filter (fun p => decide (t + 1 < lateS r p)) := List.filter_congr fun p hp => by
    have := (h.mov p hp).late
    by_cases e : lateS r p = t + 1
    · simp [e]
    · have e2 : t + 1 < lateS r p := by omega
      simp [e, e2]
  have e2 : s.B.Moving.filter (fun p => lateS r p == t + 1) = s.B.Moving.filter (fun p => !decide (t + 1 < lateS r p)) := List.filter_congr fun p hp => by
    have := (h.mov p hp).late
    by_cases e : lateS r p = t + 1
    · simp [e]
    · have e2 : t + 1 < lateS r p := by omega
      simp [e, e2]
  have e3 : sumF (fun p => dutyS r p.Amount (t + 1)) (s.B.Moving.filter (fun p => !decide (t + 1 < lateS r p))) = sumF (fun p => dutyS r p.Amount (lateS r p)) (s.B.Moving.filter (fun p => !decide (t + 1 < lateS r p))) := sumF_congr fun p hp => by
    have h1 := List.mem_filter.1 hp
    have h2 := (h.mov p h1.1).late
    have h3 : ¬ t + 1 < lateS r p := by simpa using h1.2
    have : lateS r p = t + 1 := by omega
    rw [this]
  have e4 : t + 1 - t = 1 := by omega
  rw [e1, e2, e3, e4]
  simp only [Int.mul_one]
theorem goL_find {id : Int} : ∀ (l : List ApiParcel) (k : Nat), goL (fun (_ : Unit) i (h : ApiParcel) => if h.Id == id then some (.done (.inr (i : Int))) else some (.next ())) (fun _ => (.inl () : Unit ⊕ Int)) l k () = some (match l.findIdx? (fun q => q.Id == id) with | some i => .inr ((k + i : Nat) : Int) | none => .inl ())
  | [], k => rfl
  | h :: l, k => by
    simp only [goL, List.findIdx?_cons]
    by_cases hb : (h.Id == id) = true
    · simp [hb]
    · simp only [Bool.not_eq_true] at hb
      simp only [hb, Bool.false_eq_true, if_false, goL_find l (k + 1)]
      cases l.findIdx? (fun q => q.Id == id) with
      | none => rfl
      | some i => simp; omega
theorem find_doc {id : Int} (hl : s.B.Moving.length ≤ 1000000) : m_wormtubref11_find s id = some (match s.B.Moving.findIdx? (fun q => q.Id == id) with | some i => (i : Int) | none => -1) := by
  have h := loop_list (body := b_wormtubref11_find_1 s id) (fun (_ : Unit) i => ((i : Nat) : Int)) (fun (_ : Unit) i (h : ApiParcel) => if h.Id == id then some (.done (.inr (i : Int))) else some (.next ())) (fun _ => (.inl () : Unit ⊕ Int)) s.B.Moving ?_ ?_ ()
  · unfold m_wormtubref11_find
    have h' : loopM (b_wormtubref11_find_1 s id) 0 = _ := h.trans (goL_find s.B.Moving 0)
    rw [h']
    cases s.B.Moving.findIdx? (fun q => q.Id == id) with
    | none => rfl
    | some i => simp
  · intro t i x hx
    have hi : i < s.B.Moving.length := (List.getElem?_eq_some_iff.1 hx).1
    unfold b_wormtubref11_find_1
    rw [if_pos (by simp; omega), idxL_nat, hx, Option.bind_some]
    split
    · rfl
    · simp only [bindv, w64_next (by omega : i ≤ 4294967296)]; rfl
  · intro t
    unfold b_wormtubref11_find_1
    rw [if_neg (by simp)]
theorem find_idx {l : List ApiParcel} {id : Int} (h : l.Pairwise (fun p q => p.Id < q.Id)) : match l.find? (fun q => q.Id == id) with
    | none => l.findIdx? (fun q => q.Id == id) = none
    | some p => ∃ i, l.findIdx? (fun q => q.Id == id) = some i ∧ i < l.length ∧ l[i]? = some p ∧ l.take i ++ l.drop (i + 1) = l.filter (fun q => !(q.Id == id)) := by
  induction l with
  | nil => rfl
  | cons y l ih =>
    have hy := List.pairwise_cons.1 h
    have ih := ih hy.2
    rw [List.find?_cons, List.findIdx?_cons]
    by_cases e : (y.Id == id) = true
    · simp only [e, if_true]
      refine ⟨0, rfl, by simp, rfl, ?_⟩
      have e' : y.Id = id := by simpa using e
      have : l.filter (fun q => !(q.Id == id)) = l := List.filter_eq_self.2 fun q hq => by have := hy.1 q hq; simp; omega
      rw [List.filter_cons, this]; simp [e]
    · simp only [Bool.not_eq_true] at e
      simp only [e, Bool.false_eq_true, if_false]
      cases hf : l.find? (fun q => q.Id == id) with
      | none =>
        have ih : l.findIdx? (fun q => q.Id == id) = none := by rw [hf] at ih; exact ih
        simp [ih]
      | some p =>
        rw [hf] at ih
        obtain ⟨i, h1, h2, h3, h4⟩ := ih
        refine ⟨i + 1, by simp [h1], by simp; omega, by simpa using h3, ?_⟩
        rw [List.filter_cons, e]
        simp [h4]
theorem missing_doc (hr : RulOk r) {lost allowed day : Int} (h1 : 0 ≤ lost ∧ lost ≤ 17179869184) (h2 : 0 ≤ allowed) (h3 : allowed ≤ 4611686018427387904) (h4 : 0 ≤ s.B.Lost ∧ s.B.Lost ≤ 4611686018427387904) (h5 : 0 ≤ s.B.Charged ∧ s.B.Charged ≤ 4611686018427387904) (h6 : 0 ≤ s.B.Due ∧ s.B.Due ≤ 4611686018427387904) :
    m_wormtubref11_missing r s lost allowed day = some (missS r day lost allowed s) := by
  have e := imin_spec (a := lost) (b := allowed)
  have hd := hr.duty (a := lost - imin lost allowed) (d := day) (by omega)
  unfold m_wormtubref11_missing missS
  simp only [bindv]
  rw [w64_id (n := lost - imin lost allowed) (by omega) (by omega), duty_doc hr (by omega) (by omega)]
  simp only [Option.bind_some]
  rw [w64_id (n := s.B.Lost + imin lost allowed) (by omega) (by omega), w64_id (n := s.B.Charged + (lost - imin lost allowed)) (by omega) (by omega), w64_id (n := s.B.Due + dutyS r (lost - imin lost allowed) day) (by omega) (by omega)]
end Go.Proofs.Ytadpjmaaokkhjaa
end

section
namespace Go.Proofs.Ytadpjmaaokkhjaa
open Go.Dec
variable {r : Rul} {n : Nat} {t d : Int} {s s' : Acc} {x : Ev} {p : ApiParcel}
def outA (s : Acc) : Acc ⊕ Int → Acc × Int
  | .inl a => (a, 0)
  | .inr e => (s, e)
theorem idx_bond (h : 0 ≤ x.Bond ∧ x.Bond ≤ 15) : idxO 16 x.Bond = some x.Bond.toNat := by unfold idxO; rw [if_pos (by omega)]
theorem bondB_of (h : 0 ≤ x.Bond ∧ x.Bond ≤ 15) : bondB x.Bond = true := by unfold bondB; exact inB_iff.2 h
theorem here_range (h : SOk r n t s) (hb : 0 ≤ x.Bond ∧ x.Bond ≤ 15) : 0 ≤ hereS s x ∧ hereS s x ≤ 17179869184 := h.bonds _ (bond_lt hb)
theorem distil_doc (h : SOk r n t s) (hn : n ≤ 1000) (he : evB x = true) (k : x.Kind = 0) : m_wormtubref11_do r s x = some (outA s (doS r s x)) := by
  obtain ⟨hb, ha⟩ := ev_plain he (.inl k)
  have hh := here_range h hb
  have hl := h.lim; have hp := h.pos
  unfold m_wormtubref11_do doS
  simp only [k, ref_bond, bondB_of hb, idx_bond hb, if_true, Option.bind_some, bindv, BEq.rfl, distilS]
  have e : s.B.Bonds x.Bond.toNat = hereS s x := rfl
  rw [e, w64_id (n := hereS s x + x.Amount) (by omega) (by omega)]
  by_cases hlim : hereS s x + x.Amount > 17179869184
  · simp only [hlim, decide_true, if_true, outA]
  · simp only [hlim, decide_false, Bool.false_eq_true, if_false, outA]
    rw [w64_id (n := s.B.Made + x.Amount) (by omega) (by omega)]
    rfl
theorem ids_loop (hl : s.Ids.length ≤ 1000000) : loopM (b_wormtubref11_do_1 s x) 0 = some (if s.Ids.contains x.Id then .inr (s, 5) else .inl ()) := by
  have h := loop_list (body := b_wormtubref11_do_1 s x) (fun (_ : Unit) i => ((i : Nat) : Int)) (fun (_ : Unit) _ (a : Int) => if a == x.Id then some (.done (.inr (s, 5))) else some (.next ())) (fun _ => (.inl () : Unit ⊕ (Acc × Int))) s.Ids ?_ ?_ ()
  · have h' : loopM (b_wormtubref11_do_1 s x) 0 = _ := h.trans (goL_any (fun a => a == x.Id) (Sum.inr (s, 5) : Unit ⊕ (Acc × Int)) (.inl ()) s.Ids 0)
    rw [h', List.any_beq']
  · intro t i y hy
    have hi : i < s.Ids.length := (List.getElem?_eq_some_iff.1 hy).1
    unfold b_wormtubref11_do_1
    rw [if_pos (by simp; omega), idxL_nat, hy, Option.bind_some]
    split
    · rfl
    · simp only [bindv, w64_next (by omega : i ≤ 4294967296)]; rfl
  · intro t
    unfold b_wormtubref11_do_1
    rw [if_neg (by simp)]
theorem place_loop {u : Acc} : ∀ (post pre : List ApiParcel), u.B.Moving = pre ++ post → u.B.Moving.length ≤ 1000000 → loopM (b_wormtubref11_do_2 x u) (pre.length : Int) = some ((pre.length + (post.takeWhile (fun q => decide (q.Id < x.Id))).length : Nat) : Int)
  | [], pre, hm, hl => by
    rw [loopM_eq]
    have e : b_wormtubref11_do_2 x u (pre.length : Int) = some (.done (pre.length : Int)) := by
      unfold b_wormtubref11_do_2
      rw [if_neg (by simp [hm])]; rfl
    rw [e]; rfl
  | p :: post, pre, hm, hl => by
    have hx : u.B.Moving[pre.length]? = some p := by rw [hm]; simp
    have hlen : (pre.length : Int) < u.B.Moving.length := by rw [hm, List.length_append, List.length_cons]; omega
    have e : b_wormtubref11_do_2 x u (pre.length : Int) = some (if decide (p.Id < x.Id) then .next (((pre ++ [p]).length : Nat) : Int) else .done (pre.length : Int)) := by
      unfold b_wormtubref11_do_2
      rw [if_pos (by simpa using hlen)]
      simp only [idxL_nat, hx, Option.bind_some, bindv]
      split
      · rw [w64_next (by omega)]; simp
      · rfl
    rw [loopM_eq, e]
    by_cases hc : p.Id < x.Id
    · simp only [hc, decide_true, if_true]
      refine (place_loop post (pre ++ [p]) (by rw [hm]; simp) hl).trans ?_
      rw [List.takeWhile_cons]; simp only [hc, decide_true, if_true, List.length_append, List.length_cons, List.length_nil]
      congr 2; omega
    · simp only [hc, decide_false, Bool.false_eq_true, if_false]
      rw [List.takeWhile_cons]; simp [hc]
theorem ins_take {q : ApiParcel} : ∀ {l : List ApiParcel}, insS q l = l.take (l.takeWhile (fun y => decide (y.Id < q.Id))).length ++ q :: l.drop (l.takeWhile (fun y => decide (y.Id < q.Id))).length
  | [] => rfl
  | y :: l => by
    simp only [insS]
    by_cases h : y.Id < q.Id
    · rw [if_pos h, List.takeWhile_cons]
      simp only [h, decide_true, if_true, List.length_cons, List.take_succ_cons, List.drop_succ_cons, List.cons_append]
      rw [← ins_take]
    · rw [if_neg h, List.takeWhile_cons]; simp [h]
theorem takeWhile_len {α : Type} {c : α → Bool} : ∀ {l : List α}, (l.takeWhile c).length ≤ l.length
  | [] => Nat.le_refl _
  | y :: l => by
    rw [List.takeWhile_cons]
    split
    · have := takeWhile_len (c := c) (l := l); simp; omega
    · simp
theorem send_doc (h : SOk r n t s) (hn : n ≤ 1000) (he : evB x = true) (k : x.Kind = 1) : m_wormtubref11_do r s x = some (outA s (doS r s x)) := by
  obtain ⟨hb, hto, hid, ha⟩ := ev_send he k
  have hh := here_range h hb
  have h1 := h.mlen; have h2 := h.ilen
  unfold m_wormtubref11_do doS
  simp only [k, ref_bond, bondB_of hb, idx_bond hb, if_true, Option.bind_some, bindv, BEq.rfl, sendS, Int.reduceBEq, Bool.false_eq_true, if_false]
  have e : s.B.Bonds x.Bond.toNat = hereS s x := rfl
  rw [e]
  by_cases hne : (x.Bond == x.To) = true
  · simp only [hne, if_true, outA]
  · simp only [hne, Bool.false_eq_true, if_false]
    rw [ids_loop (by omega)]
    by_cases hc : s.Ids.contains x.Id = true
    · simp only [hc, if_true, Option.bind_some, outA]
    · simp only [hc, Bool.false_eq_true, if_false, Option.bind_some]
      by_cases hlim : hereS s x < x.Amount
      · simp only [hlim, decide_true, if_true, outA]
      · simp only [hlim, decide_false, Bool.false_eq_true, if_false, outA]
        rw [w64_id (n := hereS s x - x.Amount) (by omega) (by omega)]
        refine bind_of (appO_some' (by simp; omega)) (bind_of (appO_some' (by simp; omega)) ?_)
        have hk := takeWhile_len (c := fun q : ApiParcel => decide (q.Id < x.Id)) (l := s.B.Moving)
        have hp := place_loop (x := x) (u := { putB s x (hereS s x - x.Amount) with Ids := [] ++ s.Ids ++ [x.Id] }) s.B.Moving [] rfl (by show s.B.Moving.length ≤ _; omega)
        simp only [List.length_nil, Nat.zero_add, Int.natCast_zero] at hp
        refine bind_of hp ?_
        have e1 : sliceL s.B.Moving ((s.B.Moving.takeWhile (fun q => decide (q.Id < x.Id))).length : Int) s.B.Moving.length = some (s.B.Moving.drop (s.B.Moving.takeWhile (fun q => decide (q.Id < x.Id))).length) := by
          unfold sliceL; rw [if_pos (by omega)]
          simp only [Int.toNat_natCast]
          rw [List.take_of_length_le (by simp)]
        have e2 : sliceL s.B.Moving 0 ((s.B.Moving.takeWhile (fun q => decide (q.Id < x.Id))).length : Int) = some (s.B.Moving.take (s.B.Moving.takeWhile (fun q => decide (q.Id < x.Id))).length) := by
          unfold sliceL; rw [if_pos (by omega)]; simp
        refine bind_of e1 (bind_of (appO_some' (by simp; omega)) (bind_of e2 (bind_of (appO_some' (by simp; omega)) (bind_of (appO_some' (by simp; omega)) ?_))))
        simp only [putB, List.nil_append, List.singleton_append, parS, ins_take]
theorem receive_doc (hr : RulOk r) (h : SOk r n t s) (hn : n ≤ 1000) (he : evB x = true) (k : x.Kind = 2) : m_wormtubref11_do r s x = some (outA s (doS r s x)) := by
  obtain ⟨hb, hid, ha⟩ := ev_receive he k
  have hh := here_range h hb
  have h1 := h.mlen; have h2 := h.ilen
  have hl := h.lim; have hp := h.pos; have hdu := h.due
  unfold m_wormtubref11_do doS
  simp only [k, ref_bond, bondB_of hb, idx_bond hb, if_true, Option.bind_some, bindv, BEq.rfl, receiveS, Int.reduceBEq, Bool.false_eq_true, if_false]
  have e : s.B.Bonds x.Bond.toNat = hereS s x := rfl
  rw [e, find_doc (by omega)]
  have hf := find_idx (id := x.Id) h.sorted
  cases hq : s.B.Moving.find? (fun q => q.Id == x.Id) with
  | none =>
    rw [hq] at hf
    have hf : s.B.Moving.findIdx? (fun q => q.Id == x.Id) = none := hf
    rw [hf]; rfl
  | some p =>
    rw [hq] at hf
    obtain ⟨i, f1, f2, f3, f4⟩ := hf
    obtain ⟨hmem, hpid, _⟩ := out_perm h.sorted hq
    have hpk := h.mov p hmem
    have hpa := hpk.amount
    have en : decide (((i : Nat) : Int) < 0) = false := by simp
    rw [f1]
    simp only [Option.bind_some, en, Bool.false_eq_true, if_false, idxL_nat, f3]
    by_cases hto : (p.To != x.Bond) = true
    · simp only [hto, if_true, outA]
    · simp only [hto, Bool.false_eq_true, if_false]
      rw [w64_id (n := hereS s x + x.Amount) (by omega) (by omega)]
      by_cases hlim : hereS s x + x.Amount > 17179869184
      · simp only [hlim, decide_true, if_true, outA]
      · simp only [hlim, decide_false, Bool.false_eq_true, if_false, outA]
        refine bind_of (without_doc f2 (by omega)) ?_
        have hlo := hr.loss
        have hal0 : 0 ≤ p.Amount * r.Loss := Int.mul_nonneg (by omega) hlo.1
        have hal1 : p.Amount * r.Loss ≤ 17179869184 * 10000 := Int.mul_le_mul hpa.2 hlo.2 hlo.1 (by omega)
        have e1 := imax_spec (a := 0) (b := p.Amount - x.Amount)
        have e2 := imax_spec (a := 0) (b := x.Amount - p.Amount)
        rw [w64_id (n := x.Amount - p.Amount) (by omega) (by omega), w64_id (n := p.Amount - x.Amount) (by omega) (by omega), w64_id (n := p.Amount * r.Loss) (by omega) (by omega), Int.tdiv_eq_ediv_of_nonneg hal0, w64_id (n := p.Amount * r.Loss / 10000) (by omega) (by omega), w64_id (n := s.B.Found + imax 0 (x.Amount - p.Amount)) (by omega) (by omega)]
        refine bind_of (missing_doc hr (by omega) (by omega) (by omega) ⟨hp.2.2.2.2.1, by show s.B.Lost ≤ _; omega⟩ ⟨hp.2.2.2.2.2.1, by show s.B.Charged ≤ _; omega⟩ ⟨by show 0 ≤ s.B.Due; omega, by show s.B.Due ≤ _; omega⟩) ?_
        rw [f4]; rfl
theorem draw_doc (hr : RulOk r) (h : SOk r n t s) (hn : n ≤ 1000) (he : evB x = true) (k : x.Kind = 3 ∨ x.Kind = 4) : m_wormtubref11_do r s x = some (outA s (doS r s x)) := by
  obtain ⟨hb, ha⟩ := ev_plain he (.inr k)
  have hh := here_range h hb
  have hl := h.lim; have hp := h.pos; have hdu := h.due
  have e : s.B.Bonds x.Bond.toNat = hereS s x := rfl
  have hd := hr.duty (a := x.Amount) (d := x.Day) (by omega)
  unfold m_wormtubref11_do doS
  rcases k with k | k
  · simp only [k, ref_bond, bondB_of hb, idx_bond hb, if_true, Option.bind_some, bindv, BEq.rfl, releaseS, Int.reduceBEq, Bool.false_eq_true, if_false]
    rw [e]
    by_cases hlim : hereS s x < x.Amount
    · simp only [hlim, decide_true, if_true, outA]
    · simp only [hlim, decide_false, Bool.false_eq_true, if_false, outA]
      rw [duty_doc hr (by omega) (by omega)]
      simp only [Option.bind_some]
      rw [w64_id (n := hereS s x - x.Amount) (by omega) (by omega), w64_id (n := s.B.Used + x.Amount) (by omega) (by omega), w64_id (n := s.B.Due + dutyS r x.Amount x.Day) (by omega) (by omega)]
      rfl
  · simp only [k, ref_bond, bondB_of hb, idx_bond hb, if_true, Option.bind_some, bindv, BEq.rfl, exportS, Int.reduceBEq, Bool.false_eq_true, if_false]
    rw [e]
    by_cases hlim : hereS s x < x.Amount
    · simp only [hlim, decide_true, if_true, outA]
    · simp only [hlim, decide_false, Bool.false_eq_true, if_false, outA]
      rw [w64_id (n := hereS s x - x.Amount) (by omega) (by omega), w64_id (n := s.B.Exported + x.Amount) (by omega) (by omega)]
      rfl
theorem take_doc (hr : RulOk r) (h : SOk r n t s) (hn : n ≤ 1000) (h0 : 0 ≤ t) (ht : t ≤ 65536) (he : evB x = true) (k : x.Kind = 5) : m_wormtubref11_do r s x = some (outA s (doS r s x)) := by
  obtain ⟨hb, ha⟩ := ev_take he k
  have hh := here_range h hb
  have hl := h.lim; have hp := h.pos; have hdu := h.due
  have e : s.B.Bonds x.Bond.toNat = hereS s x := rfl
  have hsu := h.sums _ (bond_lt hb)
  have hsh := hr.share
  have hal0 : 0 ≤ s.Sums x.Bond.toNat * r.Share := Int.mul_nonneg hsu.1 hsh.1
  have hal1 : s.Sums x.Bond.toNat * r.Share ≤ 65536 * 17179869184 * 1000 := Int.mul_le_mul (by omega) hsh.2 hsh.1 (by omega)
  have e1 := imax_spec (a := 0) (b := hereS s x - x.Amount)
  have e2 := imax_spec (a := 0) (b := x.Amount - hereS s x)
  unfold m_wormtubref11_do doS
  simp only [k, ref_bond, bondB_of hb, idx_bond hb, if_true, Option.bind_some, bindv, BEq.rfl, Int.reduceBEq, Bool.false_eq_true, if_false, outA]
  rw [e]
  rw [w64_id (n := x.Amount - hereS s x) (by omega) (by omega), w64_id (n := hereS s x - x.Amount) (by omega) (by omega), w64_id (n := s.Sums x.Bond.toNat * r.Share) (by omega) (by omega), Int.tdiv_eq_ediv_of_nonneg hal0, w64_id (n := s.Sums x.Bond.toNat * r.Share / 3650000) (by omega) (by omega), w64_id (n := s.B.Found + imax 0 (x.Amount - hereS s x)) (by omega) (by omega)]
  refine bind_of (missing_doc hr (by omega) (by omega) (by omega) ⟨hp.2.2.2.2.1, by show s.B.Lost ≤ _; omega⟩ ⟨hp.2.2.2.2.2.1, by show s.B.Charged ≤ _; omega⟩ ⟨by show 0 ≤ s.B.Due; omega, by show s.B.Due ≤ _; omega⟩) ?_
  rfl
theorem pay_doc (h : SOk r n t s) (hn : n ≤ 1000) (he : evB x = true) (k : x.Kind = 6) : m_wormtubref11_do r s x = some (outA s (doS r s x)) := by
  have ha := ev_pay he k
  have hl := h.lim; have hp := h.pos; have hdu := h.due
  obtain ⟨v, hv⟩ : ∃ v, (if bondB x.Bond = true then ((idxO 16 x.Bond).bind fun j28 => some (s.B.Bonds j28)) else some (s.B.Bonds 0)) = some v := by
    split
    · rename_i hb
      rw [idx_bond (inB_iff.1 hb)]; exact ⟨_, rfl⟩
    · exact ⟨_, rfl⟩
  unfold m_wormtubref11_do doS
  simp only [k, ref_bond, bindv, BEq.rfl, Int.reduceBEq, Bool.false_eq_true, if_false, if_true, payS]
  refine bind_of hv ?_
  rw [w64_id (n := s.B.Due - s.B.Paid) (by omega) (by omega)]
  by_cases hlim : x.Amount > s.B.Due - s.B.Paid
  · simp only [hlim, decide_true, if_true, outA, Option.bind_some]
    rfl
  · simp only [hlim, decide_false, Bool.false_eq_true, if_false, outA, Option.bind_some]
    rw [w64_id (n := s.B.Paid + x.Amount) (by omega) (by omega)]
theorem do_doc (hr : RulOk r) (h : SOk r n t s) (hn : n ≤ 1000) (h0 : 0 ≤ t) (ht : t ≤ 65536) (he : evB x = true) : m_wormtubref11_do r s x = some (outA s (doS r s x)) := by
  rcases ev_kinds he with k | k | k | k | k | k | k
  · exact distil_doc h hn he k
  · exact send_doc h hn he k
  · exact receive_doc hr h hn he k
  · exact draw_doc hr h hn he (.inl k)
  · exact draw_doc hr h hn he (.inr k)
  · exact take_doc hr h hn h0 ht he k
  · exact pay_doc h hn he k
end Go.Proofs.Ytadpjmaaokkhjaa
end

section
namespace Go.Proofs.Ytadpjmaaokkhjaa
open Go.Dec Go.Shelf Go.RowKit Go.Maps Go.Sort
noncomputable def m_excise_office_late (A1 : List ExciseOffice) (o2 : (Option Nat)) (p6 : ApiParcel) : Option ((Int)) :=
 (o2).bind fun i11 => (A1[i11]?).bind fun x16 => some (w64 ((w64 (p6.Sent + x16.rules.Transit)) + 1))
set_option maxHeartbeats 4000000 in
theorem c_excise_office_late (F0 : Fz) (Γ : Gam) (A1 : List ExciseOffice) (o2 : (Option Nat)) (p3 : Option Addr) (_k4 : Unit) (h5 : RepPtr Γ.g66 F0 p3 o2) (p6 : ApiParcel) : CTH Try.prog 37 [(.pointer p3), (eApiParcel p6)].toArray F0 [arena Γ.g66 (C66 Γ) F0 A1] (m_excise_office_late A1 o2 p6) (fun (r : Int) _ v => v = (.int .i64 r)) (fun (_r : Int) F' => [arena Γ.g66 (C66 Γ) F' A1]) := by
 refine CTH.enter Try.func37 rfl Try.ntmps37 rfl fun r R => ?_
 refine .norm (Sub.refl _) (rfl : _ = [arena Γ.g66 (C66 Γ) F0 A1, R]) ?_
 unfold m_excise_office_late
 refine .seq ?_
 refine .region ?_
 refine .boxF (cs := (cApiParcel p6)) rfl rfl rfl (fun b7 F_8 l_9 hb10 => ?_)
 refine .assign rfl rfl ?_
 refine .nil ?_
 refine .code ?_
 refine .seq ?_
 refine .keep (.cons (k := 0) rfl (.cons (k := 3) rfl (.nil _))) ?_
 refine .drawZ 10 mixedOK (by kernel_rfl) ?_
 refine .fieldAddr rfl Try.underlying49 rfl Try.sizeOf3 rfl ?_
 refine .loadF rfl Try.isAgg3 rfl hb10 rfl ?_
 refine .move rfl rfl ?_
 refine .bind (fun i11 e12 => ?_)
 obtain ⟨b13, hb14, hp15⟩ := (h5.mono l_9).at e12
 refine .nilCheckR hp15 rfl rfl ?_
 refine .fieldAddr rfl Try.underlying66 rfl Try.sizeOf24 rfl ?_
 refine .fieldAddr rfl Try.underlying24 rfl Try.sizeOf3 rfl ?_
 refine .bind (fun x16 e17 => ?_)
 refine .loadR (Φ := fun v => v = (.int .i64 x16.rules.Transit)) 0 rfl l_9 hb14 e17 rfl Try.isAgg3 rfl (fun vs ⟨q0, q1, q2, q3, q4, q5, q6, q7, h, r0, r1, r2, r3⟩ => ⟨_, by subst h; exact rfl, rfl⟩) (fun v hv => ?_)
 subst hv
 refine .add rfl rfl rfl ?_
 refine .add rfl rfl rfl ?_
 refine .assign rfl rfl ?_
 refine .pend ?_
 refine .nil ?_
 refine .code ?_
 refine .upR 0 (stays66 Γ) l_9 rfl ?_
 exact .retH [0, 0] Try.results37 (.tmp rfl (.nil)) rfl l_9 rfl
noncomputable def b_excise_office_lates_1_1 (A1 : List ExciseOffice) (A3 : List (List (Int × Bool))) (c4 : (Option Nat)) (c10 : Int) (x50 : (Int × ApiParcel)) (s42 : (List (List (Int × Bool)))) : Option ((List (List (Int × Bool)))) :=
 ((m_excise_office_late A1 c4 x50.2).bind fun r_58 => (if (decide (r_58 ≤ c10)) then ((s42[A3.length]?).bind fun x65 => bindv (List.set s42 A3.length (mapSet x65 r_58 true)) fun m_63 => some m_63) else (some s42) : Option ((List (List (Int × Bool))))).bind fun j67 => some j67 : Option ((List (List (Int × Bool))))).bind fun j70 => some j70
noncomputable def b_excise_office_lates_1_2 {σ : Type} (y : Int → σ → Option (σ × Bool)) (ks86 : (List Int)) (s93 : Int × σ) : Option (Ctl (Int × σ) ((σ) ⊕ (σ))) :=
 if (decide (s93.1 < (ks86.length : Int))) then ((idxL ks86 s93.1).bind fun x97 => (y x97 s93.2).bind fun p107 => if (!p107.2) then (some (.done (.inr p107.1))) else (some (.next ((w64 (s93.1 + 1)), p107.1)))) else (some (.done (.inl s93.2)))
noncomputable def m_excise_office_lates_1 {σ : Type} (y : Int → σ → Option (σ × Bool)) (upd : List ExciseOffice × List (List (Int × ApiParcel)) × List (List (Int × Bool)) → σ) (A1 : List ExciseOffice) (A2 : List (List (Int × ApiParcel))) (A3 : List (List (Int × Bool))) (c4 : (Option Nat)) (c10 : Int) : Option σ :=
 bindv (A3 ++ [[]]) fun A15 => (c4).bind fun i20 => (A1[i20]?).bind fun x25 => (x25.moving).bind fun i30 => (A2[i30]?).bind fun x35 => (permE PermL (b_excise_office_lates_1_1 A1 A3 c4 c10) x35 A15).bind fun R_77 => (sortedO R_77 (some A3.length)).bind fun ks86 => (loopM (b_excise_office_lates_1_2 y ks86) (0, (upd (A1, A2, R_77)))).bind fun b0 => match b0 with | .inl b112 => (some b112) | .inr b112 => (some b112)
set_option maxHeartbeats 4000000 in
theorem c_excise_office_lates_1 (F0 : Fz) (Γ : Gam) (σ : Type) (ly : Nat) (Y : σ → Fz → HP) (Z : HP) (upd : List ExciseOffice × List (List (Int × ApiParcel)) × List (List (Int × Bool)) → σ) (y : Int → σ → Option (σ × Bool)) (hy : YieldOK Try.prog ly F0 (fun (x : Int) _ vs => vs = [(.int .i64 x)]) Y y) (hp : ∀ (r : List ExciseOffice × List (List (Int × ApiParcel)) × List (List (Int × Bool))) F', F0 ≤ F' → ∀ m, stars ([arena Γ.g66 (C66 Γ) F' r.1, arena Γ.g63 (C63 Γ) F' r.2.1, arena Γ.g64 (C64 Γ) F' r.2.2] ++ [Z]) m → Y (upd r) F' m) (A1 : List ExciseOffice) (A2 : List (List (Int × ApiParcel))) (A3 : List (List (Int × Bool))) (c4 : (Option Nat)) (b5 : Nat) (p7 : Option Addr) (k8 : Unit) (hb6 : F0.mem b5 = some (.cells [(.pointer p7)].toArray 60)) (h9 : RepPtr Γ.g66 F0 p7 c4) (c10 : Int) (b11 : Nat) (hb12 : F0.mem b11 = some (.cells [(.int .i64 c10)].toArray 3)) : CTH Try.prog 69 [(.func (.yield ly) #[] #[]), (.pointer (some ⟨b5, 0, none⟩)), (.pointer (some ⟨b11, 0, none⟩))].toArray F0 [arena Γ.g66 (C66 Γ) F0 A1, arena Γ.g63 (C63 Γ) F0 A2, arena Γ.g64 (C64 Γ) F0 A3, Z] (m_excise_office_lates_1 y upd A1 A2 A3 c4 c10) (fun _ _ _ => True) (fun s' F' => [Y s' F']) := by
 refine CTH.enter Try.func69 rfl Try.ntmps69 rfl fun r R => ?_
 refine .norm (Sub.refl _) (rfl : _ = [arena Γ.g66 (C66 Γ) F0 A1, arena Γ.g63 (C63 Γ) F0 A2, arena Γ.g64 (C64 Γ) F0 A3, Z, R]) ?_
 unfold m_excise_office_lates_1
 refine .seq ?_
 refine .region ?_
 refine .makeMapP (fun x : Int => (.int .i64 x)) (fun _ (x : Bool) v => v = (.bool x)) rfl (fun b13 => ?_)
 refine .letv (fun A15 e16 => ?_)
 refine .intoAt 0 2 rfl rfl (stays64 Γ) (Fz.le_refl _) (fun G m l hm => ownMapP_up (Fz.le_trans (Fz.le_refl _) l) hm) e16 (fun F_17 l_18 hb19 => ?_)
 refine .assign rfl rfl ?_
 refine .nil ?_
 refine .code ?_
 refine .seq ?_
 refine .seq ?_
 refine .region ?_
 refine .loadF rfl Try.isAgg60 rfl (l_18.mem _ _ hb6) rfl ?_
 refine .bind (fun i20 e21 => ?_)
 obtain ⟨b22, hb23, hp24⟩ := (h9.mono l_18).at e21
 refine .nilCheckR hp24 rfl rfl ?_
 refine .fieldAddr rfl Try.underlying66 rfl Try.sizeOf63 rfl ?_
 refine .bind (fun x25 e26 => ?_)
 refine .loadR (Φ := fun v => ∃ (p27 : Option Nat) (k28 : Unit), v = (.map p27) ∧ RepRef Γ.g63 F_17 p27 x25.moving) 0 rfl l_18 hb23 e26 rfl Try.isAgg63 rfl (fun vs ⟨q0, q1, q2, q3, q4, q5, q6, q7, h, r0, r1, r2, r3⟩ => ⟨_, by subst h; exact rfl, q4, q5, rfl, r2⟩) (fun v hv => ?_)
 obtain ⟨p27, k28, rfl, h29⟩ := hv
 refine .bind (fun i30 e31 => ?_)
 obtain ⟨b32, hb33, hp34⟩ := h29.at e31
 refine .bind (fun x35 e36 => ?_)
 refine .rangeR 1 rfl hb33 hp34 e36 rfl Try.underlying63 rfl (fun it37 hn38 => ?_)
 refine .nil ?_
 refine .code ?_
 refine .block ?_
 refine .keep (.cons (k := 0) rfl (.cons (k := 1) rfl (.cons (k := 2) rfl (.cons (k := 4) rfl (.cons (k := 15) rfl (.nil _)))))) ?_
 refine .upR 1 (stays66 Γ) l_18 rfl ?_
 refine .mapLoopE (B := 0) (b := (b_excise_office_lates_1_1 A1 A3 c4 c10)) PermL (fun td40 dn41 (s42 : (List (List (Int × Bool)))) a w => ∃ (F_44 : Fz), F_17 ≤ F_44 ∧ Hd 41 [] [(0, (.func (.yield ly) #[] #[])), (1, (.pointer (some ⟨b5, 0, none⟩))), (2, (.pointer (some ⟨b11, 0, none⟩))), (4, (.map (some b13))), (15, (.pointer (some ⟨it37, 0, none⟩)))] F_44 [ownIter (fun x : Int => (.int .i64 x)) (fun _ (x : ApiParcel) v => v = (eApiParcel x)) F0 b32 it37 td40 dn41, arena Γ.g66 (C66 Γ) F_44 A1, hole Γ.g63 (C63 Γ) F0 i30 b32 A2, arena Γ.g64 (C64 Γ) F_44 s42, Z, R] a w) rfl ?_ ?_ ?_ ?_
 ·exact fun a w h => ⟨F_17, (Fz.le_refl _), h.1.sub (.cons (k := 0) rfl (.cons (k := 1) rfl (.cons (k := 2) rfl (.cons (k := 4) rfl (.cons (k := 15) rfl (.nil _)))))), h.2⟩
 ·exact fun dn41 R_73 R_74 a w hE ⟨F_75, l_76, hA⟩ => ⟨F_75, l_76, Hd.arE 3 rfl hE hA⟩
 ·intro td40 dn41 s42 hall43
  rcases td40 with _ | ⟨y, ys⟩
  ·skip
   refine GC.ex (fun a w ⟨F_46, l_47, hA⟩ => ⟨_, hA, ?_⟩)
   refine .seq ?_
   refine .region ?_
   refine .nextM0 0 rfl rfl rfl rfl ?_
   refine .extract rfl rfl rfl ?_
   refine .nil ?_
   refine .code ?_
   refine .seq ?_
   refine .condF rfl ?_
   exact .exitOut rfl (MPost.over fun a w h => ⟨F_46, l_47, h.1.sub (.cons (k := 0) rfl (.cons (k := 1) rfl (.cons (k := 2) rfl (.cons (k := 4) rfl (.cons (k := 15) rfl (.nil _)))))), h.2⟩)
  ·skip
   refine GC.ex (fun a w ⟨F_48, l_49, hA⟩ => ⟨_, hA, ?_⟩)
   refine .seq ?_
   refine .region ?_
   refine .nextM1 0 rfl (List.cons_ne_nil _ _) rfl rfl rfl (fun x50 todo51 v52 hp53 hv54 => ?_)
   obtain ⟨s55, hs56⟩ := hall43 x50 (hp53.mem_iff.1 (List.mem_cons_self ..))
   refine .use hs56 ?_
   unfold b_excise_office_lates_1_1
   refine .extract rfl rfl rfl ?_
   refine .nil ?_
   refine .code ?_
   refine .seq ?_
   refine .condT rfl ?_
   refine .skip ?_
   refine .code ?_
   refine .keep (.cons (k := 0) rfl (.cons (k := 1) rfl (.cons (k := 2) rfl (.cons (k := 4) rfl (.cons (k := 15) rfl (.nil _)))))) ?_
   refine GC.join0 (σ := (List (List (Int × Bool)))) (fun j70 a w => ∃ (F_71 : Fz), F_48 ≤ F_71 ∧ Hd 41 [] [(0, (.func (.yield ly) #[] #[])), (1, (.pointer (some ⟨b5, 0, none⟩))), (2, (.pointer (some ⟨b11, 0, none⟩))), (4, (.map (some b13))), (15, (.pointer (some ⟨it37, 0, none⟩)))] F_71 [ownIter (fun x : Int => (.int .i64 x)) (fun _ (x : ApiParcel) v => v = (eApiParcel x)) F0 b32 it37 todo51 (x50 :: dn41), arena Γ.g66 (C66 Γ) F_71 A1, hole Γ.g63 (C63 Γ) F0 i30 b32 A2, arena Γ.g64 (C64 Γ) F_71 j70, Z, R] a w) (fun sj => ?_) (fun j70 hs0 => GE.ex (fun a w ⟨F_71, l_72, hA⟩ => ⟨_, hA, ?_⟩))
   ·skip
    refine .block ?_
    refine .seq ?_
    refine .region ?_
    refine .entryM 0 rfl rfl rfl rfl (fun v hv => ?_)
    obtain rfl := hv _ (Fz.le_trans l_18 l_49)
    refine .extract rfl rfl rfl ?_
    refine .alloc (cs := (cApiParcel (ApiParcel.mk 0 0 0 0 0))) rfl Try.zeroValue49 rfl (fun b57 => ?_)
    refine .store (cs' := (cApiParcel x50.2)) Try.sizeOf49 rfl rfl rfl rfl (i := 0) rfl (Nat.le_of_ble_eq_true rfl) rfl (setMany_all (by rfl)) ?_
    refine .nil ?_
    refine .code ?_
    refine .seq ?_
    refine .region ?_
    refine .loadF rfl Try.isAgg60 rfl ((Fz.le_trans l_18 l_49).mem _ _ hb6) rfl ?_
    refine .loadOA rfl Try.isAgg49 Try.sizeOf49 rfl (i := 0) rfl (vs := (cApiParcel x50.2)) (by kernel_rfl) rfl ?_
    refine .callT [2] rfl Try.call37 rfl rfl rfl rfl (c_excise_office_late _ Γ A1 c4 p7 k8 (h9.mono (Fz.le_trans l_18 l_49)) x50.2) ?_
    rintro r_58 F_59 _ e61 l_60 rfl
    refine .pick [1, 1, 0, 0, 0, 0, 0] (rfl : _ = [pt b57 (.cells (cApiParcel x50.2).toArray 49), ownIter (fun x : Int => (.int .i64 x)) (fun _ (x : ApiParcel) v => v = (eApiParcel x)) F0 b32 it37 todo51 (x50 :: dn41), arena Γ.g66 (C66 Γ) F_59 A1, hole Γ.g63 (C63 Γ) F0 i30 b32 A2, arena Γ.g64 (C64 Γ) F_48 s42, Z, R]) ?_
    refine .assign rfl rfl ?_
    refine .nil ?_
    refine .code ?_
    refine .seq ?_
    refine .region ?_
    refine .move rfl rfl ?_
    refine .loadF rfl Try.isAgg3 rfl ((Fz.le_trans l_18 (Fz.le_trans l_49 l_60)).mem _ _ hb12) rfl ?_
    refine .leq rfl rfl rfl ?_
    refine .nil ?_
    refine .code ?_
    refine .keep (.cons (k := 0) rfl (.cons (k := 1) rfl (.cons (k := 2) rfl (.cons (k := 4) rfl (.cons (k := 7) rfl (.cons (k := 15) rfl (.cons (k := 25) rfl (.nil _)))))))) ?_
    refine GC.join0 (σ := (List (List (Int × Bool)))) (fun j67 a w => ∃ (F_68 : Fz), F_59 ≤ F_68 ∧ Hd 41 [] [(0, (.func (.yield ly) #[] #[])), (1, (.pointer (some ⟨b5, 0, none⟩))), (2, (.pointer (some ⟨b11, 0, none⟩))), (4, (.map (some b13))), (15, (.pointer (some ⟨it37, 0, none⟩)))] F_68 [pt b57 (.cells (cApiParcel x50.2).toArray 49), ownIter (fun x : Int => (.int .i64 x)) (fun _ (x : ApiParcel) v => v = (eApiParcel x)) F0 b32 it37 todo51 (x50 :: dn41), arena Γ.g66 (C66 Γ) F_59 A1, hole Γ.g63 (C63 Γ) F0 i30 b32 A2, arena Γ.g64 (C64 Γ) F_68 j67, Z, R] a w) (fun sj => ?_) (fun j67 hs0 => GE.ex (fun a w ⟨F_68, l_69, hA⟩ => ⟨_, hA, ?_⟩))
    ·skip
     refine .cond rfl (fun hb62 => ?_) (fun hb62 => ?_)
     ·skip
      refine .region ?_
      refine .move rfl rfl ?_
      refine .move rfl rfl ?_
      refine .bind (fun x65 e66 => ?_)
      refine .letv (fun m_63 e64 => ?_)
      refine .mapUpdateR (key := r_58) (val := true) 4 rfl l_60 (hb19.mono (Fz.le_trans l_49 l_60)) rfl e66 Try.underlying64 (.int Try.underlying3) rfl rfl rfl (fun _ _ => rfl) e64 ?_
      refine .nil ?_
      exact .nil fun e a w h => by cases e; exact ⟨rfl, ⟨F_59, (Fz.le_refl _), h.1.sub (.cons (k := 0) rfl (.cons (k := 1) rfl (.cons (k := 2) rfl (.cons (k := 4) rfl (.cons (k := 15) rfl (.nil _)))))), h.2⟩⟩
     ·skip
      refine .skip ?_
      refine .upR 4 (stays64 Γ) l_60 rfl ?_
      exact .nil fun e a w h => by cases e; exact ⟨rfl, ⟨F_59, (Fz.le_refl _), h.1.sub (.cons (k := 0) rfl (.cons (k := 1) rfl (.cons (k := 2) rfl (.cons (k := 4) rfl (.cons (k := 15) rfl (.nil _)))))), h.2⟩⟩
    refine .block ?_
    refine .drop 0 ?_
    refine .upR 1 (stays66 Γ) l_69 rfl ?_
    exact .nil fun e a w h => by cases e; exact ⟨rfl, ⟨F_68, (Fz.le_trans l_60 l_69), h.1.sub (.cons (k := 0) rfl (.cons (k := 1) rfl (.cons (k := 2) rfl (.cons (k := 4) rfl (.cons (k := 15) rfl (.nil _)))))), h.2⟩⟩
   exact .nil (MPost.norm hp53 hs56 fun a w h => ⟨F_71, (Fz.le_trans l_49 l_72), h.1.sub (.cons (k := 0) rfl (.cons (k := 1) rfl (.cons (k := 2) rfl (.cons (k := 4) rfl (.cons (k := 15) rfl (.nil _)))))), h.2⟩)
 ·intro dn41 R_77 hR78 hp79
  refine GE.ex (fun a w ⟨F_80, l_81, hA⟩ => ⟨_, hA, ?_⟩)
  refine .iterBack 0 1 rfl rfl (Fz.le_trans l_18 l_81) (Fz.le_trans l_18 l_81) hp79 hn38 (set_back e36) ?_
  refine .code ?_
  refine .seq ?_
  refine .region ?_
  refine .move rfl rfl ?_
  refine .keysC keysOf70 rfl Try.call70 rfl rfl (fun b82 F_83 l_84 hb85 => ?_)
  refine .sortedX Try.underlying3 sortedKeys82 (c := (Ex (cInt .i64))) (fun _ _ => rfl) (hb85) 2 rfl ((RepRef.of hb19).mono (Fz.le_trans l_81 l_84)) rfl Try.call26 rfl rfl (fun ks86 F_87 p88 c89 e90 l_91 h92 => ?_)
  refine .lenS rfl rfl Try.underlying41 rfl ?_
  refine .move rfl rfl ?_
  refine .nil ?_
  refine .code ?_
  refine .upR 0 (stays66 Γ) (Fz.le_trans l_84 l_91) rfl ?_
  refine .upR 1 (stays63 Γ) (Fz.le_trans l_84 l_91) rfl ?_
  refine .upR 2 (stays64 Γ) (Fz.le_trans l_84 l_91) rfl ?_
  refine .packY (Hs := [arena Γ.g66 (C66 Γ) F_87 A1, arena Γ.g63 (C63 Γ) F_87 A2, arena Γ.g64 (C64 Γ) F_87 R_77, Z]) (Y := Y (upd (A1, A2, R_77)) F_87) [0, 0, 0, 0] rfl (hp (A1, A2, R_77) _ (Fz.le_trans l_18 (Fz.le_trans l_81 (Fz.le_trans l_84 l_91)))) ?_
  refine .norm (Sub.refl _) (rfl : _ = [Y (upd (A1, A2, R_77)) F_87, R]) ?_
  refine .block ?_
  refine .keep (.cons (k := 0) rfl (.cons (k := 30) rfl (.cons (k := 31) rfl (.cons (k := 32) rfl (.nil _))))) ?_
  refine .loop (fun (s93 : Int × σ) a w => ∃ (F_94 : Fz), F_87 ≤ F_94 ∧ Hd 41 [] [(0, (.func (.yield ly) #[] #[])), (30, (.slice p88 ks86.length c89)), (31, (.int .i64 (ks86.length : Int))), (32, (.int .i64 s93.1))] F_94 [Y s93.2 F_94, R] a w) (fun b0 e a w => match b0 with | .inl b112 => e = .exit 2 ∧ ∃ (F_113 : Fz), F_87 ≤ F_113 ∧ Hd 41 [] [] F_113 [Y b112 F_113, R] a w | .inr b112 => e = .ret ∧ ∃ (F_115 : Fz), F_87 ≤ F_115 ∧ Hd 41 [] [] F_115 [Y b112 F_115, R] a w) ?_ ?_ ?_
  ·exact fun a w h => ⟨F_87, (Fz.le_refl _), h.1.sub (.cons (k := 0) rfl (.cons (k := 30) rfl (.cons (k := 31) rfl (.cons (k := 32) rfl (.nil _))))), h.2⟩
  ·intro s93 ctl
   refine GC.ex (fun a w ⟨F_94, l_95, hA⟩ => ⟨_, hA, ?_⟩)
   unfold b_excise_office_lates_1_2
   refine .seq ?_
   refine .region ?_
   refine .lss rfl rfl rfl ?_
   refine .nil ?_
   refine .code ?_
   refine .seq ?_
   refine .cond rfl (fun hb96 => ?_) (fun hb96 => ?_)
   ·skip
    refine .skip ?_
    refine .code ?_
    refine .seq ?_
    refine .block ?_
    refine .seq ?_
    refine .region ?_
    refine .idx rfl Try.underlying41 Try.sizeOf3 (h92.mono l_95) rfl rfl (fun x97 b98 o99 T100 fr101 cs102 e103 hm104 hv105 => ?_)
    refine .loadF rfl Try.isAgg3 rfl hm104 (cell_of_take (k := 0) hv105 rfl) ?_
    refine .assign rfl rfl ?_
    refine .nil ?_
    refine .code ?_
    refine .seq ?_
    refine .region ?_
    refine .move rfl rfl ?_
    refine .move rfl rfl ?_
    refine .callY rfl hy rfl rfl rfl (i := 0) rfl (Fz.le_trans l_18 (Fz.le_trans l_81 (Fz.le_trans l_84 (Fz.le_trans l_91 l_95)))) (Fz.le_refl _) (fun p107 F_108 e110 l_109 => ?_)
    refine .not rfl rfl ?_
    refine .nil ?_
    refine .code ?_
    refine .cond rfl (fun hb111 => ?_) (fun hb111 => ?_)
    ·skip
     refine .retQ (LPost.ret fun a w h => ⟨rfl, F_108, (Fz.le_trans l_95 l_109), h.1.sub (.nil _), h.2⟩)
    ·skip
     refine .skip ?_
     refine .block ?_
     refine .code ?_
     refine .region ?_
     refine .add rfl rfl rfl ?_
     refine .move rfl rfl ?_
     refine .nil ?_
     exact .nil (LPost.norm fun a w h => ⟨F_108, (Fz.le_trans l_95 l_109), h.1.sub (.cons (k := 0) rfl (.cons (k := 30) rfl (.cons (k := 31) rfl (.cons (k := 32) rfl (.nil _))))), h.2⟩)
   ·skip
    refine .exitOut rfl (LPost.exit fun a w h => ⟨rfl, F_94, l_95, h.1.sub (.nil _), h.2⟩)
  ·intro b112 hb0 hk e a w hD
   rcases b112 with b112 | b112
   ·skip
    obtain ⟨rfl, F_113, l_114, hA⟩ := hD
    refine interp_exit rfl (GE.app ?_ hk a w hA)
    exact .endH [0, 0] Try.results69 .nil rfl (Fz.le_trans l_18 (Fz.le_trans l_81 (Fz.le_trans l_84 (Fz.le_trans l_91 l_114)))) trivial
   obtain ⟨rfl, F_115, l_116, hA⟩ := hD
   exact interp_ret ((ret_postH [0, 0] Try.results69 .nil rfl (Fz.le_trans l_18 (Fz.le_trans l_81 (Fz.le_trans l_84 (Fz.le_trans l_91 l_116)))) trivial) hk a w hA)
noncomputable def L_excise_office_lates_1 (A1 : List ExciseOffice) (A2 : List (List (Int × ApiParcel))) (A3 : List (List (Int × Bool))) (c4 : Option Nat) (c10 : Int) : Option ((List ExciseOffice × List (List (Int × ApiParcel)) × List (List (Int × Bool))) × List Int) :=
 c4.bind fun i => (A1[i]?).bind fun x => (x.moving).bind fun j => (A2[j]?).bind fun l => (permE PermL (b_excise_office_lates_1_1 A1 A3 c4 c10) l (A3 ++ [[]])).bind fun R => (sortedO R (some A3.length)).bind fun ks => some ((A1, A2, R), ks)
theorem lates_aux {σ : Type} {y : Int → σ → Option (σ × Bool)} {ks : List Int} (hn : ks.length ≤ 1000000) : ∀ (d k : Nat) (s r : σ), k + d = ks.length → foldY y (ks.drop k) s = some r →
  loopM (b_excise_office_lates_1_2 y ks) ((k : Int), s) = some (.inl r) ∨ loopM (b_excise_office_lates_1_2 y ks) ((k : Int), s) = some (.inr r)
 | 0, k, s, r, hk, h => by
  rw [List.drop_eq_nil_of_le (by omega)] at h
  simp only [foldY, Option.some.injEq] at h
  subst h
  left
  rw [loopM_eq]
  have : ¬ k < ks.length := by omega
  simp [b_excise_office_lates_1_2, this]
 | d + 1, k, s, r, hk, h => by
  have hkl : k < ks.length := by omega
  have hw : w64 ((k : Int) + 1) = ((k + 1 : Nat) : Int) := by rw [w64_id (by omega) (by omega)]; rfl
  rw [List.drop_eq_getElem_cons hkl] at h
  have hi : idxL ks (k : Int) = some ks[k] := by simp [idxL, hkl]
  simp only [foldY] at h
  rw [loopM_eq]
  cases hy : y ks[k] s with
  | none => rw [hy] at h; cases h
  | some p =>
   rw [hy] at h
   simp only [Option.bind_some] at h
   by_cases hp : p.2 = true
   ·rw [if_pos hp] at h
    have := lates_aux hn d (k + 1) p.1 r (by omega) h
    simpa [b_excise_office_lates_1_2, hkl, hi, hy, hp, hw] using this
   ·rw [if_neg hp] at h
    simp only [Option.some.injEq] at h
    right
    simp [b_excise_office_lates_1_2, hkl, hi, hy, hp, h]
theorem it_excise_office_lates_1 {σ : Type} {y : Int → σ → Option (σ × Bool)} {upd : List ExciseOffice × List (List (Int × ApiParcel)) × List (List (Int × Bool)) → σ} {A1 : List ExciseOffice} {A2 : List (List (Int × ApiParcel))} {A3 : List (List (Int × Bool))} {c4 : Option Nat} {c10 : Int} {q : (List ExciseOffice × List (List (Int × ApiParcel)) × List (List (Int × Bool))) × List Int} {r : σ} (hl : L_excise_office_lates_1 A1 A2 A3 c4 c10 = some q) (hr : foldY y q.2 (upd q.1) = some r) : m_excise_office_lates_1 y upd A1 A2 A3 c4 c10 = some r := by
 simp only [L_excise_office_lates_1, Option.bind_eq_some_iff] at hl
 obtain ⟨i, rfl, b, hb, j, hj, l, hm, R, hR, ks, hks, hl⟩ := hl
 simp only [Option.some.injEq] at hl
 subst hl
 have hn : ks.length ≤ 1000000 := by
  have h := hks
  simp only [sortedO, Option.bind_eq_some_iff] at h
  obtain ⟨m, _, h⟩ := h
  unfold keysS at h
  split at h
  ·rename_i h2
   simp only [Option.some.injEq] at h
   rw [← h]; simpa using h2.2
  ·cases h
 simp only [m_excise_office_lates_1, bindv, Option.bind_some, hb, hj, hm, hR, hks]
 rcases lates_aux (y := y) hn ks.length 0 (upd (A1, A2, R)) r (by omega) (by simpa using hr) with e | e
 ·have e' : loopM (b_excise_office_lates_1_2 y ks) (0, upd (A1, A2, R)) = some (.inl r) := e
  rw [e']; rfl
 ·have e' : loopM (b_excise_office_lates_1_2 y ks) (0, upd (A1, A2, R)) = some (.inr r) := e
  rw [e']; rfl
end Go.Proofs.Ytadpjmaaokkhjaa
end
