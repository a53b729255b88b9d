/- Printed by gen.py: plain models of the program's functions, and that the code does what they say. -/
import Derived.Test.YtbomfcghpajaiaaT0
namespace Go.Proofs.Ytbomfcghpajaiaa
open Go.Dec

noncomputable def b_bottle_kinds_1_1 {σ : Type} (y : Int → σ → Option (σ × Bool)) (c1 : Int) (s4 : Int × σ) : Option (Ctl (Int × σ) ((σ) ⊕ (σ))) :=
  if (decide (s4.1 < 8)) then (((shrO .i64 c1 s4.1).bind fun q8 => if ((andK .i64 q8 1) == 1) then ((y s4.1 s4.2).bind fun p11 => some ((!p11.2), p11.1)) else (some (false, s4.2)) : Option (Bool × σ)).bind fun j15 => if j15.1 then (some (.done (.inr j15.2))) else (some (.next ((w64 (s4.1 + 1)), j15.2)))) else (some (.done (.inl s4.2)))
noncomputable def m_bottle_kinds_1 {σ : Type} (y : Int → σ → Option (σ × Bool)) (c1 : Int) (s0 : σ) : Option σ :=
  (loopM (b_bottle_kinds_1_1 y c1) (0, s0)).bind fun b0 => match b0 with | .inl b19 => (some b19) | .inr b19 => (some b19)
theorem c_bottle_kinds_1 (F0 : Fz) (σ : Type) (ly : Nat) (Y : σ → Fz → HP) (y : Int → σ → Option (σ × Bool)) (hy : YieldOK Try.prog ly F0 (fun (x : Int) _ vs => vs = [(.int .i64 x)]) Y y) (c1 : Int) (b2 : Nat) (hb3 : F0.mem b2 = some (.cells [(.int .i64 c1)].toArray 3)) (s0 : σ) : CT Try.prog 91 [(.func (.yield ly) #[] #[]), (.pointer (some ⟨b2, 0, none⟩))].toArray F0 (Y s0 F0) (m_bottle_kinds_1 y c1 s0) (fun _ _ _ => True) (fun s' F' _ => Y s' F') := by
  refine CT.enter Try.func91 rfl Try.ntmps91 rfl fun r R => ?_
  unfold m_bottle_kinds_1
  refine .seq ?_
  refine .region ?_
  refine .move rfl rfl ?_
  refine .nil ?_
  refine .code ?_
  refine .block ?_
  refine .keep (.cons (k := 0) rfl (.cons (k := 1) rfl (.cons (k := 4) rfl (.nil _)))) ?_
  refine .loop (fun (s4 : Int × σ) a w => ∃ (F_5 : Fz), F0 ≤ F_5 ∧ Hd 19 [] [(0, (.func (.yield ly) #[] #[])), (1, (.pointer (some ⟨b2, 0, none⟩))), (4, (.int .i64 s4.1))] F_5 [Y s4.2 F_5, R] a w) (fun b0 e a w => match b0 with | .inl b19 => e = .exit 0 ∧ ∃ (F_20 : Fz), F0 ≤ F_20 ∧ Hd 19 [] [] F_20 [Y b19 F_20, R] a w | .inr b19 => e = .ret ∧ ∃ (F_22 : Fz), F0 ≤ F_22 ∧ Hd 19 [] [] F_22 [Y b19 F_22, R] a w) ?_ ?_ ?_
  · exact fun a w h => ⟨F0, (Fz.le_refl _), h.1.sub (.cons (k := 0) rfl (.cons (k := 1) rfl (.cons (k := 4) rfl (.nil _)))), h.2⟩
  · intro s4 ctl
    refine GC.ex (fun a w ⟨F_5, l_6, hA⟩ => ⟨_, hA, ?_⟩)
    unfold b_bottle_kinds_1_1
    refine .seq ?_
    refine .region ?_
    refine .lss rfl rfl rfl ?_
    refine .nil ?_
    refine .code ?_
    refine .seq ?_
    refine .cond rfl (fun hb7 => ?_) (fun hb7 => ?_)
    · skip
      refine .skip ?_
      refine .code ?_
      refine .seq ?_
      refine .block ?_
      refine .seq ?_
      refine .region ?_
      refine .move rfl rfl ?_
      refine .assign rfl rfl ?_
      refine .nil ?_
      refine .code ?_
      refine .seq ?_
      refine .keep (.cons (k := 0) rfl (.cons (k := 1) rfl (.cons (k := 3) rfl (.cons (k := 4) rfl (.nil _))))) ?_
      refine GC.join0 (σ := Bool × σ) (fun j15 a w => ∃ (F_16 : Fz), F_5 ≤ F_16 ∧ Hd 19 [] [(0, (.func (.yield ly) #[] #[])), (1, (.pointer (some ⟨b2, 0, none⟩))), (4, (.int .i64 s4.1)), (17, (.bool j15.1))] F_16 [Y j15.2 F_16, R] a w) (fun sj => ?_) (fun j15 hs0 => GE.ex (fun a w ⟨F_16, l_17, hA⟩ => ⟨_, hA, ?_⟩))
      · skip
        refine .region ?_
        refine .loadF rfl Try.isAgg3 rfl (l_6.mem _ _ hb3) rfl ?_
        refine .move rfl rfl ?_
        refine .shr rfl rfl rfl (fun q8 e9 => ?_)
        refine .andI rfl rfl rfl ?_
        refine .eql rfl rfl rfl ?_
        refine .move rfl rfl ?_
        refine .ite (fun hb10 => ?_) (fun hb10 => ?_)
        · skip
          refine .onH hb10 rfl rfl ?_
          refine .move rfl rfl ?_
          refine .onH hb10 rfl rfl ?_
          refine .move rfl rfl ?_
          refine .onH hb10 rfl rfl ?_
          refine .callY rfl hy rfl rfl rfl (i := 0) rfl l_6 (Fz.le_refl _) (fun p11 F_12 e14 l_13 => ?_)
          refine .onH hb10 rfl rfl ?_
          refine .not rfl rfl ?_
          refine .pickTH hb10 rfl rfl rfl ?_
          refine .nil ?_
          exact .nil fun e a w h => by cases e; exact ⟨rfl, ⟨F_12, l_13, h.1.sub (.cons (k := 0) rfl (.cons (k := 1) rfl (.cons (k := 4) rfl (.cons (k := 17) rfl (.nil _))))), h.2⟩⟩
        · skip
          refine .offH hb10 rfl rfl rfl ?_
          refine .offH hb10 rfl rfl rfl ?_
          refine .offH hb10 rfl rfl rfl ?_
          refine .offH hb10 rfl rfl rfl ?_
          refine .pickFH hb10 rfl rfl rfl ?_
          refine .nil ?_
          exact .nil fun e a w h => by cases e; exact ⟨rfl, ⟨F_5, (Fz.le_refl _), h.1.sub (.cons (k := 0) rfl (.cons (k := 1) rfl (.cons (k := 4) rfl (.cons (k := 17) rfl (.nil _))))), h.2⟩⟩
      refine .code ?_
      refine .cond rfl (fun hb18 => ?_) (fun hb18 => ?_)
      · skip
        refine .retQ (LPost.ret fun a w h => ⟨rfl, F_16, (Fz.le_trans l_6 l_17), h.1.sub (.nil _), h.2⟩)
      · skip
        refine .skip ?_
        refine .block ?_
        refine .code ?_
        refine .region ?_
        refine .add rfl rfl rfl ?_
        refine .move rfl rfl ?_
        refine .nil ?_
        exact .nil (LPost.norm fun a w h => ⟨F_16, (Fz.le_trans l_6 l_17), h.1.sub (.cons (k := 0) rfl (.cons (k := 1) rfl (.cons (k := 4) rfl (.nil _)))), h.2⟩)
    · skip
      refine .exitOut rfl (LPost.exit fun a w h => ⟨rfl, F_5, l_6, h.1.sub (.nil _), h.2⟩)
  · intro b19 hb0 hk e a w hD
    rcases b19 with b19 | b19
    · skip
      obtain ⟨rfl, F_20, l_21, hA⟩ := hD
      refine interp_exit rfl (GE.app ?_ hk a w hA)
      exact .end1 Try.results91 .nil (i := 0) rfl (j := 0) rfl l_21 trivial
    obtain ⟨rfl, F_22, l_23, hA⟩ := hD
    exact interp_ret ((ret_post Try.results91 .nil (i := 0) rfl (j := 0) rfl l_23 trivial) hk a w hA)

end Go.Proofs.Ytbomfcghpajaiaa
