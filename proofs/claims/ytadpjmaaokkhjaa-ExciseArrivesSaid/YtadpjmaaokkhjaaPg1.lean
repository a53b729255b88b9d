/- Own texts and texts printed by a program of mine, for exciseArrives_holds; only what it reaches. -/
import Derived.Test.YtadpjmaaokkhjaaPg0
import Derived.RecoverIn
import Derived.LaidEql
section
namespace Go.Dec
variable {κ : Option Nat}
def bindX {ε α β : Type} (e : Option (Out ε α)) (gp : ε → Option β) (g : α → Option β) : Option β := match e with
  | none => none
  | some (.ok x) => g x
  | some (.pan q) => gp q
def RepFnX {ι ε β : Type} (P : Program) (penc : ε → Value) (F : Fz) (f : FuncId) (k : List Value × List Value) (arg : ι → Fz → List Value → Prop) (Hin : Fz → ι → List HP) (ρ : β → Fz → Value → Prop) (Hout : Fz → ι → β → List HP) (m : ι → Option (Out ε β)) : Prop :=
  (∀ args w, (callFunc f args).run P w = .ok (.enter f args) w) ∧ ∀ F', F ≤ F' → ∀ x vs, arg x F' vs → CTX P penc f (k.1 ++ vs ++ k.2).toArray F' (Hin F' x) (m x) ρ (fun r F'' _ => Hout F'' x r)
theorem RepFnX.mono {ι ε β : Type} {P : Program} {penc : ε → Value} {F F' : Fz} {f : FuncId} {k : List Value × List Value} {arg : ι → Fz → List Value → Prop} {Hin : Fz → ι → List HP} {ρ : β → Fz → Value → Prop} {Hout : Fz → ι → β → List HP} {m : ι → Option (Out ε β)} (h : RepFnX P penc F f k arg Hin ρ Hout m) (le : F ≤ F') : RepFnX P penc F' f k arg Hin ρ Hout m :=
  ⟨h.1, fun G le' => h.2 G (Fz.le_trans le le')⟩
section
variable {ε β : Type} {P : Program} {penc : ε → Value} {ops : Array Oper} {rest : List Oper} {ks : List Kt} {Q : Exit → Act → World → Prop} {m : Option β} {r : β}
variable {n : Nat} {D : List Deferred} {S : List (Nat × Value)} {F F0 : Fz} {hs : List HP}
variable {d : Nat} {ty t : TypeId} {pos : String} {after : Array Edge} {ox oy : Operand} {T : Array TypeId}
theorem GL.callA {A : Act → World → Prop} {α : Type} {f : FuncId} {args : Array Value} {o : Oper} {e : Option (Out ε α)} {ρ : α → Fz → Value → Prop} {Hs : List HP} {Hs' : α → Fz → Value → List HP} {g : α → Option β} {gp : ε → Option β} (is : List Nat) (hd : Nat.blt d n = true) (hg : o.guard = none) (hdst : o.dst = some d) (hnd : noDefer o.op = true)
    (hA : ∀ a w, A a w → Hd n D S F hs a w ∧ (execOp a.eval o).run P w = .ok (.enter f args) w) (hi : pickR is hs = Hs)
    (hc : CTX P penc f args F Hs e ρ Hs') (k : ∀ x F' v, e = some (.ok x) → F ≤ F' → ρ x F' v → GL κ P ops rest ks Q (Hd n D ((d, v) :: S) F' (Hs' x F' v ++ leftR is hs)) (g x) r)
    (hp : ∀ q F', e = some (.pan q) → F ≤ F' → gp q = some r → ∀ a w, Hd n D S F' (leftR is hs) a w → Q (.panic [{ v := penc q, recovered := false }]) a w) :
    GL κ P ops (o :: rest) ks Q A (bindX e gp g) r := by
  intro hm a w ha0
  obtain ⟨ha, hrun⟩ := hA a w ha0
  cases he : e with
  | none => rw [he] at hm; cases hm
  | some y =>
    rw [he] at hm
    have hsh : SH w F (star (stars Hs) (stars (leftR is hs))) := ha.2.mono fun m hm => by
      have := stars_part (ks := is) hm
      rw [hi] at this; exact this
    unfold wpL
    rw [if_pos (by simp [Region.wanted, hg])]
    refine ⟨.inr hnd, ?_⟩
    rw [hrun]
    refine ⟨fun e => (by rw [fen_depth] at e; cases e), calls_fen.2 ((hc y he w _ hsh).mono ?_)⟩
    rintro e' w' ⟨F', le, h⟩
    cases y with
    | ok x =>
      obtain ⟨v, rfl, hρ, hw⟩ := h
      have h1 := k x F' v he le hρ hm _ _ ⟨ha.1.put hd v, hw.mono fun _ => stars_app⟩
      simp only [hdst]
      exact h1
    | pan q =>
      obtain ⟨rfl, hw⟩ := h
      exact interp_panic (hp q F' he le hm _ _ ⟨ha.1, hw⟩)
theorem GL.callB {α : Type} {f : FuncId} {caps as vs : List Value} {of : Operand} {os : List Operand} {e : Option (Out ε α)} {ρ : α → Fz → Value → Prop} {Hs : List HP} {Hs' : α → Fz → Value → List HP} {g : α → Option β} {gp : ε → Option β} (is : List Nat)
    (hd : Nat.blt d n = true) (hcall : ∀ args w, (callFunc f args).run P w = .ok (.enter f args) w) (hf : evalS S of = some (.func (.func f) #[] caps.toArray)) (ha : evalL S os = some vs) (has : vs ++ caps = as) (hi : pickR is hs = Hs)
    (hc : CTX P penc f as.toArray F Hs e ρ Hs') (k : ∀ x F' v, e = some (.ok x) → F ≤ F' → ρ x F' v → GL κ P ops rest ks Q (Hd n D ((d, v) :: S) F' (Hs' x F' v ++ leftR is hs)) (g x) r)
    (hp : ∀ q F', e = some (.pan q) → F ≤ F' → gp q = some r → ∀ a w, Hd n D S F' (leftR is hs) a w → Q (.panic [{ v := penc q, recovered := false }]) a w) :
    GL κ P ops (⟨some d, .call ⟨.value of, os.toArray, T⟩, ty, pos, after, none⟩ :: rest) ks Q (Hd n D S F hs) (bindX e gp g) r := by
  subst has
  exact GL.callA is hd rfl rfl rfl (fun a w hA => ⟨hA, run_call hA.1 hcall hf ha⟩) hi hc k hp
theorem run_callF {a : Act} {f : FuncId} {first caps : List Value} {of : Operand} {os : List Operand} {vs : List Value} {w : World} (hs : Sl n D S a) (hcall : ∀ args w, (callFunc f args).run P w = .ok (.enter f args) w)
    (hf : evalS S of = some (.func (.func f) first.toArray caps.toArray)) (ha : evalL S os = some vs) {dst : Option Tmp} :
    (execOp a.eval ⟨dst, .call ⟨.value of, os.toArray, T⟩, ty, pos, after, none⟩).run P w = .ok (.enter f (first ++ vs ++ caps).toArray) w := by
  have e := evalL_map hs ha
  simp [execOp, resolve, Deferred.ofValue, hs.eval hf, e, invoke, hcall]
theorem GL.callF {ι α : Type} {f : FuncId} {kk : List Value × List Value} {vs : List Value} {of : Operand} {os : List Operand} {arg : ι → Fz → List Value → Prop} {Hin : Fz → ι → List HP} {ρ : α → Fz → Value → Prop} {Hout : Fz → ι → α → List HP} {fm : ι → Option (Out ε α)} {x : ι} {Hs : List HP} {g : α → Option β} {gp : ε → Option β} (is : List Nat)
    (hd : Nat.blt d n = true) (hr : RepFnX P penc F f kk arg Hin ρ Hout fm) (hf : evalS S of = some (.func (.func f) kk.1.toArray kk.2.toArray)) (ha : evalL S os = some vs) (hx : arg x F vs) (hi : pickR is hs = Hs) (hin : Hin F x = Hs)
    (k : ∀ y F' v, fm x = some (.ok y) → F ≤ F' → ρ y F' v → GL κ P ops rest ks Q (Hd n D ((d, v) :: S) F' (Hout F' x y ++ leftR is hs)) (g y) r)
    (hp : ∀ q F', fm x = some (.pan q) → F ≤ F' → gp q = some r → ∀ a w, Hd n D S F' (leftR is hs) a w → Q (.panic [{ v := penc q, recovered := false }]) a w) :
    GL κ P ops (⟨some d, .call ⟨.value of, os.toArray, T⟩, ty, pos, after, none⟩ :: rest) ks Q (Hd n D S F hs) (bindX (fm x) gp g) r := by
  subst hin
  exact GL.callA is hd rfl rfl rfl (fun a w hA => ⟨hA, run_callF hA.1 hr.1 hf ha⟩) hi (hr.2 F (Fz.le_refl F) x vs hx) k hp
theorem eq_ptrNil {e : TypeId} {p : Option Addr} {w : World} (ht : P.underlying t = some (.pointer e)) (n : Nat) : (Op.equalIn (n + 1) t (.pointer p) (.pointer none)).run P w = .ok p.isNone w := by
  cases p <;> simp [Op.equalIn, rUnd ht]
theorem RepPtr.isNone {γ : Nat} {F : Fz} {p : Option Addr} {x : Option Nat} (h : RepPtr γ F p x) : p.isNone = x.isNone := by
  cases x with
  | none => simp [show p = none from h]
  | some i => obtain ⟨b, _, rfl⟩ := h; rfl
theorem GL.eqlPtrNil {γ : Nat} {e t' : TypeId} {p : Option Addr} {x : Option Nat} (h : RepPtr γ F p x) (hd : Nat.blt d n = true) (ht : P.underlying t = some (.pointer e)) (hx : evalS S ox = some (.pointer p)) (hy : evalS S oy = some (.pointer none)) (k : GL κ P ops rest ks Q (Hd n D ((d, .bool x.isNone) :: S) F hs) m r) :
    GL κ P ops (⟨some d, .binOp .eql t ox oy t', ty, pos, after, none⟩ :: rest) ks Q (Hd n D S F hs) m r :=
  GL.val hd (fun a w ha => by
    have hq : (Op.equal t (.pointer p) (.pointer none)).run P w = .ok p.isNone w := eq_ptrNil ht 9999
    have hg : P.eqGuardType P.depth t = false ∨ P.eqGuardType P.depth t = true := by cases P.eqGuardType P.depth t <;> simp
    simp [execOp, ha.1.eval hx, ha.1.eval hy, eqGuard, binOp, hq, h.isNone]) k
def CTO {G β : Type} (P : Program) (f : FuncId) (args : Array Value) (F : Fz) (m : Option β) (ρ : G → β → Fz → Value → Prop) (Hs' : G → β → Fz → List HP) : Prop :=
  ∀ r, m = some r → ∀ w R, SH w F R → Calls P f args w (fun e w' => ∃ Γ F' v, F ≤ F' ∧ e = .returned v ∧ ρ Γ r F' v ∧ SH w' F' (star (stars (Hs' Γ r F')) R))
theorem GL.callO {G α : Type} {f : FuncId} {caps as vs : List Value} {of : Operand} {os : List Operand} {em : Option α} {ρ : G → α → Fz → Value → Prop} {Hs' : G → α → Fz → List HP} {g : α → Option β}
    (hd : Nat.blt d n = true) (hcall : ∀ args w, (callFunc f args).run P w = .ok (.enter f args) w) (hf : evalS S of = some (.func (.func f) #[] caps.toArray)) (ha : evalL S os = some vs) (has : vs ++ caps = as)
    (hc : CTO P f as.toArray F em ρ Hs') (k : ∀ x Γ F' v, em = some x → F ≤ F' → ρ Γ x F' v → GL κ P ops rest ks Q (Hd n D ((d, v) :: S) F' (Hs' Γ x F' ++ hs)) (g x) r) :
    GL κ P ops (⟨some d, .call ⟨.value of, os.toArray, T⟩, ty, pos, after, none⟩ :: rest) ks Q (Hd n D S F hs) (em.bind g) r :=
  GL.callG rfl (.inr rfl) fun hm a w hA => by
    subst has
    refine ⟨run_call hA.1 hcall hf ha, ?_⟩
    cases he : em with
    | none => rw [he] at hm; cases hm
    | some y =>
      rw [he] at hm
      refine (hc y he w _ hA.2).mono ?_
      rintro _ w' ⟨Γ, F', v, le, rfl, hρ, hw⟩
      exact ⟨v, rfl, k y Γ F' v he le hρ hm _ _ ⟨hA.1.put hd _, hw.mono fun _ => stars_app⟩⟩
end
abbrev dclo (f : FuncId) (caps : List Value) : Deferred := { target := .fn (.func f) caps.toArray, args := #[] }
def fnPostO {G β : Type} (P : Program) (fn : Func) (F : Fz) (R : HP) (ρ : G → β → Fz → Value → Prop) (Hs' : G → β → Fz → List HP) (r : β) : Exit → Act → World → Prop :=
  bodyPostDIn Fence.wide 0 P fn (fun e w' => ∃ Γ F' v, F ≤ F' ∧ e = .returned v ∧ ρ Γ r F' v ∧ SH w' F' (star (stars (Hs' Γ r F')) R))
theorem CTO.enter {G β : Type} {P : Program} {f : FuncId} {fn : Func} {c : Code} {args : List Value} {F : Fz} {m : Option β} {ρ : G → β → Fz → Value → Prop} {Hs' : G → β → Fz → List HP} {n : Nat}
    (hf : P.funcs[f]? = some fn) (hb : fn.body = some c) (hn : fn.ntmps = n) (ha : Nat.ble args.length n = true)
    (k : ∀ r R, GC none P c [] (fnPostO P fn F R ρ Hs' r) (Hd n [] (argS 0 args) F [R]) m r) : CTO P f args.toArray F m ρ Hs' := by
  intro r hm w R hw
  refine (callsIn_wide (n := 0)).1 (callsIn_of_wp_defers hf hb trivial (k r R hm _ w ⟨?_, hw.one⟩))
  rw [hn]; exact sl_enter ha
section
variable {β : Type} {P : Program} {ops : Array Oper} {rest : List Oper} {ks : List Kt} {Q : Exit → Act → World → Prop} {m : Option β} {r : β}
variable {n : Nat} {D : List Deferred} {S : List (Nat × Value)} {F F' : Fz} {hs : List HP}
theorem GL.defer {f : FuncId} {caps : List Value} {of : Operand} {ty : TypeId} {pos : String} {after : Array Edge} {T : Array TypeId} (hf : evalS S of = some (.func (.func f) #[] caps.toArray)) (k : GL none P ops rest ks Q (Hd n (dclo f caps :: D) S F hs) m r) :
    GL none P ops (⟨none, .defer ⟨.value of, #[], T⟩, ty, pos, after, none⟩ :: rest) ks Q (Hd n D S F hs) m r := by
  intro hm a w ha
  have h := k hm { a with defers := dclo f caps :: a.defers } w ⟨⟨ha.1.1, by rw [ha.1.2.1], ha.1.2.2⟩, ha.2⟩
  unfold wpL
  rw [if_pos (by simp [Region.wanted])]
  refine ⟨.inl rfl, ?_⟩
  have hrun : (execOp a.eval ⟨none, .defer ⟨.value of, #[], T⟩, ty, pos, after, none⟩).run P w = .ok (.defer (dclo f caps)) w := by
    simp [execOp, resolve, Deferred.ofValue, ha.1.eval hf]
  rw [hrun]
  exact h
variable {G ε : Type} {penc : ε → Value} {fn : Func} {R : HP} {ρ : G → β → Fz → Value → Prop} {Hs' : G → β → Fz → List HP} {x : β} {rs : List ResultVar} {vs : List Value} {Γ : G}
theorem ret_postO (is : List Nat) (hr : fn.results = rs.toArray) (h : Res P S F' hs rs vs) (hi : pickR is hs = Hs' Γ x F' ++ [R]) (le : F ≤ F') (hρ : ρ Γ x F' (tup vs)) :
    some x = some r → ∀ a w, Hd n [] S F' hs a w → fnPostO P fn F R ρ Hs' r .ret a w := by
  intro e a w ha
  simp only [Option.some.injEq] at e
  subst e
  show LeavesIn Fence.wide 0 P fn a.tmps _ a.defers .returning w
  rw [ha.1.2.1]
  refine ⟨_, run_results hr ha h, Γ, F', _, le, rfl, hρ, ha.2.mono fun m hm => ?_⟩
  have h1 := stars_pick (ks := is) hm
  rw [hi] at h1
  exact star_one (stars_app' h1)
theorem leads_clo {f : FuncId} {caps : List Value} {w : World} : ∀ g, (Target.fn (.func f) caps.toArray).leads P w #[] = some g → Fence.wide.fn g := fun _ _ => trivial
theorem invoke_clo {f : FuncId} {caps : List Value} {w : World} (hcall : ∀ args w, (callFunc f args).run P w = .ok (.enter f args) w) : (invoke (.fn (.func f) caps.toArray) #[]).run P w = .ok (.enter f caps.toArray) w := by
  simp [invoke, hcall]
end
def CTH {β : Type} (P : Program) (f : FuncId) (args : Array Value) (F : Fz) (Hs : List HP) (m : Option β) (ρ : β → Fz → Value → Prop) (Hs' : β → Fz → List HP) : Prop :=
  ∀ r, m = some r → ∀ w R, SH w F (star (stars Hs) R) → Calls P f args w (fun e w' => ∃ F' v, F ≤ F' ∧ e = .returned v ∧ ρ r F' v ∧ SH w' F' (star (stars (Hs' r F')) R))
def fnPostH {β : Type} (P : Program) (fn : Func) (F : Fz) (R : HP) (ρ : β → Fz → Value → Prop) (Hs' : β → Fz → List HP) (r : β) : Exit → Act → World → Prop :=
  bodyPost P fn (fun e w' => ∃ F' v, F ≤ F' ∧ e = .returned v ∧ ρ r F' v ∧ SH w' F' (star (stars (Hs' r F')) R))
theorem CTH.enter {β : Type} {P : Program} {f : FuncId} {fn : Func} {c : Code} {args : List Value} {F : Fz} {Hs : List HP} {m : Option β} {ρ : β → Fz → Value → Prop} {Hs' : β → Fz → List HP} {n : Nat}
    (hf : P.funcs[f]? = some fn) (hb : fn.body = some c) (hn : fn.ntmps = n) (ha : Nat.ble args.length n = true)
    (k : ∀ r R, GC none P c [] (fnPostH P fn F R ρ Hs' r) (Hd n [] (argS 0 args) F (Hs ++ [R])) m r) : CTH P f args.toArray F Hs m ρ Hs' := by
  intro r hm w R hw
  refine calls_of_wp hf hb (wpIn_wide.1 (k r R hm _ w ⟨?_, hw.mono fun m hm => stars_app (star_mono_right (fun _ h => stars_one h) hm)⟩))
  rw [hn]; exact sl_enter ha
section
variable {β : Type} {P : Program} {n : Nat} {S : List (Nat × Value)} {F F' : Fz} {hs : List HP} {ks : List Kt} {fn : Func} {R : HP} {ρ : β → Fz → Value → Prop} {Hs' : β → Fz → List HP} {x r : β} {rs : List ResultVar} {vs : List Value}
theorem ret_postH (is : List Nat) (hr : fn.results = rs.toArray) (h : Res P S F' hs rs vs) (hi : pickR is hs = Hs' x F' ++ [R]) (le : F ≤ F') (hρ : ρ x F' (tup vs)) :
    some x = some r → ∀ a w, Hd n [] S F' hs a w → fnPostH P fn F R ρ Hs' r .ret a w := by
  intro e a w ha
  simp only [Option.some.injEq] at e
  subst e
  refine ⟨ha.1.2.1, _, run_results hr ha h, F', _, le, rfl, hρ, ha.2.mono fun m hm => ?_⟩
  have h1 := stars_pick (ks := is) hm
  rw [hi] at h1
  exact star_one (stars_app' h1)
theorem GC.retH (is : List Nat) (hr : fn.results = rs.toArray) (h : Res P S F' hs rs vs) (hi : pickR is hs = Hs' x F' ++ [R]) (le : F ≤ F') (hρ : ρ x F' (tup vs)) :
    GC κ P .ret ks (fnPostH P fn F R ρ Hs' r) (Hd n [] S F' hs) (some x) r := GC.retQ (ret_postH is hr h hi le hρ)
theorem GE.endH (is : List Nat) (hr : fn.results = rs.toArray) (h : Res P S F' hs rs vs) (hi : pickR is hs = Hs' x F' ++ [R]) (le : F ≤ F') (hρ : ρ x F' (tup vs)) :
    GE κ P [] (fnPostH P fn F R ρ Hs' r) (Hd n [] S F' hs) (some x) r := GE.nil (ret_postH is hr h hi le hρ)
end
section
variable {β : Type} {P : Program} {ops : Array Oper} {rest : List Oper} {ks : List Kt} {Q : Exit → Act → World → Prop} {m : Option β} {r : β}
variable {n : Nat} {D : List Deferred} {S : List (Nat × Value)} {F : Fz} {hs : List HP} {d : Nat} {ty : TypeId} {pos : String} {after : Array Edge} {T : Array TypeId}
theorem GL.callT {α : Type} {f : FuncId} {caps as vs : List Value} {of : Operand} {os : List Operand} {em : Option α} {ρ : α → Fz → Value → Prop} {Hs : List HP} {Hs' : α → Fz → List HP} {g : α → Option β} (is : List Nat)
    (hd : Nat.blt d n = true) (hcall : ∀ args w, (callFunc f args).run P w = .ok (.enter f args) w) (hf : evalS S of = some (.func (.func f) #[] caps.toArray)) (ha : evalL S os = some vs) (has : vs ++ caps = as) (hi : pickR is hs = Hs)
    (hc : CTH P f as.toArray F Hs em ρ Hs') (k : ∀ x F' v, em = some x → F ≤ F' → ρ x F' v → GL κ P ops rest ks Q (Hd n D ((d, v) :: S) F' (Hs' x F' ++ leftR is hs)) (g x) r) :
    GL κ P ops (⟨some d, .call ⟨.value of, os.toArray, T⟩, ty, pos, after, none⟩ :: rest) ks Q (Hd n D S F hs) (em.bind g) r :=
  GL.callG rfl (.inr rfl) fun hm a w hA => by
    subst has
    refine ⟨run_call hA.1 hcall hf ha, ?_⟩
    cases he : em with
    | none => rw [he] at hm; cases hm
    | some y =>
      rw [he] at hm
      have hsh : SH w F (star (stars Hs) (stars (leftR is hs))) := hA.2.mono fun m hm => by
        have := stars_part (ks := is) hm
        rw [hi] at this; exact this
      refine (hc y he w _ hsh).mono ?_
      rintro _ w' ⟨F', v, le, rfl, hρ, hw⟩
      exact ⟨v, rfl, k y F' v he le hρ hm _ _ ⟨hA.1.put hd _, hw.mono fun _ => stars_app⟩⟩
end
theorem allS {p : Nat → Prop} {n : Nat} (h : ∀ j, j < n → p j) (hn : p n) : ∀ j, j < n + 1 → p j := fun j hj => by
  rcases Nat.lt_or_ge j n with h' | h'
  · exact h j h'
  · rw [show j = n by omega]; exact hn
section
variable {β : Type} {P : Program} {ops : Array Oper} {l0 : List Oper} {cd : Code} {ks : List Kt} {Q : Exit → Act → World → Prop} {m : Option β} {r : β}
variable {n : Nat} {D : List Deferred} {S : List (Nat × Value)} {F F0 : Fz} {hs : List HP}
variable {α : Type} {γ : Nat} {C : Fz → Nat → α → HP} {xs xs' : List α} {b : Nat} {x : α}
theorem GL.pick {hs' : List HP} (is : List Nat) (h : pickR is hs = hs') (k : GL κ P ops l0 ks Q (Hd n D S F hs') m r) : GL κ P ops l0 ks Q (Hd n D S F hs) m r := GG.pick is h k
theorem GL.upR (i : Nat) (hC : Stays C) (le : F0 ≤ F) (hi : hs[i]? = some (arena γ C F0 xs)) (k : GL κ P ops l0 ks Q (Hd n D S F (hs.set i (arena γ C F xs))) m r) : GL κ P ops l0 ks Q (Hd n D S F hs) m r := GG.upR i hC le hi k
theorem GL.intoAt {p : HP} (k i : Nat) (hk : hs[k]? = some p) (hi : (hs.eraseIdx k)[i]? = some (arena γ C F0 xs)) (hC : Stays C) (le : F0 ≤ F) (hp : ∀ F' m, F ≤ F' → p m → C F' b x m) (he : xs' = xs ++ [x])
    (K : ∀ F', F ≤ F' → RefB γ F' xs.length b → GL κ P ops l0 ks Q (Hd n D S F' ((hs.eraseIdx k).set i (arena γ C F' xs'))) m r) : GL κ P ops l0 ks Q (Hd n D S F hs) m r := GG.intoAt k i hk hi hC le hp he K
theorem GC.pick {hs' : List HP} (is : List Nat) (h : pickR is hs = hs') (k : GC κ P cd ks Q (Hd n D S F hs') m r) : GC κ P cd ks Q (Hd n D S F hs) m r := GG.pick is h k
theorem GC.upR (i : Nat) (hC : Stays C) (le : F0 ≤ F) (hi : hs[i]? = some (arena γ C F0 xs)) (k : GC κ P cd ks Q (Hd n D S F (hs.set i (arena γ C F xs))) m r) : GC κ P cd ks Q (Hd n D S F hs) m r := GG.upR i hC le hi k
theorem GC.newA (C : Fz → Nat → α → HP) (i : Nat) (hi : hs[i]? = some (gho γ [])) (K : GC κ P cd ks Q (Hd n D S F (hs.set i (arena γ C F []))) m r) : GC κ P cd ks Q (Hd n D S F hs) m r := GG.newA C i hi K
theorem GC.newG (K : ∀ γ F', F ≤ F' → GC κ P cd ks Q (Hd n D S F' (gho γ [] :: hs)) m r) : GC κ P cd ks Q (Hd n D S F hs) m r := GG.newG K
theorem GC.norm {S' : List (Nat × Value)} {hs' : List HP} (hS : Sub S' S) (hh : hs = hs') (k : GC κ P cd ks Q (Hd n D S' F hs') m r) : GC κ P cd ks Q (Hd n D S F hs) m r := GG.norm hS hh k
theorem GE.upR (i : Nat) (hC : Stays C) (le : F0 ≤ F) (hi : hs[i]? = some (arena γ C F0 xs)) (k : GE κ P ks Q (Hd n D S F (hs.set i (arena γ C F xs))) m r) : GE κ P ks Q (Hd n D S F hs) m r := GG.upR i hC le hi k
theorem GE.norm {S' : List (Nat × Value)} {hs' : List HP} (hS : Sub S' S) (hh : hs = hs') (k : GE κ P ks Q (Hd n D S' F hs') m r) : GE κ P ks Q (Hd n D S F hs) m r := GG.norm hS hh k
end
theorem SH.picks {w : World} {F : Fz} {hs hs' : List HP} (ks : List Nat) (e : pickR ks hs = hs') (h : SH w F (stars hs)) : SH w F (stars hs') := e ▸ h.mono fun _ => stars_pick
end Go.Dec
end

section
namespace Go.Dec
variable {κ : Option Nat}
section
variable {β : Type} {P : Program} {ks : List Kt} {Q : Exit → Act → World → Prop} {m : Option β} {r : β}
variable {n : Nat} {D : List Deferred} {S0 : List (Nat × Value)} {F : Fz}
theorem GC.drawGD {hs : List HP} {id : Nat} {l : List Oper} (k g : Nat) (X : Env → List ValF) (C : (Nat → Bool) → Env → List HP) (hm : P.follows .mixedOrders = true) (hord : ordB 0 l = true) (htail : ∀ t o, k ≤ t → l[t]? = some o → ∀ j, j < t → ∃ s, depB l s t j = true)
    (hlen : Nat.ble k l.length = true) (hX : ∀ env, (X env).length = k) (hfr : freshG n S0 (l.take k) = true) (hC : ∀ env, C (fun _ => false) env = hs ++ List.replicate g emp)
    (hops : OpsG κ P l.toArray l n D S0 F X C 0 (l.take k))
    (tail : ∀ env F', F ≤ F' → (∀ (j : Nat) (q : ValF), (X env)[j]? = some q → q.2 F') → GL κ P l.toArray (l.drop k) ks Q (Hd n D (outG (l.take k) (X env) S0) F' (C (fun j => Nat.blt j k) env)) m r) :
    GC κ P (.region id l.toArray true) ks Q (Hd n D S0 F hs) m r := by
  intro hmr a w ha
  have hlen' : k ≤ l.length := Nat.le_of_ble_eq_true hlen
  let Free : (Nat → Bool) → Act → World → Prop := fun L a w => Down l L ∧ (∀ i, k ≤ i → L i = false) ∧ ∃ env F' S, F ≤ F' ∧ Sub S0 S ∧ (∀ (j d : Nat) (v : Value), L j = true → dstOf l j = some d → ((X env)[j]?).map Prod.fst = some v → lookS S d = some v) ∧ (∀ (j : Nat) (q : ValF), L j = true → (X env)[j]? = some q → ∀ G, F' ≤ G → q.2 G) ∧ Hd n D S F' (C L env) a w
  let Inv : (Nat → Bool) → Act → World → Prop := fun L a w => Free L a w ∨ ∃ i, k < i ∧ Down l L ∧ (∀ j, L j = true ↔ j < i) ∧ wpL κ P l.toArray (interp κ P ks Q) (l.drop i) a w
  have hend0 : ∀ L a w, (∀ i, i < k → L i = true) → Free L a w → wpL κ P l.toArray (interp κ P ks Q) (l.drop k) a w := by
    rintro L a w hall ⟨hdn, hout, env, F', S, le, hS, hV, hΦ, hA⟩
    have hXl := hX env
    have hLk : L = fun j => Nat.blt j k := by
      funext j
      rcases Nat.lt_or_ge j k with h | h
      · rw [hall j h]; exact (Nat.ble_eq_true_of_le h).symm
      · rw [hout j h]
        cases hb : Nat.blt j k with
        | false => rfl
        | true => have := Nat.le_of_ble_eq_true hb; omega
    refine tail env F' le (fun j q hq => hΦ j q (hall j (by have := lt_of_getEl hq; omega)) hq F' (Fz.le_refl F')) hmr a w ⟨hA.1.sub (sub_outG hS fun i o d q e1 e2 e3 => ?_), hLk ▸ hA.2⟩
    have hik : i < k := by have := lt_of_getEl e3; omega
    refine hV i d q.1 (hall i hik) ?_ (by rw [e3]; rfl)
    rw [List.getElem?_take, if_pos hik] at e1
    simp [dstOf, e1, e2]
  refine wp_region_inv hm Inv (fun i o h e he hb => by have := ordB_spec hord i o (by simpa using h) e he hb; omega) ?_ ?_ ?_
  · refine .inl ⟨fun i o _ h => (by cases h), fun _ _ => rfl, ⟨fun _ => none, fun _ => 0, fun _ => [], fun _ => F, fun _ => none⟩, F, S0, Fz.le_refl F, Sub.refl _, fun j d v h => (by cases h), fun j q h => (by cases h), ha.1, ?_⟩
    rw [hC]
    have h1 := ha.2.drew (w.drawn + 1)
    refine h1.mono fun m hm' => ?_
    exact GC.drawG.stars_emps hm'
  · intro L a w i o ho hLi hdeps hI
    have ho' : l[i]? = some o := by simpa using ho
    have hil : i < l.length := lt_of_getEl ho'
    by_cases hi : i < k
    · rcases hI with hF | ⟨k', hk, _, hL, _⟩
      case inr => have := (hL i).2 (by omega); rw [hLi] at this; cases this
      obtain ⟨hdn, hout, env, F', S, le, hS, hV, hΦ, hA⟩ := hF
      have hot : (l.take k)[i]? = some o := by rw [List.getElem?_take, if_pos hi]; exact ho'
      have hop := OpsG.get hops i o hot
      simp only [Nat.zero_add] at hop
      have hup : ∀ k' j, depB l k' j i = true → L j = false := fun k' j h => by
        cases hj : L j with
        | false => rfl
        | true =>
          have := dep_true hdn h fun o' ho'' e he hb => hdn j o' ho'' hj e he hb
          rw [hLi] at this; cases this
      have hdn' : ∀ k' j, depB l k' i j = true → L j = true := fun k' j h => dep_true hdn h fun o' ho'' e he hb => by
        rw [ho'] at ho''; cases ho''; exact hdeps e he hb
      obtain ⟨Si, hSi, hstep⟩ := hop L env F' le hLi hdn' hup hΦ
      have hsub := hSi S hS hV
      have hn : ∀ d, o.dst = some d → Nat.blt d n = true := fun d hd => (freshG_get hfr hot hd).1
      have h1 := g_frame (S := S) hn hA.1 (hstep rfl a w ⟨hA.1.sub hsub, hA.2⟩)
      refine wp_of_seg (fun e a w hne hq => absurd hq.1 hne) (fun a' w' hq => ?_) h1
      obtain ⟨_, env', F'', le', ⟨M, hMl, hMc, hMe⟩, q, hq, hqf, hA'⟩ := hq
      have hst : ∀ (j : Nat) (q : ValF), L j = true → (X env')[j]? = some q → (X env)[j]? = some q := fun j q hj hx => by
        have hjl : j < M.length := by rw [hMl, hX env, ← hX env']; exact lt_of_getEl hx
        exact maskL_get hMe.symm (mask_true hdn hLi hMc j hj hjl) hx
      refine .inl ⟨?_, ?_, env', F'', (match o.dst with | some d => (d, q.1) :: S | none => S), Fz.le_trans le le', ?_, ?_, ?_, hA'⟩
      · intro j oj hoj hj e he hb
        by_cases hji : j = i
        · subst hji
          rw [ho'] at hoj; cases hoj
          have := hdeps e he hb
          simp only [updB]; split
          · rfl
          · exact this
        · have hLj : L j = true := by simpa [updB, hji] using hj
          have := hdn j oj hoj hLj e he hb
          simp only [updB]; split
          · rfl
          · exact this
      · intro j hj
        simp only [updB]; rw [if_neg (by omega)]; exact hout j hj
      · cases hd : o.dst with
        | none => exact hS
        | some d => exact sub_push hS (freshG_get hfr hot hd).2 _
      · intro j d' v' hj hd' hv'
        by_cases hji : j = i
        · subst hji
          have hod : o.dst = some d' := by simpa [dstOf, ho'] using hd'
          rw [hq] at hv'; simp only [Option.map_some, Option.some.injEq] at hv'
          subst hv'
          rw [hod]; exact look_self
        · have hLj : L j = true := by simpa [updB, hji] using hj
          have hjk : j < k := by
            rcases Nat.lt_or_ge j k with h | h
            · exact h
            · rw [hout j h] at hLj; cases hLj
          obtain ⟨q', hq', rfl⟩ := Option.map_eq_some_iff.1 hv'
          have h0 := hV j d' q'.1 hLj hd' (by rw [hst j q' hLj hq']; rfl)
          cases hd : o.dst with
          | none => exact h0
          | some d =>
            have hne : d ≠ d' := fun h => by
              subst h
              cases hoj : l[j]? with
              | none => simp [dstOf, hoj] at hd'
              | some oj =>
                have hdj : oj.dst = some d := by simpa [dstOf, hoj] using hd'
                exact hji (freshG_inj hfr (by rw [List.getElem?_take, if_pos hjk]; exact hoj) hot hdj hd)
            exact look_push hne h0
      · intro j q' hj hq' G hG
        by_cases hji : j = i
        · subst hji; rw [hq] at hq'; cases hq'; exact hqf G hG
        · have hLj : L j = true := by simpa [updB, hji] using hj
          exact hΦ j q' hLj (hst j q' hLj hq') G (Fz.le_trans le' hG)
    ·
      have hdnL : Down l L := by
        rcases hI with hF | ⟨_, _, hd, _, _⟩
        · exact hF.1
        · exact hd
      have hall : ∀ j, j < i → L j = true := fun j hj => by
        obtain ⟨s, hs⟩ := htail i o (by omega) ho' j hj
        exact dep_true hdnL hs fun o' ho'' e he hb => by rw [ho'] at ho''; cases ho''; exact hdeps e he hb
      have hdnU : Down l (updB L i) := fun j oj hoj hj e he hb => by
        have : L e.on = true := by
          by_cases hji : j = i
          · subst hji; rw [ho'] at hoj; cases hoj; exact hdeps e he hb
          · exact hdnL j oj hoj (by simpa [updB, hji] using hj) e he hb
        simp only [updB]; split
        · rfl
        · exact this
      have hw : wpL κ P l.toArray (interp κ P ks Q) (l.drop i) a w := by
        rcases hI with hF | ⟨k', hk, _, hL, hwp⟩
        · have hiV : i = k := by
            rcases Nat.lt_or_ge k i with h | h
            · have := hall k h; rw [hF.2.1 _ (Nat.le_refl _)] at this; cases this
            · omega
          subst hiV
          exact hend0 L a w hall hF
        · have : k' = i := by
            have h1 : ¬ i < k' := fun h => by have := (hL i).2 h; rw [hLi] at this; cases this
            have h2 : ¬ k' < i := fun h => by have := (hL k').1 (hall k' h); omega
            omega
          subst this; exact hwp
      have hdrop : l.drop i = o :: l.drop (i + 1) := by
        have hg : l[i]'hil = o := by simpa [hil] using ho'
        rw [← hg]; exact List.drop_eq_getElem_cons hil
      rw [hdrop] at hw
      have hnext : ∀ a' w', wpL κ P l.toArray (interp κ P ks Q) (l.drop (i + 1)) a' w' → Inv (updB L i) a' w' := fun a' w' h =>
        .inr ⟨i + 1, by omega, hdnU, fun j => by
          simp only [updB]
          by_cases hj : j = i
          · simp [hj]
          · simp only [hj, if_false]
            constructor
            · intro hLj
              have : j < i := by
                rcases Nat.lt_or_ge j i with h | h
                · exact h
                · rcases hI with hF | ⟨k', hk, _, hL, _⟩
                  · rw [hF.2.1 j (by omega)] at hLj; cases hLj
                  · have h1 := (hL j).1 hLj
                    have := (hL i).2 (by omega); rw [hLi] at this; cases this
              omega
            · intro hj'; exact hall j (by omega), h⟩
      unfold wpL at hw
      split
      · rename_i hwn
        rw [if_pos hwn] at hw
        exact opW_mono hnext hw
      · rename_i hwn
        rw [if_neg hwn] at hw
        exact hnext _ _ hw
  · intro L a w hall hI
    have hw : wpL κ P l.toArray (interp κ P ks Q) (l.drop l.length) a w := by
      rcases hI with hF | ⟨k', hk, _, hL, hwp⟩
      · have hVl : k = l.length := by
          rcases Nat.lt_or_ge k l.length with h | h
          · have := hall k (by simpa using h); rw [hF.2.1 _ (Nat.le_refl _)] at this; cases this
          · omega
        have := hend0 L a w (fun i hi => hall i (by simp; omega)) hF
        rwa [hVl] at this
      · have : l.length ≤ k' := by
          rcases Nat.lt_or_ge k' l.length with h | h
          · have := (hL k').1 (hall k' (by simpa using h)); omega
          · exact h
        rw [List.drop_eq_nil_of_le this] at hwp
        rw [List.drop_eq_nil_of_le (Nat.le_refl _)]; exact hwp
    rw [List.drop_eq_nil_of_le (Nat.le_refl _)] at hw
    exact hw
theorem deepN {l : List Oper} {k n : Nat} (hl : Nat.beq l.length n = true) (h : ∀ t, t < n → k ≤ t → ∀ j, j < t → ∃ s, depB l s t j = true) : ∀ t o, k ≤ t → l[t]? = some o → ∀ j, j < t → ∃ s, depB l s t j = true := fun t o hk ho j hj => by
  have h1 := (List.getElem?_eq_some_iff.1 ho).1
  have h2 := Nat.eq_of_beq_eq_true hl
  exact h t (by omega) hk j hj
end
end Go.Dec
end

section
namespace Go.Dec
variable {κ : Option Nat}
open Classical in
noncomputable def permM {α τ : Type} (b : α → τ → Option τ) (l : List α) (s : τ) : Option τ :=
  if ∀ l', l'.Perm l → forL b l' s = forL b l s then forL b l s else none
theorem permM_some {α τ : Type} {b : α → τ → Option τ} {l : List α} {s r : τ} (h : permM b l s = some r) : ∀ l', l'.Perm l → forL b l' s = some r := by
  unfold permM at h
  split at h
  · rename_i hp; intro l' hl; rw [hp l' hl]; exact h
  · cases h
theorem permM_of {α τ : Type} {b : α → τ → Option τ} {l : List α} {s r : τ} (h : ∀ l', l'.Perm l → forL b l' s = some r) : permM b l s = some r := by
  unfold permM
  rw [if_pos (fun l' hl => by rw [h l' hl, h l (.refl _)])]
  exact h l (.refl _)
def MPost {α τ : Type} (B : Nat) (I : List α → List α → τ → Act → World → Prop) (b : α → τ → Option τ) (todo done : List α) (s : τ) : Exit → Act → World → Prop := fun e a w =>
  (todo = [] ∧ e = .exit B ∧ I [] done s a w) ∨ (e = .normal ∧ ∃ x rest s', (x :: rest).Perm todo ∧ b x s = some s' ∧ I rest (x :: done) s' a w)
theorem MPost.over {α τ : Type} {B : Nat} {I : List α → List α → τ → Act → World → Prop} {b : α → τ → Option τ} {done : List α} {s : τ} {A : Act → World → Prop} (h : ∀ a w, A a w → I [] done s a w) : some () = some () → ∀ a w, A a w → MPost B I b [] done s (.exit B) a w :=
  fun _ a w ha => .inl ⟨rfl, rfl, h a w ha⟩
theorem MPost.norm {α τ : Type} {B : Nat} {I : List α → List α → τ → Act → World → Prop} {b : α → τ → Option τ} {todo done rest : List α} {s s' m : τ} {x : α} {A : Act → World → Prop} (hp : (x :: rest).Perm todo) (hb : b x s = some s') (h : ∀ a w, A a w → I rest (x :: done) m a w) : some m = some s' → ∀ a w, A a w → MPost B I b todo done s .normal a w :=
  fun e a w ha => .inr ⟨rfl, x, rest, s', hp, hb, by simp only [Option.some.injEq] at e; subst e; exact h a w ha⟩
theorem wp_mapLoop {α τ : Type} {P : Program} {c : Code} {B : Nat} {I : List α → List α → τ → Act → World → Prop} {b : α → τ → Option τ} {R : τ} {l : List α}
    (round : ∀ todo done s, (∀ x ∈ todo, ∃ s', b x s = some s') → ∀ a w, I todo done s a w → c.wpIn (fen κ) 0 P (MPost B I b todo done s) a w) : ∀ (n : Nat) (todo done : List α) (s : τ), todo.length = n → (∀ l', l'.Perm todo → forL b l' s = some R) → (done ++ todo).Perm l → ∀ a w, I todo done s a w →
      ∀ (fr : Frame) (k : List Item) (cs : List Frame), fr.roundOf = (fen κ).round → ∃ a' w' done', done'.Perm l ∧ I [] done' R a' w' ∧ ArrivesIn (Machine.fenced P (fen κ)) P (lone (fr.atR a (.code c :: .inLoop c :: k)) cs w) fr k cs (.exit B) a' w'
  | n, todo, done, s, hn, hall, hdone, a, w, hI, fr, k, cs, hro => by
    have hx : ∀ x ∈ todo, ∃ s', b x s = some s' := fun x hm => by
      obtain ⟨l1, l2, e⟩ := List.append_of_mem hm
      have hp : (x :: (l1 ++ l2)).Perm todo := by rw [e]; exact List.perm_middle.symm
      have := hall _ hp
      simp only [forL] at this
      cases hb : b x s with
      | none => rw [hb] at this; cases this
      | some s' => exact ⟨s', rfl⟩
    obtain ⟨e, a₁, w₁, hq, harr⟩ := round todo done s hx a w hI fr (.inLoop c :: k) cs hro (fen_fn κ _) (fen_room κ _)
    rcases hq with ⟨rfl, rfl, hI'⟩ | ⟨rfl, x, rest, s', hp, hb, hI'⟩
    · have h0 := hall [] (.refl _)
      simp only [forL, Option.some.injEq] at h0
      subst h0
      exact ⟨a₁, w₁, done, by simpa using hdone, hI', .pass (x := .inLoop c) rfl (fun _ _ => .inl (by simp)) harr⟩
    · have hlen : rest.length < n := by have := hp.length_eq; simp at this; omega
      have hall' : ∀ l', l'.Perm rest → forL b l' s' = some R := fun l' hl' => by
        have := hall (x :: l') ((hl'.cons x).trans hp)
        simpa [forL, hb] using this
      have hdone' : (x :: done ++ rest).Perm l := by
        refine List.Perm.trans ?_ hdone
        have h1 : (x :: done ++ rest).Perm (done ++ x :: rest) := List.perm_middle.symm
        exact h1.trans (hp.append_left done)
      obtain ⟨a₂, w₂, done₂, hd₂, hI₂, harr₂⟩ := wp_mapLoop round rest.length rest (x :: done) s' rfl hall' hdone' a₁ w₁ hI' fr k cs hro
      exact ⟨a₂, w₂, done₂, hd₂, hI₂, .of_steps (StepsIn.trans harr (.one (fenced_calm (n := 0) (fen_fn κ _) (fen_room κ _) rfl) stepR_inLoop)) harr₂⟩
termination_by n => n
section
variable {β : Type} {P : Program} {ks ks' : List Kt} {Q : Exit → Act → World → Prop} {A : Act → World → Prop} {r : β}
theorem GC.mapLoop {α τ : Type} {c : Code} {B : Nat} {l : List α} {b : α → τ → Option τ} {s0 : τ} {f : τ → Option β} (I : List α → List α → τ → Act → World → Prop) (hk : exitK B ks = some ks')
    (hI : ∀ a w, A a w → I l [] s0 a w)
    (round : ∀ todo done s, (∀ x ∈ todo, ∃ s', b x s = some s') → GC κ P c [] (MPost B I b todo done s) (I todo done s) (some ()) ())
    (after : ∀ done R, permM b l s0 = some R → done.Perm l → GE κ P ks' Q (I [] done R) (f R) r) :
    GC κ P (.loop c) ks Q A ((permM b l s0).bind f) r := by
  intro hm a w ha
  cases hl : permM b l s0 with
  | none => rw [hl] at hm; cases hm
  | some R =>
    rw [hl] at hm
    intro fr k cs hro hf hr
    obtain ⟨a', w', done, hd, hI', harr⟩ := wp_mapLoop (I := I) (b := b) (R := R) (l := l) (fun todo done s hx a w hI' => round todo done s hx rfl a w hI') l.length l [] s0 rfl (permM_some hl) (by simp) a w (hI a w ha) fr k cs hro
    exact ⟨.exit B, a', w', interp_exit hk (after done R hl hd hm a' w' hI'), .of_steps (.one (fenced_calm hf hr rfl) stepR_loop) harr⟩
theorem GL.use {σ : Type} {ops : Array Oper} {l0 : List Oper} {e : Option σ} {s' : σ} {Q : Exit → Act → World → Prop} {A : Act → World → Prop} (he : e = some s') (k : GL κ P ops l0 ks Q A e s') : GL κ P ops l0 ks Q A (some ()) () := fun _ => k he
end
section
variable {K V : Type}
def ownIter (ck : K → Value) (rv : Fz → V → Value → Prop) (F : Fz) (b it : Nat) (todo done : List (K × V)) : HP := fun m => ∃ (es : Array MapEntry) (clock : Nat) (l' : List (K × V)) (seen : Array Nat) (last : Nat),
  star (pt b (.map es clock)) (pt it (.mapIter (some b) clock seen last)) m ∧ MRel ck rv F es.toList l' ∧ Births es.toList clock ∧ (seen.isEmpty = false → last = clock) ∧
  todo.Perm (((es.toList.zip l').filter (fun z => !seen.contains z.1.born)).map Prod.snd) ∧ done.Perm (((es.toList.zip l').filter (fun z => seen.contains z.1.born)).map Prod.snd) ∧
  ∀ x, done.head? = some x → ∃ z ∈ es.toList.zip l', z.2 = x ∧ seen.back? = some z.1.born
theorem own_iter {ck : K → Value} {rv : Fz → V → Value → Prop} {F F0 : Fz} {w : World} {H : HP} {b it : Nat} {todo done : List (K × V)} (h : SH w F (star (ownIter ck rv F0 b it todo done) H)) : ∃ (es : Array MapEntry) (clock : Nat) (l' : List (K × V)) (seen : Array Nat) (last : Nat),
    w.heap[b]? = some (.map es clock) ∧ w.heap[it]? = some (.mapIter (some b) clock seen last) ∧ SH w F (star (pt it (.mapIter (some b) clock seen last)) (star (pt b (.map es clock)) H)) ∧ MRel ck rv F0 es.toList l' ∧ Births es.toList clock ∧ (seen.isEmpty = false → last = clock) ∧
    todo.Perm (((es.toList.zip l').filter (fun z => !seen.contains z.1.born)).map Prod.snd) ∧ done.Perm (((es.toList.zip l').filter (fun z => seen.contains z.1.born)).map Prod.snd) ∧
    ∀ x, done.head? = some x → ∃ z ∈ es.toList.zip l', z.2 = x ∧ seen.back? = some z.1.born := by
  obtain ⟨m, ⟨m1, m2, d, s1, s2, ⟨es, c, l', seen, last, h1, h2⟩, hq⟩, k⟩ := h
  have hs : SH w F (star (pt b (.map es c)) (star (pt it (.mapIter (some b) c seen last)) H)) := ⟨m, star_assoc ⟨m1, m2, d, s1, s2, h1, hq⟩, k⟩
  have hs' : SH w F (star (pt it (.mapIter (some b) c seen last)) (star (pt b (.map es c)) H)) := hs.mono fun m hm => star_swap hm
  exact ⟨es, c, l', seen, last, hs.owned, hs'.owned, hs', h2⟩
theorem MRel.zip_mem {ck : K → Value} {rv : Fz → V → Value → Prop} {F : Fz} : ∀ {es : List MapEntry} {l : List (K × V)} {z : MapEntry × (K × V)}, MRel ck rv F es l → z ∈ es.zip l → z.1.key = ck z.2.1 ∧ ∀ F', F ≤ F' → rv F' z.2.2 z.1.val
  | [], _, _, _, h => by simp at h
  | _ :: _, [], _, _, h => by simp at h
  | e :: es, x :: l, z, ⟨h1, h2, h3⟩, h => by
    rw [List.zip_cons_cons, List.mem_cons] at h
    rcases h with rfl | h
    · exact ⟨h1, h2⟩
    · exact h3.zip_mem h
theorem MRel.map_zip {ck : K → Value} {rv : Fz → V → Value → Prop} {F : Fz} {es : List MapEntry} {l : List (K × V)} (h : MRel ck rv F es l) : (es.zip l).map Prod.snd = l ∧ (es.zip l).map Prod.fst = es :=
  ⟨List.map_snd_zip (by rw [h.len]; exact Nat.le_refl _), List.map_fst_zip (by rw [h.len]; exact Nat.le_refl _)⟩
theorem filter_split {α : Type} {g : α → Nat} {p : α → Bool} : ∀ {Z : List α} {z : α}, (Z.map g).Nodup → z ∈ Z → p z = true → (Z.filter p).Perm (z :: Z.filter (fun y => p y && !(g y == g z)))
  | [], _, _, h, _ => by cases h
  | y :: Z, z, hn, h, hp => by
    simp only [List.map_cons, List.nodup_cons] at hn
    rcases List.mem_cons.1 h with rfl | h
    · have h1 : Z.filter (fun y => p y && !(g y == g z)) = Z.filter p := List.filter_congr fun y hy => by
        have : g y ≠ g z := fun e => hn.1 (e ▸ List.mem_map_of_mem hy)
        simp [this]
      simp only [List.filter_cons, hp, if_true, BEq.rfl, Bool.not_true, Bool.and_false, Bool.false_eq_true, if_false]
      rw [h1]
    · have hne : (g y == g z) = false := by
        cases hb : g y == g z with
        | false => rfl
        | true => exact absurd (List.mem_map_of_mem (f := g) h) (by rw [← (beq_iff_eq.1 hb : g y = g z)]; exact hn.1)
      have ih := filter_split hn.2 h hp
      simp only [List.filter_cons, hne, Bool.not_false, Bool.and_true]
      cases p y with
      | true => simp only [if_true]; exact (ih.cons y).trans (.swap _ _ _)
      | false => simpa using ih
theorem filter_grow {α : Type} {g : α → Nat} {p q : α → Bool} {Z : List α} {z : α} (hn : (Z.map g).Nodup) (hz : z ∈ Z) (hp : p z = false) (hq : ∀ y ∈ Z, q y = (p y || g y == g z)) : (Z.filter q).Perm (z :: Z.filter p) := by
  have h1 := filter_split (p := q) hn hz (by rw [hq z hz]; simp)
  refine h1.trans (.of_eq ?_)
  congr 1
  refine List.filter_congr fun y hy => ?_
  rw [hq y hy]
  cases hb : g y == g z with
  | false => simp
  | true =>
    have e : y = z := by
      have h2 : g y = g z := beq_iff_eq.1 hb
      obtain ⟨i, hi, e1⟩ := List.getElem_of_mem hy
      obtain ⟨j, hj, e2⟩ := List.getElem_of_mem hz
      have hpw := List.pairwise_iff_getElem.1 hn
      have : i = j := by
        rcases Nat.lt_trichotomy i j with h | h | h
        · exact absurd (by rw [List.getElem_map, List.getElem_map, e1, e2, h2]) (hpw i j (by simpa using hi) (by simpa using hj) h)
        · exact h
        · exact absurd (by rw [List.getElem_map, List.getElem_map, e1, e2, h2]) (hpw j i (by simpa using hj) (by simpa using hi) h)
      subst this; rw [← e1, ← e2]
    subst e; simp [hp]
end
section
variable {β : Type} {P : Program} {ops : Array Oper} {rest : List Oper} {ks : List Kt} {Q : Exit → Act → World → Prop} {m : Option β} {r : β}
variable {n : Nat} {D : List Deferred} {S : List (Nat × Value)} {F F0 : Fz} {hs : List HP} {d : Nat} {ty t kt vt : TypeId} {pos : String} {after : Array Edge} {ox : Operand}
variable {K V : Type} {ck : K → Value} {rv : Fz → V → Value → Prop} {b it γ j : Nat} {l todo done : List (K × V)} {xs : List (List (K × V))}
theorem GL.rangeR {p : Option Nat} (i : Nat) (hi : hs[i]? = some (arena γ (ownMapP ck rv) F0 xs)) (hb : RefB γ F j b) (hp : p = some b) (hel : xs[j]? = some l) (hd : Nat.blt d n = true) (ht : P.underlying t = some (.map kt vt)) (hx : evalS S ox = some (.map p))
    (k : ∀ it, (l.map Prod.fst).Nodup → GL κ P ops rest ks Q (Hd n D ((d, .pointer (some ⟨it, 0, none⟩)) :: S) F (ownIter ck rv F0 b it l [] :: hs.set i (hole γ (ownMapP ck rv) F0 j b xs))) m r) :
    GL κ P ops (⟨some d, .range t ox, ty, pos, after, none⟩ :: rest) ks Q (Hd n D S F hs) m r := by
  subst hp
  refine GL.step rfl (.inr rfl) fun hm a w ha => ?_
  have h0 := (ha.2.pull hi).takeR hb hel
  obtain ⟨es, c, l', hpm, hn, hh, hr, hsh, hbi⟩ := own_mapP h0
  refine ⟨.pointer (some ⟨w.heap.size, 0, none⟩), w.alloc (.mapIter (some b) c #[] c), ?_, k w.heap.size hn hm _ _ ⟨ha.1.put hd _, ?_⟩⟩
  · simp [execOp, Instr.range, ha.1.eval hx, rUnd ht, run_getM hh]
  · have h1 := hsh.alloc (.mapIter (some b) c #[] c)
    have h2 : SH (w.alloc (.mapIter (some b) c #[] c)) F (star (ownIter ck rv F0 b w.heap.size l []) (star (hole γ (ownMapP ck rv) F0 j b xs) (stars (hs.eraseIdx i)))) := h1.mono fun m hm => by
      have h3 := star_assoc' (star_swap hm)
      refine star_mono_left (fun m' hm' => ⟨es, c, l', #[], c, hm', hr, hbi, fun h => (by simp at h), ?_, ?_, fun x h => (by cases h)⟩) h3
      · have e : ((es.toList.zip l').filter (fun z => !(#[] : Array Nat).contains z.1.born)) = es.toList.zip l' := List.filter_eq_self.2 fun _ _ => by simp
        rw [e, hr.map_zip.1]; exact hpm.symm
      · have e : ((es.toList.zip l').filter (fun z => (#[] : Array Nat).contains z.1.born)) = [] := List.filter_eq_nil_iff.2 fun _ _ => by simp
        rw [e]; exact .refl _
    exact h2.mono fun m hm => star_mono_right (fun m' hm' => stars_push hi hm') hm
theorem births_nodup {es : List MapEntry} {c : Nat} {l' : List (K × V)} (hb : Births es c) (hr : MRel ck rv F es l') : ((es.zip l').map (fun z => z.1.born)).Nodup := by
  have e : (es.zip l').map (fun z => z.1.born) = ((es.zip l').map Prod.fst).map (·.born) := by rw [List.map_map]; rfl
  rw [e, hr.map_zip.2]
  exact hb.1.imp fun h => Nat.ne_of_lt h
theorem getObj_it {w : World} {q b : Nat} {c s : Nat} {seen : Array Nat} (h : w.heap[q]? = some (.mapIter (some b) c seen s)) : (getObj q).run P w = .ok (.mapIter (some b) c seen s) w := by
  simp [getObj, Sem.run, h]
theorem setObj_it {w : World} {o' : Obj} {q b : Nat} {c s : Nat} {seen : Array Nat} (h : w.heap[q]? = some (.mapIter (some b) c seen s)) : (setObj q o').run P w = .ok () (put w q o') := by
  simp [setObj, Sem.run, put, h]
theorem run_choose_map (w : World) {n : Nat} (hn : 0 < n) : ∃ idx, idx < n ∧ ∃ k, (choose (.mapNext n)).run P w = .ok idx { w with drawn := k } := by
  by_cases h1 : n ≤ 1
  · exact ⟨0, hn, w.drawn, by simp [choose, Sem.run, Question.forced, h1]⟩
  · exact ⟨_, Nat.mod_lt _ hn, w.drawn + 1, by simp [choose, Sem.run, Question.forced, Question.cut, h1]; rfl⟩
theorem run_next {w : World} {es : Array MapEntry} {clock last : Nat} {l' : List (K × V)} {seen : Array Nat} {todo : List (K × V)} (hb : w.heap[b]? = some (.map es clock)) (hit : w.heap[it]? = some (.mapIter (some b) clock seen last)) (hr : MRel ck rv F0 es.toList l') (hbi : Births es.toList clock) (hl : seen.isEmpty = false → last = clock)
    (ht : todo.Perm (((es.toList.zip l').filter (fun z => !seen.contains z.1.born)).map Prod.snd)) :
    (todo = [] → ∃ k, (Instr.next (.pointer (some ⟨it, 0, none⟩)) false ty).run P w = .ok (.tuple #[.bool false]) { w with drawn := k }) ∧
    (todo ≠ [] → ∃ z ∈ es.toList.zip l', seen.contains z.1.born = false ∧ ∃ k, (Instr.next (.pointer (some ⟨it, 0, none⟩)) false ty).run P w = .ok (.tuple #[.bool true, z.1.key, z.1.val]) (put { w with drawn := k } it (.mapIter (some b) clock (seen.push z.1.born) clock))) := by
  have hguard : (!seen.isEmpty && !es.isEmpty && es.all fun e => decide (e.born ≥ last)) = false := by
    cases hs : seen.isEmpty with
    | true => simp
    | false =>
      cases he : es.isEmpty with
      | true => simp
      | false =>
        have hlast := hl hs
        simp only [Bool.not_false, Bool.true_and]
        cases hall : es.all fun e => decide (e.born ≥ last) with
        | false => rfl
        | true =>
          rw [Array.all_eq_true] at hall
          have hsz : 0 < es.size := by
            rcases Nat.eq_zero_or_pos es.size with h | h
            · have : es.isEmpty = true := by simpa using Array.eq_empty_of_size_eq_zero h
              rw [this] at he; cases he
            · exact h
          have h1 := hall 0 hsz
          have h2 := hbi.2 es[0] (by simp)
          simp at h1; omega
  obtain ⟨L, hL⟩ : ∃ L, L = es.filter fun e => !seen.contains e.born := ⟨_, rfl⟩
  have hin : ∀ e, e ∈ L → e ∈ es.toList ∧ seen.contains e.born = false := fun e he => by
    subst hL
    rw [Array.mem_filter] at he
    exact ⟨by simpa using he.1, by simpa using he.2⟩
  have hold : (L.filter fun e => decide (e.born < clock)) = L := by
    rw [Array.filter_eq_self]
    intro e he; simpa using hbi.2 e (hin e he).1
  have hnew : (L.filter fun e => decide (e.born ≥ clock)) = #[] := by
    rw [Array.filter_eq_empty_iff]
    intro e he; have := hbi.2 e (hin e he).1; simp; omega
  have hlen : todo.length = L.size := by
    have h1 := ht.length_eq
    rw [List.length_map] at h1
    have h2 : ((es.toList.zip l').filter (fun z => !seen.contains z.1.born)).length = (((es.toList.zip l').map Prod.fst).filter (fun e => !seen.contains e.born)).length := by
      rw [List.filter_map, List.length_map]; rfl
    rw [hr.map_zip.2] at h2
    rw [h1, h2, hL, ← Array.length_toList, Array.toList_filter]
  have hrun : ∀ (q : Option MapEntry → World → Result Value), True := fun _ => trivial
  refine ⟨fun h0 => ?_, fun h0 => ?_⟩
  · have hLe : L = #[] := Array.eq_empty_of_size_eq_zero (by rw [← hlen, h0]; rfl)
    refine ⟨w.drawn, ?_⟩
    simp only [Instr.next, Sem.run_bind, getObj_it hit, Result.andThen, run_getM hb, hguard, Bool.false_eq_true, if_false, ← hL, hLe]
    simp [choose, Sem.run, Question.forced]
  · have hLn : L.size ≠ 0 := by
      rw [← hlen]; intro e; exact h0 (List.eq_nil_of_length_eq_zero e)
    have hLe : L.isEmpty = false := by
      cases h : L.isEmpty with
      | false => rfl
      | true => rw [Array.isEmpty_iff_size_eq_zero] at h; exact absurd h hLn
    obtain ⟨idx, hidx, k, hch⟩ := run_choose_map (P := P) w (n := L.size) (by omega)
    have hmem := hin L[idx] (by simp)
    obtain ⟨z, hz, hze⟩ : ∃ z ∈ es.toList.zip l', z.1 = L[idx] := by
      have := hmem.1
      rw [← hr.map_zip.2] at this
      obtain ⟨z, hz, e⟩ := List.mem_map.1 this
      exact ⟨z, hz, e⟩
    refine ⟨z, hz, by rw [hze]; exact hmem.2, k, ?_⟩
    rw [hze]
    have hit2 : ({ w with drawn := k } : World).heap[it]? = some (.mapIter (some b) clock seen last) := hit
    simp only [Instr.next, Sem.run_bind, getObj_it hit, Result.andThen, run_getM hb, hguard, Bool.false_eq_true, if_false, ← hL, hold, hnew, hLe, Array.append_empty, Array.size_map, Array.empty_append, hch]
    simp [hidx, setObj_it hit2]
theorem GL.nextM0 {pt' : Option Addr} (i : Nat) (hi : hs[i]? = some (ownIter ck rv F0 b it [] done)) (hp : pt' = some ⟨it, 0, none⟩) (hd : Nat.blt d n = true) (hx : evalS S ox = some (.pointer pt'))
    (k : GL κ P ops rest ks Q (Hd n D ((d, .tuple #[.bool false]) :: S) F hs) m r) :
    GL κ P ops (⟨some d, .next ox false, ty, pos, after, none⟩ :: rest) ks Q (Hd n D S F hs) m r := by
  subst hp
  refine GL.step rfl (.inr rfl) fun hm a w ha => ?_
  obtain ⟨es, c, l', seen, last, hb, hit, _, hr, hbi, hl, ht, hdn, _⟩ := own_iter (ha.2.pull hi)
  obtain ⟨k', hk'⟩ := (run_next (P := P) (ty := ty) hb hit hr hbi hl ht).1 rfl
  refine ⟨_, { w with drawn := k' }, ?_, k hm _ _ ⟨ha.1.put hd _, ha.2.drew _⟩⟩
  simp [execOp, ha.1.eval hx, hk']
theorem GL.nextM1 {pt' : Option Addr} (i : Nat) (hi : hs[i]? = some (ownIter ck rv F0 b it todo done)) (hne : todo ≠ []) (hp : pt' = some ⟨it, 0, none⟩) (hd : Nat.blt d n = true) (hx : evalS S ox = some (.pointer pt'))
    (k : ∀ x rest' v, (x :: rest').Perm todo → (∀ F', F0 ≤ F' → rv F' x.2 v) → GL κ P ops rest ks Q (Hd n D ((d, .tuple #[.bool true, ck x.1, v]) :: S) F (hs.set i (ownIter ck rv F0 b it rest' (x :: done)))) m r) :
    GL κ P ops (⟨some d, .next ox false, ty, pos, after, none⟩ :: rest) ks Q (Hd n D S F hs) m r := by
  subst hp
  refine GL.step rfl (.inr rfl) fun hm a w ha => ?_
  obtain ⟨es, c, l', seen, last, hb, hit, hsh, hr, hbi, hl, ht, hdn, _⟩ := own_iter (ha.2.pull hi)
  obtain ⟨z, hz, hseen, k', hk'⟩ := (run_next (P := P) (ty := ty) hb hit hr hbi hl ht).2 hne
  obtain ⟨hkey, hval⟩ := hr.zip_mem hz
  have hnd := births_nodup hbi hr
  have hlt : z.1.born < c := hbi.2 _ (by rw [← hr.map_zip.2]; exact List.mem_map_of_mem hz)
  have hsp := filter_split (p := fun y : MapEntry × (K × V) => !seen.contains y.1.born) hnd hz (by simp only [hseen, Bool.not_false])
  have e1 : ∀ y : MapEntry × (K × V), (!(seen.push z.1.born).contains y.1.born) = (!seen.contains y.1.born && !(y.1.born == z.1.born)) := fun y => by
    rw [Array.contains_push, Bool.not_or]
  refine ⟨_, put { w with drawn := k' } it (.mapIter (some b) c (seen.push z.1.born) c), ?_, k z.2 (((es.toList.zip l').filter (fun y => !(seen.push z.1.born).contains y.1.born)).map Prod.snd) z.1.val ?_ hval hm _ _ ⟨by rw [← hkey]; exact ha.1.put hd _, SH.push hi ((((hsh.drew _).put (o' := .mapIter (some b) c (seen.push z.1.born) c))).mono fun m hm => ?_)⟩⟩
  · simp [execOp, ha.1.eval hx, hk']
  · refine List.Perm.trans ?_ ht.symm
    have := (hsp.map Prod.snd).symm
    simp only [List.map_cons] at this
    refine List.Perm.trans (.of_eq ?_) this
    congr 2
    exact List.filter_congr fun y _ => e1 y
  · have hm2 := star_assoc' (star_swap hm)
    refine star_mono_left (fun m' hm' => ⟨es, c, l', seen.push z.1.born, c, hm', hr, hbi, fun _ => rfl, .refl _, ?_, fun x hx => ?_⟩) hm2
    · have := filter_grow (g := fun y : MapEntry × (K × V) => y.1.born) (p := fun y => seen.contains y.1.born) (q := fun y => (seen.push z.1.born).contains y.1.born) hnd hz hseen (fun y _ => by rw [Array.contains_push])
      have h3 := this.map Prod.snd
      simp only [List.map_cons] at h3
      exact (hdn.cons z.2).trans h3.symm
    · simp only [List.head?_cons, Option.some.injEq] at hx
      exact ⟨z, hz, hx, by simp⟩
theorem GL.entryM {pt' : Option Addr} {x : K × V} (i : Nat) (hi : hs[i]? = some (ownIter ck rv F0 b it todo (x :: done))) (hp : pt' = some ⟨it, 0, none⟩) (hd : Nat.blt d n = true) (hx : evalS S ox = some (.pointer pt'))
    (k : ∀ v, (∀ F', F0 ≤ F' → rv F' x.2 v) → GL κ P ops rest ks Q (Hd n D ((d, .tuple #[ck x.1, v]) :: S) F hs) m r) :
    GL κ P ops (⟨some d, .entry ox, ty, pos, after, none⟩ :: rest) ks Q (Hd n D S F hs) m r := by
  subst hp
  refine GL.step rfl (.inr rfl) fun hm a w ha => ?_
  obtain ⟨es, c, l', seen, last, hb, hit, hsh, hr, hbi, hl, ht, hdn, hlast⟩ := own_iter (ha.2.pull hi)
  obtain ⟨z, hz, hzx, hback⟩ := hlast x rfl
  obtain ⟨hkey, hval⟩ := hr.zip_mem hz
  subst hzx
  have hne : seen.isEmpty = false := by
    cases h : seen.isEmpty with
    | false => rfl
    | true =>
      have : seen = #[] := by simpa using h
      subst this; simp at hback
  have hlc := hl hne
  subst hlc
  have hfind : es.find? (fun e => e.born == z.1.born) = some z.1 := by
    have hmem : z.1 ∈ es.toList := by rw [← hr.map_zip.2]; exact List.mem_map_of_mem hz
    have hnd : (es.toList.map (·.born)).Nodup := hbi.1.imp fun h => Nat.ne_of_lt h
    have : es.toList.find? (fun e => e.born == z.1.born) = some z.1 := by
      clear hb hit hr hbi ht hdn hlast hz hval hkey hsh hback hl
      generalize es.toList = L at hmem hnd
      induction L with
      | nil => cases hmem
      | cons y L ih =>
        simp only [List.map_cons, List.nodup_cons] at hnd
        rcases List.mem_cons.1 hmem with e | e
        · rw [List.find?_cons, ← e]; simp
        · have : (y.born == z.1.born) = false := by
            cases hbb : y.born == z.1.born with
            | false => rfl
            | true => exact absurd (List.mem_map_of_mem (f := (·.born)) e) (by rw [← (beq_iff_eq.1 hbb : y.born = z.1.born)]; exact hnd.1)
          rw [List.find?_cons, this]; exact ih e hnd.2
    simpa using this
  refine ⟨_, w, ?_, k z.1.val hval hm _ _ ⟨by rw [← hkey]; exact ha.1.put hd _, ha.2⟩⟩
  simp [execOp, Instr.entry, ha.1.eval hx, getObj_it hit, run_getM hb, hback, hfind]
end
section
variable {K V : Type} {ck : K → Value} {rv : Fz → V → Value → Prop} {b it γ j : Nat} {l todo done : List (K × V)} {xs : List (List (K × V))} {F F0 F1 : Fz} {w : World} {hs : List HP}
theorem SH.iterEnd {H : HP} (hp : done.Perm l) (hn : (l.map Prod.fst).Nodup) (h : SH w F (star (ownIter ck rv F0 b it [] done) H)) : SH w F (star (ownMapP ck rv F0 b l) H) := by
  obtain ⟨es, c, l', seen, last, hb, hit, hsh, hr, hbi, hl, ht, hdn, _⟩ := own_iter h
  have h1 : ((es.toList.zip l').filter (fun z => !seen.contains z.1.born)) = [] := by
    have h3 := ht.length_eq
    rw [List.length_map] at h3
    exact List.eq_nil_of_length_eq_zero h3.symm
  have h2 : ((es.toList.zip l').filter (fun z => seen.contains z.1.born)) = es.toList.zip l' := by
    rw [List.filter_eq_self]
    intro z hz
    have := (List.filter_eq_nil_iff.1 h1) z hz
    simpa using this
  rw [h2, hr.map_zip.1] at hdn
  exact hsh.drop.mono fun m hm => star_mono_left (fun m hm => ⟨l', (hdn.symm.trans hp), hn, es, c, hm, hr, hbi⟩) hm
theorem hole_lt {H : HP} {C : Fz → Nat → List (K × V) → HP} (h : SH w F (star (hole γ C F0 j b xs) H)) : j < xs.length := by
  obtain ⟨m, ⟨m1, m2, _, _, _, ⟨bs, hl, hb, _⟩, _⟩, _⟩ := h
  rw [← hl]; exact (List.getElem?_eq_some_iff.1 hb).1
theorem SH.iterBack {xs' : List (List (K × V))} (i k : Nat) (hi : hs[i]? = some (ownIter ck rv F0 b it [] done)) (hk : (hs.eraseIdx i)[k]? = some (hole γ (ownMapP ck rv) F1 j b xs)) (le0 : F0 ≤ F) (le1 : F1 ≤ F) (hp : done.Perm l) (hn : (l.map Prod.fst).Nodup) (he : xs' = xs.set j l) (h : SH w F (stars hs)) : SH w F (stars ((hs.eraseIdx i).set k (arena γ (ownMapP ck rv) F xs'))) := by
  subst he
  have h1 : SH w F (star (ownIter ck rv F0 b it [] done) (star (hole γ (ownMapP ck rv) F1 j b xs) (stars ((hs.eraseIdx i).eraseIdx k)))) := (h.pull hi).mono fun m hm => star_mono_right (fun _ => stars_pull hk) hm
  have h2 := (h1.iterEnd hp hn).mono (H' := star (ownMapP ck rv F b l) (star (hole γ (ownMapP ck rv) F1 j b xs) (stars ((hs.eraseIdx i).eraseIdx k)))) fun m hm => star_mono_left (fun m hm => ownMapP_up le0 hm) hm
  have h3 := SH.giveR mapStays le1 h2 (hole_lt (h2.mono fun m hm => star_swap hm))
  exact SH.push hk h3
end
section
variable {β : Type} {X : Act → World → Prop} {P : Program} {ks : List Kt} {Q : Exit → Act → World → Prop} {m : Option β} {r : β} {n : Nat} {D : List Deferred} {S : List (Nat × Value)} {F F0 F1 : Fz} {hs : List HP}
variable {K V : Type} {ck : K → Value} {rv : Fz → V → Value → Prop} {b it γ j : Nat} {l done : List (K × V)} {xs xs' : List (List (K × V))}
theorem GE.iterBack (i k : Nat) (hi : hs[i]? = some (ownIter ck rv F0 b it [] done)) (hk : (hs.eraseIdx i)[k]? = some (hole γ (ownMapP ck rv) F1 j b xs)) (le0 : F0 ≤ F) (le1 : F1 ≤ F) (hp : done.Perm l) (hn : (l.map Prod.fst).Nodup) (he : xs' = xs.set j l)
    (K' : GE κ P ks Q (Hd n D S F ((hs.eraseIdx i).set k (arena γ (ownMapP ck rv) F xs'))) m r) : GE κ P ks Q (Hd n D S F hs) m r := fun hm a w ha =>
  K' hm a w ⟨ha.1, ha.2.iterBack i k hi hk le0 le1 hp hn he⟩
end
section
variable {α : Type} {γ : Nat} {C : Fz → Nat → α → HP} {F F0 F' : Fz} {xs : List α} {i j b c : Nat} {x y : α} {H : HP} {w : World}
def optC (C : Fz → Nat → α → HP) : Fz → Nat → Option α → HP := fun F b x => match x with | some x => C F b x | none => emp
theorem optC_stays (hC : Stays C) : Stays (optC C) := fun F F' b x m le h => by
  cases x with
  | none => exact h
  | some x => exact hC _ _ _ _ _ le h
theorem zip_opt {bs : List Nat} (hb : bs[j]? = some b) : List.zipWith (optC C F0) bs ((xs.map some).set j none) = (List.zipWith (C F0) bs xs).set j emp := by
  have h1 := zip_set (f := optC C F0) (xs := xs.map some) (y := none) hb
  rw [← h1, List.zipWith_map_right]
  rfl
theorem hole_opt (h : SH w F (star (hole γ C F0 j b xs) H)) : SH w F (star (arena γ (optC C) F0 ((xs.map some).set j none)) H) :=
  h.mono fun m hm => star_mono_left (fun m hm => by
    obtain ⟨bs, hl, hb, hz⟩ := hm
    refine ⟨bs, by simpa using hl, star_mono_right (fun m hm => ?_) hz⟩
    rw [zip_opt hb]
    have hj := (List.getElem?_eq_some_iff.1 hb).1
    have hjl : j < (List.zipWith (C F0) bs xs).length := by simp; omega
    exact stars_push (List.getElem?_eq_getElem hjl) ⟨fun _ => none, m, fun _ => .inl rfl, fun _ _ e => by simp at e, Mem.sub.refl _, trivial, hm⟩) hm
theorem opt_hole (h : SH w F (star (arena γ (optC C) F0 ((xs.map some).set j none)) H)) (hb : RefB γ F j b) (hj : j < xs.length) : SH w F (star (hole γ C F0 j b xs) H) := by
  obtain ⟨m, ⟨m1, m2, d, s1, s2, ⟨bs, hl, hz⟩, hq⟩, k⟩ := h
  have hbs : bs[j]? = some b := by
    obtain ⟨m3, m4, d', t1, t2, hg, _⟩ := hz
    obtain ⟨_, e⟩ := k.gst γ _ (s1 _ _ (t1 _ _ hg))
    simp only [Cell.gh.injEq] at e
    rw [e]; exact hb.2
  rw [zip_opt hbs] at hz
  refine ⟨m, ⟨m1, m2, d, s1, s2, ⟨bs, by simpa using hl, hbs, ?_⟩, hq⟩, k⟩
  obtain ⟨m3, m4, d', t1, t2, hg, hs⟩ := hz
  have hlen : bs.length = xs.length := by simpa using hl
  have hz : ((List.zipWith (C F0) bs xs).set j emp)[j]? = some emp := by
    rw [List.getElem?_set]; simp; omega
  obtain ⟨m5, m6, d6, t5, t6, _, h6⟩ := stars_pull hz hs
  rw [List.eraseIdx_set_eq] at h6
  exact ⟨m3, m6, fun k => (d' k).imp id (fun e => by
    cases h : m6 k with
    | none => rfl
    | some c => have := t6 _ _ h; rw [e] at this; cases this), t1, t6.trans t2, hg, h6⟩
end
section
variable {α β : Type} {X : Act → World → Prop} {P : Program} {ops : Array Oper} {l0 : List Oper} {cd : Code} {ks : List Kt} {Q : Exit → Act → World → Prop} {m : Option β} {r : β} {n : Nat} {D : List Deferred} {S : List (Nat × Value)} {F F0 : Fz} {hs : List HP}
variable {γ j b : Nat} {C : Fz → Nat → α → HP} {xs : List α}
theorem SH.hole_up {w : World} {H : HP} {F' : Fz} (hC : Stays C) (le : F0 ≤ F') (hb : RefB γ F j b) (h : SH w F (star (hole γ C F0 j b xs) H)) : SH w F (star (hole γ C F' j b xs) H) := by
  have hj : j < xs.length := by
    obtain ⟨m, ⟨m1, m2, _, _, _, ⟨bs, hl, hb, _⟩, _⟩, _⟩ := h
    rw [← hl]; exact (List.getElem?_eq_some_iff.1 hb).1
  exact opt_hole (SH.arena_up (optC_stays hC) le (hole_opt h)) hb hj
end
theorem set_back {α : Type} {xs : List α} {j : Nat} {x : α} (h : xs[j]? = some x) : xs = xs.set j x := by
  apply List.ext_getElem?
  intro i
  rw [List.getElem?_set]
  by_cases e : j = i
  · subst e; rw [if_pos rfl, h, if_pos (List.getElem?_eq_some_iff.1 h).1]
  · rw [if_neg e]
section
variable {α τ : Type}
open Classical in
noncomputable def permE (E : τ → τ → Prop) (b : α → τ → Option τ) (l : List α) (s : τ) : Option τ := match forL b l s with
  | none => none
  | some r => if ∀ l', l'.Perm l → ∃ r', forL b l' s = some r' ∧ E r' r then some r else none
theorem permE_some {E : τ → τ → Prop} {b : α → τ → Option τ} {l : List α} {s r : τ} (h : permE E b l s = some r) : ∀ l', l'.Perm l → ∃ r', forL b l' s = some r' ∧ E r' r := by
  unfold permE at h
  split at h
  · cases h
  · split at h
    · rename_i hp
      simp only [Option.some.injEq] at h
      subst h; exact hp
    · cases h
theorem permE_of {E : τ → τ → Prop} {b : α → τ → Option τ} {l : List α} {s r : τ} (h0 : forL b l s = some r) (h : ∀ l', l'.Perm l → ∃ r', forL b l' s = some r' ∧ E r' r) : permE E b l s = some r := by
  unfold permE
  rw [h0]
  exact if_pos h
theorem wp_mapLoopE {P : Program} {c : Code} {B : Nat} {I : List α → List α → τ → Act → World → Prop} {b : α → τ → Option τ} {l : List α}
    (round : ∀ todo done s, (∀ x ∈ todo, ∃ s', b x s = some s') → ∀ a w, I todo done s a w → c.wpIn (fen κ) 0 P (MPost B I b todo done s) a w) : ∀ (n : Nat) (todo done : List α) (s : τ), todo.length = n → (∀ l', l'.Perm todo → ∃ r, forL b l' s = some r) → (done ++ todo).Perm l → ∀ a w, I todo done s a w →
      ∀ (fr : Frame) (k : List Item) (cs : List Frame), fr.roundOf = (fen κ).round → ∃ a' w' done' R l', done'.Perm l ∧ l'.Perm todo ∧ forL b l' s = some R ∧ I [] done' R a' w' ∧ ArrivesIn (Machine.fenced P (fen κ)) P (lone (fr.atR a (.code c :: .inLoop c :: k)) cs w) fr k cs (.exit B) a' w'
  | n, todo, done, s, hn, hall, hdone, a, w, hI, fr, k, cs, hro => by
    have hx : ∀ x ∈ todo, ∃ s', b x s = some s' := fun x hm => by
      obtain ⟨l1, l2, e⟩ := List.append_of_mem hm
      have hp : (x :: (l1 ++ l2)).Perm todo := by rw [e]; exact List.perm_middle.symm
      obtain ⟨r, this⟩ := hall _ hp
      simp only [forL] at this
      cases hb : b x s with
      | none => rw [hb] at this; cases this
      | some s' => exact ⟨s', rfl⟩
    obtain ⟨e, a₁, w₁, hq, harr⟩ := round todo done s hx a w hI fr (.inLoop c :: k) cs hro (fen_fn κ _) (fen_room κ _)
    rcases hq with ⟨rfl, rfl, hI'⟩ | ⟨rfl, x, rest, s', hp, hb, hI'⟩
    · exact ⟨a₁, w₁, done, s, [], by simpa using hdone, .refl _, rfl, hI', .pass (x := .inLoop c) rfl (fun _ _ => .inl (by simp)) harr⟩
    · have hlen : rest.length < n := by have := hp.length_eq; simp at this; omega
      have hall' : ∀ l', l'.Perm rest → ∃ r, forL b l' s' = some r := fun l' hl' => by
        obtain ⟨r, this⟩ := hall (x :: l') ((hl'.cons x).trans hp)
        exact ⟨r, by simpa [forL, hb] using this⟩
      have hdone' : (x :: done ++ rest).Perm l := by
        refine List.Perm.trans ?_ hdone
        have h1 : (x :: done ++ rest).Perm (done ++ x :: rest) := List.perm_middle.symm
        exact h1.trans (hp.append_left done)
      obtain ⟨a₂, w₂, done₂, R, l', hd₂, hl', hf, hI₂, harr₂⟩ := wp_mapLoopE round rest.length rest (x :: done) s' rfl hall' hdone' a₁ w₁ hI' fr k cs hro
      exact ⟨a₂, w₂, done₂, R, x :: l', hd₂, (hl'.cons x).trans hp, by simp [forL, hb, hf], hI₂, .of_steps (StepsIn.trans harr (.one (fenced_calm (n := 0) (fen_fn κ _) (fen_room κ _) rfl) stepR_inLoop)) harr₂⟩
termination_by n => n
theorem GC.mapLoopE {β : Type} {P : Program} {ks ks' : List Kt} {Q : Exit → Act → World → Prop} {A : Act → World → Prop} {r : β} {c : Code} {B : Nat} {l : List α} {b : α → τ → Option τ} {s0 : τ} {f : τ → Option β} (E : τ → τ → Prop) (I : List α → List α → τ → Act → World → Prop) (hk : exitK B ks = some ks')
    (hI : ∀ a w, A a w → I l [] s0 a w) (hE : ∀ done R R' a w, E R' R → I [] done R' a w → I [] done R a w)
    (round : ∀ todo done s, (∀ x ∈ todo, ∃ s', b x s = some s') → GC κ P c [] (MPost B I b todo done s) (I todo done s) (some ()) ())
    (after : ∀ done R, permE E b l s0 = some R → done.Perm l → GE κ P ks' Q (I [] done R) (f R) r) :
    GC κ P (.loop c) ks Q A ((permE E b l s0).bind f) r := by
  intro hm a w ha
  cases hl : permE E b l s0 with
  | none => rw [hl] at hm; cases hm
  | some R =>
    rw [hl] at hm
    have hall := permE_some hl
    intro fr k cs hro hf hr
    obtain ⟨a', w', done, R', l', hd, hl', hfr, hI', harr⟩ := wp_mapLoopE (I := I) (b := b) (l := l) (fun todo done s hx a w hI' => round todo done s hx rfl a w hI') l.length l [] s0 rfl (fun l' hl' => let ⟨r', h1, _⟩ := hall l' hl'; ⟨r', h1⟩) (by simp) a w (hI a w ha) fr k cs hro
    obtain ⟨r', h1, h2⟩ := hall l' hl'
    rw [hfr] at h1
    cases h1
    exact ⟨.exit B, a', w', interp_exit hk (after done R hl hd hm a' w' (hE done R R' a' w' h2 hI')), .of_steps (.one (fenced_calm hf hr rfl) stepR_loop) harr⟩
end
def PermL {α : Type} (xs ys : List (List α)) : Prop := xs.length = ys.length ∧ ∀ (i : Nat) (x y : List α), xs[i]? = some x → ys[i]? = some y → x.Perm y
theorem SH.arena_map {α : Type} {γ : Nat} {C : Fz → Nat → α → HP} {xs ys : List α} {F F0 : Fz} {w : World} {H : HP} (hl : xs.length = ys.length) (hC : ∀ (i : Nat) x y b m, xs[i]? = some x → ys[i]? = some y → C F0 b x m → C F0 b y m) (h : SH w F (star (arena γ C F0 xs) H)) : SH w F (star (arena γ C F0 ys) H) :=
  h.mono fun m hm => star_mono_left (fun m ⟨bs, hl', hs⟩ => ⟨bs, hl'.trans hl, star_mono_right (fun m hm => stars_imp (by simp [hl]) (fun i p q e1 e2 m hp => by
    rw [List.getElem?_zipWith] at e1 e2
    cases hb : bs[i]? with
    | none => rw [hb] at e1; simp at e1
    | some b =>
      cases hx : xs[i]? with
      | none => rw [hb, hx] at e1; simp at e1
      | some x =>
        cases hy : ys[i]? with
        | none => rw [hb, hy] at e2; simp at e2
        | some y => rw [hb, hx] at e1; rw [hb, hy] at e2; simp at e1 e2; subst e1; subst e2; exact hC i x y b _ hx hy hp) hm) hs⟩) hm
end Go.Dec
end

section
namespace Go.Dec
variable {κ : Option Nat}
def CTV {ε : Type} (P : Program) (penc : ε → Value) (f : FuncId) (args : Array Value) (F : Fz) (Hs : List HP) (Hp : ε → Fz → List HP) : Prop :=
  (∀ w R, SH w F (star (stars Hs) R) → CallsDIn Fence.wide 0 P f args .returning w (fun e u' w' => u' = .returning ∧ (∃ v, e = .returned v) ∧ SH w' F (star (stars Hs) R))) ∧
  ∀ q w R, SH w F (star (stars Hs) R) → CallsDIn Fence.wide 0 P f args (.panicking [{ v := penc q, recovered := false }]) w (fun e u' w' => u' = .panicking [{ v := penc q, recovered := true }] ∧ (∃ v, e = .returned v) ∧ ∃ F', F ≤ F' ∧ SH w' F' (star (stars (Hp q F')) R))
def fnPostI (P : Program) (fn : Func) (F : Fz) (Hs : List HP) (R : HP) : Exit → Act → World → Prop := fun e a w => (e = .normal ∨ e = .ret) ∧ a.defers = [] ∧ (∃ v, (results fn a.tmps).run P w = .ok v w) ∧ SH w F (star (stars Hs) R)
def fnPostV (P : Program) (fn : Func) (F : Fz) (Hp : Fz → List HP) (R : HP) : Exit → Act → World → Prop := fun e a w => (e = .normal ∨ e = .ret) ∧ a.defers = [] ∧ (∃ v, (results fn a.tmps).run P w = .ok v w) ∧ ∃ F', F ≤ F' ∧ SH w F' (star (stars (Hp F')) R)
section
variable {ε : Type} {P : Program} {penc : ε → Value} {f : FuncId} {fn : Func} {n i0 d0 d1 : Nat} {args : List Value} {F : Fz} {Hs : List HP} {Hp : ε → Fz → List HP} {rest : Code} {T0 : Array TypeId} {ty0 ty1 : TypeId} {pos0 pos1 : String} {after0 after1 : Array Edge}
theorem run_recover {ev : Operand → Value} {w : World} : (execOp ev ⟨some d0, .call ⟨.builtin .recover, #[], T0⟩, ty0, pos0, after0, none⟩).run P w = .ok .recover w := by
  simp [execOp, resolve, invoke, builtin]
theorem opsS_value {ops : Array Oper} {i : Nat} {rest : List Nat} {o : Oper} {a : Act} {cs : List Frame} {w w' : World} {v : Value} {Q : Exit → Act → List Frame → World → Prop} (ho : ops[i]? = some o) (hw : Region.wanted o (yielded ops a.tmps) = true) (hr : (execOp a.eval o).run P w = .ok (.value v) w') (h : wpOpsSIn Fence.wide 0 P ops Q rest (a.put o.dst v) cs w') : wpOpsSIn Fence.wide 0 P ops Q (i :: rest) a cs w := by
  simp only [wpOpsSIn, ho]
  exact ⟨fun _ _ => trivial, by rw [if_pos hw, hr]; exact h⟩
theorem opsS_recover {ops : Array Oper} {i : Nat} {rest : List Nat} {o : Oper} {a : Act} {cs cs' : List Frame} {w w' : World} {v : Value} {Q : Exit → Act → List Frame → World → Prop} (ho : ops[i]? = some o) (hw : Region.wanted o (yielded ops a.tmps) = true) (hr : (execOp a.eval o).run P w = .ok .recover w') (hrec : (match recoverD cs with | some (v, cs') => (v, cs') | none => (.nilIface, cs)) = (v, cs')) (h : wpOpsSIn Fence.wide 0 P ops Q rest (a.put o.dst v) cs' w') : wpOpsSIn Fence.wide 0 P ops Q (i :: rest) a cs w := by
  simp only [wpOpsSIn, ho]
  refine ⟨fun _ _ => trivial, ?_⟩
  rw [if_pos hw, hr]
  cases hr : recoverD cs with
  | none =>
    rw [hr] at hrec
    simp only [Prod.mk.injEq] at hrec
    obtain ⟨rfl, rfl⟩ := hrec
    exact h
  | some p =>
    obtain ⟨v', cs2⟩ := p
    rw [hr] at hrec
    simp only [Prod.mk.injEq] at hrec
    obtain ⟨rfl, rfl⟩ := hrec
    exact h
theorem recover_region {a : Act} {cs cs' : List Frame} {w : World} {v : Value} {Q : Exit → Act → List Frame → World → Prop}
    {S : List (Nat × Value)} (hsl : Sl n [] S a) (hd0 : Nat.blt d0 n = true) (hd1 : Nat.blt d1 n = true)
    (hrec : (match recoverD cs with | some (v, cs') => (v, cs') | none => (.nilIface, cs)) = (v, cs')) (hQ : ∀ a', Sl n [] ((d1, v) :: (d0, v) :: S) a' → Q .normal a' cs' w) : wpOpsSIn Fence.wide 0 P #[⟨some d0, .call ⟨.builtin .recover, #[], T0⟩, ty0, pos0, after0, none⟩, ⟨some d1, .assign (.tmp d0), ty1, pos1, after1, none⟩] Q [0, 1] a cs w := by
  have h1 := hsl.put hd0 v
  have h2 := h1.put hd1 v
  have hev : (a.put (some d0) v).eval (.tmp d0) = v := h1.eval (by simp [evalS, lookS])
  refine opsS_recover (i := 0) (w' := w) (o := ⟨some d0, .call ⟨.builtin .recover, #[], T0⟩, ty0, pos0, after0, none⟩) rfl (by simp [Region.wanted]) run_recover hrec ?_
  refine opsS_value (i := 1) (v := v) (w' := w) (o := ⟨some d1, .assign (.tmp d0), ty1, pos1, after1, none⟩) rfl (by simp [Region.wanted]) (by simp [execOp, hev]) ?_
  exact hQ _ h2
theorem CTV.mk {f : FuncId} {fn : Func} (hf : P.funcs[f]? = some fn) (hb : fn.body = some (.seq (.region i0 #[⟨some d0, .call ⟨.builtin .recover, #[], T0⟩, ty0, pos0, after0, none⟩, ⟨some d1, .assign (.tmp d0), ty1, pos1, after1, none⟩] false) rest)) (hn : fn.ntmps = n) (ha : Nat.ble args.length n = true) (hd0 : Nat.blt d0 n = true) (hd1 : Nat.blt d1 n = true)
    (h0 : ∀ R, GC none P rest [] (fnPostI P fn F Hs R) (Hd n [] ((d1, .nilIface) :: (d0, .nilIface) :: argS 0 args) F (Hs ++ [R])) (some ()) ())
    (h1 : ∀ q R, GC none P rest [] (fnPostV P fn F (Hp q) R) (Hd n [] ((d1, penc q) :: (d0, penc q) :: argS 0 args) F (Hs ++ [R])) (some ()) ()) : CTV P penc f args.toArray F Hs Hp := by
  refine ⟨fun w R hw => ?_, fun q w R hw => ?_⟩
  · refine callsDIn_of_wpSIn hf hb trivial fun c₀ cs hu => ?_
    refine wpSIn_seq (wpSIn_region (recover_region (n := n) (v := .nilIface) (cs' := c₀ :: cs) (S := argS 0 args) (by rw [hn]; exact sl_enter ha) hd0 hd1 (by simp [recoverD, hu]) fun a' ha' => ?_))
    refine wpSIn_of_wpIn rfl (wpIn_mono (h0 R rfl a' w ⟨ha', hw.mono fun m hm => stars_app (star_mono_right (fun _ h => stars_one h) hm)⟩) ?_)
    rintro e a2 w2 ⟨he, hd, ⟨v, hv⟩, hs⟩
    have hc : c₀ :: cs = { c₀ with mode := .returning } :: cs := by cases c₀; simp_all
    rcases he with rfl | rfl
    · exact ⟨hd, .returning, hc, v, hv, rfl, ⟨v, rfl⟩, hs⟩
    · exact ⟨hd, .returning, hc, v, hv, rfl, ⟨v, rfl⟩, hs⟩
  · refine callsDIn_of_wpSIn hf hb trivial fun c₀ cs hu => ?_
    refine wpSIn_seq (wpSIn_region (recover_region (n := n) (v := penc q) (cs' := { c₀ with mode := .panicking [{ v := penc q, recovered := true }] } :: cs) (S := argS 0 args) (by rw [hn]; exact sl_enter ha) hd0 hd1 (by simp [recoverD, hu]) fun a' ha' => ?_))
    refine wpSIn_of_wpIn rfl (wpIn_mono (h1 q R rfl a' w ⟨ha', hw.mono fun m hm => stars_app (star_mono_right (fun _ h => stars_one h) hm)⟩) ?_)
    rintro e a2 w2 ⟨he, hd, ⟨v, hv⟩, hs⟩
    rcases he with rfl | rfl
    · exact ⟨hd, _, rfl, v, hv, rfl, ⟨v, rfl⟩, hs⟩
    · exact ⟨hd, _, rfl, v, hv, rfl, ⟨v, rfl⟩, hs⟩
end
section
variable {P : Program} {n : Nat} {S : List (Nat × Value)} {F F' : Fz} {hs Hs : List HP} {fn : Func} {R : HP} {Hp : Fz → List HP}
theorem end_postI (is : List Nat) (hr : fn.results = #[]) (hi : pickR is hs = Hs ++ [R]) : some () = some () → ∀ a w, Hd n [] S F hs a w → fnPostI P fn F Hs R .normal a w := by
  intro _ a w ha
  refine ⟨.inl rfl, ha.1.2.1, ⟨_, run_results (rs := []) (by simpa using hr) ha .nil⟩, ha.2.mono fun m hm => ?_⟩
  have h1 := stars_pick (ks := is) hm
  rw [hi] at h1
  exact star_one (stars_app' h1)
theorem end_postV (is : List Nat) (hr : fn.results = #[]) (hi : pickR is hs = Hp F' ++ [R]) (le : F ≤ F') : some () = some () → ∀ a w, Hd n [] S F' hs a w → fnPostV P fn F Hp R .normal a w := by
  intro _ a w ha
  refine ⟨.inl rfl, ha.1.2.1, ⟨_, run_results (rs := []) (by simpa using hr) ha .nil⟩, F', le, ha.2.mono fun m hm => ?_⟩
  have h1 := stars_pick (ks := is) hm
  rw [hi] at h1
  exact star_one (stars_app' h1)
end
section
variable {β : Type} {P : Program} {n : Nat} {S : List (Nat × Value)} {F F' : Fz} {hs : List HP}
variable {G ε : Type} {penc : ε → Value} {fn : Func} {R : HP} {ρ : G → β → Fz → Value → Prop} {Hs' : G → β → Fz → List HP} {x r : β} {rs : List ResultVar} {vs : List Value} {Γ : G}
theorem ret_postE {f : FuncId} {caps : List Value} {Hs : List HP} {Hp : ε → Fz → List HP} (is0 : List Nat) (hcall : ∀ args w, (callFunc f args).run P w = .ok (.enter f args) w) (hc : CTV P penc f caps.toArray F' Hs Hp) (hi0 : pickR is0 hs = Hs) (is : List Nat) (hr : fn.results = rs.toArray) (h : Res P S F' (Hs ++ leftR is0 hs) rs vs) (hi : pickR is (Hs ++ leftR is0 hs) = Hs' Γ x F' ++ [R]) (le : F ≤ F') (hρ : ρ Γ x F' (tup vs)) :
    some x = some r → ∀ a w, Hd n [dclo f caps] S F' hs a w → fnPostO P fn F R ρ Hs' r .ret a w := by
  intro e a w ha
  simp only [Option.some.injEq] at e
  subst e
  show LeavesIn Fence.wide 0 P fn a.tmps _ a.defers .returning w
  rw [ha.1.2.1]
  have hsh : SH w F' (star (stars Hs) (stars (leftR is0 hs))) := ha.2.mono fun m hm => by
    have := stars_part (ks := is0) hm
    rw [hi0] at this; exact this
  refine leavesIn_cons (by simp) (fun e => by cases e) (invoke_clo hcall) leads_clo ((hc.1 w _ hsh).mono ?_)
  rintro _ _ w' ⟨rfl, ⟨v, rfl⟩, h2⟩
  have h3 : SH w' F' (stars (Hs ++ leftR is0 hs)) := h2.mono fun _ => stars_app
  refine ⟨_, run_results (n := n) (a := a) (D := a.defers) hr ⟨⟨ha.1.1, rfl, ha.1.2.2⟩, h3⟩ h, Γ, F', _, le, rfl, hρ, h3.mono fun m hm => ?_⟩
  have h1 := stars_pick (ks := is) hm
  rw [hi] at h1
  exact star_one (stars_app' h1)
theorem pan_postE {f : FuncId} {caps : List Value} {Hs : List HP} {Hp : ε → Fz → List HP} {q : ε} (j : Nat) (hcall : ∀ args w, (callFunc f args).run P w = .ok (.enter f args) w) (hc : CTV P penc f caps.toArray F' Hs Hp) (is : List Nat) (hi : pickR is hs = Hs) (hr : fn.results = rs.toArray) (h : ∀ F'', F' ≤ F'' → Res P S F'' (Hp q F'' ++ leftR is hs) rs vs) (hj : ∀ F'', (Hp q F'' ++ leftR is hs)[j]? = some R) (le : F ≤ F')
    (hnew : ∀ w F R, SH w F R → ∃ Γ F'', F ≤ F'' ∧ SH w F'' (star (stars (Hs' Γ x F'')) R)) (hρ : ∀ Γ F'', ρ Γ x F'' (tup vs)) :
    some x = some r → ∀ a w, Hd n [dclo f caps] S F' hs a w → fnPostO P fn F R ρ Hs' r (.panic [{ v := penc q, recovered := false }]) a w := by
  intro e a w ha
  simp only [Option.some.injEq] at e
  subst e
  show LeavesIn Fence.wide 0 P fn a.tmps _ a.defers (.panicking _) w
  rw [ha.1.2.1]
  have hsh : SH w F' (star (stars Hs) (stars (leftR is hs))) := ha.2.mono fun m hm => by
    have := stars_part (ks := is) hm
    rw [hi] at this; exact this
  refine leavesIn_cons (by simp) (fun e => by cases e) (invoke_clo hcall) leads_clo ((hc.2 q w _ hsh).mono ?_)
  rintro _ _ w' ⟨rfl, ⟨v, rfl⟩, F2, le2, h2⟩
  have h3 : SH w' F2 (stars (Hp q F2 ++ leftR is hs)) := h2.mono fun _ => stars_app
  obtain ⟨Γ, F3, le3, h4⟩ := hnew _ _ _ (h3.only (hj F2))
  exact ⟨_, run_results (n := n) (a := a) (D := a.defers) hr ⟨⟨ha.1.1, rfl, ha.1.2.2⟩, h3⟩ (h F2 le2), Γ, F3, _, Fz.le_trans le (Fz.le_trans le2 le3), rfl, hρ Γ F3, h4⟩
end
section
variable {β : Type} {P : Program} {ops : Array Oper} {rest : List Oper} {ks : List Kt} {Q : Exit → Act → World → Prop} {m : Option β} {r : β}
variable {n : Nat} {D : List Deferred} {S : List (Nat × Value)} {F : Fz} {hs : List HP} {d : Nat} {ty t t' tx : TypeId} {pos : String} {after : Array Edge} {ox oy : Operand} {v : Value}
theorem eqlNilI' {ms : Array (String × TypeId)} (ht : P.underlying t = some (.interface ms)) (k : Nat) (w : World) : (Op.equalIn (k + 1) t .nilIface .nilIface).run P w = .ok true w := by
  simp [Op.equalIn, rUnd ht]
theorem eqlIfaceNil' {ms : Array (String × TypeId)} (ht : P.underlying t = some (.interface ms)) (k : Nat) (w : World) : (Op.equalIn (k + 1) t (.iface tx v) .nilIface).run P w = .ok false w := by
  simp [Op.equalIn, rUnd ht]
theorem eqlNilI {ms : Array (String × TypeId)} (ht : P.underlying t = some (.interface ms)) (w : World) : (Op.equal t .nilIface .nilIface).run P w = .ok true w := eqlNilI' ht 9999 w
theorem eqlIfaceNil {ms : Array (String × TypeId)} (ht : P.underlying t = some (.interface ms)) (w : World) : (Op.equal t (.iface tx v) .nilIface).run P w = .ok false w := eqlIfaceNil' ht 9999 w
theorem GL.neqNil0 {ms : Array (String × TypeId)} (hd : Nat.blt d n = true) (ht : P.underlying t = some (.interface ms)) (hx : evalS S ox = some .nilIface) (k : GL κ P ops rest ks Q (Hd n D ((d, .bool false) :: S) F hs) m r) :
    GL κ P ops (⟨some d, .binOp .neq t ox (.const .nilIface) t', ty, pos, after, none⟩ :: rest) ks Q (Hd n D S F hs) m r :=
  GL.val hd (fun a w ha => by
    have h1 : a.eval (.const .nilIface) = .nilIface := rfl
    simp [execOp, ha.1.eval hx, h1, eqGuard, binOp, eqlNilI ht]) k
theorem GL.neqNil1 {ms : Array (String × TypeId)} (hd : Nat.blt d n = true) (ht : P.underlying t = some (.interface ms)) (hx : evalS S ox = some (.iface tx v)) (k : GL κ P ops rest ks Q (Hd n D ((d, .bool true) :: S) F hs) m r) :
    GL κ P ops (⟨some d, .binOp .neq t ox (.const .nilIface) t', ty, pos, after, none⟩ :: rest) ks Q (Hd n D S F hs) m r :=
  GL.val hd (fun a w ha => by
    have h1 : a.eval (.const .nilIface) = .nilIface := rfl
    simp [execOp, ha.1.eval hx, h1, eqGuard, binOp, eqlIfaceNil ht]) k
theorem GL.assertOk {td : TypeDesc} (hd : Nat.blt d n = true) (ht : P.underlying tx = some td) (hn : ∀ ms, td ≠ .interface ms) (hx : evalS S ox = some (.iface tx v)) (k : GL κ P ops rest ks Q (Hd n D ((d, .tuple #[v, .bool true]) :: S) F hs) m r) :
    GL κ P ops (⟨some d, .typeAssert ox t tx true, ty, pos, after, none⟩ :: rest) ks Q (Hd n D S F hs) m r :=
  GL.val hd (fun a w ha => by
    have : (Instr.typeAssert (.iface tx v) t tx true).run P w = .ok (.tuple #[v, .bool true]) w := by
      cases td <;> simp_all [Instr.typeAssert, rUnd ht]
    simp [execOp, ha.1.eval hx, this]) k
end
theorem news_nil {X : HP} {m : Mem} (h : X m) : star (stars []) X m := ⟨fun _ => none, m, fun _ => .inl rfl, fun _ _ e => by simp at e, Mem.sub.refl _, trivial, h⟩
theorem news_cons {α : Type} {γ : Nat} {C : Fz → Nat → α → HP} {F : Fz} {hs : List HP} {R : HP} {m : Mem} (h : star (stars hs) (star (gho γ []) R) m) : star (stars (arena γ C F [] :: hs)) R m := by
  have h1 := star_assoc' (star_swap h)
  exact star_mono_left (fun m hm => star_mono_left (fun m hm => ⟨[], rfl, m, fun _ => none, fun _ => .inr rfl, Mem.sub.refl _, fun _ _ e => by simp at e, hm, trivial⟩) hm) h1
end Go.Dec
end
