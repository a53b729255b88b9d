/- Own texts and texts printed by a program of mine, for fileOne_holds; only what it reaches. -/
import Derived.Test.YthnlglmjffdpfaaGreatDoorPa0
import Derived.RecoverIn
import Derived.LaidEql
section
namespace Go.Dec
variable {κ : Option Nat}
inductive Out (ε β : Type) where
  | ok (b : β)
  | pan (x : ε)
def leftR : List Nat → List HP → List HP
  | [], hs => hs
  | k :: ks, hs => leftR ks (hs.eraseIdx k)
theorem stars_part : ∀ {ks : List Nat} {hs : List HP} {m : Mem}, stars hs m → star (stars (pickR ks hs)) (stars (leftR ks hs)) m
  | [], _, m, h => ⟨fun _ => none, m, fun _ => .inl rfl, fun _ _ e => by simp at e, Mem.sub.refl _, trivial, h⟩
  | k :: ks, hs, m, h => by
    have h1 : star ((hs[k]?).getD emp) (stars (hs.eraseIdx k)) m := by
      cases e : hs[k]? with
      | some p => exact stars_pull e h
      | none => exact stars_erase h
    exact star_assoc' (star_mono_right (fun _ h => stars_part (ks := ks) h) h1)
theorem stars_app : ∀ {l k : List HP} {m : Mem}, star (stars l) (stars k) m → stars (l ++ k) m
  | [], _, _, ⟨_, _, _, _, s2, _, h⟩ => stars_sub s2 h
  | _p :: _l, _k, _m, h => star_mono_right (fun _ h => stars_app h) (star_assoc h)
where
  stars_sub : ∀ {l : List HP} {m n : Mem}, Mem.sub m n → stars l m → stars l n
    | [], _, _, _, _ => trivial
    | _ :: _, _, _, s, ⟨m1, m2, d, s1, s2, hp, hq⟩ => ⟨m1, m2, d, s1.trans s, s2.trans s, hp, hq⟩
theorem stars_app' : ∀ {l k : List HP} {m : Mem}, stars (l ++ k) m → star (stars l) (stars k) m
  | [], _, m, h => ⟨fun _ => none, m, fun _ => .inl rfl, fun _ _ e => by simp at e, Mem.sub.refl _, trivial, h⟩
  | p :: l, k, m, h => star_assoc' (star_mono_right (fun _ h => stars_app' h) h)
theorem stars_one {p : HP} {m : Mem} (h : p m) : stars [p] m := ⟨m, fun _ => none, fun _ => .inr rfl, Mem.sub.refl _, fun _ _ e => by simp at e, h, trivial⟩
def CTX {ε β : Type} (P : Program) (penc : ε → Value) (f : FuncId) (args : Array Value) (F : Fz) (Hs : List HP) (m : Option (Out ε β)) (ρ : β → Fz → Value → Prop) (Hs' : β → Fz → Value → List HP) : Prop :=
  ∀ r, m = some r → ∀ w R, SH w F (star (stars Hs) R) → Calls P f args w (fun e w' => ∃ F', F ≤ F' ∧ match r with
    | .ok x => ∃ v, e = .returned v ∧ ρ x F' v ∧ SH w' F' (star (stars (Hs' x F' v)) R)
    | .pan x => e = .panicked [{ v := penc x, recovered := false }] ∧ SH w' F' R)
def fnPostX {ε β : Type} (P : Program) (penc : ε → Value) (fn : Func) (F : Fz) (R : HP) (ρ : β → Fz → Value → Prop) (Hs' : β → Fz → Value → List HP) (r : Out ε β) : Exit → Act → World → Prop :=
  bodyPost P fn (fun e w' => ∃ F', F ≤ F' ∧ match r with
    | .ok x => ∃ v, e = .returned v ∧ ρ x F' v ∧ SH w' F' (star (stars (Hs' x F' v)) R)
    | .pan x => e = .panicked [{ v := penc x, recovered := false }] ∧ SH w' F' R)
theorem CTX.enter {ε β : Type} {P : Program} {penc : ε → Value} {f : FuncId} {fn : Func} {c : Code} {args : List Value} {F : Fz} {Hs : List HP} {m : Option (Out ε β)} {ρ : β → Fz → Value → Prop} {Hs' : β → Fz → Value → List HP} {n : Nat}
    (hf : P.funcs[f]? = some fn) (hb : fn.body = some c) (hn : fn.ntmps = n) (ha : Nat.ble args.length n = true)
    (k : ∀ r R, GC none P c [] (fnPostX P penc fn F R ρ Hs' r) (Hd n [] (argS 0 args) F (Hs ++ [R])) m r) : CTX P penc f args.toArray F Hs m ρ Hs' := by
  intro r hm w R hw
  refine calls_of_wp hf hb (wpIn_wide.1 (k r R hm _ w ⟨?_, hw.mono fun m hm => stars_app (star_mono_right (fun _ h => stars_one h) hm)⟩))
  rw [hn]; exact sl_enter ha
section
variable {ε β : Type} {P : Program} {penc : ε → Value} {n : Nat} {S : List (Nat × Value)} {F F' : Fz} {hs : List HP} {ks : List Kt} {fn : Func} {R : HP} {ρ : β → Fz → Value → Prop} {Hs' : β → Fz → Value → List HP} {x : β} {r : Out ε β} {rs : List ResultVar} {vs : List Value}
theorem star_one {A : HP} {m : Mem} (h : star A (stars [R]) m) : star A R m := by
  obtain ⟨m1, m2, d, s1, s2, ha, m3, _, _, t1, _, hr, _⟩ := h
  exact ⟨m1, m3, d.sub (Mem.sub.refl _) t1, s1, t1.trans s2, ha, hr⟩
theorem ret_postX (is : List Nat) (hr : fn.results = rs.toArray) (h : Res P S F' hs rs vs) (hi : pickR is hs = Hs' x F' (tup vs) ++ [R]) (le : F ≤ F') (hρ : ρ x F' (tup vs)) :
    some (Out.ok x) = some r → ∀ a w, Hd n [] S F' hs a w → fnPostX P penc fn F R ρ Hs' r .ret a w := by
  intro e a w ha
  simp only [Option.some.injEq] at e
  subst e
  refine ⟨ha.1.2.1, _, run_results hr ha h, F', le, _, rfl, hρ, ha.2.mono fun m hm => ?_⟩
  have h1 := stars_pick (ks := is) hm
  rw [hi] at h1
  exact star_one (stars_app' h1)
theorem GC.retX (is : List Nat) (hr : fn.results = rs.toArray) (h : Res P S F' hs rs vs) (hi : pickR is hs = Hs' x F' (tup vs) ++ [R]) (le : F ≤ F') (hρ : ρ x F' (tup vs)) :
    GC κ P .ret ks (fnPostX P penc fn F R ρ Hs' r) (Hd n [] S F' hs) (some (.ok x)) r := GC.retQ (ret_postX is hr h hi le hρ)
theorem GE.endX (is : List Nat) (hr : fn.results = rs.toArray) (h : Res P S F' hs rs vs) (hi : pickR is hs = Hs' x F' (tup vs) ++ [R]) (le : F ≤ F') (hρ : ρ x F' (tup vs)) :
    GE κ P [] (fnPostX P penc fn F R ρ Hs' r) (Hd n [] S F' hs) (some (.ok x)) r := GE.nil (ret_postX is hr h hi le hρ)
theorem pan_postX {q : ε} {i : Nat} (hi : hs[i]? = some R) (le : F ≤ F') :
    some (Out.pan q) = some r → ∀ a w, Hd n [] S F' hs a w → fnPostX P penc fn F R ρ Hs' r (.panic [{ v := penc q, recovered := false }]) a w := by
  intro e a w ha
  simp only [Option.some.injEq] at e
  subst e
  exact ⟨ha.1.2.1, F', le, rfl, ha.2.only hi⟩
end
section
variable {ε β : Type} {P : Program} {penc : ε → Value} {ops : Array Oper} {rest : List Oper} {ks : List Kt} {Q : Exit → Act → World → Prop} {m : Option β} {r : β}
variable {n : Nat} {D : List Deferred} {S : List (Nat × Value)} {F F0 : Fz} {hs : List HP}
theorem GL.panicQ {dst : Option Tmp} {ox : Operand} {ty : TypeId} {pos : String} {after : Array Edge} {T : TypeId} {v : Value} (hx : evalS S ox = some (.iface T v))
    (h : m = some r → ∀ a w, Hd n D S F hs a w → Q (.panic [{ v := .iface T v, recovered := false }]) a w) : GL κ P ops (⟨dst, .panic ox, ty, pos, after, none⟩ :: rest) ks Q (Hd n D S F hs) m r := by
  intro hm a w ha
  unfold wpL
  rw [if_pos (by simp [Region.wanted])]
  refine ⟨.inr rfl, ?_⟩
  have hrun : (execOp a.eval ⟨dst, .panic ox, ty, pos, after, none⟩).run P w = .halt (.panic (.iface T v)) w := by
    simp [execOp, Instr.panic, ha.1.eval hx, goPanic]
  rw [hrun]
  exact interp_panic (h hm a w ha)
end
end Go.Dec
end

section
namespace Go.Dec
variable {κ : Option Nat}
section
variable {β : Type} {X : Act → World → Prop} {m : Option β} {r : β} {n : Nat} {D : List Deferred} {S : List (Nat × Value)} {F F0 : Fz} {hs : List HP}
variable {α : Type} {γ : Nat} {C : Fz → Nat → α → HP} {xs xs' : List α} {b : Nat} {x : α}
theorem GG.norm {S' : List (Nat × Value)} {hs' : List HP} (hS : Sub S' S) (hh : hs = hs') (k : GG X (Hd n D S' F hs') m r) : GG X (Hd n D S F hs) m r :=
  fun hm a w ha => k hm a w ⟨ha.1.sub hS, hh ▸ ha.2⟩
end
section
variable {β σ γ : Type} {A : Act → World → Prop}
theorem LPost.panQ {I : σ → Act → World → Prop} {Dn : γ → Exit → Act → World → Prop} {b : γ} {ctl : Ctl σ γ} {c : List PanicEntry} (h : ∀ a w, A a w → Dn b (.panic c) a w) : some (Ctl.done b) = some ctl → ∀ a w, A a w → LPost I Dn ctl (.panic c) a w := fun e a w ha => by
  simp only [Option.some.injEq] at e; subst e; exact ⟨by simp, h a w ha⟩
end
end Go.Dec
end

section
namespace Go.Dec
variable {κ : Option Nat}
def bindX {ε α β : Type} (e : Option (Out ε α)) (gp : ε → Option β) (g : α → Option β) : Option β := match e with
  | none => none
  | some (.ok x) => g x
  | some (.pan q) => gp q
section
variable {ε β : Type} {P : Program} {penc : ε → Value} {ops : Array Oper} {rest : List Oper} {ks : List Kt} {Q : Exit → Act → World → Prop} {m : Option β} {r : β}
variable {n : Nat} {D : List Deferred} {S : List (Nat × Value)} {F F0 : Fz} {hs : List HP}
variable {d : Nat} {ty t : TypeId} {pos : String} {after : Array Edge} {ox oy : Operand} {T : Array TypeId}
theorem GL.callA {A : Act → World → Prop} {α : Type} {f : FuncId} {args : Array Value} {o : Oper} {e : Option (Out ε α)} {ρ : α → Fz → Value → Prop} {Hs : List HP} {Hs' : α → Fz → Value → List HP} {g : α → Option β} {gp : ε → Option β} (is : List Nat) (hd : Nat.blt d n = true) (hg : o.guard = none) (hdst : o.dst = some d) (hnd : noDefer o.op = true)
    (hA : ∀ a w, A a w → Hd n D S F hs a w ∧ (execOp a.eval o).run P w = .ok (.enter f args) w) (hi : pickR is hs = Hs)
    (hc : CTX P penc f args F Hs e ρ Hs') (k : ∀ x F' v, e = some (.ok x) → F ≤ F' → ρ x F' v → GL κ P ops rest ks Q (Hd n D ((d, v) :: S) F' (Hs' x F' v ++ leftR is hs)) (g x) r)
    (hp : ∀ q F', e = some (.pan q) → F ≤ F' → gp q = some r → ∀ a w, Hd n D S F' (leftR is hs) a w → Q (.panic [{ v := penc q, recovered := false }]) a w) :
    GL κ P ops (o :: rest) ks Q A (bindX e gp g) r := by
  intro hm a w ha0
  obtain ⟨ha, hrun⟩ := hA a w ha0
  cases he : e with
  | none => rw [he] at hm; cases hm
  | some y =>
    rw [he] at hm
    have hsh : SH w F (star (stars Hs) (stars (leftR is hs))) := ha.2.mono fun m hm => by
      have := stars_part (ks := is) hm
      rw [hi] at this; exact this
    unfold wpL
    rw [if_pos (by simp [Region.wanted, hg])]
    refine ⟨.inr hnd, ?_⟩
    rw [hrun]
    refine ⟨fun e => (by rw [fen_depth] at e; cases e), calls_fen.2 ((hc y he w _ hsh).mono ?_)⟩
    rintro e' w' ⟨F', le, h⟩
    cases y with
    | ok x =>
      obtain ⟨v, rfl, hρ, hw⟩ := h
      have h1 := k x F' v he le hρ hm _ _ ⟨ha.1.put hd v, hw.mono fun _ => stars_app⟩
      simp only [hdst]
      exact h1
    | pan q =>
      obtain ⟨rfl, hw⟩ := h
      exact interp_panic (hp q F' he le hm _ _ ⟨ha.1, hw⟩)
theorem GL.callB {α : Type} {f : FuncId} {caps as vs : List Value} {of : Operand} {os : List Operand} {e : Option (Out ε α)} {ρ : α → Fz → Value → Prop} {Hs : List HP} {Hs' : α → Fz → Value → List HP} {g : α → Option β} {gp : ε → Option β} (is : List Nat)
    (hd : Nat.blt d n = true) (hcall : ∀ args w, (callFunc f args).run P w = .ok (.enter f args) w) (hf : evalS S of = some (.func (.func f) #[] caps.toArray)) (ha : evalL S os = some vs) (has : vs ++ caps = as) (hi : pickR is hs = Hs)
    (hc : CTX P penc f as.toArray F Hs e ρ Hs') (k : ∀ x F' v, e = some (.ok x) → F ≤ F' → ρ x F' v → GL κ P ops rest ks Q (Hd n D ((d, v) :: S) F' (Hs' x F' v ++ leftR is hs)) (g x) r)
    (hp : ∀ q F', e = some (.pan q) → F ≤ F' → gp q = some r → ∀ a w, Hd n D S F' (leftR is hs) a w → Q (.panic [{ v := penc q, recovered := false }]) a w) :
    GL κ P ops (⟨some d, .call ⟨.value of, os.toArray, T⟩, ty, pos, after, none⟩ :: rest) ks Q (Hd n D S F hs) (bindX e gp g) r := by
  subst has
  exact GL.callA is hd rfl rfl rfl (fun a w hA => ⟨hA, run_call hA.1 hcall hf ha⟩) hi hc k hp
def CTO {G β : Type} (P : Program) (f : FuncId) (args : Array Value) (F : Fz) (m : Option β) (ρ : G → β → Fz → Value → Prop) (Hs' : G → β → Fz → List HP) : Prop :=
  ∀ r, m = some r → ∀ w R, SH w F R → Calls P f args w (fun e w' => ∃ Γ F' v, F ≤ F' ∧ e = .returned v ∧ ρ Γ r F' v ∧ SH w' F' (star (stars (Hs' Γ r F')) R))
end
abbrev dclo (f : FuncId) (caps : List Value) : Deferred := { target := .fn (.func f) caps.toArray, args := #[] }
def fnPostO {G β : Type} (P : Program) (fn : Func) (F : Fz) (R : HP) (ρ : G → β → Fz → Value → Prop) (Hs' : G → β → Fz → List HP) (r : β) : Exit → Act → World → Prop :=
  bodyPostDIn Fence.wide 0 P fn (fun e w' => ∃ Γ F' v, F ≤ F' ∧ e = .returned v ∧ ρ Γ r F' v ∧ SH w' F' (star (stars (Hs' Γ r F')) R))
theorem CTO.enter {G β : Type} {P : Program} {f : FuncId} {fn : Func} {c : Code} {args : List Value} {F : Fz} {m : Option β} {ρ : G → β → Fz → Value → Prop} {Hs' : G → β → Fz → List HP} {n : Nat}
    (hf : P.funcs[f]? = some fn) (hb : fn.body = some c) (hn : fn.ntmps = n) (ha : Nat.ble args.length n = true)
    (k : ∀ r R, GC none P c [] (fnPostO P fn F R ρ Hs' r) (Hd n [] (argS 0 args) F [R]) m r) : CTO P f args.toArray F m ρ Hs' := by
  intro r hm w R hw
  refine (callsIn_wide (n := 0)).1 (callsIn_of_wp_defers hf hb trivial (k r R hm _ w ⟨?_, hw.one⟩))
  rw [hn]; exact sl_enter ha
section
variable {β : Type} {P : Program} {ops : Array Oper} {rest : List Oper} {ks : List Kt} {Q : Exit → Act → World → Prop} {m : Option β} {r : β}
variable {n : Nat} {D : List Deferred} {S : List (Nat × Value)} {F F' : Fz} {hs : List HP}
theorem GL.defer {f : FuncId} {caps : List Value} {of : Operand} {ty : TypeId} {pos : String} {after : Array Edge} {T : Array TypeId} (hf : evalS S of = some (.func (.func f) #[] caps.toArray)) (k : GL none P ops rest ks Q (Hd n (dclo f caps :: D) S F hs) m r) :
    GL none P ops (⟨none, .defer ⟨.value of, #[], T⟩, ty, pos, after, none⟩ :: rest) ks Q (Hd n D S F hs) m r := by
  intro hm a w ha
  have h := k hm { a with defers := dclo f caps :: a.defers } w ⟨⟨ha.1.1, by rw [ha.1.2.1], ha.1.2.2⟩, ha.2⟩
  unfold wpL
  rw [if_pos (by simp [Region.wanted])]
  refine ⟨.inl rfl, ?_⟩
  have hrun : (execOp a.eval ⟨none, .defer ⟨.value of, #[], T⟩, ty, pos, after, none⟩).run P w = .ok (.defer (dclo f caps)) w := by
    simp [execOp, resolve, Deferred.ofValue, ha.1.eval hf]
  rw [hrun]
  exact h
variable {G ε : Type} {penc : ε → Value} {fn : Func} {R : HP} {ρ : G → β → Fz → Value → Prop} {Hs' : G → β → Fz → List HP} {x : β} {rs : List ResultVar} {vs : List Value} {Γ : G}
theorem leads_clo {f : FuncId} {caps : List Value} {w : World} : ∀ g, (Target.fn (.func f) caps.toArray).leads P w #[] = some g → Fence.wide.fn g := fun _ _ => trivial
theorem invoke_clo {f : FuncId} {caps : List Value} {w : World} (hcall : ∀ args w, (callFunc f args).run P w = .ok (.enter f args) w) : (invoke (.fn (.func f) caps.toArray) #[]).run P w = .ok (.enter f caps.toArray) w := by
  simp [invoke, hcall]
end
theorem allS {p : Nat → Prop} {n : Nat} (h : ∀ j, j < n → p j) (hn : p n) : ∀ j, j < n + 1 → p j := fun j hj => by
  rcases Nat.lt_or_ge j n with h' | h'
  · exact h j h'
  · rw [show j = n by omega]; exact hn
section
variable {β : Type} {P : Program} {ops : Array Oper} {l0 : List Oper} {cd : Code} {ks : List Kt} {Q : Exit → Act → World → Prop} {m : Option β} {r : β}
variable {n : Nat} {D : List Deferred} {S : List (Nat × Value)} {F F0 : Fz} {hs : List HP}
variable {α : Type} {γ : Nat} {C : Fz → Nat → α → HP} {xs xs' : List α} {b : Nat} {x : α}
theorem GL.pick {hs' : List HP} (is : List Nat) (h : pickR is hs = hs') (k : GL κ P ops l0 ks Q (Hd n D S F hs') m r) : GL κ P ops l0 ks Q (Hd n D S F hs) m r := GG.pick is h k
theorem GC.pick {hs' : List HP} (is : List Nat) (h : pickR is hs = hs') (k : GC κ P cd ks Q (Hd n D S F hs') m r) : GC κ P cd ks Q (Hd n D S F hs) m r := GG.pick is h k
theorem GC.norm {S' : List (Nat × Value)} {hs' : List HP} (hS : Sub S' S) (hh : hs = hs') (k : GC κ P cd ks Q (Hd n D S' F hs') m r) : GC κ P cd ks Q (Hd n D S F hs) m r := GG.norm hS hh k
end
theorem SH.picks {w : World} {F : Fz} {hs hs' : List HP} (ks : List Nat) (e : pickR ks hs = hs') (h : SH w F (stars hs)) : SH w F (stars hs') := e ▸ h.mono fun _ => stars_pick
end Go.Dec
end

section
namespace Go.Dec
variable {κ : Option Nat}
section
variable {β : Type} {P : Program} {ks : List Kt} {Q : Exit → Act → World → Prop} {m : Option β} {r : β}
variable {n : Nat} {D : List Deferred} {S0 : List (Nat × Value)} {F : Fz}
theorem GC.drawGD {hs : List HP} {id : Nat} {l : List Oper} (k g : Nat) (X : Env → List ValF) (C : (Nat → Bool) → Env → List HP) (hm : P.follows .mixedOrders = true) (hord : ordB 0 l = true) (htail : ∀ t o, k ≤ t → l[t]? = some o → ∀ j, j < t → ∃ s, depB l s t j = true)
    (hlen : Nat.ble k l.length = true) (hX : ∀ env, (X env).length = k) (hfr : freshG n S0 (l.take k) = true) (hC : ∀ env, C (fun _ => false) env = hs ++ List.replicate g emp)
    (hops : OpsG κ P l.toArray l n D S0 F X C 0 (l.take k))
    (tail : ∀ env F', F ≤ F' → (∀ (j : Nat) (q : ValF), (X env)[j]? = some q → q.2 F') → GL κ P l.toArray (l.drop k) ks Q (Hd n D (outG (l.take k) (X env) S0) F' (C (fun j => Nat.blt j k) env)) m r) :
    GC κ P (.region id l.toArray true) ks Q (Hd n D S0 F hs) m r := by
  intro hmr a w ha
  have hlen' : k ≤ l.length := Nat.le_of_ble_eq_true hlen
  let Free : (Nat → Bool) → Act → World → Prop := fun L a w => Down l L ∧ (∀ i, k ≤ i → L i = false) ∧ ∃ env F' S, F ≤ F' ∧ Sub S0 S ∧ (∀ (j d : Nat) (v : Value), L j = true → dstOf l j = some d → ((X env)[j]?).map Prod.fst = some v → lookS S d = some v) ∧ (∀ (j : Nat) (q : ValF), L j = true → (X env)[j]? = some q → ∀ G, F' ≤ G → q.2 G) ∧ Hd n D S F' (C L env) a w
  let Inv : (Nat → Bool) → Act → World → Prop := fun L a w => Free L a w ∨ ∃ i, k < i ∧ Down l L ∧ (∀ j, L j = true ↔ j < i) ∧ wpL κ P l.toArray (interp κ P ks Q) (l.drop i) a w
  have hend0 : ∀ L a w, (∀ i, i < k → L i = true) → Free L a w → wpL κ P l.toArray (interp κ P ks Q) (l.drop k) a w := by
    rintro L a w hall ⟨hdn, hout, env, F', S, le, hS, hV, hΦ, hA⟩
    have hXl := hX env
    have hLk : L = fun j => Nat.blt j k := by
      funext j
      rcases Nat.lt_or_ge j k with h | h
      · rw [hall j h]; exact (Nat.ble_eq_true_of_le h).symm
      · rw [hout j h]
        cases hb : Nat.blt j k with
        | false => rfl
        | true => have := Nat.le_of_ble_eq_true hb; omega
    refine tail env F' le (fun j q hq => hΦ j q (hall j (by have := lt_of_getEl hq; omega)) hq F' (Fz.le_refl F')) hmr a w ⟨hA.1.sub (sub_outG hS fun i o d q e1 e2 e3 => ?_), hLk ▸ hA.2⟩
    have hik : i < k := by have := lt_of_getEl e3; omega
    refine hV i d q.1 (hall i hik) ?_ (by rw [e3]; rfl)
    rw [List.getElem?_take, if_pos hik] at e1
    simp [dstOf, e1, e2]
  refine wp_region_inv hm Inv (fun i o h e he hb => by have := ordB_spec hord i o (by simpa using h) e he hb; omega) ?_ ?_ ?_
  · refine .inl ⟨fun i o _ h => (by cases h), fun _ _ => rfl, ⟨fun _ => none, fun _ => 0, fun _ => [], fun _ => F, fun _ => none⟩, F, S0, Fz.le_refl F, Sub.refl _, fun j d v h => (by cases h), fun j q h => (by cases h), ha.1, ?_⟩
    rw [hC]
    have h1 := ha.2.drew (w.drawn + 1)
    refine h1.mono fun m hm' => ?_
    exact GC.drawG.stars_emps hm'
  · intro L a w i o ho hLi hdeps hI
    have ho' : l[i]? = some o := by simpa using ho
    have hil : i < l.length := lt_of_getEl ho'
    by_cases hi : i < k
    · rcases hI with hF | ⟨k', hk, _, hL, _⟩
      case inr => have := (hL i).2 (by omega); rw [hLi] at this; cases this
      obtain ⟨hdn, hout, env, F', S, le, hS, hV, hΦ, hA⟩ := hF
      have hot : (l.take k)[i]? = some o := by rw [List.getElem?_take, if_pos hi]; exact ho'
      have hop := OpsG.get hops i o hot
      simp only [Nat.zero_add] at hop
      have hup : ∀ k' j, depB l k' j i = true → L j = false := fun k' j h => by
        cases hj : L j with
        | false => rfl
        | true =>
          have := dep_true hdn h fun o' ho'' e he hb => hdn j o' ho'' hj e he hb
          rw [hLi] at this; cases this
      have hdn' : ∀ k' j, depB l k' i j = true → L j = true := fun k' j h => dep_true hdn h fun o' ho'' e he hb => by
        rw [ho'] at ho''; cases ho''; exact hdeps e he hb
      obtain ⟨Si, hSi, hstep⟩ := hop L env F' le hLi hdn' hup hΦ
      have hsub := hSi S hS hV
      have hn : ∀ d, o.dst = some d → Nat.blt d n = true := fun d hd => (freshG_get hfr hot hd).1
      have h1 := g_frame (S := S) hn hA.1 (hstep rfl a w ⟨hA.1.sub hsub, hA.2⟩)
      refine wp_of_seg (fun e a w hne hq => absurd hq.1 hne) (fun a' w' hq => ?_) h1
      obtain ⟨_, env', F'', le', ⟨M, hMl, hMc, hMe⟩, q, hq, hqf, hA'⟩ := hq
      have hst : ∀ (j : Nat) (q : ValF), L j = true → (X env')[j]? = some q → (X env)[j]? = some q := fun j q hj hx => by
        have hjl : j < M.length := by rw [hMl, hX env, ← hX env']; exact lt_of_getEl hx
        exact maskL_get hMe.symm (mask_true hdn hLi hMc j hj hjl) hx
      refine .inl ⟨?_, ?_, env', F'', (match o.dst with | some d => (d, q.1) :: S | none => S), Fz.le_trans le le', ?_, ?_, ?_, hA'⟩
      · intro j oj hoj hj e he hb
        by_cases hji : j = i
        · subst hji
          rw [ho'] at hoj; cases hoj
          have := hdeps e he hb
          simp only [updB]; split
          · rfl
          · exact this
        · have hLj : L j = true := by simpa [updB, hji] using hj
          have := hdn j oj hoj hLj e he hb
          simp only [updB]; split
          · rfl
          · exact this
      · intro j hj
        simp only [updB]; rw [if_neg (by omega)]; exact hout j hj
      · cases hd : o.dst with
        | none => exact hS
        | some d => exact sub_push hS (freshG_get hfr hot hd).2 _
      · intro j d' v' hj hd' hv'
        by_cases hji : j = i
        · subst hji
          have hod : o.dst = some d' := by simpa [dstOf, ho'] using hd'
          rw [hq] at hv'; simp only [Option.map_some, Option.some.injEq] at hv'
          subst hv'
          rw [hod]; exact look_self
        · have hLj : L j = true := by simpa [updB, hji] using hj
          have hjk : j < k := by
            rcases Nat.lt_or_ge j k with h | h
            · exact h
            · rw [hout j h] at hLj; cases hLj
          obtain ⟨q', hq', rfl⟩ := Option.map_eq_some_iff.1 hv'
          have h0 := hV j d' q'.1 hLj hd' (by rw [hst j q' hLj hq']; rfl)
          cases hd : o.dst with
          | none => exact h0
          | some d =>
            have hne : d ≠ d' := fun h => by
              subst h
              cases hoj : l[j]? with
              | none => simp [dstOf, hoj] at hd'
              | some oj =>
                have hdj : oj.dst = some d := by simpa [dstOf, hoj] using hd'
                exact hji (freshG_inj hfr (by rw [List.getElem?_take, if_pos hjk]; exact hoj) hot hdj hd)
            exact look_push hne h0
      · intro j q' hj hq' G hG
        by_cases hji : j = i
        · subst hji; rw [hq] at hq'; cases hq'; exact hqf G hG
        · have hLj : L j = true := by simpa [updB, hji] using hj
          exact hΦ j q' hLj (hst j q' hLj hq') G (Fz.le_trans le' hG)
    ·
      have hdnL : Down l L := by
        rcases hI with hF | ⟨_, _, hd, _, _⟩
        · exact hF.1
        · exact hd
      have hall : ∀ j, j < i → L j = true := fun j hj => by
        obtain ⟨s, hs⟩ := htail i o (by omega) ho' j hj
        exact dep_true hdnL hs fun o' ho'' e he hb => by rw [ho'] at ho''; cases ho''; exact hdeps e he hb
      have hdnU : Down l (updB L i) := fun j oj hoj hj e he hb => by
        have : L e.on = true := by
          by_cases hji : j = i
          · subst hji; rw [ho'] at hoj; cases hoj; exact hdeps e he hb
          · exact hdnL j oj hoj (by simpa [updB, hji] using hj) e he hb
        simp only [updB]; split
        · rfl
        · exact this
      have hw : wpL κ P l.toArray (interp κ P ks Q) (l.drop i) a w := by
        rcases hI with hF | ⟨k', hk, _, hL, hwp⟩
        · have hiV : i = k := by
            rcases Nat.lt_or_ge k i with h | h
            · have := hall k h; rw [hF.2.1 _ (Nat.le_refl _)] at this; cases this
            · omega
          subst hiV
          exact hend0 L a w hall hF
        · have : k' = i := by
            have h1 : ¬ i < k' := fun h => by have := (hL i).2 h; rw [hLi] at this; cases this
            have h2 : ¬ k' < i := fun h => by have := (hL k').1 (hall k' h); omega
            omega
          subst this; exact hwp
      have hdrop : l.drop i = o :: l.drop (i + 1) := by
        have hg : l[i]'hil = o := by simpa [hil] using ho'
        rw [← hg]; exact List.drop_eq_getElem_cons hil
      rw [hdrop] at hw
      have hnext : ∀ a' w', wpL κ P l.toArray (interp κ P ks Q) (l.drop (i + 1)) a' w' → Inv (updB L i) a' w' := fun a' w' h =>
        .inr ⟨i + 1, by omega, hdnU, fun j => by
          simp only [updB]
          by_cases hj : j = i
          · simp [hj]
          · simp only [hj, if_false]
            constructor
            · intro hLj
              have : j < i := by
                rcases Nat.lt_or_ge j i with h | h
                · exact h
                · rcases hI with hF | ⟨k', hk, _, hL, _⟩
                  · rw [hF.2.1 j (by omega)] at hLj; cases hLj
                  · have h1 := (hL j).1 hLj
                    have := (hL i).2 (by omega); rw [hLi] at this; cases this
              omega
            · intro hj'; exact hall j (by omega), h⟩
      unfold wpL at hw
      split
      · rename_i hwn
        rw [if_pos hwn] at hw
        exact opW_mono hnext hw
      · rename_i hwn
        rw [if_neg hwn] at hw
        exact hnext _ _ hw
  · intro L a w hall hI
    have hw : wpL κ P l.toArray (interp κ P ks Q) (l.drop l.length) a w := by
      rcases hI with hF | ⟨k', hk, _, hL, hwp⟩
      · have hVl : k = l.length := by
          rcases Nat.lt_or_ge k l.length with h | h
          · have := hall k (by simpa using h); rw [hF.2.1 _ (Nat.le_refl _)] at this; cases this
          · omega
        have := hend0 L a w (fun i hi => hall i (by simp; omega)) hF
        rwa [hVl] at this
      · have : l.length ≤ k' := by
          rcases Nat.lt_or_ge k' l.length with h | h
          · have := (hL k').1 (hall k' (by simpa using h)); omega
          · exact h
        rw [List.drop_eq_nil_of_le this] at hwp
        rw [List.drop_eq_nil_of_le (Nat.le_refl _)]; exact hwp
    rw [List.drop_eq_nil_of_le (Nat.le_refl _)] at hw
    exact hw
theorem deepN {l : List Oper} {k n : Nat} (hl : Nat.beq l.length n = true) (h : ∀ t, t < n → k ≤ t → ∀ j, j < t → ∃ s, depB l s t j = true) : ∀ t o, k ≤ t → l[t]? = some o → ∀ j, j < t → ∃ s, depB l s t j = true := fun t o hk ho j hj => by
  have h1 := (List.getElem?_eq_some_iff.1 ho).1
  have h2 := Nat.eq_of_beq_eq_true hl
  exact h t (by omega) hk j hj
end
end Go.Dec
end

section
namespace Go.Dec
variable {κ : Option Nat}
def CTV {ε : Type} (P : Program) (penc : ε → Value) (f : FuncId) (args : Array Value) (F : Fz) (Hs : List HP) (Hp : ε → Fz → List HP) : Prop :=
  (∀ w R, SH w F (star (stars Hs) R) → CallsDIn Fence.wide 0 P f args .returning w (fun e u' w' => u' = .returning ∧ (∃ v, e = .returned v) ∧ SH w' F (star (stars Hs) R))) ∧
  ∀ q w R, SH w F (star (stars Hs) R) → CallsDIn Fence.wide 0 P f args (.panicking [{ v := penc q, recovered := false }]) w (fun e u' w' => u' = .panicking [{ v := penc q, recovered := true }] ∧ (∃ v, e = .returned v) ∧ ∃ F', F ≤ F' ∧ SH w' F' (star (stars (Hp q F')) R))
def fnPostI (P : Program) (fn : Func) (F : Fz) (Hs : List HP) (R : HP) : Exit → Act → World → Prop := fun e a w => (e = .normal ∨ e = .ret) ∧ a.defers = [] ∧ (∃ v, (results fn a.tmps).run P w = .ok v w) ∧ SH w F (star (stars Hs) R)
def fnPostV (P : Program) (fn : Func) (F : Fz) (Hp : Fz → List HP) (R : HP) : Exit → Act → World → Prop := fun e a w => (e = .normal ∨ e = .ret) ∧ a.defers = [] ∧ (∃ v, (results fn a.tmps).run P w = .ok v w) ∧ ∃ F', F ≤ F' ∧ SH w F' (star (stars (Hp F')) R)
section
variable {ε : Type} {P : Program} {penc : ε → Value} {f : FuncId} {fn : Func} {n i0 d0 d1 : Nat} {args : List Value} {F : Fz} {Hs : List HP} {Hp : ε → Fz → List HP} {rest : Code} {T0 : Array TypeId} {ty0 ty1 : TypeId} {pos0 pos1 : String} {after0 after1 : Array Edge}
theorem run_recover {ev : Operand → Value} {w : World} : (execOp ev ⟨some d0, .call ⟨.builtin .recover, #[], T0⟩, ty0, pos0, after0, none⟩).run P w = .ok .recover w := by
  simp [execOp, resolve, invoke, builtin]
theorem opsS_recover {ops : Array Oper} {i : Nat} {rest : List Nat} {o : Oper} {a : Act} {cs cs' : List Frame} {w w' : World} {v : Value} {Q : Exit → Act → List Frame → World → Prop} (ho : ops[i]? = some o) (hw : Region.wanted o (yielded ops a.tmps) = true) (hr : (execOp a.eval o).run P w = .ok .recover w') (hrec : (match recoverD cs with | some (v, cs') => (v, cs') | none => (.nilIface, cs)) = (v, cs')) (h : wpOpsSIn Fence.wide 0 P ops Q rest (a.put o.dst v) cs' w') : wpOpsSIn Fence.wide 0 P ops Q (i :: rest) a cs w := by
  simp only [wpOpsSIn, ho]
  refine ⟨fun _ _ => trivial, ?_⟩
  rw [if_pos hw, hr]
  cases hr : recoverD cs with
  | none =>
    rw [hr] at hrec
    simp only [Prod.mk.injEq] at hrec
    obtain ⟨rfl, rfl⟩ := hrec
    exact h
  | some p =>
    obtain ⟨v', cs2⟩ := p
    rw [hr] at hrec
    simp only [Prod.mk.injEq] at hrec
    obtain ⟨rfl, rfl⟩ := hrec
    exact h
end
section
variable {P : Program} {n : Nat} {S : List (Nat × Value)} {F F' : Fz} {hs Hs : List HP} {fn : Func} {R : HP} {Hp : Fz → List HP}
theorem end_postI (is : List Nat) (hr : fn.results = #[]) (hi : pickR is hs = Hs ++ [R]) : some () = some () → ∀ a w, Hd n [] S F hs a w → fnPostI P fn F Hs R .normal a w := by
  intro _ a w ha
  refine ⟨.inl rfl, ha.1.2.1, ⟨_, run_results (rs := []) (by simpa using hr) ha .nil⟩, ha.2.mono fun m hm => ?_⟩
  have h1 := stars_pick (ks := is) hm
  rw [hi] at h1
  exact star_one (stars_app' h1)
theorem end_postV (is : List Nat) (hr : fn.results = #[]) (hi : pickR is hs = Hp F' ++ [R]) (le : F ≤ F') : some () = some () → ∀ a w, Hd n [] S F' hs a w → fnPostV P fn F Hp R .normal a w := by
  intro _ a w ha
  refine ⟨.inl rfl, ha.1.2.1, ⟨_, run_results (rs := []) (by simpa using hr) ha .nil⟩, F', le, ha.2.mono fun m hm => ?_⟩
  have h1 := stars_pick (ks := is) hm
  rw [hi] at h1
  exact star_one (stars_app' h1)
end
section
variable {β : Type} {P : Program} {n : Nat} {S : List (Nat × Value)} {F F' : Fz} {hs : List HP}
variable {G ε : Type} {penc : ε → Value} {fn : Func} {R : HP} {ρ : G → β → Fz → Value → Prop} {Hs' : G → β → Fz → List HP} {x r : β} {rs : List ResultVar} {vs : List Value} {Γ : G}
theorem ret_postE {f : FuncId} {caps : List Value} {Hs : List HP} {Hp : ε → Fz → List HP} (is0 : List Nat) (hcall : ∀ args w, (callFunc f args).run P w = .ok (.enter f args) w) (hc : CTV P penc f caps.toArray F' Hs Hp) (hi0 : pickR is0 hs = Hs) (is : List Nat) (hr : fn.results = rs.toArray) (h : Res P S F' (Hs ++ leftR is0 hs) rs vs) (hi : pickR is (Hs ++ leftR is0 hs) = Hs' Γ x F' ++ [R]) (le : F ≤ F') (hρ : ρ Γ x F' (tup vs)) :
    some x = some r → ∀ a w, Hd n [dclo f caps] S F' hs a w → fnPostO P fn F R ρ Hs' r .ret a w := by
  intro e a w ha
  simp only [Option.some.injEq] at e
  subst e
  show LeavesIn Fence.wide 0 P fn a.tmps _ a.defers .returning w
  rw [ha.1.2.1]
  have hsh : SH w F' (star (stars Hs) (stars (leftR is0 hs))) := ha.2.mono fun m hm => by
    have := stars_part (ks := is0) hm
    rw [hi0] at this; exact this
  refine leavesIn_cons (by simp) (fun e => by cases e) (invoke_clo hcall) leads_clo ((hc.1 w _ hsh).mono ?_)
  rintro _ _ w' ⟨rfl, ⟨v, rfl⟩, h2⟩
  have h3 : SH w' F' (stars (Hs ++ leftR is0 hs)) := h2.mono fun _ => stars_app
  refine ⟨_, run_results (n := n) (a := a) (D := a.defers) hr ⟨⟨ha.1.1, rfl, ha.1.2.2⟩, h3⟩ h, Γ, F', _, le, rfl, hρ, h3.mono fun m hm => ?_⟩
  have h1 := stars_pick (ks := is) hm
  rw [hi] at h1
  exact star_one (stars_app' h1)
theorem pan_postE {f : FuncId} {caps : List Value} {Hs : List HP} {Hp : ε → Fz → List HP} {q : ε} (j : Nat) (hcall : ∀ args w, (callFunc f args).run P w = .ok (.enter f args) w) (hc : CTV P penc f caps.toArray F' Hs Hp) (is : List Nat) (hi : pickR is hs = Hs) (hr : fn.results = rs.toArray) (h : ∀ F'', F' ≤ F'' → Res P S F'' (Hp q F'' ++ leftR is hs) rs vs) (hj : ∀ F'', (Hp q F'' ++ leftR is hs)[j]? = some R) (le : F ≤ F')
    (hnew : ∀ w F R, SH w F R → ∃ Γ F'', F ≤ F'' ∧ SH w F'' (star (stars (Hs' Γ x F'')) R)) (hρ : ∀ Γ F'', ρ Γ x F'' (tup vs)) :
    some x = some r → ∀ a w, Hd n [dclo f caps] S F' hs a w → fnPostO P fn F R ρ Hs' r (.panic [{ v := penc q, recovered := false }]) a w := by
  intro e a w ha
  simp only [Option.some.injEq] at e
  subst e
  show LeavesIn Fence.wide 0 P fn a.tmps _ a.defers (.panicking _) w
  rw [ha.1.2.1]
  have hsh : SH w F' (star (stars Hs) (stars (leftR is hs))) := ha.2.mono fun m hm => by
    have := stars_part (ks := is) hm
    rw [hi] at this; exact this
  refine leavesIn_cons (by simp) (fun e => by cases e) (invoke_clo hcall) leads_clo ((hc.2 q w _ hsh).mono ?_)
  rintro _ _ w' ⟨rfl, ⟨v, rfl⟩, F2, le2, h2⟩
  have h3 : SH w' F2 (stars (Hp q F2 ++ leftR is hs)) := h2.mono fun _ => stars_app
  obtain ⟨Γ, F3, le3, h4⟩ := hnew _ _ _ (h3.only (hj F2))
  exact ⟨_, run_results (n := n) (a := a) (D := a.defers) hr ⟨⟨ha.1.1, rfl, ha.1.2.2⟩, h3⟩ (h F2 le2), Γ, F3, _, Fz.le_trans le (Fz.le_trans le2 le3), rfl, hρ Γ F3, h4⟩
end
section
variable {β : Type} {P : Program} {ops : Array Oper} {rest : List Oper} {ks : List Kt} {Q : Exit → Act → World → Prop} {m : Option β} {r : β}
variable {n : Nat} {D : List Deferred} {S : List (Nat × Value)} {F : Fz} {hs : List HP} {d : Nat} {ty t t' tx : TypeId} {pos : String} {after : Array Edge} {ox oy : Operand} {v : Value}
theorem eqlNilI' {ms : Array (String × TypeId)} (ht : P.underlying t = some (.interface ms)) (k : Nat) (w : World) : (Op.equalIn (k + 1) t .nilIface .nilIface).run P w = .ok true w := by
  simp [Op.equalIn, rUnd ht]
theorem eqlIfaceNil' {ms : Array (String × TypeId)} (ht : P.underlying t = some (.interface ms)) (k : Nat) (w : World) : (Op.equalIn (k + 1) t (.iface tx v) .nilIface).run P w = .ok false w := by
  simp [Op.equalIn, rUnd ht]
theorem eqlNilI {ms : Array (String × TypeId)} (ht : P.underlying t = some (.interface ms)) (w : World) : (Op.equal t .nilIface .nilIface).run P w = .ok true w := eqlNilI' ht 9999 w
theorem eqlIfaceNil {ms : Array (String × TypeId)} (ht : P.underlying t = some (.interface ms)) (w : World) : (Op.equal t (.iface tx v) .nilIface).run P w = .ok false w := eqlIfaceNil' ht 9999 w
end
theorem news_nil {X : HP} {m : Mem} (h : X m) : star (stars []) X m := ⟨fun _ => none, m, fun _ => .inl rfl, fun _ _ e => by simp at e, Mem.sub.refl _, trivial, h⟩
end Go.Dec
end
