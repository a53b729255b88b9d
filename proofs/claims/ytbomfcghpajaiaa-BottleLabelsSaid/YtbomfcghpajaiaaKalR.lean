/- Ranges over functions: iterators, the call of yield, rounds. No program. -/
import Derived.Test.YtbomfcghpajaiaaKalP
import Derived.RangeFuncNested
import Derived.Test.YtbomfcghpajaiaaKalQ
namespace Go.Dec
variable {κ : Option Nat}

theorem round_fen {κ : Option Nat} {n : Nat} {P : Program} {l : Nat} {f : FuncId} {tmps : Array Value} {assign body : Code} {w : World} {R : Ending → World → Prop} : RoundIn (fen κ) n P l f tmps assign body w R ↔ RoundIn Fence.wide n P l f tmps assign body w R := by
  cases κ with
  | none => exact Iff.rfl
  | some l => exact Iff.rfl

/-- What a yield does: y, at a state that is owned. -/
def YieldOK {α σ : Type} (P : Program) (l : Nat) (F : Fz) (arg : α → Fz → List Value → Prop) (Y : σ → Fz → HP) (y : α → σ → Option (σ × Bool)) : Prop :=
  (∀ s F0 F1 m, F ≤ F0 → F0 ≤ F1 → Y s F0 m → Y s F1 m) ∧
  ∀ F1, F ≤ F1 → ∀ x vs s r, arg x F1 vs → y x s = some r → ∀ w R, SH w F1 (star (Y s F1) R) →
    ∃ f tmps assign body, (Instr.yield l vs.toArray).run P w = .ok (.round l f tmps assign body) w ∧
      RoundIn Fence.wide 0 P l f tmps assign body w (fun e w' => ∃ F2, F1 ≤ F2 ∧ e = .returned (.bool r.2) ∧ SH w' F2 (star (Y r.1 F2) R))
theorem YieldOK.mono {α σ : Type} {P : Program} {l : Nat} {F F' : Fz} {arg : α → Fz → List Value → Prop} {Y : σ → Fz → HP} {y : α → σ → Option (σ × Bool)} (h : YieldOK P l F arg Y y) (le : F ≤ F') : YieldOK P l F' arg Y y :=
  ⟨fun s F0 F1 m h0 => h.1 s F0 F1 m (Fz.le_trans le h0), fun F1 h1 => h.2 F1 (Fz.le_trans le h1)⟩

/-- An iterator, as a model says. -/
def IterOK {α : Type} (P : Program) (F : Fz) (f : FuncId) (caps : List Value) (arg : α → Fz → List Value → Prop) (mk : ∀ σ : Type, (α → σ → Option (σ × Bool)) → σ → Option σ) : Prop :=
  (∀ args w, (callFunc f args).run P w = .ok (.enter f args) w) ∧
  ∀ (σ : Type) (l : Nat) (Y : σ → Fz → HP) (y : α → σ → Option (σ × Bool)) (F1 : Fz), F ≤ F1 → YieldOK P l F1 arg Y y → ∀ s, CT P f (.func (.yield l) #[] #[] :: caps).toArray F1 (Y s F1) (mk σ y s) (fun _ _ _ => True) (fun s' F' _ => Y s' F')
theorem IterOK.mono {α : Type} {P : Program} {F F' : Fz} {f : FuncId} {caps : List Value} {arg : α → Fz → List Value → Prop} {mk : ∀ σ : Type, (α → σ → Option (σ × Bool)) → σ → Option σ} (h : IterOK P F f caps arg mk) (le : F ≤ F') : IterOK P F' f caps arg mk :=
  ⟨h.1, fun σ l Y y F1 le1 => h.2 σ l Y y F1 (Fz.le_trans le le1)⟩

section
variable {β : Type} {P : Program} {ops : Array Oper} {rest : List Oper} {ks : List Kt} {Q : Exit → Act → World → Prop} {m : Option β} {r : β}
variable {n : Nat} {D : List Deferred} {S : List (Nat × Value)} {F : Fz} {hs : List HP}

theorem GL.ite {A : Act → World → Prop} {l : List Oper} {b : Bool} {m1 m2 : Option β} (h1 : b = true → GL κ P ops l ks Q A m1 r) (h2 : b = false → GL κ P ops l ks Q A m2 r) : GL κ P ops l ks Q A (if b then m1 else m2) r := by
  cases hb : b with
  | true => rw [if_pos rfl]; exact h1 hb
  | false => rw [if_neg (by simp)]; exact h2 hb

/-- The call of yield. -/
theorem GL.callY {α σ : Type} {l d i : Nat} {ty : TypeId} {pos : String} {after : Array Edge} {vs : List Value} {of : Operand} {os : List Operand} {T : Array TypeId} {Fb F0 : Fz} {arg : α → Fz → List Value → Prop} {Y : σ → Fz → HP} {y : α → σ → Option (σ × Bool)} {x : α} {s : σ} {g : σ × Bool → Option β}
    (hd : Nat.blt d n = true) (hy : YieldOK P l Fb arg Y y) (hf : evalS S of = some (.func (.yield l) #[] #[])) (ha : evalL S os = some vs) (hx : arg x F vs) (hi : hs[i]? = some (Y s F0)) (le0 : Fb ≤ F0) (le : F0 ≤ F)
    (k : ∀ p F', y x s = some p → F ≤ F' → GL κ P ops rest ks Q (Hd n D ((d, .bool p.2) :: S) F' (hs.set i (Y p.1 F'))) (g p) r) :
    GL κ P ops (⟨some d, .call ⟨.value of, os.toArray, T⟩, ty, pos, after, none⟩ :: rest) ks Q (Hd n D S F hs) ((y x s).bind g) r := by
  intro hm a w hA
  cases he : y x s with
  | none => rw [he] at hm; cases hm
  | some p =>
    rw [he] at hm
    obtain ⟨f, tmps, assign, body, hr, hround⟩ := hy.2 F (Fz.le_trans le0 le) x vs s p hx he w _ ((hA.2.pull hi).mono fun _ hm => star_mono_left (fun _ hm => hy.1 s F0 F _ le0 le hm) hm)
    unfold wpL
    rw [if_pos (by simp [Region.wanted])]
    refine ⟨.inr rfl, ?_⟩
    have e := evalL_map hA.1 ha
    have hrun : (execOp a.eval ⟨some d, .call ⟨.value of, os.toArray, T⟩, ty, pos, after, none⟩).run P w = .ok (.round l f tmps assign body) w := by
      simp [execOp, resolve, Deferred.ofValue, hA.1.eval hf, e, invoke, hr]
    rw [hrun]
    refine ⟨fun e => (by rw [fen_depth] at e; cases e), round_fen.2 (hround.mono ?_)⟩
    rintro _ w' ⟨F2, le2, rfl, hw⟩
    exact k p F2 he le2 hm _ _ ⟨hA.1.put hd _, SH.push hi hw⟩

theorem GE.yUp {α σ : Type} {l : Nat} {Fb F0 : Fz} {arg : α → Fz → List Value → Prop} {Y : σ → Fz → HP} {y : α → σ → Option (σ × Bool)} {s : σ} (i : Nat) (hy : YieldOK P l Fb arg Y y) (hi : hs[i]? = some (Y s F0)) (le0 : Fb ≤ F0) (le : F0 ≤ F)
    (k : GE κ P ks Q (Hd n D S F (hs.set i (Y s F))) m r) : GE κ P ks Q (Hd n D S F hs) m r :=
  GE.weak (fun _ _ h => ⟨h.1, SH.push hi ((h.2.pull hi).mono fun _ hm => star_mono_left (fun _ hm => hy.1 s F0 F _ le0 le hm) hm)⟩) k
theorem GC.yUp {α σ : Type} {l : Nat} {c : Code} {Fb F0 : Fz} {arg : α → Fz → List Value → Prop} {Y : σ → Fz → HP} {y : α → σ → Option (σ × Bool)} {s : σ} (i : Nat) (hy : YieldOK P l Fb arg Y y) (hi : hs[i]? = some (Y s F0)) (le0 : Fb ≤ F0) (le : F0 ≤ F)
    (k : GC κ P c ks Q (Hd n D S F (hs.set i (Y s F))) m r) : GC κ P c ks Q (Hd n D S F hs) m r :=
  GC.weak (fun _ _ h => ⟨h.1, SH.push hi ((h.2.pull hi).mono fun _ hm => star_mono_left (fun _ hm => hy.1 s F0 F _ le0 le hm) hm)⟩) k

end

/-! ### The statement -/
def lready (L : Loop) : Obj := .loop { L with state := .ready, pending := none }
def lbusy (L : Loop) : Obj := .loop { L with state := .busy, pending := none }
def ldone (L : Loop) : Obj := .loop { L with state := .done, pending := some .ret }
def lover (L : Loop) (c : Option Code) : Obj := .loop { L with state := .exhausted, pending := c }

def yOf {α τ γ : Type} (body : α → τ → Option (Ctl τ γ)) : α → Ctl τ γ → Option (Ctl τ γ × Bool)
  | x, .next s => (body x s).map fun c => (c, match c with | .next _ => true | .done _ => false)
  | _, .done _ => none

/-- What is owned between the rounds: as it was left at some F since. -/
def yS {τ γ : Type} (Fb : Fz) (l : Nat) (L : Loop) (I : τ → Fz → List HP → Prop) (J : γ → Fz → List HP → Prop) : Ctl τ γ → Fz → HP
  | .next s, F => fun m => ∃ F0 hs, Fb ≤ F0 ∧ F0 ≤ F ∧ I s F0 hs ∧ star (pt l (lready L)) (stars hs) m
  | .done b, F => fun m => ∃ F0 hs, Fb ≤ F0 ∧ F0 ≤ F ∧ J b F0 hs ∧ star (pt l (ldone L)) (stars hs) m

/-- What a round leaves. -/
def RP {τ γ : Type} (l : Nat) (L : Loop) (I : τ → Fz → List HP → Prop) (J : γ → Fz → List HP → Prop) (F1 : Fz) (R : HP) (ctl : Ctl τ γ) : Exit → Act → World → Prop := fun e _ w =>
  match ctl with
  | .next s => e = .normal ∧ ∃ F2 hs, F1 ≤ F2 ∧ I s F2 hs ∧ SH w F2 (stars (pt l (lbusy L) :: R :: hs))
  | .done b => e = .ret ∧ ∃ F2 hs, F1 ≤ F2 ∧ J b F2 hs ∧ SH w F2 (stars (pt l (lbusy L) :: R :: hs))
def BP (P : Program) (l : Nat) (body : Code) (Q : Exit → Act → World → Prop) : Exit → Act → World → Prop := fun e a w =>
  e = .normal ∧ ∃ w₂, (Instr.beginRound l).run P w = .ok () w₂ ∧ body.wpIn (fen (some l)) 0 P Q a w₂

theorem run_begin {P : Program} {w : World} {l : Nat} {L : Loop} (h : w.heap[l]? = some (lready L)) : (Instr.beginRound l).run P w = .ok () (put w l (lbusy L)) :=
  run_beginRound (r := { L with state := .ready, pending := none }) h rfl
theorem run_endN {P : Program} {w : World} {l : Nat} {L : Loop} (h : w.heap[l]? = some (lbusy L)) : (Instr.endRound l none).run P w = .ok (.bool true) (put w l (lready L)) :=
  run_endRound (r := { L with state := .busy, pending := none }) none h
theorem run_endR {P : Program} {w : World} {l : Nat} {L : Loop} (h : w.heap[l]? = some (lbusy L)) : (Instr.endRound l (some .ret)).run P w = .ok (.bool false) (put w l (ldone L)) :=
  run_endRound (r := { L with state := .busy, pending := none }) (some .ret) h
theorem run_overN {P : Program} {w : World} {l : Nat} {L : Loop} (h : w.heap[l]? = some (lready L)) : (Instr.endLoop l).run P w = .ok none (put w l (lover L none)) :=
  run_endLoop (r := { L with state := .ready, pending := none }) h (by simp)
theorem run_overR {P : Program} {w : World} {l : Nat} {L : Loop} (h : w.heap[l]? = some (ldone L)) : (Instr.endLoop l).run P w = .ok (some .ret) (put w l (lover L (some .ret))) :=
  run_endLoop (r := { L with state := .done, pending := some .ret }) h (by simp)

section
variable {β : Type} {P : Program} {m : Option β} {r : β} {n : Nat} {D : List Deferred} {S : List (Nat × Value)} {F F1 : Fz} {hs : List HP} {R : HP}
variable {α τ γ : Type} {l : Nat} {L : Loop} {I : τ → Fz → List HP → Prop} {J : γ → Fz → List HP → Prop} {body assign : Code}

/-- The left sides are assigned; the round begins. -/
theorem GE.begin {Q : Exit → Act → World → Prop} (i : Nat) (hi : hs[i]? = some (pt l (lready L))) (k : GC (some l) P body [] Q (Hd n D S F (hs.set i (pt l (lbusy L)))) m r) : GE (some l) P [] (BP P l body Q) (Hd n D S F hs) m r :=
  fun hm a _ ha => ⟨rfl, _, run_begin (SH.ownedAt hi ha.2), k hm a _ ⟨ha.1, SH.putAt hi ha.2 _⟩⟩

theorem RP.norm {s : τ} {ctl : Ctl τ γ} {hs' : List HP} (le : F1 ≤ F) (h : I s F hs') (e : hs = pt l (lbusy L) :: R :: hs') : some (Ctl.next s) = some ctl → ∀ a w, Hd n D S F hs a w → RP l L I J F1 R ctl .normal a w := fun e' a w ha => by
  simp only [Option.some.injEq] at e'; subst e'; subst e; exact ⟨rfl, F, hs', le, h, ha.2⟩
theorem RP.ret {b : γ} {ctl : Ctl τ γ} {hs' : List HP} (le : F1 ≤ F) (h : J b F hs') (e : hs = pt l (lbusy L) :: R :: hs') : some (Ctl.done b) = some ctl → ∀ a w, Hd n D S F hs a w → RP l L I J F1 R ctl .ret a w := fun e' a w ha => by
  simp only [Option.some.injEq] at e'; subst e'; subst e; exact ⟨rfl, F, hs', le, h, ha.2⟩

theorem RP.normF {s s' : τ} {hs' : List HP} (le : F1 ≤ F) (h : I s F hs') (e : hs = pt l (lbusy L) :: R :: hs') : some s = some s' → ∀ a w, Hd n D S F hs a w → RP l L I J F1 R (.next s') .normal a w := fun e' a w ha => by
  simp only [Option.some.injEq] at e'; subst e'; subst e; exact ⟨rfl, F, hs', le, h, ha.2⟩
theorem SH.three {w : World} {F : Fz} {p q : HP} {hs : List HP} (h : SH w F (stars (p :: q :: hs))) : SH w F (star (star p (stars hs)) q) :=
  h.mono fun m hm => by
    obtain ⟨m1, m2, d, s1, s2, hp, hq⟩ := hm
    obtain ⟨m3, m4, d', t1, t2, hq', hr⟩ := hq
    classical
    refine ⟨fun k => if m1 k = none then m4 k else m1 k, m3, ?_, ?_, t1.trans s2, ⟨m1, m4, d.sub (Mem.sub.refl _) t2, ?_, ?_, hp, hr⟩, hq'⟩
    · intro k
      by_cases e : m1 k = none
      · simp only [e, if_true]; exact (d' k).symm
      · simp only [e, if_false]
        rcases (d.sub (Mem.sub.refl m1) t1) k with h | h
        · exact absurd h e
        · exact .inr h
    · intro k o e
      by_cases e' : m1 k = none
      · simp only [e', if_true] at e; exact s2 k o (t2 k o e)
      · simp only [e', if_false] at e; exact s1 k o e
    · intro k o e; simp [e]
    · intro k o e
      have : m1 k = none := (d.sub (Mem.sub.refl m1) t2).none_left e
      simp [this, e]
theorem SH.three' {w : World} {F : Fz} {p q : HP} {hs : List HP} (h : SH w F (star (star p (stars hs)) q)) : SH w F (stars (p :: q :: hs)) :=
  h.mono fun m hm => by
    obtain ⟨m1, m2, d, s1, s2, ⟨m3, m4, d', t1, t2, hp, hr⟩, hq⟩ := hm
    classical
    refine ⟨m3, fun k => if m2 k = none then m4 k else m2 k, ?_, t1.trans s1, ?_, hp, m2, m4, ?_, ?_, ?_, hq, hr⟩
    · intro k
      by_cases e : m2 k = none
      · simp only [e, if_true]; exact d' k
      · simp only [e, if_false]
        rcases (d.sub t1 (Mem.sub.refl m2)) k with h | h
        · exact .inl h
        · exact absurd h e
    · intro k o e
      by_cases e' : m2 k = none
      · simp only [e', if_true] at e; exact s1 k o (t2 k o e)
      · simp only [e', if_false] at e; exact s2 k o e
    · exact (d.sub t2 (Mem.sub.refl m2)).symm
    · intro k o e; simp [e]
    · intro k o e
      have : m2 k = none := (d.sub t2 (Mem.sub.refl m2)).none_right e
      simp [this, e]

theorem SH.openNext {w : World} {F : Fz} {s : τ} {Fb : Fz} (h : SH w F (star (yS Fb l L I J (.next s) F) R)) : ∃ F0 hs, Fb ≤ F0 ∧ F0 ≤ F ∧ I s F0 hs ∧ SH w F (stars (pt l (lready L) :: R :: hs)) := by
  obtain ⟨m, ⟨m1, m2, d, s1, s2, ⟨F0, hs, h0, h1, hI, hp⟩, hq⟩, k⟩ := h
  exact ⟨F0, hs, h0, h1, hI, SH.three' ⟨m, ⟨m1, m2, d, s1, s2, hp, hq⟩, k⟩⟩
theorem SH.openDone {w : World} {F : Fz} {b : γ} {Fb : Fz} (h : SH w F (star (yS Fb l L I J (.done b) F) R)) : ∃ F0 hs, Fb ≤ F0 ∧ F0 ≤ F ∧ J b F0 hs ∧ SH w F (stars (pt l (ldone L) :: R :: hs)) := by
  obtain ⟨m, ⟨m1, m2, d, s1, s2, ⟨F0, hs, h0, h1, hI, hp⟩, hq⟩, k⟩ := h
  exact ⟨F0, hs, h0, h1, hI, SH.three' ⟨m, ⟨m1, m2, d, s1, s2, hp, hq⟩, k⟩⟩

/-- Rounds make yield what the body's model says. -/
theorem yieldOK {arg : α → Fz → List Value → Prop} {bm : α → τ → Option (Ctl τ γ)} {F : Fz} {S' : List Value → List (Nat × Value)} (hP : ∀ x F' vs, arg x F' vs → vs.length = L.params.size) (ha : L.assign = assign) (hb : L.body = body)
    (hsl : ∀ vs : List Value, vs.length = L.params.size → Sl n [] (S' vs) { tmps := (L.params.zip vs.toArray).foldl (fun tmps (t, a) => tmps.setIfInBounds t a) L.tmps, defers := [] })
    (round : ∀ F0 F1 x vs s ctl R hs, F ≤ F0 → F0 ≤ F1 → arg x F1 vs → I s F0 hs → GC (some l) P assign [] (BP P l body (RP l L I J F1 R ctl)) (Hd n [] (S' vs) F1 (pt l (lready L) :: R :: hs)) (bm x s) ctl) :
    YieldOK P l F arg (yS F l L I J) (yOf bm) := by
  refine ⟨fun c F0 F1 m _ h1 hm => ?_, fun F1 h1 x vs c r hx hy w R hw => ?_⟩
  · cases c with
    | next s => obtain ⟨G, hs, g0, g1, k⟩ := hm; exact ⟨G, hs, g0, Fz.le_trans g1 h1, k⟩
    | done b => obtain ⟨G, hs, g0, g1, k⟩ := hm; exact ⟨G, hs, g0, Fz.le_trans g1 h1, k⟩
  cases c with
  | done b => simp [yOf] at hy
  | next s =>
    simp only [yOf] at hy
    cases hc : bm x s with
    | none => rw [hc] at hy; cases hy
    | some ctl =>
      rw [hc] at hy
      simp only [Option.map_some, Option.some.injEq] at hy
      subst hy
      obtain ⟨F0, hs, h0, h01, hI, hw3⟩ := SH.openNext hw
      have hl : w.heap[l]? = some (lready L) := SH.ownedAt (k := 0) rfl hw3
      have hn := hP x F1 vs hx
      refine ⟨L.fn, _, L.assign, L.body, run_yield (r := { L with state := .ready, pending := none }) hl (by simpa using hn), ?_⟩
      refine roundIn_of_wpIn trivial ?_
      rw [ha, hb]
      have hg := round F0 F1 x vs s ctl R hs h0 h01 hx hI hc _ w ⟨hsl vs hn, hw3⟩
      refine wpIn_mono hg fun e a1 w1 hq => ?_
      obtain ⟨rfl, w2, hbr, hbody⟩ := hq
      refine ⟨w2, hbr, wpIn_mono hbody fun e a2 w3 hq => ?_⟩
      cases ctl with
      | next s' =>
        obtain ⟨rfl, F2, hs2, le, hI2, h⟩ := hq
        refine ⟨_, _, run_endN (SH.ownedAt (k := 0) rfl h), F2, le, rfl, (SH.three (SH.putAt (k := 0) rfl h (lready L))).mono fun m hm => star_mono_left (fun m hm => ?_) hm⟩
        exact ⟨F2, hs2, Fz.le_trans h1 le, Fz.le_refl _, hI2, hm⟩
      | done b =>
        obtain ⟨rfl, F2, hs2, le, hI2, h⟩ := hq
        refine ⟨_, _, run_endR (SH.ownedAt (k := 0) rfl h), F2, le, rfl, (SH.three (SH.putAt (k := 0) rfl h (ldone L))).mono fun m hm => star_mono_left (fun m hm => ?_) hm⟩
        exact ⟨F2, hs2, Fz.le_trans h1 le, Fz.le_refl _, hI2, hm⟩
end

/-! ### The statement, outside of all rounds -/
abbrev dmark (q : Nat) : Deferred := { target := .collected q, args := #[] }

theorem sl_paramsL {n : Nat} : ∀ {ps : List Nat} {vs : List Value} {t : Array Value} {S : List (Nat × Value)}, (ps.all fun p => Nat.blt p n) = true → Sl n [] S { tmps := t, defers := [] } →
    Sl n [] ((ps.zip vs).reverse ++ S) { tmps := (ps.zip vs).foldl (fun tmps (t, a) => tmps.setIfInBounds t a) t, defers := [] }
  | [], _, _, _, _, h => h
  | _ :: _, [], _, _, _, h => h
  | p :: ps, v :: vs, t, S, hp, h => by
    simp only [List.all_cons, Bool.and_eq_true] at hp
    have h1 := Sl.put h hp.1 v
    have h2 := sl_paramsL (ps := ps) (vs := vs) (S := (p, v) :: S) (t := t.setIfInBounds p v) hp.2 h1
    simpa using h2
theorem sl_params {n : Nat} {ps : List Nat} {vs : List Value} {t : Array Value} {S : List (Nat × Value)} (hp : (ps.all fun p => Nat.blt p n) = true) (h : Sl n [] S { tmps := t, defers := [] }) :
    Sl n [] ((ps.zip vs).reverse ++ S) { tmps := (ps.toArray.zip vs.toArray).foldl (fun tmps (t, a) => tmps.setIfInBounds t a) t, defers := [] } := by
  rw [List.zip_toArray, List.foldl_toArray]; exact sl_paramsL hp h

section
variable {β : Type} {P : Program} {ks : List Kt} {Q : Exit → Act → World → Prop} {r : β} {n : Nat} {D : List Deferred} {S : List (Nat × Value)} {F : Fz} {hs : List HP}
variable {α τ γ : Type} {g : Operand} {ps : List Tmp} {assign body : Code} {f : FuncId} {caps : List Value} {mk : ∀ σ : Type, (α → σ → Option (σ × Bool)) → σ → Option σ} {arg : α → Fz → List Value → Prop} {bm : α → τ → Option (Ctl τ γ)} {s0 : τ} {k : Ctl τ γ → Option β}

/-- **A range over a function**. -/
theorem GC.rangeFunc (I : τ → Fz → List HP → Prop) (J : γ → Fz → List HP → Prop) (hg : evalS S g = some (.func (.func f) #[] caps.toArray)) (hit : IterOK P F f caps arg mk) (hps : (ps.all fun p => Nat.blt p n) = true) (harg : ∀ x F' vs, arg x F' vs → vs.length = ps.length)
    (hI : I s0 F hs)
    (round : ∀ l L F0 F1 x vs s ctl R hs', F ≤ F0 → F0 ≤ F1 → arg x F1 vs → I s F0 hs' → GC (some l) P assign [] (BP P l body (RP l L I J F1 R ctl)) (Hd n [] ((ps.zip vs).reverse ++ S) F1 (pt l (lready L) :: R :: hs')) (bm x s) ctl)
    (next : ∀ q F0 F' s hs', F ≤ F0 → F0 ≤ F' → mk _ (yOf bm) (.next s0) = some (.next s) → I s F0 hs' → GE none P ks Q (Hd n (dmark q :: D) S F' (pt q (.deferred (some [])) :: hs')) (k (.next s)) r)
    (done : ∀ q F0 F' b hs', F ≤ F0 → F0 ≤ F' → mk _ (yOf bm) (.next s0) = some (.done b) → J b F0 hs' → GC none P .ret ks Q (Hd n (dmark q :: D) S F' (pt q (.deferred (some [])) :: hs')) (k (.done b)) r) :
    GC none P (.rangeFunc g ps.toArray assign body) ks Q (Hd n D S F hs) ((mk (Ctl τ γ) (yOf bm) (.next s0)).bind k) r := by
  intro hm a w ha
  cases hl : mk (Ctl τ γ) (yOf bm) (.next s0) with
  | none => rw [hl] at hm; cases hm
  | some c =>
    rw [hl] at hm
    refine wpIn_rangeFunc fun fn _ => ?_
    let L : Loop := { state := .ready, pending := none, fn, tmps := a.tmps, params := ps.toArray, assign, body, defers := w.heap.size }
    have hw1 : SH ((w.alloc (.deferred (some []))).alloc (.loop L)) F (star (yS F (w.heap.size + 1) L I J (.next s0) F) (stars [pt w.heap.size (.deferred (some []))])) := by
      have h1 := (ha.2.alloc (.deferred (some []))).alloc (.loop L)
      rw [World.size_alloc] at h1
      have h2 : SH ((w.alloc (.deferred (some []))).alloc (.loop L)) F (stars (pt (w.heap.size + 1) (lready L) :: stars [pt w.heap.size (.deferred (some []))] :: hs)) := by
        refine h1.mono fun m hm => star_mono_right (fun m hm => star_mono_left (fun m hm => ?_) hm) hm
        exact ⟨m, fun _ => none, fun _ => .inr rfl, Mem.sub.refl _, fun _ _ e => by simp at e, hm, trivial⟩
      exact (SH.three h2).mono fun m hm => star_mono_left (fun m hm => ⟨F, hs, Fz.le_refl _, Fz.le_refl _, hI, hm⟩) hm
    have hY : YieldOK P (w.heap.size + 1) F arg (yS F (w.heap.size + 1) L I J) (yOf bm) := by
      refine yieldOK (S' := fun vs => (ps.zip vs).reverse ++ S) (assign := assign) (body := body) (fun x F' vs hx => by rw [harg x F' vs hx]; simp [L]) rfl rfl (fun vs _ => sl_params hps ⟨ha.1.1, rfl, ha.1.2.2⟩) ?_
      exact fun F0 F1 x vs s ctl R hs' h0 h1 hx hI => round _ L F0 F1 x vs s ctl R hs' h0 h1 hx hI
    have hc := hit.2 _ _ _ _ F (Fz.le_refl F) hY (.next s0) c hl _ _ hw1
    refine ⟨w.heap.size + 1, [dmark w.heap.size], (w.alloc (.deferred (some []))).alloc (.loop L), ⟨.fn (.func f) caps.toArray, #[.func (.yield (w.heap.size + 1)) #[] #[]]⟩, (w.alloc (.deferred (some []))).alloc (.loop L), f, (.func (.yield (w.heap.size + 1)) #[] #[] :: caps).toArray, (w.alloc (.deferred (some []))).alloc (.loop L), run_enterLoop_outer fn a.tmps ps.toArray assign body, ?_, fun _ _ => trivial, ?_, fun e => (by cases e), ?_⟩
    · have hc0 : a.eval (.const (.func (.yield (w.heap.size + 1)) #[] #[])) = .func (.yield (w.heap.size + 1)) #[] #[] := rfl
      simp [resolve, Deferred.ofValue, ha.1.eval hg, hc0]
    · simp [invoke, hit.1]
    · refine callsIn_wide.2 (hc.mono ?_)
      rintro _ w' ⟨F', v, le, rfl, -, hw'⟩
      cases c with
      | next s =>
        obtain ⟨F0, hs', h0, h1, hI', h3⟩ := SH.openNext hw'
        refine ⟨none, _, run_overN (SH.ownedAt (k := 0) rfl h3), ?_⟩
        have h4 : SH _ F' (stars (pt w.heap.size (.deferred (some [])) :: hs')) := (SH.eraseAt 0 (SH.putAt (k := 0) rfl h3 (lover L none))).mono fun m hm => star_mono_left (fun m hm => by obtain ⟨m1, _, _, s1, _, hp, _⟩ := hm; exact s1 _ _ hp) hm
        exact next w.heap.size F0 F' s hs' h0 h1 hl hI' hm _ _ ⟨⟨ha.1.1, by simp [ha.1.2.1], ha.1.2.2⟩, h4⟩
      | done b =>
        obtain ⟨F0, hs', h0, h1, hI', h3⟩ := SH.openDone hw'
        refine ⟨some .ret, _, run_overR (SH.ownedAt (k := 0) rfl h3), ?_⟩
        have h4 : SH _ F' (stars (pt w.heap.size (.deferred (some [])) :: hs')) := (SH.eraseAt 0 (SH.putAt (k := 0) rfl h3 (lover L (some .ret)))).mono fun m hm => star_mono_left (fun m hm => by obtain ⟨m1, _, _, s1, _, hp, _⟩ := hm; exact s1 _ _ hp) hm
        exact done w.heap.size F0 F' b hs' h0 h1 hl hI' hm _ _ ⟨⟨ha.1.1, by simp [ha.1.2.1], ha.1.2.2⟩, h4⟩

/-! ### Iterators that are lists -/
def foldY {α σ : Type} (y : α → σ → Option (σ × Bool)) : List α → σ → Option σ
  | [], s => some s
  | x :: xs, s => (y x s).bind fun p => if p.2 then foldY y xs p.1 else some p.1
def RepIter {α : Type} (P : Program) (F : Fz) (f : FuncId) (caps : List Value) (arg : α → Fz → List Value → Prop) (l : List α) : Prop := IterOK P F f caps arg (fun _ y s => foldY y l s)
theorem RepIter.mono {α : Type} {P : Program} {F F' : Fz} {f : FuncId} {caps : List Value} {arg : α → Fz → List Value → Prop} {l : List α} (h : RepIter P F f caps arg l) (le : F ≤ F') : RepIter P F' f caps arg l := IterOK.mono h le
/-- The loop over a list. -/
def forL {α τ : Type} (b : α → τ → Option τ) : List α → τ → Option τ
  | [], s => some s
  | x :: xs, s => (b x s).bind (forL b xs)
def retL {α τ γ : Type} (b : α → τ → Option (Ctl τ γ)) : List α → τ → Option (Ctl τ γ)
  | [], s => some (.next s)
  | x :: xs, s => (b x s).bind fun c => match c with
    | .next s' => retL b xs s'
    | .done r => some (.done r)
theorem foldY_retL {α τ γ : Type} (b : α → τ → Option (Ctl τ γ)) : ∀ (l : List α) (s : τ), foldY (yOf b) l (.next s) = retL b l s
  | [], s => rfl
  | x :: xs, s => by
    simp only [foldY, yOf, retL]
    cases h : b x s with
    | none => rfl
    | some c =>
      cases c with
      | next s' => simpa using foldY_retL b xs s'
      | done r => simp
theorem retL_forL {α τ : Type} (b : α → τ → Option τ) : ∀ (l : List α) (s : τ), retL (γ := Empty) (fun x s => (b x s).map .next) l s = (forL b l s).map .next
  | [], s => rfl
  | x :: xs, s => by
    simp only [retL, forL]
    cases h : b x s with
    | none => rfl
    | some s' => simpa using retL_forL b xs s'

theorem OLe.forL {α τ : Type} {b b' : α → τ → Option τ} (h : ∀ x s, OLe (b x s) (b' x s)) : ∀ (l : List α) (s : τ), OLe (Dec.forL b l s) (Dec.forL b' l s)
  | [], _s => OLe.refl _
  | x :: xs, s => OLe.bind (h x s) fun s' => OLe.forL h xs s'

theorem GC.rangeRet {l : List α} (I : τ → Fz → List HP → Prop) (J : γ → Fz → List HP → Prop) (hg : evalS S g = some (.func (.func f) #[] caps.toArray)) (hit : RepIter P F f caps arg l) (hps : (ps.all fun p => Nat.blt p n) = true) (harg : ∀ x F' vs, arg x F' vs → vs.length = ps.length)
    (hI : I s0 F hs)
    (round : ∀ l L F0 F1 x vs s ctl R hs', F ≤ F0 → F0 ≤ F1 → arg x F1 vs → I s F0 hs' → GC (some l) P assign [] (BP P l body (RP l L I J F1 R ctl)) (Hd n [] ((ps.zip vs).reverse ++ S) F1 (pt l (lready L) :: R :: hs')) (bm x s) ctl)
    (next : ∀ q F0 F' s hs', F ≤ F0 → F0 ≤ F' → retL bm l s0 = some (.next s) → I s F0 hs' → GE none P ks Q (Hd n (dmark q :: D) S F' (pt q (.deferred (some [])) :: hs')) (k (.next s)) r)
    (done : ∀ q F0 F' b hs', F ≤ F0 → F0 ≤ F' → retL bm l s0 = some (.done b) → J b F0 hs' → GC none P .ret ks Q (Hd n (dmark q :: D) S F' (pt q (.deferred (some [])) :: hs')) (k (.done b)) r) :
    GC none P (.rangeFunc g ps.toArray assign body) ks Q (Hd n D S F hs) ((retL bm l s0).bind k) r := by
  rw [← foldY_retL] at next done ⊢
  exact GC.rangeFunc (mk := fun _ y s => foldY y l s) I J hg hit hps harg hI round next done
theorem GC.rangeFor {l : List α} {bm : α → τ → Option τ} {k : τ → Option β} (I : τ → Fz → List HP → Prop) (hg : evalS S g = some (.func (.func f) #[] caps.toArray)) (hit : RepIter P F f caps arg l) (hps : (ps.all fun p => Nat.blt p n) = true) (harg : ∀ x F' vs, arg x F' vs → vs.length = ps.length)
    (hI : I s0 F hs)
    (round : ∀ l L F0 F1 x vs s ctl R hs', F ≤ F0 → F0 ≤ F1 → arg x F1 vs → I s F0 hs' → GC (some l) P assign [] (BP P l body (RP l L I (fun (_ : Empty) _ _ => False) F1 R (.next ctl))) (Hd n [] ((ps.zip vs).reverse ++ S) F1 (pt l (lready L) :: R :: hs')) (bm x s) ctl)
    (next : ∀ q F0 F' s hs', F ≤ F0 → F0 ≤ F' → forL bm l s0 = some s → I s F0 hs' → GE none P ks Q (Hd n (dmark q :: D) S F' (pt q (.deferred (some [])) :: hs')) (k s) r) :
    GC none P (.rangeFunc g ps.toArray assign body) ks Q (Hd n D S F hs) ((forL bm l s0).bind k) r := by
  have h := GC.rangeRet (γ := Empty) (k := fun c => match c with | .next s => k s | .done b => b.elim) (bm := fun x s => (bm x s).map .next) (ks := ks) (Q := Q) (D := D) (r := r) I (fun _ _ _ => False) hg hit hps harg hI
    (fun l L F0 F1 x vs s ctl R hs' h0 h1 hx hI => by
      intro hm
      cases hb : bm x s with
      | none => rw [hb] at hm; cases hm
      | some s' => rw [hb] at hm; simp only [Option.map_some, Option.some.injEq] at hm; subst hm; exact round l L F0 F1 x vs s s' R hs' h0 h1 hx hI hb)
    (fun q F0 F' s hs' h0 h1 he => next q F0 F' s hs' h0 h1 (by rw [retL_forL] at he; cases hf : forL bm l s0 with | none => rw [hf] at he; cases he | some s' => rw [hf] at he; simp only [Option.map_some, Option.some.injEq, Ctl.next.injEq] at he; rw [he]))
    (fun _ _ _ b => b.elim)
  rw [retL_forL] at h
  cases hf : forL bm l s0 with
  | none => intro hm; cases hm
  | some s => rw [hf] at h; exact h
end

/-! ### The end of a function that holds such a loop -/
def okM : List HP → List (Nat × Nat) → Prop
  | _, [] => True
  | hs, (i, q) :: ms => hs[i]? = some (pt q (.deferred (some []))) ∧ okM (hs.set i (pt q (.deferred none))) ms
def shutM : List HP → List (Nat × Nat) → List HP
  | hs, [] => hs
  | hs, (i, q) :: ms => shutM (hs.set i (pt q (.deferred none))) ms
theorem leavesM {P : Program} {fn : Func} {tmps : Array Value} {R : Ending → World → Prop} {F : Fz} : ∀ {ms : List (Nat × Nat)} {hs : List HP} {w : World}, SH w F (stars hs) → okM hs ms →
    (∀ w', SH w' F (stars (shutM hs ms)) → ∃ v, (results fn tmps).run P w' = .ok v w' ∧ R (.returned v) w') → LeavesInM Fence.wide 0 P fn tmps R (ms.map fun p => dmark p.2) .returning w
  | [], hs, w, h, _, k => k w h
  | (i, q) :: ms, hs, w, h, ho, k => by
    refine ⟨by simp, .inl ⟨q, _, rfl, run_takeDeferred (SH.ownedAt ho.1 h), ?_⟩⟩
    exact leavesM (SH.putAt ho.1 h _) ho.2 k

def fnPost0M {β : Type} (P : Program) (fn : Func) (F : Fz) (R : HP) (ρ : β → Fz → Value → Prop) (r : β) : Exit → Act → World → Prop :=
  bodyPostM Fence.wide 0 P fn (fun e w' => ∃ F' v, F ≤ F' ∧ e = .returned v ∧ ρ r F' v ∧ SH w' F' R)
theorem CT0.enterM {β : Type} {P : Program} {f : FuncId} {fn : Func} {c : Code} {args : List Value} {F : Fz} {m : Option β} {ρ : β → Fz → Value → Prop} {n : Nat}
    (hf : P.funcs[f]? = some fn) (hb : fn.body = some c) (hn : fn.ntmps = n) (ha : Nat.ble args.length n = true)
    (k : ∀ r R, GC none P c [] (fnPost0M P fn F R ρ r) (Hd n [] (argS 0 args) F [R]) m r) : CT0 P f args.toArray F m ρ := by
  intro r hm w R hw
  refine (callsIn_wide (n := 0)).1 (callsIn_of_wp_marks hf hb trivial (k r R hm _ w ⟨?_, hw.one⟩))
  rw [hn]; exact sl_enter ha

section
variable {β : Type} {P : Program} {n : Nat} {S : List (Nat × Value)} {F F' : Fz} {hs : List HP} {ks : List Kt} {fn : Func} {R : HP} {ρ : β → Fz → Value → Prop} {x r : β} {rs : List ResultVar} {vs : List Value} {i : Nat} {ms : List (Nat × Nat)}
theorem ret_post0M (hr : fn.results = rs.toArray) (ho : okM hs ms) (h : Res P S F' (shutM hs ms) rs vs) (hi : (shutM hs ms)[i]? = some R) (le : F ≤ F') (hρ : ρ x F' (tup vs)) :
    some x = some r → ∀ a w, Hd n (ms.map fun p => dmark p.2) S F' hs a w → LeavesInM Fence.wide 0 P fn a.tmps (fun e w' => ∃ F' v, F ≤ F' ∧ e = .returned v ∧ ρ r F' v ∧ SH w' F' R) a.defers .returning w := by
  intro e a w ha
  simp only [Option.some.injEq] at e
  subst e
  rw [ha.1.2.1]
  refine leavesM ha.2 ho fun w' h' => ?_
  exact ⟨_, run_results (n := n) (a := a) (D := a.defers) hr ⟨⟨ha.1.1, rfl, ha.1.2.2⟩, h'⟩ h, F', _, le, rfl, hρ, h'.only hi⟩
theorem GC.ret0M (ms : List (Nat × Nat)) (hr : fn.results = rs.toArray) (ho : okM hs ms) (h : Res P S F' (shutM hs ms) rs vs) (hi : (shutM hs ms)[i]? = some R) (le : F ≤ F') (hρ : ρ x F' (tup vs)) :
    GC κ P .ret ks (fnPost0M P fn F R ρ r) (Hd n (ms.map fun p => dmark p.2) S F' hs) (some x) r := GC.retQ (ret_post0M hr ho h hi le hρ)
theorem GE.end0M (ms : List (Nat × Nat)) (hr : fn.results = rs.toArray) (ho : okM hs ms) (h : Res P S F' (shutM hs ms) rs vs) (hi : (shutM hs ms)[i]? = some R) (le : F ≤ F') (hρ : ρ x F' (tup vs)) :
    GE κ P [] (fnPost0M P fn F R ρ r) (Hd n (ms.map fun p => dmark p.2) S F' hs) (some x) r := GE.nil (ret_post0M hr ho h hi le hρ)
end

end Go.Dec
