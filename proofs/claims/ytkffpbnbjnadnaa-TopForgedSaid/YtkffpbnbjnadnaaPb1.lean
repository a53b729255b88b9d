/- Own texts and texts printed by a program of mine, for topForged_holds; only what it reaches. -/
import Derived.Test.YtkffpbnbjnadnaaPb0
import Derived.RangeFuncNested
import Derived.RecoverIn
import Derived.LaidEql
import Derived.Scope
section
namespace Go.Dec
variable {κ : Option Nat}
theorem round_fen {κ : Option Nat} {n : Nat} {P : Program} {l : Nat} {f : FuncId} {tmps : Array Value} {assign body : Code} {w : World} {R : Ending → World → Prop} : RoundIn (fen κ) n P l f tmps assign body w R ↔ RoundIn Fence.wide n P l f tmps assign body w R := by
  cases κ with
  | none => exact Iff.rfl
  | some l => exact Iff.rfl
def YieldOK {α σ : Type} (P : Program) (l : Nat) (F : Fz) (arg : α → Fz → List Value → Prop) (Y : σ → Fz → HP) (y : α → σ → Option (σ × Bool)) : Prop :=
  (∀ s F0 F1 m, F ≤ F0 → F0 ≤ F1 → Y s F0 m → Y s F1 m) ∧
  ∀ F1, F ≤ F1 → ∀ x vs s r, arg x F1 vs → y x s = some r → ∀ w R, SH w F1 (star (Y s F1) R) →
    ∃ f tmps assign body, (Instr.yield l vs.toArray).run P w = .ok (.round l f tmps assign body) w ∧
      RoundIn Fence.wide 0 P l f tmps assign body w (fun e w' => ∃ F2, F1 ≤ F2 ∧ e = .returned (.bool r.2) ∧ SH w' F2 (star (Y r.1 F2) R))
def IterOK {α : Type} (P : Program) (F : Fz) (f : FuncId) (caps : List Value) (arg : α → Fz → List Value → Prop) (mk : ∀ σ : Type, (α → σ → Option (σ × Bool)) → σ → Option σ) : Prop :=
  (∀ args w, (callFunc f args).run P w = .ok (.enter f args) w) ∧
  ∀ (σ : Type) (l : Nat) (Y : σ → Fz → HP) (y : α → σ → Option (σ × Bool)) (F1 : Fz), F ≤ F1 → YieldOK P l F1 arg Y y → ∀ s, CT P f (.func (.yield l) #[] #[] :: caps).toArray F1 (Y s F1) (mk σ y s) (fun _ _ _ => True) (fun s' F' _ => Y s' F')
section
variable {β : Type} {P : Program} {ops : Array Oper} {rest : List Oper} {ks : List Kt} {Q : Exit → Act → World → Prop} {m : Option β} {r : β}
variable {n : Nat} {D : List Deferred} {S : List (Nat × Value)} {F : Fz} {hs : List HP}
theorem GL.ite {A : Act → World → Prop} {l : List Oper} {b : Bool} {m1 m2 : Option β} (h1 : b = true → GL κ P ops l ks Q A m1 r) (h2 : b = false → GL κ P ops l ks Q A m2 r) : GL κ P ops l ks Q A (if b then m1 else m2) r := by
  cases hb : b with
  | true => rw [if_pos rfl]; exact h1 hb
  | false => rw [if_neg (by simp)]; exact h2 hb
theorem GL.callY {α σ : Type} {l d i : Nat} {ty : TypeId} {pos : String} {after : Array Edge} {vs : List Value} {of : Operand} {os : List Operand} {T : Array TypeId} {Fb F0 : Fz} {arg : α → Fz → List Value → Prop} {Y : σ → Fz → HP} {y : α → σ → Option (σ × Bool)} {x : α} {s : σ} {g : σ × Bool → Option β}
    (hd : Nat.blt d n = true) (hy : YieldOK P l Fb arg Y y) (hf : evalS S of = some (.func (.yield l) #[] #[])) (ha : evalL S os = some vs) (hx : arg x F vs) (hi : hs[i]? = some (Y s F0)) (le0 : Fb ≤ F0) (le : F0 ≤ F)
    (k : ∀ p F', y x s = some p → F ≤ F' → GL κ P ops rest ks Q (Hd n D ((d, .bool p.2) :: S) F' (hs.set i (Y p.1 F'))) (g p) r) :
    GL κ P ops (⟨some d, .call ⟨.value of, os.toArray, T⟩, ty, pos, after, none⟩ :: rest) ks Q (Hd n D S F hs) ((y x s).bind g) r := by
  intro hm a w hA
  cases he : y x s with
  | none => rw [he] at hm; cases hm
  | some p =>
    rw [he] at hm
    obtain ⟨f, tmps, assign, body, hr, hround⟩ := hy.2 F (Fz.le_trans le0 le) x vs s p hx he w _ ((hA.2.pull hi).mono fun _ hm => star_mono_left (fun _ hm => hy.1 s F0 F _ le0 le hm) hm)
    unfold wpL
    rw [if_pos (by simp [Region.wanted])]
    refine ⟨.inr rfl, ?_⟩
    have e := evalL_map hA.1 ha
    have hrun : (execOp a.eval ⟨some d, .call ⟨.value of, os.toArray, T⟩, ty, pos, after, none⟩).run P w = .ok (.round l f tmps assign body) w := by
      simp [execOp, resolve, Deferred.ofValue, hA.1.eval hf, e, invoke, hr]
    rw [hrun]
    refine ⟨fun e => (by rw [fen_depth] at e; cases e), round_fen.2 (hround.mono ?_)⟩
    rintro _ w' ⟨F2, le2, rfl, hw⟩
    exact k p F2 he le2 hm _ _ ⟨hA.1.put hd _, SH.push hi hw⟩
theorem GE.yUp {α σ : Type} {l : Nat} {Fb F0 : Fz} {arg : α → Fz → List Value → Prop} {Y : σ → Fz → HP} {y : α → σ → Option (σ × Bool)} {s : σ} (i : Nat) (hy : YieldOK P l Fb arg Y y) (hi : hs[i]? = some (Y s F0)) (le0 : Fb ≤ F0) (le : F0 ≤ F)
    (k : GE κ P ks Q (Hd n D S F (hs.set i (Y s F))) m r) : GE κ P ks Q (Hd n D S F hs) m r :=
  GE.weak (fun _ _ h => ⟨h.1, SH.push hi ((h.2.pull hi).mono fun _ hm => star_mono_left (fun _ hm => hy.1 s F0 F _ le0 le hm) hm)⟩) k
end
def lready (L : Loop) : Obj := .loop { L with state := .ready, pending := none }
def lbusy (L : Loop) : Obj := .loop { L with state := .busy, pending := none }
def ldone (L : Loop) : Obj := .loop { L with state := .done, pending := some .ret }
def lover (L : Loop) (c : Option Code) : Obj := .loop { L with state := .exhausted, pending := c }
def yOf {α τ γ : Type} (body : α → τ → Option (Ctl τ γ)) : α → Ctl τ γ → Option (Ctl τ γ × Bool)
  | x, .next s => (body x s).map fun c => (c, match c with | .next _ => true | .done _ => false)
  | _, .done _ => none
def yS {τ γ : Type} (Fb : Fz) (l : Nat) (L : Loop) (I : τ → Fz → List HP → Prop) (J : γ → Fz → List HP → Prop) : Ctl τ γ → Fz → HP
  | .next s, F => fun m => ∃ F0 hs, Fb ≤ F0 ∧ F0 ≤ F ∧ I s F0 hs ∧ star (pt l (lready L)) (stars hs) m
  | .done b, F => fun m => ∃ F0 hs, Fb ≤ F0 ∧ F0 ≤ F ∧ J b F0 hs ∧ star (pt l (ldone L)) (stars hs) m
def RP {τ γ : Type} (l : Nat) (L : Loop) (I : τ → Fz → List HP → Prop) (J : γ → Fz → List HP → Prop) (F1 : Fz) (R : HP) (ctl : Ctl τ γ) : Exit → Act → World → Prop := fun e _ w =>
  match ctl with
  | .next s => e = .normal ∧ ∃ F2 hs, F1 ≤ F2 ∧ I s F2 hs ∧ SH w F2 (stars (pt l (lbusy L) :: R :: hs))
  | .done b => e = .ret ∧ ∃ F2 hs, F1 ≤ F2 ∧ J b F2 hs ∧ SH w F2 (stars (pt l (lbusy L) :: R :: hs))
def BP (P : Program) (l : Nat) (body : Code) (Q : Exit → Act → World → Prop) : Exit → Act → World → Prop := fun e a w =>
  e = .normal ∧ ∃ w₂, (Instr.beginRound l).run P w = .ok () w₂ ∧ body.wpIn (fen (some l)) 0 P Q a w₂
theorem run_begin {P : Program} {w : World} {l : Nat} {L : Loop} (h : w.heap[l]? = some (lready L)) : (Instr.beginRound l).run P w = .ok () (put w l (lbusy L)) :=
  run_beginRound (r := { L with state := .ready, pending := none }) h rfl
theorem run_endN {P : Program} {w : World} {l : Nat} {L : Loop} (h : w.heap[l]? = some (lbusy L)) : (Instr.endRound l none).run P w = .ok (.bool true) (put w l (lready L)) :=
  run_endRound (r := { L with state := .busy, pending := none }) none h
theorem run_endR {P : Program} {w : World} {l : Nat} {L : Loop} (h : w.heap[l]? = some (lbusy L)) : (Instr.endRound l (some .ret)).run P w = .ok (.bool false) (put w l (ldone L)) :=
  run_endRound (r := { L with state := .busy, pending := none }) (some .ret) h
theorem run_overN {P : Program} {w : World} {l : Nat} {L : Loop} (h : w.heap[l]? = some (lready L)) : (Instr.endLoop l).run P w = .ok none (put w l (lover L none)) :=
  run_endLoop (r := { L with state := .ready, pending := none }) h (by simp)
theorem run_overR {P : Program} {w : World} {l : Nat} {L : Loop} (h : w.heap[l]? = some (ldone L)) : (Instr.endLoop l).run P w = .ok (some .ret) (put w l (lover L (some .ret))) :=
  run_endLoop (r := { L with state := .done, pending := some .ret }) h (by simp)
section
variable {β : Type} {P : Program} {m : Option β} {r : β} {n : Nat} {D : List Deferred} {S : List (Nat × Value)} {F F1 : Fz} {hs : List HP} {R : HP}
variable {α τ γ : Type} {l : Nat} {L : Loop} {I : τ → Fz → List HP → Prop} {J : γ → Fz → List HP → Prop} {body assign : Code}
theorem GE.begin {Q : Exit → Act → World → Prop} (i : Nat) (hi : hs[i]? = some (pt l (lready L))) (k : GC (some l) P body [] Q (Hd n D S F (hs.set i (pt l (lbusy L)))) m r) : GE (some l) P [] (BP P l body Q) (Hd n D S F hs) m r :=
  fun hm a _ ha => ⟨rfl, _, run_begin (SH.ownedAt hi ha.2), k hm a _ ⟨ha.1, SH.putAt hi ha.2 _⟩⟩
theorem RP.ret {b : γ} {ctl : Ctl τ γ} {hs' : List HP} (le : F1 ≤ F) (h : J b F hs') (e : hs = pt l (lbusy L) :: R :: hs') : some (Ctl.done b) = some ctl → ∀ a w, Hd n D S F hs a w → RP l L I J F1 R ctl .ret a w := fun e' a w ha => by
  simp only [Option.some.injEq] at e'; subst e'; subst e; exact ⟨rfl, F, hs', le, h, ha.2⟩
theorem SH.three {w : World} {F : Fz} {p q : HP} {hs : List HP} (h : SH w F (stars (p :: q :: hs))) : SH w F (star (star p (stars hs)) q) :=
  h.mono fun m hm => by
    obtain ⟨m1, m2, d, s1, s2, hp, hq⟩ := hm
    obtain ⟨m3, m4, d', t1, t2, hq', hr⟩ := hq
    classical
    refine ⟨fun k => if m1 k = none then m4 k else m1 k, m3, ?_, ?_, t1.trans s2, ⟨m1, m4, d.sub (Mem.sub.refl _) t2, ?_, ?_, hp, hr⟩, hq'⟩
    · intro k
      by_cases e : m1 k = none
      · simp only [e, if_true]; exact (d' k).symm
      · simp only [e, if_false]
        rcases (d.sub (Mem.sub.refl m1) t1) k with h | h
        · exact absurd h e
        · exact .inr h
    · intro k o e
      by_cases e' : m1 k = none
      · simp only [e', if_true] at e; exact s2 k o (t2 k o e)
      · simp only [e', if_false] at e; exact s1 k o e
    · intro k o e; simp [e]
    · intro k o e
      have : m1 k = none := (d.sub (Mem.sub.refl m1) t2).none_left e
      simp [this, e]
theorem SH.three' {w : World} {F : Fz} {p q : HP} {hs : List HP} (h : SH w F (star (star p (stars hs)) q)) : SH w F (stars (p :: q :: hs)) :=
  h.mono fun m hm => by
    obtain ⟨m1, m2, d, s1, s2, ⟨m3, m4, d', t1, t2, hp, hr⟩, hq⟩ := hm
    classical
    refine ⟨m3, fun k => if m2 k = none then m4 k else m2 k, ?_, t1.trans s1, ?_, hp, m2, m4, ?_, ?_, ?_, hq, hr⟩
    · intro k
      by_cases e : m2 k = none
      · simp only [e, if_true]; exact d' k
      · simp only [e, if_false]
        rcases (d.sub t1 (Mem.sub.refl m2)) k with h | h
        · exact .inl h
        · exact absurd h e
    · intro k o e
      by_cases e' : m2 k = none
      · simp only [e', if_true] at e; exact s1 k o (t2 k o e)
      · simp only [e', if_false] at e; exact s2 k o e
    · exact (d.sub t2 (Mem.sub.refl m2)).symm
    · intro k o e; simp [e]
    · intro k o e
      have : m2 k = none := (d.sub t2 (Mem.sub.refl m2)).none_right e
      simp [this, e]
theorem SH.openNext {w : World} {F : Fz} {s : τ} {Fb : Fz} (h : SH w F (star (yS Fb l L I J (.next s) F) R)) : ∃ F0 hs, Fb ≤ F0 ∧ F0 ≤ F ∧ I s F0 hs ∧ SH w F (stars (pt l (lready L) :: R :: hs)) := by
  obtain ⟨m, ⟨m1, m2, d, s1, s2, ⟨F0, hs, h0, h1, hI, hp⟩, hq⟩, k⟩ := h
  exact ⟨F0, hs, h0, h1, hI, SH.three' ⟨m, ⟨m1, m2, d, s1, s2, hp, hq⟩, k⟩⟩
theorem SH.openDone {w : World} {F : Fz} {b : γ} {Fb : Fz} (h : SH w F (star (yS Fb l L I J (.done b) F) R)) : ∃ F0 hs, Fb ≤ F0 ∧ F0 ≤ F ∧ J b F0 hs ∧ SH w F (stars (pt l (ldone L) :: R :: hs)) := by
  obtain ⟨m, ⟨m1, m2, d, s1, s2, ⟨F0, hs, h0, h1, hI, hp⟩, hq⟩, k⟩ := h
  exact ⟨F0, hs, h0, h1, hI, SH.three' ⟨m, ⟨m1, m2, d, s1, s2, hp, hq⟩, k⟩⟩
theorem yieldOK {arg : α → Fz → List Value → Prop} {bm : α → τ → Option (Ctl τ γ)} {F : Fz} {S' : List Value → List (Nat × Value)} (hP : ∀ x F' vs, arg x F' vs → vs.length = L.params.size) (ha : L.assign = assign) (hb : L.body = body)
    (hsl : ∀ vs : List Value, vs.length = L.params.size → Sl n [] (S' vs) { tmps := (L.params.zip vs.toArray).foldl (fun tmps (t, a) => tmps.setIfInBounds t a) L.tmps, defers := [] })
    (round : ∀ F0 F1 x vs s ctl R hs, F ≤ F0 → F0 ≤ F1 → arg x F1 vs → I s F0 hs → GC (some l) P assign [] (BP P l body (RP l L I J F1 R ctl)) (Hd n [] (S' vs) F1 (pt l (lready L) :: R :: hs)) (bm x s) ctl) :
    YieldOK P l F arg (yS F l L I J) (yOf bm) := by
  refine ⟨fun c F0 F1 m _ h1 hm => ?_, fun F1 h1 x vs c r hx hy w R hw => ?_⟩
  · cases c with
    | next s => obtain ⟨G, hs, g0, g1, k⟩ := hm; exact ⟨G, hs, g0, Fz.le_trans g1 h1, k⟩
    | done b => obtain ⟨G, hs, g0, g1, k⟩ := hm; exact ⟨G, hs, g0, Fz.le_trans g1 h1, k⟩
  cases c with
  | done b => simp [yOf] at hy
  | next s =>
    simp only [yOf] at hy
    cases hc : bm x s with
    | none => rw [hc] at hy; cases hy
    | some ctl =>
      rw [hc] at hy
      simp only [Option.map_some, Option.some.injEq] at hy
      subst hy
      obtain ⟨F0, hs, h0, h01, hI, hw3⟩ := SH.openNext hw
      have hl : w.heap[l]? = some (lready L) := SH.ownedAt (k := 0) rfl hw3
      have hn := hP x F1 vs hx
      refine ⟨L.fn, _, L.assign, L.body, run_yield (r := { L with state := .ready, pending := none }) hl (by simpa using hn), ?_⟩
      refine roundIn_of_wpIn trivial ?_
      rw [ha, hb]
      have hg := round F0 F1 x vs s ctl R hs h0 h01 hx hI hc _ w ⟨hsl vs hn, hw3⟩
      refine wpIn_mono hg fun e a1 w1 hq => ?_
      obtain ⟨rfl, w2, hbr, hbody⟩ := hq
      refine ⟨w2, hbr, wpIn_mono hbody fun e a2 w3 hq => ?_⟩
      cases ctl with
      | next s' =>
        obtain ⟨rfl, F2, hs2, le, hI2, h⟩ := hq
        refine ⟨_, _, run_endN (SH.ownedAt (k := 0) rfl h), F2, le, rfl, (SH.three (SH.putAt (k := 0) rfl h (lready L))).mono fun m hm => star_mono_left (fun m hm => ?_) hm⟩
        exact ⟨F2, hs2, Fz.le_trans h1 le, Fz.le_refl _, hI2, hm⟩
      | done b =>
        obtain ⟨rfl, F2, hs2, le, hI2, h⟩ := hq
        refine ⟨_, _, run_endR (SH.ownedAt (k := 0) rfl h), F2, le, rfl, (SH.three (SH.putAt (k := 0) rfl h (ldone L))).mono fun m hm => star_mono_left (fun m hm => ?_) hm⟩
        exact ⟨F2, hs2, Fz.le_trans h1 le, Fz.le_refl _, hI2, hm⟩
end
abbrev dmark (q : Nat) : Deferred := { target := .collected q, args := #[] }
theorem sl_paramsL {n : Nat} : ∀ {ps : List Nat} {vs : List Value} {t : Array Value} {S : List (Nat × Value)}, (ps.all fun p => Nat.blt p n) = true → Sl n [] S { tmps := t, defers := [] } →
    Sl n [] ((ps.zip vs).reverse ++ S) { tmps := (ps.zip vs).foldl (fun tmps (t, a) => tmps.setIfInBounds t a) t, defers := [] }
  | [], _, _, _, _, h => h
  | _ :: _, [], _, _, _, h => h
  | p :: ps, v :: vs, t, S, hp, h => by
    simp only [List.all_cons, Bool.and_eq_true] at hp
    have h1 := Sl.put h hp.1 v
    have h2 := sl_paramsL (ps := ps) (vs := vs) (S := (p, v) :: S) (t := t.setIfInBounds p v) hp.2 h1
    simpa using h2
theorem sl_params {n : Nat} {ps : List Nat} {vs : List Value} {t : Array Value} {S : List (Nat × Value)} (hp : (ps.all fun p => Nat.blt p n) = true) (h : Sl n [] S { tmps := t, defers := [] }) :
    Sl n [] ((ps.zip vs).reverse ++ S) { tmps := (ps.toArray.zip vs.toArray).foldl (fun tmps (t, a) => tmps.setIfInBounds t a) t, defers := [] } := by
  rw [List.zip_toArray, List.foldl_toArray]; exact sl_paramsL hp h
section
variable {β : Type} {P : Program} {ks : List Kt} {Q : Exit → Act → World → Prop} {r : β} {n : Nat} {D : List Deferred} {S : List (Nat × Value)} {F : Fz} {hs : List HP}
variable {α τ γ : Type} {g : Operand} {ps : List Tmp} {assign body : Code} {f : FuncId} {caps : List Value} {mk : ∀ σ : Type, (α → σ → Option (σ × Bool)) → σ → Option σ} {arg : α → Fz → List Value → Prop} {bm : α → τ → Option (Ctl τ γ)} {s0 : τ} {k : Ctl τ γ → Option β}
theorem GC.rangeFunc (I : τ → Fz → List HP → Prop) (J : γ → Fz → List HP → Prop) (hg : evalS S g = some (.func (.func f) #[] caps.toArray)) (hit : IterOK P F f caps arg mk) (hps : (ps.all fun p => Nat.blt p n) = true) (harg : ∀ x F' vs, arg x F' vs → vs.length = ps.length)
    (hI : I s0 F hs)
    (round : ∀ l L F0 F1 x vs s ctl R hs', F ≤ F0 → F0 ≤ F1 → arg x F1 vs → I s F0 hs' → GC (some l) P assign [] (BP P l body (RP l L I J F1 R ctl)) (Hd n [] ((ps.zip vs).reverse ++ S) F1 (pt l (lready L) :: R :: hs')) (bm x s) ctl)
    (next : ∀ q F0 F' s hs', F ≤ F0 → F0 ≤ F' → mk _ (yOf bm) (.next s0) = some (.next s) → I s F0 hs' → GE none P ks Q (Hd n (dmark q :: D) S F' (pt q (.deferred (some [])) :: hs')) (k (.next s)) r)
    (done : ∀ q F0 F' b hs', F ≤ F0 → F0 ≤ F' → mk _ (yOf bm) (.next s0) = some (.done b) → J b F0 hs' → GC none P .ret ks Q (Hd n (dmark q :: D) S F' (pt q (.deferred (some [])) :: hs')) (k (.done b)) r) :
    GC none P (.rangeFunc g ps.toArray assign body) ks Q (Hd n D S F hs) ((mk (Ctl τ γ) (yOf bm) (.next s0)).bind k) r := by
  intro hm a w ha
  cases hl : mk (Ctl τ γ) (yOf bm) (.next s0) with
  | none => rw [hl] at hm; cases hm
  | some c =>
    rw [hl] at hm
    refine wpIn_rangeFunc fun fn _ => ?_
    let L : Loop := { state := .ready, pending := none, fn, tmps := a.tmps, params := ps.toArray, assign, body, defers := w.heap.size }
    have hw1 : SH ((w.alloc (.deferred (some []))).alloc (.loop L)) F (star (yS F (w.heap.size + 1) L I J (.next s0) F) (stars [pt w.heap.size (.deferred (some []))])) := by
      have h1 := (ha.2.alloc (.deferred (some []))).alloc (.loop L)
      rw [World.size_alloc] at h1
      have h2 : SH ((w.alloc (.deferred (some []))).alloc (.loop L)) F (stars (pt (w.heap.size + 1) (lready L) :: stars [pt w.heap.size (.deferred (some []))] :: hs)) := by
        refine h1.mono fun m hm => star_mono_right (fun m hm => star_mono_left (fun m hm => ?_) hm) hm
        exact ⟨m, fun _ => none, fun _ => .inr rfl, Mem.sub.refl _, fun _ _ e => by simp at e, hm, trivial⟩
      exact (SH.three h2).mono fun m hm => star_mono_left (fun m hm => ⟨F, hs, Fz.le_refl _, Fz.le_refl _, hI, hm⟩) hm
    have hY : YieldOK P (w.heap.size + 1) F arg (yS F (w.heap.size + 1) L I J) (yOf bm) := by
      refine yieldOK (S' := fun vs => (ps.zip vs).reverse ++ S) (assign := assign) (body := body) (fun x F' vs hx => by rw [harg x F' vs hx]; simp [L]) rfl rfl (fun vs _ => sl_params hps ⟨ha.1.1, rfl, ha.1.2.2⟩) ?_
      exact fun F0 F1 x vs s ctl R hs' h0 h1 hx hI => round _ L F0 F1 x vs s ctl R hs' h0 h1 hx hI
    have hc := hit.2 _ _ _ _ F (Fz.le_refl F) hY (.next s0) c hl _ _ hw1
    refine ⟨w.heap.size + 1, [dmark w.heap.size], (w.alloc (.deferred (some []))).alloc (.loop L), ⟨.fn (.func f) caps.toArray, #[.func (.yield (w.heap.size + 1)) #[] #[]]⟩, (w.alloc (.deferred (some []))).alloc (.loop L), f, (.func (.yield (w.heap.size + 1)) #[] #[] :: caps).toArray, (w.alloc (.deferred (some []))).alloc (.loop L), run_enterLoop_outer fn a.tmps ps.toArray assign body, ?_, fun _ _ => trivial, ?_, fun e => (by cases e), ?_⟩
    · have hc0 : a.eval (.const (.func (.yield (w.heap.size + 1)) #[] #[])) = .func (.yield (w.heap.size + 1)) #[] #[] := rfl
      simp [resolve, Deferred.ofValue, ha.1.eval hg, hc0]
    · simp [invoke, hit.1]
    · refine callsIn_wide.2 (hc.mono ?_)
      rintro _ w' ⟨F', v, le, rfl, -, hw'⟩
      cases c with
      | next s =>
        obtain ⟨F0, hs', h0, h1, hI', h3⟩ := SH.openNext hw'
        refine ⟨none, _, run_overN (SH.ownedAt (k := 0) rfl h3), ?_⟩
        have h4 : SH _ F' (stars (pt w.heap.size (.deferred (some [])) :: hs')) := (SH.eraseAt 0 (SH.putAt (k := 0) rfl h3 (lover L none))).mono fun m hm => star_mono_left (fun m hm => by obtain ⟨m1, _, _, s1, _, hp, _⟩ := hm; exact s1 _ _ hp) hm
        exact next w.heap.size F0 F' s hs' h0 h1 hl hI' hm _ _ ⟨⟨ha.1.1, by simp [ha.1.2.1], ha.1.2.2⟩, h4⟩
      | done b =>
        obtain ⟨F0, hs', h0, h1, hI', h3⟩ := SH.openDone hw'
        refine ⟨some .ret, _, run_overR (SH.ownedAt (k := 0) rfl h3), ?_⟩
        have h4 : SH _ F' (stars (pt w.heap.size (.deferred (some [])) :: hs')) := (SH.eraseAt 0 (SH.putAt (k := 0) rfl h3 (lover L (some .ret)))).mono fun m hm => star_mono_left (fun m hm => by obtain ⟨m1, _, _, s1, _, hp, _⟩ := hm; exact s1 _ _ hp) hm
        exact done w.heap.size F0 F' b hs' h0 h1 hl hI' hm _ _ ⟨⟨ha.1.1, by simp [ha.1.2.1], ha.1.2.2⟩, h4⟩
def foldY {α σ : Type} (y : α → σ → Option (σ × Bool)) : List α → σ → Option σ
  | [], s => some s
  | x :: xs, s => (y x s).bind fun p => if p.2 then foldY y xs p.1 else some p.1
def RepIter {α : Type} (P : Program) (F : Fz) (f : FuncId) (caps : List Value) (arg : α → Fz → List Value → Prop) (l : List α) : Prop := IterOK P F f caps arg (fun _ y s => foldY y l s)
def forL {α τ : Type} (b : α → τ → Option τ) : List α → τ → Option τ
  | [], s => some s
  | x :: xs, s => (b x s).bind (forL b xs)
def retL {α τ γ : Type} (b : α → τ → Option (Ctl τ γ)) : List α → τ → Option (Ctl τ γ)
  | [], s => some (.next s)
  | x :: xs, s => (b x s).bind fun c => match c with
    | .next s' => retL b xs s'
    | .done r => some (.done r)
theorem foldY_retL {α τ γ : Type} (b : α → τ → Option (Ctl τ γ)) : ∀ (l : List α) (s : τ), foldY (yOf b) l (.next s) = retL b l s
  | [], s => rfl
  | x :: xs, s => by
    simp only [foldY, yOf, retL]
    cases h : b x s with
    | none => rfl
    | some c =>
      cases c with
      | next s' => simpa using foldY_retL b xs s'
      | done r => simp
theorem GC.rangeRet {l : List α} (I : τ → Fz → List HP → Prop) (J : γ → Fz → List HP → Prop) (hg : evalS S g = some (.func (.func f) #[] caps.toArray)) (hit : RepIter P F f caps arg l) (hps : (ps.all fun p => Nat.blt p n) = true) (harg : ∀ x F' vs, arg x F' vs → vs.length = ps.length)
    (hI : I s0 F hs)
    (round : ∀ l L F0 F1 x vs s ctl R hs', F ≤ F0 → F0 ≤ F1 → arg x F1 vs → I s F0 hs' → GC (some l) P assign [] (BP P l body (RP l L I J F1 R ctl)) (Hd n [] ((ps.zip vs).reverse ++ S) F1 (pt l (lready L) :: R :: hs')) (bm x s) ctl)
    (next : ∀ q F0 F' s hs', F ≤ F0 → F0 ≤ F' → retL bm l s0 = some (.next s) → I s F0 hs' → GE none P ks Q (Hd n (dmark q :: D) S F' (pt q (.deferred (some [])) :: hs')) (k (.next s)) r)
    (done : ∀ q F0 F' b hs', F ≤ F0 → F0 ≤ F' → retL bm l s0 = some (.done b) → J b F0 hs' → GC none P .ret ks Q (Hd n (dmark q :: D) S F' (pt q (.deferred (some [])) :: hs')) (k (.done b)) r) :
    GC none P (.rangeFunc g ps.toArray assign body) ks Q (Hd n D S F hs) ((retL bm l s0).bind k) r := by
  rw [← foldY_retL] at next done ⊢
  exact GC.rangeFunc (mk := fun _ y s => foldY y l s) I J hg hit hps harg hI round next done
end
def okM : List HP → List (Nat × Nat) → Prop
  | _, [] => True
  | hs, (i, q) :: ms => hs[i]? = some (pt q (.deferred (some []))) ∧ okM (hs.set i (pt q (.deferred none))) ms
def shutM : List HP → List (Nat × Nat) → List HP
  | hs, [] => hs
  | hs, (i, q) :: ms => shutM (hs.set i (pt q (.deferred none))) ms
theorem leavesM {P : Program} {fn : Func} {tmps : Array Value} {R : Ending → World → Prop} {F : Fz} : ∀ {ms : List (Nat × Nat)} {hs : List HP} {w : World}, SH w F (stars hs) → okM hs ms →
    (∀ w', SH w' F (stars (shutM hs ms)) → ∃ v, (results fn tmps).run P w' = .ok v w' ∧ R (.returned v) w') → LeavesInM Fence.wide 0 P fn tmps R (ms.map fun p => dmark p.2) .returning w
  | [], hs, w, h, _, k => k w h
  | (i, q) :: ms, hs, w, h, ho, k => by
    refine ⟨by simp, .inl ⟨q, _, rfl, run_takeDeferred (SH.ownedAt ho.1 h), ?_⟩⟩
    exact leavesM (SH.putAt ho.1 h _) ho.2 k
def fnPost0M {β : Type} (P : Program) (fn : Func) (F : Fz) (R : HP) (ρ : β → Fz → Value → Prop) (r : β) : Exit → Act → World → Prop :=
  bodyPostM Fence.wide 0 P fn (fun e w' => ∃ F' v, F ≤ F' ∧ e = .returned v ∧ ρ r F' v ∧ SH w' F' R)
theorem CT0.enterM {β : Type} {P : Program} {f : FuncId} {fn : Func} {c : Code} {args : List Value} {F : Fz} {m : Option β} {ρ : β → Fz → Value → Prop} {n : Nat}
    (hf : P.funcs[f]? = some fn) (hb : fn.body = some c) (hn : fn.ntmps = n) (ha : Nat.ble args.length n = true)
    (k : ∀ r R, GC none P c [] (fnPost0M P fn F R ρ r) (Hd n [] (argS 0 args) F [R]) m r) : CT0 P f args.toArray F m ρ := by
  intro r hm w R hw
  refine (callsIn_wide (n := 0)).1 (callsIn_of_wp_marks hf hb trivial (k r R hm _ w ⟨?_, hw.one⟩))
  rw [hn]; exact sl_enter ha
section
variable {β : Type} {P : Program} {n : Nat} {S : List (Nat × Value)} {F F' : Fz} {hs : List HP} {ks : List Kt} {fn : Func} {R : HP} {ρ : β → Fz → Value → Prop} {x r : β} {rs : List ResultVar} {vs : List Value} {i : Nat} {ms : List (Nat × Nat)}
theorem ret_post0M (hr : fn.results = rs.toArray) (ho : okM hs ms) (h : Res P S F' (shutM hs ms) rs vs) (hi : (shutM hs ms)[i]? = some R) (le : F ≤ F') (hρ : ρ x F' (tup vs)) :
    some x = some r → ∀ a w, Hd n (ms.map fun p => dmark p.2) S F' hs a w → LeavesInM Fence.wide 0 P fn a.tmps (fun e w' => ∃ F' v, F ≤ F' ∧ e = .returned v ∧ ρ r F' v ∧ SH w' F' R) a.defers .returning w := by
  intro e a w ha
  simp only [Option.some.injEq] at e
  subst e
  rw [ha.1.2.1]
  refine leavesM ha.2 ho fun w' h' => ?_
  exact ⟨_, run_results (n := n) (a := a) (D := a.defers) hr ⟨⟨ha.1.1, rfl, ha.1.2.2⟩, h'⟩ h, F', _, le, rfl, hρ, h'.only hi⟩
theorem GC.ret0M (ms : List (Nat × Nat)) (hr : fn.results = rs.toArray) (ho : okM hs ms) (h : Res P S F' (shutM hs ms) rs vs) (hi : (shutM hs ms)[i]? = some R) (le : F ≤ F') (hρ : ρ x F' (tup vs)) :
    GC κ P .ret ks (fnPost0M P fn F R ρ r) (Hd n (ms.map fun p => dmark p.2) S F' hs) (some x) r := GC.retQ (ret_post0M hr ho h hi le hρ)
end
end Go.Dec
end

section
namespace Go.Dec
variable {κ : Option Nat}
def RefB (γ : Nat) (F : Fz) (i b : Nat) : Prop := γ < F.gn ∧ (F.gh γ)[i]? = some b
theorem RefB.mono {γ : Nat} {F F' : Fz} {i b : Nat} (h : RefB γ F i b) (le : F ≤ F') : RefB γ F' i b :=
  ⟨Nat.lt_of_lt_of_le h.1 le.gn, by
    obtain ⟨t, e⟩ := le.gh γ h.1
    rw [← e, List.getElem?_append_left (List.getElem?_eq_some_iff.1 h.2).1]; exact h.2⟩
theorem RefB.inj {γ : Nat} {F : Fz} {i b b' : Nat} (h : RefB γ F i b) (k : RefB γ F i b') : b = b' := by
  have := h.2.symm.trans k.2
  simpa using this
def RepPtr (γ : Nat) (F : Fz) (p : Option Addr) : Option Nat → Prop
  | none => p = none
  | some i => ∃ b, RefB γ F i b ∧ p = some ⟨b, 0, none⟩
theorem RepPtr.mono {γ : Nat} {F F' : Fz} {p : Option Addr} {x : Option Nat} (h : RepPtr γ F p x) (le : F ≤ F') : RepPtr γ F' p x := by
  cases x with
  | none => exact h
  | some i => obtain ⟨b, h1, h2⟩ := h; exact ⟨b, h1.mono le, h2⟩
theorem RepPtr.nil {γ : Nat} {F : Fz} : RepPtr γ F none none := rfl
theorem RepPtr.of {γ : Nat} {F : Fz} {i b : Nat} (h : RefB γ F i b) : RepPtr γ F (some ⟨b, 0, none⟩) (some i) := ⟨b, h, rfl⟩
def RepRef (γ : Nat) (F : Fz) (p : Option Nat) : Option Nat → Prop
  | none => p = none
  | some i => ∃ b, RefB γ F i b ∧ p = some b
theorem RepRef.mono {γ : Nat} {F F' : Fz} {p : Option Nat} {x : Option Nat} (h : RepRef γ F p x) (le : F ≤ F') : RepRef γ F' p x := by
  cases x with
  | none => exact h
  | some i => obtain ⟨b, h1, h2⟩ := h; exact ⟨b, h1.mono le, h2⟩
theorem RepRef.nil {γ : Nat} {F : Fz} : RepRef γ F none none := rfl
theorem RepRef.of {γ : Nat} {F : Fz} {i b : Nat} (h : RefB γ F i b) : RepRef γ F (some b) (some i) := ⟨b, h, rfl⟩
theorem star_assoc {p q r : HP} {m : Mem} (h : star (star p q) r m) : star p (star q r) m := by
  obtain ⟨m1, m2, d, s1, s2, ⟨m3, m4, d', t1, t2, hp, hq⟩, hr⟩ := h
  classical
  refine ⟨m3, fun k => if m2 k = none then m4 k else m2 k, ?_, t1.trans s1, ?_, hp, m4, m2, (d.sub t2 (Mem.sub.refl m2)), ?_, ?_, hq, hr⟩
  · intro k
    by_cases e : m2 k = none
    · simp only [e, if_true]; exact d' k
    · simp only [e, if_false]
      rcases (d.sub t1 (Mem.sub.refl m2)) k with h | h
      · exact .inl h
      · exact absurd h e
  · intro k o e
    by_cases e' : m2 k = none
    · simp only [e', if_true] at e; exact s1 k o (t2 k o e)
    · simp only [e', if_false] at e; exact s2 k o e
  · intro k o e
    have : m2 k = none := (d.sub t2 (Mem.sub.refl m2)).none_right e
    simp [this, e]
  · intro k o e; simp [e]
theorem star_assoc' {p q r : HP} {m : Mem} (h : star p (star q r) m) : star (star p q) r m := by
  have h1 := star_swap h
  obtain ⟨m1, m2, d, s1, s2, hq, m3, m4, d', t1, t2, hp, hr⟩ := h1
  classical
  refine ⟨fun k => if m1 k = none then m3 k else m1 k, m4, ?_, ?_, t2.trans s2, ⟨m3, m1, (d.sub (Mem.sub.refl m1) t1).symm, ?_, ?_, hp, hq⟩, hr⟩
  · intro k
    by_cases e : m1 k = none
    · simp only [e, if_true]; exact d' k
    · simp only [e, if_false]
      rcases (d.sub (Mem.sub.refl m1) t2) k with h | h
      · exact absurd h e
      · exact .inr h
  · intro k o e
    by_cases e' : m1 k = none
    · simp only [e', if_true] at e; exact s2 k o (t1 k o e)
    · simp only [e', if_false] at e; exact s1 k o e
  · intro k o e
    have : m1 k = none := (d.sub (Mem.sub.refl m1) t1).none_left e
    simp [this, e]
  · intro k o e; simp [e]
theorem stars_imp : ∀ {l l' : List HP} {m : Mem}, l.length = l'.length → (∀ (i : Nat) (p q : HP), l[i]? = some p → l'[i]? = some q → ∀ m, p m → q m) → stars l m → stars l' m
  | [], [], _, _, _, h => h
  | [], _ :: _, _, hl, _, _ => by simp at hl
  | _ :: _, [], _, hl, _, _ => by simp at hl
  | p :: l, q :: l', m, hl, hi, h => by
    have h1 : ∀ m, p m → q m := hi 0 p q rfl rfl
    have h2 : ∀ m, stars l m → stars l' m := fun m hm => stars_imp (by simpa using hl) (fun i p q e1 e2 => hi (i + 1) p q (by simpa using e1) (by simpa using e2)) hm
    exact star_mono_left h1 (star_mono_right h2 h)
def pickR : List Nat → List HP → List HP
  | [], _ => []
  | k :: ks, hs => (hs[k]?).getD emp :: pickR ks (hs.eraseIdx k)
theorem stars_pick : ∀ {ks : List Nat} {hs : List HP} {m : Mem}, stars hs m → stars (pickR ks hs) m
  | [], _, _, _ => trivial
  | k :: ks, hs, m, h => by
    cases e : hs[k]? with
    | some p => simp only [pickR, e, Option.getD_some]; exact star_mono_right (fun _ h => stars_pick h) (stars_pull e h)
    | none => simp only [pickR, e, Option.getD_none]; exact star_mono_right (fun _ h => stars_pick h) (stars_erase h)
section
variable {α : Type} {γ : Nat} {C : Fz → Nat → α → HP} {F F0 F' : Fz} {xs : List α} {w : World} {H : HP} {j b : Nat} {x y : α}
def arena (γ : Nat) (C : Fz → Nat → α → HP) (F : Fz) (xs : List α) : HP := fun m => ∃ bs, bs.length = xs.length ∧ star (gho γ bs) (stars (List.zipWith (C F) bs xs)) m
def hole (γ : Nat) (C : Fz → Nat → α → HP) (F : Fz) (j b : Nat) (xs : List α) : HP := fun m => ∃ bs, bs.length = xs.length ∧ bs[j]? = some b ∧ star (gho γ bs) (stars ((List.zipWith (C F) bs xs).eraseIdx j)) m
def Stays (C : Fz → Nat → α → HP) : Prop := ∀ F F' b x m, F ≤ F' → C F b x m → C F' b x m
theorem zip_get {bs : List Nat} {f : Nat → α → HP} (h1 : bs[j]? = some b) (h2 : xs[j]? = some x) : (List.zipWith f bs xs)[j]? = some (f b x) := by
  rw [List.getElem?_zipWith, h1, h2]
theorem zip_set : ∀ {bs : List Nat} {f : Nat → α → HP} {xs : List α} {j b : Nat} {y : α}, bs[j]? = some b → (List.zipWith f bs xs).set j (f b y) = List.zipWith f bs (xs.set j y)
  | [], _, _, _, _, _, h => by simp at h
  | c :: bs, f, [], j, b, y, _ => by simp
  | c :: bs, f, x :: xs, 0, b, y, h => by simp at h; subst h; simp
  | c :: bs, f, x :: xs, j + 1, b, y, h => by
    simp only [List.getElem?_cons_succ] at h
    simp [zip_set h]
theorem SH.arena_up (hC : Stays C) (le : F0 ≤ F') (h : SH w F (star (arena γ C F0 xs) H)) : SH w F (star (arena γ C F' xs) H) :=
  h.mono fun m hm => star_mono_left (fun m ⟨bs, hl, hs⟩ => ⟨bs, hl, star_mono_right (fun m hm => stars_imp (by simp) (fun i p q e1 e2 m hp => by
    rw [List.getElem?_zipWith] at e1 e2
    cases hb : bs[i]? with
    | none => rw [hb] at e1; simp at e1
    | some b =>
      cases hx : xs[i]? with
      | none => rw [hb, hx] at e1; simp at e1
      | some x => rw [hb, hx] at e1 e2; simp at e1 e2; subst e1; subst e2; exact hC _ _ _ _ _ le hp) hm) hs⟩) hm
theorem SH.takeR (h : SH w F (star (arena γ C F0 xs) H)) (hb : RefB γ F j b) (hx : xs[j]? = some x) : SH w F (star (C F0 b x) (star (hole γ C F0 j b xs) H)) := by
  obtain ⟨m, ⟨m1, m2, d, s1, s2, ⟨bs, hl, hz⟩, hq⟩, k⟩ := h
  have hbs : bs[j]? = some b := by
    obtain ⟨m3, m4, d', t1, t2, hg, _⟩ := hz
    obtain ⟨_, e⟩ := k.gst γ _ (s1 _ _ (t1 _ _ hg))
    simp only [Cell.gh.injEq] at e
    rw [e]; exact hb.2
  refine ⟨m, star_assoc ⟨m1, m2, d, s1, s2, ?_, hq⟩, k⟩
  have h1 := star_swap (star_mono_right (fun _ hm => stars_pull (zip_get (f := C F0) hbs hx) hm) hz)
  exact star_mono_right (fun m hm => ⟨bs, hl, hbs, hm⟩) h1
theorem SH.giveR (hC : Stays C) (le : F0 ≤ F') (h : SH w F (star (C F' b y) (star (hole γ C F0 j b xs) H))) (hj : j < xs.length) : SH w F (star (arena γ C F' (xs.set j y)) H) := by
  refine h.mono fun m hm => ?_
  refine star_mono_left (fun m hm => ?_) (star_assoc' hm)
  obtain ⟨m1, m2, d, s1, s2, hp, bs, hl, hbs, hz⟩ := hm
  refine ⟨bs, by simpa using hl, ?_⟩
  have h1 : star (C F' b y) (star (gho γ bs) (stars ((List.zipWith (C F0) bs xs).eraseIdx j))) m := ⟨m1, m2, d, s1, s2, hp, hz⟩
  refine star_mono_right (fun m hm => ?_) (star_swap h1)
  have hx : xs[j]? = some xs[j] := by simp [hj]
  have h2 : star (C F' b y) (stars ((List.zipWith (C F') bs xs).eraseIdx j)) m := star_mono_right (fun m hm => stars_imp (by simp [List.length_eraseIdx]) (fun i p q e1 e2 m hp => by
    rw [List.getElem?_eraseIdx] at e1 e2
    have key : ∀ i', (List.zipWith (C F0) bs xs)[i']? = some p → (List.zipWith (C F') bs xs)[i']? = some q → q m := fun i' e1 e2 => by
      rw [List.getElem?_zipWith] at e1 e2
      cases hb : bs[i']? with
      | none => rw [hb] at e1; simp at e1
      | some b =>
        cases hx : xs[i']? with
        | none => rw [hb, hx] at e1; simp at e1
        | some x => rw [hb, hx] at e1 e2; simp at e1 e2; subst e1; subst e2; exact hC _ _ _ _ _ le hp
    split at e1
    · rename_i hlt; rw [if_pos hlt] at e2; exact key i e1 e2
    · rename_i hlt; rw [if_neg hlt] at e2; exact key (i + 1) e1 e2) hm) hm
  rw [← zip_set (f := C F') hbs]
  exact stars_push (zip_get (f := C F') hbs hx) h2
theorem SH.intoR (hC : Stays C) {p : HP} (le : F0 ≤ F) (h : SH w F (star p (star (arena γ C F0 xs) H))) (hp : ∀ F' m, F ≤ F' → p m → C F' b x m) : ∃ F', F ≤ F' ∧ RefB γ F' xs.length b ∧ SH w F' (star (arena γ C F' (xs ++ [x])) H) := by
  obtain ⟨m, hm, k⟩ := h
  obtain ⟨m1, m2, d, s1, s2, ⟨bs, hl, hz⟩, hq⟩ := star_swap hm
  have h1 : SH w F (star (gho γ bs) (star (stars (List.zipWith (C F0) bs xs)) (star p H))) := ⟨m, star_assoc ⟨m1, m2, d, s1, s2, hz, hq⟩, k⟩
  obtain ⟨g1, g2⟩ := h1.ghostAt
  obtain ⟨le', h2⟩ := h1.growG b
  refine ⟨F.growG γ b, le', ⟨g1, ?_⟩, ?_⟩
  · show (if γ = γ then F.gh γ ++ [b] else F.gh γ)[xs.length]? = some b
    rw [if_pos rfl, g2, ← hl]; simp
  · refine h2.mono fun m hm => ?_
    have h3 : star (gho γ (bs ++ [b])) (star p (star (stars (List.zipWith (C F0) bs xs)) H)) m := star_mono_right (fun m hm => star_swap hm) hm
    refine star_mono_left (fun m hm => ?_) (star_assoc' (star_mono_right (fun m hm => star_assoc' hm) h3))
    refine ⟨bs ++ [b], by simp [hl], star_mono_right (fun m hm => ?_) hm⟩
    have hle : F0 ≤ F.growG γ b := Fz.le_trans le le'
    have h4 : stars (p :: List.zipWith (C F0) bs xs) m := hm
    have h5 : stars (C (F.growG γ b) b x :: List.zipWith (C (F.growG γ b)) bs xs) m := stars_imp (by simp) (fun i p' q e1 e2 m hp' => by
      cases i with
      | zero => simp at e1 e2; subst e1; subst e2; exact hp _ _ le' hp'
      | succ i =>
        simp only [List.getElem?_cons_succ] at e1 e2
        rw [List.getElem?_zipWith] at e1 e2
        cases hb : bs[i]? with
        | none => rw [hb] at e1; simp at e1
        | some b =>
          cases hx : xs[i]? with
          | none => rw [hb, hx] at e1; simp at e1
          | some x => rw [hb, hx] at e1 e2; simp at e1 e2; subst e1; subst e2; exact hC _ _ _ _ _ hle hp') h4
    have h6 := stars_snoc h5
    rw [List.zipWith_append (by simpa using hl)]
    exact h6
where
  stars_snoc : ∀ {l : List HP} {p : HP} {m : Mem}, stars (p :: l) m → stars (l ++ [p]) m
    | [], _, _, h => h
    | q :: l, p, m, h => star_mono_right (fun _ h => stars_snoc h) (star_swap h)
end
def cellR {α : Type} (T : TypeId) (c : ERel α) (F : Fz) (b : Nat) (x : α) : HP := fun m => ∃ vs, (∀ F', F ≤ F' → c F' x vs) ∧ pt b (.cells vs.toArray T) m
theorem cellR.stays {α : Type} {T : TypeId} {c : ERel α} : Stays (cellR T c) := fun _ _ _ _ _ le ⟨vs, h, k⟩ => ⟨vs, fun G le' => h G (Fz.le_trans le le'), k⟩
def GG {β : Type} (X : Act → World → Prop) (A : Act → World → Prop) (m : Option β) (r : β) : Prop := m = some r → ∀ a w, A a w → X a w
section
variable {β : Type} {X : Act → World → Prop} {m : Option β} {r : β} {n : Nat} {D : List Deferred} {S : List (Nat × Value)} {F F0 : Fz} {hs hs' : List HP}
variable {α : Type} {γ : Nat} {C : Fz → Nat → α → HP} {xs : List α} {j b : Nat} {x y : α}
theorem GG.pick (ks : List Nat) (h : pickR ks hs = hs') (k : GG X (Hd n D S F hs') m r) : GG X (Hd n D S F hs) m r :=
  fun hm a w ha => k hm a w ⟨ha.1, h ▸ ha.2.mono fun _ => stars_pick⟩
theorem GG.upR (i : Nat) (hC : Stays C) (le : F0 ≤ F) (hi : hs[i]? = some (arena γ C F0 xs)) (k : GG X (Hd n D S F (hs.set i (arena γ C F xs))) m r) : GG X (Hd n D S F hs) m r :=
  fun hm a w ha => k hm a w ⟨ha.1, SH.push hi ((ha.2.pull hi).arena_up hC le)⟩
end
end Go.Dec
end

section
namespace Go.Dec
variable {κ : Option Nat}
inductive Out (ε β : Type) where
  | ok (b : β)
  | pan (x : ε)
def leftR : List Nat → List HP → List HP
  | [], hs => hs
  | k :: ks, hs => leftR ks (hs.eraseIdx k)
theorem stars_part : ∀ {ks : List Nat} {hs : List HP} {m : Mem}, stars hs m → star (stars (pickR ks hs)) (stars (leftR ks hs)) m
  | [], _, m, h => ⟨fun _ => none, m, fun _ => .inl rfl, fun _ _ e => by simp at e, Mem.sub.refl _, trivial, h⟩
  | k :: ks, hs, m, h => by
    have h1 : star ((hs[k]?).getD emp) (stars (hs.eraseIdx k)) m := by
      cases e : hs[k]? with
      | some p => exact stars_pull e h
      | none => exact stars_erase h
    exact star_assoc' (star_mono_right (fun _ h => stars_part (ks := ks) h) h1)
theorem stars_app : ∀ {l k : List HP} {m : Mem}, star (stars l) (stars k) m → stars (l ++ k) m
  | [], _, _, ⟨_, _, _, _, s2, _, h⟩ => stars_sub s2 h
  | _p :: _l, _k, _m, h => star_mono_right (fun _ h => stars_app h) (star_assoc h)
where
  stars_sub : ∀ {l : List HP} {m n : Mem}, Mem.sub m n → stars l m → stars l n
    | [], _, _, _, _ => trivial
    | _ :: _, _, _, s, ⟨m1, m2, d, s1, s2, hp, hq⟩ => ⟨m1, m2, d, s1.trans s, s2.trans s, hp, hq⟩
theorem stars_app' : ∀ {l k : List HP} {m : Mem}, stars (l ++ k) m → star (stars l) (stars k) m
  | [], _, m, h => ⟨fun _ => none, m, fun _ => .inl rfl, fun _ _ e => by simp at e, Mem.sub.refl _, trivial, h⟩
  | p :: l, k, m, h => star_assoc' (star_mono_right (fun _ h => stars_app' h) h)
theorem stars_one {p : HP} {m : Mem} (h : p m) : stars [p] m := ⟨m, fun _ => none, fun _ => .inr rfl, Mem.sub.refl _, fun _ _ e => by simp at e, h, trivial⟩
def CTX {ε β : Type} (P : Program) (penc : ε → Value) (f : FuncId) (args : Array Value) (F : Fz) (Hs : List HP) (m : Option (Out ε β)) (ρ : β → Fz → Value → Prop) (Hs' : β → Fz → Value → List HP) : Prop :=
  ∀ r, m = some r → ∀ w R, SH w F (star (stars Hs) R) → Calls P f args w (fun e w' => ∃ F', F ≤ F' ∧ match r with
    | .ok x => ∃ v, e = .returned v ∧ ρ x F' v ∧ SH w' F' (star (stars (Hs' x F' v)) R)
    | .pan x => e = .panicked [{ v := penc x, recovered := false }] ∧ SH w' F' R)
def fnPostX {ε β : Type} (P : Program) (penc : ε → Value) (fn : Func) (F : Fz) (R : HP) (ρ : β → Fz → Value → Prop) (Hs' : β → Fz → Value → List HP) (r : Out ε β) : Exit → Act → World → Prop :=
  bodyPost P fn (fun e w' => ∃ F', F ≤ F' ∧ match r with
    | .ok x => ∃ v, e = .returned v ∧ ρ x F' v ∧ SH w' F' (star (stars (Hs' x F' v)) R)
    | .pan x => e = .panicked [{ v := penc x, recovered := false }] ∧ SH w' F' R)
theorem CTX.enter {ε β : Type} {P : Program} {penc : ε → Value} {f : FuncId} {fn : Func} {c : Code} {args : List Value} {F : Fz} {Hs : List HP} {m : Option (Out ε β)} {ρ : β → Fz → Value → Prop} {Hs' : β → Fz → Value → List HP} {n : Nat}
    (hf : P.funcs[f]? = some fn) (hb : fn.body = some c) (hn : fn.ntmps = n) (ha : Nat.ble args.length n = true)
    (k : ∀ r R, GC none P c [] (fnPostX P penc fn F R ρ Hs' r) (Hd n [] (argS 0 args) F (Hs ++ [R])) m r) : CTX P penc f args.toArray F Hs m ρ Hs' := by
  intro r hm w R hw
  refine calls_of_wp hf hb (wpIn_wide.1 (k r R hm _ w ⟨?_, hw.mono fun m hm => stars_app (star_mono_right (fun _ h => stars_one h) hm)⟩))
  rw [hn]; exact sl_enter ha
section
variable {ε β : Type} {P : Program} {penc : ε → Value} {n : Nat} {S : List (Nat × Value)} {F F' : Fz} {hs : List HP} {ks : List Kt} {fn : Func} {R : HP} {ρ : β → Fz → Value → Prop} {Hs' : β → Fz → Value → List HP} {x : β} {r : Out ε β} {rs : List ResultVar} {vs : List Value}
theorem star_one {A : HP} {m : Mem} (h : star A (stars [R]) m) : star A R m := by
  obtain ⟨m1, m2, d, s1, s2, ha, m3, _, _, t1, _, hr, _⟩ := h
  exact ⟨m1, m3, d.sub (Mem.sub.refl _) t1, s1, t1.trans s2, ha, hr⟩
theorem ret_postX (is : List Nat) (hr : fn.results = rs.toArray) (h : Res P S F' hs rs vs) (hi : pickR is hs = Hs' x F' (tup vs) ++ [R]) (le : F ≤ F') (hρ : ρ x F' (tup vs)) :
    some (Out.ok x) = some r → ∀ a w, Hd n [] S F' hs a w → fnPostX P penc fn F R ρ Hs' r .ret a w := by
  intro e a w ha
  simp only [Option.some.injEq] at e
  subst e
  refine ⟨ha.1.2.1, _, run_results hr ha h, F', le, _, rfl, hρ, ha.2.mono fun m hm => ?_⟩
  have h1 := stars_pick (ks := is) hm
  rw [hi] at h1
  exact star_one (stars_app' h1)
theorem GC.retX (is : List Nat) (hr : fn.results = rs.toArray) (h : Res P S F' hs rs vs) (hi : pickR is hs = Hs' x F' (tup vs) ++ [R]) (le : F ≤ F') (hρ : ρ x F' (tup vs)) :
    GC κ P .ret ks (fnPostX P penc fn F R ρ Hs' r) (Hd n [] S F' hs) (some (.ok x)) r := GC.retQ (ret_postX is hr h hi le hρ)
theorem GE.endX (is : List Nat) (hr : fn.results = rs.toArray) (h : Res P S F' hs rs vs) (hi : pickR is hs = Hs' x F' (tup vs) ++ [R]) (le : F ≤ F') (hρ : ρ x F' (tup vs)) :
    GE κ P [] (fnPostX P penc fn F R ρ Hs' r) (Hd n [] S F' hs) (some (.ok x)) r := GE.nil (ret_postX is hr h hi le hρ)
theorem pan_postX {q : ε} {i : Nat} (hi : hs[i]? = some R) (le : F ≤ F') :
    some (Out.pan q) = some r → ∀ a w, Hd n [] S F' hs a w → fnPostX P penc fn F R ρ Hs' r (.panic [{ v := penc q, recovered := false }]) a w := by
  intro e a w ha
  simp only [Option.some.injEq] at e
  subst e
  exact ⟨ha.1.2.1, F', le, rfl, ha.2.only hi⟩
end
section
variable {ε β : Type} {P : Program} {penc : ε → Value} {ops : Array Oper} {rest : List Oper} {ks : List Kt} {Q : Exit → Act → World → Prop} {m : Option β} {r : β}
variable {n : Nat} {D : List Deferred} {S : List (Nat × Value)} {F F0 : Fz} {hs : List HP}
theorem GL.panicQ {dst : Option Tmp} {ox : Operand} {ty : TypeId} {pos : String} {after : Array Edge} {T : TypeId} {v : Value} (hx : evalS S ox = some (.iface T v))
    (h : m = some r → ∀ a w, Hd n D S F hs a w → Q (.panic [{ v := .iface T v, recovered := false }]) a w) : GL κ P ops (⟨dst, .panic ox, ty, pos, after, none⟩ :: rest) ks Q (Hd n D S F hs) m r := by
  intro hm a w ha
  unfold wpL
  rw [if_pos (by simp [Region.wanted])]
  refine ⟨.inr rfl, ?_⟩
  have hrun : (execOp a.eval ⟨dst, .panic ox, ty, pos, after, none⟩).run P w = .halt (.panic (.iface T v)) w := by
    simp [execOp, Instr.panic, ha.1.eval hx, goPanic]
  rw [hrun]
  exact interp_panic (h hm a w ha)
end
end Go.Dec
end

section
namespace Go.Dec
variable {κ : Option Nat}
theorem RepPtr.at {γ : Nat} {F : Fz} {p : Option Addr} {x : Option Nat} {i : Nat} (h : RepPtr γ F p x) (e : x = some i) : ∃ b, RefB γ F i b ∧ p = some ⟨b, 0, none⟩ := by subst e; exact h
theorem RepRef.at {γ : Nat} {F : Fz} {p : Option Nat} {x : Option Nat} {i : Nat} (h : RepRef γ F p x) (e : x = some i) : ∃ b, RefB γ F i b ∧ p = some b := by subst e; exact h
theorem get_set {α : Type} {xs ys : List α} {j : Nat} {x y : α} (h : xs[j]? = some x) (e : ys = xs.set j y) : ys[j]? = some y := by
  subst e; rw [List.getElem?_set]; simp [(List.getElem?_eq_some_iff.1 h).1]
section
variable {α : Type} {γ T j b : Nat} {c : ERel α} {xs : List α} {x : α} {F F0 : Fz} {w : World} {H : HP}
theorem SH.arenaAt (h : SH w F (star (arena γ (cellR T c) F0 xs) H)) (hb : RefB γ F j b) (hx : xs[j]? = some x) : ∃ vs : List Value, (∀ F', F0 ≤ F' → c F' x vs) ∧ w.heap[b]? = some (.cells vs.toArray T) := by
  obtain ⟨m, ⟨m1, _, _, s1, _, ⟨vs, h1, h2⟩, _⟩, k⟩ := h.takeR hb hx
  exact ⟨vs, h1, k.ownO (s1 _ _ h2)⟩
theorem SH.arenaPut {o : Nat} {us : List Value} {x' : α} {G : Fz} (h : SH w F (star (arena γ (cellR T c) F0 xs) H)) (hb : RefB γ F j b) (hx : xs[j]? = some x) (le0 : F0 ≤ G) (hr : ∀ F' vs, G ≤ F' → c F' x vs → c F' x' (setMany vs o us)) :
    ∃ vs : List Value, (∀ F', F0 ≤ F' → c F' x vs) ∧ w.heap[b]? = some (.cells vs.toArray T) ∧ SH (Dec.put w b (.cells (setMany vs o us).toArray T)) F (star (arena γ (cellR T c) G (xs.set j x')) H) := by
  obtain ⟨m, ⟨m1, m2, d, s1, s2, ⟨vs, h1, h2⟩, h3⟩, k⟩ := h.takeR hb hx
  have hs : SH w F (star (pt b (.cells vs.toArray T)) (star (hole γ (cellR T c) F0 j b xs) H)) := ⟨m, ⟨m1, m2, d, s1, s2, h2, h3⟩, k⟩
  refine ⟨vs, h1, k.ownO (s1 _ _ h2), ?_⟩
  have h4 := hs.put (o' := .cells (setMany vs o us).toArray T)
  refine SH.giveR (F0 := F0) (b := b) cellR.stays le0 (h4.mono fun m hm => star_mono_left (fun m hm => ⟨setMany vs o us, fun F' le => hr F' vs le (h1 F' (Fz.le_trans le0 le)), hm⟩) hm) (List.getElem?_eq_some_iff.1 hx).1
end
section
variable {β : Type} {P : Program} {ops : Array Oper} {rest : List Oper} {ks : List Kt} {Q : Exit → Act → World → Prop} {m : Option β} {r : β}
variable {n : Nat} {D : List Deferred} {S : List (Nat × Value)} {F F0 : Fz} {hs : List HP}
variable {d : Nat} {d' : Option Nat} {ty t e : TypeId} {pos : String} {after : Array Edge} {ox oy oz : Operand} {v : Value}
theorem GL.nilCheckR {a : Addr} {p : Option Addr} (hp : p = some a) (hd : Nat.blt d n = true) (hx : evalS S ox = some (.pointer p)) (k : GL κ P ops rest ks Q (Hd n D ((d, .pointer (some a)) :: S) F hs) m r) :
    GL κ P ops (⟨some d, .nilCheck ox, ty, pos, after, none⟩ :: rest) ks Q (Hd n D S F hs) m r := by
  subst hp; exact GL.nilCheck hd hx k
section
variable {α : Type} {γ T j b o : Nat} {c : ERel α} {xs : List α} {x : α}
theorem GL.loadR {Φ : Value → Prop} (i : Nat) (hi : hs[i]? = some (arena γ (cellR T c) F0 xs)) (le0 : F0 ≤ F) (hb : RefB γ F j b) (hel : xs[j]? = some x) (hd : Nat.blt d n = true) (hA : ∀ w, (isAgg t).run P w = .ok false w)
    (hx : evalS S ox = some (.pointer (some ⟨b, o, none⟩))) (hg : ∀ vs, c F x vs → ∃ v, vs[o]? = some v ∧ Φ v) (k : ∀ v, Φ v → GL κ P ops rest ks Q (Hd n D ((d, v) :: S) F hs) m r) :
    GL κ P ops (⟨some d, .load t ox, ty, pos, after, none⟩ :: rest) ks Q (Hd n D S F hs) m r := by
  refine GL.step rfl (.inr rfl) fun hm a w ha => ?_
  obtain ⟨vs, h1, h2⟩ := (ha.2.pull hi).arenaAt hb hel
  obtain ⟨v, hv, hΦ⟩ := hg _ (h1 F le0)
  refine ⟨v, w, ?_, k v hΦ hm _ _ ⟨ha.1.put hd _, ha.2⟩⟩
  simp [execOp, ha.1.eval hx, run_load1 hA (by rw [cell_of_heap h2]; exact hv)]
theorem GL.loadRA {z : Nat} {Φ : List Value → Prop} (i : Nat) (hi : hs[i]? = some (arena γ (cellR T c) F0 xs)) (le0 : F0 ≤ F) (hb : RefB γ F j b) (hel : xs[j]? = some x) (hd : Nat.blt d n = true) (hA : ∀ w, (isAgg t).run P w = .ok true w) (hz : ∀ w, (sizeOf t).run P w = .ok z w)
    (hx : evalS S ox = some (.pointer (some ⟨b, o, none⟩))) (hg : ∀ vs, c F x vs → ∃ us, (vs.drop o).take z = us ∧ us.length = z ∧ Φ us) (k : ∀ us, Φ us → GL κ P ops rest ks Q (Hd n D ((d, .agg us.toArray) :: S) F hs) m r) :
    GL κ P ops (⟨some d, .load t ox, ty, pos, after, none⟩ :: rest) ks Q (Hd n D S F hs) m r := by
  refine GL.step rfl (.inr rfl) fun hm a w ha => ?_
  obtain ⟨vs, h1, h2⟩ := (ha.2.pull hi).arenaAt hb hel
  obtain ⟨us, hv, hul, hΦ⟩ := hg _ (h1 F le0)
  refine ⟨.agg us.toArray, w, ?_, k us hΦ hm _ _ ⟨ha.1.put hd _, ha.2⟩⟩
  simp [execOp, ha.1.eval hx, run_loadA hA hz h2 hv hul]
theorem GL.storeR {N sz' : Nat} {us : List Value} {x' : α} {xs' : List α} {G : Fz} (i : Nat) (hi : hs[i]? = some (arena γ (cellR T c) F0 xs)) (le0 : F0 ≤ G) (le1 : G ≤ F) (hN : ∀ F' vs, c F' x vs → vs.length = N) (hz : ∀ w, (sizeOf t).run P w = .ok sz' w) (hb : RefB γ F j b) (hel : xs[j]? = some x)
    (hx : evalS S ox = some (.pointer (some ⟨b, o, none⟩))) (hy : evalS S oy = some v) (hc : v.cells = us.toArray) (hlen : us.length = sz') (h1 : us.all Value.oneCell' = true) (hs' : Nat.ble (o + sz') N = true)
    (hr : ∀ F' vs, G ≤ F' → c F' x vs → c F' x' (setMany vs o us)) (he : xs' = xs.set j x')
    (k : GL κ P ops rest ks Q (Hd n D S F (hs.set i (arena γ (cellR T c) G xs'))) m r) :
    GL κ P ops (⟨none, .store t ox oy, ty, pos, after, none⟩ :: rest) ks Q (Hd n D S F hs) m r := by
  subst he
  refine GL.stepU rfl (.inr rfl) fun hm a w ha => ?_
  obtain ⟨vs, g1, g2, g3⟩ := (ha.2.pull hi).arenaPut (o := o) (us := us) hb hel le0 hr
  have hl := hN _ _ (g1 F (Fz.le_trans le0 le1))
  have hs'' := Nat.le_of_ble_eq_true hs'
  refine ⟨_, ?_, k hm _ _ ⟨ha.1.put_none _, SH.push hi g3⟩⟩
  have hrun := run_storeCells (P := P) (o := o) (i := 0) g2 (by omega) h1
  simp only [Nat.add_zero] at hrun
  simp only [execOp, Instr.storeAt, ha.1.eval hx, ha.1.eval hy, Instr.sureAddr, storeVar, Sem.run_bind, hz, Result.andThen, hc]
  simp [hlen, hrun]
end
section
variable {K V : Type} [BEq K] [LawfulBEq K]
theorem mapGet_mem : ∀ {l : List (K × V)} {k : K} {v : V}, mapGet l k = some v → (k, v) ∈ l
  | [], _, _, h => by cases h
  | x :: l, k, v, h => by
    simp only [mapGet] at h
    split at h
    · rename_i hb
      simp only [Option.some.injEq] at h
      have := LawfulBEq.eq_of_beq hb
      subst this; subst h; simp
    · exact List.mem_cons_of_mem _ (mapGet_mem h)
theorem mapGet_of_mem : ∀ {l : List (K × V)} {k : K} {v : V}, (l.map Prod.fst).Nodup → (k, v) ∈ l → mapGet l k = some v
  | [], _, _, _, h => by cases h
  | x :: l, k, v, hn, h => by
    simp only [List.map_cons, List.nodup_cons] at hn
    simp only [mapGet]
    rcases List.mem_cons.1 h with h | h
    · subst h; simp
    · have hne : (k == x.1) = false := by
        cases hb : k == x.1 with
        | false => rfl
        | true => exact absurd (List.mem_map_of_mem (f := Prod.fst) h) (by have := LawfulBEq.eq_of_beq hb; rw [this]; exact hn.1)
      rw [hne]; exact mapGet_of_mem hn.2 h
theorem mapGet_perm {l l' : List (K × V)} {k : K} (hp : l'.Perm l) (hn : (l.map Prod.fst).Nodup) : mapGet l' k = mapGet l k := by
  have hn' : (l'.map Prod.fst).Nodup := (hp.map _).nodup_iff.2 hn
  cases h : mapGet l k with
  | some v => exact mapGet_of_mem hn' (hp.mem_iff.2 (mapGet_mem h))
  | none =>
    cases h' : mapGet l' k with
    | none => rfl
    | some v => rw [mapGet_of_mem hn (hp.mem_iff.1 (mapGet_mem h'))] at h; cases h
theorem filter_no {l : List (K × V)} {k : K} (h : k ∉ l.map Prod.fst) : l.filter (fun x => !(k == x.1)) = l :=
  List.filter_eq_self.2 fun x hx => by
    cases hb : k == x.1 with
    | false => rfl
    | true => exact absurd (by have := LawfulBEq.eq_of_beq hb; rw [this]; exact List.mem_map_of_mem (f := Prod.fst) hx) h
theorem mapSet_filter : ∀ {l : List (K × V)} {k : K} {v : V}, (l.map Prod.fst).Nodup → (mapSet l k v).Perm ((k, v) :: l.filter (fun x => !(k == x.1)))
  | [], _, _, _ => .refl _
  | x :: l, k, v, hn => by
    simp only [List.map_cons, List.nodup_cons] at hn
    simp only [mapSet, List.filter_cons]
    cases hb : k == x.1 with
    | true =>
      have := LawfulBEq.eq_of_beq hb
      simp only [if_true, Bool.not_true, Bool.false_eq_true, if_false]
      rw [filter_no (by rw [this]; exact hn.1)]
    | false =>
      simp only [Bool.false_eq_true, if_false, Bool.not_false, if_true]
      exact ((mapSet_filter hn.2).cons x).trans (.swap _ _ _)
theorem mapSet_nodup {l : List (K × V)} {k : K} {v : V} (hn : (l.map Prod.fst).Nodup) : ((mapSet l k v).map Prod.fst).Nodup := by
  rw [((mapSet_filter hn).map Prod.fst).nodup_iff]
  simp only [List.map_cons, List.nodup_cons, List.mem_map, List.mem_filter, not_exists, not_and, and_imp]
  refine ⟨fun x _ hb e => ?_, (hn.sublist ((List.filter_sublist (l := l)).map _))⟩
  rw [e] at hb; simp at hb
theorem mapSet_perm {l l' : List (K × V)} {k : K} {v : V} (hp : l'.Perm l) (hn : (l.map Prod.fst).Nodup) : (mapSet l' k v).Perm (mapSet l k v) :=
  (mapSet_filter ((hp.map _).nodup_iff.2 hn)).trans (((hp.filter _).cons _).trans (mapSet_filter hn).symm)
end
def ownMapP {K V : Type} (ck : K → Value) (rv : Fz → V → Value → Prop) (F : Fz) (b : Nat) (l : List (K × V)) : HP := fun m => ∃ l' : List (K × V), l'.Perm l ∧ (l.map Prod.fst).Nodup ∧ ownMap ck rv F b l' m
section
variable {K V : Type} {ck : K → Value} {rv : Fz → V → Value → Prop} {F F' F0 : Fz} {b : Nat} {l : List (K × V)}
theorem ownMapP_up {m : Mem} (le : F ≤ F') (h : ownMapP ck rv F b l m) : ownMapP ck rv F' b l m := let ⟨l', h1, h2, h3⟩ := h; ⟨l', h1, h2, ownMap_up le h3⟩
theorem mapStays : Stays (α := List (K × V)) (ownMapP ck rv) := fun _ _ _ _ _ le h => ownMapP_up le h
theorem own_mapP {w : World} {H : HP} (h : SH w F (star (ownMapP ck rv F0 b l) H)) : ∃ (es : Array MapEntry) (clock : Nat) (l' : List (K × V)), l'.Perm l ∧ (l.map Prod.fst).Nodup ∧ w.heap[b]? = some (.map es clock) ∧ MRel ck rv F0 es.toList l' ∧ SH w F (star (pt b (.map es clock)) H) ∧ Births es.toList clock := by
  obtain ⟨m, ⟨m1, m2, d, s1, s2, ⟨l', h1, h2, h3⟩, hq⟩, k⟩ := h
  obtain ⟨es, c, g1, g2, g3, g4⟩ := own_map (ck := ck) (rv := rv) (F0 := F0) (b := b) (l := l') ⟨m, ⟨m1, m2, d, s1, s2, h3, hq⟩, k⟩
  exact ⟨es, c, l', h1, h2, g1, g2, g3, g4⟩
end
section
variable {K V : Type} {ck : K → Value} {rv : Fz → V → Value → Prop} {γ j b : Nat} {xs : List (List (K × V))} {l l' : List (K × V)} {key : K} {val z : V} {kt vt : TypeId}
theorem SH.mapAt {w : World} {H : HP} (h : SH w F (star (arena γ (ownMapP ck rv) F0 xs) H)) (hb : RefB γ F j b) (hel : xs[j]? = some l) : ∃ (es : Array MapEntry) (clock : Nat) (l' : List (K × V)), l'.Perm l ∧ (l.map Prod.fst).Nodup ∧ w.heap[b]? = some (.map es clock) ∧ MRel ck rv F0 es.toList l' ∧ Births es.toList clock := by
  obtain ⟨es, c, l', h0, h0', h1, h2, _, h3⟩ := own_mapP (h.takeR hb hel)
  exact ⟨es, c, l', h0, h0', h1, h2, h3⟩
theorem SH.mapPut {w : World} {H : HP} (h : SH w F (star (arena γ (ownMapP ck rv) F0 xs) H)) (hb : RefB γ F j b) (hel : xs[j]? = some l) {G : Fz} (le0 : F0 ≤ G) {es : Array MapEntry} {clock : Nat} {l1 : List (K × V)} (hp : l1.Perm l') (hn : (l'.map Prod.fst).Nodup) (h1 : MRel ck rv G es.toList l1) (h2 : Births es.toList clock) : SH (Dec.put w b (.map es clock)) F (star (arena γ (ownMapP ck rv) G (xs.set j l')) H) := by
  obtain ⟨_, _, _, _, _, _, _, h3, _⟩ := own_mapP (h.takeR hb hel)
  have h4 := h3.put (o' := .map es clock)
  exact SH.giveR (F0 := F0) (b := b) mapStays le0 (h4.mono fun m hm => star_mono_left (fun m hm => ⟨l1, hp, hn, es, clock, hm, h1, h2⟩) hm) (List.getElem?_eq_some_iff.1 hel).1
theorem SH.mapPutO {w : World} {H : HP} (h : SH w F (star (ownMapP ck rv F0 b l) H)) {G : Fz} {es : Array MapEntry} {clock : Nat} {l1 : List (K × V)} (hp : l1.Perm l') (hn : (l'.map Prod.fst).Nodup) (h1 : MRel ck rv G es.toList l1) (h2 : Births es.toList clock) : SH (Dec.put w b (.map es clock)) F (star (ownMapP ck rv G b l') H) := by
  obtain ⟨_, _, _, _, _, _, _, h3, _⟩ := own_mapP h
  exact (h3.put (o' := .map es clock)).mono fun m hm => star_mono_left (fun m hm => ⟨l1, hp, hn, es, clock, hm, h1, h2⟩) hm
theorem GL.makeMapP (ck : K → Value) (rv : Fz → V → Value → Prop) (hd : Nat.blt d n = true) (k : ∀ b, GL κ P ops rest ks Q (Hd n D ((d, .map (some b)) :: S) F (ownMapP ck rv F b [] :: hs)) m r) :
    GL κ P ops (⟨some d, .makeMap t none, ty, pos, after, none⟩ :: rest) ks Q (Hd n D S F hs) m r :=
  GL.makeMap ck rv hd fun b => fun hm a w ha => k b hm a w ⟨ha.1, ha.2.mono fun _m hm => star_mono_left (fun _m hm => ⟨[], .refl _, List.nodup_nil, hm⟩) hm⟩
theorem GL.mapLenR {T : Array TypeId} {p : Option Nat} (i : Nat) (hi : hs[i]? = some (arena γ (ownMapP ck rv) F0 xs)) (hb : RefB γ F j b) (hp : p = some b) (hel : xs[j]? = some l) (hd : Nat.blt d n = true) (hT : T[0]? = some t) (ht : P.underlying t = some (.map kt vt)) (hx : evalS S ox = some (.map p))
    (k : GL κ P ops rest ks Q (Hd n D ((d, .int .i64 l.length) :: S) F hs) m r) : GL κ P ops (⟨some d, .call ⟨.builtin .len, #[ox], T⟩, ty, pos, after, none⟩ :: rest) ks Q (Hd n D S F hs) m r := by
  subst hp
  exact GL.val hd (fun a w ha => by
    obtain ⟨es, c, l', hpm, _, hb, hr, _⟩ := (ha.2.pull hi).mapAt hb hel
    have : es.size = l.length := by rw [← hpm.length_eq, ← hr.len]; simp
    simp [execOp, resolve, invoke, builtin, Builtin.len_, ha.1.eval hx, hT, rUnd ht, goInt, run_getM hb, this]) k
variable [BEq K] [LawfulBEq K]
omit [LawfulBEq K] in
theorem run_lookup {w : World} {es : Array MapEntry} {c b : Nat} {l' : List (K × V)} {zv : Value} (hb : w.heap[b]? = some (.map es c)) (hr : MRel ck rv F0 es.toList l') (le0 : F0 ≤ F) (ht : P.underlying t = some (.map kt vt)) (ok : KeyOK P kt ck) (hzv : ∀ w, (zeroValue vt).run P w = .ok zv w) (hz : rv F z zv) (c2 : Bool) :
    ∃ v, rv F ((mapGet l' key).getD z) v ∧ (Instr.lookup t (.map (some b)) (ck key) c2).run P w = .ok (if c2 then .tuple #[v, .bool (mapGet l' key).isSome] else v) w := by
  obtain ⟨kd, hu, hsame⟩ := ok.und
  rcases hr.find (k := key) hsame ok.eq 0 with ⟨g1, g2, _⟩ | ⟨j, e1, x1, g1, g2, g3, g4, g5, _⟩
  · have hf := run_findKey (w := w) hu g2
    refine ⟨zv, by rw [g1]; exact hz, ?_⟩
    cases c2 <;> simp [Instr.lookup, rUnd ht, run_getM hb, ok.check, hf, hzv, g1]
  · have hf := run_findKey (w := w) hu g4
    refine ⟨e1.val, by rw [g3]; exact g5 F le0, ?_⟩
    cases c2 <;> simp [Instr.lookup, rUnd ht, run_getM hb, ok.check, hf, g3]
theorem GL.lookupR {p : Option Nat} {zv : Value} (i : Nat) (hi : hs[i]? = some (arena γ (ownMapP ck rv) F0 xs)) (le0 : F0 ≤ F) (hb : RefB γ F j b) (hp : p = some b) (hel : xs[j]? = some l) (hd : Nat.blt d n = true) (ht : P.underlying t = some (.map kt vt)) (ok : KeyOK P kt ck) (hzv : ∀ w, (zeroValue vt).run P w = .ok zv w) (hz : rv F z zv) (hx : evalS S ox = some (.map p)) (hy : evalS S oy = some (ck key))
    (k : ∀ v, rv F ((mapGet l key).getD z) v → GL κ P ops rest ks Q (Hd n D ((d, v) :: S) F hs) m r) : GL κ P ops (⟨some d, .lookup t ox oy false, ty, pos, after, none⟩ :: rest) ks Q (Hd n D S F hs) m r := by
  subst hp
  refine GL.step rfl (.inr rfl) fun hm a w ha => ?_
  obtain ⟨es, c, l', hpm, hn, hb', hr, _⟩ := (ha.2.pull hi).mapAt hb hel
  obtain ⟨v, hv, hrun⟩ := run_lookup (key := key) hb' hr le0 ht ok hzv hz false
  rw [mapGet_perm hpm hn] at hv
  refine ⟨v, w, ?_, k v hv hm _ _ ⟨ha.1.put hd _, ha.2⟩⟩
  simp [execOp, ha.1.eval hx, ha.1.eval hy, hrun]
omit [LawfulBEq K] in
theorem run_mapUpdate {w : World} {es : Array MapEntry} {c b : Nat} {l1 : List (K × V)} {vv : Value} (hb : w.heap[b]? = some (.map es c)) (hr : MRel ck rv F es.toList l1) (hbi : Births es.toList c) (ht : P.underlying t = some (.map kt vt)) (ok : KeyOK P kt ck) (hv : ∀ F', F ≤ F' → rv F' val vv) :
    ∃ es' c', (Instr.mapUpdate t (.map (some b)) (ck key) vv).run P w = .ok () (Dec.put w b (.map es' c')) ∧ MRel ck rv F es'.toList (mapSet l1 key val) ∧ Births es'.toList c' := by
  obtain ⟨kd, hu, hsame⟩ := ok.und
  rcases hr.find (k := key) hsame ok.eq 0 with ⟨g1, g2, g3⟩ | ⟨j', e1, x1, g1, g2, g3, g4, g5, g6⟩
  · refine ⟨es.push { key := ck key, val := vv, born := c }, c + 1, ?_, by simpa using g3 val { key := ck key, val := vv, born := c } rfl hv, by simpa using hbi.push⟩
    have hf := run_findKey (w := w) hu g2
    simp [Instr.mapUpdate, rUnd ht, run_getM hb, ok.check, hf, run_setM hb]
  · refine ⟨es.modify j' fun e => { e with key := ck key, val := vv }, c, ?_, by rw [Array.toList_modify]; exact g6 val (fun e => { e with key := ck key, val := vv }) rfl hv, by rw [Array.toList_modify]; exact hbi.modify (j := j') (f := fun e => { e with key := ck key, val := vv }) fun _ => rfl⟩
    have hf := run_findKey (w := w) hu g4
    rw [Nat.zero_add] at hf
    have hel' : es[j']? = some e1 := by simpa using g1
    have hsb := ok.same key
    simp [Instr.mapUpdate, rUnd ht, run_getM hb, ok.check, hf, run_setM hb, hel', g2, Instr.keyThatStays, hsb]
theorem GL.mapUpdateR {p : Option Nat} {xs' : List (List (K × V))} {vv : Value} (i : Nat) (hi : hs[i]? = some (arena γ (ownMapP ck rv) F0 xs)) (le0 : F0 ≤ F) (hb : RefB γ F j b) (hp : p = some b) (hel : xs[j]? = some l) (ht : P.underlying t = some (.map kt vt)) (ok : KeyOK P kt ck) (hx : evalS S ox = some (.map p)) (hy : evalS S oy = some (ck key)) (hz : evalS S oz = some vv) (hv : ∀ F', F ≤ F' → rv F' val vv) (he : xs' = xs.set j (mapSet l key val))
    (k : GL κ P ops rest ks Q (Hd n D S F (hs.set i (arena γ (ownMapP ck rv) F xs'))) m r) : GL κ P ops (⟨none, .mapUpdate t ox oy oz, ty, pos, after, none⟩ :: rest) ks Q (Hd n D S F hs) m r := by
  subst hp; subst he
  refine GL.stepU rfl (.inr rfl) fun hm a w ha => ?_
  obtain ⟨es, c, l1, hpm, hn, hb', hr, hbi⟩ := (ha.2.pull hi).mapAt hb hel
  obtain ⟨es', c', hrun, h1, h2⟩ := run_mapUpdate (key := key) (val := val) hb' (hr.up le0) hbi ht ok hv
  refine ⟨_, ?_, k hm _ _ ⟨ha.1.put_none _, SH.push hi ((ha.2.pull hi).mapPut hb hel le0 (mapSet_perm hpm hn) (mapSet_nodup hn) h1 h2)⟩⟩
  simp [execOp, ha.1.eval hx, ha.1.eval hy, ha.1.eval hz, hrun]
theorem GL.insertO {l' : List (K × V)} {vv : Value} (i : Nat) (hi : hs[i]? = some (ownMapP ck rv F0 b l)) (le0 : F0 ≤ F) (ht : P.underlying t = some (.map kt vt)) (ok : KeyOK P kt ck) (hx : evalS S ox = some (.map (some b))) (hy : evalS S oy = some (ck key)) (hz : evalS S oz = some vv) (hv : ∀ F', F ≤ F' → rv F' val vv) (he : l' = mapSet l key val)
    (k : GL κ P ops rest ks Q (Hd n D S F (hs.set i (ownMapP ck rv F b l'))) m r) : GL κ P ops (⟨none, .insert t ox oy oz, ty, pos, after, none⟩ :: rest) ks Q (Hd n D S F hs) m r := by
  subst he
  refine GL.stepU rfl (.inr rfl) fun hm a w ha => ?_
  obtain ⟨es, c, l1, hpm, hn, hb', hr, _, hbi⟩ := own_mapP (ha.2.pull hi)
  obtain ⟨es', c', hrun, h1, h2⟩ := run_mapUpdate (key := key) (val := val) hb' (hr.up le0) hbi ht ok hv
  refine ⟨_, ?_, k hm _ _ ⟨ha.1.put_none _, SH.push hi ((ha.2.pull hi).mapPutO (mapSet_perm hpm hn) (mapSet_nodup hn) h1 h2)⟩⟩
  simp [execOp, ha.1.eval hx, ha.1.eval hy, ha.1.eval hz, hrun]
end
end
section
variable {β : Type} {X : Act → World → Prop} {m : Option β} {r : β} {n : Nat} {D : List Deferred} {S : List (Nat × Value)} {F F0 : Fz} {hs : List HP}
variable {α : Type} {γ : Nat} {C : Fz → Nat → α → HP} {xs xs' : List α} {b : Nat} {x : α}
theorem GG.intoAt {p : HP} (k i : Nat) (hk : hs[k]? = some p) (hi : (hs.eraseIdx k)[i]? = some (arena γ C F0 xs)) (hC : Stays C) (le : F0 ≤ F) (hp : ∀ F' m, F ≤ F' → p m → C F' b x m) (he : xs' = xs ++ [x])
    (K : ∀ F', F ≤ F' → RefB γ F' xs.length b → GG X (Hd n D S F' ((hs.eraseIdx k).set i (arena γ C F' xs'))) m r) : GG X (Hd n D S F hs) m r := fun hm a w ha => by
  subst he
  have h1 : SH w F (star p (star (arena γ C F0 xs) (stars ((hs.eraseIdx k).eraseIdx i)))) := (ha.2.pull hk).mono fun m hm => star_mono_right (fun _ => stars_pull hi) hm
  obtain ⟨F', l, g1, g2⟩ := SH.intoR hC le h1 hp
  exact K F' l g1 hm a w ⟨ha.1, SH.push hi g2⟩
theorem GG.newA (C : Fz → Nat → α → HP) (i : Nat) (hi : hs[i]? = some (gho γ [])) (K : GG X (Hd n D S F (hs.set i (arena γ C F []))) m r) : GG X (Hd n D S F hs) m r := fun hm a w ha =>
  K hm a w ⟨ha.1, SH.push hi ((ha.2.pull hi).mono fun m hm => star_mono_left (fun m hm => ⟨[], rfl, m, fun _ => none, fun _ => .inr rfl, Mem.sub.refl _, fun _ _ e => by simp at e, hm, trivial⟩) hm)⟩
theorem GG.newG (K : ∀ γ F', F ≤ F' → GG X (Hd n D S F' (gho γ [] :: hs)) m r) : GG X (Hd n D S F hs) m r := fun hm a w ha => by
  obtain ⟨le, h⟩ := ha.2.newG
  exact K _ _ le hm a w ⟨ha.1, h⟩
theorem GG.norm {S' : List (Nat × Value)} {hs' : List HP} (hS : Sub S' S) (hh : hs = hs') (k : GG X (Hd n D S' F hs') m r) : GG X (Hd n D S F hs) m r :=
  fun hm a w ha => k hm a w ⟨ha.1.sub hS, hh ▸ ha.2⟩
end
section
variable {β σ γ : Type} {A : Act → World → Prop}
theorem LPost.panQ {I : σ → Act → World → Prop} {Dn : γ → Exit → Act → World → Prop} {b : γ} {ctl : Ctl σ γ} {c : List PanicEntry} (h : ∀ a w, A a w → Dn b (.panic c) a w) : some (Ctl.done b) = some ctl → ∀ a w, A a w → LPost I Dn ctl (.panic c) a w := fun e a w ha => by
  simp only [Option.some.injEq] at e; subst e; exact ⟨by simp, h a w ha⟩
end
end Go.Dec
end

section
namespace Go.Dec
variable {κ : Option Nat}
def bindX {ε α β : Type} (e : Option (Out ε α)) (gp : ε → Option β) (g : α → Option β) : Option β := match e with
  | none => none
  | some (.ok x) => g x
  | some (.pan q) => gp q
def RepFnX {ι ε β : Type} (P : Program) (penc : ε → Value) (F : Fz) (f : FuncId) (k : List Value × List Value) (arg : ι → Fz → List Value → Prop) (Hin : Fz → ι → List HP) (ρ : β → Fz → Value → Prop) (Hout : Fz → ι → β → List HP) (m : ι → Option (Out ε β)) : Prop :=
  (∀ args w, (callFunc f args).run P w = .ok (.enter f args) w) ∧ ∀ F', F ≤ F' → ∀ x vs, arg x F' vs → CTX P penc f (k.1 ++ vs ++ k.2).toArray F' (Hin F' x) (m x) ρ (fun r F'' _ => Hout F'' x r)
theorem RepFnX.mono {ι ε β : Type} {P : Program} {penc : ε → Value} {F F' : Fz} {f : FuncId} {k : List Value × List Value} {arg : ι → Fz → List Value → Prop} {Hin : Fz → ι → List HP} {ρ : β → Fz → Value → Prop} {Hout : Fz → ι → β → List HP} {m : ι → Option (Out ε β)} (h : RepFnX P penc F f k arg Hin ρ Hout m) (le : F ≤ F') : RepFnX P penc F' f k arg Hin ρ Hout m :=
  ⟨h.1, fun G le' => h.2 G (Fz.le_trans le le')⟩
section
variable {ε β : Type} {P : Program} {penc : ε → Value} {ops : Array Oper} {rest : List Oper} {ks : List Kt} {Q : Exit → Act → World → Prop} {m : Option β} {r : β}
variable {n : Nat} {D : List Deferred} {S : List (Nat × Value)} {F F0 : Fz} {hs : List HP}
variable {d : Nat} {ty t : TypeId} {pos : String} {after : Array Edge} {ox oy : Operand} {T : Array TypeId}
theorem GL.callA {A : Act → World → Prop} {α : Type} {f : FuncId} {args : Array Value} {o : Oper} {e : Option (Out ε α)} {ρ : α → Fz → Value → Prop} {Hs : List HP} {Hs' : α → Fz → Value → List HP} {g : α → Option β} {gp : ε → Option β} (is : List Nat) (hd : Nat.blt d n = true) (hg : o.guard = none) (hdst : o.dst = some d) (hnd : noDefer o.op = true)
    (hA : ∀ a w, A a w → Hd n D S F hs a w ∧ (execOp a.eval o).run P w = .ok (.enter f args) w) (hi : pickR is hs = Hs)
    (hc : CTX P penc f args F Hs e ρ Hs') (k : ∀ x F' v, e = some (.ok x) → F ≤ F' → ρ x F' v → GL κ P ops rest ks Q (Hd n D ((d, v) :: S) F' (Hs' x F' v ++ leftR is hs)) (g x) r)
    (hp : ∀ q F', e = some (.pan q) → F ≤ F' → gp q = some r → ∀ a w, Hd n D S F' (leftR is hs) a w → Q (.panic [{ v := penc q, recovered := false }]) a w) :
    GL κ P ops (o :: rest) ks Q A (bindX e gp g) r := by
  intro hm a w ha0
  obtain ⟨ha, hrun⟩ := hA a w ha0
  cases he : e with
  | none => rw [he] at hm; cases hm
  | some y =>
    rw [he] at hm
    have hsh : SH w F (star (stars Hs) (stars (leftR is hs))) := ha.2.mono fun m hm => by
      have := stars_part (ks := is) hm
      rw [hi] at this; exact this
    unfold wpL
    rw [if_pos (by simp [Region.wanted, hg])]
    refine ⟨.inr hnd, ?_⟩
    rw [hrun]
    refine ⟨fun e => (by rw [fen_depth] at e; cases e), calls_fen.2 ((hc y he w _ hsh).mono ?_)⟩
    rintro e' w' ⟨F', le, h⟩
    cases y with
    | ok x =>
      obtain ⟨v, rfl, hρ, hw⟩ := h
      have h1 := k x F' v he le hρ hm _ _ ⟨ha.1.put hd v, hw.mono fun _ => stars_app⟩
      simp only [hdst]
      exact h1
    | pan q =>
      obtain ⟨rfl, hw⟩ := h
      exact interp_panic (hp q F' he le hm _ _ ⟨ha.1, hw⟩)
theorem GL.callB {α : Type} {f : FuncId} {caps as vs : List Value} {of : Operand} {os : List Operand} {e : Option (Out ε α)} {ρ : α → Fz → Value → Prop} {Hs : List HP} {Hs' : α → Fz → Value → List HP} {g : α → Option β} {gp : ε → Option β} (is : List Nat)
    (hd : Nat.blt d n = true) (hcall : ∀ args w, (callFunc f args).run P w = .ok (.enter f args) w) (hf : evalS S of = some (.func (.func f) #[] caps.toArray)) (ha : evalL S os = some vs) (has : vs ++ caps = as) (hi : pickR is hs = Hs)
    (hc : CTX P penc f as.toArray F Hs e ρ Hs') (k : ∀ x F' v, e = some (.ok x) → F ≤ F' → ρ x F' v → GL κ P ops rest ks Q (Hd n D ((d, v) :: S) F' (Hs' x F' v ++ leftR is hs)) (g x) r)
    (hp : ∀ q F', e = some (.pan q) → F ≤ F' → gp q = some r → ∀ a w, Hd n D S F' (leftR is hs) a w → Q (.panic [{ v := penc q, recovered := false }]) a w) :
    GL κ P ops (⟨some d, .call ⟨.value of, os.toArray, T⟩, ty, pos, after, none⟩ :: rest) ks Q (Hd n D S F hs) (bindX e gp g) r := by
  subst has
  exact GL.callA is hd rfl rfl rfl (fun a w hA => ⟨hA, run_call hA.1 hcall hf ha⟩) hi hc k hp
theorem run_callF {a : Act} {f : FuncId} {first caps : List Value} {of : Operand} {os : List Operand} {vs : List Value} {w : World} (hs : Sl n D S a) (hcall : ∀ args w, (callFunc f args).run P w = .ok (.enter f args) w)
    (hf : evalS S of = some (.func (.func f) first.toArray caps.toArray)) (ha : evalL S os = some vs) {dst : Option Tmp} :
    (execOp a.eval ⟨dst, .call ⟨.value of, os.toArray, T⟩, ty, pos, after, none⟩).run P w = .ok (.enter f (first ++ vs ++ caps).toArray) w := by
  have e := evalL_map hs ha
  simp [execOp, resolve, Deferred.ofValue, hs.eval hf, e, invoke, hcall]
theorem GL.callF {ι α : Type} {f : FuncId} {kk : List Value × List Value} {vs : List Value} {of : Operand} {os : List Operand} {arg : ι → Fz → List Value → Prop} {Hin : Fz → ι → List HP} {ρ : α → Fz → Value → Prop} {Hout : Fz → ι → α → List HP} {fm : ι → Option (Out ε α)} {x : ι} {Hs : List HP} {g : α → Option β} {gp : ε → Option β} (is : List Nat)
    (hd : Nat.blt d n = true) (hr : RepFnX P penc F f kk arg Hin ρ Hout fm) (hf : evalS S of = some (.func (.func f) kk.1.toArray kk.2.toArray)) (ha : evalL S os = some vs) (hx : arg x F vs) (hi : pickR is hs = Hs) (hin : Hin F x = Hs)
    (k : ∀ y F' v, fm x = some (.ok y) → F ≤ F' → ρ y F' v → GL κ P ops rest ks Q (Hd n D ((d, v) :: S) F' (Hout F' x y ++ leftR is hs)) (g y) r)
    (hp : ∀ q F', fm x = some (.pan q) → F ≤ F' → gp q = some r → ∀ a w, Hd n D S F' (leftR is hs) a w → Q (.panic [{ v := penc q, recovered := false }]) a w) :
    GL κ P ops (⟨some d, .call ⟨.value of, os.toArray, T⟩, ty, pos, after, none⟩ :: rest) ks Q (Hd n D S F hs) (bindX (fm x) gp g) r := by
  subst hin
  exact GL.callA is hd rfl rfl rfl (fun a w hA => ⟨hA, run_callF hA.1 hr.1 hf ha⟩) hi (hr.2 F (Fz.le_refl F) x vs hx) k hp
theorem GL.callBK {α : Type} {f : FuncId} {caps as vs : List Value} {of : Operand} {os : List Operand} {e : Option (Out ε α)} {ρ : α → Fz → Value → Prop} {Hs : List HP} {Hs' : α → Fz → Value → List HP} {x : α} (he : e = some (.ok x)) (is : List Nat)
    (hd : Nat.blt d n = true) (hcall : ∀ args w, (callFunc f args).run P w = .ok (.enter f args) w) (hf : evalS S of = some (.func (.func f) #[] caps.toArray)) (ha : evalL S os = some vs) (has : vs ++ caps = as) (hi : pickR is hs = Hs)
    (hc : CTX P penc f as.toArray F Hs e ρ Hs') (k : ∀ F' v, F ≤ F' → ρ x F' v → GL κ P ops rest ks Q (Hd n D ((d, v) :: S) F' (Hs' x F' v ++ leftR is hs)) m r) :
    GL κ P ops (⟨some d, .call ⟨.value of, os.toArray, T⟩, ty, pos, after, none⟩ :: rest) ks Q (Hd n D S F hs) m r := by
  have h := GL.callB (κ := κ) (P := P) (penc := penc) (ops := ops) (rest := rest) (ks := ks) (Q := Q) (r := r) (n := n) (D := D) (S := S) (F := F) (hs := hs) (d := d) (ty := ty) (pos := pos) (after := after) (T := T) (g := fun _ => m) (gp := fun _ => (none : Option β)) is hd hcall hf ha has hi hc
    (fun x' F' v he' le hρ => by rw [he] at he'; cases he'; exact k F' v le hρ) (fun q F' he' _ hn => by cases hn)
  rw [he] at h
  exact h
theorem GL.callBP {α : Type} {f : FuncId} {caps as vs : List Value} {of : Operand} {os : List Operand} {e : Option (Out ε α)} {ρ : α → Fz → Value → Prop} {Hs : List HP} {Hs' : α → Fz → Value → List HP} {q : ε} (he : e = some (.pan q)) (is : List Nat)
    (hd : Nat.blt d n = true) (hcall : ∀ args w, (callFunc f args).run P w = .ok (.enter f args) w) (hf : evalS S of = some (.func (.func f) #[] caps.toArray)) (ha : evalL S os = some vs) (has : vs ++ caps = as) (hi : pickR is hs = Hs)
    (hc : CTX P penc f as.toArray F Hs e ρ Hs') (hp : ∀ F', F ≤ F' → m = some r → ∀ a w, Hd n D S F' (leftR is hs) a w → Q (.panic [{ v := penc q, recovered := false }]) a w) :
    GL κ P ops (⟨some d, .call ⟨.value of, os.toArray, T⟩, ty, pos, after, none⟩ :: rest) ks Q (Hd n D S F hs) m r := by
  have h := GL.callB (κ := κ) (P := P) (penc := penc) (ops := ops) (rest := rest) (ks := ks) (Q := Q) (r := r) (n := n) (D := D) (S := S) (F := F) (hs := hs) (d := d) (ty := ty) (pos := pos) (after := after) (T := T) (g := fun _ => (none : Option β)) (gp := fun _ => m) is hd hcall hf ha has hi hc
    (fun x' F' v he' _ _ => by rw [he] at he'; cases he') (fun q' F' he' le hn => by rw [he] at he'; cases he'; exact hp F' le hn)
  rw [he] at h
  exact h
theorem GC.outsB {α : Type} {A : Act → World → Prop} {c : Code} {e : Option (Out ε α)} {g : α → Option β} {gp : ε → Option β} (h1 : ∀ x, e = some (.ok x) → GC κ P c ks Q A (g x) r) (h2 : ∀ q, e = some (.pan q) → GC κ P c ks Q A (gp q) r) :
    GC κ P c ks Q A (bindX e gp g) r := by
  intro hm
  cases he : e with
  | none => rw [he] at hm; cases hm
  | some o =>
    rw [he] at hm
    cases o with
    | ok x => exact h1 x he hm
    | pan q => exact h2 q he hm
theorem eq_ptrNil {e : TypeId} {p : Option Addr} {w : World} (ht : P.underlying t = some (.pointer e)) (n : Nat) : (Op.equalIn (n + 1) t (.pointer p) (.pointer none)).run P w = .ok p.isNone w := by
  cases p <;> simp [Op.equalIn, rUnd ht]
theorem RepPtr.isNone {γ : Nat} {F : Fz} {p : Option Addr} {x : Option Nat} (h : RepPtr γ F p x) : p.isNone = x.isNone := by
  cases x with
  | none => simp [show p = none from h]
  | some i => obtain ⟨b, _, rfl⟩ := h; rfl
theorem GL.eqlPtrNil {γ : Nat} {e t' : TypeId} {p : Option Addr} {x : Option Nat} (h : RepPtr γ F p x) (hd : Nat.blt d n = true) (ht : P.underlying t = some (.pointer e)) (hx : evalS S ox = some (.pointer p)) (hy : evalS S oy = some (.pointer none)) (k : GL κ P ops rest ks Q (Hd n D ((d, .bool x.isNone) :: S) F hs) m r) :
    GL κ P ops (⟨some d, .binOp .eql t ox oy t', ty, pos, after, none⟩ :: rest) ks Q (Hd n D S F hs) m r :=
  GL.val hd (fun a w ha => by
    have hq : (Op.equal t (.pointer p) (.pointer none)).run P w = .ok p.isNone w := eq_ptrNil ht 9999
    have hg : P.eqGuardType P.depth t = false ∨ P.eqGuardType P.depth t = true := by cases P.eqGuardType P.depth t <;> simp
    simp [execOp, ha.1.eval hx, ha.1.eval hy, eqGuard, binOp, hq, h.isNone]) k
theorem GL.neqPtrNil {γ : Nat} {e t' : TypeId} {p : Option Addr} {x : Option Nat} (h : RepPtr γ F p x) (hd : Nat.blt d n = true) (ht : P.underlying t = some (.pointer e)) (hx : evalS S ox = some (.pointer p)) (hy : evalS S oy = some (.pointer none)) (k : GL κ P ops rest ks Q (Hd n D ((d, .bool (!x.isNone)) :: S) F hs) m r) :
    GL κ P ops (⟨some d, .binOp .neq t ox oy t', ty, pos, after, none⟩ :: rest) ks Q (Hd n D S F hs) m r :=
  GL.val hd (fun a w ha => by
    have hq : (Op.equal t (.pointer p) (.pointer none)).run P w = .ok p.isNone w := eq_ptrNil ht 9999
    have hg : P.eqGuardType P.depth t = false ∨ P.eqGuardType P.depth t = true := by cases P.eqGuardType P.depth t <;> simp
    simp [execOp, ha.1.eval hx, ha.1.eval hy, eqGuard, binOp, hq, h.isNone]) k
theorem SH.arenaNe {α : Type} {w : World} {γ T i j b b' : Nat} {c : ERel α} {xs : List α} {x y : α} {H : HP} (h : SH w F (star (arena γ (cellR T c) F0 xs) H)) (hb : RefB γ F i b) (hb' : RefB γ F j b') (hx : xs[i]? = some x) (hy : xs[j]? = some y) (hij : i ≠ j) : b ≠ b' := by
  intro e
  subst e
  obtain ⟨m, ⟨m1, m2, d, s1, s2, ⟨bs, hl, m3, m4, d', t1, t2, hg, hz⟩, hq⟩, k⟩ := h
  obtain ⟨_, e⟩ := k.gst γ _ (s1 _ _ (t1 _ _ hg))
  simp only [Cell.gh.injEq] at e
  have h1 : bs[i]? = some b := by rw [e]; exact hb.2
  have h2 : bs[j]? = some b := by rw [e]; exact hb'.2
  have g1 := zip_get (f := cellR T c F0) h1 hx
  have g2 := zip_get (f := cellR T c F0) h2 hy
  obtain ⟨n1, n2, dd, _, _, ⟨vs, _, hp⟩, hr⟩ := stars_pull g1 hz
  have hlt : i < (List.zipWith (cellR T c F0) bs xs).length := (List.getElem?_eq_some_iff.1 g1).1
  have g3 : ∃ k : Nat, ((List.zipWith (cellR T c F0) bs xs).eraseIdx i)[k]? = some (cellR T c F0 b y) := by
    rcases Nat.lt_or_gt_of_ne hij with hlt | hgt
    · exact ⟨j - 1, by rw [List.getElem?_eraseIdx, if_neg (by omega), show j - 1 + 1 = j by omega]; exact g2⟩
    · exact ⟨j, by rw [List.getElem?_eraseIdx, if_pos hgt]; exact g2⟩
  obtain ⟨k', g3⟩ := g3
  obtain ⟨n3, n4, _, u1, _, ⟨vs', _, hp'⟩, _⟩ := stars_pull g3 hr
  have q1 : n1 (.blk b) = some (.obj (.cells vs.toArray T)) := hp
  have q2 : n2 (.blk b) = some (.obj (.cells vs'.toArray T)) := u1 _ _ hp'
  have := dd.none_right q1
  rw [q2] at this; cases this
theorem eqPtr {α : Type} {a : Act} {w : World} {γ T i j b b' N : Nat} {e : TypeId} {c : ERel α} {xs : List α} {x y : α} {kx : Nat} (ht : P.underlying t = some (.pointer e)) (hz : ∀ w, (sizeOf e).run P w = .ok (N + 1) w) (hi : hs[kx]? = some (arena γ (cellR T c) F0 xs)) (hb : RefB γ F i b) (hb' : RefB γ F j b') (h1 : xs[i]? = some x) (h2 : xs[j]? = some y) (ha : Hd n D S F hs a w) (k : Nat) :
    (Op.equalIn (k + 1) t (.pointer (some ⟨b, 0, none⟩)) (.pointer (some ⟨b', 0, none⟩))).run P w = .ok (i == j) w := by
  by_cases hij : i = j
  · subst hij
    have := hb.inj hb'
    subst this
    simp [Op.equalIn, rUnd ht, hz, run_sameAddr_same]
  · have hne := (ha.2.pull hi).arenaNe hb hb' h1 h2 hij
    obtain ⟨vs, _, g1⟩ := (ha.2.pull hi).arenaAt hb h1
    obtain ⟨vs', _, g2⟩ := (ha.2.pull hi).arenaAt hb' h2
    have hs := run_sameAddr_other (P := P) (w := w) (a := ⟨b, 0, none⟩) (b := ⟨b', 0, none⟩) (by simp) g1 g2
    simp [Op.equalIn, rUnd ht, hz, hs, hij]
theorem GL.neqPtr {α : Type} {γ Tc i j b b' N : Nat} {e t' : TypeId} {c : ERel α} {xs : List α} {x y : α} {p q : Option Addr} (kx : Nat) (hi : hs[kx]? = some (arena γ (cellR Tc c) F0 xs)) (hb : RefB γ F i b) (hp : p = some ⟨b, 0, none⟩) (hb' : RefB γ F j b') (hq : q = some ⟨b', 0, none⟩) (h1 : xs[i]? = some x) (h2 : xs[j]? = some y) (hd : Nat.blt d n = true) (ht : P.underlying t = some (.pointer e)) (hz : ∀ w, (sizeOf e).run P w = .ok (N + 1) w) (hx : evalS S ox = some (.pointer p)) (hy : evalS S oy = some (.pointer q)) (k : GL κ P ops rest ks Q (Hd n D ((d, .bool (i != j)) :: S) F hs) m r) :
    GL κ P ops (⟨some d, .binOp .neq t ox oy t', ty, pos, after, none⟩ :: rest) ks Q (Hd n D S F hs) m r := by
  subst hp hq
  exact GL.val hd (fun a w ha => by
    have hq : (Op.equal t (.pointer (some ⟨b, 0, none⟩)) (.pointer (some ⟨b', 0, none⟩))).run P w = .ok (i == j) w := eqPtr ht hz hi hb hb' h1 h2 ha 9999
    simp [execOp, ha.1.eval hx, ha.1.eval hy, eqGuard, binOp, hq, bne]) k
section
variable {K V : Type} [BEq K] {ck : K → Value} {rv : Fz → V → Value → Prop} {b : Nat} {l : List (K × V)} {key : K} {kt vt : TypeId}
def RepMapF (ck : K → Value) (rv : Fz → V → Value → Prop) (F : Fz) (b : Nat) (l : List (K × V)) : Prop := ∃ (es : Array MapEntry) (clock : Nat) (l' : List (K × V)), l'.Perm l ∧ (l.map Prod.fst).Nodup ∧ F.mem b = some (.map es clock) ∧ MRel ck rv F es.toList l'
omit [BEq K] in
theorem RepMapF.mono {F F' : Fz} (h : RepMapF ck rv F b l) (le : F ≤ F') : RepMapF ck rv F' b l :=
  let ⟨es, c, l', h0, h00, h1, h2⟩ := h; ⟨es, c, l', h0, h00, le.mem _ _ h1, h2.up le⟩
omit [BEq K] in
theorem GG.freezeMap {X : Act → World → Prop} (i : Nat) (hi : hs[i]? = some (ownMapP ck rv F0 b l)) (le : F0 ≤ F) (k : ∀ F', F ≤ F' → RepMapF ck rv F' b l → GG X (Hd n D S F' (hs.eraseIdx i)) m r) : GG X (Hd n D S F hs) m r := fun hm a w ha => by
  obtain ⟨es, c, l', h0, h00, _, h2, h3, _⟩ := own_mapP (ha.2.pull hi)
  obtain ⟨l1, h4⟩ := h3.freeze
  exact k _ l1 ⟨es, c, l', h0, h00, Fz.add_self F b _, (h2.up le).up l1⟩ hm a w ⟨ha.1, h4⟩
theorem GL.lookupF [LawfulBEq K] {x : V} (h : RepMapF ck rv F b l) (hg : mapGet l key = some x) (hd : Nat.blt d n = true) (ht : P.underlying t = some (.map kt vt)) (ok : KeyOK P kt ck) (hx : evalS S ox = some (.map (some b))) (hy : evalS S oy = some (ck key))
    (k : ∀ v, rv F x v → GL κ P ops rest ks Q (Hd n D ((d, v) :: S) F hs) m r) : GL κ P ops (⟨some d, .lookup t ox oy false, ty, pos, after, none⟩ :: rest) ks Q (Hd n D S F hs) m r := by
  refine GL.step rfl (.inr rfl) fun hm a w ha => ?_
  obtain ⟨es, c, l', hpm, hn, hb, hr⟩ := h
  rw [← mapGet_perm hpm hn] at hg
  obtain ⟨kd, hu, hsame⟩ := ok.und
  have hb' := ha.2.frozen hb
  rcases hr.find (k := key) hsame ok.eq 0 with ⟨g1, g2, _⟩ | ⟨j, e1, x1, g1, g2, g3, g4, g5, _⟩
  · rw [hg] at g1; cases g1
  · rw [hg] at g3; cases g3
    have hf := run_findKey (w := w) hu g4
    refine ⟨e1.val, w, ?_, k _ (g5 F (Fz.le_refl F)) hm _ _ ⟨ha.1.put hd _, ha.2⟩⟩
    simp [execOp, Instr.lookup, ha.1.eval hx, ha.1.eval hy, rUnd ht, run_getM hb', ok.check, hf]
end
def CTO {G β : Type} (P : Program) (f : FuncId) (args : Array Value) (F : Fz) (m : Option β) (ρ : G → β → Fz → Value → Prop) (Hs' : G → β → Fz → List HP) : Prop :=
  ∀ r, m = some r → ∀ w R, SH w F R → Calls P f args w (fun e w' => ∃ Γ F' v, F ≤ F' ∧ e = .returned v ∧ ρ Γ r F' v ∧ SH w' F' (star (stars (Hs' Γ r F')) R))
theorem GL.callO {G α : Type} {f : FuncId} {caps as vs : List Value} {of : Operand} {os : List Operand} {em : Option α} {ρ : G → α → Fz → Value → Prop} {Hs' : G → α → Fz → List HP} {g : α → Option β}
    (hd : Nat.blt d n = true) (hcall : ∀ args w, (callFunc f args).run P w = .ok (.enter f args) w) (hf : evalS S of = some (.func (.func f) #[] caps.toArray)) (ha : evalL S os = some vs) (has : vs ++ caps = as)
    (hc : CTO P f as.toArray F em ρ Hs') (k : ∀ x Γ F' v, em = some x → F ≤ F' → ρ Γ x F' v → GL κ P ops rest ks Q (Hd n D ((d, v) :: S) F' (Hs' Γ x F' ++ hs)) (g x) r) :
    GL κ P ops (⟨some d, .call ⟨.value of, os.toArray, T⟩, ty, pos, after, none⟩ :: rest) ks Q (Hd n D S F hs) (em.bind g) r :=
  GL.callG rfl (.inr rfl) fun hm a w hA => by
    subst has
    refine ⟨run_call hA.1 hcall hf ha, ?_⟩
    cases he : em with
    | none => rw [he] at hm; cases hm
    | some y =>
      rw [he] at hm
      refine (hc y he w _ hA.2).mono ?_
      rintro _ w' ⟨Γ, F', v, le, rfl, hρ, hw⟩
      exact ⟨v, rfl, k y Γ F' v he le hρ hm _ _ ⟨hA.1.put hd _, hw.mono fun _ => stars_app⟩⟩
end
abbrev dclo (f : FuncId) (caps : List Value) : Deferred := { target := .fn (.func f) caps.toArray, args := #[] }
def fnPostO {G β : Type} (P : Program) (fn : Func) (F : Fz) (R : HP) (ρ : G → β → Fz → Value → Prop) (Hs' : G → β → Fz → List HP) (r : β) : Exit → Act → World → Prop :=
  bodyPostDIn Fence.wide 0 P fn (fun e w' => ∃ Γ F' v, F ≤ F' ∧ e = .returned v ∧ ρ Γ r F' v ∧ SH w' F' (star (stars (Hs' Γ r F')) R))
theorem CTO.enter {G β : Type} {P : Program} {f : FuncId} {fn : Func} {c : Code} {args : List Value} {F : Fz} {m : Option β} {ρ : G → β → Fz → Value → Prop} {Hs' : G → β → Fz → List HP} {n : Nat}
    (hf : P.funcs[f]? = some fn) (hb : fn.body = some c) (hn : fn.ntmps = n) (ha : Nat.ble args.length n = true)
    (k : ∀ r R, GC none P c [] (fnPostO P fn F R ρ Hs' r) (Hd n [] (argS 0 args) F [R]) m r) : CTO P f args.toArray F m ρ Hs' := by
  intro r hm w R hw
  refine (callsIn_wide (n := 0)).1 (callsIn_of_wp_defers hf hb trivial (k r R hm _ w ⟨?_, hw.one⟩))
  rw [hn]; exact sl_enter ha
section
variable {β : Type} {P : Program} {ops : Array Oper} {rest : List Oper} {ks : List Kt} {Q : Exit → Act → World → Prop} {m : Option β} {r : β}
variable {n : Nat} {D : List Deferred} {S : List (Nat × Value)} {F F' : Fz} {hs : List HP}
theorem GL.defer {f : FuncId} {caps : List Value} {of : Operand} {ty : TypeId} {pos : String} {after : Array Edge} {T : Array TypeId} (hf : evalS S of = some (.func (.func f) #[] caps.toArray)) (k : GL none P ops rest ks Q (Hd n (dclo f caps :: D) S F hs) m r) :
    GL none P ops (⟨none, .defer ⟨.value of, #[], T⟩, ty, pos, after, none⟩ :: rest) ks Q (Hd n D S F hs) m r := by
  intro hm a w ha
  have h := k hm { a with defers := dclo f caps :: a.defers } w ⟨⟨ha.1.1, by rw [ha.1.2.1], ha.1.2.2⟩, ha.2⟩
  unfold wpL
  rw [if_pos (by simp [Region.wanted])]
  refine ⟨.inl rfl, ?_⟩
  have hrun : (execOp a.eval ⟨none, .defer ⟨.value of, #[], T⟩, ty, pos, after, none⟩).run P w = .ok (.defer (dclo f caps)) w := by
    simp [execOp, resolve, Deferred.ofValue, ha.1.eval hf]
  rw [hrun]
  exact h
variable {G ε : Type} {penc : ε → Value} {fn : Func} {R : HP} {ρ : G → β → Fz → Value → Prop} {Hs' : G → β → Fz → List HP} {x : β} {rs : List ResultVar} {vs : List Value} {Γ : G}
theorem ret_postO (is : List Nat) (hr : fn.results = rs.toArray) (h : Res P S F' hs rs vs) (hi : pickR is hs = Hs' Γ x F' ++ [R]) (le : F ≤ F') (hρ : ρ Γ x F' (tup vs)) :
    some x = some r → ∀ a w, Hd n [] S F' hs a w → fnPostO P fn F R ρ Hs' r .ret a w := by
  intro e a w ha
  simp only [Option.some.injEq] at e
  subst e
  show LeavesIn Fence.wide 0 P fn a.tmps _ a.defers .returning w
  rw [ha.1.2.1]
  refine ⟨_, run_results hr ha h, Γ, F', _, le, rfl, hρ, ha.2.mono fun m hm => ?_⟩
  have h1 := stars_pick (ks := is) hm
  rw [hi] at h1
  exact star_one (stars_app' h1)
theorem leads_clo {f : FuncId} {caps : List Value} {w : World} : ∀ g, (Target.fn (.func f) caps.toArray).leads P w #[] = some g → Fence.wide.fn g := fun _ _ => trivial
theorem invoke_clo {f : FuncId} {caps : List Value} {w : World} (hcall : ∀ args w, (callFunc f args).run P w = .ok (.enter f args) w) : (invoke (.fn (.func f) caps.toArray) #[]).run P w = .ok (.enter f caps.toArray) w := by
  simp [invoke, hcall]
end
def CTH {β : Type} (P : Program) (f : FuncId) (args : Array Value) (F : Fz) (Hs : List HP) (m : Option β) (ρ : β → Fz → Value → Prop) (Hs' : β → Fz → List HP) : Prop :=
  ∀ r, m = some r → ∀ w R, SH w F (star (stars Hs) R) → Calls P f args w (fun e w' => ∃ F' v, F ≤ F' ∧ e = .returned v ∧ ρ r F' v ∧ SH w' F' (star (stars (Hs' r F')) R))
def fnPostH {β : Type} (P : Program) (fn : Func) (F : Fz) (R : HP) (ρ : β → Fz → Value → Prop) (Hs' : β → Fz → List HP) (r : β) : Exit → Act → World → Prop :=
  bodyPost P fn (fun e w' => ∃ F' v, F ≤ F' ∧ e = .returned v ∧ ρ r F' v ∧ SH w' F' (star (stars (Hs' r F')) R))
theorem CTH.enter {β : Type} {P : Program} {f : FuncId} {fn : Func} {c : Code} {args : List Value} {F : Fz} {Hs : List HP} {m : Option β} {ρ : β → Fz → Value → Prop} {Hs' : β → Fz → List HP} {n : Nat}
    (hf : P.funcs[f]? = some fn) (hb : fn.body = some c) (hn : fn.ntmps = n) (ha : Nat.ble args.length n = true)
    (k : ∀ r R, GC none P c [] (fnPostH P fn F R ρ Hs' r) (Hd n [] (argS 0 args) F (Hs ++ [R])) m r) : CTH P f args.toArray F Hs m ρ Hs' := by
  intro r hm w R hw
  refine calls_of_wp hf hb (wpIn_wide.1 (k r R hm _ w ⟨?_, hw.mono fun m hm => stars_app (star_mono_right (fun _ h => stars_one h) hm)⟩))
  rw [hn]; exact sl_enter ha
section
variable {β : Type} {P : Program} {n : Nat} {S : List (Nat × Value)} {F F' : Fz} {hs : List HP} {ks : List Kt} {fn : Func} {R : HP} {ρ : β → Fz → Value → Prop} {Hs' : β → Fz → List HP} {x r : β} {rs : List ResultVar} {vs : List Value}
theorem ret_postH (is : List Nat) (hr : fn.results = rs.toArray) (h : Res P S F' hs rs vs) (hi : pickR is hs = Hs' x F' ++ [R]) (le : F ≤ F') (hρ : ρ x F' (tup vs)) :
    some x = some r → ∀ a w, Hd n [] S F' hs a w → fnPostH P fn F R ρ Hs' r .ret a w := by
  intro e a w ha
  simp only [Option.some.injEq] at e
  subst e
  refine ⟨ha.1.2.1, _, run_results hr ha h, F', _, le, rfl, hρ, ha.2.mono fun m hm => ?_⟩
  have h1 := stars_pick (ks := is) hm
  rw [hi] at h1
  exact star_one (stars_app' h1)
theorem GC.retH (is : List Nat) (hr : fn.results = rs.toArray) (h : Res P S F' hs rs vs) (hi : pickR is hs = Hs' x F' ++ [R]) (le : F ≤ F') (hρ : ρ x F' (tup vs)) :
    GC κ P .ret ks (fnPostH P fn F R ρ Hs' r) (Hd n [] S F' hs) (some x) r := GC.retQ (ret_postH is hr h hi le hρ)
theorem GE.endH (is : List Nat) (hr : fn.results = rs.toArray) (h : Res P S F' hs rs vs) (hi : pickR is hs = Hs' x F' ++ [R]) (le : F ≤ F') (hρ : ρ x F' (tup vs)) :
    GE κ P [] (fnPostH P fn F R ρ Hs' r) (Hd n [] S F' hs) (some x) r := GE.nil (ret_postH is hr h hi le hρ)
end
section
variable {β : Type} {P : Program} {ops : Array Oper} {rest : List Oper} {ks : List Kt} {Q : Exit → Act → World → Prop} {m : Option β} {r : β}
variable {n : Nat} {D : List Deferred} {S : List (Nat × Value)} {F : Fz} {hs : List HP} {d : Nat} {ty : TypeId} {pos : String} {after : Array Edge} {T : Array TypeId}
theorem GL.callT {α : Type} {f : FuncId} {caps as vs : List Value} {of : Operand} {os : List Operand} {em : Option α} {ρ : α → Fz → Value → Prop} {Hs : List HP} {Hs' : α → Fz → List HP} {g : α → Option β} (is : List Nat)
    (hd : Nat.blt d n = true) (hcall : ∀ args w, (callFunc f args).run P w = .ok (.enter f args) w) (hf : evalS S of = some (.func (.func f) #[] caps.toArray)) (ha : evalL S os = some vs) (has : vs ++ caps = as) (hi : pickR is hs = Hs)
    (hc : CTH P f as.toArray F Hs em ρ Hs') (k : ∀ x F' v, em = some x → F ≤ F' → ρ x F' v → GL κ P ops rest ks Q (Hd n D ((d, v) :: S) F' (Hs' x F' ++ leftR is hs)) (g x) r) :
    GL κ P ops (⟨some d, .call ⟨.value of, os.toArray, T⟩, ty, pos, after, none⟩ :: rest) ks Q (Hd n D S F hs) (em.bind g) r :=
  GL.callG rfl (.inr rfl) fun hm a w hA => by
    subst has
    refine ⟨run_call hA.1 hcall hf ha, ?_⟩
    cases he : em with
    | none => rw [he] at hm; cases hm
    | some y =>
      rw [he] at hm
      have hsh : SH w F (star (stars Hs) (stars (leftR is hs))) := hA.2.mono fun m hm => by
        have := stars_part (ks := is) hm
        rw [hi] at this; exact this
      refine (hc y he w _ hsh).mono ?_
      rintro _ w' ⟨F', v, le, rfl, hρ, hw⟩
      exact ⟨v, rfl, k y F' v he le hρ hm _ _ ⟨hA.1.put hd _, hw.mono fun _ => stars_app⟩⟩
theorem GL.callTK {α : Type} {f : FuncId} {caps as vs : List Value} {of : Operand} {os : List Operand} {em : Option α} {x : α} {ρ : α → Fz → Value → Prop} {Hs : List HP} {Hs' : α → Fz → List HP} (he : em = some x) (is : List Nat)
    (hd : Nat.blt d n = true) (hcall : ∀ args w, (callFunc f args).run P w = .ok (.enter f args) w) (hf : evalS S of = some (.func (.func f) #[] caps.toArray)) (ha : evalL S os = some vs) (has : vs ++ caps = as) (hi : pickR is hs = Hs)
    (hc : CTH P f as.toArray F Hs em ρ Hs') (k : ∀ F' v, F ≤ F' → ρ x F' v → GL κ P ops rest ks Q (Hd n D ((d, v) :: S) F' (Hs' x F' ++ leftR is hs)) m r) :
    GL κ P ops (⟨some d, .call ⟨.value of, os.toArray, T⟩, ty, pos, after, none⟩ :: rest) ks Q (Hd n D S F hs) m r := by
  have h := GL.callT (κ := κ) (P := P) (ops := ops) (rest := rest) (ks := ks) (Q := Q) (r := r) (n := n) (D := D) (S := S) (F := F) (hs := hs) (d := d) (ty := ty) (pos := pos) (after := after) (T := T) (g := fun _ => m) is hd hcall hf ha has hi hc
    (fun x' F' v he' le hρ => by rw [he] at he'; cases he'; exact k F' v le hρ)
  rw [he] at h
  exact h
end
theorem allS {p : Nat → Prop} {n : Nat} (h : ∀ j, j < n → p j) (hn : p n) : ∀ j, j < n + 1 → p j := fun j hj => by
  rcases Nat.lt_or_ge j n with h' | h'
  · exact h j h'
  · rw [show j = n by omega]; exact hn
section
variable {β : Type} {P : Program} {ops : Array Oper} {l0 : List Oper} {cd : Code} {ks : List Kt} {Q : Exit → Act → World → Prop} {m : Option β} {r : β}
variable {n : Nat} {D : List Deferred} {S : List (Nat × Value)} {F F0 : Fz} {hs : List HP}
variable {α : Type} {γ : Nat} {C : Fz → Nat → α → HP} {xs xs' : List α} {b : Nat} {x : α}
theorem GL.pick {hs' : List HP} (is : List Nat) (h : pickR is hs = hs') (k : GL κ P ops l0 ks Q (Hd n D S F hs') m r) : GL κ P ops l0 ks Q (Hd n D S F hs) m r := GG.pick is h k
theorem GL.upR (i : Nat) (hC : Stays C) (le : F0 ≤ F) (hi : hs[i]? = some (arena γ C F0 xs)) (k : GL κ P ops l0 ks Q (Hd n D S F (hs.set i (arena γ C F xs))) m r) : GL κ P ops l0 ks Q (Hd n D S F hs) m r := GG.upR i hC le hi k
theorem GL.intoAt {p : HP} (k i : Nat) (hk : hs[k]? = some p) (hi : (hs.eraseIdx k)[i]? = some (arena γ C F0 xs)) (hC : Stays C) (le : F0 ≤ F) (hp : ∀ F' m, F ≤ F' → p m → C F' b x m) (he : xs' = xs ++ [x])
    (K : ∀ F', F ≤ F' → RefB γ F' xs.length b → GL κ P ops l0 ks Q (Hd n D S F' ((hs.eraseIdx k).set i (arena γ C F' xs'))) m r) : GL κ P ops l0 ks Q (Hd n D S F hs) m r := GG.intoAt k i hk hi hC le hp he K
theorem GL.freezeMap {K V : Type} [BEq K] {ck : K → Value} {rv : Fz → V → Value → Prop} {b : Nat} {l : List (K × V)} (i : Nat) (hi : hs[i]? = some (ownMapP ck rv F0 b l)) (le : F0 ≤ F) (k : ∀ F', F ≤ F' → RepMapF ck rv F' b l → GL κ P ops l0 ks Q (Hd n D S F' (hs.eraseIdx i)) m r) : GL κ P ops l0 ks Q (Hd n D S F hs) m r := GG.freezeMap i hi le k
theorem GC.pick {hs' : List HP} (is : List Nat) (h : pickR is hs = hs') (k : GC κ P cd ks Q (Hd n D S F hs') m r) : GC κ P cd ks Q (Hd n D S F hs) m r := GG.pick is h k
theorem GC.upR (i : Nat) (hC : Stays C) (le : F0 ≤ F) (hi : hs[i]? = some (arena γ C F0 xs)) (k : GC κ P cd ks Q (Hd n D S F (hs.set i (arena γ C F xs))) m r) : GC κ P cd ks Q (Hd n D S F hs) m r := GG.upR i hC le hi k
theorem GC.newA (C : Fz → Nat → α → HP) (i : Nat) (hi : hs[i]? = some (gho γ [])) (K : GC κ P cd ks Q (Hd n D S F (hs.set i (arena γ C F []))) m r) : GC κ P cd ks Q (Hd n D S F hs) m r := GG.newA C i hi K
theorem GC.newG (K : ∀ γ F', F ≤ F' → GC κ P cd ks Q (Hd n D S F' (gho γ [] :: hs)) m r) : GC κ P cd ks Q (Hd n D S F hs) m r := GG.newG K
theorem GC.norm {S' : List (Nat × Value)} {hs' : List HP} (hS : Sub S' S) (hh : hs = hs') (k : GC κ P cd ks Q (Hd n D S' F hs') m r) : GC κ P cd ks Q (Hd n D S F hs) m r := GG.norm hS hh k
theorem GE.upR (i : Nat) (hC : Stays C) (le : F0 ≤ F) (hi : hs[i]? = some (arena γ C F0 xs)) (k : GE κ P ks Q (Hd n D S F (hs.set i (arena γ C F xs))) m r) : GE κ P ks Q (Hd n D S F hs) m r := GG.upR i hC le hi k
end
theorem SH.picks {w : World} {F : Fz} {hs hs' : List HP} (ks : List Nat) (e : pickR ks hs = hs') (h : SH w F (stars hs)) : SH w F (stars hs') := e ▸ h.mono fun _ => stars_pick
end Go.Dec
end

section
namespace Go.Dec
variable {κ : Option Nat}
section
variable {β : Type} {P : Program} {ks : List Kt} {Q : Exit → Act → World → Prop} {m : Option β} {r : β}
variable {n : Nat} {D : List Deferred} {S0 : List (Nat × Value)} {F : Fz}
theorem GC.drawGD {hs : List HP} {id : Nat} {l : List Oper} (k g : Nat) (X : Env → List ValF) (C : (Nat → Bool) → Env → List HP) (hm : P.follows .mixedOrders = true) (hord : ordB 0 l = true) (htail : ∀ t o, k ≤ t → l[t]? = some o → ∀ j, j < t → ∃ s, depB l s t j = true)
    (hlen : Nat.ble k l.length = true) (hX : ∀ env, (X env).length = k) (hfr : freshG n S0 (l.take k) = true) (hC : ∀ env, C (fun _ => false) env = hs ++ List.replicate g emp)
    (hops : OpsG κ P l.toArray l n D S0 F X C 0 (l.take k))
    (tail : ∀ env F', F ≤ F' → (∀ (j : Nat) (q : ValF), (X env)[j]? = some q → q.2 F') → GL κ P l.toArray (l.drop k) ks Q (Hd n D (outG (l.take k) (X env) S0) F' (C (fun j => Nat.blt j k) env)) m r) :
    GC κ P (.region id l.toArray true) ks Q (Hd n D S0 F hs) m r := by
  intro hmr a w ha
  have hlen' : k ≤ l.length := Nat.le_of_ble_eq_true hlen
  let Free : (Nat → Bool) → Act → World → Prop := fun L a w => Down l L ∧ (∀ i, k ≤ i → L i = false) ∧ ∃ env F' S, F ≤ F' ∧ Sub S0 S ∧ (∀ (j d : Nat) (v : Value), L j = true → dstOf l j = some d → ((X env)[j]?).map Prod.fst = some v → lookS S d = some v) ∧ (∀ (j : Nat) (q : ValF), L j = true → (X env)[j]? = some q → ∀ G, F' ≤ G → q.2 G) ∧ Hd n D S F' (C L env) a w
  let Inv : (Nat → Bool) → Act → World → Prop := fun L a w => Free L a w ∨ ∃ i, k < i ∧ Down l L ∧ (∀ j, L j = true ↔ j < i) ∧ wpL κ P l.toArray (interp κ P ks Q) (l.drop i) a w
  have hend0 : ∀ L a w, (∀ i, i < k → L i = true) → Free L a w → wpL κ P l.toArray (interp κ P ks Q) (l.drop k) a w := by
    rintro L a w hall ⟨hdn, hout, env, F', S, le, hS, hV, hΦ, hA⟩
    have hXl := hX env
    have hLk : L = fun j => Nat.blt j k := by
      funext j
      rcases Nat.lt_or_ge j k with h | h
      · rw [hall j h]; exact (Nat.ble_eq_true_of_le h).symm
      · rw [hout j h]
        cases hb : Nat.blt j k with
        | false => rfl
        | true => have := Nat.le_of_ble_eq_true hb; omega
    refine tail env F' le (fun j q hq => hΦ j q (hall j (by have := lt_of_getEl hq; omega)) hq F' (Fz.le_refl F')) hmr a w ⟨hA.1.sub (sub_outG hS fun i o d q e1 e2 e3 => ?_), hLk ▸ hA.2⟩
    have hik : i < k := by have := lt_of_getEl e3; omega
    refine hV i d q.1 (hall i hik) ?_ (by rw [e3]; rfl)
    rw [List.getElem?_take, if_pos hik] at e1
    simp [dstOf, e1, e2]
  refine wp_region_inv hm Inv (fun i o h e he hb => by have := ordB_spec hord i o (by simpa using h) e he hb; omega) ?_ ?_ ?_
  · refine .inl ⟨fun i o _ h => (by cases h), fun _ _ => rfl, ⟨fun _ => none, fun _ => 0, fun _ => [], fun _ => F, fun _ => none⟩, F, S0, Fz.le_refl F, Sub.refl _, fun j d v h => (by cases h), fun j q h => (by cases h), ha.1, ?_⟩
    rw [hC]
    have h1 := ha.2.drew (w.drawn + 1)
    refine h1.mono fun m hm' => ?_
    exact GC.drawG.stars_emps hm'
  · intro L a w i o ho hLi hdeps hI
    have ho' : l[i]? = some o := by simpa using ho
    have hil : i < l.length := lt_of_getEl ho'
    by_cases hi : i < k
    · rcases hI with hF | ⟨k', hk, _, hL, _⟩
      case inr => have := (hL i).2 (by omega); rw [hLi] at this; cases this
      obtain ⟨hdn, hout, env, F', S, le, hS, hV, hΦ, hA⟩ := hF
      have hot : (l.take k)[i]? = some o := by rw [List.getElem?_take, if_pos hi]; exact ho'
      have hop := OpsG.get hops i o hot
      simp only [Nat.zero_add] at hop
      have hup : ∀ k' j, depB l k' j i = true → L j = false := fun k' j h => by
        cases hj : L j with
        | false => rfl
        | true =>
          have := dep_true hdn h fun o' ho'' e he hb => hdn j o' ho'' hj e he hb
          rw [hLi] at this; cases this
      have hdn' : ∀ k' j, depB l k' i j = true → L j = true := fun k' j h => dep_true hdn h fun o' ho'' e he hb => by
        rw [ho'] at ho''; cases ho''; exact hdeps e he hb
      obtain ⟨Si, hSi, hstep⟩ := hop L env F' le hLi hdn' hup hΦ
      have hsub := hSi S hS hV
      have hn : ∀ d, o.dst = some d → Nat.blt d n = true := fun d hd => (freshG_get hfr hot hd).1
      have h1 := g_frame (S := S) hn hA.1 (hstep rfl a w ⟨hA.1.sub hsub, hA.2⟩)
      refine wp_of_seg (fun e a w hne hq => absurd hq.1 hne) (fun a' w' hq => ?_) h1
      obtain ⟨_, env', F'', le', ⟨M, hMl, hMc, hMe⟩, q, hq, hqf, hA'⟩ := hq
      have hst : ∀ (j : Nat) (q : ValF), L j = true → (X env')[j]? = some q → (X env)[j]? = some q := fun j q hj hx => by
        have hjl : j < M.length := by rw [hMl, hX env, ← hX env']; exact lt_of_getEl hx
        exact maskL_get hMe.symm (mask_true hdn hLi hMc j hj hjl) hx
      refine .inl ⟨?_, ?_, env', F'', (match o.dst with | some d => (d, q.1) :: S | none => S), Fz.le_trans le le', ?_, ?_, ?_, hA'⟩
      · intro j oj hoj hj e he hb
        by_cases hji : j = i
        · subst hji
          rw [ho'] at hoj; cases hoj
          have := hdeps e he hb
          simp only [updB]; split
          · rfl
          · exact this
        · have hLj : L j = true := by simpa [updB, hji] using hj
          have := hdn j oj hoj hLj e he hb
          simp only [updB]; split
          · rfl
          · exact this
      · intro j hj
        simp only [updB]; rw [if_neg (by omega)]; exact hout j hj
      · cases hd : o.dst with
        | none => exact hS
        | some d => exact sub_push hS (freshG_get hfr hot hd).2 _
      · intro j d' v' hj hd' hv'
        by_cases hji : j = i
        · subst hji
          have hod : o.dst = some d' := by simpa [dstOf, ho'] using hd'
          rw [hq] at hv'; simp only [Option.map_some, Option.some.injEq] at hv'
          subst hv'
          rw [hod]; exact look_self
        · have hLj : L j = true := by simpa [updB, hji] using hj
          have hjk : j < k := by
            rcases Nat.lt_or_ge j k with h | h
            · exact h
            · rw [hout j h] at hLj; cases hLj
          obtain ⟨q', hq', rfl⟩ := Option.map_eq_some_iff.1 hv'
          have h0 := hV j d' q'.1 hLj hd' (by rw [hst j q' hLj hq']; rfl)
          cases hd : o.dst with
          | none => exact h0
          | some d =>
            have hne : d ≠ d' := fun h => by
              subst h
              cases hoj : l[j]? with
              | none => simp [dstOf, hoj] at hd'
              | some oj =>
                have hdj : oj.dst = some d := by simpa [dstOf, hoj] using hd'
                exact hji (freshG_inj hfr (by rw [List.getElem?_take, if_pos hjk]; exact hoj) hot hdj hd)
            exact look_push hne h0
      · intro j q' hj hq' G hG
        by_cases hji : j = i
        · subst hji; rw [hq] at hq'; cases hq'; exact hqf G hG
        · have hLj : L j = true := by simpa [updB, hji] using hj
          exact hΦ j q' hLj (hst j q' hLj hq') G (Fz.le_trans le' hG)
    ·
      have hdnL : Down l L := by
        rcases hI with hF | ⟨_, _, hd, _, _⟩
        · exact hF.1
        · exact hd
      have hall : ∀ j, j < i → L j = true := fun j hj => by
        obtain ⟨s, hs⟩ := htail i o (by omega) ho' j hj
        exact dep_true hdnL hs fun o' ho'' e he hb => by rw [ho'] at ho''; cases ho''; exact hdeps e he hb
      have hdnU : Down l (updB L i) := fun j oj hoj hj e he hb => by
        have : L e.on = true := by
          by_cases hji : j = i
          · subst hji; rw [ho'] at hoj; cases hoj; exact hdeps e he hb
          · exact hdnL j oj hoj (by simpa [updB, hji] using hj) e he hb
        simp only [updB]; split
        · rfl
        · exact this
      have hw : wpL κ P l.toArray (interp κ P ks Q) (l.drop i) a w := by
        rcases hI with hF | ⟨k', hk, _, hL, hwp⟩
        · have hiV : i = k := by
            rcases Nat.lt_or_ge k i with h | h
            · have := hall k h; rw [hF.2.1 _ (Nat.le_refl _)] at this; cases this
            · omega
          subst hiV
          exact hend0 L a w hall hF
        · have : k' = i := by
            have h1 : ¬ i < k' := fun h => by have := (hL i).2 h; rw [hLi] at this; cases this
            have h2 : ¬ k' < i := fun h => by have := (hL k').1 (hall k' h); omega
            omega
          subst this; exact hwp
      have hdrop : l.drop i = o :: l.drop (i + 1) := by
        have hg : l[i]'hil = o := by simpa [hil] using ho'
        rw [← hg]; exact List.drop_eq_getElem_cons hil
      rw [hdrop] at hw
      have hnext : ∀ a' w', wpL κ P l.toArray (interp κ P ks Q) (l.drop (i + 1)) a' w' → Inv (updB L i) a' w' := fun a' w' h =>
        .inr ⟨i + 1, by omega, hdnU, fun j => by
          simp only [updB]
          by_cases hj : j = i
          · simp [hj]
          · simp only [hj, if_false]
            constructor
            · intro hLj
              have : j < i := by
                rcases Nat.lt_or_ge j i with h | h
                · exact h
                · rcases hI with hF | ⟨k', hk, _, hL, _⟩
                  · rw [hF.2.1 j (by omega)] at hLj; cases hLj
                  · have h1 := (hL j).1 hLj
                    have := (hL i).2 (by omega); rw [hLi] at this; cases this
              omega
            · intro hj'; exact hall j (by omega), h⟩
      unfold wpL at hw
      split
      · rename_i hwn
        rw [if_pos hwn] at hw
        exact opW_mono hnext hw
      · rename_i hwn
        rw [if_neg hwn] at hw
        exact hnext _ _ hw
  · intro L a w hall hI
    have hw : wpL κ P l.toArray (interp κ P ks Q) (l.drop l.length) a w := by
      rcases hI with hF | ⟨k', hk, _, hL, hwp⟩
      · have hVl : k = l.length := by
          rcases Nat.lt_or_ge k l.length with h | h
          · have := hall k (by simpa using h); rw [hF.2.1 _ (Nat.le_refl _)] at this; cases this
          · omega
        have := hend0 L a w (fun i hi => hall i (by simp; omega)) hF
        rwa [hVl] at this
      · have : l.length ≤ k' := by
          rcases Nat.lt_or_ge k' l.length with h | h
          · have := (hL k').1 (hall k' (by simpa using h)); omega
          · exact h
        rw [List.drop_eq_nil_of_le this] at hwp
        rw [List.drop_eq_nil_of_le (Nat.le_refl _)]; exact hwp
    rw [List.drop_eq_nil_of_le (Nat.le_refl _)] at hw
    exact hw
theorem deepN {l : List Oper} {k n : Nat} (hl : Nat.beq l.length n = true) (h : ∀ t, t < n → k ≤ t → ∀ j, j < t → ∃ s, depB l s t j = true) : ∀ t o, k ≤ t → l[t]? = some o → ∀ j, j < t → ∃ s, depB l s t j = true := fun t o hk ho j hj => by
  have h1 := (List.getElem?_eq_some_iff.1 ho).1
  have h2 := Nat.eq_of_beq_eq_true hl
  exact h t (by omega) hk j hj
def PPost (Q : Exit → Act → World → Prop) : Exit → Act → World → Prop := fun e a w => ∃ c, e = .panic c ∧ Q (.panic c) a w
def OpP (κ : Option Nat) (P : Program) (ops : Array Oper) (l : List Oper) (n : Nat) (D : List Deferred) (S0 : List (Nat × Value)) (F : Fz) (X : Env → List ValF) (C : (Nat → Bool) → Env → List HP) (Q : Exit → Act → World → Prop) (m : Option β) (r : β) (i : Nat) (o : Oper) : Prop :=
  ∀ L env F', F ≤ F' → L i = false → (∀ k j, depB l k i j = true → L j = true) → (∀ k j, depB l k j i = true → L j = false) → (∀ (j : Nat) (q : ValF), L j = true → (X env)[j]? = some q → ∀ G, F' ≤ G → q.2 G) →
    ∃ Si, (∀ S, Sub S0 S → (∀ (j d : Nat) (v : Value), L j = true → dstOf l j = some d → ((X env)[j]?).map Prod.fst = some v → lookS S d = some v) → Sub Si S) ∧
      GL κ P ops [o] [] (PPost Q) (Hd n D Si F' (C L env)) m r
def OpsP (κ : Option Nat) (P : Program) (ops : Array Oper) (l : List Oper) (n : Nat) (D : List Deferred) (S0 : List (Nat × Value)) (F : Fz) (X : Env → List ValF) (C : (Nat → Bool) → Env → List HP) (Q : Exit → Act → World → Prop) (m : Option β) (r : β) (ip : Nat) : Nat → List Oper → Prop
  | _, [] => True
  | i, o :: os => ((i = ip ∧ OpP κ P ops l n D S0 F X C Q m r i o) ∨ (∃ s, depB l s i ip = true) ∨ (i ≠ ip ∧ OpG κ P ops l n D S0 F X C i o)) ∧ OpsP κ P ops l n D S0 F X C Q m r ip (i + 1) os
theorem OpsP.get {ops : Array Oper} {l : List Oper} {X : Env → List ValF} {C : (Nat → Bool) → Env → List HP} {ip : Nat} : ∀ {k : Nat} {os : List Oper}, OpsP κ P ops l n D S0 F X C Q m r ip k os → ∀ i o, os[i]? = some o → (k + i = ip ∧ OpP κ P ops l n D S0 F X C Q m r (k + i) o) ∨ (∃ s, depB l s (k + i) ip = true) ∨ (k + i ≠ ip ∧ OpG κ P ops l n D S0 F X C (k + i) o)
  | _, [], _, i, o, h => by simp at h
  | k, x :: os, hb, 0, o, h => by simp at h; subst h; exact hb.1
  | k, x :: os, hb, i + 1, o, h => by
    have := OpsP.get hb.2 i o (by simpa using h)
    rwa [show k + 1 + i = k + (i + 1) by omega] at this
theorem OpsP.nil {ops : Array Oper} {l : List Oper} {X : Env → List ValF} {C : (Nat → Bool) → Env → List HP} {ip k : Nat} : OpsP κ P ops l n D S0 F X C Q m r ip k [] := trivial
theorem OpsP.cons {ops : Array Oper} {l : List Oper} {X : Env → List ValF} {C : (Nat → Bool) → Env → List HP} {ip k : Nat} {o : Oper} {os : List Oper} (hk : k ≠ ip) (h : OpG κ P ops l n D S0 F X C k o) (t : OpsP κ P ops l n D S0 F X C Q m r ip (k + 1) os) : OpsP κ P ops l n D S0 F X C Q m r ip k (o :: os) := ⟨.inr (.inr ⟨hk, h⟩), t⟩
theorem OpsP.at_ {ops : Array Oper} {l : List Oper} {X : Env → List ValF} {C : (Nat → Bool) → Env → List HP} {k : Nat} {o : Oper} {os : List Oper} (h : OpP κ P ops l n D S0 F X C Q m r k o) (t : OpsP κ P ops l n D S0 F X C Q m r k (k + 1) os) : OpsP κ P ops l n D S0 F X C Q m r k k (o :: os) := ⟨.inl ⟨rfl, h⟩, t⟩
theorem OpsP.dep {ops : Array Oper} {l : List Oper} {X : Env → List ValF} {C : (Nat → Bool) → Env → List HP} {ip k : Nat} {o : Oper} {os : List Oper} (s : Nat) (h : depB l s k ip = true) (t : OpsP κ P ops l n D S0 F X C Q m r ip (k + 1) os) : OpsP κ P ops l n D S0 F X C Q m r ip k (o :: os) := ⟨.inr (.inl ⟨s, h⟩), t⟩
theorem wp_of_pan {ops : Array Oper} {o : Oper} {a : Act} {w : World} {K : Act → World → Prop} (h : wpL κ P ops (PPost Q) [o] a w) :
    if Region.wanted o (yielded ops a.tmps) then opW κ P o a w K (interp κ P ks Q) else K (a.put o.dst undef) w := by
  unfold wpL at h
  split
  · rename_i hw
    rw [if_pos hw] at h
    refine opW_imp (fun a w hq => ?_) (fun e a w hne hq => ?_) h
    · obtain ⟨c, e, _⟩ := hq; cases e
    · obtain ⟨c, rfl, hq⟩ := hq
      exact interp_panic hq
  · rename_i hw
    rw [if_neg hw] at h
    obtain ⟨c, e, _⟩ := h; cases e
theorem GL.ppost {Q : Exit → Act → World → Prop} {A : Act → World → Prop} {c : List PanicEntry} (h : m = some r → ∀ a w, A a w → Q (.panic c) a w) : m = some r → ∀ a w, A a w → PPost Q (.panic c) a w :=
  fun hm a w ha => ⟨c, rfl, h hm a w ha⟩
theorem GC.drawGP {hs : List HP} {id : Nat} {l : List Oper} (ip g : Nat) (X : Env → List ValF) (C : (Nat → Bool) → Env → List HP) (hm : P.follows .mixedOrders = true) (hord : ordB 0 l = true)
    (hip : Nat.blt ip l.length = true) (hX : ∀ env, (X env).length = l.length) (hfr : freshG n S0 l = true) (hC : ∀ env, C (fun _ => false) env = hs ++ List.replicate g emp)
    (hops : OpsP κ P l.toArray l n D S0 F X C Q m r ip 0 l) :
    GC κ P (.region id l.toArray true) ks Q (Hd n D S0 F hs) m r := by
  intro hmr a w ha
  have hip' : ip < l.length := Nat.le_of_ble_eq_true hip
  let Inv : (Nat → Bool) → Act → World → Prop := fun L a w => L ip = false ∧ Down l L ∧ ∃ env F' S, F ≤ F' ∧ Sub S0 S ∧ (∀ (j d : Nat) (v : Value), L j = true → dstOf l j = some d → ((X env)[j]?).map Prod.fst = some v → lookS S d = some v) ∧ (∀ (j : Nat) (q : ValF), L j = true → (X env)[j]? = some q → ∀ G, F' ≤ G → q.2 G) ∧ Hd n D S F' (C L env) a w
  refine wp_region_inv hm Inv (fun i o h e he hb => by have := ordB_spec hord i o (by simpa using h) e he hb; omega) ?_ ?_ ?_
  · refine ⟨rfl, fun i o _ h => (by cases h), ⟨fun _ => none, fun _ => 0, fun _ => [], fun _ => F, fun _ => none⟩, F, S0, Fz.le_refl F, Sub.refl _, fun j d v h => (by cases h), fun j q h => (by cases h), ha.1, ?_⟩
    rw [hC]
    exact (ha.2.drew (w.drawn + 1)).mono fun m hm' => GC.drawG.stars_emps hm'
  · intro L a w i o ho hLi hdeps hI
    have ho' : l[i]? = some o := by simpa using ho
    obtain ⟨hLp, hdn, env, F', S, le, hS, hV, hΦ, hA⟩ := hI
    have hop := OpsP.get hops i o ho'
    simp only [Nat.zero_add] at hop
    have hup : ∀ k' j, depB l k' j i = true → L j = false := fun k' j h => by
      cases hj : L j with
      | false => rfl
      | true =>
        have := dep_true hdn h fun o' ho'' e he hb => hdn j o' ho'' hj e he hb
        rw [hLi] at this; cases this
    have hdn' : ∀ k' j, depB l k' i j = true → L j = true := fun k' j h => dep_true hdn h fun o' ho'' e he hb => by
      rw [ho'] at ho''; cases ho''; exact hdeps e he hb
    have hn : ∀ d, o.dst = some d → Nat.blt d n = true := fun d hd => (freshG_get hfr ho' hd).1
    rcases hop with ⟨rfl, hop⟩ | ⟨s, hs'⟩ | ⟨hne0, hop⟩
    · obtain ⟨Si, hSi, hstep⟩ := hop L env F' le hLi hdn' hup hΦ
      exact wp_of_pan (hstep hmr a w ⟨hA.1.sub (hSi S hS hV), hA.2⟩)
    · have := hdn' s ip hs'; rw [hLp] at this; cases this
    · obtain ⟨Si, hSi, hstep⟩ := hop L env F' le hLi hdn' hup hΦ
      have hsub := hSi S hS hV
      have h1 := g_frame (S := S) hn hA.1 (hstep rfl a w ⟨hA.1.sub hsub, hA.2⟩)
      refine wp_of_seg (fun e a w hne hq => absurd hq.1 hne) (fun a' w' hq => ?_) h1
      obtain ⟨_, env', F'', le', ⟨M, hMl, hMc, hMe⟩, q, hq, hqf, hA'⟩ := hq
      have hst : ∀ (j : Nat) (q : ValF), L j = true → (X env')[j]? = some q → (X env)[j]? = some q := fun j q hj hx => by
        have hjl : j < M.length := by rw [hMl, hX env, ← hX env']; exact lt_of_getEl hx
        exact maskL_get hMe.symm (mask_true hdn hLi hMc j hj hjl) hx
      refine ⟨by simp only [updB]; rw [if_neg (fun e => hne0 e.symm)]; exact hLp, ?_, env', F'', (match o.dst with | some d => (d, q.1) :: S | none => S), Fz.le_trans le le', ?_, ?_, ?_, hA'⟩
      · intro j oj hoj hj e he hb
        by_cases hji : j = i
        · subst hji
          rw [ho'] at hoj; cases hoj
          have := hdeps e he hb
          simp only [updB]; split
          · rfl
          · exact this
        · have hLj : L j = true := by simpa [updB, hji] using hj
          have := hdn j oj hoj hLj e he hb
          simp only [updB]; split
          · rfl
          · exact this
      · cases hd : o.dst with
        | none => exact hS
        | some d => exact sub_push hS (freshG_get hfr ho' hd).2 _
      · intro j d' v' hj hd' hv'
        by_cases hji : j = i
        · subst hji
          have hod : o.dst = some d' := by simpa [dstOf, ho'] using hd'
          rw [hq] at hv'; simp only [Option.map_some, Option.some.injEq] at hv'
          subst hv'
          rw [hod]; exact look_self
        · have hLj : L j = true := by simpa [updB, hji] using hj
          obtain ⟨q', hq', rfl⟩ := Option.map_eq_some_iff.1 hv'
          have h0 := hV j d' q'.1 hLj hd' (by rw [hst j q' hLj hq']; rfl)
          cases hd : o.dst with
          | none => exact h0
          | some d =>
            have hne : d ≠ d' := fun h => by
              subst h
              cases hoj : l[j]? with
              | none => simp [dstOf, hoj] at hd'
              | some oj =>
                have hdj : oj.dst = some d := by simpa [dstOf, hoj] using hd'
                exact hji (freshG_inj hfr hoj ho' hdj hd)
            exact look_push hne h0
      · intro j q' hj hq' G hG
        by_cases hji : j = i
        · subst hji; rw [hq] at hq'; cases hq'; exact hqf G hG
        · have hLj : L j = true := by simpa [updB, hji] using hj
          exact hΦ j q' hLj (hst j q' hLj hq') G (Fz.le_trans le' hG)
  · intro L a w hall hI
    have := hall ip (by simpa using hip')
    rw [hI.1] at this; cases this
end
end Go.Dec
end

section
namespace Go.Dec
variable {κ : Option Nat}
open Classical in
noncomputable def permM {α τ : Type} (b : α → τ → Option τ) (l : List α) (s : τ) : Option τ :=
  if ∀ l', l'.Perm l → forL b l' s = forL b l s then forL b l s else none
theorem permM_some {α τ : Type} {b : α → τ → Option τ} {l : List α} {s r : τ} (h : permM b l s = some r) : ∀ l', l'.Perm l → forL b l' s = some r := by
  unfold permM at h
  split at h
  · rename_i hp; intro l' hl; rw [hp l' hl]; exact h
  · cases h
theorem permM_of {α τ : Type} {b : α → τ → Option τ} {l : List α} {s r : τ} (h : ∀ l', l'.Perm l → forL b l' s = some r) : permM b l s = some r := by
  unfold permM
  rw [if_pos (fun l' hl => by rw [h l' hl, h l (.refl _)])]
  exact h l (.refl _)
def MPost {α τ : Type} (B : Nat) (I : List α → List α → τ → Act → World → Prop) (b : α → τ → Option τ) (todo done : List α) (s : τ) : Exit → Act → World → Prop := fun e a w =>
  (todo = [] ∧ e = .exit B ∧ I [] done s a w) ∨ (e = .normal ∧ ∃ x rest s', (x :: rest).Perm todo ∧ b x s = some s' ∧ I rest (x :: done) s' a w)
theorem MPost.over {α τ : Type} {B : Nat} {I : List α → List α → τ → Act → World → Prop} {b : α → τ → Option τ} {done : List α} {s : τ} {A : Act → World → Prop} (h : ∀ a w, A a w → I [] done s a w) : some () = some () → ∀ a w, A a w → MPost B I b [] done s (.exit B) a w :=
  fun _ a w ha => .inl ⟨rfl, rfl, h a w ha⟩
theorem MPost.norm {α τ : Type} {B : Nat} {I : List α → List α → τ → Act → World → Prop} {b : α → τ → Option τ} {todo done rest : List α} {s s' m : τ} {x : α} {A : Act → World → Prop} (hp : (x :: rest).Perm todo) (hb : b x s = some s') (h : ∀ a w, A a w → I rest (x :: done) m a w) : some m = some s' → ∀ a w, A a w → MPost B I b todo done s .normal a w :=
  fun e a w ha => .inr ⟨rfl, x, rest, s', hp, hb, by simp only [Option.some.injEq] at e; subst e; exact h a w ha⟩
theorem wp_mapLoop {α τ : Type} {P : Program} {c : Code} {B : Nat} {I : List α → List α → τ → Act → World → Prop} {b : α → τ → Option τ} {R : τ} {l : List α}
    (round : ∀ todo done s, (∀ x ∈ todo, ∃ s', b x s = some s') → ∀ a w, I todo done s a w → c.wpIn (fen κ) 0 P (MPost B I b todo done s) a w) : ∀ (n : Nat) (todo done : List α) (s : τ), todo.length = n → (∀ l', l'.Perm todo → forL b l' s = some R) → (done ++ todo).Perm l → ∀ a w, I todo done s a w →
      ∀ (fr : Frame) (k : List Item) (cs : List Frame), fr.roundOf = (fen κ).round → ∃ a' w' done', done'.Perm l ∧ I [] done' R a' w' ∧ ArrivesIn (Machine.fenced P (fen κ)) P (lone (fr.atR a (.code c :: .inLoop c :: k)) cs w) fr k cs (.exit B) a' w'
  | n, todo, done, s, hn, hall, hdone, a, w, hI, fr, k, cs, hro => by
    have hx : ∀ x ∈ todo, ∃ s', b x s = some s' := fun x hm => by
      obtain ⟨l1, l2, e⟩ := List.append_of_mem hm
      have hp : (x :: (l1 ++ l2)).Perm todo := by rw [e]; exact List.perm_middle.symm
      have := hall _ hp
      simp only [forL] at this
      cases hb : b x s with
      | none => rw [hb] at this; cases this
      | some s' => exact ⟨s', rfl⟩
    obtain ⟨e, a₁, w₁, hq, harr⟩ := round todo done s hx a w hI fr (.inLoop c :: k) cs hro (fen_fn κ _) (fen_room κ _)
    rcases hq with ⟨rfl, rfl, hI'⟩ | ⟨rfl, x, rest, s', hp, hb, hI'⟩
    · have h0 := hall [] (.refl _)
      simp only [forL, Option.some.injEq] at h0
      subst h0
      exact ⟨a₁, w₁, done, by simpa using hdone, hI', .pass (x := .inLoop c) rfl (fun _ _ => .inl (by simp)) harr⟩
    · have hlen : rest.length < n := by have := hp.length_eq; simp at this; omega
      have hall' : ∀ l', l'.Perm rest → forL b l' s' = some R := fun l' hl' => by
        have := hall (x :: l') ((hl'.cons x).trans hp)
        simpa [forL, hb] using this
      have hdone' : (x :: done ++ rest).Perm l := by
        refine List.Perm.trans ?_ hdone
        have h1 : (x :: done ++ rest).Perm (done ++ x :: rest) := List.perm_middle.symm
        exact h1.trans (hp.append_left done)
      obtain ⟨a₂, w₂, done₂, hd₂, hI₂, harr₂⟩ := wp_mapLoop round rest.length rest (x :: done) s' rfl hall' hdone' a₁ w₁ hI' fr k cs hro
      exact ⟨a₂, w₂, done₂, hd₂, hI₂, .of_steps (StepsIn.trans harr (.one (fenced_calm (n := 0) (fen_fn κ _) (fen_room κ _) rfl) stepR_inLoop)) harr₂⟩
termination_by n => n
section
variable {β : Type} {P : Program} {ks ks' : List Kt} {Q : Exit → Act → World → Prop} {A : Act → World → Prop} {r : β}
theorem GC.mapLoop {α τ : Type} {c : Code} {B : Nat} {l : List α} {b : α → τ → Option τ} {s0 : τ} {f : τ → Option β} (I : List α → List α → τ → Act → World → Prop) (hk : exitK B ks = some ks')
    (hI : ∀ a w, A a w → I l [] s0 a w)
    (round : ∀ todo done s, (∀ x ∈ todo, ∃ s', b x s = some s') → GC κ P c [] (MPost B I b todo done s) (I todo done s) (some ()) ())
    (after : ∀ done R, permM b l s0 = some R → done.Perm l → GE κ P ks' Q (I [] done R) (f R) r) :
    GC κ P (.loop c) ks Q A ((permM b l s0).bind f) r := by
  intro hm a w ha
  cases hl : permM b l s0 with
  | none => rw [hl] at hm; cases hm
  | some R =>
    rw [hl] at hm
    intro fr k cs hro hf hr
    obtain ⟨a', w', done, hd, hI', harr⟩ := wp_mapLoop (I := I) (b := b) (R := R) (l := l) (fun todo done s hx a w hI' => round todo done s hx rfl a w hI') l.length l [] s0 rfl (permM_some hl) (by simp) a w (hI a w ha) fr k cs hro
    exact ⟨.exit B, a', w', interp_exit hk (after done R hl hd hm a' w' hI'), .of_steps (.one (fenced_calm hf hr rfl) stepR_loop) harr⟩
theorem GL.use {σ : Type} {ops : Array Oper} {l0 : List Oper} {e : Option σ} {s' : σ} {Q : Exit → Act → World → Prop} {A : Act → World → Prop} (he : e = some s') (k : GL κ P ops l0 ks Q A e s') : GL κ P ops l0 ks Q A (some ()) () := fun _ => k he
end
section
variable {K V : Type}
def ownIter (ck : K → Value) (rv : Fz → V → Value → Prop) (F : Fz) (b it : Nat) (todo done : List (K × V)) : HP := fun m => ∃ (es : Array MapEntry) (clock : Nat) (l' : List (K × V)) (seen : Array Nat) (last : Nat),
  star (pt b (.map es clock)) (pt it (.mapIter (some b) clock seen last)) m ∧ MRel ck rv F es.toList l' ∧ Births es.toList clock ∧ (seen.isEmpty = false → last = clock) ∧
  todo.Perm (((es.toList.zip l').filter (fun z => !seen.contains z.1.born)).map Prod.snd) ∧ done.Perm (((es.toList.zip l').filter (fun z => seen.contains z.1.born)).map Prod.snd) ∧
  ∀ x, done.head? = some x → ∃ z ∈ es.toList.zip l', z.2 = x ∧ seen.back? = some z.1.born
theorem own_iter {ck : K → Value} {rv : Fz → V → Value → Prop} {F F0 : Fz} {w : World} {H : HP} {b it : Nat} {todo done : List (K × V)} (h : SH w F (star (ownIter ck rv F0 b it todo done) H)) : ∃ (es : Array MapEntry) (clock : Nat) (l' : List (K × V)) (seen : Array Nat) (last : Nat),
    w.heap[b]? = some (.map es clock) ∧ w.heap[it]? = some (.mapIter (some b) clock seen last) ∧ SH w F (star (pt it (.mapIter (some b) clock seen last)) (star (pt b (.map es clock)) H)) ∧ MRel ck rv F0 es.toList l' ∧ Births es.toList clock ∧ (seen.isEmpty = false → last = clock) ∧
    todo.Perm (((es.toList.zip l').filter (fun z => !seen.contains z.1.born)).map Prod.snd) ∧ done.Perm (((es.toList.zip l').filter (fun z => seen.contains z.1.born)).map Prod.snd) ∧
    ∀ x, done.head? = some x → ∃ z ∈ es.toList.zip l', z.2 = x ∧ seen.back? = some z.1.born := by
  obtain ⟨m, ⟨m1, m2, d, s1, s2, ⟨es, c, l', seen, last, h1, h2⟩, hq⟩, k⟩ := h
  have hs : SH w F (star (pt b (.map es c)) (star (pt it (.mapIter (some b) c seen last)) H)) := ⟨m, star_assoc ⟨m1, m2, d, s1, s2, h1, hq⟩, k⟩
  have hs' : SH w F (star (pt it (.mapIter (some b) c seen last)) (star (pt b (.map es c)) H)) := hs.mono fun m hm => star_swap hm
  exact ⟨es, c, l', seen, last, hs.owned, hs'.owned, hs', h2⟩
theorem MRel.zip_mem {ck : K → Value} {rv : Fz → V → Value → Prop} {F : Fz} : ∀ {es : List MapEntry} {l : List (K × V)} {z : MapEntry × (K × V)}, MRel ck rv F es l → z ∈ es.zip l → z.1.key = ck z.2.1 ∧ ∀ F', F ≤ F' → rv F' z.2.2 z.1.val
  | [], _, _, _, h => by simp at h
  | _ :: _, [], _, _, h => by simp at h
  | e :: es, x :: l, z, ⟨h1, h2, h3⟩, h => by
    rw [List.zip_cons_cons, List.mem_cons] at h
    rcases h with rfl | h
    · exact ⟨h1, h2⟩
    · exact h3.zip_mem h
theorem MRel.map_zip {ck : K → Value} {rv : Fz → V → Value → Prop} {F : Fz} {es : List MapEntry} {l : List (K × V)} (h : MRel ck rv F es l) : (es.zip l).map Prod.snd = l ∧ (es.zip l).map Prod.fst = es :=
  ⟨List.map_snd_zip (by rw [h.len]; exact Nat.le_refl _), List.map_fst_zip (by rw [h.len]; exact Nat.le_refl _)⟩
theorem filter_split {α : Type} {g : α → Nat} {p : α → Bool} : ∀ {Z : List α} {z : α}, (Z.map g).Nodup → z ∈ Z → p z = true → (Z.filter p).Perm (z :: Z.filter (fun y => p y && !(g y == g z)))
  | [], _, _, h, _ => by cases h
  | y :: Z, z, hn, h, hp => by
    simp only [List.map_cons, List.nodup_cons] at hn
    rcases List.mem_cons.1 h with rfl | h
    · have h1 : Z.filter (fun y => p y && !(g y == g z)) = Z.filter p := List.filter_congr fun y hy => by
        have : g y ≠ g z := fun e => hn.1 (e ▸ List.mem_map_of_mem hy)
        simp [this]
      simp only [List.filter_cons, hp, if_true, BEq.rfl, Bool.not_true, Bool.and_false, Bool.false_eq_true, if_false]
      rw [h1]
    · have hne : (g y == g z) = false := by
        cases hb : g y == g z with
        | false => rfl
        | true => exact absurd (List.mem_map_of_mem (f := g) h) (by rw [← (beq_iff_eq.1 hb : g y = g z)]; exact hn.1)
      have ih := filter_split hn.2 h hp
      simp only [List.filter_cons, hne, Bool.not_false, Bool.and_true]
      cases p y with
      | true => simp only [if_true]; exact (ih.cons y).trans (.swap _ _ _)
      | false => simpa using ih
theorem filter_grow {α : Type} {g : α → Nat} {p q : α → Bool} {Z : List α} {z : α} (hn : (Z.map g).Nodup) (hz : z ∈ Z) (hp : p z = false) (hq : ∀ y ∈ Z, q y = (p y || g y == g z)) : (Z.filter q).Perm (z :: Z.filter p) := by
  have h1 := filter_split (p := q) hn hz (by rw [hq z hz]; simp)
  refine h1.trans (.of_eq ?_)
  congr 1
  refine List.filter_congr fun y hy => ?_
  rw [hq y hy]
  cases hb : g y == g z with
  | false => simp
  | true =>
    have e : y = z := by
      have h2 : g y = g z := beq_iff_eq.1 hb
      obtain ⟨i, hi, e1⟩ := List.getElem_of_mem hy
      obtain ⟨j, hj, e2⟩ := List.getElem_of_mem hz
      have hpw := List.pairwise_iff_getElem.1 hn
      have : i = j := by
        rcases Nat.lt_trichotomy i j with h | h | h
        · exact absurd (by rw [List.getElem_map, List.getElem_map, e1, e2, h2]) (hpw i j (by simpa using hi) (by simpa using hj) h)
        · exact h
        · exact absurd (by rw [List.getElem_map, List.getElem_map, e1, e2, h2]) (hpw j i (by simpa using hj) (by simpa using hi) h)
      subst this; rw [← e1, ← e2]
    subst e; simp [hp]
end
section
variable {β : Type} {P : Program} {ops : Array Oper} {rest : List Oper} {ks : List Kt} {Q : Exit → Act → World → Prop} {m : Option β} {r : β}
variable {n : Nat} {D : List Deferred} {S : List (Nat × Value)} {F F0 : Fz} {hs : List HP} {d : Nat} {ty t kt vt : TypeId} {pos : String} {after : Array Edge} {ox : Operand}
variable {K V : Type} {ck : K → Value} {rv : Fz → V → Value → Prop} {b it γ j : Nat} {l todo done : List (K × V)} {xs : List (List (K × V))}
theorem GL.rangeR {p : Option Nat} (i : Nat) (hi : hs[i]? = some (arena γ (ownMapP ck rv) F0 xs)) (hb : RefB γ F j b) (hp : p = some b) (hel : xs[j]? = some l) (hd : Nat.blt d n = true) (ht : P.underlying t = some (.map kt vt)) (hx : evalS S ox = some (.map p))
    (k : ∀ it, (l.map Prod.fst).Nodup → GL κ P ops rest ks Q (Hd n D ((d, .pointer (some ⟨it, 0, none⟩)) :: S) F (ownIter ck rv F0 b it l [] :: hs.set i (hole γ (ownMapP ck rv) F0 j b xs))) m r) :
    GL κ P ops (⟨some d, .range t ox, ty, pos, after, none⟩ :: rest) ks Q (Hd n D S F hs) m r := by
  subst hp
  refine GL.step rfl (.inr rfl) fun hm a w ha => ?_
  have h0 := (ha.2.pull hi).takeR hb hel
  obtain ⟨es, c, l', hpm, hn, hh, hr, hsh, hbi⟩ := own_mapP h0
  refine ⟨.pointer (some ⟨w.heap.size, 0, none⟩), w.alloc (.mapIter (some b) c #[] c), ?_, k w.heap.size hn hm _ _ ⟨ha.1.put hd _, ?_⟩⟩
  · simp [execOp, Instr.range, ha.1.eval hx, rUnd ht, run_getM hh]
  · have h1 := hsh.alloc (.mapIter (some b) c #[] c)
    have h2 : SH (w.alloc (.mapIter (some b) c #[] c)) F (star (ownIter ck rv F0 b w.heap.size l []) (star (hole γ (ownMapP ck rv) F0 j b xs) (stars (hs.eraseIdx i)))) := h1.mono fun m hm => by
      have h3 := star_assoc' (star_swap hm)
      refine star_mono_left (fun m' hm' => ⟨es, c, l', #[], c, hm', hr, hbi, fun h => (by simp at h), ?_, ?_, fun x h => (by cases h)⟩) h3
      · have e : ((es.toList.zip l').filter (fun z => !(#[] : Array Nat).contains z.1.born)) = es.toList.zip l' := List.filter_eq_self.2 fun _ _ => by simp
        rw [e, hr.map_zip.1]; exact hpm.symm
      · have e : ((es.toList.zip l').filter (fun z => (#[] : Array Nat).contains z.1.born)) = [] := List.filter_eq_nil_iff.2 fun _ _ => by simp
        rw [e]; exact .refl _
    exact h2.mono fun m hm => star_mono_right (fun m' hm' => stars_push hi hm') hm
theorem births_nodup {es : List MapEntry} {c : Nat} {l' : List (K × V)} (hb : Births es c) (hr : MRel ck rv F es l') : ((es.zip l').map (fun z => z.1.born)).Nodup := by
  have e : (es.zip l').map (fun z => z.1.born) = ((es.zip l').map Prod.fst).map (·.born) := by rw [List.map_map]; rfl
  rw [e, hr.map_zip.2]
  exact hb.1.imp fun h => Nat.ne_of_lt h
theorem getObj_it {w : World} {q b : Nat} {c s : Nat} {seen : Array Nat} (h : w.heap[q]? = some (.mapIter (some b) c seen s)) : (getObj q).run P w = .ok (.mapIter (some b) c seen s) w := by
  simp [getObj, Sem.run, h]
theorem setObj_it {w : World} {o' : Obj} {q b : Nat} {c s : Nat} {seen : Array Nat} (h : w.heap[q]? = some (.mapIter (some b) c seen s)) : (setObj q o').run P w = .ok () (put w q o') := by
  simp [setObj, Sem.run, put, h]
theorem run_choose_map (w : World) {n : Nat} (hn : 0 < n) : ∃ idx, idx < n ∧ ∃ k, (choose (.mapNext n)).run P w = .ok idx { w with drawn := k } := by
  by_cases h1 : n ≤ 1
  · exact ⟨0, hn, w.drawn, by simp [choose, Sem.run, Question.forced, h1]⟩
  · exact ⟨_, Nat.mod_lt _ hn, w.drawn + 1, by simp [choose, Sem.run, Question.forced, Question.cut, h1]; rfl⟩
theorem run_next {w : World} {es : Array MapEntry} {clock last : Nat} {l' : List (K × V)} {seen : Array Nat} {todo : List (K × V)} (hb : w.heap[b]? = some (.map es clock)) (hit : w.heap[it]? = some (.mapIter (some b) clock seen last)) (hr : MRel ck rv F0 es.toList l') (hbi : Births es.toList clock) (hl : seen.isEmpty = false → last = clock)
    (ht : todo.Perm (((es.toList.zip l').filter (fun z => !seen.contains z.1.born)).map Prod.snd)) :
    (todo = [] → ∃ k, (Instr.next (.pointer (some ⟨it, 0, none⟩)) false ty).run P w = .ok (.tuple #[.bool false]) { w with drawn := k }) ∧
    (todo ≠ [] → ∃ z ∈ es.toList.zip l', seen.contains z.1.born = false ∧ ∃ k, (Instr.next (.pointer (some ⟨it, 0, none⟩)) false ty).run P w = .ok (.tuple #[.bool true, z.1.key, z.1.val]) (put { w with drawn := k } it (.mapIter (some b) clock (seen.push z.1.born) clock))) := by
  have hguard : (!seen.isEmpty && !es.isEmpty && es.all fun e => decide (e.born ≥ last)) = false := by
    cases hs : seen.isEmpty with
    | true => simp
    | false =>
      cases he : es.isEmpty with
      | true => simp
      | false =>
        have hlast := hl hs
        simp only [Bool.not_false, Bool.true_and]
        cases hall : es.all fun e => decide (e.born ≥ last) with
        | false => rfl
        | true =>
          rw [Array.all_eq_true] at hall
          have hsz : 0 < es.size := by
            rcases Nat.eq_zero_or_pos es.size with h | h
            · have : es.isEmpty = true := by simpa using Array.eq_empty_of_size_eq_zero h
              rw [this] at he; cases he
            · exact h
          have h1 := hall 0 hsz
          have h2 := hbi.2 es[0] (by simp)
          simp at h1; omega
  obtain ⟨L, hL⟩ : ∃ L, L = es.filter fun e => !seen.contains e.born := ⟨_, rfl⟩
  have hin : ∀ e, e ∈ L → e ∈ es.toList ∧ seen.contains e.born = false := fun e he => by
    subst hL
    rw [Array.mem_filter] at he
    exact ⟨by simpa using he.1, by simpa using he.2⟩
  have hold : (L.filter fun e => decide (e.born < clock)) = L := by
    rw [Array.filter_eq_self]
    intro e he; simpa using hbi.2 e (hin e he).1
  have hnew : (L.filter fun e => decide (e.born ≥ clock)) = #[] := by
    rw [Array.filter_eq_empty_iff]
    intro e he; have := hbi.2 e (hin e he).1; simp; omega
  have hlen : todo.length = L.size := by
    have h1 := ht.length_eq
    rw [List.length_map] at h1
    have h2 : ((es.toList.zip l').filter (fun z => !seen.contains z.1.born)).length = (((es.toList.zip l').map Prod.fst).filter (fun e => !seen.contains e.born)).length := by
      rw [List.filter_map, List.length_map]; rfl
    rw [hr.map_zip.2] at h2
    rw [h1, h2, hL, ← Array.length_toList, Array.toList_filter]
  have hrun : ∀ (q : Option MapEntry → World → Result Value), True := fun _ => trivial
  refine ⟨fun h0 => ?_, fun h0 => ?_⟩
  · have hLe : L = #[] := Array.eq_empty_of_size_eq_zero (by rw [← hlen, h0]; rfl)
    refine ⟨w.drawn, ?_⟩
    simp only [Instr.next, Sem.run_bind, getObj_it hit, Result.andThen, run_getM hb, hguard, Bool.false_eq_true, if_false, ← hL, hLe]
    simp [choose, Sem.run, Question.forced]
  · have hLn : L.size ≠ 0 := by
      rw [← hlen]; intro e; exact h0 (List.eq_nil_of_length_eq_zero e)
    have hLe : L.isEmpty = false := by
      cases h : L.isEmpty with
      | false => rfl
      | true => rw [Array.isEmpty_iff_size_eq_zero] at h; exact absurd h hLn
    obtain ⟨idx, hidx, k, hch⟩ := run_choose_map (P := P) w (n := L.size) (by omega)
    have hmem := hin L[idx] (by simp)
    obtain ⟨z, hz, hze⟩ : ∃ z ∈ es.toList.zip l', z.1 = L[idx] := by
      have := hmem.1
      rw [← hr.map_zip.2] at this
      obtain ⟨z, hz, e⟩ := List.mem_map.1 this
      exact ⟨z, hz, e⟩
    refine ⟨z, hz, by rw [hze]; exact hmem.2, k, ?_⟩
    rw [hze]
    have hit2 : ({ w with drawn := k } : World).heap[it]? = some (.mapIter (some b) clock seen last) := hit
    simp only [Instr.next, Sem.run_bind, getObj_it hit, Result.andThen, run_getM hb, hguard, Bool.false_eq_true, if_false, ← hL, hold, hnew, hLe, Array.append_empty, Array.size_map, Array.empty_append, hch]
    simp [hidx, setObj_it hit2]
theorem GL.nextM0 {pt' : Option Addr} (i : Nat) (hi : hs[i]? = some (ownIter ck rv F0 b it [] done)) (hp : pt' = some ⟨it, 0, none⟩) (hd : Nat.blt d n = true) (hx : evalS S ox = some (.pointer pt'))
    (k : GL κ P ops rest ks Q (Hd n D ((d, .tuple #[.bool false]) :: S) F hs) m r) :
    GL κ P ops (⟨some d, .next ox false, ty, pos, after, none⟩ :: rest) ks Q (Hd n D S F hs) m r := by
  subst hp
  refine GL.step rfl (.inr rfl) fun hm a w ha => ?_
  obtain ⟨es, c, l', seen, last, hb, hit, _, hr, hbi, hl, ht, hdn, _⟩ := own_iter (ha.2.pull hi)
  obtain ⟨k', hk'⟩ := (run_next (P := P) (ty := ty) hb hit hr hbi hl ht).1 rfl
  refine ⟨_, { w with drawn := k' }, ?_, k hm _ _ ⟨ha.1.put hd _, ha.2.drew _⟩⟩
  simp [execOp, ha.1.eval hx, hk']
theorem GL.nextM1 {pt' : Option Addr} (i : Nat) (hi : hs[i]? = some (ownIter ck rv F0 b it todo done)) (hne : todo ≠ []) (hp : pt' = some ⟨it, 0, none⟩) (hd : Nat.blt d n = true) (hx : evalS S ox = some (.pointer pt'))
    (k : ∀ x rest' v, (x :: rest').Perm todo → (∀ F', F0 ≤ F' → rv F' x.2 v) → GL κ P ops rest ks Q (Hd n D ((d, .tuple #[.bool true, ck x.1, v]) :: S) F (hs.set i (ownIter ck rv F0 b it rest' (x :: done)))) m r) :
    GL κ P ops (⟨some d, .next ox false, ty, pos, after, none⟩ :: rest) ks Q (Hd n D S F hs) m r := by
  subst hp
  refine GL.step rfl (.inr rfl) fun hm a w ha => ?_
  obtain ⟨es, c, l', seen, last, hb, hit, hsh, hr, hbi, hl, ht, hdn, _⟩ := own_iter (ha.2.pull hi)
  obtain ⟨z, hz, hseen, k', hk'⟩ := (run_next (P := P) (ty := ty) hb hit hr hbi hl ht).2 hne
  obtain ⟨hkey, hval⟩ := hr.zip_mem hz
  have hnd := births_nodup hbi hr
  have hlt : z.1.born < c := hbi.2 _ (by rw [← hr.map_zip.2]; exact List.mem_map_of_mem hz)
  have hsp := filter_split (p := fun y : MapEntry × (K × V) => !seen.contains y.1.born) hnd hz (by simp only [hseen, Bool.not_false])
  have e1 : ∀ y : MapEntry × (K × V), (!(seen.push z.1.born).contains y.1.born) = (!seen.contains y.1.born && !(y.1.born == z.1.born)) := fun y => by
    rw [Array.contains_push, Bool.not_or]
  refine ⟨_, put { w with drawn := k' } it (.mapIter (some b) c (seen.push z.1.born) c), ?_, k z.2 (((es.toList.zip l').filter (fun y => !(seen.push z.1.born).contains y.1.born)).map Prod.snd) z.1.val ?_ hval hm _ _ ⟨by rw [← hkey]; exact ha.1.put hd _, SH.push hi ((((hsh.drew _).put (o' := .mapIter (some b) c (seen.push z.1.born) c))).mono fun m hm => ?_)⟩⟩
  · simp [execOp, ha.1.eval hx, hk']
  · refine List.Perm.trans ?_ ht.symm
    have := (hsp.map Prod.snd).symm
    simp only [List.map_cons] at this
    refine List.Perm.trans (.of_eq ?_) this
    congr 2
    exact List.filter_congr fun y _ => e1 y
  · have hm2 := star_assoc' (star_swap hm)
    refine star_mono_left (fun m' hm' => ⟨es, c, l', seen.push z.1.born, c, hm', hr, hbi, fun _ => rfl, .refl _, ?_, fun x hx => ?_⟩) hm2
    · have := filter_grow (g := fun y : MapEntry × (K × V) => y.1.born) (p := fun y => seen.contains y.1.born) (q := fun y => (seen.push z.1.born).contains y.1.born) hnd hz hseen (fun y _ => by rw [Array.contains_push])
      have h3 := this.map Prod.snd
      simp only [List.map_cons] at h3
      exact (hdn.cons z.2).trans h3.symm
    · simp only [List.head?_cons, Option.some.injEq] at hx
      exact ⟨z, hz, hx, by simp⟩
theorem GL.entryM {pt' : Option Addr} {x : K × V} (i : Nat) (hi : hs[i]? = some (ownIter ck rv F0 b it todo (x :: done))) (hp : pt' = some ⟨it, 0, none⟩) (hd : Nat.blt d n = true) (hx : evalS S ox = some (.pointer pt'))
    (k : ∀ v, (∀ F', F0 ≤ F' → rv F' x.2 v) → GL κ P ops rest ks Q (Hd n D ((d, .tuple #[ck x.1, v]) :: S) F hs) m r) :
    GL κ P ops (⟨some d, .entry ox, ty, pos, after, none⟩ :: rest) ks Q (Hd n D S F hs) m r := by
  subst hp
  refine GL.step rfl (.inr rfl) fun hm a w ha => ?_
  obtain ⟨es, c, l', seen, last, hb, hit, hsh, hr, hbi, hl, ht, hdn, hlast⟩ := own_iter (ha.2.pull hi)
  obtain ⟨z, hz, hzx, hback⟩ := hlast x rfl
  obtain ⟨hkey, hval⟩ := hr.zip_mem hz
  subst hzx
  have hne : seen.isEmpty = false := by
    cases h : seen.isEmpty with
    | false => rfl
    | true =>
      have : seen = #[] := by simpa using h
      subst this; simp at hback
  have hlc := hl hne
  subst hlc
  have hfind : es.find? (fun e => e.born == z.1.born) = some z.1 := by
    have hmem : z.1 ∈ es.toList := by rw [← hr.map_zip.2]; exact List.mem_map_of_mem hz
    have hnd : (es.toList.map (·.born)).Nodup := hbi.1.imp fun h => Nat.ne_of_lt h
    have : es.toList.find? (fun e => e.born == z.1.born) = some z.1 := by
      clear hb hit hr hbi ht hdn hlast hz hval hkey hsh hback hl
      generalize es.toList = L at hmem hnd
      induction L with
      | nil => cases hmem
      | cons y L ih =>
        simp only [List.map_cons, List.nodup_cons] at hnd
        rcases List.mem_cons.1 hmem with e | e
        · rw [List.find?_cons, ← e]; simp
        · have : (y.born == z.1.born) = false := by
            cases hbb : y.born == z.1.born with
            | false => rfl
            | true => exact absurd (List.mem_map_of_mem (f := (·.born)) e) (by rw [← (beq_iff_eq.1 hbb : y.born = z.1.born)]; exact hnd.1)
          rw [List.find?_cons, this]; exact ih e hnd.2
    simpa using this
  refine ⟨_, w, ?_, k z.1.val hval hm _ _ ⟨by rw [← hkey]; exact ha.1.put hd _, ha.2⟩⟩
  simp [execOp, Instr.entry, ha.1.eval hx, getObj_it hit, run_getM hb, hback, hfind]
end
section
variable {K V : Type} {ck : K → Value} {rv : Fz → V → Value → Prop} {b it γ j : Nat} {l todo done : List (K × V)} {xs : List (List (K × V))} {F F0 F1 : Fz} {w : World} {hs : List HP}
theorem SH.iterEnd {H : HP} (hp : done.Perm l) (hn : (l.map Prod.fst).Nodup) (h : SH w F (star (ownIter ck rv F0 b it [] done) H)) : SH w F (star (ownMapP ck rv F0 b l) H) := by
  obtain ⟨es, c, l', seen, last, hb, hit, hsh, hr, hbi, hl, ht, hdn, _⟩ := own_iter h
  have h1 : ((es.toList.zip l').filter (fun z => !seen.contains z.1.born)) = [] := by
    have h3 := ht.length_eq
    rw [List.length_map] at h3
    exact List.eq_nil_of_length_eq_zero h3.symm
  have h2 : ((es.toList.zip l').filter (fun z => seen.contains z.1.born)) = es.toList.zip l' := by
    rw [List.filter_eq_self]
    intro z hz
    have := (List.filter_eq_nil_iff.1 h1) z hz
    simpa using this
  rw [h2, hr.map_zip.1] at hdn
  exact hsh.drop.mono fun m hm => star_mono_left (fun m hm => ⟨l', (hdn.symm.trans hp), hn, es, c, hm, hr, hbi⟩) hm
theorem hole_lt {H : HP} {C : Fz → Nat → List (K × V) → HP} (h : SH w F (star (hole γ C F0 j b xs) H)) : j < xs.length := by
  obtain ⟨m, ⟨m1, m2, _, _, _, ⟨bs, hl, hb, _⟩, _⟩, _⟩ := h
  rw [← hl]; exact (List.getElem?_eq_some_iff.1 hb).1
theorem SH.iterBack {xs' : List (List (K × V))} (i k : Nat) (hi : hs[i]? = some (ownIter ck rv F0 b it [] done)) (hk : (hs.eraseIdx i)[k]? = some (hole γ (ownMapP ck rv) F1 j b xs)) (le0 : F0 ≤ F) (le1 : F1 ≤ F) (hp : done.Perm l) (hn : (l.map Prod.fst).Nodup) (he : xs' = xs.set j l) (h : SH w F (stars hs)) : SH w F (stars ((hs.eraseIdx i).set k (arena γ (ownMapP ck rv) F xs'))) := by
  subst he
  have h1 : SH w F (star (ownIter ck rv F0 b it [] done) (star (hole γ (ownMapP ck rv) F1 j b xs) (stars ((hs.eraseIdx i).eraseIdx k)))) := (h.pull hi).mono fun m hm => star_mono_right (fun _ => stars_pull hk) hm
  have h2 := (h1.iterEnd hp hn).mono (H' := star (ownMapP ck rv F b l) (star (hole γ (ownMapP ck rv) F1 j b xs) (stars ((hs.eraseIdx i).eraseIdx k)))) fun m hm => star_mono_left (fun m hm => ownMapP_up le0 hm) hm
  have h3 := SH.giveR mapStays le1 h2 (hole_lt (h2.mono fun m hm => star_swap hm))
  exact SH.push hk h3
end
section
variable {β : Type} {X : Act → World → Prop} {P : Program} {ks : List Kt} {Q : Exit → Act → World → Prop} {m : Option β} {r : β} {n : Nat} {D : List Deferred} {S : List (Nat × Value)} {F F0 F1 : Fz} {hs : List HP}
variable {K V : Type} {ck : K → Value} {rv : Fz → V → Value → Prop} {b it γ j : Nat} {l done : List (K × V)} {xs xs' : List (List (K × V))}
theorem GE.iterBack (i k : Nat) (hi : hs[i]? = some (ownIter ck rv F0 b it [] done)) (hk : (hs.eraseIdx i)[k]? = some (hole γ (ownMapP ck rv) F1 j b xs)) (le0 : F0 ≤ F) (le1 : F1 ≤ F) (hp : done.Perm l) (hn : (l.map Prod.fst).Nodup) (he : xs' = xs.set j l)
    (K' : GE κ P ks Q (Hd n D S F ((hs.eraseIdx i).set k (arena γ (ownMapP ck rv) F xs'))) m r) : GE κ P ks Q (Hd n D S F hs) m r := fun hm a w ha =>
  K' hm a w ⟨ha.1, ha.2.iterBack i k hi hk le0 le1 hp hn he⟩
end
section
variable {α : Type} {γ : Nat} {C : Fz → Nat → α → HP} {F F0 F' : Fz} {xs : List α} {i j b c : Nat} {x y : α} {H : HP} {w : World}
def optC (C : Fz → Nat → α → HP) : Fz → Nat → Option α → HP := fun F b x => match x with | some x => C F b x | none => emp
theorem optC_stays (hC : Stays C) : Stays (optC C) := fun F F' b x m le h => by
  cases x with
  | none => exact h
  | some x => exact hC _ _ _ _ _ le h
theorem zip_opt {bs : List Nat} (hb : bs[j]? = some b) : List.zipWith (optC C F0) bs ((xs.map some).set j none) = (List.zipWith (C F0) bs xs).set j emp := by
  have h1 := zip_set (f := optC C F0) (xs := xs.map some) (y := none) hb
  rw [← h1, List.zipWith_map_right]
  rfl
theorem hole_opt (h : SH w F (star (hole γ C F0 j b xs) H)) : SH w F (star (arena γ (optC C) F0 ((xs.map some).set j none)) H) :=
  h.mono fun m hm => star_mono_left (fun m hm => by
    obtain ⟨bs, hl, hb, hz⟩ := hm
    refine ⟨bs, by simpa using hl, star_mono_right (fun m hm => ?_) hz⟩
    rw [zip_opt hb]
    have hj := (List.getElem?_eq_some_iff.1 hb).1
    have hjl : j < (List.zipWith (C F0) bs xs).length := by simp; omega
    exact stars_push (List.getElem?_eq_getElem hjl) ⟨fun _ => none, m, fun _ => .inl rfl, fun _ _ e => by simp at e, Mem.sub.refl _, trivial, hm⟩) hm
theorem opt_hole (h : SH w F (star (arena γ (optC C) F0 ((xs.map some).set j none)) H)) (hb : RefB γ F j b) (hj : j < xs.length) : SH w F (star (hole γ C F0 j b xs) H) := by
  obtain ⟨m, ⟨m1, m2, d, s1, s2, ⟨bs, hl, hz⟩, hq⟩, k⟩ := h
  have hbs : bs[j]? = some b := by
    obtain ⟨m3, m4, d', t1, t2, hg, _⟩ := hz
    obtain ⟨_, e⟩ := k.gst γ _ (s1 _ _ (t1 _ _ hg))
    simp only [Cell.gh.injEq] at e
    rw [e]; exact hb.2
  rw [zip_opt hbs] at hz
  refine ⟨m, ⟨m1, m2, d, s1, s2, ⟨bs, by simpa using hl, hbs, ?_⟩, hq⟩, k⟩
  obtain ⟨m3, m4, d', t1, t2, hg, hs⟩ := hz
  have hlen : bs.length = xs.length := by simpa using hl
  have hz : ((List.zipWith (C F0) bs xs).set j emp)[j]? = some emp := by
    rw [List.getElem?_set]; simp; omega
  obtain ⟨m5, m6, d6, t5, t6, _, h6⟩ := stars_pull hz hs
  rw [List.eraseIdx_set_eq] at h6
  exact ⟨m3, m6, fun k => (d' k).imp id (fun e => by
    cases h : m6 k with
    | none => rfl
    | some c => have := t6 _ _ h; rw [e] at this; cases this), t1, t6.trans t2, hg, h6⟩
theorem SH.takeH (h : SH w F (star (hole γ C F0 j b xs) H)) (hc : RefB γ F i c) (hx : xs[i]? = some x) (hij : i ≠ j) : SH w F (star (C F0 c x) (star (hole γ (optC C) F0 i c ((xs.map some).set j none)) H)) :=
  SH.takeR (hole_opt h) hc (x := some x) (by rw [List.getElem?_set]; simp [Ne.symm hij, hx])
theorem SH.giveH (hC : Stays C) (le : F0 ≤ F') (hb : RefB γ F j b) (hi : i < xs.length) (hj : j < xs.length) (hij : i ≠ j) (h : SH w F (star (C F' c y) (star (hole γ (optC C) F0 i c ((xs.map some).set j none)) H))) : SH w F (star (hole γ C F' j b (xs.set i y)) H) := by
  have h1 := SH.giveR (y := some y) (optC_stays hC) le h (by simpa using hi)
  refine opt_hole ?_ hb (by simpa using hj)
  have e : ((xs.map some).set j none).set i (some y) = ((xs.set i y).map some).set j none := by
    rw [List.map_set, List.set_comm _ _ hij.symm]
  rw [← e]; exact h1
end
section
variable {β : Type} {P : Program} {ops : Array Oper} {rest : List Oper} {ks : List Kt} {Q : Exit → Act → World → Prop} {m : Option β} {r : β}
variable {n : Nat} {D : List Deferred} {S : List (Nat × Value)} {F F0 : Fz} {hs : List HP} {ty t kt vt : TypeId} {pos : String} {after : Array Edge} {ox oy oz : Operand}
variable {K V : Type} [BEq K] [LawfulBEq K] {ck : K → Value} {rv : Fz → V → Value → Prop} {b c γ j i' : Nat} {l : List (K × V)} {xs : List (List (K × V))} {key : K} {val : V}
theorem GL.mapUpdateH {p : Option Nat} {xs' : List (List (K × V))} {vv : Value} (i : Nat) (hi : hs[i]? = some (hole γ (ownMapP ck rv) F0 j b xs)) (le0 : F0 ≤ F) (hbj : RefB γ F j b) (hb : RefB γ F i' c) (hp : p = some c) (hij : i' ≠ j) (hel : xs[i']? = some l) (ht : P.underlying t = some (.map kt vt)) (ok : KeyOK P kt ck) (hx : evalS S ox = some (.map p)) (hy : evalS S oy = some (ck key)) (hz : evalS S oz = some vv) (hv : ∀ F', F ≤ F' → rv F' val vv) (he : xs' = xs.set i' (mapSet l key val))
    (k : GL κ P ops rest ks Q (Hd n D S F (hs.set i (hole γ (ownMapP ck rv) F j b xs'))) m r) : GL κ P ops (⟨none, .mapUpdate t ox oy oz, ty, pos, after, none⟩ :: rest) ks Q (Hd n D S F hs) m r := by
  subst hp; subst he
  refine GL.stepU rfl (.inr rfl) fun hm a w ha => ?_
  have h0 := ha.2.pull hi
  have h1 := h0.takeH hb hel hij
  obtain ⟨es, c', l1, hpm, hn, hb', hr, hsh, hbi⟩ := own_mapP h1
  obtain ⟨es', c2, hrun, g1, g2⟩ := run_mapUpdate (key := key) (val := val) hb' (hr.up le0) hbi ht ok hv
  refine ⟨_, ?_, k hm _ _ ⟨ha.1.put_none _, SH.push hi (SH.giveH mapStays le0 hbj (List.getElem?_eq_some_iff.1 hel).1 (hole_lt h0) hij ((hsh.put (o' := .map es' c2)).mono fun m hm => star_mono_left (fun m hm => ⟨mapSet l1 key val, mapSet_perm hpm hn, mapSet_nodup hn, es', c2, hm, g1, g2⟩) hm))⟩⟩
  simp [execOp, ha.1.eval hx, ha.1.eval hy, ha.1.eval hz, hrun]
end
theorem set_back {α : Type} {xs : List α} {j : Nat} {x : α} (h : xs[j]? = some x) : xs = xs.set j x := by
  apply List.ext_getElem?
  intro i
  rw [List.getElem?_set]
  by_cases e : j = i
  · subst e; rw [if_pos rfl, h, if_pos (List.getElem?_eq_some_iff.1 h).1]
  · rw [if_neg e]
section
variable {α τ : Type}
open Classical in
noncomputable def permE (E : τ → τ → Prop) (b : α → τ → Option τ) (l : List α) (s : τ) : Option τ := match forL b l s with
  | none => none
  | some r => if ∀ l', l'.Perm l → ∃ r', forL b l' s = some r' ∧ E r' r then some r else none
theorem permE_some {E : τ → τ → Prop} {b : α → τ → Option τ} {l : List α} {s r : τ} (h : permE E b l s = some r) : ∀ l', l'.Perm l → ∃ r', forL b l' s = some r' ∧ E r' r := by
  unfold permE at h
  split at h
  · cases h
  · split at h
    · rename_i hp
      simp only [Option.some.injEq] at h
      subst h; exact hp
    · cases h
theorem permE_of {E : τ → τ → Prop} {b : α → τ → Option τ} {l : List α} {s r : τ} (h0 : forL b l s = some r) (h : ∀ l', l'.Perm l → ∃ r', forL b l' s = some r' ∧ E r' r) : permE E b l s = some r := by
  unfold permE
  rw [h0]
  exact if_pos h
theorem wp_mapLoopE {P : Program} {c : Code} {B : Nat} {I : List α → List α → τ → Act → World → Prop} {b : α → τ → Option τ} {l : List α}
    (round : ∀ todo done s, (∀ x ∈ todo, ∃ s', b x s = some s') → ∀ a w, I todo done s a w → c.wpIn (fen κ) 0 P (MPost B I b todo done s) a w) : ∀ (n : Nat) (todo done : List α) (s : τ), todo.length = n → (∀ l', l'.Perm todo → ∃ r, forL b l' s = some r) → (done ++ todo).Perm l → ∀ a w, I todo done s a w →
      ∀ (fr : Frame) (k : List Item) (cs : List Frame), fr.roundOf = (fen κ).round → ∃ a' w' done' R l', done'.Perm l ∧ l'.Perm todo ∧ forL b l' s = some R ∧ I [] done' R a' w' ∧ ArrivesIn (Machine.fenced P (fen κ)) P (lone (fr.atR a (.code c :: .inLoop c :: k)) cs w) fr k cs (.exit B) a' w'
  | n, todo, done, s, hn, hall, hdone, a, w, hI, fr, k, cs, hro => by
    have hx : ∀ x ∈ todo, ∃ s', b x s = some s' := fun x hm => by
      obtain ⟨l1, l2, e⟩ := List.append_of_mem hm
      have hp : (x :: (l1 ++ l2)).Perm todo := by rw [e]; exact List.perm_middle.symm
      obtain ⟨r, this⟩ := hall _ hp
      simp only [forL] at this
      cases hb : b x s with
      | none => rw [hb] at this; cases this
      | some s' => exact ⟨s', rfl⟩
    obtain ⟨e, a₁, w₁, hq, harr⟩ := round todo done s hx a w hI fr (.inLoop c :: k) cs hro (fen_fn κ _) (fen_room κ _)
    rcases hq with ⟨rfl, rfl, hI'⟩ | ⟨rfl, x, rest, s', hp, hb, hI'⟩
    · exact ⟨a₁, w₁, done, s, [], by simpa using hdone, .refl _, rfl, hI', .pass (x := .inLoop c) rfl (fun _ _ => .inl (by simp)) harr⟩
    · have hlen : rest.length < n := by have := hp.length_eq; simp at this; omega
      have hall' : ∀ l', l'.Perm rest → ∃ r, forL b l' s' = some r := fun l' hl' => by
        obtain ⟨r, this⟩ := hall (x :: l') ((hl'.cons x).trans hp)
        exact ⟨r, by simpa [forL, hb] using this⟩
      have hdone' : (x :: done ++ rest).Perm l := by
        refine List.Perm.trans ?_ hdone
        have h1 : (x :: done ++ rest).Perm (done ++ x :: rest) := List.perm_middle.symm
        exact h1.trans (hp.append_left done)
      obtain ⟨a₂, w₂, done₂, R, l', hd₂, hl', hf, hI₂, harr₂⟩ := wp_mapLoopE round rest.length rest (x :: done) s' rfl hall' hdone' a₁ w₁ hI' fr k cs hro
      exact ⟨a₂, w₂, done₂, R, x :: l', hd₂, (hl'.cons x).trans hp, by simp [forL, hb, hf], hI₂, .of_steps (StepsIn.trans harr (.one (fenced_calm (n := 0) (fen_fn κ _) (fen_room κ _) rfl) stepR_inLoop)) harr₂⟩
termination_by n => n
theorem GC.mapLoopE {β : Type} {P : Program} {ks ks' : List Kt} {Q : Exit → Act → World → Prop} {A : Act → World → Prop} {r : β} {c : Code} {B : Nat} {l : List α} {b : α → τ → Option τ} {s0 : τ} {f : τ → Option β} (E : τ → τ → Prop) (I : List α → List α → τ → Act → World → Prop) (hk : exitK B ks = some ks')
    (hI : ∀ a w, A a w → I l [] s0 a w) (hE : ∀ done R R' a w, E R' R → I [] done R' a w → I [] done R a w)
    (round : ∀ todo done s, (∀ x ∈ todo, ∃ s', b x s = some s') → GC κ P c [] (MPost B I b todo done s) (I todo done s) (some ()) ())
    (after : ∀ done R, permE E b l s0 = some R → done.Perm l → GE κ P ks' Q (I [] done R) (f R) r) :
    GC κ P (.loop c) ks Q A ((permE E b l s0).bind f) r := by
  intro hm a w ha
  cases hl : permE E b l s0 with
  | none => rw [hl] at hm; cases hm
  | some R =>
    rw [hl] at hm
    have hall := permE_some hl
    intro fr k cs hro hf hr
    obtain ⟨a', w', done, R', l', hd, hl', hfr, hI', harr⟩ := wp_mapLoopE (I := I) (b := b) (l := l) (fun todo done s hx a w hI' => round todo done s hx rfl a w hI') l.length l [] s0 rfl (fun l' hl' => let ⟨r', h1, _⟩ := hall l' hl'; ⟨r', h1⟩) (by simp) a w (hI a w ha) fr k cs hro
    obtain ⟨r', h1, h2⟩ := hall l' hl'
    rw [hfr] at h1
    cases h1
    exact ⟨.exit B, a', w', interp_exit hk (after done R hl hd hm a' w' (hE done R R' a' w' h2 hI')), .of_steps (.one (fenced_calm hf hr rfl) stepR_loop) harr⟩
end
def PermL {α : Type} (xs ys : List (List α)) : Prop := xs.length = ys.length ∧ ∀ (i : Nat) (x y : List α), xs[i]? = some x → ys[i]? = some y → x.Perm y
theorem SH.arena_map {α : Type} {γ : Nat} {C : Fz → Nat → α → HP} {xs ys : List α} {F F0 : Fz} {w : World} {H : HP} (hl : xs.length = ys.length) (hC : ∀ (i : Nat) x y b m, xs[i]? = some x → ys[i]? = some y → C F0 b x m → C F0 b y m) (h : SH w F (star (arena γ C F0 xs) H)) : SH w F (star (arena γ C F0 ys) H) :=
  h.mono fun m hm => star_mono_left (fun m ⟨bs, hl', hs⟩ => ⟨bs, hl'.trans hl, star_mono_right (fun m hm => stars_imp (by simp [hl]) (fun i p q e1 e2 m hp => by
    rw [List.getElem?_zipWith] at e1 e2
    cases hb : bs[i]? with
    | none => rw [hb] at e1; simp at e1
    | some b =>
      cases hx : xs[i]? with
      | none => rw [hb, hx] at e1; simp at e1
      | some x =>
        cases hy : ys[i]? with
        | none => rw [hb, hy] at e2; simp at e2
        | some y => rw [hb, hx] at e1; rw [hb, hy] at e2; simp at e1 e2; subst e1; subst e2; exact hC i x y b _ hx hy hp) hm) hs⟩) hm
section
variable {K V : Type} {ck : K → Value} {rv : Fz → V → Value → Prop} {γ j b : Nat} {xs ys : List (List (K × V))} {n : Nat} {D : List Deferred} {S : List (Nat × Value)} {F F0 : Fz} {hs : List HP} {a : Act} {w : World}
theorem Hd.holeE (i : Nat) (hi : hs[i]? = some (hole γ (ownMapP ck rv) F0 j b xs)) (hb : RefB γ F j b) (hp : PermL xs ys) (ha : Hd n D S F hs a w) : Hd n D S F (hs.set i (hole γ (ownMapP ck rv) F0 j b ys)) a w := by
  refine ⟨ha.1, SH.push hi ?_⟩
  have h0 := ha.2.pull hi
  have hj := hole_lt h0
  refine opt_hole ?_ hb (by rw [← hp.1]; exact hj)
  refine (hole_opt h0).arena_map (by simp [hp.1]) fun i' x y b' m hx hy hm => ?_
  rw [List.getElem?_set] at hx hy
  by_cases e : j = i'
  · simp only [e, if_true] at hx hy
    split at hx
    · split at hy
      · cases hx; cases hy; exact hm
      · cases hy
    · cases hx
  · rw [if_neg e, List.getElem?_map] at hx hy
    cases h1 : xs[i']? with
    | none => rw [h1] at hx; cases hx
    | some x0 =>
      cases h2 : ys[i']? with
      | none => rw [h2] at hy; cases hy
      | some y0 =>
        rw [h1] at hx; rw [h2] at hy
        simp only [Option.map_some, Option.some.injEq] at hx hy
        subst hx; subst hy
        obtain ⟨l', g1, g2, g3⟩ := hm
        have hxy := hp.2 i' x0 y0 h1 h2
        exact ⟨l', g1.trans hxy, ((hxy.map Prod.fst).nodup_iff).1 g2, g3⟩
end
end Go.Dec
end

section
namespace Go.Dec
variable {κ : Option Nat}
section
variable {K V : Type} {ck : K → Value} {rv : Fz → V → Value → Prop} {γ : Nat} {F : Fz} {A : List (List (K × V))} {x p : Option Nat} {P : Program} {f : FuncId}
def cloneM (A : List (List (K × V))) (x : Option Nat) : Option (Option Nat × List (List (K × V))) :=
  match x with
  | none => some (none, A)
  | some i => (A[i]?).bind fun l => some (some A.length, A ++ [l])
theorem cloneH (h : RepRef γ F p x) (hcl : ∀ b es clock w, w.heap[b]? = some (.map es clock) → Calls P f #[.map (some b)] w fun e w' => e = .returned (.map (some w.heap.size)) ∧ w' = w.alloc (.map es clock))
    (hnil : ∀ w, Calls P f #[.map none] w fun e w' => e = .returned (.map none) ∧ w' = w) :
    CTH P f [.map p].toArray F [arena γ (ownMapP ck rv) F A] (cloneM A x) (fun (r : Option Nat × List (List (K × V))) F v => ∃ (p0 : Option Nat) (_k0 : Unit), v = .map p0 ∧ RepRef γ F p0 r.1) (fun r F' => [arena γ (ownMapP ck rv) F' r.2]) := by
  intro r hm w R hw
  have h0 : SH w F (stars ([arena γ (ownMapP ck rv) F A] ++ [R])) := hw.mono fun m hm => stars_app (star_mono_right (fun _ h => stars_one h) hm)
  cases x with
  | none =>
    have hp : p = none := h
    subst hp
    simp only [cloneM, Option.some.injEq] at hm
    subst hm
    refine (hnil w).mono ?_
    rintro e w' ⟨rfl, rfl⟩
    exact ⟨F, _, Fz.le_refl _, rfl, ⟨none, (), rfl, rfl⟩, hw⟩
  | some i =>
    obtain ⟨b, hb, rfl⟩ := h
    simp only [cloneM] at hm
    cases hl : A[i]? with
    | none => rw [hl] at hm; cases hm
    | some l =>
      rw [hl] at hm
      simp only [Option.bind_some, Option.some.injEq] at hm
      subst hm
      obtain ⟨es, c, l', hpm, hn, hheap, hr, hbi⟩ := SH.mapAt (H := stars [R]) h0 hb hl
      refine (hcl b es c w hheap).mono ?_
      rintro e w' ⟨rfl, rfl⟩
      have h1 := h0.alloc (.map es c)
      obtain ⟨F', le, g1, g2⟩ := SH.intoR (x := l) (H := stars [R]) (xs := A) mapStays (Fz.le_refl F) h1 (fun F' m le hm => ⟨l', hpm, hn, es, c, hm, hr.up le, hbi⟩)
      exact ⟨F', _, le, rfl, ⟨some w.heap.size, (), rfl, _, g1, rfl⟩, g2.mono fun m hm => star_one (stars_app' (l := [arena γ (ownMapP ck rv) F' (A ++ [l])]) hm)⟩
end
def neO (i j : Nat) : Option Unit := if i = j then none else some ()
theorem neO_some {i j : Nat} {u : Unit} (h : neO i j = some u) : i ≠ j := fun e => by simp [neO, e] at h
end Go.Dec
end

section
namespace Go.Dec
variable {κ : Option Nat}
def CTV {ε : Type} (P : Program) (penc : ε → Value) (f : FuncId) (args : Array Value) (F : Fz) (Hs : List HP) (Hp : ε → Fz → List HP) : Prop :=
  (∀ w R, SH w F (star (stars Hs) R) → CallsDIn Fence.wide 0 P f args .returning w (fun e u' w' => u' = .returning ∧ (∃ v, e = .returned v) ∧ SH w' F (star (stars Hs) R))) ∧
  ∀ q w R, SH w F (star (stars Hs) R) → CallsDIn Fence.wide 0 P f args (.panicking [{ v := penc q, recovered := false }]) w (fun e u' w' => u' = .panicking [{ v := penc q, recovered := true }] ∧ (∃ v, e = .returned v) ∧ ∃ F', F ≤ F' ∧ SH w' F' (star (stars (Hp q F')) R))
def fnPostI (P : Program) (fn : Func) (F : Fz) (Hs : List HP) (R : HP) : Exit → Act → World → Prop := fun e a w => (e = .normal ∨ e = .ret) ∧ a.defers = [] ∧ (∃ v, (results fn a.tmps).run P w = .ok v w) ∧ SH w F (star (stars Hs) R)
def fnPostV (P : Program) (fn : Func) (F : Fz) (Hp : Fz → List HP) (R : HP) : Exit → Act → World → Prop := fun e a w => (e = .normal ∨ e = .ret) ∧ a.defers = [] ∧ (∃ v, (results fn a.tmps).run P w = .ok v w) ∧ ∃ F', F ≤ F' ∧ SH w F' (star (stars (Hp F')) R)
section
variable {ε : Type} {P : Program} {penc : ε → Value} {f : FuncId} {fn : Func} {n i0 d0 d1 : Nat} {args : List Value} {F : Fz} {Hs : List HP} {Hp : ε → Fz → List HP} {rest : Code} {T0 : Array TypeId} {ty0 ty1 : TypeId} {pos0 pos1 : String} {after0 after1 : Array Edge}
theorem run_recover {ev : Operand → Value} {w : World} : (execOp ev ⟨some d0, .call ⟨.builtin .recover, #[], T0⟩, ty0, pos0, after0, none⟩).run P w = .ok .recover w := by
  simp [execOp, resolve, invoke, builtin]
theorem opsS_value {ops : Array Oper} {i : Nat} {rest : List Nat} {o : Oper} {a : Act} {cs : List Frame} {w w' : World} {v : Value} {Q : Exit → Act → List Frame → World → Prop} (ho : ops[i]? = some o) (hw : Region.wanted o (yielded ops a.tmps) = true) (hr : (execOp a.eval o).run P w = .ok (.value v) w') (h : wpOpsSIn Fence.wide 0 P ops Q rest (a.put o.dst v) cs w') : wpOpsSIn Fence.wide 0 P ops Q (i :: rest) a cs w := by
  simp only [wpOpsSIn, ho]
  exact ⟨fun _ _ => trivial, by rw [if_pos hw, hr]; exact h⟩
theorem opsS_recover {ops : Array Oper} {i : Nat} {rest : List Nat} {o : Oper} {a : Act} {cs cs' : List Frame} {w w' : World} {v : Value} {Q : Exit → Act → List Frame → World → Prop} (ho : ops[i]? = some o) (hw : Region.wanted o (yielded ops a.tmps) = true) (hr : (execOp a.eval o).run P w = .ok .recover w') (hrec : (match recoverD cs with | some (v, cs') => (v, cs') | none => (.nilIface, cs)) = (v, cs')) (h : wpOpsSIn Fence.wide 0 P ops Q rest (a.put o.dst v) cs' w') : wpOpsSIn Fence.wide 0 P ops Q (i :: rest) a cs w := by
  simp only [wpOpsSIn, ho]
  refine ⟨fun _ _ => trivial, ?_⟩
  rw [if_pos hw, hr]
  cases hr : recoverD cs with
  | none =>
    rw [hr] at hrec
    simp only [Prod.mk.injEq] at hrec
    obtain ⟨rfl, rfl⟩ := hrec
    exact h
  | some p =>
    obtain ⟨v', cs2⟩ := p
    rw [hr] at hrec
    simp only [Prod.mk.injEq] at hrec
    obtain ⟨rfl, rfl⟩ := hrec
    exact h
theorem recover_region {a : Act} {cs cs' : List Frame} {w : World} {v : Value} {Q : Exit → Act → List Frame → World → Prop}
    {S : List (Nat × Value)} (hsl : Sl n [] S a) (hd0 : Nat.blt d0 n = true) (hd1 : Nat.blt d1 n = true)
    (hrec : (match recoverD cs with | some (v, cs') => (v, cs') | none => (.nilIface, cs)) = (v, cs')) (hQ : ∀ a', Sl n [] ((d1, v) :: (d0, v) :: S) a' → Q .normal a' cs' w) : wpOpsSIn Fence.wide 0 P #[⟨some d0, .call ⟨.builtin .recover, #[], T0⟩, ty0, pos0, after0, none⟩, ⟨some d1, .assign (.tmp d0), ty1, pos1, after1, none⟩] Q [0, 1] a cs w := by
  have h1 := hsl.put hd0 v
  have h2 := h1.put hd1 v
  have hev : (a.put (some d0) v).eval (.tmp d0) = v := h1.eval (by simp [evalS, lookS])
  refine opsS_recover (i := 0) (w' := w) (o := ⟨some d0, .call ⟨.builtin .recover, #[], T0⟩, ty0, pos0, after0, none⟩) rfl (by simp [Region.wanted]) run_recover hrec ?_
  refine opsS_value (i := 1) (v := v) (w' := w) (o := ⟨some d1, .assign (.tmp d0), ty1, pos1, after1, none⟩) rfl (by simp [Region.wanted]) (by simp [execOp, hev]) ?_
  exact hQ _ h2
theorem CTV.mk {f : FuncId} {fn : Func} (hf : P.funcs[f]? = some fn) (hb : fn.body = some (.seq (.region i0 #[⟨some d0, .call ⟨.builtin .recover, #[], T0⟩, ty0, pos0, after0, none⟩, ⟨some d1, .assign (.tmp d0), ty1, pos1, after1, none⟩] false) rest)) (hn : fn.ntmps = n) (ha : Nat.ble args.length n = true) (hd0 : Nat.blt d0 n = true) (hd1 : Nat.blt d1 n = true)
    (h0 : ∀ R, GC none P rest [] (fnPostI P fn F Hs R) (Hd n [] ((d1, .nilIface) :: (d0, .nilIface) :: argS 0 args) F (Hs ++ [R])) (some ()) ())
    (h1 : ∀ q R, GC none P rest [] (fnPostV P fn F (Hp q) R) (Hd n [] ((d1, penc q) :: (d0, penc q) :: argS 0 args) F (Hs ++ [R])) (some ()) ()) : CTV P penc f args.toArray F Hs Hp := by
  refine ⟨fun w R hw => ?_, fun q w R hw => ?_⟩
  · refine callsDIn_of_wpSIn hf hb trivial fun c₀ cs hu => ?_
    refine wpSIn_seq (wpSIn_region (recover_region (n := n) (v := .nilIface) (cs' := c₀ :: cs) (S := argS 0 args) (by rw [hn]; exact sl_enter ha) hd0 hd1 (by simp [recoverD, hu]) fun a' ha' => ?_))
    refine wpSIn_of_wpIn rfl (wpIn_mono (h0 R rfl a' w ⟨ha', hw.mono fun m hm => stars_app (star_mono_right (fun _ h => stars_one h) hm)⟩) ?_)
    rintro e a2 w2 ⟨he, hd, ⟨v, hv⟩, hs⟩
    have hc : c₀ :: cs = { c₀ with mode := .returning } :: cs := by cases c₀; simp_all
    rcases he with rfl | rfl
    · exact ⟨hd, .returning, hc, v, hv, rfl, ⟨v, rfl⟩, hs⟩
    · exact ⟨hd, .returning, hc, v, hv, rfl, ⟨v, rfl⟩, hs⟩
  · refine callsDIn_of_wpSIn hf hb trivial fun c₀ cs hu => ?_
    refine wpSIn_seq (wpSIn_region (recover_region (n := n) (v := penc q) (cs' := { c₀ with mode := .panicking [{ v := penc q, recovered := true }] } :: cs) (S := argS 0 args) (by rw [hn]; exact sl_enter ha) hd0 hd1 (by simp [recoverD, hu]) fun a' ha' => ?_))
    refine wpSIn_of_wpIn rfl (wpIn_mono (h1 q R rfl a' w ⟨ha', hw.mono fun m hm => stars_app (star_mono_right (fun _ h => stars_one h) hm)⟩) ?_)
    rintro e a2 w2 ⟨he, hd, ⟨v, hv⟩, hs⟩
    rcases he with rfl | rfl
    · exact ⟨hd, _, rfl, v, hv, rfl, ⟨v, rfl⟩, hs⟩
    · exact ⟨hd, _, rfl, v, hv, rfl, ⟨v, rfl⟩, hs⟩
end
section
variable {P : Program} {n : Nat} {S : List (Nat × Value)} {F F' : Fz} {hs Hs : List HP} {fn : Func} {R : HP} {Hp : Fz → List HP}
theorem end_postI (is : List Nat) (hr : fn.results = #[]) (hi : pickR is hs = Hs ++ [R]) : some () = some () → ∀ a w, Hd n [] S F hs a w → fnPostI P fn F Hs R .normal a w := by
  intro _ a w ha
  refine ⟨.inl rfl, ha.1.2.1, ⟨_, run_results (rs := []) (by simpa using hr) ha .nil⟩, ha.2.mono fun m hm => ?_⟩
  have h1 := stars_pick (ks := is) hm
  rw [hi] at h1
  exact star_one (stars_app' h1)
theorem end_postV (is : List Nat) (hr : fn.results = #[]) (hi : pickR is hs = Hp F' ++ [R]) (le : F ≤ F') : some () = some () → ∀ a w, Hd n [] S F' hs a w → fnPostV P fn F Hp R .normal a w := by
  intro _ a w ha
  refine ⟨.inl rfl, ha.1.2.1, ⟨_, run_results (rs := []) (by simpa using hr) ha .nil⟩, F', le, ha.2.mono fun m hm => ?_⟩
  have h1 := stars_pick (ks := is) hm
  rw [hi] at h1
  exact star_one (stars_app' h1)
end
section
variable {β : Type} {P : Program} {n : Nat} {S : List (Nat × Value)} {F F' : Fz} {hs : List HP}
variable {G ε : Type} {penc : ε → Value} {fn : Func} {R : HP} {ρ : G → β → Fz → Value → Prop} {Hs' : G → β → Fz → List HP} {x r : β} {rs : List ResultVar} {vs : List Value} {Γ : G}
theorem ret_postE {f : FuncId} {caps : List Value} {Hs : List HP} {Hp : ε → Fz → List HP} (is0 : List Nat) (hcall : ∀ args w, (callFunc f args).run P w = .ok (.enter f args) w) (hc : CTV P penc f caps.toArray F' Hs Hp) (hi0 : pickR is0 hs = Hs) (is : List Nat) (hr : fn.results = rs.toArray) (h : Res P S F' (Hs ++ leftR is0 hs) rs vs) (hi : pickR is (Hs ++ leftR is0 hs) = Hs' Γ x F' ++ [R]) (le : F ≤ F') (hρ : ρ Γ x F' (tup vs)) :
    some x = some r → ∀ a w, Hd n [dclo f caps] S F' hs a w → fnPostO P fn F R ρ Hs' r .ret a w := by
  intro e a w ha
  simp only [Option.some.injEq] at e
  subst e
  show LeavesIn Fence.wide 0 P fn a.tmps _ a.defers .returning w
  rw [ha.1.2.1]
  have hsh : SH w F' (star (stars Hs) (stars (leftR is0 hs))) := ha.2.mono fun m hm => by
    have := stars_part (ks := is0) hm
    rw [hi0] at this; exact this
  refine leavesIn_cons (by simp) (fun e => by cases e) (invoke_clo hcall) leads_clo ((hc.1 w _ hsh).mono ?_)
  rintro _ _ w' ⟨rfl, ⟨v, rfl⟩, h2⟩
  have h3 : SH w' F' (stars (Hs ++ leftR is0 hs)) := h2.mono fun _ => stars_app
  refine ⟨_, run_results (n := n) (a := a) (D := a.defers) hr ⟨⟨ha.1.1, rfl, ha.1.2.2⟩, h3⟩ h, Γ, F', _, le, rfl, hρ, h3.mono fun m hm => ?_⟩
  have h1 := stars_pick (ks := is) hm
  rw [hi] at h1
  exact star_one (stars_app' h1)
theorem pan_postE {f : FuncId} {caps : List Value} {Hs : List HP} {Hp : ε → Fz → List HP} {q : ε} (j : Nat) (hcall : ∀ args w, (callFunc f args).run P w = .ok (.enter f args) w) (hc : CTV P penc f caps.toArray F' Hs Hp) (is : List Nat) (hi : pickR is hs = Hs) (hr : fn.results = rs.toArray) (h : ∀ F'', F' ≤ F'' → Res P S F'' (Hp q F'' ++ leftR is hs) rs vs) (hj : ∀ F'', (Hp q F'' ++ leftR is hs)[j]? = some R) (le : F ≤ F')
    (hnew : ∀ w F R, SH w F R → ∃ Γ F'', F ≤ F'' ∧ SH w F'' (star (stars (Hs' Γ x F'')) R)) (hρ : ∀ Γ F'', ρ Γ x F'' (tup vs)) :
    some x = some r → ∀ a w, Hd n [dclo f caps] S F' hs a w → fnPostO P fn F R ρ Hs' r (.panic [{ v := penc q, recovered := false }]) a w := by
  intro e a w ha
  simp only [Option.some.injEq] at e
  subst e
  show LeavesIn Fence.wide 0 P fn a.tmps _ a.defers (.panicking _) w
  rw [ha.1.2.1]
  have hsh : SH w F' (star (stars Hs) (stars (leftR is hs))) := ha.2.mono fun m hm => by
    have := stars_part (ks := is) hm
    rw [hi] at this; exact this
  refine leavesIn_cons (by simp) (fun e => by cases e) (invoke_clo hcall) leads_clo ((hc.2 q w _ hsh).mono ?_)
  rintro _ _ w' ⟨rfl, ⟨v, rfl⟩, F2, le2, h2⟩
  have h3 : SH w' F2 (stars (Hp q F2 ++ leftR is hs)) := h2.mono fun _ => stars_app
  obtain ⟨Γ, F3, le3, h4⟩ := hnew _ _ _ (h3.only (hj F2))
  exact ⟨_, run_results (n := n) (a := a) (D := a.defers) hr ⟨⟨ha.1.1, rfl, ha.1.2.2⟩, h3⟩ (h F2 le2), Γ, F3, _, Fz.le_trans le (Fz.le_trans le2 le3), rfl, hρ Γ F3, h4⟩
end
section
variable {β : Type} {P : Program} {ops : Array Oper} {rest : List Oper} {ks : List Kt} {Q : Exit → Act → World → Prop} {m : Option β} {r : β}
variable {n : Nat} {D : List Deferred} {S : List (Nat × Value)} {F : Fz} {hs : List HP} {d : Nat} {ty t t' tx : TypeId} {pos : String} {after : Array Edge} {ox oy : Operand} {v : Value}
theorem eqlNilI' {ms : Array (String × TypeId)} (ht : P.underlying t = some (.interface ms)) (k : Nat) (w : World) : (Op.equalIn (k + 1) t .nilIface .nilIface).run P w = .ok true w := by
  simp [Op.equalIn, rUnd ht]
theorem eqlIfaceNil' {ms : Array (String × TypeId)} (ht : P.underlying t = some (.interface ms)) (k : Nat) (w : World) : (Op.equalIn (k + 1) t (.iface tx v) .nilIface).run P w = .ok false w := by
  simp [Op.equalIn, rUnd ht]
theorem eqlNilI {ms : Array (String × TypeId)} (ht : P.underlying t = some (.interface ms)) (w : World) : (Op.equal t .nilIface .nilIface).run P w = .ok true w := eqlNilI' ht 9999 w
theorem eqlIfaceNil {ms : Array (String × TypeId)} (ht : P.underlying t = some (.interface ms)) (w : World) : (Op.equal t (.iface tx v) .nilIface).run P w = .ok false w := eqlIfaceNil' ht 9999 w
theorem GL.neqNil0 {ms : Array (String × TypeId)} (hd : Nat.blt d n = true) (ht : P.underlying t = some (.interface ms)) (hx : evalS S ox = some .nilIface) (k : GL κ P ops rest ks Q (Hd n D ((d, .bool false) :: S) F hs) m r) :
    GL κ P ops (⟨some d, .binOp .neq t ox (.const .nilIface) t', ty, pos, after, none⟩ :: rest) ks Q (Hd n D S F hs) m r :=
  GL.val hd (fun a w ha => by
    have h1 : a.eval (.const .nilIface) = .nilIface := rfl
    simp [execOp, ha.1.eval hx, h1, eqGuard, binOp, eqlNilI ht]) k
theorem GL.neqNil1 {ms : Array (String × TypeId)} (hd : Nat.blt d n = true) (ht : P.underlying t = some (.interface ms)) (hx : evalS S ox = some (.iface tx v)) (k : GL κ P ops rest ks Q (Hd n D ((d, .bool true) :: S) F hs) m r) :
    GL κ P ops (⟨some d, .binOp .neq t ox (.const .nilIface) t', ty, pos, after, none⟩ :: rest) ks Q (Hd n D S F hs) m r :=
  GL.val hd (fun a w ha => by
    have h1 : a.eval (.const .nilIface) = .nilIface := rfl
    simp [execOp, ha.1.eval hx, h1, eqGuard, binOp, eqlIfaceNil ht]) k
theorem GL.assertOk {td : TypeDesc} (hd : Nat.blt d n = true) (ht : P.underlying tx = some td) (hn : ∀ ms, td ≠ .interface ms) (hx : evalS S ox = some (.iface tx v)) (k : GL κ P ops rest ks Q (Hd n D ((d, .tuple #[v, .bool true]) :: S) F hs) m r) :
    GL κ P ops (⟨some d, .typeAssert ox t tx true, ty, pos, after, none⟩ :: rest) ks Q (Hd n D S F hs) m r :=
  GL.val hd (fun a w ha => by
    have : (Instr.typeAssert (.iface tx v) t tx true).run P w = .ok (.tuple #[v, .bool true]) w := by
      cases td <;> simp_all [Instr.typeAssert, rUnd ht]
    simp [execOp, ha.1.eval hx, this]) k
end
theorem news_nil {X : HP} {m : Mem} (h : X m) : star (stars []) X m := ⟨fun _ => none, m, fun _ => .inl rfl, fun _ _ e => by simp at e, Mem.sub.refl _, trivial, h⟩
theorem news_cons {α : Type} {γ : Nat} {C : Fz → Nat → α → HP} {F : Fz} {hs : List HP} {R : HP} {m : Mem} (h : star (stars hs) (star (gho γ []) R) m) : star (stars (arena γ C F [] :: hs)) R m := by
  have h1 := star_assoc' (star_swap h)
  exact star_mono_left (fun m hm => star_mono_left (fun m hm => ⟨[], rfl, m, fun _ => none, fun _ => .inr rfl, Mem.sub.refl _, fun _ _ e => by simp at e, hm, trivial⟩) hm) h1
end Go.Dec
end

section
namespace Go.Dec
variable {κ : Option Nat}
def wpS (P : Program) (ops : Array Oper) (w : World) (K : Act → Prop) : List Oper → Act → Prop
  | [], a => K a
  | o :: rest, a => if Region.wanted o (yielded ops a.tmps) then ∃ v, (execOp a.eval o).run P w = .ok (.value v) w ∧ wpS P ops w K rest (a.put o.dst v) else wpS P ops w K rest (a.put o.dst undef)
def GS {β : Type} (P : Program) (ops : Array Oper) (l : List Oper) (E A : Act → World → Prop) (m : Option β) (r : β) : Prop :=
  m = some r → ∀ a w, A a w → wpS P ops w (fun a' => E a' w) l a
def StepV (P : Program) (ops : Array Oper) (w : World) (o : Oper) (v : Value) (a : Act) : Prop :=
  (Region.wanted o (yielded ops a.tmps) = true ∧ (execOp a.eval o).run P w = .ok (.value v) w) ∨ (Region.wanted o (yielded ops a.tmps) = false ∧ v = undef)
def putN : Act → List Oper → List Value → Act
  | a, o :: os, v :: vs => putN (a.put o.dst v) os vs
  | a, _, _ => a
theorem putN_snoc : ∀ {l : List Oper} {vs : List Value} {a : Act} {i : Nat} {o : Oper} {v : Value}, l[i]? = some o → vs[i]? = some v → putN a (l.take (i + 1)) (vs.take (i + 1)) = (putN a (l.take i) (vs.take i)).put o.dst v
  | [], _, _, _, _, _, h, _ => by simp at h
  | _ :: _, [], _, _, _, _, _, h => by simp at h
  | x :: l, u :: vs, a, 0, o, v, h, h' => by
    simp at h h'; subst h; subst h'; rfl
  | x :: l, u :: vs, a, i + 1, o, v, h, h' => by
    simp only [List.take_succ_cons, putN]
    exact putN_snoc (l := l) (by simpa using h) (by simpa using h')
theorem wpS_out {P : Program} {ops : Array Oper} {w : World} {K : Act → Prop} : ∀ {l : List Oper} {a : Act}, wpS P ops w K l a → ∃ vs : List Value, vs.length = l.length ∧ K (putN a l vs) ∧ ∀ i o v, l[i]? = some o → vs[i]? = some v → StepV P ops w o v (putN a (l.take i) (vs.take i))
  | [], a, h => ⟨[], rfl, h, fun i o v h => by simp at h⟩
  | x :: l, a, h => by
    have key : ∃ v, StepV P ops w x v a ∧ wpS P ops w K l (a.put x.dst v) := by
      unfold wpS at h
      split at h
      · rename_i hw
        obtain ⟨v, h1, h2⟩ := h
        exact ⟨v, .inl ⟨hw, h1⟩, h2⟩
      · rename_i hw
        exact ⟨undef, .inr ⟨by simpa using hw, rfl⟩, h⟩
    obtain ⟨v, h1, h2⟩ := key
    obtain ⟨vs, g1, g2, g3⟩ := wpS_out h2
    refine ⟨v :: vs, by simp [g1], g2, fun i o u ho hu => ?_⟩
    cases i with
    | zero => simp at ho hu; subst ho; subst hu; exact h1
    | succ i => exact g3 i o u (by simpa using ho) (by simpa using hu)
theorem yielded_getD (ops : Array Oper) (t : Array Value) (j : Nat) : yielded ops t j = match (ops[j]?).bind (·.dst) with
    | none => none
    | some d => match t.getD d undef with
      | .bool b => some b
      | _ => none := by
  unfold yielded
  cases (ops[j]?).bind (·.dst) with
  | none => rfl
  | some d =>
    simp only [Option.bind_some, Array.getD_eq_getD_getElem?]
    cases t[d]? with
    | none => rfl
    | some v => cases v <;> rfl
def looksB (l : List Oper) (k : Nat) (o : Oper) : Bool := (o.looksAt l.toArray).all fun t => (List.range k).all fun j => match dstOf l j with
  | none => true
  | some d => !Nat.beq d t || o.after.toList.any fun e => Region.binds .any e && Nat.beq e.on j
def noSel : Op → Bool
  | .select _ _ => false
  | _ => true
def slotsB (n : Nat) : List Oper → Bool
  | [] => true
  | o :: os => (match o.dst with
    | none => true
    | some d => Nat.blt d n && !os.any (sameDst d)) && slotsB n os
def maskOr : List Bool → List Bool → List Bool
  | a :: xs, b :: bs => (a || b) :: maskOr xs bs
  | [], bs => bs
  | xs, [] => xs
def setTrue : Nat → List Bool
  | 0 => [true]
  | n + 1 => false :: setTrue n
def closF (done : List (List Bool)) (o : Oper) : List Bool := o.after.toList.foldr (fun e m => bif Region.binds .any e then maskOr (maskOr (setTrue e.on) (done.getD e.on [])) m else m) []
def closL : List (List Bool) → List Oper → List (List Bool)
  | done, [] => done
  | done, o :: l => closL (done ++ [closF done o]) l
def allT : Nat → List Bool → Bool
  | 0, _ => true
  | n + 1, b :: bs => b && allT n bs
  | _ + 1, [] => false
def deepB (l : List Oper) (k : Nat) : Bool := (List.range l.length).all fun t => Nat.blt t k || allT t ((closL [] l).getD t [])
theorem maskOr_get : ∀ {a b : List Bool} {j : Nat}, (maskOr a b).getD j false = true → a.getD j false = true ∨ b.getD j false = true
  | [], bs, j, h => .inr h
  | a :: xs, [], j, h => .inl h
  | a :: xs, b :: bs, 0, h => by
    have h : (a || b) = true := h
    rcases Bool.or_eq_true_iff.1 h with h | h
    · exact .inl h
    · exact .inr h
  | a :: xs, b :: bs, j + 1, h => maskOr_get (a := xs) (b := bs) (j := j) h
theorem setTrue_get : ∀ {n j : Nat}, (setTrue n).getD j false = true → j = n
  | 0, 0, _ => rfl
  | 0, j + 1, h => by simp [setTrue] at h
  | n + 1, 0, h => by simp [setTrue] at h
  | n + 1, j + 1, h => by
    have : (setTrue n).getD j false = true := h
    rw [setTrue_get this]
def MaskOK (l : List Oper) (done : List (List Bool)) : Prop := ∀ t m, done[t]? = some m → ∀ j, m.getD j false = true → ∃ s, depB l s t j = true
theorem closF_spec {l : List Oper} {done : List (List Bool)} (hd : MaskOK l done) {t : Nat} {o : Oper} (ho : l[t]? = some o) : ∀ {j : Nat}, (closF done o).getD j false = true → ∃ s, depB l s t j = true := by
  have key : ∀ (es : List Edge), (∀ e ∈ es, e ∈ o.after.toList) → ∀ j, (es.foldr (fun e m => bif Region.binds .any e then maskOr (maskOr (setTrue e.on) (done.getD e.on [])) m else m) []).getD j false = true → ∃ s, depB l s t j = true := fun es => by
    induction es with
    | nil => intro _ j h; simp at h
    | cons e es ih =>
      intro hes j h
      have hes' := fun e' he' => hes e' (List.mem_cons_of_mem _ he')
      simp only [List.foldr_cons] at h
      cases hb : Region.binds .any e with
      | false => rw [hb] at h; simp only [cond_false] at h; exact ih hes' j h
      | true =>
        rw [hb] at h
        simp only [cond_true] at h
        have hmem := hes e (by simp)
        rcases maskOr_get h with h | h
        · rcases maskOr_get h with h | h
          · have := setTrue_get h
            subst this
            exact ⟨1, by simp only [depB, ho]; exact List.any_eq_true.2 ⟨e, hmem, by simp [hb]⟩⟩
          · rw [List.getD_eq_getElem?_getD] at h
            cases hm : done[e.on]? with
            | none => rw [List.getD_eq_getElem?_getD, hm] at h; simp at h
            | some m =>
              rw [List.getD_eq_getElem?_getD, hm] at h
              obtain ⟨s, hs⟩ := hd e.on m hm j (by rw [List.getD_eq_getElem?_getD]; exact h)
              exact ⟨s + 1, by simp only [depB, ho]; exact List.any_eq_true.2 ⟨e, hmem, by simp [hb, hs]⟩⟩
        · exact ih hes' j h
  intro j h
  exact key o.after.toList (fun _ h => h) j h
theorem closL_spec {l : List Oper} : ∀ {post pre : List Oper} {done : List (List Bool)}, l = pre ++ post → done.length = pre.length → MaskOK l done → MaskOK l (closL done post)
  | [], _, _, _, _, hd => hd
  | o :: post, pre, done, e, hl, hd => by
    refine closL_spec (pre := pre ++ [o]) (post := post) (by simp [e]) (by simp [hl]) fun t m hm j hj => ?_
    rcases Nat.lt_or_ge t done.length with h | h
    · rw [List.getElem?_append_left h] at hm; exact hd t m hm j hj
    · have ht : t = done.length := by
        have := (List.getElem?_eq_some_iff.1 hm).1
        simp at this; omega
      subst ht
      rw [List.getElem?_append_right (Nat.le_refl _)] at hm
      simp at hm; subst hm
      exact closF_spec hd (by rw [e, hl]; simp) hj
theorem allT_get : ∀ {n j : Nat} {m : List Bool}, allT n m = true → j < n → m.getD j false = true
  | 0, _, _, _, h => by omega
  | n + 1, j, [], h, _ => by cases h
  | n + 1, 0, b :: bs, h, _ => by
    have h : (b && allT n bs) = true := h
    exact ((Bool.and_eq_true _ _).mp h).1
  | n + 1, j + 1, b :: bs, h, hj => by
    have h : (b && allT n bs) = true := h
    exact allT_get (n := n) (j := j) (m := bs) ((Bool.and_eq_true _ _).mp h).2 (by omega)
theorem deepB_spec {l : List Oper} {k : Nat} (h : deepB l k = true) : ∀ t o, k ≤ t → l[t]? = some o → ∀ j, j < t → ∃ s, depB l s t j = true := fun t o hk ho j hj => by
  have hlt := lt_of_getEl ho
  have h1 := List.all_eq_true.1 h t (List.mem_range.2 hlt)
  have hb : Nat.blt t k = false := by
    cases hb : Nat.blt t k with
    | false => rfl
    | true => have := Nat.le_of_ble_eq_true hb; omega
  rw [hb, Bool.false_or] at h1
  have hM : MaskOK l (closL [] l) := closL_spec (pre := []) rfl rfl fun t m hm => by simp at hm
  have h2 := allT_get h1 hj
  cases hm : (closL [] l)[t]? with
  | none => rw [List.getD_eq_getElem?_getD (l := closL [] l), hm] at h2; simp at h2
  | some m => rw [List.getD_eq_getElem?_getD (l := closL [] l), hm] at h2; exact hM t m hm j h2
theorem slotsB_get : ∀ {n : Nat} {os : List Oper} {i : Nat} {o : Oper} {d : Nat}, slotsB n os = true → os[i]? = some o → o.dst = some d → d < n ∧ ∀ j o', os[j]? = some o' → o'.dst = some d → j = i
  | _, [], _, _, _, _, h, _ => by simp at h
  | n, x :: os, 0, o, d, hf, h, hd => by
    simp at h; subst h
    simp only [slotsB, hd, Bool.and_eq_true, Bool.not_eq_true'] at hf
    refine ⟨Nat.le_of_ble_eq_true hf.1.1, fun j o' hj hd' => ?_⟩
    cases j with
    | zero => rfl
    | succ j => exact (freshG_no hf.1.2 (by simpa using hj) hd').elim
  | n, x :: os, i + 1, o, d, hf, h, hd => by
    have hf' := hf
    simp only [slotsB, Bool.and_eq_true] at hf
    obtain ⟨g1, g2⟩ := slotsB_get (os := os) (i := i) hf.2 (by simpa using h) hd
    refine ⟨g1, fun j o' hj hd' => ?_⟩
    cases j with
    | zero =>
      simp at hj; subst hj
      simp only [slotsB, hd', Bool.and_eq_true, Bool.not_eq_true'] at hf'
      exact (freshG_no hf'.1.2 (by simpa using h) hd).elim
    | succ j => rw [g2 j o' (by simpa using hj) hd']
def drawB (n : Nat) (l : List Oper) (k : Nat) : Bool := ordB 0 l && deepB l k && Nat.ble k l.length && slotsB n (l.take k) && (l.take k).all fun o => looksB l k o && noSel o.op && noDefer o.op
section
variable {β : Type} {P : Program} {ks : List Kt} {Q : Exit → Act → World → Prop} {m : Option β} {r : β} {n : Nat} {D : List Deferred} {S0 : List (Nat × Value)} {F : Fz} {hs : List HP} {l : List Oper}
structure CharF (l : List Oper) (k n : Nat) (a0 : Act) (vs : List Value) (L : Nat → Bool) (a : Act) : Prop where
  size : a.tmps.size = n
  defs : a.defers = a0.defers
  got : ∀ (j : Nat) (v : Value) (t : Nat), j < k → L j = true → dstOf l j = some t → vs[j]? = some v → a.tmps.getD t undef = v
  old : ∀ t, (∀ j, j < k → L j = true → dstOf l j ≠ some t) → a.tmps.getD t undef = a0.tmps.getD t undef
theorem getD_set_self {t : Array Value} {d : Nat} {v : Value} (h : d < t.size) : (t.setIfInBounds d v).getD d undef = v := by simp [Array.getD_eq_getD_getElem?, h]
theorem getD_set_other {t : Array Value} {d e : Nat} {v : Value} (h : d ≠ e) : (t.setIfInBounds d v).getD e undef = t.getD e undef := by
  simp only [Array.getD_eq_getD_getElem?]
  rw [Array.getElem?_setIfInBounds_ne h]
theorem CharF.put {k : Nat} {a0 a : Act} {vs : List Value} {L : Nat → Bool} (c : CharF l k n a0 vs L a) (hsl : slotsB n (l.take k) = true) {i : Nat} {o : Oper} {v : Value} (hi : i < k) (ho : l[i]? = some o) (hv : vs[i]? = some v) : CharF l k n a0 vs (updB L i) (a.put o.dst v) := by
  have hdst : dstOf l i = o.dst := by simp [dstOf, ho]
  have hslot : ∀ d, o.dst = some d → d < n ∧ ∀ j, j < k → dstOf l j = some d → j = i := fun d hd => by
    obtain ⟨g1, g2⟩ := slotsB_get hsl (i := i) (o := o) (d := d) (by rw [List.getElem?_take, if_pos hi]; exact ho) hd
    refine ⟨g1, fun j hj e => ?_⟩
    cases hoj : l[j]? with
    | none => simp [dstOf, hoj] at e
    | some oj => exact g2 j oj (by rw [List.getElem?_take, if_pos hj]; exact hoj) (by simpa [dstOf, hoj] using e)
  cases hd : o.dst with
  | none =>
    refine ⟨c.size, c.defs, fun j u t hj hL e hu => ?_, fun t ht => c.old t fun j hj hL => ht j hj ?_⟩
    · by_cases hji : j = i
      · subst hji; rw [hdst, hd] at e; cases e
      · exact c.got j u t hj (by simpa [updB, hji] using hL) e hu
    · simp only [updB]; split
      · rfl
      · exact hL
  | some d =>
    obtain ⟨hdn, huniq⟩ := hslot d hd
    refine ⟨by simp [Act.put, c.size], c.defs, fun j u t hj hL e hu => ?_, fun t ht => ?_⟩
    · by_cases hji : j = i
      · subst hji
        rw [hdst, hd] at e; cases e
        rw [hv] at hu; cases hu
        exact getD_set_self (by rw [c.size]; exact hdn)
      · have hne : d ≠ t := fun e' => by subst e'; exact hji (huniq j hj e)
        show (a.tmps.setIfInBounds d v).getD t undef = u
        rw [getD_set_other hne]
        exact c.got j u t hj (by simpa [updB, hji] using hL) e hu
    · have hne : d ≠ t := fun e' => by subst e'; exact ht i hi (by simp [updB]) (by rw [hdst, hd])
      show (a.tmps.setIfInBounds d v).getD t undef = _
      rw [getD_set_other hne]
      exact c.old t fun j hj hL => ht j hj (by simp only [updB]; split <;> first | rfl | exact hL)
theorem CharF.same {k : Nat} {a0 a b : Act} {vs : List Value} {L L' : Nat → Bool} (c : CharF l k n a0 vs L a) (c' : CharF l k n a0 vs L' b) (hvs : k ≤ vs.length) {t : Nat} (ht : ∀ j, j < k → dstOf l j = some t → L j = true ∧ L' j = true) : a.tmps.getD t undef = b.tmps.getD t undef := by
  by_cases h : ∃ j, j < k ∧ dstOf l j = some t
  · obtain ⟨j, hj, e⟩ := h
    obtain ⟨h1, h2⟩ := ht j hj e
    have hv : vs[j]? = some vs[j] := List.getElem?_eq_getElem (by omega)
    rw [c.got j _ t hj h1 e hv, c'.got j _ t hj h2 e hv]
  · have hn : ∀ j, j < k → dstOf l j ≠ some t := fun j hj e => h ⟨j, hj, e⟩
    rw [c.old t fun j hj _ => hn j hj, c'.old t fun j hj _ => hn j hj]
theorem CharF.eq {k : Nat} {a0 a b : Act} {vs : List Value} {L : Nat → Bool} (c : CharF l k n a0 vs L a) (c' : CharF l k n a0 vs L b) (hvs : k ≤ vs.length) (hL : ∀ j, j < k → L j = true) : a = b := by
  have h : ∀ t, a.tmps.getD t undef = b.tmps.getD t undef := fun t => c.same c' hvs fun j hj _ => ⟨hL j hj, hL j hj⟩
  have ht : a.tmps = b.tmps := by
    apply Array.ext
    · rw [c.size, c'.size]
    · intro i h1 h2
      have := h i
      simpa [Array.getD_eq_getD_getElem?, h1, h2] using this
  have hd : a.defers = b.defers := by rw [c.defs, c'.defs]
  obtain ⟨ta, da⟩ := a
  obtain ⟨tb, db⟩ := b
  have ht : ta = tb := ht
  have hd : da = db := hd
  rw [ht, hd]
theorem StepV.of_same {ops : Array Oper} {w : World} {o : Oper} {v : Value} {a b : Act} (hs : noSel o.op = true) (h : StepV P ops w o v a) (he : ∀ t ∈ o.looksAt ops, a.tmps.getD t undef = b.tmps.getD t undef) : StepV P ops w o v b := by
  have hx : execOp a.eval o = execOp b.eval o := execOp_congr o (fun cs bb e => by rw [e] at hs; cases hs) fun x hx => by
    cases x with
    | tmp t => exact he t (List.mem_append_left _ (List.mem_filterMap.2 ⟨.tmp t, by simpa using hx, rfl⟩))
    | const v => rfl
    | global g => rfl
    | func f => rfl
  have hw : Region.wanted o (yielded ops a.tmps) = Region.wanted o (yielded ops b.tmps) := by
    unfold Region.wanted
    cases hg : o.guard with
    | none => rfl
    | some gw =>
      obtain ⟨g, want⟩ := gw
      have : yielded ops a.tmps g = yielded ops b.tmps g := by
        rw [yielded_getD, yielded_getD]
        cases ht : (ops[g]?).bind (·.dst) with
        | none => rfl
        | some t =>
          simp only []
          rw [he t (List.mem_append_right _ (by simp [hg, ht]))]
      simp only [this]
  unfold StepV at *
  rw [← hx, ← hw]; exact h
theorem char_seq {k : Nat} {a0 : Act} {vs : List Value} (hsz : a0.tmps.size = n) (hsl : slotsB n (l.take k) = true) (hk : k ≤ l.length) (hvs : vs.length = k) : ∀ i, i ≤ k → CharF l k n a0 vs (fun j => Nat.blt j i) (putN a0 ((l.take k).take i) (vs.take i))
  | 0, _ => by
    refine ⟨hsz, rfl, fun j v t _ hL => ?_, fun t _ => rfl⟩
    have : Nat.blt j 0 = true := hL
    have := Nat.le_of_ble_eq_true this; omega
  | i + 1, hi => by
    have ho : l[i]? = some l[i] := List.getElem?_eq_getElem (by omega)
    have hv : vs[i]? = some vs[i] := List.getElem?_eq_getElem (by omega)
    have h := (char_seq hsz hsl hk hvs i (by omega)).put hsl (by omega) ho hv
    rw [putN_snoc (l := l.take k) (o := l[i]) (v := vs[i]) (by rw [List.getElem?_take, if_pos (by omega)]; exact ho) hv]
    have e : (fun j => Nat.blt j (i + 1)) = updB (fun j => Nat.blt j i) i := by
      funext j
      simp only [updB]
      by_cases hj : j = i
      · subst hj; rw [if_pos rfl]; exact Nat.ble_eq_true_of_le (Nat.le_refl _)
      · rw [if_neg hj]
        cases h1 : Nat.blt j i with
        | true => have := Nat.le_of_ble_eq_true h1; exact Nat.ble_eq_true_of_le (show j + 1 ≤ i + 1 by omega)
        | false =>
          cases h2 : Nat.blt j (i + 1) with
          | false => rfl
          | true =>
            have := Nat.le_of_ble_eq_true h2
            have h3 : Nat.blt j i = true := Nat.ble_eq_true_of_le (show j + 1 ≤ i by omega)
            rw [h1] at h3; cases h3
    rw [e]; exact h
theorem GC.drawZ {id : Nat} (k : Nat) (hm : P.follows .mixedOrders = true) (hB : drawB n l k = true)
    (walk : GS P l.toArray (l.take k) (wpL κ P l.toArray (interp κ P ks Q) (l.drop k)) (Hd n D S0 F hs) m r) : GC κ P (.region id l.toArray true) ks Q (Hd n D S0 F hs) m r := by
  intro hmr a0 w ha
  simp only [drawB, Bool.and_eq_true, List.all_eq_true] at hB
  obtain ⟨⟨⟨⟨hord, hdeep⟩, hlen⟩, hsl⟩, hall⟩ := hB
  have htail := deepB_spec hdeep
  have hlen' : k ≤ l.length := Nat.le_of_ble_eq_true hlen
  have hw1 := walk hmr a0 { w with drawn := w.drawn + 1 } ⟨ha.1, ha.2.drew _⟩
  obtain ⟨vs, hvl, hK, hstep⟩ := wpS_out hw1
  have hvk : vs.length = k := by rw [hvl]; simp; omega
  have hseq := char_seq (a0 := a0) (vs := vs) (l := l) ha.1.1 hsl hlen' hvk
  let Free : (Nat → Bool) → Act → World → Prop := fun L a w' => Down l L ∧ (∀ i, k ≤ i → L i = false) ∧ w' = { w with drawn := w.drawn + 1 } ∧ CharF l k n a0 vs L a
  let Inv : (Nat → Bool) → Act → World → Prop := fun L a w => Free L a w ∨ ∃ i, k < i ∧ Down l L ∧ (∀ j, L j = true ↔ j < i) ∧ wpL κ P l.toArray (interp κ P ks Q) (l.drop i) a w
  have hend0 : ∀ L a w', (∀ i, i < k → L i = true) → Free L a w' → wpL κ P l.toArray (interp κ P ks Q) (l.drop k) a w' := by
    rintro L a w' hL ⟨_, hout, rfl, hc⟩
    have hLk : L = fun j => Nat.blt j k := by
      funext j
      rcases Nat.lt_or_ge j k with h | h
      · rw [hL j h]; exact (Nat.ble_eq_true_of_le h).symm
      · rw [hout j h]
        cases hb : Nat.blt j k with
        | false => rfl
        | true => have := Nat.le_of_ble_eq_true hb; omega
    have h2 := hseq k (Nat.le_refl _)
    rw [List.take_of_length_le (show (l.take k).length ≤ k by simp; omega), List.take_of_length_le (show vs.length ≤ k by omega)] at h2
    rw [hLk] at hc
    rw [hc.eq h2 (by omega) fun j hj => Nat.ble_eq_true_of_le hj]
    exact hK
  refine wp_region_inv hm Inv (fun i o h e he hb => by have := ordB_spec hord i o (by simpa using h) e he hb; omega) ?_ ?_ ?_
  · refine .inl ⟨fun i o _ h => (by cases h), fun _ _ => rfl, rfl, ⟨ha.1.1, rfl, fun j v t _ h => (by cases h), fun t _ => rfl⟩⟩
  · intro L a w' i o ho hLi hdeps hI
    have ho' : l[i]? = some o := by simpa using ho
    have hil : i < l.length := lt_of_getEl ho'
    by_cases hi : i < k
    · rcases hI with hF | ⟨k', hk, _, hL, _⟩
      case inr => have := (hL i).2 (by omega); rw [hLi] at this; cases this
      obtain ⟨hdn, hout, rfl, hc⟩ := hF
      have hot : (l.take k)[i]? = some o := by rw [List.getElem?_take, if_pos hi]; exact ho'
      have hmem : o ∈ l.take k := List.mem_of_getElem? hot
      have hoB := hall o hmem
      obtain ⟨⟨hlk, hns⟩, hnd⟩ := hoB
      have hv : vs[i]? = some vs[i] := List.getElem?_eq_getElem (by omega)
      have hst := hstep i o _ hot hv
      have hst' : StepV P l.toArray { w with drawn := w.drawn + 1 } o vs[i] a := hst.of_same hns fun t ht => by
        refine (hseq i (by omega)).same hc (by omega) fun j hj e => ?_
        have h1 := List.all_eq_true.1 (List.all_eq_true.1 hlk t ht) j (List.mem_range.2 hj)
        rw [e] at h1
        simp only [Nat.beq_refl, Bool.not_true, Bool.false_or, List.any_eq_true, Bool.and_eq_true] at h1
        obtain ⟨e', he', hb', hon⟩ := h1
        have hon : e'.on = j := Nat.eq_of_beq_eq_true hon
        have hmem' : e' ∈ o.after := by simpa using he'
        refine ⟨?_, by rw [← hon]; exact hdeps e' hmem' hb'⟩
        have := ordB_spec hord i o ho' e' hmem' hb'
        exact Nat.ble_eq_true_of_le (show j + 1 ≤ i by omega)
      have hnext : Inv (updB L i) (a.put o.dst vs[i]) { w with drawn := w.drawn + 1 } := by
        refine .inl ⟨?_, ?_, rfl, hc.put hsl hi ho' hv⟩
        · intro j oj hoj hj e he hb
          have : L e.on = true := by
            by_cases hji : j = i
            · subst hji; rw [ho'] at hoj; cases hoj; exact hdeps e he hb
            · exact hdn j oj hoj (by simpa [updB, hji] using hj) e he hb
          simp only [updB]; split
          · rfl
          · exact this
        · intro j hj; simp only [updB]; rw [if_neg (by omega)]; exact hout j hj
      rcases hst' with ⟨h1, h2⟩ | ⟨h1, h2⟩
      · rw [if_pos h1]
        refine ⟨.inr hnd, ?_⟩
        rw [h2]; exact hnext
      · rw [if_neg (by simp [h1]), ← h2]; exact hnext
    · have hdnL : Down l L := by
        rcases hI with hF | ⟨_, _, hd, _, _⟩
        · exact hF.1
        · exact hd
      have hallL : ∀ j, j < i → L j = true := fun j hj => by
        obtain ⟨s, hs⟩ := htail i o (by omega) ho' j hj
        exact dep_true hdnL hs fun o' ho'' e he hb => by rw [ho'] at ho''; cases ho''; exact hdeps e he hb
      have hdnU : Down l (updB L i) := fun j oj hoj hj e he hb => by
        have : L e.on = true := by
          by_cases hji : j = i
          · subst hji; rw [ho'] at hoj; cases hoj; exact hdeps e he hb
          · exact hdnL j oj hoj (by simpa [updB, hji] using hj) e he hb
        simp only [updB]; split
        · rfl
        · exact this
      have hw : wpL κ P l.toArray (interp κ P ks Q) (l.drop i) a w' := by
        rcases hI with hF | ⟨k', hk, _, hL, hwp⟩
        · have hiV : i = k := by
            rcases Nat.lt_or_ge k i with h | h
            · have := hallL k h; rw [hF.2.1 _ (Nat.le_refl _)] at this; cases this
            · omega
          subst hiV
          exact hend0 L a w' hallL hF
        · have : k' = i := by
            have h1 : ¬ i < k' := fun h => by have := (hL i).2 h; rw [hLi] at this; cases this
            have h2 : ¬ k' < i := fun h => by have := (hL k').1 (hallL k' h); omega
            omega
          subst this; exact hwp
      have hdrop : l.drop i = o :: l.drop (i + 1) := by
        have hg : l[i]'hil = o := by simpa [hil] using ho'
        rw [← hg]; exact List.drop_eq_getElem_cons hil
      rw [hdrop] at hw
      have hnext : ∀ a' w', wpL κ P l.toArray (interp κ P ks Q) (l.drop (i + 1)) a' w' → Inv (updB L i) a' w' := fun a' w' h =>
        .inr ⟨i + 1, by omega, hdnU, fun j => by
          simp only [updB]
          by_cases hj : j = i
          · simp [hj]
          · simp only [hj, if_false]
            constructor
            · intro hLj
              have : j < i := by
                rcases Nat.lt_or_ge j i with h | h
                · exact h
                · rcases hI with hF | ⟨k', hk, _, hL, _⟩
                  · rw [hF.2.1 j (by omega)] at hLj; cases hLj
                  · have h1 := (hL j).1 hLj
                    have := (hL i).2 (by omega); rw [hLi] at this; cases this
              omega
            · intro hj'; exact hallL j (by omega), h⟩
      unfold wpL at hw
      split
      · rename_i hwn
        rw [if_pos hwn] at hw
        exact opW_mono hnext hw
      · rename_i hwn
        rw [if_neg hwn] at hw
        exact hnext _ _ hw
  · intro L a w' hallL hI
    have hw : wpL κ P l.toArray (interp κ P ks Q) (l.drop l.length) a w' := by
      rcases hI with hF | ⟨k', hk, _, hL, hwp⟩
      · have hVl : k = l.length := by
          rcases Nat.lt_or_ge k l.length with h | h
          · have := hallL k (by simpa using h); rw [hF.2.1 _ (Nat.le_refl _)] at this; cases this
          · omega
        have := hend0 L a w' (fun i hi => hallL i (by simp; omega)) hF
        rwa [hVl] at this
      · have : l.length ≤ k' := by
          rcases Nat.lt_or_ge k' l.length with h | h
          · have := (hL k').1 (hallL k' (by simpa using h)); omega
          · exact h
        rw [List.drop_eq_nil_of_le this] at hwp
        rw [List.drop_eq_nil_of_le (Nat.le_refl _)]; exact hwp
    rw [List.drop_eq_nil_of_le (Nat.le_refl _)] at hw
    exact hw
end
section
variable {β : Type} {P : Program} {ops : Array Oper} {rest l : List Oper} {E A A' : Act → World → Prop} {m : Option β} {r : β}
variable {n : Nat} {D : List Deferred} {S S' : List (Nat × Value)} {F F' : Fz} {hs hs' : List HP}
theorem GS.step {o : Oper} (hg : o.guard = none) (h : m = some r → ∀ a w, A a w → ∃ v, (execOp a.eval o).run P w = .ok (.value v) w ∧ wpS P ops w (fun a' => E a' w) rest (a.put o.dst v)) : GS P ops (o :: rest) E A m r := by
  intro hm a w ha
  obtain ⟨v, h1, h2⟩ := h hm a w ha
  unfold wpS
  rw [if_pos (by simp [Region.wanted, hg])]
  exact ⟨v, h1, h2⟩
def SegS (n : Nat) (D : List Deferred) (d : Nat) (v : Value) (S : List (Nat × Value)) (F : Fz) (hs : List HP) : Act → World → Prop := fun a w => ∃ F', F ≤ F' ∧ Hd n D ((d, v) :: S) F' hs a w
theorem wpS_append {w : World} {K1 K2 : Act → Prop} (l2 : List Oper) (hq : ∀ a, K1 a → wpS P ops w K2 l2 a) : ∀ (l1 : List Oper) (a : Act), wpS P ops w K1 l1 a → wpS P ops w K2 (l1 ++ l2) a
  | [], a, h => hq a h
  | o :: l1, a, h => by
    simp only [List.cons_append]
    unfold wpS at h ⊢
    split
    · rename_i hw
      rw [if_pos hw] at h
      obtain ⟨v, h1, h2⟩ := h
      exact ⟨v, h1, wpS_append l2 hq l1 _ h2⟩
    · rename_i hw
      rw [if_neg hw] at h
      exact wpS_append l2 hq l1 _ h
theorem GS.fin {S' : List (Nat × Value)} {d : Nat} {v : Value} {x : β} (j : Nat) (hv : lookS S' d = some v) (hd : S'.drop j = S) (hf : fresh S (S'.take j) = true) (le : F ≤ F') : GS P ops [] (SegS n D d v S F hs) (Hd n D S' F' hs) (some x) x :=
  fun _ _ _ ha => ⟨F', le, ha.1.sub (Sub.cons hv (sub_of_drop j hd hf)), ha.2⟩
theorem GS.finZ {S' : List (Nat × Value)} {d : Nat} {x z : Bool} (j : Nat) (hv : lookS S' d = some (.bool x)) (hd : S'.drop j = S) (hf : fresh S (S'.take j) = true) (le : F ≤ F') : GS P ops [] (SegS n D d (.bool z) S F hs) (Hd n D S' F' hs) (some x) z := fun e a w ha => by
  simp only [Option.some.injEq] at e; subst e
  exact ⟨F', le, ha.1.sub (Sub.cons hv (sub_of_drop j hd hf)), ha.2⟩
theorem GS.seg {α : Type} {m0 : Option α} {f : α → Option β} (k d : Nat) (V : α → Value) (h : ∀ z, GS P ops (l.take k) (SegS n D d (V z) S F hs) (Hd n D S F hs) m0 z)
    (next : ∀ z F', m0 = some z → F ≤ F' → GS P ops (l.drop k) E (Hd n D ((d, V z) :: S) F' hs) (f z) r) : GS P ops l E (Hd n D S F hs) (m0.bind f) r := by
  intro hm a w ha
  cases hl : m0 with
  | none => rw [hl] at hm; cases hm
  | some z =>
    rw [hl] at hm
    have h1 := h z hl a w ha
    have := wpS_append (P := P) (ops := ops) (K2 := fun a' => E a' w) (l.drop k) (fun a' hq => by
      obtain ⟨F', le, hq⟩ := hq; exact next z F' hl le hm a' w hq) (l.take k) a h1
    rwa [List.take_append_drop] at this
theorem GS.pend {κ : Option Nat} {tl : List Oper} {ks : List Kt} {Q : Exit → Act → World → Prop} (h : GL κ P ops tl ks Q A m r) : GS P ops [] (wpL κ P ops (interp κ P ks Q) tl) A m r := fun hm a w ha => h hm a w ha
end
section
section
variable {β : Type} {P : Program} {ops : Array Oper} {l rest : List Oper} {E : Act → World → Prop} {A A' : Act → World → Prop} {m : Option β} {r : β}
theorem GS.bind {α : Type} {e : Option α} {f : α → Option β} (h : ∀ y, e = some y → GS P ops l E A (f y) r) : GS P ops l E A (e.bind f) r :=
  fun hm => by
    cases e with
    | none => simp at hm
    | some y => exact h y rfl hm
end
end
section
section
variable {β : Type} {P : Program} {ops : Array Oper} {rest : List Oper} {E : Act → World → Prop} {A : Act → World → Prop} {m : Option β} {r : β}
section
variable {n : Nat} {D : List Deferred} {S : List (Nat × Value)} {F : Fz} {hs : List HP}
theorem GS.on {dst : Option Tmp} {op : Op} {ty : TypeId} {pos : String} {after : Array Edge} {j t : Nat} {want : Bool} (hj : (ops[j]?).bind (·.dst) = some t) (hv : lookS S t = some (.bool want))
    (k : GS P ops (⟨dst, op, ty, pos, after, none⟩ :: rest) E (Hd n D S F hs) m r) : GS P ops (⟨dst, op, ty, pos, after, some (j, want)⟩ :: rest) E (Hd n D S F hs) m r := by
  intro hm a w ha
  have h := k hm a w ha
  have hy := yielded_some (ops := ops) hj ha.1 hv
  unfold wpS at h ⊢
  rw [if_pos (by simp [Region.wanted])] at h
  rw [if_pos (by simp [Region.wanted, hy])]
  exact h
theorem GS.off {d : Nat} {op : Op} {ty : TypeId} {pos : String} {after : Array Edge} {j t : Nat} {want : Bool} {v : Value} (hd : Nat.blt d n = true) (hj : (ops[j]?).bind (·.dst) = some t) (hv : lookS S t = some v) (hx : isNot v want = true)
    (k : GS P ops rest E (Hd n D ((d, undef) :: S) F hs) m r) : GS P ops (⟨some d, op, ty, pos, after, some (j, want)⟩ :: rest) E (Hd n D S F hs) m r := by
  intro hm a w ha
  have hy : yielded ops a.tmps j ≠ some want := by
    have h := ha.1.2.2 t _ hv
    unfold yielded
    rw [hj]
    simp only [Option.bind_some]
    simp only [Array.getD_eq_getD_getElem?] at h
    cases e : a.tmps[t]? with
    | none => simp
    | some u =>
      rw [e] at h; simp at h; subst h
      cases u <;> simp [isNot] at hx ⊢
      exact hx
  unfold wpS
  rw [if_neg (by simp [Region.wanted, hy])]
  exact k hm _ w ⟨ha.1.put hd _, ha.2⟩
theorem GS.val {d : Nat} {op : Op} {ty : TypeId} {pos : String} {after : Array Edge} {v : Value} (hd : Nat.blt d n = true)
    (hrun : ∀ a w, Hd n D S F hs a w → (execOp a.eval ⟨some d, op, ty, pos, after, none⟩).run P w = .ok (.value v) w)
    (k : GS P ops rest E (Hd n D ((d, v) :: S) F hs) m r) (hnd : noDefer op = true := by rfl) : GS P ops (⟨some d, op, ty, pos, after, none⟩ :: rest) E (Hd n D S F hs) m r :=
  have _ := hnd
  GS.step rfl fun hm a w ha => ⟨v, hrun a w ha, k hm _ w ⟨ha.1.put hd v, ha.2⟩⟩
section
variable {d : Nat} {ty t t' : TypeId} {pos : String} {after : Array Edge} {ox oy oz : Operand} {v u : Value} {kd : IntKind} {x y : Int}
theorem GS.move (hd : Nat.blt d n = true) (hx : evalS S ox = some v) (k : GS P ops rest E (Hd n D ((d, v) :: S) F hs) m r) :
    GS P ops (⟨some d, .move ox, ty, pos, after, none⟩ :: rest) E (Hd n D S F hs) m r :=
  GS.val hd (fun a w ha => by simp [execOp, ha.1.eval hx]) k
theorem GS.assign (hd : Nat.blt d n = true) (hx : evalS S ox = some v) (k : GS P ops rest E (Hd n D ((d, v) :: S) F hs) m r) :
    GS P ops (⟨some d, .assign ox, ty, pos, after, none⟩ :: rest) E (Hd n D S F hs) m r :=
  GS.val hd (fun a w ha => by simp [execOp, ha.1.eval hx]) k
theorem GS.assignL {f : Int → Option β} (hd : Nat.blt d n = true) (hx : evalS S ox = some (.int kd x)) (k : ∀ y, y = x → GS P ops rest E (Hd n D ((d, .int kd y) :: S) F hs) (f y) r) :
    GS P ops (⟨some d, .assign ox, ty, pos, after, none⟩ :: rest) E (Hd n D S F hs) (bindv x f) r := GS.assign hd hx (k x rfl)
theorem GS.pickT (hd : Nat.blt d n = true) (hz : evalS S oz = some (.bool true)) (hx : evalS S ox = some v) (k : GS P ops rest E (Hd n D ((d, v) :: S) F hs) m r) :
    GS P ops (⟨some d, .pick oz ox oy, ty, pos, after, none⟩ :: rest) E (Hd n D S F hs) m r :=
  GS.val hd (fun a w ha => by simp [execOp, ha.1.eval hx, ha.1.eval hz, asBool]) k
theorem GS.pickF (hd : Nat.blt d n = true) (hz : evalS S oz = some (.bool false)) (hy : evalS S oy = some v) (k : GS P ops rest E (Hd n D ((d, v) :: S) F hs) m r) :
    GS P ops (⟨some d, .pick oz ox oy, ty, pos, after, none⟩ :: rest) E (Hd n D S F hs) m r :=
  GS.val hd (fun a w ha => by simp [execOp, ha.1.eval hy, ha.1.eval hz, asBool]) k
theorem GS.add (hd : Nat.blt d n = true) (hx : evalS S ox = some (.int kd x)) (hy : evalS S oy = some (.int kd y)) (k : GS P ops rest E (Hd n D ((d, .int kd (kd.wrap (x + y))) :: S) F hs) m r) :
    GS P ops (⟨some d, .binOp .add t ox oy t', ty, pos, after, none⟩ :: rest) E (Hd n D S F hs) m r :=
  GS.val hd (fun a w ha => by simp [execOp, ha.1.eval hx, ha.1.eval hy, eqGuard, binOp, Op.intArith]) k
theorem GS.quoC (hd : Nat.blt d n = true) (h0 : y ≠ 0) (hx : evalS S ox = some (.int kd x)) (hy : evalS S oy = some (.int kd y)) (k : GS P ops rest E (Hd n D ((d, .int kd (kd.wrap (x.tdiv y))) :: S) F hs) m r) :
    GS P ops (⟨some d, .binOp .quo t ox oy t', ty, pos, after, none⟩ :: rest) E (Hd n D S F hs) m r :=
  GS.val hd (fun a w ha => by simp [execOp, ha.1.eval hx, ha.1.eval hy, eqGuard, binOp, Op.intDiv, h0]) k
theorem GS.remC (hd : Nat.blt d n = true) (h0 : y ≠ 0) (hx : evalS S ox = some (.int kd x)) (hy : evalS S oy = some (.int kd y)) (k : GS P ops rest E (Hd n D ((d, .int kd (x.tmod y)) :: S) F hs) m r) :
    GS P ops (⟨some d, .binOp .rem t ox oy t', ty, pos, after, none⟩ :: rest) E (Hd n D S F hs) m r :=
  GS.val hd (fun a w ha => by simp [execOp, ha.1.eval hx, ha.1.eval hy, eqGuard, binOp, Op.intDiv, h0]) k
theorem GS.quo {f : Int → Option β} (hd : Nat.blt d n = true) (hx : evalS S ox = some (.int kd x)) (hy : evalS S oy = some (.int kd y)) (k : ∀ z, quoK kd x y = some z → GS P ops rest E (Hd n D ((d, .int kd z) :: S) F hs) (f z) r) :
    GS P ops (⟨some d, .binOp .quo t ox oy t', ty, pos, after, none⟩ :: rest) E (Hd n D S F hs) ((quoK kd x y).bind f) r :=
  GS.bind fun z hz => by
    have h0 : y ≠ 0 := fun e => by simp [quoK, e] at hz
    have : z = kd.wrap (x.tdiv y) := by simpa [quoK, h0] using hz.symm
    have hk := k z hz
    rw [this] at hk ⊢
    exact GS.quoC hd h0 hx hy hk
theorem GS.rem {f : Int → Option β} (hd : Nat.blt d n = true) (hx : evalS S ox = some (.int kd x)) (hy : evalS S oy = some (.int kd y)) (k : ∀ z, remK x y = some z → GS P ops rest E (Hd n D ((d, .int kd z) :: S) F hs) (f z) r) :
    GS P ops (⟨some d, .binOp .rem t ox oy t', ty, pos, after, none⟩ :: rest) E (Hd n D S F hs) ((remK x y).bind f) r :=
  GS.bind fun z hz => by
    have h0 : y ≠ 0 := fun e => by simp [remK, e] at hz
    have : z = x.tmod y := by simpa [remK, h0] using hz.symm
    have hk := k z hz
    rw [this] at hk ⊢
    exact GS.remC hd h0 hx hy hk
theorem GS.eql (hd : Nat.blt d n = true) (hx : evalS S ox = some (.int kd x)) (hy : evalS S oy = some (.int kd y)) (k : GS P ops rest E (Hd n D ((d, .bool (x == y)) :: S) F hs) m r) :
    GS P ops (⟨some d, .binOp .eql t ox oy t', ty, pos, after, none⟩ :: rest) E (Hd n D S F hs) m r :=
  GS.val hd (fun a w ha => by simp [execOp, ha.1.eval hx, ha.1.eval hy, eqGuard, binOp, Op.intCmp]) k
theorem GS.neq (hd : Nat.blt d n = true) (hx : evalS S ox = some (.int kd x)) (hy : evalS S oy = some (.int kd y)) (k : GS P ops rest E (Hd n D ((d, .bool (x != y)) :: S) F hs) m r) :
    GS P ops (⟨some d, .binOp .neq t ox oy t', ty, pos, after, none⟩ :: rest) E (Hd n D S F hs) m r :=
  GS.val hd (fun a w ha => by simp [execOp, ha.1.eval hx, ha.1.eval hy, eqGuard, binOp, Op.intCmp]) k
theorem GS.lss (hd : Nat.blt d n = true) (hx : evalS S ox = some (.int kd x)) (hy : evalS S oy = some (.int kd y)) (k : GS P ops rest E (Hd n D ((d, .bool (decide (x < y))) :: S) F hs) m r) :
    GS P ops (⟨some d, .binOp .lss t ox oy t', ty, pos, after, none⟩ :: rest) E (Hd n D S F hs) m r :=
  GS.val hd (fun a w ha => by simp [execOp, ha.1.eval hx, ha.1.eval hy, eqGuard, binOp, Op.intCmp]) k
theorem GS.gtr (hd : Nat.blt d n = true) (hx : evalS S ox = some (.int kd x)) (hy : evalS S oy = some (.int kd y)) (k : GS P ops rest E (Hd n D ((d, .bool (decide (x > y))) :: S) F hs) m r) :
    GS P ops (⟨some d, .binOp .gtr t ox oy t', ty, pos, after, none⟩ :: rest) E (Hd n D S F hs) m r :=
  GS.val hd (fun a w ha => by simp [execOp, ha.1.eval hx, ha.1.eval hy, eqGuard, binOp, Op.intCmp]) k
theorem GS.not {b : Bool} (hd : Nat.blt d n = true) (hx : evalS S ox = some (.bool b)) (k : GS P ops rest E (Hd n D ((d, .bool (!b)) :: S) F hs) m r) :
    GS P ops (⟨some d, .unOp .not t ox, ty, pos, after, none⟩ :: rest) E (Hd n D S F hs) m r :=
  GS.val hd (fun a w ha => by simp [execOp, ha.1.eval hx, Op.unary]) k
theorem GS.neg (hd : Nat.blt d n = true) (hx : evalS S ox = some (.int kd x)) (k : GS P ops rest E (Hd n D ((d, .int kd (kd.wrap (0 - x))) :: S) F hs) m r) :
    GS P ops (⟨some d, .unOp .neg t ox, ty, pos, after, none⟩ :: rest) E (Hd n D S F hs) m r :=
  GS.val hd (fun a w ha => by simp [execOp, ha.1.eval hx, Op.unary, Op.intArith]) k
theorem GS.field {i : Nat} {cs : Array Value} {fs : Array Field} {f : Field} (hd : Nat.blt d n = true) (ht : P.underlying t = some (.struct fs)) (hf : fs[i]? = some f) (hA : ∀ w, (isAgg f.type).run P w = .ok false w)
    (hx : evalS S ox = some (.agg cs)) (hi : cs[f.offset]? = some v) (k : GS P ops rest E (Hd n D ((d, v) :: S) F hs) m r) :
    GS P ops (⟨some d, .field t ox i, ty, pos, after, none⟩ :: rest) E (Hd n D S F hs) m r :=
  GS.val hd (fun a w ha => by simp [execOp, ha.1.eval hx, Instr.field, rUnd ht, hf, asAgg, part, hA, hi]) k
theorem GS.build {fs : Array Field} {pl : Array (Nat × Nat)} {zc cs : Array Value} {z : Value} {parts : List (Nat × Operand)} {ps : List (Nat × Value)} (hd : Nat.blt d n = true) (ht : P.underlying t = some (.struct fs)) (hz : ∀ w, (zeroValue t).run P w = .ok z w) (hpl : Places P fs pl)
    (hx : evalP S parts = some ps) (hc : z.cells = zc) (hi : Instr.fill (pl[·]?) zc ps = some cs) (k : GS P ops rest E (Hd n D ((d, .agg cs) :: S) F hs) m r) :
    GS P ops (⟨some d, .build t parts.toArray, ty, pos, after, none⟩ :: rest) E (Hd n D S F hs) m r :=
  GS.val hd (fun a w ha => by
    have hm := evalP_map ha.1 hx
    subst hc
    simp only [execOp, Instr.build, Sem.run_bind, hz, Result.andThen, rUnd ht, hpl w]
    simp [hm, hi]) k
theorem GS.fieldAddr {i b o z : Nat} {fs : Array Field} {f : Field} (hd : Nat.blt d n = true) (ht : P.underlying t = some (.struct fs)) (hf : fs[i]? = some f) (hz : ∀ w, (sizeOf f.type).run P w = .ok (z + 1) w)
    (hx : evalS S ox = some (.pointer (some ⟨b, o, none⟩))) (k : GS P ops rest E (Hd n D ((d, .pointer (some ⟨b, o + f.offset, none⟩)) :: S) F hs) m r) :
    GS P ops (⟨some d, .fieldAddr t ox i, ty, pos, after, none⟩ :: rest) E (Hd n D S F hs) m r :=
  GS.val hd (fun a w ha => by simp [execOp, ha.1.eval hx, Instr.fieldAt, rUnd ht, hf, Instr.sureAddr, fieldPlace, hz, add_addr]) k
theorem GS.indexAddrS {len cap e b o z j : Nat} (hd : Nat.blt d n = true) (ht : P.underlying t = some (.slice e)) (hz : ∀ w, (sizeOf e).run P w = .ok z w)
    (hx : evalS S ox = some (.slice (some ⟨b, o, none⟩) len cap)) (hy : evalS S oy = some (.int kd x)) (hj : idxO len x = some j) (k : GS P ops rest E (Hd n D ((d, .pointer (some ⟨b, o + j * z, none⟩)) :: S) F hs) m r) :
    GS P ops (⟨some d, .indexAddr t ox oy, ty, pos, after, none⟩ :: rest) E (Hd n D S F hs) m r :=
  GS.val hd (fun a w ha => by
    obtain ⟨h0, h1, h2, _⟩ := idxO_some hj
    subst h2
    simp [execOp, ha.1.eval hx, ha.1.eval hy, Instr.indexAt, asIntOf, rUnd ht, h0, h1, hz, add_addr]) k
theorem GS.lenS {e len cap : Nat} {p : Option Addr} {T : Array TypeId} (hd : Nat.blt d n = true) (hT : T[0]? = some t) (ht : P.underlying t = some (.slice e)) (hx : evalS S ox = some (.slice p len cap)) (k : GS P ops rest E (Hd n D ((d, .int .i64 len) :: S) F hs) m r) :
    GS P ops (⟨some d, .call ⟨.builtin .len, #[ox], T⟩, ty, pos, after, none⟩ :: rest) E (Hd n D S F hs) m r :=
  GS.val hd (fun a w ha => by simp [execOp, resolve, invoke, builtin, Builtin.len_, ha.1.eval hx, hT, rUnd ht, goInt]) k
theorem GS.max2 {T : Array TypeId} (hd : Nat.blt d n = true) (hx : evalS S ox = some (.int kd x)) (hy : evalS S oy = some (.int kd y)) (k : GS P ops rest E (Hd n D ((d, .int kd (if x < y then y else x)) :: S) F hs) m r) :
    GS P ops (⟨some d, .call ⟨.builtin .max, #[ox, oy], T⟩, ty, pos, after, none⟩ :: rest) E (Hd n D S F hs) m r :=
  GS.val hd (fun a w ha => by simp [execOp, resolve, invoke, builtin, Builtin.max_, Builtin.max2, ha.1.eval hx, ha.1.eval hy]) k
end
end
end
end
section
section
variable {β : Type} {P : Program} {ops : Array Oper} {rest : List Oper} {E : Act → World → Prop} {m : Option β} {r : β}
variable {n : Nat} {D : List Deferred} {S : List (Nat × Value)} {F : Fz} {hs : List HP}
variable {d : Nat} {ty t t' : TypeId} {pos : String} {after : Array Edge} {ox oy oz : Operand} {v u : Value} {kd : IntKind} {x y : Int}
theorem GS.loadF {b o T : Nat} {cs : List Value} {fr : Nat × Nat} (hd : Nat.blt d n = true) (hA : ∀ w, (isAgg t).run P w = .ok false w) (hx : evalS S ox = some (.pointer (some ⟨b, o, none⟩))) (hb : F.mem b = some (.cells cs.toArray T fr)) (hv : cs[o]? = some v)
    (k : GS P ops rest E (Hd n D ((d, v) :: S) F hs) m r) : GS P ops (⟨some d, .load t ox, ty, pos, after, none⟩ :: rest) E (Hd n D S F hs) m r :=
  GS.val hd (fun a w ha => by simp [execOp, ha.1.eval hx, run_load1 hA (by rw [cell_of_heap (ha.2.frozen hb)]; exact hv)]) k
theorem GS.loadFA {b o T z : Nat} {cs vs : List Value} {fr : Nat × Nat} (hd : Nat.blt d n = true) (hA : ∀ w, (isAgg t).run P w = .ok true w) (hz : ∀ w, (sizeOf t).run P w = .ok z w) (hx : evalS S ox = some (.pointer (some ⟨b, o, none⟩))) (hb : F.mem b = some (.cells cs.toArray T fr)) (hv : (cs.drop o).take z = vs) (hl : vs.length = z)
    (k : GS P ops rest E (Hd n D ((d, .agg vs.toArray) :: S) F hs) m r) : GS P ops (⟨some d, .load t ox, ty, pos, after, none⟩ :: rest) E (Hd n D S F hs) m r :=
  GS.val hd (fun a w ha => by simp [execOp, ha.1.eval hx, run_loadA hA hz (ha.2.frozen hb) hv hl]) k
theorem GS.loadO {b o T i : Nat} {cs : List Value} {fr : Nat × Nat} (hd : Nat.blt d n = true) (hA : ∀ w, (isAgg t).run P w = .ok false w) (hx : evalS S ox = some (.pointer (some ⟨b, o, none⟩))) (hb : hs[i]? = some (pt b (.cells cs.toArray T fr))) (hv : cs[o]? = some v)
    (k : GS P ops rest E (Hd n D ((d, v) :: S) F hs) m r) : GS P ops (⟨some d, .load t ox, ty, pos, after, none⟩ :: rest) E (Hd n D S F hs) m r :=
  GS.val hd (fun a w ha => by simp [execOp, ha.1.eval hx, run_load1 hA (by rw [cell_of_heap (SH.ownedAt hb ha.2)]; exact hv)]) k
theorem GS.loadOA {b o T z i : Nat} {cs vs : List Value} {fr : Nat × Nat} (hd : Nat.blt d n = true) (hA : ∀ w, (isAgg t).run P w = .ok true w) (hz : ∀ w, (sizeOf t).run P w = .ok z w) (hx : evalS S ox = some (.pointer (some ⟨b, o, none⟩))) (hb : hs[i]? = some (pt b (.cells cs.toArray T fr))) (hv : (cs.drop o).take z = vs) (hl : vs.length = z)
    (k : GS P ops rest E (Hd n D ((d, .agg vs.toArray) :: S) F hs) m r) : GS P ops (⟨some d, .load t ox, ty, pos, after, none⟩ :: rest) E (Hd n D S F hs) m r :=
  GS.val hd (fun a w ha => by simp [execOp, ha.1.eval hx, run_loadA hA hz (SH.ownedAt hb ha.2) hv hl]) k
end
end
section
section
variable {β : Type} {P : Program} {ops : Array Oper} {rest l : List Oper} {E : Act → World → Prop} {A : Act → World → Prop} {m : Option β} {r : β}
variable {n : Nat} {D : List Deferred} {S S0 : List (Nat × Value)} {F F' : Fz} {hs : List HP}
theorem GS.andM {b : Bool} {m1 : Option Bool} {f : Bool → Option β} (k d : Nat)
    (h1 : b = true → ∀ z, GS P ops (l.take k) (SegS n D d (.bool z) S F hs) (Hd n D S F hs) m1 z)
    (h2 : b = false → GS P ops (l.take k) (SegS n D d (.bool false) S F hs) (Hd n D S F hs) (some ()) ())
    (next : ∀ z F', F ≤ F' → GS P ops (l.drop k) E (Hd n D ((d, .bool z) :: S) F' hs) (f z) r) : GS P ops l E (Hd n D S F hs) ((if b then m1 else some false).bind f) r :=
  GS.seg k d (fun z => .bool z) (by
    intro z
    cases hb : b with
    | true => rw [if_pos rfl]; exact h1 hb z
    | false => rw [if_neg (by simp)]; intro e; simp only [Option.some.injEq] at e; subst e; exact h2 hb rfl) (fun z F' _ le => next z F' le)
theorem GS.orM {b : Bool} {m1 : Option Bool} {f : Bool → Option β} (k d : Nat)
    (h1 : b = false → ∀ z, GS P ops (l.take k) (SegS n D d (.bool z) S F hs) (Hd n D S F hs) m1 z)
    (h2 : b = true → GS P ops (l.take k) (SegS n D d (.bool true) S F hs) (Hd n D S F hs) (some ()) ())
    (next : ∀ z F', F ≤ F' → GS P ops (l.drop k) E (Hd n D ((d, .bool z) :: S) F' hs) (f z) r) : GS P ops l E (Hd n D S F hs) ((if b then some true else m1).bind f) r :=
  GS.seg k d (fun z => .bool z) (by
    intro z
    cases hb : b with
    | true => rw [if_pos rfl]; intro e; simp only [Option.some.injEq] at e; subst e; exact h2 hb rfl
    | false => rw [if_neg (by simp)]; exact h1 hb z) (fun z F' _ le => next z F' le)
theorem GS.onH {dst : Option Tmp} {op : Op} {ty : TypeId} {pos : String} {after : Array Edge} {j t : Nat} {b want : Bool} (hb : b = want) (hj : (ops[j]?).bind (·.dst) = some t) (hv : lookS S t = some (.bool b))
    (k : GS P ops (⟨dst, op, ty, pos, after, none⟩ :: rest) E (Hd n D S F hs) m r) : GS P ops (⟨dst, op, ty, pos, after, some (j, want)⟩ :: rest) E (Hd n D S F hs) m r :=
  GS.on hj (hb ▸ hv) k
theorem GS.offH {d : Nat} {op : Op} {ty : TypeId} {pos : String} {after : Array Edge} {j t : Nat} {b want : Bool} (hb : b = !want) (hd : Nat.blt d n = true) (hj : (ops[j]?).bind (·.dst) = some t) (hv : lookS S t = some (.bool b))
    (k : GS P ops rest E (Hd n D ((d, undef) :: S) F hs) m r) : GS P ops (⟨some d, op, ty, pos, after, some (j, want)⟩ :: rest) E (Hd n D S F hs) m r :=
  GS.off hd hj hv (by subst hb; cases want <;> rfl) k
theorem GS.pickTH {d : Nat} {ty : TypeId} {pos : String} {after : Array Edge} {ox oy oz : Operand} {v : Value} {b : Bool} (hb : b = true) (hd : Nat.blt d n = true) (hz : evalS S oz = some (.bool b)) (hx : evalS S ox = some v) (k : GS P ops rest E (Hd n D ((d, v) :: S) F hs) m r) :
    GS P ops (⟨some d, .pick oz ox oy, ty, pos, after, none⟩ :: rest) E (Hd n D S F hs) m r := GS.pickT hd (hb ▸ hz) hx k
theorem GS.pickFH {d : Nat} {ty : TypeId} {pos : String} {after : Array Edge} {ox oy oz : Operand} {v : Value} {b : Bool} (hb : b = false) (hd : Nat.blt d n = true) (hz : evalS S oz = some (.bool b)) (hy : evalS S oy = some v) (k : GS P ops rest E (Hd n D ((d, v) :: S) F hs) m r) :
    GS P ops (⟨some d, .pick oz ox oy, ty, pos, after, none⟩ :: rest) E (Hd n D S F hs) m r := GS.pickF hd (hb ▸ hz) hy k
end
end
section
section
variable {β : Type} {P : Program} {ops : Array Oper} {rest : List Oper} {E : Act → World → Prop} {m : Option β} {r : β}
variable {n : Nat} {D : List Deferred} {S : List (Nat × Value)} {F : Fz} {hs : List HP}
variable {d : Nat} {ty t t' : TypeId} {pos : String} {after : Array Edge} {ox oy oz : Operand} {v u : Value} {kd : IntKind} {x y : Int}
theorem GS.idxK {α : Type} {sz : Nat} {c : ERel α} {p : Option Addr} {cap e : Nat} {l : List α} {z : α} (hd : Nat.blt d n = true) (ht : P.underlying t = some (.slice e)) (hz : ∀ w, (sizeOf e).run P w = .ok sz w)
    (hr : RepSl sz c F p cap l) (hx : evalS S ox = some (.slice p l.length cap)) (hy : evalS S oy = some (.int kd x)) (hi : idxL l x = some z)
    (k : ∀ b o T fr cs, F.mem b = some (.cells (List.toArray cs) T fr) → c F z ((cs.drop o).take sz) → GS P ops rest E (Hd n D ((d, .pointer (some ⟨b, o, none⟩)) :: S) F hs) m r) :
    GS P ops (⟨some d, .indexAddr t ox oy, ty, pos, after, none⟩ :: rest) E (Hd n D S F hs) m r := by
  obtain ⟨h0, h1, h2⟩ := idxL_some hi
  obtain ⟨b, o, T, fr, cs, rfl, h3, h4⟩ := hr.at_ h2
  have hj : idxO l.length x = some x.toNat := by unfold idxO; rw [if_pos (by omega)]
  exact GS.indexAddrS hd ht hz hx hy hj (k b _ T fr cs h3 h4)
theorem GS.idx {α : Type} {sz : Nat} {c : ERel α} {p : Option Addr} {cap e : Nat} {l : List α} {f : α → Option β} (hd : Nat.blt d n = true) (ht : P.underlying t = some (.slice e)) (hz : ∀ w, (sizeOf e).run P w = .ok sz w)
    (hr : RepSl sz c F p cap l) (hx : evalS S ox = some (.slice p l.length cap)) (hy : evalS S oy = some (.int kd x))
    (k : ∀ z b o T fr cs, idxL l x = some z → F.mem b = some (.cells (List.toArray cs) T fr) → c F z ((cs.drop o).take sz) → GS P ops rest E (Hd n D ((d, .pointer (some ⟨b, o, none⟩)) :: S) F hs) (f z) r) :
    GS P ops (⟨some d, .indexAddr t ox oy, ty, pos, after, none⟩ :: rest) E (Hd n D S F hs) ((idxL l x).bind f) r :=
  GS.bind fun z hi => GS.idxK hd ht hz hr hx hy hi (fun b o T fr cs h1 h2 => k z b o T fr cs hi h1 h2)
end
end
section
section
variable {β : Type} {P : Program} {ops : Array Oper} {rest : List Oper} {E : Act → World → Prop} {A : Act → World → Prop} {m : Option β} {r : β}
variable {n : Nat} {D : List Deferred} {S S0 : List (Nat × Value)} {F F' : Fz} {hs : List HP}
theorem GS.nilCheck {d : Nat} {ty : TypeId} {pos : String} {after : Array Edge} {ox : Operand} {p : Addr} (hd : Nat.blt d n = true) (hx : evalS S ox = some (.pointer (some p))) (k : GS P ops rest E (Hd n D ((d, .pointer (some p)) :: S) F hs) m r) :
    GS P ops (⟨some d, .nilCheck ox, ty, pos, after, none⟩ :: rest) E (Hd n D S F hs) m r :=
  GS.val hd (fun a w ha => by simp [execOp, ha.1.eval hx]) k
end
end
section
section
variable {β : Type} {P : Program} {ops : Array Oper} {rest : List Oper} {E : Act → World → Prop} {m : Option β} {r : β}
variable {n : Nat} {D : List Deferred} {S : List (Nat × Value)} {F F0 : Fz} {hs : List HP}
variable {d : Nat} {d' : Option Nat} {ty t e : TypeId} {pos : String} {after : Array Edge} {ox oy oz : Operand} {v : Value}
theorem GS.nilCheckR {a : Addr} {p : Option Addr} (hp : p = some a) (hd : Nat.blt d n = true) (hx : evalS S ox = some (.pointer p)) (k : GS P ops rest E (Hd n D ((d, .pointer (some a)) :: S) F hs) m r) :
    GS P ops (⟨some d, .nilCheck ox, ty, pos, after, none⟩ :: rest) E (Hd n D S F hs) m r := by
  subst hp; exact GS.nilCheck hd hx k
section
variable {α : Type} {γ T j b o : Nat} {c : ERel α} {xs : List α} {x : α}
theorem GS.loadR {Φ : Value → Prop} (i : Nat) (hi : hs[i]? = some (arena γ (cellR T c) F0 xs)) (le0 : F0 ≤ F) (hb : RefB γ F j b) (hel : xs[j]? = some x) (hd : Nat.blt d n = true) (hA : ∀ w, (isAgg t).run P w = .ok false w)
    (hx : evalS S ox = some (.pointer (some ⟨b, o, none⟩))) (hg : ∀ vs, c F x vs → ∃ v, vs[o]? = some v ∧ Φ v) (k : ∀ v, Φ v → GS P ops rest E (Hd n D ((d, v) :: S) F hs) m r) :
    GS P ops (⟨some d, .load t ox, ty, pos, after, none⟩ :: rest) E (Hd n D S F hs) m r := by
  refine GS.step rfl fun hm a w ha => ?_
  obtain ⟨vs, h1, h2⟩ := (ha.2.pull hi).arenaAt hb hel
  obtain ⟨v, hv, hΦ⟩ := hg _ (h1 F le0)
  refine ⟨v, ?_, k v hΦ hm _ _ ⟨ha.1.put hd _, ha.2⟩⟩
  simp [execOp, ha.1.eval hx, run_load1 hA (by rw [cell_of_heap h2]; exact hv)]
theorem GS.loadRA {z : Nat} {Φ : List Value → Prop} (i : Nat) (hi : hs[i]? = some (arena γ (cellR T c) F0 xs)) (le0 : F0 ≤ F) (hb : RefB γ F j b) (hel : xs[j]? = some x) (hd : Nat.blt d n = true) (hA : ∀ w, (isAgg t).run P w = .ok true w) (hz : ∀ w, (sizeOf t).run P w = .ok z w)
    (hx : evalS S ox = some (.pointer (some ⟨b, o, none⟩))) (hg : ∀ vs, c F x vs → ∃ us, (vs.drop o).take z = us ∧ us.length = z ∧ Φ us) (k : ∀ us, Φ us → GS P ops rest E (Hd n D ((d, .agg us.toArray) :: S) F hs) m r) :
    GS P ops (⟨some d, .load t ox, ty, pos, after, none⟩ :: rest) E (Hd n D S F hs) m r := by
  refine GS.step rfl fun hm a w ha => ?_
  obtain ⟨vs, h1, h2⟩ := (ha.2.pull hi).arenaAt hb hel
  obtain ⟨us, hv, hul, hΦ⟩ := hg _ (h1 F le0)
  refine ⟨.agg us.toArray, ?_, k us hΦ hm _ _ ⟨ha.1.put hd _, ha.2⟩⟩
  simp [execOp, ha.1.eval hx, run_loadA hA hz h2 hv hul]
end
end
end
end Go.Dec
end

section
namespace Go.Dec
section
variable {β : Type} {P : Program} {ops : Array Oper} {l : List Oper} {E A : Act → World → Prop} {r : β}
theorem GS.ite {b : Bool} {m1 m2 : Option β} (h1 : b = true → GS P ops l E A m1 r) (h2 : b = false → GS P ops l E A m2 r) : GS P ops l E A (if b then m1 else m2) r := by
  cases b with
  | true => exact h1 rfl
  | false => exact h2 rfl
end
section
variable {P : Program} {b : Frame} {a : Act} {k : List Item} {cs : List Frame} {w : World}
theorem stepR_scope {c : Code} : step P (lone (b.atR a (.code (.scope c) :: k)) cs w) = .next (lone (b.atR a (.code c :: .inScope c :: k)) cs w) :=
  step_lone_go (by simp [stepG, stepG.exec, Frame.atR])
theorem stepR_inScope {c : Code} : step P (lone (b.atR a (.inScope c :: k)) cs w) = .next (lone (b.atR a k) cs w) :=
  step_lone_go (by simp [stepG, stepG.exec, Frame.atR])
theorem wpIn_scope {F : Fence} {n : Nat} {Q : Exit → Act → World → Prop} {c : Code} (hq : ∀ l a w, ¬ Q (.goto l) a w) (h : c.wpIn F n P Q a w) : (Code.scope c).wpIn F n P Q a w := by
  intro b k cs hro hb hr
  have h0 : (lone (b.atR a (.code (.scope c) :: k)) cs w).fenced P F := fenced_calm hb hr rfl
  obtain ⟨e, a₁, w₁, hQ, harr⟩ := h b (.inScope c :: k) cs hro hb hr
  cases e with
  | normal => exact ⟨.normal, a₁, w₁, hQ, .head h0 stepR_scope (StepsIn.trans harr (.one (fenced_calm hb hr rfl) stepR_inScope))⟩
  | exit id =>
    have hx : exitTo id (.inScope c :: k) = exitTo id k := by simp [exitTo]
    exact ⟨.exit id, a₁, w₁, hQ, fun k' hk => .head h0 stepR_scope (harr.1 k' (by rw [hx]; exact hk)),
      fun hr' hk => let ⟨k₁, h1, h2⟩ := harr.2 hr' (by rw [hx]; exact hk); ⟨k₁, h1, .head h0 stepR_scope h2⟩⟩
  | goto l => exact absurd hQ (hq l a₁ w₁)
  | ret => exact ⟨_, a₁, w₁, hQ, .of_steps (.one h0 stepR_scope) harr⟩
  | panic ch => exact ⟨_, a₁, w₁, hQ, .of_steps (.one h0 stepR_scope) harr⟩
  | outgrown => exact ⟨_, a₁, w₁, hQ, .of_steps (.one h0 stepR_scope) harr⟩
end
section
variable {β : Type} {κ : Option Nat} {P : Program} {ks : List Kt} {Q : Exit → Act → World → Prop} {A : Act → World → Prop} {m : Option β} {r : β}
theorem GC.scope {c : Code} (hq : ∀ l a w, ¬ interp κ P ks Q (.goto l) a w) (h : GC κ P c ks Q A m r) : GC κ P (.scope c) ks Q A m r :=
  fun hm a w ha => wpIn_scope hq (h hm a w ha)
theorem GC.label {l : Nat} (h : GE κ P ks Q A m r) : GC κ P (.label l) ks Q A m r := fun hm a w ha => wpIn_label (h hm a w ha)
end
def looksB2 (l : List Oper) (k i : Nat) (o : Oper) : Bool := (o.looksAt l.toArray).all fun t => (List.range k).all fun j => match dstOf l j with
  | none => true
  | some d => !Nat.beq d t || ((o.after.toList.any fun e => Region.binds .any e && Nat.beq e.on j) || (Nat.blt i j && match l[j]? with
    | none => false
    | some oj => oj.after.toList.any fun e => Region.binds .any e && Nat.beq e.on i))
def looksL (l : List Oper) (k : Nat) : Nat → List Oper → Bool
  | _, [] => true
  | i, o :: os => looksB2 l k i o && looksL l k (i + 1) os
theorem looksL_aux {l : List Oper} {k : Nat} : ∀ {os : List Oper} {i0 : Nat}, looksL l k i0 os = true → ∀ (i : Nat) (o : Oper), os[i]? = some o → looksB2 l k (i0 + i) o = true
  | [], _, _, i, o, h => by simp at h
  | x :: os, i0, hl, i, o, h => by
    simp only [looksL, Bool.and_eq_true] at hl
    cases i with
    | zero => simp at h; subst h; exact hl.1
    | succ i =>
      have := looksL_aux hl.2 i o (by simpa using h)
      rw [show i0 + 1 + i = i0 + (i + 1) by omega] at this
      exact this
theorem looksL_spec {l os : List Oper} {k : Nat} (h : looksL l k 0 os = true) (i : Nat) (o : Oper) (ho : os[i]? = some o) : looksB2 l k i o = true := by
  have := looksL_aux h i o ho
  rwa [Nat.zero_add] at this
def drawB2 (n : Nat) (l : List Oper) (k : Nat) : Bool := ordB 0 l && deepB l k && Nat.ble k l.length && slotsB n (l.take k) && looksL l k 0 (l.take k) && (l.take k).all fun o => noDefer o.op && noSel o.op
section
variable {β : Type} {κ : Option Nat} {P : Program} {ks : List Kt} {Q : Exit → Act → World → Prop} {m : Option β} {r : β} {n : Nat} {D : List Deferred} {S0 : List (Nat × Value)} {F : Fz} {hs : List HP} {l : List Oper}
theorem CharF.same2 {k : Nat} {a0 a b : Act} {vs : List Value} {L L' : Nat → Bool} (c : CharF l k n a0 vs L a) (c' : CharF l k n a0 vs L' b) (hvs : k ≤ vs.length) {t : Nat} (ht : ∀ j, j < k → dstOf l j = some t → L j = L' j) : a.tmps.getD t undef = b.tmps.getD t undef := by
  by_cases h : ∃ j, j < k ∧ L j = true ∧ dstOf l j = some t
  · obtain ⟨j, hj, hL, e⟩ := h
    have hv : vs[j]? = some vs[j] := List.getElem?_eq_getElem (by omega)
    rw [c.got j _ t hj hL e hv, c'.got j _ t hj (by rw [← ht j hj e]; exact hL) e hv]
  · rw [c.old t fun j hj hL e => h ⟨j, hj, hL, e⟩, c'.old t fun j hj hL e => h ⟨j, hj, by rw [ht j hj e]; exact hL, e⟩]
theorem GC.drawW {id : Nat} (k : Nat) (hm : P.follows .mixedOrders = true) (hB : drawB2 n l k = true)
    (walk : GS P l.toArray (l.take k) (wpL κ P l.toArray (interp κ P ks Q) (l.drop k)) (Hd n D S0 F hs) m r) : GC κ P (.region id l.toArray true) ks Q (Hd n D S0 F hs) m r := by
  intro hmr a0 w ha
  simp only [drawB2, Bool.and_eq_true, List.all_eq_true] at hB
  obtain ⟨⟨⟨⟨⟨hord, hdeep⟩, hlen⟩, hsl⟩, hlook⟩, hall⟩ := hB
  have htail := deepB_spec hdeep
  have hlen' : k ≤ l.length := Nat.le_of_ble_eq_true hlen
  have hw1 := walk hmr a0 { w with drawn := w.drawn + 1 } ⟨ha.1, ha.2.drew _⟩
  obtain ⟨vs, hvl, hK, hstep⟩ := wpS_out hw1
  have hvk : vs.length = k := by rw [hvl]; simp; omega
  have hseq := char_seq (a0 := a0) (vs := vs) (l := l) ha.1.1 hsl hlen' hvk
  let Free : (Nat → Bool) → Act → World → Prop := fun L a w' => Down l L ∧ (∀ i, k ≤ i → L i = false) ∧ w' = { w with drawn := w.drawn + 1 } ∧ CharF l k n a0 vs L a
  let Inv : (Nat → Bool) → Act → World → Prop := fun L a w => Free L a w ∨ ∃ i, k < i ∧ Down l L ∧ (∀ j, L j = true ↔ j < i) ∧ wpL κ P l.toArray (interp κ P ks Q) (l.drop i) a w
  have hend0 : ∀ L a w', (∀ i, i < k → L i = true) → Free L a w' → wpL κ P l.toArray (interp κ P ks Q) (l.drop k) a w' := by
    rintro L a w' hL ⟨_, hout, rfl, hc⟩
    have hLk : L = fun j => Nat.blt j k := by
      funext j
      rcases Nat.lt_or_ge j k with h | h
      · rw [hL j h]; exact (Nat.ble_eq_true_of_le h).symm
      · rw [hout j h]
        cases hb : Nat.blt j k with
        | false => rfl
        | true => have := Nat.le_of_ble_eq_true hb; omega
    have h2 := hseq k (Nat.le_refl _)
    rw [List.take_of_length_le (show (l.take k).length ≤ k by simp; omega), List.take_of_length_le (show vs.length ≤ k by omega)] at h2
    rw [hLk] at hc
    rw [hc.eq h2 (by omega) fun j hj => Nat.ble_eq_true_of_le hj]
    exact hK
  refine wp_region_inv hm Inv (fun i o h e he hb => by have := ordB_spec hord i o (by simpa using h) e he hb; omega) ?_ ?_ ?_
  · refine .inl ⟨fun i o _ h => (by cases h), fun _ _ => rfl, rfl, ⟨ha.1.1, rfl, fun j v t _ h => (by cases h), fun t _ => rfl⟩⟩
  · intro L a w' i o ho hLi hdeps hI
    have ho' : l[i]? = some o := by simpa using ho
    have hil : i < l.length := lt_of_getEl ho'
    by_cases hi : i < k
    · rcases hI with hF | ⟨k', hk, _, hL, _⟩
      case inr => have := (hL i).2 (by omega); rw [hLi] at this; cases this
      obtain ⟨hdn, hout, rfl, hc⟩ := hF
      have hot : (l.take k)[i]? = some o := by rw [List.getElem?_take, if_pos hi]; exact ho'
      have hmem : o ∈ l.take k := List.mem_of_getElem? hot
      obtain ⟨hnd, hns⟩ := hall o hmem
      have hlk := looksL_spec hlook i o hot
      have hv : vs[i]? = some vs[i] := List.getElem?_eq_getElem (by omega)
      have hst := hstep i o _ hot hv
      have hst' : StepV P l.toArray { w with drawn := w.drawn + 1 } o vs[i] a := hst.of_same hns fun t ht => by
        refine (hseq i (by omega)).same2 hc (by omega) fun j hj e => ?_
        have h1 := List.all_eq_true.1 (List.all_eq_true.1 hlk t ht) j (List.mem_range.2 hj)
        rw [e] at h1
        simp only [Nat.beq_refl, Bool.not_true, Bool.false_or, Bool.or_eq_true] at h1
        rcases h1 with h1 | h1
        · simp only [List.any_eq_true, Bool.and_eq_true] at h1
          obtain ⟨e', he', hb', hon⟩ := h1
          have hon : e'.on = j := Nat.eq_of_beq_eq_true hon
          have hmem' : e' ∈ o.after := by simpa using he'
          have hL := hdeps e' hmem' hb'
          have := ordB_spec hord i o ho' e' hmem' hb'
          rw [hon] at hL
          rw [hL]
          exact Nat.ble_eq_true_of_le (show j + 1 ≤ i by omega)
        · simp only [Bool.and_eq_true] at h1
          obtain ⟨hij, h2⟩ := h1
          have hij : i < j := Nat.le_of_ble_eq_true hij
          have h3 : Nat.blt j i = false := by
            cases hb : Nat.blt j i with
            | false => rfl
            | true => have := Nat.le_of_ble_eq_true hb; omega
          rw [h3]
          cases hLj : L j with
          | false => rfl
          | true =>
            exfalso
            cases hoj : l[j]? with
            | none => rw [hoj] at h2; cases h2
            | some oj =>
              rw [hoj] at h2
              simp only [List.any_eq_true, Bool.and_eq_true] at h2
              obtain ⟨e', he', hb', hon⟩ := h2
              have := hdn j oj hoj hLj e' (by simpa using he') hb'
              rw [Nat.eq_of_beq_eq_true hon, hLi] at this
              cases this
      have hnext : Inv (updB L i) (a.put o.dst vs[i]) { w with drawn := w.drawn + 1 } := by
        refine .inl ⟨?_, ?_, rfl, hc.put hsl hi ho' hv⟩
        · intro j oj hoj hj e he hb
          have : L e.on = true := by
            by_cases hji : j = i
            · subst hji; rw [ho'] at hoj; cases hoj; exact hdeps e he hb
            · exact hdn j oj hoj (by simpa [updB, hji] using hj) e he hb
          simp only [updB]; split
          · rfl
          · exact this
        · intro j hj; simp only [updB]; rw [if_neg (by omega)]; exact hout j hj
      rcases hst' with ⟨h1, h2⟩ | ⟨h1, h2⟩
      · rw [if_pos h1]
        refine ⟨.inr hnd, ?_⟩
        rw [h2]; exact hnext
      · rw [if_neg (by simp [h1]), ← h2]; exact hnext
    · have hdnL : Down l L := by
        rcases hI with hF | ⟨_, _, hd, _, _⟩
        · exact hF.1
        · exact hd
      have hallL : ∀ j, j < i → L j = true := fun j hj => by
        obtain ⟨s, hs⟩ := htail i o (by omega) ho' j hj
        exact dep_true hdnL hs fun o' ho'' e he hb => by rw [ho'] at ho''; cases ho''; exact hdeps e he hb
      have hdnU : Down l (updB L i) := fun j oj hoj hj e he hb => by
        have : L e.on = true := by
          by_cases hji : j = i
          · subst hji; rw [ho'] at hoj; cases hoj; exact hdeps e he hb
          · exact hdnL j oj hoj (by simpa [updB, hji] using hj) e he hb
        simp only [updB]; split
        · rfl
        · exact this
      have hw : wpL κ P l.toArray (interp κ P ks Q) (l.drop i) a w' := by
        rcases hI with hF | ⟨k', hk, _, hL, hwp⟩
        · have hiV : i = k := by
            rcases Nat.lt_or_ge k i with h | h
            · have := hallL k h; rw [hF.2.1 _ (Nat.le_refl _)] at this; cases this
            · omega
          subst hiV
          exact hend0 L a w' hallL hF
        · have : k' = i := by
            have h1 : ¬ i < k' := fun h => by have := (hL i).2 h; rw [hLi] at this; cases this
            have h2 : ¬ k' < i := fun h => by have := (hL k').1 (hallL k' h); omega
            omega
          subst this; exact hwp
      have hdrop : l.drop i = o :: l.drop (i + 1) := by
        have hg : l[i]'hil = o := by simpa [hil] using ho'
        rw [← hg]; exact List.drop_eq_getElem_cons hil
      rw [hdrop] at hw
      have hnext : ∀ a' w', wpL κ P l.toArray (interp κ P ks Q) (l.drop (i + 1)) a' w' → Inv (updB L i) a' w' := fun a' w' h =>
        .inr ⟨i + 1, by omega, hdnU, fun j => by
          simp only [updB]
          by_cases hj : j = i
          · simp [hj]
          · simp only [hj, if_false]
            constructor
            · intro hLj
              have : j < i := by
                rcases Nat.lt_or_ge j i with h | h
                · exact h
                · rcases hI with hF | ⟨k', hk, _, hL, _⟩
                  · rw [hF.2.1 j (by omega)] at hLj; cases hLj
                  · have h1 := (hL j).1 hLj
                    have := (hL i).2 (by omega); rw [hLi] at this; cases this
              omega
            · intro hj'; exact hallL j (by omega), h⟩
      unfold wpL at hw
      split
      · rename_i hwn
        rw [if_pos hwn] at hw
        exact opW_mono hnext hw
      · rename_i hwn
        rw [if_neg hwn] at hw
        exact hnext _ _ hw
  · intro L a w' hallL hI
    have hw : wpL κ P l.toArray (interp κ P ks Q) (l.drop l.length) a w' := by
      rcases hI with hF | ⟨k', hk, _, hL, hwp⟩
      · have hVl : k = l.length := by
          rcases Nat.lt_or_ge k l.length with h | h
          · have := hallL k (by simpa using h); rw [hF.2.1 _ (Nat.le_refl _)] at this; cases this
          · omega
        have := hend0 L a w' (fun i hi => hallL i (by simp; omega)) hF
        rwa [hVl] at this
      · have : l.length ≤ k' := by
          rcases Nat.lt_or_ge k' l.length with h | h
          · have := (hL k').1 (hallL k' (by simpa using h)); omega
          · exact h
        rw [List.drop_eq_nil_of_le this] at hwp
        rw [List.drop_eq_nil_of_le (Nat.le_refl _)]; exact hwp
    rw [List.drop_eq_nil_of_le (Nat.le_refl _)] at hw
    exact hw
end
abbrev exO {α : Type} : ERel (α × List Value) := fun _ z vs => vs = z.2
theorem own_open {α : Type} {sz : Nat} {c : ERel α} {F : Fz} {T : TypeId} {p : Option Addr} {cap : Nat} {l : List α} {m : Mem} (h : ownSl sz c F T p cap l m) :
    ∃ l' : List (α × List Value), l.length = l'.length ∧ l'.map Prod.fst = l ∧ (∀ z ∈ l', ∀ F', F ≤ F' → c F' z.1 z.2) ∧ ownSl sz exO F T p cap l' m := by
  obtain ⟨h1, h2, h3⟩ := h
  rcases h3 with ⟨e1, e2⟩ | ⟨b, cs, e, hb, hl, hp⟩
  · have : l = [] := List.eq_nil_of_length_eq_zero (by omega)
    subst this
    exact ⟨[], rfl, rfl, fun _ h => (by cases h), h1, h2, .inl ⟨e1, e2⟩⟩
  · refine ⟨l.mapIdx fun i x => (x, (cs.drop (i * sz)).take sz), by simp, ?_, fun z hz => ?_, by simpa using h1, h2, .inr ⟨b, cs, e, hb, hl, fun i x hx F' le => ?_⟩⟩
    · apply List.ext_getElem?
      intro i
      simp only [List.getElem?_map, List.getElem?_mapIdx]
      cases l[i]? <;> rfl
    · obtain ⟨i, hi⟩ := List.mem_iff_getElem?.1 hz
      rw [List.getElem?_mapIdx] at hi
      cases hx : l[i]? with
      | none => rw [hx] at hi; cases hi
      | some x =>
        rw [hx] at hi
        simp only [Option.map_some, Option.some.injEq] at hi
        subst hi
        exact hp i x hx
    · rw [List.getElem?_mapIdx] at hx
      cases hy : l[i]? with
      | none => rw [hy] at hx; cases hx
      | some y =>
        rw [hy] at hx
        simp only [Option.map_some, Option.some.injEq] at hx
        subst hx
        rfl
theorem own_close {α : Type} {sz : Nat} {c : ERel α} {F : Fz} {T : TypeId} {p : Option Addr} {cap : Nat} {l' : List (α × List Value)} {m : Mem} (h : ownSl sz exO F T p cap l' m) (hall : ∀ z ∈ l', ∀ F', F ≤ F' → c F' z.1 z.2) :
    ownSl sz c F T p cap (l'.map Prod.fst) m := by
  obtain ⟨h1, h2, h3⟩ := h
  refine ⟨by simpa using h1, h2, ?_⟩
  rcases h3 with h3 | ⟨b, cs, e, hb, hl, hp⟩
  · exact .inl h3
  · refine .inr ⟨b, cs, e, hb, hl, fun i x hx F' le => ?_⟩
    rw [List.getElem?_map] at hx
    cases hy : l'[i]? with
    | none => rw [hy] at hx; cases hx
    | some z =>
      rw [hy] at hx
      simp only [Option.map_some, Option.some.injEq] at hx
      subst hx
      have e2 : (cs.drop (i * sz)).take sz = z.2 := hp i z hy F' le
      rw [e2]
      exact hall z (List.mem_of_getElem? hy) F' le
theorem idx_open {α : Type} {c : ERel α} {F0 F : Fz} {l : List α} {l' : List (α × List Value)} {i : Int} {z : α} (hmap : l'.map Prod.fst = l) (hall : ∀ z ∈ l', ∀ F', F0 ≤ F' → c F' z.1 z.2) (le : F0 ≤ F) (h : idxL l i = some z) :
    ∃ vs, idxL l' i = some (z, vs) ∧ c F z vs := by
  obtain ⟨h0, _, h2⟩ := idxL_some h
  rw [← hmap, List.getElem?_map] at h2
  cases hy : l'[i.toNat]? with
  | none => rw [hy] at h2; cases h2
  | some y =>
    rw [hy] at h2
    simp only [Option.map_some, Option.some.injEq] at h2
    subst h2
    refine ⟨y.2, ?_, hall y (List.mem_of_getElem? hy) F le⟩
    unfold idxL
    rw [if_pos h0, hy]
section
variable {β : Type} {X : Act → World → Prop} {m : Option β} {r : β} {n : Nat} {D : List Deferred} {S : List (Nat × Value)} {F F0 : Fz} {hs : List HP}
variable {α : Type} {sz : Nat} {c : ERel α} {T : TypeId} {p : Option Addr} {cap : Nat} {l : List α} {l' : List (α × List Value)}
theorem GG.openOwn (i : Nat) (hi : hs[i]? = some (ownSl sz c F0 T p cap l))
    (k : ∀ l' : List (α × List Value), l.length = l'.length → l'.map Prod.fst = l → (∀ z ∈ l', ∀ F', F0 ≤ F' → c F' z.1 z.2) → GG X (Hd n D S F (hs.set i (ownSl sz exO F0 T p cap l'))) m r) : GG X (Hd n D S F hs) m r := fun hm a w ha => by
  obtain ⟨m0, ⟨m1, m2, d, s1, s2, hp, hq⟩, hk⟩ := ha.2.pull hi
  obtain ⟨l', h0, h1, h2, h3⟩ := own_open hp
  exact k l' h0 h1 h2 hm a w ⟨ha.1, SH.push hi ⟨m0, ⟨m1, m2, d, s1, s2, h3, hq⟩, hk⟩⟩
theorem GG.closeOwn (i : Nat) (hi : hs[i]? = some (ownSl sz exO F0 T p cap l')) (hall : ∀ z ∈ l', ∀ F', F0 ≤ F' → c F' z.1 z.2) (hmap : l'.map Prod.fst = l)
    (k : GG X (Hd n D S F (hs.set i (ownSl sz c F0 T p cap l))) m r) : GG X (Hd n D S F hs) m r := fun hm a w ha => by
  obtain ⟨m0, ⟨m1, m2, d, s1, s2, hp, hq⟩, hk⟩ := ha.2.pull hi
  have h3 := own_close hp hall
  rw [hmap] at h3
  exact k hm a w ⟨ha.1, SH.push hi ⟨m0, ⟨m1, m2, d, s1, s2, h3, hq⟩, hk⟩⟩
end
section
variable {β : Type} {κ : Option Nat} {P : Program} {cd : Code} {ks : List Kt} {Q : Exit → Act → World → Prop} {m : Option β} {r : β} {n : Nat} {D : List Deferred} {S : List (Nat × Value)} {F F0 : Fz} {hs : List HP}
variable {α : Type} {sz : Nat} {c : ERel α} {T : TypeId} {p : Option Addr} {cap : Nat} {l : List α} {l' : List (α × List Value)}
theorem GC.openOwn (i : Nat) (hi : hs[i]? = some (ownSl sz c F0 T p cap l))
    (k : ∀ l' : List (α × List Value), l.length = l'.length → l'.map Prod.fst = l → (∀ z ∈ l', ∀ F', F0 ≤ F' → c F' z.1 z.2) → GC κ P cd ks Q (Hd n D S F (hs.set i (ownSl sz exO F0 T p cap l'))) m r) : GC κ P cd ks Q (Hd n D S F hs) m r := GG.openOwn i hi k
theorem GE.closeOwn (i : Nat) (hi : hs[i]? = some (ownSl sz exO F0 T p cap l')) (hall : ∀ z ∈ l', ∀ F', F0 ≤ F' → c F' z.1 z.2) (hmap : l'.map Prod.fst = l)
    (k : GE κ P ks Q (Hd n D S F (hs.set i (ownSl sz c F0 T p cap l))) m r) : GE κ P ks Q (Hd n D S F hs) m r := GG.closeOwn i hi hall hmap k
end
end Go.Dec
end

section
namespace Go.Dec
theorem Fz.r {F : Fz} : F ≤ F := Fz.le_refl F
theorem Fz.t {F G H : Fz} (h : F ≤ G) (k : G ≤ H) : F ≤ H := Fz.le_trans h k
section
variable {κ : Option Nat}
def wpT (κ : Option Nat) (P : Program) (ops : Array Oper) (Q : Exit → Act → World → Prop) : List Nat → List Oper → Act → World → Prop
  | [], l, a, w => wpS P ops w (fun a' => Q .normal a' w) l a
  | p :: st, l, a, w => wpS P ops w (fun a' => wpL κ P ops (Exit.then (wpT κ P ops Q st (l.drop (p + 1))) Q) ((l.drop p).take 1) a' w) (l.take p) a
def looksT (l : List Oper) (c p i : Nat) (o : Oper) : Bool := (o.looksAt l.toArray).all fun t => (List.range p).all fun j => match dstOf l (c + j) with
  | none => true
  | some d => !Nat.beq d t || ((o.after.toList.any fun e => Region.binds .any e && Nat.beq e.on (c + j)) || (Nat.blt i j && match l[c + j]? with
    | none => false
    | some oj => oj.after.toList.any fun e => Region.binds .any e && Nat.beq e.on (c + i)))
def looksTL (l : List Oper) (c p : Nat) : Nat → List Oper → Bool
  | _, [] => true
  | i, o :: os => looksT l c p i o && looksTL l c p (i + 1) os
theorem looksTL_get {l : List Oper} {c p : Nat} : ∀ {os : List Oper} {i0 : Nat}, looksTL l c p i0 os = true → ∀ (i : Nat) (o : Oper), os[i]? = some o → looksT l c p (i0 + i) o = true
  | [], _, _, i, o, h => by simp at h
  | x :: os, i0, hl, i, o, h => by
    simp only [looksTL, Bool.and_eq_true] at hl
    cases i with
    | zero => simp at h; subst h; exact hl.1
    | succ i =>
      have := looksTL_get hl.2 i o (by simpa using h)
      rw [show i0 + 1 + i = i0 + (i + 1) by omega] at this
      exact this
def segB (n : Nat) (l : List Oper) (c p : Nat) : Bool := slotsB n ((l.drop c).take p) && looksTL l c p 0 ((l.drop c).take p) && ((l.drop c).take p).all fun o => noDefer o.op && noSel o.op
def barB (msk : List (List Bool)) (len d : Nat) : Bool := allT d (msk.getD d []) && (List.range len).all fun t => !Nat.blt d t || (msk.getD t []).getD d false
def stB (n : Nat) (l : List Oper) (msk : List (List Bool)) : List Nat → Nat → Bool
  | [], c => segB n l c (l.length - c)
  | p :: st, c => Nat.blt (c + p) l.length && segB n l c p && barB msk l.length (c + p) && stB n l msk st (c + p + 1)
def drawTB (n : Nat) (l : List Oper) (st : List Nat) : Bool := ordB 0 l && stB n l (closL [] l) st 0
def segLen (l : List Oper) : List Nat → Nat → Nat
  | [], c => l.length - c
  | p :: _, _ => p
def wpTail (κ : Option Nat) (P : Program) (l : List Oper) (Q : Exit → Act → World → Prop) : List Nat → Nat → Act → World → Prop
  | [], _, a, w => Q .normal a w
  | p :: st, c, a, w => wpL κ P l.toArray (Exit.then (wpT κ P l.toArray Q st (l.drop (c + p + 1))) Q) ((l.drop (c + p)).take 1) a w
theorem stB_seg {n : Nat} {l : List Oper} {msk : List (List Bool)} : ∀ {st : List Nat} {c : Nat}, stB n l msk st c = true → c ≤ l.length → segB n l c (segLen l st c) = true ∧ c + segLen l st c ≤ l.length
  | [], c, h, hc => ⟨h, by show c + (l.length - c) ≤ l.length; omega⟩
  | p :: st, c, h, _ => by
    simp only [stB, Bool.and_eq_true] at h
    exact ⟨h.1.1.2, Nat.le_of_lt (Nat.le_of_ble_eq_true h.1.1.1)⟩
theorem wpT_open {P : Program} {l : List Oper} {Q : Exit → Act → World → Prop} {w : World} : ∀ {st : List Nat} {c : Nat} {a : Act}, c ≤ l.length → wpT κ P l.toArray Q st (l.drop c) a w → wpS P l.toArray w (fun a' => wpTail κ P l Q st c a' w) ((l.drop c).take (segLen l st c)) a
  | [], c, a, hc, h => by
    have e : (l.drop c).take (segLen l [] c) = l.drop c := List.take_of_length_le (by show (l.drop c).length ≤ l.length - c; rw [List.length_drop]; exact Nat.le_refl _)
    rw [e]; exact h
  | p :: st, c, a, hc, h => by
    unfold wpT at h
    rw [List.drop_drop, List.drop_drop] at h
    exact h
structure InvT (κ : Option Nat) (P : Program) (l : List Oper) (n : Nat) (Q : Exit → Act → World → Prop) (dfs : List Deferred) (st : List Nat) (c : Nat) (a0 : Act) (vs : List Value) (L : Nat → Bool) (a : Act) (w : World) : Prop where
  stg : stB n l (closL [] l) st c = true
  cl : c ≤ l.length
  down : Down l L
  pre : ∀ j, j < c → L j = true
  out : ∀ j, c + segLen l st c ≤ j → L j = false
  size : a0.tmps.size = n
  len : vs.length = segLen l st c
  tail : wpTail κ P l Q st c (putN a0 ((l.drop c).take (segLen l st c)) vs) w
  step : ∀ i o v, ((l.drop c).take (segLen l st c))[i]? = some o → vs[i]? = some v → StepV P l.toArray w o v (putN a0 (((l.drop c).take (segLen l st c)).take i) (vs.take i))
  char : CharF (l.drop c) (segLen l st c) n a0 vs (fun j => L (c + j)) a
theorem InvT.enter {P : Program} {l : List Oper} {n : Nat} {Q : Exit → Act → World → Prop} {st : List Nat} {c : Nat} {a : Act} {L : Nat → Bool} {w : World} (hs : stB n l (closL [] l) st c = true) (hc : c ≤ l.length) (hd : Down l L) (hpre : ∀ j, j < c → L j = true) (hout : ∀ j, c ≤ j → L j = false) (hz : a.tmps.size = n) (hw : wpT κ P l.toArray Q st (l.drop c) a w) :
    ∃ vs, InvT κ P l n Q [] st c a vs L a w := by
  obtain ⟨vs, h1, h2, h3⟩ := wpS_out (wpT_open hc hw)
  have hlen := (stB_seg hs hc).2
  refine ⟨vs, hs, hc, hd, hpre, fun j hj => hout j (by omega), hz, ?_, h2, h3, ⟨hz, rfl, fun j v t _ hL => ?_, fun t _ => rfl⟩⟩
  · rw [h1, List.length_take, List.length_drop]; omega
  · have : L (c + j) = true := hL
    rw [hout (c + j) (by omega)] at this; cases this
section
variable {P : Program} {n : Nat} {D : List Deferred} {l : List Oper}
theorem put_size {a : Act} {d : Option Tmp} {v : Value} : (a.put d v).tmps.size = a.tmps.size := by
  cases d with
  | none => rfl
  | some t => show (a.tmps.setIfInBounds t v).size = _; simp
end
section
variable {β : Type} {P : Program} {ks : List Kt} {Q : Exit → Act → World → Prop} {m : Option β} {r : β} {n : Nat} {D : List Deferred} {S0 : List (Nat × Value)} {F : Fz} {hs : List HP} {l : List Oper}
theorem drawT_wp {id : Nat} (hm : P.follows .mixedOrders = true) (st0 : List Nat) (hB : drawTB n l st0 = true) {a0 : Act} {w0 : World} (hz0 : a0.tmps.size = n) (hw0 : wpT κ P l.toArray Q st0 l a0 { w0 with drawn := w0.drawn + 1 }) : (Code.region id l.toArray true).wpIn (fen κ) 0 P Q a0 w0 := by
  simp only [drawTB, Bool.and_eq_true] at hB
  obtain ⟨hord, hst⟩ := hB
  have hmask : MaskOK l (closL [] l) := closL_spec (pre := []) rfl rfl (fun t m h => by simp at h)
  refine wp_region_inv hm (fun L a w => ∃ st c a1 vs, InvT κ P l n Q [] st c a1 vs L a w) (fun i o h e he hb => by have := ordB_spec hord i o (by simpa using h) e he hb; omega) ?_ ?_ ?_
  · obtain ⟨vs, hI⟩ := InvT.enter (L := fun _ => false) hst (Nat.zero_le _) (fun i o _ h => (by cases h)) (fun j hj => absurd hj (by omega)) (fun _ _ => rfl) hz0 hw0
    exact ⟨_, _, _, _, hI⟩
  · rintro L a w i o ho hLi hdeps ⟨st, c, a1, vs, hI⟩
    have ho' : l[i]? = some o := by simpa using ho
    have hil : i < l.length := lt_of_getEl ho'
    have hci : c ≤ i := by
      rcases Nat.lt_or_ge i c with h | h
      · have := hI.pre i h; rw [hLi] at this; cases this
      · exact h
    obtain ⟨hseg, hle⟩ := stB_seg hI.stg hI.cl
    have hseq := char_seq (l := l.drop c) (k := segLen l st c) (a0 := a1) (vs := vs) hI.size (by simp only [segB, Bool.and_eq_true] at hseg; exact hseg.1.1) (by rw [List.length_drop]; omega) hI.len
    have hdnU : Down l (updB L i) := fun j oj hoj hj e he hb => by
      have : L e.on = true := by
        by_cases hji : j = i
        · subst hji; rw [ho'] at hoj; cases hoj; exact hdeps e he hb
        · exact hI.down j oj hoj (by simpa [updB, hji] using hj) e he hb
      simp only [updB]; split
      · rfl
      · exact this
    rcases Nat.lt_or_ge i (c + segLen l st c) with hi | hi
    ·
      obtain ⟨q, rfl⟩ : ∃ q, i = c + q := ⟨i - c, by omega⟩
      have hq : q < segLen l st c := by omega
      have hot : ((l.drop c).take (segLen l st c))[q]? = some o := by rw [List.getElem?_take, if_pos hq, List.getElem?_drop]; exact ho'
      have hod : (l.drop c)[q]? = some o := by rw [List.getElem?_drop]; exact ho'
      simp only [segB, Bool.and_eq_true, List.all_eq_true] at hseg
      obtain ⟨⟨hslots, hlooks⟩, hall⟩ := hseg
      obtain ⟨hnd, hns⟩ := hall o (List.mem_of_getElem? hot)
      have hlk := looksTL_get hlooks q o hot
      rw [Nat.zero_add] at hlk
      obtain ⟨v, hv⟩ : ∃ v, vs[q]? = some v := ⟨vs[q]'(by rw [hI.len]; exact hq), List.getElem?_eq_getElem _⟩
      have hst' : StepV P l.toArray w o v a := (hI.step q o _ hot hv).of_same hns fun t ht => by
        refine (hseq q (by omega)).same2 hI.char (by rw [hI.len]; exact Nat.le_refl _) fun j hj e => ?_
        have e' : dstOf l (c + j) = some t := by
          unfold dstOf at e ⊢; rw [List.getElem?_drop] at e; exact e
        have h1 := List.all_eq_true.1 (List.all_eq_true.1 hlk t ht) j (List.mem_range.2 hj)
        rw [e'] at h1
        simp only [Nat.beq_refl, Bool.not_true, Bool.false_or, Bool.or_eq_true] at h1
        rcases h1 with h1 | h1
        · simp only [List.any_eq_true, Bool.and_eq_true] at h1
          obtain ⟨e1, he', hb', hon⟩ := h1
          have hon : e1.on = c + j := Nat.eq_of_beq_eq_true hon
          have hmem' : e1 ∈ o.after := by simpa using he'
          have hL := hdeps e1 hmem' hb'
          have := ordB_spec hord (c + q) o ho' e1 hmem' hb'
          rw [hon] at hL
          show Nat.blt j q = L (c + j)
          rw [hL]
          exact Nat.ble_eq_true_of_le (show j + 1 ≤ q by omega)
        · simp only [Bool.and_eq_true] at h1
          obtain ⟨hij, h2⟩ := h1
          have hij : q < j := Nat.le_of_ble_eq_true hij
          have h3 : Nat.blt j q = false := by
            cases hb : Nat.blt j q with
            | false => rfl
            | true => have := Nat.le_of_ble_eq_true hb; omega
          show Nat.blt j q = L (c + j)
          rw [h3]
          cases hLj : L (c + j) with
          | false => rfl
          | true =>
            exfalso
            cases hoj : l[c + j]? with
            | none => rw [hoj] at h2; cases h2
            | some oj =>
              rw [hoj] at h2
              simp only [List.any_eq_true, Bool.and_eq_true] at h2
              obtain ⟨e1, he', hb', hon⟩ := h2
              have := hI.down (c + j) oj hoj hLj e1 (by simpa using he') hb'
              rw [Nat.eq_of_beq_eq_true hon, hLi] at this
              cases this
      have hnext : ∃ st2 c2 a2 vs2, InvT κ P l n Q [] st2 c2 a2 vs2 (updB L (c + q)) (a.put o.dst v) w := by
        refine ⟨st, c, a1, vs, hI.stg, hI.cl, hdnU, fun j hj => ?_, fun j hj => ?_, hI.size, hI.len, hI.tail, hI.step, ?_⟩
        · simp only [updB]; rw [if_neg (by omega)]; exact hI.pre j hj
        · simp only [updB]; rw [if_neg (by omega)]; exact hI.out j hj
        · have := hI.char.put hslots hq hod hv
          have e : (fun j => updB L (c + q) (c + j)) = updB (fun j => L (c + j)) q := by
            funext j
            simp only [updB]
            by_cases hj : j = q
            · subst hj; simp
            · rw [if_neg hj, if_neg (by omega)]
          rw [e]; exact this
      rcases hst' with ⟨h1, h2⟩ | ⟨h1, h2⟩
      · rw [if_pos h1]
        refine ⟨.inr hnd, ?_⟩
        rw [h2]; exact hnext
      · rw [if_neg (by simp [h1]), ← h2]; exact hnext
    ·
      cases st with
      | nil => exact absurd hil (by have : segLen l [] c = l.length - c := rfl; omega)
      | cons p st' =>
        have hsl : segLen l (p :: st') c = p := rfl
        rw [hsl] at hi hseq hle
        have hstg := hI.stg
        simp only [stB, barB, Bool.and_eq_true, List.all_eq_true] at hstg
        obtain ⟨⟨⟨hlt, _⟩, hbar1, hbar2⟩, hst'⟩ := hstg
        have hlt : c + p < l.length := Nat.le_of_ble_eq_true hlt
        have hdep : ∀ (t j : Nat) (m : List Bool), (closL [] l)[t]? = some m → m.getD j false = true → ∃ s, depB l s t j = true := fun t j m h1 h2 => hmask t m h1 j h2
        have hget : ∀ t, t < l.length → (closL [] l)[t]? = some ((closL [] l).getD t []) := fun t ht => by
          rw [List.getD_eq_getElem?_getD]
          cases h : (closL [] l)[t]? with
          | some m => rfl
          | none =>
            exfalso
            have : (closL [] l).length = l.length := by
              have gen : ∀ (os : List Oper) (d : List (List Bool)), (closL d os).length = d.length + os.length := by
                intro os
                induction os with
                | nil => intro d; simp [closL]
                | cons o os ih => intro d; rw [closL, ih]; simp; omega
              simpa using gen l []
            rw [List.getElem?_eq_none_iff] at h
            omega
        have hip : i = c + p := by
          rcases Nat.lt_or_ge (c + p) i with h | h
          · exfalso
            have h1 := hbar2 i (List.mem_range.2 hil)
            rw [show Nat.blt (c + p) i = true from Nat.ble_eq_true_of_le h] at h1
            simp only [Bool.not_true, Bool.false_or] at h1
            obtain ⟨s, hs⟩ := hdep i (c + p) _ (hget i hil) h1
            have := dep_true hI.down hs fun o' ho'' e he hb => by rw [ho'] at ho''; cases ho''; exact hdeps e he hb
            rw [hI.out (c + p) (by rw [hsl]; exact Nat.le_refl _)] at this
            cases this
          · omega
        subst hip
        have hallL : ∀ j, j < c + p → L j = true := fun j hj => by
          obtain ⟨s, hs⟩ := hdep (c + p) j _ (hget _ hil) (allT_get hbar1 hj)
          exact dep_true hI.down hs fun o' ho'' e he hb => by rw [ho'] at ho''; cases ho''; exact hdeps e he hb
        have hch := hI.char
        rw [hsl] at hch
        have hLk : (fun j => L (c + j)) = fun j => Nat.blt j p := by
          funext j
          rcases Nat.lt_or_ge j p with h | h
          · rw [hallL (c + j) (by omega)]; exact (Nat.ble_eq_true_of_le h).symm
          · rw [hI.out (c + j) (by rw [hsl]; omega)]
            cases hb : Nat.blt j p with
            | false => rfl
            | true => have := Nat.le_of_ble_eq_true hb; omega
        have hlen := hI.len
        rw [hsl] at hlen
        have h2 := hseq p (Nat.le_refl _)
        rw [List.take_of_length_le (show ((l.drop c).take p).length ≤ p by simp; omega), List.take_of_length_le (show vs.length ≤ p by omega)] at h2
        rw [hLk] at hch
        have hae := hch.eq h2 (by omega) fun j hj => Nat.ble_eq_true_of_le hj
        have htail := hI.tail
        rw [hsl, ← hae] at htail
        have hdrop : (l.drop (c + p)).take 1 = [o] := by
          have hg : l[c + p]'hil = o := by simpa [hil] using ho'
          rw [← hg, List.drop_eq_getElem_cons hil]; rfl
        change wpL κ P l.toArray (Exit.then (wpT κ P l.toArray Q st' (l.drop (c + p + 1))) Q) ((l.drop (c + p)).take 1) a w at htail
        rw [hdrop] at htail
        have hnext : ∀ a' w', a'.tmps.size = n → wpT κ P l.toArray Q st' (l.drop (c + p + 1)) a' w' → ∃ st2 c2 a2 vs2, InvT κ P l n Q [] st2 c2 a2 vs2 (updB L (c + p)) a' w' := fun a' w' hz h => by
          obtain ⟨vs', hI'⟩ := InvT.enter (L := updB L (c + p)) hst' (by omega) hdnU (fun j hj => by
            simp only [updB]
            by_cases hj' : j = c + p
            · rw [if_pos hj']
            · rw [if_neg hj']; exact hallL j (by omega)) (fun j hj => by
            simp only [updB]; rw [if_neg (by omega)]; exact hI.out j (by rw [hsl]; omega)) hz h
          exact ⟨_, _, _, _, hI'⟩
        unfold wpL at htail
        split
        · rename_i hwn
          rw [if_pos hwn] at htail
          refine opW_put (fun u w' h => hnext _ w' (by rw [put_size, hch.size]) h) (fun d w' h => hnext _ w' ?_ h) (fun e a w he hq => by cases e <;> first | exact absurd rfl he | exact hq) htail
          rw [put_size]; exact hch.size
        · rename_i hwn
          rw [if_neg hwn] at htail
          exact hnext _ _ (by rw [put_size, hch.size]) htail
  · rintro L a w hallL ⟨st, c, a1, vs, hI⟩
    obtain ⟨hseg, hle⟩ := stB_seg hI.stg hI.cl
    cases st with
    | cons p st' =>
      exfalso
      have hstg := hI.stg
      simp only [stB, Bool.and_eq_true] at hstg
      have hlt : c + p < l.length := Nat.le_of_ble_eq_true hstg.1.1.1
      have := hallL (c + p) (by simpa using hlt)
      rw [hI.out (c + p) (Nat.le_refl _)] at this
      cases this
    | nil =>
      have hseq := char_seq (l := l.drop c) (k := segLen l [] c) (a0 := a1) (vs := vs) hI.size (by simp only [segB, Bool.and_eq_true] at hseg; exact hseg.1.1) (by rw [List.length_drop]; exact Nat.le_refl _) hI.len
      have hsl : segLen l [] c = l.length - c := rfl
      have h2 := hseq (segLen l [] c) (Nat.le_refl _)
      rw [List.take_of_length_le (show ((l.drop c).take (segLen l [] c)).length ≤ segLen l [] c by simp; omega), List.take_of_length_le (show vs.length ≤ segLen l [] c by rw [hI.len]; exact Nat.le_refl _)] at h2
      have hLk : CharF (l.drop c) (segLen l [] c) n a1 vs (fun j => Nat.blt j (segLen l [] c)) a := by
        refine ⟨hI.char.size, hI.char.defs, fun j v t hj _ hd hv => hI.char.got j v t hj (hallL _ (by simp; omega)) hd hv, fun t ht => hI.char.old t fun j hj _ => ht j hj (Nat.ble_eq_true_of_le hj)⟩
      have hae := hLk.eq h2 (by rw [hI.len]; exact Nat.le_refl _) fun j hj => Nat.ble_eq_true_of_le hj
      have htail := hI.tail
      rw [← hae] at htail
      exact htail
theorem GC.drawT {id p : Nat} {st : List Nat} (hm : P.follows .mixedOrders = true) (hB : drawTB n l (p :: st) = true)
    (walk : GS P l.toArray (l.take p) (wpL κ P l.toArray (Exit.then (wpT κ P l.toArray (interp κ P ks Q) st (l.drop (p + 1))) (interp κ P ks Q)) ((l.drop p).take 1)) (Hd n D S0 F hs) m r) : GC κ P (.region id l.toArray true) ks Q (Hd n D S0 F hs) m r := by
  intro hmr a0 w ha
  exact drawT_wp hm (p :: st) hB ha.1.1 (walk hmr a0 { w with drawn := w.drawn + 1 } ⟨ha.1, ha.2.drew _⟩)
end
section
variable {β : Type} {P : Program} {ops : Array Oper} {l tl : List Oper} {ks : List Kt} {Q : Exit → Act → World → Prop} {A : Act → World → Prop} {K : Exit → Act → World → Prop} {m : Option β} {r : β}
theorem GS.pendT (h : GL κ P ops tl [] K A m r) : GS P ops [] (wpL κ P ops K tl) A m r := fun hm a w ha => h hm a w ha
theorem GS.endT (h : GE κ P ks Q A m r) : GS P ops [] (interp κ P ks Q .normal) A m r := fun hm a w ha => h hm a w ha
theorem GE.stage {p : Nat} {st : List Nat} (h : GS P ops (l.take p) (wpL κ P ops (Exit.then (wpT κ P ops K st (l.drop (p + 1))) K) ((l.drop p).take 1)) A m r) : GE κ P [] (Exit.then (wpT κ P ops K (p :: st) l) K) A m r := fun hm a w ha => h hm a w ha
theorem GE.stageZ (h : GS P ops l (K .normal) A m r) : GE κ P [] (Exit.then (wpT κ P ops K [] l) K) A m r := fun hm a w ha => h hm a w ha
end
end
end Go.Dec
end
