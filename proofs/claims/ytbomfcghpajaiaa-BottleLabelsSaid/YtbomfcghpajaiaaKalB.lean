/- A calculus of goals for a walk: what is known of a frame's slots, what is owned, what is left of a plain model. Plain lemmas, no program. -/
import Derived.Test.YtbomfcghpajaiaaKalA
namespace Go.Dec
variable {κ : Option Nat}

/-! ### Slots -/
def lookS : List (Nat × Value) → Nat → Option Value
  | [], _ => none
  | (k, v) :: S, i => match Nat.beq k i with
    | true => some v
    | false => lookS S i

def Sl (n : Nat) (D : List Deferred) (S : List (Nat × Value)) (a : Act) : Prop :=
  a.tmps.size = n ∧ a.defers = D ∧ ∀ i v, lookS S i = some v → a.tmps.getD i undef = v

/-- What is known at a point. -/
def Hd (n : Nat) (D : List Deferred) (S : List (Nat × Value)) (F : Fz) (hs : List HP) (a : Act) (w : World) : Prop :=
  Sl n D S a ∧ SH w F (stars hs)

def evalS (S : List (Nat × Value)) : Operand → Option Value
  | .tmp t => lookS S t
  | .const v => some v
  | .global g => some (.pointer (some ⟨g, 0, none⟩))
  | .func f => some (.func (.func f) #[] #[])

theorem Sl.eval {n : Nat} {D : List Deferred} {S : List (Nat × Value)} {a : Act} (h : Sl n D S a) {o : Operand} {v : Value} (e : evalS S o = some v) : a.eval o = v := by
  cases o with
  | tmp t => exact h.2.2 t v e
  | const x => exact Option.some.inj e
  | global g => exact Option.some.inj e
  | func f => exact Option.some.inj e

theorem Sl.put {n : Nat} {D : List Deferred} {S : List (Nat × Value)} {a : Act} (h : Sl n D S a) {d : Nat} (hd : Nat.blt d n = true) (v : Value) : Sl n D ((d, v) :: S) (a.put (some d) v) := by
  have hd' : d < n := Nat.le_of_ble_eq_true hd
  obtain ⟨h1, h2, h3⟩ := h
  refine ⟨by simp [Act.put, h1], by simp [Act.put, h2], fun i u e => ?_⟩
  simp only [lookS] at e
  cases hb : Nat.beq d i with
  | true =>
    rw [hb] at e
    have : d = i := Nat.eq_of_beq_eq_true hb
    subst this
    simp only [Option.some.injEq] at e
    subst e
    simp [Act.put, Array.getD_eq_getD_getElem?, h1, hd']
  | false =>
    rw [hb] at e
    have hne : d ≠ i := fun he => by subst he; simp at hb
    have := h3 i u e
    simp only [Act.put, Array.getD_eq_getD_getElem?] at this ⊢
    rw [Array.getElem?_setIfInBounds_ne hne]; exact this

theorem Sl.put_none {n : Nat} {D : List Deferred} {S : List (Nat × Value)} {a : Act} (h : Sl n D S a) (v : Value) : Sl n D S (a.put none v) := h

/-- S' says no more than S. -/
def Sub (S' S : List (Nat × Value)) : Prop := ∀ i v, lookS S' i = some v → lookS S i = some v

theorem Sub.refl (S : List (Nat × Value)) : Sub S S := fun _ _ h => h
theorem Sub.nil (S : List (Nat × Value)) : Sub [] S := fun _ _ h => by simp [lookS] at h
theorem Sub.cons {S T : List (Nat × Value)} {k : Nat} {v : Value} (h : lookS S k = some v) (t : Sub T S) : Sub ((k, v) :: T) S := fun i u e => by
  simp only [lookS] at e
  cases hb : Nat.beq k i with
  | true =>
    rw [hb] at e
    have : k = i := Nat.eq_of_beq_eq_true hb
    subst this
    simp only [Option.some.injEq] at e
    subst e; exact h
  | false => rw [hb] at e; exact t i u e
theorem Sl.sub {n : Nat} {D : List Deferred} {S S' : List (Nat × Value)} {a : Act} (h : Sl n D S a) (s : Sub S' S) : Sl n D S' a :=
  ⟨h.1, h.2.1, fun i v e => h.2.2 i v (s i v e)⟩

def hasKey (k : Nat) : List (Nat × Value) → Bool
  | [] => false
  | (j, _) :: S => Nat.beq j k || hasKey k S
/-- T's keys are not among S's. -/
def fresh (S : List (Nat × Value)) : List (Nat × Value) → Bool
  | [] => true
  | (j, _) :: T => !hasKey j S && fresh S T

theorem hasKey_of_look : ∀ {S : List (Nat × Value)} {i : Nat} {v : Value}, lookS S i = some v → hasKey i S = true
  | [], _, _, h => by simp [lookS] at h
  | (k, u) :: S, i, v, h => by
    simp only [lookS] at h
    simp only [hasKey]
    cases hb : Nat.beq k i with
    | true => rfl
    | false => rw [hb] at h; simp [hasKey_of_look h]

theorem look_append_fresh : ∀ {T S : List (Nat × Value)} {i : Nat} {v : Value}, fresh S T = true → lookS S i = some v → lookS (T ++ S) i = some v
  | [], _, _, _, _, h => h
  | (j, u) :: T, S, i, v, hf, h => by
    simp only [fresh, Bool.and_eq_true, Bool.not_eq_true'] at hf
    simp only [List.cons_append, lookS]
    cases hb : Nat.beq j i with
    | true =>
      have : j = i := Nat.eq_of_beq_eq_true hb
      subst this
      rw [hasKey_of_look h] at hf; cases hf.1
    | false => exact look_append_fresh hf.2 h

/-! ### Continuations -/
inductive Kt where
  | code (c : Code)
  | block (id : Nat)

/-- The frame's own round: none, or the loop whose round it is. -/
def fen : Option Nat → Fence
  | none => Fence.wide
  | some l => Fence.wide.inRound l
theorem fen_round (κ : Option Nat) : (fen κ).round = κ := by cases κ <;> rfl
theorem fen_fn (κ : Option Nat) (f : FuncId) : (fen κ).fn f := by cases κ <;> trivial
theorem fen_depth (κ : Option Nat) : (fen κ).depth = none := by cases κ <;> rfl
theorem fen_room (κ : Option Nat) (n : Nat) : (fen κ).room n := fun d hd => by rw [fen_depth] at hd; cases hd
theorem calls_fen {κ : Option Nat} {n : Nat} {P : Program} {f : FuncId} {args : Array Value} {w : World} {R : Ending → World → Prop} : CallsIn (fen κ) n P f args w R ↔ Calls P f args w R := by
  cases κ with
  | none => exact callsIn_wide
  | some l => exact callsIn_wide
def noDefer : Op → Bool
  | .defer _ => false
  | _ => true
theorem noDefer_ne {o : Op} (h : noDefer o = true) : ∀ c, o ≠ .defer c := fun c e => by rw [e] at h; cases h

/-- What an operation asks, in a frame of a round or of none. -/
def opW (κ : Option Nat) (P : Program) (o : Oper) (a : Act) (w : World) (K : Act → World → Prop) (Q : Exit → Act → World → Prop) : Prop :=
  (κ = none ∨ noDefer o.op = true) ∧ o.uponIn (fen κ) 0 P a K Q ((execOp a.eval o).run P w)
theorem opW.wpIn {κ : Option Nat} {P : Program} {o : Oper} {a : Act} {w : World} {K : Act → World → Prop} {Q : Exit → Act → World → Prop} (h : opW κ P o a w K Q) : o.wpIn (fen κ) 0 P a w K Q := by
  refine ⟨fun f _ => fen_fn κ f, ?_⟩
  rw [fen_round]
  obtain ⟨h1, h2⟩ := h
  rcases h1 with rfl | h1
  · exact h2
  · rw [Oper.semAt_eq κ _ o (noDefer_ne h1)]; exact h2
theorem opW_put {κ : Option Nat} {P : Program} {o : Oper} {a : Act} {w : World} {K K' : Act → World → Prop} {Q Q' : Exit → Act → World → Prop} (h : ∀ u w, K (a.put o.dst u) w → K' (a.put o.dst u) w)
    (hd : ∀ d w, K ({ a with defers := d :: a.defers }.put o.dst undef) w → K' ({ a with defers := d :: a.defers }.put o.dst undef) w) (hx : ∀ e a w, e ≠ .normal → Q e a w → Q' e a w)
    (hh : opW κ P o a w K Q) : opW κ P o a w K' Q' := by
  obtain ⟨h1, h2⟩ := hh
  refine ⟨h1, ?_⟩
  generalize (execOp a.eval o).run P w = r at *
  unfold Oper.uponIn at *
  split at h2
  all_goals first
    | exact h _ _ h2
    | exact hd _ _ h2
    | exact h2.elim
    | exact hx _ _ _ (by simp) h2
    | (refine ⟨h2.1, CallsIn.mono h2.2 ?_⟩; rintro (v | c | _) w'' hq <;> first | exact h _ _ hq | exact hx _ _ _ (by simp) hq | (obtain ⟨a1, w1, h3⟩ := hq; exact ⟨a1, w1, hx _ _ _ (by simp) h3⟩))
    | (refine ⟨h2.1, RowsIn.mono h2.2 ?_⟩; intro v w'' hq; exact h _ _ hq)
    | (refine ⟨h2.1, RoundIn.mono h2.2 ?_⟩; rintro (v | c | _) w'' hq <;> first | exact h _ _ hq | exact hx _ _ _ (by simp) hq | (obtain ⟨a1, w1, h3⟩ := hq; exact ⟨a1, w1, hx _ _ _ (by simp) h3⟩))
theorem opW_imp {κ : Option Nat} {P : Program} {o : Oper} {a : Act} {w : World} {K K' : Act → World → Prop} {Q Q' : Exit → Act → World → Prop} (h : ∀ a w, K a w → K' a w) (hx : ∀ e a w, e ≠ .normal → Q e a w → Q' e a w)
    (hh : opW κ P o a w K Q) : opW κ P o a w K' Q' := opW_put (fun _ _ => h _ _) (fun _ _ => h _ _) hx hh
theorem opW_mono {κ : Option Nat} {P : Program} {o : Oper} {a : Act} {w : World} {K K' : Act → World → Prop} {Q : Exit → Act → World → Prop} (h : ∀ a w, K a w → K' a w) (hh : opW κ P o a w K Q) : opW κ P o a w K' Q :=
  opW_imp h (fun _ _ _ _ hq => hq) hh
def wpL (κ : Option Nat) (P : Program) (ops : Array Oper) (Q : Exit → Act → World → Prop) : List Oper → Act → World → Prop
  | [], a, w => Q .normal a w
  | o :: rest, a, w => if Region.wanted o (yielded ops a.tmps) then opW κ P o a w (wpL κ P ops Q rest) Q else wpL κ P ops Q rest (a.put o.dst undef) w
theorem wpL.wpIn {κ : Option Nat} {P : Program} {ops : Array Oper} {Q : Exit → Act → World → Prop} : ∀ {l : List Oper} {a : Act} {w : World}, wpL κ P ops Q l a w → wpListIn (fen κ) 0 P ops Q l a w
  | [], _, _, h => h
  | o :: rest, a, w, h => by
    unfold wpL at h
    unfold wpListIn
    split
    · rename_i hw
      rw [if_pos hw] at h
      exact (opW_mono (fun a w h => wpL.wpIn h) h).wpIn
    · rename_i hw
      rw [if_neg hw] at h
      exact ⟨fun f _ => fen_fn κ f, wpL.wpIn h⟩

def interp (κ : Option Nat) (P : Program) : List Kt → (Exit → Act → World → Prop) → Exit → Act → World → Prop
  | [], Q => Q
  | .code c :: ks, Q => Exit.then (c.wpIn (fen κ) 0 P (interp κ P ks Q)) (interp κ P ks Q)
  | .block id :: ks, Q => Exit.inBlock id (interp κ P ks Q)

def exitK (id : Nat) : List Kt → Option (List Kt)
  | [] => none
  | .code _ :: ks => exitK id ks
  | .block j :: ks => match Nat.beq j id with
    | true => some ks
    | false => exitK id ks

theorem interp_exit {P : Program} {Q : Exit → Act → World → Prop} {id : Nat} {a : Act} {w : World} : ∀ {ks ks' : List Kt}, exitK id ks = some ks' → interp κ P ks' Q .normal a w → interp κ P ks Q (.exit id) a w
  | [], _, h, _ => by simp [exitK] at h
  | .code c :: ks, ks', h, k => by
    simp only [exitK] at h
    show interp κ P ks Q (.exit id) a w
    exact interp_exit h k
  | .block j :: ks, ks', h, k => by
    simp only [exitK] at h
    show (if id = j then interp κ P ks Q .normal a w else interp κ P ks Q (.exit id) a w)
    cases hb : Nat.beq j id with
    | true =>
      rw [hb] at h
      have : j = id := Nat.eq_of_beq_eq_true hb
      simp only [Option.some.injEq] at h
      subst h
      rw [if_pos this.symm]; exact k
    | false =>
      rw [hb] at h
      have hne : id ≠ j := fun he => by subst he; simp at hb
      rw [if_neg hne]; exact interp_exit h k

theorem interp_out {P : Program} {Q : Exit → Act → World → Prop} {id : Nat} {a : Act} {w : World} : ∀ {ks : List Kt}, exitK id ks = none → Q (.exit id) a w → interp κ P ks Q (.exit id) a w
  | [], _, k => k
  | .code c :: ks, h, k => by
    simp only [exitK] at h
    show interp κ P ks Q (.exit id) a w
    exact interp_out h k
  | .block j :: ks, h, k => by
    simp only [exitK] at h
    show (if id = j then interp κ P ks Q .normal a w else interp κ P ks Q (.exit id) a w)
    cases hb : Nat.beq j id with
    | true => rw [hb] at h; simp at h
    | false =>
      rw [hb] at h
      have hne : id ≠ j := fun he => by subst he; simp at hb
      rw [if_neg hne]; exact interp_out h k

theorem interp_ret {P : Program} {Q : Exit → Act → World → Prop} {a : Act} {w : World} : ∀ {ks : List Kt}, Q .ret a w → interp κ P ks Q .ret a w
  | [], k => k
  | .code c :: ks, k => by show interp κ P ks Q .ret a w; exact interp_ret k
  | .block j :: ks, k => by show interp κ P ks Q .ret a w; exact interp_ret k

theorem interp_panic {P : Program} {Q : Exit → Act → World → Prop} {c : List PanicEntry} {a : Act} {w : World} : ∀ {ks : List Kt}, Q (.panic c) a w → interp κ P ks Q (.panic c) a w
  | [], k => k
  | .code c :: ks, k => by show interp κ P ks Q (.panic _) a w; exact interp_panic k
  | .block j :: ks, k => by show interp κ P ks Q (.panic _) a w; exact interp_panic k

/-! ### Goals. 'm = some r': what is left of the model gives r. -/
section
variable {β : Type} (κ : Option Nat) (P : Program)

def GL (ops : Array Oper) (l : List Oper) (ks : List Kt) (Q : Exit → Act → World → Prop) (A : Act → World → Prop) (m : Option β) (r : β) : Prop :=
  m = some r → ∀ a w, A a w → wpL κ P ops (interp κ P ks Q) l a w
def GC (c : Code) (ks : List Kt) (Q : Exit → Act → World → Prop) (A : Act → World → Prop) (m : Option β) (r : β) : Prop :=
  m = some r → ∀ a w, A a w → c.wpIn (fen κ) 0 P (interp κ P ks Q) a w
def GE (ks : List Kt) (Q : Exit → Act → World → Prop) (A : Act → World → Prop) (m : Option β) (r : β) : Prop :=
  m = some r → ∀ a w, A a w → interp κ P ks Q .normal a w
end

section
variable {β : Type} {P : Program} {ops : Array Oper} {l rest : List Oper} {ks : List Kt} {Q : Exit → Act → World → Prop} {A A' : Act → World → Prop} {m : Option β} {r : β}

theorem GC.seq {x y : Code} (h : GC κ P x (.code y :: ks) Q A m r) : GC κ P (.seq x y) ks Q A m r :=
  fun hm a w ha => wpIn_seq (h hm a w ha)
theorem GC.block {id : Nat} {c : Code} (h : GC κ P c (.block id :: ks) Q A m r) : GC κ P (.block id c) ks Q A m r :=
  fun hm a w ha => wpIn_block (h hm a w ha)
theorem GC.skip (h : GE κ P ks Q A m r) : GC κ P .skip ks Q A m r := fun hm a w ha => wpIn_skip (h hm a w ha)
theorem GC.exit {id : Nat} {ks' : List Kt} (hk : exitK id ks = some ks') (h : GE κ P ks' Q A m r) : GC κ P (.exit id) ks Q A m r :=
  fun hm a w ha => wpIn_exit (interp_exit hk (h hm a w ha))
theorem GC.exitOut {id : Nat} (hk : exitK id ks = none) (h : m = some r → ∀ a w, A a w → Q (.exit id) a w) : GC κ P (.exit id) ks Q A m r :=
  fun hm a w ha => wpIn_exit (interp_out hk (h hm a w ha))
theorem GC.retQ (h : m = some r → ∀ a w, A a w → Q .ret a w) : GC κ P .ret ks Q A m r :=
  fun hm a w ha => wpIn_ret (interp_ret (h hm a w ha))
theorem GE.code {c : Code} (h : GC κ P c ks Q A m r) : GE κ P (.code c :: ks) Q A m r := h
theorem GE.block {id : Nat} (h : GE κ P ks Q A m r) : GE κ P (.block id :: ks) Q A m r := h
theorem GE.nil (h : m = some r → ∀ a w, A a w → Q .normal a w) : GE κ P [] Q A m r := h
theorem GC.region {id : Nat} {l : List Oper} (h : GL κ P l.toArray l ks Q A m r) : GC κ P (.region id l.toArray false) ks Q A m r :=
  fun hm a w ha => wpIn_region_lit (h hm a w ha).wpIn
theorem GL.nil (h : GE κ P ks Q A m r) : GL κ P ops [] ks Q A m r := h

theorem GC.cond {S : List (Nat × Value)} {n : Nat} {D : List Deferred} {F : Fz} {hs : List HP} {c : Operand} {x y : Code} {b : Bool} {m1 m2 : Option β} (hc : evalS S c = some (.bool b))
    (h1 : b = true → GC κ P x ks Q (Hd n D S F hs) m1 r) (h2 : b = false → GC κ P y ks Q (Hd n D S F hs) m2 r) : GC κ P (.cond c x y) ks Q (Hd n D S F hs) (if b then m1 else m2) r := by
  intro hm a w ha
  cases hb : b with
  | true => rw [hb] at hc; rw [hb, if_pos rfl] at hm; exact wpIn_cond_true (ha.1.eval hc) (h1 hb hm a w ha)
  | false => rw [hb] at hc; rw [hb, if_neg (by simp)] at hm; exact wpIn_cond_false (ha.1.eval hc) (h2 hb hm a w ha)
/-- A test whose outcome is known. -/
theorem GC.condT {S : List (Nat × Value)} {n : Nat} {D : List Deferred} {F : Fz} {hs : List HP} {c : Operand} {x y : Code} (hc : evalS S c = some (.bool true))
    (h1 : GC κ P x ks Q (Hd n D S F hs) m r) : GC κ P (.cond c x y) ks Q (Hd n D S F hs) m r :=
  fun hm a w ha => wpIn_cond_true (ha.1.eval hc) (h1 hm a w ha)
theorem GC.condF {S : List (Nat × Value)} {n : Nat} {D : List Deferred} {F : Fz} {hs : List HP} {c : Operand} {x y : Code} (hc : evalS S c = some (.bool false))
    (h1 : GC κ P y ks Q (Hd n D S F hs) m r) : GC κ P (.cond c x y) ks Q (Hd n D S F hs) m r :=
  fun hm a w ha => wpIn_cond_false (ha.1.eval hc) (h1 hm a w ha)

/-! Weakening -/
theorem GC.weak {c : Code} (h : ∀ a w, A a w → A' a w) (k : GC κ P c ks Q A' m r) : GC κ P c ks Q A m r := fun hm a w ha => k hm a w (h a w ha)
theorem GE.weak (h : ∀ a w, A a w → A' a w) (k : GE κ P ks Q A' m r) : GE κ P ks Q A m r := fun hm a w ha => k hm a w (h a w ha)
theorem GL.weak (h : ∀ a w, A a w → A' a w) (k : GL κ P ops l ks Q A' m r) : GL κ P ops l ks Q A m r := fun hm a w ha => k hm a w (h a w ha)
section
variable {S S' : List (Nat × Value)} {n : Nat} {D : List Deferred} {F F' : Fz} {hs hs' : List HP}
theorem GE.keep (s : Sub S' S) (k : GE κ P ks Q (Hd n D S' F hs) m r) : GE κ P ks Q (Hd n D S F hs) m r := GE.weak (fun _ _ h => ⟨h.1.sub s, h.2⟩) k
theorem GC.keep {c : Code} (s : Sub S' S) (k : GC κ P c ks Q (Hd n D S' F hs) m r) : GC κ P c ks Q (Hd n D S F hs) m r := GC.weak (fun _ _ h => ⟨h.1.sub s, h.2⟩) k
theorem GL.keep (s : Sub S' S) (k : GL κ P ops l ks Q (Hd n D S' F hs) m r) : GL κ P ops l ks Q (Hd n D S F hs) m r := GL.weak (fun _ _ h => ⟨h.1.sub s, h.2⟩) k
theorem GE.drop (i : Nat) (k : GE κ P ks Q (Hd n D S F (hs.eraseIdx i)) m r) : GE κ P ks Q (Hd n D S F hs) m r := GE.weak (fun _ _ h => ⟨h.1, h.2.eraseAt i⟩) k
theorem GL.drop (i : Nat) (k : GL κ P ops l ks Q (Hd n D S F (hs.eraseIdx i)) m r) : GL κ P ops l ks Q (Hd n D S F hs) m r := GL.weak (fun _ _ h => ⟨h.1, h.2.eraseAt i⟩) k
theorem GL.freeze {b : Nat} {o : Obj} (i : Nat) (hk : hs[i]? = some (pt b o)) (k : ∀ F', F ≤ F' → F'.mem b = some o → GL κ P ops l ks Q (Hd n D S F' (hs.eraseIdx i)) m r) : GL κ P ops l ks Q (Hd n D S F hs) m r :=
  fun hm a w ha => by
    obtain ⟨h1, h2⟩ := SH.freezeAt hk ha.2
    exact k _ h1 (Fz.add_self F b o) hm a w ⟨ha.1, h2⟩
theorem GE.freeze {b : Nat} {o : Obj} (i : Nat) (hk : hs[i]? = some (pt b o)) (k : ∀ F', F ≤ F' → F'.mem b = some o → GE κ P ks Q (Hd n D S F' (hs.eraseIdx i)) m r) : GE κ P ks Q (Hd n D S F hs) m r :=
  fun hm a w ha => by
    obtain ⟨h1, h2⟩ := SH.freezeAt hk ha.2
    exact k _ h1 (Fz.add_self F b o) hm a w ⟨ha.1, h2⟩
end

/-! The model's own steps -/
def bindv {α γ : Type} (x : α) (f : α → γ) : γ := f x
theorem GL.letv {α : Type} {x : α} {f : α → Option β} (h : ∀ y, y = x → GL κ P ops l ks Q A (f y) r) : GL κ P ops l ks Q A (bindv x f) r := h x rfl
theorem GE.letv {α : Type} {x : α} {f : α → Option β} (h : ∀ y, y = x → GE κ P ks Q A (f y) r) : GE κ P ks Q A (bindv x f) r := h x rfl
theorem GL.letS {α : Type} {x : α} {f : α → Option β} (h : GL κ P ops l ks Q A (f x) r) : GL κ P ops l ks Q A (bindv x f) r := h
theorem GE.letS {α : Type} {x : α} {f : α → Option β} (h : GE κ P ks Q A (f x) r) : GE κ P ks Q A (bindv x f) r := h
theorem GL.bind {α : Type} {e : Option α} {f : α → Option β} (h : ∀ y, e = some y → GL κ P ops l ks Q A (f y) r) : GL κ P ops l ks Q A (e.bind f) r :=
  fun hm => by
    cases e with
    | none => simp at hm
    | some y => exact h y rfl hm
theorem GE.bind {α : Type} {e : Option α} {f : α → Option β} (h : ∀ y, e = some y → GE κ P ks Q A (f y) r) : GE κ P ks Q A (e.bind f) r :=
  fun hm => by
    cases e with
    | none => simp at hm
    | some y => exact h y rfl hm
theorem GL.dead (h : m = none) : GL κ P ops l ks Q A m r := fun hm => by rw [h] at hm; cases hm
end

/-! ### Loops and joins -/
inductive Ctl (σ β : Type) where
  | next (s : σ)
  | done (b : β)

def loopN {σ β : Type} (body : σ → Option (Ctl σ β)) : Nat → σ → Option β
  | 0, _ => none
  | n + 1, s => match body s with
    | none => none
    | some (.done b) => some b
    | some (.next s') => loopN body n s'

open Classical in
noncomputable def loopM {σ β : Type} (body : σ → Option (Ctl σ β)) (s : σ) : Option β :=
  if h : ∃ b n, loopN body n s = some b then some h.choose else none

theorem loopN_mono {σ β : Type} {body : σ → Option (Ctl σ β)} : ∀ {n k : Nat} {s : σ} {b : β}, n ≤ k → loopN body n s = some b → loopN body k s = some b
  | 0, _, _, _, _, h => by simp [loopN] at h
  | n + 1, 0, _, _, le, _ => by omega
  | n + 1, k + 1, s, b, le, h => by
    simp only [loopN] at h ⊢
    cases hb : body s with
    | none => rw [hb] at h; cases h
    | some c =>
      rw [hb] at h
      cases c with
      | done x => exact h
      | next s' => exact loopN_mono (Nat.le_of_succ_le_succ le) h

theorem loopM_of_N {σ β : Type} {body : σ → Option (Ctl σ β)} {n : Nat} {s : σ} {b : β} (h : loopN body n s = some b) : loopM body s = some b := by
  have he : ∃ b n, loopN body n s = some b := ⟨b, n, h⟩
  unfold loopM
  rw [dif_pos he]
  obtain ⟨k, hk⟩ := he.choose_spec
  have h1 := loopN_mono (Nat.le_max_left n k) h
  have h2 := loopN_mono (Nat.le_max_right n k) hk
  rw [h1] at h2
  exact h2.symm

theorem loopM_some {σ β : Type} {body : σ → Option (Ctl σ β)} {s : σ} {b : β} (h : loopM body s = some b) : ∃ n, loopN body n s = some b := by
  unfold loopM at h
  split at h
  · rename_i he
    simp only [Option.some.injEq] at h
    obtain ⟨n, hn⟩ := he.choose_spec
    exact ⟨n, h ▸ hn⟩
  · cases h

/-- The loop's own equation. -/
theorem loopM_eq {σ β : Type} (body : σ → Option (Ctl σ β)) (s : σ) : loopM body s = match body s with
    | none => none
    | some (.done b) => some b
    | some (.next s') => loopM body s' := by
  cases hb : body s with
  | none =>
    cases h : loopM body s with
    | none => rfl
    | some b =>
      obtain ⟨n, hn⟩ := loopM_some h
      cases n with
      | zero => simp [loopN] at hn
      | succ n => simp [loopN, hb] at hn
  | some c =>
    cases c with
    | done b => exact loopM_of_N (n := 1) (by simp [loopN, hb])
    | next s' =>
      show loopM body s = loopM body s'
      cases h : loopM body s' with
      | some b =>
        obtain ⟨n, hn⟩ := loopM_some h
        exact loopM_of_N (n := n + 1) (by simp only [loopN, hb]; exact hn)
      | none =>
        cases h2 : loopM body s with
        | none => rfl
        | some b =>
          obtain ⟨n, hn⟩ := loopM_some h2
          cases n with
          | zero => simp [loopN] at hn
          | succ n =>
            simp only [loopN, hb] at hn
            rw [loopM_of_N hn] at h; cases h

/-- What a round leaves: the next state, at the loop's head; or something else, out of the loop. -/
def LPost {σ β : Type} (I : σ → Act → World → Prop) (Dn : β → Exit → Act → World → Prop) (c : Ctl σ β) : Exit → Act → World → Prop := fun e a w =>
  match c with
  | .next s => e = .normal ∧ I s a w
  | .done b => e ≠ .normal ∧ Dn b e a w

theorem wp_loopN {σ β : Type} {P : Program} {c : Code} {body : σ → Option (Ctl σ β)} {I : σ → Act → World → Prop} {Dn : β → Exit → Act → World → Prop} {b : β}
    (round : ∀ s ctl, body s = some ctl → ∀ a w, I s a w → c.wpIn (fen κ) 0 P (LPost I Dn ctl) a w) : ∀ (n : Nat) (s : σ), loopN body n s = some b → ∀ a w, I s a w →
      ∀ (fr : Frame) (k : List Item) (cs : List Frame), fr.roundOf = (fen κ).round → ∃ e a' w', Dn b e a' w' ∧ ArrivesIn (Machine.fenced P (fen κ)) P (lone (fr.atR a (.code c :: .inLoop c :: k)) cs w) fr k cs e a' w'
  | 0, _, h, _, _, _, _, _, _, _ => by simp [loopN] at h
  | n + 1, s, h, a, w, hI, fr, k, cs, hro => by
    simp only [loopN] at h
    cases hb : body s with
    | none => rw [hb] at h; cases h
    | some ctl =>
      rw [hb] at h
      obtain ⟨e, a₁, w₁, hq, harr⟩ := round s ctl hb a w hI fr (.inLoop c :: k) cs hro (fen_fn κ _) (fen_room κ _)
      cases ctl with
      | next s' =>
        obtain ⟨rfl, hI'⟩ := hq
        obtain ⟨e₂, a₂, w₂, hq₂, harr₂⟩ := wp_loopN round n s' h a₁ w₁ hI' fr k cs hro
        exact ⟨e₂, a₂, w₂, hq₂, .of_steps (StepsIn.trans harr (.one (fenced_calm (n := 0) (fen_fn κ _) (fen_room κ _) rfl) stepR_inLoop)) harr₂⟩
      | done b' =>
        obtain ⟨hne, hq⟩ := hq
        simp only [Option.some.injEq] at h
        subst h
        refine ⟨e, a₁, w₁, hq, ?_⟩
        exact .pass (x := .inLoop c) rfl (fun _ _ => .inl hne) harr

section
variable {β : Type} {P : Program} {ks : List Kt} {Q : Exit → Act → World → Prop} {A : Act → World → Prop} {r : β}
theorem GC.loop {σ γ : Type} {c : Code} {body : σ → Option (Ctl σ γ)} {s0 : σ} {f : γ → Option β} (I : σ → Act → World → Prop) (Dn : γ → Exit → Act → World → Prop)
    (hI : ∀ a w, A a w → I s0 a w)
    (round : ∀ s ctl, GC κ P c [] (LPost I Dn ctl) (I s) (body s) ctl)
    (after : ∀ b, loopM body s0 = some b → f b = some r → ∀ e a w, Dn b e a w → interp κ P ks Q e a w) :
    GC κ P (.loop c) ks Q A ((loopM body s0).bind f) r := by
  intro hm a w ha
  cases hl : loopM body s0 with
  | none => rw [hl] at hm; cases hm
  | some b =>
    rw [hl] at hm
    obtain ⟨n, hn⟩ := loopM_some hl
    intro fr k cs hro hf hr
    obtain ⟨e, a', w', hq, harr⟩ := wp_loopN (Dn := Dn) (fun s ctl hs a w hI' => round s ctl hs a w hI') n s0 hn a w (hI a w ha) fr k cs hro
    exact ⟨e, a', w', after b hl hm e a' w' hq, .of_steps (.one (fenced_calm hf hr rfl) stepR_loop) harr⟩

/-- A piece of code whose ways meet again. -/
theorem GC.join {σ γ : Type} {c : Code} {m0 : Option (Ctl σ γ)} {f : Ctl σ γ → Option β} (I : σ → Act → World → Prop) (Dn : γ → Exit → Act → World → Prop)
    (h : ∀ ctl, GC κ P c [] (LPost I Dn ctl) A m0 ctl)
    (next : ∀ s, m0 = some (.next s) → GE κ P ks Q (I s) (f (.next s)) r)
    (done : ∀ b, m0 = some (.done b) → f (.done b) = some r → ∀ e a w, Dn b e a w → interp κ P ks Q e a w) :
    GC κ P c ks Q A (m0.bind f) r := by
  intro hm a w ha
  cases hl : m0 with
  | none => rw [hl] at hm; cases hm
  | some ctl =>
    rw [hl] at hm
    refine wpIn_mono (h ctl hl a w ha) fun e a' w' hq => ?_
    cases ctl with
    | next s => obtain ⟨rfl, hq⟩ := hq; exact next s hl hm a' w' hq
    | done b => exact done b hl hm e a' w' hq.2

/-- The same, where each way goes on behind. -/
theorem GC.join0 {σ : Type} {c : Code} {m0 : Option σ} {f : σ → Option β} (I : σ → Act → World → Prop)
    (h : ∀ s, GC κ P c [] (fun e a w => e = .normal ∧ I s a w) A m0 s)
    (next : ∀ s, m0 = some s → GE κ P ks Q (I s) (f s) r) :
    GC κ P c ks Q A (m0.bind f) r := by
  intro hm a w ha
  cases hl : m0 with
  | none => rw [hl] at hm; cases hm
  | some s =>
    rw [hl] at hm
    refine wpIn_mono (h s hl a w ha) fun e a' w' hq => ?_
    obtain ⟨rfl, hq⟩ := hq
    exact next s hl hm a' w' hq
end

/-! ### Functions -/
/-- Called so, and the model giving r: it returns a value of which ρ r holds, and leaves what it does not own as it was. -/
def CT {β : Type} (P : Program) (f : FuncId) (args : Array Value) (F : Fz) (H : HP) (m : Option β) (ρ : β → Fz → Value → Prop) (H' : β → Fz → Value → HP) : Prop :=
  ∀ r, m = some r → ∀ w R, SH w F (star H R) → Calls P f args w (fun e w' => ∃ F' v, F ≤ F' ∧ e = .returned v ∧ ρ r F' v ∧ SH w' F' (star (H' r F' v) R))
/-- The same where nothing owned is handed in or back. -/
def CT0 {β : Type} (P : Program) (f : FuncId) (args : Array Value) (F : Fz) (m : Option β) (ρ : β → Fz → Value → Prop) : Prop :=
  ∀ r, m = some r → ∀ w R, SH w F R → Calls P f args w (fun e w' => ∃ F' v, F ≤ F' ∧ e = .returned v ∧ ρ r F' v ∧ SH w' F' R)

def argS : Nat → List Value → List (Nat × Value)
  | _, [] => []
  | i, v :: vs => (i, v) :: argS (i + 1) vs

theorem look_argS : ∀ {vs : List Value} {i j : Nat} {v : Value}, lookS (argS i vs) j = some v → i ≤ j ∧ vs[j - i]? = some v
  | [], _, _, _, h => by simp [argS, lookS] at h
  | x :: vs, i, j, v, h => by
    simp only [argS, lookS] at h
    cases hb : Nat.beq i j with
    | true =>
      rw [hb] at h
      have : i = j := Nat.eq_of_beq_eq_true hb
      subst this
      exact ⟨Nat.le_refl _, by simpa using h⟩
    | false =>
      rw [hb] at h
      obtain ⟨h1, h2⟩ := look_argS h
      refine ⟨by omega, ?_⟩
      rw [show j - i = (j - (i + 1)) + 1 by omega]; simpa using h2

/-- The end of a function's body. -/
def fnPost0 {β : Type} (P : Program) (fn : Func) (F : Fz) (R : HP) (ρ : β → Fz → Value → Prop) (r : β) : Exit → Act → World → Prop :=
  bodyPost P fn (fun e w' => ∃ F' v, F ≤ F' ∧ e = .returned v ∧ ρ r F' v ∧ SH w' F' R)
def fnPost {β : Type} (P : Program) (fn : Func) (F : Fz) (R : HP) (ρ : β → Fz → Value → Prop) (H' : β → Fz → Value → HP) (r : β) : Exit → Act → World → Prop :=
  bodyPost P fn (fun e w' => ∃ F' v, F ≤ F' ∧ e = .returned v ∧ ρ r F' v ∧ SH w' F' (star (H' r F' v) R))

theorem sl_enter {args : List Value} {n : Nat} (hn : Nat.ble args.length n = true) : Sl n [] (argS 0 args) { tmps := args.toArray ++ Array.replicate (n - args.toArray.size) undef, defers := [] } := by
  have hn' : args.length ≤ n := Nat.le_of_ble_eq_true hn
  refine ⟨by simp; omega, rfl, fun i v e => ?_⟩
  obtain ⟨_, h2⟩ := look_argS e
  simp only [Nat.sub_zero] at h2
  have hi : i < args.length := by
    rcases Nat.lt_or_ge i args.length with h | h
    · exact h
    · rw [List.getElem?_eq_none h] at h2; cases h2
  simp only [Array.getD_eq_getD_getElem?]
  rw [Array.getElem?_append_left (by simpa using hi)]
  simp [h2]

theorem CT0.enter {β : Type} {P : Program} {f : FuncId} {fn : Func} {c : Code} {args : List Value} {F : Fz} {m : Option β} {ρ : β → Fz → Value → Prop} {n : Nat}
    (hf : P.funcs[f]? = some fn) (hb : fn.body = some c) (hn : fn.ntmps = n) (ha : Nat.ble args.length n = true)
    (k : ∀ r R, GC none P c [] (fnPost0 P fn F R ρ r) (Hd n [] (argS 0 args) F [R]) m r) : CT0 P f args.toArray F m ρ := by
  intro r hm w R hw
  refine calls_of_wp hf hb (wpIn_wide.1 (k r R hm _ w ⟨?_, hw.one⟩))
  rw [hn]; exact sl_enter ha

theorem SH.two {w : World} {F : Fz} {p q : HP} (h : SH w F (star p q)) : SH w F (stars [p, q]) :=
  h.mono fun m hm => star_mono_right (fun m' hq => ⟨m', fun _ => none, fun _ => .inr rfl, Mem.sub.refl _, fun _ _ e => by simp at e, hq, trivial⟩) hm

theorem CT.enter {β : Type} {P : Program} {f : FuncId} {fn : Func} {c : Code} {args : List Value} {F : Fz} {H : HP} {m : Option β} {ρ : β → Fz → Value → Prop} {H' : β → Fz → Value → HP} {n : Nat}
    (hf : P.funcs[f]? = some fn) (hb : fn.body = some c) (hn : fn.ntmps = n) (ha : Nat.ble args.length n = true)
    (k : ∀ r R, GC none P c [] (fnPost P fn F R ρ H' r) (Hd n [] (argS 0 args) F [H, R]) m r) : CT P f args.toArray F H m ρ H' := by
  intro r hm w R hw
  refine calls_of_wp hf hb (wpIn_wide.1 (k r R hm _ w ⟨?_, hw.two⟩))
  rw [hn]; exact sl_enter ha

end Go.Dec
