/- A region that draws its order, the general case: operations that make things, and that write what is owned. No program. -/
import Derived.Test.YtbomfcghpajaiaaKalL
namespace Go.Dec
variable {κ : Option Nat}

/-- The names that the operations of a region bring. -/
structure Env where
  a : Nat → Option Addr
  n : Nat → Nat
  c : Nat → List Value
  f : Nat → Fz

abbrev ValF : Type := Value × (Fz → Prop)
def maskL {α : Type} : List Bool → List α → List (Option α)
  | b :: bs, x :: xs => (bif b then some x else none) :: maskL bs xs
  | _, _ => []
theorem maskL_get {α : Type} : ∀ {M : List Bool} {x y : List α} {j : Nat} {q : α}, maskL M x = maskL M y → M[j]? = some true → x[j]? = some q → y[j]? = some q
  | [], _, _, j, _, _, h, _ => by simp at h
  | b :: M, [], _, j, _, _, _, h => by simp at h
  | b :: M, x :: xs, [], j, _, h, _, _ => by simp [maskL] at h
  | b :: M, x :: xs, y :: ys, 0, q, h, hb, hx => by
    simp at hb hx; subst hb hx
    simp only [maskL, cond_true, List.cons.injEq, Option.some.injEq] at h
    simp [h.1]
  | b :: M, x :: xs, y :: ys, j + 1, q, h, hb, hx => by
    simp only [maskL, List.cons.injEq] at h
    have := maskL_get (j := j) (q := q) h.2 (by simpa using hb) (by simpa using hx)
    simpa using this

/-- Does operation i wait for operation j, by so many steps? -/
def depB (l : List Oper) : Nat → Nat → Nat → Bool
  | 0, _, _ => false
  | k + 1, i, j => match l[i]? with
    | none => false
    | some o => o.after.toList.any fun e => Region.binds .any e && (Nat.beq e.on j || depB l k e.on j)
def Down (l : List Oper) (L : Nat → Bool) : Prop := ∀ i o, l[i]? = some o → L i = true → ∀ e ∈ o.after, Region.binds .any e = true → L e.on = true
theorem dep_true {l : List Oper} {L : Nat → Bool} (hd : Down l L) : ∀ {k i j : Nat}, depB l k i j = true → (∀ o, l[i]? = some o → ∀ e ∈ o.after, Region.binds .any e = true → L e.on = true) → L j = true
  | 0, i, j, h, _ => by simp [depB] at h
  | k + 1, i, j, h, hi => by
    simp only [depB] at h
    split at h
    · cases h
    · rename_i o ho
      simp only [List.any_eq_true, Bool.and_eq_true, Bool.or_eq_true] at h
      obtain ⟨e, he, hb, h⟩ := h
      have hon := hi o ho e (by simpa using he) hb
      rcases h with h | h
      · rw [← Nat.eq_of_beq_eq_true h]; exact hon
      · exact dep_true hd h fun o' ho' e' he' hb' => hd e.on o' ho' hon e' he' hb'
/-- What is not in the mask waits for i. -/
def closB (l : List Oper) (i : Nat) : Nat → List Bool → List Bool → Bool
  | _, _, [] => true
  | j, M, b :: bs => (b || Nat.beq j i || (match l[j]? with
    | none => false
    | some o => o.after.toList.any fun e => Region.binds .any e && (Nat.beq e.on i || (Nat.blt e.on j && (M[e.on]?).getD true == false)))) && closB l i (j + 1) M bs
theorem closB_spec {l : List Oper} {i : Nat} {M : List Bool} : ∀ {bs : List Bool} {j0 : Nat}, closB l i j0 M bs = true → ∀ t, bs[t]? = some false → j0 + t = i ∨ ∃ o e, l[j0 + t]? = some o ∧ e ∈ o.after ∧ Region.binds .any e = true ∧ (e.on = i ∨ (e.on < j0 + t ∧ M[e.on]? = some false))
  | [], _, _, t, h => by simp at h
  | b :: bs, j0, hb, 0, h => by
    simp at h; subst h
    simp only [closB, Bool.false_or, Bool.and_eq_true, Bool.or_eq_true] at hb
    rcases hb.1 with h | h
    · exact .inl (Nat.eq_of_beq_eq_true h)
    · right
      split at h
      · cases h
      · rename_i o ho
        simp only [List.any_eq_true, Bool.and_eq_true, Bool.or_eq_true] at h
        obtain ⟨e, he, hbi, h⟩ := h
        refine ⟨o, e, ho, by simpa using he, hbi, ?_⟩
        rcases h with h | ⟨h1, h2⟩
        · exact .inl (Nat.eq_of_beq_eq_true h)
        · refine .inr ⟨Nat.le_of_ble_eq_true h1, ?_⟩
          cases hm : M[e.on]? with
          | none => rw [hm] at h2; simp at h2
          | some b => rw [hm] at h2; simp at h2; rw [h2]
  | b :: bs, j0, hb, t + 1, h => by
    simp only [closB, Bool.and_eq_true] at hb
    have := closB_spec hb.2 t (by simpa using h)
    rwa [show j0 + 1 + t = j0 + (t + 1) by omega] at this
theorem mask_true {l : List Oper} {i : Nat} {M : List Bool} {L : Nat → Bool} (hd : Down l L) (hi : L i = false) (hc : closB l i 0 M M = true) : ∀ (j : Nat), L j = true → j < M.length → M[j]? = some true := fun j => by
  induction j using Nat.strongRecOn with
  | ind j ih =>
    intro hj hlt
    cases hm : M[j]? with
    | none => rw [List.getElem?_eq_none_iff] at hm; omega
    | some b =>
      cases b with
      | true => rfl
      | false =>
        exfalso
        have := closB_spec hc j hm
        rw [Nat.zero_add] at this
        rcases this with rfl | ⟨o, e, ho, he, hb, h⟩
        · rw [hi] at hj; cases hj
        · have hon := hd j o ho hj e he hb
          rcases h with h | ⟨hlt', h⟩
          · rw [h, hi] at hon; cases hon
          · have := ih e.on hlt' hon (lt_of_getEl h)
            rw [h] at this; cases this

def dstOf (l : List Oper) (j : Nat) : Option Nat := (l[j]?).bind (·.dst)

section
variable {β : Type} {P : Program} {ks : List Kt} {Q : Exit → Act → World → Prop} {m : Option β} {r : β}
variable {n : Nat} {D : List Deferred} {S0 : List (Nat × Value)} {F : Fz}

/-- What an operation leaves. -/
def GPost (n : Nat) (D : List Deferred) (l : List Oper) (X : Env → List ValF) (C : (Nat → Bool) → Env → List HP) (L : Nat → Bool) (env : Env) (F' : Fz) (i : Nat) (dst : Option Nat) (S : List (Nat × Value)) : Exit → Act → World → Prop := fun e a w =>
  e = .normal ∧ ∃ env' F'', F' ≤ F'' ∧ (∃ M, M.length = (X env).length ∧ closB l i 0 M M = true ∧ maskL M (X env) = maskL M (X env')) ∧ ∃ q, (X env')[i]? = some q ∧ (∀ G, F'' ≤ G → q.2 G) ∧
    Hd n D (match dst with | some d => (d, q.1) :: S | none => S) F'' (C (updB L i) env') a w

def OpG (κ : Option Nat) (P : Program) (ops : Array Oper) (l : List Oper) (n : Nat) (D : List Deferred) (S0 : List (Nat × Value)) (F : Fz) (X : Env → List ValF) (C : (Nat → Bool) → Env → List HP) (i : Nat) (o : Oper) : Prop :=
  ∀ L env F', F ≤ F' → L i = false → (∀ k j, depB l k i j = true → L j = true) → (∀ k j, depB l k j i = true → L j = false) → (∀ (j : Nat) (q : ValF), L j = true → (X env)[j]? = some q → ∀ G, F' ≤ G → q.2 G) →
    ∃ Si, (∀ S, Sub S0 S → (∀ (j d : Nat) (v : Value), L j = true → dstOf l j = some d → ((X env)[j]?).map Prod.fst = some v → lookS S d = some v) → Sub Si S) ∧
      GL κ P ops [o] [] (GPost n D l X C L env F' i o.dst Si) (Hd n D Si F' (C L env)) (some ()) ()
def OpsG (κ : Option Nat) (P : Program) (ops : Array Oper) (l : List Oper) (n : Nat) (D : List Deferred) (S0 : List (Nat × Value)) (F : Fz) (X : Env → List ValF) (C : (Nat → Bool) → Env → List HP) : Nat → List Oper → Prop
  | _, [] => True
  | i, o :: os => OpG κ P ops l n D S0 F X C i o ∧ OpsG κ P ops l n D S0 F X C (i + 1) os
theorem OpsG.get {ops : Array Oper} {l : List Oper} {X : Env → List ValF} {C : (Nat → Bool) → Env → List HP} : ∀ {k : Nat} {os : List Oper}, OpsG κ P ops l n D S0 F X C k os → ∀ i o, os[i]? = some o → OpG κ P ops l n D S0 F X C (k + i) o
  | _, [], _, i, o, h => by simp at h
  | k, x :: os, hb, 0, o, h => by simp at h; subst h; exact hb.1
  | k, x :: os, hb, i + 1, o, h => by
    have := OpsG.get hb.2 i o (by simpa using h)
    rwa [show k + 1 + i = k + (i + 1) by omega] at this

theorem g_frame {ops : Array Oper} {o : Oper} {a : Act} {w : World} {l : List Oper} {X : Env → List ValF} {C : (Nat → Bool) → Env → List HP} {L : Nat → Bool} {env : Env} {F' : Fz} {i : Nat} {S Si : List (Nat × Value)} (hn : ∀ d, o.dst = some d → Nat.blt d n = true) (ha : Sl n D S a)
    (h : wpL κ P ops (GPost n D l X C L env F' i o.dst Si) [o] a w) : wpL κ P ops (GPost n D l X C L env F' i o.dst S) [o] a w := by
  have key : ∀ u w', GPost n D l X C L env F' i o.dst Si .normal (a.put o.dst u) w' → GPost n D l X C L env F' i o.dst S .normal (a.put o.dst u) w' := by
    rintro u w' ⟨_, env', F'', le, hM, q, hq, hf, hA⟩
    refine ⟨rfl, env', F'', le, hM, q, hq, hf, ?_⟩
    cases hd : o.dst with
    | none => rw [hd] at hA; exact ⟨ha.put_none u, hA.2⟩
    | some d =>
      rw [hd] at hA
      have h1 := ha.put (hn d hd) u
      have e1 := h1.2.2 d u look_self
      have e2 := hA.1.2.2 d q.1 look_self
      have : u = q.1 := e1.symm.trans e2
      subst this
      exact ⟨h1, hA.2⟩
  have hno : ∀ e a w, e ≠ .normal → GPost n D l X C L env F' i o.dst Si e a w → False := fun e a w hne hq => hne hq.1
  unfold wpL at h ⊢
  split
  · rename_i hw
    rw [if_pos hw] at h
    refine opW_put key (fun dd w' h => ?_) (fun e a w hne hq => (hno e a w hne hq).elim) h
    obtain ⟨_, env', F'', le, hM, q, hq, hf, hA⟩ := h
    have h2 := hA.1.2.1
    cases hd : o.dst with
    | none =>
      rw [hd] at h2; simp only [Act.put] at h2; rw [ha.2.1] at h2
      exact absurd (congrArg List.length h2) (by simp)
    | some d =>
      rw [hd] at h2; simp only [Act.put] at h2; rw [ha.2.1] at h2
      exact absurd (congrArg List.length h2) (by simp)
  · rename_i hw
    rw [if_neg hw] at h
    exact key undef w h

def sameDst (d : Nat) (o : Oper) : Bool := match o.dst with
  | some d' => Nat.beq d' d
  | none => false
def freshG (n : Nat) (S0 : List (Nat × Value)) : List Oper → Bool
  | [] => true
  | o :: os => (match o.dst with
    | none => true
    | some d => Nat.blt d n && !hasKey d S0 && !os.any (sameDst d)) && freshG n S0 os
theorem freshG_get : ∀ {os : List Oper} {i : Nat} {o : Oper} {d : Nat}, freshG n S0 os = true → os[i]? = some o → o.dst = some d → Nat.blt d n = true ∧ hasKey d S0 = false
  | [], _, _, _, _, h, _ => by simp at h
  | x :: os, 0, o, d, hf, h, hd => by
    simp at h; subst h
    simp only [freshG, hd, Bool.and_eq_true, Bool.not_eq_true'] at hf
    exact ⟨hf.1.1.1, hf.1.1.2⟩
  | x :: os, i + 1, o, d, hf, h, hd => by
    simp only [freshG, Bool.and_eq_true] at hf
    exact freshG_get hf.2 (by simpa using h) hd
theorem freshG_no {os : List Oper} {d i : Nat} {o : Oper} (h : os.any (sameDst d) = false) (ho : os[i]? = some o) (hd : o.dst = some d) : False := by
  have hm : o ∈ os := by
    obtain ⟨hlt, e⟩ := List.getElem?_eq_some_iff.1 ho
    rw [← e]; exact List.getElem_mem hlt
  have : os.any (sameDst d) = true := List.any_eq_true.2 ⟨o, hm, by simp [sameDst, hd]⟩
  rw [h] at this; cases this
theorem freshG_inj : ∀ {os : List Oper} {i j : Nat} {o o' : Oper} {d : Nat}, freshG n S0 os = true → os[i]? = some o → os[j]? = some o' → o.dst = some d → o'.dst = some d → i = j
  | [], _, _, _, _, _, _, h, _, _, _ => by simp at h
  | x :: os, 0, 0, _, _, _, _, _, _, _, _ => rfl
  | x :: os, 0, j + 1, o, o', d, hf, h, h', hd, hd' => by
    simp at h; subst h
    simp only [freshG, hd, Bool.and_eq_true, Bool.not_eq_true'] at hf
    exact (freshG_no hf.1.2 (by simpa using h') hd').elim
  | x :: os, i + 1, 0, o, o', d, hf, h, h', hd, hd' => by
    simp at h'; subst h'
    simp only [freshG, hd', Bool.and_eq_true, Bool.not_eq_true'] at hf
    exact (freshG_no hf.1.2 (by simpa using h) hd).elim
  | x :: os, i + 1, j + 1, o, o', d, hf, h, h', hd, hd' => by
    simp only [freshG, Bool.and_eq_true] at hf
    have := freshG_inj (i := i) (j := j) hf.2 (by simpa using h) (by simpa using h') hd hd'
    rw [this]
def outG : List Oper → List ValF → List (Nat × Value) → List (Nat × Value)
  | o :: os, q :: qs, S => match o.dst with
    | some d => (d, q.1) :: outG os qs S
    | none => outG os qs S
  | _, _, S => S
theorem sub_outG {S : List (Nat × Value)} (h0 : Sub S0 S) : ∀ {os : List Oper} {qs : List ValF}, (∀ (i : Nat) (o : Oper) (d : Nat) (q : ValF), os[i]? = some o → o.dst = some d → qs[i]? = some q → lookS S d = some q.1) → Sub (outG os qs S0) S
  | [], _, _ => h0
  | _ :: _, [], _ => h0
  | o :: os, q :: qs, h => by
    have h2 : Sub (outG os qs S0) S := sub_outG h0 fun i o d q e1 e2 e3 => h (i + 1) o d q (by simpa using e1) e2 (by simpa using e3)
    simp only [outG]
    cases hd : o.dst with
    | none => exact h2
    | some d => exact Sub.cons (h 0 o d q rfl hd rfl) h2

theorem GC.drawG {hs : List HP} {id : Nat} {l : List Oper} (k g : Nat) (X : Env → List ValF) (C : (Nat → Bool) → Env → List HP) (hm : P.follows .mixedOrders = true) (hord : ordB 0 l = true) (htail : tailB k (l.drop k) = true)
    (hlen : Nat.ble k l.length = true) (hX : ∀ env, (X env).length = k) (hfr : freshG n S0 (l.take k) = true) (hC : ∀ env, C (fun _ => false) env = hs ++ List.replicate g emp)
    (hops : OpsG κ P l.toArray l n D S0 F X C 0 (l.take k))
    (tail : ∀ env F', F ≤ F' → (∀ (j : Nat) (q : ValF), (X env)[j]? = some q → q.2 F') → GL κ P l.toArray (l.drop k) ks Q (Hd n D (outG (l.take k) (X env) S0) F' (C (fun j => Nat.blt j k) env)) m r) :
    GC κ P (.region id l.toArray true) ks Q (Hd n D S0 F hs) m r := by
  intro hmr a w ha
  have hlen' : k ≤ l.length := Nat.le_of_ble_eq_true hlen
  let Free : (Nat → Bool) → Act → World → Prop := fun L a w => Down l L ∧ (∀ i, k ≤ i → L i = false) ∧ ∃ env F' S, F ≤ F' ∧ Sub S0 S ∧ (∀ (j d : Nat) (v : Value), L j = true → dstOf l j = some d → ((X env)[j]?).map Prod.fst = some v → lookS S d = some v) ∧ (∀ (j : Nat) (q : ValF), L j = true → (X env)[j]? = some q → ∀ G, F' ≤ G → q.2 G) ∧ Hd n D S F' (C L env) a w
  let Inv : (Nat → Bool) → Act → World → Prop := fun L a w => Free L a w ∨ ∃ i, k < i ∧ (∀ j, L j = true ↔ j < i) ∧ wpL κ P l.toArray (interp κ P ks Q) (l.drop i) a w
  have hend0 : ∀ L a w, (∀ i, i < k → L i = true) → Free L a w → wpL κ P l.toArray (interp κ P ks Q) (l.drop k) a w := by
    rintro L a w hall ⟨hdn, hout, env, F', S, le, hS, hV, hΦ, hA⟩
    have hXl := hX env
    have hLk : L = fun j => Nat.blt j k := by
      funext j
      rcases Nat.lt_or_ge j k with h | h
      · rw [hall j h]; exact (Nat.ble_eq_true_of_le h).symm
      · rw [hout j h]
        cases hb : Nat.blt j k with
        | false => rfl
        | true => have := Nat.le_of_ble_eq_true hb; omega
    refine tail env F' le (fun j q hq => hΦ j q (hall j (by have := lt_of_getEl hq; omega)) hq F' (Fz.le_refl F')) hmr a w ⟨hA.1.sub (sub_outG hS fun i o d q e1 e2 e3 => ?_), hLk ▸ hA.2⟩
    have hik : i < k := by have := lt_of_getEl e3; omega
    refine hV i d q.1 (hall i hik) ?_ (by rw [e3]; rfl)
    rw [List.getElem?_take, if_pos hik] at e1
    simp [dstOf, e1, e2]
  refine wp_region_inv hm Inv (fun i o h e he hb => by have := ordB_spec hord i o (by simpa using h) e he hb; omega) ?_ ?_ ?_
  · refine .inl ⟨fun i o _ h => (by cases h), fun _ _ => rfl, ⟨fun _ => none, fun _ => 0, fun _ => [], fun _ => F⟩, F, S0, Fz.le_refl F, Sub.refl _, fun j d v h => (by cases h), fun j q h => (by cases h), ha.1, ?_⟩
    rw [hC]
    have h1 := ha.2.drew (w.drawn + 1)
    refine h1.mono fun m hm' => ?_
    exact stars_emps hm'
  · intro L a w i o ho hLi hdeps hI
    have ho' : l[i]? = some o := by simpa using ho
    have hil : i < l.length := lt_of_getEl ho'
    by_cases hi : i < k
    · rcases hI with hF | ⟨k', hk, hL, _⟩
      case inr => have := (hL i).2 (by omega); rw [hLi] at this; cases this
      obtain ⟨hdn, hout, env, F', S, le, hS, hV, hΦ, hA⟩ := hF
      have hot : (l.take k)[i]? = some o := by rw [List.getElem?_take, if_pos hi]; exact ho'
      have hop := OpsG.get hops i o hot
      simp only [Nat.zero_add] at hop
      have hup : ∀ k' j, depB l k' j i = true → L j = false := fun k' j h => by
        cases hj : L j with
        | false => rfl
        | true =>
          have := dep_true hdn h fun o' ho'' e he hb => hdn j o' ho'' hj e he hb
          rw [hLi] at this; cases this
      have hdn' : ∀ k' j, depB l k' i j = true → L j = true := fun k' j h => dep_true hdn h fun o' ho'' e he hb => by
        rw [ho'] at ho''; cases ho''; exact hdeps e he hb
      obtain ⟨Si, hSi, hstep⟩ := hop L env F' le hLi hdn' hup hΦ
      have hsub := hSi S hS hV
      have hn : ∀ d, o.dst = some d → Nat.blt d n = true := fun d hd => (freshG_get hfr hot hd).1
      have h1 := g_frame (S := S) hn hA.1 (hstep rfl a w ⟨hA.1.sub hsub, hA.2⟩)
      refine wp_of_seg (fun e a w hne hq => absurd hq.1 hne) (fun a' w' hq => ?_) h1
      obtain ⟨_, env', F'', le', ⟨M, hMl, hMc, hMe⟩, q, hq, hqf, hA'⟩ := hq
      have hst : ∀ (j : Nat) (q : ValF), L j = true → (X env')[j]? = some q → (X env)[j]? = some q := fun j q hj hx => by
        have hjl : j < M.length := by rw [hMl, hX env, ← hX env']; exact lt_of_getEl hx
        exact maskL_get hMe.symm (mask_true hdn hLi hMc j hj hjl) hx
      refine .inl ⟨?_, ?_, env', F'', (match o.dst with | some d => (d, q.1) :: S | none => S), Fz.le_trans le le', ?_, ?_, ?_, hA'⟩
      · intro j oj hoj hj e he hb
        by_cases hji : j = i
        · subst hji
          rw [ho'] at hoj; cases hoj
          have := hdeps e he hb
          simp only [updB]; split
          · rfl
          · exact this
        · have hLj : L j = true := by simpa [updB, hji] using hj
          have := hdn j oj hoj hLj e he hb
          simp only [updB]; split
          · rfl
          · exact this
      · intro j hj
        simp only [updB]; rw [if_neg (by omega)]; exact hout j hj
      · cases hd : o.dst with
        | none => exact hS
        | some d => exact sub_push hS (freshG_get hfr hot hd).2 _
      · intro j d' v' hj hd' hv'
        by_cases hji : j = i
        · subst hji
          have hod : o.dst = some d' := by simpa [dstOf, ho'] using hd'
          rw [hq] at hv'; simp only [Option.map_some, Option.some.injEq] at hv'
          subst hv'
          rw [hod]; exact look_self
        · have hLj : L j = true := by simpa [updB, hji] using hj
          have hjk : j < k := by
            rcases Nat.lt_or_ge j k with h | h
            · exact h
            · rw [hout j h] at hLj; cases hLj
          obtain ⟨q', hq', rfl⟩ := Option.map_eq_some_iff.1 hv'
          have h0 := hV j d' q'.1 hLj hd' (by rw [hst j q' hLj hq']; rfl)
          cases hd : o.dst with
          | none => exact h0
          | some d =>
            have hne : d ≠ d' := fun h => by
              subst h
              cases hoj : l[j]? with
              | none => simp [dstOf, hoj] at hd'
              | some oj =>
                have hdj : oj.dst = some d := by simpa [dstOf, hoj] using hd'
                exact hji (freshG_inj hfr (by rw [List.getElem?_take, if_pos hjk]; exact hoj) hot hdj hd)
            exact look_push hne h0
      · intro j q' hj hq' G hG
        by_cases hji : j = i
        · subst hji; rw [hq] at hq'; cases hq'; exact hqf G hG
        · have hLj : L j = true := by simpa [updB, hji] using hj
          exact hΦ j q' hLj (hst j q' hLj hq') G (Fz.le_trans le' hG)
    · -- the tail
      have hts := tailB_spec htail (i - k) o (by rw [List.getElem?_drop]; rw [show k + (i - k) = i by omega]; exact ho')
      have hall : ∀ j, j < i → L j = true := fun j hj => by
        obtain ⟨e, he, h1, h2⟩ := hts j (by omega)
        rw [← h1]; exact hdeps e he h2
      have hw : wpL κ P l.toArray (interp κ P ks Q) (l.drop i) a w := by
        rcases hI with hF | ⟨k', hk, hL, hwp⟩
        · have hiV : i = k := by
            rcases Nat.lt_or_ge k i with h | h
            · have := hall k h; rw [hF.2.1 _ (Nat.le_refl _)] at this; cases this
            · omega
          subst hiV
          exact hend0 L a w hall hF
        · have : k' = i := by
            have h1 : ¬ i < k' := fun h => by have := (hL i).2 h; rw [hLi] at this; cases this
            have h2 : ¬ k' < i := fun h => by have := (hL k').1 (hall k' h); omega
            omega
          subst this; exact hwp
      have hdrop : l.drop i = o :: l.drop (i + 1) := by
        have hg : l[i]'hil = o := by simpa [hil] using ho'
        rw [← hg]; exact List.drop_eq_getElem_cons hil
      rw [hdrop] at hw
      have hnext : ∀ a' w', wpL κ P l.toArray (interp κ P ks Q) (l.drop (i + 1)) a' w' → Inv (updB L i) a' w' := fun a' w' h =>
        .inr ⟨i + 1, by omega, fun j => by
          simp only [updB]
          by_cases hj : j = i
          · simp [hj]
          · simp only [hj, if_false]
            constructor
            · intro hLj
              have : j < i := by
                rcases Nat.lt_or_ge j i with h | h
                · exact h
                · rcases hI with hF | ⟨k', hk, hL, _⟩
                  · rw [hF.2.1 j (by omega)] at hLj; cases hLj
                  · have h1 := (hL j).1 hLj
                    have := (hL i).2 (by omega); rw [hLi] at this; cases this
              omega
            · intro hj'; exact hall j (by omega), h⟩
      unfold wpL at hw
      split
      · rename_i hwn
        rw [if_pos hwn] at hw
        exact opW_mono hnext hw
      · rename_i hwn
        rw [if_neg hwn] at hw
        exact hnext _ _ hw
  · intro L a w hall hI
    have hw : wpL κ P l.toArray (interp κ P ks Q) (l.drop l.length) a w := by
      rcases hI with hF | ⟨k', hk, hL, hwp⟩
      · have hVl : k = l.length := by
          rcases Nat.lt_or_ge k l.length with h | h
          · have := hall k (by simpa using h); rw [hF.2.1 _ (Nat.le_refl _)] at this; cases this
          · omega
        have := hend0 L a w (fun i hi => hall i (by simp; omega)) hF
        rwa [hVl] at this
      · have : l.length ≤ k' := by
          rcases Nat.lt_or_ge k' l.length with h | h
          · have := (hL k').1 (hall k' (by simpa using h)); omega
          · exact h
        rw [List.drop_eq_nil_of_le this] at hwp
        rw [List.drop_eq_nil_of_le (Nat.le_refl _)]; exact hwp
    rw [List.drop_eq_nil_of_le (Nat.le_refl _)] at hw
    exact hw
where
  stars_emps {hs : List HP} {g : Nat} {m : Mem} (h : stars hs m) : stars (hs ++ List.replicate g emp) m := by
    induction hs generalizing m with
    | nil =>
      rw [List.nil_append]
      induction g generalizing m with
      | zero => exact h
      | succ g ih => exact ⟨fun _ => none, m, fun _ => .inl rfl, fun _ _ e => by simp at e, Mem.sub.refl _, trivial, ih trivial⟩
    | cons q hs ih => exact star_mono_right (fun m' h' => ih h') h

theorem OpsG.cons {ops : Array Oper} {l : List Oper} {X : Env → List ValF} {C : (Nat → Bool) → Env → List HP} {k : Nat} {o : Oper} {os : List Oper} (h : OpG κ P ops l n D S0 F X C k o) (t : OpsG κ P ops l n D S0 F X C (k + 1) os) : OpsG κ P ops l n D S0 F X C k (o :: os) := ⟨h, t⟩
theorem OpsG.nil {ops : Array Oper} {l : List Oper} {X : Env → List ValF} {C : (Nat → Bool) → Env → List HP} {k : Nat} : OpsG κ P ops l n D S0 F X C k [] := trivial
section
variable {ops : Array Oper} {l : List Oper} {X : Env → List ValF} {C : (Nat → Bool) → Env → List HP} {L : Nat → Bool} {env : Env} {F' F2 : Fz} {i d : Nat} {v : Value} {Si : List (Nat × Value)} {x : β} {hs2 : List HP}
theorem allM {i : Nat} : ∀ {k j : Nat} {M : List Bool}, closB l i j M (List.replicate k true) = true
  | 0, _, _ => rfl
  | k + 1, j, M => by
    simp only [List.replicate_succ, closB, Bool.true_or, Bool.true_and]; exact allM
/-- Nothing new but the value. -/
theorem GL.finV (hx : (X env)[i]? = some (v, fun _ => True)) (hC : C (updB L i) env = C L env) (le : F' ≤ F2) :
    GL κ P ops [] [] (GPost n D l X C L env F' i (some d) Si) (Hd n D ((d, v) :: Si) F2 (C L env)) (some x) x :=
  fun _ a w ha => ⟨rfl, env, F2, le, ⟨List.replicate (X env).length true, by simp, allM, rfl⟩, _, hx, fun _ _ => trivial, ⟨ha.1, hC ▸ ha.2⟩⟩
theorem GL.finG (env' : Env) (M : List Bool) (hMl : M.length = (X env).length) (hMc : closB l i 0 M M = true) (hMe : maskL M (X env) = maskL M (X env')) {q : Fz → Prop} (hx : (X env')[i]? = some (v, q)) (le : F' ≤ F2) (hf : ∀ G, F2 ≤ G → q G)
    (hC : ∀ w, SH w F2 (stars hs2) → SH w F2 (stars (C (updB L i) env'))) : GL κ P ops [] [] (GPost n D l X C L env F' i (some d) Si) (Hd n D ((d, v) :: Si) F2 hs2) (some x) x :=
  fun _ _a _w ha => ⟨rfl, env', F2, le, ⟨M, hMl, hMc, hMe⟩, _, hx, hf, ⟨ha.1, hC _ ha.2⟩⟩
theorem GL.finS (hx : (X env)[i]? = some (v, fun _ => True)) (le : F' ≤ F2) (hC : hs2 = C (updB L i) env) : GL κ P ops [] [] (GPost n D l X C L env F' i none Si) (Hd n D Si F2 hs2) (some x) x :=
  fun _ a w ha => ⟨rfl, env, F2, le, ⟨List.replicate (X env).length true, by simp, allM, rfl⟩, _, hx, fun _ _ => trivial, ⟨ha.1, hC ▸ ha.2⟩⟩
end
theorem SH.place {hs : List HP} {p q : HP} {w : World} (k : Nat) (hk : hs[k]? = some q) (h : SH w F (stars (p :: hs))) : SH w F (stars (hs.set k p)) :=
  SH.push hk ((h.mono fun _ hm => star_swap (star_mono_right (fun _ => stars_erase (k := k)) hm)).drop)
theorem condT {α : Type} {b : Bool} {x y : α} (h : b = true) : cond b x y = x := by rw [h]; rfl
theorem condF {α : Type} {b : Bool} {x y : α} (h : b = false) : cond b x y = y := by rw [h]; rfl

theorem SH.placeC {hs : List HP} {p p' q : HP} {w : World} (k : Nat) (hk : hs[k]? = some q) (hp : p' = p) (h : SH w F (stars (p :: hs))) : SH w F (stars (hs.set k p')) := hp ▸ h.place k hk
theorem setC {hs : List HP} {p p' : HP} (k : Nat) (hp : p' = p) : hs.set k p = hs.set k p' := by rw [hp]
theorem GL.norm {ops : Array Oper} {l : List Oper} {S S' : List (Nat × Value)} {hs hs' : List HP} (hS : Sub S' S) (hh : hs = hs') (k : GL κ P ops l ks Q (Hd n D S' F hs') m r) : GL κ P ops l ks Q (Hd n D S F hs) m r :=
  fun hm a w ha => k hm a w ⟨ha.1.sub hS, hh ▸ ha.2⟩
theorem GL.appendK {ops : Array Oper} {rest : List Oper} {S : List (Nat × Value)} {hs : List HP} {α : Type} {sz d : Nat} {ty t t2 e e2 : TypeId} {pos : String} {after : Array Edge} {ox oy : Operand} {c : ERel α} {F0 : Fz} {p p2 : Option Addr} {cap cap2 : Nat} {l l2 l' : List α} {T : Array TypeId} (hl : appO l l2 = some l') (i : Nat) (E : ElemOK P e sz c) (le0 : F0 ≤ F) (hd : Nat.blt d n = true) (ht : P.underlying t = some (.slice e)) (ht2 : P.underlying t2 = some (.slice e2)) (hT0 : T[0]? = some t) (hT1 : T[1]? = some t2)
    (hi : hs[i]? = some (ownSl sz c F0 e p cap l)) (hr : RepSl sz c F p2 cap2 l2) (hx : evalS S ox = some (.slice p l.length cap)) (hy : evalS S oy = some (.slice p2 l2.length cap2))
    (k : ∀ p' cap', GL κ P ops rest ks Q (Hd n D ((d, .slice p' l'.length cap') :: S) F (hs.set i (ownSl sz c F e p' cap' l'))) m r) :
    GL κ P ops (⟨some d, .call ⟨.builtin .append, #[ox, oy], T⟩, ty, pos, after, none⟩ :: rest) ks Q (Hd n D S F hs) m r := by
  have h := GL.append (f := fun _ => m) (pos := pos) (after := after) (ty := ty) i E le0 hd ht ht2 hT0 hT1 hi hr hx hy (fun l'' p' cap' hl'' => by rw [hl] at hl''; cases hl''; exact k p' cap')
  rw [hl] at h; exact h

theorem GL.sliceLoK {α : Type} {n : Nat} {S : List (Nat × Value)} {hs : List HP} {ops : Array Oper} {rest : List Oper} {d : Nat} {ty t : TypeId} {pos : String} {after : Array Edge} {ox oy : Operand} {kd : IntKind} {x : Int} {sz : Nat} {c : ERel α} {p : Option Addr} {cap e : Nat} {l : List α} {l' : List α} (hl : sliceL l x l.length = some l') (hd : Nat.blt d n = true) (ht : P.underlying t = some (.slice e)) (hz : ∀ w, (sizeOf e).run P w = .ok sz w)
    (hr : RepSl sz c F p cap l) (hx : evalS S ox = some (.slice p l.length cap)) (hy : evalS S oy = some (.int kd x))
    (k : ∀ p' c', RepSl sz c F p' c' l' → GL κ P ops rest ks Q (Hd n D ((d, .slice p' l'.length c') :: S) F hs) m r) :
    GL κ P ops (⟨some d, .slice t ox (some oy) none none, ty, pos, after, none⟩ :: rest) ks Q (Hd n D S F hs) m r := by
  have h := GL.sliceLo (f := fun _ => m) (pos := pos) (after := after) (ty := ty) hd ht hz hr hx hy (fun l'' p' c' hl'' hr' => by rw [hl] at hl''; cases hl''; exact k p' c' hr')
  rw [hl] at h; exact h
theorem GL.sliceHiK {α : Type} {n : Nat} {S : List (Nat × Value)} {hs : List HP} {ops : Array Oper} {rest : List Oper} {d : Nat} {ty t : TypeId} {pos : String} {after : Array Edge} {ox oy : Operand} {kd : IntKind} {x : Int} {sz : Nat} {c : ERel α} {p : Option Addr} {cap e : Nat} {l : List α} {l' : List α} (hl : sliceL l 0 x = some l') (hd : Nat.blt d n = true) (ht : P.underlying t = some (.slice e)) (hz : ∀ w, (sizeOf e).run P w = .ok sz w)
    (hr : RepSl sz c F p cap l) (hx : evalS S ox = some (.slice p l.length cap)) (hy : evalS S oy = some (.int kd x))
    (k : ∀ p' c', RepSl sz c F p' c' l' → GL κ P ops rest ks Q (Hd n D ((d, .slice p' l'.length c') :: S) F hs) m r) :
    GL κ P ops (⟨some d, .slice t ox none (some oy) none, ty, pos, after, none⟩ :: rest) ks Q (Hd n D S F hs) m r := by
  have h := GL.sliceHi (f := fun _ => m) (pos := pos) (after := after) (ty := ty) hd ht hz hr hx hy (fun l'' p' c' hl'' hr' => by rw [hl] at hl''; cases hl''; exact k p' c' hr')
  rw [hl] at h; exact h
theorem GL.sliceHiMK {α : Type} {n : Nat} {S : List (Nat × Value)} {hs : List HP} {ops : Array Oper} {rest : List Oper} {d : Nat} {ty t : TypeId} {pos : String} {after : Array Edge} {ox oy oz : Operand} {kd : IntKind} {x : Int} {sz : Nat} {c : ERel α} {p : Option Addr} {cap e : Nat} {l : List α} {kd' : IntKind} {l' : List α} (hl : sliceL l 0 x = some l') (hd : Nat.blt d n = true) (ht : P.underlying t = some (.slice e)) (hz : ∀ w, (sizeOf e).run P w = .ok sz w)
    (hr : RepSl sz c F p cap l) (hx : evalS S ox = some (.slice p l.length cap)) (hy : evalS S oy = some (.int kd x)) (hm : evalS S oz = some (.int kd' x))
    (k : ∀ p' c', RepSl sz c F p' c' l' → GL κ P ops rest ks Q (Hd n D ((d, .slice p' l'.length c') :: S) F hs) m r) :
    GL κ P ops (⟨some d, .slice t ox none (some oy) (some oz), ty, pos, after, none⟩ :: rest) ks Q (Hd n D S F hs) m r := by
  have h := GL.sliceHiM (f := fun _ => m) (pos := pos) (after := after) (ty := ty) hd ht hz hr hx hy hm (fun l'' p' c' hl'' hr' => by rw [hl] at hl''; cases hl''; exact k p' c' hr')
  rw [hl] at h; exact h
theorem GL.sliceLoHiK {α : Type} {n : Nat} {S : List (Nat × Value)} {hs : List HP} {ops : Array Oper} {rest : List Oper} {d : Nat} {ty t : TypeId} {pos : String} {after : Array Edge} {ox oy oz : Operand} {kd : IntKind} {x y : Int} {sz : Nat} {c : ERel α} {p : Option Addr} {cap e : Nat} {l : List α} {kd' : IntKind} {l' : List α} (hl : sliceL l x y = some l') (hd : Nat.blt d n = true) (ht : P.underlying t = some (.slice e)) (hz : ∀ w, (sizeOf e).run P w = .ok sz w)
    (hr : RepSl sz c F p cap l) (hx : evalS S ox = some (.slice p l.length cap)) (hy : evalS S oy = some (.int kd x)) (hm : evalS S oz = some (.int kd' y))
    (k : ∀ p' c', RepSl sz c F p' c' l' → GL κ P ops rest ks Q (Hd n D ((d, .slice p' l'.length c') :: S) F hs) m r) :
    GL κ P ops (⟨some d, .slice t ox (some oy) (some oz) none, ty, pos, after, none⟩ :: rest) ks Q (Hd n D S F hs) m r := by
  have h := GL.sliceLoHi (f := fun _ => m) (pos := pos) (after := after) (ty := ty) hd ht hz hr hx hy hm (fun l'' p' c' hl'' hr' => by rw [hl] at hl''; cases hl''; exact k p' c' hr')
  rw [hl] at h; exact h

theorem SH.setC {hs : List HP} {p p' : HP} {w : World} (k : Nat) (hp : p' = p) (h : SH w F (stars (hs.set k p))) : SH w F (stars (hs.set k p')) := hp ▸ h
theorem GC.freeze {cd : Code} {S : List (Nat × Value)} {hs : List HP} {b : Nat} {o : Obj} (i : Nat) (hi : hs[i]? = some (pt b o)) (k : ∀ F', F ≤ F' → F'.mem b = some o → GC κ P cd ks Q (Hd n D S F' (hs.eraseIdx i)) m r) : GC κ P cd ks Q (Hd n D S F hs) m r :=
  fun hm a w ha => by
    obtain ⟨h1, h2⟩ := SH.freezeAt hi ha.2
    exact k _ h1 (Fz.add_self ..) hm a w ⟨ha.1, h2⟩

theorem GL.sliceNil {ops : Array Oper} {rest : List Oper} {S : List (Nat × Value)} {hs : List HP} {d : Nat} {ty t e : TypeId} {pos : String} {after : Array Edge} {ox oy : Operand} {kd : IntKind} {x : Int} {sz : Nat} (hd : Nat.blt d n = true) (ht : P.underlying t = some (.slice e)) (hz : ∀ w, (sizeOf e).run P w = .ok sz w) (hx : evalS S ox = some (.slice none 0 0)) (hy : evalS S oy = some (.int kd x)) (h0 : x = 0)
    (k : GL κ P ops rest ks Q (Hd n D ((d, .slice none 0 0) :: S) F hs) m r) : GL κ P ops (⟨some d, .slice t ox none (some oy) none, ty, pos, after, none⟩ :: rest) ks Q (Hd n D S F hs) m r :=
  GL.val hd (fun a w ha => by
    subst h0
    simp only [execOp, ha.1.eval hx, ha.1.eval hy, Option.map_some, Option.map_none, Sem.run_bind]
    rw [run_slice_hi ht hz (by omega)]
    rfl) k
/-- An empty literal of a slice, which may grow. -/
theorem GL.sliceOwn0 {α : Type} {ops : Array Oper} {rest : List Oper} {S : List (Nat × Value)} {hs : List HP} {d : Nat} {ty t e : TypeId} {pos : String} {after : Array Edge} {sz : Nat} (c : ERel α) (hd : Nat.blt d n = true) (ht : P.underlying t = some (.slice e)) (hz : ∀ w, (sizeOf e).run P w = .ok sz w)
    (k : ∀ b, GL κ P ops rest ks Q (Hd n D ((d, .slice (some ⟨b, 0, none⟩) 0 0) :: S) F (ownSl sz c F e (some ⟨b, 0, none⟩) 0 [] :: hs)) m r) :
    GL κ P ops (⟨some d, .buildSlice t 0 #[], ty, pos, after, none⟩ :: rest) ks Q (Hd n D S F hs) m r :=
  GL.step rfl (.inr rfl) fun hm a w ha => by
    have h1 := ha.2.alloc (.cells #[] e)
    refine ⟨.slice (some ⟨w.heap.size, 0, none⟩) 0 0, w.alloc (.cells #[] e), ?_, k w.heap.size hm _ _ ⟨ha.1.put hd _, h1.mono fun m hm => star_mono_left (fun m' hm' => ⟨by simp, by omega, .inr ⟨_, [], rfl, hm', by simp, Parts.nil⟩⟩) hm⟩⟩
    have hr : ∀ g : Nat → Value, Array.map g (Array.range 0) = #[] := fun g => by rw [show Array.range 0 = #[] from rfl]; simp
    simp [execOp, Instr.buildSlice, Sem.run_bind, rUnd ht, hz, Result.andThen, newRow, hr, Instr.fill]

theorem cons_eq {a b : HP} {as bs : List HP} (h : a = b) (t : as = bs) : a :: as = b :: bs := by rw [h, t]
theorem GL.finQ {ops : Array Oper} {l : List Oper} {X : Env → List ValF} {C : (Nat → Bool) → Env → List HP} {L : Nat → Bool} {env : Env} {F' F2 : Fz} {i d : Nat} {v : Value} {Si : List (Nat × Value)} {x : β} {hs2 : List HP} (env' : Env) (M : List Bool) (hMl : M.length = (X env).length) (hMc : closB l i 0 M M = true) (hMe : maskL M (X env) = maskL M (X env')) {q : Fz → Prop} (hx : (X env')[i]? = some (v, q)) (le : F' ≤ F2) (hf : ∀ G, F2 ≤ G → q G)
    (hC : C (updB L i) env' = hs2) : GL κ P ops [] [] (GPost n D l X C L env F' i (some d) Si) (Hd n D ((d, v) :: Si) F2 hs2) (some x) x :=
  GL.finG env' M hMl hMc hMe hx le hf (fun _ h => hC ▸ h)

/-- A literal of a slice as a row of cells that is owned. -/
theorem GL.sliceRow {ops : Array Oper} {rest : List Oper} {S : List (Nat × Value)} {hs : List HP} {d : Nat} {ty t e : TypeId} {pos : String} {after : Array Edge} {len sz : Nat} {z : Value} {cs zc : List Value} {parts : List (Nat × Operand)} {ps : List (Nat × Value)} (hd : Nat.blt d n = true) (ht : P.underlying t = some (.slice e)) (hz : ∀ w, (sizeOf e).run P w = .ok sz w) (hzero : ∀ w, (zeroValue e).run P w = .ok z w) (h0 : Nat.blt 0 (len * sz) = true) (hbig : Nat.ble (len * sz) 16777216 = true)
    (hx : evalP S parts = some ps) (hzc : (Array.range (len * sz)).map (fun i => z.cells[i % z.cells.size]!) = zc.toArray) (hfill : Instr.fill (fun i => some (i * sz, sz)) zc.toArray ps = some cs.toArray)
    (k : ∀ b, GL κ P ops rest ks Q (Hd n D ((d, .slice (some ⟨b, 0, none⟩) len len) :: S) F (pt b (.cells cs.toArray e) :: hs)) m r) :
    GL κ P ops (⟨some d, .buildSlice t len parts.toArray, ty, pos, after, none⟩ :: rest) ks Q (Hd n D S F hs) m r :=
  GL.step rfl (.inr rfl) fun hm a w ha => by
    have hb1 : 0 < len * sz := Nat.le_of_ble_eq_true h0
    have hb2 := Nat.le_of_ble_eq_true hbig
    have h1 := ha.2.alloc (.cells cs.toArray e)
    refine ⟨.slice (some ⟨w.heap.size, 0, none⟩) len len, w.alloc (.cells cs.toArray e), ?_, k w.heap.size hm _ _ ⟨ha.1.put hd _, h1⟩⟩
    have hm' := evalP_map ha.1 hx
    have hne : ¬ len * sz = 0 := by omega
    have hgt : ¬ len * sz > 16777216 := by omega
    simp only [execOp, Instr.buildSlice, Sem.run_bind, rUnd ht, hz, Result.andThen, List.map_toArray, hm']
    simp only [Nat.reducePow, hgt, hne, if_false, Sem.run_pure, Result.andThen, Sem.run_bind, hzero, hzc, hfill, newRow, run_newObj, World.alloc_eq]
end
end Go.Dec
