/- A region that draws its order and in whose drawn part one store stands: operations that wait for it and operations that do not. No program. -/
import Derived.Test.YtbomfcghpajaiaaKalI
namespace Go.Dec
variable {κ : Option Nat}

theorem setMany_all {cs vs : List Value} (h : cs.length = vs.length) : setMany cs 0 vs = vs := by
  have h1 := setMany_take vs cs 0 (by omega)
  simp only [Nat.zero_add, List.take_zero, List.nil_append] at h1
  rwa [List.take_of_length_le (by rw [length_setMany]; omega)] at h1

/-- Each of pre stands, by some way of edges, ahead of number 'is'. -/
def preB (l : List Oper) (is : Nat) (pre : List Nat) : Bool :=
  pre.all fun j => Nat.blt j is && ((match l[is]? with | some o => o.after.toList.any (fun e => Nat.beq e.on j && Region.binds .any e) | none => false) ||
    pre.any fun k => Nat.blt j k && (match l[k]? with | some o => o.after.toList.any (fun e => Nat.beq e.on j && Region.binds .any e) | none => false))

theorem pre_of {l : List Oper} {is : Nat} {pre : List Nat} {L : Nat → Bool} (hb : preB l is pre = true) (hL : L is = true)
    (hcl : ∀ i o, l[i]? = some o → L i = true → ∀ e ∈ o.after, Region.binds .any e = true → L e.on = true) : ∀ (d j : Nat), is - j ≤ d → j ∈ pre → L j = true := by
  intro d
  induction d with
  | zero =>
    intro j hd hj
    have h := (List.all_eq_true.1 hb) j hj
    simp only [Bool.and_eq_true] at h
    have := Nat.le_of_ble_eq_true h.1
    omega
  | succ d ih =>
    intro j hd hj
    have h := (List.all_eq_true.1 hb) j hj
    simp only [Bool.and_eq_true, Bool.or_eq_true] at h
    rcases h.2 with h2 | h2
    · split at h2
      · rename_i o ho
        obtain ⟨e, he, h3⟩ := List.any_eq_true.1 h2
        simp only [Bool.and_eq_true] at h3
        have := hcl is o ho hL e (by simpa using he) h3.2
        rwa [Nat.eq_of_beq_eq_true h3.1] at this
      · cases h2
    · obtain ⟨k, hk, h3⟩ := List.any_eq_true.1 h2
      simp only [Bool.and_eq_true] at h3
      have hjk := Nat.le_of_ble_eq_true h3.1
      have hLk := ih k (by omega) hk
      have h4 := h3.2
      split at h4
      · rename_i o ho
        obtain ⟨e, he, h5⟩ := List.any_eq_true.1 h4
        simp only [Bool.and_eq_true] at h5
        have := hcl k o ho hLk e (by simpa using he) h5.2
        rwa [Nat.eq_of_beq_eq_true h5.1] at this
      · cases h4

def StPost (n : Nat) (D : List Deferred) (S : List (Nat × Value)) (F : Fz) (hs : List HP) : Exit → Act → World → Prop :=
  fun e a w => e = .normal ∧ ∃ F', F ≤ F' ∧ Hd n D S F' hs a w
theorem StPost.fin {β : Type} {P : Program} {ops : Array Oper} {n : Nat} {D : List Deferred} {S : List (Nat × Value)} {F F' : Fz} {hs : List HP} {x : β} (le : F ≤ F') : GL κ P ops [] [] (StPost n D S F hs) (Hd n D S F' hs) (some x) x := fun _ _ _ ha => ⟨rfl, F', le, ha⟩
theorem st_frame {P : Program} {ops : Array Oper} {o : Oper} {a : Act} {w : World} {n : Nat} {D : List Deferred} {S Si : List (Nat × Value)} {F : Fz} {hs : List HP} (hdst : o.dst = none) (ha : Sl n D S a)
    (h : wpL κ P ops (StPost n D Si F hs) [o] a w) : wpL κ P ops (StPost n D S F hs) [o] a w := by
  have key : ∀ u w', StPost n D Si F hs .normal (a.put o.dst u) w' → StPost n D S F hs .normal (a.put o.dst u) w' := by
    rintro u w' ⟨_, F', le, hA⟩
    rw [hdst] at hA ⊢
    exact ⟨rfl, F', le, ha, hA.2⟩
  have hno : ∀ e a w, e ≠ .normal → StPost n D Si F hs e a w → False := fun e a w hne hq => hne hq.1
  unfold wpL at h ⊢
  split
  · rename_i hw
    rw [if_pos hw] at h
    refine opW_put key (fun dd w' h => ?_) (fun e a w hne hq => (hno e a w hne hq).elim) h
    obtain ⟨_, F', le, hA⟩ := h
    have h2 := hA.1.2.1
    rw [hdst] at h2
    simp only [Act.put] at h2
    rw [ha.2.1] at h2
    exact absurd (congrArg List.length h2) (by simp)
  · rename_i hw
    rw [if_neg hw] at h
    exact key undef w h

def OpOKS (κ : Option Nat) (P : Program) (ops : Array Oper) (n : Nat) (D : List Deferred) (S0 : List (Nat × Value)) (F : Fz) (hs hs2 : List HP) (al : New) (is : Nat) (pre : List Nat) (V : List (Nat × Value)) (i : Nat) (o : Oper) : Prop :=
  match Nat.beq is i with
  | true => ∃ Si, o.dst = none ∧ (∀ S, Sub S0 S → depsOK al V S o.after.toList → Sub Si S) ∧ ∀ F' X, F ≤ F' → GL κ P ops [o] [] (StPost n D Si F' (hs2 ++ X)) (Hd n D Si F' (hs ++ X)) (some ()) ()
  | false => match pre.contains i with
    | true => OpOK κ P ops n D S0 F hs al V i o
    | false => Nat.beq al.at_ i = false ∧ ∃ d v Si, V[i]? = some (d, v) ∧ o.dst = some d ∧ Nat.blt d n = true ∧ (∀ S, Sub S0 S → depsOK al V S o.after.toList → Sub Si S) ∧ ∀ F' hs', F ≤ F' → GL κ P ops [o] [] (SegPost n D d v Si F' hs') (Hd n D Si F' hs') (some ()) ()
theorem OpOKS.store {P : Program} {ops : Array Oper} {n : Nat} {D : List Deferred} {S0 : List (Nat × Value)} {F : Fz} {hs hs2 : List HP} {al : New} {is : Nat} {pre : List Nat} {V : List (Nat × Value)} {i : Nat} {o : Oper} (Si : List (Nat × Value)) (hi : Nat.beq is i = true) (hd : o.dst = none)
    (hS : ∀ S, Sub S0 S → depsOK al V S o.after.toList → Sub Si S) (h : ∀ F' X, F ≤ F' → GL κ P ops [o] [] (StPost n D Si F' (hs2 ++ X)) (Hd n D Si F' (hs ++ X)) (some ()) ()) : OpOKS κ P ops n D S0 F hs hs2 al is pre V i o := by
  unfold OpOKS; rw [hi]; exact ⟨Si, hd, hS, h⟩
theorem OpOKS.pre {P : Program} {ops : Array Oper} {n : Nat} {D : List Deferred} {S0 : List (Nat × Value)} {F : Fz} {hs hs2 : List HP} {al : New} {is : Nat} {pre : List Nat} {V : List (Nat × Value)} {i : Nat} {o : Oper} (hi : Nat.beq is i = false) (hp : pre.contains i = true) (h : OpOK κ P ops n D S0 F hs al V i o) : OpOKS κ P ops n D S0 F hs hs2 al is pre V i o := by
  unfold OpOKS; rw [hi]; simp only [hp]; exact h
theorem OpOKS.late {P : Program} {ops : Array Oper} {n : Nat} {D : List Deferred} {S0 : List (Nat × Value)} {F : Fz} {hs hs2 : List HP} {al : New} {is : Nat} {pre : List Nat} {V : List (Nat × Value)} {i : Nat} {o : Oper} (d : Nat) (v : Value) (Si : List (Nat × Value)) (hi : Nat.beq is i = false) (hp : pre.contains i = false) (ha : Nat.beq al.at_ i = false) (hv : V[i]? = some (d, v)) (hd : o.dst = some d) (hn : Nat.blt d n = true)
    (hS : ∀ S, Sub S0 S → depsOK al V S o.after.toList → Sub Si S) (h : ∀ F' hs', F ≤ F' → GL κ P ops [o] [] (SegPost n D d v Si F' hs') (Hd n D Si F' hs') (some ()) ()) : OpOKS κ P ops n D S0 F hs hs2 al is pre V i o := by
  unfold OpOKS; rw [hi]; simp only [hp]; exact ⟨ha, d, v, Si, hv, hd, hn, hS, h⟩

def OpsOKS (κ : Option Nat) (P : Program) (ops : Array Oper) (n : Nat) (D : List Deferred) (S0 : List (Nat × Value)) (F : Fz) (hs hs2 : List HP) (al : New) (is : Nat) (pre : List Nat) (V : List (Nat × Value)) : Nat → List Oper → Prop
  | _, [] => True
  | i, o :: l => OpOKS κ P ops n D S0 F hs hs2 al is pre V i o ∧ OpsOKS κ P ops n D S0 F hs hs2 al is pre V (i + 1) l
theorem OpsOKS.cons {P : Program} {ops : Array Oper} {n : Nat} {D : List Deferred} {S0 : List (Nat × Value)} {F : Fz} {hs hs2 : List HP} {al : New} {is : Nat} {pre : List Nat} {V : List (Nat × Value)} {i : Nat} {o : Oper} {l : List Oper} (h : OpOKS κ P ops n D S0 F hs hs2 al is pre V i o) (k : OpsOKS κ P ops n D S0 F hs hs2 al is pre V (i + 1) l) : OpsOKS κ P ops n D S0 F hs hs2 al is pre V i (o :: l) := ⟨h, k⟩
theorem OpsOKS.nil {P : Program} {ops : Array Oper} {n : Nat} {D : List Deferred} {S0 : List (Nat × Value)} {F : Fz} {hs hs2 : List HP} {al : New} {is : Nat} {pre : List Nat} {V : List (Nat × Value)} {i : Nat} : OpsOKS κ P ops n D S0 F hs hs2 al is pre V i [] := trivial
theorem OpsOKS.get {P : Program} {ops : Array Oper} {n : Nat} {D : List Deferred} {S0 : List (Nat × Value)} {F : Fz} {hs hs2 : List HP} {al : New} {is : Nat} {pre : List Nat} {V : List (Nat × Value)} : ∀ {k : Nat} {l : List Oper}, OpsOKS κ P ops n D S0 F hs hs2 al is pre V k l → ∀ i o, l[i]? = some o → OpOKS κ P ops n D S0 F hs hs2 al is pre V (k + i) o
  | _, [], _, i, o, h => by simp at h
  | k, x :: l, hb, 0, o, h => by simp at h; subst h; exact hb.1
  | k, x :: l, hb, i + 1, o, h => by
    have := OpsOKS.get hb.2 i o (by simpa using h)
    rw [show k + 1 + i = k + (i + 1) by omega] at this
    exact this

section
variable {β : Type} {P : Program} {ks : List Kt} {Q : Exit → Act → World → Prop} {m : Option β} {r : β}
variable {n : Nat} {D : List Deferred} {S0 : List (Nat × Value)} {F : Fz} {hs hs2 : List HP}

theorem GC.drawS {id : Nat} {l : List Oper} (al : New) (is : Nat) (hs2 : List HP) (pre : List Nat) (V : List (Nat × Value)) (hm : P.follows .mixedOrders = true) (hord : ordB 0 l = true) (htail : tailB V.length (l.drop V.length) = true)
    (hlen : Nat.ble V.length l.length = true) (hkeys : keysB S0 V = true)
    (hpre : preB l is pre = true) (his : Nat.blt is V.length = true) {kd : Nat} (hkd : V[is]? = some (kd, undef)) (hkn : Nat.ble n kd = true) (hal0 : Nat.beq is al.at_ = false)
    (hops : OpsOKS κ P l.toArray n D S0 F hs hs2 al is pre V 0 (l.take V.length))
    (tail : ∀ F' b, F ≤ F' → GL κ P l.toArray (l.drop V.length) ks Q (Hd n D (outS al b 0 V S0) F' (hs2 ++ newH al b V.length)) m r) :
    GC κ P (.region id l.toArray true) ks Q (Hd n D S0 F hs) m r := by
  intro hmr a w ha
  have hlen' : V.length ≤ l.length := Nat.le_of_ble_eq_true hlen
  have his' : is < V.length := Nat.le_of_ble_eq_true his
  have hkn' : n ≤ kd := Nat.le_of_ble_eq_true hkn
  have hdum : ∀ {S : List (Nat × Value)} {a : Act}, Sl n D S a → Sl n D ((kd, undef) :: S) a := fun {S a} h => by
    refine ⟨h.1, h.2.1, fun i v e => ?_⟩
    simp only [lookS] at e
    cases hb : Nat.beq kd i with
    | true =>
      rw [hb] at e
      have : kd = i := Nat.eq_of_beq_eq_true hb
      subst this
      simp only [Option.some.injEq] at e
      subst e
      simp only [Array.getD_eq_getD_getElem?]
      rw [Array.getElem?_eq_none (by rw [h.1]; exact hkn')]; rfl
    | false => rw [hb] at e; exact h.2.2 i v e
  let Cl : (Nat → Bool) → Prop := fun L => ∀ i o, l[i]? = some o → L i = true → ∀ e ∈ o.after, Region.binds .any e = true → L e.on = true
  let Free : (Nat → Bool) → Act → World → Prop := fun L a w => ((∀ i, V.length ≤ i → L i = false) ∧ Cl L) ∧ ∃ F' S X, F ≤ F' ∧ Sub S0 S ∧ (∀ (i d : Nat) (v : Value), L i = true → Nat.beq al.at_ i = false → V[i]? = some (d, v) → lookS S d = some v) ∧ XOK al L S X ∧ (L al.at_ = true → ∃ v, V[al.at_]? = some (al.d, v)) ∧ Hd n D S F' ((if L is then hs2 else hs) ++ X) a w
  let Inv : (Nat → Bool) → Act → World → Prop := fun L a w => Free L a w ∨ ∃ i, V.length < i ∧ (∀ j, L j = true ↔ j < i) ∧ wpL κ P l.toArray (interp κ P ks Q) (l.drop i) a w
  have hend0 : ∀ L a w, (∀ i, i < V.length → L i = true) → Free L a w → wpL κ P l.toArray (interp κ P ks Q) (l.drop V.length) a w := by
    rintro L a w hall ⟨⟨hout, _⟩, F', S, X, le, hS, hV, hX, hal, hA⟩
    rw [if_pos (hall is his')] at hA
    have hX' : ∃ b, Sub (outS al b 0 V S0) S ∧ X = newH al b V.length := by
      by_cases hin : al.at_ < V.length
      · have hL := hall _ hin
        unfold XOK at hX
        rw [if_pos hL] at hX
        obtain ⟨b, h1, h2⟩ := hX
        obtain ⟨v0, hv0⟩ := hal hL
        refine ⟨b, sub_outS hS fun i d v e => ?_, ?_⟩
        · simp only [Nat.zero_add]
          cases hb : Nat.beq al.at_ i with
          | true =>
            have : al.at_ = i := Nat.eq_of_beq_eq_true hb
            subst this
            rw [hv0] at e
            simp only [Option.some.injEq, Prod.mk.injEq] at e
            rw [← e.1]; exact h1
          | false =>
            refine hV i d v (hall i ?_) hb e
            rcases Nat.lt_or_ge i V.length with h | h
            · exact h
            · rw [List.getElem?_eq_none h] at e; cases e
        · have : Nat.blt al.at_ V.length = true := Nat.ble_eq_true_of_le hin
          simp [newH, this, h2]
      · have hL := hout al.at_ (by omega)
        unfold XOK at hX
        rw [if_neg (by simp [hL])] at hX
        refine ⟨0, sub_outS hS fun i d v e => ?_, ?_⟩
        · have hi : i < V.length := by
            rcases Nat.lt_or_ge i V.length with h | h
            · exact h
            · rw [List.getElem?_eq_none h] at e; cases e
          simp only [Nat.zero_add]
          cases hb : Nat.beq al.at_ i with
          | true => have : al.at_ = i := Nat.eq_of_beq_eq_true hb; omega
          | false => exact hV i d v (hall i hi) hb e
        · have : Nat.blt al.at_ V.length = false := by
            cases h : Nat.blt al.at_ V.length with
            | false => rfl
            | true => exact absurd (Nat.le_of_ble_eq_true h) hin
          simp [newH, this, hX]
    obtain ⟨b, hs1, rfl⟩ := hX'
    exact tail F' b le hmr a w ⟨hA.1.sub hs1, hA.2⟩
  refine wp_region_inv hm Inv (fun i o h e he hb => by have := ordB_spec hord i o (by simpa using h) e he hb; omega) ?_ ?_ ?_
  · refine .inl ⟨⟨fun _ _ => rfl, fun i o _ h => by simp at h⟩, F, S0, [], Fz.le_refl F, Sub.refl _, fun i d v h => by simp at h, ?_, fun h => by simp at h, ha.1, ?_⟩
    · unfold XOK; simp
    · rw [if_neg (by simp), List.append_nil]; exact ha.2.drew _
  · intro L a w i o ho hLi hdeps hI
    have ho' : l[i]? = some o := by simpa using ho
    have hil : i < l.length := by
      rcases Nat.lt_or_ge i l.length with h | h
      · exact h
      · rw [List.getElem?_eq_none h] at ho'; cases ho'
    by_cases hi : i < V.length
    · -- a free operation
      rcases hI with hF | ⟨k, hk, hL, _⟩
      case inr => have := (hL i).2 (by omega); rw [hLi] at this; cases this
      obtain ⟨⟨hout, hcl⟩, F', S, X, le, hS, hV, hX, hal, hA⟩ := hF
      have hop := OpsOKS.get hops i o (by rw [List.getElem?_take]; simp [hi, ho'])
      simp only [Nat.zero_add] at hop
      have houtL : ∀ j, V.length ≤ j → updB L i j = false := fun j hj => by
        simp only [updB]; rw [if_neg (by omega)]; exact hout j hj
      have hclL : Cl (updB L i) := fun j o2 ho2 hj e he hb => by
        simp only [updB] at hj ⊢
        by_cases hji : j = i
        · subst hji
          rw [ho'] at ho2; simp only [Option.some.injEq] at ho2; subst ho2
          split
          · rfl
          · exact hdeps e he hb
        · rw [if_neg hji] at hj
          split
          · rfl
          · exact hcl j o2 ho2 hj e he hb
      have hdepsOK : depsOK al V S o.after.toList := depsOK_mk fun e he hbi hbn d v hv => hV e.on d v (hdeps e (by simpa using he) hbi) hbn hv
      have hVpush : ∀ (d : Nat) (v : Value), V[i]? = some (d, v) → Nat.beq al.at_ i = false → ∀ (j d' : Nat) (v' : Value), updB L i j = true → Nat.beq al.at_ j = false → V[j]? = some (d', v') → lookS ((d, v) :: S) d' = some v' := fun d v hv hb j d' v' hj hbj e => by
        by_cases hji : j = i
        · subst hji
          rw [hv] at e; simp only [Option.some.injEq, Prod.mk.injEq] at e
          obtain ⟨rfl, rfl⟩ := e
          exact look_self
        · have hne : d ≠ d' := fun h => by subst h; exact hji (keysB_inj hkeys j i _ _ _ e hv)
          exact look_push hne (hV j d' v' (by simpa [updB, hji] using hj) hbj e)
      have hXpush : ∀ (d : Nat) (v : Value), V[i]? = some (d, v) → Nat.beq al.at_ i = false → XOK al (updB L i) ((d, v) :: S) X := fun d v hv hb => by
        have hai : al.at_ ≠ i := fun h => by subst h; simp at hb
        unfold XOK at hX ⊢
        have hu : updB L i al.at_ = L al.at_ := by simp [updB, hai]
        rw [hu]
        split
        · rename_i hL
          rw [if_pos hL] at hX
          obtain ⟨b, hb1, hb2⟩ := hX
          obtain ⟨v0, hv0⟩ := hal hL
          have hne : d ≠ al.d := fun h => by subst h; exact hai (keysB_inj hkeys _ _ _ _ _ hv0 hv)
          exact ⟨b, look_push hne hb1, hb2⟩
        · rename_i hL
          rw [if_neg hL] at hX; exact hX
      have halL : Nat.beq al.at_ i = false → updB L i al.at_ = true → ∃ v, V[al.at_]? = some (al.d, v) := fun hb hL => by
        have hai : al.at_ ≠ i := fun h => by subst h; simp at hb
        exact hal (by simpa [updB, hai] using hL)
      unfold OpOKS at hop
      cases hisi : Nat.beq is i with
      | true =>
        have hii : is = i := Nat.eq_of_beq_eq_true hisi
        rw [hisi] at hop
        obtain ⟨Si, hdst, hSi, hstep⟩ := hop
        have hLis : L is = false := by rw [hii]; exact hLi
        rw [if_neg (by simp [hLis])] at hA
        have hb : Nat.beq al.at_ i = false := by
          cases h : Nat.beq al.at_ i with
          | false => rfl
          | true =>
            have : al.at_ = i := Nat.eq_of_beq_eq_true h
            rw [this, ← hii] at hal0; simp at hal0
        have hkd' : V[i]? = some (kd, undef) := hii ▸ hkd
        have hsub := hSi S hS hdepsOK
        have h1 := st_frame hdst hA.1 (hstep F' X le rfl a w ⟨hA.1.sub hsub, hA.2⟩)
        refine wp_of_seg (fun e a w hne hq => absurd hq.1 hne) (fun a' w' hq => ?_) h1
        obtain ⟨_, F'', le', hA'⟩ := hq
        refine .inl ⟨⟨houtL, hclL⟩, F'', (kd, undef) :: S, X, Fz.le_trans le le', sub_push hS (keysB_fresh hkeys i kd undef hkd') _, hVpush _ _ hkd' hb, hXpush _ _ hkd' hb, halL hb, ?_⟩
        rw [if_pos (by simp [updB, hii])]
        exact ⟨hdum hA'.1, hA'.2⟩
      | false =>
        rw [hisi] at hop
        have hne : is ≠ i := fun h => by subst h; simp at hisi
        have hLis : updB L i is = L is := by simp [updB, hne]
        cases hpi : pre.contains i with
        | true =>
          simp only [hpi] at hop
          have hLf : L is = false := by
            cases h : L is with
            | false => rfl
            | true =>
              have := pre_of hpre h hcl (is - i) i (Nat.le_refl _) (by simpa using hpi)
              rw [hLi] at this; cases this
          rw [if_neg (by simp [hLf])] at hA
          cases hb : Nat.beq al.at_ i with
          | true =>
            have hai : al.at_ = i := Nat.eq_of_beq_eq_true hb
            unfold OpOK at hop
            rw [hb] at hop
            obtain ⟨ty, pos, after, z, rfl, hd, hz, hc, v0, hv0⟩ := hop
            rw [if_pos (by simp [Region.wanted])]
            refine ⟨.inr rfl, ?_⟩
            have hrun : (execOp a.eval ⟨some al.d, .alloc al.T, ty, pos, after, none⟩).run P w = .ok (.value (.pointer (some ⟨w.heap.size, 0, none⟩))) (w.alloc (.cells al.cs.toArray al.T)) := by
              simp [execOp, Instr.alloc, hz, newVar, newRow, hc]
            rw [hrun]
            have hL0 : L al.at_ = false := by rw [hai]; exact hLi
            unfold XOK at hX
            rw [if_neg (by simp [hL0])] at hX
            subst hX
            refine .inl ⟨⟨houtL, hclL⟩, F', (al.d, .pointer (some ⟨w.heap.size, 0, none⟩)) :: S, [pt w.heap.size (.cells al.cs.toArray al.T)], le, sub_push hS (keysB_fresh hkeys i al.d v0 hv0) _, ?_, ?_, ?_, hA.1.put hd _, ?_⟩
            · intro j d v hj hbj e
              have hji : j ≠ i := fun h => by subst h; rw [hb] at hbj; cases hbj
              have hne : al.d ≠ d := fun h => by subst h; exact hji (keysB_inj hkeys j i _ _ _ e hv0)
              refine look_push hne (hV j d v ?_ hbj e)
              simpa [updB, hji] using hj
            · unfold XOK
              rw [if_pos (by simp [updB, hai])]
              exact ⟨_, look_self, rfl⟩
            · intro _; rw [hai]; exact ⟨v0, hv0⟩
            · rw [hLis, if_neg (by simp [hLf])]
              have h2 := (hA.2.alloc (.cells al.cs.toArray al.T))
              refine h2.mono fun m' hm' => ?_
              simp only [List.append_nil] at hm'
              exact GC.draw.stars_append_one (hs := hs) hm'
          | false =>
            unfold OpOK at hop
            rw [hb] at hop
            obtain ⟨d, v, Si, hv, hdst, hn, hSi, hstep⟩ := hop
            have hsub := hSi S hS hdepsOK
            have h1 := seg_frame hdst hn hA.1 (hstep F' X le rfl a w ⟨hA.1.sub hsub, hA.2⟩)
            refine wp_of_seg (fun e a w hne hq => absurd hq.1 hne) (fun a' w' hq => ?_) h1
            obtain ⟨_, F'', le', hA'⟩ := hq
            refine .inl ⟨⟨houtL, hclL⟩, F'', (d, v) :: S, X, Fz.le_trans le le', sub_push hS (keysB_fresh hkeys i d v hv) _, hVpush d v hv hb, hXpush d v hv hb, halL hb, ?_⟩
            rw [hLis, if_neg (by simp [hLf])]; exact hA'
        | false =>
          simp only [hpi] at hop
          obtain ⟨hb, d, v, Si, hv, hdst, hn, hSi, hstep⟩ := hop
          have hsub := hSi S hS hdepsOK
          have h1 := seg_frame hdst hn hA.1 (hstep F' _ le rfl a w ⟨hA.1.sub hsub, hA.2⟩)
          refine wp_of_seg (fun e a w hne hq => absurd hq.1 hne) (fun a' w' hq => ?_) h1
          obtain ⟨_, F'', le', hA'⟩ := hq
          refine .inl ⟨⟨houtL, hclL⟩, F'', (d, v) :: S, X, Fz.le_trans le le', sub_push hS (keysB_fresh hkeys i d v hv) _, hVpush d v hv hb, hXpush d v hv hb, halL hb, ?_⟩
          rw [hLis]; exact hA'
    · -- the tail
      have hts := tailB_spec htail (i - V.length) o (by rw [List.getElem?_drop]; rw [show V.length + (i - V.length) = i by omega]; exact ho')
      have hall : ∀ j, j < i → L j = true := fun j hj => by
        obtain ⟨e, he, h1, h2⟩ := hts j (by omega)
        rw [← h1]; exact hdeps e he h2
      have hw : wpL κ P l.toArray (interp κ P ks Q) (l.drop i) a w := by
        rcases hI with hF | ⟨k, hk, hL, hwp⟩
        · have hiV : i = V.length := by
            rcases Nat.lt_or_ge V.length i with h | h
            · have := hall V.length h; rw [hF.1.1 _ (Nat.le_refl _)] at this; cases this
            · omega
          subst hiV
          exact hend0 L a w hall hF
        · have : k = i := by
            have h1 : ¬ i < k := fun h => by have := (hL i).2 h; rw [hLi] at this; cases this
            have h2 : ¬ k < i := fun h => by have := (hL k).1 (hall k h); omega
            omega
          subst this; exact hwp
      have hdrop : l.drop i = o :: l.drop (i + 1) := by
        have hg : l[i]'hil = o := by simpa [hil] using ho'
        rw [← hg]; exact List.drop_eq_getElem_cons hil
      rw [hdrop] at hw
      have hnext : ∀ a' w', wpL κ P l.toArray (interp κ P ks Q) (l.drop (i + 1)) a' w' → Inv (updB L i) a' w' := fun a' w' h =>
        .inr ⟨i + 1, by omega, fun j => by
          simp only [updB]
          by_cases hj : j = i
          · simp [hj]
          · simp only [hj, if_false]
            constructor
            · intro hLj
              have : j < i := by
                rcases Nat.lt_or_ge j i with h | h
                · exact h
                · rcases hI with hF | ⟨k, hk, hL, _⟩
                  · rw [hF.1.1 j (by omega)] at hLj; cases hLj
                  · have h1 := (hL j).1 hLj
                    have := (hL i).2 (by omega); rw [hLi] at this; cases this
              omega
            · intro hj'; exact hall j (by omega), h⟩
      unfold wpL at hw
      split
      · rename_i hwn
        rw [if_pos hwn] at hw
        exact opW_mono hnext hw
      · rename_i hwn
        rw [if_neg hwn] at hw
        exact hnext _ _ hw
  · intro L a w hall hI
    have hw : wpL κ P l.toArray (interp κ P ks Q) (l.drop l.length) a w := by
      rcases hI with hF | ⟨k, hk, hL, hwp⟩
      · have hVl : V.length = l.length := by
          rcases Nat.lt_or_ge V.length l.length with h | h
          · have := hall V.length (by simpa using h); rw [hF.1.1 _ (Nat.le_refl _)] at this; cases this
          · omega
        have := hend0 L a w (fun i hi => hall i (by simp; omega)) hF
        rwa [hVl] at this
      · have : l.length ≤ k := by
          rcases Nat.lt_or_ge k l.length with h | h
          · have := (hL k).1 (hall k (by simpa using h)); omega
          · exact h
        rw [List.drop_eq_nil_of_le this] at hwp
        rw [List.drop_eq_nil_of_le (Nat.le_refl _)]; exact hwp
    rw [List.drop_eq_nil_of_le (Nat.le_refl _)] at hw
    exact hw
end
end Go.Dec
