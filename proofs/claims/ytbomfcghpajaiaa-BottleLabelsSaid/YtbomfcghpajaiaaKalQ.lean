/- Plain lemmas about the printed models: what a bounded run says, the unbounded one says; numbers; loops. No program. -/
import Derived.Test.YtbomfcghpajaiaaKalP
namespace Go.Dec

/-! ### What a bounded run says -/
structure OLe {α : Type} (x y : Option α) : Prop where
  out : ∀ r, x = some r → y = some r
theorem OLe.refl {α : Type} (x : Option α) : OLe x x := ⟨fun _ h => h⟩
theorem OLe.bind {α β : Type} {x y : Option α} {f g : α → Option β} (h : OLe x y) (k : ∀ a, OLe (f a) (g a)) : OLe (x.bind f) (y.bind g) := by
  constructor
  intro r hr
  cases x with
  | none => simp at hr
  | some a => rw [h.out a rfl]; exact (k a).out r hr
theorem OLe.bindv {α β : Type} {x : α} {f g : α → Option β} (k : ∀ a, OLe (f a) (g a)) : OLe (Dec.bindv x f) (Dec.bindv x g) := k x
theorem OLe.ite {α : Type} {c : Prop} [Decidable c] {a a' b b' : Option α} (h : OLe a a') (k : OLe b b') : OLe (if c then a else b) (if c then a' else b') := by
  split
  · exact h
  · exact k
theorem loopN_le {σ β : Type} {f g : σ → Option (Ctl σ β)} (h : ∀ s, OLe (f s) (g s)) : ∀ (n : Nat) (s : σ), OLe (loopN f n s) (loopN g n s)
  | 0, _ => OLe.refl _
  | n + 1, s => by
    constructor
    intro r hr
    simp only [loopN] at hr ⊢
    cases hf : f s with
    | none => rw [hf] at hr; cases hr
    | some c =>
      rw [hf] at hr
      rw [(h s).out c hf]
      cases c with
      | done b => exact hr
      | next s' => exact (loopN_le h n s').out r hr
theorem OLe.loop {σ β : Type} {f g : σ → Option (Ctl σ β)} {n : Nat} {s : σ} (h : ∀ s, OLe (f s) (g s)) : OLe (loopN f n s) (loopM g s) :=
  ⟨fun r hr => loopM_of_N ((loopN_le h n s).out r hr)⟩

/-! ### Numbers -/
theorem w64_id {n : Int} (h1 : -9223372036854775808 ≤ n) (h2 : n ≤ 9223372036854775807) : w64 n = n := by
  have e : IntKind.i64.bits = 64 := rfl
  simp only [w64, IntKind.wrap, e]
  simp [IntKind.signed]
  omega
theorem idxL_nat {α : Type} (l : List α) (i : Nat) : idxL l (i : Int) = l[i]? := by
  simp [idxL]
theorem idxL_lt {α : Type} {l : List α} {i : Int} (h0 : 0 ≤ i) (h : i < l.length) : ∃ x, idxL l i = some x ∧ l[i.toNat]? = some x := by
  obtain ⟨k, rfl⟩ := Int.eq_ofNat_of_zero_le h0
  rw [idxL_nat]
  have hk : k < l.length := by omega
  exact ⟨l[k], List.getElem?_eq_getElem hk, by simp [hk]⟩
theorem idxO_nat {n i : Nat} (h : i < n) : idxO n (i : Int) = some i := by
  unfold idxO; rw [if_pos (by omega)]; simp
theorem quoK_pos {x y : Int} (h : 0 < y) (h1 : 0 ≤ x) (h2 : x ≤ 9223372036854775807) : quoK .i64 x y = some (x / y) := by
  unfold quoK
  rw [if_neg (by omega), Int.tdiv_eq_ediv_of_nonneg h1]
  have a := Int.ediv_nonneg h1 (Int.le_of_lt h)
  have b := Int.ediv_le_self y h1
  rw [show IntKind.i64.wrap (x / y) = w64 (x / y) from rfl, w64_id (by omega) (by omega)]

theorem wf_u8 {n : Int} (h : (Lit.int .u8 n).wf = true) : 0 ≤ n ∧ n ≤ 255 := by
  have h1 : IntKind.min .u8 = 0 := by decide
  have h2 : IntKind.max .u8 = 255 := by decide
  simp only [Lit.wf, Bool.and_eq_true, decide_eq_true_eq, h1, h2] at h
  exact h
theorem wf_u16 {n : Int} (h : (Lit.int .u16 n).wf = true) : 0 ≤ n ∧ n ≤ 65535 := by
  have h1 : IntKind.min .u16 = 0 := by decide
  have h2 : IntKind.max .u16 = 65535 := by decide
  simp only [Lit.wf, Bool.and_eq_true, decide_eq_true_eq, h1, h2] at h
  exact h
theorem wf_u32 {n : Int} (h : (Lit.int .u32 n).wf = true) : 0 ≤ n ∧ n ≤ 4294967295 := by
  have h1 : IntKind.min .u32 = 0 := by decide
  have h2 : IntKind.max .u32 = 4294967295 := by decide
  simp only [Lit.wf, Bool.and_eq_true, decide_eq_true_eq, h1, h2] at h
  exact h
theorem wf_u64 {n : Int} (h : (Lit.int .u64 n).wf = true) : 0 ≤ n ∧ n ≤ 18446744073709551615 := by
  have h1 : IntKind.min .u64 = 0 := by decide
  have h2 : IntKind.max .u64 = 18446744073709551615 := by decide
  simp only [Lit.wf, Bool.and_eq_true, decide_eq_true_eq, h1, h2] at h
  exact h
theorem wf_i8 {n : Int} (h : (Lit.int .i8 n).wf = true) : -128 ≤ n ∧ n ≤ 127 := by
  have h1 : IntKind.min .i8 = -128 := by decide
  have h2 : IntKind.max .i8 = 127 := by decide
  simp only [Lit.wf, Bool.and_eq_true, decide_eq_true_eq, h1, h2] at h
  exact h
theorem wf_i64 {n : Int} (h : (Lit.int .i64 n).wf = true) : -9223372036854775808 ≤ n ∧ n ≤ 9223372036854775807 := by
  have h1 : IntKind.min .i64 = -9223372036854775808 := by decide
  have h2 : IntKind.max .i64 = 9223372036854775807 := by decide
  simp only [Lit.wf, Bool.and_eq_true, decide_eq_true_eq, h1, h2] at h
  exact h

/-! ### Loops over a list -/
def goL {α τ β : Type} (step : τ → Nat → α → Option (Ctl τ β)) (fin : τ → β) : List α → Nat → τ → Option β
  | [], _, t => some (fin t)
  | x :: l, i, t => match step t i x with
    | none => none
    | some (.next t') => goL step fin l (i + 1) t'
    | some (.done b) => some b
def Ctl.mapN {σ τ β : Type} (f : τ → σ) : Ctl τ β → Ctl σ β
  | .next t => .next (f t)
  | .done b => .done b
theorem loop_list_at {α σ τ β : Type} {body : σ → Option (Ctl σ β)} (mk : τ → Nat → σ) (step : τ → Nat → α → Option (Ctl τ β)) (fin : τ → β) (l : List α)
    (hb : ∀ t (i : Nat) x, l[i]? = some x → body (mk t i) = (step t i x).map (Ctl.mapN fun t' => mk t' (i + 1)))
    (he : ∀ t, body (mk t l.length) = some (.done (fin t))) : ∀ (k i : Nat) (t : τ), i + k = l.length → loopM body (mk t i) = goL step fin (l.drop i) i t
  | 0, i, t, hi => by
    have : i = l.length := by omega
    subst this
    rw [loopM_eq, he, List.drop_length]; rfl
  | k + 1, i, t, hi => by
    have hlt : i < l.length := by omega
    have hx : l[i]? = some l[i] := List.getElem?_eq_getElem hlt
    rw [loopM_eq, hb t i _ hx, List.drop_eq_getElem_cons hlt]
    simp only [goL]
    cases hs : step t i l[i] with
    | none => rfl
    | some c =>
      cases c with
      | done b => rfl
      | next t' => exact loop_list_at mk step fin l hb he k (i + 1) t' (by omega)
theorem loop_list {α σ τ β : Type} {body : σ → Option (Ctl σ β)} (mk : τ → Nat → σ) (step : τ → Nat → α → Option (Ctl τ β)) (fin : τ → β) (l : List α)
    (hb : ∀ t (i : Nat) x, l[i]? = some x → body (mk t i) = (step t i x).map (Ctl.mapN fun t' => mk t' (i + 1)))
    (he : ∀ t, body (mk t l.length) = some (.done (fin t))) (t : τ) : loopM body (mk t 0) = goL step fin l 0 t :=
  loop_list_at mk step fin l hb he l.length 0 t (by omega)
/-- The same, where the state keeps something. -/
theorem loop_list_inv {α σ τ β : Type} {body : σ → Option (Ctl σ β)} (mk : τ → Nat → σ) (step : τ → Nat → α → Option (Ctl τ β)) (fin : τ → β) (l : List α) (J : Nat → τ → Prop)
    (hb : ∀ t (i : Nat) x, l[i]? = some x → J i t → body (mk t i) = (step t i x).map (Ctl.mapN fun t' => mk t' (i + 1)))
    (hJ : ∀ t (i : Nat) x t', l[i]? = some x → J i t → step t i x = some (.next t') → J (i + 1) t')
    (he : ∀ t, J l.length t → body (mk t l.length) = some (.done (fin t))) : ∀ (k i : Nat) (t : τ), i + k = l.length → J i t → loopM body (mk t i) = goL step fin (l.drop i) i t
  | 0, i, t, hi, hj => by
    have : i = l.length := by omega
    subst this
    rw [loopM_eq, he t hj, List.drop_length]; rfl
  | k + 1, i, t, hi, hj => by
    have hlt : i < l.length := by omega
    have hx : l[i]? = some l[i] := List.getElem?_eq_getElem hlt
    rw [loopM_eq, hb t i _ hx hj, List.drop_eq_getElem_cons hlt]
    simp only [goL]
    cases hs : step t i l[i] with
    | none => rfl
    | some c =>
      cases c with
      | done b => rfl
      | next t' => exact loop_list_inv mk step fin l J hb hJ he k (i + 1) t' (by omega) (hJ t i _ t' hx hj hs)

/-! ### A list of events: the first that is refused ends it -/
def AllOk {α : Type} (err : List α → α → Int) (l : List α) : Prop := ∀ pre x post, l = pre ++ x :: post → err pre x = 0
def FirstBad {α : Type} (err : List α → α → Int) (l pre : List α) (x : α) : Prop := ∃ post, l = pre ++ x :: post ∧ AllOk err pre ∧ err pre x ≠ 0
theorem AllOk.nil {α : Type} {err : List α → α → Int} : AllOk err [] := fun pre x post h => by simp at h
theorem AllOk.snoc {α : Type} {err : List α → α → Int} {l : List α} {x : α} (h : AllOk err l) (hx : err l x = 0) : AllOk err (l ++ [x]) := by
  intro pre y post e
  rcases List.eq_nil_or_concat post with rfl | ⟨post', z, rfl⟩
  · have := List.append_inj' e rfl
    obtain ⟨rfl, e2⟩ := this
    simp only [List.cons.injEq, and_true] at e2
    subst e2; exact hx
  · rw [List.concat_eq_append, ← List.cons_append, ← List.append_assoc] at e
    have := List.append_inj' e rfl
    exact h pre y post' this.1
theorem AllOk.init {α : Type} {err : List α → α → Int} {l k : List α} (h : AllOk err (l ++ k)) : AllOk err l := fun pre x post e => h pre x (post ++ k) (by rw [e]; simp)
theorem FirstBad.not_ok {α : Type} {err : List α → α → Int} {l pre : List α} {x : α} (h : FirstBad err l pre x) : ¬ AllOk err l := fun k => by
  obtain ⟨post, e, _, hx⟩ := h
  exact hx (k pre x post e)
theorem FirstBad.unique {α : Type} {err : List α → α → Int} {l pre pre' : List α} {x x' : α} (h : FirstBad err l pre x) (k : FirstBad err l pre' x') : pre = pre' ∧ x = x' := by
  obtain ⟨post, e, ho, hx⟩ := h
  obtain ⟨post', e', ho', hx'⟩ := k
  rw [e] at e'
  rcases List.append_eq_append_iff.1 e' with ⟨c, h1, h2⟩ | ⟨c, h1, h2⟩
  · cases c with
    | nil => simp at h1 h2; exact ⟨h1.symm, h2.1⟩
    | cons y c =>
      simp only [List.cons_append, List.cons.injEq] at h2
      obtain ⟨rfl, _⟩ := h2
      exact absurd (ho' pre x c h1) hx
  · cases c with
    | nil => simp at h1 h2; exact ⟨h1, h2.1.symm⟩
    | cons y c =>
      simp only [List.cons_append, List.cons.injEq] at h2
      obtain ⟨rfl, _⟩ := h2
      exact absurd (ho pre' x' c h1) hx'
theorem goL_ledger {α τ β : Type} {step : τ → Nat → α → Option (Ctl τ β)} {fin : τ → β} (err : List α → α → Int) (bad : Nat → Int → β) (R : List α → τ → Prop) (l : List α)
    (h : ∀ pre x post t, l = pre ++ x :: post → AllOk err pre → R pre t → (err pre x ≠ 0 ∧ step t pre.length x = some (.done (bad pre.length (err pre x)))) ∨ (err pre x = 0 ∧ ∃ t', step t pre.length x = some (.next t') ∧ R (pre ++ [x]) t')) :
    ∀ (post pre : List α) (t : τ), l = pre ++ post → AllOk err pre → R pre t →
    (∃ p x, FirstBad err l p x ∧ goL step fin post pre.length t = some (bad p.length (err p x))) ∨ (AllOk err l ∧ ∃ t', R l t' ∧ goL step fin post pre.length t = some (fin t'))
  | [], pre, t, hl, ho, hr => by
    rw [List.append_nil] at hl; subst hl
    exact .inr ⟨ho, t, hr, rfl⟩
  | x :: post, pre, t, hl, ho, hr => by
    rcases h pre x post t hl ho hr with ⟨he, hs⟩ | ⟨he, t', hs, hr'⟩
    · exact .inl ⟨pre, x, ⟨post, hl, ho, he⟩, by simp only [goL, hs]⟩
    · have := goL_ledger (fin := fin) err bad R l h post (pre ++ [x]) t' (by rw [hl]; simp) (ho.snoc he) hr'
      simp only [goL, hs]
      simpa using this

theorem loopM_ledger {α σ τ β : Type} {body : σ → Option (Ctl σ β)} (mk : Nat → τ → σ) (err : List α → α → Int) (bad : Nat → Int → β) (fin : τ → β) (R : List α → τ → Prop) (l : List α)
    (h : ∀ pre x post t, l = pre ++ x :: post → AllOk err pre → R pre t → (err pre x ≠ 0 ∧ body (mk pre.length t) = some (.done (bad pre.length (err pre x)))) ∨ (err pre x = 0 ∧ ∃ t', body (mk pre.length t) = some (.next (mk (pre.length + 1) t')) ∧ R (pre ++ [x]) t'))
    (hend : ∀ t, AllOk err l → R l t → body (mk l.length t) = some (.done (fin t))) :
    ∀ (post pre : List α) (t : τ), l = pre ++ post → AllOk err pre → R pre t →
    (∃ p x, FirstBad err l p x ∧ loopM body (mk pre.length t) = some (bad p.length (err p x))) ∨ (AllOk err l ∧ ∃ t', R l t' ∧ loopM body (mk pre.length t) = some (fin t'))
  | [], pre, t, hl, ho, hr => by
    rw [List.append_nil] at hl; subst hl
    exact .inr ⟨ho, t, hr, by rw [loopM_eq, hend t ho hr]⟩
  | x :: post, pre, t, hl, ho, hr => by
    rcases h pre x post t hl ho hr with ⟨he, hs⟩ | ⟨he, t', hs, hr'⟩
    · exact .inl ⟨pre, x, ⟨post, hl, ho, he⟩, by rw [loopM_eq, hs]⟩
    · have := loopM_ledger mk err bad fin R l h hend post (pre ++ [x]) t' (by rw [hl]; simp) (ho.snoc he) hr'
      rw [loopM_eq, hs]
      simpa using this
/-- A loop over a list, by what holds of what was done. -/
theorem loopM_pre {α σ τ β : Type} {body : σ → Option (Ctl σ β)} (mk : Nat → τ → σ) (fin : τ → β) (R : List α → τ → Prop) (l : List α)
    (h : ∀ pre x post t, l = pre ++ x :: post → R pre t → ∃ t', body (mk pre.length t) = some (.next (mk (pre.length + 1) t')) ∧ R (pre ++ [x]) t')
    (hend : ∀ t, R l t → body (mk l.length t) = some (.done (fin t))) :
    ∀ (post pre : List α) (t : τ), l = pre ++ post → R pre t → ∃ t', R l t' ∧ loopM body (mk pre.length t) = some (fin t')
  | [], pre, t, hl, hr => by
    rw [List.append_nil] at hl; subst hl
    exact ⟨t, hr, by rw [loopM_eq, hend t hr]⟩
  | x :: post, pre, t, hl, hr => by
    obtain ⟨t', hs, hr'⟩ := h pre x post t hl hr
    have := loopM_pre mk fin R l h hend post (pre ++ [x]) t' (by rw [hl]; simp) hr'
    rw [loopM_eq, hs]
    simpa using this
/-- A loop whose counter goes up to n. -/
theorem loopM_upto {σ τ β : Type} {body : σ → Option (Ctl σ β)} (mk : Nat → τ → σ) (fin : τ → β) (R : Nat → τ → Prop) (n : Nat)
    (h : ∀ i t, i < n → R i t → ∃ t', body (mk i t) = some (.next (mk (i + 1) t')) ∧ R (i + 1) t')
    (hend : ∀ t, R n t → body (mk n t) = some (.done (fin t))) : ∀ (k i : Nat) (t : τ), i + k = n → R i t → ∃ t', R n t' ∧ loopM body (mk i t) = some (fin t')
  | 0, i, t, e, hr => by
    have : i = n := by omega
    subst this
    exact ⟨t, hr, by rw [loopM_eq, hend t hr]⟩
  | k + 1, i, t, e, hr => by
    obtain ⟨t', hs, hr'⟩ := h i t (by omega) hr
    rw [loopM_eq, hs]
    exact loopM_upto mk fin R n h hend k (i + 1) t' (by omega) hr'
theorem bind_of {α β : Type} {e : Option α} {f : α → Option β} {a : α} {r : Option β} (h : e = some a) (k : f a = r) : e.bind f = r := by
  rw [h]; exact k
theorem appO_some' {α : Type} {l k : List α} (h : l.length + k.length ≤ 4294967296) : appO l k = some (l ++ k) := by
  unfold appO; rw [if_pos h]
theorem getEl_mid {α : Type} {l pre post : List α} {x : α} (h : l = pre ++ x :: post) : l[pre.length]? = some x := by rw [h]; simp
theorem lt_mid {α : Type} {l pre post : List α} {x : α} (h : l = pre ++ x :: post) : pre.length < l.length := by rw [h]; simp
theorem take_mid {α : Type} {l pre post : List α} {x : α} (h : l = pre ++ x :: post) : l.take pre.length = pre := by rw [h]; simp

theorem snoc_ind {α : Type} {p : List α → Prop} (h0 : p []) (hs : ∀ l x, p l → p (l ++ [x])) (l : List α) : p l := by
  have : ∀ r : List α, p r.reverse := by
    intro r
    induction r with
    | nil => exact h0
    | cons x r ih => rw [List.reverse_cons]; exact hs _ _ ih
  have := this l.reverse
  rwa [List.reverse_reverse] at this

theorem goL_any {α β : Type} (bad : α → Bool) (r b : β) : ∀ (l : List α) (i : Nat), goL (fun (_ : Unit) _ a => if bad a then some (.done r) else some (.next ())) (fun _ => b) l i () = some (if l.any bad then r else b)
  | [], i => by simp [goL]
  | x :: l, i => by
    cases h : bad x with
    | true => simp [goL, h]
    | false =>
      simp only [goL, h, Bool.false_eq_true, if_false, List.any_cons, Bool.false_or]
      exact goL_any bad r b l (i + 1)
theorem exists_max {n : Int} : ∀ {l : List Int}, (∃ a ∈ l, a ≤ n) → ∃ a ∈ l, a ≤ n ∧ ∀ b ∈ l, b ≤ n → b ≤ a
  | [], h => by obtain ⟨a, h, _⟩ := h; cases h
  | x :: l, h => by
    by_cases hx : ∃ a ∈ l, a ≤ n
    · obtain ⟨a, ha, han, hm⟩ := exists_max hx
      by_cases hxa : x ≤ n ∧ a < x
      · refine ⟨x, by simp, hxa.1, fun b hb hbn => ?_⟩
        rcases List.mem_cons.1 hb with rfl | hb
        · omega
        · have := hm b hb hbn; omega
      · refine ⟨a, by simp [ha], han, fun b hb hbn => ?_⟩
        rcases List.mem_cons.1 hb with rfl | hb
        · omega
        · exact hm b hb hbn
    · obtain ⟨a, ha, han⟩ := h
      rcases List.mem_cons.1 ha with rfl | ha
      · refine ⟨a, by simp, han, fun b hb hbn => ?_⟩
        rcases List.mem_cons.1 hb with rfl | hb
        · omega
        · exact absurd ⟨b, hb, hbn⟩ hx
      · exact absurd ⟨a, ha, han⟩ hx

/-- A loop by an invariant and a measure. -/
theorem loop_inv {σ β : Type} {body : σ → Option (Ctl σ β)} (I : σ → Prop) (μ : σ → Nat) (Q : β → Prop)
    (h : ∀ s, I s → (∃ s', body s = some (.next s') ∧ I s' ∧ μ s' < μ s) ∨ ∃ b, body s = some (.done b) ∧ Q b) : ∀ (n : Nat) (s : σ), μ s ≤ n → I s → ∃ b, loopM body s = some b ∧ Q b
  | 0, s, hn, hi => by
    rcases h s hi with ⟨s', _, _, hlt⟩ | ⟨b, hb, hq⟩
    · omega
    · exact ⟨b, by rw [loopM_eq, hb], hq⟩
  | n + 1, s, hn, hi => by
    rcases h s hi with ⟨s', hb, hi', hlt⟩ | ⟨b, hb, hq⟩
    · rw [loopM_eq, hb]; exact loop_inv I μ Q h n s' (by omega) hi'
    · exact ⟨b, by rw [loopM_eq, hb], hq⟩

end Go.Dec
