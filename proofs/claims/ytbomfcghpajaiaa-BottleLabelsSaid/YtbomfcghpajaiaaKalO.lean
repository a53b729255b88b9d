/- What an argument of a row reads as, said by models; the frame of a law. -/
import Derived.Test.YtbomfcghpajaiaaKalN
import Derived.ProofKit
import Derived.OpenShut
import Derived.ChangeArms
namespace Go.Dec

def FW (W : World) : Fz := ⟨fun b => W.heap[b]?, W.os, W.tape, W.output⟩
theorem SH.start (W : World) : SH W (FW W) emp :=
  ⟨fun _ => none, trivial, ⟨fun _ => .inl rfl, fun _ _ e => by simp at e, fun _ _ e => e, rfl, rfl, rfl⟩⟩

/-- What is trod of a type reads as a model. -/
def Viewed {α H : Type} (enc : TypeId × Value → H) (P : Program) (W : World) (t : TypeId) (c : ERel α) (ok : α → Prop) : Prop :=
  ∀ sp held fuel cs x, DataW.trod enc P W 0 sp held fuel t cs = some x → ∃ m, ok m ∧ ∀ F', FW W ≤ F' → c F' m cs
section
variable {H : Type} {enc : TypeId × Value → H} {P : Program} {W : World}
theorem Viewed.int {t : TypeId} {k : IntKind} (ht : P.underlying t = some (.int k)) : Viewed enc P W t (Ex (cInt k)) (fun m => (Lit.int k m).wf = true) := by
  intro sp held fuel cs x h
  cases fuel with
  | zero => simp [DataW.trod] at h
  | succ n =>
    unfold DataW.trod at h
    rw [ht] at h
    split at h <;> simp_all [Ex, cInt]
    exact ⟨_, h.1.2, fun _ _ => rfl⟩
theorem Viewed.bool {t : TypeId} (ht : P.underlying t = some .bool) : Viewed enc P W t (Ex cBool) (fun _ => True) := by
  intro sp held fuel cs x h
  cases fuel with
  | zero => simp [DataW.trod] at h
  | succ n =>
    unfold DataW.trod at h
    rw [ht] at h
    split at h <;> simp_all only [Ex, cBool, reduceCtorEq, Option.some.injEq]
    exact ⟨_, trivial, fun _ _ => rfl⟩
theorem mapM_get {α β : Type} {f : α → Option β} : ∀ {l : List α} {r : List β}, l.mapM f = some r → ∀ (i : Nat) (a : α), l[i]? = some a → ∃ b, f a = some b ∧ r[i]? = some b
  | [], r, h, i, a, e => by simp at e
  | a :: l, r, h, i, a', e => by
    rw [List.mapM_cons] at h
    cases ha : f a with
    | none => rw [ha] at h; simp at h
    | some b =>
      rw [ha] at h
      cases hl : l.mapM f with
      | none => rw [hl] at h; simp at h
      | some bs =>
        rw [hl] at h; simp at h; subst h
        cases i with
        | zero => simp at e; subst e; exact ⟨b, ha, by simp⟩
        | succ i => exact mapM_get hl i a' (by simpa using e) |>.imp fun b hb => ⟨hb.1, by simpa using hb.2⟩
/-- A list whose elements are found one by one. -/
theorem list_of {α : Type} {q : Nat → α → Prop} : ∀ (n : Nat), (∀ i, i < n → ∃ m, q i m) → ∃ l : List α, l.length = n ∧ ∀ i m, l[i]? = some m → q i m
  | 0, _ => ⟨[], rfl, fun i m h => by simp at h⟩
  | n + 1, h => by
    obtain ⟨l, hl, hq⟩ := list_of n fun i hi => h i (by omega)
    obtain ⟨m, hm⟩ := h n (by omega)
    refine ⟨l ++ [m], by simp [hl], fun i m' e => ?_⟩
    rcases Nat.lt_or_ge i l.length with hi | hi
    · rw [List.getElem?_append_left hi] at e; exact hq i m' e
    · rw [List.getElem?_append_right hi] at e
      have : i - l.length = 0 := by have := lt_of_getEl e; simp at this; omega
      rw [this] at e; simp at e; subst e
      rw [show i = n by omega]; exact hm

theorem cell_at {w : World} {a : Addr} {v : Value} (h : w.cell? a = some v) : a.spot = none ∧ ∃ cs T fr, w.heap[a.block]? = some (.cells cs T fr) ∧ cs[a.off]? = some v := by
  unfold World.cell? at h
  split at h
  · rename_i c T fr hb
    split at h
    · cases h
    · rename_i hs
      exact ⟨by simpa using hs, c, T, fr, hb, h⟩
  · cases h
theorem addr_add (b o i : Nat) : (⟨b, o, none⟩ : Addr).add i = ⟨b, o + i, none⟩ := by
  unfold Addr.add
  split
  · rename_i h; subst h; rfl
  · rfl
theorem addr_zero (a : Addr) : a.add 0 = a := by simp [Addr.add]
theorem cells_at {w : World} {a : Addr} {n : Nat} {vs : List Value} (h : w.cells? 0 a n = some vs) (hn : 0 < n) : a.spot = none ∧ ∃ cs T fr, w.heap[a.block]? = some (.cells cs T fr) ∧ (cs.toList.drop a.off).take n = vs := by
  obtain ⟨_, hl, hc⟩ := World.cells?_some h
  have h0 : vs[0]? = some (vs[0]'(by omega)) := List.getElem?_eq_getElem _
  have h1 := (hc 0 hn).trans h0
  rw [addr_zero] at h1
  obtain ⟨hs, cs, T, fr, hb, _⟩ := cell_at h1
  refine ⟨hs, cs, T, fr, hb, ?_⟩
  obtain ⟨b, o, s⟩ := a
  simp only at hs hb ⊢
  subst hs
  apply List.ext_getElem?
  intro i
  rw [List.getElem?_take]
  split
  · rename_i hi
    have h2 := hc i hi
    rw [addr_add] at h2
    unfold World.cell? at h2
    simp only [hb] at h2
    simp at h2
    rw [List.getElem?_drop, ← h2]; simp
  · rename_i hi
    rw [List.getElem?_eq_none (by omega)]
theorem Viewed.slice {α : Type} {t e sz : Nat} {c : ERel α} {ok : α → Prop} (ht : P.underlying t = some (.slice e)) (hc : P.cellsOf e = sz) (hsz : 0 < sz) (V : Viewed enc P W e c ok) : Viewed enc P W t (rSl sz c) (fun l => ∀ x ∈ l, ok x) := by
  intro sp held fuel cs x h
  cases fuel with
  | zero => simp [DataW.trod] at h
  | succ n =>
    unfold DataW.trod at h
    rw [ht] at h
    split at h <;> simp_all only [reduceCtorEq, Option.some.injEq, TypeDesc.slice.injEq]
    · exact ⟨[], by simp, fun F' _ => ⟨none, 0, rfl, RepSl.nil⟩⟩
    · rename_i _ _ e' a len cap he
      subst he
      split at h
      · rename_i hb
        obtain ⟨elems, he, _⟩ := Option.bind_eq_some_iff.1 h
        have hel : ∀ i, i < len → ∃ m, ok m ∧ ∃ vs, W.cells? 0 (a.add (i * sz)) sz = some vs ∧ ∀ F', FW W ≤ F' → c F' m vs := by
          intro i hi
          obtain ⟨y, hy, _⟩ := mapM_get he i i (by simp [hi])
          obtain ⟨vs, hvs, hy⟩ := Option.bind_eq_some_iff.1 hy
          obtain ⟨m, hm, hF⟩ := V _ _ _ _ _ hy
          exact ⟨m, hm, vs, hvs, hF⟩
        obtain ⟨l, hl, hq⟩ := list_of len hel
        refine ⟨l, fun x hx => ?_, fun F' le => ⟨some a, cap, by rw [hl], by omega, ?_, ?_⟩⟩
        · obtain ⟨i, hi, e⟩ := List.getElem_of_mem hx
          exact (hq i x (by rw [← e]; exact List.getElem?_eq_getElem hi)).1
        · have := hb.2.2; simp [maxLen] at this; omega
        · cases l with
          | nil => exact .inl rfl
          | cons x0 l0 =>
            obtain ⟨_, vs0, hv0, _⟩ := hq 0 x0 rfl
            rw [Nat.zero_mul, addr_zero] at hv0
            obtain ⟨hs, cs, T, fr, hcell, _⟩ := cells_at hv0 hsz
            obtain ⟨b, o, s⟩ := a
            simp only at hs hcell
            subst hs
            refine .inr ⟨b, o, cs, T, fr, rfl, ?_, fun i x hx F'' le' => ?_⟩
            · exact le.mem _ _ hcell
            · obtain ⟨_, vs, hv, hF⟩ := hq i x hx
              rw [addr_add] at hv
              obtain ⟨_, cs', T', fr', hcell', htk⟩ := cells_at hv hsz
              simp only at hcell' htk
              rw [hcell] at hcell'; cases hcell'
              have := hF F'' (Fz.le_trans le le')
              rw [← htk] at this
              exact this
      · cases h

theorem split_at {cs : List Value} {n k : Nat} (_h : cs.length = n) : cs = cs.take k ++ cs.drop k := (List.take_append_drop k cs).symm
theorem flat_parts {α : Type} {c : α → List Value} {sz : Nat} : ∀ {l : List α} {cs : List Value}, cs.length = l.length * sz → (∀ i x, l[i]? = some x → (cs.drop (i * sz)).take sz = c x) → cs = l.flatMap c
  | [], cs, h, _ => by simp at h; simp [h]
  | x :: l, cs, h, hq => by
    have h0 := hq 0 x rfl
    rw [Nat.zero_mul, List.drop_zero] at h0
    have h1 : cs.drop sz = l.flatMap c := flat_parts (sz := sz) (by simp only [List.length_drop, h, List.length_cons, Nat.add_mul, Nat.one_mul]; omega) fun i y hy => by
      have := hq (i + 1) y (by simpa using hy)
      rw [List.drop_drop]
      rwa [show sz + i * sz = (i + 1) * sz by rw [Nat.add_mul]; omega]
    rw [List.flatMap_cons, ← h0, ← h1, List.take_append_drop]
theorem Viewed.array {α : Type} {t e sz n : Nat} {c : α → List Value} {ok : α → Prop} (z : α) (ht : P.underlying t = some (.array n e)) (hc : P.cellsOf e = sz) (hn : P.cellsOf t = n * sz) (V : Viewed enc P W e (Ex c) ok) : Viewed enc P W t (Ex (cArr n c)) (fun f => ∀ i, i < n → ok (f i)) := by
  intro sp held fuel cs x h
  obtain ⟨xs, k, _, _, hl, hxl, hx⟩ := DataW.trod_array ht h
  rw [hn] at hl
  have hel : ∀ i, i < n → ∃ m, ok m ∧ (cs.drop (i * sz)).take sz = c m := by
    intro i hi
    have hy := hx i hi
    rw [hc, List.getElem?_eq_getElem (by omega)] at hy
    obtain ⟨m, hm, hF⟩ := V _ _ _ _ _ hy
    exact ⟨m, hm, hF _ (Fz.le_refl _)⟩
  obtain ⟨l, hl', hq⟩ := list_of n hel
  have hg : ∀ i, i < n → l[i]? = some (l.getD i z) := fun i hi => by simp [List.getD, List.getElem?_eq_getElem (show i < l.length by omega)]
  refine ⟨fun i => l.getD i z, fun i hi => (hq i _ (hg i hi)).1, fun F' _ => ?_⟩
  have he2 : arrL n (fun i => l.getD i z) = l := by
    apply List.ext_getElem?
    intro i
    by_cases hi : i < n
    · rw [hg i hi]; simp [arrL, hi]
    · rw [List.getElem?_eq_none (by simp [arrL]; omega), List.getElem?_eq_none (by omega)]
  show cs = cArr n c _
  unfold cArr
  rw [he2]
  exact flat_parts (by rw [hl']; exact hl) fun i y hy => (hq i y hy).2

theorem cat_cons {cs p rest : List Value} {o s : Nat} (h : (cs.drop o).take s = p) (t : cs.drop (o + s) = rest) : cs.drop o = p ++ rest := by
  rw [← h, ← t, ← List.drop_drop, List.take_append_drop]
theorem cat_nil {cs : List Value} {o : Nat} (h : cs.length = o) : cs.drop o = [] := List.drop_of_length_le (by omega)
theorem some_of {α : Type} {xs : List α} {i n : Nat} {y : Option α} (h : y = xs[i]?) (hl : xs.length = n) (hi : Nat.blt i n = true) : ∃ x, y = some x := by
  have := Nat.le_of_ble_eq_true hi
  exact ⟨_, h.trans (List.getElem?_eq_getElem (show i < xs.length by omega))⟩
end
end Go.Dec
