/- Slices: what reads as a list; a slice of the function's own that grows. No program. -/
import Derived.Test.YtbomfcghpajaiaaKalE
namespace Go.Dec
variable {κ : Option Nat}

/-! ### A slice that reads as a list -/
/-- What an element's cells say of it: by a list of cells, or by a relation that may read what is frozen. -/
abbrev ERel (α : Type) : Type := Fz → α → List Value → Prop
abbrev Ex {α : Type} (c : α → List Value) : ERel α := fun _ x vs => vs = c x
def RepSl {α : Type} (sz : Nat) (c : ERel α) (F : Fz) (p : Option Addr) (cap : Nat) (l : List α) : Prop :=
  l.length ≤ cap ∧ cap ≤ 9223372036854775807 ∧ (l = [] ∨ ∃ b o cs T fr, p = some ⟨b, o, none⟩ ∧ F.mem b = some (.cells cs T fr) ∧ ∀ i x, l[i]? = some x → ∀ F', F ≤ F' → c F' x ((cs.toList.drop (o + i * sz)).take sz))

theorem RepSl.mono {α : Type} {sz : Nat} {c : ERel α} {F F' : Fz} {p : Option Addr} {cap : Nat} {l : List α} (h : RepSl sz c F p cap l) (le : F ≤ F') : RepSl sz c F' p cap l := by
  obtain ⟨h0, h1, h2⟩ := h
  refine ⟨h0, h1, ?_⟩
  rcases h2 with h | ⟨b, o, cs, T, fr, h2, h3, h4⟩
  · exact .inl h
  · exact .inr ⟨b, o, cs, T, fr, h2, le.mem _ _ h3, fun i x hx F' le' => h4 i x hx F' (Fz.le_trans le le')⟩
theorem RepSl.nil {α : Type} {sz : Nat} {c : ERel α} {F : Fz} : RepSl sz c F none 0 ([] : List α) := ⟨Nat.le_refl _, by simp, .inl rfl⟩

theorem cell_of_take {cs vs : List Value} {o z k : Nat} {v : Value} (h : (cs.drop o).take z = vs) (hv : vs[k]? = some v) : cs[o + k]? = some v := by
  rw [← h, List.getElem?_take, List.getElem?_drop] at hv
  split at hv
  · exact hv
  · cases hv
theorem take_of_take {cs vs : List Value} {o z k z' : Nat} {us : List Value} (h : (cs.drop o).take z = vs) (hv : (vs.drop k).take z' = us) (hl : Nat.ble (k + z') z = true) : (cs.drop (o + k)).take z' = us := by
  have hl' := Nat.le_of_ble_eq_true hl
  rw [← hv, ← h]
  apply List.ext_getElem?
  intro i
  simp only [List.getElem?_take, List.getElem?_drop]
  by_cases hi : i < z'
  · simp only [hi, if_true]; rw [if_pos (by omega)]; congr 1; omega
  · simp [hi]

def idxL {α : Type} (l : List α) (i : Int) : Option α := if 0 ≤ i then l[i.toNat]? else none
theorem idxL_some {α : Type} {l : List α} {i : Int} {x : α} (h : idxL l i = some x) : 0 ≤ i ∧ i.toNat < l.length ∧ l[i.toNat]? = some x := by
  unfold idxL at h
  split at h
  · rename_i h0
    refine ⟨h0, ?_, h⟩
    rcases Nat.lt_or_ge i.toNat l.length with h' | h'
    · exact h'
    · rw [List.getElem?_eq_none h'] at h; cases h
  · cases h

theorem RepSl.at_ {α : Type} {sz : Nat} {c : ERel α} {F : Fz} {p : Option Addr} {cap : Nat} {l : List α} (h : RepSl sz c F p cap l) {k : Nat} {x : α} (hx : l[k]? = some x) : ∃ b o T fr, ∃ cs : List Value, p = some ⟨b, o, none⟩ ∧ F.mem b = some (.cells cs.toArray T fr) ∧ c F x ((cs.drop (o + k * sz)).take sz) := by
  obtain ⟨_, _, h2⟩ := h
  rcases h2 with h | ⟨b, o, cs, T, fr, h2, h3, h4⟩
  · subst h; simp at hx
  · exact ⟨b, o, T, fr, cs.toList, h2, by simpa using h3, by simpa using h4 k x hx F (Fz.le_refl F)⟩

section
variable {β : Type} {P : Program} {ops : Array Oper} {rest : List Oper} {ks : List Kt} {Q : Exit → Act → World → Prop} {m : Option β} {r : β}
variable {n : Nat} {D : List Deferred} {S : List (Nat × Value)} {F : Fz} {hs : List HP}
variable {d : Nat} {ty t t' : TypeId} {pos : String} {after : Array Edge} {ox oy oz : Operand} {v u : Value} {kd : IntKind} {x y : Int}

/-- The address of an element of a slice that reads as a list, the element being known. -/
theorem GL.idxK {α : Type} {sz : Nat} {c : ERel α} {p : Option Addr} {cap e : Nat} {l : List α} {z : α} (hd : Nat.blt d n = true) (ht : P.underlying t = some (.slice e)) (hz : ∀ w, (sizeOf e).run P w = .ok sz w)
    (hr : RepSl sz c F p cap l) (hx : evalS S ox = some (.slice p l.length cap)) (hy : evalS S oy = some (.int kd x)) (hi : idxL l x = some z)
    (k : ∀ b o T fr cs, F.mem b = some (.cells (List.toArray cs) T fr) → c F z ((cs.drop o).take sz) → GL κ P ops rest ks Q (Hd n D ((d, .pointer (some ⟨b, o, none⟩)) :: S) F hs) m r) :
    GL κ P ops (⟨some d, .indexAddr t ox oy, ty, pos, after, none⟩ :: rest) ks Q (Hd n D S F hs) m r := by
  obtain ⟨h0, h1, h2⟩ := idxL_some hi
  obtain ⟨b, o, T, fr, cs, rfl, h3, h4⟩ := hr.at_ h2
  have hj : idxO l.length x = some x.toNat := by unfold idxO; rw [if_pos (by omega)]
  exact GL.indexAddrS hd ht hz hx hy hj (k b _ T fr cs h3 h4)
theorem GL.idx {α : Type} {sz : Nat} {c : ERel α} {p : Option Addr} {cap e : Nat} {l : List α} {f : α → Option β} (hd : Nat.blt d n = true) (ht : P.underlying t = some (.slice e)) (hz : ∀ w, (sizeOf e).run P w = .ok sz w)
    (hr : RepSl sz c F p cap l) (hx : evalS S ox = some (.slice p l.length cap)) (hy : evalS S oy = some (.int kd x))
    (k : ∀ z b o T fr cs, idxL l x = some z → F.mem b = some (.cells (List.toArray cs) T fr) → c F z ((cs.drop o).take sz) → GL κ P ops rest ks Q (Hd n D ((d, .pointer (some ⟨b, o, none⟩)) :: S) F hs) (f z) r) :
    GL κ P ops (⟨some d, .indexAddr t ox oy, ty, pos, after, none⟩ :: rest) ks Q (Hd n D S F hs) ((idxL l x).bind f) r :=
  GL.bind fun z hi => GL.idxK hd ht hz hr hx hy hi (fun b o T fr cs h1 h2 => k z b o T fr cs hi h1 h2)

/-! ### Cutting -/
def cutO (cap : Nat) (lo hi : Int) : Option (Nat × Nat) := if 0 ≤ lo ∧ lo ≤ hi ∧ hi ≤ cap then some (lo.toNat, hi.toNat) else none
/-- s[lo:hi], both in the list. -/
def sliceL {α : Type} (l : List α) (lo hi : Int) : Option (List α) := if 0 ≤ lo ∧ lo ≤ hi ∧ hi ≤ l.length then some ((l.drop lo.toNat).take (hi.toNat - lo.toNat)) else none

theorem RepSl.cut {α : Type} {sz : Nat} {c : ERel α} {F : Fz} {p : Option Addr} {cap cap' : Nat} {l : List α} (h : RepSl sz c F p cap l) {lo hi : Nat} (_h1 : lo ≤ hi) (h2 : hi ≤ l.length) (h3 : hi - lo ≤ cap') (h4 : cap' ≤ cap) :
    RepSl sz c F (p.map (·.add (lo * sz))) cap' ((l.drop lo).take (hi - lo)) := by
  obtain ⟨g0, g1, g2⟩ := h
  refine ⟨by simp; omega, by omega, ?_⟩
  rcases g2 with h | ⟨b, o, cs, T, fr, rfl, h3', h4'⟩
  · subst h; left; simp
  · refine .inr ⟨b, o + lo * sz, cs, T, fr, by simp [add_addr], h3', fun i x hx => ?_⟩
    rw [List.getElem?_take, List.getElem?_drop] at hx
    split at hx
    · intro F' le
      have := h4' (lo + i) x hx F' le
      rw [show o + lo * sz + i * sz = o + (lo + i) * sz by rw [Nat.add_mul]; omega]; exact this
    · cases hx
/-- The address does not matter where there is nothing. -/
theorem RepSl.anyp {α : Type} {sz : Nat} {c : ERel α} {F : Fz} {p p' : Option Addr} {cap : Nat} (h : RepSl sz c F p cap ([] : List α)) : RepSl sz c F p' cap ([] : List α) := ⟨h.1, h.2.1, .inl rfl⟩

theorem run_bound {P : Program} {i : Int} {y : Nat} {code : BoundsCode} {w : World} (h : 0 ≤ i ∧ i ≤ y) : (Instr.sliceBound (.int kd i) y code).run P w = .ok i.toNat w := by
  simp [Instr.sliceBound, asIntOf, h]

theorem run_slice_lo {P : Program} {t e sz len cap : Nat} {p : Option Addr} {lo : Int} {w : World} (ht : P.underlying t = some (.slice e)) (hz : ∀ w, (sizeOf e).run P w = .ok sz w) (h : 0 ≤ lo ∧ lo ≤ len) :
    (Instr.sliceAt t (.slice p len cap) (some (.int kd lo)) none none).run P w = .ok (.slice (if cap = lo.toNat then p else p.map (·.add (lo.toNat * sz))) (len - lo.toNat) (cap - lo.toNat)) w := by
  simp only [Instr.sliceAt, Sem.run_bind, rUnd ht, Result.andThen, Instr.slice, Instr.sliceBounds, Sem.run_pure, Option.isSome_none, Bool.false_eq_true, if_false]
  rw [run_bound h]
  simp [hz]
theorem run_slice_hi {P : Program} {t e sz len cap : Nat} {p : Option Addr} {hi : Int} {w : World} (ht : P.underlying t = some (.slice e)) (hz : ∀ w, (sizeOf e).run P w = .ok sz w) (h : 0 ≤ hi ∧ hi ≤ cap) :
    (Instr.sliceAt t (.slice p len cap) none (some (.int kd hi)) none).run P w = .ok (.slice (if cap = 0 then p else p.map (·.add (0 * sz))) hi.toNat cap) w := by
  simp only [Instr.sliceAt, Sem.run_bind, rUnd ht, Result.andThen, Instr.slice, Instr.sliceBounds, Sem.run_pure, Option.isSome_none, Bool.false_eq_true, if_false, if_true]
  rw [run_bound h]
  simp [hz]
theorem run_slice_him {P : Program} {t e sz len cap : Nat} {p : Option Addr} {hi mx : Int} {w : World} {kd' : IntKind} (ht : P.underlying t = some (.slice e)) (hz : ∀ w, (sizeOf e).run P w = .ok sz w) (h : 0 ≤ hi ∧ hi ≤ mx) (h' : mx ≤ cap) :
    (Instr.sliceAt t (.slice p len cap) none (some (.int kd hi)) (some (.int kd' mx))).run P w = .ok (.slice (if mx.toNat = 0 then p else p.map (·.add (0 * sz))) hi.toNat mx.toNat) w := by
  simp only [Instr.sliceAt, Sem.run_bind, rUnd ht, Result.andThen, Instr.slice, Instr.sliceBounds, Sem.run_pure, Option.isSome_some, Bool.false_eq_true, if_false, if_true]
  rw [run_bound (kd := kd') (by omega)]
  simp only []
  rw [run_bound (by omega)]
  simp [hz]
theorem run_slice_lohi {P : Program} {t e sz len cap : Nat} {p : Option Addr} {lo hi : Int} {w : World} {kd' : IntKind} (ht : P.underlying t = some (.slice e)) (hz : ∀ w, (sizeOf e).run P w = .ok sz w) (h : 0 ≤ lo ∧ lo ≤ hi) (h' : hi ≤ cap) :
    (Instr.sliceAt t (.slice p len cap) (some (.int kd lo)) (some (.int kd' hi)) none).run P w = .ok (.slice (if cap = lo.toNat then p else p.map (·.add (lo.toNat * sz))) (hi.toNat - lo.toNat) (cap - lo.toNat)) w := by
  simp only [Instr.sliceAt, Sem.run_bind, rUnd ht, Result.andThen, Instr.slice, Instr.sliceBounds, Sem.run_pure, Option.isSome_none, Bool.false_eq_true, if_false, if_true]
  rw [run_bound (kd := kd') (by omega)]
  simp only []
  rw [run_bound (by omega)]
  simp [hz]

theorem rep_if {α : Type} {sz : Nat} {c : ERel α} {F : Fz} {p p' : Option Addr} {cap : Nat} {l : List α} {q : Prop} [Decidable q] (h1 : q → RepSl sz c F p cap l) (h2 : RepSl sz c F p' cap l) : RepSl sz c F (if q then p else p') cap l := by
  split
  · rename_i h; exact h1 h
  · exact h2

/-- s[lo:] -/
theorem GL.sliceLo {α : Type} {sz : Nat} {c : ERel α} {p : Option Addr} {cap e : Nat} {l : List α} {f : List α → Option β} (hd : Nat.blt d n = true) (ht : P.underlying t = some (.slice e)) (hz : ∀ w, (sizeOf e).run P w = .ok sz w)
    (hr : RepSl sz c F p cap l) (hx : evalS S ox = some (.slice p l.length cap)) (hy : evalS S oy = some (.int kd x))
    (k : ∀ l' p' c', sliceL l x l.length = some l' → RepSl sz c F p' c' l' → GL κ P ops rest ks Q (Hd n D ((d, .slice p' l'.length c') :: S) F hs) (f l') r) :
    GL κ P ops (⟨some d, .slice t ox (some oy) none none, ty, pos, after, none⟩ :: rest) ks Q (Hd n D S F hs) ((sliceL l x l.length).bind f) r :=
  GL.bind fun l' hl => by
    have hl' := hl
    unfold sliceL at hl
    split at hl
    · rename_i h
      simp only [Option.some.injEq] at hl
      have hcut : RepSl sz c F (p.map (·.add (x.toNat * sz))) (cap - x.toNat) l' := by
        have := hr.cut (lo := x.toNat) (hi := l.length) (cap' := cap - x.toNat) (by omega) (Nat.le_refl _) (by have := hr.1; omega) (by omega)
        simp only [Int.toNat_natCast] at hl
        rw [← hl]; exact this
      have hlen : l'.length = l.length - x.toNat := by rw [← hl]; simp
      have hrep : RepSl sz c F (if cap = x.toNat then p else p.map (·.add (x.toNat * sz))) (cap - x.toNat) l' := rep_if (fun h => by
        have : l' = [] := by
          have := hcut.1; rw [← h] at this; simp at this; exact this
        subst this; exact hcut.anyp) hcut
      have hk := k l' _ _ hl' hrep
      rw [hlen] at hk
      refine GL.val hd (fun a w ha => ?_) hk
      simp only [execOp, ha.1.eval hx, ha.1.eval hy, Option.map_some, Option.map_none, Sem.run_bind]
      rw [run_slice_lo ht hz (by omega)]
      rfl
    · cases hl
/-- s[:hi], at most as long as s. -/
theorem GL.sliceHi {α : Type} {sz : Nat} {c : ERel α} {p : Option Addr} {cap e : Nat} {l : List α} {f : List α → Option β} (hd : Nat.blt d n = true) (ht : P.underlying t = some (.slice e)) (hz : ∀ w, (sizeOf e).run P w = .ok sz w)
    (hr : RepSl sz c F p cap l) (hx : evalS S ox = some (.slice p l.length cap)) (hy : evalS S oy = some (.int kd x))
    (k : ∀ l' p' c', sliceL l 0 x = some l' → RepSl sz c F p' c' l' → GL κ P ops rest ks Q (Hd n D ((d, .slice p' l'.length c') :: S) F hs) (f l') r) :
    GL κ P ops (⟨some d, .slice t ox none (some oy) none, ty, pos, after, none⟩ :: rest) ks Q (Hd n D S F hs) ((sliceL l 0 x).bind f) r :=
  GL.bind fun l' hl => by
    have hl' := hl
    unfold sliceL at hl
    split at hl
    · rename_i h
      simp only [Option.some.injEq] at hl
      have hcut : RepSl sz c F (p.map (·.add (0 * sz))) cap l' := by
        have := hr.cut (lo := 0) (hi := x.toNat) (cap' := cap) (by omega) (by omega) (by have := hr.1; omega) (by omega)
        simp only [Nat.sub_zero] at this
        rw [← hl]; exact this
      have hlen : l'.length = x.toNat := by rw [← hl]; simp; omega
      have hrep : RepSl sz c F (if cap = 0 then p else p.map (·.add (0 * sz))) cap l' := rep_if (fun h => by
        have : l' = [] := by have := hcut.1; rw [h] at this; simp at this; exact this
        subst this; exact hcut.anyp) hcut
      have hk := k l' _ _ hl' hrep
      rw [hlen] at hk
      refine GL.val hd (fun a w ha => ?_) hk
      simp only [execOp, ha.1.eval hx, ha.1.eval hy, Option.map_some, Option.map_none, Sem.run_bind]
      rw [run_slice_hi ht hz (by have := hr.1; omega)]
      rfl
    · cases hl
/-- s[:hi:hi] -/
theorem GL.sliceHiM {α : Type} {sz : Nat} {c : ERel α} {p : Option Addr} {cap e : Nat} {l : List α} {kd' : IntKind} {f : List α → Option β} (hd : Nat.blt d n = true) (ht : P.underlying t = some (.slice e)) (hz : ∀ w, (sizeOf e).run P w = .ok sz w)
    (hr : RepSl sz c F p cap l) (hx : evalS S ox = some (.slice p l.length cap)) (hy : evalS S oy = some (.int kd x)) (hm : evalS S oz = some (.int kd' x))
    (k : ∀ l' p' c', sliceL l 0 x = some l' → RepSl sz c F p' c' l' → GL κ P ops rest ks Q (Hd n D ((d, .slice p' l'.length c') :: S) F hs) (f l') r) :
    GL κ P ops (⟨some d, .slice t ox none (some oy) (some oz), ty, pos, after, none⟩ :: rest) ks Q (Hd n D S F hs) ((sliceL l 0 x).bind f) r :=
  GL.bind fun l' hl => by
    have hl' := hl
    unfold sliceL at hl
    split at hl
    · rename_i h
      simp only [Option.some.injEq] at hl
      have hcut : RepSl sz c F (p.map (·.add (0 * sz))) x.toNat l' := by
        have := hr.cut (lo := 0) (hi := x.toNat) (cap' := x.toNat) (by omega) (by omega) (by omega) (by have := hr.1; omega)
        simp only [Nat.sub_zero] at this
        rw [← hl]; exact this
      have hlen : l'.length = x.toNat := by rw [← hl]; simp; omega
      have hrep : RepSl sz c F (if x.toNat = 0 then p else p.map (·.add (0 * sz))) x.toNat l' := rep_if (fun h => by
        have : l' = [] := by have := hcut.1; rw [h] at this; simp at this; exact this
        subst this; exact hcut.anyp) hcut
      have hk := k l' _ _ hl' hrep
      rw [hlen] at hk
      refine GL.val hd (fun a w ha => ?_) hk
      simp only [execOp, ha.1.eval hx, ha.1.eval hy, ha.1.eval hm, Option.map_some, Option.map_none, Sem.run_bind]
      rw [run_slice_him ht hz (by have := hr.1; omega) (by have := hr.1; omega)]
      rfl
    · cases hl
theorem GL.sliceLoHi {α : Type} {sz : Nat} {c : ERel α} {p : Option Addr} {cap e : Nat} {l : List α} {kd' : IntKind} {f : List α → Option β} (hd : Nat.blt d n = true) (ht : P.underlying t = some (.slice e)) (hz : ∀ w, (sizeOf e).run P w = .ok sz w)
    (hr : RepSl sz c F p cap l) (hx : evalS S ox = some (.slice p l.length cap)) (hy : evalS S oy = some (.int kd x)) (hm : evalS S oz = some (.int kd' y))
    (k : ∀ l' p' c', sliceL l x y = some l' → RepSl sz c F p' c' l' → GL κ P ops rest ks Q (Hd n D ((d, .slice p' l'.length c') :: S) F hs) (f l') r) :
    GL κ P ops (⟨some d, .slice t ox (some oy) (some oz) none, ty, pos, after, none⟩ :: rest) ks Q (Hd n D S F hs) ((sliceL l x y).bind f) r :=
  GL.bind fun l' hl => by
    have hl' := hl
    unfold sliceL at hl
    split at hl
    · rename_i h
      simp only [Option.some.injEq] at hl
      have hcut : RepSl sz c F (p.map (·.add (x.toNat * sz))) (cap - x.toNat) l' := by
        have := hr.cut (lo := x.toNat) (hi := y.toNat) (cap' := cap - x.toNat) (by omega) (by omega) (by have := hr.1; omega) (by omega)
        rw [← hl]; exact this
      have hlen : l'.length = y.toNat - x.toNat := by rw [← hl]; simp; omega
      have hrep : RepSl sz c F (if cap = x.toNat then p else p.map (·.add (x.toNat * sz))) (cap - x.toNat) l' := rep_if (fun h => by
        have : l' = [] := by have := hcut.1; rw [← h] at this; simp at this; exact this
        subst this; exact hcut.anyp) hcut
      have hk := k l' _ _ hl' hrep
      rw [hlen] at hk
      refine GL.val hd (fun a w ha => ?_) hk
      simp only [execOp, ha.1.eval hx, ha.1.eval hy, ha.1.eval hm, Option.map_some, Option.map_none, Sem.run_bind]
      rw [run_slice_lohi ht hz (by omega) (by have := hr.1; omega)]
      rfl
    · cases hl

/-- An array in memory, taken as a slice: a[:]. -/
theorem RepSl.ofArr {α : Type} {sz : Nat} {c : ERel α} {F : Fz} {b o T len : Nat} {cs : List Value} {fr : Nat × Nat} {l : List α} (hb : F.mem b = some (.cells cs.toArray T fr)) (hl : l.length = len) (hlen : Nat.ble len 1000000 = true) (h : ∀ i x, l[i]? = some x → ∀ F', F ≤ F' → c F' x ((cs.drop (o + i * sz)).take sz)) : RepSl sz c F (some ⟨b, o, none⟩) len l := by
  have := Nat.le_of_ble_eq_true hlen
  exact ⟨by omega, by omega, .inr ⟨b, o, cs.toArray, T, fr, rfl, hb, by simpa using h⟩⟩
theorem GL.sliceArr {len e sz b o : Nat} (hd : Nat.blt d n = true) (ht : P.underlying t = some (.array len e)) (hz : ∀ w, (sizeOf e).run P w = .ok sz w) (hx : evalS S ox = some (.pointer (some ⟨b, o, none⟩))) (h0 : Nat.blt 0 len = true)
    (k : GL κ P ops rest ks Q (Hd n D ((d, .slice (some ⟨b, o, none⟩) len len) :: S) F hs) m r) :
    GL κ P ops (⟨some d, .slice t ox none none none, ty, pos, after, none⟩ :: rest) ks Q (Hd n D S F hs) m r :=
  GL.val hd (fun a w ha => by
    have : 0 < len := Nat.le_of_ble_eq_true h0
    simp [execOp, ha.1.eval hx, Instr.sliceAt, rUnd ht, Instr.sureAddr, Instr.sliceBounds, hz, add_addr]) k
end

/-! ### A slice of the function's own that grows -/
def flat {α : Type} (c : α → List Value) (l : List α) : List Value := l.flatMap c
/-- The cells of a list's elements, one behind the other. -/
def Parts {α : Type} (sz : Nat) (c : ERel α) (F : Fz) (l : List α) (us : List Value) : Prop := ∀ i x, l[i]? = some x → ∀ F', F ≤ F' → c F' x ((us.drop (i * sz)).take sz)
theorem lt_of_getEl {α : Type} {l : List α} {i : Nat} {x : α} (h : l[i]? = some x) : i < l.length := by
  rcases Nat.lt_or_ge i l.length with h' | h'
  · exact h'
  · rw [List.getElem?_eq_none h'] at h; cases h
theorem Parts.mono {α : Type} {sz : Nat} {c : ERel α} {F F' : Fz} {l : List α} {us : List Value} (h : Parts sz c F l us) (le : F ≤ F') : Parts sz c F' l us := fun i x hx G le' => h i x hx G (Fz.le_trans le le')
theorem Parts.nil {α : Type} {sz : Nat} {c : ERel α} {F : Fz} {us : List Value} : Parts sz c F [] us := fun i x h => by simp at h
theorem part_take {i n sz : Nat} {us : List Value} (h : i < n) : (((us.take (n * sz)).drop (i * sz)).take sz) = ((us.drop (i * sz)).take sz) := by
  rw [List.drop_take, List.take_take]
  congr 1
  rw [← Nat.sub_mul]
  have : 1 ≤ n - i := by omega
  have := Nat.mul_le_mul_right sz this
  omega
theorem Parts.take {α : Type} {sz : Nat} {c : ERel α} {F : Fz} {l : List α} {us : List Value} (h : Parts sz c F l us) : Parts sz c F l (us.take (l.length * sz)) := fun i x hx F' le => by
  rw [part_take (lt_of_getEl hx)]; exact h i x hx F' le
theorem Parts.ofTake {α : Type} {sz : Nat} {c : ERel α} {F : Fz} {l : List α} {us : List Value} (h : Parts sz c F l (us.take (l.length * sz))) : Parts sz c F l us := fun i x hx F' le => by
  rw [← part_take (lt_of_getEl hx)]; exact h i x hx F' le
theorem Parts.len {α : Type} {sz : Nat} {c : ERel α} {F : Fz} {l : List α} {us : List Value} (hc : ∀ F x vs, c F x vs → vs.length = sz) (h : Parts sz c F l us) : l.length * sz ≤ us.length := by
  rcases Nat.eq_zero_or_pos l.length with h0 | h0
  · rw [h0]; simp
  · have hx : l[l.length - 1]? = some (l[l.length - 1]'(by omega)) := List.getElem?_eq_getElem _
    have := hc _ _ _ (h _ _ hx F (Fz.le_refl F))
    simp only [List.length_take, List.length_drop] at this
    rcases Nat.eq_zero_or_pos sz with hz | hz
    · rw [hz]; simp
    · have e : l.length * sz = (l.length - 1) * sz + sz := by
        rw [show l.length = l.length - 1 + 1 by omega, Nat.add_mul]; simp
      omega
theorem Parts.append {α : Type} {sz : Nat} {c : ERel α} {F : Fz} {l l2 : List α} {us us2 : List Value} (h : Parts sz c F l us) (h2 : Parts sz c F l2 us2) (hl : us.length = l.length * sz) : Parts sz c F (l ++ l2) (us ++ us2) := fun i x hx F' le => by
  rcases Nat.lt_or_ge i l.length with hi | hi
  · rw [List.getElem?_append_left hi] at hx
    have e : ((us ++ us2).drop (i * sz)).take sz = (us.drop (i * sz)).take sz := by
      have : i * sz + sz ≤ us.length := by
        rw [hl, show i * sz + sz = (i + 1) * sz by rw [Nat.add_mul]; omega]; exact Nat.mul_le_mul_right sz hi
      rw [List.drop_append_of_le_length (by omega), List.take_append_of_le_length (by simp; omega)]
    rw [e]; exact h i x hx F' le
  · rw [List.getElem?_append_right hi] at hx
    have e : (us ++ us2).drop (i * sz) = us2.drop ((i - l.length) * sz) := by
      have : us.length ≤ i * sz := by rw [hl]; exact Nat.mul_le_mul_right sz hi
      rw [List.drop_append]
      rw [List.drop_of_length_le this, List.nil_append, hl, Nat.sub_mul]
    rw [e]; exact h2 _ x hx F' le
theorem Parts.weak {α : Type} {sz : Nat} {c : ERel α} {F : Fz} {l : List α} {us us2 : List Value} (h : Parts sz c F l us) (hl : us.length = l.length * sz) : Parts sz c F l (us ++ us2) := by
  have := h.append (l2 := []) (us2 := us2) Parts.nil hl
  simpa using this
theorem Parts.all {α : Type} {sz : Nat} {c : ERel α} {F : Fz} {l : List α} {us : List Value} (h1 : ∀ F x vs, c F x vs → vs.all Value.oneCell' = true) (h : Parts sz c F l us) : (us.take (l.length * sz)).all Value.oneCell' = true := by
  rw [List.all_eq_true]
  intro v hv
  obtain ⟨j, hj, e⟩ := List.getElem_of_mem hv
  simp only [List.length_take] at hj
  have hj1 : j < l.length * sz := by omega
  have hsz : 0 < sz := by
    rcases Nat.eq_zero_or_pos sz with hz | hz
    · subst hz; simp at hj1
    · exact hz
  have hi : j / sz < l.length := (Nat.div_lt_iff_lt_mul hsz).2 hj1
  have hx : l[j / sz]? = some (l[j / sz]'hi) := List.getElem?_eq_getElem _
  have := h1 _ _ _ (h _ _ hx F (Fz.le_refl F))
  rw [List.all_eq_true] at this
  apply this
  rw [List.getElem_take] at e
  have hm : j % sz < sz := Nat.mod_lt _ hsz
  have hd : j = j / sz * sz + j % sz := by have := Nat.div_add_mod j sz; rw [Nat.mul_comm] at this; omega
  rw [List.mem_iff_getElem]
  refine ⟨j % sz, by simp; omega, ?_⟩
  rw [List.getElem_take, List.getElem_drop, ← e]
  congr 1; omega

def ownSl {α : Type} (sz : Nat) (c : ERel α) (F : Fz) (T : TypeId) (p : Option Addr) (cap : Nat) (l : List α) : HP := fun m =>
  l.length ≤ cap ∧ cap ≤ 9223372036854775807 ∧ ((p = none ∧ cap = 0) ∨ ∃ b cs, p = some ⟨b, 0, none⟩ ∧ m b = some (.cells (List.toArray cs) T (0, 0)) ∧ cs.length = cap * sz ∧ Parts sz c F l cs)
theorem ownSl_nil {α : Type} {sz : Nat} {c : ERel α} {F : Fz} {T : TypeId} {m : Mem} : ownSl sz c F T none 0 ([] : List α) m := ⟨Nat.le_refl _, by simp, .inl ⟨rfl, rfl⟩⟩
theorem ownSl_up {α : Type} {sz : Nat} {c : ERel α} {F F' : Fz} {T : TypeId} {p : Option Addr} {cap : Nat} {l : List α} {m : Mem} (le : F ≤ F') (h : ownSl sz c F T p cap l m) : ownSl sz c F' T p cap l m := by
  obtain ⟨h1, h2, h3⟩ := h
  rcases h3 with h3 | ⟨b, cs, e, hb, hl, hp⟩
  · exact ⟨h1, h2, .inl h3⟩
  · exact ⟨h1, h2, .inr ⟨b, cs, e, hb, hl, hp.mono le⟩⟩

theorem flat_len {α : Type} {sz : Nat} {c : α → List Value} (hc : ∀ x, (c x).length = sz) : ∀ (l : List α), (flat c l).length = l.length * sz
  | [] => by simp [flat]
  | x :: l => by
    have := flat_len hc l
    simp only [flat, List.flatMap_cons, List.length_append, List.length_cons] at this ⊢
    rw [hc, this, Nat.add_mul]; omega

/-- What is owned of a slice becomes frozen: it reads as its list from now on. -/
theorem SH.freezeSl {α : Type} {sz : Nat} {c : ERel α} {T : TypeId} {p : Option Addr} {cap : Nat} {l : List α} {w : World} {F0 F : Fz} {H : HP} (le0 : F0 ≤ F) (h : SH w F (star (ownSl sz c F0 T p cap l) H)) :
    ∃ F', F ≤ F' ∧ SH w F' H ∧ RepSl sz c F' p cap l := by
  obtain ⟨m, ⟨m1, m2, d, s1, s2, ⟨h1, h2, h3⟩, hq⟩, k⟩ := h
  rcases h3 with ⟨rfl, rfl⟩ | ⟨b, cs, rfl, hb, hl, hp⟩
  · refine ⟨F, Fz.le_refl F, ⟨m2, hq, k.sub s2⟩, h1, h2, .inl (List.eq_nil_of_length_eq_zero (by omega))⟩
  · have hh : SH w F (star (pt b (.cells cs.toArray T (0, 0))) H) := ⟨m, ⟨m1, m2, d, s1, s2, hb, hq⟩, k⟩
    obtain ⟨le, hs⟩ := hh.freeze
    refine ⟨_, le, hs, h1, h2, .inr ⟨b, 0, cs.toArray, T, (0, 0), rfl, Fz.add_self .., fun i x hx F' le' => ?_⟩⟩
    have := hp i x hx F' (Fz.le_trans le0 (Fz.le_trans le le'))
    simpa using this
section
variable {β : Type} {P : Program} {ops : Array Oper} {rest : List Oper} {ks : List Kt} {Q : Exit → Act → World → Prop} {m : Option β} {r : β}
variable {n : Nat} {D : List Deferred} {S : List (Nat × Value)} {F F0 : Fz} {hs : List HP}
theorem GL.ownNil {α : Type} (sz : Nat) (c : ERel α) (T : TypeId) (k : GL κ P ops rest ks Q (Hd n D S F (ownSl sz c F T none 0 [] :: hs)) m r) : GL κ P ops rest ks Q (Hd n D S F hs) m r :=
  fun hm a w ha => k hm a w ⟨ha.1, ha.2.mono fun m hm' => ⟨fun _ => none, m, fun _ => .inl rfl, fun _ _ e => by simp at e, Mem.sub.refl _, ownSl_nil, hm'⟩⟩
theorem GE.ownNil {α : Type} (sz : Nat) (c : ERel α) (T : TypeId) (k : GE κ P ks Q (Hd n D S F (ownSl sz c F T none 0 [] :: hs)) m r) : GE κ P ks Q (Hd n D S F hs) m r :=
  fun hm a w ha => k hm a w ⟨ha.1, ha.2.mono fun m hm' => ⟨fun _ => none, m, fun _ => .inl rfl, fun _ _ e => by simp at e, Mem.sub.refl _, ownSl_nil, hm'⟩⟩
theorem GC.ownNil {α : Type} {cd : Code} (sz : Nat) (c : ERel α) (T : TypeId) (k : GC κ P cd ks Q (Hd n D S F (ownSl sz c F T none 0 [] :: hs)) m r) : GC κ P cd ks Q (Hd n D S F hs) m r :=
  fun hm a w ha => k hm a w ⟨ha.1, ha.2.mono fun m hm' => ⟨fun _ => none, m, fun _ => .inl rfl, fun _ _ e => by simp at e, Mem.sub.refl _, ownSl_nil, hm'⟩⟩
theorem SH.ownUp {α : Type} {sz : Nat} {c : ERel α} {T : TypeId} {p : Option Addr} {cap : Nat} {l : List α} {w : World} {i : Nat} (le : F0 ≤ F) (hi : hs[i]? = some (ownSl sz c F0 T p cap l)) (h : SH w F (stars hs)) : SH w F (stars (hs.set i (ownSl sz c F T p cap l))) :=
  SH.push hi ((h.pull hi).mono fun _m hm => star_mono_left (fun _ => ownSl_up le) hm)
theorem GL.ownUp {α : Type} {sz : Nat} {c : ERel α} {T : TypeId} {p : Option Addr} {cap : Nat} {l : List α} (i : Nat) (le : F0 ≤ F) (hi : hs[i]? = some (ownSl sz c F0 T p cap l)) (k : GL κ P ops rest ks Q (Hd n D S F (hs.set i (ownSl sz c F T p cap l))) m r) : GL κ P ops rest ks Q (Hd n D S F hs) m r :=
  fun hm a w ha => k hm a w ⟨ha.1, ha.2.ownUp le hi⟩
theorem GE.ownUp {α : Type} {sz : Nat} {c : ERel α} {T : TypeId} {p : Option Addr} {cap : Nat} {l : List α} (i : Nat) (le : F0 ≤ F) (hi : hs[i]? = some (ownSl sz c F0 T p cap l)) (k : GE κ P ks Q (Hd n D S F (hs.set i (ownSl sz c F T p cap l))) m r) : GE κ P ks Q (Hd n D S F hs) m r :=
  fun hm a w ha => k hm a w ⟨ha.1, ha.2.ownUp le hi⟩
theorem GC.ownUp {α : Type} {sz : Nat} {c : ERel α} {T : TypeId} {p : Option Addr} {cap : Nat} {l : List α} {cd : Code} (i : Nat) (le : F0 ≤ F) (hi : hs[i]? = some (ownSl sz c F0 T p cap l)) (k : GC κ P cd ks Q (Hd n D S F (hs.set i (ownSl sz c F T p cap l))) m r) : GC κ P cd ks Q (Hd n D S F hs) m r :=
  fun hm a w ha => k hm a w ⟨ha.1, ha.2.ownUp le hi⟩
theorem GL.freezeSl {α : Type} {sz : Nat} {c : ERel α} {T : TypeId} {p : Option Addr} {cap : Nat} {l : List α} (i : Nat) (hi : hs[i]? = some (ownSl sz c F0 T p cap l)) (le0 : F0 ≤ F)
    (k : ∀ F', F ≤ F' → RepSl sz c F' p cap l → GL κ P ops rest ks Q (Hd n D S F' (hs.eraseIdx i)) m r) : GL κ P ops rest ks Q (Hd n D S F hs) m r :=
  fun hm a w ha => by
    obtain ⟨F', le, h1, h2⟩ := (ha.2.pull hi).freezeSl le0
    exact k F' le h2 hm a w ⟨ha.1, h1⟩
theorem GE.freezeSl {α : Type} {sz : Nat} {c : ERel α} {T : TypeId} {p : Option Addr} {cap : Nat} {l : List α} (i : Nat) (hi : hs[i]? = some (ownSl sz c F0 T p cap l)) (le0 : F0 ≤ F)
    (k : ∀ F', F ≤ F' → RepSl sz c F' p cap l → GE κ P ks Q (Hd n D S F' (hs.eraseIdx i)) m r) : GE κ P ks Q (Hd n D S F hs) m r :=
  fun hm a w ha => by
    obtain ⟨F', le, h1, h2⟩ := (ha.2.pull hi).freezeSl le0
    exact k F' le h2 hm a w ⟨ha.1, h1⟩
theorem GC.freezeSl {α : Type} {sz : Nat} {c : ERel α} {T : TypeId} {p : Option Addr} {cap : Nat} {l : List α} {cd : Code} (i : Nat) (hi : hs[i]? = some (ownSl sz c F0 T p cap l)) (le0 : F0 ≤ F)
    (k : ∀ F', F ≤ F' → RepSl sz c F' p cap l → GC κ P cd ks Q (Hd n D S F' (hs.eraseIdx i)) m r) : GC κ P cd ks Q (Hd n D S F hs) m r :=
  fun hm a w ha => by
    obtain ⟨F', le, h1, h2⟩ := (ha.2.pull hi).freezeSl le0
    exact k F' le h2 hm a w ⟨ha.1, h1⟩

/-- The address of an element, for a text that draws its order. -/
theorem RepSl.idxE {α : Type} {sz : Nat} {c : ERel α} {p : Option Addr} {cap : Nat} {l : List α} {x : Int} {z : α} (hr : RepSl sz c F p cap l) (hi : idxL l x = some z) :
    ∃ b o T fr cs, F.mem b = some (.cells (List.toArray cs) T fr) ∧ c F z ((cs.drop o).take sz) ∧ ∃ o0, p = some ⟨b, o0, none⟩ ∧ o = o0 + x.toNat * sz ∧ idxO l.length x = some x.toNat := by
  obtain ⟨h0, h1, h2⟩ := idxL_some hi
  obtain ⟨b, o, T, fr, cs, rfl, h3, h4⟩ := hr.at_ h2
  exact ⟨b, _, T, fr, cs, h3, h4, o, rfl, rfl, by unfold idxO; rw [if_pos (by omega)]⟩
theorem GL.idxQ {d : Nat} {ty t e : TypeId} {pos : String} {after : Array Edge} {ox oy : Operand} {kd : IntKind} {x : Int} {sz len cap b o : Nat} {p : Option Addr} (hd : Nat.blt d n = true) (ht : P.underlying t = some (.slice e)) (hz : ∀ w, (sizeOf e).run P w = .ok sz w)
    (hq : ∃ o0, p = some ⟨b, o0, none⟩ ∧ o = o0 + x.toNat * sz ∧ idxO len x = some x.toNat) (hx : evalS S ox = some (.slice p len cap)) (hy : evalS S oy = some (.int kd x))
    (k : GL κ P ops rest ks Q (Hd n D ((d, .pointer (some ⟨b, o, none⟩)) :: S) F hs) m r) :
    GL κ P ops (⟨some d, .indexAddr t ox oy, ty, pos, after, none⟩ :: rest) ks Q (Hd n D S F hs) m r := by
  obtain ⟨o0, rfl, rfl, hj⟩ := hq
  exact GL.indexAddrS hd ht hz hx hy hj k
end
end Go.Dec
