/- The iterators of the program as lists. -/
import Derived.Test.YtbomfcghpajaiaaT1
import Derived.Test.YtbomfcghpajaiaaKalR
namespace Go.Proofs.Ytbomfcghpajaiaa
open Go.Dec

/-- The bit number k of a set. -/
def kbit (set : Int) (k : Nat) : Bool := (andK .i64 (shrK .i64 set k) 1) == 1
def L_bottle_kinds_1 (set : Int) : Option (List Int) := some (((List.range' 0 8).filter (kbit set)).map fun (k : Nat) => (k : Int))

theorem kinds_aux {σ : Type} {y : Int → σ → Option (σ × Bool)} {set : Int} : ∀ (d k : Nat) (s r : σ), k + d = 8 → foldY y (((List.range' k d).filter (kbit set)).map fun (k : Nat) => (k : Int)) s = some r →
    loopM (b_bottle_kinds_1_1 y set) ((k : Int), s) = some (.inl r) ∨ loopM (b_bottle_kinds_1_1 y set) ((k : Int), s) = some (.inr r)
  | 0, k, s, r, hk, h => by
    obtain rfl : k = 8 := by omega
    simp only [List.range'_zero, List.filter_nil, List.map_nil, foldY, Option.some.injEq] at h
    subst h
    left
    rw [loopM_eq]
    have : (decide (((8 : Nat) : Int) < 8)) = false := by decide
    simp [b_bottle_kinds_1_1]
  | d + 1, k, s, r, hk, h => by
    have hlt : (decide (((k : Nat) : Int) < 8)) = true := by simp; omega
    have hs : shrO .i64 set ((k : Nat) : Int) = some (shrK .i64 set k) := by
      simp only [shrO]; rw [if_neg (by omega)]
    have hw : w64 ((k : Int) + 1) = ((k + 1 : Nat) : Int) := by rw [w64_id (by omega) (by omega)]; rfl
    rw [loopM_eq]
    simp only [List.range'_succ] at h
    by_cases hb : kbit set k = true
    · rw [List.filter_cons_of_pos hb] at h
      simp only [List.map_cons, foldY] at h
      have hb' : andK .i64 (shrK .i64 set (k : Int)) 1 = 1 := by simpa [kbit] using hb
      cases hy : y (k : Int) s with
      | none => rw [hy] at h; cases h
      | some p =>
        rw [hy] at h
        simp only [Option.bind_some] at h
        by_cases hp : p.2 = true
        · rw [if_pos hp] at h
          have := kinds_aux d (k + 1) p.1 r (by omega) h
          simpa [b_bottle_kinds_1_1, hlt, hs, hb', hy, hp, hw] using this
        · rw [if_neg hp] at h
          simp only [Option.some.injEq] at h
          right
          simp [b_bottle_kinds_1_1, hlt, hs, hb', hy, hp, h]
    · rw [List.filter_cons_of_neg hb] at h
      have hb' : ¬ andK .i64 (shrK .i64 set (k : Int)) 1 = 1 := by simpa [kbit] using hb
      have := kinds_aux d (k + 1) s r (by omega) h
      simpa [b_bottle_kinds_1_1, hlt, hs, hb', hw] using this

theorem it_bottle_kinds_1 {σ : Type} {y : Int → σ → Option (σ × Bool)} {set : Int} {l : List Int} {s r : σ} (hl : L_bottle_kinds_1 set = some l) (h : foldY y l s = some r) : m_bottle_kinds_1 y set s = some r := by
  simp only [L_bottle_kinds_1, Option.some.injEq] at hl
  subst hl
  unfold m_bottle_kinds_1
  rcases kinds_aux (y := y) 8 0 s r rfl h with e | e
  · have e' : loopM (b_bottle_kinds_1_1 y set) (0, s) = some (.inl r) := e
    rw [e']; rfl
  · have e' : loopM (b_bottle_kinds_1_1 y set) (0, s) = some (.inr r) := e
    rw [e']; rfl

end Go.Proofs.Ytbomfcghpajaiaa
