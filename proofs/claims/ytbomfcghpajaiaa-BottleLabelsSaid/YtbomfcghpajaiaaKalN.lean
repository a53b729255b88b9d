/- == of structs and arrays. No program. -/
import Derived.Test.YtbomfcghpajaiaaKalM
namespace Go.Dec
variable {κ : Option Nat}

section
variable {β : Type} {P : Program} {ops : Array Oper} {rest : List Oper} {ks : List Kt} {Q : Exit → Act → World → Prop} {m : Option β} {r : β}
variable {n : Nat} {D : List Deferred} {S : List (Nat × Value)} {F F0 : Fz} {hs : List HP}
theorem GL.ownConv {α : Type} {sz : Nat} {c : ERel α} {T : TypeId} {p : Option Addr} {cap : Nat} {l l' : List α} (i : Nat) (_hi : hs[i]? = some (ownSl sz c F0 T p cap l)) (e : l = l') (k : GL κ P ops rest ks Q (Hd n D S F (hs.set i (ownSl sz c F0 T p cap l'))) m r) : GL κ P ops rest ks Q (Hd n D S F hs) m r := by
  subst e
  have : hs.set i (ownSl sz c F0 T p cap l) = hs := by
    apply List.ext_getElem?
    intro j
    rw [List.getElem?_set]
    split
    · rename_i h; subst h
      split
      · exact _hi.symm
      · rename_i h; rw [List.getElem?_eq_none (by omega)]
    · rfl
  rw [this] at k; exact k
end
theorem part1 {P : Program} {t : TypeId} {cs : List Value} {o : Nat} {v : Value} (hA : ∀ w, (isAgg t).run P w = .ok false w) (h : cs[o]? = some v) (w : World) : (part t cs.toArray o).run P w = .ok v w := by
  simp [part, hA, h]
theorem partA {P : Program} {t : TypeId} {cs : List Value} {o z : Nat} {vs : List Value} (hA : ∀ w, (isAgg t).run P w = .ok true w) (hz : ∀ w, (sizeOf t).run P w = .ok z w) (h : (cs.drop o).take z = vs) (w : World) : (part t cs.toArray o).run P w = .ok (.agg vs.toArray) w := by
  subst h
  simp [part, hA, hz]
def EqFs (P : Program) (d : Nat) (xs ys : Array Value) : List Field → List Bool → Prop
  | [], [] => True
  | f :: fs, b :: bs => (f.name = "_") = False ∧ (∃ u v, (∀ w, (part f.type xs f.offset).run P w = .ok u w) ∧ (∀ w, (part f.type ys f.offset).run P w = .ok v w) ∧ ∀ w, (Op.equalIn d f.type u v).run P w = .ok b w) ∧ EqFs P d xs ys fs bs
  | _, _ => False
theorem eq_int {P : Program} {t : TypeId} {k k' : IntKind} {x y : Int} (ht : P.underlying t = some (.int k')) (n : Nat) (w : World) : (Op.equalIn (n + 1) t (.int k x) (.int k y)).run P w = .ok (x == y) w := by
  simp [Op.equalIn, rUnd ht]
theorem eq_fields {P : Program} {xs ys : Array Value} {d : Nat} {w : World} : ∀ {fs : List Field} {bs : List Bool}, EqFs P d xs ys fs bs →
    ((forIn fs ((none : Option Bool), ()) fun f (_ : Option Bool × Unit) =>
      if f.name = "_" then (pure (ForInStep.yield (none, ())) : Sem (ForInStep (Option Bool × Unit)))
      else do
        let u ← part f.type xs f.offset
        let v ← part f.type ys f.offset
        let b ← Op.equalIn d f.type u v
        if b = false then pure (ForInStep.done (some false, ())) else pure (ForInStep.yield (none, ()))).run P w) = .ok (if bs.all id then (none, ()) else (some false, ())) w
  | [], [], _ => by simp
  | f :: fs, b :: bs, ⟨h1, ⟨u, v, h2, h3, h4⟩, h5⟩ => by
    have ih := eq_fields (w := w) h5
    rw [List.forIn_cons]
    simp only [h1, if_false, Sem.run_bind, h2, h3, h4, Result.andThen]
    cases b with
    | false => simp
    | true => simpa using ih
theorem eq_struct {P : Program} {t : TypeId} {fs : Array Field} {xs ys : Array Value} {bs : List Bool} {d : Nat} (ht : P.underlying t = some (.struct fs)) (hs : P.stoodInHeld t = false) (h : EqFs P d xs ys fs.toList bs) (w : World) : (Op.equalIn (d + 1) t (.agg xs) (.agg ys)).run P w = .ok (bs.all id) w := by
  have hl := eq_fields (w := w) h
  simp only [Op.equalIn, Sem.run_bind, rUnd ht, Result.andThen]
  simp [hs]
  rw [← Array.forIn_toList, hl]
  cases bs.all id <;> simp
def EqAs (P : Program) (d e sz : Nat) (xs ys : Array Value) : Nat → List Bool → Prop
  | _, [] => True
  | i, b :: bs => (∃ u v, (∀ w, (part e xs (i * sz)).run P w = .ok u w) ∧ (∀ w, (part e ys (i * sz)).run P w = .ok v w) ∧ ∀ w, (Op.equalIn d e u v).run P w = .ok b w) ∧ EqAs P d e sz xs ys (i + 1) bs
theorem eq_elems {P : Program} {xs ys : Array Value} {d e sz : Nat} {w : World} : ∀ {bs : List Bool} {i : Nat}, EqAs P d e sz xs ys i bs →
    ((forIn (List.range' i bs.length) ((none : Option Bool), ()) fun i (_ : Option Bool × Unit) => (do
        let u ← part e xs (i * sz)
        let v ← part e ys (i * sz)
        let b ← Op.equalIn d e u v
        if b = false then pure (ForInStep.done (some false, ())) else pure (ForInStep.yield (none, ())) : Sem (ForInStep (Option Bool × Unit)))).run P w) = .ok (if bs.all id then (none, ()) else (some false, ())) w
  | [], i, _ => by simp
  | b :: bs, i, ⟨⟨u, v, h2, h3, h4⟩, h5⟩ => by
    have ih := eq_elems (w := w) h5
    rw [List.length_cons, List.range'_succ, List.forIn_cons]
    simp only [Sem.run_bind, h2, h3, h4, Result.andThen]
    cases b with
    | false => simp
    | true => simpa using ih
theorem eq_array {P : Program} {t e sz len : Nat} {xs ys : Array Value} {bs : List Bool} {d : Nat} (ht : P.underlying t = some (.array len e)) (hz : ∀ w, (sizeOf e).run P w = .ok sz w) (hl : bs.length = len) (h : EqAs P d e sz xs ys 0 bs) (w : World) : (Op.equalIn (d + 1) t (.agg xs) (.agg ys)).run P w = .ok (bs.all id) w := by
  have hl' := eq_elems (w := w) h
  subst hl
  simp only [Op.equalIn, Sem.run_bind, rUnd ht, Result.andThen, hz]
  simp [Std.Legacy.Range.forIn_eq_forIn_range', Std.Legacy.Range.size]
  rw [hl']
  cases bs.all id <;> simp
end Go.Dec
