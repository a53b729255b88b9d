/- The operations that look into memory, write it or make it; calls; the ends of a function. No program. -/
import Derived.Test.YtbomfcghpajaiaaKalC
namespace Go.Dec
variable {κ : Option Nat}

/-! ### Memory, an operation at a time -/
theorem cell_of_heap {w : World} {b : Nat} {cs : List Value} {T : TypeId} {fr : Nat × Nat} (h : w.heap[b]? = some (.cells cs.toArray T fr)) (o : Nat) : w.cell? ⟨b, o, none⟩ = cs[o]? := by
  simp [World.cell?, h]
theorem frozen_of_heap {w : World} {b : Nat} {cs : Array Value} {T : TypeId} (h : w.heap[b]? = some (.cells cs T (0, 0))) (o : Nat) : w.frozen? ⟨b, o, none⟩ = false := by
  simp [World.frozen?, h]
theorem setCell_put {w : World} {b o : Nat} {cs : List Value} {T : TypeId} {fr : Nat × Nat} {v : Value} (h : w.heap[b]? = some (.cells cs.toArray T fr)) : w.setCell ⟨b, o, none⟩ v = put w b (.cells (cs.set o v).toArray T fr) := by
  have hlt := lt_of_heap h
  unfold World.setCell put
  congr 1
  apply Array.ext_getElem?
  intro k
  rw [Array.getElem?_modify]
  by_cases hk : b = k
  · subst hk
    have e : w.heap[b] = .cells cs.toArray T fr := by simpa [hlt] using h
    simp [hlt, e]
  · simp [hk]
theorem put_put (w : World) (b : Nat) (x y : Obj) : put (put w b x) b y = put w b y := by
  simp [put]
theorem put_self {w : World} {b : Nat} {o : Obj} (h : w.heap[b]? = some o) : put w b o = w := by
  have hlt := lt_of_heap h
  unfold put
  congr 1
  apply Array.ext_getElem?
  intro k
  by_cases hk : b = k
  · subst hk
    have e : w.heap[b] = o := by simpa [hlt] using h
    simp [hlt, e]
  · simp [hk]

def setMany : List Value → Nat → List Value → List Value
  | cs, _, [] => cs
  | cs, o, v :: vs => setMany (cs.set o v) (o + 1) vs
theorem length_setMany : ∀ (cs : List Value) (o : Nat) (vs : List Value), (setMany cs o vs).length = cs.length
  | _, _, [] => rfl
  | cs, o, v :: vs => by simp [setMany, length_setMany]

theorem run_storeCells {P : Program} {b o T : Nat} : ∀ {vs : List Value} {cs : List Value} {i : Nat} {w : World}, w.heap[b]? = some (.cells cs.toArray T (0, 0)) → o + i + vs.length ≤ cs.length → vs.all Value.oneCell' = true →
    (storeCells ⟨b, o, none⟩ vs i).run P w = .ok () (put w b (.cells (setMany cs (o + i) vs).toArray T (0, 0)))
  | [], cs, i, w, h, _, _ => by simp [storeCells, setMany, put_self h]
  | v :: vs, cs, i, w, h, hl, hv => by
    simp only [List.all_cons, Bool.and_eq_true] at hv
    simp only [List.length_cons] at hl
    have hc : w.cell? ⟨b, o + i, none⟩ = some cs[o + i] := by rw [cell_of_heap h]; simp
    simp only [storeCells, Sem.run_bind, add_addr, run_store P w _ v .plain hv.1, hc, frozen_of_heap h, Bool.false_eq_true, if_false, Result.andThen, setCell_put h]
    rw [run_storeCells (cs := cs.set (o + i) v) (heap_put_same h) (by simp; omega) hv.2, put_put]
    simp [setMany, Nat.add_assoc]

theorem run_loadCells' {P : Program} {b o T : Nat} {cs : List Value} {fr : Nat × Nat} {w : World} {z : Nat} {vs : List Value} (h : w.heap[b]? = some (.cells cs.toArray T fr)) (hv : (cs.drop o).take z = vs) (hz : vs.length = z) : (loadCells ⟨b, o, none⟩ z).run P w = .ok vs.toArray w := by
  subst hz
  refine run_loadCells_list w ⟨b, o, none⟩ vs fun j v e => ?_
  rw [add_addr, cell_of_heap h]
  have e' := e
  rw [← hv] at e
  rw [List.getElem?_take, List.getElem?_drop] at e
  split at e
  · exact e
  · cases e

section
variable {β : Type} {P : Program} {ops : Array Oper} {rest : List Oper} {ks : List Kt} {Q : Exit → Act → World → Prop} {m : Option β} {r : β}
variable {n : Nat} {D : List Deferred} {S : List (Nat × Value)} {F : Fz} {hs : List HP}
variable {d : Nat} {ty t t' : TypeId} {pos : String} {after : Array Edge} {ox oy oz : Operand} {v u : Value} {kd : IntKind} {x y : Int}

/-- A new variable, owned. -/
theorem GL.alloc {z : Value} {cs : List Value} (hd : Nat.blt d n = true) (hz : ∀ w, (zeroValue t).run P w = .ok z w) (hc : z.cells = cs.toArray)
    (k : ∀ b, GL κ P ops rest ks Q (Hd n D ((d, .pointer (some ⟨b, 0, none⟩)) :: S) F (pt b (.cells cs.toArray t) :: hs)) m r) :
    GL κ P ops (⟨some d, .alloc t, ty, pos, after, none⟩ :: rest) ks Q (Hd n D S F hs) m r :=
  GL.step rfl (.inr rfl) fun hm a w ha => by
    refine ⟨.pointer (some ⟨w.heap.size, 0, none⟩), w.alloc (.cells cs.toArray t), ?_, k w.heap.size hm _ _ ⟨ha.1.put hd _, ha.2.alloc _⟩⟩
    simp [execOp, Instr.alloc, hz, newVar, newRow, hc]
theorem GL.box {cs : List Value} (hd : Nat.blt d n = true) (hx : evalS S ox = some v) (hc : v.cells = cs.toArray)
    (k : ∀ b, GL κ P ops rest ks Q (Hd n D ((d, .pointer (some ⟨b, 0, none⟩)) :: S) F (pt b (.cells cs.toArray t) :: hs)) m r) :
    GL κ P ops (⟨some d, .box t ox, ty, pos, after, none⟩ :: rest) ks Q (Hd n D S F hs) m r :=
  GL.step rfl (.inr rfl) fun hm a w ha => by
    refine ⟨.pointer (some ⟨w.heap.size, 0, none⟩), w.alloc (.cells cs.toArray t), ?_, k w.heap.size hm _ _ ⟨ha.1.put hd _, ha.2.alloc _⟩⟩
    simp [execOp, Instr.box, ha.1.eval hx, newVar, newRow, hc]
/-- A new variable that is never written again. -/
theorem GL.boxF {cs : List Value} (hd : Nat.blt d n = true) (hx : evalS S ox = some v) (hc : v.cells = cs.toArray)
    (k : ∀ b F', F ≤ F' → F'.mem b = some (.cells cs.toArray t) → GL κ P ops rest ks Q (Hd n D ((d, .pointer (some ⟨b, 0, none⟩)) :: S) F' hs) m r) :
    GL κ P ops (⟨some d, .box t ox, ty, pos, after, none⟩ :: rest) ks Q (Hd n D S F hs) m r :=
  GL.step rfl (.inr rfl) fun hm a w ha => by
    obtain ⟨h1, h2⟩ := ha.2.allocF (.cells cs.toArray t)
    refine ⟨.pointer (some ⟨w.heap.size, 0, none⟩), w.alloc (.cells cs.toArray t), ?_, k w.heap.size _ h1 (Fz.add_self ..) hm _ _ ⟨ha.1.put hd _, h2⟩⟩
    simp [execOp, Instr.box, ha.1.eval hx, newVar, newRow, hc]

theorem run_load1 {P : Program} {t b o : Nat} {w : World} (hA : ∀ w, (isAgg t).run P w = .ok false w) (h : w.cell? ⟨b, o, none⟩ = some v) : (Instr.loadAt t (.pointer (some ⟨b, o, none⟩))).run P w = .ok v w := by
  simp [Instr.loadAt, Instr.sureAddr, loadVar, hA, h]
theorem run_loadA {P : Program} {t b o T z : Nat} {cs vs : List Value} {fr : Nat × Nat} {w : World} (hA : ∀ w, (isAgg t).run P w = .ok true w) (hz : ∀ w, (sizeOf t).run P w = .ok z w) (h : w.heap[b]? = some (.cells cs.toArray T fr)) (hv : (cs.drop o).take z = vs) (hl : vs.length = z) :
    (Instr.loadAt t (.pointer (some ⟨b, o, none⟩))).run P w = .ok (.agg vs.toArray) w := by
  simp [Instr.loadAt, Instr.sureAddr, loadVar, hA, hz, run_loadCells' h hv hl]

/-- A load out of what is frozen. -/
theorem GL.loadF {b o T : Nat} {cs : List Value} {fr : Nat × Nat} (hd : Nat.blt d n = true) (hA : ∀ w, (isAgg t).run P w = .ok false w) (hx : evalS S ox = some (.pointer (some ⟨b, o, none⟩))) (hb : F.mem b = some (.cells cs.toArray T fr)) (hv : cs[o]? = some v)
    (k : GL κ P ops rest ks Q (Hd n D ((d, v) :: S) F hs) m r) : GL κ P ops (⟨some d, .load t ox, ty, pos, after, none⟩ :: rest) ks Q (Hd n D S F hs) m r :=
  GL.val hd (fun a w ha => by simp [execOp, ha.1.eval hx, run_load1 hA (by rw [cell_of_heap (ha.2.frozen hb)]; exact hv)]) k
theorem GL.loadFA {b o T z : Nat} {cs vs : List Value} {fr : Nat × Nat} (hd : Nat.blt d n = true) (hA : ∀ w, (isAgg t).run P w = .ok true w) (hz : ∀ w, (sizeOf t).run P w = .ok z w) (hx : evalS S ox = some (.pointer (some ⟨b, o, none⟩))) (hb : F.mem b = some (.cells cs.toArray T fr)) (hv : (cs.drop o).take z = vs) (hl : vs.length = z)
    (k : GL κ P ops rest ks Q (Hd n D ((d, .agg vs.toArray) :: S) F hs) m r) : GL κ P ops (⟨some d, .load t ox, ty, pos, after, none⟩ :: rest) ks Q (Hd n D S F hs) m r :=
  GL.val hd (fun a w ha => by simp [execOp, ha.1.eval hx, run_loadA hA hz (ha.2.frozen hb) hv hl]) k
/-- A load out of what is owned. -/
theorem GL.loadO {b o T i : Nat} {cs : List Value} {fr : Nat × Nat} (hd : Nat.blt d n = true) (hA : ∀ w, (isAgg t).run P w = .ok false w) (hx : evalS S ox = some (.pointer (some ⟨b, o, none⟩))) (hb : hs[i]? = some (pt b (.cells cs.toArray T fr))) (hv : cs[o]? = some v)
    (k : GL κ P ops rest ks Q (Hd n D ((d, v) :: S) F hs) m r) : GL κ P ops (⟨some d, .load t ox, ty, pos, after, none⟩ :: rest) ks Q (Hd n D S F hs) m r :=
  GL.val hd (fun a w ha => by simp [execOp, ha.1.eval hx, run_load1 hA (by rw [cell_of_heap (SH.ownedAt hb ha.2)]; exact hv)]) k
theorem GL.loadOA {b o T z i : Nat} {cs vs : List Value} {fr : Nat × Nat} (hd : Nat.blt d n = true) (hA : ∀ w, (isAgg t).run P w = .ok true w) (hz : ∀ w, (sizeOf t).run P w = .ok z w) (hx : evalS S ox = some (.pointer (some ⟨b, o, none⟩))) (hb : hs[i]? = some (pt b (.cells cs.toArray T fr))) (hv : (cs.drop o).take z = vs) (hl : vs.length = z)
    (k : GL κ P ops rest ks Q (Hd n D ((d, .agg vs.toArray) :: S) F hs) m r) : GL κ P ops (⟨some d, .load t ox, ty, pos, after, none⟩ :: rest) ks Q (Hd n D S F hs) m r :=
  GL.val hd (fun a w ha => by simp [execOp, ha.1.eval hx, run_loadA hA hz (SH.ownedAt hb ha.2) hv hl]) k

/-- A store into what is owned. -/
theorem GL.store {b o T i z : Nat} {cs vs cs' : List Value} (hz : ∀ w, (sizeOf t).run P w = .ok z w) (hx : evalS S ox = some (.pointer (some ⟨b, o, none⟩))) (hy : evalS S oy = some v) (hc : v.cells = vs.toArray) (hl : vs.length = z)
    (hb : hs[i]? = some (pt b (.cells cs.toArray T (0, 0)))) (ho : o + vs.length ≤ cs.length) (h1 : vs.all Value.oneCell' = true) (hcs : setMany cs o vs = cs')
    (k : GL κ P ops rest ks Q (Hd n D S F (hs.set i (pt b (.cells cs'.toArray T (0, 0))))) m r) :
    GL κ P ops (⟨none, .store t ox oy, ty, pos, after, none⟩ :: rest) ks Q (Hd n D S F hs) m r :=
  GL.stepU rfl (.inr rfl) fun hm a w ha => by
    subst hcs
    have h := SH.ownedAt hb ha.2
    refine ⟨put w b (.cells (setMany cs o vs).toArray T (0, 0)), ?_, k hm _ _ ⟨ha.1.put_none _, SH.putAt hb ha.2 _⟩⟩
    have hr := run_storeCells (P := P) (o := o) (i := 0) h (by simpa using ho) h1
    simp only [Nat.add_zero] at hr
    simp only [execOp, Instr.storeAt, ha.1.eval hx, ha.1.eval hy, Instr.sureAddr, storeVar, Sem.run_bind, hz, Result.andThen, hc]
    simp [hl, hr]

/-! ### Calls -/
theorem run_call {a : Act} {f : FuncId} {caps : List Value} {of : Operand} {os : List Operand} {T : Array TypeId} {vs : List Value} {w : World} (hs : Sl n D S a) (hcall : ∀ args w, (callFunc f args).run P w = .ok (.enter f args) w)
    (hf : evalS S of = some (.func (.func f) #[] caps.toArray)) (ha : evalL S os = some vs) {dst : Option Tmp} :
    (execOp a.eval ⟨dst, .call ⟨.value of, os.toArray, T⟩, ty, pos, after, none⟩).run P w = .ok (.enter f (vs ++ caps).toArray) w := by
  have e := evalL_map hs ha
  simp [execOp, resolve, Deferred.ofValue, hs.eval hf, e, invoke, hcall]

theorem GL.callG {A : Act → World → Prop} {o : Oper} {f : FuncId} {args : Array Value} (hg : o.guard = none) (hnd : κ = none ∨ noDefer o.op = true)
    (h : m = some r → ∀ a w, A a w → (execOp a.eval o).run P w = .ok (.enter f args) w ∧ Calls P f args w (fun e w' => ∃ v, e = .returned v ∧ wpL κ P ops (interp κ P ks Q) rest (a.put o.dst v) w')) :
    GL κ P ops (o :: rest) ks Q A m r := by
  intro hm a w ha
  obtain ⟨h1, h2⟩ := h hm a w ha
  unfold wpL
  rw [if_pos (by simp [Region.wanted, hg])]
  refine ⟨hnd, ?_⟩
  rw [h1]
  refine ⟨fun e => (by rw [fen_depth] at e; cases e), calls_fen.2 (h2.mono ?_)⟩
  rintro e w' ⟨v, rfl, h⟩
  exact h

theorem GL.call0 {α : Type} {f : FuncId} {caps as vs : List Value} {of : Operand} {os : List Operand} {T : Array TypeId} {e : Option α} {ρ : α → Fz → Value → Prop} {g : α → Option β} (hd : Nat.blt d n = true)
    (hcall : ∀ args w, (callFunc f args).run P w = .ok (.enter f args) w) (hf : evalS S of = some (.func (.func f) #[] caps.toArray)) (ha : evalL S os = some vs) (has : vs ++ caps = as)
    (hc : CT0 P f as.toArray F e ρ) (k : ∀ x F' v, e = some x → F ≤ F' → ρ x F' v → GL κ P ops rest ks Q (Hd n D ((d, v) :: S) F' hs) (g x) r) :
    GL κ P ops (⟨some d, .call ⟨.value of, os.toArray, T⟩, ty, pos, after, none⟩ :: rest) ks Q (Hd n D S F hs) (e.bind g) r :=
  GL.callG rfl (.inr rfl) fun hm a w hA => by
    subst has
    refine ⟨run_call hA.1 hcall hf ha, ?_⟩
    cases he : e with
    | none => rw [he] at hm; cases hm
    | some y =>
      rw [he] at hm
      refine (hc y he w _ hA.2).mono ?_
      rintro _ w' ⟨F', v, le, rfl, hρ, hw⟩
      exact ⟨v, rfl, k y F' v he le hρ hm _ _ ⟨hA.1.put hd _, hw⟩⟩

/-- A call whose model cannot fail. -/
theorem GL.callP {α : Type} {f : FuncId} {caps as vs : List Value} {of : Operand} {os : List Operand} {T : Array TypeId} {e : α} {ρ : α → Fz → Value → Prop} (hd : Nat.blt d n = true)
    (hcall : ∀ args w, (callFunc f args).run P w = .ok (.enter f args) w) (hf : evalS S of = some (.func (.func f) #[] caps.toArray)) (ha : evalL S os = some vs) (has : vs ++ caps = as)
    (hc : CT0 P f as.toArray F (some e) ρ) (k : ∀ F' v, F ≤ F' → ρ e F' v → GL κ P ops rest ks Q (Hd n D ((d, v) :: S) F' hs) m r) :
    GL κ P ops (⟨some d, .call ⟨.value of, os.toArray, T⟩, ty, pos, after, none⟩ :: rest) ks Q (Hd n D S F hs) m r :=
  GL.callG rfl (.inr rfl) fun hm a w hA => by
    subst has
    refine ⟨run_call hA.1 hcall hf ha, ?_⟩
    refine (hc e rfl w _ hA.2).mono ?_
    rintro _ w' ⟨F', v, le, rfl, hρ, hw⟩
    exact ⟨v, rfl, k F' v le hρ hm _ _ ⟨hA.1.put hd _, hw⟩⟩

/-- A call whose result is known from the model. -/
theorem GL.callK {α : Type} {f : FuncId} {caps as vs : List Value} {of : Operand} {os : List Operand} {T : Array TypeId} {e : Option α} {y : α} {ρ : α → Fz → Value → Prop} (he : e = some y) (hd : Nat.blt d n = true)
    (hcall : ∀ args w, (callFunc f args).run P w = .ok (.enter f args) w) (hf : evalS S of = some (.func (.func f) #[] caps.toArray)) (ha : evalL S os = some vs) (has : vs ++ caps = as)
    (hc : CT0 P f as.toArray F e ρ) (k : ∀ F' v, F ≤ F' → ρ y F' v → GL κ P ops rest ks Q (Hd n D ((d, v) :: S) F' hs) m r) :
    GL κ P ops (⟨some d, .call ⟨.value of, os.toArray, T⟩, ty, pos, after, none⟩ :: rest) ks Q (Hd n D S F hs) m r :=
  GL.callP hd hcall hf ha has (he ▸ hc) k

/-- A call that takes the owned thing number i and hands back another one in its place. -/
theorem GL.callH {α : Type} {f : FuncId} {caps as vs : List Value} {of : Operand} {os : List Operand} {T : Array TypeId} {e : Option α} {ρ : α → Fz → Value → Prop} {H : HP} {H' : α → Fz → Value → HP} {g : α → Option β} {i : Nat} (hd : Nat.blt d n = true)
    (hcall : ∀ args w, (callFunc f args).run P w = .ok (.enter f args) w) (hf : evalS S of = some (.func (.func f) #[] caps.toArray)) (ha : evalL S os = some vs) (has : vs ++ caps = as) (hi : hs[i]? = some H)
    (hc : CT P f as.toArray F H e ρ H') (k : ∀ x F' v, e = some x → F ≤ F' → ρ x F' v → GL κ P ops rest ks Q (Hd n D ((d, v) :: S) F' (hs.set i (H' x F' v))) (g x) r) :
    GL κ P ops (⟨some d, .call ⟨.value of, os.toArray, T⟩, ty, pos, after, none⟩ :: rest) ks Q (Hd n D S F hs) (e.bind g) r :=
  GL.callG rfl (.inr rfl) fun hm a w hA => by
    subst has
    refine ⟨run_call hA.1 hcall hf ha, ?_⟩
    cases he : e with
    | none => rw [he] at hm; cases hm
    | some y =>
      rw [he] at hm
      refine (hc y he w _ (hA.2.pull hi)).mono ?_
      rintro _ w' ⟨F', v, le, rfl, hρ, hw⟩
      exact ⟨v, rfl, k y F' v he le hρ hm _ _ ⟨hA.1.put hd _, SH.push hi hw⟩⟩
end

/-! ### The end of a function -/
/-- What the results' slots and variables hold. -/
inductive Res (P : Program) (S : List (Nat × Value)) (F : Fz) (hs : List HP) : List ResultVar → List Value → Prop where
  | nil : Res P S F hs [] []
  | tmp {t : Nat} {v : Value} {rs : List ResultVar} {vs : List Value} (h : lookS S t = some v) (k : Res P S F hs rs vs) : Res P S F hs (.tmp t :: rs) (v :: vs)
  | cell {t i b T : Nat} {ty : TypeId} {v : Value} {cs : List Value} {fr : Nat × Nat} {rs : List ResultVar} {vs : List Value} (h : lookS S t = some (.pointer (some ⟨b, 0, none⟩))) (hA : ∀ w, (isAgg ty).run P w = .ok false w) (hb : hs[i]? = some (pt b (.cells cs.toArray T fr))) (hv : cs[0]? = some v) (k : Res P S F hs rs vs) : Res P S F hs (.cell t ty :: rs) (v :: vs)
  | agg {t i b T z : Nat} {ty : TypeId} {cs vs' : List Value} {fr : Nat × Nat} {rs : List ResultVar} {vs : List Value} (h : lookS S t = some (.pointer (some ⟨b, 0, none⟩))) (hA : ∀ w, (isAgg ty).run P w = .ok true w) (hz : ∀ w, (sizeOf ty).run P w = .ok z w) (hb : hs[i]? = some (pt b (.cells cs.toArray T fr))) (hv : cs.take z = vs') (hl : vs'.length = z) (k : Res P S F hs rs vs) : Res P S F hs (.cell t ty :: rs) (.agg vs'.toArray :: vs)

def tup : List Value → Value
  | [v] => v
  | vs => .tuple vs.toArray

def resVar (tmps : Array Value) : ResultVar → Sem Value
  | .tmp t => pure (tmps.getD t undef)
  | .cell a t => do loadVar t (← asAddr (tmps.getD a undef))

theorem run_resList {P : Program} {n : Nat} {D : List Deferred} {S : List (Nat × Value)} {F : Fz} {hs : List HP} {a : Act} {w : World} (ha : Hd n D S F hs a w) : ∀ {rs : List ResultVar} {vs : List Value}, Res P S F hs rs vs → (rs.mapM (resVar a.tmps)).run P w = .ok vs w
  | _, _, .nil => by simp
  | _, _, .tmp h k => by
    have e := ha.1.2.2 _ _ h
    simp [resVar, e, run_resList ha k]
  | _, _, .cell h hA hb hv k => by
    have e := ha.1.2.2 _ _ h
    have hl := run_load1 (P := P) (w := w) hA (by rw [cell_of_heap (SH.ownedAt hb ha.2)]; exact hv)
    simp only [Instr.loadAt, Instr.sureAddr, Sem.run_bind, Sem.run_pure, Result.andThen] at hl
    simp [resVar, e, run_resList ha k, asAddr, hl]
  | _, _, .agg h hA hz hb hv hl' k => by
    have e := ha.1.2.2 _ _ h
    have hl := run_loadA (P := P) (w := w) (o := 0) hA hz (SH.ownedAt hb ha.2) (by simpa using hv) hl'
    simp only [Instr.loadAt, Instr.sureAddr, Sem.run_bind, Sem.run_pure, Result.andThen] at hl
    simp [resVar, e, run_resList ha k, asAddr, hl]

theorem run_results {P : Program} {n : Nat} {D : List Deferred} {S : List (Nat × Value)} {F : Fz} {hs : List HP} {a : Act} {w : World} {fn : Func} {rs : List ResultVar} {vs : List Value} (hr : fn.results = rs.toArray) (ha : Hd n D S F hs a w) (h : Res P S F hs rs vs) : (results fn a.tmps).run P w = .ok (tup vs) w := by
  have h1 := run_resList ha h
  have e : (results fn a.tmps) = (do let vs ← fn.results.mapM (resVar a.tmps); pure (if h : vs.size = 1 then vs[0] else .tuple vs)) := by
    unfold results; congr 1
  rw [e, hr]
  simp only [List.mapM_toArray, Sem.run_bind, Sem.run_map, h1, Result.andThen, Sem.run_pure]
  congr 1
  match vs with
  | [] => rfl
  | [v] => rfl
  | v :: u :: vs => simp [tup]

section
variable {β : Type} {P : Program} {n : Nat} {S : List (Nat × Value)} {F F' : Fz} {hs : List HP} {ks : List Kt} {fn : Func} {R : HP} {ρ : β → Fz → Value → Prop} {x r : β} {rs : List ResultVar} {vs : List Value} {i : Nat}
theorem ret_post0 (hr : fn.results = rs.toArray) (h : Res P S F' hs rs vs) (hi : hs[i]? = some R) (le : F ≤ F') (hρ : ρ x F' (tup vs)) :
    some x = some r → ∀ a w, Hd n [] S F' hs a w → fnPost0 P fn F R ρ r .ret a w := by
  intro e a w ha
  simp only [Option.some.injEq] at e
  subst e
  exact ⟨ha.1.2.1, _, run_results hr ha h, F', _, le, rfl, hρ, ha.2.only hi⟩
theorem GC.ret0 (hr : fn.results = rs.toArray) (h : Res P S F' hs rs vs) (hi : hs[i]? = some R) (le : F ≤ F') (hρ : ρ x F' (tup vs)) :
    GC κ P .ret ks (fnPost0 P fn F R ρ r) (Hd n [] S F' hs) (some x) r := GC.retQ (ret_post0 hr h hi le hρ)
theorem GE.end0 (hr : fn.results = rs.toArray) (h : Res P S F' hs rs vs) (hi : hs[i]? = some R) (le : F ≤ F') (hρ : ρ x F' (tup vs)) :
    GE κ P [] (fnPost0 P fn F R ρ r) (Hd n [] S F' hs) (some x) r := GE.nil (ret_post0 hr h hi le hρ)

theorem SH.pick2 {w : World} {F : Fz} {hs : List HP} {i j : Nat} {p q : HP} (hi : hs[i]? = some p) (hj : (hs.eraseIdx i)[j]? = some q) (h : SH w F (stars hs)) : SH w F (star p q) :=
  (h.pull hi).mono fun _ hm => by
    obtain ⟨m1, m2, d, s1, s2, hp, hq⟩ := hm
    obtain ⟨m3, _, _, t1, _, hq', _⟩ := stars_pull hj hq
    exact ⟨m1, m3, d.sub (Mem.sub.refl _) t1, s1, t1.trans s2, hp, hq'⟩
theorem ret_post {H' : β → Fz → Value → HP} {j : Nat} (hr : fn.results = rs.toArray) (h : Res P S F' hs rs vs) (hi : hs[i]? = some (H' x F' (tup vs))) (hj : (hs.eraseIdx i)[j]? = some R) (le : F ≤ F') (hρ : ρ x F' (tup vs)) :
    some x = some r → ∀ a w, Hd n [] S F' hs a w → fnPost P fn F R ρ H' r .ret a w := by
  intro e a w ha
  simp only [Option.some.injEq] at e
  subst e
  exact ⟨ha.1.2.1, _, run_results hr ha h, F', _, le, rfl, hρ, ha.2.pick2 hi hj⟩
theorem GC.ret1 {H' : β → Fz → Value → HP} {j : Nat} (hr : fn.results = rs.toArray) (h : Res P S F' hs rs vs) (hi : hs[i]? = some (H' x F' (tup vs))) (hj : (hs.eraseIdx i)[j]? = some R) (le : F ≤ F') (hρ : ρ x F' (tup vs)) :
    GC κ P .ret ks (fnPost P fn F R ρ H' r) (Hd n [] S F' hs) (some x) r := GC.retQ (ret_post hr h hi hj le hρ)
theorem GE.end1 {H' : β → Fz → Value → HP} {j : Nat} (hr : fn.results = rs.toArray) (h : Res P S F' hs rs vs) (hi : hs[i]? = some (H' x F' (tup vs))) (hj : (hs.eraseIdx i)[j]? = some R) (le : F ≤ F') (hρ : ρ x F' (tup vs)) :
    GE κ P [] (fnPost P fn F R ρ H' r) (Hd n [] S F' hs) (some x) r := GE.nil (ret_post hr h hi hj le hρ)
end

end Go.Dec
