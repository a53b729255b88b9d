/- append, a literal of a slice. No program. -/
import Derived.Test.YtbomfcghpajaiaaKalF
namespace Go.Dec
variable {κ : Option Nat}

theorem run_first {α : Type} {P : Program} {sz : Nat} {c : ERel α} {F : Fz} {p : Option Addr} {cap k : Nat} {l : List α} (hc : ∀ F x vs, c F x vs → vs.length = sz) (hone : ∀ F x vs, c F x vs → vs.all Value.oneCell' = true) (h : RepSl sz c F p cap l) :
    ∃ us : List Value, us.length = l.length * sz ∧ Parts sz c F l us ∧ us.all Value.oneCell' = true ∧ ∀ w : World, (∀ b o, F.mem b = some o → w.heap[b]? = some o) → (Builtin.firstCells sz l.length (.slice p k cap)).run P w = .ok us.toArray w := by
  obtain ⟨_, _, h2⟩ := h
  rcases h2 with h | ⟨b, o, cs, T, fr, rfl, h3, h4⟩
  · subst h
    refine ⟨[], by simp, Parts.nil, rfl, fun w _ => ?_⟩
    cases p <;> simp [Builtin.firstCells, loadCells, loadCellsFrom]
  · have hp : Parts sz c F l (cs.toList.drop o) := fun i x hx F' le => by rw [List.drop_drop]; exact h4 i x hx F' le
    have hl := hp.len hc
    refine ⟨(cs.toList.drop o).take (l.length * sz), by simp at hl ⊢; omega, hp.take, hp.all hone, fun w hw => ?_⟩
    have hb' : w.heap[b]? = some (.cells cs.toList.toArray T fr) := by simpa using hw _ _ h3
    simp only [Builtin.firstCells]
    exact run_loadCells' hb' rfl (by simp at hl ⊢; omega)

def appO {α : Type} (l k : List α) : Option (List α) := if l.length + k.length ≤ 4294967296 then some (l ++ k) else none

theorem growBy_le (need : Nat) : ∀ (rounds c : Nat), c ≤ 2 * need + 1000 → Builtin.growBy need rounds c ≤ 2 * need + 1000
  | 0, c, h => by simpa only [Builtin.growBy] using h
  | rounds + 1, c, h => by
    simp only [Builtin.growBy]
    split
    · exact h
    · exact growBy_le need rounds _ (by omega)

theorem nextcap_le {need cap : Nat} (h : cap < need) : Builtin.nextslicecap need cap ≤ 4 * need + 4000 := by
  unfold Builtin.nextslicecap
  split
  · omega
  · split
    · omega
    · have := growBy_le need 4 cap (by omega); omega

theorem setMany_take : ∀ (vs cs : List Value) (o : Nat), o + vs.length ≤ cs.length → (setMany cs o vs).take (o + vs.length) = cs.take o ++ vs
  | [], cs, o, _ => by simp [setMany]
  | v :: vs, cs, o, h => by
    simp only [List.length_cons] at h
    have := setMany_take vs (cs.set o v) (o + 1) (by simp; omega)
    simp only [setMany, List.length_cons]
    rw [show o + (vs.length + 1) = o + 1 + vs.length by omega, this]
    have e : (cs.set o v).take (o + 1) = cs.take o ++ [v] := by
      rw [List.take_succ_eq_append_getElem (by simp; omega)]
      rw [List.getElem_set_self, List.take_set, List.set_eq_of_length_le (by simp; omega)]
    rw [e]; simp

def nextcapB (need cap by_ : Nat) : Prop := Builtin.nextslicecap need cap * by_ ≤ 281474976710656
theorem nextcapB_of {need cap by_ : Nat} (h : cap < need) (h1 : need ≤ 4294967296) (h2 : by_ ≤ 4096) : nextcapB need cap by_ := by
  have := nextcap_le h
  unfold nextcapB
  exact Nat.le_trans (Nat.mul_le_mul this h2) (by omega)

/-- append of what is frozen to what is owned. -/
theorem run_append {α : Type} {P : Program} {w : World} {F0 F : Fz} {H : HP} {sz e t t2 e2 by_ : Nat} {c : ERel α} {p p2 : Option Addr} {cap cap2 : Nat} {l l2 : List α} {z : Value} {T : Array TypeId} {ty : TypeId} {ti : TypeInfo}
    (le0 : F0 ≤ F) (hc : ∀ F x vs, c F x vs → vs.length = sz) (hone : ∀ F x vs, c F x vs → vs.all Value.oneCell' = true) (ht : P.underlying t = some (.slice e)) (ht2 : P.underlying t2 = some (.slice e2)) (hz : ∀ w, (sizeOf e).run P w = .ok sz w) (hti : ∀ w, (typeInfo e).run P w = .ok ti w) (hby : ti.bytes = by_) (hb0 : by_ ≠ 0) (hb1 : by_ ≤ 4096) (hzero : ∀ w, (zeroValue e).run P w = .ok z w) (hzl : z.cells.size = sz)
    (hT0 : T[0]? = some t) (hT1 : T[1]? = some t2) (h : SH w F (star (ownSl sz c F0 e p cap l) H)) (hr : RepSl sz c F p2 cap2 l2) (hlen : l.length + l2.length ≤ 4294967296) :
    ∃ p' cap' w', (Builtin.append_ T ty #[.slice p l.length cap, .slice p2 l2.length cap2]).run P w = .ok (.slice p' (l ++ l2).length cap') w' ∧ SH w' F (star (ownSl sz c F e p' cap' (l ++ l2)) H) := by
  have hfr : ∀ b o, F.mem b = some o → w.heap[b]? = some o := fun b o e => h.frozen e
  obtain ⟨us2, hus2, hp2, hall, hsrc0⟩ := run_first (P := P) (k := l2.length) hc hone hr
  have hsrc := hsrc0 w hfr
  obtain ⟨m, ⟨m1, m2, d, s1, s2, ⟨h1, h2, h3⟩, hq⟩, k⟩ := h
  by_cases hneed : l.length + l2.length ≤ cap
  · -- there is room
    rcases h3 with ⟨rfl, rfl⟩ | ⟨b, cs, rfl, hb, hl, hp⟩
    · have e1 : l = [] := List.eq_nil_of_length_eq_zero (by omega)
      have e2 : l2 = [] := List.eq_nil_of_length_eq_zero (by omega)
      subst e1 e2
      refine ⟨none, 0, w, ?_, ⟨m, ⟨m1, m2, d, s1, s2, ⟨by simp, by simp, .inl ⟨rfl, rfl⟩⟩, hq⟩, k⟩⟩
      simp only [Builtin.append_]
      simp [hT0, hT1, rUnd ht, rUnd ht2, hz, Builtin.lenOf]
      simp only [List.length_nil] at hsrc hus2
      have : us2 = [] := List.eq_nil_of_length_eq_zero (by simpa using hus2)
      simp [hsrc, this]
    · have hh : SH w F (star (pt b (.cells cs.toArray e (0, 0))) H) := ⟨m, ⟨m1, m2, d, s1, s2, hb, hq⟩, k⟩
      have hbl := hh.owned
      have hroom : l.length * sz + us2.length ≤ cs.length := by
        rw [hus2, hl, ← Nat.add_mul]; exact Nat.mul_le_mul_right sz hneed
      have hst := run_storeCells (P := P) (o := l.length * sz) (i := 0) hbl (by simpa using hroom) hall
      simp only [Nat.add_zero] at hst
      refine ⟨some ⟨b, 0, none⟩, cap, put w b (.cells (setMany cs (l.length * sz) us2).toArray e (0, 0)), ?_, ?_⟩
      · simp only [Builtin.append_]
        simp [hT0, hT1, rUnd ht, rUnd ht2, hz, Builtin.lenOf, hsrc, hneed, add_addr, hst]
      · have hp' := hh.put (o' := .cells (setMany cs (l.length * sz) us2).toArray e (0, 0))
        refine hp'.mono fun m hm => star_mono_left (fun m' hm' => ⟨by simp; exact hneed, h2, .inr ⟨b, _, rfl, hm', by rw [length_setMany]; exact hl, ?_⟩⟩) hm
        have := setMany_take us2 cs (l.length * sz) hroom
        rw [hus2, ← Nat.add_mul] at this
        apply Parts.ofTake
        rw [List.length_append, this]
        exact (hp.mono le0).take.append hp2 (by simp; omega)
  · -- a new row
    have hn : nextcapB (l.length + l2.length) cap by_ := nextcapB_of (Nat.lt_of_not_le hneed) hlen hb1
    have hold : ∃ us : List Value, us.length = l.length * sz ∧ Parts sz c F l us ∧ ∀ w' : World, w'.heap = w.heap → (Builtin.firstCells sz l.length (.slice p l.length cap)).run P w' = .ok us.toArray w' := by
      rcases h3 with ⟨rfl, rfl⟩ | ⟨b, cs, rfl, hb, hl, hp⟩
      · have e1 : l = [] := List.eq_nil_of_length_eq_zero (by omega)
        subst e1; exact ⟨[], by simp, Parts.nil, fun w' _ => by simp [Builtin.firstCells]⟩
      · have hpl := hp.len hc
        refine ⟨cs.take (l.length * sz), by simp; omega, (hp.mono le0).take, fun w' hw' => ?_⟩
        simp only [Builtin.firstCells]
        exact run_loadCells' (cs := cs) (T := e) (fr := (0, 0)) (by rw [hw']; exact k.own _ _ (s1 _ _ hb)) (by simp) (by simp; omega)
    obtain ⟨us, hus, hp1, hold⟩ := hold
    have hsrc' : ∀ w' : World, w'.heap = w.heap → (Builtin.firstCells sz l2.length (.slice p2 l2.length cap2)).run P w' = .ok us2.toArray w' := fun w' hw' => hsrc0 w' fun b o e => by rw [hw']; exact hfr b o e
    have hHq : SH w F H := ⟨m2, hq, k.sub s2⟩
    generalize hq' : Question.appendCap (l.length + l2.length) cap e = q
    have hcap : l.length + l2.length ≤ q.cut (w.tape w.drawn q) ∧ q.cut (w.tape w.drawn q) ≤ 9223372036854775807 := by
      rw [← hq']
      have := Nat.mod_lt (w.tape w.drawn (Question.appendCap (l.length + l2.length) cap e)) (show 0 < 2 ^ 63 - (l.length + l2.length) by omega)
      simp only [Question.cut]; omega
    have hforced : q.forced = false := by rw [← hq']; rfl
    generalize hC : q.cut (w.tape w.drawn q) = C at hcap
    have hdrew : SH { w with drawn := w.drawn + 1 } F H := hHq.drew _
    have halloc := hdrew.alloc (.cells ((us.toArray ++ us2.toArray ++ Builtin.zeroCells z.cells (C - (l.length + l2.length)))) e)
    refine ⟨some ⟨w.heap.size, 0, none⟩, C, _, ?_, halloc.mono fun m hm => star_mono_left (fun m' hm' => ⟨by simp; exact hcap.1, hcap.2, .inr ⟨w.heap.size, (us.toArray ++ us2.toArray ++ Builtin.zeroCells z.cells (C - (l.length + l2.length))).toList, rfl, ?_, ?_, ?_⟩⟩) hm⟩
    · simp only [Builtin.append_]
      have hnb := hn
      unfold nextcapB at hnb
      have hnot : ¬ (2:Nat) ^ 48 < Builtin.nextslicecap (l.length + l2.length) cap * by_ := by omega
      have g1 := hold w.drew rfl
      have g2 := hsrc' w.drew rfl
      simp [hT0, hT1, rUnd ht, rUnd ht2, hz, Builtin.lenOf, hneed, hti, hby, hb0, hnot, hq', hforced, hC, g1, g2, hzero, newRow]
      simp only [← List.append_toArray, Array.append_assoc]
    · unfold pt at hm'; rw [hm']
    · have e3 : (Builtin.zeroCells z.cells (C - (l.length + l2.length))).size = (C - (l.length + l2.length)) * sz := by simp [Builtin.zeroCells, hzl]
      simp only [Array.length_toList, Array.size_append, List.size_toArray, hus, hus2, e3]
      rw [← Nat.add_mul, ← Nat.add_mul]; congr 1; omega
    · have := (hp1.append hp2 hus).weak (us2 := (Builtin.zeroCells z.cells (C - (l.length + l2.length))).toList) (by simp [hus, hus2, Nat.add_mul])
      simpa using this
section
variable {β : Type} {P : Program} {ops : Array Oper} {rest : List Oper} {ks : List Kt} {Q : Exit → Act → World → Prop} {m : Option β} {r : β}
variable {n : Nat} {D : List Deferred} {S : List (Nat × Value)} {F : Fz} {hs : List HP}
variable {d : Nat} {ty t t' t2 e e2 : TypeId} {pos : String} {after : Array Edge} {ox oy oz : Operand} {v u : Value} {kd : IntKind} {x y : Int}

/-- What append asks of an element's type. -/
structure ElemOK {α : Type} (P : Program) (e sz : Nat) (c : ERel α) : Prop where
  len : ∀ F x vs, c F x vs → vs.length = sz
  one : ∀ F x vs, c F x vs → vs.all Value.oneCell' = true
  mono : ∀ F F' x vs, F ≤ F' → c F x vs → c F' x vs
  size : ∀ w, (sizeOf e).run P w = .ok sz w
  info : ∃ ti : TypeInfo, (∀ w, (typeInfo e).run P w = .ok ti w) ∧ ti.bytes ≠ 0 ∧ ti.bytes ≤ 4096
  zero : ∃ z, (∀ w, (zeroValue e).run P w = .ok z w) ∧ z.cells.size = sz
theorem ElemOK.ex {α : Type} {P : Program} {e sz : Nat} {c : α → List Value} (len : ∀ x, (c x).length = sz) (one : ∀ x, (c x).all Value.oneCell' = true) (size : ∀ w, (sizeOf e).run P w = .ok sz w)
    (info : ∃ ti : TypeInfo, (∀ w, (typeInfo e).run P w = .ok ti w) ∧ ti.bytes ≠ 0 ∧ ti.bytes ≤ 4096) (zero : ∃ z, (∀ w, (zeroValue e).run P w = .ok z w) ∧ z.cells.size = sz) : ElemOK P e sz (Ex c) :=
  ⟨fun _ x _ h => h ▸ len x, fun _ x _ h => h ▸ one x, fun _ _ _ _ _ h => h, size, info, zero⟩

theorem GL.append {α : Type} {sz : Nat} {c : ERel α} {F0 : Fz} {p p2 : Option Addr} {cap cap2 : Nat} {l l2 : List α} {f : List α → Option β} {T : Array TypeId} (i : Nat) (E : ElemOK P e sz c) (le0 : F0 ≤ F) (hd : Nat.blt d n = true) (ht : P.underlying t = some (.slice e)) (ht2 : P.underlying t2 = some (.slice e2)) (hT0 : T[0]? = some t) (hT1 : T[1]? = some t2)
    (hi : hs[i]? = some (ownSl sz c F0 e p cap l)) (hr : RepSl sz c F p2 cap2 l2) (hx : evalS S ox = some (.slice p l.length cap)) (hy : evalS S oy = some (.slice p2 l2.length cap2))
    (k : ∀ l' p' cap', appO l l2 = some l' → GL κ P ops rest ks Q (Hd n D ((d, .slice p' l'.length cap') :: S) F (hs.set i (ownSl sz c F e p' cap' l'))) (f l') r) :
    GL κ P ops (⟨some d, .call ⟨.builtin .append, #[ox, oy], T⟩, ty, pos, after, none⟩ :: rest) ks Q (Hd n D S F hs) ((appO l l2).bind f) r :=
  GL.bind fun l' hl => by
    have hl' := hl
    unfold appO at hl
    split at hl
    · rename_i hlen
      simp only [Option.some.injEq] at hl
      subst hl
      obtain ⟨ti, hti, hb0, hb1⟩ := E.info
      obtain ⟨z, hzero, hzl⟩ := E.zero
      refine GL.step rfl (.inr rfl) fun hm a w ha => ?_
      obtain ⟨p', cap', w', hrun, hS⟩ := run_append (P := P) (T := T) (ty := ty) le0 E.len E.one ht ht2 E.size hti rfl hb0 hb1 hzero hzl hT0 hT1 (ha.2.pull hi) hr hlen
      refine ⟨_, w', ?_, k _ p' cap' hl' hm _ _ ⟨ha.1.put hd _, SH.push hi hS⟩⟩
      simp [execOp, resolve, invoke, builtin, ha.1.eval hx, ha.1.eval hy, hrun]
    · cases hl

/-- A slice's literal, never written again. -/
theorem GL.sliceLit {len sz : Nat} {z : Value} {cs zc : List Value} {parts : List (Nat × Operand)} {ps : List (Nat × Value)} (hd : Nat.blt d n = true) (ht : P.underlying t = some (.slice e)) (hz : ∀ w, (sizeOf e).run P w = .ok sz w) (hzero : ∀ w, (zeroValue e).run P w = .ok z w) (h0 : Nat.blt 0 (len * sz) = true) (hbig : Nat.ble (len * sz) 16777216 = true)
    (hx : evalP S parts = some ps) (hzc : (Array.range (len * sz)).map (fun i => z.cells[i % z.cells.size]!) = zc.toArray) (hfill : Instr.fill (fun i => some (i * sz, sz)) zc.toArray ps = some cs.toArray)
    (k : ∀ b F', F ≤ F' → F'.mem b = some (.cells cs.toArray e) → GL κ P ops rest ks Q (Hd n D ((d, .slice (some ⟨b, 0, none⟩) len len) :: S) F' hs) m r) :
    GL κ P ops (⟨some d, .buildSlice t len parts.toArray, ty, pos, after, none⟩ :: rest) ks Q (Hd n D S F hs) m r :=
  GL.step rfl (.inr rfl) fun hm a w ha => by
    obtain ⟨h1, h2⟩ := ha.2.allocF (.cells cs.toArray e)
    refine ⟨.slice (some ⟨w.heap.size, 0, none⟩) len len, w.alloc (.cells cs.toArray e), ?_, k w.heap.size _ h1 (Fz.add_self ..) hm _ _ ⟨ha.1.put hd _, h2⟩⟩
    have hm' := evalP_map ha.1 hx
    have hb1 : 0 < len * sz := Nat.le_of_ble_eq_true h0
    have hb2 := Nat.le_of_ble_eq_true hbig
    have hne : ¬ len * sz = 0 := by omega
    have hgt : ¬ len * sz > 16777216 := by omega
    simp only [execOp, Instr.buildSlice, Sem.run_bind, rUnd ht, hz, Result.andThen, List.map_toArray, hm']
    simp only [Nat.reducePow, hgt, hne, if_false, Sem.run_pure, Result.andThen, Sem.run_bind, hzero, hzc, hfill, newRow, run_newObj, World.alloc_eq]

/-- The same, and it may be written. -/
theorem GL.sliceOwn {α : Type} {len sz : Nat} {z : Value} {cs zc : List Value} {parts : List (Nat × Operand)} {ps : List (Nat × Value)} {c : ERel α} (l : List α) (hd : Nat.blt d n = true) (ht : P.underlying t = some (.slice e)) (hz : ∀ w, (sizeOf e).run P w = .ok sz w) (hzero : ∀ w, (zeroValue e).run P w = .ok z w) (h0 : Nat.blt 0 (len * sz) = true) (hbig : Nat.ble (len * sz) 16777216 = true)
    (hx : evalP S parts = some ps) (hzc : (Array.range (len * sz)).map (fun i => z.cells[i % z.cells.size]!) = zc.toArray) (hfill : Instr.fill (fun i => some (i * sz, sz)) zc.toArray ps = some cs.toArray)
    (hlen : l.length = len) (hcs : cs.length = len * sz) (hp : Parts sz c F l cs)
    (k : ∀ b, GL κ P ops rest ks Q (Hd n D ((d, .slice (some ⟨b, 0, none⟩) len len) :: S) F (ownSl sz c F e (some ⟨b, 0, none⟩) len l :: hs)) m r) :
    GL κ P ops (⟨some d, .buildSlice t len parts.toArray, ty, pos, after, none⟩ :: rest) ks Q (Hd n D S F hs) m r :=
  GL.step rfl (.inr rfl) fun hm a w ha => by
    have hb1 : 0 < len * sz := Nat.le_of_ble_eq_true h0
    have hb2 := Nat.le_of_ble_eq_true hbig
    have hbl : len ≤ 16777216 := by
      rcases Nat.eq_zero_or_pos sz with h | h
      · subst h; simp at hb1
      · exact Nat.le_trans (Nat.le_mul_of_pos_right len h) hb2
    have h1 := ha.2.alloc (.cells cs.toArray e)
    refine ⟨.slice (some ⟨w.heap.size, 0, none⟩) len len, w.alloc (.cells cs.toArray e), ?_, k w.heap.size hm _ _ ⟨ha.1.put hd _, h1.mono fun m hm => star_mono_left (fun m' hm' => ⟨by omega, by omega, .inr ⟨_, cs, rfl, hm', hcs, hp⟩⟩) hm⟩⟩
    have hm' := evalP_map ha.1 hx
    have hne : ¬ len * sz = 0 := by omega
    have hgt : ¬ len * sz > 16777216 := by omega
    simp only [execOp, Instr.buildSlice, Sem.run_bind, rUnd ht, hz, Result.andThen, List.map_toArray, hm']
    simp only [Nat.reducePow, hgt, hne, if_false, Sem.run_pure, Result.andThen, Sem.run_bind, hzero, hzc, hfill, newRow, run_newObj, World.alloc_eq]

theorem RepSl.ofRow {α : Type} {sz : Nat} {c : ERel α} {F : Fz} {b T len : Nat} {cs : List Value} {fr : Nat × Nat} {l : List α} (hb : F.mem b = some (.cells cs.toArray T fr)) (hf : Parts sz c F l cs) (hl : l.length = len) (hlen : Nat.ble len 1000000 = true) : RepSl sz c F (some ⟨b, 0, none⟩) len l := by
  have := Nat.le_of_ble_eq_true hlen
  refine ⟨by omega, by omega, .inr ⟨b, 0, cs.toArray, T, fr, rfl, hb, fun i x hx F' le => ?_⟩⟩
  simpa using hf i x hx F' le
theorem Parts.none {α : Type} {sz : Nat} {c : ERel α} {F : Fz} {us : List Value} : Parts sz c F [] us := Parts.nil
theorem Parts.cons {α : Type} {sz : Nat} {c : ERel α} {F : Fz} {x : α} {l : List α} {us : List Value} (hm : ∀ F F' x vs, F ≤ F' → c F x vs → c F' x vs) (h : c F x (us.take sz)) (h' : Parts sz c F l (us.drop sz)) : Parts sz c F (x :: l) us := fun i y hy F' le => by
  cases i with
  | zero => simp at hy; subst hy; simpa using hm _ _ _ _ le h
  | succ i =>
    have := h' i y (by simpa using hy) F' le
    rw [List.drop_drop] at this
    rwa [show (i + 1) * sz = sz + i * sz by rw [Nat.add_mul]; omega]
end
end Go.Dec
