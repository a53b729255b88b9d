/- Own texts and texts printed by a program of mine, for exciseArrives_holds; only what it reaches. -/
import Derived.Test.YtadpjmaaokkhjaaPg1
import Derived.Shelf.SlIterI.Nil
section
namespace Go.Dec
variable {κ : Option Nat}
open Go.Maps Go.WideElems Go.RowKit Go.MapKept Go.WideShapes
theorem SH.below {w w' : World} {F : Fz} {H : HP} (h : SH w F H) (hb : Below w.heap.size w w') : SH w' F H := by
  obtain ⟨m, a, k⟩ := h
  refine ⟨m, a, k.dj, fun b c e => ?_, k.gst, fun b o e => ?_, hb.os.trans k.os, hb.tape.trans k.tape, hb.output.trans k.out⟩
  · obtain ⟨o, e1, e2⟩ := k.own b c e
    exact ⟨o, e1, (hb.block b (lt_of_heap e2)).trans e2⟩
  · have := k.frz b o e
    exact (hb.block b (lt_of_heap this)).trans this
theorem SH.newFrozen {w w' : World} {F : Fz} {H : HP} {g : Nat} {o : Obj} (h : SH w F H) (hb : Below w.heap.size w w') (hg : w.heap.size ≤ g) (ho : w'.heap[g]? = some o) : F ≤ F.add g o ∧ SH w' (F.add g o) H := by
  have h' := h.below hb
  obtain ⟨m, a, k⟩ := h
  obtain ⟨m', a', k'⟩ := h'
  have h0 : F.mem g = none := by
    cases e : F.mem g with
    | none => rfl
    | some x => have := lt_of_heap (k.frz g x e); omega
  have h1 : m (.blk g) = none := by
    cases e : m (.blk g) with
    | none => rfl
    | some x => obtain ⟨o', _, e2⟩ := k.own g x e; have := lt_of_heap e2; omega
  refine ⟨Fz.le_add h0, m, a, fun b => ?_, fun b c e => ?_, k.gst, fun b x e => ?_, k'.os, k'.tape, k'.out⟩
  · show m (.blk b) = none ∨ fset F.mem g o b = none
    by_cases e : b = g
    · subst e; exact .inl h1
    · rcases k.dj b with h | h
      · exact .inl h
      · exact .inr (by simpa [fset, e] using h)
  · obtain ⟨o', e1, e2⟩ := k.own b c e
    exact ⟨o', e1, (hb.block b (lt_of_heap e2)).trans e2⟩
  · by_cases e' : b = g
    · subst e'
      have : (F.add b o).mem b = some o := Fz.add_self F b o
      rw [this] at e; cases e; exact ho
    · have : F.mem b = some x := by simpa [Fz.add, fset, e'] using e
      exact (hb.block b (lt_of_heap (k.frz b x this))).trans (k.frz b x this)
def keysS {V : Type} (l : List (Int × V)) : Option (List Int) :=
  if l.all (fun x => decide (-9223372036854775808 ≤ x.1 ∧ x.1 ≤ 9223372036854775807)) = true ∧ l.length ≤ 1000000 then some ((l.map Prod.fst).mergeSort (fun a b => decide (a ≤ b))) else none
abbrev ckI : Int → Value := fun x => .int .i64 x
abbrev nilR : Value → Option (DataW Unit × List MemPlace) := fun _ => some (.nil, [])
theorem keyOf_int {P : Program} {k : TypeId} (hk : P.underlying k = some (.int .i64)) {x : Int} (h : -9223372036854775808 ≤ x ∧ x ≤ 9223372036854775807) : keyOf P k (ckI x) = some (.int .i64 x) := by
  have hw : (Lit.int .i64 x).wf = true := by
    simp [Lit.wf, IntKind.min, IntKind.max, IntKind.bits, IntKind.signed]; omega
  simp [keyOf, hk, mapKey, hw]
theorem rd_int {P : Program} {k : TypeId} (hk : P.underlying k = some (.int .i64)) {x : Int} {e : MapEntry} (he : e.key = ckI x) (h : -9223372036854775808 ≤ x ∧ x ≤ 9223372036854775807) : rd P k nilR e = some (.int .i64 x, .nil) := by
  unfold rd
  rw [he, keyOf_int hk h]
  rfl
theorem MRel.keys {V : Type} {rv : Fz → V → Value → Prop} {F : Fz} {P : Program} {k : TypeId} (hk : P.underlying k = some (.int .i64)) : ∀ {es : List MapEntry} {l : List (Int × V)}, MRel ckI rv F es l → (∀ x ∈ l, (-9223372036854775808 ≤ x.1 ∧ x.1 ≤ 9223372036854775807)) → (es.map (rg P k nilR)).map (fun p => intOf p.1) = l.map Prod.fst ∧ (∀ e ∈ es, ∃ y, rd P k nilR e = some y) ∧ es.map (·.key) = l.map (fun x => ckI x.1)
  | [], [], _, _ => ⟨rfl, by simp, rfl⟩
  | e :: es, x :: l, ⟨h1, _, h3⟩, hb => by
    obtain ⟨g1, g2, g3⟩ := h3.keys hk (fun y hy => hb y (List.mem_cons_of_mem _ hy))
    have h0 := rd_int hk h1 (hb x (by simp))
    refine ⟨?_, ?_, ?_⟩
    · simp only [List.map_cons, g1, rg_of h0]; rfl
    · intro e' he'
      rcases List.mem_cons.1 he' with rfl | h
      · exact ⟨_, h0⟩
      · exact g2 _ h
    · simp only [List.map_cons, g3, h1]
theorem owns_of {V : Type} {rv : Fz → V → Value → Prop} {F : Fz} {P : Program} {k : TypeId} (hk : P.underlying k = some (.int .i64)) {w : World} {b clock : Nat} {es : Array MapEntry} {l' l : List (Int × V)} (hb : w.heap[b]? = some (.map es clock)) (hr : MRel ckI rv F es.toList l') (hbi : Births es.toList clock) (hp : l'.Perm l) (hn : (l.map Prod.fst).Nodup)
    (hall : l.all (fun x => decide (-9223372036854775808 ≤ x.1 ∧ x.1 ≤ 9223372036854775807)) = true) (hlen : l.length ≤ 1000000) :
    ∃ D : DataW Unit, w.ownsMap P k nilR b es.size D ∧ (intKeys D).Perm (l.map Prod.fst) ∧ Maps.size D = l.length := by
  have hb' : ∀ x ∈ l', (-9223372036854775808 ≤ x.1 ∧ x.1 ≤ 9223372036854775807) := fun x hx => by
    have := List.all_eq_true.1 hall x (hp.mem_iff.1 hx)
    simpa using this
  obtain ⟨g1, g2, g3⟩ := hr.keys hk hb'
  have hsz : es.size = l.length := by rw [← hp.length_eq, ← hr.len]; simp
  refine ⟨.map ((es.toList.map (rg P k nilR)).foldr DataW.insert []), ⟨es, clock, hb, ⟨by rw [hsz]; unfold maxLen; omega, ⟨hbi.2, hbi.1.imp fun h => Nat.ne_of_lt h, ?_⟩, g2⟩, Nat.le_refl _, rfl⟩, ?_, ?_⟩
  · rw [g3]
    have h1 : (l'.map Prod.fst).Nodup := ((hp.map Prod.fst).nodup_iff).2 hn
    have e : l'.map (fun x => ckI x.1) = (l'.map Prod.fst).map ckI := by rw [List.map_map]; rfl
    rw [e]
    exact h1.map _ (fun a b hab e => hab (by simpa [ckI] using e))
  · show (((es.toList.map (rg P k nilR)).foldr DataW.insert []).map fun p => intOf p.1).Perm _
    refine ((sorted_perm _).map _).trans ?_
    rw [g1]
    exact hp.map _
  · show ((es.toList.map (rg P k nilR)).foldr DataW.insert []).length = _
    rw [(sorted_perm _).length_eq]; simpa using hsz
theorem sort_eq {a b : List Int} (h : a.Perm b) : a.mergeSort (fun x y => decide (x ≤ y)) = b.mergeSort (fun x y => decide (x ≤ y)) := mergeSort_of_perm_i h
def SortedKeys (P : Program) (fs g : FuncId) (k T : TypeId) : Prop :=
  (∀ (b nn : Nat) (D : DataW Unit) (Bm : Nat) (w : World), Bm < w.heap.size → w.cell? ⟨Bm, 0, none⟩ = some (.map (some b)) → w.ownsMap P k nilR b nn D → Maps.size D ≤ 1000000 →
    Calls P fs #[.func (.func g) #[] #[.pointer (some ⟨Bm, 0, none⟩)]] w fun e w' => ∃ (v : Value) (ss : List Int), e = .returned v ∧ ss.Perm (intKeys D) ∧ w'.ownsRow w.heap.size T 1 v ss.length ((ss.mergeSort (fun x y => decide (x ≤ y))).map encZ) ∧ (v = .slice none 0 0 ↔ ss = []) ∧ Below w.heap.size w w') ∧
  (∀ (Bm : Nat) (w : World), Bm < w.heap.size → w.cell? ⟨Bm, 0, none⟩ = some (.map none) → Calls P fs #[.func (.func g) #[] #[.pointer (some ⟨Bm, 0, none⟩)]] w fun e w' => e = .returned (.slice none 0 0) ∧ Below w.heap.size w w')
def KeysOf (P : Program) (fk g : FuncId) (T : TypeId) : Prop :=
  ∀ mb W, Calls P fk #[.map mb] W fun e w' => e = .returned (.func (.func g) #[] #[.pointer (some ⟨W.heap.size, 0, none⟩)]) ∧ w' = W.alloc (.cells #[.map mb] T)
section
variable {β : Type} {P : Program} {ops : Array Oper} {rest : List Oper} {ks : List Kt} {Q : Exit → Act → World → Prop} {m : Option β} {r : β}
variable {n : Nat} {D : List Deferred} {S : List (Nat × Value)} {F F0 : Fz} {hs : List HP} {d : Nat} {ty k T T' : TypeId} {pos : String} {after : Array Edge} {ox of : Operand} {Ty : Array TypeId} {fs fk g : FuncId}
variable {V : Type} {rv : Fz → V → Value → Prop} {b γ j : Nat} {l : List (Int × V)} {xs : List (List (Int × V))} {p x : Option Nat}
theorem GL.keysC (hk : KeysOf P fk g T) (hd : Nat.blt d n = true) (hcall : ∀ args w, (callFunc fk args).run P w = .ok (.enter fk args) w) (hf : evalS S of = some (.func (.func fk) #[] #[])) (hx : evalS S ox = some (.map p))
    (K : ∀ b F', F ≤ F' → F'.mem b = some (.cells #[.map p] T) → GL κ P ops rest ks Q (Hd n D ((d, .func (.func g) #[] #[.pointer (some ⟨b, 0, none⟩)]) :: S) F' hs) m r) :
    GL κ P ops (⟨some d, .call ⟨.value of, #[ox], Ty⟩, ty, pos, after, none⟩ :: rest) ks Q (Hd n D S F hs) m r :=
  GL.callG rfl (.inr rfl) fun hm a w hA => by
    refine ⟨run_call (os := [ox]) (caps := []) (vs := [.map p]) hA.1 hcall hf (by simp [evalL, hx]), (hk p w).mono ?_⟩
    rintro _ w' ⟨rfl, rfl⟩
    obtain ⟨le, h⟩ := hA.2.allocF (.cells #[.map p] T)
    exact ⟨_, rfl, K w.heap.size _ le (Fz.add_self ..) hm _ _ ⟨hA.1.put hd _, h⟩⟩
theorem GL.sortedC {c : ERel Int} {f : List Int → Option β} (hk : P.underlying k = some (.int .i64)) (hs0 : SortedKeys P fs g k k) (hc : ∀ F x, c F x [.int .i64 x]) {Bm : Nat} (hB : F.mem Bm = some (.cells #[.map p] T)) (i : Nat) (hi : hs[i]? = some (arena γ (ownMapP ckI rv) F0 xs)) (hb : RefB γ F j b) (hp : p = some b) (hel : xs[j]? = some l)
    (hd : Nat.blt d n = true) (hcall : ∀ args w, (callFunc fs args).run P w = .ok (.enter fs args) w) (hf : evalS S of = some (.func (.func fs) #[] #[])) (hx : evalS S ox = some (.func (.func g) #[] #[.pointer (some ⟨Bm, 0, none⟩)]))
    (K : ∀ ks' F' p' cap, keysS l = some ks' → F ≤ F' → RepSl 1 c F' p' cap ks' → GL κ P ops rest ks Q (Hd n D ((d, .slice p' ks'.length cap) :: S) F' hs) (f ks') r) :
    GL κ P ops (⟨some d, .call ⟨.value of, #[ox], Ty⟩, ty, pos, after, none⟩ :: rest) ks Q (Hd n D S F hs) ((keysS l).bind f) r := by
  refine GL.bind fun ks' hks => ?_
  have K' := K ks'
  refine GL.callG (f := fs) (args := #[.func (.func g) #[] #[.pointer (some ⟨Bm, 0, none⟩)]]) rfl (.inr rfl) fun hm a w hA => ?_
  refine ⟨run_call (os := [ox]) (caps := []) (vs := [.func (.func g) #[] #[.pointer (some ⟨Bm, 0, none⟩)]]) hA.1 hcall hf (by simp [evalL, hx]), ?_⟩
  subst hp
  have hks0 := hks
  unfold keysS at hks
  split at hks
  · rename_i hcond
    obtain ⟨hall, hlen⟩ := hcond
    simp only [Option.some.injEq] at hks
    obtain ⟨es, cl, l', hpm, hn, hheap, hr, hbi⟩ := (hA.2.pull hi).mapAt hb hel
    obtain ⟨D0, hown, hperm, hsize⟩ := owns_of hk hheap hr hbi hpm hn hall hlen
    have hBw := hA.2.frozen hB
    refine (hs0.1 b _ D0 Bm w (lt_of_heap hBw) (by simp [World.cell?, hBw]) hown (by omega)).mono ?_
    rintro _ w' ⟨v, ss, rfl, hss, ⟨hrl, hrow⟩, hnil, hbel⟩
    have hsort : ss.mergeSort (fun x y => decide (x ≤ y)) = ks' := by rw [← hks]; exact sort_eq (hss.trans hperm)
    have hlen2 : ks'.length = ss.length := by rw [← hsort]; simp
    rw [hsort] at hrow
    rcases hrow with ⟨rfl, h0⟩ | ⟨gb, cap, cur, rfl, hbase, hgb, r1, r2, r3, r4⟩
    · have hk0 : ks' = [] := List.eq_nil_of_length_eq_zero (by rw [hlen2, h0])
      subst hk0
      exact ⟨_, rfl, K' F none 0 hks0 (Fz.le_refl F) RepSl.nil hm _ _ ⟨hA.1.put hd _, hA.2.below hbel⟩⟩
    · obtain ⟨le, h2⟩ := hA.2.newFrozen hbel hbase hgb
      have hk := K' _ (some ⟨gb, 0, none⟩) cap hks0 le ⟨by rw [hlen2]; exact r1, by unfold maxLen at r2; omega, .inr ⟨gb, 0, cur, _, _, rfl, Fz.add_self .., fun q x hx F' _ => ?_⟩⟩
      · rw [hlen2] at hk
        exact ⟨_, rfl, hk hm _ _ ⟨hA.1.put hd _, h2⟩⟩
      · have hq := lt_of_getEl hx
        rw [hlen2] at hq
        have : (cur.toList.drop (0 + q * 1)).take 1 = [.int .i64 x] := by
          have e1 : cur.toList[q]? = some (.int .i64 x) := by
            have h3 := congrArg (fun z => z[q]?) r4
            simp only [List.getElem?_take, List.getElem?_map, hx] at h3
            rw [if_pos (by omega)] at h3
            simpa [encZ] using h3
          simp only [Nat.zero_add, Nat.mul_one]
          rw [List.drop_eq_getElem_cons (List.getElem?_eq_some_iff.1 e1).1]
          have e2 := (List.getElem?_eq_some_iff.1 e1).2
          simp [e2]
        rw [this]; exact hc F' x
  · cases hks
def sortedO {V : Type} (A : List (List (Int × V))) (x : Option Nat) : Option (List Int) := match x with
  | none => some []
  | some i => (A[i]?).bind keysS
theorem GL.sortedX {c : ERel Int} {f : List Int → Option β} (hk : P.underlying k = some (.int .i64)) (hs0 : SortedKeys P fs g k k) (hc : ∀ F x, c F x [.int .i64 x]) {Bm : Nat} (hB : F.mem Bm = some (.cells #[.map p] T)) (i : Nat) (hi : hs[i]? = some (arena γ (ownMapP ckI rv) F0 xs)) (h : RepRef γ F p x)
    (hd : Nat.blt d n = true) (hcall : ∀ args w, (callFunc fs args).run P w = .ok (.enter fs args) w) (hf : evalS S of = some (.func (.func fs) #[] #[])) (hx : evalS S ox = some (.func (.func g) #[] #[.pointer (some ⟨Bm, 0, none⟩)]))
    (K : ∀ ks' F' p' cap, sortedO xs x = some ks' → F ≤ F' → RepSl 1 c F' p' cap ks' → GL κ P ops rest ks Q (Hd n D ((d, .slice p' ks'.length cap) :: S) F' hs) (f ks') r) :
    GL κ P ops (⟨some d, .call ⟨.value of, #[ox], Ty⟩, ty, pos, after, none⟩ :: rest) ks Q (Hd n D S F hs) ((sortedO xs x).bind f) r := by
  cases x with
  | some j =>
    obtain ⟨b, hb, hp⟩ := h
    cases hel : xs[j]? with
    | none => intro hm; simp [sortedO, hel] at hm
    | some l =>
      have e : sortedO xs (some j) = keysS l := by simp [sortedO, hel]
      rw [e] at K ⊢
      exact GL.sortedC hk hs0 hc hB i hi hb hp hel hd hcall hf hx K
  | none =>
    have hp : p = none := h
    subst hp
    have K' := K [] F none 0 rfl (Fz.le_refl F) RepSl.nil
    refine GL.callG (m := f []) (f := fs) (args := #[.func (.func g) #[] #[.pointer (some ⟨Bm, 0, none⟩)]]) rfl (.inr rfl) fun hm a w hA => ?_
    refine ⟨run_call (os := [ox]) (caps := []) (vs := [.func (.func g) #[] #[.pointer (some ⟨Bm, 0, none⟩)]]) hA.1 hcall hf (by simp [evalL, hx]), ?_⟩
    have hBw := hA.2.frozen hB
    refine (hs0.2 Bm w (lt_of_heap hBw) (by simp [World.cell?, hBw])).mono ?_
    rintro _ w' ⟨rfl, hbel⟩
    exact ⟨_, rfl, K' hm _ _ ⟨hA.1.put hd _, hA.2.below hbel⟩⟩
end
end Go.Dec
end

section
namespace Go.Dec
theorem star_comm {p q : HP} {m : Mem} (h : star p q m) : star q p m := by
  obtain ⟨m1, m2, d, s1, s2, hp, hq⟩ := h
  exact ⟨m2, m1, d.symm, s2, s1, hq, hp⟩
theorem star_left1 {p q : HP} {m : Mem} (h : star (stars [p]) q m) : star p q m := by
  obtain ⟨m1, m2, d, s1, s2, ⟨a, b, _, t1, _, hp, _⟩, hq⟩ := h
  exact ⟨a, m2, d.sub t1 (Mem.sub.refl _), t1.trans s1, s2, hp, hq⟩
end Go.Dec
end

section
namespace Go.Dec
variable {κ : Option Nat}
def wpS (P : Program) (ops : Array Oper) (w : World) (K : Act → Prop) : List Oper → Act → Prop
  | [], a => K a
  | o :: rest, a => if Region.wanted o (yielded ops a.tmps) then ∃ v, (execOp a.eval o).run P w = .ok (.value v) w ∧ wpS P ops w K rest (a.put o.dst v) else wpS P ops w K rest (a.put o.dst undef)
def GS {β : Type} (P : Program) (ops : Array Oper) (l : List Oper) (E A : Act → World → Prop) (m : Option β) (r : β) : Prop :=
  m = some r → ∀ a w, A a w → wpS P ops w (fun a' => E a' w) l a
def StepV (P : Program) (ops : Array Oper) (w : World) (o : Oper) (v : Value) (a : Act) : Prop :=
  (Region.wanted o (yielded ops a.tmps) = true ∧ (execOp a.eval o).run P w = .ok (.value v) w) ∨ (Region.wanted o (yielded ops a.tmps) = false ∧ v = undef)
def putN : Act → List Oper → List Value → Act
  | a, o :: os, v :: vs => putN (a.put o.dst v) os vs
  | a, _, _ => a
theorem putN_snoc : ∀ {l : List Oper} {vs : List Value} {a : Act} {i : Nat} {o : Oper} {v : Value}, l[i]? = some o → vs[i]? = some v → putN a (l.take (i + 1)) (vs.take (i + 1)) = (putN a (l.take i) (vs.take i)).put o.dst v
  | [], _, _, _, _, _, h, _ => by simp at h
  | _ :: _, [], _, _, _, _, _, h => by simp at h
  | x :: l, u :: vs, a, 0, o, v, h, h' => by
    simp at h h'; subst h; subst h'; rfl
  | x :: l, u :: vs, a, i + 1, o, v, h, h' => by
    simp only [List.take_succ_cons, putN]
    exact putN_snoc (l := l) (by simpa using h) (by simpa using h')
theorem wpS_out {P : Program} {ops : Array Oper} {w : World} {K : Act → Prop} : ∀ {l : List Oper} {a : Act}, wpS P ops w K l a → ∃ vs : List Value, vs.length = l.length ∧ K (putN a l vs) ∧ ∀ i o v, l[i]? = some o → vs[i]? = some v → StepV P ops w o v (putN a (l.take i) (vs.take i))
  | [], a, h => ⟨[], rfl, h, fun i o v h => by simp at h⟩
  | x :: l, a, h => by
    have key : ∃ v, StepV P ops w x v a ∧ wpS P ops w K l (a.put x.dst v) := by
      unfold wpS at h
      split at h
      · rename_i hw
        obtain ⟨v, h1, h2⟩ := h
        exact ⟨v, .inl ⟨hw, h1⟩, h2⟩
      · rename_i hw
        exact ⟨undef, .inr ⟨by simpa using hw, rfl⟩, h⟩
    obtain ⟨v, h1, h2⟩ := key
    obtain ⟨vs, g1, g2, g3⟩ := wpS_out h2
    refine ⟨v :: vs, by simp [g1], g2, fun i o u ho hu => ?_⟩
    cases i with
    | zero => simp at ho hu; subst ho; subst hu; exact h1
    | succ i => exact g3 i o u (by simpa using ho) (by simpa using hu)
theorem yielded_getD (ops : Array Oper) (t : Array Value) (j : Nat) : yielded ops t j = match (ops[j]?).bind (·.dst) with
    | none => none
    | some d => match t.getD d undef with
      | .bool b => some b
      | _ => none := by
  unfold yielded
  cases (ops[j]?).bind (·.dst) with
  | none => rfl
  | some d =>
    simp only [Option.bind_some, Array.getD_eq_getD_getElem?]
    cases t[d]? with
    | none => rfl
    | some v => cases v <;> rfl
def looksB (l : List Oper) (k : Nat) (o : Oper) : Bool := (o.looksAt l.toArray).all fun t => (List.range k).all fun j => match dstOf l j with
  | none => true
  | some d => !Nat.beq d t || o.after.toList.any fun e => Region.binds .any e && Nat.beq e.on j
def noSel : Op → Bool
  | .select _ _ => false
  | _ => true
def slotsB (n : Nat) : List Oper → Bool
  | [] => true
  | o :: os => (match o.dst with
    | none => true
    | some d => Nat.blt d n && !os.any (sameDst d)) && slotsB n os
def maskOr : List Bool → List Bool → List Bool
  | a :: xs, b :: bs => (a || b) :: maskOr xs bs
  | [], bs => bs
  | xs, [] => xs
def setTrue : Nat → List Bool
  | 0 => [true]
  | n + 1 => false :: setTrue n
def closF (done : List (List Bool)) (o : Oper) : List Bool := o.after.toList.foldr (fun e m => bif Region.binds .any e then maskOr (maskOr (setTrue e.on) (done.getD e.on [])) m else m) []
def closL : List (List Bool) → List Oper → List (List Bool)
  | done, [] => done
  | done, o :: l => closL (done ++ [closF done o]) l
def allT : Nat → List Bool → Bool
  | 0, _ => true
  | n + 1, b :: bs => b && allT n bs
  | _ + 1, [] => false
def deepB (l : List Oper) (k : Nat) : Bool := (List.range l.length).all fun t => Nat.blt t k || allT t ((closL [] l).getD t [])
theorem maskOr_get : ∀ {a b : List Bool} {j : Nat}, (maskOr a b).getD j false = true → a.getD j false = true ∨ b.getD j false = true
  | [], bs, j, h => .inr h
  | a :: xs, [], j, h => .inl h
  | a :: xs, b :: bs, 0, h => by
    have h : (a || b) = true := h
    rcases Bool.or_eq_true_iff.1 h with h | h
    · exact .inl h
    · exact .inr h
  | a :: xs, b :: bs, j + 1, h => maskOr_get (a := xs) (b := bs) (j := j) h
theorem setTrue_get : ∀ {n j : Nat}, (setTrue n).getD j false = true → j = n
  | 0, 0, _ => rfl
  | 0, j + 1, h => by simp [setTrue] at h
  | n + 1, 0, h => by simp [setTrue] at h
  | n + 1, j + 1, h => by
    have : (setTrue n).getD j false = true := h
    rw [setTrue_get this]
def MaskOK (l : List Oper) (done : List (List Bool)) : Prop := ∀ t m, done[t]? = some m → ∀ j, m.getD j false = true → ∃ s, depB l s t j = true
theorem closF_spec {l : List Oper} {done : List (List Bool)} (hd : MaskOK l done) {t : Nat} {o : Oper} (ho : l[t]? = some o) : ∀ {j : Nat}, (closF done o).getD j false = true → ∃ s, depB l s t j = true := by
  have key : ∀ (es : List Edge), (∀ e ∈ es, e ∈ o.after.toList) → ∀ j, (es.foldr (fun e m => bif Region.binds .any e then maskOr (maskOr (setTrue e.on) (done.getD e.on [])) m else m) []).getD j false = true → ∃ s, depB l s t j = true := fun es => by
    induction es with
    | nil => intro _ j h; simp at h
    | cons e es ih =>
      intro hes j h
      have hes' := fun e' he' => hes e' (List.mem_cons_of_mem _ he')
      simp only [List.foldr_cons] at h
      cases hb : Region.binds .any e with
      | false => rw [hb] at h; simp only [cond_false] at h; exact ih hes' j h
      | true =>
        rw [hb] at h
        simp only [cond_true] at h
        have hmem := hes e (by simp)
        rcases maskOr_get h with h | h
        · rcases maskOr_get h with h | h
          · have := setTrue_get h
            subst this
            exact ⟨1, by simp only [depB, ho]; exact List.any_eq_true.2 ⟨e, hmem, by simp [hb]⟩⟩
          · rw [List.getD_eq_getElem?_getD] at h
            cases hm : done[e.on]? with
            | none => rw [List.getD_eq_getElem?_getD, hm] at h; simp at h
            | some m =>
              rw [List.getD_eq_getElem?_getD, hm] at h
              obtain ⟨s, hs⟩ := hd e.on m hm j (by rw [List.getD_eq_getElem?_getD]; exact h)
              exact ⟨s + 1, by simp only [depB, ho]; exact List.any_eq_true.2 ⟨e, hmem, by simp [hb, hs]⟩⟩
        · exact ih hes' j h
  intro j h
  exact key o.after.toList (fun _ h => h) j h
theorem closL_spec {l : List Oper} : ∀ {post pre : List Oper} {done : List (List Bool)}, l = pre ++ post → done.length = pre.length → MaskOK l done → MaskOK l (closL done post)
  | [], _, _, _, _, hd => hd
  | o :: post, pre, done, e, hl, hd => by
    refine closL_spec (pre := pre ++ [o]) (post := post) (by simp [e]) (by simp [hl]) fun t m hm j hj => ?_
    rcases Nat.lt_or_ge t done.length with h | h
    · rw [List.getElem?_append_left h] at hm; exact hd t m hm j hj
    · have ht : t = done.length := by
        have := (List.getElem?_eq_some_iff.1 hm).1
        simp at this; omega
      subst ht
      rw [List.getElem?_append_right (Nat.le_refl _)] at hm
      simp at hm; subst hm
      exact closF_spec hd (by rw [e, hl]; simp) hj
theorem allT_get : ∀ {n j : Nat} {m : List Bool}, allT n m = true → j < n → m.getD j false = true
  | 0, _, _, _, h => by omega
  | n + 1, j, [], h, _ => by cases h
  | n + 1, 0, b :: bs, h, _ => by
    have h : (b && allT n bs) = true := h
    exact ((Bool.and_eq_true _ _).mp h).1
  | n + 1, j + 1, b :: bs, h, hj => by
    have h : (b && allT n bs) = true := h
    exact allT_get (n := n) (j := j) (m := bs) ((Bool.and_eq_true _ _).mp h).2 (by omega)
theorem deepB_spec {l : List Oper} {k : Nat} (h : deepB l k = true) : ∀ t o, k ≤ t → l[t]? = some o → ∀ j, j < t → ∃ s, depB l s t j = true := fun t o hk ho j hj => by
  have hlt := lt_of_getEl ho
  have h1 := List.all_eq_true.1 h t (List.mem_range.2 hlt)
  have hb : Nat.blt t k = false := by
    cases hb : Nat.blt t k with
    | false => rfl
    | true => have := Nat.le_of_ble_eq_true hb; omega
  rw [hb, Bool.false_or] at h1
  have hM : MaskOK l (closL [] l) := closL_spec (pre := []) rfl rfl fun t m hm => by simp at hm
  have h2 := allT_get h1 hj
  cases hm : (closL [] l)[t]? with
  | none => rw [List.getD_eq_getElem?_getD (l := closL [] l), hm] at h2; simp at h2
  | some m => rw [List.getD_eq_getElem?_getD (l := closL [] l), hm] at h2; exact hM t m hm j h2
theorem slotsB_get : ∀ {n : Nat} {os : List Oper} {i : Nat} {o : Oper} {d : Nat}, slotsB n os = true → os[i]? = some o → o.dst = some d → d < n ∧ ∀ j o', os[j]? = some o' → o'.dst = some d → j = i
  | _, [], _, _, _, _, h, _ => by simp at h
  | n, x :: os, 0, o, d, hf, h, hd => by
    simp at h; subst h
    simp only [slotsB, hd, Bool.and_eq_true, Bool.not_eq_true'] at hf
    refine ⟨Nat.le_of_ble_eq_true hf.1.1, fun j o' hj hd' => ?_⟩
    cases j with
    | zero => rfl
    | succ j => exact (freshG_no hf.1.2 (by simpa using hj) hd').elim
  | n, x :: os, i + 1, o, d, hf, h, hd => by
    have hf' := hf
    simp only [slotsB, Bool.and_eq_true] at hf
    obtain ⟨g1, g2⟩ := slotsB_get (os := os) (i := i) hf.2 (by simpa using h) hd
    refine ⟨g1, fun j o' hj hd' => ?_⟩
    cases j with
    | zero =>
      simp at hj; subst hj
      simp only [slotsB, hd', Bool.and_eq_true, Bool.not_eq_true'] at hf'
      exact (freshG_no hf'.1.2 (by simpa using h) hd).elim
    | succ j => rw [g2 j o' (by simpa using hj) hd']
def drawB (n : Nat) (l : List Oper) (k : Nat) : Bool := ordB 0 l && deepB l k && Nat.ble k l.length && slotsB n (l.take k) && (l.take k).all fun o => looksB l k o && noSel o.op && noDefer o.op
section
variable {β : Type} {P : Program} {ks : List Kt} {Q : Exit → Act → World → Prop} {m : Option β} {r : β} {n : Nat} {D : List Deferred} {S0 : List (Nat × Value)} {F : Fz} {hs : List HP} {l : List Oper}
structure CharF (l : List Oper) (k n : Nat) (a0 : Act) (vs : List Value) (L : Nat → Bool) (a : Act) : Prop where
  size : a.tmps.size = n
  defs : a.defers = a0.defers
  got : ∀ (j : Nat) (v : Value) (t : Nat), j < k → L j = true → dstOf l j = some t → vs[j]? = some v → a.tmps.getD t undef = v
  old : ∀ t, (∀ j, j < k → L j = true → dstOf l j ≠ some t) → a.tmps.getD t undef = a0.tmps.getD t undef
theorem getD_set_self {t : Array Value} {d : Nat} {v : Value} (h : d < t.size) : (t.setIfInBounds d v).getD d undef = v := by simp [Array.getD_eq_getD_getElem?, h]
theorem getD_set_other {t : Array Value} {d e : Nat} {v : Value} (h : d ≠ e) : (t.setIfInBounds d v).getD e undef = t.getD e undef := by
  simp only [Array.getD_eq_getD_getElem?]
  rw [Array.getElem?_setIfInBounds_ne h]
theorem CharF.put {k : Nat} {a0 a : Act} {vs : List Value} {L : Nat → Bool} (c : CharF l k n a0 vs L a) (hsl : slotsB n (l.take k) = true) {i : Nat} {o : Oper} {v : Value} (hi : i < k) (ho : l[i]? = some o) (hv : vs[i]? = some v) : CharF l k n a0 vs (updB L i) (a.put o.dst v) := by
  have hdst : dstOf l i = o.dst := by simp [dstOf, ho]
  have hslot : ∀ d, o.dst = some d → d < n ∧ ∀ j, j < k → dstOf l j = some d → j = i := fun d hd => by
    obtain ⟨g1, g2⟩ := slotsB_get hsl (i := i) (o := o) (d := d) (by rw [List.getElem?_take, if_pos hi]; exact ho) hd
    refine ⟨g1, fun j hj e => ?_⟩
    cases hoj : l[j]? with
    | none => simp [dstOf, hoj] at e
    | some oj => exact g2 j oj (by rw [List.getElem?_take, if_pos hj]; exact hoj) (by simpa [dstOf, hoj] using e)
  cases hd : o.dst with
  | none =>
    refine ⟨c.size, c.defs, fun j u t hj hL e hu => ?_, fun t ht => c.old t fun j hj hL => ht j hj ?_⟩
    · by_cases hji : j = i
      · subst hji; rw [hdst, hd] at e; cases e
      · exact c.got j u t hj (by simpa [updB, hji] using hL) e hu
    · simp only [updB]; split
      · rfl
      · exact hL
  | some d =>
    obtain ⟨hdn, huniq⟩ := hslot d hd
    refine ⟨by simp [Act.put, c.size], c.defs, fun j u t hj hL e hu => ?_, fun t ht => ?_⟩
    · by_cases hji : j = i
      · subst hji
        rw [hdst, hd] at e; cases e
        rw [hv] at hu; cases hu
        exact getD_set_self (by rw [c.size]; exact hdn)
      · have hne : d ≠ t := fun e' => by subst e'; exact hji (huniq j hj e)
        show (a.tmps.setIfInBounds d v).getD t undef = u
        rw [getD_set_other hne]
        exact c.got j u t hj (by simpa [updB, hji] using hL) e hu
    · have hne : d ≠ t := fun e' => by subst e'; exact ht i hi (by simp [updB]) (by rw [hdst, hd])
      show (a.tmps.setIfInBounds d v).getD t undef = _
      rw [getD_set_other hne]
      exact c.old t fun j hj hL => ht j hj (by simp only [updB]; split <;> first | rfl | exact hL)
theorem CharF.same {k : Nat} {a0 a b : Act} {vs : List Value} {L L' : Nat → Bool} (c : CharF l k n a0 vs L a) (c' : CharF l k n a0 vs L' b) (hvs : k ≤ vs.length) {t : Nat} (ht : ∀ j, j < k → dstOf l j = some t → L j = true ∧ L' j = true) : a.tmps.getD t undef = b.tmps.getD t undef := by
  by_cases h : ∃ j, j < k ∧ dstOf l j = some t
  · obtain ⟨j, hj, e⟩ := h
    obtain ⟨h1, h2⟩ := ht j hj e
    have hv : vs[j]? = some vs[j] := List.getElem?_eq_getElem (by omega)
    rw [c.got j _ t hj h1 e hv, c'.got j _ t hj h2 e hv]
  · have hn : ∀ j, j < k → dstOf l j ≠ some t := fun j hj e => h ⟨j, hj, e⟩
    rw [c.old t fun j hj _ => hn j hj, c'.old t fun j hj _ => hn j hj]
theorem CharF.eq {k : Nat} {a0 a b : Act} {vs : List Value} {L : Nat → Bool} (c : CharF l k n a0 vs L a) (c' : CharF l k n a0 vs L b) (hvs : k ≤ vs.length) (hL : ∀ j, j < k → L j = true) : a = b := by
  have h : ∀ t, a.tmps.getD t undef = b.tmps.getD t undef := fun t => c.same c' hvs fun j hj _ => ⟨hL j hj, hL j hj⟩
  have ht : a.tmps = b.tmps := by
    apply Array.ext
    · rw [c.size, c'.size]
    · intro i h1 h2
      have := h i
      simpa [Array.getD_eq_getD_getElem?, h1, h2] using this
  have hd : a.defers = b.defers := by rw [c.defs, c'.defs]
  obtain ⟨ta, da⟩ := a
  obtain ⟨tb, db⟩ := b
  have ht : ta = tb := ht
  have hd : da = db := hd
  rw [ht, hd]
theorem StepV.of_same {ops : Array Oper} {w : World} {o : Oper} {v : Value} {a b : Act} (hs : noSel o.op = true) (h : StepV P ops w o v a) (he : ∀ t ∈ o.looksAt ops, a.tmps.getD t undef = b.tmps.getD t undef) : StepV P ops w o v b := by
  have hx : execOp a.eval o = execOp b.eval o := execOp_congr o (fun cs bb e => by rw [e] at hs; cases hs) fun x hx => by
    cases x with
    | tmp t => exact he t (List.mem_append_left _ (List.mem_filterMap.2 ⟨.tmp t, by simpa using hx, rfl⟩))
    | const v => rfl
    | global g => rfl
    | func f => rfl
  have hw : Region.wanted o (yielded ops a.tmps) = Region.wanted o (yielded ops b.tmps) := by
    unfold Region.wanted
    cases hg : o.guard with
    | none => rfl
    | some gw =>
      obtain ⟨g, want⟩ := gw
      have : yielded ops a.tmps g = yielded ops b.tmps g := by
        rw [yielded_getD, yielded_getD]
        cases ht : (ops[g]?).bind (·.dst) with
        | none => rfl
        | some t =>
          simp only []
          rw [he t (List.mem_append_right _ (by simp [hg, ht]))]
      simp only [this]
  unfold StepV at *
  rw [← hx, ← hw]; exact h
theorem char_seq {k : Nat} {a0 : Act} {vs : List Value} (hsz : a0.tmps.size = n) (hsl : slotsB n (l.take k) = true) (hk : k ≤ l.length) (hvs : vs.length = k) : ∀ i, i ≤ k → CharF l k n a0 vs (fun j => Nat.blt j i) (putN a0 ((l.take k).take i) (vs.take i))
  | 0, _ => by
    refine ⟨hsz, rfl, fun j v t _ hL => ?_, fun t _ => rfl⟩
    have : Nat.blt j 0 = true := hL
    have := Nat.le_of_ble_eq_true this; omega
  | i + 1, hi => by
    have ho : l[i]? = some l[i] := List.getElem?_eq_getElem (by omega)
    have hv : vs[i]? = some vs[i] := List.getElem?_eq_getElem (by omega)
    have h := (char_seq hsz hsl hk hvs i (by omega)).put hsl (by omega) ho hv
    rw [putN_snoc (l := l.take k) (o := l[i]) (v := vs[i]) (by rw [List.getElem?_take, if_pos (by omega)]; exact ho) hv]
    have e : (fun j => Nat.blt j (i + 1)) = updB (fun j => Nat.blt j i) i := by
      funext j
      simp only [updB]
      by_cases hj : j = i
      · subst hj; rw [if_pos rfl]; exact Nat.ble_eq_true_of_le (Nat.le_refl _)
      · rw [if_neg hj]
        cases h1 : Nat.blt j i with
        | true => have := Nat.le_of_ble_eq_true h1; exact Nat.ble_eq_true_of_le (show j + 1 ≤ i + 1 by omega)
        | false =>
          cases h2 : Nat.blt j (i + 1) with
          | false => rfl
          | true =>
            have := Nat.le_of_ble_eq_true h2
            have h3 : Nat.blt j i = true := Nat.ble_eq_true_of_le (show j + 1 ≤ i by omega)
            rw [h1] at h3; cases h3
    rw [e]; exact h
theorem GC.drawZ {id : Nat} (k : Nat) (hm : P.follows .mixedOrders = true) (hB : drawB n l k = true)
    (walk : GS P l.toArray (l.take k) (wpL κ P l.toArray (interp κ P ks Q) (l.drop k)) (Hd n D S0 F hs) m r) : GC κ P (.region id l.toArray true) ks Q (Hd n D S0 F hs) m r := by
  intro hmr a0 w ha
  simp only [drawB, Bool.and_eq_true, List.all_eq_true] at hB
  obtain ⟨⟨⟨⟨hord, hdeep⟩, hlen⟩, hsl⟩, hall⟩ := hB
  have htail := deepB_spec hdeep
  have hlen' : k ≤ l.length := Nat.le_of_ble_eq_true hlen
  have hw1 := walk hmr a0 { w with drawn := w.drawn + 1 } ⟨ha.1, ha.2.drew _⟩
  obtain ⟨vs, hvl, hK, hstep⟩ := wpS_out hw1
  have hvk : vs.length = k := by rw [hvl]; simp; omega
  have hseq := char_seq (a0 := a0) (vs := vs) (l := l) ha.1.1 hsl hlen' hvk
  let Free : (Nat → Bool) → Act → World → Prop := fun L a w' => Down l L ∧ (∀ i, k ≤ i → L i = false) ∧ w' = { w with drawn := w.drawn + 1 } ∧ CharF l k n a0 vs L a
  let Inv : (Nat → Bool) → Act → World → Prop := fun L a w => Free L a w ∨ ∃ i, k < i ∧ Down l L ∧ (∀ j, L j = true ↔ j < i) ∧ wpL κ P l.toArray (interp κ P ks Q) (l.drop i) a w
  have hend0 : ∀ L a w', (∀ i, i < k → L i = true) → Free L a w' → wpL κ P l.toArray (interp κ P ks Q) (l.drop k) a w' := by
    rintro L a w' hL ⟨_, hout, rfl, hc⟩
    have hLk : L = fun j => Nat.blt j k := by
      funext j
      rcases Nat.lt_or_ge j k with h | h
      · rw [hL j h]; exact (Nat.ble_eq_true_of_le h).symm
      · rw [hout j h]
        cases hb : Nat.blt j k with
        | false => rfl
        | true => have := Nat.le_of_ble_eq_true hb; omega
    have h2 := hseq k (Nat.le_refl _)
    rw [List.take_of_length_le (show (l.take k).length ≤ k by simp; omega), List.take_of_length_le (show vs.length ≤ k by omega)] at h2
    rw [hLk] at hc
    rw [hc.eq h2 (by omega) fun j hj => Nat.ble_eq_true_of_le hj]
    exact hK
  refine wp_region_inv hm Inv (fun i o h e he hb => by have := ordB_spec hord i o (by simpa using h) e he hb; omega) ?_ ?_ ?_
  · refine .inl ⟨fun i o _ h => (by cases h), fun _ _ => rfl, rfl, ⟨ha.1.1, rfl, fun j v t _ h => (by cases h), fun t _ => rfl⟩⟩
  · intro L a w' i o ho hLi hdeps hI
    have ho' : l[i]? = some o := by simpa using ho
    have hil : i < l.length := lt_of_getEl ho'
    by_cases hi : i < k
    · rcases hI with hF | ⟨k', hk, _, hL, _⟩
      case inr => have := (hL i).2 (by omega); rw [hLi] at this; cases this
      obtain ⟨hdn, hout, rfl, hc⟩ := hF
      have hot : (l.take k)[i]? = some o := by rw [List.getElem?_take, if_pos hi]; exact ho'
      have hmem : o ∈ l.take k := List.mem_of_getElem? hot
      have hoB := hall o hmem
      obtain ⟨⟨hlk, hns⟩, hnd⟩ := hoB
      have hv : vs[i]? = some vs[i] := List.getElem?_eq_getElem (by omega)
      have hst := hstep i o _ hot hv
      have hst' : StepV P l.toArray { w with drawn := w.drawn + 1 } o vs[i] a := hst.of_same hns fun t ht => by
        refine (hseq i (by omega)).same hc (by omega) fun j hj e => ?_
        have h1 := List.all_eq_true.1 (List.all_eq_true.1 hlk t ht) j (List.mem_range.2 hj)
        rw [e] at h1
        simp only [Nat.beq_refl, Bool.not_true, Bool.false_or, List.any_eq_true, Bool.and_eq_true] at h1
        obtain ⟨e', he', hb', hon⟩ := h1
        have hon : e'.on = j := Nat.eq_of_beq_eq_true hon
        have hmem' : e' ∈ o.after := by simpa using he'
        refine ⟨?_, by rw [← hon]; exact hdeps e' hmem' hb'⟩
        have := ordB_spec hord i o ho' e' hmem' hb'
        exact Nat.ble_eq_true_of_le (show j + 1 ≤ i by omega)
      have hnext : Inv (updB L i) (a.put o.dst vs[i]) { w with drawn := w.drawn + 1 } := by
        refine .inl ⟨?_, ?_, rfl, hc.put hsl hi ho' hv⟩
        · intro j oj hoj hj e he hb
          have : L e.on = true := by
            by_cases hji : j = i
            · subst hji; rw [ho'] at hoj; cases hoj; exact hdeps e he hb
            · exact hdn j oj hoj (by simpa [updB, hji] using hj) e he hb
          simp only [updB]; split
          · rfl
          · exact this
        · intro j hj; simp only [updB]; rw [if_neg (by omega)]; exact hout j hj
      rcases hst' with ⟨h1, h2⟩ | ⟨h1, h2⟩
      · rw [if_pos h1]
        refine ⟨.inr hnd, ?_⟩
        rw [h2]; exact hnext
      · rw [if_neg (by simp [h1]), ← h2]; exact hnext
    · have hdnL : Down l L := by
        rcases hI with hF | ⟨_, _, hd, _, _⟩
        · exact hF.1
        · exact hd
      have hallL : ∀ j, j < i → L j = true := fun j hj => by
        obtain ⟨s, hs⟩ := htail i o (by omega) ho' j hj
        exact dep_true hdnL hs fun o' ho'' e he hb => by rw [ho'] at ho''; cases ho''; exact hdeps e he hb
      have hdnU : Down l (updB L i) := fun j oj hoj hj e he hb => by
        have : L e.on = true := by
          by_cases hji : j = i
          · subst hji; rw [ho'] at hoj; cases hoj; exact hdeps e he hb
          · exact hdnL j oj hoj (by simpa [updB, hji] using hj) e he hb
        simp only [updB]; split
        · rfl
        · exact this
      have hw : wpL κ P l.toArray (interp κ P ks Q) (l.drop i) a w' := by
        rcases hI with hF | ⟨k', hk, _, hL, hwp⟩
        · have hiV : i = k := by
            rcases Nat.lt_or_ge k i with h | h
            · have := hallL k h; rw [hF.2.1 _ (Nat.le_refl _)] at this; cases this
            · omega
          subst hiV
          exact hend0 L a w' hallL hF
        · have : k' = i := by
            have h1 : ¬ i < k' := fun h => by have := (hL i).2 h; rw [hLi] at this; cases this
            have h2 : ¬ k' < i := fun h => by have := (hL k').1 (hallL k' h); omega
            omega
          subst this; exact hwp
      have hdrop : l.drop i = o :: l.drop (i + 1) := by
        have hg : l[i]'hil = o := by simpa [hil] using ho'
        rw [← hg]; exact List.drop_eq_getElem_cons hil
      rw [hdrop] at hw
      have hnext : ∀ a' w', wpL κ P l.toArray (interp κ P ks Q) (l.drop (i + 1)) a' w' → Inv (updB L i) a' w' := fun a' w' h =>
        .inr ⟨i + 1, by omega, hdnU, fun j => by
          simp only [updB]
          by_cases hj : j = i
          · simp [hj]
          · simp only [hj, if_false]
            constructor
            · intro hLj
              have : j < i := by
                rcases Nat.lt_or_ge j i with h | h
                · exact h
                · rcases hI with hF | ⟨k', hk, _, hL, _⟩
                  · rw [hF.2.1 j (by omega)] at hLj; cases hLj
                  · have h1 := (hL j).1 hLj
                    have := (hL i).2 (by omega); rw [hLi] at this; cases this
              omega
            · intro hj'; exact hallL j (by omega), h⟩
      unfold wpL at hw
      split
      · rename_i hwn
        rw [if_pos hwn] at hw
        exact opW_mono hnext hw
      · rename_i hwn
        rw [if_neg hwn] at hw
        exact hnext _ _ hw
  · intro L a w' hallL hI
    have hw : wpL κ P l.toArray (interp κ P ks Q) (l.drop l.length) a w' := by
      rcases hI with hF | ⟨k', hk, _, hL, hwp⟩
      · have hVl : k = l.length := by
          rcases Nat.lt_or_ge k l.length with h | h
          · have := hallL k (by simpa using h); rw [hF.2.1 _ (Nat.le_refl _)] at this; cases this
          · omega
        have := hend0 L a w' (fun i hi => hallL i (by simp; omega)) hF
        rwa [hVl] at this
      · have : l.length ≤ k' := by
          rcases Nat.lt_or_ge k' l.length with h | h
          · have := (hL k').1 (hallL k' (by simpa using h)); omega
          · exact h
        rw [List.drop_eq_nil_of_le this] at hwp
        rw [List.drop_eq_nil_of_le (Nat.le_refl _)]; exact hwp
    rw [List.drop_eq_nil_of_le (Nat.le_refl _)] at hw
    exact hw
end
section
variable {β : Type} {P : Program} {ops : Array Oper} {rest l : List Oper} {E A A' : Act → World → Prop} {m : Option β} {r : β}
variable {n : Nat} {D : List Deferred} {S S' : List (Nat × Value)} {F F' : Fz} {hs hs' : List HP}
theorem GS.step {o : Oper} (hg : o.guard = none) (h : m = some r → ∀ a w, A a w → ∃ v, (execOp a.eval o).run P w = .ok (.value v) w ∧ wpS P ops w (fun a' => E a' w) rest (a.put o.dst v)) : GS P ops (o :: rest) E A m r := by
  intro hm a w ha
  obtain ⟨v, h1, h2⟩ := h hm a w ha
  unfold wpS
  rw [if_pos (by simp [Region.wanted, hg])]
  exact ⟨v, h1, h2⟩
def SegS (n : Nat) (D : List Deferred) (d : Nat) (v : Value) (S : List (Nat × Value)) (F : Fz) (hs : List HP) : Act → World → Prop := fun a w => ∃ F', F ≤ F' ∧ Hd n D ((d, v) :: S) F' hs a w
theorem wpS_append {w : World} {K1 K2 : Act → Prop} (l2 : List Oper) (hq : ∀ a, K1 a → wpS P ops w K2 l2 a) : ∀ (l1 : List Oper) (a : Act), wpS P ops w K1 l1 a → wpS P ops w K2 (l1 ++ l2) a
  | [], a, h => hq a h
  | o :: l1, a, h => by
    simp only [List.cons_append]
    unfold wpS at h ⊢
    split
    · rename_i hw
      rw [if_pos hw] at h
      obtain ⟨v, h1, h2⟩ := h
      exact ⟨v, h1, wpS_append l2 hq l1 _ h2⟩
    · rename_i hw
      rw [if_neg hw] at h
      exact wpS_append l2 hq l1 _ h
theorem GS.fin {S' : List (Nat × Value)} {d : Nat} {v : Value} {x : β} (j : Nat) (hv : lookS S' d = some v) (hd : S'.drop j = S) (hf : fresh S (S'.take j) = true) (le : F ≤ F') : GS P ops [] (SegS n D d v S F hs) (Hd n D S' F' hs) (some x) x :=
  fun _ _ _ ha => ⟨F', le, ha.1.sub (Sub.cons hv (sub_of_drop j hd hf)), ha.2⟩
theorem GS.finZ {S' : List (Nat × Value)} {d : Nat} {x z : Bool} (j : Nat) (hv : lookS S' d = some (.bool x)) (hd : S'.drop j = S) (hf : fresh S (S'.take j) = true) (le : F ≤ F') : GS P ops [] (SegS n D d (.bool z) S F hs) (Hd n D S' F' hs) (some x) z := fun e a w ha => by
  simp only [Option.some.injEq] at e; subst e
  exact ⟨F', le, ha.1.sub (Sub.cons hv (sub_of_drop j hd hf)), ha.2⟩
theorem GS.seg {α : Type} {m0 : Option α} {f : α → Option β} (k d : Nat) (V : α → Value) (h : ∀ z, GS P ops (l.take k) (SegS n D d (V z) S F hs) (Hd n D S F hs) m0 z)
    (next : ∀ z F', m0 = some z → F ≤ F' → GS P ops (l.drop k) E (Hd n D ((d, V z) :: S) F' hs) (f z) r) : GS P ops l E (Hd n D S F hs) (m0.bind f) r := by
  intro hm a w ha
  cases hl : m0 with
  | none => rw [hl] at hm; cases hm
  | some z =>
    rw [hl] at hm
    have h1 := h z hl a w ha
    have := wpS_append (P := P) (ops := ops) (K2 := fun a' => E a' w) (l.drop k) (fun a' hq => by
      obtain ⟨F', le, hq⟩ := hq; exact next z F' hl le hm a' w hq) (l.take k) a h1
    rwa [List.take_append_drop] at this
theorem GS.pend {κ : Option Nat} {tl : List Oper} {ks : List Kt} {Q : Exit → Act → World → Prop} (h : GL κ P ops tl ks Q A m r) : GS P ops [] (wpL κ P ops (interp κ P ks Q) tl) A m r := fun hm a w ha => h hm a w ha
end
section
section
variable {β : Type} {P : Program} {ops : Array Oper} {l rest : List Oper} {E : Act → World → Prop} {A A' : Act → World → Prop} {m : Option β} {r : β}
theorem GS.bind {α : Type} {e : Option α} {f : α → Option β} (h : ∀ y, e = some y → GS P ops l E A (f y) r) : GS P ops l E A (e.bind f) r :=
  fun hm => by
    cases e with
    | none => simp at hm
    | some y => exact h y rfl hm
end
end
section
section
variable {β : Type} {P : Program} {ops : Array Oper} {rest : List Oper} {E : Act → World → Prop} {A : Act → World → Prop} {m : Option β} {r : β}
section
variable {n : Nat} {D : List Deferred} {S : List (Nat × Value)} {F : Fz} {hs : List HP}
theorem GS.on {dst : Option Tmp} {op : Op} {ty : TypeId} {pos : String} {after : Array Edge} {j t : Nat} {want : Bool} (hj : (ops[j]?).bind (·.dst) = some t) (hv : lookS S t = some (.bool want))
    (k : GS P ops (⟨dst, op, ty, pos, after, none⟩ :: rest) E (Hd n D S F hs) m r) : GS P ops (⟨dst, op, ty, pos, after, some (j, want)⟩ :: rest) E (Hd n D S F hs) m r := by
  intro hm a w ha
  have h := k hm a w ha
  have hy := yielded_some (ops := ops) hj ha.1 hv
  unfold wpS at h ⊢
  rw [if_pos (by simp [Region.wanted])] at h
  rw [if_pos (by simp [Region.wanted, hy])]
  exact h
theorem GS.off {d : Nat} {op : Op} {ty : TypeId} {pos : String} {after : Array Edge} {j t : Nat} {want : Bool} {v : Value} (hd : Nat.blt d n = true) (hj : (ops[j]?).bind (·.dst) = some t) (hv : lookS S t = some v) (hx : isNot v want = true)
    (k : GS P ops rest E (Hd n D ((d, undef) :: S) F hs) m r) : GS P ops (⟨some d, op, ty, pos, after, some (j, want)⟩ :: rest) E (Hd n D S F hs) m r := by
  intro hm a w ha
  have hy : yielded ops a.tmps j ≠ some want := by
    have h := ha.1.2.2 t _ hv
    unfold yielded
    rw [hj]
    simp only [Option.bind_some]
    simp only [Array.getD_eq_getD_getElem?] at h
    cases e : a.tmps[t]? with
    | none => simp
    | some u =>
      rw [e] at h; simp at h; subst h
      cases u <;> simp [isNot] at hx ⊢
      exact hx
  unfold wpS
  rw [if_neg (by simp [Region.wanted, hy])]
  exact k hm _ w ⟨ha.1.put hd _, ha.2⟩
theorem GS.val {d : Nat} {op : Op} {ty : TypeId} {pos : String} {after : Array Edge} {v : Value} (hd : Nat.blt d n = true)
    (hrun : ∀ a w, Hd n D S F hs a w → (execOp a.eval ⟨some d, op, ty, pos, after, none⟩).run P w = .ok (.value v) w)
    (k : GS P ops rest E (Hd n D ((d, v) :: S) F hs) m r) (hnd : noDefer op = true := by rfl) : GS P ops (⟨some d, op, ty, pos, after, none⟩ :: rest) E (Hd n D S F hs) m r :=
  have _ := hnd
  GS.step rfl fun hm a w ha => ⟨v, hrun a w ha, k hm _ w ⟨ha.1.put hd v, ha.2⟩⟩
section
variable {d : Nat} {ty t t' : TypeId} {pos : String} {after : Array Edge} {ox oy oz : Operand} {v u : Value} {kd : IntKind} {x y : Int}
theorem GS.move (hd : Nat.blt d n = true) (hx : evalS S ox = some v) (k : GS P ops rest E (Hd n D ((d, v) :: S) F hs) m r) :
    GS P ops (⟨some d, .move ox, ty, pos, after, none⟩ :: rest) E (Hd n D S F hs) m r :=
  GS.val hd (fun a w ha => by simp [execOp, ha.1.eval hx]) k
theorem GS.assign (hd : Nat.blt d n = true) (hx : evalS S ox = some v) (k : GS P ops rest E (Hd n D ((d, v) :: S) F hs) m r) :
    GS P ops (⟨some d, .assign ox, ty, pos, after, none⟩ :: rest) E (Hd n D S F hs) m r :=
  GS.val hd (fun a w ha => by simp [execOp, ha.1.eval hx]) k
theorem GS.assignL {f : Int → Option β} (hd : Nat.blt d n = true) (hx : evalS S ox = some (.int kd x)) (k : ∀ y, y = x → GS P ops rest E (Hd n D ((d, .int kd y) :: S) F hs) (f y) r) :
    GS P ops (⟨some d, .assign ox, ty, pos, after, none⟩ :: rest) E (Hd n D S F hs) (bindv x f) r := GS.assign hd hx (k x rfl)
theorem GS.assignB {b : Bool} {f : Bool → Option β} (hd : Nat.blt d n = true) (hx : evalS S ox = some (.bool b)) (k : ∀ y, y = b → GS P ops rest E (Hd n D ((d, .bool y) :: S) F hs) (f y) r) :
    GS P ops (⟨some d, .assign ox, ty, pos, after, none⟩ :: rest) E (Hd n D S F hs) (bindv b f) r := GS.assign hd hx (k b rfl)
theorem GS.pickT (hd : Nat.blt d n = true) (hz : evalS S oz = some (.bool true)) (hx : evalS S ox = some v) (k : GS P ops rest E (Hd n D ((d, v) :: S) F hs) m r) :
    GS P ops (⟨some d, .pick oz ox oy, ty, pos, after, none⟩ :: rest) E (Hd n D S F hs) m r :=
  GS.val hd (fun a w ha => by simp [execOp, ha.1.eval hx, ha.1.eval hz, asBool]) k
theorem GS.pickF (hd : Nat.blt d n = true) (hz : evalS S oz = some (.bool false)) (hy : evalS S oy = some v) (k : GS P ops rest E (Hd n D ((d, v) :: S) F hs) m r) :
    GS P ops (⟨some d, .pick oz ox oy, ty, pos, after, none⟩ :: rest) E (Hd n D S F hs) m r :=
  GS.val hd (fun a w ha => by simp [execOp, ha.1.eval hy, ha.1.eval hz, asBool]) k
theorem GS.add (hd : Nat.blt d n = true) (hx : evalS S ox = some (.int kd x)) (hy : evalS S oy = some (.int kd y)) (k : GS P ops rest E (Hd n D ((d, .int kd (kd.wrap (x + y))) :: S) F hs) m r) :
    GS P ops (⟨some d, .binOp .add t ox oy t', ty, pos, after, none⟩ :: rest) E (Hd n D S F hs) m r :=
  GS.val hd (fun a w ha => by simp [execOp, ha.1.eval hx, ha.1.eval hy, eqGuard, binOp, Op.intArith]) k
theorem GS.sub (hd : Nat.blt d n = true) (hx : evalS S ox = some (.int kd x)) (hy : evalS S oy = some (.int kd y)) (k : GS P ops rest E (Hd n D ((d, .int kd (kd.wrap (x - y))) :: S) F hs) m r) :
    GS P ops (⟨some d, .binOp .sub t ox oy t', ty, pos, after, none⟩ :: rest) E (Hd n D S F hs) m r :=
  GS.val hd (fun a w ha => by simp [execOp, ha.1.eval hx, ha.1.eval hy, eqGuard, binOp, Op.intArith]) k
theorem GS.mul (hd : Nat.blt d n = true) (hx : evalS S ox = some (.int kd x)) (hy : evalS S oy = some (.int kd y)) (k : GS P ops rest E (Hd n D ((d, .int kd (kd.wrap (x * y))) :: S) F hs) m r) :
    GS P ops (⟨some d, .binOp .mul t ox oy t', ty, pos, after, none⟩ :: rest) E (Hd n D S F hs) m r :=
  GS.val hd (fun a w ha => by simp [execOp, ha.1.eval hx, ha.1.eval hy, eqGuard, binOp, Op.intArith]) k
theorem GS.quoC (hd : Nat.blt d n = true) (h0 : y ≠ 0) (hx : evalS S ox = some (.int kd x)) (hy : evalS S oy = some (.int kd y)) (k : GS P ops rest E (Hd n D ((d, .int kd (kd.wrap (x.tdiv y))) :: S) F hs) m r) :
    GS P ops (⟨some d, .binOp .quo t ox oy t', ty, pos, after, none⟩ :: rest) E (Hd n D S F hs) m r :=
  GS.val hd (fun a w ha => by simp [execOp, ha.1.eval hx, ha.1.eval hy, eqGuard, binOp, Op.intDiv, h0]) k
theorem GS.eql (hd : Nat.blt d n = true) (hx : evalS S ox = some (.int kd x)) (hy : evalS S oy = some (.int kd y)) (k : GS P ops rest E (Hd n D ((d, .bool (x == y)) :: S) F hs) m r) :
    GS P ops (⟨some d, .binOp .eql t ox oy t', ty, pos, after, none⟩ :: rest) E (Hd n D S F hs) m r :=
  GS.val hd (fun a w ha => by simp [execOp, ha.1.eval hx, ha.1.eval hy, eqGuard, binOp, Op.intCmp]) k
theorem GS.neq (hd : Nat.blt d n = true) (hx : evalS S ox = some (.int kd x)) (hy : evalS S oy = some (.int kd y)) (k : GS P ops rest E (Hd n D ((d, .bool (x != y)) :: S) F hs) m r) :
    GS P ops (⟨some d, .binOp .neq t ox oy t', ty, pos, after, none⟩ :: rest) E (Hd n D S F hs) m r :=
  GS.val hd (fun a w ha => by simp [execOp, ha.1.eval hx, ha.1.eval hy, eqGuard, binOp, Op.intCmp]) k
theorem GS.leq (hd : Nat.blt d n = true) (hx : evalS S ox = some (.int kd x)) (hy : evalS S oy = some (.int kd y)) (k : GS P ops rest E (Hd n D ((d, .bool (decide (x ≤ y))) :: S) F hs) m r) :
    GS P ops (⟨some d, .binOp .leq t ox oy t', ty, pos, after, none⟩ :: rest) E (Hd n D S F hs) m r :=
  GS.val hd (fun a w ha => by simp [execOp, ha.1.eval hx, ha.1.eval hy, eqGuard, binOp, Op.intCmp]) k
theorem GS.gtr (hd : Nat.blt d n = true) (hx : evalS S ox = some (.int kd x)) (hy : evalS S oy = some (.int kd y)) (k : GS P ops rest E (Hd n D ((d, .bool (decide (x > y))) :: S) F hs) m r) :
    GS P ops (⟨some d, .binOp .gtr t ox oy t', ty, pos, after, none⟩ :: rest) E (Hd n D S F hs) m r :=
  GS.val hd (fun a w ha => by simp [execOp, ha.1.eval hx, ha.1.eval hy, eqGuard, binOp, Op.intCmp]) k
theorem GS.geq (hd : Nat.blt d n = true) (hx : evalS S ox = some (.int kd x)) (hy : evalS S oy = some (.int kd y)) (k : GS P ops rest E (Hd n D ((d, .bool (decide (x ≥ y))) :: S) F hs) m r) :
    GS P ops (⟨some d, .binOp .geq t ox oy t', ty, pos, after, none⟩ :: rest) E (Hd n D S F hs) m r :=
  GS.val hd (fun a w ha => by simp [execOp, ha.1.eval hx, ha.1.eval hy, eqGuard, binOp, Op.intCmp]) k
theorem GS.not {b : Bool} (hd : Nat.blt d n = true) (hx : evalS S ox = some (.bool b)) (k : GS P ops rest E (Hd n D ((d, .bool (!b)) :: S) F hs) m r) :
    GS P ops (⟨some d, .unOp .not t ox, ty, pos, after, none⟩ :: rest) E (Hd n D S F hs) m r :=
  GS.val hd (fun a w ha => by simp [execOp, ha.1.eval hx, Op.unary]) k
theorem GS.build {fs : Array Field} {pl : Array (Nat × Nat)} {zc cs : Array Value} {z : Value} {parts : List (Nat × Operand)} {ps : List (Nat × Value)} (hd : Nat.blt d n = true) (ht : P.underlying t = some (.struct fs)) (hz : ∀ w, (zeroValue t).run P w = .ok z w) (hpl : Places P fs pl)
    (hx : evalP S parts = some ps) (hc : z.cells = zc) (hi : Instr.fill (pl[·]?) zc ps = some cs) (k : GS P ops rest E (Hd n D ((d, .agg cs) :: S) F hs) m r) :
    GS P ops (⟨some d, .build t parts.toArray, ty, pos, after, none⟩ :: rest) E (Hd n D S F hs) m r :=
  GS.val hd (fun a w ha => by
    have hm := evalP_map ha.1 hx
    subst hc
    simp only [execOp, Instr.build, Sem.run_bind, hz, Result.andThen, rUnd ht, hpl w]
    simp [hm, hi]) k
theorem GS.fieldAddr {i b o z : Nat} {fs : Array Field} {f : Field} (hd : Nat.blt d n = true) (ht : P.underlying t = some (.struct fs)) (hf : fs[i]? = some f) (hz : ∀ w, (sizeOf f.type).run P w = .ok (z + 1) w)
    (hx : evalS S ox = some (.pointer (some ⟨b, o, none⟩))) (k : GS P ops rest E (Hd n D ((d, .pointer (some ⟨b, o + f.offset, none⟩)) :: S) F hs) m r) :
    GS P ops (⟨some d, .fieldAddr t ox i, ty, pos, after, none⟩ :: rest) E (Hd n D S F hs) m r :=
  GS.val hd (fun a w ha => by simp [execOp, ha.1.eval hx, Instr.fieldAt, rUnd ht, hf, Instr.sureAddr, fieldPlace, hz, add_addr]) k
theorem GS.indexAddrA {len e b o z j : Nat} (hd : Nat.blt d n = true) (ht : P.underlying t = some (.array len e)) (hz : ∀ w, (sizeOf e).run P w = .ok z w)
    (hx : evalS S ox = some (.pointer (some ⟨b, o, none⟩))) (hy : evalS S oy = some (.int kd x)) (hj : idxO len x = some j) (k : GS P ops rest E (Hd n D ((d, .pointer (some ⟨b, o + j * z, none⟩)) :: S) F hs) m r) :
    GS P ops (⟨some d, .indexAddr t ox oy, ty, pos, after, none⟩ :: rest) E (Hd n D S F hs) m r :=
  GS.val hd (fun a w ha => by
    obtain ⟨h0, h1, h2, _⟩ := idxO_some hj
    subst h2
    simp [execOp, ha.1.eval hx, ha.1.eval hy, Instr.indexAt, asIntOf, rUnd ht, Instr.sureAddr, h0, h1, hz, add_addr]) k
theorem GS.indexAddrS {len cap e b o z j : Nat} (hd : Nat.blt d n = true) (ht : P.underlying t = some (.slice e)) (hz : ∀ w, (sizeOf e).run P w = .ok z w)
    (hx : evalS S ox = some (.slice (some ⟨b, o, none⟩) len cap)) (hy : evalS S oy = some (.int kd x)) (hj : idxO len x = some j) (k : GS P ops rest E (Hd n D ((d, .pointer (some ⟨b, o + j * z, none⟩)) :: S) F hs) m r) :
    GS P ops (⟨some d, .indexAddr t ox oy, ty, pos, after, none⟩ :: rest) E (Hd n D S F hs) m r :=
  GS.val hd (fun a w ha => by
    obtain ⟨h0, h1, h2, _⟩ := idxO_some hj
    subst h2
    simp [execOp, ha.1.eval hx, ha.1.eval hy, Instr.indexAt, asIntOf, rUnd ht, h0, h1, hz, add_addr]) k
theorem GS.lenS {e len cap : Nat} {p : Option Addr} {T : Array TypeId} (hd : Nat.blt d n = true) (hT : T[0]? = some t) (ht : P.underlying t = some (.slice e)) (hx : evalS S ox = some (.slice p len cap)) (k : GS P ops rest E (Hd n D ((d, .int .i64 len) :: S) F hs) m r) :
    GS P ops (⟨some d, .call ⟨.builtin .len, #[ox], T⟩, ty, pos, after, none⟩ :: rest) E (Hd n D S F hs) m r :=
  GS.val hd (fun a w ha => by simp [execOp, resolve, invoke, builtin, Builtin.len_, ha.1.eval hx, hT, rUnd ht, goInt]) k
end
end
end
end
section
section
variable {β : Type} {P : Program} {ops : Array Oper} {rest : List Oper} {E : Act → World → Prop} {m : Option β} {r : β}
variable {n : Nat} {D : List Deferred} {S : List (Nat × Value)} {F : Fz} {hs : List HP}
variable {d : Nat} {ty t t' : TypeId} {pos : String} {after : Array Edge} {ox oy oz : Operand} {v u : Value} {kd : IntKind} {x y : Int}
theorem GS.loadF {b o T : Nat} {cs : List Value} {fr : Nat × Nat} (hd : Nat.blt d n = true) (hA : ∀ w, (isAgg t).run P w = .ok false w) (hx : evalS S ox = some (.pointer (some ⟨b, o, none⟩))) (hb : F.mem b = some (.cells cs.toArray T fr)) (hv : cs[o]? = some v)
    (k : GS P ops rest E (Hd n D ((d, v) :: S) F hs) m r) : GS P ops (⟨some d, .load t ox, ty, pos, after, none⟩ :: rest) E (Hd n D S F hs) m r :=
  GS.val hd (fun a w ha => by simp [execOp, ha.1.eval hx, run_load1 hA (by rw [cell_of_heap (ha.2.frozen hb)]; exact hv)]) k
theorem GS.loadO {b o T i : Nat} {cs : List Value} {fr : Nat × Nat} (hd : Nat.blt d n = true) (hA : ∀ w, (isAgg t).run P w = .ok false w) (hx : evalS S ox = some (.pointer (some ⟨b, o, none⟩))) (hb : hs[i]? = some (pt b (.cells cs.toArray T fr))) (hv : cs[o]? = some v)
    (k : GS P ops rest E (Hd n D ((d, v) :: S) F hs) m r) : GS P ops (⟨some d, .load t ox, ty, pos, after, none⟩ :: rest) E (Hd n D S F hs) m r :=
  GS.val hd (fun a w ha => by simp [execOp, ha.1.eval hx, run_load1 hA (by rw [cell_of_heap (SH.ownedAt hb ha.2)]; exact hv)]) k
theorem GS.loadOA {b o T z i : Nat} {cs vs : List Value} {fr : Nat × Nat} (hd : Nat.blt d n = true) (hA : ∀ w, (isAgg t).run P w = .ok true w) (hz : ∀ w, (sizeOf t).run P w = .ok z w) (hx : evalS S ox = some (.pointer (some ⟨b, o, none⟩))) (hb : hs[i]? = some (pt b (.cells cs.toArray T fr))) (hv : (cs.drop o).take z = vs) (hl : vs.length = z)
    (k : GS P ops rest E (Hd n D ((d, .agg vs.toArray) :: S) F hs) m r) : GS P ops (⟨some d, .load t ox, ty, pos, after, none⟩ :: rest) E (Hd n D S F hs) m r :=
  GS.val hd (fun a w ha => by simp [execOp, ha.1.eval hx, run_loadA hA hz (SH.ownedAt hb ha.2) hv hl]) k
end
end
section
section
variable {β : Type} {P : Program} {ops : Array Oper} {rest l : List Oper} {E : Act → World → Prop} {A : Act → World → Prop} {m : Option β} {r : β}
variable {n : Nat} {D : List Deferred} {S S0 : List (Nat × Value)} {F F' : Fz} {hs : List HP}
theorem GS.orM {b : Bool} {m1 : Option Bool} {f : Bool → Option β} (k d : Nat)
    (h1 : b = false → ∀ z, GS P ops (l.take k) (SegS n D d (.bool z) S F hs) (Hd n D S F hs) m1 z)
    (h2 : b = true → GS P ops (l.take k) (SegS n D d (.bool true) S F hs) (Hd n D S F hs) (some ()) ())
    (next : ∀ z F', F ≤ F' → GS P ops (l.drop k) E (Hd n D ((d, .bool z) :: S) F' hs) (f z) r) : GS P ops l E (Hd n D S F hs) ((if b then some true else m1).bind f) r :=
  GS.seg k d (fun z => .bool z) (by
    intro z
    cases hb : b with
    | true => rw [if_pos rfl]; intro e; simp only [Option.some.injEq] at e; subst e; exact h2 hb rfl
    | false => rw [if_neg (by simp)]; exact h1 hb z) (fun z F' _ le => next z F' le)
theorem GS.onH {dst : Option Tmp} {op : Op} {ty : TypeId} {pos : String} {after : Array Edge} {j t : Nat} {b want : Bool} (hb : b = want) (hj : (ops[j]?).bind (·.dst) = some t) (hv : lookS S t = some (.bool b))
    (k : GS P ops (⟨dst, op, ty, pos, after, none⟩ :: rest) E (Hd n D S F hs) m r) : GS P ops (⟨dst, op, ty, pos, after, some (j, want)⟩ :: rest) E (Hd n D S F hs) m r :=
  GS.on hj (hb ▸ hv) k
theorem GS.offH {d : Nat} {op : Op} {ty : TypeId} {pos : String} {after : Array Edge} {j t : Nat} {b want : Bool} (hb : b = !want) (hd : Nat.blt d n = true) (hj : (ops[j]?).bind (·.dst) = some t) (hv : lookS S t = some (.bool b))
    (k : GS P ops rest E (Hd n D ((d, undef) :: S) F hs) m r) : GS P ops (⟨some d, op, ty, pos, after, some (j, want)⟩ :: rest) E (Hd n D S F hs) m r :=
  GS.off hd hj hv (by subst hb; cases want <;> rfl) k
theorem GS.pickTH {d : Nat} {ty : TypeId} {pos : String} {after : Array Edge} {ox oy oz : Operand} {v : Value} {b : Bool} (hb : b = true) (hd : Nat.blt d n = true) (hz : evalS S oz = some (.bool b)) (hx : evalS S ox = some v) (k : GS P ops rest E (Hd n D ((d, v) :: S) F hs) m r) :
    GS P ops (⟨some d, .pick oz ox oy, ty, pos, after, none⟩ :: rest) E (Hd n D S F hs) m r := GS.pickT hd (hb ▸ hz) hx k
theorem GS.pickFH {d : Nat} {ty : TypeId} {pos : String} {after : Array Edge} {ox oy oz : Operand} {v : Value} {b : Bool} (hb : b = false) (hd : Nat.blt d n = true) (hz : evalS S oz = some (.bool b)) (hy : evalS S oy = some v) (k : GS P ops rest E (Hd n D ((d, v) :: S) F hs) m r) :
    GS P ops (⟨some d, .pick oz ox oy, ty, pos, after, none⟩ :: rest) E (Hd n D S F hs) m r := GS.pickF hd (hb ▸ hz) hy k
end
end
section
section
variable {β : Type} {P : Program} {ops : Array Oper} {rest : List Oper} {E : Act → World → Prop} {m : Option β} {r : β}
variable {n : Nat} {D : List Deferred} {S : List (Nat × Value)} {F : Fz} {hs : List HP}
variable {d : Nat} {ty t t' : TypeId} {pos : String} {after : Array Edge} {ox oy oz : Operand} {v u : Value} {kd : IntKind} {x y : Int}
theorem GS.idxK {α : Type} {sz : Nat} {c : ERel α} {p : Option Addr} {cap e : Nat} {l : List α} {z : α} (hd : Nat.blt d n = true) (ht : P.underlying t = some (.slice e)) (hz : ∀ w, (sizeOf e).run P w = .ok sz w)
    (hr : RepSl sz c F p cap l) (hx : evalS S ox = some (.slice p l.length cap)) (hy : evalS S oy = some (.int kd x)) (hi : idxL l x = some z)
    (k : ∀ b o T fr cs, F.mem b = some (.cells (List.toArray cs) T fr) → c F z ((cs.drop o).take sz) → GS P ops rest E (Hd n D ((d, .pointer (some ⟨b, o, none⟩)) :: S) F hs) m r) :
    GS P ops (⟨some d, .indexAddr t ox oy, ty, pos, after, none⟩ :: rest) E (Hd n D S F hs) m r := by
  obtain ⟨h0, h1, h2⟩ := idxL_some hi
  obtain ⟨b, o, T, fr, cs, rfl, h3, h4⟩ := hr.at_ h2
  have hj : idxO l.length x = some x.toNat := by unfold idxO; rw [if_pos (by omega)]
  exact GS.indexAddrS hd ht hz hx hy hj (k b _ T fr cs h3 h4)
theorem GS.idx {α : Type} {sz : Nat} {c : ERel α} {p : Option Addr} {cap e : Nat} {l : List α} {f : α → Option β} (hd : Nat.blt d n = true) (ht : P.underlying t = some (.slice e)) (hz : ∀ w, (sizeOf e).run P w = .ok sz w)
    (hr : RepSl sz c F p cap l) (hx : evalS S ox = some (.slice p l.length cap)) (hy : evalS S oy = some (.int kd x))
    (k : ∀ z b o T fr cs, idxL l x = some z → F.mem b = some (.cells (List.toArray cs) T fr) → c F z ((cs.drop o).take sz) → GS P ops rest E (Hd n D ((d, .pointer (some ⟨b, o, none⟩)) :: S) F hs) (f z) r) :
    GS P ops (⟨some d, .indexAddr t ox oy, ty, pos, after, none⟩ :: rest) E (Hd n D S F hs) ((idxL l x).bind f) r :=
  GS.bind fun z hi => GS.idxK hd ht hz hr hx hy hi (fun b o T fr cs h1 h2 => k z b o T fr cs hi h1 h2)
end
end
section
section
variable {β : Type} {P : Program} {ops : Array Oper} {rest : List Oper} {E : Act → World → Prop} {A : Act → World → Prop} {m : Option β} {r : β}
variable {n : Nat} {D : List Deferred} {S S0 : List (Nat × Value)} {F F' : Fz} {hs : List HP}
theorem GS.nilCheck {d : Nat} {ty : TypeId} {pos : String} {after : Array Edge} {ox : Operand} {p : Addr} (hd : Nat.blt d n = true) (hx : evalS S ox = some (.pointer (some p))) (k : GS P ops rest E (Hd n D ((d, .pointer (some p)) :: S) F hs) m r) :
    GS P ops (⟨some d, .nilCheck ox, ty, pos, after, none⟩ :: rest) E (Hd n D S F hs) m r :=
  GS.val hd (fun a w ha => by simp [execOp, ha.1.eval hx]) k
theorem GS.eqlR {d : Nat} {ty t t' : TypeId} {pos : String} {after : Array Edge} {ox oy : Operand} {xs ys : Array Value} {b : Bool} (hd : Nat.blt d n = true) (hg : P.eqGuardType P.depth t = false) (hq : ∀ w, (Op.equal t (.agg xs) (.agg ys)).run P w = .ok b w)
    (hx : evalS S ox = some (.agg xs)) (hy : evalS S oy = some (.agg ys)) (k : GS P ops rest E (Hd n D ((d, .bool b) :: S) F hs) m r) :
    GS P ops (⟨some d, .binOp .eql t ox oy t', ty, pos, after, none⟩ :: rest) E (Hd n D S F hs) m r :=
  GS.val hd (fun a w ha => by simp [execOp, ha.1.eval hx, ha.1.eval hy, eqGuard, binOp, hg, hq]) k
end
end
section
section
variable {β : Type} {P : Program} {ops : Array Oper} {rest : List Oper} {E : Act → World → Prop} {m : Option β} {r : β}
variable {n : Nat} {D : List Deferred} {S : List (Nat × Value)} {F F0 : Fz} {hs : List HP}
variable {d : Nat} {d' : Option Nat} {ty t e : TypeId} {pos : String} {after : Array Edge} {ox oy oz : Operand} {v : Value}
theorem GS.nilCheckR {a : Addr} {p : Option Addr} (hp : p = some a) (hd : Nat.blt d n = true) (hx : evalS S ox = some (.pointer p)) (k : GS P ops rest E (Hd n D ((d, .pointer (some a)) :: S) F hs) m r) :
    GS P ops (⟨some d, .nilCheck ox, ty, pos, after, none⟩ :: rest) E (Hd n D S F hs) m r := by
  subst hp; exact GS.nilCheck hd hx k
section
variable {α : Type} {γ T j b o : Nat} {c : ERel α} {xs : List α} {x : α}
theorem GS.loadR {Φ : Value → Prop} (i : Nat) (hi : hs[i]? = some (arena γ (cellR T c) F0 xs)) (le0 : F0 ≤ F) (hb : RefB γ F j b) (hel : xs[j]? = some x) (hd : Nat.blt d n = true) (hA : ∀ w, (isAgg t).run P w = .ok false w)
    (hx : evalS S ox = some (.pointer (some ⟨b, o, none⟩))) (hg : ∀ vs, c F x vs → ∃ v, vs[o]? = some v ∧ Φ v) (k : ∀ v, Φ v → GS P ops rest E (Hd n D ((d, v) :: S) F hs) m r) :
    GS P ops (⟨some d, .load t ox, ty, pos, after, none⟩ :: rest) E (Hd n D S F hs) m r := by
  refine GS.step rfl fun hm a w ha => ?_
  obtain ⟨vs, h1, h2⟩ := (ha.2.pull hi).arenaAt hb hel
  obtain ⟨v, hv, hΦ⟩ := hg _ (h1 F le0)
  refine ⟨v, ?_, k v hΦ hm _ _ ⟨ha.1.put hd _, ha.2⟩⟩
  simp [execOp, ha.1.eval hx, run_load1 hA (by rw [cell_of_heap h2]; exact hv)]
end
section
variable {K V : Type} {ck : K → Value} {rv : Fz → V → Value → Prop} {γ j b : Nat} {xs : List (List (K × V))} {l l' : List (K × V)} {key : K} {val z : V} {kt vt : TypeId}
variable [BEq K] [LawfulBEq K]
theorem GS.lookupR {p : Option Nat} {zv : Value} (i : Nat) (hi : hs[i]? = some (arena γ (ownMapP ck rv) F0 xs)) (le0 : F0 ≤ F) (hb : RefB γ F j b) (hp : p = some b) (hel : xs[j]? = some l) (hd : Nat.blt d n = true) (ht : P.underlying t = some (.map kt vt)) (ok : KeyOK P kt ck) (hzv : ∀ w, (zeroValue vt).run P w = .ok zv w) (hz : rv F z zv) (hx : evalS S ox = some (.map p)) (hy : evalS S oy = some (ck key))
    (k : ∀ v, rv F ((mapGet l key).getD z) v → GS P ops rest E (Hd n D ((d, v) :: S) F hs) m r) : GS P ops (⟨some d, .lookup t ox oy false, ty, pos, after, none⟩ :: rest) E (Hd n D S F hs) m r := by
  subst hp
  refine GS.step rfl fun hm a w ha => ?_
  obtain ⟨es, c, l', hpm, hn, hb', hr, _⟩ := (ha.2.pull hi).mapAt hb hel
  obtain ⟨v, hv, hrun⟩ := run_lookup (key := key) hb' hr le0 ht ok hzv hz false
  rw [mapGet_perm hpm hn] at hv
  refine ⟨v, ?_, k v hv hm _ _ ⟨ha.1.put hd _, ha.2⟩⟩
  simp [execOp, ha.1.eval hx, ha.1.eval hy, hrun]
end
end
end
section
variable {κ : Option Nat} {β : Type} {P : Program} {ops : Array Oper} {rest : List Oper} {ks : List Kt} {Q : Exit → Act → World → Prop} {m : Option β} {r : β} {n : Nat} {D : List Deferred} {S : List (Nat × Value)} {F : Fz} {hs : List HP} {d : Nat} {ty : TypeId} {pos : String} {after : Array Edge}
theorem GL.makeFuncB {fn : Fn} {first caps : List Operand} {us vs : List Value} (hd : Nat.blt d n = true) (hx0 : evalL S first = some us) (hx : evalL S caps = some vs) (k : GL κ P ops rest ks Q (Hd n D ((d, .func fn us.toArray vs.toArray) :: S) F hs) m r) :
    GL κ P ops (⟨some d, .makeFunc fn first.toArray caps.toArray, ty, pos, after, none⟩ :: rest) ks Q (Hd n D S F hs) m r :=
  GL.val hd (fun a w ha => by simp [execOp, Instr.makeFunc, evalL_map ha.1 hx, evalL_map ha.1 hx0]) k
end
end Go.Dec
end

section
namespace Go.Dec
def IterX {α ρ : Type} (P : Program) (F : Fz) (f : FuncId) (caps : List Value) (arg : α → Fz → List Value → Prop) (Hs : Fz → ρ → List HP) (r0 : ρ) (q : ρ × List α) : Prop :=
  (∀ args w, (callFunc f args).run P w = .ok (.enter f args) w) ∧
  ∀ (σ : Type) (ly : Nat) (Y : σ → Fz → HP) (Z : HP) (upd : ρ → σ) (y : α → σ → Option (σ × Bool)) (F1 : Fz), F ≤ F1 → YieldOK P ly F1 arg Y y → (∀ r F', F1 ≤ F' → ∀ m, stars (Hs F' r ++ [Z]) m → Y (upd r) F' m) →
    CTH P f (.func (.yield ly) #[] #[] :: caps).toArray F1 (Hs F1 r0 ++ [Z]) (foldY y q.2 (upd q.1)) (fun _ _ _ => True) (fun s' F' => [Y s' F'])
theorem IterX.mk' {α ρ : Type} {P : Program} {F : Fz} {f : FuncId} {caps : List Value} {arg : α → Fz → List Value → Prop} {Hs : Fz → ρ → List HP} {r0 : ρ} {q : ρ × List α} (h1 : ∀ args w, (callFunc f args).run P w = .ok (.enter f args) w)
    (h2 : ∀ (σ : Type) (ly : Nat) (Y : σ → Fz → HP) (Z : HP) (upd : ρ → σ) (y : α → σ → Option (σ × Bool)) (F1 : Fz), F ≤ F1 → YieldOK P ly F1 arg Y y → (∀ r F', F1 ≤ F' → ∀ m, stars (Hs F' r ++ [Z]) m → Y (upd r) F' m) →
      ∃ m, CTH P f (.func (.yield ly) #[] #[] :: caps).toArray F1 (Hs F1 r0 ++ [Z]) m (fun _ _ _ => True) (fun s' F' => [Y s' F']) ∧ ∀ r, foldY y q.2 (upd q.1) = some r → m = some r) : IterX P F f caps arg Hs r0 q :=
  ⟨h1, fun σ ly Y Z upd y F1 le hy hp r hr => let ⟨_, h, k⟩ := h2 σ ly Y Z upd y F1 le hy hp; h r (k r hr)⟩
section
variable {κ : Option Nat} {β : Type} {P : Program} {ks : List Kt} {Q : Exit → Act → World → Prop} {m : Option β} {r : β} {n : Nat} {D : List Deferred} {S : List (Nat × Value)} {F : Fz} {hs : List HP}
theorem GC.packY {c : Code} {Hs : List HP} {Y : HP} (is : List Nat) (hi : pickR is hs = Hs) (hp : ∀ m, stars Hs m → Y m) (k : GC κ P c ks Q (Hd n D S F (Y :: leftR is hs)) m r) : GC κ P c ks Q (Hd n D S F hs) m r :=
  GC.weak (fun _ _ h => ⟨h.1, h.2.mono fun _ hm => star_mono_left (fun m hm => hp m (hi ▸ hm)) (stars_part (ks := is) hm)⟩) k
variable {α τ ρ : Type} {g : Operand} {ps : List Tmp} {assign body : Code} {f : FuncId} {caps : List Value} {arg : α → Fz → List Value → Prop}
theorem GC.rangeForX {q : ρ × List α} {bm : α → τ → Option τ} {k : τ → Option β} (Hs : Fz → ρ → List HP) (r0 : ρ) (s0 : ρ → τ) (is : List Nat) (I : τ → Fz → List HP → Prop) (hg : evalS S g = some (.func (.func f) #[] caps.toArray)) (hit : IterX P F f caps arg Hs r0 q) (hps : (ps.all fun p => Nat.blt p n) = true) (harg : ∀ x F' vs, arg x F' vs → vs.length = ps.length)
    (hi : pickR is hs = Hs F r0) (hI : ∀ r F', F ≤ F' → I (s0 r) F' (Hs F' r ++ leftR is hs))
    (round : ∀ l L F0 F1 x vs s ctl R hs', F ≤ F0 → F0 ≤ F1 → arg x F1 vs → I s F0 hs' → GC (some l) P assign [] (BP P l body (RP l L I (fun (_ : Empty) _ _ => False) F1 R (.next ctl))) (Hd n [] ((ps.zip vs).reverse ++ S) F1 (pt l (lready L) :: R :: hs')) (bm x s) ctl)
    (next : ∀ q' F0 F' s hs', F ≤ F0 → F0 ≤ F' → forL bm q.2 (s0 q.1) = some s → I s F0 hs' → GE none P ks Q (Hd n (dmark q' :: D) S F' (pt q' (.deferred (some [])) :: hs')) (k s) r) :
    GC none P (.rangeFunc g ps.toArray assign body) ks Q (Hd n D S F hs) ((forL bm q.2 (s0 q.1)).bind k) r := by
  intro hm a w ha
  cases hl : forL bm q.2 (s0 q.1) with
  | none => rw [hl] at hm; cases hm
  | some sf =>
    rw [hl] at hm
    refine wpIn_rangeFunc fun fn _ => ?_
    let L : Loop := { state := .ready, pending := none, fn, tmps := a.tmps, params := ps.toArray, assign, body, defers := w.heap.size }
    let J : Empty → Fz → List HP → Prop := fun _ _ _ => False
    let Z : HP := star (pt (w.heap.size + 1) (lready L)) (stars (leftR is hs))
    have hw1 : SH ((w.alloc (.deferred (some []))).alloc (.loop L)) F (star (stars (Hs F r0 ++ [Z])) (stars [pt w.heap.size (.deferred (some []))])) := by
      have h1 := (ha.2.alloc (.deferred (some []))).alloc (.loop L)
      rw [World.size_alloc] at h1
      refine h1.mono fun m hm => ?_
      have h2 : star (pt (w.heap.size + 1) (lready L)) (star (pt w.heap.size (.deferred (some []))) (star (stars (Hs F r0)) (stars (leftR is hs)))) m :=
        star_mono_right (fun m hm => star_mono_right (fun m hm => by have := stars_part (ks := is) hm; rw [hi] at this; exact this) hm) hm
      have h3 := star_comm (star_mono_right (fun m hm => star_swap hm) (star_swap h2))
      refine star_mono_left (fun m hm => ?_) (star_mono_right (fun m hm => stars_one hm) h3)
      exact stars_app (star_mono_right (fun m hm => stars_one (p := Z) hm) hm)
    have hY : YieldOK P (w.heap.size + 1) F arg (yS F (w.heap.size + 1) L I J) (yOf (fun x s => (bm x s).map Ctl.next)) := by
      refine yieldOK (S' := fun vs => (ps.zip vs).reverse ++ S) (assign := assign) (body := body) (fun x F' vs hx => by rw [harg x F' vs hx]; simp [L]) rfl rfl (fun vs _ => sl_params hps ⟨ha.1.1, rfl, ha.1.2.2⟩) ?_
      intro F0 F1 x vs s ctl R hs' h0 h1 hx hI hmm
      cases hb : bm x s with
      | none => rw [hb] at hmm; cases hmm
      | some s' =>
        rw [hb] at hmm
        simp only [Option.map_some, Option.some.injEq] at hmm
        subst hmm
        exact round _ L F0 F1 x vs s s' R hs' h0 h1 hx hI hb
    have hpk : ∀ r F', F ≤ F' → ∀ m, stars (Hs F' r ++ [Z]) m → yS F (w.heap.size + 1) L I J (.next (s0 r)) F' m := fun r F' le m hm => by
      refine ⟨F', Hs F' r ++ leftR is hs, le, Fz.le_refl _, hI r F' le, ?_⟩
      have h1 := stars_app' hm
      have h2 : star (stars (Hs F' r)) Z m := star_mono_right (fun m hm => by
        obtain ⟨m1, _, _, s1, _, hp, _⟩ := hm
        obtain ⟨a1, a2, d, t1, t2, g1, g2⟩ := hp
        exact ⟨a1, a2, d, t1.trans s1, t2.trans s1, g1, g2⟩) h1
      exact star_mono_right (fun m hm => stars_app hm) (star_swap h2)
    have hc := hit.2 _ _ _ Z (fun r => .next (s0 r)) _ F (Fz.le_refl F) hY hpk (.next sf) (by rw [foldY_retL, retL_forL, hl]; rfl) _ _ hw1
    refine ⟨w.heap.size + 1, [dmark w.heap.size], (w.alloc (.deferred (some []))).alloc (.loop L), ⟨.fn (.func f) caps.toArray, #[.func (.yield (w.heap.size + 1)) #[] #[]]⟩, (w.alloc (.deferred (some []))).alloc (.loop L), f, (.func (.yield (w.heap.size + 1)) #[] #[] :: caps).toArray, (w.alloc (.deferred (some []))).alloc (.loop L), run_enterLoop_outer fn a.tmps ps.toArray assign body, ?_, fun _ _ => trivial, ?_, fun e => (by cases e), ?_⟩
    · have hc0 : a.eval (.const (.func (.yield (w.heap.size + 1)) #[] #[])) = .func (.yield (w.heap.size + 1)) #[] #[] := rfl
      simp [resolve, Deferred.ofValue, ha.1.eval hg, hc0]
    · simp [invoke, hit.1]
    · refine callsIn_wide.2 (hc.mono ?_)
      rintro _ w' ⟨F', v, le, rfl, -, hw'⟩
      have hw2 : SH w' F' (star (yS F (w.heap.size + 1) L I J (.next sf) F') (stars [pt w.heap.size (.deferred (some []))])) := hw'.mono fun m hm => star_left1 hm
      obtain ⟨F0, hs', h0, h1, hI', h3⟩ := SH.openNext hw2
      refine ⟨none, _, run_overN (SH.ownedAt (k := 0) rfl h3), ?_⟩
      have h4 : SH _ F' (stars (pt w.heap.size (.deferred (some [])) :: hs')) := (SH.eraseAt 0 (SH.putAt (k := 0) rfl h3 (lover L none))).mono fun m hm => star_left1 hm
      exact next w.heap.size F0 F' sf hs' h0 h1 hl hI' hm _ _ ⟨⟨ha.1.1, by simp [ha.1.2.1], ha.1.2.2⟩, h4⟩
end
end Go.Dec
end

section
namespace Go.Dec
variable {κ : Option Nat}
section
variable {K V : Type}
def ownIterD (ck : K → Value) (rv : Fz → V → Value → Prop) (F : Fz) (b it : Nat) (M todo : List (K × V)) (cur : Option (K × V)) : HP := fun m => ∃ (es : Array MapEntry) (clock : Nat) (l' : List (K × V)) (seen : Array Nat) (last : Nat),
  star (pt b (.map es clock)) (pt it (.mapIter (some b) clock seen last)) m ∧ MRel ck rv F es.toList l' ∧ Births es.toList clock ∧ (seen.isEmpty = false → last = clock) ∧
  todo.Perm (((es.toList.zip l').filter (fun z => !seen.contains z.1.born)).map Prod.snd) ∧ l'.Perm M ∧ (M.map Prod.fst).Nodup ∧
  ∀ x, cur = some x → ∃ z ∈ es.toList.zip l', z.2 = x ∧ seen.back? = some z.1.born
def iterAr (γ : Nat) (ck : K → Value) (rv : Fz → V → Value → Prop) (F : Fz) (j b it : Nat) (xs : List (List (K × V))) (todo : List (K × V)) (cur : Option (K × V)) : HP := fun m => ∃ M, xs[j]? = some M ∧ star (ownIterD ck rv F b it M todo cur) (hole γ (ownMapP ck rv) F j b xs) m
variable {ck : K → Value} {rv : Fz → V → Value → Prop} {F F0 : Fz} {w : World} {H : HP} {b it γ j : Nat} {M todo : List (K × V)} {cur : Option (K × V)} {xs : List (List (K × V))}
theorem iterAr_open (h : SH w F (star (iterAr γ ck rv F0 j b it xs todo cur) H)) : ∃ (M : List (K × V)) (es : Array MapEntry) (clock : Nat) (l' : List (K × V)) (seen : Array Nat) (last : Nat), xs[j]? = some M ∧
    w.heap[b]? = some (.map es clock) ∧ w.heap[it]? = some (.mapIter (some b) clock seen last) ∧ SH w F (star (pt it (.mapIter (some b) clock seen last)) (star (pt b (.map es clock)) (star (hole γ (ownMapP ck rv) F0 j b xs) H))) ∧ MRel ck rv F0 es.toList l' ∧ Births es.toList clock ∧ (seen.isEmpty = false → last = clock) ∧
    todo.Perm (((es.toList.zip l').filter (fun z => !seen.contains z.1.born)).map Prod.snd) ∧ l'.Perm M ∧ (M.map Prod.fst).Nodup ∧ ∀ x, cur = some x → ∃ z ∈ es.toList.zip l', z.2 = x ∧ seen.back? = some z.1.born := by
  obtain ⟨m, ⟨m1, m2, d, s1, s2, ⟨M, hM, hA⟩, hq⟩, k⟩ := h
  have h1 := star_assoc ⟨m1, m2, d, s1, s2, hA, hq⟩
  obtain ⟨m3, m4, d', t1, t2, ⟨es, c, l', seen, last, h2, h3⟩, hq'⟩ := h1
  have hs : SH w F (star (pt b (.map es c)) (star (pt it (.mapIter (some b) c seen last)) (star (hole γ (ownMapP ck rv) F0 j b xs) H))) := ⟨m, star_assoc ⟨m3, m4, d', t1, t2, h2, hq'⟩, k⟩
  have hs' : SH w F (star (pt it (.mapIter (some b) c seen last)) (star (pt b (.map es c)) (star (hole γ (ownMapP ck rv) F0 j b xs) H))) := hs.mono fun m hm => star_swap hm
  exact ⟨M, es, c, l', seen, last, hM, hs.owned, hs'.owned, hs', h3⟩
theorem iterAr_close {es : Array MapEntry} {clock : Nat} {l' : List (K × V)} {seen : Array Nat} {last : Nat} (hM : xs[j]? = some M) (h : SH w F (star (pt it (.mapIter (some b) clock seen last)) (star (pt b (.map es clock)) (star (hole γ (ownMapP ck rv) F0 j b xs) H))))
    (h1 : MRel ck rv F0 es.toList l') (h2 : Births es.toList clock) (h3 : seen.isEmpty = false → last = clock) (h4 : todo.Perm (((es.toList.zip l').filter (fun z => !seen.contains z.1.born)).map Prod.snd)) (h5 : l'.Perm M) (h6 : (M.map Prod.fst).Nodup) (h7 : ∀ x, cur = some x → ∃ z ∈ es.toList.zip l', z.2 = x ∧ seen.back? = some z.1.born) :
    SH w F (star (iterAr γ ck rv F0 j b it xs todo cur) H) := h.mono fun m hm => by
  have hm1 := star_assoc' (star_swap hm)
  have hm2 := star_assoc' hm1
  exact star_mono_left (fun m hm => ⟨M, hM, star_mono_left (fun m hm => ⟨es, clock, l', seen, last, hm, h1, h2, h3, h4, h5, h6, h7⟩) hm⟩) hm2
theorem hole_same {C : Fz → Nat → List (K × V) → HP} {y : List (K × V)} (h : SH w F (star (hole γ C F0 j b xs) H)) : SH w F (star (hole γ C F0 j b (xs.set j y)) H) :=
  h.mono fun m hm => star_mono_left (fun m ⟨bs, h1, h2, h3⟩ => ⟨bs, by simpa using h1, h2, by rw [← zip_set (f := C F0) h2, List.eraseIdx_set_eq]; exact h3⟩) hm
theorem iterAr_up (le : F0 ≤ F) (hb : RefB γ F j b) (h : SH w F (star (iterAr γ ck rv F0 j b it xs todo cur) H)) : SH w F (star (iterAr γ ck rv F j b it xs todo cur) H) := by
  obtain ⟨M, es, c, l', seen, last, hM, _, _, hs, h1, h2, h3, h4, h5, h6, h7⟩ := iterAr_open h
  refine iterAr_close hM ?_ (h1.up le) h2 h3 h4 h5 h6 h7
  have hh : SH w F (star (hole γ (ownMapP ck rv) F0 j b xs) (star (pt it (.mapIter (some b) c seen last)) (star (pt b (.map es c)) H))) := hs.mono fun m hm => star_swap (star_mono_right (fun m hm => star_swap hm) hm)
  exact (hh.hole_up mapStays le hb).mono fun m hm => star_mono_right (fun m hm => star_swap hm) (star_swap hm)
theorem iterAr_back (h : SH w F (star (iterAr γ ck rv F0 j b it xs [] cur) H)) : SH w F (star (arena γ (ownMapP ck rv) F0 xs) H) := by
  obtain ⟨M, es, c, l', seen, last, hM, _, _, hs, h1, h2, h3, h4, h5, h6, h7⟩ := iterAr_open h
  have hs1 : SH w F (star (ownMapP ck rv F0 b M) (star (hole γ (ownMapP ck rv) F0 j b xs) H)) := hs.drop.mono fun m hm => star_mono_left (fun m hm => ⟨l', h5, h6, es, c, hm, h1, h2⟩) hm
  have := SH.giveR mapStays (Fz.le_refl _) hs1 (List.getElem?_eq_some_iff.1 hM).1
  rw [← set_back hM] at this; exact this
variable [BEq K] [LawfulBEq K]
omit [LawfulBEq K] in
theorem MRel.del2 {kd : TypeDesc} {k : K} (hk : ∀ a b, Instr.sameNow kd (ck a) (ck b) = some (a == b)) :
    ∀ {es : List MapEntry} {l : List (K × V)} (i0 : Nat), MRel ck rv F es l →
      (Instr.findNow kd (ck k) es i0 = some none ∧ mapDel l k = l ∧ ∀ x ∈ l, (k == x.1) = false) ∨
      (∃ i e x, Instr.findNow kd (ck k) es i0 = some (some (i0 + i, e)) ∧ i < es.length ∧ MRel ck rv F (es.eraseIdx i) (mapDel l k) ∧ mapDel l k = l.eraseIdx i ∧ l[i]? = some x ∧ (k == x.1) = true)
  | [], [], _, _ => .inl ⟨rfl, rfl, fun _ h => by cases h⟩
  | e :: es, x :: l, i0, ⟨h1, h2, h3⟩ => by
    by_cases hb : (k == x.1) = true
    · right
      refine ⟨0, e.val, x, by simp [Instr.findNow, h1, hk, hb], by simp, ?_, by simp [mapDel, hb], rfl, hb⟩
      simp only [mapDel, hb, if_true, List.eraseIdx_cons_zero]; exact h3
    · have hb' : (k == x.1) = false := by simpa using hb
      rcases MRel.del2 (k := k) hk (i0 + 1) h3 with ⟨g1, g2, g3⟩ | ⟨i, e1, y, g1, g2, g3, g4, g5, g6⟩
      · left
        refine ⟨by simp [Instr.findNow, h1, hk, hb', g1], by simp [mapDel, hb', g2], fun z hz => ?_⟩
        rcases List.mem_cons.1 hz with rfl | hz
        · exact hb'
        · exact g3 z hz
      · right
        refine ⟨i + 1, e1, y, by simp [Instr.findNow, h1, hk, hb', g1]; omega, by simpa using g2, ?_, by simp [mapDel, hb', g4], by simpa using g5, g6⟩
        simp only [mapDel, hb', Bool.false_eq_true, if_false, List.eraseIdx_cons_succ]
        exact ⟨h1, h2, g3⟩
theorem zip_erase {α β : Type} : ∀ {es : List α} {l : List β} {i : Nat}, (es.eraseIdx i).zip (l.eraseIdx i) = (es.zip l).eraseIdx i
  | [], _, _ => by simp
  | _ :: _, [], _ => by simp
  | _ :: _, _ :: _, 0 => rfl
  | _ :: es, _ :: l, i + 1 => by simp [zip_erase (es := es) (l := l)]
theorem filter_erase {α : Type} {p : α → Bool} : ∀ {l : List α} {i : Nat} {x : α}, l[i]? = some x → p x = false → (l.eraseIdx i).filter p = l.filter p
  | [], _, _, h, _ => by simp at h
  | y :: l, 0, x, h, hp => by simp at h; subst h; simp [hp]
  | y :: l, i + 1, x, h, hp => by
    simp only [List.getElem?_cons_succ] at h
    simp only [List.eraseIdx_cons_succ, List.filter_cons, filter_erase h hp]
omit [BEq K] [LawfulBEq K] in
theorem keys_one : ∀ {l : List (K × V)} {x y : K × V}, (l.map Prod.fst).Nodup → x ∈ l → y ∈ l → x.1 = y.1 → x = y
  | [], _, _, _, h, _, _ => by cases h
  | z :: l, x, y, hn, hx, hy, e => by
    simp only [List.map_cons, List.nodup_cons] at hn
    rcases List.mem_cons.1 hx with rfl | hx1 <;> rcases List.mem_cons.1 hy with rfl | hy1
    · rfl
    · exact absurd (List.mem_map_of_mem (f := Prod.fst) hy1) (by rw [← e]; exact hn.1)
    · exact absurd (List.mem_map_of_mem (f := Prod.fst) hx1) (by rw [e]; exact hn.1)
    · exact keys_one hn.2 hx1 hy1 e
end
section
variable {β : Type} {P : Program} {ops : Array Oper} {rest : List Oper} {ks : List Kt} {Q : Exit → Act → World → Prop} {m : Option β} {r : β}
variable {n : Nat} {D : List Deferred} {S : List (Nat × Value)} {F F0 : Fz} {hs : List HP} {d : Nat} {d' : Option Nat} {ty t kt vt : TypeId} {pos : String} {after : Array Edge} {ox oy : Operand} {cd : Code}
variable {K V : Type} {ck : K → Value} {rv : Fz → V → Value → Prop} {b it γ j i' : Nat} {l todo : List (K × V)} {cur : Option (K × V)} {xs : List (List (K × V))}
theorem GL.rangeD {p : Option Nat} (i : Nat) (hi : hs[i]? = some (arena γ (ownMapP ck rv) F0 xs)) (hb : RefB γ F j b) (hp : p = some b) (hel : xs[j]? = some l) (hd : Nat.blt d n = true) (ht : P.underlying t = some (.map kt vt)) (hx : evalS S ox = some (.map p))
    (k : ∀ it, (l.map Prod.fst).Nodup → GL κ P ops rest ks Q (Hd n D ((d, .pointer (some ⟨it, 0, none⟩)) :: S) F (hs.set i (iterAr γ ck rv F0 j b it xs l none))) m r) :
    GL κ P ops (⟨some d, .range t ox, ty, pos, after, none⟩ :: rest) ks Q (Hd n D S F hs) m r := by
  subst hp
  refine GL.step rfl (.inr rfl) fun hm a w ha => ?_
  have h0 := (ha.2.pull hi).takeR hb hel
  obtain ⟨es, c, l', hpm, hn, hh, hr, hsh, hbi⟩ := own_mapP h0
  refine ⟨.pointer (some ⟨w.heap.size, 0, none⟩), w.alloc (.mapIter (some b) c #[] c), ?_, k w.heap.size hn hm _ _ ⟨ha.1.put hd _, ?_⟩⟩
  · simp [execOp, Instr.range, ha.1.eval hx, rUnd ht, run_getM hh]
  · have h1 := hsh.alloc (.mapIter (some b) c #[] c)
    refine SH.push hi (iterAr_close hel h1 hr hbi (fun h => by simp at h) ?_ hpm hn (fun _ h => by cases h))
    have e : ((es.toList.zip l').filter (fun z => !(#[] : Array Nat).contains z.1.born)) = es.toList.zip l' := by
      rw [List.filter_eq_self]; intro z _; simp
    rw [e, hr.map_zip.1]; exact hpm.symm
theorem GL.nextD0 {pt' : Option Addr} (i : Nat) (hi : hs[i]? = some (iterAr γ ck rv F0 j b it xs [] cur)) (hp : pt' = some ⟨it, 0, none⟩) (hd : Nat.blt d n = true) (hx : evalS S ox = some (.pointer pt'))
    (k : GL κ P ops rest ks Q (Hd n D ((d, .tuple #[.bool false]) :: S) F hs) m r) :
    GL κ P ops (⟨some d, .next ox false, ty, pos, after, none⟩ :: rest) ks Q (Hd n D S F hs) m r := by
  subst hp
  refine GL.step rfl (.inr rfl) fun hm a w ha => ?_
  obtain ⟨M, es, c, l', seen, last, _, hb, hit, _, hr, hbi, hl, ht, _⟩ := iterAr_open (ha.2.pull hi)
  obtain ⟨k', hk'⟩ := (run_next (P := P) (ty := ty) hb hit hr hbi hl ht).1 rfl
  refine ⟨_, { w with drawn := k' }, ?_, k hm _ _ ⟨ha.1.put hd _, ha.2.drew _⟩⟩
  simp [execOp, ha.1.eval hx, hk']
theorem GL.nextD1 {pt' : Option Addr} (i : Nat) (hi : hs[i]? = some (iterAr γ ck rv F0 j b it xs todo cur)) (hne : todo ≠ []) (hp : pt' = some ⟨it, 0, none⟩) (hd : Nat.blt d n = true) (hx : evalS S ox = some (.pointer pt'))
    (k : ∀ x rest' v, (x :: rest').Perm todo → (∀ F', F0 ≤ F' → rv F' x.2 v) → GL κ P ops rest ks Q (Hd n D ((d, .tuple #[.bool true, ck x.1, v]) :: S) F (hs.set i (iterAr γ ck rv F0 j b it xs rest' (some x)))) m r) :
    GL κ P ops (⟨some d, .next ox false, ty, pos, after, none⟩ :: rest) ks Q (Hd n D S F hs) m r := by
  subst hp
  refine GL.step rfl (.inr rfl) fun hm a w ha => ?_
  obtain ⟨M, es, c, l', seen, last, hM, hb, hit, hsh, hr, hbi, hl, ht, hpm, hnM, _⟩ := iterAr_open (ha.2.pull hi)
  obtain ⟨z, hz, hseen, k', hk'⟩ := (run_next (P := P) (ty := ty) hb hit hr hbi hl ht).2 hne
  obtain ⟨hkey, hval⟩ := hr.zip_mem hz
  have hnd := births_nodup hbi hr
  have hsp := filter_split (p := fun y : MapEntry × (K × V) => !seen.contains y.1.born) hnd hz (by simp only [hseen, Bool.not_false])
  have e1 : ∀ y : MapEntry × (K × V), (!(seen.push z.1.born).contains y.1.born) = (!seen.contains y.1.born && !(y.1.born == z.1.born)) := fun y => by
    rw [Array.contains_push, Bool.not_or]
  refine ⟨_, put { w with drawn := k' } it (.mapIter (some b) c (seen.push z.1.born) c), ?_, k z.2 (((es.toList.zip l').filter (fun y => !(seen.push z.1.born).contains y.1.born)).map Prod.snd) z.1.val ?_ hval hm _ _ ⟨by rw [← hkey]; exact ha.1.put hd _, SH.push hi (iterAr_close hM ((hsh.drew _).put (o' := .mapIter (some b) c (seen.push z.1.born) c)) hr hbi (fun _ => rfl) (.refl _) hpm hnM (fun x hx => ?_))⟩⟩
  · simp [execOp, ha.1.eval hx, hk']
  · refine List.Perm.trans ?_ ht.symm
    have := (hsp.map Prod.snd).symm
    simp only [List.map_cons] at this
    refine List.Perm.trans (.of_eq ?_) this
    congr 2
    exact List.filter_congr fun y _ => e1 y
  · simp only [Option.some.injEq] at hx
    exact ⟨z, hz, hx, by simp⟩
theorem GL.entryD {pt' : Option Addr} {x : K × V} (i : Nat) (hi : hs[i]? = some (iterAr γ ck rv F0 j b it xs todo (some x))) (hp : pt' = some ⟨it, 0, none⟩) (hd : Nat.blt d n = true) (hx : evalS S ox = some (.pointer pt'))
    (k : ∀ v, (∀ F', F0 ≤ F' → rv F' x.2 v) → GL κ P ops rest ks Q (Hd n D ((d, .tuple #[ck x.1, v]) :: S) F hs) m r) :
    GL κ P ops (⟨some d, .entry ox, ty, pos, after, none⟩ :: rest) ks Q (Hd n D S F hs) m r := by
  subst hp
  refine GL.step rfl (.inr rfl) fun hm a w ha => ?_
  obtain ⟨M, es, c, l', seen, last, hM, hb, hit, hsh, hr, hbi, hl, ht, hpm, hnM, hlast⟩ := iterAr_open (ha.2.pull hi)
  obtain ⟨z, hz, hzx, hback⟩ := hlast x rfl
  obtain ⟨hkey, hval⟩ := hr.zip_mem hz
  subst hzx
  have hne : seen.isEmpty = false := by
    cases h : seen.isEmpty with
    | false => rfl
    | true =>
      have : seen = #[] := by simpa using h
      subst this; simp at hback
  have hlc := hl hne
  subst hlc
  have hfind : es.find? (fun e => e.born == z.1.born) = some z.1 := by
    have hmem : z.1 ∈ es.toList := by rw [← hr.map_zip.2]; exact List.mem_map_of_mem hz
    have hnd : (es.toList.map (·.born)).Nodup := hbi.1.imp fun h => Nat.ne_of_lt h
    have : es.toList.find? (fun e => e.born == z.1.born) = some z.1 := by
      clear hb hit hr hbi ht hpm hlast hz hval hkey hsh hback hl
      generalize es.toList = L at hmem hnd
      induction L with
      | nil => cases hmem
      | cons y L ih =>
        simp only [List.map_cons, List.nodup_cons] at hnd
        rcases List.mem_cons.1 hmem with e | e
        · rw [List.find?_cons, ← e]; simp
        · have : (y.born == z.1.born) = false := by
            cases hbb : y.born == z.1.born with
            | false => rfl
            | true => exact absurd (List.mem_map_of_mem (f := (·.born)) e) (by rw [← (beq_iff_eq.1 hbb : y.born = z.1.born)]; exact hnd.1)
          rw [List.find?_cons, this]; exact ih e hnd.2
    simpa using this
  refine ⟨_, w, ?_, k z.1.val hval hm _ _ ⟨by rw [← hkey]; exact ha.1.put hd _, ha.2⟩⟩
  simp [execOp, Instr.entry, ha.1.eval hx, getObj_it hit, run_getM hb, hback, hfind]
def eqO (a b : Nat) : Option Unit := if a = b then some () else none
theorem eqO_some {a b : Nat} {u : Unit} (h : eqO a b = some u) : a = b := by
  unfold eqO at h; split at h
  · assumption
  · cases h
theorem RefB.one {c : Nat} (h : RefB γ F j b) (h' : RefB γ F i' c) (e : i' = j) : c = b := by
  subst e; have := h.2.symm.trans h'.2; simp at this; exact this.symm
theorem GL.deleteD [BEq K] [LawfulBEq K] {p : Option Nat} {c : Nat} {x : K × V} {xs' : List (List (K × V))} {T : Array TypeId} (i : Nat) (hi : hs[i]? = some (iterAr γ ck rv F0 j b it xs todo (some x))) (hb : RefB γ F j b) (hc : RefB γ F i' c) (hij : i' = j) (hp : p = some c) (hel : xs[i']? = some l) (hd : ∀ e, d' = some e → Nat.blt e n = true) (hT : T[0]? = some t) (ht : P.underlying t = some (.map kt vt)) (ok : KeyOK P kt ck) (hx : evalS S ox = some (.map p)) (hy : evalS S oy = some (ck x.1)) (he : xs' = xs.set i' (mapDel l x.1))
    (k : GL κ P ops rest ks Q (Hd n D (match d' with | some e => (e, .tuple #[]) :: S | none => S) F (hs.set i (iterAr γ ck rv F0 j b it xs' todo none))) m r) : GL κ P ops (⟨d', .call ⟨.builtin .delete, #[ox, oy], T⟩, ty, pos, after, none⟩ :: rest) ks Q (Hd n D S F hs) m r := by
  obtain rfl := hb.one hc hij
  subst hp; subst he; subst hij
  refine GL.step rfl (.inr rfl) fun hm a w ha => ?_
  obtain ⟨M, es, clock, l', seen, last, hM, hbb, hit, hsh, hr, hbi, hl, htd, hpm, hnM, hlast⟩ := iterAr_open (ha.2.pull hi)
  obtain rfl : M = l := by rw [hM] at hel; simpa using hel
  obtain ⟨z, hz, hzx, hback⟩ := hlast x rfl
  obtain ⟨kd, hu, hsame⟩ := ok.und
  have hnl : (l'.map Prod.fst).Nodup := (hpm.map _).nodup_iff.2 hnM
  have hxl : x ∈ l' := by rw [← hr.map_zip.1, ← hzx]; exact List.mem_map_of_mem hz
  rcases hr.del2 (k := x.1) hsame 0 with ⟨_, _, g3⟩ | ⟨q, e1, y, g1, g2, g3, g4, g5, g6⟩
  · have := g3 x hxl; simp at this
  · have hj : q < es.size := by simpa using g2
    have hf := run_findKey (w := w) hu g1
    rw [Nat.zero_add] at hf
    have hyx : y = x := keys_one hnl (List.mem_of_getElem? g5) hxl (by simpa using (beq_iff_eq.1 g6).symm)
    subst hyx
    have hes : (es.eraseIdxIfInBounds q).toList = es.toList.eraseIdx q := by simp [Array.eraseIdxIfInBounds, hj]
    obtain ⟨e2, he2⟩ : ∃ e2, es.toList[q]? = some e2 := ⟨_, List.getElem?_eq_getElem g2⟩
    have hzq : (es.toList.zip l')[q]? = some (e2, y) := by rw [List.getElem?_zip_eq_some]; exact ⟨he2, g5⟩
    have hz2 : z = (e2, y) := by
      obtain ⟨q', hq', ez⟩ := List.getElem_of_mem hz
      have hq2 : (es.toList.zip l')[q']? = some z := by rw [List.getElem?_eq_getElem hq', ez]
      have h1 := (List.getElem?_zip_eq_some.1 hq2).2
      have hpw := List.pairwise_iff_getElem.1 hnl
      have hq1 : q < l'.length := (List.getElem?_eq_some_iff.1 g5).1
      have hq1' : q' < l'.length := (List.getElem?_eq_some_iff.1 h1).1
      have a1 : l'[q] = y := (List.getElem?_eq_some_iff.1 g5).2
      have a2 : l'[q'] = y := by rw [(List.getElem?_eq_some_iff.1 h1).2, hzx]
      have : q' = q := by
        rcases Nat.lt_trichotomy q' q with h | h | h
        · exact absurd (by rw [List.getElem_map, List.getElem_map, a1, a2]) (hpw q' q (by simpa using hq1') (by simpa using hq1) h)
        · exact h
        · exact absurd (by rw [List.getElem_map, List.getElem_map, a1, a2]) (hpw q q' (by simpa using hq1) (by simpa using hq1') h)
      subst this
      rw [hq2] at hzq; simpa using hzq
    have hseen : seen.contains e2.born = true := by
      have := hback; rw [hz2] at this
      simp only at this
      rw [Array.contains_iff_mem]; exact Array.mem_of_back? this
    refine ⟨.tuple #[], Dec.put w c (.map (es.eraseIdxIfInBounds q) clock), ?_, k hm _ _ ⟨?_, SH.push hi ?_⟩⟩
    · have : (Builtin.delete_ T ty #[.map (some c), ck y.1]).run P w = .ok (.tuple #[]) (Dec.put w c (.map (es.eraseIdxIfInBounds q) clock)) := by
        simp [Builtin.delete_, hT, rUnd ht, run_getM hbb, ok.check, hf, run_setM hbb]
      simp [execOp, resolve, invoke, builtin, ha.1.eval hx, ha.1.eval hy, this]
    · cases d' with
      | none => exact ha.1.put_none _
      | some e => exact ha.1.put (hd e rfl) _
    · have h1 := (hsh.mono fun m hm => star_swap hm).put (o' := .map (es.eraseIdxIfInBounds q) clock)
      have hjl : i' < xs.length := (List.getElem?_eq_some_iff.1 hM).1
      refine iterAr_close (M := mapDel M y.1) (by rw [List.getElem?_set]; simp [hjl]) (w := Dec.put w c (.map (es.eraseIdxIfInBounds q) clock)) ?_ (l' := mapDel l' y.1) (by rw [hes]; exact g3) (by rw [hes]; exact hbi.erase) hl ?_ (mapDel_perm hpm hnM) (mapDel_nodup hnM) (fun _ h => by cases h)
      · have h2 := h1.mono fun m hm => star_swap hm
        have h3 : SH (Dec.put w c (.map (es.eraseIdxIfInBounds q) clock)) F (star (hole γ (ownMapP ck rv) F0 i' c xs) _) := h2.mono fun m hm => star_swap (star_mono_right (fun m hm => star_swap hm) hm)
        exact (hole_same (y := mapDel M y.1) h3).mono fun m hm => star_mono_right (fun m hm => star_swap hm) (star_swap hm)
      · rw [hes, g4, zip_erase, filter_erase hzq (by simp only [hseen, Bool.not_true])]; exact htd
theorem Hd.upD (i : Nat) (le : F0 ≤ F) (hb : RefB γ F j b) (hi : hs[i]? = some (iterAr γ ck rv F0 j b it xs todo cur)) {a : Act} {w : World} (ha : Hd n D S F hs a w) : Hd n D S F (hs.set i (iterAr γ ck rv F j b it xs todo cur)) a w :=
  ⟨ha.1, SH.push hi (iterAr_up le hb (ha.2.pull hi))⟩
theorem GC.upD (i : Nat) (le : F0 ≤ F) (hb : RefB γ F j b) (hi : hs[i]? = some (iterAr γ ck rv F0 j b it xs todo cur)) (k : GC κ P cd ks Q (Hd n D S F (hs.set i (iterAr γ ck rv F j b it xs todo cur))) m r) : GC κ P cd ks Q (Hd n D S F hs) m r := fun hm a w ha => k hm a w (Hd.upD i le hb hi ha)
theorem GE.upD (i : Nat) (le : F0 ≤ F) (hb : RefB γ F j b) (hi : hs[i]? = some (iterAr γ ck rv F0 j b it xs todo cur)) (k : GE κ P ks Q (Hd n D S F (hs.set i (iterAr γ ck rv F j b it xs todo cur))) m r) : GE κ P ks Q (Hd n D S F hs) m r := fun hm a w ha => k hm a w (Hd.upD i le hb hi ha)
theorem GE.backD (i : Nat) (hi : hs[i]? = some (iterAr γ ck rv F0 j b it xs [] cur)) (k : GE κ P ks Q (Hd n D S F (hs.set i (arena γ (ownMapP ck rv) F0 xs))) m r) : GE κ P ks Q (Hd n D S F hs) m r := fun hm a w ha => k hm a w ⟨ha.1, SH.push hi (iterAr_back (ha.2.pull hi))⟩
theorem Hd.curD {x : Option (K × V)} (i : Nat) (hi : hs[i]? = some (iterAr γ ck rv F0 j b it xs todo x)) {a : Act} {w : World} (ha : Hd n D S F hs a w) : Hd n D S F (hs.set i (iterAr γ ck rv F0 j b it xs todo none)) a w :=
  ⟨ha.1, SH.push hi (by
    obtain ⟨M, es, c, l', seen, last, hM, _, _, hs, h1, h2, h3, h4, h5, h6, h7⟩ := iterAr_open (ha.2.pull hi)
    exact iterAr_close hM hs h1 h2 h3 h4 h5 h6 (fun _ h => by cases h))⟩
theorem GE.curD {x : Option (K × V)} (i : Nat) (hi : hs[i]? = some (iterAr γ ck rv F0 j b it xs todo x)) (k : GE κ P ks Q (Hd n D S F (hs.set i (iterAr γ ck rv F0 j b it xs todo none))) m r) : GE κ P ks Q (Hd n D S F hs) m r := fun hm a w ha => k hm a w (Hd.curD i hi ha)
end
def fnPostHM {β : Type} (P : Program) (fn : Func) (F : Fz) (R : HP) (ρ : β → Fz → Value → Prop) (Hs' : β → Fz → List HP) (r : β) : Exit → Act → World → Prop :=
  bodyPostM Fence.wide 0 P fn (fun e w' => ∃ F' v, F ≤ F' ∧ e = .returned v ∧ ρ r F' v ∧ SH w' F' (star (stars (Hs' r F')) R))
theorem CTH.enterM {β : Type} {P : Program} {f : FuncId} {fn : Func} {c : Code} {args : List Value} {F : Fz} {Hs : List HP} {m : Option β} {ρ : β → Fz → Value → Prop} {Hs' : β → Fz → List HP} {n : Nat}
    (hf : P.funcs[f]? = some fn) (hb : fn.body = some c) (hn : fn.ntmps = n) (ha : Nat.ble args.length n = true)
    (k : ∀ r R, GC none P c [] (fnPostHM P fn F R ρ Hs' r) (Hd n [] (argS 0 args) F (Hs ++ [R])) m r) : CTH P f args.toArray F Hs m ρ Hs' := by
  intro r hm w R hw
  refine (callsIn_wide (n := 0)).1 (callsIn_of_wp_marks hf hb trivial (k r R hm _ w ⟨?_, hw.mono fun m hm => stars_app (star_mono_right (fun _ h => stars_one h) hm)⟩))
  rw [hn]; exact sl_enter ha
section
variable {β : Type} {P : Program} {n : Nat} {S : List (Nat × Value)} {F F' : Fz} {hs : List HP} {ks : List Kt} {fn : Func} {R : HP} {ρ : β → Fz → Value → Prop} {Hs' : β → Fz → List HP} {x r : β} {rs : List ResultVar} {vs : List Value} {ms : List (Nat × Nat)}
theorem ret_postHM (is : List Nat) (hr : fn.results = rs.toArray) (ho : okM hs ms) (h : Res P S F' (shutM hs ms) rs vs) (hi : pickR is (shutM hs ms) = Hs' x F' ++ [R]) (le : F ≤ F') (hρ : ρ x F' (tup vs)) :
    some x = some r → ∀ a w, Hd n (ms.map fun p => dmark p.2) S F' hs a w → LeavesInM Fence.wide 0 P fn a.tmps (fun e w' => ∃ F' v, F ≤ F' ∧ e = .returned v ∧ ρ r F' v ∧ SH w' F' (star (stars (Hs' r F')) R)) a.defers .returning w := by
  intro e a w ha
  simp only [Option.some.injEq] at e
  subst e
  rw [ha.1.2.1]
  refine leavesM ha.2 ho fun w' h' => ?_
  exact ⟨_, run_results (n := n) (a := a) (D := a.defers) hr ⟨⟨ha.1.1, rfl, ha.1.2.2⟩, h'⟩ h, F', _, le, rfl, hρ, h'.mono fun m hm => by
    have h1 := stars_pick (ks := is) hm
    rw [hi] at h1
    exact star_one (stars_app' h1)⟩
theorem GE.endHM (is : List Nat) (ms : List (Nat × Nat)) (hr : fn.results = rs.toArray) (ho : okM hs ms) (h : Res P S F' (shutM hs ms) rs vs) (hi : pickR is (shutM hs ms) = Hs' x F' ++ [R]) (le : F ≤ F') (hρ : ρ x F' (tup vs)) :
    GE κ P [] (fnPostHM P fn F R ρ Hs' r) (Hd n (ms.map fun p => dmark p.2) S F' hs) (some x) r := GE.nil (ret_postHM is hr ho h hi le hρ)
end
def NilSl {α : Type} (sz : Nat) (c : ERel α) (F : Fz) (p : Option Addr) (cap : Nat) (l : List α) : Prop := RepSl sz c F p cap l ∧ (l = [] → p = none ∧ cap = 0)
section
variable {α : Type} {sz : Nat} {c : ERel α} {F F' : Fz} {p : Option Addr} {cap : Nat} {l : List α}
theorem NilSl.nil (h : NilSl sz c F p cap l) (e : l = []) : p = none ∧ cap = 0 := h.2 e
theorem NilSl.zero : NilSl sz c F none 0 ([] : List α) := ⟨RepSl.nil, fun _ => ⟨rfl, rfl⟩⟩
end
def nilO {α : Type} (l : List α) : Option Unit := match l with | [] => some () | _ :: _ => none
theorem nilO_some {α : Type} {l : List α} {u : Unit} (h : nilO l = some u) : l = [] := by
  cases l with
  | nil => rfl
  | cons x l => cases h
section
variable {K V : Type} {ck : K → Value} {rv : Fz → V → Value → Prop} {γ : Nat} {xs ys : List (List (K × V))} {n : Nat} {D : List Deferred} {S : List (Nat × Value)} {F F0 : Fz} {hs : List HP} {a : Act} {w : World}
theorem Hd.arE (i : Nat) (hi : hs[i]? = some (arena γ (ownMapP ck rv) F0 xs)) (hp : PermL xs ys) (ha : Hd n D S F hs a w) : Hd n D S F (hs.set i (arena γ (ownMapP ck rv) F0 ys)) a w := by
  refine ⟨ha.1, SH.push hi ?_⟩
  refine (ha.2.pull hi).arena_map hp.1 fun i' x y b' m hx hy hm => ?_
  obtain ⟨l', h1, h2, h3⟩ := hm
  have h4 := hp.2 i' x y hx hy
  exact ⟨l', h1.trans h4, (h4.map _).nodup_iff.1 h2, h3⟩
end
end Go.Dec
end
