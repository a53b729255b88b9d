/- Own texts and texts printed by a program of mine, for topVatted_holds; only what it reaches. -/
import Derived.Test.YtkffpbnbjnadnaaPa1
import Derived.Shelf.SlIterI.Nil
section
namespace Go.Dec
variable {κ : Option Nat}
open Go.Maps Go.WideElems Go.RowKit Go.MapKept Go.WideShapes
theorem SH.below {w w' : World} {F : Fz} {H : HP} (h : SH w F H) (hb : Below w.heap.size w w') : SH w' F H := by
  obtain ⟨m, a, k⟩ := h
  refine ⟨m, a, k.dj, fun b c e => ?_, k.gst, fun b o e => ?_, hb.os.trans k.os, hb.tape.trans k.tape, hb.output.trans k.out⟩
  · obtain ⟨o, e1, e2⟩ := k.own b c e
    exact ⟨o, e1, (hb.block b (lt_of_heap e2)).trans e2⟩
  · have := k.frz b o e
    exact (hb.block b (lt_of_heap this)).trans this
theorem SH.newFrozen {w w' : World} {F : Fz} {H : HP} {g : Nat} {o : Obj} (h : SH w F H) (hb : Below w.heap.size w w') (hg : w.heap.size ≤ g) (ho : w'.heap[g]? = some o) : F ≤ F.add g o ∧ SH w' (F.add g o) H := by
  have h' := h.below hb
  obtain ⟨m, a, k⟩ := h
  obtain ⟨m', a', k'⟩ := h'
  have h0 : F.mem g = none := by
    cases e : F.mem g with
    | none => rfl
    | some x => have := lt_of_heap (k.frz g x e); omega
  have h1 : m (.blk g) = none := by
    cases e : m (.blk g) with
    | none => rfl
    | some x => obtain ⟨o', _, e2⟩ := k.own g x e; have := lt_of_heap e2; omega
  refine ⟨Fz.le_add h0, m, a, fun b => ?_, fun b c e => ?_, k.gst, fun b x e => ?_, k'.os, k'.tape, k'.out⟩
  · show m (.blk b) = none ∨ fset F.mem g o b = none
    by_cases e : b = g
    · subst e; exact .inl h1
    · rcases k.dj b with h | h
      · exact .inl h
      · exact .inr (by simpa [fset, e] using h)
  · obtain ⟨o', e1, e2⟩ := k.own b c e
    exact ⟨o', e1, (hb.block b (lt_of_heap e2)).trans e2⟩
  · by_cases e' : b = g
    · subst e'
      have : (F.add b o).mem b = some o := Fz.add_self F b o
      rw [this] at e; cases e; exact ho
    · have : F.mem b = some x := by simpa [Fz.add, fset, e'] using e
      exact (hb.block b (lt_of_heap (k.frz b x this))).trans (k.frz b x this)
def keysS {V : Type} (l : List (Int × V)) : Option (List Int) :=
  if l.all (fun x => decide (-9223372036854775808 ≤ x.1 ∧ x.1 ≤ 9223372036854775807)) = true ∧ l.length ≤ 1000000 then some ((l.map Prod.fst).mergeSort (fun a b => decide (a ≤ b))) else none
abbrev ckI : Int → Value := fun x => .int .i64 x
abbrev nilR : Value → Option (DataW Unit × List MemPlace) := fun _ => some (.nil, [])
theorem keyOf_int {P : Program} {k : TypeId} (hk : P.underlying k = some (.int .i64)) {x : Int} (h : -9223372036854775808 ≤ x ∧ x ≤ 9223372036854775807) : keyOf P k (ckI x) = some (.int .i64 x) := by
  have hw : (Lit.int .i64 x).wf = true := by
    simp [Lit.wf, IntKind.min, IntKind.max, IntKind.bits, IntKind.signed]; omega
  simp [keyOf, hk, mapKey, hw]
theorem rd_int {P : Program} {k : TypeId} (hk : P.underlying k = some (.int .i64)) {x : Int} {e : MapEntry} (he : e.key = ckI x) (h : -9223372036854775808 ≤ x ∧ x ≤ 9223372036854775807) : rd P k nilR e = some (.int .i64 x, .nil) := by
  unfold rd
  rw [he, keyOf_int hk h]
  rfl
theorem MRel.keys {V : Type} {rv : Fz → V → Value → Prop} {F : Fz} {P : Program} {k : TypeId} (hk : P.underlying k = some (.int .i64)) : ∀ {es : List MapEntry} {l : List (Int × V)}, MRel ckI rv F es l → (∀ x ∈ l, (-9223372036854775808 ≤ x.1 ∧ x.1 ≤ 9223372036854775807)) → (es.map (rg P k nilR)).map (fun p => intOf p.1) = l.map Prod.fst ∧ (∀ e ∈ es, ∃ y, rd P k nilR e = some y) ∧ es.map (·.key) = l.map (fun x => ckI x.1)
  | [], [], _, _ => ⟨rfl, by simp, rfl⟩
  | e :: es, x :: l, ⟨h1, _, h3⟩, hb => by
    obtain ⟨g1, g2, g3⟩ := h3.keys hk (fun y hy => hb y (List.mem_cons_of_mem _ hy))
    have h0 := rd_int hk h1 (hb x (by simp))
    refine ⟨?_, ?_, ?_⟩
    · simp only [List.map_cons, g1, rg_of h0]; rfl
    · intro e' he'
      rcases List.mem_cons.1 he' with rfl | h
      · exact ⟨_, h0⟩
      · exact g2 _ h
    · simp only [List.map_cons, g3, h1]
theorem owns_of {V : Type} {rv : Fz → V → Value → Prop} {F : Fz} {P : Program} {k : TypeId} (hk : P.underlying k = some (.int .i64)) {w : World} {b clock : Nat} {es : Array MapEntry} {l' l : List (Int × V)} (hb : w.heap[b]? = some (.map es clock)) (hr : MRel ckI rv F es.toList l') (hbi : Births es.toList clock) (hp : l'.Perm l) (hn : (l.map Prod.fst).Nodup)
    (hall : l.all (fun x => decide (-9223372036854775808 ≤ x.1 ∧ x.1 ≤ 9223372036854775807)) = true) (hlen : l.length ≤ 1000000) :
    ∃ D : DataW Unit, w.ownsMap P k nilR b es.size D ∧ (intKeys D).Perm (l.map Prod.fst) ∧ Maps.size D = l.length := by
  have hb' : ∀ x ∈ l', (-9223372036854775808 ≤ x.1 ∧ x.1 ≤ 9223372036854775807) := fun x hx => by
    have := List.all_eq_true.1 hall x (hp.mem_iff.1 hx)
    simpa using this
  obtain ⟨g1, g2, g3⟩ := hr.keys hk hb'
  have hsz : es.size = l.length := by rw [← hp.length_eq, ← hr.len]; simp
  refine ⟨.map ((es.toList.map (rg P k nilR)).foldr DataW.insert []), ⟨es, clock, hb, ⟨by rw [hsz]; unfold maxLen; omega, ⟨hbi.2, hbi.1.imp fun h => Nat.ne_of_lt h, ?_⟩, g2⟩, Nat.le_refl _, rfl⟩, ?_, ?_⟩
  · rw [g3]
    have h1 : (l'.map Prod.fst).Nodup := ((hp.map Prod.fst).nodup_iff).2 hn
    have e : l'.map (fun x => ckI x.1) = (l'.map Prod.fst).map ckI := by rw [List.map_map]; rfl
    rw [e]
    exact h1.map _ (fun a b hab e => hab (by simpa [ckI] using e))
  · show (((es.toList.map (rg P k nilR)).foldr DataW.insert []).map fun p => intOf p.1).Perm _
    refine ((sorted_perm _).map _).trans ?_
    rw [g1]
    exact hp.map _
  · show ((es.toList.map (rg P k nilR)).foldr DataW.insert []).length = _
    rw [(sorted_perm _).length_eq]; simpa using hsz
theorem sort_eq {a b : List Int} (h : a.Perm b) : a.mergeSort (fun x y => decide (x ≤ y)) = b.mergeSort (fun x y => decide (x ≤ y)) := mergeSort_of_perm_i h
def SortedKeys (P : Program) (fs g : FuncId) (k T : TypeId) : Prop :=
  (∀ (b nn : Nat) (D : DataW Unit) (Bm : Nat) (w : World), Bm < w.heap.size → w.cell? ⟨Bm, 0, none⟩ = some (.map (some b)) → w.ownsMap P k nilR b nn D → Maps.size D ≤ 1000000 →
    Calls P fs #[.func (.func g) #[] #[.pointer (some ⟨Bm, 0, none⟩)]] w fun e w' => ∃ (v : Value) (ss : List Int), e = .returned v ∧ ss.Perm (intKeys D) ∧ w'.ownsRow w.heap.size T 1 v ss.length ((ss.mergeSort (fun x y => decide (x ≤ y))).map encZ) ∧ (v = .slice none 0 0 ↔ ss = []) ∧ Below w.heap.size w w') ∧
  (∀ (Bm : Nat) (w : World), Bm < w.heap.size → w.cell? ⟨Bm, 0, none⟩ = some (.map none) → Calls P fs #[.func (.func g) #[] #[.pointer (some ⟨Bm, 0, none⟩)]] w fun e w' => e = .returned (.slice none 0 0) ∧ Below w.heap.size w w')
def KeysOf (P : Program) (fk g : FuncId) (T : TypeId) : Prop :=
  ∀ mb W, Calls P fk #[.map mb] W fun e w' => e = .returned (.func (.func g) #[] #[.pointer (some ⟨W.heap.size, 0, none⟩)]) ∧ w' = W.alloc (.cells #[.map mb] T)
section
variable {β : Type} {P : Program} {ops : Array Oper} {rest : List Oper} {ks : List Kt} {Q : Exit → Act → World → Prop} {m : Option β} {r : β}
variable {n : Nat} {D : List Deferred} {S : List (Nat × Value)} {F F0 : Fz} {hs : List HP} {d : Nat} {ty k T T' : TypeId} {pos : String} {after : Array Edge} {ox of : Operand} {Ty : Array TypeId} {fs fk g : FuncId}
variable {V : Type} {rv : Fz → V → Value → Prop} {b γ j : Nat} {l : List (Int × V)} {xs : List (List (Int × V))} {p x : Option Nat}
theorem GL.keysC (hk : KeysOf P fk g T) (hd : Nat.blt d n = true) (hcall : ∀ args w, (callFunc fk args).run P w = .ok (.enter fk args) w) (hf : evalS S of = some (.func (.func fk) #[] #[])) (hx : evalS S ox = some (.map p))
    (K : ∀ b F', F ≤ F' → F'.mem b = some (.cells #[.map p] T) → GL κ P ops rest ks Q (Hd n D ((d, .func (.func g) #[] #[.pointer (some ⟨b, 0, none⟩)]) :: S) F' hs) m r) :
    GL κ P ops (⟨some d, .call ⟨.value of, #[ox], Ty⟩, ty, pos, after, none⟩ :: rest) ks Q (Hd n D S F hs) m r :=
  GL.callG rfl (.inr rfl) fun hm a w hA => by
    refine ⟨run_call (os := [ox]) (caps := []) (vs := [.map p]) hA.1 hcall hf (by simp [evalL, hx]), (hk p w).mono ?_⟩
    rintro _ w' ⟨rfl, rfl⟩
    obtain ⟨le, h⟩ := hA.2.allocF (.cells #[.map p] T)
    exact ⟨_, rfl, K w.heap.size _ le (Fz.add_self ..) hm _ _ ⟨hA.1.put hd _, h⟩⟩
theorem GL.sortedC {c : ERel Int} {f : List Int → Option β} (hk : P.underlying k = some (.int .i64)) (hs0 : SortedKeys P fs g k k) (hc : ∀ F x, c F x [.int .i64 x]) {Bm : Nat} (hB : F.mem Bm = some (.cells #[.map p] T)) (i : Nat) (hi : hs[i]? = some (arena γ (ownMapP ckI rv) F0 xs)) (hb : RefB γ F j b) (hp : p = some b) (hel : xs[j]? = some l)
    (hd : Nat.blt d n = true) (hcall : ∀ args w, (callFunc fs args).run P w = .ok (.enter fs args) w) (hf : evalS S of = some (.func (.func fs) #[] #[])) (hx : evalS S ox = some (.func (.func g) #[] #[.pointer (some ⟨Bm, 0, none⟩)]))
    (K : ∀ ks' F' p' cap, keysS l = some ks' → F ≤ F' → RepSl 1 c F' p' cap ks' → GL κ P ops rest ks Q (Hd n D ((d, .slice p' ks'.length cap) :: S) F' hs) (f ks') r) :
    GL κ P ops (⟨some d, .call ⟨.value of, #[ox], Ty⟩, ty, pos, after, none⟩ :: rest) ks Q (Hd n D S F hs) ((keysS l).bind f) r := by
  refine GL.bind fun ks' hks => ?_
  have K' := K ks'
  refine GL.callG (f := fs) (args := #[.func (.func g) #[] #[.pointer (some ⟨Bm, 0, none⟩)]]) rfl (.inr rfl) fun hm a w hA => ?_
  refine ⟨run_call (os := [ox]) (caps := []) (vs := [.func (.func g) #[] #[.pointer (some ⟨Bm, 0, none⟩)]]) hA.1 hcall hf (by simp [evalL, hx]), ?_⟩
  subst hp
  have hks0 := hks
  unfold keysS at hks
  split at hks
  · rename_i hcond
    obtain ⟨hall, hlen⟩ := hcond
    simp only [Option.some.injEq] at hks
    obtain ⟨es, cl, l', hpm, hn, hheap, hr, hbi⟩ := (hA.2.pull hi).mapAt hb hel
    obtain ⟨D0, hown, hperm, hsize⟩ := owns_of hk hheap hr hbi hpm hn hall hlen
    have hBw := hA.2.frozen hB
    refine (hs0.1 b _ D0 Bm w (lt_of_heap hBw) (by simp [World.cell?, hBw]) hown (by omega)).mono ?_
    rintro _ w' ⟨v, ss, rfl, hss, ⟨hrl, hrow⟩, hnil, hbel⟩
    have hsort : ss.mergeSort (fun x y => decide (x ≤ y)) = ks' := by rw [← hks]; exact sort_eq (hss.trans hperm)
    have hlen2 : ks'.length = ss.length := by rw [← hsort]; simp
    rw [hsort] at hrow
    rcases hrow with ⟨rfl, h0⟩ | ⟨gb, cap, cur, rfl, hbase, hgb, r1, r2, r3, r4⟩
    · have hk0 : ks' = [] := List.eq_nil_of_length_eq_zero (by rw [hlen2, h0])
      subst hk0
      exact ⟨_, rfl, K' F none 0 hks0 (Fz.le_refl F) RepSl.nil hm _ _ ⟨hA.1.put hd _, hA.2.below hbel⟩⟩
    · obtain ⟨le, h2⟩ := hA.2.newFrozen hbel hbase hgb
      have hk := K' _ (some ⟨gb, 0, none⟩) cap hks0 le ⟨by rw [hlen2]; exact r1, by unfold maxLen at r2; omega, .inr ⟨gb, 0, cur, _, _, rfl, Fz.add_self .., fun q x hx F' _ => ?_⟩⟩
      · rw [hlen2] at hk
        exact ⟨_, rfl, hk hm _ _ ⟨hA.1.put hd _, h2⟩⟩
      · have hq := lt_of_getEl hx
        rw [hlen2] at hq
        have : (cur.toList.drop (0 + q * 1)).take 1 = [.int .i64 x] := by
          have e1 : cur.toList[q]? = some (.int .i64 x) := by
            have h3 := congrArg (fun z => z[q]?) r4
            simp only [List.getElem?_take, List.getElem?_map, hx] at h3
            rw [if_pos (by omega)] at h3
            simpa [encZ] using h3
          simp only [Nat.zero_add, Nat.mul_one]
          rw [List.drop_eq_getElem_cons (List.getElem?_eq_some_iff.1 e1).1]
          have e2 := (List.getElem?_eq_some_iff.1 e1).2
          simp [e2]
        rw [this]; exact hc F' x
  · cases hks
def sortedO {V : Type} (A : List (List (Int × V))) (x : Option Nat) : Option (List Int) := match x with
  | none => some []
  | some i => (A[i]?).bind keysS
theorem GL.sortedX {c : ERel Int} {f : List Int → Option β} (hk : P.underlying k = some (.int .i64)) (hs0 : SortedKeys P fs g k k) (hc : ∀ F x, c F x [.int .i64 x]) {Bm : Nat} (hB : F.mem Bm = some (.cells #[.map p] T)) (i : Nat) (hi : hs[i]? = some (arena γ (ownMapP ckI rv) F0 xs)) (h : RepRef γ F p x)
    (hd : Nat.blt d n = true) (hcall : ∀ args w, (callFunc fs args).run P w = .ok (.enter fs args) w) (hf : evalS S of = some (.func (.func fs) #[] #[])) (hx : evalS S ox = some (.func (.func g) #[] #[.pointer (some ⟨Bm, 0, none⟩)]))
    (K : ∀ ks' F' p' cap, sortedO xs x = some ks' → F ≤ F' → RepSl 1 c F' p' cap ks' → GL κ P ops rest ks Q (Hd n D ((d, .slice p' ks'.length cap) :: S) F' hs) (f ks') r) :
    GL κ P ops (⟨some d, .call ⟨.value of, #[ox], Ty⟩, ty, pos, after, none⟩ :: rest) ks Q (Hd n D S F hs) ((sortedO xs x).bind f) r := by
  cases x with
  | some j =>
    obtain ⟨b, hb, hp⟩ := h
    cases hel : xs[j]? with
    | none => intro hm; simp [sortedO, hel] at hm
    | some l =>
      have e : sortedO xs (some j) = keysS l := by simp [sortedO, hel]
      rw [e] at K ⊢
      exact GL.sortedC hk hs0 hc hB i hi hb hp hel hd hcall hf hx K
  | none =>
    have hp : p = none := h
    subst hp
    have K' := K [] F none 0 rfl (Fz.le_refl F) RepSl.nil
    refine GL.callG (m := f []) (f := fs) (args := #[.func (.func g) #[] #[.pointer (some ⟨Bm, 0, none⟩)]]) rfl (.inr rfl) fun hm a w hA => ?_
    refine ⟨run_call (os := [ox]) (caps := []) (vs := [.func (.func g) #[] #[.pointer (some ⟨Bm, 0, none⟩)]]) hA.1 hcall hf (by simp [evalL, hx]), ?_⟩
    have hBw := hA.2.frozen hB
    refine (hs0.2 Bm w (lt_of_heap hBw) (by simp [World.cell?, hBw])).mono ?_
    rintro _ w' ⟨rfl, hbel⟩
    exact ⟨_, rfl, K' hm _ _ ⟨hA.1.put hd _, hA.2.below hbel⟩⟩
end
end Go.Dec
end

section
namespace Go.Dec
theorem star_comm {p q : HP} {m : Mem} (h : star p q m) : star q p m := by
  obtain ⟨m1, m2, d, s1, s2, hp, hq⟩ := h
  exact ⟨m2, m1, d.symm, s2, s1, hq, hp⟩
theorem star_left1 {p q : HP} {m : Mem} (h : star (stars [p]) q m) : star p q m := by
  obtain ⟨m1, m2, d, s1, s2, ⟨a, b, _, t1, _, hp, _⟩, hq⟩ := h
  exact ⟨a, m2, d.sub t1 (Mem.sub.refl _), t1.trans s1, s2, hp, hq⟩
def IterH {α : Type} (P : Program) (F : Fz) (f : FuncId) (caps : List Value) (arg : α → Fz → List Value → Prop) (Hs : Fz → List HP) (l : List α) : Prop :=
  (∀ args w, (callFunc f args).run P w = .ok (.enter f args) w) ∧
  ∀ (σ : Type) (ly : Nat) (Y : σ → Fz → HP) (y : α → σ → Option (σ × Bool)) (F1 : Fz), F ≤ F1 → YieldOK P ly F1 arg Y y → ∀ s, CTH P f (.func (.yield ly) #[] #[] :: caps).toArray F1 (Hs F1 ++ [Y s F1]) (foldY y l s) (fun _ _ _ => True) (fun s' F' => Hs F' ++ [Y s' F'])
theorem IterH.mk' {α : Type} {P : Program} {F : Fz} {f : FuncId} {caps : List Value} {arg : α → Fz → List Value → Prop} {Hs : Fz → List HP} {l : List α} (h1 : ∀ args w, (callFunc f args).run P w = .ok (.enter f args) w)
    (h2 : ∀ (σ : Type) (ly : Nat) (Y : σ → Fz → HP) (y : α → σ → Option (σ × Bool)) (F1 : Fz), F ≤ F1 → YieldOK P ly F1 arg Y y → ∀ s, ∃ m, CTH P f (.func (.yield ly) #[] #[] :: caps).toArray F1 (Hs F1 ++ [Y s F1]) m (fun _ _ _ => True) (fun s' F' => Hs F' ++ [Y s' F']) ∧ ∀ r, foldY y l s = some r → m = some r) : IterH P F f caps arg Hs l :=
  ⟨h1, fun σ ly Y y F1 le hy s r hr => let ⟨_, h, k⟩ := h2 σ ly Y y F1 le hy s; h r (k r hr)⟩
section
variable {β : Type} {P : Program} {ks : List Kt} {Q : Exit → Act → World → Prop} {r : β} {n : Nat} {D : List Deferred} {S : List (Nat × Value)} {F : Fz} {hs : List HP}
variable {α τ : Type} {g : Operand} {ps : List Tmp} {assign body : Code} {f : FuncId} {caps : List Value} {arg : α → Fz → List Value → Prop} {s0 : τ}
theorem GC.rangeForH {l : List α} {bm : α → τ → Option τ} {k : τ → Option β} (Hs : Fz → List HP) (is : List Nat) (I : τ → Fz → List HP → Prop) (hg : evalS S g = some (.func (.func f) #[] caps.toArray)) (hit : IterH P F f caps arg Hs l) (hps : (ps.all fun p => Nat.blt p n) = true) (harg : ∀ x F' vs, arg x F' vs → vs.length = ps.length)
    (hi : pickR is hs = Hs F) (hI : I s0 F (leftR is hs))
    (round : ∀ l L F0 F1 x vs s ctl R hs', F ≤ F0 → F0 ≤ F1 → arg x F1 vs → I s F0 hs' → GC (some l) P assign [] (BP P l body (RP l L I (fun (_ : Empty) _ _ => False) F1 R (.next ctl))) (Hd n [] ((ps.zip vs).reverse ++ S) F1 (pt l (lready L) :: R :: hs')) (bm x s) ctl)
    (next : ∀ q F0 F' s hs', F ≤ F0 → F0 ≤ F' → forL bm l s0 = some s → I s F0 hs' → GE none P ks Q (Hd n (dmark q :: D) S F' (pt q (.deferred (some [])) :: (Hs F' ++ hs'))) (k s) r) :
    GC none P (.rangeFunc g ps.toArray assign body) ks Q (Hd n D S F hs) ((forL bm l s0).bind k) r := by
  intro hm a w ha
  cases hl : forL bm l s0 with
  | none => rw [hl] at hm; cases hm
  | some sf =>
    rw [hl] at hm
    refine wpIn_rangeFunc fun fn _ => ?_
    let L : Loop := { state := .ready, pending := none, fn, tmps := a.tmps, params := ps.toArray, assign, body, defers := w.heap.size }
    let J : Empty → Fz → List HP → Prop := fun _ _ _ => False
    have hw1 : SH ((w.alloc (.deferred (some []))).alloc (.loop L)) F (star (stars (Hs F ++ [yS F (w.heap.size + 1) L I J (.next s0) F])) (stars [pt w.heap.size (.deferred (some []))])) := by
      have h1 := (ha.2.alloc (.deferred (some []))).alloc (.loop L)
      rw [World.size_alloc] at h1
      refine h1.mono fun m hm => ?_
      have h2 : star (pt (w.heap.size + 1) (lready L)) (star (pt w.heap.size (.deferred (some []))) (star (stars (Hs F)) (stars (leftR is hs)))) m :=
        star_mono_right (fun m hm => star_mono_right (fun m hm => by have := stars_part (ks := is) hm; rw [hi] at this; exact this) hm) hm
      have h3 := star_comm (star_mono_right (fun m hm => star_swap hm) (star_swap h2))
      refine star_mono_left (fun m hm => ?_) (star_mono_right (fun m hm => stars_one hm) h3)
      refine stars_app (star_mono_right (fun m hm => stars_one (p := yS F (w.heap.size + 1) L I J (.next s0) F) ⟨F, leftR is hs, Fz.le_refl _, Fz.le_refl _, hI, hm⟩) hm)
    have hY : YieldOK P (w.heap.size + 1) F arg (yS F (w.heap.size + 1) L I J) (yOf (fun x s => (bm x s).map Ctl.next)) := by
      refine yieldOK (S' := fun vs => (ps.zip vs).reverse ++ S) (assign := assign) (body := body) (fun x F' vs hx => by rw [harg x F' vs hx]; simp [L]) rfl rfl (fun vs _ => sl_params hps ⟨ha.1.1, rfl, ha.1.2.2⟩) ?_
      intro F0 F1 x vs s ctl R hs' h0 h1 hx hI hmm
      cases hb : bm x s with
      | none => rw [hb] at hmm; cases hmm
      | some s' =>
        rw [hb] at hmm
        simp only [Option.map_some, Option.some.injEq] at hmm
        subst hmm
        exact round _ L F0 F1 x vs s s' R hs' h0 h1 hx hI hb
    have hc := hit.2 _ _ _ _ F (Fz.le_refl F) hY (.next s0) (.next sf) (by rw [foldY_retL, retL_forL, hl]; rfl) _ _ hw1
    refine ⟨w.heap.size + 1, [dmark w.heap.size], (w.alloc (.deferred (some []))).alloc (.loop L), ⟨.fn (.func f) caps.toArray, #[.func (.yield (w.heap.size + 1)) #[] #[]]⟩, (w.alloc (.deferred (some []))).alloc (.loop L), f, (.func (.yield (w.heap.size + 1)) #[] #[] :: caps).toArray, (w.alloc (.deferred (some []))).alloc (.loop L), run_enterLoop_outer fn a.tmps ps.toArray assign body, ?_, fun _ _ => trivial, ?_, fun e => (by cases e), ?_⟩
    · have hc0 : a.eval (.const (.func (.yield (w.heap.size + 1)) #[] #[])) = .func (.yield (w.heap.size + 1)) #[] #[] := rfl
      simp [resolve, Deferred.ofValue, ha.1.eval hg, hc0]
    · simp [invoke, hit.1]
    · refine callsIn_wide.2 (hc.mono ?_)
      rintro _ w' ⟨F', v, le, rfl, -, hw'⟩
      have hw2 : SH w' F' (star (yS F (w.heap.size + 1) L I J (.next sf) F') (star (stars (Hs F')) (stars [pt w.heap.size (.deferred (some []))]))) := hw'.mono fun m hm => by
        exact star_left1 (star_swap (star_assoc (star_mono_left (fun m hm => stars_app' hm) hm)))
      obtain ⟨F0, hs', h0, h1, hI', h3⟩ := SH.openNext hw2
      refine ⟨none, _, run_overN (SH.ownedAt (k := 0) rfl h3), ?_⟩
      have h4 : SH _ F' (stars (pt w.heap.size (.deferred (some [])) :: (Hs F' ++ hs'))) := (SH.eraseAt 0 (SH.putAt (k := 0) rfl h3 (lover L none))).mono fun m hm => star_mono_right (fun m hm => stars_app hm) (star_left1 (star_swap (star_assoc hm)))
      exact next w.heap.size F0 F' sf hs' h0 h1 hl hI' hm _ _ ⟨⟨ha.1.1, by simp [ha.1.2.1], ha.1.2.2⟩, h4⟩
end
theorem Hd.upR {α : Type} {γ : Nat} {C : Fz → Nat → α → HP} {xs : List α} {n : Nat} {D : List Deferred} {S : List (Nat × Value)} {F F0 : Fz} {hs : List HP} {a : Act} {w : World} (i : Nat) (hC : Stays C) (le : F0 ≤ F) (hi : hs[i]? = some (arena γ C F0 xs)) (ha : Hd n D S F hs a w) : Hd n D S F (hs.set i (arena γ C F xs)) a w :=
  ⟨ha.1, SH.push hi ((ha.2.pull hi).arena_up hC le)⟩
end Go.Dec
end
