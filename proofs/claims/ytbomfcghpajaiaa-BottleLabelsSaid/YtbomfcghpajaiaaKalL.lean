/- Made slices, maps, nil slices. No program. -/
import Derived.Test.YtbomfcghpajaiaaKalK
namespace Go.Dec
variable {κ : Option Nat}

/-! ### Maps -/
def mapSet {K V : Type} [BEq K] : List (K × V) → K → V → List (K × V)
  | [], k, v => [(k, v)]
  | x :: l, k, v => if k == x.1 then (k, v) :: l else x :: mapSet l k v
def mapGet {K V : Type} [BEq K] : List (K × V) → K → Option V
  | [], _ => none
  | x :: l, k => if k == x.1 then some x.2 else mapGet l k

def MRel {K V : Type} (ck : K → Value) (rv : Fz → V → Value → Prop) (F : Fz) : List MapEntry → List (K × V) → Prop
  | [], [] => True
  | e :: es, x :: l => e.key = ck x.1 ∧ (∀ F', F ≤ F' → rv F' x.2 e.val) ∧ MRel ck rv F es l
  | _, _ => False
/-- What is asked of a key's type. -/
structure KeyOK (P : Program) (t : TypeId) {K : Type} [BEq K] (ck : K → Value) : Prop where
  und : ∃ kd, P.underlying t = some kd ∧ ∀ a b : K, Instr.sameNow kd (ck a) (ck b) = some (a == b)
  check : ∀ e k w, (Instr.checkKey e 10000 t (ck k)).run P w = .ok () w
  same : ∀ a : K, Instr.sameBits 10000 (ck a) (ck a) = true
  eq : ∀ a b : K, (a == b) = true → a = b

section
variable {K V : Type} [BEq K] {ck : K → Value} {rv : Fz → V → Value → Prop} {F F' : Fz}
omit [BEq K] in
theorem MRel.up : ∀ {es : List MapEntry} {l : List (K × V)}, F ≤ F' → MRel ck rv F es l → MRel ck rv F' es l
  | [], [], _, _ => trivial
  | _ :: _, _ :: _, le, ⟨h1, h2, h3⟩ => ⟨h1, fun G le' => h2 G (Fz.le_trans le le'), h3.up le⟩
omit [BEq K] in
theorem MRel.len : ∀ {es : List MapEntry} {l : List (K × V)}, MRel ck rv F es l → es.length = l.length
  | [], [], _ => rfl
  | _ :: _, _ :: _, ⟨_, _, h3⟩ => by simp [h3.len]
theorem MRel.find {kd : TypeDesc} {k : K} (hk : ∀ a b, Instr.sameNow kd (ck a) (ck b) = some (a == b)) (heq : ∀ a b : K, (a == b) = true → a = b) :
    ∀ {es : List MapEntry} {l : List (K × V)} (i0 : Nat), MRel ck rv F es l →
      (mapGet l k = none ∧ Instr.findNow kd (ck k) es i0 = some none ∧ ∀ v e', e'.key = ck k → (∀ F', F ≤ F' → rv F' v e'.val) → MRel ck rv F (es ++ [e']) (mapSet l k v)) ∨
      (∃ j e x, es[j]? = some e ∧ e.key = ck k ∧ mapGet l k = some x ∧ Instr.findNow kd (ck k) es i0 = some (some (i0 + j, e.val)) ∧ (∀ F', F ≤ F' → rv F' x e.val) ∧
        ∀ v f, (f e).key = ck k → (∀ F', F ≤ F' → rv F' v (f e).val) → MRel ck rv F (es.modify j f) (mapSet l k v))
  | [], [], i0, _ => .inl ⟨rfl, rfl, fun v e' h1 h2 => ⟨h1, h2, trivial⟩⟩
  | e :: es, x :: l, i0, ⟨h1, h2, h3⟩ => by
    by_cases hb : (k == x.1) = true
    · right
      refine ⟨0, e, x.2, rfl, ?_, by simp [mapGet, hb], ?_, h2, ?_⟩
      · rw [h1, heq _ _ hb]
      · simp [Instr.findNow, h1, hk, hb]
      · intro v f g1 g2
        simp only [mapSet, hb, if_true, List.modify_zero_cons]
        exact ⟨g1, g2, h3⟩
    · have hb' : (k == x.1) = false := by simpa using hb
      rcases MRel.find (k := k) hk heq (i0 + 1) h3 with ⟨g1, g2, g3⟩ | ⟨j, e1, x1, g1, g2, g3, g4, g5, g6⟩
      · left
        refine ⟨by simp [mapGet, hb', g1], by simp [Instr.findNow, h1, hk, hb', g2], fun v e' q1 q2 => ?_⟩
        simp only [mapSet, hb', Bool.false_eq_true, if_false, List.cons_append]
        exact ⟨h1, h2, g3 v e' q1 q2⟩
      · right
        refine ⟨j + 1, e1, x1, by simpa using g1, g2, by simp [mapGet, hb', g3], ?_, g5, fun v f q1 q2 => ?_⟩
        · simp [Instr.findNow, h1, hk, hb', g4]; omega
        · simp only [mapSet, hb', Bool.false_eq_true, if_false, List.modify_succ_cons]
          exact ⟨h1, h2, g6 v f q1 q2⟩

def ownMap (ck : K → Value) (rv : Fz → V → Value → Prop) (F : Fz) (b : Nat) (l : List (K × V)) : HP := fun m => ∃ es clock, m b = some (.map es clock) ∧ MRel ck rv F es.toList l
omit [BEq K] in
theorem ownMap_up {b : Nat} {l : List (K × V)} {m : Mem} (le : F ≤ F') (h : ownMap ck rv F b l m) : ownMap ck rv F' b l m := by
  obtain ⟨es, c, h1, h2⟩ := h; exact ⟨es, c, h1, h2.up le⟩
omit [BEq K] in
theorem own_map {w : World} {F0 : Fz} {H : HP} {b : Nat} {l : List (K × V)} (h : SH w F (star (ownMap ck rv F0 b l) H)) : ∃ es clock, w.heap[b]? = some (.map es clock) ∧ MRel ck rv F0 es.toList l ∧ SH w F (star (pt b (.map es clock)) H) := by
  obtain ⟨m, ⟨m1, m2, d, s1, s2, ⟨es, c, h1, h2⟩, hq⟩, k⟩ := h
  have hs : SH w F (star (pt b (.map es c)) H) := ⟨m, ⟨m1, m2, d, s1, s2, h1, hq⟩, k⟩
  exact ⟨es, c, hs.owned, h2, hs⟩
end

theorem run_getM {P : Program} {w : World} {r : Nat} {es : Array MapEntry} {clock : Nat} (hb : w.heap[r]? = some (.map es clock)) : (getObj r).run P w = .ok (.map es clock) w := by
  simp [getObj, Sem.run, hb]
theorem run_setM {P : Program} {w : World} {r : Nat} {es : Array MapEntry} {clock : Nat} {o' : Obj} (hb : w.heap[r]? = some (.map es clock)) : (setObj r o').run P w = .ok () (put w r o') := by
  simp [setObj, Sem.run, put, hb]
theorem run_findKey {P : Program} {kt : TypeId} {k : Value} {es : List MapEntry} {kd : TypeDesc} {w : World} {q : Option (Nat × Value)} (hu : P.underlying kt = some kd) (h : Instr.findNow kd k es 0 = some q) : (Instr.findKey kt k es).run P w = .ok q w := by
  simp [Instr.findKey, rUnd hu, h]

section
variable {β : Type} {P : Program} {ops : Array Oper} {rest : List Oper} {ks : List Kt} {Q : Exit → Act → World → Prop} {m : Option β} {r : β}
variable {n : Nat} {D : List Deferred} {S : List (Nat × Value)} {F F0 : Fz} {hs : List HP}
variable {d : Nat} {ty t t' e : TypeId} {pos : String} {after : Array Edge} {ox oy oz : Operand} {v u : Value} {kd : IntKind} {x y : Int}
variable {K V : Type} {ck : K → Value} {rv : Fz → V → Value → Prop}

theorem GL.makeMap (ck : K → Value) (rv : Fz → V → Value → Prop) (hd : Nat.blt d n = true) (k : ∀ b, GL κ P ops rest ks Q (Hd n D ((d, .map (some b)) :: S) F (ownMap ck rv F b [] :: hs)) m r) :
    GL κ P ops (⟨some d, .makeMap t none, ty, pos, after, none⟩ :: rest) ks Q (Hd n D S F hs) m r := by
  refine GL.step rfl (.inr rfl) fun hm a w ha => ?_
  have h1 := ha.2.alloc (.map #[] 0)
  refine ⟨_, w.alloc (.map #[] 0), ?_, k w.heap.size hm _ _ ⟨ha.1.put hd _, h1.mono fun m hm => star_mono_left (fun m' hm' => ⟨#[], 0, hm', trivial⟩) hm⟩⟩
  simp [execOp, Instr.makeMap]

theorem GL.mapLen {b : Nat} {l : List (K × V)} {T : Array TypeId} {kt vt : TypeId} (i : Nat) (hi : hs[i]? = some (ownMap ck rv F0 b l)) (hd : Nat.blt d n = true) (hT : T[0]? = some t) (ht : P.underlying t = some (.map kt vt)) (hx : evalS S ox = some (.map (some b)))
    (k : GL κ P ops rest ks Q (Hd n D ((d, .int .i64 l.length) :: S) F hs) m r) : GL κ P ops (⟨some d, .call ⟨.builtin .len, #[ox], T⟩, ty, pos, after, none⟩ :: rest) ks Q (Hd n D S F hs) m r :=
  GL.val hd (fun a w ha => by
    obtain ⟨es, c, hb, hr, _⟩ := own_map (ha.2.pull hi)
    have : es.size = l.length := by rw [← hr.len]; simp
    simp [execOp, resolve, invoke, builtin, Builtin.len_, ha.1.eval hx, hT, rUnd ht, goInt, run_getM hb, this]) k

variable [BEq K]
theorem GL.mapUpdate {b : Nat} {l : List (K × V)} {kt vt : TypeId} {key : K} {val : V} {vv : Value} (i : Nat) (hi : hs[i]? = some (ownMap ck rv F0 b l)) (le0 : F0 ≤ F) (ht : P.underlying t = some (.map kt vt)) (ok : KeyOK P kt ck) (hx : evalS S ox = some (.map (some b))) (hy : evalS S oy = some (ck key)) (hz : evalS S oz = some vv) (hv : ∀ F', F ≤ F' → rv F' val vv)
    (k : GL κ P ops rest ks Q (Hd n D S F (hs.set i (ownMap ck rv F b (mapSet l key val)))) m r) : GL κ P ops (⟨none, .mapUpdate t ox oy oz, ty, pos, after, none⟩ :: rest) ks Q (Hd n D S F hs) m r := by
  refine GL.stepU rfl (.inr rfl) fun hm a w ha => ?_
  obtain ⟨es, c, hb, hr, hsh⟩ := own_map (ha.2.pull hi)
  obtain ⟨kd, hu, hsame⟩ := ok.und
  rcases (hr.up le0).find (k := key) hsame ok.eq 0 with ⟨g1, g2, g3⟩ | ⟨j, e1, x1, g1, g2, g3, g4, g5, g6⟩
  · refine ⟨put w b (.map (es.push { key := ck key, val := vv, born := c }) (c + 1)), ?_, k hm _ _ ⟨ha.1.put_none _, SH.push hi (hsh.put.mono fun m hm => star_mono_left (fun m' hm' => ⟨_, _, hm', by simpa using g3 val { key := ck key, val := vv, born := c } rfl hv⟩) hm)⟩⟩
    have hf := run_findKey (w := w) hu g2
    simp [execOp, Instr.mapUpdate, ha.1.eval hx, ha.1.eval hy, ha.1.eval hz, rUnd ht, run_getM hb, ok.check, hf, run_setM hb]
  · refine ⟨put w b (.map (es.modify j fun e => { e with key := ck key, val := vv }) c), ?_, k hm _ _ ⟨ha.1.put_none _, SH.push hi (hsh.put.mono fun m hm => star_mono_left (fun m' hm' => ⟨_, _, hm', by simpa using g6 val (fun e => { e with key := ck key, val := vv }) rfl hv⟩) hm)⟩⟩
    have hf := run_findKey (w := w) hu g4
    rw [Nat.zero_add] at hf
    have hel : es[j]? = some e1 := by simpa using g1
    have hsb := ok.same key
    simp [execOp, Instr.mapUpdate, ha.1.eval hx, ha.1.eval hy, ha.1.eval hz, rUnd ht, run_getM hb, ok.check, hf, run_setM hb, hel, g2, Instr.keyThatStays, hsb]

theorem GL.mapUpdateE {b : Nat} {l l' : List (K × V)} {kt vt : TypeId} {key : K} {val : V} {vv : Value} (i : Nat) (hi : hs[i]? = some (ownMap ck rv F0 b l)) (le0 : F0 ≤ F) (ht : P.underlying t = some (.map kt vt)) (ok : KeyOK P kt ck) (hx : evalS S ox = some (.map (some b))) (hy : evalS S oy = some (ck key)) (hz : evalS S oz = some vv) (hv : ∀ F', F ≤ F' → rv F' val vv) (he : l' = mapSet l key val)
    (k : GL κ P ops rest ks Q (Hd n D S F (hs.set i (ownMap ck rv F b l'))) m r) : GL κ P ops (⟨none, .mapUpdate t ox oy oz, ty, pos, after, none⟩ :: rest) ks Q (Hd n D S F hs) m r := by
  subst he; exact GL.mapUpdate i hi le0 ht ok hx hy hz hv k
omit [BEq K] in
theorem SH.ownMapUp {w : World} {i b : Nat} {l : List (K × V)} (le : F0 ≤ F) (hi : hs[i]? = some (ownMap ck rv F0 b l)) (h : SH w F (stars hs)) : SH w F (stars (hs.set i (ownMap ck rv F b l))) :=
  SH.push hi ((h.pull hi).mono fun _m hm => star_mono_left (fun _ => ownMap_up le) hm)
omit [BEq K] in
theorem GL.ownMapUp {b : Nat} {l : List (K × V)} {l0 : List Oper} (i : Nat) (le : F0 ≤ F) (hi : hs[i]? = some (ownMap ck rv F0 b l)) (k : GL κ P ops l0 ks Q (Hd n D S F (hs.set i (ownMap ck rv F b l))) m r) : GL κ P ops l0 ks Q (Hd n D S F hs) m r :=
  fun hm a w ha => k hm a w ⟨ha.1, ha.2.ownMapUp le hi⟩
omit [BEq K] in
theorem GE.ownMapUp {b : Nat} {l : List (K × V)} (i : Nat) (le : F0 ≤ F) (hi : hs[i]? = some (ownMap ck rv F0 b l)) (k : GE κ P ks Q (Hd n D S F (hs.set i (ownMap ck rv F b l))) m r) : GE κ P ks Q (Hd n D S F hs) m r :=
  fun hm a w ha => k hm a w ⟨ha.1, ha.2.ownMapUp le hi⟩
omit [BEq K] in
theorem GC.ownMapUp {b : Nat} {l : List (K × V)} {cd : Code} (i : Nat) (le : F0 ≤ F) (hi : hs[i]? = some (ownMap ck rv F0 b l)) (k : GC κ P cd ks Q (Hd n D S F (hs.set i (ownMap ck rv F b l))) m r) : GC κ P cd ks Q (Hd n D S F hs) m r :=
  fun hm a w ha => k hm a w ⟨ha.1, ha.2.ownMapUp le hi⟩
theorem GL.lookupX {b : Nat} {l : List (K × V)} {kt vt : TypeId} {key : K} {cv : V → Value} {z : V} (i : Nat) (hi : hs[i]? = some (ownMap ck (fun _ x v => v = cv x) F0 b l)) (hd : Nat.blt d n = true) (ht : P.underlying t = some (.map kt vt)) (ok : KeyOK P kt ck) (hzv : ∀ w, (zeroValue vt).run P w = .ok (cv z) w) (hx : evalS S ox = some (.map (some b))) (hy : evalS S oy = some (ck key))
    (k : GL κ P ops rest ks Q (Hd n D ((d, cv ((mapGet l key).getD z)) :: S) F hs) m r) : GL κ P ops (⟨some d, .lookup t ox oy false, ty, pos, after, none⟩ :: rest) ks Q (Hd n D S F hs) m r :=
  GL.val hd (fun a w ha => by
    obtain ⟨es, c, hb, hr, _⟩ := own_map (ha.2.pull hi)
    obtain ⟨kd, hu, hsame⟩ := ok.und
    rcases hr.find (k := key) hsame ok.eq 0 with ⟨g1, g2, _⟩ | ⟨j, e1, x1, g1, g2, g3, g4, g5, _⟩
    · have hf := run_findKey (w := w) hu g2
      simp [execOp, Instr.lookup, ha.1.eval hx, ha.1.eval hy, rUnd ht, run_getM hb, ok.check, hf, hzv, g1]
    · have hf := run_findKey (w := w) hu g4
      have := g5 F0 (Fz.le_refl F0)
      simp [execOp, Instr.lookup, ha.1.eval hx, ha.1.eval hy, rUnd ht, run_getM hb, ok.check, hf, g3, this]) k
theorem GL.lookupX2 {b : Nat} {l : List (K × V)} {kt vt : TypeId} {key : K} {cv : V → Value} {z : V} (i : Nat) (hi : hs[i]? = some (ownMap ck (fun _ x v => v = cv x) F0 b l)) (hd : Nat.blt d n = true) (ht : P.underlying t = some (.map kt vt)) (ok : KeyOK P kt ck) (hzv : ∀ w, (zeroValue vt).run P w = .ok (cv z) w) (hx : evalS S ox = some (.map (some b))) (hy : evalS S oy = some (ck key))
    (k : GL κ P ops rest ks Q (Hd n D ((d, .tuple #[cv ((mapGet l key).getD z), .bool (mapGet l key).isSome]) :: S) F hs) m r) : GL κ P ops (⟨some d, .lookup t ox oy true, ty, pos, after, none⟩ :: rest) ks Q (Hd n D S F hs) m r :=
  GL.val hd (fun a w ha => by
    obtain ⟨es, c, hb, hr, _⟩ := own_map (ha.2.pull hi)
    obtain ⟨kd, hu, hsame⟩ := ok.und
    rcases hr.find (k := key) hsame ok.eq 0 with ⟨g1, g2, _⟩ | ⟨j, e1, x1, g1, g2, g3, g4, g5, _⟩
    · have hf := run_findKey (w := w) hu g2
      simp [execOp, Instr.lookup, ha.1.eval hx, ha.1.eval hy, rUnd ht, run_getM hb, ok.check, hf, hzv, g1]
    · have hf := run_findKey (w := w) hu g4
      have := g5 F0 (Fz.le_refl F0)
      simp [execOp, Instr.lookup, ha.1.eval hx, ha.1.eval hy, rUnd ht, run_getM hb, ok.check, hf, g3, this]) k

theorem ck_int {P : Program} {t : TypeId} {kd kd' : IntKind} {x : Int} {e : Bool} {w : World} (hu : P.underlying t = some (.int kd)) (n : Nat) : (Instr.checkKey e (n + 1) t (.int kd' x)).run P w = .ok () w := by
  simp [Instr.checkKey, rUnd hu]
theorem sb_int {kd : IntKind} {x : Int} (n : Nat) : Instr.sameBits n (.int kd x) (.int kd x) = true := by
  cases n <;> simp [Instr.sameBits]
theorem KeyOK.int {P : Program} {t : TypeId} {kd : IntKind} (hu : P.underlying t = some (.int kd)) : KeyOK P t (fun x : Int => Value.int kd x) where
  und := ⟨_, hu, fun a b => by simp [Instr.sameNow]⟩
  check e k w := ck_int hu 9999
  same a := sb_int 10000
  eq a b h := by simpa using h

/-! ### Made slices -/
def mkO (len cap : Int) : Option Nat := if 0 ≤ len ∧ len ≤ cap ∧ cap ≤ 4294967296 then some len.toNat else none
theorem zero_part {zero : Array Value} {sz cap i : Nat} (hz : zero.size = sz) (hi : i < cap) : ((((Array.range (cap * sz)).map (fun j => zero[j % zero.size]!)).toList.drop (i * sz)).take sz) = zero.toList := by
  have hroom : i * sz + sz ≤ cap * sz := by
    have := Nat.mul_le_mul_right sz (show i + 1 ≤ cap from hi)
    rw [Nat.add_mul, Nat.one_mul] at this; exact this
  apply List.ext_getElem?
  intro j
  by_cases hj : j < sz
  · rw [List.getElem?_take, if_pos hj, List.getElem?_drop]
    have h1 : i * sz + j < cap * sz := by omega
    have h2 : (i * sz + j) % sz = j := by rw [Nat.add_comm, Nat.add_mul_mod_self_right, Nat.mod_eq_of_lt hj]
    have h3 : j < zero.size := by omega
    simp [h1, hz, h2]
    rw [getElem!_pos zero j h3]
    simp [h3]
  · rw [List.getElem?_take, if_neg hj, List.getElem?_eq_none (by simp; omega)]
theorem Parts.rep {α : Type} {sz : Nat} {c : ERel α} {F : Fz} {z : α} {zero : Array Value} {k cap : Nat} (hz : zero.size = sz) (h : k ≤ cap) (hc : ∀ F', F ≤ F' → c F' z zero.toList) : Parts sz c F (List.replicate k z) ((Array.range (cap * sz)).map (fun j => zero[j % zero.size]!)).toList := fun i x hx F' le => by
  have hi := lt_of_getEl hx
  simp only [List.length_replicate] at hi
  rw [List.getElem?_replicate, if_pos hi] at hx; cases hx
  rw [zero_part hz (by omega)]; exact hc F' le
theorem GL.makeSlice {α : Type} {c : ERel α} {sz : Nat} {z : α} {zv : Value} {kd' : IntKind} {f : Nat → Option β} (E : ElemOK P e sz c) (hd : Nat.blt d n = true) (ht : P.underlying t = some (.slice e)) (hzv : ∀ w, (zeroValue e).run P w = .ok zv w) (hzc : ∀ F', F ≤ F' → c F' z zv.cells.toList) (hx : evalS S ox = some (.int kd x)) (hy : evalS S oy = some (.int kd' y))
    (k : ∀ len b, mkO x y = some len → GL κ P ops rest ks Q (Hd n D ((d, .slice (some ⟨b, 0, none⟩) (List.replicate len z).length y.toNat) :: S) F (ownSl sz c F e (some ⟨b, 0, none⟩) y.toNat (List.replicate len z) :: hs)) (f len) r) :
    GL κ P ops (⟨some d, .makeSlice t ox oy, ty, pos, after, none⟩ :: rest) ks Q (Hd n D S F hs) ((mkO x y).bind f) r := by
  refine GL.bind fun len hlen => ?_
  have hk := fun b => k len b hlen
  unfold mkO at hlen
  split at hlen
  · rename_i hb
    cases hlen
    refine GL.step rfl (.inr rfl) fun hm a w ha => ?_
    obtain ⟨ti, hti, hb0, hb1⟩ := E.info
    have hsz : zv.cells.size = sz := by
      have := E.len _ _ _ (hzc F (Fz.le_refl F)); simpa using this
    have h1 := ha.2.alloc (.cells ((Array.range (y.toNat * sz)).map (fun j => zv.cells[j % zv.cells.size]!)) e)
    refine ⟨_, w.alloc (.cells ((Array.range (y.toNat * sz)).map (fun j => zv.cells[j % zv.cells.size]!)) e), ?_, hk w.heap.size hm _ _ ⟨ha.1.put hd _, h1.mono fun m hm => star_mono_left (fun m' hm' => ⟨by simp; omega, by omega, .inr ⟨_, ((Array.range (y.toNat * sz)).map (fun j => zv.cells[j % zv.cells.size]!)).toList, rfl, by unfold pt at hm'; rw [hm'], by simp, Parts.rep hsz (by omega) hzc⟩⟩) hm⟩⟩
    have hw1 : IntKind.i64.wrap x = x := by simp [IntKind.wrap, IntKind.bits, IntKind.signed]; omega
    have hw2 : IntKind.i64.wrap y = y := by simp [IntKind.wrap, IntKind.bits, IntKind.signed]; omega
    have hby : (ti.bytes : Int) * y ≤ 2 ^ 48 := by
      have h1 : (ti.bytes : Int) ≤ 4096 := by omega
      have h2 : (ti.bytes : Int) * y ≤ 4096 * y := Int.mul_le_mul_of_nonneg_right h1 (by omega)
      omega
    have hneg : ¬ y < 0 := by omega
    have hneg' : ¬ x < 0 := by omega
    have hxy : ¬ x > y := by omega
    have hbig : ¬ (281474976710656 : Int) < (ti.bytes : Int) * y := by omega
    have i1 : ∀ w : World, (asInt (.int kd x)).run P w = .ok x w := fun w => by simp [asInt, asIntOf]
    have i2 : ∀ w : World, (asInt (.int kd' y)).run P w = .ok y w := fun w => by simp [asInt, asIntOf]
    simp only [execOp, ha.1.eval hx, ha.1.eval hy, Instr.makeSlice, Sem.run_bind, rUnd ht, Result.andThen, i1, i2, hti, hw1, hw2]
    by_cases hn : y.toNat * sz = 0
    · simp [hneg, hneg', hxy, hbig, E.size, hn, newRow, askRoom]
      rw [show Array.range 0 = #[] from rfl]; simp
    · simp [hneg, hneg', hxy, hbig, E.size, hn, hzv, newRow, askRoom]
  · cases hlen

/-! ### A nil slice; slices.Grow of one -/
theorem RepSl.isNil {α : Type} {sz : Nat} {c : ERel α} {F : Fz} {cap : Nat} {l : List α} (h : RepSl sz c F none cap l) : l = [] := by
  rcases h.2.2 with h | ⟨_, _, _, _, _, h, _⟩
  · exact h
  · cases h
theorem eq_nil {t e : TypeId} {p : Option Addr} {len cap : Nat} {w : World} (ht : P.underlying t = some (.slice e)) (n : Nat) : (Op.equalIn (n + 1) t (.slice p len cap) (.slice none 0 0)).run P w = .ok p.isNone w := by
  cases p <;> simp [Op.equalIn, rUnd ht]
theorem GL.eqlNil {p : Option Addr} {len cap : Nat} (hd : Nat.blt d n = true) (ht : P.underlying t = some (.slice e)) (hx : evalS S ox = some (.slice p len cap)) (hy : evalS S oy = some (.slice none 0 0)) (k : GL κ P ops rest ks Q (Hd n D ((d, .bool p.isNone) :: S) F hs) m r) :
    GL κ P ops (⟨some d, .binOp .eql t ox oy t', ty, pos, after, none⟩ :: rest) ks Q (Hd n D S F hs) m r :=
  GL.val hd (fun a w ha => by
    have hq : (Op.equal t (.slice p len cap) (.slice none 0 0)).run P w = .ok p.isNone w := eq_nil ht 9999
    have hg : P.eqGuardType P.depth t = false ∨ P.eqGuardType P.depth t = true := by cases P.eqGuardType P.depth t <;> simp
    simp [execOp, ha.1.eval hx, ha.1.eval hy, eqGuard, binOp, hq]) k
theorem GL.capS {len cap : Nat} {p : Option Addr} {T : Array TypeId} (hd : Nat.blt d n = true) (hT : T[0]? = some t) (ht : P.underlying t = some (.slice e)) (hx : evalS S ox = some (.slice p len cap)) (k : GL κ P ops rest ks Q (Hd n D ((d, .int .i64 cap) :: S) F hs) m r) :
    GL κ P ops (⟨some d, .call ⟨.builtin .cap, #[ox], T⟩, ty, pos, after, none⟩ :: rest) ks Q (Hd n D S F hs) m r :=
  GL.val hd (fun a w ha => by simp [execOp, resolve, invoke, builtin, Builtin.cap_, ha.1.eval hx, hT, rUnd ht, goInt]) k

/-! ### A function that hands back a slice that is the caller's own -/
def CTown {α : Type} (P : Program) (f : FuncId) (args : Array Value) (F : Fz) (m : Option (List α)) (sz : Nat) (c : ERel α) (T : TypeId) : Prop :=
  ∀ r, m = some r → ∀ w R, SH w F R → Calls P f args w (fun e w' => ∃ F' p k, F ≤ F' ∧ e = .returned (.slice p r.length k) ∧ SH w' F' (star (ownSl sz c F' T p k r) R))
def fnPostW {α : Type} (P : Program) (fn : Func) (F : Fz) (R : HP) (sz : Nat) (c : ERel α) (T : TypeId) (r : List α) : Exit → Act → World → Prop :=
  bodyPost P fn (fun e w' => ∃ F' p k, F ≤ F' ∧ e = .returned (.slice p r.length k) ∧ SH w' F' (star (ownSl sz c F' T p k r) R))
theorem CTown.enter {α : Type} {f : FuncId} {fn : Func} {cd : Code} {args : List Value} {m : Option (List α)} {sz : Nat} {c : ERel α} {T : TypeId}
    (hf : P.funcs[f]? = some fn) (hb : fn.body = some cd) (hn : fn.ntmps = n) (ha : Nat.ble args.length n = true)
    (k : ∀ r R, GC none P cd [] (fnPostW P fn F R sz c T r) (Hd n [] (argS 0 args) F [R]) m r) : CTown P f args.toArray F m sz c T := by
  intro r hm w R hw
  refine calls_of_wp hf hb (wpIn_wide.1 (k r R hm _ w ⟨?_, hw.one⟩))
  rw [hn]; exact sl_enter ha
theorem GC.retW {α : Type} {fn : Func} {R : HP} {F' F0 : Fz} {t i j cap : Nat} {p : Option Addr} {x r : List α} {sz : Nat} {c : ERel α} {T : TypeId} (hr : fn.results = #[.tmp t]) (h : lookS S t = some (.slice p x.length cap)) (hi : hs[i]? = some (ownSl sz c F0 T p cap x)) (le0 : F0 ≤ F') (hj : (hs.eraseIdx i)[j]? = some R) (le : F ≤ F') :
    GC κ P .ret ks (fnPostW P fn F R sz c T r) (Hd n [] S F' hs) (some x) r := GC.retQ fun e a w ha => by
  simp only [Option.some.injEq] at e
  subst e
  have hres : Res P S F' hs [.tmp t] [.slice p x.length cap] := .tmp h .nil
  exact ⟨ha.1.2.1, _, run_results (rs := [.tmp t]) hr ha hres, F', p, cap, le, rfl, (SH.pick2 hi hj ha.2).mono fun m hm => star_mono_left (fun _ => ownSl_up le0) hm⟩
theorem GL.callW {α : Type} {f : FuncId} {caps as vs : List Value} {of : Operand} {os : List Operand} {T : Array TypeId} {em : Option (List α)} {g : List α → Option β} {sz : Nat} {c : ERel α} {T' : TypeId} (hd : Nat.blt d n = true)
    (hcall : ∀ args w, (callFunc f args).run P w = .ok (.enter f args) w) (hf : evalS S of = some (.func (.func f) #[] caps.toArray)) (ha : evalL S os = some vs) (has : vs ++ caps = as)
    (hc : CTown P f as.toArray F em sz c T') (k : ∀ x F' p cap, em = some x → F ≤ F' → GL κ P ops rest ks Q (Hd n D ((d, .slice p x.length cap) :: S) F' (ownSl sz c F' T' p cap x :: hs)) (g x) r) :
    GL κ P ops (⟨some d, .call ⟨.value of, os.toArray, T⟩, ty, pos, after, none⟩ :: rest) ks Q (Hd n D S F hs) (em.bind g) r :=
  GL.callG rfl (.inr rfl) fun hm a w hA => by
    subst has
    refine ⟨run_call hA.1 hcall hf ha, ?_⟩
    cases he : em with
    | none => rw [he] at hm; cases hm
    | some y =>
      rw [he] at hm
      refine (hc y he w _ hA.2).mono ?_
      rintro _ w' ⟨F', p, cap, le, rfl, hw⟩
      exact ⟨_, rfl, k y F' p cap he le hm _ _ ⟨hA.1.put hd _, hw⟩⟩

/-- append(s, make([]T, k)...) of a nil slice. -/
def makeN (y : Int) : Option Nat := if 0 < y ∧ y ≤ 4294967296 then some y.toNat else none
theorem GL.growNil {α : Type} {c : ERel α} {sz e2 : Nat} {z : α} {zv : Value} {f : Nat → Option β} {T : Array TypeId} {kd2 : IntKind} {l : List α} (i : Nat) (E : ElemOK P e sz c) (hd : Nat.blt d n = true) (ht : P.underlying t = some (.slice e)) (ht2 : P.underlying e2 = some (.int kd2)) (hT0 : T[0]? = some t) (hT1 : T[1]? = some e2) (hzv : ∀ w, (zeroValue e).run P w = .ok zv w) (hzc : ∀ F', F ≤ F' → c F' z zv.cells.toList)
    (hi : hs[i]? = some (ownSl sz c F0 e none 0 l)) (hx : evalS S ox = some (.slice none 0 0)) (hy : evalS S oy = some (.int kd y))
    (k : ∀ len b cap, makeN y = some len → GL κ P ops rest ks Q (Hd n D ((d, .slice (some ⟨b, 0, none⟩) (List.replicate len z).length cap) :: S) F (hs.set i (ownSl sz c F e (some ⟨b, 0, none⟩) cap (List.replicate len z)))) (f len) r) :
    GL κ P ops (⟨some d, .call ⟨.builtin .append, #[ox, oy], T⟩, ty, pos, after, none⟩ :: rest) ks Q (Hd n D S F hs) ((makeN y).bind f) r := by
  refine GL.bind fun len hlen => ?_
  have hk := fun b cap => k len b cap hlen
  unfold makeN at hlen
  split at hlen
  · rename_i hb
    cases hlen
    refine GL.step rfl (.inr rfl) fun hm a w ha => ?_
    obtain ⟨ti, hti, hb0, hb1⟩ := E.info
    have hsz : zv.cells.size = sz := by
      have := E.len _ _ _ (hzc F (Fz.le_refl F)); simpa using this
    generalize hq' : Question.appendCap y.toNat 0 e = q
    have hcap : y.toNat ≤ q.cut (w.tape w.drawn q) ∧ q.cut (w.tape w.drawn q) ≤ 9223372036854775807 := by
      rw [← hq']
      have := Nat.mod_lt (w.tape w.drawn (Question.appendCap y.toNat 0 e)) (show 0 < 2 ^ 63 - y.toNat by omega)
      simp only [Question.cut]; omega
    have hforced : q.forced = false := by rw [← hq']; rfl
    generalize hC : q.cut (w.tape w.drawn q) = C at hcap
    have hHq : SH w F (stars (hs.eraseIdx i)) := ha.2.eraseAt i
    have hdrew : SH { w with drawn := w.drawn + 1 } F (stars (hs.eraseIdx i)) := hHq.drew _
    have halloc := hdrew.alloc (.cells (Builtin.zeroCells zv.cells y.toNat ++ Builtin.zeroCells zv.cells (C - y.toNat)) e)
    have hlz : ∀ k, (Builtin.zeroCells zv.cells k).size = k * sz := fun k => by simp [Builtin.zeroCells, hsz]
    have hw1 : IntKind.i64.wrap y = y := by simp [IntKind.wrap, IntKind.bits, IntKind.signed]; omega
    refine ⟨.slice (some ⟨w.heap.size, 0, none⟩) y.toNat C, ({ w with drawn := w.drawn + 1 } : World).alloc (.cells (Builtin.zeroCells zv.cells y.toNat ++ Builtin.zeroCells zv.cells (C - y.toNat)) e), ?_, ?_⟩
    rotate_left
    · have hk' := hk w.heap.size C
      rw [List.length_replicate] at hk'
      refine hk' hm _ _ ⟨ha.1.put hd _, SH.push hi (halloc.mono fun m hm => star_mono_left (fun m' hm' => ⟨by rw [List.length_replicate]; exact hcap.1, hcap.2, .inr ⟨w.heap.size, (Builtin.zeroCells zv.cells y.toNat ++ Builtin.zeroCells zv.cells (C - y.toNat)).toList, rfl, ?_, ?_, ?_⟩⟩) hm)⟩
      · unfold pt at hm'; rw [hm']
      · simp only [Array.length_toList, Array.size_append, hlz, ← Nat.add_mul]; congr 1; omega
      · have hp : Parts sz c F (List.replicate y.toNat z) (Builtin.zeroCells zv.cells y.toNat).toList := by
          unfold Builtin.zeroCells; rw [hsz]
          have := Parts.rep (cap := y.toNat) (k := y.toNat) hsz (Nat.le_refl _) hzc
          rw [hsz] at this; exact this
        have := hp.weak (us2 := (Builtin.zeroCells zv.cells (C - y.toNat)).toList) (by simp [hlz])
        simpa using this
    · have hneg : ¬ y < 0 := by omega
      have hby : ¬ (281474976710656 : Int) < y * ti.bytes := by
        have h1 : (ti.bytes : Int) ≤ 4096 := by omega
        have h2 : y * (ti.bytes : Int) ≤ y * 4096 := Int.mul_le_mul_of_nonneg_left h1 (by omega)
        omega
      have hn : nextcapB y.toNat 0 ti.bytes := nextcapB_of (by omega) (by omega) hb1
      unfold nextcapB at hn
      have hnb : ¬ (281474976710656 : Nat) < Builtin.nextslicecap y.toNat 0 * ti.bytes := by omega
      have hne0 : ¬ y.toNat = 0 := by omega
      have hmax : ¬ ((y.toNat : Nat) : Int) > IntKind.i64.max := by simp [IntKind.max, IntKind.bits, IntKind.signed]; omega
      have i2 : ∀ w : World, (asInt (.int kd y)).run P w = .ok y w := fun w => by simp [asInt, asIntOf]
      have hbk : ¬ (y.toNat ≤ 0) := by omega
      simp only [execOp, resolve, invoke, builtin, List.map_toArray, List.map_cons, List.map_nil, ha.1.eval hx, ha.1.eval hy]
      simp only [Builtin.append_]
      simp [hT0, hT1, rUnd ht, rUnd ht2, E.size, i2, hw1, hneg, hti, hby, hnb, hq', hforced, hC, hzv, newRow, Builtin.firstCells, askRoom]
      have q1 : ¬ y ≤ 0 := by omega
      have q2 : ¬ (9223372036854775807 : Int) < max y 0 := by omega
      rw [if_neg q1, if_neg q2]
      by_cases hz0 : y.toNat * sz = 0
      · have hzc0 : Builtin.zeroCells zv.cells y.toNat = #[] := Array.eq_empty_of_size_eq_zero (by rw [hlz]; exact hz0)
        rw [if_pos hz0, hzc0, Array.empty_append]
      · rw [if_neg hz0]
  · cases hlen
/-- A part of the own slice's front: s[:k]. -/
theorem GL.ownHi {α : Type} {c : ERel α} {sz : Nat} {p : Option Addr} {cap : Nat} {T : TypeId} {l : List α} {f : List α → Option β} (i : Nat) (hd : Nat.blt d n = true) (ht : P.underlying t = some (.slice e)) (hz : ∀ w, (sizeOf e).run P w = .ok sz w)
    (hi : hs[i]? = some (ownSl sz c F0 T p cap l)) (hx : evalS S ox = some (.slice p l.length cap)) (hy : evalS S oy = some (.int kd x))
    (k : ∀ l' p', sliceL l 0 x = some l' → GL κ P ops rest ks Q (Hd n D ((d, .slice p' l'.length cap) :: S) F (hs.set i (ownSl sz c F0 T p' cap l'))) (f l') r) :
    GL κ P ops (⟨some d, .slice t ox none (some oy) none, ty, pos, after, none⟩ :: rest) ks Q (Hd n D S F hs) ((sliceL l 0 x).bind f) r := by
  refine GL.bind fun l' hl => ?_
  have hl' := hl
  unfold sliceL at hl
  split at hl
  · rename_i h
    simp only [Option.some.injEq, Int.toNat_zero, List.drop_zero, Nat.sub_zero] at hl
    have hlen : l'.length = x.toNat := by rw [← hl]; simp; omega
    refine GL.step rfl (.inr rfl) fun hm a w ha => ?_
    have hcap : l.length ≤ cap := by
      obtain ⟨_, ⟨_, _, _, _, _, ⟨h1, _, _⟩, _⟩, _⟩ := ha.2.pull hi; exact h1
    refine ⟨.slice (if cap = 0 then p else p.map (·.add (0 * sz))) x.toNat cap, w, ?_, ?_⟩
    · simp only [execOp, ha.1.eval hx, ha.1.eval hy, Option.map_some, Option.map_none, Sem.run_bind]
      rw [run_slice_hi ht hz (by omega)]
      rfl
    · have hk := k l' (if cap = 0 then p else p.map (·.add (0 * sz))) hl'
      rw [hlen] at hk
      have e0 : (if cap = 0 then p else p.map (·.add (0 * sz))) = p := by
        split
        · rfl
        · cases p with
          | none => rfl
          | some q => simp [Addr.add]
      rw [e0] at hk ⊢
      refine hk hm _ _ ⟨ha.1.put hd _, SH.push hi ((ha.2.pull hi).mono fun m hm => star_mono_left (fun m' hm' => ?_) hm)⟩
      obtain ⟨h1, h2, h3⟩ := hm'
      refine ⟨by rw [hlen]; omega, h2, ?_⟩
      rcases h3 with h3 | ⟨b, cs, e1, hb, hcl, hp⟩
      · exact .inl h3
      · exact .inr ⟨b, cs, e1, hb, hcl, fun j y hy F' le => hp j y (by
          rw [← hl, List.getElem?_take] at hy
          split at hy
          · exact hy
          · cases hy) F' le⟩
  · cases hl
end
end Go.Dec
