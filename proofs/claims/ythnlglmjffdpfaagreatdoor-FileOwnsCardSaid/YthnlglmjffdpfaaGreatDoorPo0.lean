/- Own texts and texts printed by a program of mine, for fileOwns_holds; only what it reaches. -/
import Derived.WalkKit
import Derived.OrdersIn
import Derived.RangeFuncLeaves
import Derived.ProofKit
import Derived.OpenShut
import Derived.ChangeArms
import Derived.RangeFuncNested
import Derived.RecoverIn
import Derived.LaidEql
section
namespace Go.Dec
inductive Key where
  | blk (b : Nat)
  | gst (γ : Nat)
  deriving DecidableEq
inductive Cell where
  | obj (o : Obj)
  | gh (l : List Nat)
abbrev Mem := Key → Option Cell
abbrev HP := Mem → Prop
structure Fz where
  mem : Nat → Option Obj
  os : Os
  tape : Nat → Question → Nat
  out : Array (Nat × ByteArray)
  gh : Nat → List Nat := fun _ => []
  gn : Nat := 0
structure Fz.Le (F F' : Fz) : Prop where
  os : F'.os = F.os
  tape : F'.tape = F.tape
  out : F'.out = F.out
  mem : ∀ b o, F.mem b = some o → F'.mem b = some o
  gh : ∀ γ, γ < F.gn → F.gh γ <+: F'.gh γ
  gn : F.gn ≤ F'.gn
instance : LE Fz := ⟨Fz.Le⟩
theorem Fz.le_refl (F : Fz) : F ≤ F := ⟨rfl, rfl, rfl, fun _ _ h => h, fun _ _ => List.prefix_refl _, Nat.le_refl _⟩
theorem Fz.le_trans {F G H : Fz} (h : F ≤ G) (k : G ≤ H) : F ≤ H :=
  ⟨k.os.trans h.os, k.tape.trans h.tape, k.out.trans h.out, fun b o e => k.mem b o (h.mem b o e), fun γ hγ => (h.gh γ hγ).trans (k.gh γ (Nat.lt_of_lt_of_le hγ h.gn)), Nat.le_trans h.gn k.gn⟩
def Mem.dj (m n : Mem) : Prop := ∀ k, m k = none ∨ n k = none
def Mem.sub (m n : Mem) : Prop := ∀ k o, m k = some o → n k = some o
def Mem.set (m : Mem) (b : Key) (o : Cell) : Mem := fun k => if k = b then some o else m k
def fset (m : Nat → Option Obj) (b : Nat) (o : Obj) : Nat → Option Obj := fun k => if k = b then some o else m k
theorem Mem.dj.symm {m n : Mem} (h : Mem.dj m n) : Mem.dj n m := fun k => (h k).symm
theorem Mem.sub.trans {m n p : Mem} (h : Mem.sub m n) (k : Mem.sub n p) : Mem.sub m p := fun b o e => k b o (h b o e)
theorem Mem.sub.refl (m : Mem) : Mem.sub m m := fun _ _ e => e
theorem Mem.dj.sub {m n m' n' : Mem} (h : Mem.dj m n) (hm : Mem.sub m' m) (hn : Mem.sub n' n) : Mem.dj m' n' := fun k => by
  rcases h k with h | h
  · cases e : m' k with
    | none => exact .inl rfl
    | some o => rw [hm k o e] at h; cases h
  · cases e : n' k with
    | none => exact .inr rfl
    | some o => rw [hn k o e] at h; cases h
theorem Mem.dj.none_right {m n : Mem} (h : Mem.dj m n) {b : Key} {o : Cell} (e : m b = some o) : n b = none := by
  rcases h b with h | h
  · rw [e] at h; cases h
  · exact h
theorem Mem.dj.none_left {m n : Mem} (h : Mem.dj m n) {b : Key} {o : Cell} (e : n b = some o) : m b = none := h.symm.none_right e
def emp : HP := fun _ => True
def pt (b : Nat) (o : Obj) : HP := fun m => m (.blk b) = some (.obj o)
def star (p q : HP) : HP := fun m => ∃ m1 m2, Mem.dj m1 m2 ∧ Mem.sub m1 m ∧ Mem.sub m2 m ∧ p m1 ∧ q m2
def stars : List HP → HP
  | [] => emp
  | p :: hs => star p (stars hs)
theorem star_swap {p q r : HP} {m : Mem} (h : star p (star q r) m) : star q (star p r) m := by
  obtain ⟨m1, m2, d, s1, s2, hp, n1, n2, d', t1, t2, hq, hr⟩ := h
  classical
  refine ⟨n1, fun k => if n2 k = none then m1 k else n2 k, ?_, t1.trans s2, ?_, hq, m1, n2, ?_, ?_, ?_, hp, hr⟩
  · intro k
    by_cases e : n2 k = none
    · simp only [e, if_true]
      rcases d k with h | h
      · exact .inr h
      · left
        cases e1 : n1 k with
        | none => rfl
        | some o => rw [t1 k o e1] at h; cases h
    · simp only [e, if_false]
      rcases d' k with h | h
      · exact .inl h
      · exact absurd h e
  · intro k o e
    by_cases e' : n2 k = none
    · simp only [e', if_true] at e; exact s1 k o e
    · simp only [e', if_false] at e; exact s2 k o (t2 k o e)
  · exact d.sub (Mem.sub.refl _) t2
  · intro k o e
    have hn : n2 k = none := by
      cases e2 : n2 k with
      | none => rfl
      | some x =>
        have := d.none_right e
        rw [t2 k x e2] at this; cases this
    simp [hn, e]
  · intro k o e
    simp [e]
theorem star_mono_right {p q q' : HP} (h : ∀ m, q m → q' m) {m : Mem} (k : star p q m) : star p q' m :=
  let ⟨m1, m2, d, s1, s2, hp, hq⟩ := k; ⟨m1, m2, d, s1, s2, hp, h _ hq⟩
theorem star_mono_left {p p' q : HP} (h : ∀ m, p m → p' m) {m : Mem} (k : star p q m) : star p' q m :=
  let ⟨m1, m2, d, s1, s2, hp, hq⟩ := k; ⟨m1, m2, d, s1, s2, h _ hp, hq⟩
theorem stars_pull : ∀ {hs : List HP} {k : Nat} {p : HP} {m : Mem}, hs[k]? = some p → stars hs m → star p (stars (hs.eraseIdx k)) m
  | [], _, _, _, h, _ => by simp at h
  | q :: hs, 0, p, m, h, hm => by
    simp at h; subst h; exact hm
  | q :: hs, k + 1, p, m, h, hm => by
    simp only [List.getElem?_cons_succ] at h
    simp only [List.eraseIdx_cons_succ]
    exact star_swap (star_mono_right (fun m hm' => stars_pull h hm') hm)
theorem stars_push : ∀ {hs : List HP} {k : Nat} {p q : HP} {m : Mem}, hs[k]? = some q → star p (stars (hs.eraseIdx k)) m → stars (hs.set k p) m
  | [], _, _, _, _, h, _ => by simp at h
  | x :: hs, 0, p, q, m, h, hm => hm
  | x :: hs, k + 1, p, q, m, h, hm => by
    simp only [List.getElem?_cons_succ] at h
    simp only [List.eraseIdx_cons_succ] at hm
    simp only [List.set_cons_succ]
    exact star_mono_right (fun m hm' => stars_push h hm') (star_swap hm)
theorem stars_erase {hs : List HP} {k : Nat} {m : Mem} (h : stars hs m) : star emp (stars (hs.eraseIdx k)) m := by
  cases e : hs[k]? with
  | some p => exact star_mono_left (fun _ _ => trivial) (stars_pull e h)
  | none =>
    have : hs.eraseIdx k = hs := List.eraseIdx_of_length_le (by simpa using e)
    rw [this]
    exact ⟨fun _ => none, m, fun _ => .inl rfl, fun _ _ e => by simp at e, Mem.sub.refl _, trivial, h⟩
structure SHm (w : World) (F : Fz) (m : Mem) : Prop where
  dj : ∀ b, m (.blk b) = none ∨ F.mem b = none
  own : ∀ b c, m (.blk b) = some c → ∃ o, c = .obj o ∧ w.heap[b]? = some o
  gst : ∀ γ c, m (.gst γ) = some c → γ < F.gn ∧ c = .gh (F.gh γ)
  frz : ∀ b o, F.mem b = some o → w.heap[b]? = some o
  os : w.os = F.os
  tape : w.tape = F.tape
  out : w.output = F.out
def SH (w : World) (F : Fz) (H : HP) : Prop := ∃ m, H m ∧ SHm w F m
theorem lt_of_heap {w : World} {b : Nat} {o : Obj} (h : w.heap[b]? = some o) : b < w.heap.size := by
  rcases Nat.lt_or_ge b w.heap.size with h' | h'
  · exact h'
  · rw [Array.getElem?_eq_none h'] at h; cases h
theorem SHm.sub {w : World} {F : Fz} {m n : Mem} (h : SHm w F m) (s : Mem.sub n m) : SHm w F n :=
  ⟨fun b => by
    rcases h.dj b with e | e
    · cases en : n (.blk b) with
      | none => exact .inl rfl
      | some c => rw [s _ c en] at e; cases e
    · exact .inr e, fun b o e => h.own b o (s _ o e), fun γ c e => h.gst γ c (s _ c e), h.frz, h.os, h.tape, h.out⟩
theorem SHm.ownO {w : World} {F : Fz} {m : Mem} (h : SHm w F m) {b : Nat} {o : Obj} (e : m (.blk b) = some (.obj o)) : w.heap[b]? = some o := by
  obtain ⟨_, e1, e2⟩ := h.own b _ e
  cases e1; exact e2
theorem SH.mono {w : World} {F : Fz} {H H' : HP} (h : SH w F H) (k : ∀ m, H m → H' m) : SH w F H' :=
  let ⟨m, a, b⟩ := h; ⟨m, k m a, b⟩
theorem SH.drop {w : World} {F : Fz} {p q : HP} (h : SH w F (star p q)) : SH w F q :=
  let ⟨_, ⟨_, m2, _, _, s2, _, hq⟩, b⟩ := h; ⟨m2, hq, b.sub s2⟩
theorem SH.frozen {w : World} {F : Fz} {H : HP} (h : SH w F H) {b : Nat} {o : Obj} (e : F.mem b = some o) : w.heap[b]? = some o :=
  let ⟨_, _, k⟩ := h; k.frz b o e
theorem SH.owned {w : World} {F : Fz} {b : Nat} {o : Obj} {H : HP} (h : SH w F (star (pt b o) H)) : w.heap[b]? = some o :=
  let ⟨_, ⟨_, _, _, s1, _, hp, _⟩, k⟩ := h
  let ⟨_, e, h'⟩ := k.own b _ (s1 _ _ hp)
  by cases e; exact h'
theorem SH.drew {w : World} {F : Fz} {H : HP} (h : SH w F H) (n : Nat) : SH { w with drawn := n } F H :=
  let ⟨m, a, k⟩ := h; ⟨m, a, k.dj, k.own, k.gst, k.frz, k.os, k.tape, k.out⟩
theorem heap_alloc_old {w : World} {o x : Obj} {b : Nat} (h : w.heap[b]? = some x) : (w.alloc o).heap[b]? = some x := by
  have := lt_of_heap h
  show (w.heap.push o)[b]? = _
  rw [Array.getElem?_push, if_neg (by omega)]; exact h
theorem heap_alloc_new (w : World) (o : Obj) : (w.alloc o).heap[w.heap.size]? = some o := by
  show (w.heap.push o)[w.heap.size]? = _
  simp
theorem SHm.fresh {w : World} {F : Fz} {m : Mem} (h : SHm w F m) : m (.blk w.heap.size) = none ∧ F.mem w.heap.size = none := by
  constructor
  · cases e : m (.blk w.heap.size) with
    | none => rfl
    | some o => obtain ⟨_, _, h'⟩ := h.own _ _ e; have := lt_of_heap h'; omega
  · cases e : F.mem w.heap.size with
    | none => rfl
    | some o => have := lt_of_heap (h.frz _ _ e); omega
theorem star_new {H : HP} {m : Mem} {k : Key} {c : Cell} (h : m k = none) (a : H m) : star (fun m => m k = some c) H (m.set k c) := by
  refine ⟨Mem.set (fun _ => none) k c, m, ?_, ?_, ?_, ?_, a⟩
  · intro b; by_cases e : b = k
    · subst e; exact .inr h
    · exact .inl (by simp [Mem.set, e])
  · intro b x e
    by_cases e' : b = k
    · simpa [Mem.set, e'] using e
    · simp [Mem.set, e'] at e
  · intro b x e
    by_cases e' : b = k
    · subst e'; rw [h] at e; cases e
    · simpa [Mem.set, e'] using e
  · simp [Mem.set]
theorem SH.alloc {w : World} {F : Fz} {H : HP} (h : SH w F H) (o : Obj) : SH (w.alloc o) F (star (pt w.heap.size o) H) := by
  obtain ⟨m, a, k⟩ := h
  obtain ⟨f1, f2⟩ := k.fresh
  refine ⟨m.set (.blk w.heap.size) (.obj o), star_new f1 a, ?_, ?_, ?_, ?_, k.os, k.tape, k.out⟩
  · intro b; by_cases e : b = w.heap.size
    · subst e; exact .inr f2
    · rcases k.dj b with h | h
      · exact .inl (by simpa [Mem.set, e] using h)
      · exact .inr h
  · intro b x e
    by_cases e' : b = w.heap.size
    · subst e'; simp [Mem.set] at e; subst e; exact ⟨o, rfl, heap_alloc_new w o⟩
    · simp [Mem.set, e'] at e; obtain ⟨o', e1, e2⟩ := k.own b x e; exact ⟨o', e1, heap_alloc_old e2⟩
  · intro γ c e; exact k.gst γ c (by simpa [Mem.set] using e)
  · intro b x e; exact heap_alloc_old (k.frz b x e)
def Fz.add (F : Fz) (b : Nat) (o : Obj) : Fz := { F with mem := fset F.mem b o }
theorem Fz.le_add {F : Fz} {b : Nat} {o : Obj} (h : F.mem b = none) : F ≤ F.add b o :=
  ⟨rfl, rfl, rfl, fun k x e => by
    show fset F.mem b o k = some x
    by_cases e' : k = b
    · subst e'; rw [h] at e; cases e
    · simpa [fset, e'] using e, fun _ _ => List.prefix_refl _, Nat.le_refl _⟩
theorem Fz.add_self (F : Fz) (b : Nat) (o : Obj) : (F.add b o).mem b = some o := by simp [Fz.add, fset]
theorem SH.freeze {w : World} {F : Fz} {b : Nat} {o : Obj} {H : HP} (h : SH w F (star (pt b o) H)) : F ≤ F.add b o ∧ SH w (F.add b o) H := by
  have hb := h.owned
  obtain ⟨m, ⟨m1, m2, d, s1, s2, hp, hq⟩, k⟩ := h
  have hm : m (.blk b) = some (.obj o) := s1 _ _ hp
  have h0 : F.mem b = none := by
    rcases k.dj b with e | e
    · rw [hm] at e; cases e
    · exact e
  have k2 := k.sub s2
  refine ⟨Fz.le_add h0, m2, hq, ?_, k2.own, k2.gst, ?_, k.os, k.tape, k.out⟩
  · intro b'
    show m2 (.blk b') = none ∨ fset F.mem b o b' = none
    by_cases e : b' = b
    · subst e; exact .inl (d.none_right hp)
    · rcases k2.dj b' with h | h
      · exact .inl h
      · exact .inr (by simpa [fset, e] using h)
  · intro b' x e
    change fset F.mem b o b' = some x at e
    by_cases e' : b' = b
    · subst e'; simp [fset] at e; subst e; exact hb
    · simp [fset, e'] at e; exact k.frz b' x e
theorem SH.allocF {w : World} {F : Fz} {H : HP} (h : SH w F H) (o : Obj) : F ≤ F.add w.heap.size o ∧ SH (w.alloc o) (F.add w.heap.size o) H :=
  (h.alloc o).freeze
def put (w : World) (b : Nat) (o : Obj) : World := { w with heap := w.heap.setIfInBounds b o }
theorem heap_put_same {w : World} {b : Nat} {o x : Obj} (h : w.heap[b]? = some x) : (put w b o).heap[b]? = some o := by
  have := lt_of_heap h
  simp [put, this]
theorem heap_put_other {w : World} {b k : Nat} {o : Obj} (h : k ≠ b) : (put w b o).heap[k]? = w.heap[k]? := by
  simp [put, Ne.symm h]
theorem SH.put {w : World} {F : Fz} {b : Nat} {o o' : Obj} {H : HP} (h : SH w F (star (pt b o) H)) : SH (Dec.put w b o') F (star (pt b o') H) := by
  have hb := h.owned
  obtain ⟨m, ⟨m1, m2, d, s1, s2, hp, hq⟩, k⟩ := h
  have hm : m (.blk b) = some (.obj o) := s1 _ _ hp
  have h0 : F.mem b = none := by
    rcases k.dj b with e | e
    · rw [hm] at e; cases e
    · exact e
  have h2 : m2 (.blk b) = none := d.none_right hp
  have k2 := k.sub s2
  refine ⟨m2.set (.blk b) (.obj o'), star_new h2 hq, ?_, ?_, ?_, ?_, k.os, k.tape, k.out⟩
  · intro b'; by_cases e : b' = b
    · subst e; exact .inr h0
    · rcases k2.dj b' with h | h
      · exact .inl (by simpa [Mem.set, e] using h)
      · exact .inr h
  · intro b' x e
    by_cases e' : b' = b
    · subst e'; simp [Mem.set] at e; subst e; exact ⟨o', rfl, heap_put_same hb⟩
    · simp [Mem.set, e'] at e
      obtain ⟨o2, e1, e2⟩ := k2.own b' x e
      exact ⟨o2, e1, by rw [heap_put_other e']; exact e2⟩
  · intro γ c e; exact k2.gst γ c (by simpa [Mem.set] using e)
  · intro b' x e
    have : b' ≠ b := fun e' => by subst e'; rw [h0] at e; cases e
    rw [heap_put_other this]; exact k.frz b' x e
theorem SH.pull {w : World} {F : Fz} {hs : List HP} {k : Nat} {p : HP} (hk : hs[k]? = some p) (h : SH w F (stars hs)) : SH w F (star p (stars (hs.eraseIdx k))) :=
  h.mono fun _ => stars_pull hk
theorem SH.push {w : World} {F : Fz} {hs : List HP} {k : Nat} {p q : HP} (hk : hs[k]? = some q) (h : SH w F (star p (stars (hs.eraseIdx k)))) : SH w F (stars (hs.set k p)) :=
  h.mono fun _ => stars_push hk
theorem SH.ownedAt {w : World} {F : Fz} {hs : List HP} {k : Nat} {b : Nat} {o : Obj} (hk : hs[k]? = some (pt b o)) (h : SH w F (stars hs)) : w.heap[b]? = some o :=
  (h.pull hk).owned
theorem SH.putAt {w : World} {F : Fz} {hs : List HP} {k : Nat} {b : Nat} {o : Obj} (hk : hs[k]? = some (pt b o)) (h : SH w F (stars hs)) (o' : Obj) : SH (Dec.put w b o') F (stars (hs.set k (pt b o'))) :=
  SH.push hk ((h.pull hk).put)
theorem SH.freezeAt {w : World} {F : Fz} {hs : List HP} {k : Nat} {b : Nat} {o : Obj} (hk : hs[k]? = some (pt b o)) (h : SH w F (stars hs)) : F ≤ F.add b o ∧ SH w (F.add b o) (stars (hs.eraseIdx k)) :=
  (h.pull hk).freeze
theorem SH.eraseAt {w : World} {F : Fz} {hs : List HP} (k : Nat) (h : SH w F (stars hs)) : SH w F (stars (hs.eraseIdx k)) :=
  (h.mono fun _ => stars_erase (k := k)).drop
theorem SH.only {w : World} {F : Fz} {hs : List HP} {k : Nat} {p : HP} (hk : hs[k]? = some p) (h : SH w F (stars hs)) : SH w F p := by
  obtain ⟨m, hm, s⟩ := h
  obtain ⟨m1, m2, d, s1, s2, hp, _⟩ := stars_pull hk hm
  exact ⟨m1, hp, s.sub s1⟩
theorem SH.one {w : World} {F : Fz} {p : HP} (h : SH w F p) : SH w F (stars [p]) :=
  h.mono fun m hm => ⟨m, fun _ => none, fun _ => .inr rfl, Mem.sub.refl _, fun _ _ e => by simp at e, hm, trivial⟩
theorem SH.size_le {w w' : World} {F F' : Fz} {H' : HP} (h' : SH w' F' H') (hall : ∀ b o, w.heap[b]? = some o → F.mem b = some o) (le : F ≤ F') : w.heap.size ≤ w'.heap.size ∧ ∀ k, k < w.heap.size → w'.heap[k]? = w.heap[k]? := by
  have key : ∀ k, k < w.heap.size → w'.heap[k]? = w.heap[k]? := fun k hk => by
    have e : w.heap[k]? = some w.heap[k] := by simp [hk]
    rw [e]; exact h'.frozen (le.mem _ _ (hall _ _ e))
  refine ⟨?_, key⟩
  rcases Nat.lt_or_ge w'.heap.size w.heap.size with hlt | hge
  · have e := key w'.heap.size hlt
    have e2 : w.heap[w'.heap.size]? = some w.heap[w'.heap.size] := by simp [hlt]
    rw [e2] at e
    have := lt_of_heap e
    omega
  · exact hge
end Go.Dec
end

section
namespace Go.Dec
variable {κ : Option Nat}
def lookS : List (Nat × Value) → Nat → Option Value
  | [], _ => none
  | (k, v) :: S, i => match Nat.beq k i with
    | true => some v
    | false => lookS S i
def Sl (n : Nat) (D : List Deferred) (S : List (Nat × Value)) (a : Act) : Prop :=
  a.tmps.size = n ∧ a.defers = D ∧ ∀ i v, lookS S i = some v → a.tmps.getD i undef = v
def Hd (n : Nat) (D : List Deferred) (S : List (Nat × Value)) (F : Fz) (hs : List HP) (a : Act) (w : World) : Prop :=
  Sl n D S a ∧ SH w F (stars hs)
def evalS (S : List (Nat × Value)) : Operand → Option Value
  | .tmp t => lookS S t
  | .const v => some v
  | .global g => some (.pointer (some ⟨g, 0, none⟩))
  | .func f => some (.func (.func f) #[] #[])
theorem Sl.eval {n : Nat} {D : List Deferred} {S : List (Nat × Value)} {a : Act} (h : Sl n D S a) {o : Operand} {v : Value} (e : evalS S o = some v) : a.eval o = v := by
  cases o with
  | tmp t => exact h.2.2 t v e
  | const x => exact Option.some.inj e
  | global g => exact Option.some.inj e
  | func f => exact Option.some.inj e
theorem Sl.put {n : Nat} {D : List Deferred} {S : List (Nat × Value)} {a : Act} (h : Sl n D S a) {d : Nat} (hd : Nat.blt d n = true) (v : Value) : Sl n D ((d, v) :: S) (a.put (some d) v) := by
  have hd' : d < n := Nat.le_of_ble_eq_true hd
  obtain ⟨h1, h2, h3⟩ := h
  refine ⟨by simp [Act.put, h1], by simp [Act.put, h2], fun i u e => ?_⟩
  simp only [lookS] at e
  cases hb : Nat.beq d i with
  | true =>
    rw [hb] at e
    have : d = i := Nat.eq_of_beq_eq_true hb
    subst this
    simp only [Option.some.injEq] at e
    subst e
    simp [Act.put, Array.getD_eq_getD_getElem?, h1, hd']
  | false =>
    rw [hb] at e
    have hne : d ≠ i := fun he => by subst he; simp at hb
    have := h3 i u e
    simp only [Act.put, Array.getD_eq_getD_getElem?] at this ⊢
    rw [Array.getElem?_setIfInBounds_ne hne]; exact this
theorem Sl.put_none {n : Nat} {D : List Deferred} {S : List (Nat × Value)} {a : Act} (h : Sl n D S a) (v : Value) : Sl n D S (a.put none v) := h
def Sub (S' S : List (Nat × Value)) : Prop := ∀ i v, lookS S' i = some v → lookS S i = some v
theorem Sub.refl (S : List (Nat × Value)) : Sub S S := fun _ _ h => h
theorem Sub.nil (S : List (Nat × Value)) : Sub [] S := fun _ _ h => by simp [lookS] at h
theorem Sub.cons {S T : List (Nat × Value)} {k : Nat} {v : Value} (h : lookS S k = some v) (t : Sub T S) : Sub ((k, v) :: T) S := fun i u e => by
  simp only [lookS] at e
  cases hb : Nat.beq k i with
  | true =>
    rw [hb] at e
    have : k = i := Nat.eq_of_beq_eq_true hb
    subst this
    simp only [Option.some.injEq] at e
    subst e; exact h
  | false => rw [hb] at e; exact t i u e
theorem Sl.sub {n : Nat} {D : List Deferred} {S S' : List (Nat × Value)} {a : Act} (h : Sl n D S a) (s : Sub S' S) : Sl n D S' a :=
  ⟨h.1, h.2.1, fun i v e => h.2.2 i v (s i v e)⟩
def hasKey (k : Nat) : List (Nat × Value) → Bool
  | [] => false
  | (j, _) :: S => Nat.beq j k || hasKey k S
def fresh (S : List (Nat × Value)) : List (Nat × Value) → Bool
  | [] => true
  | (j, _) :: T => !hasKey j S && fresh S T
theorem hasKey_of_look : ∀ {S : List (Nat × Value)} {i : Nat} {v : Value}, lookS S i = some v → hasKey i S = true
  | [], _, _, h => by simp [lookS] at h
  | (k, u) :: S, i, v, h => by
    simp only [lookS] at h
    simp only [hasKey]
    cases hb : Nat.beq k i with
    | true => rfl
    | false => rw [hb] at h; simp [hasKey_of_look h]
theorem look_append_fresh : ∀ {T S : List (Nat × Value)} {i : Nat} {v : Value}, fresh S T = true → lookS S i = some v → lookS (T ++ S) i = some v
  | [], _, _, _, _, h => h
  | (j, u) :: T, S, i, v, hf, h => by
    simp only [fresh, Bool.and_eq_true, Bool.not_eq_true'] at hf
    simp only [List.cons_append, lookS]
    cases hb : Nat.beq j i with
    | true =>
      have : j = i := Nat.eq_of_beq_eq_true hb
      subst this
      rw [hasKey_of_look h] at hf; cases hf.1
    | false => exact look_append_fresh hf.2 h
inductive Kt where
  | code (c : Code)
  | block (id : Nat)
def fen : Option Nat → Fence
  | none => Fence.wide
  | some l => Fence.wide.inRound l
theorem fen_round (κ : Option Nat) : (fen κ).round = κ := by cases κ <;> rfl
theorem fen_fn (κ : Option Nat) (f : FuncId) : (fen κ).fn f := by cases κ <;> trivial
theorem fen_depth (κ : Option Nat) : (fen κ).depth = none := by cases κ <;> rfl
theorem fen_room (κ : Option Nat) (n : Nat) : (fen κ).room n := fun d hd => by rw [fen_depth] at hd; cases hd
theorem calls_fen {κ : Option Nat} {n : Nat} {P : Program} {f : FuncId} {args : Array Value} {w : World} {R : Ending → World → Prop} : CallsIn (fen κ) n P f args w R ↔ Calls P f args w R := by
  cases κ with
  | none => exact callsIn_wide
  | some l => exact callsIn_wide
def noDefer : Op → Bool
  | .defer _ => false
  | _ => true
theorem noDefer_ne {o : Op} (h : noDefer o = true) : ∀ c, o ≠ .defer c := fun c e => by rw [e] at h; cases h
def opW (κ : Option Nat) (P : Program) (o : Oper) (a : Act) (w : World) (K : Act → World → Prop) (Q : Exit → Act → World → Prop) : Prop :=
  (κ = none ∨ noDefer o.op = true) ∧ o.uponIn (fen κ) 0 P a K Q ((execOp a.eval o).run P w)
theorem opW.wpIn {κ : Option Nat} {P : Program} {o : Oper} {a : Act} {w : World} {K : Act → World → Prop} {Q : Exit → Act → World → Prop} (h : opW κ P o a w K Q) : o.wpIn (fen κ) 0 P a w K Q := by
  refine ⟨fun f _ => fen_fn κ f, ?_⟩
  rw [fen_round]
  obtain ⟨h1, h2⟩ := h
  rcases h1 with rfl | h1
  · exact h2
  · rw [Oper.semAt_eq κ _ o (noDefer_ne h1)]; exact h2
theorem opW_put {κ : Option Nat} {P : Program} {o : Oper} {a : Act} {w : World} {K K' : Act → World → Prop} {Q Q' : Exit → Act → World → Prop} (h : ∀ u w, K (a.put o.dst u) w → K' (a.put o.dst u) w)
    (hd : ∀ d w, K ({ a with defers := d :: a.defers }.put o.dst undef) w → K' ({ a with defers := d :: a.defers }.put o.dst undef) w) (hx : ∀ e a w, e ≠ .normal → Q e a w → Q' e a w)
    (hh : opW κ P o a w K Q) : opW κ P o a w K' Q' := by
  obtain ⟨h1, h2⟩ := hh
  refine ⟨h1, ?_⟩
  generalize (execOp a.eval o).run P w = r at *
  unfold Oper.uponIn at *
  split at h2
  all_goals first
    | exact h _ _ h2
    | exact hd _ _ h2
    | exact h2.elim
    | exact hx _ _ _ (by simp) h2
    | (refine ⟨h2.1, CallsIn.mono h2.2 ?_⟩; rintro (v | c | _) w'' hq <;> first | exact h _ _ hq | exact hx _ _ _ (by simp) hq | (obtain ⟨a1, w1, h3⟩ := hq; exact ⟨a1, w1, hx _ _ _ (by simp) h3⟩))
    | (refine ⟨h2.1, RowsIn.mono h2.2 ?_⟩; intro v w'' hq; exact h _ _ hq)
    | (refine ⟨h2.1, RoundIn.mono h2.2 ?_⟩; rintro (v | c | _) w'' hq <;> first | exact h _ _ hq | exact hx _ _ _ (by simp) hq | (obtain ⟨a1, w1, h3⟩ := hq; exact ⟨a1, w1, hx _ _ _ (by simp) h3⟩))
theorem opW_imp {κ : Option Nat} {P : Program} {o : Oper} {a : Act} {w : World} {K K' : Act → World → Prop} {Q Q' : Exit → Act → World → Prop} (h : ∀ a w, K a w → K' a w) (hx : ∀ e a w, e ≠ .normal → Q e a w → Q' e a w)
    (hh : opW κ P o a w K Q) : opW κ P o a w K' Q' := opW_put (fun _ _ => h _ _) (fun _ _ => h _ _) hx hh
theorem opW_mono {κ : Option Nat} {P : Program} {o : Oper} {a : Act} {w : World} {K K' : Act → World → Prop} {Q : Exit → Act → World → Prop} (h : ∀ a w, K a w → K' a w) (hh : opW κ P o a w K Q) : opW κ P o a w K' Q :=
  opW_imp h (fun _ _ _ _ hq => hq) hh
def wpL (κ : Option Nat) (P : Program) (ops : Array Oper) (Q : Exit → Act → World → Prop) : List Oper → Act → World → Prop
  | [], a, w => Q .normal a w
  | o :: rest, a, w => if Region.wanted o (yielded ops a.tmps) then opW κ P o a w (wpL κ P ops Q rest) Q else wpL κ P ops Q rest (a.put o.dst undef) w
theorem wpL.wpIn {κ : Option Nat} {P : Program} {ops : Array Oper} {Q : Exit → Act → World → Prop} : ∀ {l : List Oper} {a : Act} {w : World}, wpL κ P ops Q l a w → wpListIn (fen κ) 0 P ops Q l a w
  | [], _, _, h => h
  | o :: rest, a, w, h => by
    unfold wpL at h
    unfold wpListIn
    split
    · rename_i hw
      rw [if_pos hw] at h
      exact (opW_mono (fun a w h => wpL.wpIn h) h).wpIn
    · rename_i hw
      rw [if_neg hw] at h
      exact ⟨fun f _ => fen_fn κ f, wpL.wpIn h⟩
def interp (κ : Option Nat) (P : Program) : List Kt → (Exit → Act → World → Prop) → Exit → Act → World → Prop
  | [], Q => Q
  | .code c :: ks, Q => Exit.then (c.wpIn (fen κ) 0 P (interp κ P ks Q)) (interp κ P ks Q)
  | .block id :: ks, Q => Exit.inBlock id (interp κ P ks Q)
def exitK (id : Nat) : List Kt → Option (List Kt)
  | [] => none
  | .code _ :: ks => exitK id ks
  | .block j :: ks => match Nat.beq j id with
    | true => some ks
    | false => exitK id ks
theorem interp_exit {P : Program} {Q : Exit → Act → World → Prop} {id : Nat} {a : Act} {w : World} : ∀ {ks ks' : List Kt}, exitK id ks = some ks' → interp κ P ks' Q .normal a w → interp κ P ks Q (.exit id) a w
  | [], _, h, _ => by simp [exitK] at h
  | .code c :: ks, ks', h, k => by
    simp only [exitK] at h
    show interp κ P ks Q (.exit id) a w
    exact interp_exit h k
  | .block j :: ks, ks', h, k => by
    simp only [exitK] at h
    show (if id = j then interp κ P ks Q .normal a w else interp κ P ks Q (.exit id) a w)
    cases hb : Nat.beq j id with
    | true =>
      rw [hb] at h
      have : j = id := Nat.eq_of_beq_eq_true hb
      simp only [Option.some.injEq] at h
      subst h
      rw [if_pos this.symm]; exact k
    | false =>
      rw [hb] at h
      have hne : id ≠ j := fun he => by subst he; simp at hb
      rw [if_neg hne]; exact interp_exit h k
theorem interp_out {P : Program} {Q : Exit → Act → World → Prop} {id : Nat} {a : Act} {w : World} : ∀ {ks : List Kt}, exitK id ks = none → Q (.exit id) a w → interp κ P ks Q (.exit id) a w
  | [], _, k => k
  | .code c :: ks, h, k => by
    simp only [exitK] at h
    show interp κ P ks Q (.exit id) a w
    exact interp_out h k
  | .block j :: ks, h, k => by
    simp only [exitK] at h
    show (if id = j then interp κ P ks Q .normal a w else interp κ P ks Q (.exit id) a w)
    cases hb : Nat.beq j id with
    | true => rw [hb] at h; simp at h
    | false =>
      rw [hb] at h
      have hne : id ≠ j := fun he => by subst he; simp at hb
      rw [if_neg hne]; exact interp_out h k
theorem interp_ret {P : Program} {Q : Exit → Act → World → Prop} {a : Act} {w : World} : ∀ {ks : List Kt}, Q .ret a w → interp κ P ks Q .ret a w
  | [], k => k
  | .code c :: ks, k => by show interp κ P ks Q .ret a w; exact interp_ret k
  | .block j :: ks, k => by show interp κ P ks Q .ret a w; exact interp_ret k
theorem interp_panic {P : Program} {Q : Exit → Act → World → Prop} {c : List PanicEntry} {a : Act} {w : World} : ∀ {ks : List Kt}, Q (.panic c) a w → interp κ P ks Q (.panic c) a w
  | [], k => k
  | .code c :: ks, k => by show interp κ P ks Q (.panic _) a w; exact interp_panic k
  | .block j :: ks, k => by show interp κ P ks Q (.panic _) a w; exact interp_panic k
section
variable {β : Type} (κ : Option Nat) (P : Program)
def GL (ops : Array Oper) (l : List Oper) (ks : List Kt) (Q : Exit → Act → World → Prop) (A : Act → World → Prop) (m : Option β) (r : β) : Prop :=
  m = some r → ∀ a w, A a w → wpL κ P ops (interp κ P ks Q) l a w
def GC (c : Code) (ks : List Kt) (Q : Exit → Act → World → Prop) (A : Act → World → Prop) (m : Option β) (r : β) : Prop :=
  m = some r → ∀ a w, A a w → c.wpIn (fen κ) 0 P (interp κ P ks Q) a w
def GE (ks : List Kt) (Q : Exit → Act → World → Prop) (A : Act → World → Prop) (m : Option β) (r : β) : Prop :=
  m = some r → ∀ a w, A a w → interp κ P ks Q .normal a w
end
section
variable {β : Type} {P : Program} {ops : Array Oper} {l rest : List Oper} {ks : List Kt} {Q : Exit → Act → World → Prop} {A A' : Act → World → Prop} {m : Option β} {r : β}
theorem GC.seq {x y : Code} (h : GC κ P x (.code y :: ks) Q A m r) : GC κ P (.seq x y) ks Q A m r :=
  fun hm a w ha => wpIn_seq (h hm a w ha)
theorem GC.block {id : Nat} {c : Code} (h : GC κ P c (.block id :: ks) Q A m r) : GC κ P (.block id c) ks Q A m r :=
  fun hm a w ha => wpIn_block (h hm a w ha)
theorem GC.skip (h : GE κ P ks Q A m r) : GC κ P .skip ks Q A m r := fun hm a w ha => wpIn_skip (h hm a w ha)
theorem GC.exit {id : Nat} {ks' : List Kt} (hk : exitK id ks = some ks') (h : GE κ P ks' Q A m r) : GC κ P (.exit id) ks Q A m r :=
  fun hm a w ha => wpIn_exit (interp_exit hk (h hm a w ha))
theorem GC.exitOut {id : Nat} (hk : exitK id ks = none) (h : m = some r → ∀ a w, A a w → Q (.exit id) a w) : GC κ P (.exit id) ks Q A m r :=
  fun hm a w ha => wpIn_exit (interp_out hk (h hm a w ha))
theorem GC.retQ (h : m = some r → ∀ a w, A a w → Q .ret a w) : GC κ P .ret ks Q A m r :=
  fun hm a w ha => wpIn_ret (interp_ret (h hm a w ha))
theorem GE.code {c : Code} (h : GC κ P c ks Q A m r) : GE κ P (.code c :: ks) Q A m r := h
theorem GE.block {id : Nat} (h : GE κ P ks Q A m r) : GE κ P (.block id :: ks) Q A m r := h
theorem GE.nil (h : m = some r → ∀ a w, A a w → Q .normal a w) : GE κ P [] Q A m r := h
theorem GC.region {id : Nat} {l : List Oper} (h : GL κ P l.toArray l ks Q A m r) : GC κ P (.region id l.toArray false) ks Q A m r :=
  fun hm a w ha => wpIn_region_lit (h hm a w ha).wpIn
theorem GL.nil (h : GE κ P ks Q A m r) : GL κ P ops [] ks Q A m r := h
theorem GC.cond {S : List (Nat × Value)} {n : Nat} {D : List Deferred} {F : Fz} {hs : List HP} {c : Operand} {x y : Code} {b : Bool} {m1 m2 : Option β} (hc : evalS S c = some (.bool b))
    (h1 : b = true → GC κ P x ks Q (Hd n D S F hs) m1 r) (h2 : b = false → GC κ P y ks Q (Hd n D S F hs) m2 r) : GC κ P (.cond c x y) ks Q (Hd n D S F hs) (if b then m1 else m2) r := by
  intro hm a w ha
  cases hb : b with
  | true => rw [hb] at hc; rw [hb, if_pos rfl] at hm; exact wpIn_cond_true (ha.1.eval hc) (h1 hb hm a w ha)
  | false => rw [hb] at hc; rw [hb, if_neg (by simp)] at hm; exact wpIn_cond_false (ha.1.eval hc) (h2 hb hm a w ha)
theorem GC.condT {S : List (Nat × Value)} {n : Nat} {D : List Deferred} {F : Fz} {hs : List HP} {c : Operand} {x y : Code} (hc : evalS S c = some (.bool true))
    (h1 : GC κ P x ks Q (Hd n D S F hs) m r) : GC κ P (.cond c x y) ks Q (Hd n D S F hs) m r :=
  fun hm a w ha => wpIn_cond_true (ha.1.eval hc) (h1 hm a w ha)
theorem GC.condF {S : List (Nat × Value)} {n : Nat} {D : List Deferred} {F : Fz} {hs : List HP} {c : Operand} {x y : Code} (hc : evalS S c = some (.bool false))
    (h1 : GC κ P y ks Q (Hd n D S F hs) m r) : GC κ P (.cond c x y) ks Q (Hd n D S F hs) m r :=
  fun hm a w ha => wpIn_cond_false (ha.1.eval hc) (h1 hm a w ha)
theorem GC.weak {c : Code} (h : ∀ a w, A a w → A' a w) (k : GC κ P c ks Q A' m r) : GC κ P c ks Q A m r := fun hm a w ha => k hm a w (h a w ha)
theorem GE.weak (h : ∀ a w, A a w → A' a w) (k : GE κ P ks Q A' m r) : GE κ P ks Q A m r := fun hm a w ha => k hm a w (h a w ha)
theorem GL.weak (h : ∀ a w, A a w → A' a w) (k : GL κ P ops l ks Q A' m r) : GL κ P ops l ks Q A m r := fun hm a w ha => k hm a w (h a w ha)
section
variable {S S' : List (Nat × Value)} {n : Nat} {D : List Deferred} {F F' : Fz} {hs hs' : List HP}
theorem GE.keep (s : Sub S' S) (k : GE κ P ks Q (Hd n D S' F hs) m r) : GE κ P ks Q (Hd n D S F hs) m r := GE.weak (fun _ _ h => ⟨h.1.sub s, h.2⟩) k
theorem GC.keep {c : Code} (s : Sub S' S) (k : GC κ P c ks Q (Hd n D S' F hs) m r) : GC κ P c ks Q (Hd n D S F hs) m r := GC.weak (fun _ _ h => ⟨h.1.sub s, h.2⟩) k
theorem GE.drop (i : Nat) (k : GE κ P ks Q (Hd n D S F (hs.eraseIdx i)) m r) : GE κ P ks Q (Hd n D S F hs) m r := GE.weak (fun _ _ h => ⟨h.1, h.2.eraseAt i⟩) k
theorem GL.drop (i : Nat) (k : GL κ P ops l ks Q (Hd n D S F (hs.eraseIdx i)) m r) : GL κ P ops l ks Q (Hd n D S F hs) m r := GL.weak (fun _ _ h => ⟨h.1, h.2.eraseAt i⟩) k
theorem GL.freeze {b : Nat} {o : Obj} (i : Nat) (hk : hs[i]? = some (pt b o)) (k : ∀ F', F ≤ F' → F'.mem b = some o → GL κ P ops l ks Q (Hd n D S F' (hs.eraseIdx i)) m r) : GL κ P ops l ks Q (Hd n D S F hs) m r :=
  fun hm a w ha => by
    obtain ⟨h1, h2⟩ := SH.freezeAt hk ha.2
    exact k _ h1 (Fz.add_self F b o) hm a w ⟨ha.1, h2⟩
end
def bindv {α γ : Type} (x : α) (f : α → γ) : γ := f x
theorem GL.letv {α : Type} {x : α} {f : α → Option β} (h : ∀ y, y = x → GL κ P ops l ks Q A (f y) r) : GL κ P ops l ks Q A (bindv x f) r := h x rfl
theorem GL.letS {α : Type} {x : α} {f : α → Option β} (h : GL κ P ops l ks Q A (f x) r) : GL κ P ops l ks Q A (bindv x f) r := h
theorem GL.bind {α : Type} {e : Option α} {f : α → Option β} (h : ∀ y, e = some y → GL κ P ops l ks Q A (f y) r) : GL κ P ops l ks Q A (e.bind f) r :=
  fun hm => by
    cases e with
    | none => simp at hm
    | some y => exact h y rfl hm
end
inductive Ctl (σ β : Type) where
  | next (s : σ)
  | done (b : β)
def loopN {σ β : Type} (body : σ → Option (Ctl σ β)) : Nat → σ → Option β
  | 0, _ => none
  | n + 1, s => match body s with
    | none => none
    | some (.done b) => some b
    | some (.next s') => loopN body n s'
open Classical in
noncomputable def loopM {σ β : Type} (body : σ → Option (Ctl σ β)) (s : σ) : Option β :=
  if h : ∃ b n, loopN body n s = some b then some h.choose else none
theorem loopN_mono {σ β : Type} {body : σ → Option (Ctl σ β)} : ∀ {n k : Nat} {s : σ} {b : β}, n ≤ k → loopN body n s = some b → loopN body k s = some b
  | 0, _, _, _, _, h => by simp [loopN] at h
  | n + 1, 0, _, _, le, _ => by omega
  | n + 1, k + 1, s, b, le, h => by
    simp only [loopN] at h ⊢
    cases hb : body s with
    | none => rw [hb] at h; cases h
    | some c =>
      rw [hb] at h
      cases c with
      | done x => exact h
      | next s' => exact loopN_mono (Nat.le_of_succ_le_succ le) h
theorem loopM_of_N {σ β : Type} {body : σ → Option (Ctl σ β)} {n : Nat} {s : σ} {b : β} (h : loopN body n s = some b) : loopM body s = some b := by
  have he : ∃ b n, loopN body n s = some b := ⟨b, n, h⟩
  unfold loopM
  rw [dif_pos he]
  obtain ⟨k, hk⟩ := he.choose_spec
  have h1 := loopN_mono (Nat.le_max_left n k) h
  have h2 := loopN_mono (Nat.le_max_right n k) hk
  rw [h1] at h2
  exact h2.symm
theorem loopM_some {σ β : Type} {body : σ → Option (Ctl σ β)} {s : σ} {b : β} (h : loopM body s = some b) : ∃ n, loopN body n s = some b := by
  unfold loopM at h
  split at h
  · rename_i he
    simp only [Option.some.injEq] at h
    obtain ⟨n, hn⟩ := he.choose_spec
    exact ⟨n, h ▸ hn⟩
  · cases h
theorem loopM_eq {σ β : Type} (body : σ → Option (Ctl σ β)) (s : σ) : loopM body s = match body s with
    | none => none
    | some (.done b) => some b
    | some (.next s') => loopM body s' := by
  cases hb : body s with
  | none =>
    cases h : loopM body s with
    | none => rfl
    | some b =>
      obtain ⟨n, hn⟩ := loopM_some h
      cases n with
      | zero => simp [loopN] at hn
      | succ n => simp [loopN, hb] at hn
  | some c =>
    cases c with
    | done b => exact loopM_of_N (n := 1) (by simp [loopN, hb])
    | next s' =>
      show loopM body s = loopM body s'
      cases h : loopM body s' with
      | some b =>
        obtain ⟨n, hn⟩ := loopM_some h
        exact loopM_of_N (n := n + 1) (by simp only [loopN, hb]; exact hn)
      | none =>
        cases h2 : loopM body s with
        | none => rfl
        | some b =>
          obtain ⟨n, hn⟩ := loopM_some h2
          cases n with
          | zero => simp [loopN] at hn
          | succ n =>
            simp only [loopN, hb] at hn
            rw [loopM_of_N hn] at h; cases h
def LPost {σ β : Type} (I : σ → Act → World → Prop) (Dn : β → Exit → Act → World → Prop) (c : Ctl σ β) : Exit → Act → World → Prop := fun e a w =>
  match c with
  | .next s => e = .normal ∧ I s a w
  | .done b => e ≠ .normal ∧ Dn b e a w
theorem wp_loopN {σ β : Type} {P : Program} {c : Code} {body : σ → Option (Ctl σ β)} {I : σ → Act → World → Prop} {Dn : β → Exit → Act → World → Prop} {b : β}
    (round : ∀ s ctl, body s = some ctl → ∀ a w, I s a w → c.wpIn (fen κ) 0 P (LPost I Dn ctl) a w) : ∀ (n : Nat) (s : σ), loopN body n s = some b → ∀ a w, I s a w →
      ∀ (fr : Frame) (k : List Item) (cs : List Frame), fr.roundOf = (fen κ).round → ∃ e a' w', Dn b e a' w' ∧ ArrivesIn (Machine.fenced P (fen κ)) P (lone (fr.atR a (.code c :: .inLoop c :: k)) cs w) fr k cs e a' w'
  | 0, _, h, _, _, _, _, _, _, _ => by simp [loopN] at h
  | n + 1, s, h, a, w, hI, fr, k, cs, hro => by
    simp only [loopN] at h
    cases hb : body s with
    | none => rw [hb] at h; cases h
    | some ctl =>
      rw [hb] at h
      obtain ⟨e, a₁, w₁, hq, harr⟩ := round s ctl hb a w hI fr (.inLoop c :: k) cs hro (fen_fn κ _) (fen_room κ _)
      cases ctl with
      | next s' =>
        obtain ⟨rfl, hI'⟩ := hq
        obtain ⟨e₂, a₂, w₂, hq₂, harr₂⟩ := wp_loopN round n s' h a₁ w₁ hI' fr k cs hro
        exact ⟨e₂, a₂, w₂, hq₂, .of_steps (StepsIn.trans harr (.one (fenced_calm (n := 0) (fen_fn κ _) (fen_room κ _) rfl) stepR_inLoop)) harr₂⟩
      | done b' =>
        obtain ⟨hne, hq⟩ := hq
        simp only [Option.some.injEq] at h
        subst h
        refine ⟨e, a₁, w₁, hq, ?_⟩
        exact .pass (x := .inLoop c) rfl (fun _ _ => .inl hne) harr
section
variable {β : Type} {P : Program} {ks : List Kt} {Q : Exit → Act → World → Prop} {A : Act → World → Prop} {r : β}
theorem GC.loop {σ γ : Type} {c : Code} {body : σ → Option (Ctl σ γ)} {s0 : σ} {f : γ → Option β} (I : σ → Act → World → Prop) (Dn : γ → Exit → Act → World → Prop)
    (hI : ∀ a w, A a w → I s0 a w)
    (round : ∀ s ctl, GC κ P c [] (LPost I Dn ctl) (I s) (body s) ctl)
    (after : ∀ b, loopM body s0 = some b → f b = some r → ∀ e a w, Dn b e a w → interp κ P ks Q e a w) :
    GC κ P (.loop c) ks Q A ((loopM body s0).bind f) r := by
  intro hm a w ha
  cases hl : loopM body s0 with
  | none => rw [hl] at hm; cases hm
  | some b =>
    rw [hl] at hm
    obtain ⟨n, hn⟩ := loopM_some hl
    intro fr k cs hro hf hr
    obtain ⟨e, a', w', hq, harr⟩ := wp_loopN (Dn := Dn) (fun s ctl hs a w hI' => round s ctl hs a w hI') n s0 hn a w (hI a w ha) fr k cs hro
    exact ⟨e, a', w', after b hl hm e a' w' hq, .of_steps (.one (fenced_calm hf hr rfl) stepR_loop) harr⟩
theorem GC.join {σ γ : Type} {c : Code} {m0 : Option (Ctl σ γ)} {f : Ctl σ γ → Option β} (I : σ → Act → World → Prop) (Dn : γ → Exit → Act → World → Prop)
    (h : ∀ ctl, GC κ P c [] (LPost I Dn ctl) A m0 ctl)
    (next : ∀ s, m0 = some (.next s) → GE κ P ks Q (I s) (f (.next s)) r)
    (done : ∀ b, m0 = some (.done b) → f (.done b) = some r → ∀ e a w, Dn b e a w → interp κ P ks Q e a w) :
    GC κ P c ks Q A (m0.bind f) r := by
  intro hm a w ha
  cases hl : m0 with
  | none => rw [hl] at hm; cases hm
  | some ctl =>
    rw [hl] at hm
    refine wpIn_mono (h ctl hl a w ha) fun e a' w' hq => ?_
    cases ctl with
    | next s => obtain ⟨rfl, hq⟩ := hq; exact next s hl hm a' w' hq
    | done b => exact done b hl hm e a' w' hq.2
theorem GC.join0 {σ : Type} {c : Code} {m0 : Option σ} {f : σ → Option β} (I : σ → Act → World → Prop)
    (h : ∀ s, GC κ P c [] (fun e a w => e = .normal ∧ I s a w) A m0 s)
    (next : ∀ s, m0 = some s → GE κ P ks Q (I s) (f s) r) :
    GC κ P c ks Q A (m0.bind f) r := by
  intro hm a w ha
  cases hl : m0 with
  | none => rw [hl] at hm; cases hm
  | some s =>
    rw [hl] at hm
    refine wpIn_mono (h s hl a w ha) fun e a' w' hq => ?_
    obtain ⟨rfl, hq⟩ := hq
    exact next s hl hm a' w' hq
end
def CT {β : Type} (P : Program) (f : FuncId) (args : Array Value) (F : Fz) (H : HP) (m : Option β) (ρ : β → Fz → Value → Prop) (H' : β → Fz → Value → HP) : Prop :=
  ∀ r, m = some r → ∀ w R, SH w F (star H R) → Calls P f args w (fun e w' => ∃ F' v, F ≤ F' ∧ e = .returned v ∧ ρ r F' v ∧ SH w' F' (star (H' r F' v) R))
def CT0 {β : Type} (P : Program) (f : FuncId) (args : Array Value) (F : Fz) (m : Option β) (ρ : β → Fz → Value → Prop) : Prop :=
  ∀ r, m = some r → ∀ w R, SH w F R → Calls P f args w (fun e w' => ∃ F' v, F ≤ F' ∧ e = .returned v ∧ ρ r F' v ∧ SH w' F' R)
def argS : Nat → List Value → List (Nat × Value)
  | _, [] => []
  | i, v :: vs => (i, v) :: argS (i + 1) vs
theorem look_argS : ∀ {vs : List Value} {i j : Nat} {v : Value}, lookS (argS i vs) j = some v → i ≤ j ∧ vs[j - i]? = some v
  | [], _, _, _, h => by simp [argS, lookS] at h
  | x :: vs, i, j, v, h => by
    simp only [argS, lookS] at h
    cases hb : Nat.beq i j with
    | true =>
      rw [hb] at h
      have : i = j := Nat.eq_of_beq_eq_true hb
      subst this
      exact ⟨Nat.le_refl _, by simpa using h⟩
    | false =>
      rw [hb] at h
      obtain ⟨h1, h2⟩ := look_argS h
      refine ⟨by omega, ?_⟩
      rw [show j - i = (j - (i + 1)) + 1 by omega]; simpa using h2
def fnPost0 {β : Type} (P : Program) (fn : Func) (F : Fz) (R : HP) (ρ : β → Fz → Value → Prop) (r : β) : Exit → Act → World → Prop :=
  bodyPost P fn (fun e w' => ∃ F' v, F ≤ F' ∧ e = .returned v ∧ ρ r F' v ∧ SH w' F' R)
def fnPost {β : Type} (P : Program) (fn : Func) (F : Fz) (R : HP) (ρ : β → Fz → Value → Prop) (H' : β → Fz → Value → HP) (r : β) : Exit → Act → World → Prop :=
  bodyPost P fn (fun e w' => ∃ F' v, F ≤ F' ∧ e = .returned v ∧ ρ r F' v ∧ SH w' F' (star (H' r F' v) R))
theorem sl_enter {args : List Value} {n : Nat} (hn : Nat.ble args.length n = true) : Sl n [] (argS 0 args) { tmps := args.toArray ++ Array.replicate (n - args.toArray.size) undef, defers := [] } := by
  have hn' : args.length ≤ n := Nat.le_of_ble_eq_true hn
  refine ⟨by simp; omega, rfl, fun i v e => ?_⟩
  obtain ⟨_, h2⟩ := look_argS e
  simp only [Nat.sub_zero] at h2
  have hi : i < args.length := by
    rcases Nat.lt_or_ge i args.length with h | h
    · exact h
    · rw [List.getElem?_eq_none h] at h2; cases h2
  simp only [Array.getD_eq_getD_getElem?]
  rw [Array.getElem?_append_left (by simpa using hi)]
  simp [h2]
theorem CT0.enter {β : Type} {P : Program} {f : FuncId} {fn : Func} {c : Code} {args : List Value} {F : Fz} {m : Option β} {ρ : β → Fz → Value → Prop} {n : Nat}
    (hf : P.funcs[f]? = some fn) (hb : fn.body = some c) (hn : fn.ntmps = n) (ha : Nat.ble args.length n = true)
    (k : ∀ r R, GC none P c [] (fnPost0 P fn F R ρ r) (Hd n [] (argS 0 args) F [R]) m r) : CT0 P f args.toArray F m ρ := by
  intro r hm w R hw
  refine calls_of_wp hf hb (wpIn_wide.1 (k r R hm _ w ⟨?_, hw.one⟩))
  rw [hn]; exact sl_enter ha
theorem SH.two {w : World} {F : Fz} {p q : HP} (h : SH w F (star p q)) : SH w F (stars [p, q]) :=
  h.mono fun m hm => star_mono_right (fun m' hq => ⟨m', fun _ => none, fun _ => .inr rfl, Mem.sub.refl _, fun _ _ e => by simp at e, hq, trivial⟩) hm
theorem CT.enter {β : Type} {P : Program} {f : FuncId} {fn : Func} {c : Code} {args : List Value} {F : Fz} {H : HP} {m : Option β} {ρ : β → Fz → Value → Prop} {H' : β → Fz → Value → HP} {n : Nat}
    (hf : P.funcs[f]? = some fn) (hb : fn.body = some c) (hn : fn.ntmps = n) (ha : Nat.ble args.length n = true)
    (k : ∀ r R, GC none P c [] (fnPost P fn F R ρ H' r) (Hd n [] (argS 0 args) F [H, R]) m r) : CT P f args.toArray F H m ρ H' := by
  intro r hm w R hw
  refine calls_of_wp hf hb (wpIn_wide.1 (k r R hm _ w ⟨?_, hw.two⟩))
  rw [hn]; exact sl_enter ha
end Go.Dec
end

section
namespace Go.Dec
variable {κ : Option Nat}
theorem rUnd {P : Program} {t : TypeId} {d : TypeDesc} (h : P.underlying t = some d) (w : World) : (underlying t).run P w = .ok d w := by
  simp [underlying, h]
section
variable {β : Type} {P : Program} {ops : Array Oper} {rest : List Oper} {ks : List Kt} {Q : Exit → Act → World → Prop} {A : Act → World → Prop} {m : Option β} {r : β}
theorem GL.step {o : Oper} (hg : o.guard = none) (hnd : κ = none ∨ noDefer o.op = true) (h : m = some r → ∀ a w, A a w → ∃ v w', (execOp a.eval o).run P w = .ok (.value v) w' ∧ wpL κ P ops (interp κ P ks Q) rest (a.put o.dst v) w') :
    GL κ P ops (o :: rest) ks Q A m r := by
  intro hm a w ha
  obtain ⟨v, w', h1, h2⟩ := h hm a w ha
  unfold wpL
  rw [if_pos (by simp [Region.wanted, hg])]
  refine ⟨hnd, ?_⟩
  rw [h1]; exact h2
theorem GL.stepU {o : Oper} (hg : o.guard = none) (hnd : κ = none ∨ noDefer o.op = true) (h : m = some r → ∀ a w, A a w → ∃ w', (execOp a.eval o).run P w = .ok .skip w' ∧ wpL κ P ops (interp κ P ks Q) rest (a.put o.dst undef) w') :
    GL κ P ops (o :: rest) ks Q A m r := by
  intro hm a w ha
  obtain ⟨w', h1, h2⟩ := h hm a w ha
  unfold wpL
  rw [if_pos (by simp [Region.wanted, hg])]
  refine ⟨hnd, ?_⟩
  rw [h1]; exact h2
section
variable {n : Nat} {D : List Deferred} {S : List (Nat × Value)} {F : Fz} {hs : List HP}
theorem yielded_some {a : Act} {j t : Nat} {b : Bool} (hj : (ops[j]?).bind (·.dst) = some t) (hs : Sl n D S a) (hv : lookS S t = some (.bool b)) : yielded ops a.tmps j = some b := by
  have h := hs.2.2 t _ hv
  unfold yielded
  rw [hj]
  simp only [Option.bind_some]
  simp only [Array.getD_eq_getD_getElem?] at h
  cases e : a.tmps[t]? with
  | none => rw [e] at h; simp [undef] at h
  | some v => rw [e] at h; simp at h; subst h; rfl
theorem GL.on {dst : Option Tmp} {op : Op} {ty : TypeId} {pos : String} {after : Array Edge} {j t : Nat} {want : Bool} (hj : (ops[j]?).bind (·.dst) = some t) (hv : lookS S t = some (.bool want))
    (k : GL κ P ops (⟨dst, op, ty, pos, after, none⟩ :: rest) ks Q (Hd n D S F hs) m r) : GL κ P ops (⟨dst, op, ty, pos, after, some (j, want)⟩ :: rest) ks Q (Hd n D S F hs) m r := by
  intro hm a w ha
  have h := k hm a w ha
  have hy := yielded_some (ops := ops) hj ha.1 hv
  unfold wpL at h ⊢
  rw [if_pos (by simp [Region.wanted])] at h
  rw [if_pos (by simp [Region.wanted, hy])]
  exact h
def isNot : Value → Bool → Bool
  | .bool b, want => b != want
  | .tuple _, _ => true
  | _, _ => false
theorem GL.off {d : Nat} {op : Op} {ty : TypeId} {pos : String} {after : Array Edge} {j t : Nat} {want : Bool} {v : Value} (hd : Nat.blt d n = true) (hj : (ops[j]?).bind (·.dst) = some t) (hv : lookS S t = some v) (hx : isNot v want = true)
    (k : GL κ P ops rest ks Q (Hd n D ((d, undef) :: S) F hs) m r) : GL κ P ops (⟨some d, op, ty, pos, after, some (j, want)⟩ :: rest) ks Q (Hd n D S F hs) m r := by
  intro hm a w ha
  have hy : yielded ops a.tmps j ≠ some want := by
    have h := ha.1.2.2 t _ hv
    unfold yielded
    rw [hj]
    simp only [Option.bind_some]
    simp only [Array.getD_eq_getD_getElem?] at h
    cases e : a.tmps[t]? with
    | none => simp
    | some u =>
      rw [e] at h; simp at h; subst h
      cases u <;> simp [isNot] at hx ⊢
      exact hx
  unfold wpL
  rw [if_neg (by simp [Region.wanted, hy])]
  exact k hm _ w ⟨ha.1.put hd _, ha.2⟩
theorem GL.val {d : Nat} {op : Op} {ty : TypeId} {pos : String} {after : Array Edge} {v : Value} (hd : Nat.blt d n = true)
    (hrun : ∀ a w, Hd n D S F hs a w → (execOp a.eval ⟨some d, op, ty, pos, after, none⟩).run P w = .ok (.value v) w)
    (k : GL κ P ops rest ks Q (Hd n D ((d, v) :: S) F hs) m r) (hnd : noDefer op = true := by rfl) : GL κ P ops (⟨some d, op, ty, pos, after, none⟩ :: rest) ks Q (Hd n D S F hs) m r :=
  GL.step rfl (.inr hnd) fun hm a w ha => ⟨v, w, hrun a w ha, k hm _ w ⟨ha.1.put hd v, ha.2⟩⟩
section
variable {d : Nat} {ty t t' : TypeId} {pos : String} {after : Array Edge} {ox oy oz : Operand} {v u : Value} {kd : IntKind} {x y : Int}
theorem GL.move (hd : Nat.blt d n = true) (hx : evalS S ox = some v) (k : GL κ P ops rest ks Q (Hd n D ((d, v) :: S) F hs) m r) :
    GL κ P ops (⟨some d, .move ox, ty, pos, after, none⟩ :: rest) ks Q (Hd n D S F hs) m r :=
  GL.val hd (fun a w ha => by simp [execOp, ha.1.eval hx]) k
theorem GL.assign (hd : Nat.blt d n = true) (hx : evalS S ox = some v) (k : GL κ P ops rest ks Q (Hd n D ((d, v) :: S) F hs) m r) :
    GL κ P ops (⟨some d, .assign ox, ty, pos, after, none⟩ :: rest) ks Q (Hd n D S F hs) m r :=
  GL.val hd (fun a w ha => by simp [execOp, ha.1.eval hx]) k
theorem GL.assignL {f : Int → Option β} (hd : Nat.blt d n = true) (hx : evalS S ox = some (.int kd x)) (k : ∀ y, y = x → GL κ P ops rest ks Q (Hd n D ((d, .int kd y) :: S) F hs) (f y) r) :
    GL κ P ops (⟨some d, .assign ox, ty, pos, after, none⟩ :: rest) ks Q (Hd n D S F hs) (bindv x f) r := GL.assign hd hx (k x rfl)
theorem GL.pickT (hd : Nat.blt d n = true) (hz : evalS S oz = some (.bool true)) (hx : evalS S ox = some v) (k : GL κ P ops rest ks Q (Hd n D ((d, v) :: S) F hs) m r) :
    GL κ P ops (⟨some d, .pick oz ox oy, ty, pos, after, none⟩ :: rest) ks Q (Hd n D S F hs) m r :=
  GL.val hd (fun a w ha => by simp [execOp, ha.1.eval hx, ha.1.eval hz, asBool]) k
theorem GL.pickF (hd : Nat.blt d n = true) (hz : evalS S oz = some (.bool false)) (hy : evalS S oy = some v) (k : GL κ P ops rest ks Q (Hd n D ((d, v) :: S) F hs) m r) :
    GL κ P ops (⟨some d, .pick oz ox oy, ty, pos, after, none⟩ :: rest) ks Q (Hd n D S F hs) m r :=
  GL.val hd (fun a w ha => by simp [execOp, ha.1.eval hy, ha.1.eval hz, asBool]) k
theorem GL.add (hd : Nat.blt d n = true) (hx : evalS S ox = some (.int kd x)) (hy : evalS S oy = some (.int kd y)) (k : GL κ P ops rest ks Q (Hd n D ((d, .int kd (kd.wrap (x + y))) :: S) F hs) m r) :
    GL κ P ops (⟨some d, .binOp .add t ox oy t', ty, pos, after, none⟩ :: rest) ks Q (Hd n D S F hs) m r :=
  GL.val hd (fun a w ha => by simp [execOp, ha.1.eval hx, ha.1.eval hy, eqGuard, binOp, Op.intArith]) k
theorem GL.sub (hd : Nat.blt d n = true) (hx : evalS S ox = some (.int kd x)) (hy : evalS S oy = some (.int kd y)) (k : GL κ P ops rest ks Q (Hd n D ((d, .int kd (kd.wrap (x - y))) :: S) F hs) m r) :
    GL κ P ops (⟨some d, .binOp .sub t ox oy t', ty, pos, after, none⟩ :: rest) ks Q (Hd n D S F hs) m r :=
  GL.val hd (fun a w ha => by simp [execOp, ha.1.eval hx, ha.1.eval hy, eqGuard, binOp, Op.intArith]) k
theorem GL.mul (hd : Nat.blt d n = true) (hx : evalS S ox = some (.int kd x)) (hy : evalS S oy = some (.int kd y)) (k : GL κ P ops rest ks Q (Hd n D ((d, .int kd (kd.wrap (x * y))) :: S) F hs) m r) :
    GL κ P ops (⟨some d, .binOp .mul t ox oy t', ty, pos, after, none⟩ :: rest) ks Q (Hd n D S F hs) m r :=
  GL.val hd (fun a w ha => by simp [execOp, ha.1.eval hx, ha.1.eval hy, eqGuard, binOp, Op.intArith]) k
theorem GL.quoC (hd : Nat.blt d n = true) (h0 : y ≠ 0) (hx : evalS S ox = some (.int kd x)) (hy : evalS S oy = some (.int kd y)) (k : GL κ P ops rest ks Q (Hd n D ((d, .int kd (kd.wrap (x.tdiv y))) :: S) F hs) m r) :
    GL κ P ops (⟨some d, .binOp .quo t ox oy t', ty, pos, after, none⟩ :: rest) ks Q (Hd n D S F hs) m r :=
  GL.val hd (fun a w ha => by simp [execOp, ha.1.eval hx, ha.1.eval hy, eqGuard, binOp, Op.intDiv, h0]) k
theorem GL.remC (hd : Nat.blt d n = true) (h0 : y ≠ 0) (hx : evalS S ox = some (.int kd x)) (hy : evalS S oy = some (.int kd y)) (k : GL κ P ops rest ks Q (Hd n D ((d, .int kd (x.tmod y)) :: S) F hs) m r) :
    GL κ P ops (⟨some d, .binOp .rem t ox oy t', ty, pos, after, none⟩ :: rest) ks Q (Hd n D S F hs) m r :=
  GL.val hd (fun a w ha => by simp [execOp, ha.1.eval hx, ha.1.eval hy, eqGuard, binOp, Op.intDiv, h0]) k
theorem GL.eql (hd : Nat.blt d n = true) (hx : evalS S ox = some (.int kd x)) (hy : evalS S oy = some (.int kd y)) (k : GL κ P ops rest ks Q (Hd n D ((d, .bool (x == y)) :: S) F hs) m r) :
    GL κ P ops (⟨some d, .binOp .eql t ox oy t', ty, pos, after, none⟩ :: rest) ks Q (Hd n D S F hs) m r :=
  GL.val hd (fun a w ha => by simp [execOp, ha.1.eval hx, ha.1.eval hy, eqGuard, binOp, Op.intCmp]) k
theorem GL.neq (hd : Nat.blt d n = true) (hx : evalS S ox = some (.int kd x)) (hy : evalS S oy = some (.int kd y)) (k : GL κ P ops rest ks Q (Hd n D ((d, .bool (x != y)) :: S) F hs) m r) :
    GL κ P ops (⟨some d, .binOp .neq t ox oy t', ty, pos, after, none⟩ :: rest) ks Q (Hd n D S F hs) m r :=
  GL.val hd (fun a w ha => by simp [execOp, ha.1.eval hx, ha.1.eval hy, eqGuard, binOp, Op.intCmp]) k
theorem GL.lss (hd : Nat.blt d n = true) (hx : evalS S ox = some (.int kd x)) (hy : evalS S oy = some (.int kd y)) (k : GL κ P ops rest ks Q (Hd n D ((d, .bool (decide (x < y))) :: S) F hs) m r) :
    GL κ P ops (⟨some d, .binOp .lss t ox oy t', ty, pos, after, none⟩ :: rest) ks Q (Hd n D S F hs) m r :=
  GL.val hd (fun a w ha => by simp [execOp, ha.1.eval hx, ha.1.eval hy, eqGuard, binOp, Op.intCmp]) k
theorem GL.leq (hd : Nat.blt d n = true) (hx : evalS S ox = some (.int kd x)) (hy : evalS S oy = some (.int kd y)) (k : GL κ P ops rest ks Q (Hd n D ((d, .bool (decide (x ≤ y))) :: S) F hs) m r) :
    GL κ P ops (⟨some d, .binOp .leq t ox oy t', ty, pos, after, none⟩ :: rest) ks Q (Hd n D S F hs) m r :=
  GL.val hd (fun a w ha => by simp [execOp, ha.1.eval hx, ha.1.eval hy, eqGuard, binOp, Op.intCmp]) k
theorem GL.gtr (hd : Nat.blt d n = true) (hx : evalS S ox = some (.int kd x)) (hy : evalS S oy = some (.int kd y)) (k : GL κ P ops rest ks Q (Hd n D ((d, .bool (decide (x > y))) :: S) F hs) m r) :
    GL κ P ops (⟨some d, .binOp .gtr t ox oy t', ty, pos, after, none⟩ :: rest) ks Q (Hd n D S F hs) m r :=
  GL.val hd (fun a w ha => by simp [execOp, ha.1.eval hx, ha.1.eval hy, eqGuard, binOp, Op.intCmp]) k
theorem GL.geq (hd : Nat.blt d n = true) (hx : evalS S ox = some (.int kd x)) (hy : evalS S oy = some (.int kd y)) (k : GL κ P ops rest ks Q (Hd n D ((d, .bool (decide (x ≥ y))) :: S) F hs) m r) :
    GL κ P ops (⟨some d, .binOp .geq t ox oy t', ty, pos, after, none⟩ :: rest) ks Q (Hd n D S F hs) m r :=
  GL.val hd (fun a w ha => by simp [execOp, ha.1.eval hx, ha.1.eval hy, eqGuard, binOp, Op.intCmp]) k
def andK (kd : IntKind) (x y : Int) : Int := kd.wrap (BitVec.ofInt kd.bits x &&& BitVec.ofInt kd.bits y).toNat
def shrK (kd : IntKind) (x y : Int) : Int := x.fdiv (2 ^ (min y.toNat kd.bits))
theorem GL.andI (hd : Nat.blt d n = true) (hx : evalS S ox = some (.int kd x)) (hy : evalS S oy = some (.int kd y)) (k : GL κ P ops rest ks Q (Hd n D ((d, .int kd (andK kd x y)) :: S) F hs) m r) :
    GL κ P ops (⟨some d, .binOp .and t ox oy t', ty, pos, after, none⟩ :: rest) ks Q (Hd n D S F hs) m r :=
  GL.val hd (fun a w ha => by simp [execOp, ha.1.eval hx, ha.1.eval hy, eqGuard, binOp, Op.intBits, andK]) k
theorem GL.shrC {kd' : IntKind} (hd : Nat.blt d n = true) (h0 : ¬ y < 0) (hx : evalS S ox = some (.int kd x)) (hy : evalS S oy = some (.int kd' y)) (k : GL κ P ops rest ks Q (Hd n D ((d, .int kd (shrK kd x y)) :: S) F hs) m r) :
    GL κ P ops (⟨some d, .binOp .shr t ox oy t', ty, pos, after, none⟩ :: rest) ks Q (Hd n D S F hs) m r :=
  GL.val hd (fun a w ha => by simp [execOp, ha.1.eval hx, ha.1.eval hy, eqGuard, binOp, Op.shift, h0, shrK]) k
theorem GL.not {b : Bool} (hd : Nat.blt d n = true) (hx : evalS S ox = some (.bool b)) (k : GL κ P ops rest ks Q (Hd n D ((d, .bool (!b)) :: S) F hs) m r) :
    GL κ P ops (⟨some d, .unOp .not t ox, ty, pos, after, none⟩ :: rest) ks Q (Hd n D S F hs) m r :=
  GL.val hd (fun a w ha => by simp [execOp, ha.1.eval hx, Op.unary]) k
theorem GL.convI {ds : TypeDesc} {kd' : IntKind} (hd : Nat.blt d n = true) (h1 : P.underlying t = some ds) (h2 : P.underlying t' = some (.int kd')) (hx : evalS S ox = some (.int kd x)) (k : GL κ P ops rest ks Q (Hd n D ((d, .int kd' (kd'.wrap x)) :: S) F hs) m r) :
    GL κ P ops (⟨some d, .convert t t' ox, ty, pos, after, none⟩ :: rest) ks Q (Hd n D S F hs) m r :=
  GL.val hd (fun a w ha => by
    simp only [execOp, ha.1.eval hx, convert, Sem.run_bind, rUnd h1, rUnd h2, Result.andThen]
    cases ds <;> simp [Conv.intToInt]) k
theorem GL.extract {i : Nat} {vs : Array Value} (hd : Nat.blt d n = true) (hx : evalS S ox = some (.tuple vs)) (hi : vs[i]? = some v) (k : GL κ P ops rest ks Q (Hd n D ((d, v) :: S) F hs) m r) :
    GL κ P ops (⟨some d, .extract ox i, ty, pos, after, none⟩ :: rest) ks Q (Hd n D S F hs) m r :=
  GL.val hd (fun a w ha => by simp [execOp, ha.1.eval hx, Instr.extract, hi]) k
def evalL (S : List (Nat × Value)) : List Operand → Option (List Value)
  | [] => some []
  | o :: os => match evalS S o with
    | some v => match evalL S os with
      | some vs => some (v :: vs)
      | none => none
    | none => none
theorem evalL_map {a : Act} (hs : Sl n D S a) : ∀ {os : List Operand} {vs : List Value}, evalL S os = some vs → os.map a.eval = vs
  | [], vs, h => by simp [evalL] at h; simp [h]
  | o :: os, vs, h => by
    simp only [evalL] at h
    cases e : evalS S o with
    | none => rw [e] at h; cases h
    | some v =>
      rw [e] at h
      cases e2 : evalL S os with
      | none => rw [e2] at h; cases h
      | some us =>
        rw [e2] at h
        simp only [Option.some.injEq] at h
        subst h
        simp [hs.eval e, evalL_map hs e2]
theorem GL.makeFunc {fn : Fn} {caps : List Operand} {vs : List Value} (hd : Nat.blt d n = true) (hx : evalL S caps = some vs) (k : GL κ P ops rest ks Q (Hd n D ((d, .func fn #[] vs.toArray) :: S) F hs) m r) :
    GL κ P ops (⟨some d, .makeFunc fn #[] caps.toArray, ty, pos, after, none⟩ :: rest) ks Q (Hd n D S F hs) m r :=
  GL.val hd (fun a w ha => by simp [execOp, Instr.makeFunc, evalL_map ha.1 hx]) k
def evalP (S : List (Nat × Value)) : List (Nat × Operand) → Option (List (Nat × Value))
  | [] => some []
  | (i, o) :: os => match evalS S o with
    | some v => match evalP S os with
      | some vs => some ((i, v) :: vs)
      | none => none
    | none => none
theorem evalP_map {a : Act} (hs : Sl n D S a) : ∀ {os : List (Nat × Operand)} {vs : List (Nat × Value)}, evalP S os = some vs → os.map (fun p => (p.1, a.eval p.2)) = vs
  | [], vs, h => by simp [evalP] at h; simp [h]
  | (i, o) :: os, vs, h => by
    simp only [evalP] at h
    cases e : evalS S o with
    | none => rw [e] at h; cases h
    | some v =>
      rw [e] at h
      cases e2 : evalP S os with
      | none => rw [e2] at h; cases h
      | some us =>
        rw [e2] at h
        simp only [Option.some.injEq] at h
        subst h
        simp [hs.eval e, evalP_map hs e2]
def Places (P : Program) (fs : Array Field) (pl : Array (Nat × Nat)) : Prop := ∀ w, (fs.mapM fun f => do pure (f.offset, ← sizeOf f.type) : Sem (Array (Nat × Nat))).run P w = .ok pl w
theorem GL.build {fs : Array Field} {pl : Array (Nat × Nat)} {zc cs : Array Value} {z : Value} {parts : List (Nat × Operand)} {ps : List (Nat × Value)} (hd : Nat.blt d n = true) (ht : P.underlying t = some (.struct fs)) (hz : ∀ w, (zeroValue t).run P w = .ok z w) (hpl : Places P fs pl)
    (hx : evalP S parts = some ps) (hc : z.cells = zc) (hi : Instr.fill (pl[·]?) zc ps = some cs) (k : GL κ P ops rest ks Q (Hd n D ((d, .agg cs) :: S) F hs) m r) :
    GL κ P ops (⟨some d, .build t parts.toArray, ty, pos, after, none⟩ :: rest) ks Q (Hd n D S F hs) m r :=
  GL.val hd (fun a w ha => by
    have hm := evalP_map ha.1 hx
    subst hc
    simp only [execOp, Instr.build, Sem.run_bind, hz, Result.andThen, rUnd ht, hpl w]
    simp [hm, hi]) k
theorem GL.makeIface (hd : Nat.blt d n = true) (hc : P.concrete t = true) (hx : evalS S ox = some v) (k : GL κ P ops rest ks Q (Hd n D ((d, .iface t v) :: S) F hs) m r) :
    GL κ P ops (⟨some d, .makeInterface t ox, ty, pos, after, none⟩ :: rest) ks Q (Hd n D S F hs) m r :=
  GL.val hd (fun a w ha => by simp [execOp, ha.1.eval hx, run_makeInterface w t v hc]) k
theorem add_addr (b o z : Nat) : (⟨b, o, none⟩ : Addr).add z = ⟨b, o + z, none⟩ := by
  unfold Addr.add; split
  · rename_i h; subst h; rfl
  · rfl
theorem GL.fieldAddr {i b o z : Nat} {fs : Array Field} {f : Field} (hd : Nat.blt d n = true) (ht : P.underlying t = some (.struct fs)) (hf : fs[i]? = some f) (hz : ∀ w, (sizeOf f.type).run P w = .ok (z + 1) w)
    (hx : evalS S ox = some (.pointer (some ⟨b, o, none⟩))) (k : GL κ P ops rest ks Q (Hd n D ((d, .pointer (some ⟨b, o + f.offset, none⟩)) :: S) F hs) m r) :
    GL κ P ops (⟨some d, .fieldAddr t ox i, ty, pos, after, none⟩ :: rest) ks Q (Hd n D S F hs) m r :=
  GL.val hd (fun a w ha => by simp [execOp, ha.1.eval hx, Instr.fieldAt, rUnd ht, hf, Instr.sureAddr, fieldPlace, hz, add_addr]) k
def idxO (n : Nat) (i : Int) : Option Nat := if 0 ≤ i ∧ i < n then some i.toNat else none
theorem idxO_some {n k : Nat} {i : Int} (h : idxO n i = some k) : 0 ≤ i ∧ i < n ∧ k = i.toNat ∧ k < n := by
  unfold idxO at h
  split at h
  · rename_i hh; simp only [Option.some.injEq] at h; subst h; omega
  · cases h
theorem GL.indexAddrA {len e b o z j : Nat} (hd : Nat.blt d n = true) (ht : P.underlying t = some (.array len e)) (hz : ∀ w, (sizeOf e).run P w = .ok z w)
    (hx : evalS S ox = some (.pointer (some ⟨b, o, none⟩))) (hy : evalS S oy = some (.int kd x)) (hj : idxO len x = some j) (k : GL κ P ops rest ks Q (Hd n D ((d, .pointer (some ⟨b, o + j * z, none⟩)) :: S) F hs) m r) :
    GL κ P ops (⟨some d, .indexAddr t ox oy, ty, pos, after, none⟩ :: rest) ks Q (Hd n D S F hs) m r :=
  GL.val hd (fun a w ha => by
    obtain ⟨h0, h1, h2, _⟩ := idxO_some hj
    subst h2
    simp [execOp, ha.1.eval hx, ha.1.eval hy, Instr.indexAt, asIntOf, rUnd ht, Instr.sureAddr, h0, h1, hz, add_addr]) k
theorem GL.indexAddrS {len cap e b o z j : Nat} (hd : Nat.blt d n = true) (ht : P.underlying t = some (.slice e)) (hz : ∀ w, (sizeOf e).run P w = .ok z w)
    (hx : evalS S ox = some (.slice (some ⟨b, o, none⟩) len cap)) (hy : evalS S oy = some (.int kd x)) (hj : idxO len x = some j) (k : GL κ P ops rest ks Q (Hd n D ((d, .pointer (some ⟨b, o + j * z, none⟩)) :: S) F hs) m r) :
    GL κ P ops (⟨some d, .indexAddr t ox oy, ty, pos, after, none⟩ :: rest) ks Q (Hd n D S F hs) m r :=
  GL.val hd (fun a w ha => by
    obtain ⟨h0, h1, h2, _⟩ := idxO_some hj
    subst h2
    simp [execOp, ha.1.eval hx, ha.1.eval hy, Instr.indexAt, asIntOf, rUnd ht, h0, h1, hz, add_addr]) k
theorem GL.lenS {e len cap : Nat} {p : Option Addr} {T : Array TypeId} (hd : Nat.blt d n = true) (hT : T[0]? = some t) (ht : P.underlying t = some (.slice e)) (hx : evalS S ox = some (.slice p len cap)) (k : GL κ P ops rest ks Q (Hd n D ((d, .int .i64 len) :: S) F hs) m r) :
    GL κ P ops (⟨some d, .call ⟨.builtin .len, #[ox], T⟩, ty, pos, after, none⟩ :: rest) ks Q (Hd n D S F hs) m r :=
  GL.val hd (fun a w ha => by simp [execOp, resolve, invoke, builtin, Builtin.len_, ha.1.eval hx, hT, rUnd ht, goInt]) k
theorem GL.min2 {T : Array TypeId} (hd : Nat.blt d n = true) (hx : evalS S ox = some (.int kd x)) (hy : evalS S oy = some (.int kd y)) (k : GL κ P ops rest ks Q (Hd n D ((d, .int kd (if y < x then y else x)) :: S) F hs) m r) :
    GL κ P ops (⟨some d, .call ⟨.builtin .min, #[ox, oy], T⟩, ty, pos, after, none⟩ :: rest) ks Q (Hd n D S F hs) m r :=
  GL.val hd (fun a w ha => by simp [execOp, resolve, invoke, builtin, Builtin.min_, Builtin.min2, ha.1.eval hx, ha.1.eval hy]) k
end
end
end
end Go.Dec
end

section
namespace Go.Dec
variable {κ : Option Nat}
theorem cell_of_heap {w : World} {b : Nat} {cs : List Value} {T : TypeId} {fr : Nat × Nat} (h : w.heap[b]? = some (.cells cs.toArray T fr)) (o : Nat) : w.cell? ⟨b, o, none⟩ = cs[o]? := by
  simp [World.cell?, h]
theorem frozen_of_heap {w : World} {b : Nat} {cs : Array Value} {T : TypeId} (h : w.heap[b]? = some (.cells cs T (0, 0))) (o : Nat) : w.frozen? ⟨b, o, none⟩ = false := by
  simp [World.frozen?, h]
theorem setCell_put {w : World} {b o : Nat} {cs : List Value} {T : TypeId} {fr : Nat × Nat} {v : Value} (h : w.heap[b]? = some (.cells cs.toArray T fr)) : w.setCell ⟨b, o, none⟩ v = put w b (.cells (cs.set o v).toArray T fr) := by
  have hlt := lt_of_heap h
  unfold World.setCell put
  congr 1
  apply Array.ext_getElem?
  intro k
  rw [Array.getElem?_modify]
  by_cases hk : b = k
  · subst hk
    have e : w.heap[b] = .cells cs.toArray T fr := by simpa [hlt] using h
    simp [hlt, e]
  · simp [hk]
theorem put_put (w : World) (b : Nat) (x y : Obj) : put (put w b x) b y = put w b y := by
  simp [put]
theorem put_self {w : World} {b : Nat} {o : Obj} (h : w.heap[b]? = some o) : put w b o = w := by
  have hlt := lt_of_heap h
  unfold put
  congr 1
  apply Array.ext_getElem?
  intro k
  by_cases hk : b = k
  · subst hk
    have e : w.heap[b] = o := by simpa [hlt] using h
    simp [hlt, e]
  · simp [hk]
def setMany : List Value → Nat → List Value → List Value
  | cs, _, [] => cs
  | cs, o, v :: vs => setMany (cs.set o v) (o + 1) vs
theorem length_setMany : ∀ (cs : List Value) (o : Nat) (vs : List Value), (setMany cs o vs).length = cs.length
  | _, _, [] => rfl
  | cs, o, v :: vs => by simp [setMany, length_setMany]
theorem run_storeCells {P : Program} {b o T : Nat} : ∀ {vs : List Value} {cs : List Value} {i : Nat} {w : World}, w.heap[b]? = some (.cells cs.toArray T (0, 0)) → o + i + vs.length ≤ cs.length → vs.all Value.oneCell' = true →
    (storeCells ⟨b, o, none⟩ vs i).run P w = .ok () (put w b (.cells (setMany cs (o + i) vs).toArray T (0, 0)))
  | [], cs, i, w, h, _, _ => by simp [storeCells, setMany, put_self h]
  | v :: vs, cs, i, w, h, hl, hv => by
    simp only [List.all_cons, Bool.and_eq_true] at hv
    simp only [List.length_cons] at hl
    have hc : w.cell? ⟨b, o + i, none⟩ = some cs[o + i] := by rw [cell_of_heap h]; simp
    simp only [storeCells, Sem.run_bind, add_addr, run_store P w _ v .plain hv.1, hc, frozen_of_heap h, Bool.false_eq_true, if_false, Result.andThen, setCell_put h]
    rw [run_storeCells (cs := cs.set (o + i) v) (heap_put_same h) (by simp; omega) hv.2, put_put]
    simp [setMany, Nat.add_assoc]
theorem run_loadCells' {P : Program} {b o T : Nat} {cs : List Value} {fr : Nat × Nat} {w : World} {z : Nat} {vs : List Value} (h : w.heap[b]? = some (.cells cs.toArray T fr)) (hv : (cs.drop o).take z = vs) (hz : vs.length = z) : (loadCells ⟨b, o, none⟩ z).run P w = .ok vs.toArray w := by
  subst hz
  refine run_loadCells_list w ⟨b, o, none⟩ vs fun j v e => ?_
  rw [add_addr, cell_of_heap h]
  have e' := e
  rw [← hv] at e
  rw [List.getElem?_take, List.getElem?_drop] at e
  split at e
  · exact e
  · cases e
section
variable {β : Type} {P : Program} {ops : Array Oper} {rest : List Oper} {ks : List Kt} {Q : Exit → Act → World → Prop} {m : Option β} {r : β}
variable {n : Nat} {D : List Deferred} {S : List (Nat × Value)} {F : Fz} {hs : List HP}
variable {d : Nat} {ty t t' : TypeId} {pos : String} {after : Array Edge} {ox oy oz : Operand} {v u : Value} {kd : IntKind} {x y : Int}
theorem GL.alloc {z : Value} {cs : List Value} (hd : Nat.blt d n = true) (hz : ∀ w, (zeroValue t).run P w = .ok z w) (hc : z.cells = cs.toArray)
    (k : ∀ b, GL κ P ops rest ks Q (Hd n D ((d, .pointer (some ⟨b, 0, none⟩)) :: S) F (pt b (.cells cs.toArray t) :: hs)) m r) :
    GL κ P ops (⟨some d, .alloc t, ty, pos, after, none⟩ :: rest) ks Q (Hd n D S F hs) m r :=
  GL.step rfl (.inr rfl) fun hm a w ha => by
    refine ⟨.pointer (some ⟨w.heap.size, 0, none⟩), w.alloc (.cells cs.toArray t), ?_, k w.heap.size hm _ _ ⟨ha.1.put hd _, ha.2.alloc _⟩⟩
    simp [execOp, Instr.alloc, hz, newVar, newRow, hc]
theorem GL.boxF {cs : List Value} (hd : Nat.blt d n = true) (hx : evalS S ox = some v) (hc : v.cells = cs.toArray)
    (k : ∀ b F', F ≤ F' → F'.mem b = some (.cells cs.toArray t) → GL κ P ops rest ks Q (Hd n D ((d, .pointer (some ⟨b, 0, none⟩)) :: S) F' hs) m r) :
    GL κ P ops (⟨some d, .box t ox, ty, pos, after, none⟩ :: rest) ks Q (Hd n D S F hs) m r :=
  GL.step rfl (.inr rfl) fun hm a w ha => by
    obtain ⟨h1, h2⟩ := ha.2.allocF (.cells cs.toArray t)
    refine ⟨.pointer (some ⟨w.heap.size, 0, none⟩), w.alloc (.cells cs.toArray t), ?_, k w.heap.size _ h1 (Fz.add_self ..) hm _ _ ⟨ha.1.put hd _, h2⟩⟩
    simp [execOp, Instr.box, ha.1.eval hx, newVar, newRow, hc]
theorem run_load1 {P : Program} {t b o : Nat} {w : World} (hA : ∀ w, (isAgg t).run P w = .ok false w) (h : w.cell? ⟨b, o, none⟩ = some v) : (Instr.loadAt t (.pointer (some ⟨b, o, none⟩))).run P w = .ok v w := by
  simp [Instr.loadAt, Instr.sureAddr, loadVar, hA, h]
theorem run_loadA {P : Program} {t b o T z : Nat} {cs vs : List Value} {fr : Nat × Nat} {w : World} (hA : ∀ w, (isAgg t).run P w = .ok true w) (hz : ∀ w, (sizeOf t).run P w = .ok z w) (h : w.heap[b]? = some (.cells cs.toArray T fr)) (hv : (cs.drop o).take z = vs) (hl : vs.length = z) :
    (Instr.loadAt t (.pointer (some ⟨b, o, none⟩))).run P w = .ok (.agg vs.toArray) w := by
  simp [Instr.loadAt, Instr.sureAddr, loadVar, hA, hz, run_loadCells' h hv hl]
theorem GL.loadF {b o T : Nat} {cs : List Value} {fr : Nat × Nat} (hd : Nat.blt d n = true) (hA : ∀ w, (isAgg t).run P w = .ok false w) (hx : evalS S ox = some (.pointer (some ⟨b, o, none⟩))) (hb : F.mem b = some (.cells cs.toArray T fr)) (hv : cs[o]? = some v)
    (k : GL κ P ops rest ks Q (Hd n D ((d, v) :: S) F hs) m r) : GL κ P ops (⟨some d, .load t ox, ty, pos, after, none⟩ :: rest) ks Q (Hd n D S F hs) m r :=
  GL.val hd (fun a w ha => by simp [execOp, ha.1.eval hx, run_load1 hA (by rw [cell_of_heap (ha.2.frozen hb)]; exact hv)]) k
theorem GL.loadFA {b o T z : Nat} {cs vs : List Value} {fr : Nat × Nat} (hd : Nat.blt d n = true) (hA : ∀ w, (isAgg t).run P w = .ok true w) (hz : ∀ w, (sizeOf t).run P w = .ok z w) (hx : evalS S ox = some (.pointer (some ⟨b, o, none⟩))) (hb : F.mem b = some (.cells cs.toArray T fr)) (hv : (cs.drop o).take z = vs) (hl : vs.length = z)
    (k : GL κ P ops rest ks Q (Hd n D ((d, .agg vs.toArray) :: S) F hs) m r) : GL κ P ops (⟨some d, .load t ox, ty, pos, after, none⟩ :: rest) ks Q (Hd n D S F hs) m r :=
  GL.val hd (fun a w ha => by simp [execOp, ha.1.eval hx, run_loadA hA hz (ha.2.frozen hb) hv hl]) k
theorem GL.loadO {b o T i : Nat} {cs : List Value} {fr : Nat × Nat} (hd : Nat.blt d n = true) (hA : ∀ w, (isAgg t).run P w = .ok false w) (hx : evalS S ox = some (.pointer (some ⟨b, o, none⟩))) (hb : hs[i]? = some (pt b (.cells cs.toArray T fr))) (hv : cs[o]? = some v)
    (k : GL κ P ops rest ks Q (Hd n D ((d, v) :: S) F hs) m r) : GL κ P ops (⟨some d, .load t ox, ty, pos, after, none⟩ :: rest) ks Q (Hd n D S F hs) m r :=
  GL.val hd (fun a w ha => by simp [execOp, ha.1.eval hx, run_load1 hA (by rw [cell_of_heap (SH.ownedAt hb ha.2)]; exact hv)]) k
theorem GL.loadOA {b o T z i : Nat} {cs vs : List Value} {fr : Nat × Nat} (hd : Nat.blt d n = true) (hA : ∀ w, (isAgg t).run P w = .ok true w) (hz : ∀ w, (sizeOf t).run P w = .ok z w) (hx : evalS S ox = some (.pointer (some ⟨b, o, none⟩))) (hb : hs[i]? = some (pt b (.cells cs.toArray T fr))) (hv : (cs.drop o).take z = vs) (hl : vs.length = z)
    (k : GL κ P ops rest ks Q (Hd n D ((d, .agg vs.toArray) :: S) F hs) m r) : GL κ P ops (⟨some d, .load t ox, ty, pos, after, none⟩ :: rest) ks Q (Hd n D S F hs) m r :=
  GL.val hd (fun a w ha => by simp [execOp, ha.1.eval hx, run_loadA hA hz (SH.ownedAt hb ha.2) hv hl]) k
theorem GL.store {b o T i z : Nat} {cs vs cs' : List Value} (hz : ∀ w, (sizeOf t).run P w = .ok z w) (hx : evalS S ox = some (.pointer (some ⟨b, o, none⟩))) (hy : evalS S oy = some v) (hc : v.cells = vs.toArray) (hl : vs.length = z)
    (hb : hs[i]? = some (pt b (.cells cs.toArray T (0, 0)))) (ho : o + vs.length ≤ cs.length) (h1 : vs.all Value.oneCell' = true) (hcs : setMany cs o vs = cs')
    (k : GL κ P ops rest ks Q (Hd n D S F (hs.set i (pt b (.cells cs'.toArray T (0, 0))))) m r) :
    GL κ P ops (⟨none, .store t ox oy, ty, pos, after, none⟩ :: rest) ks Q (Hd n D S F hs) m r :=
  GL.stepU rfl (.inr rfl) fun hm a w ha => by
    subst hcs
    have h := SH.ownedAt hb ha.2
    refine ⟨put w b (.cells (setMany cs o vs).toArray T (0, 0)), ?_, k hm _ _ ⟨ha.1.put_none _, SH.putAt hb ha.2 _⟩⟩
    have hr := run_storeCells (P := P) (o := o) (i := 0) h (by simpa using ho) h1
    simp only [Nat.add_zero] at hr
    simp only [execOp, Instr.storeAt, ha.1.eval hx, ha.1.eval hy, Instr.sureAddr, storeVar, Sem.run_bind, hz, Result.andThen, hc]
    simp [hl, hr]
theorem run_call {a : Act} {f : FuncId} {caps : List Value} {of : Operand} {os : List Operand} {T : Array TypeId} {vs : List Value} {w : World} (hs : Sl n D S a) (hcall : ∀ args w, (callFunc f args).run P w = .ok (.enter f args) w)
    (hf : evalS S of = some (.func (.func f) #[] caps.toArray)) (ha : evalL S os = some vs) {dst : Option Tmp} :
    (execOp a.eval ⟨dst, .call ⟨.value of, os.toArray, T⟩, ty, pos, after, none⟩).run P w = .ok (.enter f (vs ++ caps).toArray) w := by
  have e := evalL_map hs ha
  simp [execOp, resolve, Deferred.ofValue, hs.eval hf, e, invoke, hcall]
theorem GL.callG {A : Act → World → Prop} {o : Oper} {f : FuncId} {args : Array Value} (hg : o.guard = none) (hnd : κ = none ∨ noDefer o.op = true)
    (h : m = some r → ∀ a w, A a w → (execOp a.eval o).run P w = .ok (.enter f args) w ∧ Calls P f args w (fun e w' => ∃ v, e = .returned v ∧ wpL κ P ops (interp κ P ks Q) rest (a.put o.dst v) w')) :
    GL κ P ops (o :: rest) ks Q A m r := by
  intro hm a w ha
  obtain ⟨h1, h2⟩ := h hm a w ha
  unfold wpL
  rw [if_pos (by simp [Region.wanted, hg])]
  refine ⟨hnd, ?_⟩
  rw [h1]
  refine ⟨fun e => (by rw [fen_depth] at e; cases e), calls_fen.2 (h2.mono ?_)⟩
  rintro e w' ⟨v, rfl, h⟩
  exact h
theorem GL.call0 {α : Type} {f : FuncId} {caps as vs : List Value} {of : Operand} {os : List Operand} {T : Array TypeId} {e : Option α} {ρ : α → Fz → Value → Prop} {g : α → Option β} (hd : Nat.blt d n = true)
    (hcall : ∀ args w, (callFunc f args).run P w = .ok (.enter f args) w) (hf : evalS S of = some (.func (.func f) #[] caps.toArray)) (ha : evalL S os = some vs) (has : vs ++ caps = as)
    (hc : CT0 P f as.toArray F e ρ) (k : ∀ x F' v, e = some x → F ≤ F' → ρ x F' v → GL κ P ops rest ks Q (Hd n D ((d, v) :: S) F' hs) (g x) r) :
    GL κ P ops (⟨some d, .call ⟨.value of, os.toArray, T⟩, ty, pos, after, none⟩ :: rest) ks Q (Hd n D S F hs) (e.bind g) r :=
  GL.callG rfl (.inr rfl) fun hm a w hA => by
    subst has
    refine ⟨run_call hA.1 hcall hf ha, ?_⟩
    cases he : e with
    | none => rw [he] at hm; cases hm
    | some y =>
      rw [he] at hm
      refine (hc y he w _ hA.2).mono ?_
      rintro _ w' ⟨F', v, le, rfl, hρ, hw⟩
      exact ⟨v, rfl, k y F' v he le hρ hm _ _ ⟨hA.1.put hd _, hw⟩⟩
theorem GL.callP {α : Type} {f : FuncId} {caps as vs : List Value} {of : Operand} {os : List Operand} {T : Array TypeId} {e : α} {ρ : α → Fz → Value → Prop} (hd : Nat.blt d n = true)
    (hcall : ∀ args w, (callFunc f args).run P w = .ok (.enter f args) w) (hf : evalS S of = some (.func (.func f) #[] caps.toArray)) (ha : evalL S os = some vs) (has : vs ++ caps = as)
    (hc : CT0 P f as.toArray F (some e) ρ) (k : ∀ F' v, F ≤ F' → ρ e F' v → GL κ P ops rest ks Q (Hd n D ((d, v) :: S) F' hs) m r) :
    GL κ P ops (⟨some d, .call ⟨.value of, os.toArray, T⟩, ty, pos, after, none⟩ :: rest) ks Q (Hd n D S F hs) m r :=
  GL.callG rfl (.inr rfl) fun hm a w hA => by
    subst has
    refine ⟨run_call hA.1 hcall hf ha, ?_⟩
    refine (hc e rfl w _ hA.2).mono ?_
    rintro _ w' ⟨F', v, le, rfl, hρ, hw⟩
    exact ⟨v, rfl, k F' v le hρ hm _ _ ⟨hA.1.put hd _, hw⟩⟩
theorem GL.callK {α : Type} {f : FuncId} {caps as vs : List Value} {of : Operand} {os : List Operand} {T : Array TypeId} {e : Option α} {y : α} {ρ : α → Fz → Value → Prop} (he : e = some y) (hd : Nat.blt d n = true)
    (hcall : ∀ args w, (callFunc f args).run P w = .ok (.enter f args) w) (hf : evalS S of = some (.func (.func f) #[] caps.toArray)) (ha : evalL S os = some vs) (has : vs ++ caps = as)
    (hc : CT0 P f as.toArray F e ρ) (k : ∀ F' v, F ≤ F' → ρ y F' v → GL κ P ops rest ks Q (Hd n D ((d, v) :: S) F' hs) m r) :
    GL κ P ops (⟨some d, .call ⟨.value of, os.toArray, T⟩, ty, pos, after, none⟩ :: rest) ks Q (Hd n D S F hs) m r :=
  GL.callP hd hcall hf ha has (he ▸ hc) k
end
inductive Res (P : Program) (S : List (Nat × Value)) (F : Fz) (hs : List HP) : List ResultVar → List Value → Prop where
  | nil : Res P S F hs [] []
  | tmp {t : Nat} {v : Value} {rs : List ResultVar} {vs : List Value} (h : lookS S t = some v) (k : Res P S F hs rs vs) : Res P S F hs (.tmp t :: rs) (v :: vs)
  | cell {t i b T : Nat} {ty : TypeId} {v : Value} {cs : List Value} {fr : Nat × Nat} {rs : List ResultVar} {vs : List Value} (h : lookS S t = some (.pointer (some ⟨b, 0, none⟩))) (hA : ∀ w, (isAgg ty).run P w = .ok false w) (hb : hs[i]? = some (pt b (.cells cs.toArray T fr))) (hv : cs[0]? = some v) (k : Res P S F hs rs vs) : Res P S F hs (.cell t ty :: rs) (v :: vs)
  | agg {t i b T z : Nat} {ty : TypeId} {cs vs' : List Value} {fr : Nat × Nat} {rs : List ResultVar} {vs : List Value} (h : lookS S t = some (.pointer (some ⟨b, 0, none⟩))) (hA : ∀ w, (isAgg ty).run P w = .ok true w) (hz : ∀ w, (sizeOf ty).run P w = .ok z w) (hb : hs[i]? = some (pt b (.cells cs.toArray T fr))) (hv : cs.take z = vs') (hl : vs'.length = z) (k : Res P S F hs rs vs) : Res P S F hs (.cell t ty :: rs) (.agg vs'.toArray :: vs)
def tup : List Value → Value
  | [v] => v
  | vs => .tuple vs.toArray
def resVar (tmps : Array Value) : ResultVar → Sem Value
  | .tmp t => pure (tmps.getD t undef)
  | .cell a t => do loadVar t (← asAddr (tmps.getD a undef))
theorem run_resList {P : Program} {n : Nat} {D : List Deferred} {S : List (Nat × Value)} {F : Fz} {hs : List HP} {a : Act} {w : World} (ha : Hd n D S F hs a w) : ∀ {rs : List ResultVar} {vs : List Value}, Res P S F hs rs vs → (rs.mapM (resVar a.tmps)).run P w = .ok vs w
  | _, _, .nil => by simp
  | _, _, .tmp h k => by
    have e := ha.1.2.2 _ _ h
    simp [resVar, e, run_resList ha k]
  | _, _, .cell h hA hb hv k => by
    have e := ha.1.2.2 _ _ h
    have hl := run_load1 (P := P) (w := w) hA (by rw [cell_of_heap (SH.ownedAt hb ha.2)]; exact hv)
    simp only [Instr.loadAt, Instr.sureAddr, Sem.run_bind, Sem.run_pure, Result.andThen] at hl
    simp [resVar, e, run_resList ha k, asAddr, hl]
  | _, _, .agg h hA hz hb hv hl' k => by
    have e := ha.1.2.2 _ _ h
    have hl := run_loadA (P := P) (w := w) (o := 0) hA hz (SH.ownedAt hb ha.2) (by simpa using hv) hl'
    simp only [Instr.loadAt, Instr.sureAddr, Sem.run_bind, Sem.run_pure, Result.andThen] at hl
    simp [resVar, e, run_resList ha k, asAddr, hl]
theorem run_results {P : Program} {n : Nat} {D : List Deferred} {S : List (Nat × Value)} {F : Fz} {hs : List HP} {a : Act} {w : World} {fn : Func} {rs : List ResultVar} {vs : List Value} (hr : fn.results = rs.toArray) (ha : Hd n D S F hs a w) (h : Res P S F hs rs vs) : (results fn a.tmps).run P w = .ok (tup vs) w := by
  have h1 := run_resList ha h
  have e : (results fn a.tmps) = (do let vs ← fn.results.mapM (resVar a.tmps); pure (if h : vs.size = 1 then vs[0] else .tuple vs)) := by
    unfold results; congr 1
  rw [e, hr]
  simp only [List.mapM_toArray, Sem.run_bind, Sem.run_map, h1, Result.andThen, Sem.run_pure]
  congr 1
  match vs with
  | [] => rfl
  | [v] => rfl
  | v :: u :: vs => simp [tup]
section
variable {β : Type} {P : Program} {n : Nat} {S : List (Nat × Value)} {F F' : Fz} {hs : List HP} {ks : List Kt} {fn : Func} {R : HP} {ρ : β → Fz → Value → Prop} {x r : β} {rs : List ResultVar} {vs : List Value} {i : Nat}
theorem ret_post0 (hr : fn.results = rs.toArray) (h : Res P S F' hs rs vs) (hi : hs[i]? = some R) (le : F ≤ F') (hρ : ρ x F' (tup vs)) :
    some x = some r → ∀ a w, Hd n [] S F' hs a w → fnPost0 P fn F R ρ r .ret a w := by
  intro e a w ha
  simp only [Option.some.injEq] at e
  subst e
  exact ⟨ha.1.2.1, _, run_results hr ha h, F', _, le, rfl, hρ, ha.2.only hi⟩
theorem GC.ret0 (hr : fn.results = rs.toArray) (h : Res P S F' hs rs vs) (hi : hs[i]? = some R) (le : F ≤ F') (hρ : ρ x F' (tup vs)) :
    GC κ P .ret ks (fnPost0 P fn F R ρ r) (Hd n [] S F' hs) (some x) r := GC.retQ (ret_post0 hr h hi le hρ)
theorem SH.pick2 {w : World} {F : Fz} {hs : List HP} {i j : Nat} {p q : HP} (hi : hs[i]? = some p) (hj : (hs.eraseIdx i)[j]? = some q) (h : SH w F (stars hs)) : SH w F (star p q) :=
  (h.pull hi).mono fun _ hm => by
    obtain ⟨m1, m2, d, s1, s2, hp, hq⟩ := hm
    obtain ⟨m3, _, _, t1, _, hq', _⟩ := stars_pull hj hq
    exact ⟨m1, m3, d.sub (Mem.sub.refl _) t1, s1, t1.trans s2, hp, hq'⟩
theorem ret_post {H' : β → Fz → Value → HP} {j : Nat} (hr : fn.results = rs.toArray) (h : Res P S F' hs rs vs) (hi : hs[i]? = some (H' x F' (tup vs))) (hj : (hs.eraseIdx i)[j]? = some R) (le : F ≤ F') (hρ : ρ x F' (tup vs)) :
    some x = some r → ∀ a w, Hd n [] S F' hs a w → fnPost P fn F R ρ H' r .ret a w := by
  intro e a w ha
  simp only [Option.some.injEq] at e
  subst e
  exact ⟨ha.1.2.1, _, run_results hr ha h, F', _, le, rfl, hρ, ha.2.pick2 hi hj⟩
theorem GC.ret1 {H' : β → Fz → Value → HP} {j : Nat} (hr : fn.results = rs.toArray) (h : Res P S F' hs rs vs) (hi : hs[i]? = some (H' x F' (tup vs))) (hj : (hs.eraseIdx i)[j]? = some R) (le : F ≤ F') (hρ : ρ x F' (tup vs)) :
    GC κ P .ret ks (fnPost P fn F R ρ H' r) (Hd n [] S F' hs) (some x) r := GC.retQ (ret_post hr h hi hj le hρ)
theorem GE.end1 {H' : β → Fz → Value → HP} {j : Nat} (hr : fn.results = rs.toArray) (h : Res P S F' hs rs vs) (hi : hs[i]? = some (H' x F' (tup vs))) (hj : (hs.eraseIdx i)[j]? = some R) (le : F ≤ F') (hρ : ρ x F' (tup vs)) :
    GE κ P [] (fnPost P fn F R ρ H' r) (Hd n [] S F' hs) (some x) r := GE.nil (ret_post hr h hi hj le hρ)
end
end Go.Dec
end

section
namespace Go.Dec
variable {κ : Option Nat}
section
variable {β : Type} {P : Program} {ops : Array Oper} {rest l : List Oper} {ks : List Kt} {Q : Exit → Act → World → Prop} {A : Act → World → Prop} {m : Option β} {r : β}
variable {n : Nat} {D : List Deferred} {S S0 : List (Nat × Value)} {F F' : Fz} {hs : List HP}
theorem wpL_append {Q1 Q2 : Exit → Act → World → Prop} (l2 : List Oper) (hq : ∀ a w, Q1 .normal a w → wpL κ P ops Q2 l2 a w) (hx : ∀ e a w, e ≠ .normal → Q1 e a w → Q2 e a w) : ∀ (l1 : List Oper) (a : Act) (w : World), wpL κ P ops Q1 l1 a w → wpL κ P ops Q2 (l1 ++ l2) a w
  | [], a, w, h => hq a w h
  | o :: l1, a, w, h => by
    simp only [List.cons_append]
    unfold wpL at h ⊢
    split
    · rename_i hw
      rw [if_pos hw] at h
      exact opW_imp (fun _ _ he => wpL_append l2 hq hx l1 _ _ he) hx h
    · rename_i hw
      rw [if_neg hw] at h
      exact wpL_append l2 hq hx l1 _ _ h
def SegPost (n : Nat) (D : List Deferred) (d : Nat) (v : Value) (S : List (Nat × Value)) (F : Fz) (hs : List HP) : Exit → Act → World → Prop :=
  fun e a w => e = .normal ∧ ∃ F', F ≤ F' ∧ Hd n D ((d, v) :: S) F' hs a w
theorem sub_of_drop {S' : List (Nat × Value)} (j : Nat) (hd : S'.drop j = S) (hf : fresh S (S'.take j) = true) : Sub S S' := fun i v h => by
  have := look_append_fresh hf h
  rw [← hd, List.take_append_drop] at this
  exact this
theorem GL.fin {S' : List (Nat × Value)} {d : Nat} {v : Value} {x : β} (j : Nat) (hv : lookS S' d = some v) (hd : S'.drop j = S) (hf : fresh S (S'.take j) = true) (le : F ≤ F') :
    GL κ P ops [] [] (SegPost n D d v S F hs) (Hd n D S' F' hs) (some x) x :=
  fun _ _ _ ha => ⟨rfl, F', le, ha.1.sub (Sub.cons hv (sub_of_drop j hd hf)), ha.2⟩
theorem GL.seg {α : Type} {m0 : Option α} {f : α → Option β} (k d : Nat) (V : α → Value) (h : ∀ z, GL κ P ops (l.take k) [] (SegPost n D d (V z) S F hs) (Hd n D S F hs) m0 z)
    (next : ∀ z F', m0 = some z → F ≤ F' → GL κ P ops (l.drop k) ks Q (Hd n D ((d, V z) :: S) F' hs) (f z) r) : GL κ P ops l ks Q (Hd n D S F hs) (m0.bind f) r := by
  intro hm a w ha
  cases hl : m0 with
  | none => rw [hl] at hm; cases hm
  | some z =>
    rw [hl] at hm
    have h1 := h z hl a w ha
    have := wpL_append (P := P) (ops := ops) (Q2 := interp κ P ks Q) (l.drop k) (Q1 := SegPost n D d (V z) S F hs) (fun a' w' hq => by
      obtain ⟨_, F', le, hq⟩ := hq; exact next z F' hl le hm a' w' hq) (fun e a' w' hne hq => absurd hq.1 hne) (l.take k) a w h1
    rwa [List.take_append_drop] at this
theorem GL.segP {v : Value} (k d : Nat) (h : GL κ P ops (l.take k) [] (SegPost n D d v S F hs) (Hd n D S F hs) (some ()) ())
    (next : ∀ F', F ≤ F' → GL κ P ops (l.drop k) ks Q (Hd n D ((d, v) :: S) F' hs) m r) : GL κ P ops l ks Q (Hd n D S F hs) m r := by
  intro hm a w ha
  have h1 := h rfl a w ha
  have := wpL_append (P := P) (ops := ops) (Q2 := interp κ P ks Q) (l.drop k) (Q1 := SegPost n D d v S F hs) (fun a' w' hq => by
    obtain ⟨_, F', le, hq⟩ := hq; exact next F' le hm a' w' hq) (fun e a' w' hne hq => absurd hq.1 hne) (l.take k) a w h1
  rwa [List.take_append_drop] at this
theorem GL.andP {b b' : Bool} (k d : Nat)
    (h1 : b = true → GL κ P ops (l.take k) [] (SegPost n D d (.bool b') S F hs) (Hd n D S F hs) (some ()) ())
    (h2 : b = false → GL κ P ops (l.take k) [] (SegPost n D d (.bool false) S F hs) (Hd n D S F hs) (some ()) ())
    (next : ∀ F', F ≤ F' → GL κ P ops (l.drop k) ks Q (Hd n D ((d, .bool (b && b')) :: S) F' hs) m r) : GL κ P ops l ks Q (Hd n D S F hs) m r :=
  GL.segP k d (by cases hb : b with | true => exact h1 hb | false => exact h2 hb) next
theorem GL.orP {b b' : Bool} (k d : Nat)
    (h1 : b = false → GL κ P ops (l.take k) [] (SegPost n D d (.bool b') S F hs) (Hd n D S F hs) (some ()) ())
    (h2 : b = true → GL κ P ops (l.take k) [] (SegPost n D d (.bool true) S F hs) (Hd n D S F hs) (some ()) ())
    (next : ∀ F', F ≤ F' → GL κ P ops (l.drop k) ks Q (Hd n D ((d, .bool (b || b')) :: S) F' hs) m r) : GL κ P ops l ks Q (Hd n D S F hs) m r :=
  GL.segP k d (by cases hb : b with | true => exact h2 hb | false => exact h1 hb) next
theorem GL.andM {b : Bool} {m1 : Option Bool} {f : Bool → Option β} (k d : Nat)
    (h1 : b = true → ∀ z, GL κ P ops (l.take k) [] (SegPost n D d (.bool z) S F hs) (Hd n D S F hs) m1 z)
    (h2 : b = false → GL κ P ops (l.take k) [] (SegPost n D d (.bool false) S F hs) (Hd n D S F hs) (some ()) ())
    (next : ∀ z F', F ≤ F' → GL κ P ops (l.drop k) ks Q (Hd n D ((d, .bool z) :: S) F' hs) (f z) r) : GL κ P ops l ks Q (Hd n D S F hs) ((if b then m1 else some false).bind f) r :=
  GL.seg k d (fun z => .bool z) (by
    intro z
    cases hb : b with
    | true => rw [if_pos rfl]; exact h1 hb z
    | false => rw [if_neg (by simp)]; intro e; simp only [Option.some.injEq] at e; subst e; exact h2 hb rfl) (fun z F' _ le => next z F' le)
theorem GL.orM {b : Bool} {m1 : Option Bool} {f : Bool → Option β} (k d : Nat)
    (h1 : b = false → ∀ z, GL κ P ops (l.take k) [] (SegPost n D d (.bool z) S F hs) (Hd n D S F hs) m1 z)
    (h2 : b = true → GL κ P ops (l.take k) [] (SegPost n D d (.bool true) S F hs) (Hd n D S F hs) (some ()) ())
    (next : ∀ z F', F ≤ F' → GL κ P ops (l.drop k) ks Q (Hd n D ((d, .bool z) :: S) F' hs) (f z) r) : GL κ P ops l ks Q (Hd n D S F hs) ((if b then some true else m1).bind f) r :=
  GL.seg k d (fun z => .bool z) (by
    intro z
    cases hb : b with
    | true => rw [if_pos rfl]; intro e; simp only [Option.some.injEq] at e; subst e; exact h2 hb rfl
    | false => rw [if_neg (by simp)]; exact h1 hb z) (fun z F' _ le => next z F' le)
theorem GL.onH {dst : Option Tmp} {op : Op} {ty : TypeId} {pos : String} {after : Array Edge} {j t : Nat} {b want : Bool} (hb : b = want) (hj : (ops[j]?).bind (·.dst) = some t) (hv : lookS S t = some (.bool b))
    (k : GL κ P ops (⟨dst, op, ty, pos, after, none⟩ :: rest) ks Q (Hd n D S F hs) m r) : GL κ P ops (⟨dst, op, ty, pos, after, some (j, want)⟩ :: rest) ks Q (Hd n D S F hs) m r :=
  GL.on hj (hb ▸ hv) k
theorem GL.offH {d : Nat} {op : Op} {ty : TypeId} {pos : String} {after : Array Edge} {j t : Nat} {b want : Bool} (hb : b = !want) (hd : Nat.blt d n = true) (hj : (ops[j]?).bind (·.dst) = some t) (hv : lookS S t = some (.bool b))
    (k : GL κ P ops rest ks Q (Hd n D ((d, undef) :: S) F hs) m r) : GL κ P ops (⟨some d, op, ty, pos, after, some (j, want)⟩ :: rest) ks Q (Hd n D S F hs) m r :=
  GL.off hd hj hv (by subst hb; cases want <;> rfl) k
theorem GL.pickTH {d : Nat} {ty : TypeId} {pos : String} {after : Array Edge} {ox oy oz : Operand} {v : Value} {b : Bool} (hb : b = true) (hd : Nat.blt d n = true) (hz : evalS S oz = some (.bool b)) (hx : evalS S ox = some v) (k : GL κ P ops rest ks Q (Hd n D ((d, v) :: S) F hs) m r) :
    GL κ P ops (⟨some d, .pick oz ox oy, ty, pos, after, none⟩ :: rest) ks Q (Hd n D S F hs) m r := GL.pickT hd (hb ▸ hz) hx k
theorem GL.pickFH {d : Nat} {ty : TypeId} {pos : String} {after : Array Edge} {ox oy oz : Operand} {v : Value} {b : Bool} (hb : b = false) (hd : Nat.blt d n = true) (hz : evalS S oz = some (.bool b)) (hy : evalS S oy = some v) (k : GL κ P ops rest ks Q (Hd n D ((d, v) :: S) F hs) m r) :
    GL κ P ops (⟨some d, .pick oz ox oy, ty, pos, after, none⟩ :: rest) ks Q (Hd n D S F hs) m r := GL.pickF hd (hb ▸ hz) hy k
end
def updB (L : Nat → Bool) (i : Nat) : Nat → Bool := fun j => if j = i then true else L j
theorem wpAny_inv {P : Program} {ops : Array Oper} {Q : Exit → Act → World → Prop} (Inv : (Nat → Bool) → Act → World → Prop)
    (hord : ∀ i o, ops[i]? = some o → ∀ e ∈ o.after, Region.binds .any e = true → e.on < i)
    (hstep : ∀ L a w i o, ops[i]? = some o → L i = false → (∀ e ∈ o.after, Region.binds .any e = true → L e.on = true) → Inv L a w →
      if Region.wanted o (yielded ops a.tmps) then opW κ P o a w (Inv (updB L i)) Q else Inv (updB L i) (a.put o.dst undef) w)
    (hend : ∀ L a w, (∀ i, i < ops.size → L i = true) → Inv L a w → Q .normal a w) :
    ∀ (fuel : Nat) (listed : Array Bool) (a : Act) (w : World), listed.size = ops.size → (List.range ops.size).countP (fun i => !listed.getD i false) ≤ fuel → Inv (fun i => listed.getD i false) a w → wpAnyIn (fen κ) 0 P .any ops Q fuel listed a w := by
  have hready : ∀ (listed : Array Bool), listed.size = ops.size → Region.ready .any ops listed = [] → ∀ i, i < ops.size → listed.getD i false = true := by
    intro listed hs hr i
    induction i using Nat.strongRecOn with
    | _ i ih =>
      intro hi
      cases hl : listed.getD i false with
      | true => rfl
      | false =>
        have hmem : i ∈ Region.ready .any ops listed := by
          unfold Region.ready
          simp only [List.mem_filter, List.mem_range]
          refine ⟨hi, ?_⟩
          have h1 : listed.getD i true = false := by
            simp only [Array.getD_eq_getD_getElem?] at hl ⊢
            have : i < listed.size := by omega
            simp [this] at hl ⊢; exact hl
          have h2 : ops[i]? = some ops[i] := by simp [hi]
          rw [h1, h2]
          simp only [Bool.not_false, Option.map_some, Option.getD_some, Bool.true_and, Array.all_eq_true_iff_forall_mem, Bool.or_eq_true, Bool.not_eq_true']
          intro e he
          cases hb : Region.binds .any e with
          | false => exact .inl rfl
          | true =>
            have hlt := hord i _ h2 e he hb
            exact .inr (ih e.on hlt (by omega))
        rw [hr] at hmem; cases hmem
  intro fuel
  induction fuel with
  | zero =>
    intro listed a w hs hc hI
    have hall : ∀ i, i < ops.size → listed.getD i false = true := fun i hi => by
      have := List.countP_eq_zero.1 (Nat.le_zero.1 hc) i (List.mem_range.2 hi)
      simpa using this
    refine ⟨?_, hend _ a w hall hI⟩
    unfold Region.ready
    apply List.filter_eq_nil_iff.2
    intro i hi
    have h := hall i (List.mem_range.1 hi)
    have hi' : i < listed.size := by rw [hs]; exact List.mem_range.1 hi
    simp only [Array.getD_eq_getD_getElem?] at h
    simp [hi'] at h
    simp [hi', h]
  | succ fuel ih =>
    intro listed a w hs hc hI
    refine ⟨fun hr => hend _ a w (hready listed hs hr) hI, fun i hi => ?_⟩
    unfold Region.ready at hi
    simp only [List.mem_filter, List.mem_range, Bool.and_eq_true, Bool.not_eq_true'] at hi
    obtain ⟨hlt, hl, hdeps⟩ := hi
    have h2 : ops[i]? = some ops[i] := by simp [hlt]
    rw [h2] at hdeps
    simp only [Option.map_some, Option.getD_some, Array.all_eq_true_iff_forall_mem, Bool.or_eq_true, Bool.not_eq_true'] at hdeps
    have hl' : listed.getD i false = false := by
      have : i < listed.size := by omega
      simp only [Array.getD_eq_getD_getElem?] at hl ⊢
      simp [this] at hl ⊢; exact hl
    have hst := hstep _ a w i _ h2 hl' (fun e he hb => by
      rcases hdeps e he with h | h
      · rw [hb] at h; cases h
      · exact h) hI
    have hnext : ∀ a' w', Inv (updB (fun j => listed.getD j false) i) a' w' → wpAnyIn (fen κ) 0 P .any ops Q fuel (listed.setIfInBounds i true) a' w' := by
      intro a' w' h
      have he : (fun j => (listed.setIfInBounds i true).getD j false) = updB (fun j => listed.getD j false) i := by
        funext j
        simp only [updB, Array.getD_eq_getD_getElem?]
        by_cases hj : j = i
        · subst hj
          have : j < listed.size := by omega
          simp [this]
        · simp [hj, Ne.symm hj]
      refine ih _ a' w' (by simpa using hs) ?_ (by rw [he]; exact h)
      have hd : (List.range ops.size).countP (fun j => !(listed.setIfInBounds i true).getD j false) < (List.range ops.size).countP (fun j => !listed.getD j false) := by
        have e2 : (fun j => !(listed.setIfInBounds i true).getD j false) = fun j => (!(updB (fun j => listed.getD j false) i) j) := by
          funext j; rw [← he]
        rw [e2]
        refine countP_lt (x := i) ?_ (List.mem_range.2 hlt) (by simp [hl']) (by simp [updB])
        intro j hj
        simp only [updB, Bool.not_eq_true'] at hj ⊢
        by_cases e : j = i
        · simp [e] at hj
        · simpa [e] using hj
      omega
    unfold wpOpIn
    rw [h2]
    simp only []
    split
    · rename_i hw
      rw [if_pos hw] at hst
      exact (opW_mono hnext hst).wpIn
    · rename_i hw
      rw [if_neg hw] at hst
      exact ⟨fun f _ => fen_fn κ f, hnext _ _ hst⟩
where
  countP_lt {α : Type} {p q : α → Bool} {l : List α} {x : α} (h : ∀ y, p y = true → q y = true) (hx : x ∈ l) (hq : q x = true) (hp : p x = false) : l.countP p < l.countP q := by
    induction l with
    | nil => cases hx
    | cons y l ih =>
      simp only [List.countP_cons]
      have hle : l.countP p ≤ l.countP q := List.countP_mono_left fun z _ hz => h z hz
      rcases List.mem_cons.1 hx with rfl | hx'
      · simp [hq, hp]; omega
      · have := ih hx'
        have : (if p y = true then 1 else 0) ≤ (if q y = true then 1 else 0) := by
          split
          · rename_i hy; simp [h y hy]
          · omega
        omega
theorem wp_region_inv {P : Program} {ops : Array Oper} {Q : Exit → Act → World → Prop} {id : Nat} {a : Act} {w : World} (hm : P.follows .mixedOrders = true) (Inv : (Nat → Bool) → Act → World → Prop)
    (hord : ∀ i o, ops[i]? = some o → ∀ e ∈ o.after, Region.binds .any e = true → e.on < i)
    (h0 : Inv (fun _ => false) a { w with drawn := w.drawn + 1 })
    (hstep : ∀ L a w i o, ops[i]? = some o → L i = false → (∀ e ∈ o.after, Region.binds .any e = true → L e.on = true) → Inv L a w →
      if Region.wanted o (yielded ops a.tmps) then opW κ P o a w (Inv (updB L i)) Q else Inv (updB L i) (a.put o.dst undef) w)
    (hend : ∀ L a w, (∀ i, i < ops.size → L i = true) → Inv L a w → Q .normal a w) : (Code.region id ops true).wpIn (fen κ) 0 P Q a w := by
  refine wpIn_region_any hm (wpAny_inv Inv hord hstep hend _ _ _ _ (by simp) ?_ ?_)
  · exact Nat.le_trans List.countP_le_length (by simp)
  · have : (fun i => (Array.replicate ops.size false).getD i false) = fun _ => false := by
      funext i
      simp only [Array.getD_eq_getD_getElem?, Array.getElem?_replicate]
      split <;> rfl
    rw [this]; exact h0
def ordB : Nat → List Oper → Bool
  | _, [] => true
  | i, o :: l => o.after.toList.all (fun e => !Region.binds .any e || Nat.blt e.on i) && ordB (i + 1) l
theorem ordB_spec : ∀ {k : Nat} {l : List Oper}, ordB k l = true → ∀ i o, l[i]? = some o → ∀ e ∈ o.after, Region.binds .any e = true → e.on < k + i
  | _, [], _, i, o, h, _, _, _ => by simp at h
  | k, x :: l, hb, 0, o, h, e, he, hbi => by
    simp at h; subst h
    simp only [ordB, Bool.and_eq_true, List.all_eq_true, Bool.or_eq_true, Bool.not_eq_true'] at hb
    rcases hb.1 e (by simpa using he) with h | h
    · rw [hbi] at h; cases h
    · have := Nat.le_of_ble_eq_true h; simp at this ⊢; omega
  | k, x :: l, hb, i + 1, o, h, e, he, hbi => by
    simp only [ordB, Bool.and_eq_true] at hb
    have := ordB_spec hb.2 i o (by simpa using h) e he hbi
    omega
def tailB : Nat → List Oper → Bool
  | _, [] => true
  | i, o :: l => (List.range i).all (fun j => o.after.toList.any fun e => Nat.beq e.on j && Region.binds .any e) && tailB (i + 1) l
theorem tailB_spec : ∀ {k : Nat} {l : List Oper}, tailB k l = true → ∀ i o, l[i]? = some o → ∀ j, j < k + i → ∃ e ∈ o.after, e.on = j ∧ Region.binds .any e = true
  | _, [], _, i, o, h, _, _ => by simp at h
  | k, x :: l, hb, 0, o, h, j, hj => by
    simp at h; subst h
    simp only [tailB, Bool.and_eq_true, List.all_eq_true, List.mem_range, List.any_eq_true] at hb
    obtain ⟨e, he, h1, h2⟩ := hb.1 j (by simpa using hj)
    exact ⟨e, by simpa using he, Nat.eq_of_beq_eq_true h1, h2⟩
  | k, x :: l, hb, i + 1, o, h, j, hj => by
    simp only [tailB, Bool.and_eq_true] at hb
    exact tailB_spec hb.2 i o (by simpa using h) j (by omega)
theorem sub_push {S0 S : List (Nat × Value)} (h : Sub S0 S) {d : Nat} (hk : hasKey d S0 = false) (v : Value) : Sub S0 ((d, v) :: S) := fun i u e => by
  simp only [lookS]
  cases hb : Nat.beq d i with
  | true =>
    have : d = i := Nat.eq_of_beq_eq_true hb
    subst this
    rw [hasKey_of_look e] at hk; cases hk
  | false => exact h i u e
theorem look_push {S : List (Nat × Value)} {d i : Nat} {v u : Value} (hne : d ≠ i) (e : lookS S i = some u) : lookS ((d, v) :: S) i = some u := by
  simp only [lookS]
  cases hb : Nat.beq d i with
  | true => exact absurd (Nat.eq_of_beq_eq_true hb) hne
  | false => exact e
theorem look_self {S : List (Nat × Value)} {d : Nat} {v : Value} : lookS ((d, v) :: S) d = some v := by simp [lookS]
theorem wp_of_seg {P : Program} {ops : Array Oper} {o : Oper} {a : Act} {w : World} {Q0 Q : Exit → Act → World → Prop} {K : Act → World → Prop} (hQ : ∀ e a w, e ≠ .normal → Q0 e a w → False) (hK : ∀ a w, Q0 .normal a w → K a w) (h : wpL κ P ops Q0 [o] a w) :
    if Region.wanted o (yielded ops a.tmps) then opW κ P o a w K Q else K (a.put o.dst undef) w := by
  unfold wpL at h
  split
  · rename_i hw
    rw [if_pos hw] at h
    exact opW_imp hK (fun e a w hne hq => (hQ e a w hne hq).elim) h
  · rename_i hw
    rw [if_neg hw] at h
    exact hK _ _ h
end Go.Dec
end

section
namespace Go.Dec
variable {κ : Option Nat}
abbrev ERel (α : Type) : Type := Fz → α → List Value → Prop
abbrev Ex {α : Type} (c : α → List Value) : ERel α := fun _ x vs => vs = c x
def RepSl {α : Type} (sz : Nat) (c : ERel α) (F : Fz) (p : Option Addr) (cap : Nat) (l : List α) : Prop :=
  l.length ≤ cap ∧ cap ≤ 9223372036854775807 ∧ (l = [] ∨ ∃ b o cs T fr, p = some ⟨b, o, none⟩ ∧ F.mem b = some (.cells cs T fr) ∧ ∀ i x, l[i]? = some x → ∀ F', F ≤ F' → c F' x ((cs.toList.drop (o + i * sz)).take sz))
theorem RepSl.mono {α : Type} {sz : Nat} {c : ERel α} {F F' : Fz} {p : Option Addr} {cap : Nat} {l : List α} (h : RepSl sz c F p cap l) (le : F ≤ F') : RepSl sz c F' p cap l := by
  obtain ⟨h0, h1, h2⟩ := h
  refine ⟨h0, h1, ?_⟩
  rcases h2 with h | ⟨b, o, cs, T, fr, h2, h3, h4⟩
  · exact .inl h
  · exact .inr ⟨b, o, cs, T, fr, h2, le.mem _ _ h3, fun i x hx F' le' => h4 i x hx F' (Fz.le_trans le le')⟩
theorem RepSl.nil {α : Type} {sz : Nat} {c : ERel α} {F : Fz} : RepSl sz c F none 0 ([] : List α) := ⟨Nat.le_refl _, by simp, .inl rfl⟩
theorem cell_of_take {cs vs : List Value} {o z k : Nat} {v : Value} (h : (cs.drop o).take z = vs) (hv : vs[k]? = some v) : cs[o + k]? = some v := by
  rw [← h, List.getElem?_take, List.getElem?_drop] at hv
  split at hv
  · exact hv
  · cases hv
theorem take_of_take {cs vs : List Value} {o z k z' : Nat} {us : List Value} (h : (cs.drop o).take z = vs) (hv : (vs.drop k).take z' = us) (hl : Nat.ble (k + z') z = true) : (cs.drop (o + k)).take z' = us := by
  have hl' := Nat.le_of_ble_eq_true hl
  rw [← hv, ← h]
  apply List.ext_getElem?
  intro i
  simp only [List.getElem?_take, List.getElem?_drop]
  by_cases hi : i < z'
  · simp only [hi, if_true]; rw [if_pos (by omega)]; congr 1; omega
  · simp [hi]
def idxL {α : Type} (l : List α) (i : Int) : Option α := if 0 ≤ i then l[i.toNat]? else none
theorem idxL_some {α : Type} {l : List α} {i : Int} {x : α} (h : idxL l i = some x) : 0 ≤ i ∧ i.toNat < l.length ∧ l[i.toNat]? = some x := by
  unfold idxL at h
  split at h
  · rename_i h0
    refine ⟨h0, ?_, h⟩
    rcases Nat.lt_or_ge i.toNat l.length with h' | h'
    · exact h'
    · rw [List.getElem?_eq_none h'] at h; cases h
  · cases h
theorem RepSl.at_ {α : Type} {sz : Nat} {c : ERel α} {F : Fz} {p : Option Addr} {cap : Nat} {l : List α} (h : RepSl sz c F p cap l) {k : Nat} {x : α} (hx : l[k]? = some x) : ∃ b o T fr, ∃ cs : List Value, p = some ⟨b, o, none⟩ ∧ F.mem b = some (.cells cs.toArray T fr) ∧ c F x ((cs.drop (o + k * sz)).take sz) := by
  obtain ⟨_, _, h2⟩ := h
  rcases h2 with h | ⟨b, o, cs, T, fr, h2, h3, h4⟩
  · subst h; simp at hx
  · exact ⟨b, o, T, fr, cs.toList, h2, by simpa using h3, by simpa using h4 k x hx F (Fz.le_refl F)⟩
section
variable {β : Type} {P : Program} {ops : Array Oper} {rest : List Oper} {ks : List Kt} {Q : Exit → Act → World → Prop} {m : Option β} {r : β}
variable {n : Nat} {D : List Deferred} {S : List (Nat × Value)} {F : Fz} {hs : List HP}
variable {d : Nat} {ty t t' : TypeId} {pos : String} {after : Array Edge} {ox oy oz : Operand} {v u : Value} {kd : IntKind} {x y : Int}
theorem GL.idxK {α : Type} {sz : Nat} {c : ERel α} {p : Option Addr} {cap e : Nat} {l : List α} {z : α} (hd : Nat.blt d n = true) (ht : P.underlying t = some (.slice e)) (hz : ∀ w, (sizeOf e).run P w = .ok sz w)
    (hr : RepSl sz c F p cap l) (hx : evalS S ox = some (.slice p l.length cap)) (hy : evalS S oy = some (.int kd x)) (hi : idxL l x = some z)
    (k : ∀ b o T fr cs, F.mem b = some (.cells (List.toArray cs) T fr) → c F z ((cs.drop o).take sz) → GL κ P ops rest ks Q (Hd n D ((d, .pointer (some ⟨b, o, none⟩)) :: S) F hs) m r) :
    GL κ P ops (⟨some d, .indexAddr t ox oy, ty, pos, after, none⟩ :: rest) ks Q (Hd n D S F hs) m r := by
  obtain ⟨h0, h1, h2⟩ := idxL_some hi
  obtain ⟨b, o, T, fr, cs, rfl, h3, h4⟩ := hr.at_ h2
  have hj : idxO l.length x = some x.toNat := by unfold idxO; rw [if_pos (by omega)]
  exact GL.indexAddrS hd ht hz hx hy hj (k b _ T fr cs h3 h4)
theorem GL.idx {α : Type} {sz : Nat} {c : ERel α} {p : Option Addr} {cap e : Nat} {l : List α} {f : α → Option β} (hd : Nat.blt d n = true) (ht : P.underlying t = some (.slice e)) (hz : ∀ w, (sizeOf e).run P w = .ok sz w)
    (hr : RepSl sz c F p cap l) (hx : evalS S ox = some (.slice p l.length cap)) (hy : evalS S oy = some (.int kd x))
    (k : ∀ z b o T fr cs, idxL l x = some z → F.mem b = some (.cells (List.toArray cs) T fr) → c F z ((cs.drop o).take sz) → GL κ P ops rest ks Q (Hd n D ((d, .pointer (some ⟨b, o, none⟩)) :: S) F hs) (f z) r) :
    GL κ P ops (⟨some d, .indexAddr t ox oy, ty, pos, after, none⟩ :: rest) ks Q (Hd n D S F hs) ((idxL l x).bind f) r :=
  GL.bind fun z hi => GL.idxK hd ht hz hr hx hy hi (fun b o T fr cs h1 h2 => k z b o T fr cs hi h1 h2)
def sliceL {α : Type} (l : List α) (lo hi : Int) : Option (List α) := if 0 ≤ lo ∧ lo ≤ hi ∧ hi ≤ l.length then some ((l.drop lo.toNat).take (hi.toNat - lo.toNat)) else none
theorem RepSl.cut {α : Type} {sz : Nat} {c : ERel α} {F : Fz} {p : Option Addr} {cap cap' : Nat} {l : List α} (h : RepSl sz c F p cap l) {lo hi : Nat} (_h1 : lo ≤ hi) (h2 : hi ≤ l.length) (h3 : hi - lo ≤ cap') (h4 : cap' ≤ cap) :
    RepSl sz c F (p.map (·.add (lo * sz))) cap' ((l.drop lo).take (hi - lo)) := by
  obtain ⟨g0, g1, g2⟩ := h
  refine ⟨by simp; omega, by omega, ?_⟩
  rcases g2 with h | ⟨b, o, cs, T, fr, rfl, h3', h4'⟩
  · subst h; left; simp
  · refine .inr ⟨b, o + lo * sz, cs, T, fr, by simp [add_addr], h3', fun i x hx => ?_⟩
    rw [List.getElem?_take, List.getElem?_drop] at hx
    split at hx
    · intro F' le
      have := h4' (lo + i) x hx F' le
      rw [show o + lo * sz + i * sz = o + (lo + i) * sz by rw [Nat.add_mul]; omega]; exact this
    · cases hx
theorem RepSl.anyp {α : Type} {sz : Nat} {c : ERel α} {F : Fz} {p p' : Option Addr} {cap : Nat} (h : RepSl sz c F p cap ([] : List α)) : RepSl sz c F p' cap ([] : List α) := ⟨h.1, h.2.1, .inl rfl⟩
theorem run_bound {P : Program} {i : Int} {y : Nat} {code : BoundsCode} {w : World} (h : 0 ≤ i ∧ i ≤ y) : (Instr.sliceBound (.int kd i) y code).run P w = .ok i.toNat w := by
  simp [Instr.sliceBound, asIntOf, h]
theorem run_slice_lo {P : Program} {t e sz len cap : Nat} {p : Option Addr} {lo : Int} {w : World} (ht : P.underlying t = some (.slice e)) (hz : ∀ w, (sizeOf e).run P w = .ok sz w) (h : 0 ≤ lo ∧ lo ≤ len) :
    (Instr.sliceAt t (.slice p len cap) (some (.int kd lo)) none none).run P w = .ok (.slice (if cap = lo.toNat then p else p.map (·.add (lo.toNat * sz))) (len - lo.toNat) (cap - lo.toNat)) w := by
  simp only [Instr.sliceAt, Sem.run_bind, rUnd ht, Result.andThen, Instr.slice, Instr.sliceBounds, Sem.run_pure, Option.isSome_none, Bool.false_eq_true, if_false]
  rw [run_bound h]
  simp [hz]
theorem run_slice_hi {P : Program} {t e sz len cap : Nat} {p : Option Addr} {hi : Int} {w : World} (ht : P.underlying t = some (.slice e)) (hz : ∀ w, (sizeOf e).run P w = .ok sz w) (h : 0 ≤ hi ∧ hi ≤ cap) :
    (Instr.sliceAt t (.slice p len cap) none (some (.int kd hi)) none).run P w = .ok (.slice (if cap = 0 then p else p.map (·.add (0 * sz))) hi.toNat cap) w := by
  simp only [Instr.sliceAt, Sem.run_bind, rUnd ht, Result.andThen, Instr.slice, Instr.sliceBounds, Sem.run_pure, Option.isSome_none, Bool.false_eq_true, if_false, if_true]
  rw [run_bound h]
  simp [hz]
theorem run_slice_lohi {P : Program} {t e sz len cap : Nat} {p : Option Addr} {lo hi : Int} {w : World} {kd' : IntKind} (ht : P.underlying t = some (.slice e)) (hz : ∀ w, (sizeOf e).run P w = .ok sz w) (h : 0 ≤ lo ∧ lo ≤ hi) (h' : hi ≤ cap) :
    (Instr.sliceAt t (.slice p len cap) (some (.int kd lo)) (some (.int kd' hi)) none).run P w = .ok (.slice (if cap = lo.toNat then p else p.map (·.add (lo.toNat * sz))) (hi.toNat - lo.toNat) (cap - lo.toNat)) w := by
  simp only [Instr.sliceAt, Sem.run_bind, rUnd ht, Result.andThen, Instr.slice, Instr.sliceBounds, Sem.run_pure, Option.isSome_none, Bool.false_eq_true, if_false, if_true]
  rw [run_bound (kd := kd') (by omega)]
  simp only []
  rw [run_bound (by omega)]
  simp [hz]
theorem rep_if {α : Type} {sz : Nat} {c : ERel α} {F : Fz} {p p' : Option Addr} {cap : Nat} {l : List α} {q : Prop} [Decidable q] (h1 : q → RepSl sz c F p cap l) (h2 : RepSl sz c F p' cap l) : RepSl sz c F (if q then p else p') cap l := by
  split
  · rename_i h; exact h1 h
  · exact h2
theorem GL.sliceLo {α : Type} {sz : Nat} {c : ERel α} {p : Option Addr} {cap e : Nat} {l : List α} {f : List α → Option β} (hd : Nat.blt d n = true) (ht : P.underlying t = some (.slice e)) (hz : ∀ w, (sizeOf e).run P w = .ok sz w)
    (hr : RepSl sz c F p cap l) (hx : evalS S ox = some (.slice p l.length cap)) (hy : evalS S oy = some (.int kd x))
    (k : ∀ l' p' c', sliceL l x l.length = some l' → RepSl sz c F p' c' l' → GL κ P ops rest ks Q (Hd n D ((d, .slice p' l'.length c') :: S) F hs) (f l') r) :
    GL κ P ops (⟨some d, .slice t ox (some oy) none none, ty, pos, after, none⟩ :: rest) ks Q (Hd n D S F hs) ((sliceL l x l.length).bind f) r :=
  GL.bind fun l' hl => by
    have hl' := hl
    unfold sliceL at hl
    split at hl
    · rename_i h
      simp only [Option.some.injEq] at hl
      have hcut : RepSl sz c F (p.map (·.add (x.toNat * sz))) (cap - x.toNat) l' := by
        have := hr.cut (lo := x.toNat) (hi := l.length) (cap' := cap - x.toNat) (by omega) (Nat.le_refl _) (by have := hr.1; omega) (by omega)
        simp only [Int.toNat_natCast] at hl
        rw [← hl]; exact this
      have hlen : l'.length = l.length - x.toNat := by rw [← hl]; simp
      have hrep : RepSl sz c F (if cap = x.toNat then p else p.map (·.add (x.toNat * sz))) (cap - x.toNat) l' := rep_if (fun h => by
        have : l' = [] := by
          have := hcut.1; rw [← h] at this; simp at this; exact this
        subst this; exact hcut.anyp) hcut
      have hk := k l' _ _ hl' hrep
      rw [hlen] at hk
      refine GL.val hd (fun a w ha => ?_) hk
      simp only [execOp, ha.1.eval hx, ha.1.eval hy, Option.map_some, Option.map_none, Sem.run_bind]
      rw [run_slice_lo ht hz (by omega)]
      rfl
    · cases hl
theorem GL.sliceHi {α : Type} {sz : Nat} {c : ERel α} {p : Option Addr} {cap e : Nat} {l : List α} {f : List α → Option β} (hd : Nat.blt d n = true) (ht : P.underlying t = some (.slice e)) (hz : ∀ w, (sizeOf e).run P w = .ok sz w)
    (hr : RepSl sz c F p cap l) (hx : evalS S ox = some (.slice p l.length cap)) (hy : evalS S oy = some (.int kd x))
    (k : ∀ l' p' c', sliceL l 0 x = some l' → RepSl sz c F p' c' l' → GL κ P ops rest ks Q (Hd n D ((d, .slice p' l'.length c') :: S) F hs) (f l') r) :
    GL κ P ops (⟨some d, .slice t ox none (some oy) none, ty, pos, after, none⟩ :: rest) ks Q (Hd n D S F hs) ((sliceL l 0 x).bind f) r :=
  GL.bind fun l' hl => by
    have hl' := hl
    unfold sliceL at hl
    split at hl
    · rename_i h
      simp only [Option.some.injEq] at hl
      have hcut : RepSl sz c F (p.map (·.add (0 * sz))) cap l' := by
        have := hr.cut (lo := 0) (hi := x.toNat) (cap' := cap) (by omega) (by omega) (by have := hr.1; omega) (by omega)
        simp only [Nat.sub_zero] at this
        rw [← hl]; exact this
      have hlen : l'.length = x.toNat := by rw [← hl]; simp; omega
      have hrep : RepSl sz c F (if cap = 0 then p else p.map (·.add (0 * sz))) cap l' := rep_if (fun h => by
        have : l' = [] := by have := hcut.1; rw [h] at this; simp at this; exact this
        subst this; exact hcut.anyp) hcut
      have hk := k l' _ _ hl' hrep
      rw [hlen] at hk
      refine GL.val hd (fun a w ha => ?_) hk
      simp only [execOp, ha.1.eval hx, ha.1.eval hy, Option.map_some, Option.map_none, Sem.run_bind]
      rw [run_slice_hi ht hz (by have := hr.1; omega)]
      rfl
    · cases hl
theorem GL.sliceLoHi {α : Type} {sz : Nat} {c : ERel α} {p : Option Addr} {cap e : Nat} {l : List α} {kd' : IntKind} {f : List α → Option β} (hd : Nat.blt d n = true) (ht : P.underlying t = some (.slice e)) (hz : ∀ w, (sizeOf e).run P w = .ok sz w)
    (hr : RepSl sz c F p cap l) (hx : evalS S ox = some (.slice p l.length cap)) (hy : evalS S oy = some (.int kd x)) (hm : evalS S oz = some (.int kd' y))
    (k : ∀ l' p' c', sliceL l x y = some l' → RepSl sz c F p' c' l' → GL κ P ops rest ks Q (Hd n D ((d, .slice p' l'.length c') :: S) F hs) (f l') r) :
    GL κ P ops (⟨some d, .slice t ox (some oy) (some oz) none, ty, pos, after, none⟩ :: rest) ks Q (Hd n D S F hs) ((sliceL l x y).bind f) r :=
  GL.bind fun l' hl => by
    have hl' := hl
    unfold sliceL at hl
    split at hl
    · rename_i h
      simp only [Option.some.injEq] at hl
      have hcut : RepSl sz c F (p.map (·.add (x.toNat * sz))) (cap - x.toNat) l' := by
        have := hr.cut (lo := x.toNat) (hi := y.toNat) (cap' := cap - x.toNat) (by omega) (by omega) (by have := hr.1; omega) (by omega)
        rw [← hl]; exact this
      have hlen : l'.length = y.toNat - x.toNat := by rw [← hl]; simp; omega
      have hrep : RepSl sz c F (if cap = x.toNat then p else p.map (·.add (x.toNat * sz))) (cap - x.toNat) l' := rep_if (fun h => by
        have : l' = [] := by have := hcut.1; rw [← h] at this; simp at this; exact this
        subst this; exact hcut.anyp) hcut
      have hk := k l' _ _ hl' hrep
      rw [hlen] at hk
      refine GL.val hd (fun a w ha => ?_) hk
      simp only [execOp, ha.1.eval hx, ha.1.eval hy, ha.1.eval hm, Option.map_some, Option.map_none, Sem.run_bind]
      rw [run_slice_lohi ht hz (by omega) (by have := hr.1; omega)]
      rfl
    · cases hl
theorem RepSl.ofArr {α : Type} {sz : Nat} {c : ERel α} {F : Fz} {b o T len : Nat} {cs : List Value} {fr : Nat × Nat} {l : List α} (hb : F.mem b = some (.cells cs.toArray T fr)) (hl : l.length = len) (hlen : Nat.ble len 1000000 = true) (h : ∀ i x, l[i]? = some x → ∀ F', F ≤ F' → c F' x ((cs.drop (o + i * sz)).take sz)) : RepSl sz c F (some ⟨b, o, none⟩) len l := by
  have := Nat.le_of_ble_eq_true hlen
  exact ⟨by omega, by omega, .inr ⟨b, o, cs.toArray, T, fr, rfl, hb, by simpa using h⟩⟩
end
def Parts {α : Type} (sz : Nat) (c : ERel α) (F : Fz) (l : List α) (us : List Value) : Prop := ∀ i x, l[i]? = some x → ∀ F', F ≤ F' → c F' x ((us.drop (i * sz)).take sz)
theorem lt_of_getEl {α : Type} {l : List α} {i : Nat} {x : α} (h : l[i]? = some x) : i < l.length := by
  rcases Nat.lt_or_ge i l.length with h' | h'
  · exact h'
  · rw [List.getElem?_eq_none h'] at h; cases h
theorem Parts.mono {α : Type} {sz : Nat} {c : ERel α} {F F' : Fz} {l : List α} {us : List Value} (h : Parts sz c F l us) (le : F ≤ F') : Parts sz c F' l us := fun i x hx G le' => h i x hx G (Fz.le_trans le le')
theorem Parts.nil {α : Type} {sz : Nat} {c : ERel α} {F : Fz} {us : List Value} : Parts sz c F [] us := fun i x h => by simp at h
theorem part_take {i n sz : Nat} {us : List Value} (h : i < n) : (((us.take (n * sz)).drop (i * sz)).take sz) = ((us.drop (i * sz)).take sz) := by
  rw [List.drop_take, List.take_take]
  congr 1
  rw [← Nat.sub_mul]
  have : 1 ≤ n - i := by omega
  have := Nat.mul_le_mul_right sz this
  omega
theorem Parts.take {α : Type} {sz : Nat} {c : ERel α} {F : Fz} {l : List α} {us : List Value} (h : Parts sz c F l us) : Parts sz c F l (us.take (l.length * sz)) := fun i x hx F' le => by
  rw [part_take (lt_of_getEl hx)]; exact h i x hx F' le
theorem Parts.ofTake {α : Type} {sz : Nat} {c : ERel α} {F : Fz} {l : List α} {us : List Value} (h : Parts sz c F l (us.take (l.length * sz))) : Parts sz c F l us := fun i x hx F' le => by
  rw [← part_take (lt_of_getEl hx)]; exact h i x hx F' le
theorem Parts.len {α : Type} {sz : Nat} {c : ERel α} {F : Fz} {l : List α} {us : List Value} (hc : ∀ F x vs, c F x vs → vs.length = sz) (h : Parts sz c F l us) : l.length * sz ≤ us.length := by
  rcases Nat.eq_zero_or_pos l.length with h0 | h0
  · rw [h0]; simp
  · have hx : l[l.length - 1]? = some (l[l.length - 1]'(by omega)) := List.getElem?_eq_getElem _
    have := hc _ _ _ (h _ _ hx F (Fz.le_refl F))
    simp only [List.length_take, List.length_drop] at this
    rcases Nat.eq_zero_or_pos sz with hz | hz
    · rw [hz]; simp
    · have e : l.length * sz = (l.length - 1) * sz + sz := by
        rw [show l.length = l.length - 1 + 1 by omega, Nat.add_mul]; simp
      omega
theorem Parts.append {α : Type} {sz : Nat} {c : ERel α} {F : Fz} {l l2 : List α} {us us2 : List Value} (h : Parts sz c F l us) (h2 : Parts sz c F l2 us2) (hl : us.length = l.length * sz) : Parts sz c F (l ++ l2) (us ++ us2) := fun i x hx F' le => by
  rcases Nat.lt_or_ge i l.length with hi | hi
  · rw [List.getElem?_append_left hi] at hx
    have e : ((us ++ us2).drop (i * sz)).take sz = (us.drop (i * sz)).take sz := by
      have : i * sz + sz ≤ us.length := by
        rw [hl, show i * sz + sz = (i + 1) * sz by rw [Nat.add_mul]; omega]; exact Nat.mul_le_mul_right sz hi
      rw [List.drop_append_of_le_length (by omega), List.take_append_of_le_length (by simp; omega)]
    rw [e]; exact h i x hx F' le
  · rw [List.getElem?_append_right hi] at hx
    have e : (us ++ us2).drop (i * sz) = us2.drop ((i - l.length) * sz) := by
      have : us.length ≤ i * sz := by rw [hl]; exact Nat.mul_le_mul_right sz hi
      rw [List.drop_append]
      rw [List.drop_of_length_le this, List.nil_append, hl, Nat.sub_mul]
    rw [e]; exact h2 _ x hx F' le
theorem Parts.weak {α : Type} {sz : Nat} {c : ERel α} {F : Fz} {l : List α} {us us2 : List Value} (h : Parts sz c F l us) (hl : us.length = l.length * sz) : Parts sz c F l (us ++ us2) := by
  have := h.append (l2 := []) (us2 := us2) Parts.nil hl
  simpa using this
theorem Parts.all {α : Type} {sz : Nat} {c : ERel α} {F : Fz} {l : List α} {us : List Value} (h1 : ∀ F x vs, c F x vs → vs.all Value.oneCell' = true) (h : Parts sz c F l us) : (us.take (l.length * sz)).all Value.oneCell' = true := by
  rw [List.all_eq_true]
  intro v hv
  obtain ⟨j, hj, e⟩ := List.getElem_of_mem hv
  simp only [List.length_take] at hj
  have hj1 : j < l.length * sz := by omega
  have hsz : 0 < sz := by
    rcases Nat.eq_zero_or_pos sz with hz | hz
    · subst hz; simp at hj1
    · exact hz
  have hi : j / sz < l.length := (Nat.div_lt_iff_lt_mul hsz).2 hj1
  have hx : l[j / sz]? = some (l[j / sz]'hi) := List.getElem?_eq_getElem _
  have := h1 _ _ _ (h _ _ hx F (Fz.le_refl F))
  rw [List.all_eq_true] at this
  apply this
  rw [List.getElem_take] at e
  have hm : j % sz < sz := Nat.mod_lt _ hsz
  have hd : j = j / sz * sz + j % sz := by have := Nat.div_add_mod j sz; rw [Nat.mul_comm] at this; omega
  rw [List.mem_iff_getElem]
  refine ⟨j % sz, by simp; omega, ?_⟩
  rw [List.getElem_take, List.getElem_drop, ← e]
  congr 1; omega
def ownSl {α : Type} (sz : Nat) (c : ERel α) (F : Fz) (T : TypeId) (p : Option Addr) (cap : Nat) (l : List α) : HP := fun m =>
  l.length ≤ cap ∧ cap ≤ 9223372036854775807 ∧ ((p = none ∧ cap = 0) ∨ ∃ b cs, p = some ⟨b, 0, none⟩ ∧ pt b (.cells (List.toArray cs) T (0, 0)) m ∧ cs.length = cap * sz ∧ Parts sz c F l cs)
theorem ownSl_nil {α : Type} {sz : Nat} {c : ERel α} {F : Fz} {T : TypeId} {m : Mem} : ownSl sz c F T none 0 ([] : List α) m := ⟨Nat.le_refl _, by simp, .inl ⟨rfl, rfl⟩⟩
theorem ownSl_up {α : Type} {sz : Nat} {c : ERel α} {F F' : Fz} {T : TypeId} {p : Option Addr} {cap : Nat} {l : List α} {m : Mem} (le : F ≤ F') (h : ownSl sz c F T p cap l m) : ownSl sz c F' T p cap l m := by
  obtain ⟨h1, h2, h3⟩ := h
  rcases h3 with h3 | ⟨b, cs, e, hb, hl, hp⟩
  · exact ⟨h1, h2, .inl h3⟩
  · exact ⟨h1, h2, .inr ⟨b, cs, e, hb, hl, hp.mono le⟩⟩
theorem SH.freezeSl {α : Type} {sz : Nat} {c : ERel α} {T : TypeId} {p : Option Addr} {cap : Nat} {l : List α} {w : World} {F0 F : Fz} {H : HP} (le0 : F0 ≤ F) (h : SH w F (star (ownSl sz c F0 T p cap l) H)) :
    ∃ F', F ≤ F' ∧ SH w F' H ∧ RepSl sz c F' p cap l := by
  obtain ⟨m, ⟨m1, m2, d, s1, s2, ⟨h1, h2, h3⟩, hq⟩, k⟩ := h
  rcases h3 with ⟨rfl, rfl⟩ | ⟨b, cs, rfl, hb, hl, hp⟩
  · refine ⟨F, Fz.le_refl F, ⟨m2, hq, k.sub s2⟩, h1, h2, .inl (List.eq_nil_of_length_eq_zero (by omega))⟩
  · have hh : SH w F (star (pt b (.cells cs.toArray T (0, 0))) H) := ⟨m, ⟨m1, m2, d, s1, s2, hb, hq⟩, k⟩
    obtain ⟨le, hs⟩ := hh.freeze
    refine ⟨_, le, hs, h1, h2, .inr ⟨b, 0, cs.toArray, T, (0, 0), rfl, Fz.add_self .., fun i x hx F' le' => ?_⟩⟩
    have := hp i x hx F' (Fz.le_trans le0 (Fz.le_trans le le'))
    simpa using this
section
variable {β : Type} {P : Program} {ops : Array Oper} {rest : List Oper} {ks : List Kt} {Q : Exit → Act → World → Prop} {m : Option β} {r : β}
variable {n : Nat} {D : List Deferred} {S : List (Nat × Value)} {F F0 : Fz} {hs : List HP}
theorem GL.ownNil {α : Type} (sz : Nat) (c : ERel α) (T : TypeId) (k : GL κ P ops rest ks Q (Hd n D S F (ownSl sz c F T none 0 [] :: hs)) m r) : GL κ P ops rest ks Q (Hd n D S F hs) m r :=
  fun hm a w ha => k hm a w ⟨ha.1, ha.2.mono fun m hm' => ⟨fun _ => none, m, fun _ => .inl rfl, fun _ _ e => by simp at e, Mem.sub.refl _, ownSl_nil, hm'⟩⟩
theorem GC.ownNil {α : Type} {cd : Code} (sz : Nat) (c : ERel α) (T : TypeId) (k : GC κ P cd ks Q (Hd n D S F (ownSl sz c F T none 0 [] :: hs)) m r) : GC κ P cd ks Q (Hd n D S F hs) m r :=
  fun hm a w ha => k hm a w ⟨ha.1, ha.2.mono fun m hm' => ⟨fun _ => none, m, fun _ => .inl rfl, fun _ _ e => by simp at e, Mem.sub.refl _, ownSl_nil, hm'⟩⟩
theorem SH.ownUp {α : Type} {sz : Nat} {c : ERel α} {T : TypeId} {p : Option Addr} {cap : Nat} {l : List α} {w : World} {i : Nat} (le : F0 ≤ F) (hi : hs[i]? = some (ownSl sz c F0 T p cap l)) (h : SH w F (stars hs)) : SH w F (stars (hs.set i (ownSl sz c F T p cap l))) :=
  SH.push hi ((h.pull hi).mono fun _m hm => star_mono_left (fun _ => ownSl_up le) hm)
theorem GE.ownUp {α : Type} {sz : Nat} {c : ERel α} {T : TypeId} {p : Option Addr} {cap : Nat} {l : List α} (i : Nat) (le : F0 ≤ F) (hi : hs[i]? = some (ownSl sz c F0 T p cap l)) (k : GE κ P ks Q (Hd n D S F (hs.set i (ownSl sz c F T p cap l))) m r) : GE κ P ks Q (Hd n D S F hs) m r :=
  fun hm a w ha => k hm a w ⟨ha.1, ha.2.ownUp le hi⟩
theorem GC.ownUp {α : Type} {sz : Nat} {c : ERel α} {T : TypeId} {p : Option Addr} {cap : Nat} {l : List α} {cd : Code} (i : Nat) (le : F0 ≤ F) (hi : hs[i]? = some (ownSl sz c F0 T p cap l)) (k : GC κ P cd ks Q (Hd n D S F (hs.set i (ownSl sz c F T p cap l))) m r) : GC κ P cd ks Q (Hd n D S F hs) m r :=
  fun hm a w ha => k hm a w ⟨ha.1, ha.2.ownUp le hi⟩
theorem GL.freezeSl {α : Type} {sz : Nat} {c : ERel α} {T : TypeId} {p : Option Addr} {cap : Nat} {l : List α} (i : Nat) (hi : hs[i]? = some (ownSl sz c F0 T p cap l)) (le0 : F0 ≤ F)
    (k : ∀ F', F ≤ F' → RepSl sz c F' p cap l → GL κ P ops rest ks Q (Hd n D S F' (hs.eraseIdx i)) m r) : GL κ P ops rest ks Q (Hd n D S F hs) m r :=
  fun hm a w ha => by
    obtain ⟨F', le, h1, h2⟩ := (ha.2.pull hi).freezeSl le0
    exact k F' le h2 hm a w ⟨ha.1, h1⟩
theorem GC.freezeSl {α : Type} {sz : Nat} {c : ERel α} {T : TypeId} {p : Option Addr} {cap : Nat} {l : List α} {cd : Code} (i : Nat) (hi : hs[i]? = some (ownSl sz c F0 T p cap l)) (le0 : F0 ≤ F)
    (k : ∀ F', F ≤ F' → RepSl sz c F' p cap l → GC κ P cd ks Q (Hd n D S F' (hs.eraseIdx i)) m r) : GC κ P cd ks Q (Hd n D S F hs) m r :=
  fun hm a w ha => by
    obtain ⟨F', le, h1, h2⟩ := (ha.2.pull hi).freezeSl le0
    exact k F' le h2 hm a w ⟨ha.1, h1⟩
theorem RepSl.idxE {α : Type} {sz : Nat} {c : ERel α} {p : Option Addr} {cap : Nat} {l : List α} {x : Int} {z : α} (hr : RepSl sz c F p cap l) (hi : idxL l x = some z) :
    ∃ b o T fr cs, F.mem b = some (.cells (List.toArray cs) T fr) ∧ c F z ((cs.drop o).take sz) ∧ ∃ o0, p = some ⟨b, o0, none⟩ ∧ o = o0 + x.toNat * sz ∧ idxO l.length x = some x.toNat := by
  obtain ⟨h0, h1, h2⟩ := idxL_some hi
  obtain ⟨b, o, T, fr, cs, rfl, h3, h4⟩ := hr.at_ h2
  exact ⟨b, _, T, fr, cs, h3, h4, o, rfl, rfl, by unfold idxO; rw [if_pos (by omega)]⟩
theorem GL.idxQ {d : Nat} {ty t e : TypeId} {pos : String} {after : Array Edge} {ox oy : Operand} {kd : IntKind} {x : Int} {sz len cap b o : Nat} {p : Option Addr} (hd : Nat.blt d n = true) (ht : P.underlying t = some (.slice e)) (hz : ∀ w, (sizeOf e).run P w = .ok sz w)
    (hq : ∃ o0, p = some ⟨b, o0, none⟩ ∧ o = o0 + x.toNat * sz ∧ idxO len x = some x.toNat) (hx : evalS S ox = some (.slice p len cap)) (hy : evalS S oy = some (.int kd x))
    (k : GL κ P ops rest ks Q (Hd n D ((d, .pointer (some ⟨b, o, none⟩)) :: S) F hs) m r) :
    GL κ P ops (⟨some d, .indexAddr t ox oy, ty, pos, after, none⟩ :: rest) ks Q (Hd n D S F hs) m r := by
  obtain ⟨o0, rfl, rfl, hj⟩ := hq
  exact GL.indexAddrS hd ht hz hx hy hj k
end
end Go.Dec
end

section
namespace Go.Dec
variable {κ : Option Nat}
theorem run_first {α : Type} {P : Program} {sz : Nat} {c : ERel α} {F : Fz} {p : Option Addr} {cap k : Nat} {l : List α} (hc : ∀ F x vs, c F x vs → vs.length = sz) (hone : ∀ F x vs, c F x vs → vs.all Value.oneCell' = true) (h : RepSl sz c F p cap l) :
    ∃ us : List Value, us.length = l.length * sz ∧ Parts sz c F l us ∧ us.all Value.oneCell' = true ∧ ∀ w : World, (∀ b o, F.mem b = some o → w.heap[b]? = some o) → (Builtin.firstCells sz l.length (.slice p k cap)).run P w = .ok us.toArray w := by
  obtain ⟨_, _, h2⟩ := h
  rcases h2 with h | ⟨b, o, cs, T, fr, rfl, h3, h4⟩
  · subst h
    refine ⟨[], by simp, Parts.nil, rfl, fun w _ => ?_⟩
    cases p <;> simp [Builtin.firstCells, loadCells, loadCellsFrom]
  · have hp : Parts sz c F l (cs.toList.drop o) := fun i x hx F' le => by rw [List.drop_drop]; exact h4 i x hx F' le
    have hl := hp.len hc
    refine ⟨(cs.toList.drop o).take (l.length * sz), by simp at hl ⊢; omega, hp.take, hp.all hone, fun w hw => ?_⟩
    have hb' : w.heap[b]? = some (.cells cs.toList.toArray T fr) := by simpa using hw _ _ h3
    simp only [Builtin.firstCells]
    exact run_loadCells' hb' rfl (by simp at hl ⊢; omega)
def appO {α : Type} (l k : List α) : Option (List α) := if l.length + k.length ≤ 4294967296 then some (l ++ k) else none
theorem growBy_le (need : Nat) : ∀ (rounds c : Nat), c ≤ 2 * need + 1000 → Builtin.growBy need rounds c ≤ 2 * need + 1000
  | 0, c, h => by simpa only [Builtin.growBy] using h
  | rounds + 1, c, h => by
    simp only [Builtin.growBy]
    split
    · exact h
    · exact growBy_le need rounds _ (by omega)
theorem nextcap_le {need cap : Nat} (h : cap < need) : Builtin.nextslicecap need cap ≤ 4 * need + 4000 := by
  unfold Builtin.nextslicecap
  split
  · omega
  · split
    · omega
    · have := growBy_le need 4 cap (by omega); omega
theorem setMany_take : ∀ (vs cs : List Value) (o : Nat), o + vs.length ≤ cs.length → (setMany cs o vs).take (o + vs.length) = cs.take o ++ vs
  | [], cs, o, _ => by simp [setMany]
  | v :: vs, cs, o, h => by
    simp only [List.length_cons] at h
    have := setMany_take vs (cs.set o v) (o + 1) (by simp; omega)
    simp only [setMany, List.length_cons]
    rw [show o + (vs.length + 1) = o + 1 + vs.length by omega, this]
    have e : (cs.set o v).take (o + 1) = cs.take o ++ [v] := by
      rw [List.take_succ_eq_append_getElem (by simp; omega)]
      rw [List.getElem_set_self, List.take_set, List.set_eq_of_length_le (by simp; omega)]
    rw [e]; simp
def nextcapB (need cap by_ : Nat) : Prop := Builtin.nextslicecap need cap * by_ ≤ 281474976710656
theorem nextcapB_of {need cap by_ : Nat} (h : cap < need) (h1 : need ≤ 4294967296) (h2 : by_ ≤ 4096) : nextcapB need cap by_ := by
  have := nextcap_le h
  unfold nextcapB
  exact Nat.le_trans (Nat.mul_le_mul this h2) (by omega)
theorem run_append {α : Type} {P : Program} {w : World} {F0 F : Fz} {H : HP} {sz e t t2 e2 by_ : Nat} {c : ERel α} {p p2 : Option Addr} {cap cap2 : Nat} {l l2 : List α} {z : Value} {T : Array TypeId} {ty : TypeId} {ti : TypeInfo}
    (le0 : F0 ≤ F) (hc : ∀ F x vs, c F x vs → vs.length = sz) (hone : ∀ F x vs, c F x vs → vs.all Value.oneCell' = true) (ht : P.underlying t = some (.slice e)) (ht2 : P.underlying t2 = some (.slice e2)) (hz : ∀ w, (sizeOf e).run P w = .ok sz w) (hti : ∀ w, (typeInfo e).run P w = .ok ti w) (hby : ti.bytes = by_) (hb0 : by_ ≠ 0) (hb1 : by_ ≤ 4096) (hzero : ∀ w, (zeroValue e).run P w = .ok z w) (hzl : z.cells.size = sz)
    (hT0 : T[0]? = some t) (hT1 : T[1]? = some t2) (h : SH w F (star (ownSl sz c F0 e p cap l) H)) (hr : RepSl sz c F p2 cap2 l2) (hlen : l.length + l2.length ≤ 4294967296) :
    ∃ p' cap' w', (Builtin.append_ T ty #[.slice p l.length cap, .slice p2 l2.length cap2]).run P w = .ok (.slice p' (l ++ l2).length cap') w' ∧ SH w' F (star (ownSl sz c F e p' cap' (l ++ l2)) H) := by
  have hfr : ∀ b o, F.mem b = some o → w.heap[b]? = some o := fun b o e => h.frozen e
  obtain ⟨us2, hus2, hp2, hall, hsrc0⟩ := run_first (P := P) (k := l2.length) hc hone hr
  have hsrc := hsrc0 w hfr
  obtain ⟨m, ⟨m1, m2, d, s1, s2, ⟨h1, h2, h3⟩, hq⟩, k⟩ := h
  by_cases hneed : l.length + l2.length ≤ cap
  ·
    rcases h3 with ⟨rfl, rfl⟩ | ⟨b, cs, rfl, hb, hl, hp⟩
    · have e1 : l = [] := List.eq_nil_of_length_eq_zero (by omega)
      have e2 : l2 = [] := List.eq_nil_of_length_eq_zero (by omega)
      subst e1 e2
      refine ⟨none, 0, w, ?_, ⟨m, ⟨m1, m2, d, s1, s2, ⟨by simp, by simp, .inl ⟨rfl, rfl⟩⟩, hq⟩, k⟩⟩
      simp only [Builtin.append_]
      simp [hT0, hT1, rUnd ht, rUnd ht2, hz, Builtin.lenOf]
      simp only [List.length_nil] at hsrc hus2
      have : us2 = [] := List.eq_nil_of_length_eq_zero (by simpa using hus2)
      simp [hsrc, this]
    · have hh : SH w F (star (pt b (.cells cs.toArray e (0, 0))) H) := ⟨m, ⟨m1, m2, d, s1, s2, hb, hq⟩, k⟩
      have hbl := hh.owned
      have hroom : l.length * sz + us2.length ≤ cs.length := by
        rw [hus2, hl, ← Nat.add_mul]; exact Nat.mul_le_mul_right sz hneed
      have hst := run_storeCells (P := P) (o := l.length * sz) (i := 0) hbl (by simpa using hroom) hall
      simp only [Nat.add_zero] at hst
      refine ⟨some ⟨b, 0, none⟩, cap, put w b (.cells (setMany cs (l.length * sz) us2).toArray e (0, 0)), ?_, ?_⟩
      · simp only [Builtin.append_]
        simp [hT0, hT1, rUnd ht, rUnd ht2, hz, Builtin.lenOf, hsrc, hneed, add_addr, hst]
      · have hp' := hh.put (o' := .cells (setMany cs (l.length * sz) us2).toArray e (0, 0))
        refine hp'.mono fun m hm => star_mono_left (fun m' hm' => ⟨by simp; exact hneed, h2, .inr ⟨b, _, rfl, hm', by rw [length_setMany]; exact hl, ?_⟩⟩) hm
        have := setMany_take us2 cs (l.length * sz) hroom
        rw [hus2, ← Nat.add_mul] at this
        apply Parts.ofTake
        rw [List.length_append, this]
        exact (hp.mono le0).take.append hp2 (by simp; omega)
  ·
    have hn : nextcapB (l.length + l2.length) cap by_ := nextcapB_of (Nat.lt_of_not_le hneed) hlen hb1
    have hold : ∃ us : List Value, us.length = l.length * sz ∧ Parts sz c F l us ∧ ∀ w' : World, w'.heap = w.heap → (Builtin.firstCells sz l.length (.slice p l.length cap)).run P w' = .ok us.toArray w' := by
      rcases h3 with ⟨rfl, rfl⟩ | ⟨b, cs, rfl, hb, hl, hp⟩
      · have e1 : l = [] := List.eq_nil_of_length_eq_zero (by omega)
        subst e1; exact ⟨[], by simp, Parts.nil, fun w' _ => by simp [Builtin.firstCells]⟩
      · have hpl := hp.len hc
        refine ⟨cs.take (l.length * sz), by simp; omega, (hp.mono le0).take, fun w' hw' => ?_⟩
        simp only [Builtin.firstCells]
        exact run_loadCells' (cs := cs) (T := e) (fr := (0, 0)) (by rw [hw']; exact k.ownO (s1 _ _ hb)) (by simp) (by simp; omega)
    obtain ⟨us, hus, hp1, hold⟩ := hold
    have hsrc' : ∀ w' : World, w'.heap = w.heap → (Builtin.firstCells sz l2.length (.slice p2 l2.length cap2)).run P w' = .ok us2.toArray w' := fun w' hw' => hsrc0 w' fun b o e => by rw [hw']; exact hfr b o e
    have hHq : SH w F H := ⟨m2, hq, k.sub s2⟩
    generalize hq' : Question.appendCap (l.length + l2.length) cap e = q
    have hcap : l.length + l2.length ≤ q.cut (w.tape w.drawn q) ∧ q.cut (w.tape w.drawn q) ≤ 9223372036854775807 := by
      rw [← hq']
      have := Nat.mod_lt (w.tape w.drawn (Question.appendCap (l.length + l2.length) cap e)) (show 0 < 2 ^ 63 - (l.length + l2.length) by omega)
      simp only [Question.cut]; omega
    have hforced : q.forced = false := by rw [← hq']; rfl
    generalize hC : q.cut (w.tape w.drawn q) = C at hcap
    have hdrew : SH { w with drawn := w.drawn + 1 } F H := hHq.drew _
    have halloc := hdrew.alloc (.cells ((us.toArray ++ us2.toArray ++ Builtin.zeroCells z.cells (C - (l.length + l2.length)))) e)
    refine ⟨some ⟨w.heap.size, 0, none⟩, C, _, ?_, halloc.mono fun m hm => star_mono_left (fun m' hm' => ⟨by simp; exact hcap.1, hcap.2, .inr ⟨w.heap.size, (us.toArray ++ us2.toArray ++ Builtin.zeroCells z.cells (C - (l.length + l2.length))).toList, rfl, ?_, ?_, ?_⟩⟩) hm⟩
    · simp only [Builtin.append_]
      have hnb := hn
      unfold nextcapB at hnb
      have hnot : ¬ (2:Nat) ^ 48 < Builtin.nextslicecap (l.length + l2.length) cap * by_ := by omega
      have g1 := hold w.drew rfl
      have g2 := hsrc' w.drew rfl
      simp [hT0, hT1, rUnd ht, rUnd ht2, hz, Builtin.lenOf, hneed, hti, hby, hb0, hnot, hq', hforced, hC, g1, g2, hzero, newRow]
      simp only [← List.append_toArray, Array.append_assoc]
    · have hm2 : pt w.heap.size _ m' := hm'
      unfold pt at hm2 ⊢; rw [hm2]
    · have e3 : (Builtin.zeroCells z.cells (C - (l.length + l2.length))).size = (C - (l.length + l2.length)) * sz := by simp [Builtin.zeroCells, hzl]
      simp only [Array.length_toList, Array.size_append, List.size_toArray, hus, hus2, e3]
      rw [← Nat.add_mul, ← Nat.add_mul]; congr 1; omega
    · have := (hp1.append hp2 hus).weak (us2 := (Builtin.zeroCells z.cells (C - (l.length + l2.length))).toList) (by simp [hus, hus2, Nat.add_mul])
      simpa using this
section
variable {β : Type} {P : Program} {ops : Array Oper} {rest : List Oper} {ks : List Kt} {Q : Exit → Act → World → Prop} {m : Option β} {r : β}
variable {n : Nat} {D : List Deferred} {S : List (Nat × Value)} {F : Fz} {hs : List HP}
variable {d : Nat} {ty t t' t2 e e2 : TypeId} {pos : String} {after : Array Edge} {ox oy oz : Operand} {v u : Value} {kd : IntKind} {x y : Int}
structure ElemOK {α : Type} (P : Program) (e sz : Nat) (c : ERel α) : Prop where
  len : ∀ F x vs, c F x vs → vs.length = sz
  one : ∀ F x vs, c F x vs → vs.all Value.oneCell' = true
  mono : ∀ F F' x vs, F ≤ F' → c F x vs → c F' x vs
  size : ∀ w, (sizeOf e).run P w = .ok sz w
  info : ∃ ti : TypeInfo, (∀ w, (typeInfo e).run P w = .ok ti w) ∧ ti.bytes ≠ 0 ∧ ti.bytes ≤ 4096
  zero : ∃ z, (∀ w, (zeroValue e).run P w = .ok z w) ∧ z.cells.size = sz
theorem ElemOK.ex {α : Type} {P : Program} {e sz : Nat} {c : α → List Value} (len : ∀ x, (c x).length = sz) (one : ∀ x, (c x).all Value.oneCell' = true) (size : ∀ w, (sizeOf e).run P w = .ok sz w)
    (info : ∃ ti : TypeInfo, (∀ w, (typeInfo e).run P w = .ok ti w) ∧ ti.bytes ≠ 0 ∧ ti.bytes ≤ 4096) (zero : ∃ z, (∀ w, (zeroValue e).run P w = .ok z w) ∧ z.cells.size = sz) : ElemOK P e sz (Ex c) :=
  ⟨fun _ x _ h => h ▸ len x, fun _ x _ h => h ▸ one x, fun _ _ _ _ _ h => h, size, info, zero⟩
theorem GL.append {α : Type} {sz : Nat} {c : ERel α} {F0 : Fz} {p p2 : Option Addr} {cap cap2 : Nat} {l l2 : List α} {f : List α → Option β} {T : Array TypeId} (i : Nat) (E : ElemOK P e sz c) (le0 : F0 ≤ F) (hd : Nat.blt d n = true) (ht : P.underlying t = some (.slice e)) (ht2 : P.underlying t2 = some (.slice e2)) (hT0 : T[0]? = some t) (hT1 : T[1]? = some t2)
    (hi : hs[i]? = some (ownSl sz c F0 e p cap l)) (hr : RepSl sz c F p2 cap2 l2) (hx : evalS S ox = some (.slice p l.length cap)) (hy : evalS S oy = some (.slice p2 l2.length cap2))
    (k : ∀ l' p' cap', appO l l2 = some l' → GL κ P ops rest ks Q (Hd n D ((d, .slice p' l'.length cap') :: S) F (hs.set i (ownSl sz c F e p' cap' l'))) (f l') r) :
    GL κ P ops (⟨some d, .call ⟨.builtin .append, #[ox, oy], T⟩, ty, pos, after, none⟩ :: rest) ks Q (Hd n D S F hs) ((appO l l2).bind f) r :=
  GL.bind fun l' hl => by
    have hl' := hl
    unfold appO at hl
    split at hl
    · rename_i hlen
      simp only [Option.some.injEq] at hl
      subst hl
      obtain ⟨ti, hti, hb0, hb1⟩ := E.info
      obtain ⟨z, hzero, hzl⟩ := E.zero
      refine GL.step rfl (.inr rfl) fun hm a w ha => ?_
      obtain ⟨p', cap', w', hrun, hS⟩ := run_append (P := P) (T := T) (ty := ty) le0 E.len E.one ht ht2 E.size hti rfl hb0 hb1 hzero hzl hT0 hT1 (ha.2.pull hi) hr hlen
      refine ⟨_, w', ?_, k _ p' cap' hl' hm _ _ ⟨ha.1.put hd _, SH.push hi hS⟩⟩
      simp [execOp, resolve, invoke, builtin, ha.1.eval hx, ha.1.eval hy, hrun]
    · cases hl
theorem GL.sliceLit {len sz : Nat} {z : Value} {cs zc : List Value} {parts : List (Nat × Operand)} {ps : List (Nat × Value)} (hd : Nat.blt d n = true) (ht : P.underlying t = some (.slice e)) (hz : ∀ w, (sizeOf e).run P w = .ok sz w) (hzero : ∀ w, (zeroValue e).run P w = .ok z w) (h0 : Nat.blt 0 (len * sz) = true) (hbig : Nat.ble (len * sz) 16777216 = true)
    (hx : evalP S parts = some ps) (hzc : (Array.range (len * sz)).map (fun i => z.cells[i % z.cells.size]!) = zc.toArray) (hfill : Instr.fill (fun i => some (i * sz, sz)) zc.toArray ps = some cs.toArray)
    (k : ∀ b F', F ≤ F' → F'.mem b = some (.cells cs.toArray e) → GL κ P ops rest ks Q (Hd n D ((d, .slice (some ⟨b, 0, none⟩) len len) :: S) F' hs) m r) :
    GL κ P ops (⟨some d, .buildSlice t len parts.toArray, ty, pos, after, none⟩ :: rest) ks Q (Hd n D S F hs) m r :=
  GL.step rfl (.inr rfl) fun hm a w ha => by
    obtain ⟨h1, h2⟩ := ha.2.allocF (.cells cs.toArray e)
    refine ⟨.slice (some ⟨w.heap.size, 0, none⟩) len len, w.alloc (.cells cs.toArray e), ?_, k w.heap.size _ h1 (Fz.add_self ..) hm _ _ ⟨ha.1.put hd _, h2⟩⟩
    have hm' := evalP_map ha.1 hx
    have hb1 : 0 < len * sz := Nat.le_of_ble_eq_true h0
    have hb2 := Nat.le_of_ble_eq_true hbig
    have hne : ¬ len * sz = 0 := by omega
    have hgt : ¬ len * sz > 16777216 := by omega
    simp only [execOp, Instr.buildSlice, Sem.run_bind, rUnd ht, hz, Result.andThen, List.map_toArray, hm']
    simp only [Nat.reducePow, hgt, hne, if_false, Sem.run_pure, Result.andThen, Sem.run_bind, hzero, hzc, hfill, newRow, run_newObj, World.alloc_eq]
theorem RepSl.ofRow {α : Type} {sz : Nat} {c : ERel α} {F : Fz} {b T len : Nat} {cs : List Value} {fr : Nat × Nat} {l : List α} (hb : F.mem b = some (.cells cs.toArray T fr)) (hf : Parts sz c F l cs) (hl : l.length = len) (hlen : Nat.ble len 1000000 = true) : RepSl sz c F (some ⟨b, 0, none⟩) len l := by
  have := Nat.le_of_ble_eq_true hlen
  refine ⟨by omega, by omega, .inr ⟨b, 0, cs.toArray, T, fr, rfl, hb, fun i x hx F' le => ?_⟩⟩
  simpa using hf i x hx F' le
theorem Parts.cons {α : Type} {sz : Nat} {c : ERel α} {F : Fz} {x : α} {l : List α} {us : List Value} (hm : ∀ F F' x vs, F ≤ F' → c F x vs → c F' x vs) (h : c F x (us.take sz)) (h' : Parts sz c F l (us.drop sz)) : Parts sz c F (x :: l) us := fun i y hy F' le => by
  cases i with
  | zero => simp at hy; subst hy; simpa using hm _ _ _ _ le h
  | succ i =>
    have := h' i y (by simpa using hy) F' le
    rw [List.drop_drop] at this
    rwa [show (i + 1) * sz = sz + i * sz by rw [Nat.add_mul]; omega]
end
end Go.Dec
end

section
namespace Go.Dec
variable {κ : Option Nat}
abbrev w64 (n : Int) : Int := IntKind.i64.wrap n
abbrev imin (x y : Int) : Int := if y < x then y else x
def cInt (k : IntKind) (x : Int) : List Value := [.int k x]
def arrL {α : Type} (n : Nat) (f : Nat → α) : List α := (List.range n).map f
def cArr {α : Type} (n : Nat) (c : α → List Value) (f : Nat → α) : List Value := (arrL n f).flatMap c
def updN {α : Type} (f : Nat → α) (i : Nat) (x : α) : Nat → α := fun j => match Nat.beq j i with | true => x | false => f j
theorem arrL_len {α : Type} (n : Nat) (f : Nat → α) : (arrL n f).length = n := by simp [arrL]
theorem arrL_all {α : Type} {n : Nat} {f : Nat → α} {q : Nat → α → Prop} (h : ∀ j, j < n → q j (f j)) : ∀ i x, (arrL n f)[i]? = some x → q i x := by
  intro i x e
  simp only [arrL, List.getElem?_map] at e
  by_cases hi : i < n
  · simp [hi] at e; subst e; exact h i hi
  · simp [hi] at e
theorem allLt6 {p : Nat → Prop} (h0 : p 0) (h1 : p 1) (h2 : p 2) (h3 : p 3) (h4 : p 4) (h5 : p 5) : ∀ j, j < 6 → p j := by
  intro j hj; match j, hj with | 0, _ => exact h0 | 1, _ => exact h1 | 2, _ => exact h2 | 3, _ => exact h3 | 4, _ => exact h4 | 5, _ => exact h5
theorem allLt7 {p : Nat → Prop} (h0 : p 0) (h1 : p 1) (h2 : p 2) (h3 : p 3) (h4 : p 4) (h5 : p 5) (h6 : p 6) : ∀ j, j < 7 → p j := by
  intro j hj; match j, hj with | 0, _ => exact h0 | 1, _ => exact h1 | 2, _ => exact h2 | 3, _ => exact h3 | 4, _ => exact h4 | 5, _ => exact h5 | 6, _ => exact h6
theorem allLt8 {p : Nat → Prop} (h0 : p 0) (h1 : p 1) (h2 : p 2) (h3 : p 3) (h4 : p 4) (h5 : p 5) (h6 : p 6) (h7 : p 7) : ∀ j, j < 8 → p j := by
  intro j hj; match j, hj with | 0, _ => exact h0 | 1, _ => exact h1 | 2, _ => exact h2 | 3, _ => exact h3 | 4, _ => exact h4 | 5, _ => exact h5 | 6, _ => exact h6 | 7, _ => exact h7
def RepFn {α γ : Type} (P : Program) (F : Fz) (f : FuncId) (caps : List Value) (arg : α → Fz → List Value → Prop) (res : γ → Fz → Value → Prop) (m : α → Option γ) : Prop :=
  (∀ args w, (callFunc f args).run P w = .ok (.enter f args) w) ∧ ∀ F', F ≤ F' → ∀ x vs, arg x F' vs → CT0 P f (vs ++ caps).toArray F' (m x) res
def rSl {α : Type} (sz : Nat) (c : ERel α) : ERel (List α) := fun F x vs => ∃ p k, vs = [.slice p x.length k] ∧ RepSl sz c F p k x
section
variable {β : Type} {P : Program} {ops : Array Oper} {rest : List Oper} {ks : List Kt} {Q : Exit → Act → World → Prop} {A : Act → World → Prop} {m : Option β} {r : β}
variable {n : Nat} {D : List Deferred} {S S0 : List (Nat × Value)} {F F' : Fz} {hs : List HP}
theorem GC.ex {c : Code} (h : ∀ a w, A a w → ∃ A' : Act → World → Prop, A' a w ∧ GC κ P c ks Q A' m r) : GC κ P c ks Q A m r := fun hm a w ha => let ⟨_, h1, h2⟩ := h a w ha; h2 hm a w h1
theorem GE.ex (h : ∀ a w, A a w → ∃ A' : Act → World → Prop, A' a w ∧ GE κ P ks Q A' m r) : GE κ P ks Q A m r := fun hm a w ha => let ⟨_, h1, h2⟩ := h a w ha; h2 hm a w h1
theorem GE.app (h : GE κ P ks Q A m r) (hm : m = some r) (a : Act) (w : World) (ha : A a w) : interp κ P ks Q .normal a w := h hm a w ha
theorem GC.bind {α : Type} {c : Code} {e : Option α} {f : α → Option β} (h : ∀ y, e = some y → GC κ P c ks Q A (f y) r) : GC κ P c ks Q A (e.bind f) r :=
  fun hm => by
    cases e with
    | none => simp at hm
    | some y => exact h y rfl hm
theorem GC.ite {c : Code} {b : Bool} {m1 m2 : Option β} (h1 : b = true → GC κ P c ks Q A m1 r) (h2 : b = false → GC κ P c ks Q A m2 r) : GC κ P c ks Q A (if b then m1 else m2) r := by
  cases hb : b with
  | true => rw [if_pos rfl]; exact h1 hb
  | false => rw [if_neg (by simp)]; exact h2 hb
theorem GC.drop {c : Code} (i : Nat) (k : GC κ P c ks Q (Hd n D S F (hs.eraseIdx i)) m r) : GC κ P c ks Q (Hd n D S F hs) m r := GC.weak (fun _ _ h => ⟨h.1, h.2.eraseAt i⟩) k
theorem LPost.norm {σ γ : Type} {I : σ → Act → World → Prop} {Dn : γ → Exit → Act → World → Prop} {s : σ} {ctl : Ctl σ γ} (h : ∀ a w, A a w → I s a w) : some (Ctl.next s) = some ctl → ∀ a w, A a w → LPost I Dn ctl .normal a w := fun e a w ha => by
  simp only [Option.some.injEq] at e; subst e; exact ⟨rfl, h a w ha⟩
theorem LPost.exit {σ γ : Type} {I : σ → Act → World → Prop} {Dn : γ → Exit → Act → World → Prop} {b : γ} {id : Nat} {ctl : Ctl σ γ} (h : ∀ a w, A a w → Dn b (.exit id) a w) : some (Ctl.done b) = some ctl → ∀ a w, A a w → LPost I Dn ctl (.exit id) a w := fun e a w ha => by
  simp only [Option.some.injEq] at e; subst e; exact ⟨by simp, h a w ha⟩
theorem LPost.ret {σ γ : Type} {I : σ → Act → World → Prop} {Dn : γ → Exit → Act → World → Prop} {b : γ} {ctl : Ctl σ γ} (h : ∀ a w, A a w → Dn b .ret a w) : some (Ctl.done b) = some ctl → ∀ a w, A a w → LPost I Dn ctl .ret a w := fun e a w ha => by
  simp only [Option.some.injEq] at e; subst e; exact ⟨by simp, h a w ha⟩
theorem GL.finZ {S' : List (Nat × Value)} {d : Nat} {x z : Bool} (j : Nat) (hv : lookS S' d = some (.bool x)) (hd : S'.drop j = S) (hf : fresh S (S'.take j) = true) (le : F ≤ F') :
    GL κ P ops [] [] (SegPost n D d (.bool z) S F hs) (Hd n D S' F' hs) (some x) z := fun e a w ha => by
  simp only [Option.some.injEq] at e; subst e
  exact ⟨rfl, F', le, ha.1.sub (Sub.cons hv (sub_of_drop j hd hf)), ha.2⟩
theorem GL.nilCheck {d : Nat} {ty : TypeId} {pos : String} {after : Array Edge} {ox : Operand} {p : Addr} (hd : Nat.blt d n = true) (hx : evalS S ox = some (.pointer (some p))) (k : GL κ P ops rest ks Q (Hd n D ((d, .pointer (some p)) :: S) F hs) m r) :
    GL κ P ops (⟨some d, .nilCheck ox, ty, pos, after, none⟩ :: rest) ks Q (Hd n D S F hs) m r :=
  GL.val hd (fun a w ha => by simp [execOp, ha.1.eval hx]) k
theorem GL.eqlR {d : Nat} {ty t t' : TypeId} {pos : String} {after : Array Edge} {ox oy : Operand} {xs ys : Array Value} {b : Bool} (hd : Nat.blt d n = true) (hg : P.eqGuardType P.depth t = false) (hq : ∀ w, (Op.equal t (.agg xs) (.agg ys)).run P w = .ok b w)
    (hx : evalS S ox = some (.agg xs)) (hy : evalS S oy = some (.agg ys)) (k : GL κ P ops rest ks Q (Hd n D ((d, .bool b) :: S) F hs) m r) :
    GL κ P ops (⟨some d, .binOp .eql t ox oy t', ty, pos, after, none⟩ :: rest) ks Q (Hd n D S F hs) m r :=
  GL.val hd (fun a w ha => by simp [execOp, ha.1.eval hx, ha.1.eval hy, eqGuard, binOp, hg, hq]) k
theorem GL.neqR {d : Nat} {ty t t' : TypeId} {pos : String} {after : Array Edge} {ox oy : Operand} {xs ys : Array Value} {b : Bool} (hd : Nat.blt d n = true) (hg : P.eqGuardType P.depth t = false) (hq : ∀ w, (Op.equal t (.agg xs) (.agg ys)).run P w = .ok b w)
    (hx : evalS S ox = some (.agg xs)) (hy : evalS S oy = some (.agg ys)) (k : GL κ P ops rest ks Q (Hd n D ((d, .bool (!b)) :: S) F hs) m r) :
    GL κ P ops (⟨some d, .binOp .neq t ox oy t', ty, pos, after, none⟩ :: rest) ks Q (Hd n D S F hs) m r :=
  GL.val hd (fun a w ha => by simp [execOp, ha.1.eval hx, ha.1.eval hy, eqGuard, binOp, hg, hq]) k
end
end Go.Dec
end

section
namespace Go.Dec
variable {κ : Option Nat}
theorem setMany_all {cs vs : List Value} (h : cs.length = vs.length) : setMany cs 0 vs = vs := by
  have h1 := setMany_take vs cs 0 (by omega)
  simp only [Nat.zero_add, List.take_zero, List.nil_append] at h1
  rwa [List.take_of_length_le (by rw [length_setMany]; omega)] at h1
end Go.Dec
end

section
namespace Go.Dec
variable {κ : Option Nat}
theorem own_at {α : Type} {w : World} {F F0 : Fz} {H : HP} {sz : Nat} {c : ERel α} {T : TypeId} {p : Option Addr} {cap : Nat} {l : List α} {k : Nat} {z : α} (h : SH w F (star (ownSl sz c F0 T p cap l) H)) (hl : l[k]? = some z) :
    ∃ b cs, p = some ⟨b, 0, none⟩ ∧ cs.length = cap * sz ∧ l.length ≤ cap ∧ Parts sz c F0 l cs ∧ SH w F (star (pt b (.cells (List.toArray cs) T (0, 0))) H) ∧ cap ≤ 9223372036854775807 := by
  obtain ⟨m, ⟨m1, m2, d, s1, s2, ⟨h1, h2, h3⟩, hq⟩, k'⟩ := h
  have := lt_of_getEl hl
  rcases h3 with ⟨rfl, h0⟩ | ⟨b, cs, rfl, hb, hlen, hp⟩
  · omega
  · exact ⟨b, cs, rfl, hlen, h1, hp, ⟨m, ⟨m1, m2, d, s1, s2, hb, hq⟩, k'⟩, h2⟩
section
variable {β : Type} {P : Program} {ops : Array Oper} {rest : List Oper} {ks : List Kt} {Q : Exit → Act → World → Prop} {m : Option β} {r : β}
variable {n : Nat} {D : List Deferred} {S : List (Nat × Value)} {F F0 : Fz} {hs : List HP}
variable {d : Nat} {ty t t' e : TypeId} {pos : String} {after : Array Edge} {ox oy oz : Operand} {v u : Value} {kd : IntKind} {x y : Int}
theorem GL.ownAddr {α : Type} {sz : Nat} {c : ERel α} {T : TypeId} {p : Option Addr} {cap : Nat} {l : List α} {z : α} {l0 : List Oper} (i : Nat) (hi : hs[i]? = some (ownSl sz c F0 T p cap l)) (hl : idxL l x = some z)
    (k : ∀ b, p = some ⟨b, 0, none⟩ → GL κ P ops l0 ks Q (Hd n D S F hs) m r) : GL κ P ops l0 ks Q (Hd n D S F hs) m r := fun hm a w ha => by
  obtain ⟨b, _, hp, _⟩ := own_at (ha.2.pull hi) (idxL_some hl).2.2
  exact k b hp hm a w ha
theorem GL.idxOwn {α : Type} {sz : Nat} {p : Option Addr} {cap b : Nat} {l : List α} {z : α} (hd : Nat.blt d n = true) (ht : P.underlying t = some (.slice e)) (hz : ∀ w, (sizeOf e).run P w = .ok sz w)
    (hp : p = some ⟨b, 0, none⟩) (hl : idxL l x = some z) (hx : evalS S ox = some (.slice p l.length cap)) (hy : evalS S oy = some (.int kd x))
    (k : GL κ P ops rest ks Q (Hd n D ((d, .pointer (some ⟨b, 0 + x.toNat * sz, none⟩)) :: S) F hs) m r) :
    GL κ P ops (⟨some d, .indexAddr t ox oy, ty, pos, after, none⟩ :: rest) ks Q (Hd n D S F hs) m r := by
  subst hp
  obtain ⟨h0, h1, _⟩ := idxL_some hl
  exact GL.indexAddrS hd ht hz hx hy (by unfold idxO; rw [if_pos (by omega)]) k
theorem Sl.reslot {a : Act} {v v' : Value} (h : Sl n D S a) (hl : lookS S d = some v) (e : v = v') : Sl n D ((d, v') :: S) a :=
  ⟨h.1, h.2.1, fun i u hu => by
    simp only [lookS] at hu
    cases hb : Nat.beq d i with
    | true =>
      rw [hb] at hu
      have : d = i := Nat.eq_of_beq_eq_true hb
      subst this
      simp only [Option.some.injEq] at hu
      rw [← hu, ← e]; exact h.2.2 _ _ hl
    | false => rw [hb] at hu; exact h.2.2 i u hu⟩
theorem GL.reslot {l0 : List Oper} {v v' : Value} (d : Nat) (hl : lookS S d = some v) (e : v = v') (k : GL κ P ops l0 ks Q (Hd n D ((d, v') :: S) F hs) m r) : GL κ P ops l0 ks Q (Hd n D S F hs) m r :=
  fun hm a w ha => k hm a w ⟨ha.1.reslot hl e, ha.2⟩
theorem GE.reslot {v v' : Value} (d : Nat) (hl : lookS S d = some v) (e : v = v') (k : GE κ P ks Q (Hd n D ((d, v') :: S) F hs) m r) : GE κ P ks Q (Hd n D S F hs) m r :=
  fun hm a w ha => k hm a w ⟨ha.1.reslot hl e, ha.2⟩
theorem GL.loadOwnA {α : Type} {sz b off o sz' : Nat} {c : ERel α} {T : TypeId} {p : Option Addr} {cap : Nat} {l : List α} {z : α} {Φ : List Value → Prop} (i : Nat) (hi : hs[i]? = some (ownSl sz c F0 T p cap l)) (le0 : F0 ≤ F) (hd : Nat.blt d n = true) (hA : ∀ w, (isAgg t).run P w = .ok true w) (hz : ∀ w, (sizeOf t).run P w = .ok sz' w)
    (hp : p = some ⟨b, 0, none⟩) (hl : idxL l x = some z) (hx : evalS S ox = some (.pointer (some ⟨b, o, none⟩))) (ho : o = 0 + x.toNat * sz + off) (hs' : Nat.ble (off + sz') sz = true)
    (hg : ∀ vs, c F z vs → ∃ us, (vs.drop off).take sz' = us ∧ us.length = sz' ∧ Φ us) (k : ∀ us, Φ us → GL κ P ops rest ks Q (Hd n D ((d, .agg us.toArray) :: S) F hs) m r) :
    GL κ P ops (⟨some d, .load t ox, ty, pos, after, none⟩ :: rest) ks Q (Hd n D S F hs) m r := by
  refine GL.step rfl (.inr rfl) fun hm a w ha => ?_
  obtain ⟨b', cs, hp', hlen, hcap, hparts, hsh, _⟩ := own_at (ha.2.pull hi) (idxL_some hl).2.2
  rw [hp] at hp'; cases hp'
  obtain ⟨us, hv, hul, hΦ⟩ := hg _ (hparts _ _ (idxL_some hl).2.2 F le0)
  refine ⟨.agg us.toArray, w, ?_, k us hΦ hm _ _ ⟨ha.1.put hd _, ha.2⟩⟩
  have hc : (cs.drop o).take sz' = us := by subst ho; rw [Nat.zero_add]; exact take_of_take rfl hv hs'
  simp [execOp, ha.1.eval hx, run_loadA hA hz hsh.owned hc hul]
theorem setMany_drop_lt : ∀ (vs cs : List Value) (o k : Nat), o + vs.length ≤ k → (setMany cs o vs).drop k = cs.drop k
  | [], cs, o, k, _ => rfl
  | v :: vs, cs, o, k, h => by
    simp only [List.length_cons] at h
    simp only [setMany]
    rw [setMany_drop_lt vs _ _ k (by omega), List.drop_set_of_lt (by omega)]
theorem setMany_take_ge : ∀ (vs cs : List Value) (o k : Nat), k ≤ o → (setMany cs o vs).take k = cs.take k
  | [], cs, o, k, _ => rfl
  | v :: vs, cs, o, k, h => by
    simp only [setMany]
    rw [setMany_take_ge vs _ _ k (by omega), List.take_set_of_le (by omega)]
theorem setMany_shift : ∀ (vs cs : List Value) (o a : Nat), (setMany cs (a + o) vs).drop a = setMany (cs.drop a) o vs
  | [], cs, o, a => rfl
  | v :: vs, cs, o, a => by
    simp only [setMany]
    rw [show a + o + 1 = a + (o + 1) by omega, setMany_shift vs _ (o + 1) a]
    congr 1
    rw [List.drop_set, if_neg (by omega)]; congr 1; omega
theorem setMany_prefix : ∀ (vs cs : List Value) (o n : Nat), o + vs.length ≤ n → (setMany cs o vs).take n = setMany (cs.take n) o vs
  | [], cs, o, n, _ => rfl
  | v :: vs, cs, o, n, h => by
    simp only [List.length_cons] at h
    simp only [setMany]
    rw [setMany_prefix vs _ (o + 1) n (by omega)]
    congr 1
    rw [List.take_set]
theorem Parts.set {α : Type} {sz off k : Nat} {c : ERel α} {F0 F : Fz} {l : List α} {cs us : List Value} {z z' : α} (h : Parts sz c F0 l cs) (le0 : F0 ≤ F) (hl : l[k]? = some z) (ho : off + us.length ≤ sz) (hr : ∀ F' vs, F ≤ F' → c F' z vs → c F' z' (setMany vs off us)) : Parts sz c F (l.set k z') (setMany cs (k * sz + off) us) := by
  intro i x hx F' le
  have hk := lt_of_getEl hl
  rw [List.getElem?_set] at hx
  split at hx
  · rename_i e; subst e
    cases hx
    have := hr F' _ le (h k z hl F' (Fz.le_trans le0 le))
    rw [setMany_shift, setMany_prefix _ _ _ _ ho]; exact this
  · rename_i hne
    have h0 := h i x hx F' (Fz.le_trans le0 le)
    rcases Nat.lt_or_gt_of_ne hne with hlt | hgt
    ·
      have : k * sz + off + us.length ≤ i * sz := by
        have := Nat.mul_le_mul_right sz (show k + 1 ≤ i from hlt)
        rw [Nat.add_mul, Nat.one_mul] at this; omega
      rw [setMany_drop_lt _ _ _ _ this]; exact h0
    · have hle : (i + 1) * sz ≤ k * sz + off := by
        have := Nat.mul_le_mul_right sz (show i + 1 ≤ k from hgt)
        omega
      rw [Nat.add_mul, Nat.one_mul] at hle
      have e1 : ((setMany cs (k * sz + off) us).drop (i * sz)).take sz = ((setMany cs (k * sz + off) us).take (i * sz + sz)).drop (i * sz) := by rw [List.drop_take]; congr 1; omega
      have e2 : (cs.drop (i * sz)).take sz = (cs.take (i * sz + sz)).drop (i * sz) := by rw [List.drop_take]; congr 1; omega
      rw [e1, setMany_take_ge _ _ _ _ hle, ← e2]; exact h0
theorem GL.storeOwn0 {α : Type} {sz b off o sz' : Nat} {c : ERel α} {T : TypeId} {p : Option Addr} {cap : Nat} {l l' : List α} {z z' : α} {us : List Value} (i : Nat) (hi : hs[i]? = some (ownSl sz c F0 T p cap l)) (hz : ∀ w, (sizeOf t).run P w = .ok sz' w)
    (hp : p = some ⟨b, 0, none⟩) (hl : idxL l x = some z) (hx : evalS S ox = some (.pointer (some ⟨b, o, none⟩))) (ho : o = 0 + x.toNat * sz + off) (hy : evalS S oy = some v) (hc : v.cells = us.toArray) (hlen : us.length = sz') (h1 : us.all Value.oneCell' = true) (hs' : Nat.ble (off + sz') sz = true)
    (hr : ∀ F' vs, F0 ≤ F' → c F' z vs → c F' z' (setMany vs off us)) (he : l' = l.set x.toNat z')
    (k : GL κ P ops rest ks Q (Hd n D S F (hs.set i (ownSl sz c F0 T p cap l'))) m r) :
    GL κ P ops (⟨none, .store t ox oy, ty, pos, after, none⟩ :: rest) ks Q (Hd n D S F hs) m r := by
  subst he
  refine GL.stepU rfl (.inr rfl) fun hm a w ha => ?_
  obtain ⟨h0, hlt, hel⟩ := idxL_some hl
  obtain ⟨b', cs, hp', hcl, hcap, hparts, hsh, hbig⟩ := own_at (ha.2.pull hi) hel
  rw [hp] at hp'; cases hp'
  have hs'' := Nat.le_of_ble_eq_true hs'
  have hroom : x.toNat * sz + off + us.length ≤ cs.length := by
    have := Nat.mul_le_mul_right sz (show x.toNat + 1 ≤ cap by omega)
    rw [Nat.add_mul, Nat.one_mul] at this; rw [hcl]; omega
  refine ⟨put w b (.cells (setMany cs (x.toNat * sz + off) us).toArray T (0, 0)), ?_, k hm _ _ ⟨ha.1.put_none _, SH.push hi (hsh.put.mono fun m hm => star_mono_left (fun m' hm' => ⟨by simpa using hcap, hbig, .inr ⟨b, _, hp, hm', by rw [length_setMany]; exact hcl, hparts.set (Fz.le_refl _) hel (by omega) hr⟩⟩) hm)⟩⟩
  have hrun := run_storeCells (P := P) (o := x.toNat * sz + off) (i := 0) hsh.owned (by simpa using hroom) h1
  simp only [Nat.add_zero] at hrun
  subst ho
  simp only [execOp, Instr.storeAt, ha.1.eval hx, ha.1.eval hy, Instr.sureAddr, storeVar, Sem.run_bind, hz, Result.andThen, hc]
  simp [hlen, hrun]
end
end Go.Dec
end

section
namespace Go.Dec
variable {κ : Option Nat}
section
variable {β : Type} {P : Program} {ops : Array Oper} {rest : List Oper} {ks : List Kt} {Q : Exit → Act → World → Prop} {m : Option β} {r : β}
variable {n : Nat} {D : List Deferred} {S : List (Nat × Value)} {F F0 : Fz} {hs : List HP}
variable {d : Nat} {ty t t' e : TypeId} {pos : String} {after : Array Edge} {ox oy oz : Operand} {v u : Value} {kd : IntKind} {x y : Int}
variable {K V : Type} {ck : K → Value} {rv : Fz → V → Value → Prop}
variable [BEq K]
def mkO (len cap : Int) : Option Nat := if 0 ≤ len ∧ len ≤ cap ∧ cap ≤ 4294967296 then some len.toNat else none
theorem zero_part {zero : Array Value} {sz cap i : Nat} (hz : zero.size = sz) (hi : i < cap) : ((((Array.range (cap * sz)).map (fun j => zero[j % zero.size]!)).toList.drop (i * sz)).take sz) = zero.toList := by
  have hroom : i * sz + sz ≤ cap * sz := by
    have := Nat.mul_le_mul_right sz (show i + 1 ≤ cap from hi)
    rw [Nat.add_mul, Nat.one_mul] at this; exact this
  apply List.ext_getElem?
  intro j
  by_cases hj : j < sz
  · rw [List.getElem?_take, if_pos hj, List.getElem?_drop]
    have h1 : i * sz + j < cap * sz := by omega
    have h2 : (i * sz + j) % sz = j := by rw [Nat.add_comm, Nat.add_mul_mod_self_right, Nat.mod_eq_of_lt hj]
    have h3 : j < zero.size := by omega
    simp [h1, hz, h2]
    rw [getElem!_pos zero j h3]
    simp [h3]
  · rw [List.getElem?_take, if_neg hj, List.getElem?_eq_none (by simp; omega)]
theorem Parts.rep {α : Type} {sz : Nat} {c : ERel α} {F : Fz} {z : α} {zero : Array Value} {k cap : Nat} (hz : zero.size = sz) (h : k ≤ cap) (hc : ∀ F', F ≤ F' → c F' z zero.toList) : Parts sz c F (List.replicate k z) ((Array.range (cap * sz)).map (fun j => zero[j % zero.size]!)).toList := fun i x hx F' le => by
  have hi := lt_of_getEl hx
  simp only [List.length_replicate] at hi
  rw [List.getElem?_replicate, if_pos hi] at hx; cases hx
  rw [zero_part hz (by omega)]; exact hc F' le
theorem GL.makeSlice {α : Type} {c : ERel α} {sz : Nat} {z : α} {zv : Value} {kd' : IntKind} {f : Nat → Option β} (E : ElemOK P e sz c) (hd : Nat.blt d n = true) (ht : P.underlying t = some (.slice e)) (hzv : ∀ w, (zeroValue e).run P w = .ok zv w) (hzc : ∀ F', F ≤ F' → c F' z zv.cells.toList) (hx : evalS S ox = some (.int kd x)) (hy : evalS S oy = some (.int kd' y))
    (k : ∀ len b, mkO x y = some len → GL κ P ops rest ks Q (Hd n D ((d, .slice (some ⟨b, 0, none⟩) (List.replicate len z).length y.toNat) :: S) F (ownSl sz c F e (some ⟨b, 0, none⟩) y.toNat (List.replicate len z) :: hs)) (f len) r) :
    GL κ P ops (⟨some d, .makeSlice t ox oy, ty, pos, after, none⟩ :: rest) ks Q (Hd n D S F hs) ((mkO x y).bind f) r := by
  refine GL.bind fun len hlen => ?_
  have hk := fun b => k len b hlen
  unfold mkO at hlen
  split at hlen
  · rename_i hb
    cases hlen
    refine GL.step rfl (.inr rfl) fun hm a w ha => ?_
    obtain ⟨ti, hti, hb0, hb1⟩ := E.info
    have hsz : zv.cells.size = sz := by
      have := E.len _ _ _ (hzc F (Fz.le_refl F)); simpa using this
    have h1 := ha.2.alloc (.cells ((Array.range (y.toNat * sz)).map (fun j => zv.cells[j % zv.cells.size]!)) e)
    refine ⟨_, w.alloc (.cells ((Array.range (y.toNat * sz)).map (fun j => zv.cells[j % zv.cells.size]!)) e), ?_, hk w.heap.size hm _ _ ⟨ha.1.put hd _, h1.mono fun m hm => star_mono_left (fun m' hm' => ⟨by simp; omega, by omega, .inr ⟨_, ((Array.range (y.toNat * sz)).map (fun j => zv.cells[j % zv.cells.size]!)).toList, rfl, by (have hm2 : pt _ _ m' := hm'; unfold pt at hm2 ⊢; rw [hm2]), by simp, Parts.rep hsz (by omega) hzc⟩⟩) hm⟩⟩
    have hw1 : IntKind.i64.wrap x = x := by simp [IntKind.wrap, IntKind.bits, IntKind.signed]; omega
    have hw2 : IntKind.i64.wrap y = y := by simp [IntKind.wrap, IntKind.bits, IntKind.signed]; omega
    have hby : (ti.bytes : Int) * y ≤ 2 ^ 48 := by
      have h1 : (ti.bytes : Int) ≤ 4096 := by omega
      have h2 : (ti.bytes : Int) * y ≤ 4096 * y := Int.mul_le_mul_of_nonneg_right h1 (by omega)
      omega
    have hneg : ¬ y < 0 := by omega
    have hneg' : ¬ x < 0 := by omega
    have hxy : ¬ x > y := by omega
    have hbig : ¬ (281474976710656 : Int) < (ti.bytes : Int) * y := by omega
    have i1 : ∀ w : World, (asInt (.int kd x)).run P w = .ok x w := fun w => by simp [asInt, asIntOf]
    have i2 : ∀ w : World, (asInt (.int kd' y)).run P w = .ok y w := fun w => by simp [asInt, asIntOf]
    simp only [execOp, ha.1.eval hx, ha.1.eval hy, Instr.makeSlice, Sem.run_bind, rUnd ht, Result.andThen, i1, i2, hti, hw1, hw2]
    by_cases hn : y.toNat * sz = 0
    · simp [hneg, hneg', hxy, hbig, E.size, hn, newRow, askRoom]
      rw [show Array.range 0 = #[] from rfl]; simp
    · simp [hneg, hneg', hxy, hbig, E.size, hn, hzv, newRow, askRoom]
  · cases hlen
theorem RepSl.isNil {α : Type} {sz : Nat} {c : ERel α} {F : Fz} {cap : Nat} {l : List α} (h : RepSl sz c F none cap l) : l = [] := by
  rcases h.2.2 with h | ⟨_, _, _, _, _, h, _⟩
  · exact h
  · cases h
theorem eq_nil {t e : TypeId} {p : Option Addr} {len cap : Nat} {w : World} (ht : P.underlying t = some (.slice e)) (n : Nat) : (Op.equalIn (n + 1) t (.slice p len cap) (.slice none 0 0)).run P w = .ok p.isNone w := by
  cases p <;> simp [Op.equalIn, rUnd ht]
theorem GL.eqlNil {p : Option Addr} {len cap : Nat} (hd : Nat.blt d n = true) (ht : P.underlying t = some (.slice e)) (hx : evalS S ox = some (.slice p len cap)) (hy : evalS S oy = some (.slice none 0 0)) (k : GL κ P ops rest ks Q (Hd n D ((d, .bool p.isNone) :: S) F hs) m r) :
    GL κ P ops (⟨some d, .binOp .eql t ox oy t', ty, pos, after, none⟩ :: rest) ks Q (Hd n D S F hs) m r :=
  GL.val hd (fun a w ha => by
    have hq : (Op.equal t (.slice p len cap) (.slice none 0 0)).run P w = .ok p.isNone w := eq_nil ht 9999
    have hg : P.eqGuardType P.depth t = false ∨ P.eqGuardType P.depth t = true := by cases P.eqGuardType P.depth t <;> simp
    simp [execOp, ha.1.eval hx, ha.1.eval hy, eqGuard, binOp, hq]) k
end
end Go.Dec
end

section
namespace Go.Dec
variable {κ : Option Nat}
structure Env where
  a : Nat → Option Addr
  n : Nat → Nat
  c : Nat → List Value
  f : Nat → Fz
  o : Nat → Option Nat
abbrev ValF : Type := Value × (Fz → Prop)
def maskL {α : Type} : List Bool → List α → List (Option α)
  | b :: bs, x :: xs => (bif b then some x else none) :: maskL bs xs
  | _, _ => []
theorem maskL_get {α : Type} : ∀ {M : List Bool} {x y : List α} {j : Nat} {q : α}, maskL M x = maskL M y → M[j]? = some true → x[j]? = some q → y[j]? = some q
  | [], _, _, j, _, _, h, _ => by simp at h
  | b :: M, [], _, j, _, _, _, h => by simp at h
  | b :: M, x :: xs, [], j, _, h, _, _ => by simp [maskL] at h
  | b :: M, x :: xs, y :: ys, 0, q, h, hb, hx => by
    simp at hb hx; subst hb hx
    simp only [maskL, cond_true, List.cons.injEq, Option.some.injEq] at h
    simp [h.1]
  | b :: M, x :: xs, y :: ys, j + 1, q, h, hb, hx => by
    simp only [maskL, List.cons.injEq] at h
    have := maskL_get (j := j) (q := q) h.2 (by simpa using hb) (by simpa using hx)
    simpa using this
def depB (l : List Oper) : Nat → Nat → Nat → Bool
  | 0, _, _ => false
  | k + 1, i, j => match l[i]? with
    | none => false
    | some o => o.after.toList.any fun e => Region.binds .any e && (Nat.beq e.on j || depB l k e.on j)
def Down (l : List Oper) (L : Nat → Bool) : Prop := ∀ i o, l[i]? = some o → L i = true → ∀ e ∈ o.after, Region.binds .any e = true → L e.on = true
theorem dep_true {l : List Oper} {L : Nat → Bool} (hd : Down l L) : ∀ {k i j : Nat}, depB l k i j = true → (∀ o, l[i]? = some o → ∀ e ∈ o.after, Region.binds .any e = true → L e.on = true) → L j = true
  | 0, i, j, h, _ => by simp [depB] at h
  | k + 1, i, j, h, hi => by
    simp only [depB] at h
    split at h
    · cases h
    · rename_i o ho
      simp only [List.any_eq_true, Bool.and_eq_true, Bool.or_eq_true] at h
      obtain ⟨e, he, hb, h⟩ := h
      have hon := hi o ho e (by simpa using he) hb
      rcases h with h | h
      · rw [← Nat.eq_of_beq_eq_true h]; exact hon
      · exact dep_true hd h fun o' ho' e' he' hb' => hd e.on o' ho' hon e' he' hb'
def closB (l : List Oper) (i : Nat) : Nat → List Bool → List Bool → Bool
  | _, _, [] => true
  | j, M, b :: bs => (b || Nat.beq j i || (match l[j]? with
    | none => false
    | some o => o.after.toList.any fun e => Region.binds .any e && (Nat.beq e.on i || (Nat.blt e.on j && (M[e.on]?).getD true == false)))) && closB l i (j + 1) M bs
theorem closB_spec {l : List Oper} {i : Nat} {M : List Bool} : ∀ {bs : List Bool} {j0 : Nat}, closB l i j0 M bs = true → ∀ t, bs[t]? = some false → j0 + t = i ∨ ∃ o e, l[j0 + t]? = some o ∧ e ∈ o.after ∧ Region.binds .any e = true ∧ (e.on = i ∨ (e.on < j0 + t ∧ M[e.on]? = some false))
  | [], _, _, t, h => by simp at h
  | b :: bs, j0, hb, 0, h => by
    simp at h; subst h
    simp only [closB, Bool.false_or, Bool.and_eq_true, Bool.or_eq_true] at hb
    rcases hb.1 with h | h
    · exact .inl (Nat.eq_of_beq_eq_true h)
    · right
      split at h
      · cases h
      · rename_i o ho
        simp only [List.any_eq_true, Bool.and_eq_true, Bool.or_eq_true] at h
        obtain ⟨e, he, hbi, h⟩ := h
        refine ⟨o, e, ho, by simpa using he, hbi, ?_⟩
        rcases h with h | ⟨h1, h2⟩
        · exact .inl (Nat.eq_of_beq_eq_true h)
        · refine .inr ⟨Nat.le_of_ble_eq_true h1, ?_⟩
          cases hm : M[e.on]? with
          | none => rw [hm] at h2; simp at h2
          | some b => rw [hm] at h2; simp at h2; rw [h2]
  | b :: bs, j0, hb, t + 1, h => by
    simp only [closB, Bool.and_eq_true] at hb
    have := closB_spec hb.2 t (by simpa using h)
    rwa [show j0 + 1 + t = j0 + (t + 1) by omega] at this
theorem mask_true {l : List Oper} {i : Nat} {M : List Bool} {L : Nat → Bool} (hd : Down l L) (hi : L i = false) (hc : closB l i 0 M M = true) : ∀ (j : Nat), L j = true → j < M.length → M[j]? = some true := fun j => by
  induction j using Nat.strongRecOn with
  | ind j ih =>
    intro hj hlt
    cases hm : M[j]? with
    | none => rw [List.getElem?_eq_none_iff] at hm; omega
    | some b =>
      cases b with
      | true => rfl
      | false =>
        exfalso
        have := closB_spec hc j hm
        rw [Nat.zero_add] at this
        rcases this with rfl | ⟨o, e, ho, he, hb, h⟩
        · rw [hi] at hj; cases hj
        · have hon := hd j o ho hj e he hb
          rcases h with h | ⟨hlt', h⟩
          · rw [h, hi] at hon; cases hon
          · have := ih e.on hlt' hon (lt_of_getEl h)
            rw [h] at this; cases this
def dstOf (l : List Oper) (j : Nat) : Option Nat := (l[j]?).bind (·.dst)
section
variable {β : Type} {P : Program} {ks : List Kt} {Q : Exit → Act → World → Prop} {m : Option β} {r : β}
variable {n : Nat} {D : List Deferred} {S0 : List (Nat × Value)} {F : Fz}
def GPost (n : Nat) (D : List Deferred) (l : List Oper) (X : Env → List ValF) (C : (Nat → Bool) → Env → List HP) (L : Nat → Bool) (env : Env) (F' : Fz) (i : Nat) (dst : Option Nat) (S : List (Nat × Value)) : Exit → Act → World → Prop := fun e a w =>
  e = .normal ∧ ∃ env' F'', F' ≤ F'' ∧ (∃ M, M.length = (X env).length ∧ closB l i 0 M M = true ∧ maskL M (X env) = maskL M (X env')) ∧ ∃ q, (X env')[i]? = some q ∧ (∀ G, F'' ≤ G → q.2 G) ∧
    Hd n D (match dst with | some d => (d, q.1) :: S | none => S) F'' (C (updB L i) env') a w
def OpG (κ : Option Nat) (P : Program) (ops : Array Oper) (l : List Oper) (n : Nat) (D : List Deferred) (S0 : List (Nat × Value)) (F : Fz) (X : Env → List ValF) (C : (Nat → Bool) → Env → List HP) (i : Nat) (o : Oper) : Prop :=
  ∀ L env F', F ≤ F' → L i = false → (∀ k j, depB l k i j = true → L j = true) → (∀ k j, depB l k j i = true → L j = false) → (∀ (j : Nat) (q : ValF), L j = true → (X env)[j]? = some q → ∀ G, F' ≤ G → q.2 G) →
    ∃ Si, (∀ S, Sub S0 S → (∀ (j d : Nat) (v : Value), L j = true → dstOf l j = some d → ((X env)[j]?).map Prod.fst = some v → lookS S d = some v) → Sub Si S) ∧
      GL κ P ops [o] [] (GPost n D l X C L env F' i o.dst Si) (Hd n D Si F' (C L env)) (some ()) ()
def OpsG (κ : Option Nat) (P : Program) (ops : Array Oper) (l : List Oper) (n : Nat) (D : List Deferred) (S0 : List (Nat × Value)) (F : Fz) (X : Env → List ValF) (C : (Nat → Bool) → Env → List HP) : Nat → List Oper → Prop
  | _, [] => True
  | i, o :: os => OpG κ P ops l n D S0 F X C i o ∧ OpsG κ P ops l n D S0 F X C (i + 1) os
theorem OpsG.get {ops : Array Oper} {l : List Oper} {X : Env → List ValF} {C : (Nat → Bool) → Env → List HP} : ∀ {k : Nat} {os : List Oper}, OpsG κ P ops l n D S0 F X C k os → ∀ i o, os[i]? = some o → OpG κ P ops l n D S0 F X C (k + i) o
  | _, [], _, i, o, h => by simp at h
  | k, x :: os, hb, 0, o, h => by simp at h; subst h; exact hb.1
  | k, x :: os, hb, i + 1, o, h => by
    have := OpsG.get hb.2 i o (by simpa using h)
    rwa [show k + 1 + i = k + (i + 1) by omega] at this
theorem g_frame {ops : Array Oper} {o : Oper} {a : Act} {w : World} {l : List Oper} {X : Env → List ValF} {C : (Nat → Bool) → Env → List HP} {L : Nat → Bool} {env : Env} {F' : Fz} {i : Nat} {S Si : List (Nat × Value)} (hn : ∀ d, o.dst = some d → Nat.blt d n = true) (ha : Sl n D S a)
    (h : wpL κ P ops (GPost n D l X C L env F' i o.dst Si) [o] a w) : wpL κ P ops (GPost n D l X C L env F' i o.dst S) [o] a w := by
  have key : ∀ u w', GPost n D l X C L env F' i o.dst Si .normal (a.put o.dst u) w' → GPost n D l X C L env F' i o.dst S .normal (a.put o.dst u) w' := by
    rintro u w' ⟨_, env', F'', le, hM, q, hq, hf, hA⟩
    refine ⟨rfl, env', F'', le, hM, q, hq, hf, ?_⟩
    cases hd : o.dst with
    | none => rw [hd] at hA; exact ⟨ha.put_none u, hA.2⟩
    | some d =>
      rw [hd] at hA
      have h1 := ha.put (hn d hd) u
      have e1 := h1.2.2 d u look_self
      have e2 := hA.1.2.2 d q.1 look_self
      have : u = q.1 := e1.symm.trans e2
      subst this
      exact ⟨h1, hA.2⟩
  have hno : ∀ e a w, e ≠ .normal → GPost n D l X C L env F' i o.dst Si e a w → False := fun e a w hne hq => hne hq.1
  unfold wpL at h ⊢
  split
  · rename_i hw
    rw [if_pos hw] at h
    refine opW_put key (fun dd w' h => ?_) (fun e a w hne hq => (hno e a w hne hq).elim) h
    obtain ⟨_, env', F'', le, hM, q, hq, hf, hA⟩ := h
    have h2 := hA.1.2.1
    cases hd : o.dst with
    | none =>
      rw [hd] at h2; simp only [Act.put] at h2; rw [ha.2.1] at h2
      exact absurd (congrArg List.length h2) (by simp)
    | some d =>
      rw [hd] at h2; simp only [Act.put] at h2; rw [ha.2.1] at h2
      exact absurd (congrArg List.length h2) (by simp)
  · rename_i hw
    rw [if_neg hw] at h
    exact key undef w h
def sameDst (d : Nat) (o : Oper) : Bool := match o.dst with
  | some d' => Nat.beq d' d
  | none => false
def freshG (n : Nat) (S0 : List (Nat × Value)) : List Oper → Bool
  | [] => true
  | o :: os => (match o.dst with
    | none => true
    | some d => Nat.blt d n && !hasKey d S0 && !os.any (sameDst d)) && freshG n S0 os
theorem freshG_get : ∀ {os : List Oper} {i : Nat} {o : Oper} {d : Nat}, freshG n S0 os = true → os[i]? = some o → o.dst = some d → Nat.blt d n = true ∧ hasKey d S0 = false
  | [], _, _, _, _, h, _ => by simp at h
  | x :: os, 0, o, d, hf, h, hd => by
    simp at h; subst h
    simp only [freshG, hd, Bool.and_eq_true, Bool.not_eq_true'] at hf
    exact ⟨hf.1.1.1, hf.1.1.2⟩
  | x :: os, i + 1, o, d, hf, h, hd => by
    simp only [freshG, Bool.and_eq_true] at hf
    exact freshG_get hf.2 (by simpa using h) hd
theorem freshG_no {os : List Oper} {d i : Nat} {o : Oper} (h : os.any (sameDst d) = false) (ho : os[i]? = some o) (hd : o.dst = some d) : False := by
  have hm : o ∈ os := by
    obtain ⟨hlt, e⟩ := List.getElem?_eq_some_iff.1 ho
    rw [← e]; exact List.getElem_mem hlt
  have : os.any (sameDst d) = true := List.any_eq_true.2 ⟨o, hm, by simp [sameDst, hd]⟩
  rw [h] at this; cases this
theorem freshG_inj : ∀ {os : List Oper} {i j : Nat} {o o' : Oper} {d : Nat}, freshG n S0 os = true → os[i]? = some o → os[j]? = some o' → o.dst = some d → o'.dst = some d → i = j
  | [], _, _, _, _, _, _, h, _, _, _ => by simp at h
  | x :: os, 0, 0, _, _, _, _, _, _, _, _ => rfl
  | x :: os, 0, j + 1, o, o', d, hf, h, h', hd, hd' => by
    simp at h; subst h
    simp only [freshG, hd, Bool.and_eq_true, Bool.not_eq_true'] at hf
    exact (freshG_no hf.1.2 (by simpa using h') hd').elim
  | x :: os, i + 1, 0, o, o', d, hf, h, h', hd, hd' => by
    simp at h'; subst h'
    simp only [freshG, hd', Bool.and_eq_true, Bool.not_eq_true'] at hf
    exact (freshG_no hf.1.2 (by simpa using h) hd).elim
  | x :: os, i + 1, j + 1, o, o', d, hf, h, h', hd, hd' => by
    simp only [freshG, Bool.and_eq_true] at hf
    have := freshG_inj (i := i) (j := j) hf.2 (by simpa using h) (by simpa using h') hd hd'
    rw [this]
def outG : List Oper → List ValF → List (Nat × Value) → List (Nat × Value)
  | o :: os, q :: qs, S => match o.dst with
    | some d => (d, q.1) :: outG os qs S
    | none => outG os qs S
  | _, _, S => S
theorem sub_outG {S : List (Nat × Value)} (h0 : Sub S0 S) : ∀ {os : List Oper} {qs : List ValF}, (∀ (i : Nat) (o : Oper) (d : Nat) (q : ValF), os[i]? = some o → o.dst = some d → qs[i]? = some q → lookS S d = some q.1) → Sub (outG os qs S0) S
  | [], _, _ => h0
  | _ :: _, [], _ => h0
  | o :: os, q :: qs, h => by
    have h2 : Sub (outG os qs S0) S := sub_outG h0 fun i o d q e1 e2 e3 => h (i + 1) o d q (by simpa using e1) e2 (by simpa using e3)
    simp only [outG]
    cases hd : o.dst with
    | none => exact h2
    | some d => exact Sub.cons (h 0 o d q rfl hd rfl) h2
theorem GC.drawG {hs : List HP} {id : Nat} {l : List Oper} (k g : Nat) (X : Env → List ValF) (C : (Nat → Bool) → Env → List HP) (hm : P.follows .mixedOrders = true) (hord : ordB 0 l = true) (htail : tailB k (l.drop k) = true)
    (hlen : Nat.ble k l.length = true) (hX : ∀ env, (X env).length = k) (hfr : freshG n S0 (l.take k) = true) (hC : ∀ env, C (fun _ => false) env = hs ++ List.replicate g emp)
    (hops : OpsG κ P l.toArray l n D S0 F X C 0 (l.take k))
    (tail : ∀ env F', F ≤ F' → (∀ (j : Nat) (q : ValF), (X env)[j]? = some q → q.2 F') → GL κ P l.toArray (l.drop k) ks Q (Hd n D (outG (l.take k) (X env) S0) F' (C (fun j => Nat.blt j k) env)) m r) :
    GC κ P (.region id l.toArray true) ks Q (Hd n D S0 F hs) m r := by
  intro hmr a w ha
  have hlen' : k ≤ l.length := Nat.le_of_ble_eq_true hlen
  let Free : (Nat → Bool) → Act → World → Prop := fun L a w => Down l L ∧ (∀ i, k ≤ i → L i = false) ∧ ∃ env F' S, F ≤ F' ∧ Sub S0 S ∧ (∀ (j d : Nat) (v : Value), L j = true → dstOf l j = some d → ((X env)[j]?).map Prod.fst = some v → lookS S d = some v) ∧ (∀ (j : Nat) (q : ValF), L j = true → (X env)[j]? = some q → ∀ G, F' ≤ G → q.2 G) ∧ Hd n D S F' (C L env) a w
  let Inv : (Nat → Bool) → Act → World → Prop := fun L a w => Free L a w ∨ ∃ i, k < i ∧ (∀ j, L j = true ↔ j < i) ∧ wpL κ P l.toArray (interp κ P ks Q) (l.drop i) a w
  have hend0 : ∀ L a w, (∀ i, i < k → L i = true) → Free L a w → wpL κ P l.toArray (interp κ P ks Q) (l.drop k) a w := by
    rintro L a w hall ⟨hdn, hout, env, F', S, le, hS, hV, hΦ, hA⟩
    have hXl := hX env
    have hLk : L = fun j => Nat.blt j k := by
      funext j
      rcases Nat.lt_or_ge j k with h | h
      · rw [hall j h]; exact (Nat.ble_eq_true_of_le h).symm
      · rw [hout j h]
        cases hb : Nat.blt j k with
        | false => rfl
        | true => have := Nat.le_of_ble_eq_true hb; omega
    refine tail env F' le (fun j q hq => hΦ j q (hall j (by have := lt_of_getEl hq; omega)) hq F' (Fz.le_refl F')) hmr a w ⟨hA.1.sub (sub_outG hS fun i o d q e1 e2 e3 => ?_), hLk ▸ hA.2⟩
    have hik : i < k := by have := lt_of_getEl e3; omega
    refine hV i d q.1 (hall i hik) ?_ (by rw [e3]; rfl)
    rw [List.getElem?_take, if_pos hik] at e1
    simp [dstOf, e1, e2]
  refine wp_region_inv hm Inv (fun i o h e he hb => by have := ordB_spec hord i o (by simpa using h) e he hb; omega) ?_ ?_ ?_
  · refine .inl ⟨fun i o _ h => (by cases h), fun _ _ => rfl, ⟨fun _ => none, fun _ => 0, fun _ => [], fun _ => F, fun _ => none⟩, F, S0, Fz.le_refl F, Sub.refl _, fun j d v h => (by cases h), fun j q h => (by cases h), ha.1, ?_⟩
    rw [hC]
    have h1 := ha.2.drew (w.drawn + 1)
    refine h1.mono fun m hm' => ?_
    exact stars_emps hm'
  · intro L a w i o ho hLi hdeps hI
    have ho' : l[i]? = some o := by simpa using ho
    have hil : i < l.length := lt_of_getEl ho'
    by_cases hi : i < k
    · rcases hI with hF | ⟨k', hk, hL, _⟩
      case inr => have := (hL i).2 (by omega); rw [hLi] at this; cases this
      obtain ⟨hdn, hout, env, F', S, le, hS, hV, hΦ, hA⟩ := hF
      have hot : (l.take k)[i]? = some o := by rw [List.getElem?_take, if_pos hi]; exact ho'
      have hop := OpsG.get hops i o hot
      simp only [Nat.zero_add] at hop
      have hup : ∀ k' j, depB l k' j i = true → L j = false := fun k' j h => by
        cases hj : L j with
        | false => rfl
        | true =>
          have := dep_true hdn h fun o' ho'' e he hb => hdn j o' ho'' hj e he hb
          rw [hLi] at this; cases this
      have hdn' : ∀ k' j, depB l k' i j = true → L j = true := fun k' j h => dep_true hdn h fun o' ho'' e he hb => by
        rw [ho'] at ho''; cases ho''; exact hdeps e he hb
      obtain ⟨Si, hSi, hstep⟩ := hop L env F' le hLi hdn' hup hΦ
      have hsub := hSi S hS hV
      have hn : ∀ d, o.dst = some d → Nat.blt d n = true := fun d hd => (freshG_get hfr hot hd).1
      have h1 := g_frame (S := S) hn hA.1 (hstep rfl a w ⟨hA.1.sub hsub, hA.2⟩)
      refine wp_of_seg (fun e a w hne hq => absurd hq.1 hne) (fun a' w' hq => ?_) h1
      obtain ⟨_, env', F'', le', ⟨M, hMl, hMc, hMe⟩, q, hq, hqf, hA'⟩ := hq
      have hst : ∀ (j : Nat) (q : ValF), L j = true → (X env')[j]? = some q → (X env)[j]? = some q := fun j q hj hx => by
        have hjl : j < M.length := by rw [hMl, hX env, ← hX env']; exact lt_of_getEl hx
        exact maskL_get hMe.symm (mask_true hdn hLi hMc j hj hjl) hx
      refine .inl ⟨?_, ?_, env', F'', (match o.dst with | some d => (d, q.1) :: S | none => S), Fz.le_trans le le', ?_, ?_, ?_, hA'⟩
      · intro j oj hoj hj e he hb
        by_cases hji : j = i
        · subst hji
          rw [ho'] at hoj; cases hoj
          have := hdeps e he hb
          simp only [updB]; split
          · rfl
          · exact this
        · have hLj : L j = true := by simpa [updB, hji] using hj
          have := hdn j oj hoj hLj e he hb
          simp only [updB]; split
          · rfl
          · exact this
      · intro j hj
        simp only [updB]; rw [if_neg (by omega)]; exact hout j hj
      · cases hd : o.dst with
        | none => exact hS
        | some d => exact sub_push hS (freshG_get hfr hot hd).2 _
      · intro j d' v' hj hd' hv'
        by_cases hji : j = i
        · subst hji
          have hod : o.dst = some d' := by simpa [dstOf, ho'] using hd'
          rw [hq] at hv'; simp only [Option.map_some, Option.some.injEq] at hv'
          subst hv'
          rw [hod]; exact look_self
        · have hLj : L j = true := by simpa [updB, hji] using hj
          have hjk : j < k := by
            rcases Nat.lt_or_ge j k with h | h
            · exact h
            · rw [hout j h] at hLj; cases hLj
          obtain ⟨q', hq', rfl⟩ := Option.map_eq_some_iff.1 hv'
          have h0 := hV j d' q'.1 hLj hd' (by rw [hst j q' hLj hq']; rfl)
          cases hd : o.dst with
          | none => exact h0
          | some d =>
            have hne : d ≠ d' := fun h => by
              subst h
              cases hoj : l[j]? with
              | none => simp [dstOf, hoj] at hd'
              | some oj =>
                have hdj : oj.dst = some d := by simpa [dstOf, hoj] using hd'
                exact hji (freshG_inj hfr (by rw [List.getElem?_take, if_pos hjk]; exact hoj) hot hdj hd)
            exact look_push hne h0
      · intro j q' hj hq' G hG
        by_cases hji : j = i
        · subst hji; rw [hq] at hq'; cases hq'; exact hqf G hG
        · have hLj : L j = true := by simpa [updB, hji] using hj
          exact hΦ j q' hLj (hst j q' hLj hq') G (Fz.le_trans le' hG)
    ·
      have hts := tailB_spec htail (i - k) o (by rw [List.getElem?_drop]; rw [show k + (i - k) = i by omega]; exact ho')
      have hall : ∀ j, j < i → L j = true := fun j hj => by
        obtain ⟨e, he, h1, h2⟩ := hts j (by omega)
        rw [← h1]; exact hdeps e he h2
      have hw : wpL κ P l.toArray (interp κ P ks Q) (l.drop i) a w := by
        rcases hI with hF | ⟨k', hk, hL, hwp⟩
        · have hiV : i = k := by
            rcases Nat.lt_or_ge k i with h | h
            · have := hall k h; rw [hF.2.1 _ (Nat.le_refl _)] at this; cases this
            · omega
          subst hiV
          exact hend0 L a w hall hF
        · have : k' = i := by
            have h1 : ¬ i < k' := fun h => by have := (hL i).2 h; rw [hLi] at this; cases this
            have h2 : ¬ k' < i := fun h => by have := (hL k').1 (hall k' h); omega
            omega
          subst this; exact hwp
      have hdrop : l.drop i = o :: l.drop (i + 1) := by
        have hg : l[i]'hil = o := by simpa [hil] using ho'
        rw [← hg]; exact List.drop_eq_getElem_cons hil
      rw [hdrop] at hw
      have hnext : ∀ a' w', wpL κ P l.toArray (interp κ P ks Q) (l.drop (i + 1)) a' w' → Inv (updB L i) a' w' := fun a' w' h =>
        .inr ⟨i + 1, by omega, fun j => by
          simp only [updB]
          by_cases hj : j = i
          · simp [hj]
          · simp only [hj, if_false]
            constructor
            · intro hLj
              have : j < i := by
                rcases Nat.lt_or_ge j i with h | h
                · exact h
                · rcases hI with hF | ⟨k', hk, hL, _⟩
                  · rw [hF.2.1 j (by omega)] at hLj; cases hLj
                  · have h1 := (hL j).1 hLj
                    have := (hL i).2 (by omega); rw [hLi] at this; cases this
              omega
            · intro hj'; exact hall j (by omega), h⟩
      unfold wpL at hw
      split
      · rename_i hwn
        rw [if_pos hwn] at hw
        exact opW_mono hnext hw
      · rename_i hwn
        rw [if_neg hwn] at hw
        exact hnext _ _ hw
  · intro L a w hall hI
    have hw : wpL κ P l.toArray (interp κ P ks Q) (l.drop l.length) a w := by
      rcases hI with hF | ⟨k', hk, hL, hwp⟩
      · have hVl : k = l.length := by
          rcases Nat.lt_or_ge k l.length with h | h
          · have := hall k (by simpa using h); rw [hF.2.1 _ (Nat.le_refl _)] at this; cases this
          · omega
        have := hend0 L a w (fun i hi => hall i (by simp; omega)) hF
        rwa [hVl] at this
      · have : l.length ≤ k' := by
          rcases Nat.lt_or_ge k' l.length with h | h
          · have := (hL k').1 (hall k' (by simpa using h)); omega
          · exact h
        rw [List.drop_eq_nil_of_le this] at hwp
        rw [List.drop_eq_nil_of_le (Nat.le_refl _)]; exact hwp
    rw [List.drop_eq_nil_of_le (Nat.le_refl _)] at hw
    exact hw
where
  stars_emps {hs : List HP} {g : Nat} {m : Mem} (h : stars hs m) : stars (hs ++ List.replicate g emp) m := by
    induction hs generalizing m with
    | nil =>
      rw [List.nil_append]
      induction g generalizing m with
      | zero => exact h
      | succ g ih => exact ⟨fun _ => none, m, fun _ => .inl rfl, fun _ _ e => by simp at e, Mem.sub.refl _, trivial, ih trivial⟩
    | cons q hs ih => exact star_mono_right (fun m' h' => ih h') h
theorem OpsG.cons {ops : Array Oper} {l : List Oper} {X : Env → List ValF} {C : (Nat → Bool) → Env → List HP} {k : Nat} {o : Oper} {os : List Oper} (h : OpG κ P ops l n D S0 F X C k o) (t : OpsG κ P ops l n D S0 F X C (k + 1) os) : OpsG κ P ops l n D S0 F X C k (o :: os) := ⟨h, t⟩
theorem OpsG.nil {ops : Array Oper} {l : List Oper} {X : Env → List ValF} {C : (Nat → Bool) → Env → List HP} {k : Nat} : OpsG κ P ops l n D S0 F X C k [] := trivial
section
variable {ops : Array Oper} {l : List Oper} {X : Env → List ValF} {C : (Nat → Bool) → Env → List HP} {L : Nat → Bool} {env : Env} {F' F2 : Fz} {i d : Nat} {v : Value} {Si : List (Nat × Value)} {x : β} {hs2 : List HP}
theorem allM {i : Nat} : ∀ {k j : Nat} {M : List Bool}, closB l i j M (List.replicate k true) = true
  | 0, _, _ => rfl
  | k + 1, j, M => by
    simp only [List.replicate_succ, closB, Bool.true_or, Bool.true_and]; exact allM
theorem GL.finV (hx : (X env)[i]? = some (v, fun _ => True)) (hC : C (updB L i) env = C L env) (le : F' ≤ F2) :
    GL κ P ops [] [] (GPost n D l X C L env F' i (some d) Si) (Hd n D ((d, v) :: Si) F2 (C L env)) (some x) x :=
  fun _ a w ha => ⟨rfl, env, F2, le, ⟨List.replicate (X env).length true, by simp, allM, rfl⟩, _, hx, fun _ _ => trivial, ⟨ha.1, hC ▸ ha.2⟩⟩
theorem GL.finG (env' : Env) (M : List Bool) (hMl : M.length = (X env).length) (hMc : closB l i 0 M M = true) (hMe : maskL M (X env) = maskL M (X env')) {q : Fz → Prop} (hx : (X env')[i]? = some (v, q)) (le : F' ≤ F2) (hf : ∀ G, F2 ≤ G → q G)
    (hC : ∀ w, SH w F2 (stars hs2) → SH w F2 (stars (C (updB L i) env'))) : GL κ P ops [] [] (GPost n D l X C L env F' i (some d) Si) (Hd n D ((d, v) :: Si) F2 hs2) (some x) x :=
  fun _ _a _w ha => ⟨rfl, env', F2, le, ⟨M, hMl, hMc, hMe⟩, _, hx, hf, ⟨ha.1, hC _ ha.2⟩⟩
theorem GL.finS (hx : (X env)[i]? = some (v, fun _ => True)) (le : F' ≤ F2) (hC : hs2 = C (updB L i) env) : GL κ P ops [] [] (GPost n D l X C L env F' i none Si) (Hd n D Si F2 hs2) (some x) x :=
  fun _ a w ha => ⟨rfl, env, F2, le, ⟨List.replicate (X env).length true, by simp, allM, rfl⟩, _, hx, fun _ _ => trivial, ⟨ha.1, hC ▸ ha.2⟩⟩
end
theorem SH.place {hs : List HP} {p q : HP} {w : World} (k : Nat) (hk : hs[k]? = some q) (h : SH w F (stars (p :: hs))) : SH w F (stars (hs.set k p)) :=
  SH.push hk ((h.mono fun _ hm => star_swap (star_mono_right (fun _ => stars_erase (k := k)) hm)).drop)
theorem condT {α : Type} {b : Bool} {x y : α} (h : b = true) : cond b x y = x := by rw [h]; rfl
theorem condF {α : Type} {b : Bool} {x y : α} (h : b = false) : cond b x y = y := by rw [h]; rfl
theorem SH.placeC {hs : List HP} {p p' q : HP} {w : World} (k : Nat) (hk : hs[k]? = some q) (hp : p' = p) (h : SH w F (stars (p :: hs))) : SH w F (stars (hs.set k p')) := hp ▸ h.place k hk
theorem setC {hs : List HP} {p p' : HP} (k : Nat) (hp : p' = p) : hs.set k p = hs.set k p' := by rw [hp]
theorem GL.norm {ops : Array Oper} {l : List Oper} {S S' : List (Nat × Value)} {hs hs' : List HP} (hS : Sub S' S) (hh : hs = hs') (k : GL κ P ops l ks Q (Hd n D S' F hs') m r) : GL κ P ops l ks Q (Hd n D S F hs) m r :=
  fun hm a w ha => k hm a w ⟨ha.1.sub hS, hh ▸ ha.2⟩
theorem GL.appendK {ops : Array Oper} {rest : List Oper} {S : List (Nat × Value)} {hs : List HP} {α : Type} {sz d : Nat} {ty t t2 e e2 : TypeId} {pos : String} {after : Array Edge} {ox oy : Operand} {c : ERel α} {F0 : Fz} {p p2 : Option Addr} {cap cap2 : Nat} {l l2 l' : List α} {T : Array TypeId} (hl : appO l l2 = some l') (i : Nat) (E : ElemOK P e sz c) (le0 : F0 ≤ F) (hd : Nat.blt d n = true) (ht : P.underlying t = some (.slice e)) (ht2 : P.underlying t2 = some (.slice e2)) (hT0 : T[0]? = some t) (hT1 : T[1]? = some t2)
    (hi : hs[i]? = some (ownSl sz c F0 e p cap l)) (hr : RepSl sz c F p2 cap2 l2) (hx : evalS S ox = some (.slice p l.length cap)) (hy : evalS S oy = some (.slice p2 l2.length cap2))
    (k : ∀ p' cap', GL κ P ops rest ks Q (Hd n D ((d, .slice p' l'.length cap') :: S) F (hs.set i (ownSl sz c F e p' cap' l'))) m r) :
    GL κ P ops (⟨some d, .call ⟨.builtin .append, #[ox, oy], T⟩, ty, pos, after, none⟩ :: rest) ks Q (Hd n D S F hs) m r := by
  have h := GL.append (f := fun _ => m) (pos := pos) (after := after) (ty := ty) i E le0 hd ht ht2 hT0 hT1 hi hr hx hy (fun l'' p' cap' hl'' => by rw [hl] at hl''; cases hl''; exact k p' cap')
  rw [hl] at h; exact h
theorem GL.sliceLoK {α : Type} {n : Nat} {S : List (Nat × Value)} {hs : List HP} {ops : Array Oper} {rest : List Oper} {d : Nat} {ty t : TypeId} {pos : String} {after : Array Edge} {ox oy : Operand} {kd : IntKind} {x : Int} {sz : Nat} {c : ERel α} {p : Option Addr} {cap e : Nat} {l : List α} {l' : List α} (hl : sliceL l x l.length = some l') (hd : Nat.blt d n = true) (ht : P.underlying t = some (.slice e)) (hz : ∀ w, (sizeOf e).run P w = .ok sz w)
    (hr : RepSl sz c F p cap l) (hx : evalS S ox = some (.slice p l.length cap)) (hy : evalS S oy = some (.int kd x))
    (k : ∀ p' c', RepSl sz c F p' c' l' → GL κ P ops rest ks Q (Hd n D ((d, .slice p' l'.length c') :: S) F hs) m r) :
    GL κ P ops (⟨some d, .slice t ox (some oy) none none, ty, pos, after, none⟩ :: rest) ks Q (Hd n D S F hs) m r := by
  have h := GL.sliceLo (f := fun _ => m) (pos := pos) (after := after) (ty := ty) hd ht hz hr hx hy (fun l'' p' c' hl'' hr' => by rw [hl] at hl''; cases hl''; exact k p' c' hr')
  rw [hl] at h; exact h
theorem GL.sliceHiK {α : Type} {n : Nat} {S : List (Nat × Value)} {hs : List HP} {ops : Array Oper} {rest : List Oper} {d : Nat} {ty t : TypeId} {pos : String} {after : Array Edge} {ox oy : Operand} {kd : IntKind} {x : Int} {sz : Nat} {c : ERel α} {p : Option Addr} {cap e : Nat} {l : List α} {l' : List α} (hl : sliceL l 0 x = some l') (hd : Nat.blt d n = true) (ht : P.underlying t = some (.slice e)) (hz : ∀ w, (sizeOf e).run P w = .ok sz w)
    (hr : RepSl sz c F p cap l) (hx : evalS S ox = some (.slice p l.length cap)) (hy : evalS S oy = some (.int kd x))
    (k : ∀ p' c', RepSl sz c F p' c' l' → GL κ P ops rest ks Q (Hd n D ((d, .slice p' l'.length c') :: S) F hs) m r) :
    GL κ P ops (⟨some d, .slice t ox none (some oy) none, ty, pos, after, none⟩ :: rest) ks Q (Hd n D S F hs) m r := by
  have h := GL.sliceHi (f := fun _ => m) (pos := pos) (after := after) (ty := ty) hd ht hz hr hx hy (fun l'' p' c' hl'' hr' => by rw [hl] at hl''; cases hl''; exact k p' c' hr')
  rw [hl] at h; exact h
theorem GC.freeze {cd : Code} {S : List (Nat × Value)} {hs : List HP} {b : Nat} {o : Obj} (i : Nat) (hi : hs[i]? = some (pt b o)) (k : ∀ F', F ≤ F' → F'.mem b = some o → GC κ P cd ks Q (Hd n D S F' (hs.eraseIdx i)) m r) : GC κ P cd ks Q (Hd n D S F hs) m r :=
  fun hm a w ha => by
    obtain ⟨h1, h2⟩ := SH.freezeAt hi ha.2
    exact k _ h1 (Fz.add_self ..) hm a w ⟨ha.1, h2⟩
theorem GL.sliceOwn0 {α : Type} {ops : Array Oper} {rest : List Oper} {S : List (Nat × Value)} {hs : List HP} {d : Nat} {ty t e : TypeId} {pos : String} {after : Array Edge} {sz : Nat} (c : ERel α) (hd : Nat.blt d n = true) (ht : P.underlying t = some (.slice e)) (hz : ∀ w, (sizeOf e).run P w = .ok sz w)
    (k : ∀ b, GL κ P ops rest ks Q (Hd n D ((d, .slice (some ⟨b, 0, none⟩) 0 0) :: S) F (ownSl sz c F e (some ⟨b, 0, none⟩) 0 [] :: hs)) m r) :
    GL κ P ops (⟨some d, .buildSlice t 0 #[], ty, pos, after, none⟩ :: rest) ks Q (Hd n D S F hs) m r :=
  GL.step rfl (.inr rfl) fun hm a w ha => by
    have h1 := ha.2.alloc (.cells #[] e)
    refine ⟨.slice (some ⟨w.heap.size, 0, none⟩) 0 0, w.alloc (.cells #[] e), ?_, k w.heap.size hm _ _ ⟨ha.1.put hd _, h1.mono fun m hm => star_mono_left (fun m' hm' => ⟨by simp, by omega, .inr ⟨_, [], rfl, hm', by simp, Parts.nil⟩⟩) hm⟩⟩
    have hr : ∀ g : Nat → Value, Array.map g (Array.range 0) = #[] := fun g => by rw [show Array.range 0 = #[] from rfl]; simp
    simp [execOp, Instr.buildSlice, Sem.run_bind, rUnd ht, hz, Result.andThen, newRow, hr, Instr.fill]
theorem cons_eq {a b : HP} {as bs : List HP} (h : a = b) (t : as = bs) : a :: as = b :: bs := by rw [h, t]
theorem GL.finQ {ops : Array Oper} {l : List Oper} {X : Env → List ValF} {C : (Nat → Bool) → Env → List HP} {L : Nat → Bool} {env : Env} {F' F2 : Fz} {i d : Nat} {v : Value} {Si : List (Nat × Value)} {x : β} {hs2 : List HP} (env' : Env) (M : List Bool) (hMl : M.length = (X env).length) (hMc : closB l i 0 M M = true) (hMe : maskL M (X env) = maskL M (X env')) {q : Fz → Prop} (hx : (X env')[i]? = some (v, q)) (le : F' ≤ F2) (hf : ∀ G, F2 ≤ G → q G)
    (hC : C (updB L i) env' = hs2) : GL κ P ops [] [] (GPost n D l X C L env F' i (some d) Si) (Hd n D ((d, v) :: Si) F2 hs2) (some x) x :=
  GL.finG env' M hMl hMc hMe hx le hf (fun _ h => hC ▸ h)
end
end Go.Dec
end

section
namespace Go.Dec
variable {κ : Option Nat}
section
variable {β : Type} {P : Program} {ops : Array Oper} {rest : List Oper} {ks : List Kt} {Q : Exit → Act → World → Prop} {m : Option β} {r : β}
variable {n : Nat} {D : List Deferred} {S : List (Nat × Value)} {F F0 : Fz} {hs : List HP}
theorem GL.ownConv {α : Type} {sz : Nat} {c : ERel α} {T : TypeId} {p : Option Addr} {cap : Nat} {l l' : List α} (i : Nat) (_hi : hs[i]? = some (ownSl sz c F0 T p cap l)) (e : l = l') (k : GL κ P ops rest ks Q (Hd n D S F (hs.set i (ownSl sz c F0 T p cap l'))) m r) : GL κ P ops rest ks Q (Hd n D S F hs) m r := by
  subst e
  have : hs.set i (ownSl sz c F0 T p cap l) = hs := by
    apply List.ext_getElem?
    intro j
    rw [List.getElem?_set]
    split
    · rename_i h; subst h
      split
      · exact _hi.symm
      · rename_i h; rw [List.getElem?_eq_none (by omega)]
    · rfl
  rw [this] at k; exact k
end
theorem part1 {P : Program} {t : TypeId} {cs : List Value} {o : Nat} {v : Value} (hA : ∀ w, (isAgg t).run P w = .ok false w) (h : cs[o]? = some v) (w : World) : (part t cs.toArray o).run P w = .ok v w := by
  simp [part, hA, h]
theorem eq_int {P : Program} {t : TypeId} {k k' : IntKind} {x y : Int} (ht : P.underlying t = some (.int k')) (n : Nat) (w : World) : (Op.equalIn (n + 1) t (.int k x) (.int k y)).run P w = .ok (x == y) w := by
  simp [Op.equalIn, rUnd ht]
def EqAs (P : Program) (d e sz : Nat) (xs ys : Array Value) : Nat → List Bool → Prop
  | _, [] => True
  | i, b :: bs => (∃ u v, (∀ w, (part e xs (i * sz)).run P w = .ok u w) ∧ (∀ w, (part e ys (i * sz)).run P w = .ok v w) ∧ ∀ w, (Op.equalIn d e u v).run P w = .ok b w) ∧ EqAs P d e sz xs ys (i + 1) bs
theorem eq_elems {P : Program} {xs ys : Array Value} {d e sz : Nat} {w : World} : ∀ {bs : List Bool} {i : Nat}, EqAs P d e sz xs ys i bs →
    ((forIn (List.range' i bs.length) ((none : Option Bool), ()) fun i (_ : Option Bool × Unit) => (do
        let u ← part e xs (i * sz)
        let v ← part e ys (i * sz)
        let b ← Op.equalIn d e u v
        if b = false then pure (ForInStep.done (some false, ())) else pure (ForInStep.yield (none, ())) : Sem (ForInStep (Option Bool × Unit)))).run P w) = .ok (if bs.all id then (none, ()) else (some false, ())) w
  | [], i, _ => by simp
  | b :: bs, i, ⟨⟨u, v, h2, h3, h4⟩, h5⟩ => by
    have ih := eq_elems (w := w) h5
    rw [List.length_cons, List.range'_succ, List.forIn_cons]
    simp only [Sem.run_bind, h2, h3, h4, Result.andThen]
    cases b with
    | false => simp
    | true => simpa using ih
theorem eq_array {P : Program} {t e sz len : Nat} {xs ys : Array Value} {bs : List Bool} {d : Nat} (ht : P.underlying t = some (.array len e)) (hz : ∀ w, (sizeOf e).run P w = .ok sz w) (hl : bs.length = len) (h : EqAs P d e sz xs ys 0 bs) (w : World) : (Op.equalIn (d + 1) t (.agg xs) (.agg ys)).run P w = .ok (bs.all id) w := by
  have hl' := eq_elems (w := w) h
  subst hl
  simp only [Op.equalIn, Sem.run_bind, rUnd ht, Result.andThen, hz]
  simp [Std.Legacy.Range.forIn_eq_forIn_range', Std.Legacy.Range.size]
  rw [hl']
  cases bs.all id <;> simp
end Go.Dec
end

section
namespace Go.Dec
def FW (W : World) : Fz := { mem := fun b => W.heap[b]?, os := W.os, tape := W.tape, out := W.output }
theorem SH.start (W : World) : SH W (FW W) emp :=
  ⟨fun _ => none, trivial, ⟨fun _ => .inl rfl, fun _ _ e => by simp at e, fun _ _ e => by simp at e, fun _ _ e => e, rfl, rfl, rfl⟩⟩
def Viewed {α H : Type} (enc : TypeId × Value → H) (P : Program) (W : World) (t : TypeId) (c : ERel α) (ok : α → Prop) : Prop :=
  ∀ sp held fuel cs x, DataW.trod enc P W 0 sp held fuel t cs = some x → ∃ m, ok m ∧ ∀ F', FW W ≤ F' → c F' m cs
section
variable {H : Type} {enc : TypeId × Value → H} {P : Program} {W : World}
theorem Viewed.int {t : TypeId} {k : IntKind} (ht : P.underlying t = some (.int k)) : Viewed enc P W t (Ex (cInt k)) (fun m => (Lit.int k m).wf = true) := by
  intro sp held fuel cs x h
  cases fuel with
  | zero => simp [DataW.trod] at h
  | succ n =>
    unfold DataW.trod at h
    rw [ht] at h
    split at h <;> simp_all [Ex, cInt]
    exact ⟨_, h.1.2, fun _ _ => rfl⟩
theorem mapM_get {α β : Type} {f : α → Option β} : ∀ {l : List α} {r : List β}, l.mapM f = some r → ∀ (i : Nat) (a : α), l[i]? = some a → ∃ b, f a = some b ∧ r[i]? = some b
  | [], r, h, i, a, e => by simp at e
  | a :: l, r, h, i, a', e => by
    rw [List.mapM_cons] at h
    cases ha : f a with
    | none => rw [ha] at h; simp at h
    | some b =>
      rw [ha] at h
      cases hl : l.mapM f with
      | none => rw [hl] at h; simp at h
      | some bs =>
        rw [hl] at h; simp at h; subst h
        cases i with
        | zero => simp at e; subst e; exact ⟨b, ha, by simp⟩
        | succ i => exact mapM_get hl i a' (by simpa using e) |>.imp fun b hb => ⟨hb.1, by simpa using hb.2⟩
theorem list_of {α : Type} {q : Nat → α → Prop} : ∀ (n : Nat), (∀ i, i < n → ∃ m, q i m) → ∃ l : List α, l.length = n ∧ ∀ i m, l[i]? = some m → q i m
  | 0, _ => ⟨[], rfl, fun i m h => by simp at h⟩
  | n + 1, h => by
    obtain ⟨l, hl, hq⟩ := list_of n fun i hi => h i (by omega)
    obtain ⟨m, hm⟩ := h n (by omega)
    refine ⟨l ++ [m], by simp [hl], fun i m' e => ?_⟩
    rcases Nat.lt_or_ge i l.length with hi | hi
    · rw [List.getElem?_append_left hi] at e; exact hq i m' e
    · rw [List.getElem?_append_right hi] at e
      have : i - l.length = 0 := by have := lt_of_getEl e; simp at this; omega
      rw [this] at e; simp at e; subst e
      rw [show i = n by omega]; exact hm
theorem cell_at {w : World} {a : Addr} {v : Value} (h : w.cell? a = some v) : a.spot = none ∧ ∃ cs T fr, w.heap[a.block]? = some (.cells cs T fr) ∧ cs[a.off]? = some v := by
  unfold World.cell? at h
  split at h
  · rename_i c T fr hb
    split at h
    · cases h
    · rename_i hs
      exact ⟨by simpa using hs, c, T, fr, hb, h⟩
  · cases h
theorem addr_add (b o i : Nat) : (⟨b, o, none⟩ : Addr).add i = ⟨b, o + i, none⟩ := by
  unfold Addr.add
  split
  · rename_i h; subst h; rfl
  · rfl
theorem addr_zero (a : Addr) : a.add 0 = a := by simp [Addr.add]
theorem cells_at {w : World} {a : Addr} {n : Nat} {vs : List Value} (h : w.cells? 0 a n = some vs) (hn : 0 < n) : a.spot = none ∧ ∃ cs T fr, w.heap[a.block]? = some (.cells cs T fr) ∧ (cs.toList.drop a.off).take n = vs := by
  obtain ⟨_, hl, hc⟩ := World.cells?_some h
  have h0 : vs[0]? = some (vs[0]'(by omega)) := List.getElem?_eq_getElem _
  have h1 := (hc 0 hn).trans h0
  rw [addr_zero] at h1
  obtain ⟨hs, cs, T, fr, hb, _⟩ := cell_at h1
  refine ⟨hs, cs, T, fr, hb, ?_⟩
  obtain ⟨b, o, s⟩ := a
  simp only at hs hb ⊢
  subst hs
  apply List.ext_getElem?
  intro i
  rw [List.getElem?_take]
  split
  · rename_i hi
    have h2 := hc i hi
    rw [addr_add] at h2
    unfold World.cell? at h2
    simp only [hb] at h2
    simp at h2
    rw [List.getElem?_drop, ← h2]; simp
  · rename_i hi
    rw [List.getElem?_eq_none (by omega)]
theorem Viewed.slice {α : Type} {t e sz : Nat} {c : ERel α} {ok : α → Prop} (ht : P.underlying t = some (.slice e)) (hc : P.cellsOf e = sz) (hsz : 0 < sz) (V : Viewed enc P W e c ok) : Viewed enc P W t (rSl sz c) (fun l => ∀ x ∈ l, ok x) := by
  intro sp held fuel cs x h
  cases fuel with
  | zero => simp [DataW.trod] at h
  | succ n =>
    unfold DataW.trod at h
    rw [ht] at h
    split at h <;> simp_all only [reduceCtorEq, Option.some.injEq, TypeDesc.slice.injEq]
    · exact ⟨[], by simp, fun F' _ => ⟨none, 0, rfl, RepSl.nil⟩⟩
    · rename_i _ _ e' a len cap he
      subst he
      split at h
      · rename_i hb
        obtain ⟨elems, he, _⟩ := Option.bind_eq_some_iff.1 h
        have hel : ∀ i, i < len → ∃ m, ok m ∧ ∃ vs, W.cells? 0 (a.add (i * sz)) sz = some vs ∧ ∀ F', FW W ≤ F' → c F' m vs := by
          intro i hi
          obtain ⟨y, hy, _⟩ := mapM_get he i i (by simp [hi])
          obtain ⟨vs, hvs, hy⟩ := Option.bind_eq_some_iff.1 hy
          obtain ⟨m, hm, hF⟩ := V _ _ _ _ _ hy
          exact ⟨m, hm, vs, hvs, hF⟩
        obtain ⟨l, hl, hq⟩ := list_of len hel
        refine ⟨l, fun x hx => ?_, fun F' le => ⟨some a, cap, by rw [hl], by omega, ?_, ?_⟩⟩
        · obtain ⟨i, hi, e⟩ := List.getElem_of_mem hx
          exact (hq i x (by rw [← e]; exact List.getElem?_eq_getElem hi)).1
        · have := hb.2.2; simp [maxLen] at this; omega
        · cases l with
          | nil => exact .inl rfl
          | cons x0 l0 =>
            obtain ⟨_, vs0, hv0, _⟩ := hq 0 x0 rfl
            rw [Nat.zero_mul, addr_zero] at hv0
            obtain ⟨hs, cs, T, fr, hcell, _⟩ := cells_at hv0 hsz
            obtain ⟨b, o, s⟩ := a
            simp only at hs hcell
            subst hs
            refine .inr ⟨b, o, cs, T, fr, rfl, ?_, fun i x hx F'' le' => ?_⟩
            · exact le.mem _ _ hcell
            · obtain ⟨_, vs, hv, hF⟩ := hq i x hx
              rw [addr_add] at hv
              obtain ⟨_, cs', T', fr', hcell', htk⟩ := cells_at hv hsz
              simp only at hcell' htk
              rw [hcell] at hcell'; cases hcell'
              have := hF F'' (Fz.le_trans le le')
              rw [← htk] at this
              exact this
      · cases h
theorem cat_cons {cs p rest : List Value} {o s : Nat} (h : (cs.drop o).take s = p) (t : cs.drop (o + s) = rest) : cs.drop o = p ++ rest := by
  rw [← h, ← t, ← List.drop_drop, List.take_append_drop]
theorem cat_nil {cs : List Value} {o : Nat} (h : cs.length = o) : cs.drop o = [] := List.drop_of_length_le (by omega)
theorem some_of {α : Type} {xs : List α} {i n : Nat} {y : Option α} (h : y = xs[i]?) (hl : xs.length = n) (hi : Nat.blt i n = true) : ∃ x, y = some x := by
  have := Nat.le_of_ble_eq_true hi
  exact ⟨_, h.trans (List.getElem?_eq_getElem (show i < xs.length by omega))⟩
end
end Go.Dec
end

section
namespace Go.Dec
open Go.ChangeShapes Go.WideShapes Go.ChangeAt Go.RowKit
section
variable {H : Type} {enc : TypeId × Value → H} {P : Program} {W : World}
theorem cell_of_ok {r : Reach} {b0 : Nat} {t : TypeId} {v x : Value} (hk : Value.okWide P W r b0 t v) (hn : ∀ fs, P.underlying t ≠ some (.struct fs)) (ha : ∀ n e, P.underlying t ≠ some (.array n e)) (hc : v.cells.toList = [x]) : v = x := by
  have hk' : Cell.okWide P W r b0 t v := by
    unfold Value.okWide at hk
    split at hk
    · rename_i fs h; exact absurd h (hn fs)
    · rename_i n e h; exact absurd h (ha n e)
    · exact hk
  cases v with
  | agg cs =>
    exfalso
    unfold Cell.okWide at hk'
    split at hk' <;> first | contradiction | skip
    unfold Cell.ok at hk'
    split at hk' <;> first | contradiction | exact hk'
  | _ => simpa [Value.cells] using hc
theorem argSlice {α : Type} {b0 : Nat} {t e : TypeId} {sz : Nat} {c : ERel α} {ok : List α → Prop} {v : Value} {d : DataW H} {ps : List MemPlace} (ht : P.underlying t = some (.slice e)) (V : Viewed enc P W t (rSl sz c) ok)
    (hk : Value.okWide P W .any b0 t v) (hd : DataW.Trod enc P W 0 (fun _ => true) true t v d ps) :
    ∃ m p k, ok m ∧ v = .slice p m.length k ∧ RepSl sz c (FW W) p k m := by
  obtain ⟨fuel, hf⟩ := hd
  obtain ⟨m, hm, hF⟩ := V _ _ _ _ _ hf
  obtain ⟨p, k, hc, hr⟩ := hF _ (Fz.le_refl _)
  exact ⟨m, p, k, hm, cell_of_ok hk (by rw [ht]; simp) (by rw [ht]; simp) hc, hr⟩
theorem below_of {w' : World} {F' : Fz} {H' : HP} (le : FW W ≤ F') (h : SH w' F' H') : Below W.heap.size W w' := by
  obtain ⟨h1, h2⟩ := SH.size_le h (fun b o e => e) le
  obtain ⟨m, _, hm⟩ := h
  exact ⟨hm.os.trans le.os, hm.tape.trans le.tape, hm.out.trans le.out, h1, h2⟩
theorem trodAll_stays {W' : World} (hl : laidOutB P = true) (hb : Below W.heap.size W W') : ∀ {ts : List TypeId} {vs : List Value} {ds : List (DataW H)} {ps : List MemPlace}, (ts.all fun t => P.readableRec t && decide (t < P.types.size)) = true →
    DataW.TrodAll enc P W 0 (fun _ => true) true ts vs ds ps → (∀ x ∈ ps, x.block < W.heap.size) → DataW.TrodAll enc P W' 0 (fun b => decide (b < W.heap.size)) true ts vs ds ps
  | [], vs, ds, ps, _, h, _ => by
    obtain ⟨rfl, rfl, rfl⟩ := trodAll_nil h
    rfl
  | t :: ts, vs, ds, ps, ht, h, hlt => by
    obtain ⟨v, vs', d, ds', p, q, rfl, rfl, rfl, hd, hr⟩ := trodAll_cons h
    simp only [List.all_cons, Bool.and_eq_true, decide_eq_true_eq] at ht
    exact ⟨p, q, hb.trod hl ht.1.1 ht.1.2 hd (fun x hx => hlt x (by simp [hx])), trodAll_stays hl hb (by simpa using ht.2) hr (fun x hx => hlt x (by simp [hx])), rfl⟩
theorem trodAll_len : ∀ {ts : List TypeId} {vs : List Value} {ds : List (DataW H)} {ps : List MemPlace} {b : Nat} {sp : Nat → Bool} {hd : Bool}, DataW.TrodAll enc P W b sp hd ts vs ds ps → ds.length = ts.length
  | [], vs, ds, ps, _, _, _, h => by obtain ⟨_, rfl, _⟩ := trodAll_nil h; rfl
  | t :: ts, vs, ds, ps, _, _, _, h => by
    obtain ⟨v, vs', d, ds', p, q, rfl, rfl, rfl, _, hr⟩ := trodAll_cons h
    simp [trodAll_len hr]
end
end Go.Dec
end

section
namespace Go.Dec
theorem w64_id {n : Int} (h1 : -9223372036854775808 ≤ n) (h2 : n ≤ 9223372036854775807) : w64 n = n := by
  have e : IntKind.i64.bits = 64 := rfl
  simp only [w64, IntKind.wrap, e]
  simp [IntKind.signed]
  omega
theorem idxL_nat {α : Type} (l : List α) (i : Nat) : idxL l (i : Int) = l[i]? := by
  simp [idxL]
theorem idxO_nat {n i : Nat} (h : i < n) : idxO n (i : Int) = some i := by
  unfold idxO; rw [if_pos (by omega)]; simp
theorem loopM_pre {α σ τ β : Type} {body : σ → Option (Ctl σ β)} (mk : Nat → τ → σ) (fin : τ → β) (R : List α → τ → Prop) (l : List α)
    (h : ∀ pre x post t, l = pre ++ x :: post → R pre t → ∃ t', body (mk pre.length t) = some (.next (mk (pre.length + 1) t')) ∧ R (pre ++ [x]) t')
    (hend : ∀ t, R l t → body (mk l.length t) = some (.done (fin t))) :
    ∀ (post pre : List α) (t : τ), l = pre ++ post → R pre t → ∃ t', R l t' ∧ loopM body (mk pre.length t) = some (fin t')
  | [], pre, t, hl, hr => by
    rw [List.append_nil] at hl; subst hl
    exact ⟨t, hr, by rw [loopM_eq, hend t hr]⟩
  | x :: post, pre, t, hl, hr => by
    obtain ⟨t', hs, hr'⟩ := h pre x post t hl hr
    have := loopM_pre mk fin R l h hend post (pre ++ [x]) t' (by rw [hl]; simp) hr'
    rw [loopM_eq, hs]
    simpa using this
theorem loopM_upto {σ τ β : Type} {body : σ → Option (Ctl σ β)} (mk : Nat → τ → σ) (fin : τ → β) (R : Nat → τ → Prop) (n : Nat)
    (h : ∀ i t, i < n → R i t → ∃ t', body (mk i t) = some (.next (mk (i + 1) t')) ∧ R (i + 1) t')
    (hend : ∀ t, R n t → body (mk n t) = some (.done (fin t))) : ∀ (k i : Nat) (t : τ), i + k = n → R i t → ∃ t', R n t' ∧ loopM body (mk i t) = some (fin t')
  | 0, i, t, e, hr => by
    have : i = n := by omega
    subst this
    exact ⟨t, hr, by rw [loopM_eq, hend t hr]⟩
  | k + 1, i, t, e, hr => by
    obtain ⟨t', hs, hr'⟩ := h i t (by omega) hr
    rw [loopM_eq, hs]
    exact loopM_upto mk fin R n h hend k (i + 1) t' (by omega) hr'
theorem bind_of {α β : Type} {e : Option α} {f : α → Option β} {a : α} {r : Option β} (h : e = some a) (k : f a = r) : e.bind f = r := by
  rw [h]; exact k
theorem appO_some' {α : Type} {l k : List α} (h : l.length + k.length ≤ 4294967296) : appO l k = some (l ++ k) := by
  unfold appO; rw [if_pos h]
theorem getEl_mid {α : Type} {l pre post : List α} {x : α} (h : l = pre ++ x :: post) : l[pre.length]? = some x := by rw [h]; simp
theorem lt_mid {α : Type} {l pre post : List α} {x : α} (h : l = pre ++ x :: post) : pre.length < l.length := by rw [h]; simp
theorem snoc_ind {α : Type} {p : List α → Prop} (h0 : p []) (hs : ∀ l x, p l → p (l ++ [x])) (l : List α) : p l := by
  have : ∀ r : List α, p r.reverse := by
    intro r
    induction r with
    | nil => exact h0
    | cons x r ih => rw [List.reverse_cons]; exact hs _ _ ih
  have := this l.reverse
  rwa [List.reverse_reverse] at this
theorem loop_inv {σ β : Type} {body : σ → Option (Ctl σ β)} (I : σ → Prop) (μ : σ → Nat) (Q : β → Prop)
    (h : ∀ s, I s → (∃ s', body s = some (.next s') ∧ I s' ∧ μ s' < μ s) ∨ ∃ b, body s = some (.done b) ∧ Q b) : ∀ (n : Nat) (s : σ), μ s ≤ n → I s → ∃ b, loopM body s = some b ∧ Q b
  | 0, s, hn, hi => by
    rcases h s hi with ⟨s', _, _, hlt⟩ | ⟨b, hb, hq⟩
    · omega
    · exact ⟨b, by rw [loopM_eq, hb], hq⟩
  | n + 1, s, hn, hi => by
    rcases h s hi with ⟨s', hb, hi', hlt⟩ | ⟨b, hb, hq⟩
    · rw [loopM_eq, hb]; exact loop_inv I μ Q h n s' (by omega) hi'
    · exact ⟨b, by rw [loopM_eq, hb], hq⟩
end Go.Dec
end

section
namespace Go.Dec
variable {κ : Option Nat}
theorem round_fen {κ : Option Nat} {n : Nat} {P : Program} {l : Nat} {f : FuncId} {tmps : Array Value} {assign body : Code} {w : World} {R : Ending → World → Prop} : RoundIn (fen κ) n P l f tmps assign body w R ↔ RoundIn Fence.wide n P l f tmps assign body w R := by
  cases κ with
  | none => exact Iff.rfl
  | some l => exact Iff.rfl
def YieldOK {α σ : Type} (P : Program) (l : Nat) (F : Fz) (arg : α → Fz → List Value → Prop) (Y : σ → Fz → HP) (y : α → σ → Option (σ × Bool)) : Prop :=
  (∀ s F0 F1 m, F ≤ F0 → F0 ≤ F1 → Y s F0 m → Y s F1 m) ∧
  ∀ F1, F ≤ F1 → ∀ x vs s r, arg x F1 vs → y x s = some r → ∀ w R, SH w F1 (star (Y s F1) R) →
    ∃ f tmps assign body, (Instr.yield l vs.toArray).run P w = .ok (.round l f tmps assign body) w ∧
      RoundIn Fence.wide 0 P l f tmps assign body w (fun e w' => ∃ F2, F1 ≤ F2 ∧ e = .returned (.bool r.2) ∧ SH w' F2 (star (Y r.1 F2) R))
def IterOK {α : Type} (P : Program) (F : Fz) (f : FuncId) (caps : List Value) (arg : α → Fz → List Value → Prop) (mk : ∀ σ : Type, (α → σ → Option (σ × Bool)) → σ → Option σ) : Prop :=
  (∀ args w, (callFunc f args).run P w = .ok (.enter f args) w) ∧
  ∀ (σ : Type) (l : Nat) (Y : σ → Fz → HP) (y : α → σ → Option (σ × Bool)) (F1 : Fz), F ≤ F1 → YieldOK P l F1 arg Y y → ∀ s, CT P f (.func (.yield l) #[] #[] :: caps).toArray F1 (Y s F1) (mk σ y s) (fun _ _ _ => True) (fun s' F' _ => Y s' F')
section
variable {β : Type} {P : Program} {ops : Array Oper} {rest : List Oper} {ks : List Kt} {Q : Exit → Act → World → Prop} {m : Option β} {r : β}
variable {n : Nat} {D : List Deferred} {S : List (Nat × Value)} {F : Fz} {hs : List HP}
theorem GL.callY {α σ : Type} {l d i : Nat} {ty : TypeId} {pos : String} {after : Array Edge} {vs : List Value} {of : Operand} {os : List Operand} {T : Array TypeId} {Fb F0 : Fz} {arg : α → Fz → List Value → Prop} {Y : σ → Fz → HP} {y : α → σ → Option (σ × Bool)} {x : α} {s : σ} {g : σ × Bool → Option β}
    (hd : Nat.blt d n = true) (hy : YieldOK P l Fb arg Y y) (hf : evalS S of = some (.func (.yield l) #[] #[])) (ha : evalL S os = some vs) (hx : arg x F vs) (hi : hs[i]? = some (Y s F0)) (le0 : Fb ≤ F0) (le : F0 ≤ F)
    (k : ∀ p F', y x s = some p → F ≤ F' → GL κ P ops rest ks Q (Hd n D ((d, .bool p.2) :: S) F' (hs.set i (Y p.1 F'))) (g p) r) :
    GL κ P ops (⟨some d, .call ⟨.value of, os.toArray, T⟩, ty, pos, after, none⟩ :: rest) ks Q (Hd n D S F hs) ((y x s).bind g) r := by
  intro hm a w hA
  cases he : y x s with
  | none => rw [he] at hm; cases hm
  | some p =>
    rw [he] at hm
    obtain ⟨f, tmps, assign, body, hr, hround⟩ := hy.2 F (Fz.le_trans le0 le) x vs s p hx he w _ ((hA.2.pull hi).mono fun _ hm => star_mono_left (fun _ hm => hy.1 s F0 F _ le0 le hm) hm)
    unfold wpL
    rw [if_pos (by simp [Region.wanted])]
    refine ⟨.inr rfl, ?_⟩
    have e := evalL_map hA.1 ha
    have hrun : (execOp a.eval ⟨some d, .call ⟨.value of, os.toArray, T⟩, ty, pos, after, none⟩).run P w = .ok (.round l f tmps assign body) w := by
      simp [execOp, resolve, Deferred.ofValue, hA.1.eval hf, e, invoke, hr]
    rw [hrun]
    refine ⟨fun e => (by rw [fen_depth] at e; cases e), round_fen.2 (hround.mono ?_)⟩
    rintro _ w' ⟨F2, le2, rfl, hw⟩
    exact k p F2 he le2 hm _ _ ⟨hA.1.put hd _, SH.push hi hw⟩
end
def lready (L : Loop) : Obj := .loop { L with state := .ready, pending := none }
def lbusy (L : Loop) : Obj := .loop { L with state := .busy, pending := none }
def ldone (L : Loop) : Obj := .loop { L with state := .done, pending := some .ret }
def lover (L : Loop) (c : Option Code) : Obj := .loop { L with state := .exhausted, pending := c }
def yOf {α τ γ : Type} (body : α → τ → Option (Ctl τ γ)) : α → Ctl τ γ → Option (Ctl τ γ × Bool)
  | x, .next s => (body x s).map fun c => (c, match c with | .next _ => true | .done _ => false)
  | _, .done _ => none
def yS {τ γ : Type} (Fb : Fz) (l : Nat) (L : Loop) (I : τ → Fz → List HP → Prop) (J : γ → Fz → List HP → Prop) : Ctl τ γ → Fz → HP
  | .next s, F => fun m => ∃ F0 hs, Fb ≤ F0 ∧ F0 ≤ F ∧ I s F0 hs ∧ star (pt l (lready L)) (stars hs) m
  | .done b, F => fun m => ∃ F0 hs, Fb ≤ F0 ∧ F0 ≤ F ∧ J b F0 hs ∧ star (pt l (ldone L)) (stars hs) m
def RP {τ γ : Type} (l : Nat) (L : Loop) (I : τ → Fz → List HP → Prop) (J : γ → Fz → List HP → Prop) (F1 : Fz) (R : HP) (ctl : Ctl τ γ) : Exit → Act → World → Prop := fun e _ w =>
  match ctl with
  | .next s => e = .normal ∧ ∃ F2 hs, F1 ≤ F2 ∧ I s F2 hs ∧ SH w F2 (stars (pt l (lbusy L) :: R :: hs))
  | .done b => e = .ret ∧ ∃ F2 hs, F1 ≤ F2 ∧ J b F2 hs ∧ SH w F2 (stars (pt l (lbusy L) :: R :: hs))
def BP (P : Program) (l : Nat) (body : Code) (Q : Exit → Act → World → Prop) : Exit → Act → World → Prop := fun e a w =>
  e = .normal ∧ ∃ w₂, (Instr.beginRound l).run P w = .ok () w₂ ∧ body.wpIn (fen (some l)) 0 P Q a w₂
theorem run_begin {P : Program} {w : World} {l : Nat} {L : Loop} (h : w.heap[l]? = some (lready L)) : (Instr.beginRound l).run P w = .ok () (put w l (lbusy L)) :=
  run_beginRound (r := { L with state := .ready, pending := none }) h rfl
theorem run_endN {P : Program} {w : World} {l : Nat} {L : Loop} (h : w.heap[l]? = some (lbusy L)) : (Instr.endRound l none).run P w = .ok (.bool true) (put w l (lready L)) :=
  run_endRound (r := { L with state := .busy, pending := none }) none h
theorem run_endR {P : Program} {w : World} {l : Nat} {L : Loop} (h : w.heap[l]? = some (lbusy L)) : (Instr.endRound l (some .ret)).run P w = .ok (.bool false) (put w l (ldone L)) :=
  run_endRound (r := { L with state := .busy, pending := none }) (some .ret) h
theorem run_overN {P : Program} {w : World} {l : Nat} {L : Loop} (h : w.heap[l]? = some (lready L)) : (Instr.endLoop l).run P w = .ok none (put w l (lover L none)) :=
  run_endLoop (r := { L with state := .ready, pending := none }) h (by simp)
theorem run_overR {P : Program} {w : World} {l : Nat} {L : Loop} (h : w.heap[l]? = some (ldone L)) : (Instr.endLoop l).run P w = .ok (some .ret) (put w l (lover L (some .ret))) :=
  run_endLoop (r := { L with state := .done, pending := some .ret }) h (by simp)
section
variable {β : Type} {P : Program} {m : Option β} {r : β} {n : Nat} {D : List Deferred} {S : List (Nat × Value)} {F F1 : Fz} {hs : List HP} {R : HP}
variable {α τ γ : Type} {l : Nat} {L : Loop} {I : τ → Fz → List HP → Prop} {J : γ → Fz → List HP → Prop} {body assign : Code}
theorem GE.begin {Q : Exit → Act → World → Prop} (i : Nat) (hi : hs[i]? = some (pt l (lready L))) (k : GC (some l) P body [] Q (Hd n D S F (hs.set i (pt l (lbusy L)))) m r) : GE (some l) P [] (BP P l body Q) (Hd n D S F hs) m r :=
  fun hm a _ ha => ⟨rfl, _, run_begin (SH.ownedAt hi ha.2), k hm a _ ⟨ha.1, SH.putAt hi ha.2 _⟩⟩
theorem RP.norm {s : τ} {ctl : Ctl τ γ} {hs' : List HP} (le : F1 ≤ F) (h : I s F hs') (e : hs = pt l (lbusy L) :: R :: hs') : some (Ctl.next s) = some ctl → ∀ a w, Hd n D S F hs a w → RP l L I J F1 R ctl .normal a w := fun e' a w ha => by
  simp only [Option.some.injEq] at e'; subst e'; subst e; exact ⟨rfl, F, hs', le, h, ha.2⟩
theorem RP.ret {b : γ} {ctl : Ctl τ γ} {hs' : List HP} (le : F1 ≤ F) (h : J b F hs') (e : hs = pt l (lbusy L) :: R :: hs') : some (Ctl.done b) = some ctl → ∀ a w, Hd n D S F hs a w → RP l L I J F1 R ctl .ret a w := fun e' a w ha => by
  simp only [Option.some.injEq] at e'; subst e'; subst e; exact ⟨rfl, F, hs', le, h, ha.2⟩
theorem RP.normF {s s' : τ} {hs' : List HP} (le : F1 ≤ F) (h : I s F hs') (e : hs = pt l (lbusy L) :: R :: hs') : some s = some s' → ∀ a w, Hd n D S F hs a w → RP l L I J F1 R (.next s') .normal a w := fun e' a w ha => by
  simp only [Option.some.injEq] at e'; subst e'; subst e; exact ⟨rfl, F, hs', le, h, ha.2⟩
theorem SH.three {w : World} {F : Fz} {p q : HP} {hs : List HP} (h : SH w F (stars (p :: q :: hs))) : SH w F (star (star p (stars hs)) q) :=
  h.mono fun m hm => by
    obtain ⟨m1, m2, d, s1, s2, hp, hq⟩ := hm
    obtain ⟨m3, m4, d', t1, t2, hq', hr⟩ := hq
    classical
    refine ⟨fun k => if m1 k = none then m4 k else m1 k, m3, ?_, ?_, t1.trans s2, ⟨m1, m4, d.sub (Mem.sub.refl _) t2, ?_, ?_, hp, hr⟩, hq'⟩
    · intro k
      by_cases e : m1 k = none
      · simp only [e, if_true]; exact (d' k).symm
      · simp only [e, if_false]
        rcases (d.sub (Mem.sub.refl m1) t1) k with h | h
        · exact absurd h e
        · exact .inr h
    · intro k o e
      by_cases e' : m1 k = none
      · simp only [e', if_true] at e; exact s2 k o (t2 k o e)
      · simp only [e', if_false] at e; exact s1 k o e
    · intro k o e; simp [e]
    · intro k o e
      have : m1 k = none := (d.sub (Mem.sub.refl m1) t2).none_left e
      simp [this, e]
theorem SH.three' {w : World} {F : Fz} {p q : HP} {hs : List HP} (h : SH w F (star (star p (stars hs)) q)) : SH w F (stars (p :: q :: hs)) :=
  h.mono fun m hm => by
    obtain ⟨m1, m2, d, s1, s2, ⟨m3, m4, d', t1, t2, hp, hr⟩, hq⟩ := hm
    classical
    refine ⟨m3, fun k => if m2 k = none then m4 k else m2 k, ?_, t1.trans s1, ?_, hp, m2, m4, ?_, ?_, ?_, hq, hr⟩
    · intro k
      by_cases e : m2 k = none
      · simp only [e, if_true]; exact d' k
      · simp only [e, if_false]
        rcases (d.sub t1 (Mem.sub.refl m2)) k with h | h
        · exact .inl h
        · exact absurd h e
    · intro k o e
      by_cases e' : m2 k = none
      · simp only [e', if_true] at e; exact s1 k o (t2 k o e)
      · simp only [e', if_false] at e; exact s2 k o e
    · exact (d.sub t2 (Mem.sub.refl m2)).symm
    · intro k o e; simp [e]
    · intro k o e
      have : m2 k = none := (d.sub t2 (Mem.sub.refl m2)).none_right e
      simp [this, e]
theorem SH.openNext {w : World} {F : Fz} {s : τ} {Fb : Fz} (h : SH w F (star (yS Fb l L I J (.next s) F) R)) : ∃ F0 hs, Fb ≤ F0 ∧ F0 ≤ F ∧ I s F0 hs ∧ SH w F (stars (pt l (lready L) :: R :: hs)) := by
  obtain ⟨m, ⟨m1, m2, d, s1, s2, ⟨F0, hs, h0, h1, hI, hp⟩, hq⟩, k⟩ := h
  exact ⟨F0, hs, h0, h1, hI, SH.three' ⟨m, ⟨m1, m2, d, s1, s2, hp, hq⟩, k⟩⟩
theorem SH.openDone {w : World} {F : Fz} {b : γ} {Fb : Fz} (h : SH w F (star (yS Fb l L I J (.done b) F) R)) : ∃ F0 hs, Fb ≤ F0 ∧ F0 ≤ F ∧ J b F0 hs ∧ SH w F (stars (pt l (ldone L) :: R :: hs)) := by
  obtain ⟨m, ⟨m1, m2, d, s1, s2, ⟨F0, hs, h0, h1, hI, hp⟩, hq⟩, k⟩ := h
  exact ⟨F0, hs, h0, h1, hI, SH.three' ⟨m, ⟨m1, m2, d, s1, s2, hp, hq⟩, k⟩⟩
theorem yieldOK {arg : α → Fz → List Value → Prop} {bm : α → τ → Option (Ctl τ γ)} {F : Fz} {S' : List Value → List (Nat × Value)} (hP : ∀ x F' vs, arg x F' vs → vs.length = L.params.size) (ha : L.assign = assign) (hb : L.body = body)
    (hsl : ∀ vs : List Value, vs.length = L.params.size → Sl n [] (S' vs) { tmps := (L.params.zip vs.toArray).foldl (fun tmps (t, a) => tmps.setIfInBounds t a) L.tmps, defers := [] })
    (round : ∀ F0 F1 x vs s ctl R hs, F ≤ F0 → F0 ≤ F1 → arg x F1 vs → I s F0 hs → GC (some l) P assign [] (BP P l body (RP l L I J F1 R ctl)) (Hd n [] (S' vs) F1 (pt l (lready L) :: R :: hs)) (bm x s) ctl) :
    YieldOK P l F arg (yS F l L I J) (yOf bm) := by
  refine ⟨fun c F0 F1 m _ h1 hm => ?_, fun F1 h1 x vs c r hx hy w R hw => ?_⟩
  · cases c with
    | next s => obtain ⟨G, hs, g0, g1, k⟩ := hm; exact ⟨G, hs, g0, Fz.le_trans g1 h1, k⟩
    | done b => obtain ⟨G, hs, g0, g1, k⟩ := hm; exact ⟨G, hs, g0, Fz.le_trans g1 h1, k⟩
  cases c with
  | done b => simp [yOf] at hy
  | next s =>
    simp only [yOf] at hy
    cases hc : bm x s with
    | none => rw [hc] at hy; cases hy
    | some ctl =>
      rw [hc] at hy
      simp only [Option.map_some, Option.some.injEq] at hy
      subst hy
      obtain ⟨F0, hs, h0, h01, hI, hw3⟩ := SH.openNext hw
      have hl : w.heap[l]? = some (lready L) := SH.ownedAt (k := 0) rfl hw3
      have hn := hP x F1 vs hx
      refine ⟨L.fn, _, L.assign, L.body, run_yield (r := { L with state := .ready, pending := none }) hl (by simpa using hn), ?_⟩
      refine roundIn_of_wpIn trivial ?_
      rw [ha, hb]
      have hg := round F0 F1 x vs s ctl R hs h0 h01 hx hI hc _ w ⟨hsl vs hn, hw3⟩
      refine wpIn_mono hg fun e a1 w1 hq => ?_
      obtain ⟨rfl, w2, hbr, hbody⟩ := hq
      refine ⟨w2, hbr, wpIn_mono hbody fun e a2 w3 hq => ?_⟩
      cases ctl with
      | next s' =>
        obtain ⟨rfl, F2, hs2, le, hI2, h⟩ := hq
        refine ⟨_, _, run_endN (SH.ownedAt (k := 0) rfl h), F2, le, rfl, (SH.three (SH.putAt (k := 0) rfl h (lready L))).mono fun m hm => star_mono_left (fun m hm => ?_) hm⟩
        exact ⟨F2, hs2, Fz.le_trans h1 le, Fz.le_refl _, hI2, hm⟩
      | done b =>
        obtain ⟨rfl, F2, hs2, le, hI2, h⟩ := hq
        refine ⟨_, _, run_endR (SH.ownedAt (k := 0) rfl h), F2, le, rfl, (SH.three (SH.putAt (k := 0) rfl h (ldone L))).mono fun m hm => star_mono_left (fun m hm => ?_) hm⟩
        exact ⟨F2, hs2, Fz.le_trans h1 le, Fz.le_refl _, hI2, hm⟩
end
abbrev dmark (q : Nat) : Deferred := { target := .collected q, args := #[] }
theorem sl_paramsL {n : Nat} : ∀ {ps : List Nat} {vs : List Value} {t : Array Value} {S : List (Nat × Value)}, (ps.all fun p => Nat.blt p n) = true → Sl n [] S { tmps := t, defers := [] } →
    Sl n [] ((ps.zip vs).reverse ++ S) { tmps := (ps.zip vs).foldl (fun tmps (t, a) => tmps.setIfInBounds t a) t, defers := [] }
  | [], _, _, _, _, h => h
  | _ :: _, [], _, _, _, h => h
  | p :: ps, v :: vs, t, S, hp, h => by
    simp only [List.all_cons, Bool.and_eq_true] at hp
    have h1 := Sl.put h hp.1 v
    have h2 := sl_paramsL (ps := ps) (vs := vs) (S := (p, v) :: S) (t := t.setIfInBounds p v) hp.2 h1
    simpa using h2
theorem sl_params {n : Nat} {ps : List Nat} {vs : List Value} {t : Array Value} {S : List (Nat × Value)} (hp : (ps.all fun p => Nat.blt p n) = true) (h : Sl n [] S { tmps := t, defers := [] }) :
    Sl n [] ((ps.zip vs).reverse ++ S) { tmps := (ps.toArray.zip vs.toArray).foldl (fun tmps (t, a) => tmps.setIfInBounds t a) t, defers := [] } := by
  rw [List.zip_toArray, List.foldl_toArray]; exact sl_paramsL hp h
section
variable {β : Type} {P : Program} {ks : List Kt} {Q : Exit → Act → World → Prop} {r : β} {n : Nat} {D : List Deferred} {S : List (Nat × Value)} {F : Fz} {hs : List HP}
variable {α τ γ : Type} {g : Operand} {ps : List Tmp} {assign body : Code} {f : FuncId} {caps : List Value} {mk : ∀ σ : Type, (α → σ → Option (σ × Bool)) → σ → Option σ} {arg : α → Fz → List Value → Prop} {bm : α → τ → Option (Ctl τ γ)} {s0 : τ} {k : Ctl τ γ → Option β}
theorem GC.rangeFunc (I : τ → Fz → List HP → Prop) (J : γ → Fz → List HP → Prop) (hg : evalS S g = some (.func (.func f) #[] caps.toArray)) (hit : IterOK P F f caps arg mk) (hps : (ps.all fun p => Nat.blt p n) = true) (harg : ∀ x F' vs, arg x F' vs → vs.length = ps.length)
    (hI : I s0 F hs)
    (round : ∀ l L F0 F1 x vs s ctl R hs', F ≤ F0 → F0 ≤ F1 → arg x F1 vs → I s F0 hs' → GC (some l) P assign [] (BP P l body (RP l L I J F1 R ctl)) (Hd n [] ((ps.zip vs).reverse ++ S) F1 (pt l (lready L) :: R :: hs')) (bm x s) ctl)
    (next : ∀ q F0 F' s hs', F ≤ F0 → F0 ≤ F' → mk _ (yOf bm) (.next s0) = some (.next s) → I s F0 hs' → GE none P ks Q (Hd n (dmark q :: D) S F' (pt q (.deferred (some [])) :: hs')) (k (.next s)) r)
    (done : ∀ q F0 F' b hs', F ≤ F0 → F0 ≤ F' → mk _ (yOf bm) (.next s0) = some (.done b) → J b F0 hs' → GC none P .ret ks Q (Hd n (dmark q :: D) S F' (pt q (.deferred (some [])) :: hs')) (k (.done b)) r) :
    GC none P (.rangeFunc g ps.toArray assign body) ks Q (Hd n D S F hs) ((mk (Ctl τ γ) (yOf bm) (.next s0)).bind k) r := by
  intro hm a w ha
  cases hl : mk (Ctl τ γ) (yOf bm) (.next s0) with
  | none => rw [hl] at hm; cases hm
  | some c =>
    rw [hl] at hm
    refine wpIn_rangeFunc fun fn _ => ?_
    let L : Loop := { state := .ready, pending := none, fn, tmps := a.tmps, params := ps.toArray, assign, body, defers := w.heap.size }
    have hw1 : SH ((w.alloc (.deferred (some []))).alloc (.loop L)) F (star (yS F (w.heap.size + 1) L I J (.next s0) F) (stars [pt w.heap.size (.deferred (some []))])) := by
      have h1 := (ha.2.alloc (.deferred (some []))).alloc (.loop L)
      rw [World.size_alloc] at h1
      have h2 : SH ((w.alloc (.deferred (some []))).alloc (.loop L)) F (stars (pt (w.heap.size + 1) (lready L) :: stars [pt w.heap.size (.deferred (some []))] :: hs)) := by
        refine h1.mono fun m hm => star_mono_right (fun m hm => star_mono_left (fun m hm => ?_) hm) hm
        exact ⟨m, fun _ => none, fun _ => .inr rfl, Mem.sub.refl _, fun _ _ e => by simp at e, hm, trivial⟩
      exact (SH.three h2).mono fun m hm => star_mono_left (fun m hm => ⟨F, hs, Fz.le_refl _, Fz.le_refl _, hI, hm⟩) hm
    have hY : YieldOK P (w.heap.size + 1) F arg (yS F (w.heap.size + 1) L I J) (yOf bm) := by
      refine yieldOK (S' := fun vs => (ps.zip vs).reverse ++ S) (assign := assign) (body := body) (fun x F' vs hx => by rw [harg x F' vs hx]; simp [L]) rfl rfl (fun vs _ => sl_params hps ⟨ha.1.1, rfl, ha.1.2.2⟩) ?_
      exact fun F0 F1 x vs s ctl R hs' h0 h1 hx hI => round _ L F0 F1 x vs s ctl R hs' h0 h1 hx hI
    have hc := hit.2 _ _ _ _ F (Fz.le_refl F) hY (.next s0) c hl _ _ hw1
    refine ⟨w.heap.size + 1, [dmark w.heap.size], (w.alloc (.deferred (some []))).alloc (.loop L), ⟨.fn (.func f) caps.toArray, #[.func (.yield (w.heap.size + 1)) #[] #[]]⟩, (w.alloc (.deferred (some []))).alloc (.loop L), f, (.func (.yield (w.heap.size + 1)) #[] #[] :: caps).toArray, (w.alloc (.deferred (some []))).alloc (.loop L), run_enterLoop_outer fn a.tmps ps.toArray assign body, ?_, fun _ _ => trivial, ?_, fun e => (by cases e), ?_⟩
    · have hc0 : a.eval (.const (.func (.yield (w.heap.size + 1)) #[] #[])) = .func (.yield (w.heap.size + 1)) #[] #[] := rfl
      simp [resolve, Deferred.ofValue, ha.1.eval hg, hc0]
    · simp [invoke, hit.1]
    · refine callsIn_wide.2 (hc.mono ?_)
      rintro _ w' ⟨F', v, le, rfl, -, hw'⟩
      cases c with
      | next s =>
        obtain ⟨F0, hs', h0, h1, hI', h3⟩ := SH.openNext hw'
        refine ⟨none, _, run_overN (SH.ownedAt (k := 0) rfl h3), ?_⟩
        have h4 : SH _ F' (stars (pt w.heap.size (.deferred (some [])) :: hs')) := (SH.eraseAt 0 (SH.putAt (k := 0) rfl h3 (lover L none))).mono fun m hm => star_mono_left (fun m hm => by obtain ⟨m1, _, _, s1, _, hp, _⟩ := hm; exact s1 _ _ hp) hm
        exact next w.heap.size F0 F' s hs' h0 h1 hl hI' hm _ _ ⟨⟨ha.1.1, by simp [ha.1.2.1], ha.1.2.2⟩, h4⟩
      | done b =>
        obtain ⟨F0, hs', h0, h1, hI', h3⟩ := SH.openDone hw'
        refine ⟨some .ret, _, run_overR (SH.ownedAt (k := 0) rfl h3), ?_⟩
        have h4 : SH _ F' (stars (pt w.heap.size (.deferred (some [])) :: hs')) := (SH.eraseAt 0 (SH.putAt (k := 0) rfl h3 (lover L (some .ret)))).mono fun m hm => star_mono_left (fun m hm => by obtain ⟨m1, _, _, s1, _, hp, _⟩ := hm; exact s1 _ _ hp) hm
        exact done w.heap.size F0 F' b hs' h0 h1 hl hI' hm _ _ ⟨⟨ha.1.1, by simp [ha.1.2.1], ha.1.2.2⟩, h4⟩
def foldY {α σ : Type} (y : α → σ → Option (σ × Bool)) : List α → σ → Option σ
  | [], s => some s
  | x :: xs, s => (y x s).bind fun p => if p.2 then foldY y xs p.1 else some p.1
def RepIter {α : Type} (P : Program) (F : Fz) (f : FuncId) (caps : List Value) (arg : α → Fz → List Value → Prop) (l : List α) : Prop := IterOK P F f caps arg (fun _ y s => foldY y l s)
def forL {α τ : Type} (b : α → τ → Option τ) : List α → τ → Option τ
  | [], s => some s
  | x :: xs, s => (b x s).bind (forL b xs)
def retL {α τ γ : Type} (b : α → τ → Option (Ctl τ γ)) : List α → τ → Option (Ctl τ γ)
  | [], s => some (.next s)
  | x :: xs, s => (b x s).bind fun c => match c with
    | .next s' => retL b xs s'
    | .done r => some (.done r)
theorem foldY_retL {α τ γ : Type} (b : α → τ → Option (Ctl τ γ)) : ∀ (l : List α) (s : τ), foldY (yOf b) l (.next s) = retL b l s
  | [], s => rfl
  | x :: xs, s => by
    simp only [foldY, yOf, retL]
    cases h : b x s with
    | none => rfl
    | some c =>
      cases c with
      | next s' => simpa using foldY_retL b xs s'
      | done r => simp
theorem retL_forL {α τ : Type} (b : α → τ → Option τ) : ∀ (l : List α) (s : τ), retL (γ := Empty) (fun x s => (b x s).map .next) l s = (forL b l s).map .next
  | [], s => rfl
  | x :: xs, s => by
    simp only [retL, forL]
    cases h : b x s with
    | none => rfl
    | some s' => simpa using retL_forL b xs s'
theorem GC.rangeRet {l : List α} (I : τ → Fz → List HP → Prop) (J : γ → Fz → List HP → Prop) (hg : evalS S g = some (.func (.func f) #[] caps.toArray)) (hit : RepIter P F f caps arg l) (hps : (ps.all fun p => Nat.blt p n) = true) (harg : ∀ x F' vs, arg x F' vs → vs.length = ps.length)
    (hI : I s0 F hs)
    (round : ∀ l L F0 F1 x vs s ctl R hs', F ≤ F0 → F0 ≤ F1 → arg x F1 vs → I s F0 hs' → GC (some l) P assign [] (BP P l body (RP l L I J F1 R ctl)) (Hd n [] ((ps.zip vs).reverse ++ S) F1 (pt l (lready L) :: R :: hs')) (bm x s) ctl)
    (next : ∀ q F0 F' s hs', F ≤ F0 → F0 ≤ F' → retL bm l s0 = some (.next s) → I s F0 hs' → GE none P ks Q (Hd n (dmark q :: D) S F' (pt q (.deferred (some [])) :: hs')) (k (.next s)) r)
    (done : ∀ q F0 F' b hs', F ≤ F0 → F0 ≤ F' → retL bm l s0 = some (.done b) → J b F0 hs' → GC none P .ret ks Q (Hd n (dmark q :: D) S F' (pt q (.deferred (some [])) :: hs')) (k (.done b)) r) :
    GC none P (.rangeFunc g ps.toArray assign body) ks Q (Hd n D S F hs) ((retL bm l s0).bind k) r := by
  rw [← foldY_retL] at next done ⊢
  exact GC.rangeFunc (mk := fun _ y s => foldY y l s) I J hg hit hps harg hI round next done
theorem GC.rangeFor {l : List α} {bm : α → τ → Option τ} {k : τ → Option β} (I : τ → Fz → List HP → Prop) (hg : evalS S g = some (.func (.func f) #[] caps.toArray)) (hit : RepIter P F f caps arg l) (hps : (ps.all fun p => Nat.blt p n) = true) (harg : ∀ x F' vs, arg x F' vs → vs.length = ps.length)
    (hI : I s0 F hs)
    (round : ∀ l L F0 F1 x vs s ctl R hs', F ≤ F0 → F0 ≤ F1 → arg x F1 vs → I s F0 hs' → GC (some l) P assign [] (BP P l body (RP l L I (fun (_ : Empty) _ _ => False) F1 R (.next ctl))) (Hd n [] ((ps.zip vs).reverse ++ S) F1 (pt l (lready L) :: R :: hs')) (bm x s) ctl)
    (next : ∀ q F0 F' s hs', F ≤ F0 → F0 ≤ F' → forL bm l s0 = some s → I s F0 hs' → GE none P ks Q (Hd n (dmark q :: D) S F' (pt q (.deferred (some [])) :: hs')) (k s) r) :
    GC none P (.rangeFunc g ps.toArray assign body) ks Q (Hd n D S F hs) ((forL bm l s0).bind k) r := by
  have h := GC.rangeRet (γ := Empty) (k := fun c => match c with | .next s => k s | .done b => b.elim) (bm := fun x s => (bm x s).map .next) (ks := ks) (Q := Q) (D := D) (r := r) I (fun _ _ _ => False) hg hit hps harg hI
    (fun l L F0 F1 x vs s ctl R hs' h0 h1 hx hI => by
      intro hm
      cases hb : bm x s with
      | none => rw [hb] at hm; cases hm
      | some s' => rw [hb] at hm; simp only [Option.map_some, Option.some.injEq] at hm; subst hm; exact round l L F0 F1 x vs s s' R hs' h0 h1 hx hI hb)
    (fun q F0 F' s hs' h0 h1 he => next q F0 F' s hs' h0 h1 (by rw [retL_forL] at he; cases hf : forL bm l s0 with | none => rw [hf] at he; cases he | some s' => rw [hf] at he; simp only [Option.map_some, Option.some.injEq, Ctl.next.injEq] at he; rw [he]))
    (fun _ _ _ b => b.elim)
  rw [retL_forL] at h
  cases hf : forL bm l s0 with
  | none => intro hm; cases hm
  | some s => rw [hf] at h; exact h
end
def okM : List HP → List (Nat × Nat) → Prop
  | _, [] => True
  | hs, (i, q) :: ms => hs[i]? = some (pt q (.deferred (some []))) ∧ okM (hs.set i (pt q (.deferred none))) ms
def shutM : List HP → List (Nat × Nat) → List HP
  | hs, [] => hs
  | hs, (i, q) :: ms => shutM (hs.set i (pt q (.deferred none))) ms
theorem leavesM {P : Program} {fn : Func} {tmps : Array Value} {R : Ending → World → Prop} {F : Fz} : ∀ {ms : List (Nat × Nat)} {hs : List HP} {w : World}, SH w F (stars hs) → okM hs ms →
    (∀ w', SH w' F (stars (shutM hs ms)) → ∃ v, (results fn tmps).run P w' = .ok v w' ∧ R (.returned v) w') → LeavesInM Fence.wide 0 P fn tmps R (ms.map fun p => dmark p.2) .returning w
  | [], hs, w, h, _, k => k w h
  | (i, q) :: ms, hs, w, h, ho, k => by
    refine ⟨by simp, .inl ⟨q, _, rfl, run_takeDeferred (SH.ownedAt ho.1 h), ?_⟩⟩
    exact leavesM (SH.putAt ho.1 h _) ho.2 k
def fnPost0M {β : Type} (P : Program) (fn : Func) (F : Fz) (R : HP) (ρ : β → Fz → Value → Prop) (r : β) : Exit → Act → World → Prop :=
  bodyPostM Fence.wide 0 P fn (fun e w' => ∃ F' v, F ≤ F' ∧ e = .returned v ∧ ρ r F' v ∧ SH w' F' R)
theorem CT0.enterM {β : Type} {P : Program} {f : FuncId} {fn : Func} {c : Code} {args : List Value} {F : Fz} {m : Option β} {ρ : β → Fz → Value → Prop} {n : Nat}
    (hf : P.funcs[f]? = some fn) (hb : fn.body = some c) (hn : fn.ntmps = n) (ha : Nat.ble args.length n = true)
    (k : ∀ r R, GC none P c [] (fnPost0M P fn F R ρ r) (Hd n [] (argS 0 args) F [R]) m r) : CT0 P f args.toArray F m ρ := by
  intro r hm w R hw
  refine (callsIn_wide (n := 0)).1 (callsIn_of_wp_marks hf hb trivial (k r R hm _ w ⟨?_, hw.one⟩))
  rw [hn]; exact sl_enter ha
section
variable {β : Type} {P : Program} {n : Nat} {S : List (Nat × Value)} {F F' : Fz} {hs : List HP} {ks : List Kt} {fn : Func} {R : HP} {ρ : β → Fz → Value → Prop} {x r : β} {rs : List ResultVar} {vs : List Value} {i : Nat} {ms : List (Nat × Nat)}
theorem ret_post0M (hr : fn.results = rs.toArray) (ho : okM hs ms) (h : Res P S F' (shutM hs ms) rs vs) (hi : (shutM hs ms)[i]? = some R) (le : F ≤ F') (hρ : ρ x F' (tup vs)) :
    some x = some r → ∀ a w, Hd n (ms.map fun p => dmark p.2) S F' hs a w → LeavesInM Fence.wide 0 P fn a.tmps (fun e w' => ∃ F' v, F ≤ F' ∧ e = .returned v ∧ ρ r F' v ∧ SH w' F' R) a.defers .returning w := by
  intro e a w ha
  simp only [Option.some.injEq] at e
  subst e
  rw [ha.1.2.1]
  refine leavesM ha.2 ho fun w' h' => ?_
  exact ⟨_, run_results (n := n) (a := a) (D := a.defers) hr ⟨⟨ha.1.1, rfl, ha.1.2.2⟩, h'⟩ h, F', _, le, rfl, hρ, h'.only hi⟩
theorem GC.ret0M (ms : List (Nat × Nat)) (hr : fn.results = rs.toArray) (ho : okM hs ms) (h : Res P S F' (shutM hs ms) rs vs) (hi : (shutM hs ms)[i]? = some R) (le : F ≤ F') (hρ : ρ x F' (tup vs)) :
    GC κ P .ret ks (fnPost0M P fn F R ρ r) (Hd n (ms.map fun p => dmark p.2) S F' hs) (some x) r := GC.retQ (ret_post0M hr ho h hi le hρ)
end
end Go.Dec
end

section
namespace Go.Dec
variable {κ : Option Nat}
theorem star_assoc {p q r : HP} {m : Mem} (h : star (star p q) r m) : star p (star q r) m := by
  obtain ⟨m1, m2, d, s1, s2, ⟨m3, m4, d', t1, t2, hp, hq⟩, hr⟩ := h
  classical
  refine ⟨m3, fun k => if m2 k = none then m4 k else m2 k, ?_, t1.trans s1, ?_, hp, m4, m2, (d.sub t2 (Mem.sub.refl m2)), ?_, ?_, hq, hr⟩
  · intro k
    by_cases e : m2 k = none
    · simp only [e, if_true]; exact d' k
    · simp only [e, if_false]
      rcases (d.sub t1 (Mem.sub.refl m2)) k with h | h
      · exact .inl h
      · exact absurd h e
  · intro k o e
    by_cases e' : m2 k = none
    · simp only [e', if_true] at e; exact s1 k o (t2 k o e)
    · simp only [e', if_false] at e; exact s2 k o e
  · intro k o e
    have : m2 k = none := (d.sub t2 (Mem.sub.refl m2)).none_right e
    simp [this, e]
  · intro k o e; simp [e]
theorem star_assoc' {p q r : HP} {m : Mem} (h : star p (star q r) m) : star (star p q) r m := by
  have h1 := star_swap h
  obtain ⟨m1, m2, d, s1, s2, hq, m3, m4, d', t1, t2, hp, hr⟩ := h1
  classical
  refine ⟨fun k => if m1 k = none then m3 k else m1 k, m4, ?_, ?_, t2.trans s2, ⟨m3, m1, (d.sub (Mem.sub.refl m1) t1).symm, ?_, ?_, hp, hq⟩, hr⟩
  · intro k
    by_cases e : m1 k = none
    · simp only [e, if_true]; exact d' k
    · simp only [e, if_false]
      rcases (d.sub (Mem.sub.refl m1) t2) k with h | h
      · exact absurd h e
      · exact .inr h
  · intro k o e
    by_cases e' : m1 k = none
    · simp only [e', if_true] at e; exact s2 k o (t1 k o e)
    · simp only [e', if_false] at e; exact s1 k o e
  · intro k o e
    have : m1 k = none := (d.sub (Mem.sub.refl m1) t1).none_left e
    simp [this, e]
  · intro k o e; simp [e]
def pickR : List Nat → List HP → List HP
  | [], _ => []
  | k :: ks, hs => (hs[k]?).getD emp :: pickR ks (hs.eraseIdx k)
theorem stars_pick : ∀ {ks : List Nat} {hs : List HP} {m : Mem}, stars hs m → stars (pickR ks hs) m
  | [], _, _, _ => trivial
  | k :: ks, hs, m, h => by
    cases e : hs[k]? with
    | some p => simp only [pickR, e, Option.getD_some]; exact star_mono_right (fun _ h => stars_pick h) (stars_pull e h)
    | none => simp only [pickR, e, Option.getD_none]; exact star_mono_right (fun _ h => stars_pick h) (stars_erase h)
def GG {β : Type} (X : Act → World → Prop) (A : Act → World → Prop) (m : Option β) (r : β) : Prop := m = some r → ∀ a w, A a w → X a w
section
variable {β : Type} {X : Act → World → Prop} {m : Option β} {r : β} {n : Nat} {D : List Deferred} {S : List (Nat × Value)} {F F0 : Fz} {hs hs' : List HP}
variable {α : Type} {γ : Nat} {C : Fz → Nat → α → HP} {xs : List α} {j b : Nat} {x y : α}
theorem GG.pick (ks : List Nat) (h : pickR ks hs = hs') (k : GG X (Hd n D S F hs') m r) : GG X (Hd n D S F hs) m r :=
  fun hm a w ha => k hm a w ⟨ha.1, h ▸ ha.2.mono fun _ => stars_pick⟩
end
end Go.Dec
end

section
namespace Go.Dec
variable {κ : Option Nat}
inductive Out (ε β : Type) where
  | ok (b : β)
  | pan (x : ε)
def leftR : List Nat → List HP → List HP
  | [], hs => hs
  | k :: ks, hs => leftR ks (hs.eraseIdx k)
theorem stars_part : ∀ {ks : List Nat} {hs : List HP} {m : Mem}, stars hs m → star (stars (pickR ks hs)) (stars (leftR ks hs)) m
  | [], _, m, h => ⟨fun _ => none, m, fun _ => .inl rfl, fun _ _ e => by simp at e, Mem.sub.refl _, trivial, h⟩
  | k :: ks, hs, m, h => by
    have h1 : star ((hs[k]?).getD emp) (stars (hs.eraseIdx k)) m := by
      cases e : hs[k]? with
      | some p => exact stars_pull e h
      | none => exact stars_erase h
    exact star_assoc' (star_mono_right (fun _ h => stars_part (ks := ks) h) h1)
theorem stars_app : ∀ {l k : List HP} {m : Mem}, star (stars l) (stars k) m → stars (l ++ k) m
  | [], _, _, ⟨_, _, _, _, s2, _, h⟩ => stars_sub s2 h
  | _p :: _l, _k, _m, h => star_mono_right (fun _ h => stars_app h) (star_assoc h)
where
  stars_sub : ∀ {l : List HP} {m n : Mem}, Mem.sub m n → stars l m → stars l n
    | [], _, _, _, _ => trivial
    | _ :: _, _, _, s, ⟨m1, m2, d, s1, s2, hp, hq⟩ => ⟨m1, m2, d, s1.trans s, s2.trans s, hp, hq⟩
theorem stars_app' : ∀ {l k : List HP} {m : Mem}, stars (l ++ k) m → star (stars l) (stars k) m
  | [], _, m, h => ⟨fun _ => none, m, fun _ => .inl rfl, fun _ _ e => by simp at e, Mem.sub.refl _, trivial, h⟩
  | p :: l, k, m, h => star_assoc' (star_mono_right (fun _ h => stars_app' h) h)
theorem stars_one {p : HP} {m : Mem} (h : p m) : stars [p] m := ⟨m, fun _ => none, fun _ => .inr rfl, Mem.sub.refl _, fun _ _ e => by simp at e, h, trivial⟩
def CTX {ε β : Type} (P : Program) (penc : ε → Value) (f : FuncId) (args : Array Value) (F : Fz) (Hs : List HP) (m : Option (Out ε β)) (ρ : β → Fz → Value → Prop) (Hs' : β → Fz → Value → List HP) : Prop :=
  ∀ r, m = some r → ∀ w R, SH w F (star (stars Hs) R) → Calls P f args w (fun e w' => ∃ F', F ≤ F' ∧ match r with
    | .ok x => ∃ v, e = .returned v ∧ ρ x F' v ∧ SH w' F' (star (stars (Hs' x F' v)) R)
    | .pan x => e = .panicked [{ v := penc x, recovered := false }] ∧ SH w' F' R)
def fnPostX {ε β : Type} (P : Program) (penc : ε → Value) (fn : Func) (F : Fz) (R : HP) (ρ : β → Fz → Value → Prop) (Hs' : β → Fz → Value → List HP) (r : Out ε β) : Exit → Act → World → Prop :=
  bodyPost P fn (fun e w' => ∃ F', F ≤ F' ∧ match r with
    | .ok x => ∃ v, e = .returned v ∧ ρ x F' v ∧ SH w' F' (star (stars (Hs' x F' v)) R)
    | .pan x => e = .panicked [{ v := penc x, recovered := false }] ∧ SH w' F' R)
theorem CTX.enter {ε β : Type} {P : Program} {penc : ε → Value} {f : FuncId} {fn : Func} {c : Code} {args : List Value} {F : Fz} {Hs : List HP} {m : Option (Out ε β)} {ρ : β → Fz → Value → Prop} {Hs' : β → Fz → Value → List HP} {n : Nat}
    (hf : P.funcs[f]? = some fn) (hb : fn.body = some c) (hn : fn.ntmps = n) (ha : Nat.ble args.length n = true)
    (k : ∀ r R, GC none P c [] (fnPostX P penc fn F R ρ Hs' r) (Hd n [] (argS 0 args) F (Hs ++ [R])) m r) : CTX P penc f args.toArray F Hs m ρ Hs' := by
  intro r hm w R hw
  refine calls_of_wp hf hb (wpIn_wide.1 (k r R hm _ w ⟨?_, hw.mono fun m hm => stars_app (star_mono_right (fun _ h => stars_one h) hm)⟩))
  rw [hn]; exact sl_enter ha
section
variable {ε β : Type} {P : Program} {penc : ε → Value} {n : Nat} {S : List (Nat × Value)} {F F' : Fz} {hs : List HP} {ks : List Kt} {fn : Func} {R : HP} {ρ : β → Fz → Value → Prop} {Hs' : β → Fz → Value → List HP} {x : β} {r : Out ε β} {rs : List ResultVar} {vs : List Value}
theorem star_one {A : HP} {m : Mem} (h : star A (stars [R]) m) : star A R m := by
  obtain ⟨m1, m2, d, s1, s2, ha, m3, _, _, t1, _, hr, _⟩ := h
  exact ⟨m1, m3, d.sub (Mem.sub.refl _) t1, s1, t1.trans s2, ha, hr⟩
theorem ret_postX (is : List Nat) (hr : fn.results = rs.toArray) (h : Res P S F' hs rs vs) (hi : pickR is hs = Hs' x F' (tup vs) ++ [R]) (le : F ≤ F') (hρ : ρ x F' (tup vs)) :
    some (Out.ok x) = some r → ∀ a w, Hd n [] S F' hs a w → fnPostX P penc fn F R ρ Hs' r .ret a w := by
  intro e a w ha
  simp only [Option.some.injEq] at e
  subst e
  refine ⟨ha.1.2.1, _, run_results hr ha h, F', le, _, rfl, hρ, ha.2.mono fun m hm => ?_⟩
  have h1 := stars_pick (ks := is) hm
  rw [hi] at h1
  exact star_one (stars_app' h1)
theorem GC.retX (is : List Nat) (hr : fn.results = rs.toArray) (h : Res P S F' hs rs vs) (hi : pickR is hs = Hs' x F' (tup vs) ++ [R]) (le : F ≤ F') (hρ : ρ x F' (tup vs)) :
    GC κ P .ret ks (fnPostX P penc fn F R ρ Hs' r) (Hd n [] S F' hs) (some (.ok x)) r := GC.retQ (ret_postX is hr h hi le hρ)
theorem GE.endX (is : List Nat) (hr : fn.results = rs.toArray) (h : Res P S F' hs rs vs) (hi : pickR is hs = Hs' x F' (tup vs) ++ [R]) (le : F ≤ F') (hρ : ρ x F' (tup vs)) :
    GE κ P [] (fnPostX P penc fn F R ρ Hs' r) (Hd n [] S F' hs) (some (.ok x)) r := GE.nil (ret_postX is hr h hi le hρ)
theorem pan_postX {q : ε} {i : Nat} (hi : hs[i]? = some R) (le : F ≤ F') :
    some (Out.pan q) = some r → ∀ a w, Hd n [] S F' hs a w → fnPostX P penc fn F R ρ Hs' r (.panic [{ v := penc q, recovered := false }]) a w := by
  intro e a w ha
  simp only [Option.some.injEq] at e
  subst e
  exact ⟨ha.1.2.1, F', le, rfl, ha.2.only hi⟩
end
section
variable {ε β : Type} {P : Program} {penc : ε → Value} {ops : Array Oper} {rest : List Oper} {ks : List Kt} {Q : Exit → Act → World → Prop} {m : Option β} {r : β}
variable {n : Nat} {D : List Deferred} {S : List (Nat × Value)} {F F0 : Fz} {hs : List HP}
theorem GL.panicQ {dst : Option Tmp} {ox : Operand} {ty : TypeId} {pos : String} {after : Array Edge} {T : TypeId} {v : Value} (hx : evalS S ox = some (.iface T v))
    (h : m = some r → ∀ a w, Hd n D S F hs a w → Q (.panic [{ v := .iface T v, recovered := false }]) a w) : GL κ P ops (⟨dst, .panic ox, ty, pos, after, none⟩ :: rest) ks Q (Hd n D S F hs) m r := by
  intro hm a w ha
  unfold wpL
  rw [if_pos (by simp [Region.wanted])]
  refine ⟨.inr rfl, ?_⟩
  have hrun : (execOp a.eval ⟨dst, .panic ox, ty, pos, after, none⟩).run P w = .halt (.panic (.iface T v)) w := by
    simp [execOp, Instr.panic, ha.1.eval hx, goPanic]
  rw [hrun]
  exact interp_panic (h hm a w ha)
end
end Go.Dec
end

section
namespace Go.Dec
variable {κ : Option Nat}
section
variable {β : Type} {X : Act → World → Prop} {m : Option β} {r : β} {n : Nat} {D : List Deferred} {S : List (Nat × Value)} {F F0 : Fz} {hs : List HP}
variable {α : Type} {γ : Nat} {C : Fz → Nat → α → HP} {xs xs' : List α} {b : Nat} {x : α}
theorem GG.norm {S' : List (Nat × Value)} {hs' : List HP} (hS : Sub S' S) (hh : hs = hs') (k : GG X (Hd n D S' F hs') m r) : GG X (Hd n D S F hs) m r :=
  fun hm a w ha => k hm a w ⟨ha.1.sub hS, hh ▸ ha.2⟩
end
section
variable {β σ γ : Type} {A : Act → World → Prop}
theorem LPost.panQ {I : σ → Act → World → Prop} {Dn : γ → Exit → Act → World → Prop} {b : γ} {ctl : Ctl σ γ} {c : List PanicEntry} (h : ∀ a w, A a w → Dn b (.panic c) a w) : some (Ctl.done b) = some ctl → ∀ a w, A a w → LPost I Dn ctl (.panic c) a w := fun e a w ha => by
  simp only [Option.some.injEq] at e; subst e; exact ⟨by simp, h a w ha⟩
end
end Go.Dec
end

section
namespace Go.Dec
variable {κ : Option Nat}
def bindX {ε α β : Type} (e : Option (Out ε α)) (gp : ε → Option β) (g : α → Option β) : Option β := match e with
  | none => none
  | some (.ok x) => g x
  | some (.pan q) => gp q
section
variable {ε β : Type} {P : Program} {penc : ε → Value} {ops : Array Oper} {rest : List Oper} {ks : List Kt} {Q : Exit → Act → World → Prop} {m : Option β} {r : β}
variable {n : Nat} {D : List Deferred} {S : List (Nat × Value)} {F F0 : Fz} {hs : List HP}
variable {d : Nat} {ty t : TypeId} {pos : String} {after : Array Edge} {ox oy : Operand} {T : Array TypeId}
theorem GL.callA {A : Act → World → Prop} {α : Type} {f : FuncId} {args : Array Value} {o : Oper} {e : Option (Out ε α)} {ρ : α → Fz → Value → Prop} {Hs : List HP} {Hs' : α → Fz → Value → List HP} {g : α → Option β} {gp : ε → Option β} (is : List Nat) (hd : Nat.blt d n = true) (hg : o.guard = none) (hdst : o.dst = some d) (hnd : noDefer o.op = true)
    (hA : ∀ a w, A a w → Hd n D S F hs a w ∧ (execOp a.eval o).run P w = .ok (.enter f args) w) (hi : pickR is hs = Hs)
    (hc : CTX P penc f args F Hs e ρ Hs') (k : ∀ x F' v, e = some (.ok x) → F ≤ F' → ρ x F' v → GL κ P ops rest ks Q (Hd n D ((d, v) :: S) F' (Hs' x F' v ++ leftR is hs)) (g x) r)
    (hp : ∀ q F', e = some (.pan q) → F ≤ F' → gp q = some r → ∀ a w, Hd n D S F' (leftR is hs) a w → Q (.panic [{ v := penc q, recovered := false }]) a w) :
    GL κ P ops (o :: rest) ks Q A (bindX e gp g) r := by
  intro hm a w ha0
  obtain ⟨ha, hrun⟩ := hA a w ha0
  cases he : e with
  | none => rw [he] at hm; cases hm
  | some y =>
    rw [he] at hm
    have hsh : SH w F (star (stars Hs) (stars (leftR is hs))) := ha.2.mono fun m hm => by
      have := stars_part (ks := is) hm
      rw [hi] at this; exact this
    unfold wpL
    rw [if_pos (by simp [Region.wanted, hg])]
    refine ⟨.inr hnd, ?_⟩
    rw [hrun]
    refine ⟨fun e => (by rw [fen_depth] at e; cases e), calls_fen.2 ((hc y he w _ hsh).mono ?_)⟩
    rintro e' w' ⟨F', le, h⟩
    cases y with
    | ok x =>
      obtain ⟨v, rfl, hρ, hw⟩ := h
      have h1 := k x F' v he le hρ hm _ _ ⟨ha.1.put hd v, hw.mono fun _ => stars_app⟩
      simp only [hdst]
      exact h1
    | pan q =>
      obtain ⟨rfl, hw⟩ := h
      exact interp_panic (hp q F' he le hm _ _ ⟨ha.1, hw⟩)
theorem GL.callB {α : Type} {f : FuncId} {caps as vs : List Value} {of : Operand} {os : List Operand} {e : Option (Out ε α)} {ρ : α → Fz → Value → Prop} {Hs : List HP} {Hs' : α → Fz → Value → List HP} {g : α → Option β} {gp : ε → Option β} (is : List Nat)
    (hd : Nat.blt d n = true) (hcall : ∀ args w, (callFunc f args).run P w = .ok (.enter f args) w) (hf : evalS S of = some (.func (.func f) #[] caps.toArray)) (ha : evalL S os = some vs) (has : vs ++ caps = as) (hi : pickR is hs = Hs)
    (hc : CTX P penc f as.toArray F Hs e ρ Hs') (k : ∀ x F' v, e = some (.ok x) → F ≤ F' → ρ x F' v → GL κ P ops rest ks Q (Hd n D ((d, v) :: S) F' (Hs' x F' v ++ leftR is hs)) (g x) r)
    (hp : ∀ q F', e = some (.pan q) → F ≤ F' → gp q = some r → ∀ a w, Hd n D S F' (leftR is hs) a w → Q (.panic [{ v := penc q, recovered := false }]) a w) :
    GL κ P ops (⟨some d, .call ⟨.value of, os.toArray, T⟩, ty, pos, after, none⟩ :: rest) ks Q (Hd n D S F hs) (bindX e gp g) r := by
  subst has
  exact GL.callA is hd rfl rfl rfl (fun a w hA => ⟨hA, run_call hA.1 hcall hf ha⟩) hi hc k hp
def CTO {G β : Type} (P : Program) (f : FuncId) (args : Array Value) (F : Fz) (m : Option β) (ρ : G → β → Fz → Value → Prop) (Hs' : G → β → Fz → List HP) : Prop :=
  ∀ r, m = some r → ∀ w R, SH w F R → Calls P f args w (fun e w' => ∃ Γ F' v, F ≤ F' ∧ e = .returned v ∧ ρ Γ r F' v ∧ SH w' F' (star (stars (Hs' Γ r F')) R))
end
abbrev dclo (f : FuncId) (caps : List Value) : Deferred := { target := .fn (.func f) caps.toArray, args := #[] }
def fnPostO {G β : Type} (P : Program) (fn : Func) (F : Fz) (R : HP) (ρ : G → β → Fz → Value → Prop) (Hs' : G → β → Fz → List HP) (r : β) : Exit → Act → World → Prop :=
  bodyPostDIn Fence.wide 0 P fn (fun e w' => ∃ Γ F' v, F ≤ F' ∧ e = .returned v ∧ ρ Γ r F' v ∧ SH w' F' (star (stars (Hs' Γ r F')) R))
theorem CTO.enter {G β : Type} {P : Program} {f : FuncId} {fn : Func} {c : Code} {args : List Value} {F : Fz} {m : Option β} {ρ : G → β → Fz → Value → Prop} {Hs' : G → β → Fz → List HP} {n : Nat}
    (hf : P.funcs[f]? = some fn) (hb : fn.body = some c) (hn : fn.ntmps = n) (ha : Nat.ble args.length n = true)
    (k : ∀ r R, GC none P c [] (fnPostO P fn F R ρ Hs' r) (Hd n [] (argS 0 args) F [R]) m r) : CTO P f args.toArray F m ρ Hs' := by
  intro r hm w R hw
  refine (callsIn_wide (n := 0)).1 (callsIn_of_wp_defers hf hb trivial (k r R hm _ w ⟨?_, hw.one⟩))
  rw [hn]; exact sl_enter ha
section
variable {β : Type} {P : Program} {ops : Array Oper} {rest : List Oper} {ks : List Kt} {Q : Exit → Act → World → Prop} {m : Option β} {r : β}
variable {n : Nat} {D : List Deferred} {S : List (Nat × Value)} {F F' : Fz} {hs : List HP}
theorem GL.defer {f : FuncId} {caps : List Value} {of : Operand} {ty : TypeId} {pos : String} {after : Array Edge} {T : Array TypeId} (hf : evalS S of = some (.func (.func f) #[] caps.toArray)) (k : GL none P ops rest ks Q (Hd n (dclo f caps :: D) S F hs) m r) :
    GL none P ops (⟨none, .defer ⟨.value of, #[], T⟩, ty, pos, after, none⟩ :: rest) ks Q (Hd n D S F hs) m r := by
  intro hm a w ha
  have h := k hm { a with defers := dclo f caps :: a.defers } w ⟨⟨ha.1.1, by rw [ha.1.2.1], ha.1.2.2⟩, ha.2⟩
  unfold wpL
  rw [if_pos (by simp [Region.wanted])]
  refine ⟨.inl rfl, ?_⟩
  have hrun : (execOp a.eval ⟨none, .defer ⟨.value of, #[], T⟩, ty, pos, after, none⟩).run P w = .ok (.defer (dclo f caps)) w := by
    simp [execOp, resolve, Deferred.ofValue, ha.1.eval hf]
  rw [hrun]
  exact h
variable {G ε : Type} {penc : ε → Value} {fn : Func} {R : HP} {ρ : G → β → Fz → Value → Prop} {Hs' : G → β → Fz → List HP} {x : β} {rs : List ResultVar} {vs : List Value} {Γ : G}
theorem leads_clo {f : FuncId} {caps : List Value} {w : World} : ∀ g, (Target.fn (.func f) caps.toArray).leads P w #[] = some g → Fence.wide.fn g := fun _ _ => trivial
theorem invoke_clo {f : FuncId} {caps : List Value} {w : World} (hcall : ∀ args w, (callFunc f args).run P w = .ok (.enter f args) w) : (invoke (.fn (.func f) caps.toArray) #[]).run P w = .ok (.enter f caps.toArray) w := by
  simp [invoke, hcall]
end
theorem allS {p : Nat → Prop} {n : Nat} (h : ∀ j, j < n → p j) (hn : p n) : ∀ j, j < n + 1 → p j := fun j hj => by
  rcases Nat.lt_or_ge j n with h' | h'
  · exact h j h'
  · rw [show j = n by omega]; exact hn
section
variable {β : Type} {P : Program} {ops : Array Oper} {l0 : List Oper} {cd : Code} {ks : List Kt} {Q : Exit → Act → World → Prop} {m : Option β} {r : β}
variable {n : Nat} {D : List Deferred} {S : List (Nat × Value)} {F F0 : Fz} {hs : List HP}
variable {α : Type} {γ : Nat} {C : Fz → Nat → α → HP} {xs xs' : List α} {b : Nat} {x : α}
theorem GL.pick {hs' : List HP} (is : List Nat) (h : pickR is hs = hs') (k : GL κ P ops l0 ks Q (Hd n D S F hs') m r) : GL κ P ops l0 ks Q (Hd n D S F hs) m r := GG.pick is h k
theorem GC.pick {hs' : List HP} (is : List Nat) (h : pickR is hs = hs') (k : GC κ P cd ks Q (Hd n D S F hs') m r) : GC κ P cd ks Q (Hd n D S F hs) m r := GG.pick is h k
theorem GC.norm {S' : List (Nat × Value)} {hs' : List HP} (hS : Sub S' S) (hh : hs = hs') (k : GC κ P cd ks Q (Hd n D S' F hs') m r) : GC κ P cd ks Q (Hd n D S F hs) m r := GG.norm hS hh k
end
theorem SH.picks {w : World} {F : Fz} {hs hs' : List HP} (ks : List Nat) (e : pickR ks hs = hs') (h : SH w F (stars hs)) : SH w F (stars hs') := e ▸ h.mono fun _ => stars_pick
end Go.Dec
end

section
namespace Go.Dec
variable {κ : Option Nat}
section
variable {β : Type} {P : Program} {ks : List Kt} {Q : Exit → Act → World → Prop} {m : Option β} {r : β}
variable {n : Nat} {D : List Deferred} {S0 : List (Nat × Value)} {F : Fz}
theorem GC.drawGD {hs : List HP} {id : Nat} {l : List Oper} (k g : Nat) (X : Env → List ValF) (C : (Nat → Bool) → Env → List HP) (hm : P.follows .mixedOrders = true) (hord : ordB 0 l = true) (htail : ∀ t o, k ≤ t → l[t]? = some o → ∀ j, j < t → ∃ s, depB l s t j = true)
    (hlen : Nat.ble k l.length = true) (hX : ∀ env, (X env).length = k) (hfr : freshG n S0 (l.take k) = true) (hC : ∀ env, C (fun _ => false) env = hs ++ List.replicate g emp)
    (hops : OpsG κ P l.toArray l n D S0 F X C 0 (l.take k))
    (tail : ∀ env F', F ≤ F' → (∀ (j : Nat) (q : ValF), (X env)[j]? = some q → q.2 F') → GL κ P l.toArray (l.drop k) ks Q (Hd n D (outG (l.take k) (X env) S0) F' (C (fun j => Nat.blt j k) env)) m r) :
    GC κ P (.region id l.toArray true) ks Q (Hd n D S0 F hs) m r := by
  intro hmr a w ha
  have hlen' : k ≤ l.length := Nat.le_of_ble_eq_true hlen
  let Free : (Nat → Bool) → Act → World → Prop := fun L a w => Down l L ∧ (∀ i, k ≤ i → L i = false) ∧ ∃ env F' S, F ≤ F' ∧ Sub S0 S ∧ (∀ (j d : Nat) (v : Value), L j = true → dstOf l j = some d → ((X env)[j]?).map Prod.fst = some v → lookS S d = some v) ∧ (∀ (j : Nat) (q : ValF), L j = true → (X env)[j]? = some q → ∀ G, F' ≤ G → q.2 G) ∧ Hd n D S F' (C L env) a w
  let Inv : (Nat → Bool) → Act → World → Prop := fun L a w => Free L a w ∨ ∃ i, k < i ∧ Down l L ∧ (∀ j, L j = true ↔ j < i) ∧ wpL κ P l.toArray (interp κ P ks Q) (l.drop i) a w
  have hend0 : ∀ L a w, (∀ i, i < k → L i = true) → Free L a w → wpL κ P l.toArray (interp κ P ks Q) (l.drop k) a w := by
    rintro L a w hall ⟨hdn, hout, env, F', S, le, hS, hV, hΦ, hA⟩
    have hXl := hX env
    have hLk : L = fun j => Nat.blt j k := by
      funext j
      rcases Nat.lt_or_ge j k with h | h
      · rw [hall j h]; exact (Nat.ble_eq_true_of_le h).symm
      · rw [hout j h]
        cases hb : Nat.blt j k with
        | false => rfl
        | true => have := Nat.le_of_ble_eq_true hb; omega
    refine tail env F' le (fun j q hq => hΦ j q (hall j (by have := lt_of_getEl hq; omega)) hq F' (Fz.le_refl F')) hmr a w ⟨hA.1.sub (sub_outG hS fun i o d q e1 e2 e3 => ?_), hLk ▸ hA.2⟩
    have hik : i < k := by have := lt_of_getEl e3; omega
    refine hV i d q.1 (hall i hik) ?_ (by rw [e3]; rfl)
    rw [List.getElem?_take, if_pos hik] at e1
    simp [dstOf, e1, e2]
  refine wp_region_inv hm Inv (fun i o h e he hb => by have := ordB_spec hord i o (by simpa using h) e he hb; omega) ?_ ?_ ?_
  · refine .inl ⟨fun i o _ h => (by cases h), fun _ _ => rfl, ⟨fun _ => none, fun _ => 0, fun _ => [], fun _ => F, fun _ => none⟩, F, S0, Fz.le_refl F, Sub.refl _, fun j d v h => (by cases h), fun j q h => (by cases h), ha.1, ?_⟩
    rw [hC]
    have h1 := ha.2.drew (w.drawn + 1)
    refine h1.mono fun m hm' => ?_
    exact GC.drawG.stars_emps hm'
  · intro L a w i o ho hLi hdeps hI
    have ho' : l[i]? = some o := by simpa using ho
    have hil : i < l.length := lt_of_getEl ho'
    by_cases hi : i < k
    · rcases hI with hF | ⟨k', hk, _, hL, _⟩
      case inr => have := (hL i).2 (by omega); rw [hLi] at this; cases this
      obtain ⟨hdn, hout, env, F', S, le, hS, hV, hΦ, hA⟩ := hF
      have hot : (l.take k)[i]? = some o := by rw [List.getElem?_take, if_pos hi]; exact ho'
      have hop := OpsG.get hops i o hot
      simp only [Nat.zero_add] at hop
      have hup : ∀ k' j, depB l k' j i = true → L j = false := fun k' j h => by
        cases hj : L j with
        | false => rfl
        | true =>
          have := dep_true hdn h fun o' ho'' e he hb => hdn j o' ho'' hj e he hb
          rw [hLi] at this; cases this
      have hdn' : ∀ k' j, depB l k' i j = true → L j = true := fun k' j h => dep_true hdn h fun o' ho'' e he hb => by
        rw [ho'] at ho''; cases ho''; exact hdeps e he hb
      obtain ⟨Si, hSi, hstep⟩ := hop L env F' le hLi hdn' hup hΦ
      have hsub := hSi S hS hV
      have hn : ∀ d, o.dst = some d → Nat.blt d n = true := fun d hd => (freshG_get hfr hot hd).1
      have h1 := g_frame (S := S) hn hA.1 (hstep rfl a w ⟨hA.1.sub hsub, hA.2⟩)
      refine wp_of_seg (fun e a w hne hq => absurd hq.1 hne) (fun a' w' hq => ?_) h1
      obtain ⟨_, env', F'', le', ⟨M, hMl, hMc, hMe⟩, q, hq, hqf, hA'⟩ := hq
      have hst : ∀ (j : Nat) (q : ValF), L j = true → (X env')[j]? = some q → (X env)[j]? = some q := fun j q hj hx => by
        have hjl : j < M.length := by rw [hMl, hX env, ← hX env']; exact lt_of_getEl hx
        exact maskL_get hMe.symm (mask_true hdn hLi hMc j hj hjl) hx
      refine .inl ⟨?_, ?_, env', F'', (match o.dst with | some d => (d, q.1) :: S | none => S), Fz.le_trans le le', ?_, ?_, ?_, hA'⟩
      · intro j oj hoj hj e he hb
        by_cases hji : j = i
        · subst hji
          rw [ho'] at hoj; cases hoj
          have := hdeps e he hb
          simp only [updB]; split
          · rfl
          · exact this
        · have hLj : L j = true := by simpa [updB, hji] using hj
          have := hdn j oj hoj hLj e he hb
          simp only [updB]; split
          · rfl
          · exact this
      · intro j hj
        simp only [updB]; rw [if_neg (by omega)]; exact hout j hj
      · cases hd : o.dst with
        | none => exact hS
        | some d => exact sub_push hS (freshG_get hfr hot hd).2 _
      · intro j d' v' hj hd' hv'
        by_cases hji : j = i
        · subst hji
          have hod : o.dst = some d' := by simpa [dstOf, ho'] using hd'
          rw [hq] at hv'; simp only [Option.map_some, Option.some.injEq] at hv'
          subst hv'
          rw [hod]; exact look_self
        · have hLj : L j = true := by simpa [updB, hji] using hj
          have hjk : j < k := by
            rcases Nat.lt_or_ge j k with h | h
            · exact h
            · rw [hout j h] at hLj; cases hLj
          obtain ⟨q', hq', rfl⟩ := Option.map_eq_some_iff.1 hv'
          have h0 := hV j d' q'.1 hLj hd' (by rw [hst j q' hLj hq']; rfl)
          cases hd : o.dst with
          | none => exact h0
          | some d =>
            have hne : d ≠ d' := fun h => by
              subst h
              cases hoj : l[j]? with
              | none => simp [dstOf, hoj] at hd'
              | some oj =>
                have hdj : oj.dst = some d := by simpa [dstOf, hoj] using hd'
                exact hji (freshG_inj hfr (by rw [List.getElem?_take, if_pos hjk]; exact hoj) hot hdj hd)
            exact look_push hne h0
      · intro j q' hj hq' G hG
        by_cases hji : j = i
        · subst hji; rw [hq] at hq'; cases hq'; exact hqf G hG
        · have hLj : L j = true := by simpa [updB, hji] using hj
          exact hΦ j q' hLj (hst j q' hLj hq') G (Fz.le_trans le' hG)
    ·
      have hdnL : Down l L := by
        rcases hI with hF | ⟨_, _, hd, _, _⟩
        · exact hF.1
        · exact hd
      have hall : ∀ j, j < i → L j = true := fun j hj => by
        obtain ⟨s, hs⟩ := htail i o (by omega) ho' j hj
        exact dep_true hdnL hs fun o' ho'' e he hb => by rw [ho'] at ho''; cases ho''; exact hdeps e he hb
      have hdnU : Down l (updB L i) := fun j oj hoj hj e he hb => by
        have : L e.on = true := by
          by_cases hji : j = i
          · subst hji; rw [ho'] at hoj; cases hoj; exact hdeps e he hb
          · exact hdnL j oj hoj (by simpa [updB, hji] using hj) e he hb
        simp only [updB]; split
        · rfl
        · exact this
      have hw : wpL κ P l.toArray (interp κ P ks Q) (l.drop i) a w := by
        rcases hI with hF | ⟨k', hk, _, hL, hwp⟩
        · have hiV : i = k := by
            rcases Nat.lt_or_ge k i with h | h
            · have := hall k h; rw [hF.2.1 _ (Nat.le_refl _)] at this; cases this
            · omega
          subst hiV
          exact hend0 L a w hall hF
        · have : k' = i := by
            have h1 : ¬ i < k' := fun h => by have := (hL i).2 h; rw [hLi] at this; cases this
            have h2 : ¬ k' < i := fun h => by have := (hL k').1 (hall k' h); omega
            omega
          subst this; exact hwp
      have hdrop : l.drop i = o :: l.drop (i + 1) := by
        have hg : l[i]'hil = o := by simpa [hil] using ho'
        rw [← hg]; exact List.drop_eq_getElem_cons hil
      rw [hdrop] at hw
      have hnext : ∀ a' w', wpL κ P l.toArray (interp κ P ks Q) (l.drop (i + 1)) a' w' → Inv (updB L i) a' w' := fun a' w' h =>
        .inr ⟨i + 1, by omega, hdnU, fun j => by
          simp only [updB]
          by_cases hj : j = i
          · simp [hj]
          · simp only [hj, if_false]
            constructor
            · intro hLj
              have : j < i := by
                rcases Nat.lt_or_ge j i with h | h
                · exact h
                · rcases hI with hF | ⟨k', hk, _, hL, _⟩
                  · rw [hF.2.1 j (by omega)] at hLj; cases hLj
                  · have h1 := (hL j).1 hLj
                    have := (hL i).2 (by omega); rw [hLi] at this; cases this
              omega
            · intro hj'; exact hall j (by omega), h⟩
      unfold wpL at hw
      split
      · rename_i hwn
        rw [if_pos hwn] at hw
        exact opW_mono hnext hw
      · rename_i hwn
        rw [if_neg hwn] at hw
        exact hnext _ _ hw
  · intro L a w hall hI
    have hw : wpL κ P l.toArray (interp κ P ks Q) (l.drop l.length) a w := by
      rcases hI with hF | ⟨k', hk, _, hL, hwp⟩
      · have hVl : k = l.length := by
          rcases Nat.lt_or_ge k l.length with h | h
          · have := hall k (by simpa using h); rw [hF.2.1 _ (Nat.le_refl _)] at this; cases this
          · omega
        have := hend0 L a w (fun i hi => hall i (by simp; omega)) hF
        rwa [hVl] at this
      · have : l.length ≤ k' := by
          rcases Nat.lt_or_ge k' l.length with h | h
          · have := (hL k').1 (hall k' (by simpa using h)); omega
          · exact h
        rw [List.drop_eq_nil_of_le this] at hwp
        rw [List.drop_eq_nil_of_le (Nat.le_refl _)]; exact hwp
    rw [List.drop_eq_nil_of_le (Nat.le_refl _)] at hw
    exact hw
theorem deepN {l : List Oper} {k n : Nat} (hl : Nat.beq l.length n = true) (h : ∀ t, t < n → k ≤ t → ∀ j, j < t → ∃ s, depB l s t j = true) : ∀ t o, k ≤ t → l[t]? = some o → ∀ j, j < t → ∃ s, depB l s t j = true := fun t o hk ho j hj => by
  have h1 := (List.getElem?_eq_some_iff.1 ho).1
  have h2 := Nat.eq_of_beq_eq_true hl
  exact h t (by omega) hk j hj
end
end Go.Dec
end

section
namespace Go.Dec
variable {κ : Option Nat}
def CTV {ε : Type} (P : Program) (penc : ε → Value) (f : FuncId) (args : Array Value) (F : Fz) (Hs : List HP) (Hp : ε → Fz → List HP) : Prop :=
  (∀ w R, SH w F (star (stars Hs) R) → CallsDIn Fence.wide 0 P f args .returning w (fun e u' w' => u' = .returning ∧ (∃ v, e = .returned v) ∧ SH w' F (star (stars Hs) R))) ∧
  ∀ q w R, SH w F (star (stars Hs) R) → CallsDIn Fence.wide 0 P f args (.panicking [{ v := penc q, recovered := false }]) w (fun e u' w' => u' = .panicking [{ v := penc q, recovered := true }] ∧ (∃ v, e = .returned v) ∧ ∃ F', F ≤ F' ∧ SH w' F' (star (stars (Hp q F')) R))
def fnPostI (P : Program) (fn : Func) (F : Fz) (Hs : List HP) (R : HP) : Exit → Act → World → Prop := fun e a w => (e = .normal ∨ e = .ret) ∧ a.defers = [] ∧ (∃ v, (results fn a.tmps).run P w = .ok v w) ∧ SH w F (star (stars Hs) R)
def fnPostV (P : Program) (fn : Func) (F : Fz) (Hp : Fz → List HP) (R : HP) : Exit → Act → World → Prop := fun e a w => (e = .normal ∨ e = .ret) ∧ a.defers = [] ∧ (∃ v, (results fn a.tmps).run P w = .ok v w) ∧ ∃ F', F ≤ F' ∧ SH w F' (star (stars (Hp F')) R)
section
variable {ε : Type} {P : Program} {penc : ε → Value} {f : FuncId} {fn : Func} {n i0 d0 d1 : Nat} {args : List Value} {F : Fz} {Hs : List HP} {Hp : ε → Fz → List HP} {rest : Code} {T0 : Array TypeId} {ty0 ty1 : TypeId} {pos0 pos1 : String} {after0 after1 : Array Edge}
theorem run_recover {ev : Operand → Value} {w : World} : (execOp ev ⟨some d0, .call ⟨.builtin .recover, #[], T0⟩, ty0, pos0, after0, none⟩).run P w = .ok .recover w := by
  simp [execOp, resolve, invoke, builtin]
theorem opsS_recover {ops : Array Oper} {i : Nat} {rest : List Nat} {o : Oper} {a : Act} {cs cs' : List Frame} {w w' : World} {v : Value} {Q : Exit → Act → List Frame → World → Prop} (ho : ops[i]? = some o) (hw : Region.wanted o (yielded ops a.tmps) = true) (hr : (execOp a.eval o).run P w = .ok .recover w') (hrec : (match recoverD cs with | some (v, cs') => (v, cs') | none => (.nilIface, cs)) = (v, cs')) (h : wpOpsSIn Fence.wide 0 P ops Q rest (a.put o.dst v) cs' w') : wpOpsSIn Fence.wide 0 P ops Q (i :: rest) a cs w := by
  simp only [wpOpsSIn, ho]
  refine ⟨fun _ _ => trivial, ?_⟩
  rw [if_pos hw, hr]
  cases hr : recoverD cs with
  | none =>
    rw [hr] at hrec
    simp only [Prod.mk.injEq] at hrec
    obtain ⟨rfl, rfl⟩ := hrec
    exact h
  | some p =>
    obtain ⟨v', cs2⟩ := p
    rw [hr] at hrec
    simp only [Prod.mk.injEq] at hrec
    obtain ⟨rfl, rfl⟩ := hrec
    exact h
end
section
variable {P : Program} {n : Nat} {S : List (Nat × Value)} {F F' : Fz} {hs Hs : List HP} {fn : Func} {R : HP} {Hp : Fz → List HP}
theorem end_postI (is : List Nat) (hr : fn.results = #[]) (hi : pickR is hs = Hs ++ [R]) : some () = some () → ∀ a w, Hd n [] S F hs a w → fnPostI P fn F Hs R .normal a w := by
  intro _ a w ha
  refine ⟨.inl rfl, ha.1.2.1, ⟨_, run_results (rs := []) (by simpa using hr) ha .nil⟩, ha.2.mono fun m hm => ?_⟩
  have h1 := stars_pick (ks := is) hm
  rw [hi] at h1
  exact star_one (stars_app' h1)
theorem end_postV (is : List Nat) (hr : fn.results = #[]) (hi : pickR is hs = Hp F' ++ [R]) (le : F ≤ F') : some () = some () → ∀ a w, Hd n [] S F' hs a w → fnPostV P fn F Hp R .normal a w := by
  intro _ a w ha
  refine ⟨.inl rfl, ha.1.2.1, ⟨_, run_results (rs := []) (by simpa using hr) ha .nil⟩, F', le, ha.2.mono fun m hm => ?_⟩
  have h1 := stars_pick (ks := is) hm
  rw [hi] at h1
  exact star_one (stars_app' h1)
end
section
variable {β : Type} {P : Program} {n : Nat} {S : List (Nat × Value)} {F F' : Fz} {hs : List HP}
variable {G ε : Type} {penc : ε → Value} {fn : Func} {R : HP} {ρ : G → β → Fz → Value → Prop} {Hs' : G → β → Fz → List HP} {x r : β} {rs : List ResultVar} {vs : List Value} {Γ : G}
theorem ret_postE {f : FuncId} {caps : List Value} {Hs : List HP} {Hp : ε → Fz → List HP} (is0 : List Nat) (hcall : ∀ args w, (callFunc f args).run P w = .ok (.enter f args) w) (hc : CTV P penc f caps.toArray F' Hs Hp) (hi0 : pickR is0 hs = Hs) (is : List Nat) (hr : fn.results = rs.toArray) (h : Res P S F' (Hs ++ leftR is0 hs) rs vs) (hi : pickR is (Hs ++ leftR is0 hs) = Hs' Γ x F' ++ [R]) (le : F ≤ F') (hρ : ρ Γ x F' (tup vs)) :
    some x = some r → ∀ a w, Hd n [dclo f caps] S F' hs a w → fnPostO P fn F R ρ Hs' r .ret a w := by
  intro e a w ha
  simp only [Option.some.injEq] at e
  subst e
  show LeavesIn Fence.wide 0 P fn a.tmps _ a.defers .returning w
  rw [ha.1.2.1]
  have hsh : SH w F' (star (stars Hs) (stars (leftR is0 hs))) := ha.2.mono fun m hm => by
    have := stars_part (ks := is0) hm
    rw [hi0] at this; exact this
  refine leavesIn_cons (by simp) (fun e => by cases e) (invoke_clo hcall) leads_clo ((hc.1 w _ hsh).mono ?_)
  rintro _ _ w' ⟨rfl, ⟨v, rfl⟩, h2⟩
  have h3 : SH w' F' (stars (Hs ++ leftR is0 hs)) := h2.mono fun _ => stars_app
  refine ⟨_, run_results (n := n) (a := a) (D := a.defers) hr ⟨⟨ha.1.1, rfl, ha.1.2.2⟩, h3⟩ h, Γ, F', _, le, rfl, hρ, h3.mono fun m hm => ?_⟩
  have h1 := stars_pick (ks := is) hm
  rw [hi] at h1
  exact star_one (stars_app' h1)
theorem pan_postE {f : FuncId} {caps : List Value} {Hs : List HP} {Hp : ε → Fz → List HP} {q : ε} (j : Nat) (hcall : ∀ args w, (callFunc f args).run P w = .ok (.enter f args) w) (hc : CTV P penc f caps.toArray F' Hs Hp) (is : List Nat) (hi : pickR is hs = Hs) (hr : fn.results = rs.toArray) (h : ∀ F'', F' ≤ F'' → Res P S F'' (Hp q F'' ++ leftR is hs) rs vs) (hj : ∀ F'', (Hp q F'' ++ leftR is hs)[j]? = some R) (le : F ≤ F')
    (hnew : ∀ w F R, SH w F R → ∃ Γ F'', F ≤ F'' ∧ SH w F'' (star (stars (Hs' Γ x F'')) R)) (hρ : ∀ Γ F'', ρ Γ x F'' (tup vs)) :
    some x = some r → ∀ a w, Hd n [dclo f caps] S F' hs a w → fnPostO P fn F R ρ Hs' r (.panic [{ v := penc q, recovered := false }]) a w := by
  intro e a w ha
  simp only [Option.some.injEq] at e
  subst e
  show LeavesIn Fence.wide 0 P fn a.tmps _ a.defers (.panicking _) w
  rw [ha.1.2.1]
  have hsh : SH w F' (star (stars Hs) (stars (leftR is hs))) := ha.2.mono fun m hm => by
    have := stars_part (ks := is) hm
    rw [hi] at this; exact this
  refine leavesIn_cons (by simp) (fun e => by cases e) (invoke_clo hcall) leads_clo ((hc.2 q w _ hsh).mono ?_)
  rintro _ _ w' ⟨rfl, ⟨v, rfl⟩, F2, le2, h2⟩
  have h3 : SH w' F2 (stars (Hp q F2 ++ leftR is hs)) := h2.mono fun _ => stars_app
  obtain ⟨Γ, F3, le3, h4⟩ := hnew _ _ _ (h3.only (hj F2))
  exact ⟨_, run_results (n := n) (a := a) (D := a.defers) hr ⟨⟨ha.1.1, rfl, ha.1.2.2⟩, h3⟩ (h F2 le2), Γ, F3, _, Fz.le_trans le (Fz.le_trans le2 le3), rfl, hρ Γ F3, h4⟩
end
section
variable {β : Type} {P : Program} {ops : Array Oper} {rest : List Oper} {ks : List Kt} {Q : Exit → Act → World → Prop} {m : Option β} {r : β}
variable {n : Nat} {D : List Deferred} {S : List (Nat × Value)} {F : Fz} {hs : List HP} {d : Nat} {ty t t' tx : TypeId} {pos : String} {after : Array Edge} {ox oy : Operand} {v : Value}
theorem eqlNilI' {ms : Array (String × TypeId)} (ht : P.underlying t = some (.interface ms)) (k : Nat) (w : World) : (Op.equalIn (k + 1) t .nilIface .nilIface).run P w = .ok true w := by
  simp [Op.equalIn, rUnd ht]
theorem eqlIfaceNil' {ms : Array (String × TypeId)} (ht : P.underlying t = some (.interface ms)) (k : Nat) (w : World) : (Op.equalIn (k + 1) t (.iface tx v) .nilIface).run P w = .ok false w := by
  simp [Op.equalIn, rUnd ht]
theorem eqlNilI {ms : Array (String × TypeId)} (ht : P.underlying t = some (.interface ms)) (w : World) : (Op.equal t .nilIface .nilIface).run P w = .ok true w := eqlNilI' ht 9999 w
theorem eqlIfaceNil {ms : Array (String × TypeId)} (ht : P.underlying t = some (.interface ms)) (w : World) : (Op.equal t (.iface tx v) .nilIface).run P w = .ok false w := eqlIfaceNil' ht 9999 w
end
theorem news_nil {X : HP} {m : Mem} (h : X m) : star (stars []) X m := ⟨fun _ => none, m, fun _ => .inl rfl, fun _ _ e => by simp at e, Mem.sub.refl _, trivial, h⟩
end Go.Dec
end
