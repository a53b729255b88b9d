/- A small separation logic over the model's worlds: what is frozen (F) and what is owned (a list of heap predicates). Plain lemmas, no program. -/
import Derived.WalkKit
import Derived.OrdersIn
import Derived.RangeFuncLeaves
namespace Go.Dec

abbrev Mem := Nat → Option Obj
abbrev HP := Mem → Prop

/-- What is frozen: blocks that nobody writes any more; and the world's other parts, which never change. -/
structure Fz where
  mem : Mem
  os : Os
  tape : Nat → Question → Nat
  out : Array (Nat × ByteArray)

structure Fz.Le (F F' : Fz) : Prop where
  os : F'.os = F.os
  tape : F'.tape = F.tape
  out : F'.out = F.out
  mem : ∀ b o, F.mem b = some o → F'.mem b = some o

instance : LE Fz := ⟨Fz.Le⟩

theorem Fz.le_refl (F : Fz) : F ≤ F := ⟨rfl, rfl, rfl, fun _ _ h => h⟩
theorem Fz.le_trans {F G H : Fz} (h : F ≤ G) (k : G ≤ H) : F ≤ H :=
  ⟨k.os.trans h.os, k.tape.trans h.tape, k.out.trans h.out, fun b o e => k.mem b o (h.mem b o e)⟩

def Mem.dj (m n : Mem) : Prop := ∀ k, m k = none ∨ n k = none
def Mem.sub (m n : Mem) : Prop := ∀ k o, m k = some o → n k = some o
def Mem.set (m : Mem) (b : Nat) (o : Obj) : Mem := fun k => if k = b then some o else m k

theorem Mem.dj.symm {m n : Mem} (h : Mem.dj m n) : Mem.dj n m := fun k => (h k).symm
theorem Mem.sub.trans {m n p : Mem} (h : Mem.sub m n) (k : Mem.sub n p) : Mem.sub m p := fun b o e => k b o (h b o e)
theorem Mem.sub.refl (m : Mem) : Mem.sub m m := fun _ _ e => e
theorem Mem.dj.sub {m n m' n' : Mem} (h : Mem.dj m n) (hm : Mem.sub m' m) (hn : Mem.sub n' n) : Mem.dj m' n' := fun k => by
  rcases h k with h | h
  · cases e : m' k with
    | none => exact .inl rfl
    | some o => rw [hm k o e] at h; cases h
  · cases e : n' k with
    | none => exact .inr rfl
    | some o => rw [hn k o e] at h; cases h
theorem Mem.dj.none_right {m n : Mem} (h : Mem.dj m n) {b : Nat} {o : Obj} (e : m b = some o) : n b = none := by
  rcases h b with h | h
  · rw [e] at h; cases h
  · exact h
theorem Mem.dj.none_left {m n : Mem} (h : Mem.dj m n) {b : Nat} {o : Obj} (e : n b = some o) : m b = none := h.symm.none_right e

def emp : HP := fun _ => True
def pt (b : Nat) (o : Obj) : HP := fun m => m b = some o
def star (p q : HP) : HP := fun m => ∃ m1 m2, Mem.dj m1 m2 ∧ Mem.sub m1 m ∧ Mem.sub m2 m ∧ p m1 ∧ q m2
def stars : List HP → HP
  | [] => emp
  | p :: hs => star p (stars hs)

theorem star_swap {p q r : HP} {m : Mem} (h : star p (star q r) m) : star q (star p r) m := by
  obtain ⟨m1, m2, d, s1, s2, hp, n1, n2, d', t1, t2, hq, hr⟩ := h
  classical
  refine ⟨n1, fun k => if n2 k = none then m1 k else n2 k, ?_, t1.trans s2, ?_, hq, m1, n2, ?_, ?_, ?_, hp, hr⟩
  · intro k
    by_cases e : n2 k = none
    · simp only [e, if_true]
      rcases d k with h | h
      · exact .inr h
      · left
        cases e1 : n1 k with
        | none => rfl
        | some o => rw [t1 k o e1] at h; cases h
    · simp only [e, if_false]
      rcases d' k with h | h
      · exact .inl h
      · exact absurd h e
  · intro k o e
    by_cases e' : n2 k = none
    · simp only [e', if_true] at e; exact s1 k o e
    · simp only [e', if_false] at e; exact s2 k o (t2 k o e)
  · exact d.sub (Mem.sub.refl _) t2
  · intro k o e
    have hn : n2 k = none := by
      cases e2 : n2 k with
      | none => rfl
      | some x =>
        have := d.none_right e
        rw [t2 k x e2] at this; cases this
    simp [hn, e]
  · intro k o e
    simp [e]

theorem star_mono_right {p q q' : HP} (h : ∀ m, q m → q' m) {m : Mem} (k : star p q m) : star p q' m :=
  let ⟨m1, m2, d, s1, s2, hp, hq⟩ := k; ⟨m1, m2, d, s1, s2, hp, h _ hq⟩
theorem star_mono_left {p p' q : HP} (h : ∀ m, p m → p' m) {m : Mem} (k : star p q m) : star p' q m :=
  let ⟨m1, m2, d, s1, s2, hp, hq⟩ := k; ⟨m1, m2, d, s1, s2, h _ hp, hq⟩

/-- The element number k comes to the front. -/
theorem stars_pull : ∀ {hs : List HP} {k : Nat} {p : HP} {m : Mem}, hs[k]? = some p → stars hs m → star p (stars (hs.eraseIdx k)) m
  | [], _, _, _, h, _ => by simp at h
  | q :: hs, 0, p, m, h, hm => by
    simp at h; subst h; exact hm
  | q :: hs, k + 1, p, m, h, hm => by
    simp only [List.getElem?_cons_succ] at h
    simp only [List.eraseIdx_cons_succ]
    exact star_swap (star_mono_right (fun m hm' => stars_pull h hm') hm)

theorem stars_push : ∀ {hs : List HP} {k : Nat} {p q : HP} {m : Mem}, hs[k]? = some q → star p (stars (hs.eraseIdx k)) m → stars (hs.set k p) m
  | [], _, _, _, _, h, _ => by simp at h
  | x :: hs, 0, p, q, m, h, hm => hm
  | x :: hs, k + 1, p, q, m, h, hm => by
    simp only [List.getElem?_cons_succ] at h
    simp only [List.eraseIdx_cons_succ] at hm
    simp only [List.set_cons_succ]
    exact star_mono_right (fun m hm' => stars_push h hm') (star_swap hm)

theorem stars_erase {hs : List HP} {k : Nat} {m : Mem} (h : stars hs m) : star emp (stars (hs.eraseIdx k)) m := by
  cases e : hs[k]? with
  | some p => exact star_mono_left (fun _ _ => trivial) (stars_pull e h)
  | none =>
    have : hs.eraseIdx k = hs := List.eraseIdx_of_length_le (by simpa using e)
    rw [this]
    exact ⟨fun _ => none, m, fun _ => .inl rfl, fun _ _ e => by simp at e, Mem.sub.refl _, trivial, h⟩

/-- What is owned and what is frozen lies in the world. -/
structure SHm (w : World) (F : Fz) (m : Mem) : Prop where
  dj : Mem.dj m F.mem
  own : ∀ b o, m b = some o → w.heap[b]? = some o
  frz : ∀ b o, F.mem b = some o → w.heap[b]? = some o
  os : w.os = F.os
  tape : w.tape = F.tape
  out : w.output = F.out

def SH (w : World) (F : Fz) (H : HP) : Prop := ∃ m, H m ∧ SHm w F m

theorem lt_of_heap {w : World} {b : Nat} {o : Obj} (h : w.heap[b]? = some o) : b < w.heap.size := by
  rcases Nat.lt_or_ge b w.heap.size with h' | h'
  · exact h'
  · rw [Array.getElem?_eq_none h'] at h; cases h

theorem SHm.sub {w : World} {F : Fz} {m n : Mem} (h : SHm w F m) (s : Mem.sub n m) : SHm w F n :=
  ⟨h.dj.sub s (Mem.sub.refl _), fun b o e => h.own b o (s b o e), h.frz, h.os, h.tape, h.out⟩

theorem SH.mono {w : World} {F : Fz} {H H' : HP} (h : SH w F H) (k : ∀ m, H m → H' m) : SH w F H' :=
  let ⟨m, a, b⟩ := h; ⟨m, k m a, b⟩

theorem SH.drop {w : World} {F : Fz} {p q : HP} (h : SH w F (star p q)) : SH w F q :=
  let ⟨_, ⟨_, m2, _, _, s2, _, hq⟩, b⟩ := h; ⟨m2, hq, b.sub s2⟩

theorem SH.frozen {w : World} {F : Fz} {H : HP} (h : SH w F H) {b : Nat} {o : Obj} (e : F.mem b = some o) : w.heap[b]? = some o :=
  let ⟨_, _, k⟩ := h; k.frz b o e

theorem SH.owned {w : World} {F : Fz} {b : Nat} {o : Obj} {H : HP} (h : SH w F (star (pt b o) H)) : w.heap[b]? = some o :=
  let ⟨_, ⟨_, _, _, s1, _, hp, _⟩, k⟩ := h; k.own b o (s1 b o hp)

theorem SH.drew {w : World} {F : Fz} {H : HP} (h : SH w F H) (n : Nat) : SH { w with drawn := n } F H :=
  let ⟨m, a, k⟩ := h; ⟨m, a, k.dj, k.own, k.frz, k.os, k.tape, k.out⟩

theorem heap_alloc_old {w : World} {o x : Obj} {b : Nat} (h : w.heap[b]? = some x) : (w.alloc o).heap[b]? = some x := by
  have := lt_of_heap h
  show (w.heap.push o)[b]? = _
  rw [Array.getElem?_push, if_neg (by omega)]; exact h
theorem heap_alloc_new (w : World) (o : Obj) : (w.alloc o).heap[w.heap.size]? = some o := by
  show (w.heap.push o)[w.heap.size]? = _
  simp

theorem SHm.fresh {w : World} {F : Fz} {m : Mem} (h : SHm w F m) : m w.heap.size = none ∧ F.mem w.heap.size = none := by
  constructor
  · cases e : m w.heap.size with
    | none => rfl
    | some o => have := lt_of_heap (h.own _ _ e); omega
  · cases e : F.mem w.heap.size with
    | none => rfl
    | some o => have := lt_of_heap (h.frz _ _ e); omega

/-- A new block is owned. -/
theorem SH.alloc {w : World} {F : Fz} {H : HP} (h : SH w F H) (o : Obj) : SH (w.alloc o) F (star (pt w.heap.size o) H) := by
  obtain ⟨m, a, k⟩ := h
  obtain ⟨f1, f2⟩ := k.fresh
  refine ⟨m.set w.heap.size o, ⟨Mem.set (fun _ => none) w.heap.size o, m, ?_, ?_, ?_, ?_, a⟩, ?_, ?_, ?_, k.os, k.tape, k.out⟩
  · intro b; by_cases e : b = w.heap.size
    · subst e; exact .inr f1
    · exact .inl (by simp [Mem.set, e])
  · intro b x e
    by_cases e' : b = w.heap.size
    · simpa [Mem.set, e'] using e
    · simp [Mem.set, e'] at e
  · intro b x e
    by_cases e' : b = w.heap.size
    · subst e'; rw [f1] at e; cases e
    · simpa [Mem.set, e'] using e
  · simp [pt, Mem.set]
  · intro b; by_cases e : b = w.heap.size
    · subst e; exact .inr f2
    · simpa [Mem.set, e] using k.dj b
  · intro b x e
    by_cases e' : b = w.heap.size
    · subst e'; simp [Mem.set] at e; subst e; exact heap_alloc_new w o
    · simp [Mem.set, e'] at e; exact heap_alloc_old (k.own b x e)
  · intro b x e; exact heap_alloc_old (k.frz b x e)

def Fz.add (F : Fz) (b : Nat) (o : Obj) : Fz := { F with mem := F.mem.set b o }

theorem Fz.le_add {F : Fz} {b : Nat} {o : Obj} (h : F.mem b = none) : F ≤ F.add b o :=
  ⟨rfl, rfl, rfl, fun k x e => by
    show Mem.set F.mem b o k = some x
    by_cases e' : k = b
    · subst e'; rw [h] at e; cases e
    · simpa [Mem.set, e'] using e⟩
theorem Fz.add_self (F : Fz) (b : Nat) (o : Obj) : (F.add b o).mem b = some o := by simp [Fz.add, Mem.set]

/-- What is owned becomes frozen. -/
theorem SH.freeze {w : World} {F : Fz} {b : Nat} {o : Obj} {H : HP} (h : SH w F (star (pt b o) H)) : F ≤ F.add b o ∧ SH w (F.add b o) H := by
  obtain ⟨m, ⟨m1, m2, d, s1, s2, hp, hq⟩, k⟩ := h
  have hm : m b = some o := s1 b o hp
  have h0 : F.mem b = none := k.dj.none_right hm
  refine ⟨Fz.le_add h0, m2, hq, ?_, fun b' x e => k.own b' x (s2 b' x e), ?_, k.os, k.tape, k.out⟩
  · intro b'
    show m2 b' = none ∨ Mem.set F.mem b o b' = none
    by_cases e : b' = b
    · subst e; exact .inl (d.none_right hp)
    · rcases (k.dj.sub s2 (Mem.sub.refl _)) b' with h | h
      · exact .inl h
      · exact .inr (by simpa [Mem.set, e] using h)
  · intro b' x e
    change Mem.set F.mem b o b' = some x at e
    by_cases e' : b' = b
    · subst e'; simp [Mem.set] at e; subst e; exact k.own _ _ hm
    · simp [Mem.set, e'] at e; exact k.frz b' x e

/-- A new block that is frozen at once. -/
theorem SH.allocF {w : World} {F : Fz} {H : HP} (h : SH w F H) (o : Obj) : F ≤ F.add w.heap.size o ∧ SH (w.alloc o) (F.add w.heap.size o) H :=
  (h.alloc o).freeze

/-- A block of the world is another one now. -/
def put (w : World) (b : Nat) (o : Obj) : World := { w with heap := w.heap.setIfInBounds b o }

theorem heap_put_same {w : World} {b : Nat} {o x : Obj} (h : w.heap[b]? = some x) : (put w b o).heap[b]? = some o := by
  have := lt_of_heap h
  simp [put, this]
theorem heap_put_other {w : World} {b k : Nat} {o : Obj} (h : k ≠ b) : (put w b o).heap[k]? = w.heap[k]? := by
  simp [put, Ne.symm h]

theorem SH.put {w : World} {F : Fz} {b : Nat} {o o' : Obj} {H : HP} (h : SH w F (star (pt b o) H)) : SH (Dec.put w b o') F (star (pt b o') H) := by
  obtain ⟨m, ⟨m1, m2, d, s1, s2, hp, hq⟩, k⟩ := h
  have hm : m b = some o := s1 b o hp
  have h0 : F.mem b = none := k.dj.none_right hm
  have h2 : m2 b = none := d.none_right hp
  refine ⟨m.set b o', ⟨Mem.set (fun _ => none) b o', m2, ?_, ?_, ?_, ?_, hq⟩, ?_, ?_, ?_, k.os, k.tape, k.out⟩
  · intro b'; by_cases e : b' = b
    · subst e; exact .inr h2
    · exact .inl (by simp [Mem.set, e])
  · intro b' x e
    by_cases e' : b' = b
    · simpa [Mem.set, e'] using e
    · simp [Mem.set, e'] at e
  · intro b' x e
    by_cases e' : b' = b
    · subst e'; rw [h2] at e; cases e
    · simp only [Mem.set, e', if_false]; exact s2 b' x e
  · simp [pt, Mem.set]
  · intro b'; by_cases e : b' = b
    · subst e; exact .inr h0
    · simpa [Mem.set, e] using k.dj b'
  · intro b' x e
    by_cases e' : b' = b
    · subst e'; simp [Mem.set] at e; subst e; exact heap_put_same (k.own _ _ hm)
    · simp [Mem.set, e'] at e; rw [heap_put_other e']; exact k.own b' x e
  · intro b' x e
    have : b' ≠ b := fun e' => by subst e'; rw [h0] at e; cases e
    rw [heap_put_other this]; exact k.frz b' x e

/-! ### Owned things in a list -/
theorem SH.pull {w : World} {F : Fz} {hs : List HP} {k : Nat} {p : HP} (hk : hs[k]? = some p) (h : SH w F (stars hs)) : SH w F (star p (stars (hs.eraseIdx k))) :=
  h.mono fun _ => stars_pull hk
theorem SH.push {w : World} {F : Fz} {hs : List HP} {k : Nat} {p q : HP} (hk : hs[k]? = some q) (h : SH w F (star p (stars (hs.eraseIdx k)))) : SH w F (stars (hs.set k p)) :=
  h.mono fun _ => stars_push hk
theorem SH.ownedAt {w : World} {F : Fz} {hs : List HP} {k : Nat} {b : Nat} {o : Obj} (hk : hs[k]? = some (pt b o)) (h : SH w F (stars hs)) : w.heap[b]? = some o :=
  (h.pull hk).owned
theorem SH.putAt {w : World} {F : Fz} {hs : List HP} {k : Nat} {b : Nat} {o : Obj} (hk : hs[k]? = some (pt b o)) (h : SH w F (stars hs)) (o' : Obj) : SH (Dec.put w b o') F (stars (hs.set k (pt b o'))) :=
  SH.push hk ((h.pull hk).put)
theorem SH.freezeAt {w : World} {F : Fz} {hs : List HP} {k : Nat} {b : Nat} {o : Obj} (hk : hs[k]? = some (pt b o)) (h : SH w F (stars hs)) : F ≤ F.add b o ∧ SH w (F.add b o) (stars (hs.eraseIdx k)) :=
  (h.pull hk).freeze
theorem SH.eraseAt {w : World} {F : Fz} {hs : List HP} (k : Nat) (h : SH w F (stars hs)) : SH w F (stars (hs.eraseIdx k)) :=
  (h.mono fun _ => stars_erase (k := k)).drop
/-- Only the element k is kept. -/
theorem SH.only {w : World} {F : Fz} {hs : List HP} {k : Nat} {p : HP} (hk : hs[k]? = some p) (h : SH w F (stars hs)) : SH w F p := by
  obtain ⟨m, hm, s⟩ := h
  obtain ⟨m1, m2, d, s1, s2, hp, _⟩ := stars_pull hk hm
  exact ⟨m1, hp, s.sub s1⟩
theorem SH.one {w : World} {F : Fz} {p : HP} (h : SH w F p) : SH w F (stars [p]) :=
  h.mono fun m hm => ⟨m, fun _ => none, fun _ => .inr rfl, Mem.sub.refl _, fun _ _ e => by simp at e, hm, trivial⟩

theorem SH.size_le {w w' : World} {F F' : Fz} {H' : HP} (h' : SH w' F' H') (hall : ∀ b o, w.heap[b]? = some o → F.mem b = some o) (le : F ≤ F') : w.heap.size ≤ w'.heap.size ∧ ∀ k, k < w.heap.size → w'.heap[k]? = w.heap[k]? := by
  have key : ∀ k, k < w.heap.size → w'.heap[k]? = w.heap[k]? := fun k hk => by
    have e : w.heap[k]? = some w.heap[k] := by simp [hk]
    rw [e]; exact h'.frozen (le.mem _ _ (hall _ _ e))
  refine ⟨?_, key⟩
  rcases Nat.lt_or_ge w'.heap.size w.heap.size with hlt | hge
  · have e := key w'.heap.size hlt
    have e2 : w.heap[w'.heap.size]? = some w.heap[w'.heap.size] := by simp [hlt]
    rw [e2] at e
    have := lt_of_heap e
    omega
  · exact hge

end Go.Dec
