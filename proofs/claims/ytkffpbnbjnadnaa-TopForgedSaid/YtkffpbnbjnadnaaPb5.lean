/- Own texts and texts printed by a program of mine, for topForged_holds; only what it reaches. -/
import Derived.Test.YtkffpbnbjnadnaaPb4
import Derived.Test.YtkffpbnbjnadnaaRows
section
namespace Go.Proofs.Ytkffpbnbjnadnaa
open Go.Dec
theorem mem_insS {x y : Int} : ∀ {l : List Int}, y ∈ insS x l ↔ y = x ∨ y ∈ l
  | [] => by simp [insS]
  | z :: l => by
    simp only [insS]
    split
    · simp
    · split
      · rename_i h; have := (beq_iff_eq.1 h : x = z); subst this; simp
      · simp only [List.mem_cons, mem_insS (l := l)]
        constructor
        · rintro (h | h | h)
          · exact .inr (.inl h)
          · exact .inl h
          · exact .inr (.inr h)
        · rintro (h | h | h)
          · exact .inr (.inl h)
          · exact .inl h
          · exact .inr (.inr h)
theorem ins_sorted {x : Int} : ∀ {l : List Int}, l.Pairwise (· < ·) → (insS x l).Pairwise (· < ·)
  | [], _ => by simp [insS]
  | z :: l, h => by
    have hz := List.pairwise_cons.1 h
    simp only [insS]
    split
    · rename_i hlt
      refine List.pairwise_cons.2 ⟨fun a ha => ?_, h⟩
      rcases List.mem_cons.1 ha with rfl | ha
      · exact hlt
      · have := hz.1 a ha; omega
    · split
      · exact h
      · rename_i h1 h2
        have hne : x ≠ z := fun e => h2 (by simp [e])
        refine List.pairwise_cons.2 ⟨fun a ha => ?_, ins_sorted hz.2⟩
        rcases mem_insS.1 ha with rfl | ha
        · omega
        · exact hz.1 a ha
theorem mem_uniS {a b : List Int} {y : Int} : y ∈ uniS a b ↔ y ∈ a ∨ y ∈ b := by
  unfold uniS
  induction a with
  | nil => simp
  | cons x a ih => simp only [List.foldr_cons, mem_insS, ih, List.mem_cons, or_assoc]
theorem uni_sorted {a b : List Int} (h : b.Pairwise (· < ·)) : (uniS a b).Pairwise (· < ·) := by
  unfold uniS
  induction a with
  | nil => exact h
  | cons x a ih => exact ins_sorted ih
theorem find_some {n : Int} : ∀ {l : List Held} {i : Nat}, findS l n = some i → ∃ h, l[i]? = some h ∧ h.C.Number = n
  | [], _, h => by cases h
  | h :: l, i, e => by
    simp only [findS] at e
    split at e
    · rename_i hb
      cases e
      exact ⟨h, rfl, beq_iff_eq.1 hb⟩
    · cases hf : findS l n with
      | none => rw [hf] at e; cases e
      | some j =>
        rw [hf] at e
        simp only [Option.map_some, Option.some.injEq] at e
        subst e
        obtain ⟨h', h1, h2⟩ := find_some hf
        exact ⟨h', by simpa using h1, h2⟩
theorem find_none {n : Int} : ∀ {l : List Held}, findS l n = none → ∀ h ∈ l, h.C.Number ≠ n
  | [], _, _, h => by cases h
  | h :: l, e, h', hm => by
    simp only [findS] at e
    split at e
    · cases e
    · rename_i hb
      cases hf : findS l n with
      | some j => rw [hf] at e; cases e
      | none =>
        rcases List.mem_cons.1 hm with rfl | hm
        · intro e'; exact hb (by simp [e'])
        · exact find_none hf h' hm
theorem HOk.up {last : Int} {n : Nat} {h : Held} (ho : HOk last n h) : HOk last (n + 1) h :=
  { ho with fills := ⟨ho.fills.1, fun f hf => by have := ho.fills.2 f hf; omega⟩ }
theorem AOk.set {last : Int} {n : Nat} {l : List Held} {i : Nat} {h h' : Held} (ho : AOk last n l) (hi : l[i]? = some h) (hh : HOk last n h') (hn : h'.C.Number = h.C.Number) : AOk last n (l.set i h') := by
  refine ⟨fun x hx => ?_, ?_, by simpa using ho.few⟩
  · rcases List.mem_or_eq_of_mem_set hx with h1 | h1
    · exact ho.each x h1
    · rw [h1]; exact hh
  · have : (l.set i h').map (·.C.Number) = l.map (·.C.Number) := by
      apply List.ext_getElem?
      intro j
      simp only [List.getElem?_map, List.getElem?_set]
      by_cases e : i = j
      · subst e
        have hlt := (List.getElem?_eq_some_iff.1 hi).1
        have hh := (List.getElem?_eq_some_iff.1 hi).2
        simp [hlt, hn, hh]
      · simp [e]
    rw [this]; exact ho.nums
theorem AOk.up {last : Int} {n : Nat} {l : List Held} (ho : AOk last n l) : AOk last (n + 1) l := ⟨fun h hh => (ho.each h hh).up, ho.nums, ho.few⟩
theorem pour_ok {last : Int} {m : Nat} {h s : Held} {n : Int} (ho : HOk last m h) (hn : 1 ≤ n) (hr : h.C.Amount + n ≤ h.C.Room) (ha : 0 ≤ s.C.Age ∧ s.C.Age ≤ last) (hw : TOk s.C.Age s.C.Woods) (hp : TOk s.C.Age s.C.Places) (hf : s.Fills.Pairwise (· < ·) ∧ ∀ f ∈ s.Fills, 0 ≤ f ∧ f < m) (hne : s.Fills ≠ []) : HOk last m (pourS h s n) := by
  unfold pourS
  split
  · rename_i h0
    have h0' : h.C.Amount = 0 := beq_iff_eq.1 h0
    refine ⟨ho.num, ho.wood, ho.place, ho.room, ho.owner, ho.cred, ⟨by show 0 ≤ h.C.Amount + n; omega, hr⟩, ha, hw, hp, fun e => ?_, hf, fun _ => hne⟩
    have : h.C.Amount + n = 0 := e
    omega
  · rename_i h0
    have hpos : 0 < h.C.Amount := by
      have := ho.amt.1
      have : h.C.Amount ≠ 0 := fun e => h0 (by simp [e])
      omega
    refine ⟨ho.num, ho.wood, ho.place, ho.room, ho.owner, ho.cred, ⟨by show 0 ≤ h.C.Amount + n; omega, hr⟩, ?_, ho.woods.min hw, ho.places.min hp, fun e => ?_, ?_, fun _ => ?_⟩
    · have := ho.age; have := imin_le (a := h.C.Age) (b := s.C.Age); show 0 ≤ imin _ _ ∧ imin _ _ ≤ last; omega
    · have : h.C.Amount + n = 0 := e
      omega
    · refine ⟨uni_sorted hf.1, fun f h1 => ?_⟩
      rcases mem_uniS.1 h1 with h1 | h1
      · exact ho.fills.2 f h1
      · exact hf.2 f h1
    · intro e
      have h1 := ho.some hpos
      cases hh : h.Fills with
      | nil => exact h1 hh
      | cons a t =>
        have : a ∈ uniS h.Fills s.Fills := mem_uniS.2 (.inl (by rw [hh]; simp))
        have e' : uniS h.Fills s.Fills = [] := e
        rw [e'] at this; cases this
theorem less_ok {last : Int} {m : Nat} {h : Held} {n : Int} (ho : HOk last m h) (hn : 1 ≤ n) (hr : n ≤ h.C.Amount) (hl : 0 ≤ last) : HOk last m (lessS h n) := by
  unfold lessS
  split
  · have hroom := ho.room
    exact ⟨ho.num, ho.wood, ho.place, ho.room, ho.owner, ho.cred, ⟨Int.le_refl 0, by show (0:Int) ≤ h.C.Room; omega⟩, ⟨Int.le_refl 0, hl⟩, TOk.zero (Int.le_refl 0), TOk.zero (Int.le_refl 0), fun _ => ⟨rfl, rfl, rfl, rfl⟩, ⟨List.Pairwise.nil, fun _ h => by cases h⟩, fun h => by have h' : (0 : Int) < 0 := h; omega⟩
  · rename_i h0
    have hne : h.C.Amount - n ≠ 0 := fun e => h0 (by simp [e])
    have ha := ho.amt
    refine ⟨ho.num, ho.wood, ho.place, ho.room, ho.owner, ho.cred, ⟨by show 0 ≤ h.C.Amount - n; omega, by show h.C.Amount - n ≤ h.C.Room; omega⟩, ho.age, ho.woods, ho.places, fun e => absurd e hne, ho.fills, fun _ => ho.some (by omega)⟩
theorem evB_base {x : Ev} (h : evB x = true) : (0 ≤ x.Day ∧ x.Day ≤ 65536) ∧ (0 ≤ x.Cask ∧ x.Cask ≤ 1073741824) := by
  simp only [evB, Bool.and_eq_true, inB_iff] at h
  exact ⟨h.1.1, h.1.2⟩
theorem ev0 {x : Ev} (h : evB x = true) (k : x.Kind = 0) : (0 ≤ x.Other ∧ x.Other ≤ 7) ∧ (0 ≤ x.Where ∧ x.Where ≤ 7) ∧ (1 ≤ x.Amount ∧ x.Amount ≤ 1099511627776) ∧ (0 ≤ x.Person ∧ x.Person ≤ 1073741824) := by
  simp only [evB, Bool.and_eq_true, inB_iff, k, BEq.rfl, if_true] at h
  obtain ⟨_, ⟨⟨⟨h1, h2⟩, h3⟩, h4⟩⟩ := h
  exact ⟨h1, h2, h3, h4⟩
theorem evTail {x : Ev} (h : evB x = true) : (if x.Kind == 0 then inB x.Other 0 7 && inB x.Where 0 7 && inB x.Amount 1 1099511627776 && inB x.Person 0 1073741824
   else if x.Kind == 1 || x.Kind == 3 then inB x.Amount 1 1099511627776
   else if x.Kind == 2 then inB x.Other 0 1073741824 && inB x.Amount 1 1099511627776
   else if x.Kind == 4 then inB x.Where 0 7
   else if x.Kind == 5 || x.Kind == 6 then inB x.Person 0 1073741824 && inB x.To 0 1073741824
   else if x.Kind == 7 then inB x.Person 0 1073741824
   else if x.Kind == 8 then inB x.Where 0 7 else false) = true := ((Bool.and_eq_true _ _).mp h).2
theorem evAmt {x : Ev} (h : evB x = true) (k : x.Kind = 1 ∨ x.Kind = 2 ∨ x.Kind = 3) : 1 ≤ x.Amount ∧ x.Amount ≤ 1099511627776 := by
  have h := evTail h
  rcases k with k | k | k <;> rw [k] at h
  · exact inB_iff.1 h
  · exact inB_iff.1 ((Bool.and_eq_true _ _).mp h).2
  · exact inB_iff.1 h
theorem ev4 {x : Ev} (h : evB x = true) (k : x.Kind = 4 ∨ x.Kind = 8) : 0 ≤ x.Where ∧ x.Where ≤ 7 := by
  have h := evTail h
  rcases k with k | k <;> rw [k] at h
  · exact inB_iff.1 h
  · exact inB_iff.1 h
theorem ev5 {x : Ev} (h : evB x = true) (k : x.Kind = 5 ∨ x.Kind = 6) : 0 ≤ x.To ∧ x.To ≤ 1073741824 := by
  have h := evTail h
  rcases k with k | k <;> rw [k] at h
  · exact inB_iff.1 ((Bool.and_eq_true _ _).mp h).2
  · exact inB_iff.1 ((Bool.and_eq_true _ _).mp h).2
theorem kinds {x : Ev} (h : evB x = true) : x.Kind = 0 ∨ x.Kind = 1 ∨ x.Kind = 2 ∨ x.Kind = 3 ∨ x.Kind = 4 ∨ x.Kind = 5 ∨ x.Kind = 6 ∨ x.Kind = 7 ∨ x.Kind = 8 := by
  have h := evTail h
  by_cases k0 : x.Kind = 0
  · exact .inl k0
  rw [if_neg (by simpa using k0)] at h
  by_cases k1 : x.Kind = 1
  · exact .inr (.inl k1)
  by_cases k3 : x.Kind = 3
  · exact .inr (.inr (.inr (.inl k3)))
  rw [if_neg (by simp [k1, k3])] at h
  by_cases k2 : x.Kind = 2
  · exact .inr (.inr (.inl k2))
  rw [if_neg (by simpa using k2)] at h
  by_cases k4 : x.Kind = 4
  · exact .inr (.inr (.inr (.inr (.inl k4))))
  rw [if_neg (by simpa using k4)] at h
  by_cases k5 : x.Kind = 5
  · exact .inr (.inr (.inr (.inr (.inr (.inl k5)))))
  by_cases k6 : x.Kind = 6
  · exact .inr (.inr (.inr (.inr (.inr (.inr (.inl k6))))))
  rw [if_neg (by simp [k5, k6])] at h
  by_cases k7 : x.Kind = 7
  · exact .inr (.inr (.inr (.inr (.inr (.inr (.inr (.inl k7)))))))
  rw [if_neg (by simpa using k7)] at h
  by_cases k8 : x.Kind = 8
  · exact .inr (.inr (.inr (.inr (.inr (.inr (.inr (.inr k8)))))))
  rw [if_neg (by simpa using k8)] at h
  cases h
section
variable {last : Int} {m : Nat} {l l' : List Held} {x : Ev} {i : Nat} {c : Held}
theorem make_ok (ho : AOk last m l) (hl : 0 ≤ last) (hv : evB x = true) (hk : x.Kind = 0) (h : makeD l x = .inl l') : AOk last (m + 1) l' := by
  unfold makeD at h
  split at h
  · cases h
  · rename_i hf
    split at h
    · cases h
    · rename_i hlen
      cases h
      obtain ⟨e1, e2, e3, e4⟩ := ev0 hv hk
      have e0 := (evB_base hv).2
      refine ⟨fun y hy => ?_, ?_, by simp; omega⟩
      · rcases List.mem_append.1 hy with hy | hy
        · exact (ho.each y hy).up
        · simp only [List.mem_singleton] at hy
          subst hy
          exact ⟨e0, e1, e2, e3, e4, by simp [newS], ⟨Int.le_refl 0, by show (0:Int) ≤ x.Amount; omega⟩, ⟨Int.le_refl 0, hl⟩, TOk.zero (Int.le_refl 0), TOk.zero (Int.le_refl 0), fun _ => ⟨rfl, rfl, rfl, rfl⟩, ⟨List.Pairwise.nil, fun _ h => by cases h⟩, fun h => by have h' : (0 : Int) < 0 := h; omega⟩
      · rw [List.map_append, List.nodup_append]
        refine ⟨ho.nums, by simp, fun a ha b hb => ?_⟩
        simp only [List.map_cons, List.map_nil, List.mem_singleton] at hb
        obtain ⟨y, hy, rfl⟩ := List.mem_map.1 ha
        subst hb
        have hf' : findS l x.Cask = none := by simpa using hf
        exact find_none hf' y hy
theorem fill_ok (ho : AOk last m l) (hl : 0 ≤ last) (hc : l[i]? = some c) (ha : 1 ≤ x.Amount) (h : fillD l i c x m = .inl l') : AOk last (m + 1) l' := by
  have hcm := ho.each c (List.mem_of_getElem? hc)
  unfold fillD at h
  split at h
  · cases h
  · rename_i hroom
    cases h
    refine (ho.up).set hc (pour_ok hcm.up ha (by omega) ⟨Int.le_refl 0, hl⟩ (TOk.zero (Int.le_refl 0)) (TOk.zero (Int.le_refl 0)) ⟨by simp [fillS], fun f hf => ?_⟩ (by simp [fillS])) ?_
    · simp only [fillS, List.mem_singleton] at hf
      subst hf; omega
    · unfold pourS; split <;> rfl
theorem rack_ok (ho : AOk last m l) (hl : 0 ≤ last) (hc : l[i]? = some c) (ha : 1 ≤ x.Amount) (h : rackD l i c x = .inl l') : AOk last (m + 1) l' := by
  have hcm := ho.each c (List.mem_of_getElem? hc)
  unfold rackD at h
  split at h
  · cases h
  · rename_i k hfk
    split at h
    · cases h
    · rename_i o hko
      have hom := ho.each o (List.mem_of_getElem? hko)
      unfold rackD2 at h
      split at h
      · cases h
      · rename_i hik
        have hik' : i ≠ k := fun e => hik (by simp [e])
        split at h
        · cases h
        · split at h
          · cases h
          · split at h
            · cases h
            · rename_i hsh hfu
              cases h
              have hpos : 0 < c.C.Amount := by omega
              have h1 := (ho.up).set hko (pour_ok (s := c) hom.up ha (by omega) hcm.age hcm.woods hcm.places hcm.up.fills (hcm.some hpos)) (by unfold pourS; split <;> rfl)
              refine h1.set (h := c) ?_ (less_ok hcm.up ha (by omega) hl) (by unfold lessS; split <;> rfl)
              rw [List.getElem?_set_ne (fun e => hik' e.symm)]; exact hc
theorem drain_ok (ho : AOk last m l) (hl : 0 ≤ last) (hc : l[i]? = some c) (ha : 1 ≤ x.Amount) (h : drainD l i c x = .inl l') : AOk last (m + 1) l' := by
  have hcm := ho.each c (List.mem_of_getElem? hc)
  unfold drainD at h
  split at h
  · cases h
  · split at h
    · cases h
    · cases h
      exact (ho.up).set hc (less_ok hcm.up ha (by omega) hl) (by unfold lessS; split <;> rfl)
theorem act_ok (ho : AOk last m l) (hl : 0 ≤ last) (hv : evB x = true) (h0 : x.Kind ≠ 0) (hc : l[i]? = some c) (h : actS l i c x m = .inl l') : AOk last (m + 1) l' := by
  have hcm := ho.each c (List.mem_of_getElem? hc)
  rcases kinds hv with k | k | k | k | k | k | k | k | k
  · exact absurd k h0
  · have h : fillD l i c x m = .inl l' := by rw [← h]; unfold actS; rw [k]; rfl
    exact fill_ok ho hl hc (evAmt hv (.inl k)).1 h
  · have h : rackD l i c x = .inl l' := by rw [← h]; unfold actS; rw [k]; rfl
    exact rack_ok ho hl hc (evAmt hv (.inr (.inl k))).1 h
  · have h : drainD l i c x = .inl l' := by rw [← h]; unfold actS; rw [k]; rfl
    exact drain_ok ho hl hc (evAmt hv (.inr (.inr k))).1 h
  · have h : carryD l i c x = .inl l' := by rw [← h]; unfold actS; rw [k]; rfl
    cases h
    exact (ho.up).set hc { hcm.up with place := ev4 hv (.inl k) } rfl
  · have h : sellD l i c x = .inl l' := by rw [← h]; unfold actS; rw [k]; rfl
    unfold sellD at h
    split at h
    · cases h
    · split at h
      · cases h
      · cases h
        exact (ho.up).set hc { hcm.up with owner := ev5 hv (.inl k) } rfl
  · have h : pledgeD l i c x = .inl l' := by rw [← h]; unfold actS; rw [k]; rfl
    unfold pledgeD at h
    split at h
    · cases h
    · split at h
      · cases h
      · cases h
        have := ev5 hv (.inr k)
        exact (ho.up).set hc { hcm.up with cred := ⟨by show -1 ≤ x.To; omega, this.2⟩ } rfl
  · have h : freeD l i c x = .inl l' := by rw [← h]; unfold actS; rw [k]; rfl
    unfold freeD at h
    split at h
    · cases h
    · cases h
      exact (ho.up).set hc { hcm.up with cred := ⟨Int.le_refl _, by show (-1:Int) ≤ _; omega⟩ } rfl
  · have h : charD l i c x = .inl l' := by rw [← h]; unfold actS; rw [k]; rfl
    unfold charD at h
    split at h
    · cases h
    · cases h
      exact (ho.up).set hc { hcm.up with wood := ev4 hv (.inr k) } rfl
theorem do_ok (ho : AOk last m l) (hl : 0 ≤ last) (hv : evB x = true) (h : doS l x m = .inl l') : AOk last (m + 1) l' := by
  unfold doS at h
  split at h
  · rename_i hk
    exact make_ok ho hl hv (beq_iff_eq.1 hk) h
  · rename_i hk
    split at h
    · cases h
    · split at h
      · cases h
      · rename_i c hc
        exact act_ok ho hl hv (fun e => hk (by simp [e])) hc h
end
theorem step_ok {n : Nat} {s s' : Cur} {x : Ev} (ho : SOk n s) (h : stepS n s x = .inl s') : SOk (n + 1) s' ∧ evB x = true ∧ s.last ≤ x.Day ∧ s'.last = x.Day := by
  unfold stepS at h
  split at h
  · cases h
  · rename_i hv
    have hv : evB x = true := by simpa using hv
    split at h
    · cases h
    · rename_i hd
      split at h
      · rename_i all hall
        cases h
        have hb := (evB_base hv).1
        have h1 := older_all ho.ok (n := x.Day - s.last) (by omega)
        have e : s.last + (x.Day - s.last) = x.Day := by omega
        rw [e] at h1
        exact ⟨⟨hb, do_ok h1 hb.1 hv hall⟩, hv, by omega, rfl⟩
      · cases h
theorem SOk.start : SOk 0 ⟨[], 0⟩ := ⟨⟨Int.le_refl 0, by decide⟩, ⟨fun _ h => (by cases h), List.nodup_nil, by simp⟩⟩
end Go.Proofs.Ytkffpbnbjnadnaa
end

section
namespace Go.Proofs.Ytkffpbnbjnadnaa
open Go.Dec
def minI (i : Nat) (f g : Nat → Int) : Nat → Int := fun k => if k < i then imin (f k) (g k) else f k
theorem minI_step {i : Nat} {f g : Nat → Int} : updN (minI i f g) i (imin (f i) (g i)) = minI (i + 1) f g := by
  funext k
  by_cases e : k = i
  · subst e; rw [updN_self]; unfold minI; rw [if_pos (by omega)]
  · rw [updN_ne e]; unfold minI
    by_cases h : k < i
    · rw [if_pos h, if_pos (by omega)]
    · rw [if_neg h, if_neg (by omega)]
theorem minI_0 {f g : Nat → Int} : minI 0 f g = f := by funext k; unfold minI; rw [if_neg (by omega)]
theorem evD {x : Ev} (h : evB x = true) : 0 ≤ x.Day ∧ x.Day ≤ 65536 := (evB_base h).1
theorem go_ok {day : Int} : ∀ (l : List Ev) (n : Nat) (s s' : Cur) (k : Nat), SOk n s → s.last ≤ day → goS day l n s = (.inl s', k) → SOk k s' ∧ s'.last ≤ day ∧ n ≤ k ∧ k ≤ n + l.length
  | [], n, s, s', k, ho, hd, h => by
    simp only [goS, Prod.mk.injEq, Sum.inl.injEq] at h
    obtain ⟨rfl, rfl⟩ := h
    exact ⟨ho, hd, Nat.le_refl _, by simp⟩
  | x :: l, n, s, s', k, ho, hd, h => by
    simp only [goS] at h
    by_cases hx : x.Day ≤ day
    · rw [if_pos hx] at h
      cases hs : stepS n s x with
      | inl s1 =>
        rw [hs] at h
        obtain ⟨h1, _, _, h4⟩ := step_ok ho hs
        obtain ⟨g1, g2, g3, g4⟩ := go_ok l (n + 1) s1 s' k h1 (by omega) h
        exact ⟨g1, g2, by omega, by simp; omega⟩
      | inr e => rw [hs] at h; cases h
    · rw [if_neg hx] at h
      simp only [Prod.mk.injEq, Sum.inl.injEq] at h
      obtain ⟨rfl, rfl⟩ := h
      exact ⟨ho, hd, Nat.le_refl _, by simp⟩
end Go.Proofs.Ytkffpbnbjnadnaa
end

section
namespace Go.Proofs.Ytkffpbnbjnadnaa
open Go.Dec
abbrev FM := List (List (Int × Bool))
def rawOf (c : CaskCask) (F : List Int) : Held := ⟨⟨c.number, c.wood, c.place, c.room, c.owner, c.creditor, c.amount, c.times.age, c.times.woods, c.times.places⟩, F⟩
def FR (A3 : FM) (p : Option Nat) (F : List Int) : Prop := match p with
  | none => F = []
  | some j => ∃ l, A3[j]? = some l ∧ (l.map Prod.fst).Nodup ∧ ∀ x, x ∈ F ↔ x ∈ l.map Prod.fst
structure CR (t : Int) (n : Nat) (A3 : FM) (c : CaskCask) (h : Held) : Prop where
  since : 0 ≤ c.since ∧ c.since ≤ t
  ok : HOk c.since n (rawOf c h.Fills)
  eq : h = olderS (t - c.since) (rawOf c h.Fills)
  fills : FR A3 c.fills h.Fills
structure PR (t : Int) (n : Nat) (all : List Held) (A1 : List CaskCask) (A3 : FM) (m : List (Int × Option Nat)) : Prop where
  len : A1.length = all.length
  each : ∀ (k : Nat) (c : CaskCask) (h : Held), A1[k]? = some c → all[k]? = some h → CR t n A3 c h
  map : m = A1.mapIdx (fun k c => (c.number, some k))
  apart : ∀ (i j : Nat) (ci cj : CaskCask) (q : Nat), A1[i]? = some ci → A1[j]? = some cj → ci.fills = some q → cj.fills = some q → i = j
theorem older_fills {n : Int} {h : Held} : (olderS n h).Fills = h.Fills := by unfold olderS; split <;> rfl
theorem older_0 {h : Held} : olderS 0 h = h := by
  unfold olderS
  split
  · have e : ∀ (f : Nat → Int) (j : Nat), updN f j (f j) = f := fun f j => by
      funext k
      by_cases e : k = j
      · subst e; rw [updN_self]
      · rw [updN_ne e]
    simp only [Int.add_zero, e]
  · rfl
theorem CR.number {t : Int} {n : Nat} {A3 : FM} {c : CaskCask} {h : Held} (r : CR t n A3 c h) : h.C.Number = c.number := by rw [r.eq, older_num]; rfl
theorem CR.shift {t t' : Int} {n : Nat} {A3 : FM} {c : CaskCask} {h : Held} (r : CR t n A3 c h) (le : t ≤ t') : CR t' n A3 c (olderS (t' - t) h) := by
  refine ⟨⟨r.since.1, by have := r.since.2; omega⟩, ?_, ?_, ?_⟩
  · rw [older_fills]; exact r.ok
  · rw [older_fills]
    conv => lhs; rw [r.eq]
    rw [older_add]
    congr 1
    omega
  · rw [older_fills]; exact r.fills
theorem PR.shift {t t' : Int} {n : Nat} {all : List Held} {A1 : List CaskCask} {A3 : FM} {m : List (Int × Option Nat)} (r : PR t n all A1 A3 m) (le : t ≤ t') : PR t' n (all.map (olderS (t' - t))) A1 A3 m := by
  refine ⟨by simpa using r.len, fun k c h hc hh => ?_, r.map, r.apart⟩
  rw [List.getElem?_map] at hh
  cases h0 : all[k]? with
  | none => rw [h0] at hh; cases hh
  | some h1 =>
    rw [h0] at hh
    simp only [Option.map_some, Option.some.injEq] at hh
    subst hh
    exact (r.each k c h1 hc h0).shift le
def restC (t : Int) (c : CaskCask) : CaskCask :=
  if 0 < c.amount then { c with since := t, times := ⟨c.times.age + (t - c.since), updN c.times.woods c.wood.toNat (c.times.woods c.wood.toNat + (t - c.since)), updN c.times.places c.place.toNat (c.times.places c.place.toNat + (t - c.since))⟩ } else { c with since := t }
theorem raw_rest {t : Int} {c : CaskCask} {F : List Int} : rawOf (restC t c) F = olderS (t - c.since) (rawOf c F) := by
  unfold restC olderS
  by_cases h : 0 < c.amount
  · rw [if_pos h, if_pos (show 0 < (rawOf c F).C.Amount from h)]; rfl
  · rw [if_neg h, if_neg (show ¬ 0 < (rawOf c F).C.Amount from h)]; rfl
theorem rest_since {t : Int} {c : CaskCask} : (restC t c).since = t := by unfold restC; split <;> rfl
theorem rest_number {t : Int} {c : CaskCask} : (restC t c).number = c.number := by unfold restC; split <;> rfl
theorem rest_fillsC {t : Int} {c : CaskCask} : (restC t c).fills = c.fills := by unfold restC; split <;> rfl
theorem CR.rest {t : Int} {n : Nat} {A3 : FM} {c : CaskCask} {h : Held} (r : CR t n A3 c h) : CR t n A3 (restC t c) h := by
  refine ⟨⟨by rw [rest_since]; have := r.since; omega, by rw [rest_since]; exact Int.le_refl t⟩, ?_, ?_, by rw [rest_fillsC]; exact r.fills⟩
  · rw [raw_rest, rest_since]
    have := older_ok r.ok (n := t - c.since) (by have := r.since; omega)
    have e : c.since + (t - c.since) = t := by omega
    rwa [e] at this
  · rw [raw_rest, rest_since, Int.sub_self, older_0]
    exact r.eq
theorem rest_prog {A1 : List CaskCask} {k : Nat} {c : CaskCask} {t : Int} {n : Nat} {F : List Int} (hc : A1[k]? = some c) (ho : HOk c.since n (rawOf c F)) (_h0 : 0 ≤ c.since) (h1 : c.since ≤ t) (ht : t ≤ 1000000) :
    m_cask_cask_rest A1 (some k) t = some (A1.set k (restC t c)) := by
  have hk : k < A1.length := (List.getElem?_eq_some_iff.1 hc).1
  have hage := ho.age
  have hwood := ho.wood
  have hplace := ho.place
  have ew : idxO 8 c.wood = some c.wood.toNat := by unfold idxO; rw [if_pos (by have : 0 ≤ c.wood ∧ c.wood ≤ 7 := hwood; omega)]
  have ep : idxO 8 c.place = some c.place.toNat := by unfold idxO; rw [if_pos (by have : 0 ≤ c.place ∧ c.place ≤ 7 := hplace; omega)]
  have w1 : 0 ≤ c.times.woods c.wood.toNat ∧ c.times.woods c.wood.toNat ≤ c.times.age := ho.woods.le _
  have p1 : 0 ≤ c.times.places c.place.toNat ∧ c.times.places c.place.toNat ≤ c.times.age := ho.places.le _
  have ha : 0 ≤ c.times.age ∧ c.times.age ≤ c.since := hage
  unfold m_cask_cask_rest
  simp only [Option.bind_some, hc, bindv]
  rw [w64_id (n := t - c.since) (by omega) (by omega)]
  by_cases hp : 0 < c.amount
  · rw [if_pos (by simpa using hp)]
    simp only [ew, ep, Option.bind_some, List.set_set]
    rw [w64_id (n := c.times.age + (t - c.since)) (by omega) (by omega), w64_id (n := c.times.woods c.wood.toNat + (t - c.since)) (by omega) (by omega), w64_id (n := c.times.places c.place.toNat + (t - c.since)) (by omega) (by omega)]
    simp only [restC, hp, if_true]
  · rw [if_neg (by simpa using hp)]
    simp only [restC, hp, if_false]
theorem mapGet_idx {num : Int} : ∀ (A1 : List CaskCask) (all : List Held) (k0 : Nat), A1.length = all.length → (∀ (k : Nat) (c : CaskCask) (h : Held), A1[k]? = some c → all[k]? = some h → h.C.Number = c.number) →
    (mapGet (A1.mapIdx (fun k c => (c.number, some (k0 + k)))) num).getD none = (findS all num).map (k0 + ·)
  | [], [], _, _, _ => rfl
  | [], _ :: _, _, h, _ => by simp at h
  | _ :: _, [], _, h, _ => by simp at h
  | c :: A1, h :: all, k0, hl, hn => by
    have h0 := hn 0 c h rfl rfl
    rw [List.mapIdx_cons]
    simp only [mapGet, findS]
    by_cases e : num = c.number
    · have e1 : (num == c.number) = true := by simpa using e
      have e2 : (h.C.Number == num) = true := by simp [h0, e]
      simp [e1, e2]
    · have e1 : (num == c.number) = false := by simpa using e
      have e2 : (h.C.Number == num) = false := by simp [h0]; exact fun e' => e e'.symm
      have ih := mapGet_idx (num := num) A1 all (k0 + 1) (by simpa using hl) (fun k c h h1 h2 => hn (k + 1) c h (by simpa using h1) (by simpa using h2))
      simp only [e1, e2, Bool.false_eq_true, if_false]
      have e3 : (fun (i : Nat) (a : CaskCask) => (a.number, some (k0 + (i + 1)))) = fun k c => (c.number, some (k0 + 1 + k)) := by funext i a; rw [show k0 + (i + 1) = k0 + 1 + i by omega]
      rw [e3, ih]
      cases findS all num with
      | none => rfl
      | some j => simp; omega
theorem PR.get {t : Int} {n : Nat} {all : List Held} {A1 : List CaskCask} {A3 : FM} {m : List (Int × Option Nat)} (r : PR t n all A1 A3 m) (num : Int) : (mapGet m num).getD none = findS all num := by
  have := mapGet_idx (num := num) A1 all 0 r.len (fun k c h h1 h2 => (r.each k c h h1 h2).number)
  rw [r.map]
  simpa using this
end Go.Proofs.Ytkffpbnbjnadnaa
end

section
namespace Go.Proofs.Ytkffpbnbjnadnaa
open Go.Dec
theorem CR.up {t : Int} {n : Nat} {A3 : FM} {c : CaskCask} {h : Held} (r : CR t n A3 c h) : CR t (n + 1) A3 c h := ⟨r.since, r.ok.up, r.eq, r.fills⟩
theorem FR.keep {A3 A3' : FM} {p : Option Nat} {F : List Int} (r : FR A3 p F) (h : ∀ q, p = some q → A3'[q]? = A3[q]?) : FR A3' p F := by
  cases p with
  | none => exact r
  | some q => obtain ⟨l, h1, h2⟩ := r; exact ⟨l, by rw [h q rfl]; exact h1, h2⟩
theorem mapIdx_set {A1 : List CaskCask} {k : Nat} {c c' : CaskCask} (hc : A1[k]? = some c) (hn : c'.number = c.number) : (A1.set k c').mapIdx (fun k c => (c.number, some k)) = A1.mapIdx (fun k (c : CaskCask) => (c.number, some k)) := by
  apply List.ext_getElem?
  intro i
  simp only [List.getElem?_mapIdx, List.getElem?_set]
  by_cases e : k = i
  · subst e
    have hlt := (List.getElem?_eq_some_iff.1 hc).1
    have hx := (List.getElem?_eq_some_iff.1 hc).2
    simp [hlt, hn, hx]
  · simp [e]
section
variable {t : Int} {n n' : Nat} {all : List Held} {A1 : List CaskCask} {A3 A3' : FM} {m : List (Int × Option Nat)} {k : Nat} {c c' : CaskCask} {h h' : Held}
theorem PR.set (r : PR t n all A1 A3 m) (hc : A1[k]? = some c) (hh : all[k]? = some h) (hn' : c'.number = c.number) (hcr : CR t n' A3' c' h') (hother : ∀ (i : Nat) (ci : CaskCask) (hi : Held), i ≠ k → A1[i]? = some ci → all[i]? = some hi → CR t n' A3' ci hi)
    (hap : ∀ (i : Nat) (ci : CaskCask) (q : Nat), i ≠ k → A1[i]? = some ci → ci.fills = some q → c'.fills ≠ some q) : PR t n' (all.set k h') (A1.set k c') A3' m := by
  have hk := (List.getElem?_eq_some_iff.1 hc).1
  have hk2 := (List.getElem?_eq_some_iff.1 hh).1
  refine ⟨by simpa using r.len, fun i ci hi h1 h2 => ?_, by rw [mapIdx_set hc hn']; exact r.map, fun i j ci cj q h1 h2 h3 h4 => ?_⟩
  · by_cases e : k = i
    · subst e
      rw [List.getElem?_set_self hk] at h1
      rw [List.getElem?_set_self hk2] at h2
      cases h1; cases h2; exact hcr
    · rw [List.getElem?_set_ne e] at h1 h2
      exact hother i ci hi (fun e' => e e'.symm) h1 h2
  · by_cases e : k = i
    · by_cases e2 : k = j
      · rw [← e, ← e2]
      · subst e
        rw [List.getElem?_set_self hk] at h1
        rw [List.getElem?_set_ne e2] at h2
        cases h1
        exact absurd h3 (hap j cj q (fun e' => e2 e'.symm) h2 h4)
    · rw [List.getElem?_set_ne e] at h1
      by_cases e2 : k = j
      · subst e2
        rw [List.getElem?_set_self hk] at h2
        cases h2
        exact absurd h4 (hap i ci q (fun e' => e e'.symm) h1 h3)
      · rw [List.getElem?_set_ne e2] at h2
        exact r.apart i j ci cj q h1 h2 h3 h4
theorem PR.set1 (r : PR t n all A1 A3 m) (hc : A1[k]? = some c) (hh : all[k]? = some h) (hn' : c'.number = c.number) (hcr : CR t (n + 1) A3 c' h') (hf : c'.fills = c.fills ∨ c'.fills = none) : PR t (n + 1) (all.set k h') (A1.set k c') A3 m :=
  r.set hc hh hn' hcr (fun i ci hi _ h1 h2 => (r.each i ci hi h1 h2).up) (fun i ci q hi h1 h2 h3 => by
    rcases hf with hf | hf
    · rw [hf] at h3; exact hi (r.apart i k ci c q h1 hc h2 h3)
    · rw [hf] at h3; cases h3)
theorem PR.rest (r : PR t n all A1 A3 m) (hc : A1[k]? = some c) : PR t n all (A1.set k (restC t c)) A3 m := by
  have hk := (List.getElem?_eq_some_iff.1 hc).1
  have hk2 : k < all.length := by rw [← r.len]; exact hk
  have hh : all[k]? = some all[k] := List.getElem?_eq_getElem hk2
  have := r.set (n' := n) (A3' := A3) (c' := restC t c) (h' := all[k]) hc hh rest_number (r.each k c _ hc hh).rest (fun i ci hi _ h1 h2 => r.each i ci hi h1 h2) (fun i ci q hi h1 h2 h3 => by
    rw [rest_fillsC] at h3; exact hi (r.apart i k ci c q h1 hc h2 h3))
  rwa [List.set_getElem_self] at this
theorem find_prog {x20 : CaskBook} {num : Int} (r : PR t n all A1 A3 m) (ht : t ≤ 1000000) (hb : x20.casks = some 0) :
    (findS all num = none ∧ m_cask_book_find A1 [x20] [m] (some 0) num t = some (.pan ⟨4⟩)) ∨
    (∃ k h c, findS all num = some k ∧ all[k]? = some h ∧ h.C.Number = num ∧ PR t n all (A1.set k c) A3 m ∧ (A1.set k c)[k]? = some c ∧ c.since = t ∧ h = rawOf c h.Fills ∧ HOk t n h ∧ m_cask_book_find A1 [x20] [m] (some 0) num t = some (.ok (some k, A1.set k c))) := by
  have hget := r.get num
  unfold m_cask_book_find
  simp only [Option.bind_some, List.getElem?_cons_zero, hb, hget]
  cases hf : findS all num with
  | none =>
    left
    exact ⟨rfl, rfl⟩
  | some k =>
    right
    obtain ⟨h, hh, hnum⟩ := find_some hf
    have hk2 := (List.getElem?_eq_some_iff.1 hh).1
    have hk : k < A1.length := by rw [r.len]; exact hk2
    have hc : A1[k]? = some A1[k] := List.getElem?_eq_getElem hk
    have hcr := r.each k _ h hc hh
    have hcr2 := hcr.rest
    have hraw : h = rawOf (restC t A1[k]) h.Fills := by
      have := hcr2.eq
      rw [rest_since, Int.sub_self, older_0] at this
      exact this
    have hok : HOk t n h := by
      have := hcr2.ok
      rw [rest_since, ← hraw] at this
      exact this
    refine ⟨k, h, restC t A1[k], rfl, hh, hnum, r.rest hc, List.getElem?_set_self hk, rest_since, hraw, hok, ?_⟩
    show bindX (m_cask_need true 4) _ _ = _
    have e1 : m_cask_need true 4 = some (.ok ()) := rfl
    rw [e1]
    simp only [bindX]
    rw [rest_prog hc hcr.ok hcr.since.1 hcr.since.2 ht]
    rfl
end
def Does (t : Int) (n : Nat) (r : List Held ⊕ Int) (o : Option (Out CaskMisfit (List CaskCask × FM × List (List (Int × Option Nat))))) : Prop := match r with
  | .inl all' => ∃ A1' A3' m', o = some (.ok (A1', A3', [m'])) ∧ PR t (n + 1) all' A1' A3' m'
  | .inr e => o = some (.pan ⟨e⟩) ∧ e ≠ 0
section
variable {t : Int} {n : Nat} {all : List Held} {A1 : List CaskCask} {A3 : FM} {m : List (Int × Option Nat)} {b : CaskBook} {x : Ev}
theorem CR.of_raw {c : CaskCask} {F : List Int} (h0 : 0 ≤ t) (hs : c.since = t) (ho : HOk t n (rawOf c F)) (hf : FR A3 c.fills F) : CR t n A3 c (rawOf c F) :=
  ⟨by omega, by rw [hs]; exact ho, by rw [hs, Int.sub_self, older_0]; rfl, hf⟩
theorem carry_prog (r : PR t n all A1 A3 m) (h0 : 0 ≤ t) (ht : t ≤ 65536) (hb : b.casks = some 0) (hv : evB x = true) (hk : x.Kind = 4) (hd : x.Day = t) : Does t n (doS all x n) (m_cask_book_carry A1 [b] A3 [m] (some 0) x) := by
  unfold m_cask_book_carry doS
  rw [if_neg (by rw [hk]; decide), hd]
  rcases find_prog (num := x.Cask) r (by omega) hb with ⟨hf, hm⟩ | ⟨k, h, c, hf, hh, hnum, hr, hc, hs, hraw, hok, hm⟩
  · rw [hf, hm]; exact ⟨rfl, by decide⟩
  · rw [hf, hm]
    simp only [hh, bindX, Option.bind_some, hc, bindv, List.set_set]
    have hact : actS all k h x n = carryD all k h x := by unfold actS; rw [hk]; rfl
    rw [hact]
    refine ⟨_, _, _, rfl, ?_⟩
    have hcr := hr.each k c h hc hh
    have h2 : PR t (n + 1) (all.set k (rawOf { c with place := x.Where } h.Fills)) ((A1.set k c).set k { c with place := x.Where }) A3 m := hr.set1 hc hh rfl (CR.of_raw h0 hs (by
      have := hok.up
      rw [hraw] at this
      exact { this with place := ev4 hv (.inl hk) }) hcr.fills) (.inl rfl)
    rw [List.set_set] at h2
    have e : rawOf { c with place := x.Where } h.Fills = { h with C := { h.C with Place := x.Where } } := by
      conv => rhs; rw [hraw]
      rfl
    rw [e] at h2
    exact h2
theorem turn1 {k : Nat} {h h' : Held} {c c' : CaskCask} {r : List Held ⊕ Int} (hr : PR t n all (A1.set k c) A3 m) (hh : all[k]? = some h) (hc : (A1.set k c)[k]? = some c) (h0 : 0 ≤ t) (hs : c'.since = t) (hn : c'.number = c.number) (hf : c'.fills = c.fills ∨ c'.fills = none) {F : List Int} (he : h' = rawOf c' F) (ho : HOk t (n + 1) h') (hfr : FR A3 c'.fills F) (hres : r = .inl (all.set k h')) : Does t n r (some (.ok (A1.set k c', A3, [m]))) := by
  subst hres
  subst he
  refine ⟨_, _, _, rfl, ?_⟩
  have h2 := hr.set1 hc hh hn (CR.of_raw h0 hs ho hfr) hf
  rwa [List.set_set] at h2
theorem creq {a : Int} (h : -1 ≤ a) : (a == (-1)) = !decide (a ≥ 0) := by
  by_cases e : a = -1
  · subst e; rfl
  · have h1 : (a == (-1)) = false := by simpa using e
    rw [h1, decide_eq_true (show a ≥ 0 by omega)]; rfl
theorem sell_prog (r : PR t n all A1 A3 m) (h0 : 0 ≤ t) (ht : t ≤ 65536) (hb : b.casks = some 0) (hv : evB x = true) (hk : x.Kind = 5) (hd : x.Day = t) : Does t n (doS all x n) (m_cask_book_sell A1 [b] A3 [m] (some 0) x) := by
  unfold m_cask_book_sell doS
  rw [if_neg (by rw [hk]; decide), hd]
  rcases find_prog (num := x.Cask) r (by omega) hb with ⟨hf, hm⟩ | ⟨k, h, c, hf, hh, hnum, hr, hc, hs, hraw, hok, hm⟩
  · rw [hf, hm]; exact ⟨rfl, by decide⟩
  · rw [hf, hm]
    simp only [hh, bindX, Option.bind_some, hc, bindv, List.set_set]
    have hact : actS all k h x n = sellD all k h x := by unfold actS; rw [hk]; rfl
    rw [hact]
    have hcr := hr.each k c h hc hh
    have ho : h.C.Owner = c.owner := by rw [hraw]; rfl
    have hcd : h.C.Creditor = c.creditor := by rw [hraw]; rfl
    have hcred := hok.cred
    rw [hcd] at hcred
    unfold sellD
    rw [ho, hcd]
    by_cases h1 : c.owner = x.Person
    · have e1 : (c.owner == x.Person) = true := by simpa using h1
      have e2 : (c.owner != x.Person) = false := by simpa using h1
      simp only [e1, e2, if_true, Bool.false_or, creq hcred.1]
      by_cases h2 : c.creditor ≥ 0
      · simp only [h2, decide_true, Bool.not_true, if_true]
        exact ⟨rfl, by decide⟩
      · simp only [h2, decide_false, Bool.not_false, Bool.false_eq_true, if_false]
        by_cases h3 : x.To = c.owner
        · have e3 : (x.To == c.owner) = true := by simpa using h3
          have e4 : (x.To != c.owner) = false := by simpa using h3
          simp only [e3, e4, if_true]
          exact ⟨rfl, by decide⟩
        · have e3 : (x.To == c.owner) = false := by simpa using h3
          have e4 : (x.To != c.owner) = true := by simpa using h3
          simp only [e3, e4, Bool.false_eq_true, if_false]
          exact turn1 (h' := { h with C := { h.C with Owner := x.To } }) (c' := { c with owner := x.To }) (F := h.Fills) hr hh hc h0 hs rfl (.inl rfl) (congrArg (fun z : Held => { z with C := { z.C with Owner := x.To } }) hraw) { hok.up with owner := ev5 hv (.inl hk) } hcr.fills rfl
    · have e1 : (c.owner == x.Person) = false := by simpa using h1
      have e2 : (c.owner != x.Person) = true := by simpa using h1
      simp only [e1, e2, Bool.true_or, if_true, Bool.false_eq_true, if_false]
      exact ⟨rfl, by decide⟩
theorem pledge_prog (r : PR t n all A1 A3 m) (h0 : 0 ≤ t) (ht : t ≤ 65536) (hb : b.casks = some 0) (hv : evB x = true) (hk : x.Kind = 6) (hd : x.Day = t) : Does t n (doS all x n) (m_cask_book_pledge A1 [b] A3 [m] (some 0) x) := by
  unfold m_cask_book_pledge doS
  rw [if_neg (by rw [hk]; decide), hd]
  rcases find_prog (num := x.Cask) r (by omega) hb with ⟨hf, hm⟩ | ⟨k, h, c, hf, hh, hnum, hr, hc, hs, hraw, hok, hm⟩
  · rw [hf, hm]; exact ⟨rfl, by decide⟩
  · rw [hf, hm]
    simp only [hh, bindX, Option.bind_some, hc, bindv, List.set_set]
    have hact : actS all k h x n = pledgeD all k h x := by unfold actS; rw [hk]; rfl
    rw [hact]
    have hcr := hr.each k c h hc hh
    have ho : h.C.Owner = c.owner := by rw [hraw]; rfl
    have hcd : h.C.Creditor = c.creditor := by rw [hraw]; rfl
    have hcred := hok.cred
    rw [hcd] at hcred
    unfold pledgeD
    rw [ho, hcd]
    by_cases h1 : c.owner = x.Person
    · have e1 : (c.owner == x.Person) = true := by simpa using h1
      have e2 : (c.owner != x.Person) = false := by simpa using h1
      simp only [e1, e2, Bool.false_eq_true, if_false, creq hcred.1]
      by_cases h2 : c.creditor ≥ 0
      · simp only [h2, decide_true, Bool.not_true, if_true]
        exact ⟨rfl, by decide⟩
      · simp only [h2, decide_false, Bool.not_false, if_false]
        have := ev5 hv (.inr hk)
        exact turn1 (h' := { h with C := { h.C with Creditor := x.To } }) (c' := { c with creditor := x.To }) (F := h.Fills) hr hh hc h0 hs rfl (.inl rfl) (congrArg (fun z : Held => { z with C := { z.C with Creditor := x.To } }) hraw) { hok.up with cred := ⟨by show -1 ≤ x.To; omega, this.2⟩ } hcr.fills rfl
    · have e1 : (c.owner == x.Person) = false := by simpa using h1
      have e2 : (c.owner != x.Person) = true := by simpa using h1
      simp only [e1, e2, if_true]
      exact ⟨rfl, by decide⟩
theorem free_prog (r : PR t n all A1 A3 m) (h0 : 0 ≤ t) (ht : t ≤ 65536) (hb : b.casks = some 0) (_hv : evB x = true) (hk : x.Kind = 7) (hd : x.Day = t) : Does t n (doS all x n) (m_cask_book_free A1 [b] A3 [m] (some 0) x) := by
  unfold m_cask_book_free doS
  rw [if_neg (by rw [hk]; decide), hd]
  rcases find_prog (num := x.Cask) r (by omega) hb with ⟨hf, hm⟩ | ⟨k, h, c, hf, hh, hnum, hr, hc, hs, hraw, hok, hm⟩
  · rw [hf, hm]; exact ⟨rfl, by decide⟩
  · rw [hf, hm]
    simp only [hh, bindX, Option.bind_some, hc, bindv, List.set_set]
    have hact : actS all k h x n = freeD all k h x := by unfold actS; rw [hk]; rfl
    rw [hact]
    have hcr := hr.each k c h hc hh
    have hcd : h.C.Creditor = c.creditor := by rw [hraw]; rfl
    unfold freeD
    rw [hcd]
    by_cases h1 : c.creditor = x.Person
    · have e1 : (c.creditor == x.Person) = true := by simpa using h1
      have e2 : (c.creditor != x.Person) = false := by simpa using h1
      simp only [e1, e2, Bool.false_eq_true, if_false]
      exact turn1 (h' := { h with C := { h.C with Creditor := -1 } }) (c' := { c with creditor := -1 }) (F := h.Fills) hr hh hc h0 hs rfl (.inl rfl) (congrArg (fun z : Held => { z with C := { z.C with Creditor := -1 } }) hraw) { hok.up with cred := ⟨Int.le_refl _, by show (-1:Int) ≤ _; omega⟩ } hcr.fills rfl
    · have e1 : (c.creditor == x.Person) = false := by simpa using h1
      have e2 : (c.creditor != x.Person) = true := by simpa using h1
      simp only [e1, e2, if_true]
      exact ⟨rfl, by decide⟩
theorem char_prog (r : PR t n all A1 A3 m) (h0 : 0 ≤ t) (ht : t ≤ 65536) (hb : b.casks = some 0) (hv : evB x = true) (hk : x.Kind = 8) (hd : x.Day = t) : Does t n (doS all x n) (m_cask_book_char A1 [b] A3 [m] (some 0) x) := by
  unfold m_cask_book_char doS
  rw [if_neg (by rw [hk]; decide), hd]
  rcases find_prog (num := x.Cask) r (by omega) hb with ⟨hf, hm⟩ | ⟨k, h, c, hf, hh, hnum, hr, hc, hs, hraw, hok, hm⟩
  · rw [hf, hm]; exact ⟨rfl, by decide⟩
  · rw [hf, hm]
    simp only [hh, bindX, Option.bind_some, hc, bindv, List.set_set]
    have hact : actS all k h x n = charD all k h x := by unfold actS; rw [hk]; rfl
    rw [hact]
    have hcr := hr.each k c h hc hh
    have hca : h.C.Amount = c.amount := by rw [hraw]; rfl
    have hamt := hok.amt
    rw [hca] at hamt
    unfold charD
    rw [hca]
    by_cases h1 : c.amount = 0
    · have e1 : (c.amount == 0) = true := by simpa using h1
      have e2 : ¬ c.amount > 0 := by omega
      simp only [e1, e2, if_false]
      exact turn1 (h' := { h with C := { h.C with Wood := x.Where } }) (c' := { c with wood := x.Where }) (F := h.Fills) hr hh hc h0 hs rfl (.inl rfl) (congrArg (fun z : Held => { z with C := { z.C with Wood := x.Where } }) hraw) { hok.up with wood := ev4 hv (.inr hk) } hcr.fills rfl
    · have e1 : (c.amount == 0) = false := by simpa using h1
      have e2 : c.amount > 0 := by omega
      simp only [e1, e2, if_true]
      exact ⟨rfl, by decide⟩
end
end Go.Proofs.Ytkffpbnbjnadnaa
end

section
namespace Go.Proofs.Ytkffpbnbjnadnaa
open Go.Dec
def drawC (c : CaskCask) (n : Int) : CaskCask := if c.amount - n == 0 then { c with amount := 0, times := ⟨0, zN, zN⟩, fills := none } else { c with amount := c.amount - n }
theorem raw_draw {c : CaskCask} {n : Int} {F : List Int} : lessS (rawOf c F) n = rawOf (drawC c n) (lessS (rawOf c F) n).Fills := by
  unfold lessS drawC
  by_cases e : (c.amount - n == 0) = true
  · rw [if_pos e, if_pos (show ((rawOf c F).C.Amount - n == 0) = true from e)]; rfl
  · rw [if_neg e, if_neg (show ¬ ((rawOf c F).C.Amount - n == 0) = true from e)]; rfl
theorem draw_fills {c : CaskCask} {n : Int} : (drawC c n).fills = c.fills ∨ (drawC c n).fills = none := by
  unfold drawC; split
  · exact .inr rfl
  · exact .inl rfl
theorem draw_since {c : CaskCask} {n : Int} : (drawC c n).since = c.since := by unfold drawC; split <;> rfl
theorem draw_number {c : CaskCask} {n : Int} : (drawC c n).number = c.number := by unfold drawC; split <;> rfl
theorem draw_FR {A3 : FM} {c : CaskCask} {n : Int} {F : List Int} (h : FR A3 c.fills F) : FR A3 (drawC c n).fills (lessS (rawOf c F) n).Fills := by
  unfold lessS drawC
  by_cases e : (c.amount - n == 0) = true
  · rw [if_pos e, if_pos (show ((rawOf c F).C.Amount - n == 0) = true from e)]; rfl
  · rw [if_neg e, if_neg (show ¬ ((rawOf c F).C.Amount - n == 0) = true from e)]; exact h
theorem draw_prog {A1 : List CaskCask} {k : Nat} {c : CaskCask} {n : Int} (hc : A1[k]? = some c) (h1 : 0 ≤ c.amount ∧ c.amount ≤ 1099511627776) (h2 : 0 ≤ n ∧ n ≤ 1099511627776) : m_cask_cask_draw A1 (some k) n = some (A1.set k (drawC c n)) := by
  unfold m_cask_cask_draw
  simp only [Option.bind_some, hc, bindv, List.set_set]
  rw [w64_id (n := c.amount - n) (by omega) (by omega)]
  unfold drawC
  by_cases e : (c.amount - n == 0) = true
  · have e0 : c.amount - n = 0 := beq_iff_eq.1 e
    rw [if_pos e, if_pos e]
    simp only [e0]
  · rw [if_neg e, if_neg e]
section
variable {t : Int} {n : Nat} {all : List Held} {A1 : List CaskCask} {A3 : FM} {m : List (Int × Option Nat)} {b : CaskBook} {x : Ev}
theorem drain_prog (r : PR t n all A1 A3 m) (h0 : 0 ≤ t) (ht : t ≤ 65536) (hb : b.casks = some 0) (hv : evB x = true) (hk : x.Kind = 3) (hd : x.Day = t) : Does t n (doS all x n) (m_cask_book_drain A1 [b] A3 [m] (some 0) x) := by
  unfold m_cask_book_drain doS
  rw [if_neg (by rw [hk]; decide), hd]
  rcases find_prog (num := x.Cask) r (by omega) hb with ⟨hf, hm⟩ | ⟨k, h, c, hf, hh, hnum, hr, hc, hs, hraw, hok, hm⟩
  · rw [hf, hm]; exact ⟨rfl, by decide⟩
  · rw [hf, hm]
    simp only [hh, bindX, Option.bind_some, hc]
    have hact : actS all k h x n = drainD all k h x := by unfold actS; rw [hk]; rfl
    rw [hact]
    have hcr := hr.each k c h hc hh
    have hca : h.C.Amount = c.amount := by rw [hraw]; rfl
    have hcd : h.C.Creditor = c.creditor := by rw [hraw]; rfl
    have hcred := hok.cred
    have hamt := hok.amt
    have hroom := hok.room
    rw [hca] at hamt
    rw [hcd] at hcred
    have ha := evAmt hv (.inr (.inr hk))
    unfold drainD
    rw [hca, hcd, creq hcred.1]
    by_cases h1 : c.creditor ≥ 0
    · simp only [h1, decide_true, Bool.not_true, if_true]
      exact ⟨rfl, by decide⟩
    · simp only [h1, decide_false, Bool.not_false, if_false]
      by_cases h2 : c.amount < x.Amount
      · have e2 : decide (c.amount ≥ x.Amount) = false := decide_eq_false (by omega)
        simp only [h2, e2, if_true]
        exact ⟨rfl, by decide⟩
      · have e2 : decide (c.amount ≥ x.Amount) = true := decide_eq_true (by omega)
        simp only [h2, e2, if_false]
        show Does t n _ ((m_cask_cask_draw (A1.set k c) (some k) x.Amount).bind fun r_60 => some (.ok (r_60, A3, [m])))
        rw [draw_prog hc (by omega) (by omega), Option.bind_some, List.set_set]
        have hls : lessS h x.Amount = rawOf (drawC c x.Amount) (lessS (rawOf c h.Fills) x.Amount).Fills := by rw [← raw_draw, ← hraw]
        exact turn1 (h' := lessS h x.Amount) (c' := drawC c x.Amount) hr hh hc h0 (by rw [draw_since]; exact hs) draw_number draw_fills hls (less_ok hok.up ha.1 (by omega) h0) (draw_FR hcr.fills) rfl
theorem mapSet_idx {num : Int} {v : Option Nat} : ∀ (A1 : List CaskCask) (k0 : Nat), (∀ c ∈ A1, c.number ≠ num) → mapSet (A1.mapIdx (fun k c => (c.number, some (k0 + k)))) num v = A1.mapIdx (fun k c => (c.number, some (k0 + k))) ++ [(num, v)]
  | [], _, _ => rfl
  | c :: A1, k0, h => by
    rw [List.mapIdx_cons]
    have e1 : (num == c.number) = false := by simpa using (fun e => h c (by simp) e.symm)
    have e3 : (fun (i : Nat) (a : CaskCask) => (a.number, some (k0 + (i + 1)))) = fun k c => (c.number, some (k0 + 1 + k)) := by funext i a; rw [show k0 + (i + 1) = k0 + 1 + i by omega]
    simp only [mapSet, e1, Bool.false_eq_true, if_false, e3, List.cons_append]
    rw [mapSet_idx A1 (k0 + 1) (fun c hc => h c (List.mem_cons_of_mem _ hc))]
def newC (x : Ev) : CaskCask := ⟨x.Cask, x.Other, x.Where, x.Amount, x.Person, -1, 0, x.Day, ⟨0, zN, zN⟩, none⟩
theorem build_prog (r : PR t n all A1 A3 m) (ho : AOk t n all) (h0 : 0 ≤ t) (hb : b.casks = some 0) (hv : evB x = true) (hk : x.Kind = 0) (hd : x.Day = t) : Does t n (doS all x n) (m_cask_book_build A1 [b] A3 [m] (some 0) x) := by
  have hmk := fun l' h => make_ok (l' := l') ho h0 hv hk h
  have hml : m.length = all.length := by rw [r.map, List.length_mapIdx, r.len]
  unfold m_cask_book_build doS
  rw [if_pos (by rw [hk]; rfl)]
  simp only [Option.bind_some, List.getElem?_cons_zero, hb, r.get]
  unfold makeD at hmk ⊢
  cases hf : findS all x.Cask with
  | some k =>
    simp only [Option.isSome_some, if_true]
    exact ⟨rfl, by decide⟩
  | none =>
    rw [hf] at hmk
    simp only [Option.isSome_none, Bool.false_eq_true, if_false] at hmk ⊢
    by_cases hfull : 256 ≤ all.length
    · have e : decide ((m.length : Int) < 256) = false := decide_eq_false (by omega)
      simp only [hfull, e, if_true]
      exact ⟨rfl, by decide⟩
    · have e : decide ((m.length : Int) < 256) = true := decide_eq_true (by omega)
      simp only [hfull, e, if_false] at hmk ⊢
      have hnew := hmk _ rfl
      have hokn : HOk t (n + 1) (newS x) := hnew.each _ (by simp)
      refine ⟨A1 ++ [newC x], A3, mapSet m x.Cask (some A1.length), ?_, ?_⟩
      · rfl
      · refine ⟨by simp [r.len], fun k c h hc hh => ?_, ?_, fun i j ci cj q h1 h2 h3 h4 => ?_⟩
        · by_cases e : k < A1.length
          · rw [List.getElem?_append_left e] at hc
            rw [List.getElem?_append_left (by rw [← r.len]; exact e)] at hh
            exact (r.each k c h hc hh).up
          · have hk1 := (List.getElem?_eq_some_iff.1 hc).1
            have ek : k = A1.length := by simp at hk1; omega
            rw [ek, List.getElem?_append_right (Nat.le_refl _)] at hc
            rw [ek, r.len, List.getElem?_append_right (Nat.le_refl _)] at hh
            simp only [Nat.sub_self, List.getElem?_cons_zero, Option.some.injEq] at hc hh
            subst hc; subst hh
            exact CR.of_raw (c := newC x) (F := []) h0 hd hokn rfl
        · rw [r.map]
          have h1 : ∀ c ∈ A1, c.number ≠ x.Cask := fun c hc => by
            obtain ⟨k, hk⟩ := List.getElem?_of_mem hc
            have hk1 := (List.getElem?_eq_some_iff.1 hk).1
            have hk2 : all[k]? = some (all[k]'(by rw [← r.len]; exact hk1)) := List.getElem?_eq_getElem _
            have := find_none hf _ (List.mem_of_getElem? hk2)
            rw [(r.each k c _ hk hk2).number] at this
            exact this
          have h2 := mapSet_idx (num := x.Cask) (v := some A1.length) A1 0 h1
          simp only [Nat.zero_add] at h2
          rw [h2]
          apply List.ext_getElem?
          intro i
          simp only [List.getElem?_mapIdx, List.getElem?_append, List.length_mapIdx]
          by_cases e : i < A1.length
          · simp [e]
          · simp only [e, if_false]
            by_cases e2 : i = A1.length
            · subst e2; simp [newC]
            · have : ∃ d, i - A1.length = d + 1 := ⟨i - A1.length - 1, by omega⟩
              obtain ⟨d, hd'⟩ := this
              rw [hd']; simp
        · by_cases e : i < A1.length
          · rw [List.getElem?_append_left e] at h1
            by_cases e2 : j < A1.length
            · rw [List.getElem?_append_left e2] at h2
              exact r.apart i j ci cj q h1 h2 h3 h4
            · have hj1 := (List.getElem?_eq_some_iff.1 h2).1
              have ek : j = A1.length := by simp at hj1; omega
              rw [ek, List.getElem?_append_right (Nat.le_refl _)] at h2
              simp only [Nat.sub_self, List.getElem?_cons_zero, Option.some.injEq] at h2
              subst h2; cases h4
          · have hj1 := (List.getElem?_eq_some_iff.1 h1).1
            have ek : i = A1.length := by simp at hj1; omega
            rw [ek, List.getElem?_append_right (Nat.le_refl _)] at h1
            simp only [Nat.sub_self, List.getElem?_cons_zero, Option.some.injEq] at h1
            subst h1; cases h3
end
end Go.Proofs.Ytkffpbnbjnadnaa
end

section
namespace Go.Proofs.Ytkffpbnbjnadnaa
open Go.Dec
section
variable {V : Type}
theorem mem_mapSet {x k : Int} {v : V} : ∀ {l : List (Int × V)}, x ∈ (mapSet l k v).map Prod.fst ↔ x = k ∨ x ∈ l.map Prod.fst
  | [] => by simp [mapSet]
  | y :: l => by
    simp only [mapSet]
    by_cases e : k = y.1
    · have e1 : (k == y.1) = true := by simpa using e
      rw [if_pos e1]
      simp [e]
    · have e1 : (k == y.1) = false := by simpa using e
      rw [e1]
      simp only [Bool.false_eq_true, if_false, List.map_cons, List.mem_cons, mem_mapSet (l := l)]
      constructor
      · rintro (h | h | h)
        · exact .inr (.inl h)
        · exact .inl h
        · exact .inr (.inr h)
      · rintro (h | h | h)
        · exact .inr (.inl h)
        · exact .inl h
        · exact .inr (.inr h)
def copyF (a l : List (Int × V)) : List (Int × V) := l.foldl (fun a x => mapSet a x.1 x.2) a
theorem copy_nodup : ∀ {l a : List (Int × V)}, (a.map Prod.fst).Nodup → ((copyF a l).map Prod.fst).Nodup
  | [], _, h => h
  | x :: l, a, h => copy_nodup (l := l) (a := mapSet a x.1 x.2) (mapSet_nodup h)
theorem mem_copy {x : Int} : ∀ {l a : List (Int × V)}, x ∈ (copyF a l).map Prod.fst ↔ x ∈ a.map Prod.fst ∨ x ∈ l.map Prod.fst
  | [], a => by simp [copyF]
  | y :: l, a => by
    have := mem_copy (x := x) (l := l) (a := mapSet a y.1 y.2)
    have e : copyF a (y :: l) = copyF (mapSet a y.1 y.2) l := rfl
    rw [e, this, mem_mapSet]
    simp only [List.map_cons, List.mem_cons]
    constructor
    · rintro ((h | h) | h)
      · exact .inr (.inl h)
      · exact .inl h
      · exact .inr (.inr h)
    · rintro (h | h | h)
      · exact .inl (.inr h)
      · exact .inl (.inl h)
      · exact .inr h
theorem copy_base : ∀ {l a a' : List (Int × V)}, a'.Perm a → (a.map Prod.fst).Nodup → (copyF a' l).Perm (copyF a l)
  | [], _, _, h, _ => h
  | _x :: l, _a, _a', h, hn => copy_base (l := l) (mapSet_perm h hn) (mapSet_nodup hn)
theorem mapSet_comm {a : List (Int × V)} {x y : Int} {u v : V} (hn : (a.map Prod.fst).Nodup) (h : x ≠ y) : (mapSet (mapSet a x u) y v).Perm (mapSet (mapSet a y v) x u) := by
  have h1 : (mapSet (mapSet a x u) y v).Perm ((y, v) :: (x, u) :: (a.filter (fun z => !(x == z.1))).filter (fun z => !(y == z.1))) := by
    refine (mapSet_filter (mapSet_nodup hn)).trans (.cons _ ?_)
    refine ((mapSet_filter hn).filter _).trans (.of_eq ?_)
    rw [List.filter_cons, if_pos (by simpa using h.symm)]
  have h2 : (mapSet (mapSet a y v) x u).Perm ((x, u) :: (y, v) :: (a.filter (fun z => !(y == z.1))).filter (fun z => !(x == z.1))) := by
    refine (mapSet_filter (mapSet_nodup hn)).trans (.cons _ ?_)
    refine ((mapSet_filter hn).filter _).trans (.of_eq ?_)
    rw [List.filter_cons, if_pos (by simpa using h)]
  refine h1.trans ((List.Perm.swap _ _ _).trans ?_)
  refine List.Perm.trans (.of_eq ?_) h2.symm
  congr 2
  rw [List.filter_filter, List.filter_filter]
  exact List.filter_congr fun z _ => Bool.and_comm _ _
theorem copy_perm {l l' : List (Int × V)} (h : l'.Perm l) : ∀ {a : List (Int × V)}, (a.map Prod.fst).Nodup → (l.map Prod.fst).Nodup → (copyF a l').Perm (copyF a l) := by
  induction h with
  | nil => intro a _ _; exact .refl _
  | cons x _ ih =>
    intro a ha hl
    simp only [List.map_cons, List.nodup_cons] at hl
    exact ih (mapSet_nodup ha) hl.2
  | swap x y l =>
    intro a ha hl
    simp only [List.map_cons, List.nodup_cons, List.mem_cons, not_or] at hl
    exact copy_base (mapSet_comm ha (fun e => hl.1.1 e.symm)) (mapSet_nodup (mapSet_nodup ha))
  | trans h1 h2 ih1 ih2 =>
    intro a ha hl
    exact (ih1 ha ((h2.map Prod.fst).nodup_iff.2 hl)).trans (ih2 ha hl)
end
theorem forL_copy {q j : Nat} (hq : q ≠ j) : ∀ (l : List (Int × Bool)) (s : FM) (lq : List (Int × Bool)), s[q]? = some lq → forL (b_maps_Copy_bool_1 (some q) j) l s = some (s.set q (copyF lq l))
  | [], s, lq, h => by
    have := set_back h
    simp only [forL, copyF, List.foldl_nil]
    rw [← this]
  | x :: l, s, lq, h => by
    have hlt := (List.getElem?_eq_some_iff.1 h).1
    have e : b_maps_Copy_bool_1 (some q) j x s = some (s.set q (mapSet lq x.1 x.2)) := by
      unfold b_maps_Copy_bool_1 neO
      simp only [Option.bind_some, if_neg hq, h, bindv]
    simp only [forL, e, Option.bind_some]
    rw [forL_copy hq l _ (mapSet lq x.1 x.2) (List.getElem?_set_self hlt), List.set_set]
    rfl
theorem copy_prog {A : FM} {q j : Nat} {lq lj : List (Int × Bool)} (hq : q ≠ j) (h1 : A[q]? = some lq) (h2 : A[j]? = some lj) (hn : (lq.map Prod.fst).Nodup) (hn2 : (lj.map Prod.fst).Nodup) : m_maps_Copy_bool A (some q) (some j) = some (A.set q (copyF lq lj)) := by
  unfold m_maps_Copy_bool
  simp only [Option.bind_some, h2]
  have hp : permE PermL (b_maps_Copy_bool_1 (some q) j) lj A = some (A.set q (copyF lq lj)) := by
    refine permE_of (forL_copy hq lj A lq h1) fun l' hl' => ⟨_, forL_copy hq l' A lq h1, by simp, fun i x y hx hy => ?_⟩
    have hlt := (List.getElem?_eq_some_iff.1 h1).1
    by_cases e : q = i
    · subst e
      rw [List.getElem?_set_self hlt] at hx hy
      cases hx; cases hy
      exact copy_perm hl' hn hn2
    · rw [List.getElem?_set_ne e] at hx hy
      rw [hx] at hy; cases hy; exact .refl _
  rw [hp, Option.bind_some]
  have : (A.set q (copyF lq lj))[j]? = some lj := by rw [List.getElem?_set_ne hq]; exact h2
  rw [← set_back this]
theorem least_doc (a u : CaskTimes) : m_cask_times_least a u = some ⟨imin a.age u.age, minN a.woods u.woods, minN a.places u.places⟩ := by
  obtain ⟨t1, ht1, hl1⟩ := loopM_upto (body := b_cask_times_least_1 u) (fun i (t : CaskTimes) => ((i : Int), t)) (fun t => t) (fun i t => t = { a with age := imin a.age u.age, woods := minI i a.woods u.woods }) 8
    (fun i t hi ht => by
      have hw : w64 ((i : Int) + 1) = ((i + 1 : Nat) : Int) := by rw [w64_id (by omega) (by omega)]; rfl
      have hm : (minI i a.woods u.woods) i = a.woods i := by unfold minI; rw [if_neg (by omega)]
      refine ⟨_, ?_, rfl⟩
      unfold b_cask_times_least_1
      rw [if_pos (by simp; omega), idxO_nat hi]
      simp only [Option.bind_some, bindv, hw, ht, hm]
      rw [minI_step])
    (fun t ht => by
      unfold b_cask_times_least_1
      rw [if_neg (by simp)]) 8 0 { a with age := imin a.age u.age } rfl (by rw [minI_0])
  obtain ⟨t2, ht2, hl2⟩ := loopM_upto (body := b_cask_times_least_2 u) (fun i (t : CaskTimes) => ((i : Int), t)) (fun t => t) (fun i t => t = { a with age := imin a.age u.age, woods := minN a.woods u.woods, places := minI i a.places u.places }) 8
    (fun i t hi ht => by
      have hw : w64 ((i : Int) + 1) = ((i + 1 : Nat) : Int) := by rw [w64_id (by omega) (by omega)]; rfl
      have hm : (minI i a.places u.places) i = a.places i := by unfold minI; rw [if_neg (by omega)]
      refine ⟨_, ?_, rfl⟩
      unfold b_cask_times_least_2
      rw [if_pos (by simp; omega), idxO_nat hi]
      simp only [Option.bind_some, bindv, hw, ht, hm]
      rw [minI_step])
    (fun t ht => by
      unfold b_cask_times_least_2
      rw [if_neg (by simp)]) 8 0 t1 rfl (by rw [ht1, minI_0]; rfl)
  unfold m_cask_times_least
  simp only [bindv]
  have h1 : loopM (b_cask_times_least_1 u) (0, { a with age := imin a.age u.age }) = some t1 := hl1
  have h2 : loopM (b_cask_times_least_2 u) (0, t1) = some t2 := hl2
  refine bind_of h1 (bind_of h2 ?_)
  rw [ht2]; rfl
end Go.Proofs.Ytkffpbnbjnadnaa
end

section
namespace Go.Proofs.Ytkffpbnbjnadnaa
open Go.Dec
theorem pour_prog {A1 : List CaskCask} {A3 : FM} {k j : Nat} {c : CaskCask} {h so : Held} {lj : List (Int × Bool)} {tm : CaskTimes} {n : Int} (hc : A1[k]? = some c) (hraw : h = rawOf c h.Fills) (hamt : 0 ≤ c.amount ∧ c.amount ≤ 1099511627776) (hn : 0 ≤ n ∧ n ≤ 1099511627776) (hfr : FR A3 c.fills h.Fills) (hne : 0 < c.amount → h.Fills ≠ [])
    (hj : A3[j]? = some lj) (hjn : (lj.map Prod.fst).Nodup) (hjF : ∀ x, x ∈ so.Fills ↔ x ∈ lj.map Prod.fst) (hq : c.fills ≠ some j) (ht : so.C.Age = tm.age ∧ so.C.Woods = tm.woods ∧ so.C.Places = tm.places) :
    ∃ c' A3', m_cask_cask_pour A1 A3 (some k) tm (some j) n = some (A1.set k c', A3') ∧ c'.number = c.number ∧ c'.since = c.since ∧ pourS h so n = rawOf c' (pourS h so n).Fills ∧ FR A3' c'.fills (pourS h so n).Fills ∧
      (∀ (q : Nat) lq, A3[q]? = some lq → c.fills ≠ some q → A3'[q]? = some lq) ∧ (c'.fills = c.fills ∨ c'.fills = some A3.length) := by
  have hk := (List.getElem?_eq_some_iff.1 hc).1
  have hca : h.C.Amount = c.amount := by rw [hraw]; rfl
  have hw : w64 (c.amount + n) = c.amount + n := w64_id (by omega) (by omega)
  unfold m_cask_cask_pour
  simp only [Option.bind_some, hc]
  by_cases e : (c.amount == 0) = true
  · have e' : (h.C.Amount == 0) = true := by rw [hca]; exact e
    refine ⟨{ c with times := tm, fills := some A3.length, amount := c.amount + n }, A3 ++ [lj], ?_, rfl, rfl, ?_, ?_, fun q lq h1 _ => ?_, .inr rfl⟩
    · simp only [e, if_true, m_maps_Clone_bool, cloneM, hj, Option.bind_some, bindv, List.set_set, List.getElem?_set_self hk, hw]
    · unfold pourS
      rw [if_pos e']
      rw [hraw]
      simp only [ht.1, ht.2.1, ht.2.2]
      rfl
    · unfold pourS
      rw [if_pos e']
      exact ⟨lj, by simp, hjn, hjF⟩
    · have := (List.getElem?_eq_some_iff.1 h1).1
      rw [List.getElem?_append_left this]; exact h1
  · have hpos : 0 < c.amount := by
      have : c.amount ≠ 0 := fun e0 => e (by simp [e0])
      omega
    have e' : ¬ (h.C.Amount == 0) = true := by rw [hca]; exact e
    cases hf : c.fills with
    | none => rw [hf] at hfr; exact absurd hfr (hne hpos)
    | some q =>
      rw [hf] at hfr
      obtain ⟨lq, hlq, hqn, hqF⟩ := hfr
      have hqj : q ≠ j := fun e0 => hq (by rw [hf, e0])
      have hql := (List.getElem?_eq_some_iff.1 hlq).1
      refine ⟨{ c with times := ⟨imin c.times.age tm.age, minN c.times.woods tm.woods, minN c.times.places tm.places⟩, amount := c.amount + n }, A3.set q (copyF lq lj), ?_, rfl, rfl, ?_, ?_, fun q' lq' h1 h2 => ?_, .inl hf⟩
      · simp only [e, if_false, Bool.false_eq_true, least_doc, Option.bind_some, bindv, hf, copy_prog hqj hlq hj hqn hjn, List.getElem?_set_self hk, List.set_set, hw]
      · unfold pourS
        rw [if_neg e']
        have h1 : h.C.Age = c.times.age := by rw [hraw]; rfl
        have h2 : h.C.Woods = c.times.woods := by rw [hraw]; rfl
        have h3 : h.C.Places = c.times.places := by rw [hraw]; rfl
        simp only [ht.1, ht.2.1, ht.2.2, h1, h2, h3]
        conv => lhs; rw [hraw]
        rfl
      · unfold pourS
        rw [if_neg e']
        show FR _ c.fills (uniS h.Fills so.Fills)
        rw [hf]
        refine ⟨copyF lq lj, List.getElem?_set_self hql, copy_nodup hqn, fun x => ?_⟩
        rw [mem_uniS, mem_copy, hqF, hjF]
      · rw [List.getElem?_set_ne (fun e0 => h2 (by rw [e0]))]; exact h1
section
variable {t : Int} {n : Nat} {all : List Held} {A1 : List CaskCask} {A3 : FM} {m : List (Int × Option Nat)} {b : CaskBook} {x : Ev}
theorem fr_lt {A3 : FM} {q : Nat} {F : List Int} (h : FR A3 (some q) F) : q < A3.length := by
  obtain ⟨l, h1, _⟩ := h; exact (List.getElem?_eq_some_iff.1 h1).1
theorem fill_prog (r : PR t n all A1 A3 m) (ho : AOk t n all) (h0 : 0 ≤ t) (ht : t ≤ 65536) (hb : b.casks = some 0) (hbe : b.event = n) (hv : evB x = true) (hk : x.Kind = 1) (hd : x.Day = t) : Does t n (doS all x n) (m_cask_book_fill A1 [b] A3 [m] (some 0) x) := by
  unfold m_cask_book_fill doS
  rw [if_neg (by rw [hk]; decide), hd]
  rcases find_prog (num := x.Cask) r (by omega) hb with ⟨hf, hm⟩ | ⟨k, h, c, hf, hh, hnum, hr, hc, hs, hraw, hok, hm⟩
  · rw [hf, hm]; exact ⟨rfl, by decide⟩
  · rw [hf, hm]
    simp only [hh, bindX, Option.bind_some, hc, bindv]
    have hact : actS all k h x n = fillD all k h x n := by unfold actS; rw [hk]; rfl
    rw [hact]
    have hcr := hr.each k c h hc hh
    have hca : h.C.Amount = c.amount := by rw [hraw]; rfl
    have hcro : h.C.Room = c.room := by rw [hraw]; rfl
    have hamt := hok.amt
    have hroom := hok.room
    rw [hca, hcro] at hamt
    rw [hcro] at hroom
    have ha := evAmt hv (.inl hk)
    have hw : w64 (c.amount + x.Amount) = c.amount + x.Amount := w64_id (by omega) (by omega)
    have hokd := fun l' (hl' : fillD all k h x n = .inl l') => fill_ok ho h0 hh ha.1 hl'
    unfold fillD at hokd ⊢
    rw [hca, hcro] at hokd ⊢
    rw [hw]
    by_cases h1 : c.amount + x.Amount > c.room
    · have e : decide (c.amount + x.Amount ≤ c.room) = false := decide_eq_false (by omega)
      simp only [h1, e, if_true]
      exact ⟨rfl, by decide⟩
    · have e : decide (c.amount + x.Amount ≤ c.room) = true := decide_eq_true (by omega)
      simp only [h1, if_false] at hokd
      simp only [h1, e, if_false]
      have hnew := hokd _ rfl
      have hql : ∀ q, c.fills = some q → q < A3.length := fun q hq => fr_lt (by rw [← hq]; exact hcr.fills)
      have hfr' : FR (A3 ++ [[((n : Int), true)]]) c.fills h.Fills := hcr.fills.keep fun q hq => List.getElem?_append_left (hql q hq)
      obtain ⟨c', A3', hp, hp1, hp2, hp3, hp4, hp5, hp6⟩ := pour_prog (A3 := A3 ++ [[((n : Int), true)]]) (j := A3.length) (lj := [((n : Int), true)]) (so := fillS n) (tm := ⟨0, zN, zN⟩) (n := x.Amount) hc hraw (by omega) (by omega) hfr' (fun hp => by rw [← hca] at hp; exact hok.some hp)
        (by simp) (by simp) (fun y => by simp [fillS]) (fun e => by have := hql _ e; omega) ⟨rfl, rfl, rfl⟩
      have hmod : m_cask_cask_pour (A1.set k c) (A3 ++ [mapSet [] b.event true]) (some k) (CaskTimes.mk 0 (fun _ => 0) (fun _ => 0)) (some A3.length) x.Amount = some ((A1.set k c).set k c', A3') := by rw [hbe]; exact hp
      have hmem : pourS h (fillS n) x.Amount ∈ all.set k (pourS h (fillS n) x.Amount) := List.mem_of_getElem? (List.getElem?_set_self (List.getElem?_eq_some_iff.1 hh).1)
      have hho := hnew.each _ hmem
      have hres : Does t n (.inl (all.set k (pourS h (fillS n) x.Amount))) (some (.ok ((A1.set k c).set k c', A3', [m]))) := by
        refine ⟨_, _, _, rfl, ?_⟩
        refine hr.set hc hh hp1 ?_ (fun i ci hi hne h1 h2 => ?_) (fun i ci q hne h1 h2 h3 => ?_)
        · rw [hp3]
          refine CR.of_raw h0 (by rw [hp2]; exact hs) (by rw [← hp3]; exact hho) ?_
          exact hp4
        · have hci := (hr.each i ci hi h1 h2).up
          refine ⟨hci.since, hci.ok, hci.eq, hci.fills.keep fun q hq => ?_⟩
          have hq2 := hci.fills
          rw [hq] at hq2
          obtain ⟨lq, g1, _⟩ := hq2
          have hql2 := (List.getElem?_eq_some_iff.1 g1).1
          rw [g1]
          exact hp5 q lq (by rw [List.getElem?_append_left hql2]; exact g1) (fun e => hne (hr.apart i k ci c q h1 hc hq e))
        · have hci := (hr.each i ci _ h1 (List.getElem?_eq_getElem (show i < all.length by rw [← hr.len]; exact (List.getElem?_eq_some_iff.1 h1).1))).fills
          rw [h2] at hci
          have := fr_lt hci
          rcases hp6 with hp6 | hp6
          · rw [hp6] at h3; exact hne (hr.apart i k ci c q h1 hc h2 h3)
          · rw [hp6] at h3
            simp only [Option.some.injEq, List.length_append, List.length_cons, List.length_nil] at h3
            omega
      show Does t n _ ((m_cask_cask_pour (A1.set k c) (A3 ++ [mapSet [] b.event true]) (some k) (CaskTimes.mk 0 (fun _ => 0) (fun _ => 0)) (some A3.length) x.Amount).bind fun r_106 => some (.ok (r_106.1, r_106.2, [m])))
      rw [hmod, Option.bind_some]
      exact hres
theorem rack_prog (r : PR t n all A1 A3 m) (ho : AOk t n all) (h0 : 0 ≤ t) (ht : t ≤ 65536) (hb : b.casks = some 0) (hv : evB x = true) (hk : x.Kind = 2) (hd : x.Day = t) : Does t n (doS all x n) (m_cask_book_rack A1 [b] A3 [m] (some 0) x) := by
  unfold m_cask_book_rack doS
  rw [if_neg (by rw [hk]; decide), hd]
  rcases find_prog (num := x.Cask) r (by omega) hb with ⟨hf, hm⟩ | ⟨i, h, c, hf, hh, hnum, hr, hc, hs, hraw, hok, hm⟩
  · rw [hf, hm]; exact ⟨rfl, by decide⟩
  · rw [hf, hm]
    have hact : actS all i h x n = rackD all i h x := by unfold actS; rw [hk]; rfl
    simp only [hh, hact]
    have hokd := fun l' (ha : 1 ≤ x.Amount) (hl' : rackD all i h x = .inl l') => rack_ok ho h0 hh ha hl'
    have ha := evAmt hv (.inr (.inl hk))
    have hokd := fun l' => hokd l' ha.1
    unfold rackD at hokd ⊢
    simp only [bindX]
    rcases find_prog (num := x.Other) hr (by omega) hb with ⟨hf2, hm2⟩ | ⟨k, ho2, o, hf2, hho, hnum2, hr2, hoc, hos, horaw, hook, hm2⟩
    · rw [hf2, hm2]; exact ⟨rfl, by decide⟩
    · rw [hf2, hm2]
      rw [hf2] at hokd
      simp only [hho] at hokd ⊢
      have hil : i < A1.length := by have := (List.getElem?_eq_some_iff.1 hc).1; simpa using this
      by_cases hik : i = k
      ·
        subst hik
        have hc2 : ((A1.set i c).set i o)[i]? = some o := hoc
        simp only [Option.bind_some, hc2]
        have e1 : (i != i) = false := by simp
        have e2 : (i == i) = true := by simp
        unfold rackD2
        simp only [e1, e2, if_true]
        exact ⟨rfl, by decide⟩
      · have hc2 : ((A1.set i c).set k o)[i]? = some c := by rw [List.getElem?_set_ne (fun e => hik e.symm)]; exact hc
        simp only [Option.bind_some, hc2, hoc]
        have e1 : (i != k) = true := by simpa using hik
        have e2 : (i == k) = false := by simpa using hik
        have hcr := hr2.each i c h hc2 hh
        have hor := hr2.each k o ho2 hoc hho
        have a1 : h.C.Owner = c.owner := by rw [hraw]; rfl
        have a2 : h.C.Creditor = c.creditor := by rw [hraw]; rfl
        have a3 : h.C.Amount = c.amount := by rw [hraw]; rfl
        have b1 : ho2.C.Owner = o.owner := by rw [horaw]; rfl
        have b2 : ho2.C.Creditor = o.creditor := by rw [horaw]; rfl
        have b3 : ho2.C.Amount = o.amount := by rw [horaw]; rfl
        have b4 : ho2.C.Room = o.room := by rw [horaw]; rfl
        have camt := hok.amt
        have croom := hok.room
        have ccred := hok.cred
        have oamt := hook.amt
        have oroom := hook.room
        have ocred := hook.cred
        rw [a2] at ccred; rw [b2] at ocred; rw [b3, b4] at oamt; rw [b4] at oroom; rw [a3] at camt
        unfold rackD2 at hokd ⊢
        rw [a1, a2, a3, b1, b2, b3, b4] at hokd ⊢
        simp only [e1, e2, Bool.false_eq_true, if_false, creq ccred.1, creq ocred.1] at hokd ⊢
        have n11 : m_cask_need false 11 = some (.pan ⟨11⟩) := rfl
        have n0 : ∀ e, m_cask_need true e = some (.ok ()) := fun _ => rfl
        have nf : ∀ e, m_cask_need false e = some (.pan ⟨e⟩) := fun _ => rfl
        by_cases c1 : c.owner = o.owner
        · have f1 : (c.owner == o.owner) = true := by simpa using c1
          have f2 : (c.owner != o.owner) = false := by simpa using c1
          simp only [f1, f2, if_true, Bool.false_or, n0] at hokd ⊢
          by_cases c2 : c.creditor ≥ 0
          · simp only [c2, decide_true, Bool.not_true, Bool.true_or, if_true, Bool.false_eq_true, if_false, nf, Option.bind_some]
            exact ⟨rfl, by decide⟩
          · simp only [c2, decide_false, Bool.not_false, Bool.false_or, if_true] at hokd ⊢
            by_cases c3 : o.creditor ≥ 0
            · simp only [c3, decide_true, Bool.not_true, if_true, nf, Option.bind_some]
              exact ⟨rfl, by decide⟩
            · simp only [c3, decide_false, Bool.not_false, n0, Option.bind_some, Bool.false_eq_true, if_false] at hokd ⊢
              by_cases c4 : c.amount < x.Amount
              · have g1 : decide (c.amount ≥ x.Amount) = false := decide_eq_false (by omega)
                simp only [c4, g1, if_true, nf]
                exact ⟨rfl, by decide⟩
              · have g1 : decide (c.amount ≥ x.Amount) = true := decide_eq_true (by omega)
                simp only [c4, g1, if_false, n0] at hokd ⊢
                have hw : w64 (o.amount + x.Amount) = o.amount + x.Amount := w64_id (by omega) (by omega)
                rw [hw]
                by_cases c5 : o.amount + x.Amount > o.room
                · have g2 : decide (o.amount + x.Amount ≤ o.room) = false := decide_eq_false (by omega)
                  simp only [c5, g2, if_true, nf]
                  exact ⟨rfl, by decide⟩
                · have g2 : decide (o.amount + x.Amount ≤ o.room) = true := decide_eq_true (by omega)
                  simp only [c5, g2, if_false, n0] at hokd ⊢
                  have hnew := hokd _ rfl
                  have hcf := hcr.fills
                  cases hfc : c.fills with
                  | none =>
                    rw [hfc] at hcf
                    exact absurd hcf (hok.some (by rw [a3]; omega))
                  | some j =>
                    rw [hfc] at hcf
                    obtain ⟨lj, hj, hjn, hjF⟩ := hcf
                    obtain ⟨o', A3', hp, hp1, hp2, hp3, hp4, hp5, hp6⟩ := pour_prog (A3 := A3) (j := j) (lj := lj) (so := h) (tm := c.times) (n := x.Amount) hoc horaw (by omega) (by omega) hor.fills (fun hp => by rw [← b3] at hp; exact hook.some hp)
                      hj hjn hjF (fun e => hik (hr2.apart i k c o j hc2 hoc hfc e)) ⟨by rw [hraw]; rfl, by rw [hraw]; rfl, by rw [hraw]; rfl⟩
                    have hc3 : (((A1.set i c).set k o).set k o')[i]? = some c := by rw [List.getElem?_set_ne (fun e => hik e.symm)]; exact hc2
                    rw [hp, Option.bind_some]
                    simp only
                    rw [draw_prog hc3 (by omega) (by omega), Option.bind_some]
                    have hjl : j < A3.length := (List.getElem?_eq_some_iff.1 hj).1
                    have hkall := (List.getElem?_eq_some_iff.1 hho).1
                    have hmem : pourS ho2 h x.Amount ∈ (all.set k (pourS ho2 h x.Amount)).set i (lessS h x.Amount) := List.mem_of_getElem? (i := k) (by rw [List.getElem?_set_ne hik]; exact List.getElem?_set_self hkall)
                    have hho' := hnew.each _ hmem
                    have hlmem : lessS h x.Amount ∈ (all.set k (pourS ho2 h x.Amount)).set i (lessS h x.Amount) := List.mem_of_getElem? (i := i) (List.getElem?_set_self (by simpa using (List.getElem?_eq_some_iff.1 hh).1))
                    have hlok := hnew.each _ hlmem
                    have hpr : PR t (n + 1) (all.set k (pourS ho2 h x.Amount)) (((A1.set i c).set k o).set k o') A3' m := by
                      refine hr2.set hoc hho hp1 ?_ (fun i' ci hi hne h1 h2 => ?_) (fun i' ci q hne h1 h2 h3 => ?_)
                      · rw [hp3]
                        refine CR.of_raw h0 (by rw [hp2]; exact hos) (by rw [← hp3]; exact hho') ?_
                        exact hp4
                      · have hci := (hr2.each i' ci hi h1 h2).up
                        refine ⟨hci.since, hci.ok, hci.eq, hci.fills.keep fun q hq => ?_⟩
                        have hq2 := hci.fills
                        rw [hq] at hq2
                        obtain ⟨lq, g1', _⟩ := hq2
                        rw [g1']
                        exact hp5 q lq g1' (fun e => hne (hr2.apart i' k ci o q h1 hoc hq e))
                      · have hci := (hr2.each i' ci _ h1 (List.getElem?_eq_getElem (show i' < all.length by rw [← hr2.len]; exact (List.getElem?_eq_some_iff.1 h1).1))).fills
                        rw [h2] at hci
                        have hlt := fr_lt hci
                        rcases hp6 with hp6 | hp6
                        · rw [hp6] at h3; exact hne (hr2.apart i' k ci o q h1 hoc h2 h3)
                        · rw [hp6] at h3
                          simp only [Option.some.injEq] at h3
                          omega
                    refine ⟨_, _, _, rfl, ?_⟩
                    have hh3 : (all.set k (pourS ho2 h x.Amount))[i]? = some h := by rw [List.getElem?_set_ne (fun e => hik e.symm)]; exact hh
                    have hcr3 := hpr.each i c h hc3 hh3
                    have hls : lessS h x.Amount = rawOf (drawC c x.Amount) (lessS (rawOf c h.Fills) x.Amount).Fills := by rw [← raw_draw, ← hraw]
                    refine hpr.set hc3 hh3 draw_number ?_ (fun i' ci hi _ h1 h2 => hpr.each i' ci hi h1 h2) (fun i' ci q hne h1 h2 h3 => ?_)
                    · rw [hls]
                      refine CR.of_raw h0 (by rw [draw_since]; exact hs) (by rw [← hls]; exact hlok) (draw_FR hcr3.fills)
                    · rcases draw_fills (c := c) (n := x.Amount) with e | e
                      · rw [e] at h3; exact hne (hpr.apart i' i ci c q h1 hc3 h2 h3)
                      · rw [e] at h3; cases h3
        · have f1 : (c.owner == o.owner) = false := by simpa using c1
          have f2 : (c.owner != o.owner) = true := by simpa using c1
          simp only [f1, f2, if_true, Bool.true_or, Bool.false_eq_true, if_false, n0, nf, Option.bind_some]
          exact ⟨rfl, by decide⟩
end
end Go.Proofs.Ytkffpbnbjnadnaa
end

section
namespace Go.Proofs.Ytkffpbnbjnadnaa
open Go.Dec
theorem Event_prog (x : Ev) : m_cask_isEvent x = some (evB x) := by
  have e : ∀ n a b, m_cask_within n a b = inB n a b := fun _ _ _ => rfl
  unfold m_cask_isEvent m_cask_isNumber m_cask_isWood m_cask_isPlace m_cask_isAmount m_cask_isPerson evB
  simp only [e]
  cases h1 : inB x.Day 0 65536 with
  | false => simp
  | true =>
    cases h2 : inB x.Cask 0 1073741824 with
    | false => simp
    | true =>
      simp only [Bool.not_true, Bool.or_self, Bool.false_eq_true, if_false, Bool.true_and]
      by_cases k0 : (x.Kind == 0) = true
      · rw [if_pos k0, if_pos k0]
      · rw [if_neg k0, if_neg k0]
        by_cases k1 : (x.Kind == 1) = true
        · simp [k1]
        · simp only [Bool.not_eq_true] at k1
          by_cases k3 : (x.Kind == 3) = true
          · simp [k1, k3]
          · simp only [Bool.not_eq_true] at k3
            simp only [k1, k3, Bool.or_self, Bool.false_eq_true, if_false, Option.bind_some]
            by_cases k2 : (x.Kind == 2) = true
            · rw [if_pos k2, if_pos k2]
            · rw [if_neg k2, if_neg k2]
              by_cases k4 : (x.Kind == 4) = true
              · rw [if_pos k4, if_pos k4]
              · rw [if_neg k4, if_neg k4]
                by_cases k5 : (x.Kind == 5) = true
                · simp [k5]
                · simp only [Bool.not_eq_true] at k5
                  by_cases k6 : (x.Kind == 6) = true
                  · simp [k5, k6]
                  · simp only [Bool.not_eq_true] at k6
                    simp only [k5, k6, Bool.or_self, Bool.false_eq_true, if_false, Option.bind_some]
                    by_cases k7 : (x.Kind == 7) = true
                    · rw [if_pos k7, if_pos k7]
                    · rw [if_neg k7, if_neg k7]
                      by_cases k8 : (x.Kind == 8) = true
                      · rw [if_pos k8, if_pos k8]
                      · rw [if_neg k8, if_neg k8]
abbrev Deed := ((List CaskCask) × (List CaskBook) × FM × (List (List (Int × (Option Nat)))) × (Option Nat) × Ev) → Option (Out CaskMisfit ((List CaskCask) × FM × (List (List (Int × (Option Nat))))))
theorem deeds_some : ∃ D : List (Int × Deed), m_cask_deeds = some D ∧ ∀ (x : Ev), evB x = true → ∃ f, mapGet D x.Kind = some f ∧
    ∀ {t : Int} {n : Nat} {all : List Held} {A1 : List CaskCask} {A3 : FM} {m : List (Int × Option Nat)} {b : CaskBook}, PR t n all A1 A3 m → AOk t n all → 0 ≤ t → t ≤ 65536 → b.casks = some 0 → b.event = n → x.Day = t → Does t n (doS all x n) (f (A1, [b], A3, [m], some 0, x)) := by
  refine ⟨_, rfl, fun x hv => ?_⟩
  rcases kinds hv with k | k | k | k | k | k | k | k | k <;> rw [k]
  · exact ⟨_, rfl, fun r ho h0 ht hb _ hd => build_prog r ho h0 hb hv k hd⟩
  · exact ⟨_, rfl, fun r ho h0 ht hb hbe hd => fill_prog r ho h0 ht hb hbe hv k hd⟩
  · exact ⟨_, rfl, fun r ho h0 ht hb _ hd => rack_prog r ho h0 ht hb hv k hd⟩
  · exact ⟨_, rfl, fun r _ h0 ht hb _ hd => drain_prog r h0 ht hb hv k hd⟩
  · exact ⟨_, rfl, fun r _ h0 ht hb _ hd => carry_prog r h0 ht hb hv k hd⟩
  · exact ⟨_, rfl, fun r _ h0 ht hb _ hd => sell_prog r h0 ht hb hv k hd⟩
  · exact ⟨_, rfl, fun r _ h0 ht hb _ hd => pledge_prog r h0 ht hb hv k hd⟩
  · exact ⟨_, rfl, fun r _ h0 ht hb _ hd => free_prog r h0 ht hb hv k hd⟩
  · exact ⟨_, rfl, fun r _ h0 ht hb _ hd => char_prog r h0 ht hb hv k hd⟩
section
variable {D : List (Int × Deed)}
def DeedsOK (D : List (Int × Deed)) : Prop := ∀ (x : Ev), evB x = true → ∃ f, mapGet D x.Kind = some f ∧
    ∀ {t : Int} {n : Nat} {all : List Held} {A1 : List CaskCask} {A3 : FM} {m : List (Int × Option Nat)} {b : CaskBook}, PR t n all A1 A3 m → AOk t n all → 0 ≤ t → t ≤ 65536 → b.casks = some 0 → b.event = n → x.Day = t → Does t n (doS all x n) (f (A1, [b], A3, [m], some 0, x))
theorem step_prog (hD : DeedsOK D) {l : List Ev} {day : Int} {n : Nat} {s : Cur} {x : Ev} {A1 : List CaskCask} {A3 : FM} {m : List (Int × Option Nat)} {b : CaskBook} (hx : l[n]? = some x) (hn : n ≤ 4096) (ho : SOk n s) (hr : PR s.last n s.all A1 A3 m) (hb : b.casks = some 0) (hd : x.Day ≤ day) :
    match stepS n s x with
    | .inl s' => ∃ A1' A3' m', b_cask_play_1 l day D ((n : Int), s.last, A1, [b], A3, [m]) = some (.next (((n + 1 : Nat) : Int), s'.last, A1', [⟨some 0, n⟩], A3', [m'])) ∧ PR s'.last (n + 1) s'.all A1' A3' m'
    | .inr e => b_cask_play_1 l day D ((n : Int), s.last, A1, [b], A3, [m]) = some (.done (.inr (⟨e⟩, (n : Int), 0, some 0))) ∧ e ≠ 0 := by
  have hnl : n < l.length := (List.getElem?_eq_some_iff.1 hx).1
  have hw : w64 ((n : Int) + 1) = ((n + 1 : Nat) : Int) := by rw [w64_id (by omega) (by omega)]; rfl
  have h1 : decide ((n : Int) < (l.length : Int)) = true := decide_eq_true (by omega)
  have nt : ∀ e, m_cask_need true e = some (.ok ()) := fun _ => rfl
  have nf : ∀ e, m_cask_need false e = some (.pan ⟨e⟩) := fun _ => rfl
  unfold b_cask_play_1 stepS
  simp only [h1, if_true, idxL_nat, hx, Option.bind_some, hd, decide_true, Event_prog]
  cases hv : evB x with
  | false =>
    simp only [Bool.not_false, if_true, nf, bindX]
    exact ⟨trivial, by decide⟩
  | true =>
    simp only [Bool.not_true, Bool.false_eq_true, if_false, nt, bindX]
    by_cases hlt : x.Day < s.last
    · have e : decide (x.Day ≥ s.last) = false := decide_eq_false (by omega)
      simp only [hlt, e, if_true, nf]
      exact ⟨trivial, by decide⟩
    · have e : decide (x.Day ≥ s.last) = true := decide_eq_true (by omega)
      simp only [hlt, e, if_false, nt]
      have hday := evD hv
      have hsd := ho.day
      obtain ⟨f, hf, hdo⟩ := hD x hv
      have hok := older_all ho.ok (n := x.Day - s.last) (by omega)
      have e0 : s.last + (x.Day - s.last) = x.Day := by omega
      rw [e0] at hok
      have hdoes := hdo (b := ⟨some 0, (n : Int)⟩) (hr.shift (t' := x.Day) (by omega)) hok hday.1 hday.2 rfl rfl rfl
      have hbk : ({ b with event := (n : Int) } : CaskBook) = ⟨some 0, n⟩ := by rw [← hb]
      simp only [List.getElem?_cons_zero, Option.bind_some, bindv, List.set_cons_zero, hbk, hf]
      cases hds : doS (s.all.map (olderS (x.Day - s.last))) x n with
      | inl all' =>
        rw [hds] at hdoes
        obtain ⟨A1', A3', m', h2, h3⟩ := hdoes
        rw [h2]
        simp only [hw]
        exact ⟨A1', A3', m', rfl, h3⟩
      | inr er =>
        rw [hds] at hdoes
        obtain ⟨h2, h3⟩ := hdoes
        rw [h2]
        exact ⟨rfl, h3⟩
theorem stop_prog {l : List Ev} {day : Int} {n : Nat} {last : Int} {A1 : List CaskCask} {A2 : List CaskBook} {A3 : FM} {A4 : List (List (Int × Option Nat))} (h : ∀ x, l[n]? = some x → ¬ x.Day ≤ day) (hn : n ≤ l.length) :
    b_cask_play_1 l day D ((n : Int), last, A1, A2, A3, A4) = some (.done (.inl ((n : Int), A1, A2, A3, A4))) := by
  unfold b_cask_play_1
  cases hx : l[n]? with
  | none =>
    have : ¬ (n : Int) < (l.length : Int) := by
      have := List.getElem?_eq_none_iff.1 hx; omega
    simp [this]
  | some x =>
    have hnl : n < l.length := (List.getElem?_eq_some_iff.1 hx).1
    have h1 : decide ((n : Int) < (l.length : Int)) = true := decide_eq_true (by omega)
    have h2 : decide (x.Day ≤ day) = false := decide_eq_false (h x hx)
    simp only [h1, if_true, idxL_nat, hx, Option.bind_some, h2, Bool.false_eq_true, if_false]
theorem loop_prog (hD : DeedsOK D) {l : List Ev} {day : Int} (hl : l.length ≤ 4096) : ∀ (post pre : List Ev) (s : Cur) (A1 : List CaskCask) (A3 : FM) (m : List (Int × Option Nat)) (b : CaskBook), l = pre ++ post → SOk pre.length s → PR s.last pre.length s.all A1 A3 m → b.casks = some 0 →
    match goS day post pre.length s with
    | (.inl s', k) => ∃ A1' A3' m' b', loopM (b_cask_play_1 l day D) ((pre.length : Int), s.last, A1, [b], A3, [m]) = some (.inl ((k : Int), A1', [b'], A3', [m'])) ∧ PR s'.last k s'.all A1' A3' m' ∧ b'.casks = some 0
    | (.inr e, k) => loopM (b_cask_play_1 l day D) ((pre.length : Int), s.last, A1, [b], A3, [m]) = some (.inr (⟨e⟩, (k : Int), 0, some 0)) ∧ e ≠ 0
  | [], pre, s, A1, A3, m, b, e, ho, hr, hb => by
    simp only [goS]
    refine ⟨A1, A3, m, b, ?_, hr, hb⟩
    rw [loopM_eq, stop_prog (fun x hx => by rw [e] at hx; simp at hx) (by rw [e]; simp)]
  | x :: post, pre, s, A1, A3, m, b, e, ho, hr, hb => by
    have hx : l[pre.length]? = some x := getEl_mid e
    have hn : pre.length ≤ 4096 := by have := lt_mid e; omega
    rw [loopM_eq]
    by_cases hd : x.Day ≤ day
    · have hst := step_prog hD hx hn ho hr hb hd
      simp only [goS, hd, if_true]
      cases hs : stepS pre.length s x with
      | inl s' =>
        rw [hs] at hst
        obtain ⟨A1', A3', m', h1, h2⟩ := hst
        rw [h1]
        have ih := loop_prog hD (day := day) hl post (pre ++ [x]) s' A1' A3' m' ⟨some 0, (pre.length : Int)⟩ (by rw [e]; simp) (by simpa using (step_ok ho hs).1) (by simpa using h2) rfl
        simpa using ih
      | inr er =>
        rw [hs] at hst
        rw [hst.1]
        exact ⟨rfl, hst.2⟩
    · rw [stop_prog (fun y hy => by rw [hx] at hy; cases hy; exact hd) (by have := lt_mid e; omega)]
      simp only [goS, hd, if_false]
      exact ⟨A1, A3, m, b, rfl, hr, hb⟩
end
end Go.Proofs.Ytkffpbnbjnadnaa
end

section
namespace Go.Proofs.Ytkffpbnbjnadnaa
open Go.Dec
section
variable {t day : Int} {n : Nat} {all : List Held} {A1 : List CaskCask} {A3 : FM} {m : List (Int × Option Nat)}
theorem forL_rest (hday : day ≤ 1000000) (hok : ∀ (k : Nat) (c : CaskCask), A1[k]? = some c → 0 ≤ c.since ∧ c.since ≤ day ∧ ∃ F, HOk c.since n (rawOf c F)) : ∀ (L : List (Int × Option Nat)) (s : List CaskCask), (∀ e ∈ L, ∃ k, e.2 = some k ∧ k < A1.length) → (L.map Prod.snd).Nodup → s.length = A1.length → (∀ k, some k ∈ L.map Prod.snd → s[k]? = A1[k]?) →
    ∃ s', forL (b_cask_play_2 day) L s = some s' ∧ s'.length = A1.length ∧ ∀ i : Nat, s'[i]? = if some i ∈ L.map Prod.snd then (A1[i]?).map (restC day) else s[i]?
  | [], s, _, _, hl, _ => ⟨s, rfl, hl, fun i => by simp⟩
  | e :: L, s, hE, hN, hl, hs => by
    obtain ⟨k, hk, hkl⟩ := hE e (by simp)
    have hN' : some k ∉ L.map Prod.snd ∧ (L.map Prod.snd).Nodup := by
      have := List.nodup_cons.1 hN
      rw [hk] at this; exact this
    have hc : A1[k]? = some A1[k] := List.getElem?_eq_getElem hkl
    have hsk : s[k]? = some A1[k] := by rw [hs k (by simp [hk])]; exact hc
    obtain ⟨h0, h1, F, hF⟩ := hok k _ hc
    have hb : b_cask_play_2 day e s = some (s.set k (restC day A1[k])) := by
      unfold b_cask_play_2
      rw [hk, rest_prog hsk hF h0 h1 hday]
      rfl
    obtain ⟨s', g1, g2, g3⟩ := forL_rest hday hok L (s.set k (restC day A1[k])) (fun e' he' => hE e' (List.mem_cons_of_mem _ he')) hN'.2 (by simpa using hl) (fun k' hk' => by
      have hne : k ≠ k' := fun e' => hN'.1 (by rw [e']; exact hk')
      rw [List.getElem?_set_ne hne]
      exact hs k' (by rw [List.map_cons]; exact List.mem_cons_of_mem _ hk'))
    refine ⟨s', by simp only [forL, hb, Option.bind_some]; exact g1, g2, fun i => ?_⟩
    rw [g3 i]
    by_cases hi : some i ∈ L.map Prod.snd
    · rw [if_pos hi, if_pos (by rw [List.map_cons]; exact List.mem_cons_of_mem _ hi)]
    · rw [if_neg hi]
      by_cases e' : k = i
      · subst e'
        rw [List.getElem?_set_self (by rw [hl]; exact hkl), if_pos (by simp [hk]), hc]
        rfl
      · rw [List.getElem?_set_ne e', if_neg]
        rw [List.map_cons, List.mem_cons, hk]
        rintro (h | h)
        · exact e' (by simpa using h.symm)
        · exact hi h
theorem rest_all (r : PR t n all A1 A3 m) (hd : t ≤ day) (hday : day ≤ 65536) : permM (b_cask_play_2 day) m A1 = some (A1.map (restC day)) ∧ PR day n (all.map (olderS (day - t))) (A1.map (restC day)) A3 m ∧ ∀ c ∈ A1.map (restC day), c.since = day := by
  have hlook : ∀ (k : Nat) (c : CaskCask), A1[k]? = some c → ∃ h, all[k]? = some h ∧ CR t n A3 c h := fun k c hc => by
    have hk : k < all.length := by rw [← r.len]; exact (List.getElem?_eq_some_iff.1 hc).1
    exact ⟨all[k], List.getElem?_eq_getElem hk, r.each k c _ hc (List.getElem?_eq_getElem hk)⟩
  have hsnd : m.map Prod.snd = (List.range A1.length).map some := by
    rw [r.map]
    apply List.ext_getElem?
    intro i
    simp only [List.getElem?_map, List.getElem?_mapIdx]
    by_cases h : i < A1.length
    · simp [h]
    · simp [h]
  refine ⟨permM_of fun l' hl' => ?_, ⟨by simp [r.len], fun k c h hc hh => ?_, ?_, fun i j ci cj q h1 h2 h3 h4 => ?_⟩, fun c hc => ?_⟩
  · have hp := hl'.map Prod.snd
    have hmem : ∀ o, o ∈ l'.map Prod.snd ↔ ∃ i, i < A1.length ∧ o = some i := fun o => by
      rw [hp.mem_iff, hsnd]
      simp only [List.mem_map, List.mem_range]
      exact ⟨fun ⟨i, h1, h2⟩ => ⟨i, h1, h2.symm⟩, fun ⟨i, h1, h2⟩ => ⟨i, h1, h2.symm⟩⟩
    obtain ⟨s', g1, g2, g3⟩ := forL_rest (day := day) (A1 := A1) (n := n) (by omega) (fun k c hc => by
      obtain ⟨h, _, hcr⟩ := hlook k c hc
      exact ⟨hcr.since.1, by have := hcr.since.2; omega, _, hcr.ok⟩) l' A1 (fun e he => by
        obtain ⟨i, h1, h2⟩ := (hmem e.2).1 (List.mem_map_of_mem he)
        exact ⟨i, h2, h1⟩) (hp.nodup_iff.2 (by rw [hsnd]; exact List.nodup_range.map _ (fun a b hab e => hab (by simpa using e)))) rfl (fun _ _ => rfl)
    rw [g1]
    congr 1
    apply List.ext_getElem?
    intro i
    rw [g3 i, List.getElem?_map]
    by_cases h : i < A1.length
    · rw [if_pos ((hmem _).2 ⟨i, h, rfl⟩)]
    · rw [if_neg (fun h' => by
        obtain ⟨i', h1, h2⟩ := (hmem _).1 h'
        simp only [Option.some.injEq] at h2
        omega), List.getElem?_eq_none (by omega)]
      rfl
  · rw [List.getElem?_map] at hc hh
    cases h1 : A1[k]? with
    | none => rw [h1] at hc; cases hc
    | some c0 =>
      obtain ⟨h0, h2, hcr⟩ := hlook k c0 h1
      rw [h1] at hc; rw [h2] at hh
      simp only [Option.map_some, Option.some.injEq] at hc hh
      subst hc; subst hh
      exact (hcr.shift hd).rest
  · rw [r.map]
    apply List.ext_getElem?
    intro i
    simp only [List.getElem?_mapIdx, List.getElem?_map]
    cases A1[i]? with
    | none => rfl
    | some c => simp [rest_number]
  · rw [List.getElem?_map] at h1 h2
    cases g1 : A1[i]? with
    | none => rw [g1] at h1; cases h1
    | some c1 =>
      cases g2 : A1[j]? with
      | none => rw [g2] at h2; cases h2
      | some c2 =>
        rw [g1] at h1; rw [g2] at h2
        simp only [Option.map_some, Option.some.injEq] at h1 h2
        subst h1; subst h2
        rw [rest_fillsC] at h3 h4
        exact r.apart i j c1 c2 q g1 g2 h3 h4
  · obtain ⟨c0, _, rfl⟩ := List.mem_map.1 hc
    exact rest_since
end
theorem PR.start : PR 0 0 [] [] [] [] := ⟨rfl, fun _ _ _ h => by simp at h, rfl, fun _ _ _ _ _ h => by simp at h⟩
def PlayOK (day : Int) (r : (List Held ⊕ Int) × Nat) (o : Option ((Option Nat) × Int × Int × (List CaskCask) × (List CaskBook) × FM × (List (List (Int × Option Nat))))) : Prop := match r with
  | (.inl all, k) => ∃ A1 b A3 m, o = some (some 0, (k : Int), 0, A1, [b], A3, [m]) ∧ b.casks = some 0 ∧ PR day k all A1 A3 m ∧ (∀ c ∈ A1, c.since = day) ∧ AOk day k all ∧ k ≤ 4096 ∧ 0 ≤ day ∧ day ≤ 65536
  | (.inr e, k) => o = some (none, (k : Int), e, [], [], [], []) ∧ e ≠ 0
theorem play_prog (l : List Ev) (day : Int) : PlayOK day (playS l day) (m_cask_play l day) := by
  obtain ⟨D, hD, hOK⟩ := deeds_some
  unfold m_cask_play playS
  by_cases hl : l.length > 4096
  · have : decide ((l.length : Int) > 4096) = true := decide_eq_true (by omega)
    simp only [this, hl, if_true]
    exact ⟨rfl, by decide⟩
  · have : decide ((l.length : Int) > 4096) = false := decide_eq_false (by omega)
    simp only [this, hl, if_false, Bool.false_eq_true]
    have e : m_cask_within day 0 65536 = inB day 0 65536 := rfl
    rw [e]
    cases hb : inB day 0 65536 with
    | false => exact ⟨rfl, by decide⟩
    | true =>
      have hday := inB_iff.1 hb
      simp only [Bool.not_true, Bool.false_eq_true, if_false, bindv, hD, Option.bind_some, List.nil_append]
      have hloop := loop_prog (D := D) hOK (l := l) (day := day) (by omega) l [] ⟨[], 0⟩ [] [] [] ⟨some 0, 0⟩ rfl SOk.start PR.start rfl
      unfold runS
      cases hg : goS day l 0 ⟨[], 0⟩ with
      | mk r k =>
        have hg' : goS day l ([] : List Ev).length ⟨[], 0⟩ = (r, k) := hg
        rw [hg'] at hloop
        cases r with
        | inl s' =>
          obtain ⟨A1', A3', m', b', h1, h2, h3⟩ := hloop
          obtain ⟨g1, g2, g3, g4⟩ := go_ok l 0 ⟨[], 0⟩ s' k SOk.start (by show (0:Int) ≤ day; omega) hg
          have h1' : loopM (b_cask_play_1 l day D) (0, 0, [], [⟨some 0, 0⟩], [], [[]]) = _ := h1
          obtain ⟨p1, p2, p3⟩ := rest_all h2 g2 hday.2
          have hok := older_all g1.ok (n := day - s'.last) (by omega)
          rw [show s'.last + (day - s'.last) = day by omega] at hok
          refine ⟨A1'.map (restC day), b', A3', m', ?_, h3, p2, p3, hok, by omega, hday.1, hday.2⟩
          rw [h1', Option.bind_some]
          simp only [List.getElem?_cons_zero, Option.bind_some, h3, p1]
        | inr er =>
          have h1' : loopM (b_cask_play_1 l day D) (0, 0, [], [⟨some 0, 0⟩], [], [[]]) = _ := hloop.1
          refine ⟨?_, hloop.2⟩
          rw [h1', Option.bind_some]
end Go.Proofs.Ytkffpbnbjnadnaa
end

section
namespace Go.Proofs.Ytkffpbnbjnadnaa
open Go.Dec
def zC : ApiCask := ⟨0, 0, 0, 0, 0, 0, 0, 0, zN, zN⟩
def findH (all : List Held) (num : Int) : Option Held := (findS all num).bind fun i => all[i]?
def tellS (l : List Ev) (num day : Int) : ApiCask × Int := match (playS l day).1 with
  | .inr e => (zC, e)
  | .inl all => match findH all num with
    | none => (zC, 4)
    | some h => (h.C, 0)
theorem CR.now {t : Int} {n : Nat} {A3 : FM} {c : CaskCask} {h : Held} (r : CR t n A3 c h) (hs : c.since = t) : h = rawOf c h.Fills := by
  have := r.eq
  rw [hs, Int.sub_self, older_0] at this
  exact this
theorem find_look {all : List Held} {num : Int} {i : Nat} (h : findS all num = some i) : ∃ hh, all[i]? = some hh ∧ findH all num = some hh := by
  obtain ⟨hh, h1, _⟩ := find_some h
  exact ⟨hh, h1, by simp [findH, h, h1]⟩
theorem PR.look {t : Int} {n : Nat} {all : List Held} {A1 : List CaskCask} {A3 : FM} {m : List (Int × Option Nat)} (r : PR t n all A1 A3 m) (hs : ∀ c ∈ A1, c.since = t) {i : Nat} {h : Held} (hh : all[i]? = some h) : ∃ c, A1[i]? = some c ∧ h = rawOf c h.Fills ∧ FR A3 c.fills h.Fills := by
  have hi : i < A1.length := by rw [r.len]; exact (List.getElem?_eq_some_iff.1 hh).1
  have hc : A1[i]? = some A1[i] := List.getElem?_eq_getElem hi
  have hcr := r.each i _ h hc hh
  exact ⟨_, hc, hcr.now (hs _ (List.getElem_mem _)), hcr.fills⟩
theorem At_prog (l : List Ev) (num day : Int) : m_cask_At l num day = some (tellS l num day) := by
  have hp := play_prog l day
  unfold m_cask_At tellS
  cases hpl : playS l day with
  | mk r k =>
    rw [hpl] at hp
    cases r with
    | inr e =>
      rw [hp.1, Option.bind_some]
      have : (e != 0) = true := by simpa using hp.2
      simp only [this, if_true]
      rfl
    | inl all =>
      obtain ⟨A1, b, A3, m, h1, hb, hr, hs, _⟩ := hp
      rw [h1, Option.bind_some]
      have e0 : ((0 : Int) != 0) = false := rfl
      simp only [e0, Bool.false_eq_true, if_false, Option.bind_some, List.getElem?_cons_zero, hb, hr.get]
      cases hf : findS all num with
      | none => simp [findH, hf]; rfl
      | some i =>
        obtain ⟨h, hh, hfh⟩ := find_look hf
        obtain ⟨c, hc, hraw, _⟩ := hr.look hs hh
        simp only [Option.isNone_some, Bool.false_eq_true, if_false, hfh]
        unfold m_cask_cask_shown
        simp only [Option.bind_some, hc]
        have : h.C = (rawOf c h.Fills).C := by rw [← hraw]
        rw [this]; rfl
end Go.Proofs.Ytkffpbnbjnadnaa
end

section
namespace Go.Proofs.Ytkffpbnbjnadnaa
open Go.Dec
theorem day_iff (x : Int) : m_bottle_isDay x = true ↔ 0 ≤ x ∧ x ≤ 65536 := by
  simp only [m_bottle_isDay, m_bottle_within, Bool.and_eq_true, decide_eq_true_eq, ge_iff_le]
theorem sum_bound (p : Int) (hp : 0 ≤ p) : ∀ l : List Int, (∀ x ∈ l, 0 ≤ x ∧ x ≤ p) → 0 ≤ l.sum ∧ l.sum ≤ p * l.length
  | [], _ => by simp
  | x :: l, h => by
    have h1 := h x (by simp)
    have h2 := sum_bound p hp l fun y hy => h y (by simp [hy])
    rw [List.sum_cons, List.length_cons, Int.natCast_add, Int.mul_add]
    simp only [Int.natCast_one, Int.mul_one]
    omega
theorem sum_eq (l : List Int) (hl : l.length ≤ 1000) : m_bottle_sum l = some (if l.all m_bottle_isDay then (l.sum, true) else (0, false)) := by
  unfold m_bottle_sum
  have key := loopM_ledger (body := b_bottle_sum_1 l) (fun i (t : Int) => (t, (i : Int))) (fun _ x => if m_bottle_isDay x then 0 else 1) (fun _ _ => .inr (0, false)) (fun t => .inl t) (fun pre t => t = pre.sum) l
    (fun pre x post t hl' ho ht => by
      have hg := getEl_mid hl'
      have hi := lt_mid hl'
      unfold b_bottle_sum_1
      simp only [idxL_nat, hg, Option.bind_some, bindv]
      rw [w64_id (n := (pre.length : Int) + 1) (by omega) (by omega)]
      simp only [show (decide ((pre.length : Int) < (l.length : Int))) = true by simpa using hi, if_true]
      cases hx : m_bottle_isDay x with
      | false => left; simp
      | true =>
        right
        have hx' := (day_iff x).1 hx
        have hall : ∀ y ∈ pre, 0 ≤ y ∧ y ≤ 65536 := by
          intro y hy
          obtain ⟨s, r, rfl⟩ := List.append_of_mem hy
          have := ho s y r rfl
          cases hd : m_bottle_isDay y with
          | true => exact (day_iff y).1 hd
          | false => simp [hd] at this
        have hb := sum_bound 65536 (by omega) pre hall
        refine ⟨by simp, t + x, ?_, by rw [ht]; simp⟩
        simp only [Bool.not_true, Bool.false_eq_true, if_false]
        rw [w64_id (by omega) (by omega)]; simp)
    (fun t _ _ => by unfold b_bottle_sum_1; simp) l [] 0 rfl AllOk.nil rfl
  simp only [List.length_nil, Int.natCast_zero] at key
  rcases key with ⟨p, x, ⟨post, e, _, hx⟩, hr⟩ | ⟨ho, t, ht, hr⟩
  · have : l.all m_bottle_isDay = false := by
      rw [e, List.all_append, List.all_cons]
      cases hd : m_bottle_isDay x with
      | true => simp [hd] at hx
      | false => simp
    rw [this]
    exact bind_of hr rfl
  · have : l.all m_bottle_isDay = true := by
      rw [List.all_eq_true]
      intro y hy
      obtain ⟨s, r, rfl⟩ := List.append_of_mem hy
      have := ho s y r rfl
      cases hd : m_bottle_isDay y with
      | true => rfl
      | false => simp [hd] at this
    rw [this]
    exact bind_of hr (by rw [ht]; rfl)
def dOK (d : ApiDraught) : Bool :=
  (arrL 8 d.From.Woods).all m_bottle_isDay && (arrL 8 d.From.Places).all m_bottle_isDay && m_bottle_isDay d.From.Age && decide (d.From.Age ≥ imax (arrL 8 d.From.Woods).sum (arrL 8 d.From.Places).sum) &&
  m_bottle_within d.From.Number 0 1073741824 && m_bottle_within d.Amount 1 1073741824 && m_bottle_isSpan d.Strength 10000
structure DOK (d : ApiDraught) : Prop where
  woods : ∀ i, i < 8 → 0 ≤ d.From.Woods i ∧ d.From.Woods i ≤ 65536
  places : ∀ i, i < 8 → 0 ≤ d.From.Places i ∧ d.From.Places i ≤ 65536
  age : 0 ≤ d.From.Age ∧ d.From.Age ≤ 65536
  ageW : (arrL 8 d.From.Woods).sum ≤ d.From.Age
  ageP : (arrL 8 d.From.Places).sum ≤ d.From.Age
  num : 0 ≤ d.From.Number ∧ d.From.Number ≤ 1073741824
  amt : 1 ≤ d.Amount ∧ d.Amount ≤ 1073741824
  str : 0 ≤ d.Strength.Lo ∧ d.Strength.Lo ≤ d.Strength.Hi ∧ d.Strength.Hi ≤ 10000
theorem arrL_allI {f : Nat → Int} {p : Int → Bool} {n : Nat} : (arrL n f).all p = true ↔ ∀ i, i < n → p (f i) = true := by
  simp [arrL, List.all_eq_true]
theorem dOK_iff (d : ApiDraught) : dOK d = true ↔ DOK d := by
  simp only [dOK, Bool.and_eq_true, arrL_allI, day_iff, decide_eq_true_eq, m_bottle_within, m_bottle_isSpan, imax, ge_iff_le]
  constructor
  · rintro ⟨⟨⟨⟨⟨⟨h1, h2⟩, h3⟩, h4⟩, h5⟩, h6⟩, h7⟩
    refine ⟨h1, h2, h3, ?_, ?_, by omega, by omega, by omega⟩
    · split at h4 <;> omega
    · split at h4 <;> omega
  · rintro ⟨h1, h2, h3, h4, h5, h6, h7, h8⟩
    refine ⟨⟨⟨⟨⟨⟨h1, h2⟩, h3⟩, ?_⟩, by omega⟩, by omega⟩, by omega⟩
    split <;> omega
theorem isDraught_eq (d : ApiDraught) : m_bottle_isDraught d = some (dOK d) := by
  unfold m_bottle_isDraught
  rw [sum_eq _ (by simp [arrL]), sum_eq _ (by simp [arrL])]
  simp only [Option.bind_some, bindv, dOK]
  cases h1 : (arrL 8 d.From.Woods).all m_bottle_isDay <;> cases h2 : (arrL 8 d.From.Places).all m_bottle_isDay <;> simp
def sumA (l : List ApiDraught) : Int := (l.map fun d => d.Amount).sum
def sumLo (l : List ApiDraught) : Int := (l.map fun d => d.Amount * d.Strength.Lo).sum
def sumHi (l : List ApiDraught) : Int := (l.map fun d => d.Amount * d.Strength.Hi).sum
theorem sumA_snoc (l : List ApiDraught) (d : ApiDraught) : sumA (l ++ [d]) = sumA l + d.Amount := by simp [sumA]
theorem sumLo_snoc (l : List ApiDraught) (d : ApiDraught) : sumLo (l ++ [d]) = sumLo l + d.Amount * d.Strength.Lo := by simp [sumLo]
theorem sumHi_snoc (l : List ApiDraught) (d : ApiDraught) : sumHi (l ++ [d]) = sumHi l + d.Amount * d.Strength.Hi := by simp [sumHi]
theorem amount_bound {d : ApiDraught} (h : DOK d) {x : Int} (h0 : 0 ≤ x) (h1 : x ≤ 10000) : 0 ≤ d.Amount * x ∧ d.Amount * x ≤ 10737418240000 := by
  have ha := h.amt
  constructor
  · exact Int.mul_nonneg (by omega) h0
  · have := Int.mul_le_mul ha.2 h1 h0 (by omega)
    omega
theorem sums_bound (l : List ApiDraught) : (∀ d ∈ l, DOK d) → ((l.length : Int) ≤ sumA l ∧ sumA l ≤ 1073741824 * l.length) ∧ (0 ≤ sumLo l ∧ sumLo l ≤ sumHi l) ∧ sumHi l ≤ 10737418240000 * l.length ∧ sumHi l ≤ 10000 * sumA l := by
  induction l using snoc_ind with
  | h0 => intro _; simp [sumA, sumLo, sumHi]
  | hs l d ih =>
    intro h
    have hd := h d (by simp)
    obtain ⟨h1, h2, h3, h4⟩ := ih fun x hx => h x (by simp [hx])
    rw [sumA_snoc, sumLo_snoc, sumHi_snoc, List.length_append, List.length_singleton, Int.natCast_add]
    have ha := hd.amt
    have hs := hd.str
    have b1 := amount_bound hd (x := d.Strength.Lo) (by omega) (by omega)
    have b2 := amount_bound hd (x := d.Strength.Hi) (by omega) (by omega)
    have b3 : d.Amount * d.Strength.Lo ≤ d.Amount * d.Strength.Hi := Int.mul_le_mul_of_nonneg_left hs.2.1 (by omega)
    have b4 : d.Amount * d.Strength.Hi ≤ d.Amount * 10000 := Int.mul_le_mul_of_nonneg_left hs.2.2 (by omega)
    simp only [Int.natCast_one]
    refine ⟨by omega, by omega, by omega, by omega⟩
def validB (b : ApiBatch) : Bool := b.Draughts.all dOK && m_bottle_within (b.Draughts.length : Int) 1 16 && m_bottle_within b.Water 0 17179869184 && m_bottle_isSpan b.Shrink 1000
structure Valid (b : ApiBatch) : Prop where
  ds : ∀ d ∈ b.Draughts, DOK d
  len : 1 ≤ b.Draughts.length ∧ b.Draughts.length ≤ 16
  water : 0 ≤ b.Water ∧ b.Water ≤ 17179869184
  shrink : 0 ≤ b.Shrink.Lo ∧ b.Shrink.Lo ≤ b.Shrink.Hi ∧ b.Shrink.Hi ≤ 1000
theorem validB_iff (b : ApiBatch) : validB b = true ↔ Valid b := by
  simp only [validB, Bool.and_eq_true, List.all_eq_true, dOK_iff, m_bottle_within, m_bottle_isSpan, decide_eq_true_eq, ge_iff_le]
  constructor
  · rintro ⟨⟨⟨h1, h2⟩, h3⟩, h4⟩
    exact ⟨h1, by omega, h3, by omega⟩
  · rintro ⟨h1, h2, h3, h4⟩
    exact ⟨⟨⟨h1, by omega⟩, h3⟩, by omega⟩
theorem open_eq (b : ApiBatch) (hlen : b.Draughts.length ≤ 40) : ∃ x, m_bottle_open b = some (x, validB b) ∧ (validB b = true → x = BottleBatch.mk b (sumA b.Draughts) (sumLo b.Draughts) (sumHi b.Draughts)) := by
  unfold m_bottle_open
  have key : (∃ x, loopM (b_bottle_open_1 b) (0, BottleBatch.mk b 0 0 0) = some (.inr (x, false)) ∧ b.Draughts.all dOK = false) ∨ (loopM (b_bottle_open_1 b) (0, BottleBatch.mk b 0 0 0) = some (.inl (BottleBatch.mk b (sumA b.Draughts) (sumLo b.Draughts) (sumHi b.Draughts))) ∧ b.Draughts.all dOK = true) := by
    have go : ∀ (post pre : List ApiDraught), b.Draughts = pre ++ post → (∀ d ∈ pre, DOK d) → (∃ x, loopM (b_bottle_open_1 b) ((pre.length : Int), BottleBatch.mk b (sumA pre) (sumLo pre) (sumHi pre)) = some (.inr (x, false)) ∧ b.Draughts.all dOK = false) ∨ (loopM (b_bottle_open_1 b) ((pre.length : Int), BottleBatch.mk b (sumA pre) (sumLo pre) (sumHi pre)) = some (.inl (BottleBatch.mk b (sumA b.Draughts) (sumLo b.Draughts) (sumHi b.Draughts))) ∧ b.Draughts.all dOK = true) := by
      intro post
      induction post with
      | nil =>
        intro pre e h
        rw [List.append_nil] at e
        right
        rw [← e] at h ⊢
        refine ⟨?_, by rw [List.all_eq_true]; exact fun d hd => (dOK_iff d).2 (h d hd)⟩
        rw [loopM_eq]; unfold b_bottle_open_1; simp
      | cons d post ih =>
        intro pre e h
        have hg := getEl_mid e
        have hi := lt_mid e
        cases hd : dOK d with
        | false =>
          left
          have hb : b_bottle_open_1 b ((pre.length : Int), BottleBatch.mk b (sumA pre) (sumLo pre) (sumHi pre)) = some (.done (.inr (BottleBatch.mk b (sumA pre) (sumLo pre) (sumHi pre), false))) := by
            unfold b_bottle_open_1
            simp only [idxL_nat, hg, Option.bind_some, bindv, isDraught_eq, hd]
            simp only [show (decide ((pre.length : Int) < (b.Draughts.length : Int))) = true by simpa using hi, if_true]
            simp
          refine ⟨BottleBatch.mk b (sumA pre) (sumLo pre) (sumHi pre), ?_, ?_⟩
          · rw [loopM_eq, hb]
          · rw [e, List.all_append, List.all_cons, hd]; simp
        | true =>
          have hd' := (dOK_iff d).1 hd
          have hs := hd'.str
          obtain ⟨b1, b2, b3, _⟩ := sums_bound pre h
          have b4 := amount_bound hd' (x := d.Strength.Lo) (by omega) (by omega)
          have b5 := amount_bound hd' (x := d.Strength.Hi) (by omega) (by omega)
          have ha := hd'.amt
          have := ih (pre ++ [d]) (by rw [e]; simp) (fun x hx => by
            rcases List.mem_append.1 hx with hx | hx
            · exact h x hx
            · simp only [List.mem_singleton] at hx; subst hx; exact hd')
          have hb : b_bottle_open_1 b ((pre.length : Int), BottleBatch.mk b (sumA pre) (sumLo pre) (sumHi pre)) = some (.next (((pre ++ [d]).length : Int), BottleBatch.mk b (sumA (pre ++ [d])) (sumLo (pre ++ [d])) (sumHi (pre ++ [d])))) := by
            unfold b_bottle_open_1
            rw [sumA_snoc, sumLo_snoc, sumHi_snoc, List.length_append, List.length_singleton, Int.natCast_add]
            simp only [idxL_nat, hg, Option.bind_some, bindv, isDraught_eq, hd]
            simp only [show (decide ((pre.length : Int) < (b.Draughts.length : Int))) = true by simpa using hi, if_true]
            rw [w64_id (n := d.Amount * d.Strength.Lo) (by omega) (by omega), w64_id (n := d.Amount * d.Strength.Hi) (by omega) (by omega), w64_id (n := (pre.length : Int) + 1) (by omega) (by omega), w64_id (n := sumA pre + d.Amount) (by omega) (by omega), w64_id (n := sumLo pre + d.Amount * d.Strength.Lo) (by omega) (by omega), w64_id (n := sumHi pre + d.Amount * d.Strength.Hi) (by omega) (by omega)]
            simp
          rw [loopM_eq, hb]
          exact this
    exact go b.Draughts [] rfl (by simp)
  rcases key with ⟨x, hr, hall⟩ | ⟨hr, hall⟩
  · refine ⟨x, bind_of hr ?_, fun h => ?_⟩
    · simp only [validB, hall, Bool.false_and]
    · simp only [validB, hall, Bool.false_and] at h; cases h
  · refine ⟨BottleBatch.mk b (sumA b.Draughts) (sumLo b.Draughts) (sumHi b.Draughts), bind_of hr ?_, fun _ => rfl⟩
    simp only [validB, hall, Bool.true_and]
    cases m_bottle_within (b.Draughts.length : Int) 1 16 <;> cases m_bottle_within b.Water 0 17179869184 <;> simp
end Go.Proofs.Ytkffpbnbjnadnaa
end

section
namespace Go.Proofs.Ytkffpbnbjnadnaa
open Go.Dec
def volF (b : ApiBatch) (w : Int) : ApiSpan :=
  ApiSpan.mk ((sumA b.Draughts + w) * (10000 - b.Shrink.Hi) / 10000) (((sumA b.Draughts + w) * (10000 - b.Shrink.Lo) + 10000 - 1) / 10000)
def strF (b : ApiBatch) (w : Int) : ApiSpan :=
  ApiSpan.mk (imin 10000 (sumLo b.Draughts * 10000 / ((sumA b.Draughts + w) * (10000 - b.Shrink.Lo))))
    (imin 10000 ((sumHi b.Draughts * 10000 + (sumA b.Draughts + w) * (10000 - b.Shrink.Hi) - 1) / ((sumA b.Draughts + w) * (10000 - b.Shrink.Hi))))
structure Bds (b : ApiBatch) (w : Int) : Prop where
  a : 1 ≤ sumA b.Draughts ∧ sumA b.Draughts ≤ 17179869184
  l : 0 ≤ sumLo b.Draughts ∧ sumLo b.Draughts ≤ sumHi b.Draughts ∧ sumHi b.Draughts ≤ 171798691840000
  lh : sumHi b.Draughts ≤ 10000 * sumA b.Draughts
  small : 9000 ≤ (sumA b.Draughts + w) * (10000 - b.Shrink.Hi) ∧ (sumA b.Draughts + w) * (10000 - b.Shrink.Hi) ≤ 343597383680000
  great : 9000 ≤ (sumA b.Draughts + w) * (10000 - b.Shrink.Lo) ∧ (sumA b.Draughts + w) * (10000 - b.Shrink.Lo) ≤ 343597383680000
  le : (sumA b.Draughts + w) * (10000 - b.Shrink.Hi) ≤ (sumA b.Draughts + w) * (10000 - b.Shrink.Lo)
theorem bds {b : ApiBatch} {w : Int} (h : Valid b) (h0 : 0 ≤ w) (h1 : w ≤ 17179869184) : Bds b w := by
  obtain ⟨b1, b2, b3, b4⟩ := sums_bound b.Draughts h.ds
  have hl := h.len
  have hs := h.shrink
  have ha : 1 ≤ sumA b.Draughts ∧ sumA b.Draughts ≤ 17179869184 := by omega
  have mb : ∀ x : Int, 9000 ≤ x → x ≤ 10000 → 9000 ≤ (sumA b.Draughts + w) * x ∧ (sumA b.Draughts + w) * x ≤ 343597383680000 := by
    intro x hx1 hx2
    have m1 : 1 * 9000 ≤ (sumA b.Draughts + w) * x := Int.mul_le_mul (by omega) hx1 (by omega) (by omega)
    have m2 : (sumA b.Draughts + w) * x ≤ 34359738368 * 10000 := Int.mul_le_mul (by omega) hx2 (by omega) (by omega)
    omega
  exact ⟨ha, by omega, b4, mb _ (by omega) (by omega), mb _ (by omega) (by omega), Int.mul_le_mul_of_nonneg_left (by omega) (by omega)⟩
theorem volume_eq {b : ApiBatch} {w : Int} (h : Valid b) (h0 : 0 ≤ w) (h1 : w ≤ 17179869184) : m_bottle_batch_volume (BottleBatch.mk b (sumA b.Draughts) (sumLo b.Draughts) (sumHi b.Draughts)) w = some (volF b w) := by
  have hb := bds h h0 h1
  have b1 := hb.a; have b2 := hb.small; have b3 := hb.great
  have hs := h.shrink
  unfold m_bottle_batch_volume m_bottle_up
  simp only [bindv]
  rw [w64_id (n := sumA b.Draughts + w) (by omega) (by omega), w64_id (n := 10000 - b.Shrink.Lo) (by omega) (by omega), w64_id (n := 10000 - b.Shrink.Hi) (by omega) (by omega)]
  rw [w64_id (n := (sumA b.Draughts + w) * (10000 - b.Shrink.Lo)) (by omega) (by omega), w64_id (n := (sumA b.Draughts + w) * (10000 - b.Shrink.Hi)) (by omega) (by omega)]
  rw [w64_id (n := (sumA b.Draughts + w) * (10000 - b.Shrink.Lo) + 10000) (by omega) (by omega), w64_id (n := (sumA b.Draughts + w) * (10000 - b.Shrink.Lo) + 10000 - 1) (by omega) (by omega)]
  rw [quoK_pos (by omega) (by omega) (by omega)]
  simp only [Option.bind_some]
  rw [Int.tdiv_eq_ediv_of_nonneg (by omega), w64_id (by omega) (by omega)]
  rfl
theorem strength_eq {b : ApiBatch} {w : Int} (h : Valid b) (h0 : 0 ≤ w) (h1 : w ≤ 17179869184) : m_bottle_batch_strength (BottleBatch.mk b (sumA b.Draughts) (sumLo b.Draughts) (sumHi b.Draughts)) w = some (strF b w) := by
  have hb := bds h h0 h1
  have b1 := hb.a; have b2 := hb.small; have b3 := hb.great; have b4 := hb.l
  have hs := h.shrink
  unfold m_bottle_batch_strength m_bottle_up
  simp only [bindv]
  rw [w64_id (n := sumA b.Draughts + w) (by omega) (by omega), w64_id (n := 10000 - b.Shrink.Lo) (by omega) (by omega), w64_id (n := 10000 - b.Shrink.Hi) (by omega) (by omega)]
  rw [w64_id (n := (sumA b.Draughts + w) * (10000 - b.Shrink.Lo)) (by omega) (by omega), w64_id (n := (sumA b.Draughts + w) * (10000 - b.Shrink.Hi)) (by omega) (by omega)]
  rw [w64_id (n := sumLo b.Draughts * 10000) (by omega) (by omega), w64_id (n := sumHi b.Draughts * 10000) (by omega) (by omega)]
  rw [w64_id (n := sumHi b.Draughts * 10000 + (sumA b.Draughts + w) * (10000 - b.Shrink.Hi)) (by omega) (by omega), w64_id (n := sumHi b.Draughts * 10000 + (sumA b.Draughts + w) * (10000 - b.Shrink.Hi) - 1) (by omega) (by omega)]
  rw [quoK_pos (by omega) (by omega) (by omega), quoK_pos (by omega) (by omega) (by omega)]
  rfl
def minW (l : List ApiDraught) (f : ApiDraught → Int) : Int := match l with
  | [] => 0
  | d :: r => r.foldl (fun m x => imin m (f x)) (f d)
theorem minW_snoc {l : List ApiDraught} {d : ApiDraught} {f : ApiDraught → Int} (hl : l ≠ []) : minW (l ++ [d]) f = imin (minW l f) (f d) := by
  cases l with
  | nil => exact absurd rfl hl
  | cons x r => simp [minW]
theorem least_eq (l : List ApiDraught) (f : ApiDraught → Int) (hl : l ≠ []) (h : l.length ≤ 1000) : m_bottle_least_int l (fun d => some (f d)) = some (minW l f) := by
  cases l with
  | nil => exact absurd rfl hl
  | cons d r =>
    simp only [List.length_cons] at h
    unfold m_bottle_least_int
    have h0 : idxL (d :: r) 0 = some d := rfl
    have h1 : sliceL (d :: r) 1 ((d :: r).length : Int) = some r := by
      unfold sliceL; rw [if_pos (by simp only [List.length_cons]; omega)]
      simp
    refine bind_of h0 (bind_of rfl (bind_of h1 ?_))
    obtain ⟨t', k1, k2⟩ := loopM_pre (body := b_bottle_least_int_1 (fun d => some (f d)) r) (fun i (t : Int) => (t, (i : Int))) (fun t => t) (fun pre t => t = minW (d :: pre) f) r
      (fun pre x post t hl ht => by
        have hg := getEl_mid hl
        have hi := lt_mid hl
        unfold b_bottle_least_int_1
        simp only [idxL_nat, hg, Option.bind_some, bindv]
        rw [w64_id (by omega) (by omega)]
        simp only [show (decide ((pre.length : Int) < (r.length : Int))) = true by simpa using hi, if_true]
        refine ⟨_, rfl, ?_⟩
        rw [← List.cons_append, minW_snoc (by simp), ht])
      (fun t _ => by unfold b_bottle_least_int_1; simp) r [] (f d) rfl rfl
    simp only [List.length_nil, Int.natCast_zero] at k2
    exact bind_of k2 (by rw [k1])
def numF (l : List ApiDraught) : List Int := l.foldl (fun acc d => if d.From.Number ∈ acc then acc else acc ++ [d.From.Number]) []
theorem numF_snoc (l : List ApiDraught) (d : ApiDraught) : numF (l ++ [d]) = if d.From.Number ∈ numF l then numF l else numF l ++ [d.From.Number] := by
  unfold numF; rw [List.foldl_append]; rfl
theorem mapSet_keys (k : Int) : ∀ ks : List Int, mapSet (ks.map fun x => (x, true)) k true = (if k ∈ ks then ks else ks ++ [k]).map fun x => (x, true)
  | [] => by simp [mapSet]
  | x :: ks => by
    simp only [List.map_cons, mapSet]
    by_cases h : k = x
    · subst h; simp
    · have hb : (k == x) = false := by simpa using h
      simp only [hb, Bool.false_eq_true, if_false]
      rw [mapSet_keys k ks]
      by_cases hm : k ∈ ks <;> simp [hm, h]
theorem casks_eq (b : ApiBatch) (A L M : Int) (h : b.Draughts.length ≤ 1000) : m_bottle_batch_casks (BottleBatch.mk b A L M) = some ((numF b.Draughts).length : Int) := by
  unfold m_bottle_batch_casks
  obtain ⟨t', k1, k2⟩ := loopM_pre (body := b_bottle_batch_casks_1 (BottleBatch.mk b A L M)) (fun i (t : List (Int × Bool)) => (t, (i : Int))) (fun t => t) (fun pre t => t = (numF pre).map fun x => (x, true)) b.Draughts
    (fun pre x post t hl ht => by
      have hg := getEl_mid hl
      have hi := lt_mid hl
      unfold b_bottle_batch_casks_1
      simp only [idxL_nat, hg, Option.bind_some, bindv]
      rw [w64_id (by omega) (by omega)]
      simp only [show (decide ((pre.length : Int) < (b.Draughts.length : Int))) = true by simpa using hi, if_true]
      refine ⟨_, rfl, ?_⟩
      rw [ht, mapSet_keys, numF_snoc])
    (fun t _ => by unfold b_bottle_batch_casks_1; simp) b.Draughts [] [] rfl rfl
  simp only [List.length_nil, Int.natCast_zero] at k2
  exact bind_of k2 (by rw [k1]; simp)
structure Known (b : ApiBatch) (w : Int) (x : ApiBottling) : Prop where
  vol : x.Volume = volF b w
  str : x.Strength = strF b w
  age : x.Age = minW b.Draughts fun d => d.From.Age
  woods : ∀ i, i < 8 → x.Woods i = minW b.Draughts fun d => d.From.Woods i
  places : ∀ i, i < 8 → x.Places i = minW b.Draughts fun d => d.From.Places i
  casks : x.Casks = ((numF b.Draughts).length : Int)
theorem updN_same {α : Type} (f : Nat → α) (i : Nat) (x : α) : updN f i x i = x := by simp [updN]
theorem updN_other {α : Type} {f : Nat → α} {i j : Nat} {x : α} (h : j ≠ i) : updN f i x j = f j := by
  have : Nat.beq j i = false := by
    cases hb : Nat.beq j i with
    | true => exact absurd (Nat.eq_of_beq_eq_true hb) h
    | false => rfl
  simp [updN, this]
theorem known_eq {b : ApiBatch} (h : Valid b) : ∃ x, m_bottle_batch_known (BottleBatch.mk b (sumA b.Draughts) (sumLo b.Draughts) (sumHi b.Draughts)) = some x ∧ Known b b.Water x := by
  have hl := h.len
  have hne : b.Draughts ≠ [] := by intro e; rw [e] at hl; simp at hl
  unfold m_bottle_batch_known
  have e1 := volume_eq h h.water.1 h.water.2
  have e2 := strength_eq h h.water.1 h.water.2
  have e3 := casks_eq b (sumA b.Draughts) (sumLo b.Draughts) (sumHi b.Draughts) (by omega)
  have e4 : m_bottle_least_int b.Draughts (fun x => some (m_bottle_batch_known_1 x)) = some (minW b.Draughts fun d => d.From.Age) := least_eq b.Draughts (fun d => d.From.Age) hne (by omega)
  generalize hx0 : ({ (ApiBottling.mk (volF b b.Water) (strF b b.Water) 0 (fun _ => 0) (fun _ => 0) ((numF b.Draughts).length : Int)) with Age := minW b.Draughts fun d => d.From.Age } : ApiBottling) = x0
  obtain ⟨x1, ⟨h1a, h1b⟩, k1⟩ := loopM_upto (body := b_bottle_batch_known_1 (BottleBatch.mk b (sumA b.Draughts) (sumLo b.Draughts) (sumHi b.Draughts))) (fun i (t : ApiBottling) => ((i : Int), t)) (fun t => t)
    (fun n t => (∀ i, i < n → t.Woods i = minW b.Draughts fun d => d.From.Woods i) ∧ ∃ f, t = { x0 with Woods := f }) 8
    (fun i t hi ⟨ht, f, hf⟩ => by
      have e5 : m_bottle_least_int b.Draughts (fun x => m_bottle_batch_known_2 x (i : Int)) = some (minW b.Draughts fun d => d.From.Woods i) := by
        rw [show (fun x => m_bottle_batch_known_2 x (i : Int)) = fun x => some (x.From.Woods i) from by
          funext x; unfold m_bottle_batch_known_2; rw [idxO_nat hi]; rfl]
        exact least_eq b.Draughts _ hne (by omega)
      refine ⟨{ t with Woods := updN t.Woods i (minW b.Draughts fun d => d.From.Woods i) }, ?_, fun j hj => ?_, ?_⟩
      · unfold b_bottle_batch_known_1
        simp only [show (decide ((i : Int) < 8)) = true by simp; omega, if_true]
        refine bind_of e5 (bind_of (idxO_nat hi) ?_)
        simp only [bindv]
        rw [w64_id (by omega) (by omega)]; simp
      · show updN t.Woods i _ j = _
        by_cases hji : j = i
        · subst hji; exact updN_same _ _ _
        · rw [updN_other hji]; exact ht j (by omega)
      · exact ⟨updN t.Woods i (minW b.Draughts fun d => d.From.Woods i), by rw [hf]⟩)
    (fun t _ => by unfold b_bottle_batch_known_1; simp) 8 0 x0 rfl ⟨fun i hi => by omega, x0.Woods, rfl⟩
  obtain ⟨x2, ⟨h2a, f2, h2b⟩, k2⟩ := loopM_upto (body := b_bottle_batch_known_2 (BottleBatch.mk b (sumA b.Draughts) (sumLo b.Draughts) (sumHi b.Draughts))) (fun i (t : ApiBottling) => ((i : Int), t)) (fun t => t)
    (fun n t => (∀ i, i < n → t.Places i = minW b.Draughts fun d => d.From.Places i) ∧ ∃ f, t = { x1 with Places := f }) 8
    (fun i t hi ⟨ht, f, hf⟩ => by
      have e5 : m_bottle_least_int b.Draughts (fun x => m_bottle_batch_known_3 x (i : Int)) = some (minW b.Draughts fun d => d.From.Places i) := by
        rw [show (fun x => m_bottle_batch_known_3 x (i : Int)) = fun x => some (x.From.Places i) from by
          funext x; unfold m_bottle_batch_known_3; rw [idxO_nat hi]; rfl]
        exact least_eq b.Draughts _ hne (by omega)
      refine ⟨{ t with Places := updN t.Places i (minW b.Draughts fun d => d.From.Places i) }, ?_, fun j hj => ?_, ?_⟩
      · unfold b_bottle_batch_known_2
        simp only [show (decide ((i : Int) < 8)) = true by simp; omega, if_true]
        refine bind_of e5 (bind_of (idxO_nat hi) ?_)
        simp only [bindv]
        rw [w64_id (by omega) (by omega)]; simp
      · show updN t.Places i _ j = _
        by_cases hji : j = i
        · subst hji; exact updN_same _ _ _
        · rw [updN_other hji]; exact ht j (by omega)
      · exact ⟨updN t.Places i (minW b.Draughts fun d => d.From.Places i), by rw [hf]⟩)
    (fun t _ => by unfold b_bottle_batch_known_2; simp) 8 0 x1 rfl ⟨fun i hi => by omega, x1.Places, rfl⟩
  simp only [Int.natCast_zero] at k1 k2
  obtain ⟨f1, h1c⟩ := h1b
  refine ⟨x2, ?_, ?_⟩
  · refine bind_of e1 (bind_of e2 (bind_of e3 (bind_of e4 ?_)))
    simp only [bindv]
    rw [hx0]
    exact bind_of k1 (bind_of k2 rfl)
  · have hw : x2.Woods = x1.Woods := by rw [h2b]
    refine ⟨by rw [h2b, h1c, ← hx0], by rw [h2b, h1c, ← hx0], by rw [h2b, h1c, ← hx0], fun i hi => by rw [hw]; exact h1a i hi, h2a, by rw [h2b, h1c, ← hx0]⟩
theorem blend_prog (b : ApiBatch) (hlen : b.Draughts.length ≤ 40) : (validB b = false ∧ m_bottle_Blend b = some (ApiBottling.mk (ApiSpan.mk 0 0) (ApiSpan.mk 0 0) 0 (fun _ => 0) (fun _ => 0) 0, 1)) ∨ (Valid b ∧ ∃ x, m_bottle_Blend b = some (x, 0) ∧ Known b b.Water x) := by
  obtain ⟨x, he, hx⟩ := open_eq b hlen
  unfold m_bottle_Blend
  cases hv : validB b with
  | false =>
    refine .inl ⟨rfl, bind_of he ?_⟩
    rw [hv]; rfl
  | true =>
    have h := (validB_iff b).1 hv
    obtain ⟨y, k1, k2⟩ := known_eq h
    refine .inr ⟨h, y, bind_of he ?_, k2⟩
    rw [hv, hx hv]
    simp only [Bool.not_true, Bool.false_eq_true, if_false]
    exact bind_of k1 rfl
end Go.Proofs.Ytkffpbnbjnadnaa
end

section
namespace Go.Proofs.Ytkffpbnbjnadnaa
open Go.Dec
theorem Try.own : ownKnob Try.prog.godebug = none := by kernel_rfl
theorem Try.laidOut : laidOutB Try.prog = true := by kernel_rfl
def okApiCask (x : ApiCask) : Prop := (Lit.int .i64 x.Number).wf = true ∧ (Lit.int .i64 x.Wood).wf = true ∧ (Lit.int .i64 x.Place).wf = true ∧ (Lit.int .i64 x.Room).wf = true ∧ (Lit.int .i64 x.Owner).wf = true ∧ (Lit.int .i64 x.Creditor).wf = true ∧ (Lit.int .i64 x.Amount).wf = true ∧ (Lit.int .i64 x.Age).wf = true ∧ (∀ i, i < 8 → (Lit.int .i64 (x.Woods i)).wf = true) ∧ (∀ i, i < 8 → (Lit.int .i64 (x.Places i)).wf = true)
theorem vApiCask {H : Type} {enc : TypeId × Value → H} {W : World} : Viewed enc Try.prog W 38 (Ex cApiCask) okApiCask := by
 intro sp held fuel cs x h
 obtain ⟨xs, k, _, _, hl, hxl, hx⟩ := DataW.trod_struct Try.underlying38 h
 have hl' : cs.length = 24 := hl.trans (by kernel_rfl)
 obtain ⟨y0, h0⟩ := some_of (hx 0 _ rfl) hxl rfl
 have e0 : Try.prog.cellsOf 3 = 1 := by kernel_rfl
 obtain ⟨m0, o0, q0⟩ := (Viewed.int Try.underlying3) _ _ _ _ _ h0
 obtain ⟨y1, h1⟩ := some_of (hx 1 _ rfl) hxl rfl
 have e1 : Try.prog.cellsOf 3 = 1 := by kernel_rfl
 obtain ⟨m1, o1, q1⟩ := (Viewed.int Try.underlying3) _ _ _ _ _ h1
 obtain ⟨y2, h2⟩ := some_of (hx 2 _ rfl) hxl rfl
 have e2 : Try.prog.cellsOf 3 = 1 := by kernel_rfl
 obtain ⟨m2, o2, q2⟩ := (Viewed.int Try.underlying3) _ _ _ _ _ h2
 obtain ⟨y3, h3⟩ := some_of (hx 3 _ rfl) hxl rfl
 have e3 : Try.prog.cellsOf 3 = 1 := by kernel_rfl
 obtain ⟨m3, o3, q3⟩ := (Viewed.int Try.underlying3) _ _ _ _ _ h3
 obtain ⟨y4, h4⟩ := some_of (hx 4 _ rfl) hxl rfl
 have e4 : Try.prog.cellsOf 3 = 1 := by kernel_rfl
 obtain ⟨m4, o4, q4⟩ := (Viewed.int Try.underlying3) _ _ _ _ _ h4
 obtain ⟨y5, h5⟩ := some_of (hx 5 _ rfl) hxl rfl
 have e5 : Try.prog.cellsOf 3 = 1 := by kernel_rfl
 obtain ⟨m5, o5, q5⟩ := (Viewed.int Try.underlying3) _ _ _ _ _ h5
 obtain ⟨y6, h6⟩ := some_of (hx 6 _ rfl) hxl rfl
 have e6 : Try.prog.cellsOf 3 = 1 := by kernel_rfl
 obtain ⟨m6, o6, q6⟩ := (Viewed.int Try.underlying3) _ _ _ _ _ h6
 obtain ⟨y7, h7⟩ := some_of (hx 7 _ rfl) hxl rfl
 have e7 : Try.prog.cellsOf 3 = 1 := by kernel_rfl
 obtain ⟨m7, o7, q7⟩ := (Viewed.int Try.underlying3) _ _ _ _ _ h7
 obtain ⟨y8, h8⟩ := some_of (hx 8 _ rfl) hxl rfl
 have e8 : Try.prog.cellsOf 31 = 8 := by kernel_rfl
 obtain ⟨m8, o8, q8⟩ := (Viewed.array (sz := 1) (0 : Int) Try.underlying31 (by kernel_rfl) (by kernel_rfl) (Viewed.int Try.underlying3)) _ _ _ _ _ h8
 obtain ⟨y9, h9⟩ := some_of (hx 9 _ rfl) hxl rfl
 have e9 : Try.prog.cellsOf 31 = 8 := by kernel_rfl
 obtain ⟨m9, o9, q9⟩ := (Viewed.array (sz := 1) (0 : Int) Try.underlying31 (by kernel_rfl) (by kernel_rfl) (Viewed.int Try.underlying3)) _ _ _ _ _ h9
 refine ⟨⟨m0, m1, m2, m3, m4, m5, m6, m7, m8, m9⟩, ⟨o0, o1, o2, o3, o4, o5, o6, o7, o8, o9⟩, fun F' le => ?_⟩
 have w0 : (cs.drop 0).take (Try.prog.cellsOf 3) = (cInt .i64) m0 := q0 F' le
 rw [e0] at w0
 have w1 : (cs.drop 1).take (Try.prog.cellsOf 3) = (cInt .i64) m1 := q1 F' le
 rw [e1] at w1
 have w2 : (cs.drop 2).take (Try.prog.cellsOf 3) = (cInt .i64) m2 := q2 F' le
 rw [e2] at w2
 have w3 : (cs.drop 3).take (Try.prog.cellsOf 3) = (cInt .i64) m3 := q3 F' le
 rw [e3] at w3
 have w4 : (cs.drop 4).take (Try.prog.cellsOf 3) = (cInt .i64) m4 := q4 F' le
 rw [e4] at w4
 have w5 : (cs.drop 5).take (Try.prog.cellsOf 3) = (cInt .i64) m5 := q5 F' le
 rw [e5] at w5
 have w6 : (cs.drop 6).take (Try.prog.cellsOf 3) = (cInt .i64) m6 := q6 F' le
 rw [e6] at w6
 have w7 : (cs.drop 7).take (Try.prog.cellsOf 3) = (cInt .i64) m7 := q7 F' le
 rw [e7] at w7
 have w8 : (cs.drop 8).take (Try.prog.cellsOf 31) = (cArr 8 (cInt .i64)) m8 := q8 F' le
 rw [e8] at w8
 have w9 : (cs.drop 16).take (Try.prog.cellsOf 31) = (cArr 8 (cInt .i64)) m9 := q9 F' le
 rw [e9] at w9
 exact (cat_cons w0 (cat_cons w1 (cat_cons w2 (cat_cons w3 (cat_cons w4 (cat_cons w5 (cat_cons w6 (cat_cons w7 (cat_cons w8 (cat_cons w9 (cat_nil hl')))))))))))
def okApiSpan (x : ApiSpan) : Prop := (Lit.int .i64 x.Lo).wf = true ∧ (Lit.int .i64 x.Hi).wf = true
theorem vApiSpan {H : Type} {enc : TypeId × Value → H} {W : World} : Viewed enc Try.prog W 24 (Ex cApiSpan) okApiSpan := by
 intro sp held fuel cs x h
 obtain ⟨xs, k, _, _, hl, hxl, hx⟩ := DataW.trod_struct Try.underlying24 h
 have hl' : cs.length = 2 := hl.trans (by kernel_rfl)
 obtain ⟨y0, h0⟩ := some_of (hx 0 _ rfl) hxl rfl
 have e0 : Try.prog.cellsOf 3 = 1 := by kernel_rfl
 obtain ⟨m0, o0, q0⟩ := (Viewed.int Try.underlying3) _ _ _ _ _ h0
 obtain ⟨y1, h1⟩ := some_of (hx 1 _ rfl) hxl rfl
 have e1 : Try.prog.cellsOf 3 = 1 := by kernel_rfl
 obtain ⟨m1, o1, q1⟩ := (Viewed.int Try.underlying3) _ _ _ _ _ h1
 refine ⟨⟨m0, m1⟩, ⟨o0, o1⟩, fun F' le => ?_⟩
 have w0 : (cs.drop 0).take (Try.prog.cellsOf 3) = (cInt .i64) m0 := q0 F' le
 rw [e0] at w0
 have w1 : (cs.drop 1).take (Try.prog.cellsOf 3) = (cInt .i64) m1 := q1 F' le
 rw [e1] at w1
 exact (cat_cons w0 (cat_cons w1 (cat_nil hl')))
def okApiDraught (x : ApiDraught) : Prop := okApiCask x.From ∧ (Lit.int .i64 x.Amount).wf = true ∧ okApiSpan x.Strength
theorem vApiDraught {H : Type} {enc : TypeId × Value → H} {W : World} : Viewed enc Try.prog W 40 (Ex cApiDraught) okApiDraught := by
 intro sp held fuel cs x h
 obtain ⟨xs, k, _, _, hl, hxl, hx⟩ := DataW.trod_struct Try.underlying40 h
 have hl' : cs.length = 27 := hl.trans (by kernel_rfl)
 obtain ⟨y0, h0⟩ := some_of (hx 0 _ rfl) hxl rfl
 have e0 : Try.prog.cellsOf 38 = 24 := by kernel_rfl
 obtain ⟨m0, o0, q0⟩ := vApiCask _ _ _ _ _ h0
 obtain ⟨y1, h1⟩ := some_of (hx 1 _ rfl) hxl rfl
 have e1 : Try.prog.cellsOf 3 = 1 := by kernel_rfl
 obtain ⟨m1, o1, q1⟩ := (Viewed.int Try.underlying3) _ _ _ _ _ h1
 obtain ⟨y2, h2⟩ := some_of (hx 2 _ rfl) hxl rfl
 have e2 : Try.prog.cellsOf 24 = 2 := by kernel_rfl
 obtain ⟨m2, o2, q2⟩ := vApiSpan _ _ _ _ _ h2
 refine ⟨⟨m0, m1, m2⟩, ⟨o0, o1, o2⟩, fun F' le => ?_⟩
 have w0 : (cs.drop 0).take (Try.prog.cellsOf 38) = cApiCask m0 := q0 F' le
 rw [e0] at w0
 have w1 : (cs.drop 24).take (Try.prog.cellsOf 3) = (cInt .i64) m1 := q1 F' le
 rw [e1] at w1
 have w2 : (cs.drop 25).take (Try.prog.cellsOf 24) = cApiSpan m2 := q2 F' le
 rw [e2] at w2
 exact (cat_cons w0 (cat_cons w1 (cat_cons w2 (cat_nil hl'))))
def okApiBatch (x : ApiBatch) : Prop := (∀ y10 ∈ x.Draughts, okApiDraught y10) ∧ (Lit.int .i64 x.Water).wf = true ∧ okApiSpan x.Shrink ∧ True ∧ True
theorem vApiBatch {H : Type} {enc : TypeId × Value → H} {W : World} : Viewed enc Try.prog W 26 rApiBatch okApiBatch := by
 intro sp held fuel cs x h
 obtain ⟨xs, k, _, _, hl, hxl, hx⟩ := DataW.trod_struct Try.underlying26 h
 have hl' : cs.length = 6 := hl.trans (by kernel_rfl)
 obtain ⟨y0, h0⟩ := some_of (hx 0 _ rfl) hxl rfl
 have e0 : Try.prog.cellsOf 22 = 1 := by kernel_rfl
 obtain ⟨m0, o0, q0⟩ := (Viewed.slice (sz := 27) Try.underlying22 (by kernel_rfl) (by decide) vApiDraught) _ _ _ _ _ h0
 obtain ⟨y1, h1⟩ := some_of (hx 1 _ rfl) hxl rfl
 have e1 : Try.prog.cellsOf 3 = 1 := by kernel_rfl
 obtain ⟨m1, o1, q1⟩ := (Viewed.int Try.underlying3) _ _ _ _ _ h1
 obtain ⟨y2, h2⟩ := some_of (hx 2 _ rfl) hxl rfl
 have e2 : Try.prog.cellsOf 24 = 2 := by kernel_rfl
 obtain ⟨m2, o2, q2⟩ := vApiSpan _ _ _ _ _ h2
 obtain ⟨y3, h3⟩ := some_of (hx 3 _ rfl) hxl rfl
 have e3 : Try.prog.cellsOf 4 = 1 := by kernel_rfl
 obtain ⟨m3, o3, q3⟩ := (Viewed.bool Try.underlying4) _ _ _ _ _ h3
 obtain ⟨y4, h4⟩ := some_of (hx 4 _ rfl) hxl rfl
 have e4 : Try.prog.cellsOf 4 = 1 := by kernel_rfl
 obtain ⟨m4, o4, q4⟩ := (Viewed.bool Try.underlying4) _ _ _ _ _ h4
 refine ⟨⟨m0, m1, m2, m3, m4⟩, ⟨o0, o1, o2, o3, o4⟩, fun F' le => ?_⟩
 have w0 : (rSl 27 (Ex cApiDraught)) F' m0 ((cs.drop 0).take (Try.prog.cellsOf 22)) := q0 F' le
 rw [e0] at w0
 obtain ⟨p0_0, p0_1, w0, r0_0⟩ := w0
 have w1 : (cs.drop 1).take (Try.prog.cellsOf 3) = (cInt .i64) m1 := q1 F' le
 rw [e1] at w1
 have w2 : (cs.drop 2).take (Try.prog.cellsOf 24) = cApiSpan m2 := q2 F' le
 rw [e2] at w2
 have w3 : (cs.drop 4).take (Try.prog.cellsOf 4) = cBool m3 := q3 F' le
 rw [e3] at w3
 have w4 : (cs.drop 5).take (Try.prog.cellsOf 4) = cBool m4 := q4 F' le
 rw [e4] at w4
 exact ⟨p0_0, p0_1, (cat_cons w0 (cat_cons w1 (cat_cons w2 (cat_cons w3 (cat_cons w4 (cat_nil hl')))))), r0_0⟩
def okApiSource (x : ApiSource) : Prop := (Lit.int .i64 x.Cask).wf = true ∧ (Lit.int .i64 x.Drawn).wf = true ∧ okApiSpan x.Strength ∧ (∀ y8 ∈ x.Values, okApiSpan y8)
theorem vApiSource {H : Type} {enc : TypeId × Value → H} {W : World} : Viewed enc Try.prog W 42 rApiSource okApiSource := by
 intro sp held fuel cs x h
 obtain ⟨xs, k, _, _, hl, hxl, hx⟩ := DataW.trod_struct Try.underlying42 h
 have hl' : cs.length = 5 := hl.trans (by kernel_rfl)
 obtain ⟨y0, h0⟩ := some_of (hx 0 _ rfl) hxl rfl
 have e0 : Try.prog.cellsOf 3 = 1 := by kernel_rfl
 obtain ⟨m0, o0, q0⟩ := (Viewed.int Try.underlying3) _ _ _ _ _ h0
 obtain ⟨y1, h1⟩ := some_of (hx 1 _ rfl) hxl rfl
 have e1 : Try.prog.cellsOf 3 = 1 := by kernel_rfl
 obtain ⟨m1, o1, q1⟩ := (Viewed.int Try.underlying3) _ _ _ _ _ h1
 obtain ⟨y2, h2⟩ := some_of (hx 2 _ rfl) hxl rfl
 have e2 : Try.prog.cellsOf 24 = 2 := by kernel_rfl
 obtain ⟨m2, o2, q2⟩ := vApiSpan _ _ _ _ _ h2
 obtain ⟨y3, h3⟩ := some_of (hx 3 _ rfl) hxl rfl
 have e3 : Try.prog.cellsOf 28 = 1 := by kernel_rfl
 obtain ⟨m3, o3, q3⟩ := (Viewed.slice (sz := 2) Try.underlying28 (by kernel_rfl) (by decide) vApiSpan) _ _ _ _ _ h3
 refine ⟨⟨m0, m1, m2, m3⟩, ⟨o0, o1, o2, o3⟩, fun F' le => ?_⟩
 have w0 : (cs.drop 0).take (Try.prog.cellsOf 3) = (cInt .i64) m0 := q0 F' le
 rw [e0] at w0
 have w1 : (cs.drop 1).take (Try.prog.cellsOf 3) = (cInt .i64) m1 := q1 F' le
 rw [e1] at w1
 have w2 : (cs.drop 2).take (Try.prog.cellsOf 24) = cApiSpan m2 := q2 F' le
 rw [e2] at w2
 have w3 : (rSl 2 (Ex cApiSpan)) F' m3 ((cs.drop 4).take (Try.prog.cellsOf 28)) := q3 F' le
 rw [e3] at w3
 obtain ⟨p3_0, p3_1, w3, r3_0⟩ := w3
 exact ⟨p3_0, p3_1, (cat_cons w0 (cat_cons w1 (cat_cons w2 (cat_cons w3 (cat_nil hl'))))), r3_0⟩
theorem vt26 {H : Type} {enc : TypeId × Value → H} {W : World} : Viewed enc Try.prog W 26 rApiBatch (fun x => okApiBatch x) := vApiBatch
theorem vt27 {H : Type} {enc : TypeId × Value → H} {W : World} : Viewed enc Try.prog W 27 (rSl 5 rApiSource) (fun x => (∀ y1 ∈ x, okApiSource y1)) := (Viewed.slice (sz := 5) Try.underlying27 (by kernel_rfl) (by decide) vApiSource)
theorem vt28 {H : Type} {enc : TypeId × Value → H} {W : World} : Viewed enc Try.prog W 28 (rSl 2 (Ex cApiSpan)) (fun x => (∀ y1 ∈ x, okApiSpan y1)) := (Viewed.slice (sz := 2) Try.underlying28 (by kernel_rfl) (by decide) vApiSpan)
end Go.Proofs.Ytkffpbnbjnadnaa
end

section
namespace Go.Proofs.Ytkffpbnbjnadnaa
open Go.Dec
def smp : List Ev := [(ApiCaskEvent.mk 0 0 1 2 9 0 500 0), (ApiCaskEvent.mk 1 0 1 0 0 0 400 0)]
def smpB : ApiBatch := ApiBatch.mk ([(ApiDraught.mk (tellS smp 1 99).1 400 (ApiSpan.mk 6000 6000))]) 0 (ApiSpan.mk 0 0) false false
theorem awake12_true : m_wormtubtop_awake12 = some true := by
  have hA : m_cask_At smp 1 99 = some (tellS smp 1 99) := At_prog _ _ _
  have e1 : ((tellS smp 1 99).1.Age == 99 && ((tellS smp 1 99).1.Woods 2) == 99 && ((tellS smp 1 99).2 == 0)) = true := by decide +kernel
  have hv : validB smpB = true := by decide +kernel
  rcases blend_prog smpB (by decide) with ⟨h, _⟩ | ⟨_, x, hx, hk⟩
  · rw [hv] at h; cases h
  have hx' : m_bottle_Blend (ApiBatch.mk ([(ApiDraught.mk (tellS smp 1 99).1 400 (ApiSpan.mk 6000 6000))]) 0 (ApiSpan.mk 0 0) false false) = some (x, 0) := hx
  have k1 : x.Age = (tellS smp 1 99).1.Age := hk.age
  have k2 : x.Woods 2 = (tellS smp 1 99).1.Woods 2 := hk.woods 2 (by decide)
  have k3 : x.Casks = 1 := hk.casks
  have k4 : x.Volume = ApiSpan.mk 400 400 := hk.vol
  unfold m_wormtubtop_awake12
  refine bind_of hA (bind_of hx' ?_)
  simp only [Bool.and_eq_true] at e1
  obtain ⟨⟨a1, a2⟩, a3⟩ := e1
  simp only [k1, k2, k3, k4, a1, a2, a3]
  rfl
end Go.Proofs.Ytkffpbnbjnadnaa
end

section
namespace Go.Proofs.Ytkffpbnbjnadnaa
open Go.Dec
theorem refFrom_eq (c : ApiCask) : m_wormtubref12_from c = some ((arrL 8 c.Woods).all m_bottle_isDay && (arrL 8 c.Places).all m_bottle_isDay && m_bottle_isDay c.Age && decide (c.Age ≥ imax (arrL 8 c.Woods).sum (arrL 8 c.Places).sum) && m_bottle_within c.Number 0 1073741824) := by
  unfold m_wormtubref12_from
  have hin : ∀ x : Int, m_wormtubref12_in x 0 65536 = m_bottle_isDay x := fun x => rfl
  have ssn : ∀ (f : Nat → Int) (n : Nat), (arrL (n + 1) f).sum = (arrL n f).sum + f n := fun f n => by
    simp [arrL, List.range_succ]
  have sbd : ∀ (f : Nat → Int) (n : Nat), (∀ j, j < n → m_bottle_isDay (f j) = true) → 0 ≤ (arrL n f).sum ∧ (arrL n f).sum ≤ 65536 * n := fun f n h => by
    have := sum_bound 65536 (by omega) (arrL n f) fun x hx => by
      simp only [arrL, List.mem_map, List.mem_range] at hx
      obtain ⟨j, hj, rfl⟩ := hx
      exact (day_iff _).1 (h j hj)
    rw [arrL_len] at this; exact this
  have go : ∀ (k i : Nat), i + k = 8 → (∀ j, j < i → m_bottle_isDay (c.Woods j) = true ∧ m_bottle_isDay (c.Places j) = true) →
      (loopM (b_wormtubref12_from_1 c) ((arrL i c.Woods).sum, (arrL i c.Places).sum, (i : Int)) = some (.inl ((arrL 8 c.Woods).sum, (arrL 8 c.Places).sum)) ∧ ((arrL 8 c.Woods).all m_bottle_isDay && (arrL 8 c.Places).all m_bottle_isDay) = true) ∨
      (loopM (b_wormtubref12_from_1 c) ((arrL i c.Woods).sum, (arrL i c.Places).sum, (i : Int)) = some (.inr false) ∧ ((arrL 8 c.Woods).all m_bottle_isDay && (arrL 8 c.Places).all m_bottle_isDay) = false) := by
    intro k
    induction k with
    | zero =>
      intro i hi hok
      have : i = 8 := by omega
      subst this
      left
      refine ⟨?_, ?_⟩
      · have hb : b_wormtubref12_from_1 c ((arrL 8 c.Woods).sum, (arrL 8 c.Places).sum, ((8 : Nat) : Int)) = some (.done (.inl ((arrL 8 c.Woods).sum, (arrL 8 c.Places).sum))) := by
          unfold b_wormtubref12_from_1; simp
        rw [loopM_eq, hb]
      · rw [Bool.and_eq_true, arrL_allI, arrL_allI]
        exact ⟨fun j hj => (hok j hj).1, fun j hj => (hok j hj).2⟩
    | succ k ih =>
      intro i hi hok
      have hlt : i < 8 := by omega
      by_cases hd : m_bottle_isDay (c.Woods i) = true ∧ m_bottle_isDay (c.Places i) = true
      · have b1 := sbd c.Woods i fun j hj => (hok j hj).1
        have b2 := sbd c.Places i fun j hj => (hok j hj).2
        have b3 := (day_iff _).1 hd.1
        have b4 := (day_iff _).1 hd.2
        have hb : b_wormtubref12_from_1 c ((arrL i c.Woods).sum, (arrL i c.Places).sum, (i : Int)) = some (.next ((arrL (i + 1) c.Woods).sum, (arrL (i + 1) c.Places).sum, ((i + 1 : Nat) : Int))) := by
          unfold b_wormtubref12_from_1
          simp only [show ((i : Int) < 8) by omega, decide_true, if_true, idxO_nat hlt, Option.bind_some, hin, hd.1, hd.2, Bool.not_true, Bool.false_eq_true, if_false, bindv, ssn]
          rw [w64_id (n := (i : Int) + 1) (by omega) (by omega), w64_id (by omega) (by omega), w64_id (by omega) (by omega)]
          simp
        rw [loopM_eq, hb]
        refine ih (i + 1) (by omega) fun j hj => ?_
        by_cases hji : j = i
        · subst hji; exact hd
        · exact hok j (by omega)
      · right
        have hb : b_wormtubref12_from_1 c ((arrL i c.Woods).sum, (arrL i c.Places).sum, (i : Int)) = some (.done (.inr false)) := by
          unfold b_wormtubref12_from_1
          simp only [show ((i : Int) < 8) by omega, decide_true, if_true, idxO_nat hlt, Option.bind_some, hin]
          cases h1 : m_bottle_isDay (c.Woods i) with
          | false => simp
          | true =>
            cases h2 : m_bottle_isDay (c.Places i) with
            | false => simp
            | true => exact absurd ⟨h1, h2⟩ hd
        refine ⟨by rw [loopM_eq, hb], ?_⟩
        cases hc : ((arrL 8 c.Woods).all m_bottle_isDay && (arrL 8 c.Places).all m_bottle_isDay) with
        | false => rfl
        | true =>
          rw [Bool.and_eq_true, arrL_allI, arrL_allI] at hc
          exact absurd ⟨hc.1 i hlt, hc.2 i hlt⟩ hd
  have h0 := go 8 0 rfl (fun j hj => by omega)
  have e0 : ∀ f : Nat → Int, (arrL 0 f).sum = 0 := fun f => rfl
  rw [e0, e0] at h0
  simp only [Int.natCast_zero] at h0
  rcases h0 with ⟨hr, ha⟩ | ⟨hr, ha⟩
  · refine bind_of hr ?_
    rw [ha]
    simp only [Bool.true_and, Option.some.injEq, m_wormtubref12_in, m_bottle_isDay, m_bottle_within, imax]
    rw [Bool.eq_iff_iff]
    simp only [Bool.and_eq_true, decide_eq_true_eq, ge_iff_le]
    constructor
    · rintro ⟨⟨⟨h1, h2⟩, h3⟩, h4⟩
      refine ⟨⟨h2, ?_⟩, h1⟩
      split <;> omega
    · rintro ⟨⟨h2, h3⟩, h1⟩
      refine ⟨⟨⟨h1, h2⟩, ?_⟩, ?_⟩
      · split at h3 <;> omega
      · split at h3 <;> omega
  · refine bind_of hr ?_
    rw [ha]; simp
theorem refBatch_eq (b : ApiBatch) (hb : b.Draughts.length ≤ 40) : m_wormtubref12_Batch b = some (validB b) := by
  unfold m_wormtubref12_Batch
  have hd : ∀ d : ApiDraught, ((!((arrL 8 d.From.Woods).all m_bottle_isDay && (arrL 8 d.From.Places).all m_bottle_isDay && m_bottle_isDay d.From.Age && decide (d.From.Age ≥ imax (arrL 8 d.From.Woods).sum (arrL 8 d.From.Places).sum) && m_bottle_within d.From.Number 0 1073741824)) || (!(m_wormtubref12_in d.Amount 1 1073741824)) || (!(m_wormtubref12_span d.Strength 10000))) = !dOK d := by
    intro d
    show ((!_) || (!(m_bottle_within d.Amount 1 1073741824)) || (!(m_bottle_isSpan d.Strength 10000))) = _
    unfold dOK
    simp only [Bool.not_and]
  have key := loopM_ledger (body := b_wormtubref12_Batch_1 b) (fun i (_ : Unit) => (i : Int)) (fun _ x => if dOK x then 0 else 1) (fun _ _ => .inr false) (fun _ => .inl ()) (fun _ _ => True) b.Draughts
    (fun pre x post t hl ho ht => by
      have hg := getEl_mid hl
      have hi := lt_mid hl
      unfold b_wormtubref12_Batch_1
      simp only [idxL_nat, hg, Option.bind_some, refFrom_eq, bindv, hd]
      rw [w64_id (by omega) (by omega)]
      simp only [show (decide ((pre.length : Int) < (b.Draughts.length : Int))) = true by simpa using hi, if_true]
      cases hx : dOK x with
      | false => left; simp
      | true => right; exact ⟨by simp, (), by simp⟩)
    (fun t _ _ => by unfold b_wormtubref12_Batch_1; simp) b.Draughts [] () rfl AllOk.nil trivial
  simp only [List.length_nil, Int.natCast_zero] at key
  rcases key with ⟨p, x, ⟨post, e, _, hx⟩, hr⟩ | ⟨ho, t, ht, hr⟩
  · refine bind_of hr ?_
    have : b.Draughts.all dOK = false := by
      rw [e, List.all_append, List.all_cons]
      cases hc : dOK x with
      | true => simp [hc] at hx
      | false => simp
    simp [validB, this]
  · refine bind_of hr ?_
    have : b.Draughts.all dOK = true := by
      rw [List.all_eq_true]
      intro y hy
      obtain ⟨s, r, e⟩ := List.append_of_mem hy
      have := ho s y r e
      cases hc : dOK y with
      | true => rfl
      | false => simp [hc] at this
    simp only [validB, this, Bool.true_and]
    rfl
end Go.Proofs.Ytkffpbnbjnadnaa
end

section
namespace Go.Proofs.Ytkffpbnbjnadnaa
open Go.Dec
theorem awake13_true : m_wormtubtop_awake13 = some true := by
  have hS : SrcOK 1 (ApiSource.mk 0 900 (ApiSpan.mk 5900 6000) ([(ApiSpan.mk 100 110)])) := ⟨rfl, rfl, rfl, rfl, rfl⟩
  have hall : ∀ s ∈ [(ApiSource.mk 0 900 (ApiSpan.mk 5900 6000) ([(ApiSpan.mk 100 110)]))], SrcOK 1 s := fun s hs => by
    simp only [List.mem_singleton] at hs; subst hs; exact hS
  have hv := areValid_eq (b := ApiSuspect.mk 800 0 (ApiSpan.mk 4600 4620) ([(ApiSpan.mk 110 112)])) (s0 := ApiSource.mk 0 900 (ApiSpan.mk 5900 6000) ([(ApiSpan.mk 100 110)])) (rest := []) ⟨rfl, rfl, rfl, rfl, rfl⟩ hall (by decide)
  have hfit : m_genuine_fits (ApiSuspect.mk 800 0 (ApiSpan.mk 4600 4620) ([(ApiSpan.mk 110 112)])) (ApiSource.mk 0 900 (ApiSpan.mk 5900 6000) ([(ApiSpan.mk 100 110)])) = some true := by
    rw [fits_eq (by decide) (by decide)]; rfl
  have hl : loopM (b_genuine_Origins_1 (ApiSuspect.mk 800 0 (ApiSpan.mk 4600 4620) ([(ApiSpan.mk 110 112)])) ([(ApiSource.mk 0 900 (ApiSpan.mk 5900 6000) ([(ApiSpan.mk 100 110)]))])) ([], [], 0) = some ([0], []) := by
    have i0 : idxL [(ApiSource.mk 0 900 (ApiSpan.mk 5900 6000) ([(ApiSpan.mk 100 110)]))] 0 = some (ApiSource.mk 0 900 (ApiSpan.mk 5900 6000) ([(ApiSpan.mk 100 110)])) := rfl
    have s1 : b_genuine_Origins_1 (ApiSuspect.mk 800 0 (ApiSpan.mk 4600 4620) ([(ApiSpan.mk 110 112)])) ([(ApiSource.mk 0 900 (ApiSpan.mk 5900 6000) ([(ApiSpan.mk 100 110)]))]) ([], [], 0) = some (.next ([0], [], 1)) := by
      have ha : appO ([] : List Int) [0] = some [0] := rfl
      have hw : w64 (0 + 1) = 1 := by decide
      unfold b_genuine_Origins_1
      simp only [i0, hfit, ha, hw, Option.bind_some, if_true]
      rfl
    have s2 : b_genuine_Origins_1 (ApiSuspect.mk 800 0 (ApiSpan.mk 4600 4620) ([(ApiSpan.mk 110 112)])) ([(ApiSource.mk 0 900 (ApiSpan.mk 5900 6000) ([(ApiSpan.mk 100 110)]))]) ([0], [], 1) = some (.done ([0], [])) := by
      unfold b_genuine_Origins_1; simp
    rw [loopM_eq, s1]
    show loopM _ ([0], [], 1) = _
    rw [loopM_eq, s2]
  have ho : m_genuine_Origins (ApiSuspect.mk 800 0 (ApiSpan.mk 4600 4620) ([(ApiSpan.mk 110 112)])) ([(ApiSource.mk 0 900 (ApiSpan.mk 5900 6000) ([(ApiSpan.mk 100 110)]))]) = some ([0], [], 0) := by
    unfold m_genuine_Origins
    refine bind_of hv ?_
    exact bind_of hl rfl
  unfold m_wormtubtop_awake13
  refine bind_of ho ?_
  have i0 : idxL [(0 : Int)] 0 = some 0 := rfl
  simp only [awake12_true, i0, Option.bind_some]
  rfl
section
variable {values : List ApiSpan} {drawn : Int} {x16 : ApiBatch} {n : Nat}
def srcD (values : List ApiSpan) (drawn : Int) (n i : Nat) (d : ApiDraught) : ApiSource := ApiSource.mk d.From.Number drawn d.Strength ((values.drop (i * n)).take n)
theorem srcD_len {i : Nat} {d : ApiDraught} (h : i * n + n ≤ values.length) : (srcD values drawn n i d).Values.length = n := by
  show ((values.drop (i * n)).take n).length = n
  rw [List.length_take, List.length_drop]; omega
theorem forged1_step {l : List ApiSource} {T : Int} {i : Nat} {d : ApiDraught} (hd : x16.Draughts[i]? = some d) (hi : i ≤ 1) (hl : l.length ≤ 10) (hn : n ≤ 1000) (hv : i * n + n ≤ values.length) (hT : 0 ≤ T ∧ T ≤ 4294967296) (ha : 0 ≤ d.Amount ∧ d.Amount ≤ 1073741824) :
    b_wormtubtop_TopForged_1 values drawn x16 (n : Int) (l, T, (i : Int)) = some (.next (l ++ [srcD values drawn n i d], T + d.Amount, ((i + 1 : Nat) : Int))) := by
  have hin : i * n ≤ 1 * n := Nat.mul_le_mul_right n hi
  have c1 : decide ((i : Int) < (x16.Draughts.length : Int)) = true := decide_eq_true (Int.ofNat_lt.2 (lt_get hd))
  have e1 : w64 ((i : Int) * (n : Int)) = ((i * n : Nat) : Int) := by rw [← Int.natCast_mul, w64_id (by omega) (by omega)]
  have e2 : w64 (((i * n : Nat) : Int) + (n : Int)) = ((i * n + n : Nat) : Int) := by rw [w64_id (by omega) (by omega)]; omega
  have hs : sliceL values ((i * n : Nat) : Int) ((i * n + n : Nat) : Int) = some ((values.drop (i * n)).take n) := by
    unfold sliceL
    rw [if_pos (by omega)]
    have : ((i * n + n : Nat) : Int).toNat - ((i * n : Nat) : Int).toNat = n := by omega
    rw [this]; rfl
  have happ : appO l [(ApiSource.mk d.From.Number drawn d.Strength ((values.drop (i * n)).take n))] = some (l ++ [srcD values drawn n i d]) := appO_some' (by simp; omega)
  unfold b_wormtubtop_TopForged_1
  simp only [c1, if_true, idxL_nat, hd, Option.bind_some, e1, e2, hs, happ, bindv, nx (show i ≤ 1000000 by omega)]
  rw [w64_id (n := T + d.Amount) (by omega) (by omega)]
structure First (values : List ApiSpan) (drawn : Int) (n : Nat) (x16 : ApiBatch) (d0 : ApiDraught) (S0 : ApiSource) (R0 : List ApiSource) (SL : ApiSource) (last : Nat) (T : Int) : Prop where
  head : x16.Draughts[0]? = some d0
  total : T = sumA x16.Draughts
  at_ : 1 ≤ d0.Amount ∧ d0.Amount ≤ T ∧ T ≤ 2147483648 ∧ d0.Amount ≤ 1073741824
  few : R0.length = last ∧ last ≤ 1
  atL : (S0 :: R0)[last]? = some SL
  drawn0 : S0.Drawn = drawn
  drawnL : SL.Drawn = drawn
  len0 : S0.Values.length = n
  lenL : SL.Values.length = n
  str : sumLo x16.Draughts ≤ d0.Amount * S0.Strength.Hi + (T - d0.Amount) * SL.Strength.Hi
theorem forged1 (hv : Valid x16) (h2 : x16.Draughts.length ≤ 2) (hn : n ≤ 1000) (hvn : 2 * n ≤ values.length) : ∃ d0 S0 R0 SL last T, loopM (b_wormtubtop_TopForged_1 values drawn x16 (n : Int)) ([], 0, 0) = some (S0 :: R0, T) ∧ First values drawn n x16 d0 S0 R0 SL last T := by
  have h1 := hv.len.1
  have hcase : (∃ d0, x16.Draughts = [d0]) ∨ ∃ d0 d1, x16.Draughts = [d0, d1] := by
    generalize x16.Draughts = D at h1 h2
    rcases D with _ | ⟨d0, _ | ⟨d1, _ | ⟨d2, r⟩⟩⟩
    · simp at h1
    · exact .inl ⟨d0, rfl⟩
    · exact .inr ⟨d0, d1, rfl⟩
    · simp at h2
  rcases hcase with ⟨d0, hD⟩ | ⟨d0, d1, hD⟩
  · have k0 := hv.ds d0 (by rw [hD]; simp)
    have a0 := k0.amt
    have s0 := k0.str
    have st := forged1_step (values := values) (drawn := drawn) (x16 := x16) (n := n) (l := []) (T := 0) (i := 0) (d := d0) (by rw [hD]; rfl) (by omega) (by simp) hn (by omega) (by omega) (by omega)
    have en : b_wormtubtop_TopForged_1 values drawn x16 (n : Int) ([] ++ [srcD values drawn n 0 d0], 0 + d0.Amount, ((0 + 1 : Nat) : Int)) = some (.done ([] ++ [srcD values drawn n 0 d0], 0 + d0.Amount)) := by
      unfold b_wormtubtop_TopForged_1; simp [hD]
    have hm : d0.Amount * d0.Strength.Lo ≤ d0.Amount * d0.Strength.Hi := Int.mul_le_mul_of_nonneg_left s0.2.1 (by omega)
    refine ⟨d0, srcD values drawn n 0 d0, [], srcD values drawn n 0 d0, 0, 0 + d0.Amount, ?_, ⟨by rw [hD]; rfl, by rw [hD]; simp [sumA], by omega, ⟨rfl, by omega⟩, rfl, rfl, rfl, srcD_len (by omega), srcD_len (by omega), ?_⟩⟩
    · have st' : b_wormtubtop_TopForged_1 values drawn x16 (n : Int) ([], 0, 0) = _ := st
      rw [loopM_eq, st']
      show loopM _ _ = _
      rw [loopM_eq, en]; rfl
    · rw [hD]
      have : sumLo [d0] = d0.Amount * d0.Strength.Lo := by simp [sumLo]
      rw [this]
      show _ ≤ d0.Amount * d0.Strength.Hi + (0 + d0.Amount - d0.Amount) * d0.Strength.Hi
      rw [show 0 + d0.Amount - d0.Amount = 0 by omega, Int.zero_mul]; omega
  · have k0 := hv.ds d0 (by rw [hD]; simp)
    have k1 := hv.ds d1 (by rw [hD]; simp)
    have a0 := k0.amt
    have s0 := k0.str
    have a1 := k1.amt
    have s1 := k1.str
    have st := forged1_step (values := values) (drawn := drawn) (x16 := x16) (n := n) (l := []) (T := 0) (i := 0) (d := d0) (by rw [hD]; rfl) (by omega) (by simp) hn (by omega) (by omega) (by omega)
    have st1 := forged1_step (values := values) (drawn := drawn) (x16 := x16) (n := n) (l := [] ++ [srcD values drawn n 0 d0]) (T := 0 + d0.Amount) (i := 1) (d := d1) (by rw [hD]; rfl) (by omega) (by simp) hn (by omega) (by omega) (by omega)
    have en : b_wormtubtop_TopForged_1 values drawn x16 (n : Int) ([] ++ [srcD values drawn n 0 d0] ++ [srcD values drawn n 1 d1], 0 + d0.Amount + d1.Amount, ((1 + 1 : Nat) : Int)) = some (.done ([] ++ [srcD values drawn n 0 d0] ++ [srcD values drawn n 1 d1], 0 + d0.Amount + d1.Amount)) := by
      unfold b_wormtubtop_TopForged_1; simp [hD]
    have hm : d0.Amount * d0.Strength.Lo ≤ d0.Amount * d0.Strength.Hi := Int.mul_le_mul_of_nonneg_left s0.2.1 (by omega)
    have hm1 : d1.Amount * d1.Strength.Lo ≤ d1.Amount * d1.Strength.Hi := Int.mul_le_mul_of_nonneg_left s1.2.1 (by omega)
    refine ⟨d0, srcD values drawn n 0 d0, [srcD values drawn n 1 d1], srcD values drawn n 1 d1, 1, 0 + d0.Amount + d1.Amount, ?_, ⟨by rw [hD]; rfl, by rw [hD]; simp [sumA], by omega, ⟨rfl, by omega⟩, rfl, rfl, rfl, srcD_len (by omega), srcD_len (by omega), ?_⟩⟩
    · have st' : b_wormtubtop_TopForged_1 values drawn x16 (n : Int) ([], 0, 0) = _ := st
      rw [loopM_eq, st']
      show loopM _ _ = _
      rw [loopM_eq, st1]
      show loopM _ _ = _
      rw [loopM_eq, en]; rfl
    · rw [hD]
      have : sumLo [d0, d1] = d0.Amount * d0.Strength.Lo + d1.Amount * d1.Strength.Lo := by simp [sumLo]
      rw [this]
      show _ ≤ d0.Amount * d0.Strength.Hi + (0 + d0.Amount + d1.Amount - d0.Amount) * d1.Strength.Hi
      rw [show 0 + d0.Amount + d1.Amount - d0.Amount = d1.Amount by omega]; omega
end
def goodV (v w : ApiSpan) : Prop := (0 ≤ v.Lo ∧ v.Lo ≤ v.Hi ∧ v.Hi ≤ 1048576) ∧ (0 ≤ w.Lo ∧ w.Lo ≤ w.Hi ∧ w.Hi ≤ 1048576)
def mixV (a T : Int) (v w : ApiSpan) : ApiSpan := ApiSpan.mk ((a * v.Lo + (T - a) * w.Lo) / T) ((a * v.Hi + (T - a) * w.Hi + T - 1) / T)
section
variable {values : List ApiSpan} {drawn : Int} {x16 : ApiBatch} {n last : Nat} {d0 : ApiDraught} {S0 SL : ApiSource} {R0 : List ApiSource} {T : Int}
theorem forged2 (h : First values drawn n x16 d0 S0 R0 SL last T) (hn : n ≤ 1000) (sus : ApiSuspect) :
    ∀ (d q : Nat) (seen : List ApiSpan), q + d = n → seen.length = q → (∀ (i : Nat) (u : ApiSpan), seen[i]? = some u → ∃ v w, S0.Values[i]? = some v ∧ SL.Values[i]? = some w ∧ goodV v w ∧ u = mixV d0.Amount T v w) →
      loopM (b_wormtubtop_TopForged_2 x16 (n : Int) (S0 :: R0, T) (last : Int)) ((q : Int), { sus with Seen := seen }) = some (.inr true) ∨
      ∃ seen', loopM (b_wormtubtop_TopForged_2 x16 (n : Int) (S0 :: R0, T) (last : Int)) ((q : Int), { sus with Seen := seen }) = some (.inl { sus with Seen := seen' }) ∧ seen'.length = n ∧ ∀ (i : Nat) (u : ApiSpan), seen'[i]? = some u → ∃ v w, S0.Values[i]? = some v ∧ SL.Values[i]? = some w ∧ goodV v w ∧ u = mixV d0.Amount T v w
  | 0, q, seen, hq, hs, hI => by
    have : q = n := by omega
    subst this
    right
    refine ⟨seen, ?_, hs, hI⟩
    rw [loopM_eq]; simp [b_wormtubtop_TopForged_2]
  | d + 1, q, seen, hq, hs, hI => by
    have hqn : q < n := by omega
    have ha := h.at_
    have hv : S0.Values[q]? = some (S0.Values[q]'(by rw [h.len0]; exact hqn)) := List.getElem?_eq_getElem _
    have hw : SL.Values[q]? = some (SL.Values[q]'(by rw [h.lenL]; exact hqn)) := List.getElem?_eq_getElem _
    generalize S0.Values[q]'(by rw [h.len0]; exact hqn) = v at hv
    generalize SL.Values[q]'(by rw [h.lenL]; exact hqn) = w at hw
    have c1 : decide ((q : Int) < (n : Int)) = true := decide_eq_true (Int.ofNat_lt.2 hqn)
    have i0 : idxL (S0 :: R0) 0 = some S0 := rfl
    have i1 : idxL x16.Draughts 0 = some d0 := h.head
    by_cases hg : goodV v w
    · obtain ⟨bv, bw⟩ := hg
      have m1 := mul_bd (x := d0.Amount) (y := v.Lo) (m := 1073741824) (n := 1048576) (by omega) (by omega)
      have m2 := mul_bd (x := T - d0.Amount) (y := w.Lo) (m := 2147483648) (n := 1048576) (by omega) (by omega)
      have m3 := mul_bd (x := d0.Amount) (y := v.Hi) (m := 1073741824) (n := 1048576) (by omega) (by omega)
      have m4 := mul_bd (x := T - d0.Amount) (y := w.Hi) (m := 2147483648) (n := 1048576) (by omega) (by omega)
      have happ : appO seen [(mixV d0.Amount T v w)] = some (seen ++ [mixV d0.Amount T v w]) := appO_some' (by simp; omega)
      have step : b_wormtubtop_TopForged_2 x16 (n : Int) (S0 :: R0, T) (last : Int) ((q : Int), { sus with Seen := seen }) = some (.next (((q + 1 : Nat) : Int), { sus with Seen := seen ++ [mixV d0.Amount T v w] })) := by
        have c2 : ((((((decide (v.Lo < 0)) || (decide (v.Hi > 1048576))) || (decide (w.Lo < 0))) || (decide (w.Hi > 1048576))) || (decide (v.Lo > v.Hi))) || (decide (w.Lo > w.Hi))) = false := by
          simp only [Bool.or_eq_false_iff, decide_eq_false_iff_not]; omega
        unfold b_wormtubtop_TopForged_2
        simp only [c1, if_true, idxL_nat, i0, i1, h.atL, hv, hw, Option.bind_some, c2, Bool.false_eq_true, if_false, bindv]
        rw [w64_id (n := T - d0.Amount) (by omega) (by omega), w64_id (n := d0.Amount * v.Lo) (by omega) (by omega), w64_id (n := d0.Amount * v.Hi) (by omega) (by omega)]
        rw [w64_id (n := (T - d0.Amount) * w.Lo) (by omega) (by omega), w64_id (n := (T - d0.Amount) * w.Hi) (by omega) (by omega)]
        rw [w64_id (n := d0.Amount * v.Lo + (T - d0.Amount) * w.Lo) (by omega) (by omega), w64_id (n := d0.Amount * v.Hi + (T - d0.Amount) * w.Hi) (by omega) (by omega)]
        rw [w64_id (n := d0.Amount * v.Hi + (T - d0.Amount) * w.Hi + T) (by omega) (by omega), w64_id (n := d0.Amount * v.Hi + (T - d0.Amount) * w.Hi + T - 1) (by omega) (by omega)]
        rw [quoK_pos (by omega) (by omega) (by omega), quoK_pos (by omega) (by omega) (by omega)]
        simp only [Option.bind_some]
        refine bind_of happ ?_
        rw [nx (by omega)]
      have := forged2 h hn sus d (q + 1) (seen ++ [mixV d0.Amount T v w]) (by omega) (by simp; omega) (fun i u hi => by
        by_cases e : i < seen.length
        · rw [List.getElem?_append_left e] at hi; exact hI i u hi
        · have hil := lt_get hi
          simp only [List.length_append, List.length_singleton] at hil
          have : i = q := by omega
          subst this
          rw [List.getElem?_append_right (by omega), hs, Nat.sub_self] at hi
          simp only [List.getElem?_cons_zero, Option.some.injEq] at hi
          exact ⟨v, w, hv, hw, ⟨bv, bw⟩, hi.symm⟩)
      rw [loopM_eq, step]
      exact this
    · left
      have c2 : ((((((decide (v.Lo < 0)) || (decide (v.Hi > 1048576))) || (decide (w.Lo < 0))) || (decide (w.Hi > 1048576))) || (decide (v.Lo > v.Hi))) || (decide (w.Lo > w.Hi))) = true := by
        simp only [Bool.or_eq_true, decide_eq_true_eq]
        unfold goodV at hg
        omega
      have step : b_wormtubtop_TopForged_2 x16 (n : Int) (S0 :: R0, T) (last : Int) ((q : Int), { sus with Seen := seen }) = some (.done (.inr true)) := by
        unfold b_wormtubtop_TopForged_2
        simp only [c1, if_true, idxL_nat, i0, h.atL, hv, hw, Option.bind_some, c2, awake13_true]
      rw [loopM_eq, step]
end
end Go.Proofs.Ytkffpbnbjnadnaa
end

section
namespace Go.Proofs.Ytkffpbnbjnadnaa
open Go.Dec
open Go.ChangeShapes Go.WideShapes Go.ChangeAt Go.RowKit
def LawTopForged : Prop := ∀ (a0 : ApiBatch) (a1 : (List ApiSource)) (a2 : (List ApiSpan)) (a3 : Int) (a4 : Int), okApiBatch a0 → (∀ y ∈ a1, okApiSource y) → (∀ y ∈ a2, okApiSpan y) → (Lit.int .i64 a3).wf = true → (Lit.int .i64 a4).wf = true → m_wormtubtop_TopForged a0 a1 a2 a3 a4 = some true
set_option maxRecDepth 100000 in
theorem lifted_TopForged (law : LawTopForged) (os : Os) (started : os.Started) (H : Type) (enc : TypeId × Value → H) :
  ReturnsInHanded {} Try.checked os 3 .any (Rows.topForgedSpec.pre6 enc Try.prog Try.f3 Rows.topForgedRow.domain false) (Rows.topForgedSpec.post enc Try.prog Try.f3 false true false false) := by
 refine returnsInHanded_of_change (C := Try.checked) Try.own started (by kernel_rfl) Try.func3 (ChangeSpec.witness6 (enc := enc) (C := Try.checked) false ⟨#[], #[(.agg #[.slice none 0 0, .int .i64 0, .int .i64 0, .int .i64 0, .bool false, .bool false]), .slice none 0 0, .slice none 0 0, .int .i64 0, .int .i64 0], []⟩ 12 (by kernel_rfl) (by kernel_rfl) (by kernel_rfl) (by kernel_rfl)) ?_
 intro W base args ds gs before hval hW _ _
 refine law_contract (P := Try.prog) Try.laidOut (by kernel_rfl) rfl (by kernel_rfl : Try.f3.resultTypes = #[4]) Try.underlying4 (fun ds h => ?_) (fun W base args ds ps hval hA => ?_) W base args ds gs before hval hW
 ·match ds, h with
  | [d0, d1, d2, d3, d4], _ => rfl
 ·rw [Try.params3] at hA hval
  obtain ⟨v0, l0, _, _, _, _, e0, _, _, t0, hA⟩ := trodAll_cons hA
  obtain ⟨v1, l1, _, _, _, _, e1, _, _, t1, hA⟩ := trodAll_cons hA
  obtain ⟨v2, l2, _, _, _, _, e2, _, _, t2, hA⟩ := trodAll_cons hA
  obtain ⟨v3, l3, _, _, _, _, e3, _, _, t3, hA⟩ := trodAll_cons hA
  obtain ⟨v4, l4, _, _, _, _, e4, _, _, t4, hA⟩ := trodAll_cons hA
  obtain ⟨e5, _, _⟩ := trodAll_nil hA
  subst e5 e4 e3 e2 e1
  obtain rfl : args = [v0, v1, v2, v3, v4].toArray := by rw [← e0]
  obtain ⟨m0, cs0, o0, rfl, h0⟩ := argStruct Try.underlying26 vt26 (hval 0 _ _ rfl rfl) t0
  obtain ⟨p0_0, k0_0, rfl, h0_0⟩ := h0
  obtain ⟨m1, p1, k1, o1, rfl, h1⟩ := argSlice Try.underlying27 vt27 (hval 1 _ _ rfl rfl) t1
  obtain ⟨m2, p2, k2, o2, rfl, h2⟩ := argSlice Try.underlying28 vt28 (hval 2 _ _ rfl rfl) t2
  obtain ⟨m3, o3, rfl⟩ := argInt Try.underlying3 (hval 3 _ _ rfl rfl) t3
  obtain ⟨m4, o4, rfl⟩ := argInt Try.underlying3 (hval 4 _ _ rfl rfl) t4
  have hl := law m0 m1 m2 m3 m4 o0 o1 o2 o3 o4
  have hc := c_wormtubtop_TopForged (FW W) m0 p0_0 k0_0 h0_0 m1 p1 k1 h1 m2 p2 k2 h2 m3 m4
  rw [hl] at hc
  exact hc
theorem said_TopForged (law : LawTopForged) : Rows.TopForgedSaid :=
 OpenClaim.holds_of_wide 3 Try.f3 rfl rfl rfl rfl rfl rfl rfl ⟨rfl, rfl, rfl, rfl, rfl⟩ rfl rfl rfl rfl rfl (by kernel_rfl) Try.func3 (by kernel_rfl)
  (of_decide_eq_true (by kernel_rfl)) (by unfold Func.isWrapper; first | (rw [if_pos (by decide +kernel)]; kernel_rfl) | (rw [if_neg (by decide +kernel)]; exact ⟨rfl, rfl⟩))
  (fun os started H enc _ => lifted_TopForged law os started H enc)
end Go.Proofs.Ytkffpbnbjnadnaa
end

section
namespace Go.Proofs.Ytkffpbnbjnadnaa
open Go.Dec
theorem mix_bd {a T : Int} {v w : ApiSpan} (h : 1 ≤ a ∧ a ≤ T) (hg : goodV v w) : (mixV a T v w).Lo * T ≤ a * v.Hi + (T - a) * w.Hi ∧ a * v.Lo + (T - a) * w.Lo ≤ (mixV a T v w).Hi * T := by
  obtain ⟨bv, bw⟩ := hg
  have m1 : a * v.Lo ≤ a * v.Hi := Int.mul_le_mul_of_nonneg_left bv.2.1 (by omega)
  have m2 : (T - a) * w.Lo ≤ (T - a) * w.Hi := Int.mul_le_mul_of_nonneg_left bw.2.1 (by omega)
  constructor
  · have := Int.ediv_mul_le (a * v.Lo + (T - a) * w.Lo) (b := T) (by omega)
    show (a * v.Lo + (T - a) * w.Lo) / T * T ≤ _
    omega
  · have := Int.lt_ediv_add_one_mul_self (a * v.Hi + (T - a) * w.Hi + T - 1) (b := T) (by omega)
    rw [Int.add_mul, Int.one_mul] at this
    show _ ≤ (a * v.Hi + (T - a) * w.Hi + T - 1) / T * T
    omega
theorem later_nil : ∀ {vs us : List ApiSpan} {k : Int}, (∀ (i : Nat) (v u : ApiSpan), vs[i]? = some v → us[i]? = some u → offV u v = false) → laterL k vs us = []
  | [], us, k, _ => by simp [laterL]
  | v :: vs, [], k, _ => by simp [laterL]
  | v :: vs, u :: us, k, h => by
    have h0 := h 0 v u rfl rfl
    simp only [laterL, h0, Bool.false_eq_true, if_false, List.nil_append]
    exact later_nil fun i v' u' h1 h2 => h (i + 1) v' u' (by simpa using h1) (by simpa using h2)
theorem mix_one {a T x : Int} : a * x + (T - a) * x = T * x := by rw [Int.sub_mul]; omega
theorem comes_fit {a t : Int} {b : ApiSuspect} {x : ApiSource} (h : Comes a t b x x) (h1 : b.Glass ≤ x.Drawn) (h2 : b.Paper ≤ x.Drawn) : fitB b x = true := by
  have hat := h.at_
  have hstr := h.str
  rw [mix_one] at hstr
  have hs : ¬ x.Strength.Hi < b.Strength.Lo := fun hlt => by
    have : t * x.Strength.Hi < t * b.Strength.Lo := Int.mul_lt_mul_of_pos_left hlt (by omega)
    rw [Int.mul_comm t b.Strength.Lo] at this
    omega
  have hl : laterL 0 x.Values b.Seen = [] := later_nil fun i v u hv hu => by
    obtain ⟨v', w', h3, h4, bv, bw, bu, k1, k2⟩ := h.val i u hu
    rw [hv] at h3 h4; cases h3; cases h4
    rw [mix_one] at k1 k2
    unfold offV
    rw [Bool.or_eq_false_iff, decide_eq_false_iff_not, decide_eq_false_iff_not]
    constructor
    · intro hlt
      have : t * v.Hi < t * u.Lo := Int.mul_lt_mul_of_pos_left hlt (by omega)
      rw [Int.mul_comm t u.Lo] at this
      omega
    · intro hlt
      have : t * u.Hi < t * v.Lo := Int.mul_lt_mul_of_pos_left hlt (by omega)
      rw [Int.mul_comm t u.Hi] at this
      omega
  unfold fitB reasL
  rw [hl]
  simp only [decide_eq_true_eq]
  rw [if_neg (by omega), if_neg (by omega), if_neg hs]
  rfl
section
variable {values : List ApiSpan} {glass drawn : Int} {x16 : ApiBatch} {n last : Nat} {d0 : ApiDraught} {S0 SL : ApiSource} {R0 rest : List ApiSource} {T : Int} {sus : ApiSuspect}
theorem span_iff {s : ApiSpan} {m : Int} (h : m_genuine_isSpan s m = true) : 0 ≤ s.Lo ∧ s.Lo ≤ s.Hi ∧ s.Hi ≤ m := by
  simp only [m_genuine_isSpan, Bool.and_eq_true, decide_eq_true_eq, ge_iff_le] at h; omega
theorem forged_comes (hV : Valid x16) (hsh : x16.Shrink = ApiSpan.mk 0 0) (hF : First values drawn n x16 d0 S0 R0 SL last T) (hg : sus.Glass = glass) (hp : sus.Paper = glass) (hgd : glass ≤ drawn) (hst : sus.Strength = strF x16 x16.Water)
    (hse : ∀ (i : Nat) (u : ApiSpan), sus.Seen[i]? = some u → ∃ v w, S0.Values[i]? = some v ∧ SL.Values[i]? = some w ∧ goodV v w ∧ u = mixV d0.Amount T v w)
    (h0 : SrcOK n S0) (hL : SrcOK n SL) (hs : SusOK n sus) : Comes d0.Amount T sus S0 SL := by
  have ha := hF.at_
  have s0 := span_iff h0.str
  have sL := span_iff hL.str
  have sS := span_iff hs.str
  have few := (vals_iff.1 hs.vals).1
  refine ⟨by omega, ?_, by omega, by omega, by omega, ?_, few, fun q u hu => ?_⟩
  · rw [hF.drawn0, hF.drawnL, hg, hp]
    refine decide_eq_false ?_
    unfold imin imax
    split <;> split <;> omega
  · have hb := bds hV hV.water.1 hV.water.2
    have hw := hV.water
    have hlo : sus.Strength.Lo = imin 10000 (sumLo x16.Draughts * 10000 / ((sumA x16.Draughts + x16.Water) * (10000 - x16.Shrink.Lo))) := by rw [hst]; rfl
    rw [hsh] at hlo
    have hle : sus.Strength.Lo ≤ sumLo x16.Draughts * 10000 / ((sumA x16.Draughts + x16.Water) * 10000) := by
      rw [hlo]; exact (imin_le (a := 10000)).2.1
    rw [← hF.total] at hle
    have hTw : 0 < (T + x16.Water) * 10000 := by omega
    have e1 := Int.ediv_mul_le (sumLo x16.Draughts * 10000) (b := (T + x16.Water) * 10000) (by omega)
    have e2 : sus.Strength.Lo * ((T + x16.Water) * 10000) ≤ sumLo x16.Draughts * 10000 / ((T + x16.Water) * 10000) * ((T + x16.Water) * 10000) := Int.mul_le_mul_of_nonneg_right hle (by omega)
    have e3 : sus.Strength.Lo * ((T + x16.Water) * 10000) = sus.Strength.Lo * (T + x16.Water) * 10000 := by rw [Int.mul_assoc]
    have e4 : sus.Strength.Lo * T ≤ sus.Strength.Lo * (T + x16.Water) := Int.mul_le_mul_of_nonneg_left (by omega) sS.1
    have := hF.str
    omega
  · obtain ⟨v, w, hv, hw, hgood, rfl⟩ := hse q u hu
    have hu' := (vals_iff.1 hs.vals).2 _ (List.mem_of_getElem? hu)
    obtain ⟨k1, k2⟩ := mix_bd (a := d0.Amount) (T := T) (by omega) hgood
    exact ⟨v, w, hv, hw, hgood.1, hgood.2, hu', k1, k2⟩
theorem cancel_le {g x y : Int} (hg : 1 ≤ g) (h : g * x ≤ g * y) : x ≤ y := Int.le_of_mul_le_mul_left h (by omega)
theorem forged_end (hc : Comes d0.Amount T sus S0 SL) (hF : First values drawn n x16 d0 S0 R0 SL last T) (hg : sus.Glass ≤ drawn) (hp : sus.Paper ≤ drawn) (hall : ∀ s ∈ S0 :: rest, SrcOK S0.Values.length s) (hl : (S0 :: rest).length ≤ 64) (hs : SusOK S0.Values.length sus) (hat : (S0 :: rest)[last]? = some SL) :
    ∃ single pairs p1 p2, m_genuine_Origins sus (S0 :: rest) = some (single, pairs, 0) ∧ m_genuine_Share sus (S0 :: rest) 0 (last : Int) = some (p1, p2, 0) ∧ 1 ≤ p1.Den ∧ 1 ≤ p2.Den ∧ w64 (p1.Num * T) ≤ w64 (d0.Amount * p1.Den) ∧ w64 (d0.Amount * p2.Den) ≤ w64 (p2.Num * T) ∧ single.length ≤ 1000 ∧ pairs.length ≤ 100000 ∧
      ((∃ v ∈ single, v ≤ (last : Int)) ∨ ∃ f ∈ pairs, f 0 = 0 ∧ f 1 = (last : Int)) := by
  have ha := hF.at_
  have hval := areValid_eq hs hall hl
  have hlen : ∀ x ∈ S0 :: rest, x.Values.length = sus.Seen.length := fun x hx => by rw [(hall x hx).len, hs.len]
  have few := hc.few
  obtain ⟨single, pairs, g1, _, _, g4, g5, g6, g7⟩ := origins1 hlen few hl (S0 :: rest).length 0 [] [] (by omega) (by simp at hl ⊢; omega) (by simp at hl ⊢; omega)
  obtain ⟨s, hsh, hok⟩ := shared_ok hc
  obtain ⟨ga, p1, e1, ga1, na, da, bn, bd⟩ := portion_ok hok.la hok.lb
  obtain ⟨gb, p2, e2, gb1, nb, db, cn, cd⟩ := portion_ok hok.ma hok.mb
  have hlo := hok.lo
  have hhi := hok.hi
  rw [na, da] at hlo
  rw [nb, db] at hhi
  have hlo' : p1.Num * T ≤ d0.Amount * p1.Den := cancel_le ga1 (by
    have f1 : ga * p1.Num * T = ga * (p1.Num * T) := Int.mul_assoc _ _ _
    have f2 : d0.Amount * (ga * p1.Den) = ga * (d0.Amount * p1.Den) := Int.mul_left_comm _ _ _
    omega)
  have hhi' : d0.Amount * p2.Den ≤ p2.Num * T := cancel_le gb1 (by
    have f1 : gb * p2.Num * T = gb * (p2.Num * T) := Int.mul_assoc _ _ _
    have f2 : d0.Amount * (gb * p2.Den) = gb * (d0.Amount * p2.Den) := Int.mul_left_comm _ _ _
    omega)
  have m1 := mul_bd (x := p1.Num) (y := T) (m := 4194304) (n := 2147483648) bn (by omega)
  have m2 := mul_bd (x := d0.Amount) (y := p1.Den) (m := 1073741824) (n := 4194304) (by omega) (by omega)
  have m3 := mul_bd (x := p2.Num) (y := T) (m := 4194304) (n := 2147483648) cn (by omega)
  have m4 := mul_bd (x := d0.Amount) (y := p2.Den) (m := 1073741824) (n := 4194304) (by omega) (by omega)
  refine ⟨single, pairs, p1, p2, ?_, ?_, bd.1, cd.1, ?_, ?_, by simp at g4 hl; omega, by simp at g5 hl; omega, ?_⟩
  · unfold m_genuine_Origins
    refine bind_of hval ?_
    simp only [Bool.not_true, Bool.false_eq_true, if_false]
    exact bind_of g1 rfl
  · unfold m_genuine_Share
    refine bind_of hval ?_
    have hll := lt_get hat
    have hw : w64 (((S0 :: rest).length : Int) - 1) = ((S0 :: rest).length : Int) - 1 := w64_id (by omega) (by omega)
    have w0 : m_genuine_within 0 0 (((S0 :: rest).length : Int) - 1) = true := by
      simp only [m_genuine_within, Bool.and_eq_true, decide_eq_true_eq, ge_iff_le]; omega
    have w1 : m_genuine_within (last : Int) 0 (((S0 :: rest).length : Int) - 1) = true := by
      simp only [m_genuine_within, Bool.and_eq_true, decide_eq_true_eq, ge_iff_le]; omega
    have i0 : idxL (S0 :: rest) 0 = some S0 := rfl
    simp only [hw, w0, w1, Bool.not_true, Bool.or_self, Bool.false_eq_true, if_false, i0, idxL_nat, hat, Option.bind_some]
    refine bind_of hsh ?_
    simp only [hok.none, Bool.false_eq_true, if_false]
    exact bind_of e1 (bind_of e2 rfl)
  · rw [w64_id (by omega) (by omega), w64_id (by omega) (by omega)]; exact hlo'
  · rw [w64_id (by omega) (by omega), w64_id (by omega) (by omega)]; exact hhi'
  · have h00 : (S0 :: rest)[0]? = some S0 := rfl
    cases f0 : fitB sus S0 with
    | true => exact .inl ⟨0, g6 0 S0 (by omega) h00 f0, by omega⟩
    | false =>
      cases fL : fitB sus SL with
      | true => exact .inl ⟨(last : Int), g6 last SL (by omega) hat fL, by omega⟩
      | false =>
        by_cases hz : last = 0
        · subst hz
          rw [h00] at hat; cases hat
          have := comes_fit hc (by rw [hF.drawn0]; exact hg) (by rw [hF.drawn0]; exact hp)
          rw [f0] at this; cases this
        · right
          exact g7 0 last S0 SL s (by omega) (by omega) h00 hat f0 fL hsh hok.none
end
theorem bindv_of {α β : Type} {x : α} {f : α → Option β} {r : Option β} (h : ∀ y, y = x → f y = r) : bindv x f = r := h x rfl
theorem law_TopForged : LawTopForged := by
  intro b others values glass drawn
  intros
  have haw : (m_wormtubtop_awake13.bind fun r => some r) = some true := by rw [awake13_true]; rfl
  unfold m_wormtubtop_TopForged
  refine bindv_of (fun x16 hx => ?_)
  have hsh : x16.Shrink = ApiSpan.mk 0 0 := by rw [hx]
  clear hx
  simp only [bindv]
  by_cases hc : x16.Draughts.length < 1 ∨ x16.Draughts.length > 2 ∨ others.length > 6 ∨ values.length > 24
  · rw [if_pos (by simp; omega), Option.bind_some, if_pos rfl]; exact haw
  rw [if_neg (by simp; omega), refBatch_eq x16 (by omega)]
  simp only [Option.bind_some]
  cases hv : validB x16 with
  | false => simp only [Bool.not_false, if_true]; exact haw
  | true =>
    simp only [Bool.not_true, Bool.false_eq_true, if_false]
    have hV := (validB_iff x16).1 hv
    have hn : w64 (Int.tdiv (values.length : Int) 2) = ((values.length / 2 : Nat) : Int) := by
      rw [Int.tdiv_eq_ediv_of_nonneg (by omega), w64_id (by omega) (by omega)]; omega
    rw [hn]
    obtain ⟨n, hnn⟩ : ∃ n, values.length / 2 = n := ⟨_, rfl⟩
    rw [hnn]
    rcases blend_prog x16 (by omega) with ⟨h, _⟩ | ⟨_, x, hbl, hk⟩
    · rw [hv] at h; cases h
    refine bind_of hbl ?_
    rw [if_neg (by simp)]
    obtain ⟨d0, S0, R0, SL, last, T, hl1, hF⟩ := forged1 (values := values) (drawn := drawn) (n := n) hV (by omega) (by omega) (by omega)
    refine bind_of hl1 ?_
    have hfew := hF.few
    have hlast : w64 (((S0 :: R0).length : Int) - 1) = (last : Int) := by
      rw [List.length_cons, w64_id (by omega) (by omega)]; omega
    simp only [hlast]
    rcases forged2 hF (by omega) (ApiSuspect.mk glass glass x.Strength []) n 0 [] (by omega) rfl (fun i u h => by simp at h) with h2 | ⟨seen, h2, hsl, hse⟩
    · exact bind_of h2 rfl
    refine bind_of h2 ?_
    have happ : appO (S0 :: R0) others = some (S0 :: (R0 ++ others)) := appO_some' (by simp; omega)
    simp only []
    refine bind_of happ ?_
    by_cases hg : glass < 0 ∨ glass > drawn
    · rw [if_pos (by simpa using hg)]
      simp only [Option.bind_some, if_true]
      exact haw
    rw [if_neg (by simp; omega)]
    obtain ⟨r, hr, hr2⟩ := sources_doc (s0 := S0) (rest := R0 ++ others) (by simp; omega)
    obtain ⟨q, hq, hq2⟩ := suspect_doc (s0 := S0) (rest := R0 ++ others) (ApiSuspect.mk glass glass x.Strength seen)
    simp only [hr, Option.bind_some]
    cases r with
    | false => simp only [Bool.not_false, if_true, Option.bind_some]; exact haw
    | true =>
      simp only [Bool.not_true, Bool.false_eq_true, if_false, hq, Option.bind_some]
      cases q with
      | false => simp only [Bool.not_false, if_true]; exact haw
      | true =>
        simp only [Bool.not_true, Bool.false_eq_true, if_false]
        obtain ⟨hl64, hall⟩ := hr2 rfl
        have hsus := hq2 rfl
        have hat : (S0 :: (R0 ++ others))[last]? = some SL := by
          have h3 := hF.atL
          have h4 := lt_get h3
          rw [← List.cons_append, List.getElem?_append_left h4]; exact h3
        have hS0 := hall S0 (by simp)
        have hSL := hall SL (List.mem_of_getElem? hat)
        have hn0 := hF.len0
        have hc := forged_comes (glass := glass) (sus := ApiSuspect.mk glass glass x.Strength seen) hV hsh hF rfl rfl (by omega) hk.str hse (by rw [← hn0]; exact hS0) (by rw [← hn0]; exact hSL) (by rw [← hn0]; exact hsus)
        obtain ⟨single, pairs, p1, p2, ho, hsr, k1, k2, k3, k4, k5, k6, k7⟩ := forged_end hc hF (show glass ≤ drawn by omega) (show glass ≤ drawn by omega) hall hl64 hsus hat
        have i1 : idxL x16.Draughts 0 = some d0 := hF.head
        refine bind_of ho (bind_of hsr (bind_of i1 ?_))
        rw [if_neg (by simp; omega)]
        rcases check0 (body := b_wormtubtop_TopForged_3 (last : Int) (single, pairs, 0)) (good := (Sum.inl () : Unit ⊕ Bool)) (fun _ => .inr true) (fun v => !decide (v ≤ (last : Int))) (l := single)
          (fun i v hi => by
            have hil := lt_get hi
            have c1 : decide ((i : Int) < (single.length : Int)) = true := decide_eq_true (Int.ofNat_lt.2 hil)
            unfold b_wormtubtop_TopForged_3
            simp only [c1, if_true, idxL_nat, hi, Option.bind_some, awake13_true, bindv, nx (show i ≤ 1000000 by omega)]
            cases decide (v ≤ (last : Int)) <;> rfl)
          (by unfold b_wormtubtop_TopForged_3; simp) with ⟨c1, c2⟩ | ⟨_, _, _, _, c2⟩
        · refine bind_of c2 ?_
          simp only []
          rcases check0 (body := b_wormtubtop_TopForged_4 (last : Int) (single, pairs, 0)) (good := (Sum.inl () : Unit ⊕ Bool)) (fun _ => .inr true) (fun f => !eq_55 f (arrOf [0, (last : Int)] 0)) (l := pairs)
            (fun i f hi => by
              have hil := lt_get hi
              have c1 : decide ((i : Int) < (pairs.length : Int)) = true := decide_eq_true (Int.ofNat_lt.2 hil)
              unfold b_wormtubtop_TopForged_4
              simp only [c1, if_true, idxL_nat, hi, Option.bind_some, awake13_true, bindv, nx (show i ≤ 1000000 by omega)]
              cases eq_55 f (arrOf [0, (last : Int)] 0) <;> rfl)
            (by unfold b_wormtubtop_TopForged_4; simp) with ⟨d1, d2⟩ | ⟨_, _, _, _, d2⟩
          · exfalso
            rcases k7 with ⟨v, hv1, hv2⟩ | ⟨f, hf1, hf2, hf3⟩
            · have := c1 v hv1
              simp at this; omega
            · have := d1 f hf1
              have e : eq_55 f (arrOf [0, (last : Int)] 0) = true := by
                unfold eq_55; simp [hf2, hf3, arrOf]
              rw [e] at this; cases this
          · exact bind_of d2 rfl
        · exact bind_of c2 rfl
theorem topForged_holds : Rows.TopForgedSaid := said_TopForged law_TopForged
end Go.Proofs.Ytkffpbnbjnadnaa
end
