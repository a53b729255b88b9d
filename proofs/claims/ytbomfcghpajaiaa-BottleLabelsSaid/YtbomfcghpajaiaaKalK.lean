/- What is owned, read and written element by element; made slices; maps. No program. -/
import Derived.Test.YtbomfcghpajaiaaKalJ
namespace Go.Dec
variable {κ : Option Nat}

theorem GC.noneM {β : Type} {P : Program} {c : Code} {ks : List Kt} {Q : Exit → Act → World → Prop} {A : Act → World → Prop} {r : β} : GC κ P c ks Q A (none : Option β) r := fun h => by cases h
theorem GL.noneM {β : Type} {P : Program} {ops : Array Oper} {l : List Oper} {ks : List Kt} {Q : Exit → Act → World → Prop} {A : Act → World → Prop} {r : β} : GL κ P ops l ks Q A (none : Option β) r := fun h => by cases h

/-! ### Elements of what is owned -/
theorem own_at {α : Type} {w : World} {F F0 : Fz} {H : HP} {sz : Nat} {c : ERel α} {T : TypeId} {p : Option Addr} {cap : Nat} {l : List α} {k : Nat} {z : α} (h : SH w F (star (ownSl sz c F0 T p cap l) H)) (hl : l[k]? = some z) :
    ∃ b cs, p = some ⟨b, 0, none⟩ ∧ cs.length = cap * sz ∧ l.length ≤ cap ∧ Parts sz c F0 l cs ∧ SH w F (star (pt b (.cells (List.toArray cs) T (0, 0))) H) ∧ cap ≤ 9223372036854775807 := by
  obtain ⟨m, ⟨m1, m2, d, s1, s2, ⟨h1, h2, h3⟩, hq⟩, k'⟩ := h
  have := lt_of_getEl hl
  rcases h3 with ⟨rfl, h0⟩ | ⟨b, cs, rfl, hb, hlen, hp⟩
  · omega
  · exact ⟨b, cs, rfl, hlen, h1, hp, ⟨m, ⟨m1, m2, d, s1, s2, hb, hq⟩, k'⟩, h2⟩

section
variable {β : Type} {P : Program} {ops : Array Oper} {rest : List Oper} {ks : List Kt} {Q : Exit → Act → World → Prop} {m : Option β} {r : β}
variable {n : Nat} {D : List Deferred} {S : List (Nat × Value)} {F F0 : Fz} {hs : List HP}
variable {d : Nat} {ty t t' e : TypeId} {pos : String} {after : Array Edge} {ox oy oz : Operand} {v u : Value} {kd : IntKind} {x y : Int}

theorem GL.ownAddr {α : Type} {sz : Nat} {c : ERel α} {T : TypeId} {p : Option Addr} {cap : Nat} {l : List α} {z : α} {l0 : List Oper} (i : Nat) (hi : hs[i]? = some (ownSl sz c F0 T p cap l)) (hl : idxL l x = some z)
    (k : ∀ b, p = some ⟨b, 0, none⟩ → GL κ P ops l0 ks Q (Hd n D S F hs) m r) : GL κ P ops l0 ks Q (Hd n D S F hs) m r := fun hm a w ha => by
  obtain ⟨b, _, hp, _⟩ := own_at (ha.2.pull hi) (idxL_some hl).2.2
  exact k b hp hm a w ha
theorem GC.ownAddr {α : Type} {cd : Code} {sz : Nat} {c : ERel α} {T : TypeId} {p : Option Addr} {cap : Nat} {l : List α} {z : α} (i : Nat) (hi : hs[i]? = some (ownSl sz c F0 T p cap l)) (hl : idxL l x = some z)
    (k : ∀ b, p = some ⟨b, 0, none⟩ → GC κ P cd ks Q (Hd n D S F hs) m r) : GC κ P cd ks Q (Hd n D S F hs) m r := fun hm a w ha => by
  obtain ⟨b, _, hp, _⟩ := own_at (ha.2.pull hi) (idxL_some hl).2.2
  exact k b hp hm a w ha
theorem GL.idxOwn {α : Type} {sz : Nat} {p : Option Addr} {cap b : Nat} {l : List α} {z : α} (hd : Nat.blt d n = true) (ht : P.underlying t = some (.slice e)) (hz : ∀ w, (sizeOf e).run P w = .ok sz w)
    (hp : p = some ⟨b, 0, none⟩) (hl : idxL l x = some z) (hx : evalS S ox = some (.slice p l.length cap)) (hy : evalS S oy = some (.int kd x))
    (k : GL κ P ops rest ks Q (Hd n D ((d, .pointer (some ⟨b, 0 + x.toNat * sz, none⟩)) :: S) F hs) m r) :
    GL κ P ops (⟨some d, .indexAddr t ox oy, ty, pos, after, none⟩ :: rest) ks Q (Hd n D S F hs) m r := by
  subst hp
  obtain ⟨h0, h1, _⟩ := idxL_some hl
  exact GL.indexAddrS hd ht hz hx hy (by unfold idxO; rw [if_pos (by omega)]) k
/-- One cell of an element. -/
theorem GL.loadOwn {α : Type} {sz b off o : Nat} {c : ERel α} {T : TypeId} {p : Option Addr} {cap : Nat} {l : List α} {z : α} {Φ : Value → Prop} (i : Nat) (hi : hs[i]? = some (ownSl sz c F0 T p cap l)) (le0 : F0 ≤ F) (hd : Nat.blt d n = true) (hA : ∀ w, (isAgg t).run P w = .ok false w)
    (hp : p = some ⟨b, 0, none⟩) (hl : idxL l x = some z) (hx : evalS S ox = some (.pointer (some ⟨b, o, none⟩))) (ho : o = 0 + x.toNat * sz + off)
    (hg : ∀ vs, c F z vs → ∃ v, vs[off]? = some v ∧ Φ v) (k : ∀ v, Φ v → GL κ P ops rest ks Q (Hd n D ((d, v) :: S) F hs) m r) :
    GL κ P ops (⟨some d, .load t ox, ty, pos, after, none⟩ :: rest) ks Q (Hd n D S F hs) m r := by
  refine GL.step rfl (.inr rfl) fun hm a w ha => ?_
  obtain ⟨b', cs, hp', hlen, hcap, hparts, hsh, _⟩ := own_at (ha.2.pull hi) (idxL_some hl).2.2
  rw [hp] at hp'; cases hp'
  obtain ⟨v, hv, hΦ⟩ := hg _ (hparts _ _ (idxL_some hl).2.2 F le0)
  refine ⟨v, w, ?_, k v hΦ hm _ _ ⟨ha.1.put hd _, ha.2⟩⟩
  have hc : cs[o]? = some v := by subst ho; rw [Nat.zero_add]; exact cell_of_take rfl hv
  simp [execOp, ha.1.eval hx, run_load1 hA (by rw [cell_of_heap hsh.owned]; exact hc)]
/-- Several cells of an element. -/
theorem GL.loadOwnA {α : Type} {sz b off o sz' : Nat} {c : ERel α} {T : TypeId} {p : Option Addr} {cap : Nat} {l : List α} {z : α} {Φ : List Value → Prop} (i : Nat) (hi : hs[i]? = some (ownSl sz c F0 T p cap l)) (le0 : F0 ≤ F) (hd : Nat.blt d n = true) (hA : ∀ w, (isAgg t).run P w = .ok true w) (hz : ∀ w, (sizeOf t).run P w = .ok sz' w)
    (hp : p = some ⟨b, 0, none⟩) (hl : idxL l x = some z) (hx : evalS S ox = some (.pointer (some ⟨b, o, none⟩))) (ho : o = 0 + x.toNat * sz + off) (hs' : Nat.ble (off + sz') sz = true)
    (hg : ∀ vs, c F z vs → ∃ us, (vs.drop off).take sz' = us ∧ us.length = sz' ∧ Φ us) (k : ∀ us, Φ us → GL κ P ops rest ks Q (Hd n D ((d, .agg us.toArray) :: S) F hs) m r) :
    GL κ P ops (⟨some d, .load t ox, ty, pos, after, none⟩ :: rest) ks Q (Hd n D S F hs) m r := by
  refine GL.step rfl (.inr rfl) fun hm a w ha => ?_
  obtain ⟨b', cs, hp', hlen, hcap, hparts, hsh, _⟩ := own_at (ha.2.pull hi) (idxL_some hl).2.2
  rw [hp] at hp'; cases hp'
  obtain ⟨us, hv, hul, hΦ⟩ := hg _ (hparts _ _ (idxL_some hl).2.2 F le0)
  refine ⟨.agg us.toArray, w, ?_, k us hΦ hm _ _ ⟨ha.1.put hd _, ha.2⟩⟩
  have hc : (cs.drop o).take sz' = us := by subst ho; rw [Nat.zero_add]; exact take_of_take rfl hv hs'
  simp [execOp, ha.1.eval hx, run_loadA hA hz hsh.owned hc hul]

theorem setMany_drop_lt : ∀ (vs cs : List Value) (o k : Nat), o + vs.length ≤ k → (setMany cs o vs).drop k = cs.drop k
  | [], cs, o, k, _ => rfl
  | v :: vs, cs, o, k, h => by
    simp only [List.length_cons] at h
    simp only [setMany]
    rw [setMany_drop_lt vs _ _ k (by omega), List.drop_set_of_lt (by omega)]
theorem setMany_take_ge : ∀ (vs cs : List Value) (o k : Nat), k ≤ o → (setMany cs o vs).take k = cs.take k
  | [], cs, o, k, _ => rfl
  | v :: vs, cs, o, k, h => by
    simp only [setMany]
    rw [setMany_take_ge vs _ _ k (by omega), List.take_set_of_le (by omega)]
theorem setMany_shift : ∀ (vs cs : List Value) (o a : Nat), (setMany cs (a + o) vs).drop a = setMany (cs.drop a) o vs
  | [], cs, o, a => rfl
  | v :: vs, cs, o, a => by
    simp only [setMany]
    rw [show a + o + 1 = a + (o + 1) by omega, setMany_shift vs _ (o + 1) a]
    congr 1
    rw [List.drop_set, if_neg (by omega)]; congr 1; omega
theorem setMany_prefix : ∀ (vs cs : List Value) (o n : Nat), o + vs.length ≤ n → (setMany cs o vs).take n = setMany (cs.take n) o vs
  | [], cs, o, n, _ => rfl
  | v :: vs, cs, o, n, h => by
    simp only [List.length_cons] at h
    simp only [setMany]
    rw [setMany_prefix vs _ (o + 1) n (by omega)]
    congr 1
    rw [List.take_set]
theorem Parts.set {α : Type} {sz off k : Nat} {c : ERel α} {F0 F : Fz} {l : List α} {cs us : List Value} {z z' : α} (h : Parts sz c F0 l cs) (le0 : F0 ≤ F) (hl : l[k]? = some z) (ho : off + us.length ≤ sz) (hr : ∀ F' vs, F ≤ F' → c F' z vs → c F' z' (setMany vs off us)) : Parts sz c F (l.set k z') (setMany cs (k * sz + off) us) := by
  intro i x hx F' le
  have hk := lt_of_getEl hl
  rw [List.getElem?_set] at hx
  split at hx
  · rename_i e; subst e
    cases hx
    have := hr F' _ le (h k z hl F' (Fz.le_trans le0 le))
    rw [setMany_shift, setMany_prefix _ _ _ _ ho]; exact this
  · rename_i hne
    have h0 := h i x hx F' (Fz.le_trans le0 le)
    rcases Nat.lt_or_gt_of_ne hne with hlt | hgt
    · -- k < i
      have : k * sz + off + us.length ≤ i * sz := by
        have := Nat.mul_le_mul_right sz (show k + 1 ≤ i from hlt)
        rw [Nat.add_mul, Nat.one_mul] at this; omega
      rw [setMany_drop_lt _ _ _ _ this]; exact h0
    · have hle : (i + 1) * sz ≤ k * sz + off := by
        have := Nat.mul_le_mul_right sz (show i + 1 ≤ k from hgt)
        omega
      rw [Nat.add_mul, Nat.one_mul] at hle
      have e1 : ((setMany cs (k * sz + off) us).drop (i * sz)).take sz = ((setMany cs (k * sz + off) us).take (i * sz + sz)).drop (i * sz) := by rw [List.drop_take]; congr 1; omega
      have e2 : (cs.drop (i * sz)).take sz = (cs.take (i * sz + sz)).drop (i * sz) := by rw [List.drop_take]; congr 1; omega
      rw [e1, setMany_take_ge _ _ _ _ hle, ← e2]; exact h0
/-- A store into an element. -/
theorem GL.storeOwn {α : Type} {sz b off o sz' : Nat} {c : ERel α} {T : TypeId} {p : Option Addr} {cap : Nat} {l : List α} {z z' : α} {us : List Value} (i : Nat) (hi : hs[i]? = some (ownSl sz c F0 T p cap l)) (le0 : F0 ≤ F) (hz : ∀ w, (sizeOf t).run P w = .ok sz' w)
    (hp : p = some ⟨b, 0, none⟩) (hl : idxL l x = some z) (hx : evalS S ox = some (.pointer (some ⟨b, o, none⟩))) (ho : o = 0 + x.toNat * sz + off) (hy : evalS S oy = some v) (hc : v.cells = us.toArray) (hlen : us.length = sz') (h1 : us.all Value.oneCell' = true) (hs' : Nat.ble (off + sz') sz = true)
    (hr : ∀ F' vs, F ≤ F' → c F' z vs → c F' z' (setMany vs off us))
    (k : GL κ P ops rest ks Q (Hd n D S F (hs.set i (ownSl sz c F T p cap (l.set x.toNat z')))) m r) :
    GL κ P ops (⟨none, .store t ox oy, ty, pos, after, none⟩ :: rest) ks Q (Hd n D S F hs) m r := by
  refine GL.stepU rfl (.inr rfl) fun hm a w ha => ?_
  obtain ⟨h0, hlt, hel⟩ := idxL_some hl
  obtain ⟨b', cs, hp', hcl, hcap, hparts, hsh, hbig⟩ := own_at (ha.2.pull hi) hel
  rw [hp] at hp'; cases hp'
  have hs'' := Nat.le_of_ble_eq_true hs'
  have hroom : x.toNat * sz + off + us.length ≤ cs.length := by
    have := Nat.mul_le_mul_right sz (show x.toNat + 1 ≤ cap by omega)
    rw [Nat.add_mul, Nat.one_mul] at this; rw [hcl]; omega
  refine ⟨put w b (.cells (setMany cs (x.toNat * sz + off) us).toArray T (0, 0)), ?_, k hm _ _ ⟨ha.1.put_none _, SH.push hi (hsh.put.mono fun m hm => star_mono_left (fun m' hm' => ⟨by simpa using hcap, hbig, .inr ⟨b, _, hp, hm', by rw [length_setMany]; exact hcl, hparts.set le0 hel (by omega) hr⟩⟩) hm)⟩⟩
  have hrun := run_storeCells (P := P) (o := x.toNat * sz + off) (i := 0) hsh.owned (by simpa using hroom) h1
  simp only [Nat.add_zero] at hrun
  subst ho
  simp only [execOp, Instr.storeAt, ha.1.eval hx, ha.1.eval hy, Instr.sureAddr, storeVar, Sem.run_bind, hz, Result.andThen, hc]
  simp [hlen, hrun]
end
end Go.Dec
