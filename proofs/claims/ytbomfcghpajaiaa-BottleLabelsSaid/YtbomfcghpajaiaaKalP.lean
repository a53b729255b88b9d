/- The frame of a law: whatever the arguments, the call returns true and leaves all that was there as it was. No program. -/
import Derived.Test.YtbomfcghpajaiaaKalO
namespace Go.Dec
open Go.ChangeShapes Go.WideShapes Go.ChangeAt Go.RowKit

section
variable {H : Type} {enc : TypeId × Value → H} {P : Program} {W : World}

/-- What an argument of one cell is. -/
theorem cell_of_ok {r : Reach} {b0 : Nat} {t : TypeId} {v x : Value} (hk : Value.okWide P W r b0 t v) (hn : ∀ fs, P.underlying t ≠ some (.struct fs)) (ha : ∀ n e, P.underlying t ≠ some (.array n e)) (hc : v.cells.toList = [x]) : v = x := by
  have hk' : Cell.okWide P W r b0 t v := by
    unfold Value.okWide at hk
    split at hk
    · rename_i fs h; exact absurd h (hn fs)
    · rename_i n e h; exact absurd h (ha n e)
    · exact hk
  cases v with
  | agg cs =>
    exfalso
    unfold Cell.okWide at hk'
    split at hk' <;> first | contradiction | skip
    unfold Cell.ok at hk'
    split at hk' <;> first | contradiction | exact hk'
  | _ => simpa [Value.cells] using hc

theorem argInt {b0 : Nat} {t : TypeId} {k : IntKind} {v : Value} {d : DataW H} {ps : List MemPlace} (ht : P.underlying t = some (.int k)) (hk : Value.okWide P W .any b0 t v) (hd : DataW.Trod enc P W 0 (fun _ => true) true t v d ps) :
    ∃ m, (Lit.int k m).wf = true ∧ v = .int k m := by
  obtain ⟨n, h, _, _, hw⟩ := open_int ht hk hd
  exact ⟨n, hw, h⟩
theorem argBool {b0 : Nat} {t : TypeId} {v : Value} {d : DataW H} {ps : List MemPlace} (ht : P.underlying t = some .bool) (hk : Value.okWide P W .any b0 t v) (hd : DataW.Trod enc P W 0 (fun _ => true) true t v d ps) :
    ∃ m, v = .bool m := by
  obtain ⟨n, h, _⟩ := open_bool ht hk hd
  exact ⟨n, h⟩
theorem argSlice {α : Type} {b0 : Nat} {t e : TypeId} {sz : Nat} {c : ERel α} {ok : List α → Prop} {v : Value} {d : DataW H} {ps : List MemPlace} (ht : P.underlying t = some (.slice e)) (V : Viewed enc P W t (rSl sz c) ok)
    (hk : Value.okWide P W .any b0 t v) (hd : DataW.Trod enc P W 0 (fun _ => true) true t v d ps) :
    ∃ m p k, ok m ∧ v = .slice p m.length k ∧ RepSl sz c (FW W) p k m := by
  obtain ⟨fuel, hf⟩ := hd
  obtain ⟨m, hm, hF⟩ := V _ _ _ _ _ hf
  obtain ⟨p, k, hc, hr⟩ := hF _ (Fz.le_refl _)
  exact ⟨m, p, k, hm, cell_of_ok hk (by rw [ht]; simp) (by rw [ht]; simp) hc, hr⟩
theorem argStruct {α : Type} {b0 : Nat} {t : TypeId} {fs : Array Field} {c : ERel α} {ok : α → Prop} {v : Value} {d : DataW H} {ps : List MemPlace} (ht : P.underlying t = some (.struct fs)) (V : Viewed enc P W t c ok)
    (hk : Value.okWide P W .any b0 t v) (hd : DataW.Trod enc P W 0 (fun _ => true) true t v d ps) :
    ∃ m cs, ok m ∧ v = .agg (List.toArray cs) ∧ c (FW W) m cs := by
  obtain ⟨fuel, hf⟩ := hd
  obtain ⟨m, hm, hF⟩ := V _ _ _ _ _ hf
  unfold Value.okWide at hk
  rw [ht] at hk
  obtain ⟨cs, rfl, _⟩ := hk
  exact ⟨m, cs.toList, hm, by simp, hF _ (Fz.le_refl _)⟩
theorem argArray {α : Type} {b0 n e : Nat} {t : TypeId} {c : ERel α} {ok : α → Prop} {v : Value} {d : DataW H} {ps : List MemPlace} (ht : P.underlying t = some (.array n e)) (V : Viewed enc P W t c ok)
    (hk : Value.okWide P W .any b0 t v) (hd : DataW.Trod enc P W 0 (fun _ => true) true t v d ps) :
    ∃ m cs, ok m ∧ v = .agg (List.toArray cs) ∧ c (FW W) m cs := by
  obtain ⟨fuel, hf⟩ := hd
  obtain ⟨m, hm, hF⟩ := V _ _ _ _ _ hf
  unfold Value.okWide at hk
  rw [ht] at hk
  obtain ⟨cs, rfl, _⟩ := hk
  exact ⟨m, cs.toList, hm, by simp, hF _ (Fz.le_refl _)⟩

theorem below_of {w' : World} {F' : Fz} {H' : HP} (le : FW W ≤ F') (h : SH w' F' H') : Below W.heap.size W w' := by
  obtain ⟨h1, h2⟩ := SH.size_le h (fun b o e => e) le
  obtain ⟨m, _, hm⟩ := h
  exact ⟨hm.os.trans le.os, hm.tape.trans le.tape, hm.out.trans le.out, h1, h2⟩

theorem trodAll_stays {W' : World} (hl : laidOutB P = true) (hb : Below W.heap.size W W') : ∀ {ts : List TypeId} {vs : List Value} {ds : List (DataW H)} {ps : List MemPlace}, (ts.all fun t => P.readableRec t && decide (t < P.types.size)) = true →
    DataW.TrodAll enc P W 0 (fun _ => true) true ts vs ds ps → (∀ x ∈ ps, x.block < W.heap.size) → DataW.TrodAll enc P W' 0 (fun b => decide (b < W.heap.size)) true ts vs ds ps
  | [], vs, ds, ps, _, h, _ => by
    obtain ⟨rfl, rfl, rfl⟩ := trodAll_nil h
    rfl
  | t :: ts, vs, ds, ps, ht, h, hlt => by
    obtain ⟨v, vs', d, ds', p, q, rfl, rfl, rfl, hd, hr⟩ := trodAll_cons h
    simp only [List.all_cons, Bool.and_eq_true, decide_eq_true_eq] at ht
    exact ⟨p, q, hb.trod hl ht.1.1 ht.1.2 hd (fun x hx => hlt x (by simp [hx])), trodAll_stays hl hb (by simpa using ht.2) hr (fun x hx => hlt x (by simp [hx])), rfl⟩

theorem trodAll_len : ∀ {ts : List TypeId} {vs : List Value} {ds : List (DataW H)} {ps : List MemPlace} {b : Nat} {sp : Nat → Bool} {hd : Bool}, DataW.TrodAll enc P W b sp hd ts vs ds ps → ds.length = ts.length
  | [], vs, ds, ps, _, _, _, h => by obtain ⟨_, rfl, _⟩ := trodAll_nil h; rfl
  | t :: ts, vs, ds, ps, _, _, _, h => by
    obtain ⟨v, vs', d, ds', p, q, rfl, rfl, rfl, _, hr⟩ := trodAll_cons h
    simp [trodAll_len hr]
end

/-- What a law's row asks. -/
theorem law_contract {H : Type} {enc : TypeId × Value → H} {P : Program} {f : FuncId} {fn : Func} {s : ChangeSpec} {tb : TypeId} {fresh : Bool} (hP : laidOutB P = true) (hread : (fn.params.toList.all fun t => P.readableRec t && decide (t < P.types.size)) = true)
    (hvars : s.vars = []) (hrT : fn.resultTypes = #[tb]) (htb : P.underlying tb = some .bool)
    (hspec : ∀ ds : List (DataW H), ds.length = fn.params.toList.length → s.fn H ds = { results := [.lit (.bool true)], args := ds })
    (hcall : ∀ (W : World) (base : Nat) (args : Array Value) (ds : List (DataW H)) (ps : List MemPlace), (∀ (j : Nat) t v, fn.params[j]? = some t → args[j]? = some v → Value.okWide P W .any base t v) →
      DataW.TrodAll enc P W 0 (fun _ => true) true fn.params.toList args.toList ds ps → CT0 P f args (FW W) (some true) (fun r _ v => v = .bool r))
    (W : World) (base : Nat) (args : Array Value) (ds gs : List (DataW H)) (before : List MemPlace)
    (hval : ∀ (j : Nat) t v, fn.params[j]? = some t → args[j]? = some v → Value.okWide P W .any base t v)
    (hW : DataW.Whole enc P fn.params.toList s.vars false W args.toList ds gs before) :
    Calls P f args W fun e W' => ∃ v, e = .returned v ∧ s.post enc P fn false fresh false false W args v W' := by
  have hW' := hW
  obtain ⟨p, q, hA, hV, rfl, hz, hn⟩ := hW
  rw [hvars] at hV
  obtain ⟨rfl, rfl⟩ := trodVars_none hV
  refine (hcall W base args ds p hval hA true rfl W emp (SH.start W)).mono fun e W' ⟨F', v, le, he, hv, hs⟩ => ⟨v, he, ?_⟩
  subst hv
  have hb := below_of le hs
  have hlt : ∀ x ∈ p, x.block < W.heap.size := fun x hx => hW'.lt x (by simp [hx])
  have hsp : s.fn H (ds ++ []) = { results := [.lit (.bool true)], args := ds } := by
    rw [List.append_nil]; exact hspec ds (trodAll_len hA)
  refine ⟨ds, [], p ++ [], [], p, [], hW', ?_, ?_, ?_, hb.frame _, fun h => by cases h⟩
  · rw [hsp, hrT]
    exact trodAll_mk1 (shut_bool htb true)
  · rw [hsp]
    exact trodAll_stays hP hb hread hA hlt
  · rw [hsp, hvars]; rfl

end Go.Dec
