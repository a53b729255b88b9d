/-
  BottleStamps: where any stamps are, and the batch on whose bottle any one is, are the document's, or the event and the error that end them.
  No condition: the given statement, for every input.
-/
import Derived.Test.YtbomfcghpajaiaaLf
import Derived.Test.YtbomfcghpajaiaaSE0
import Derived.Test.YtbomfcghpajaiaaSF3
namespace Go.Proofs.Ytbomfcghpajaiaa
open Go.Dec

theorem awake_ok : m_wormtublaw12_awake = some true := (e_m_wormtublaw12_awake 100).out true (by decide +kernel)

theorem spans_same (s : List ApiSpan) (h : s.length ≤ 1000000) : m_wormtubref12_Spans s s = some true := by
  unfold m_wormtubref12_Spans
  simp only [bne_self_eq_false, Bool.false_eq_true, if_false]
  have key := loop_list (body := b_wormtubref12_Spans_1 s s) (fun (_ : Unit) i => (i : Int)) (fun _ _ _ => some (.next ())) (fun _ => .inl ()) s
    (fun t i x hx => by
      have hi := lt_of_getEl hx
      unfold b_wormtubref12_Spans_1
      simp only [idxL_nat, hx, Option.bind_some, bindv]
      rw [w64_id (by omega) (by omega)]
      simp only [show (decide ((i : Int) < (s.length : Int))) = true by simpa using hi, if_true]
      simp [eq_36, Ctl.mapN])
    (fun t => by unfold b_wormtubref12_Spans_1; simp) ()
  simp only [Int.natCast_zero] at key
  rw [key]
  have : ∀ (l : List ApiSpan) (i : Nat), goL (fun (_ : Unit) _ (_ : ApiSpan) => some (.next ())) (fun _ => (.inl () : Unit ⊕ Bool)) l i () = some (.inl ()) := by
    intro l
    induction l with
    | nil => intro i; rfl
    | cons x l ih => intro i; exact ih (i + 1)
  rw [this]; rfl

theorem law_BottleStamps : LawBottleStamps := by
  intro l stamp _ _
  unfold m_wormtublaw12_BottleStamps
  have fin : ∀ {A B : ApiStampBook × Int × Int} {C D : Int × Int}, A = B → C = D → A.1.Hand.length ≤ 1000000 → m_bottle_Stamps l = some A → m_wormtubref12_Stamps l = some B → m_bottle_Whose l stamp = some C → m_wormtubref12_Whose l stamp = some D →
      ((m_bottle_Stamps l).bind fun r_20 => (m_wormtubref12_Stamps l).bind fun r_27 => (m_bottle_Whose l stamp).bind fun r_34 => (m_wormtubref12_Whose l stamp).bind fun r_37 => (m_wormtubref12_Spans r_20.1.Hand r_27.1.Hand).bind fun r_40 => bindv (((r_40 && (r_20.1.Stuck == r_27.1.Stuck)) && (r_20.1.Spoiled == r_27.1.Spoiled)) && (r_20.1.Returned == r_27.1.Returned)) fun same53 => (if ((((same53 && (r_20.2.1 == r_27.2.1)) && (r_20.2.2 == r_27.2.2)) && (r_34.1 == r_37.1)) && (r_34.2 == r_37.2)) then ((m_wormtublaw12_awake).bind fun r_74 => some r_74) else some false).bind fun z78 => some z78) = some true := by
    intro A B C D hAB hCD hlen h1 h2 h3 h4
    subst hAB hCD
    refine bind_of h1 (bind_of h2 (bind_of h3 (bind_of h4 (bind_of (spans_same _ hlen) ?_))))
    simp only [bindv, beq_self_eq_true, Bool.and_self, if_true, awake_ok, Option.bind_some]
  split
  · simp only [awake_ok, Option.bind_some]
  · rename_i hg
    by_cases h256 : l.length ≤ 256
    · rcases stamps_prog l h256 with ⟨p, x, hb, hr⟩ | ⟨ho, hd, n1, n2, n3, hr⟩
      · rcases stamps_ref (hd := []) l h256 (fun h => absurd h hb.not_ok) with ⟨p', x', hb', hr'⟩ | ⟨ho, _⟩
        · obtain ⟨rfl, rfl⟩ := hb.unique hb'
          have he : errAt p x ≠ 0 := by obtain ⟨_, _, _, h⟩ := hb; exact h
          exact fin rfl rfl (by simp [noBook]) hr hr' (whose_bad stamp hr he) (whose_ref_bad stamp hr' he)
        · exact absurd ho hb.not_ok
      · rcases stamps_ref (hd := hd) l h256 (fun _ => ⟨n1, n2, n3⟩) with ⟨p', x', hb', hr'⟩ | ⟨_, hr'⟩
        · exact absurd ho hb'.not_ok
        · exact fin rfl rfl (by simp only; omega) hr hr' (whose_prog stamp h256 ho) (whose_ref stamp h256 hr')
    · exact fin rfl rfl (by simp [noBook]) (stamps_long l (by omega)) (stamps_ref_long l (by omega)) (whose_bad stamp (stamps_long l (by omega)) (by decide)) (whose_ref_bad stamp (stamps_ref_long l (by omega)) (by decide))

theorem bottleStamps_holds : Rows.BottleStampsSaid := said_BottleStamps law_BottleStamps
#print axioms bottleStamps_holds

end Go.Proofs.Ytbomfcghpajaiaa
