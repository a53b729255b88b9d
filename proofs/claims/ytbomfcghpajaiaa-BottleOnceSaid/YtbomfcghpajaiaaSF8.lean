/- Printed by gen.py: the frame of a law: its row holds if its model is always true. -/
import Derived.Test.YtbomfcghpajaiaaSV
import Derived.Test.YtbomfcghpajaiaaS9
namespace Go.Proofs.Ytbomfcghpajaiaa
open Go.Dec
open Go.ChangeShapes Go.WideShapes Go.ChangeAt Go.RowKit

def LawBottleOnce : Prop := ∀ (a0 : (List ApiStampEvent)) (a1 : Int) (a2 : Int), (∀ y ∈ a0, okApiStampEvent y) → (Lit.int .u8 a1).wf = true → (Lit.int .i8 a2).wf = true → m_wormtublaw12_BottleOnce a0 a1 a2 = some true
set_option maxRecDepth 100000 in
theorem lifted_BottleOnce (law : LawBottleOnce) (os : Os) (started : os.Started) (H : Type) (enc : TypeId × Value → H) :
    ReturnsInHanded {} Try.checked os 8 .any (Rows.bottleOnceSpec.pre6 enc Try.prog Try.f8 Rows.bottleOnceRow.domain false) (Rows.bottleOnceSpec.post enc Try.prog Try.f8 false true false false) := by
  refine returnsInHanded_of_change (C := Try.checked) Try.own started (by kernel_rfl) Try.func8 (ChangeSpec.witness6 (enc := enc) (C := Try.checked) false ⟨#[], #[.slice none 0 0, .int .u8 0, .int .i8 0], []⟩ 12 (by kernel_rfl) (by kernel_rfl) (by kernel_rfl) (by kernel_rfl)) ?_
  intro W base args ds gs before hval hW _ _
  refine law_contract (P := Try.prog) Try.laidOut (by kernel_rfl) rfl (by kernel_rfl : Try.f8.resultTypes = #[4]) Try.underlying4 (fun ds h => ?_) (fun W base args ds ps hval hA => ?_) W base args ds gs before hval hW
  · match ds, h with
    | [d0, d1, d2], _ => rfl
  · rw [Try.params8] at hA hval
    obtain ⟨v0, l0, _, _, _, _, e0, _, _, t0, hA⟩ := trodAll_cons hA
    obtain ⟨v1, l1, _, _, _, _, e1, _, _, t1, hA⟩ := trodAll_cons hA
    obtain ⟨v2, l2, _, _, _, _, e2, _, _, t2, hA⟩ := trodAll_cons hA
    obtain ⟨e3, _, _⟩ := trodAll_nil hA
    subst e3 e2 e1
    obtain rfl : args = [v0, v1, v2].toArray := by rw [← e0]
    obtain ⟨m0, p0, k0, o0, rfl, h0⟩ := argSlice Try.underlying22 vt22 (hval 0 _ _ rfl rfl) t0
    obtain ⟨m1, o1, rfl⟩ := argInt Try.underlying5 (hval 1 _ _ rfl rfl) t1
    obtain ⟨m2, o2, rfl⟩ := argInt Try.underlying68 (hval 2 _ _ rfl rfl) t2
    have hl := law m0 m1 m2 o0 o1 o2
    have hc := c_wormtublaw12_BottleOnce (FW W) m0 p0 k0 h0 m1 m2
    rw [hl] at hc
    exact hc
theorem said_BottleOnce (law : LawBottleOnce) : Rows.BottleOnceSaid :=
  OpenClaim.holds_of_wide 8 Try.f8 rfl rfl rfl rfl rfl rfl rfl ⟨rfl, rfl, rfl, rfl, rfl⟩ rfl rfl rfl rfl rfl (by kernel_rfl) Try.func8 (by kernel_rfl)
    (of_decide_eq_true (by kernel_rfl)) (by unfold Func.isWrapper; first | (rw [if_pos (by decide +kernel)]; kernel_rfl) | (rw [if_neg (by decide +kernel)]; exact ⟨rfl, rfl⟩))
    (fun os started H enc _ => lifted_BottleOnce law os started H enc)

end Go.Proofs.Ytbomfcghpajaiaa
