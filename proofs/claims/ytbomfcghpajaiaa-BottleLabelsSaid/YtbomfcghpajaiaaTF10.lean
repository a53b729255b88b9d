/- Printed by gen.py: the frame of a law: its row holds if its model is always true. -/
import Derived.Test.YtbomfcghpajaiaaTV
import Derived.Test.YtbomfcghpajaiaaT5
namespace Go.Proofs.Ytbomfcghpajaiaa
open Go.Dec
open Go.ChangeShapes Go.WideShapes Go.ChangeAt Go.RowKit

def LawBottleLabels : Prop := ∀ (a0 : ApiBatch) (a1 : (List ApiClaim)) (a2 : (List ApiLabelRule)) (a3 : Int), okApiBatch a0 → (∀ y ∈ a1, okApiClaim y) → (∀ y ∈ a2, okApiLabelRule y) → (Lit.int .i64 a3).wf = true → m_wormtublaw12_BottleLabels a0 a1 a2 a3 = some true
set_option maxRecDepth 100000 in
theorem lifted_BottleLabels (law : LawBottleLabels) (os : Os) (started : os.Started) (H : Type) (enc : TypeId × Value → H) :
    ReturnsInHanded {} Try.checked os 10 .any (Rows.bottleLabelsSpec.pre6 enc Try.prog Try.f10 Rows.bottleLabelsRow.domain false) (Rows.bottleLabelsSpec.post enc Try.prog Try.f10 false true false false) := by
  refine returnsInHanded_of_change (C := Try.checked) Try.own started (by kernel_rfl) Try.func10 (ChangeSpec.witness6 (enc := enc) (C := Try.checked) false ⟨#[], #[(.agg #[.slice none 0 0, .int .i64 0, .int .i64 0, .int .i64 0, .bool false, .bool false]), .slice none 0 0, .slice none 0 0, .int .i64 0], []⟩ 12 (by kernel_rfl) (by kernel_rfl) (by kernel_rfl) (by kernel_rfl)) ?_
  intro W base args ds gs before hval hW _ _
  refine law_contract (P := Try.prog) Try.laidOut (by kernel_rfl) rfl (by kernel_rfl : Try.f10.resultTypes = #[4]) Try.underlying4 (fun ds h => ?_) (fun W base args ds ps hval hA => ?_) W base args ds gs before hval hW
  · match ds, h with
    | [d0, d1, d2, d3], _ => rfl
  · rw [Try.params10] at hA hval
    obtain ⟨v0, l0, _, _, _, _, e0, _, _, t0, hA⟩ := trodAll_cons hA
    obtain ⟨v1, l1, _, _, _, _, e1, _, _, t1, hA⟩ := trodAll_cons hA
    obtain ⟨v2, l2, _, _, _, _, e2, _, _, t2, hA⟩ := trodAll_cons hA
    obtain ⟨v3, l3, _, _, _, _, e3, _, _, t3, hA⟩ := trodAll_cons hA
    obtain ⟨e4, _, _⟩ := trodAll_nil hA
    subst e4 e3 e2 e1
    obtain rfl : args = [v0, v1, v2, v3].toArray := by rw [← e0]
    obtain ⟨m0, cs0, o0, rfl, h0⟩ := argStruct Try.underlying38 vt38 (hval 0 _ _ rfl rfl) t0
    obtain ⟨p0_0, k0_0, rfl, h0_0⟩ := h0
    obtain ⟨m1, p1, k1, o1, rfl, h1⟩ := argSlice Try.underlying39 vt39 (hval 1 _ _ rfl rfl) t1
    obtain ⟨m2, p2, k2, o2, rfl, h2⟩ := argSlice Try.underlying75 vt75 (hval 2 _ _ rfl rfl) t2
    obtain ⟨m3, o3, rfl⟩ := argInt Try.underlying3 (hval 3 _ _ rfl rfl) t3
    have hl := law m0 m1 m2 m3 o0 o1 o2 o3
    have hc := c_wormtublaw12_BottleLabels (FW W) m0 p0_0 k0_0 h0_0 m1 p1 k1 h1 m2 p2 k2 h2 m3
    rw [hl] at hc
    exact hc
theorem said_BottleLabels (law : LawBottleLabels) : Rows.BottleLabelsSaid :=
  OpenClaim.holds_of_wide 10 Try.f10 rfl rfl rfl rfl rfl rfl rfl ⟨rfl, rfl, rfl, rfl, rfl⟩ rfl rfl rfl rfl rfl (by kernel_rfl) Try.func10 (by kernel_rfl)
    (of_decide_eq_true (by kernel_rfl)) (by unfold Func.isWrapper; first | (rw [if_pos (by decide +kernel)]; kernel_rfl) | (rw [if_neg (by decide +kernel)]; exact ⟨rfl, rfl⟩))
    (fun os started H enc _ => lifted_BottleLabels law os started H enc)

end Go.Proofs.Ytbomfcghpajaiaa
