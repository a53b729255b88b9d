/- Printed by gen.py: what the arguments of the laws read as. -/
import Derived.Test.YtbomfcghpajaiaaKalR
import Derived.Test.YtbomfcghpajaiaaT0
import Derived.Test.YtbomfcghpajaiaaRows
namespace Go.Proofs.Ytbomfcghpajaiaa
open Go.Dec

theorem Try.own : ownKnob Try.prog.godebug = none := by kernel_rfl
theorem Try.laidOut : laidOutB Try.prog = true := by kernel_rfl
def okApiCask (x : ApiCask) : Prop := (Lit.int .i64 x.Number).wf = true ∧ (Lit.int .i64 x.Wood).wf = true ∧ (Lit.int .i64 x.Place).wf = true ∧ (Lit.int .i64 x.Room).wf = true ∧ (Lit.int .i64 x.Owner).wf = true ∧ (Lit.int .i64 x.Creditor).wf = true ∧ (Lit.int .i64 x.Amount).wf = true ∧ (Lit.int .i64 x.Age).wf = true ∧ (∀ i, i < 8 → (Lit.int .i64 (x.Woods i)).wf = true) ∧ (∀ i, i < 8 → (Lit.int .i64 (x.Places i)).wf = true)
theorem vApiCask {H : Type} {enc : TypeId × Value → H} {W : World} : Viewed enc Try.prog W 49 (Ex cApiCask) okApiCask := by
  intro sp held fuel cs x h
  obtain ⟨xs, k, _, _, hl, hxl, hx⟩ := DataW.trod_struct Try.underlying49 h
  have hl' : cs.length = 24 := hl.trans (by kernel_rfl)
  obtain ⟨y0, h0⟩ := some_of (hx 0 _ rfl) hxl rfl
  have e0 : Try.prog.cellsOf 3 = 1 := by kernel_rfl
  obtain ⟨m0, o0, q0⟩ := (Viewed.int Try.underlying3) _ _ _ _ _ h0
  obtain ⟨y1, h1⟩ := some_of (hx 1 _ rfl) hxl rfl
  have e1 : Try.prog.cellsOf 3 = 1 := by kernel_rfl
  obtain ⟨m1, o1, q1⟩ := (Viewed.int Try.underlying3) _ _ _ _ _ h1
  obtain ⟨y2, h2⟩ := some_of (hx 2 _ rfl) hxl rfl
  have e2 : Try.prog.cellsOf 3 = 1 := by kernel_rfl
  obtain ⟨m2, o2, q2⟩ := (Viewed.int Try.underlying3) _ _ _ _ _ h2
  obtain ⟨y3, h3⟩ := some_of (hx 3 _ rfl) hxl rfl
  have e3 : Try.prog.cellsOf 3 = 1 := by kernel_rfl
  obtain ⟨m3, o3, q3⟩ := (Viewed.int Try.underlying3) _ _ _ _ _ h3
  obtain ⟨y4, h4⟩ := some_of (hx 4 _ rfl) hxl rfl
  have e4 : Try.prog.cellsOf 3 = 1 := by kernel_rfl
  obtain ⟨m4, o4, q4⟩ := (Viewed.int Try.underlying3) _ _ _ _ _ h4
  obtain ⟨y5, h5⟩ := some_of (hx 5 _ rfl) hxl rfl
  have e5 : Try.prog.cellsOf 3 = 1 := by kernel_rfl
  obtain ⟨m5, o5, q5⟩ := (Viewed.int Try.underlying3) _ _ _ _ _ h5
  obtain ⟨y6, h6⟩ := some_of (hx 6 _ rfl) hxl rfl
  have e6 : Try.prog.cellsOf 3 = 1 := by kernel_rfl
  obtain ⟨m6, o6, q6⟩ := (Viewed.int Try.underlying3) _ _ _ _ _ h6
  obtain ⟨y7, h7⟩ := some_of (hx 7 _ rfl) hxl rfl
  have e7 : Try.prog.cellsOf 3 = 1 := by kernel_rfl
  obtain ⟨m7, o7, q7⟩ := (Viewed.int Try.underlying3) _ _ _ _ _ h7
  obtain ⟨y8, h8⟩ := some_of (hx 8 _ rfl) hxl rfl
  have e8 : Try.prog.cellsOf 47 = 8 := by kernel_rfl
  obtain ⟨m8, o8, q8⟩ := (Viewed.array (sz := 1) (0 : Int) Try.underlying47 (by kernel_rfl) (by kernel_rfl) (Viewed.int Try.underlying3)) _ _ _ _ _ h8
  obtain ⟨y9, h9⟩ := some_of (hx 9 _ rfl) hxl rfl
  have e9 : Try.prog.cellsOf 47 = 8 := by kernel_rfl
  obtain ⟨m9, o9, q9⟩ := (Viewed.array (sz := 1) (0 : Int) Try.underlying47 (by kernel_rfl) (by kernel_rfl) (Viewed.int Try.underlying3)) _ _ _ _ _ h9
  refine ⟨⟨m0, m1, m2, m3, m4, m5, m6, m7, m8, m9⟩, ⟨o0, o1, o2, o3, o4, o5, o6, o7, o8, o9⟩, fun F' le => ?_⟩
  have w0 : (cs.drop 0).take (Try.prog.cellsOf 3) = (cInt .i64) m0 := q0 F' le
  rw [e0] at w0
  have w1 : (cs.drop 1).take (Try.prog.cellsOf 3) = (cInt .i64) m1 := q1 F' le
  rw [e1] at w1
  have w2 : (cs.drop 2).take (Try.prog.cellsOf 3) = (cInt .i64) m2 := q2 F' le
  rw [e2] at w2
  have w3 : (cs.drop 3).take (Try.prog.cellsOf 3) = (cInt .i64) m3 := q3 F' le
  rw [e3] at w3
  have w4 : (cs.drop 4).take (Try.prog.cellsOf 3) = (cInt .i64) m4 := q4 F' le
  rw [e4] at w4
  have w5 : (cs.drop 5).take (Try.prog.cellsOf 3) = (cInt .i64) m5 := q5 F' le
  rw [e5] at w5
  have w6 : (cs.drop 6).take (Try.prog.cellsOf 3) = (cInt .i64) m6 := q6 F' le
  rw [e6] at w6
  have w7 : (cs.drop 7).take (Try.prog.cellsOf 3) = (cInt .i64) m7 := q7 F' le
  rw [e7] at w7
  have w8 : (cs.drop 8).take (Try.prog.cellsOf 47) = (cArr 8 (cInt .i64)) m8 := q8 F' le
  rw [e8] at w8
  have w9 : (cs.drop 16).take (Try.prog.cellsOf 47) = (cArr 8 (cInt .i64)) m9 := q9 F' le
  rw [e9] at w9
  exact (cat_cons w0 (cat_cons w1 (cat_cons w2 (cat_cons w3 (cat_cons w4 (cat_cons w5 (cat_cons w6 (cat_cons w7 (cat_cons w8 (cat_cons w9 (cat_nil hl')))))))))))
def okApiSpan (x : ApiSpan) : Prop := (Lit.int .i64 x.Lo).wf = true ∧ (Lit.int .i64 x.Hi).wf = true
theorem vApiSpan {H : Type} {enc : TypeId × Value → H} {W : World} : Viewed enc Try.prog W 36 (Ex cApiSpan) okApiSpan := by
  intro sp held fuel cs x h
  obtain ⟨xs, k, _, _, hl, hxl, hx⟩ := DataW.trod_struct Try.underlying36 h
  have hl' : cs.length = 2 := hl.trans (by kernel_rfl)
  obtain ⟨y0, h0⟩ := some_of (hx 0 _ rfl) hxl rfl
  have e0 : Try.prog.cellsOf 3 = 1 := by kernel_rfl
  obtain ⟨m0, o0, q0⟩ := (Viewed.int Try.underlying3) _ _ _ _ _ h0
  obtain ⟨y1, h1⟩ := some_of (hx 1 _ rfl) hxl rfl
  have e1 : Try.prog.cellsOf 3 = 1 := by kernel_rfl
  obtain ⟨m1, o1, q1⟩ := (Viewed.int Try.underlying3) _ _ _ _ _ h1
  refine ⟨⟨m0, m1⟩, ⟨o0, o1⟩, fun F' le => ?_⟩
  have w0 : (cs.drop 0).take (Try.prog.cellsOf 3) = (cInt .i64) m0 := q0 F' le
  rw [e0] at w0
  have w1 : (cs.drop 1).take (Try.prog.cellsOf 3) = (cInt .i64) m1 := q1 F' le
  rw [e1] at w1
  exact (cat_cons w0 (cat_cons w1 (cat_nil hl')))
def okApiDraught (x : ApiDraught) : Prop := okApiCask x.From ∧ (Lit.int .i64 x.Amount).wf = true ∧ okApiSpan x.Strength
theorem vApiDraught {H : Type} {enc : TypeId × Value → H} {W : World} : Viewed enc Try.prog W 51 (Ex cApiDraught) okApiDraught := by
  intro sp held fuel cs x h
  obtain ⟨xs, k, _, _, hl, hxl, hx⟩ := DataW.trod_struct Try.underlying51 h
  have hl' : cs.length = 27 := hl.trans (by kernel_rfl)
  obtain ⟨y0, h0⟩ := some_of (hx 0 _ rfl) hxl rfl
  have e0 : Try.prog.cellsOf 49 = 24 := by kernel_rfl
  obtain ⟨m0, o0, q0⟩ := vApiCask _ _ _ _ _ h0
  obtain ⟨y1, h1⟩ := some_of (hx 1 _ rfl) hxl rfl
  have e1 : Try.prog.cellsOf 3 = 1 := by kernel_rfl
  obtain ⟨m1, o1, q1⟩ := (Viewed.int Try.underlying3) _ _ _ _ _ h1
  obtain ⟨y2, h2⟩ := some_of (hx 2 _ rfl) hxl rfl
  have e2 : Try.prog.cellsOf 36 = 2 := by kernel_rfl
  obtain ⟨m2, o2, q2⟩ := vApiSpan _ _ _ _ _ h2
  refine ⟨⟨m0, m1, m2⟩, ⟨o0, o1, o2⟩, fun F' le => ?_⟩
  have w0 : (cs.drop 0).take (Try.prog.cellsOf 49) = cApiCask m0 := q0 F' le
  rw [e0] at w0
  have w1 : (cs.drop 24).take (Try.prog.cellsOf 3) = (cInt .i64) m1 := q1 F' le
  rw [e1] at w1
  have w2 : (cs.drop 25).take (Try.prog.cellsOf 36) = cApiSpan m2 := q2 F' le
  rw [e2] at w2
  exact (cat_cons w0 (cat_cons w1 (cat_cons w2 (cat_nil hl'))))
def okApiBatch (x : ApiBatch) : Prop := (∀ y10 ∈ x.Draughts, okApiDraught y10) ∧ (Lit.int .i64 x.Water).wf = true ∧ okApiSpan x.Shrink ∧ True ∧ True
theorem vApiBatch {H : Type} {enc : TypeId × Value → H} {W : World} : Viewed enc Try.prog W 38 rApiBatch okApiBatch := by
  intro sp held fuel cs x h
  obtain ⟨xs, k, _, _, hl, hxl, hx⟩ := DataW.trod_struct Try.underlying38 h
  have hl' : cs.length = 6 := hl.trans (by kernel_rfl)
  obtain ⟨y0, h0⟩ := some_of (hx 0 _ rfl) hxl rfl
  have e0 : Try.prog.cellsOf 34 = 1 := by kernel_rfl
  obtain ⟨m0, o0, q0⟩ := (Viewed.slice (sz := 27) Try.underlying34 (by kernel_rfl) (by decide) vApiDraught) _ _ _ _ _ h0
  obtain ⟨y1, h1⟩ := some_of (hx 1 _ rfl) hxl rfl
  have e1 : Try.prog.cellsOf 3 = 1 := by kernel_rfl
  obtain ⟨m1, o1, q1⟩ := (Viewed.int Try.underlying3) _ _ _ _ _ h1
  obtain ⟨y2, h2⟩ := some_of (hx 2 _ rfl) hxl rfl
  have e2 : Try.prog.cellsOf 36 = 2 := by kernel_rfl
  obtain ⟨m2, o2, q2⟩ := vApiSpan _ _ _ _ _ h2
  obtain ⟨y3, h3⟩ := some_of (hx 3 _ rfl) hxl rfl
  have e3 : Try.prog.cellsOf 4 = 1 := by kernel_rfl
  obtain ⟨m3, o3, q3⟩ := (Viewed.bool Try.underlying4) _ _ _ _ _ h3
  obtain ⟨y4, h4⟩ := some_of (hx 4 _ rfl) hxl rfl
  have e4 : Try.prog.cellsOf 4 = 1 := by kernel_rfl
  obtain ⟨m4, o4, q4⟩ := (Viewed.bool Try.underlying4) _ _ _ _ _ h4
  refine ⟨⟨m0, m1, m2, m3, m4⟩, ⟨o0, o1, o2, o3, o4⟩, fun F' le => ?_⟩
  have w0 : (rSl 27 (Ex cApiDraught)) F' m0 ((cs.drop 0).take (Try.prog.cellsOf 34)) := q0 F' le
  rw [e0] at w0
  obtain ⟨p0_0, p0_1, w0, r0_0⟩ := w0
  have w1 : (cs.drop 1).take (Try.prog.cellsOf 3) = (cInt .i64) m1 := q1 F' le
  rw [e1] at w1
  have w2 : (cs.drop 2).take (Try.prog.cellsOf 36) = cApiSpan m2 := q2 F' le
  rw [e2] at w2
  have w3 : (cs.drop 4).take (Try.prog.cellsOf 4) = cBool m3 := q3 F' le
  rw [e3] at w3
  have w4 : (cs.drop 5).take (Try.prog.cellsOf 4) = cBool m4 := q4 F' le
  rw [e4] at w4
  exact ⟨p0_0, p0_1, (cat_cons w0 (cat_cons w1 (cat_cons w2 (cat_cons w3 (cat_cons w4 (cat_nil hl')))))), r0_0⟩
def okApiClaim (x : ApiClaim) : Prop := (Lit.int .i64 x.Kind).wf = true ∧ (Lit.int .i64 x.What).wf = true ∧ (Lit.int .i64 x.Number).wf = true
theorem vApiClaim {H : Type} {enc : TypeId × Value → H} {W : World} : Viewed enc Try.prog W 46 (Ex cApiClaim) okApiClaim := by
  intro sp held fuel cs x h
  obtain ⟨xs, k, _, _, hl, hxl, hx⟩ := DataW.trod_struct Try.underlying46 h
  have hl' : cs.length = 3 := hl.trans (by kernel_rfl)
  obtain ⟨y0, h0⟩ := some_of (hx 0 _ rfl) hxl rfl
  have e0 : Try.prog.cellsOf 3 = 1 := by kernel_rfl
  obtain ⟨m0, o0, q0⟩ := (Viewed.int Try.underlying3) _ _ _ _ _ h0
  obtain ⟨y1, h1⟩ := some_of (hx 1 _ rfl) hxl rfl
  have e1 : Try.prog.cellsOf 3 = 1 := by kernel_rfl
  obtain ⟨m1, o1, q1⟩ := (Viewed.int Try.underlying3) _ _ _ _ _ h1
  obtain ⟨y2, h2⟩ := some_of (hx 2 _ rfl) hxl rfl
  have e2 : Try.prog.cellsOf 3 = 1 := by kernel_rfl
  obtain ⟨m2, o2, q2⟩ := (Viewed.int Try.underlying3) _ _ _ _ _ h2
  refine ⟨⟨m0, m1, m2⟩, ⟨o0, o1, o2⟩, fun F' le => ?_⟩
  have w0 : (cs.drop 0).take (Try.prog.cellsOf 3) = (cInt .i64) m0 := q0 F' le
  rw [e0] at w0
  have w1 : (cs.drop 1).take (Try.prog.cellsOf 3) = (cInt .i64) m1 := q1 F' le
  rw [e1] at w1
  have w2 : (cs.drop 2).take (Try.prog.cellsOf 3) = (cInt .i64) m2 := q2 F' le
  rw [e2] at w2
  exact (cat_cons w0 (cat_cons w1 (cat_cons w2 (cat_nil hl'))))
def okApiLabelRule (x : ApiLabelRule) : Prop := (Lit.int .i64 x.Country).wf = true ∧ (Lit.int .i64 x.Least).wf = true ∧ (Lit.int .i64 x.Most).wf = true ∧ (Lit.int .i64 x.Age).wf = true ∧ (Lit.int .i64 x.Must).wf = true ∧ (Lit.int .i64 x.Never).wf = true
theorem vApiLabelRule {H : Type} {enc : TypeId × Value → H} {W : World} : Viewed enc Try.prog W 114 (Ex cApiLabelRule) okApiLabelRule := by
  intro sp held fuel cs x h
  obtain ⟨xs, k, _, _, hl, hxl, hx⟩ := DataW.trod_struct Try.underlying114 h
  have hl' : cs.length = 6 := hl.trans (by kernel_rfl)
  obtain ⟨y0, h0⟩ := some_of (hx 0 _ rfl) hxl rfl
  have e0 : Try.prog.cellsOf 3 = 1 := by kernel_rfl
  obtain ⟨m0, o0, q0⟩ := (Viewed.int Try.underlying3) _ _ _ _ _ h0
  obtain ⟨y1, h1⟩ := some_of (hx 1 _ rfl) hxl rfl
  have e1 : Try.prog.cellsOf 3 = 1 := by kernel_rfl
  obtain ⟨m1, o1, q1⟩ := (Viewed.int Try.underlying3) _ _ _ _ _ h1
  obtain ⟨y2, h2⟩ := some_of (hx 2 _ rfl) hxl rfl
  have e2 : Try.prog.cellsOf 3 = 1 := by kernel_rfl
  obtain ⟨m2, o2, q2⟩ := (Viewed.int Try.underlying3) _ _ _ _ _ h2
  obtain ⟨y3, h3⟩ := some_of (hx 3 _ rfl) hxl rfl
  have e3 : Try.prog.cellsOf 3 = 1 := by kernel_rfl
  obtain ⟨m3, o3, q3⟩ := (Viewed.int Try.underlying3) _ _ _ _ _ h3
  obtain ⟨y4, h4⟩ := some_of (hx 4 _ rfl) hxl rfl
  have e4 : Try.prog.cellsOf 3 = 1 := by kernel_rfl
  obtain ⟨m4, o4, q4⟩ := (Viewed.int Try.underlying3) _ _ _ _ _ h4
  obtain ⟨y5, h5⟩ := some_of (hx 5 _ rfl) hxl rfl
  have e5 : Try.prog.cellsOf 3 = 1 := by kernel_rfl
  obtain ⟨m5, o5, q5⟩ := (Viewed.int Try.underlying3) _ _ _ _ _ h5
  refine ⟨⟨m0, m1, m2, m3, m4, m5⟩, ⟨o0, o1, o2, o3, o4, o5⟩, fun F' le => ?_⟩
  have w0 : (cs.drop 0).take (Try.prog.cellsOf 3) = (cInt .i64) m0 := q0 F' le
  rw [e0] at w0
  have w1 : (cs.drop 1).take (Try.prog.cellsOf 3) = (cInt .i64) m1 := q1 F' le
  rw [e1] at w1
  have w2 : (cs.drop 2).take (Try.prog.cellsOf 3) = (cInt .i64) m2 := q2 F' le
  rw [e2] at w2
  have w3 : (cs.drop 3).take (Try.prog.cellsOf 3) = (cInt .i64) m3 := q3 F' le
  rw [e3] at w3
  have w4 : (cs.drop 4).take (Try.prog.cellsOf 3) = (cInt .i64) m4 := q4 F' le
  rw [e4] at w4
  have w5 : (cs.drop 5).take (Try.prog.cellsOf 3) = (cInt .i64) m5 := q5 F' le
  rw [e5] at w5
  exact (cat_cons w0 (cat_cons w1 (cat_cons w2 (cat_cons w3 (cat_cons w4 (cat_cons w5 (cat_nil hl')))))))
theorem vt3 {H : Type} {enc : TypeId × Value → H} {W : World} : Viewed enc Try.prog W 3 (Ex (cInt .i64)) (fun x => (Lit.int .i64 x).wf = true) := (Viewed.int Try.underlying3)
theorem vt38 {H : Type} {enc : TypeId × Value → H} {W : World} : Viewed enc Try.prog W 38 rApiBatch (fun x => okApiBatch x) := vApiBatch
theorem vt39 {H : Type} {enc : TypeId × Value → H} {W : World} : Viewed enc Try.prog W 39 (rSl 3 (Ex cApiClaim)) (fun x => (∀ y1 ∈ x, okApiClaim y1)) := (Viewed.slice (sz := 3) Try.underlying39 (by kernel_rfl) (by decide) vApiClaim)
theorem vt75 {H : Type} {enc : TypeId × Value → H} {W : World} : Viewed enc Try.prog W 75 (rSl 6 (Ex cApiLabelRule)) (fun x => (∀ y1 ∈ x, okApiLabelRule y1)) := (Viewed.slice (sz := 6) Try.underlying75 (by kernel_rfl) (by decide) vApiLabelRule)

end Go.Proofs.Ytbomfcghpajaiaa
