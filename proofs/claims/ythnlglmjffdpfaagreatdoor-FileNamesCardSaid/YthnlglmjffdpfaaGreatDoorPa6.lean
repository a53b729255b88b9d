/- Own texts and texts printed by a program of mine, for fileNames_holds; only what it reaches. -/
import Derived.Test.YthnlglmjffdpfaaGreatDoorPa5
section
namespace Go.Proofs.YthnlglmjffdpfaaGreatDoor
open Go.Dec
open Go.ChangeShapes Go.WideShapes Go.ChangeAt Go.RowKit
def LawFileNames : Prop := m_wormtublaw14_FileNames = some true
set_option maxRecDepth 100000 in
theorem lifted_FileNames (law : LawFileNames) (os : Os) (started : os.Started) (H : Type) (enc : TypeId × Value → H) :
  ReturnsInHanded {} Tryz.checked os 11 .any (fun w args => (Rows.fileNamesSpec.pre enc Tryz.prog Tryz.f11 Rows.fileNamesRow.domain false w args ∧ laidMetH Tryz.prog Rows.fileNamesRow.laid w) ∧ sizedMet enc Tryz.prog Tryz.f11 (OpenSpec.ofChange Rows.fileNamesSpec) false w args) (Rows.fileNamesSpec.post enc Tryz.prog Tryz.f11 false true false false) := by
 refine lift_tied (C := Tryz.checked) (X := fun w => laidMetH Tryz.prog Rows.fileNamesRow.laid w) (fun _ _ hh h => h.of_heap hh) Tryz.own started (by kernel_rfl) Tryz.func11
  (ChangeSpec.witness_shaped (enc := enc) (C := Tryz.checked) (os := os) (X := fun w _ => laidMetH Tryz.prog Rows.fileNamesRow.laid w) false (World.laidAll Tryz.prog os Rows.fileNamesRow.laid) #[] 12 (World.laidAll_os _ _ _) (World.shaped_of_ZipB (by kernel_rfl) (by kernel_rfl)) (by kernel_rfl) (by kernel_rfl) (by kernel_rfl)
   (by rw [MakeChecks.laidMetH_plain _ _ _ (by kernel_rfl)]; exact laidMet_laidAll _ (by kernel_rfl) (by kernel_rfl))) ?_
 intro W base args ds gs before hval hW hsh hL
 have hT : TabsP (FW W) := tabs_of hL hsh
 refine law_contractW (P := Tryz.prog) Tryz.laidOut (by kernel_rfl) rfl (by kernel_rfl : Tryz.f11.resultTypes = #[4]) Tryz.underlying4 (fun ds h => ?_) (fun base args ds ps hval hA => ?_) base args ds gs before hval hW
 ·match ds, h with
  | [], _ => rfl
 ·rw [Tryz.params11] at hA hval
  obtain ⟨e0, _, _⟩ := trodAll_nil hA
  obtain rfl : args = [].toArray := by rw [← e0]
  have hl : m_wormtublaw14_FileNames = some true := law
  have hc := c_wormtublaw14_FileNames (FW W) hT
  rw [hl] at hc
  exact hc
theorem said_FileNames (law : LawFileNames) : Rows.FileNamesSaid :=
 OpenClaim.holds_of_wide 11 Tryz.f11 rfl rfl rfl rfl rfl rfl rfl ⟨rfl, rfl, rfl, rfl, rfl⟩ rfl rfl rfl rfl rfl (by kernel_rfl) Tryz.func11 (by kernel_rfl)
  (of_decide_eq_true (by kernel_rfl)) (by unfold Func.isWrapper; first | (rw [if_pos (by decide +kernel)]; kernel_rfl) | (rw [if_neg (by decide +kernel)]; exact ⟨rfl, rfl⟩))
  (fun os started H enc _ => lifted_FileNames law os started H enc)
theorem card_FileNames (law : LawFileNames) : Rows.FileNamesCardSaid :=
 Claim7.holds_tied_plain_at .later [] [.data, .data, .data, .data, .sentinel, .sentinel, .pinned] true (true, "3bd84bf44a97e49b979e061ef005845ecf1aa6bc424530e46bde597d8668a3f8") true (said_FileNames law) (fun _ h => by cases h) (by kernel_rfl) (fun _ h => by cases h) fileNames_row_tie rfl ⟨rfl, rfl⟩ (by kernel_rfl) rfl
  (fun f fn hf hfn => by
   obtain rfl : f = 11 := Option.some.inj ((show Tryz.prog.funcNamed "wormtub/wormtublaw14.FileNames" = some 11 by kernel_rfl).symm.trans hf) |>.symm
   obtain rfl : fn = Tryz.f11 := (Option.some.inj (Tryz.func11.symm.trans hfn)).symm
   exact ⟨by kernel_rfl, fun j t ht => by
    have hall : (Tryz.f11.params.toList.all fun u => !Tryz.prog.wantsStandIn u) = true := by kernel_rfl
    have hm := Array.mem_of_getElem? ht
    exact (show Tryz.prog.wantsStandIn t = false by first | (simp at hm; done) | simpa using List.all_eq_true.1 hall t (by simpa using hm))⟩)
  (by kernel_rfl)
end Go.Proofs.YthnlglmjffdpfaaGreatDoor
end

section
namespace Go.Proofs.YthnlglmjffdpfaaGreatDoor
open Go.Dec
theorem short_read (bs : Bytes) (h : bs.length = 191) : readP bs = ([], 8) ∧ repairP bs = ([], [], 8) := by
  have : splitS bs = none := by unfold splitS; rw [if_neg (by rw [h]; decide)]
  unfold readP repairP
  rw [this]; exact ⟨rfl, rfl⟩
theorem step_bad : rightS ((rowS stepS).set 3 88) = none := row_change step_ok (by decide) (by rw [step_3]; decide)
theorem names_book : bookP [ApiMaltStep.mk 0 5 17] [ApiDrawn.mk 1000 (ApiSpan.mk 266 520)] [] [] = ([stepS, ApiBooked.mk 1 [1000, 266, 520]], 0) := by
  unfold bookP
  rw [if_neg (by decide), if_pos (by decide)]; rfl
theorem two_bad (g : Bytes) (hg : g.length = 96) : repairP [(rowS stepS).set 3 88, (rowS stepS).set 3 88, g].flatten = ([], [], 10) := by
  have hl : ((rowS stepS).set 3 88).length = 96 := by rw [List.length_set, rowS_len step_ok]
  have h96 : ∀ r ∈ [(rowS stepS).set 3 88, (rowS stepS).set 3 88, g], r.length = 96 := by
    intro r hr
    simp only [List.mem_cons, List.mem_nil_iff, or_false] at hr
    rcases hr with rfl | rfl | rfl
    · exact hl
    · exact hl
    · exact hg
  unfold repairP
  rw [split_flat h96 (by simp) (by simp)]
  have hb := step_bad
  generalize (rowS stepS).set 3 88 = r at *
  have hs : scanS [r, r, g] 2 = none := by
    simp only [scanS, Option.bind_some]
    show ((if (rightS r).isSome then some none else nextB none 0).bind fun b => if (rightS r).isSome then some b else nextB b 1) = none
    rw [hb]; rfl
  have hm : (chunks 9 [r, r, g]).mapM mendG = none := by
    rw [chunks_cons (by decide) (by simp), List.mapM_cons]
    have : mendG ([r, r, g].take 9) = none := by
      show mendG [r, r, g] = none
      unfold mendG
      show (scanS [r, r, g] 2).bind _ = none
      rw [hs]; rfl
    rw [this]; rfl
  simp only [hm]
theorem rep_book (n : Nat) (h : n ≤ 1024) : okBook (List.replicate n stepS) = true := okBook_iff.2 ⟨by rw [List.length_replicate]; exact h, fun x hx => by rw [List.eq_of_mem_replicate hx]; exact step_ok⟩
theorem rep_slice {α : Type} (x : α) {n k : Nat} (h : k ≤ n) : sliceL (List.replicate n x) 0 (k : Int) = some (List.replicate k x) := by
  unfold sliceL
  rw [if_pos (by rw [List.length_replicate]; omega)]
  simp only [Int.toNat_natCast, Int.toNat_zero, List.drop_zero, Nat.sub_zero, List.take_replicate]
  rw [Nat.min_eq_left h]
theorem law_FileNames : LawFileNames := by
  unfold LawFileNames m_wormtublaw14_FileNames
  have hloop : loopM b_wormtublaw14_FileNames_1 [] = some (List.replicate 9 stepS) := by
    obtain ⟨t, rfl, hq⟩ := loopM_upto (body := b_wormtublaw14_FileNames_1) (fun _ (t : List ApiBooked) => t) (fun t => t) (fun i t => t = List.replicate i stepS) 9
      (fun i t hi ht => by
        subst ht
        refine ⟨List.replicate (i + 1) stepS, ?_, rfl⟩
        unfold b_wormtublaw14_FileNames_1 m_wormtublaw14_step
        rw [if_pos (by rw [List.length_replicate]; simp; omega)]
        simp only [Option.bind_some]
        rw [appO_some' (by simp; omega), List.replicate_succ']; rfl)
      (fun t ht => by subst ht; unfold b_wormtublaw14_FileNames_1; rw [if_neg (by decide)]) 9 0 [] rfl rfl
    exact hq
  have b8 := rep_book 8 (by decide)
  have b9 := rep_book 9 (by decide)
  have b1 := rep_book 1 (by decide)
  have b2 := rep_book 2 (by decide)
  have l8 := flat_len b8
  have l9 := flat_len b9
  have l1 := flat_len b1
  have l2 := flat_len b2
  rw [List.length_replicate] at l8 l9 l1 l2
  refine bind_of hloop (bind_of (rep_slice (k := 8) stepS (by decide)) (bind_of (Write_ok b8) (bind_of (Write_ok b9) (bind_of (rep_slice (k := 1) stepS (by decide)) (bind_of (Write_ok b1) (bind_of (rep_slice (k := 2) stepS (by decide)) (bind_of (Write_ok b2) ?_)))))))
  rw [if_neg (by simp only [i8s_len, l1, l2]; decide)]
  have h96 := write_96 (okBook_iff.1 b1).2
  have h962 := write_96 (okBook_iff.1 b2).2
  have w1 : writeS (List.replicate 1 stepS) = [rowS stepS, rowS stepS] := write_one step_ok
  have w2 : ∃ g : Bytes, g.length = 96 ∧ writeS (List.replicate 2 stepS) = [rowS stepS, rowS stepS, g] := by
    refine ⟨guardS [rowS stepS, rowS stepS], guardS_len _, ?_⟩
    rw [write_cons (by simp)]; exact List.append_nil _
  obtain ⟨g, hg, w2⟩ := w2
  have hone := one_byte b1 (i := 99) (v := 88) (by rw [l1]; decide) (by
    rw [flat_at h96, w1]
    show (88 : UInt8) ≠ (rowS stepS).getD 3 0
    rw [step_3]; decide)
  have hrow := rowS_len step_ok
  have hd : ((writeS (List.replicate 2 stepS)).flatten.set 3 88).set 99 88 = [(rowS stepS).set 3 88, (rowS stepS).set 3 88, g].flatten := by
    rw [flat_set h962, w2]
    show ([(rowS stepS).set 3 88, rowS stepS, g].flatten.set 99 88) = _
    rw [flat_set (by
      intro r hr
      simp only [List.mem_cons, List.mem_nil_iff, or_false] at hr
      rcases hr with rfl | rfl | rfl
      · rw [List.length_set, hrow]
      · exact hrow
      · exact hg)]
    rfl
  have htwo := two_bad g hg
  rw [← hd] at htwo
  generalize hA : (writeS (List.replicate 1 stepS)).flatten = A at *
  generalize hB : (writeS (List.replicate 2 stepS)).flatten = B at *
  have hsl : sliceL (i8s A) 0 191 = some (i8s ((A.drop 0).take (191 - 0))) := i8s_slice (a := 0) (b := 191) (by decide) (by omega)
  obtain ⟨hs1, hs2⟩ := short_read ((A.drop 0).take (191 - 0)) (by rw [List.length_take, List.length_drop]; omega)
  refine bind_of hsl (bind_of (by rw [Read_prog _ (by rw [List.length_take, List.length_drop]; omega), hs1]) (bind_of hsl (bind_of (by rw [Repair_prog _ (by rw [List.length_take, List.length_drop]; omega), hs2]) ?_)))
  refine bind_of (i8s_idx (i := 99) (by omega)) ?_
  unfold bindv
  have e1 : List.set (i8s A) (99 : Int).toNat 88 = i8s (A.set 99 88) := i8s_set A 99 88
  rw [e1]
  refine bind_of (by rw [Repair_prog _ (by rw [List.length_set]; omega), hone.2]) ?_
  refine bind_of (i8s_idx (i := 3) (by omega)) ?_
  have e2 : List.set (i8s B) (3 : Int).toNat 88 = i8s (B.set 3 88) := i8s_set B 3 88
  rw [e2]
  refine bind_of (i8s_idx (i := 99) (by rw [List.length_set]; omega)) ?_
  have e3 : List.set (i8s (B.set 3 88)) (99 : Int).toNat 88 = i8s ((B.set 3 88).set 99 88) := i8s_set (B.set 3 88) 99 88
  rw [e3]
  refine bind_of (by rw [Repair_prog _ (by rw [List.length_set, List.length_set]; omega), htwo]) ?_
  refine bind_of (Book_prog _ _ _ _ (by simp) (by simp) (by simp) (by simp)) ?_
  rw [names_book]
  refine bind_of (show _ = some true by rw [if_pos rfl, alive_true]; rfl) ?_
  refine bind_of (show _ = some true from ?_) (bind_of (show _ = some true from ?_) rfl)
  · rw [if_pos (by simp only [i8s_len, l8, l9]; decide)]
    show (some (((99 / 96 : Nat) : Int))).bind _ = _
    decide
  · refine (if_pos rfl).trans ?_
    unfold m_wormtublaw14_step
    show (m_wormtubref14_Same [stepS, ApiBooked.mk 1 [1000, 266, 520]] [stepS, ApiBooked.mk 1 [1000, 266, 520]]).bind _ = _
    rw [Same_ok (by decide)]; rfl
theorem fileNames_holds : Rows.FileNamesCardSaid := card_FileNames law_FileNames
end Go.Proofs.YthnlglmjffdpfaaGreatDoor
end
