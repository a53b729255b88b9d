/- Own texts and texts printed by a program of mine, for fileOne_holds; only what it reaches. -/
import Derived.Test.YthnlglmjffdpfaaGreatDoorPa6
import Derived.Test.YthnlglmjffdpfaaGreatDoorTie
import Derived.Test.YthnlglmjffdpfaaGreatDoorCards
section
namespace Go.Proofs.YthnlglmjffdpfaaGreatDoor
open Go.Dec Go.Shelf Go.RowKit Go.Maps Go.Sort
theorem arr_of_list {α : Type} {a : Array α} {l : List α} (h : a.toList = l) : a = l.toArray := by rw [← h]
theorem gErrS : Tryz.prog.globalNamed "strconv.ErrSyntax" = some 1 := by kernel_rfl
theorem gErrR : Tryz.prog.globalNamed "strconv.ErrRange" = some 2 := by kernel_rfl
theorem gPow : Tryz.prog.globalNamed "internal/strconv.uint64pow10" = some 3 := by kernel_rfl
theorem tErrS : (Tryz.prog.globals[1]?).map (·.type) = some 120 := by kernel_rfl
theorem tErrR : (Tryz.prog.globals[2]?).map (·.type) = some 120 := by kernel_rfl
theorem tPow : (Tryz.prog.globals[3]?).map (·.type) = some 196 := by kernel_rfl
theorem err_of {W : World} {ps : List MemPlace} {l : List (String × DataW Unit)} (hl : DataW.LaidVars Tryz.prog W l ps) (j g0 : Nat) {n : String} {nm : String} {d : DataW Unit} (hj : l[j]? = some (n, .iface nm d)) (hg0 : Tryz.prog.globalNamed n = some g0) (ht0 : (Tryz.prog.globals[g0]?).map (·.type) = some 120) :
    ∃ ev T fr, (FW W).mem g0 = some (.cells #[ev] T fr) ∧ (ev = .nilIface ∨ ∃ te pe, ev = .iface te pe) := by
  obtain ⟨g, t, cs, fuel, p, T, fr, hg, ht, hh, hd⟩ := laid_at j hj hl
  obtain rfl := Option.some.inj (hg0.symm.trans hg)
  obtain rfl := Option.some.inj (ht0.symm.trans ht)
  obtain ⟨u, v, hc⟩ := Go.Dec.iface_cells Tryz.underlying120 hd
  exact ⟨_, T, fr, by rw [show (FW W).mem g0 = W.heap[g0]? from rfl, hh, arr_of_list hc], .inr ⟨u, v, rfl⟩⟩
theorem cells143 : Tryz.prog.cellsOf 143 = 1 := by kernel_rfl
theorem cells196 : Tryz.prog.cellsOf 196 = 20 := by kernel_rfl
theorem pow_data : (Rows.laid_internal_strconv_uint64pow10 : DataW Unit) = Go.Lib.tabData .u64 Go.Lib.pow10Tab := by kernel_rfl
theorem maxLen0 : ((begin Tryz.prog (fun _ _ => 0) default).world.heap[0]?).bind Obj.row? = some (#[.int .i64 0], 3) := by kernel_rfl
theorem laid_plain {W : World} (h : laidMetH Tryz.prog Rows.fileWritesRow.laid W) : laidMet Tryz.prog Rows.fileWritesRow.laid W := by
  rwa [MakeChecks.laidMetH_plain _ _ _ (by kernel_rfl)] at h
set_option maxRecDepth 100000 in
theorem tabs_of {W : World} (h : laidMetH Tryz.prog Rows.fileWritesRow.laid W) (hsh : W.ShapedOpen Tryz.prog) : TabsP (FW W) := by
  obtain ⟨ps, hl, _, _⟩ := laid_plain h
  refine ⟨?_, ?_, ?_, ?_⟩
  · obtain ⟨g, t, cs, fuel, p, T, fr, hg, ht, hh, hd⟩ := laid_at 2 rfl hl
    obtain rfl := Option.some.inj (gPow.symm.trans hg)
    obtain rfl := Option.some.inj (tPow.symm.trans ht)
    have hc := Go.Lib.cells_of_tab Tryz.underlying196 Tryz.underlying143 cells143 cells196 (by rw [← pow_data]; exact hd)
    exact ⟨3, T, fr, gPow, by rw [show (FW W).mem 3 = W.heap[3]? from rfl, hh, arr_of_list hc]; rfl⟩
  · obtain ⟨m, hm⟩ := Go.Proofs.cell_of_shapedOpen_int (P := Tryz.prog) (g := 0) (t := 3) (zero := #[.int .i64 0]) hsh (of_decide_eq_true (by kernel_rfl)) maxLen0 rfl (by kernel_rfl) (by kernel_rfl) Tryz.underlying3
    obtain ⟨T, fr, hb⟩ := int_cell_block hsh (of_decide_eq_true (by kernel_rfl)) maxLen0 rfl hm
    exact ⟨m, T, fr, hb⟩
  · exact err_of hl 5 1 rfl gErrS tErrS
  · exact err_of hl 4 2 rfl gErrR tErrR
end Go.Proofs.YthnlglmjffdpfaaGreatDoor
end

section
namespace Go.Proofs.YthnlglmjffdpfaaGreatDoor
open Go.Dec
open Go.ChangeShapes Go.WideShapes Go.ChangeAt Go.RowKit
def LawFileOne : Prop := ∀ (a0 : (List ApiBooked)) (a1 : Int) (a2 : Int), (∀ y ∈ a0, okApiBooked y) → (Lit.int .u16 a1).wf = true → (Lit.int .u8 a2).wf = true → m_wormtublaw14_FileOne a0 a1 a2 = some true
set_option maxRecDepth 100000 in
theorem lifted_FileOne (law : LawFileOne) (os : Os) (started : os.Started) (H : Type) (enc : TypeId × Value → H) :
  ReturnsInHanded {} Tryz.checked os 6 .any (fun w args => (Rows.fileOneSpec.pre enc Tryz.prog Tryz.f6 Rows.fileOneRow.domain false w args ∧ laidMetH Tryz.prog Rows.fileOneRow.laid w) ∧ sizedMet enc Tryz.prog Tryz.f6 (OpenSpec.ofChange Rows.fileOneSpec) false w args) (Rows.fileOneSpec.post enc Tryz.prog Tryz.f6 false true false false) := by
 refine lift_tied (C := Tryz.checked) (X := fun w => laidMetH Tryz.prog Rows.fileOneRow.laid w) (fun _ _ hh h => h.of_heap hh) Tryz.own started (by kernel_rfl) Tryz.func6
  (ChangeSpec.witness_shaped (enc := enc) (C := Tryz.checked) (os := os) (X := fun w _ => laidMetH Tryz.prog Rows.fileOneRow.laid w) false (World.laidAll Tryz.prog os Rows.fileOneRow.laid) #[.slice none 0 0, .int .u16 0, .int .u8 0] 12 (World.laidAll_os _ _ _) (World.shaped_of_ZipB (by kernel_rfl) (by kernel_rfl)) (by kernel_rfl) (by kernel_rfl) (by kernel_rfl)
   (by rw [MakeChecks.laidMetH_plain _ _ _ (by kernel_rfl)]; exact laidMet_laidAll _ (by kernel_rfl) (by kernel_rfl))) ?_
 intro W base args ds gs before hval hW hsh hL
 have hT : TabsP (FW W) := tabs_of hL hsh
 refine law_contractW (P := Tryz.prog) Tryz.laidOut (by kernel_rfl) rfl (by kernel_rfl : Tryz.f6.resultTypes = #[4]) Tryz.underlying4 (fun ds h => ?_) (fun base args ds ps hval hA => ?_) base args ds gs before hval hW
 ·match ds, h with
  | [d0, d1, d2], _ => rfl
 ·rw [Tryz.params6] at hA hval
  obtain ⟨v0, l0, _, _, _, _, e0, _, _, t0, hA⟩ := trodAll_cons hA
  obtain ⟨v1, l1, _, _, _, _, e1, _, _, t1, hA⟩ := trodAll_cons hA
  obtain ⟨v2, l2, _, _, _, _, e2, _, _, t2, hA⟩ := trodAll_cons hA
  obtain ⟨e3, _, _⟩ := trodAll_nil hA
  subst e3 e2 e1
  obtain rfl : args = [v0, v1, v2].toArray := by rw [← e0]
  obtain ⟨m0, p0, k0, o0, rfl, h0⟩ := argSlice Tryz.underlying22 vt22 (hval 0 _ _ rfl rfl) t0
  obtain ⟨m1, o1, rfl⟩ := argInt Tryz.underlying38 (hval 1 _ _ rfl rfl) t1
  obtain ⟨m2, o2, rfl⟩ := argInt Tryz.underlying5 (hval 2 _ _ rfl rfl) t2
  have hl := law m0 m1 m2 o0 o1 o2
  have hc := c_wormtublaw14_FileOne (FW W) hT m0 p0 k0 h0 m1 m2
  rw [hl] at hc
  exact hc
theorem said_FileOne (law : LawFileOne) : Rows.FileOneSaid :=
 OpenClaim.holds_of_wide 6 Tryz.f6 rfl rfl rfl rfl rfl rfl rfl ⟨rfl, rfl, rfl, rfl, rfl⟩ rfl rfl rfl rfl rfl (by kernel_rfl) Tryz.func6 (by kernel_rfl)
  (of_decide_eq_true (by kernel_rfl)) (by unfold Func.isWrapper; first | (rw [if_pos (by decide +kernel)]; kernel_rfl) | (rw [if_neg (by decide +kernel)]; exact ⟨rfl, rfl⟩))
  (fun os started H enc _ => lifted_FileOne law os started H enc)
theorem card_FileOne (law : LawFileOne) : Rows.FileOneCardSaid :=
 Claim7.holds_tied_plain_at .later [] [.data, .data, .data, .data, .sentinel, .sentinel, .pinned] true (true, "3bd84bf44a97e49b979e061ef005845ecf1aa6bc424530e46bde597d8668a3f8") true (said_FileOne law) (fun _ h => by cases h) (by kernel_rfl) (fun _ h => by cases h) fileOne_row_tie rfl ⟨rfl, rfl⟩ (by kernel_rfl) rfl
  (fun f fn hf hfn => by
   obtain rfl : f = 6 := Option.some.inj ((show Tryz.prog.funcNamed "wormtub/wormtublaw14.FileOne" = some 6 by kernel_rfl).symm.trans hf) |>.symm
   obtain rfl : fn = Tryz.f6 := (Option.some.inj (Tryz.func6.symm.trans hfn)).symm
   exact ⟨by kernel_rfl, fun j t ht => by
    have hall : (Tryz.f6.params.toList.all fun u => !Tryz.prog.wantsStandIn u) = true := by kernel_rfl
    have hm := Array.mem_of_getElem? ht
    exact (show Tryz.prog.wantsStandIn t = false by first | (simp at hm; done) | simpa using List.all_eq_true.1 hall t (by simpa using hm))⟩)
  (by kernel_rfl)
end Go.Proofs.YthnlglmjffdpfaaGreatDoor
end

section
namespace Go.Proofs.YthnlglmjffdpfaaGreatDoor
open Go.Dec
theorem one_tail {l : List ApiBooked} (hb : okBook l = true) (hl : l.length ≤ 30) (hne : l ≠ []) (a : Nat) (ha : a ≤ 65535) :
    ((remK (w64 (a : Int)) (w64 (((i8s (writeS l).flatten).length : Int) - 1))).bind fun q106 => (appO ([]) (i8s (writeS l).flatten)).bind fun l_110 => (idxL (i8s (writeS l).flatten) (w64 (q106 + 1))).bind fun x114 => (idxL (i8s (writeS l).flatten) q106).bind fun x124 => (idxL l_110 q106).bind fun x134 => bindv (List.set l_110 (q106).toNat (x114)) fun l_138 => (idxL l_138 (w64 (q106 + 1))).bind fun x176 => bindv (List.set l_138 ((w64 (q106 + 1))).toNat (x124)) fun l_180 => (idxL l_180 q106).bind fun x183 => (idxL (i8s (writeS l).flatten) q106).bind fun x187 => if (x183 == x187) then ((m_wormtublaw14_alive).bind fun r_200 => some r_200) else ((m_file_Read l_180).bind fun r_206 => if (r_206.2 != 8) then (some false) else (if ((Int.tmod q106 96) == 95) then ((m_wormtublaw14_alive).bind fun r_214 => some r_214) else ((m_file_Repair l_180).bind fun r_217 => (if (((r_217.2.2 == 0) && ((u8s r_217.1) == (u8s (i8s (writeS l).flatten)))) && ((r_217.2.1.length : Int) == 1)) then ((idxL r_217.2.1 0).bind fun x233 => some (x233 == (w64 (Int.tdiv q106 96)))) else some false).bind fun z246 => (if z246 then ((m_wormtublaw14_alive).bind fun r_251 => some r_251) else some false).bind fun z255 => some z255)))) = some true := by
  have hlen : (writeS l).flatten.length = 96 * (l.length + (l.length + 7) / 8) := by rw [flat96 (write_96 (okBook_iff.1 hb).2), writeS_len]
  have hl0 : 0 < l.length := List.length_pos_iff.2 hne
  have t2 := @two_bytes l hb
  have t3 := @two_rows l hb
  generalize hA : (writeS l).flatten = A at *
  have hq : remK (w64 (a : Int)) (w64 (((i8s A).length : Int) - 1)) = some ((a % (A.length - 1) : Nat) : Int) := by
    rw [i8s_len, w64_id (n := (a : Int)) (by omega) (by omega), w64_id (by omega) (by omega)]
    unfold remK
    rw [if_neg (by omega), Int.tmod_eq_emod_of_nonneg (by omega)]
    congr 1
    have : ((A.length : Int) - 1) = ((A.length - 1 : Nat) : Int) := by omega
    rw [this]; rfl
  refine bind_of hq ?_
  have hi : a % (A.length - 1) < A.length - 1 := Nat.mod_lt _ (by omega)
  generalize a % (A.length - 1) = i at hi
  refine bind_of (append_nil (by rw [i8s_len]; omega)) ?_
  simp only [nx (show i ≤ 1000000000 by omega)]
  refine bind_of (i8s_idx (i := i + 1) (by omega)) (bind_of (i8s_idx (i := i) (by omega)) (bind_of (i8s_idx (i := i) (by omega)) ?_))
  unfold bindv
  simp only [Int.toNat_natCast, i8s_set]
  refine bind_of (i8s_idx (i := i + 1) (by rw [List.length_set]; omega)) ?_
  have hs : (A.set i (A.getD (i + 1) 0)).set (i + 1) (A.getD i 0) = swapL A i := rfl
  rw [hs]
  refine bind_of (i8s_idx (i := i) (by rw [swap_len]; omega)) (bind_of (i8s_idx (i := i) (by omega)) ?_)
  rw [swap_at (by omega), if_pos rfl]
  by_cases e : A.getD (i + 1) 0 = A.getD i 0
  · rw [if_pos (by rw [e]; simp), alive_true]; rfl
  · rw [if_neg (by rw [beq_iff_eq]; intro h; exact u8_ne e (by omega))]
    have hr8 : readP (swapL A i) = ([], 8) := by
      by_cases h95 : i % 96 = 95
      · exact t3 (by omega) e h95
      · exact (t2 (by omega) e h95).1
    refine bind_of (by rw [Read_prog _ (by rw [swap_len]; omega), hr8]) ?_
    rw [if_neg (by simp)]
    have hm : Int.tmod (i : Int) 96 = ((i % 96 : Nat) : Int) := by rw [Int.tmod_eq_emod_of_nonneg (by omega)]; rfl
    rw [hm]
    by_cases h95 : i % 96 = 95
    · rw [if_pos (by rw [h95]; rfl), alive_true]; rfl
    · rw [if_neg (by rw [beq_iff_eq]; omega)]
      refine bind_of (by rw [Repair_prog _ (by rw [swap_len]; omega), (t2 (by omega) e h95).2]) ?_
      have hd : w64 (Int.tdiv (i : Int) 96) = ((i / 96 : Nat) : Int) := by
        rw [Int.tdiv_eq_ediv_of_nonneg (by omega), w64_id (by omega) (by omega)]; rfl
      rw [u8_eq]
      simp only [hd, decide_true, Bool.and_true, beq_self_eq_true, List.length_singleton, Int.natCast_one, if_true, alive_true, Option.bind_some]
      refine bind_of (show _ = some true from ?_) ?_
      · show (some ((i / 96 : Nat) : Int)).bind _ = _
        simp
      · rfl
theorem law_FileOne : LawFileOne := by
  intro a0 a1 a2 _ hw1 hw2
  unfold m_wormtublaw14_FileOne
  rcases great_cases a0 with hg | ⟨hg, h30, h20⟩
  · refine bind_of hg ?_
    rw [Bool.true_or, if_pos rfl, alive_true]; rfl
  · refine bind_of hg ?_
    rw [Bool.false_or]
    by_cases hne : a0 = []
    · subst hne
      rw [if_pos (by simp), alive_true]; rfl
    · have hl0 : 0 < a0.length := List.length_pos_iff.2 hne
      rw [if_neg (by rw [beq_iff_eq]; omega)]
      by_cases hb : okBook a0 = true
      · refine bind_of (Write_ok hb) ?_
        have hlen : (writeS a0).flatten.length = 96 * (a0.length + (a0.length + 7) / 8) := by rw [flat96 (write_96 (okBook_iff.1 hb).2), writeS_len]
        refine (if_neg (by simp)).trans ?_
        have hle : w64 (96 * (w64 ((a0.length : Int) + (w64 (Int.tdiv (w64 ((a0.length : Int) + 7)) 8))))) = ((96 * (a0.length + (a0.length + 7) / 8) : Nat) : Int) := by
          rw [w64_id (n := (a0.length : Int) + 7) (by omega) (by omega), Int.tdiv_eq_ediv_of_nonneg (by omega), w64_id (n := ((a0.length : Int) + 7) / 8) (by omega) (by omega), w64_id (n := (a0.length : Int) + ((a0.length : Int) + 7) / 8) (by omega) (by omega), w64_id (by omega) (by omega)]
          omega
        rw [if_neg (by rw [hle, i8s_len, hlen]; simp)]
        obtain ⟨b0, b1⟩ := wf_u16 hw1
        obtain ⟨c0, c1⟩ := wf_u8 hw2
        obtain ⟨a, rfl⟩ := Int.eq_ofNat_of_zero_le b0
        obtain ⟨v, rfl⟩ : ∃ v : UInt8, a2 = (v.toNat : Int) := ⟨UInt8.ofNat a2.toNat, by rw [u8_nat (by omega)]; omega⟩
        have ht := one_tail hb h30 hne a (by omega)
        have t1 := @one_byte a0 hb
        generalize hA : (writeS a0).flatten = A at *
        have hq : remK (w64 (a : Int)) ((i8s A).length : Int) = some ((a % A.length : Nat) : Int) := by
          rw [i8s_len, w64_id (n := (a : Int)) (by omega) (by omega)]
          unfold remK
          rw [if_neg (by omega), Int.tmod_eq_emod_of_nonneg (by omega)]; rfl
        refine bind_of hq ?_
        have hi : a % A.length < A.length := Nat.mod_lt _ (by omega)
        generalize a % A.length = i at hi
        refine bind_of (append_nil (by simp only [i8s_len]; omega)) ?_
        refine bind_of (i8s_idx (i := i) (by omega)) ?_
        unfold bindv at ht ⊢
        simp only [Int.toNat_natCast, i8s_set]
        refine bind_of (i8s_idx (i := i) (by rw [List.length_set]; omega)) (bind_of (i8s_idx (i := i) (by omega)) ?_)
        have hgs : (A.set i v).getD i 0 = v := by rw [getD_set, if_pos ⟨rfl, hi⟩]
        rw [hgs]
        by_cases e : v = A.getD i 0
        · rw [if_neg (by rw [e]; simp)]
          simp only [Int.toNat_natCast, i8s_set] at ht
          exact ht
        · rw [if_pos (by rw [bne_iff_ne]; intro h; exact u8_ne e (by omega))]
          obtain ⟨h1, h2⟩ := t1 hi e
          refine bind_of (by rw [Read_prog _ (by rw [List.length_set]; omega), h1]) ?_
          refine bind_of (by rw [Repair_prog _ (by rw [List.length_set]; omega), h2]) ?_
          have hd : w64 (Int.tdiv (i : Int) 96) = ((i / 96 : Nat) : Int) := by
            rw [Int.tdiv_eq_ediv_of_nonneg (by omega), w64_id (by omega) (by omega)]; rfl
          refine bind_of (show _ = some false from ?_) ?_
          · rw [u8_eq]
            rw [if_neg (by simp)]
            rw [hd]
            show (some ((i / 96 : Nat) : Int)).bind _ = _
            simp
          · simp only [Bool.false_eq_true, if_false]
            exact ht
      · refine bind_of (show m_file_Write a0 = some ([], 1) from ?_) ?_
        · rw [Write_prog]; unfold writeP
          rw [if_neg (by omega), if_neg hb]; rfl
        · refine (if_pos (by simp)).trans ?_
          rw [alive_true]; rfl
theorem fileOne_holds : Rows.FileOneCardSaid := card_FileOne law_FileOne
end Go.Proofs.YthnlglmjffdpfaaGreatDoor
end
