/- Own texts and texts printed by a program of mine, for fileReads_holds; only what it reaches. -/
import Derived.Test.YthnlglmjffdpfaaGreatDoorPh5
import Derived.Test.YthnlglmjffdpfaaGreatDoorRows
import Derived.Test.YthnlglmjffdpfaaGreatDoorTie
import Derived.Test.YthnlglmjffdpfaaGreatDoorCards
section
namespace Go.Proofs.YthnlglmjffdpfaaGreatDoor
open Go.Dec
theorem inM_all : ∀ {ns ms : List Int}, ns.length = ms.length → (inM ns ms = true ↔ ∀ i, i < ns.length → 0 ≤ ns.getD i 0 ∧ ns.getD i 0 ≤ ms.getD i 0)
  | [], [], _ => by simp [inM]
  | [], m :: ms, h => by simp at h
  | n :: ns, [], h => by simp at h
  | n :: ns, m :: ms, h => by
    have ih := inM_all (ns := ns) (ms := ms) (by simpa using h)
    simp only [inM, Bool.and_eq_true, decide_eq_true_eq, ih]
    constructor
    · rintro ⟨h1, h2⟩ i hi
      cases i with
      | zero => exact h1
      | succ i => exact h2 i (by simpa using hi)
    · intro h1
      exact ⟨h1 0 (by simp), fun i hi => h1 (i + 1) (by simpa using hi)⟩
theorem most_doc {k : Int} : m_wormtubref14_Most k = some (mostS k) := by
  unfold m_wormtubref14_Most mostS
  by_cases h0 : k = 0
  · rw [if_pos (by simp [h0]), if_pos h0]
  · rw [if_neg (by simp [h0]), if_neg h0]
    by_cases h1 : k = 1
    · rw [if_pos (by simp [h1]), if_pos h1]
    · rw [if_neg (by simp [h1]), if_neg h1]
      by_cases h2 : k = 2
      · rw [if_pos (by simp [h2]), if_pos h2]
      · rw [if_neg (by simp [h2]), if_neg h2]
theorem most_len (k : Int) : (mostS k).length ≤ 8 := by
  unfold mostS; split
  · decide
  · split
    · decide
    · split <;> decide
theorem valid_doc (x : ApiBooked) : m_wormtubref14_valid x = some (okS x) := by
  unfold m_wormtubref14_valid
  by_cases hk : 0 ≤ x.Kind ∧ x.Kind ≤ 3
  · by_cases hl : x.N.length = (mostS x.Kind).length
    · have hm := most_len x.Kind
      refine bind_of (show _ = some false from ?_) ?_
      · rw [if_neg (by rw [decide_eq_true_eq]; omega), if_neg (by rw [decide_eq_true_eq]; omega), most_doc]
        simp [hl]
      · rw [if_neg (by decide)]
        have hall := inM_all hl
        have h := loop_chk (body := b_wormtubref14_valid_1 x) (good := (.inl () : Unit ⊕ Bool)) (fun _ => .inr false) (fun i => decide (0 ≤ x.N.getD i 0 ∧ x.N.getD i 0 ≤ (mostS x.Kind).getD i 0)) x.N.length
          (fun i hi => by
            unfold b_wormtubref14_valid_1
            rw [if_pos (by rw [decide_eq_true_eq]; omega), most_doc]
            have i1 : idxL x.N (i : Int) = some (x.N.getD i 0) := by rw [idxL_nat, getD_get (d := 0) hi]
            have i2 : idxL (mostS x.Kind) (i : Int) = some ((mostS x.Kind).getD i 0) := by rw [idxL_nat, getD_get (d := 0) (by omega)]
            rw [i1]
            simp only [Option.bind_some, i2, bindv, nx (show i ≤ 1000000000 by omega)]
            by_cases h0 : x.N.getD i 0 < 0
            · rw [if_pos (by rw [decide_eq_true_eq]; exact h0)]
              simp only [Option.bind_some, if_true]
              rw [if_neg (by rw [decide_eq_true_eq]; omega)]
            · rw [if_neg (by rw [decide_eq_true_eq]; exact h0)]
              simp only [Option.bind_some]
              by_cases h1 : x.N.getD i 0 ≤ (mostS x.Kind).getD i 0
              · rw [if_neg (by rw [decide_eq_true_eq]; omega), if_pos (by rw [decide_eq_true_eq]; omega)]
              · rw [if_pos (by rw [decide_eq_true_eq]; omega), if_neg (by rw [decide_eq_true_eq]; omega)])
          (by unfold b_wormtubref14_valid_1; rw [if_neg (by simp)])
        rcases h with ⟨h1, h2⟩ | ⟨k, h1, h2, h3, h4⟩
        · rw [h2]
          have : okS x = true := okS_iff.2 ⟨hk, hall.2 fun i hi => by simpa using h1 i hi⟩
          rw [this]; rfl
        · rw [h4]
          have : okS x = false := by
            rw [Bool.eq_false_iff]
            intro ho
            have := hall.1 (okS_iff.1 ho).2 k h1
            rw [decide_eq_false_iff_not] at h2
            exact h2 this
          rw [this]; rfl
    · have : okS x = false := by
        rw [Bool.eq_false_iff]
        intro ho
        exact hl (inM_len (okS_iff.1 ho).2)
      rw [this]
      refine bind_of (show _ = some true from ?_) ?_
      · rw [if_neg (by rw [decide_eq_true_eq]; omega), if_neg (by rw [decide_eq_true_eq]; omega), most_doc]
        simp only [Option.bind_some, Option.some.injEq, bne_iff_ne]
        omega
      · rfl
  · have : okS x = false := by
      rw [Bool.eq_false_iff]
      intro ho
      exact hk (okS_iff.1 ho).1
    rw [this]
    refine bind_of (show _ = some true from ?_) ?_
    · by_cases h0 : x.Kind < 0
      · rw [if_pos (by rw [decide_eq_true_eq]; exact h0)]
      · rw [if_neg (by rw [decide_eq_true_eq]; exact h0), if_pos (by rw [decide_eq_true_eq]; omega)]
    · rfl
theorem Valid_doc (l : List ApiBooked) : m_wormtubref14_Valid l = some (okBook l) := by
  unfold m_wormtubref14_Valid
  have h := loop_chk (body := b_wormtubref14_Valid_1 l) (good := (.inl () : Unit ⊕ Bool)) (fun _ => .inr false) (fun i => okS (l.getD i ⟨0, []⟩)) (min l.length 1025)
    (fun i hi => by
      unfold b_wormtubref14_Valid_1
      rw [if_pos (by rw [Bool.and_eq_true, decide_eq_true_eq, decide_eq_true_eq]; omega)]
      have i1 : idxL l (i : Int) = some (l.getD i ⟨0, []⟩) := by rw [idxL_nat, getD_get (d := (⟨0, []⟩ : ApiBooked)) (by omega)]
      rw [i1]
      simp only [Option.bind_some, valid_doc, bindv, nx (show i ≤ 1000000000 by omega)]
      cases okS (l.getD i ⟨0, []⟩) <;> rfl)
    (by
      unfold b_wormtubref14_Valid_1
      rw [if_neg]
      rw [Bool.and_eq_true, decide_eq_true_eq, decide_eq_true_eq]; omega)
  rcases h with ⟨h1, h2⟩ | ⟨k, h1, h2, h3, h4⟩
  · rw [h2]
    simp only [Option.bind_some, Option.some.injEq]
    by_cases hl : l.length ≤ 1024
    · rw [decide_eq_true (by omega)]
      symm
      refine okBook_iff.2 ⟨hl, fun x hx => ?_⟩
      obtain ⟨i, hi, rfl⟩ := List.mem_iff_getElem.1 hx
      have := h1 i (by omega)
      rwa [List.getD_eq_getElem?_getD, List.getElem?_eq_getElem hi] at this
    · rw [decide_eq_false (by omega)]
      symm
      rw [Bool.eq_false_iff]
      intro hb
      exact hl (okBook_iff.1 hb).1
  · rw [h4]
    simp only [Option.bind_some, Option.some.injEq]
    symm
    rw [Bool.eq_false_iff]
    intro hb
    have := (okBook_iff.1 hb).2 _ (getD_in (d := (⟨0, []⟩ : ApiBooked)) (i := k) (l := l) (by omega))
    rw [h2] at this; cases this
end Go.Proofs.YthnlglmjffdpfaaGreatDoor
end

section
namespace Go.Proofs.YthnlglmjffdpfaaGreatDoor
open Go.Dec Go.Shelf Go.RowKit Go.Maps Go.Sort
def m_wormtubref14_letters  : (List UInt8) :=
 ([77, 83, 67, 68] : List UInt8)
set_option maxRecDepth 100000 in
set_option maxHeartbeats 4000000 in
theorem c_wormtubref14_letters (F0 : Fz)  : CT0 Tryz.prog 81 [].toArray F0 (some (m_wormtubref14_letters)) (fun r _ v => v = (.string (bs r))) := by
 refine CT0.enter Tryz.func81 rfl Tryz.ntmps81 rfl fun r R => ?_
 refine .seq (.region (.assign rfl rfl (.nil (.code (.seq (.region (.assign rfl rfl (.nil (.code ?_)))))))))
 exact .ret0 Tryz.results81 (.tmp rfl (.nil)) (i := 0) rfl Fz.r rfl
noncomputable def b_wormtubref14_digits_1  (s4 : Int × (List UInt8)) : Option (Ctl (Int × (List UInt8)) (((List UInt8)))) :=
 if (decide (s4.1 > 0)) then ((appO (encS (IntKind.u8.wrap ((w64 (48 + (Int.tmod s4.1 10)))))) s4.2).bind fun s8 => bindv (w64 (Int.tdiv s4.1 10)) fun n_10 => some (.next (n_10, s8))) else (some (.done s4.2))
noncomputable def m_wormtubref14_digits (n_1 : Int) : Option (List UInt8) :=
 bindv (w64 (Int.tdiv n_1 10)) fun n_2 => (loopM b_wormtubref14_digits_1 (n_2, (encS (IntKind.u8.wrap ((w64 (48 + (Int.tmod n_1 10)))))))).bind fun b12 => some b12
set_option maxRecDepth 100000 in
set_option maxHeartbeats 4000000 in
theorem c_wormtubref14_digits (F0 : Fz) (n_1 : Int) : CT0 Tryz.prog 82 [(.int .i64 n_1)].toArray F0 (m_wormtubref14_digits n_1) (fun r _ v => v = (.string (bs r))) := by
 refine CT0.enter Tryz.func82 rfl Tryz.ntmps82 rfl fun r R => ?_
 unfold m_wormtubref14_digits
 refine .seq (.region (.assign rfl rfl (.nil (.code (.seq (.region (.move rfl rfl (.remC rfl (by decide) rfl rfl (.add rfl rfl rfl (.convI rfl Tryz.underlying3 Tryz.underlying5 rfl (.encStr rfl Tryz.underlying5 Tryz.underlying9 rfl ?_)))))))))))
 refine .assign rfl rfl (.nil (.code (.seq (.seq (.region (.move rfl rfl (.quoC rfl (by decide) rfl rfl (.assignL rfl rfl (fun n_2 e3 => ?_)))))))))
 refine .nil (.code (.block (.keep (.cons (k := 0) rfl (.cons (k := 3) rfl (.nil _))) (.loop (fun (s4 : Int × (List UInt8)) a w => ∃ (F_5 : Fz), F0 ≤ F_5 ∧ Hd 23 [] [(0, (.int .i64 s4.1)), (3, (.string (bs s4.2)))] F_5 [R] a w) (fun b12 e a w => e = .exit 0 ∧ ∃ (F_13 : Fz), F0 ≤ F_13 ∧ Hd 23 [] [(3, (.string (bs b12)))] F_13 [R] a w) ?_ ?_ ?_))))
 ·exact fun a w h => ⟨F0, Fz.r, h.1.sub (.cons (k := 0) rfl (.cons (k := 3) rfl (.nil _))), h.2⟩
 ·intro s4 ctl
  refine GC.ex (fun a w ⟨F_5, l_6, hA⟩ => ⟨_, hA, ?_⟩)
  unfold b_wormtubref14_digits_1
  refine .seq (.seq (.region (.move rfl rfl (.gtr rfl rfl rfl (.nil (.code (.cond rfl (fun hb7 => ?_) (fun hb7 => ?_))))))))
  ·skip
   refine .skip (.code (.seq (.block (.region (.move rfl rfl (.remC rfl (by decide) rfl rfl (.add rfl rfl rfl (.convI rfl Tryz.underlying3 Tryz.underlying5 rfl (.encStr rfl Tryz.underlying5 Tryz.underlying9 rfl (.move rfl rfl (.catS rfl rfl rfl (fun s8 e9 => ?_))))))))))))
   refine .assign rfl rfl (.nil (.block (.code (.region (.move rfl rfl (.quoC rfl (by decide) rfl rfl (.assignL rfl rfl (fun n_10 e11 => ?_))))))))
   refine .nil ?_
   exact .nil (LPost.norm fun a w h => ⟨F_5, l_6, h.1.sub (.cons (k := 0) rfl (.cons (k := 3) rfl (.nil _))), h.2⟩)
  ·skip
   refine .exitOut rfl (LPost.exit fun a w h => ⟨rfl, F_5, l_6, h.1.sub (.cons (k := 3) rfl (.nil _)), h.2⟩)
 ·intro b12 hb0 hk e a w hD
  obtain ⟨rfl, F_13, l_14, hA⟩ := hD
  refine interp_exit rfl (GE.app ?_ hk a w hA)
  refine .code (.seq (.region (.move rfl rfl (.assign rfl rfl (.nil (.code ?_))))))
  exact .ret0 Tryz.results82 (.tmp rfl (.nil)) (i := 0) rfl l_14 rfl
noncomputable def b_wormtubref14_check_1 (s1 : (List UInt8)) (s2 : Int × Int) : Option (Ctl (Int × Int) ((Int))) :=
 if (decide (s2.2 < 87)) then ((idxL s1 s2.2).bind fun c6 => bindv (Int.tmod (w64 ((w64 (31 * s2.1)) + (w64 ((c6.toNat : Int))))) 4294967296) fun c8 => bindv (w64 (s2.2 + 1)) fun i10 => some (.next (c8, i10))) else (some (.done s2.1))
noncomputable def b_wormtubref14_check_2  (s15 : Int × (List UInt8) × Int) : Option (Ctl (Int × (List UInt8) × Int) (((List UInt8)))) :=
 if (decide (s15.2.2 < 8)) then ((idxL ([48, 49, 50, 51, 52, 53, 54, 55, 56, 57, 97, 98, 99, 100, 101, 102] : List UInt8) (Int.tmod s15.1 16)).bind fun c19 => (appO (encS (c19.toNat : Int)) s15.2.1).bind fun s21 => bindv (w64 (Int.tdiv s15.1 16)) fun c23 => bindv (w64 (s15.2.2 + 1)) fun i25 => some (.next (c23, s21, i25))) else (some (.done s15.2.1))
noncomputable def m_wormtubref14_check (s1 : (List UInt8)) : Option (List UInt8) :=
 (loopM (b_wormtubref14_check_1 s1) (0, 0)).bind fun b12 => (loopM b_wormtubref14_check_2 (b12, ([] : List UInt8), 0)).bind fun b27 => some b27
set_option maxRecDepth 100000 in
set_option maxHeartbeats 4000000 in
theorem c_wormtubref14_check (F0 : Fz) (s1 : (List UInt8)) : CT0 Tryz.prog 83 [(.string (bs s1))].toArray F0 (m_wormtubref14_check s1) (fun r _ v => v = (.string (bs r))) := by
 refine CT0.enter Tryz.func83 rfl Tryz.ntmps83 rfl fun r R => ?_
 unfold m_wormtubref14_check
 refine .seq (.region (.assign rfl rfl (.nil (.code (.seq (.region (.assign rfl rfl (.nil (.code (.seq (.seq ?_)))))))))))
 refine .region (.assign rfl rfl (.nil (.code (.block (.keep (.cons (k := 0) rfl (.cons (k := 3) rfl (.cons (k := 4) rfl (.nil _)))) (.loop (fun (s2 : Int × Int) a w => ∃ (F_3 : Fz), F0 ≤ F_3 ∧ Hd 32 [] [(0, (.string (bs s1))), (3, (.int .i64 s2.1)), (4, (.int .i64 s2.2))] F_3 [R] a w) (fun b12 e a w => e = .exit 0 ∧ ∃ (F_13 : Fz), F0 ≤ F_13 ∧ Hd 32 [] [(3, (.int .i64 b12))] F_13 [R] a w) ?_ ?_ ?_))))))
 ·exact fun a w h => ⟨F0, Fz.r, h.1.sub (.cons (k := 0) rfl (.cons (k := 3) rfl (.cons (k := 4) rfl (.nil _)))), h.2⟩
 ·intro s2 ctl
  refine GC.ex (fun a w ⟨F_3, l_4, hA⟩ => ⟨_, hA, ?_⟩)
  unfold b_wormtubref14_check_1
  refine .seq (.seq (.region (.move rfl rfl (.lss rfl rfl rfl (.nil (.code (.cond rfl (fun hb5 => ?_) (fun hb5 => ?_))))))))
  ·skip
   refine .skip (.code (.seq (.block (.region (.move rfl rfl (.mul rfl rfl rfl (.move rfl rfl (.move rfl rfl (.idxStr rfl Tryz.underlying9 rfl rfl (fun c6 e7 => ?_))))))))))
   refine .convI rfl Tryz.underlying5 Tryz.underlying3 rfl (.add rfl rfl rfl (.remC rfl (by decide) rfl rfl (.assignL rfl rfl (fun c8 e9 => ?_))))
   refine .nil (.block (.code (.region (.move rfl rfl (.add rfl rfl rfl (.assignL rfl rfl (fun i10 e11 => ?_)))))))
   refine .nil ?_
   exact .nil (LPost.norm fun a w h => ⟨F_3, l_4, h.1.sub (.cons (k := 0) rfl (.cons (k := 3) rfl (.cons (k := 4) rfl (.nil _)))), h.2⟩)
  ·skip
   refine .exitOut rfl (LPost.exit fun a w h => ⟨rfl, F_3, l_4, h.1.sub (.cons (k := 3) rfl (.nil _)), h.2⟩)
 ·intro b12 hb0 hk e a w hD
  obtain ⟨rfl, F_13, l_14, hA⟩ := hD
  refine interp_exit rfl (GE.app ?_ hk a w hA)
  refine .code (.seq (.region (.assign rfl rfl (.nil (.code (.seq (.seq (.region (.assign rfl rfl (.nil (.code ?_)))))))))))
  refine .block (.keep (.cons (k := 3) rfl (.cons (k := 5) rfl (.cons (k := 6) rfl (.nil _)))) (.loop (fun (s15 : Int × (List UInt8) × Int) a w => ∃ (F_16 : Fz), F_13 ≤ F_16 ∧ Hd 32 [] [(3, (.int .i64 s15.1)), (5, (.string (bs s15.2.1))), (6, (.int .i64 s15.2.2))] F_16 [R] a w) (fun b27 e a w => e = .exit 2 ∧ ∃ (F_28 : Fz), F_13 ≤ F_28 ∧ Hd 32 [] [(5, (.string (bs b27)))] F_28 [R] a w) ?_ ?_ ?_))
  ·exact fun a w h => ⟨F_13, Fz.r, h.1.sub (.cons (k := 3) rfl (.cons (k := 5) rfl (.cons (k := 6) rfl (.nil _)))), h.2⟩
  ·intro s15 ctl
   refine GC.ex (fun a w ⟨F_16, l_17, hA⟩ => ⟨_, hA, ?_⟩)
   unfold b_wormtubref14_check_2
   refine .seq (.seq (.region (.move rfl rfl (.lss rfl rfl rfl (.nil (.code (.cond rfl (fun hb18 => ?_) (fun hb18 => ?_))))))))
   ·skip
    refine .skip (.code (.seq (.block (.seq (.region (.move rfl rfl (.remC rfl (by decide) rfl rfl (.idxStr rfl Tryz.underlying9 rfl rfl (fun c19 e20 => ?_)))))))))
    refine .encStr rfl Tryz.underlying5 Tryz.underlying9 rfl (.move rfl rfl (.catS rfl rfl rfl (fun s21 e22 => ?_)))
    refine .assign rfl rfl (.nil (.code (.region (.move rfl rfl (.quoC rfl (by decide) rfl rfl (.assignL rfl rfl (fun c23 e24 => ?_)))))))
    refine .nil (.block (.code (.region (.move rfl rfl (.add rfl rfl rfl (.assignL rfl rfl (fun i25 e26 => ?_)))))))
    refine .nil ?_
    exact .nil (LPost.norm fun a w h => ⟨F_16, l_17, h.1.sub (.cons (k := 3) rfl (.cons (k := 5) rfl (.cons (k := 6) rfl (.nil _)))), h.2⟩)
   ·skip
    refine .exitOut rfl (LPost.exit fun a w h => ⟨rfl, F_16, l_17, h.1.sub (.cons (k := 5) rfl (.nil _)), h.2⟩)
  ·intro b27 hb0 hk e a w hD
   obtain ⟨rfl, F_28, l_29, hA⟩ := hD
   refine interp_exit rfl (GE.app ?_ hk a w hA)
   refine .code (.seq (.region (.move rfl rfl (.assign rfl rfl (.nil (.code ?_))))))
   exact .ret0 Tryz.results83 (.tmp rfl (.nil)) (i := 0) rfl (Fz.t l_14 l_29) rfl
noncomputable def b_wormtubref14_Row_1 (x1 : ApiBooked) (s30 : (List UInt8) × Int) : Option (Ctl ((List UInt8) × Int) (((List UInt8)))) :=
 if (decide (s30.2 < (x1.N.length : Int))) then ((appO s30.1 ([32] : List UInt8)).bind fun s34 => (idxL x1.N s30.2).bind fun x36 => (m_wormtubref14_digits x36).bind fun r_48 => (appO s34 r_48).bind fun s49 => bindv (w64 (s30.2 + 1)) fun i51 => some (.next (s49, i51))) else (some (.done s30.1))
noncomputable def b_wormtubref14_Row_2  (s56 : (List UInt8)) : Option (Ctl ((List UInt8)) (((List UInt8)))) :=
 if (decide ((s56.length : Int) < 87)) then ((appO s56 ([46] : List UInt8)).bind fun s60 => some (.next s60)) else (some (.done s56))
noncomputable def m_wormtubref14_Row (x1 : ApiBooked) : Option (List UInt8) :=
 (sliceL (m_wormtubref14_letters) x1.Kind (w64 (x1.Kind + 1))).bind fun s28 => (loopM (b_wormtubref14_Row_1 x1) (s28, 0)).bind fun b53 => (loopM b_wormtubref14_Row_2 b53).bind fun b62 => (m_wormtubref14_check b62).bind fun r_67 => (appO b62 r_67).bind fun s68 => (appO s68 ([10] : List UInt8)).bind fun s70 => some s70
set_option maxRecDepth 100000 in
set_option maxHeartbeats 4000000 in
theorem c_wormtubref14_Row (F0 : Fz) (x1 : ApiBooked) (p2 : Option Addr) (k3 : Nat) (h4 : RepSl 1 (Ex (cInt .i64)) F0 p2 k3 x1.N) : CT0 Tryz.prog 47 [(eApiBooked x1 p2 k3)].toArray F0 (m_wormtubref14_Row x1) (fun r _ v => v = (.string (bs r))) := by
 refine CT0.enter Tryz.func47 rfl Tryz.ntmps47 rfl fun r R => ?_
 unfold m_wormtubref14_Row
 refine .seq (.region (.boxF (cs := (cApiBooked x1 p2 k3)) rfl rfl rfl (fun b5 F_6 l_7 hb8 => ?_)))
 refine .assign rfl rfl (.nil (.code (.seq (.keep (.cons (k := 1) rfl (.nil _)) ?_))))
 refine .drawGD 6 0 (fun env9 => [((.string (bs (m_wormtubref14_letters))), fun _ => True), ((.pointer (some ⟨b5, 0 + 0, none⟩)), fun _ => True), ((.int .i64 x1.Kind), fun _ => True), ((.pointer (some ⟨b5, 0 + 0, none⟩)), fun _ => True), ((.int .i64 x1.Kind), fun _ => True), ((.int .i64 (w64 (x1.Kind + 1))), fun _ => True)]) (fun L env9 => [R]) mixedOK (by kernel_rfl) (deepN (k := 6) (n := 8) rfl (allLt8 (p := fun t => 6 ≤ t → ∀ j, j < t → ∃ s, depB _ s t j = true) (fun h => absurd h (by decide)) (fun h => absurd h (by decide)) (fun h => absurd h (by decide)) (fun h => absurd h (by decide)) (fun h => absurd h (by decide)) (fun h => absurd h (by decide)) (fun _ => allLt6 (p := fun j => ∃ s, depB _ s 6 j = true) ⟨1, rfl⟩ ⟨2, rfl⟩ ⟨1, rfl⟩ ⟨3, rfl⟩ ⟨2, rfl⟩ ⟨1, rfl⟩) (fun _ => allLt7 (p := fun j => ∃ s, depB _ s 7 j = true) ⟨1, rfl⟩ ⟨1, rfl⟩ ⟨1, rfl⟩ ⟨1, rfl⟩ ⟨1, rfl⟩ ⟨1, rfl⟩ ⟨1, rfl⟩))) rfl (fun _ => rfl) (by kernel_rfl) (fun _ => rfl) ?_ (fun env9 F_12 l_13 hphi => ?_)
 ·skip
  refine .cons (fun L env9 F_14 l_15 hL hdn hup hphi => ⟨[], fun S hS hV => (Sub.nil _), ?_⟩) ?_
  ·skip
   refine .callP rfl Tryz.call81 rfl rfl rfl (c_wormtubref14_letters _ ) ?_
   rintro F_16 _ l_17 rfl
   exact .finV rfl rfl l_17
  refine .cons (fun L env9 F_18 l_19 hL hdn hup hphi => ⟨[(1, (.pointer (some ⟨b5, 0, none⟩)))], fun S hS hV => (.cons (hS _ _ rfl) (Sub.nil _)), ?_⟩) ?_
  ·skip
   refine .fieldAddr rfl Tryz.underlying41 rfl Tryz.sizeOf3 rfl ?_
   exact .finV rfl rfl Fz.r
  refine .cons (fun L env9 F_20 l_21 hL hdn hup hphi => ⟨[(6, (.pointer (some ⟨b5, 0 + 0, none⟩)))], fun S hS hV => (.cons (hV 1 6 _ (hdn 1 1 rfl) rfl rfl) (Sub.nil _)), ?_⟩) ?_
  ·skip
   refine .loadF rfl Tryz.isAgg3 rfl (l_21.mem _ _ hb8) rfl ?_
   exact .finV rfl rfl Fz.r
  refine .cons (fun L env9 F_22 l_23 hL hdn hup hphi => ⟨[(1, (.pointer (some ⟨b5, 0, none⟩)))], fun S hS hV => (.cons (hS _ _ rfl) (Sub.nil _)), ?_⟩) ?_
  ·skip
   refine .fieldAddr rfl Tryz.underlying41 rfl Tryz.sizeOf3 rfl ?_
   exact .finV rfl rfl Fz.r
  refine .cons (fun L env9 F_24 l_25 hL hdn hup hphi => ⟨[(8, (.pointer (some ⟨b5, 0 + 0, none⟩)))], fun S hS hV => (.cons (hV 3 8 _ (hdn 1 3 rfl) rfl rfl) (Sub.nil _)), ?_⟩) ?_
  ·skip
   refine .loadF rfl Tryz.isAgg3 rfl (l_25.mem _ _ hb8) rfl ?_
   exact .finV rfl rfl Fz.r
  refine .cons (fun L env9 F_26 l_27 hL hdn hup hphi => ⟨[(9, (.int .i64 x1.Kind))], fun S hS hV => (.cons (hV 4 9 _ (hdn 1 4 rfl) rfl rfl) (Sub.nil _)), ?_⟩) ?_
  ·skip
   refine .add rfl rfl rfl ?_
   exact .finV rfl rfl Fz.r
  exact .nil
 refine .norm (S' := [(1, (.pointer (some ⟨b5, 0, none⟩))), (5, (.string (bs (m_wormtubref14_letters)))), (6, (.pointer (some ⟨b5, 0 + 0, none⟩))), (7, (.int .i64 x1.Kind)), (8, (.pointer (some ⟨b5, 0 + 0, none⟩))), (9, (.int .i64 x1.Kind)), (10, (.int .i64 (w64 (x1.Kind + 1))))]) (.cons (k := 1) rfl (.cons (k := 5) rfl (.cons (k := 6) rfl (.cons (k := 7) rfl (.cons (k := 8) rfl (.cons (k := 9) rfl (.cons (k := 10) rfl (.nil _)))))))) (rfl : _ = [R]) ?_
 refine .cutStr rfl Tryz.underlying9 rfl rfl rfl (fun s28 e29 => ?_)
 refine .assign rfl rfl (.nil (.code (.seq (.seq (.region (.assign rfl rfl (.nil (.code (.block (.keep (.cons (k := 1) rfl (.cons (k := 3) rfl (.cons (k := 4) rfl (.nil _)))) ?_))))))))))
 refine .loop (fun (s30 : (List UInt8) × Int) a w => ∃ (F_31 : Fz), F_12 ≤ F_31 ∧ Hd 38 [] [(1, (.pointer (some ⟨b5, 0, none⟩))), (3, (.string (bs s30.1))), (4, (.int .i64 s30.2))] F_31 [R] a w) (fun b53 e a w => e = .exit 0 ∧ ∃ (F_54 : Fz), F_12 ≤ F_54 ∧ Hd 38 [] [(3, (.string (bs b53)))] F_54 [R] a w) ?_ ?_ ?_
 ·exact fun a w h => ⟨F_12, Fz.r, h.1.sub (.cons (k := 1) rfl (.cons (k := 3) rfl (.cons (k := 4) rfl (.nil _)))), h.2⟩
 ·intro s30 ctl
  refine GC.ex (fun a w ⟨F_31, l_32, hA⟩ => ⟨_, hA, ?_⟩)
  unfold b_wormtubref14_Row_1
  refine .seq (.seq (.region (.move rfl rfl (.fieldAddr rfl Tryz.underlying41 rfl Tryz.sizeOf31 rfl (.loadF rfl Tryz.isAgg31 rfl ((Fz.t l_13 l_32).mem _ _ hb8) rfl (.lenS rfl rfl Tryz.underlying31 rfl (.lss rfl rfl rfl (.nil (.code (.cond rfl (fun hb33 => ?_) (fun hb33 => ?_)))))))))))
  ·skip
   refine .skip (.code (.seq (.block (.region (.move rfl rfl (.catS rfl rfl rfl (fun s34 e35 => ?_)))))))
   refine .fieldAddr rfl Tryz.underlying41 rfl Tryz.sizeOf31 rfl (.loadF rfl Tryz.isAgg31 rfl ((Fz.t l_13 l_32).mem _ _ hb8) rfl (.move rfl rfl (.idx rfl Tryz.underlying31 Tryz.sizeOf3 (h4.mono (Fz.t l_7 (Fz.t l_13 l_32))) rfl rfl (fun x36 b37 o38 T39 fr40 cs41 e42 hm43 hv44 => ?_))))
   refine .loadF rfl Tryz.isAgg3 rfl hm43 (cell_of_take (k := 0) hv44 rfl) (.call0 rfl Tryz.call82 rfl rfl rfl (c_wormtubref14_digits _ x36) ?_)
   rintro r_48 F_46 _ - l_47 rfl
   refine .catS rfl rfl rfl (fun s49 e50 => ?_)
   refine .assign rfl rfl (.nil (.block (.code (.region (.move rfl rfl (.add rfl rfl rfl (.assignL rfl rfl (fun i51 e52 => ?_))))))))
   refine .nil ?_
   exact .nil (LPost.norm fun a w h => ⟨F_46, (Fz.t l_32 l_47), h.1.sub (.cons (k := 1) rfl (.cons (k := 3) rfl (.cons (k := 4) rfl (.nil _)))), h.2⟩)
  ·skip
   refine .exitOut rfl (LPost.exit fun a w h => ⟨rfl, F_31, l_32, h.1.sub (.cons (k := 3) rfl (.nil _)), h.2⟩)
 ·intro b53 hb0 hk e a w hD
  obtain ⟨rfl, F_54, l_55, hA⟩ := hD
  refine interp_exit rfl (GE.app ?_ hk a w hA)
  refine .code (.seq (.block (.keep (.cons (k := 3) rfl (.nil _)) (.loop (fun (s56 : (List UInt8)) a w => ∃ (F_57 : Fz), F_54 ≤ F_57 ∧ Hd 38 [] [(3, (.string (bs s56)))] F_57 [R] a w) (fun b62 e a w => e = .exit 2 ∧ ∃ (F_63 : Fz), F_54 ≤ F_63 ∧ Hd 38 [] [(3, (.string (bs b62)))] F_63 [R] a w) ?_ ?_ ?_))))
  ·exact fun a w h => ⟨F_54, Fz.r, h.1.sub (.cons (k := 3) rfl (.nil _)), h.2⟩
  ·intro s56 ctl
   refine GC.ex (fun a w ⟨F_57, l_58, hA⟩ => ⟨_, hA, ?_⟩)
   unfold b_wormtubref14_Row_2
   refine .seq (.seq (.region (.move rfl rfl (.lenStr rfl rfl Tryz.underlying9 rfl (.lss rfl rfl rfl (.nil (.code (.cond rfl (fun hb59 => ?_) (fun hb59 => ?_)))))))))
   ·skip
    refine .skip (.code (.block (.region (.move rfl rfl (.catS rfl rfl rfl (fun s60 e61 => ?_))))))
    refine .assign rfl rfl (.nil (.block ?_))
    exact .nil (LPost.norm fun a w h => ⟨F_57, l_58, h.1.sub (.cons (k := 3) rfl (.nil _)), h.2⟩)
   ·skip
    refine .exitOut rfl (LPost.exit fun a w h => ⟨rfl, F_57, l_58, h.1.sub (.cons (k := 3) rfl (.nil _)), h.2⟩)
  ·intro b62 hb0 hk e a w hD
   obtain ⟨rfl, F_63, l_64, hA⟩ := hD
   refine interp_exit rfl (GE.app ?_ hk a w hA)
   refine .code (.seq (.region (.move rfl rfl (.move rfl rfl (.call0 rfl Tryz.call83 rfl rfl rfl (c_wormtubref14_check _ b62) ?_)))))
   rintro r_67 F_65 _ - l_66 rfl
   refine .catS rfl rfl rfl (fun s68 e69 => ?_)
   refine .catS rfl rfl rfl (fun s70 e71 => ?_)
   refine .assign rfl rfl (.nil (.code ?_))
   exact .ret0 Tryz.results47 (.tmp rfl (.nil)) (i := 0) rfl (Fz.t l_7 (Fz.t l_13 (Fz.t l_55 (Fz.t l_64 l_66)))) rfl
end Go.Proofs.YthnlglmjffdpfaaGreatDoor
end

section
namespace Go.Proofs.YthnlglmjffdpfaaGreatDoor
open Go.Dec Go.Shelf Go.RowKit Go.Maps Go.Sort
def m_wormtubref14_residue (b1 : Int) : Int :=
 (Int.tmod (w64 ((w64 ((w64 (b1)) + 95)) - 32)) 95)
set_option maxRecDepth 100000 in
set_option maxHeartbeats 4000000 in
theorem c_wormtubref14_residue (F0 : Fz) (b1 : Int) : CT0 Tryz.prog 84 [(.int .u8 b1)].toArray F0 (some (m_wormtubref14_residue b1)) (fun r _ v => v = (.int .i64 r)) := by
 refine CT0.enter Tryz.func84 rfl Tryz.ntmps84 rfl fun r R => ?_
 refine .seq (.region (.assign rfl rfl (.nil (.code (.seq (.region (.move rfl rfl (.convI rfl Tryz.underlying5 Tryz.underlying3 rfl (.add rfl rfl rfl (.sub rfl rfl rfl (.remC rfl (by decide) rfl rfl ?_)))))))))))
 refine .assign rfl rfl (.nil (.code ?_))
 exact .ret0 Tryz.results84 (.tmp rfl (.nil)) (i := 0) rfl Fz.r rfl
noncomputable def b_wormtubref14_sum_2 (rows1 : (List (List UInt8))) (s6 : (List UInt8) × Int) (s10 : Int × Int) : Option (Ctl (Int × Int) ((Int))) :=
 if (decide (s10.2 < (rows1.length : Int))) then ((idxL rows1 s10.2).bind fun x14 => (idxL x14 s6.2).bind fun c24 => bindv (w64 (s10.1 + (m_wormtubref14_residue (c24.toNat : Int)))) fun n_28 => bindv (w64 (s10.2 + 1)) fun i30 => some (.next (n_28, i30))) else (some (.done s10.1))
noncomputable def b_wormtubref14_sum_1 (rows1 : (List (List UInt8))) (from_5 : (List UInt8)) (s6 : (List UInt8) × Int) : Option (Ctl ((List UInt8) × Int) (((List UInt8)))) :=
 if (decide (s6.2 < 95)) then ((loopM (b_wormtubref14_sum_2 rows1 s6) (0, 0)).bind fun b32 => (if (!(from_5 == ([] : List UInt8))) then ((idxL from_5 s6.2).bind fun c36 => bindv (w64 ((w64 ((m_wormtubref14_residue (c36.toNat : Int)) + 760)) - b32)) fun n_40 => some n_40) else (some b32) : Option (Int)).bind fun j42 => (appO s6.1 (encS (IntKind.u8.wrap ((w64 (32 + (Int.tmod j42 95))))))).bind fun s45 => bindv (w64 (s6.2 + 1)) fun k47 => some (.next (s45, k47))) else (some (.done s6.1))
noncomputable def m_wormtubref14_sum (rows1 : (List (List UInt8))) (from_5 : (List UInt8)) : Option (List UInt8) :=
 (loopM (b_wormtubref14_sum_1 rows1 from_5) (([] : List UInt8), 0)).bind fun b49 => (appO b49 ([10] : List UInt8)).bind fun s52 => some s52
set_option maxRecDepth 100000 in
set_option maxHeartbeats 4000000 in
theorem c_wormtubref14_sum (F0 : Fz) (rows1 : (List (List UInt8))) (p2 : Option Addr) (k3 : Nat) (h4 : RepSl 1 (Ex cStr) F0 p2 k3 rows1) (from_5 : (List UInt8)) : CT0 Tryz.prog 48 [(.slice p2 rows1.length k3), (.string (bs from_5))].toArray F0 (m_wormtubref14_sum rows1 from_5) (fun r _ v => v = (.string (bs r))) := by
 refine CT0.enter Tryz.func48 rfl Tryz.ntmps48 rfl fun r R => ?_
 unfold m_wormtubref14_sum
 refine .seq (.region (.assign rfl rfl (.nil (.code (.seq (.region (.assign rfl rfl (.nil (.code (.seq (.seq ?_)))))))))))
 refine .region (.assign rfl rfl (.nil (.code (.block (.keep (.cons (k := 0) rfl (.cons (k := 1) rfl (.cons (k := 5) rfl (.cons (k := 6) rfl (.nil _))))) ?_)))))
 refine .loop (fun (s6 : (List UInt8) × Int) a w => ∃ (F_7 : Fz), F0 ≤ F_7 ∧ Hd 46 [] [(0, (.slice p2 rows1.length k3)), (1, (.string (bs from_5))), (5, (.string (bs s6.1))), (6, (.int .i64 s6.2))] F_7 [R] a w) (fun b49 e a w => e = .exit 0 ∧ ∃ (F_50 : Fz), F0 ≤ F_50 ∧ Hd 46 [] [(5, (.string (bs b49)))] F_50 [R] a w) ?_ ?_ ?_
 ·exact fun a w h => ⟨F0, Fz.r, h.1.sub (.cons (k := 0) rfl (.cons (k := 1) rfl (.cons (k := 5) rfl (.cons (k := 6) rfl (.nil _))))), h.2⟩
 ·intro s6 ctl
  refine GC.ex (fun a w ⟨F_7, l_8, hA⟩ => ⟨_, hA, ?_⟩)
  unfold b_wormtubref14_sum_1
  refine .seq (.seq (.region (.move rfl rfl (.lss rfl rfl rfl (.nil (.code (.cond rfl (fun hb9 => ?_) (fun hb9 => ?_))))))))
  ·skip
   refine .skip (.code (.seq (.block (.seq (.region (.assign rfl rfl (.nil (.code (.seq (.seq (.region ?_)))))))))))
   refine .assign rfl rfl (.nil (.code (.block (.keep (.cons (k := 0) rfl (.cons (k := 1) rfl (.cons (k := 5) rfl (.cons (k := 6) rfl (.cons (k := 7) rfl (.cons (k := 8) rfl (.nil _))))))) ?_))))
   refine .loop (fun (s10 : Int × Int) a w => ∃ (F_11 : Fz), F_7 ≤ F_11 ∧ Hd 46 [] [(0, (.slice p2 rows1.length k3)), (1, (.string (bs from_5))), (5, (.string (bs s6.1))), (6, (.int .i64 s6.2)), (7, (.int .i64 s10.1)), (8, (.int .i64 s10.2))] F_11 [R] a w) (fun b32 e a w => e = .exit 2 ∧ ∃ (F_33 : Fz), F_7 ≤ F_33 ∧ Hd 46 [] [(0, (.slice p2 rows1.length k3)), (1, (.string (bs from_5))), (5, (.string (bs s6.1))), (6, (.int .i64 s6.2)), (7, (.int .i64 b32))] F_33 [R] a w) ?_ ?_ ?_
   ·exact fun a w h => ⟨F_7, Fz.r, h.1.sub (.cons (k := 0) rfl (.cons (k := 1) rfl (.cons (k := 5) rfl (.cons (k := 6) rfl (.cons (k := 7) rfl (.cons (k := 8) rfl (.nil _))))))), h.2⟩
   ·intro s10 ctl
    refine GC.ex (fun a w ⟨F_11, l_12, hA⟩ => ⟨_, hA, ?_⟩)
    unfold b_wormtubref14_sum_2
    refine .seq (.seq (.region (.move rfl rfl (.move rfl rfl (.lenS rfl rfl Tryz.underlying86 rfl (.lss rfl rfl rfl (.nil (.code (.cond rfl (fun hb13 => ?_) (fun hb13 => ?_))))))))))
    ·skip
     refine .skip (.code (.seq (.block (.region (.move rfl rfl (.move rfl rfl (.move rfl rfl (.idx rfl Tryz.underlying86 Tryz.sizeOf9 (h4.mono (Fz.t l_8 l_12)) rfl rfl (fun x14 b15 o16 T17 fr18 cs19 e20 hm21 hv22 => ?_)))))))))
     refine .loadF rfl Tryz.isAgg9 rfl hm21 (cell_of_take (k := 0) hv22 rfl) (.move rfl rfl (.idxStr rfl Tryz.underlying9 rfl rfl (fun c24 e25 => ?_)))
     refine .callP rfl Tryz.call84 rfl rfl rfl (c_wormtubref14_residue _ (c24.toNat : Int)) ?_
     rintro F_26 _ l_27 rfl
     refine .add rfl rfl rfl (.assignL rfl rfl (fun n_28 e29 => ?_))
     refine .nil (.block (.code (.region (.move rfl rfl (.add rfl rfl rfl (.assignL rfl rfl (fun i30 e31 => ?_)))))))
     refine .nil ?_
     exact .nil (LPost.norm fun a w h => ⟨F_26, (Fz.t l_12 l_27), h.1.sub (.cons (k := 0) rfl (.cons (k := 1) rfl (.cons (k := 5) rfl (.cons (k := 6) rfl (.cons (k := 7) rfl (.cons (k := 8) rfl (.nil _))))))), h.2⟩)
    ·skip
     refine .exitOut rfl (LPost.exit fun a w h => ⟨rfl, F_11, l_12, h.1.sub (.cons (k := 0) rfl (.cons (k := 1) rfl (.cons (k := 5) rfl (.cons (k := 6) rfl (.cons (k := 7) rfl (.nil _)))))), h.2⟩)
   ·intro b32 hb0 hk e a w hD
    obtain ⟨rfl, F_33, l_34, hA⟩ := hD
    refine interp_exit rfl (GE.app ?_ hk a w hA)
    refine .code (.seq (.seq (.region (.move rfl rfl (.neqS rfl Tryz.underlying9 rfl rfl (.nil (.code (.keep (.cons (k := 0) rfl (.cons (k := 1) rfl (.cons (k := 5) rfl (.cons (k := 6) rfl (.cons (k := 7) rfl (.cons (k := 29) rfl (.nil _))))))) ?_))))))))
    refine GC.join0 (σ := Int) (fun j42 a w => ∃ (F_43 : Fz), F_33 ≤ F_43 ∧ Hd 46 [] [(0, (.slice p2 rows1.length k3)), (1, (.string (bs from_5))), (5, (.string (bs s6.1))), (6, (.int .i64 s6.2)), (7, (.int .i64 j42))] F_43 [R] a w) (fun sj => ?_) (fun j42 hs0 => GE.ex (fun a w ⟨F_43, l_44, hA⟩ => ⟨_, hA, ?_⟩))
    ·skip
     refine .cond rfl (fun hb35 => ?_) (fun hb35 => ?_)
     ·skip
      refine .region (.move rfl rfl (.move rfl rfl (.idxStr rfl Tryz.underlying9 rfl rfl (fun c36 e37 => ?_))))
      refine .callP rfl Tryz.call84 rfl rfl rfl (c_wormtubref14_residue _ (c36.toNat : Int)) ?_
      rintro F_38 _ l_39 rfl
      refine .add rfl rfl rfl (.move rfl rfl (.sub rfl rfl rfl (.assignL rfl rfl (fun n_40 e41 => ?_))))
      refine .nil ?_
      exact .nil fun e a w h => by cases e; exact ⟨rfl, ⟨F_38, l_39, h.1.sub (.cons (k := 0) rfl (.cons (k := 1) rfl (.cons (k := 5) rfl (.cons (k := 6) rfl (.cons (k := 7) rfl (.nil _)))))), h.2⟩⟩
     ·skip
      refine .skip ?_
      exact .nil fun e a w h => by cases e; exact ⟨rfl, ⟨F_33, Fz.r, h.1.sub (.cons (k := 0) rfl (.cons (k := 1) rfl (.cons (k := 5) rfl (.cons (k := 6) rfl (.cons (k := 7) rfl (.nil _)))))), h.2⟩⟩
    refine .code (.region (.move rfl rfl (.move rfl rfl (.remC rfl (by decide) rfl rfl (.add rfl rfl rfl (.convI rfl Tryz.underlying3 Tryz.underlying5 rfl (.encStr rfl Tryz.underlying5 Tryz.underlying9 rfl (.catS rfl rfl rfl (fun s45 e46 => ?_)))))))))
    refine .assign rfl rfl (.nil (.block (.code (.region (.move rfl rfl (.add rfl rfl rfl (.assignL rfl rfl (fun k47 e48 => ?_))))))))
    refine .nil ?_
    exact .nil (LPost.norm fun a w h => ⟨F_43, (Fz.t l_8 (Fz.t l_34 l_44)), h.1.sub (.cons (k := 0) rfl (.cons (k := 1) rfl (.cons (k := 5) rfl (.cons (k := 6) rfl (.nil _))))), h.2⟩)
  ·skip
   refine .exitOut rfl (LPost.exit fun a w h => ⟨rfl, F_7, l_8, h.1.sub (.cons (k := 5) rfl (.nil _)), h.2⟩)
 ·intro b49 hb0 hk e a w hD
  obtain ⟨rfl, F_50, l_51, hA⟩ := hD
  refine interp_exit rfl (GE.app ?_ hk a w hA)
  refine .code (.seq (.region (.move rfl rfl (.catS rfl rfl rfl (fun s52 e53 => ?_)))))
  refine .assign rfl rfl (.nil (.code ?_))
  exact .ret0 Tryz.results48 (.tmp rfl (.nil)) (i := 0) rfl l_51 rfl
noncomputable def b_wormtubref14_Write_1 (l_1 : (List ApiBooked)) (s11 : (List UInt8) × (List (List UInt8)) × Int) : Option (Ctl ((List UInt8) × (List (List UInt8)) × Int) (((List UInt8) × (List (List UInt8))))) :=
 if (decide (s11.2.2 < (l_1.length : Int))) then (((idxL l_1 s11.2.2).bind fun x18 => (m_wormtubref14_Row x18).bind fun r_33 => (appO s11.2.1 ([r_33])).bind fun l_39 => (idxL l_39 (w64 ((l_39.length : Int) - 1))).bind fun x43 => (appO s11.1 x43).bind fun s47 => (if (((l_39.length : Int) == 8) || (s11.2.2 == (w64 ((l_1.length : Int) - 1)))) then ((m_wormtubref14_sum l_39 ([] : List UInt8)).bind fun r_57 => (appO s47 r_57).bind fun s60 => some (s60, [])) else (some (s47, l_39)) : Option ((List UInt8) × (List (List UInt8)))).bind fun j63 => some (j63.1, j63.2) : Option ((List UInt8) × (List (List UInt8)))).bind fun j69 => bindv (w64 (s11.2.2 + 1)) fun i75 => some (.next (j69.1, j69.2, i75))) else (some (.done (s11.1, s11.2.1)))
noncomputable def m_wormtubref14_Write (l_1 : (List ApiBooked)) : Option ((List Int) × Int) :=
 if (decide ((l_1.length : Int) > 1024)) then (some ([], 3)) else ((m_wormtubref14_Valid l_1).bind fun r_8 => if (!r_8) then (some ([], 1)) else ((loopM (b_wormtubref14_Write_1 l_1) (([] : List UInt8), [], 0)).bind fun b77 => (appO [] b77.1).bind fun s83 => some ((i8s s83), 0)))
set_option maxRecDepth 100000 in
set_option maxHeartbeats 4000000 in
theorem c_wormtubref14_Write (F0 : Fz) (l_1 : (List ApiBooked)) (p2 : Option Addr) (k3 : Nat) (h4 : RepSl 2 rApiBooked F0 p2 k3 l_1) : CT0 Tryz.prog 18 [(.slice p2 l_1.length k3)].toArray F0 (m_wormtubref14_Write l_1) (fun r F v => ∃ (p0 : Option Addr) (k0 : Nat), v = .tuple #[(.slice p0 r.1.length k0), (.int .i64 r.2)] ∧ RepSl 1 (Ex (cInt .u8)) F p0 k0 r.1) := by
 refine CT0.enter Tryz.func18 rfl Tryz.ntmps18 rfl fun r R => ?_
 unfold m_wormtubref14_Write
 refine .seq (.region (.assign rfl rfl (.assign rfl rfl (.nil (.code (.seq (.seq (.region (.move rfl rfl (.lenS rfl rfl Tryz.underlying22 rfl (.gtr rfl rfl rfl ?_)))))))))))
 refine .nil (.code (.cond rfl (fun hb5 => ?_) (fun hb5 => ?_)))
 ·skip
  refine .seq (.region (.assign rfl rfl (.assign rfl rfl (.nil (.code ?_)))))
  exact .ret0 Tryz.results18 (.tmp rfl (.tmp rfl (.nil))) (i := 0) rfl Fz.r ⟨none, 0, rfl, RepSl.nil⟩
 ·skip
  refine .skip (.code (.seq (.seq (.region (.move rfl rfl (.call0 rfl Tryz.call46 rfl rfl rfl (c_wormtubref14_Valid _ l_1 p2 k3 h4) ?_))))))
  rintro r_8 F_6 _ - l_7 rfl
  refine .not rfl rfl (.nil (.code (.cond rfl (fun hb9 => ?_) (fun hb9 => ?_))))
  ·skip
   refine .seq (.region (.assign rfl rfl (.assign rfl rfl (.nil (.code ?_)))))
   exact .ret0 Tryz.results18 (.tmp rfl (.tmp rfl (.nil))) (i := 0) rfl l_7 ⟨none, 0, rfl, (RepSl.nil.mono l_7)⟩
  ·skip
   refine .skip (.code (.seq (.region (.assign rfl rfl (.nil (.code (.seq (.region (.assign rfl rfl (.nil (.code ?_)))))))))))
   refine .seq (.seq (.region (.assign rfl rfl (.nil (.code (.block (.ownNil 1 (Ex cStr) 9 (.keep (.cons (k := 0) rfl (.cons (k := 4) rfl (.cons (k := 5) rfl (.cons (k := 6) rfl (.nil _))))) ?_))))))))
   refine .loop (fun (s11 : (List UInt8) × (List (List UInt8)) × Int) a w => ∃ (F_12 : Fz) (p14 : Option Addr) (k15 : Nat), F_6 ≤ F_12 ∧ Hd 51 [] [(0, (.slice p2 l_1.length k3)), (4, (.string (bs s11.1))), (5, (.slice p14 s11.2.1.length k15)), (6, (.int .i64 s11.2.2))] F_12 [ownSl 1 (Ex cStr) F_12 9 p14 k15 s11.2.1, R] a w) (fun b77 e a w => e = .exit 0 ∧ ∃ (F_78 : Fz) (p80 : Option Addr) (k81 : Nat), F_6 ≤ F_78 ∧ Hd 51 [] [(4, (.string (bs b77.1))), (5, (.slice p80 b77.2.length k81))] F_78 [ownSl 1 (Ex cStr) F_78 9 p80 k81 b77.2, R] a w) ?_ ?_ ?_
   ·exact fun a w h => ⟨F_6, none, 0, Fz.r, h.1.sub (.cons (k := 0) rfl (.cons (k := 4) rfl (.cons (k := 5) rfl (.cons (k := 6) rfl (.nil _))))), h.2⟩
   ·intro s11 ctl
    refine GC.ex (fun a w ⟨F_12, p14, k15, l_13, hA⟩ => ⟨_, hA, ?_⟩)
    unfold b_wormtubref14_Write_1
    refine .seq (.seq (.region (.move rfl rfl (.move rfl rfl (.lenS rfl rfl Tryz.underlying22 rfl (.lss rfl rfl rfl (.nil (.code (.cond rfl (fun hb17 => ?_) (fun hb17 => ?_))))))))))
    ·skip
     refine .skip (.code (.seq (.keep (.cons (k := 0) rfl (.cons (k := 4) rfl (.cons (k := 5) rfl (.cons (k := 6) rfl (.nil _))))) ?_)))
     refine GC.join0 (σ := (List UInt8) × (List (List UInt8))) (fun j69 a w => ∃ (F_70 : Fz) (p72 : Option Addr) (k73 : Nat), F_12 ≤ F_70 ∧ Hd 51 [] [(0, (.slice p2 l_1.length k3)), (4, (.string (bs j69.1))), (5, (.slice p72 j69.2.length k73)), (6, (.int .i64 s11.2.2))] F_70 [ownSl 1 (Ex cStr) F_70 9 p72 k73 j69.2, R] a w) (fun sj => ?_) (fun j69 hs0 => GE.ex (fun a w ⟨F_70, p72, k73, l_71, hA⟩ => ⟨_, hA, ?_⟩))
     ·skip
      refine .block (.seq (.region (.move rfl rfl (.move rfl rfl (.move rfl rfl (.idx rfl Tryz.underlying22 Tryz.sizeOf41 (h4.mono (Fz.t l_7 l_13)) rfl rfl (fun x18 b19 o20 T21 fr22 cs23 e24 hm25 hv26 => ?_)))))))
      obtain ⟨p28, k29, hv26, h30⟩ := hv26
      refine .loadFA rfl Tryz.isAgg41 Tryz.sizeOf41 rfl hm25 hv26 rfl (.call0 rfl Tryz.call47 rfl rfl rfl (c_wormtubref14_Row _ x18 p28 k29 h30) ?_)
      rintro r_33 F_31 _ - l_32 rfl
      refine .sliceLit (cs := [.string (bs r_33)]) (zc := [.string (bs ([]))]) rfl Tryz.underlying86 Tryz.sizeOf9 Tryz.zeroValue9 rfl rfl rfl (by kernel_rfl) (by kernel_rfl) (fun b34 F_35 l_36 hb37 => ?_)
      have h38 : RepSl 1 (Ex cStr) F_35 (some ⟨b34, 0, none⟩) 1 ([r_33]) := RepSl.ofRow hb37 (.cons ok_t9.mono rfl .nil) rfl rfl
      refine .append 0 ok_t9 (Fz.t l_32 l_36) rfl Tryz.underlying86 Tryz.underlying86 rfl rfl rfl h38 rfl rfl (fun l_39 p40 k41 e42 => ?_)
      refine .assign rfl rfl (.nil (.code (.seq (.region (.move rfl rfl (.move rfl rfl (.move rfl rfl (.lenS rfl rfl Tryz.underlying86 rfl (.sub rfl rfl rfl (.bind (fun x43 e44 => ?_)))))))))))
      refine .ownAddr 0 rfl e44 (fun b45 hp46 => ?_)
      refine .idxOwn rfl Tryz.underlying86 Tryz.sizeOf9 hp46 e44 rfl rfl (.loadOwn (off := 0) (Φ := fun v => v = (.string (bs x43))) 0 rfl Fz.r rfl Tryz.isAgg9 hp46 e44 rfl rfl (fun vs h => ⟨_, by subst h; exact rfl, rfl⟩) (fun v hv => ?_))
      subst hv
      refine .catS rfl rfl rfl (fun s47 e48 => ?_)
      refine .assign rfl rfl (.nil (.code (.seq (.region (.move rfl rfl (.lenS rfl rfl Tryz.underlying86 rfl (.eql rfl rfl rfl (.move rfl rfl (.orP (b := ((l_39.length : Int) == 8)) (b' := (s11.2.2 == (w64 ((l_1.length : Int) - 1)))) 6 44 (fun hb49 => ?_) (fun hb50 => ?_) (fun F_51 l_52 => ?_))))))))))
      ·skip
       refine .onH hb49 rfl rfl (.move rfl rfl (.onH hb49 rfl rfl (.move rfl rfl (.onH hb49 rfl rfl (.lenS rfl rfl Tryz.underlying22 rfl (.onH hb49 rfl rfl (.sub rfl rfl rfl (.onH hb49 rfl rfl (.eql rfl rfl rfl (.pickFH hb49 rfl rfl rfl ?_))))))))))
       exact .fin 6 rfl rfl (by kernel_rfl) Fz.r
      ·skip
       refine .offH hb50 rfl rfl rfl (.offH hb50 rfl rfl rfl (.offH hb50 rfl rfl rfl (.offH hb50 rfl rfl rfl (.offH hb50 rfl rfl rfl (.pickTH hb50 rfl rfl rfl ?_)))))
       exact .fin 6 rfl rfl (by kernel_rfl) Fz.r
      refine .nil (.code (.keep (.cons (k := 0) rfl (.cons (k := 4) rfl (.cons (k := 5) rfl (.cons (k := 6) rfl (.cons (k := 44) rfl (.nil _)))))) ?_))
      refine GC.join0 (σ := (List UInt8) × (List (List UInt8))) (fun j63 a w => ∃ (F_64 : Fz) (p66 : Option Addr) (k67 : Nat), F_51 ≤ F_64 ∧ Hd 51 [] [(0, (.slice p2 l_1.length k3)), (4, (.string (bs j63.1))), (5, (.slice p66 j63.2.length k67)), (6, (.int .i64 s11.2.2))] F_64 [ownSl 1 (Ex cStr) F_64 9 p66 k67 j63.2, R] a w) (fun sj => ?_) (fun j63 hs0 => GE.ex (fun a w ⟨F_64, p66, k67, l_65, hA⟩ => ⟨_, hA, ?_⟩))
      ·skip
       refine .cond rfl (fun hb53 => ?_) (fun hb53 => ?_)
       ·skip
        refine .seq (.region (.move rfl rfl (.move rfl rfl (.callLend 0 rfl rfl Tryz.call48 rfl rfl rfl (fun F_54 l_55 h56 => (c_wormtubref14_sum _ l_39 p40 k41 h56 ([] : List UInt8))) (fun r_57 F_58 _ l_59 => ?_)))))
        refine .catS rfl rfl rfl (fun s60 e61 => ?_)
        refine .assign rfl rfl (.nil (.code (.region (.assign rfl rfl (.nil (.drop 0 (.ownNil 1 (Ex cStr) 9 ?_)))))))
        exact .nil fun e a w h => by cases e; exact ⟨rfl, ⟨F_58, none, 0, l_59, h.1.sub (.cons (k := 0) rfl (.cons (k := 4) rfl (.cons (k := 5) rfl (.cons (k := 6) rfl (.nil _))))), SH.picks [0, 0] rfl h.2⟩⟩
       ·skip
        refine .skip (.ownUp 0 l_52 rfl ?_)
        exact .nil fun e a w h => by cases e; exact ⟨rfl, ⟨F_51, p40, k41, Fz.r, h.1.sub (.cons (k := 0) rfl (.cons (k := 4) rfl (.cons (k := 5) rfl (.cons (k := 6) rfl (.nil _))))), SH.picks [0, 0] rfl h.2⟩⟩
      refine .block ?_
      exact .nil fun e a w h => by cases e; exact ⟨rfl, ⟨F_64, p66, k67, (Fz.t l_32 (Fz.t l_36 (Fz.t l_52 l_65))), h.1.sub (.cons (k := 0) rfl (.cons (k := 4) rfl (.cons (k := 5) rfl (.cons (k := 6) rfl (.nil _))))), h.2⟩⟩
     refine .code (.region (.move rfl rfl (.add rfl rfl rfl (.assignL rfl rfl (fun i75 e76 => ?_)))))
     refine .nil ?_
     exact .nil (LPost.norm fun a w h => ⟨F_70, p72, k73, (Fz.t l_13 l_71), h.1.sub (.cons (k := 0) rfl (.cons (k := 4) rfl (.cons (k := 5) rfl (.cons (k := 6) rfl (.nil _))))), h.2⟩)
    ·skip
     refine .exitOut rfl (LPost.exit fun a w h => ⟨rfl, F_12, p14, k15, l_13, h.1.sub (.cons (k := 4) rfl (.cons (k := 5) rfl (.nil _))), h.2⟩)
   ·intro b77 hb0 hk e a w hD
    obtain ⟨rfl, F_78, p80, k81, l_79, hA⟩ := hD
    refine interp_exit rfl (GE.app ?_ hk a w hA)
    refine .code (.seq (.region (.move rfl rfl (.strBytesO rfl Tryz.underlying9 Tryz.underlying25 Tryz.underlying5 rfl (fun s83 F_84 p85 k86 e87 l_88 h89 => ?_)))))
    refine .assign rfl rfl (.assign rfl rfl (.nil (.code ?_)))
    exact .ret0 Tryz.results18 (.tmp rfl (.tmp rfl (.nil))) (i := 1) rfl (Fz.t l_7 (Fz.t l_79 l_88)) ⟨p85, k86, rfl, h89⟩
end Go.Proofs.YthnlglmjffdpfaaGreatDoor
end

section
namespace Go.Proofs.YthnlglmjffdpfaaGreatDoor
open Go.Dec
theorem enc_all : ∀ n : Nat, n < 128 → encS (n : Int) = [UInt8.ofNat n] := by decide +kernel
theorem enc_u8 {b : UInt8} (h : b.toNat < 128) : encS (b.toNat : Int) = [b] := by rw [enc_all _ h]; simp
theorem enc_wrap {n : Nat} (h : n < 128) : encS (IntKind.u8.wrap (n : Int)) = [UInt8.ofNat n] := by rw [wrap_u8 (by omega) (by omega), enc_all _ h]
theorem digit_loop : ∀ (d k : Nat) (s : Bytes), k < 10 ^ d → k ≤ 1000000000000000000 → s.length + d ≤ 1000 → loopM b_wormtubref14_digits_1 ((k : Int), s) = some ((if k = 0 then [] else Go.Lib.decDigits k) ++ s)
  | 0, k, s, hk, _, _ => by
    have : k = 0 := by simp at hk; omega
    subst this
    rw [loopM_eq]; rfl
  | d + 1, k, s, hk, hk2, hs => by
    by_cases h0 : k = 0
    · subst h0; rw [loopM_eq]; rfl
    · have hb : b_wormtubref14_digits_1 ((k : Int), s) = some (.next (((k / 10 : Nat) : Int), [UInt8.ofNat (48 + k % 10)] ++ s)) := by
        unfold b_wormtubref14_digits_1
        rw [if_pos (by rw [decide_eq_true_eq]; omega)]
        have h1 : w64 (48 + Int.tmod (k : Int) 10) = ((48 + k % 10 : Nat) : Int) := by
          rw [Int.tmod_eq_emod_of_nonneg (by omega), w64_id (by omega) (by omega)]; omega
        have h2 : w64 (Int.tdiv (k : Int) 10) = ((k / 10 : Nat) : Int) := by
          rw [Int.tdiv_eq_ediv_of_nonneg (by omega), w64_id (by omega) (by omega)]; rfl
        simp only [h1, h2, bindv]
        rw [enc_wrap (by omega), appO_some' (by rw [List.length_singleton]; omega)]
        rfl
      rw [if_neg h0, loopM_eq, hb]
      show loopM b_wormtubref14_digits_1 (((k / 10 : Nat) : Int), [UInt8.ofNat (48 + k % 10)] ++ s) = _
      rw [digit_loop d (k / 10) _ (by rw [Nat.pow_succ] at hk; omega) (by omega) (by rw [List.length_append, List.length_singleton]; omega)]
      by_cases h10 : k < 10
      · rw [dec_small h10, if_pos (by omega), Nat.mod_eq_of_lt h10]; rfl
      · rw [dec_big h10, if_neg (by omega), List.append_assoc]
theorem digits_doc {n : Int} (h0 : 0 ≤ n) (h1 : n ≤ 72057594037927936) : m_wormtubref14_digits n = some (Go.Lib.itoa n) := by
  obtain ⟨k, rfl⟩ := Int.eq_ofNat_of_zero_le h0
  unfold m_wormtubref14_digits
  have h2 : w64 (48 + Int.tmod (k : Int) 10) = ((48 + k % 10 : Nat) : Int) := by
    rw [Int.tmod_eq_emod_of_nonneg (by omega), w64_id (by omega) (by omega)]; omega
  have h3 : w64 (Int.tdiv (k : Int) 10) = ((k / 10 : Nat) : Int) := by
    rw [Int.tdiv_eq_ediv_of_nonneg (by omega), w64_id (by omega) (by omega)]; rfl
  rw [h2, h3, enc_wrap (by omega)]
  show (loopM b_wormtubref14_digits_1 (((k / 10 : Nat) : Int), [UInt8.ofNat (48 + k % 10)])).bind _ = _
  rw [digit_loop 20 (k / 10) _ (by omega) (by omega) (by simp), itoa_nat h0, Int.toNat_natCast]
  by_cases h10 : k < 10
  · rw [dec_small h10, if_pos (by omega), Nat.mod_eq_of_lt h10]; rfl
  · rw [dec_big h10, if_neg (by omega)]; rfl
theorem numsS_app (a b : List Int) : numsS (a ++ b) = numsS a ++ numsS b := by unfold numsS; rw [List.flatMap_append]
theorem numsS_one (n : Int) : numsS [n] = 32 :: Go.Lib.itoa n := by unfold numsS; rw [List.flatMap_cons, List.flatMap_nil, List.append_nil]
theorem row_1 {x : ApiBooked} (h : okS x = true) : loopM (b_wormtubref14_Row_1 x) ([letterS x.Kind], 0) = some (textS x) := by
  have hb := nums_bound h
  have hlen := textS_len h
  have hN := okS_len h
  have hpre : ∀ i, i ≤ x.N.length → (numsS (x.N.take i)).length ≤ (numsS x.N).length := by
    intro i _
    conv => rhs; rw [← List.take_append_drop i x.N, numsS_app, List.length_append]
    omega
  have htl : (textS x).length = 1 + (numsS x.N).length := by unfold textS; simp; omega
  obtain ⟨t, rfl, hq⟩ := loopM_upto (body := b_wormtubref14_Row_1 x) (fun i (t : Bytes) => (t, (i : Int))) (fun t => t) (fun i t => t = letterS x.Kind :: numsS (x.N.take i)) x.N.length
    (fun i t hi ht => by
      subst ht
      refine ⟨_, ?_, rfl⟩
      have hp := hpre (i + 1) hi
      have hp0 := hpre i (by omega)
      rw [List.take_add_one, getD_get (d := 0) hi, numsS_app] at hp ⊢
      simp only [Option.toList_some] at hp ⊢
      have hn := hb _ (getD_in (d := 0) hi)
      rw [numsS_one, List.length_append, List.length_cons] at hp
      unfold b_wormtubref14_Row_1
      rw [if_pos (by rw [decide_eq_true_eq]; omega)]
      rw [appO_some' (by simp only [List.length_cons, List.length_nil]; omega)]
      have i1 : idxL x.N (i : Int) = some (x.N.getD i 0) := by rw [idxL_nat, getD_get (d := 0) hi]
      simp only [Option.bind_some, i1, digits_doc hn.1 hn.2]
      rw [appO_some' (by simp only [List.length_append, List.length_cons, List.length_nil]; omega)]
      simp only [Option.bind_some, bindv, nx (show i ≤ 1000000000 by omega)]
      rw [numsS_one]; simp)
    (fun t _ => by unfold b_wormtubref14_Row_1; rw [if_neg (by simp)]) x.N.length 0 [letterS x.Kind] (by omega) (by simp [numsS])
  rw [List.take_of_length_le (Nat.le_refl _)] at hq
  exact hq
theorem row_2 : ∀ (d : Nat) (s : Bytes), s.length + d = 87 → loopM b_wormtubref14_Row_2 s = some (s ++ List.replicate d 46)
  | 0, s, h => by
    rw [loopM_eq]
    unfold b_wormtubref14_Row_2
    rw [if_neg (by rw [decide_eq_true_eq]; omega)]
    simp
  | d + 1, s, h => by
    have hb : b_wormtubref14_Row_2 s = some (.next (s ++ [46])) := by
      unfold b_wormtubref14_Row_2
      rw [if_pos (by rw [decide_eq_true_eq]; omega), appO_some' (by rw [List.length_singleton]; omega)]; rfl
    rw [loopM_eq, hb]
    show loopM b_wormtubref14_Row_2 (s ++ [46]) = _
    rw [row_2 d _ (by rw [List.length_append, List.length_singleton]; omega), List.append_assoc]; rfl
theorem check_1 {s : Bytes} (h : s.length = 87) : loopM (b_wormtubref14_check_1 s) (0, 0) = some (checkN s : Int) := by
  obtain ⟨t, rfl, hq⟩ := loopM_upto (body := b_wormtubref14_check_1 s) (fun i (t : Int) => (t, (i : Int))) (fun t => t) (fun i t => t = (checkN (s.take i) : Int)) 87
    (fun i t hi ht => by
      subst ht
      refine ⟨_, ?_, rfl⟩
      have hc := check_small (s.take i)
      have hb := (s.getD i 0).toNat_lt
      unfold b_wormtubref14_check_1
      rw [if_pos (by rw [decide_eq_true_eq]; omega)]
      have i1 : idxL s (i : Int) = some (s.getD i 0) := by rw [idxL_nat, getD_get (d := 0) (by omega)]
      simp only [i1, Option.bind_some, bindv, nx (show i ≤ 1000000000 by omega)]
      rw [List.take_add_one, getD_get (d := 0) (by omega), check_app]
      simp only [Option.toList_some, chk_cons]
      rw [w64_id (n := 31 * (checkN (s.take i) : Int)) (by omega) (by omega), w64_id (n := ((s.getD i 0).toNat : Int)) (by omega) (by omega), w64_id (by omega) (by omega), Int.tmod_eq_emod_of_nonneg (by omega)]
      rfl)
    (fun t _ => by unfold b_wormtubref14_check_1; rw [if_neg (by simp)]) 87 0 0 (by omega) (by simp [checkN])
  rw [List.take_of_length_le (by omega)] at hq
  exact hq
theorem hex_step {m i : Nat} {s : Bytes} (hi : i < 8) (hm : m ≤ 4294967295) (hs : s.length ≤ 8) : b_wormtubref14_check_2 ((m : Int), s, (i : Int)) = some (.next (((m / 16 : Nat) : Int), hexd (m % 16) :: s, ((i + 1 : Nat) : Int))) := by
  unfold b_wormtubref14_check_2
  rw [if_pos (by rw [decide_eq_true_eq]; show (i : Int) < 8; omega)]
  have h1 : Int.tmod (m : Int) 16 = ((m % 16 : Nat) : Int) := by rw [Int.tmod_eq_emod_of_nonneg (by omega)]; rfl
  have h2 : w64 (Int.tdiv (m : Int) 16) = ((m / 16 : Nat) : Int) := by
    rw [Int.tdiv_eq_ediv_of_nonneg (by omega), w64_id (by omega) (by omega)]; rfl
  have hmm : m % 16 < 16 := Nat.mod_lt _ (by decide)
  have h3 : idxL ([48, 49, 50, 51, 52, 53, 54, 55, 56, 57, 97, 98, 99, 100, 101, 102] : List UInt8) ((m % 16 : Nat) : Int) = some (hexd (m % 16)) := by
    rw [idxL_nat, getD_get (d := 0) (by simpa using hmm)]; rfl
  have h5 : encS ((hexd (m % 16)).toNat : Int) = [hexd (m % 16)] := enc_u8 (Nat.lt_of_le_of_lt (hexd_print _ hmm).2 (by decide))
  have h6 : w64 ((i : Int) + 1) = ((i + 1 : Nat) : Int) := nx (by omega)
  have h7 : appO [hexd (m % 16)] s = some (hexd (m % 16) :: s) := appO_some' (by rw [List.length_singleton]; omega)
  have h8 : idxL ([48, 49, 50, 51, 52, 53, 54, 55, 56, 57, 97, 98, 99, 100, 101, 102] : List UInt8) (Int.tmod (m : Int) 16) = some (hexd (m % 16)) := by rw [h1]; exact h3
  have h9 : appO (encS ((hexd (m % 16)).toNat : Int)) s = some (hexd (m % 16) :: s) := by rw [h5]; exact h7
  refine bind_of h8 (bind_of h9 ?_)
  show some (Ctl.next (w64 (Int.tdiv (m : Int) 16), hexd (m % 16) :: s, w64 ((i : Int) + 1))) = _
  rw [h2, h6]
theorem check_2 (c : Nat) (hc : c < 4294967296) : loopM b_wormtubref14_check_2 ((c : Int), [], 0) = some (hexS c) := by
  obtain ⟨t, ht, hq⟩ := loopM_upto (body := b_wormtubref14_check_2) (fun i (t : Int × Bytes) => (t.1, t.2, (i : Int))) (fun t => t.2) (fun i t => t = (((c / 16 ^ i : Nat) : Int), (hexS c).drop (8 - i))) 8
    (fun i t hi ht => by
      subst ht
      refine ⟨_, ?_, rfl⟩
      have hdiv : c / 16 ^ (i + 1) = c / 16 ^ i / 16 := by rw [Nat.pow_succ, Nat.div_div_eq_div_mul]
      have hle : c / 16 ^ i ≤ c := Nat.div_le_self _ _
      have hat := hexS_at c (i := 7 - i) (by omega)
      rw [show 7 - (7 - i) = i by omega] at hat
      have h4 := at_eq (d := 0) (l := (hexS c).drop (7 - i)) (i := 0) (by rw [List.length_drop, hexS_len]; omega)
      rw [List.take_zero, List.nil_append, getD_drop, List.drop_drop, Nat.add_zero, hat, show 7 - i + (0 + 1) = 8 - i by omega] at h4
      have h5 := hex_step (m := c / 16 ^ i) (s := (hexS c).drop (8 - i)) hi (Nat.le_trans hle (by omega)) (by rw [List.length_drop, hexS_len]; omega)
      rw [h5, hdiv, show 8 - (i + 1) = 7 - i by omega, h4])
    (fun t _ => by unfold b_wormtubref14_check_2; rw [if_neg (by simp)]) 8 0 ((c : Int), []) (by omega) (by
      rw [Nat.pow_zero, Nat.div_one, List.drop_of_length_le (by rw [hexS_len]; decide)])
  rw [ht] at hq
  exact hq
theorem check_doc {s : Bytes} (h : s.length = 87) : m_wormtubref14_check s = some (hexS (checkN s)) := by
  unfold m_wormtubref14_check
  exact bind_of (check_1 h) (bind_of (check_2 _ (check_small s)) rfl)
theorem letter_doc {k : Int} (h : 0 ≤ k ∧ k ≤ 3) : sliceL m_wormtubref14_letters k (w64 (k + 1)) = some [letterS k] := by
  rcases kind_cases h with rfl | rfl | rfl | rfl <;> rfl
theorem Row_doc {x : ApiBooked} (h : okS x = true) : m_wormtubref14_Row x = some (rowS x) := by
  have hl := textS_len h
  have hp := padS_len hl
  unfold m_wormtubref14_Row
  refine bind_of (letter_doc (okS_iff.1 h).1) (bind_of (row_1 h) ?_)
  have h2 : loopM b_wormtubref14_Row_2 (textS x) = some (padS (textS x)) := row_2 (87 - (textS x).length) (textS x) (by omega)
  refine bind_of h2 (bind_of (check_doc hp) ?_)
  rw [appO_some' (by rw [hp, hexS_len]; decide)]
  simp only [Option.bind_some]
  rw [appO_some' (by rw [List.length_append, hp, hexS_len]; decide)]
  simp only [Option.bind_some]
  rw [rowS_eq]
theorem residue_doc (b : UInt8) : m_wormtubref14_residue (b.toNat : Int) = (resS b : Int) := by
  have hb := b.toNat_lt
  unfold m_wormtubref14_residue resS
  rw [w64_id (n := (b.toNat : Int)) (by omega) (by omega), w64_id (n := (b.toNat : Int) + 95) (by omega) (by omega), w64_id (by omega) (by omega)]
  rw [Int.tmod_eq_emod_of_nonneg (by omega)]
  omega
theorem sum_2 {rows : List Bytes} (h96 : ∀ r ∈ rows, r.length = 96) (hl : rows.length ≤ 1000) {i : Nat} (hi : i < 95) (s : Bytes) : loopM (b_wormtubref14_sum_2 rows (s, (i : Int))) (0, 0) = some ((sumS rows i : Nat) : Int) := by
  obtain ⟨t, rfl, hq⟩ := loopM_upto (body := b_wormtubref14_sum_2 rows (s, (i : Int))) (fun j (t : Int) => (t, (j : Int))) (fun t => t) (fun j t => t = ((sumS (rows.take j) i : Nat) : Int)) rows.length
    (fun j t hj ht => by
      subst ht
      refine ⟨_, ?_, rfl⟩
      have hr := h96 _ (getD_in (d := ([] : Bytes)) hj)
      have hb := sumS_le (rows.take j) i
      rw [List.length_take] at hb
      have hb2 := res_lt ((rows.getD j []).getD i 0)
      unfold b_wormtubref14_sum_2
      rw [if_pos (by rw [decide_eq_true_eq]; omega)]
      have i1 : idxL rows (j : Int) = some (rows.getD j []) := by rw [idxL_nat, getD_get (d := ([] : Bytes)) hj]
      have i2 : idxL (rows.getD j []) (i : Int) = some ((rows.getD j []).getD i 0) := by rw [idxL_nat, getD_get (d := 0) (by omega)]
      simp only [i1, i2, Option.bind_some, bindv, nx (show j ≤ 1000000000 by omega), residue_doc]
      rw [sumS_snoc rows i j hj, w64_id (by omega) (by omega)]
      rfl)
    (fun t _ => by unfold b_wormtubref14_sum_2; rw [if_neg (by simp)]) rows.length 0 0 (by omega) (by simp [sumS])
  rw [List.take_of_length_le (Nat.le_refl _)] at hq
  exact hq
theorem sum_doc {rows : List Bytes} (h96 : ∀ r ∈ rows, r.length = 96) (hl : rows.length ≤ 1000) (g : Bytes) (f : Nat → Nat)
    (hj : ∀ (i : Nat), i < 95 → ((if (!(g == ([] : List UInt8))) then ((idxL g (i : Int)).bind fun c36 => bindv (w64 ((w64 ((m_wormtubref14_residue (c36.toNat : Int)) + 760)) - ((sumS rows i : Nat) : Int))) fun n_40 => some n_40) else (some ((sumS rows i : Nat) : Int)) : Option (Int)) = some ((f i : Nat) : Int) ∧ f i ≤ 1000000)) :
    m_wormtubref14_sum rows g = some (((List.range 95).map fun k => UInt8.ofNat (32 + f k % 95)) ++ [10]) := by
  unfold m_wormtubref14_sum
  obtain ⟨t, rfl, hq⟩ := loopM_upto (body := b_wormtubref14_sum_1 rows g) (fun i (t : Bytes) => (t, (i : Int))) (fun t => t) (fun i t => t = (List.range i).map fun k => UInt8.ofNat (32 + f k % 95)) 95
    (fun i t hi ht => by
      refine ⟨_, ?_, rfl⟩
      obtain ⟨h1, h2⟩ := hj i hi
      have hm : f i % 95 < 95 := Nat.mod_lt _ (by decide)
      have htl : t.length = i := by rw [ht]; simp
      unfold b_wormtubref14_sum_1
      rw [if_pos (by rw [decide_eq_true_eq]; omega)]
      refine bind_of (sum_2 h96 hl hi t) (bind_of h1 ?_)
      have h3 : w64 (32 + Int.tmod ((f i : Nat) : Int) 95) = ((32 + f i % 95 : Nat) : Int) := by
        rw [Int.tmod_eq_emod_of_nonneg (by omega), w64_id (by omega) (by omega)]; omega
      rw [h3, enc_wrap (by omega), appO_some' (by rw [List.length_singleton]; show t.length + 1 ≤ _; omega)]
      simp only [Option.bind_some, bindv, nx (show i ≤ 1000000000 by omega)]
      rw [List.range_succ, List.map_append, ht]; rfl)
    (fun t _ => by unfold b_wormtubref14_sum_1; rw [if_neg (by simp)]) 95 0 [] (by omega) rfl
  refine bind_of hq ?_
  rw [appO_some' (by simp)]; rfl
theorem guard_doc {rows : List Bytes} (h96 : ∀ r ∈ rows, r.length = 96) (hl : rows.length ≤ 1000) : m_wormtubref14_sum rows [] = some (guardS rows) :=
  sum_doc h96 hl [] (sumS rows) fun i _ => ⟨if_neg (by decide), by have := sumS_le rows i; omega⟩
theorem lost_doc {rows : List Bytes} (h96 : ∀ r ∈ rows, r.length = 96) (hl : rows.length ≤ 8) {g : Bytes} (hg : g.length = 96) : m_wormtubref14_sum rows g = some (lostS rows g) :=
  sum_doc h96 (by omega) g (fun i => resS (g.getD i 0) + 760 - sumS rows i) fun i hi => by
    have h1 := sumS_le rows i
    have h2 := res_lt (g.getD i 0)
    refine ⟨?_, by omega⟩
    have hne : g ≠ [] := by intro e; rw [e] at hg; simp at hg
    rw [if_pos (by simpa using hne)]
    have i1 : idxL g (i : Int) = some (g.getD i 0) := by rw [idxL_nat, getD_get (d := 0) (by omega)]
    simp only [i1, Option.bind_some, bindv, residue_doc]
    rw [w64_id (n := (resS (g.getD i 0) : Int) + 760) (by omega) (by omega), w64_id (by omega) (by omega)]
    congr 1; omega
end Go.Proofs.YthnlglmjffdpfaaGreatDoor
end

section
namespace Go.Proofs.YthnlglmjffdpfaaGreatDoor
open Go.Dec Go.Shelf Go.RowKit Go.Maps Go.Sort
noncomputable def b_wormtubref14_parse_1 (s1 : (List UInt8)) (s5 : Int × ApiBooked) : Option (Ctl (Int × ApiBooked) ((ApiBooked))) :=
 if (decide (s5.1 < 4)) then (((idxL (m_wormtubref14_letters) s5.1).bind fun c15 => (idxL s1 0).bind fun c17 => (if ((c15.toNat : Int) == (c17.toNat : Int)) then (bindv ({ s5.2 with Kind := s5.1 }) fun x34 => some x34) else (some s5.2) : Option (ApiBooked)).bind fun j36 => some j36 : Option (ApiBooked)).bind fun j42 => bindv (w64 (s5.1 + 1)) fun k48 => some (.next (k48, j42))) else (some (.done s5.2))
noncomputable def b_wormtubref14_parse_3 (s1 : (List UInt8)) (s73 : Int × Int) : Option (Ctl (Int × Int) ((Int × Int))) :=
 (if (decide (s73.1 < 87)) then ((idxL s1 s73.1).bind fun c77 => some (decide ((c77.toNat : Int) ≥ 48))) else some false).bind fun z82 => (if z82 then ((idxL s1 s73.1).bind fun c85 => some (decide ((c85.toNat : Int) ≤ 57))) else some false).bind fun z90 => if z90 then ((idxL s1 s73.1).bind fun c93 => bindv (Int.tmod (w64 ((w64 (10 * s73.2)) + (w64 ((IntKind.u8.wrap ((c93.toNat : Int) - 48)))))) 288230376151711744) fun n_95 => bindv (w64 (s73.1 + 1)) fun i97 => some (.next (i97, n_95))) else (some (.done (s73.1, s73.2)))
noncomputable def b_wormtubref14_parse_2 (s1 : (List UInt8)) (s56 : Int × ApiBooked) : Option (Ctl (Int × ApiBooked) ((ApiBooked))) :=
 (if (decide (s56.1 < 87)) then ((idxL s1 s56.1).bind fun c63 => some ((c63.toNat : Int) == 32)) else some false).bind fun z68 => if z68 then (bindv (w64 (s56.1 + 1)) fun i71 => (loopM (b_wormtubref14_parse_3 s1) (i71, 0)).bind fun b99 => (appO s56.2.N ([b99.2])).bind fun l_107 => bindv ({ s56.2 with N := l_107 }) fun x111 => some (.next (b99.1, x111))) else (some (.done s56.2))
noncomputable def m_wormtubref14_parse (s1 : (List UInt8)) : Option ApiBooked :=
 (loopM (b_wormtubref14_parse_1 s1) (0, (ApiBooked.mk (-1) ([])))).bind fun b50 => (loopM (b_wormtubref14_parse_2 s1) (1, b50)).bind fun b113 => some b113
set_option maxRecDepth 100000 in
set_option maxHeartbeats 4000000 in
theorem c_wormtubref14_parse (F0 : Fz) (s1 : (List UInt8)) : CT0 Tryz.prog 56 [(.string (bs s1))].toArray F0 (m_wormtubref14_parse s1) (fun r F v => ∃ (p0 : Option Addr) (k0 : Nat), v = (eApiBooked r p0 k0) ∧ RepSl 1 (Ex (cInt .i64)) F p0 k0 r.N) := by
 refine CT0.enter Tryz.func56 rfl Tryz.ntmps56 rfl fun r R => ?_
 unfold m_wormtubref14_parse
 refine .seq (.region (.alloc (cs := (cApiBooked (ApiBooked.mk 0 ([])) none 0)) rfl Tryz.zeroValue41 rfl (fun b2 => ?_)))
 refine .nil (.code (.seq (.region (.build (cs := (cApiBooked (ApiBooked.mk (-1) ([])) none 0).toArray) rfl Tryz.underlying41 Tryz.zeroValue41 (plApiBooked _ Tryz.underlying41) rfl rfl (by kernel_rfl) (.alloc (cs := (cApiBooked (ApiBooked.mk 0 ([])) none 0)) rfl Tryz.zeroValue41 rfl (fun b3 => ?_))))))
 refine .ownNil 1 (Ex (cInt .i64)) 3 (.ownConv 0 rfl (show [] = (ApiBooked.mk (-1) ([])).N from rfl) (.store (cs' := (cApiBooked (ApiBooked.mk (-1) ([])) none 0)) Tryz.sizeOf41 rfl rfl rfl rfl (i := 1) rfl (Nat.le_of_ble_eq_true rfl) rfl (setMany_all (by rfl)) (.nil (.code (.seq (.seq (.region (.assign rfl rfl (.nil (.code (.block ?_)))))))))))
 refine .keep (.cons (k := 0) rfl (.cons (k := 2) rfl (.cons (k := 3) rfl (.cons (k := 4) rfl (.nil _))))) ?_
 refine .loop (fun (s5 : Int × ApiBooked) a w => ∃ (F_6 : Fz) (p8 : Option Addr) (k9 : Nat), F0 ≤ F_6 ∧ Hd 62 [] [(0, (.string (bs s1))), (2, (.pointer (some ⟨b2, 0, none⟩))), (3, (.pointer (some ⟨b3, 0, none⟩))), (4, (.int .i64 s5.1))] F_6 [ownSl 1 (Ex (cInt .i64)) F_6 3 p8 k9 s5.2.N, pt b3 (.cells (cApiBooked s5.2 p8 k9).toArray 41), pt b2 (.cells (cApiBooked (ApiBooked.mk 0 ([])) none 0).toArray 41), R] a w) (fun b50 e a w => e = .exit 0 ∧ ∃ (F_51 : Fz) (p53 : Option Addr) (k54 : Nat), F0 ≤ F_51 ∧ Hd 62 [] [(0, (.string (bs s1))), (2, (.pointer (some ⟨b2, 0, none⟩))), (3, (.pointer (some ⟨b3, 0, none⟩)))] F_51 [ownSl 1 (Ex (cInt .i64)) F_51 3 p53 k54 b50.N, pt b3 (.cells (cApiBooked b50 p53 k54).toArray 41), pt b2 (.cells (cApiBooked (ApiBooked.mk 0 ([])) none 0).toArray 41), R] a w) ?_ ?_ ?_
 ·exact fun a w h => ⟨F0, none, 0, Fz.r, h.1.sub (.cons (k := 0) rfl (.cons (k := 2) rfl (.cons (k := 3) rfl (.cons (k := 4) rfl (.nil _))))), h.2⟩
 ·intro s5 ctl
  refine GC.ex (fun a w ⟨F_6, p8, k9, l_7, hA⟩ => ⟨_, hA, ?_⟩)
  unfold b_wormtubref14_parse_1
  refine .seq (.seq (.region (.move rfl rfl (.lss rfl rfl rfl (.nil (.code (.cond rfl (fun hb11 => ?_) (fun hb11 => ?_))))))))
  ·skip
   refine .skip (.code (.seq (.keep (.cons (k := 0) rfl (.cons (k := 2) rfl (.cons (k := 3) rfl (.cons (k := 4) rfl (.nil _))))) ?_)))
   refine GC.join0 (σ := ApiBooked) (fun j42 a w => ∃ (F_43 : Fz) (p45 : Option Addr) (k46 : Nat), F_6 ≤ F_43 ∧ Hd 62 [] [(0, (.string (bs s1))), (2, (.pointer (some ⟨b2, 0, none⟩))), (3, (.pointer (some ⟨b3, 0, none⟩))), (4, (.int .i64 s5.1))] F_43 [ownSl 1 (Ex (cInt .i64)) F_43 3 p45 k46 j42.N, pt b3 (.cells (cApiBooked j42 p45 k46).toArray 41), pt b2 (.cells (cApiBooked (ApiBooked.mk 0 ([])) none 0).toArray 41), R] a w) (fun sj => ?_) (fun j42 hs0 => GE.ex (fun a w ⟨F_43, p45, k46, l_44, hA⟩ => ⟨_, hA, ?_⟩))
   ·skip
    refine .block (.seq (.keep (.cons (k := 0) rfl (.cons (k := 2) rfl (.cons (k := 3) rfl (.cons (k := 4) rfl (.nil _))))) (.bind (fun c15 e16 => ?_))))
    refine .bind (fun c17 e18 => ?_)
    refine .drawGD 5 0 (fun env12 => [((.string (bs (m_wormtubref14_letters))), fun _ => True), ((.int .i64 s5.1), fun _ => True), ((.int .u8 (c15.toNat : Int)), fun _ => True), ((.string (bs s1)), fun _ => True), ((.int .u8 (c17.toNat : Int)), fun _ => True)]) (fun L env12 => [ownSl 1 (Ex (cInt .i64)) F_6 3 p8 k9 s5.2.N, pt b3 (.cells (cApiBooked s5.2 p8 k9).toArray 41), pt b2 (.cells (cApiBooked (ApiBooked.mk 0 ([])) none 0).toArray 41), R]) mixedOK (by kernel_rfl) (deepN (k := 5) (n := 6) rfl (allLt6 (p := fun t => 5 ≤ t → ∀ j, j < t → ∃ s, depB _ s t j = true) (fun h => absurd h (by decide)) (fun h => absurd h (by decide)) (fun h => absurd h (by decide)) (fun h => absurd h (by decide)) (fun h => absurd h (by decide)) (fun _ => allLt5 (p := fun j => ∃ s, depB _ s 5 j = true) ⟨2, rfl⟩ ⟨2, rfl⟩ ⟨1, rfl⟩ ⟨2, rfl⟩ ⟨1, rfl⟩))) rfl (fun _ => rfl) (by kernel_rfl) (fun _ => rfl) ?_ (fun env12 F_19 l_20 hphi => ?_)
    ·skip
     refine .cons (fun L env12 F_21 l_22 hL hdn hup hphi => ⟨[], fun S hS hV => (Sub.nil _), ?_⟩) ?_
     ·skip
      refine .callP rfl Tryz.call81 rfl rfl rfl (c_wormtubref14_letters _ ) ?_
      rintro F_23 _ l_24 rfl
      exact .finV rfl rfl l_24
     refine .cons (fun L env12 F_25 l_26 hL hdn hup hphi => ⟨[(4, (.int .i64 s5.1))], fun S hS hV => (.cons (hS _ _ rfl) (Sub.nil _)), ?_⟩) ?_
     ·skip
      refine .move rfl rfl ?_
      exact .finV rfl rfl Fz.r
     refine .cons (fun L env12 F_27 l_28 hL hdn hup hphi => ⟨[(12, (.string (bs (m_wormtubref14_letters)))), (13, (.int .i64 s5.1))], fun S hS hV => (.cons (hV 0 12 _ (hdn 1 0 rfl) rfl rfl) (.cons (hV 1 13 _ (hdn 1 1 rfl) rfl rfl) (Sub.nil _))), ?_⟩) ?_
     ·skip
      refine .idxStrK e16 rfl Tryz.underlying9 rfl rfl ?_
      exact .finV rfl rfl Fz.r
     refine .cons (fun L env12 F_29 l_30 hL hdn hup hphi => ⟨[(0, (.string (bs s1)))], fun S hS hV => (.cons (hS _ _ rfl) (Sub.nil _)), ?_⟩) ?_
     ·skip
      refine .move rfl rfl ?_
      exact .finV rfl rfl Fz.r
     refine .cons (fun L env12 F_31 l_32 hL hdn hup hphi => ⟨[(15, (.string (bs s1)))], fun S hS hV => (.cons (hV 3 15 _ (hdn 1 3 rfl) rfl rfl) (Sub.nil _)), ?_⟩) ?_
     ·skip
      refine .idxStrK e18 rfl Tryz.underlying9 rfl rfl ?_
      exact .finV rfl rfl Fz.r
     exact .nil
    refine .norm (S' := [(0, (.string (bs s1))), (2, (.pointer (some ⟨b2, 0, none⟩))), (3, (.pointer (some ⟨b3, 0, none⟩))), (4, (.int .i64 s5.1)), (12, (.string (bs (m_wormtubref14_letters)))), (13, (.int .i64 s5.1)), (14, (.int .u8 (c15.toNat : Int))), (15, (.string (bs s1))), (16, (.int .u8 (c17.toNat : Int)))]) (.cons (k := 0) rfl (.cons (k := 2) rfl (.cons (k := 3) rfl (.cons (k := 4) rfl (.cons (k := 12) rfl (.cons (k := 13) rfl (.cons (k := 14) rfl (.cons (k := 15) rfl (.cons (k := 16) rfl (.nil _)))))))))) (rfl : _ = [ownSl 1 (Ex (cInt .i64)) F_6 3 p8 k9 s5.2.N, pt b3 (.cells (cApiBooked s5.2 p8 k9).toArray 41), pt b2 (.cells (cApiBooked (ApiBooked.mk 0 ([])) none 0).toArray 41), R]) ?_
    refine .eql rfl rfl rfl (.nil (.code (.keep (.cons (k := 0) rfl (.cons (k := 2) rfl (.cons (k := 3) rfl (.cons (k := 4) rfl (.cons (k := 17) rfl (.nil _)))))) ?_)))
    refine GC.join0 (σ := ApiBooked) (fun j36 a w => ∃ (F_37 : Fz) (p39 : Option Addr) (k40 : Nat), F_19 ≤ F_37 ∧ Hd 62 [] [(0, (.string (bs s1))), (2, (.pointer (some ⟨b2, 0, none⟩))), (3, (.pointer (some ⟨b3, 0, none⟩))), (4, (.int .i64 s5.1))] F_37 [ownSl 1 (Ex (cInt .i64)) F_37 3 p39 k40 j36.N, pt b3 (.cells (cApiBooked j36 p39 k40).toArray 41), pt b2 (.cells (cApiBooked (ApiBooked.mk 0 ([])) none 0).toArray 41), R] a w) (fun sj => ?_) (fun j36 hs0 => GE.ex (fun a w ⟨F_37, p39, k40, l_38, hA⟩ => ⟨_, hA, ?_⟩))
    ·skip
     refine .cond rfl (fun hb33 => ?_) (fun hb33 => ?_)
     ·skip
      refine .region (.move rfl rfl (.fieldAddr rfl Tryz.underlying41 rfl Tryz.sizeOf3 rfl (.letv (fun x34 e35 => ?_))))
      refine .ownConv 0 rfl (show s5.2.N = x34.N by rw [e35]) (.store (cs' := (cApiBooked x34 p8 k9)) Tryz.sizeOf3 rfl rfl rfl rfl (i := 1) rfl (Nat.le_of_ble_eq_true rfl) rfl (by rw [e35]; kernel_rfl) (.nil (.ownUp 0 l_20 rfl ?_)))
      exact .nil fun e a w h => by cases e; exact ⟨rfl, ⟨F_19, p8, k9, Fz.r, h.1.sub (.cons (k := 0) rfl (.cons (k := 2) rfl (.cons (k := 3) rfl (.cons (k := 4) rfl (.nil _))))), h.2⟩⟩
     ·skip
      refine .skip (.ownUp 0 l_20 rfl ?_)
      exact .nil fun e a w h => by cases e; exact ⟨rfl, ⟨F_19, p8, k9, Fz.r, h.1.sub (.cons (k := 0) rfl (.cons (k := 2) rfl (.cons (k := 3) rfl (.cons (k := 4) rfl (.nil _))))), h.2⟩⟩
    refine .block ?_
    exact .nil fun e a w h => by cases e; exact ⟨rfl, ⟨F_37, p39, k40, (Fz.t l_20 l_38), h.1.sub (.cons (k := 0) rfl (.cons (k := 2) rfl (.cons (k := 3) rfl (.cons (k := 4) rfl (.nil _))))), h.2⟩⟩
   refine .code (.region (.move rfl rfl (.add rfl rfl rfl (.assignL rfl rfl (fun k48 e49 => ?_)))))
   refine .nil ?_
   exact .nil (LPost.norm fun a w h => ⟨F_43, p45, k46, (Fz.t l_7 l_44), h.1.sub (.cons (k := 0) rfl (.cons (k := 2) rfl (.cons (k := 3) rfl (.cons (k := 4) rfl (.nil _))))), h.2⟩)
  ·skip
   refine .exitOut rfl (LPost.exit fun a w h => ⟨rfl, F_6, p8, k9, l_7, h.1.sub (.cons (k := 0) rfl (.cons (k := 2) rfl (.cons (k := 3) rfl (.nil _)))), h.2⟩)
 ·intro b50 hb0 hk e a w hD
  obtain ⟨rfl, F_51, p53, k54, l_52, hA⟩ := hD
  refine interp_exit rfl (GE.app ?_ hk a w hA)
  refine .code (.seq (.seq (.region (.assign rfl rfl (.nil (.code (.block (.keep (.cons (k := 0) rfl (.cons (k := 2) rfl (.cons (k := 3) rfl (.cons (k := 5) rfl (.nil _))))) ?_))))))))
  refine .loop (fun (s56 : Int × ApiBooked) a w => ∃ (F_57 : Fz) (p59 : Option Addr) (k60 : Nat), F_51 ≤ F_57 ∧ Hd 62 [] [(0, (.string (bs s1))), (2, (.pointer (some ⟨b2, 0, none⟩))), (3, (.pointer (some ⟨b3, 0, none⟩))), (5, (.int .i64 s56.1))] F_57 [ownSl 1 (Ex (cInt .i64)) F_57 3 p59 k60 s56.2.N, pt b3 (.cells (cApiBooked s56.2 p59 k60).toArray 41), pt b2 (.cells (cApiBooked (ApiBooked.mk 0 ([])) none 0).toArray 41), R] a w) (fun b113 e a w => e = .exit 2 ∧ ∃ (F_114 : Fz) (p116 : Option Addr) (k117 : Nat), F_51 ≤ F_114 ∧ Hd 62 [] [(2, (.pointer (some ⟨b2, 0, none⟩))), (3, (.pointer (some ⟨b3, 0, none⟩)))] F_114 [ownSl 1 (Ex (cInt .i64)) F_114 3 p116 k117 b113.N, pt b3 (.cells (cApiBooked b113 p116 k117).toArray 41), pt b2 (.cells (cApiBooked (ApiBooked.mk 0 ([])) none 0).toArray 41), R] a w) ?_ ?_ ?_
  ·exact fun a w h => ⟨F_51, p53, k54, Fz.r, h.1.sub (.cons (k := 0) rfl (.cons (k := 2) rfl (.cons (k := 3) rfl (.cons (k := 5) rfl (.nil _))))), h.2⟩
  ·intro s56 ctl
   refine GC.ex (fun a w ⟨F_57, p59, k60, l_58, hA⟩ => ⟨_, hA, ?_⟩)
   unfold b_wormtubref14_parse_2
   refine .seq (.seq (.region (.move rfl rfl (.lss rfl rfl rfl (.move rfl rfl (.andM (b := (decide (s56.1 < 87))) 5 27 (fun hb62 z69 => ?_) (fun hb65 => ?_) (fun z68 F_66 l_67 => ?_)))))))
   ·skip
    refine .onH hb62 rfl rfl (.move rfl rfl (.onH hb62 rfl rfl (.move rfl rfl (.onH hb62 rfl rfl (.idxStr rfl Tryz.underlying9 rfl rfl (fun c63 e64 => ?_))))))
    refine .onH hb62 rfl rfl (.eql rfl rfl rfl (.pickTH hb62 rfl rfl rfl ?_))
    exact .finZ 5 rfl rfl (by kernel_rfl) Fz.r
   ·skip
    refine .offH hb65 rfl rfl rfl (.offH hb65 rfl rfl rfl (.offH hb65 rfl rfl rfl (.offH hb65 rfl rfl rfl (.pickFH hb65 rfl rfl rfl ?_))))
    exact .fin 5 rfl rfl (by kernel_rfl) Fz.r
   refine .nil (.code (.cond rfl (fun hb70 => ?_) (fun hb70 => ?_)))
   ·skip
    refine .skip (.code (.block (.seq (.region (.assign rfl rfl (.nil (.code (.seq (.seq (.region (.move rfl rfl ?_)))))))))))
    refine .add rfl rfl rfl (.assignL rfl rfl (fun i71 e72 => ?_))
    refine .nil (.code (.block (.keep (.cons (k := 0) rfl (.cons (k := 2) rfl (.cons (k := 3) rfl (.cons (k := 5) rfl (.cons (k := 6) rfl (.nil _)))))) ?_)))
    refine .loop (fun (s73 : Int × Int) a w => ∃ (F_74 : Fz), F_66 ≤ F_74 ∧ Hd 62 [] [(0, (.string (bs s1))), (2, (.pointer (some ⟨b2, 0, none⟩))), (3, (.pointer (some ⟨b3, 0, none⟩))), (5, (.int .i64 s73.1)), (6, (.int .i64 s73.2))] F_74 [ownSl 1 (Ex (cInt .i64)) F_57 3 p59 k60 s56.2.N, pt b3 (.cells (cApiBooked s56.2 p59 k60).toArray 41), pt b2 (.cells (cApiBooked (ApiBooked.mk 0 ([])) none 0).toArray 41), R] a w) (fun b99 e a w => e = .exit 4 ∧ ∃ (F_100 : Fz), F_66 ≤ F_100 ∧ Hd 62 [] [(0, (.string (bs s1))), (2, (.pointer (some ⟨b2, 0, none⟩))), (3, (.pointer (some ⟨b3, 0, none⟩))), (5, (.int .i64 b99.1)), (6, (.int .i64 b99.2))] F_100 [ownSl 1 (Ex (cInt .i64)) F_57 3 p59 k60 s56.2.N, pt b3 (.cells (cApiBooked s56.2 p59 k60).toArray 41), pt b2 (.cells (cApiBooked (ApiBooked.mk 0 ([])) none 0).toArray 41), R] a w) ?_ ?_ ?_
    ·exact fun a w h => ⟨F_66, Fz.r, h.1.sub (.cons (k := 0) rfl (.cons (k := 2) rfl (.cons (k := 3) rfl (.cons (k := 5) rfl (.cons (k := 6) rfl (.nil _)))))), h.2⟩
    ·intro s73 ctl
     refine GC.ex (fun a w ⟨F_74, l_75, hA⟩ => ⟨_, hA, ?_⟩)
     unfold b_wormtubref14_parse_3
     refine .seq (.seq (.region (.move rfl rfl (.lss rfl rfl rfl (.move rfl rfl (.andM (b := (decide (s73.1 < 87))) 5 37 (fun hb76 z83 => ?_) (fun hb79 => ?_) (fun z82 F_80 l_81 => ?_)))))))
     ·skip
      refine .onH hb76 rfl rfl (.move rfl rfl (.onH hb76 rfl rfl (.move rfl rfl (.onH hb76 rfl rfl (.idxStr rfl Tryz.underlying9 rfl rfl (fun c77 e78 => ?_))))))
      refine .onH hb76 rfl rfl (.geq rfl rfl rfl (.pickTH hb76 rfl rfl rfl ?_))
      exact .finZ 5 rfl rfl (by kernel_rfl) Fz.r
     ·skip
      refine .offH hb79 rfl rfl rfl (.offH hb79 rfl rfl rfl (.offH hb79 rfl rfl rfl (.offH hb79 rfl rfl rfl (.pickFH hb79 rfl rfl rfl ?_))))
      exact .fin 5 rfl rfl (by kernel_rfl) Fz.r
     refine .move rfl rfl (.andM (b := z82) 5 43 (fun hb84 z91 => ?_) (fun hb87 => ?_) (fun z90 F_88 l_89 => ?_))
     ·skip
      refine .onH hb84 rfl rfl (.move rfl rfl (.onH hb84 rfl rfl (.move rfl rfl (.onH hb84 rfl rfl (.idxStr rfl Tryz.underlying9 rfl rfl (fun c85 e86 => ?_))))))
      refine .onH hb84 rfl rfl (.leq rfl rfl rfl (.pickTH hb84 rfl rfl rfl ?_))
      exact .finZ 5 rfl rfl (by kernel_rfl) Fz.r
     ·skip
      refine .offH hb87 rfl rfl rfl (.offH hb87 rfl rfl rfl (.offH hb87 rfl rfl rfl (.offH hb87 rfl rfl rfl (.pickFH hb87 rfl rfl rfl ?_))))
      exact .fin 5 rfl rfl (by kernel_rfl) Fz.r
     refine .nil (.code (.cond rfl (fun hb92 => ?_) (fun hb92 => ?_)))
     ·skip
      refine .skip (.code (.seq (.block (.region (.move rfl rfl (.mul rfl rfl rfl (.move rfl rfl (.move rfl rfl (.idxStr rfl Tryz.underlying9 rfl rfl (fun c93 e94 => ?_))))))))))
      refine .sub rfl rfl rfl (.convI rfl Tryz.underlying5 Tryz.underlying3 rfl (.add rfl rfl rfl (.remC rfl (by decide) rfl rfl (.assignL rfl rfl (fun n_95 e96 => ?_)))))
      refine .nil (.block (.code (.region (.move rfl rfl (.add rfl rfl rfl (.assignL rfl rfl (fun i97 e98 => ?_)))))))
      refine .nil ?_
      exact .nil (LPost.norm fun a w h => ⟨F_88, (Fz.t l_75 (Fz.t l_81 l_89)), h.1.sub (.cons (k := 0) rfl (.cons (k := 2) rfl (.cons (k := 3) rfl (.cons (k := 5) rfl (.cons (k := 6) rfl (.nil _)))))), h.2⟩)
     ·skip
      refine .exitOut rfl (LPost.exit fun a w h => ⟨rfl, F_88, (Fz.t l_75 (Fz.t l_81 l_89)), h.1.sub (.cons (k := 0) rfl (.cons (k := 2) rfl (.cons (k := 3) rfl (.cons (k := 5) rfl (.cons (k := 6) rfl (.nil _)))))), h.2⟩)
    ·intro b99 hb0 hk e a w hD
     obtain ⟨rfl, F_100, l_101, hA⟩ := hD
     refine interp_exit rfl (GE.app ?_ hk a w hA)
     refine .code (.region (.fieldAddr rfl Tryz.underlying41 rfl Tryz.sizeOf31 rfl (.loadO rfl Tryz.isAgg31 rfl (i := 1) rfl rfl (.move rfl rfl (.sliceLit (cs := [.int .i64 b99.2]) (zc := [.int .i64 0]) rfl Tryz.underlying31 Tryz.sizeOf3 Tryz.zeroValue3 rfl rfl rfl (by kernel_rfl) (by kernel_rfl) (fun b102 F_103 l_104 hb105 => ?_))))))
     have h106 : RepSl 1 (Ex (cInt .i64)) F_103 (some ⟨b102, 0, none⟩) 1 ([b99.2]) := RepSl.ofRow hb105 (.cons ok_t3.mono rfl .nil) rfl rfl
     refine .append 0 ok_t3 (Fz.t l_67 (Fz.t l_101 l_104)) rfl Tryz.underlying31 Tryz.underlying31 rfl rfl rfl h106 rfl rfl (fun l_107 p108 k109 e110 => ?_)
     refine .fieldAddr rfl Tryz.underlying41 rfl Tryz.sizeOf31 rfl (.letv (fun x111 e112 => ?_))
     refine .ownConv 0 rfl (show l_107 = x111.N by rw [e112]) (.store (cs' := (cApiBooked x111 p108 k109)) Tryz.sizeOf31 rfl rfl rfl rfl (i := 1) rfl (Nat.le_of_ble_eq_true rfl) rfl (by rw [e112]; kernel_rfl) (.nil (.block ?_)))
     exact .nil (LPost.norm fun a w h => ⟨F_103, p108, k109, (Fz.t l_58 (Fz.t l_67 (Fz.t l_101 l_104))), h.1.sub (.cons (k := 0) rfl (.cons (k := 2) rfl (.cons (k := 3) rfl (.cons (k := 5) rfl (.nil _))))), h.2⟩)
   ·skip
    refine .ownUp 0 l_67 rfl (.exitOut rfl (LPost.exit fun a w h => ⟨rfl, F_66, p59, k60, (Fz.t l_58 l_67), h.1.sub (.cons (k := 2) rfl (.cons (k := 3) rfl (.nil _))), h.2⟩))
  ·intro b113 hb0 hk e a w hD
   obtain ⟨rfl, F_114, p116, k117, l_115, hA⟩ := hD
   refine interp_exit rfl (GE.app ?_ hk a w hA)
   refine .code (.seq (.region (.loadOA rfl Tryz.isAgg41 Tryz.sizeOf41 rfl (i := 1) rfl (vs := (cApiBooked b113 p116 k117)) (by kernel_rfl) rfl (.freezeSl 0 rfl Fz.r (fun F_119 l_120 h121 => ?_)))))
   refine .store (cs' := (cApiBooked b113 p116 k117)) Tryz.sizeOf41 rfl rfl rfl rfl (i := 1) rfl (Nat.le_of_ble_eq_true rfl) rfl (setMany_all (by rfl)) (.nil (.code ?_))
   exact .ret0 Tryz.results56 (.agg rfl Tryz.isAgg41 Tryz.sizeOf41 (i := 1) rfl (vs' := (cApiBooked b113 p116 k117)) (by kernel_rfl) rfl (.nil)) (i := 2) rfl (Fz.t l_52 (Fz.t l_115 l_120)) ⟨p116, k117, rfl, h121⟩
noncomputable def m_wormtubref14_Right (s1 : (List UInt8)) : Option (ApiBooked × Bool) :=
 (m_wormtubref14_parse s1).bind fun r_5 => (m_wormtubref14_valid r_5).bind fun r_12 => (if (!r_12) then some true else ((m_wormtubref14_Row r_5).bind fun r_16 => some (!(r_16 == s1)))).bind fun z20 => if z20 then (some ((ApiBooked.mk 0 ([])), false)) else (some (r_5, true))
set_option maxRecDepth 100000 in
set_option maxHeartbeats 4000000 in
theorem c_wormtubref14_Right (F0 : Fz) (s1 : (List UInt8)) : CT0 Tryz.prog 25 [(.string (bs s1))].toArray F0 (m_wormtubref14_Right s1) (fun r F v => ∃ (p0 : Option Addr) (k0 : Nat), v = .tuple #[(eApiBooked r.1 p0 k0), (.bool r.2)] ∧ RepSl 1 (Ex (cInt .i64)) F p0 k0 r.1.N) := by
 refine CT0.enter Tryz.func25 rfl Tryz.ntmps25 rfl fun r R => ?_
 unfold m_wormtubref14_Right
 refine .seq (.region (.alloc (cs := (cApiBooked (ApiBooked.mk 0 ([])) none 0)) rfl Tryz.zeroValue41 rfl (fun b2 => ?_)))
 refine .assign rfl rfl (.nil (.code (.seq (.region (.move rfl rfl (.call0 rfl Tryz.call56 rfl rfl rfl (c_wormtubref14_parse _ s1) ?_))))))
 rintro r_5 F_3 _ - l_4 ⟨p6, k7, rfl, h8⟩
 refine .alloc (cs := (cApiBooked (ApiBooked.mk 0 ([])) none 0)) rfl Tryz.zeroValue41 rfl (fun b9 => ?_)
 refine .store (cs' := (cApiBooked r_5 p6 k7)) Tryz.sizeOf41 rfl rfl rfl rfl (i := 0) rfl (Nat.le_of_ble_eq_true rfl) rfl (setMany_all (by rfl)) (.nil (.code (.seq (.seq (.region (.loadOA rfl Tryz.isAgg41 Tryz.sizeOf41 rfl (i := 0) rfl (vs := (cApiBooked r_5 p6 k7)) (by kernel_rfl) rfl (.call0 rfl Tryz.call57 rfl rfl rfl (c_wormtubref14_valid _ r_5 p6 k7 h8) ?_)))))))
 rintro r_12 F_10 _ - l_11 rfl
 refine .not rfl rfl (.move rfl rfl (.orM (b := (!r_12)) 5 15 (fun hb13 z21 => ?_) (fun hb17 => ?_) (fun z20 F_18 l_19 => ?_)))
 ·skip
  refine .onH hb13 rfl rfl (.loadOA rfl Tryz.isAgg41 Tryz.sizeOf41 rfl (i := 0) rfl (vs := (cApiBooked r_5 p6 k7)) (by kernel_rfl) rfl (.onH hb13 rfl rfl (.call0 rfl Tryz.call47 rfl rfl rfl (c_wormtubref14_Row _ r_5 p6 k7 (h8.mono l_11)) ?_)))
  rintro r_16 F_14 _ - l_15 rfl
  refine .onH hb13 rfl rfl (.move rfl rfl (.onH hb13 rfl rfl (.neqS rfl Tryz.underlying9 rfl rfl (.pickFH hb13 rfl rfl rfl ?_))))
  exact .finZ 5 rfl rfl (by kernel_rfl) l_15
 ·skip
  refine .offH hb17 rfl rfl rfl (.offH hb17 rfl rfl rfl (.offH hb17 rfl rfl rfl (.offH hb17 rfl rfl rfl (.pickTH hb17 rfl rfl rfl ?_))))
  exact .fin 5 rfl rfl (by kernel_rfl) Fz.r
 refine .nil (.code (.cond rfl (fun hb22 => ?_) (fun hb22 => ?_)))
 ·skip
  refine .seq (.region (.build (cs := (cApiBooked (ApiBooked.mk 0 ([])) none 0).toArray) rfl Tryz.underlying41 Tryz.zeroValue41 (plApiBooked _ Tryz.underlying41) rfl rfl (by kernel_rfl) (.store (cs' := (cApiBooked (ApiBooked.mk 0 ([])) none 0)) Tryz.sizeOf41 rfl rfl rfl rfl (i := 1) rfl (Nat.le_of_ble_eq_true rfl) rfl (setMany_all (by rfl)) (.assign rfl rfl (.nil (.code ?_))))))
  exact .ret0 Tryz.results25 (.agg rfl Tryz.isAgg41 Tryz.sizeOf41 (i := 1) rfl (vs' := (cApiBooked (ApiBooked.mk 0 ([])) none 0)) (by kernel_rfl) rfl (.tmp rfl (.nil))) (i := 2) rfl (Fz.t l_4 (Fz.t l_11 l_19)) ⟨none, 0, rfl, (RepSl.nil.mono (Fz.t l_4 (Fz.t l_11 l_19)))⟩
 ·skip
  refine .skip (.code (.seq (.region (.loadOA rfl Tryz.isAgg41 Tryz.sizeOf41 rfl (i := 0) rfl (vs := (cApiBooked r_5 p6 k7)) (by kernel_rfl) rfl (.store (cs' := (cApiBooked r_5 p6 k7)) Tryz.sizeOf41 rfl rfl rfl rfl (i := 1) rfl (Nat.le_of_ble_eq_true rfl) rfl (setMany_all (by rfl)) (.assign rfl rfl (.nil (.code ?_))))))))
  exact .ret0 Tryz.results25 (.agg rfl Tryz.isAgg41 Tryz.sizeOf41 (i := 1) rfl (vs' := (cApiBooked r_5 p6 k7)) (by kernel_rfl) rfl (.tmp rfl (.nil))) (i := 2) rfl (Fz.t l_4 (Fz.t l_11 l_19)) ⟨p6, k7, rfl, (h8.mono (Fz.t l_11 l_19))⟩
end Go.Proofs.YthnlglmjffdpfaaGreatDoor
end

section
namespace Go.Proofs.YthnlglmjffdpfaaGreatDoor
open Go.Dec
theorem idx_mid {α : Type} (pre rest : List α) (c : α) : idxL (pre ++ c :: rest) (pre.length : Int) = some c := by
  rw [idxL_nat, List.getElem?_append_right (Nat.le_refl _), Nat.sub_self]; rfl
def digB (c : UInt8) : Bool := decide (48 ≤ c.toNat) && decide (c.toNat ≤ 57)
def digS (n : Nat) (c : UInt8) : Nat := (10 * n + (c.toNat - 48)) % 288230376151711744
theorem p3_step {s : Bytes} {i n : Nat} {c : UInt8} (hi : i < 87) (hc : idxL s (i : Int) = some c) (hn : n < 288230376151711744) :
    b_wormtubref14_parse_3 s ((i : Int), (n : Int)) = if digB c then some (.next (((i + 1 : Nat) : Int), (digS n c : Int))) else some (.done ((i : Int), (n : Int))) := by
  have hb := c.toNat_lt
  have h1 : (if (decide ((i : Int) < 87)) then ((idxL s (i : Int)).bind fun c77 => some (decide ((c77.toNat : Int) ≥ 48))) else some false) = some (decide (48 ≤ c.toNat)) := by
    rw [if_pos (by rw [decide_eq_true_eq]; omega), hc]
    simp only [Option.bind_some, Option.some.injEq, decide_eq_decide]; omega
  have h2 : (if decide (48 ≤ c.toNat) then ((idxL s (i : Int)).bind fun c85 => some (decide ((c85.toNat : Int) ≤ 57))) else some false) = some (digB c) := by
    unfold digB
    cases h : decide (48 ≤ c.toNat) with
    | true =>
      rw [if_pos rfl, hc]
      simp only [Option.bind_some, Bool.true_and, Option.some.injEq, decide_eq_decide]; omega
    | false => rfl
  unfold b_wormtubref14_parse_3
  refine bind_of h1 (bind_of h2 ?_)
  cases hd : digB c with
  | false => rfl
  | true =>
    have hd' : 48 ≤ c.toNat ∧ c.toNat ≤ 57 := by simpa [digB] using hd
    rw [if_pos rfl, if_pos rfl]
    refine bind_of hc ?_
    have h3 : Int.tmod (w64 ((w64 (10 * (n : Int))) + (w64 (IntKind.u8.wrap ((c.toNat : Int) - 48))))) 288230376151711744 = (digS n c : Int) := by
      rw [wrap_u8 (by omega) (by omega), w64_id (n := 10 * (n : Int)) (by omega) (by omega), w64_id (n := (c.toNat : Int) - 48) (by omega) (by omega), w64_id (by omega) (by omega), Int.tmod_eq_emod_of_nonneg (by omega)]
      unfold digS; omega
    have h4 : w64 ((i : Int) + 1) = ((i + 1 : Nat) : Int) := nx (by omega)
    unfold bindv
    show some (Ctl.next (w64 ((i : Int) + 1), Int.tmod (w64 ((w64 (10 * (n : Int))) + (w64 (IntKind.u8.wrap ((c.toNat : Int) - 48))))) 288230376151711744)) = _
    rw [h3, h4]
theorem p3_end {s : Bytes} {n : Int} : b_wormtubref14_parse_3 s (((87 : Nat) : Int), n) = some (.done (((87 : Nat) : Int), n)) := by
  unfold b_wormtubref14_parse_3
  refine bind_of (a := false) (if_neg (by simp)) (bind_of (a := false) rfl rfl)
theorem p3_any {s : Bytes} (hs : 87 ≤ s.length) : ∀ (d i n : Nat), i + d = 87 → n < 288230376151711744 → ∃ j m : Nat, i ≤ j ∧ j ≤ 87 ∧ loopM (b_wormtubref14_parse_3 s) ((i : Int), (n : Int)) = some ((j : Int), (m : Int))
  | 0, i, n, hi, hn => by
    have : i = 87 := by omega
    subst this
    exact ⟨87, n, Nat.le_refl _, Nat.le_refl _, by rw [loopM_eq, p3_end]⟩
  | d + 1, i, n, hi, hn => by
    have hc : idxL s (i : Int) = some (s.getD i 0) := by rw [idxL_nat, getD_get (d := 0) (by omega)]
    have h := p3_step (by omega) hc hn
    cases hd : digB (s.getD i 0) with
    | false =>
      rw [hd] at h
      exact ⟨i, n, Nat.le_refl _, by omega, by rw [loopM_eq, h]; rfl⟩
    | true =>
      rw [hd] at h
      obtain ⟨j, m, h1, h2, h3⟩ := p3_any hs d (i + 1) (digS n (s.getD i 0)) (by omega) (Nat.mod_lt _ (by decide))
      exact ⟨j, m, by omega, h2, by rw [loopM_eq, h]; exact h3⟩
theorem p2_step {s : Bytes} {i j m : Nat} {x : ApiBooked} (hi : i < 87) (hc : idxL s (i : Int) = some 32) (hj : loopM (b_wormtubref14_parse_3 s) (((i + 1 : Nat) : Int), 0) = some ((j : Int), (m : Int))) (hx : x.N.length ≤ 1000) :
    b_wormtubref14_parse_2 s ((i : Int), x) = some (.next ((j : Int), ⟨x.Kind, x.N ++ [(m : Int)]⟩)) := by
  have h1 : (if (decide ((i : Int) < 87)) then ((idxL s (i : Int)).bind fun c63 => some ((c63.toNat : Int) == 32)) else some false) = some true := by
    rw [if_pos (by rw [decide_eq_true_eq]; omega), hc]; rfl
  have h4 : w64 ((i : Int) + 1) = ((i + 1 : Nat) : Int) := nx (by omega)
  unfold b_wormtubref14_parse_2
  refine bind_of h1 ?_
  rw [if_pos rfl]
  unfold bindv
  show (loopM (b_wormtubref14_parse_3 s) (w64 ((i : Int) + 1), 0)).bind _ = _
  rw [h4]
  exact bind_of hj (bind_of (appO_some' (by rw [List.length_singleton]; show x.N.length + 1 ≤ _; omega)) rfl)
theorem p2_stop {s : Bytes} {i : Nat} {x : ApiBooked} (h : i = 87 ∨ ∃ c, idxL s (i : Int) = some c ∧ c ≠ 32) : b_wormtubref14_parse_2 s ((i : Int), x) = some (.done x) := by
  have h1 : (if (decide ((i : Int) < 87)) then ((idxL s (i : Int)).bind fun c63 => some ((c63.toNat : Int) == 32)) else some false) = some false := by
    rcases h with rfl | ⟨c, hc, hne⟩
    · exact if_neg (by simp)
    · split
      · rw [hc]
        simp only [Option.bind_some, Option.some.injEq, beq_eq_false_iff_ne]
        intro e
        exact u8_ne hne (by have : (32 : UInt8).toNat = 32 := rfl; omega)
      · rfl
  unfold b_wormtubref14_parse_2
  exact bind_of h1 rfl
theorem p2_any {s : Bytes} (hs : 87 ≤ s.length) : ∀ (d i : Nat) (x : ApiBooked), i ≤ 87 → 87 ≤ i + d → x.N.length + d ≤ 900 → ∃ y, loopM (b_wormtubref14_parse_2 s) ((i : Int), x) = some y
  | 0, i, x, hi, hd, _ => ⟨x, by rw [loopM_eq, p2_stop (.inl (by omega))]⟩
  | d + 1, i, x, hi, hd, hx => by
    rcases Nat.lt_or_ge i 87 with h | h
    · have hc : idxL s (i : Int) = some (s.getD i 0) := by rw [idxL_nat, getD_get (d := 0) (by omega)]
      by_cases e : s.getD i 0 = 32
      · rw [e] at hc
        obtain ⟨j, m, h1, h2, h3⟩ := p3_any hs (87 - (i + 1)) (i + 1) 0 (by omega) (by decide)
        obtain ⟨y, hy⟩ := p2_any hs d j ⟨x.Kind, x.N ++ [(m : Int)]⟩ h2 (by omega) (by rw [List.length_append, List.length_singleton]; omega)
        exact ⟨y, by rw [loopM_eq, p2_step h hc h3 (by omega)]; exact hy⟩
      · exact ⟨x, by rw [loopM_eq, p2_stop (.inr ⟨_, hc, e⟩)]⟩
    · exact ⟨x, by rw [loopM_eq, p2_stop (.inl (by omega))]⟩
def kindD (b : UInt8) : Int := if b = 68 then 3 else if b = 67 then 2 else if b = 83 then 1 else if b = 77 then 0 else -1
theorem p1_step {s : Bytes} {c : UInt8} (hc : idxL s 0 = some c) {i : Nat} {l : UInt8} (hi : i < 4) (hl : idxL m_wormtubref14_letters (i : Int) = some l) (x : ApiBooked) :
    b_wormtubref14_parse_1 s ((i : Int), x) = some (.next (((i + 1 : Nat) : Int), ⟨if c = l then (i : Int) else x.Kind, x.N⟩)) := by
  have h4 : w64 ((i : Int) + 1) = ((i + 1 : Nat) : Int) := nx (by omega)
  unfold b_wormtubref14_parse_1
  rw [if_pos (by rw [decide_eq_true_eq]; show (i : Int) < 4; omega)]
  refine bind_of (a := ⟨if c = l then (i : Int) else x.Kind, x.N⟩) ?_ ?_
  · refine bind_of hl (bind_of hc ?_)
    by_cases e : c = l
    · subst e; rw [if_pos rfl]
      refine bind_of (if_pos (by simp)) rfl
    · rw [if_neg e]
      refine bind_of (if_neg ?_) rfl
      rw [beq_iff_eq]
      intro h
      exact u8_ne e (by omega)
  · unfold bindv
    show some (Ctl.next (w64 ((i : Int) + 1), _)) = _
    rw [h4]
theorem p1_all {s : Bytes} {c : UInt8} (hc : idxL s 0 = some c) : loopM (b_wormtubref14_parse_1 s) (0, ⟨-1, []⟩) = some ⟨kindD c, []⟩ := by
  have s0 := fun x => p1_step hc (i := 0) (l := 77) (by decide) rfl x
  have s1 := fun x => p1_step hc (i := 1) (l := 83) (by decide) rfl x
  have s2 := fun x => p1_step hc (i := 2) (l := 67) (by decide) rfl x
  have s3 := fun x => p1_step hc (i := 3) (l := 68) (by decide) rfl x
  have s4 : ∀ x, b_wormtubref14_parse_1 s (((4 : Nat) : Int), x) = some (.done x) := fun x => by
    unfold b_wormtubref14_parse_1
    exact if_neg (by simp)
  rw [loopM_eq, show ((0 : Int), (⟨-1, []⟩ : ApiBooked)) = (((0 : Nat) : Int), ⟨-1, []⟩) from rfl, s0]
  simp only
  rw [loopM_eq, s1]
  simp only
  rw [loopM_eq, s2]
  simp only
  rw [loopM_eq, s3]
  simp only
  rw [loopM_eq, s4]
  simp only [Option.some.injEq]
  unfold kindD
  congr 1
theorem parse_any {s : Bytes} (hs : 87 ≤ s.length) : ∃ y, m_wormtubref14_parse s = some y := by
  have hc : idxL s 0 = some (s.getD 0 0) := by
    have := getD_get (l := s) (i := 0) (d := 0) (by omega)
    rw [show (0 : Int) = ((0 : Nat) : Int) from rfl, idxL_nat, this]
  obtain ⟨y, hy⟩ := p2_any hs 86 1 ⟨kindD (s.getD 0 0), []⟩ (by decide) (by decide) (by simp)
  exact ⟨y, bind_of (p1_all hc) (bind_of hy rfl)⟩
theorem p3_num : ∀ (ds pre tl : Bytes) (n : Nat), (∀ b ∈ ds, digB b = true) → n < 288230376151711744 → pre.length + ds.length ≤ 87 → (pre.length + ds.length = 87 ∨ ∃ c t, tl = c :: t ∧ digB c = false) →
    loopM (b_wormtubref14_parse_3 (pre ++ ds ++ tl)) ((pre.length : Int), (n : Int)) = some (((pre.length + ds.length : Nat) : Int), ((ds.foldl digS n : Nat) : Int))
  | [], pre, tl, n, hd, hn, hl, ht => by
    rw [loopM_eq]
    rcases ht with h | ⟨c, t, rfl, hc⟩
    · have h' : pre.length = 87 := by simpa using h
      rw [h', p3_end]; rfl
    · rcases Nat.lt_or_ge pre.length 87 with hlt | hge
      · rw [List.append_nil, p3_step hlt (idx_mid pre t c) hn, hc]; rfl
      · have h' : pre.length = 87 := by simp at hl; omega
        rw [h', p3_end]; rfl
  | b :: ds, pre, tl, n, hd, hn, hl, ht => by
    rw [List.length_cons] at hl ht
    have e : pre ++ (b :: ds) ++ tl = (pre ++ [b]) ++ ds ++ tl := by simp
    have hb := hd b (List.mem_cons_self ..)
    have hi : idxL (pre ++ (b :: ds) ++ tl) (pre.length : Int) = some b := by
      rw [List.append_assoc]; exact idx_mid pre (ds ++ tl) b
    rw [loopM_eq, p3_step (by omega) hi hn, hb]
    simp only [if_true]
    have ih := p3_num ds (pre ++ [b]) tl (digS n b) (fun c hc => hd c (List.mem_cons_of_mem _ hc)) (Nat.mod_lt _ (by decide)) (by rw [List.length_append, List.length_singleton]; omega) (by
      rw [List.length_append, List.length_singleton]
      rcases ht with h | h
      · left; omega
      · right; exact h)
    rw [← e, List.length_append, List.length_singleton] at ih
    rw [ih, List.length_cons, List.foldl_cons]
    congr 2
    omega
theorem digB_of {b : UInt8} (h : 48 ≤ b.toNat ∧ b.toNat ≤ 57) : digB b = true := by simp [digB, h.1, h.2]
theorem dec_val : ∀ (d u : Nat), u ≤ d → u < 288230376151711744 → (Go.Lib.decDigits u).foldl digS 0 = u
  | d, u, hd, hu => by
    by_cases h : u < 10
    · rw [dec_small h]
      simp only [List.foldl_cons, List.foldl_nil, digS]
      rw [u8_nat (by omega)]; omega
    · cases d with
      | zero => omega
      | succ d =>
        rw [dec_big h, List.foldl_append, dec_val d (u / 10) (by omega) (by omega)]
        simp only [List.foldl_cons, List.foldl_nil, digS]
        rw [u8_nat (by omega)]; omega
theorem p2_nums : ∀ (ns : List Int) (pre tl : Bytes) (x : ApiBooked), (∀ n ∈ ns, 0 ≤ n ∧ n ≤ 72057594037927936) → pre.length + (numsS ns).length ≤ 87 → (pre.length + (numsS ns).length = 87 ∨ ∃ c t, tl = c :: t ∧ digB c = false ∧ c ≠ 32) → x.N.length + ns.length ≤ 900 →
    loopM (b_wormtubref14_parse_2 (pre ++ numsS ns ++ tl)) ((pre.length : Int), x) = some ⟨x.Kind, x.N ++ ns⟩
  | [], pre, tl, x, hb, hl, ht, hx => by
    have e0 : numsS [] = [] := rfl
    rw [e0] at hl ht ⊢
    rw [loopM_eq, p2_stop]
    · simp
    · rcases ht with h | ⟨c, t, rfl, _, hc⟩
      · left; simpa using h
      · right; exact ⟨c, by rw [List.append_nil]; exact idx_mid pre t c, hc⟩
  | n :: ns, pre, tl, x, hb, hl, ht, hx => by
    have e1 : numsS (n :: ns) = 32 :: Go.Lib.itoa n ++ numsS ns := by
      rw [show n :: ns = [n] ++ ns from rfl, numsS_app, numsS_one]
    have hn := hb n (List.mem_cons_self ..)
    rw [e1] at hl ht ⊢
    simp only [List.length_append, List.length_cons] at hl ht
    have hi : idxL (pre ++ (32 :: Go.Lib.itoa n ++ numsS ns) ++ tl) (pre.length : Int) = some 32 := by
      rw [List.append_assoc]; exact idx_mid pre _ 32
    have e2 : pre ++ (32 :: Go.Lib.itoa n ++ numsS ns) ++ tl = (pre ++ [32]) ++ Go.Lib.itoa n ++ (numsS ns ++ tl) := by simp
    have h3 := p3_num (Go.Lib.itoa n) (pre ++ [32]) (numsS ns ++ tl) 0 (fun b hb' => digB_of (itoa_all hn.1 b hb')) (by decide) (by rw [List.length_append, List.length_singleton]; omega) (by
      rw [List.length_append, List.length_singleton]
      cases ns with
      | nil =>
        rcases ht with h | ⟨c, t, rfl, hc, _⟩
        · left; simp [numsS] at h; omega
        · right; exact ⟨c, t, rfl, hc⟩
      | cons n2 ns2 =>
        right
        refine ⟨32, Go.Lib.itoa n2 ++ numsS ns2 ++ tl, ?_, by decide⟩
        rw [show n2 :: ns2 = [n2] ++ ns2 from rfl, numsS_app, numsS_one]; simp)
    rw [← e2, itoa_nat hn.1, dec_val n.toNat n.toNat (Nat.le_refl _) (by omega), ← itoa_nat hn.1, List.length_append, List.length_singleton] at h3
    have h3' : loopM (b_wormtubref14_parse_3 (pre ++ (32 :: Go.Lib.itoa n ++ numsS ns) ++ tl)) (((pre.length + 1 : Nat) : Int), 0) = some (((pre.length + 1 + (Go.Lib.itoa n).length : Nat) : Int), (n.toNat : Int)) := h3
    rw [loopM_eq, p2_step (by omega) hi h3' (by omega)]
    simp only
    have ih := p2_nums ns (pre ++ 32 :: Go.Lib.itoa n) tl ⟨x.Kind, x.N ++ [(n.toNat : Int)]⟩ (fun m hm => hb m (List.mem_cons_of_mem _ hm)) (by rw [List.length_append, List.length_cons]; omega) (by
      rw [List.length_append, List.length_cons]
      rcases ht with h | h
      · left; omega
      · right; exact h) (by rw [List.length_append, List.length_singleton]; rw [List.length_cons] at hx; omega)
    have e3 : (pre ++ 32 :: Go.Lib.itoa n) ++ numsS ns ++ tl = pre ++ (32 :: Go.Lib.itoa n ++ numsS ns) ++ tl := by simp
    rw [e3, List.length_append, List.length_cons] at ih
    rw [show pre.length + 1 + (Go.Lib.itoa n).length = pre.length + ((Go.Lib.itoa n).length + 1) by omega, ih, Int.toNat_of_nonneg hn.1, List.append_assoc]
    rfl
theorem parse_row {x : ApiBooked} (h : okS x = true) : m_wormtubref14_parse (rowS x) = some x := by
  have hk := (okS_iff.1 h).1
  have hlen := textS_len h
  have htl : (textS x).length = 1 + (numsS x.N).length := by unfold textS; simp; omega
  have hN := okS_len h
  have e : rowS x = [letterS x.Kind] ++ numsS x.N ++ (List.replicate (87 - (textS x).length) 46 ++ (hexS (checkN (padS (textS x))) ++ [10])) := by
    unfold rowS
    conv => lhs; unfold padS
    conv => lhs; arg 1; arg 1; unfold textS
    simp
    rfl
  have hc : idxL (rowS x) 0 = some (letterS x.Kind) := by rw [e]; rfl
  have hkd : kindD (letterS x.Kind) = x.Kind := by
    rcases kind_cases hk with e | e | e | e <;> rw [e] <;> decide
  have h2 := p2_nums x.N [letterS x.Kind] (List.replicate (87 - (textS x).length) 46 ++ (hexS (checkN (padS (textS x))) ++ [10])) ⟨x.Kind, []⟩ (nums_bound h) (by rw [List.length_singleton]; omega) (by
    rw [List.length_singleton]
    by_cases h87 : 1 + (numsS x.N).length = 87
    · exact .inl h87
    · right
      refine ⟨46, List.replicate (86 - (textS x).length) 46 ++ (hexS (checkN (padS (textS x))) ++ [10]), ?_, by decide, by decide⟩
      rw [show 87 - (textS x).length = (86 - (textS x).length) + 1 by omega, List.replicate_succ]; rfl) (by simp; omega)
  rw [← e] at h2
  unfold m_wormtubref14_parse
  refine bind_of (p1_all hc) (bind_of (a := x) ?_ rfl)
  rw [hkd]
  exact h2
theorem Right_doc {s : Bytes} (hs : s.length = 96) : m_wormtubref14_Right s = some (rightP (rightS s)) := by
  unfold m_wormtubref14_Right
  cases hr : rightS s with
  | some x =>
    obtain ⟨h1, h2⟩ := rightS_some hr
    subst h2
    refine bind_of (parse_row h1) (bind_of (valid_doc x) ?_)
    rw [h1]
    refine bind_of (a := false) ?_ rfl
    rw [if_neg (by decide), Row_doc h1]; simp
  | none =>
    obtain ⟨y, hy⟩ := parse_any (s := s) (by omega)
    refine bind_of hy (bind_of (valid_doc y) ?_)
    refine bind_of (a := true) ?_ rfl
    cases ho : okS y with
    | false => rfl
    | true =>
      rw [if_neg (by decide), Row_doc ho]
      have := rightS_none hr y ho
      simpa using this
end Go.Proofs.YthnlglmjffdpfaaGreatDoor
end

section
namespace Go.Proofs.YthnlglmjffdpfaaGreatDoor
open Go.Dec
theorem write_group {own rest : List ApiBooked} (h : own.length = 8 ∨ rest = []) (h8 : own.length ≤ 8) (hne : own ≠ []) : writeS (own ++ rest) = groupW own ++ writeS rest := by
  rw [write_cons (by simp [hne])]
  rcases h with h | h
  · rw [List.take_left' h, List.drop_left' h]
  · subst h
    rw [List.append_nil, List.take_of_length_le h8, List.drop_of_length_le h8]
theorem last_at {α : Type} (l : List α) (x d : α) : idxL (l ++ [x]) (w64 (((l ++ [x]).length : Int) - 1)) = if l.length ≤ 1000000 then some x else idxL (l ++ [x]) (w64 (((l ++ [x]).length : Int) - 1)) := by
  by_cases h : l.length ≤ 1000000
  · rw [if_pos h]
    have : w64 (((l ++ [x]).length : Int) - 1) = (l.length : Int) := by
      rw [List.length_append, List.length_singleton, w64_id (by omega) (by omega)]; omega
    rw [this, idxL_nat, getD_get (d := d) (by simp), getD_right (Nat.le_refl _), Nat.sub_self]; rfl
  · rw [if_neg h]
theorem wr_loop {l : List ApiBooked} (hb : okBook l = true) : ∀ (rest pre own : List ApiBooked) (s0 : Bytes), l = pre ++ rest → own.length < 8 → (∀ x ∈ own, okS x = true) → (rest = [] → own = []) → s0.length + 192 * own.length ≤ 192 * pre.length →
    ∃ rows, loopM (b_wormtubref14_Write_1 l) (s0 ++ (own.map rowS).flatten, own.map rowS, (pre.length : Int)) = some (s0 ++ (writeS (own ++ rest)).flatten, rows)
  | [], pre, own, s0, hl, h8, hok, hown, hs => by
    rw [hown rfl]
    rw [List.append_nil] at hl
    subst hl
    refine ⟨[], ?_⟩
    rw [loopM_eq]
    have : b_wormtubref14_Write_1 l (s0 ++ (([] : List ApiBooked).map rowS).flatten, ([] : List ApiBooked).map rowS, (l.length : Int)) = some (.done (s0 ++ (writeS ([] ++ [])).flatten, [])) := by
      unfold b_wormtubref14_Write_1
      rw [if_neg (by simp)]; rfl
    rw [this]
  | x :: rest, pre, own, s0, hl, h8, hok, hown, hs => by
    obtain ⟨h1, hokl⟩ := okBook_iff.1 hb
    have hx : okS x = true := hokl x (by rw [hl]; simp)
    have hlen : l.length = pre.length + (rest.length + 1) := by rw [hl]; simp
    have hr := rowS_len hx
    have hix : idxL l (pre.length : Int) = some x := by
      rw [idxL_nat, hl, List.getElem?_append_right (Nat.le_refl _), Nat.sub_self]; rfl
    have hmf : (own.map rowS).flatten.length ≤ 96 * 8 := by
      rw [flat96 (fun r hr => by
        obtain ⟨y, hy, rfl⟩ := List.mem_map.1 hr
        exact rowS_len (hok y hy)), List.length_map]; omega
    have hown2 : ∀ y ∈ own ++ [x], okS y = true := by
      intro y hy
      rcases List.mem_append.1 hy with e | e
      · exact hok y e
      · rw [List.mem_singleton.1 e]; exact hx
    have h96 : ∀ r ∈ (own ++ [x]).map rowS, r.length = 96 := by
      intro r hr
      obtain ⟨y, hy, rfl⟩ := List.mem_map.1 hr
      exact rowS_len (hown2 y hy)
    have hmap : own.map rowS ++ [rowS x] = (own ++ [x]).map rowS := by rw [List.map_append]; rfl
    have hflat : (s0 ++ (own.map rowS).flatten) ++ rowS x = s0 ++ ((own ++ [x]).map rowS).flatten := by
      rw [← hmap, List.flatten_append, List.append_assoc]; simp
    have hl2 : ((own ++ [x]).map rowS).length = own.length + 1 := by simp
    have hf2 : ((own ++ [x]).map rowS).flatten.length ≤ 96 * 8 := by rw [flat96 h96, hl2]; omega
    have hlast := last_at (own.map rowS) (rowS x) []
    rw [if_pos (by rw [List.length_map]; omega), hmap] at hlast
    have hw : w64 ((l.length : Int) - 1) = ((l.length - 1 : Nat) : Int) := by rw [w64_id (by omega) (by omega)]; omega
    by_cases hend : own.length = 7 ∨ rest = []
    · have hstep : b_wormtubref14_Write_1 l (s0 ++ (own.map rowS).flatten, own.map rowS, (pre.length : Int)) = some (.next (s0 ++ (groupW (own ++ [x])).flatten, [], ((pre.length + 1 : Nat) : Int))) := by
        unfold b_wormtubref14_Write_1
        rw [if_pos (by rw [decide_eq_true_eq]; show (pre.length : Int) < _; omega)]
        refine bind_of (a := (s0 ++ (groupW (own ++ [x])).flatten, [])) ?_ ?_
        · refine bind_of hix (bind_of (Row_doc hx) (bind_of (appO_some' (by rw [List.length_map, List.length_singleton]; omega)) ?_))
          rw [hmap]
          refine bind_of hlast (bind_of (appO_some' (by rw [List.length_append, hr]; omega)) ?_)
          rw [hflat]
          refine bind_of (a := (s0 ++ (groupW (own ++ [x])).flatten, [])) ?_ rfl
          rw [if_pos]
          · refine bind_of (guard_doc h96 (by omega)) (bind_of (appO_some' (by rw [guardS_len, List.length_append]; omega)) ?_)
            rw [List.append_assoc]
            unfold groupW
            rw [List.flatten_append]; simp
          · rw [Bool.or_eq_true, beq_iff_eq, beq_iff_eq, hl2, hw]
            rcases hend with e | e
            · left; omega
            · right
              rw [e] at hlen
              show (pre.length : Int) = _
              simp only [List.length_nil] at hlen
              omega
        · unfold bindv
          have : w64 ((pre.length : Int) + 1) = ((pre.length + 1 : Nat) : Int) := nx (by omega)
          show some (Ctl.next (_, _, w64 ((pre.length : Int) + 1))) = _
          rw [this]
      have hgl : (groupW (own ++ [x])).flatten.length ≤ 96 * 9 := by
        rw [flat96 (groupW_96 hown2), groupW_len, List.length_append, List.length_singleton]; omega
      have hw2 : writeS (own ++ x :: rest) = groupW (own ++ [x]) ++ writeS rest := by
        have : own ++ x :: rest = (own ++ [x]) ++ rest := by simp
        rw [this]
        refine write_group ?_ (by rw [List.length_append, List.length_singleton]; omega) (by simp)
        rcases hend with e | e
        · left; rw [List.length_append, List.length_singleton, e]
        · right; exact e
      rw [loopM_eq, hstep]
      obtain ⟨rows, hq⟩ := wr_loop hb rest (pre ++ [x]) [] (s0 ++ (groupW (own ++ [x])).flatten) (by rw [hl]; simp) (by simp) (by simp) (fun _ => rfl) (by
        have := flat96 (groupW_96 hown2)
        rw [groupW_len, List.length_append, List.length_singleton] at this
        rw [List.length_append, List.length_append, List.length_singleton, this, List.length_nil]
        omega)
      refine ⟨rows, ?_⟩
      rw [hw2, List.flatten_append, ← List.append_assoc]
      simp only [List.map_nil, List.flatten_nil, List.append_nil, List.nil_append, List.length_append, List.length_singleton] at hq
      exact hq
    · have hstep : b_wormtubref14_Write_1 l (s0 ++ (own.map rowS).flatten, own.map rowS, (pre.length : Int)) = some (.next (s0 ++ ((own ++ [x]).map rowS).flatten, (own ++ [x]).map rowS, ((pre.length + 1 : Nat) : Int))) := by
        unfold b_wormtubref14_Write_1
        rw [if_pos (by rw [decide_eq_true_eq]; show (pre.length : Int) < _; omega)]
        refine bind_of (a := (s0 ++ ((own ++ [x]).map rowS).flatten, (own ++ [x]).map rowS)) ?_ ?_
        · refine bind_of hix (bind_of (Row_doc hx) (bind_of (appO_some' (by rw [List.length_map, List.length_singleton]; omega)) ?_))
          rw [hmap]
          refine bind_of hlast (bind_of (appO_some' (by rw [List.length_append, hr]; omega)) ?_)
          rw [hflat]
          refine bind_of (a := (s0 ++ ((own ++ [x]).map rowS).flatten, (own ++ [x]).map rowS)) ?_ rfl
          rw [if_neg]
          rw [Bool.or_eq_true, beq_iff_eq, beq_iff_eq, hl2, hw]
          intro h
          rcases h with h | h
          · exact hend (.inl (by omega))
          · have h' : (pre.length : Int) = ((l.length - 1 : Nat) : Int) := h
            exact hend (.inr (List.eq_nil_of_length_eq_zero (by omega)))
        · unfold bindv
          have : w64 ((pre.length : Int) + 1) = ((pre.length + 1 : Nat) : Int) := nx (by omega)
          show some (Ctl.next (_, _, w64 ((pre.length : Int) + 1))) = _
          rw [this]
      rw [loopM_eq, hstep]
      obtain ⟨rows, hq⟩ := wr_loop hb rest (pre ++ [x]) (own ++ [x]) s0 (by rw [hl]; simp) (by rw [List.length_append, List.length_singleton]; omega) hown2 (fun e => absurd (.inr e) hend) (by simp only [List.length_append, List.length_singleton]; omega)
      refine ⟨rows, ?_⟩
      simp only [List.length_append, List.length_singleton, List.append_assoc, List.singleton_append] at hq
      simpa using hq
theorem Write_doc (l : List ApiBooked) : m_wormtubref14_Write l = some (i8s (writeP l).1, (writeP l).2) := by
  unfold m_wormtubref14_Write writeP
  by_cases h : l.length > 1024
  · rw [if_pos (by rw [decide_eq_true_eq]; omega), if_pos h]; rfl
  · rw [if_neg (by rw [decide_eq_true_eq]; omega), if_neg h]
    refine bind_of (Valid_doc l) ?_
    by_cases hb : okBook l = true
    · rw [hb]
      simp only [Bool.not_true, Bool.false_eq_true, if_false, if_true]
      obtain ⟨rows, hq⟩ := wr_loop hb l [] [] [] rfl (by simp) (by simp) (fun _ => rfl) (by simp)
      refine bind_of hq ?_
      have hlen := flat_len hb
      refine bind_of (append_nil (by simp only [List.nil_append]; omega)) ?_
      rfl
    · simp only [Bool.not_eq_true] at hb
      rw [hb]; rfl
end Go.Proofs.YthnlglmjffdpfaaGreatDoor
end

section
namespace Go.Proofs.YthnlglmjffdpfaaGreatDoor
open Go.Dec Go.Shelf Go.RowKit Go.Maps Go.Sort
noncomputable def b_wormtubref14_rowsOf_1 (n_1 : Int) (s2 : Int) : Option (Ctl (Int) ((Unit) ⊕ (Int))) :=
 if (decide (s2 ≤ 1024)) then (if (n_1 == (w64 (96 * (w64 (s2 + (w64 (Int.tdiv (w64 ((w64 (s2 + 8)) - 1)) 8))))))) then (some (.done (.inr s2))) else (bindv (w64 (s2 + 1)) fun k7 => some (.next k7))) else (some (.done (.inl ())))
noncomputable def m_wormtubref14_rowsOf (n_1 : Int) : Option Int :=
 (loopM (b_wormtubref14_rowsOf_1 n_1) 0).bind fun b0 => match b0 with | .inl _b9 => (some (-1)) | .inr b9 => (some b9)
set_option maxRecDepth 100000 in
set_option maxHeartbeats 4000000 in
theorem c_wormtubref14_rowsOf (F0 : Fz) (n_1 : Int) : CT0 Tryz.prog 52 [(.int .i64 n_1)].toArray F0 (m_wormtubref14_rowsOf n_1) (fun r _ v => v = (.int .i64 r)) := by
 refine CT0.enter Tryz.func52 rfl Tryz.ntmps52 rfl fun r R => ?_
 unfold m_wormtubref14_rowsOf
 refine .seq (.region (.assign rfl rfl (.nil (.code (.seq (.seq (.region (.assign rfl rfl (.nil (.code (.block ?_)))))))))))
 refine .keep (.cons (k := 0) rfl (.cons (k := 3) rfl (.nil _))) (.loop (fun (s2 : Int) a w => ∃ (F_3 : Fz), F0 ≤ F_3 ∧ Hd 18 [] [(0, (.int .i64 n_1)), (3, (.int .i64 s2))] F_3 [R] a w) (fun b0 e a w => match b0 with | .inl b9 => e = .exit 0 ∧ ∃ (F_10 : Fz), F0 ≤ F_10 ∧ Hd 18 [] [] F_10 [R] a w | .inr b9 => e = .ret ∧ ∃ (F_12 : Fz), F0 ≤ F_12 ∧ Hd 18 [] [(2, (.int .i64 b9))] F_12 [R] a w) ?_ ?_ ?_)
 ·exact fun a w h => ⟨F0, Fz.r, h.1.sub (.cons (k := 0) rfl (.cons (k := 3) rfl (.nil _))), h.2⟩
 ·intro s2 ctl
  refine GC.ex (fun a w ⟨F_3, l_4, hA⟩ => ⟨_, hA, ?_⟩)
  unfold b_wormtubref14_rowsOf_1
  refine .seq (.seq (.region (.move rfl rfl (.leq rfl rfl rfl (.nil (.code (.cond rfl (fun hb5 => ?_) (fun hb5 => ?_))))))))
  ·skip
   refine .skip (.code (.seq (.block (.seq (.region (.move rfl rfl (.move rfl rfl (.move rfl rfl (.add rfl rfl rfl (.sub rfl rfl rfl (.quoC rfl (by decide) rfl rfl ?_)))))))))))
   refine .add rfl rfl rfl (.mul rfl rfl rfl (.eql rfl rfl rfl (.nil (.code (.cond rfl (fun hb6 => ?_) (fun hb6 => ?_))))))
   ·skip
    refine .seq (.region (.move rfl rfl (.assign rfl rfl (.nil (.code (.retQ (LPost.ret fun a w h => ⟨rfl, F_3, l_4, h.1.sub (.cons (k := 2) rfl (.nil _)), h.2⟩)))))))
   ·skip
    refine .skip (.block (.code (.region (.move rfl rfl (.add rfl rfl rfl (.assignL rfl rfl (fun k7 e8 => ?_)))))))
    refine .nil ?_
    exact .nil (LPost.norm fun a w h => ⟨F_3, l_4, h.1.sub (.cons (k := 0) rfl (.cons (k := 3) rfl (.nil _))), h.2⟩)
  ·skip
   refine .exitOut rfl (LPost.exit fun a w h => ⟨rfl, F_3, l_4, h.1.sub (.nil _), h.2⟩)
 ·intro b9 hb0 hk e a w hD
  rcases b9 with b9 | b9
  ·skip
   obtain ⟨rfl, F_10, l_11, hA⟩ := hD
   refine interp_exit rfl (GE.app ?_ hk a w hA)
   refine .code (.seq (.region (.assign rfl rfl (.nil (.code ?_)))))
   exact .ret0 Tryz.results52 (.tmp rfl (.nil)) (i := 0) rfl l_11 rfl
  obtain ⟨rfl, F_12, l_13, hA⟩ := hD
  exact interp_ret ((ret_post0 Tryz.results52 (.tmp rfl (.nil)) (i := 0) rfl l_13 rfl) hk a w hA)
noncomputable def b_wormtubref14_Read_1 (b1 : (List Int)) (s10 : (List ApiBooked) × Int) : Option (Ctl ((List ApiBooked) × Int) (((List ApiBooked)) ⊕ ((List ApiBooked) × Int))) :=
 if (decide ((w64 (96 * s10.2)) < (b1.length : Int))) then (if (((Int.tmod s10.2 9) == 8) || ((w64 (96 * (w64 (s10.2 + 1)))) == (b1.length : Int))) then (bindv (w64 (s10.2 + 1)) fun row22 => some (.next (s10.1, row22))) else ((sliceL b1 (w64 (96 * s10.2)) (w64 (96 * (w64 (s10.2 + 1))))).bind fun l_24 => (m_wormtubref14_Right (u8s l_24)).bind fun r_31 => if (!r_31.2) then (some (.done (.inr ([], 8)))) else ((appO s10.1 ([r_31.1])).bind fun l_42 => bindv (w64 (s10.2 + 1)) fun row46 => some (.next (l_42, row46))))) else (some (.done (.inl s10.1)))
noncomputable def m_wormtubref14_Read (b1 : (List Int)) : Option ((List ApiBooked) × Int) :=
 (m_wormtubref14_rowsOf (b1.length : Int)).bind fun r_7 => if (decide (r_7 < 0)) then (some ([], 8)) else ((loopM (b_wormtubref14_Read_1 b1) ([], 0)).bind fun b0 => match b0 with | .inl b48 => ((m_wormtubref14_Write b48).bind fun r_64 => if (!((u8s r_64.1) == (u8s b1))) then (some ([], 8)) else (some (b48, 0))) | .inr b48 => (some (b48.1, b48.2)))
set_option maxRecDepth 100000 in
set_option maxHeartbeats 4000000 in
theorem c_wormtubref14_Read (F0 : Fz) (b1 : (List Int)) (p2 : Option Addr) (k3 : Nat) (h4 : RepSl 1 (Ex (cInt .u8)) F0 p2 k3 b1) : CT0 Tryz.prog 20 [(.slice p2 b1.length k3)].toArray F0 (m_wormtubref14_Read b1) (fun r F v => ∃ (p0 : Option Addr) (k0 : Nat), v = .tuple #[(.slice p0 r.1.length k0), (.int .i64 r.2)] ∧ RepSl 2 rApiBooked F p0 k0 r.1) := by
 refine CT0.enter Tryz.func20 rfl Tryz.ntmps20 rfl fun r R => ?_
 unfold m_wormtubref14_Read
 refine .seq (.region (.assign rfl rfl (.assign rfl rfl (.nil (.code (.seq (.seq (.region (.move rfl rfl (.lenS rfl rfl Tryz.underlying25 rfl (.call0 rfl Tryz.call52 rfl rfl rfl (c_wormtubref14_rowsOf _ (b1.length : Int)) ?_)))))))))))
 rintro r_7 F_5 _ - l_6 rfl
 refine .lss rfl rfl rfl (.nil (.code (.cond rfl (fun hb8 => ?_) (fun hb8 => ?_))))
 ·skip
  refine .seq (.region (.assign rfl rfl (.assign rfl rfl (.nil (.code ?_)))))
  exact .ret0 Tryz.results20 (.tmp rfl (.tmp rfl (.nil))) (i := 0) rfl l_6 ⟨none, 0, rfl, (RepSl.nil.mono l_6)⟩
 ·skip
  refine .skip (.code (.seq (.region (.assign rfl rfl (.nil (.code (.seq (.seq (.region (.assign rfl rfl (.nil ?_)))))))))))
  refine .code (.block (.ownNil 2 rApiBooked 41 (.keep (.cons (k := 0) rfl (.cons (k := 4) rfl (.cons (k := 5) rfl (.nil _)))) ?_)))
  refine .loop (fun (s10 : (List ApiBooked) × Int) a w => ∃ (F_11 : Fz) (p13 : Option Addr) (k14 : Nat), F_5 ≤ F_11 ∧ Hd 61 [] [(0, (.slice p2 b1.length k3)), (4, (.slice p13 s10.1.length k14)), (5, (.int .i64 s10.2))] F_11 [ownSl 2 rApiBooked F_11 41 p13 k14 s10.1, R] a w) (fun b0 e a w => match b0 with | .inl b48 => e = .exit 0 ∧ ∃ (F_49 : Fz) (p51 : Option Addr) (k52 : Nat), F_5 ≤ F_49 ∧ Hd 61 [] [(0, (.slice p2 b1.length k3)), (4, (.slice p51 b48.length k52))] F_49 [ownSl 2 rApiBooked F_49 41 p51 k52 b48, R] a w | .inr b48 => e = .ret ∧ ∃ (F_54 : Fz) (p56 : Option Addr) (k57 : Nat), F_5 ≤ F_54 ∧ RepSl 2 rApiBooked F_54 p56 k57 b48.1 ∧ Hd 61 [] [(2, (.slice p56 b48.1.length k57)), (3, (.int .i64 b48.2))] F_54 [R] a w) ?_ ?_ ?_
  ·exact fun a w h => ⟨F_5, none, 0, Fz.r, h.1.sub (.cons (k := 0) rfl (.cons (k := 4) rfl (.cons (k := 5) rfl (.nil _)))), h.2⟩
  ·intro s10 ctl
   refine GC.ex (fun a w ⟨F_11, p13, k14, l_12, hA⟩ => ⟨_, hA, ?_⟩)
   unfold b_wormtubref14_Read_1
   refine .seq (.seq (.region (.move rfl rfl (.mul rfl rfl rfl (.move rfl rfl (.lenS rfl rfl Tryz.underlying25 rfl (.lss rfl rfl rfl (.nil (.code (.cond rfl (fun hb16 => ?_) (fun hb16 => ?_)))))))))))
   ·skip
    refine .skip (.code (.seq (.block (.seq (.seq (.region (.move rfl rfl (.remC rfl (by decide) rfl rfl (.eql rfl rfl rfl (.move rfl rfl (.orP (b := ((Int.tmod s10.2 9) == 8)) (b' := ((w64 (96 * (w64 (s10.2 + 1)))) == (b1.length : Int))) 7 31 (fun hb17 => ?_) (fun hb18 => ?_) (fun F_19 l_20 => ?_))))))))))))
    ·skip
     refine .onH hb17 rfl rfl (.move rfl rfl (.onH hb17 rfl rfl (.add rfl rfl rfl (.onH hb17 rfl rfl (.mul rfl rfl rfl (.onH hb17 rfl rfl (.move rfl rfl (.onH hb17 rfl rfl (.lenS rfl rfl Tryz.underlying25 rfl (.onH hb17 rfl rfl (.eql rfl rfl rfl ?_)))))))))))
     refine .pickFH hb17 rfl rfl rfl ?_
     exact .fin 7 rfl rfl (by kernel_rfl) Fz.r
    ·skip
     refine .offH hb18 rfl rfl rfl (.offH hb18 rfl rfl rfl (.offH hb18 rfl rfl rfl (.offH hb18 rfl rfl rfl (.offH hb18 rfl rfl rfl (.offH hb18 rfl rfl rfl (.pickTH hb18 rfl rfl rfl ?_))))))
     exact .fin 7 rfl rfl (by kernel_rfl) Fz.r
    refine .nil (.code (.cond rfl (fun hb21 => ?_) (fun hb21 => ?_)))
    ·skip
     refine .exit rfl (.code (.region (.move rfl rfl (.add rfl rfl rfl (.assignL rfl rfl (fun row22 e23 => ?_))))))
     refine .nil (.ownUp 0 l_20 rfl ?_)
     exact .nil (LPost.norm fun a w h => ⟨F_19, p13, k14, (Fz.t l_12 l_20), h.1.sub (.cons (k := 0) rfl (.cons (k := 4) rfl (.cons (k := 5) rfl (.nil _)))), h.2⟩)
    ·skip
     refine .skip (.code (.seq (.region (.move rfl rfl (.move rfl rfl (.mul rfl rfl rfl (.move rfl rfl (.add rfl rfl rfl (.mul rfl rfl rfl (.sliceLoHi rfl Tryz.underlying25 Tryz.sizeOf5 (h4.mono (Fz.t l_6 (Fz.t l_12 l_20))) rfl rfl rfl (fun l_24 p25 k26 e27 h28 => ?_)))))))))))
     refine .bytesStr rfl Tryz.underlying25 Tryz.underlying5 Tryz.underlying9 h28 rfl (.call0 rfl Tryz.call25 rfl rfl rfl (c_wormtubref14_Right _ (u8s l_24)) ?_)
     rintro r_31 F_29 _ - l_30 ⟨p32, k33, rfl, h34⟩
     refine .move rfl rfl (.extract rfl rfl rfl (.extract rfl rfl rfl (.alloc (cs := (cApiBooked (ApiBooked.mk 0 ([])) none 0)) rfl Tryz.zeroValue41 rfl (fun b35 => ?_))))
     refine .store (cs' := (cApiBooked r_31.1 p32 k33)) Tryz.sizeOf41 rfl rfl rfl rfl (i := 0) rfl (Nat.le_of_ble_eq_true rfl) rfl (setMany_all (by rfl)) (.assign rfl rfl (.nil (.keep (.cons (k := 0) rfl (.cons (k := 4) rfl (.cons (k := 5) rfl (.cons (k := 6) rfl (.cons (k := 7) rfl (.nil _)))))) (.code (.seq (.seq (.region (.move rfl rfl (.not rfl rfl (.nil (.code ?_)))))))))))
     refine .cond rfl (fun hb36 => ?_) (fun hb36 => ?_)
     ·skip
      refine .seq (.region (.assign rfl rfl (.assign rfl rfl (.nil (.code (.drop 1 (.drop 0 (.retQ (LPost.ret fun a w h => ⟨rfl, F_29, none, 0, (Fz.t l_12 (Fz.t l_20 l_30)), (RepSl.nil.mono (Fz.t l_6 (Fz.t l_12 (Fz.t l_20 l_30)))), h.1.sub (.cons (k := 2) rfl (.cons (k := 3) rfl (.nil _))), h.2⟩)))))))))
     ·skip
      refine .skip (.code (.region (.move rfl rfl (.loadOA rfl Tryz.isAgg41 Tryz.sizeOf41 rfl (i := 0) rfl (vs := (cApiBooked r_31.1 p32 k33)) (by kernel_rfl) rfl ?_))))
      refine .sliceLit (cs := [.int .i64 r_31.1.Kind, .slice p32 r_31.1.N.length k33]) (zc := [.int .i64 (ApiBooked.mk 0 ([])).Kind, .slice none (ApiBooked.mk 0 ([])).N.length 0]) rfl Tryz.underlying22 Tryz.sizeOf41 Tryz.zeroValue41 rfl rfl rfl (by kernel_rfl) (by kernel_rfl) (fun b37 F_38 l_39 hb40 => ?_)
      have h41 : RepSl 2 rApiBooked F_38 (some ⟨b37, 0, none⟩) 1 ([r_31.1]) := RepSl.ofRow hb40 (.cons ok_t41.mono ⟨_, _, rfl, (h34.mono l_39)⟩ .nil) rfl rfl
      refine .append 1 ok_t41 (Fz.t l_20 (Fz.t l_30 l_39)) rfl Tryz.underlying22 Tryz.underlying22 rfl rfl rfl h41 rfl rfl (fun l_42 p43 k44 e45 => ?_)
      refine .assign rfl rfl (.nil (.block (.code (.region (.move rfl rfl (.add rfl rfl rfl (.assignL rfl rfl (fun row46 e47 => ?_))))))))
      refine .nil (.drop 0 ?_)
      exact .nil (LPost.norm fun a w h => ⟨F_38, p43, k44, (Fz.t l_12 (Fz.t l_20 (Fz.t l_30 l_39))), h.1.sub (.cons (k := 0) rfl (.cons (k := 4) rfl (.cons (k := 5) rfl (.nil _)))), h.2⟩)
   ·skip
    refine .exitOut rfl (LPost.exit fun a w h => ⟨rfl, F_11, p13, k14, l_12, h.1.sub (.cons (k := 0) rfl (.cons (k := 4) rfl (.nil _))), h.2⟩)
  ·intro b48 hb0 hk e a w hD
   rcases b48 with b48 | b48
   ·skip
    obtain ⟨rfl, F_49, p51, k52, l_50, hA⟩ := hD
    refine interp_exit rfl (GE.app ?_ hk a w hA)
    refine .code (.seq (.region (.move rfl rfl (.freezeSl 0 rfl Fz.r (fun F_59 l_60 h61 => ?_)))))
    refine .call0 rfl Tryz.call18 rfl rfl rfl (c_wormtubref14_Write _ b48 p51 k52 h61) ?_
    rintro r_64 F_62 _ - l_63 ⟨p65, k66, rfl, h67⟩
    refine .move rfl rfl (.extract rfl rfl rfl (.extract rfl rfl rfl (.assign rfl rfl (.assign rfl rfl (.nil (.code (.seq (.seq (.region (.move rfl rfl (.bytesStr rfl Tryz.underlying25 Tryz.underlying5 Tryz.underlying9 h67 rfl ?_)))))))))))
    refine .move rfl rfl (.bytesStr rfl Tryz.underlying25 Tryz.underlying5 Tryz.underlying9 (h4.mono (Fz.t l_6 (Fz.t l_50 (Fz.t l_60 l_63)))) rfl (.neqS rfl Tryz.underlying9 rfl rfl (.nil (.code (.cond rfl (fun hb68 => ?_) (fun hb68 => ?_))))))
    ·skip
     refine .seq (.region (.assign rfl rfl (.assign rfl rfl (.nil (.code ?_)))))
     exact .ret0 Tryz.results20 (.tmp rfl (.tmp rfl (.nil))) (i := 0) rfl (Fz.t l_6 (Fz.t l_50 (Fz.t l_60 l_63))) ⟨none, 0, rfl, (RepSl.nil.mono (Fz.t l_6 (Fz.t l_50 (Fz.t l_60 l_63))))⟩
    ·skip
     refine .skip (.code (.seq (.region (.move rfl rfl (.assign rfl rfl (.assign rfl rfl (.nil (.code ?_))))))))
     exact .ret0 Tryz.results20 (.tmp rfl (.tmp rfl (.nil))) (i := 0) rfl (Fz.t l_6 (Fz.t l_50 (Fz.t l_60 l_63))) ⟨p51, k52, rfl, (h61.mono l_63)⟩
   obtain ⟨rfl, F_54, p56, k57, l_55, h58, hA⟩ := hD
   exact interp_ret ((ret_post0 Tryz.results20 (.tmp rfl (.tmp rfl (.nil))) (i := 0) rfl (Fz.t l_6 l_55) ⟨p56, k57, rfl, h58⟩) hk a w hA)
noncomputable def b_wormtubref14_mend_1 (rows1 : (List (List UInt8))) (s9 : Int × (List (List UInt8)) × Int) : Option (Ctl (Int × (List (List UInt8)) × Int) ((Int × (List (List UInt8))) ⊕ ((List UInt8) × Bool))) :=
 if (decide (s9.2.2 < (rows1.length : Int))) then ((idxL rows1 s9.2.2).bind fun x16 => (m_wormtubref14_Right x16).bind fun r_28 => if r_28.2 then ((idxL rows1 s9.2.2).bind fun x34 => (appO s9.2.1 ([x34])).bind fun l_49 => bindv (w64 (s9.2.2 + 1)) fun i53 => some (.next (s9.1, l_49, i53))) else (if (decide (s9.1 ≥ 0)) then (some (.done (.inr (([] : List UInt8), false)))) else (bindv (w64 (s9.2.2 + 1)) fun i56 => some (.next (s9.2.2, s9.2.1, i56))))) else (some (.done (.inl (s9.1, s9.2.1))))
noncomputable def m_wormtubref14_mend (rows1 : (List (List UInt8))) (guard5 : (List UInt8)) : Option ((List (List UInt8)) × (List UInt8) × Bool) :=
 bindv (-1) fun bad6 => (loopM (b_wormtubref14_mend_1 rows1) (bad6, [], 0)).bind fun b0 => match b0 with | .inl b58 => ((appO ([]) rows1).bind fun l_68 => if (decide (b58.1 ≥ 0)) then ((m_wormtubref14_sum b58.2 guard5).bind fun r_76 => (idxL l_68 b58.1).bind fun _x79 => bindv (List.set l_68 (b58.1).toNat (r_76)) fun l_83 => (idxL l_83 b58.1).bind fun x86 => (m_wormtubref14_Right x86).bind fun r_92 => if (!r_92.2) then (some ([], ([] : List UInt8), false)) else ((m_wormtubref14_sum l_83 ([] : List UInt8)).bind fun r_101 => some (l_83, r_101, true))) else ((m_wormtubref14_sum l_68 ([] : List UInt8)).bind fun r_107 => some (l_68, r_107, true))) | .inr b58 => (some ([], b58.1, b58.2))
set_option maxRecDepth 100000 in
set_option maxHeartbeats 4000000 in
theorem c_wormtubref14_mend_own (F0 : Fz) (rows1 : (List (List UInt8))) (p2 : Option Addr) (k3 : Nat) (h4 : RepSl 1 (Ex cStr) F0 p2 k3 rows1) (guard5 : (List UInt8)) : CTW Tryz.prog 55 [(.slice p2 rows1.length k3), (.string (bs guard5))].toArray F0 (m_wormtubref14_mend rows1 guard5) (fun (r : ((List (List UInt8)) × (List UInt8) × Bool)) p0 k0 => .tuple #[(.slice p0 r.1.length k0), (.string (bs r.2.1)), (.bool r.2.2)]) (fun (r : ((List (List UInt8)) × (List UInt8) × Bool)) => r.1) 1 cStr 9 := by
 refine CTO.enterM Tryz.func55 rfl Tryz.ntmps55 rfl fun r R => ?_
 unfold m_wormtubref14_mend
 refine .seq (.region (.assign rfl rfl (.assign rfl rfl (.assign rfl rfl (.nil (.code (.seq (.region (.assignL rfl rfl (fun bad6 e7 => ?_))))))))))
 refine .nil (.code (.seq (.region (.assign rfl rfl (.nil (.code (.seq (.seq (.region (.assign rfl rfl (.nil ?_)))))))))))
 refine .code (.block (.ownNil 1 (Ex cStr) 9 (.keep (.cons (k := 0) rfl (.cons (k := 1) rfl (.cons (k := 7) rfl (.cons (k := 8) rfl (.cons (k := 9) rfl (.nil _)))))) ?_)))
 refine .loop (fun (s9 : Int × (List (List UInt8)) × Int) a w => ∃ (F_10 : Fz) (p12 : Option Addr) (k13 : Nat), F0 ≤ F_10 ∧ Hd 64 [] [(0, (.slice p2 rows1.length k3)), (1, (.string (bs guard5))), (7, (.int .i64 s9.1)), (8, (.slice p12 s9.2.1.length k13)), (9, (.int .i64 s9.2.2))] F_10 [ownSl 1 (Ex cStr) F_10 9 p12 k13 s9.2.1, R] a w) (fun b0 e a w => match b0 with | .inl b58 => e = .exit 0 ∧ ∃ (F_59 : Fz) (p61 : Option Addr) (k62 : Nat), F0 ≤ F_59 ∧ Hd 64 [] [(0, (.slice p2 rows1.length k3)), (1, (.string (bs guard5))), (7, (.int .i64 b58.1)), (8, (.slice p61 b58.2.length k62))] F_59 [ownSl 1 (Ex cStr) F_59 9 p61 k62 b58.2, R] a w | .inr b58 => e = .ret ∧ ∃ (F_64 : Fz), F0 ≤ F_64 ∧ Hd 64 [] [(4, (.slice none 0 0)), (5, (.string (bs b58.1))), (6, (.bool b58.2))] F_64 [R] a w) ?_ ?_ ?_
 ·exact fun a w h => ⟨F0, none, 0, Fz.r, h.1.sub (.cons (k := 0) rfl (.cons (k := 1) rfl (.cons (k := 7) rfl (.cons (k := 8) rfl (.cons (k := 9) rfl (.nil _)))))), h.2⟩
 ·intro s9 ctl
  refine GC.ex (fun a w ⟨F_10, p12, k13, l_11, hA⟩ => ⟨_, hA, ?_⟩)
  unfold b_wormtubref14_mend_1
  refine .seq (.seq (.region (.move rfl rfl (.move rfl rfl (.lenS rfl rfl Tryz.underlying86 rfl (.lss rfl rfl rfl (.nil (.code (.cond rfl (fun hb15 => ?_) (fun hb15 => ?_))))))))))
  ·skip
   refine .skip (.code (.seq (.block (.seq (.region (.move rfl rfl (.move rfl rfl (.idx rfl Tryz.underlying86 Tryz.sizeOf9 (h4.mono l_11) rfl rfl (fun x16 b17 o18 T19 fr20 cs21 e22 hm23 hv24 => ?_)))))))))
   refine .loadF rfl Tryz.isAgg9 rfl hm23 (cell_of_take (k := 0) hv24 rfl) (.call0 rfl Tryz.call25 rfl rfl rfl (c_wormtubref14_Right _ x16) ?_)
   rintro r_28 F_26 _ - l_27 ⟨p29, k30, rfl, h31⟩
   refine .move rfl rfl (.extract rfl rfl rfl (.extract rfl rfl rfl (.alloc (cs := (cApiBooked (ApiBooked.mk 0 ([])) none 0)) rfl Tryz.zeroValue41 rfl (fun b32 => ?_))))
   refine .store (cs' := (cApiBooked r_28.1 p29 k30)) Tryz.sizeOf41 rfl rfl rfl rfl (i := 0) rfl (Nat.le_of_ble_eq_true rfl) rfl (setMany_all (by rfl)) (.assign rfl rfl (.nil (.code (.seq (.seq (.region (.move rfl rfl (.nil (.code (.cond rfl (fun hb33 => ?_) (fun hb33 => ?_)))))))))))
   ·skip
    refine .seq (.region (.move rfl rfl (.move rfl rfl (.move rfl rfl (.idx rfl Tryz.underlying86 Tryz.sizeOf9 (h4.mono (Fz.t l_11 l_27)) rfl rfl (fun x34 b35 o36 T37 fr38 cs39 e40 hm41 hv42 => ?_))))))
    refine .loadF rfl Tryz.isAgg9 rfl hm41 (cell_of_take (k := 0) hv42 rfl) (.sliceLit (cs := [.string (bs x34)]) (zc := [.string (bs ([]))]) rfl Tryz.underlying86 Tryz.sizeOf9 Tryz.zeroValue9 rfl rfl rfl (by kernel_rfl) (by kernel_rfl) (fun b44 F_45 l_46 hb47 => ?_))
    have h48 : RepSl 1 (Ex cStr) F_45 (some ⟨b44, 0, none⟩) 1 ([x34]) := RepSl.ofRow hb47 (.cons ok_t9.mono rfl .nil) rfl rfl
    refine .append 1 ok_t9 (Fz.t l_27 l_46) rfl Tryz.underlying86 Tryz.underlying86 rfl rfl rfl h48 rfl rfl (fun l_49 p50 k51 e52 => ?_)
    refine .assign rfl rfl (.nil (.keep (.cons (k := 0) rfl (.cons (k := 1) rfl (.cons (k := 7) rfl (.cons (k := 8) rfl (.cons (k := 9) rfl (.nil _)))))) (.code (.exit rfl (.code (.region (.move rfl rfl (.add rfl rfl rfl (.assignL rfl rfl (fun i53 e54 => ?_))))))))))
    refine .nil (.drop 0 ?_)
    exact .nil (LPost.norm fun a w h => ⟨F_45, p50, k51, (Fz.t l_11 (Fz.t l_27 l_46)), h.1.sub (.cons (k := 0) rfl (.cons (k := 1) rfl (.cons (k := 7) rfl (.cons (k := 8) rfl (.cons (k := 9) rfl (.nil _)))))), h.2⟩)
   ·skip
    refine .skip (.code (.seq (.seq (.region (.move rfl rfl (.geq rfl rfl rfl (.nil (.code (.cond rfl (fun hb55 => ?_) (fun hb55 => ?_))))))))))
    ·skip
     refine .seq (.region (.assign rfl rfl (.assign rfl rfl (.assign rfl rfl (.nil (.keep (.cons (k := 4) rfl (.cons (k := 5) rfl (.cons (k := 6) rfl (.nil _)))) (.code (.drop 1 (.drop 0 (.retQ (LPost.ret fun a w h => ⟨rfl, F_26, (Fz.t l_11 l_27), h.1.sub (.cons (k := 4) rfl (.cons (k := 5) rfl (.cons (k := 6) rfl (.nil _)))), h.2⟩)))))))))))
    ·skip
     refine .skip (.code (.region (.move rfl rfl (.assign rfl rfl (.nil (.block (.code (.region (.move rfl rfl (.add rfl rfl rfl (.assignL rfl rfl (fun i56 e57 => ?_))))))))))))
     refine .nil (.drop 0 (.ownUp 0 l_27 rfl ?_))
     exact .nil (LPost.norm fun a w h => ⟨F_26, p12, k13, (Fz.t l_11 l_27), h.1.sub (.cons (k := 0) rfl (.cons (k := 1) rfl (.cons (k := 7) rfl (.cons (k := 8) rfl (.cons (k := 9) rfl (.nil _)))))), h.2⟩)
  ·skip
   refine .exitOut rfl (LPost.exit fun a w h => ⟨rfl, F_10, p12, k13, l_11, h.1.sub (.cons (k := 0) rfl (.cons (k := 1) rfl (.cons (k := 7) rfl (.cons (k := 8) rfl (.nil _))))), h.2⟩)
 ·intro b58 hb0 hk e a w hD
  rcases b58 with b58 | b58
  ·skip
   obtain ⟨rfl, F_59, p61, k62, l_60, hA⟩ := hD
   refine interp_exit rfl (GE.app ?_ hk a w hA)
   refine .code (.seq (.region (.sliceOwn0 (Ex cStr) rfl Tryz.underlying86 Tryz.sizeOf9 (fun b66 => ?_))))
   refine .move rfl rfl (.append 0 ok_t9 Fz.r rfl Tryz.underlying86 Tryz.underlying86 rfl rfl rfl (h4.mono l_60) rfl rfl (fun l_68 p69 k70 e71 => ?_))
   refine .assign rfl rfl (.nil (.code (.seq (.seq (.region (.move rfl rfl (.geq rfl rfl rfl (.nil (.code (.cond rfl (fun hb72 => ?_) (fun hb72 => ?_)))))))))))
   ·skip
    refine .seq (.region (.move rfl rfl (.move rfl rfl (.move rfl rfl (.move rfl rfl (.callLend 1 rfl rfl Tryz.call48 rfl rfl rfl (fun F_73 l_74 h75 => (c_wormtubref14_sum _ b58.2 p61 k62 h75 guard5)) (fun r_76 F_77 _ l_78 => ?_)))))))
    refine .bind (fun x79 e80 => ?_)
    refine .ownAddr 0 rfl e80 (fun b81 hp82 => ?_)
    refine .idxOwn rfl Tryz.underlying86 Tryz.sizeOf9 hp82 e80 rfl rfl (.letv (fun l_83 e84 => ?_))
    have hn85 : l_68.length = l_83.length := by rw [e84, List.length_set]
    refine .storeOwn0 (z' := r_76) (off := 0) (us := [(.string (bs r_76))]) 0 rfl Tryz.sizeOf9 hp82 e80 rfl rfl rfl rfl rfl rfl rfl (fun F' vs le h => by subst h; exact (setMany_all (by rfl))) e84 (.nil (.code (.seq (.region (.move rfl rfl (.move rfl rfl (.bind (fun x86 e87 => ?_))))))))
    refine .ownAddr 0 rfl e87 (fun b88 hp89 => ?_)
    refine .idxOwnN hn85 rfl Tryz.underlying86 Tryz.sizeOf9 hp89 e87 rfl rfl (.loadOwn (off := 0) (Φ := fun v => v = (.string (bs x86))) 0 rfl l_78 rfl Tryz.isAgg9 hp89 e87 rfl rfl (fun vs h => ⟨_, by subst h; exact rfl, rfl⟩) (fun v hv => ?_))
    subst hv
    refine .call0 rfl Tryz.call25 rfl rfl rfl (c_wormtubref14_Right _ x86) ?_
    rintro r_92 F_90 _ - l_91 ⟨p93, k94, rfl, h95⟩
    refine .move rfl rfl (.extract rfl rfl rfl (.extract rfl rfl rfl (.alloc (cs := (cApiBooked (ApiBooked.mk 0 ([])) none 0)) rfl Tryz.zeroValue41 rfl (fun b96 => ?_))))
    refine .store (cs' := (cApiBooked r_92.1 p93 k94)) Tryz.sizeOf41 rfl rfl rfl rfl (i := 0) rfl (Nat.le_of_ble_eq_true rfl) rfl (setMany_all (by rfl)) (.assign rfl rfl (.nil (.keep (.cons (k := 12) rfl (.cons (k := 14) rfl (.nil _))) (.code (.seq (.region (.move rfl rfl (.not rfl rfl (.nil (.code (.cond rfl (fun hb97 => ?_) (fun hb97 => ?_))))))))))))
    ·skip
     refine .seq (.region (.assign rfl rfl (.assign rfl rfl (.assign rfl rfl (.nil (.code ?_))))))
     exact .retQ (ret_postON [] Tryz.results55 trivial (.tmp rfl (.tmp rfl (.tmp rfl (.nil)))) (i := 3) rfl (Fz.t l_60 (Fz.t l_78 l_91)) rfl rfl)
    ·skip
     refine .skip (.code (.seq (.region (.move rfl rfl (.move rfl rfl (.reslot 62 rfl (v' := .slice p69 l_83.length k70) (congrArg (fun q => Value.slice p69 q k70) hn85) (.callLend 1 rfl rfl Tryz.call48 rfl rfl rfl (fun F_98 l_99 h100 => (c_wormtubref14_sum _ l_83 p69 k70 h100 ([] : List UInt8))) (fun r_101 F_102 _ l_103 => ?_))))))))
     refine .assign rfl rfl (.assign rfl rfl (.assign rfl rfl (.nil (.code (.reslot 4 rfl (v' := .slice p69 l_83.length k70) (congrArg (fun q => Value.slice p69 q k70) hn85) (.ownUp 1 (Fz.t l_78 (Fz.t l_91 l_103)) rfl ?_))))))
     exact .retQ (ret_postOM (p69, k70) [1, 2] [] Tryz.results55 trivial (.tmp rfl (.tmp rfl (.tmp rfl (.nil)))) rfl (Fz.t l_60 (Fz.t l_78 (Fz.t l_91 l_103))) rfl)
   ·skip
    refine .skip (.code (.seq (.region (.move rfl rfl (.move rfl rfl (.callLend 0 rfl rfl Tryz.call48 rfl rfl rfl (fun F_104 l_105 h106 => (c_wormtubref14_sum _ l_68 p69 k70 h106 ([] : List UInt8))) (fun r_107 F_108 _ l_109 => ?_)))))))
    refine .assign rfl rfl (.assign rfl rfl (.assign rfl rfl (.nil (.code (.ownUp 0 l_109 rfl ?_)))))
    exact .retQ (ret_postOM (p69, k70) [0, 1] [] Tryz.results55 trivial (.tmp rfl (.tmp rfl (.tmp rfl (.nil)))) rfl (Fz.t l_60 l_109) rfl)
  obtain ⟨rfl, F_64, l_65, hA⟩ := hD
  exact interp_ret ((ret_postON [] Tryz.results55 trivial (.tmp rfl (.tmp rfl (.tmp rfl (.nil)))) (i := 0) rfl l_65 rfl rfl) hk a w hA)
noncomputable def b_wormtubref14_Repair_2 (b1 : (List Int)) (s10 : Int × (List UInt8) × (List Int) × Int) (size17 : Int) (s20 : (List (List UInt8)) × Int) : Option (Ctl ((List (List UInt8)) × Int) (((List (List UInt8))))) :=
 if (decide (s20.2 ≤ size17)) then ((sliceL b1 (w64 (96 * (w64 (s10.2.2.2 + s20.2)))) (w64 (96 * (w64 ((w64 (s10.2.2.2 + s20.2)) + 1))))).bind fun l_27 => (appO s20.1 ([(u8s l_27)])).bind fun l_37 => bindv (w64 (s20.2 + 1)) fun i41 => some (.next (l_37, i41))) else (some (.done s20.1))
noncomputable def b_wormtubref14_Repair_3 (s10 : Int × (List UInt8) × (List Int) × Int) (size17 : Int) (b43 : (List (List UInt8))) (l_79 : (List (List UInt8))) (s83 : (List UInt8) × (List Int) × Int) : Option (Ctl ((List UInt8) × (List Int) × Int) (((List UInt8) × (List Int)))) :=
 if (decide (s83.2.2 ≤ size17)) then ((idxL l_79 s83.2.2).bind fun x90 => (idxL b43 s83.2.2).bind fun x94 => (if (!(x90 == x94)) then ((appO s83.2.1 ([(w64 (s10.2.2.2 + s83.2.2))])).bind fun l_110 => some l_110) else (some s83.2.1) : Option ((List Int))).bind fun j114 => (idxL l_79 s83.2.2).bind fun x120 => (appO s83.1 x120).bind fun s124 => bindv (w64 (s83.2.2 + 1)) fun i126 => some (.next (s124, j114, i126))) else (some (.done (s83.1, s83.2.1)))
noncomputable def b_wormtubref14_Repair_1 (b1 : (List Int)) (s10 : Int × (List UInt8) × (List Int) × Int) : Option (Ctl (Int × (List UInt8) × (List Int) × Int) (((List UInt8) × (List Int)) ⊕ ((List Int) × (List Int) × Int))) :=
 if (decide (s10.1 > 0)) then (bindv (imin s10.1 8) fun size17 => (loopM (b_wormtubref14_Repair_2 b1 s10 size17) ([], 0)).bind fun b43 => (sliceL b43 0 size17).bind fun l_52 => (idxL b43 size17).bind fun x57 => (m_wormtubref14_mend l_52 x57).bind fun r_67 => if (!r_67.2.2) then (some (.done (.inr ([], [], 10)))) else ((appO r_67.1 ([r_67.2.1])).bind fun l_79 => (loopM (b_wormtubref14_Repair_3 s10 size17 b43 l_79) (s10.2.1, s10.2.2.1, 0)).bind fun b128 => bindv (w64 ((w64 (s10.2.2.2 + size17)) + 1)) fun row134 => bindv (w64 (s10.1 - size17)) fun n_136 => some (.next (n_136, b128.1, b128.2, row134)))) else (some (.done (.inl (s10.2.1, s10.2.2.1))))
noncomputable def m_wormtubref14_Repair (b1 : (List Int)) : Option ((List Int) × (List Int) × Int) :=
 (m_wormtubref14_rowsOf (b1.length : Int)).bind fun r_7 => if (decide (r_7 < 0)) then (some ([], [], 8)) else ((loopM (b_wormtubref14_Repair_1 b1) (r_7, ([] : List UInt8), [], 0)).bind fun b0 => match b0 with | .inl b138 => ((appO [] b138.1).bind fun s152 => some ((i8s s152), b138.2, 0)) | .inr b138 => (some (b138.1, b138.2.1, b138.2.2)))
set_option maxRecDepth 100000 in
set_option maxHeartbeats 4000000 in
theorem c_wormtubref14_Repair (F0 : Fz) (b1 : (List Int)) (p2 : Option Addr) (k3 : Nat) (h4 : RepSl 1 (Ex (cInt .u8)) F0 p2 k3 b1) : CT0 Tryz.prog 22 [(.slice p2 b1.length k3)].toArray F0 (m_wormtubref14_Repair b1) (fun r F v => ∃ (p0 : Option Addr) (k0 : Nat) (p1 : Option Addr) (k1 : Nat), v = .tuple #[(.slice p0 r.1.length k0), (.slice p1 r.2.1.length k1), (.int .i64 r.2.2)] ∧ RepSl 1 (Ex (cInt .u8)) F p0 k0 r.1 ∧ RepSl 1 (Ex (cInt .i64)) F p1 k1 r.2.1) := by
 refine CT0.enter Tryz.func22 rfl Tryz.ntmps22 rfl fun r R => ?_
 unfold m_wormtubref14_Repair
 refine .seq (.region (.assign rfl rfl (.assign rfl rfl (.assign rfl rfl (.nil (.code (.seq (.region (.move rfl rfl (.lenS rfl rfl Tryz.underlying25 rfl (.call0 rfl Tryz.call52 rfl rfl rfl (c_wormtubref14_rowsOf _ (b1.length : Int)) ?_)))))))))))
 rintro r_7 F_5 _ - l_6 rfl
 refine .assign rfl rfl (.nil (.code (.seq (.seq (.region (.move rfl rfl (.lss rfl rfl rfl (.nil (.code (.cond rfl (fun hb8 => ?_) (fun hb8 => ?_)))))))))))
 ·skip
  refine .seq (.region (.assign rfl rfl (.assign rfl rfl (.assign rfl rfl (.nil (.code ?_))))))
  exact .ret0 Tryz.results22 (.tmp rfl (.tmp rfl (.tmp rfl (.nil)))) (i := 0) rfl l_6 ⟨none, 0, none, 0, rfl, (RepSl.nil.mono l_6), (RepSl.nil.mono l_6)⟩
 ·skip
  refine .skip (.code (.seq (.region (.assign rfl rfl (.nil (.code (.seq (.region (.assign rfl rfl (.nil (.code ?_)))))))))))
  refine .seq (.region (.assign rfl rfl (.nil (.code (.seq (.block (.ownNil 1 (Ex (cInt .i64)) 3 (.keep (.cons (k := 0) rfl (.cons (k := 5) rfl (.cons (k := 6) rfl (.cons (k := 7) rfl (.cons (k := 8) rfl (.nil _)))))) ?_))))))))
  refine .loop (fun (s10 : Int × (List UInt8) × (List Int) × Int) a w => ∃ (F_11 : Fz) (p13 : Option Addr) (k14 : Nat), F_5 ≤ F_11 ∧ Hd 99 [] [(0, (.slice p2 b1.length k3)), (5, (.int .i64 s10.1)), (6, (.string (bs s10.2.1))), (7, (.slice p13 s10.2.2.1.length k14)), (8, (.int .i64 s10.2.2.2))] F_11 [ownSl 1 (Ex (cInt .i64)) F_11 3 p13 k14 s10.2.2.1, R] a w) (fun b0 e a w => match b0 with | .inl b138 => e = .exit 0 ∧ ∃ (F_139 : Fz) (p141 : Option Addr) (k142 : Nat), F_5 ≤ F_139 ∧ Hd 99 [] [(6, (.string (bs b138.1))), (7, (.slice p141 b138.2.length k142))] F_139 [ownSl 1 (Ex (cInt .i64)) F_139 3 p141 k142 b138.2, R] a w | .inr b138 => e = .ret ∧ ∃ (F_144 : Fz) (p146 : Option Addr) (k147 : Nat) (p149 : Option Addr) (k150 : Nat), F_5 ≤ F_144 ∧ RepSl 1 (Ex (cInt .u8)) F_144 p146 k147 b138.1 ∧ RepSl 1 (Ex (cInt .i64)) F_144 p149 k150 b138.2.1 ∧ Hd 99 [] [(2, (.slice p146 b138.1.length k147)), (3, (.slice p149 b138.2.1.length k150)), (4, (.int .i64 b138.2.2))] F_144 [R] a w) ?_ ?_ ?_
  ·exact fun a w h => ⟨F_5, none, 0, Fz.r, h.1.sub (.cons (k := 0) rfl (.cons (k := 5) rfl (.cons (k := 6) rfl (.cons (k := 7) rfl (.cons (k := 8) rfl (.nil _)))))), h.2⟩
  ·intro s10 ctl
   refine GC.ex (fun a w ⟨F_11, p13, k14, l_12, hA⟩ => ⟨_, hA, ?_⟩)
   unfold b_wormtubref14_Repair_1
   refine .seq (.seq (.region (.move rfl rfl (.gtr rfl rfl rfl (.nil (.code (.cond rfl (fun hb16 => ?_) (fun hb16 => ?_))))))))
   ·skip
    refine .skip (.code (.block (.seq (.region (.move rfl rfl (.min2 rfl rfl rfl (.assignL rfl rfl (fun size17 e18 => ?_))))))))
    refine .nil (.code (.seq (.region (.assign rfl rfl (.nil (.code (.seq (.seq (.region (.assign rfl rfl (.nil ?_)))))))))))
    refine .code (.block (.ownNil 1 (Ex cStr) 9 (.keep (.cons (k := 0) rfl (.cons (k := 5) rfl (.cons (k := 6) rfl (.cons (k := 7) rfl (.cons (k := 8) rfl (.cons (k := 9) rfl (.cons (k := 10) rfl (.cons (k := 11) rfl (.nil _))))))))) ?_)))
    refine .loop (fun (s20 : (List (List UInt8)) × Int) a w => ∃ (F_21 : Fz) (p23 : Option Addr) (k24 : Nat), F_11 ≤ F_21 ∧ Hd 99 [] [(0, (.slice p2 b1.length k3)), (5, (.int .i64 s10.1)), (6, (.string (bs s10.2.1))), (7, (.slice p13 s10.2.2.1.length k14)), (8, (.int .i64 s10.2.2.2)), (9, (.int .i64 size17)), (10, (.slice p23 s20.1.length k24)), (11, (.int .i64 s20.2))] F_21 [ownSl 1 (Ex cStr) F_21 9 p23 k24 s20.1, ownSl 1 (Ex (cInt .i64)) F_11 3 p13 k14 s10.2.2.1, R] a w) (fun b43 e a w => e = .exit 2 ∧ ∃ (F_44 : Fz) (p46 : Option Addr) (k47 : Nat), F_11 ≤ F_44 ∧ Hd 99 [] [(0, (.slice p2 b1.length k3)), (5, (.int .i64 s10.1)), (6, (.string (bs s10.2.1))), (7, (.slice p13 s10.2.2.1.length k14)), (8, (.int .i64 s10.2.2.2)), (9, (.int .i64 size17)), (10, (.slice p46 b43.length k47))] F_44 [ownSl 1 (Ex cStr) F_44 9 p46 k47 b43, ownSl 1 (Ex (cInt .i64)) F_11 3 p13 k14 s10.2.2.1, R] a w) ?_ ?_ ?_
    ·exact fun a w h => ⟨F_11, none, 0, Fz.r, h.1.sub (.cons (k := 0) rfl (.cons (k := 5) rfl (.cons (k := 6) rfl (.cons (k := 7) rfl (.cons (k := 8) rfl (.cons (k := 9) rfl (.cons (k := 10) rfl (.cons (k := 11) rfl (.nil _))))))))), h.2⟩
    ·intro s20 ctl
     refine GC.ex (fun a w ⟨F_21, p23, k24, l_22, hA⟩ => ⟨_, hA, ?_⟩)
     unfold b_wormtubref14_Repair_2
     refine .seq (.seq (.region (.move rfl rfl (.move rfl rfl (.leq rfl rfl rfl (.nil (.code (.cond rfl (fun hb26 => ?_) (fun hb26 => ?_)))))))))
     ·skip
      refine .skip (.code (.seq (.block (.region (.move rfl rfl (.move rfl rfl (.move rfl rfl (.move rfl rfl (.add rfl rfl rfl (.mul rfl rfl rfl (.move rfl rfl ?_)))))))))))
      refine .move rfl rfl (.add rfl rfl rfl (.add rfl rfl rfl (.mul rfl rfl rfl (.sliceLoHi rfl Tryz.underlying25 Tryz.sizeOf5 (h4.mono (Fz.t l_6 (Fz.t l_12 l_22))) rfl rfl rfl (fun l_27 p28 k29 e30 h31 => ?_)))))
      refine .bytesStr rfl Tryz.underlying25 Tryz.underlying5 Tryz.underlying9 h31 rfl (.sliceLit (cs := [.string (bs (u8s l_27))]) (zc := [.string (bs ([]))]) rfl Tryz.underlying86 Tryz.sizeOf9 Tryz.zeroValue9 rfl rfl rfl (by kernel_rfl) (by kernel_rfl) (fun b32 F_33 l_34 hb35 => ?_))
      have h36 : RepSl 1 (Ex cStr) F_33 (some ⟨b32, 0, none⟩) 1 ([(u8s l_27)]) := RepSl.ofRow hb35 (.cons ok_t9.mono rfl .nil) rfl rfl
      refine .append 0 ok_t9 l_34 rfl Tryz.underlying86 Tryz.underlying86 rfl rfl rfl h36 rfl rfl (fun l_37 p38 k39 e40 => ?_)
      refine .assign rfl rfl (.nil (.block (.keep (.cons (k := 0) rfl (.cons (k := 5) rfl (.cons (k := 6) rfl (.cons (k := 7) rfl (.cons (k := 8) rfl (.cons (k := 9) rfl (.cons (k := 10) rfl (.cons (k := 11) rfl (.nil _))))))))) (.code (.region (.move rfl rfl (.add rfl rfl rfl (.assignL rfl rfl (fun i41 e42 => ?_)))))))))
      refine .nil ?_
      exact .nil (LPost.norm fun a w h => ⟨F_33, p38, k39, (Fz.t l_22 l_34), h.1.sub (.cons (k := 0) rfl (.cons (k := 5) rfl (.cons (k := 6) rfl (.cons (k := 7) rfl (.cons (k := 8) rfl (.cons (k := 9) rfl (.cons (k := 10) rfl (.cons (k := 11) rfl (.nil _))))))))), h.2⟩)
     ·skip
      refine .exitOut rfl (LPost.exit fun a w h => ⟨rfl, F_21, p23, k24, l_22, h.1.sub (.cons (k := 0) rfl (.cons (k := 5) rfl (.cons (k := 6) rfl (.cons (k := 7) rfl (.cons (k := 8) rfl (.cons (k := 9) rfl (.cons (k := 10) rfl (.nil _)))))))), h.2⟩)
    ·intro b43 hb0 hk e a w hD
     obtain ⟨rfl, F_44, p46, k47, l_45, hA⟩ := hD
     refine interp_exit rfl (GE.app ?_ hk a w hA)
     refine .code (.seq (.freezeSl 0 rfl Fz.r (fun F_49 l_50 h51 => ?_)))
     refine .keep (.cons (k := 0) rfl (.cons (k := 5) rfl (.cons (k := 6) rfl (.cons (k := 7) rfl (.cons (k := 8) rfl (.cons (k := 9) rfl (.cons (k := 10) rfl (.nil _)))))))) (.drawT (p := 7) (st := []) mixedOK (by kernel_rfl) (.move rfl rfl (.move rfl rfl (.sliceHi rfl Tryz.underlying86 Tryz.sizeOf9 h51 rfl rfl (fun l_52 p53 k54 e55 h56 => ?_)))))
     refine .move rfl rfl (.move rfl rfl (.idx rfl Tryz.underlying86 Tryz.sizeOf9 h51 rfl rfl (fun x57 b58 o59 T60 fr61 cs62 e63 hm64 hv65 => ?_)))
     refine .loadF rfl Tryz.isAgg9 rfl hm64 (cell_of_take (k := 0) hv65 rfl) (.pendT (.callWO rfl Tryz.call55 rfl rfl rfl (c_wormtubref14_mend_own _ l_52 p53 k54 h56 x57) (fun r_67 F_68 p70 k71 _ l_69 => ?_)))
     refine .nil (.stageZ (.move rfl rfl (.extract rfl rfl rfl (.extract rfl rfl rfl (.extract rfl rfl rfl (.assign rfl rfl (.assign rfl rfl (.assign rfl rfl (.endT (.code (.seq ?_)))))))))))
     refine .seq (.region (.move rfl rfl (.not rfl rfl (.nil (.code (.cond rfl (fun hb73 => ?_) (fun hb73 => ?_)))))))
     ·skip
      refine .seq (.region (.assign rfl rfl (.assign rfl rfl (.assign rfl rfl (.nil (.keep (.cons (k := 2) rfl (.cons (k := 3) rfl (.cons (k := 4) rfl (.nil _)))) (.code (.drop 1 (.drop 0 ?_)))))))))
      refine .retQ (LPost.ret fun a w h => ⟨rfl, F_68, none, 0, none, 0, (Fz.t l_12 (Fz.t l_45 (Fz.t l_50 l_69))), (RepSl.nil.mono (Fz.t l_6 (Fz.t l_12 (Fz.t l_45 (Fz.t l_50 l_69))))), (RepSl.nil.mono (Fz.t l_6 (Fz.t l_12 (Fz.t l_45 (Fz.t l_50 l_69))))), h.1.sub (.cons (k := 2) rfl (.cons (k := 3) rfl (.cons (k := 4) rfl (.nil _)))), h.2⟩)
     ·skip
      refine .skip (.code (.seq (.region (.move rfl rfl (.move rfl rfl (.sliceLit (cs := [.string (bs r_67.2.1)]) (zc := [.string (bs ([]))]) rfl Tryz.underlying86 Tryz.sizeOf9 Tryz.zeroValue9 rfl rfl rfl (by kernel_rfl) (by kernel_rfl) (fun b74 F_75 l_76 hb77 => ?_)))))))
      have h78 : RepSl 1 (Ex cStr) F_75 (some ⟨b74, 0, none⟩) 1 ([r_67.2.1]) := RepSl.ofRow hb77 (.cons ok_t9.mono rfl .nil) rfl rfl
      refine .append 0 ok_t9 l_76 rfl Tryz.underlying86 Tryz.underlying86 rfl rfl rfl h78 rfl rfl (fun l_79 p80 k81 e82 => ?_)
      refine .assign rfl rfl (.nil (.keep (.cons (k := 0) rfl (.cons (k := 5) rfl (.cons (k := 6) rfl (.cons (k := 7) rfl (.cons (k := 8) rfl (.cons (k := 9) rfl (.cons (k := 10) rfl (.cons (k := 12) rfl (.nil _))))))))) (.code (.seq (.seq (.region (.assign rfl rfl (.nil (.code (.block ?_))))))))))
      refine .keep (.cons (k := 0) rfl (.cons (k := 5) rfl (.cons (k := 6) rfl (.cons (k := 7) rfl (.cons (k := 8) rfl (.cons (k := 9) rfl (.cons (k := 10) rfl (.cons (k := 12) rfl (.cons (k := 15) rfl (.nil _)))))))))) (.ownUp 1 (Fz.t l_45 (Fz.t l_50 (Fz.t l_69 l_76))) rfl ?_)
      refine .loop (fun (s83 : (List UInt8) × (List Int) × Int) a w => ∃ (F_84 : Fz) (p86 : Option Addr) (k87 : Nat), F_75 ≤ F_84 ∧ Hd 99 [] [(0, (.slice p2 b1.length k3)), (5, (.int .i64 s10.1)), (6, (.string (bs s83.1))), (7, (.slice p86 s83.2.1.length k87)), (8, (.int .i64 s10.2.2.2)), (9, (.int .i64 size17)), (10, (.slice p46 b43.length k47)), (12, (.slice p80 l_79.length k81)), (15, (.int .i64 s83.2.2))] F_84 [ownSl 1 (Ex cStr) F_75 9 p80 k81 l_79, ownSl 1 (Ex (cInt .i64)) F_84 3 p86 k87 s83.2.1, R] a w) (fun b128 e a w => e = .exit 4 ∧ ∃ (F_129 : Fz) (p131 : Option Addr) (k132 : Nat), F_75 ≤ F_129 ∧ Hd 99 [] [(0, (.slice p2 b1.length k3)), (5, (.int .i64 s10.1)), (6, (.string (bs b128.1))), (7, (.slice p131 b128.2.length k132)), (8, (.int .i64 s10.2.2.2)), (9, (.int .i64 size17))] F_129 [ownSl 1 (Ex cStr) F_75 9 p80 k81 l_79, ownSl 1 (Ex (cInt .i64)) F_129 3 p131 k132 b128.2, R] a w) ?_ ?_ ?_
      ·exact fun a w h => ⟨F_75, p13, k14, Fz.r, h.1.sub (.cons (k := 0) rfl (.cons (k := 5) rfl (.cons (k := 6) rfl (.cons (k := 7) rfl (.cons (k := 8) rfl (.cons (k := 9) rfl (.cons (k := 10) rfl (.cons (k := 12) rfl (.cons (k := 15) rfl (.nil _)))))))))), h.2⟩
      ·intro s83 ctl
       refine GC.ex (fun a w ⟨F_84, p86, k87, l_85, hA⟩ => ⟨_, hA, ?_⟩)
       unfold b_wormtubref14_Repair_3
       refine .seq (.seq (.region (.move rfl rfl (.move rfl rfl (.leq rfl rfl rfl (.nil (.code (.cond rfl (fun hb89 => ?_) (fun hb89 => ?_)))))))))
       ·skip
        refine .skip (.code (.seq (.block (.seq (.seq (.keep (.cons (k := 0) rfl (.cons (k := 5) rfl (.cons (k := 6) rfl (.cons (k := 7) rfl (.cons (k := 8) rfl (.cons (k := 9) rfl (.cons (k := 10) rfl (.cons (k := 12) rfl (.cons (k := 15) rfl (.nil _)))))))))) (.drawZ 9 mixedOK (by kernel_rfl) (.move rfl rfl (.move rfl rfl (.bind (fun x90 e91 => ?_)))))))))))
        refine .ownAddr 0 rfl e91 (fun b92 hp93 => ?_)
        refine .idxOwn rfl Tryz.underlying86 Tryz.sizeOf9 hp93 e91 rfl rfl (.loadOwn (off := 0) (Φ := fun v => v = (.string (bs x90))) 0 rfl l_85 rfl Tryz.isAgg9 hp93 e91 rfl rfl (fun vs h => ⟨_, by subst h; exact rfl, rfl⟩) (fun v hv => ?_))
        subst hv
        refine .move rfl rfl (.move rfl rfl (.idx rfl Tryz.underlying86 Tryz.sizeOf9 (h51.mono (Fz.t l_69 (Fz.t l_76 l_85))) rfl rfl (fun x94 b95 o96 T97 fr98 cs99 e100 hm101 hv102 => ?_)))
        refine .loadF rfl Tryz.isAgg9 rfl hm101 (cell_of_take (k := 0) hv102 rfl) (.neqS rfl Tryz.underlying9 rfl rfl (.pend (.nil (.code (.keep (.cons (k := 0) rfl (.cons (k := 5) rfl (.cons (k := 6) rfl (.cons (k := 7) rfl (.cons (k := 8) rfl (.cons (k := 9) rfl (.cons (k := 10) rfl (.cons (k := 12) rfl (.cons (k := 15) rfl (.cons (k := 76) rfl (.nil _))))))))))) ?_)))))
        refine GC.join0 (σ := (List Int)) (fun j114 a w => ∃ (F_115 : Fz) (p117 : Option Addr) (k118 : Nat), F_84 ≤ F_115 ∧ Hd 99 [] [(0, (.slice p2 b1.length k3)), (5, (.int .i64 s10.1)), (6, (.string (bs s83.1))), (7, (.slice p117 j114.length k118)), (8, (.int .i64 s10.2.2.2)), (9, (.int .i64 size17)), (10, (.slice p46 b43.length k47)), (12, (.slice p80 l_79.length k81)), (15, (.int .i64 s83.2.2))] F_115 [ownSl 1 (Ex cStr) F_75 9 p80 k81 l_79, ownSl 1 (Ex (cInt .i64)) F_115 3 p117 k118 j114, R] a w) (fun sj => ?_) (fun j114 hs0 => GE.ex (fun a w ⟨F_115, p117, k118, l_116, hA⟩ => ⟨_, hA, ?_⟩))
        ·skip
         refine .cond rfl (fun hb104 => ?_) (fun hb104 => ?_)
         ·skip
          refine .region (.move rfl rfl (.move rfl rfl (.move rfl rfl (.add rfl rfl rfl (.sliceLit (cs := [.int .i64 (w64 (s10.2.2.2 + s83.2.2))]) (zc := [.int .i64 0]) rfl Tryz.underlying31 Tryz.sizeOf3 Tryz.zeroValue3 rfl rfl rfl (by kernel_rfl) (by kernel_rfl) (fun b105 F_106 l_107 hb108 => ?_))))))
          have h109 : RepSl 1 (Ex (cInt .i64)) F_106 (some ⟨b105, 0, none⟩) 1 ([(w64 (s10.2.2.2 + s83.2.2))]) := RepSl.ofRow hb108 (.cons ok_t3.mono rfl .nil) rfl rfl
          refine .append 1 ok_t3 l_107 rfl Tryz.underlying31 Tryz.underlying31 rfl rfl rfl h109 rfl rfl (fun l_110 p111 k112 e113 => ?_)
          refine .assign rfl rfl (.nil ?_)
          exact .nil fun e a w h => by cases e; exact ⟨rfl, ⟨F_106, p111, k112, l_107, h.1.sub (.cons (k := 0) rfl (.cons (k := 5) rfl (.cons (k := 6) rfl (.cons (k := 7) rfl (.cons (k := 8) rfl (.cons (k := 9) rfl (.cons (k := 10) rfl (.cons (k := 12) rfl (.cons (k := 15) rfl (.nil _)))))))))), h.2⟩⟩
         ·skip
          refine .skip ?_
          exact .nil fun e a w h => by cases e; exact ⟨rfl, ⟨F_84, p86, k87, Fz.r, h.1.sub (.cons (k := 0) rfl (.cons (k := 5) rfl (.cons (k := 6) rfl (.cons (k := 7) rfl (.cons (k := 8) rfl (.cons (k := 9) rfl (.cons (k := 10) rfl (.cons (k := 12) rfl (.cons (k := 15) rfl (.nil _)))))))))), h.2⟩⟩
        refine .code (.region (.move rfl rfl (.move rfl rfl (.move rfl rfl (.bind (fun x120 e121 => ?_))))))
        refine .ownAddr 0 rfl e121 (fun b122 hp123 => ?_)
        refine .idxOwn rfl Tryz.underlying86 Tryz.sizeOf9 hp123 e121 rfl rfl (.loadOwn (off := 0) (Φ := fun v => v = (.string (bs x120))) 0 rfl (Fz.t l_85 l_116) rfl Tryz.isAgg9 hp123 e121 rfl rfl (fun vs h => ⟨_, by subst h; exact rfl, rfl⟩) (fun v hv => ?_))
        subst hv
        refine .catS rfl rfl rfl (fun s124 e125 => ?_)
        refine .assign rfl rfl (.nil (.block (.code (.region (.move rfl rfl (.add rfl rfl rfl (.assignL rfl rfl (fun i126 e127 => ?_))))))))
        refine .nil ?_
        exact .nil (LPost.norm fun a w h => ⟨F_115, p117, k118, (Fz.t l_85 l_116), h.1.sub (.cons (k := 0) rfl (.cons (k := 5) rfl (.cons (k := 6) rfl (.cons (k := 7) rfl (.cons (k := 8) rfl (.cons (k := 9) rfl (.cons (k := 10) rfl (.cons (k := 12) rfl (.cons (k := 15) rfl (.nil _)))))))))), h.2⟩)
       ·skip
        refine .exitOut rfl (LPost.exit fun a w h => ⟨rfl, F_84, p86, k87, l_85, h.1.sub (.cons (k := 0) rfl (.cons (k := 5) rfl (.cons (k := 6) rfl (.cons (k := 7) rfl (.cons (k := 8) rfl (.cons (k := 9) rfl (.nil _))))))), h.2⟩)
      ·intro b128 hb0 hk e a w hD
       obtain ⟨rfl, F_129, p131, k132, l_130, hA⟩ := hD
       refine interp_exit rfl (GE.app ?_ hk a w hA)
       refine .code (.seq (.region (.move rfl rfl (.move rfl rfl (.add rfl rfl rfl (.add rfl rfl rfl (.assignL rfl rfl (fun row134 e135 => ?_))))))))
       refine .nil (.code (.region (.move rfl rfl (.move rfl rfl (.sub rfl rfl rfl (.assignL rfl rfl (fun n_136 e137 => ?_)))))))
       refine .nil (.block (.drop 0 ?_))
       exact .nil (LPost.norm fun a w h => ⟨F_129, p131, k132, (Fz.t l_12 (Fz.t l_45 (Fz.t l_50 (Fz.t l_69 (Fz.t l_76 l_130))))), h.1.sub (.cons (k := 0) rfl (.cons (k := 5) rfl (.cons (k := 6) rfl (.cons (k := 7) rfl (.cons (k := 8) rfl (.nil _)))))), h.2⟩)
   ·skip
    refine .exitOut rfl (LPost.exit fun a w h => ⟨rfl, F_11, p13, k14, l_12, h.1.sub (.cons (k := 6) rfl (.cons (k := 7) rfl (.nil _))), h.2⟩)
  ·intro b138 hb0 hk e a w hD
   rcases b138 with b138 | b138
   ·skip
    obtain ⟨rfl, F_139, p141, k142, l_140, hA⟩ := hD
    refine interp_exit rfl (GE.app ?_ hk a w hA)
    refine .code (.seq (.region (.move rfl rfl (.strBytesO rfl Tryz.underlying9 Tryz.underlying25 Tryz.underlying5 rfl (fun s152 F_153 p154 k155 e156 l_157 h158 => ?_)))))
    refine .move rfl rfl (.assign rfl rfl (.assign rfl rfl (.assign rfl rfl (.nil (.code (.freezeSl 0 rfl l_157 (fun F_159 l_160 h161 => ?_)))))))
    exact .ret0 Tryz.results22 (.tmp rfl (.tmp rfl (.tmp rfl (.nil)))) (i := 0) rfl (Fz.t l_6 (Fz.t l_140 (Fz.t l_157 l_160))) ⟨p154, k155, p141, k142, rfl, (h158.mono l_160), h161⟩
   obtain ⟨rfl, F_144, p146, k147, p149, k150, l_145, h148, h151, hA⟩ := hD
   exact interp_ret ((ret_post0 Tryz.results22 (.tmp rfl (.tmp rfl (.tmp rfl (.nil)))) (i := 0) rfl (Fz.t l_6 l_145) ⟨p146, k147, p149, k150, rfl, h148, h151⟩) hk a w hA)
noncomputable def m_wormtublaw14_FileReads (b1 : (List Int)) : Option Bool :=
 if (decide ((b1.length : Int) > 4000)) then ((m_wormtublaw14_alive).bind fun r_8 => some r_8) else ((m_file_Read b1).bind fun r_11 => (m_wormtubref14_Read b1).bind fun r_17 => (m_file_Repair b1).bind fun r_23 => (m_wormtubref14_Repair b1).bind fun r_32 => (m_wormtubref14_Same r_11.1 r_17.1).bind fun r_41 => (if ((r_41 && (r_11.2 == r_17.2)) && ((u8s r_23.1) == (u8s r_32.1))) then ((m_wormtubref14_Ints r_23.2.1 r_32.2.1).bind fun r_53 => some r_53) else some false).bind fun z57 => (if (z57 && (r_23.2.2 == r_32.2.2)) then ((m_wormtublaw14_alive).bind fun r_66 => some r_66) else some false).bind fun z70 => some z70)
set_option maxRecDepth 100000 in
set_option maxHeartbeats 4000000 in
theorem c_wormtublaw14_FileReads (F0 : Fz) (hT : TabsP F0) (b1 : (List Int)) (p2 : Option Addr) (k3 : Nat) (h4 : RepSl 1 (Ex (cInt .u8)) F0 p2 k3 b1) : CT0 Tryz.prog 4 [(.slice p2 b1.length k3)].toArray F0 (m_wormtublaw14_FileReads b1) (fun r _ v => v = (.bool r)) := by
 refine CT0.enter Tryz.func4 rfl Tryz.ntmps4 rfl fun r R => ?_
 unfold m_wormtublaw14_FileReads
 refine .seq (.region (.assign rfl rfl (.nil (.code (.seq (.seq (.region (.move rfl rfl (.lenS rfl rfl Tryz.underlying25 rfl (.gtr rfl rfl rfl (.nil ?_)))))))))))
 refine .code (.cond rfl (fun hb5 => ?_) (fun hb5 => ?_))
 ·skip
  refine .seq (.region (.call0 rfl Tryz.call16 rfl rfl rfl (c_wormtublaw14_alive _ (hT.mono Fz.r)) ?_))
  rintro r_8 F_6 _ - l_7 rfl
  refine .assign rfl rfl (.nil (.code ?_))
  exact .ret0 Tryz.results4 (.tmp rfl (.nil)) (i := 0) rfl l_7 rfl
 ·skip
  refine .skip (.code (.seq (.region (.move rfl rfl (.call0 rfl Tryz.call19 rfl rfl rfl (c_file_Read _ (hT.mono Fz.r) b1 p2 k3 h4) ?_)))))
  rintro r_11 F_9 _ - l_10 ⟨p12, k13, rfl, h14⟩
  refine .move rfl rfl (.extract rfl rfl rfl (.extract rfl rfl rfl (.assign rfl rfl (.assign rfl rfl (.nil (.code (.seq (.region (.move rfl rfl (.call0 rfl Tryz.call20 rfl rfl rfl (c_wormtubref14_Read _ b1 p2 k3 (h4.mono l_10)) ?_))))))))))
  rintro r_17 F_15 _ - l_16 ⟨p18, k19, rfl, h20⟩
  refine .move rfl rfl (.extract rfl rfl rfl (.extract rfl rfl rfl (.assign rfl rfl (.assign rfl rfl (.nil (.code (.seq (.region (.move rfl rfl (.call0 rfl Tryz.call21 rfl rfl rfl (c_file_Repair _ (hT.mono (Fz.t l_10 l_16)) b1 p2 k3 (h4.mono (Fz.t l_10 l_16))) ?_))))))))))
  rintro r_23 F_21 _ - l_22 ⟨p24, k25, p27, k28, rfl, h26, h29⟩
  refine .move rfl rfl (.extract rfl rfl rfl (.extract rfl rfl rfl (.extract rfl rfl rfl (.assign rfl rfl (.assign rfl rfl (.assign rfl rfl (.nil (.keep (.cons (k := 0) rfl (.cons (k := 3) rfl (.cons (k := 4) rfl (.cons (k := 5) rfl (.cons (k := 6) rfl (.cons (k := 7) rfl (.cons (k := 8) rfl (.cons (k := 9) rfl (.nil _))))))))) (.code (.seq (.region ?_)))))))))))
  refine .move rfl rfl (.call0 rfl Tryz.call22 rfl rfl rfl (c_wormtubref14_Repair _ b1 p2 k3 (h4.mono (Fz.t l_10 (Fz.t l_16 l_22)))) ?_)
  rintro r_32 F_30 _ - l_31 ⟨p33, k34, p36, k37, rfl, h35, h38⟩
  refine .move rfl rfl (.extract rfl rfl rfl (.extract rfl rfl rfl (.extract rfl rfl rfl (.assign rfl rfl (.assign rfl rfl (.assign rfl rfl (.nil (.code (.seq (.region (.move rfl rfl ?_)))))))))))
  refine .move rfl rfl (.call0 rfl Tryz.call23 rfl rfl rfl (c_wormtubref14_Same _ r_11.1 p12 k13 (h14.mono (Fz.t l_16 (Fz.t l_22 l_31))) r_17.1 p18 k19 (h20.mono (Fz.t l_22 l_31))) ?_)
  rintro r_41 F_39 _ - l_40 rfl
  refine .move rfl rfl (.andP (b := r_41) (b' := (r_11.2 == r_17.2)) 4 46 (fun hb42 => ?_) (fun hb43 => ?_) (fun F_44 l_45 => ?_))
  ·skip
   refine .onH hb42 rfl rfl (.move rfl rfl (.onH hb42 rfl rfl (.move rfl rfl (.onH hb42 rfl rfl (.eql rfl rfl rfl (.pickTH hb42 rfl rfl rfl ?_))))))
   exact .fin 4 rfl rfl (by kernel_rfl) Fz.r
  ·skip
   refine .offH hb43 rfl rfl rfl (.offH hb43 rfl rfl rfl (.offH hb43 rfl rfl rfl (.pickFH hb43 rfl rfl rfl ?_)))
   exact .fin 4 rfl rfl (by kernel_rfl) Fz.r
  refine .move rfl rfl (.andP (b := (r_41 && (r_11.2 == r_17.2))) (b' := ((u8s r_23.1) == (u8s r_32.1))) 6 53 (fun hb46 => ?_) (fun hb47 => ?_) (fun F_48 l_49 => ?_))
  ·skip
   refine .onH hb46 rfl rfl (.move rfl rfl (.onH hb46 rfl rfl (.bytesStr rfl Tryz.underlying25 Tryz.underlying5 Tryz.underlying9 (h26.mono (Fz.t l_31 (Fz.t l_40 l_45))) rfl (.onH hb46 rfl rfl (.move rfl rfl (.onH hb46 rfl rfl (.bytesStr rfl Tryz.underlying25 Tryz.underlying5 Tryz.underlying9 (h35.mono (Fz.t l_40 l_45)) rfl (.onH hb46 rfl rfl (.eqlS rfl Tryz.underlying9 rfl rfl (.pickTH hb46 rfl rfl rfl ?_))))))))))
   exact .fin 6 rfl rfl (by kernel_rfl) Fz.r
  ·skip
   refine .offH hb47 rfl rfl rfl (.offH hb47 rfl rfl rfl (.offH hb47 rfl rfl rfl (.offH hb47 rfl rfl rfl (.offH hb47 rfl rfl rfl (.pickFH hb47 rfl rfl rfl ?_)))))
   exact .fin 6 rfl rfl (by kernel_rfl) Fz.r
  refine .move rfl rfl (.andM (b := ((r_41 && (r_11.2 == r_17.2)) && ((u8s r_23.1) == (u8s r_32.1)))) 4 58 (fun hb50 z58 => ?_) (fun hb54 => ?_) (fun z57 F_55 l_56 => ?_))
  ·skip
   refine .onH hb50 rfl rfl (.move rfl rfl (.onH hb50 rfl rfl (.move rfl rfl (.onH hb50 rfl rfl (.call0 rfl Tryz.call24 rfl rfl rfl (c_wormtubref14_Ints _ r_23.2.1 p27 k28 (h29.mono (Fz.t l_31 (Fz.t l_40 (Fz.t l_45 l_49)))) r_32.2.1 p36 k37 (h38.mono (Fz.t l_40 (Fz.t l_45 l_49)))) ?_)))))
   rintro r_53 F_51 _ - l_52 rfl
   refine .pickTH hb50 rfl rfl rfl ?_
   exact .finZ 4 rfl rfl (by kernel_rfl) l_52
  ·skip
   refine .offH hb54 rfl rfl rfl (.offH hb54 rfl rfl rfl (.offH hb54 rfl rfl rfl (.pickFH hb54 rfl rfl rfl ?_)))
   exact .fin 4 rfl rfl (by kernel_rfl) Fz.r
  refine .move rfl rfl (.andP (b := z57) (b' := (r_23.2.2 == r_32.2.2)) 4 63 (fun hb59 => ?_) (fun hb60 => ?_) (fun F_61 l_62 => ?_))
  ·skip
   refine .onH hb59 rfl rfl (.move rfl rfl (.onH hb59 rfl rfl (.move rfl rfl (.onH hb59 rfl rfl (.eql rfl rfl rfl (.pickTH hb59 rfl rfl rfl ?_))))))
   exact .fin 4 rfl rfl (by kernel_rfl) Fz.r
  ·skip
   refine .offH hb60 rfl rfl rfl (.offH hb60 rfl rfl rfl (.offH hb60 rfl rfl rfl (.pickFH hb60 rfl rfl rfl ?_)))
   exact .fin 4 rfl rfl (by kernel_rfl) Fz.r
  refine .move rfl rfl (.andM (b := (z57 && (r_23.2.2 == r_32.2.2))) 2 66 (fun hb63 z71 => ?_) (fun hb67 => ?_) (fun z70 F_68 l_69 => ?_))
  ·skip
   refine .onH hb63 rfl rfl (.call0 rfl Tryz.call16 rfl rfl rfl (c_wormtublaw14_alive _ (hT.mono (Fz.t l_10 (Fz.t l_16 (Fz.t l_22 (Fz.t l_31 (Fz.t l_40 (Fz.t l_45 (Fz.t l_49 (Fz.t l_56 l_62)))))))))) ?_)
   rintro r_66 F_64 _ - l_65 rfl
   refine .pickTH hb63 rfl rfl rfl ?_
   exact .finZ 2 rfl rfl (by kernel_rfl) l_65
  ·skip
   refine .offH hb67 rfl rfl rfl (.pickFH hb67 rfl rfl rfl ?_)
   exact .fin 2 rfl rfl (by kernel_rfl) Fz.r
  refine .assign rfl rfl (.nil (.keep (.cons (k := 2) rfl (.nil _)) (.code ?_)))
  exact .ret0 Tryz.results4 (.tmp rfl (.nil)) (i := 0) rfl (Fz.t l_10 (Fz.t l_16 (Fz.t l_22 (Fz.t l_31 (Fz.t l_40 (Fz.t l_45 (Fz.t l_49 (Fz.t l_56 (Fz.t l_62 l_69))))))))) rfl
end Go.Proofs.YthnlglmjffdpfaaGreatDoor
end

section
namespace Go.Proofs.YthnlglmjffdpfaaGreatDoor
open Go.Dec
theorem rowsOf_doc (n : Nat) (_h : n ≤ 1000000000) : (∃ k, k ≤ 1024 ∧ n = 96 * (k + (k + 7) / 8) ∧ m_wormtubref14_rowsOf (n : Int) = some (k : Int)) ∨ ((∀ k, k ≤ 1024 → n ≠ 96 * (k + (k + 7) / 8)) ∧ m_wormtubref14_rowsOf (n : Int) = some (-1)) := by
  have hh := loop_chk (body := b_wormtubref14_rowsOf_1 (n : Int)) (good := (.inl () : Unit ⊕ Int)) (fun k => .inr (k : Int)) (fun i => decide (n ≠ 96 * (i + (i + 7) / 8))) 1025
    (fun i hi => by
      have h1 : w64 (96 * (w64 ((i : Int) + (w64 (Int.tdiv (w64 ((w64 ((i : Int) + 8)) - 1)) 8))))) = ((96 * (i + (i + 7) / 8) : Nat) : Int) := by
        rw [w64_id (n := (i : Int) + 8) (by omega) (by omega), w64_id (n := (i : Int) + 8 - 1) (by omega) (by omega), Int.tdiv_eq_ediv_of_nonneg (by omega), w64_id (n := ((i : Int) + 8 - 1) / 8) (by omega) (by omega), w64_id (n := (i : Int) + ((i : Int) + 8 - 1) / 8) (by omega) (by omega), w64_id (by omega) (by omega)]
        omega
      unfold b_wormtubref14_rowsOf_1
      rw [if_pos (by rw [decide_eq_true_eq]; omega), h1]
      by_cases e : n = 96 * (i + (i + 7) / 8)
      · rw [if_pos (by rw [beq_iff_eq]; omega), if_neg (by simpa using e)]
      · rw [if_neg (by rw [beq_iff_eq]; omega), if_pos (by simpa using e)]
        unfold bindv
        rw [nx (by omega)])
    (by unfold b_wormtubref14_rowsOf_1; rw [if_neg (by decide)])
  unfold m_wormtubref14_rowsOf
  rcases hh with ⟨h1, h2⟩ | ⟨k, h1, h2, h3, h4⟩
  · right
    exact ⟨fun k hk => by simpa using h1 k (by omega), bind_of h2 rfl⟩
  · left
    exact ⟨k, by omega, by simpa using h2, bind_of h4 rfl⟩
theorem split_doc (bs : Bytes) (h : bs.length ≤ 1000000000) : (∃ k rs, k ≤ 1024 ∧ splitS bs = some rs ∧ rs.length = k + (k + 7) / 8 ∧ m_wormtubref14_rowsOf ((i8s bs).length : Int) = some (k : Int)) ∨ (splitS bs = none ∧ m_wormtubref14_rowsOf ((i8s bs).length : Int) = some (-1)) := by
  rw [i8s_len]
  rcases rowsOf_doc bs.length h with ⟨k, h1, h2, h3⟩ | ⟨h1, h2⟩
  · left
    refine ⟨k, rows96 bs, h1, ?_, by rw [rows96_len]; omega, h3⟩
    unfold splitS
    rw [if_pos (by omega)]
  · right
    refine ⟨?_, h2⟩
    unfold splitS
    rw [if_neg]
    intro hc
    exact h1 (bs.length / 96 - (bs.length / 96 + 8) / 9) (by omega) (by omega)
theorem row_doc {rs : List Bytes} (h96 : ∀ r ∈ rs, r.length = 96) {i : Nat} (hi : i < rs.length) (hs : rs.length ≤ 100000) : w64 (96 * (i : Int)) = ((96 * i : Nat) : Int) ∧ w64 (96 * (w64 ((i : Int) + 1))) = ((96 * i + 96 : Nat) : Int) ∧ sliceL (i8s rs.flatten) ((96 * i : Nat) : Int) ((96 * i + 96 : Nat) : Int) = some (i8s (rs.getD i [])) := by
  have e := flat96 h96
  refine ⟨by rw [w64_id (by omega) (by omega)]; omega, by rw [nx (by omega), w64_id (by omega) (by omega)]; omega, ?_⟩
  rw [i8s_slice (by omega) (by omega), show 96 * i + 96 - 96 * i = 96 by omega, flat_cut h96 hi]
theorem read_step {rs : List Bytes} (h96 : ∀ r ∈ rs, r.length = 96) (hs : rs.length ≤ 100000) {i : Nat} (hi : i < rs.length) (t : List ApiBooked) (ht : t.length ≤ 100000) :
    b_wormtubref14_Read_1 (i8s rs.flatten) (t, (i : Int)) = if i % 9 = 8 ∨ i + 1 = rs.length then some (.next (t, ((i + 1 : Nat) : Int))) else match rightS (rs.getD i []) with
      | some x => some (.next (t ++ [x], ((i + 1 : Nat) : Int)))
      | none => some (.done (.inr ([], 8))) := by
  obtain ⟨a1, a2, a3⟩ := row_doc h96 hi hs
  have e := flat96 h96
  have hr := h96 _ (getD_in (d := ([] : Bytes)) hi)
  have hm : Int.tmod (i : Int) 9 = ((i % 9 : Nat) : Int) := by rw [Int.tmod_eq_emod_of_nonneg (by omega)]; rfl
  have hn : w64 ((i : Int) + 1) = ((i + 1 : Nat) : Int) := nx (by omega)
  unfold b_wormtubref14_Read_1
  simp only [a1, a2, a3, hm, i8s_len, e]
  rw [if_pos (by rw [decide_eq_true_eq]; omega)]
  by_cases hc : i % 9 = 8 ∨ i + 1 = rs.length
  · rw [if_pos (by rw [Bool.or_eq_true, beq_iff_eq, beq_iff_eq]; omega), if_pos hc]
    unfold bindv
    rw [hn]
  · rw [if_neg (by rw [Bool.or_eq_true, beq_iff_eq, beq_iff_eq]; omega), if_neg hc]
    simp only [Option.bind_some, u8_i8]
    refine bind_of (Right_doc hr) ?_
    cases rightS (rs.getD i []) with
    | none => rfl
    | some x =>
      rw [if_neg (by simp [rightP])]
      refine bind_of (appO_some' (by rw [List.length_singleton]; omega)) ?_
      unfold bindv
      rw [hn]; rfl
theorem read_stop {rs : List Bytes} (h96 : ∀ r ∈ rs, r.length = 96) (hs : rs.length ≤ 100000) (t : List ApiBooked) : b_wormtubref14_Read_1 (i8s rs.flatten) (t, (rs.length : Int)) = some (.done (.inl t)) := by
  have e := flat96 h96
  unfold b_wormtubref14_Read_1
  refine if_neg ?_
  rw [decide_eq_true_eq, i8s_len, e]
  show ¬ (w64 (96 * (rs.length : Int)) < _)
  rw [w64_id (by omega) (by omega)]; omega
theorem read_any {rs : List Bytes} (h96 : ∀ r ∈ rs, r.length = 96) (hs : rs.length ≤ 10000) : ∀ (d i : Nat) (t : List ApiBooked), i + d = rs.length → t.length ≤ i →
    loopM (b_wormtubref14_Read_1 (i8s rs.flatten)) (t, (i : Int)) = some (.inr ([], 8)) ∨ ∃ L, loopM (b_wormtubref14_Read_1 (i8s rs.flatten)) (t, (i : Int)) = some (.inl L)
  | 0, i, t, hi, ht => by
    have : i = rs.length := by omega
    subst this
    exact .inr ⟨t, by rw [loopM_eq, read_stop h96 (by omega)]⟩
  | d + 1, i, t, hi, ht => by
    have h := read_step h96 (by omega) (i := i) (by omega) t (by omega)
    by_cases hc : i % 9 = 8 ∨ i + 1 = rs.length
    · rw [if_pos hc] at h
      rw [loopM_eq, h]
      exact read_any h96 hs d (i + 1) t (by omega) (by omega)
    · rw [if_neg hc] at h
      cases hr : rightS (rs.getD i []) with
      | none =>
        rw [hr] at h
        rw [loopM_eq, h]
        exact .inl rfl
      | some x =>
        rw [hr] at h
        rw [loopM_eq, h]
        exact read_any h96 hs d (i + 1) (t ++ [x]) (by omega) (by rw [List.length_append, List.length_singleton]; omega)
theorem read_back {l : List ApiBooked} (hb : okBook l = true) : loopM (b_wormtubref14_Read_1 (i8s (writeS l).flatten)) ([], 0) = some (.inl l) := by
  obtain ⟨h1, hok⟩ := okBook_iff.1 hb
  have h96 := write_96 hok
  have hw := writeS_len l
  obtain ⟨t, ht, hq⟩ := loopM_upto (body := b_wormtubref14_Read_1 (i8s (writeS l).flatten)) (fun i (t : List ApiBooked) => (t, (i : Int))) (fun t => (.inl t : List ApiBooked ⊕ (List ApiBooked × Int))) (fun i t => t = l.take (i - i / 9)) (writeS l).length
    (fun i t hi ht => by
      subst ht
      refine ⟨_, ?_, rfl⟩
      have h := read_step h96 (by omega) hi (l.take (i - i / 9)) (by rw [List.length_take]; omega)
      rw [h]
      by_cases hc : i % 9 = 8 ∨ i + 1 = (writeS l).length
      · rw [if_pos hc]
        congr 3
        rcases hc with hc | hc
        · congr 1; omega
        · rw [List.take_of_length_le (by omega), List.take_of_length_le (by omega)]
      · rw [if_neg hc]
        have hlt : i - i / 9 < l.length := by omega
        have hat := write_at l.length l (i - i / 9) (Nat.le_refl _) hlt
        rw [show i - i / 9 + (i - i / 9) / 8 = i by omega] at hat
        rw [hat, rightS_ok (hok _ (getD_in hlt))]
        simp only
        rw [show i + 1 - (i + 1) / 9 = i - i / 9 + 1 by omega, List.take_add_one, getD_get (d := (⟨0, []⟩ : ApiBooked)) hlt]; rfl)
    (fun t _ => read_stop h96 (by omega) t) (writeS l).length 0 [] (by omega) (by simp)
  rw [ht, List.take_of_length_le (by omega)] at hq
  exact hq
theorem Read_doc (bs : Bytes) (hl : bs.length ≤ 1000000) : m_wormtubref14_Read (i8s bs) = some (readP bs) := by
  unfold m_wormtubref14_Read
  rcases split_doc bs (by omega) with ⟨k, rs, h1, h2, h3, h4⟩ | ⟨h1, h2⟩
  · obtain ⟨h5, h6, _, _, _⟩ := splitS_some h2
    have h96 : ∀ r ∈ rs, r.length = 96 := by rw [h5]; exact rows96_all bs
    have hfl : rs.flatten = bs := by rw [h5]; exact flat_rows96 h6
    refine bind_of h4 ?_
    rw [if_neg (by rw [decide_eq_true_eq]; omega)]
    rcases read_cases bs with e | ⟨l, hb, e, hf⟩
    · rw [e]
      have ha := read_any h96 (by omega) rs.length 0 [] (by omega) (by simp)
      rw [hfl] at ha
      rcases ha with ha | ⟨L, ha⟩
      · exact bind_of ha rfl
      · refine bind_of ha ?_
        show (m_wormtubref14_Write L).bind _ = _
        refine bind_of (Write_doc L) ?_
        rw [u8_eq]
        have hne : (writeP L).1 ≠ bs := by
          intro he
          unfold writeP at he
          split at he
          · subst he
            have : readP [] = ([], 0) := by unfold readP splitS; rfl
            rw [this] at e; cases e
          · split at he
            · rename_i hbL
              rw [← he, read_write hbL] at e
              have := (Prod.mk.inj e).2
              cases this
            · subst he
              have : readP [] = ([], 0) := by unfold readP splitS; rfl
              rw [this] at e; cases e
        rw [decide_eq_false hne]; rfl
    · rw [e, ← hf]
      refine bind_of (read_back hb) ?_
      show (m_wormtubref14_Write l).bind _ = _
      have hW : m_wormtubref14_Write l = some (i8s (writeS l).flatten, 0) := by
        rw [Write_doc]; unfold writeP
        rw [if_neg (by have := (okBook_iff.1 hb).1; omega), if_pos hb]
      refine bind_of hW ?_
      rw [u8_eq]; simp
  · refine bind_of h2 ?_
    rw [if_pos (by decide)]
    unfold readP
    rw [h1]
end Go.Proofs.YthnlglmjffdpfaaGreatDoor
end

section
namespace Go.Proofs.YthnlglmjffdpfaaGreatDoor
open Go.Dec
def otherS (b : Option Nat) (l : List Bytes) : List Bytes := match b with
  | none => l
  | some k => l.eraseIdx k
noncomputable def mendO (own : List Bytes) (g : Bytes) : Option (List Bytes) :=
  (scanS own own.length).bind fun b => match b with
    | none => some own
    | some k => if (rightS (lostS (own.eraseIdx k) g)).isSome then some (own.set k (lostS (own.eraseIdx k) g)) else none
theorem scan_app (own : List Bytes) (g : Bytes) : ∀ n, n ≤ own.length → scanS (own ++ [g]) n = scanS own n
  | 0, _ => rfl
  | n + 1, h => by
    simp only [scanS]
    rw [scan_app own g n (by omega), getD_left (by omega)]
theorem mend_split (own : List Bytes) (g : Bytes) : mendG (own ++ [g]) = (mendO own g).bind fun o => some (o ++ [guardS o]) := by
  unfold mendG mendO
  have hn : (own ++ [g]).length - 1 = own.length := by simp
  have hg : (own ++ [g]).getD own.length [] = g := by rw [getD_right (Nat.le_refl _), Nat.sub_self]; rfl
  have hset : ∀ (o : List Bytes), o.length = own.length → (o ++ [g]).set own.length (guardS ((o ++ [g]).take own.length)) = o ++ [guardS o] := by
    intro o e
    rw [List.take_left' e, List.set_append_right _ _ (by omega), e, Nat.sub_self]; rfl
  rw [hn, scan_app own g own.length (Nat.le_refl _)]
  cases hs : scanS own own.length with
  | none => rfl
  | some b =>
    cases b with
    | none => simp only [Option.bind_some, fillS]; rw [hset own rfl]
    | some k =>
      have hk := scan_lt hs
      simp only [Option.bind_some, fillS]
      rw [List.take_left' rfl, hg]
      split
      · simp only [Option.bind_some]
        rw [List.set_append_left _ _ hk, hset _ (by rw [List.length_set])]
      · rfl
theorem other_snoc {b : Option Nat} {l : List Bytes} {x : Bytes} (h : ∀ k, b = some k → k < l.length) : otherS b (l ++ [x]) = otherS b l ++ [x] := by
  cases b with
  | none => rfl
  | some k => exact List.eraseIdx_append_of_lt_length (h k rfl) _
theorem mend1_doc {rows : List Bytes} (h96 : ∀ r ∈ rows, r.length = 96) (hl : rows.length ≤ 1000) :
    (∃ b, scanS rows rows.length = some b ∧ loopM (b_wormtubref14_mend_1 rows) (-1, [], 0) = some (.inl (badI b, otherS b rows))) ∨ (scanS rows rows.length = none ∧ loopM (b_wormtubref14_mend_1 rows) (-1, [], 0) = some (.inr ([], false))) := by
  have key : ∀ (d i : Nat) (b : Option Nat), i + d = rows.length → scanS rows i = some b →
      (∃ b', scanS rows rows.length = some b' ∧ loopM (b_wormtubref14_mend_1 rows) (badI b, otherS b (rows.take i), (i : Int)) = some (.inl (badI b', otherS b' rows))) ∨ (scanS rows rows.length = none ∧ loopM (b_wormtubref14_mend_1 rows) (badI b, otherS b (rows.take i), (i : Int)) = some (.inr ([], false))) := by
    intro d
    induction d with
    | zero =>
      intro i b hi hs
      have : i = rows.length := by omega
      subst this
      left
      refine ⟨b, hs, ?_⟩
      rw [loopM_eq, List.take_of_length_le (Nat.le_refl _)]
      have : b_wormtubref14_mend_1 rows (badI b, otherS b rows, (rows.length : Int)) = some (.done (.inl (badI b, otherS b rows))) := by
        unfold b_wormtubref14_mend_1
        exact if_neg (by simp)
      rw [this]
    | succ d ih =>
      intro i b hi hs
      have hr := h96 _ (getD_in (d := ([] : Bytes)) (i := i) (l := rows) (by omega))
      have hix : idxL rows (i : Int) = some (rows.getD i []) := by rw [idxL_nat, getD_get (d := ([] : Bytes)) (by omega)]
      have hn : w64 ((i : Int) + 1) = ((i + 1 : Nat) : Int) := nx (by omega)
      have hlt : ∀ k, b = some k → k < (rows.take i).length := by
        intro k e
        rw [e] at hs
        have := scan_lt hs
        rw [List.length_take]; omega
      have hol : (otherS b (rows.take i)).length ≤ i := by
        have : (rows.take i).length ≤ i := by rw [List.length_take]; omega
        cases b with
        | none => exact this
        | some k => exact Nat.le_trans (List.length_eraseIdx_le _ _) this
      have hstep : b_wormtubref14_mend_1 rows (badI b, otherS b (rows.take i), (i : Int)) = if (rightS (rows.getD i [])).isSome then some (.next (badI b, otherS b (rows.take (i + 1)), ((i + 1 : Nat) : Int))) else if decide (badI b ≥ 0) then some (.done (.inr ([], false))) else some (.next ((i : Int), otherS b (rows.take i), ((i + 1 : Nat) : Int))) := by
        unfold b_wormtubref14_mend_1
        rw [if_pos (by rw [decide_eq_true_eq]; show (i : Int) < _; omega)]
        refine bind_of hix (bind_of (Right_doc hr) ?_)
        cases hq : rightS (rows.getD i []) with
        | some x =>
          refine (if_pos rfl).trans (Eq.trans ?_ (if_pos rfl).symm)
          refine bind_of hix (bind_of (appO_some' (by rw [List.length_singleton]; show (otherS b (rows.take i)).length + 1 ≤ _; omega)) ?_)
          unfold bindv
          show some (Ctl.next (badI b, otherS b (rows.take i) ++ [rows.getD i []], w64 ((i : Int) + 1))) = _
          rw [hn, ← other_snoc hlt, List.take_add_one, getD_get (d := ([] : Bytes)) (show i < rows.length by omega)]; rfl
        | none =>
          refine (if_neg (by simp [rightP])).trans (Eq.trans ?_ (if_neg (by simp)).symm)
          unfold bindv
          show (if decide (badI b ≥ 0) then _ else some (Ctl.next ((i : Int), otherS b (rows.take i), w64 ((i : Int) + 1)))) = _
          rw [hn]
      have hs' : scanS rows (i + 1) = if (rightS (rows.getD i [])).isSome then some b else nextB b i := by
        simp only [scanS, hs, Option.bind_some]
      rw [loopM_eq, hstep]
      by_cases e : (rightS (rows.getD i [])).isSome = true
      · rw [if_pos e] at hs' ⊢
        exact ih (i + 1) b (by omega) hs'
      · rw [if_neg e] at hs' ⊢
        cases b with
        | none =>
          have : decide (badI none ≥ 0) = false := by simp [badI]
          rw [this]
          simp only [Bool.false_eq_true, if_false]
          have hh := ih (i + 1) (some i) (by omega) hs'
          have ho : otherS (some i) (rows.take (i + 1)) = otherS none (rows.take i) := by
            show (rows.take (i + 1)).eraseIdx i = rows.take i
            rw [List.take_add_one, getD_get (d := ([] : Bytes)) (by omega)]
            have hlen : (rows.take i).length = i := by rw [List.length_take]; omega
            rw [List.eraseIdx_append_of_length_le (by omega), hlen, Nat.sub_self]
            simp
          rw [ho] at hh
          exact hh
        | some k =>
          right
          have : decide (badI (some k) ≥ 0) = true := by simp [badI]
          rw [this]
          refine ⟨?_, rfl⟩
          have := scan_none (n := i + 1) (by simpa [nextB] using hs') d
          rwa [show i + 1 + d = rows.length by omega] at this
  have := key rows.length 0 none (by omega) rfl
  exact this
theorem mend_doc {rows : List Bytes} {g : Bytes} (h96 : ∀ r ∈ rows, r.length = 96) (hl : rows.length ≤ 8) (hg : g.length = 96) :
    m_wormtubref14_mend rows g = some (match mendO rows g with | none => ([], [], false) | some o => (o, guardS o, true)) := by
  unfold m_wormtubref14_mend bindv mendO
  rcases mend1_doc h96 (by omega) with ⟨b, hs, hq⟩ | ⟨hs, hq⟩
  · rw [hs]
    simp only [Option.bind_some]
    refine bind_of hq ?_
    show ((appO [] rows).bind _) = _
    refine bind_of (append_nil (by omega)) ?_
    cases b with
    | none =>
      refine (if_neg (by simp [badI])).trans ?_
      exact bind_of (guard_doc h96 (by omega)) rfl
    | some k =>
      have hk := scan_lt hs
      have he96 : ∀ r ∈ rows.eraseIdx k, r.length = 96 := fun r hr => h96 r (List.mem_of_mem_eraseIdx hr)
      have hel : (rows.eraseIdx k).length ≤ 8 := by rw [List.length_eraseIdx_of_lt hk]; omega
      have hll := lostS_len (rows.eraseIdx k) g
      refine (if_pos (by simp [badI])).trans ?_
      refine bind_of (lost_doc he96 hel hg) ?_
      have hik : idxL rows (badI (some k)) = some (rows.getD k []) := by
        show idxL rows (k : Int) = _
        rw [idxL_nat, getD_get (d := ([] : Bytes)) hk]
      have hik2 : idxL (rows.set k (lostS (rows.eraseIdx k) g)) (badI (some k)) = some (lostS (rows.eraseIdx k) g) := by
        show idxL _ (k : Int) = _
        rw [idxL_nat, getD_get (d := ([] : Bytes)) (by rw [List.length_set]; exact hk), getD_set, if_pos ⟨rfl, hk⟩]
      refine bind_of hik ?_
      show (idxL (rows.set k (lostS (rows.eraseIdx k) g)) (badI (some k))).bind _ = _
      refine bind_of hik2 (bind_of (Right_doc hll) ?_)
      show _ = some (match (if (rightS (lostS (rows.eraseIdx k) g)).isSome then some (rows.set k (lostS (rows.eraseIdx k) g)) else none) with | none => ([], [], false) | some o => (o, guardS o, true))
      cases hr : rightS (lostS (rows.eraseIdx k) g) with
      | none => rfl
      | some x =>
        refine (if_neg (by simp [rightP])).trans ?_
        refine bind_of (guard_doc (fun r hr' => ?_) (by rw [List.length_set]; omega)) rfl
        rcases List.mem_or_eq_of_mem_set hr' with e | e
        · exact h96 r e
        · rw [e]; exact hll
  · rw [hs]
    exact bind_of hq rfl
theorem mendO_len {rows o : List Bytes} {g : Bytes} (h : mendO rows g = some o) : o.length = rows.length := by
  unfold mendO at h
  cases hs : scanS rows rows.length with
  | none => rw [hs] at h; cases h
  | some b =>
    rw [hs] at h
    cases b with
    | none => simp only [Option.bind_some, Option.some.injEq] at h; rw [h]
    | some k =>
      simp only [Option.bind_some] at h
      split at h
      · simp only [Option.some.injEq] at h; rw [← h, List.length_set]
      · cases h
theorem mendO_96 {rows o : List Bytes} {g : Bytes} (h96 : ∀ r ∈ rows, r.length = 96) (h : mendO rows g = some o) : ∀ r ∈ o, r.length = 96 := by
  unfold mendO at h
  cases hs : scanS rows rows.length with
  | none => rw [hs] at h; cases h
  | some b =>
    rw [hs] at h
    cases b with
    | none => simp only [Option.bind_some, Option.some.injEq] at h; rw [← h]; exact h96
    | some k =>
      simp only [Option.bind_some] at h
      split at h
      · simp only [Option.some.injEq] at h
        rw [← h]
        intro r hr
        rcases List.mem_or_eq_of_mem_set hr with e | e
        · exact h96 r e
        · rw [e]; exact lostS_len _ _
      · cases h
end Go.Proofs.YthnlglmjffdpfaaGreatDoor
end

section
namespace Go.Proofs.YthnlglmjffdpfaaGreatDoor
open Go.Dec
theorem mend_groups : ∀ (d : Nat) (rs : List Bytes) (gs : List (List Bytes)), rs.length ≤ d → rs.length % 9 ≠ 1 → (chunks 9 rs).mapM mendG = some gs → ∃ l : List ApiBooked, (∀ x ∈ l, okS x = true) ∧ writeS l = gs.flatten ∧ (writeS l).length = rs.length
  | 0, R, gs, hd, _, h => by
    have : R = [] := List.eq_nil_of_length_eq_zero (by omega)
    subst this
    rw [chunks_nil, List.mapM_nil] at h
    cases h; exact ⟨[], by simp, rfl, rfl⟩
  | d + 1, R, gs, hd, h9, h => by
    by_cases hne : R = []
    · subst hne
      rw [chunks_nil, List.mapM_nil] at h
      cases h; exact ⟨[], by simp, rfl, rfl⟩
    have hl0 : 0 < R.length := List.length_pos_iff.2 hne
    rw [chunks_cons (by decide) hne, List.mapM_cons] at h
    cases h1 : mendG (R.take 9) with
    | none => rw [h1] at h; cases h
    | some g =>
      cases h2 : (chunks 9 (R.drop 9)).mapM mendG with
      | none => rw [h1, h2] at h; cases h
      | some gt =>
        rw [h1, h2] at h
        have h' : some (g :: gt) = some gs := h
        simp only [Option.some.injEq] at h'
        subst h'
        obtain ⟨own, h3, h4, h5⟩ := mend_some (by rw [List.length_take]; omega) h1
        obtain ⟨l, h6, h7, h8⟩ := mend_groups d (R.drop 9) gt (by rw [List.length_drop]; omega) (by rw [List.length_drop]; omega) h2
        rw [List.length_take] at h4
        rw [List.length_drop, writeS_len] at h8
        have ho : own ≠ [] := by intro e; rw [e] at h4; simp at h4; omega
        have hw : writeS (own ++ l) = groupW own ++ writeS l := by
          rw [write_cons (by simp [ho])]
          rcases Nat.lt_or_ge R.length 9 with e | e
          · have : l = [] := List.eq_nil_of_length_eq_zero (by omega)
            rw [this, List.append_nil, List.take_of_length_le (by omega), List.drop_of_length_le (by omega)]
          · rw [List.take_left' (by omega), List.drop_left' (by omega)]
        refine ⟨own ++ l, ?_, ?_, ?_⟩
        · intro x hx
          rcases List.mem_append.1 hx with e | e
          · exact h3 x e
          · exact h6 x e
        · rw [hw, List.flatten_cons, h5, h7]
        · rw [hw, List.length_append, groupW_len, writeS_len]; omega
theorem repair_cases (bs : Bytes) : repairP bs = ([], [], 8) ∨ repairP bs = ([], [], 10) ∨ ∃ l rs, okBook l = true ∧ splitS bs = some rs ∧ (writeS l).length = rs.length ∧ repairP bs = ((writeS l).flatten, changedS rs (writeS l), 0) := by
  unfold repairP
  cases hs : splitS bs with
  | none => exact .inl rfl
  | some rs =>
    obtain ⟨h1, h2, h3, h4, h5⟩ := splitS_some hs
    simp only
    cases hm : (chunks 9 rs).mapM mendG with
    | none => exact .inr (.inl rfl)
    | some gs =>
      right; right
      obtain ⟨l, h6, h7, h8⟩ := mend_groups rs.length rs gs (Nat.le_refl _) h4 hm
      refine ⟨l, rs, okBook_iff.2 ⟨?_, h6⟩, rfl, h8, by simp only [h7]⟩
      rw [writeS_len] at h8; omega
end Go.Proofs.YthnlglmjffdpfaaGreatDoor
end

section
namespace Go.Proofs.YthnlglmjffdpfaaGreatDoor
open Go.Dec
theorem changed_snoc {a a' : List Bytes} {x y : Bytes} (e : a.length = a'.length) : changedS (a ++ [x]) (a' ++ [y]) = if y = x then changedS a a' else changedS a a' ++ [(a.length : Int)] := by
  unfold changedS
  rw [List.length_append, List.length_singleton, List.range_succ, List.filter_append, List.map_append]
  have h1 : (List.range a.length).filter (fun i => decide ((a' ++ [y]).getD i [] ≠ (a ++ [x]).getD i [])) = (List.range a.length).filter (fun i => decide (a'.getD i [] ≠ a.getD i [])) := by
    apply List.filter_congr
    intro i hi
    have hi' : i < a.length := by simpa using hi
    rw [getD_left (by omega), getD_left hi']
  have h2 : (a' ++ [y]).getD a.length [] = y := by rw [getD_right (by omega), e, Nat.sub_self]; rfl
  have h3 : (a ++ [x]).getD a.length [] = x := by rw [getD_right (Nat.le_refl _), Nat.sub_self]; rfl
  rw [h1, List.filter_cons, h2, h3]
  by_cases h : y = x
  · rw [if_pos h, if_neg (by simpa using h)]; simp
  · rw [if_neg h, if_pos (by simpa using h)]; rfl
theorem changed_len (a a' : List Bytes) : (changedS a a').length ≤ a.length := by
  unfold changedS
  rw [List.length_map]
  have := List.length_filter_le (fun i => decide (a'.getD i [] ≠ a.getD i [])) (List.range a.length)
  rwa [List.length_range] at this
theorem rep_2 {rs done rest : List Bytes} (h96 : ∀ r ∈ rs, r.length = 96) (hs : rs.length ≤ 10000) (e : rs = done ++ rest) {size : Nat} (h : size < rest.length) (n : Int) (out : Bytes) (ch : List Int) :
    loopM (b_wormtubref14_Repair_2 (i8s rs.flatten) (n, out, ch, (done.length : Int)) (size : Int)) ([], 0) = some (rest.take (size + 1)) := by
  have hlen : rs.length = done.length + rest.length := by rw [e, List.length_append]
  obtain ⟨t, rfl, hq⟩ := loopM_upto (body := b_wormtubref14_Repair_2 (i8s rs.flatten) (n, out, ch, (done.length : Int)) (size : Int)) (fun i (t : List Bytes) => (t, (i : Int))) (fun t => t) (fun i t => t = rest.take i) (size + 1)
    (fun i t hi ht => by
      subst ht
      refine ⟨_, ?_, rfl⟩
      have h1 : w64 ((done.length : Int) + (i : Int)) = ((done.length + i : Nat) : Int) := by rw [w64_id (by omega) (by omega)]; omega
      obtain ⟨a1, a2, a3⟩ := row_doc h96 (i := done.length + i) (by omega) (by omega)
      have hg : rs.getD (done.length + i) [] = rest.getD i [] := by rw [e, getD_right (by omega), Nat.add_sub_cancel_left]
      rw [hg] at a3
      have hn : w64 ((i : Int) + 1) = ((i + 1 : Nat) : Int) := nx (by omega)
      unfold b_wormtubref14_Repair_2
      simp only [h1, a1, a2, hn]
      rw [if_pos (by rw [decide_eq_true_eq]; omega)]
      refine bind_of a3 ?_
      rw [u8_i8]
      refine bind_of (appO_some' (by rw [List.length_singleton, List.length_take]; omega)) ?_
      unfold bindv
      rw [List.take_add_one, getD_get (d := ([] : Bytes)) (show i < rest.length by omega)]; rfl)
    (fun t _ => by
      unfold b_wormtubref14_Repair_2
      refine if_neg ?_
      rw [decide_eq_true_eq]
      show ¬ (((size + 1 : Nat) : Int) ≤ (size : Int))
      omega) (size + 1) 0 [] (by omega) rfl
  exact hq
theorem rep_3 {done outL chunk G : List Bytes} (e1 : outL.length = done.length) {size : Nat} (e2 : chunk.length = size + 1) (e3 : G.length = size + 1) (ho : ∀ r ∈ outL, r.length = 96) (hG : ∀ r ∈ G, r.length = 96) (hs : done.length + size ≤ 10000) (n : Int) (out : Bytes) (ch : List Int) :
    loopM (b_wormtubref14_Repair_3 (n, out, ch, (done.length : Int)) (size : Int) chunk G) (outL.flatten, changedS done outL, 0) = some ((outL ++ G).flatten, changedS (done ++ chunk) (outL ++ G)) := by
  obtain ⟨t, rfl, hq⟩ := loopM_upto (body := b_wormtubref14_Repair_3 (n, out, ch, (done.length : Int)) (size : Int) chunk G) (fun i (t : Bytes × List Int) => (t.1, t.2, (i : Int))) (fun t => t) (fun i t => t = ((outL ++ G.take i).flatten, changedS (done ++ chunk.take i) (outL ++ G.take i))) (size + 1)
    (fun i t hi ht => by
      subst ht
      refine ⟨_, ?_, rfl⟩
      have h1 : w64 ((done.length : Int) + (i : Int)) = ((done.length + i : Nat) : Int) := by rw [w64_id (by omega) (by omega)]; omega
      have hn : w64 ((i : Int) + 1) = ((i + 1 : Nat) : Int) := nx (by omega)
      have i1 : idxL G (i : Int) = some (G.getD i []) := by rw [idxL_nat, getD_get (d := ([] : Bytes)) (by omega)]
      have i2 : idxL chunk (i : Int) = some (chunk.getD i []) := by rw [idxL_nat, getD_get (d := ([] : Bytes)) (by omega)]
      have hcl := changed_len (done ++ chunk.take i) (outL ++ G.take i)
      rw [List.length_append, List.length_take] at hcl
      have hgi := hG _ (getD_in (d := ([] : Bytes)) (l := G) (i := i) (by omega))
      have hfl : (outL ++ G.take i).flatten.length = 96 * (done.length + i) := by
        rw [flat96 (fun r hr => by
          rcases List.mem_append.1 hr with h | h
          · exact ho r h
          · exact hG r (List.mem_of_mem_take h)), List.length_append, List.length_take]
        congr 1; omega
      have hlen : (done ++ chunk.take i).length = done.length + i := by rw [List.length_append, List.length_take]; omega
      have tG : outL ++ G.take (i + 1) = (outL ++ G.take i) ++ [G.getD i []] := by
        rw [List.take_add_one, getD_get (d := ([] : Bytes)) (show i < G.length by omega), List.append_assoc]; rfl
      have tC : done ++ chunk.take (i + 1) = (done ++ chunk.take i) ++ [chunk.getD i []] := by
        rw [List.take_add_one, getD_get (d := ([] : Bytes)) (show i < chunk.length by omega), List.append_assoc]; rfl
      rw [tG, tC, changed_snoc (by rw [hlen, List.length_append, List.length_take]; omega), hlen]
      unfold b_wormtubref14_Repair_3
      simp only [h1, i1, i2, Option.bind_some, hn]
      rw [if_pos (by rw [decide_eq_true_eq]; omega)]
      refine bind_of (a := if G.getD i [] = chunk.getD i [] then changedS (done ++ chunk.take i) (outL ++ G.take i) else changedS (done ++ chunk.take i) (outL ++ G.take i) ++ [((done.length + i : Nat) : Int)]) ?_ ?_
      · by_cases h : G.getD i [] = chunk.getD i []
        · rw [if_pos h, if_neg (by rw [h]; simp)]
        · rw [if_neg h, if_pos (by simpa using h)]
          exact bind_of (appO_some' (by rw [List.length_singleton]; omega)) rfl
      · refine bind_of (appO_some' (by rw [hfl, hgi]; omega)) ?_
        unfold bindv
        have : (outL ++ G.take i ++ [G.getD i []]).flatten = (outL ++ G.take i).flatten ++ G.getD i [] := by rw [List.flatten_append]; simp
        rw [this])
    (fun t _ => by
      unfold b_wormtubref14_Repair_3
      refine if_neg ?_
      rw [decide_eq_true_eq]
      show ¬ (((size + 1 : Nat) : Int) ≤ (size : Int))
      omega) (size + 1) 0 (outL.flatten, changedS done outL) (by omega) (by simp)
  rw [List.take_of_length_le (by omega), List.take_of_length_le (by omega)] at hq
  exact hq
noncomputable def repR (rs outL : List Bytes) (o : Option (List (List Bytes))) : (Bytes × List Int) ⊕ (List Int × List Int × Int) := match o with
  | none => .inr ([], [], 10)
  | some gs => .inl ((outL ++ gs.flatten).flatten, changedS rs (outL ++ gs.flatten))
theorem rep_loop {rs : List Bytes} (h96 : ∀ r ∈ rs, r.length = 96) (hs : rs.length ≤ 2000) : ∀ (d n : Nat) (done rest outL : List Bytes), n ≤ d → rs = done ++ rest → outL.length = done.length → (∀ r ∈ outL, r.length = 96) → rest.length = n + (n + 7) / 8 →
    loopM (b_wormtubref14_Repair_1 (i8s rs.flatten)) ((n : Int), outL.flatten, changedS done outL, (done.length : Int)) = some (repR rs outL ((chunks 9 rest).mapM mendG))
  | d, n, done, rest, outL, hd, e, ho, ho96, hr => by
    by_cases h0 : n = 0
    · subst h0
      have : rest = [] := List.eq_nil_of_length_eq_zero (by omega)
      subst this
      rw [List.append_nil] at e
      subst e
      have : b_wormtubref14_Repair_1 (i8s rs.flatten) (((0 : Nat) : Int), outL.flatten, changedS rs outL, (rs.length : Int)) = some (.done (.inl (outL.flatten, changedS rs outL))) := by
        unfold b_wormtubref14_Repair_1
        exact if_neg (by simp)
      rw [loopM_eq, this, chunks_nil, List.mapM_nil]
      show some _ = some _
      simp [repR]
    · cases d with
      | zero => omega
      | succ d =>
        have hlen : rs.length = done.length + rest.length := by rw [e, List.length_append]
        have hrest96 : ∀ r ∈ rest, r.length = 96 := fun r hr' => h96 r (by rw [e]; exact List.mem_append_right _ hr')
        have hmin : imin (n : Int) 8 = ((min n 8 : Nat) : Int) := by
          unfold imin
          split <;> omega
        generalize hsz : min n 8 = size at hmin
        have t9 : rest.take 9 = rest.take (size + 1) := by
          rcases Nat.lt_or_ge n 8 with h | h
          · rw [List.take_of_length_le (by omega), List.take_of_length_le (by omega)]
          · rw [show size + 1 = 9 by omega]
        have d9 : rest.drop 9 = rest.drop (size + 1) := by
          rcases Nat.lt_or_ge n 8 with h | h
          · rw [List.drop_of_length_le (by omega), List.drop_of_length_le (by omega)]
          · rw [show size + 1 = 9 by omega]
        have hne : rest ≠ [] := by intro h; rw [h] at hr; simp at hr; omega
        have hsplit : rest.take (size + 1) = rest.take size ++ [rest.getD size []] := by
          rw [List.take_add_one, getD_get (d := ([] : Bytes)) (show size < rest.length by omega)]; rfl
        have htl : (rest.take size).length = size := by rw [List.length_take]; omega
        have hcl : (rest.take (size + 1)).length = size + 1 := by rw [List.length_take]; omega
        have hown96 : ∀ r ∈ rest.take size, r.length = 96 := fun r hr' => hrest96 r (List.mem_of_mem_take hr')
        have hg96 := hrest96 _ (getD_in (d := ([] : Bytes)) (i := size) (l := rest) (by omega))
        have hmd := mend_doc hown96 (by omega) hg96
        have hms := mend_split (rest.take size) (rest.getD size [])
        rw [← hsplit] at hms
        have h2 := rep_2 h96 (by omega) e (size := size) (by omega) (n : Int) outL.flatten (changedS done outL)
        have hsl : sliceL (rest.take (size + 1)) 0 (size : Int) = some (rest.take size) := by
          unfold sliceL
          rw [if_pos (by omega)]
          simp only [Int.toNat_natCast, Int.toNat_zero, List.drop_zero, Nat.sub_zero, List.take_take]
          rw [Nat.min_eq_left (by omega)]
        have hix : idxL (rest.take (size + 1)) (size : Int) = some (rest.getD size []) := by
          rw [idxL_nat, getD_get (d := ([] : Bytes)) (by omega), getD_take _ _ _ _ (by omega)]
        rw [chunks_cons (by decide) hne, List.mapM_cons, t9, d9, hms]
        have hbody : b_wormtubref14_Repair_1 (i8s rs.flatten) ((n : Int), outL.flatten, changedS done outL, (done.length : Int)) = match mendO (rest.take size) (rest.getD size []) with
            | none => some (.done (.inr ([], [], 10)))
            | some o => some (.next (((n - size : Nat) : Int), (outL ++ (o ++ [guardS o])).flatten, changedS (done ++ rest.take (size + 1)) (outL ++ (o ++ [guardS o])), ((done.length + (size + 1) : Nat) : Int))) := by
          unfold b_wormtubref14_Repair_1
          rw [if_pos (by rw [decide_eq_true_eq]; show (n : Int) > 0; omega)]
          unfold bindv
          simp only [hmin]
          refine bind_of h2 (bind_of hsl (bind_of hix (bind_of hmd ?_)))
          cases hm : mendO (rest.take size) (rest.getD size []) with
          | none => rfl
          | some o =>
            have hol := mendO_len hm
            have ho2 := mendO_96 hown96 hm
            refine (if_neg (by simp)).trans ?_
            refine bind_of (appO_some' (by rw [List.length_singleton]; show o.length + 1 ≤ _; omega)) ?_
            have h3 := rep_3 ho hcl (G := o ++ [guardS o]) (by rw [List.length_append, List.length_singleton]; omega) ho96 (fun r hr' => by
              rcases List.mem_append.1 hr' with h | h
              · exact ho2 r h
              · rw [List.mem_singleton.1 h]; exact guardS_len _) (by omega) (n : Int) outL.flatten (changedS done outL)
            refine bind_of h3 ?_
            have w1 : w64 ((w64 ((done.length : Int) + (size : Int))) + 1) = ((done.length + (size + 1) : Nat) : Int) := by
              rw [w64_id (n := (done.length : Int) + (size : Int)) (by omega) (by omega), w64_id (by omega) (by omega)]; omega
            have w2 : w64 ((n : Int) - (size : Int)) = ((n - size : Nat) : Int) := by rw [w64_id (by omega) (by omega)]; omega
            rw [w1, w2]
        rw [loopM_eq, hbody]
        cases hm : mendO (rest.take size) (rest.getD size []) with
        | none => rfl
        | some o =>
          have hol := mendO_len hm
          have ho2 := mendO_96 hown96 hm
          simp only [Option.bind_some]
          have ih := rep_loop h96 hs d (n - size) (done ++ rest.take (size + 1)) (rest.drop (size + 1)) (outL ++ (o ++ [guardS o])) (by omega) (by rw [List.append_assoc, List.take_append_drop]; exact e) (by simp only [List.length_append, List.length_singleton]; omega) (fun r hr' => by
            rcases List.mem_append.1 hr' with h | h
            · exact ho96 r h
            · rcases List.mem_append.1 h with h | h
              · exact ho2 r h
              · rw [List.mem_singleton.1 h]; exact guardS_len _) (by rw [List.length_drop]; omega)
          rw [List.length_append, hcl] at ih
          rw [ih]
          cases (chunks 9 (rest.drop (size + 1))).mapM mendG with
          | none => rfl
          | some gs => simp [repR]
theorem Repair_doc (bs : Bytes) (hl : bs.length ≤ 1000000) : m_wormtubref14_Repair (i8s bs) = some (i8s (repairP bs).1, (repairP bs).2.1, (repairP bs).2.2) := by
  unfold m_wormtubref14_Repair
  rcases split_doc bs (by omega) with ⟨k, rs, h1, h2, h3, h4⟩ | ⟨h1, h2⟩
  · obtain ⟨h5, h6, _, _, _⟩ := splitS_some h2
    have h96 : ∀ r ∈ rs, r.length = 96 := by rw [h5]; exact rows96_all bs
    have hfl : rs.flatten = bs := by rw [h5]; exact flat_rows96 h6
    refine bind_of h4 ?_
    rw [if_neg (by rw [decide_eq_true_eq]; omega)]
    have hq := rep_loop h96 (by omega) k k [] rs [] (Nat.le_refl _) rfl rfl (by simp) h3
    rw [hfl] at hq
    refine bind_of hq ?_
    have hcs := repair_cases bs
    unfold repairP at hcs ⊢
    rw [h2] at hcs ⊢
    simp only at hcs ⊢
    cases hm : (chunks 9 rs).mapM mendG with
    | none => rfl
    | some gs =>
      rw [hm] at hcs
      have hlen : gs.flatten.flatten.length ≤ 1000000 := by
        simp only at hcs
        rcases hcs with h | h | ⟨l, rs', hb, _, _, h⟩
        · rw [(Prod.mk.inj h).1]; exact Nat.zero_le _
        · rw [(Prod.mk.inj h).1]; exact Nat.zero_le _
        · rw [(Prod.mk.inj h).1, flat_len hb]
          have := (okBook_iff.1 hb).1
          omega
      show (appO [] ([] ++ gs.flatten).flatten).bind _ = _
      rw [List.nil_append]
      exact bind_of (append_nil (by omega)) rfl
  · refine bind_of h2 ?_
    rw [if_pos (by decide)]
    unfold repairP
    rw [h1]; rfl
end Go.Proofs.YthnlglmjffdpfaaGreatDoor
end

section
namespace Go.Proofs.YthnlglmjffdpfaaGreatDoor
open Go.Dec
theorem Tryz.own : ownKnob Tryz.prog.godebug = none := by kernel_rfl
theorem Tryz.laidOut : laidOutB Tryz.prog = true := by kernel_rfl
theorem vt25 {H : Type} {enc : TypeId × Value → H} {W : World} : Viewed enc Tryz.prog W 25 (rSl 1 (Ex (cInt .u8))) (fun x => (∀ y1 ∈ x, (Lit.int .u8 y1).wf = true)) := (Viewed.slice (sz := 1) Tryz.underlying25 (by kernel_rfl) (by decide) (Viewed.int Tryz.underlying5))
end Go.Proofs.YthnlglmjffdpfaaGreatDoor
end

section
namespace Go.Proofs.YthnlglmjffdpfaaGreatDoor
open Go.Dec Go.Shelf Go.RowKit Go.Maps Go.Sort
theorem arr_of_list {α : Type} {a : Array α} {l : List α} (h : a.toList = l) : a = l.toArray := by rw [← h]
theorem gErrS : Tryz.prog.globalNamed "strconv.ErrSyntax" = some 1 := by kernel_rfl
theorem gErrR : Tryz.prog.globalNamed "strconv.ErrRange" = some 2 := by kernel_rfl
theorem gPow : Tryz.prog.globalNamed "internal/strconv.uint64pow10" = some 3 := by kernel_rfl
theorem tErrS : (Tryz.prog.globals[1]?).map (·.type) = some 120 := by kernel_rfl
theorem tErrR : (Tryz.prog.globals[2]?).map (·.type) = some 120 := by kernel_rfl
theorem tPow : (Tryz.prog.globals[3]?).map (·.type) = some 196 := by kernel_rfl
theorem err_of {W : World} {ps : List MemPlace} {l : List (String × DataW Unit)} (hl : DataW.LaidVars Tryz.prog W l ps) (j g0 : Nat) {n : String} {nm : String} {d : DataW Unit} (hj : l[j]? = some (n, .iface nm d)) (hg0 : Tryz.prog.globalNamed n = some g0) (ht0 : (Tryz.prog.globals[g0]?).map (·.type) = some 120) :
    ∃ ev T fr, (FW W).mem g0 = some (.cells #[ev] T fr) ∧ (ev = .nilIface ∨ ∃ te pe, ev = .iface te pe) := by
  obtain ⟨g, t, cs, fuel, p, T, fr, hg, ht, hh, hd⟩ := laid_at j hj hl
  obtain rfl := Option.some.inj (hg0.symm.trans hg)
  obtain rfl := Option.some.inj (ht0.symm.trans ht)
  obtain ⟨u, v, hc⟩ := Go.Dec.iface_cells Tryz.underlying120 hd
  exact ⟨_, T, fr, by rw [show (FW W).mem g0 = W.heap[g0]? from rfl, hh, arr_of_list hc], .inr ⟨u, v, rfl⟩⟩
theorem cells143 : Tryz.prog.cellsOf 143 = 1 := by kernel_rfl
theorem cells196 : Tryz.prog.cellsOf 196 = 20 := by kernel_rfl
theorem pow_data : (Rows.laid_internal_strconv_uint64pow10 : DataW Unit) = Go.Lib.tabData .u64 Go.Lib.pow10Tab := by kernel_rfl
theorem maxLen0 : ((begin Tryz.prog (fun _ _ => 0) default).world.heap[0]?).bind Obj.row? = some (#[.int .i64 0], 3) := by kernel_rfl
theorem laid_plain {W : World} (h : laidMetH Tryz.prog Rows.fileWritesRow.laid W) : laidMet Tryz.prog Rows.fileWritesRow.laid W := by
  rwa [MakeChecks.laidMetH_plain _ _ _ (by kernel_rfl)] at h
set_option maxRecDepth 100000 in
theorem tabs_of {W : World} (h : laidMetH Tryz.prog Rows.fileWritesRow.laid W) (hsh : W.ShapedOpen Tryz.prog) : TabsP (FW W) := by
  obtain ⟨ps, hl, _, _⟩ := laid_plain h
  refine ⟨?_, ?_, ?_, ?_⟩
  · obtain ⟨g, t, cs, fuel, p, T, fr, hg, ht, hh, hd⟩ := laid_at 2 rfl hl
    obtain rfl := Option.some.inj (gPow.symm.trans hg)
    obtain rfl := Option.some.inj (tPow.symm.trans ht)
    have hc := Go.Lib.cells_of_tab Tryz.underlying196 Tryz.underlying143 cells143 cells196 (by rw [← pow_data]; exact hd)
    exact ⟨3, T, fr, gPow, by rw [show (FW W).mem 3 = W.heap[3]? from rfl, hh, arr_of_list hc]; rfl⟩
  · obtain ⟨m, hm⟩ := Go.Proofs.cell_of_shapedOpen_int (P := Tryz.prog) (g := 0) (t := 3) (zero := #[.int .i64 0]) hsh (of_decide_eq_true (by kernel_rfl)) maxLen0 rfl (by kernel_rfl) (by kernel_rfl) Tryz.underlying3
    obtain ⟨T, fr, hb⟩ := int_cell_block hsh (of_decide_eq_true (by kernel_rfl)) maxLen0 rfl hm
    exact ⟨m, T, fr, hb⟩
  · exact err_of hl 5 1 rfl gErrS tErrS
  · exact err_of hl 4 2 rfl gErrR tErrR
end Go.Proofs.YthnlglmjffdpfaaGreatDoor
end

section
namespace Go.Proofs.YthnlglmjffdpfaaGreatDoor
open Go.Dec
open Go.ChangeShapes Go.WideShapes Go.ChangeAt Go.RowKit
def LawFileReads : Prop := ∀ (a0 : (List Int)), (∀ y ∈ a0, (Lit.int .u8 y).wf = true) → m_wormtublaw14_FileReads a0 = some true
set_option maxRecDepth 100000 in
theorem lifted_FileReads (law : LawFileReads) (os : Os) (started : os.Started) (H : Type) (enc : TypeId × Value → H) :
  ReturnsInHanded {} Tryz.checked os 4 .any (fun w args => (Rows.fileReadsSpec.pre enc Tryz.prog Tryz.f4 Rows.fileReadsRow.domain false w args ∧ laidMetH Tryz.prog Rows.fileReadsRow.laid w) ∧ sizedMet enc Tryz.prog Tryz.f4 (OpenSpec.ofChange Rows.fileReadsSpec) false w args) (Rows.fileReadsSpec.post enc Tryz.prog Tryz.f4 false true false false) := by
 refine lift_tied (C := Tryz.checked) (X := fun w => laidMetH Tryz.prog Rows.fileReadsRow.laid w) (fun _ _ hh h => h.of_heap hh) Tryz.own started (by kernel_rfl) Tryz.func4
  (ChangeSpec.witness_shaped (enc := enc) (C := Tryz.checked) (os := os) (X := fun w _ => laidMetH Tryz.prog Rows.fileReadsRow.laid w) false (World.laidAll Tryz.prog os Rows.fileReadsRow.laid) #[.slice none 0 0] 12 (World.laidAll_os _ _ _) (World.shaped_of_ZipB (by kernel_rfl) (by kernel_rfl)) (by kernel_rfl) (by kernel_rfl) (by kernel_rfl)
   (by rw [MakeChecks.laidMetH_plain _ _ _ (by kernel_rfl)]; exact laidMet_laidAll _ (by kernel_rfl) (by kernel_rfl))) ?_
 intro W base args ds gs before hval hW hsh hL
 have hT : TabsP (FW W) := tabs_of hL hsh
 refine law_contractW (P := Tryz.prog) Tryz.laidOut (by kernel_rfl) rfl (by kernel_rfl : Tryz.f4.resultTypes = #[4]) Tryz.underlying4 (fun ds h => ?_) (fun base args ds ps hval hA => ?_) base args ds gs before hval hW
 ·match ds, h with
  | [d0], _ => rfl
 ·rw [Tryz.params4] at hA hval
  obtain ⟨v0, l0, _, _, _, _, e0, _, _, t0, hA⟩ := trodAll_cons hA
  obtain ⟨e1, _, _⟩ := trodAll_nil hA
  subst e1
  obtain rfl : args = [v0].toArray := by rw [← e0]
  obtain ⟨m0, p0, k0, o0, rfl, h0⟩ := argSlice Tryz.underlying25 vt25 (hval 0 _ _ rfl rfl) t0
  have hl := law m0 o0
  have hc := c_wormtublaw14_FileReads (FW W) hT m0 p0 k0 h0
  rw [hl] at hc
  exact hc
theorem said_FileReads (law : LawFileReads) : Rows.FileReadsSaid :=
 OpenClaim.holds_of_wide 4 Tryz.f4 rfl rfl rfl rfl rfl rfl rfl ⟨rfl, rfl, rfl, rfl, rfl⟩ rfl rfl rfl rfl rfl (by kernel_rfl) Tryz.func4 (by kernel_rfl)
  (of_decide_eq_true (by kernel_rfl)) (by unfold Func.isWrapper; first | (rw [if_pos (by decide +kernel)]; kernel_rfl) | (rw [if_neg (by decide +kernel)]; exact ⟨rfl, rfl⟩))
  (fun os started H enc _ => lifted_FileReads law os started H enc)
theorem card_FileReads (law : LawFileReads) : Rows.FileReadsCardSaid :=
 Claim7.holds_tied_plain_at .later [] [.data, .data, .data, .data, .sentinel, .sentinel, .pinned] true (true, "3bd84bf44a97e49b979e061ef005845ecf1aa6bc424530e46bde597d8668a3f8") true (said_FileReads law) (fun _ h => by cases h) (by kernel_rfl) (fun _ h => by cases h) fileReads_row_tie rfl ⟨rfl, rfl⟩ (by kernel_rfl) rfl
  (fun f fn hf hfn => by
   obtain rfl : f = 4 := Option.some.inj ((show Tryz.prog.funcNamed "wormtub/wormtublaw14.FileReads" = some 4 by kernel_rfl).symm.trans hf) |>.symm
   obtain rfl : fn = Tryz.f4 := (Option.some.inj (Tryz.func4.symm.trans hfn)).symm
   exact ⟨by kernel_rfl, fun j t ht => by
    have hall : (Tryz.f4.params.toList.all fun u => !Tryz.prog.wantsStandIn u) = true := by kernel_rfl
    have hm := Array.mem_of_getElem? ht
    exact (show Tryz.prog.wantsStandIn t = false by first | (simp at hm; done) | simpa using List.all_eq_true.1 hall t (by simpa using hm))⟩)
  (by kernel_rfl)
end Go.Proofs.YthnlglmjffdpfaaGreatDoor
end

section
namespace Go.Proofs.YthnlglmjffdpfaaGreatDoor
open Go.Dec
theorem law_FileReads : LawFileReads := by
  intro a0 hw
  obtain ⟨bs, rfl⟩ : ∃ bs, a0 = i8s bs := ⟨_, (i8_u8 hw).symm⟩
  unfold m_wormtublaw14_FileReads
  rw [i8s_len]
  by_cases h4 : bs.length ≤ 4000
  · rw [if_neg (by rw [decide_eq_true_eq]; omega)]
    refine bind_of (Read_prog bs (by omega)) (bind_of (Read_doc bs (by omega)) (bind_of (Repair_prog bs (by omega)) (bind_of (Repair_doc bs (by omega)) ?_)))
    have hsame : m_wormtubref14_Same (readP bs).1 (readP bs).1 = some true := by
      rcases read_cases bs with e | ⟨l, hb, e, _⟩
      · rw [e]; exact Same_ok (by rfl)
      · rw [e]; exact Same_ok hb
    have hints : m_wormtubref14_Ints (repairP bs).2.1 (repairP bs).2.1 = some true := by
      refine Ints_self _ ?_
      rcases repair_cases bs with e | e | ⟨l, rs, hb, hs, _, e⟩
      · rw [e]; exact Nat.zero_le _
      · rw [e]; exact Nat.zero_le _
      · rw [e]
        have h1 := changed_len rs (writeS l)
        obtain ⟨_, _, _, _, h2⟩ := splitS_some hs
        show (changedS rs (writeS l)).length ≤ _
        omega
    refine bind_of hsame ?_
    refine bind_of (a := true) ?_ (bind_of (a := true) ?_ rfl)
    · rw [if_pos (by simp)]
      exact bind_of hints rfl
    · rw [if_pos (by simp), alive_true]; rfl
  · rw [if_pos (by rw [decide_eq_true_eq]; omega), alive_true]; rfl
theorem fileReads_holds : Rows.FileReadsCardSaid := card_FileReads law_FileReads
end Go.Proofs.YthnlglmjffdpfaaGreatDoor
end
