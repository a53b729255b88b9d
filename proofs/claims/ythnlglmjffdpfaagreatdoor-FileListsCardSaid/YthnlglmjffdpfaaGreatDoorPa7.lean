/- Own texts and texts printed by a program of mine, for fileLists_holds; only what it reaches. -/
import Derived.Test.YthnlglmjffdpfaaGreatDoorPa6
import Derived.Test.YthnlglmjffdpfaaGreatDoorTie
import Derived.Test.YthnlglmjffdpfaaGreatDoorCards
section
namespace Go.Proofs.YthnlglmjffdpfaaGreatDoor
open Go.Dec Go.Shelf Go.RowKit Go.Maps Go.Sort
noncomputable def b_wormtubref14_Casks_1 (l_1 : (List ApiBooked)) (s10 : (List ApiCaskEvent) × Int) : Option (Ctl ((List ApiCaskEvent) × Int) (((List ApiCaskEvent)))) :=
 if (decide (s10.2 < (l_1.length : Int))) then (((idxL l_1 s10.2).bind fun x17 => (idxL l_1 s10.2).bind fun x30 => (if (x30.Kind == 2) then ((idxL x17.N 0).bind fun x45 => (idxL x17.N 1).bind fun x55 => (idxL x17.N 2).bind fun x65 => (idxL x17.N 3).bind fun x75 => (idxL x17.N 4).bind fun x85 => (idxL x17.N 5).bind fun x95 => (idxL x17.N 6).bind fun x105 => (idxL x17.N 7).bind fun x115 => (appO s10.1 ([(ApiCaskEvent.mk x45 x55 x65 x75 x85 x95 x105 x115)])).bind fun l_192 => some l_192) else (some s10.1) : Option ((List ApiCaskEvent))).bind fun j196 => some j196 : Option ((List ApiCaskEvent))).bind fun j202 => bindv (w64 (s10.2 + 1)) fun i208 => some (.next (j202, i208))) else (some (.done s10.1))
noncomputable def m_wormtubref14_Casks (l_1 : (List ApiBooked)) : Option ((List ApiCaskEvent) × Int) :=
 (m_wormtubref14_Valid l_1).bind fun r_7 => if (!r_7) then (some ([], 1)) else ((loopM (b_wormtubref14_Casks_1 l_1) ([], 0)).bind fun b210 => some (b210, 0))
set_option maxRecDepth 100000 in
set_option maxHeartbeats 4000000 in
theorem c_wormtubref14_Casks (F0 : Fz) (l_1 : (List ApiBooked)) (p2 : Option Addr) (k3 : Nat) (h4 : RepSl 2 rApiBooked F0 p2 k3 l_1) : CT0 Tryz.prog 32 [(.slice p2 l_1.length k3)].toArray F0 (m_wormtubref14_Casks l_1) (fun r F v => ∃ (p0 : Option Addr) (k0 : Nat), v = .tuple #[(.slice p0 r.1.length k0), (.int .i64 r.2)] ∧ RepSl 8 (Ex cApiCaskEvent) F p0 k0 r.1) := by
 refine CT0.enter Tryz.func32 rfl Tryz.ntmps32 rfl fun r R => ?_
 unfold m_wormtubref14_Casks
 refine .seq (.region (.assign rfl rfl (.assign rfl rfl (.nil (.code (.seq (.seq (.region (.move rfl rfl (.call0 rfl Tryz.call46 rfl rfl rfl (c_wormtubref14_Valid _ l_1 p2 k3 h4) ?_))))))))))
 rintro r_7 F_5 _ - l_6 rfl
 refine .not rfl rfl (.nil (.code (.cond rfl (fun hb8 => ?_) (fun hb8 => ?_))))
 ·skip
  refine .seq (.region (.assign rfl rfl (.assign rfl rfl (.nil (.code ?_)))))
  exact .ret0 Tryz.results32 (.tmp rfl (.tmp rfl (.nil))) (i := 0) rfl l_6 ⟨none, 0, rfl, (RepSl.nil.mono l_6)⟩
 ·skip
  refine .skip (.code (.seq (.region (.assign rfl rfl (.nil (.code (.seq (.seq (.region (.assign rfl rfl (.nil ?_)))))))))))
  refine .code (.block (.ownNil 8 (Ex cApiCaskEvent) 69 (.keep (.cons (k := 0) rfl (.cons (k := 4) rfl (.cons (k := 5) rfl (.nil _)))) ?_)))
  refine .loop (fun (s10 : (List ApiCaskEvent) × Int) a w => ∃ (F_11 : Fz) (p13 : Option Addr) (k14 : Nat), F_5 ≤ F_11 ∧ Hd 56 [] [(0, (.slice p2 l_1.length k3)), (4, (.slice p13 s10.1.length k14)), (5, (.int .i64 s10.2))] F_11 [ownSl 8 (Ex cApiCaskEvent) F_11 69 p13 k14 s10.1, R] a w) (fun b210 e a w => e = .exit 0 ∧ ∃ (F_211 : Fz) (p213 : Option Addr) (k214 : Nat), F_5 ≤ F_211 ∧ Hd 56 [] [(4, (.slice p213 b210.length k214))] F_211 [ownSl 8 (Ex cApiCaskEvent) F_211 69 p213 k214 b210, R] a w) ?_ ?_ ?_
  ·exact fun a w h => ⟨F_5, none, 0, Fz.r, h.1.sub (.cons (k := 0) rfl (.cons (k := 4) rfl (.cons (k := 5) rfl (.nil _)))), h.2⟩
  ·intro s10 ctl
   refine GC.ex (fun a w ⟨F_11, p13, k14, l_12, hA⟩ => ⟨_, hA, ?_⟩)
   unfold b_wormtubref14_Casks_1
   refine .seq (.seq (.region (.move rfl rfl (.move rfl rfl (.lenS rfl rfl Tryz.underlying22 rfl (.lss rfl rfl rfl (.nil (.code (.cond rfl (fun hb16 => ?_) (fun hb16 => ?_))))))))))
   ·skip
    refine .skip (.code (.seq (.keep (.cons (k := 0) rfl (.cons (k := 4) rfl (.cons (k := 5) rfl (.nil _)))) ?_)))
    refine GC.join0 (σ := (List ApiCaskEvent)) (fun j202 a w => ∃ (F_203 : Fz) (p205 : Option Addr) (k206 : Nat), F_11 ≤ F_203 ∧ Hd 56 [] [(0, (.slice p2 l_1.length k3)), (4, (.slice p205 j202.length k206)), (5, (.int .i64 s10.2))] F_203 [ownSl 8 (Ex cApiCaskEvent) F_203 69 p205 k206 j202, R] a w) (fun sj => ?_) (fun j202 hs0 => GE.ex (fun a w ⟨F_203, p205, k206, l_204, hA⟩ => ⟨_, hA, ?_⟩))
    ·skip
     refine .block (.seq (.region (.move rfl rfl (.move rfl rfl (.idx rfl Tryz.underlying22 Tryz.sizeOf41 (h4.mono (Fz.t l_6 l_12)) rfl rfl (fun x17 b18 o19 T20 fr21 cs22 e23 hm24 hv25 => ?_))))))
     obtain ⟨p27, k28, hv25, h29⟩ := hv25
     refine .fieldAddr rfl Tryz.underlying41 rfl Tryz.sizeOf31 rfl (.loadF rfl Tryz.isAgg31 rfl hm24 (cell_of_take (k := 1) hv25 rfl) (.assign rfl rfl (.nil (.code (.seq (.region (.move rfl rfl (.move rfl rfl (.idx rfl Tryz.underlying22 Tryz.sizeOf41 (h4.mono (Fz.t l_6 l_12)) rfl rfl (fun x30 b31 o32 T33 fr34 cs35 e36 hm37 hv38 => ?_))))))))))
     obtain ⟨p40, k41, hv38, h42⟩ := hv38
     refine .fieldAddr rfl Tryz.underlying41 rfl Tryz.sizeOf3 rfl (.loadF rfl Tryz.isAgg3 rfl hm37 (cell_of_take (k := 0) hv38 rfl) (.eql rfl rfl rfl (.nil (.code (.keep (.cons (k := 0) rfl (.cons (k := 4) rfl (.cons (k := 5) rfl (.cons (k := 6) rfl (.cons (k := 26) rfl (.nil _)))))) ?_)))))
     refine GC.join0 (σ := (List ApiCaskEvent)) (fun j196 a w => ∃ (F_197 : Fz) (p199 : Option Addr) (k200 : Nat), F_11 ≤ F_197 ∧ Hd 56 [] [(0, (.slice p2 l_1.length k3)), (4, (.slice p199 j196.length k200)), (5, (.int .i64 s10.2))] F_197 [ownSl 8 (Ex cApiCaskEvent) F_197 69 p199 k200 j196, R] a w) (fun sj => ?_) (fun j196 hs0 => GE.ex (fun a w ⟨F_197, p199, k200, l_198, hA⟩ => ⟨_, hA, ?_⟩))
     ·skip
      refine .cond rfl (fun hb43 => ?_) (fun hb43 => ?_)
      ·skip
       refine .keep (.cons (k := 0) rfl (.cons (k := 4) rfl (.cons (k := 5) rfl (.cons (k := 6) rfl (.nil _))))) (.bind (fun x45 e51 => ?_))
       obtain ⟨b46, o47, T48, fr49, cs50, hm52, hv53, hq54⟩ := RepSl.idxE h29 e51
       refine .bind (fun x55 e61 => ?_)
       obtain ⟨b56, o57, T58, fr59, cs60, hm62, hv63, hq64⟩ := RepSl.idxE h29 e61
       refine .bind (fun x65 e71 => ?_)
       obtain ⟨b66, o67, T68, fr69, cs70, hm72, hv73, hq74⟩ := RepSl.idxE h29 e71
       refine .bind (fun x75 e81 => ?_)
       obtain ⟨b76, o77, T78, fr79, cs80, hm82, hv83, hq84⟩ := RepSl.idxE h29 e81
       refine .bind (fun x85 e91 => ?_)
       obtain ⟨b86, o87, T88, fr89, cs90, hm92, hv93, hq94⟩ := RepSl.idxE h29 e91
       refine .bind (fun x95 e101 => ?_)
       obtain ⟨b96, o97, T98, fr99, cs100, hm102, hv103, hq104⟩ := RepSl.idxE h29 e101
       refine .bind (fun x105 e111 => ?_)
       obtain ⟨b106, o107, T108, fr109, cs110, hm112, hv113, hq114⟩ := RepSl.idxE h29 e111
       refine .bind (fun x115 e121 => ?_)
       obtain ⟨b116, o117, T118, fr119, cs120, hm122, hv123, hq124⟩ := RepSl.idxE h29 e121
       refine .drawGD 27 0 (fun env44 => [((.slice p13 s10.1.length k14), fun _ => True), ((.slice p27 x17.N.length k28), fun _ => True), ((.pointer (some ⟨b46, o47, none⟩)), fun _ => True), ((.int .i64 x45), fun _ => True), ((.slice p27 x17.N.length k28), fun _ => True), ((.pointer (some ⟨b56, o57, none⟩)), fun _ => True), ((.int .i64 x55), fun _ => True), ((.slice p27 x17.N.length k28), fun _ => True), ((.pointer (some ⟨b66, o67, none⟩)), fun _ => True), ((.int .i64 x65), fun _ => True), ((.slice p27 x17.N.length k28), fun _ => True), ((.pointer (some ⟨b76, o77, none⟩)), fun _ => True), ((.int .i64 x75), fun _ => True), ((.slice p27 x17.N.length k28), fun _ => True), ((.pointer (some ⟨b86, o87, none⟩)), fun _ => True), ((.int .i64 x85), fun _ => True), ((.slice p27 x17.N.length k28), fun _ => True), ((.pointer (some ⟨b96, o97, none⟩)), fun _ => True), ((.int .i64 x95), fun _ => True), ((.slice p27 x17.N.length k28), fun _ => True), ((.pointer (some ⟨b106, o107, none⟩)), fun _ => True), ((.int .i64 x105), fun _ => True), ((.slice p27 x17.N.length k28), fun _ => True), ((.pointer (some ⟨b116, o117, none⟩)), fun _ => True), ((.int .i64 x115), fun _ => True), ((eApiCaskEvent (ApiCaskEvent.mk x45 x55 x65 x75 x85 x95 x105 x115)), fun _ => True), ((.slice (some ⟨env44.n 260, 0, none⟩) ([(ApiCaskEvent.mk x45 x55 x65 x75 x85 x95 x105 x115)]).length 1), fun G => RepSl 8 (Ex cApiCaskEvent) G (some ⟨env44.n 260, 0, none⟩) 1 ([(ApiCaskEvent.mk x45 x55 x65 x75 x85 x95 x105 x115)]))]) (fun L env44 => [ownSl 8 (Ex cApiCaskEvent) F_11 69 p13 k14 s10.1, R]) mixedOK (by kernel_rfl) (deepN (k := 27) (n := 29) rfl (allLt29 (p := fun t => 27 ≤ t → ∀ j, j < t → ∃ s, depB _ s t j = true) (fun h => absurd h (by decide)) (fun h => absurd h (by decide)) (fun h => absurd h (by decide)) (fun h => absurd h (by decide)) (fun h => absurd h (by decide)) (fun h => absurd h (by decide)) (fun h => absurd h (by decide)) (fun h => absurd h (by decide)) (fun h => absurd h (by decide)) (fun h => absurd h (by decide)) (fun h => absurd h (by decide)) (fun h => absurd h (by decide)) (fun h => absurd h (by decide)) (fun h => absurd h (by decide)) (fun h => absurd h (by decide)) (fun h => absurd h (by decide)) (fun h => absurd h (by decide)) (fun h => absurd h (by decide)) (fun h => absurd h (by decide)) (fun h => absurd h (by decide)) (fun h => absurd h (by decide)) (fun h => absurd h (by decide)) (fun h => absurd h (by decide)) (fun h => absurd h (by decide)) (fun h => absurd h (by decide)) (fun h => absurd h (by decide)) (fun h => absurd h (by decide)) (fun _ => allLt27 (p := fun j => ∃ s, depB _ s 27 j = true) ⟨1, rfl⟩ ⟨5, rfl⟩ ⟨4, rfl⟩ ⟨3, rfl⟩ ⟨5, rfl⟩ ⟨4, rfl⟩ ⟨3, rfl⟩ ⟨5, rfl⟩ ⟨4, rfl⟩ ⟨3, rfl⟩ ⟨5, rfl⟩ ⟨4, rfl⟩ ⟨3, rfl⟩ ⟨5, rfl⟩ ⟨4, rfl⟩ ⟨3, rfl⟩ ⟨5, rfl⟩ ⟨4, rfl⟩ ⟨3, rfl⟩ ⟨5, rfl⟩ ⟨4, rfl⟩ ⟨3, rfl⟩ ⟨5, rfl⟩ ⟨4, rfl⟩ ⟨3, rfl⟩ ⟨2, rfl⟩ ⟨1, rfl⟩) (fun _ => allLt28 (p := fun j => ∃ s, depB _ s 28 j = true) ⟨1, rfl⟩ ⟨1, rfl⟩ ⟨1, rfl⟩ ⟨1, rfl⟩ ⟨1, rfl⟩ ⟨1, rfl⟩ ⟨1, rfl⟩ ⟨1, rfl⟩ ⟨1, rfl⟩ ⟨1, rfl⟩ ⟨1, rfl⟩ ⟨1, rfl⟩ ⟨1, rfl⟩ ⟨1, rfl⟩ ⟨1, rfl⟩ ⟨1, rfl⟩ ⟨1, rfl⟩ ⟨1, rfl⟩ ⟨1, rfl⟩ ⟨1, rfl⟩ ⟨1, rfl⟩ ⟨1, rfl⟩ ⟨1, rfl⟩ ⟨1, rfl⟩ ⟨1, rfl⟩ ⟨1, rfl⟩ ⟨1, rfl⟩ ⟨1, rfl⟩))) rfl (fun _ => rfl) (by kernel_rfl) (fun _ => rfl) ?_ (fun env44 F_131 l_132 hphi => ?_)
       ·skip
        refine .cons (fun L env44 F_133 l_134 hL hdn hup hphi => ⟨[(4, (.slice p13 s10.1.length k14))], fun S hS hV => (.cons (hS _ _ rfl) (Sub.nil _)), ?_⟩) ?_
        ·skip
         refine .move rfl rfl ?_
         exact .finV rfl rfl Fz.r
        refine .cons (fun L env44 F_135 l_136 hL hdn hup hphi => ⟨[(6, (.slice p27 x17.N.length k28))], fun S hS hV => (.cons (hS _ _ rfl) (Sub.nil _)), ?_⟩) ?_
        ·skip
         refine .move rfl rfl ?_
         exact .finV rfl rfl Fz.r
        refine .cons (fun L env44 F_137 l_138 hL hdn hup hphi => ⟨[(28, (.slice p27 x17.N.length k28))], fun S hS hV => (.cons (hV 1 28 _ (hdn 1 1 rfl) rfl rfl) (Sub.nil _)), ?_⟩) ?_
        ·skip
         refine .idxQ rfl Tryz.underlying31 Tryz.sizeOf3 hq54 rfl rfl ?_
         exact .finV rfl rfl Fz.r
        refine .cons (fun L env44 F_139 l_140 hL hdn hup hphi => ⟨[(29, (.pointer (some ⟨b46, o47, none⟩)))], fun S hS hV => (.cons (hV 2 29 _ (hdn 1 2 rfl) rfl rfl) (Sub.nil _)), ?_⟩) ?_
        ·skip
         refine .loadF rfl Tryz.isAgg3 rfl (l_140.mem _ _ hm52) (cell_of_take (k := 0) hv53 rfl) ?_
         exact .finV rfl rfl Fz.r
        refine .cons (fun L env44 F_141 l_142 hL hdn hup hphi => ⟨[(6, (.slice p27 x17.N.length k28))], fun S hS hV => (.cons (hS _ _ rfl) (Sub.nil _)), ?_⟩) ?_
        ·skip
         refine .move rfl rfl ?_
         exact .finV rfl rfl Fz.r
        refine .cons (fun L env44 F_143 l_144 hL hdn hup hphi => ⟨[(31, (.slice p27 x17.N.length k28))], fun S hS hV => (.cons (hV 4 31 _ (hdn 1 4 rfl) rfl rfl) (Sub.nil _)), ?_⟩) ?_
        ·skip
         refine .idxQ rfl Tryz.underlying31 Tryz.sizeOf3 hq64 rfl rfl ?_
         exact .finV rfl rfl Fz.r
        refine .cons (fun L env44 F_145 l_146 hL hdn hup hphi => ⟨[(32, (.pointer (some ⟨b56, o57, none⟩)))], fun S hS hV => (.cons (hV 5 32 _ (hdn 1 5 rfl) rfl rfl) (Sub.nil _)), ?_⟩) ?_
        ·skip
         refine .loadF rfl Tryz.isAgg3 rfl (l_146.mem _ _ hm62) (cell_of_take (k := 0) hv63 rfl) ?_
         exact .finV rfl rfl Fz.r
        refine .cons (fun L env44 F_147 l_148 hL hdn hup hphi => ⟨[(6, (.slice p27 x17.N.length k28))], fun S hS hV => (.cons (hS _ _ rfl) (Sub.nil _)), ?_⟩) ?_
        ·skip
         refine .move rfl rfl ?_
         exact .finV rfl rfl Fz.r
        refine .cons (fun L env44 F_149 l_150 hL hdn hup hphi => ⟨[(34, (.slice p27 x17.N.length k28))], fun S hS hV => (.cons (hV 7 34 _ (hdn 1 7 rfl) rfl rfl) (Sub.nil _)), ?_⟩) ?_
        ·skip
         refine .idxQ rfl Tryz.underlying31 Tryz.sizeOf3 hq74 rfl rfl ?_
         exact .finV rfl rfl Fz.r
        refine .cons (fun L env44 F_151 l_152 hL hdn hup hphi => ⟨[(35, (.pointer (some ⟨b66, o67, none⟩)))], fun S hS hV => (.cons (hV 8 35 _ (hdn 1 8 rfl) rfl rfl) (Sub.nil _)), ?_⟩) ?_
        ·skip
         refine .loadF rfl Tryz.isAgg3 rfl (l_152.mem _ _ hm72) (cell_of_take (k := 0) hv73 rfl) ?_
         exact .finV rfl rfl Fz.r
        refine .cons (fun L env44 F_153 l_154 hL hdn hup hphi => ⟨[(6, (.slice p27 x17.N.length k28))], fun S hS hV => (.cons (hS _ _ rfl) (Sub.nil _)), ?_⟩) ?_
        ·skip
         refine .move rfl rfl ?_
         exact .finV rfl rfl Fz.r
        refine .cons (fun L env44 F_155 l_156 hL hdn hup hphi => ⟨[(37, (.slice p27 x17.N.length k28))], fun S hS hV => (.cons (hV 10 37 _ (hdn 1 10 rfl) rfl rfl) (Sub.nil _)), ?_⟩) ?_
        ·skip
         refine .idxQ rfl Tryz.underlying31 Tryz.sizeOf3 hq84 rfl rfl ?_
         exact .finV rfl rfl Fz.r
        refine .cons (fun L env44 F_157 l_158 hL hdn hup hphi => ⟨[(38, (.pointer (some ⟨b76, o77, none⟩)))], fun S hS hV => (.cons (hV 11 38 _ (hdn 1 11 rfl) rfl rfl) (Sub.nil _)), ?_⟩) ?_
        ·skip
         refine .loadF rfl Tryz.isAgg3 rfl (l_158.mem _ _ hm82) (cell_of_take (k := 0) hv83 rfl) ?_
         exact .finV rfl rfl Fz.r
        refine .cons (fun L env44 F_159 l_160 hL hdn hup hphi => ⟨[(6, (.slice p27 x17.N.length k28))], fun S hS hV => (.cons (hS _ _ rfl) (Sub.nil _)), ?_⟩) ?_
        ·skip
         refine .move rfl rfl ?_
         exact .finV rfl rfl Fz.r
        refine .cons (fun L env44 F_161 l_162 hL hdn hup hphi => ⟨[(40, (.slice p27 x17.N.length k28))], fun S hS hV => (.cons (hV 13 40 _ (hdn 1 13 rfl) rfl rfl) (Sub.nil _)), ?_⟩) ?_
        ·skip
         refine .idxQ rfl Tryz.underlying31 Tryz.sizeOf3 hq94 rfl rfl ?_
         exact .finV rfl rfl Fz.r
        refine .cons (fun L env44 F_163 l_164 hL hdn hup hphi => ⟨[(41, (.pointer (some ⟨b86, o87, none⟩)))], fun S hS hV => (.cons (hV 14 41 _ (hdn 1 14 rfl) rfl rfl) (Sub.nil _)), ?_⟩) ?_
        ·skip
         refine .loadF rfl Tryz.isAgg3 rfl (l_164.mem _ _ hm92) (cell_of_take (k := 0) hv93 rfl) ?_
         exact .finV rfl rfl Fz.r
        refine .cons (fun L env44 F_165 l_166 hL hdn hup hphi => ⟨[(6, (.slice p27 x17.N.length k28))], fun S hS hV => (.cons (hS _ _ rfl) (Sub.nil _)), ?_⟩) ?_
        ·skip
         refine .move rfl rfl ?_
         exact .finV rfl rfl Fz.r
        refine .cons (fun L env44 F_167 l_168 hL hdn hup hphi => ⟨[(43, (.slice p27 x17.N.length k28))], fun S hS hV => (.cons (hV 16 43 _ (hdn 1 16 rfl) rfl rfl) (Sub.nil _)), ?_⟩) ?_
        ·skip
         refine .idxQ rfl Tryz.underlying31 Tryz.sizeOf3 hq104 rfl rfl ?_
         exact .finV rfl rfl Fz.r
        refine .cons (fun L env44 F_169 l_170 hL hdn hup hphi => ⟨[(44, (.pointer (some ⟨b96, o97, none⟩)))], fun S hS hV => (.cons (hV 17 44 _ (hdn 1 17 rfl) rfl rfl) (Sub.nil _)), ?_⟩) ?_
        ·skip
         refine .loadF rfl Tryz.isAgg3 rfl (l_170.mem _ _ hm102) (cell_of_take (k := 0) hv103 rfl) ?_
         exact .finV rfl rfl Fz.r
        refine .cons (fun L env44 F_171 l_172 hL hdn hup hphi => ⟨[(6, (.slice p27 x17.N.length k28))], fun S hS hV => (.cons (hS _ _ rfl) (Sub.nil _)), ?_⟩) ?_
        ·skip
         refine .move rfl rfl ?_
         exact .finV rfl rfl Fz.r
        refine .cons (fun L env44 F_173 l_174 hL hdn hup hphi => ⟨[(46, (.slice p27 x17.N.length k28))], fun S hS hV => (.cons (hV 19 46 _ (hdn 1 19 rfl) rfl rfl) (Sub.nil _)), ?_⟩) ?_
        ·skip
         refine .idxQ rfl Tryz.underlying31 Tryz.sizeOf3 hq114 rfl rfl ?_
         exact .finV rfl rfl Fz.r
        refine .cons (fun L env44 F_175 l_176 hL hdn hup hphi => ⟨[(47, (.pointer (some ⟨b106, o107, none⟩)))], fun S hS hV => (.cons (hV 20 47 _ (hdn 1 20 rfl) rfl rfl) (Sub.nil _)), ?_⟩) ?_
        ·skip
         refine .loadF rfl Tryz.isAgg3 rfl (l_176.mem _ _ hm112) (cell_of_take (k := 0) hv113 rfl) ?_
         exact .finV rfl rfl Fz.r
        refine .cons (fun L env44 F_177 l_178 hL hdn hup hphi => ⟨[(6, (.slice p27 x17.N.length k28))], fun S hS hV => (.cons (hS _ _ rfl) (Sub.nil _)), ?_⟩) ?_
        ·skip
         refine .move rfl rfl ?_
         exact .finV rfl rfl Fz.r
        refine .cons (fun L env44 F_179 l_180 hL hdn hup hphi => ⟨[(49, (.slice p27 x17.N.length k28))], fun S hS hV => (.cons (hV 22 49 _ (hdn 1 22 rfl) rfl rfl) (Sub.nil _)), ?_⟩) ?_
        ·skip
         refine .idxQ rfl Tryz.underlying31 Tryz.sizeOf3 hq124 rfl rfl ?_
         exact .finV rfl rfl Fz.r
        refine .cons (fun L env44 F_181 l_182 hL hdn hup hphi => ⟨[(50, (.pointer (some ⟨b116, o117, none⟩)))], fun S hS hV => (.cons (hV 23 50 _ (hdn 1 23 rfl) rfl rfl) (Sub.nil _)), ?_⟩) ?_
        ·skip
         refine .loadF rfl Tryz.isAgg3 rfl (l_182.mem _ _ hm122) (cell_of_take (k := 0) hv123 rfl) ?_
         exact .finV rfl rfl Fz.r
        refine .cons (fun L env44 F_183 l_184 hL hdn hup hphi => ⟨[(30, (.int .i64 x45)), (33, (.int .i64 x55)), (36, (.int .i64 x65)), (39, (.int .i64 x75)), (42, (.int .i64 x85)), (45, (.int .i64 x95)), (48, (.int .i64 x105)), (51, (.int .i64 x115))], fun S hS hV => (.cons (hV 3 30 _ (hdn 1 3 rfl) rfl rfl) (.cons (hV 6 33 _ (hdn 1 6 rfl) rfl rfl) (.cons (hV 9 36 _ (hdn 1 9 rfl) rfl rfl) (.cons (hV 12 39 _ (hdn 1 12 rfl) rfl rfl) (.cons (hV 15 42 _ (hdn 1 15 rfl) rfl rfl) (.cons (hV 18 45 _ (hdn 1 18 rfl) rfl rfl) (.cons (hV 21 48 _ (hdn 1 21 rfl) rfl rfl) (.cons (hV 24 51 _ (hdn 1 24 rfl) rfl rfl) (Sub.nil _))))))))), ?_⟩) ?_
        ·skip
         refine .build (cs := (cApiCaskEvent (ApiCaskEvent.mk x45 x55 x65 x75 x85 x95 x105 x115)).toArray) rfl Tryz.underlying69 Tryz.zeroValue69 (plApiCaskEvent _ Tryz.underlying69) rfl rfl (by kernel_rfl) ?_
         exact .finV rfl rfl Fz.r
        refine .cons (fun L env44 F_185 l_186 hL hdn hup hphi => ⟨[(52, (eApiCaskEvent (ApiCaskEvent.mk x45 x55 x65 x75 x85 x95 x105 x115)))], fun S hS hV => (.cons (hV 25 52 _ (hdn 1 25 rfl) rfl rfl) (Sub.nil _)), ?_⟩) ?_
        ·skip
         refine .sliceLit (cs := [.int .i64 (ApiCaskEvent.mk x45 x55 x65 x75 x85 x95 x105 x115).Kind, .int .i64 (ApiCaskEvent.mk x45 x55 x65 x75 x85 x95 x105 x115).Day, .int .i64 (ApiCaskEvent.mk x45 x55 x65 x75 x85 x95 x105 x115).Cask, .int .i64 (ApiCaskEvent.mk x45 x55 x65 x75 x85 x95 x105 x115).Other, .int .i64 (ApiCaskEvent.mk x45 x55 x65 x75 x85 x95 x105 x115).Person, .int .i64 (ApiCaskEvent.mk x45 x55 x65 x75 x85 x95 x105 x115).To, .int .i64 (ApiCaskEvent.mk x45 x55 x65 x75 x85 x95 x105 x115).Amount, .int .i64 (ApiCaskEvent.mk x45 x55 x65 x75 x85 x95 x105 x115).Where]) (zc := [.int .i64 (ApiCaskEvent.mk 0 0 0 0 0 0 0 0).Kind, .int .i64 (ApiCaskEvent.mk 0 0 0 0 0 0 0 0).Day, .int .i64 (ApiCaskEvent.mk 0 0 0 0 0 0 0 0).Cask, .int .i64 (ApiCaskEvent.mk 0 0 0 0 0 0 0 0).Other, .int .i64 (ApiCaskEvent.mk 0 0 0 0 0 0 0 0).Person, .int .i64 (ApiCaskEvent.mk 0 0 0 0 0 0 0 0).To, .int .i64 (ApiCaskEvent.mk 0 0 0 0 0 0 0 0).Amount, .int .i64 (ApiCaskEvent.mk 0 0 0 0 0 0 0 0).Where]) rfl Tryz.underlying58 Tryz.sizeOf69 Tryz.zeroValue69 rfl rfl rfl (by kernel_rfl) (by kernel_rfl) (fun b187 F_188 l_189 hb190 => ?_)
         have h191 : RepSl 8 (Ex cApiCaskEvent) F_188 (some ⟨b187, 0, none⟩) 1 ([(ApiCaskEvent.mk x45 x55 x65 x75 x85 x95 x105 x115)]) := RepSl.ofRow hb190 (.cons ok_t69.mono rfl .nil) rfl rfl
         exact .finQ ({ env44 with a := env44.a, n := (updN env44.n 260 b187), c := env44.c, o := env44.o }) [true, true, true, true, true, true, true, true, true, true, true, true, true, true, true, true, true, true, true, true, true, true, true, true, true, true, false] rfl (by kernel_rfl) rfl rfl l_189 (fun _ le => h191.mono le) (cons_eq rfl (cons_eq rfl rfl))
        exact .nil
       have h130 := hphi 26 _ rfl
       refine .norm (S' := [(0, (.slice p2 l_1.length k3)), (4, (.slice p13 s10.1.length k14)), (5, (.int .i64 s10.2)), (6, (.slice p27 x17.N.length k28)), (27, (.slice p13 s10.1.length k14)), (28, (.slice p27 x17.N.length k28)), (29, (.pointer (some ⟨b46, o47, none⟩))), (30, (.int .i64 x45)), (31, (.slice p27 x17.N.length k28)), (32, (.pointer (some ⟨b56, o57, none⟩))), (33, (.int .i64 x55)), (34, (.slice p27 x17.N.length k28)), (35, (.pointer (some ⟨b66, o67, none⟩))), (36, (.int .i64 x65)), (37, (.slice p27 x17.N.length k28)), (38, (.pointer (some ⟨b76, o77, none⟩))), (39, (.int .i64 x75)), (40, (.slice p27 x17.N.length k28)), (41, (.pointer (some ⟨b86, o87, none⟩))), (42, (.int .i64 x85)), (43, (.slice p27 x17.N.length k28)), (44, (.pointer (some ⟨b96, o97, none⟩))), (45, (.int .i64 x95)), (46, (.slice p27 x17.N.length k28)), (47, (.pointer (some ⟨b106, o107, none⟩))), (48, (.int .i64 x105)), (49, (.slice p27 x17.N.length k28)), (50, (.pointer (some ⟨b116, o117, none⟩))), (51, (.int .i64 x115)), (52, (eApiCaskEvent (ApiCaskEvent.mk x45 x55 x65 x75 x85 x95 x105 x115))), (53, (.slice (some ⟨env44.n 260, 0, none⟩) ([(ApiCaskEvent.mk x45 x55 x65 x75 x85 x95 x105 x115)]).length 1))]) (.cons (k := 0) rfl (.cons (k := 4) rfl (.cons (k := 5) rfl (.cons (k := 6) rfl (.cons (k := 27) rfl (.cons (k := 28) rfl (.cons (k := 29) rfl (.cons (k := 30) rfl (.cons (k := 31) rfl (.cons (k := 32) rfl (.cons (k := 33) rfl (.cons (k := 34) rfl (.cons (k := 35) rfl (.cons (k := 36) rfl (.cons (k := 37) rfl (.cons (k := 38) rfl (.cons (k := 39) rfl (.cons (k := 40) rfl (.cons (k := 41) rfl (.cons (k := 42) rfl (.cons (k := 43) rfl (.cons (k := 44) rfl (.cons (k := 45) rfl (.cons (k := 46) rfl (.cons (k := 47) rfl (.cons (k := 48) rfl (.cons (k := 49) rfl (.cons (k := 50) rfl (.cons (k := 51) rfl (.cons (k := 52) rfl (.cons (k := 53) rfl (.nil _)))))))))))))))))))))))))))))))) (rfl : _ = [ownSl 8 (Ex cApiCaskEvent) F_11 69 p13 k14 s10.1, R]) ?_
       refine .append 0 ok_t69 l_132 rfl Tryz.underlying58 Tryz.underlying58 rfl rfl rfl h130 rfl rfl (fun l_192 p193 k194 e195 => ?_)
       refine .assign rfl rfl (.nil ?_)
       exact .nil fun e a w h => by cases e; exact ⟨rfl, ⟨F_131, p193, k194, l_132, h.1.sub (.cons (k := 0) rfl (.cons (k := 4) rfl (.cons (k := 5) rfl (.nil _)))), h.2⟩⟩
      ·skip
       refine .skip ?_
       exact .nil fun e a w h => by cases e; exact ⟨rfl, ⟨F_11, p13, k14, Fz.r, h.1.sub (.cons (k := 0) rfl (.cons (k := 4) rfl (.cons (k := 5) rfl (.nil _)))), h.2⟩⟩
     refine .block ?_
     exact .nil fun e a w h => by cases e; exact ⟨rfl, ⟨F_197, p199, k200, l_198, h.1.sub (.cons (k := 0) rfl (.cons (k := 4) rfl (.cons (k := 5) rfl (.nil _)))), h.2⟩⟩
    refine .code (.region (.move rfl rfl (.add rfl rfl rfl (.assignL rfl rfl (fun i208 e209 => ?_)))))
    refine .nil ?_
    exact .nil (LPost.norm fun a w h => ⟨F_203, p205, k206, (Fz.t l_12 l_204), h.1.sub (.cons (k := 0) rfl (.cons (k := 4) rfl (.cons (k := 5) rfl (.nil _)))), h.2⟩)
   ·skip
    refine .exitOut rfl (LPost.exit fun a w h => ⟨rfl, F_11, p13, k14, l_12, h.1.sub (.cons (k := 4) rfl (.nil _)), h.2⟩)
  ·intro b210 hb0 hk e a w hD
   obtain ⟨rfl, F_211, p213, k214, l_212, hA⟩ := hD
   refine interp_exit rfl (GE.app ?_ hk a w hA)
   refine .code (.seq (.region (.move rfl rfl (.assign rfl rfl (.assign rfl rfl (.nil (.code (.freezeSl 0 rfl Fz.r (fun F_216 l_217 h218 => ?_)))))))))
   exact .ret0 Tryz.results32 (.tmp rfl (.tmp rfl (.nil))) (i := 0) rfl (Fz.t l_6 (Fz.t l_212 l_217)) ⟨p213, k214, rfl, h218⟩
noncomputable def b_wormtubref14_Duties_1 (l_1 : (List ApiBooked)) (s10 : (List ApiDutyEvent) × Int) : Option (Ctl ((List ApiDutyEvent) × Int) (((List ApiDutyEvent)))) :=
 if (decide (s10.2 < (l_1.length : Int))) then (((idxL l_1 s10.2).bind fun x17 => (idxL l_1 s10.2).bind fun x30 => (if (x30.Kind == 3) then ((idxL x17.N 0).bind fun x45 => (idxL x17.N 1).bind fun x55 => (idxL x17.N 2).bind fun x65 => (idxL x17.N 3).bind fun x75 => (idxL x17.N 4).bind fun x85 => (idxL x17.N 5).bind fun x95 => (appO s10.1 ([(ApiDutyEvent.mk x45 x55 x65 x75 x85 x95)])).bind fun l_160 => some l_160) else (some s10.1) : Option ((List ApiDutyEvent))).bind fun j164 => some j164 : Option ((List ApiDutyEvent))).bind fun j170 => bindv (w64 (s10.2 + 1)) fun i176 => some (.next (j170, i176))) else (some (.done s10.1))
noncomputable def m_wormtubref14_Duties (l_1 : (List ApiBooked)) : Option ((List ApiDutyEvent) × Int) :=
 (m_wormtubref14_Valid l_1).bind fun r_7 => if (!r_7) then (some ([], 1)) else ((loopM (b_wormtubref14_Duties_1 l_1) ([], 0)).bind fun b178 => some (b178, 0))
set_option maxRecDepth 100000 in
set_option maxHeartbeats 4000000 in
theorem c_wormtubref14_Duties (F0 : Fz) (l_1 : (List ApiBooked)) (p2 : Option Addr) (k3 : Nat) (h4 : RepSl 2 rApiBooked F0 p2 k3 l_1) : CT0 Tryz.prog 33 [(.slice p2 l_1.length k3)].toArray F0 (m_wormtubref14_Duties l_1) (fun r F v => ∃ (p0 : Option Addr) (k0 : Nat), v = .tuple #[(.slice p0 r.1.length k0), (.int .i64 r.2)] ∧ RepSl 6 (Ex cApiDutyEvent) F p0 k0 r.1) := by
 refine CT0.enter Tryz.func33 rfl Tryz.ntmps33 rfl fun r R => ?_
 unfold m_wormtubref14_Duties
 refine .seq (.region (.assign rfl rfl (.assign rfl rfl (.nil (.code (.seq (.seq (.region (.move rfl rfl (.call0 rfl Tryz.call46 rfl rfl rfl (c_wormtubref14_Valid _ l_1 p2 k3 h4) ?_))))))))))
 rintro r_7 F_5 _ - l_6 rfl
 refine .not rfl rfl (.nil (.code (.cond rfl (fun hb8 => ?_) (fun hb8 => ?_))))
 ·skip
  refine .seq (.region (.assign rfl rfl (.assign rfl rfl (.nil (.code ?_)))))
  exact .ret0 Tryz.results33 (.tmp rfl (.tmp rfl (.nil))) (i := 0) rfl l_6 ⟨none, 0, rfl, (RepSl.nil.mono l_6)⟩
 ·skip
  refine .skip (.code (.seq (.region (.assign rfl rfl (.nil (.code (.seq (.seq (.region (.assign rfl rfl (.nil ?_)))))))))))
  refine .code (.block (.ownNil 6 (Ex cApiDutyEvent) 72 (.keep (.cons (k := 0) rfl (.cons (k := 4) rfl (.cons (k := 5) rfl (.nil _)))) ?_)))
  refine .loop (fun (s10 : (List ApiDutyEvent) × Int) a w => ∃ (F_11 : Fz) (p13 : Option Addr) (k14 : Nat), F_5 ≤ F_11 ∧ Hd 50 [] [(0, (.slice p2 l_1.length k3)), (4, (.slice p13 s10.1.length k14)), (5, (.int .i64 s10.2))] F_11 [ownSl 6 (Ex cApiDutyEvent) F_11 72 p13 k14 s10.1, R] a w) (fun b178 e a w => e = .exit 0 ∧ ∃ (F_179 : Fz) (p181 : Option Addr) (k182 : Nat), F_5 ≤ F_179 ∧ Hd 50 [] [(4, (.slice p181 b178.length k182))] F_179 [ownSl 6 (Ex cApiDutyEvent) F_179 72 p181 k182 b178, R] a w) ?_ ?_ ?_
  ·exact fun a w h => ⟨F_5, none, 0, Fz.r, h.1.sub (.cons (k := 0) rfl (.cons (k := 4) rfl (.cons (k := 5) rfl (.nil _)))), h.2⟩
  ·intro s10 ctl
   refine GC.ex (fun a w ⟨F_11, p13, k14, l_12, hA⟩ => ⟨_, hA, ?_⟩)
   unfold b_wormtubref14_Duties_1
   refine .seq (.seq (.region (.move rfl rfl (.move rfl rfl (.lenS rfl rfl Tryz.underlying22 rfl (.lss rfl rfl rfl (.nil (.code (.cond rfl (fun hb16 => ?_) (fun hb16 => ?_))))))))))
   ·skip
    refine .skip (.code (.seq (.keep (.cons (k := 0) rfl (.cons (k := 4) rfl (.cons (k := 5) rfl (.nil _)))) ?_)))
    refine GC.join0 (σ := (List ApiDutyEvent)) (fun j170 a w => ∃ (F_171 : Fz) (p173 : Option Addr) (k174 : Nat), F_11 ≤ F_171 ∧ Hd 50 [] [(0, (.slice p2 l_1.length k3)), (4, (.slice p173 j170.length k174)), (5, (.int .i64 s10.2))] F_171 [ownSl 6 (Ex cApiDutyEvent) F_171 72 p173 k174 j170, R] a w) (fun sj => ?_) (fun j170 hs0 => GE.ex (fun a w ⟨F_171, p173, k174, l_172, hA⟩ => ⟨_, hA, ?_⟩))
    ·skip
     refine .block (.seq (.region (.move rfl rfl (.move rfl rfl (.idx rfl Tryz.underlying22 Tryz.sizeOf41 (h4.mono (Fz.t l_6 l_12)) rfl rfl (fun x17 b18 o19 T20 fr21 cs22 e23 hm24 hv25 => ?_))))))
     obtain ⟨p27, k28, hv25, h29⟩ := hv25
     refine .fieldAddr rfl Tryz.underlying41 rfl Tryz.sizeOf31 rfl (.loadF rfl Tryz.isAgg31 rfl hm24 (cell_of_take (k := 1) hv25 rfl) (.assign rfl rfl (.nil (.code (.seq (.region (.move rfl rfl (.move rfl rfl (.idx rfl Tryz.underlying22 Tryz.sizeOf41 (h4.mono (Fz.t l_6 l_12)) rfl rfl (fun x30 b31 o32 T33 fr34 cs35 e36 hm37 hv38 => ?_))))))))))
     obtain ⟨p40, k41, hv38, h42⟩ := hv38
     refine .fieldAddr rfl Tryz.underlying41 rfl Tryz.sizeOf3 rfl (.loadF rfl Tryz.isAgg3 rfl hm37 (cell_of_take (k := 0) hv38 rfl) (.eql rfl rfl rfl (.nil (.code (.keep (.cons (k := 0) rfl (.cons (k := 4) rfl (.cons (k := 5) rfl (.cons (k := 6) rfl (.cons (k := 26) rfl (.nil _)))))) ?_)))))
     refine GC.join0 (σ := (List ApiDutyEvent)) (fun j164 a w => ∃ (F_165 : Fz) (p167 : Option Addr) (k168 : Nat), F_11 ≤ F_165 ∧ Hd 50 [] [(0, (.slice p2 l_1.length k3)), (4, (.slice p167 j164.length k168)), (5, (.int .i64 s10.2))] F_165 [ownSl 6 (Ex cApiDutyEvent) F_165 72 p167 k168 j164, R] a w) (fun sj => ?_) (fun j164 hs0 => GE.ex (fun a w ⟨F_165, p167, k168, l_166, hA⟩ => ⟨_, hA, ?_⟩))
     ·skip
      refine .cond rfl (fun hb43 => ?_) (fun hb43 => ?_)
      ·skip
       refine .keep (.cons (k := 0) rfl (.cons (k := 4) rfl (.cons (k := 5) rfl (.cons (k := 6) rfl (.nil _))))) (.bind (fun x45 e51 => ?_))
       obtain ⟨b46, o47, T48, fr49, cs50, hm52, hv53, hq54⟩ := RepSl.idxE h29 e51
       refine .bind (fun x55 e61 => ?_)
       obtain ⟨b56, o57, T58, fr59, cs60, hm62, hv63, hq64⟩ := RepSl.idxE h29 e61
       refine .bind (fun x65 e71 => ?_)
       obtain ⟨b66, o67, T68, fr69, cs70, hm72, hv73, hq74⟩ := RepSl.idxE h29 e71
       refine .bind (fun x75 e81 => ?_)
       obtain ⟨b76, o77, T78, fr79, cs80, hm82, hv83, hq84⟩ := RepSl.idxE h29 e81
       refine .bind (fun x85 e91 => ?_)
       obtain ⟨b86, o87, T88, fr89, cs90, hm92, hv93, hq94⟩ := RepSl.idxE h29 e91
       refine .bind (fun x95 e101 => ?_)
       obtain ⟨b96, o97, T98, fr99, cs100, hm102, hv103, hq104⟩ := RepSl.idxE h29 e101
       refine .drawGD 21 0 (fun env44 => [((.slice p13 s10.1.length k14), fun _ => True), ((.slice p27 x17.N.length k28), fun _ => True), ((.pointer (some ⟨b46, o47, none⟩)), fun _ => True), ((.int .i64 x45), fun _ => True), ((.slice p27 x17.N.length k28), fun _ => True), ((.pointer (some ⟨b56, o57, none⟩)), fun _ => True), ((.int .i64 x55), fun _ => True), ((.slice p27 x17.N.length k28), fun _ => True), ((.pointer (some ⟨b66, o67, none⟩)), fun _ => True), ((.int .i64 x65), fun _ => True), ((.slice p27 x17.N.length k28), fun _ => True), ((.pointer (some ⟨b76, o77, none⟩)), fun _ => True), ((.int .i64 x75), fun _ => True), ((.slice p27 x17.N.length k28), fun _ => True), ((.pointer (some ⟨b86, o87, none⟩)), fun _ => True), ((.int .i64 x85), fun _ => True), ((.slice p27 x17.N.length k28), fun _ => True), ((.pointer (some ⟨b96, o97, none⟩)), fun _ => True), ((.int .i64 x95), fun _ => True), ((eApiDutyEvent (ApiDutyEvent.mk x45 x55 x65 x75 x85 x95)), fun _ => True), ((.slice (some ⟨env44.n 200, 0, none⟩) ([(ApiDutyEvent.mk x45 x55 x65 x75 x85 x95)]).length 1), fun G => RepSl 6 (Ex cApiDutyEvent) G (some ⟨env44.n 200, 0, none⟩) 1 ([(ApiDutyEvent.mk x45 x55 x65 x75 x85 x95)]))]) (fun L env44 => [ownSl 6 (Ex cApiDutyEvent) F_11 72 p13 k14 s10.1, R]) mixedOK (by kernel_rfl) (deepN (k := 21) (n := 23) rfl (allLt23 (p := fun t => 21 ≤ t → ∀ j, j < t → ∃ s, depB _ s t j = true) (fun h => absurd h (by decide)) (fun h => absurd h (by decide)) (fun h => absurd h (by decide)) (fun h => absurd h (by decide)) (fun h => absurd h (by decide)) (fun h => absurd h (by decide)) (fun h => absurd h (by decide)) (fun h => absurd h (by decide)) (fun h => absurd h (by decide)) (fun h => absurd h (by decide)) (fun h => absurd h (by decide)) (fun h => absurd h (by decide)) (fun h => absurd h (by decide)) (fun h => absurd h (by decide)) (fun h => absurd h (by decide)) (fun h => absurd h (by decide)) (fun h => absurd h (by decide)) (fun h => absurd h (by decide)) (fun h => absurd h (by decide)) (fun h => absurd h (by decide)) (fun h => absurd h (by decide)) (fun _ => allLt21 (p := fun j => ∃ s, depB _ s 21 j = true) ⟨1, rfl⟩ ⟨5, rfl⟩ ⟨4, rfl⟩ ⟨3, rfl⟩ ⟨5, rfl⟩ ⟨4, rfl⟩ ⟨3, rfl⟩ ⟨5, rfl⟩ ⟨4, rfl⟩ ⟨3, rfl⟩ ⟨5, rfl⟩ ⟨4, rfl⟩ ⟨3, rfl⟩ ⟨5, rfl⟩ ⟨4, rfl⟩ ⟨3, rfl⟩ ⟨5, rfl⟩ ⟨4, rfl⟩ ⟨3, rfl⟩ ⟨2, rfl⟩ ⟨1, rfl⟩) (fun _ => allLt22 (p := fun j => ∃ s, depB _ s 22 j = true) ⟨1, rfl⟩ ⟨1, rfl⟩ ⟨1, rfl⟩ ⟨1, rfl⟩ ⟨1, rfl⟩ ⟨1, rfl⟩ ⟨1, rfl⟩ ⟨1, rfl⟩ ⟨1, rfl⟩ ⟨1, rfl⟩ ⟨1, rfl⟩ ⟨1, rfl⟩ ⟨1, rfl⟩ ⟨1, rfl⟩ ⟨1, rfl⟩ ⟨1, rfl⟩ ⟨1, rfl⟩ ⟨1, rfl⟩ ⟨1, rfl⟩ ⟨1, rfl⟩ ⟨1, rfl⟩ ⟨1, rfl⟩))) rfl (fun _ => rfl) (by kernel_rfl) (fun _ => rfl) ?_ (fun env44 F_111 l_112 hphi => ?_)
       ·skip
        refine .cons (fun L env44 F_113 l_114 hL hdn hup hphi => ⟨[(4, (.slice p13 s10.1.length k14))], fun S hS hV => (.cons (hS _ _ rfl) (Sub.nil _)), ?_⟩) ?_
        ·skip
         refine .move rfl rfl ?_
         exact .finV rfl rfl Fz.r
        refine .cons (fun L env44 F_115 l_116 hL hdn hup hphi => ⟨[(6, (.slice p27 x17.N.length k28))], fun S hS hV => (.cons (hS _ _ rfl) (Sub.nil _)), ?_⟩) ?_
        ·skip
         refine .move rfl rfl ?_
         exact .finV rfl rfl Fz.r
        refine .cons (fun L env44 F_117 l_118 hL hdn hup hphi => ⟨[(28, (.slice p27 x17.N.length k28))], fun S hS hV => (.cons (hV 1 28 _ (hdn 1 1 rfl) rfl rfl) (Sub.nil _)), ?_⟩) ?_
        ·skip
         refine .idxQ rfl Tryz.underlying31 Tryz.sizeOf3 hq54 rfl rfl ?_
         exact .finV rfl rfl Fz.r
        refine .cons (fun L env44 F_119 l_120 hL hdn hup hphi => ⟨[(29, (.pointer (some ⟨b46, o47, none⟩)))], fun S hS hV => (.cons (hV 2 29 _ (hdn 1 2 rfl) rfl rfl) (Sub.nil _)), ?_⟩) ?_
        ·skip
         refine .loadF rfl Tryz.isAgg3 rfl (l_120.mem _ _ hm52) (cell_of_take (k := 0) hv53 rfl) ?_
         exact .finV rfl rfl Fz.r
        refine .cons (fun L env44 F_121 l_122 hL hdn hup hphi => ⟨[(6, (.slice p27 x17.N.length k28))], fun S hS hV => (.cons (hS _ _ rfl) (Sub.nil _)), ?_⟩) ?_
        ·skip
         refine .move rfl rfl ?_
         exact .finV rfl rfl Fz.r
        refine .cons (fun L env44 F_123 l_124 hL hdn hup hphi => ⟨[(31, (.slice p27 x17.N.length k28))], fun S hS hV => (.cons (hV 4 31 _ (hdn 1 4 rfl) rfl rfl) (Sub.nil _)), ?_⟩) ?_
        ·skip
         refine .idxQ rfl Tryz.underlying31 Tryz.sizeOf3 hq64 rfl rfl ?_
         exact .finV rfl rfl Fz.r
        refine .cons (fun L env44 F_125 l_126 hL hdn hup hphi => ⟨[(32, (.pointer (some ⟨b56, o57, none⟩)))], fun S hS hV => (.cons (hV 5 32 _ (hdn 1 5 rfl) rfl rfl) (Sub.nil _)), ?_⟩) ?_
        ·skip
         refine .loadF rfl Tryz.isAgg3 rfl (l_126.mem _ _ hm62) (cell_of_take (k := 0) hv63 rfl) ?_
         exact .finV rfl rfl Fz.r
        refine .cons (fun L env44 F_127 l_128 hL hdn hup hphi => ⟨[(6, (.slice p27 x17.N.length k28))], fun S hS hV => (.cons (hS _ _ rfl) (Sub.nil _)), ?_⟩) ?_
        ·skip
         refine .move rfl rfl ?_
         exact .finV rfl rfl Fz.r
        refine .cons (fun L env44 F_129 l_130 hL hdn hup hphi => ⟨[(34, (.slice p27 x17.N.length k28))], fun S hS hV => (.cons (hV 7 34 _ (hdn 1 7 rfl) rfl rfl) (Sub.nil _)), ?_⟩) ?_
        ·skip
         refine .idxQ rfl Tryz.underlying31 Tryz.sizeOf3 hq74 rfl rfl ?_
         exact .finV rfl rfl Fz.r
        refine .cons (fun L env44 F_131 l_132 hL hdn hup hphi => ⟨[(35, (.pointer (some ⟨b66, o67, none⟩)))], fun S hS hV => (.cons (hV 8 35 _ (hdn 1 8 rfl) rfl rfl) (Sub.nil _)), ?_⟩) ?_
        ·skip
         refine .loadF rfl Tryz.isAgg3 rfl (l_132.mem _ _ hm72) (cell_of_take (k := 0) hv73 rfl) ?_
         exact .finV rfl rfl Fz.r
        refine .cons (fun L env44 F_133 l_134 hL hdn hup hphi => ⟨[(6, (.slice p27 x17.N.length k28))], fun S hS hV => (.cons (hS _ _ rfl) (Sub.nil _)), ?_⟩) ?_
        ·skip
         refine .move rfl rfl ?_
         exact .finV rfl rfl Fz.r
        refine .cons (fun L env44 F_135 l_136 hL hdn hup hphi => ⟨[(37, (.slice p27 x17.N.length k28))], fun S hS hV => (.cons (hV 10 37 _ (hdn 1 10 rfl) rfl rfl) (Sub.nil _)), ?_⟩) ?_
        ·skip
         refine .idxQ rfl Tryz.underlying31 Tryz.sizeOf3 hq84 rfl rfl ?_
         exact .finV rfl rfl Fz.r
        refine .cons (fun L env44 F_137 l_138 hL hdn hup hphi => ⟨[(38, (.pointer (some ⟨b76, o77, none⟩)))], fun S hS hV => (.cons (hV 11 38 _ (hdn 1 11 rfl) rfl rfl) (Sub.nil _)), ?_⟩) ?_
        ·skip
         refine .loadF rfl Tryz.isAgg3 rfl (l_138.mem _ _ hm82) (cell_of_take (k := 0) hv83 rfl) ?_
         exact .finV rfl rfl Fz.r
        refine .cons (fun L env44 F_139 l_140 hL hdn hup hphi => ⟨[(6, (.slice p27 x17.N.length k28))], fun S hS hV => (.cons (hS _ _ rfl) (Sub.nil _)), ?_⟩) ?_
        ·skip
         refine .move rfl rfl ?_
         exact .finV rfl rfl Fz.r
        refine .cons (fun L env44 F_141 l_142 hL hdn hup hphi => ⟨[(40, (.slice p27 x17.N.length k28))], fun S hS hV => (.cons (hV 13 40 _ (hdn 1 13 rfl) rfl rfl) (Sub.nil _)), ?_⟩) ?_
        ·skip
         refine .idxQ rfl Tryz.underlying31 Tryz.sizeOf3 hq94 rfl rfl ?_
         exact .finV rfl rfl Fz.r
        refine .cons (fun L env44 F_143 l_144 hL hdn hup hphi => ⟨[(41, (.pointer (some ⟨b86, o87, none⟩)))], fun S hS hV => (.cons (hV 14 41 _ (hdn 1 14 rfl) rfl rfl) (Sub.nil _)), ?_⟩) ?_
        ·skip
         refine .loadF rfl Tryz.isAgg3 rfl (l_144.mem _ _ hm92) (cell_of_take (k := 0) hv93 rfl) ?_
         exact .finV rfl rfl Fz.r
        refine .cons (fun L env44 F_145 l_146 hL hdn hup hphi => ⟨[(6, (.slice p27 x17.N.length k28))], fun S hS hV => (.cons (hS _ _ rfl) (Sub.nil _)), ?_⟩) ?_
        ·skip
         refine .move rfl rfl ?_
         exact .finV rfl rfl Fz.r
        refine .cons (fun L env44 F_147 l_148 hL hdn hup hphi => ⟨[(43, (.slice p27 x17.N.length k28))], fun S hS hV => (.cons (hV 16 43 _ (hdn 1 16 rfl) rfl rfl) (Sub.nil _)), ?_⟩) ?_
        ·skip
         refine .idxQ rfl Tryz.underlying31 Tryz.sizeOf3 hq104 rfl rfl ?_
         exact .finV rfl rfl Fz.r
        refine .cons (fun L env44 F_149 l_150 hL hdn hup hphi => ⟨[(44, (.pointer (some ⟨b96, o97, none⟩)))], fun S hS hV => (.cons (hV 17 44 _ (hdn 1 17 rfl) rfl rfl) (Sub.nil _)), ?_⟩) ?_
        ·skip
         refine .loadF rfl Tryz.isAgg3 rfl (l_150.mem _ _ hm102) (cell_of_take (k := 0) hv103 rfl) ?_
         exact .finV rfl rfl Fz.r
        refine .cons (fun L env44 F_151 l_152 hL hdn hup hphi => ⟨[(30, (.int .i64 x45)), (33, (.int .i64 x55)), (36, (.int .i64 x65)), (39, (.int .i64 x75)), (42, (.int .i64 x85)), (45, (.int .i64 x95))], fun S hS hV => (.cons (hV 3 30 _ (hdn 1 3 rfl) rfl rfl) (.cons (hV 6 33 _ (hdn 1 6 rfl) rfl rfl) (.cons (hV 9 36 _ (hdn 1 9 rfl) rfl rfl) (.cons (hV 12 39 _ (hdn 1 12 rfl) rfl rfl) (.cons (hV 15 42 _ (hdn 1 15 rfl) rfl rfl) (.cons (hV 18 45 _ (hdn 1 18 rfl) rfl rfl) (Sub.nil _))))))), ?_⟩) ?_
        ·skip
         refine .build (cs := (cApiDutyEvent (ApiDutyEvent.mk x45 x55 x65 x75 x85 x95)).toArray) rfl Tryz.underlying72 Tryz.zeroValue72 (plApiDutyEvent _ Tryz.underlying72) rfl rfl (by kernel_rfl) ?_
         exact .finV rfl rfl Fz.r
        refine .cons (fun L env44 F_153 l_154 hL hdn hup hphi => ⟨[(46, (eApiDutyEvent (ApiDutyEvent.mk x45 x55 x65 x75 x85 x95)))], fun S hS hV => (.cons (hV 19 46 _ (hdn 1 19 rfl) rfl rfl) (Sub.nil _)), ?_⟩) ?_
        ·skip
         refine .sliceLit (cs := [.int .i64 (ApiDutyEvent.mk x45 x55 x65 x75 x85 x95).Kind, .int .i64 (ApiDutyEvent.mk x45 x55 x65 x75 x85 x95).Day, .int .i64 (ApiDutyEvent.mk x45 x55 x65 x75 x85 x95).Bond, .int .i64 (ApiDutyEvent.mk x45 x55 x65 x75 x85 x95).To, .int .i64 (ApiDutyEvent.mk x45 x55 x65 x75 x85 x95).Id, .int .i64 (ApiDutyEvent.mk x45 x55 x65 x75 x85 x95).Amount]) (zc := [.int .i64 (ApiDutyEvent.mk 0 0 0 0 0 0).Kind, .int .i64 (ApiDutyEvent.mk 0 0 0 0 0 0).Day, .int .i64 (ApiDutyEvent.mk 0 0 0 0 0 0).Bond, .int .i64 (ApiDutyEvent.mk 0 0 0 0 0 0).To, .int .i64 (ApiDutyEvent.mk 0 0 0 0 0 0).Id, .int .i64 (ApiDutyEvent.mk 0 0 0 0 0 0).Amount]) rfl Tryz.underlying56 Tryz.sizeOf72 Tryz.zeroValue72 rfl rfl rfl (by kernel_rfl) (by kernel_rfl) (fun b155 F_156 l_157 hb158 => ?_)
         have h159 : RepSl 6 (Ex cApiDutyEvent) F_156 (some ⟨b155, 0, none⟩) 1 ([(ApiDutyEvent.mk x45 x55 x65 x75 x85 x95)]) := RepSl.ofRow hb158 (.cons ok_t72.mono rfl .nil) rfl rfl
         exact .finQ ({ env44 with a := env44.a, n := (updN env44.n 200 b155), c := env44.c, o := env44.o }) [true, true, true, true, true, true, true, true, true, true, true, true, true, true, true, true, true, true, true, true, false] rfl (by kernel_rfl) rfl rfl l_157 (fun _ le => h159.mono le) (cons_eq rfl (cons_eq rfl rfl))
        exact .nil
       have h110 := hphi 20 _ rfl
       refine .norm (S' := [(0, (.slice p2 l_1.length k3)), (4, (.slice p13 s10.1.length k14)), (5, (.int .i64 s10.2)), (6, (.slice p27 x17.N.length k28)), (27, (.slice p13 s10.1.length k14)), (28, (.slice p27 x17.N.length k28)), (29, (.pointer (some ⟨b46, o47, none⟩))), (30, (.int .i64 x45)), (31, (.slice p27 x17.N.length k28)), (32, (.pointer (some ⟨b56, o57, none⟩))), (33, (.int .i64 x55)), (34, (.slice p27 x17.N.length k28)), (35, (.pointer (some ⟨b66, o67, none⟩))), (36, (.int .i64 x65)), (37, (.slice p27 x17.N.length k28)), (38, (.pointer (some ⟨b76, o77, none⟩))), (39, (.int .i64 x75)), (40, (.slice p27 x17.N.length k28)), (41, (.pointer (some ⟨b86, o87, none⟩))), (42, (.int .i64 x85)), (43, (.slice p27 x17.N.length k28)), (44, (.pointer (some ⟨b96, o97, none⟩))), (45, (.int .i64 x95)), (46, (eApiDutyEvent (ApiDutyEvent.mk x45 x55 x65 x75 x85 x95))), (47, (.slice (some ⟨env44.n 200, 0, none⟩) ([(ApiDutyEvent.mk x45 x55 x65 x75 x85 x95)]).length 1))]) (.cons (k := 0) rfl (.cons (k := 4) rfl (.cons (k := 5) rfl (.cons (k := 6) rfl (.cons (k := 27) rfl (.cons (k := 28) rfl (.cons (k := 29) rfl (.cons (k := 30) rfl (.cons (k := 31) rfl (.cons (k := 32) rfl (.cons (k := 33) rfl (.cons (k := 34) rfl (.cons (k := 35) rfl (.cons (k := 36) rfl (.cons (k := 37) rfl (.cons (k := 38) rfl (.cons (k := 39) rfl (.cons (k := 40) rfl (.cons (k := 41) rfl (.cons (k := 42) rfl (.cons (k := 43) rfl (.cons (k := 44) rfl (.cons (k := 45) rfl (.cons (k := 46) rfl (.cons (k := 47) rfl (.nil _)))))))))))))))))))))))))) (rfl : _ = [ownSl 6 (Ex cApiDutyEvent) F_11 72 p13 k14 s10.1, R]) ?_
       refine .append 0 ok_t72 l_112 rfl Tryz.underlying56 Tryz.underlying56 rfl rfl rfl h110 rfl rfl (fun l_160 p161 k162 e163 => ?_)
       refine .assign rfl rfl (.nil ?_)
       exact .nil fun e a w h => by cases e; exact ⟨rfl, ⟨F_111, p161, k162, l_112, h.1.sub (.cons (k := 0) rfl (.cons (k := 4) rfl (.cons (k := 5) rfl (.nil _)))), h.2⟩⟩
      ·skip
       refine .skip ?_
       exact .nil fun e a w h => by cases e; exact ⟨rfl, ⟨F_11, p13, k14, Fz.r, h.1.sub (.cons (k := 0) rfl (.cons (k := 4) rfl (.cons (k := 5) rfl (.nil _)))), h.2⟩⟩
     refine .block ?_
     exact .nil fun e a w h => by cases e; exact ⟨rfl, ⟨F_165, p167, k168, l_166, h.1.sub (.cons (k := 0) rfl (.cons (k := 4) rfl (.cons (k := 5) rfl (.nil _)))), h.2⟩⟩
    refine .code (.region (.move rfl rfl (.add rfl rfl rfl (.assignL rfl rfl (fun i176 e177 => ?_)))))
    refine .nil ?_
    exact .nil (LPost.norm fun a w h => ⟨F_171, p173, k174, (Fz.t l_12 l_172), h.1.sub (.cons (k := 0) rfl (.cons (k := 4) rfl (.cons (k := 5) rfl (.nil _)))), h.2⟩)
   ·skip
    refine .exitOut rfl (LPost.exit fun a w h => ⟨rfl, F_11, p13, k14, l_12, h.1.sub (.cons (k := 4) rfl (.nil _)), h.2⟩)
  ·intro b178 hb0 hk e a w hD
   obtain ⟨rfl, F_179, p181, k182, l_180, hA⟩ := hD
   refine interp_exit rfl (GE.app ?_ hk a w hA)
   refine .code (.seq (.region (.move rfl rfl (.assign rfl rfl (.assign rfl rfl (.nil (.code (.freezeSl 0 rfl Fz.r (fun F_184 l_185 h186 => ?_)))))))))
   exact .ret0 Tryz.results33 (.tmp rfl (.tmp rfl (.nil))) (i := 0) rfl (Fz.t l_6 (Fz.t l_180 l_185)) ⟨p181, k182, rfl, h186⟩
noncomputable def b_wormtubref14_Steps_1 (l_1 : (List ApiBooked)) (s10 : (List ApiMaltStep) × Int) : Option (Ctl ((List ApiMaltStep) × Int) (((List ApiMaltStep)))) :=
 if (decide (s10.2 < (l_1.length : Int))) then (((idxL l_1 s10.2).bind fun x17 => (if (x17.Kind == 0) then ((idxL l_1 s10.2).bind fun x32 => (idxL x32.N 0).bind fun x45 => (idxL l_1 s10.2).bind fun x55 => (idxL x55.N 1).bind fun x68 => (idxL l_1 s10.2).bind fun x78 => (idxL x78.N 2).bind fun x91 => (appO s10.1 ([(ApiMaltStep.mk x45 x68 x91)])).bind fun l_162 => some l_162) else (some s10.1) : Option ((List ApiMaltStep))).bind fun j166 => some j166 : Option ((List ApiMaltStep))).bind fun j172 => bindv (w64 (s10.2 + 1)) fun i178 => some (.next (j172, i178))) else (some (.done s10.1))
noncomputable def m_wormtubref14_Steps (l_1 : (List ApiBooked)) : Option ((List ApiMaltStep) × Int) :=
 (m_wormtubref14_Valid l_1).bind fun r_7 => if (!r_7) then (some ([], 1)) else ((loopM (b_wormtubref14_Steps_1 l_1) ([], 0)).bind fun b180 => some (b180, 0))
set_option maxRecDepth 100000 in
set_option maxHeartbeats 4000000 in
theorem c_wormtubref14_Steps (F0 : Fz) (l_1 : (List ApiBooked)) (p2 : Option Addr) (k3 : Nat) (h4 : RepSl 2 rApiBooked F0 p2 k3 l_1) : CT0 Tryz.prog 34 [(.slice p2 l_1.length k3)].toArray F0 (m_wormtubref14_Steps l_1) (fun r F v => ∃ (p0 : Option Addr) (k0 : Nat), v = .tuple #[(.slice p0 r.1.length k0), (.int .i64 r.2)] ∧ RepSl 3 (Ex cApiMaltStep) F p0 k0 r.1) := by
 refine CT0.enter Tryz.func34 rfl Tryz.ntmps34 rfl fun r R => ?_
 unfold m_wormtubref14_Steps
 refine .seq (.region (.assign rfl rfl (.assign rfl rfl (.nil (.code (.seq (.seq (.region (.move rfl rfl (.call0 rfl Tryz.call46 rfl rfl rfl (c_wormtubref14_Valid _ l_1 p2 k3 h4) ?_))))))))))
 rintro r_7 F_5 _ - l_6 rfl
 refine .not rfl rfl (.nil (.code (.cond rfl (fun hb8 => ?_) (fun hb8 => ?_))))
 ·skip
  refine .seq (.region (.assign rfl rfl (.assign rfl rfl (.nil (.code ?_)))))
  exact .ret0 Tryz.results34 (.tmp rfl (.tmp rfl (.nil))) (i := 0) rfl l_6 ⟨none, 0, rfl, (RepSl.nil.mono l_6)⟩
 ·skip
  refine .skip (.code (.seq (.region (.assign rfl rfl (.nil (.code (.seq (.seq (.region (.assign rfl rfl (.nil ?_)))))))))))
  refine .code (.block (.ownNil 3 (Ex cApiMaltStep) 49 (.keep (.cons (k := 0) rfl (.cons (k := 4) rfl (.cons (k := 5) rfl (.nil _)))) ?_)))
  refine .loop (fun (s10 : (List ApiMaltStep) × Int) a w => ∃ (F_11 : Fz) (p13 : Option Addr) (k14 : Nat), F_5 ≤ F_11 ∧ Hd 47 [] [(0, (.slice p2 l_1.length k3)), (4, (.slice p13 s10.1.length k14)), (5, (.int .i64 s10.2))] F_11 [ownSl 3 (Ex cApiMaltStep) F_11 49 p13 k14 s10.1, R] a w) (fun b180 e a w => e = .exit 0 ∧ ∃ (F_181 : Fz) (p183 : Option Addr) (k184 : Nat), F_5 ≤ F_181 ∧ Hd 47 [] [(4, (.slice p183 b180.length k184))] F_181 [ownSl 3 (Ex cApiMaltStep) F_181 49 p183 k184 b180, R] a w) ?_ ?_ ?_
  ·exact fun a w h => ⟨F_5, none, 0, Fz.r, h.1.sub (.cons (k := 0) rfl (.cons (k := 4) rfl (.cons (k := 5) rfl (.nil _)))), h.2⟩
  ·intro s10 ctl
   refine GC.ex (fun a w ⟨F_11, p13, k14, l_12, hA⟩ => ⟨_, hA, ?_⟩)
   unfold b_wormtubref14_Steps_1
   refine .seq (.seq (.region (.move rfl rfl (.move rfl rfl (.lenS rfl rfl Tryz.underlying22 rfl (.lss rfl rfl rfl (.nil (.code (.cond rfl (fun hb16 => ?_) (fun hb16 => ?_))))))))))
   ·skip
    refine .skip (.code (.seq (.keep (.cons (k := 0) rfl (.cons (k := 4) rfl (.cons (k := 5) rfl (.nil _)))) ?_)))
    refine GC.join0 (σ := (List ApiMaltStep)) (fun j172 a w => ∃ (F_173 : Fz) (p175 : Option Addr) (k176 : Nat), F_11 ≤ F_173 ∧ Hd 47 [] [(0, (.slice p2 l_1.length k3)), (4, (.slice p175 j172.length k176)), (5, (.int .i64 s10.2))] F_173 [ownSl 3 (Ex cApiMaltStep) F_173 49 p175 k176 j172, R] a w) (fun sj => ?_) (fun j172 hs0 => GE.ex (fun a w ⟨F_173, p175, k176, l_174, hA⟩ => ⟨_, hA, ?_⟩))
    ·skip
     refine .block (.seq (.region (.move rfl rfl (.move rfl rfl (.idx rfl Tryz.underlying22 Tryz.sizeOf41 (h4.mono (Fz.t l_6 l_12)) rfl rfl (fun x17 b18 o19 T20 fr21 cs22 e23 hm24 hv25 => ?_))))))
     obtain ⟨p27, k28, hv25, h29⟩ := hv25
     refine .fieldAddr rfl Tryz.underlying41 rfl Tryz.sizeOf3 rfl (.loadF rfl Tryz.isAgg3 rfl hm24 (cell_of_take (k := 0) hv25 rfl) (.eql rfl rfl rfl (.nil (.code (.keep (.cons (k := 0) rfl (.cons (k := 4) rfl (.cons (k := 5) rfl (.cons (k := 20) rfl (.nil _))))) ?_)))))
     refine GC.join0 (σ := (List ApiMaltStep)) (fun j166 a w => ∃ (F_167 : Fz) (p169 : Option Addr) (k170 : Nat), F_11 ≤ F_167 ∧ Hd 47 [] [(0, (.slice p2 l_1.length k3)), (4, (.slice p169 j166.length k170)), (5, (.int .i64 s10.2))] F_167 [ownSl 3 (Ex cApiMaltStep) F_167 49 p169 k170 j166, R] a w) (fun sj => ?_) (fun j166 hs0 => GE.ex (fun a w ⟨F_167, p169, k170, l_168, hA⟩ => ⟨_, hA, ?_⟩))
     ·skip
      refine .cond rfl (fun hb30 => ?_) (fun hb30 => ?_)
      ·skip
       refine .keep (.cons (k := 0) rfl (.cons (k := 4) rfl (.cons (k := 5) rfl (.nil _)))) (.bind (fun x32 e38 => ?_))
       obtain ⟨b33, o34, T35, fr36, cs37, hm39, hv40, hq41⟩ := RepSl.idxE (h4.mono (Fz.t l_6 l_12)) e38
       obtain ⟨p42, k43, hv40, h44⟩ := hv40
       refine .bind (fun x45 e51 => ?_)
       obtain ⟨b46, o47, T48, fr49, cs50, hm52, hv53, hq54⟩ := RepSl.idxE h44 e51
       refine .bind (fun x55 e61 => ?_)
       obtain ⟨b56, o57, T58, fr59, cs60, hm62, hv63, hq64⟩ := RepSl.idxE (h4.mono (Fz.t l_6 l_12)) e61
       obtain ⟨p65, k66, hv63, h67⟩ := hv63
       refine .bind (fun x68 e74 => ?_)
       obtain ⟨b69, o70, T71, fr72, cs73, hm75, hv76, hq77⟩ := RepSl.idxE h67 e74
       refine .bind (fun x78 e84 => ?_)
       obtain ⟨b79, o80, T81, fr82, cs83, hm85, hv86, hq87⟩ := RepSl.idxE (h4.mono (Fz.t l_6 l_12)) e84
       obtain ⟨p88, k89, hv86, h90⟩ := hv86
       refine .bind (fun x91 e97 => ?_)
       obtain ⟨b92, o93, T94, fr95, cs96, hm98, hv99, hq100⟩ := RepSl.idxE h90 e97
       refine .drawGD 24 0 (fun env31 => [((.slice p13 s10.1.length k14), fun _ => True), ((.slice p2 l_1.length k3), fun _ => True), ((.int .i64 s10.2), fun _ => True), ((.pointer (some ⟨b33, o34, none⟩)), fun _ => True), ((.pointer (some ⟨b33, o34 + 1, none⟩)), fun _ => True), ((.slice p42 x32.N.length k43), fun _ => True), ((.pointer (some ⟨b46, o47, none⟩)), fun _ => True), ((.int .i64 x45), fun _ => True), ((.slice p2 l_1.length k3), fun _ => True), ((.int .i64 s10.2), fun _ => True), ((.pointer (some ⟨b56, o57, none⟩)), fun _ => True), ((.pointer (some ⟨b56, o57 + 1, none⟩)), fun _ => True), ((.slice p65 x55.N.length k66), fun _ => True), ((.pointer (some ⟨b69, o70, none⟩)), fun _ => True), ((.int .i64 x68), fun _ => True), ((.slice p2 l_1.length k3), fun _ => True), ((.int .i64 s10.2), fun _ => True), ((.pointer (some ⟨b79, o80, none⟩)), fun _ => True), ((.pointer (some ⟨b79, o80 + 1, none⟩)), fun _ => True), ((.slice p88 x78.N.length k89), fun _ => True), ((.pointer (some ⟨b92, o93, none⟩)), fun _ => True), ((.int .i64 x91), fun _ => True), ((eApiMaltStep (ApiMaltStep.mk x45 x68 x91)), fun _ => True), ((.slice (some ⟨env31.n 230, 0, none⟩) ([(ApiMaltStep.mk x45 x68 x91)]).length 1), fun G => RepSl 3 (Ex cApiMaltStep) G (some ⟨env31.n 230, 0, none⟩) 1 ([(ApiMaltStep.mk x45 x68 x91)]))]) (fun L env31 => [ownSl 3 (Ex cApiMaltStep) F_11 49 p13 k14 s10.1, R]) mixedOK (by kernel_rfl) (deepN (k := 24) (n := 26) rfl (allLt26 (p := fun t => 24 ≤ t → ∀ j, j < t → ∃ s, depB _ s t j = true) (fun h => absurd h (by decide)) (fun h => absurd h (by decide)) (fun h => absurd h (by decide)) (fun h => absurd h (by decide)) (fun h => absurd h (by decide)) (fun h => absurd h (by decide)) (fun h => absurd h (by decide)) (fun h => absurd h (by decide)) (fun h => absurd h (by decide)) (fun h => absurd h (by decide)) (fun h => absurd h (by decide)) (fun h => absurd h (by decide)) (fun h => absurd h (by decide)) (fun h => absurd h (by decide)) (fun h => absurd h (by decide)) (fun h => absurd h (by decide)) (fun h => absurd h (by decide)) (fun h => absurd h (by decide)) (fun h => absurd h (by decide)) (fun h => absurd h (by decide)) (fun h => absurd h (by decide)) (fun h => absurd h (by decide)) (fun h => absurd h (by decide)) (fun h => absurd h (by decide)) (fun _ => allLt24 (p := fun j => ∃ s, depB _ s 24 j = true) ⟨1, rfl⟩ ⟨8, rfl⟩ ⟨8, rfl⟩ ⟨7, rfl⟩ ⟨6, rfl⟩ ⟨5, rfl⟩ ⟨4, rfl⟩ ⟨3, rfl⟩ ⟨8, rfl⟩ ⟨8, rfl⟩ ⟨7, rfl⟩ ⟨6, rfl⟩ ⟨5, rfl⟩ ⟨4, rfl⟩ ⟨3, rfl⟩ ⟨8, rfl⟩ ⟨8, rfl⟩ ⟨7, rfl⟩ ⟨6, rfl⟩ ⟨5, rfl⟩ ⟨4, rfl⟩ ⟨3, rfl⟩ ⟨2, rfl⟩ ⟨1, rfl⟩) (fun _ => allLt25 (p := fun j => ∃ s, depB _ s 25 j = true) ⟨1, rfl⟩ ⟨1, rfl⟩ ⟨1, rfl⟩ ⟨1, rfl⟩ ⟨1, rfl⟩ ⟨1, rfl⟩ ⟨1, rfl⟩ ⟨1, rfl⟩ ⟨1, rfl⟩ ⟨1, rfl⟩ ⟨1, rfl⟩ ⟨1, rfl⟩ ⟨1, rfl⟩ ⟨1, rfl⟩ ⟨1, rfl⟩ ⟨1, rfl⟩ ⟨1, rfl⟩ ⟨1, rfl⟩ ⟨1, rfl⟩ ⟨1, rfl⟩ ⟨1, rfl⟩ ⟨1, rfl⟩ ⟨1, rfl⟩ ⟨1, rfl⟩ ⟨1, rfl⟩))) rfl (fun _ => rfl) (by kernel_rfl) (fun _ => rfl) ?_ (fun env31 F_107 l_108 hphi => ?_)
       ·skip
        refine .cons (fun L env31 F_109 l_110 hL hdn hup hphi => ⟨[(4, (.slice p13 s10.1.length k14))], fun S hS hV => (.cons (hS _ _ rfl) (Sub.nil _)), ?_⟩) ?_
        ·skip
         refine .move rfl rfl ?_
         exact .finV rfl rfl Fz.r
        refine .cons (fun L env31 F_111 l_112 hL hdn hup hphi => ⟨[(0, (.slice p2 l_1.length k3))], fun S hS hV => (.cons (hS _ _ rfl) (Sub.nil _)), ?_⟩) ?_
        ·skip
         refine .move rfl rfl ?_
         exact .finV rfl rfl Fz.r
        refine .cons (fun L env31 F_113 l_114 hL hdn hup hphi => ⟨[(5, (.int .i64 s10.2))], fun S hS hV => (.cons (hS _ _ rfl) (Sub.nil _)), ?_⟩) ?_
        ·skip
         refine .move rfl rfl ?_
         exact .finV rfl rfl Fz.r
        refine .cons (fun L env31 F_115 l_116 hL hdn hup hphi => ⟨[(22, (.slice p2 l_1.length k3)), (23, (.int .i64 s10.2))], fun S hS hV => (.cons (hV 1 22 _ (hdn 1 1 rfl) rfl rfl) (.cons (hV 2 23 _ (hdn 1 2 rfl) rfl rfl) (Sub.nil _))), ?_⟩) ?_
        ·skip
         refine .idxQ rfl Tryz.underlying22 Tryz.sizeOf41 hq41 rfl rfl ?_
         exact .finV rfl rfl Fz.r
        refine .cons (fun L env31 F_117 l_118 hL hdn hup hphi => ⟨[(24, (.pointer (some ⟨b33, o34, none⟩)))], fun S hS hV => (.cons (hV 3 24 _ (hdn 1 3 rfl) rfl rfl) (Sub.nil _)), ?_⟩) ?_
        ·skip
         refine .fieldAddr rfl Tryz.underlying41 rfl Tryz.sizeOf31 rfl ?_
         exact .finV rfl rfl Fz.r
        refine .cons (fun L env31 F_119 l_120 hL hdn hup hphi => ⟨[(25, (.pointer (some ⟨b33, o34 + 1, none⟩)))], fun S hS hV => (.cons (hV 4 25 _ (hdn 1 4 rfl) rfl rfl) (Sub.nil _)), ?_⟩) ?_
        ·skip
         refine .loadF rfl Tryz.isAgg31 rfl (l_120.mem _ _ hm39) (cell_of_take (k := 1) hv40 rfl) ?_
         exact .finV rfl rfl Fz.r
        refine .cons (fun L env31 F_121 l_122 hL hdn hup hphi => ⟨[(26, (.slice p42 x32.N.length k43))], fun S hS hV => (.cons (hV 5 26 _ (hdn 1 5 rfl) rfl rfl) (Sub.nil _)), ?_⟩) ?_
        ·skip
         refine .idxQ rfl Tryz.underlying31 Tryz.sizeOf3 hq54 rfl rfl ?_
         exact .finV rfl rfl Fz.r
        refine .cons (fun L env31 F_123 l_124 hL hdn hup hphi => ⟨[(27, (.pointer (some ⟨b46, o47, none⟩)))], fun S hS hV => (.cons (hV 6 27 _ (hdn 1 6 rfl) rfl rfl) (Sub.nil _)), ?_⟩) ?_
        ·skip
         refine .loadF rfl Tryz.isAgg3 rfl (l_124.mem _ _ hm52) (cell_of_take (k := 0) hv53 rfl) ?_
         exact .finV rfl rfl Fz.r
        refine .cons (fun L env31 F_125 l_126 hL hdn hup hphi => ⟨[(0, (.slice p2 l_1.length k3))], fun S hS hV => (.cons (hS _ _ rfl) (Sub.nil _)), ?_⟩) ?_
        ·skip
         refine .move rfl rfl ?_
         exact .finV rfl rfl Fz.r
        refine .cons (fun L env31 F_127 l_128 hL hdn hup hphi => ⟨[(5, (.int .i64 s10.2))], fun S hS hV => (.cons (hS _ _ rfl) (Sub.nil _)), ?_⟩) ?_
        ·skip
         refine .move rfl rfl ?_
         exact .finV rfl rfl Fz.r
        refine .cons (fun L env31 F_129 l_130 hL hdn hup hphi => ⟨[(29, (.slice p2 l_1.length k3)), (30, (.int .i64 s10.2))], fun S hS hV => (.cons (hV 8 29 _ (hdn 1 8 rfl) rfl rfl) (.cons (hV 9 30 _ (hdn 1 9 rfl) rfl rfl) (Sub.nil _))), ?_⟩) ?_
        ·skip
         refine .idxQ rfl Tryz.underlying22 Tryz.sizeOf41 hq64 rfl rfl ?_
         exact .finV rfl rfl Fz.r
        refine .cons (fun L env31 F_131 l_132 hL hdn hup hphi => ⟨[(31, (.pointer (some ⟨b56, o57, none⟩)))], fun S hS hV => (.cons (hV 10 31 _ (hdn 1 10 rfl) rfl rfl) (Sub.nil _)), ?_⟩) ?_
        ·skip
         refine .fieldAddr rfl Tryz.underlying41 rfl Tryz.sizeOf31 rfl ?_
         exact .finV rfl rfl Fz.r
        refine .cons (fun L env31 F_133 l_134 hL hdn hup hphi => ⟨[(32, (.pointer (some ⟨b56, o57 + 1, none⟩)))], fun S hS hV => (.cons (hV 11 32 _ (hdn 1 11 rfl) rfl rfl) (Sub.nil _)), ?_⟩) ?_
        ·skip
         refine .loadF rfl Tryz.isAgg31 rfl (l_134.mem _ _ hm62) (cell_of_take (k := 1) hv63 rfl) ?_
         exact .finV rfl rfl Fz.r
        refine .cons (fun L env31 F_135 l_136 hL hdn hup hphi => ⟨[(33, (.slice p65 x55.N.length k66))], fun S hS hV => (.cons (hV 12 33 _ (hdn 1 12 rfl) rfl rfl) (Sub.nil _)), ?_⟩) ?_
        ·skip
         refine .idxQ rfl Tryz.underlying31 Tryz.sizeOf3 hq77 rfl rfl ?_
         exact .finV rfl rfl Fz.r
        refine .cons (fun L env31 F_137 l_138 hL hdn hup hphi => ⟨[(34, (.pointer (some ⟨b69, o70, none⟩)))], fun S hS hV => (.cons (hV 13 34 _ (hdn 1 13 rfl) rfl rfl) (Sub.nil _)), ?_⟩) ?_
        ·skip
         refine .loadF rfl Tryz.isAgg3 rfl (l_138.mem _ _ hm75) (cell_of_take (k := 0) hv76 rfl) ?_
         exact .finV rfl rfl Fz.r
        refine .cons (fun L env31 F_139 l_140 hL hdn hup hphi => ⟨[(0, (.slice p2 l_1.length k3))], fun S hS hV => (.cons (hS _ _ rfl) (Sub.nil _)), ?_⟩) ?_
        ·skip
         refine .move rfl rfl ?_
         exact .finV rfl rfl Fz.r
        refine .cons (fun L env31 F_141 l_142 hL hdn hup hphi => ⟨[(5, (.int .i64 s10.2))], fun S hS hV => (.cons (hS _ _ rfl) (Sub.nil _)), ?_⟩) ?_
        ·skip
         refine .move rfl rfl ?_
         exact .finV rfl rfl Fz.r
        refine .cons (fun L env31 F_143 l_144 hL hdn hup hphi => ⟨[(36, (.slice p2 l_1.length k3)), (37, (.int .i64 s10.2))], fun S hS hV => (.cons (hV 15 36 _ (hdn 1 15 rfl) rfl rfl) (.cons (hV 16 37 _ (hdn 1 16 rfl) rfl rfl) (Sub.nil _))), ?_⟩) ?_
        ·skip
         refine .idxQ rfl Tryz.underlying22 Tryz.sizeOf41 hq87 rfl rfl ?_
         exact .finV rfl rfl Fz.r
        refine .cons (fun L env31 F_145 l_146 hL hdn hup hphi => ⟨[(38, (.pointer (some ⟨b79, o80, none⟩)))], fun S hS hV => (.cons (hV 17 38 _ (hdn 1 17 rfl) rfl rfl) (Sub.nil _)), ?_⟩) ?_
        ·skip
         refine .fieldAddr rfl Tryz.underlying41 rfl Tryz.sizeOf31 rfl ?_
         exact .finV rfl rfl Fz.r
        refine .cons (fun L env31 F_147 l_148 hL hdn hup hphi => ⟨[(39, (.pointer (some ⟨b79, o80 + 1, none⟩)))], fun S hS hV => (.cons (hV 18 39 _ (hdn 1 18 rfl) rfl rfl) (Sub.nil _)), ?_⟩) ?_
        ·skip
         refine .loadF rfl Tryz.isAgg31 rfl (l_148.mem _ _ hm85) (cell_of_take (k := 1) hv86 rfl) ?_
         exact .finV rfl rfl Fz.r
        refine .cons (fun L env31 F_149 l_150 hL hdn hup hphi => ⟨[(40, (.slice p88 x78.N.length k89))], fun S hS hV => (.cons (hV 19 40 _ (hdn 1 19 rfl) rfl rfl) (Sub.nil _)), ?_⟩) ?_
        ·skip
         refine .idxQ rfl Tryz.underlying31 Tryz.sizeOf3 hq100 rfl rfl ?_
         exact .finV rfl rfl Fz.r
        refine .cons (fun L env31 F_151 l_152 hL hdn hup hphi => ⟨[(41, (.pointer (some ⟨b92, o93, none⟩)))], fun S hS hV => (.cons (hV 20 41 _ (hdn 1 20 rfl) rfl rfl) (Sub.nil _)), ?_⟩) ?_
        ·skip
         refine .loadF rfl Tryz.isAgg3 rfl (l_152.mem _ _ hm98) (cell_of_take (k := 0) hv99 rfl) ?_
         exact .finV rfl rfl Fz.r
        refine .cons (fun L env31 F_153 l_154 hL hdn hup hphi => ⟨[(28, (.int .i64 x45)), (35, (.int .i64 x68)), (42, (.int .i64 x91))], fun S hS hV => (.cons (hV 7 28 _ (hdn 1 7 rfl) rfl rfl) (.cons (hV 14 35 _ (hdn 1 14 rfl) rfl rfl) (.cons (hV 21 42 _ (hdn 1 21 rfl) rfl rfl) (Sub.nil _)))), ?_⟩) ?_
        ·skip
         refine .build (cs := (cApiMaltStep (ApiMaltStep.mk x45 x68 x91)).toArray) rfl Tryz.underlying49 Tryz.zeroValue49 (plApiMaltStep _ Tryz.underlying49) rfl rfl (by kernel_rfl) ?_
         exact .finV rfl rfl Fz.r
        refine .cons (fun L env31 F_155 l_156 hL hdn hup hphi => ⟨[(43, (eApiMaltStep (ApiMaltStep.mk x45 x68 x91)))], fun S hS hV => (.cons (hV 22 43 _ (hdn 1 22 rfl) rfl rfl) (Sub.nil _)), ?_⟩) ?_
        ·skip
         refine .sliceLit (cs := [.int .i64 (ApiMaltStep.mk x45 x68 x91).Kind, .int .i64 (ApiMaltStep.mk x45 x68 x91).A, .int .i64 (ApiMaltStep.mk x45 x68 x91).B]) (zc := [.int .i64 (ApiMaltStep.mk 0 0 0).Kind, .int .i64 (ApiMaltStep.mk 0 0 0).A, .int .i64 (ApiMaltStep.mk 0 0 0).B]) rfl Tryz.underlying50 Tryz.sizeOf49 Tryz.zeroValue49 rfl rfl rfl (by kernel_rfl) (by kernel_rfl) (fun b157 F_158 l_159 hb160 => ?_)
         have h161 : RepSl 3 (Ex cApiMaltStep) F_158 (some ⟨b157, 0, none⟩) 1 ([(ApiMaltStep.mk x45 x68 x91)]) := RepSl.ofRow hb160 (.cons ok_t49.mono rfl .nil) rfl rfl
         exact .finQ ({ env31 with a := env31.a, n := (updN env31.n 230 b157), c := env31.c, o := env31.o }) [true, true, true, true, true, true, true, true, true, true, true, true, true, true, true, true, true, true, true, true, true, true, true, false] rfl (by kernel_rfl) rfl rfl l_159 (fun _ le => h161.mono le) (cons_eq rfl (cons_eq rfl rfl))
        exact .nil
       have h106 := hphi 23 _ rfl
       refine .norm (S' := [(0, (.slice p2 l_1.length k3)), (4, (.slice p13 s10.1.length k14)), (5, (.int .i64 s10.2)), (21, (.slice p13 s10.1.length k14)), (22, (.slice p2 l_1.length k3)), (23, (.int .i64 s10.2)), (24, (.pointer (some ⟨b33, o34, none⟩))), (25, (.pointer (some ⟨b33, o34 + 1, none⟩))), (26, (.slice p42 x32.N.length k43)), (27, (.pointer (some ⟨b46, o47, none⟩))), (28, (.int .i64 x45)), (29, (.slice p2 l_1.length k3)), (30, (.int .i64 s10.2)), (31, (.pointer (some ⟨b56, o57, none⟩))), (32, (.pointer (some ⟨b56, o57 + 1, none⟩))), (33, (.slice p65 x55.N.length k66)), (34, (.pointer (some ⟨b69, o70, none⟩))), (35, (.int .i64 x68)), (36, (.slice p2 l_1.length k3)), (37, (.int .i64 s10.2)), (38, (.pointer (some ⟨b79, o80, none⟩))), (39, (.pointer (some ⟨b79, o80 + 1, none⟩))), (40, (.slice p88 x78.N.length k89)), (41, (.pointer (some ⟨b92, o93, none⟩))), (42, (.int .i64 x91)), (43, (eApiMaltStep (ApiMaltStep.mk x45 x68 x91))), (44, (.slice (some ⟨env31.n 230, 0, none⟩) ([(ApiMaltStep.mk x45 x68 x91)]).length 1))]) (.cons (k := 0) rfl (.cons (k := 4) rfl (.cons (k := 5) rfl (.cons (k := 21) rfl (.cons (k := 22) rfl (.cons (k := 23) rfl (.cons (k := 24) rfl (.cons (k := 25) rfl (.cons (k := 26) rfl (.cons (k := 27) rfl (.cons (k := 28) rfl (.cons (k := 29) rfl (.cons (k := 30) rfl (.cons (k := 31) rfl (.cons (k := 32) rfl (.cons (k := 33) rfl (.cons (k := 34) rfl (.cons (k := 35) rfl (.cons (k := 36) rfl (.cons (k := 37) rfl (.cons (k := 38) rfl (.cons (k := 39) rfl (.cons (k := 40) rfl (.cons (k := 41) rfl (.cons (k := 42) rfl (.cons (k := 43) rfl (.cons (k := 44) rfl (.nil _)))))))))))))))))))))))))))) (rfl : _ = [ownSl 3 (Ex cApiMaltStep) F_11 49 p13 k14 s10.1, R]) ?_
       refine .append 0 ok_t49 l_108 rfl Tryz.underlying50 Tryz.underlying50 rfl rfl rfl h106 rfl rfl (fun l_162 p163 k164 e165 => ?_)
       refine .assign rfl rfl (.nil ?_)
       exact .nil fun e a w h => by cases e; exact ⟨rfl, ⟨F_107, p163, k164, l_108, h.1.sub (.cons (k := 0) rfl (.cons (k := 4) rfl (.cons (k := 5) rfl (.nil _)))), h.2⟩⟩
      ·skip
       refine .skip ?_
       exact .nil fun e a w h => by cases e; exact ⟨rfl, ⟨F_11, p13, k14, Fz.r, h.1.sub (.cons (k := 0) rfl (.cons (k := 4) rfl (.cons (k := 5) rfl (.nil _)))), h.2⟩⟩
     refine .block ?_
     exact .nil fun e a w h => by cases e; exact ⟨rfl, ⟨F_167, p169, k170, l_168, h.1.sub (.cons (k := 0) rfl (.cons (k := 4) rfl (.cons (k := 5) rfl (.nil _)))), h.2⟩⟩
    refine .code (.region (.move rfl rfl (.add rfl rfl rfl (.assignL rfl rfl (fun i178 e179 => ?_)))))
    refine .nil ?_
    exact .nil (LPost.norm fun a w h => ⟨F_173, p175, k176, (Fz.t l_12 l_174), h.1.sub (.cons (k := 0) rfl (.cons (k := 4) rfl (.cons (k := 5) rfl (.nil _)))), h.2⟩)
   ·skip
    refine .exitOut rfl (LPost.exit fun a w h => ⟨rfl, F_11, p13, k14, l_12, h.1.sub (.cons (k := 4) rfl (.nil _)), h.2⟩)
  ·intro b180 hb0 hk e a w hD
   obtain ⟨rfl, F_181, p183, k184, l_182, hA⟩ := hD
   refine interp_exit rfl (GE.app ?_ hk a w hA)
   refine .code (.seq (.region (.move rfl rfl (.assign rfl rfl (.assign rfl rfl (.nil (.code (.freezeSl 0 rfl Fz.r (fun F_186 l_187 h188 => ?_)))))))))
   exact .ret0 Tryz.results34 (.tmp rfl (.tmp rfl (.nil))) (i := 0) rfl (Fz.t l_6 (Fz.t l_182 l_187)) ⟨p183, k184, rfl, h188⟩
noncomputable def b_wormtubref14_Draws_1 (l_1 : (List ApiBooked)) (s10 : (List ApiDrawn) × Int) : Option (Ctl ((List ApiDrawn) × Int) (((List ApiDrawn)))) :=
 if (decide (s10.2 < (l_1.length : Int))) then (((idxL l_1 s10.2).bind fun x17 => (if (x17.Kind == 1) then ((idxL l_1 s10.2).bind fun x32 => (idxL x32.N 0).bind fun x45 => (idxL l_1 s10.2).bind fun x55 => (idxL x55.N 1).bind fun x68 => (idxL l_1 s10.2).bind fun x78 => (idxL x78.N 2).bind fun x91 => (appO s10.1 ([(ApiDrawn.mk x45 (ApiSpan.mk x68 x91))])).bind fun l_164 => some l_164) else (some s10.1) : Option ((List ApiDrawn))).bind fun j168 => some j168 : Option ((List ApiDrawn))).bind fun j174 => bindv (w64 (s10.2 + 1)) fun i180 => some (.next (j174, i180))) else (some (.done s10.1))
noncomputable def m_wormtubref14_Draws (l_1 : (List ApiBooked)) : Option ((List ApiDrawn) × Int) :=
 (m_wormtubref14_Valid l_1).bind fun r_7 => if (!r_7) then (some ([], 1)) else ((loopM (b_wormtubref14_Draws_1 l_1) ([], 0)).bind fun b182 => some (b182, 0))
set_option maxRecDepth 100000 in
set_option maxHeartbeats 4000000 in
theorem c_wormtubref14_Draws (F0 : Fz) (l_1 : (List ApiBooked)) (p2 : Option Addr) (k3 : Nat) (h4 : RepSl 2 rApiBooked F0 p2 k3 l_1) : CT0 Tryz.prog 35 [(.slice p2 l_1.length k3)].toArray F0 (m_wormtubref14_Draws l_1) (fun r F v => ∃ (p0 : Option Addr) (k0 : Nat), v = .tuple #[(.slice p0 r.1.length k0), (.int .i64 r.2)] ∧ RepSl 3 (Ex cApiDrawn) F p0 k0 r.1) := by
 refine CT0.enter Tryz.func35 rfl Tryz.ntmps35 rfl fun r R => ?_
 unfold m_wormtubref14_Draws
 refine .seq (.region (.assign rfl rfl (.assign rfl rfl (.nil (.code (.seq (.seq (.region (.move rfl rfl (.call0 rfl Tryz.call46 rfl rfl rfl (c_wormtubref14_Valid _ l_1 p2 k3 h4) ?_))))))))))
 rintro r_7 F_5 _ - l_6 rfl
 refine .not rfl rfl (.nil (.code (.cond rfl (fun hb8 => ?_) (fun hb8 => ?_))))
 ·skip
  refine .seq (.region (.assign rfl rfl (.assign rfl rfl (.nil (.code ?_)))))
  exact .ret0 Tryz.results35 (.tmp rfl (.tmp rfl (.nil))) (i := 0) rfl l_6 ⟨none, 0, rfl, (RepSl.nil.mono l_6)⟩
 ·skip
  refine .skip (.code (.seq (.region (.assign rfl rfl (.nil (.code (.seq (.seq (.region (.assign rfl rfl (.nil ?_)))))))))))
  refine .code (.block (.ownNil 3 (Ex cApiDrawn) 54 (.keep (.cons (k := 0) rfl (.cons (k := 4) rfl (.cons (k := 5) rfl (.nil _)))) ?_)))
  refine .loop (fun (s10 : (List ApiDrawn) × Int) a w => ∃ (F_11 : Fz) (p13 : Option Addr) (k14 : Nat), F_5 ≤ F_11 ∧ Hd 48 [] [(0, (.slice p2 l_1.length k3)), (4, (.slice p13 s10.1.length k14)), (5, (.int .i64 s10.2))] F_11 [ownSl 3 (Ex cApiDrawn) F_11 54 p13 k14 s10.1, R] a w) (fun b182 e a w => e = .exit 0 ∧ ∃ (F_183 : Fz) (p185 : Option Addr) (k186 : Nat), F_5 ≤ F_183 ∧ Hd 48 [] [(4, (.slice p185 b182.length k186))] F_183 [ownSl 3 (Ex cApiDrawn) F_183 54 p185 k186 b182, R] a w) ?_ ?_ ?_
  ·exact fun a w h => ⟨F_5, none, 0, Fz.r, h.1.sub (.cons (k := 0) rfl (.cons (k := 4) rfl (.cons (k := 5) rfl (.nil _)))), h.2⟩
  ·intro s10 ctl
   refine GC.ex (fun a w ⟨F_11, p13, k14, l_12, hA⟩ => ⟨_, hA, ?_⟩)
   unfold b_wormtubref14_Draws_1
   refine .seq (.seq (.region (.move rfl rfl (.move rfl rfl (.lenS rfl rfl Tryz.underlying22 rfl (.lss rfl rfl rfl (.nil (.code (.cond rfl (fun hb16 => ?_) (fun hb16 => ?_))))))))))
   ·skip
    refine .skip (.code (.seq (.keep (.cons (k := 0) rfl (.cons (k := 4) rfl (.cons (k := 5) rfl (.nil _)))) ?_)))
    refine GC.join0 (σ := (List ApiDrawn)) (fun j174 a w => ∃ (F_175 : Fz) (p177 : Option Addr) (k178 : Nat), F_11 ≤ F_175 ∧ Hd 48 [] [(0, (.slice p2 l_1.length k3)), (4, (.slice p177 j174.length k178)), (5, (.int .i64 s10.2))] F_175 [ownSl 3 (Ex cApiDrawn) F_175 54 p177 k178 j174, R] a w) (fun sj => ?_) (fun j174 hs0 => GE.ex (fun a w ⟨F_175, p177, k178, l_176, hA⟩ => ⟨_, hA, ?_⟩))
    ·skip
     refine .block (.seq (.region (.move rfl rfl (.move rfl rfl (.idx rfl Tryz.underlying22 Tryz.sizeOf41 (h4.mono (Fz.t l_6 l_12)) rfl rfl (fun x17 b18 o19 T20 fr21 cs22 e23 hm24 hv25 => ?_))))))
     obtain ⟨p27, k28, hv25, h29⟩ := hv25
     refine .fieldAddr rfl Tryz.underlying41 rfl Tryz.sizeOf3 rfl (.loadF rfl Tryz.isAgg3 rfl hm24 (cell_of_take (k := 0) hv25 rfl) (.eql rfl rfl rfl (.nil (.code (.keep (.cons (k := 0) rfl (.cons (k := 4) rfl (.cons (k := 5) rfl (.cons (k := 20) rfl (.nil _))))) ?_)))))
     refine GC.join0 (σ := (List ApiDrawn)) (fun j168 a w => ∃ (F_169 : Fz) (p171 : Option Addr) (k172 : Nat), F_11 ≤ F_169 ∧ Hd 48 [] [(0, (.slice p2 l_1.length k3)), (4, (.slice p171 j168.length k172)), (5, (.int .i64 s10.2))] F_169 [ownSl 3 (Ex cApiDrawn) F_169 54 p171 k172 j168, R] a w) (fun sj => ?_) (fun j168 hs0 => GE.ex (fun a w ⟨F_169, p171, k172, l_170, hA⟩ => ⟨_, hA, ?_⟩))
     ·skip
      refine .cond rfl (fun hb30 => ?_) (fun hb30 => ?_)
      ·skip
       refine .keep (.cons (k := 0) rfl (.cons (k := 4) rfl (.cons (k := 5) rfl (.nil _)))) (.bind (fun x32 e38 => ?_))
       obtain ⟨b33, o34, T35, fr36, cs37, hm39, hv40, hq41⟩ := RepSl.idxE (h4.mono (Fz.t l_6 l_12)) e38
       obtain ⟨p42, k43, hv40, h44⟩ := hv40
       refine .bind (fun x45 e51 => ?_)
       obtain ⟨b46, o47, T48, fr49, cs50, hm52, hv53, hq54⟩ := RepSl.idxE h44 e51
       refine .bind (fun x55 e61 => ?_)
       obtain ⟨b56, o57, T58, fr59, cs60, hm62, hv63, hq64⟩ := RepSl.idxE (h4.mono (Fz.t l_6 l_12)) e61
       obtain ⟨p65, k66, hv63, h67⟩ := hv63
       refine .bind (fun x68 e74 => ?_)
       obtain ⟨b69, o70, T71, fr72, cs73, hm75, hv76, hq77⟩ := RepSl.idxE h67 e74
       refine .bind (fun x78 e84 => ?_)
       obtain ⟨b79, o80, T81, fr82, cs83, hm85, hv86, hq87⟩ := RepSl.idxE (h4.mono (Fz.t l_6 l_12)) e84
       obtain ⟨p88, k89, hv86, h90⟩ := hv86
       refine .bind (fun x91 e97 => ?_)
       obtain ⟨b92, o93, T94, fr95, cs96, hm98, hv99, hq100⟩ := RepSl.idxE h90 e97
       refine .drawGD 25 0 (fun env31 => [((.slice p13 s10.1.length k14), fun _ => True), ((.slice p2 l_1.length k3), fun _ => True), ((.int .i64 s10.2), fun _ => True), ((.pointer (some ⟨b33, o34, none⟩)), fun _ => True), ((.pointer (some ⟨b33, o34 + 1, none⟩)), fun _ => True), ((.slice p42 x32.N.length k43), fun _ => True), ((.pointer (some ⟨b46, o47, none⟩)), fun _ => True), ((.int .i64 x45), fun _ => True), ((.slice p2 l_1.length k3), fun _ => True), ((.int .i64 s10.2), fun _ => True), ((.pointer (some ⟨b56, o57, none⟩)), fun _ => True), ((.pointer (some ⟨b56, o57 + 1, none⟩)), fun _ => True), ((.slice p65 x55.N.length k66), fun _ => True), ((.pointer (some ⟨b69, o70, none⟩)), fun _ => True), ((.int .i64 x68), fun _ => True), ((.slice p2 l_1.length k3), fun _ => True), ((.int .i64 s10.2), fun _ => True), ((.pointer (some ⟨b79, o80, none⟩)), fun _ => True), ((.pointer (some ⟨b79, o80 + 1, none⟩)), fun _ => True), ((.slice p88 x78.N.length k89), fun _ => True), ((.pointer (some ⟨b92, o93, none⟩)), fun _ => True), ((.int .i64 x91), fun _ => True), ((eApiSpan (ApiSpan.mk x68 x91)), fun _ => True), ((eApiDrawn (ApiDrawn.mk x45 (ApiSpan.mk x68 x91))), fun _ => True), ((.slice (some ⟨env31.n 240, 0, none⟩) ([(ApiDrawn.mk x45 (ApiSpan.mk x68 x91))]).length 1), fun G => RepSl 3 (Ex cApiDrawn) G (some ⟨env31.n 240, 0, none⟩) 1 ([(ApiDrawn.mk x45 (ApiSpan.mk x68 x91))]))]) (fun L env31 => [ownSl 3 (Ex cApiDrawn) F_11 54 p13 k14 s10.1, R]) mixedOK (by kernel_rfl) (deepN (k := 25) (n := 27) rfl (allLt27 (p := fun t => 25 ≤ t → ∀ j, j < t → ∃ s, depB _ s t j = true) (fun h => absurd h (by decide)) (fun h => absurd h (by decide)) (fun h => absurd h (by decide)) (fun h => absurd h (by decide)) (fun h => absurd h (by decide)) (fun h => absurd h (by decide)) (fun h => absurd h (by decide)) (fun h => absurd h (by decide)) (fun h => absurd h (by decide)) (fun h => absurd h (by decide)) (fun h => absurd h (by decide)) (fun h => absurd h (by decide)) (fun h => absurd h (by decide)) (fun h => absurd h (by decide)) (fun h => absurd h (by decide)) (fun h => absurd h (by decide)) (fun h => absurd h (by decide)) (fun h => absurd h (by decide)) (fun h => absurd h (by decide)) (fun h => absurd h (by decide)) (fun h => absurd h (by decide)) (fun h => absurd h (by decide)) (fun h => absurd h (by decide)) (fun h => absurd h (by decide)) (fun h => absurd h (by decide)) (fun _ => allLt25 (p := fun j => ∃ s, depB _ s 25 j = true) ⟨1, rfl⟩ ⟨8, rfl⟩ ⟨8, rfl⟩ ⟨7, rfl⟩ ⟨6, rfl⟩ ⟨5, rfl⟩ ⟨4, rfl⟩ ⟨3, rfl⟩ ⟨9, rfl⟩ ⟨9, rfl⟩ ⟨8, rfl⟩ ⟨7, rfl⟩ ⟨6, rfl⟩ ⟨5, rfl⟩ ⟨4, rfl⟩ ⟨9, rfl⟩ ⟨9, rfl⟩ ⟨8, rfl⟩ ⟨7, rfl⟩ ⟨6, rfl⟩ ⟨5, rfl⟩ ⟨4, rfl⟩ ⟨3, rfl⟩ ⟨2, rfl⟩ ⟨1, rfl⟩) (fun _ => allLt26 (p := fun j => ∃ s, depB _ s 26 j = true) ⟨1, rfl⟩ ⟨1, rfl⟩ ⟨1, rfl⟩ ⟨1, rfl⟩ ⟨1, rfl⟩ ⟨1, rfl⟩ ⟨1, rfl⟩ ⟨1, rfl⟩ ⟨1, rfl⟩ ⟨1, rfl⟩ ⟨1, rfl⟩ ⟨1, rfl⟩ ⟨1, rfl⟩ ⟨1, rfl⟩ ⟨1, rfl⟩ ⟨1, rfl⟩ ⟨1, rfl⟩ ⟨1, rfl⟩ ⟨1, rfl⟩ ⟨1, rfl⟩ ⟨1, rfl⟩ ⟨1, rfl⟩ ⟨1, rfl⟩ ⟨1, rfl⟩ ⟨1, rfl⟩ ⟨1, rfl⟩))) rfl (fun _ => rfl) (by kernel_rfl) (fun _ => rfl) ?_ (fun env31 F_107 l_108 hphi => ?_)
       ·skip
        refine .cons (fun L env31 F_109 l_110 hL hdn hup hphi => ⟨[(4, (.slice p13 s10.1.length k14))], fun S hS hV => (.cons (hS _ _ rfl) (Sub.nil _)), ?_⟩) ?_
        ·skip
         refine .move rfl rfl ?_
         exact .finV rfl rfl Fz.r
        refine .cons (fun L env31 F_111 l_112 hL hdn hup hphi => ⟨[(0, (.slice p2 l_1.length k3))], fun S hS hV => (.cons (hS _ _ rfl) (Sub.nil _)), ?_⟩) ?_
        ·skip
         refine .move rfl rfl ?_
         exact .finV rfl rfl Fz.r
        refine .cons (fun L env31 F_113 l_114 hL hdn hup hphi => ⟨[(5, (.int .i64 s10.2))], fun S hS hV => (.cons (hS _ _ rfl) (Sub.nil _)), ?_⟩) ?_
        ·skip
         refine .move rfl rfl ?_
         exact .finV rfl rfl Fz.r
        refine .cons (fun L env31 F_115 l_116 hL hdn hup hphi => ⟨[(22, (.slice p2 l_1.length k3)), (23, (.int .i64 s10.2))], fun S hS hV => (.cons (hV 1 22 _ (hdn 1 1 rfl) rfl rfl) (.cons (hV 2 23 _ (hdn 1 2 rfl) rfl rfl) (Sub.nil _))), ?_⟩) ?_
        ·skip
         refine .idxQ rfl Tryz.underlying22 Tryz.sizeOf41 hq41 rfl rfl ?_
         exact .finV rfl rfl Fz.r
        refine .cons (fun L env31 F_117 l_118 hL hdn hup hphi => ⟨[(24, (.pointer (some ⟨b33, o34, none⟩)))], fun S hS hV => (.cons (hV 3 24 _ (hdn 1 3 rfl) rfl rfl) (Sub.nil _)), ?_⟩) ?_
        ·skip
         refine .fieldAddr rfl Tryz.underlying41 rfl Tryz.sizeOf31 rfl ?_
         exact .finV rfl rfl Fz.r
        refine .cons (fun L env31 F_119 l_120 hL hdn hup hphi => ⟨[(25, (.pointer (some ⟨b33, o34 + 1, none⟩)))], fun S hS hV => (.cons (hV 4 25 _ (hdn 1 4 rfl) rfl rfl) (Sub.nil _)), ?_⟩) ?_
        ·skip
         refine .loadF rfl Tryz.isAgg31 rfl (l_120.mem _ _ hm39) (cell_of_take (k := 1) hv40 rfl) ?_
         exact .finV rfl rfl Fz.r
        refine .cons (fun L env31 F_121 l_122 hL hdn hup hphi => ⟨[(26, (.slice p42 x32.N.length k43))], fun S hS hV => (.cons (hV 5 26 _ (hdn 1 5 rfl) rfl rfl) (Sub.nil _)), ?_⟩) ?_
        ·skip
         refine .idxQ rfl Tryz.underlying31 Tryz.sizeOf3 hq54 rfl rfl ?_
         exact .finV rfl rfl Fz.r
        refine .cons (fun L env31 F_123 l_124 hL hdn hup hphi => ⟨[(27, (.pointer (some ⟨b46, o47, none⟩)))], fun S hS hV => (.cons (hV 6 27 _ (hdn 1 6 rfl) rfl rfl) (Sub.nil _)), ?_⟩) ?_
        ·skip
         refine .loadF rfl Tryz.isAgg3 rfl (l_124.mem _ _ hm52) (cell_of_take (k := 0) hv53 rfl) ?_
         exact .finV rfl rfl Fz.r
        refine .cons (fun L env31 F_125 l_126 hL hdn hup hphi => ⟨[(0, (.slice p2 l_1.length k3))], fun S hS hV => (.cons (hS _ _ rfl) (Sub.nil _)), ?_⟩) ?_
        ·skip
         refine .move rfl rfl ?_
         exact .finV rfl rfl Fz.r
        refine .cons (fun L env31 F_127 l_128 hL hdn hup hphi => ⟨[(5, (.int .i64 s10.2))], fun S hS hV => (.cons (hS _ _ rfl) (Sub.nil _)), ?_⟩) ?_
        ·skip
         refine .move rfl rfl ?_
         exact .finV rfl rfl Fz.r
        refine .cons (fun L env31 F_129 l_130 hL hdn hup hphi => ⟨[(29, (.slice p2 l_1.length k3)), (30, (.int .i64 s10.2))], fun S hS hV => (.cons (hV 8 29 _ (hdn 1 8 rfl) rfl rfl) (.cons (hV 9 30 _ (hdn 1 9 rfl) rfl rfl) (Sub.nil _))), ?_⟩) ?_
        ·skip
         refine .idxQ rfl Tryz.underlying22 Tryz.sizeOf41 hq64 rfl rfl ?_
         exact .finV rfl rfl Fz.r
        refine .cons (fun L env31 F_131 l_132 hL hdn hup hphi => ⟨[(31, (.pointer (some ⟨b56, o57, none⟩)))], fun S hS hV => (.cons (hV 10 31 _ (hdn 1 10 rfl) rfl rfl) (Sub.nil _)), ?_⟩) ?_
        ·skip
         refine .fieldAddr rfl Tryz.underlying41 rfl Tryz.sizeOf31 rfl ?_
         exact .finV rfl rfl Fz.r
        refine .cons (fun L env31 F_133 l_134 hL hdn hup hphi => ⟨[(32, (.pointer (some ⟨b56, o57 + 1, none⟩)))], fun S hS hV => (.cons (hV 11 32 _ (hdn 1 11 rfl) rfl rfl) (Sub.nil _)), ?_⟩) ?_
        ·skip
         refine .loadF rfl Tryz.isAgg31 rfl (l_134.mem _ _ hm62) (cell_of_take (k := 1) hv63 rfl) ?_
         exact .finV rfl rfl Fz.r
        refine .cons (fun L env31 F_135 l_136 hL hdn hup hphi => ⟨[(33, (.slice p65 x55.N.length k66))], fun S hS hV => (.cons (hV 12 33 _ (hdn 1 12 rfl) rfl rfl) (Sub.nil _)), ?_⟩) ?_
        ·skip
         refine .idxQ rfl Tryz.underlying31 Tryz.sizeOf3 hq77 rfl rfl ?_
         exact .finV rfl rfl Fz.r
        refine .cons (fun L env31 F_137 l_138 hL hdn hup hphi => ⟨[(34, (.pointer (some ⟨b69, o70, none⟩)))], fun S hS hV => (.cons (hV 13 34 _ (hdn 1 13 rfl) rfl rfl) (Sub.nil _)), ?_⟩) ?_
        ·skip
         refine .loadF rfl Tryz.isAgg3 rfl (l_138.mem _ _ hm75) (cell_of_take (k := 0) hv76 rfl) ?_
         exact .finV rfl rfl Fz.r
        refine .cons (fun L env31 F_139 l_140 hL hdn hup hphi => ⟨[(0, (.slice p2 l_1.length k3))], fun S hS hV => (.cons (hS _ _ rfl) (Sub.nil _)), ?_⟩) ?_
        ·skip
         refine .move rfl rfl ?_
         exact .finV rfl rfl Fz.r
        refine .cons (fun L env31 F_141 l_142 hL hdn hup hphi => ⟨[(5, (.int .i64 s10.2))], fun S hS hV => (.cons (hS _ _ rfl) (Sub.nil _)), ?_⟩) ?_
        ·skip
         refine .move rfl rfl ?_
         exact .finV rfl rfl Fz.r
        refine .cons (fun L env31 F_143 l_144 hL hdn hup hphi => ⟨[(36, (.slice p2 l_1.length k3)), (37, (.int .i64 s10.2))], fun S hS hV => (.cons (hV 15 36 _ (hdn 1 15 rfl) rfl rfl) (.cons (hV 16 37 _ (hdn 1 16 rfl) rfl rfl) (Sub.nil _))), ?_⟩) ?_
        ·skip
         refine .idxQ rfl Tryz.underlying22 Tryz.sizeOf41 hq87 rfl rfl ?_
         exact .finV rfl rfl Fz.r
        refine .cons (fun L env31 F_145 l_146 hL hdn hup hphi => ⟨[(38, (.pointer (some ⟨b79, o80, none⟩)))], fun S hS hV => (.cons (hV 17 38 _ (hdn 1 17 rfl) rfl rfl) (Sub.nil _)), ?_⟩) ?_
        ·skip
         refine .fieldAddr rfl Tryz.underlying41 rfl Tryz.sizeOf31 rfl ?_
         exact .finV rfl rfl Fz.r
        refine .cons (fun L env31 F_147 l_148 hL hdn hup hphi => ⟨[(39, (.pointer (some ⟨b79, o80 + 1, none⟩)))], fun S hS hV => (.cons (hV 18 39 _ (hdn 1 18 rfl) rfl rfl) (Sub.nil _)), ?_⟩) ?_
        ·skip
         refine .loadF rfl Tryz.isAgg31 rfl (l_148.mem _ _ hm85) (cell_of_take (k := 1) hv86 rfl) ?_
         exact .finV rfl rfl Fz.r
        refine .cons (fun L env31 F_149 l_150 hL hdn hup hphi => ⟨[(40, (.slice p88 x78.N.length k89))], fun S hS hV => (.cons (hV 19 40 _ (hdn 1 19 rfl) rfl rfl) (Sub.nil _)), ?_⟩) ?_
        ·skip
         refine .idxQ rfl Tryz.underlying31 Tryz.sizeOf3 hq100 rfl rfl ?_
         exact .finV rfl rfl Fz.r
        refine .cons (fun L env31 F_151 l_152 hL hdn hup hphi => ⟨[(41, (.pointer (some ⟨b92, o93, none⟩)))], fun S hS hV => (.cons (hV 20 41 _ (hdn 1 20 rfl) rfl rfl) (Sub.nil _)), ?_⟩) ?_
        ·skip
         refine .loadF rfl Tryz.isAgg3 rfl (l_152.mem _ _ hm98) (cell_of_take (k := 0) hv99 rfl) ?_
         exact .finV rfl rfl Fz.r
        refine .cons (fun L env31 F_153 l_154 hL hdn hup hphi => ⟨[(35, (.int .i64 x68)), (42, (.int .i64 x91))], fun S hS hV => (.cons (hV 14 35 _ (hdn 1 14 rfl) rfl rfl) (.cons (hV 21 42 _ (hdn 1 21 rfl) rfl rfl) (Sub.nil _))), ?_⟩) ?_
        ·skip
         refine .build (cs := (cApiSpan (ApiSpan.mk x68 x91)).toArray) rfl Tryz.underlying52 Tryz.zeroValue52 (plApiSpan _ Tryz.underlying52) rfl rfl (by kernel_rfl) ?_
         exact .finV rfl rfl Fz.r
        refine .cons (fun L env31 F_155 l_156 hL hdn hup hphi => ⟨[(28, (.int .i64 x45)), (43, (eApiSpan (ApiSpan.mk x68 x91)))], fun S hS hV => (.cons (hV 7 28 _ (hdn 1 7 rfl) rfl rfl) (.cons (hV 22 43 _ (hdn 1 22 rfl) rfl rfl) (Sub.nil _))), ?_⟩) ?_
        ·skip
         refine .build (cs := (cApiDrawn (ApiDrawn.mk x45 (ApiSpan.mk x68 x91))).toArray) rfl Tryz.underlying54 Tryz.zeroValue54 (plApiDrawn _ Tryz.underlying54) rfl rfl (by kernel_rfl) ?_
         exact .finV rfl rfl Fz.r
        refine .cons (fun L env31 F_157 l_158 hL hdn hup hphi => ⟨[(44, (eApiDrawn (ApiDrawn.mk x45 (ApiSpan.mk x68 x91))))], fun S hS hV => (.cons (hV 23 44 _ (hdn 1 23 rfl) rfl rfl) (Sub.nil _)), ?_⟩) ?_
        ·skip
         refine .sliceLit (cs := [.int .i64 (ApiDrawn.mk x45 (ApiSpan.mk x68 x91)).Amount, .int .i64 (ApiDrawn.mk x45 (ApiSpan.mk x68 x91)).Alcohol.Lo, .int .i64 (ApiDrawn.mk x45 (ApiSpan.mk x68 x91)).Alcohol.Hi]) (zc := [.int .i64 (ApiDrawn.mk 0 (ApiSpan.mk 0 0)).Amount, .int .i64 (ApiDrawn.mk 0 (ApiSpan.mk 0 0)).Alcohol.Lo, .int .i64 (ApiDrawn.mk 0 (ApiSpan.mk 0 0)).Alcohol.Hi]) rfl Tryz.underlying55 Tryz.sizeOf54 Tryz.zeroValue54 rfl rfl rfl (by kernel_rfl) (by kernel_rfl) (fun b159 F_160 l_161 hb162 => ?_)
         have h163 : RepSl 3 (Ex cApiDrawn) F_160 (some ⟨b159, 0, none⟩) 1 ([(ApiDrawn.mk x45 (ApiSpan.mk x68 x91))]) := RepSl.ofRow hb162 (.cons ok_t54.mono rfl .nil) rfl rfl
         exact .finQ ({ env31 with a := env31.a, n := (updN env31.n 240 b159), c := env31.c, o := env31.o }) [true, true, true, true, true, true, true, true, true, true, true, true, true, true, true, true, true, true, true, true, true, true, true, true, false] rfl (by kernel_rfl) rfl rfl l_161 (fun _ le => h163.mono le) (cons_eq rfl (cons_eq rfl rfl))
        exact .nil
       have h106 := hphi 24 _ rfl
       refine .norm (S' := [(0, (.slice p2 l_1.length k3)), (4, (.slice p13 s10.1.length k14)), (5, (.int .i64 s10.2)), (21, (.slice p13 s10.1.length k14)), (22, (.slice p2 l_1.length k3)), (23, (.int .i64 s10.2)), (24, (.pointer (some ⟨b33, o34, none⟩))), (25, (.pointer (some ⟨b33, o34 + 1, none⟩))), (26, (.slice p42 x32.N.length k43)), (27, (.pointer (some ⟨b46, o47, none⟩))), (28, (.int .i64 x45)), (29, (.slice p2 l_1.length k3)), (30, (.int .i64 s10.2)), (31, (.pointer (some ⟨b56, o57, none⟩))), (32, (.pointer (some ⟨b56, o57 + 1, none⟩))), (33, (.slice p65 x55.N.length k66)), (34, (.pointer (some ⟨b69, o70, none⟩))), (35, (.int .i64 x68)), (36, (.slice p2 l_1.length k3)), (37, (.int .i64 s10.2)), (38, (.pointer (some ⟨b79, o80, none⟩))), (39, (.pointer (some ⟨b79, o80 + 1, none⟩))), (40, (.slice p88 x78.N.length k89)), (41, (.pointer (some ⟨b92, o93, none⟩))), (42, (.int .i64 x91)), (43, (eApiSpan (ApiSpan.mk x68 x91))), (44, (eApiDrawn (ApiDrawn.mk x45 (ApiSpan.mk x68 x91)))), (45, (.slice (some ⟨env31.n 240, 0, none⟩) ([(ApiDrawn.mk x45 (ApiSpan.mk x68 x91))]).length 1))]) (.cons (k := 0) rfl (.cons (k := 4) rfl (.cons (k := 5) rfl (.cons (k := 21) rfl (.cons (k := 22) rfl (.cons (k := 23) rfl (.cons (k := 24) rfl (.cons (k := 25) rfl (.cons (k := 26) rfl (.cons (k := 27) rfl (.cons (k := 28) rfl (.cons (k := 29) rfl (.cons (k := 30) rfl (.cons (k := 31) rfl (.cons (k := 32) rfl (.cons (k := 33) rfl (.cons (k := 34) rfl (.cons (k := 35) rfl (.cons (k := 36) rfl (.cons (k := 37) rfl (.cons (k := 38) rfl (.cons (k := 39) rfl (.cons (k := 40) rfl (.cons (k := 41) rfl (.cons (k := 42) rfl (.cons (k := 43) rfl (.cons (k := 44) rfl (.cons (k := 45) rfl (.nil _))))))))))))))))))))))))))))) (rfl : _ = [ownSl 3 (Ex cApiDrawn) F_11 54 p13 k14 s10.1, R]) ?_
       refine .append 0 ok_t54 l_108 rfl Tryz.underlying55 Tryz.underlying55 rfl rfl rfl h106 rfl rfl (fun l_164 p165 k166 e167 => ?_)
       refine .assign rfl rfl (.nil ?_)
       exact .nil fun e a w h => by cases e; exact ⟨rfl, ⟨F_107, p165, k166, l_108, h.1.sub (.cons (k := 0) rfl (.cons (k := 4) rfl (.cons (k := 5) rfl (.nil _)))), h.2⟩⟩
      ·skip
       refine .skip ?_
       exact .nil fun e a w h => by cases e; exact ⟨rfl, ⟨F_11, p13, k14, Fz.r, h.1.sub (.cons (k := 0) rfl (.cons (k := 4) rfl (.cons (k := 5) rfl (.nil _)))), h.2⟩⟩
     refine .block ?_
     exact .nil fun e a w h => by cases e; exact ⟨rfl, ⟨F_169, p171, k172, l_170, h.1.sub (.cons (k := 0) rfl (.cons (k := 4) rfl (.cons (k := 5) rfl (.nil _)))), h.2⟩⟩
    refine .code (.region (.move rfl rfl (.add rfl rfl rfl (.assignL rfl rfl (fun i180 e181 => ?_)))))
    refine .nil ?_
    exact .nil (LPost.norm fun a w h => ⟨F_175, p177, k178, (Fz.t l_12 l_176), h.1.sub (.cons (k := 0) rfl (.cons (k := 4) rfl (.cons (k := 5) rfl (.nil _)))), h.2⟩)
   ·skip
    refine .exitOut rfl (LPost.exit fun a w h => ⟨rfl, F_11, p13, k14, l_12, h.1.sub (.cons (k := 4) rfl (.nil _)), h.2⟩)
  ·intro b182 hb0 hk e a w hD
   obtain ⟨rfl, F_183, p185, k186, l_184, hA⟩ := hD
   refine interp_exit rfl (GE.app ?_ hk a w hA)
   refine .code (.seq (.region (.move rfl rfl (.assign rfl rfl (.assign rfl rfl (.nil (.code (.freezeSl 0 rfl Fz.r (fun F_188 l_189 h190 => ?_)))))))))
   exact .ret0 Tryz.results35 (.tmp rfl (.tmp rfl (.nil))) (i := 0) rfl (Fz.t l_6 (Fz.t l_184 l_189)) ⟨p185, k186, rfl, h190⟩
noncomputable def b_wormtubref14_Book_1 (m_1 : (List ApiMaltStep)) (s35 : (List ApiBooked) × Int) : Option (Ctl ((List ApiBooked) × Int) (((List ApiBooked)))) :=
 if (decide (s35.2 < (m_1.length : Int))) then ((idxL m_1 s35.2).bind fun x43 => (idxL m_1 s35.2).bind fun x53 => (idxL m_1 s35.2).bind fun x63 => (appO s35.1 ([(ApiBooked.mk 0 ([x43.Kind, x53.A, x63.B]))])).bind fun l_135 => bindv (w64 (s35.2 + 1)) fun i139 => some (.next (l_135, i139))) else (some (.done s35.1))
noncomputable def b_wormtubref14_Book_2 (s5 : (List ApiDrawn)) (s147 : (List ApiBooked) × Int) : Option (Ctl ((List ApiBooked) × Int) (((List ApiBooked)))) :=
 if (decide (s147.2 < (s5.length : Int))) then ((idxL s5 s147.2).bind fun x155 => (idxL s5 s147.2).bind fun x165 => (idxL s5 s147.2).bind fun x175 => (appO s147.1 ([(ApiBooked.mk 1 ([x155.Amount, x165.Alcohol.Lo, x175.Alcohol.Hi]))])).bind fun l_251 => bindv (w64 (s147.2 + 1)) fun i255 => some (.next (l_251, i255))) else (some (.done s147.1))
noncomputable def b_wormtubref14_Book_3 (c9 : (List ApiCaskEvent)) (s263 : (List ApiBooked) × Int) : Option (Ctl ((List ApiBooked) × Int) (((List ApiBooked)))) :=
 if (decide (s263.2 < (c9.length : Int))) then ((idxL c9 s263.2).bind fun x270 => (appO s263.1 ([(ApiBooked.mk 2 ([x270.Kind, x270.Day, x270.Cask, x270.Other, x270.Person, x270.To, x270.Amount, x270.Where]))])).bind fun l_291 => bindv (w64 (s263.2 + 1)) fun i295 => some (.next (l_291, i295))) else (some (.done s263.1))
noncomputable def b_wormtubref14_Book_4 (d13 : (List ApiDutyEvent)) (s303 : (List ApiBooked) × Int) : Option (Ctl ((List ApiBooked) × Int) (((List ApiBooked)))) :=
 if (decide (s303.2 < (d13.length : Int))) then ((idxL d13 s303.2).bind fun x310 => (appO s303.1 ([(ApiBooked.mk 3 ([x310.Kind, x310.Day, x310.Bond, x310.To, x310.Id, x310.Amount]))])).bind fun l_331 => bindv (w64 (s303.2 + 1)) fun i335 => some (.next (l_331, i335))) else (some (.done s303.1))
noncomputable def m_wormtubref14_Book (m_1 : (List ApiMaltStep)) (s5 : (List ApiDrawn)) (c9 : (List ApiCaskEvent)) (d13 : (List ApiDutyEvent)) : Option ((List ApiBooked) × Int) :=
 if (((((decide ((m_1.length : Int) > 1024)) || (decide ((s5.length : Int) > 1024))) || (decide ((c9.length : Int) > 1024))) || (decide ((d13.length : Int) > 1024))) || (decide ((w64 ((w64 ((w64 ((m_1.length : Int) + (s5.length : Int))) + (c9.length : Int))) + (d13.length : Int))) > 1024))) then (some ([], 3)) else ((loopM (b_wormtubref14_Book_1 m_1) ([], 0)).bind fun b141 => (loopM (b_wormtubref14_Book_2 s5) (b141, 0)).bind fun b257 => (loopM (b_wormtubref14_Book_3 c9) (b257, 0)).bind fun b297 => (loopM (b_wormtubref14_Book_4 d13) (b297, 0)).bind fun b337 => (m_wormtubref14_Valid b337).bind fun r_348 => if (!r_348) then (some ([], 1)) else (some (b337, 0)))
set_option maxRecDepth 100000 in
set_option maxHeartbeats 4000000 in
theorem c_wormtubref14_Book (F0 : Fz) (m_1 : (List ApiMaltStep)) (p2 : Option Addr) (k3 : Nat) (h4 : RepSl 3 (Ex cApiMaltStep) F0 p2 k3 m_1) (s5 : (List ApiDrawn)) (p6 : Option Addr) (k7 : Nat) (h8 : RepSl 3 (Ex cApiDrawn) F0 p6 k7 s5) (c9 : (List ApiCaskEvent)) (p10 : Option Addr) (k11 : Nat) (h12 : RepSl 8 (Ex cApiCaskEvent) F0 p10 k11 c9) (d13 : (List ApiDutyEvent)) (p14 : Option Addr) (k15 : Nat) (h16 : RepSl 6 (Ex cApiDutyEvent) F0 p14 k15 d13) : CT0 Tryz.prog 36 [(.slice p2 m_1.length k3), (.slice p6 s5.length k7), (.slice p10 c9.length k11), (.slice p14 d13.length k15)].toArray F0 (m_wormtubref14_Book m_1 s5 c9 d13) (fun r F v => ∃ (p0 : Option Addr) (k0 : Nat), v = .tuple #[(.slice p0 r.1.length k0), (.int .i64 r.2)] ∧ RepSl 2 rApiBooked F p0 k0 r.1) := by
 refine CT0.enter Tryz.func36 rfl Tryz.ntmps36 rfl fun r R => ?_
 unfold m_wormtubref14_Book
 refine .seq (.region (.assign rfl rfl (.assign rfl rfl (.nil (.code (.seq (.seq (.region (.move rfl rfl (.lenS rfl rfl Tryz.underlying50 rfl (.gtr rfl rfl rfl ?_)))))))))))
 refine .move rfl rfl (.orP (b := (decide ((m_1.length : Int) > 1024))) (b' := (decide ((s5.length : Int) > 1024))) 4 24 (fun hb17 => ?_) (fun hb18 => ?_) (fun F_19 l_20 => ?_))
 ·skip
  refine .onH hb17 rfl rfl (.move rfl rfl (.onH hb17 rfl rfl (.lenS rfl rfl Tryz.underlying55 rfl (.onH hb17 rfl rfl (.gtr rfl rfl rfl (.pickFH hb17 rfl rfl rfl ?_))))))
  exact .fin 4 rfl rfl (by kernel_rfl) Fz.r
 ·skip
  refine .offH hb18 rfl rfl rfl (.offH hb18 rfl rfl rfl (.offH hb18 rfl rfl rfl (.pickTH hb18 rfl rfl rfl ?_)))
  exact .fin 4 rfl rfl (by kernel_rfl) Fz.r
 refine .move rfl rfl (.orP (b := ((decide ((m_1.length : Int) > 1024)) || (decide ((s5.length : Int) > 1024)))) (b' := (decide ((c9.length : Int) > 1024))) 4 29 (fun hb21 => ?_) (fun hb22 => ?_) (fun F_23 l_24 => ?_))
 ·skip
  refine .onH hb21 rfl rfl (.move rfl rfl (.onH hb21 rfl rfl (.lenS rfl rfl Tryz.underlying58 rfl (.onH hb21 rfl rfl (.gtr rfl rfl rfl (.pickFH hb21 rfl rfl rfl ?_))))))
  exact .fin 4 rfl rfl (by kernel_rfl) Fz.r
 ·skip
  refine .offH hb22 rfl rfl rfl (.offH hb22 rfl rfl rfl (.offH hb22 rfl rfl rfl (.pickTH hb22 rfl rfl rfl ?_)))
  exact .fin 4 rfl rfl (by kernel_rfl) Fz.r
 refine .move rfl rfl (.orP (b := (((decide ((m_1.length : Int) > 1024)) || (decide ((s5.length : Int) > 1024))) || (decide ((c9.length : Int) > 1024)))) (b' := (decide ((d13.length : Int) > 1024))) 4 34 (fun hb25 => ?_) (fun hb26 => ?_) (fun F_27 l_28 => ?_))
 ·skip
  refine .onH hb25 rfl rfl (.move rfl rfl (.onH hb25 rfl rfl (.lenS rfl rfl Tryz.underlying56 rfl (.onH hb25 rfl rfl (.gtr rfl rfl rfl (.pickFH hb25 rfl rfl rfl ?_))))))
  exact .fin 4 rfl rfl (by kernel_rfl) Fz.r
 ·skip
  refine .offH hb26 rfl rfl rfl (.offH hb26 rfl rfl rfl (.offH hb26 rfl rfl rfl (.pickTH hb26 rfl rfl rfl ?_)))
  exact .fin 4 rfl rfl (by kernel_rfl) Fz.r
 refine .move rfl rfl (.orP (b := ((((decide ((m_1.length : Int) > 1024)) || (decide ((s5.length : Int) > 1024))) || (decide ((c9.length : Int) > 1024))) || (decide ((d13.length : Int) > 1024)))) (b' := (decide ((w64 ((w64 ((w64 ((m_1.length : Int) + (s5.length : Int))) + (c9.length : Int))) + (d13.length : Int))) > 1024))) 13 48 (fun hb29 => ?_) (fun hb30 => ?_) (fun F_31 l_32 => ?_))
 ·skip
  refine .onH hb29 rfl rfl (.move rfl rfl (.onH hb29 rfl rfl (.lenS rfl rfl Tryz.underlying50 rfl (.onH hb29 rfl rfl (.move rfl rfl (.onH hb29 rfl rfl (.lenS rfl rfl Tryz.underlying55 rfl (.onH hb29 rfl rfl (.add rfl rfl rfl (.onH hb29 rfl rfl (.move rfl rfl ?_)))))))))))
  refine .onH hb29 rfl rfl (.lenS rfl rfl Tryz.underlying58 rfl (.onH hb29 rfl rfl (.add rfl rfl rfl (.onH hb29 rfl rfl (.move rfl rfl (.onH hb29 rfl rfl (.lenS rfl rfl Tryz.underlying56 rfl (.onH hb29 rfl rfl (.add rfl rfl rfl (.onH hb29 rfl rfl (.gtr rfl rfl rfl ?_)))))))))))
  refine .pickFH hb29 rfl rfl rfl ?_
  exact .fin 13 rfl rfl (by kernel_rfl) Fz.r
 ·skip
  refine .offH hb30 rfl rfl rfl (.offH hb30 rfl rfl rfl (.offH hb30 rfl rfl rfl (.offH hb30 rfl rfl rfl (.offH hb30 rfl rfl rfl (.offH hb30 rfl rfl rfl (.offH hb30 rfl rfl rfl (.offH hb30 rfl rfl rfl (.offH hb30 rfl rfl rfl (.offH hb30 rfl rfl rfl (.offH hb30 rfl rfl rfl (.offH hb30 rfl rfl rfl ?_)))))))))))
  refine .pickTH hb30 rfl rfl rfl ?_
  exact .fin 13 rfl rfl (by kernel_rfl) Fz.r
 refine .nil (.code (.cond rfl (fun hb33 => ?_) (fun hb33 => ?_)))
 ·skip
  refine .seq (.region (.assign rfl rfl (.assign rfl rfl (.nil (.code ?_)))))
  exact .ret0 Tryz.results36 (.tmp rfl (.tmp rfl (.nil))) (i := 0) rfl (Fz.t l_20 (Fz.t l_24 (Fz.t l_28 l_32))) ⟨none, 0, rfl, (RepSl.nil.mono (Fz.t l_20 (Fz.t l_24 (Fz.t l_28 l_32))))⟩
 ·skip
  refine .skip (.code (.seq (.region (.assign rfl rfl (.nil (.code (.seq (.seq (.region (.assign rfl rfl (.nil ?_)))))))))))
  refine .code (.block (.ownNil 2 rApiBooked 41 (.keep (.cons (k := 0) rfl (.cons (k := 1) rfl (.cons (k := 2) rfl (.cons (k := 3) rfl (.cons (k := 10) rfl (.cons (k := 11) rfl (.nil _))))))) ?_)))
  refine .loop (fun (s35 : (List ApiBooked) × Int) a w => ∃ (F_36 : Fz) (p38 : Option Addr) (k39 : Nat), F_31 ≤ F_36 ∧ Hd 165 [] [(0, (.slice p2 m_1.length k3)), (1, (.slice p6 s5.length k7)), (2, (.slice p10 c9.length k11)), (3, (.slice p14 d13.length k15)), (10, (.slice p38 s35.1.length k39)), (11, (.int .i64 s35.2))] F_36 [ownSl 2 rApiBooked F_36 41 p38 k39 s35.1, R] a w) (fun b141 e a w => e = .exit 0 ∧ ∃ (F_142 : Fz) (p144 : Option Addr) (k145 : Nat), F_31 ≤ F_142 ∧ Hd 165 [] [(1, (.slice p6 s5.length k7)), (2, (.slice p10 c9.length k11)), (3, (.slice p14 d13.length k15)), (10, (.slice p144 b141.length k145))] F_142 [ownSl 2 rApiBooked F_142 41 p144 k145 b141, R] a w) ?_ ?_ ?_
  ·exact fun a w h => ⟨F_31, none, 0, Fz.r, h.1.sub (.cons (k := 0) rfl (.cons (k := 1) rfl (.cons (k := 2) rfl (.cons (k := 3) rfl (.cons (k := 10) rfl (.cons (k := 11) rfl (.nil _))))))), h.2⟩
  ·intro s35 ctl
   refine GC.ex (fun a w ⟨F_36, p38, k39, l_37, hA⟩ => ⟨_, hA, ?_⟩)
   unfold b_wormtubref14_Book_1
   refine .seq (.seq (.region (.move rfl rfl (.move rfl rfl (.lenS rfl rfl Tryz.underlying50 rfl (.lss rfl rfl rfl (.nil (.code (.cond rfl (fun hb41 => ?_) (fun hb41 => ?_))))))))))
   ·skip
    refine .skip (.code (.seq (.block (.keep (.cons (k := 0) rfl (.cons (k := 1) rfl (.cons (k := 2) rfl (.cons (k := 3) rfl (.cons (k := 10) rfl (.cons (k := 11) rfl (.nil _))))))) (.bind (fun x43 e49 => ?_))))))
    obtain ⟨b44, o45, T46, fr47, cs48, hm50, hv51, hq52⟩ := RepSl.idxE (h4.mono (Fz.t l_20 (Fz.t l_24 (Fz.t l_28 (Fz.t l_32 l_37))))) e49
    refine .bind (fun x53 e59 => ?_)
    obtain ⟨b54, o55, T56, fr57, cs58, hm60, hv61, hq62⟩ := RepSl.idxE (h4.mono (Fz.t l_20 (Fz.t l_24 (Fz.t l_28 (Fz.t l_32 l_37))))) e59
    refine .bind (fun x63 e69 => ?_)
    obtain ⟨b64, o65, T66, fr67, cs68, hm70, hv71, hq72⟩ := RepSl.idxE (h4.mono (Fz.t l_20 (Fz.t l_24 (Fz.t l_28 (Fz.t l_32 l_37))))) e69
    refine .drawGD 19 0 (fun env42 => [((.slice p38 s35.1.length k39), fun _ => True), ((.slice p2 m_1.length k3), fun _ => True), ((.int .i64 s35.2), fun _ => True), ((.pointer (some ⟨b44, o45, none⟩)), fun _ => True), ((.pointer (some ⟨b44, o45, none⟩)), fun _ => True), ((.int .i64 x43.Kind), fun _ => True), ((.slice p2 m_1.length k3), fun _ => True), ((.int .i64 s35.2), fun _ => True), ((.pointer (some ⟨b54, o55, none⟩)), fun _ => True), ((.pointer (some ⟨b54, o55 + 1, none⟩)), fun _ => True), ((.int .i64 x53.A), fun _ => True), ((.slice p2 m_1.length k3), fun _ => True), ((.int .i64 s35.2), fun _ => True), ((.pointer (some ⟨b64, o65, none⟩)), fun _ => True), ((.pointer (some ⟨b64, o65 + 2, none⟩)), fun _ => True), ((.int .i64 x63.B), fun _ => True), ((.slice (some ⟨env42.n 160, 0, none⟩) ([x43.Kind, x53.A, x63.B]).length 3), fun G => RepSl 1 (Ex (cInt .i64)) G (some ⟨env42.n 160, 0, none⟩) 3 ([x43.Kind, x53.A, x63.B])), ((eApiBooked (ApiBooked.mk 0 ([x43.Kind, x53.A, x63.B])) (some ⟨env42.n 160, 0, none⟩) 3), fun _ => True), ((.slice (some ⟨env42.n 180, 0, none⟩) ([(ApiBooked.mk 0 ([x43.Kind, x53.A, x63.B]))]).length 1), fun G => RepSl 2 rApiBooked G (some ⟨env42.n 180, 0, none⟩) 1 ([(ApiBooked.mk 0 ([x43.Kind, x53.A, x63.B]))]))]) (fun L env42 => [ownSl 2 rApiBooked F_36 41 p38 k39 s35.1, R]) mixedOK (by kernel_rfl) (deepN (k := 19) (n := 21) rfl (allLt21 (p := fun t => 19 ≤ t → ∀ j, j < t → ∃ s, depB _ s t j = true) (fun h => absurd h (by decide)) (fun h => absurd h (by decide)) (fun h => absurd h (by decide)) (fun h => absurd h (by decide)) (fun h => absurd h (by decide)) (fun h => absurd h (by decide)) (fun h => absurd h (by decide)) (fun h => absurd h (by decide)) (fun h => absurd h (by decide)) (fun h => absurd h (by decide)) (fun h => absurd h (by decide)) (fun h => absurd h (by decide)) (fun h => absurd h (by decide)) (fun h => absurd h (by decide)) (fun h => absurd h (by decide)) (fun h => absurd h (by decide)) (fun h => absurd h (by decide)) (fun h => absurd h (by decide)) (fun h => absurd h (by decide)) (fun _ => allLt19 (p := fun j => ∃ s, depB _ s 19 j = true) ⟨1, rfl⟩ ⟨7, rfl⟩ ⟨7, rfl⟩ ⟨6, rfl⟩ ⟨5, rfl⟩ ⟨4, rfl⟩ ⟨7, rfl⟩ ⟨7, rfl⟩ ⟨6, rfl⟩ ⟨5, rfl⟩ ⟨4, rfl⟩ ⟨7, rfl⟩ ⟨7, rfl⟩ ⟨6, rfl⟩ ⟨5, rfl⟩ ⟨4, rfl⟩ ⟨3, rfl⟩ ⟨2, rfl⟩ ⟨1, rfl⟩) (fun _ => allLt20 (p := fun j => ∃ s, depB _ s 20 j = true) ⟨1, rfl⟩ ⟨1, rfl⟩ ⟨1, rfl⟩ ⟨1, rfl⟩ ⟨1, rfl⟩ ⟨1, rfl⟩ ⟨1, rfl⟩ ⟨1, rfl⟩ ⟨1, rfl⟩ ⟨1, rfl⟩ ⟨1, rfl⟩ ⟨1, rfl⟩ ⟨1, rfl⟩ ⟨1, rfl⟩ ⟨1, rfl⟩ ⟨1, rfl⟩ ⟨1, rfl⟩ ⟨1, rfl⟩ ⟨1, rfl⟩ ⟨1, rfl⟩))) rfl (fun _ => rfl) (by kernel_rfl) (fun _ => rfl) ?_ (fun env42 F_85 l_86 hphi => ?_)
    ·skip
     refine .cons (fun L env42 F_87 l_88 hL hdn hup hphi => ⟨[(10, (.slice p38 s35.1.length k39))], fun S hS hV => (.cons (hS _ _ rfl) (Sub.nil _)), ?_⟩) ?_
     ·skip
      refine .move rfl rfl ?_
      exact .finV rfl rfl Fz.r
     refine .cons (fun L env42 F_89 l_90 hL hdn hup hphi => ⟨[(0, (.slice p2 m_1.length k3))], fun S hS hV => (.cons (hS _ _ rfl) (Sub.nil _)), ?_⟩) ?_
     ·skip
      refine .move rfl rfl ?_
      exact .finV rfl rfl Fz.r
     refine .cons (fun L env42 F_91 l_92 hL hdn hup hphi => ⟨[(11, (.int .i64 s35.2))], fun S hS hV => (.cons (hS _ _ rfl) (Sub.nil _)), ?_⟩) ?_
     ·skip
      refine .move rfl rfl ?_
      exact .finV rfl rfl Fz.r
     refine .cons (fun L env42 F_93 l_94 hL hdn hup hphi => ⟨[(56, (.slice p2 m_1.length k3)), (57, (.int .i64 s35.2))], fun S hS hV => (.cons (hV 1 56 _ (hdn 1 1 rfl) rfl rfl) (.cons (hV 2 57 _ (hdn 1 2 rfl) rfl rfl) (Sub.nil _))), ?_⟩) ?_
     ·skip
      refine .idxQ rfl Tryz.underlying50 Tryz.sizeOf49 hq52 rfl rfl ?_
      exact .finV rfl rfl Fz.r
     refine .cons (fun L env42 F_95 l_96 hL hdn hup hphi => ⟨[(58, (.pointer (some ⟨b44, o45, none⟩)))], fun S hS hV => (.cons (hV 3 58 _ (hdn 1 3 rfl) rfl rfl) (Sub.nil _)), ?_⟩) ?_
     ·skip
      refine .fieldAddr rfl Tryz.underlying49 rfl Tryz.sizeOf3 rfl ?_
      exact .finV rfl rfl Fz.r
     refine .cons (fun L env42 F_97 l_98 hL hdn hup hphi => ⟨[(59, (.pointer (some ⟨b44, o45, none⟩)))], fun S hS hV => (.cons (hV 4 59 _ (hdn 1 4 rfl) rfl rfl) (Sub.nil _)), ?_⟩) ?_
     ·skip
      refine .loadF rfl Tryz.isAgg3 rfl (l_98.mem _ _ hm50) (cell_of_take (k := 0) hv51 rfl) ?_
      exact .finV rfl rfl Fz.r
     refine .cons (fun L env42 F_99 l_100 hL hdn hup hphi => ⟨[(0, (.slice p2 m_1.length k3))], fun S hS hV => (.cons (hS _ _ rfl) (Sub.nil _)), ?_⟩) ?_
     ·skip
      refine .move rfl rfl ?_
      exact .finV rfl rfl Fz.r
     refine .cons (fun L env42 F_101 l_102 hL hdn hup hphi => ⟨[(11, (.int .i64 s35.2))], fun S hS hV => (.cons (hS _ _ rfl) (Sub.nil _)), ?_⟩) ?_
     ·skip
      refine .move rfl rfl ?_
      exact .finV rfl rfl Fz.r
     refine .cons (fun L env42 F_103 l_104 hL hdn hup hphi => ⟨[(61, (.slice p2 m_1.length k3)), (62, (.int .i64 s35.2))], fun S hS hV => (.cons (hV 6 61 _ (hdn 1 6 rfl) rfl rfl) (.cons (hV 7 62 _ (hdn 1 7 rfl) rfl rfl) (Sub.nil _))), ?_⟩) ?_
     ·skip
      refine .idxQ rfl Tryz.underlying50 Tryz.sizeOf49 hq62 rfl rfl ?_
      exact .finV rfl rfl Fz.r
     refine .cons (fun L env42 F_105 l_106 hL hdn hup hphi => ⟨[(63, (.pointer (some ⟨b54, o55, none⟩)))], fun S hS hV => (.cons (hV 8 63 _ (hdn 1 8 rfl) rfl rfl) (Sub.nil _)), ?_⟩) ?_
     ·skip
      refine .fieldAddr rfl Tryz.underlying49 rfl Tryz.sizeOf3 rfl ?_
      exact .finV rfl rfl Fz.r
     refine .cons (fun L env42 F_107 l_108 hL hdn hup hphi => ⟨[(64, (.pointer (some ⟨b54, o55 + 1, none⟩)))], fun S hS hV => (.cons (hV 9 64 _ (hdn 1 9 rfl) rfl rfl) (Sub.nil _)), ?_⟩) ?_
     ·skip
      refine .loadF rfl Tryz.isAgg3 rfl (l_108.mem _ _ hm60) (cell_of_take (k := 1) hv61 rfl) ?_
      exact .finV rfl rfl Fz.r
     refine .cons (fun L env42 F_109 l_110 hL hdn hup hphi => ⟨[(0, (.slice p2 m_1.length k3))], fun S hS hV => (.cons (hS _ _ rfl) (Sub.nil _)), ?_⟩) ?_
     ·skip
      refine .move rfl rfl ?_
      exact .finV rfl rfl Fz.r
     refine .cons (fun L env42 F_111 l_112 hL hdn hup hphi => ⟨[(11, (.int .i64 s35.2))], fun S hS hV => (.cons (hS _ _ rfl) (Sub.nil _)), ?_⟩) ?_
     ·skip
      refine .move rfl rfl ?_
      exact .finV rfl rfl Fz.r
     refine .cons (fun L env42 F_113 l_114 hL hdn hup hphi => ⟨[(66, (.slice p2 m_1.length k3)), (67, (.int .i64 s35.2))], fun S hS hV => (.cons (hV 11 66 _ (hdn 1 11 rfl) rfl rfl) (.cons (hV 12 67 _ (hdn 1 12 rfl) rfl rfl) (Sub.nil _))), ?_⟩) ?_
     ·skip
      refine .idxQ rfl Tryz.underlying50 Tryz.sizeOf49 hq72 rfl rfl ?_
      exact .finV rfl rfl Fz.r
     refine .cons (fun L env42 F_115 l_116 hL hdn hup hphi => ⟨[(68, (.pointer (some ⟨b64, o65, none⟩)))], fun S hS hV => (.cons (hV 13 68 _ (hdn 1 13 rfl) rfl rfl) (Sub.nil _)), ?_⟩) ?_
     ·skip
      refine .fieldAddr rfl Tryz.underlying49 rfl Tryz.sizeOf3 rfl ?_
      exact .finV rfl rfl Fz.r
     refine .cons (fun L env42 F_117 l_118 hL hdn hup hphi => ⟨[(69, (.pointer (some ⟨b64, o65 + 2, none⟩)))], fun S hS hV => (.cons (hV 14 69 _ (hdn 1 14 rfl) rfl rfl) (Sub.nil _)), ?_⟩) ?_
     ·skip
      refine .loadF rfl Tryz.isAgg3 rfl (l_118.mem _ _ hm70) (cell_of_take (k := 2) hv71 rfl) ?_
      exact .finV rfl rfl Fz.r
     refine .cons (fun L env42 F_119 l_120 hL hdn hup hphi => ⟨[(60, (.int .i64 x43.Kind)), (65, (.int .i64 x53.A)), (70, (.int .i64 x63.B))], fun S hS hV => (.cons (hV 5 60 _ (hdn 1 5 rfl) rfl rfl) (.cons (hV 10 65 _ (hdn 1 10 rfl) rfl rfl) (.cons (hV 15 70 _ (hdn 1 15 rfl) rfl rfl) (Sub.nil _)))), ?_⟩) ?_
     ·skip
      refine .sliceLit (cs := [.int .i64 x43.Kind, .int .i64 x53.A, .int .i64 x63.B]) (zc := [.int .i64 0, .int .i64 0, .int .i64 0]) rfl Tryz.underlying31 Tryz.sizeOf3 Tryz.zeroValue3 rfl rfl rfl (by kernel_rfl) (by kernel_rfl) (fun b121 F_122 l_123 hb124 => ?_)
      have h125 : RepSl 1 (Ex (cInt .i64)) F_122 (some ⟨b121, 0, none⟩) 3 ([x43.Kind, x53.A, x63.B]) := RepSl.ofRow hb124 (.cons ok_t3.mono rfl (.cons ok_t3.mono rfl (.cons ok_t3.mono rfl .nil))) rfl rfl
      exact .finQ ({ env42 with a := env42.a, n := (updN env42.n 160 b121), c := env42.c, o := env42.o }) [true, true, true, true, true, true, true, true, true, true, true, true, true, true, true, true, false, false, false] rfl (by kernel_rfl) rfl rfl l_123 (fun _ le => h125.mono le) (cons_eq rfl (cons_eq rfl rfl))
     refine .cons (fun L env42 F_126 l_127 hL hdn hup hphi => ⟨[(71, (.slice (some ⟨env42.n 160, 0, none⟩) ([x43.Kind, x53.A, x63.B]).length 3))], fun S hS hV => (.cons (hV 16 71 _ (hdn 1 16 rfl) rfl rfl) (Sub.nil _)), ?_⟩) ?_
     ·skip
      have h78 := hphi 16 _ (hdn 1 16 rfl) rfl _ Fz.r
      refine .build (cs := (cApiBooked (ApiBooked.mk 0 ([x43.Kind, x53.A, x63.B])) (some ⟨env42.n 160, 0, none⟩) 3).toArray) rfl Tryz.underlying41 Tryz.zeroValue41 (plApiBooked _ Tryz.underlying41) rfl rfl (by kernel_rfl) ?_
      exact .finV rfl rfl Fz.r
     refine .cons (fun L env42 F_128 l_129 hL hdn hup hphi => ⟨[(72, (eApiBooked (ApiBooked.mk 0 ([x43.Kind, x53.A, x63.B])) (some ⟨env42.n 160, 0, none⟩) 3))], fun S hS hV => (.cons (hV 17 72 _ (hdn 1 17 rfl) rfl rfl) (Sub.nil _)), ?_⟩) ?_
     ·skip
      have h78 := hphi 16 _ (hdn 2 16 rfl) rfl _ Fz.r
      refine .sliceLit (cs := [.int .i64 (ApiBooked.mk 0 ([x43.Kind, x53.A, x63.B])).Kind, .slice (some ⟨env42.n 160, 0, none⟩) (ApiBooked.mk 0 ([x43.Kind, x53.A, x63.B])).N.length 3]) (zc := [.int .i64 (ApiBooked.mk 0 ([])).Kind, .slice none (ApiBooked.mk 0 ([])).N.length 0]) rfl Tryz.underlying22 Tryz.sizeOf41 Tryz.zeroValue41 rfl rfl rfl (by kernel_rfl) (by kernel_rfl) (fun b130 F_131 l_132 hb133 => ?_)
      have h134 : RepSl 2 rApiBooked F_131 (some ⟨b130, 0, none⟩) 1 ([(ApiBooked.mk 0 ([x43.Kind, x53.A, x63.B]))]) := RepSl.ofRow hb133 (.cons ok_t41.mono ⟨_, _, rfl, (h78.mono l_132)⟩ .nil) rfl rfl
      exact .finQ ({ env42 with a := env42.a, n := (updN env42.n 180 b130), c := env42.c, o := env42.o }) [true, true, true, true, true, true, true, true, true, true, true, true, true, true, true, true, true, true, false] rfl (by kernel_rfl) rfl rfl l_132 (fun _ le => h134.mono le) (cons_eq rfl (cons_eq rfl rfl))
     exact .nil
    have h78 := hphi 16 _ rfl
    have h84 := hphi 18 _ rfl
    refine .norm (S' := [(0, (.slice p2 m_1.length k3)), (1, (.slice p6 s5.length k7)), (2, (.slice p10 c9.length k11)), (3, (.slice p14 d13.length k15)), (10, (.slice p38 s35.1.length k39)), (11, (.int .i64 s35.2)), (55, (.slice p38 s35.1.length k39)), (56, (.slice p2 m_1.length k3)), (57, (.int .i64 s35.2)), (58, (.pointer (some ⟨b44, o45, none⟩))), (59, (.pointer (some ⟨b44, o45, none⟩))), (60, (.int .i64 x43.Kind)), (61, (.slice p2 m_1.length k3)), (62, (.int .i64 s35.2)), (63, (.pointer (some ⟨b54, o55, none⟩))), (64, (.pointer (some ⟨b54, o55 + 1, none⟩))), (65, (.int .i64 x53.A)), (66, (.slice p2 m_1.length k3)), (67, (.int .i64 s35.2)), (68, (.pointer (some ⟨b64, o65, none⟩))), (69, (.pointer (some ⟨b64, o65 + 2, none⟩))), (70, (.int .i64 x63.B)), (71, (.slice (some ⟨env42.n 160, 0, none⟩) ([x43.Kind, x53.A, x63.B]).length 3)), (72, (eApiBooked (ApiBooked.mk 0 ([x43.Kind, x53.A, x63.B])) (some ⟨env42.n 160, 0, none⟩) 3)), (73, (.slice (some ⟨env42.n 180, 0, none⟩) ([(ApiBooked.mk 0 ([x43.Kind, x53.A, x63.B]))]).length 1))]) (.cons (k := 0) rfl (.cons (k := 1) rfl (.cons (k := 2) rfl (.cons (k := 3) rfl (.cons (k := 10) rfl (.cons (k := 11) rfl (.cons (k := 55) rfl (.cons (k := 56) rfl (.cons (k := 57) rfl (.cons (k := 58) rfl (.cons (k := 59) rfl (.cons (k := 60) rfl (.cons (k := 61) rfl (.cons (k := 62) rfl (.cons (k := 63) rfl (.cons (k := 64) rfl (.cons (k := 65) rfl (.cons (k := 66) rfl (.cons (k := 67) rfl (.cons (k := 68) rfl (.cons (k := 69) rfl (.cons (k := 70) rfl (.cons (k := 71) rfl (.cons (k := 72) rfl (.cons (k := 73) rfl (.nil _)))))))))))))))))))))))))) (rfl : _ = [ownSl 2 rApiBooked F_36 41 p38 k39 s35.1, R]) ?_
    refine .append 0 ok_t41 l_86 rfl Tryz.underlying22 Tryz.underlying22 rfl rfl rfl h84 rfl rfl (fun l_135 p136 k137 e138 => ?_)
    refine .assign rfl rfl (.nil (.block (.keep (.cons (k := 0) rfl (.cons (k := 1) rfl (.cons (k := 2) rfl (.cons (k := 3) rfl (.cons (k := 10) rfl (.cons (k := 11) rfl (.nil _))))))) (.code (.region (.move rfl rfl (.add rfl rfl rfl (.assignL rfl rfl (fun i139 e140 => ?_)))))))))
    refine .nil ?_
    exact .nil (LPost.norm fun a w h => ⟨F_85, p136, k137, (Fz.t l_37 l_86), h.1.sub (.cons (k := 0) rfl (.cons (k := 1) rfl (.cons (k := 2) rfl (.cons (k := 3) rfl (.cons (k := 10) rfl (.cons (k := 11) rfl (.nil _))))))), h.2⟩)
   ·skip
    refine .exitOut rfl (LPost.exit fun a w h => ⟨rfl, F_36, p38, k39, l_37, h.1.sub (.cons (k := 1) rfl (.cons (k := 2) rfl (.cons (k := 3) rfl (.cons (k := 10) rfl (.nil _))))), h.2⟩)
  ·intro b141 hb0 hk e a w hD
   obtain ⟨rfl, F_142, p144, k145, l_143, hA⟩ := hD
   refine interp_exit rfl (GE.app ?_ hk a w hA)
   refine .code (.seq (.seq (.region (.assign rfl rfl (.nil (.code (.block (.keep (.cons (k := 1) rfl (.cons (k := 2) rfl (.cons (k := 3) rfl (.cons (k := 10) rfl (.cons (k := 12) rfl (.nil _)))))) ?_))))))))
   refine .loop (fun (s147 : (List ApiBooked) × Int) a w => ∃ (F_148 : Fz) (p150 : Option Addr) (k151 : Nat), F_142 ≤ F_148 ∧ Hd 165 [] [(1, (.slice p6 s5.length k7)), (2, (.slice p10 c9.length k11)), (3, (.slice p14 d13.length k15)), (10, (.slice p150 s147.1.length k151)), (12, (.int .i64 s147.2))] F_148 [ownSl 2 rApiBooked F_148 41 p150 k151 s147.1, R] a w) (fun b257 e a w => e = .exit 2 ∧ ∃ (F_258 : Fz) (p260 : Option Addr) (k261 : Nat), F_142 ≤ F_258 ∧ Hd 165 [] [(2, (.slice p10 c9.length k11)), (3, (.slice p14 d13.length k15)), (10, (.slice p260 b257.length k261))] F_258 [ownSl 2 rApiBooked F_258 41 p260 k261 b257, R] a w) ?_ ?_ ?_
   ·exact fun a w h => ⟨F_142, p144, k145, Fz.r, h.1.sub (.cons (k := 1) rfl (.cons (k := 2) rfl (.cons (k := 3) rfl (.cons (k := 10) rfl (.cons (k := 12) rfl (.nil _)))))), h.2⟩
   ·intro s147 ctl
    refine GC.ex (fun a w ⟨F_148, p150, k151, l_149, hA⟩ => ⟨_, hA, ?_⟩)
    unfold b_wormtubref14_Book_2
    refine .seq (.seq (.region (.move rfl rfl (.move rfl rfl (.lenS rfl rfl Tryz.underlying55 rfl (.lss rfl rfl rfl (.nil (.code (.cond rfl (fun hb153 => ?_) (fun hb153 => ?_))))))))))
    ·skip
     refine .skip (.code (.seq (.block (.keep (.cons (k := 1) rfl (.cons (k := 2) rfl (.cons (k := 3) rfl (.cons (k := 10) rfl (.cons (k := 12) rfl (.nil _)))))) (.bind (fun x155 e161 => ?_))))))
     obtain ⟨b156, o157, T158, fr159, cs160, hm162, hv163, hq164⟩ := RepSl.idxE (h8.mono (Fz.t l_20 (Fz.t l_24 (Fz.t l_28 (Fz.t l_32 (Fz.t l_143 l_149)))))) e161
     refine .bind (fun x165 e171 => ?_)
     obtain ⟨b166, o167, T168, fr169, cs170, hm172, hv173, hq174⟩ := RepSl.idxE (h8.mono (Fz.t l_20 (Fz.t l_24 (Fz.t l_28 (Fz.t l_32 (Fz.t l_143 l_149)))))) e171
     refine .bind (fun x175 e181 => ?_)
     obtain ⟨b176, o177, T178, fr179, cs180, hm182, hv183, hq184⟩ := RepSl.idxE (h8.mono (Fz.t l_20 (Fz.t l_24 (Fz.t l_28 (Fz.t l_32 (Fz.t l_143 l_149)))))) e181
     refine .drawGD 21 0 (fun env154 => [((.slice p150 s147.1.length k151), fun _ => True), ((.slice p6 s5.length k7), fun _ => True), ((.int .i64 s147.2), fun _ => True), ((.pointer (some ⟨b156, o157, none⟩)), fun _ => True), ((.pointer (some ⟨b156, o157, none⟩)), fun _ => True), ((.int .i64 x155.Amount), fun _ => True), ((.slice p6 s5.length k7), fun _ => True), ((.int .i64 s147.2), fun _ => True), ((.pointer (some ⟨b166, o167, none⟩)), fun _ => True), ((.pointer (some ⟨b166, o167 + 1, none⟩)), fun _ => True), ((.pointer (some ⟨b166, o167 + 1 + 0, none⟩)), fun _ => True), ((.int .i64 x165.Alcohol.Lo), fun _ => True), ((.slice p6 s5.length k7), fun _ => True), ((.int .i64 s147.2), fun _ => True), ((.pointer (some ⟨b176, o177, none⟩)), fun _ => True), ((.pointer (some ⟨b176, o177 + 1, none⟩)), fun _ => True), ((.pointer (some ⟨b176, o177 + 1 + 1, none⟩)), fun _ => True), ((.int .i64 x175.Alcohol.Hi), fun _ => True), ((.slice (some ⟨env154.n 180, 0, none⟩) ([x155.Amount, x165.Alcohol.Lo, x175.Alcohol.Hi]).length 3), fun G => RepSl 1 (Ex (cInt .i64)) G (some ⟨env154.n 180, 0, none⟩) 3 ([x155.Amount, x165.Alcohol.Lo, x175.Alcohol.Hi])), ((eApiBooked (ApiBooked.mk 1 ([x155.Amount, x165.Alcohol.Lo, x175.Alcohol.Hi])) (some ⟨env154.n 180, 0, none⟩) 3), fun _ => True), ((.slice (some ⟨env154.n 200, 0, none⟩) ([(ApiBooked.mk 1 ([x155.Amount, x165.Alcohol.Lo, x175.Alcohol.Hi]))]).length 1), fun G => RepSl 2 rApiBooked G (some ⟨env154.n 200, 0, none⟩) 1 ([(ApiBooked.mk 1 ([x155.Amount, x165.Alcohol.Lo, x175.Alcohol.Hi]))]))]) (fun L env154 => [ownSl 2 rApiBooked F_148 41 p150 k151 s147.1, R]) mixedOK (by kernel_rfl) (deepN (k := 21) (n := 23) rfl (allLt23 (p := fun t => 21 ≤ t → ∀ j, j < t → ∃ s, depB _ s t j = true) (fun h => absurd h (by decide)) (fun h => absurd h (by decide)) (fun h => absurd h (by decide)) (fun h => absurd h (by decide)) (fun h => absurd h (by decide)) (fun h => absurd h (by decide)) (fun h => absurd h (by decide)) (fun h => absurd h (by decide)) (fun h => absurd h (by decide)) (fun h => absurd h (by decide)) (fun h => absurd h (by decide)) (fun h => absurd h (by decide)) (fun h => absurd h (by decide)) (fun h => absurd h (by decide)) (fun h => absurd h (by decide)) (fun h => absurd h (by decide)) (fun h => absurd h (by decide)) (fun h => absurd h (by decide)) (fun h => absurd h (by decide)) (fun h => absurd h (by decide)) (fun h => absurd h (by decide)) (fun _ => allLt21 (p := fun j => ∃ s, depB _ s 21 j = true) ⟨1, rfl⟩ ⟨7, rfl⟩ ⟨7, rfl⟩ ⟨6, rfl⟩ ⟨5, rfl⟩ ⟨4, rfl⟩ ⟨8, rfl⟩ ⟨8, rfl⟩ ⟨7, rfl⟩ ⟨6, rfl⟩ ⟨5, rfl⟩ ⟨4, rfl⟩ ⟨8, rfl⟩ ⟨8, rfl⟩ ⟨7, rfl⟩ ⟨6, rfl⟩ ⟨5, rfl⟩ ⟨4, rfl⟩ ⟨3, rfl⟩ ⟨2, rfl⟩ ⟨1, rfl⟩) (fun _ => allLt22 (p := fun j => ∃ s, depB _ s 22 j = true) ⟨1, rfl⟩ ⟨1, rfl⟩ ⟨1, rfl⟩ ⟨1, rfl⟩ ⟨1, rfl⟩ ⟨1, rfl⟩ ⟨1, rfl⟩ ⟨1, rfl⟩ ⟨1, rfl⟩ ⟨1, rfl⟩ ⟨1, rfl⟩ ⟨1, rfl⟩ ⟨1, rfl⟩ ⟨1, rfl⟩ ⟨1, rfl⟩ ⟨1, rfl⟩ ⟨1, rfl⟩ ⟨1, rfl⟩ ⟨1, rfl⟩ ⟨1, rfl⟩ ⟨1, rfl⟩ ⟨1, rfl⟩))) rfl (fun _ => rfl) (by kernel_rfl) (fun _ => rfl) ?_ (fun env154 F_197 l_198 hphi => ?_)
     ·skip
      refine .cons (fun L env154 F_199 l_200 hL hdn hup hphi => ⟨[(10, (.slice p150 s147.1.length k151))], fun S hS hV => (.cons (hS _ _ rfl) (Sub.nil _)), ?_⟩) ?_
      ·skip
       refine .move rfl rfl ?_
       exact .finV rfl rfl Fz.r
      refine .cons (fun L env154 F_201 l_202 hL hdn hup hphi => ⟨[(1, (.slice p6 s5.length k7))], fun S hS hV => (.cons (hS _ _ rfl) (Sub.nil _)), ?_⟩) ?_
      ·skip
       refine .move rfl rfl ?_
       exact .finV rfl rfl Fz.r
      refine .cons (fun L env154 F_203 l_204 hL hdn hup hphi => ⟨[(12, (.int .i64 s147.2))], fun S hS hV => (.cons (hS _ _ rfl) (Sub.nil _)), ?_⟩) ?_
      ·skip
       refine .move rfl rfl ?_
       exact .finV rfl rfl Fz.r
      refine .cons (fun L env154 F_205 l_206 hL hdn hup hphi => ⟨[(82, (.slice p6 s5.length k7)), (83, (.int .i64 s147.2))], fun S hS hV => (.cons (hV 1 82 _ (hdn 1 1 rfl) rfl rfl) (.cons (hV 2 83 _ (hdn 1 2 rfl) rfl rfl) (Sub.nil _))), ?_⟩) ?_
      ·skip
       refine .idxQ rfl Tryz.underlying55 Tryz.sizeOf54 hq164 rfl rfl ?_
       exact .finV rfl rfl Fz.r
      refine .cons (fun L env154 F_207 l_208 hL hdn hup hphi => ⟨[(84, (.pointer (some ⟨b156, o157, none⟩)))], fun S hS hV => (.cons (hV 3 84 _ (hdn 1 3 rfl) rfl rfl) (Sub.nil _)), ?_⟩) ?_
      ·skip
       refine .fieldAddr rfl Tryz.underlying54 rfl Tryz.sizeOf3 rfl ?_
       exact .finV rfl rfl Fz.r
      refine .cons (fun L env154 F_209 l_210 hL hdn hup hphi => ⟨[(85, (.pointer (some ⟨b156, o157, none⟩)))], fun S hS hV => (.cons (hV 4 85 _ (hdn 1 4 rfl) rfl rfl) (Sub.nil _)), ?_⟩) ?_
      ·skip
       refine .loadF rfl Tryz.isAgg3 rfl (l_210.mem _ _ hm162) (cell_of_take (k := 0) hv163 rfl) ?_
       exact .finV rfl rfl Fz.r
      refine .cons (fun L env154 F_211 l_212 hL hdn hup hphi => ⟨[(1, (.slice p6 s5.length k7))], fun S hS hV => (.cons (hS _ _ rfl) (Sub.nil _)), ?_⟩) ?_
      ·skip
       refine .move rfl rfl ?_
       exact .finV rfl rfl Fz.r
      refine .cons (fun L env154 F_213 l_214 hL hdn hup hphi => ⟨[(12, (.int .i64 s147.2))], fun S hS hV => (.cons (hS _ _ rfl) (Sub.nil _)), ?_⟩) ?_
      ·skip
       refine .move rfl rfl ?_
       exact .finV rfl rfl Fz.r
      refine .cons (fun L env154 F_215 l_216 hL hdn hup hphi => ⟨[(87, (.slice p6 s5.length k7)), (88, (.int .i64 s147.2))], fun S hS hV => (.cons (hV 6 87 _ (hdn 1 6 rfl) rfl rfl) (.cons (hV 7 88 _ (hdn 1 7 rfl) rfl rfl) (Sub.nil _))), ?_⟩) ?_
      ·skip
       refine .idxQ rfl Tryz.underlying55 Tryz.sizeOf54 hq174 rfl rfl ?_
       exact .finV rfl rfl Fz.r
      refine .cons (fun L env154 F_217 l_218 hL hdn hup hphi => ⟨[(89, (.pointer (some ⟨b166, o167, none⟩)))], fun S hS hV => (.cons (hV 8 89 _ (hdn 1 8 rfl) rfl rfl) (Sub.nil _)), ?_⟩) ?_
      ·skip
       refine .fieldAddr rfl Tryz.underlying54 rfl Tryz.sizeOf52 rfl ?_
       exact .finV rfl rfl Fz.r
      refine .cons (fun L env154 F_219 l_220 hL hdn hup hphi => ⟨[(90, (.pointer (some ⟨b166, o167 + 1, none⟩)))], fun S hS hV => (.cons (hV 9 90 _ (hdn 1 9 rfl) rfl rfl) (Sub.nil _)), ?_⟩) ?_
      ·skip
       refine .fieldAddr rfl Tryz.underlying52 rfl Tryz.sizeOf3 rfl ?_
       exact .finV rfl rfl Fz.r
      refine .cons (fun L env154 F_221 l_222 hL hdn hup hphi => ⟨[(91, (.pointer (some ⟨b166, o167 + 1 + 0, none⟩)))], fun S hS hV => (.cons (hV 10 91 _ (hdn 1 10 rfl) rfl rfl) (Sub.nil _)), ?_⟩) ?_
      ·skip
       refine .loadF rfl Tryz.isAgg3 rfl (l_222.mem _ _ hm172) (cell_of_take (k := 1 + 0) hv173 rfl) ?_
       exact .finV rfl rfl Fz.r
      refine .cons (fun L env154 F_223 l_224 hL hdn hup hphi => ⟨[(1, (.slice p6 s5.length k7))], fun S hS hV => (.cons (hS _ _ rfl) (Sub.nil _)), ?_⟩) ?_
      ·skip
       refine .move rfl rfl ?_
       exact .finV rfl rfl Fz.r
      refine .cons (fun L env154 F_225 l_226 hL hdn hup hphi => ⟨[(12, (.int .i64 s147.2))], fun S hS hV => (.cons (hS _ _ rfl) (Sub.nil _)), ?_⟩) ?_
      ·skip
       refine .move rfl rfl ?_
       exact .finV rfl rfl Fz.r
      refine .cons (fun L env154 F_227 l_228 hL hdn hup hphi => ⟨[(93, (.slice p6 s5.length k7)), (94, (.int .i64 s147.2))], fun S hS hV => (.cons (hV 12 93 _ (hdn 1 12 rfl) rfl rfl) (.cons (hV 13 94 _ (hdn 1 13 rfl) rfl rfl) (Sub.nil _))), ?_⟩) ?_
      ·skip
       refine .idxQ rfl Tryz.underlying55 Tryz.sizeOf54 hq184 rfl rfl ?_
       exact .finV rfl rfl Fz.r
      refine .cons (fun L env154 F_229 l_230 hL hdn hup hphi => ⟨[(95, (.pointer (some ⟨b176, o177, none⟩)))], fun S hS hV => (.cons (hV 14 95 _ (hdn 1 14 rfl) rfl rfl) (Sub.nil _)), ?_⟩) ?_
      ·skip
       refine .fieldAddr rfl Tryz.underlying54 rfl Tryz.sizeOf52 rfl ?_
       exact .finV rfl rfl Fz.r
      refine .cons (fun L env154 F_231 l_232 hL hdn hup hphi => ⟨[(96, (.pointer (some ⟨b176, o177 + 1, none⟩)))], fun S hS hV => (.cons (hV 15 96 _ (hdn 1 15 rfl) rfl rfl) (Sub.nil _)), ?_⟩) ?_
      ·skip
       refine .fieldAddr rfl Tryz.underlying52 rfl Tryz.sizeOf3 rfl ?_
       exact .finV rfl rfl Fz.r
      refine .cons (fun L env154 F_233 l_234 hL hdn hup hphi => ⟨[(97, (.pointer (some ⟨b176, o177 + 1 + 1, none⟩)))], fun S hS hV => (.cons (hV 16 97 _ (hdn 1 16 rfl) rfl rfl) (Sub.nil _)), ?_⟩) ?_
      ·skip
       refine .loadF rfl Tryz.isAgg3 rfl (l_234.mem _ _ hm182) (cell_of_take (k := 1 + 1) hv183 rfl) ?_
       exact .finV rfl rfl Fz.r
      refine .cons (fun L env154 F_235 l_236 hL hdn hup hphi => ⟨[(86, (.int .i64 x155.Amount)), (92, (.int .i64 x165.Alcohol.Lo)), (98, (.int .i64 x175.Alcohol.Hi))], fun S hS hV => (.cons (hV 5 86 _ (hdn 1 5 rfl) rfl rfl) (.cons (hV 11 92 _ (hdn 1 11 rfl) rfl rfl) (.cons (hV 17 98 _ (hdn 1 17 rfl) rfl rfl) (Sub.nil _)))), ?_⟩) ?_
      ·skip
       refine .sliceLit (cs := [.int .i64 x155.Amount, .int .i64 x165.Alcohol.Lo, .int .i64 x175.Alcohol.Hi]) (zc := [.int .i64 0, .int .i64 0, .int .i64 0]) rfl Tryz.underlying31 Tryz.sizeOf3 Tryz.zeroValue3 rfl rfl rfl (by kernel_rfl) (by kernel_rfl) (fun b237 F_238 l_239 hb240 => ?_)
       have h241 : RepSl 1 (Ex (cInt .i64)) F_238 (some ⟨b237, 0, none⟩) 3 ([x155.Amount, x165.Alcohol.Lo, x175.Alcohol.Hi]) := RepSl.ofRow hb240 (.cons ok_t3.mono rfl (.cons ok_t3.mono rfl (.cons ok_t3.mono rfl .nil))) rfl rfl
       exact .finQ ({ env154 with a := env154.a, n := (updN env154.n 180 b237), c := env154.c, o := env154.o }) [true, true, true, true, true, true, true, true, true, true, true, true, true, true, true, true, true, true, false, false, false] rfl (by kernel_rfl) rfl rfl l_239 (fun _ le => h241.mono le) (cons_eq rfl (cons_eq rfl rfl))
      refine .cons (fun L env154 F_242 l_243 hL hdn hup hphi => ⟨[(99, (.slice (some ⟨env154.n 180, 0, none⟩) ([x155.Amount, x165.Alcohol.Lo, x175.Alcohol.Hi]).length 3))], fun S hS hV => (.cons (hV 18 99 _ (hdn 1 18 rfl) rfl rfl) (Sub.nil _)), ?_⟩) ?_
      ·skip
       have h190 := hphi 18 _ (hdn 1 18 rfl) rfl _ Fz.r
       refine .build (cs := (cApiBooked (ApiBooked.mk 1 ([x155.Amount, x165.Alcohol.Lo, x175.Alcohol.Hi])) (some ⟨env154.n 180, 0, none⟩) 3).toArray) rfl Tryz.underlying41 Tryz.zeroValue41 (plApiBooked _ Tryz.underlying41) rfl rfl (by kernel_rfl) ?_
       exact .finV rfl rfl Fz.r
      refine .cons (fun L env154 F_244 l_245 hL hdn hup hphi => ⟨[(100, (eApiBooked (ApiBooked.mk 1 ([x155.Amount, x165.Alcohol.Lo, x175.Alcohol.Hi])) (some ⟨env154.n 180, 0, none⟩) 3))], fun S hS hV => (.cons (hV 19 100 _ (hdn 1 19 rfl) rfl rfl) (Sub.nil _)), ?_⟩) ?_
      ·skip
       have h190 := hphi 18 _ (hdn 2 18 rfl) rfl _ Fz.r
       refine .sliceLit (cs := [.int .i64 (ApiBooked.mk 1 ([x155.Amount, x165.Alcohol.Lo, x175.Alcohol.Hi])).Kind, .slice (some ⟨env154.n 180, 0, none⟩) (ApiBooked.mk 1 ([x155.Amount, x165.Alcohol.Lo, x175.Alcohol.Hi])).N.length 3]) (zc := [.int .i64 (ApiBooked.mk 0 ([])).Kind, .slice none (ApiBooked.mk 0 ([])).N.length 0]) rfl Tryz.underlying22 Tryz.sizeOf41 Tryz.zeroValue41 rfl rfl rfl (by kernel_rfl) (by kernel_rfl) (fun b246 F_247 l_248 hb249 => ?_)
       have h250 : RepSl 2 rApiBooked F_247 (some ⟨b246, 0, none⟩) 1 ([(ApiBooked.mk 1 ([x155.Amount, x165.Alcohol.Lo, x175.Alcohol.Hi]))]) := RepSl.ofRow hb249 (.cons ok_t41.mono ⟨_, _, rfl, (h190.mono l_248)⟩ .nil) rfl rfl
       exact .finQ ({ env154 with a := env154.a, n := (updN env154.n 200 b246), c := env154.c, o := env154.o }) [true, true, true, true, true, true, true, true, true, true, true, true, true, true, true, true, true, true, true, true, false] rfl (by kernel_rfl) rfl rfl l_248 (fun _ le => h250.mono le) (cons_eq rfl (cons_eq rfl rfl))
      exact .nil
     have h190 := hphi 18 _ rfl
     have h196 := hphi 20 _ rfl
     refine .norm (S' := [(1, (.slice p6 s5.length k7)), (2, (.slice p10 c9.length k11)), (3, (.slice p14 d13.length k15)), (10, (.slice p150 s147.1.length k151)), (12, (.int .i64 s147.2)), (81, (.slice p150 s147.1.length k151)), (82, (.slice p6 s5.length k7)), (83, (.int .i64 s147.2)), (84, (.pointer (some ⟨b156, o157, none⟩))), (85, (.pointer (some ⟨b156, o157, none⟩))), (86, (.int .i64 x155.Amount)), (87, (.slice p6 s5.length k7)), (88, (.int .i64 s147.2)), (89, (.pointer (some ⟨b166, o167, none⟩))), (90, (.pointer (some ⟨b166, o167 + 1, none⟩))), (91, (.pointer (some ⟨b166, o167 + 1 + 0, none⟩))), (92, (.int .i64 x165.Alcohol.Lo)), (93, (.slice p6 s5.length k7)), (94, (.int .i64 s147.2)), (95, (.pointer (some ⟨b176, o177, none⟩))), (96, (.pointer (some ⟨b176, o177 + 1, none⟩))), (97, (.pointer (some ⟨b176, o177 + 1 + 1, none⟩))), (98, (.int .i64 x175.Alcohol.Hi)), (99, (.slice (some ⟨env154.n 180, 0, none⟩) ([x155.Amount, x165.Alcohol.Lo, x175.Alcohol.Hi]).length 3)), (100, (eApiBooked (ApiBooked.mk 1 ([x155.Amount, x165.Alcohol.Lo, x175.Alcohol.Hi])) (some ⟨env154.n 180, 0, none⟩) 3)), (101, (.slice (some ⟨env154.n 200, 0, none⟩) ([(ApiBooked.mk 1 ([x155.Amount, x165.Alcohol.Lo, x175.Alcohol.Hi]))]).length 1))]) (.cons (k := 1) rfl (.cons (k := 2) rfl (.cons (k := 3) rfl (.cons (k := 10) rfl (.cons (k := 12) rfl (.cons (k := 81) rfl (.cons (k := 82) rfl (.cons (k := 83) rfl (.cons (k := 84) rfl (.cons (k := 85) rfl (.cons (k := 86) rfl (.cons (k := 87) rfl (.cons (k := 88) rfl (.cons (k := 89) rfl (.cons (k := 90) rfl (.cons (k := 91) rfl (.cons (k := 92) rfl (.cons (k := 93) rfl (.cons (k := 94) rfl (.cons (k := 95) rfl (.cons (k := 96) rfl (.cons (k := 97) rfl (.cons (k := 98) rfl (.cons (k := 99) rfl (.cons (k := 100) rfl (.cons (k := 101) rfl (.nil _))))))))))))))))))))))))))) (rfl : _ = [ownSl 2 rApiBooked F_148 41 p150 k151 s147.1, R]) ?_
     refine .append 0 ok_t41 l_198 rfl Tryz.underlying22 Tryz.underlying22 rfl rfl rfl h196 rfl rfl (fun l_251 p252 k253 e254 => ?_)
     refine .assign rfl rfl (.nil (.block (.keep (.cons (k := 1) rfl (.cons (k := 2) rfl (.cons (k := 3) rfl (.cons (k := 10) rfl (.cons (k := 12) rfl (.nil _)))))) (.code (.region (.move rfl rfl (.add rfl rfl rfl (.assignL rfl rfl (fun i255 e256 => ?_)))))))))
     refine .nil ?_
     exact .nil (LPost.norm fun a w h => ⟨F_197, p252, k253, (Fz.t l_149 l_198), h.1.sub (.cons (k := 1) rfl (.cons (k := 2) rfl (.cons (k := 3) rfl (.cons (k := 10) rfl (.cons (k := 12) rfl (.nil _)))))), h.2⟩)
    ·skip
     refine .exitOut rfl (LPost.exit fun a w h => ⟨rfl, F_148, p150, k151, l_149, h.1.sub (.cons (k := 2) rfl (.cons (k := 3) rfl (.cons (k := 10) rfl (.nil _)))), h.2⟩)
   ·intro b257 hb0 hk e a w hD
    obtain ⟨rfl, F_258, p260, k261, l_259, hA⟩ := hD
    refine interp_exit rfl (GE.app ?_ hk a w hA)
    refine .code (.seq (.seq (.region (.assign rfl rfl (.nil (.code (.block (.keep (.cons (k := 2) rfl (.cons (k := 3) rfl (.cons (k := 10) rfl (.cons (k := 13) rfl (.nil _))))) ?_))))))))
    refine .loop (fun (s263 : (List ApiBooked) × Int) a w => ∃ (F_264 : Fz) (p266 : Option Addr) (k267 : Nat), F_258 ≤ F_264 ∧ Hd 165 [] [(2, (.slice p10 c9.length k11)), (3, (.slice p14 d13.length k15)), (10, (.slice p266 s263.1.length k267)), (13, (.int .i64 s263.2))] F_264 [ownSl 2 rApiBooked F_264 41 p266 k267 s263.1, R] a w) (fun b297 e a w => e = .exit 4 ∧ ∃ (F_298 : Fz) (p300 : Option Addr) (k301 : Nat), F_258 ≤ F_298 ∧ Hd 165 [] [(3, (.slice p14 d13.length k15)), (10, (.slice p300 b297.length k301))] F_298 [ownSl 2 rApiBooked F_298 41 p300 k301 b297, R] a w) ?_ ?_ ?_
    ·exact fun a w h => ⟨F_258, p260, k261, Fz.r, h.1.sub (.cons (k := 2) rfl (.cons (k := 3) rfl (.cons (k := 10) rfl (.cons (k := 13) rfl (.nil _))))), h.2⟩
    ·intro s263 ctl
     refine GC.ex (fun a w ⟨F_264, p266, k267, l_265, hA⟩ => ⟨_, hA, ?_⟩)
     unfold b_wormtubref14_Book_3
     refine .seq (.seq (.region (.move rfl rfl (.move rfl rfl (.lenS rfl rfl Tryz.underlying58 rfl (.lss rfl rfl rfl (.nil (.code (.cond rfl (fun hb269 => ?_) (fun hb269 => ?_))))))))))
     ·skip
      refine .skip (.code (.seq (.block (.seq (.region (.move rfl rfl (.move rfl rfl (.idx rfl Tryz.underlying58 Tryz.sizeOf69 (h12.mono (Fz.t l_20 (Fz.t l_24 (Fz.t l_28 (Fz.t l_32 (Fz.t l_143 (Fz.t l_259 l_265))))))) rfl rfl (fun x270 b271 o272 T273 fr274 cs275 e276 hm277 hv278 => ?_)))))))))
      refine .loadFA rfl Tryz.isAgg69 Tryz.sizeOf69 rfl hm277 hv278 rfl (.alloc (cs := (cApiCaskEvent (ApiCaskEvent.mk 0 0 0 0 0 0 0 0))) rfl Tryz.zeroValue69 rfl (fun b280 => ?_))
      refine .store (cs' := (cApiCaskEvent x270)) Tryz.sizeOf69 rfl rfl rfl rfl (i := 0) rfl (Nat.le_of_ble_eq_true rfl) rfl (setMany_all (by rfl)) (.nil (.code (.region (.move rfl rfl (.fieldAddr rfl Tryz.underlying69 rfl Tryz.sizeOf3 rfl (.loadO rfl Tryz.isAgg3 rfl (i := 0) rfl rfl (.fieldAddr rfl Tryz.underlying69 rfl Tryz.sizeOf3 rfl (.loadO rfl Tryz.isAgg3 rfl (i := 0) rfl rfl ?_))))))))
      refine .fieldAddr rfl Tryz.underlying69 rfl Tryz.sizeOf3 rfl (.loadO rfl Tryz.isAgg3 rfl (i := 0) rfl rfl (.fieldAddr rfl Tryz.underlying69 rfl Tryz.sizeOf3 rfl (.loadO rfl Tryz.isAgg3 rfl (i := 0) rfl rfl (.fieldAddr rfl Tryz.underlying69 rfl Tryz.sizeOf3 rfl (.loadO rfl Tryz.isAgg3 rfl (i := 0) rfl rfl (.fieldAddr rfl Tryz.underlying69 rfl Tryz.sizeOf3 rfl (.loadO rfl Tryz.isAgg3 rfl (i := 0) rfl rfl ?_)))))))
      refine .fieldAddr rfl Tryz.underlying69 rfl Tryz.sizeOf3 rfl (.loadO rfl Tryz.isAgg3 rfl (i := 0) rfl rfl (.fieldAddr rfl Tryz.underlying69 rfl Tryz.sizeOf3 rfl (.loadO rfl Tryz.isAgg3 rfl (i := 0) rfl rfl ?_)))
      refine .sliceLit (cs := [.int .i64 x270.Kind, .int .i64 x270.Day, .int .i64 x270.Cask, .int .i64 x270.Other, .int .i64 x270.Person, .int .i64 x270.To, .int .i64 x270.Amount, .int .i64 x270.Where]) (zc := [.int .i64 0, .int .i64 0, .int .i64 0, .int .i64 0, .int .i64 0, .int .i64 0, .int .i64 0, .int .i64 0]) rfl Tryz.underlying31 Tryz.sizeOf3 Tryz.zeroValue3 rfl rfl rfl (by kernel_rfl) (by kernel_rfl) (fun b281 F_282 l_283 hb284 => ?_)
      have h285 : RepSl 1 (Ex (cInt .i64)) F_282 (some ⟨b281, 0, none⟩) 8 ([x270.Kind, x270.Day, x270.Cask, x270.Other, x270.Person, x270.To, x270.Amount, x270.Where]) := RepSl.ofRow hb284 (.cons ok_t3.mono rfl (.cons ok_t3.mono rfl (.cons ok_t3.mono rfl (.cons ok_t3.mono rfl (.cons ok_t3.mono rfl (.cons ok_t3.mono rfl (.cons ok_t3.mono rfl (.cons ok_t3.mono rfl .nil)))))))) rfl rfl
      refine .build (cs := (cApiBooked (ApiBooked.mk 2 ([x270.Kind, x270.Day, x270.Cask, x270.Other, x270.Person, x270.To, x270.Amount, x270.Where])) (some ⟨b281, 0, none⟩) 8).toArray) rfl Tryz.underlying41 Tryz.zeroValue41 (plApiBooked _ Tryz.underlying41) rfl rfl (by kernel_rfl) ?_
      refine .sliceLit (cs := [.int .i64 (ApiBooked.mk 2 ([x270.Kind, x270.Day, x270.Cask, x270.Other, x270.Person, x270.To, x270.Amount, x270.Where])).Kind, .slice (some ⟨b281, 0, none⟩) (ApiBooked.mk 2 ([x270.Kind, x270.Day, x270.Cask, x270.Other, x270.Person, x270.To, x270.Amount, x270.Where])).N.length 8]) (zc := [.int .i64 (ApiBooked.mk 0 ([])).Kind, .slice none (ApiBooked.mk 0 ([])).N.length 0]) rfl Tryz.underlying22 Tryz.sizeOf41 Tryz.zeroValue41 rfl rfl rfl (by kernel_rfl) (by kernel_rfl) (fun b286 F_287 l_288 hb289 => ?_)
      have h290 : RepSl 2 rApiBooked F_287 (some ⟨b286, 0, none⟩) 1 ([(ApiBooked.mk 2 ([x270.Kind, x270.Day, x270.Cask, x270.Other, x270.Person, x270.To, x270.Amount, x270.Where]))]) := RepSl.ofRow hb289 (.cons ok_t41.mono ⟨_, _, rfl, (h285.mono l_288)⟩ .nil) rfl rfl
      refine .append 1 ok_t41 (Fz.t l_283 l_288) rfl Tryz.underlying22 Tryz.underlying22 rfl rfl rfl h290 rfl rfl (fun l_291 p292 k293 e294 => ?_)
      refine .assign rfl rfl (.nil (.block (.keep (.cons (k := 2) rfl (.cons (k := 3) rfl (.cons (k := 10) rfl (.cons (k := 13) rfl (.nil _))))) (.code (.region (.move rfl rfl (.add rfl rfl rfl (.assignL rfl rfl (fun i295 e296 => ?_)))))))))
      refine .nil (.drop 0 ?_)
      exact .nil (LPost.norm fun a w h => ⟨F_287, p292, k293, (Fz.t l_265 (Fz.t l_283 l_288)), h.1.sub (.cons (k := 2) rfl (.cons (k := 3) rfl (.cons (k := 10) rfl (.cons (k := 13) rfl (.nil _))))), h.2⟩)
     ·skip
      refine .exitOut rfl (LPost.exit fun a w h => ⟨rfl, F_264, p266, k267, l_265, h.1.sub (.cons (k := 3) rfl (.cons (k := 10) rfl (.nil _))), h.2⟩)
    ·intro b297 hb0 hk e a w hD
     obtain ⟨rfl, F_298, p300, k301, l_299, hA⟩ := hD
     refine interp_exit rfl (GE.app ?_ hk a w hA)
     refine .code (.seq (.seq (.region (.assign rfl rfl (.nil (.code (.block (.keep (.cons (k := 3) rfl (.cons (k := 10) rfl (.cons (k := 15) rfl (.nil _)))) ?_))))))))
     refine .loop (fun (s303 : (List ApiBooked) × Int) a w => ∃ (F_304 : Fz) (p306 : Option Addr) (k307 : Nat), F_298 ≤ F_304 ∧ Hd 165 [] [(3, (.slice p14 d13.length k15)), (10, (.slice p306 s303.1.length k307)), (15, (.int .i64 s303.2))] F_304 [ownSl 2 rApiBooked F_304 41 p306 k307 s303.1, R] a w) (fun b337 e a w => e = .exit 6 ∧ ∃ (F_338 : Fz) (p340 : Option Addr) (k341 : Nat), F_298 ≤ F_338 ∧ Hd 165 [] [(10, (.slice p340 b337.length k341))] F_338 [ownSl 2 rApiBooked F_338 41 p340 k341 b337, R] a w) ?_ ?_ ?_
     ·exact fun a w h => ⟨F_298, p300, k301, Fz.r, h.1.sub (.cons (k := 3) rfl (.cons (k := 10) rfl (.cons (k := 15) rfl (.nil _)))), h.2⟩
     ·intro s303 ctl
      refine GC.ex (fun a w ⟨F_304, p306, k307, l_305, hA⟩ => ⟨_, hA, ?_⟩)
      unfold b_wormtubref14_Book_4
      refine .seq (.seq (.region (.move rfl rfl (.move rfl rfl (.lenS rfl rfl Tryz.underlying56 rfl (.lss rfl rfl rfl (.nil (.code (.cond rfl (fun hb309 => ?_) (fun hb309 => ?_))))))))))
      ·skip
       refine .skip (.code (.seq (.block (.seq (.region (.move rfl rfl (.move rfl rfl (.idx rfl Tryz.underlying56 Tryz.sizeOf72 (h16.mono (Fz.t l_20 (Fz.t l_24 (Fz.t l_28 (Fz.t l_32 (Fz.t l_143 (Fz.t l_259 (Fz.t l_299 l_305)))))))) rfl rfl (fun x310 b311 o312 T313 fr314 cs315 e316 hm317 hv318 => ?_)))))))))
       refine .loadFA rfl Tryz.isAgg72 Tryz.sizeOf72 rfl hm317 hv318 rfl (.alloc (cs := (cApiDutyEvent (ApiDutyEvent.mk 0 0 0 0 0 0))) rfl Tryz.zeroValue72 rfl (fun b320 => ?_))
       refine .store (cs' := (cApiDutyEvent x310)) Tryz.sizeOf72 rfl rfl rfl rfl (i := 0) rfl (Nat.le_of_ble_eq_true rfl) rfl (setMany_all (by rfl)) (.nil (.code (.region (.move rfl rfl (.fieldAddr rfl Tryz.underlying72 rfl Tryz.sizeOf3 rfl (.loadO rfl Tryz.isAgg3 rfl (i := 0) rfl rfl (.fieldAddr rfl Tryz.underlying72 rfl Tryz.sizeOf3 rfl (.loadO rfl Tryz.isAgg3 rfl (i := 0) rfl rfl ?_))))))))
       refine .fieldAddr rfl Tryz.underlying72 rfl Tryz.sizeOf3 rfl (.loadO rfl Tryz.isAgg3 rfl (i := 0) rfl rfl (.fieldAddr rfl Tryz.underlying72 rfl Tryz.sizeOf3 rfl (.loadO rfl Tryz.isAgg3 rfl (i := 0) rfl rfl (.fieldAddr rfl Tryz.underlying72 rfl Tryz.sizeOf3 rfl (.loadO rfl Tryz.isAgg3 rfl (i := 0) rfl rfl (.fieldAddr rfl Tryz.underlying72 rfl Tryz.sizeOf3 rfl (.loadO rfl Tryz.isAgg3 rfl (i := 0) rfl rfl ?_)))))))
       refine .sliceLit (cs := [.int .i64 x310.Kind, .int .i64 x310.Day, .int .i64 x310.Bond, .int .i64 x310.To, .int .i64 x310.Id, .int .i64 x310.Amount]) (zc := [.int .i64 0, .int .i64 0, .int .i64 0, .int .i64 0, .int .i64 0, .int .i64 0]) rfl Tryz.underlying31 Tryz.sizeOf3 Tryz.zeroValue3 rfl rfl rfl (by kernel_rfl) (by kernel_rfl) (fun b321 F_322 l_323 hb324 => ?_)
       have h325 : RepSl 1 (Ex (cInt .i64)) F_322 (some ⟨b321, 0, none⟩) 6 ([x310.Kind, x310.Day, x310.Bond, x310.To, x310.Id, x310.Amount]) := RepSl.ofRow hb324 (.cons ok_t3.mono rfl (.cons ok_t3.mono rfl (.cons ok_t3.mono rfl (.cons ok_t3.mono rfl (.cons ok_t3.mono rfl (.cons ok_t3.mono rfl .nil)))))) rfl rfl
       refine .build (cs := (cApiBooked (ApiBooked.mk 3 ([x310.Kind, x310.Day, x310.Bond, x310.To, x310.Id, x310.Amount])) (some ⟨b321, 0, none⟩) 6).toArray) rfl Tryz.underlying41 Tryz.zeroValue41 (plApiBooked _ Tryz.underlying41) rfl rfl (by kernel_rfl) ?_
       refine .sliceLit (cs := [.int .i64 (ApiBooked.mk 3 ([x310.Kind, x310.Day, x310.Bond, x310.To, x310.Id, x310.Amount])).Kind, .slice (some ⟨b321, 0, none⟩) (ApiBooked.mk 3 ([x310.Kind, x310.Day, x310.Bond, x310.To, x310.Id, x310.Amount])).N.length 6]) (zc := [.int .i64 (ApiBooked.mk 0 ([])).Kind, .slice none (ApiBooked.mk 0 ([])).N.length 0]) rfl Tryz.underlying22 Tryz.sizeOf41 Tryz.zeroValue41 rfl rfl rfl (by kernel_rfl) (by kernel_rfl) (fun b326 F_327 l_328 hb329 => ?_)
       have h330 : RepSl 2 rApiBooked F_327 (some ⟨b326, 0, none⟩) 1 ([(ApiBooked.mk 3 ([x310.Kind, x310.Day, x310.Bond, x310.To, x310.Id, x310.Amount]))]) := RepSl.ofRow hb329 (.cons ok_t41.mono ⟨_, _, rfl, (h325.mono l_328)⟩ .nil) rfl rfl
       refine .append 1 ok_t41 (Fz.t l_323 l_328) rfl Tryz.underlying22 Tryz.underlying22 rfl rfl rfl h330 rfl rfl (fun l_331 p332 k333 e334 => ?_)
       refine .assign rfl rfl (.nil (.block (.keep (.cons (k := 3) rfl (.cons (k := 10) rfl (.cons (k := 15) rfl (.nil _)))) (.code (.region (.move rfl rfl (.add rfl rfl rfl (.assignL rfl rfl (fun i335 e336 => ?_)))))))))
       refine .nil (.drop 0 ?_)
       exact .nil (LPost.norm fun a w h => ⟨F_327, p332, k333, (Fz.t l_305 (Fz.t l_323 l_328)), h.1.sub (.cons (k := 3) rfl (.cons (k := 10) rfl (.cons (k := 15) rfl (.nil _)))), h.2⟩)
      ·skip
       refine .exitOut rfl (LPost.exit fun a w h => ⟨rfl, F_304, p306, k307, l_305, h.1.sub (.cons (k := 10) rfl (.nil _)), h.2⟩)
     ·intro b337 hb0 hk e a w hD
      obtain ⟨rfl, F_338, p340, k341, l_339, hA⟩ := hD
      refine interp_exit rfl (GE.app ?_ hk a w hA)
      refine .code (.seq (.seq (.region (.move rfl rfl (.freezeSl 0 rfl Fz.r (fun F_343 l_344 h345 => ?_))))))
      refine .call0 rfl Tryz.call46 rfl rfl rfl (c_wormtubref14_Valid _ b337 p340 k341 h345) ?_
      rintro r_348 F_346 _ - l_347 rfl
      refine .not rfl rfl (.nil (.code (.cond rfl (fun hb349 => ?_) (fun hb349 => ?_))))
      ·skip
       refine .seq (.region (.assign rfl rfl (.assign rfl rfl (.nil (.code ?_)))))
       exact .ret0 Tryz.results36 (.tmp rfl (.tmp rfl (.nil))) (i := 0) rfl (Fz.t l_20 (Fz.t l_24 (Fz.t l_28 (Fz.t l_32 (Fz.t l_143 (Fz.t l_259 (Fz.t l_299 (Fz.t l_339 (Fz.t l_344 l_347))))))))) ⟨none, 0, rfl, (RepSl.nil.mono (Fz.t l_20 (Fz.t l_24 (Fz.t l_28 (Fz.t l_32 (Fz.t l_143 (Fz.t l_259 (Fz.t l_299 (Fz.t l_339 (Fz.t l_344 l_347))))))))))⟩
      ·skip
       refine .skip (.code (.seq (.region (.move rfl rfl (.assign rfl rfl (.assign rfl rfl (.nil (.code ?_))))))))
       exact .ret0 Tryz.results36 (.tmp rfl (.tmp rfl (.nil))) (i := 0) rfl (Fz.t l_20 (Fz.t l_24 (Fz.t l_28 (Fz.t l_32 (Fz.t l_143 (Fz.t l_259 (Fz.t l_299 (Fz.t l_339 (Fz.t l_344 l_347))))))))) ⟨p340, k341, rfl, (h345.mono l_347)⟩
noncomputable def m_wormtublaw14_FileLists (l_1 : (List ApiBooked)) (m_5 : (List ApiMaltStep)) (s9 : (List ApiDrawn)) (c13 : (List ApiCaskEvent)) (d17 : (List ApiDutyEvent)) : Option Bool :=
 (m_wormtublaw14_great l_1).bind fun r_23 => if ((((r_23 || (decide ((m_5.length : Int) > 30))) || (decide ((s9.length : Int) > 30))) || (decide ((c13.length : Int) > 30))) || (decide ((d17.length : Int) > 30))) then ((m_wormtublaw14_alive).bind fun r_43 => some r_43) else ((m_file_Casks l_1).bind fun r_46 => (m_file_Duties l_1).bind fun r_52 => (m_file_Steps l_1).bind fun r_58 => (m_file_Draws l_1).bind fun r_64 => (m_wormtubref14_Casks l_1).bind fun r_70 => (m_wormtubref14_Duties l_1).bind fun r_76 => (m_wormtubref14_Steps l_1).bind fun r_82 => (m_wormtubref14_Draws l_1).bind fun r_88 => (m_file_Book m_5 s9 c13 d17).bind fun r_94 => (m_wormtubref14_Book m_5 s9 c13 d17).bind fun r_100 => (m_wormtublaw14_same_CaskEvent r_46.1 r_70.1).bind fun r_106 => (if r_106 then ((m_wormtublaw14_same_DutyEvent r_52.1 r_76.1).bind fun r_110 => some r_110) else some false).bind fun z114 => (if z114 then ((m_wormtublaw14_same_MaltStep r_58.1 r_82.1).bind fun r_119 => some r_119) else some false).bind fun z123 => (if z123 then ((m_wormtublaw14_same_Drawn r_64.1 r_88.1).bind fun r_128 => some r_128) else some false).bind fun z132 => (if ((((z132 && (r_46.2 == r_70.2)) && (r_52.2 == r_76.2)) && (r_58.2 == r_82.2)) && (r_64.2 == r_88.2)) then ((m_wormtubref14_Same r_94.1 r_100.1).bind fun r_153 => some r_153) else some false).bind fun z157 => (if (z157 && (r_94.2 == r_100.2)) then ((m_wormtublaw14_alive).bind fun r_166 => some r_166) else some false).bind fun z170 => some z170)
set_option maxRecDepth 100000 in
set_option maxHeartbeats 4000000 in
theorem c_wormtublaw14_FileLists (F0 : Fz) (hT : TabsP F0) (l_1 : (List ApiBooked)) (p2 : Option Addr) (k3 : Nat) (h4 : RepSl 2 rApiBooked F0 p2 k3 l_1) (m_5 : (List ApiMaltStep)) (p6 : Option Addr) (k7 : Nat) (h8 : RepSl 3 (Ex cApiMaltStep) F0 p6 k7 m_5) (s9 : (List ApiDrawn)) (p10 : Option Addr) (k11 : Nat) (h12 : RepSl 3 (Ex cApiDrawn) F0 p10 k11 s9) (c13 : (List ApiCaskEvent)) (p14 : Option Addr) (k15 : Nat) (h16 : RepSl 8 (Ex cApiCaskEvent) F0 p14 k15 c13) (d17 : (List ApiDutyEvent)) (p18 : Option Addr) (k19 : Nat) (h20 : RepSl 6 (Ex cApiDutyEvent) F0 p18 k19 d17) : CT0 Tryz.prog 13 [(.slice p2 l_1.length k3), (.slice p6 m_5.length k7), (.slice p10 s9.length k11), (.slice p14 c13.length k15), (.slice p18 d17.length k19)].toArray F0 (m_wormtublaw14_FileLists l_1 m_5 s9 c13 d17) (fun r _ v => v = (.bool r)) := by
 refine CT0.enter Tryz.func13 rfl Tryz.ntmps13 rfl fun r R => ?_
 unfold m_wormtublaw14_FileLists
 refine .seq (.region (.assign rfl rfl (.nil (.code (.seq (.seq (.region (.move rfl rfl (.call0 rfl Tryz.call15 rfl rfl rfl (c_wormtublaw14_great _ l_1 p2 k3 h4) ?_)))))))))
 rintro r_23 F_21 _ - l_22 rfl
 refine .move rfl rfl (.orP (b := r_23) (b' := (decide ((m_5.length : Int) > 30))) 4 38 (fun hb24 => ?_) (fun hb25 => ?_) (fun F_26 l_27 => ?_))
 ·skip
  refine .onH hb24 rfl rfl (.move rfl rfl (.onH hb24 rfl rfl (.lenS rfl rfl Tryz.underlying50 rfl (.onH hb24 rfl rfl (.gtr rfl rfl rfl (.pickFH hb24 rfl rfl rfl ?_))))))
  exact .fin 4 rfl rfl (by kernel_rfl) Fz.r
 ·skip
  refine .offH hb25 rfl rfl rfl (.offH hb25 rfl rfl rfl (.offH hb25 rfl rfl rfl (.pickTH hb25 rfl rfl rfl ?_)))
  exact .fin 4 rfl rfl (by kernel_rfl) Fz.r
 refine .move rfl rfl (.orP (b := (r_23 || (decide ((m_5.length : Int) > 30)))) (b' := (decide ((s9.length : Int) > 30))) 4 43 (fun hb28 => ?_) (fun hb29 => ?_) (fun F_30 l_31 => ?_))
 ·skip
  refine .onH hb28 rfl rfl (.move rfl rfl (.onH hb28 rfl rfl (.lenS rfl rfl Tryz.underlying55 rfl (.onH hb28 rfl rfl (.gtr rfl rfl rfl (.pickFH hb28 rfl rfl rfl ?_))))))
  exact .fin 4 rfl rfl (by kernel_rfl) Fz.r
 ·skip
  refine .offH hb29 rfl rfl rfl (.offH hb29 rfl rfl rfl (.offH hb29 rfl rfl rfl (.pickTH hb29 rfl rfl rfl ?_)))
  exact .fin 4 rfl rfl (by kernel_rfl) Fz.r
 refine .move rfl rfl (.orP (b := ((r_23 || (decide ((m_5.length : Int) > 30))) || (decide ((s9.length : Int) > 30)))) (b' := (decide ((c13.length : Int) > 30))) 4 48 (fun hb32 => ?_) (fun hb33 => ?_) (fun F_34 l_35 => ?_))
 ·skip
  refine .onH hb32 rfl rfl (.move rfl rfl (.onH hb32 rfl rfl (.lenS rfl rfl Tryz.underlying58 rfl (.onH hb32 rfl rfl (.gtr rfl rfl rfl (.pickFH hb32 rfl rfl rfl ?_))))))
  exact .fin 4 rfl rfl (by kernel_rfl) Fz.r
 ·skip
  refine .offH hb33 rfl rfl rfl (.offH hb33 rfl rfl rfl (.offH hb33 rfl rfl rfl (.pickTH hb33 rfl rfl rfl ?_)))
  exact .fin 4 rfl rfl (by kernel_rfl) Fz.r
 refine .move rfl rfl (.orP (b := (((r_23 || (decide ((m_5.length : Int) > 30))) || (decide ((s9.length : Int) > 30))) || (decide ((c13.length : Int) > 30)))) (b' := (decide ((d17.length : Int) > 30))) 4 53 (fun hb36 => ?_) (fun hb37 => ?_) (fun F_38 l_39 => ?_))
 ·skip
  refine .onH hb36 rfl rfl (.move rfl rfl (.onH hb36 rfl rfl (.lenS rfl rfl Tryz.underlying56 rfl (.onH hb36 rfl rfl (.gtr rfl rfl rfl (.pickFH hb36 rfl rfl rfl ?_))))))
  exact .fin 4 rfl rfl (by kernel_rfl) Fz.r
 ·skip
  refine .offH hb37 rfl rfl rfl (.offH hb37 rfl rfl rfl (.offH hb37 rfl rfl rfl (.pickTH hb37 rfl rfl rfl ?_)))
  exact .fin 4 rfl rfl (by kernel_rfl) Fz.r
 refine .nil (.code (.cond rfl (fun hb40 => ?_) (fun hb40 => ?_)))
 ·skip
  refine .seq (.region (.call0 rfl Tryz.call16 rfl rfl rfl (c_wormtublaw14_alive _ (hT.mono (Fz.t l_22 (Fz.t l_27 (Fz.t l_31 (Fz.t l_35 l_39)))))) ?_))
  rintro r_43 F_41 _ - l_42 rfl
  refine .assign rfl rfl (.nil (.code ?_))
  exact .ret0 Tryz.results13 (.tmp rfl (.nil)) (i := 0) rfl (Fz.t l_22 (Fz.t l_27 (Fz.t l_31 (Fz.t l_35 (Fz.t l_39 l_42))))) rfl
 ·skip
  refine .skip (.code (.seq (.region (.move rfl rfl (.call0 rfl Tryz.call28 rfl rfl rfl (c_file_Casks _ l_1 p2 k3 (h4.mono (Fz.t l_22 (Fz.t l_27 (Fz.t l_31 (Fz.t l_35 l_39)))))) ?_)))))
  rintro r_46 F_44 _ - l_45 ⟨p47, k48, rfl, h49⟩
  refine .move rfl rfl (.extract rfl rfl rfl (.extract rfl rfl rfl (.assign rfl rfl (.assign rfl rfl (.nil (.code (.seq (.region (.move rfl rfl (.call0 rfl Tryz.call29 rfl rfl rfl (c_file_Duties _ l_1 p2 k3 (h4.mono (Fz.t l_22 (Fz.t l_27 (Fz.t l_31 (Fz.t l_35 (Fz.t l_39 l_45))))))) ?_))))))))))
  rintro r_52 F_50 _ - l_51 ⟨p53, k54, rfl, h55⟩
  refine .move rfl rfl (.extract rfl rfl rfl (.extract rfl rfl rfl (.assign rfl rfl (.assign rfl rfl (.nil (.keep (.cons (k := 0) rfl (.cons (k := 1) rfl (.cons (k := 2) rfl (.cons (k := 3) rfl (.cons (k := 4) rfl (.cons (k := 11) rfl (.cons (k := 12) rfl (.cons (k := 13) rfl (.cons (k := 14) rfl (.nil _)))))))))) (.code (.seq (.region (.move rfl rfl ?_))))))))))
  refine .call0 rfl Tryz.call30 rfl rfl rfl (c_file_Steps _ l_1 p2 k3 (h4.mono (Fz.t l_22 (Fz.t l_27 (Fz.t l_31 (Fz.t l_35 (Fz.t l_39 (Fz.t l_45 l_51)))))))) ?_
  rintro r_58 F_56 _ - l_57 ⟨p59, k60, rfl, h61⟩
  refine .move rfl rfl (.extract rfl rfl rfl (.extract rfl rfl rfl (.assign rfl rfl (.assign rfl rfl (.nil (.code (.seq (.region (.move rfl rfl (.call0 rfl Tryz.call31 rfl rfl rfl (c_file_Draws _ l_1 p2 k3 (h4.mono (Fz.t l_22 (Fz.t l_27 (Fz.t l_31 (Fz.t l_35 (Fz.t l_39 (Fz.t l_45 (Fz.t l_51 l_57))))))))) ?_))))))))))
  rintro r_64 F_62 _ - l_63 ⟨p65, k66, rfl, h67⟩
  refine .move rfl rfl (.extract rfl rfl rfl (.extract rfl rfl rfl (.assign rfl rfl (.assign rfl rfl (.nil (.code (.seq (.region (.move rfl rfl (.call0 rfl Tryz.call32 rfl rfl rfl (c_wormtubref14_Casks _ l_1 p2 k3 (h4.mono (Fz.t l_22 (Fz.t l_27 (Fz.t l_31 (Fz.t l_35 (Fz.t l_39 (Fz.t l_45 (Fz.t l_51 (Fz.t l_57 l_63)))))))))) ?_))))))))))
  rintro r_70 F_68 _ - l_69 ⟨p71, k72, rfl, h73⟩
  refine .move rfl rfl (.extract rfl rfl rfl (.extract rfl rfl rfl (.assign rfl rfl (.assign rfl rfl (.nil ?_)))))
  refine .keep (.cons (k := 0) rfl (.cons (k := 1) rfl (.cons (k := 2) rfl (.cons (k := 3) rfl (.cons (k := 4) rfl (.cons (k := 11) rfl (.cons (k := 12) rfl (.cons (k := 13) rfl (.cons (k := 14) rfl (.cons (k := 15) rfl (.cons (k := 16) rfl (.cons (k := 17) rfl (.cons (k := 18) rfl (.cons (k := 19) rfl (.cons (k := 20) rfl (.nil _)))))))))))))))) (.code (.seq (.region (.move rfl rfl ?_))))
  refine .call0 rfl Tryz.call33 rfl rfl rfl (c_wormtubref14_Duties _ l_1 p2 k3 (h4.mono (Fz.t l_22 (Fz.t l_27 (Fz.t l_31 (Fz.t l_35 (Fz.t l_39 (Fz.t l_45 (Fz.t l_51 (Fz.t l_57 (Fz.t l_63 l_69))))))))))) ?_
  rintro r_76 F_74 _ - l_75 ⟨p77, k78, rfl, h79⟩
  refine .move rfl rfl (.extract rfl rfl rfl (.extract rfl rfl rfl (.assign rfl rfl (.assign rfl rfl (.nil (.code (.seq (.region (.move rfl rfl (.call0 rfl Tryz.call34 rfl rfl rfl (c_wormtubref14_Steps _ l_1 p2 k3 (h4.mono (Fz.t l_22 (Fz.t l_27 (Fz.t l_31 (Fz.t l_35 (Fz.t l_39 (Fz.t l_45 (Fz.t l_51 (Fz.t l_57 (Fz.t l_63 (Fz.t l_69 l_75)))))))))))) ?_))))))))))
  rintro r_82 F_80 _ - l_81 ⟨p83, k84, rfl, h85⟩
  refine .move rfl rfl (.extract rfl rfl rfl (.extract rfl rfl rfl (.assign rfl rfl (.assign rfl rfl (.nil ?_)))))
  refine .keep (.cons (k := 0) rfl (.cons (k := 1) rfl (.cons (k := 2) rfl (.cons (k := 3) rfl (.cons (k := 4) rfl (.cons (k := 11) rfl (.cons (k := 12) rfl (.cons (k := 13) rfl (.cons (k := 14) rfl (.cons (k := 15) rfl (.cons (k := 16) rfl (.cons (k := 17) rfl (.cons (k := 18) rfl (.cons (k := 19) rfl (.cons (k := 20) rfl (.cons (k := 21) rfl (.cons (k := 22) rfl (.cons (k := 23) rfl (.cons (k := 24) rfl (.nil _)))))))))))))))))))) ?_
  refine .code (.seq (.region (.move rfl rfl (.call0 rfl Tryz.call35 rfl rfl rfl (c_wormtubref14_Draws _ l_1 p2 k3 (h4.mono (Fz.t l_22 (Fz.t l_27 (Fz.t l_31 (Fz.t l_35 (Fz.t l_39 (Fz.t l_45 (Fz.t l_51 (Fz.t l_57 (Fz.t l_63 (Fz.t l_69 (Fz.t l_75 l_81))))))))))))) ?_))))
  rintro r_88 F_86 _ - l_87 ⟨p89, k90, rfl, h91⟩
  refine .move rfl rfl (.extract rfl rfl rfl (.extract rfl rfl rfl (.assign rfl rfl (.assign rfl rfl (.nil ?_)))))
  refine .keep (.cons (k := 1) rfl (.cons (k := 2) rfl (.cons (k := 3) rfl (.cons (k := 4) rfl (.cons (k := 11) rfl (.cons (k := 12) rfl (.cons (k := 13) rfl (.cons (k := 14) rfl (.cons (k := 15) rfl (.cons (k := 16) rfl (.cons (k := 17) rfl (.cons (k := 18) rfl (.cons (k := 19) rfl (.cons (k := 20) rfl (.cons (k := 21) rfl (.cons (k := 22) rfl (.cons (k := 23) rfl (.cons (k := 24) rfl (.cons (k := 25) rfl (.cons (k := 26) rfl (.nil _))))))))))))))))))))) ?_
  refine .code (.seq (.region (.move rfl rfl (.move rfl rfl (.move rfl rfl (.move rfl rfl ?_))))))
  refine .call0 rfl Tryz.call27 rfl rfl rfl (c_file_Book _ m_5 p6 k7 (h8.mono (Fz.t l_22 (Fz.t l_27 (Fz.t l_31 (Fz.t l_35 (Fz.t l_39 (Fz.t l_45 (Fz.t l_51 (Fz.t l_57 (Fz.t l_63 (Fz.t l_69 (Fz.t l_75 (Fz.t l_81 l_87))))))))))))) s9 p10 k11 (h12.mono (Fz.t l_22 (Fz.t l_27 (Fz.t l_31 (Fz.t l_35 (Fz.t l_39 (Fz.t l_45 (Fz.t l_51 (Fz.t l_57 (Fz.t l_63 (Fz.t l_69 (Fz.t l_75 (Fz.t l_81 l_87))))))))))))) c13 p14 k15 (h16.mono (Fz.t l_22 (Fz.t l_27 (Fz.t l_31 (Fz.t l_35 (Fz.t l_39 (Fz.t l_45 (Fz.t l_51 (Fz.t l_57 (Fz.t l_63 (Fz.t l_69 (Fz.t l_75 (Fz.t l_81 l_87))))))))))))) d17 p18 k19 (h20.mono (Fz.t l_22 (Fz.t l_27 (Fz.t l_31 (Fz.t l_35 (Fz.t l_39 (Fz.t l_45 (Fz.t l_51 (Fz.t l_57 (Fz.t l_63 (Fz.t l_69 (Fz.t l_75 (Fz.t l_81 l_87)))))))))))))) ?_
  rintro r_94 F_92 _ - l_93 ⟨p95, k96, rfl, h97⟩
  refine .move rfl rfl (.extract rfl rfl rfl (.extract rfl rfl rfl (.assign rfl rfl (.assign rfl rfl (.nil ?_)))))
  refine .keep (.cons (k := 1) rfl (.cons (k := 2) rfl (.cons (k := 3) rfl (.cons (k := 4) rfl (.cons (k := 11) rfl (.cons (k := 12) rfl (.cons (k := 13) rfl (.cons (k := 14) rfl (.cons (k := 15) rfl (.cons (k := 16) rfl (.cons (k := 17) rfl (.cons (k := 18) rfl (.cons (k := 19) rfl (.cons (k := 20) rfl (.cons (k := 21) rfl (.cons (k := 22) rfl (.cons (k := 23) rfl (.cons (k := 24) rfl (.cons (k := 25) rfl (.cons (k := 26) rfl (.cons (k := 27) rfl (.cons (k := 28) rfl (.nil _))))))))))))))))))))))) ?_
  refine .code (.seq (.region (.move rfl rfl (.move rfl rfl (.move rfl rfl (.move rfl rfl ?_))))))
  refine .call0 rfl Tryz.call36 rfl rfl rfl (c_wormtubref14_Book _ m_5 p6 k7 (h8.mono (Fz.t l_22 (Fz.t l_27 (Fz.t l_31 (Fz.t l_35 (Fz.t l_39 (Fz.t l_45 (Fz.t l_51 (Fz.t l_57 (Fz.t l_63 (Fz.t l_69 (Fz.t l_75 (Fz.t l_81 (Fz.t l_87 l_93)))))))))))))) s9 p10 k11 (h12.mono (Fz.t l_22 (Fz.t l_27 (Fz.t l_31 (Fz.t l_35 (Fz.t l_39 (Fz.t l_45 (Fz.t l_51 (Fz.t l_57 (Fz.t l_63 (Fz.t l_69 (Fz.t l_75 (Fz.t l_81 (Fz.t l_87 l_93)))))))))))))) c13 p14 k15 (h16.mono (Fz.t l_22 (Fz.t l_27 (Fz.t l_31 (Fz.t l_35 (Fz.t l_39 (Fz.t l_45 (Fz.t l_51 (Fz.t l_57 (Fz.t l_63 (Fz.t l_69 (Fz.t l_75 (Fz.t l_81 (Fz.t l_87 l_93)))))))))))))) d17 p18 k19 (h20.mono (Fz.t l_22 (Fz.t l_27 (Fz.t l_31 (Fz.t l_35 (Fz.t l_39 (Fz.t l_45 (Fz.t l_51 (Fz.t l_57 (Fz.t l_63 (Fz.t l_69 (Fz.t l_75 (Fz.t l_81 (Fz.t l_87 l_93))))))))))))))) ?_
  rintro r_100 F_98 _ - l_99 ⟨p101, k102, rfl, h103⟩
  refine .move rfl rfl (.extract rfl rfl rfl (.extract rfl rfl rfl (.assign rfl rfl (.assign rfl rfl (.nil ?_)))))
  refine .keep (.cons (k := 11) rfl (.cons (k := 12) rfl (.cons (k := 13) rfl (.cons (k := 14) rfl (.cons (k := 15) rfl (.cons (k := 16) rfl (.cons (k := 17) rfl (.cons (k := 18) rfl (.cons (k := 19) rfl (.cons (k := 20) rfl (.cons (k := 21) rfl (.cons (k := 22) rfl (.cons (k := 23) rfl (.cons (k := 24) rfl (.cons (k := 25) rfl (.cons (k := 26) rfl (.cons (k := 27) rfl (.cons (k := 28) rfl (.cons (k := 29) rfl (.cons (k := 30) rfl (.nil _))))))))))))))))))))) ?_
  refine .code (.seq (.region (.move rfl rfl (.move rfl rfl (.call0 rfl Tryz.call37 rfl rfl rfl (c_wormtublaw14_same_CaskEvent _ r_46.1 p47 k48 (h49.mono (Fz.t l_51 (Fz.t l_57 (Fz.t l_63 (Fz.t l_69 (Fz.t l_75 (Fz.t l_81 (Fz.t l_87 (Fz.t l_93 l_99))))))))) r_70.1 p71 k72 (h73.mono (Fz.t l_75 (Fz.t l_81 (Fz.t l_87 (Fz.t l_93 l_99)))))) ?_)))))
  rintro r_106 F_104 _ - l_105 rfl
  refine .move rfl rfl (.andM (b := r_106) 4 118 (fun hb107 z115 => ?_) (fun hb111 => ?_) (fun z114 F_112 l_113 => ?_))
  ·skip
   refine .onH hb107 rfl rfl (.move rfl rfl (.onH hb107 rfl rfl (.move rfl rfl (.onH hb107 rfl rfl (.call0 rfl Tryz.call38 rfl rfl rfl (c_wormtublaw14_same_DutyEvent _ r_52.1 p53 k54 (h55.mono (Fz.t l_57 (Fz.t l_63 (Fz.t l_69 (Fz.t l_75 (Fz.t l_81 (Fz.t l_87 (Fz.t l_93 (Fz.t l_99 l_105))))))))) r_76.1 p77 k78 (h79.mono (Fz.t l_81 (Fz.t l_87 (Fz.t l_93 (Fz.t l_99 l_105)))))) ?_)))))
   rintro r_110 F_108 _ - l_109 rfl
   refine .pickTH hb107 rfl rfl rfl ?_
   exact .finZ 4 rfl rfl (by kernel_rfl) l_109
  ·skip
   refine .offH hb111 rfl rfl rfl (.offH hb111 rfl rfl rfl (.offH hb111 rfl rfl rfl (.pickFH hb111 rfl rfl rfl ?_)))
   exact .fin 4 rfl rfl (by kernel_rfl) Fz.r
  refine .move rfl rfl (.andM (b := z114) 4 123 (fun hb116 z124 => ?_) (fun hb120 => ?_) (fun z123 F_121 l_122 => ?_))
  ·skip
   refine .onH hb116 rfl rfl (.move rfl rfl (.onH hb116 rfl rfl (.move rfl rfl (.onH hb116 rfl rfl (.call0 rfl Tryz.call39 rfl rfl rfl (c_wormtublaw14_same_MaltStep _ r_58.1 p59 k60 (h61.mono (Fz.t l_63 (Fz.t l_69 (Fz.t l_75 (Fz.t l_81 (Fz.t l_87 (Fz.t l_93 (Fz.t l_99 (Fz.t l_105 l_113))))))))) r_82.1 p83 k84 (h85.mono (Fz.t l_87 (Fz.t l_93 (Fz.t l_99 (Fz.t l_105 l_113)))))) ?_)))))
   rintro r_119 F_117 _ - l_118 rfl
   refine .pickTH hb116 rfl rfl rfl ?_
   exact .finZ 4 rfl rfl (by kernel_rfl) l_118
  ·skip
   refine .offH hb120 rfl rfl rfl (.offH hb120 rfl rfl rfl (.offH hb120 rfl rfl rfl (.pickFH hb120 rfl rfl rfl ?_)))
   exact .fin 4 rfl rfl (by kernel_rfl) Fz.r
  refine .move rfl rfl (.andM (b := z123) 4 128 (fun hb125 z133 => ?_) (fun hb129 => ?_) (fun z132 F_130 l_131 => ?_))
  ·skip
   refine .onH hb125 rfl rfl (.move rfl rfl (.onH hb125 rfl rfl (.move rfl rfl (.onH hb125 rfl rfl (.call0 rfl Tryz.call40 rfl rfl rfl (c_wormtublaw14_same_Drawn _ r_64.1 p65 k66 (h67.mono (Fz.t l_69 (Fz.t l_75 (Fz.t l_81 (Fz.t l_87 (Fz.t l_93 (Fz.t l_99 (Fz.t l_105 (Fz.t l_113 l_122))))))))) r_88.1 p89 k90 (h91.mono (Fz.t l_93 (Fz.t l_99 (Fz.t l_105 (Fz.t l_113 l_122)))))) ?_)))))
   rintro r_128 F_126 _ - l_127 rfl
   refine .pickTH hb125 rfl rfl rfl ?_
   exact .finZ 4 rfl rfl (by kernel_rfl) l_127
  ·skip
   refine .offH hb129 rfl rfl rfl (.offH hb129 rfl rfl rfl (.offH hb129 rfl rfl rfl (.pickFH hb129 rfl rfl rfl ?_)))
   exact .fin 4 rfl rfl (by kernel_rfl) Fz.r
  refine .assign rfl rfl (.nil (.keep (.cons (k := 12) rfl (.cons (k := 14) rfl (.cons (k := 16) rfl (.cons (k := 18) rfl (.cons (k := 20) rfl (.cons (k := 22) rfl (.cons (k := 24) rfl (.cons (k := 26) rfl (.cons (k := 27) rfl (.cons (k := 28) rfl (.cons (k := 29) rfl (.cons (k := 30) rfl (.cons (k := 31) rfl (.nil _)))))))))))))) (.code (.seq (.region (.move rfl rfl (.move rfl rfl ?_)))))))
  refine .andP (b := z132) (b' := (r_46.2 == r_70.2)) 4 134 (fun hb134 => ?_) (fun hb135 => ?_) (fun F_136 l_137 => ?_)
  ·skip
   refine .onH hb134 rfl rfl (.move rfl rfl (.onH hb134 rfl rfl (.move rfl rfl (.onH hb134 rfl rfl (.eql rfl rfl rfl (.pickTH hb134 rfl rfl rfl ?_))))))
   exact .fin 4 rfl rfl (by kernel_rfl) Fz.r
  ·skip
   refine .offH hb135 rfl rfl rfl (.offH hb135 rfl rfl rfl (.offH hb135 rfl rfl rfl (.pickFH hb135 rfl rfl rfl ?_)))
   exact .fin 4 rfl rfl (by kernel_rfl) Fz.r
  refine .move rfl rfl (.andP (b := (z132 && (r_46.2 == r_70.2))) (b' := (r_52.2 == r_76.2)) 4 139 (fun hb138 => ?_) (fun hb139 => ?_) (fun F_140 l_141 => ?_))
  ·skip
   refine .onH hb138 rfl rfl (.move rfl rfl (.onH hb138 rfl rfl (.move rfl rfl (.onH hb138 rfl rfl (.eql rfl rfl rfl (.pickTH hb138 rfl rfl rfl ?_))))))
   exact .fin 4 rfl rfl (by kernel_rfl) Fz.r
  ·skip
   refine .offH hb139 rfl rfl rfl (.offH hb139 rfl rfl rfl (.offH hb139 rfl rfl rfl (.pickFH hb139 rfl rfl rfl ?_)))
   exact .fin 4 rfl rfl (by kernel_rfl) Fz.r
  refine .move rfl rfl (.andP (b := ((z132 && (r_46.2 == r_70.2)) && (r_52.2 == r_76.2))) (b' := (r_58.2 == r_82.2)) 4 144 (fun hb142 => ?_) (fun hb143 => ?_) (fun F_144 l_145 => ?_))
  ·skip
   refine .onH hb142 rfl rfl (.move rfl rfl (.onH hb142 rfl rfl (.move rfl rfl (.onH hb142 rfl rfl (.eql rfl rfl rfl (.pickTH hb142 rfl rfl rfl ?_))))))
   exact .fin 4 rfl rfl (by kernel_rfl) Fz.r
  ·skip
   refine .offH hb143 rfl rfl rfl (.offH hb143 rfl rfl rfl (.offH hb143 rfl rfl rfl (.pickFH hb143 rfl rfl rfl ?_)))
   exact .fin 4 rfl rfl (by kernel_rfl) Fz.r
  refine .move rfl rfl (.andP (b := (((z132 && (r_46.2 == r_70.2)) && (r_52.2 == r_76.2)) && (r_58.2 == r_82.2))) (b' := (r_64.2 == r_88.2)) 4 149 (fun hb146 => ?_) (fun hb147 => ?_) (fun F_148 l_149 => ?_))
  ·skip
   refine .onH hb146 rfl rfl (.move rfl rfl (.onH hb146 rfl rfl (.move rfl rfl (.onH hb146 rfl rfl (.eql rfl rfl rfl (.pickTH hb146 rfl rfl rfl ?_))))))
   exact .fin 4 rfl rfl (by kernel_rfl) Fz.r
  ·skip
   refine .offH hb147 rfl rfl rfl (.offH hb147 rfl rfl rfl (.offH hb147 rfl rfl rfl (.pickFH hb147 rfl rfl rfl ?_)))
   exact .fin 4 rfl rfl (by kernel_rfl) Fz.r
  refine .move rfl rfl (.andM (b := ((((z132 && (r_46.2 == r_70.2)) && (r_52.2 == r_76.2)) && (r_58.2 == r_82.2)) && (r_64.2 == r_88.2))) 4 154 (fun hb150 z158 => ?_) (fun hb154 => ?_) (fun z157 F_155 l_156 => ?_))
  ·skip
   refine .onH hb150 rfl rfl (.move rfl rfl (.onH hb150 rfl rfl (.move rfl rfl (.onH hb150 rfl rfl ?_))))
   refine .call0 rfl Tryz.call23 rfl rfl rfl (c_wormtubref14_Same _ r_94.1 p95 k96 (h97.mono (Fz.t l_99 (Fz.t l_105 (Fz.t l_113 (Fz.t l_122 (Fz.t l_131 (Fz.t l_137 (Fz.t l_141 (Fz.t l_145 l_149))))))))) r_100.1 p101 k102 (h103.mono (Fz.t l_105 (Fz.t l_113 (Fz.t l_122 (Fz.t l_131 (Fz.t l_137 (Fz.t l_141 (Fz.t l_145 l_149))))))))) ?_
   rintro r_153 F_151 _ - l_152 rfl
   refine .pickTH hb150 rfl rfl rfl ?_
   exact .finZ 4 rfl rfl (by kernel_rfl) l_152
  ·skip
   refine .offH hb154 rfl rfl rfl (.offH hb154 rfl rfl rfl (.offH hb154 rfl rfl rfl (.pickFH hb154 rfl rfl rfl ?_)))
   exact .fin 4 rfl rfl (by kernel_rfl) Fz.r
  refine .move rfl rfl (.andP (b := z157) (b' := (r_94.2 == r_100.2)) 4 159 (fun hb159 => ?_) (fun hb160 => ?_) (fun F_161 l_162 => ?_))
  ·skip
   refine .onH hb159 rfl rfl (.move rfl rfl (.onH hb159 rfl rfl (.move rfl rfl (.onH hb159 rfl rfl (.eql rfl rfl rfl (.pickTH hb159 rfl rfl rfl ?_))))))
   exact .fin 4 rfl rfl (by kernel_rfl) Fz.r
  ·skip
   refine .offH hb160 rfl rfl rfl (.offH hb160 rfl rfl rfl (.offH hb160 rfl rfl rfl (.pickFH hb160 rfl rfl rfl ?_)))
   exact .fin 4 rfl rfl (by kernel_rfl) Fz.r
  refine .move rfl rfl (.andM (b := (z157 && (r_94.2 == r_100.2))) 2 162 (fun hb163 z171 => ?_) (fun hb167 => ?_) (fun z170 F_168 l_169 => ?_))
  ·skip
   refine .onH hb163 rfl rfl (.call0 rfl Tryz.call16 rfl rfl rfl (c_wormtublaw14_alive _ (hT.mono (Fz.t l_22 (Fz.t l_27 (Fz.t l_31 (Fz.t l_35 (Fz.t l_39 (Fz.t l_45 (Fz.t l_51 (Fz.t l_57 (Fz.t l_63 (Fz.t l_69 (Fz.t l_75 (Fz.t l_81 (Fz.t l_87 (Fz.t l_93 (Fz.t l_99 (Fz.t l_105 (Fz.t l_113 (Fz.t l_122 (Fz.t l_131 (Fz.t l_137 (Fz.t l_141 (Fz.t l_145 (Fz.t l_149 (Fz.t l_156 l_162)))))))))))))))))))))))))) ?_)
   rintro r_166 F_164 _ - l_165 rfl
   refine .pickTH hb163 rfl rfl rfl ?_
   exact .finZ 2 rfl rfl (by kernel_rfl) l_165
  ·skip
   refine .offH hb167 rfl rfl rfl (.pickFH hb167 rfl rfl rfl ?_)
   exact .fin 2 rfl rfl (by kernel_rfl) Fz.r
  refine .assign rfl rfl (.nil (.keep (.cons (k := 10) rfl (.nil _)) (.code ?_)))
  exact .ret0 Tryz.results13 (.tmp rfl (.nil)) (i := 0) rfl (Fz.t l_22 (Fz.t l_27 (Fz.t l_31 (Fz.t l_35 (Fz.t l_39 (Fz.t l_45 (Fz.t l_51 (Fz.t l_57 (Fz.t l_63 (Fz.t l_69 (Fz.t l_75 (Fz.t l_81 (Fz.t l_87 (Fz.t l_93 (Fz.t l_99 (Fz.t l_105 (Fz.t l_113 (Fz.t l_122 (Fz.t l_131 (Fz.t l_137 (Fz.t l_141 (Fz.t l_145 (Fz.t l_149 (Fz.t l_156 (Fz.t l_162 l_169))))))))))))))))))))))))) rfl
end Go.Proofs.YthnlglmjffdpfaaGreatDoor
end

section
namespace Go.Proofs.YthnlglmjffdpfaaGreatDoor
open Go.Dec Go.Shelf Go.RowKit Go.Maps Go.Sort
theorem arr_of_list {α : Type} {a : Array α} {l : List α} (h : a.toList = l) : a = l.toArray := by rw [← h]
theorem gErrS : Tryz.prog.globalNamed "strconv.ErrSyntax" = some 1 := by kernel_rfl
theorem gErrR : Tryz.prog.globalNamed "strconv.ErrRange" = some 2 := by kernel_rfl
theorem gPow : Tryz.prog.globalNamed "internal/strconv.uint64pow10" = some 3 := by kernel_rfl
theorem tErrS : (Tryz.prog.globals[1]?).map (·.type) = some 120 := by kernel_rfl
theorem tErrR : (Tryz.prog.globals[2]?).map (·.type) = some 120 := by kernel_rfl
theorem tPow : (Tryz.prog.globals[3]?).map (·.type) = some 196 := by kernel_rfl
theorem err_of {W : World} {ps : List MemPlace} {l : List (String × DataW Unit)} (hl : DataW.LaidVars Tryz.prog W l ps) (j g0 : Nat) {n : String} {nm : String} {d : DataW Unit} (hj : l[j]? = some (n, .iface nm d)) (hg0 : Tryz.prog.globalNamed n = some g0) (ht0 : (Tryz.prog.globals[g0]?).map (·.type) = some 120) :
    ∃ ev T fr, (FW W).mem g0 = some (.cells #[ev] T fr) ∧ (ev = .nilIface ∨ ∃ te pe, ev = .iface te pe) := by
  obtain ⟨g, t, cs, fuel, p, T, fr, hg, ht, hh, hd⟩ := laid_at j hj hl
  obtain rfl := Option.some.inj (hg0.symm.trans hg)
  obtain rfl := Option.some.inj (ht0.symm.trans ht)
  obtain ⟨u, v, hc⟩ := Go.Dec.iface_cells Tryz.underlying120 hd
  exact ⟨_, T, fr, by rw [show (FW W).mem g0 = W.heap[g0]? from rfl, hh, arr_of_list hc], .inr ⟨u, v, rfl⟩⟩
theorem cells143 : Tryz.prog.cellsOf 143 = 1 := by kernel_rfl
theorem cells196 : Tryz.prog.cellsOf 196 = 20 := by kernel_rfl
theorem pow_data : (Rows.laid_internal_strconv_uint64pow10 : DataW Unit) = Go.Lib.tabData .u64 Go.Lib.pow10Tab := by kernel_rfl
theorem maxLen0 : ((begin Tryz.prog (fun _ _ => 0) default).world.heap[0]?).bind Obj.row? = some (#[.int .i64 0], 3) := by kernel_rfl
theorem laid_plain {W : World} (h : laidMetH Tryz.prog Rows.fileWritesRow.laid W) : laidMet Tryz.prog Rows.fileWritesRow.laid W := by
  rwa [MakeChecks.laidMetH_plain _ _ _ (by kernel_rfl)] at h
set_option maxRecDepth 100000 in
theorem tabs_of {W : World} (h : laidMetH Tryz.prog Rows.fileWritesRow.laid W) (hsh : W.ShapedOpen Tryz.prog) : TabsP (FW W) := by
  obtain ⟨ps, hl, _, _⟩ := laid_plain h
  refine ⟨?_, ?_, ?_, ?_⟩
  · obtain ⟨g, t, cs, fuel, p, T, fr, hg, ht, hh, hd⟩ := laid_at 2 rfl hl
    obtain rfl := Option.some.inj (gPow.symm.trans hg)
    obtain rfl := Option.some.inj (tPow.symm.trans ht)
    have hc := Go.Lib.cells_of_tab Tryz.underlying196 Tryz.underlying143 cells143 cells196 (by rw [← pow_data]; exact hd)
    exact ⟨3, T, fr, gPow, by rw [show (FW W).mem 3 = W.heap[3]? from rfl, hh, arr_of_list hc]; rfl⟩
  · obtain ⟨m, hm⟩ := Go.Proofs.cell_of_shapedOpen_int (P := Tryz.prog) (g := 0) (t := 3) (zero := #[.int .i64 0]) hsh (of_decide_eq_true (by kernel_rfl)) maxLen0 rfl (by kernel_rfl) (by kernel_rfl) Tryz.underlying3
    obtain ⟨T, fr, hb⟩ := int_cell_block hsh (of_decide_eq_true (by kernel_rfl)) maxLen0 rfl hm
    exact ⟨m, T, fr, hb⟩
  · exact err_of hl 5 1 rfl gErrS tErrS
  · exact err_of hl 4 2 rfl gErrR tErrR
end Go.Proofs.YthnlglmjffdpfaaGreatDoor
end

section
namespace Go.Proofs.YthnlglmjffdpfaaGreatDoor
open Go.Dec
open Go.ChangeShapes Go.WideShapes Go.ChangeAt Go.RowKit
def LawFileLists : Prop := ∀ (a0 : (List ApiBooked)) (a1 : (List ApiMaltStep)) (a2 : (List ApiDrawn)) (a3 : (List ApiCaskEvent)) (a4 : (List ApiDutyEvent)), (∀ y ∈ a0, okApiBooked y) → (∀ y ∈ a1, okApiMaltStep y) → (∀ y ∈ a2, okApiDrawn y) → (∀ y ∈ a3, okApiCaskEvent y) → (∀ y ∈ a4, okApiDutyEvent y) → m_wormtublaw14_FileLists a0 a1 a2 a3 a4 = some true
set_option maxRecDepth 100000 in
theorem lifted_FileLists (law : LawFileLists) (os : Os) (started : os.Started) (H : Type) (enc : TypeId × Value → H) :
  ReturnsInHanded {} Tryz.checked os 13 .any (fun w args => (Rows.fileListsSpec.pre enc Tryz.prog Tryz.f13 Rows.fileListsRow.domain false w args ∧ laidMetH Tryz.prog Rows.fileListsRow.laid w) ∧ sizedMet enc Tryz.prog Tryz.f13 (OpenSpec.ofChange Rows.fileListsSpec) false w args) (Rows.fileListsSpec.post enc Tryz.prog Tryz.f13 false true false false) := by
 refine lift_tied (C := Tryz.checked) (X := fun w => laidMetH Tryz.prog Rows.fileListsRow.laid w) (fun _ _ hh h => h.of_heap hh) Tryz.own started (by kernel_rfl) Tryz.func13
  (ChangeSpec.witness_shaped (enc := enc) (C := Tryz.checked) (os := os) (X := fun w _ => laidMetH Tryz.prog Rows.fileListsRow.laid w) false (World.laidAll Tryz.prog os Rows.fileListsRow.laid) #[.slice none 0 0, .slice none 0 0, .slice none 0 0, .slice none 0 0, .slice none 0 0] 12 (World.laidAll_os _ _ _) (World.shaped_of_ZipB (by kernel_rfl) (by kernel_rfl)) (by kernel_rfl) (by kernel_rfl) (by kernel_rfl)
   (by rw [MakeChecks.laidMetH_plain _ _ _ (by kernel_rfl)]; exact laidMet_laidAll _ (by kernel_rfl) (by kernel_rfl))) ?_
 intro W base args ds gs before hval hW hsh hL
 have hT : TabsP (FW W) := tabs_of hL hsh
 refine law_contractW (P := Tryz.prog) Tryz.laidOut (by kernel_rfl) rfl (by kernel_rfl : Tryz.f13.resultTypes = #[4]) Tryz.underlying4 (fun ds h => ?_) (fun base args ds ps hval hA => ?_) base args ds gs before hval hW
 ·match ds, h with
  | [d0, d1, d2, d3, d4], _ => rfl
 ·rw [Tryz.params13] at hA hval
  obtain ⟨v0, l0, _, _, _, _, e0, _, _, t0, hA⟩ := trodAll_cons hA
  obtain ⟨v1, l1, _, _, _, _, e1, _, _, t1, hA⟩ := trodAll_cons hA
  obtain ⟨v2, l2, _, _, _, _, e2, _, _, t2, hA⟩ := trodAll_cons hA
  obtain ⟨v3, l3, _, _, _, _, e3, _, _, t3, hA⟩ := trodAll_cons hA
  obtain ⟨v4, l4, _, _, _, _, e4, _, _, t4, hA⟩ := trodAll_cons hA
  obtain ⟨e5, _, _⟩ := trodAll_nil hA
  subst e5 e4 e3 e2 e1
  obtain rfl : args = [v0, v1, v2, v3, v4].toArray := by rw [← e0]
  obtain ⟨m0, p0, k0, o0, rfl, h0⟩ := argSlice Tryz.underlying22 vt22 (hval 0 _ _ rfl rfl) t0
  obtain ⟨m1, p1, k1, o1, rfl, h1⟩ := argSlice Tryz.underlying50 vt50 (hval 1 _ _ rfl rfl) t1
  obtain ⟨m2, p2, k2, o2, rfl, h2⟩ := argSlice Tryz.underlying55 vt55 (hval 2 _ _ rfl rfl) t2
  obtain ⟨m3, p3, k3, o3, rfl, h3⟩ := argSlice Tryz.underlying58 vt58 (hval 3 _ _ rfl rfl) t3
  obtain ⟨m4, p4, k4, o4, rfl, h4⟩ := argSlice Tryz.underlying56 vt56 (hval 4 _ _ rfl rfl) t4
  have hl := law m0 m1 m2 m3 m4 o0 o1 o2 o3 o4
  have hc := c_wormtublaw14_FileLists (FW W) hT m0 p0 k0 h0 m1 p1 k1 h1 m2 p2 k2 h2 m3 p3 k3 h3 m4 p4 k4 h4
  rw [hl] at hc
  exact hc
theorem said_FileLists (law : LawFileLists) : Rows.FileListsSaid :=
 OpenClaim.holds_of_wide 13 Tryz.f13 rfl rfl rfl rfl rfl rfl rfl ⟨rfl, rfl, rfl, rfl, rfl⟩ rfl rfl rfl rfl rfl (by kernel_rfl) Tryz.func13 (by kernel_rfl)
  (of_decide_eq_true (by kernel_rfl)) (by unfold Func.isWrapper; first | (rw [if_pos (by decide +kernel)]; kernel_rfl) | (rw [if_neg (by decide +kernel)]; exact ⟨rfl, rfl⟩))
  (fun os started H enc _ => lifted_FileLists law os started H enc)
theorem card_FileLists (law : LawFileLists) : Rows.FileListsCardSaid :=
 Claim7.holds_tied_plain_at .later [] [.data, .data, .data, .data, .sentinel, .sentinel, .pinned] true (true, "3bd84bf44a97e49b979e061ef005845ecf1aa6bc424530e46bde597d8668a3f8") true (said_FileLists law) (fun _ h => by cases h) (by kernel_rfl) (fun _ h => by cases h) fileLists_row_tie rfl ⟨rfl, rfl⟩ (by kernel_rfl) rfl
  (fun f fn hf hfn => by
   obtain rfl : f = 13 := Option.some.inj ((show Tryz.prog.funcNamed "wormtub/wormtublaw14.FileLists" = some 13 by kernel_rfl).symm.trans hf) |>.symm
   obtain rfl : fn = Tryz.f13 := (Option.some.inj (Tryz.func13.symm.trans hfn)).symm
   exact ⟨by kernel_rfl, fun j t ht => by
    have hall : (Tryz.f13.params.toList.all fun u => !Tryz.prog.wantsStandIn u) = true := by kernel_rfl
    have hm := Array.mem_of_getElem? ht
    exact (show Tryz.prog.wantsStandIn t = false by first | (simp at hm; done) | simpa using List.all_eq_true.1 hall t (by simpa using hm))⟩)
  (by kernel_rfl)
end Go.Proofs.YthnlglmjffdpfaaGreatDoor
end

section
namespace Go.Proofs.YthnlglmjffdpfaaGreatDoor
open Go.Dec
theorem add_loop2 {α : Type} {body : List ApiBooked × Int → Option (Ctl (List ApiBooked × Int) (List ApiBooked))} (l : List α) (f : α → ApiBooked)
    (hs : ∀ (i : Nat) (x : α) (t : List ApiBooked), i ≤ 1000000 → l[i]? = some x → t.length ≤ 10000000 → body (t, (i : Int)) = some (.next (t ++ [f x], ((i + 1 : Nat) : Int))))
    (he : ∀ t, body (t, (l.length : Int)) = some (.done t)) (acc : List ApiBooked) (ha : acc.length ≤ 1000000) (hl : l.length ≤ 1000000) : loopM body (acc, 0) = some (acc ++ l.map f) := by
  obtain ⟨t, rfl, hq⟩ := loopM_upto (body := body) (fun i (t : List ApiBooked) => (t, (i : Int))) (fun t => t) (fun i t => t = acc ++ (l.take i).map f) l.length
    (fun i t hi ht => by
      subst ht
      refine ⟨_, hs i l[i] _ (by omega) (List.getElem?_eq_getElem hi) (by rw [List.length_append, List.length_map, List.length_take]; omega), ?_⟩
      rw [List.take_add_one, List.getElem?_eq_getElem hi, List.map_append, List.append_assoc]; rfl)
    (fun t _ => he t) l.length 0 acc (by omega) (by simp)
  rw [List.take_of_length_le (Nat.le_refl _)] at hq
  exact hq
theorem Steps_doc (l : List ApiBooked) : m_wormtubref14_Steps l = some (pickS l 0 fM) := by
  unfold m_wormtubref14_Steps pickS
  rw [Valid_doc]
  simp only [Option.bind_some]
  by_cases hb : okBook l = true
  · obtain ⟨h1, hok⟩ := okBook_iff.1 hb
    rw [hb]
    simp only [Bool.not_true, Bool.false_eq_true, if_false, if_true]
    refine bind_of (pick_loop l 0 fM (fun i x t hi hx ht => ?_) (fun t => ?_) (by omega)) rfl
    · have hlt := lt_get hx
      have hxo := hok x (List.mem_of_getElem? hx)
      unfold b_wormtubref14_Steps_1
      rw [if_pos (by rw [decide_eq_true_eq]; omega)]
      simp only [idxL_nat, hx, Option.bind_some, bindv, nx (show i ≤ 1000000000 by omega)]
      by_cases e : x.Kind = 0
      · have hn := okS_most hxo
        rw [e] at hn
        have hn' : x.N.length = 3 := hn
        rw [if_pos (by simp [e]), if_pos e]
        have i0 : idxL x.N 0 = some (x.N.getD 0 0) := idx_at (i := 0) (by omega)
        have i1 : idxL x.N 1 = some (x.N.getD 1 0) := idx_at (i := 1) (by omega)
        have i2 : idxL x.N 2 = some (x.N.getD 2 0) := idx_at (i := 2) (by omega)
        simp only [i0, i1, i2, Option.bind_some]
        rw [appO_some' (by rw [List.length_singleton]; show t.length + 1 ≤ _; omega)]; rfl
      · rw [if_neg (by simp [e]), if_neg e]; rfl
    · unfold b_wormtubref14_Steps_1
      rw [if_neg (by simp)]
  · simp only [Bool.not_eq_true] at hb
    rw [hb]; rfl
theorem Draws_doc (l : List ApiBooked) : m_wormtubref14_Draws l = some (pickS l 1 fS) := by
  unfold m_wormtubref14_Draws pickS
  rw [Valid_doc]
  simp only [Option.bind_some]
  by_cases hb : okBook l = true
  · obtain ⟨h1, hok⟩ := okBook_iff.1 hb
    rw [hb]
    simp only [Bool.not_true, Bool.false_eq_true, if_false, if_true]
    refine bind_of (pick_loop l 1 fS (fun i x t hi hx ht => ?_) (fun t => ?_) (by omega)) rfl
    · have hlt := lt_get hx
      have hxo := hok x (List.mem_of_getElem? hx)
      unfold b_wormtubref14_Draws_1
      rw [if_pos (by rw [decide_eq_true_eq]; omega)]
      simp only [idxL_nat, hx, Option.bind_some, bindv, nx (show i ≤ 1000000000 by omega)]
      by_cases e : x.Kind = 1
      · have hn := okS_most hxo
        rw [e] at hn
        have hn' : x.N.length = 3 := hn
        rw [if_pos (by simp [e]), if_pos e]
        have i0 : idxL x.N 0 = some (x.N.getD 0 0) := idx_at (i := 0) (by omega)
        have i1 : idxL x.N 1 = some (x.N.getD 1 0) := idx_at (i := 1) (by omega)
        have i2 : idxL x.N 2 = some (x.N.getD 2 0) := idx_at (i := 2) (by omega)
        simp only [i0, i1, i2, Option.bind_some]
        rw [appO_some' (by rw [List.length_singleton]; show t.length + 1 ≤ _; omega)]; rfl
      · rw [if_neg (by simp [e]), if_neg e]; rfl
    · unfold b_wormtubref14_Draws_1
      rw [if_neg (by simp)]
  · simp only [Bool.not_eq_true] at hb
    rw [hb]; rfl
theorem Casks_doc (l : List ApiBooked) : m_wormtubref14_Casks l = some (pickS l 2 fC) := by
  unfold m_wormtubref14_Casks pickS
  rw [Valid_doc]
  simp only [Option.bind_some]
  by_cases hb : okBook l = true
  · obtain ⟨h1, hok⟩ := okBook_iff.1 hb
    rw [hb]
    simp only [Bool.not_true, Bool.false_eq_true, if_false, if_true]
    refine bind_of (pick_loop l 2 fC (fun i x t hi hx ht => ?_) (fun t => ?_) (by omega)) rfl
    · have hlt := lt_get hx
      have hxo := hok x (List.mem_of_getElem? hx)
      unfold b_wormtubref14_Casks_1
      rw [if_pos (by rw [decide_eq_true_eq]; omega)]
      simp only [idxL_nat, hx, Option.bind_some, bindv, nx (show i ≤ 1000000000 by omega)]
      by_cases e : x.Kind = 2
      · have hn := okS_most hxo
        rw [e] at hn
        have hn' : x.N.length = 8 := hn
        rw [if_pos (by simp [e]), if_pos e]
        have i0 : idxL x.N 0 = some (x.N.getD 0 0) := idx_at (i := 0) (by omega)
        have i1 : idxL x.N 1 = some (x.N.getD 1 0) := idx_at (i := 1) (by omega)
        have i2 : idxL x.N 2 = some (x.N.getD 2 0) := idx_at (i := 2) (by omega)
        have i3 : idxL x.N 3 = some (x.N.getD 3 0) := idx_at (i := 3) (by omega)
        have i4 : idxL x.N 4 = some (x.N.getD 4 0) := idx_at (i := 4) (by omega)
        have i5 : idxL x.N 5 = some (x.N.getD 5 0) := idx_at (i := 5) (by omega)
        have i6 : idxL x.N 6 = some (x.N.getD 6 0) := idx_at (i := 6) (by omega)
        have i7 : idxL x.N 7 = some (x.N.getD 7 0) := idx_at (i := 7) (by omega)
        simp only [i0, i1, i2, i3, i4, i5, i6, i7, Option.bind_some]
        rw [appO_some' (by rw [List.length_singleton]; show t.length + 1 ≤ _; omega)]; rfl
      · rw [if_neg (by simp [e]), if_neg e]; rfl
    · unfold b_wormtubref14_Casks_1
      rw [if_neg (by simp)]
  · simp only [Bool.not_eq_true] at hb
    rw [hb]; rfl
theorem Duties_doc (l : List ApiBooked) : m_wormtubref14_Duties l = some (pickS l 3 fD) := by
  unfold m_wormtubref14_Duties pickS
  rw [Valid_doc]
  simp only [Option.bind_some]
  by_cases hb : okBook l = true
  · obtain ⟨h1, hok⟩ := okBook_iff.1 hb
    rw [hb]
    simp only [Bool.not_true, Bool.false_eq_true, if_false, if_true]
    refine bind_of (pick_loop l 3 fD (fun i x t hi hx ht => ?_) (fun t => ?_) (by omega)) rfl
    · have hlt := lt_get hx
      have hxo := hok x (List.mem_of_getElem? hx)
      unfold b_wormtubref14_Duties_1
      rw [if_pos (by rw [decide_eq_true_eq]; omega)]
      simp only [idxL_nat, hx, Option.bind_some, bindv, nx (show i ≤ 1000000000 by omega)]
      by_cases e : x.Kind = 3
      · have hn := okS_most hxo
        rw [e] at hn
        have hn' : x.N.length = 6 := hn
        rw [if_pos (by simp [e]), if_pos e]
        have i0 : idxL x.N 0 = some (x.N.getD 0 0) := idx_at (i := 0) (by omega)
        have i1 : idxL x.N 1 = some (x.N.getD 1 0) := idx_at (i := 1) (by omega)
        have i2 : idxL x.N 2 = some (x.N.getD 2 0) := idx_at (i := 2) (by omega)
        have i3 : idxL x.N 3 = some (x.N.getD 3 0) := idx_at (i := 3) (by omega)
        have i4 : idxL x.N 4 = some (x.N.getD 4 0) := idx_at (i := 4) (by omega)
        have i5 : idxL x.N 5 = some (x.N.getD 5 0) := idx_at (i := 5) (by omega)
        simp only [i0, i1, i2, i3, i4, i5, Option.bind_some]
        rw [appO_some' (by rw [List.length_singleton]; show t.length + 1 ≤ _; omega)]; rfl
      · rw [if_neg (by simp [e]), if_neg e]; rfl
    · unfold b_wormtubref14_Duties_1
      rw [if_neg (by simp)]
  · simp only [Bool.not_eq_true] at hb
    rw [hb]; rfl
theorem Book_doc (m : List ApiMaltStep) (s : List ApiDrawn) (c : List ApiCaskEvent) (d : List ApiDutyEvent) (h1 : m.length ≤ 100000) (h2 : s.length ≤ 100000) (h3 : c.length ≤ 100000) (h4 : d.length ≤ 100000) :
    m_wormtubref14_Book m s c d = some (bookP m s c d) := by
  unfold m_wormtubref14_Book bookP
  have hsum : w64 ((w64 ((w64 ((m.length : Int) + (s.length : Int))) + (c.length : Int))) + (d.length : Int)) = ((m.length + s.length + c.length + d.length : Nat) : Int) := by
    rw [w64_id (n := (m.length : Int) + (s.length : Int)) (by omega) (by omega), w64_id (n := (m.length : Int) + (s.length : Int) + (c.length : Int)) (by omega) (by omega), w64_id (by omega) (by omega)]
    omega
  rw [hsum]
  by_cases h : m.length + s.length + c.length + d.length > 1024
  · rw [if_pos h, if_pos (by simp only [Bool.or_eq_true, decide_eq_true_eq]; omega)]
  · rw [if_neg h, if_neg (by simp only [Bool.or_eq_true, decide_eq_true_eq]; omega)]
    refine bind_of (add_loop2 m bM (fun i x t hi hx ht => by
      have := lt_get hx
      unfold b_wormtubref14_Book_1
      rw [if_pos (by rw [decide_eq_true_eq]; omega)]
      simp only [idxL_nat, hx, Option.bind_some]
      rw [appO_some' (by rw [List.length_singleton]; show t.length + 1 ≤ _; omega)]
      simp only [Option.bind_some, bindv, nx (show i ≤ 1000000000 by omega)]; rfl) (fun t => by unfold b_wormtubref14_Book_1; rw [if_neg (by simp)]) [] (by simp) (by omega)) ?_
    refine bind_of (add_loop2 s bS (fun i x t hi hx ht => by
      have := lt_get hx
      unfold b_wormtubref14_Book_2
      rw [if_pos (by rw [decide_eq_true_eq]; omega)]
      simp only [idxL_nat, hx, Option.bind_some]
      rw [appO_some' (by rw [List.length_singleton]; show t.length + 1 ≤ _; omega)]
      simp only [Option.bind_some, bindv, nx (show i ≤ 1000000000 by omega)]; rfl) (fun t => by unfold b_wormtubref14_Book_2; rw [if_neg (by simp)]) _ (by simp only [List.length_append, List.length_map, List.length_nil]; omega) (by omega)) ?_
    refine bind_of (add_loop2 c bC (fun i x t hi hx ht => by
      have := lt_get hx
      unfold b_wormtubref14_Book_3
      rw [if_pos (by rw [decide_eq_true_eq]; omega)]
      simp only [idxL_nat, hx, Option.bind_some]
      rw [appO_some' (by rw [List.length_singleton]; show t.length + 1 ≤ _; omega)]
      simp only [Option.bind_some, bindv, nx (show i ≤ 1000000000 by omega)]; rfl) (fun t => by unfold b_wormtubref14_Book_3; rw [if_neg (by simp)]) _ (by simp only [List.length_append, List.length_map, List.length_nil]; omega) (by omega)) ?_
    refine bind_of (add_loop2 d bD (fun i x t hi hx ht => by
      have := lt_get hx
      unfold b_wormtubref14_Book_4
      rw [if_pos (by rw [decide_eq_true_eq]; omega)]
      simp only [idxL_nat, hx, Option.bind_some]
      rw [appO_some' (by rw [List.length_singleton]; show t.length + 1 ≤ _; omega)]
      simp only [Option.bind_some, bindv, nx (show i ≤ 1000000000 by omega)]; rfl) (fun t => by unfold b_wormtubref14_Book_4; rw [if_neg (by simp)]) _ (by simp only [List.length_append, List.length_map, List.length_nil]; omega) (by omega)) ?_
    refine bind_of (Valid_doc _) ?_
    rw [List.nil_append]
    show (if (!okBook (bookL m s c d)) then some ([], 1) else some (bookL m s c d, 0)) = _
    cases okBook (bookL m s c d) <;> rfl
theorem law_FileLists : LawFileLists := by
  intro l m s c d _ _ _ _ _
  unfold m_wormtublaw14_FileLists
  have stop : ∀ b : Bool, b = true → (if b then ((m_wormtublaw14_alive).bind fun r_43 => some r_43) else some true) = some true := by
    intro b hb
    rw [hb, if_pos rfl, alive_true]; rfl
  rcases great_cases l with hg | ⟨hg, h30, h20⟩
  · refine bind_of hg ?_
    refine (if_pos (by simp)).trans ?_
    rw [alive_true]; rfl
  · refine bind_of hg ?_
    by_cases h : m.length ≤ 30 ∧ s.length ≤ 30 ∧ c.length ≤ 30 ∧ d.length ≤ 30
    · obtain ⟨g1, g2, g3, g4⟩ := h
      refine (if_neg (by simp only [Bool.false_or, Bool.or_eq_true, decide_eq_true_eq]; omega)).trans ?_
      refine bind_of (Casks_prog l) (bind_of (Duties_prog l) (bind_of (Steps_prog l) (bind_of (Draws_prog l) (bind_of (Casks_doc l) (bind_of (Duties_doc l) (bind_of (Steps_doc l) (bind_of (Draws_doc l) ?_)))))))
      refine bind_of (Book_prog m s c d (by omega) (by omega) (by omega) (by omega)) (bind_of (Book_doc m s c d (by omega) (by omega) (by omega) (by omega)) ?_)
      have hp : ∀ {α : Type} (k : Int) (f : List Int → α), (pickS l k f).1.length ≤ 1000000 := by
        intro α k f
        unfold pickS
        split
        · rw [List.length_map]
          have := List.length_filter_le (fun x : ApiBooked => decide (x.Kind = k)) l
          omega
        · exact Nat.zero_le _
      have hbk : okBook (bookP m s c d).1 = true := by
        unfold bookP
        split
        · rfl
        · split
          · assumption
          · rfl
      refine bind_of (sameC _ (hp 2 fC)) ?_
      refine bind_of (show _ = some true from ?_) (bind_of (show _ = some true from ?_) (bind_of (show _ = some true from ?_) ?_))
      · rw [if_pos rfl]; exact bind_of (sameD _ (hp 3 fD)) rfl
      · rw [if_pos rfl]; exact bind_of (sameM _ (hp 0 fM)) rfl
      · rw [if_pos rfl]; exact bind_of (sameS _ (hp 1 fS)) rfl
      · refine bind_of (show _ = some true from ?_) ?_
        · rw [if_pos (by simp)]; exact bind_of (Same_ok hbk) rfl
        · simp only [beq_self_eq_true, Bool.and_self, if_true, alive_true, Option.bind_some]
    · refine (if_pos (by simp only [Bool.false_or, Bool.or_eq_true, decide_eq_true_eq]; omega)).trans ?_
      rw [alive_true]; rfl
theorem fileLists_holds : Rows.FileListsCardSaid := card_FileLists law_FileLists
end Go.Proofs.YthnlglmjffdpfaaGreatDoor
end
