/- Own texts and texts printed by a program of mine, for topVatted_holds; only what it reaches. -/
import Derived.Test.YtkffpbnbjnadnaaPa4
import Derived.Test.YtkffpbnbjnadnaaRows
section
namespace Go.Proofs.Ytkffpbnbjnadnaa
open Go.Dec Go.Shelf Go.RowKit Go.Maps Go.Sort
theorem c_cask_book_ordered (F0 : Fz) (p0 : Option Addr) : CT0 Try.prog 29 [(.pointer p0)].toArray F0 (some ()) (fun (_ : Unit) F v => ∃ b0, v = .func (.func 53) #[] #[.pointer (some ⟨b0, 0, none⟩)] ∧ F.mem b0 = some (.cells [(.pointer p0)].toArray 82)) := by
 refine CT0.enter Try.func29 rfl Try.ntmps29 rfl fun r R => ?_
 refine .seq ?_
 refine .region ?_
 refine .boxF (cs := [(.pointer p0)]) rfl rfl rfl (fun b1 F_2 l_3 hb4 => ?_)
 refine .assign rfl rfl ?_
 refine .nil ?_
 refine .code ?_
 refine .seq ?_
 refine .region ?_
 refine .makeFunc rfl rfl ?_
 refine .assign rfl rfl ?_
 refine .nil ?_
 refine .code ?_
 exact .ret0 Try.results29 (.tmp rfl (.nil)) (i := 0) rfl l_3 ⟨_, rfl, hb4⟩
noncomputable def b_cask_Play_1  (x31 : (Option Nat)) (s29 : (List ApiCask) × (List CaskCask)) : Option ((List ApiCask) × (List CaskCask)) :=
 (m_cask_cask_shown s29.2 x31).bind fun r_42 => (appO s29.1 ([r_42])).bind fun l_68 => some (l_68, s29.2)
noncomputable def m_cask_Play (l_1 : (List ApiCaskEvent)) (day5 : Int) : Option ((List ApiCask) × Int × Int) :=
 (m_cask_play l_1 day5).bind fun r_8 => if (r_8.2.2.1 != 0) then (some ([], r_8.2.1, r_8.2.2.1)) else ((some ()).bind fun _r_21 => (L_cask_book_ordered_1 r_8.2.2.2.2.1 r_8.2.2.2.2.2.2 r_8.1).bind fun l_26 => (forL b_cask_Play_1 l_26 ([], r_8.2.2.2.1)).bind fun s73 => some (s73.1, r_8.2.1, 0))
theorem c_cask_Play (F0 : Fz) (l_1 : (List ApiCaskEvent)) (p2 : Option Addr) (k3 : Nat) (h4 : RepSl 8 (Ex cApiCaskEvent) F0 p2 k3 l_1) (day5 : Int) : CT0 Try.prog 13 [(.slice p2 l_1.length k3), (.int .i64 day5)].toArray F0 (m_cask_Play l_1 day5) (fun r F v => ∃ (p0 : Option Addr) (k0 : Nat), v = .tuple #[(.slice p0 r.1.length k0), (.int .i64 r.2.1), (.int .i64 r.2.2)] ∧ RepSl 24 (Ex cApiCask) F p0 k0 r.1) := by
 refine CT0.enterM Try.func13 rfl Try.ntmps13 rfl fun r R => ?_
 unfold m_cask_Play
 refine .seq ?_
 refine .region ?_
 refine .alloc (cs := [(.slice none 0 0)]) rfl Try.zeroValue58 rfl (fun b6 => ?_)
 refine .ownNil 24 (Ex cApiCask) 38 ?_
 refine .assign rfl rfl ?_
 refine .assign rfl rfl ?_
 refine .nil ?_
 refine .code ?_
 refine .seq ?_
 refine .region ?_
 refine .move rfl rfl ?_
 refine .move rfl rfl ?_
 refine .callO rfl Try.call28 rfl rfl rfl (c_cask_play _ l_1 p2 k3 h4 day5) ?_
 rintro r_8 _12 F_9 _ e11 l_10 ⟨p13, k14, rfl, h15⟩
 refine .norm (Sub.refl _) (rfl : _ = [arena _12.g119 (C119 _12) F_9 r_8.2.2.2.1, arena _12.g92 (C92 _12) F_9 r_8.2.2.2.2.1, arena _12.g117 (C117 _12) F_9 r_8.2.2.2.2.2.1, arena _12.g90 (C90 _12) F_9 r_8.2.2.2.2.2.2, ownSl 24 (Ex cApiCask) F0 38 none 0 ([]), pt b6 (.cells [(.slice none 0 0)].toArray 58), R]) ?_
 refine .move rfl rfl ?_
 refine .extract rfl rfl rfl ?_
 refine .extract rfl rfl rfl ?_
 refine .extract rfl rfl rfl ?_
 refine .assign rfl rfl ?_
 refine .assign rfl rfl ?_
 refine .assign rfl rfl ?_
 refine .nil ?_
 refine .code ?_
 refine .seq ?_
 refine .seq ?_
 refine .region ?_
 refine .move rfl rfl ?_
 refine .neq rfl rfl rfl ?_
 refine .nil ?_
 refine .code ?_
 refine .cond rfl (fun hb16 => ?_) (fun hb16 => ?_)
 ·skip
  refine .seq ?_
  refine .region ?_
  refine .move rfl rfl ?_
  refine .move rfl rfl ?_
  refine .ownNil 24 (Ex cApiCask) 38 ?_
  refine .store (cs' := [(.slice none 0 0)]) Try.sizeOf58 rfl rfl rfl rfl (i := 6) rfl (Nat.le_of_ble_eq_true rfl) rfl rfl ?_
  refine .assign rfl rfl ?_
  refine .assign rfl rfl ?_
  refine .nil ?_
  refine .code ?_
  refine .freezeSl 0 rfl (Fz.le_refl _) (fun F_18 l_19 h20 => ?_)
  exact .ret0M [] Try.results13 trivial (.cell rfl Try.isAgg58 (i := 5) rfl rfl (.tmp rfl (.tmp rfl (.nil)))) (i := 6) rfl (Fz.le_trans l_10 l_19) ⟨none, 0, rfl, h20⟩
 ·skip
  refine .skip ?_
  refine .code ?_
  refine .seq ?_
  refine .seq ?_
  refine .region ?_
  refine .move rfl rfl ?_
  refine .call0 rfl Try.call29 rfl rfl rfl (c_cask_book_ordered _ p13) ?_
  rintro r_21 F_22 _ - l_23 ⟨b24, rfl, hb25⟩
  refine .nil ?_
  refine .code ?_
  refine .block ?_
  refine .keep (.cons (k := 4) rfl (.cons (k := 8) rfl (.cons (k := 22) rfl (.nil _)))) ?_
  refine .upR 1 (stays92 _12) l_23 rfl ?_
  refine .upR 3 (stays90 _12) l_23 rfl ?_
  refine .bind (fun l_26 e27 => ?_)
  have hit28 : IterH Try.prog F_22 53 [.pointer (some ⟨b24, 0, none⟩)] (fun (x : (Option Nat)) F vs => ∃ (p0 : Option Addr) (k0 : Unit), vs = [(.pointer p0)] ∧ RepPtr _12.g119 F p0 x) (fun F => [arena _12.g92 (C92 _12) F r_8.2.2.2.2.1, arena _12.g90 (C90 _12) F r_8.2.2.2.2.2.2]) l_26 := IterH.mk' Try.call53 (fun σ ly Y y F' le' hy s => ⟨_, c_cask_book_ordered_1 F' _12 σ ly Y y hy r_8.2.2.2.2.1 r_8.2.2.2.2.2.2 r_8.1 b24 p13 k14 (le'.mem _ _ hb25) ((h15.mono l_23).mono le') s, fun r hr => it_cask_book_ordered_1 e27 hr⟩)
  refine .upR 0 (stays119 _12) l_23 rfl ?_
  refine .ownUp 4 (Fz.le_trans l_10 l_23) rfl ?_
  refine .rangeForH (τ := (List ApiCask) × (List CaskCask)) (fun F => [arena _12.g92 (C92 _12) F r_8.2.2.2.2.1, arena _12.g90 (C90 _12) F r_8.2.2.2.2.2.2]) [1, 2] (fun s29 F_30 hs' => ∃ (p35 : Option Addr) (k36 : Nat), hs' = [arena _12.g119 (C119 _12) F_30 s29.2, arena _12.g117 (C117 _12) F_9 r_8.2.2.2.2.2.1, ownSl 24 (Ex cApiCask) F_30 38 p35 k36 s29.1, pt b6 (.cells [(.slice p35 s29.1.length k36)].toArray 58), R]) rfl hit28 rfl (fun _ _ _ h => by obtain ⟨_, _, h, _⟩ := h; rw [h]; rfl) rfl ⟨none, 0, rfl⟩ ?_ ?_
  ·intro lp Lp F_30 F_34 x31 vs s29 ctl Rp hs' l_32 l_33 hx hI
   obtain ⟨p38, k39, rfl, h40⟩ := hx
   obtain ⟨p35, k36, rfl⟩ := hI
   unfold b_cask_Play_1
   refine .keep (.cons (k := 4) rfl (.cons (k := 8) rfl (.cons (k := 22) rfl (.cons (k := 23) rfl (.nil _))))) ?_
   refine .region ?_
   refine .assign rfl rfl ?_
   refine .nil ?_
   refine GE.begin 0 rfl ?_
   refine .block ?_
   refine .keep (.cons (k := 4) rfl (.cons (k := 9) rfl (.nil _))) ?_
   refine .bind (fun r_42 e43 => ?_)
   refine .drawGD 4 0 (fun env41 => [((.slice p35 s29.1.length k36), fun _ => True), ((.pointer p38), fun _ => True), ((eApiCask r_42), fun G => env41.f 20 ≤ G), ((.slice (some ⟨env41.n 30, 0, none⟩) ([r_42]).length 1), fun G => RepSl 24 (Ex cApiCask) G (some ⟨env41.n 30, 0, none⟩) 1 ([r_42]))]) (fun L env41 => [pt lp (lbusy Lp), Rp, (bif L 2 then (arena _12.g119 (C119 _12) (env41.f 20) s29.2) else (arena _12.g119 (C119 _12) F_30 s29.2)), arena _12.g117 (C117 _12) F_9 r_8.2.2.2.2.2.1, ownSl 24 (Ex cApiCask) F_30 38 p35 k36 s29.1, pt b6 (.cells [(.slice p35 s29.1.length k36)].toArray 58), R]) mixedOK (by kernel_rfl) (deepN (k := 4) (n := 6) rfl (allLt6 (p := fun t => 4 ≤ t → ∀ j, j < t → ∃ s, depB _ s t j = true) (fun h => absurd h (by decide)) (fun h => absurd h (by decide)) (fun h => absurd h (by decide)) (fun h => absurd h (by decide)) (fun _ => allLt4 (p := fun j => ∃ s, depB _ s 4 j = true) ⟨1, rfl⟩ ⟨2, rfl⟩ ⟨1, rfl⟩ ⟨1, rfl⟩) (fun _ => allLt5 (p := fun j => ∃ s, depB _ s 5 j = true) ⟨1, rfl⟩ ⟨1, rfl⟩ ⟨1, rfl⟩ ⟨1, rfl⟩ ⟨1, rfl⟩))) rfl (fun _ => rfl) (by kernel_rfl) (fun _ => rfl) ?_ (fun env41 F_50 l_51 hphi => ?_)
   ·skip
    refine .cons (fun L env41 F_53 l_54 hL hdn hup hphi => ⟨[(4, (.pointer (some ⟨b6, 0, none⟩)))], fun S hS hV => (.cons (hS _ _ rfl) (Sub.nil _)), ?_⟩) ?_
    ·skip
     refine .loadO rfl Try.isAgg58 rfl (i := 5) rfl rfl ?_
     exact .finV rfl rfl (Fz.le_refl _)
    refine .cons (fun L env41 F_55 l_56 hL hdn hup hphi => ⟨[(9, (.pointer p38))], fun S hS hV => (.cons (hS _ _ rfl) (Sub.nil _)), ?_⟩) ?_
    ·skip
     refine .move rfl rfl ?_
     exact .finV rfl rfl (Fz.le_refl _)
    refine .cons (fun L env41 F_57 l_58 hL hdn hup hphi => ⟨[(25, (.pointer p38))], fun S hS hV => (.cons (hV 1 25 _ (hdn 1 1 rfl) rfl rfl) (Sub.nil _)), ?_⟩) ?_
    ·skip
     refine .norm (Sub.refl _) ((cons_eq rfl (cons_eq rfl (cons_eq (condF hL) (cons_eq rfl (cons_eq rfl (cons_eq rfl (cons_eq rfl rfl))))))) : _ = [pt lp (lbusy Lp), Rp, arena _12.g119 (C119 _12) F_30 s29.2, arena _12.g117 (C117 _12) F_9 r_8.2.2.2.2.2.1, ownSl 24 (Ex cApiCask) F_30 38 p35 k36 s29.1, pt b6 (.cells [(.slice p35 s29.1.length k36)].toArray 58), R]) ?_
     refine .upR 2 (stays119 _12) (Fz.le_trans l_33 l_58) rfl ?_
     refine .callTK e43 [2] rfl Try.call30 rfl rfl rfl rfl (c_cask_cask_shown _ _12 s29.2 x31 p38 k39 (h40.mono l_58)) ?_
     rintro F_59 _ l_60 rfl
     refine .pick [1, 1, 0, 0, 0, 0, 0] (rfl : _ = [pt lp (lbusy Lp), Rp, arena _12.g119 (C119 _12) F_59 s29.2, arena _12.g117 (C117 _12) F_9 r_8.2.2.2.2.2.1, ownSl 24 (Ex cApiCask) F_30 38 p35 k36 s29.1, pt b6 (.cells [(.slice p35 s29.1.length k36)].toArray 58), R]) ?_
     exact .finQ ({ env41 with a := env41.a, o := env41.o, f := (updN env41.f 20 F_59) }) [true, true, false, false] rfl (by kernel_rfl) rfl rfl l_60 (fun _ le => le) (cons_eq rfl (cons_eq rfl (cons_eq (condT rfl) (cons_eq rfl (cons_eq rfl (cons_eq rfl (cons_eq rfl rfl)))))))
    refine .cons (fun L env41 F_61 l_62 hL hdn hup hphi => ⟨[(26, (eApiCask r_42))], fun S hS hV => (.cons (hV 2 26 _ (hdn 1 2 rfl) rfl rfl) (Sub.nil _)), ?_⟩) ?_
    ·skip
     have l_52 := hphi 2 _ (hdn 1 2 rfl) rfl _ (Fz.le_refl _)
     refine .sliceLit (cs := [.int .i64 r_42.Number, .int .i64 r_42.Wood, .int .i64 r_42.Place, .int .i64 r_42.Room, .int .i64 r_42.Owner, .int .i64 r_42.Creditor, .int .i64 r_42.Amount, .int .i64 r_42.Age, .int .i64 (r_42.Woods 0), .int .i64 (r_42.Woods 1), .int .i64 (r_42.Woods 2), .int .i64 (r_42.Woods 3), .int .i64 (r_42.Woods 4), .int .i64 (r_42.Woods 5), .int .i64 (r_42.Woods 6), .int .i64 (r_42.Woods 7), .int .i64 (r_42.Places 0), .int .i64 (r_42.Places 1), .int .i64 (r_42.Places 2), .int .i64 (r_42.Places 3), .int .i64 (r_42.Places 4), .int .i64 (r_42.Places 5), .int .i64 (r_42.Places 6), .int .i64 (r_42.Places 7)]) (zc := [.int .i64 (ApiCask.mk 0 0 0 0 0 0 0 0 (fun _ => 0) (fun _ => 0)).Number, .int .i64 (ApiCask.mk 0 0 0 0 0 0 0 0 (fun _ => 0) (fun _ => 0)).Wood, .int .i64 (ApiCask.mk 0 0 0 0 0 0 0 0 (fun _ => 0) (fun _ => 0)).Place, .int .i64 (ApiCask.mk 0 0 0 0 0 0 0 0 (fun _ => 0) (fun _ => 0)).Room, .int .i64 (ApiCask.mk 0 0 0 0 0 0 0 0 (fun _ => 0) (fun _ => 0)).Owner, .int .i64 (ApiCask.mk 0 0 0 0 0 0 0 0 (fun _ => 0) (fun _ => 0)).Creditor, .int .i64 (ApiCask.mk 0 0 0 0 0 0 0 0 (fun _ => 0) (fun _ => 0)).Amount, .int .i64 (ApiCask.mk 0 0 0 0 0 0 0 0 (fun _ => 0) (fun _ => 0)).Age, .int .i64 ((ApiCask.mk 0 0 0 0 0 0 0 0 (fun _ => 0) (fun _ => 0)).Woods 0), .int .i64 ((ApiCask.mk 0 0 0 0 0 0 0 0 (fun _ => 0) (fun _ => 0)).Woods 1), .int .i64 ((ApiCask.mk 0 0 0 0 0 0 0 0 (fun _ => 0) (fun _ => 0)).Woods 2), .int .i64 ((ApiCask.mk 0 0 0 0 0 0 0 0 (fun _ => 0) (fun _ => 0)).Woods 3), .int .i64 ((ApiCask.mk 0 0 0 0 0 0 0 0 (fun _ => 0) (fun _ => 0)).Woods 4), .int .i64 ((ApiCask.mk 0 0 0 0 0 0 0 0 (fun _ => 0) (fun _ => 0)).Woods 5), .int .i64 ((ApiCask.mk 0 0 0 0 0 0 0 0 (fun _ => 0) (fun _ => 0)).Woods 6), .int .i64 ((ApiCask.mk 0 0 0 0 0 0 0 0 (fun _ => 0) (fun _ => 0)).Woods 7), .int .i64 ((ApiCask.mk 0 0 0 0 0 0 0 0 (fun _ => 0) (fun _ => 0)).Places 0), .int .i64 ((ApiCask.mk 0 0 0 0 0 0 0 0 (fun _ => 0) (fun _ => 0)).Places 1), .int .i64 ((ApiCask.mk 0 0 0 0 0 0 0 0 (fun _ => 0) (fun _ => 0)).Places 2), .int .i64 ((ApiCask.mk 0 0 0 0 0 0 0 0 (fun _ => 0) (fun _ => 0)).Places 3), .int .i64 ((ApiCask.mk 0 0 0 0 0 0 0 0 (fun _ => 0) (fun _ => 0)).Places 4), .int .i64 ((ApiCask.mk 0 0 0 0 0 0 0 0 (fun _ => 0) (fun _ => 0)).Places 5), .int .i64 ((ApiCask.mk 0 0 0 0 0 0 0 0 (fun _ => 0) (fun _ => 0)).Places 6), .int .i64 ((ApiCask.mk 0 0 0 0 0 0 0 0 (fun _ => 0) (fun _ => 0)).Places 7)]) rfl Try.underlying58 Try.sizeOf38 Try.zeroValue38 rfl rfl rfl (by kernel_rfl) (by kernel_rfl) (fun b63 F_64 l_65 hb66 => ?_)
     have h67 : RepSl 24 (Ex cApiCask) F_64 (some ⟨b63, 0, none⟩) 1 ([r_42]) := RepSl.ofRow hb66 (.cons ok_t38.mono rfl .nil) rfl rfl
     exact .finQ ({ env41 with a := env41.a, n := (updN env41.n 30 b63), c := env41.c, o := env41.o }) [true, true, true, false] rfl (by kernel_rfl) rfl rfl l_65 (fun _ le => h67.mono le) (cons_eq rfl (cons_eq rfl (cons_eq rfl (cons_eq rfl (cons_eq rfl (cons_eq rfl (cons_eq rfl rfl)))))))
    exact .nil
   have l_52 := hphi 2 _ rfl
   have h49 := hphi 3 _ rfl
   refine .norm (S' := [(4, (.pointer (some ⟨b6, 0, none⟩))), (9, (.pointer p38)), (24, (.slice p35 s29.1.length k36)), (25, (.pointer p38)), (26, (eApiCask r_42)), (27, (.slice (some ⟨env41.n 30, 0, none⟩) ([r_42]).length 1))]) (.cons (k := 4) rfl (.cons (k := 9) rfl (.cons (k := 24) rfl (.cons (k := 25) rfl (.cons (k := 26) rfl (.cons (k := 27) rfl (.nil _))))))) (rfl : _ = [pt lp (lbusy Lp), Rp, arena _12.g119 (C119 _12) (env41.f 20) s29.2, arena _12.g117 (C117 _12) F_9 r_8.2.2.2.2.2.1, ownSl 24 (Ex cApiCask) F_30 38 p35 k36 s29.1, pt b6 (.cells [(.slice p35 s29.1.length k36)].toArray 58), R]) ?_
   refine .append 4 ok_t38 (Fz.le_trans l_33 l_51) rfl Try.underlying58 Try.underlying58 rfl rfl rfl h49 rfl rfl (fun l_68 p69 k70 e71 => ?_)
   refine .store (cs' := [(.slice p69 l_68.length k70)]) Try.sizeOf58 rfl rfl rfl rfl (i := 5) rfl (Nat.le_of_ble_eq_true rfl) rfl rfl ?_
   refine .nil ?_
   refine .block ?_
   refine .upR 2 (stays119 _12) l_52 rfl ?_
   exact .nil (RP.normF l_51 ⟨p69, k70, rfl⟩ rfl)
  ·intro q72 F_74 F_75 s73 hs' l_76 l_77 he hI
   obtain ⟨p78, k79, rfl⟩ := hI
   refine .norm (Sub.refl _) (rfl : _ = [pt q72 (.deferred (some [])), arena _12.g92 (C92 _12) F_75 r_8.2.2.2.2.1, arena _12.g90 (C90 _12) F_75 r_8.2.2.2.2.2.2, arena _12.g119 (C119 _12) F_74 s73.2, arena _12.g117 (C117 _12) F_9 r_8.2.2.2.2.2.1, ownSl 24 (Ex cApiCask) F_74 38 p78 k79 s73.1, pt b6 (.cells [(.slice p78 s73.1.length k79)].toArray 58), R]) ?_
   refine .block ?_
   refine .code ?_
   refine .seq ?_
   refine .region ?_
   refine .loadO rfl Try.isAgg58 rfl (i := 6) rfl rfl ?_
   refine .move rfl rfl ?_
   refine .store (cs' := [(.slice p78 s73.1.length k79)]) Try.sizeOf58 rfl rfl rfl rfl (i := 6) rfl (Nat.le_of_ble_eq_true rfl) rfl rfl ?_
   refine .assign rfl rfl ?_
   refine .assign rfl rfl ?_
   refine .nil ?_
   refine .code ?_
   refine .freezeSl 5 rfl l_77 (fun F_81 l_82 h83 => ?_)
   exact .ret0M [(0, q72)] Try.results13 ⟨rfl, trivial⟩ (.cell rfl Try.isAgg58 (i := 5) rfl rfl (.tmp rfl (.tmp rfl (.nil)))) (i := 6) rfl (Fz.le_trans l_10 (Fz.le_trans l_23 (Fz.le_trans l_76 (Fz.le_trans l_77 l_82)))) ⟨p78, k79, rfl, h83⟩
noncomputable def b_wormtubtop_TopVatted_2 (r_138 : (ApiBottling × Int)) (r_156 : (ApiBottling × Int)) (s171 : Int) : Option (Ctl (Int) ((Unit) ⊕ (Bool))) :=
 if (decide (s171 < 8)) then ((idxO 8 s171).bind fun j176 => (idxO 8 s171).bind fun j178 => if (decide ((r_138.1.Woods j176) > (r_156.1.Woods j178))) then (some (.done (.inr false))) else (bindv (w64 (s171 + 1)) fun w199 => some (.next w199))) else (some (.done (.inl ())))
noncomputable def b_wormtubtop_TopVatted_3 (r_138 : (ApiBottling × Int)) (r_156 : (ApiBottling × Int)) (s206 : Int) : Option (Ctl (Int) ((Unit) ⊕ (Bool))) :=
 if (decide (s206 < 8)) then ((idxO 8 s206).bind fun j211 => (idxO 8 s206).bind fun j213 => if (decide ((r_138.1.Places j211) > (r_156.1.Places j213))) then (some (.done (.inr false))) else (bindv (w64 (s206 + 1)) fun p234 => some (.next p234))) else (some (.done (.inl ())))
noncomputable def b_wormtubtop_TopVatted_1 (x63 : ApiCask) (x73 : ApiCask) (r_138 : (ApiBottling × Int)) (s141 : Int) : Option (Ctl (Int) ((Unit) ⊕ (Bool))) :=
 if (decide (s141 < 2)) then ((sliceL ((ApiBatch.mk ([(ApiDraught.mk x63 x63.Amount (ApiSpan.mk 5000 6000)), (ApiDraught.mk x73 x73.Amount (ApiSpan.mk 5000 6000))]) 0 (ApiSpan.mk 0 0) false false).Draughts) s141 (w64 (s141 + 1))).bind fun l_146 => bindv ({ (ApiBatch.mk ([(ApiDraught.mk x63 x63.Amount (ApiSpan.mk 5000 6000)), (ApiDraught.mk x73 x73.Amount (ApiSpan.mk 5000 6000))]) 0 (ApiSpan.mk 0 0) false false) with Draughts := l_146 }) fun x151 => (m_bottle_Blend x151).bind fun r_156 => if ((((r_156.2 != 0) || (decide (r_138.1.Age > r_156.1.Age))) || (r_138.1.Casks != 2)) || (r_156.1.Casks != 1)) then (some (.done (.inr false))) else ((loopM (b_wormtubtop_TopVatted_2 r_138 r_156) 0).bind fun b0 => match b0 with | .inl _b201 => ((loopM (b_wormtubtop_TopVatted_3 r_138 r_156) 0).bind fun b0 => match b0 with | .inl _b236 => (bindv (w64 (s141 + 1)) fun d241 => some (.next d241)) | .inr b236 => (some (.done (.inr b236)))) | .inr b201 => (some (.done (.inr b201))))) else (some (.done (.inl ())))
noncomputable def m_wormtubtop_TopVatted (l_1 : (List ApiCaskEvent)) (day5 : Int) (first_6 : Int) (second7 : Int) : Option Bool :=
 if (decide ((l_1.length : Int) > 40)) then ((m_wormtubtop_awake12).bind fun r_11 => some r_11) else ((m_cask_Play l_1 day5).bind fun r_14 => if ((r_14.2.2 != 0) || (decide ((r_14.1.length : Int) < 2))) then ((m_wormtubtop_awake12).bind fun r_25 => some r_25) else (if ((decide (r_14.2.1 < 0)) || (decide (r_14.2.1 > (l_1.length : Int)))) then (some false) else ((remK (w64 (first_6)) (r_14.1.length : Int)).bind fun q31 => (remK (w64 (second7)) (r_14.1.length : Int)).bind fun q34 => (idxL r_14.1 q31).bind fun x63 => (idxL r_14.1 q34).bind fun x73 => if (((((q31 == q34) || (decide (x63.Amount < 1))) || (decide (x73.Amount < 1))) || (decide (x63.Amount > 1073741824))) || (decide (x73.Amount > 1073741824))) then ((m_wormtubtop_awake12).bind fun r_129 => some r_129) else ((m_bottle_Blend (ApiBatch.mk ([(ApiDraught.mk x63 x63.Amount (ApiSpan.mk 5000 6000)), (ApiDraught.mk x73 x73.Amount (ApiSpan.mk 5000 6000))]) 0 (ApiSpan.mk 0 0) false false)).bind fun r_138 => if (r_138.2 != 0) then (some false) else ((loopM (b_wormtubtop_TopVatted_1 x63 x73 r_138) 0).bind fun b0 => match b0 with | .inl _b243 => ((sliceL l_1 0 r_14.2.1).bind fun l_250 => (appO ([]) l_250).bind fun l_257 => (appO l_257 ([(ApiCaskEvent.mk 2 day5 x63.Number x73.Number 0 0 x63.Amount 0)])).bind fun l_315 => (m_cask_At l_315 x73.Number day5).bind fun r_324 => if (r_324.2 != 0) then ((if ((r_324.2 == 11) || (r_324.2 == 9)) then ((m_wormtubtop_awake12).bind fun r_334 => some r_334) else some false).bind fun z338 => some z338) else ((if ((((r_324.1.Age == r_138.1.Age) && (eq_31 r_324.1.Woods r_138.1.Woods)) && (eq_31 r_324.1.Places r_138.1.Places)) && (r_324.1.Amount == (w64 (x63.Amount + x73.Amount)))) then ((m_wormtubtop_awake12).bind fun r_355 => some r_355) else some false).bind fun z359 => some z359)) | .inr b243 => (some b243))))))
set_option maxHeartbeats 4000000 in
theorem c_wormtubtop_TopVatted (F0 : Fz) (l_1 : (List ApiCaskEvent)) (p2 : Option Addr) (k3 : Nat) (h4 : RepSl 8 (Ex cApiCaskEvent) F0 p2 k3 l_1) (day5 : Int) (first_6 : Int) (second7 : Int) : CT0 Try.prog 4 [(.slice p2 l_1.length k3), (.int .i64 day5), (.int .u8 first_6), (.int .u8 second7)].toArray F0 (m_wormtubtop_TopVatted l_1 day5 first_6 second7) (fun r _ v => v = (.bool r)) := by
 refine CT0.enter Try.func4 rfl Try.ntmps4 rfl fun r R => ?_
 unfold m_wormtubtop_TopVatted
 refine .seq ?_
 refine .region ?_
 refine .assign rfl rfl ?_
 refine .nil ?_
 refine .code ?_
 refine .seq ?_
 refine .seq ?_
 refine .region ?_
 refine .move rfl rfl ?_
 refine .lenS rfl rfl Try.underlying57 rfl ?_
 refine .gtr rfl rfl rfl ?_
 refine .nil ?_
 refine .code ?_
 refine .cond rfl (fun hb8 => ?_) (fun hb8 => ?_)
 ·skip
  refine .seq ?_
  refine .region ?_
  refine .call0 rfl Try.call12 rfl rfl rfl (c_wormtubtop_awake12 _ ) ?_
  rintro r_11 F_9 _ - l_10 rfl
  refine .assign rfl rfl ?_
  refine .nil ?_
  refine .code ?_
  exact .ret0 Try.results4 (.tmp rfl (.nil)) (i := 0) rfl l_10 rfl
 ·skip
  refine .skip ?_
  refine .code ?_
  refine .seq ?_
  refine .region ?_
  refine .move rfl rfl ?_
  refine .move rfl rfl ?_
  refine .call0 rfl Try.call13 rfl rfl rfl (c_cask_Play _ l_1 p2 k3 h4 day5) ?_
  rintro r_14 F_12 _ - l_13 ⟨p15, k16, rfl, h17⟩
  refine .move rfl rfl ?_
  refine .extract rfl rfl rfl ?_
  refine .extract rfl rfl rfl ?_
  refine .extract rfl rfl rfl ?_
  refine .assign rfl rfl ?_
  refine .assign rfl rfl ?_
  refine .assign rfl rfl ?_
  refine .nil ?_
  refine .code ?_
  refine .seq ?_
  refine .seq ?_
  refine .region ?_
  refine .move rfl rfl ?_
  refine .neq rfl rfl rfl ?_
  refine .move rfl rfl ?_
  refine .orP (b := (r_14.2.2 != 0)) (b' := (decide ((r_14.1.length : Int) < 2))) 4 46 (fun hb18 => ?_) (fun hb19 => ?_) (fun F_20 l_21 => ?_)
  ·skip
   refine .onH hb18 rfl rfl ?_
   refine .move rfl rfl ?_
   refine .onH hb18 rfl rfl ?_
   refine .lenS rfl rfl Try.underlying58 rfl ?_
   refine .onH hb18 rfl rfl ?_
   refine .lss rfl rfl rfl ?_
   refine .pickFH hb18 rfl rfl rfl ?_
   exact .fin 4 rfl rfl (by kernel_rfl) (Fz.le_refl _)
  ·skip
   refine .offH hb19 rfl rfl rfl ?_
   refine .offH hb19 rfl rfl rfl ?_
   refine .offH hb19 rfl rfl rfl ?_
   refine .pickTH hb19 rfl rfl rfl ?_
   exact .fin 4 rfl rfl (by kernel_rfl) (Fz.le_refl _)
  refine .nil ?_
  refine .code ?_
  refine .cond rfl (fun hb22 => ?_) (fun hb22 => ?_)
  ·skip
   refine .seq ?_
   refine .region ?_
   refine .call0 rfl Try.call12 rfl rfl rfl (c_wormtubtop_awake12 _ ) ?_
   rintro r_25 F_23 _ - l_24 rfl
   refine .assign rfl rfl ?_
   refine .nil ?_
   refine .code ?_
   exact .ret0 Try.results4 (.tmp rfl (.nil)) (i := 0) rfl (Fz.le_trans l_13 (Fz.le_trans l_21 l_24)) rfl
  ·skip
   refine .skip ?_
   refine .code ?_
   refine .seq ?_
   refine .seq ?_
   refine .region ?_
   refine .move rfl rfl ?_
   refine .lss rfl rfl rfl ?_
   refine .move rfl rfl ?_
   refine .orP (b := (decide (r_14.2.1 < 0))) (b' := (decide (r_14.2.1 > (l_1.length : Int)))) 5 55 (fun hb26 => ?_) (fun hb27 => ?_) (fun F_28 l_29 => ?_)
   ·skip
    refine .onH hb26 rfl rfl ?_
    refine .move rfl rfl ?_
    refine .onH hb26 rfl rfl ?_
    refine .move rfl rfl ?_
    refine .onH hb26 rfl rfl ?_
    refine .lenS rfl rfl Try.underlying57 rfl ?_
    refine .onH hb26 rfl rfl ?_
    refine .gtr rfl rfl rfl ?_
    refine .pickFH hb26 rfl rfl rfl ?_
    exact .fin 5 rfl rfl (by kernel_rfl) (Fz.le_refl _)
   ·skip
    refine .offH hb27 rfl rfl rfl ?_
    refine .offH hb27 rfl rfl rfl ?_
    refine .offH hb27 rfl rfl rfl ?_
    refine .offH hb27 rfl rfl rfl ?_
    refine .pickTH hb27 rfl rfl rfl ?_
    exact .fin 5 rfl rfl (by kernel_rfl) (Fz.le_refl _)
   refine .nil ?_
   refine .keep (.cons (k := 0) rfl (.cons (k := 1) rfl (.cons (k := 2) rfl (.cons (k := 3) rfl (.cons (k := 9) rfl (.cons (k := 10) rfl (.cons (k := 55) rfl (.nil _)))))))) ?_
   refine .code ?_
   refine .cond rfl (fun hb30 => ?_) (fun hb30 => ?_)
   ·skip
    refine .seq ?_
    refine .region ?_
    refine .assign rfl rfl ?_
    refine .nil ?_
    refine .code ?_
    exact .ret0 Try.results4 (.tmp rfl (.nil)) (i := 0) rfl (Fz.le_trans l_13 (Fz.le_trans l_21 l_29)) rfl
   ·skip
    refine .skip ?_
    refine .code ?_
    refine .seq ?_
    refine .keep (.cons (k := 0) rfl (.cons (k := 1) rfl (.cons (k := 2) rfl (.cons (k := 3) rfl (.cons (k := 9) rfl (.cons (k := 10) rfl (.nil _))))))) ?_
    refine .bind (fun q31 hx33 => ?_)
    refine .bind (fun q34 hx36 => ?_)
    refine .draw ⟨1000000, 0, [], 0⟩ [(56, (.int .u8 first_6)), (57, (.int .i64 (w64 (first_6)))), (58, (.slice p15 r_14.1.length k16)), (59, (.int .i64 (r_14.1.length : Int))), (60, (.int .i64 q31)), (61, (.int .u8 second7)), (62, (.int .i64 (w64 (second7)))), (63, (.slice p15 r_14.1.length k16)), (64, (.int .i64 (r_14.1.length : Int))), (65, (.int .i64 q34)), (12, (.int .i64 q31))] mixedOK (by kernel_rfl) (by kernel_rfl) rfl (by kernel_rfl) ?_ (fun F_37 b38 l_39 => ?_)
    ·skip
     refine .cons (.mk 56 (.int .u8 first_6) [(2, (.int .u8 first_6))] rfl rfl rfl rfl (fun S hS hd => (.cons (hS _ _ rfl) (Sub.nil _))) (fun F_40 X l_41 => ?_)) ?_
     ·skip
      refine .move rfl rfl ?_
      exact .fin1 (Fz.le_refl _)
     refine .cons (.mk 57 (.int .i64 (w64 (first_6))) [(56, (.int .u8 first_6))] rfl rfl rfl rfl (fun S hS hd => (.cons (hd.1 rfl rfl _ _ rfl) (Sub.nil _))) (fun F_42 X l_43 => ?_)) ?_
     ·skip
      refine .convI rfl Try.underlying5 Try.underlying3 rfl ?_
      exact .fin1 (Fz.le_refl _)
     refine .cons (.mk 58 (.slice p15 r_14.1.length k16) [(9, (.slice p15 r_14.1.length k16))] rfl rfl rfl rfl (fun S hS hd => (.cons (hS _ _ rfl) (Sub.nil _))) (fun F_44 X l_45 => ?_)) ?_
     ·skip
      refine .move rfl rfl ?_
      exact .fin1 (Fz.le_refl _)
     refine .cons (.mk 59 (.int .i64 (r_14.1.length : Int)) [(58, (.slice p15 r_14.1.length k16))] rfl rfl rfl rfl (fun S hS hd => (.cons (hd.1 rfl rfl _ _ rfl) (Sub.nil _))) (fun F_46 X l_47 => ?_)) ?_
     ·skip
      refine .lenS rfl rfl Try.underlying58 rfl ?_
      exact .fin1 (Fz.le_refl _)
     refine .cons (.mk 60 (.int .i64 q31) [(57, (.int .i64 (w64 (first_6)))), (59, (.int .i64 (r_14.1.length : Int)))] rfl rfl rfl rfl (fun S hS hd => (.cons (hd.1 rfl rfl _ _ rfl) (.cons (hd.2.1 rfl rfl _ _ rfl) (Sub.nil _)))) (fun F_48 X l_49 => ?_)) ?_
     ·skip
      refine .remK hx33 rfl rfl rfl ?_
      exact .fin1 (Fz.le_refl _)
     refine .cons (.mk 61 (.int .u8 second7) [(3, (.int .u8 second7))] rfl rfl rfl rfl (fun S hS hd => (.cons (hS _ _ rfl) (Sub.nil _))) (fun F_50 X l_51 => ?_)) ?_
     ·skip
      refine .move rfl rfl ?_
      exact .fin1 (Fz.le_refl _)
     refine .cons (.mk 62 (.int .i64 (w64 (second7))) [(61, (.int .u8 second7))] rfl rfl rfl rfl (fun S hS hd => (.cons (hd.1 rfl rfl _ _ rfl) (Sub.nil _))) (fun F_52 X l_53 => ?_)) ?_
     ·skip
      refine .convI rfl Try.underlying5 Try.underlying3 rfl ?_
      exact .fin1 (Fz.le_refl _)
     refine .cons (.mk 63 (.slice p15 r_14.1.length k16) [(9, (.slice p15 r_14.1.length k16))] rfl rfl rfl rfl (fun S hS hd => (.cons (hS _ _ rfl) (Sub.nil _))) (fun F_54 X l_55 => ?_)) ?_
     ·skip
      refine .move rfl rfl ?_
      exact .fin1 (Fz.le_refl _)
     refine .cons (.mk 64 (.int .i64 (r_14.1.length : Int)) [(63, (.slice p15 r_14.1.length k16))] rfl rfl rfl rfl (fun S hS hd => (.cons (hd.1 rfl rfl _ _ rfl) (Sub.nil _))) (fun F_56 X l_57 => ?_)) ?_
     ·skip
      refine .lenS rfl rfl Try.underlying58 rfl ?_
      exact .fin1 (Fz.le_refl _)
     refine .cons (.mk 65 (.int .i64 q34) [(62, (.int .i64 (w64 (second7)))), (64, (.int .i64 (r_14.1.length : Int)))] rfl rfl rfl rfl (fun S hS hd => (.cons (hd.1 rfl rfl _ _ rfl) (.cons (hd.2.1 rfl rfl _ _ rfl) (Sub.nil _)))) (fun F_58 X l_59 => ?_)) ?_
     ·skip
      refine .remK hx36 rfl rfl rfl ?_
      exact .fin1 (Fz.le_refl _)
     refine .cons (.mk 12 (.int .i64 q31) [(60, (.int .i64 q31))] rfl rfl rfl rfl (fun S hS hd => (.cons (hd.1 rfl rfl _ _ rfl) (Sub.nil _))) (fun F_60 X l_61 => ?_)) ?_
     ·skip
      refine .assign rfl rfl ?_
      exact .fin1 (Fz.le_refl _)
     exact .nil
    refine .assign rfl rfl ?_
    refine .nil ?_
    refine .code ?_
    refine .seq ?_
    refine .keep (.cons (k := 0) rfl (.cons (k := 1) rfl (.cons (k := 9) rfl (.cons (k := 10) rfl (.cons (k := 12) rfl (.cons (k := 13) rfl (.nil _))))))) ?_
    refine .bind (fun x63 e69 => ?_)
    obtain ⟨b64, o65, T66, fr67, cs68, hm70, hv71, hq72⟩ := RepSl.idxE (h17.mono (Fz.le_trans l_21 (Fz.le_trans l_29 l_39))) e69
    refine .bind (fun x73 e79 => ?_)
    obtain ⟨b74, o75, T76, fr77, cs78, hm80, hv81, hq82⟩ := RepSl.idxE (h17.mono (Fz.le_trans l_21 (Fz.le_trans l_29 l_39))) e79
    refine .drawG 11 2 (fun env62 => [((.slice p15 r_14.1.length k16), fun _ => True), ((.int .i64 q31), fun _ => True), ((.pointer (some ⟨b64, o65, none⟩)), fun _ => True), ((eApiCask x63), fun _ => True), ((.slice p15 r_14.1.length k16), fun _ => True), ((.int .i64 q34), fun _ => True), ((.pointer (some ⟨b74, o75, none⟩)), fun _ => True), ((eApiCask x73), fun _ => True), ((.pointer (some ⟨(env62.n 80), 0, none⟩)), fun _ => True), ((.pointer (some ⟨(env62.n 90), 0, none⟩)), fun _ => True), (undef, fun _ => True)]) (fun L env62 => [R, (bif L 10 then (pt (env62.n 80) (.cells (cApiCask x63).toArray 38)) else (bif L 8 then (pt (env62.n 80) (.cells (cApiCask (ApiCask.mk 0 0 0 0 0 0 0 0 (fun _ => 0) (fun _ => 0))).toArray 38)) else emp)), (bif L 9 then (pt (env62.n 90) (.cells (cApiCask (ApiCask.mk 0 0 0 0 0 0 0 0 (fun _ => 0) (fun _ => 0))).toArray 38)) else emp)]) mixedOK (by kernel_rfl) (by kernel_rfl) rfl (fun _ => rfl) (by kernel_rfl) (fun _ => rfl) ?_ (fun env62 F_83 l_84 hphi => ?_)
    ·skip
     refine .cons (fun L env62 F_85 l_86 hL hdn hup hphi => ⟨[(9, (.slice p15 r_14.1.length k16))], fun S hS hV => (.cons (hS _ _ rfl) (Sub.nil _)), ?_⟩) ?_
     ·skip
      refine .move rfl rfl ?_
      exact .finV rfl rfl (Fz.le_refl _)
     refine .cons (fun L env62 F_87 l_88 hL hdn hup hphi => ⟨[(12, (.int .i64 q31))], fun S hS hV => (.cons (hS _ _ rfl) (Sub.nil _)), ?_⟩) ?_
     ·skip
      refine .move rfl rfl ?_
      exact .finV rfl rfl (Fz.le_refl _)
     refine .cons (fun L env62 F_89 l_90 hL hdn hup hphi => ⟨[(66, (.slice p15 r_14.1.length k16)), (67, (.int .i64 q31))], fun S hS hV => (.cons (hV 0 66 _ (hdn 1 0 rfl) rfl rfl) (.cons (hV 1 67 _ (hdn 1 1 rfl) rfl rfl) (Sub.nil _))), ?_⟩) ?_
     ·skip
      refine .idxQ rfl Try.underlying58 Try.sizeOf38 hq72 rfl rfl ?_
      exact .finV rfl rfl (Fz.le_refl _)
     refine .cons (fun L env62 F_91 l_92 hL hdn hup hphi => ⟨[(68, (.pointer (some ⟨b64, o65, none⟩)))], fun S hS hV => (.cons (hV 2 68 _ (hdn 1 2 rfl) rfl rfl) (Sub.nil _)), ?_⟩) ?_
     ·skip
      refine .loadFA rfl Try.isAgg38 Try.sizeOf38 rfl (l_92.mem _ _ hm70) hv71 rfl ?_
      exact .finV rfl rfl (Fz.le_refl _)
     refine .cons (fun L env62 F_93 l_94 hL hdn hup hphi => ⟨[(9, (.slice p15 r_14.1.length k16))], fun S hS hV => (.cons (hS _ _ rfl) (Sub.nil _)), ?_⟩) ?_
     ·skip
      refine .move rfl rfl ?_
      exact .finV rfl rfl (Fz.le_refl _)
     refine .cons (fun L env62 F_95 l_96 hL hdn hup hphi => ⟨[(13, (.int .i64 q34))], fun S hS hV => (.cons (hS _ _ rfl) (Sub.nil _)), ?_⟩) ?_
     ·skip
      refine .move rfl rfl ?_
      exact .finV rfl rfl (Fz.le_refl _)
     refine .cons (fun L env62 F_97 l_98 hL hdn hup hphi => ⟨[(70, (.slice p15 r_14.1.length k16)), (71, (.int .i64 q34))], fun S hS hV => (.cons (hV 4 70 _ (hdn 1 4 rfl) rfl rfl) (.cons (hV 5 71 _ (hdn 1 5 rfl) rfl rfl) (Sub.nil _))), ?_⟩) ?_
     ·skip
      refine .idxQ rfl Try.underlying58 Try.sizeOf38 hq82 rfl rfl ?_
      exact .finV rfl rfl (Fz.le_refl _)
     refine .cons (fun L env62 F_99 l_100 hL hdn hup hphi => ⟨[(72, (.pointer (some ⟨b74, o75, none⟩)))], fun S hS hV => (.cons (hV 6 72 _ (hdn 1 6 rfl) rfl rfl) (Sub.nil _)), ?_⟩) ?_
     ·skip
      refine .loadFA rfl Try.isAgg38 Try.sizeOf38 rfl (l_100.mem _ _ hm80) hv81 rfl ?_
      exact .finV rfl rfl (Fz.le_refl _)
     refine .cons (fun L env62 F_101 l_102 hL hdn hup hphi => ⟨[], fun S hS hV => (Sub.nil _), ?_⟩) ?_
     ·skip
      refine .alloc (cs := (cApiCask (ApiCask.mk 0 0 0 0 0 0 0 0 (fun _ => 0) (fun _ => 0)))) rfl Try.zeroValue38 rfl (fun b103 => ?_)
      exact .finG ({ env62 with n := updN env62.n 80 b103 }) [true, true, true, true, true, true, true, true, false, true, false] rfl (by kernel_rfl) rfl rfl (Fz.le_refl _) (fun _ _ => trivial) (fun _ h => SH.placeC 1 (congrArg some ((condF (hup 1 10 rfl)).trans (condF hL))) ((condF (b := updB L 8 10) (hup 1 10 rfl)).trans (condT rfl)) h)
     refine .cons (fun L env62 F_104 l_105 hL hdn hup hphi => ⟨[], fun S hS hV => (Sub.nil _), ?_⟩) ?_
     ·skip
      refine .alloc (cs := (cApiCask (ApiCask.mk 0 0 0 0 0 0 0 0 (fun _ => 0) (fun _ => 0)))) rfl Try.zeroValue38 rfl (fun b106 => ?_)
      exact .finG ({ env62 with n := updN env62.n 90 b106 }) [true, true, true, true, true, true, true, true, true, false, false] rfl (by kernel_rfl) rfl rfl (Fz.le_refl _) (fun _ _ => trivial) (fun _ h => SH.placeC 2 (congrArg some (condF hL)) (condT rfl) h)
     refine .cons (fun L env62 F_107 l_108 hL hdn hup hphi => ⟨[(14, (.pointer (some ⟨(env62.n 80), 0, none⟩))), (69, (eApiCask x63))], fun S hS hV => (.cons (hV 8 14 _ (hdn 1 8 rfl) rfl rfl) (.cons (hV 3 69 _ (hdn 1 3 rfl) rfl rfl) (Sub.nil _))), ?_⟩) ?_
     ·skip
      refine .store (cs' := (cApiCask x63)) Try.sizeOf38 rfl rfl rfl rfl (i := 1) (congrArg some ((condF hL).trans (condT (hdn 1 8 rfl)))) (Nat.le_of_ble_eq_true rfl) rfl (setMany_all (by rfl)) ?_
      exact .finS rfl (Fz.le_refl _) (setC 1 (condT rfl))
     exact .nil
    refine .norm (S' := [(0, (.slice p2 l_1.length k3)), (1, (.int .i64 day5)), (9, (.slice p15 r_14.1.length k16)), (10, (.int .i64 r_14.2.1)), (12, (.int .i64 q31)), (13, (.int .i64 q34)), (14, (.pointer (some ⟨(env62.n 80), 0, none⟩))), (15, (.pointer (some ⟨(env62.n 90), 0, none⟩))), (66, (.slice p15 r_14.1.length k16)), (67, (.int .i64 q31)), (68, (.pointer (some ⟨b64, o65, none⟩))), (69, (eApiCask x63)), (70, (.slice p15 r_14.1.length k16)), (71, (.int .i64 q34)), (72, (.pointer (some ⟨b74, o75, none⟩))), (73, (eApiCask x73))]) (.cons (k := 0) rfl (.cons (k := 1) rfl (.cons (k := 9) rfl (.cons (k := 10) rfl (.cons (k := 12) rfl (.cons (k := 13) rfl (.cons (k := 14) rfl (.cons (k := 15) rfl (.cons (k := 66) rfl (.cons (k := 67) rfl (.cons (k := 68) rfl (.cons (k := 69) rfl (.cons (k := 70) rfl (.cons (k := 71) rfl (.cons (k := 72) rfl (.cons (k := 73) rfl (.nil _))))))))))))))))) (rfl : _ = [R, pt (env62.n 80) (.cells (cApiCask x63).toArray 38), pt (env62.n 90) (.cells (cApiCask (ApiCask.mk 0 0 0 0 0 0 0 0 (fun _ => 0) (fun _ => 0))).toArray 38)]) ?_
    refine .store (cs' := (cApiCask x73)) Try.sizeOf38 rfl rfl rfl rfl (i := 2) rfl (Nat.le_of_ble_eq_true rfl) rfl (setMany_all (by rfl)) ?_
    refine .nil ?_
    refine .code ?_
    refine .seq ?_
    refine .region ?_
    refine .build (cs := (cApiSpan (ApiSpan.mk 5000 6000)).toArray) rfl Try.underlying24 Try.zeroValue24 (plApiSpan _ Try.underlying24) rfl rfl (by kernel_rfl) ?_
    refine .alloc (cs := (cApiSpan (ApiSpan.mk 0 0))) rfl Try.zeroValue24 rfl (fun b109 => ?_)
    refine .store (cs' := (cApiSpan (ApiSpan.mk 5000 6000))) Try.sizeOf24 rfl rfl rfl rfl (i := 0) rfl (Nat.le_of_ble_eq_true rfl) rfl (setMany_all (by rfl)) ?_
    refine .nil ?_
    refine .code ?_
    refine .seq ?_
    refine .seq ?_
    refine .region ?_
    refine .move rfl rfl ?_
    refine .move rfl rfl ?_
    refine .eql rfl rfl rfl ?_
    refine .move rfl rfl ?_
    refine .orP (b := (q31 == q34)) (b' := (decide (x63.Amount < 1))) 4 82 (fun hb110 => ?_) (fun hb111 => ?_) (fun F_112 l_113 => ?_)
    ·skip
     refine .onH hb110 rfl rfl ?_
     refine .fieldAddr rfl Try.underlying38 rfl Try.sizeOf3 rfl ?_
     refine .onH hb110 rfl rfl ?_
     refine .loadO rfl Try.isAgg3 rfl (i := 2) rfl rfl ?_
     refine .onH hb110 rfl rfl ?_
     refine .lss rfl rfl rfl ?_
     refine .pickFH hb110 rfl rfl rfl ?_
     exact .fin 4 rfl rfl (by kernel_rfl) (Fz.le_refl _)
    ·skip
     refine .offH hb111 rfl rfl rfl ?_
     refine .offH hb111 rfl rfl rfl ?_
     refine .offH hb111 rfl rfl rfl ?_
     refine .pickTH hb111 rfl rfl rfl ?_
     exact .fin 4 rfl rfl (by kernel_rfl) (Fz.le_refl _)
    refine .move rfl rfl ?_
    refine .orP (b := ((q31 == q34) || (decide (x63.Amount < 1)))) (b' := (decide (x73.Amount < 1))) 4 87 (fun hb114 => ?_) (fun hb115 => ?_) (fun F_116 l_117 => ?_)
    ·skip
     refine .onH hb114 rfl rfl ?_
     refine .fieldAddr rfl Try.underlying38 rfl Try.sizeOf3 rfl ?_
     refine .onH hb114 rfl rfl ?_
     refine .loadO rfl Try.isAgg3 rfl (i := 3) rfl rfl ?_
     refine .onH hb114 rfl rfl ?_
     refine .lss rfl rfl rfl ?_
     refine .pickFH hb114 rfl rfl rfl ?_
     exact .fin 4 rfl rfl (by kernel_rfl) (Fz.le_refl _)
    ·skip
     refine .offH hb115 rfl rfl rfl ?_
     refine .offH hb115 rfl rfl rfl ?_
     refine .offH hb115 rfl rfl rfl ?_
     refine .pickTH hb115 rfl rfl rfl ?_
     exact .fin 4 rfl rfl (by kernel_rfl) (Fz.le_refl _)
    refine .move rfl rfl ?_
    refine .orP (b := (((q31 == q34) || (decide (x63.Amount < 1))) || (decide (x73.Amount < 1)))) (b' := (decide (x63.Amount > 1073741824))) 4 92 (fun hb118 => ?_) (fun hb119 => ?_) (fun F_120 l_121 => ?_)
    ·skip
     refine .onH hb118 rfl rfl ?_
     refine .fieldAddr rfl Try.underlying38 rfl Try.sizeOf3 rfl ?_
     refine .onH hb118 rfl rfl ?_
     refine .loadO rfl Try.isAgg3 rfl (i := 2) rfl rfl ?_
     refine .onH hb118 rfl rfl ?_
     refine .gtr rfl rfl rfl ?_
     refine .pickFH hb118 rfl rfl rfl ?_
     exact .fin 4 rfl rfl (by kernel_rfl) (Fz.le_refl _)
    ·skip
     refine .offH hb119 rfl rfl rfl ?_
     refine .offH hb119 rfl rfl rfl ?_
     refine .offH hb119 rfl rfl rfl ?_
     refine .pickTH hb119 rfl rfl rfl ?_
     exact .fin 4 rfl rfl (by kernel_rfl) (Fz.le_refl _)
    refine .move rfl rfl ?_
    refine .orP (b := ((((q31 == q34) || (decide (x63.Amount < 1))) || (decide (x73.Amount < 1))) || (decide (x63.Amount > 1073741824)))) (b' := (decide (x73.Amount > 1073741824))) 4 97 (fun hb122 => ?_) (fun hb123 => ?_) (fun F_124 l_125 => ?_)
    ·skip
     refine .onH hb122 rfl rfl ?_
     refine .fieldAddr rfl Try.underlying38 rfl Try.sizeOf3 rfl ?_
     refine .onH hb122 rfl rfl ?_
     refine .loadO rfl Try.isAgg3 rfl (i := 3) rfl rfl ?_
     refine .onH hb122 rfl rfl ?_
     refine .gtr rfl rfl rfl ?_
     refine .pickFH hb122 rfl rfl rfl ?_
     exact .fin 4 rfl rfl (by kernel_rfl) (Fz.le_refl _)
    ·skip
     refine .offH hb123 rfl rfl rfl ?_
     refine .offH hb123 rfl rfl rfl ?_
     refine .offH hb123 rfl rfl rfl ?_
     refine .pickTH hb123 rfl rfl rfl ?_
     exact .fin 4 rfl rfl (by kernel_rfl) (Fz.le_refl _)
    refine .nil ?_
    refine .keep (.cons (k := 0) rfl (.cons (k := 1) rfl (.cons (k := 10) rfl (.cons (k := 14) rfl (.cons (k := 15) rfl (.cons (k := 16) rfl (.cons (k := 97) rfl (.nil _)))))))) ?_
    refine .code ?_
    refine .cond rfl (fun hb126 => ?_) (fun hb126 => ?_)
    ·skip
     refine .seq ?_
     refine .region ?_
     refine .call0 rfl Try.call12 rfl rfl rfl (c_wormtubtop_awake12 _ ) ?_
     rintro r_129 F_127 _ - l_128 rfl
     refine .assign rfl rfl ?_
     refine .nil ?_
     refine .code ?_
     exact .ret0 Try.results4 (.tmp rfl (.nil)) (i := 1) rfl (Fz.le_trans l_13 (Fz.le_trans l_21 (Fz.le_trans l_29 (Fz.le_trans l_39 (Fz.le_trans l_84 (Fz.le_trans l_113 (Fz.le_trans l_117 (Fz.le_trans l_121 (Fz.le_trans l_125 l_128))))))))) rfl
    ·skip
     refine .skip ?_
     refine .code ?_
     refine .seq ?_
     refine .region ?_
     refine .loadOA rfl Try.isAgg38 Try.sizeOf38 rfl (i := 2) rfl (vs := (cApiCask x63)) (by kernel_rfl) rfl ?_
     refine .fieldAddr rfl Try.underlying38 rfl Try.sizeOf3 rfl ?_
     refine .loadO rfl Try.isAgg3 rfl (i := 2) rfl rfl ?_
     refine .loadOA rfl Try.isAgg24 Try.sizeOf24 rfl (i := 0) rfl (vs := (cApiSpan (ApiSpan.mk 5000 6000))) (by kernel_rfl) rfl ?_
     refine .build (cs := (cApiDraught (ApiDraught.mk x63 x63.Amount (ApiSpan.mk 5000 6000))).toArray) rfl Try.underlying40 Try.zeroValue40 (plApiDraught _ Try.underlying40) rfl rfl (by kernel_rfl) ?_
     refine .loadOA rfl Try.isAgg38 Try.sizeOf38 rfl (i := 3) rfl (vs := (cApiCask x73)) (by kernel_rfl) rfl ?_
     refine .fieldAddr rfl Try.underlying38 rfl Try.sizeOf3 rfl ?_
     refine .loadO rfl Try.isAgg3 rfl (i := 3) rfl rfl ?_
     refine .loadOA rfl Try.isAgg24 Try.sizeOf24 rfl (i := 0) rfl (vs := (cApiSpan (ApiSpan.mk 5000 6000))) (by kernel_rfl) rfl ?_
     refine .build (cs := (cApiDraught (ApiDraught.mk x73 x73.Amount (ApiSpan.mk 5000 6000))).toArray) rfl Try.underlying40 Try.zeroValue40 (plApiDraught _ Try.underlying40) rfl rfl (by kernel_rfl) ?_
     refine .sliceLit (cs := [.int .i64 (ApiDraught.mk x63 x63.Amount (ApiSpan.mk 5000 6000)).From.Number, .int .i64 (ApiDraught.mk x63 x63.Amount (ApiSpan.mk 5000 6000)).From.Wood, .int .i64 (ApiDraught.mk x63 x63.Amount (ApiSpan.mk 5000 6000)).From.Place, .int .i64 (ApiDraught.mk x63 x63.Amount (ApiSpan.mk 5000 6000)).From.Room, .int .i64 (ApiDraught.mk x63 x63.Amount (ApiSpan.mk 5000 6000)).From.Owner, .int .i64 (ApiDraught.mk x63 x63.Amount (ApiSpan.mk 5000 6000)).From.Creditor, .int .i64 (ApiDraught.mk x63 x63.Amount (ApiSpan.mk 5000 6000)).From.Amount, .int .i64 (ApiDraught.mk x63 x63.Amount (ApiSpan.mk 5000 6000)).From.Age, .int .i64 ((ApiDraught.mk x63 x63.Amount (ApiSpan.mk 5000 6000)).From.Woods 0), .int .i64 ((ApiDraught.mk x63 x63.Amount (ApiSpan.mk 5000 6000)).From.Woods 1), .int .i64 ((ApiDraught.mk x63 x63.Amount (ApiSpan.mk 5000 6000)).From.Woods 2), .int .i64 ((ApiDraught.mk x63 x63.Amount (ApiSpan.mk 5000 6000)).From.Woods 3), .int .i64 ((ApiDraught.mk x63 x63.Amount (ApiSpan.mk 5000 6000)).From.Woods 4), .int .i64 ((ApiDraught.mk x63 x63.Amount (ApiSpan.mk 5000 6000)).From.Woods 5), .int .i64 ((ApiDraught.mk x63 x63.Amount (ApiSpan.mk 5000 6000)).From.Woods 6), .int .i64 ((ApiDraught.mk x63 x63.Amount (ApiSpan.mk 5000 6000)).From.Woods 7), .int .i64 ((ApiDraught.mk x63 x63.Amount (ApiSpan.mk 5000 6000)).From.Places 0), .int .i64 ((ApiDraught.mk x63 x63.Amount (ApiSpan.mk 5000 6000)).From.Places 1), .int .i64 ((ApiDraught.mk x63 x63.Amount (ApiSpan.mk 5000 6000)).From.Places 2), .int .i64 ((ApiDraught.mk x63 x63.Amount (ApiSpan.mk 5000 6000)).From.Places 3), .int .i64 ((ApiDraught.mk x63 x63.Amount (ApiSpan.mk 5000 6000)).From.Places 4), .int .i64 ((ApiDraught.mk x63 x63.Amount (ApiSpan.mk 5000 6000)).From.Places 5), .int .i64 ((ApiDraught.mk x63 x63.Amount (ApiSpan.mk 5000 6000)).From.Places 6), .int .i64 ((ApiDraught.mk x63 x63.Amount (ApiSpan.mk 5000 6000)).From.Places 7), .int .i64 (ApiDraught.mk x63 x63.Amount (ApiSpan.mk 5000 6000)).Amount, .int .i64 (ApiDraught.mk x63 x63.Amount (ApiSpan.mk 5000 6000)).Strength.Lo, .int .i64 (ApiDraught.mk x63 x63.Amount (ApiSpan.mk 5000 6000)).Strength.Hi, .int .i64 (ApiDraught.mk x73 x73.Amount (ApiSpan.mk 5000 6000)).From.Number, .int .i64 (ApiDraught.mk x73 x73.Amount (ApiSpan.mk 5000 6000)).From.Wood, .int .i64 (ApiDraught.mk x73 x73.Amount (ApiSpan.mk 5000 6000)).From.Place, .int .i64 (ApiDraught.mk x73 x73.Amount (ApiSpan.mk 5000 6000)).From.Room, .int .i64 (ApiDraught.mk x73 x73.Amount (ApiSpan.mk 5000 6000)).From.Owner, .int .i64 (ApiDraught.mk x73 x73.Amount (ApiSpan.mk 5000 6000)).From.Creditor, .int .i64 (ApiDraught.mk x73 x73.Amount (ApiSpan.mk 5000 6000)).From.Amount, .int .i64 (ApiDraught.mk x73 x73.Amount (ApiSpan.mk 5000 6000)).From.Age, .int .i64 ((ApiDraught.mk x73 x73.Amount (ApiSpan.mk 5000 6000)).From.Woods 0), .int .i64 ((ApiDraught.mk x73 x73.Amount (ApiSpan.mk 5000 6000)).From.Woods 1), .int .i64 ((ApiDraught.mk x73 x73.Amount (ApiSpan.mk 5000 6000)).From.Woods 2), .int .i64 ((ApiDraught.mk x73 x73.Amount (ApiSpan.mk 5000 6000)).From.Woods 3), .int .i64 ((ApiDraught.mk x73 x73.Amount (ApiSpan.mk 5000 6000)).From.Woods 4), .int .i64 ((ApiDraught.mk x73 x73.Amount (ApiSpan.mk 5000 6000)).From.Woods 5), .int .i64 ((ApiDraught.mk x73 x73.Amount (ApiSpan.mk 5000 6000)).From.Woods 6), .int .i64 ((ApiDraught.mk x73 x73.Amount (ApiSpan.mk 5000 6000)).From.Woods 7), .int .i64 ((ApiDraught.mk x73 x73.Amount (ApiSpan.mk 5000 6000)).From.Places 0), .int .i64 ((ApiDraught.mk x73 x73.Amount (ApiSpan.mk 5000 6000)).From.Places 1), .int .i64 ((ApiDraught.mk x73 x73.Amount (ApiSpan.mk 5000 6000)).From.Places 2), .int .i64 ((ApiDraught.mk x73 x73.Amount (ApiSpan.mk 5000 6000)).From.Places 3), .int .i64 ((ApiDraught.mk x73 x73.Amount (ApiSpan.mk 5000 6000)).From.Places 4), .int .i64 ((ApiDraught.mk x73 x73.Amount (ApiSpan.mk 5000 6000)).From.Places 5), .int .i64 ((ApiDraught.mk x73 x73.Amount (ApiSpan.mk 5000 6000)).From.Places 6), .int .i64 ((ApiDraught.mk x73 x73.Amount (ApiSpan.mk 5000 6000)).From.Places 7), .int .i64 (ApiDraught.mk x73 x73.Amount (ApiSpan.mk 5000 6000)).Amount, .int .i64 (ApiDraught.mk x73 x73.Amount (ApiSpan.mk 5000 6000)).Strength.Lo, .int .i64 (ApiDraught.mk x73 x73.Amount (ApiSpan.mk 5000 6000)).Strength.Hi]) (zc := [.int .i64 (ApiDraught.mk (ApiCask.mk 0 0 0 0 0 0 0 0 (fun _ => 0) (fun _ => 0)) 0 (ApiSpan.mk 0 0)).From.Number, .int .i64 (ApiDraught.mk (ApiCask.mk 0 0 0 0 0 0 0 0 (fun _ => 0) (fun _ => 0)) 0 (ApiSpan.mk 0 0)).From.Wood, .int .i64 (ApiDraught.mk (ApiCask.mk 0 0 0 0 0 0 0 0 (fun _ => 0) (fun _ => 0)) 0 (ApiSpan.mk 0 0)).From.Place, .int .i64 (ApiDraught.mk (ApiCask.mk 0 0 0 0 0 0 0 0 (fun _ => 0) (fun _ => 0)) 0 (ApiSpan.mk 0 0)).From.Room, .int .i64 (ApiDraught.mk (ApiCask.mk 0 0 0 0 0 0 0 0 (fun _ => 0) (fun _ => 0)) 0 (ApiSpan.mk 0 0)).From.Owner, .int .i64 (ApiDraught.mk (ApiCask.mk 0 0 0 0 0 0 0 0 (fun _ => 0) (fun _ => 0)) 0 (ApiSpan.mk 0 0)).From.Creditor, .int .i64 (ApiDraught.mk (ApiCask.mk 0 0 0 0 0 0 0 0 (fun _ => 0) (fun _ => 0)) 0 (ApiSpan.mk 0 0)).From.Amount, .int .i64 (ApiDraught.mk (ApiCask.mk 0 0 0 0 0 0 0 0 (fun _ => 0) (fun _ => 0)) 0 (ApiSpan.mk 0 0)).From.Age, .int .i64 ((ApiDraught.mk (ApiCask.mk 0 0 0 0 0 0 0 0 (fun _ => 0) (fun _ => 0)) 0 (ApiSpan.mk 0 0)).From.Woods 0), .int .i64 ((ApiDraught.mk (ApiCask.mk 0 0 0 0 0 0 0 0 (fun _ => 0) (fun _ => 0)) 0 (ApiSpan.mk 0 0)).From.Woods 1), .int .i64 ((ApiDraught.mk (ApiCask.mk 0 0 0 0 0 0 0 0 (fun _ => 0) (fun _ => 0)) 0 (ApiSpan.mk 0 0)).From.Woods 2), .int .i64 ((ApiDraught.mk (ApiCask.mk 0 0 0 0 0 0 0 0 (fun _ => 0) (fun _ => 0)) 0 (ApiSpan.mk 0 0)).From.Woods 3), .int .i64 ((ApiDraught.mk (ApiCask.mk 0 0 0 0 0 0 0 0 (fun _ => 0) (fun _ => 0)) 0 (ApiSpan.mk 0 0)).From.Woods 4), .int .i64 ((ApiDraught.mk (ApiCask.mk 0 0 0 0 0 0 0 0 (fun _ => 0) (fun _ => 0)) 0 (ApiSpan.mk 0 0)).From.Woods 5), .int .i64 ((ApiDraught.mk (ApiCask.mk 0 0 0 0 0 0 0 0 (fun _ => 0) (fun _ => 0)) 0 (ApiSpan.mk 0 0)).From.Woods 6), .int .i64 ((ApiDraught.mk (ApiCask.mk 0 0 0 0 0 0 0 0 (fun _ => 0) (fun _ => 0)) 0 (ApiSpan.mk 0 0)).From.Woods 7), .int .i64 ((ApiDraught.mk (ApiCask.mk 0 0 0 0 0 0 0 0 (fun _ => 0) (fun _ => 0)) 0 (ApiSpan.mk 0 0)).From.Places 0), .int .i64 ((ApiDraught.mk (ApiCask.mk 0 0 0 0 0 0 0 0 (fun _ => 0) (fun _ => 0)) 0 (ApiSpan.mk 0 0)).From.Places 1), .int .i64 ((ApiDraught.mk (ApiCask.mk 0 0 0 0 0 0 0 0 (fun _ => 0) (fun _ => 0)) 0 (ApiSpan.mk 0 0)).From.Places 2), .int .i64 ((ApiDraught.mk (ApiCask.mk 0 0 0 0 0 0 0 0 (fun _ => 0) (fun _ => 0)) 0 (ApiSpan.mk 0 0)).From.Places 3), .int .i64 ((ApiDraught.mk (ApiCask.mk 0 0 0 0 0 0 0 0 (fun _ => 0) (fun _ => 0)) 0 (ApiSpan.mk 0 0)).From.Places 4), .int .i64 ((ApiDraught.mk (ApiCask.mk 0 0 0 0 0 0 0 0 (fun _ => 0) (fun _ => 0)) 0 (ApiSpan.mk 0 0)).From.Places 5), .int .i64 ((ApiDraught.mk (ApiCask.mk 0 0 0 0 0 0 0 0 (fun _ => 0) (fun _ => 0)) 0 (ApiSpan.mk 0 0)).From.Places 6), .int .i64 ((ApiDraught.mk (ApiCask.mk 0 0 0 0 0 0 0 0 (fun _ => 0) (fun _ => 0)) 0 (ApiSpan.mk 0 0)).From.Places 7), .int .i64 (ApiDraught.mk (ApiCask.mk 0 0 0 0 0 0 0 0 (fun _ => 0) (fun _ => 0)) 0 (ApiSpan.mk 0 0)).Amount, .int .i64 (ApiDraught.mk (ApiCask.mk 0 0 0 0 0 0 0 0 (fun _ => 0) (fun _ => 0)) 0 (ApiSpan.mk 0 0)).Strength.Lo, .int .i64 (ApiDraught.mk (ApiCask.mk 0 0 0 0 0 0 0 0 (fun _ => 0) (fun _ => 0)) 0 (ApiSpan.mk 0 0)).Strength.Hi, .int .i64 (ApiDraught.mk (ApiCask.mk 0 0 0 0 0 0 0 0 (fun _ => 0) (fun _ => 0)) 0 (ApiSpan.mk 0 0)).From.Number, .int .i64 (ApiDraught.mk (ApiCask.mk 0 0 0 0 0 0 0 0 (fun _ => 0) (fun _ => 0)) 0 (ApiSpan.mk 0 0)).From.Wood, .int .i64 (ApiDraught.mk (ApiCask.mk 0 0 0 0 0 0 0 0 (fun _ => 0) (fun _ => 0)) 0 (ApiSpan.mk 0 0)).From.Place, .int .i64 (ApiDraught.mk (ApiCask.mk 0 0 0 0 0 0 0 0 (fun _ => 0) (fun _ => 0)) 0 (ApiSpan.mk 0 0)).From.Room, .int .i64 (ApiDraught.mk (ApiCask.mk 0 0 0 0 0 0 0 0 (fun _ => 0) (fun _ => 0)) 0 (ApiSpan.mk 0 0)).From.Owner, .int .i64 (ApiDraught.mk (ApiCask.mk 0 0 0 0 0 0 0 0 (fun _ => 0) (fun _ => 0)) 0 (ApiSpan.mk 0 0)).From.Creditor, .int .i64 (ApiDraught.mk (ApiCask.mk 0 0 0 0 0 0 0 0 (fun _ => 0) (fun _ => 0)) 0 (ApiSpan.mk 0 0)).From.Amount, .int .i64 (ApiDraught.mk (ApiCask.mk 0 0 0 0 0 0 0 0 (fun _ => 0) (fun _ => 0)) 0 (ApiSpan.mk 0 0)).From.Age, .int .i64 ((ApiDraught.mk (ApiCask.mk 0 0 0 0 0 0 0 0 (fun _ => 0) (fun _ => 0)) 0 (ApiSpan.mk 0 0)).From.Woods 0), .int .i64 ((ApiDraught.mk (ApiCask.mk 0 0 0 0 0 0 0 0 (fun _ => 0) (fun _ => 0)) 0 (ApiSpan.mk 0 0)).From.Woods 1), .int .i64 ((ApiDraught.mk (ApiCask.mk 0 0 0 0 0 0 0 0 (fun _ => 0) (fun _ => 0)) 0 (ApiSpan.mk 0 0)).From.Woods 2), .int .i64 ((ApiDraught.mk (ApiCask.mk 0 0 0 0 0 0 0 0 (fun _ => 0) (fun _ => 0)) 0 (ApiSpan.mk 0 0)).From.Woods 3), .int .i64 ((ApiDraught.mk (ApiCask.mk 0 0 0 0 0 0 0 0 (fun _ => 0) (fun _ => 0)) 0 (ApiSpan.mk 0 0)).From.Woods 4), .int .i64 ((ApiDraught.mk (ApiCask.mk 0 0 0 0 0 0 0 0 (fun _ => 0) (fun _ => 0)) 0 (ApiSpan.mk 0 0)).From.Woods 5), .int .i64 ((ApiDraught.mk (ApiCask.mk 0 0 0 0 0 0 0 0 (fun _ => 0) (fun _ => 0)) 0 (ApiSpan.mk 0 0)).From.Woods 6), .int .i64 ((ApiDraught.mk (ApiCask.mk 0 0 0 0 0 0 0 0 (fun _ => 0) (fun _ => 0)) 0 (ApiSpan.mk 0 0)).From.Woods 7), .int .i64 ((ApiDraught.mk (ApiCask.mk 0 0 0 0 0 0 0 0 (fun _ => 0) (fun _ => 0)) 0 (ApiSpan.mk 0 0)).From.Places 0), .int .i64 ((ApiDraught.mk (ApiCask.mk 0 0 0 0 0 0 0 0 (fun _ => 0) (fun _ => 0)) 0 (ApiSpan.mk 0 0)).From.Places 1), .int .i64 ((ApiDraught.mk (ApiCask.mk 0 0 0 0 0 0 0 0 (fun _ => 0) (fun _ => 0)) 0 (ApiSpan.mk 0 0)).From.Places 2), .int .i64 ((ApiDraught.mk (ApiCask.mk 0 0 0 0 0 0 0 0 (fun _ => 0) (fun _ => 0)) 0 (ApiSpan.mk 0 0)).From.Places 3), .int .i64 ((ApiDraught.mk (ApiCask.mk 0 0 0 0 0 0 0 0 (fun _ => 0) (fun _ => 0)) 0 (ApiSpan.mk 0 0)).From.Places 4), .int .i64 ((ApiDraught.mk (ApiCask.mk 0 0 0 0 0 0 0 0 (fun _ => 0) (fun _ => 0)) 0 (ApiSpan.mk 0 0)).From.Places 5), .int .i64 ((ApiDraught.mk (ApiCask.mk 0 0 0 0 0 0 0 0 (fun _ => 0) (fun _ => 0)) 0 (ApiSpan.mk 0 0)).From.Places 6), .int .i64 ((ApiDraught.mk (ApiCask.mk 0 0 0 0 0 0 0 0 (fun _ => 0) (fun _ => 0)) 0 (ApiSpan.mk 0 0)).From.Places 7), .int .i64 (ApiDraught.mk (ApiCask.mk 0 0 0 0 0 0 0 0 (fun _ => 0) (fun _ => 0)) 0 (ApiSpan.mk 0 0)).Amount, .int .i64 (ApiDraught.mk (ApiCask.mk 0 0 0 0 0 0 0 0 (fun _ => 0) (fun _ => 0)) 0 (ApiSpan.mk 0 0)).Strength.Lo, .int .i64 (ApiDraught.mk (ApiCask.mk 0 0 0 0 0 0 0 0 (fun _ => 0) (fun _ => 0)) 0 (ApiSpan.mk 0 0)).Strength.Hi]) rfl Try.underlying22 Try.sizeOf40 Try.zeroValue40 rfl rfl rfl (by kernel_rfl) (by kernel_rfl) (fun b130 F_131 l_132 hb133 => ?_)
     have h134 : RepSl 27 (Ex cApiDraught) F_131 (some ⟨b130, 0, none⟩) 2 ([(ApiDraught.mk x63 x63.Amount (ApiSpan.mk 5000 6000)), (ApiDraught.mk x73 x73.Amount (ApiSpan.mk 5000 6000))]) := RepSl.ofRow hb133 (.cons ok_t40.mono rfl (.cons ok_t40.mono rfl .nil)) rfl rfl
     refine .build (cs := (cApiBatch (ApiBatch.mk ([(ApiDraught.mk x63 x63.Amount (ApiSpan.mk 5000 6000)), (ApiDraught.mk x73 x73.Amount (ApiSpan.mk 5000 6000))]) 0 (ApiSpan.mk 0 0) false false) (some ⟨b130, 0, none⟩) 2).toArray) rfl Try.underlying26 Try.zeroValue26 (plApiBatch _ Try.underlying26) rfl rfl (by kernel_rfl) ?_
     refine .alloc (cs := (cApiBatch (ApiBatch.mk ([]) 0 (ApiSpan.mk 0 0) false false) none 0)) rfl Try.zeroValue26 rfl (fun b135 => ?_)
     refine .store (cs' := (cApiBatch (ApiBatch.mk ([(ApiDraught.mk x63 x63.Amount (ApiSpan.mk 5000 6000)), (ApiDraught.mk x73 x73.Amount (ApiSpan.mk 5000 6000))]) 0 (ApiSpan.mk 0 0) false false) (some ⟨b130, 0, none⟩) 2)) Try.sizeOf26 rfl rfl rfl rfl (i := 0) rfl (Nat.le_of_ble_eq_true rfl) rfl (setMany_all (by rfl)) ?_
     refine .nil ?_
     refine .code ?_
     refine .seq ?_
     refine .region ?_
     refine .loadOA rfl Try.isAgg26 Try.sizeOf26 rfl (i := 0) rfl (vs := (cApiBatch (ApiBatch.mk ([(ApiDraught.mk x63 x63.Amount (ApiSpan.mk 5000 6000)), (ApiDraught.mk x73 x73.Amount (ApiSpan.mk 5000 6000))]) 0 (ApiSpan.mk 0 0) false false) (some ⟨b130, 0, none⟩) 2)) (by kernel_rfl) rfl ?_
     refine .call0 rfl Try.call7 rfl rfl rfl (c_bottle_Blend _ (ApiBatch.mk ([(ApiDraught.mk x63 x63.Amount (ApiSpan.mk 5000 6000)), (ApiDraught.mk x73 x73.Amount (ApiSpan.mk 5000 6000))]) 0 (ApiSpan.mk 0 0) false false) (some ⟨b130, 0, none⟩) 2 h134) ?_
     rintro r_138 F_136 _ - l_137 rfl
     refine .move rfl rfl ?_
     refine .extract rfl rfl rfl ?_
     refine .extract rfl rfl rfl ?_
     refine .alloc (cs := (cApiBottling (ApiBottling.mk (ApiSpan.mk 0 0) (ApiSpan.mk 0 0) 0 (fun _ => 0) (fun _ => 0) 0))) rfl Try.zeroValue33 rfl (fun b139 => ?_)
     refine .store (cs' := (cApiBottling r_138.1)) Try.sizeOf33 rfl rfl rfl rfl (i := 0) rfl (Nat.le_of_ble_eq_true rfl) rfl (setMany_all (by rfl)) ?_
     refine .assign rfl rfl ?_
     refine .nil ?_
     refine .keep (.cons (k := 0) rfl (.cons (k := 1) rfl (.cons (k := 10) rfl (.cons (k := 14) rfl (.cons (k := 15) rfl (.cons (k := 17) rfl (.cons (k := 18) rfl (.cons (k := 19) rfl (.nil _))))))))) ?_
     refine .code ?_
     refine .seq ?_
     refine .seq ?_
     refine .region ?_
     refine .move rfl rfl ?_
     refine .neq rfl rfl rfl ?_
     refine .nil ?_
     refine .code ?_
     refine .cond rfl (fun hb140 => ?_) (fun hb140 => ?_)
     ·skip
      refine .seq ?_
      refine .region ?_
      refine .assign rfl rfl ?_
      refine .nil ?_
      refine .code ?_
      exact .ret0 Try.results4 (.tmp rfl (.nil)) (i := 3) rfl (Fz.le_trans l_13 (Fz.le_trans l_21 (Fz.le_trans l_29 (Fz.le_trans l_39 (Fz.le_trans l_84 (Fz.le_trans l_113 (Fz.le_trans l_117 (Fz.le_trans l_121 (Fz.le_trans l_125 (Fz.le_trans l_132 l_137)))))))))) rfl
     ·skip
      refine .skip ?_
      refine .code ?_
      refine .seq ?_
      refine .seq ?_
      refine .region ?_
      refine .assign rfl rfl ?_
      refine .nil ?_
      refine .code ?_
      refine .block ?_
      refine .keep (.cons (k := 0) rfl (.cons (k := 1) rfl (.cons (k := 10) rfl (.cons (k := 14) rfl (.cons (k := 15) rfl (.cons (k := 17) rfl (.cons (k := 18) rfl (.cons (k := 20) rfl (.nil _))))))))) ?_
      refine .loop (fun (s141 : Int) a w => ∃ (F_142 : Fz), F_136 ≤ F_142 ∧ Hd 246 [] [(0, (.slice p2 l_1.length k3)), (1, (.int .i64 day5)), (10, (.int .i64 r_14.2.1)), (14, (.pointer (some ⟨(env62.n 80), 0, none⟩))), (15, (.pointer (some ⟨(env62.n 90), 0, none⟩))), (17, (.pointer (some ⟨b135, 0, none⟩))), (18, (.pointer (some ⟨b139, 0, none⟩))), (20, (.int .i64 s141))] F_142 [pt b139 (.cells (cApiBottling r_138.1).toArray 33), pt b135 (.cells (cApiBatch (ApiBatch.mk ([(ApiDraught.mk x63 x63.Amount (ApiSpan.mk 5000 6000)), (ApiDraught.mk x73 x73.Amount (ApiSpan.mk 5000 6000))]) 0 (ApiSpan.mk 0 0) false false) (some ⟨b130, 0, none⟩) 2).toArray 26), pt b109 (.cells (cApiSpan (ApiSpan.mk 5000 6000)).toArray 24), R, pt (env62.n 80) (.cells (cApiCask x63).toArray 38), pt (env62.n 90) (.cells (cApiCask x73).toArray 38)] a w) (fun b0 e a w => match b0 with | .inl b243 => e = .exit 0 ∧ ∃ (F_244 : Fz), F_136 ≤ F_244 ∧ Hd 246 [] [(0, (.slice p2 l_1.length k3)), (1, (.int .i64 day5)), (10, (.int .i64 r_14.2.1)), (14, (.pointer (some ⟨(env62.n 80), 0, none⟩))), (15, (.pointer (some ⟨(env62.n 90), 0, none⟩))), (18, (.pointer (some ⟨b139, 0, none⟩)))] F_244 [pt b139 (.cells (cApiBottling r_138.1).toArray 33), pt b135 (.cells (cApiBatch (ApiBatch.mk ([(ApiDraught.mk x63 x63.Amount (ApiSpan.mk 5000 6000)), (ApiDraught.mk x73 x73.Amount (ApiSpan.mk 5000 6000))]) 0 (ApiSpan.mk 0 0) false false) (some ⟨b130, 0, none⟩) 2).toArray 26), pt b109 (.cells (cApiSpan (ApiSpan.mk 5000 6000)).toArray 24), R, pt (env62.n 80) (.cells (cApiCask x63).toArray 38), pt (env62.n 90) (.cells (cApiCask x73).toArray 38)] a w | .inr b243 => e = .ret ∧ ∃ (F_246 : Fz), F_136 ≤ F_246 ∧ Hd 246 [] [(8, (.bool b243))] F_246 [R] a w) ?_ ?_ ?_
      ·exact fun a w h => ⟨F_136, (Fz.le_refl _), h.1.sub (.cons (k := 0) rfl (.cons (k := 1) rfl (.cons (k := 10) rfl (.cons (k := 14) rfl (.cons (k := 15) rfl (.cons (k := 17) rfl (.cons (k := 18) rfl (.cons (k := 20) rfl (.nil _))))))))), h.2⟩
      ·intro s141 ctl
       refine GC.ex (fun a w ⟨F_142, l_143, hA⟩ => ⟨_, hA, ?_⟩)
       unfold b_wormtubtop_TopVatted_1
       refine .seq ?_
       refine .seq ?_
       refine .region ?_
       refine .move rfl rfl ?_
       refine .lss rfl rfl rfl ?_
       refine .nil ?_
       refine .code ?_
       refine .cond rfl (fun hb144 => ?_) (fun hb144 => ?_)
       ·skip
        refine .skip ?_
        refine .code ?_
        refine .seq ?_
        refine .block ?_
        refine .seq ?_
        refine .region ?_
        refine .loadOA rfl Try.isAgg26 Try.sizeOf26 rfl (i := 1) rfl (vs := (cApiBatch (ApiBatch.mk ([(ApiDraught.mk x63 x63.Amount (ApiSpan.mk 5000 6000)), (ApiDraught.mk x73 x73.Amount (ApiSpan.mk 5000 6000))]) 0 (ApiSpan.mk 0 0) false false) (some ⟨b130, 0, none⟩) 2)) (by kernel_rfl) rfl ?_
        refine .alloc (cs := (cApiBatch (ApiBatch.mk ([]) 0 (ApiSpan.mk 0 0) false false) none 0)) rfl Try.zeroValue26 rfl (fun b145 => ?_)
        refine .store (cs' := (cApiBatch (ApiBatch.mk ([(ApiDraught.mk x63 x63.Amount (ApiSpan.mk 5000 6000)), (ApiDraught.mk x73 x73.Amount (ApiSpan.mk 5000 6000))]) 0 (ApiSpan.mk 0 0) false false) (some ⟨b130, 0, none⟩) 2)) Try.sizeOf26 rfl rfl rfl rfl (i := 0) rfl (Nat.le_of_ble_eq_true rfl) rfl (setMany_all (by rfl)) ?_
        refine .nil ?_
        refine .code ?_
        refine .seq ?_
        refine .region ?_
        refine .fieldAddr rfl Try.underlying26 rfl Try.sizeOf22 rfl ?_
        refine .loadO rfl Try.isAgg22 rfl (i := 2) rfl rfl ?_
        refine .move rfl rfl ?_
        refine .move rfl rfl ?_
        refine .add rfl rfl rfl ?_
        refine .sliceLoHi rfl Try.underlying22 Try.sizeOf40 (h134.mono (Fz.le_trans l_137 l_143)) rfl rfl rfl (fun l_146 p147 k148 e149 h150 => ?_)
        refine .fieldAddr rfl Try.underlying26 rfl Try.sizeOf22 rfl ?_
        refine .letv (fun x151 e152 => ?_)
        have h153 : RepSl 27 (Ex cApiDraught) F_142 p147 k148 x151.Draughts := by rw [e152]; exact h150
        refine .store (cs' := (cApiBatch x151 p147 k148)) Try.sizeOf22 rfl rfl rfl rfl (i := 0) rfl (Nat.le_of_ble_eq_true rfl) rfl (by rw [e152]; kernel_rfl) ?_
        refine .nil ?_
        refine .code ?_
        refine .seq ?_
        refine .region ?_
        refine .loadOA rfl Try.isAgg26 Try.sizeOf26 rfl (i := 0) rfl (vs := (cApiBatch x151 p147 k148)) (by kernel_rfl) rfl ?_
        refine .call0 rfl Try.call7 rfl rfl rfl (c_bottle_Blend _ x151 p147 k148 h153) ?_
        rintro r_156 F_154 _ - l_155 rfl
        refine .move rfl rfl ?_
        refine .extract rfl rfl rfl ?_
        refine .extract rfl rfl rfl ?_
        refine .alloc (cs := (cApiBottling (ApiBottling.mk (ApiSpan.mk 0 0) (ApiSpan.mk 0 0) 0 (fun _ => 0) (fun _ => 0) 0))) rfl Try.zeroValue33 rfl (fun b157 => ?_)
        refine .store (cs' := (cApiBottling r_156.1)) Try.sizeOf33 rfl rfl rfl rfl (i := 0) rfl (Nat.le_of_ble_eq_true rfl) rfl (setMany_all (by rfl)) ?_
        refine .assign rfl rfl ?_
        refine .nil ?_
        refine .keep (.cons (k := 0) rfl (.cons (k := 1) rfl (.cons (k := 10) rfl (.cons (k := 14) rfl (.cons (k := 15) rfl (.cons (k := 17) rfl (.cons (k := 18) rfl (.cons (k := 20) rfl (.cons (k := 22) rfl (.cons (k := 23) rfl (.nil _))))))))))) ?_
        refine .code ?_
        refine .seq ?_
        refine .seq ?_
        refine .region ?_
        refine .move rfl rfl ?_
        refine .neq rfl rfl rfl ?_
        refine .move rfl rfl ?_
        refine .orP (b := (r_156.2 != 0)) (b' := (decide (r_138.1.Age > r_156.1.Age))) 6 143 (fun hb158 => ?_) (fun hb159 => ?_) (fun F_160 l_161 => ?_)
        ·skip
         refine .onH hb158 rfl rfl ?_
         refine .fieldAddr rfl Try.underlying33 rfl Try.sizeOf3 rfl ?_
         refine .onH hb158 rfl rfl ?_
         refine .loadO rfl Try.isAgg3 rfl (i := 2) rfl rfl ?_
         refine .onH hb158 rfl rfl ?_
         refine .fieldAddr rfl Try.underlying33 rfl Try.sizeOf3 rfl ?_
         refine .onH hb158 rfl rfl ?_
         refine .loadO rfl Try.isAgg3 rfl (i := 0) rfl rfl ?_
         refine .onH hb158 rfl rfl ?_
         refine .gtr rfl rfl rfl ?_
         refine .pickFH hb158 rfl rfl rfl ?_
         exact .fin 6 rfl rfl (by kernel_rfl) (Fz.le_refl _)
        ·skip
         refine .offH hb159 rfl rfl rfl ?_
         refine .offH hb159 rfl rfl rfl ?_
         refine .offH hb159 rfl rfl rfl ?_
         refine .offH hb159 rfl rfl rfl ?_
         refine .offH hb159 rfl rfl rfl ?_
         refine .pickTH hb159 rfl rfl rfl ?_
         exact .fin 6 rfl rfl (by kernel_rfl) (Fz.le_refl _)
        refine .move rfl rfl ?_
        refine .orP (b := ((r_156.2 != 0) || (decide (r_138.1.Age > r_156.1.Age)))) (b' := (r_138.1.Casks != 2)) 4 148 (fun hb162 => ?_) (fun hb163 => ?_) (fun F_164 l_165 => ?_)
        ·skip
         refine .onH hb162 rfl rfl ?_
         refine .fieldAddr rfl Try.underlying33 rfl Try.sizeOf3 rfl ?_
         refine .onH hb162 rfl rfl ?_
         refine .loadO rfl Try.isAgg3 rfl (i := 2) rfl rfl ?_
         refine .onH hb162 rfl rfl ?_
         refine .neq rfl rfl rfl ?_
         refine .pickFH hb162 rfl rfl rfl ?_
         exact .fin 4 rfl rfl (by kernel_rfl) (Fz.le_refl _)
        ·skip
         refine .offH hb163 rfl rfl rfl ?_
         refine .offH hb163 rfl rfl rfl ?_
         refine .offH hb163 rfl rfl rfl ?_
         refine .pickTH hb163 rfl rfl rfl ?_
         exact .fin 4 rfl rfl (by kernel_rfl) (Fz.le_refl _)
        refine .move rfl rfl ?_
        refine .orP (b := (((r_156.2 != 0) || (decide (r_138.1.Age > r_156.1.Age))) || (r_138.1.Casks != 2))) (b' := (r_156.1.Casks != 1)) 4 153 (fun hb166 => ?_) (fun hb167 => ?_) (fun F_168 l_169 => ?_)
        ·skip
         refine .onH hb166 rfl rfl ?_
         refine .fieldAddr rfl Try.underlying33 rfl Try.sizeOf3 rfl ?_
         refine .onH hb166 rfl rfl ?_
         refine .loadO rfl Try.isAgg3 rfl (i := 0) rfl rfl ?_
         refine .onH hb166 rfl rfl ?_
         refine .neq rfl rfl rfl ?_
         refine .pickFH hb166 rfl rfl rfl ?_
         exact .fin 4 rfl rfl (by kernel_rfl) (Fz.le_refl _)
        ·skip
         refine .offH hb167 rfl rfl rfl ?_
         refine .offH hb167 rfl rfl rfl ?_
         refine .offH hb167 rfl rfl rfl ?_
         refine .pickTH hb167 rfl rfl rfl ?_
         exact .fin 4 rfl rfl (by kernel_rfl) (Fz.le_refl _)
        refine .nil ?_
        refine .code ?_
        refine .cond rfl (fun hb170 => ?_) (fun hb170 => ?_)
        ·skip
         refine .seq ?_
         refine .region ?_
         refine .assign rfl rfl ?_
         refine .nil ?_
         refine .code ?_
         refine .drop 7 ?_
         refine .drop 6 ?_
         refine .drop 4 ?_
         refine .drop 3 ?_
         refine .drop 2 ?_
         refine .drop 1 ?_
         refine .drop 0 ?_
         refine .retQ (LPost.ret fun a w h => ⟨rfl, F_168, (Fz.le_trans l_143 (Fz.le_trans l_155 (Fz.le_trans l_161 (Fz.le_trans l_165 l_169)))), h.1.sub (.cons (k := 8) rfl (.nil _)), h.2⟩)
        ·skip
         refine .skip ?_
         refine .code ?_
         refine .seq ?_
         refine .seq ?_
         refine .region ?_
         refine .assign rfl rfl ?_
         refine .nil ?_
         refine .code ?_
         refine .block ?_
         refine .keep (.cons (k := 0) rfl (.cons (k := 1) rfl (.cons (k := 10) rfl (.cons (k := 14) rfl (.cons (k := 15) rfl (.cons (k := 17) rfl (.cons (k := 18) rfl (.cons (k := 20) rfl (.cons (k := 22) rfl (.cons (k := 24) rfl (.nil _))))))))))) ?_
         refine .loop (fun (s171 : Int) a w => ∃ (F_172 : Fz), F_168 ≤ F_172 ∧ Hd 246 [] [(0, (.slice p2 l_1.length k3)), (1, (.int .i64 day5)), (10, (.int .i64 r_14.2.1)), (14, (.pointer (some ⟨(env62.n 80), 0, none⟩))), (15, (.pointer (some ⟨(env62.n 90), 0, none⟩))), (17, (.pointer (some ⟨b135, 0, none⟩))), (18, (.pointer (some ⟨b139, 0, none⟩))), (20, (.int .i64 s141)), (22, (.pointer (some ⟨b157, 0, none⟩))), (24, (.int .i64 s171))] F_172 [pt b157 (.cells (cApiBottling r_156.1).toArray 33), pt b145 (.cells (cApiBatch x151 p147 k148).toArray 26), pt b139 (.cells (cApiBottling r_138.1).toArray 33), pt b135 (.cells (cApiBatch (ApiBatch.mk ([(ApiDraught.mk x63 x63.Amount (ApiSpan.mk 5000 6000)), (ApiDraught.mk x73 x73.Amount (ApiSpan.mk 5000 6000))]) 0 (ApiSpan.mk 0 0) false false) (some ⟨b130, 0, none⟩) 2).toArray 26), pt b109 (.cells (cApiSpan (ApiSpan.mk 5000 6000)).toArray 24), R, pt (env62.n 80) (.cells (cApiCask x63).toArray 38), pt (env62.n 90) (.cells (cApiCask x73).toArray 38)] a w) (fun b0 e a w => match b0 with | .inl b201 => e = .exit 2 ∧ ∃ (F_202 : Fz), F_168 ≤ F_202 ∧ Hd 246 [] [(0, (.slice p2 l_1.length k3)), (1, (.int .i64 day5)), (10, (.int .i64 r_14.2.1)), (14, (.pointer (some ⟨(env62.n 80), 0, none⟩))), (15, (.pointer (some ⟨(env62.n 90), 0, none⟩))), (17, (.pointer (some ⟨b135, 0, none⟩))), (18, (.pointer (some ⟨b139, 0, none⟩))), (20, (.int .i64 s141)), (22, (.pointer (some ⟨b157, 0, none⟩)))] F_202 [pt b157 (.cells (cApiBottling r_156.1).toArray 33), pt b145 (.cells (cApiBatch x151 p147 k148).toArray 26), pt b139 (.cells (cApiBottling r_138.1).toArray 33), pt b135 (.cells (cApiBatch (ApiBatch.mk ([(ApiDraught.mk x63 x63.Amount (ApiSpan.mk 5000 6000)), (ApiDraught.mk x73 x73.Amount (ApiSpan.mk 5000 6000))]) 0 (ApiSpan.mk 0 0) false false) (some ⟨b130, 0, none⟩) 2).toArray 26), pt b109 (.cells (cApiSpan (ApiSpan.mk 5000 6000)).toArray 24), R, pt (env62.n 80) (.cells (cApiCask x63).toArray 38), pt (env62.n 90) (.cells (cApiCask x73).toArray 38)] a w | .inr b201 => e = .ret ∧ ∃ (F_204 : Fz), F_168 ≤ F_204 ∧ Hd 246 [] [(8, (.bool b201))] F_204 [R] a w) ?_ ?_ ?_
         ·exact fun a w h => ⟨F_168, (Fz.le_refl _), h.1.sub (.cons (k := 0) rfl (.cons (k := 1) rfl (.cons (k := 10) rfl (.cons (k := 14) rfl (.cons (k := 15) rfl (.cons (k := 17) rfl (.cons (k := 18) rfl (.cons (k := 20) rfl (.cons (k := 22) rfl (.cons (k := 24) rfl (.nil _))))))))))), h.2⟩
         ·intro s171 ctl
          refine GC.ex (fun a w ⟨F_172, l_173, hA⟩ => ⟨_, hA, ?_⟩)
          unfold b_wormtubtop_TopVatted_2
          refine .seq ?_
          refine .seq ?_
          refine .region ?_
          refine .move rfl rfl ?_
          refine .lss rfl rfl rfl ?_
          refine .nil ?_
          refine .code ?_
          refine .cond rfl (fun hb174 => ?_) (fun hb174 => ?_)
          ·skip
           refine .skip ?_
           refine .code ?_
           refine .seq ?_
           refine .block ?_
           refine .seq ?_
           refine .keep (.cons (k := 0) rfl (.cons (k := 1) rfl (.cons (k := 10) rfl (.cons (k := 14) rfl (.cons (k := 15) rfl (.cons (k := 17) rfl (.cons (k := 18) rfl (.cons (k := 20) rfl (.cons (k := 22) rfl (.cons (k := 24) rfl (.nil _))))))))))) ?_
           refine .bind (fun j176 hj177 => ?_)
           refine .bind (fun j178 hj179 => ?_)
           refine .drawGD 8 0 (fun env175 => [((.int .i64 s171), fun _ => True), ((.pointer (some ⟨b139, 0 + 5, none⟩)), fun _ => True), ((.pointer (some ⟨b139, 0 + 5 + j176 * 1, none⟩)), fun _ => True), ((.int .i64 (r_138.1.Woods j176)), fun _ => True), ((.int .i64 s171), fun _ => True), ((.pointer (some ⟨b157, 0 + 5, none⟩)), fun _ => True), ((.pointer (some ⟨b157, 0 + 5 + j178 * 1, none⟩)), fun _ => True), ((.int .i64 (r_156.1.Woods j178)), fun _ => True)]) (fun L env175 => [pt b157 (.cells (cApiBottling r_156.1).toArray 33), pt b145 (.cells (cApiBatch x151 p147 k148).toArray 26), pt b139 (.cells (cApiBottling r_138.1).toArray 33), pt b135 (.cells (cApiBatch (ApiBatch.mk ([(ApiDraught.mk x63 x63.Amount (ApiSpan.mk 5000 6000)), (ApiDraught.mk x73 x73.Amount (ApiSpan.mk 5000 6000))]) 0 (ApiSpan.mk 0 0) false false) (some ⟨b130, 0, none⟩) 2).toArray 26), pt b109 (.cells (cApiSpan (ApiSpan.mk 5000 6000)).toArray 24), R, pt (env62.n 80) (.cells (cApiCask x63).toArray 38), pt (env62.n 90) (.cells (cApiCask x73).toArray 38)]) mixedOK (by kernel_rfl) (deepN (k := 8) (n := 9) rfl (allLt9 (p := fun t => 8 ≤ t → ∀ j, j < t → ∃ s, depB _ s t j = true) (fun h => absurd h (by decide)) (fun h => absurd h (by decide)) (fun h => absurd h (by decide)) (fun h => absurd h (by decide)) (fun h => absurd h (by decide)) (fun h => absurd h (by decide)) (fun h => absurd h (by decide)) (fun h => absurd h (by decide)) (fun _ => allLt8 (p := fun j => ∃ s, depB _ s 8 j = true) ⟨3, rfl⟩ ⟨3, rfl⟩ ⟨2, rfl⟩ ⟨1, rfl⟩ ⟨3, rfl⟩ ⟨3, rfl⟩ ⟨2, rfl⟩ ⟨1, rfl⟩))) rfl (fun _ => rfl) (by kernel_rfl) (fun _ => rfl) ?_ (fun env175 F_180 l_181 hphi => ?_)
           ·skip
            refine .cons (fun L env175 F_182 l_183 hL hdn hup hphi => ⟨[(24, (.int .i64 s171))], fun S hS hV => (.cons (hS _ _ rfl) (Sub.nil _)), ?_⟩) ?_
            ·skip
             refine .move rfl rfl ?_
             exact .finV rfl rfl (Fz.le_refl _)
            refine .cons (fun L env175 F_184 l_185 hL hdn hup hphi => ⟨[(18, (.pointer (some ⟨b139, 0, none⟩)))], fun S hS hV => (.cons (hS _ _ rfl) (Sub.nil _)), ?_⟩) ?_
            ·skip
             refine .fieldAddr rfl Try.underlying33 rfl Try.sizeOf31 rfl ?_
             exact .finV rfl rfl (Fz.le_refl _)
            refine .cons (fun L env175 F_186 l_187 hL hdn hup hphi => ⟨[(158, (.int .i64 s171)), (159, (.pointer (some ⟨b139, 0 + 5, none⟩)))], fun S hS hV => (.cons (hV 0 158 _ (hdn 1 0 rfl) rfl rfl) (.cons (hV 1 159 _ (hdn 1 1 rfl) rfl rfl) (Sub.nil _))), ?_⟩) ?_
            ·skip
             refine .indexAddrA rfl Try.underlying31 Try.sizeOf3 rfl rfl hj177 ?_
             exact .finV rfl rfl (Fz.le_refl _)
            refine .cons (fun L env175 F_188 l_189 hL hdn hup hphi => ⟨[(160, (.pointer (some ⟨b139, 0 + 5 + j176 * 1, none⟩)))], fun S hS hV => (.cons (hV 2 160 _ (hdn 1 2 rfl) rfl rfl) (Sub.nil _)), ?_⟩) ?_
            ·skip
             refine .loadO rfl Try.isAgg3 rfl (i := 2) rfl (allLt8 (p := fun j176 => ((cApiBottling r_138.1))[0 + 5 + j176 * 1]? = some (.int .i64 (r_138.1.Woods j176))) rfl rfl rfl rfl rfl rfl rfl rfl _ (idxO_some hj177).2.2.2) ?_
             exact .finV rfl rfl (Fz.le_refl _)
            refine .cons (fun L env175 F_190 l_191 hL hdn hup hphi => ⟨[(24, (.int .i64 s171))], fun S hS hV => (.cons (hS _ _ rfl) (Sub.nil _)), ?_⟩) ?_
            ·skip
             refine .move rfl rfl ?_
             exact .finV rfl rfl (Fz.le_refl _)
            refine .cons (fun L env175 F_192 l_193 hL hdn hup hphi => ⟨[(22, (.pointer (some ⟨b157, 0, none⟩)))], fun S hS hV => (.cons (hS _ _ rfl) (Sub.nil _)), ?_⟩) ?_
            ·skip
             refine .fieldAddr rfl Try.underlying33 rfl Try.sizeOf31 rfl ?_
             exact .finV rfl rfl (Fz.le_refl _)
            refine .cons (fun L env175 F_194 l_195 hL hdn hup hphi => ⟨[(162, (.int .i64 s171)), (163, (.pointer (some ⟨b157, 0 + 5, none⟩)))], fun S hS hV => (.cons (hV 4 162 _ (hdn 1 4 rfl) rfl rfl) (.cons (hV 5 163 _ (hdn 1 5 rfl) rfl rfl) (Sub.nil _))), ?_⟩) ?_
            ·skip
             refine .indexAddrA rfl Try.underlying31 Try.sizeOf3 rfl rfl hj179 ?_
             exact .finV rfl rfl (Fz.le_refl _)
            refine .cons (fun L env175 F_196 l_197 hL hdn hup hphi => ⟨[(164, (.pointer (some ⟨b157, 0 + 5 + j178 * 1, none⟩)))], fun S hS hV => (.cons (hV 6 164 _ (hdn 1 6 rfl) rfl rfl) (Sub.nil _)), ?_⟩) ?_
            ·skip
             refine .loadO rfl Try.isAgg3 rfl (i := 0) rfl (allLt8 (p := fun j178 => ((cApiBottling r_156.1))[0 + 5 + j178 * 1]? = some (.int .i64 (r_156.1.Woods j178))) rfl rfl rfl rfl rfl rfl rfl rfl _ (idxO_some hj179).2.2.2) ?_
             exact .finV rfl rfl (Fz.le_refl _)
            exact .nil
           refine .norm (S' := [(0, (.slice p2 l_1.length k3)), (1, (.int .i64 day5)), (10, (.int .i64 r_14.2.1)), (14, (.pointer (some ⟨(env62.n 80), 0, none⟩))), (15, (.pointer (some ⟨(env62.n 90), 0, none⟩))), (17, (.pointer (some ⟨b135, 0, none⟩))), (18, (.pointer (some ⟨b139, 0, none⟩))), (20, (.int .i64 s141)), (22, (.pointer (some ⟨b157, 0, none⟩))), (24, (.int .i64 s171)), (158, (.int .i64 s171)), (159, (.pointer (some ⟨b139, 0 + 5, none⟩))), (160, (.pointer (some ⟨b139, 0 + 5 + j176 * 1, none⟩))), (161, (.int .i64 (r_138.1.Woods j176))), (162, (.int .i64 s171)), (163, (.pointer (some ⟨b157, 0 + 5, none⟩))), (164, (.pointer (some ⟨b157, 0 + 5 + j178 * 1, none⟩))), (165, (.int .i64 (r_156.1.Woods j178)))]) (.cons (k := 0) rfl (.cons (k := 1) rfl (.cons (k := 10) rfl (.cons (k := 14) rfl (.cons (k := 15) rfl (.cons (k := 17) rfl (.cons (k := 18) rfl (.cons (k := 20) rfl (.cons (k := 22) rfl (.cons (k := 24) rfl (.cons (k := 158) rfl (.cons (k := 159) rfl (.cons (k := 160) rfl (.cons (k := 161) rfl (.cons (k := 162) rfl (.cons (k := 163) rfl (.cons (k := 164) rfl (.cons (k := 165) rfl (.nil _))))))))))))))))))) (rfl : _ = [pt b157 (.cells (cApiBottling r_156.1).toArray 33), pt b145 (.cells (cApiBatch x151 p147 k148).toArray 26), pt b139 (.cells (cApiBottling r_138.1).toArray 33), pt b135 (.cells (cApiBatch (ApiBatch.mk ([(ApiDraught.mk x63 x63.Amount (ApiSpan.mk 5000 6000)), (ApiDraught.mk x73 x73.Amount (ApiSpan.mk 5000 6000))]) 0 (ApiSpan.mk 0 0) false false) (some ⟨b130, 0, none⟩) 2).toArray 26), pt b109 (.cells (cApiSpan (ApiSpan.mk 5000 6000)).toArray 24), R, pt (env62.n 80) (.cells (cApiCask x63).toArray 38), pt (env62.n 90) (.cells (cApiCask x73).toArray 38)]) ?_
           refine .gtr rfl rfl rfl ?_
           refine .nil ?_
           refine .code ?_
           refine .cond rfl (fun hb198 => ?_) (fun hb198 => ?_)
           ·skip
            refine .seq ?_
            refine .region ?_
            refine .assign rfl rfl ?_
            refine .nil ?_
            refine .code ?_
            refine .drop 7 ?_
            refine .drop 6 ?_
            refine .drop 4 ?_
            refine .drop 3 ?_
            refine .drop 2 ?_
            refine .drop 1 ?_
            refine .drop 0 ?_
            refine .retQ (LPost.ret fun a w h => ⟨rfl, F_180, (Fz.le_trans l_173 l_181), h.1.sub (.cons (k := 8) rfl (.nil _)), h.2⟩)
           ·skip
            refine .skip ?_
            refine .block ?_
            refine .code ?_
            refine .region ?_
            refine .move rfl rfl ?_
            refine .add rfl rfl rfl ?_
            refine .assignL rfl rfl (fun w199 e200 => ?_)
            refine .nil ?_
            exact .nil (LPost.norm fun a w h => ⟨F_180, (Fz.le_trans l_173 l_181), h.1.sub (.cons (k := 0) rfl (.cons (k := 1) rfl (.cons (k := 10) rfl (.cons (k := 14) rfl (.cons (k := 15) rfl (.cons (k := 17) rfl (.cons (k := 18) rfl (.cons (k := 20) rfl (.cons (k := 22) rfl (.cons (k := 24) rfl (.nil _))))))))))), h.2⟩)
          ·skip
           refine .exitOut rfl (LPost.exit fun a w h => ⟨rfl, F_172, l_173, h.1.sub (.cons (k := 0) rfl (.cons (k := 1) rfl (.cons (k := 10) rfl (.cons (k := 14) rfl (.cons (k := 15) rfl (.cons (k := 17) rfl (.cons (k := 18) rfl (.cons (k := 20) rfl (.cons (k := 22) rfl (.nil _)))))))))), h.2⟩)
         ·intro b201 hb0 hk e a w hD
          rcases b201 with b201 | b201
          ·skip
           obtain ⟨rfl, F_202, l_203, hA⟩ := hD
           refine interp_exit rfl (GE.app ?_ hk a w hA)
           refine .code ?_
           refine .seq ?_
           refine .region ?_
           refine .assign rfl rfl ?_
           refine .nil ?_
           refine .code ?_
           refine .block ?_
           refine .keep (.cons (k := 0) rfl (.cons (k := 1) rfl (.cons (k := 10) rfl (.cons (k := 14) rfl (.cons (k := 15) rfl (.cons (k := 17) rfl (.cons (k := 18) rfl (.cons (k := 20) rfl (.cons (k := 22) rfl (.cons (k := 25) rfl (.nil _))))))))))) ?_
           refine .loop (fun (s206 : Int) a w => ∃ (F_207 : Fz), F_202 ≤ F_207 ∧ Hd 246 [] [(0, (.slice p2 l_1.length k3)), (1, (.int .i64 day5)), (10, (.int .i64 r_14.2.1)), (14, (.pointer (some ⟨(env62.n 80), 0, none⟩))), (15, (.pointer (some ⟨(env62.n 90), 0, none⟩))), (17, (.pointer (some ⟨b135, 0, none⟩))), (18, (.pointer (some ⟨b139, 0, none⟩))), (20, (.int .i64 s141)), (22, (.pointer (some ⟨b157, 0, none⟩))), (25, (.int .i64 s206))] F_207 [pt b157 (.cells (cApiBottling r_156.1).toArray 33), pt b145 (.cells (cApiBatch x151 p147 k148).toArray 26), pt b139 (.cells (cApiBottling r_138.1).toArray 33), pt b135 (.cells (cApiBatch (ApiBatch.mk ([(ApiDraught.mk x63 x63.Amount (ApiSpan.mk 5000 6000)), (ApiDraught.mk x73 x73.Amount (ApiSpan.mk 5000 6000))]) 0 (ApiSpan.mk 0 0) false false) (some ⟨b130, 0, none⟩) 2).toArray 26), pt b109 (.cells (cApiSpan (ApiSpan.mk 5000 6000)).toArray 24), R, pt (env62.n 80) (.cells (cApiCask x63).toArray 38), pt (env62.n 90) (.cells (cApiCask x73).toArray 38)] a w) (fun b0 e a w => match b0 with | .inl b236 => e = .exit 4 ∧ ∃ (F_237 : Fz), F_202 ≤ F_237 ∧ Hd 246 [] [(0, (.slice p2 l_1.length k3)), (1, (.int .i64 day5)), (10, (.int .i64 r_14.2.1)), (14, (.pointer (some ⟨(env62.n 80), 0, none⟩))), (15, (.pointer (some ⟨(env62.n 90), 0, none⟩))), (17, (.pointer (some ⟨b135, 0, none⟩))), (18, (.pointer (some ⟨b139, 0, none⟩))), (20, (.int .i64 s141))] F_237 [pt b157 (.cells (cApiBottling r_156.1).toArray 33), pt b145 (.cells (cApiBatch x151 p147 k148).toArray 26), pt b139 (.cells (cApiBottling r_138.1).toArray 33), pt b135 (.cells (cApiBatch (ApiBatch.mk ([(ApiDraught.mk x63 x63.Amount (ApiSpan.mk 5000 6000)), (ApiDraught.mk x73 x73.Amount (ApiSpan.mk 5000 6000))]) 0 (ApiSpan.mk 0 0) false false) (some ⟨b130, 0, none⟩) 2).toArray 26), pt b109 (.cells (cApiSpan (ApiSpan.mk 5000 6000)).toArray 24), R, pt (env62.n 80) (.cells (cApiCask x63).toArray 38), pt (env62.n 90) (.cells (cApiCask x73).toArray 38)] a w | .inr b236 => e = .ret ∧ ∃ (F_239 : Fz), F_202 ≤ F_239 ∧ Hd 246 [] [(8, (.bool b236))] F_239 [R] a w) ?_ ?_ ?_
           ·exact fun a w h => ⟨F_202, (Fz.le_refl _), h.1.sub (.cons (k := 0) rfl (.cons (k := 1) rfl (.cons (k := 10) rfl (.cons (k := 14) rfl (.cons (k := 15) rfl (.cons (k := 17) rfl (.cons (k := 18) rfl (.cons (k := 20) rfl (.cons (k := 22) rfl (.cons (k := 25) rfl (.nil _))))))))))), h.2⟩
           ·intro s206 ctl
            refine GC.ex (fun a w ⟨F_207, l_208, hA⟩ => ⟨_, hA, ?_⟩)
            unfold b_wormtubtop_TopVatted_3
            refine .seq ?_
            refine .seq ?_
            refine .region ?_
            refine .move rfl rfl ?_
            refine .lss rfl rfl rfl ?_
            refine .nil ?_
            refine .code ?_
            refine .cond rfl (fun hb209 => ?_) (fun hb209 => ?_)
            ·skip
             refine .skip ?_
             refine .code ?_
             refine .seq ?_
             refine .block ?_
             refine .seq ?_
             refine .keep (.cons (k := 0) rfl (.cons (k := 1) rfl (.cons (k := 10) rfl (.cons (k := 14) rfl (.cons (k := 15) rfl (.cons (k := 17) rfl (.cons (k := 18) rfl (.cons (k := 20) rfl (.cons (k := 22) rfl (.cons (k := 25) rfl (.nil _))))))))))) ?_
             refine .bind (fun j211 hj212 => ?_)
             refine .bind (fun j213 hj214 => ?_)
             refine .drawGD 8 0 (fun env210 => [((.int .i64 s206), fun _ => True), ((.pointer (some ⟨b139, 0 + 13, none⟩)), fun _ => True), ((.pointer (some ⟨b139, 0 + 13 + j211 * 1, none⟩)), fun _ => True), ((.int .i64 (r_138.1.Places j211)), fun _ => True), ((.int .i64 s206), fun _ => True), ((.pointer (some ⟨b157, 0 + 13, none⟩)), fun _ => True), ((.pointer (some ⟨b157, 0 + 13 + j213 * 1, none⟩)), fun _ => True), ((.int .i64 (r_156.1.Places j213)), fun _ => True)]) (fun L env210 => [pt b157 (.cells (cApiBottling r_156.1).toArray 33), pt b145 (.cells (cApiBatch x151 p147 k148).toArray 26), pt b139 (.cells (cApiBottling r_138.1).toArray 33), pt b135 (.cells (cApiBatch (ApiBatch.mk ([(ApiDraught.mk x63 x63.Amount (ApiSpan.mk 5000 6000)), (ApiDraught.mk x73 x73.Amount (ApiSpan.mk 5000 6000))]) 0 (ApiSpan.mk 0 0) false false) (some ⟨b130, 0, none⟩) 2).toArray 26), pt b109 (.cells (cApiSpan (ApiSpan.mk 5000 6000)).toArray 24), R, pt (env62.n 80) (.cells (cApiCask x63).toArray 38), pt (env62.n 90) (.cells (cApiCask x73).toArray 38)]) mixedOK (by kernel_rfl) (deepN (k := 8) (n := 9) rfl (allLt9 (p := fun t => 8 ≤ t → ∀ j, j < t → ∃ s, depB _ s t j = true) (fun h => absurd h (by decide)) (fun h => absurd h (by decide)) (fun h => absurd h (by decide)) (fun h => absurd h (by decide)) (fun h => absurd h (by decide)) (fun h => absurd h (by decide)) (fun h => absurd h (by decide)) (fun h => absurd h (by decide)) (fun _ => allLt8 (p := fun j => ∃ s, depB _ s 8 j = true) ⟨3, rfl⟩ ⟨3, rfl⟩ ⟨2, rfl⟩ ⟨1, rfl⟩ ⟨3, rfl⟩ ⟨3, rfl⟩ ⟨2, rfl⟩ ⟨1, rfl⟩))) rfl (fun _ => rfl) (by kernel_rfl) (fun _ => rfl) ?_ (fun env210 F_215 l_216 hphi => ?_)
             ·skip
              refine .cons (fun L env210 F_217 l_218 hL hdn hup hphi => ⟨[(25, (.int .i64 s206))], fun S hS hV => (.cons (hS _ _ rfl) (Sub.nil _)), ?_⟩) ?_
              ·skip
               refine .move rfl rfl ?_
               exact .finV rfl rfl (Fz.le_refl _)
              refine .cons (fun L env210 F_219 l_220 hL hdn hup hphi => ⟨[(18, (.pointer (some ⟨b139, 0, none⟩)))], fun S hS hV => (.cons (hS _ _ rfl) (Sub.nil _)), ?_⟩) ?_
              ·skip
               refine .fieldAddr rfl Try.underlying33 rfl Try.sizeOf31 rfl ?_
               exact .finV rfl rfl (Fz.le_refl _)
              refine .cons (fun L env210 F_221 l_222 hL hdn hup hphi => ⟨[(171, (.int .i64 s206)), (172, (.pointer (some ⟨b139, 0 + 13, none⟩)))], fun S hS hV => (.cons (hV 0 171 _ (hdn 1 0 rfl) rfl rfl) (.cons (hV 1 172 _ (hdn 1 1 rfl) rfl rfl) (Sub.nil _))), ?_⟩) ?_
              ·skip
               refine .indexAddrA rfl Try.underlying31 Try.sizeOf3 rfl rfl hj212 ?_
               exact .finV rfl rfl (Fz.le_refl _)
              refine .cons (fun L env210 F_223 l_224 hL hdn hup hphi => ⟨[(173, (.pointer (some ⟨b139, 0 + 13 + j211 * 1, none⟩)))], fun S hS hV => (.cons (hV 2 173 _ (hdn 1 2 rfl) rfl rfl) (Sub.nil _)), ?_⟩) ?_
              ·skip
               refine .loadO rfl Try.isAgg3 rfl (i := 2) rfl (allLt8 (p := fun j211 => ((cApiBottling r_138.1))[0 + 13 + j211 * 1]? = some (.int .i64 (r_138.1.Places j211))) rfl rfl rfl rfl rfl rfl rfl rfl _ (idxO_some hj212).2.2.2) ?_
               exact .finV rfl rfl (Fz.le_refl _)
              refine .cons (fun L env210 F_225 l_226 hL hdn hup hphi => ⟨[(25, (.int .i64 s206))], fun S hS hV => (.cons (hS _ _ rfl) (Sub.nil _)), ?_⟩) ?_
              ·skip
               refine .move rfl rfl ?_
               exact .finV rfl rfl (Fz.le_refl _)
              refine .cons (fun L env210 F_227 l_228 hL hdn hup hphi => ⟨[(22, (.pointer (some ⟨b157, 0, none⟩)))], fun S hS hV => (.cons (hS _ _ rfl) (Sub.nil _)), ?_⟩) ?_
              ·skip
               refine .fieldAddr rfl Try.underlying33 rfl Try.sizeOf31 rfl ?_
               exact .finV rfl rfl (Fz.le_refl _)
              refine .cons (fun L env210 F_229 l_230 hL hdn hup hphi => ⟨[(175, (.int .i64 s206)), (176, (.pointer (some ⟨b157, 0 + 13, none⟩)))], fun S hS hV => (.cons (hV 4 175 _ (hdn 1 4 rfl) rfl rfl) (.cons (hV 5 176 _ (hdn 1 5 rfl) rfl rfl) (Sub.nil _))), ?_⟩) ?_
              ·skip
               refine .indexAddrA rfl Try.underlying31 Try.sizeOf3 rfl rfl hj214 ?_
               exact .finV rfl rfl (Fz.le_refl _)
              refine .cons (fun L env210 F_231 l_232 hL hdn hup hphi => ⟨[(177, (.pointer (some ⟨b157, 0 + 13 + j213 * 1, none⟩)))], fun S hS hV => (.cons (hV 6 177 _ (hdn 1 6 rfl) rfl rfl) (Sub.nil _)), ?_⟩) ?_
              ·skip
               refine .loadO rfl Try.isAgg3 rfl (i := 0) rfl (allLt8 (p := fun j213 => ((cApiBottling r_156.1))[0 + 13 + j213 * 1]? = some (.int .i64 (r_156.1.Places j213))) rfl rfl rfl rfl rfl rfl rfl rfl _ (idxO_some hj214).2.2.2) ?_
               exact .finV rfl rfl (Fz.le_refl _)
              exact .nil
             refine .norm (S' := [(0, (.slice p2 l_1.length k3)), (1, (.int .i64 day5)), (10, (.int .i64 r_14.2.1)), (14, (.pointer (some ⟨(env62.n 80), 0, none⟩))), (15, (.pointer (some ⟨(env62.n 90), 0, none⟩))), (17, (.pointer (some ⟨b135, 0, none⟩))), (18, (.pointer (some ⟨b139, 0, none⟩))), (20, (.int .i64 s141)), (22, (.pointer (some ⟨b157, 0, none⟩))), (25, (.int .i64 s206)), (171, (.int .i64 s206)), (172, (.pointer (some ⟨b139, 0 + 13, none⟩))), (173, (.pointer (some ⟨b139, 0 + 13 + j211 * 1, none⟩))), (174, (.int .i64 (r_138.1.Places j211))), (175, (.int .i64 s206)), (176, (.pointer (some ⟨b157, 0 + 13, none⟩))), (177, (.pointer (some ⟨b157, 0 + 13 + j213 * 1, none⟩))), (178, (.int .i64 (r_156.1.Places j213)))]) (.cons (k := 0) rfl (.cons (k := 1) rfl (.cons (k := 10) rfl (.cons (k := 14) rfl (.cons (k := 15) rfl (.cons (k := 17) rfl (.cons (k := 18) rfl (.cons (k := 20) rfl (.cons (k := 22) rfl (.cons (k := 25) rfl (.cons (k := 171) rfl (.cons (k := 172) rfl (.cons (k := 173) rfl (.cons (k := 174) rfl (.cons (k := 175) rfl (.cons (k := 176) rfl (.cons (k := 177) rfl (.cons (k := 178) rfl (.nil _))))))))))))))))))) (rfl : _ = [pt b157 (.cells (cApiBottling r_156.1).toArray 33), pt b145 (.cells (cApiBatch x151 p147 k148).toArray 26), pt b139 (.cells (cApiBottling r_138.1).toArray 33), pt b135 (.cells (cApiBatch (ApiBatch.mk ([(ApiDraught.mk x63 x63.Amount (ApiSpan.mk 5000 6000)), (ApiDraught.mk x73 x73.Amount (ApiSpan.mk 5000 6000))]) 0 (ApiSpan.mk 0 0) false false) (some ⟨b130, 0, none⟩) 2).toArray 26), pt b109 (.cells (cApiSpan (ApiSpan.mk 5000 6000)).toArray 24), R, pt (env62.n 80) (.cells (cApiCask x63).toArray 38), pt (env62.n 90) (.cells (cApiCask x73).toArray 38)]) ?_
             refine .gtr rfl rfl rfl ?_
             refine .nil ?_
             refine .code ?_
             refine .cond rfl (fun hb233 => ?_) (fun hb233 => ?_)
             ·skip
              refine .seq ?_
              refine .region ?_
              refine .assign rfl rfl ?_
              refine .nil ?_
              refine .code ?_
              refine .drop 7 ?_
              refine .drop 6 ?_
              refine .drop 4 ?_
              refine .drop 3 ?_
              refine .drop 2 ?_
              refine .drop 1 ?_
              refine .drop 0 ?_
              refine .retQ (LPost.ret fun a w h => ⟨rfl, F_215, (Fz.le_trans l_208 l_216), h.1.sub (.cons (k := 8) rfl (.nil _)), h.2⟩)
             ·skip
              refine .skip ?_
              refine .block ?_
              refine .code ?_
              refine .region ?_
              refine .move rfl rfl ?_
              refine .add rfl rfl rfl ?_
              refine .assignL rfl rfl (fun p234 e235 => ?_)
              refine .nil ?_
              exact .nil (LPost.norm fun a w h => ⟨F_215, (Fz.le_trans l_208 l_216), h.1.sub (.cons (k := 0) rfl (.cons (k := 1) rfl (.cons (k := 10) rfl (.cons (k := 14) rfl (.cons (k := 15) rfl (.cons (k := 17) rfl (.cons (k := 18) rfl (.cons (k := 20) rfl (.cons (k := 22) rfl (.cons (k := 25) rfl (.nil _))))))))))), h.2⟩)
            ·skip
             refine .exitOut rfl (LPost.exit fun a w h => ⟨rfl, F_207, l_208, h.1.sub (.cons (k := 0) rfl (.cons (k := 1) rfl (.cons (k := 10) rfl (.cons (k := 14) rfl (.cons (k := 15) rfl (.cons (k := 17) rfl (.cons (k := 18) rfl (.cons (k := 20) rfl (.nil _))))))))), h.2⟩)
           ·intro b236 hb0 hk e a w hD
            rcases b236 with b236 | b236
            ·skip
             obtain ⟨rfl, F_237, l_238, hA⟩ := hD
             refine interp_exit rfl (GE.app ?_ hk a w hA)
             refine .block ?_
             refine .code ?_
             refine .region ?_
             refine .move rfl rfl ?_
             refine .add rfl rfl rfl ?_
             refine .assignL rfl rfl (fun d241 e242 => ?_)
             refine .nil ?_
             refine .drop 1 ?_
             refine .drop 0 ?_
             exact .nil (LPost.norm fun a w h => ⟨F_237, (Fz.le_trans l_143 (Fz.le_trans l_155 (Fz.le_trans l_161 (Fz.le_trans l_165 (Fz.le_trans l_169 (Fz.le_trans l_203 l_238)))))), h.1.sub (.cons (k := 0) rfl (.cons (k := 1) rfl (.cons (k := 10) rfl (.cons (k := 14) rfl (.cons (k := 15) rfl (.cons (k := 17) rfl (.cons (k := 18) rfl (.cons (k := 20) rfl (.nil _))))))))), h.2⟩)
            obtain ⟨rfl, F_239, l_240, hA⟩ := hD
            exact interp_ret ((LPost.ret fun a w h => ⟨rfl, F_239, (Fz.le_trans l_143 (Fz.le_trans l_155 (Fz.le_trans l_161 (Fz.le_trans l_165 (Fz.le_trans l_169 (Fz.le_trans l_203 l_240)))))), h.1.sub (.cons (k := 8) rfl (.nil _)), h.2⟩) hk a w hA)
          obtain ⟨rfl, F_204, l_205, hA⟩ := hD
          exact interp_ret ((LPost.ret fun a w h => ⟨rfl, F_204, (Fz.le_trans l_143 (Fz.le_trans l_155 (Fz.le_trans l_161 (Fz.le_trans l_165 (Fz.le_trans l_169 l_205))))), h.1.sub (.cons (k := 8) rfl (.nil _)), h.2⟩) hk a w hA)
       ·skip
        refine .exitOut rfl (LPost.exit fun a w h => ⟨rfl, F_142, l_143, h.1.sub (.cons (k := 0) rfl (.cons (k := 1) rfl (.cons (k := 10) rfl (.cons (k := 14) rfl (.cons (k := 15) rfl (.cons (k := 18) rfl (.nil _))))))), h.2⟩)
      ·intro b243 hb0 hk e a w hD
       rcases b243 with b243 | b243
       ·skip
        obtain ⟨rfl, F_244, l_245, hA⟩ := hD
        refine interp_exit rfl (GE.app ?_ hk a w hA)
        refine .code ?_
        refine .seq ?_
        refine .keep (.cons (k := 0) rfl (.cons (k := 1) rfl (.cons (k := 10) rfl (.cons (k := 14) rfl (.cons (k := 15) rfl (.cons (k := 18) rfl (.nil _))))))) ?_
        refine .bind (fun l_250 hx256 => ?_)
        refine .bind (fun l_257 hx261 => ?_)
        refine .drawGD 14 1 (fun env248 => [((.slice (some ⟨env248.n 0, 0, none⟩) 0 0), fun G => env248.f 0 ≤ G), ((.slice p2 l_1.length k3), fun _ => True), ((.int .i64 r_14.2.1), fun _ => True), ((.slice (env248.a 30) l_250.length (env248.n 30)), fun G => RepSl 8 (Ex cApiCaskEvent) G (env248.a 30) (env248.n 30) l_250), ((.slice (env248.a 40) l_257.length (env248.n 40)), fun G => env248.f 40 ≤ G), ((.int .i64 day5), fun _ => True), ((.pointer (some ⟨(env62.n 80), 0 + 0, none⟩)), fun _ => True), ((.int .i64 x63.Number), fun _ => True), ((.pointer (some ⟨(env62.n 90), 0 + 0, none⟩)), fun _ => True), ((.int .i64 x73.Number), fun _ => True), ((.pointer (some ⟨(env62.n 80), 0 + 6, none⟩)), fun _ => True), ((.int .i64 x63.Amount), fun _ => True), ((eApiCaskEvent (ApiCaskEvent.mk 2 day5 x63.Number x73.Number 0 0 x63.Amount 0)), fun _ => True), ((.slice (some ⟨env248.n 130, 0, none⟩) ([(ApiCaskEvent.mk 2 day5 x63.Number x73.Number 0 0 x63.Amount 0)]).length 1), fun G => RepSl 8 (Ex cApiCaskEvent) G (some ⟨env248.n 130, 0, none⟩) 1 ([(ApiCaskEvent.mk 2 day5 x63.Number x73.Number 0 0 x63.Amount 0)]))]) (fun L env248 => [pt b139 (.cells (cApiBottling r_138.1).toArray 33), pt b135 (.cells (cApiBatch (ApiBatch.mk ([(ApiDraught.mk x63 x63.Amount (ApiSpan.mk 5000 6000)), (ApiDraught.mk x73 x73.Amount (ApiSpan.mk 5000 6000))]) 0 (ApiSpan.mk 0 0) false false) (some ⟨b130, 0, none⟩) 2).toArray 26), pt b109 (.cells (cApiSpan (ApiSpan.mk 5000 6000)).toArray 24), R, pt (env62.n 80) (.cells (cApiCask x63).toArray 38), pt (env62.n 90) (.cells (cApiCask x73).toArray 38), (bif L 4 then (ownSl 8 (Ex cApiCaskEvent) (env248.f 40) 62 (env248.a 40) (env248.n 40) l_257) else (bif L 0 then (ownSl 8 (Ex cApiCaskEvent) (env248.f 0) 62 (some ⟨env248.n 0, 0, none⟩) 0 ([])) else emp))]) mixedOK (by kernel_rfl) (deepN (k := 14) (n := 16) rfl (allLt16 (p := fun t => 14 ≤ t → ∀ j, j < t → ∃ s, depB _ s t j = true) (fun h => absurd h (by decide)) (fun h => absurd h (by decide)) (fun h => absurd h (by decide)) (fun h => absurd h (by decide)) (fun h => absurd h (by decide)) (fun h => absurd h (by decide)) (fun h => absurd h (by decide)) (fun h => absurd h (by decide)) (fun h => absurd h (by decide)) (fun h => absurd h (by decide)) (fun h => absurd h (by decide)) (fun h => absurd h (by decide)) (fun h => absurd h (by decide)) (fun h => absurd h (by decide)) (fun _ => allLt14 (p := fun j => ∃ s, depB _ s 14 j = true) ⟨2, rfl⟩ ⟨3, rfl⟩ ⟨3, rfl⟩ ⟨2, rfl⟩ ⟨1, rfl⟩ ⟨3, rfl⟩ ⟨4, rfl⟩ ⟨3, rfl⟩ ⟨4, rfl⟩ ⟨3, rfl⟩ ⟨4, rfl⟩ ⟨3, rfl⟩ ⟨2, rfl⟩ ⟨1, rfl⟩) (fun _ => allLt15 (p := fun j => ∃ s, depB _ s 15 j = true) ⟨1, rfl⟩ ⟨1, rfl⟩ ⟨1, rfl⟩ ⟨1, rfl⟩ ⟨1, rfl⟩ ⟨1, rfl⟩ ⟨1, rfl⟩ ⟨1, rfl⟩ ⟨1, rfl⟩ ⟨1, rfl⟩ ⟨1, rfl⟩ ⟨1, rfl⟩ ⟨1, rfl⟩ ⟨1, rfl⟩ ⟨1, rfl⟩))) rfl (fun _ => rfl) (by kernel_rfl) (fun _ => rfl) ?_ (fun env248 F_268 l_269 hphi => ?_)
        ·skip
         refine .cons (fun L env248 F_272 l_273 hL hdn hup hphi => ⟨[], fun S hS hV => (Sub.nil _), ?_⟩) ?_
         ·skip
          refine .sliceOwn0 (Ex cApiCaskEvent) rfl Try.underlying57 Try.sizeOf62 (fun b274 => ?_)
          exact .finG ({ env248 with n := updN env248.n 0 b274, f := updN env248.f 0 F_272 }) [false, true, true, true, false, true, true, true, true, true, true, true, true, true] rfl (by kernel_rfl) rfl rfl (Fz.le_refl _) (fun _ le => le) (fun _ h => SH.placeC 6 (congrArg some ((condF (hup 1 4 rfl)).trans (condF hL))) ((condF (b := updB L 0 4) (hup 1 4 rfl)).trans (condT rfl)) h)
         refine .cons (fun L env248 F_275 l_276 hL hdn hup hphi => ⟨[(0, (.slice p2 l_1.length k3))], fun S hS hV => (.cons (hS _ _ rfl) (Sub.nil _)), ?_⟩) ?_
         ·skip
          refine .move rfl rfl ?_
          exact .finV rfl rfl (Fz.le_refl _)
         refine .cons (fun L env248 F_277 l_278 hL hdn hup hphi => ⟨[(10, (.int .i64 r_14.2.1))], fun S hS hV => (.cons (hS _ _ rfl) (Sub.nil _)), ?_⟩) ?_
         ·skip
          refine .move rfl rfl ?_
          exact .finV rfl rfl (Fz.le_refl _)
         refine .cons (fun L env248 F_279 l_280 hL hdn hup hphi => ⟨[(181, (.slice p2 l_1.length k3)), (182, (.int .i64 r_14.2.1))], fun S hS hV => (.cons (hV 1 181 _ (hdn 1 1 rfl) rfl rfl) (.cons (hV 2 182 _ (hdn 1 2 rfl) rfl rfl) (Sub.nil _))), ?_⟩) ?_
         ·skip
          refine .sliceHiK hx256 rfl Try.underlying57 Try.sizeOf62 (h4.mono (Fz.le_trans l_13 (Fz.le_trans l_21 (Fz.le_trans l_29 (Fz.le_trans l_39 (Fz.le_trans l_84 (Fz.le_trans l_113 (Fz.le_trans l_117 (Fz.le_trans l_121 (Fz.le_trans l_125 (Fz.le_trans l_132 (Fz.le_trans l_137 (Fz.le_trans l_245 l_280))))))))))))) rfl rfl (fun p282 k283 h285 => ?_)
          exact .finQ ({ env248 with a := (updN env248.a 30 p282), n := (updN env248.n 30 k283), c := env248.c, o := env248.o }) [true, true, true, false, false, true, true, true, true, true, true, true, true, true] rfl (by kernel_rfl) rfl rfl (Fz.le_refl _) (fun _ le => h285.mono le) (cons_eq rfl (cons_eq rfl (cons_eq rfl (cons_eq rfl (cons_eq rfl (cons_eq rfl (cons_eq ((condF (b := updB L 3 4) (hup 1 4 rfl)).trans (condF (hup 1 4 rfl)).symm) rfl)))))))
         refine .cons (fun L env248 F_286 l_287 hL hdn hup hphi => ⟨[(180, (.slice (some ⟨env248.n 0, 0, none⟩) 0 0)), (183, (.slice (env248.a 30) l_250.length (env248.n 30)))], fun S hS hV => (.cons (hV 0 180 _ (hdn 1 0 rfl) rfl rfl) (.cons (hV 3 183 _ (hdn 1 3 rfl) rfl rfl) (Sub.nil _))), ?_⟩) ?_
         ·skip
          have l_270 := hphi 0 _ (hdn 1 0 rfl) rfl _ (Fz.le_refl _)
          have h255 := hphi 3 _ (hdn 1 3 rfl) rfl _ (Fz.le_refl _)
          refine .appendK hx261 6 ok_t62 l_270 rfl Try.underlying57 Try.underlying57 rfl rfl (congrArg some ((condF hL).trans (condT (hdn 1 0 rfl)))) h255 rfl rfl (fun p289 k290 => ?_)
          exact .finQ ({ env248 with a := updN env248.a 40 p289, n := updN env248.n 40 k290, f := updN env248.f 40 F_286 }) [true, true, true, true, false, true, true, true, true, true, true, true, true, true] rfl (by kernel_rfl) rfl rfl (Fz.le_refl _) (fun _ le => le) (cons_eq rfl (cons_eq rfl (cons_eq rfl (cons_eq rfl (cons_eq rfl (cons_eq rfl (cons_eq (condT rfl) rfl)))))))
         refine .cons (fun L env248 F_292 l_293 hL hdn hup hphi => ⟨[(1, (.int .i64 day5))], fun S hS hV => (.cons (hS _ _ rfl) (Sub.nil _)), ?_⟩) ?_
         ·skip
          refine .move rfl rfl ?_
          exact .finV rfl rfl (Fz.le_refl _)
         refine .cons (fun L env248 F_294 l_295 hL hdn hup hphi => ⟨[(14, (.pointer (some ⟨(env62.n 80), 0, none⟩)))], fun S hS hV => (.cons (hS _ _ rfl) (Sub.nil _)), ?_⟩) ?_
         ·skip
          refine .fieldAddr rfl Try.underlying38 rfl Try.sizeOf3 rfl ?_
          exact .finV rfl rfl (Fz.le_refl _)
         refine .cons (fun L env248 F_296 l_297 hL hdn hup hphi => ⟨[(186, (.pointer (some ⟨(env62.n 80), 0 + 0, none⟩)))], fun S hS hV => (.cons (hV 6 186 _ (hdn 1 6 rfl) rfl rfl) (Sub.nil _)), ?_⟩) ?_
         ·skip
          refine .loadO rfl Try.isAgg3 rfl (i := 4) rfl rfl ?_
          exact .finV rfl rfl (Fz.le_refl _)
         refine .cons (fun L env248 F_298 l_299 hL hdn hup hphi => ⟨[(15, (.pointer (some ⟨(env62.n 90), 0, none⟩)))], fun S hS hV => (.cons (hS _ _ rfl) (Sub.nil _)), ?_⟩) ?_
         ·skip
          refine .fieldAddr rfl Try.underlying38 rfl Try.sizeOf3 rfl ?_
          exact .finV rfl rfl (Fz.le_refl _)
         refine .cons (fun L env248 F_300 l_301 hL hdn hup hphi => ⟨[(188, (.pointer (some ⟨(env62.n 90), 0 + 0, none⟩)))], fun S hS hV => (.cons (hV 8 188 _ (hdn 1 8 rfl) rfl rfl) (Sub.nil _)), ?_⟩) ?_
         ·skip
          refine .loadO rfl Try.isAgg3 rfl (i := 5) rfl rfl ?_
          exact .finV rfl rfl (Fz.le_refl _)
         refine .cons (fun L env248 F_302 l_303 hL hdn hup hphi => ⟨[(14, (.pointer (some ⟨(env62.n 80), 0, none⟩)))], fun S hS hV => (.cons (hS _ _ rfl) (Sub.nil _)), ?_⟩) ?_
         ·skip
          refine .fieldAddr rfl Try.underlying38 rfl Try.sizeOf3 rfl ?_
          exact .finV rfl rfl (Fz.le_refl _)
         refine .cons (fun L env248 F_304 l_305 hL hdn hup hphi => ⟨[(190, (.pointer (some ⟨(env62.n 80), 0 + 6, none⟩)))], fun S hS hV => (.cons (hV 10 190 _ (hdn 1 10 rfl) rfl rfl) (Sub.nil _)), ?_⟩) ?_
         ·skip
          refine .loadO rfl Try.isAgg3 rfl (i := 4) rfl rfl ?_
          exact .finV rfl rfl (Fz.le_refl _)
         refine .cons (fun L env248 F_306 l_307 hL hdn hup hphi => ⟨[(185, (.int .i64 day5)), (187, (.int .i64 x63.Number)), (189, (.int .i64 x73.Number)), (191, (.int .i64 x63.Amount))], fun S hS hV => (.cons (hV 5 185 _ (hdn 1 5 rfl) rfl rfl) (.cons (hV 7 187 _ (hdn 1 7 rfl) rfl rfl) (.cons (hV 9 189 _ (hdn 1 9 rfl) rfl rfl) (.cons (hV 11 191 _ (hdn 1 11 rfl) rfl rfl) (Sub.nil _))))), ?_⟩) ?_
         ·skip
          refine .build (cs := (cApiCaskEvent (ApiCaskEvent.mk 2 day5 x63.Number x73.Number 0 0 x63.Amount 0)).toArray) rfl Try.underlying62 Try.zeroValue62 (plApiCaskEvent _ Try.underlying62) rfl rfl (by kernel_rfl) ?_
          exact .finV rfl rfl (Fz.le_refl _)
         refine .cons (fun L env248 F_308 l_309 hL hdn hup hphi => ⟨[(192, (eApiCaskEvent (ApiCaskEvent.mk 2 day5 x63.Number x73.Number 0 0 x63.Amount 0)))], fun S hS hV => (.cons (hV 12 192 _ (hdn 1 12 rfl) rfl rfl) (Sub.nil _)), ?_⟩) ?_
         ·skip
          refine .sliceLit (cs := [.int .i64 (ApiCaskEvent.mk 2 day5 x63.Number x73.Number 0 0 x63.Amount 0).Kind, .int .i64 (ApiCaskEvent.mk 2 day5 x63.Number x73.Number 0 0 x63.Amount 0).Day, .int .i64 (ApiCaskEvent.mk 2 day5 x63.Number x73.Number 0 0 x63.Amount 0).Cask, .int .i64 (ApiCaskEvent.mk 2 day5 x63.Number x73.Number 0 0 x63.Amount 0).Other, .int .i64 (ApiCaskEvent.mk 2 day5 x63.Number x73.Number 0 0 x63.Amount 0).Person, .int .i64 (ApiCaskEvent.mk 2 day5 x63.Number x73.Number 0 0 x63.Amount 0).To, .int .i64 (ApiCaskEvent.mk 2 day5 x63.Number x73.Number 0 0 x63.Amount 0).Amount, .int .i64 (ApiCaskEvent.mk 2 day5 x63.Number x73.Number 0 0 x63.Amount 0).Where]) (zc := [.int .i64 (ApiCaskEvent.mk 0 0 0 0 0 0 0 0).Kind, .int .i64 (ApiCaskEvent.mk 0 0 0 0 0 0 0 0).Day, .int .i64 (ApiCaskEvent.mk 0 0 0 0 0 0 0 0).Cask, .int .i64 (ApiCaskEvent.mk 0 0 0 0 0 0 0 0).Other, .int .i64 (ApiCaskEvent.mk 0 0 0 0 0 0 0 0).Person, .int .i64 (ApiCaskEvent.mk 0 0 0 0 0 0 0 0).To, .int .i64 (ApiCaskEvent.mk 0 0 0 0 0 0 0 0).Amount, .int .i64 (ApiCaskEvent.mk 0 0 0 0 0 0 0 0).Where]) rfl Try.underlying57 Try.sizeOf62 Try.zeroValue62 rfl rfl rfl (by kernel_rfl) (by kernel_rfl) (fun b310 F_311 l_312 hb313 => ?_)
          have h314 : RepSl 8 (Ex cApiCaskEvent) F_311 (some ⟨b310, 0, none⟩) 1 ([(ApiCaskEvent.mk 2 day5 x63.Number x73.Number 0 0 x63.Amount 0)]) := RepSl.ofRow hb313 (.cons ok_t62.mono rfl .nil) rfl rfl
          exact .finQ ({ env248 with a := env248.a, n := (updN env248.n 130 b310), c := env248.c, o := env248.o }) [true, true, true, true, true, true, true, true, true, true, true, true, true, false] rfl (by kernel_rfl) rfl rfl l_312 (fun _ le => h314.mono le) (cons_eq rfl (cons_eq rfl (cons_eq rfl (cons_eq rfl (cons_eq rfl (cons_eq rfl (cons_eq rfl rfl)))))))
         exact .nil
        have l_270 := hphi 0 _ rfl
        have h255 := hphi 3 _ rfl
        have l_271 := hphi 4 _ rfl
        have h267 := hphi 13 _ rfl
        refine .norm (S' := [(0, (.slice p2 l_1.length k3)), (1, (.int .i64 day5)), (10, (.int .i64 r_14.2.1)), (14, (.pointer (some ⟨(env62.n 80), 0, none⟩))), (15, (.pointer (some ⟨(env62.n 90), 0, none⟩))), (18, (.pointer (some ⟨b139, 0, none⟩))), (180, (.slice (some ⟨env248.n 0, 0, none⟩) 0 0)), (181, (.slice p2 l_1.length k3)), (182, (.int .i64 r_14.2.1)), (183, (.slice (env248.a 30) l_250.length (env248.n 30))), (184, (.slice (env248.a 40) l_257.length (env248.n 40))), (185, (.int .i64 day5)), (186, (.pointer (some ⟨(env62.n 80), 0 + 0, none⟩))), (187, (.int .i64 x63.Number)), (188, (.pointer (some ⟨(env62.n 90), 0 + 0, none⟩))), (189, (.int .i64 x73.Number)), (190, (.pointer (some ⟨(env62.n 80), 0 + 6, none⟩))), (191, (.int .i64 x63.Amount)), (192, (eApiCaskEvent (ApiCaskEvent.mk 2 day5 x63.Number x73.Number 0 0 x63.Amount 0))), (193, (.slice (some ⟨env248.n 130, 0, none⟩) ([(ApiCaskEvent.mk 2 day5 x63.Number x73.Number 0 0 x63.Amount 0)]).length 1))]) (.cons (k := 0) rfl (.cons (k := 1) rfl (.cons (k := 10) rfl (.cons (k := 14) rfl (.cons (k := 15) rfl (.cons (k := 18) rfl (.cons (k := 180) rfl (.cons (k := 181) rfl (.cons (k := 182) rfl (.cons (k := 183) rfl (.cons (k := 184) rfl (.cons (k := 185) rfl (.cons (k := 186) rfl (.cons (k := 187) rfl (.cons (k := 188) rfl (.cons (k := 189) rfl (.cons (k := 190) rfl (.cons (k := 191) rfl (.cons (k := 192) rfl (.cons (k := 193) rfl (.nil _))))))))))))))))))))) (rfl : _ = [pt b139 (.cells (cApiBottling r_138.1).toArray 33), pt b135 (.cells (cApiBatch (ApiBatch.mk ([(ApiDraught.mk x63 x63.Amount (ApiSpan.mk 5000 6000)), (ApiDraught.mk x73 x73.Amount (ApiSpan.mk 5000 6000))]) 0 (ApiSpan.mk 0 0) false false) (some ⟨b130, 0, none⟩) 2).toArray 26), pt b109 (.cells (cApiSpan (ApiSpan.mk 5000 6000)).toArray 24), R, pt (env62.n 80) (.cells (cApiCask x63).toArray 38), pt (env62.n 90) (.cells (cApiCask x73).toArray 38), ownSl 8 (Ex cApiCaskEvent) (env248.f 40) 62 (env248.a 40) (env248.n 40) l_257]) ?_
        refine .append 6 ok_t62 l_271 rfl Try.underlying57 Try.underlying57 rfl rfl rfl h267 rfl rfl (fun l_315 p316 k317 e318 => ?_)
        refine .assign rfl rfl ?_
        refine .nil ?_
        refine .code ?_
        refine .seq ?_
        refine .region ?_
        refine .move rfl rfl ?_
        refine .fieldAddr rfl Try.underlying38 rfl Try.sizeOf3 rfl ?_
        refine .loadO rfl Try.isAgg3 rfl (i := 5) rfl rfl ?_
        refine .move rfl rfl ?_
        refine .freezeSl 6 rfl (Fz.le_refl _) (fun F_319 l_320 h321 => ?_)
        refine .call0 rfl Try.call14 rfl rfl rfl (c_cask_At _ l_315 p316 k317 h321 x73.Number day5) ?_
        rintro r_324 F_322 _ - l_323 rfl
        refine .move rfl rfl ?_
        refine .extract rfl rfl rfl ?_
        refine .extract rfl rfl rfl ?_
        refine .alloc (cs := (cApiCask (ApiCask.mk 0 0 0 0 0 0 0 0 (fun _ => 0) (fun _ => 0)))) rfl Try.zeroValue38 rfl (fun b325 => ?_)
        refine .store (cs' := (cApiCask r_324.1)) Try.sizeOf38 rfl rfl rfl rfl (i := 0) rfl (Nat.le_of_ble_eq_true rfl) rfl (setMany_all (by rfl)) ?_
        refine .assign rfl rfl ?_
        refine .nil ?_
        refine .keep (.cons (k := 14) rfl (.cons (k := 15) rfl (.cons (k := 18) rfl (.cons (k := 27) rfl (.cons (k := 28) rfl (.nil _)))))) ?_
        refine .code ?_
        refine .seq ?_
        refine .seq ?_
        refine .region ?_
        refine .move rfl rfl ?_
        refine .neq rfl rfl rfl ?_
        refine .nil ?_
        refine .code ?_
        refine .cond rfl (fun hb326 => ?_) (fun hb326 => ?_)
        ·skip
         refine .seq ?_
         refine .region ?_
         refine .move rfl rfl ?_
         refine .eql rfl rfl rfl ?_
         refine .move rfl rfl ?_
         refine .orP (b := (r_324.2 == 11)) (b' := (r_324.2 == 9)) 3 210 (fun hb327 => ?_) (fun hb328 => ?_) (fun F_329 l_330 => ?_)
         ·skip
          refine .onH hb327 rfl rfl ?_
          refine .move rfl rfl ?_
          refine .onH hb327 rfl rfl ?_
          refine .eql rfl rfl rfl ?_
          refine .pickFH hb327 rfl rfl rfl ?_
          exact .fin 3 rfl rfl (by kernel_rfl) (Fz.le_refl _)
         ·skip
          refine .offH hb328 rfl rfl rfl ?_
          refine .offH hb328 rfl rfl rfl ?_
          refine .pickTH hb328 rfl rfl rfl ?_
          exact .fin 3 rfl rfl (by kernel_rfl) (Fz.le_refl _)
         refine .move rfl rfl ?_
         refine .andM (b := ((r_324.2 == 11) || (r_324.2 == 9))) 2 213 (fun hb331 z339 => ?_) (fun hb335 => ?_) (fun z338 F_336 l_337 => ?_)
         ·skip
          refine .onH hb331 rfl rfl ?_
          refine .call0 rfl Try.call12 rfl rfl rfl (c_wormtubtop_awake12 _ ) ?_
          rintro r_334 F_332 _ - l_333 rfl
          refine .pickTH hb331 rfl rfl rfl ?_
          exact .finZ 2 rfl rfl (by kernel_rfl) l_333
         ·skip
          refine .offH hb335 rfl rfl rfl ?_
          refine .pickFH hb335 rfl rfl rfl ?_
          exact .fin 2 rfl rfl (by kernel_rfl) (Fz.le_refl _)
         refine .assign rfl rfl ?_
         refine .nil ?_
         refine .code ?_
         exact .ret0 Try.results4 (.tmp rfl (.nil)) (i := 4) rfl (Fz.le_trans l_13 (Fz.le_trans l_21 (Fz.le_trans l_29 (Fz.le_trans l_39 (Fz.le_trans l_84 (Fz.le_trans l_113 (Fz.le_trans l_117 (Fz.le_trans l_121 (Fz.le_trans l_125 (Fz.le_trans l_132 (Fz.le_trans l_137 (Fz.le_trans l_245 (Fz.le_trans l_269 (Fz.le_trans l_320 (Fz.le_trans l_323 (Fz.le_trans l_330 l_337)))))))))))))))) rfl
        ·skip
         refine .skip ?_
         refine .code ?_
         refine .seq ?_
         refine .region ?_
         refine .fieldAddr rfl Try.underlying38 rfl Try.sizeOf3 rfl ?_
         refine .loadO rfl Try.isAgg3 rfl (i := 0) rfl rfl ?_
         refine .fieldAddr rfl Try.underlying33 rfl Try.sizeOf3 rfl ?_
         refine .loadO rfl Try.isAgg3 rfl (i := 1) rfl rfl ?_
         refine .eql rfl rfl rfl ?_
         refine .move rfl rfl ?_
         refine .andP (b := (r_324.1.Age == r_138.1.Age)) (b' := (eq_31 r_324.1.Woods r_138.1.Woods)) 6 225 (fun hb340 => ?_) (fun hb341 => ?_) (fun F_342 l_343 => ?_)
         ·skip
          refine .onH hb340 rfl rfl ?_
          refine .fieldAddr rfl Try.underlying38 rfl Try.sizeOf31 rfl ?_
          refine .onH hb340 rfl rfl ?_
          refine .loadOA rfl Try.isAgg31 Try.sizeOf31 rfl (i := 0) rfl (vs := ((cArr 8 (cInt .i64)) r_324.1.Woods)) (by kernel_rfl) rfl ?_
          refine .onH hb340 rfl rfl ?_
          refine .fieldAddr rfl Try.underlying33 rfl Try.sizeOf31 rfl ?_
          refine .onH hb340 rfl rfl ?_
          refine .loadOA rfl Try.isAgg31 Try.sizeOf31 rfl (i := 1) rfl (vs := ((cArr 8 (cInt .i64)) r_138.1.Woods)) (by kernel_rfl) rfl ?_
          refine .onH hb340 rfl rfl ?_
          refine .eqlR rfl Try.eqGuardType31 (fun w => req_31 r_324.1.Woods r_138.1.Woods w) rfl rfl ?_
          refine .pickTH hb340 rfl rfl rfl ?_
          exact .fin 6 rfl rfl (by kernel_rfl) (Fz.le_refl _)
         ·skip
          refine .offH hb341 rfl rfl rfl ?_
          refine .offH hb341 rfl rfl rfl ?_
          refine .offH hb341 rfl rfl rfl ?_
          refine .offH hb341 rfl rfl rfl ?_
          refine .offH hb341 rfl rfl rfl ?_
          refine .pickFH hb341 rfl rfl rfl ?_
          exact .fin 6 rfl rfl (by kernel_rfl) (Fz.le_refl _)
         refine .move rfl rfl ?_
         refine .andP (b := ((r_324.1.Age == r_138.1.Age) && (eq_31 r_324.1.Woods r_138.1.Woods))) (b' := (eq_31 r_324.1.Places r_138.1.Places)) 6 232 (fun hb344 => ?_) (fun hb345 => ?_) (fun F_346 l_347 => ?_)
         ·skip
          refine .onH hb344 rfl rfl ?_
          refine .fieldAddr rfl Try.underlying38 rfl Try.sizeOf31 rfl ?_
          refine .onH hb344 rfl rfl ?_
          refine .loadOA rfl Try.isAgg31 Try.sizeOf31 rfl (i := 0) rfl (vs := ((cArr 8 (cInt .i64)) r_324.1.Places)) (by kernel_rfl) rfl ?_
          refine .onH hb344 rfl rfl ?_
          refine .fieldAddr rfl Try.underlying33 rfl Try.sizeOf31 rfl ?_
          refine .onH hb344 rfl rfl ?_
          refine .loadOA rfl Try.isAgg31 Try.sizeOf31 rfl (i := 1) rfl (vs := ((cArr 8 (cInt .i64)) r_138.1.Places)) (by kernel_rfl) rfl ?_
          refine .onH hb344 rfl rfl ?_
          refine .eqlR rfl Try.eqGuardType31 (fun w => req_31 r_324.1.Places r_138.1.Places w) rfl rfl ?_
          refine .pickTH hb344 rfl rfl rfl ?_
          exact .fin 6 rfl rfl (by kernel_rfl) (Fz.le_refl _)
         ·skip
          refine .offH hb345 rfl rfl rfl ?_
          refine .offH hb345 rfl rfl rfl ?_
          refine .offH hb345 rfl rfl rfl ?_
          refine .offH hb345 rfl rfl rfl ?_
          refine .offH hb345 rfl rfl rfl ?_
          refine .pickFH hb345 rfl rfl rfl ?_
          exact .fin 6 rfl rfl (by kernel_rfl) (Fz.le_refl _)
         refine .move rfl rfl ?_
         refine .andP (b := (((r_324.1.Age == r_138.1.Age) && (eq_31 r_324.1.Woods r_138.1.Woods)) && (eq_31 r_324.1.Places r_138.1.Places))) (b' := (r_324.1.Amount == (w64 (x63.Amount + x73.Amount)))) 9 242 (fun hb348 => ?_) (fun hb349 => ?_) (fun F_350 l_351 => ?_)
         ·skip
          refine .onH hb348 rfl rfl ?_
          refine .fieldAddr rfl Try.underlying38 rfl Try.sizeOf3 rfl ?_
          refine .onH hb348 rfl rfl ?_
          refine .loadO rfl Try.isAgg3 rfl (i := 0) rfl rfl ?_
          refine .onH hb348 rfl rfl ?_
          refine .fieldAddr rfl Try.underlying38 rfl Try.sizeOf3 rfl ?_
          refine .onH hb348 rfl rfl ?_
          refine .loadO rfl Try.isAgg3 rfl (i := 5) rfl rfl ?_
          refine .onH hb348 rfl rfl ?_
          refine .fieldAddr rfl Try.underlying38 rfl Try.sizeOf3 rfl ?_
          refine .onH hb348 rfl rfl ?_
          refine .loadO rfl Try.isAgg3 rfl (i := 6) rfl rfl ?_
          refine .onH hb348 rfl rfl ?_
          refine .add rfl rfl rfl ?_
          refine .onH hb348 rfl rfl ?_
          refine .eql rfl rfl rfl ?_
          refine .pickTH hb348 rfl rfl rfl ?_
          exact .fin 9 rfl rfl (by kernel_rfl) (Fz.le_refl _)
         ·skip
          refine .offH hb349 rfl rfl rfl ?_
          refine .offH hb349 rfl rfl rfl ?_
          refine .offH hb349 rfl rfl rfl ?_
          refine .offH hb349 rfl rfl rfl ?_
          refine .offH hb349 rfl rfl rfl ?_
          refine .offH hb349 rfl rfl rfl ?_
          refine .offH hb349 rfl rfl rfl ?_
          refine .offH hb349 rfl rfl rfl ?_
          refine .pickFH hb349 rfl rfl rfl ?_
          exact .fin 9 rfl rfl (by kernel_rfl) (Fz.le_refl _)
         refine .move rfl rfl ?_
         refine .andM (b := ((((r_324.1.Age == r_138.1.Age) && (eq_31 r_324.1.Woods r_138.1.Woods)) && (eq_31 r_324.1.Places r_138.1.Places)) && (r_324.1.Amount == (w64 (x63.Amount + x73.Amount))))) 2 245 (fun hb352 z360 => ?_) (fun hb356 => ?_) (fun z359 F_357 l_358 => ?_)
         ·skip
          refine .onH hb352 rfl rfl ?_
          refine .call0 rfl Try.call12 rfl rfl rfl (c_wormtubtop_awake12 _ ) ?_
          rintro r_355 F_353 _ - l_354 rfl
          refine .pickTH hb352 rfl rfl rfl ?_
          exact .finZ 2 rfl rfl (by kernel_rfl) l_354
         ·skip
          refine .offH hb356 rfl rfl rfl ?_
          refine .pickFH hb356 rfl rfl rfl ?_
          exact .fin 2 rfl rfl (by kernel_rfl) (Fz.le_refl _)
         refine .assign rfl rfl ?_
         refine .nil ?_
         refine .code ?_
         exact .ret0 Try.results4 (.tmp rfl (.nil)) (i := 4) rfl (Fz.le_trans l_13 (Fz.le_trans l_21 (Fz.le_trans l_29 (Fz.le_trans l_39 (Fz.le_trans l_84 (Fz.le_trans l_113 (Fz.le_trans l_117 (Fz.le_trans l_121 (Fz.le_trans l_125 (Fz.le_trans l_132 (Fz.le_trans l_137 (Fz.le_trans l_245 (Fz.le_trans l_269 (Fz.le_trans l_320 (Fz.le_trans l_323 (Fz.le_trans l_343 (Fz.le_trans l_347 (Fz.le_trans l_351 l_358)))))))))))))))))) rfl
       obtain ⟨rfl, F_246, l_247, hA⟩ := hD
       exact interp_ret ((ret_post0 Try.results4 (.tmp rfl (.nil)) (i := 0) rfl (Fz.le_trans l_13 (Fz.le_trans l_21 (Fz.le_trans l_29 (Fz.le_trans l_39 (Fz.le_trans l_84 (Fz.le_trans l_113 (Fz.le_trans l_117 (Fz.le_trans l_121 (Fz.le_trans l_125 (Fz.le_trans l_132 (Fz.le_trans l_137 l_247))))))))))) rfl) hk a w hA)
end Go.Proofs.Ytkffpbnbjnadnaa
end

section
namespace Go.Proofs.Ytkffpbnbjnadnaa
open Go.Dec
structure Held where
  C : ApiCask
  Fills : List Int
abbrev Ev := ApiCaskEvent
abbrev zN : Nat → Int := fun _ => 0
def inB (n a b : Int) : Bool := decide (n ≥ a) && decide (n ≤ b)
def evB (x : Ev) : Bool :=
  inB x.Day 0 65536 && inB x.Cask 0 1073741824 &&
  (if x.Kind == 0 then inB x.Other 0 7 && inB x.Where 0 7 && inB x.Amount 1 1099511627776 && inB x.Person 0 1073741824
   else if x.Kind == 1 || x.Kind == 3 then inB x.Amount 1 1099511627776
   else if x.Kind == 2 then inB x.Other 0 1073741824 && inB x.Amount 1 1099511627776
   else if x.Kind == 4 then inB x.Where 0 7
   else if x.Kind == 5 || x.Kind == 6 then inB x.Person 0 1073741824 && inB x.To 0 1073741824
   else if x.Kind == 7 then inB x.Person 0 1073741824
   else if x.Kind == 8 then inB x.Where 0 7 else false)
def olderS (n : Int) (h : Held) : Held :=
  if 0 < h.C.Amount then { h with C := { h.C with Age := h.C.Age + n, Woods := updN h.C.Woods h.C.Wood.toNat (h.C.Woods h.C.Wood.toNat + n), Places := updN h.C.Places h.C.Place.toNat (h.C.Places h.C.Place.toNat + n) } } else h
def findS : List Held → Int → Option Nat
  | [], _ => none
  | h :: l, n => if h.C.Number == n then some 0 else (findS l n).map (· + 1)
def insS (x : Int) : List Int → List Int
  | [] => [x]
  | y :: l => if x < y then x :: y :: l else if x == y then y :: l else y :: insS x l
def uniS (a b : List Int) : List Int := a.foldr insS b
def minN (f g : Nat → Int) : Nat → Int := fun k => if k < 8 then imin (f k) (g k) else f k
def pourS (h s : Held) (n : Int) : Held :=
  if h.C.Amount == 0 then { C := { h.C with Age := s.C.Age, Woods := s.C.Woods, Places := s.C.Places, Amount := h.C.Amount + n }, Fills := s.Fills }
  else { C := { h.C with Age := imin h.C.Age s.C.Age, Woods := minN h.C.Woods s.C.Woods, Places := minN h.C.Places s.C.Places, Amount := h.C.Amount + n }, Fills := uniS h.Fills s.Fills }
def lessS (h : Held) (n : Int) : Held :=
  if h.C.Amount - n == 0 then { C := { h.C with Age := 0, Woods := zN, Places := zN, Amount := 0 }, Fills := [] } else { h with C := { h.C with Amount := h.C.Amount - n } }
def newS (x : Ev) : Held := ⟨⟨x.Cask, x.Other, x.Where, x.Amount, x.Person, -1, 0, 0, zN, zN⟩, []⟩
def fillS (n : Int) : Held := ⟨⟨0, 0, 0, 0, 0, 0, 0, 0, zN, zN⟩, [n]⟩
def fillD (l : List Held) (i : Nat) (c : Held) (x : Ev) (num : Int) : List Held ⊕ Int :=
  if c.C.Amount + x.Amount > c.C.Room then .inr 9 else .inl (l.set i (pourS c (fillS num) x.Amount))
def rackD2 (l : List Held) (i k : Nat) (c o : Held) (x : Ev) : List Held ⊕ Int :=
  if i == k then .inr 5
  else if c.C.Owner != o.C.Owner || decide (c.C.Creditor ≥ 0) || decide (o.C.Creditor ≥ 0) then .inr 11
  else if c.C.Amount < x.Amount then .inr 10
  else if o.C.Amount + x.Amount > o.C.Room then .inr 9
  else .inl ((l.set k (pourS o c x.Amount)).set i (lessS c x.Amount))
def rackD (l : List Held) (i : Nat) (c : Held) (x : Ev) : List Held ⊕ Int :=
  match findS l x.Other with
  | none => .inr 4
  | some k => match l[k]? with
    | none => .inr 4
    | some o => rackD2 l i k c o x
def drainD (l : List Held) (i : Nat) (c : Held) (x : Ev) : List Held ⊕ Int :=
  if c.C.Creditor ≥ 0 then .inr 11 else if c.C.Amount < x.Amount then .inr 10 else .inl (l.set i (lessS c x.Amount))
def carryD (l : List Held) (i : Nat) (c : Held) (x : Ev) : List Held ⊕ Int := .inl (l.set i { c with C := { c.C with Place := x.Where } })
def sellD (l : List Held) (i : Nat) (c : Held) (x : Ev) : List Held ⊕ Int :=
  if c.C.Owner != x.Person || decide (c.C.Creditor ≥ 0) then .inr 11 else if x.To == c.C.Owner then .inr 5 else .inl (l.set i { c with C := { c.C with Owner := x.To } })
def pledgeD (l : List Held) (i : Nat) (c : Held) (x : Ev) : List Held ⊕ Int :=
  if c.C.Owner != x.Person then .inr 11 else if c.C.Creditor ≥ 0 then .inr 5 else .inl (l.set i { c with C := { c.C with Creditor := x.To } })
def freeD (l : List Held) (i : Nat) (c : Held) (x : Ev) : List Held ⊕ Int :=
  if c.C.Creditor != x.Person then .inr 11 else .inl (l.set i { c with C := { c.C with Creditor := -1 } })
def charD (l : List Held) (i : Nat) (c : Held) (x : Ev) : List Held ⊕ Int :=
  if c.C.Amount > 0 then .inr 6 else .inl (l.set i { c with C := { c.C with Wood := x.Where } })
def actS (l : List Held) (i : Nat) (c : Held) (x : Ev) (num : Int) : List Held ⊕ Int :=
  if x.Kind == 1 then fillD l i c x num
  else if x.Kind == 2 then rackD l i c x
  else if x.Kind == 3 then drainD l i c x
  else if x.Kind == 4 then carryD l i c x
  else if x.Kind == 5 then sellD l i c x
  else if x.Kind == 6 then pledgeD l i c x
  else if x.Kind == 7 then freeD l i c x
  else if x.Kind == 8 then charD l i c x
  else .inl l
def makeD (l : List Held) (x : Ev) : List Held ⊕ Int :=
  if (findS l x.Cask).isSome then .inr 5 else if 256 ≤ l.length then .inr 9 else .inl (l ++ [newS x])
def doS (l : List Held) (x : Ev) (num : Int) : List Held ⊕ Int :=
  if x.Kind == 0 then makeD l x
  else match findS l x.Cask with
    | none => .inr 4
    | some i => match l[i]? with
      | none => .inr 4
      | some c => actS l i c x num
structure Cur where
  all : List Held
  last : Int
def stepS (n : Nat) (s : Cur) (x : Ev) : Cur ⊕ Int :=
  if !evB x then .inr 1 else if x.Day < s.last then .inr 7
  else match doS (s.all.map (olderS (x.Day - s.last))) x n with
    | .inl all => .inl ⟨all, x.Day⟩
    | .inr e => .inr e
def goS (day : Int) : List Ev → Nat → Cur → (Cur ⊕ Int) × Nat
  | [], n, s => (.inl s, n)
  | x :: l, n, s => if x.Day ≤ day then match stepS n s x with
      | .inl s' => goS day l (n + 1) s'
      | .inr e => (.inr e, n)
    else (.inl s, n)
def atS (day : Int) (s : Cur) : List Held := s.all.map (olderS (day - s.last))
def runS (day : Int) (l : List Ev) (n : Nat) (s : Cur) : (List Held ⊕ Int) × Nat := match goS day l n s with
  | (.inl s', k) => (.inl (atS day s'), k)
  | (.inr e, k) => (.inr e, k)
def playS (l : List Ev) (day : Int) : (List Held ⊕ Int) × Nat :=
  if l.length > 4096 then (.inr 3, 0) else if !inB day 0 65536 then (.inr 2, 0) else runS day l 0 ⟨[], 0⟩
def sum8 (f : Nat → Int) : Int := f 0 + f 1 + f 2 + f 3 + f 4 + f 5 + f 6 + f 7
structure TOk (age : Int) (f : Nat → Int) : Prop where
  pos : ∀ k, 0 ≤ f k
  out : ∀ k, 8 ≤ k → f k = 0
  sum : sum8 f ≤ age
theorem TOk.le {a : Int} {f : Nat → Int} (h : TOk a f) (k : Nat) : 0 ≤ f k ∧ f k ≤ a := by
  refine ⟨h.pos k, ?_⟩
  have h0 := h.pos 0; have h1 := h.pos 1; have h2 := h.pos 2; have h3 := h.pos 3; have h4 := h.pos 4; have h5 := h.pos 5; have h6 := h.pos 6; have h7 := h.pos 7
  have hs := h.sum
  unfold sum8 at hs
  match k with
  | 0 => omega
  | 1 => omega
  | 2 => omega
  | 3 => omega
  | 4 => omega
  | 5 => omega
  | 6 => omega
  | 7 => omega
  | k + 8 => have := h.out (k + 8) (by omega); omega
theorem TOk.zero {a : Int} (h : 0 ≤ a) : TOk a zN := ⟨fun _ => Int.le_refl 0, fun _ _ => rfl, by simpa [sum8] using h⟩
theorem updN_self {f : Nat → Int} {j : Nat} {v : Int} : updN f j v j = v := by simp [updN]
theorem updN_ne {f : Nat → Int} {j k : Nat} {v : Int} (h : k ≠ j) : updN f j v k = f k := by
  unfold updN
  have : Nat.beq k j = false := by
    cases hb : Nat.beq k j with
    | false => rfl
    | true => exact absurd (Nat.eq_of_beq_eq_true hb) h
  rw [this]
theorem TOk.upd {a n : Int} {f : Nat → Int} {j : Nat} (h : TOk a f) (hj : j < 8) (hn : 0 ≤ n) : TOk (a + n) (updN f j (f j + n)) := by
  refine ⟨fun k => ?_, fun k hk => ?_, ?_⟩
  · by_cases e : k = j
    · subst e; rw [updN_self]; have := h.pos k; omega
    · rw [updN_ne e]; exact h.pos k
  · rw [updN_ne (by omega)]; exact h.out k hk
  · have hs := h.sum
    unfold sum8 at hs ⊢
    match j, hj with
    | 0, _ => simp [updN]; omega
    | 1, _ => simp [updN]; omega
    | 2, _ => simp [updN]; omega
    | 3, _ => simp [updN]; omega
    | 4, _ => simp [updN]; omega
    | 5, _ => simp [updN]; omega
    | 6, _ => simp [updN]; omega
    | 7, _ => simp [updN]; omega
theorem imin_le {a b : Int} : imin a b ≤ a ∧ imin a b ≤ b ∧ (imin a b = a ∨ imin a b = b) := by unfold imin; split <;> omega
theorem TOk.min {a b : Int} {f g : Nat → Int} (h : TOk a f) (h' : TOk b g) : TOk (imin a b) (minN f g) := by
  refine ⟨fun k => ?_, fun k hk => ?_, ?_⟩
  · unfold minN
    have := h.pos k; have := h'.pos k
    split
    · have := imin_le (a := f k) (b := g k); omega
    · exact h.pos k
  · unfold minN; rw [if_neg (by omega)]; exact h.out k hk
  · have hs := h.sum
    have hs' := h'.sum
    unfold sum8 at hs hs' ⊢
    have e : ∀ k, k < 8 → minN f g k ≤ f k ∧ minN f g k ≤ g k := fun k hk => by
      unfold minN; rw [if_pos hk]; have := imin_le (a := f k) (b := g k); omega
    have e0 := e 0 (by decide); have e1 := e 1 (by decide); have e2 := e 2 (by decide); have e3 := e 3 (by decide); have e4 := e 4 (by decide); have e5 := e 5 (by decide); have e6 := e 6 (by decide); have e7 := e 7 (by decide)
    have := imin_le (a := a) (b := b)
    omega
structure HOk (last : Int) (n : Nat) (h : Held) : Prop where
  num : 0 ≤ h.C.Number ∧ h.C.Number ≤ 1073741824
  wood : 0 ≤ h.C.Wood ∧ h.C.Wood ≤ 7
  place : 0 ≤ h.C.Place ∧ h.C.Place ≤ 7
  room : 1 ≤ h.C.Room ∧ h.C.Room ≤ 1099511627776
  owner : 0 ≤ h.C.Owner ∧ h.C.Owner ≤ 1073741824
  cred : -1 ≤ h.C.Creditor ∧ h.C.Creditor ≤ 1073741824
  amt : 0 ≤ h.C.Amount ∧ h.C.Amount ≤ h.C.Room
  age : 0 ≤ h.C.Age ∧ h.C.Age ≤ last
  woods : TOk h.C.Age h.C.Woods
  places : TOk h.C.Age h.C.Places
  empty : h.C.Amount = 0 → h.C.Age = 0 ∧ h.C.Woods = zN ∧ h.C.Places = zN ∧ h.Fills = []
  fills : h.Fills.Pairwise (· < ·) ∧ ∀ f ∈ h.Fills, 0 ≤ f ∧ f < n
  some : 0 < h.C.Amount → h.Fills ≠ []
structure AOk (last : Int) (n : Nat) (l : List Held) : Prop where
  each : ∀ h ∈ l, HOk last n h
  nums : (l.map (·.C.Number)).Nodup
  few : l.length ≤ 256
structure SOk (n : Nat) (s : Cur) : Prop where
  day : 0 ≤ s.last ∧ s.last ≤ 65536
  ok : AOk s.last n s.all
theorem inB_iff {n a b : Int} : inB n a b = true ↔ a ≤ n ∧ n ≤ b := by simp [inB]
theorem older_ok {last n : Int} {m : Nat} {h : Held} (ho : HOk last m h) (hn : 0 ≤ n) : HOk (last + n) m (olderS n h) := by
  unfold olderS
  split
  · rename_i hp
    refine ⟨ho.num, ho.wood, ho.place, ho.room, ho.owner, ho.cred, ho.amt, ⟨by have := ho.age; simp; omega, by have := ho.age; simp; omega⟩, ho.woods.upd (by have := ho.wood; omega) hn, ho.places.upd (by have := ho.place; omega) hn, fun e => ?_, ho.fills, ho.some⟩
    have : h.C.Amount = 0 := e
    omega
  · exact ⟨ho.num, ho.wood, ho.place, ho.room, ho.owner, ho.cred, ho.amt, ⟨ho.age.1, by have := ho.age.2; omega⟩, ho.woods, ho.places, ho.empty, ho.fills, ho.some⟩
theorem older_num {n : Int} {h : Held} : (olderS n h).C.Number = h.C.Number := by unfold olderS; split <;> rfl
theorem older_all {last n : Int} {m : Nat} {l : List Held} (ho : AOk last m l) (hn : 0 ≤ n) : AOk (last + n) m (l.map (olderS n)) := by
  refine ⟨fun h hh => ?_, ?_, by simpa using ho.few⟩
  · obtain ⟨h0, h1, rfl⟩ := List.mem_map.1 hh
    exact older_ok (ho.each h0 h1) hn
  · rw [List.map_map]
    have : ((fun x : Held => x.C.Number) ∘ olderS n) = fun x => x.C.Number := funext fun x => older_num
    rw [this]; exact ho.nums
theorem older_add {a b : Int} {h : Held} : olderS b (olderS a h) = olderS (a + b) h := by
  unfold olderS
  by_cases hp : 0 < h.C.Amount
  · simp only [hp, if_true]
    have e : ∀ (f : Nat → Int) (j : Nat), updN (updN f j (f j + a)) j (updN f j (f j + a) j + b) = updN f j (f j + (a + b)) := fun f j => by
      funext k
      unfold updN
      cases hk : Nat.beq k j with
      | true => simp; omega
      | false => simp
    simp only [e]
    congr 2
    omega
  · simp only [hp, if_false]
end Go.Proofs.Ytkffpbnbjnadnaa
end

section
namespace Go.Proofs.Ytkffpbnbjnadnaa
open Go.Dec
theorem mem_insS {x y : Int} : ∀ {l : List Int}, y ∈ insS x l ↔ y = x ∨ y ∈ l
  | [] => by simp [insS]
  | z :: l => by
    simp only [insS]
    split
    · simp
    · split
      · rename_i h; have := (beq_iff_eq.1 h : x = z); subst this; simp
      · simp only [List.mem_cons, mem_insS (l := l)]
        constructor
        · rintro (h | h | h)
          · exact .inr (.inl h)
          · exact .inl h
          · exact .inr (.inr h)
        · rintro (h | h | h)
          · exact .inr (.inl h)
          · exact .inl h
          · exact .inr (.inr h)
theorem ins_sorted {x : Int} : ∀ {l : List Int}, l.Pairwise (· < ·) → (insS x l).Pairwise (· < ·)
  | [], _ => by simp [insS]
  | z :: l, h => by
    have hz := List.pairwise_cons.1 h
    simp only [insS]
    split
    · rename_i hlt
      refine List.pairwise_cons.2 ⟨fun a ha => ?_, h⟩
      rcases List.mem_cons.1 ha with rfl | ha
      · exact hlt
      · have := hz.1 a ha; omega
    · split
      · exact h
      · rename_i h1 h2
        have hne : x ≠ z := fun e => h2 (by simp [e])
        refine List.pairwise_cons.2 ⟨fun a ha => ?_, ins_sorted hz.2⟩
        rcases mem_insS.1 ha with rfl | ha
        · omega
        · exact hz.1 a ha
theorem mem_uniS {a b : List Int} {y : Int} : y ∈ uniS a b ↔ y ∈ a ∨ y ∈ b := by
  unfold uniS
  induction a with
  | nil => simp
  | cons x a ih => simp only [List.foldr_cons, mem_insS, ih, List.mem_cons, or_assoc]
theorem uni_sorted {a b : List Int} (h : b.Pairwise (· < ·)) : (uniS a b).Pairwise (· < ·) := by
  unfold uniS
  induction a with
  | nil => exact h
  | cons x a ih => exact ins_sorted ih
theorem find_some {n : Int} : ∀ {l : List Held} {i : Nat}, findS l n = some i → ∃ h, l[i]? = some h ∧ h.C.Number = n
  | [], _, h => by cases h
  | h :: l, i, e => by
    simp only [findS] at e
    split at e
    · rename_i hb
      cases e
      exact ⟨h, rfl, beq_iff_eq.1 hb⟩
    · cases hf : findS l n with
      | none => rw [hf] at e; cases e
      | some j =>
        rw [hf] at e
        simp only [Option.map_some, Option.some.injEq] at e
        subst e
        obtain ⟨h', h1, h2⟩ := find_some hf
        exact ⟨h', by simpa using h1, h2⟩
theorem find_none {n : Int} : ∀ {l : List Held}, findS l n = none → ∀ h ∈ l, h.C.Number ≠ n
  | [], _, _, h => by cases h
  | h :: l, e, h', hm => by
    simp only [findS] at e
    split at e
    · cases e
    · rename_i hb
      cases hf : findS l n with
      | some j => rw [hf] at e; cases e
      | none =>
        rcases List.mem_cons.1 hm with rfl | hm
        · intro e'; exact hb (by simp [e'])
        · exact find_none hf h' hm
theorem find_of {l : List Held} {i : Nat} {h : Held} (hn : (l.map (·.C.Number)).Nodup) (hi : l[i]? = some h) : findS l h.C.Number = some i := by
  cases hf : findS l h.C.Number with
  | none => exact absurd rfl (find_none hf h (List.mem_of_getElem? hi))
  | some j =>
    obtain ⟨h', hj, e⟩ := find_some hf
    have h1 : (l.map (·.C.Number))[i]? = some h.C.Number := by simp [hi]
    have h2 : (l.map (·.C.Number))[j]? = some h.C.Number := by simp [hj, e]
    have hil : i < (l.map (·.C.Number)).length := (List.getElem?_eq_some_iff.1 h1).1
    rw [(List.getElem?_inj hil hn).1 (h1.trans h2.symm)]
theorem HOk.up {last : Int} {n : Nat} {h : Held} (ho : HOk last n h) : HOk last (n + 1) h :=
  { ho with fills := ⟨ho.fills.1, fun f hf => by have := ho.fills.2 f hf; omega⟩ }
theorem AOk.set {last : Int} {n : Nat} {l : List Held} {i : Nat} {h h' : Held} (ho : AOk last n l) (hi : l[i]? = some h) (hh : HOk last n h') (hn : h'.C.Number = h.C.Number) : AOk last n (l.set i h') := by
  refine ⟨fun x hx => ?_, ?_, by simpa using ho.few⟩
  · rcases List.mem_or_eq_of_mem_set hx with h1 | h1
    · exact ho.each x h1
    · rw [h1]; exact hh
  · have : (l.set i h').map (·.C.Number) = l.map (·.C.Number) := by
      apply List.ext_getElem?
      intro j
      simp only [List.getElem?_map, List.getElem?_set]
      by_cases e : i = j
      · subst e
        have hlt := (List.getElem?_eq_some_iff.1 hi).1
        have hh := (List.getElem?_eq_some_iff.1 hi).2
        simp [hlt, hn, hh]
      · simp [e]
    rw [this]; exact ho.nums
theorem AOk.up {last : Int} {n : Nat} {l : List Held} (ho : AOk last n l) : AOk last (n + 1) l := ⟨fun h hh => (ho.each h hh).up, ho.nums, ho.few⟩
theorem pour_ok {last : Int} {m : Nat} {h s : Held} {n : Int} (ho : HOk last m h) (hn : 1 ≤ n) (hr : h.C.Amount + n ≤ h.C.Room) (ha : 0 ≤ s.C.Age ∧ s.C.Age ≤ last) (hw : TOk s.C.Age s.C.Woods) (hp : TOk s.C.Age s.C.Places) (hf : s.Fills.Pairwise (· < ·) ∧ ∀ f ∈ s.Fills, 0 ≤ f ∧ f < m) (hne : s.Fills ≠ []) : HOk last m (pourS h s n) := by
  unfold pourS
  split
  · rename_i h0
    have h0' : h.C.Amount = 0 := beq_iff_eq.1 h0
    refine ⟨ho.num, ho.wood, ho.place, ho.room, ho.owner, ho.cred, ⟨by show 0 ≤ h.C.Amount + n; omega, hr⟩, ha, hw, hp, fun e => ?_, hf, fun _ => hne⟩
    have : h.C.Amount + n = 0 := e
    omega
  · rename_i h0
    have hpos : 0 < h.C.Amount := by
      have := ho.amt.1
      have : h.C.Amount ≠ 0 := fun e => h0 (by simp [e])
      omega
    refine ⟨ho.num, ho.wood, ho.place, ho.room, ho.owner, ho.cred, ⟨by show 0 ≤ h.C.Amount + n; omega, hr⟩, ?_, ho.woods.min hw, ho.places.min hp, fun e => ?_, ?_, fun _ => ?_⟩
    · have := ho.age; have := imin_le (a := h.C.Age) (b := s.C.Age); show 0 ≤ imin _ _ ∧ imin _ _ ≤ last; omega
    · have : h.C.Amount + n = 0 := e
      omega
    · refine ⟨uni_sorted hf.1, fun f h1 => ?_⟩
      rcases mem_uniS.1 h1 with h1 | h1
      · exact ho.fills.2 f h1
      · exact hf.2 f h1
    · intro e
      have h1 := ho.some hpos
      cases hh : h.Fills with
      | nil => exact h1 hh
      | cons a t =>
        have : a ∈ uniS h.Fills s.Fills := mem_uniS.2 (.inl (by rw [hh]; simp))
        have e' : uniS h.Fills s.Fills = [] := e
        rw [e'] at this; cases this
theorem less_ok {last : Int} {m : Nat} {h : Held} {n : Int} (ho : HOk last m h) (hn : 1 ≤ n) (hr : n ≤ h.C.Amount) (hl : 0 ≤ last) : HOk last m (lessS h n) := by
  unfold lessS
  split
  · have hroom := ho.room
    exact ⟨ho.num, ho.wood, ho.place, ho.room, ho.owner, ho.cred, ⟨Int.le_refl 0, by show (0:Int) ≤ h.C.Room; omega⟩, ⟨Int.le_refl 0, hl⟩, TOk.zero (Int.le_refl 0), TOk.zero (Int.le_refl 0), fun _ => ⟨rfl, rfl, rfl, rfl⟩, ⟨List.Pairwise.nil, fun _ h => by cases h⟩, fun h => by have h' : (0 : Int) < 0 := h; omega⟩
  · rename_i h0
    have hne : h.C.Amount - n ≠ 0 := fun e => h0 (by simp [e])
    have ha := ho.amt
    refine ⟨ho.num, ho.wood, ho.place, ho.room, ho.owner, ho.cred, ⟨by show 0 ≤ h.C.Amount - n; omega, by show h.C.Amount - n ≤ h.C.Room; omega⟩, ho.age, ho.woods, ho.places, fun e => absurd e hne, ho.fills, fun _ => ho.some (by omega)⟩
theorem evB_base {x : Ev} (h : evB x = true) : (0 ≤ x.Day ∧ x.Day ≤ 65536) ∧ (0 ≤ x.Cask ∧ x.Cask ≤ 1073741824) := by
  simp only [evB, Bool.and_eq_true, inB_iff] at h
  exact ⟨h.1.1, h.1.2⟩
theorem ev0 {x : Ev} (h : evB x = true) (k : x.Kind = 0) : (0 ≤ x.Other ∧ x.Other ≤ 7) ∧ (0 ≤ x.Where ∧ x.Where ≤ 7) ∧ (1 ≤ x.Amount ∧ x.Amount ≤ 1099511627776) ∧ (0 ≤ x.Person ∧ x.Person ≤ 1073741824) := by
  simp only [evB, Bool.and_eq_true, inB_iff, k, BEq.rfl, if_true] at h
  obtain ⟨_, ⟨⟨⟨h1, h2⟩, h3⟩, h4⟩⟩ := h
  exact ⟨h1, h2, h3, h4⟩
theorem evTail {x : Ev} (h : evB x = true) : (if x.Kind == 0 then inB x.Other 0 7 && inB x.Where 0 7 && inB x.Amount 1 1099511627776 && inB x.Person 0 1073741824
   else if x.Kind == 1 || x.Kind == 3 then inB x.Amount 1 1099511627776
   else if x.Kind == 2 then inB x.Other 0 1073741824 && inB x.Amount 1 1099511627776
   else if x.Kind == 4 then inB x.Where 0 7
   else if x.Kind == 5 || x.Kind == 6 then inB x.Person 0 1073741824 && inB x.To 0 1073741824
   else if x.Kind == 7 then inB x.Person 0 1073741824
   else if x.Kind == 8 then inB x.Where 0 7 else false) = true := ((Bool.and_eq_true _ _).mp h).2
theorem evAmt {x : Ev} (h : evB x = true) (k : x.Kind = 1 ∨ x.Kind = 2 ∨ x.Kind = 3) : 1 ≤ x.Amount ∧ x.Amount ≤ 1099511627776 := by
  have h := evTail h
  rcases k with k | k | k <;> rw [k] at h
  · exact inB_iff.1 h
  · exact inB_iff.1 ((Bool.and_eq_true _ _).mp h).2
  · exact inB_iff.1 h
theorem ev4 {x : Ev} (h : evB x = true) (k : x.Kind = 4 ∨ x.Kind = 8) : 0 ≤ x.Where ∧ x.Where ≤ 7 := by
  have h := evTail h
  rcases k with k | k <;> rw [k] at h
  · exact inB_iff.1 h
  · exact inB_iff.1 h
theorem ev5 {x : Ev} (h : evB x = true) (k : x.Kind = 5 ∨ x.Kind = 6) : 0 ≤ x.To ∧ x.To ≤ 1073741824 := by
  have h := evTail h
  rcases k with k | k <;> rw [k] at h
  · exact inB_iff.1 ((Bool.and_eq_true _ _).mp h).2
  · exact inB_iff.1 ((Bool.and_eq_true _ _).mp h).2
theorem kinds {x : Ev} (h : evB x = true) : x.Kind = 0 ∨ x.Kind = 1 ∨ x.Kind = 2 ∨ x.Kind = 3 ∨ x.Kind = 4 ∨ x.Kind = 5 ∨ x.Kind = 6 ∨ x.Kind = 7 ∨ x.Kind = 8 := by
  have h := evTail h
  by_cases k0 : x.Kind = 0
  · exact .inl k0
  rw [if_neg (by simpa using k0)] at h
  by_cases k1 : x.Kind = 1
  · exact .inr (.inl k1)
  by_cases k3 : x.Kind = 3
  · exact .inr (.inr (.inr (.inl k3)))
  rw [if_neg (by simp [k1, k3])] at h
  by_cases k2 : x.Kind = 2
  · exact .inr (.inr (.inl k2))
  rw [if_neg (by simpa using k2)] at h
  by_cases k4 : x.Kind = 4
  · exact .inr (.inr (.inr (.inr (.inl k4))))
  rw [if_neg (by simpa using k4)] at h
  by_cases k5 : x.Kind = 5
  · exact .inr (.inr (.inr (.inr (.inr (.inl k5)))))
  by_cases k6 : x.Kind = 6
  · exact .inr (.inr (.inr (.inr (.inr (.inr (.inl k6))))))
  rw [if_neg (by simp [k5, k6])] at h
  by_cases k7 : x.Kind = 7
  · exact .inr (.inr (.inr (.inr (.inr (.inr (.inr (.inl k7)))))))
  rw [if_neg (by simpa using k7)] at h
  by_cases k8 : x.Kind = 8
  · exact .inr (.inr (.inr (.inr (.inr (.inr (.inr (.inr k8)))))))
  rw [if_neg (by simpa using k8)] at h
  cases h
section
variable {last : Int} {m : Nat} {l l' : List Held} {x : Ev} {i : Nat} {c : Held}
theorem make_ok (ho : AOk last m l) (hl : 0 ≤ last) (hv : evB x = true) (hk : x.Kind = 0) (h : makeD l x = .inl l') : AOk last (m + 1) l' := by
  unfold makeD at h
  split at h
  · cases h
  · rename_i hf
    split at h
    · cases h
    · rename_i hlen
      cases h
      obtain ⟨e1, e2, e3, e4⟩ := ev0 hv hk
      have e0 := (evB_base hv).2
      refine ⟨fun y hy => ?_, ?_, by simp; omega⟩
      · rcases List.mem_append.1 hy with hy | hy
        · exact (ho.each y hy).up
        · simp only [List.mem_singleton] at hy
          subst hy
          exact ⟨e0, e1, e2, e3, e4, by simp [newS], ⟨Int.le_refl 0, by show (0:Int) ≤ x.Amount; omega⟩, ⟨Int.le_refl 0, hl⟩, TOk.zero (Int.le_refl 0), TOk.zero (Int.le_refl 0), fun _ => ⟨rfl, rfl, rfl, rfl⟩, ⟨List.Pairwise.nil, fun _ h => by cases h⟩, fun h => by have h' : (0 : Int) < 0 := h; omega⟩
      · rw [List.map_append, List.nodup_append]
        refine ⟨ho.nums, by simp, fun a ha b hb => ?_⟩
        simp only [List.map_cons, List.map_nil, List.mem_singleton] at hb
        obtain ⟨y, hy, rfl⟩ := List.mem_map.1 ha
        subst hb
        have hf' : findS l x.Cask = none := by simpa using hf
        exact find_none hf' y hy
theorem fill_ok (ho : AOk last m l) (hl : 0 ≤ last) (hc : l[i]? = some c) (ha : 1 ≤ x.Amount) (h : fillD l i c x m = .inl l') : AOk last (m + 1) l' := by
  have hcm := ho.each c (List.mem_of_getElem? hc)
  unfold fillD at h
  split at h
  · cases h
  · rename_i hroom
    cases h
    refine (ho.up).set hc (pour_ok hcm.up ha (by omega) ⟨Int.le_refl 0, hl⟩ (TOk.zero (Int.le_refl 0)) (TOk.zero (Int.le_refl 0)) ⟨by simp [fillS], fun f hf => ?_⟩ (by simp [fillS])) ?_
    · simp only [fillS, List.mem_singleton] at hf
      subst hf; omega
    · unfold pourS; split <;> rfl
theorem rack_ok (ho : AOk last m l) (hl : 0 ≤ last) (hc : l[i]? = some c) (ha : 1 ≤ x.Amount) (h : rackD l i c x = .inl l') : AOk last (m + 1) l' := by
  have hcm := ho.each c (List.mem_of_getElem? hc)
  unfold rackD at h
  split at h
  · cases h
  · rename_i k hfk
    split at h
    · cases h
    · rename_i o hko
      have hom := ho.each o (List.mem_of_getElem? hko)
      unfold rackD2 at h
      split at h
      · cases h
      · rename_i hik
        have hik' : i ≠ k := fun e => hik (by simp [e])
        split at h
        · cases h
        · split at h
          · cases h
          · split at h
            · cases h
            · rename_i hsh hfu
              cases h
              have hpos : 0 < c.C.Amount := by omega
              have h1 := (ho.up).set hko (pour_ok (s := c) hom.up ha (by omega) hcm.age hcm.woods hcm.places hcm.up.fills (hcm.some hpos)) (by unfold pourS; split <;> rfl)
              refine h1.set (h := c) ?_ (less_ok hcm.up ha (by omega) hl) (by unfold lessS; split <;> rfl)
              rw [List.getElem?_set_ne (fun e => hik' e.symm)]; exact hc
theorem drain_ok (ho : AOk last m l) (hl : 0 ≤ last) (hc : l[i]? = some c) (ha : 1 ≤ x.Amount) (h : drainD l i c x = .inl l') : AOk last (m + 1) l' := by
  have hcm := ho.each c (List.mem_of_getElem? hc)
  unfold drainD at h
  split at h
  · cases h
  · split at h
    · cases h
    · cases h
      exact (ho.up).set hc (less_ok hcm.up ha (by omega) hl) (by unfold lessS; split <;> rfl)
theorem act_ok (ho : AOk last m l) (hl : 0 ≤ last) (hv : evB x = true) (h0 : x.Kind ≠ 0) (hc : l[i]? = some c) (h : actS l i c x m = .inl l') : AOk last (m + 1) l' := by
  have hcm := ho.each c (List.mem_of_getElem? hc)
  rcases kinds hv with k | k | k | k | k | k | k | k | k
  · exact absurd k h0
  · have h : fillD l i c x m = .inl l' := by rw [← h]; unfold actS; rw [k]; rfl
    exact fill_ok ho hl hc (evAmt hv (.inl k)).1 h
  · have h : rackD l i c x = .inl l' := by rw [← h]; unfold actS; rw [k]; rfl
    exact rack_ok ho hl hc (evAmt hv (.inr (.inl k))).1 h
  · have h : drainD l i c x = .inl l' := by rw [← h]; unfold actS; rw [k]; rfl
    exact drain_ok ho hl hc (evAmt hv (.inr (.inr k))).1 h
  · have h : carryD l i c x = .inl l' := by rw [← h]; unfold actS; rw [k]; rfl
    cases h
    exact (ho.up).set hc { hcm.up with place := ev4 hv (.inl k) } rfl
  · have h : sellD l i c x = .inl l' := by rw [← h]; unfold actS; rw [k]; rfl
    unfold sellD at h
    split at h
    · cases h
    · split at h
      · cases h
      · cases h
        exact (ho.up).set hc { hcm.up with owner := ev5 hv (.inl k) } rfl
  · have h : pledgeD l i c x = .inl l' := by rw [← h]; unfold actS; rw [k]; rfl
    unfold pledgeD at h
    split at h
    · cases h
    · split at h
      · cases h
      · cases h
        have := ev5 hv (.inr k)
        exact (ho.up).set hc { hcm.up with cred := ⟨by show -1 ≤ x.To; omega, this.2⟩ } rfl
  · have h : freeD l i c x = .inl l' := by rw [← h]; unfold actS; rw [k]; rfl
    unfold freeD at h
    split at h
    · cases h
    · cases h
      exact (ho.up).set hc { hcm.up with cred := ⟨Int.le_refl _, by show (-1:Int) ≤ _; omega⟩ } rfl
  · have h : charD l i c x = .inl l' := by rw [← h]; unfold actS; rw [k]; rfl
    unfold charD at h
    split at h
    · cases h
    · cases h
      exact (ho.up).set hc { hcm.up with wood := ev4 hv (.inr k) } rfl
theorem do_ok (ho : AOk last m l) (hl : 0 ≤ last) (hv : evB x = true) (h : doS l x m = .inl l') : AOk last (m + 1) l' := by
  unfold doS at h
  split at h
  · rename_i hk
    exact make_ok ho hl hv (beq_iff_eq.1 hk) h
  · rename_i hk
    split at h
    · cases h
    · split at h
      · cases h
      · rename_i c hc
        exact act_ok ho hl hv (fun e => hk (by simp [e])) hc h
end
theorem step_ok {n : Nat} {s s' : Cur} {x : Ev} (ho : SOk n s) (h : stepS n s x = .inl s') : SOk (n + 1) s' ∧ evB x = true ∧ s.last ≤ x.Day ∧ s'.last = x.Day := by
  unfold stepS at h
  split at h
  · cases h
  · rename_i hv
    have hv : evB x = true := by simpa using hv
    split at h
    · cases h
    · rename_i hd
      split at h
      · rename_i all hall
        cases h
        have hb := (evB_base hv).1
        have h1 := older_all ho.ok (n := x.Day - s.last) (by omega)
        have e : s.last + (x.Day - s.last) = x.Day := by omega
        rw [e] at h1
        exact ⟨⟨hb, do_ok h1 hb.1 hv hall⟩, hv, by omega, rfl⟩
      · cases h
theorem SOk.start : SOk 0 ⟨[], 0⟩ := ⟨⟨Int.le_refl 0, by decide⟩, ⟨fun _ h => (by cases h), List.nodup_nil, by simp⟩⟩
end Go.Proofs.Ytkffpbnbjnadnaa
end

section
namespace Go.Proofs.Ytkffpbnbjnadnaa
open Go.Dec
def minI (i : Nat) (f g : Nat → Int) : Nat → Int := fun k => if k < i then imin (f k) (g k) else f k
theorem minI_step {i : Nat} {f g : Nat → Int} : updN (minI i f g) i (imin (f i) (g i)) = minI (i + 1) f g := by
  funext k
  by_cases e : k = i
  · subst e; rw [updN_self]; unfold minI; rw [if_pos (by omega)]
  · rw [updN_ne e]; unfold minI
    by_cases h : k < i
    · rw [if_pos h, if_pos (by omega)]
    · rw [if_neg h, if_neg (by omega)]
theorem minI_0 {f g : Nat → Int} : minI 0 f g = f := by funext k; unfold minI; rw [if_neg (by omega)]
theorem evD {x : Ev} (h : evB x = true) : 0 ≤ x.Day ∧ x.Day ≤ 65536 := (evB_base h).1
theorem go_ok {day : Int} : ∀ (l : List Ev) (n : Nat) (s s' : Cur) (k : Nat), SOk n s → s.last ≤ day → goS day l n s = (.inl s', k) → SOk k s' ∧ s'.last ≤ day ∧ n ≤ k ∧ k ≤ n + l.length
  | [], n, s, s', k, ho, hd, h => by
    simp only [goS, Prod.mk.injEq, Sum.inl.injEq] at h
    obtain ⟨rfl, rfl⟩ := h
    exact ⟨ho, hd, Nat.le_refl _, by simp⟩
  | x :: l, n, s, s', k, ho, hd, h => by
    simp only [goS] at h
    by_cases hx : x.Day ≤ day
    · rw [if_pos hx] at h
      cases hs : stepS n s x with
      | inl s1 =>
        rw [hs] at h
        obtain ⟨h1, _, _, h4⟩ := step_ok ho hs
        obtain ⟨g1, g2, g3, g4⟩ := go_ok l (n + 1) s1 s' k h1 (by omega) h
        exact ⟨g1, g2, by omega, by simp; omega⟩
      | inr e => rw [hs] at h; cases h
    · rw [if_neg hx] at h
      simp only [Prod.mk.injEq, Sum.inl.injEq] at h
      obtain ⟨rfl, rfl⟩ := h
      exact ⟨ho, hd, Nat.le_refl _, by simp⟩
end Go.Proofs.Ytkffpbnbjnadnaa
end

section
namespace Go.Proofs.Ytkffpbnbjnadnaa
open Go.Dec
abbrev FM := List (List (Int × Bool))
def rawOf (c : CaskCask) (F : List Int) : Held := ⟨⟨c.number, c.wood, c.place, c.room, c.owner, c.creditor, c.amount, c.times.age, c.times.woods, c.times.places⟩, F⟩
def FR (A3 : FM) (p : Option Nat) (F : List Int) : Prop := match p with
  | none => F = []
  | some j => ∃ l, A3[j]? = some l ∧ (l.map Prod.fst).Nodup ∧ ∀ x, x ∈ F ↔ x ∈ l.map Prod.fst
structure CR (t : Int) (n : Nat) (A3 : FM) (c : CaskCask) (h : Held) : Prop where
  since : 0 ≤ c.since ∧ c.since ≤ t
  ok : HOk c.since n (rawOf c h.Fills)
  eq : h = olderS (t - c.since) (rawOf c h.Fills)
  fills : FR A3 c.fills h.Fills
structure PR (t : Int) (n : Nat) (all : List Held) (A1 : List CaskCask) (A3 : FM) (m : List (Int × Option Nat)) : Prop where
  len : A1.length = all.length
  each : ∀ (k : Nat) (c : CaskCask) (h : Held), A1[k]? = some c → all[k]? = some h → CR t n A3 c h
  map : m = A1.mapIdx (fun k c => (c.number, some k))
  apart : ∀ (i j : Nat) (ci cj : CaskCask) (q : Nat), A1[i]? = some ci → A1[j]? = some cj → ci.fills = some q → cj.fills = some q → i = j
theorem older_fills {n : Int} {h : Held} : (olderS n h).Fills = h.Fills := by unfold olderS; split <;> rfl
theorem older_0 {h : Held} : olderS 0 h = h := by
  unfold olderS
  split
  · have e : ∀ (f : Nat → Int) (j : Nat), updN f j (f j) = f := fun f j => by
      funext k
      by_cases e : k = j
      · subst e; rw [updN_self]
      · rw [updN_ne e]
    simp only [Int.add_zero, e]
  · rfl
theorem CR.number {t : Int} {n : Nat} {A3 : FM} {c : CaskCask} {h : Held} (r : CR t n A3 c h) : h.C.Number = c.number := by rw [r.eq, older_num]; rfl
theorem CR.shift {t t' : Int} {n : Nat} {A3 : FM} {c : CaskCask} {h : Held} (r : CR t n A3 c h) (le : t ≤ t') : CR t' n A3 c (olderS (t' - t) h) := by
  refine ⟨⟨r.since.1, by have := r.since.2; omega⟩, ?_, ?_, ?_⟩
  · rw [older_fills]; exact r.ok
  · rw [older_fills]
    conv => lhs; rw [r.eq]
    rw [older_add]
    congr 1
    omega
  · rw [older_fills]; exact r.fills
theorem PR.shift {t t' : Int} {n : Nat} {all : List Held} {A1 : List CaskCask} {A3 : FM} {m : List (Int × Option Nat)} (r : PR t n all A1 A3 m) (le : t ≤ t') : PR t' n (all.map (olderS (t' - t))) A1 A3 m := by
  refine ⟨by simpa using r.len, fun k c h hc hh => ?_, r.map, r.apart⟩
  rw [List.getElem?_map] at hh
  cases h0 : all[k]? with
  | none => rw [h0] at hh; cases hh
  | some h1 =>
    rw [h0] at hh
    simp only [Option.map_some, Option.some.injEq] at hh
    subst hh
    exact (r.each k c h1 hc h0).shift le
def restC (t : Int) (c : CaskCask) : CaskCask :=
  if 0 < c.amount then { c with since := t, times := ⟨c.times.age + (t - c.since), updN c.times.woods c.wood.toNat (c.times.woods c.wood.toNat + (t - c.since)), updN c.times.places c.place.toNat (c.times.places c.place.toNat + (t - c.since))⟩ } else { c with since := t }
theorem raw_rest {t : Int} {c : CaskCask} {F : List Int} : rawOf (restC t c) F = olderS (t - c.since) (rawOf c F) := by
  unfold restC olderS
  by_cases h : 0 < c.amount
  · rw [if_pos h, if_pos (show 0 < (rawOf c F).C.Amount from h)]; rfl
  · rw [if_neg h, if_neg (show ¬ 0 < (rawOf c F).C.Amount from h)]; rfl
theorem rest_since {t : Int} {c : CaskCask} : (restC t c).since = t := by unfold restC; split <;> rfl
theorem rest_number {t : Int} {c : CaskCask} : (restC t c).number = c.number := by unfold restC; split <;> rfl
theorem rest_fillsC {t : Int} {c : CaskCask} : (restC t c).fills = c.fills := by unfold restC; split <;> rfl
theorem CR.rest {t : Int} {n : Nat} {A3 : FM} {c : CaskCask} {h : Held} (r : CR t n A3 c h) : CR t n A3 (restC t c) h := by
  refine ⟨⟨by rw [rest_since]; have := r.since; omega, by rw [rest_since]; exact Int.le_refl t⟩, ?_, ?_, by rw [rest_fillsC]; exact r.fills⟩
  · rw [raw_rest, rest_since]
    have := older_ok r.ok (n := t - c.since) (by have := r.since; omega)
    have e : c.since + (t - c.since) = t := by omega
    rwa [e] at this
  · rw [raw_rest, rest_since, Int.sub_self, older_0]
    exact r.eq
theorem rest_prog {A1 : List CaskCask} {k : Nat} {c : CaskCask} {t : Int} {n : Nat} {F : List Int} (hc : A1[k]? = some c) (ho : HOk c.since n (rawOf c F)) (_h0 : 0 ≤ c.since) (h1 : c.since ≤ t) (ht : t ≤ 1000000) :
    m_cask_cask_rest A1 (some k) t = some (A1.set k (restC t c)) := by
  have hk : k < A1.length := (List.getElem?_eq_some_iff.1 hc).1
  have hage := ho.age
  have hwood := ho.wood
  have hplace := ho.place
  have ew : idxO 8 c.wood = some c.wood.toNat := by unfold idxO; rw [if_pos (by have : 0 ≤ c.wood ∧ c.wood ≤ 7 := hwood; omega)]
  have ep : idxO 8 c.place = some c.place.toNat := by unfold idxO; rw [if_pos (by have : 0 ≤ c.place ∧ c.place ≤ 7 := hplace; omega)]
  have w1 : 0 ≤ c.times.woods c.wood.toNat ∧ c.times.woods c.wood.toNat ≤ c.times.age := ho.woods.le _
  have p1 : 0 ≤ c.times.places c.place.toNat ∧ c.times.places c.place.toNat ≤ c.times.age := ho.places.le _
  have ha : 0 ≤ c.times.age ∧ c.times.age ≤ c.since := hage
  unfold m_cask_cask_rest
  simp only [Option.bind_some, hc, bindv]
  rw [w64_id (n := t - c.since) (by omega) (by omega)]
  by_cases hp : 0 < c.amount
  · rw [if_pos (by simpa using hp)]
    simp only [ew, ep, Option.bind_some, List.set_set]
    rw [w64_id (n := c.times.age + (t - c.since)) (by omega) (by omega), w64_id (n := c.times.woods c.wood.toNat + (t - c.since)) (by omega) (by omega), w64_id (n := c.times.places c.place.toNat + (t - c.since)) (by omega) (by omega)]
    simp only [restC, hp, if_true]
  · rw [if_neg (by simpa using hp)]
    simp only [restC, hp, if_false]
theorem mapGet_idx {num : Int} : ∀ (A1 : List CaskCask) (all : List Held) (k0 : Nat), A1.length = all.length → (∀ (k : Nat) (c : CaskCask) (h : Held), A1[k]? = some c → all[k]? = some h → h.C.Number = c.number) →
    (mapGet (A1.mapIdx (fun k c => (c.number, some (k0 + k)))) num).getD none = (findS all num).map (k0 + ·)
  | [], [], _, _, _ => rfl
  | [], _ :: _, _, h, _ => by simp at h
  | _ :: _, [], _, h, _ => by simp at h
  | c :: A1, h :: all, k0, hl, hn => by
    have h0 := hn 0 c h rfl rfl
    rw [List.mapIdx_cons]
    simp only [mapGet, findS]
    by_cases e : num = c.number
    · have e1 : (num == c.number) = true := by simpa using e
      have e2 : (h.C.Number == num) = true := by simp [h0, e]
      simp [e1, e2]
    · have e1 : (num == c.number) = false := by simpa using e
      have e2 : (h.C.Number == num) = false := by simp [h0]; exact fun e' => e e'.symm
      have ih := mapGet_idx (num := num) A1 all (k0 + 1) (by simpa using hl) (fun k c h h1 h2 => hn (k + 1) c h (by simpa using h1) (by simpa using h2))
      simp only [e1, e2, Bool.false_eq_true, if_false]
      have e3 : (fun (i : Nat) (a : CaskCask) => (a.number, some (k0 + (i + 1)))) = fun k c => (c.number, some (k0 + 1 + k)) := by funext i a; rw [show k0 + (i + 1) = k0 + 1 + i by omega]
      rw [e3, ih]
      cases findS all num with
      | none => rfl
      | some j => simp; omega
theorem PR.get {t : Int} {n : Nat} {all : List Held} {A1 : List CaskCask} {A3 : FM} {m : List (Int × Option Nat)} (r : PR t n all A1 A3 m) (num : Int) : (mapGet m num).getD none = findS all num := by
  have := mapGet_idx (num := num) A1 all 0 r.len (fun k c h h1 h2 => (r.each k c h h1 h2).number)
  rw [r.map]
  simpa using this
end Go.Proofs.Ytkffpbnbjnadnaa
end

section
namespace Go.Proofs.Ytkffpbnbjnadnaa
open Go.Dec
theorem CR.up {t : Int} {n : Nat} {A3 : FM} {c : CaskCask} {h : Held} (r : CR t n A3 c h) : CR t (n + 1) A3 c h := ⟨r.since, r.ok.up, r.eq, r.fills⟩
theorem FR.keep {A3 A3' : FM} {p : Option Nat} {F : List Int} (r : FR A3 p F) (h : ∀ q, p = some q → A3'[q]? = A3[q]?) : FR A3' p F := by
  cases p with
  | none => exact r
  | some q => obtain ⟨l, h1, h2⟩ := r; exact ⟨l, by rw [h q rfl]; exact h1, h2⟩
theorem mapIdx_set {A1 : List CaskCask} {k : Nat} {c c' : CaskCask} (hc : A1[k]? = some c) (hn : c'.number = c.number) : (A1.set k c').mapIdx (fun k c => (c.number, some k)) = A1.mapIdx (fun k (c : CaskCask) => (c.number, some k)) := by
  apply List.ext_getElem?
  intro i
  simp only [List.getElem?_mapIdx, List.getElem?_set]
  by_cases e : k = i
  · subst e
    have hlt := (List.getElem?_eq_some_iff.1 hc).1
    have hx := (List.getElem?_eq_some_iff.1 hc).2
    simp [hlt, hn, hx]
  · simp [e]
section
variable {t : Int} {n n' : Nat} {all : List Held} {A1 : List CaskCask} {A3 A3' : FM} {m : List (Int × Option Nat)} {k : Nat} {c c' : CaskCask} {h h' : Held}
theorem PR.set (r : PR t n all A1 A3 m) (hc : A1[k]? = some c) (hh : all[k]? = some h) (hn' : c'.number = c.number) (hcr : CR t n' A3' c' h') (hother : ∀ (i : Nat) (ci : CaskCask) (hi : Held), i ≠ k → A1[i]? = some ci → all[i]? = some hi → CR t n' A3' ci hi)
    (hap : ∀ (i : Nat) (ci : CaskCask) (q : Nat), i ≠ k → A1[i]? = some ci → ci.fills = some q → c'.fills ≠ some q) : PR t n' (all.set k h') (A1.set k c') A3' m := by
  have hk := (List.getElem?_eq_some_iff.1 hc).1
  have hk2 := (List.getElem?_eq_some_iff.1 hh).1
  refine ⟨by simpa using r.len, fun i ci hi h1 h2 => ?_, by rw [mapIdx_set hc hn']; exact r.map, fun i j ci cj q h1 h2 h3 h4 => ?_⟩
  · by_cases e : k = i
    · subst e
      rw [List.getElem?_set_self hk] at h1
      rw [List.getElem?_set_self hk2] at h2
      cases h1; cases h2; exact hcr
    · rw [List.getElem?_set_ne e] at h1 h2
      exact hother i ci hi (fun e' => e e'.symm) h1 h2
  · by_cases e : k = i
    · by_cases e2 : k = j
      · rw [← e, ← e2]
      · subst e
        rw [List.getElem?_set_self hk] at h1
        rw [List.getElem?_set_ne e2] at h2
        cases h1
        exact absurd h3 (hap j cj q (fun e' => e2 e'.symm) h2 h4)
    · rw [List.getElem?_set_ne e] at h1
      by_cases e2 : k = j
      · subst e2
        rw [List.getElem?_set_self hk] at h2
        cases h2
        exact absurd h4 (hap i ci q (fun e' => e e'.symm) h1 h3)
      · rw [List.getElem?_set_ne e2] at h2
        exact r.apart i j ci cj q h1 h2 h3 h4
theorem PR.set1 (r : PR t n all A1 A3 m) (hc : A1[k]? = some c) (hh : all[k]? = some h) (hn' : c'.number = c.number) (hcr : CR t (n + 1) A3 c' h') (hf : c'.fills = c.fills ∨ c'.fills = none) : PR t (n + 1) (all.set k h') (A1.set k c') A3 m :=
  r.set hc hh hn' hcr (fun i ci hi _ h1 h2 => (r.each i ci hi h1 h2).up) (fun i ci q hi h1 h2 h3 => by
    rcases hf with hf | hf
    · rw [hf] at h3; exact hi (r.apart i k ci c q h1 hc h2 h3)
    · rw [hf] at h3; cases h3)
theorem PR.rest (r : PR t n all A1 A3 m) (hc : A1[k]? = some c) : PR t n all (A1.set k (restC t c)) A3 m := by
  have hk := (List.getElem?_eq_some_iff.1 hc).1
  have hk2 : k < all.length := by rw [← r.len]; exact hk
  have hh : all[k]? = some all[k] := List.getElem?_eq_getElem hk2
  have := r.set (n' := n) (A3' := A3) (c' := restC t c) (h' := all[k]) hc hh rest_number (r.each k c _ hc hh).rest (fun i ci hi _ h1 h2 => r.each i ci hi h1 h2) (fun i ci q hi h1 h2 h3 => by
    rw [rest_fillsC] at h3; exact hi (r.apart i k ci c q h1 hc h2 h3))
  rwa [List.set_getElem_self] at this
theorem find_prog {x20 : CaskBook} {num : Int} (r : PR t n all A1 A3 m) (ht : t ≤ 1000000) (hb : x20.casks = some 0) :
    (findS all num = none ∧ m_cask_book_find A1 [x20] [m] (some 0) num t = some (.pan ⟨4⟩)) ∨
    (∃ k h c, findS all num = some k ∧ all[k]? = some h ∧ h.C.Number = num ∧ PR t n all (A1.set k c) A3 m ∧ (A1.set k c)[k]? = some c ∧ c.since = t ∧ h = rawOf c h.Fills ∧ HOk t n h ∧ m_cask_book_find A1 [x20] [m] (some 0) num t = some (.ok (some k, A1.set k c))) := by
  have hget := r.get num
  unfold m_cask_book_find
  simp only [Option.bind_some, List.getElem?_cons_zero, hb, hget]
  cases hf : findS all num with
  | none =>
    left
    exact ⟨rfl, rfl⟩
  | some k =>
    right
    obtain ⟨h, hh, hnum⟩ := find_some hf
    have hk2 := (List.getElem?_eq_some_iff.1 hh).1
    have hk : k < A1.length := by rw [r.len]; exact hk2
    have hc : A1[k]? = some A1[k] := List.getElem?_eq_getElem hk
    have hcr := r.each k _ h hc hh
    have hcr2 := hcr.rest
    have hraw : h = rawOf (restC t A1[k]) h.Fills := by
      have := hcr2.eq
      rw [rest_since, Int.sub_self, older_0] at this
      exact this
    have hok : HOk t n h := by
      have := hcr2.ok
      rw [rest_since, ← hraw] at this
      exact this
    refine ⟨k, h, restC t A1[k], rfl, hh, hnum, r.rest hc, List.getElem?_set_self hk, rest_since, hraw, hok, ?_⟩
    show bindX (m_cask_need true 4) _ _ = _
    have e1 : m_cask_need true 4 = some (.ok ()) := rfl
    rw [e1]
    simp only [bindX]
    rw [rest_prog hc hcr.ok hcr.since.1 hcr.since.2 ht]
    rfl
end
def Does (t : Int) (n : Nat) (r : List Held ⊕ Int) (o : Option (Out CaskMisfit (List CaskCask × FM × List (List (Int × Option Nat))))) : Prop := match r with
  | .inl all' => ∃ A1' A3' m', o = some (.ok (A1', A3', [m'])) ∧ PR t (n + 1) all' A1' A3' m'
  | .inr e => o = some (.pan ⟨e⟩) ∧ e ≠ 0
section
variable {t : Int} {n : Nat} {all : List Held} {A1 : List CaskCask} {A3 : FM} {m : List (Int × Option Nat)} {b : CaskBook} {x : Ev}
theorem CR.of_raw {c : CaskCask} {F : List Int} (h0 : 0 ≤ t) (hs : c.since = t) (ho : HOk t n (rawOf c F)) (hf : FR A3 c.fills F) : CR t n A3 c (rawOf c F) :=
  ⟨by omega, by rw [hs]; exact ho, by rw [hs, Int.sub_self, older_0]; rfl, hf⟩
theorem carry_prog (r : PR t n all A1 A3 m) (h0 : 0 ≤ t) (ht : t ≤ 65536) (hb : b.casks = some 0) (hv : evB x = true) (hk : x.Kind = 4) (hd : x.Day = t) : Does t n (doS all x n) (m_cask_book_carry A1 [b] A3 [m] (some 0) x) := by
  unfold m_cask_book_carry doS
  rw [if_neg (by rw [hk]; decide), hd]
  rcases find_prog (num := x.Cask) r (by omega) hb with ⟨hf, hm⟩ | ⟨k, h, c, hf, hh, hnum, hr, hc, hs, hraw, hok, hm⟩
  · rw [hf, hm]; exact ⟨rfl, by decide⟩
  · rw [hf, hm]
    simp only [hh, bindX, Option.bind_some, hc, bindv, List.set_set]
    have hact : actS all k h x n = carryD all k h x := by unfold actS; rw [hk]; rfl
    rw [hact]
    refine ⟨_, _, _, rfl, ?_⟩
    have hcr := hr.each k c h hc hh
    have h2 : PR t (n + 1) (all.set k (rawOf { c with place := x.Where } h.Fills)) ((A1.set k c).set k { c with place := x.Where }) A3 m := hr.set1 hc hh rfl (CR.of_raw h0 hs (by
      have := hok.up
      rw [hraw] at this
      exact { this with place := ev4 hv (.inl hk) }) hcr.fills) (.inl rfl)
    rw [List.set_set] at h2
    have e : rawOf { c with place := x.Where } h.Fills = { h with C := { h.C with Place := x.Where } } := by
      conv => rhs; rw [hraw]
      rfl
    rw [e] at h2
    exact h2
theorem turn1 {k : Nat} {h h' : Held} {c c' : CaskCask} {r : List Held ⊕ Int} (hr : PR t n all (A1.set k c) A3 m) (hh : all[k]? = some h) (hc : (A1.set k c)[k]? = some c) (h0 : 0 ≤ t) (hs : c'.since = t) (hn : c'.number = c.number) (hf : c'.fills = c.fills ∨ c'.fills = none) {F : List Int} (he : h' = rawOf c' F) (ho : HOk t (n + 1) h') (hfr : FR A3 c'.fills F) (hres : r = .inl (all.set k h')) : Does t n r (some (.ok (A1.set k c', A3, [m]))) := by
  subst hres
  subst he
  refine ⟨_, _, _, rfl, ?_⟩
  have h2 := hr.set1 hc hh hn (CR.of_raw h0 hs ho hfr) hf
  rwa [List.set_set] at h2
theorem creq {a : Int} (h : -1 ≤ a) : (a == (-1)) = !decide (a ≥ 0) := by
  by_cases e : a = -1
  · subst e; rfl
  · have h1 : (a == (-1)) = false := by simpa using e
    rw [h1, decide_eq_true (show a ≥ 0 by omega)]; rfl
theorem sell_prog (r : PR t n all A1 A3 m) (h0 : 0 ≤ t) (ht : t ≤ 65536) (hb : b.casks = some 0) (hv : evB x = true) (hk : x.Kind = 5) (hd : x.Day = t) : Does t n (doS all x n) (m_cask_book_sell A1 [b] A3 [m] (some 0) x) := by
  unfold m_cask_book_sell doS
  rw [if_neg (by rw [hk]; decide), hd]
  rcases find_prog (num := x.Cask) r (by omega) hb with ⟨hf, hm⟩ | ⟨k, h, c, hf, hh, hnum, hr, hc, hs, hraw, hok, hm⟩
  · rw [hf, hm]; exact ⟨rfl, by decide⟩
  · rw [hf, hm]
    simp only [hh, bindX, Option.bind_some, hc, bindv, List.set_set]
    have hact : actS all k h x n = sellD all k h x := by unfold actS; rw [hk]; rfl
    rw [hact]
    have hcr := hr.each k c h hc hh
    have ho : h.C.Owner = c.owner := by rw [hraw]; rfl
    have hcd : h.C.Creditor = c.creditor := by rw [hraw]; rfl
    have hcred := hok.cred
    rw [hcd] at hcred
    unfold sellD
    rw [ho, hcd]
    by_cases h1 : c.owner = x.Person
    · have e1 : (c.owner == x.Person) = true := by simpa using h1
      have e2 : (c.owner != x.Person) = false := by simpa using h1
      simp only [e1, e2, if_true, Bool.false_or, creq hcred.1]
      by_cases h2 : c.creditor ≥ 0
      · simp only [h2, decide_true, Bool.not_true, if_true]
        exact ⟨rfl, by decide⟩
      · simp only [h2, decide_false, Bool.not_false, Bool.false_eq_true, if_false]
        by_cases h3 : x.To = c.owner
        · have e3 : (x.To == c.owner) = true := by simpa using h3
          have e4 : (x.To != c.owner) = false := by simpa using h3
          simp only [e3, e4, if_true]
          exact ⟨rfl, by decide⟩
        · have e3 : (x.To == c.owner) = false := by simpa using h3
          have e4 : (x.To != c.owner) = true := by simpa using h3
          simp only [e3, e4, Bool.false_eq_true, if_false]
          exact turn1 (h' := { h with C := { h.C with Owner := x.To } }) (c' := { c with owner := x.To }) (F := h.Fills) hr hh hc h0 hs rfl (.inl rfl) (congrArg (fun z : Held => { z with C := { z.C with Owner := x.To } }) hraw) { hok.up with owner := ev5 hv (.inl hk) } hcr.fills rfl
    · have e1 : (c.owner == x.Person) = false := by simpa using h1
      have e2 : (c.owner != x.Person) = true := by simpa using h1
      simp only [e1, e2, Bool.true_or, if_true, Bool.false_eq_true, if_false]
      exact ⟨rfl, by decide⟩
theorem pledge_prog (r : PR t n all A1 A3 m) (h0 : 0 ≤ t) (ht : t ≤ 65536) (hb : b.casks = some 0) (hv : evB x = true) (hk : x.Kind = 6) (hd : x.Day = t) : Does t n (doS all x n) (m_cask_book_pledge A1 [b] A3 [m] (some 0) x) := by
  unfold m_cask_book_pledge doS
  rw [if_neg (by rw [hk]; decide), hd]
  rcases find_prog (num := x.Cask) r (by omega) hb with ⟨hf, hm⟩ | ⟨k, h, c, hf, hh, hnum, hr, hc, hs, hraw, hok, hm⟩
  · rw [hf, hm]; exact ⟨rfl, by decide⟩
  · rw [hf, hm]
    simp only [hh, bindX, Option.bind_some, hc, bindv, List.set_set]
    have hact : actS all k h x n = pledgeD all k h x := by unfold actS; rw [hk]; rfl
    rw [hact]
    have hcr := hr.each k c h hc hh
    have ho : h.C.Owner = c.owner := by rw [hraw]; rfl
    have hcd : h.C.Creditor = c.creditor := by rw [hraw]; rfl
    have hcred := hok.cred
    rw [hcd] at hcred
    unfold pledgeD
    rw [ho, hcd]
    by_cases h1 : c.owner = x.Person
    · have e1 : (c.owner == x.Person) = true := by simpa using h1
      have e2 : (c.owner != x.Person) = false := by simpa using h1
      simp only [e1, e2, Bool.false_eq_true, if_false, creq hcred.1]
      by_cases h2 : c.creditor ≥ 0
      · simp only [h2, decide_true, Bool.not_true, if_true]
        exact ⟨rfl, by decide⟩
      · simp only [h2, decide_false, Bool.not_false, if_false]
        have := ev5 hv (.inr hk)
        exact turn1 (h' := { h with C := { h.C with Creditor := x.To } }) (c' := { c with creditor := x.To }) (F := h.Fills) hr hh hc h0 hs rfl (.inl rfl) (congrArg (fun z : Held => { z with C := { z.C with Creditor := x.To } }) hraw) { hok.up with cred := ⟨by show -1 ≤ x.To; omega, this.2⟩ } hcr.fills rfl
    · have e1 : (c.owner == x.Person) = false := by simpa using h1
      have e2 : (c.owner != x.Person) = true := by simpa using h1
      simp only [e1, e2, if_true]
      exact ⟨rfl, by decide⟩
theorem free_prog (r : PR t n all A1 A3 m) (h0 : 0 ≤ t) (ht : t ≤ 65536) (hb : b.casks = some 0) (_hv : evB x = true) (hk : x.Kind = 7) (hd : x.Day = t) : Does t n (doS all x n) (m_cask_book_free A1 [b] A3 [m] (some 0) x) := by
  unfold m_cask_book_free doS
  rw [if_neg (by rw [hk]; decide), hd]
  rcases find_prog (num := x.Cask) r (by omega) hb with ⟨hf, hm⟩ | ⟨k, h, c, hf, hh, hnum, hr, hc, hs, hraw, hok, hm⟩
  · rw [hf, hm]; exact ⟨rfl, by decide⟩
  · rw [hf, hm]
    simp only [hh, bindX, Option.bind_some, hc, bindv, List.set_set]
    have hact : actS all k h x n = freeD all k h x := by unfold actS; rw [hk]; rfl
    rw [hact]
    have hcr := hr.each k c h hc hh
    have hcd : h.C.Creditor = c.creditor := by rw [hraw]; rfl
    unfold freeD
    rw [hcd]
    by_cases h1 : c.creditor = x.Person
    · have e1 : (c.creditor == x.Person) = true := by simpa using h1
      have e2 : (c.creditor != x.Person) = false := by simpa using h1
      simp only [e1, e2, Bool.false_eq_true, if_false]
      exact turn1 (h' := { h with C := { h.C with Creditor := -1 } }) (c' := { c with creditor := -1 }) (F := h.Fills) hr hh hc h0 hs rfl (.inl rfl) (congrArg (fun z : Held => { z with C := { z.C with Creditor := -1 } }) hraw) { hok.up with cred := ⟨Int.le_refl _, by show (-1:Int) ≤ _; omega⟩ } hcr.fills rfl
    · have e1 : (c.creditor == x.Person) = false := by simpa using h1
      have e2 : (c.creditor != x.Person) = true := by simpa using h1
      simp only [e1, e2, if_true]
      exact ⟨rfl, by decide⟩
theorem char_prog (r : PR t n all A1 A3 m) (h0 : 0 ≤ t) (ht : t ≤ 65536) (hb : b.casks = some 0) (hv : evB x = true) (hk : x.Kind = 8) (hd : x.Day = t) : Does t n (doS all x n) (m_cask_book_char A1 [b] A3 [m] (some 0) x) := by
  unfold m_cask_book_char doS
  rw [if_neg (by rw [hk]; decide), hd]
  rcases find_prog (num := x.Cask) r (by omega) hb with ⟨hf, hm⟩ | ⟨k, h, c, hf, hh, hnum, hr, hc, hs, hraw, hok, hm⟩
  · rw [hf, hm]; exact ⟨rfl, by decide⟩
  · rw [hf, hm]
    simp only [hh, bindX, Option.bind_some, hc, bindv, List.set_set]
    have hact : actS all k h x n = charD all k h x := by unfold actS; rw [hk]; rfl
    rw [hact]
    have hcr := hr.each k c h hc hh
    have hca : h.C.Amount = c.amount := by rw [hraw]; rfl
    have hamt := hok.amt
    rw [hca] at hamt
    unfold charD
    rw [hca]
    by_cases h1 : c.amount = 0
    · have e1 : (c.amount == 0) = true := by simpa using h1
      have e2 : ¬ c.amount > 0 := by omega
      simp only [e1, e2, if_false]
      exact turn1 (h' := { h with C := { h.C with Wood := x.Where } }) (c' := { c with wood := x.Where }) (F := h.Fills) hr hh hc h0 hs rfl (.inl rfl) (congrArg (fun z : Held => { z with C := { z.C with Wood := x.Where } }) hraw) { hok.up with wood := ev4 hv (.inr hk) } hcr.fills rfl
    · have e1 : (c.amount == 0) = false := by simpa using h1
      have e2 : c.amount > 0 := by omega
      simp only [e1, e2, if_true]
      exact ⟨rfl, by decide⟩
end
end Go.Proofs.Ytkffpbnbjnadnaa
end

section
namespace Go.Proofs.Ytkffpbnbjnadnaa
open Go.Dec
def drawC (c : CaskCask) (n : Int) : CaskCask := if c.amount - n == 0 then { c with amount := 0, times := ⟨0, zN, zN⟩, fills := none } else { c with amount := c.amount - n }
theorem raw_draw {c : CaskCask} {n : Int} {F : List Int} : lessS (rawOf c F) n = rawOf (drawC c n) (lessS (rawOf c F) n).Fills := by
  unfold lessS drawC
  by_cases e : (c.amount - n == 0) = true
  · rw [if_pos e, if_pos (show ((rawOf c F).C.Amount - n == 0) = true from e)]; rfl
  · rw [if_neg e, if_neg (show ¬ ((rawOf c F).C.Amount - n == 0) = true from e)]; rfl
theorem draw_fills {c : CaskCask} {n : Int} : (drawC c n).fills = c.fills ∨ (drawC c n).fills = none := by
  unfold drawC; split
  · exact .inr rfl
  · exact .inl rfl
theorem draw_since {c : CaskCask} {n : Int} : (drawC c n).since = c.since := by unfold drawC; split <;> rfl
theorem draw_number {c : CaskCask} {n : Int} : (drawC c n).number = c.number := by unfold drawC; split <;> rfl
theorem draw_FR {A3 : FM} {c : CaskCask} {n : Int} {F : List Int} (h : FR A3 c.fills F) : FR A3 (drawC c n).fills (lessS (rawOf c F) n).Fills := by
  unfold lessS drawC
  by_cases e : (c.amount - n == 0) = true
  · rw [if_pos e, if_pos (show ((rawOf c F).C.Amount - n == 0) = true from e)]; rfl
  · rw [if_neg e, if_neg (show ¬ ((rawOf c F).C.Amount - n == 0) = true from e)]; exact h
theorem draw_prog {A1 : List CaskCask} {k : Nat} {c : CaskCask} {n : Int} (hc : A1[k]? = some c) (h1 : 0 ≤ c.amount ∧ c.amount ≤ 1099511627776) (h2 : 0 ≤ n ∧ n ≤ 1099511627776) : m_cask_cask_draw A1 (some k) n = some (A1.set k (drawC c n)) := by
  unfold m_cask_cask_draw
  simp only [Option.bind_some, hc, bindv, List.set_set]
  rw [w64_id (n := c.amount - n) (by omega) (by omega)]
  unfold drawC
  by_cases e : (c.amount - n == 0) = true
  · have e0 : c.amount - n = 0 := beq_iff_eq.1 e
    rw [if_pos e, if_pos e]
    simp only [e0]
  · rw [if_neg e, if_neg e]
section
variable {t : Int} {n : Nat} {all : List Held} {A1 : List CaskCask} {A3 : FM} {m : List (Int × Option Nat)} {b : CaskBook} {x : Ev}
theorem drain_prog (r : PR t n all A1 A3 m) (h0 : 0 ≤ t) (ht : t ≤ 65536) (hb : b.casks = some 0) (hv : evB x = true) (hk : x.Kind = 3) (hd : x.Day = t) : Does t n (doS all x n) (m_cask_book_drain A1 [b] A3 [m] (some 0) x) := by
  unfold m_cask_book_drain doS
  rw [if_neg (by rw [hk]; decide), hd]
  rcases find_prog (num := x.Cask) r (by omega) hb with ⟨hf, hm⟩ | ⟨k, h, c, hf, hh, hnum, hr, hc, hs, hraw, hok, hm⟩
  · rw [hf, hm]; exact ⟨rfl, by decide⟩
  · rw [hf, hm]
    simp only [hh, bindX, Option.bind_some, hc]
    have hact : actS all k h x n = drainD all k h x := by unfold actS; rw [hk]; rfl
    rw [hact]
    have hcr := hr.each k c h hc hh
    have hca : h.C.Amount = c.amount := by rw [hraw]; rfl
    have hcd : h.C.Creditor = c.creditor := by rw [hraw]; rfl
    have hcred := hok.cred
    have hamt := hok.amt
    have hroom := hok.room
    rw [hca] at hamt
    rw [hcd] at hcred
    have ha := evAmt hv (.inr (.inr hk))
    unfold drainD
    rw [hca, hcd, creq hcred.1]
    by_cases h1 : c.creditor ≥ 0
    · simp only [h1, decide_true, Bool.not_true, if_true]
      exact ⟨rfl, by decide⟩
    · simp only [h1, decide_false, Bool.not_false, if_false]
      by_cases h2 : c.amount < x.Amount
      · have e2 : decide (c.amount ≥ x.Amount) = false := decide_eq_false (by omega)
        simp only [h2, e2, if_true]
        exact ⟨rfl, by decide⟩
      · have e2 : decide (c.amount ≥ x.Amount) = true := decide_eq_true (by omega)
        simp only [h2, e2, if_false]
        show Does t n _ ((m_cask_cask_draw (A1.set k c) (some k) x.Amount).bind fun r_60 => some (.ok (r_60, A3, [m])))
        rw [draw_prog hc (by omega) (by omega), Option.bind_some, List.set_set]
        have hls : lessS h x.Amount = rawOf (drawC c x.Amount) (lessS (rawOf c h.Fills) x.Amount).Fills := by rw [← raw_draw, ← hraw]
        exact turn1 (h' := lessS h x.Amount) (c' := drawC c x.Amount) hr hh hc h0 (by rw [draw_since]; exact hs) draw_number draw_fills hls (less_ok hok.up ha.1 (by omega) h0) (draw_FR hcr.fills) rfl
theorem mapSet_idx {num : Int} {v : Option Nat} : ∀ (A1 : List CaskCask) (k0 : Nat), (∀ c ∈ A1, c.number ≠ num) → mapSet (A1.mapIdx (fun k c => (c.number, some (k0 + k)))) num v = A1.mapIdx (fun k c => (c.number, some (k0 + k))) ++ [(num, v)]
  | [], _, _ => rfl
  | c :: A1, k0, h => by
    rw [List.mapIdx_cons]
    have e1 : (num == c.number) = false := by simpa using (fun e => h c (by simp) e.symm)
    have e3 : (fun (i : Nat) (a : CaskCask) => (a.number, some (k0 + (i + 1)))) = fun k c => (c.number, some (k0 + 1 + k)) := by funext i a; rw [show k0 + (i + 1) = k0 + 1 + i by omega]
    simp only [mapSet, e1, Bool.false_eq_true, if_false, e3, List.cons_append]
    rw [mapSet_idx A1 (k0 + 1) (fun c hc => h c (List.mem_cons_of_mem _ hc))]
def newC (x : Ev) : CaskCask := ⟨x.Cask, x.Other, x.Where, x.Amount, x.Person, -1, 0, x.Day, ⟨0, zN, zN⟩, none⟩
theorem build_prog (r : PR t n all A1 A3 m) (ho : AOk t n all) (h0 : 0 ≤ t) (hb : b.casks = some 0) (hv : evB x = true) (hk : x.Kind = 0) (hd : x.Day = t) : Does t n (doS all x n) (m_cask_book_build A1 [b] A3 [m] (some 0) x) := by
  have hmk := fun l' h => make_ok (l' := l') ho h0 hv hk h
  have hml : m.length = all.length := by rw [r.map, List.length_mapIdx, r.len]
  unfold m_cask_book_build doS
  rw [if_pos (by rw [hk]; rfl)]
  simp only [Option.bind_some, List.getElem?_cons_zero, hb, r.get]
  unfold makeD at hmk ⊢
  cases hf : findS all x.Cask with
  | some k =>
    simp only [Option.isSome_some, if_true]
    exact ⟨rfl, by decide⟩
  | none =>
    rw [hf] at hmk
    simp only [Option.isSome_none, Bool.false_eq_true, if_false] at hmk ⊢
    by_cases hfull : 256 ≤ all.length
    · have e : decide ((m.length : Int) < 256) = false := decide_eq_false (by omega)
      simp only [hfull, e, if_true]
      exact ⟨rfl, by decide⟩
    · have e : decide ((m.length : Int) < 256) = true := decide_eq_true (by omega)
      simp only [hfull, e, if_false] at hmk ⊢
      have hnew := hmk _ rfl
      have hokn : HOk t (n + 1) (newS x) := hnew.each _ (by simp)
      refine ⟨A1 ++ [newC x], A3, mapSet m x.Cask (some A1.length), ?_, ?_⟩
      · rfl
      · refine ⟨by simp [r.len], fun k c h hc hh => ?_, ?_, fun i j ci cj q h1 h2 h3 h4 => ?_⟩
        · by_cases e : k < A1.length
          · rw [List.getElem?_append_left e] at hc
            rw [List.getElem?_append_left (by rw [← r.len]; exact e)] at hh
            exact (r.each k c h hc hh).up
          · have hk1 := (List.getElem?_eq_some_iff.1 hc).1
            have ek : k = A1.length := by simp at hk1; omega
            rw [ek, List.getElem?_append_right (Nat.le_refl _)] at hc
            rw [ek, r.len, List.getElem?_append_right (Nat.le_refl _)] at hh
            simp only [Nat.sub_self, List.getElem?_cons_zero, Option.some.injEq] at hc hh
            subst hc; subst hh
            exact CR.of_raw (c := newC x) (F := []) h0 hd hokn rfl
        · rw [r.map]
          have h1 : ∀ c ∈ A1, c.number ≠ x.Cask := fun c hc => by
            obtain ⟨k, hk⟩ := List.getElem?_of_mem hc
            have hk1 := (List.getElem?_eq_some_iff.1 hk).1
            have hk2 : all[k]? = some (all[k]'(by rw [← r.len]; exact hk1)) := List.getElem?_eq_getElem _
            have := find_none hf _ (List.mem_of_getElem? hk2)
            rw [(r.each k c _ hk hk2).number] at this
            exact this
          have h2 := mapSet_idx (num := x.Cask) (v := some A1.length) A1 0 h1
          simp only [Nat.zero_add] at h2
          rw [h2]
          apply List.ext_getElem?
          intro i
          simp only [List.getElem?_mapIdx, List.getElem?_append, List.length_mapIdx]
          by_cases e : i < A1.length
          · simp [e]
          · simp only [e, if_false]
            by_cases e2 : i = A1.length
            · subst e2; simp [newC]
            · have : ∃ d, i - A1.length = d + 1 := ⟨i - A1.length - 1, by omega⟩
              obtain ⟨d, hd'⟩ := this
              rw [hd']; simp
        · by_cases e : i < A1.length
          · rw [List.getElem?_append_left e] at h1
            by_cases e2 : j < A1.length
            · rw [List.getElem?_append_left e2] at h2
              exact r.apart i j ci cj q h1 h2 h3 h4
            · have hj1 := (List.getElem?_eq_some_iff.1 h2).1
              have ek : j = A1.length := by simp at hj1; omega
              rw [ek, List.getElem?_append_right (Nat.le_refl _)] at h2
              simp only [Nat.sub_self, List.getElem?_cons_zero, Option.some.injEq] at h2
              subst h2; cases h4
          · have hj1 := (List.getElem?_eq_some_iff.1 h1).1
            have ek : i = A1.length := by simp at hj1; omega
            rw [ek, List.getElem?_append_right (Nat.le_refl _)] at h1
            simp only [Nat.sub_self, List.getElem?_cons_zero, Option.some.injEq] at h1
            subst h1; cases h3
end
end Go.Proofs.Ytkffpbnbjnadnaa
end

section
namespace Go.Proofs.Ytkffpbnbjnadnaa
open Go.Dec
section
variable {V : Type}
theorem mem_mapSet {x k : Int} {v : V} : ∀ {l : List (Int × V)}, x ∈ (mapSet l k v).map Prod.fst ↔ x = k ∨ x ∈ l.map Prod.fst
  | [] => by simp [mapSet]
  | y :: l => by
    simp only [mapSet]
    by_cases e : k = y.1
    · have e1 : (k == y.1) = true := by simpa using e
      rw [if_pos e1]
      simp [e]
    · have e1 : (k == y.1) = false := by simpa using e
      rw [e1]
      simp only [Bool.false_eq_true, if_false, List.map_cons, List.mem_cons, mem_mapSet (l := l)]
      constructor
      · rintro (h | h | h)
        · exact .inr (.inl h)
        · exact .inl h
        · exact .inr (.inr h)
      · rintro (h | h | h)
        · exact .inr (.inl h)
        · exact .inl h
        · exact .inr (.inr h)
def copyF (a l : List (Int × V)) : List (Int × V) := l.foldl (fun a x => mapSet a x.1 x.2) a
theorem copy_nodup : ∀ {l a : List (Int × V)}, (a.map Prod.fst).Nodup → ((copyF a l).map Prod.fst).Nodup
  | [], _, h => h
  | x :: l, a, h => copy_nodup (l := l) (a := mapSet a x.1 x.2) (mapSet_nodup h)
theorem mem_copy {x : Int} : ∀ {l a : List (Int × V)}, x ∈ (copyF a l).map Prod.fst ↔ x ∈ a.map Prod.fst ∨ x ∈ l.map Prod.fst
  | [], a => by simp [copyF]
  | y :: l, a => by
    have := mem_copy (x := x) (l := l) (a := mapSet a y.1 y.2)
    have e : copyF a (y :: l) = copyF (mapSet a y.1 y.2) l := rfl
    rw [e, this, mem_mapSet]
    simp only [List.map_cons, List.mem_cons]
    constructor
    · rintro ((h | h) | h)
      · exact .inr (.inl h)
      · exact .inl h
      · exact .inr (.inr h)
    · rintro (h | h | h)
      · exact .inl (.inr h)
      · exact .inl (.inl h)
      · exact .inr h
theorem copy_base : ∀ {l a a' : List (Int × V)}, a'.Perm a → (a.map Prod.fst).Nodup → (copyF a' l).Perm (copyF a l)
  | [], _, _, h, _ => h
  | _x :: l, _a, _a', h, hn => copy_base (l := l) (mapSet_perm h hn) (mapSet_nodup hn)
theorem mapSet_comm {a : List (Int × V)} {x y : Int} {u v : V} (hn : (a.map Prod.fst).Nodup) (h : x ≠ y) : (mapSet (mapSet a x u) y v).Perm (mapSet (mapSet a y v) x u) := by
  have h1 : (mapSet (mapSet a x u) y v).Perm ((y, v) :: (x, u) :: (a.filter (fun z => !(x == z.1))).filter (fun z => !(y == z.1))) := by
    refine (mapSet_filter (mapSet_nodup hn)).trans (.cons _ ?_)
    refine ((mapSet_filter hn).filter _).trans (.of_eq ?_)
    rw [List.filter_cons, if_pos (by simpa using h.symm)]
  have h2 : (mapSet (mapSet a y v) x u).Perm ((x, u) :: (y, v) :: (a.filter (fun z => !(y == z.1))).filter (fun z => !(x == z.1))) := by
    refine (mapSet_filter (mapSet_nodup hn)).trans (.cons _ ?_)
    refine ((mapSet_filter hn).filter _).trans (.of_eq ?_)
    rw [List.filter_cons, if_pos (by simpa using h)]
  refine h1.trans ((List.Perm.swap _ _ _).trans ?_)
  refine List.Perm.trans (.of_eq ?_) h2.symm
  congr 2
  rw [List.filter_filter, List.filter_filter]
  exact List.filter_congr fun z _ => Bool.and_comm _ _
theorem copy_perm {l l' : List (Int × V)} (h : l'.Perm l) : ∀ {a : List (Int × V)}, (a.map Prod.fst).Nodup → (l.map Prod.fst).Nodup → (copyF a l').Perm (copyF a l) := by
  induction h with
  | nil => intro a _ _; exact .refl _
  | cons x _ ih =>
    intro a ha hl
    simp only [List.map_cons, List.nodup_cons] at hl
    exact ih (mapSet_nodup ha) hl.2
  | swap x y l =>
    intro a ha hl
    simp only [List.map_cons, List.nodup_cons, List.mem_cons, not_or] at hl
    exact copy_base (mapSet_comm ha (fun e => hl.1.1 e.symm)) (mapSet_nodup (mapSet_nodup ha))
  | trans h1 h2 ih1 ih2 =>
    intro a ha hl
    exact (ih1 ha ((h2.map Prod.fst).nodup_iff.2 hl)).trans (ih2 ha hl)
end
theorem forL_copy {q j : Nat} (hq : q ≠ j) : ∀ (l : List (Int × Bool)) (s : FM) (lq : List (Int × Bool)), s[q]? = some lq → forL (b_maps_Copy_bool_1 (some q) j) l s = some (s.set q (copyF lq l))
  | [], s, lq, h => by
    have := set_back h
    simp only [forL, copyF, List.foldl_nil]
    rw [← this]
  | x :: l, s, lq, h => by
    have hlt := (List.getElem?_eq_some_iff.1 h).1
    have e : b_maps_Copy_bool_1 (some q) j x s = some (s.set q (mapSet lq x.1 x.2)) := by
      unfold b_maps_Copy_bool_1 neO
      simp only [Option.bind_some, if_neg hq, h, bindv]
    simp only [forL, e, Option.bind_some]
    rw [forL_copy hq l _ (mapSet lq x.1 x.2) (List.getElem?_set_self hlt), List.set_set]
    rfl
theorem copy_prog {A : FM} {q j : Nat} {lq lj : List (Int × Bool)} (hq : q ≠ j) (h1 : A[q]? = some lq) (h2 : A[j]? = some lj) (hn : (lq.map Prod.fst).Nodup) (hn2 : (lj.map Prod.fst).Nodup) : m_maps_Copy_bool A (some q) (some j) = some (A.set q (copyF lq lj)) := by
  unfold m_maps_Copy_bool
  simp only [Option.bind_some, h2]
  have hp : permE PermL (b_maps_Copy_bool_1 (some q) j) lj A = some (A.set q (copyF lq lj)) := by
    refine permE_of (forL_copy hq lj A lq h1) fun l' hl' => ⟨_, forL_copy hq l' A lq h1, by simp, fun i x y hx hy => ?_⟩
    have hlt := (List.getElem?_eq_some_iff.1 h1).1
    by_cases e : q = i
    · subst e
      rw [List.getElem?_set_self hlt] at hx hy
      cases hx; cases hy
      exact copy_perm hl' hn hn2
    · rw [List.getElem?_set_ne e] at hx hy
      rw [hx] at hy; cases hy; exact .refl _
  rw [hp, Option.bind_some]
  have : (A.set q (copyF lq lj))[j]? = some lj := by rw [List.getElem?_set_ne hq]; exact h2
  rw [← set_back this]
theorem least_doc (a u : CaskTimes) : m_cask_times_least a u = some ⟨imin a.age u.age, minN a.woods u.woods, minN a.places u.places⟩ := by
  obtain ⟨t1, ht1, hl1⟩ := loopM_upto (body := b_cask_times_least_1 u) (fun i (t : CaskTimes) => ((i : Int), t)) (fun t => t) (fun i t => t = { a with age := imin a.age u.age, woods := minI i a.woods u.woods }) 8
    (fun i t hi ht => by
      have hw : w64 ((i : Int) + 1) = ((i + 1 : Nat) : Int) := by rw [w64_id (by omega) (by omega)]; rfl
      have hm : (minI i a.woods u.woods) i = a.woods i := by unfold minI; rw [if_neg (by omega)]
      refine ⟨_, ?_, rfl⟩
      unfold b_cask_times_least_1
      rw [if_pos (by simp; omega), idxO_nat hi]
      simp only [Option.bind_some, bindv, hw, ht, hm]
      rw [minI_step])
    (fun t ht => by
      unfold b_cask_times_least_1
      rw [if_neg (by simp)]) 8 0 { a with age := imin a.age u.age } rfl (by rw [minI_0])
  obtain ⟨t2, ht2, hl2⟩ := loopM_upto (body := b_cask_times_least_2 u) (fun i (t : CaskTimes) => ((i : Int), t)) (fun t => t) (fun i t => t = { a with age := imin a.age u.age, woods := minN a.woods u.woods, places := minI i a.places u.places }) 8
    (fun i t hi ht => by
      have hw : w64 ((i : Int) + 1) = ((i + 1 : Nat) : Int) := by rw [w64_id (by omega) (by omega)]; rfl
      have hm : (minI i a.places u.places) i = a.places i := by unfold minI; rw [if_neg (by omega)]
      refine ⟨_, ?_, rfl⟩
      unfold b_cask_times_least_2
      rw [if_pos (by simp; omega), idxO_nat hi]
      simp only [Option.bind_some, bindv, hw, ht, hm]
      rw [minI_step])
    (fun t ht => by
      unfold b_cask_times_least_2
      rw [if_neg (by simp)]) 8 0 t1 rfl (by rw [ht1, minI_0]; rfl)
  unfold m_cask_times_least
  simp only [bindv]
  have h1 : loopM (b_cask_times_least_1 u) (0, { a with age := imin a.age u.age }) = some t1 := hl1
  have h2 : loopM (b_cask_times_least_2 u) (0, t1) = some t2 := hl2
  refine bind_of h1 (bind_of h2 ?_)
  rw [ht2]; rfl
end Go.Proofs.Ytkffpbnbjnadnaa
end

section
namespace Go.Proofs.Ytkffpbnbjnadnaa
open Go.Dec
theorem pour_prog {A1 : List CaskCask} {A3 : FM} {k j : Nat} {c : CaskCask} {h so : Held} {lj : List (Int × Bool)} {tm : CaskTimes} {n : Int} (hc : A1[k]? = some c) (hraw : h = rawOf c h.Fills) (hamt : 0 ≤ c.amount ∧ c.amount ≤ 1099511627776) (hn : 0 ≤ n ∧ n ≤ 1099511627776) (hfr : FR A3 c.fills h.Fills) (hne : 0 < c.amount → h.Fills ≠ [])
    (hj : A3[j]? = some lj) (hjn : (lj.map Prod.fst).Nodup) (hjF : ∀ x, x ∈ so.Fills ↔ x ∈ lj.map Prod.fst) (hq : c.fills ≠ some j) (ht : so.C.Age = tm.age ∧ so.C.Woods = tm.woods ∧ so.C.Places = tm.places) :
    ∃ c' A3', m_cask_cask_pour A1 A3 (some k) tm (some j) n = some (A1.set k c', A3') ∧ c'.number = c.number ∧ c'.since = c.since ∧ pourS h so n = rawOf c' (pourS h so n).Fills ∧ FR A3' c'.fills (pourS h so n).Fills ∧
      (∀ (q : Nat) lq, A3[q]? = some lq → c.fills ≠ some q → A3'[q]? = some lq) ∧ (c'.fills = c.fills ∨ c'.fills = some A3.length) := by
  have hk := (List.getElem?_eq_some_iff.1 hc).1
  have hca : h.C.Amount = c.amount := by rw [hraw]; rfl
  have hw : w64 (c.amount + n) = c.amount + n := w64_id (by omega) (by omega)
  unfold m_cask_cask_pour
  simp only [Option.bind_some, hc]
  by_cases e : (c.amount == 0) = true
  · have e' : (h.C.Amount == 0) = true := by rw [hca]; exact e
    refine ⟨{ c with times := tm, fills := some A3.length, amount := c.amount + n }, A3 ++ [lj], ?_, rfl, rfl, ?_, ?_, fun q lq h1 _ => ?_, .inr rfl⟩
    · simp only [e, if_true, m_maps_Clone_bool, cloneM, hj, Option.bind_some, bindv, List.set_set, List.getElem?_set_self hk, hw]
    · unfold pourS
      rw [if_pos e']
      rw [hraw]
      simp only [ht.1, ht.2.1, ht.2.2]
      rfl
    · unfold pourS
      rw [if_pos e']
      exact ⟨lj, by simp, hjn, hjF⟩
    · have := (List.getElem?_eq_some_iff.1 h1).1
      rw [List.getElem?_append_left this]; exact h1
  · have hpos : 0 < c.amount := by
      have : c.amount ≠ 0 := fun e0 => e (by simp [e0])
      omega
    have e' : ¬ (h.C.Amount == 0) = true := by rw [hca]; exact e
    cases hf : c.fills with
    | none => rw [hf] at hfr; exact absurd hfr (hne hpos)
    | some q =>
      rw [hf] at hfr
      obtain ⟨lq, hlq, hqn, hqF⟩ := hfr
      have hqj : q ≠ j := fun e0 => hq (by rw [hf, e0])
      have hql := (List.getElem?_eq_some_iff.1 hlq).1
      refine ⟨{ c with times := ⟨imin c.times.age tm.age, minN c.times.woods tm.woods, minN c.times.places tm.places⟩, amount := c.amount + n }, A3.set q (copyF lq lj), ?_, rfl, rfl, ?_, ?_, fun q' lq' h1 h2 => ?_, .inl hf⟩
      · simp only [e, if_false, Bool.false_eq_true, least_doc, Option.bind_some, bindv, hf, copy_prog hqj hlq hj hqn hjn, List.getElem?_set_self hk, List.set_set, hw]
      · unfold pourS
        rw [if_neg e']
        have h1 : h.C.Age = c.times.age := by rw [hraw]; rfl
        have h2 : h.C.Woods = c.times.woods := by rw [hraw]; rfl
        have h3 : h.C.Places = c.times.places := by rw [hraw]; rfl
        simp only [ht.1, ht.2.1, ht.2.2, h1, h2, h3]
        conv => lhs; rw [hraw]
        rfl
      · unfold pourS
        rw [if_neg e']
        show FR _ c.fills (uniS h.Fills so.Fills)
        rw [hf]
        refine ⟨copyF lq lj, List.getElem?_set_self hql, copy_nodup hqn, fun x => ?_⟩
        rw [mem_uniS, mem_copy, hqF, hjF]
      · rw [List.getElem?_set_ne (fun e0 => h2 (by rw [e0]))]; exact h1
section
variable {t : Int} {n : Nat} {all : List Held} {A1 : List CaskCask} {A3 : FM} {m : List (Int × Option Nat)} {b : CaskBook} {x : Ev}
theorem fr_lt {A3 : FM} {q : Nat} {F : List Int} (h : FR A3 (some q) F) : q < A3.length := by
  obtain ⟨l, h1, _⟩ := h; exact (List.getElem?_eq_some_iff.1 h1).1
theorem fill_prog (r : PR t n all A1 A3 m) (ho : AOk t n all) (h0 : 0 ≤ t) (ht : t ≤ 65536) (hb : b.casks = some 0) (hbe : b.event = n) (hv : evB x = true) (hk : x.Kind = 1) (hd : x.Day = t) : Does t n (doS all x n) (m_cask_book_fill A1 [b] A3 [m] (some 0) x) := by
  unfold m_cask_book_fill doS
  rw [if_neg (by rw [hk]; decide), hd]
  rcases find_prog (num := x.Cask) r (by omega) hb with ⟨hf, hm⟩ | ⟨k, h, c, hf, hh, hnum, hr, hc, hs, hraw, hok, hm⟩
  · rw [hf, hm]; exact ⟨rfl, by decide⟩
  · rw [hf, hm]
    simp only [hh, bindX, Option.bind_some, hc, bindv]
    have hact : actS all k h x n = fillD all k h x n := by unfold actS; rw [hk]; rfl
    rw [hact]
    have hcr := hr.each k c h hc hh
    have hca : h.C.Amount = c.amount := by rw [hraw]; rfl
    have hcro : h.C.Room = c.room := by rw [hraw]; rfl
    have hamt := hok.amt
    have hroom := hok.room
    rw [hca, hcro] at hamt
    rw [hcro] at hroom
    have ha := evAmt hv (.inl hk)
    have hw : w64 (c.amount + x.Amount) = c.amount + x.Amount := w64_id (by omega) (by omega)
    have hokd := fun l' (hl' : fillD all k h x n = .inl l') => fill_ok ho h0 hh ha.1 hl'
    unfold fillD at hokd ⊢
    rw [hca, hcro] at hokd ⊢
    rw [hw]
    by_cases h1 : c.amount + x.Amount > c.room
    · have e : decide (c.amount + x.Amount ≤ c.room) = false := decide_eq_false (by omega)
      simp only [h1, e, if_true]
      exact ⟨rfl, by decide⟩
    · have e : decide (c.amount + x.Amount ≤ c.room) = true := decide_eq_true (by omega)
      simp only [h1, if_false] at hokd
      simp only [h1, e, if_false]
      have hnew := hokd _ rfl
      have hql : ∀ q, c.fills = some q → q < A3.length := fun q hq => fr_lt (by rw [← hq]; exact hcr.fills)
      have hfr' : FR (A3 ++ [[((n : Int), true)]]) c.fills h.Fills := hcr.fills.keep fun q hq => List.getElem?_append_left (hql q hq)
      obtain ⟨c', A3', hp, hp1, hp2, hp3, hp4, hp5, hp6⟩ := pour_prog (A3 := A3 ++ [[((n : Int), true)]]) (j := A3.length) (lj := [((n : Int), true)]) (so := fillS n) (tm := ⟨0, zN, zN⟩) (n := x.Amount) hc hraw (by omega) (by omega) hfr' (fun hp => by rw [← hca] at hp; exact hok.some hp)
        (by simp) (by simp) (fun y => by simp [fillS]) (fun e => by have := hql _ e; omega) ⟨rfl, rfl, rfl⟩
      have hmod : m_cask_cask_pour (A1.set k c) (A3 ++ [mapSet [] b.event true]) (some k) (CaskTimes.mk 0 (fun _ => 0) (fun _ => 0)) (some A3.length) x.Amount = some ((A1.set k c).set k c', A3') := by rw [hbe]; exact hp
      have hmem : pourS h (fillS n) x.Amount ∈ all.set k (pourS h (fillS n) x.Amount) := List.mem_of_getElem? (List.getElem?_set_self (List.getElem?_eq_some_iff.1 hh).1)
      have hho := hnew.each _ hmem
      have hres : Does t n (.inl (all.set k (pourS h (fillS n) x.Amount))) (some (.ok ((A1.set k c).set k c', A3', [m]))) := by
        refine ⟨_, _, _, rfl, ?_⟩
        refine hr.set hc hh hp1 ?_ (fun i ci hi hne h1 h2 => ?_) (fun i ci q hne h1 h2 h3 => ?_)
        · rw [hp3]
          refine CR.of_raw h0 (by rw [hp2]; exact hs) (by rw [← hp3]; exact hho) ?_
          exact hp4
        · have hci := (hr.each i ci hi h1 h2).up
          refine ⟨hci.since, hci.ok, hci.eq, hci.fills.keep fun q hq => ?_⟩
          have hq2 := hci.fills
          rw [hq] at hq2
          obtain ⟨lq, g1, _⟩ := hq2
          have hql2 := (List.getElem?_eq_some_iff.1 g1).1
          rw [g1]
          exact hp5 q lq (by rw [List.getElem?_append_left hql2]; exact g1) (fun e => hne (hr.apart i k ci c q h1 hc hq e))
        · have hci := (hr.each i ci _ h1 (List.getElem?_eq_getElem (show i < all.length by rw [← hr.len]; exact (List.getElem?_eq_some_iff.1 h1).1))).fills
          rw [h2] at hci
          have := fr_lt hci
          rcases hp6 with hp6 | hp6
          · rw [hp6] at h3; exact hne (hr.apart i k ci c q h1 hc h2 h3)
          · rw [hp6] at h3
            simp only [Option.some.injEq, List.length_append, List.length_cons, List.length_nil] at h3
            omega
      show Does t n _ ((m_cask_cask_pour (A1.set k c) (A3 ++ [mapSet [] b.event true]) (some k) (CaskTimes.mk 0 (fun _ => 0) (fun _ => 0)) (some A3.length) x.Amount).bind fun r_106 => some (.ok (r_106.1, r_106.2, [m])))
      rw [hmod, Option.bind_some]
      exact hres
theorem rack_prog (r : PR t n all A1 A3 m) (ho : AOk t n all) (h0 : 0 ≤ t) (ht : t ≤ 65536) (hb : b.casks = some 0) (hv : evB x = true) (hk : x.Kind = 2) (hd : x.Day = t) : Does t n (doS all x n) (m_cask_book_rack A1 [b] A3 [m] (some 0) x) := by
  unfold m_cask_book_rack doS
  rw [if_neg (by rw [hk]; decide), hd]
  rcases find_prog (num := x.Cask) r (by omega) hb with ⟨hf, hm⟩ | ⟨i, h, c, hf, hh, hnum, hr, hc, hs, hraw, hok, hm⟩
  · rw [hf, hm]; exact ⟨rfl, by decide⟩
  · rw [hf, hm]
    have hact : actS all i h x n = rackD all i h x := by unfold actS; rw [hk]; rfl
    simp only [hh, hact]
    have hokd := fun l' (ha : 1 ≤ x.Amount) (hl' : rackD all i h x = .inl l') => rack_ok ho h0 hh ha hl'
    have ha := evAmt hv (.inr (.inl hk))
    have hokd := fun l' => hokd l' ha.1
    unfold rackD at hokd ⊢
    simp only [bindX]
    rcases find_prog (num := x.Other) hr (by omega) hb with ⟨hf2, hm2⟩ | ⟨k, ho2, o, hf2, hho, hnum2, hr2, hoc, hos, horaw, hook, hm2⟩
    · rw [hf2, hm2]; exact ⟨rfl, by decide⟩
    · rw [hf2, hm2]
      rw [hf2] at hokd
      simp only [hho] at hokd ⊢
      have hil : i < A1.length := by have := (List.getElem?_eq_some_iff.1 hc).1; simpa using this
      by_cases hik : i = k
      ·
        subst hik
        have hc2 : ((A1.set i c).set i o)[i]? = some o := hoc
        simp only [Option.bind_some, hc2]
        have e1 : (i != i) = false := by simp
        have e2 : (i == i) = true := by simp
        unfold rackD2
        simp only [e1, e2, if_true]
        exact ⟨rfl, by decide⟩
      · have hc2 : ((A1.set i c).set k o)[i]? = some c := by rw [List.getElem?_set_ne (fun e => hik e.symm)]; exact hc
        simp only [Option.bind_some, hc2, hoc]
        have e1 : (i != k) = true := by simpa using hik
        have e2 : (i == k) = false := by simpa using hik
        have hcr := hr2.each i c h hc2 hh
        have hor := hr2.each k o ho2 hoc hho
        have a1 : h.C.Owner = c.owner := by rw [hraw]; rfl
        have a2 : h.C.Creditor = c.creditor := by rw [hraw]; rfl
        have a3 : h.C.Amount = c.amount := by rw [hraw]; rfl
        have b1 : ho2.C.Owner = o.owner := by rw [horaw]; rfl
        have b2 : ho2.C.Creditor = o.creditor := by rw [horaw]; rfl
        have b3 : ho2.C.Amount = o.amount := by rw [horaw]; rfl
        have b4 : ho2.C.Room = o.room := by rw [horaw]; rfl
        have camt := hok.amt
        have croom := hok.room
        have ccred := hok.cred
        have oamt := hook.amt
        have oroom := hook.room
        have ocred := hook.cred
        rw [a2] at ccred; rw [b2] at ocred; rw [b3, b4] at oamt; rw [b4] at oroom; rw [a3] at camt
        unfold rackD2 at hokd ⊢
        rw [a1, a2, a3, b1, b2, b3, b4] at hokd ⊢
        simp only [e1, e2, Bool.false_eq_true, if_false, creq ccred.1, creq ocred.1] at hokd ⊢
        have n11 : m_cask_need false 11 = some (.pan ⟨11⟩) := rfl
        have n0 : ∀ e, m_cask_need true e = some (.ok ()) := fun _ => rfl
        have nf : ∀ e, m_cask_need false e = some (.pan ⟨e⟩) := fun _ => rfl
        by_cases c1 : c.owner = o.owner
        · have f1 : (c.owner == o.owner) = true := by simpa using c1
          have f2 : (c.owner != o.owner) = false := by simpa using c1
          simp only [f1, f2, if_true, Bool.false_or, n0] at hokd ⊢
          by_cases c2 : c.creditor ≥ 0
          · simp only [c2, decide_true, Bool.not_true, Bool.true_or, if_true, Bool.false_eq_true, if_false, nf, Option.bind_some]
            exact ⟨rfl, by decide⟩
          · simp only [c2, decide_false, Bool.not_false, Bool.false_or, if_true] at hokd ⊢
            by_cases c3 : o.creditor ≥ 0
            · simp only [c3, decide_true, Bool.not_true, if_true, nf, Option.bind_some]
              exact ⟨rfl, by decide⟩
            · simp only [c3, decide_false, Bool.not_false, n0, Option.bind_some, Bool.false_eq_true, if_false] at hokd ⊢
              by_cases c4 : c.amount < x.Amount
              · have g1 : decide (c.amount ≥ x.Amount) = false := decide_eq_false (by omega)
                simp only [c4, g1, if_true, nf]
                exact ⟨rfl, by decide⟩
              · have g1 : decide (c.amount ≥ x.Amount) = true := decide_eq_true (by omega)
                simp only [c4, g1, if_false, n0] at hokd ⊢
                have hw : w64 (o.amount + x.Amount) = o.amount + x.Amount := w64_id (by omega) (by omega)
                rw [hw]
                by_cases c5 : o.amount + x.Amount > o.room
                · have g2 : decide (o.amount + x.Amount ≤ o.room) = false := decide_eq_false (by omega)
                  simp only [c5, g2, if_true, nf]
                  exact ⟨rfl, by decide⟩
                · have g2 : decide (o.amount + x.Amount ≤ o.room) = true := decide_eq_true (by omega)
                  simp only [c5, g2, if_false, n0] at hokd ⊢
                  have hnew := hokd _ rfl
                  have hcf := hcr.fills
                  cases hfc : c.fills with
                  | none =>
                    rw [hfc] at hcf
                    exact absurd hcf (hok.some (by rw [a3]; omega))
                  | some j =>
                    rw [hfc] at hcf
                    obtain ⟨lj, hj, hjn, hjF⟩ := hcf
                    obtain ⟨o', A3', hp, hp1, hp2, hp3, hp4, hp5, hp6⟩ := pour_prog (A3 := A3) (j := j) (lj := lj) (so := h) (tm := c.times) (n := x.Amount) hoc horaw (by omega) (by omega) hor.fills (fun hp => by rw [← b3] at hp; exact hook.some hp)
                      hj hjn hjF (fun e => hik (hr2.apart i k c o j hc2 hoc hfc e)) ⟨by rw [hraw]; rfl, by rw [hraw]; rfl, by rw [hraw]; rfl⟩
                    have hc3 : (((A1.set i c).set k o).set k o')[i]? = some c := by rw [List.getElem?_set_ne (fun e => hik e.symm)]; exact hc2
                    rw [hp, Option.bind_some]
                    simp only
                    rw [draw_prog hc3 (by omega) (by omega), Option.bind_some]
                    have hjl : j < A3.length := (List.getElem?_eq_some_iff.1 hj).1
                    have hkall := (List.getElem?_eq_some_iff.1 hho).1
                    have hmem : pourS ho2 h x.Amount ∈ (all.set k (pourS ho2 h x.Amount)).set i (lessS h x.Amount) := List.mem_of_getElem? (i := k) (by rw [List.getElem?_set_ne hik]; exact List.getElem?_set_self hkall)
                    have hho' := hnew.each _ hmem
                    have hlmem : lessS h x.Amount ∈ (all.set k (pourS ho2 h x.Amount)).set i (lessS h x.Amount) := List.mem_of_getElem? (i := i) (List.getElem?_set_self (by simpa using (List.getElem?_eq_some_iff.1 hh).1))
                    have hlok := hnew.each _ hlmem
                    have hpr : PR t (n + 1) (all.set k (pourS ho2 h x.Amount)) (((A1.set i c).set k o).set k o') A3' m := by
                      refine hr2.set hoc hho hp1 ?_ (fun i' ci hi hne h1 h2 => ?_) (fun i' ci q hne h1 h2 h3 => ?_)
                      · rw [hp3]
                        refine CR.of_raw h0 (by rw [hp2]; exact hos) (by rw [← hp3]; exact hho') ?_
                        exact hp4
                      · have hci := (hr2.each i' ci hi h1 h2).up
                        refine ⟨hci.since, hci.ok, hci.eq, hci.fills.keep fun q hq => ?_⟩
                        have hq2 := hci.fills
                        rw [hq] at hq2
                        obtain ⟨lq, g1', _⟩ := hq2
                        rw [g1']
                        exact hp5 q lq g1' (fun e => hne (hr2.apart i' k ci o q h1 hoc hq e))
                      · have hci := (hr2.each i' ci _ h1 (List.getElem?_eq_getElem (show i' < all.length by rw [← hr2.len]; exact (List.getElem?_eq_some_iff.1 h1).1))).fills
                        rw [h2] at hci
                        have hlt := fr_lt hci
                        rcases hp6 with hp6 | hp6
                        · rw [hp6] at h3; exact hne (hr2.apart i' k ci o q h1 hoc h2 h3)
                        · rw [hp6] at h3
                          simp only [Option.some.injEq] at h3
                          omega
                    refine ⟨_, _, _, rfl, ?_⟩
                    have hh3 : (all.set k (pourS ho2 h x.Amount))[i]? = some h := by rw [List.getElem?_set_ne (fun e => hik e.symm)]; exact hh
                    have hcr3 := hpr.each i c h hc3 hh3
                    have hls : lessS h x.Amount = rawOf (drawC c x.Amount) (lessS (rawOf c h.Fills) x.Amount).Fills := by rw [← raw_draw, ← hraw]
                    refine hpr.set hc3 hh3 draw_number ?_ (fun i' ci hi _ h1 h2 => hpr.each i' ci hi h1 h2) (fun i' ci q hne h1 h2 h3 => ?_)
                    · rw [hls]
                      refine CR.of_raw h0 (by rw [draw_since]; exact hs) (by rw [← hls]; exact hlok) (draw_FR hcr3.fills)
                    · rcases draw_fills (c := c) (n := x.Amount) with e | e
                      · rw [e] at h3; exact hne (hpr.apart i' i ci c q h1 hc3 h2 h3)
                      · rw [e] at h3; cases h3
        · have f1 : (c.owner == o.owner) = false := by simpa using c1
          have f2 : (c.owner != o.owner) = true := by simpa using c1
          simp only [f1, f2, if_true, Bool.true_or, Bool.false_eq_true, if_false, n0, nf, Option.bind_some]
          exact ⟨rfl, by decide⟩
end
end Go.Proofs.Ytkffpbnbjnadnaa
end

section
namespace Go.Proofs.Ytkffpbnbjnadnaa
open Go.Dec
theorem Event_prog (x : Ev) : m_cask_isEvent x = some (evB x) := by
  have e : ∀ n a b, m_cask_within n a b = inB n a b := fun _ _ _ => rfl
  unfold m_cask_isEvent m_cask_isNumber m_cask_isWood m_cask_isPlace m_cask_isAmount m_cask_isPerson evB
  simp only [e]
  cases h1 : inB x.Day 0 65536 with
  | false => simp
  | true =>
    cases h2 : inB x.Cask 0 1073741824 with
    | false => simp
    | true =>
      simp only [Bool.not_true, Bool.or_self, Bool.false_eq_true, if_false, Bool.true_and]
      by_cases k0 : (x.Kind == 0) = true
      · rw [if_pos k0, if_pos k0]
      · rw [if_neg k0, if_neg k0]
        by_cases k1 : (x.Kind == 1) = true
        · simp [k1]
        · simp only [Bool.not_eq_true] at k1
          by_cases k3 : (x.Kind == 3) = true
          · simp [k1, k3]
          · simp only [Bool.not_eq_true] at k3
            simp only [k1, k3, Bool.or_self, Bool.false_eq_true, if_false, Option.bind_some]
            by_cases k2 : (x.Kind == 2) = true
            · rw [if_pos k2, if_pos k2]
            · rw [if_neg k2, if_neg k2]
              by_cases k4 : (x.Kind == 4) = true
              · rw [if_pos k4, if_pos k4]
              · rw [if_neg k4, if_neg k4]
                by_cases k5 : (x.Kind == 5) = true
                · simp [k5]
                · simp only [Bool.not_eq_true] at k5
                  by_cases k6 : (x.Kind == 6) = true
                  · simp [k5, k6]
                  · simp only [Bool.not_eq_true] at k6
                    simp only [k5, k6, Bool.or_self, Bool.false_eq_true, if_false, Option.bind_some]
                    by_cases k7 : (x.Kind == 7) = true
                    · rw [if_pos k7, if_pos k7]
                    · rw [if_neg k7, if_neg k7]
                      by_cases k8 : (x.Kind == 8) = true
                      · rw [if_pos k8, if_pos k8]
                      · rw [if_neg k8, if_neg k8]
abbrev Deed := ((List CaskCask) × (List CaskBook) × FM × (List (List (Int × (Option Nat)))) × (Option Nat) × Ev) → Option (Out CaskMisfit ((List CaskCask) × FM × (List (List (Int × (Option Nat))))))
theorem deeds_some : ∃ D : List (Int × Deed), m_cask_deeds = some D ∧ ∀ (x : Ev), evB x = true → ∃ f, mapGet D x.Kind = some f ∧
    ∀ {t : Int} {n : Nat} {all : List Held} {A1 : List CaskCask} {A3 : FM} {m : List (Int × Option Nat)} {b : CaskBook}, PR t n all A1 A3 m → AOk t n all → 0 ≤ t → t ≤ 65536 → b.casks = some 0 → b.event = n → x.Day = t → Does t n (doS all x n) (f (A1, [b], A3, [m], some 0, x)) := by
  refine ⟨_, rfl, fun x hv => ?_⟩
  rcases kinds hv with k | k | k | k | k | k | k | k | k <;> rw [k]
  · exact ⟨_, rfl, fun r ho h0 ht hb _ hd => build_prog r ho h0 hb hv k hd⟩
  · exact ⟨_, rfl, fun r ho h0 ht hb hbe hd => fill_prog r ho h0 ht hb hbe hv k hd⟩
  · exact ⟨_, rfl, fun r ho h0 ht hb _ hd => rack_prog r ho h0 ht hb hv k hd⟩
  · exact ⟨_, rfl, fun r _ h0 ht hb _ hd => drain_prog r h0 ht hb hv k hd⟩
  · exact ⟨_, rfl, fun r _ h0 ht hb _ hd => carry_prog r h0 ht hb hv k hd⟩
  · exact ⟨_, rfl, fun r _ h0 ht hb _ hd => sell_prog r h0 ht hb hv k hd⟩
  · exact ⟨_, rfl, fun r _ h0 ht hb _ hd => pledge_prog r h0 ht hb hv k hd⟩
  · exact ⟨_, rfl, fun r _ h0 ht hb _ hd => free_prog r h0 ht hb hv k hd⟩
  · exact ⟨_, rfl, fun r _ h0 ht hb _ hd => char_prog r h0 ht hb hv k hd⟩
section
variable {D : List (Int × Deed)}
def DeedsOK (D : List (Int × Deed)) : Prop := ∀ (x : Ev), evB x = true → ∃ f, mapGet D x.Kind = some f ∧
    ∀ {t : Int} {n : Nat} {all : List Held} {A1 : List CaskCask} {A3 : FM} {m : List (Int × Option Nat)} {b : CaskBook}, PR t n all A1 A3 m → AOk t n all → 0 ≤ t → t ≤ 65536 → b.casks = some 0 → b.event = n → x.Day = t → Does t n (doS all x n) (f (A1, [b], A3, [m], some 0, x))
theorem step_prog (hD : DeedsOK D) {l : List Ev} {day : Int} {n : Nat} {s : Cur} {x : Ev} {A1 : List CaskCask} {A3 : FM} {m : List (Int × Option Nat)} {b : CaskBook} (hx : l[n]? = some x) (hn : n ≤ 4096) (ho : SOk n s) (hr : PR s.last n s.all A1 A3 m) (hb : b.casks = some 0) (hd : x.Day ≤ day) :
    match stepS n s x with
    | .inl s' => ∃ A1' A3' m', b_cask_play_1 l day D ((n : Int), s.last, A1, [b], A3, [m]) = some (.next (((n + 1 : Nat) : Int), s'.last, A1', [⟨some 0, n⟩], A3', [m'])) ∧ PR s'.last (n + 1) s'.all A1' A3' m'
    | .inr e => b_cask_play_1 l day D ((n : Int), s.last, A1, [b], A3, [m]) = some (.done (.inr (⟨e⟩, (n : Int), 0, some 0))) ∧ e ≠ 0 := by
  have hnl : n < l.length := (List.getElem?_eq_some_iff.1 hx).1
  have hw : w64 ((n : Int) + 1) = ((n + 1 : Nat) : Int) := by rw [w64_id (by omega) (by omega)]; rfl
  have h1 : decide ((n : Int) < (l.length : Int)) = true := decide_eq_true (by omega)
  have nt : ∀ e, m_cask_need true e = some (.ok ()) := fun _ => rfl
  have nf : ∀ e, m_cask_need false e = some (.pan ⟨e⟩) := fun _ => rfl
  unfold b_cask_play_1 stepS
  simp only [h1, if_true, idxL_nat, hx, Option.bind_some, hd, decide_true, Event_prog]
  cases hv : evB x with
  | false =>
    simp only [Bool.not_false, if_true, nf, bindX]
    exact ⟨trivial, by decide⟩
  | true =>
    simp only [Bool.not_true, Bool.false_eq_true, if_false, nt, bindX]
    by_cases hlt : x.Day < s.last
    · have e : decide (x.Day ≥ s.last) = false := decide_eq_false (by omega)
      simp only [hlt, e, if_true, nf]
      exact ⟨trivial, by decide⟩
    · have e : decide (x.Day ≥ s.last) = true := decide_eq_true (by omega)
      simp only [hlt, e, if_false, nt]
      have hday := evD hv
      have hsd := ho.day
      obtain ⟨f, hf, hdo⟩ := hD x hv
      have hok := older_all ho.ok (n := x.Day - s.last) (by omega)
      have e0 : s.last + (x.Day - s.last) = x.Day := by omega
      rw [e0] at hok
      have hdoes := hdo (b := ⟨some 0, (n : Int)⟩) (hr.shift (t' := x.Day) (by omega)) hok hday.1 hday.2 rfl rfl rfl
      have hbk : ({ b with event := (n : Int) } : CaskBook) = ⟨some 0, n⟩ := by rw [← hb]
      simp only [List.getElem?_cons_zero, Option.bind_some, bindv, List.set_cons_zero, hbk, hf]
      cases hds : doS (s.all.map (olderS (x.Day - s.last))) x n with
      | inl all' =>
        rw [hds] at hdoes
        obtain ⟨A1', A3', m', h2, h3⟩ := hdoes
        rw [h2]
        simp only [hw]
        exact ⟨A1', A3', m', rfl, h3⟩
      | inr er =>
        rw [hds] at hdoes
        obtain ⟨h2, h3⟩ := hdoes
        rw [h2]
        exact ⟨rfl, h3⟩
theorem stop_prog {l : List Ev} {day : Int} {n : Nat} {last : Int} {A1 : List CaskCask} {A2 : List CaskBook} {A3 : FM} {A4 : List (List (Int × Option Nat))} (h : ∀ x, l[n]? = some x → ¬ x.Day ≤ day) (hn : n ≤ l.length) :
    b_cask_play_1 l day D ((n : Int), last, A1, A2, A3, A4) = some (.done (.inl ((n : Int), A1, A2, A3, A4))) := by
  unfold b_cask_play_1
  cases hx : l[n]? with
  | none =>
    have : ¬ (n : Int) < (l.length : Int) := by
      have := List.getElem?_eq_none_iff.1 hx; omega
    simp [this]
  | some x =>
    have hnl : n < l.length := (List.getElem?_eq_some_iff.1 hx).1
    have h1 : decide ((n : Int) < (l.length : Int)) = true := decide_eq_true (by omega)
    have h2 : decide (x.Day ≤ day) = false := decide_eq_false (h x hx)
    simp only [h1, if_true, idxL_nat, hx, Option.bind_some, h2, Bool.false_eq_true, if_false]
theorem loop_prog (hD : DeedsOK D) {l : List Ev} {day : Int} (hl : l.length ≤ 4096) : ∀ (post pre : List Ev) (s : Cur) (A1 : List CaskCask) (A3 : FM) (m : List (Int × Option Nat)) (b : CaskBook), l = pre ++ post → SOk pre.length s → PR s.last pre.length s.all A1 A3 m → b.casks = some 0 →
    match goS day post pre.length s with
    | (.inl s', k) => ∃ A1' A3' m' b', loopM (b_cask_play_1 l day D) ((pre.length : Int), s.last, A1, [b], A3, [m]) = some (.inl ((k : Int), A1', [b'], A3', [m'])) ∧ PR s'.last k s'.all A1' A3' m' ∧ b'.casks = some 0
    | (.inr e, k) => loopM (b_cask_play_1 l day D) ((pre.length : Int), s.last, A1, [b], A3, [m]) = some (.inr (⟨e⟩, (k : Int), 0, some 0)) ∧ e ≠ 0
  | [], pre, s, A1, A3, m, b, e, ho, hr, hb => by
    simp only [goS]
    refine ⟨A1, A3, m, b, ?_, hr, hb⟩
    rw [loopM_eq, stop_prog (fun x hx => by rw [e] at hx; simp at hx) (by rw [e]; simp)]
  | x :: post, pre, s, A1, A3, m, b, e, ho, hr, hb => by
    have hx : l[pre.length]? = some x := getEl_mid e
    have hn : pre.length ≤ 4096 := by have := lt_mid e; omega
    rw [loopM_eq]
    by_cases hd : x.Day ≤ day
    · have hst := step_prog hD hx hn ho hr hb hd
      simp only [goS, hd, if_true]
      cases hs : stepS pre.length s x with
      | inl s' =>
        rw [hs] at hst
        obtain ⟨A1', A3', m', h1, h2⟩ := hst
        rw [h1]
        have ih := loop_prog hD (day := day) hl post (pre ++ [x]) s' A1' A3' m' ⟨some 0, (pre.length : Int)⟩ (by rw [e]; simp) (by simpa using (step_ok ho hs).1) (by simpa using h2) rfl
        simpa using ih
      | inr er =>
        rw [hs] at hst
        rw [hst.1]
        exact ⟨rfl, hst.2⟩
    · rw [stop_prog (fun y hy => by rw [hx] at hy; cases hy; exact hd) (by have := lt_mid e; omega)]
      simp only [goS, hd, if_false]
      exact ⟨A1, A3, m, b, rfl, hr, hb⟩
end
end Go.Proofs.Ytkffpbnbjnadnaa
end

section
namespace Go.Proofs.Ytkffpbnbjnadnaa
open Go.Dec
section
variable {t day : Int} {n : Nat} {all : List Held} {A1 : List CaskCask} {A3 : FM} {m : List (Int × Option Nat)}
theorem forL_rest (hday : day ≤ 1000000) (hok : ∀ (k : Nat) (c : CaskCask), A1[k]? = some c → 0 ≤ c.since ∧ c.since ≤ day ∧ ∃ F, HOk c.since n (rawOf c F)) : ∀ (L : List (Int × Option Nat)) (s : List CaskCask), (∀ e ∈ L, ∃ k, e.2 = some k ∧ k < A1.length) → (L.map Prod.snd).Nodup → s.length = A1.length → (∀ k, some k ∈ L.map Prod.snd → s[k]? = A1[k]?) →
    ∃ s', forL (b_cask_play_2 day) L s = some s' ∧ s'.length = A1.length ∧ ∀ i : Nat, s'[i]? = if some i ∈ L.map Prod.snd then (A1[i]?).map (restC day) else s[i]?
  | [], s, _, _, hl, _ => ⟨s, rfl, hl, fun i => by simp⟩
  | e :: L, s, hE, hN, hl, hs => by
    obtain ⟨k, hk, hkl⟩ := hE e (by simp)
    have hN' : some k ∉ L.map Prod.snd ∧ (L.map Prod.snd).Nodup := by
      have := List.nodup_cons.1 hN
      rw [hk] at this; exact this
    have hc : A1[k]? = some A1[k] := List.getElem?_eq_getElem hkl
    have hsk : s[k]? = some A1[k] := by rw [hs k (by simp [hk])]; exact hc
    obtain ⟨h0, h1, F, hF⟩ := hok k _ hc
    have hb : b_cask_play_2 day e s = some (s.set k (restC day A1[k])) := by
      unfold b_cask_play_2
      rw [hk, rest_prog hsk hF h0 h1 hday]
      rfl
    obtain ⟨s', g1, g2, g3⟩ := forL_rest hday hok L (s.set k (restC day A1[k])) (fun e' he' => hE e' (List.mem_cons_of_mem _ he')) hN'.2 (by simpa using hl) (fun k' hk' => by
      have hne : k ≠ k' := fun e' => hN'.1 (by rw [e']; exact hk')
      rw [List.getElem?_set_ne hne]
      exact hs k' (by rw [List.map_cons]; exact List.mem_cons_of_mem _ hk'))
    refine ⟨s', by simp only [forL, hb, Option.bind_some]; exact g1, g2, fun i => ?_⟩
    rw [g3 i]
    by_cases hi : some i ∈ L.map Prod.snd
    · rw [if_pos hi, if_pos (by rw [List.map_cons]; exact List.mem_cons_of_mem _ hi)]
    · rw [if_neg hi]
      by_cases e' : k = i
      · subst e'
        rw [List.getElem?_set_self (by rw [hl]; exact hkl), if_pos (by simp [hk]), hc]
        rfl
      · rw [List.getElem?_set_ne e', if_neg]
        rw [List.map_cons, List.mem_cons, hk]
        rintro (h | h)
        · exact e' (by simpa using h.symm)
        · exact hi h
theorem rest_all (r : PR t n all A1 A3 m) (hd : t ≤ day) (hday : day ≤ 65536) : permM (b_cask_play_2 day) m A1 = some (A1.map (restC day)) ∧ PR day n (all.map (olderS (day - t))) (A1.map (restC day)) A3 m ∧ ∀ c ∈ A1.map (restC day), c.since = day := by
  have hlook : ∀ (k : Nat) (c : CaskCask), A1[k]? = some c → ∃ h, all[k]? = some h ∧ CR t n A3 c h := fun k c hc => by
    have hk : k < all.length := by rw [← r.len]; exact (List.getElem?_eq_some_iff.1 hc).1
    exact ⟨all[k], List.getElem?_eq_getElem hk, r.each k c _ hc (List.getElem?_eq_getElem hk)⟩
  have hsnd : m.map Prod.snd = (List.range A1.length).map some := by
    rw [r.map]
    apply List.ext_getElem?
    intro i
    simp only [List.getElem?_map, List.getElem?_mapIdx]
    by_cases h : i < A1.length
    · simp [h]
    · simp [h]
  refine ⟨permM_of fun l' hl' => ?_, ⟨by simp [r.len], fun k c h hc hh => ?_, ?_, fun i j ci cj q h1 h2 h3 h4 => ?_⟩, fun c hc => ?_⟩
  · have hp := hl'.map Prod.snd
    have hmem : ∀ o, o ∈ l'.map Prod.snd ↔ ∃ i, i < A1.length ∧ o = some i := fun o => by
      rw [hp.mem_iff, hsnd]
      simp only [List.mem_map, List.mem_range]
      exact ⟨fun ⟨i, h1, h2⟩ => ⟨i, h1, h2.symm⟩, fun ⟨i, h1, h2⟩ => ⟨i, h1, h2.symm⟩⟩
    obtain ⟨s', g1, g2, g3⟩ := forL_rest (day := day) (A1 := A1) (n := n) (by omega) (fun k c hc => by
      obtain ⟨h, _, hcr⟩ := hlook k c hc
      exact ⟨hcr.since.1, by have := hcr.since.2; omega, _, hcr.ok⟩) l' A1 (fun e he => by
        obtain ⟨i, h1, h2⟩ := (hmem e.2).1 (List.mem_map_of_mem he)
        exact ⟨i, h2, h1⟩) (hp.nodup_iff.2 (by rw [hsnd]; exact List.nodup_range.map _ (fun a b hab e => hab (by simpa using e)))) rfl (fun _ _ => rfl)
    rw [g1]
    congr 1
    apply List.ext_getElem?
    intro i
    rw [g3 i, List.getElem?_map]
    by_cases h : i < A1.length
    · rw [if_pos ((hmem _).2 ⟨i, h, rfl⟩)]
    · rw [if_neg (fun h' => by
        obtain ⟨i', h1, h2⟩ := (hmem _).1 h'
        simp only [Option.some.injEq] at h2
        omega), List.getElem?_eq_none (by omega)]
      rfl
  · rw [List.getElem?_map] at hc hh
    cases h1 : A1[k]? with
    | none => rw [h1] at hc; cases hc
    | some c0 =>
      obtain ⟨h0, h2, hcr⟩ := hlook k c0 h1
      rw [h1] at hc; rw [h2] at hh
      simp only [Option.map_some, Option.some.injEq] at hc hh
      subst hc; subst hh
      exact (hcr.shift hd).rest
  · rw [r.map]
    apply List.ext_getElem?
    intro i
    simp only [List.getElem?_mapIdx, List.getElem?_map]
    cases A1[i]? with
    | none => rfl
    | some c => simp [rest_number]
  · rw [List.getElem?_map] at h1 h2
    cases g1 : A1[i]? with
    | none => rw [g1] at h1; cases h1
    | some c1 =>
      cases g2 : A1[j]? with
      | none => rw [g2] at h2; cases h2
      | some c2 =>
        rw [g1] at h1; rw [g2] at h2
        simp only [Option.map_some, Option.some.injEq] at h1 h2
        subst h1; subst h2
        rw [rest_fillsC] at h3 h4
        exact r.apart i j c1 c2 q g1 g2 h3 h4
  · obtain ⟨c0, _, rfl⟩ := List.mem_map.1 hc
    exact rest_since
end
theorem PR.start : PR 0 0 [] [] [] [] := ⟨rfl, fun _ _ _ h => by simp at h, rfl, fun _ _ _ _ _ h => by simp at h⟩
def PlayOK (day : Int) (r : (List Held ⊕ Int) × Nat) (o : Option ((Option Nat) × Int × Int × (List CaskCask) × (List CaskBook) × FM × (List (List (Int × Option Nat))))) : Prop := match r with
  | (.inl all, k) => ∃ A1 b A3 m, o = some (some 0, (k : Int), 0, A1, [b], A3, [m]) ∧ b.casks = some 0 ∧ PR day k all A1 A3 m ∧ (∀ c ∈ A1, c.since = day) ∧ AOk day k all ∧ k ≤ 4096 ∧ 0 ≤ day ∧ day ≤ 65536
  | (.inr e, k) => o = some (none, (k : Int), e, [], [], [], []) ∧ e ≠ 0
theorem play_prog (l : List Ev) (day : Int) : PlayOK day (playS l day) (m_cask_play l day) := by
  obtain ⟨D, hD, hOK⟩ := deeds_some
  unfold m_cask_play playS
  by_cases hl : l.length > 4096
  · have : decide ((l.length : Int) > 4096) = true := decide_eq_true (by omega)
    simp only [this, hl, if_true]
    exact ⟨rfl, by decide⟩
  · have : decide ((l.length : Int) > 4096) = false := decide_eq_false (by omega)
    simp only [this, hl, if_false, Bool.false_eq_true]
    have e : m_cask_within day 0 65536 = inB day 0 65536 := rfl
    rw [e]
    cases hb : inB day 0 65536 with
    | false => exact ⟨rfl, by decide⟩
    | true =>
      have hday := inB_iff.1 hb
      simp only [Bool.not_true, Bool.false_eq_true, if_false, bindv, hD, Option.bind_some, List.nil_append]
      have hloop := loop_prog (D := D) hOK (l := l) (day := day) (by omega) l [] ⟨[], 0⟩ [] [] [] ⟨some 0, 0⟩ rfl SOk.start PR.start rfl
      unfold runS
      cases hg : goS day l 0 ⟨[], 0⟩ with
      | mk r k =>
        have hg' : goS day l ([] : List Ev).length ⟨[], 0⟩ = (r, k) := hg
        rw [hg'] at hloop
        cases r with
        | inl s' =>
          obtain ⟨A1', A3', m', b', h1, h2, h3⟩ := hloop
          obtain ⟨g1, g2, g3, g4⟩ := go_ok l 0 ⟨[], 0⟩ s' k SOk.start (by show (0:Int) ≤ day; omega) hg
          have h1' : loopM (b_cask_play_1 l day D) (0, 0, [], [⟨some 0, 0⟩], [], [[]]) = _ := h1
          obtain ⟨p1, p2, p3⟩ := rest_all h2 g2 hday.2
          have hok := older_all g1.ok (n := day - s'.last) (by omega)
          rw [show s'.last + (day - s'.last) = day by omega] at hok
          refine ⟨A1'.map (restC day), b', A3', m', ?_, h3, p2, p3, hok, by omega, hday.1, hday.2⟩
          rw [h1', Option.bind_some]
          simp only [List.getElem?_cons_zero, Option.bind_some, h3, p1]
        | inr er =>
          have h1' : loopM (b_cask_play_1 l day D) (0, 0, [], [⟨some 0, 0⟩], [], [[]]) = _ := hloop.1
          refine ⟨?_, hloop.2⟩
          rw [h1', Option.bind_some]
end Go.Proofs.Ytkffpbnbjnadnaa
end

section
namespace Go.Proofs.Ytkffpbnbjnadnaa
open Go.Dec
def zC : ApiCask := ⟨0, 0, 0, 0, 0, 0, 0, 0, zN, zN⟩
def findH (all : List Held) (num : Int) : Option Held := (findS all num).bind fun i => all[i]?
def tellS (l : List Ev) (num day : Int) : ApiCask × Int := match (playS l day).1 with
  | .inr e => (zC, e)
  | .inl all => match findH all num with
    | none => (zC, 4)
    | some h => (h.C, 0)
theorem playS_err {l : List Ev} {day e : Int} {k : Nat} (h : playS l day = (.inr e, k)) : e ≠ 0 := by
  have := play_prog l day
  rw [h] at this
  exact this.2
theorem playS_ok {l : List Ev} {day : Int} {all : List Held} {k : Nat} (h : playS l day = (.inl all, k)) : AOk day k all ∧ k ≤ 4096 ∧ 0 ≤ day ∧ day ≤ 65536 := by
  have := play_prog l day
  rw [h] at this
  obtain ⟨_, _, _, _, _, _, _, _, h1, h2, h3, h4⟩ := this
  exact ⟨h1, h2, h3, h4⟩
theorem CR.now {t : Int} {n : Nat} {A3 : FM} {c : CaskCask} {h : Held} (r : CR t n A3 c h) (hs : c.since = t) : h = rawOf c h.Fills := by
  have := r.eq
  rw [hs, Int.sub_self, older_0] at this
  exact this
theorem find_look {all : List Held} {num : Int} {i : Nat} (h : findS all num = some i) : ∃ hh, all[i]? = some hh ∧ findH all num = some hh := by
  obtain ⟨hh, h1, _⟩ := find_some h
  exact ⟨hh, h1, by simp [findH, h, h1]⟩
theorem PR.look {t : Int} {n : Nat} {all : List Held} {A1 : List CaskCask} {A3 : FM} {m : List (Int × Option Nat)} (r : PR t n all A1 A3 m) (hs : ∀ c ∈ A1, c.since = t) {i : Nat} {h : Held} (hh : all[i]? = some h) : ∃ c, A1[i]? = some c ∧ h = rawOf c h.Fills ∧ FR A3 c.fills h.Fills := by
  have hi : i < A1.length := by rw [r.len]; exact (List.getElem?_eq_some_iff.1 hh).1
  have hc : A1[i]? = some A1[i] := List.getElem?_eq_getElem hi
  have hcr := r.each i _ h hc hh
  exact ⟨_, hc, hcr.now (hs _ (List.getElem_mem _)), hcr.fills⟩
theorem At_prog (l : List Ev) (num day : Int) : m_cask_At l num day = some (tellS l num day) := by
  have hp := play_prog l day
  unfold m_cask_At tellS
  cases hpl : playS l day with
  | mk r k =>
    rw [hpl] at hp
    cases r with
    | inr e =>
      rw [hp.1, Option.bind_some]
      have : (e != 0) = true := by simpa using hp.2
      simp only [this, if_true]
      rfl
    | inl all =>
      obtain ⟨A1, b, A3, m, h1, hb, hr, hs, _⟩ := hp
      rw [h1, Option.bind_some]
      have e0 : ((0 : Int) != 0) = false := rfl
      simp only [e0, Bool.false_eq_true, if_false, Option.bind_some, List.getElem?_cons_zero, hb, hr.get]
      cases hf : findS all num with
      | none => simp [findH, hf]; rfl
      | some i =>
        obtain ⟨h, hh, hfh⟩ := find_look hf
        obtain ⟨c, hc, hraw, _⟩ := hr.look hs hh
        simp only [Option.isNone_some, Bool.false_eq_true, if_false, hfh]
        unfold m_cask_cask_shown
        simp only [Option.bind_some, hc]
        have : h.C = (rawOf c h.Fills).C := by rw [← hraw]
        rw [this]; rfl
end Go.Proofs.Ytkffpbnbjnadnaa
end

section
namespace Go.Proofs.Ytkffpbnbjnadnaa
open Go.Dec
def numsS (all : List Held) : List Int := (all.map (·.C.Number)).mergeSort (fun a b => decide (a ≤ b))
def ordS (all : List Held) : List Held := (numsS all).filterMap (findH all)
theorem nums_perm (all : List Held) : (numsS all).Perm (all.map (·.C.Number)) := List.mergeSort_perm _ _
theorem find_ex {all : List Held} {num : Int} (h : num ∈ all.map (·.C.Number)) : ∃ i hh, findS all num = some i ∧ all[i]? = some hh ∧ findH all num = some hh ∧ hh.C.Number = num := by
  cases hf : findS all num with
  | none =>
    obtain ⟨x, hx, e⟩ := List.mem_map.1 h
    exact absurd e (find_none hf x hx)
  | some i =>
    obtain ⟨hh, h1, h2⟩ := find_look hf
    obtain ⟨h', h3, h4⟩ := find_some hf
    rw [h1] at h3; cases h3
    exact ⟨i, hh, rfl, h1, h2, h4⟩
section
variable {t : Int} {n : Nat} {all : List Held} {A1 : List CaskCask} {A3 : FM} {m : List (Int × Option Nat)} {b : CaskBook}
theorem keys_of (r : PR t n all A1 A3 m) (ho : AOk t n all) : keysS m = some (numsS all) := by
  have hk : m.map Prod.fst = all.map (·.C.Number) := by
    rw [r.map]
    apply List.ext_getElem?
    intro i
    simp only [List.getElem?_map, List.getElem?_mapIdx]
    by_cases h : i < A1.length
    · have h2 : i < all.length := by rw [← r.len]; exact h
      rw [List.getElem?_eq_getElem h, List.getElem?_eq_getElem h2]
      simp only [Option.map_some]
      rw [(r.each i _ _ (List.getElem?_eq_getElem h) (List.getElem?_eq_getElem h2)).number]
    · rw [List.getElem?_eq_none (by omega), List.getElem?_eq_none (by rw [← r.len]; omega)]; rfl
  have hl : m.length = all.length := by rw [← List.length_map (f := Prod.fst), hk, List.length_map]
  have hall : m.all (fun x => decide (-9223372036854775808 ≤ x.1 ∧ x.1 ≤ 9223372036854775807)) = true := List.all_eq_true.2 fun x hx => by
    have h1 : x.1 ∈ all.map (·.C.Number) := by rw [← hk]; exact List.mem_map_of_mem hx
    obtain ⟨h, hh, e⟩ := List.mem_map.1 h1
    have := (ho.each h hh).num
    simp only [decide_eq_true_eq]
    omega
  unfold keysS
  rw [if_pos ⟨hall, by have := ho.few; omega⟩, hk]
  rfl
theorem ordered_prog (r : PR t n all A1 A3 m) (ho : AOk t n all) (hb : b.casks = some 0) : L_cask_book_ordered_1 [b] [m] (some 0) = some ((numsS all).map (findS all)) := by
  unfold L_cask_book_ordered_1
  simp only [Option.bind_some, List.getElem?_cons_zero, hb, keys_of r ho]
  congr 1
  exact List.map_congr_left fun k _ => r.get k
theorem forL_Play (hs : ∀ c ∈ A1, c.since = t) (r : PR t n all A1 A3 m) : ∀ (ks : List Int) (out : List ApiCask), (∀ k ∈ ks, k ∈ all.map (·.C.Number)) → out.length + ks.length ≤ 1000000 →
    forL b_cask_Play_1 (ks.map (findS all)) (out, A1) = some (out ++ (ks.filterMap (findH all)).map (·.C), A1)
  | [], out, _, _ => by simp [forL]
  | k :: ks, out, hk, hl => by
    obtain ⟨i, h, h1, h2, h3, h4⟩ := find_ex (hk k (by simp))
    obtain ⟨c, hc, hraw, _⟩ := r.look hs h2
    have hsh : m_cask_cask_shown A1 (some i) = some h.C := by
      unfold m_cask_cask_shown
      simp only [Option.bind_some, hc]
      have : h.C = (rawOf c h.Fills).C := by rw [← hraw]
      rw [this]; rfl
    have hb : b_cask_Play_1 (some i) (out, A1) = some (out ++ [h.C], A1) := by
      unfold b_cask_Play_1
      rw [hsh, Option.bind_some]
      simp only [List.length_cons] at hl
      rw [appO_some' (by simp; omega)]
      rfl
    simp only [List.map_cons, forL, h1, hb, Option.bind_some]
    rw [forL_Play hs r ks (out ++ [h.C]) (fun k' hk' => hk k' (List.mem_cons_of_mem _ hk')) (by simp at hl ⊢; omega)]
    rw [List.filterMap_cons, h3]
    simp
end
def allS' (l : List Ev) (day : Int) : List ApiCask × Int × Int := match playS l day with
  | (.inr e, k) => ([], (k : Int), e)
  | (.inl all, k) => ((ordS all).map (·.C), (k : Int), 0)
theorem Play_prog (l : List Ev) (day : Int) : m_cask_Play l day = some (allS' l day) := by
  have hp := play_prog l day
  unfold m_cask_Play allS'
  cases hpl : playS l day with
  | mk r k =>
    rw [hpl] at hp
    cases r with
    | inr e =>
      rw [hp.1, Option.bind_some]
      have : (e != 0) = true := by simpa using hp.2
      simp only [this, if_true]
    | inl all =>
      obtain ⟨A1, b, A3, m, h1, hb, hr, hs, hok, hk, _⟩ := hp
      rw [h1, Option.bind_some]
      have e0 : ((0 : Int) != 0) = false := rfl
      simp only [e0, Bool.false_eq_true, if_false, Option.bind_some]
      rw [ordered_prog hr hok hb, Option.bind_some]
      have hlen : (numsS all).length = all.length := by rw [(nums_perm all).length_eq]; simp
      rw [forL_Play hs hr (numsS all) [] (fun k hk => (nums_perm all).mem_iff.1 hk) (by have := hok.few; simp; omega), Option.bind_some]
      rfl
end Go.Proofs.Ytkffpbnbjnadnaa
end

section
namespace Go.Proofs.Ytkffpbnbjnadnaa
open Go.Dec
theorem day_iff (x : Int) : m_bottle_isDay x = true ↔ 0 ≤ x ∧ x ≤ 65536 := by
  simp only [m_bottle_isDay, m_bottle_within, Bool.and_eq_true, decide_eq_true_eq, ge_iff_le]
theorem sum_bound (p : Int) (hp : 0 ≤ p) : ∀ l : List Int, (∀ x ∈ l, 0 ≤ x ∧ x ≤ p) → 0 ≤ l.sum ∧ l.sum ≤ p * l.length
  | [], _ => by simp
  | x :: l, h => by
    have h1 := h x (by simp)
    have h2 := sum_bound p hp l fun y hy => h y (by simp [hy])
    rw [List.sum_cons, List.length_cons, Int.natCast_add, Int.mul_add]
    simp only [Int.natCast_one, Int.mul_one]
    omega
theorem sum_eq (l : List Int) (hl : l.length ≤ 1000) : m_bottle_sum l = some (if l.all m_bottle_isDay then (l.sum, true) else (0, false)) := by
  unfold m_bottle_sum
  have key := loopM_ledger (body := b_bottle_sum_1 l) (fun i (t : Int) => (t, (i : Int))) (fun _ x => if m_bottle_isDay x then 0 else 1) (fun _ _ => .inr (0, false)) (fun t => .inl t) (fun pre t => t = pre.sum) l
    (fun pre x post t hl' ho ht => by
      have hg := getEl_mid hl'
      have hi := lt_mid hl'
      unfold b_bottle_sum_1
      simp only [idxL_nat, hg, Option.bind_some, bindv]
      rw [w64_id (n := (pre.length : Int) + 1) (by omega) (by omega)]
      simp only [show (decide ((pre.length : Int) < (l.length : Int))) = true by simpa using hi, if_true]
      cases hx : m_bottle_isDay x with
      | false => left; simp
      | true =>
        right
        have hx' := (day_iff x).1 hx
        have hall : ∀ y ∈ pre, 0 ≤ y ∧ y ≤ 65536 := by
          intro y hy
          obtain ⟨s, r, rfl⟩ := List.append_of_mem hy
          have := ho s y r rfl
          cases hd : m_bottle_isDay y with
          | true => exact (day_iff y).1 hd
          | false => simp [hd] at this
        have hb := sum_bound 65536 (by omega) pre hall
        refine ⟨by simp, t + x, ?_, by rw [ht]; simp⟩
        simp only [Bool.not_true, Bool.false_eq_true, if_false]
        rw [w64_id (by omega) (by omega)]; simp)
    (fun t _ _ => by unfold b_bottle_sum_1; simp) l [] 0 rfl AllOk.nil rfl
  simp only [List.length_nil, Int.natCast_zero] at key
  rcases key with ⟨p, x, ⟨post, e, _, hx⟩, hr⟩ | ⟨ho, t, ht, hr⟩
  · have : l.all m_bottle_isDay = false := by
      rw [e, List.all_append, List.all_cons]
      cases hd : m_bottle_isDay x with
      | true => simp [hd] at hx
      | false => simp
    rw [this]
    exact bind_of hr rfl
  · have : l.all m_bottle_isDay = true := by
      rw [List.all_eq_true]
      intro y hy
      obtain ⟨s, r, rfl⟩ := List.append_of_mem hy
      have := ho s y r rfl
      cases hd : m_bottle_isDay y with
      | true => rfl
      | false => simp [hd] at this
    rw [this]
    exact bind_of hr (by rw [ht]; rfl)
def dOK (d : ApiDraught) : Bool :=
  (arrL 8 d.From.Woods).all m_bottle_isDay && (arrL 8 d.From.Places).all m_bottle_isDay && m_bottle_isDay d.From.Age && decide (d.From.Age ≥ imax (arrL 8 d.From.Woods).sum (arrL 8 d.From.Places).sum) &&
  m_bottle_within d.From.Number 0 1073741824 && m_bottle_within d.Amount 1 1073741824 && m_bottle_isSpan d.Strength 10000
structure DOK (d : ApiDraught) : Prop where
  woods : ∀ i, i < 8 → 0 ≤ d.From.Woods i ∧ d.From.Woods i ≤ 65536
  places : ∀ i, i < 8 → 0 ≤ d.From.Places i ∧ d.From.Places i ≤ 65536
  age : 0 ≤ d.From.Age ∧ d.From.Age ≤ 65536
  ageW : (arrL 8 d.From.Woods).sum ≤ d.From.Age
  ageP : (arrL 8 d.From.Places).sum ≤ d.From.Age
  num : 0 ≤ d.From.Number ∧ d.From.Number ≤ 1073741824
  amt : 1 ≤ d.Amount ∧ d.Amount ≤ 1073741824
  str : 0 ≤ d.Strength.Lo ∧ d.Strength.Lo ≤ d.Strength.Hi ∧ d.Strength.Hi ≤ 10000
theorem arrL_allI {f : Nat → Int} {p : Int → Bool} {n : Nat} : (arrL n f).all p = true ↔ ∀ i, i < n → p (f i) = true := by
  simp [arrL, List.all_eq_true]
theorem dOK_iff (d : ApiDraught) : dOK d = true ↔ DOK d := by
  simp only [dOK, Bool.and_eq_true, arrL_allI, day_iff, decide_eq_true_eq, m_bottle_within, m_bottle_isSpan, imax, ge_iff_le]
  constructor
  · rintro ⟨⟨⟨⟨⟨⟨h1, h2⟩, h3⟩, h4⟩, h5⟩, h6⟩, h7⟩
    refine ⟨h1, h2, h3, ?_, ?_, by omega, by omega, by omega⟩
    · split at h4 <;> omega
    · split at h4 <;> omega
  · rintro ⟨h1, h2, h3, h4, h5, h6, h7, h8⟩
    refine ⟨⟨⟨⟨⟨⟨h1, h2⟩, h3⟩, ?_⟩, by omega⟩, by omega⟩, by omega⟩
    split <;> omega
theorem isDraught_eq (d : ApiDraught) : m_bottle_isDraught d = some (dOK d) := by
  unfold m_bottle_isDraught
  rw [sum_eq _ (by simp [arrL]), sum_eq _ (by simp [arrL])]
  simp only [Option.bind_some, bindv, dOK]
  cases h1 : (arrL 8 d.From.Woods).all m_bottle_isDay <;> cases h2 : (arrL 8 d.From.Places).all m_bottle_isDay <;> simp
def sumA (l : List ApiDraught) : Int := (l.map fun d => d.Amount).sum
def sumLo (l : List ApiDraught) : Int := (l.map fun d => d.Amount * d.Strength.Lo).sum
def sumHi (l : List ApiDraught) : Int := (l.map fun d => d.Amount * d.Strength.Hi).sum
theorem sumA_snoc (l : List ApiDraught) (d : ApiDraught) : sumA (l ++ [d]) = sumA l + d.Amount := by simp [sumA]
theorem sumLo_snoc (l : List ApiDraught) (d : ApiDraught) : sumLo (l ++ [d]) = sumLo l + d.Amount * d.Strength.Lo := by simp [sumLo]
theorem sumHi_snoc (l : List ApiDraught) (d : ApiDraught) : sumHi (l ++ [d]) = sumHi l + d.Amount * d.Strength.Hi := by simp [sumHi]
theorem amount_bound {d : ApiDraught} (h : DOK d) {x : Int} (h0 : 0 ≤ x) (h1 : x ≤ 10000) : 0 ≤ d.Amount * x ∧ d.Amount * x ≤ 10737418240000 := by
  have ha := h.amt
  constructor
  · exact Int.mul_nonneg (by omega) h0
  · have := Int.mul_le_mul ha.2 h1 h0 (by omega)
    omega
theorem sums_bound (l : List ApiDraught) : (∀ d ∈ l, DOK d) → ((l.length : Int) ≤ sumA l ∧ sumA l ≤ 1073741824 * l.length) ∧ (0 ≤ sumLo l ∧ sumLo l ≤ sumHi l) ∧ sumHi l ≤ 10737418240000 * l.length ∧ sumHi l ≤ 10000 * sumA l := by
  induction l using snoc_ind with
  | h0 => intro _; simp [sumA, sumLo, sumHi]
  | hs l d ih =>
    intro h
    have hd := h d (by simp)
    obtain ⟨h1, h2, h3, h4⟩ := ih fun x hx => h x (by simp [hx])
    rw [sumA_snoc, sumLo_snoc, sumHi_snoc, List.length_append, List.length_singleton, Int.natCast_add]
    have ha := hd.amt
    have hs := hd.str
    have b1 := amount_bound hd (x := d.Strength.Lo) (by omega) (by omega)
    have b2 := amount_bound hd (x := d.Strength.Hi) (by omega) (by omega)
    have b3 : d.Amount * d.Strength.Lo ≤ d.Amount * d.Strength.Hi := Int.mul_le_mul_of_nonneg_left hs.2.1 (by omega)
    have b4 : d.Amount * d.Strength.Hi ≤ d.Amount * 10000 := Int.mul_le_mul_of_nonneg_left hs.2.2 (by omega)
    simp only [Int.natCast_one]
    refine ⟨by omega, by omega, by omega, by omega⟩
def validB (b : ApiBatch) : Bool := b.Draughts.all dOK && m_bottle_within (b.Draughts.length : Int) 1 16 && m_bottle_within b.Water 0 17179869184 && m_bottle_isSpan b.Shrink 1000
structure Valid (b : ApiBatch) : Prop where
  ds : ∀ d ∈ b.Draughts, DOK d
  len : 1 ≤ b.Draughts.length ∧ b.Draughts.length ≤ 16
  water : 0 ≤ b.Water ∧ b.Water ≤ 17179869184
  shrink : 0 ≤ b.Shrink.Lo ∧ b.Shrink.Lo ≤ b.Shrink.Hi ∧ b.Shrink.Hi ≤ 1000
theorem validB_iff (b : ApiBatch) : validB b = true ↔ Valid b := by
  simp only [validB, Bool.and_eq_true, List.all_eq_true, dOK_iff, m_bottle_within, m_bottle_isSpan, decide_eq_true_eq, ge_iff_le]
  constructor
  · rintro ⟨⟨⟨h1, h2⟩, h3⟩, h4⟩
    exact ⟨h1, by omega, h3, by omega⟩
  · rintro ⟨h1, h2, h3, h4⟩
    exact ⟨⟨⟨h1, by omega⟩, h3⟩, by omega⟩
theorem open_eq (b : ApiBatch) (hlen : b.Draughts.length ≤ 40) : ∃ x, m_bottle_open b = some (x, validB b) ∧ (validB b = true → x = BottleBatch.mk b (sumA b.Draughts) (sumLo b.Draughts) (sumHi b.Draughts)) := by
  unfold m_bottle_open
  have key : (∃ x, loopM (b_bottle_open_1 b) (0, BottleBatch.mk b 0 0 0) = some (.inr (x, false)) ∧ b.Draughts.all dOK = false) ∨ (loopM (b_bottle_open_1 b) (0, BottleBatch.mk b 0 0 0) = some (.inl (BottleBatch.mk b (sumA b.Draughts) (sumLo b.Draughts) (sumHi b.Draughts))) ∧ b.Draughts.all dOK = true) := by
    have go : ∀ (post pre : List ApiDraught), b.Draughts = pre ++ post → (∀ d ∈ pre, DOK d) → (∃ x, loopM (b_bottle_open_1 b) ((pre.length : Int), BottleBatch.mk b (sumA pre) (sumLo pre) (sumHi pre)) = some (.inr (x, false)) ∧ b.Draughts.all dOK = false) ∨ (loopM (b_bottle_open_1 b) ((pre.length : Int), BottleBatch.mk b (sumA pre) (sumLo pre) (sumHi pre)) = some (.inl (BottleBatch.mk b (sumA b.Draughts) (sumLo b.Draughts) (sumHi b.Draughts))) ∧ b.Draughts.all dOK = true) := by
      intro post
      induction post with
      | nil =>
        intro pre e h
        rw [List.append_nil] at e
        right
        rw [← e] at h ⊢
        refine ⟨?_, by rw [List.all_eq_true]; exact fun d hd => (dOK_iff d).2 (h d hd)⟩
        rw [loopM_eq]; unfold b_bottle_open_1; simp
      | cons d post ih =>
        intro pre e h
        have hg := getEl_mid e
        have hi := lt_mid e
        cases hd : dOK d with
        | false =>
          left
          have hb : b_bottle_open_1 b ((pre.length : Int), BottleBatch.mk b (sumA pre) (sumLo pre) (sumHi pre)) = some (.done (.inr (BottleBatch.mk b (sumA pre) (sumLo pre) (sumHi pre), false))) := by
            unfold b_bottle_open_1
            simp only [idxL_nat, hg, Option.bind_some, bindv, isDraught_eq, hd]
            simp only [show (decide ((pre.length : Int) < (b.Draughts.length : Int))) = true by simpa using hi, if_true]
            simp
          refine ⟨BottleBatch.mk b (sumA pre) (sumLo pre) (sumHi pre), ?_, ?_⟩
          · rw [loopM_eq, hb]
          · rw [e, List.all_append, List.all_cons, hd]; simp
        | true =>
          have hd' := (dOK_iff d).1 hd
          have hs := hd'.str
          obtain ⟨b1, b2, b3, _⟩ := sums_bound pre h
          have b4 := amount_bound hd' (x := d.Strength.Lo) (by omega) (by omega)
          have b5 := amount_bound hd' (x := d.Strength.Hi) (by omega) (by omega)
          have ha := hd'.amt
          have := ih (pre ++ [d]) (by rw [e]; simp) (fun x hx => by
            rcases List.mem_append.1 hx with hx | hx
            · exact h x hx
            · simp only [List.mem_singleton] at hx; subst hx; exact hd')
          have hb : b_bottle_open_1 b ((pre.length : Int), BottleBatch.mk b (sumA pre) (sumLo pre) (sumHi pre)) = some (.next (((pre ++ [d]).length : Int), BottleBatch.mk b (sumA (pre ++ [d])) (sumLo (pre ++ [d])) (sumHi (pre ++ [d])))) := by
            unfold b_bottle_open_1
            rw [sumA_snoc, sumLo_snoc, sumHi_snoc, List.length_append, List.length_singleton, Int.natCast_add]
            simp only [idxL_nat, hg, Option.bind_some, bindv, isDraught_eq, hd]
            simp only [show (decide ((pre.length : Int) < (b.Draughts.length : Int))) = true by simpa using hi, if_true]
            rw [w64_id (n := d.Amount * d.Strength.Lo) (by omega) (by omega), w64_id (n := d.Amount * d.Strength.Hi) (by omega) (by omega), w64_id (n := (pre.length : Int) + 1) (by omega) (by omega), w64_id (n := sumA pre + d.Amount) (by omega) (by omega), w64_id (n := sumLo pre + d.Amount * d.Strength.Lo) (by omega) (by omega), w64_id (n := sumHi pre + d.Amount * d.Strength.Hi) (by omega) (by omega)]
            simp
          rw [loopM_eq, hb]
          exact this
    exact go b.Draughts [] rfl (by simp)
  rcases key with ⟨x, hr, hall⟩ | ⟨hr, hall⟩
  · refine ⟨x, bind_of hr ?_, fun h => ?_⟩
    · simp only [validB, hall, Bool.false_and]
    · simp only [validB, hall, Bool.false_and] at h; cases h
  · refine ⟨BottleBatch.mk b (sumA b.Draughts) (sumLo b.Draughts) (sumHi b.Draughts), bind_of hr ?_, fun _ => rfl⟩
    simp only [validB, hall, Bool.true_and]
    cases m_bottle_within (b.Draughts.length : Int) 1 16 <;> cases m_bottle_within b.Water 0 17179869184 <;> simp
end Go.Proofs.Ytkffpbnbjnadnaa
end

section
namespace Go.Proofs.Ytkffpbnbjnadnaa
open Go.Dec
def volF (b : ApiBatch) (w : Int) : ApiSpan :=
  ApiSpan.mk ((sumA b.Draughts + w) * (10000 - b.Shrink.Hi) / 10000) (((sumA b.Draughts + w) * (10000 - b.Shrink.Lo) + 10000 - 1) / 10000)
def strF (b : ApiBatch) (w : Int) : ApiSpan :=
  ApiSpan.mk (imin 10000 (sumLo b.Draughts * 10000 / ((sumA b.Draughts + w) * (10000 - b.Shrink.Lo))))
    (imin 10000 ((sumHi b.Draughts * 10000 + (sumA b.Draughts + w) * (10000 - b.Shrink.Hi) - 1) / ((sumA b.Draughts + w) * (10000 - b.Shrink.Hi))))
structure Bds (b : ApiBatch) (w : Int) : Prop where
  a : 1 ≤ sumA b.Draughts ∧ sumA b.Draughts ≤ 17179869184
  l : 0 ≤ sumLo b.Draughts ∧ sumLo b.Draughts ≤ sumHi b.Draughts ∧ sumHi b.Draughts ≤ 171798691840000
  lh : sumHi b.Draughts ≤ 10000 * sumA b.Draughts
  small : 9000 ≤ (sumA b.Draughts + w) * (10000 - b.Shrink.Hi) ∧ (sumA b.Draughts + w) * (10000 - b.Shrink.Hi) ≤ 343597383680000
  great : 9000 ≤ (sumA b.Draughts + w) * (10000 - b.Shrink.Lo) ∧ (sumA b.Draughts + w) * (10000 - b.Shrink.Lo) ≤ 343597383680000
  le : (sumA b.Draughts + w) * (10000 - b.Shrink.Hi) ≤ (sumA b.Draughts + w) * (10000 - b.Shrink.Lo)
theorem bds {b : ApiBatch} {w : Int} (h : Valid b) (h0 : 0 ≤ w) (h1 : w ≤ 17179869184) : Bds b w := by
  obtain ⟨b1, b2, b3, b4⟩ := sums_bound b.Draughts h.ds
  have hl := h.len
  have hs := h.shrink
  have ha : 1 ≤ sumA b.Draughts ∧ sumA b.Draughts ≤ 17179869184 := by omega
  have mb : ∀ x : Int, 9000 ≤ x → x ≤ 10000 → 9000 ≤ (sumA b.Draughts + w) * x ∧ (sumA b.Draughts + w) * x ≤ 343597383680000 := by
    intro x hx1 hx2
    have m1 : 1 * 9000 ≤ (sumA b.Draughts + w) * x := Int.mul_le_mul (by omega) hx1 (by omega) (by omega)
    have m2 : (sumA b.Draughts + w) * x ≤ 34359738368 * 10000 := Int.mul_le_mul (by omega) hx2 (by omega) (by omega)
    omega
  exact ⟨ha, by omega, b4, mb _ (by omega) (by omega), mb _ (by omega) (by omega), Int.mul_le_mul_of_nonneg_left (by omega) (by omega)⟩
theorem volume_eq {b : ApiBatch} {w : Int} (h : Valid b) (h0 : 0 ≤ w) (h1 : w ≤ 17179869184) : m_bottle_batch_volume (BottleBatch.mk b (sumA b.Draughts) (sumLo b.Draughts) (sumHi b.Draughts)) w = some (volF b w) := by
  have hb := bds h h0 h1
  have b1 := hb.a; have b2 := hb.small; have b3 := hb.great
  have hs := h.shrink
  unfold m_bottle_batch_volume m_bottle_up
  simp only [bindv]
  rw [w64_id (n := sumA b.Draughts + w) (by omega) (by omega), w64_id (n := 10000 - b.Shrink.Lo) (by omega) (by omega), w64_id (n := 10000 - b.Shrink.Hi) (by omega) (by omega)]
  rw [w64_id (n := (sumA b.Draughts + w) * (10000 - b.Shrink.Lo)) (by omega) (by omega), w64_id (n := (sumA b.Draughts + w) * (10000 - b.Shrink.Hi)) (by omega) (by omega)]
  rw [w64_id (n := (sumA b.Draughts + w) * (10000 - b.Shrink.Lo) + 10000) (by omega) (by omega), w64_id (n := (sumA b.Draughts + w) * (10000 - b.Shrink.Lo) + 10000 - 1) (by omega) (by omega)]
  rw [quoK_pos (by omega) (by omega) (by omega)]
  simp only [Option.bind_some]
  rw [Int.tdiv_eq_ediv_of_nonneg (by omega), w64_id (by omega) (by omega)]
  rfl
theorem strength_eq {b : ApiBatch} {w : Int} (h : Valid b) (h0 : 0 ≤ w) (h1 : w ≤ 17179869184) : m_bottle_batch_strength (BottleBatch.mk b (sumA b.Draughts) (sumLo b.Draughts) (sumHi b.Draughts)) w = some (strF b w) := by
  have hb := bds h h0 h1
  have b1 := hb.a; have b2 := hb.small; have b3 := hb.great; have b4 := hb.l
  have hs := h.shrink
  unfold m_bottle_batch_strength m_bottle_up
  simp only [bindv]
  rw [w64_id (n := sumA b.Draughts + w) (by omega) (by omega), w64_id (n := 10000 - b.Shrink.Lo) (by omega) (by omega), w64_id (n := 10000 - b.Shrink.Hi) (by omega) (by omega)]
  rw [w64_id (n := (sumA b.Draughts + w) * (10000 - b.Shrink.Lo)) (by omega) (by omega), w64_id (n := (sumA b.Draughts + w) * (10000 - b.Shrink.Hi)) (by omega) (by omega)]
  rw [w64_id (n := sumLo b.Draughts * 10000) (by omega) (by omega), w64_id (n := sumHi b.Draughts * 10000) (by omega) (by omega)]
  rw [w64_id (n := sumHi b.Draughts * 10000 + (sumA b.Draughts + w) * (10000 - b.Shrink.Hi)) (by omega) (by omega), w64_id (n := sumHi b.Draughts * 10000 + (sumA b.Draughts + w) * (10000 - b.Shrink.Hi) - 1) (by omega) (by omega)]
  rw [quoK_pos (by omega) (by omega) (by omega), quoK_pos (by omega) (by omega) (by omega)]
  rfl
def minW (l : List ApiDraught) (f : ApiDraught → Int) : Int := match l with
  | [] => 0
  | d :: r => r.foldl (fun m x => imin m (f x)) (f d)
theorem minW_snoc {l : List ApiDraught} {d : ApiDraught} {f : ApiDraught → Int} (hl : l ≠ []) : minW (l ++ [d]) f = imin (minW l f) (f d) := by
  cases l with
  | nil => exact absurd rfl hl
  | cons x r => simp [minW]
theorem least_eq (l : List ApiDraught) (f : ApiDraught → Int) (hl : l ≠ []) (h : l.length ≤ 1000) : m_bottle_least_int l (fun d => some (f d)) = some (minW l f) := by
  cases l with
  | nil => exact absurd rfl hl
  | cons d r =>
    simp only [List.length_cons] at h
    unfold m_bottle_least_int
    have h0 : idxL (d :: r) 0 = some d := rfl
    have h1 : sliceL (d :: r) 1 ((d :: r).length : Int) = some r := by
      unfold sliceL; rw [if_pos (by simp only [List.length_cons]; omega)]
      simp
    refine bind_of h0 (bind_of rfl (bind_of h1 ?_))
    obtain ⟨t', k1, k2⟩ := loopM_pre (body := b_bottle_least_int_1 (fun d => some (f d)) r) (fun i (t : Int) => (t, (i : Int))) (fun t => t) (fun pre t => t = minW (d :: pre) f) r
      (fun pre x post t hl ht => by
        have hg := getEl_mid hl
        have hi := lt_mid hl
        unfold b_bottle_least_int_1
        simp only [idxL_nat, hg, Option.bind_some, bindv]
        rw [w64_id (by omega) (by omega)]
        simp only [show (decide ((pre.length : Int) < (r.length : Int))) = true by simpa using hi, if_true]
        refine ⟨_, rfl, ?_⟩
        rw [← List.cons_append, minW_snoc (by simp), ht])
      (fun t _ => by unfold b_bottle_least_int_1; simp) r [] (f d) rfl rfl
    simp only [List.length_nil, Int.natCast_zero] at k2
    exact bind_of k2 (by rw [k1])
def numF (l : List ApiDraught) : List Int := l.foldl (fun acc d => if d.From.Number ∈ acc then acc else acc ++ [d.From.Number]) []
theorem numF_snoc (l : List ApiDraught) (d : ApiDraught) : numF (l ++ [d]) = if d.From.Number ∈ numF l then numF l else numF l ++ [d.From.Number] := by
  unfold numF; rw [List.foldl_append]; rfl
theorem mapSet_keys (k : Int) : ∀ ks : List Int, mapSet (ks.map fun x => (x, true)) k true = (if k ∈ ks then ks else ks ++ [k]).map fun x => (x, true)
  | [] => by simp [mapSet]
  | x :: ks => by
    simp only [List.map_cons, mapSet]
    by_cases h : k = x
    · subst h; simp
    · have hb : (k == x) = false := by simpa using h
      simp only [hb, Bool.false_eq_true, if_false]
      rw [mapSet_keys k ks]
      by_cases hm : k ∈ ks <;> simp [hm, h]
theorem casks_eq (b : ApiBatch) (A L M : Int) (h : b.Draughts.length ≤ 1000) : m_bottle_batch_casks (BottleBatch.mk b A L M) = some ((numF b.Draughts).length : Int) := by
  unfold m_bottle_batch_casks
  obtain ⟨t', k1, k2⟩ := loopM_pre (body := b_bottle_batch_casks_1 (BottleBatch.mk b A L M)) (fun i (t : List (Int × Bool)) => (t, (i : Int))) (fun t => t) (fun pre t => t = (numF pre).map fun x => (x, true)) b.Draughts
    (fun pre x post t hl ht => by
      have hg := getEl_mid hl
      have hi := lt_mid hl
      unfold b_bottle_batch_casks_1
      simp only [idxL_nat, hg, Option.bind_some, bindv]
      rw [w64_id (by omega) (by omega)]
      simp only [show (decide ((pre.length : Int) < (b.Draughts.length : Int))) = true by simpa using hi, if_true]
      refine ⟨_, rfl, ?_⟩
      rw [ht, mapSet_keys, numF_snoc])
    (fun t _ => by unfold b_bottle_batch_casks_1; simp) b.Draughts [] [] rfl rfl
  simp only [List.length_nil, Int.natCast_zero] at k2
  exact bind_of k2 (by rw [k1]; simp)
structure Known (b : ApiBatch) (w : Int) (x : ApiBottling) : Prop where
  vol : x.Volume = volF b w
  str : x.Strength = strF b w
  age : x.Age = minW b.Draughts fun d => d.From.Age
  woods : ∀ i, i < 8 → x.Woods i = minW b.Draughts fun d => d.From.Woods i
  places : ∀ i, i < 8 → x.Places i = minW b.Draughts fun d => d.From.Places i
  casks : x.Casks = ((numF b.Draughts).length : Int)
theorem updN_same {α : Type} (f : Nat → α) (i : Nat) (x : α) : updN f i x i = x := by simp [updN]
theorem updN_other {α : Type} {f : Nat → α} {i j : Nat} {x : α} (h : j ≠ i) : updN f i x j = f j := by
  have : Nat.beq j i = false := by
    cases hb : Nat.beq j i with
    | true => exact absurd (Nat.eq_of_beq_eq_true hb) h
    | false => rfl
  simp [updN, this]
theorem known_eq {b : ApiBatch} (h : Valid b) : ∃ x, m_bottle_batch_known (BottleBatch.mk b (sumA b.Draughts) (sumLo b.Draughts) (sumHi b.Draughts)) = some x ∧ Known b b.Water x := by
  have hl := h.len
  have hne : b.Draughts ≠ [] := by intro e; rw [e] at hl; simp at hl
  unfold m_bottle_batch_known
  have e1 := volume_eq h h.water.1 h.water.2
  have e2 := strength_eq h h.water.1 h.water.2
  have e3 := casks_eq b (sumA b.Draughts) (sumLo b.Draughts) (sumHi b.Draughts) (by omega)
  have e4 : m_bottle_least_int b.Draughts (fun x => some (m_bottle_batch_known_1 x)) = some (minW b.Draughts fun d => d.From.Age) := least_eq b.Draughts (fun d => d.From.Age) hne (by omega)
  generalize hx0 : ({ (ApiBottling.mk (volF b b.Water) (strF b b.Water) 0 (fun _ => 0) (fun _ => 0) ((numF b.Draughts).length : Int)) with Age := minW b.Draughts fun d => d.From.Age } : ApiBottling) = x0
  obtain ⟨x1, ⟨h1a, h1b⟩, k1⟩ := loopM_upto (body := b_bottle_batch_known_1 (BottleBatch.mk b (sumA b.Draughts) (sumLo b.Draughts) (sumHi b.Draughts))) (fun i (t : ApiBottling) => ((i : Int), t)) (fun t => t)
    (fun n t => (∀ i, i < n → t.Woods i = minW b.Draughts fun d => d.From.Woods i) ∧ ∃ f, t = { x0 with Woods := f }) 8
    (fun i t hi ⟨ht, f, hf⟩ => by
      have e5 : m_bottle_least_int b.Draughts (fun x => m_bottle_batch_known_2 x (i : Int)) = some (minW b.Draughts fun d => d.From.Woods i) := by
        rw [show (fun x => m_bottle_batch_known_2 x (i : Int)) = fun x => some (x.From.Woods i) from by
          funext x; unfold m_bottle_batch_known_2; rw [idxO_nat hi]; rfl]
        exact least_eq b.Draughts _ hne (by omega)
      refine ⟨{ t with Woods := updN t.Woods i (minW b.Draughts fun d => d.From.Woods i) }, ?_, fun j hj => ?_, ?_⟩
      · unfold b_bottle_batch_known_1
        simp only [show (decide ((i : Int) < 8)) = true by simp; omega, if_true]
        refine bind_of e5 (bind_of (idxO_nat hi) ?_)
        simp only [bindv]
        rw [w64_id (by omega) (by omega)]; simp
      · show updN t.Woods i _ j = _
        by_cases hji : j = i
        · subst hji; exact updN_same _ _ _
        · rw [updN_other hji]; exact ht j (by omega)
      · exact ⟨updN t.Woods i (minW b.Draughts fun d => d.From.Woods i), by rw [hf]⟩)
    (fun t _ => by unfold b_bottle_batch_known_1; simp) 8 0 x0 rfl ⟨fun i hi => by omega, x0.Woods, rfl⟩
  obtain ⟨x2, ⟨h2a, f2, h2b⟩, k2⟩ := loopM_upto (body := b_bottle_batch_known_2 (BottleBatch.mk b (sumA b.Draughts) (sumLo b.Draughts) (sumHi b.Draughts))) (fun i (t : ApiBottling) => ((i : Int), t)) (fun t => t)
    (fun n t => (∀ i, i < n → t.Places i = minW b.Draughts fun d => d.From.Places i) ∧ ∃ f, t = { x1 with Places := f }) 8
    (fun i t hi ⟨ht, f, hf⟩ => by
      have e5 : m_bottle_least_int b.Draughts (fun x => m_bottle_batch_known_3 x (i : Int)) = some (minW b.Draughts fun d => d.From.Places i) := by
        rw [show (fun x => m_bottle_batch_known_3 x (i : Int)) = fun x => some (x.From.Places i) from by
          funext x; unfold m_bottle_batch_known_3; rw [idxO_nat hi]; rfl]
        exact least_eq b.Draughts _ hne (by omega)
      refine ⟨{ t with Places := updN t.Places i (minW b.Draughts fun d => d.From.Places i) }, ?_, fun j hj => ?_, ?_⟩
      · unfold b_bottle_batch_known_2
        simp only [show (decide ((i : Int) < 8)) = true by simp; omega, if_true]
        refine bind_of e5 (bind_of (idxO_nat hi) ?_)
        simp only [bindv]
        rw [w64_id (by omega) (by omega)]; simp
      · show updN t.Places i _ j = _
        by_cases hji : j = i
        · subst hji; exact updN_same _ _ _
        · rw [updN_other hji]; exact ht j (by omega)
      · exact ⟨updN t.Places i (minW b.Draughts fun d => d.From.Places i), by rw [hf]⟩)
    (fun t _ => by unfold b_bottle_batch_known_2; simp) 8 0 x1 rfl ⟨fun i hi => by omega, x1.Places, rfl⟩
  simp only [Int.natCast_zero] at k1 k2
  obtain ⟨f1, h1c⟩ := h1b
  refine ⟨x2, ?_, ?_⟩
  · refine bind_of e1 (bind_of e2 (bind_of e3 (bind_of e4 ?_)))
    simp only [bindv]
    rw [hx0]
    exact bind_of k1 (bind_of k2 rfl)
  · have hw : x2.Woods = x1.Woods := by rw [h2b]
    refine ⟨by rw [h2b, h1c, ← hx0], by rw [h2b, h1c, ← hx0], by rw [h2b, h1c, ← hx0], fun i hi => by rw [hw]; exact h1a i hi, h2a, by rw [h2b, h1c, ← hx0]⟩
theorem blend_prog (b : ApiBatch) (hlen : b.Draughts.length ≤ 40) : (validB b = false ∧ m_bottle_Blend b = some (ApiBottling.mk (ApiSpan.mk 0 0) (ApiSpan.mk 0 0) 0 (fun _ => 0) (fun _ => 0) 0, 1)) ∨ (Valid b ∧ ∃ x, m_bottle_Blend b = some (x, 0) ∧ Known b b.Water x) := by
  obtain ⟨x, he, hx⟩ := open_eq b hlen
  unfold m_bottle_Blend
  cases hv : validB b with
  | false =>
    refine .inl ⟨rfl, bind_of he ?_⟩
    rw [hv]; rfl
  | true =>
    have h := (validB_iff b).1 hv
    obtain ⟨y, k1, k2⟩ := known_eq h
    refine .inr ⟨h, y, bind_of he ?_, k2⟩
    rw [hv, hx hv]
    simp only [Bool.not_true, Bool.false_eq_true, if_false]
    exact bind_of k1 rfl
end Go.Proofs.Ytkffpbnbjnadnaa
end

section
namespace Go.Proofs.Ytkffpbnbjnadnaa
open Go.Dec
theorem imin_swap (a b : Int) : imin a b = imin b a := by unfold imin; split <;> split <;> omega
theorem sum8_arr (f : Nat → Int) : (arrL 8 f).sum = sum8 f := by
  have : arrL 8 f = [f 0, f 1, f 2, f 3, f 4, f 5, f 6, f 7] := rfl
  rw [this]
  simp only [List.sum_cons, List.sum_nil, sum8]; omega
theorem held_dok {t : Int} {n : Nat} {h : Held} {sp : ApiSpan} (ho : HOk t n h) (ht : t ≤ 65536) (ha : 1 ≤ h.C.Amount) (hb : h.C.Amount ≤ 1073741824) (hs : 0 ≤ sp.Lo ∧ sp.Lo ≤ sp.Hi ∧ sp.Hi ≤ 10000) : DOK ⟨h.C, h.C.Amount, sp⟩ where
  woods := fun i _ => by
    have h1 := ho.woods.le i
    have h2 := ho.age
    show 0 ≤ h.C.Woods i ∧ h.C.Woods i ≤ 65536; omega
  places := fun i _ => by
    have h1 := ho.places.le i
    have h2 := ho.age
    show 0 ≤ h.C.Places i ∧ h.C.Places i ≤ 65536; omega
  age := by have := ho.age; show 0 ≤ h.C.Age ∧ h.C.Age ≤ 65536; omega
  ageW := by show (arrL 8 h.C.Woods).sum ≤ h.C.Age; rw [sum8_arr]; exact ho.woods.sum
  ageP := by show (arrL 8 h.C.Places).sum ≤ h.C.Age; rw [sum8_arr]; exact ho.places.sum
  num := ho.num
  amt := ⟨ha, hb⟩
  str := hs
theorem ord_aux {all : List Held} : ∀ {ks : List Int}, (∀ k ∈ ks, ∃ (i : Nat) (h : Held), all[i]? = some h ∧ findH all k = some h ∧ h.C.Number = k) → (ks.filterMap (findH all)).map (·.C.Number) = ks ∧ ∀ c ∈ ks.filterMap (findH all), ∃ i : Nat, all[i]? = some c
  | [], _ => ⟨rfl, fun _ h => by cases h⟩
  | k :: ks, h => by
    obtain ⟨i, x, h1, h2, h3⟩ := h k (by simp)
    obtain ⟨g1, g2⟩ := ord_aux (ks := ks) fun k' hk' => h k' (List.mem_cons_of_mem _ hk')
    rw [List.filterMap_cons, h2]
    refine ⟨by simp only [List.map_cons, g1, h3], fun c hc => ?_⟩
    rcases List.mem_cons.1 hc with rfl | hc
    · exact ⟨i, h1⟩
    · exact g2 c hc
theorem ord_all (all : List Held) : (ordS all).map (·.C.Number) = numsS all ∧ ∀ c ∈ ordS all, ∃ i : Nat, all[i]? = some c :=
  ord_aux fun k hk => by
    obtain ⟨i, h, _, h2, h3, h4⟩ := find_ex ((nums_perm all).mem_iff.1 hk)
    exact ⟨i, h, h2, h3, h4⟩
theorem ord_apart {all : List Held} (hn : (all.map (·.C.Number)).Nodup) {i k : Nat} {a b : Held} (ha : (ordS all)[i]? = some a) (hb : (ordS all)[k]? = some b) (hik : i ≠ k) : a.C.Number ≠ b.C.Number := fun e => by
  have hm := (ord_all all).1
  have h1 : (numsS all)[i]? = some a.C.Number := by rw [← hm]; simp [ha]
  have h2 : (numsS all)[k]? = some b.C.Number := by rw [← hm]; simp [hb]
  have hnd : (numsS all).Nodup := (nums_perm all).nodup_iff.2 hn
  rw [e] at h1
  exact hik ((List.getElem?_inj (List.getElem?_eq_some_iff.1 h1).1 hnd).1 (h1.trans h2.symm))
theorem go_take {day : Int} : ∀ {l : List Ev} {n : Nat} {s s' : Cur} {k : Nat}, goS day l n s = (.inl s', k) → n ≤ k ∧ ∀ rest, goS day (l.take (k - n) ++ rest) n s = goS day rest k s'
  | [], n, s, s', k, h => by
    simp only [goS, Prod.mk.injEq, Sum.inl.injEq] at h
    obtain ⟨rfl, rfl⟩ := h
    exact ⟨Nat.le_refl _, fun rest => by simp⟩
  | x :: l, n, s, s', k, h => by
    unfold goS at h
    split at h
    · rename_i hd
      split at h
      · rename_i s1 hs
        obtain ⟨h1, h2⟩ := go_take h
        refine ⟨by omega, fun rest => ?_⟩
        have e : k - n = (k - (n + 1)) + 1 := by omega
        rw [e, List.take_succ_cons, List.cons_append]
        conv => lhs; unfold goS
        rw [if_pos hd, hs]
        exact h2 rest
      · simp only [Prod.mk.injEq] at h
        cases h.1
    · simp only [Prod.mk.injEq, Sum.inl.injEq] at h
      obtain ⟨rfl, rfl⟩ := h
      exact ⟨Nat.le_refl _, fun rest => by simp⟩
def rackE (day : Int) (a b : ApiCask) : Ev := ApiCaskEvent.mk 2 day a.Number b.Number 0 0 a.Amount 0
theorem play_snoc {l : List Ev} {day : Int} {all : List Held} {k : Nat} {x : Ev} (h : playS l day = (.inl all, k)) (hl : l.length ≤ 4000) (hv : evB x = true) (hd : x.Day = day) :
    (playS (l.take k ++ [x]) day).1 = doS all x k := by
  unfold playS at h
  rw [if_neg (by omega)] at h
  split at h
  · cases h
  · rename_i hb
    simp only [Bool.not_eq_true', Bool.not_eq_false] at hb
    have hday := inB_iff.1 hb
    unfold runS at h
    split at h
    · rename_i s' k' hg
      simp only [Prod.mk.injEq, Sum.inl.injEq] at h
      obtain ⟨rfl, rfl⟩ := h
      obtain ⟨_, h2⟩ := go_take hg
      have h3 := h2 [x]
      rw [Nat.sub_zero] at h3
      obtain ⟨g1, g2, _, _⟩ := go_ok l 0 ⟨[], 0⟩ s' k' SOk.start (by show (0 : Int) ≤ day; omega) hg
      have hlen : ¬ (l.take k' ++ [x]).length > 4096 := by
        rw [List.length_append, List.length_take]; simp only [List.length_singleton]; omega
      unfold playS
      rw [if_neg hlen, hb]
      simp only [Bool.not_true, Bool.false_eq_true, if_false]
      unfold runS
      rw [h3]
      unfold goS
      rw [if_pos (by omega)]
      unfold stepS
      rw [hv]
      simp only [Bool.not_true, Bool.false_eq_true, if_false]
      rw [if_neg (by omega), hd]
      show _ = doS (atS day s') x k'
      unfold atS
      cases hdo : doS (s'.all.map (olderS (day - s'.last))) x k' with
      | inr e => rfl
      | inl a =>
        simp only [goS, Int.sub_self]
        have : olderS 0 = id := funext fun h => older_0
        rw [this, List.map_id]
    · cases h
theorem racked {l : List Ev} {day : Int} {all : List Held} {k i j : Nat} {a b : Held} (h : playS l day = (.inl all, k)) (hl : l.length ≤ 4000) (ha : all[i]? = some a) (hb : all[j]? = some b) (hij : a.C.Number ≠ b.C.Number) (h1 : 1 ≤ a.C.Amount) (h2 : 1 ≤ b.C.Amount) :
    tellS (l.take k ++ [rackE day a.C b.C]) b.C.Number day = (zC, 11) ∨ tellS (l.take k ++ [rackE day a.C b.C]) b.C.Number day = (zC, 9) ∨ tellS (l.take k ++ [rackE day a.C b.C]) b.C.Number day = ((pourS b a a.C.Amount).C, 0) := by
  obtain ⟨ho, hk, hd0, hd1⟩ := playS_ok h
  have hoa := ho.each a (List.mem_of_getElem? ha)
  have hob := ho.each b (List.mem_of_getElem? hb)
  have hna : 0 ≤ a.C.Number ∧ a.C.Number ≤ 1073741824 := hoa.num
  have hnb : 0 ≤ b.C.Number ∧ b.C.Number ≤ 1073741824 := hob.num
  have hma := hoa.amt
  have hra := hoa.room
  have hv : evB (rackE day a.C b.C) = true := by
    unfold evB rackE
    simp [inB]
    omega
  have hp := play_snoc h hl hv rfl
  have hne : i ≠ j := fun e => by subst e; rw [ha] at hb; cases hb; exact hij rfl
  have fa : findS all a.C.Number = some i := find_of ho.nums ha
  have fb : findS all b.C.Number = some j := find_of ho.nums hb
  have hdo : doS all (rackE day a.C b.C) k = rackD2 all i j a b (rackE day a.C b.C) := by
    unfold doS
    have e0 : ((rackE day a.C b.C).Kind == 0) = false := rfl
    have e1 : (rackE day a.C b.C).Cask = a.C.Number := rfl
    have e2 : (rackE day a.C b.C).Other = b.C.Number := rfl
    rw [e0, e1, fa]
    simp only [Bool.false_eq_true, if_false, ha]
    unfold actS
    have e3 : ((rackE day a.C b.C).Kind == 1) = false := rfl
    have e4 : ((rackE day a.C b.C).Kind == 2) = true := rfl
    rw [e3, e4]
    simp only [Bool.false_eq_true, if_false, if_true]
    unfold rackD
    rw [e2, fb]
    simp only [hb]
  rw [hdo] at hp
  unfold tellS
  rw [hp]
  unfold rackD2
  have en : (i == j) = false := by simpa using hne
  have ea : (rackE day a.C b.C).Amount = a.C.Amount := rfl
  rw [en, ea]
  simp only [Bool.false_eq_true, if_false]
  split
  · rename_i e hx
    split at hx
    · cases hx; exact .inl rfl
    · split at hx
      · omega
      · split at hx
        · cases hx; exact .inr (.inl rfl)
        · cases hx
  · rename_i l' hx
    right; right
    split at hx
    · cases hx
    · split at hx
      · cases hx
      · split at hx
        · cases hx
        · simp only [Sum.inl.injEq] at hx
          subst hx
          have hjl : j < all.length := (List.getElem?_eq_some_iff.1 hb).1
          have hg : ((all.set j (pourS b a a.C.Amount)).set i (lessS a a.C.Amount))[j]? = some (pourS b a a.C.Amount) := by
            rw [List.getElem?_set_ne hne, List.getElem?_set_self hjl]
          have hpn : (pourS b a a.C.Amount).C.Number = b.C.Number := by unfold pourS; split <;> rfl
          have hln : (lessS a a.C.Amount).C.Number = a.C.Number := by unfold lessS; split <;> rfl
          have hnum : ((all.set j (pourS b a a.C.Amount)).set i (lessS a a.C.Amount)).map (·.C.Number) = all.map (·.C.Number) := by
            rw [List.map_set, List.map_set, hpn, hln]
            have s1 : (all.map (·.C.Number)).set j b.C.Number = all.map (·.C.Number) := by
              apply List.ext_getElem?; intro q
              by_cases hq : j = q
              · subst hq; rw [List.getElem?_set_self (by simpa using hjl)]; simp [hb]
              · rw [List.getElem?_set_ne hq]
            have hil : i < all.length := (List.getElem?_eq_some_iff.1 ha).1
            have s2 : (all.map (·.C.Number)).set i a.C.Number = all.map (·.C.Number) := by
              apply List.ext_getElem?; intro q
              by_cases hq : i = q
              · subst hq; rw [List.getElem?_set_self (by simpa using hil)]; simp [ha]
              · rw [List.getElem?_set_ne hq]
            rw [s1, s2]
          have ff := find_of (by rw [hnum]; exact ho.nums) hg
          rw [hpn] at ff
          have hfh : findH ((all.set j (pourS b a a.C.Amount)).set i (lessS a a.C.Amount)) b.C.Number = some (pourS b a a.C.Amount) := by
            unfold findH; rw [ff, Option.bind_some, hg]
          rw [hfh]
end Go.Proofs.Ytkffpbnbjnadnaa
end

section
namespace Go.Proofs.Ytkffpbnbjnadnaa
open Go.Dec
theorem Try.own : ownKnob Try.prog.godebug = none := by kernel_rfl
theorem Try.laidOut : laidOutB Try.prog = true := by kernel_rfl
def okApiCaskEvent (x : ApiCaskEvent) : Prop := (Lit.int .i64 x.Kind).wf = true ∧ (Lit.int .i64 x.Day).wf = true ∧ (Lit.int .i64 x.Cask).wf = true ∧ (Lit.int .i64 x.Other).wf = true ∧ (Lit.int .i64 x.Person).wf = true ∧ (Lit.int .i64 x.To).wf = true ∧ (Lit.int .i64 x.Amount).wf = true ∧ (Lit.int .i64 x.Where).wf = true
theorem vApiCaskEvent {H : Type} {enc : TypeId × Value → H} {W : World} : Viewed enc Try.prog W 62 (Ex cApiCaskEvent) okApiCaskEvent := by
 intro sp held fuel cs x h
 obtain ⟨xs, k, _, _, hl, hxl, hx⟩ := DataW.trod_struct Try.underlying62 h
 have hl' : cs.length = 8 := hl.trans (by kernel_rfl)
 obtain ⟨y0, h0⟩ := some_of (hx 0 _ rfl) hxl rfl
 have e0 : Try.prog.cellsOf 3 = 1 := by kernel_rfl
 obtain ⟨m0, o0, q0⟩ := (Viewed.int Try.underlying3) _ _ _ _ _ h0
 obtain ⟨y1, h1⟩ := some_of (hx 1 _ rfl) hxl rfl
 have e1 : Try.prog.cellsOf 3 = 1 := by kernel_rfl
 obtain ⟨m1, o1, q1⟩ := (Viewed.int Try.underlying3) _ _ _ _ _ h1
 obtain ⟨y2, h2⟩ := some_of (hx 2 _ rfl) hxl rfl
 have e2 : Try.prog.cellsOf 3 = 1 := by kernel_rfl
 obtain ⟨m2, o2, q2⟩ := (Viewed.int Try.underlying3) _ _ _ _ _ h2
 obtain ⟨y3, h3⟩ := some_of (hx 3 _ rfl) hxl rfl
 have e3 : Try.prog.cellsOf 3 = 1 := by kernel_rfl
 obtain ⟨m3, o3, q3⟩ := (Viewed.int Try.underlying3) _ _ _ _ _ h3
 obtain ⟨y4, h4⟩ := some_of (hx 4 _ rfl) hxl rfl
 have e4 : Try.prog.cellsOf 3 = 1 := by kernel_rfl
 obtain ⟨m4, o4, q4⟩ := (Viewed.int Try.underlying3) _ _ _ _ _ h4
 obtain ⟨y5, h5⟩ := some_of (hx 5 _ rfl) hxl rfl
 have e5 : Try.prog.cellsOf 3 = 1 := by kernel_rfl
 obtain ⟨m5, o5, q5⟩ := (Viewed.int Try.underlying3) _ _ _ _ _ h5
 obtain ⟨y6, h6⟩ := some_of (hx 6 _ rfl) hxl rfl
 have e6 : Try.prog.cellsOf 3 = 1 := by kernel_rfl
 obtain ⟨m6, o6, q6⟩ := (Viewed.int Try.underlying3) _ _ _ _ _ h6
 obtain ⟨y7, h7⟩ := some_of (hx 7 _ rfl) hxl rfl
 have e7 : Try.prog.cellsOf 3 = 1 := by kernel_rfl
 obtain ⟨m7, o7, q7⟩ := (Viewed.int Try.underlying3) _ _ _ _ _ h7
 refine ⟨⟨m0, m1, m2, m3, m4, m5, m6, m7⟩, ⟨o0, o1, o2, o3, o4, o5, o6, o7⟩, fun F' le => ?_⟩
 have w0 : (cs.drop 0).take (Try.prog.cellsOf 3) = (cInt .i64) m0 := q0 F' le
 rw [e0] at w0
 have w1 : (cs.drop 1).take (Try.prog.cellsOf 3) = (cInt .i64) m1 := q1 F' le
 rw [e1] at w1
 have w2 : (cs.drop 2).take (Try.prog.cellsOf 3) = (cInt .i64) m2 := q2 F' le
 rw [e2] at w2
 have w3 : (cs.drop 3).take (Try.prog.cellsOf 3) = (cInt .i64) m3 := q3 F' le
 rw [e3] at w3
 have w4 : (cs.drop 4).take (Try.prog.cellsOf 3) = (cInt .i64) m4 := q4 F' le
 rw [e4] at w4
 have w5 : (cs.drop 5).take (Try.prog.cellsOf 3) = (cInt .i64) m5 := q5 F' le
 rw [e5] at w5
 have w6 : (cs.drop 6).take (Try.prog.cellsOf 3) = (cInt .i64) m6 := q6 F' le
 rw [e6] at w6
 have w7 : (cs.drop 7).take (Try.prog.cellsOf 3) = (cInt .i64) m7 := q7 F' le
 rw [e7] at w7
 exact (cat_cons w0 (cat_cons w1 (cat_cons w2 (cat_cons w3 (cat_cons w4 (cat_cons w5 (cat_cons w6 (cat_cons w7 (cat_nil hl')))))))))
theorem vt57 {H : Type} {enc : TypeId × Value → H} {W : World} : Viewed enc Try.prog W 57 (rSl 8 (Ex cApiCaskEvent)) (fun x => (∀ y1 ∈ x, okApiCaskEvent y1)) := (Viewed.slice (sz := 8) Try.underlying57 (by kernel_rfl) (by decide) vApiCaskEvent)
end Go.Proofs.Ytkffpbnbjnadnaa
end

section
namespace Go.Proofs.Ytkffpbnbjnadnaa
open Go.Dec
open Go.ChangeShapes Go.WideShapes Go.ChangeAt Go.RowKit
def LawTopVatted : Prop := ∀ (a0 : (List ApiCaskEvent)) (a1 : Int) (a2 : Int) (a3 : Int), (∀ y ∈ a0, okApiCaskEvent y) → (Lit.int .i64 a1).wf = true → (Lit.int .u8 a2).wf = true → (Lit.int .u8 a3).wf = true → m_wormtubtop_TopVatted a0 a1 a2 a3 = some true
set_option maxRecDepth 100000 in
theorem lifted_TopVatted (law : LawTopVatted) (os : Os) (started : os.Started) (H : Type) (enc : TypeId × Value → H) :
  ReturnsInHanded {} Try.checked os 4 .any (Rows.topVattedSpec.pre6 enc Try.prog Try.f4 Rows.topVattedRow.domain false) (Rows.topVattedSpec.post enc Try.prog Try.f4 false true false false) := by
 refine returnsInHanded_of_change (C := Try.checked) Try.own started (by kernel_rfl) Try.func4 (ChangeSpec.witness6 (enc := enc) (C := Try.checked) false ⟨#[], #[.slice none 0 0, .int .i64 0, .int .u8 0, .int .u8 0], []⟩ 12 (by kernel_rfl) (by kernel_rfl) (by kernel_rfl) (by kernel_rfl)) ?_
 intro W base args ds gs before hval hW _ _
 refine law_contract (P := Try.prog) Try.laidOut (by kernel_rfl) rfl (by kernel_rfl : Try.f4.resultTypes = #[4]) Try.underlying4 (fun ds h => ?_) (fun W base args ds ps hval hA => ?_) W base args ds gs before hval hW
 ·match ds, h with
  | [d0, d1, d2, d3], _ => rfl
 ·rw [Try.params4] at hA hval
  obtain ⟨v0, l0, _, _, _, _, e0, _, _, t0, hA⟩ := trodAll_cons hA
  obtain ⟨v1, l1, _, _, _, _, e1, _, _, t1, hA⟩ := trodAll_cons hA
  obtain ⟨v2, l2, _, _, _, _, e2, _, _, t2, hA⟩ := trodAll_cons hA
  obtain ⟨v3, l3, _, _, _, _, e3, _, _, t3, hA⟩ := trodAll_cons hA
  obtain ⟨e4, _, _⟩ := trodAll_nil hA
  subst e4 e3 e2 e1
  obtain rfl : args = [v0, v1, v2, v3].toArray := by rw [← e0]
  obtain ⟨m0, p0, k0, o0, rfl, h0⟩ := argSlice Try.underlying57 vt57 (hval 0 _ _ rfl rfl) t0
  obtain ⟨m1, o1, rfl⟩ := argInt Try.underlying3 (hval 1 _ _ rfl rfl) t1
  obtain ⟨m2, o2, rfl⟩ := argInt Try.underlying5 (hval 2 _ _ rfl rfl) t2
  obtain ⟨m3, o3, rfl⟩ := argInt Try.underlying5 (hval 3 _ _ rfl rfl) t3
  have hl := law m0 m1 m2 m3 o0 o1 o2 o3
  have hc := c_wormtubtop_TopVatted (FW W) m0 p0 k0 h0 m1 m2 m3
  rw [hl] at hc
  exact hc
theorem said_TopVatted (law : LawTopVatted) : Rows.TopVattedSaid :=
 OpenClaim.holds_of_wide 4 Try.f4 rfl rfl rfl rfl rfl rfl rfl ⟨rfl, rfl, rfl, rfl, rfl⟩ rfl rfl rfl rfl rfl (by kernel_rfl) Try.func4 (by kernel_rfl)
  (of_decide_eq_true (by kernel_rfl)) (by unfold Func.isWrapper; first | (rw [if_pos (by decide +kernel)]; kernel_rfl) | (rw [if_neg (by decide +kernel)]; exact ⟨rfl, rfl⟩))
  (fun os started H enc _ => lifted_TopVatted law os started H enc)
end Go.Proofs.Ytkffpbnbjnadnaa
end

section
namespace Go.Proofs.Ytkffpbnbjnadnaa
open Go.Dec
def smp : List Ev := [(ApiCaskEvent.mk 0 0 1 2 9 0 500 0), (ApiCaskEvent.mk 1 0 1 0 0 0 400 0)]
def smpB : ApiBatch := ApiBatch.mk ([(ApiDraught.mk (tellS smp 1 99).1 400 (ApiSpan.mk 6000 6000))]) 0 (ApiSpan.mk 0 0) false false
theorem awake12_true : m_wormtubtop_awake12 = some true := by
  have hA : m_cask_At smp 1 99 = some (tellS smp 1 99) := At_prog _ _ _
  have e1 : ((tellS smp 1 99).1.Age == 99 && ((tellS smp 1 99).1.Woods 2) == 99 && ((tellS smp 1 99).2 == 0)) = true := by decide +kernel
  have hv : validB smpB = true := by decide +kernel
  rcases blend_prog smpB (by decide) with ⟨h, _⟩ | ⟨_, x, hx, hk⟩
  · rw [hv] at h; cases h
  have hx' : m_bottle_Blend (ApiBatch.mk ([(ApiDraught.mk (tellS smp 1 99).1 400 (ApiSpan.mk 6000 6000))]) 0 (ApiSpan.mk 0 0) false false) = some (x, 0) := hx
  have k1 : x.Age = (tellS smp 1 99).1.Age := hk.age
  have k2 : x.Woods 2 = (tellS smp 1 99).1.Woods 2 := hk.woods 2 (by decide)
  have k3 : x.Casks = 1 := hk.casks
  have k4 : x.Volume = ApiSpan.mk 400 400 := hk.vol
  unfold m_wormtubtop_awake12
  refine bind_of hA (bind_of hx' ?_)
  simp only [Bool.and_eq_true] at e1
  obtain ⟨⟨a1, a2⟩, a3⟩ := e1
  simp only [k1, k2, k3, k4, a1, a2, a3]
  rfl
section
variable {day t : Int} {n : Nat} {a b : Held}
abbrev five : ApiSpan := ApiSpan.mk 5000 6000
abbrev drB (a : ApiCask) : ApiDraught := ApiDraught.mk a a.Amount five
abbrev bothB (a b : ApiCask) : ApiBatch := ApiBatch.mk [drB a, drB b] 0 (ApiSpan.mk 0 0) false false
theorem both_blend (ha : DOK (drB a.C)) (hb : DOK (drB b.C)) (hn : a.C.Number ≠ b.C.Number) : ∃ x, m_bottle_Blend (bothB a.C b.C) = some (x, 0) ∧ x.Age = imin a.C.Age b.C.Age ∧ (∀ i, i < 8 → x.Woods i = imin (a.C.Woods i) (b.C.Woods i)) ∧ (∀ i, i < 8 → x.Places i = imin (a.C.Places i) (b.C.Places i)) ∧ x.Casks = 2 := by
  have hv : Valid (bothB a.C b.C) := ⟨fun d hd => by
    rcases List.mem_cons.1 hd with rfl | hd
    · exact ha
    · rcases List.mem_cons.1 hd with rfl | hd
      · exact hb
      · (cases hd), ⟨(by decide : (1 : Nat) ≤ 2), (by decide : (2 : Nat) ≤ 16)⟩, ⟨(by decide : (0 : Int) ≤ 0), (by decide : (0 : Int) ≤ 17179869184)⟩, ⟨(by decide : (0 : Int) ≤ 0), (by decide : (0 : Int) ≤ 0), (by decide : (0 : Int) ≤ 1000)⟩⟩
  rcases blend_prog (bothB a.C b.C) (show (2 : Nat) ≤ 40 by decide) with ⟨h, _⟩ | ⟨_, x, hx, hk⟩
  · rw [(validB_iff _).2 hv] at h; cases h
  refine ⟨x, hx, hk.age, fun i hi => hk.woods i hi, fun i hi => hk.places i hi, ?_⟩
  rw [hk.casks]
  have : numF (bothB a.C b.C).Draughts = [a.C.Number, b.C.Number] := by
    have h1 : ¬ b.C.Number ∈ [a.C.Number] := by simp; exact fun e => hn e.symm
    show (if b.C.Number ∈ (if a.C.Number ∈ ([] : List Int) then [] else [] ++ [a.C.Number]) then _ else _) = _
    simp only [List.not_mem_nil, if_false, List.nil_append]
    rw [if_neg h1]; rfl
  rw [this]; rfl
theorem one_blend (ha : DOK (drB a.C)) : ∃ y, m_bottle_Blend (ApiBatch.mk [drB a.C] 0 (ApiSpan.mk 0 0) false false) = some (y, 0) ∧ y.Age = a.C.Age ∧ (∀ i, i < 8 → y.Woods i = a.C.Woods i) ∧ (∀ i, i < 8 → y.Places i = a.C.Places i) ∧ y.Casks = 1 := by
  have hv : Valid (ApiBatch.mk [drB a.C] 0 (ApiSpan.mk 0 0) false false) := ⟨fun d hd => by
    rcases List.mem_cons.1 hd with rfl | hd
    · exact ha
    · (cases hd), ⟨(by decide : (1 : Nat) ≤ 1), (by decide : (1 : Nat) ≤ 16)⟩, ⟨(by decide : (0 : Int) ≤ 0), (by decide : (0 : Int) ≤ 17179869184)⟩, ⟨(by decide : (0 : Int) ≤ 0), (by decide : (0 : Int) ≤ 0), (by decide : (0 : Int) ≤ 1000)⟩⟩
  rcases blend_prog (ApiBatch.mk [drB a.C] 0 (ApiSpan.mk 0 0) false false) (show (1 : Nat) ≤ 40 by decide) with ⟨h, _⟩ | ⟨_, x, hx, hk⟩
  · rw [(validB_iff _).2 hv] at h; cases h
  refine ⟨x, hx, hk.age, fun i hi => hk.woods i hi, fun i hi => hk.places i hi, ?_⟩
  rw [hk.casks]; rfl
theorem woods_loop {x y : ApiBottling × Int} (h : ∀ i, i < 8 → x.1.Woods i ≤ y.1.Woods i) : loopM (b_wormtubtop_TopVatted_2 x y) 0 = some (.inl ()) := by
  obtain ⟨_, _, k⟩ := loopM_upto (body := b_wormtubtop_TopVatted_2 x y) (fun i (_ : Unit) => (i : Int)) (fun _ => (Sum.inl () : Unit ⊕ Bool)) (fun _ _ => True) 8
    (fun i t hi _ => by
      refine ⟨(), ?_, trivial⟩
      unfold b_wormtubtop_TopVatted_2
      rw [if_pos (by simp; omega), idxO_nat hi]
      simp only [Option.bind_some]
      rw [if_neg (by simp; exact h i hi)]
      simp only [bindv]
      rw [w64_id (by omega) (by omega)]; rfl)
    (fun t _ => by unfold b_wormtubtop_TopVatted_2; simp) 8 0 () rfl trivial
  exact k
theorem places_loop {x y : ApiBottling × Int} (h : ∀ i, i < 8 → x.1.Places i ≤ y.1.Places i) : loopM (b_wormtubtop_TopVatted_3 x y) 0 = some (.inl ()) := by
  obtain ⟨_, _, k⟩ := loopM_upto (body := b_wormtubtop_TopVatted_3 x y) (fun i (_ : Unit) => (i : Int)) (fun _ => (Sum.inl () : Unit ⊕ Bool)) (fun _ _ => True) 8
    (fun i t hi _ => by
      refine ⟨(), ?_, trivial⟩
      unfold b_wormtubtop_TopVatted_3
      rw [if_pos (by simp; omega), idxO_nat hi]
      simp only [Option.bind_some]
      rw [if_neg (by simp; exact h i hi)]
      simp only [bindv]
      rw [w64_id (by omega) (by omega)]; rfl)
    (fun t _ => by unfold b_wormtubtop_TopVatted_3; simp) 8 0 () rfl trivial
  exact k
theorem min_l (a b : Int) : imin a b ≤ a := (imin_le (a := a) (b := b)).1
theorem min_r (a b : Int) : imin a b ≤ b := (imin_le (a := a) (b := b)).2.1
theorem own_step {x : ApiBottling × Int} {d : Nat} {c : Held} (hd : d < 2) (hc : c = if d = 0 then a else b) (ho : DOK (drB c.C)) (h1 : x.1.Age ≤ c.C.Age) (h2 : ∀ i, i < 8 → x.1.Woods i ≤ c.C.Woods i) (h3 : ∀ i, i < 8 → x.1.Places i ≤ c.C.Places i) (h4 : x.1.Casks = 2) :
    b_wormtubtop_TopVatted_1 a.C b.C x (d : Int) = some (.next ((d + 1 : Nat) : Int)) := by
  obtain ⟨y, hy, y1, y2, y3, y4⟩ := one_blend ho
  have hs : sliceL (bothB a.C b.C).Draughts (d : Int) (((d + 1 : Nat) : Int)) = some [drB c.C] := by
    unfold sliceL
    have : (bothB a.C b.C).Draughts.length = 2 := rfl
    rw [if_pos (by rw [this]; omega)]
    rw [hc]
    rcases Nat.lt_or_ge d 1 with h | h
    · have : d = 0 := by omega
      subst this; rfl
    · have : d = 1 := by omega
      subst this; rfl
  have hw : w64 ((d : Int) + 1) = ((d + 1 : Nat) : Int) := by rw [w64_id (by omega) (by omega)]; rfl
  unfold b_wormtubtop_TopVatted_1
  rw [if_pos (by simp; omega), hw]
  refine bind_of hs ?_
  simp only [bindv]
  refine bind_of hy ?_
  rw [if_neg (by simp [h4, y4, y1]; exact h1)]
  refine bind_of (woods_loop (fun i hi => by rw [y2 i hi]; exact h2 i hi)) ?_
  refine bind_of (places_loop (fun i hi => by rw [y3 i hi]; exact h3 i hi)) ?_
  rfl
theorem own_loop {x : ApiBottling × Int} (ha : DOK (drB a.C)) (hb : DOK (drB b.C)) (h1 : x.1.Age = imin a.C.Age b.C.Age) (h2 : ∀ i, i < 8 → x.1.Woods i = imin (a.C.Woods i) (b.C.Woods i)) (h3 : ∀ i, i < 8 → x.1.Places i = imin (a.C.Places i) (b.C.Places i)) (h4 : x.1.Casks = 2) :
    loopM (b_wormtubtop_TopVatted_1 a.C b.C x) 0 = some (.inl ()) := by
  obtain ⟨_, _, k⟩ := loopM_upto (body := b_wormtubtop_TopVatted_1 a.C b.C x) (fun i (_ : Unit) => (i : Int)) (fun _ => (Sum.inl () : Unit ⊕ Bool)) (fun _ _ => True) 2
    (fun i t hi _ => by
      refine ⟨(), ?_, trivial⟩
      rcases Nat.lt_or_ge i 1 with h | h
      · have : i = 0 := by omega
        subst this
        exact own_step (c := a) (by omega) rfl ha (by rw [h1]; exact min_l _ _) (fun i hi => by rw [h2 i hi]; exact min_l _ _) (fun i hi => by rw [h3 i hi]; exact min_l _ _) h4
      · have : i = 1 := by omega
        subst this
        exact own_step (c := b) (by omega) rfl hb (by rw [h1]; exact min_r _ _) (fun i hi => by rw [h2 i hi]; exact min_r _ _) (fun i hi => by rw [h3 i hi]; exact min_r _ _) h4)
    (fun t _ => by unfold b_wormtubtop_TopVatted_1; simp) 2 0 () rfl trivial
  exact k
theorem eq31_of {f g : Nat → Int} (h : ∀ i, i < 8 → f i = g i) : eq_31 f g = true := by
  unfold eq_31
  rw [h 0 (by decide), h 1 (by decide), h 2 (by decide), h 3 (by decide), h 4 (by decide), h 5 (by decide), h 6 (by decide), h 7 (by decide)]
  simp
end
theorem law_TopVatted : LawTopVatted := by
  intro l day f s _ _ hf hs
  have hf' : 0 ≤ f ∧ f ≤ 255 := wf_u8 hf
  have hs' : 0 ≤ s ∧ s ≤ 255 := wf_u8 hs
  have haw : (m_wormtubtop_awake12.bind fun r => some r) = some true := by rw [awake12_true]; rfl
  unfold m_wormtubtop_TopVatted
  by_cases hl : (l.length : Int) > 40
  · rw [if_pos (by simpa using hl)]; exact haw
  rw [if_neg (by simpa using hl)]
  cases hp : playS l day with
  | mk r k =>
    cases r with
    | inr e =>
      have hP : m_cask_Play l day = some ([], (k : Int), e) := by rw [Play_prog]; unfold allS'; rw [hp]
      have : e ≠ 0 := playS_err hp
      refine bind_of hP ?_
      rw [if_pos (by simp)]; exact haw
    | inl all =>
      obtain ⟨ho, hk, hd0, hd1⟩ := playS_ok hp
      have hkl : k ≤ l.length := by
        unfold playS at hp
        rw [if_neg (by omega)] at hp
        split at hp
        · cases hp
        · unfold runS at hp
          split at hp
          · rename_i s' k' hg
            simp only [Prod.mk.injEq] at hp
            obtain ⟨_, rfl⟩ := hp
            have := (go_ok l 0 ⟨[], 0⟩ s' k' SOk.start (by show (0 : Int) ≤ day; omega) hg).2.2.2
            omega
          · cases hp
      obtain ⟨O, hO⟩ : ∃ O, (ordS all).map (·.C) = O := ⟨_, rfl⟩
      have hP : m_cask_Play l day = some (O, (k : Int), 0) := by rw [Play_prog]; unfold allS'; rw [hp, ← hO]
      refine bind_of hP ?_
      by_cases h2 : (O.length : Int) < 2
      · rw [if_pos (by simp [h2])]; exact haw
      rw [if_neg (by simp; omega), if_neg (by simp; omega)]
      rw [w64_id (n := f) (by omega) (by omega), w64_id (n := s) (by omega) (by omega)]
      have hr : ∀ z : Int, 0 ≤ z → ∃ i : Nat, remK z (O.length : Int) = some (i : Int) ∧ i < O.length := fun z hz => by
        have h1 := Int.emod_nonneg z (b := (O.length : Int)) (by omega)
        have h3 := Int.emod_lt_of_pos z (b := (O.length : Int)) (by omega)
        obtain ⟨i, hi⟩ := Int.eq_ofNat_of_zero_le h1
        refine ⟨i, ?_, by omega⟩
        unfold remK
        rw [if_neg (by omega), Int.tmod_eq_emod_of_nonneg hz, hi]
      obtain ⟨i, r1, r2⟩ := hr f hf'.1
      obtain ⟨j, s1, s2⟩ := hr s hs'.1
      refine bind_of r1 (bind_of s1 ?_)
      have hlen : O.length = (ordS all).length := by rw [← hO, List.length_map]
      have hi : i < (ordS all).length := by omega
      have hj : j < (ordS all).length := by omega
      have gi : (ordS all)[i]? = some (ordS all)[i] := List.getElem?_eq_getElem hi
      have gj : (ordS all)[j]? = some (ordS all)[j] := List.getElem?_eq_getElem hj
      obtain ⟨ia, hia⟩ := (ord_all all).2 _ (List.mem_of_getElem? gi)
      obtain ⟨jb, hjb⟩ := (ord_all all).2 _ (List.mem_of_getElem? gj)
      have hap := fun h => ord_apart ho.nums gi gj h
      generalize (ordS all)[i] = a at gi hia hap
      generalize (ordS all)[j] = b at gj hjb hap
      have xa : idxL O (i : Int) = some a.C := by rw [idxL_nat, ← hO, List.getElem?_map, gi]; rfl
      have xb : idxL O (j : Int) = some b.C := by rw [idxL_nat, ← hO, List.getElem?_map, gj]; rfl
      refine bind_of xa (bind_of xb ?_)
      by_cases hc : i = j ∨ a.C.Amount < 1 ∨ b.C.Amount < 1 ∨ a.C.Amount > 1073741824 ∨ b.C.Amount > 1073741824
      · rw [if_pos (by simp; omega)]; exact haw
      rw [if_neg (by simp; omega)]
      have hne := hap (by omega)
      have hoa := ho.each a (List.mem_of_getElem? hia)
      have hob := ho.each b (List.mem_of_getElem? hjb)
      have da : DOK (drB a.C) := held_dok hoa hd1 (by omega) (by omega) ⟨by decide, by decide, by decide⟩
      have db : DOK (drB b.C) := held_dok hob hd1 (by omega) (by omega) ⟨by decide, by decide, by decide⟩
      obtain ⟨x, hx, x1, x2, x3, x4⟩ := both_blend da db hne
      refine bind_of hx ?_
      rw [if_neg (by simp)]
      refine bind_of (own_loop (x := (x, 0)) da db x1 x2 x3 x4) ?_
      simp only []
      have hsl : sliceL l 0 (k : Int) = some (l.take k) := by
        unfold sliceL; rw [if_pos (by omega)]; simp
      refine bind_of hsl (bind_of (appO_some' (by rw [List.length_take]; simp; omega)) ?_)
      rw [List.nil_append]
      refine bind_of (appO_some' (by rw [List.length_take]; simp; omega)) ?_
      refine bind_of (At_prog _ _ _) ?_
      have hrk := racked hp (by omega) hia hjb hne (by omega) (by omega)
      unfold rackE at hrk
      rcases hrk with h | h | h
      · rw [h]
        rw [if_pos (by simp), if_pos (by simp), haw]; rfl
      · rw [h]
        rw [if_pos (by simp), if_pos (by simp), haw]; rfl
      · rw [h]
        rw [if_neg (by simp)]
        have hpa : pourS b a a.C.Amount = { C := { b.C with Age := imin b.C.Age a.C.Age, Woods := minN b.C.Woods a.C.Woods, Places := minN b.C.Places a.C.Places, Amount := b.C.Amount + a.C.Amount }, Fills := uniS b.Fills a.Fills } := by
          unfold pourS; rw [if_neg (by simp; omega)]
        have c1 : ((pourS b a a.C.Amount).C.Age == x.Age) = true := by rw [hpa, x1]; simp [imin_swap]
        have c2 : eq_31 (pourS b a a.C.Amount).C.Woods x.Woods = true := eq31_of fun q hq => by rw [hpa, x2 q hq]; show minN b.C.Woods a.C.Woods q = _; unfold minN; rw [if_pos hq, imin_swap]
        have c3 : eq_31 (pourS b a a.C.Amount).C.Places x.Places = true := eq31_of fun q hq => by rw [hpa, x3 q hq]; show minN b.C.Places a.C.Places q = _; unfold minN; rw [if_pos hq, imin_swap]
        have c4 : ((pourS b a a.C.Amount).C.Amount == w64 (a.C.Amount + b.C.Amount)) = true := by
          rw [hpa, w64_id (by omega) (by omega)]; simp; omega
        rw [if_pos (by simp only [c1, c2, c3, c4]; rfl), haw]; rfl
theorem topVatted_holds : Rows.TopVattedSaid := said_TopVatted law_TopVatted
end Go.Proofs.Ytkffpbnbjnadnaa
end
