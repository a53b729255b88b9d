/- Own texts and texts printed by a program of mine, for exciseKinder_holds; only what it reaches. -/
import Derived.Test.YtadpjmaaokkhjaaPh4
import Derived.Test.YtadpjmaaokkhjaaRows
section
namespace Go.Proofs.Ytadpjmaaokkhjaa
open Go.Dec Go.Shelf Go.RowKit Go.Maps Go.Sort
noncomputable def b_excise_Play_1 (r_15 : (Option Nat) × Int × Int × (List ExciseOffice) × (List (List (Int × ApiParcel))) × (List (List (Int × Bool)))) (x29 : ExciseOffice) (ks43 : (List Int)) (s50 : Int × ApiDutyBook) : Option (Ctl (Int × ApiDutyBook) ((ApiDutyBook))) :=
 if (decide (s50.1 < (ks43.length : Int))) then ((idxL ks43 s50.1).bind fun x57 => (x29.moving).bind fun i72 => (r_15.2.2.2.2.1[i72]?).bind fun x74 => (appO s50.2.Moving ([((mapGet x74 x57).getD (ApiParcel.mk 0 0 0 0 0))])).bind fun l_114 => bindv ({ s50.2 with Moving := l_114 }) fun x118 => some (.next ((w64 (s50.1 + 1)), x118))) else (some (.done s50.2))
noncomputable def m_excise_Play (r_1 : ApiDutyRules) (l_5 : (List ApiDutyEvent)) (day9 : Int) : Option (ApiDutyBook × Int × Int) :=
 (m_excise_play r_1 l_5 day9).bind fun r_15 => if (r_15.2.2.1 != 0) then (some ((ApiDutyBook.mk (fun _ => 0) ([]) 0 0 0 0 0 0 0 0), r_15.2.1, r_15.2.2.1)) else ((r_15.1).bind fun i24 => (r_15.2.2.2.1[i24]?).bind fun x29 => (nilO x29.book.Moving).bind fun _ => (sortedO r_15.2.2.2.2.1 x29.moving).bind fun ks43 => (loopM (b_excise_Play_1 r_15 x29 ks43) (0, x29.book)).bind fun b120 => some (b120, r_15.2.1, 0))
theorem c_excise_Play (F0 : Fz) (r_1 : ApiDutyRules) (p2 : Option Addr) (k3 : Nat) (h4 : RepSl 2 (Ex cApiDutyRate) F0 p2 k3 r_1.Rates) (l_5 : (List ApiDutyEvent)) (p6 : Option Addr) (k7 : Nat) (h8 : RepSl 6 (Ex cApiDutyEvent) F0 p6 k7 l_5) (day9 : Int) : CT0 Try.prog 13 [(eApiDutyRules r_1 p2 k3), (.slice p6 l_5.length k7), (.int .i64 day9)].toArray F0 (m_excise_Play r_1 l_5 day9) (fun r F v => ∃ (p0 : Option Addr) (k0 : Nat), v = .tuple #[(eApiDutyBook r.1 p0 k0), (.int .i64 r.2.1), (.int .i64 r.2.2)] ∧ RepSl 5 (Ex cApiParcel) F p0 k0 r.1.Moving) := by
 refine CT0.enter Try.func13 rfl Try.ntmps13 rfl fun r R => ?_
 unfold m_excise_Play
 refine .seq ?_
 refine .region ?_
 refine .boxF (cs := (cApiDutyRules r_1 p2 k3)) rfl rfl rfl (fun b10 F_11 l_12 hb13 => ?_)
 refine .alloc (cs := (cApiDutyBook (ApiDutyBook.mk (fun _ => 0) ([]) 0 0 0 0 0 0 0 0) none 0)) rfl Try.zeroValue31 rfl (fun b14 => ?_)
 refine .assign rfl rfl ?_
 refine .assign rfl rfl ?_
 refine .nil ?_
 refine .code ?_
 refine .seq ?_
 refine .region ?_
 refine .loadFA rfl Try.isAgg24 Try.sizeOf24 rfl hb13 (vs := (cApiDutyRules r_1 p2 k3)) (by kernel_rfl) rfl ?_
 refine .move rfl rfl ?_
 refine .move rfl rfl ?_
 refine .callO rfl Try.call25 rfl rfl rfl (c_excise_play _ r_1 p2 k3 (h4.mono l_12) l_5 p6 k7 (h8.mono l_12) day9) ?_
 rintro r_15 _19 F_16 _ e18 l_17 ⟨p20, k21, rfl, h22⟩
 refine .norm (Sub.refl _) (rfl : _ = [arena _19.g66 (C66 _19) F_16 r_15.2.2.2.1, arena _19.g63 (C63 _19) F_16 r_15.2.2.2.2.1, arena _19.g64 (C64 _19) F_16 r_15.2.2.2.2.2, pt b14 (.cells (cApiDutyBook (ApiDutyBook.mk (fun _ => 0) ([]) 0 0 0 0 0 0 0 0) none 0).toArray 31), R]) ?_
 refine .move rfl rfl ?_
 refine .extract rfl rfl rfl ?_
 refine .extract rfl rfl rfl ?_
 refine .extract rfl rfl rfl ?_
 refine .assign rfl rfl ?_
 refine .assign rfl rfl ?_
 refine .assign rfl rfl ?_
 refine .nil ?_
 refine .code ?_
 refine .seq ?_
 refine .seq ?_
 refine .region ?_
 refine .move rfl rfl ?_
 refine .neq rfl rfl rfl ?_
 refine .nil ?_
 refine .code ?_
 refine .cond rfl (fun hb23 => ?_) (fun hb23 => ?_)
 ·skip
  refine .seq ?_
  refine .region ?_
  refine .build (cs := (cApiDutyBook (ApiDutyBook.mk (fun _ => 0) ([]) 0 0 0 0 0 0 0 0) none 0).toArray) rfl Try.underlying31 Try.zeroValue31 (plApiDutyBook _ Try.underlying31) rfl rfl (by kernel_rfl) ?_
  refine .move rfl rfl ?_
  refine .move rfl rfl ?_
  refine .store (cs' := (cApiDutyBook (ApiDutyBook.mk (fun _ => 0) ([]) 0 0 0 0 0 0 0 0) none 0)) Try.sizeOf31 rfl rfl rfl rfl (i := 3) rfl (Nat.le_of_ble_eq_true rfl) rfl (setMany_all (by rfl)) ?_
  refine .assign rfl rfl ?_
  refine .assign rfl rfl ?_
  refine .nil ?_
  refine .code ?_
  exact .ret0 Try.results13 (.agg rfl Try.isAgg31 Try.sizeOf31 (i := 3) rfl (vs' := (cApiDutyBook (ApiDutyBook.mk (fun _ => 0) ([]) 0 0 0 0 0 0 0 0) none 0)) (by kernel_rfl) rfl (.tmp rfl (.tmp rfl (.nil)))) (i := 4) rfl (Fz.le_trans l_12 l_17) ⟨none, 0, rfl, (RepSl.nil.mono (Fz.le_trans l_12 l_17))⟩
 ·skip
  refine .skip ?_
  refine .code ?_
  refine .seq ?_
  refine .region ?_
  refine .move rfl rfl ?_
  refine .bind (fun i24 e25 => ?_)
  obtain ⟨b26, hb27, hp28⟩ := h22.at e25
  refine .nilCheckR hp28 rfl rfl ?_
  refine .fieldAddr rfl Try.underlying66 rfl Try.sizeOf31 rfl ?_
  refine .bind (fun x29 e30 => ?_)
  refine .loadRA (Φ := fun us => ∃ (p31 : Option Addr) (k32 : Nat), us = (cApiDutyBook x29.book p31 k32) ∧ NilSl 5 (Ex cApiParcel) F_16 p31 k32 x29.book.Moving) 0 rfl (Fz.le_refl _) hb27 e30 rfl Try.isAgg31 Try.sizeOf31 rfl (fun vs ⟨q0, q1, q2, q3, q4, q5, q6, q7, h, r0, r1, r2, r3⟩ => ⟨_, by subst h; rfl, rfl, q2, q3, rfl, r1⟩) (fun us hv => ?_)
  obtain ⟨p31, k32, rfl, h33⟩ := hv
  refine .bind (fun _ hn34 => ?_)
  obtain ⟨rfl, rfl⟩ := h33.nil (nilO_some hn34)
  refine .ownNil 5 (Ex cApiParcel) 49 ?_
  refine .ownConv 0 rfl (show [] = x29.book.Moving from (nilO_some hn34).symm) ?_
  refine .store (cs' := (cApiDutyBook x29.book none 0)) Try.sizeOf31 rfl rfl rfl rfl (i := 4) rfl (Nat.le_of_ble_eq_true rfl) rfl (setMany_all (by rfl)) ?_
  refine .nil ?_
  refine .code ?_
  refine .seq ?_
  refine .seq ?_
  refine .region ?_
  refine .move rfl rfl ?_
  refine .nilCheckR hp28 rfl rfl ?_
  refine .fieldAddr rfl Try.underlying66 rfl Try.sizeOf63 rfl ?_
  refine .loadR (Φ := fun v => ∃ (p36 : Option Nat) (k37 : Unit), v = (.map p36) ∧ RepRef _19.g63 F_16 p36 x29.moving) 1 rfl (Fz.le_refl _) hb27 e30 rfl Try.isAgg63 rfl (fun vs ⟨q0, q1, q2, q3, q4, q5, q6, q7, h, r0, r1, r2, r3⟩ => ⟨_, by subst h; exact rfl, q4, q5, rfl, r2⟩) (fun v hv => ?_)
  obtain ⟨p36, k37, rfl, h38⟩ := hv
  refine .keysC keysOf27 rfl Try.call27 rfl rfl (fun b39 F_40 l_41 hb42 => ?_)
  refine .sortedX Try.underlying3 sortedKeys46 (c := (Ex (cInt .i64))) (fun _ _ => rfl) (hb42) 2 rfl (h38.mono l_41) rfl Try.call26 rfl rfl (fun ks43 F_44 p45 c46 e47 l_48 h49 => ?_)
  refine .lenS rfl rfl Try.underlying41 rfl ?_
  refine .move rfl rfl ?_
  refine .nil ?_
  refine .keep (.cons (k := 6) rfl (.cons (k := 9) rfl (.cons (k := 10) rfl (.cons (k := 35) rfl (.cons (k := 36) rfl (.cons (k := 37) rfl (.nil _))))))) ?_
  refine .code ?_
  refine .block ?_
  refine .keep (.cons (k := 6) rfl (.cons (k := 9) rfl (.cons (k := 10) rfl (.cons (k := 35) rfl (.cons (k := 36) rfl (.cons (k := 37) rfl (.nil _))))))) ?_
  refine .ownUp 0 (Fz.le_trans l_41 l_48) rfl ?_
  refine .loop (fun (s50 : Int × ApiDutyBook) a w => ∃ (F_51 : Fz) (p53 : Option Addr) (k54 : Nat), F_44 ≤ F_51 ∧ Hd 55 [] [(6, (.pointer (some ⟨b14, 0, none⟩))), (9, (.pointer p20)), (10, (.int .i64 r_15.2.1)), (35, (.slice p45 ks43.length c46)), (36, (.int .i64 (ks43.length : Int))), (37, (.int .i64 s50.1))] F_51 [ownSl 5 (Ex cApiParcel) F_51 49 p53 k54 s50.2.Moving, arena _19.g66 (C66 _19) F_16 r_15.2.2.2.1, arena _19.g63 (C63 _19) F_16 r_15.2.2.2.2.1, arena _19.g64 (C64 _19) F_16 r_15.2.2.2.2.2, pt b14 (.cells (cApiDutyBook s50.2 p53 k54).toArray 31), R] a w) (fun b120 e a w => e = .exit 0 ∧ ∃ (F_121 : Fz) (p123 : Option Addr) (k124 : Nat), F_44 ≤ F_121 ∧ Hd 55 [] [(6, (.pointer (some ⟨b14, 0, none⟩))), (10, (.int .i64 r_15.2.1))] F_121 [ownSl 5 (Ex cApiParcel) F_121 49 p123 k124 b120.Moving, arena _19.g66 (C66 _19) F_16 r_15.2.2.2.1, arena _19.g63 (C63 _19) F_16 r_15.2.2.2.2.1, arena _19.g64 (C64 _19) F_16 r_15.2.2.2.2.2, pt b14 (.cells (cApiDutyBook b120 p123 k124).toArray 31), R] a w) ?_ ?_ ?_
  ·exact fun a w h => ⟨F_44, none, 0, (Fz.le_refl _), h.1.sub (.cons (k := 6) rfl (.cons (k := 9) rfl (.cons (k := 10) rfl (.cons (k := 35) rfl (.cons (k := 36) rfl (.cons (k := 37) rfl (.nil _))))))), h.2⟩
  ·intro s50 ctl
   refine GC.ex (fun a w ⟨F_51, p53, k54, l_52, hA⟩ => ⟨_, hA, ?_⟩)
   unfold b_excise_Play_1
   refine .seq ?_
   refine .region ?_
   refine .lss rfl rfl rfl ?_
   refine .nil ?_
   refine .code ?_
   refine .seq ?_
   refine .cond rfl (fun hb56 => ?_) (fun hb56 => ?_)
   ·skip
    refine .skip ?_
    refine .code ?_
    refine .seq ?_
    refine .block ?_
    refine .seq ?_
    refine .region ?_
    refine .idx rfl Try.underlying41 Try.sizeOf3 (h49.mono l_52) rfl rfl (fun x57 b58 o59 T60 fr61 cs62 e63 hm64 hv65 => ?_)
    refine .loadF rfl Try.isAgg3 rfl hm64 (cell_of_take (k := 0) hv65 rfl) ?_
    refine .assign rfl rfl ?_
    refine .nil ?_
    refine .code ?_
    refine .keep (.cons (k := 6) rfl (.cons (k := 9) rfl (.cons (k := 10) rfl (.cons (k := 12) rfl (.cons (k := 35) rfl (.cons (k := 36) rfl (.cons (k := 37) rfl (.nil _)))))))) ?_
    refine .bind (fun i72 e73 => ?_)
    refine .bind (fun x74 e75 => ?_)
    refine .drawGD 9 0 (fun env67 => [((.pointer (some ⟨b14, 0 + 16, none⟩)), fun _ => True), ((.slice p53 s50.2.Moving.length k54), fun _ => True), ((.pointer p20), fun _ => True), ((.pointer (some ⟨b26, 0, none⟩)), fun _ => True), ((.pointer (some ⟨b26, 0 + 29, none⟩)), fun _ => True), ((.map (env67.o 50)), fun G => RepRef _19.g63 G (env67.o 50) x29.moving), ((.int .i64 x57), fun _ => True), ((eApiParcel ((mapGet x74 x57).getD (ApiParcel.mk 0 0 0 0 0))), fun _ => True), ((.slice (some ⟨env67.n 80, 0, none⟩) ([((mapGet x74 x57).getD (ApiParcel.mk 0 0 0 0 0))]).length 1), fun G => RepSl 5 (Ex cApiParcel) G (some ⟨env67.n 80, 0, none⟩) 1 ([((mapGet x74 x57).getD (ApiParcel.mk 0 0 0 0 0))]))]) (fun L env67 => [ownSl 5 (Ex cApiParcel) F_51 49 p53 k54 s50.2.Moving, arena _19.g66 (C66 _19) F_16 r_15.2.2.2.1, arena _19.g63 (C63 _19) F_16 r_15.2.2.2.2.1, arena _19.g64 (C64 _19) F_16 r_15.2.2.2.2.2, pt b14 (.cells (cApiDutyBook s50.2 p53 k54).toArray 31), R]) mixedOK (by kernel_rfl) (deepN (k := 9) (n := 12) rfl (allLt12 (p := fun t => 9 ≤ t → ∀ j, j < t → ∃ s, depB _ s t j = true) (fun h => absurd h (by decide)) (fun h => absurd h (by decide)) (fun h => absurd h (by decide)) (fun h => absurd h (by decide)) (fun h => absurd h (by decide)) (fun h => absurd h (by decide)) (fun h => absurd h (by decide)) (fun h => absurd h (by decide)) (fun h => absurd h (by decide)) (fun _ => allLt9 (p := fun j => ∃ s, depB _ s 9 j = true) ⟨2, rfl⟩ ⟨1, rfl⟩ ⟨6, rfl⟩ ⟨5, rfl⟩ ⟨4, rfl⟩ ⟨3, rfl⟩ ⟨3, rfl⟩ ⟨2, rfl⟩ ⟨1, rfl⟩) (fun _ => allLt10 (p := fun j => ∃ s, depB _ s 10 j = true) ⟨1, rfl⟩ ⟨1, rfl⟩ ⟨1, rfl⟩ ⟨1, rfl⟩ ⟨1, rfl⟩ ⟨1, rfl⟩ ⟨1, rfl⟩ ⟨1, rfl⟩ ⟨1, rfl⟩ ⟨1, rfl⟩) (fun _ => allLt11 (p := fun j => ∃ s, depB _ s 11 j = true) ⟨1, rfl⟩ ⟨1, rfl⟩ ⟨1, rfl⟩ ⟨1, rfl⟩ ⟨1, rfl⟩ ⟨1, rfl⟩ ⟨1, rfl⟩ ⟨1, rfl⟩ ⟨1, rfl⟩ ⟨1, rfl⟩ ⟨1, rfl⟩))) rfl (fun _ => rfl) (by kernel_rfl) (fun _ => rfl) ?_ (fun env67 F_83 l_84 hphi => ?_)
    ·skip
     refine .cons (fun L env67 F_85 l_86 hL hdn hup hphi => ⟨[(6, (.pointer (some ⟨b14, 0, none⟩)))], fun S hS hV => (.cons (hS _ _ rfl) (Sub.nil _)), ?_⟩) ?_
     ·skip
      refine .fieldAddr rfl Try.underlying31 rfl Try.sizeOf29 rfl ?_
      exact .finV rfl rfl (Fz.le_refl _)
     refine .cons (fun L env67 F_87 l_88 hL hdn hup hphi => ⟨[(41, (.pointer (some ⟨b14, 0 + 16, none⟩)))], fun S hS hV => (.cons (hV 0 41 _ (hdn 1 0 rfl) rfl rfl) (Sub.nil _)), ?_⟩) ?_
     ·skip
      refine .loadO rfl Try.isAgg29 rfl (i := 4) rfl rfl ?_
      exact .finV rfl rfl (Fz.le_refl _)
     refine .cons (fun L env67 F_89 l_90 hL hdn hup hphi => ⟨[(9, (.pointer p20))], fun S hS hV => (.cons (hS _ _ rfl) (Sub.nil _)), ?_⟩) ?_
     ·skip
      refine .move rfl rfl ?_
      exact .finV rfl rfl (Fz.le_refl _)
     refine .cons (fun L env67 F_91 l_92 hL hdn hup hphi => ⟨[(43, (.pointer p20))], fun S hS hV => (.cons (hV 2 43 _ (hdn 1 2 rfl) rfl rfl) (Sub.nil _)), ?_⟩) ?_
     ·skip
      refine .nilCheckR hp28 rfl rfl ?_
      exact .finV rfl rfl (Fz.le_refl _)
     refine .cons (fun L env67 F_93 l_94 hL hdn hup hphi => ⟨[(44, (.pointer (some ⟨b26, 0, none⟩)))], fun S hS hV => (.cons (hV 3 44 _ (hdn 1 3 rfl) rfl rfl) (Sub.nil _)), ?_⟩) ?_
     ·skip
      refine .fieldAddr rfl Try.underlying66 rfl Try.sizeOf63 rfl ?_
      exact .finV rfl rfl (Fz.le_refl _)
     refine .cons (fun L env67 F_95 l_96 hL hdn hup hphi => ⟨[(45, (.pointer (some ⟨b26, 0 + 29, none⟩)))], fun S hS hV => (.cons (hV 4 45 _ (hdn 1 4 rfl) rfl rfl) (Sub.nil _)), ?_⟩) ?_
     ·skip
      refine .loadR (Φ := fun v => ∃ (p97 : Option Nat) (k98 : Unit), v = (.map p97) ∧ RepRef _19.g63 F_95 p97 x29.moving) 1 rfl (Fz.le_trans l_41 (Fz.le_trans l_48 (Fz.le_trans l_52 l_96))) (hb27.mono (Fz.le_trans l_41 (Fz.le_trans l_48 (Fz.le_trans l_52 l_96)))) e30 rfl Try.isAgg63 rfl (fun vs ⟨q0, q1, q2, q3, q4, q5, q6, q7, h, r0, r1, r2, r3⟩ => ⟨_, by subst h; exact rfl, q4, q5, rfl, r2⟩) (fun v hv => ?_)
      obtain ⟨p97, k98, rfl, h99⟩ := hv
      exact .finQ ({ env67 with a := env67.a, n := env67.n, c := env67.c, o := (updN env67.o 50 p97) }) [true, true, true, true, true, false, true, false, false] rfl (by kernel_rfl) rfl rfl (Fz.le_refl _) (fun _ le => h99.mono le) (cons_eq rfl (cons_eq rfl (cons_eq rfl (cons_eq rfl (cons_eq rfl (cons_eq rfl rfl))))))
     refine .cons (fun L env67 F_100 l_101 hL hdn hup hphi => ⟨[(12, (.int .i64 x57))], fun S hS hV => (.cons (hS _ _ rfl) (Sub.nil _)), ?_⟩) ?_
     ·skip
      refine .move rfl rfl ?_
      exact .finV rfl rfl (Fz.le_refl _)
     refine .cons (fun L env67 F_102 l_103 hL hdn hup hphi => ⟨[(46, (.map (env67.o 50))), (47, (.int .i64 x57))], fun S hS hV => (.cons (hV 5 46 _ (hdn 1 5 rfl) rfl rfl) (.cons (hV 6 47 _ (hdn 1 6 rfl) rfl rfl) (Sub.nil _))), ?_⟩) ?_
     ·skip
      have h71 := hphi 5 _ (hdn 1 5 rfl) rfl _ (Fz.le_refl _)
      obtain ⟨b104, hb105, hp106⟩ := h71.at e73
      refine .lookupR (key := x57) (z := (ApiParcel.mk 0 0 0 0 0)) 2 rfl (Fz.le_trans l_41 (Fz.le_trans l_48 (Fz.le_trans l_52 l_103))) hb105 hp106 e75 rfl Try.underlying63 (.int Try.underlying3) Try.zeroValue49 rfl rfl rfl ?_
      intro v hv
      obtain rfl := hv
      exact .finV rfl rfl (Fz.le_refl _)
     refine .cons (fun L env67 F_107 l_108 hL hdn hup hphi => ⟨[(48, (eApiParcel ((mapGet x74 x57).getD (ApiParcel.mk 0 0 0 0 0))))], fun S hS hV => (.cons (hV 7 48 _ (hdn 1 7 rfl) rfl rfl) (Sub.nil _)), ?_⟩) ?_
     ·skip
      have h71 := hphi 5 _ (hdn 2 5 rfl) rfl _ (Fz.le_refl _)
      refine .sliceLit (cs := [.int .i64 ((mapGet x74 x57).getD (ApiParcel.mk 0 0 0 0 0)).Id, .int .i64 ((mapGet x74 x57).getD (ApiParcel.mk 0 0 0 0 0)).From, .int .i64 ((mapGet x74 x57).getD (ApiParcel.mk 0 0 0 0 0)).To, .int .i64 ((mapGet x74 x57).getD (ApiParcel.mk 0 0 0 0 0)).Sent, .int .i64 ((mapGet x74 x57).getD (ApiParcel.mk 0 0 0 0 0)).Amount]) (zc := [.int .i64 (ApiParcel.mk 0 0 0 0 0).Id, .int .i64 (ApiParcel.mk 0 0 0 0 0).From, .int .i64 (ApiParcel.mk 0 0 0 0 0).To, .int .i64 (ApiParcel.mk 0 0 0 0 0).Sent, .int .i64 (ApiParcel.mk 0 0 0 0 0).Amount]) rfl Try.underlying29 Try.sizeOf49 Try.zeroValue49 rfl rfl rfl (by kernel_rfl) (by kernel_rfl) (fun b109 F_110 l_111 hb112 => ?_)
      have h113 : RepSl 5 (Ex cApiParcel) F_110 (some ⟨b109, 0, none⟩) 1 ([((mapGet x74 x57).getD (ApiParcel.mk 0 0 0 0 0))]) := RepSl.ofRow hb112 (.cons ok_t49.mono rfl .nil) rfl rfl
      exact .finQ ({ env67 with a := env67.a, n := (updN env67.n 80 b109), c := env67.c, o := env67.o }) [true, true, true, true, true, true, true, true, false] rfl (by kernel_rfl) rfl rfl l_111 (fun _ le => h113.mono le) (cons_eq rfl (cons_eq rfl (cons_eq rfl (cons_eq rfl (cons_eq rfl (cons_eq rfl rfl))))))
     exact .nil
    have h71 := hphi 5 _ rfl
    have h82 := hphi 8 _ rfl
    refine .norm (S' := [(6, (.pointer (some ⟨b14, 0, none⟩))), (9, (.pointer p20)), (10, (.int .i64 r_15.2.1)), (12, (.int .i64 x57)), (35, (.slice p45 ks43.length c46)), (36, (.int .i64 (ks43.length : Int))), (37, (.int .i64 s50.1)), (41, (.pointer (some ⟨b14, 0 + 16, none⟩))), (42, (.slice p53 s50.2.Moving.length k54)), (43, (.pointer p20)), (44, (.pointer (some ⟨b26, 0, none⟩))), (45, (.pointer (some ⟨b26, 0 + 29, none⟩))), (46, (.map (env67.o 50))), (47, (.int .i64 x57)), (48, (eApiParcel ((mapGet x74 x57).getD (ApiParcel.mk 0 0 0 0 0)))), (49, (.slice (some ⟨env67.n 80, 0, none⟩) ([((mapGet x74 x57).getD (ApiParcel.mk 0 0 0 0 0))]).length 1))]) (.cons (k := 6) rfl (.cons (k := 9) rfl (.cons (k := 10) rfl (.cons (k := 12) rfl (.cons (k := 35) rfl (.cons (k := 36) rfl (.cons (k := 37) rfl (.cons (k := 41) rfl (.cons (k := 42) rfl (.cons (k := 43) rfl (.cons (k := 44) rfl (.cons (k := 45) rfl (.cons (k := 46) rfl (.cons (k := 47) rfl (.cons (k := 48) rfl (.cons (k := 49) rfl (.nil _))))))))))))))))) (rfl : _ = [ownSl 5 (Ex cApiParcel) F_51 49 p53 k54 s50.2.Moving, arena _19.g66 (C66 _19) F_16 r_15.2.2.2.1, arena _19.g63 (C63 _19) F_16 r_15.2.2.2.2.1, arena _19.g64 (C64 _19) F_16 r_15.2.2.2.2.2, pt b14 (.cells (cApiDutyBook s50.2 p53 k54).toArray 31), R]) ?_
    refine .append 0 ok_t49 l_84 rfl Try.underlying29 Try.underlying29 rfl rfl rfl h82 rfl rfl (fun l_114 p115 k116 e117 => ?_)
    refine .fieldAddr rfl Try.underlying31 rfl Try.sizeOf29 rfl ?_
    refine .letv (fun x118 e119 => ?_)
    refine .ownConv 0 rfl (show l_114 = x118.Moving by rw [e119]) ?_
    refine .store (cs' := (cApiDutyBook x118 p115 k116)) Try.sizeOf29 rfl rfl rfl rfl (i := 4) rfl (Nat.le_of_ble_eq_true rfl) rfl (by rw [e119]; kernel_rfl) ?_
    refine .nil ?_
    refine .block ?_
    refine .code ?_
    refine .region ?_
    refine .add rfl rfl rfl ?_
    refine .move rfl rfl ?_
    refine .nil ?_
    exact .nil (LPost.norm fun a w h => ⟨F_83, p115, k116, (Fz.le_trans l_52 l_84), h.1.sub (.cons (k := 6) rfl (.cons (k := 9) rfl (.cons (k := 10) rfl (.cons (k := 35) rfl (.cons (k := 36) rfl (.cons (k := 37) rfl (.nil _))))))), h.2⟩)
   ·skip
    refine .exitOut rfl (LPost.exit fun a w h => ⟨rfl, F_51, p53, k54, l_52, h.1.sub (.cons (k := 6) rfl (.cons (k := 10) rfl (.nil _))), h.2⟩)
  ·intro b120 hb0 hk e a w hD
   obtain ⟨rfl, F_121, p123, k124, l_122, hA⟩ := hD
   refine interp_exit rfl (GE.app ?_ hk a w hA)
   refine .code ?_
   refine .seq ?_
   refine .region ?_
   refine .loadOA rfl Try.isAgg31 Try.sizeOf31 rfl (i := 4) rfl (vs := (cApiDutyBook b120 p123 k124)) (by kernel_rfl) rfl ?_
   refine .move rfl rfl ?_
   refine .freezeSl 0 rfl (Fz.le_refl _) (fun F_126 l_127 h128 => ?_)
   refine .store (cs' := (cApiDutyBook b120 p123 k124)) Try.sizeOf31 rfl rfl rfl rfl (i := 3) rfl (Nat.le_of_ble_eq_true rfl) rfl (setMany_all (by rfl)) ?_
   refine .assign rfl rfl ?_
   refine .assign rfl rfl ?_
   refine .nil ?_
   refine .code ?_
   exact .ret0 Try.results13 (.agg rfl Try.isAgg31 Try.sizeOf31 (i := 3) rfl (vs' := (cApiDutyBook b120 p123 k124)) (by kernel_rfl) rfl (.tmp rfl (.tmp rfl (.nil)))) (i := 4) rfl (Fz.le_trans l_12 (Fz.le_trans l_17 (Fz.le_trans l_41 (Fz.le_trans l_48 (Fz.le_trans l_122 l_127))))) ⟨p123, k124, rfl, h128⟩
noncomputable def m_excise_Duty (r_1 : ApiDutyRules) (amount5 : Int) (day6 : Int) : Option (Int × Int) :=
 (m_excise_areRules r_1).bind fun r_13 => if (!r_13) then (some (0, 1)) else (if ((!(m_excise_within amount5 0 17179869184)) || (!(m_excise_isDay day6))) then (some (0, 2)) else ((m_excise_duty r_1 amount5 day6).bind fun r_26 => some (r_26, 0)))
theorem c_excise_Duty (F0 : Fz) (r_1 : ApiDutyRules) (p2 : Option Addr) (k3 : Nat) (h4 : RepSl 2 (Ex cApiDutyRate) F0 p2 k3 r_1.Rates) (amount5 : Int) (day6 : Int) : CT0 Try.prog 15 [(eApiDutyRules r_1 p2 k3), (.int .i64 amount5), (.int .i64 day6)].toArray F0 (m_excise_Duty r_1 amount5 day6) (fun r _ v => v = .tuple #[(.int .i64 r.1), (.int .i64 r.2)]) := by
 refine CT0.enter Try.func15 rfl Try.ntmps15 rfl fun r R => ?_
 unfold m_excise_Duty
 refine .seq ?_
 refine .region ?_
 refine .boxF (cs := (cApiDutyRules r_1 p2 k3)) rfl rfl rfl (fun b7 F_8 l_9 hb10 => ?_)
 refine .assign rfl rfl ?_
 refine .assign rfl rfl ?_
 refine .nil ?_
 refine .code ?_
 refine .seq ?_
 refine .block ?_
 refine .seq ?_
 refine .region ?_
 refine .loadFA rfl Try.isAgg24 Try.sizeOf24 rfl hb10 (vs := (cApiDutyRules r_1 p2 k3)) (by kernel_rfl) rfl ?_
 refine .call0 rfl Try.call32 rfl rfl rfl (c_excise_areRules _ r_1 p2 k3 (h4.mono l_9)) ?_
 rintro r_13 F_11 _ - l_12 rfl
 refine .not rfl rfl ?_
 refine .assign rfl rfl ?_
 refine .nil ?_
 refine .code ?_
 refine .cond rfl (fun hb14 => ?_) (fun hb14 => ?_)
 ·skip
  refine .seq ?_
  refine .region ?_
  refine .assign rfl rfl ?_
  refine .assign rfl rfl ?_
  refine .nil ?_
  refine .code ?_
  exact .ret0 Try.results15 (.tmp rfl (.tmp rfl (.nil))) (i := 0) rfl (Fz.le_trans l_9 l_12) rfl
 ·skip
  refine .seq ?_
  refine .region ?_
  refine .move rfl rfl ?_
  refine .callP rfl Try.call33 rfl rfl rfl (c_excise_within _ amount5 0 17179869184) ?_
  rintro F_15 _ l_16 rfl
  refine .not rfl rfl ?_
  refine .move rfl rfl ?_
  refine .orP (b := (!(m_excise_within amount5 0 17179869184))) (b' := (!(m_excise_isDay day6))) 4 20 (fun hb17 => ?_) (fun hb20 => ?_) (fun F_21 l_22 => ?_)
  ·skip
   refine .onH hb17 rfl rfl ?_
   refine .move rfl rfl ?_
   refine .onH hb17 rfl rfl ?_
   refine .callP rfl Try.call34 rfl rfl rfl (c_excise_isDay _ day6) ?_
   rintro F_18 _ l_19 rfl
   refine .onH hb17 rfl rfl ?_
   refine .not rfl rfl ?_
   refine .pickFH hb17 rfl rfl rfl ?_
   exact .fin 4 rfl rfl (by kernel_rfl) l_19
  ·skip
   refine .offH hb20 rfl rfl rfl ?_
   refine .offH hb20 rfl rfl rfl ?_
   refine .offH hb20 rfl rfl rfl ?_
   refine .pickTH hb20 rfl rfl rfl ?_
   exact .fin 4 rfl rfl (by kernel_rfl) (Fz.le_refl _)
  refine .assign rfl rfl ?_
  refine .nil ?_
  refine .code ?_
  refine .cond rfl (fun hb23 => ?_) (fun hb23 => ?_)
  ·skip
   refine .seq ?_
   refine .region ?_
   refine .assign rfl rfl ?_
   refine .assign rfl rfl ?_
   refine .nil ?_
   refine .code ?_
   exact .ret0 Try.results15 (.tmp rfl (.tmp rfl (.nil))) (i := 0) rfl (Fz.le_trans l_9 (Fz.le_trans l_12 (Fz.le_trans l_16 l_22))) rfl
  ·skip
   refine .skip ?_
   refine .block ?_
   refine .code ?_
   refine .seq ?_
   refine .region ?_
   refine .loadFA rfl Try.isAgg24 Try.sizeOf24 rfl ((Fz.le_trans l_12 (Fz.le_trans l_16 l_22)).mem _ _ hb10) (vs := (cApiDutyRules r_1 p2 k3)) (by kernel_rfl) rfl ?_
   refine .move rfl rfl ?_
   refine .move rfl rfl ?_
   refine .call0 rfl Try.call35 rfl rfl rfl (c_excise_duty _ r_1 p2 k3 (h4.mono (Fz.le_trans l_9 (Fz.le_trans l_12 (Fz.le_trans l_16 l_22)))) amount5 day6) ?_
   rintro r_26 F_24 _ - l_25 rfl
   refine .assign rfl rfl ?_
   refine .assign rfl rfl ?_
   refine .nil ?_
   refine .code ?_
   exact .ret0 Try.results15 (.tmp rfl (.tmp rfl (.nil))) (i := 0) rfl (Fz.le_trans l_9 (Fz.le_trans l_12 (Fz.le_trans l_16 (Fz.le_trans l_22 l_25)))) rfl
noncomputable def m_excise_Return (r_1 : ApiDutyRules) (l_5 : (List ApiDutyEvent)) (from_9 : Int) (to_10 : Int) : Option (Int × Int × Int) :=
 (m_excise_areRules r_1).bind fun r_17 => if (!r_17) then (some (0, 0, 1)) else (if (decide ((l_5.length : Int) > 4096)) then (some (0, 0, 3)) else (if ((!(m_excise_isDay from_9)) || (!(m_excise_within to_10 from_9 65536))) then (some (0, 0, 2)) else ((m_excise_play r_1 l_5 to_10).bind fun r_29 => if ((r_29.2.2.1 != 0) || (from_9 == 0)) then (if (r_29.1).isNone then (some (0, 0, r_29.2.2.1)) else ((r_29.1).bind fun i43 => (r_29.2.2.2.1[i43]?).bind fun x48 => some (x48.book.Due, x48.book.Paid, r_29.2.2.1))) else ((m_excise_play r_1 l_5 (w64 (from_9 - 1))).bind fun r_79 => (r_29.1).bind fun i87 => (r_29.2.2.2.1[i87]?).bind fun x92 => (r_79.1).bind fun i94 => (r_79.2.2.2.1[i94]?).bind fun x99 => bindv (w64 (x92.book.Due - x99.book.Due)) fun due101 => bindv (w64 (x92.book.Paid - x99.book.Paid)) fun paid103 => some (due101, paid103, 0)))))
theorem c_excise_Return (F0 : Fz) (r_1 : ApiDutyRules) (p2 : Option Addr) (k3 : Nat) (h4 : RepSl 2 (Ex cApiDutyRate) F0 p2 k3 r_1.Rates) (l_5 : (List ApiDutyEvent)) (p6 : Option Addr) (k7 : Nat) (h8 : RepSl 6 (Ex cApiDutyEvent) F0 p6 k7 l_5) (from_9 : Int) (to_10 : Int) : CT0 Try.prog 18 [(eApiDutyRules r_1 p2 k3), (.slice p6 l_5.length k7), (.int .i64 from_9), (.int .i64 to_10)].toArray F0 (m_excise_Return r_1 l_5 from_9 to_10) (fun r _ v => v = .tuple #[(.int .i64 r.1), (.int .i64 r.2.1), (.int .i64 r.2.2)]) := by
 refine CT0.enter Try.func18 rfl Try.ntmps18 rfl fun r R => ?_
 unfold m_excise_Return
 refine .seq ?_
 refine .region ?_
 refine .boxF (cs := (cApiDutyRules r_1 p2 k3)) rfl rfl rfl (fun b11 F_12 l_13 hb14 => ?_)
 refine .assign rfl rfl ?_
 refine .assign rfl rfl ?_
 refine .assign rfl rfl ?_
 refine .nil ?_
 refine .code ?_
 refine .seq ?_
 refine .block ?_
 refine .seq ?_
 refine .region ?_
 refine .loadFA rfl Try.isAgg24 Try.sizeOf24 rfl hb14 (vs := (cApiDutyRules r_1 p2 k3)) (by kernel_rfl) rfl ?_
 refine .call0 rfl Try.call32 rfl rfl rfl (c_excise_areRules _ r_1 p2 k3 (h4.mono l_13)) ?_
 rintro r_17 F_15 _ - l_16 rfl
 refine .not rfl rfl ?_
 refine .assign rfl rfl ?_
 refine .nil ?_
 refine .code ?_
 refine .cond rfl (fun hb18 => ?_) (fun hb18 => ?_)
 ·skip
  refine .seq ?_
  refine .region ?_
  refine .assign rfl rfl ?_
  refine .assign rfl rfl ?_
  refine .assign rfl rfl ?_
  refine .nil ?_
  refine .code ?_
  exact .ret0 Try.results18 (.tmp rfl (.tmp rfl (.tmp rfl (.nil)))) (i := 0) rfl (Fz.le_trans l_13 l_16) rfl
 ·skip
  refine .seq ?_
  refine .region ?_
  refine .move rfl rfl ?_
  refine .lenS rfl rfl Try.underlying25 rfl ?_
  refine .gtr rfl rfl rfl ?_
  refine .assign rfl rfl ?_
  refine .nil ?_
  refine .code ?_
  refine .cond rfl (fun hb19 => ?_) (fun hb19 => ?_)
  ·skip
   refine .seq ?_
   refine .region ?_
   refine .assign rfl rfl ?_
   refine .assign rfl rfl ?_
   refine .assign rfl rfl ?_
   refine .nil ?_
   refine .code ?_
   exact .ret0 Try.results18 (.tmp rfl (.tmp rfl (.tmp rfl (.nil)))) (i := 0) rfl (Fz.le_trans l_13 l_16) rfl
  ·skip
   refine .seq ?_
   refine .region ?_
   refine .move rfl rfl ?_
   refine .callP rfl Try.call34 rfl rfl rfl (c_excise_isDay _ from_9) ?_
   rintro F_20 _ l_21 rfl
   refine .not rfl rfl ?_
   refine .move rfl rfl ?_
   refine .orP (b := (!(m_excise_isDay from_9))) (b' := (!(m_excise_within to_10 from_9 65536))) 5 33 (fun hb22 => ?_) (fun hb25 => ?_) (fun F_26 l_27 => ?_)
   ·skip
    refine .onH hb22 rfl rfl ?_
    refine .move rfl rfl ?_
    refine .onH hb22 rfl rfl ?_
    refine .move rfl rfl ?_
    refine .onH hb22 rfl rfl ?_
    refine .callP rfl Try.call33 rfl rfl rfl (c_excise_within _ to_10 from_9 65536) ?_
    rintro F_23 _ l_24 rfl
    refine .onH hb22 rfl rfl ?_
    refine .not rfl rfl ?_
    refine .pickFH hb22 rfl rfl rfl ?_
    exact .fin 5 rfl rfl (by kernel_rfl) l_24
   ·skip
    refine .offH hb25 rfl rfl rfl ?_
    refine .offH hb25 rfl rfl rfl ?_
    refine .offH hb25 rfl rfl rfl ?_
    refine .offH hb25 rfl rfl rfl ?_
    refine .pickTH hb25 rfl rfl rfl ?_
    exact .fin 5 rfl rfl (by kernel_rfl) (Fz.le_refl _)
   refine .assign rfl rfl ?_
   refine .nil ?_
   refine .code ?_
   refine .cond rfl (fun hb28 => ?_) (fun hb28 => ?_)
   ·skip
    refine .seq ?_
    refine .region ?_
    refine .assign rfl rfl ?_
    refine .assign rfl rfl ?_
    refine .assign rfl rfl ?_
    refine .nil ?_
    refine .code ?_
    exact .ret0 Try.results18 (.tmp rfl (.tmp rfl (.tmp rfl (.nil)))) (i := 0) rfl (Fz.le_trans l_13 (Fz.le_trans l_16 (Fz.le_trans l_21 l_27))) rfl
   ·skip
    refine .skip ?_
    refine .block ?_
    refine .code ?_
    refine .seq ?_
    refine .region ?_
    refine .loadFA rfl Try.isAgg24 Try.sizeOf24 rfl ((Fz.le_trans l_16 (Fz.le_trans l_21 l_27)).mem _ _ hb14) (vs := (cApiDutyRules r_1 p2 k3)) (by kernel_rfl) rfl ?_
    refine .move rfl rfl ?_
    refine .move rfl rfl ?_
    refine .callO rfl Try.call25 rfl rfl rfl (c_excise_play _ r_1 p2 k3 (h4.mono (Fz.le_trans l_13 (Fz.le_trans l_16 (Fz.le_trans l_21 l_27)))) l_5 p6 k7 (h8.mono (Fz.le_trans l_13 (Fz.le_trans l_16 (Fz.le_trans l_21 l_27)))) to_10) ?_
    rintro r_29 _33 F_30 _ e32 l_31 ⟨p34, k35, rfl, h36⟩
    refine .norm (Sub.refl _) (rfl : _ = [arena _33.g66 (C66 _33) F_30 r_29.2.2.2.1, arena _33.g63 (C63 _33) F_30 r_29.2.2.2.2.1, arena _33.g64 (C64 _33) F_30 r_29.2.2.2.2.2, R]) ?_
    refine .move rfl rfl ?_
    refine .extract rfl rfl rfl ?_
    refine .extract rfl rfl rfl ?_
    refine .extract rfl rfl rfl ?_
    refine .assign rfl rfl ?_
    refine .assign rfl rfl ?_
    refine .assign rfl rfl ?_
    refine .nil ?_
    refine .keep (.cons (k := 1) rfl (.cons (k := 2) rfl (.cons (k := 4) rfl (.cons (k := 10) rfl (.cons (k := 11) rfl (.nil _)))))) ?_
    refine .code ?_
    refine .seq ?_
    refine .seq ?_
    refine .region ?_
    refine .move rfl rfl ?_
    refine .neq rfl rfl rfl ?_
    refine .move rfl rfl ?_
    refine .orP (b := (r_29.2.2.1 != 0)) (b' := (from_9 == 0)) 3 47 (fun hb37 => ?_) (fun hb38 => ?_) (fun F_39 l_40 => ?_)
    ·skip
     refine .onH hb37 rfl rfl ?_
     refine .move rfl rfl ?_
     refine .onH hb37 rfl rfl ?_
     refine .eql rfl rfl rfl ?_
     refine .pickFH hb37 rfl rfl rfl ?_
     exact .fin 3 rfl rfl (by kernel_rfl) (Fz.le_refl _)
    ·skip
     refine .offH hb38 rfl rfl rfl ?_
     refine .offH hb38 rfl rfl rfl ?_
     refine .pickTH hb38 rfl rfl rfl ?_
     exact .fin 3 rfl rfl (by kernel_rfl) (Fz.le_refl _)
    refine .nil ?_
    refine .code ?_
    refine .cond rfl (fun hb41 => ?_) (fun hb41 => ?_)
    ·skip
     refine .seq ?_
     refine .seq ?_
     refine .region ?_
     refine .move rfl rfl ?_
     refine .eqlPtrNil (h36.mono l_40) rfl Try.underlying60 rfl rfl ?_
     refine .nil ?_
     refine .code ?_
     refine .cond rfl (fun hb42 => ?_) (fun hb42 => ?_)
     ·skip
      refine .seq ?_
      refine .region ?_
      refine .move rfl rfl ?_
      refine .assign rfl rfl ?_
      refine .assign rfl rfl ?_
      refine .assign rfl rfl ?_
      refine .nil ?_
      refine .code ?_
      exact .ret0 Try.results18 (.tmp rfl (.tmp rfl (.tmp rfl (.nil)))) (i := 3) rfl (Fz.le_trans l_13 (Fz.le_trans l_16 (Fz.le_trans l_21 (Fz.le_trans l_27 (Fz.le_trans l_31 l_40))))) rfl
     ·skip
      refine .skip ?_
      refine .code ?_
      refine .seq ?_
      refine .keep (.cons (k := 10) rfl (.cons (k := 11) rfl (.nil _))) ?_
      refine .bind (fun i43 e44 => ?_)
      obtain ⟨b45, hb46, hp47⟩ := (h36.mono l_40).at e44
      refine .bind (fun x48 e49 => ?_)
      refine .draw ⟨1000000, 0, [], 0⟩ [(51, (.pointer p34)), (52, (.pointer (some ⟨b45, 0, none⟩))), (53, (.pointer (some ⟨b45, 0 + 4, none⟩))), (54, (.pointer (some ⟨b45, 0 + 4 + 23, none⟩))), (55, (.int .i64 x48.book.Due)), (56, (.pointer p34)), (57, (.pointer (some ⟨b45, 0, none⟩))), (58, (.pointer (some ⟨b45, 0 + 4, none⟩))), (59, (.pointer (some ⟨b45, 0 + 4 + 24, none⟩))), (60, (.int .i64 x48.book.Paid)), (61, (.int .i64 r_29.2.2.1)), (8, (.int .i64 x48.book.Due)), (9, (.int .i64 x48.book.Paid))] mixedOK (by kernel_rfl) (by kernel_rfl) rfl (by kernel_rfl) ?_ (fun F_50 b51 l_52 => ?_)
      ·skip
       refine .cons (.mk 51 (.pointer p34) [(11, (.pointer p34))] rfl rfl rfl rfl (fun S hS hd => (.cons (hS _ _ rfl) (Sub.nil _))) (fun F_53 X l_54 => ?_)) ?_
       ·skip
        refine .move rfl rfl ?_
        exact .fin1 (Fz.le_refl _)
       refine .cons (.mk 52 (.pointer (some ⟨b45, 0, none⟩)) [(51, (.pointer p34))] rfl rfl rfl rfl (fun S hS hd => (.cons (hd.1 rfl rfl _ _ rfl) (Sub.nil _))) (fun F_55 X l_56 => ?_)) ?_
       ·skip
        refine .nilCheckR hp47 rfl rfl ?_
        exact .fin1 (Fz.le_refl _)
       refine .cons (.mk 53 (.pointer (some ⟨b45, 0 + 4, none⟩)) [(52, (.pointer (some ⟨b45, 0, none⟩)))] rfl rfl rfl rfl (fun S hS hd => (.cons (hd.1 rfl rfl _ _ rfl) (Sub.nil _))) (fun F_57 X l_58 => ?_)) ?_
       ·skip
        refine .fieldAddr rfl Try.underlying66 rfl Try.sizeOf31 rfl ?_
        exact .fin1 (Fz.le_refl _)
       refine .cons (.mk 54 (.pointer (some ⟨b45, 0 + 4 + 23, none⟩)) [(53, (.pointer (some ⟨b45, 0 + 4, none⟩)))] rfl rfl rfl rfl (fun S hS hd => (.cons (hd.1 rfl rfl _ _ rfl) (Sub.nil _))) (fun F_59 X l_60 => ?_)) ?_
       ·skip
        refine .fieldAddr rfl Try.underlying31 rfl Try.sizeOf3 rfl ?_
        exact .fin1 (Fz.le_refl _)
       refine .cons (.mk 55 (.int .i64 x48.book.Due) [(54, (.pointer (some ⟨b45, 0 + 4 + 23, none⟩)))] rfl rfl rfl rfl (fun S hS hd => (.cons (hd.1 rfl rfl _ _ rfl) (Sub.nil _))) (fun F_61 X l_62 => ?_)) ?_
       ·skip
        refine .loadR (Φ := fun v => v = (.int .i64 x48.book.Due)) 0 rfl (Fz.le_trans l_40 l_62) (hb46.mono l_62) e49 rfl Try.isAgg3 rfl (fun vs ⟨q0, q1, q2, q3, q4, q5, q6, q7, h, r0, r1, r2, r3⟩ => ⟨_, by subst h; exact rfl, rfl⟩) (fun v hv => ?_)
        subst hv
        exact .fin1 (Fz.le_refl _)
       refine .cons (.mk 56 (.pointer p34) [(11, (.pointer p34))] rfl rfl rfl rfl (fun S hS hd => (.cons (hS _ _ rfl) (Sub.nil _))) (fun F_63 X l_64 => ?_)) ?_
       ·skip
        refine .move rfl rfl ?_
        exact .fin1 (Fz.le_refl _)
       refine .cons (.mk 57 (.pointer (some ⟨b45, 0, none⟩)) [(56, (.pointer p34))] rfl rfl rfl rfl (fun S hS hd => (.cons (hd.1 rfl rfl _ _ rfl) (Sub.nil _))) (fun F_65 X l_66 => ?_)) ?_
       ·skip
        refine .nilCheckR hp47 rfl rfl ?_
        exact .fin1 (Fz.le_refl _)
       refine .cons (.mk 58 (.pointer (some ⟨b45, 0 + 4, none⟩)) [(57, (.pointer (some ⟨b45, 0, none⟩)))] rfl rfl rfl rfl (fun S hS hd => (.cons (hd.1 rfl rfl _ _ rfl) (Sub.nil _))) (fun F_67 X l_68 => ?_)) ?_
       ·skip
        refine .fieldAddr rfl Try.underlying66 rfl Try.sizeOf31 rfl ?_
        exact .fin1 (Fz.le_refl _)
       refine .cons (.mk 59 (.pointer (some ⟨b45, 0 + 4 + 24, none⟩)) [(58, (.pointer (some ⟨b45, 0 + 4, none⟩)))] rfl rfl rfl rfl (fun S hS hd => (.cons (hd.1 rfl rfl _ _ rfl) (Sub.nil _))) (fun F_69 X l_70 => ?_)) ?_
       ·skip
        refine .fieldAddr rfl Try.underlying31 rfl Try.sizeOf3 rfl ?_
        exact .fin1 (Fz.le_refl _)
       refine .cons (.mk 60 (.int .i64 x48.book.Paid) [(59, (.pointer (some ⟨b45, 0 + 4 + 24, none⟩)))] rfl rfl rfl rfl (fun S hS hd => (.cons (hd.1 rfl rfl _ _ rfl) (Sub.nil _))) (fun F_71 X l_72 => ?_)) ?_
       ·skip
        refine .loadR (Φ := fun v => v = (.int .i64 x48.book.Paid)) 0 rfl (Fz.le_trans l_40 l_72) (hb46.mono l_72) e49 rfl Try.isAgg3 rfl (fun vs ⟨q0, q1, q2, q3, q4, q5, q6, q7, h, r0, r1, r2, r3⟩ => ⟨_, by subst h; exact rfl, rfl⟩) (fun v hv => ?_)
        subst hv
        exact .fin1 (Fz.le_refl _)
       refine .cons (.mk 61 (.int .i64 r_29.2.2.1) [(10, (.int .i64 r_29.2.2.1))] rfl rfl rfl rfl (fun S hS hd => (.cons (hS _ _ rfl) (Sub.nil _))) (fun F_73 X l_74 => ?_)) ?_
       ·skip
        refine .move rfl rfl ?_
        exact .fin1 (Fz.le_refl _)
       refine .cons (.mk 8 (.int .i64 x48.book.Due) [(55, (.int .i64 x48.book.Due))] rfl rfl rfl rfl (fun S hS hd => (.cons (hd.1 rfl rfl _ _ rfl) (Sub.nil _))) (fun F_75 X l_76 => ?_)) ?_
       ·skip
        refine .assign rfl rfl ?_
        exact .fin1 (Fz.le_refl _)
       refine .cons (.mk 9 (.int .i64 x48.book.Paid) [(60, (.int .i64 x48.book.Paid))] rfl rfl rfl rfl (fun S hS hd => (.cons (hd.1 rfl rfl _ _ rfl) (Sub.nil _))) (fun F_77 X l_78 => ?_)) ?_
       ·skip
        refine .assign rfl rfl ?_
        exact .fin1 (Fz.le_refl _)
       exact .nil
      refine .assign rfl rfl ?_
      refine .nil ?_
      refine .code ?_
      exact .ret0 Try.results18 (.tmp rfl (.tmp rfl (.tmp rfl (.nil)))) (i := 3) rfl (Fz.le_trans l_13 (Fz.le_trans l_16 (Fz.le_trans l_21 (Fz.le_trans l_27 (Fz.le_trans l_31 (Fz.le_trans l_40 l_52)))))) rfl
    ·skip
     refine .skip ?_
     refine .code ?_
     refine .seq ?_
     refine .region ?_
     refine .loadFA rfl Try.isAgg24 Try.sizeOf24 rfl ((Fz.le_trans l_16 (Fz.le_trans l_21 (Fz.le_trans l_27 (Fz.le_trans l_31 l_40)))).mem _ _ hb14) (vs := (cApiDutyRules r_1 p2 k3)) (by kernel_rfl) rfl ?_
     refine .move rfl rfl ?_
     refine .move rfl rfl ?_
     refine .sub rfl rfl rfl ?_
     refine .callO rfl Try.call25 rfl rfl rfl (c_excise_play _ r_1 p2 k3 (h4.mono (Fz.le_trans l_13 (Fz.le_trans l_16 (Fz.le_trans l_21 (Fz.le_trans l_27 (Fz.le_trans l_31 l_40)))))) l_5 p6 k7 (h8.mono (Fz.le_trans l_13 (Fz.le_trans l_16 (Fz.le_trans l_21 (Fz.le_trans l_27 (Fz.le_trans l_31 l_40)))))) (w64 (from_9 - 1))) ?_
     rintro r_79 _83 F_80 _ e82 l_81 ⟨p84, k85, rfl, h86⟩
     refine .norm (Sub.refl _) (rfl : _ = [arena _83.g66 (C66 _83) F_80 r_79.2.2.2.1, arena _83.g63 (C63 _83) F_80 r_79.2.2.2.2.1, arena _83.g64 (C64 _83) F_80 r_79.2.2.2.2.2, arena _33.g66 (C66 _33) F_30 r_29.2.2.2.1, arena _33.g63 (C63 _33) F_30 r_29.2.2.2.2.1, arena _33.g64 (C64 _33) F_30 r_29.2.2.2.2.2, R]) ?_
     refine .move rfl rfl ?_
     refine .extract rfl rfl rfl ?_
     refine .extract rfl rfl rfl ?_
     refine .extract rfl rfl rfl ?_
     refine .assign rfl rfl ?_
     refine .assign rfl rfl ?_
     refine .assign rfl rfl ?_
     refine .nil ?_
     refine .code ?_
     refine .seq ?_
     refine .keep (.cons (k := 11) rfl (.cons (k := 13) rfl (.nil _))) ?_
     refine .drawZ 25 mixedOK (by kernel_rfl) ?_
     refine .move rfl rfl ?_
     refine .bind (fun i87 e88 => ?_)
     obtain ⟨b89, hb90, hp91⟩ := (h36.mono (Fz.le_trans l_40 l_81)).at e88
     refine .nilCheckR hp91 rfl rfl ?_
     refine .fieldAddr rfl Try.underlying66 rfl Try.sizeOf31 rfl ?_
     refine .fieldAddr rfl Try.underlying31 rfl Try.sizeOf3 rfl ?_
     refine .bind (fun x92 e93 => ?_)
     refine .loadR (Φ := fun v => v = (.int .i64 x92.book.Due)) 3 rfl (Fz.le_trans l_40 l_81) hb90 e93 rfl Try.isAgg3 rfl (fun vs ⟨q0, q1, q2, q3, q4, q5, q6, q7, h, r0, r1, r2, r3⟩ => ⟨_, by subst h; exact rfl, rfl⟩) (fun v hv => ?_)
     subst hv
     refine .move rfl rfl ?_
     refine .bind (fun i94 e95 => ?_)
     obtain ⟨b96, hb97, hp98⟩ := h86.at e95
     refine .nilCheckR hp98 rfl rfl ?_
     refine .fieldAddr rfl Try.underlying66 rfl Try.sizeOf31 rfl ?_
     refine .fieldAddr rfl Try.underlying31 rfl Try.sizeOf3 rfl ?_
     refine .bind (fun x99 e100 => ?_)
     refine .loadR (Φ := fun v => v = (.int .i64 x99.book.Due)) 0 rfl (Fz.le_refl _) hb97 e100 rfl Try.isAgg3 rfl (fun vs ⟨q0, q1, q2, q3, q4, q5, q6, q7, h, r0, r1, r2, r3⟩ => ⟨_, by subst h; exact rfl, rfl⟩) (fun v hv => ?_)
     subst hv
     refine .sub rfl rfl rfl ?_
     refine .move rfl rfl ?_
     refine .nilCheckR hp91 rfl rfl ?_
     refine .fieldAddr rfl Try.underlying66 rfl Try.sizeOf31 rfl ?_
     refine .fieldAddr rfl Try.underlying31 rfl Try.sizeOf3 rfl ?_
     refine .loadR (Φ := fun v => v = (.int .i64 x92.book.Paid)) 3 rfl (Fz.le_trans l_40 l_81) hb90 e93 rfl Try.isAgg3 rfl (fun vs ⟨q0, q1, q2, q3, q4, q5, q6, q7, h, r0, r1, r2, r3⟩ => ⟨_, by subst h; exact rfl, rfl⟩) (fun v hv => ?_)
     subst hv
     refine .move rfl rfl ?_
     refine .nilCheckR hp98 rfl rfl ?_
     refine .fieldAddr rfl Try.underlying66 rfl Try.sizeOf31 rfl ?_
     refine .fieldAddr rfl Try.underlying31 rfl Try.sizeOf3 rfl ?_
     refine .loadR (Φ := fun v => v = (.int .i64 x99.book.Paid)) 0 rfl (Fz.le_refl _) hb97 e100 rfl Try.isAgg3 rfl (fun vs ⟨q0, q1, q2, q3, q4, q5, q6, q7, h, r0, r1, r2, r3⟩ => ⟨_, by subst h; exact rfl, rfl⟩) (fun v hv => ?_)
     subst hv
     refine .sub rfl rfl rfl ?_
     refine .assignL rfl rfl (fun due101 e102 => ?_)
     refine .assignL rfl rfl (fun paid103 e104 => ?_)
     refine .assign rfl rfl ?_
     refine .pend ?_
     refine .nil ?_
     refine .keep (.cons (k := 8) rfl (.cons (k := 9) rfl (.cons (k := 10) rfl (.nil _)))) ?_
     refine .code ?_
     exact .ret0 Try.results18 (.tmp rfl (.tmp rfl (.tmp rfl (.nil)))) (i := 6) rfl (Fz.le_trans l_13 (Fz.le_trans l_16 (Fz.le_trans l_21 (Fz.le_trans l_27 (Fz.le_trans l_31 (Fz.le_trans l_40 l_81)))))) rfl
noncomputable def b_excise_Late_1 (day9 : Int) (days10 : Int) (r_15 : (Option Nat) × Int × Int × (List ExciseOffice) × (List (List (Int × ApiParcel))) × (List (List (Int × Bool)))) (x32 : ExciseOffice) (ks41 : (List Int)) (s49 : (List Int) × Int) : Option (Ctl ((List Int) × Int) (((List Int)))) :=
 if (decide (s49.2 < (ks41.length : Int))) then (((idxL ks41 s49.2).bind fun x56 => (x32.moving).bind fun i69 => (r_15.2.2.2.2.1[i69]?).bind fun x74 => (m_excise_office_late r_15.2.2.2.1 r_15.1 ((mapGet x74 x56).getD (ApiParcel.mk 0 0 0 0 0))).bind fun r_76 => (if (decide (r_76 ≤ (w64 (day9 + days10)))) then ((appO s49.1 ([x56])).bind fun l_86 => some l_86) else (some s49.1) : Option ((List Int))).bind fun j90 => some j90 : Option ((List Int))).bind fun j96 => some (.next (j96, (w64 (s49.2 + 1))))) else (some (.done s49.1))
noncomputable def m_excise_Late (r_1 : ApiDutyRules) (l_5 : (List ApiDutyEvent)) (day9 : Int) (days10 : Int) : Option ((List Int) × Int) :=
 (m_excise_play r_1 l_5 day9).bind fun r_15 => if (r_15.2.2.1 != 0) then (some ([], r_15.2.2.1)) else (if (!(m_excise_isDay days10)) then (some ([], 2)) else ((r_15.1).bind fun i27 => (r_15.2.2.2.1[i27]?).bind fun x32 => (sortedO r_15.2.2.2.2.1 x32.moving).bind fun ks41 => (loopM (b_excise_Late_1 day9 days10 r_15 x32 ks41) ([], 0)).bind fun b102 => some (b102, 0)))
theorem c_excise_Late (F0 : Fz) (r_1 : ApiDutyRules) (p2 : Option Addr) (k3 : Nat) (h4 : RepSl 2 (Ex cApiDutyRate) F0 p2 k3 r_1.Rates) (l_5 : (List ApiDutyEvent)) (p6 : Option Addr) (k7 : Nat) (h8 : RepSl 6 (Ex cApiDutyEvent) F0 p6 k7 l_5) (day9 : Int) (days10 : Int) : CT0 Try.prog 20 [(eApiDutyRules r_1 p2 k3), (.slice p6 l_5.length k7), (.int .i64 day9), (.int .i64 days10)].toArray F0 (m_excise_Late r_1 l_5 day9 days10) (fun r F v => ∃ (p0 : Option Addr) (k0 : Nat), v = .tuple #[(.slice p0 r.1.length k0), (.int .i64 r.2)] ∧ RepSl 1 (Ex (cInt .i64)) F p0 k0 r.1) := by
 refine CT0.enter Try.func20 rfl Try.ntmps20 rfl fun r R => ?_
 unfold m_excise_Late
 refine .seq ?_
 refine .region ?_
 refine .boxF (cs := (cApiDutyRules r_1 p2 k3)) rfl rfl rfl (fun b11 F_12 l_13 hb14 => ?_)
 refine .assign rfl rfl ?_
 refine .assign rfl rfl ?_
 refine .nil ?_
 refine .code ?_
 refine .seq ?_
 refine .region ?_
 refine .loadFA rfl Try.isAgg24 Try.sizeOf24 rfl hb14 (vs := (cApiDutyRules r_1 p2 k3)) (by kernel_rfl) rfl ?_
 refine .move rfl rfl ?_
 refine .move rfl rfl ?_
 refine .callO rfl Try.call25 rfl rfl rfl (c_excise_play _ r_1 p2 k3 (h4.mono l_13) l_5 p6 k7 (h8.mono l_13) day9) ?_
 rintro r_15 _19 F_16 _ e18 l_17 ⟨p20, k21, rfl, h22⟩
 refine .norm (Sub.refl _) (rfl : _ = [arena _19.g66 (C66 _19) F_16 r_15.2.2.2.1, arena _19.g63 (C63 _19) F_16 r_15.2.2.2.2.1, arena _19.g64 (C64 _19) F_16 r_15.2.2.2.2.2, R]) ?_
 refine .move rfl rfl ?_
 refine .extract rfl rfl rfl ?_
 refine .extract rfl rfl rfl ?_
 refine .extract rfl rfl rfl ?_
 refine .assign rfl rfl ?_
 refine .assign rfl rfl ?_
 refine .assign rfl rfl ?_
 refine .nil ?_
 refine .code ?_
 refine .seq ?_
 refine .block ?_
 refine .seq ?_
 refine .region ?_
 refine .move rfl rfl ?_
 refine .neq rfl rfl rfl ?_
 refine .assign rfl rfl ?_
 refine .nil ?_
 refine .code ?_
 refine .cond rfl (fun hb23 => ?_) (fun hb23 => ?_)
 ·skip
  refine .seq ?_
  refine .region ?_
  refine .move rfl rfl ?_
  refine .assign rfl rfl ?_
  refine .assign rfl rfl ?_
  refine .nil ?_
  refine .code ?_
  exact .ret0 Try.results20 (.tmp rfl (.tmp rfl (.nil))) (i := 3) rfl (Fz.le_trans l_13 l_17) ⟨none, 0, rfl, (RepSl.nil.mono (Fz.le_trans l_13 l_17))⟩
 ·skip
  refine .seq ?_
  refine .region ?_
  refine .move rfl rfl ?_
  refine .callP rfl Try.call34 rfl rfl rfl (c_excise_isDay _ days10) ?_
  rintro F_24 _ l_25 rfl
  refine .not rfl rfl ?_
  refine .assign rfl rfl ?_
  refine .nil ?_
  refine .keep (.cons (k := 2) rfl (.cons (k := 3) rfl (.cons (k := 10) rfl (.cons (k := 28) rfl (.nil _))))) ?_
  refine .code ?_
  refine .cond rfl (fun hb26 => ?_) (fun hb26 => ?_)
  ·skip
   refine .seq ?_
   refine .region ?_
   refine .assign rfl rfl ?_
   refine .assign rfl rfl ?_
   refine .nil ?_
   refine .code ?_
   exact .ret0 Try.results20 (.tmp rfl (.tmp rfl (.nil))) (i := 3) rfl (Fz.le_trans l_13 (Fz.le_trans l_17 l_25)) ⟨none, 0, rfl, (RepSl.nil.mono (Fz.le_trans l_13 (Fz.le_trans l_17 l_25)))⟩
  ·skip
   refine .skip ?_
   refine .block ?_
   refine .code ?_
   refine .seq ?_
   refine .region ?_
   refine .assign rfl rfl ?_
   refine .nil ?_
   refine .code ?_
   refine .seq ?_
   refine .seq ?_
   refine .region ?_
   refine .move rfl rfl ?_
   refine .bind (fun i27 e28 => ?_)
   obtain ⟨b29, hb30, hp31⟩ := (h22.mono l_25).at e28
   refine .nilCheckR hp31 rfl rfl ?_
   refine .fieldAddr rfl Try.underlying66 rfl Try.sizeOf63 rfl ?_
   refine .bind (fun x32 e33 => ?_)
   refine .loadR (Φ := fun v => ∃ (p34 : Option Nat) (k35 : Unit), v = (.map p34) ∧ RepRef _19.g63 F_24 p34 x32.moving) 0 rfl l_25 hb30 e33 rfl Try.isAgg63 rfl (fun vs ⟨q0, q1, q2, q3, q4, q5, q6, q7, h, r0, r1, r2, r3⟩ => ⟨_, by subst h; exact rfl, q4, q5, rfl, r2⟩) (fun v hv => ?_)
   obtain ⟨p34, k35, rfl, h36⟩ := hv
   refine .keysC keysOf27 rfl Try.call27 rfl rfl (fun b37 F_38 l_39 hb40 => ?_)
   refine .sortedX Try.underlying3 sortedKeys46 (c := (Ex (cInt .i64))) (fun _ _ => rfl) (hb40) 1 rfl (h36.mono l_39) rfl Try.call26 rfl rfl (fun ks41 F_42 p43 c44 e45 l_46 h47 => ?_)
   refine .lenS rfl rfl Try.underlying41 rfl ?_
   refine .move rfl rfl ?_
   refine .nil ?_
   refine .code ?_
   refine .block ?_
   refine .ownNil 1 (Ex (cInt .i64)) 3 ?_
   refine .keep (.cons (k := 2) rfl (.cons (k := 3) rfl (.cons (k := 10) rfl (.cons (k := 13) rfl (.cons (k := 37) rfl (.cons (k := 38) rfl (.cons (k := 39) rfl (.nil _)))))))) ?_
   refine .upR 1 (stays66 _19) (Fz.le_trans l_25 (Fz.le_trans l_39 l_46)) rfl ?_
   refine .loop (fun (s49 : (List Int) × Int) a w => ∃ (F_50 : Fz) (p52 : Option Addr) (k53 : Nat), F_42 ≤ F_50 ∧ Hd 61 [] [(2, (.int .i64 day9)), (3, (.int .i64 days10)), (10, (.pointer p20)), (13, (.slice p52 s49.1.length k53)), (37, (.slice p43 ks41.length c44)), (38, (.int .i64 (ks41.length : Int))), (39, (.int .i64 s49.2))] F_50 [ownSl 1 (Ex (cInt .i64)) F_50 3 p52 k53 s49.1, arena _19.g66 (C66 _19) F_50 r_15.2.2.2.1, arena _19.g63 (C63 _19) F_16 r_15.2.2.2.2.1, arena _19.g64 (C64 _19) F_16 r_15.2.2.2.2.2, R] a w) (fun b102 e a w => e = .exit 1 ∧ ∃ (F_103 : Fz) (p105 : Option Addr) (k106 : Nat), F_42 ≤ F_103 ∧ Hd 61 [] [(13, (.slice p105 b102.length k106))] F_103 [ownSl 1 (Ex (cInt .i64)) F_103 3 p105 k106 b102, arena _19.g66 (C66 _19) F_103 r_15.2.2.2.1, arena _19.g63 (C63 _19) F_16 r_15.2.2.2.2.1, arena _19.g64 (C64 _19) F_16 r_15.2.2.2.2.2, R] a w) ?_ ?_ ?_
   ·exact fun a w h => ⟨F_42, none, 0, (Fz.le_refl _), h.1.sub (.cons (k := 2) rfl (.cons (k := 3) rfl (.cons (k := 10) rfl (.cons (k := 13) rfl (.cons (k := 37) rfl (.cons (k := 38) rfl (.cons (k := 39) rfl (.nil _)))))))), h.2⟩
   ·intro s49 ctl
    refine GC.ex (fun a w ⟨F_50, p52, k53, l_51, hA⟩ => ⟨_, hA, ?_⟩)
    unfold b_excise_Late_1
    refine .seq ?_
    refine .region ?_
    refine .lss rfl rfl rfl ?_
    refine .nil ?_
    refine .code ?_
    refine .seq ?_
    refine .cond rfl (fun hb55 => ?_) (fun hb55 => ?_)
    ·skip
     refine .skip ?_
     refine .code ?_
     refine .seq ?_
     refine .keep (.cons (k := 2) rfl (.cons (k := 3) rfl (.cons (k := 10) rfl (.cons (k := 13) rfl (.cons (k := 37) rfl (.cons (k := 38) rfl (.cons (k := 39) rfl (.nil _)))))))) ?_
     refine GC.join0 (σ := (List Int)) (fun j96 a w => ∃ (F_97 : Fz) (p99 : Option Addr) (k100 : Nat), F_50 ≤ F_97 ∧ Hd 61 [] [(2, (.int .i64 day9)), (3, (.int .i64 days10)), (10, (.pointer p20)), (13, (.slice p99 j96.length k100)), (37, (.slice p43 ks41.length c44)), (38, (.int .i64 (ks41.length : Int))), (39, (.int .i64 s49.2))] F_97 [ownSl 1 (Ex (cInt .i64)) F_97 3 p99 k100 j96, arena _19.g66 (C66 _19) F_97 r_15.2.2.2.1, arena _19.g63 (C63 _19) F_16 r_15.2.2.2.2.1, arena _19.g64 (C64 _19) F_16 r_15.2.2.2.2.2, R] a w) (fun sj => ?_) (fun j96 hs0 => GE.ex (fun a w ⟨F_97, p99, k100, l_98, hA⟩ => ⟨_, hA, ?_⟩))
     ·skip
      refine .block ?_
      refine .seq ?_
      refine .region ?_
      refine .idx rfl Try.underlying41 Try.sizeOf3 (h47.mono l_51) rfl rfl (fun x56 b57 o58 T59 fr60 cs61 e62 hm63 hv64 => ?_)
      refine .loadF rfl Try.isAgg3 rfl hm63 (cell_of_take (k := 0) hv64 rfl) ?_
      refine .assign rfl rfl ?_
      refine .nil ?_
      refine .code ?_
      refine .seq ?_
      refine .region ?_
      refine .move rfl rfl ?_
      refine .move rfl rfl ?_
      refine .nilCheckR hp31 rfl rfl ?_
      refine .fieldAddr rfl Try.underlying66 rfl Try.sizeOf63 rfl ?_
      refine .loadR (Φ := fun v => ∃ (p66 : Option Nat) (k67 : Unit), v = (.map p66) ∧ RepRef _19.g63 F_50 p66 x32.moving) 1 rfl (Fz.le_refl _) (hb30.mono (Fz.le_trans l_39 (Fz.le_trans l_46 l_51))) e33 rfl Try.isAgg63 rfl (fun vs ⟨q0, q1, q2, q3, q4, q5, q6, q7, h, r0, r1, r2, r3⟩ => ⟨_, by subst h; exact rfl, q4, q5, rfl, r2⟩) (fun v hv => ?_)
      obtain ⟨p66, k67, rfl, h68⟩ := hv
      refine .move rfl rfl ?_
      refine .bind (fun i69 e70 => ?_)
      obtain ⟨b71, hb72, hp73⟩ := h68.at e70
      refine .bind (fun x74 e75 => ?_)
      refine .lookupR (key := x56) (z := (ApiParcel.mk 0 0 0 0 0)) 2 rfl (Fz.le_trans l_25 (Fz.le_trans l_39 (Fz.le_trans l_46 l_51))) hb72 hp73 e75 rfl Try.underlying63 (.int Try.underlying3) Try.zeroValue49 rfl rfl rfl ?_
      intro v hv
      obtain rfl := hv
      refine .callT [1] rfl Try.call37 rfl rfl rfl rfl (c_excise_office_late _ _19 r_15.2.2.2.1 r_15.1 p20 k21 (h22.mono (Fz.le_trans l_25 (Fz.le_trans l_39 (Fz.le_trans l_46 l_51)))) ((mapGet x74 x56).getD (ApiParcel.mk 0 0 0 0 0))) ?_
      rintro r_76 F_77 _ e79 l_78 rfl
      refine .pick [1, 0, 0, 0, 0] (rfl : _ = [ownSl 1 (Ex (cInt .i64)) F_50 3 p52 k53 s49.1, arena _19.g66 (C66 _19) F_77 r_15.2.2.2.1, arena _19.g63 (C63 _19) F_16 r_15.2.2.2.2.1, arena _19.g64 (C64 _19) F_16 r_15.2.2.2.2.2, R]) ?_
      refine .move rfl rfl ?_
      refine .move rfl rfl ?_
      refine .add rfl rfl rfl ?_
      refine .leq rfl rfl rfl ?_
      refine .nil ?_
      refine .code ?_
      refine .keep (.cons (k := 2) rfl (.cons (k := 3) rfl (.cons (k := 10) rfl (.cons (k := 13) rfl (.cons (k := 15) rfl (.cons (k := 37) rfl (.cons (k := 38) rfl (.cons (k := 39) rfl (.cons (k := 54) rfl (.nil _)))))))))) ?_
      refine GC.join0 (σ := (List Int)) (fun j90 a w => ∃ (F_91 : Fz) (p93 : Option Addr) (k94 : Nat), F_77 ≤ F_91 ∧ Hd 61 [] [(2, (.int .i64 day9)), (3, (.int .i64 days10)), (10, (.pointer p20)), (13, (.slice p93 j90.length k94)), (37, (.slice p43 ks41.length c44)), (38, (.int .i64 (ks41.length : Int))), (39, (.int .i64 s49.2))] F_91 [ownSl 1 (Ex (cInt .i64)) F_91 3 p93 k94 j90, arena _19.g66 (C66 _19) F_77 r_15.2.2.2.1, arena _19.g63 (C63 _19) F_16 r_15.2.2.2.2.1, arena _19.g64 (C64 _19) F_16 r_15.2.2.2.2.2, R] a w) (fun sj => ?_) (fun j90 hs0 => GE.ex (fun a w ⟨F_91, p93, k94, l_92, hA⟩ => ⟨_, hA, ?_⟩))
      ·skip
       refine .cond rfl (fun hb80 => ?_) (fun hb80 => ?_)
       ·skip
        refine .region ?_
        refine .move rfl rfl ?_
        refine .move rfl rfl ?_
        refine .sliceLit (cs := [.int .i64 x56]) (zc := [.int .i64 0]) rfl Try.underlying41 Try.sizeOf3 Try.zeroValue3 rfl rfl rfl (by kernel_rfl) (by kernel_rfl) (fun b81 F_82 l_83 hb84 => ?_)
        have h85 : RepSl 1 (Ex (cInt .i64)) F_82 (some ⟨b81, 0, none⟩) 1 ([x56]) := RepSl.ofRow hb84 (.cons ok_t3.mono rfl .nil) rfl rfl
        refine .append 0 ok_t3 (Fz.le_trans l_78 l_83) rfl Try.underlying41 Try.underlying41 rfl rfl rfl h85 rfl rfl (fun l_86 p87 k88 e89 => ?_)
        refine .assign rfl rfl ?_
        refine .nil ?_
        exact .nil fun e a w h => by cases e; exact ⟨rfl, ⟨F_82, p87, k88, l_83, h.1.sub (.cons (k := 2) rfl (.cons (k := 3) rfl (.cons (k := 10) rfl (.cons (k := 13) rfl (.cons (k := 37) rfl (.cons (k := 38) rfl (.cons (k := 39) rfl (.nil _)))))))), h.2⟩⟩
       ·skip
        refine .skip ?_
        refine .ownUp 0 l_78 rfl ?_
        exact .nil fun e a w h => by cases e; exact ⟨rfl, ⟨F_77, p52, k53, (Fz.le_refl _), h.1.sub (.cons (k := 2) rfl (.cons (k := 3) rfl (.cons (k := 10) rfl (.cons (k := 13) rfl (.cons (k := 37) rfl (.cons (k := 38) rfl (.cons (k := 39) rfl (.nil _)))))))), h.2⟩⟩
      refine .block ?_
      refine .upR 1 (stays66 _19) l_92 rfl ?_
      exact .nil fun e a w h => by cases e; exact ⟨rfl, ⟨F_91, p93, k94, (Fz.le_trans l_78 l_92), h.1.sub (.cons (k := 2) rfl (.cons (k := 3) rfl (.cons (k := 10) rfl (.cons (k := 13) rfl (.cons (k := 37) rfl (.cons (k := 38) rfl (.cons (k := 39) rfl (.nil _)))))))), h.2⟩⟩
     refine .code ?_
     refine .region ?_
     refine .add rfl rfl rfl ?_
     refine .move rfl rfl ?_
     refine .nil ?_
     exact .nil (LPost.norm fun a w h => ⟨F_97, p99, k100, (Fz.le_trans l_51 l_98), h.1.sub (.cons (k := 2) rfl (.cons (k := 3) rfl (.cons (k := 10) rfl (.cons (k := 13) rfl (.cons (k := 37) rfl (.cons (k := 38) rfl (.cons (k := 39) rfl (.nil _)))))))), h.2⟩)
    ·skip
     refine .exitOut rfl (LPost.exit fun a w h => ⟨rfl, F_50, p52, k53, l_51, h.1.sub (.cons (k := 13) rfl (.nil _)), h.2⟩)
   ·intro b102 hb0 hk e a w hD
    obtain ⟨rfl, F_103, p105, k106, l_104, hA⟩ := hD
    refine interp_exit rfl (GE.app ?_ hk a w hA)
    refine .code ?_
    refine .seq ?_
    refine .region ?_
    refine .move rfl rfl ?_
    refine .assign rfl rfl ?_
    refine .assign rfl rfl ?_
    refine .nil ?_
    refine .code ?_
    refine .freezeSl 0 rfl (Fz.le_refl _) (fun F_108 l_109 h110 => ?_)
    exact .ret0 Try.results20 (.tmp rfl (.tmp rfl (.nil))) (i := 3) rfl (Fz.le_trans l_13 (Fz.le_trans l_17 (Fz.le_trans l_25 (Fz.le_trans l_39 (Fz.le_trans l_46 (Fz.le_trans l_104 l_109)))))) ⟨p105, k106, rfl, h110⟩
noncomputable def b_wormtubref11_Ints_1 (a1 : (List Int)) (b5 : (List Int)) (s10 : Int) : Option (Ctl (Int) ((Unit) ⊕ (Bool))) :=
 if (decide (s10 < (a1.length : Int))) then ((idxL a1 s10).bind fun x14 => (idxL b5 s10).bind fun x24 => if (x14 != x24) then (some (.done (.inr false))) else (bindv (w64 (s10 + 1)) fun i35 => some (.next i35))) else (some (.done (.inl ())))
noncomputable def m_wormtubref11_Ints (a1 : (List Int)) (b5 : (List Int)) : Option Bool :=
 if ((a1.length : Int) != (b5.length : Int)) then (some false) else ((loopM (b_wormtubref11_Ints_1 a1 b5) 0).bind fun b0 => match b0 with | .inl _b37 => (some true) | .inr b37 => (some b37))
theorem c_wormtubref11_Ints (F0 : Fz) (a1 : (List Int)) (p2 : Option Addr) (k3 : Nat) (h4 : RepSl 1 (Ex (cInt .i64)) F0 p2 k3 a1) (b5 : (List Int)) (p6 : Option Addr) (k7 : Nat) (h8 : RepSl 1 (Ex (cInt .i64)) F0 p6 k7 b5) : CT0 Try.prog 22 [(.slice p2 a1.length k3), (.slice p6 b5.length k7)].toArray F0 (m_wormtubref11_Ints a1 b5) (fun r _ v => v = (.bool r)) := by
 refine CT0.enter Try.func22 rfl Try.ntmps22 rfl fun r R => ?_
 unfold m_wormtubref11_Ints
 refine .seq ?_
 refine .region ?_
 refine .assign rfl rfl ?_
 refine .nil ?_
 refine .code ?_
 refine .seq ?_
 refine .seq ?_
 refine .region ?_
 refine .move rfl rfl ?_
 refine .lenS rfl rfl Try.underlying41 rfl ?_
 refine .move rfl rfl ?_
 refine .lenS rfl rfl Try.underlying41 rfl ?_
 refine .neq rfl rfl rfl ?_
 refine .nil ?_
 refine .code ?_
 refine .cond rfl (fun hb9 => ?_) (fun hb9 => ?_)
 ·skip
  refine .seq ?_
  refine .region ?_
  refine .assign rfl rfl ?_
  refine .nil ?_
  refine .code ?_
  exact .ret0 Try.results22 (.tmp rfl (.nil)) (i := 0) rfl (Fz.le_refl _) rfl
 ·skip
  refine .skip ?_
  refine .code ?_
  refine .seq ?_
  refine .seq ?_
  refine .region ?_
  refine .assign rfl rfl ?_
  refine .nil ?_
  refine .code ?_
  refine .block ?_
  refine .keep (.cons (k := 0) rfl (.cons (k := 1) rfl (.cons (k := 5) rfl (.nil _)))) ?_
  refine .loop (fun (s10 : Int) a w => ∃ (F_11 : Fz), F0 ≤ F_11 ∧ Hd 26 [] [(0, (.slice p2 a1.length k3)), (1, (.slice p6 b5.length k7)), (5, (.int .i64 s10))] F_11 [R] a w) (fun b0 e a w => match b0 with | .inl b37 => e = .exit 0 ∧ ∃ (F_38 : Fz), F0 ≤ F_38 ∧ Hd 26 [] [] F_38 [R] a w | .inr b37 => e = .ret ∧ ∃ (F_40 : Fz), F0 ≤ F_40 ∧ Hd 26 [] [(4, (.bool b37))] F_40 [R] a w) ?_ ?_ ?_
  ·exact fun a w h => ⟨F0, (Fz.le_refl _), h.1.sub (.cons (k := 0) rfl (.cons (k := 1) rfl (.cons (k := 5) rfl (.nil _)))), h.2⟩
  ·intro s10 ctl
   refine GC.ex (fun a w ⟨F_11, l_12, hA⟩ => ⟨_, hA, ?_⟩)
   unfold b_wormtubref11_Ints_1
   refine .seq ?_
   refine .seq ?_
   refine .region ?_
   refine .move rfl rfl ?_
   refine .move rfl rfl ?_
   refine .lenS rfl rfl Try.underlying41 rfl ?_
   refine .lss rfl rfl rfl ?_
   refine .nil ?_
   refine .code ?_
   refine .cond rfl (fun hb13 => ?_) (fun hb13 => ?_)
   ·skip
    refine .skip ?_
    refine .code ?_
    refine .seq ?_
    refine .block ?_
    refine .seq ?_
    refine .keep (.cons (k := 0) rfl (.cons (k := 1) rfl (.cons (k := 5) rfl (.nil _)))) ?_
    refine .drawZ 9 mixedOK (by kernel_rfl) ?_
    refine .move rfl rfl ?_
    refine .move rfl rfl ?_
    refine .idx rfl Try.underlying41 Try.sizeOf3 (h4.mono l_12) rfl rfl (fun x14 b15 o16 T17 fr18 cs19 e20 hm21 hv22 => ?_)
    refine .loadF rfl Try.isAgg3 rfl hm21 (cell_of_take (k := 0) hv22 rfl) ?_
    refine .move rfl rfl ?_
    refine .move rfl rfl ?_
    refine .idx rfl Try.underlying41 Try.sizeOf3 (h8.mono l_12) rfl rfl (fun x24 b25 o26 T27 fr28 cs29 e30 hm31 hv32 => ?_)
    refine .loadF rfl Try.isAgg3 rfl hm31 (cell_of_take (k := 0) hv32 rfl) ?_
    refine .neq rfl rfl rfl ?_
    refine .pend ?_
    refine .nil ?_
    refine .code ?_
    refine .cond rfl (fun hb34 => ?_) (fun hb34 => ?_)
    ·skip
     refine .seq ?_
     refine .region ?_
     refine .assign rfl rfl ?_
     refine .nil ?_
     refine .code ?_
     refine .retQ (LPost.ret fun a w h => ⟨rfl, F_11, l_12, h.1.sub (.cons (k := 4) rfl (.nil _)), h.2⟩)
    ·skip
     refine .skip ?_
     refine .block ?_
     refine .code ?_
     refine .region ?_
     refine .move rfl rfl ?_
     refine .add rfl rfl rfl ?_
     refine .assignL rfl rfl (fun i35 e36 => ?_)
     refine .nil ?_
     exact .nil (LPost.norm fun a w h => ⟨F_11, l_12, h.1.sub (.cons (k := 0) rfl (.cons (k := 1) rfl (.cons (k := 5) rfl (.nil _)))), h.2⟩)
   ·skip
    refine .exitOut rfl (LPost.exit fun a w h => ⟨rfl, F_11, l_12, h.1.sub (.nil _), h.2⟩)
  ·intro b37 hb0 hk e a w hD
   rcases b37 with b37 | b37
   ·skip
    obtain ⟨rfl, F_38, l_39, hA⟩ := hD
    refine interp_exit rfl (GE.app ?_ hk a w hA)
    refine .code ?_
    refine .seq ?_
    refine .region ?_
    refine .assign rfl rfl ?_
    refine .nil ?_
    refine .code ?_
    exact .ret0 Try.results22 (.tmp rfl (.nil)) (i := 0) rfl l_39 rfl
   obtain ⟨rfl, F_40, l_41, hA⟩ := hD
   exact interp_ret ((ret_post0 Try.results22 (.tmp rfl (.nil)) (i := 0) rfl l_41 rfl) hk a w hA)
noncomputable def m_wormtublaw11_sample  : Option (ApiDutyRules × (List ApiDutyEvent)) :=
 some ((ApiDutyRules.mk ([(ApiDutyRate.mk 0 2000), (ApiDutyRate.mk 100 3000)]) 10 50 200), [(ApiDutyEvent.mk 0 0 1 0 0 100000), (ApiDutyEvent.mk 1 20 1 2 7 40000), (ApiDutyEvent.mk 2 25 2 0 7 39700), (ApiDutyEvent.mk 1 50 1 2 8 10000), (ApiDutyEvent.mk 5 90 1 0 0 49000), (ApiDutyEvent.mk 3 100 2 0 0 10000)])
theorem c_wormtublaw11_sample (F0 : Fz)  : CT0 Try.prog 24 [].toArray F0 (m_wormtublaw11_sample) (fun r F v => ∃ (p0 : Option Addr) (k0 : Nat) (p1 : Option Addr) (k1 : Nat), v = .tuple #[(eApiDutyRules r.1 p0 k0), (.slice p1 r.2.length k1)] ∧ RepSl 2 (Ex cApiDutyRate) F p0 k0 r.1.Rates ∧ RepSl 6 (Ex cApiDutyEvent) F p1 k1 r.2) := by
 refine CT0.enter Try.func24 rfl Try.ntmps24 rfl fun r R => ?_
 unfold m_wormtublaw11_sample
 refine .seq ?_
 refine .region ?_
 refine .alloc (cs := (cApiDutyRules (ApiDutyRules.mk ([]) 0 0 0) none 0)) rfl Try.zeroValue24 rfl (fun b1 => ?_)
 refine .assign rfl rfl ?_
 refine .nil ?_
 refine .code ?_
 refine .seq ?_
 refine .region ?_
 refine .build (cs := (cApiDutyEvent (ApiDutyEvent.mk 0 0 1 0 0 100000)).toArray) rfl Try.underlying47 Try.zeroValue47 (plApiDutyEvent _ Try.underlying47) rfl rfl (by kernel_rfl) ?_
 refine .build (cs := (cApiDutyEvent (ApiDutyEvent.mk 1 20 1 2 7 40000)).toArray) rfl Try.underlying47 Try.zeroValue47 (plApiDutyEvent _ Try.underlying47) rfl rfl (by kernel_rfl) ?_
 refine .build (cs := (cApiDutyEvent (ApiDutyEvent.mk 2 25 2 0 7 39700)).toArray) rfl Try.underlying47 Try.zeroValue47 (plApiDutyEvent _ Try.underlying47) rfl rfl (by kernel_rfl) ?_
 refine .build (cs := (cApiDutyEvent (ApiDutyEvent.mk 1 50 1 2 8 10000)).toArray) rfl Try.underlying47 Try.zeroValue47 (plApiDutyEvent _ Try.underlying47) rfl rfl (by kernel_rfl) ?_
 refine .build (cs := (cApiDutyEvent (ApiDutyEvent.mk 5 90 1 0 0 49000)).toArray) rfl Try.underlying47 Try.zeroValue47 (plApiDutyEvent _ Try.underlying47) rfl rfl (by kernel_rfl) ?_
 refine .build (cs := (cApiDutyEvent (ApiDutyEvent.mk 3 100 2 0 0 10000)).toArray) rfl Try.underlying47 Try.zeroValue47 (plApiDutyEvent _ Try.underlying47) rfl rfl (by kernel_rfl) ?_
 refine .sliceLit (cs := [.int .i64 (ApiDutyEvent.mk 0 0 1 0 0 100000).Kind, .int .i64 (ApiDutyEvent.mk 0 0 1 0 0 100000).Day, .int .i64 (ApiDutyEvent.mk 0 0 1 0 0 100000).Bond, .int .i64 (ApiDutyEvent.mk 0 0 1 0 0 100000).To, .int .i64 (ApiDutyEvent.mk 0 0 1 0 0 100000).Id, .int .i64 (ApiDutyEvent.mk 0 0 1 0 0 100000).Amount, .int .i64 (ApiDutyEvent.mk 1 20 1 2 7 40000).Kind, .int .i64 (ApiDutyEvent.mk 1 20 1 2 7 40000).Day, .int .i64 (ApiDutyEvent.mk 1 20 1 2 7 40000).Bond, .int .i64 (ApiDutyEvent.mk 1 20 1 2 7 40000).To, .int .i64 (ApiDutyEvent.mk 1 20 1 2 7 40000).Id, .int .i64 (ApiDutyEvent.mk 1 20 1 2 7 40000).Amount, .int .i64 (ApiDutyEvent.mk 2 25 2 0 7 39700).Kind, .int .i64 (ApiDutyEvent.mk 2 25 2 0 7 39700).Day, .int .i64 (ApiDutyEvent.mk 2 25 2 0 7 39700).Bond, .int .i64 (ApiDutyEvent.mk 2 25 2 0 7 39700).To, .int .i64 (ApiDutyEvent.mk 2 25 2 0 7 39700).Id, .int .i64 (ApiDutyEvent.mk 2 25 2 0 7 39700).Amount, .int .i64 (ApiDutyEvent.mk 1 50 1 2 8 10000).Kind, .int .i64 (ApiDutyEvent.mk 1 50 1 2 8 10000).Day, .int .i64 (ApiDutyEvent.mk 1 50 1 2 8 10000).Bond, .int .i64 (ApiDutyEvent.mk 1 50 1 2 8 10000).To, .int .i64 (ApiDutyEvent.mk 1 50 1 2 8 10000).Id, .int .i64 (ApiDutyEvent.mk 1 50 1 2 8 10000).Amount, .int .i64 (ApiDutyEvent.mk 5 90 1 0 0 49000).Kind, .int .i64 (ApiDutyEvent.mk 5 90 1 0 0 49000).Day, .int .i64 (ApiDutyEvent.mk 5 90 1 0 0 49000).Bond, .int .i64 (ApiDutyEvent.mk 5 90 1 0 0 49000).To, .int .i64 (ApiDutyEvent.mk 5 90 1 0 0 49000).Id, .int .i64 (ApiDutyEvent.mk 5 90 1 0 0 49000).Amount, .int .i64 (ApiDutyEvent.mk 3 100 2 0 0 10000).Kind, .int .i64 (ApiDutyEvent.mk 3 100 2 0 0 10000).Day, .int .i64 (ApiDutyEvent.mk 3 100 2 0 0 10000).Bond, .int .i64 (ApiDutyEvent.mk 3 100 2 0 0 10000).To, .int .i64 (ApiDutyEvent.mk 3 100 2 0 0 10000).Id, .int .i64 (ApiDutyEvent.mk 3 100 2 0 0 10000).Amount]) (zc := [.int .i64 (ApiDutyEvent.mk 0 0 0 0 0 0).Kind, .int .i64 (ApiDutyEvent.mk 0 0 0 0 0 0).Day, .int .i64 (ApiDutyEvent.mk 0 0 0 0 0 0).Bond, .int .i64 (ApiDutyEvent.mk 0 0 0 0 0 0).To, .int .i64 (ApiDutyEvent.mk 0 0 0 0 0 0).Id, .int .i64 (ApiDutyEvent.mk 0 0 0 0 0 0).Amount, .int .i64 (ApiDutyEvent.mk 0 0 0 0 0 0).Kind, .int .i64 (ApiDutyEvent.mk 0 0 0 0 0 0).Day, .int .i64 (ApiDutyEvent.mk 0 0 0 0 0 0).Bond, .int .i64 (ApiDutyEvent.mk 0 0 0 0 0 0).To, .int .i64 (ApiDutyEvent.mk 0 0 0 0 0 0).Id, .int .i64 (ApiDutyEvent.mk 0 0 0 0 0 0).Amount, .int .i64 (ApiDutyEvent.mk 0 0 0 0 0 0).Kind, .int .i64 (ApiDutyEvent.mk 0 0 0 0 0 0).Day, .int .i64 (ApiDutyEvent.mk 0 0 0 0 0 0).Bond, .int .i64 (ApiDutyEvent.mk 0 0 0 0 0 0).To, .int .i64 (ApiDutyEvent.mk 0 0 0 0 0 0).Id, .int .i64 (ApiDutyEvent.mk 0 0 0 0 0 0).Amount, .int .i64 (ApiDutyEvent.mk 0 0 0 0 0 0).Kind, .int .i64 (ApiDutyEvent.mk 0 0 0 0 0 0).Day, .int .i64 (ApiDutyEvent.mk 0 0 0 0 0 0).Bond, .int .i64 (ApiDutyEvent.mk 0 0 0 0 0 0).To, .int .i64 (ApiDutyEvent.mk 0 0 0 0 0 0).Id, .int .i64 (ApiDutyEvent.mk 0 0 0 0 0 0).Amount, .int .i64 (ApiDutyEvent.mk 0 0 0 0 0 0).Kind, .int .i64 (ApiDutyEvent.mk 0 0 0 0 0 0).Day, .int .i64 (ApiDutyEvent.mk 0 0 0 0 0 0).Bond, .int .i64 (ApiDutyEvent.mk 0 0 0 0 0 0).To, .int .i64 (ApiDutyEvent.mk 0 0 0 0 0 0).Id, .int .i64 (ApiDutyEvent.mk 0 0 0 0 0 0).Amount, .int .i64 (ApiDutyEvent.mk 0 0 0 0 0 0).Kind, .int .i64 (ApiDutyEvent.mk 0 0 0 0 0 0).Day, .int .i64 (ApiDutyEvent.mk 0 0 0 0 0 0).Bond, .int .i64 (ApiDutyEvent.mk 0 0 0 0 0 0).To, .int .i64 (ApiDutyEvent.mk 0 0 0 0 0 0).Id, .int .i64 (ApiDutyEvent.mk 0 0 0 0 0 0).Amount]) rfl Try.underlying25 Try.sizeOf47 Try.zeroValue47 rfl rfl rfl (by kernel_rfl) (by kernel_rfl) (fun b2 F_3 l_4 hb5 => ?_)
 have h6 : RepSl 6 (Ex cApiDutyEvent) F_3 (some ⟨b2, 0, none⟩) 6 ([(ApiDutyEvent.mk 0 0 1 0 0 100000), (ApiDutyEvent.mk 1 20 1 2 7 40000), (ApiDutyEvent.mk 2 25 2 0 7 39700), (ApiDutyEvent.mk 1 50 1 2 8 10000), (ApiDutyEvent.mk 5 90 1 0 0 49000), (ApiDutyEvent.mk 3 100 2 0 0 10000)]) := RepSl.ofRow hb5 (.cons ok_t47.mono rfl (.cons ok_t47.mono rfl (.cons ok_t47.mono rfl (.cons ok_t47.mono rfl (.cons ok_t47.mono rfl (.cons ok_t47.mono rfl .nil)))))) rfl rfl
 refine .assign rfl rfl ?_
 refine .nil ?_
 refine .code ?_
 refine .seq ?_
 refine .region ?_
 refine .build (cs := (cApiDutyRate (ApiDutyRate.mk 0 2000)).toArray) rfl Try.underlying53 Try.zeroValue53 (plApiDutyRate _ Try.underlying53) rfl rfl (by kernel_rfl) ?_
 refine .build (cs := (cApiDutyRate (ApiDutyRate.mk 100 3000)).toArray) rfl Try.underlying53 Try.zeroValue53 (plApiDutyRate _ Try.underlying53) rfl rfl (by kernel_rfl) ?_
 refine .sliceLit (cs := [.int .i64 (ApiDutyRate.mk 0 2000).From, .int .i64 (ApiDutyRate.mk 0 2000).Rate, .int .i64 (ApiDutyRate.mk 100 3000).From, .int .i64 (ApiDutyRate.mk 100 3000).Rate]) (zc := [.int .i64 (ApiDutyRate.mk 0 0).From, .int .i64 (ApiDutyRate.mk 0 0).Rate, .int .i64 (ApiDutyRate.mk 0 0).From, .int .i64 (ApiDutyRate.mk 0 0).Rate]) rfl Try.underlying22 Try.sizeOf53 Try.zeroValue53 rfl rfl rfl (by kernel_rfl) (by kernel_rfl) (fun b7 F_8 l_9 hb10 => ?_)
 have h11 : RepSl 2 (Ex cApiDutyRate) F_8 (some ⟨b7, 0, none⟩) 2 ([(ApiDutyRate.mk 0 2000), (ApiDutyRate.mk 100 3000)]) := RepSl.ofRow hb10 (.cons ok_t53.mono rfl (.cons ok_t53.mono rfl .nil)) rfl rfl
 refine .build (cs := (cApiDutyRules (ApiDutyRules.mk ([(ApiDutyRate.mk 0 2000), (ApiDutyRate.mk 100 3000)]) 10 50 200) (some ⟨b7, 0, none⟩) 2).toArray) rfl Try.underlying24 Try.zeroValue24 (plApiDutyRules _ Try.underlying24) rfl rfl (by kernel_rfl) ?_
 refine .move rfl rfl ?_
 refine .store (cs' := (cApiDutyRules (ApiDutyRules.mk ([(ApiDutyRate.mk 0 2000), (ApiDutyRate.mk 100 3000)]) 10 50 200) (some ⟨b7, 0, none⟩) 2)) Try.sizeOf24 rfl rfl rfl rfl (i := 0) rfl (Nat.le_of_ble_eq_true rfl) rfl (setMany_all (by rfl)) ?_
 refine .assign rfl rfl ?_
 refine .nil ?_
 refine .code ?_
 exact .ret0 Try.results24 (.agg rfl Try.isAgg24 Try.sizeOf24 (i := 0) rfl (vs' := (cApiDutyRules (ApiDutyRules.mk ([(ApiDutyRate.mk 0 2000), (ApiDutyRate.mk 100 3000)]) 10 50 200) (some ⟨b7, 0, none⟩) 2)) (by kernel_rfl) rfl (.tmp rfl (.nil))) (i := 1) rfl (Fz.le_trans l_4 l_9) ⟨(some ⟨b7, 0, none⟩), 2, (some ⟨b2, 0, none⟩), 6, rfl, h11, (h6.mono l_9)⟩
noncomputable def m_wormtublaw11_awake  : Option Bool :=
 (m_wormtublaw11_sample).bind fun r_3 => (m_excise_Duty r_3.1 1999 100).bind fun r_13 => (m_excise_Play r_3.1 r_3.2 90).bind fun r_16 => (m_excise_Return r_3.1 r_3.2 26 99).bind fun r_23 => (m_excise_Late r_3.1 r_3.2 55 6).bind fun r_26 => if ((((((((((r_13.1 != 5997) || (r_13.2 != 0)) || ((r_16.1.Bonds 1) != 49000)) || ((r_16.1.Bonds 2) != 39700)) || (r_16.1.Lost != 517)) || (r_16.1.Charged != 783)) || (r_16.1.Used != 10000)) || (r_16.1.Due != 21566)) || (r_16.2.1 != 5)) || (r_16.2.2 != 0)) then (some false) else ((if (((r_23.1 == 21366) && (r_23.2.1 == 0)) && (r_23.2.2 == 0)) then ((m_wormtubref11_Ints r_26.1 ([8])).bind fun r_83 => some r_83) else some false).bind fun z87 => some (z87 && (r_26.2 == 0)))
theorem c_wormtublaw11_awake (F0 : Fz)  : CT0 Try.prog 12 [].toArray F0 (m_wormtublaw11_awake) (fun r _ v => v = (.bool r)) := by
 refine CT0.enter Try.func12 rfl Try.ntmps12 rfl fun r R => ?_
 unfold m_wormtublaw11_awake
 refine .seq ?_
 refine .region ?_
 refine .assign rfl rfl ?_
 refine .nil ?_
 refine .code ?_
 refine .seq ?_
 refine .region ?_
 refine .call0 rfl Try.call24 rfl rfl rfl (c_wormtublaw11_sample _ ) ?_
 rintro r_3 F_1 _ - l_2 ⟨p4, k5, p7, k8, rfl, h6, h9⟩
 refine .move rfl rfl ?_
 refine .extract rfl rfl rfl ?_
 refine .extract rfl rfl rfl ?_
 refine .alloc (cs := (cApiDutyRules (ApiDutyRules.mk ([]) 0 0 0) none 0)) rfl Try.zeroValue24 rfl (fun b10 => ?_)
 refine .store (cs' := (cApiDutyRules r_3.1 p4 k5)) Try.sizeOf24 rfl rfl rfl rfl (i := 0) rfl (Nat.le_of_ble_eq_true rfl) rfl (setMany_all (by rfl)) ?_
 refine .assign rfl rfl ?_
 refine .nil ?_
 refine .code ?_
 refine .seq ?_
 refine .region ?_
 refine .loadOA rfl Try.isAgg24 Try.sizeOf24 rfl (i := 0) rfl (vs := (cApiDutyRules r_3.1 p4 k5)) (by kernel_rfl) rfl ?_
 refine .call0 rfl Try.call15 rfl rfl rfl (c_excise_Duty _ r_3.1 p4 k5 h6 1999 100) ?_
 rintro r_13 F_11 _ - l_12 rfl
 refine .move rfl rfl ?_
 refine .extract rfl rfl rfl ?_
 refine .extract rfl rfl rfl ?_
 refine .assign rfl rfl ?_
 refine .assign rfl rfl ?_
 refine .nil ?_
 refine .code ?_
 refine .seq ?_
 refine .region ?_
 refine .loadOA rfl Try.isAgg24 Try.sizeOf24 rfl (i := 0) rfl (vs := (cApiDutyRules r_3.1 p4 k5)) (by kernel_rfl) rfl ?_
 refine .move rfl rfl ?_
 refine .call0 rfl Try.call13 rfl rfl rfl (c_excise_Play _ r_3.1 p4 k5 (h6.mono l_12) r_3.2 p7 k8 (h9.mono l_12) 90) ?_
 rintro r_16 F_14 _ - l_15 ⟨p17, k18, rfl, h19⟩
 refine .move rfl rfl ?_
 refine .extract rfl rfl rfl ?_
 refine .extract rfl rfl rfl ?_
 refine .extract rfl rfl rfl ?_
 refine .alloc (cs := (cApiDutyBook (ApiDutyBook.mk (fun _ => 0) ([]) 0 0 0 0 0 0 0 0) none 0)) rfl Try.zeroValue31 rfl (fun b20 => ?_)
 refine .store (cs' := (cApiDutyBook r_16.1 p17 k18)) Try.sizeOf31 rfl rfl rfl rfl (i := 0) rfl (Nat.le_of_ble_eq_true rfl) rfl (setMany_all (by rfl)) ?_
 refine .assign rfl rfl ?_
 refine .assign rfl rfl ?_
 refine .nil ?_
 refine .code ?_
 refine .seq ?_
 refine .region ?_
 refine .loadOA rfl Try.isAgg24 Try.sizeOf24 rfl (i := 1) rfl (vs := (cApiDutyRules r_3.1 p4 k5)) (by kernel_rfl) rfl ?_
 refine .move rfl rfl ?_
 refine .call0 rfl Try.call18 rfl rfl rfl (c_excise_Return _ r_3.1 p4 k5 (h6.mono (Fz.le_trans l_12 l_15)) r_3.2 p7 k8 (h9.mono (Fz.le_trans l_12 l_15)) 26 99) ?_
 rintro r_23 F_21 _ - l_22 rfl
 refine .move rfl rfl ?_
 refine .extract rfl rfl rfl ?_
 refine .extract rfl rfl rfl ?_
 refine .extract rfl rfl rfl ?_
 refine .assign rfl rfl ?_
 refine .assign rfl rfl ?_
 refine .assign rfl rfl ?_
 refine .nil ?_
 refine .keep (.cons (k := 1) rfl (.cons (k := 2) rfl (.cons (k := 3) rfl (.cons (k := 4) rfl (.cons (k := 5) rfl (.cons (k := 6) rfl (.cons (k := 7) rfl (.cons (k := 8) rfl (.cons (k := 9) rfl (.cons (k := 10) rfl (.nil _))))))))))) ?_
 refine .code ?_
 refine .seq ?_
 refine .region ?_
 refine .loadOA rfl Try.isAgg24 Try.sizeOf24 rfl (i := 1) rfl (vs := (cApiDutyRules r_3.1 p4 k5)) (by kernel_rfl) rfl ?_
 refine .move rfl rfl ?_
 refine .call0 rfl Try.call20 rfl rfl rfl (c_excise_Late _ r_3.1 p4 k5 (h6.mono (Fz.le_trans l_12 (Fz.le_trans l_15 l_22))) r_3.2 p7 k8 (h9.mono (Fz.le_trans l_12 (Fz.le_trans l_15 l_22))) 55 6) ?_
 rintro r_26 F_24 _ - l_25 ⟨p27, k28, rfl, h29⟩
 refine .move rfl rfl ?_
 refine .extract rfl rfl rfl ?_
 refine .extract rfl rfl rfl ?_
 refine .assign rfl rfl ?_
 refine .assign rfl rfl ?_
 refine .nil ?_
 refine .code ?_
 refine .seq ?_
 refine .seq ?_
 refine .region ?_
 refine .move rfl rfl ?_
 refine .neq rfl rfl rfl ?_
 refine .move rfl rfl ?_
 refine .orP (b := (r_13.1 != 5997)) (b' := (r_13.2 != 0)) 3 47 (fun hb30 => ?_) (fun hb31 => ?_) (fun F_32 l_33 => ?_)
 ·skip
  refine .onH hb30 rfl rfl ?_
  refine .move rfl rfl ?_
  refine .onH hb30 rfl rfl ?_
  refine .neq rfl rfl rfl ?_
  refine .pickFH hb30 rfl rfl rfl ?_
  exact .fin 3 rfl rfl (by kernel_rfl) (Fz.le_refl _)
 ·skip
  refine .offH hb31 rfl rfl rfl ?_
  refine .offH hb31 rfl rfl rfl ?_
  refine .pickTH hb31 rfl rfl rfl ?_
  exact .fin 3 rfl rfl (by kernel_rfl) (Fz.le_refl _)
 refine .move rfl rfl ?_
 refine .orP (b := ((r_13.1 != 5997) || (r_13.2 != 0))) (b' := ((r_16.1.Bonds 1) != 49000)) 5 53 (fun hb34 => ?_) (fun hb35 => ?_) (fun F_36 l_37 => ?_)
 ·skip
  refine .onH hb34 rfl rfl ?_
  refine .fieldAddr rfl Try.underlying31 rfl Try.sizeOf28 rfl ?_
  refine .onH hb34 rfl rfl ?_
  refine .indexAddrA rfl Try.underlying28 Try.sizeOf3 rfl rfl (j := 1) rfl ?_
  refine .onH hb34 rfl rfl ?_
  refine .loadO rfl Try.isAgg3 rfl (i := 0) rfl rfl ?_
  refine .onH hb34 rfl rfl ?_
  refine .neq rfl rfl rfl ?_
  refine .pickFH hb34 rfl rfl rfl ?_
  exact .fin 5 rfl rfl (by kernel_rfl) (Fz.le_refl _)
 ·skip
  refine .offH hb35 rfl rfl rfl ?_
  refine .offH hb35 rfl rfl rfl ?_
  refine .offH hb35 rfl rfl rfl ?_
  refine .offH hb35 rfl rfl rfl ?_
  refine .pickTH hb35 rfl rfl rfl ?_
  exact .fin 5 rfl rfl (by kernel_rfl) (Fz.le_refl _)
 refine .move rfl rfl ?_
 refine .orP (b := (((r_13.1 != 5997) || (r_13.2 != 0)) || ((r_16.1.Bonds 1) != 49000))) (b' := ((r_16.1.Bonds 2) != 39700)) 5 59 (fun hb38 => ?_) (fun hb39 => ?_) (fun F_40 l_41 => ?_)
 ·skip
  refine .onH hb38 rfl rfl ?_
  refine .fieldAddr rfl Try.underlying31 rfl Try.sizeOf28 rfl ?_
  refine .onH hb38 rfl rfl ?_
  refine .indexAddrA rfl Try.underlying28 Try.sizeOf3 rfl rfl (j := 2) rfl ?_
  refine .onH hb38 rfl rfl ?_
  refine .loadO rfl Try.isAgg3 rfl (i := 0) rfl rfl ?_
  refine .onH hb38 rfl rfl ?_
  refine .neq rfl rfl rfl ?_
  refine .pickFH hb38 rfl rfl rfl ?_
  exact .fin 5 rfl rfl (by kernel_rfl) (Fz.le_refl _)
 ·skip
  refine .offH hb39 rfl rfl rfl ?_
  refine .offH hb39 rfl rfl rfl ?_
  refine .offH hb39 rfl rfl rfl ?_
  refine .offH hb39 rfl rfl rfl ?_
  refine .pickTH hb39 rfl rfl rfl ?_
  exact .fin 5 rfl rfl (by kernel_rfl) (Fz.le_refl _)
 refine .move rfl rfl ?_
 refine .orP (b := ((((r_13.1 != 5997) || (r_13.2 != 0)) || ((r_16.1.Bonds 1) != 49000)) || ((r_16.1.Bonds 2) != 39700))) (b' := (r_16.1.Lost != 517)) 4 64 (fun hb42 => ?_) (fun hb43 => ?_) (fun F_44 l_45 => ?_)
 ·skip
  refine .onH hb42 rfl rfl ?_
  refine .fieldAddr rfl Try.underlying31 rfl Try.sizeOf3 rfl ?_
  refine .onH hb42 rfl rfl ?_
  refine .loadO rfl Try.isAgg3 rfl (i := 0) rfl rfl ?_
  refine .onH hb42 rfl rfl ?_
  refine .neq rfl rfl rfl ?_
  refine .pickFH hb42 rfl rfl rfl ?_
  exact .fin 4 rfl rfl (by kernel_rfl) (Fz.le_refl _)
 ·skip
  refine .offH hb43 rfl rfl rfl ?_
  refine .offH hb43 rfl rfl rfl ?_
  refine .offH hb43 rfl rfl rfl ?_
  refine .pickTH hb43 rfl rfl rfl ?_
  exact .fin 4 rfl rfl (by kernel_rfl) (Fz.le_refl _)
 refine .move rfl rfl ?_
 refine .orP (b := (((((r_13.1 != 5997) || (r_13.2 != 0)) || ((r_16.1.Bonds 1) != 49000)) || ((r_16.1.Bonds 2) != 39700)) || (r_16.1.Lost != 517))) (b' := (r_16.1.Charged != 783)) 4 69 (fun hb46 => ?_) (fun hb47 => ?_) (fun F_48 l_49 => ?_)
 ·skip
  refine .onH hb46 rfl rfl ?_
  refine .fieldAddr rfl Try.underlying31 rfl Try.sizeOf3 rfl ?_
  refine .onH hb46 rfl rfl ?_
  refine .loadO rfl Try.isAgg3 rfl (i := 0) rfl rfl ?_
  refine .onH hb46 rfl rfl ?_
  refine .neq rfl rfl rfl ?_
  refine .pickFH hb46 rfl rfl rfl ?_
  exact .fin 4 rfl rfl (by kernel_rfl) (Fz.le_refl _)
 ·skip
  refine .offH hb47 rfl rfl rfl ?_
  refine .offH hb47 rfl rfl rfl ?_
  refine .offH hb47 rfl rfl rfl ?_
  refine .pickTH hb47 rfl rfl rfl ?_
  exact .fin 4 rfl rfl (by kernel_rfl) (Fz.le_refl _)
 refine .move rfl rfl ?_
 refine .orP (b := ((((((r_13.1 != 5997) || (r_13.2 != 0)) || ((r_16.1.Bonds 1) != 49000)) || ((r_16.1.Bonds 2) != 39700)) || (r_16.1.Lost != 517)) || (r_16.1.Charged != 783))) (b' := (r_16.1.Used != 10000)) 4 74 (fun hb50 => ?_) (fun hb51 => ?_) (fun F_52 l_53 => ?_)
 ·skip
  refine .onH hb50 rfl rfl ?_
  refine .fieldAddr rfl Try.underlying31 rfl Try.sizeOf3 rfl ?_
  refine .onH hb50 rfl rfl ?_
  refine .loadO rfl Try.isAgg3 rfl (i := 0) rfl rfl ?_
  refine .onH hb50 rfl rfl ?_
  refine .neq rfl rfl rfl ?_
  refine .pickFH hb50 rfl rfl rfl ?_
  exact .fin 4 rfl rfl (by kernel_rfl) (Fz.le_refl _)
 ·skip
  refine .offH hb51 rfl rfl rfl ?_
  refine .offH hb51 rfl rfl rfl ?_
  refine .offH hb51 rfl rfl rfl ?_
  refine .pickTH hb51 rfl rfl rfl ?_
  exact .fin 4 rfl rfl (by kernel_rfl) (Fz.le_refl _)
 refine .move rfl rfl ?_
 refine .orP (b := (((((((r_13.1 != 5997) || (r_13.2 != 0)) || ((r_16.1.Bonds 1) != 49000)) || ((r_16.1.Bonds 2) != 39700)) || (r_16.1.Lost != 517)) || (r_16.1.Charged != 783)) || (r_16.1.Used != 10000))) (b' := (r_16.1.Due != 21566)) 4 79 (fun hb54 => ?_) (fun hb55 => ?_) (fun F_56 l_57 => ?_)
 ·skip
  refine .onH hb54 rfl rfl ?_
  refine .fieldAddr rfl Try.underlying31 rfl Try.sizeOf3 rfl ?_
  refine .onH hb54 rfl rfl ?_
  refine .loadO rfl Try.isAgg3 rfl (i := 0) rfl rfl ?_
  refine .onH hb54 rfl rfl ?_
  refine .neq rfl rfl rfl ?_
  refine .pickFH hb54 rfl rfl rfl ?_
  exact .fin 4 rfl rfl (by kernel_rfl) (Fz.le_refl _)
 ·skip
  refine .offH hb55 rfl rfl rfl ?_
  refine .offH hb55 rfl rfl rfl ?_
  refine .offH hb55 rfl rfl rfl ?_
  refine .pickTH hb55 rfl rfl rfl ?_
  exact .fin 4 rfl rfl (by kernel_rfl) (Fz.le_refl _)
 refine .move rfl rfl ?_
 refine .orP (b := ((((((((r_13.1 != 5997) || (r_13.2 != 0)) || ((r_16.1.Bonds 1) != 49000)) || ((r_16.1.Bonds 2) != 39700)) || (r_16.1.Lost != 517)) || (r_16.1.Charged != 783)) || (r_16.1.Used != 10000)) || (r_16.1.Due != 21566))) (b' := (r_16.2.1 != 5)) 3 83 (fun hb58 => ?_) (fun hb59 => ?_) (fun F_60 l_61 => ?_)
 ·skip
  refine .onH hb58 rfl rfl ?_
  refine .move rfl rfl ?_
  refine .onH hb58 rfl rfl ?_
  refine .neq rfl rfl rfl ?_
  refine .pickFH hb58 rfl rfl rfl ?_
  exact .fin 3 rfl rfl (by kernel_rfl) (Fz.le_refl _)
 ·skip
  refine .offH hb59 rfl rfl rfl ?_
  refine .offH hb59 rfl rfl rfl ?_
  refine .pickTH hb59 rfl rfl rfl ?_
  exact .fin 3 rfl rfl (by kernel_rfl) (Fz.le_refl _)
 refine .move rfl rfl ?_
 refine .orP (b := (((((((((r_13.1 != 5997) || (r_13.2 != 0)) || ((r_16.1.Bonds 1) != 49000)) || ((r_16.1.Bonds 2) != 39700)) || (r_16.1.Lost != 517)) || (r_16.1.Charged != 783)) || (r_16.1.Used != 10000)) || (r_16.1.Due != 21566)) || (r_16.2.1 != 5))) (b' := (r_16.2.2 != 0)) 3 87 (fun hb62 => ?_) (fun hb63 => ?_) (fun F_64 l_65 => ?_)
 ·skip
  refine .onH hb62 rfl rfl ?_
  refine .move rfl rfl ?_
  refine .onH hb62 rfl rfl ?_
  refine .neq rfl rfl rfl ?_
  refine .pickFH hb62 rfl rfl rfl ?_
  exact .fin 3 rfl rfl (by kernel_rfl) (Fz.le_refl _)
 ·skip
  refine .offH hb63 rfl rfl rfl ?_
  refine .offH hb63 rfl rfl rfl ?_
  refine .pickTH hb63 rfl rfl rfl ?_
  exact .fin 3 rfl rfl (by kernel_rfl) (Fz.le_refl _)
 refine .nil ?_
 refine .keep (.cons (k := 8) rfl (.cons (k := 9) rfl (.cons (k := 10) rfl (.cons (k := 11) rfl (.cons (k := 12) rfl (.cons (k := 87) rfl (.nil _))))))) ?_
 refine .code ?_
 refine .cond rfl (fun hb66 => ?_) (fun hb66 => ?_)
 ·skip
  refine .seq ?_
  refine .region ?_
  refine .assign rfl rfl ?_
  refine .nil ?_
  refine .code ?_
  exact .ret0 Try.results12 (.tmp rfl (.nil)) (i := 2) rfl (Fz.le_trans l_2 (Fz.le_trans l_12 (Fz.le_trans l_15 (Fz.le_trans l_22 (Fz.le_trans l_25 (Fz.le_trans l_33 (Fz.le_trans l_37 (Fz.le_trans l_41 (Fz.le_trans l_45 (Fz.le_trans l_49 (Fz.le_trans l_53 (Fz.le_trans l_57 (Fz.le_trans l_61 l_65))))))))))))) rfl
 ·skip
  refine .skip ?_
  refine .code ?_
  refine .seq ?_
  refine .region ?_
  refine .move rfl rfl ?_
  refine .eql rfl rfl rfl ?_
  refine .move rfl rfl ?_
  refine .andP (b := (r_23.1 == 21366)) (b' := (r_23.2.1 == 0)) 3 93 (fun hb67 => ?_) (fun hb68 => ?_) (fun F_69 l_70 => ?_)
  ·skip
   refine .onH hb67 rfl rfl ?_
   refine .move rfl rfl ?_
   refine .onH hb67 rfl rfl ?_
   refine .eql rfl rfl rfl ?_
   refine .pickTH hb67 rfl rfl rfl ?_
   exact .fin 3 rfl rfl (by kernel_rfl) (Fz.le_refl _)
  ·skip
   refine .offH hb68 rfl rfl rfl ?_
   refine .offH hb68 rfl rfl rfl ?_
   refine .pickFH hb68 rfl rfl rfl ?_
   exact .fin 3 rfl rfl (by kernel_rfl) (Fz.le_refl _)
  refine .move rfl rfl ?_
  refine .andP (b := ((r_23.1 == 21366) && (r_23.2.1 == 0))) (b' := (r_23.2.2 == 0)) 3 97 (fun hb71 => ?_) (fun hb72 => ?_) (fun F_73 l_74 => ?_)
  ·skip
   refine .onH hb71 rfl rfl ?_
   refine .move rfl rfl ?_
   refine .onH hb71 rfl rfl ?_
   refine .eql rfl rfl rfl ?_
   refine .pickTH hb71 rfl rfl rfl ?_
   exact .fin 3 rfl rfl (by kernel_rfl) (Fz.le_refl _)
  ·skip
   refine .offH hb72 rfl rfl rfl ?_
   refine .offH hb72 rfl rfl rfl ?_
   refine .pickFH hb72 rfl rfl rfl ?_
   exact .fin 3 rfl rfl (by kernel_rfl) (Fz.le_refl _)
  refine .move rfl rfl ?_
  refine .andM (b := (((r_23.1 == 21366) && (r_23.2.1 == 0)) && (r_23.2.2 == 0))) 4 102 (fun hb75 z88 => ?_) (fun hb84 => ?_) (fun z87 F_85 l_86 => ?_)
  ·skip
   refine .onH hb75 rfl rfl ?_
   refine .move rfl rfl ?_
   refine .onH hb75 rfl rfl ?_
   refine .sliceLit (cs := [.int .i64 8]) (zc := [.int .i64 0]) rfl Try.underlying41 Try.sizeOf3 Try.zeroValue3 rfl rfl rfl (by kernel_rfl) (by kernel_rfl) (fun b76 F_77 l_78 hb79 => ?_)
   have h80 : RepSl 1 (Ex (cInt .i64)) F_77 (some ⟨b76, 0, none⟩) 1 ([8]) := RepSl.ofRow hb79 (.cons ok_t3.mono rfl .nil) rfl rfl
   refine .onH hb75 rfl rfl ?_
   refine .call0 rfl Try.call22 rfl rfl rfl (c_wormtubref11_Ints _ r_26.1 p27 k28 (h29.mono (Fz.le_trans l_33 (Fz.le_trans l_37 (Fz.le_trans l_41 (Fz.le_trans l_45 (Fz.le_trans l_49 (Fz.le_trans l_53 (Fz.le_trans l_57 (Fz.le_trans l_61 (Fz.le_trans l_65 (Fz.le_trans l_70 (Fz.le_trans l_74 l_78)))))))))))) ([8]) (some ⟨b76, 0, none⟩) 1 h80) ?_
   rintro r_83 F_81 _ - l_82 rfl
   refine .pickTH hb75 rfl rfl rfl ?_
   exact .finZ 4 rfl rfl (by kernel_rfl) (Fz.le_trans l_78 l_82)
  ·skip
   refine .offH hb84 rfl rfl rfl ?_
   refine .offH hb84 rfl rfl rfl ?_
   refine .offH hb84 rfl rfl rfl ?_
   refine .pickFH hb84 rfl rfl rfl ?_
   exact .fin 4 rfl rfl (by kernel_rfl) (Fz.le_refl _)
  refine .move rfl rfl ?_
  refine .andP (b := z87) (b' := (r_26.2 == 0)) 3 106 (fun hb89 => ?_) (fun hb90 => ?_) (fun F_91 l_92 => ?_)
  ·skip
   refine .onH hb89 rfl rfl ?_
   refine .move rfl rfl ?_
   refine .onH hb89 rfl rfl ?_
   refine .eql rfl rfl rfl ?_
   refine .pickTH hb89 rfl rfl rfl ?_
   exact .fin 3 rfl rfl (by kernel_rfl) (Fz.le_refl _)
  ·skip
   refine .offH hb90 rfl rfl rfl ?_
   refine .offH hb90 rfl rfl rfl ?_
   refine .pickFH hb90 rfl rfl rfl ?_
   exact .fin 3 rfl rfl (by kernel_rfl) (Fz.le_refl _)
  refine .assign rfl rfl ?_
  refine .nil ?_
  refine .code ?_
  exact .ret0 Try.results12 (.tmp rfl (.nil)) (i := 2) rfl (Fz.le_trans l_2 (Fz.le_trans l_12 (Fz.le_trans l_15 (Fz.le_trans l_22 (Fz.le_trans l_25 (Fz.le_trans l_33 (Fz.le_trans l_37 (Fz.le_trans l_41 (Fz.le_trans l_45 (Fz.le_trans l_49 (Fz.le_trans l_53 (Fz.le_trans l_57 (Fz.le_trans l_61 (Fz.le_trans l_65 (Fz.le_trans l_70 (Fz.le_trans l_74 (Fz.le_trans l_86 l_92))))))))))))))))) rfl
end Go.Proofs.Ytadpjmaaokkhjaa
end

section
namespace Go.Proofs.Ytadpjmaaokkhjaa
open Go.Dec
variable {r : Rul} {n : Nat} {t d day : Int} {s : Acc} {x : Ev} {p : ApiParcel} {A1 : List ExciseOffice} {A2 : PM} {A3 : KM}
abbrev Deed := (List ExciseOffice × PM × KM × Ev) → Option OutP
theorem deeds_some : ∃ D : Nat → Deed, m_excise_office_deeds (some 0) = some D ∧ ∀ (x : Ev), evB x = true → ∃ j, idxO 7 x.Kind = some j ∧
    ∀ {r : Rul} {n : Nat} {t : Int} {s : Acc} {A1 : List ExciseOffice} {A2 : PM} {A3 : KM}, RulOk r → SOk r n t s → n ≤ 1000 → 0 ≤ t → t ≤ 65536 → PR r t s A1 A2 A3 → x.Day = t → Does r t (doS r s x) (D j (A1, A2, A3, x)) := by
  refine ⟨_, rfl, fun x he => ?_⟩
  have ix : ∀ {k : Nat}, k < 7 → x.Kind = (k : Int) → idxO 7 x.Kind = some k := fun hk e => by rw [e]; exact idxO_nat hk
  rcases ev_kinds he with k | k | k | k | k | k | k
  · refine ⟨0, ix (by omega) k, fun hr h hn h0 ht hp hday => ?_⟩
    have := distil_prog h hn hp he k
    unfold doS; rw [k]; exact this
  · refine ⟨1, ix (by omega) k, fun hr h hn h0 ht hp hday => ?_⟩
    have := send_prog h hp he k
    unfold doS; rw [k]; exact this
  · refine ⟨2, ix (by omega) k, fun hr h hn h0 ht hp hday => ?_⟩
    have := receive_prog hr h hn h0 hp he k hday
    unfold doS; rw [k]; exact this
  · refine ⟨3, ix (by omega) k, fun hr h hn h0 ht hp hday => ?_⟩
    have := release_prog hr h hn hp he k
    unfold doS; rw [k]; exact this
  · refine ⟨4, ix (by omega) k, fun hr h hn h0 ht hp hday => ?_⟩
    have := export_prog h hn hp he k
    unfold doS; rw [k]; exact this
  · refine ⟨5, ix (by omega) k, fun hr h hn h0 ht hp hday => ?_⟩
    have := take_prog hr h hn h0 ht hp he k hday
    unfold doS; rw [k]; exact this
  · refine ⟨6, ix (by omega) k, fun hr h hn h0 ht hp hday => ?_⟩
    have := pay_prog h hn hp he k
    unfold doS; rw [k]; exact this
def GoOK (r : Rul) (out : (Cur ⊕ Int) × Nat) (q : Option ((Int × List ExciseOffice × PM × KM) ⊕ (ExciseMisfit × Int × Int × Option Nat))) : Prop := match out with
  | (.inl c, k) => ∃ A1 A2 A3, q = some (.inl ((k : Int), A1, A2, A3)) ∧ PR r c.day c.acc A1 A2 A3
  | (.inr e, k) => q = some (.inr (⟨e⟩, (k : Int), 0, some 0))
theorem play_loopP (hr : RulOk r) {l : List Ev} (hd : day ≤ 65536) (hl : l.length ≤ 1000) {D : Nat → Deed} (hD : ∀ (x : Ev), evB x = true → ∃ j, idxO 7 x.Kind = some j ∧
    ∀ {r : Rul} {n : Nat} {t : Int} {s : Acc} {A1 : List ExciseOffice} {A2 : PM} {A3 : KM}, RulOk r → SOk r n t s → n ≤ 1000 → 0 ≤ t → t ≤ 65536 → PR r t s A1 A2 A3 → x.Day = t → Does r t (doS r s x) (D j (A1, A2, A3, x)))
    {r33 : Option Nat × List ExciseOffice × PM × KM} (h33 : r33.1 = some 0) : ∀ (post : List Ev) (n : Nat) (c : Cur) (A1 : List ExciseOffice) (A2 : PM) (A3 : KM), l.drop n = post → n ≤ l.length → SOk r n c.day c.acc → 0 ≤ c.day → c.day ≤ day → PR r c.day c.acc A1 A2 A3 →
    GoOK r (goS r day post n c) (loopM (b_excise_play_1 l day r33 D) ((n : Int), A1, A2, A3))
  | [], n, c, A1, A2, A3, hp, hn, h, h0, h1, hP => by
    have e : n = l.length := by have := List.drop_eq_nil_iff.1 hp; omega
    have : b_excise_play_1 l day r33 D ((n : Int), A1, A2, A3) = some (.done (.inl ((n : Int), A1, A2, A3))) := by
      unfold b_excise_play_1
      rw [if_neg (by simp [e])]; rfl
    rw [loopM_eq, this]
    exact ⟨A1, A2, A3, rfl, hP⟩
  | x :: post, n, c, A1, A2, A3, hp, hn, h, h0, h1, hP => by
    have hlt : n < l.length := by
      rcases Nat.lt_or_ge n l.length with h | h
      · exact h
      · rw [List.drop_eq_nil_of_le h] at hp; cases hp
    have hx : l[n]? = some x := by rw [← List.head?_drop, hp]; rfl
    have hp' : l.drop (n + 1) = post := by rw [← List.tail_drop, hp]; rfl
    have o1 : (A1[0]?) = some (offS r c.day c.acc) := by rw [hP.o]; rfl
    have od : (offS r c.day c.acc).day = c.day := rfl
    rw [goS]
    by_cases hle : x.Day ≤ day
    · rw [if_pos hle]
      by_cases he : evB x = true
      · by_cases hlt2 : x.Day < c.day
        · have : b_excise_play_1 l day r33 D ((n : Int), A1, A2, A3) = some (.done (.inr (⟨7⟩, (n : Int), 0, some 0))) := by
            unfold b_excise_play_1
            rw [if_pos (by simp; omega)]
            simp only [idxL_nat, hx, Option.bind_some, hle, decide_true, if_true, isEvent_prog, he]
            rw [bindX_ok (need_t 1), h33]
            have e1 : decide (x.Day ≥ c.day) = false := by simp; omega
            simp only [Option.bind_some, o1, od, e1]
            rw [bindX_pan (need_f 7)]
          have hs : stepS r c x = .inr 7 := by unfold stepS; simp only [he, Bool.not_true, Bool.false_eq_true, if_false, hlt2, if_true]
          rw [loopM_eq, this, hs]; rfl
        · obtain ⟨B1, B2, B3, hpass, hPR⟩ := pass_prog hr h (by omega) h0 (show c.day ≤ x.Day by omega) (by omega) hP
          obtain ⟨j, hj, hdo⟩ := hD x he
          have hpk := pass_ok hr h (show c.day ≤ x.Day by omega)
          have hdo := hdo hr hpk (by omega) (by omega) (by omega) hPR rfl
          have hb : b_excise_play_1 l day r33 D ((n : Int), A1, A2, A3) = bindX (D j (B1, B2, B3, x)) (fun q136 => some (.done (.inr (q136, (n : Int), 0, some 0)))) fun r_130 => some (.next (((n + 1 : Nat) : Int), r_130.1, r_130.2.1, r_130.2.2)) := by
            unfold b_excise_play_1
            rw [if_pos (by simp; omega)]
            simp only [idxL_nat, hx, Option.bind_some, hle, decide_true, if_true, isEvent_prog, he]
            rw [bindX_ok (need_t 1), h33]
            have e1 : decide (x.Day ≥ c.day) = true := by simp; omega
            simp only [Option.bind_some, o1, od, e1]
            rw [bindX_ok (need_t 7), hpass]
            simp only [Option.bind_some, hj, bindv, w64_next (by omega : n ≤ 4294967296)]
          have hs : stepS r c x = match doS r (passS r c.day x.Day c.acc) x with | .inl a => .inl ⟨a, x.Day⟩ | .inr e => .inr e := by unfold stepS; simp only [he, Bool.not_true, Bool.false_eq_true, if_false, hlt2]; rfl
          unfold Does at hdo
          cases hq : doS r (passS r c.day x.Day c.acc) x with
          | inl a =>
            rw [hq] at hdo
            obtain ⟨C1, C2, C3, hC, hPC⟩ := hdo
            rw [bindX_ok hC] at hb
            rw [hq] at hs
            have hs : stepS r c x = .inl ⟨a, x.Day⟩ := hs
            obtain ⟨g1, g2, g3, _⟩ := step_ok hr h h0 hs
            rw [loopM_eq, hb, hs]
            exact play_loopP hr hd hl hD h33 post (n + 1) ⟨a, x.Day⟩ C1 C2 C3 hp' hlt g1 (by omega) hle hPC
          | inr e =>
            rw [hq] at hdo
            rw [bindX_pan hdo] at hb
            rw [hq] at hs
            have hs : stepS r c x = .inr e := hs
            rw [loopM_eq, hb, hs]; rfl
      · simp only [Bool.not_eq_true] at he
        have : b_excise_play_1 l day r33 D ((n : Int), A1, A2, A3) = some (.done (.inr (⟨1⟩, (n : Int), 0, some 0))) := by
          unfold b_excise_play_1
          rw [if_pos (by simp; omega)]
          simp only [idxL_nat, hx, Option.bind_some, hle, decide_true, if_true, isEvent_prog, he]
          rw [bindX_pan (need_f 1), h33]
        have hs : stepS r c x = .inr 1 := by unfold stepS; simp only [he, Bool.not_false, if_true]
        rw [loopM_eq, this, hs]; rfl
    · have : b_excise_play_1 l day r33 D ((n : Int), A1, A2, A3) = some (.done (.inl ((n : Int), A1, A2, A3))) := by
        unfold b_excise_play_1
        rw [if_pos (by simp; omega)]
        simp only [idxL_nat, hx, Option.bind_some, hle, decide_false, Bool.false_eq_true, if_false]
      rw [loopM_eq, this, if_neg hle]
      exact ⟨A1, A2, A3, rfl, hP⟩
def PlayOK (r : Rul) (day : Int) (out : (Acc ⊕ Int) × Nat) (q : Option (Option Nat × Int × Int × List ExciseOffice × PM × KM)) : Prop := match out with
  | (.inl a, k) => ∃ A1 A2 A3, q = some (some 0, (k : Int), 0, A1, A2, A3) ∧ PR r day a A1 A2 A3
  | (.inr e, k) => q = some (none, (k : Int), e, [], [], [])
theorem pr0 (r : Rul) : PR r 0 acc0 [offS r 0 acc0] [[]] [[]] := ⟨rfl, ⟨[], rfl, by simp [acc0]⟩, ⟨[], [], rfl, by simp, fun i => by simp [mapGet, acc0]⟩⟩
theorem play_prog {l : List Ev} (hlr : r.Rates.length ≤ 1000000) (hl : l.length ≤ 1000 ∨ 4096 < l.length) : PlayOK r day (playS r l day) (m_excise_play r l day) := by
  unfold m_excise_play playS
  rw [areRules_prog hlr, Option.bind_some]
  by_cases h1 : rulesB r = true
  · simp only [h1, Bool.not_true, Bool.false_eq_true, if_false]
    by_cases h2 : l.length > 4096
    · have e2 : decide ((l.length : Int) > 4096) = true := by simp; omega
      rw [if_pos h2, if_pos e2]; rfl
    · have e2 : ¬ decide ((l.length : Int) > 4096) = true := by simp; omega
      rw [if_neg h2, if_neg e2]
      by_cases h3 : inB day 0 65536 = true
      · simp only [ex_day, h3, Bool.not_true, Bool.false_eq_true, if_false]
        have hr := rules_iff.1 h1
        have hd := inB_iff.1 h3
        obtain ⟨D, hD, hDD⟩ := deeds_some
        have hno : m_excise_newOffice [] [] [] r = some (some 0, [offS r 0 acc0], [[]], [[]]) := rfl
        have hloop := play_loopP hr hd.2 (by omega : l.length ≤ 1000) hDD (r33 := (some 0, [offS r 0 acc0], [[]], [[]])) rfl l 0 cur0 _ _ _ (List.drop_zero ..) (Nat.zero_le _) (acc0_ok r) (by simp [cur0]) (by simp [cur0]; omega) (pr0 r)
        rw [hno, Option.bind_some, hD, Option.bind_some]
        unfold GoOK at hloop
        unfold runS
        cases hg : goS r day l 0 cur0 with
        | mk q k =>
          rw [hg] at hloop
          cases q with
          | inr e =>
            have hloop : loopM (b_excise_play_1 l day (some 0, [offS r 0 acc0], [[]], [[]]) D) (0, [offS r 0 acc0], [[]], [[]]) = _ := hloop
            rw [hloop]; rfl
          | inl c =>
            obtain ⟨A1, A2, A3, hq, hP⟩ := hloop
            have hq : loopM (b_excise_play_1 l day (some 0, [offS r 0 acc0], [[]], [[]]) D) (0, [offS r 0 acc0], [[]], [[]]) = _ := hq
            obtain ⟨a1, a2, a3, a4, a5⟩ := go_ok hr (acc0_ok r) (by simp [cur0]) (by simp [cur0]; omega) hg
            obtain ⟨B1, B2, B3, hpass, hPR⟩ := pass_prog hr a1 (by omega) a2 a3 hd.2 hP
            rw [hq, Option.bind_some]
            exact ⟨B1, B2, B3, bind_of hpass rfl, hPR⟩
      · simp only [Bool.not_eq_true] at h3
        simp only [ex_day, h3, Bool.not_false, if_true]; rfl
  · simp only [Bool.not_eq_true] at h1
    simp only [h1, Bool.not_false, if_true]; rfl
theorem playS_ok {l : List Ev} {a : Acc} {k : Nat} (h : playS r l day = (.inl a, k)) : RulOk r ∧ SOk r k day a ∧ (0 ≤ day ∧ day ≤ 65536) ∧ k ≤ l.length := by
  unfold playS at h
  split at h
  · simp at h
  · rename_i h1
    split at h
    · simp at h
    · split at h
      · simp at h
      · rename_i h3
        have hr := rules_iff.1 (by simpa using h1 : rulesB r = true)
        have hd := inB_iff.1 (by simpa using h3 : inB day 0 65536 = true)
        unfold runS at h
        split at h
        · rename_i c k' hg
          simp only [Prod.mk.injEq, Sum.inl.injEq] at h
          obtain ⟨rfl, rfl⟩ := h
          obtain ⟨a1, a2, a3, a4, a5⟩ := go_ok hr (acc0_ok r) (by simp [cur0]) (by simp [cur0]; omega) hg
          exact ⟨hr, pass_ok hr a1 a3, hd, by omega⟩
        · simp at h
theorem go_err {l : List Ev} : ∀ {n : Nat} {c : Cur} {e : Int} {k : Nat}, goS r day l n c = (.inr e, k) → (e = 1 ∨ e = 7 ∨ e = 4 ∨ e = 5 ∨ e = 10 ∨ e = 11 ∨ e = 12) ∧ n ≤ k ∧ k < n + l.length := by
  induction l with
  | nil => intro n c e k h; simp [goS] at h
  | cons x l ih =>
    intro n c e k h
    rw [goS] at h
    split at h
    · split at h
      · have := ih h
        simp only [List.length_cons]; exact ⟨this.1, by omega, by omega⟩
      · rename_i e' hs
        simp only [Prod.mk.injEq, Sum.inr.injEq] at h
        obtain ⟨rfl, rfl⟩ := h
        simp only [List.length_cons]; exact ⟨step_err hs, by omega, by omega⟩
    · simp at h
theorem playS_err {l : List Ev} {e : Int} {k : Nat} (h : playS r l day = (.inr e, k)) : e ≠ 0 := by
  unfold playS at h
  split at h
  · simp at h; omega
  · split at h
    · simp at h; omega
    · split at h
      · simp at h; omega
      · unfold runS at h
        split at h
        · simp at h
        · rename_i e' k' hg
          simp only [Prod.mk.injEq, Sum.inr.injEq] at h
          obtain ⟨rfl, rfl⟩ := h
          have := go_err hg; omega
end Go.Proofs.Ytadpjmaaokkhjaa
end

section
namespace Go.Proofs.Ytadpjmaaokkhjaa
open Go.Dec
variable {r : Rul} {n : Nat} {t d day : Int} {s a : Acc} {x : Ev} {p : ApiParcel} {l : List Ev}
theorem sorted_ext : ∀ {a b : List Int}, a.Pairwise (· < ·) → b.Pairwise (· < ·) → (∀ x, x ∈ a ↔ x ∈ b) → a = b
  | [], [], _, _, _ => rfl
  | [], y :: b, _, _, h => by have := (h y).2 (by simp); simp at this
  | x :: a, [], _, _, h => by have := (h x).1 (by simp); simp at this
  | x :: a, y :: b, ha, hb, h => by
    have ha' := List.pairwise_cons.1 ha
    have hb' := List.pairwise_cons.1 hb
    have exy : x = y := by
      have h1 := (h x).1 (by simp)
      have h2 := (h y).2 (by simp)
      rcases List.mem_cons.1 h1 with e | h1
      · exact e
      · rcases List.mem_cons.1 h2 with e | h2
        · exact e.symm
        · have := hb'.1 x h1; have := ha'.1 y h2; omega
    subst exy
    congr 1
    refine sorted_ext ha'.2 hb'.2 fun z => ?_
    constructor
    · intro hz
      have := (h z).1 (List.mem_cons_of_mem _ hz)
      rcases List.mem_cons.1 this with rfl | this
      · have := ha'.1 z hz; omega
      · exact this
    · intro hz
      have := (h z).2 (List.mem_cons_of_mem _ hz)
      rcases List.mem_cons.1 this with rfl | this
      · have := hb'.1 z hz; omega
      · exact this
theorem ids_pair {l : List ApiParcel} (h : l.Pairwise (fun p q => p.Id < q.Id)) : (l.map ApiParcel.Id).Pairwise (· < ·) := List.pairwise_map.2 h
theorem keys_ids {m : List (Int × ApiParcel)} {l : List ApiParcel} (hs : l.Pairwise (fun p q => p.Id < q.Id)) (hm : m.Perm (l.map keyP)) (hr : ∀ p ∈ l, 0 ≤ p.Id ∧ p.Id ≤ 1073741824) (hl : l.length ≤ 1000000) : keysS m = some (l.map ApiParcel.Id) := by
  have hmp : (m.map Prod.fst).Perm (l.map ApiParcel.Id) := by
    have := hm.map Prod.fst
    have e : (l.map keyP).map Prod.fst = l.map ApiParcel.Id := by rw [List.map_map]; rfl
    rwa [e] at this
  unfold keysS
  rw [if_pos]
  · congr 1
    have h1 : ((m.map Prod.fst).mergeSort (fun a b => decide (a ≤ b))).Pairwise (fun a b => decide (a ≤ b) = true) := List.pairwise_mergeSort (fun a b c h1 h2 => by simp only [decide_eq_true_eq] at *; omega) (fun a b => by simp only [Bool.or_eq_true, decide_eq_true_eq]; omega) _
    have hp := (List.mergeSort_perm (m.map Prod.fst) (fun a b => decide (a ≤ b))).trans hmp
    have hnd : (l.map ApiParcel.Id).Nodup := (ids_pair hs).imp fun h => Int.ne_of_lt h
    have h2 : ((m.map Prod.fst).mergeSort (fun a b => decide (a ≤ b))).Nodup := hp.nodup_iff.2 hnd
    exact sorted_ext ((h1.and h2).imp fun h => by have := h.1; have := h.2; simp only [decide_eq_true_eq] at *; omega) (ids_pair hs) fun x => hp.mem_iff
  · refine ⟨List.all_eq_true.2 fun y hy => ?_, by have := hm.length_eq; simp at this; omega⟩
    obtain ⟨q, hq, rfl⟩ := List.mem_map.1 (hm.mem_iff.1 hy)
    have := hr q hq
    exact decide_eq_true (show -9223372036854775808 ≤ q.Id ∧ q.Id ≤ 9223372036854775807 by omega)
theorem find_mem {l : List ApiParcel} (hs : l.Pairwise (fun p q => p.Id < q.Id)) {p : ApiParcel} (hp : p ∈ l) : l.find? (fun q => q.Id == p.Id) = some p := by
  cases h : l.find? (fun q => q.Id == p.Id) with
  | none => have := List.find?_eq_none.1 h p hp; simp at this
  | some q =>
    have hq := List.mem_of_find?_eq_some h
    have e : q.Id = p.Id := by simpa using List.find?_some h
    rw [ids_inj hs hq hp e]
theorem Duty_prog {amount : Int} (hlr : r.Rates.length ≤ 1000000) : m_excise_Duty r amount day = some (if !rulesB r then (0, 1) else if !inB amount 0 17179869184 || !inB day 0 65536 then (0, 2) else (dutyS r amount day, 0)) := by
  unfold m_excise_Duty
  rw [areRules_prog hlr, Option.bind_some]
  simp only [ex_within, ex_day]
  by_cases h1 : rulesB r = true
  · simp only [h1, Bool.not_true, Bool.false_eq_true, if_false]
    by_cases h2 : (!inB amount 0 17179869184 || !inB day 0 65536) = true
    · rw [if_pos h2, if_pos h2]
    · rw [if_neg h2, if_neg h2]
      simp only [Bool.or_eq_true, Bool.not_eq_true', not_or, Bool.not_eq_false] at h2
      have ha := inB_iff.1 h2.1; have hd := inB_iff.1 h2.2
      exact bind_of (duty_prog (rules_iff.1 h1) ha.1 ha.2 hd.1) rfl
  · simp only [Bool.not_eq_true] at h1
    simp only [h1, Bool.not_false, if_true]
theorem playS_len {a : Acc} {k : Nat} (h : playS r l day = (.inl a, k)) : l.length ≤ 4096 := by
  rcases Nat.lt_or_ge 4096 l.length with h1 | h1
  · unfold playS at h
    split at h
    · simp at h
    · simp at h
  · exact h1
theorem moving_loop {A1 : List ExciseOffice} {m : List (Int × ApiParcel)} {k e : Int} {o : Option Nat} {A3 : KM} (hs : a.B.Moving.Pairwise (fun p q => p.Id < q.Id)) (hm : m.Perm (a.B.Moving.map keyP)) (hl : a.B.Moving.length ≤ 1000000) :
    loopM (b_excise_Play_1 (o, k, e, A1, [m], A3) (offS r day a) (a.B.Moving.map ApiParcel.Id)) (0, (offS r day a).book) = some a.B := by
  obtain ⟨b, hb, hloop⟩ := loopM_pre (body := b_excise_Play_1 (o, k, e, A1, [m], A3) (offS r day a) (a.B.Moving.map ApiParcel.Id)) (fun i (b : Bk) => ((i : Int), b)) (fun b => b) (fun pre b => b = { a.B with Moving := pre }) a.B.Moving
    (fun pre q post b hl' hb => by
      have hil : pre.length < a.B.Moving.length := by rw [hl']; simp
      have hx : (a.B.Moving.map ApiParcel.Id)[pre.length]? = some q.Id := by rw [hl']; simp
      have hmo : (offS r day a).moving = some 0 := rfl
      have hq : mapGet m q.Id = some q := by rw [get_perm hs hm]; exact find_mem hs (by rw [hl']; simp)
      refine ⟨{ a.B with Moving := pre ++ [q] }, ?_, rfl⟩
      subst hb
      unfold b_excise_Play_1
      rw [if_pos (by simp; omega)]
      simp only [idxL_nat, hx, Option.bind_some, hmo, List.getElem?_cons_zero, hq, Option.getD_some]
      refine bind_of (appO_some' (by simp; omega)) ?_
      simp only [bindv, w64_next (by omega : pre.length ≤ 4294967296)])
    (fun b hb => by
      unfold b_excise_Play_1
      rw [if_neg (by simp)]) a.B.Moving [] { a.B with Moving := [] } rfl rfl
  have h0 : loopM (b_excise_Play_1 (o, k, e, A1, [m], A3) (offS r day a) (a.B.Moving.map ApiParcel.Id)) (0, (offS r day a).book) = some b := hloop
  rw [h0, hb]
theorem Play_prog (hlr : r.Rates.length ≤ 1000000) (hl : l.length ≤ 1000 ∨ 4096 < l.length) : m_excise_Play r l day = some (outD (playS r l day)) := by
  have hp := play_prog (day := day) hlr hl
  unfold PlayOK at hp
  unfold m_excise_Play
  cases h : playS r l day with
  | mk q k =>
    rw [h] at hp
    cases q with
    | inr e =>
      have he := playS_err h
      have hp : m_excise_play r l day = some (none, (k : Int), e, [], [], []) := hp
      have hne : (e != 0) = true := by simpa using he
      rw [hp]
      simp only [Option.bind_some, hne, if_true, outD]
    | inl a =>
      obtain ⟨A1, A2, A3, hq, hP⟩ := hp
      obtain ⟨hr, hok, hd, hk⟩ := playS_ok h
      obtain ⟨m, hm, hmp⟩ := hP.m
      have hml : a.B.Moving.length ≤ 1000000 := by have := playS_len h; have := hok.mlen; omega
      have ho : A1[0]? = some (offS r day a) := by rw [hP.o]; rfl
      have hks : sortedO A2 (some 0) = some (a.B.Moving.map ApiParcel.Id) := by
        rw [hm]; simp only [sortedO, List.getElem?_cons_zero, Option.bind_some]
        exact keys_ids hok.sorted hmp (fun p hp => (hok.mov p hp).id) hml
      rw [hq]
      simp only [Option.bind_some, bne_self_eq_false, Bool.false_eq_true, if_false, ho]
      have hno : nilO (offS r day a).book.Moving = some () := rfl
      have hmo : (offS r day a).moving = some 0 := rfl
      rw [hno, Option.bind_some, hmo, hks, Option.bind_some, hm]
      exact bind_of (moving_loop hok.sorted hmp hml) rfl
def lateL (r : Rul) (lim : Int) (a : Acc) : List Int := (a.B.Moving.filter (fun p => decide (lateS r p ≤ lim))).map ApiParcel.Id
def lateO (r : Rul) (l : List Ev) (day more : Int) : List Int × Int := match playS r l day with
  | (.inr e, _) => ([], e)
  | (.inl a, _) => if !inB more 0 65536 then ([], 2) else (lateL r (day + more) a, 0)
theorem lateL_loop {body : List Int × Int → Option (Ctl (List Int × Int) (List Int))} {lim : Int} {M : List ApiParcel}
    (hb : ∀ (i : Nat) (p : ApiParcel) (out : List Int), M[i]? = some p → out.length ≤ i → body (out, (i : Int)) = some (.next (if lateS r p ≤ lim then out ++ [p.Id] else out, ((i + 1 : Nat) : Int))))
    (he : ∀ out, body (out, (M.length : Int)) = some (.done out)) : loopM body ([], 0) = some ((M.filter (fun p => decide (lateS r p ≤ lim))).map ApiParcel.Id) := by
  obtain ⟨b, hb', hloop⟩ := loopM_pre (body := body) (fun i (out : List Int) => (out, (i : Int))) (fun b => b) (fun pre b => b = (pre.filter (fun p => decide (lateS r p ≤ lim))).map ApiParcel.Id) M
    (fun pre q post b hl' hbb => by
      refine ⟨_, hb pre.length q b (by rw [hl']; simp) (by rw [hbb, List.length_map]; exact List.length_filter_le _ _), ?_⟩
      rw [List.filter_append, List.map_append, ← hbb]
      by_cases h : lateS r q ≤ lim
      · simp [h]
      · simp [h])
    (fun b hbb => he b) M [] [] rfl rfl
  have h0 : loopM body ([], 0) = some b := hloop
  rw [h0, hb']
theorem late_if {out : List Int} {p : ApiParcel} {lim : Int} (h : out.length ≤ 1000000) : ((if (decide (lateS r p ≤ lim)) then ((appO out ([p.Id])).bind fun l_86 => some l_86) else (some out) : Option (List Int))) = some (if lateS r p ≤ lim then out ++ [p.Id] else out) := by
  by_cases hc : lateS r p ≤ lim
  · simp only [hc, decide_true, if_true]
    exact bind_of (appO_some' (by simp; omega)) rfl
  · simp only [hc, decide_false, Bool.false_eq_true, if_false]
theorem Late_prog {more : Int} (hlr : r.Rates.length ≤ 1000000) (hl : l.length ≤ 1000 ∨ 4096 < l.length) : m_excise_Late r l day more = some (lateO r l day more) := by
  have hp := play_prog (day := day) hlr hl
  unfold PlayOK at hp
  unfold m_excise_Late lateO
  cases h : playS r l day with
  | mk q k =>
    rw [h] at hp
    cases q with
    | inr e =>
      have hne : (e != 0) = true := by simpa using playS_err h
      have hp : m_excise_play r l day = some (none, (k : Int), e, [], [], []) := hp
      rw [hp]
      simp only [Option.bind_some, hne, if_true]
    | inl a =>
      obtain ⟨A1, A2, A3, hq, hP⟩ := hp
      obtain ⟨hr, hok, hd, hk⟩ := playS_ok h
      obtain ⟨m, hm, hmp⟩ := hP.m
      have hml : a.B.Moving.length ≤ 1000000 := by have := playS_len h; have := hok.mlen; omega
      have ho : A1[0]? = some (offS r day a) := by rw [hP.o]; rfl
      have hks : sortedO A2 (some 0) = some (a.B.Moving.map ApiParcel.Id) := by
        rw [hm]; simp only [sortedO, List.getElem?_cons_zero, Option.bind_some]
        exact keys_ids hok.sorted hmp (fun p hp => (hok.mov p hp).id) hml
      have hmo : (offS r day a).moving = some 0 := rfl
      rw [hq]
      simp only [Option.bind_some, bne_self_eq_false, Bool.false_eq_true, if_false, ex_day]
      by_cases hmr : inB more 0 65536 = true
      · simp only [hmr, Bool.not_true, Bool.false_eq_true, if_false, ho, Option.bind_some, hmo, hks]
        have hmm := inB_iff.1 hmr
        refine bind_of (lateL_loop (r := r) (lim := day + more) (M := a.B.Moving) (fun i p out hp ho' => ?_) (fun out => ?_)) rfl
        · have hi := (List.getElem?_eq_some_iff.1 hp).1
          have hsent := (hok.mov p (List.mem_of_getElem? hp)).sent
          have hx : (a.B.Moving.map ApiParcel.Id)[i]? = some p.Id := by simp [hp]
          have hg : mapGet m p.Id = some p := by rw [get_perm hok.sorted hmp]; exact find_mem hok.sorted (List.mem_of_getElem? hp)
          unfold b_excise_Late_1
          rw [if_pos (by simp; omega)]
          simp only [idxL_nat, hx, Option.bind_some, hmo, hm, List.getElem?_cons_zero, hg, Option.getD_some]
          rw [hP.o, late_prog hr (by omega)]
          simp only [Option.bind_some]
          rw [w64_id (n := day + more) (by omega) (by omega), late_if (by omega)]
          simp only [Option.bind_some, w64_next (by omega : i ≤ 4294967296)]
        · unfold b_excise_Late_1
          rw [if_neg (by simp)]
      · simp only [Bool.not_eq_true] at hmr
        simp only [hmr, Bool.not_false, if_true]
theorem eq28_refl (f : Nat → Int) : eq_28 f f = true := by simp [eq_28]
theorem Ints_self (a : List Int) (h : a.length ≤ 1000000) : m_wormtubref11_Ints a a = some true := by
  have hl := loop_list (body := b_wormtubref11_Ints_1 a a) (fun (_ : Unit) i => ((i : Nat) : Int)) (fun (_ : Unit) _ (_ : Int) => some (.next ())) (fun _ => (.inl () : Unit ⊕ Bool)) a (fun t i x hx => by
    have hi := (List.getElem?_eq_some_iff.1 hx).1
    unfold b_wormtubref11_Ints_1
    rw [if_pos (by simp; omega)]
    simp only [idxL_nat, hx, Option.bind_some, bindv, w64_next (by omega : i ≤ 4294967296), bne_self_eq_false, Bool.false_eq_true, if_false]
    rfl) (fun t => by unfold b_wormtubref11_Ints_1; rw [if_neg (by simp)]) ()
  have hg : ∀ (l : List Int) (i : Nat), goL (fun (_ : Unit) _ (_ : Int) => some (.next ())) (fun _ => (.inl () : Unit ⊕ Bool)) l i () = some (.inl ()) := fun l => by
    induction l with
    | nil => intro i; rfl
    | cons x l ih => intro i; simp only [goL]; exact ih (i + 1)
  rw [hg] at hl
  have hl' : loopM (b_wormtubref11_Ints_1 a a) 0 = some (.inl ()) := hl
  unfold m_wormtubref11_Ints
  rw [if_neg (by simp), hl']; rfl
end Go.Proofs.Ytadpjmaaokkhjaa
end

section
namespace Go.Proofs.Ytadpjmaaokkhjaa
open Go.Dec
variable {r : Rul} {n : Nat} {t d day : Int} {s a : Acc} {x : Ev} {p : ApiParcel} {l : List Ev}
theorem go_less {d d' : Int} (hd : d' ≤ d) : ∀ {l : List Ev} {n : Nat} {c c1 : Cur} {k1 : Nat}, goS r d l n c = (.inl c1, k1) → ∃ c0 k0, goS r d' l n c = (.inl c0, k0) ∧ k0 ≤ k1
  | [], n, c, c1, k1, h => by
    simp only [goS, Prod.mk.injEq, Sum.inl.injEq] at h ⊢
    exact ⟨c, n, ⟨rfl, rfl⟩, by omega⟩
  | x :: l, n, c, c1, k1, h => by
    rw [goS] at h ⊢
    by_cases h1 : x.Day ≤ d'
    · rw [if_pos (by omega)] at h
      rw [if_pos h1]
      cases hs : stepS r c x with
      | inl c' => rw [hs] at h; exact go_less hd h
      | inr e => rw [hs] at h; simp at h
    · rw [if_neg h1]
      refine ⟨c, n, rfl, ?_⟩
      split at h
      · split at h
        · have : ∀ {l : List Ev} {n : Nat} {c c1 : Cur} {k1 : Nat}, goS r d l n c = (.inl c1, k1) → n ≤ k1 := by
            intro l
            induction l with
            | nil => intro n c c1 k1 h; simp only [goS, Prod.mk.injEq] at h; omega
            | cons y l ih =>
              intro n c c1 k1 h
              rw [goS] at h
              split at h
              · split at h
                · have := ih h; omega
                · simp at h
              · simp only [Prod.mk.injEq] at h; omega
          have := this h; omega
        · simp at h
      · simp only [Prod.mk.injEq] at h; omega
theorem play_less {d d' : Int} {b : Acc} {k : Nat} (h0 : 0 ≤ d') (hd : d' ≤ d) (h : playS r l d = (.inl b, k)) : ∃ a j, playS r l d' = (.inl a, j) ∧ j ≤ k := by
  obtain ⟨hr, hok, hday, hk⟩ := playS_ok h
  have hlen := playS_len h
  have h1 : rulesB r = true := rules_iff.2 hr
  have h3 : inB d 0 65536 = true := inB_iff.2 hday
  have h3' : inB d' 0 65536 = true := inB_iff.2 ⟨h0, by omega⟩
  unfold playS at h ⊢
  simp only [h1, h3, h3', Bool.not_true, Bool.false_eq_true, if_false] at h ⊢
  rw [if_neg (by omega)] at h ⊢
  unfold runS at h ⊢
  cases hg : goS r d l 0 cur0 with
  | mk q k1 =>
    rw [hg] at h
    cases q with
    | inr e => simp at h
    | inl c1 =>
      simp only [Prod.mk.injEq] at h
      obtain ⟨c0, k0, g1, g2⟩ := go_less hd hg
      rw [g1]
      exact ⟨_, _, rfl, by omega⟩
def retO (r : Rul) (l : List Ev) (fro to : Int) : Int × Int × Int :=
  if !rulesB r then (0, 0, 1) else if l.length > 4096 then (0, 0, 3) else if !inB fro 0 65536 || !inB to fro 65536 then (0, 0, 2)
  else match playS r l to with
    | (.inr e, _) => (0, 0, e)
    | (.inl b, _) => if fro == 0 then (b.B.Due, b.B.Paid, 0) else match playS r l (fro - 1) with
      | (.inr _, _) => (0, 0, 0)
      | (.inl a, _) => (b.B.Due - a.B.Due, b.B.Paid - a.B.Paid, 0)
theorem due_lim {k : Nat} {b : Acc} (h : SOk r k d b) (hk : k ≤ 4096) : (0 ≤ b.B.Due ∧ b.B.Due ≤ 4611686018427387904) ∧ 0 ≤ b.B.Paid ∧ b.B.Paid ≤ b.B.Due := by
  have := h.pos; have := h.due; have := h.lim; omega
theorem Return_prog {fro to : Int} (hlr : r.Rates.length ≤ 1000000) (hl : l.length ≤ 1000 ∨ 4096 < l.length) : m_excise_Return r l fro to = some (retO r l fro to) := by
  unfold m_excise_Return retO
  rw [areRules_prog hlr, Option.bind_some]
  by_cases h1 : rulesB r = true
  · simp only [h1, Bool.not_true, Bool.false_eq_true, if_false]
    by_cases h2 : l.length > 4096
    · have e2 : decide ((l.length : Int) > 4096) = true := by simp; omega
      rw [if_pos e2, if_pos h2]
    · have e2 : ¬ decide ((l.length : Int) > 4096) = true := by simp; omega
      rw [if_neg e2, if_neg h2]
      simp only [ex_within, ex_day]
      by_cases h3 : (!inB fro 0 65536 || !inB to fro 65536) = true
      · rw [if_pos h3, if_pos h3]
      · rw [if_neg h3, if_neg h3]
        simp only [Bool.or_eq_true, Bool.not_eq_true', not_or, Bool.not_eq_false] at h3
        have hf := inB_iff.1 h3.1; have ht := inB_iff.1 h3.2
        have hp := play_prog (day := to) hlr hl
        unfold PlayOK at hp
        cases h : playS r l to with
        | mk q k =>
          rw [h] at hp
          cases q with
          | inr e =>
            have hne : (e != 0) = true := by simpa using playS_err h
            have hp : m_excise_play r l to = some (none, (k : Int), e, [], [], []) := hp
            rw [hp]
            simp only [Option.bind_some, hne, Bool.true_or, if_true, Option.isNone_none]
          | inl b =>
            obtain ⟨A1, A2, A3, hq, hP⟩ := hp
            have ho : A1[0]? = some (offS r to b) := by rw [hP.o]; rfl
            rw [hq]
            simp only [Option.bind_some, bne_self_eq_false, Bool.false_or]
            by_cases h0 : (fro == 0) = true
            · rw [if_pos h0, if_pos h0]
              simp only [Option.isNone_some, Bool.false_eq_true, if_false, ho, Option.bind_some]
              rfl
            · rw [if_neg h0, if_neg h0]
              have h0' : fro ≠ 0 := by simpa using h0
              obtain ⟨a, j, hj, hjk⟩ := play_less (d' := fro - 1) (by omega) (by omega) h
              have hp2 := play_prog (day := fro - 1) hlr hl
              unfold PlayOK at hp2
              rw [hj] at hp2
              obtain ⟨C1, C2, C3, hq2, hP2⟩ := hp2
              have ho2 : C1[0]? = some (offS r (fro - 1) a) := by rw [hP2.o]; rfl
              rw [w64_id (n := fro - 1) (by omega) (by omega), hq2, hj]
              simp only [Option.bind_some, ho, ho2, bindv]
              obtain ⟨_, hok, _, hk⟩ := playS_ok h
              obtain ⟨_, hok', _, hk'⟩ := playS_ok hj
              have b1 := due_lim hok (by omega); have b2 := due_lim hok' (by omega)
              have e1 : (offS r to b).book.Due = b.B.Due := rfl
              have e2 : (offS r to b).book.Paid = b.B.Paid := rfl
              have e3 : (offS r (fro - 1) a).book.Due = a.B.Due := rfl
              have e4 : (offS r (fro - 1) a).book.Paid = a.B.Paid := rfl
              rw [e1, e2, e3, e4, w64_id (n := b.B.Due - a.B.Due) (by omega) (by omega), w64_id (n := b.B.Paid - a.B.Paid) (by omega) (by omega)]
  · simp only [Bool.not_eq_true] at h1
    simp only [h1, Bool.not_false, if_true]
def smpR : Rul := ⟨[⟨0, 2000⟩, ⟨100, 3000⟩], 10, 50, 200⟩
def smpL : List Ev := [⟨0, 0, 1, 0, 0, 100000⟩, ⟨1, 20, 1, 2, 7, 40000⟩, ⟨2, 25, 2, 0, 7, 39700⟩, ⟨1, 50, 1, 2, 8, 10000⟩, ⟨5, 90, 1, 0, 0, 49000⟩, ⟨3, 100, 2, 0, 0, 10000⟩]
theorem awake_true : m_wormtublaw11_awake = some true := by
  have hs : m_wormtublaw11_sample = some (smpR, smpL) := rfl
  have hlr : smpR.Rates.length ≤ 1000000 := by decide
  have hl : smpL.length ≤ 1000 ∨ 4096 < smpL.length := by decide
  have e1 : (if !rulesB smpR then ((0 : Int), (1 : Int)) else if !inB 1999 0 17179869184 || !inB 100 0 65536 then (0, 2) else (dutyS smpR 1999 100, 0)) = (5997, 0) := by decide +kernel
  have e2 : (((((((((((5997 : Int) != 5997) || ((0 : Int) != 0)) || ((outD (playS smpR smpL 90)).1.Bonds 1 != 49000)) || ((outD (playS smpR smpL 90)).1.Bonds 2 != 39700)) || ((outD (playS smpR smpL 90)).1.Lost != 517)) || ((outD (playS smpR smpL 90)).1.Charged != 783)) || ((outD (playS smpR smpL 90)).1.Used != 10000)) || ((outD (playS smpR smpL 90)).1.Due != 21566)) || ((outD (playS smpR smpL 90)).2.1 != 5)) || ((outD (playS smpR smpL 90)).2.2 != 0)) = false := by decide +kernel
  have e3 : retO smpR smpL 26 99 = (21366, 0, 0) := by decide +kernel
  have e4 : lateO smpR smpL 55 6 = ([8], 0) := by decide +kernel
  unfold m_wormtublaw11_awake
  refine bind_of hs (bind_of (Duty_prog hlr) (bind_of (Play_prog hlr hl) (bind_of (Return_prog hlr hl) (bind_of (Late_prog hlr hl) ?_))))
  rw [e1, e3, e4]
  simp only [e2, Bool.false_eq_true, if_false]
  have i1 : m_wormtubref11_Ints [8] [8] = some true := Ints_self _ (by decide)
  simp [i1]
end Go.Proofs.Ytadpjmaaokkhjaa
end

section
namespace Go.Proofs.Ytadpjmaaokkhjaa
open Go.Dec
theorem Try.own : ownKnob Try.prog.godebug = none := by kernel_rfl
theorem Try.laidOut : laidOutB Try.prog = true := by kernel_rfl
def okApiDutyRate (x : ApiDutyRate) : Prop := (Lit.int .i64 x.From).wf = true ∧ (Lit.int .i64 x.Rate).wf = true
theorem vApiDutyRate {H : Type} {enc : TypeId × Value → H} {W : World} : Viewed enc Try.prog W 53 (Ex cApiDutyRate) okApiDutyRate := by
 intro sp held fuel cs x h
 obtain ⟨xs, k, _, _, hl, hxl, hx⟩ := DataW.trod_struct Try.underlying53 h
 have hl' : cs.length = 2 := hl.trans (by kernel_rfl)
 obtain ⟨y0, h0⟩ := some_of (hx 0 _ rfl) hxl rfl
 have e0 : Try.prog.cellsOf 3 = 1 := by kernel_rfl
 obtain ⟨m0, o0, q0⟩ := (Viewed.int Try.underlying3) _ _ _ _ _ h0
 obtain ⟨y1, h1⟩ := some_of (hx 1 _ rfl) hxl rfl
 have e1 : Try.prog.cellsOf 3 = 1 := by kernel_rfl
 obtain ⟨m1, o1, q1⟩ := (Viewed.int Try.underlying3) _ _ _ _ _ h1
 refine ⟨⟨m0, m1⟩, ⟨o0, o1⟩, fun F' le => ?_⟩
 have w0 : (cs.drop 0).take (Try.prog.cellsOf 3) = (cInt .i64) m0 := q0 F' le
 rw [e0] at w0
 have w1 : (cs.drop 1).take (Try.prog.cellsOf 3) = (cInt .i64) m1 := q1 F' le
 rw [e1] at w1
 exact (cat_cons w0 (cat_cons w1 (cat_nil hl')))
def okApiDutyRules (x : ApiDutyRules) : Prop := (∀ y7 ∈ x.Rates, okApiDutyRate y7) ∧ (Lit.int .i64 x.Transit).wf = true ∧ (Lit.int .i64 x.Loss).wf = true ∧ (Lit.int .i64 x.Share).wf = true
theorem vApiDutyRules {H : Type} {enc : TypeId × Value → H} {W : World} : Viewed enc Try.prog W 24 rApiDutyRules okApiDutyRules := by
 intro sp held fuel cs x h
 obtain ⟨xs, k, _, _, hl, hxl, hx⟩ := DataW.trod_struct Try.underlying24 h
 have hl' : cs.length = 4 := hl.trans (by kernel_rfl)
 obtain ⟨y0, h0⟩ := some_of (hx 0 _ rfl) hxl rfl
 have e0 : Try.prog.cellsOf 22 = 1 := by kernel_rfl
 obtain ⟨m0, o0, q0⟩ := (Viewed.slice (sz := 2) Try.underlying22 (by kernel_rfl) (by decide) vApiDutyRate) _ _ _ _ _ h0
 obtain ⟨y1, h1⟩ := some_of (hx 1 _ rfl) hxl rfl
 have e1 : Try.prog.cellsOf 3 = 1 := by kernel_rfl
 obtain ⟨m1, o1, q1⟩ := (Viewed.int Try.underlying3) _ _ _ _ _ h1
 obtain ⟨y2, h2⟩ := some_of (hx 2 _ rfl) hxl rfl
 have e2 : Try.prog.cellsOf 3 = 1 := by kernel_rfl
 obtain ⟨m2, o2, q2⟩ := (Viewed.int Try.underlying3) _ _ _ _ _ h2
 obtain ⟨y3, h3⟩ := some_of (hx 3 _ rfl) hxl rfl
 have e3 : Try.prog.cellsOf 3 = 1 := by kernel_rfl
 obtain ⟨m3, o3, q3⟩ := (Viewed.int Try.underlying3) _ _ _ _ _ h3
 refine ⟨⟨m0, m1, m2, m3⟩, ⟨o0, o1, o2, o3⟩, fun F' le => ?_⟩
 have w0 : (rSl 2 (Ex cApiDutyRate)) F' m0 ((cs.drop 0).take (Try.prog.cellsOf 22)) := q0 F' le
 rw [e0] at w0
 obtain ⟨p0_0, p0_1, w0, r0_0⟩ := w0
 have w1 : (cs.drop 1).take (Try.prog.cellsOf 3) = (cInt .i64) m1 := q1 F' le
 rw [e1] at w1
 have w2 : (cs.drop 2).take (Try.prog.cellsOf 3) = (cInt .i64) m2 := q2 F' le
 rw [e2] at w2
 have w3 : (cs.drop 3).take (Try.prog.cellsOf 3) = (cInt .i64) m3 := q3 F' le
 rw [e3] at w3
 exact ⟨p0_0, p0_1, (cat_cons w0 (cat_cons w1 (cat_cons w2 (cat_cons w3 (cat_nil hl'))))), r0_0⟩
def okApiDutyEvent (x : ApiDutyEvent) : Prop := (Lit.int .i64 x.Kind).wf = true ∧ (Lit.int .i64 x.Day).wf = true ∧ (Lit.int .i64 x.Bond).wf = true ∧ (Lit.int .i64 x.To).wf = true ∧ (Lit.int .i64 x.Id).wf = true ∧ (Lit.int .i64 x.Amount).wf = true
theorem vApiDutyEvent {H : Type} {enc : TypeId × Value → H} {W : World} : Viewed enc Try.prog W 47 (Ex cApiDutyEvent) okApiDutyEvent := by
 intro sp held fuel cs x h
 obtain ⟨xs, k, _, _, hl, hxl, hx⟩ := DataW.trod_struct Try.underlying47 h
 have hl' : cs.length = 6 := hl.trans (by kernel_rfl)
 obtain ⟨y0, h0⟩ := some_of (hx 0 _ rfl) hxl rfl
 have e0 : Try.prog.cellsOf 3 = 1 := by kernel_rfl
 obtain ⟨m0, o0, q0⟩ := (Viewed.int Try.underlying3) _ _ _ _ _ h0
 obtain ⟨y1, h1⟩ := some_of (hx 1 _ rfl) hxl rfl
 have e1 : Try.prog.cellsOf 3 = 1 := by kernel_rfl
 obtain ⟨m1, o1, q1⟩ := (Viewed.int Try.underlying3) _ _ _ _ _ h1
 obtain ⟨y2, h2⟩ := some_of (hx 2 _ rfl) hxl rfl
 have e2 : Try.prog.cellsOf 3 = 1 := by kernel_rfl
 obtain ⟨m2, o2, q2⟩ := (Viewed.int Try.underlying3) _ _ _ _ _ h2
 obtain ⟨y3, h3⟩ := some_of (hx 3 _ rfl) hxl rfl
 have e3 : Try.prog.cellsOf 3 = 1 := by kernel_rfl
 obtain ⟨m3, o3, q3⟩ := (Viewed.int Try.underlying3) _ _ _ _ _ h3
 obtain ⟨y4, h4⟩ := some_of (hx 4 _ rfl) hxl rfl
 have e4 : Try.prog.cellsOf 3 = 1 := by kernel_rfl
 obtain ⟨m4, o4, q4⟩ := (Viewed.int Try.underlying3) _ _ _ _ _ h4
 obtain ⟨y5, h5⟩ := some_of (hx 5 _ rfl) hxl rfl
 have e5 : Try.prog.cellsOf 3 = 1 := by kernel_rfl
 obtain ⟨m5, o5, q5⟩ := (Viewed.int Try.underlying3) _ _ _ _ _ h5
 refine ⟨⟨m0, m1, m2, m3, m4, m5⟩, ⟨o0, o1, o2, o3, o4, o5⟩, fun F' le => ?_⟩
 have w0 : (cs.drop 0).take (Try.prog.cellsOf 3) = (cInt .i64) m0 := q0 F' le
 rw [e0] at w0
 have w1 : (cs.drop 1).take (Try.prog.cellsOf 3) = (cInt .i64) m1 := q1 F' le
 rw [e1] at w1
 have w2 : (cs.drop 2).take (Try.prog.cellsOf 3) = (cInt .i64) m2 := q2 F' le
 rw [e2] at w2
 have w3 : (cs.drop 3).take (Try.prog.cellsOf 3) = (cInt .i64) m3 := q3 F' le
 rw [e3] at w3
 have w4 : (cs.drop 4).take (Try.prog.cellsOf 3) = (cInt .i64) m4 := q4 F' le
 rw [e4] at w4
 have w5 : (cs.drop 5).take (Try.prog.cellsOf 3) = (cInt .i64) m5 := q5 F' le
 rw [e5] at w5
 exact (cat_cons w0 (cat_cons w1 (cat_cons w2 (cat_cons w3 (cat_cons w4 (cat_cons w5 (cat_nil hl')))))))
theorem vt24 {H : Type} {enc : TypeId × Value → H} {W : World} : Viewed enc Try.prog W 24 rApiDutyRules (fun x => okApiDutyRules x) := vApiDutyRules
theorem vt25 {H : Type} {enc : TypeId × Value → H} {W : World} : Viewed enc Try.prog W 25 (rSl 6 (Ex cApiDutyEvent)) (fun x => (∀ y1 ∈ x, okApiDutyEvent y1)) := (Viewed.slice (sz := 6) Try.underlying25 (by kernel_rfl) (by decide) vApiDutyEvent)
end Go.Proofs.Ytadpjmaaokkhjaa
end

section
namespace Go.Proofs.Ytadpjmaaokkhjaa
open Go.Dec
variable {r : Rul} {n : Nat} {t d day : Int} {s s' a : Acc} {x : Ev} {p : ApiParcel} {l : List Ev}
theorem Play_ok {k : Nat} (hlr : r.Rates.length ≤ 1000000) (hl : l.length ≤ 1000) (h : playS r l day = (.inl a, k)) : m_excise_Play r l day = some (a.B, (k : Int), 0) := by
  rw [Play_prog hlr (.inl hl), h]; rfl
theorem Play_err {k : Nat} {e : Int} (hlr : r.Rates.length ≤ 1000000) (hl : l.length ≤ 1000) (h : playS r l day = (.inr e, k)) : m_excise_Play r l day = some (bk0, (k : Int), e) := by
  rw [Play_prog hlr (.inl hl), h]; rfl
end Go.Proofs.Ytadpjmaaokkhjaa
end

section
namespace Go.Proofs.Ytadpjmaaokkhjaa
open Go.Dec
variable {r : Rul} {n : Nat} {t d day : Int} {s s' a : Acc} {x : Ev} {p : ApiParcel} {l : List Ev}
theorem wf_w64 {n : Int} (h : (Lit.int .u16 n).wf = true) : 0 ≤ n ∧ n ≤ 65535 ∧ w64 n = n := by
  have := wf_u16 h
  exact ⟨this.1, this.2, w64_id (by omega) (by omega)⟩
end Go.Proofs.Ytadpjmaaokkhjaa
end

section
namespace Go.Proofs.Ytadpjmaaokkhjaa
open Go.Dec Go.Shelf Go.RowKit Go.Maps Go.Sort
noncomputable def b_wormtublaw11_ExciseKinder_1 (l_5 : (List ApiDutyEvent)) (s25 : Int) : Option (Ctl (Int) ((Unit) ⊕ (Bool))) :=
 if (decide (s25 < (l_5.length : Int))) then ((idxL l_5 s25).bind fun x29 => if (x29.Kind == 6) then ((m_wormtublaw11_awake).bind fun r_42 => some (.done (.inr r_42))) else (bindv (w64 (s25 + 1)) fun i43 => some (.next i43))) else (some (.done (.inl ())))
noncomputable def b_wormtublaw11_ExciseKinder_2 (r_1 : ApiDutyRules) (more12 : Int) (s98 : Int × ApiDutyRules) : Option (Ctl (Int × ApiDutyRules) ((ApiDutyRules))) :=
 if (decide (s98.1 < (r_1.Rates.length : Int))) then ((idxL r_1.Rates s98.1).bind fun x106 => (idxL r_1.Rates s98.1).bind fun x116 => (appO s98.2.Rates ([(ApiDutyRate.mk x106.From (imin 1048576 (w64 (x116.Rate + (w64 (more12))))))])).bind fun l_179 => bindv ({ s98.2 with Rates := l_179 }) fun x183 => bindv (w64 (s98.1 + 1)) fun i185 => some (.next (i185, x183))) else (some (.done s98.2))
noncomputable def m_wormtublaw11_ExciseKinder (r_1 : ApiDutyRules) (l_5 : (List ApiDutyEvent)) (day9 : Int) (loss10 : Int) (share11 : Int) (more12 : Int) : Option Bool :=
 if ((decide ((r_1.Rates.length : Int) > 70)) || (decide ((l_5.length : Int) > 60))) then ((m_wormtublaw11_awake).bind fun r_24 => some r_24) else ((loopM (b_wormtublaw11_ExciseKinder_1 l_5) 0).bind fun b0 => match b0 with | .inl _b45 => ((m_excise_Play r_1 l_5 day9).bind fun r_52 => (m_wormtubref11_Rules r_1).bind fun r_59 => if (!r_59) then ((if ((r_52.2.2 == 1) && (r_52.2.1 == 0)) then ((m_wormtublaw11_awake).bind fun r_68 => some r_68) else some false).bind fun z72 => some z72) else (bindv ({ r_1 with Loss := (imin 10000 (w64 (r_1.Loss + (Int.tmod (w64 (loss10)) 3000)))) }) fun x89 => bindv ({ x89 with Share := (imin 1000 (w64 (r_1.Share + (Int.tmod (w64 (share11)) 500)))) }) fun x92 => bindv ({ r_1 with Rates := [] }) fun x96 => (loopM (b_wormtublaw11_ExciseKinder_2 r_1 more12) (0, x96)).bind fun b187 => (m_excise_Play x92 l_5 day9).bind fun r_195 => (m_excise_Play b187 l_5 day9).bind fun r_205 => if ((((r_195.2.2 != r_52.2.2) || (r_205.2.2 != r_52.2.2)) || (r_195.2.1 != r_52.2.1)) || (r_205.2.1 != r_52.2.1)) then (some false) else (if (r_52.2.2 != 0) then ((m_wormtublaw11_awake).bind fun r_226 => some r_226) else (if ((((((decide (r_195.1.Charged > r_52.1.Charged)) || (decide (r_195.1.Due > r_52.1.Due))) || ((w64 (r_195.1.Lost + r_195.1.Charged)) != (w64 (r_52.1.Lost + r_52.1.Charged)))) || (r_195.1.Used != r_52.1.Used)) || (!(eq_28 r_195.1.Bonds r_52.1.Bonds))) || (r_195.1.Found != r_52.1.Found)) then (some false) else ((if ((((decide (r_205.1.Due ≥ r_52.1.Due)) && (r_205.1.Charged == r_52.1.Charged)) && (r_205.1.Lost == r_52.1.Lost)) && (eq_28 r_205.1.Bonds r_52.1.Bonds)) then ((m_wormtublaw11_awake).bind fun r_263 => some r_263) else some false).bind fun z267 => some z267))))) | .inr b45 => (some b45))
set_option maxHeartbeats 4000000 in
theorem c_wormtublaw11_ExciseKinder (F0 : Fz) (r_1 : ApiDutyRules) (p2 : Option Addr) (k3 : Nat) (h4 : RepSl 2 (Ex cApiDutyRate) F0 p2 k3 r_1.Rates) (l_5 : (List ApiDutyEvent)) (p6 : Option Addr) (k7 : Nat) (h8 : RepSl 6 (Ex cApiDutyEvent) F0 p6 k7 l_5) (day9 : Int) (loss10 : Int) (share11 : Int) (more12 : Int) : CT0 Try.prog 8 [(eApiDutyRules r_1 p2 k3), (.slice p6 l_5.length k7), (.int .i64 day9), (.int .u16 loss10), (.int .u16 share11), (.int .u16 more12)].toArray F0 (m_wormtublaw11_ExciseKinder r_1 l_5 day9 loss10 share11 more12) (fun r _ v => v = (.bool r)) := by
 refine CT0.enter Try.func8 rfl Try.ntmps8 rfl fun r R => ?_
 unfold m_wormtublaw11_ExciseKinder
 refine .seq ?_
 refine .region ?_
 refine .boxF (cs := (cApiDutyRules r_1 p2 k3)) rfl rfl rfl (fun b13 F_14 l_15 hb16 => ?_)
 refine .assign rfl rfl ?_
 refine .nil ?_
 refine .code ?_
 refine .seq ?_
 refine .seq ?_
 refine .region ?_
 refine .fieldAddr rfl Try.underlying24 rfl Try.sizeOf22 rfl ?_
 refine .loadF rfl Try.isAgg22 rfl hb16 rfl ?_
 refine .lenS rfl rfl Try.underlying22 rfl ?_
 refine .gtr rfl rfl rfl ?_
 refine .move rfl rfl ?_
 refine .orP (b := (decide ((r_1.Rates.length : Int) > 70))) (b' := (decide ((l_5.length : Int) > 60))) 4 34 (fun hb17 => ?_) (fun hb18 => ?_) (fun F_19 l_20 => ?_)
 ·skip
  refine .onH hb17 rfl rfl ?_
  refine .move rfl rfl ?_
  refine .onH hb17 rfl rfl ?_
  refine .lenS rfl rfl Try.underlying25 rfl ?_
  refine .onH hb17 rfl rfl ?_
  refine .gtr rfl rfl rfl ?_
  refine .pickFH hb17 rfl rfl rfl ?_
  exact .fin 4 rfl rfl (by kernel_rfl) (Fz.le_refl _)
 ·skip
  refine .offH hb18 rfl rfl rfl ?_
  refine .offH hb18 rfl rfl rfl ?_
  refine .offH hb18 rfl rfl rfl ?_
  refine .pickTH hb18 rfl rfl rfl ?_
  exact .fin 4 rfl rfl (by kernel_rfl) (Fz.le_refl _)
 refine .nil ?_
 refine .code ?_
 refine .cond rfl (fun hb21 => ?_) (fun hb21 => ?_)
 ·skip
  refine .seq ?_
  refine .region ?_
  refine .call0 rfl Try.call12 rfl rfl rfl (c_wormtublaw11_awake _ ) ?_
  rintro r_24 F_22 _ - l_23 rfl
  refine .assign rfl rfl ?_
  refine .nil ?_
  refine .code ?_
  exact .ret0 Try.results8 (.tmp rfl (.nil)) (i := 0) rfl (Fz.le_trans l_15 (Fz.le_trans l_20 l_23)) rfl
 ·skip
  refine .skip ?_
  refine .code ?_
  refine .seq ?_
  refine .seq ?_
  refine .region ?_
  refine .assign rfl rfl ?_
  refine .nil ?_
  refine .code ?_
  refine .block ?_
  refine .keep (.cons (k := 1) rfl (.cons (k := 2) rfl (.cons (k := 3) rfl (.cons (k := 4) rfl (.cons (k := 5) rfl (.cons (k := 6) rfl (.cons (k := 13) rfl (.nil _)))))))) ?_
  refine .loop (fun (s25 : Int) a w => ∃ (F_26 : Fz), F_19 ≤ F_26 ∧ Hd 229 [] [(1, (.slice p6 l_5.length k7)), (2, (.int .i64 day9)), (3, (.int .u16 loss10)), (4, (.int .u16 share11)), (5, (.int .u16 more12)), (6, (.pointer (some ⟨b13, 0, none⟩))), (13, (.int .i64 s25))] F_26 [R] a w) (fun b0 e a w => match b0 with | .inl b45 => e = .exit 0 ∧ ∃ (F_46 : Fz), F_19 ≤ F_46 ∧ Hd 229 [] [(1, (.slice p6 l_5.length k7)), (2, (.int .i64 day9)), (3, (.int .u16 loss10)), (4, (.int .u16 share11)), (5, (.int .u16 more12)), (6, (.pointer (some ⟨b13, 0, none⟩)))] F_46 [R] a w | .inr b45 => e = .ret ∧ ∃ (F_48 : Fz), F_19 ≤ F_48 ∧ Hd 229 [] [(12, (.bool b45))] F_48 [R] a w) ?_ ?_ ?_
  ·exact fun a w h => ⟨F_19, (Fz.le_refl _), h.1.sub (.cons (k := 1) rfl (.cons (k := 2) rfl (.cons (k := 3) rfl (.cons (k := 4) rfl (.cons (k := 5) rfl (.cons (k := 6) rfl (.cons (k := 13) rfl (.nil _)))))))), h.2⟩
  ·intro s25 ctl
   refine GC.ex (fun a w ⟨F_26, l_27, hA⟩ => ⟨_, hA, ?_⟩)
   unfold b_wormtublaw11_ExciseKinder_1
   refine .seq ?_
   refine .seq ?_
   refine .region ?_
   refine .move rfl rfl ?_
   refine .move rfl rfl ?_
   refine .lenS rfl rfl Try.underlying25 rfl ?_
   refine .lss rfl rfl rfl ?_
   refine .nil ?_
   refine .code ?_
   refine .cond rfl (fun hb28 => ?_) (fun hb28 => ?_)
   ·skip
    refine .skip ?_
    refine .code ?_
    refine .seq ?_
    refine .block ?_
    refine .seq ?_
    refine .region ?_
    refine .move rfl rfl ?_
    refine .move rfl rfl ?_
    refine .idx rfl Try.underlying25 Try.sizeOf47 (h8.mono (Fz.le_trans l_15 (Fz.le_trans l_20 l_27))) rfl rfl (fun x29 b30 o31 T32 fr33 cs34 e35 hm36 hv37 => ?_)
    refine .fieldAddr rfl Try.underlying47 rfl Try.sizeOf3 rfl ?_
    refine .loadF rfl Try.isAgg3 rfl hm36 (cell_of_take (k := 0) hv37 rfl) ?_
    refine .eql rfl rfl rfl ?_
    refine .nil ?_
    refine .code ?_
    refine .cond rfl (fun hb39 => ?_) (fun hb39 => ?_)
    ·skip
     refine .seq ?_
     refine .region ?_
     refine .call0 rfl Try.call12 rfl rfl rfl (c_wormtublaw11_awake _ ) ?_
     rintro r_42 F_40 _ - l_41 rfl
     refine .assign rfl rfl ?_
     refine .nil ?_
     refine .code ?_
     refine .retQ (LPost.ret fun a w h => ⟨rfl, F_40, (Fz.le_trans l_27 l_41), h.1.sub (.cons (k := 12) rfl (.nil _)), h.2⟩)
    ·skip
     refine .skip ?_
     refine .block ?_
     refine .code ?_
     refine .region ?_
     refine .move rfl rfl ?_
     refine .add rfl rfl rfl ?_
     refine .assignL rfl rfl (fun i43 e44 => ?_)
     refine .nil ?_
     exact .nil (LPost.norm fun a w h => ⟨F_26, l_27, h.1.sub (.cons (k := 1) rfl (.cons (k := 2) rfl (.cons (k := 3) rfl (.cons (k := 4) rfl (.cons (k := 5) rfl (.cons (k := 6) rfl (.cons (k := 13) rfl (.nil _)))))))), h.2⟩)
   ·skip
    refine .exitOut rfl (LPost.exit fun a w h => ⟨rfl, F_26, l_27, h.1.sub (.cons (k := 1) rfl (.cons (k := 2) rfl (.cons (k := 3) rfl (.cons (k := 4) rfl (.cons (k := 5) rfl (.cons (k := 6) rfl (.nil _))))))), h.2⟩)
  ·intro b45 hb0 hk e a w hD
   rcases b45 with b45 | b45
   ·skip
    obtain ⟨rfl, F_46, l_47, hA⟩ := hD
    refine interp_exit rfl (GE.app ?_ hk a w hA)
    refine .code ?_
    refine .seq ?_
    refine .region ?_
    refine .loadFA rfl Try.isAgg24 Try.sizeOf24 rfl ((Fz.le_trans l_20 l_47).mem _ _ hb16) (vs := (cApiDutyRules r_1 p2 k3)) (by kernel_rfl) rfl ?_
    refine .move rfl rfl ?_
    refine .move rfl rfl ?_
    refine .call0 rfl Try.call13 rfl rfl rfl (c_excise_Play _ r_1 p2 k3 (h4.mono (Fz.le_trans l_15 (Fz.le_trans l_20 l_47))) l_5 p6 k7 (h8.mono (Fz.le_trans l_15 (Fz.le_trans l_20 l_47))) day9) ?_
    rintro r_52 F_50 _ - l_51 ⟨p53, k54, rfl, h55⟩
    refine .move rfl rfl ?_
    refine .extract rfl rfl rfl ?_
    refine .extract rfl rfl rfl ?_
    refine .extract rfl rfl rfl ?_
    refine .alloc (cs := (cApiDutyBook (ApiDutyBook.mk (fun _ => 0) ([]) 0 0 0 0 0 0 0 0) none 0)) rfl Try.zeroValue31 rfl (fun b56 => ?_)
    refine .store (cs' := (cApiDutyBook r_52.1 p53 k54)) Try.sizeOf31 rfl rfl rfl rfl (i := 0) rfl (Nat.le_of_ble_eq_true rfl) rfl (setMany_all (by rfl)) ?_
    refine .assign rfl rfl ?_
    refine .assign rfl rfl ?_
    refine .nil ?_
    refine .code ?_
    refine .seq ?_
    refine .seq ?_
    refine .region ?_
    refine .loadFA rfl Try.isAgg24 Try.sizeOf24 rfl ((Fz.le_trans l_20 (Fz.le_trans l_47 l_51)).mem _ _ hb16) (vs := (cApiDutyRules r_1 p2 k3)) (by kernel_rfl) rfl ?_
    refine .call0 rfl Try.call23 rfl rfl rfl (c_wormtubref11_Rules _ r_1 p2 k3 (h4.mono (Fz.le_trans l_15 (Fz.le_trans l_20 (Fz.le_trans l_47 l_51))))) ?_
    rintro r_59 F_57 _ - l_58 rfl
    refine .not rfl rfl ?_
    refine .nil ?_
    refine .code ?_
    refine .cond rfl (fun hb60 => ?_) (fun hb60 => ?_)
    ·skip
     refine .seq ?_
     refine .region ?_
     refine .move rfl rfl ?_
     refine .eql rfl rfl rfl ?_
     refine .move rfl rfl ?_
     refine .andP (b := (r_52.2.2 == 1)) (b' := (r_52.2.1 == 0)) 3 65 (fun hb61 => ?_) (fun hb62 => ?_) (fun F_63 l_64 => ?_)
     ·skip
      refine .onH hb61 rfl rfl ?_
      refine .move rfl rfl ?_
      refine .onH hb61 rfl rfl ?_
      refine .eql rfl rfl rfl ?_
      refine .pickTH hb61 rfl rfl rfl ?_
      exact .fin 3 rfl rfl (by kernel_rfl) (Fz.le_refl _)
     ·skip
      refine .offH hb62 rfl rfl rfl ?_
      refine .offH hb62 rfl rfl rfl ?_
      refine .pickFH hb62 rfl rfl rfl ?_
      exact .fin 3 rfl rfl (by kernel_rfl) (Fz.le_refl _)
     refine .move rfl rfl ?_
     refine .andM (b := ((r_52.2.2 == 1) && (r_52.2.1 == 0))) 2 68 (fun hb65 z73 => ?_) (fun hb69 => ?_) (fun z72 F_70 l_71 => ?_)
     ·skip
      refine .onH hb65 rfl rfl ?_
      refine .call0 rfl Try.call12 rfl rfl rfl (c_wormtublaw11_awake _ ) ?_
      rintro r_68 F_66 _ - l_67 rfl
      refine .pickTH hb65 rfl rfl rfl ?_
      exact .finZ 2 rfl rfl (by kernel_rfl) l_67
     ·skip
      refine .offH hb69 rfl rfl rfl ?_
      refine .pickFH hb69 rfl rfl rfl ?_
      exact .fin 2 rfl rfl (by kernel_rfl) (Fz.le_refl _)
     refine .assign rfl rfl ?_
     refine .nil ?_
     refine .keep (.cons (k := 12) rfl (.nil _)) ?_
     refine .code ?_
     exact .ret0 Try.results8 (.tmp rfl (.nil)) (i := 1) rfl (Fz.le_trans l_15 (Fz.le_trans l_20 (Fz.le_trans l_47 (Fz.le_trans l_51 (Fz.le_trans l_58 (Fz.le_trans l_64 l_71)))))) rfl
    ·skip
     refine .skip ?_
     refine .code ?_
     refine .seq ?_
     refine .keep (.cons (k := 1) rfl (.cons (k := 2) rfl (.cons (k := 3) rfl (.cons (k := 4) rfl (.cons (k := 5) rfl (.cons (k := 6) rfl (.cons (k := 14) rfl (.cons (k := 15) rfl (.cons (k := 16) rfl (.nil _)))))))))) ?_
     refine .drawG 5 2 (fun env74 => [((eApiDutyRules r_1 p2 k3), fun _ => True), ((eApiDutyRules r_1 p2 k3), fun _ => True), ((.pointer (some ⟨(env74.n 20), 0, none⟩)), fun _ => True), ((.pointer (some ⟨(env74.n 30), 0, none⟩)), fun _ => True), (undef, fun _ => True)]) (fun L env74 => [pt b56 (.cells (cApiDutyBook r_52.1 p53 k54).toArray 31), R, (bif L 4 then (pt (env74.n 20) (.cells (cApiDutyRules r_1 p2 k3).toArray 24)) else (bif L 2 then (pt (env74.n 20) (.cells (cApiDutyRules (ApiDutyRules.mk ([]) 0 0 0) none 0).toArray 24)) else emp)), (bif L 3 then (pt (env74.n 30) (.cells (cApiDutyRules (ApiDutyRules.mk ([]) 0 0 0) none 0).toArray 24)) else emp)]) mixedOK (by kernel_rfl) (by kernel_rfl) rfl (fun _ => rfl) (by kernel_rfl) (fun _ => rfl) ?_ (fun env74 F_75 l_76 hphi => ?_)
     ·skip
      refine .cons (fun L env74 F_77 l_78 hL hdn hup hphi => ⟨[(6, (.pointer (some ⟨b13, 0, none⟩)))], fun S hS hV => (.cons (hS _ _ rfl) (Sub.nil _)), ?_⟩) ?_
      ·skip
       refine .loadFA rfl Try.isAgg24 Try.sizeOf24 rfl ((Fz.le_trans l_20 (Fz.le_trans l_47 (Fz.le_trans l_51 (Fz.le_trans l_58 l_78)))).mem _ _ hb16) (vs := (cApiDutyRules r_1 p2 k3)) (by kernel_rfl) rfl ?_
       exact .finV rfl rfl (Fz.le_refl _)
      refine .cons (fun L env74 F_79 l_80 hL hdn hup hphi => ⟨[(6, (.pointer (some ⟨b13, 0, none⟩)))], fun S hS hV => (.cons (hS _ _ rfl) (Sub.nil _)), ?_⟩) ?_
      ·skip
       refine .loadFA rfl Try.isAgg24 Try.sizeOf24 rfl ((Fz.le_trans l_20 (Fz.le_trans l_47 (Fz.le_trans l_51 (Fz.le_trans l_58 l_80)))).mem _ _ hb16) (vs := (cApiDutyRules r_1 p2 k3)) (by kernel_rfl) rfl ?_
       exact .finV rfl rfl (Fz.le_refl _)
      refine .cons (fun L env74 F_81 l_82 hL hdn hup hphi => ⟨[], fun S hS hV => (Sub.nil _), ?_⟩) ?_
      ·skip
       refine .alloc (cs := (cApiDutyRules (ApiDutyRules.mk ([]) 0 0 0) none 0)) rfl Try.zeroValue24 rfl (fun b83 => ?_)
       exact .finG ({ env74 with n := updN env74.n 20 b83 }) [true, true, false, true, false] rfl (by kernel_rfl) rfl rfl (Fz.le_refl _) (fun _ _ => trivial) (fun _ h => SH.placeC 2 (congrArg some ((condF (hup 1 4 rfl)).trans (condF hL))) ((condF (b := updB L 2 4) (hup 1 4 rfl)).trans (condT rfl)) h)
      refine .cons (fun L env74 F_84 l_85 hL hdn hup hphi => ⟨[], fun S hS hV => (Sub.nil _), ?_⟩) ?_
      ·skip
       refine .alloc (cs := (cApiDutyRules (ApiDutyRules.mk ([]) 0 0 0) none 0)) rfl Try.zeroValue24 rfl (fun b86 => ?_)
       exact .finG ({ env74 with n := updN env74.n 30 b86 }) [true, true, true, false, false] rfl (by kernel_rfl) rfl rfl (Fz.le_refl _) (fun _ _ => trivial) (fun _ h => SH.placeC 3 (congrArg some (condF hL)) (condT rfl) h)
      refine .cons (fun L env74 F_87 l_88 hL hdn hup hphi => ⟨[(17, (.pointer (some ⟨(env74.n 20), 0, none⟩))), (69, (eApiDutyRules r_1 p2 k3))], fun S hS hV => (.cons (hV 2 17 _ (hdn 1 2 rfl) rfl rfl) (.cons (hV 0 69 _ (hdn 1 0 rfl) rfl rfl) (Sub.nil _))), ?_⟩) ?_
      ·skip
       refine .store (cs' := (cApiDutyRules r_1 p2 k3)) Try.sizeOf24 rfl rfl rfl rfl (i := 2) (congrArg some ((condF hL).trans (condT (hdn 1 2 rfl)))) (Nat.le_of_ble_eq_true rfl) rfl (setMany_all (by rfl)) ?_
       exact .finS rfl (Fz.le_refl _) (setC 2 (condT rfl))
      exact .nil
     refine .norm (S' := [(1, (.slice p6 l_5.length k7)), (2, (.int .i64 day9)), (3, (.int .u16 loss10)), (4, (.int .u16 share11)), (5, (.int .u16 more12)), (6, (.pointer (some ⟨b13, 0, none⟩))), (14, (.pointer (some ⟨b56, 0, none⟩))), (15, (.int .i64 r_52.2.1)), (16, (.int .i64 r_52.2.2)), (17, (.pointer (some ⟨(env74.n 20), 0, none⟩))), (18, (.pointer (some ⟨(env74.n 30), 0, none⟩))), (69, (eApiDutyRules r_1 p2 k3)), (70, (eApiDutyRules r_1 p2 k3))]) (.cons (k := 1) rfl (.cons (k := 2) rfl (.cons (k := 3) rfl (.cons (k := 4) rfl (.cons (k := 5) rfl (.cons (k := 6) rfl (.cons (k := 14) rfl (.cons (k := 15) rfl (.cons (k := 16) rfl (.cons (k := 17) rfl (.cons (k := 18) rfl (.cons (k := 69) rfl (.cons (k := 70) rfl (.nil _)))))))))))))) (rfl : _ = [pt b56 (.cells (cApiDutyBook r_52.1 p53 k54).toArray 31), R, pt (env74.n 20) (.cells (cApiDutyRules r_1 p2 k3).toArray 24), pt (env74.n 30) (.cells (cApiDutyRules (ApiDutyRules.mk ([]) 0 0 0) none 0).toArray 24)]) ?_
     refine .store (cs' := (cApiDutyRules r_1 p2 k3)) Try.sizeOf24 rfl rfl rfl rfl (i := 3) rfl (Nat.le_of_ble_eq_true rfl) rfl (setMany_all (by rfl)) ?_
     refine .nil ?_
     refine .code ?_
     refine .seq ?_
     refine .region ?_
     refine .fieldAddr rfl Try.underlying24 rfl Try.sizeOf3 rfl ?_
     refine .loadF rfl Try.isAgg3 rfl ((Fz.le_trans l_20 (Fz.le_trans l_47 (Fz.le_trans l_51 (Fz.le_trans l_58 l_76)))).mem _ _ hb16) rfl ?_
     refine .move rfl rfl ?_
     refine .convI rfl Try.underlying51 Try.underlying3 rfl ?_
     refine .remC rfl (by decide) rfl rfl ?_
     refine .add rfl rfl rfl ?_
     refine .min2 rfl rfl rfl ?_
     refine .fieldAddr rfl Try.underlying24 rfl Try.sizeOf3 rfl ?_
     refine .letv (fun x89 e90 => ?_)
     have h91 : RepSl 2 (Ex cApiDutyRate) F_75 p2 k3 x89.Rates := by rw [e90]; exact (h4.mono (Fz.le_trans l_15 (Fz.le_trans l_20 (Fz.le_trans l_47 (Fz.le_trans l_51 (Fz.le_trans l_58 l_76))))))
     refine .store (cs' := (cApiDutyRules x89 p2 k3)) Try.sizeOf3 rfl rfl rfl rfl (i := 2) rfl (Nat.le_of_ble_eq_true rfl) rfl (by rw [e90]; kernel_rfl) ?_
     refine .nil ?_
     refine .code ?_
     refine .seq ?_
     refine .region ?_
     refine .fieldAddr rfl Try.underlying24 rfl Try.sizeOf3 rfl ?_
     refine .loadF rfl Try.isAgg3 rfl ((Fz.le_trans l_20 (Fz.le_trans l_47 (Fz.le_trans l_51 (Fz.le_trans l_58 l_76)))).mem _ _ hb16) rfl ?_
     refine .move rfl rfl ?_
     refine .convI rfl Try.underlying51 Try.underlying3 rfl ?_
     refine .remC rfl (by decide) rfl rfl ?_
     refine .add rfl rfl rfl ?_
     refine .min2 rfl rfl rfl ?_
     refine .fieldAddr rfl Try.underlying24 rfl Try.sizeOf3 rfl ?_
     refine .letv (fun x92 e93 => ?_)
     have h94 : RepSl 2 (Ex cApiDutyRate) F_75 p2 k3 x92.Rates := by rw [e93]; exact h91
     refine .store (cs' := (cApiDutyRules x92 p2 k3)) Try.sizeOf3 rfl rfl rfl rfl (i := 2) rfl (Nat.le_of_ble_eq_true rfl) rfl (by rw [e93]; kernel_rfl) ?_
     refine .nil ?_
     refine .keep (.cons (k := 1) rfl (.cons (k := 2) rfl (.cons (k := 5) rfl (.cons (k := 6) rfl (.cons (k := 14) rfl (.cons (k := 15) rfl (.cons (k := 16) rfl (.cons (k := 17) rfl (.cons (k := 18) rfl (.nil _)))))))))) ?_
     refine .code ?_
     refine .seq ?_
     refine .region ?_
     refine .fieldAddr rfl Try.underlying24 rfl Try.sizeOf22 rfl ?_
     refine .ownNil 2 (Ex cApiDutyRate) 53 ?_
     refine .letv (fun x96 e97 => ?_)
     refine .ownConv 0 rfl (show ([]) = x96.Rates by rw [e97]) ?_
     refine .store (cs' := (cApiDutyRules x96 none 0)) Try.sizeOf22 rfl rfl rfl rfl (i := 4) rfl (Nat.le_of_ble_eq_true rfl) rfl (by rw [e97]; kernel_rfl) ?_
     refine .nil ?_
     refine .code ?_
     refine .seq ?_
     refine .seq ?_
     refine .region ?_
     refine .assign rfl rfl ?_
     refine .nil ?_
     refine .code ?_
     refine .block ?_
     refine .keep (.cons (k := 1) rfl (.cons (k := 2) rfl (.cons (k := 5) rfl (.cons (k := 6) rfl (.cons (k := 14) rfl (.cons (k := 15) rfl (.cons (k := 16) rfl (.cons (k := 17) rfl (.cons (k := 18) rfl (.cons (k := 19) rfl (.nil _))))))))))) ?_
     refine .loop (fun (s98 : Int × ApiDutyRules) a w => ∃ (F_99 : Fz) (p101 : Option Addr) (k102 : Nat), F_75 ≤ F_99 ∧ Hd 229 [] [(1, (.slice p6 l_5.length k7)), (2, (.int .i64 day9)), (5, (.int .u16 more12)), (6, (.pointer (some ⟨b13, 0, none⟩))), (14, (.pointer (some ⟨b56, 0, none⟩))), (15, (.int .i64 r_52.2.1)), (16, (.int .i64 r_52.2.2)), (17, (.pointer (some ⟨(env74.n 20), 0, none⟩))), (18, (.pointer (some ⟨(env74.n 30), 0, none⟩))), (19, (.int .i64 s98.1))] F_99 [ownSl 2 (Ex cApiDutyRate) F_99 53 p101 k102 s98.2.Rates, pt b56 (.cells (cApiDutyBook r_52.1 p53 k54).toArray 31), R, pt (env74.n 20) (.cells (cApiDutyRules x92 p2 k3).toArray 24), pt (env74.n 30) (.cells (cApiDutyRules s98.2 p101 k102).toArray 24)] a w) (fun b187 e a w => e = .exit 2 ∧ ∃ (F_188 : Fz) (p190 : Option Addr) (k191 : Nat), F_75 ≤ F_188 ∧ Hd 229 [] [(1, (.slice p6 l_5.length k7)), (2, (.int .i64 day9)), (14, (.pointer (some ⟨b56, 0, none⟩))), (15, (.int .i64 r_52.2.1)), (16, (.int .i64 r_52.2.2)), (17, (.pointer (some ⟨(env74.n 20), 0, none⟩))), (18, (.pointer (some ⟨(env74.n 30), 0, none⟩)))] F_188 [ownSl 2 (Ex cApiDutyRate) F_188 53 p190 k191 b187.Rates, pt b56 (.cells (cApiDutyBook r_52.1 p53 k54).toArray 31), R, pt (env74.n 20) (.cells (cApiDutyRules x92 p2 k3).toArray 24), pt (env74.n 30) (.cells (cApiDutyRules b187 p190 k191).toArray 24)] a w) ?_ ?_ ?_
     ·exact fun a w h => ⟨F_75, none, 0, (Fz.le_refl _), h.1.sub (.cons (k := 1) rfl (.cons (k := 2) rfl (.cons (k := 5) rfl (.cons (k := 6) rfl (.cons (k := 14) rfl (.cons (k := 15) rfl (.cons (k := 16) rfl (.cons (k := 17) rfl (.cons (k := 18) rfl (.cons (k := 19) rfl (.nil _))))))))))), h.2⟩
     ·intro s98 ctl
      refine GC.ex (fun a w ⟨F_99, p101, k102, l_100, hA⟩ => ⟨_, hA, ?_⟩)
      unfold b_wormtublaw11_ExciseKinder_2
      refine .seq ?_
      refine .seq ?_
      refine .region ?_
      refine .move rfl rfl ?_
      refine .fieldAddr rfl Try.underlying24 rfl Try.sizeOf22 rfl ?_
      refine .loadF rfl Try.isAgg22 rfl ((Fz.le_trans l_20 (Fz.le_trans l_47 (Fz.le_trans l_51 (Fz.le_trans l_58 (Fz.le_trans l_76 l_100))))).mem _ _ hb16) rfl ?_
      refine .lenS rfl rfl Try.underlying22 rfl ?_
      refine .lss rfl rfl rfl ?_
      refine .nil ?_
      refine .code ?_
      refine .cond rfl (fun hb104 => ?_) (fun hb104 => ?_)
      ·skip
       refine .skip ?_
       refine .code ?_
       refine .seq ?_
       refine .block ?_
       refine .keep (.cons (k := 1) rfl (.cons (k := 2) rfl (.cons (k := 5) rfl (.cons (k := 6) rfl (.cons (k := 14) rfl (.cons (k := 15) rfl (.cons (k := 16) rfl (.cons (k := 17) rfl (.cons (k := 18) rfl (.cons (k := 19) rfl (.nil _))))))))))) ?_
       refine .bind (fun x106 e112 => ?_)
       obtain ⟨b107, o108, T109, fr110, cs111, hm113, hv114, hq115⟩ := RepSl.idxE (h4.mono (Fz.le_trans l_15 (Fz.le_trans l_20 (Fz.le_trans l_47 (Fz.le_trans l_51 (Fz.le_trans l_58 (Fz.le_trans l_76 l_100))))))) e112
       refine .bind (fun x116 e122 => ?_)
       obtain ⟨b117, o118, T119, fr120, cs121, hm123, hv124, hq125⟩ := RepSl.idxE (h4.mono (Fz.le_trans l_15 (Fz.le_trans l_20 (Fz.le_trans l_47 (Fz.le_trans l_51 (Fz.le_trans l_58 (Fz.le_trans l_76 l_100))))))) e122
       refine .drawGD 20 0 (fun env105 => [((.pointer (some ⟨(env74.n 30), 0 + 0, none⟩)), fun _ => True), ((.slice p101 s98.2.Rates.length k102), fun _ => True), ((.pointer (some ⟨b13, 0 + 0, none⟩)), fun _ => True), ((.slice p2 r_1.Rates.length k3), fun _ => True), ((.int .i64 s98.1), fun _ => True), ((.pointer (some ⟨b107, o108, none⟩)), fun _ => True), ((.pointer (some ⟨b107, o108, none⟩)), fun _ => True), ((.int .i64 x106.From), fun _ => True), ((.pointer (some ⟨b13, 0 + 0, none⟩)), fun _ => True), ((.slice p2 r_1.Rates.length k3), fun _ => True), ((.int .i64 s98.1), fun _ => True), ((.pointer (some ⟨b117, o118, none⟩)), fun _ => True), ((.pointer (some ⟨b117, o118 + 1, none⟩)), fun _ => True), ((.int .i64 x116.Rate), fun _ => True), ((.int .u16 more12), fun _ => True), ((.int .i64 (w64 (more12))), fun _ => True), ((.int .i64 (w64 (x116.Rate + (w64 (more12))))), fun _ => True), ((.int .i64 (imin 1048576 (w64 (x116.Rate + (w64 (more12)))))), fun _ => True), ((eApiDutyRate (ApiDutyRate.mk x106.From (imin 1048576 (w64 (x116.Rate + (w64 (more12))))))), fun _ => True), ((.slice (some ⟨env105.n 190, 0, none⟩) ([(ApiDutyRate.mk x106.From (imin 1048576 (w64 (x116.Rate + (w64 (more12))))))]).length 1), fun G => RepSl 2 (Ex cApiDutyRate) G (some ⟨env105.n 190, 0, none⟩) 1 ([(ApiDutyRate.mk x106.From (imin 1048576 (w64 (x116.Rate + (w64 (more12))))))]))]) (fun L env105 => [ownSl 2 (Ex cApiDutyRate) F_99 53 p101 k102 s98.2.Rates, pt b56 (.cells (cApiDutyBook r_52.1 p53 k54).toArray 31), R, pt (env74.n 20) (.cells (cApiDutyRules x92 p2 k3).toArray 24), pt (env74.n 30) (.cells (cApiDutyRules s98.2 p101 k102).toArray 24)]) mixedOK (by kernel_rfl) (deepN (k := 20) (n := 23) rfl (allLt23 (p := fun t => 20 ≤ t → ∀ j, j < t → ∃ s, depB _ s t j = true) (fun h => absurd h (by decide)) (fun h => absurd h (by decide)) (fun h => absurd h (by decide)) (fun h => absurd h (by decide)) (fun h => absurd h (by decide)) (fun h => absurd h (by decide)) (fun h => absurd h (by decide)) (fun h => absurd h (by decide)) (fun h => absurd h (by decide)) (fun h => absurd h (by decide)) (fun h => absurd h (by decide)) (fun h => absurd h (by decide)) (fun h => absurd h (by decide)) (fun h => absurd h (by decide)) (fun h => absurd h (by decide)) (fun h => absurd h (by decide)) (fun h => absurd h (by decide)) (fun h => absurd h (by decide)) (fun h => absurd h (by decide)) (fun h => absurd h (by decide)) (fun _ => allLt20 (p := fun j => ∃ s, depB _ s 20 j = true) ⟨2, rfl⟩ ⟨1, rfl⟩ ⟨7, rfl⟩ ⟨6, rfl⟩ ⟨6, rfl⟩ ⟨5, rfl⟩ ⟨4, rfl⟩ ⟨3, rfl⟩ ⟨9, rfl⟩ ⟨8, rfl⟩ ⟨8, rfl⟩ ⟨7, rfl⟩ ⟨6, rfl⟩ ⟨5, rfl⟩ ⟨6, rfl⟩ ⟨5, rfl⟩ ⟨4, rfl⟩ ⟨3, rfl⟩ ⟨2, rfl⟩ ⟨1, rfl⟩) (fun _ => allLt21 (p := fun j => ∃ s, depB _ s 21 j = true) ⟨1, rfl⟩ ⟨1, rfl⟩ ⟨1, rfl⟩ ⟨1, rfl⟩ ⟨1, rfl⟩ ⟨1, rfl⟩ ⟨1, rfl⟩ ⟨1, rfl⟩ ⟨1, rfl⟩ ⟨1, rfl⟩ ⟨1, rfl⟩ ⟨1, rfl⟩ ⟨1, rfl⟩ ⟨1, rfl⟩ ⟨1, rfl⟩ ⟨1, rfl⟩ ⟨1, rfl⟩ ⟨1, rfl⟩ ⟨1, rfl⟩ ⟨1, rfl⟩ ⟨1, rfl⟩) (fun _ => allLt22 (p := fun j => ∃ s, depB _ s 22 j = true) ⟨1, rfl⟩ ⟨1, rfl⟩ ⟨1, rfl⟩ ⟨1, rfl⟩ ⟨1, rfl⟩ ⟨1, rfl⟩ ⟨1, rfl⟩ ⟨1, rfl⟩ ⟨1, rfl⟩ ⟨1, rfl⟩ ⟨1, rfl⟩ ⟨1, rfl⟩ ⟨1, rfl⟩ ⟨1, rfl⟩ ⟨1, rfl⟩ ⟨1, rfl⟩ ⟨1, rfl⟩ ⟨1, rfl⟩ ⟨1, rfl⟩ ⟨1, rfl⟩ ⟨1, rfl⟩ ⟨1, rfl⟩))) rfl (fun _ => rfl) (by kernel_rfl) (fun _ => rfl) ?_ (fun env105 F_132 l_133 hphi => ?_)
       ·skip
        refine .cons (fun L env105 F_134 l_135 hL hdn hup hphi => ⟨[(18, (.pointer (some ⟨(env74.n 30), 0, none⟩)))], fun S hS hV => (.cons (hS _ _ rfl) (Sub.nil _)), ?_⟩) ?_
        ·skip
         refine .fieldAddr rfl Try.underlying24 rfl Try.sizeOf22 rfl ?_
         exact .finV rfl rfl (Fz.le_refl _)
        refine .cons (fun L env105 F_136 l_137 hL hdn hup hphi => ⟨[(95, (.pointer (some ⟨(env74.n 30), 0 + 0, none⟩)))], fun S hS hV => (.cons (hV 0 95 _ (hdn 1 0 rfl) rfl rfl) (Sub.nil _)), ?_⟩) ?_
        ·skip
         refine .loadO rfl Try.isAgg22 rfl (i := 4) rfl rfl ?_
         exact .finV rfl rfl (Fz.le_refl _)
        refine .cons (fun L env105 F_138 l_139 hL hdn hup hphi => ⟨[(6, (.pointer (some ⟨b13, 0, none⟩)))], fun S hS hV => (.cons (hS _ _ rfl) (Sub.nil _)), ?_⟩) ?_
        ·skip
         refine .fieldAddr rfl Try.underlying24 rfl Try.sizeOf22 rfl ?_
         exact .finV rfl rfl (Fz.le_refl _)
        refine .cons (fun L env105 F_140 l_141 hL hdn hup hphi => ⟨[(97, (.pointer (some ⟨b13, 0 + 0, none⟩)))], fun S hS hV => (.cons (hV 2 97 _ (hdn 1 2 rfl) rfl rfl) (Sub.nil _)), ?_⟩) ?_
        ·skip
         refine .loadF rfl Try.isAgg22 rfl ((Fz.le_trans l_20 (Fz.le_trans l_47 (Fz.le_trans l_51 (Fz.le_trans l_58 (Fz.le_trans l_76 (Fz.le_trans l_100 l_141)))))).mem _ _ hb16) rfl ?_
         exact .finV rfl rfl (Fz.le_refl _)
        refine .cons (fun L env105 F_142 l_143 hL hdn hup hphi => ⟨[(19, (.int .i64 s98.1))], fun S hS hV => (.cons (hS _ _ rfl) (Sub.nil _)), ?_⟩) ?_
        ·skip
         refine .move rfl rfl ?_
         exact .finV rfl rfl (Fz.le_refl _)
        refine .cons (fun L env105 F_144 l_145 hL hdn hup hphi => ⟨[(98, (.slice p2 r_1.Rates.length k3)), (99, (.int .i64 s98.1))], fun S hS hV => (.cons (hV 3 98 _ (hdn 1 3 rfl) rfl rfl) (.cons (hV 4 99 _ (hdn 1 4 rfl) rfl rfl) (Sub.nil _))), ?_⟩) ?_
        ·skip
         refine .idxQ rfl Try.underlying22 Try.sizeOf53 hq115 rfl rfl ?_
         exact .finV rfl rfl (Fz.le_refl _)
        refine .cons (fun L env105 F_146 l_147 hL hdn hup hphi => ⟨[(100, (.pointer (some ⟨b107, o108, none⟩)))], fun S hS hV => (.cons (hV 5 100 _ (hdn 1 5 rfl) rfl rfl) (Sub.nil _)), ?_⟩) ?_
        ·skip
         refine .fieldAddr rfl Try.underlying53 rfl Try.sizeOf3 rfl ?_
         exact .finV rfl rfl (Fz.le_refl _)
        refine .cons (fun L env105 F_148 l_149 hL hdn hup hphi => ⟨[(101, (.pointer (some ⟨b107, o108, none⟩)))], fun S hS hV => (.cons (hV 6 101 _ (hdn 1 6 rfl) rfl rfl) (Sub.nil _)), ?_⟩) ?_
        ·skip
         refine .loadF rfl Try.isAgg3 rfl (l_149.mem _ _ hm113) (cell_of_take (k := 0) hv114 rfl) ?_
         exact .finV rfl rfl (Fz.le_refl _)
        refine .cons (fun L env105 F_150 l_151 hL hdn hup hphi => ⟨[(6, (.pointer (some ⟨b13, 0, none⟩)))], fun S hS hV => (.cons (hS _ _ rfl) (Sub.nil _)), ?_⟩) ?_
        ·skip
         refine .fieldAddr rfl Try.underlying24 rfl Try.sizeOf22 rfl ?_
         exact .finV rfl rfl (Fz.le_refl _)
        refine .cons (fun L env105 F_152 l_153 hL hdn hup hphi => ⟨[(103, (.pointer (some ⟨b13, 0 + 0, none⟩)))], fun S hS hV => (.cons (hV 8 103 _ (hdn 1 8 rfl) rfl rfl) (Sub.nil _)), ?_⟩) ?_
        ·skip
         refine .loadF rfl Try.isAgg22 rfl ((Fz.le_trans l_20 (Fz.le_trans l_47 (Fz.le_trans l_51 (Fz.le_trans l_58 (Fz.le_trans l_76 (Fz.le_trans l_100 l_153)))))).mem _ _ hb16) rfl ?_
         exact .finV rfl rfl (Fz.le_refl _)
        refine .cons (fun L env105 F_154 l_155 hL hdn hup hphi => ⟨[(19, (.int .i64 s98.1))], fun S hS hV => (.cons (hS _ _ rfl) (Sub.nil _)), ?_⟩) ?_
        ·skip
         refine .move rfl rfl ?_
         exact .finV rfl rfl (Fz.le_refl _)
        refine .cons (fun L env105 F_156 l_157 hL hdn hup hphi => ⟨[(104, (.slice p2 r_1.Rates.length k3)), (105, (.int .i64 s98.1))], fun S hS hV => (.cons (hV 9 104 _ (hdn 1 9 rfl) rfl rfl) (.cons (hV 10 105 _ (hdn 1 10 rfl) rfl rfl) (Sub.nil _))), ?_⟩) ?_
        ·skip
         refine .idxQ rfl Try.underlying22 Try.sizeOf53 hq125 rfl rfl ?_
         exact .finV rfl rfl (Fz.le_refl _)
        refine .cons (fun L env105 F_158 l_159 hL hdn hup hphi => ⟨[(106, (.pointer (some ⟨b117, o118, none⟩)))], fun S hS hV => (.cons (hV 11 106 _ (hdn 1 11 rfl) rfl rfl) (Sub.nil _)), ?_⟩) ?_
        ·skip
         refine .fieldAddr rfl Try.underlying53 rfl Try.sizeOf3 rfl ?_
         exact .finV rfl rfl (Fz.le_refl _)
        refine .cons (fun L env105 F_160 l_161 hL hdn hup hphi => ⟨[(107, (.pointer (some ⟨b117, o118 + 1, none⟩)))], fun S hS hV => (.cons (hV 12 107 _ (hdn 1 12 rfl) rfl rfl) (Sub.nil _)), ?_⟩) ?_
        ·skip
         refine .loadF rfl Try.isAgg3 rfl (l_161.mem _ _ hm123) (cell_of_take (k := 1) hv124 rfl) ?_
         exact .finV rfl rfl (Fz.le_refl _)
        refine .cons (fun L env105 F_162 l_163 hL hdn hup hphi => ⟨[(5, (.int .u16 more12))], fun S hS hV => (.cons (hS _ _ rfl) (Sub.nil _)), ?_⟩) ?_
        ·skip
         refine .move rfl rfl ?_
         exact .finV rfl rfl (Fz.le_refl _)
        refine .cons (fun L env105 F_164 l_165 hL hdn hup hphi => ⟨[(109, (.int .u16 more12))], fun S hS hV => (.cons (hV 14 109 _ (hdn 1 14 rfl) rfl rfl) (Sub.nil _)), ?_⟩) ?_
        ·skip
         refine .convI rfl Try.underlying51 Try.underlying3 rfl ?_
         exact .finV rfl rfl (Fz.le_refl _)
        refine .cons (fun L env105 F_166 l_167 hL hdn hup hphi => ⟨[(108, (.int .i64 x116.Rate)), (110, (.int .i64 (w64 (more12))))], fun S hS hV => (.cons (hV 13 108 _ (hdn 1 13 rfl) rfl rfl) (.cons (hV 15 110 _ (hdn 1 15 rfl) rfl rfl) (Sub.nil _))), ?_⟩) ?_
        ·skip
         refine .add rfl rfl rfl ?_
         exact .finV rfl rfl (Fz.le_refl _)
        refine .cons (fun L env105 F_168 l_169 hL hdn hup hphi => ⟨[(111, (.int .i64 (w64 (x116.Rate + (w64 (more12))))))], fun S hS hV => (.cons (hV 16 111 _ (hdn 1 16 rfl) rfl rfl) (Sub.nil _)), ?_⟩) ?_
        ·skip
         refine .min2 rfl rfl rfl ?_
         exact .finV rfl rfl (Fz.le_refl _)
        refine .cons (fun L env105 F_170 l_171 hL hdn hup hphi => ⟨[(102, (.int .i64 x106.From)), (112, (.int .i64 (imin 1048576 (w64 (x116.Rate + (w64 (more12)))))))], fun S hS hV => (.cons (hV 7 102 _ (hdn 1 7 rfl) rfl rfl) (.cons (hV 17 112 _ (hdn 1 17 rfl) rfl rfl) (Sub.nil _))), ?_⟩) ?_
        ·skip
         refine .build (cs := (cApiDutyRate (ApiDutyRate.mk x106.From (imin 1048576 (w64 (x116.Rate + (w64 (more12))))))).toArray) rfl Try.underlying53 Try.zeroValue53 (plApiDutyRate _ Try.underlying53) rfl rfl (by kernel_rfl) ?_
         exact .finV rfl rfl (Fz.le_refl _)
        refine .cons (fun L env105 F_172 l_173 hL hdn hup hphi => ⟨[(113, (eApiDutyRate (ApiDutyRate.mk x106.From (imin 1048576 (w64 (x116.Rate + (w64 (more12))))))))], fun S hS hV => (.cons (hV 18 113 _ (hdn 1 18 rfl) rfl rfl) (Sub.nil _)), ?_⟩) ?_
        ·skip
         refine .sliceLit (cs := [.int .i64 (ApiDutyRate.mk x106.From (imin 1048576 (w64 (x116.Rate + (w64 (more12)))))).From, .int .i64 (ApiDutyRate.mk x106.From (imin 1048576 (w64 (x116.Rate + (w64 (more12)))))).Rate]) (zc := [.int .i64 (ApiDutyRate.mk 0 0).From, .int .i64 (ApiDutyRate.mk 0 0).Rate]) rfl Try.underlying22 Try.sizeOf53 Try.zeroValue53 rfl rfl rfl (by kernel_rfl) (by kernel_rfl) (fun b174 F_175 l_176 hb177 => ?_)
         have h178 : RepSl 2 (Ex cApiDutyRate) F_175 (some ⟨b174, 0, none⟩) 1 ([(ApiDutyRate.mk x106.From (imin 1048576 (w64 (x116.Rate + (w64 (more12))))))]) := RepSl.ofRow hb177 (.cons ok_t53.mono rfl .nil) rfl rfl
         exact .finQ ({ env105 with a := env105.a, n := (updN env105.n 190 b174), c := env105.c, o := env105.o }) [true, true, true, true, true, true, true, true, true, true, true, true, true, true, true, true, true, true, true, false] rfl (by kernel_rfl) rfl rfl l_176 (fun _ le => h178.mono le) (cons_eq rfl (cons_eq rfl (cons_eq rfl (cons_eq rfl (cons_eq rfl rfl)))))
        exact .nil
       have h131 := hphi 19 _ rfl
       refine .norm (S' := [(1, (.slice p6 l_5.length k7)), (2, (.int .i64 day9)), (5, (.int .u16 more12)), (6, (.pointer (some ⟨b13, 0, none⟩))), (14, (.pointer (some ⟨b56, 0, none⟩))), (15, (.int .i64 r_52.2.1)), (16, (.int .i64 r_52.2.2)), (17, (.pointer (some ⟨(env74.n 20), 0, none⟩))), (18, (.pointer (some ⟨(env74.n 30), 0, none⟩))), (19, (.int .i64 s98.1)), (95, (.pointer (some ⟨(env74.n 30), 0 + 0, none⟩))), (96, (.slice p101 s98.2.Rates.length k102)), (97, (.pointer (some ⟨b13, 0 + 0, none⟩))), (98, (.slice p2 r_1.Rates.length k3)), (99, (.int .i64 s98.1)), (100, (.pointer (some ⟨b107, o108, none⟩))), (101, (.pointer (some ⟨b107, o108, none⟩))), (102, (.int .i64 x106.From)), (103, (.pointer (some ⟨b13, 0 + 0, none⟩))), (104, (.slice p2 r_1.Rates.length k3)), (105, (.int .i64 s98.1)), (106, (.pointer (some ⟨b117, o118, none⟩))), (107, (.pointer (some ⟨b117, o118 + 1, none⟩))), (108, (.int .i64 x116.Rate)), (109, (.int .u16 more12)), (110, (.int .i64 (w64 (more12)))), (111, (.int .i64 (w64 (x116.Rate + (w64 (more12)))))), (112, (.int .i64 (imin 1048576 (w64 (x116.Rate + (w64 (more12))))))), (113, (eApiDutyRate (ApiDutyRate.mk x106.From (imin 1048576 (w64 (x116.Rate + (w64 (more12)))))))), (114, (.slice (some ⟨env105.n 190, 0, none⟩) ([(ApiDutyRate.mk x106.From (imin 1048576 (w64 (x116.Rate + (w64 (more12))))))]).length 1))]) (.cons (k := 1) rfl (.cons (k := 2) rfl (.cons (k := 5) rfl (.cons (k := 6) rfl (.cons (k := 14) rfl (.cons (k := 15) rfl (.cons (k := 16) rfl (.cons (k := 17) rfl (.cons (k := 18) rfl (.cons (k := 19) rfl (.cons (k := 95) rfl (.cons (k := 96) rfl (.cons (k := 97) rfl (.cons (k := 98) rfl (.cons (k := 99) rfl (.cons (k := 100) rfl (.cons (k := 101) rfl (.cons (k := 102) rfl (.cons (k := 103) rfl (.cons (k := 104) rfl (.cons (k := 105) rfl (.cons (k := 106) rfl (.cons (k := 107) rfl (.cons (k := 108) rfl (.cons (k := 109) rfl (.cons (k := 110) rfl (.cons (k := 111) rfl (.cons (k := 112) rfl (.cons (k := 113) rfl (.cons (k := 114) rfl (.nil _))))))))))))))))))))))))))))))) (rfl : _ = [ownSl 2 (Ex cApiDutyRate) F_99 53 p101 k102 s98.2.Rates, pt b56 (.cells (cApiDutyBook r_52.1 p53 k54).toArray 31), R, pt (env74.n 20) (.cells (cApiDutyRules x92 p2 k3).toArray 24), pt (env74.n 30) (.cells (cApiDutyRules s98.2 p101 k102).toArray 24)]) ?_
       refine .append 0 ok_t53 l_133 rfl Try.underlying22 Try.underlying22 rfl rfl rfl h131 rfl rfl (fun l_179 p180 k181 e182 => ?_)
       refine .fieldAddr rfl Try.underlying24 rfl Try.sizeOf22 rfl ?_
       refine .letv (fun x183 e184 => ?_)
       refine .ownConv 0 rfl (show l_179 = x183.Rates by rw [e184]) ?_
       refine .store (cs' := (cApiDutyRules x183 p180 k181)) Try.sizeOf22 rfl rfl rfl rfl (i := 4) rfl (Nat.le_of_ble_eq_true rfl) rfl (by rw [e184]; kernel_rfl) ?_
       refine .nil ?_
       refine .block ?_
       refine .keep (.cons (k := 1) rfl (.cons (k := 2) rfl (.cons (k := 5) rfl (.cons (k := 6) rfl (.cons (k := 14) rfl (.cons (k := 15) rfl (.cons (k := 16) rfl (.cons (k := 17) rfl (.cons (k := 18) rfl (.cons (k := 19) rfl (.nil _))))))))))) ?_
       refine .code ?_
       refine .region ?_
       refine .move rfl rfl ?_
       refine .add rfl rfl rfl ?_
       refine .assignL rfl rfl (fun i185 e186 => ?_)
       refine .nil ?_
       exact .nil (LPost.norm fun a w h => ⟨F_132, p180, k181, (Fz.le_trans l_100 l_133), h.1.sub (.cons (k := 1) rfl (.cons (k := 2) rfl (.cons (k := 5) rfl (.cons (k := 6) rfl (.cons (k := 14) rfl (.cons (k := 15) rfl (.cons (k := 16) rfl (.cons (k := 17) rfl (.cons (k := 18) rfl (.cons (k := 19) rfl (.nil _))))))))))), h.2⟩)
      ·skip
       refine .exitOut rfl (LPost.exit fun a w h => ⟨rfl, F_99, p101, k102, l_100, h.1.sub (.cons (k := 1) rfl (.cons (k := 2) rfl (.cons (k := 14) rfl (.cons (k := 15) rfl (.cons (k := 16) rfl (.cons (k := 17) rfl (.cons (k := 18) rfl (.nil _)))))))), h.2⟩)
     ·intro b187 hb0 hk e a w hD
      obtain ⟨rfl, F_188, p190, k191, l_189, hA⟩ := hD
      refine interp_exit rfl (GE.app ?_ hk a w hA)
      refine .code ?_
      refine .seq ?_
      refine .region ?_
      refine .loadOA rfl Try.isAgg24 Try.sizeOf24 rfl (i := 3) rfl (vs := (cApiDutyRules x92 p2 k3)) (by kernel_rfl) rfl ?_
      refine .move rfl rfl ?_
      refine .move rfl rfl ?_
      refine .call0 rfl Try.call13 rfl rfl rfl (c_excise_Play _ x92 p2 k3 (h94.mono l_189) l_5 p6 k7 (h8.mono (Fz.le_trans l_15 (Fz.le_trans l_20 (Fz.le_trans l_47 (Fz.le_trans l_51 (Fz.le_trans l_58 (Fz.le_trans l_76 l_189))))))) day9) ?_
      rintro r_195 F_193 _ - l_194 ⟨p196, k197, rfl, h198⟩
      refine .move rfl rfl ?_
      refine .extract rfl rfl rfl ?_
      refine .extract rfl rfl rfl ?_
      refine .extract rfl rfl rfl ?_
      refine .alloc (cs := (cApiDutyBook (ApiDutyBook.mk (fun _ => 0) ([]) 0 0 0 0 0 0 0 0) none 0)) rfl Try.zeroValue31 rfl (fun b199 => ?_)
      refine .store (cs' := (cApiDutyBook r_195.1 p196 k197)) Try.sizeOf31 rfl rfl rfl rfl (i := 0) rfl (Nat.le_of_ble_eq_true rfl) rfl (setMany_all (by rfl)) ?_
      refine .assign rfl rfl ?_
      refine .assign rfl rfl ?_
      refine .nil ?_
      refine .code ?_
      refine .seq ?_
      refine .region ?_
      refine .loadOA rfl Try.isAgg24 Try.sizeOf24 rfl (i := 5) rfl (vs := (cApiDutyRules b187 p190 k191)) (by kernel_rfl) rfl ?_
      refine .move rfl rfl ?_
      refine .move rfl rfl ?_
      refine .freezeSl 1 rfl l_194 (fun F_200 l_201 h202 => ?_)
      refine .call0 rfl Try.call13 rfl rfl rfl (c_excise_Play _ b187 p190 k191 h202 l_5 p6 k7 (h8.mono (Fz.le_trans l_15 (Fz.le_trans l_20 (Fz.le_trans l_47 (Fz.le_trans l_51 (Fz.le_trans l_58 (Fz.le_trans l_76 (Fz.le_trans l_189 (Fz.le_trans l_194 l_201))))))))) day9) ?_
      rintro r_205 F_203 _ - l_204 ⟨p206, k207, rfl, h208⟩
      refine .move rfl rfl ?_
      refine .extract rfl rfl rfl ?_
      refine .extract rfl rfl rfl ?_
      refine .extract rfl rfl rfl ?_
      refine .alloc (cs := (cApiDutyBook (ApiDutyBook.mk (fun _ => 0) ([]) 0 0 0 0 0 0 0 0) none 0)) rfl Try.zeroValue31 rfl (fun b209 => ?_)
      refine .store (cs' := (cApiDutyBook r_205.1 p206 k207)) Try.sizeOf31 rfl rfl rfl rfl (i := 0) rfl (Nat.le_of_ble_eq_true rfl) rfl (setMany_all (by rfl)) ?_
      refine .assign rfl rfl ?_
      refine .assign rfl rfl ?_
      refine .nil ?_
      refine .keep (.cons (k := 14) rfl (.cons (k := 15) rfl (.cons (k := 16) rfl (.cons (k := 20) rfl (.cons (k := 21) rfl (.cons (k := 22) rfl (.cons (k := 23) rfl (.cons (k := 24) rfl (.cons (k := 25) rfl (.nil _)))))))))) ?_
      refine .code ?_
      refine .seq ?_
      refine .seq ?_
      refine .region ?_
      refine .move rfl rfl ?_
      refine .move rfl rfl ?_
      refine .neq rfl rfl rfl ?_
      refine .move rfl rfl ?_
      refine .orP (b := (r_195.2.2 != r_52.2.2)) (b' := (r_205.2.2 != r_52.2.2)) 4 140 (fun hb210 => ?_) (fun hb211 => ?_) (fun F_212 l_213 => ?_)
      ·skip
       refine .onH hb210 rfl rfl ?_
       refine .move rfl rfl ?_
       refine .onH hb210 rfl rfl ?_
       refine .move rfl rfl ?_
       refine .onH hb210 rfl rfl ?_
       refine .neq rfl rfl rfl ?_
       refine .pickFH hb210 rfl rfl rfl ?_
       exact .fin 4 rfl rfl (by kernel_rfl) (Fz.le_refl _)
      ·skip
       refine .offH hb211 rfl rfl rfl ?_
       refine .offH hb211 rfl rfl rfl ?_
       refine .offH hb211 rfl rfl rfl ?_
       refine .pickTH hb211 rfl rfl rfl ?_
       exact .fin 4 rfl rfl (by kernel_rfl) (Fz.le_refl _)
      refine .move rfl rfl ?_
      refine .orP (b := ((r_195.2.2 != r_52.2.2) || (r_205.2.2 != r_52.2.2))) (b' := (r_195.2.1 != r_52.2.1)) 4 145 (fun hb214 => ?_) (fun hb215 => ?_) (fun F_216 l_217 => ?_)
      ·skip
       refine .onH hb214 rfl rfl ?_
       refine .move rfl rfl ?_
       refine .onH hb214 rfl rfl ?_
       refine .move rfl rfl ?_
       refine .onH hb214 rfl rfl ?_
       refine .neq rfl rfl rfl ?_
       refine .pickFH hb214 rfl rfl rfl ?_
       exact .fin 4 rfl rfl (by kernel_rfl) (Fz.le_refl _)
      ·skip
       refine .offH hb215 rfl rfl rfl ?_
       refine .offH hb215 rfl rfl rfl ?_
       refine .offH hb215 rfl rfl rfl ?_
       refine .pickTH hb215 rfl rfl rfl ?_
       exact .fin 4 rfl rfl (by kernel_rfl) (Fz.le_refl _)
      refine .move rfl rfl ?_
      refine .orP (b := (((r_195.2.2 != r_52.2.2) || (r_205.2.2 != r_52.2.2)) || (r_195.2.1 != r_52.2.1))) (b' := (r_205.2.1 != r_52.2.1)) 4 150 (fun hb218 => ?_) (fun hb219 => ?_) (fun F_220 l_221 => ?_)
      ·skip
       refine .onH hb218 rfl rfl ?_
       refine .move rfl rfl ?_
       refine .onH hb218 rfl rfl ?_
       refine .move rfl rfl ?_
       refine .onH hb218 rfl rfl ?_
       refine .neq rfl rfl rfl ?_
       refine .pickFH hb218 rfl rfl rfl ?_
       exact .fin 4 rfl rfl (by kernel_rfl) (Fz.le_refl _)
      ·skip
       refine .offH hb219 rfl rfl rfl ?_
       refine .offH hb219 rfl rfl rfl ?_
       refine .offH hb219 rfl rfl rfl ?_
       refine .pickTH hb219 rfl rfl rfl ?_
       exact .fin 4 rfl rfl (by kernel_rfl) (Fz.le_refl _)
      refine .nil ?_
      refine .code ?_
      refine .cond rfl (fun hb222 => ?_) (fun hb222 => ?_)
      ·skip
       refine .seq ?_
       refine .region ?_
       refine .assign rfl rfl ?_
       refine .nil ?_
       refine .code ?_
       exact .ret0 Try.results8 (.tmp rfl (.nil)) (i := 3) rfl (Fz.le_trans l_15 (Fz.le_trans l_20 (Fz.le_trans l_47 (Fz.le_trans l_51 (Fz.le_trans l_58 (Fz.le_trans l_76 (Fz.le_trans l_189 (Fz.le_trans l_194 (Fz.le_trans l_201 (Fz.le_trans l_204 (Fz.le_trans l_213 (Fz.le_trans l_217 l_221)))))))))))) rfl
      ·skip
       refine .skip ?_
       refine .code ?_
       refine .seq ?_
       refine .seq ?_
       refine .region ?_
       refine .move rfl rfl ?_
       refine .neq rfl rfl rfl ?_
       refine .nil ?_
       refine .code ?_
       refine .cond rfl (fun hb223 => ?_) (fun hb223 => ?_)
       ·skip
        refine .seq ?_
        refine .region ?_
        refine .call0 rfl Try.call12 rfl rfl rfl (c_wormtublaw11_awake _ ) ?_
        rintro r_226 F_224 _ - l_225 rfl
        refine .assign rfl rfl ?_
        refine .nil ?_
        refine .code ?_
        exact .ret0 Try.results8 (.tmp rfl (.nil)) (i := 3) rfl (Fz.le_trans l_15 (Fz.le_trans l_20 (Fz.le_trans l_47 (Fz.le_trans l_51 (Fz.le_trans l_58 (Fz.le_trans l_76 (Fz.le_trans l_189 (Fz.le_trans l_194 (Fz.le_trans l_201 (Fz.le_trans l_204 (Fz.le_trans l_213 (Fz.le_trans l_217 (Fz.le_trans l_221 l_225))))))))))))) rfl
       ·skip
        refine .skip ?_
        refine .code ?_
        refine .seq ?_
        refine .seq ?_
        refine .region ?_
        refine .fieldAddr rfl Try.underlying31 rfl Try.sizeOf3 rfl ?_
        refine .loadO rfl Try.isAgg3 rfl (i := 1) rfl rfl ?_
        refine .fieldAddr rfl Try.underlying31 rfl Try.sizeOf3 rfl ?_
        refine .loadO rfl Try.isAgg3 rfl (i := 2) rfl rfl ?_
        refine .gtr rfl rfl rfl ?_
        refine .move rfl rfl ?_
        refine .orP (b := (decide (r_195.1.Charged > r_52.1.Charged))) (b' := (decide (r_195.1.Due > r_52.1.Due))) 6 165 (fun hb227 => ?_) (fun hb228 => ?_) (fun F_229 l_230 => ?_)
        ·skip
         refine .onH hb227 rfl rfl ?_
         refine .fieldAddr rfl Try.underlying31 rfl Try.sizeOf3 rfl ?_
         refine .onH hb227 rfl rfl ?_
         refine .loadO rfl Try.isAgg3 rfl (i := 1) rfl rfl ?_
         refine .onH hb227 rfl rfl ?_
         refine .fieldAddr rfl Try.underlying31 rfl Try.sizeOf3 rfl ?_
         refine .onH hb227 rfl rfl ?_
         refine .loadO rfl Try.isAgg3 rfl (i := 2) rfl rfl ?_
         refine .onH hb227 rfl rfl ?_
         refine .gtr rfl rfl rfl ?_
         refine .pickFH hb227 rfl rfl rfl ?_
         exact .fin 6 rfl rfl (by kernel_rfl) (Fz.le_refl _)
        ·skip
         refine .offH hb228 rfl rfl rfl ?_
         refine .offH hb228 rfl rfl rfl ?_
         refine .offH hb228 rfl rfl rfl ?_
         refine .offH hb228 rfl rfl rfl ?_
         refine .offH hb228 rfl rfl rfl ?_
         refine .pickTH hb228 rfl rfl rfl ?_
         exact .fin 6 rfl rfl (by kernel_rfl) (Fz.le_refl _)
        refine .move rfl rfl ?_
        refine .orP (b := ((decide (r_195.1.Charged > r_52.1.Charged)) || (decide (r_195.1.Due > r_52.1.Due)))) (b' := ((w64 (r_195.1.Lost + r_195.1.Charged)) != (w64 (r_52.1.Lost + r_52.1.Charged)))) 12 178 (fun hb231 => ?_) (fun hb232 => ?_) (fun F_233 l_234 => ?_)
        ·skip
         refine .onH hb231 rfl rfl ?_
         refine .fieldAddr rfl Try.underlying31 rfl Try.sizeOf3 rfl ?_
         refine .onH hb231 rfl rfl ?_
         refine .loadO rfl Try.isAgg3 rfl (i := 1) rfl rfl ?_
         refine .onH hb231 rfl rfl ?_
         refine .fieldAddr rfl Try.underlying31 rfl Try.sizeOf3 rfl ?_
         refine .onH hb231 rfl rfl ?_
         refine .loadO rfl Try.isAgg3 rfl (i := 1) rfl rfl ?_
         refine .onH hb231 rfl rfl ?_
         refine .add rfl rfl rfl ?_
         refine .onH hb231 rfl rfl ?_
         refine .fieldAddr rfl Try.underlying31 rfl Try.sizeOf3 rfl ?_
         refine .onH hb231 rfl rfl ?_
         refine .loadO rfl Try.isAgg3 rfl (i := 2) rfl rfl ?_
         refine .onH hb231 rfl rfl ?_
         refine .fieldAddr rfl Try.underlying31 rfl Try.sizeOf3 rfl ?_
         refine .onH hb231 rfl rfl ?_
         refine .loadO rfl Try.isAgg3 rfl (i := 2) rfl rfl ?_
         refine .onH hb231 rfl rfl ?_
         refine .add rfl rfl rfl ?_
         refine .onH hb231 rfl rfl ?_
         refine .neq rfl rfl rfl ?_
         refine .pickFH hb231 rfl rfl rfl ?_
         exact .fin 12 rfl rfl (by kernel_rfl) (Fz.le_refl _)
        ·skip
         refine .offH hb232 rfl rfl rfl ?_
         refine .offH hb232 rfl rfl rfl ?_
         refine .offH hb232 rfl rfl rfl ?_
         refine .offH hb232 rfl rfl rfl ?_
         refine .offH hb232 rfl rfl rfl ?_
         refine .offH hb232 rfl rfl rfl ?_
         refine .offH hb232 rfl rfl rfl ?_
         refine .offH hb232 rfl rfl rfl ?_
         refine .offH hb232 rfl rfl rfl ?_
         refine .offH hb232 rfl rfl rfl ?_
         refine .offH hb232 rfl rfl rfl ?_
         refine .pickTH hb232 rfl rfl rfl ?_
         exact .fin 12 rfl rfl (by kernel_rfl) (Fz.le_refl _)
        refine .move rfl rfl ?_
        refine .orP (b := (((decide (r_195.1.Charged > r_52.1.Charged)) || (decide (r_195.1.Due > r_52.1.Due))) || ((w64 (r_195.1.Lost + r_195.1.Charged)) != (w64 (r_52.1.Lost + r_52.1.Charged))))) (b' := (r_195.1.Used != r_52.1.Used)) 6 185 (fun hb235 => ?_) (fun hb236 => ?_) (fun F_237 l_238 => ?_)
        ·skip
         refine .onH hb235 rfl rfl ?_
         refine .fieldAddr rfl Try.underlying31 rfl Try.sizeOf3 rfl ?_
         refine .onH hb235 rfl rfl ?_
         refine .loadO rfl Try.isAgg3 rfl (i := 1) rfl rfl ?_
         refine .onH hb235 rfl rfl ?_
         refine .fieldAddr rfl Try.underlying31 rfl Try.sizeOf3 rfl ?_
         refine .onH hb235 rfl rfl ?_
         refine .loadO rfl Try.isAgg3 rfl (i := 2) rfl rfl ?_
         refine .onH hb235 rfl rfl ?_
         refine .neq rfl rfl rfl ?_
         refine .pickFH hb235 rfl rfl rfl ?_
         exact .fin 6 rfl rfl (by kernel_rfl) (Fz.le_refl _)
        ·skip
         refine .offH hb236 rfl rfl rfl ?_
         refine .offH hb236 rfl rfl rfl ?_
         refine .offH hb236 rfl rfl rfl ?_
         refine .offH hb236 rfl rfl rfl ?_
         refine .offH hb236 rfl rfl rfl ?_
         refine .pickTH hb236 rfl rfl rfl ?_
         exact .fin 6 rfl rfl (by kernel_rfl) (Fz.le_refl _)
        refine .move rfl rfl ?_
        refine .orP (b := ((((decide (r_195.1.Charged > r_52.1.Charged)) || (decide (r_195.1.Due > r_52.1.Due))) || ((w64 (r_195.1.Lost + r_195.1.Charged)) != (w64 (r_52.1.Lost + r_52.1.Charged)))) || (r_195.1.Used != r_52.1.Used))) (b' := (!(eq_28 r_195.1.Bonds r_52.1.Bonds))) 6 192 (fun hb239 => ?_) (fun hb240 => ?_) (fun F_241 l_242 => ?_)
        ·skip
         refine .onH hb239 rfl rfl ?_
         refine .fieldAddr rfl Try.underlying31 rfl Try.sizeOf28 rfl ?_
         refine .onH hb239 rfl rfl ?_
         refine .loadOA rfl Try.isAgg28 Try.sizeOf28 rfl (i := 1) rfl (vs := ((cArr 16 (cInt .i64)) r_195.1.Bonds)) (by kernel_rfl) rfl ?_
         refine .onH hb239 rfl rfl ?_
         refine .fieldAddr rfl Try.underlying31 rfl Try.sizeOf28 rfl ?_
         refine .onH hb239 rfl rfl ?_
         refine .loadOA rfl Try.isAgg28 Try.sizeOf28 rfl (i := 2) rfl (vs := ((cArr 16 (cInt .i64)) r_52.1.Bonds)) (by kernel_rfl) rfl ?_
         refine .onH hb239 rfl rfl ?_
         refine .neqR rfl Try.eqGuardType28 (fun w => req_28 r_195.1.Bonds r_52.1.Bonds w) rfl rfl ?_
         refine .pickFH hb239 rfl rfl rfl ?_
         exact .fin 6 rfl rfl (by kernel_rfl) (Fz.le_refl _)
        ·skip
         refine .offH hb240 rfl rfl rfl ?_
         refine .offH hb240 rfl rfl rfl ?_
         refine .offH hb240 rfl rfl rfl ?_
         refine .offH hb240 rfl rfl rfl ?_
         refine .offH hb240 rfl rfl rfl ?_
         refine .pickTH hb240 rfl rfl rfl ?_
         exact .fin 6 rfl rfl (by kernel_rfl) (Fz.le_refl _)
        refine .move rfl rfl ?_
        refine .orP (b := (((((decide (r_195.1.Charged > r_52.1.Charged)) || (decide (r_195.1.Due > r_52.1.Due))) || ((w64 (r_195.1.Lost + r_195.1.Charged)) != (w64 (r_52.1.Lost + r_52.1.Charged)))) || (r_195.1.Used != r_52.1.Used)) || (!(eq_28 r_195.1.Bonds r_52.1.Bonds)))) (b' := (r_195.1.Found != r_52.1.Found)) 6 199 (fun hb243 => ?_) (fun hb244 => ?_) (fun F_245 l_246 => ?_)
        ·skip
         refine .onH hb243 rfl rfl ?_
         refine .fieldAddr rfl Try.underlying31 rfl Try.sizeOf3 rfl ?_
         refine .onH hb243 rfl rfl ?_
         refine .loadO rfl Try.isAgg3 rfl (i := 1) rfl rfl ?_
         refine .onH hb243 rfl rfl ?_
         refine .fieldAddr rfl Try.underlying31 rfl Try.sizeOf3 rfl ?_
         refine .onH hb243 rfl rfl ?_
         refine .loadO rfl Try.isAgg3 rfl (i := 2) rfl rfl ?_
         refine .onH hb243 rfl rfl ?_
         refine .neq rfl rfl rfl ?_
         refine .pickFH hb243 rfl rfl rfl ?_
         exact .fin 6 rfl rfl (by kernel_rfl) (Fz.le_refl _)
        ·skip
         refine .offH hb244 rfl rfl rfl ?_
         refine .offH hb244 rfl rfl rfl ?_
         refine .offH hb244 rfl rfl rfl ?_
         refine .offH hb244 rfl rfl rfl ?_
         refine .offH hb244 rfl rfl rfl ?_
         refine .pickTH hb244 rfl rfl rfl ?_
         exact .fin 6 rfl rfl (by kernel_rfl) (Fz.le_refl _)
        refine .nil ?_
        refine .keep (.cons (k := 14) rfl (.cons (k := 23) rfl (.cons (k := 199) rfl (.nil _)))) ?_
        refine .code ?_
        refine .cond rfl (fun hb247 => ?_) (fun hb247 => ?_)
        ·skip
         refine .seq ?_
         refine .region ?_
         refine .assign rfl rfl ?_
         refine .nil ?_
         refine .code ?_
         exact .ret0 Try.results8 (.tmp rfl (.nil)) (i := 3) rfl (Fz.le_trans l_15 (Fz.le_trans l_20 (Fz.le_trans l_47 (Fz.le_trans l_51 (Fz.le_trans l_58 (Fz.le_trans l_76 (Fz.le_trans l_189 (Fz.le_trans l_194 (Fz.le_trans l_201 (Fz.le_trans l_204 (Fz.le_trans l_213 (Fz.le_trans l_217 (Fz.le_trans l_221 (Fz.le_trans l_230 (Fz.le_trans l_234 (Fz.le_trans l_238 (Fz.le_trans l_242 l_246))))))))))))))))) rfl
        ·skip
         refine .skip ?_
         refine .code ?_
         refine .seq ?_
         refine .region ?_
         refine .fieldAddr rfl Try.underlying31 rfl Try.sizeOf3 rfl ?_
         refine .loadO rfl Try.isAgg3 rfl (i := 0) rfl rfl ?_
         refine .fieldAddr rfl Try.underlying31 rfl Try.sizeOf3 rfl ?_
         refine .loadO rfl Try.isAgg3 rfl (i := 2) rfl rfl ?_
         refine .geq rfl rfl rfl ?_
         refine .move rfl rfl ?_
         refine .andP (b := (decide (r_205.1.Due ≥ r_52.1.Due))) (b' := (r_205.1.Charged == r_52.1.Charged)) 6 211 (fun hb248 => ?_) (fun hb249 => ?_) (fun F_250 l_251 => ?_)
         ·skip
          refine .onH hb248 rfl rfl ?_
          refine .fieldAddr rfl Try.underlying31 rfl Try.sizeOf3 rfl ?_
          refine .onH hb248 rfl rfl ?_
          refine .loadO rfl Try.isAgg3 rfl (i := 0) rfl rfl ?_
          refine .onH hb248 rfl rfl ?_
          refine .fieldAddr rfl Try.underlying31 rfl Try.sizeOf3 rfl ?_
          refine .onH hb248 rfl rfl ?_
          refine .loadO rfl Try.isAgg3 rfl (i := 2) rfl rfl ?_
          refine .onH hb248 rfl rfl ?_
          refine .eql rfl rfl rfl ?_
          refine .pickTH hb248 rfl rfl rfl ?_
          exact .fin 6 rfl rfl (by kernel_rfl) (Fz.le_refl _)
         ·skip
          refine .offH hb249 rfl rfl rfl ?_
          refine .offH hb249 rfl rfl rfl ?_
          refine .offH hb249 rfl rfl rfl ?_
          refine .offH hb249 rfl rfl rfl ?_
          refine .offH hb249 rfl rfl rfl ?_
          refine .pickFH hb249 rfl rfl rfl ?_
          exact .fin 6 rfl rfl (by kernel_rfl) (Fz.le_refl _)
         refine .move rfl rfl ?_
         refine .andP (b := ((decide (r_205.1.Due ≥ r_52.1.Due)) && (r_205.1.Charged == r_52.1.Charged))) (b' := (r_205.1.Lost == r_52.1.Lost)) 6 218 (fun hb252 => ?_) (fun hb253 => ?_) (fun F_254 l_255 => ?_)
         ·skip
          refine .onH hb252 rfl rfl ?_
          refine .fieldAddr rfl Try.underlying31 rfl Try.sizeOf3 rfl ?_
          refine .onH hb252 rfl rfl ?_
          refine .loadO rfl Try.isAgg3 rfl (i := 0) rfl rfl ?_
          refine .onH hb252 rfl rfl ?_
          refine .fieldAddr rfl Try.underlying31 rfl Try.sizeOf3 rfl ?_
          refine .onH hb252 rfl rfl ?_
          refine .loadO rfl Try.isAgg3 rfl (i := 2) rfl rfl ?_
          refine .onH hb252 rfl rfl ?_
          refine .eql rfl rfl rfl ?_
          refine .pickTH hb252 rfl rfl rfl ?_
          exact .fin 6 rfl rfl (by kernel_rfl) (Fz.le_refl _)
         ·skip
          refine .offH hb253 rfl rfl rfl ?_
          refine .offH hb253 rfl rfl rfl ?_
          refine .offH hb253 rfl rfl rfl ?_
          refine .offH hb253 rfl rfl rfl ?_
          refine .offH hb253 rfl rfl rfl ?_
          refine .pickFH hb253 rfl rfl rfl ?_
          exact .fin 6 rfl rfl (by kernel_rfl) (Fz.le_refl _)
         refine .move rfl rfl ?_
         refine .andP (b := (((decide (r_205.1.Due ≥ r_52.1.Due)) && (r_205.1.Charged == r_52.1.Charged)) && (r_205.1.Lost == r_52.1.Lost))) (b' := (eq_28 r_205.1.Bonds r_52.1.Bonds)) 6 225 (fun hb256 => ?_) (fun hb257 => ?_) (fun F_258 l_259 => ?_)
         ·skip
          refine .onH hb256 rfl rfl ?_
          refine .fieldAddr rfl Try.underlying31 rfl Try.sizeOf28 rfl ?_
          refine .onH hb256 rfl rfl ?_
          refine .loadOA rfl Try.isAgg28 Try.sizeOf28 rfl (i := 0) rfl (vs := ((cArr 16 (cInt .i64)) r_205.1.Bonds)) (by kernel_rfl) rfl ?_
          refine .onH hb256 rfl rfl ?_
          refine .fieldAddr rfl Try.underlying31 rfl Try.sizeOf28 rfl ?_
          refine .onH hb256 rfl rfl ?_
          refine .loadOA rfl Try.isAgg28 Try.sizeOf28 rfl (i := 2) rfl (vs := ((cArr 16 (cInt .i64)) r_52.1.Bonds)) (by kernel_rfl) rfl ?_
          refine .onH hb256 rfl rfl ?_
          refine .eqlR rfl Try.eqGuardType28 (fun w => req_28 r_205.1.Bonds r_52.1.Bonds w) rfl rfl ?_
          refine .pickTH hb256 rfl rfl rfl ?_
          exact .fin 6 rfl rfl (by kernel_rfl) (Fz.le_refl _)
         ·skip
          refine .offH hb257 rfl rfl rfl ?_
          refine .offH hb257 rfl rfl rfl ?_
          refine .offH hb257 rfl rfl rfl ?_
          refine .offH hb257 rfl rfl rfl ?_
          refine .offH hb257 rfl rfl rfl ?_
          refine .pickFH hb257 rfl rfl rfl ?_
          exact .fin 6 rfl rfl (by kernel_rfl) (Fz.le_refl _)
         refine .move rfl rfl ?_
         refine .andM (b := ((((decide (r_205.1.Due ≥ r_52.1.Due)) && (r_205.1.Charged == r_52.1.Charged)) && (r_205.1.Lost == r_52.1.Lost)) && (eq_28 r_205.1.Bonds r_52.1.Bonds))) 2 228 (fun hb260 z268 => ?_) (fun hb264 => ?_) (fun z267 F_265 l_266 => ?_)
         ·skip
          refine .onH hb260 rfl rfl ?_
          refine .call0 rfl Try.call12 rfl rfl rfl (c_wormtublaw11_awake _ ) ?_
          rintro r_263 F_261 _ - l_262 rfl
          refine .pickTH hb260 rfl rfl rfl ?_
          exact .finZ 2 rfl rfl (by kernel_rfl) l_262
         ·skip
          refine .offH hb264 rfl rfl rfl ?_
          refine .pickFH hb264 rfl rfl rfl ?_
          exact .fin 2 rfl rfl (by kernel_rfl) (Fz.le_refl _)
         refine .assign rfl rfl ?_
         refine .nil ?_
         refine .code ?_
         exact .ret0 Try.results8 (.tmp rfl (.nil)) (i := 3) rfl (Fz.le_trans l_15 (Fz.le_trans l_20 (Fz.le_trans l_47 (Fz.le_trans l_51 (Fz.le_trans l_58 (Fz.le_trans l_76 (Fz.le_trans l_189 (Fz.le_trans l_194 (Fz.le_trans l_201 (Fz.le_trans l_204 (Fz.le_trans l_213 (Fz.le_trans l_217 (Fz.le_trans l_221 (Fz.le_trans l_230 (Fz.le_trans l_234 (Fz.le_trans l_238 (Fz.le_trans l_242 (Fz.le_trans l_246 (Fz.le_trans l_251 (Fz.le_trans l_255 (Fz.le_trans l_259 l_266))))))))))))))))))))) rfl
   obtain ⟨rfl, F_48, l_49, hA⟩ := hD
   exact interp_ret ((ret_post0 Try.results8 (.tmp rfl (.nil)) (i := 0) rfl (Fz.le_trans l_15 (Fz.le_trans l_20 l_49)) rfl) hk a w hA)
end Go.Proofs.Ytadpjmaaokkhjaa
end

section
namespace Go.Proofs.Ytadpjmaaokkhjaa
open Go.Dec
open Go.ChangeShapes Go.WideShapes Go.ChangeAt Go.RowKit
def LawExciseKinder : Prop := ∀ (a0 : ApiDutyRules) (a1 : (List ApiDutyEvent)) (a2 : Int) (a3 : Int) (a4 : Int) (a5 : Int), okApiDutyRules a0 → (∀ y ∈ a1, okApiDutyEvent y) → (Lit.int .i64 a2).wf = true → (Lit.int .u16 a3).wf = true → (Lit.int .u16 a4).wf = true → (Lit.int .u16 a5).wf = true → m_wormtublaw11_ExciseKinder a0 a1 a2 a3 a4 a5 = some true
set_option maxRecDepth 100000 in
theorem lifted_ExciseKinder (law : LawExciseKinder) (os : Os) (started : os.Started) (H : Type) (enc : TypeId × Value → H) :
  ReturnsInHanded {} Try.checked os 8 .any (Rows.exciseKinderSpec.pre6 enc Try.prog Try.f8 Rows.exciseKinderRow.domain false) (Rows.exciseKinderSpec.post enc Try.prog Try.f8 false true false false) := by
 refine returnsInHanded_of_change (C := Try.checked) Try.own started (by kernel_rfl) Try.func8 (ChangeSpec.witness6 (enc := enc) (C := Try.checked) false ⟨#[], #[(.agg #[.slice none 0 0, .int .i64 0, .int .i64 0, .int .i64 0]), .slice none 0 0, .int .i64 0, .int .u16 0, .int .u16 0, .int .u16 0], []⟩ 12 (by kernel_rfl) (by kernel_rfl) (by kernel_rfl) (by kernel_rfl)) ?_
 intro W base args ds gs before hval hW _ _
 refine law_contract (P := Try.prog) Try.laidOut (by kernel_rfl) rfl (by kernel_rfl : Try.f8.resultTypes = #[4]) Try.underlying4 (fun ds h => ?_) (fun W base args ds ps hval hA => ?_) W base args ds gs before hval hW
 ·match ds, h with
  | [d0, d1, d2, d3, d4, d5], _ => rfl
 ·rw [Try.params8] at hA hval
  obtain ⟨v0, l0, _, _, _, _, e0, _, _, t0, hA⟩ := trodAll_cons hA
  obtain ⟨v1, l1, _, _, _, _, e1, _, _, t1, hA⟩ := trodAll_cons hA
  obtain ⟨v2, l2, _, _, _, _, e2, _, _, t2, hA⟩ := trodAll_cons hA
  obtain ⟨v3, l3, _, _, _, _, e3, _, _, t3, hA⟩ := trodAll_cons hA
  obtain ⟨v4, l4, _, _, _, _, e4, _, _, t4, hA⟩ := trodAll_cons hA
  obtain ⟨v5, l5, _, _, _, _, e5, _, _, t5, hA⟩ := trodAll_cons hA
  obtain ⟨e6, _, _⟩ := trodAll_nil hA
  subst e6 e5 e4 e3 e2 e1
  obtain rfl : args = [v0, v1, v2, v3, v4, v5].toArray := by rw [← e0]
  obtain ⟨m0, cs0, o0, rfl, h0⟩ := argStruct Try.underlying24 vt24 (hval 0 _ _ rfl rfl) t0
  obtain ⟨p0_0, k0_0, rfl, h0_0⟩ := h0
  obtain ⟨m1, p1, k1, o1, rfl, h1⟩ := argSlice Try.underlying25 vt25 (hval 1 _ _ rfl rfl) t1
  obtain ⟨m2, o2, rfl⟩ := argInt Try.underlying3 (hval 2 _ _ rfl rfl) t2
  obtain ⟨m3, o3, rfl⟩ := argInt Try.underlying51 (hval 3 _ _ rfl rfl) t3
  obtain ⟨m4, o4, rfl⟩ := argInt Try.underlying51 (hval 4 _ _ rfl rfl) t4
  obtain ⟨m5, o5, rfl⟩ := argInt Try.underlying51 (hval 5 _ _ rfl rfl) t5
  have hl := law m0 m1 m2 m3 m4 m5 o0 o1 o2 o3 o4 o5
  have hc := c_wormtublaw11_ExciseKinder (FW W) m0 p0_0 k0_0 h0_0 m1 p1 k1 h1 m2 m3 m4 m5
  rw [hl] at hc
  exact hc
theorem said_ExciseKinder (law : LawExciseKinder) : Rows.ExciseKinderSaid :=
 OpenClaim.holds_of_wide 8 Try.f8 rfl rfl rfl rfl rfl rfl rfl ⟨rfl, rfl, rfl, rfl, rfl⟩ rfl rfl rfl rfl rfl (by kernel_rfl) Try.func8 (by kernel_rfl)
  (of_decide_eq_true (by kernel_rfl)) (by unfold Func.isWrapper; first | (rw [if_pos (by decide +kernel)]; kernel_rfl) | (rw [if_neg (by decide +kernel)]; exact ⟨rfl, rfl⟩))
  (fun os started H enc _ => lifted_ExciseKinder law os started H enc)
end Go.Proofs.Ytadpjmaaokkhjaa
end

section
namespace Go.Proofs.Ytadpjmaaokkhjaa
open Go.Dec
variable {r r1 r2 : Rul} {n : Nat} {t d day : Int} {s s' a : Acc} {x : Ev} {p : ApiParcel} {l : List Ev} {same : Prop}
structure Easier (same : Prop) (r1 r2 : Rul) : Prop where
  transit : r2.Transit = r1.Transit
  loss : r1.Loss ≤ r2.Loss
  share : r1.Share ≤ r2.Share
  rate : ∀ d, rateS r2.Rates d ≤ rateS r1.Rates d
  eq : same → r1.Loss = r2.Loss ∧ r1.Share = r2.Share
def othS (s : Acc) (lo ch du : Int) : Acc := { s with B := { s.B with Lost := lo, Charged := ch, Due := du } }
def Kin (same : Prop) (s1 s2 : Acc) : Prop := ∃ lo ch du, s2 = othS s1 lo ch du ∧ lo + ch = s1.B.Lost + s1.B.Charged ∧ ch ≤ s1.B.Charged ∧ du ≤ s1.B.Due ∧ (same → ch = s1.B.Charged)
def KinO (same : Prop) : Acc ⊕ Int → Acc ⊕ Int → Prop
  | .inl a, .inl b => Kin same a b
  | .inr e, .inr f => e = f
  | _, _ => False
theorem duty_le (hr1 : RulOk r1) (hr2 : RulOk r2) (hE : Easier same r1 r2) {a1 a2 : Int} (h0 : 0 ≤ a2) (h : a2 ≤ a1) (d : Int) : dutyS r2 a2 d ≤ dutyS r1 a1 d := by
  have g1 := hr1.rate d; have g2 := hr2.rate d; have g3 := hE.rate d
  unfold dutyS
  exact Int.ediv_le_ediv (by omega) (Int.mul_le_mul h g3 g2.1 (by omega))
theorem kin_pass (hr1 : RulOk r1) (hr2 : RulOk r2) (hE : Easier same r1 r2) {s1 s2 : Acc} (h : SOk r1 n t s1) (hk : Kin same s1 s2) : Kin same (passS r1 t d s1) (passS r2 t d s2) := by
  obtain ⟨lo, ch, du, rfl, h1, h2, h3, h4⟩ := hk
  have el : ∀ p, lateS r2 p = lateS r1 p := fun p => by unfold lateS; rw [hE.transit]
  have hs : sumF (fun p => dutyS r2 p.Amount (lateS r1 p)) (s1.B.Moving.filter (fun p => !decide (d < lateS r1 p))) ≤ sumF (fun p => dutyS r1 p.Amount (lateS r1 p)) (s1.B.Moving.filter (fun p => !decide (d < lateS r1 p))) := sumF_le fun p hp => by
    have := (h.mov p (List.mem_filter.1 hp).1).amount
    exact duty_le hr1 hr2 hE (by omega) (Int.le_refl _) _
  refine ⟨lo, ch, du + sumF (fun p => dutyS r2 p.Amount (lateS r1 p)) (s1.B.Moving.filter (fun p => !decide (d < lateS r1 p))), ?_, h1, h2, ?_, h4⟩
  · simp only [passS, othS, el]
  · simp only [passS]; omega
theorem kin_miss (hr1 : RulOk r1) (hr2 : RulOk r2) (hE : Easier same r1 r2) {u : Acc} {lo ch du lost al1 al2 dd : Int} (h1 : lo + ch = u.B.Lost + u.B.Charged) (h2 : ch ≤ u.B.Charged) (h3 : du ≤ u.B.Due) (h4 : same → ch = u.B.Charged) (_hl : 0 ≤ lost) (_ha0 : 0 ≤ al1) (ha : al1 ≤ al2) (hs : same → al1 = al2) :
    Kin same (missS r1 dd lost al1 u) (missS r2 dd lost al2 (othS u lo ch du)) := by
  have e1 := imin_spec (a := lost) (b := al1)
  have e2 := imin_spec (a := lost) (b := al2)
  have hd := duty_le hr1 hr2 hE (a1 := lost - imin lost al1) (a2 := lost - imin lost al2) (by omega) (by omega) dd
  refine ⟨lo + imin lost al2, ch + (lost - imin lost al2), du + dutyS r2 (lost - imin lost al2) dd, rfl, ?_, ?_, ?_, fun h => ?_⟩
  · simp only [missS]; omega
  · simp only [missS]; omega
  · simp only [missS]; omega
  · have := h4 h; have := hs h
    simp only [missS]; omega
theorem kin_do (hr1 : RulOk r1) (hr2 : RulOk r2) (hE : Easier same r1 r2) {s1 s2 : Acc} (h : SOk r1 n t s1) (hk : Kin same s1 s2) (he : evB x = true) (h6 : x.Kind ≠ 6) : KinO same (doS r1 s1 x) (doS r2 s2 x) := by
  obtain ⟨lo, ch, du, rfl, h1, h2, h3, h4⟩ := hk
  have eh : hereS (othS s1 lo ch du) x = hereS s1 x := rfl
  unfold doS
  rcases ev_kinds he with k | k | k | k | k | k | k <;> simp only [k, beq_iff_eq, Int.reduceEq, if_true, if_false]
  · unfold distilS
    rw [eh]
    by_cases c : hereS s1 x + x.Amount > 17179869184
    · rw [if_pos c, if_pos c]; rfl
    · rw [if_neg c, if_neg c]; exact ⟨lo, ch, du, rfl, h1, h2, h3, h4⟩
  · unfold sendS
    rw [eh]
    have ei : (othS s1 lo ch du).Ids = s1.Ids := rfl
    rw [ei]
    by_cases c : (x.Bond == x.To) = true
    · rw [if_pos c, if_pos c]; rfl
    · rw [if_neg c, if_neg c]
      by_cases c2 : s1.Ids.contains x.Id = true
      · rw [if_pos c2, if_pos c2]; rfl
      · rw [if_neg c2, if_neg c2]
        by_cases c3 : hereS s1 x < x.Amount
        · rw [if_pos c3, if_pos c3]; rfl
        · rw [if_neg c3, if_neg c3]; exact ⟨lo, ch, du, rfl, h1, h2, h3, h4⟩
  · unfold receiveS
    rw [eh]
    have em : (othS s1 lo ch du).B.Moving = s1.B.Moving := rfl
    rw [em]
    cases hq : s1.B.Moving.find? (fun q => q.Id == x.Id) with
    | none => rfl
    | some p =>
      obtain ⟨hmem, _, _⟩ := out_perm h.sorted hq
      have hpa := (h.mov p hmem).amount
      simp only []
      by_cases c : (p.To != x.Bond) = true
      · rw [if_pos c, if_pos c]; rfl
      · rw [if_neg c, if_neg c]
        by_cases c2 : hereS s1 x + x.Amount > 17179869184
        · rw [if_pos c2, if_pos c2]; rfl
        · rw [if_neg c2, if_neg c2]
          have e1 := imax_spec (a := 0) (b := p.Amount - x.Amount)
          exact kin_miss hr1 hr2 hE (u := { putB s1 x (hereS s1 x + x.Amount) with B := { (putB s1 x (hereS s1 x + x.Amount)).B with Moving := s1.B.Moving.filter (fun q => !(q.Id == x.Id)), Found := s1.B.Found + imax 0 (x.Amount - p.Amount) } }) h1 h2 h3 h4 (by omega) (Int.ediv_nonneg (Int.mul_nonneg (by omega) hr1.loss.1) (by omega)) (Int.ediv_le_ediv (by omega) (Int.mul_le_mul_of_nonneg_left hE.loss (by omega))) (fun hs => by rw [(hE.eq hs).1])
  · unfold releaseS
    rw [eh]
    by_cases c : hereS s1 x < x.Amount
    · rw [if_pos c, if_pos c]; rfl
    · rw [if_neg c, if_neg c]
      have ha := (ev_plain he (.inr (.inl k))).2
      have hd := duty_le hr1 hr2 hE (a1 := x.Amount) (a2 := x.Amount) (by omega) (Int.le_refl _) x.Day
      exact ⟨lo, ch, du + dutyS r2 x.Amount x.Day, rfl, h1, h2, by show du + _ ≤ s1.B.Due + _; omega, h4⟩
  · unfold exportS
    rw [eh]
    by_cases c : hereS s1 x < x.Amount
    · rw [if_pos c, if_pos c]; rfl
    · rw [if_neg c, if_neg c]; exact ⟨lo, ch, du, rfl, h1, h2, h3, h4⟩
  · obtain ⟨hb, ha⟩ := ev_take he k
    have hsu := h.sums _ (bond_lt hb)
    have e1 := imax_spec (a := 0) (b := hereS s1 x - x.Amount)
    exact kin_miss hr1 hr2 hE (lost := imax 0 (hereS s1 x - x.Amount)) (u := { putB s1 x x.Amount with B := { (putB s1 x x.Amount).B with Found := s1.B.Found + imax 0 (x.Amount - hereS s1 x) }, Sums := updN s1.Sums x.Bond.toNat 0 }) h1 h2 h3 h4 (by omega) (Int.ediv_nonneg (Int.mul_nonneg hsu.1 hr1.share.1) (by omega)) (Int.ediv_le_ediv (by omega) (Int.mul_le_mul_of_nonneg_left hE.share hsu.1)) (fun hs => by rw [(hE.eq hs).2]; rfl)
  · exact absurd k h6
def KinC (same : Prop) : (Cur ⊕ Int) × Nat → (Cur ⊕ Int) × Nat → Prop
  | (.inl a, k), (.inl b, m) => k = m ∧ a.day = b.day ∧ Kin same a.acc b.acc
  | (.inr e, k), (.inr f, m) => k = m ∧ e = f
  | _, _ => False
theorem kin_go (hr1 : RulOk r1) (hr2 : RulOk r2) (hE : Easier same r1 r2) : ∀ {l : List Ev} {n : Nat} {c1 c2 : Cur}, (∀ x ∈ l, x.Kind ≠ 6) → SOk r1 n c1.day c1.acc → 0 ≤ c1.day → c1.day = c2.day → Kin same c1.acc c2.acc → KinC same (goS r1 day l n c1) (goS r2 day l n c2)
  | [], n, c1, c2, _, _, _, hd, hk => ⟨rfl, hd, hk⟩
  | x :: l, n, c1, c2, h6, hok, h0, hd, hk => by
    rw [goS, goS]
    by_cases hle : x.Day ≤ day
    · rw [if_pos hle, if_pos hle]
      by_cases he : evB x = true
      · by_cases hlt : x.Day < c1.day
        · have s1 : stepS r1 c1 x = .inr 7 := by unfold stepS; simp only [he, Bool.not_true, Bool.false_eq_true, if_false, hlt, if_true]
          have s2 : stepS r2 c2 x = .inr 7 := by unfold stepS; rw [← hd]; simp only [he, Bool.not_true, Bool.false_eq_true, if_false, hlt, if_true]
          rw [s1, s2]; exact ⟨rfl, rfl⟩
        · have hp := pass_ok hr1 hok (show c1.day ≤ x.Day by omega)
          have hkd := kin_do hr1 hr2 hE hp (kin_pass (d := x.Day) hr1 hr2 hE hok hk) he (h6 x (List.mem_cons_self ..))
          have s1 : stepS r1 c1 x = match doS r1 (passS r1 c1.day x.Day c1.acc) x with | .inl a => .inl ⟨a, x.Day⟩ | .inr e => .inr e := by unfold stepS; simp only [he, Bool.not_true, Bool.false_eq_true, if_false, hlt]; rfl
          have s2 : stepS r2 c2 x = match doS r2 (passS r2 c1.day x.Day c2.acc) x with | .inl a => .inl ⟨a, x.Day⟩ | .inr e => .inr e := by unfold stepS; rw [← hd]; simp only [he, Bool.not_true, Bool.false_eq_true, if_false, hlt]; rfl
          cases q1 : doS r1 (passS r1 c1.day x.Day c1.acc) x with
          | inl a =>
            cases q2 : doS r2 (passS r2 c1.day x.Day c2.acc) x with
            | inl b =>
              rw [q1, q2] at hkd
              rw [q1] at s1; rw [q2] at s2
              have s1 : stepS r1 c1 x = .inl ⟨a, x.Day⟩ := s1
              have s2 : stepS r2 c2 x = .inl ⟨b, x.Day⟩ := s2
              obtain ⟨g1, g2, g3, _⟩ := step_ok hr1 hok h0 s1
              rw [s1, s2]
              exact kin_go hr1 hr2 hE (fun y hy => h6 y (List.mem_cons_of_mem _ hy)) g1 (by omega) rfl hkd
            | inr f => rw [q1, q2] at hkd; exact hkd.elim
          | inr e =>
            cases q2 : doS r2 (passS r2 c1.day x.Day c2.acc) x with
            | inl b => rw [q1, q2] at hkd; exact hkd.elim
            | inr f =>
              rw [q1, q2] at hkd
              rw [q1] at s1; rw [q2] at s2
              have s1 : stepS r1 c1 x = .inr e := s1
              have s2 : stepS r2 c2 x = .inr f := s2
              rw [s1, s2]; exact ⟨rfl, hkd⟩
      · simp only [Bool.not_eq_true] at he
        have s1 : stepS r1 c1 x = .inr 1 := by unfold stepS; simp only [he, Bool.not_false, if_true]
        have s2 : stepS r2 c2 x = .inr 1 := by unfold stepS; simp only [he, Bool.not_false, if_true]
        rw [s1, s2]; exact ⟨rfl, rfl⟩
    · rw [if_neg hle, if_neg hle]; exact ⟨rfl, hd, hk⟩
def KinP (same : Prop) : (Acc ⊕ Int) × Nat → (Acc ⊕ Int) × Nat → Prop
  | (.inl a, k), (.inl b, m) => k = m ∧ Kin same a b
  | (.inr e, k), (.inr f, m) => k = m ∧ e = f
  | _, _ => False
theorem kin_play (hr1 : RulOk r1) (hr2 : RulOk r2) (hE : Easier same r1 r2) (h6 : ∀ x ∈ l, x.Kind ≠ 6) : KinP same (playS r1 l day) (playS r2 l day) := by
  have h1 : rulesB r1 = true := rules_iff.2 hr1
  have h2 : rulesB r2 = true := rules_iff.2 hr2
  unfold playS
  simp only [h1, h2, Bool.not_true, Bool.false_eq_true, if_false]
  by_cases hl : l.length > 4096
  · rw [if_pos hl, if_pos hl]; exact ⟨rfl, rfl⟩
  · rw [if_neg hl, if_neg hl]
    by_cases hd : (!inB day 0 65536) = true
    · rw [if_pos hd, if_pos hd]; exact ⟨rfl, rfl⟩
    · rw [if_neg hd, if_neg hd]
      have hk := kin_go (day := day) (l := l) (n := 0) (c1 := cur0) (c2 := cur0) hr1 hr2 hE h6 (acc0_ok r1) (by simp [cur0]) rfl ⟨0, 0, 0, rfl, rfl, Int.le_refl _, Int.le_refl _, fun _ => rfl⟩
      unfold runS
      have hd' := inB_iff.1 (by simpa using hd : inB day 0 65536 = true)
      cases q1 : goS r1 day l 0 cur0 with
      | mk o1 k1 =>
        cases q2 : goS r2 day l 0 cur0 with
        | mk o2 k2 =>
          rw [q1, q2] at hk
          cases o1 with
          | inl a =>
            cases o2 with
            | inl b =>
              obtain ⟨g1, g2, g3⟩ := hk
              obtain ⟨a1, a2, a3, _⟩ := go_ok hr1 (acc0_ok r1) (by simp [cur0]) (by simp [cur0]; omega) q1
              refine ⟨g1, ?_⟩
              rw [← g2]
              exact kin_pass hr1 hr2 hE a1 g3
            | inr f => exact hk.elim
          | inr e =>
            cases o2 with
            | inl b => exact hk.elim
            | inr f => exact ⟨hk.1, hk.2⟩
theorem pay_loop (hl : l.length ≤ 1000) : loopM (b_wormtublaw11_ExciseKinder_1 l) 0 = some (if l.any (fun x => x.Kind == 6) then .inr true else .inl ()) := by
  have h := loop_list (body := b_wormtublaw11_ExciseKinder_1 l) (fun (_ : Unit) i => ((i : Nat) : Int)) (fun (_ : Unit) _ (x : Ev) => if x.Kind == 6 then some (.done (.inr true)) else some (.next ())) (fun _ => (.inl () : Unit ⊕ Bool)) l ?_ ?_ ()
  · exact h.trans (goL_any (fun x : Ev => x.Kind == 6) (Sum.inr true : Unit ⊕ Bool) (.inl ()) l 0)
  · intro t i y hy
    have hi : i < l.length := (List.getElem?_eq_some_iff.1 hy).1
    unfold b_wormtublaw11_ExciseKinder_1
    rw [if_pos (by simp; omega), idxL_nat, hy, Option.bind_some]
    split
    · rw [awake_true]; rfl
    · simp only [bindv, w64_next (by omega : i ≤ 4294967296)]; rfl
  · intro t
    unfold b_wormtublaw11_ExciseKinder_1
    rw [if_neg (by simp)]
def dearR (r : Rul) (more : Int) : Rul := { r with Rates := r.Rates.map (fun x => ⟨x.From, imin 1048576 (x.Rate + more)⟩) }
theorem dear_loop {more : Int} (hr : RulOk r) (h0 : 0 ≤ more) (h1 : more ≤ 65535) (hw : w64 more = more) : loopM (b_wormtublaw11_ExciseKinder_2 r more) (0, { r with Rates := [] }) = some (dearR r more) := by
  have hlen := hr.len
  obtain ⟨b, hb, hloop⟩ := loopM_pre (body := b_wormtublaw11_ExciseKinder_2 r more) (fun i (b : Rul) => ((i : Int), b)) (fun b => b) (fun pre b => b = { r with Rates := pre.map (fun x => ⟨x.From, imin 1048576 (x.Rate + more)⟩) }) r.Rates
    (fun pre q post b hl' hb => by
      have hx : r.Rates[pre.length]? = some q := getEl_mid hl'
      have hlt := lt_mid hl'
      have hq := hr.rates q (by rw [hl']; simp)
      refine ⟨{ r with Rates := (pre ++ [q]).map (fun x => ⟨x.From, imin 1048576 (x.Rate + more)⟩) }, ?_, rfl⟩
      subst hb
      unfold b_wormtublaw11_ExciseKinder_2
      rw [if_pos (by simpa using hlt)]
      simp only [idxL_nat, hx, Option.bind_some, hw]
      rw [w64_id (n := q.Rate + more) (by omega) (by omega)]
      refine bind_of (appO_some' (by simp; omega)) ?_
      simp only [bindv, w64_next (by omega : pre.length ≤ 4294967296), List.map_append, List.map_cons, List.map_nil])
    (fun b hb => by unfold b_wormtublaw11_ExciseKinder_2; rw [if_neg (by simp)]) r.Rates [] { r with Rates := [] } rfl rfl
  have h0 : loopM (b_wormtublaw11_ExciseKinder_2 r more) (0, { r with Rates := [] }) = some b := hloop
  rw [h0, hb]; rfl
theorem dear_ok {more : Int} (hr : RulOk r) (h0 : 0 ≤ more) : RulOk (dearR r more) where
  rates := fun y hy => by
    obtain ⟨x, hx, rfl⟩ := List.mem_map.1 hy
    have h1 := hr.rates x hx
    have e := imin_spec (a := 1048576) (b := x.Rate + more)
    exact ⟨h1.1, h1.2.1, by show 0 ≤ imin _ _; omega, by show imin _ _ ≤ _; omega⟩
  sorted := List.pairwise_map.2 hr.sorted
  first := by
    obtain ⟨x, l, e, e0⟩ := hr.first
    exact ⟨⟨x.From, imin 1048576 (x.Rate + more)⟩, l.map (fun x => ⟨x.From, imin 1048576 (x.Rate + more)⟩), by unfold dearR; simp only [e, List.map_cons], e0⟩
  len := by simp only [dearR, List.length_map]; exact hr.len
  transit := hr.transit
  loss := hr.loss
  share := hr.share
theorem dear_rate {more : Int} (hr : RulOk r) (h0 : 0 ≤ more) (d : Int) : rateS r.Rates d ≤ rateS (dearR r more).Rates d := by
  have : ∀ (l : List ApiDutyRate) (a b : Int), (∀ x ∈ l, x.Rate ≤ 1048576) → a ≤ b → l.foldl (fun own x => if x.From ≤ d then x.Rate else own) a ≤ (l.map (fun x => (⟨x.From, imin 1048576 (x.Rate + more)⟩ : ApiDutyRate))).foldl (fun own x => if x.From ≤ d then x.Rate else own) b := by
    intro l
    induction l with
    | nil => intro a b _ h; exact h
    | cons x l ih =>
      intro a b hl hab
      rw [List.map_cons, List.foldl_cons, List.foldl_cons]
      have hx := hl x (List.mem_cons_self ..)
      have e := imin_spec (a := 1048576) (b := x.Rate + more)
      refine ih _ _ (fun y hy => hl y (List.mem_cons_of_mem _ hy)) ?_
      show (if x.From ≤ d then x.Rate else a) ≤ (if x.From ≤ d then imin 1048576 (x.Rate + more) else b)
      split <;> omega
  exact this r.Rates 0 0 (fun x hx => (hr.rates x hx).2.2.2) (Int.le_refl _)
theorem law_ExciseKinder : LawExciseKinder := by
  intro r l day loss share more _ _ _ hw1 hw2 hw3
  unfold m_wormtublaw11_ExciseKinder
  by_cases hbig : (decide ((r.Rates.length : Int) > 70) || decide ((l.length : Int) > 60)) = true
  · rw [if_pos hbig, awake_true]; rfl
  · rw [if_neg hbig]
    simp only [Bool.or_eq_true, decide_eq_true_eq, not_or] at hbig
    have hlr : r.Rates.length ≤ 1000000 := by omega
    have hl : l.length ≤ 1000 := by omega
    obtain ⟨a1, a2, a3⟩ := wf_w64 hw1
    obtain ⟨b1, b2, b3⟩ := wf_w64 hw2
    obtain ⟨c1, c2, c3⟩ := wf_w64 hw3
    rw [pay_loop hl, Option.bind_some]
    by_cases hpay : l.any (fun x => x.Kind == 6) = true
    · rw [if_pos hpay]
    · rw [if_neg hpay]
      have h6 : ∀ x ∈ l, x.Kind ≠ 6 := fun x hx e => hpay (List.any_eq_true.2 ⟨x, hx, by simp [e]⟩)
      simp only []
      by_cases hrb : rulesB r = true
      · have hr := rules_iff.1 hrb
        have hq1 : 0 ≤ Int.tmod loss 3000 := by rw [Int.tmod_eq_emod_of_nonneg a1]; exact Int.emod_nonneg _ (by omega)
        have hq2 : 0 ≤ Int.tmod share 500 := by rw [Int.tmod_eq_emod_of_nonneg b1]; exact Int.emod_nonneg _ (by omega)
        have hq3 : Int.tmod loss 3000 < 3000 := by rw [Int.tmod_eq_emod_of_nonneg a1]; exact Int.emod_lt_of_pos _ (by omega)
        have hq4 : Int.tmod share 500 < 500 := by rw [Int.tmod_eq_emod_of_nonneg b1]; exact Int.emod_lt_of_pos _ (by omega)
        have hlo := hr.loss; have hsh := hr.share
        have e1 := imin_spec (a := 10000) (b := r.Loss + Int.tmod loss 3000)
        have e2 := imin_spec (a := 1000) (b := r.Share + Int.tmod share 500)
        generalize hK : ({ r with Loss := imin 10000 (r.Loss + Int.tmod loss 3000), Share := imin 1000 (r.Share + Int.tmod share 500) } : Rul) = K
        have k1 : K.Rates = r.Rates := by rw [← hK]
        have k2 : K.Transit = r.Transit := by rw [← hK]
        have k3 : K.Loss = imin 10000 (r.Loss + Int.tmod loss 3000) := by rw [← hK]
        have k4 : K.Share = imin 1000 (r.Share + Int.tmod share 500) := by rw [← hK]
        have hrK : RulOk K := ⟨by rw [k1]; exact hr.rates, by rw [k1]; exact hr.sorted, by rw [k1]; exact hr.first, by rw [k1]; exact hr.len, by rw [k2]; exact hr.transit, by rw [k3]; omega, by rw [k4]; omega⟩
        have hrD := dear_ok hr c1 (more := more)
        have hE1 : Easier False r K := ⟨k2, by rw [k3]; omega, by rw [k4]; omega, fun d => by rw [k1]; exact Int.le_refl _, fun h => h.elim⟩
        have hE2 : Easier True (dearR r more) r := ⟨rfl, Int.le_refl _, Int.le_refl _, fun d => dear_rate hr c1 d, fun _ => ⟨rfl, rfl⟩⟩
        have p1 := kin_play (day := day) hr hrK hE1 h6
        have p2 := kin_play (day := day) hrD hr hE2 h6
        have hlrK : K.Rates.length ≤ 1000000 := by rw [k1]; exact hlr
        have hlrD : (dearR r more).Rates.length ≤ 1000000 := by have := hrD.len; omega
        have hkind : ∀ f : Rul → Option Bool, (bindv ({ r with Loss := (imin 10000 (w64 (r.Loss + (Int.tmod (w64 (loss)) 3000)))) }) fun x89 => bindv ({ x89 with Share := (imin 1000 (w64 (r.Share + (Int.tmod (w64 (share)) 500)))) }) f) = f K := fun f => by
          simp only [bindv, a3, b3]
          rw [w64_id (n := r.Loss + Int.tmod loss 3000) (by omega) (by omega), w64_id (n := r.Share + Int.tmod share 500) (by omega) (by omega), hK]
        have hdear := dear_loop hr c1 c2 c3
        cases h : playS r l day with
        | mk o k =>
          cases hk : playS K l day with
          | mk oK kK =>
            cases hd : playS (dearR r more) l day with
            | mk oD kD =>
              rw [h, hk] at p1
              rw [hd, h] at p2
              cases o with
              | inr e =>
                cases oK with
                | inl _ => exact p1.elim
                | inr eK =>
                  cases oD with
                  | inl _ => exact p2.elim
                  | inr eD =>
                    obtain ⟨m1, m2⟩ := p1
                    obtain ⟨m3, m4⟩ := p2
                    subst m1; subst m2; subst m3; subst m4
                    have hne : (eD != 0) = true := by simpa using playS_err h
                    rw [Play_err hlr hl h, Option.bind_some, Rules_doc, Option.bind_some]
                    simp only [hrb, Bool.not_true, Bool.false_eq_true, if_false]
                    rw [hkind]
                    simp only [bindv]
                    rw [hdear, Option.bind_some, Play_err hlrK hl hk, Option.bind_some, Play_err hlrD hl hd, Option.bind_some]
                    simp only [bne_self_eq_false, Bool.or_self, Bool.false_eq_true, if_false, hne, if_true, awake_true, Option.bind_some]
              | inl a =>
                cases oK with
                | inr _ => exact p1.elim
                | inl b =>
                  cases oD with
                  | inr _ => exact p2.elim
                  | inl c =>
                    obtain ⟨m1, lo, ch, du, rfl, n1, n2, n3, _⟩ := p1
                    obtain ⟨m3, lo', ch', du', hc, n4, n5, n6, n7⟩ := p2
                    subst m1; subst m3
                    obtain ⟨_, hok, _, hkk⟩ := playS_ok h
                    have hlim := hok.lim; have hpos := hok.pos
                    have n7 := n7 trivial
                    have c1 : a.B.Bonds = c.B.Bonds := by rw [hc]; rfl
                    have c2 : a.B.Lost = lo' := by rw [hc]; rfl
                    have c3 : a.B.Charged = ch' := by rw [hc]; rfl
                    have c4 : a.B.Due = du' := by rw [hc]; rfl
                    have c5 : c.B.Charged = a.B.Charged := by omega
                    have c6 : c.B.Lost = a.B.Lost := by omega
                    rw [Play_ok hlr hl h, Option.bind_some, Rules_doc, Option.bind_some]
                    simp only [hrb, Bool.not_true, Bool.false_eq_true, if_false]
                    rw [hkind]
                    simp only [bindv]
                    rw [hdear, Option.bind_some, Play_ok hlrK hl hk, Option.bind_some, Play_ok hlrD hl hd, Option.bind_some]
                    have d1 : decide ((othS a lo ch du).B.Charged > a.B.Charged) = false := decide_eq_false (by show ¬ ch > a.B.Charged; omega)
                    have d2 : decide ((othS a lo ch du).B.Due > a.B.Due) = false := decide_eq_false (by show ¬ du > a.B.Due; omega)
                    have d3 : (w64 (lo + ch) != w64 (a.B.Lost + a.B.Charged)) = false := by rw [n1]; simp
                    have d4 : decide (c.B.Due ≥ a.B.Due) = true := by simp; omega
                    simp only [d1, d2]
                    simp only [bne_self_eq_false, Bool.or_self, Bool.false_eq_true, if_false, othS, d3, eq28_refl, Bool.not_true, d4, c5, c6, ← c1, BEq.rfl, Bool.and_self, if_true, awake_true, Option.bind_some]
      · simp only [Bool.not_eq_true] at hrb
        have h : playS r l day = (.inr 1, 0) := by unfold playS; simp only [hrb, Bool.not_false, if_true]
        rw [Play_err hlr hl h, Option.bind_some, Rules_doc, Option.bind_some]
        simp only [hrb, Bool.not_false, if_true, BEq.rfl, Int.natCast_zero, Bool.and_self, awake_true, Option.bind_some]
theorem exciseKinder_holds : Rows.ExciseKinderSaid := said_ExciseKinder law_ExciseKinder
end Go.Proofs.Ytadpjmaaokkhjaa
end
