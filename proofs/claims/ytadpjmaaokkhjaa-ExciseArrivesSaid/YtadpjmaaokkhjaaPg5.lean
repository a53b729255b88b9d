/- Own texts and texts printed by a program of mine, for exciseArrives_holds; only what it reaches. -/
import Derived.Test.YtadpjmaaokkhjaaPg4
import Derived.Test.YtadpjmaaokkhjaaRows
section
namespace Go.Proofs.Ytadpjmaaokkhjaa
open Go.Dec Go.Shelf Go.RowKit Go.Maps Go.Sort
noncomputable def b_excise_Play_1 (r_15 : (Option Nat) × Int × Int × (List ExciseOffice) × (List (List (Int × ApiParcel))) × (List (List (Int × Bool)))) (x29 : ExciseOffice) (ks43 : (List Int)) (s50 : Int × ApiDutyBook) : Option (Ctl (Int × ApiDutyBook) ((ApiDutyBook))) :=
 if (decide (s50.1 < (ks43.length : Int))) then ((idxL ks43 s50.1).bind fun x57 => (x29.moving).bind fun i72 => (r_15.2.2.2.2.1[i72]?).bind fun x74 => (appO s50.2.Moving ([((mapGet x74 x57).getD (ApiParcel.mk 0 0 0 0 0))])).bind fun l_114 => bindv ({ s50.2 with Moving := l_114 }) fun x118 => some (.next ((w64 (s50.1 + 1)), x118))) else (some (.done s50.2))
noncomputable def m_excise_Play (r_1 : ApiDutyRules) (l_5 : (List ApiDutyEvent)) (day9 : Int) : Option (ApiDutyBook × Int × Int) :=
 (m_excise_play r_1 l_5 day9).bind fun r_15 => if (r_15.2.2.1 != 0) then (some ((ApiDutyBook.mk (fun _ => 0) ([]) 0 0 0 0 0 0 0 0), r_15.2.1, r_15.2.2.1)) else ((r_15.1).bind fun i24 => (r_15.2.2.2.1[i24]?).bind fun x29 => (nilO x29.book.Moving).bind fun _ => (sortedO r_15.2.2.2.2.1 x29.moving).bind fun ks43 => (loopM (b_excise_Play_1 r_15 x29 ks43) (0, x29.book)).bind fun b120 => some (b120, r_15.2.1, 0))
theorem c_excise_Play (F0 : Fz) (r_1 : ApiDutyRules) (p2 : Option Addr) (k3 : Nat) (h4 : RepSl 2 (Ex cApiDutyRate) F0 p2 k3 r_1.Rates) (l_5 : (List ApiDutyEvent)) (p6 : Option Addr) (k7 : Nat) (h8 : RepSl 6 (Ex cApiDutyEvent) F0 p6 k7 l_5) (day9 : Int) : CT0 Try.prog 13 [(eApiDutyRules r_1 p2 k3), (.slice p6 l_5.length k7), (.int .i64 day9)].toArray F0 (m_excise_Play r_1 l_5 day9) (fun r F v => ∃ (p0 : Option Addr) (k0 : Nat), v = .tuple #[(eApiDutyBook r.1 p0 k0), (.int .i64 r.2.1), (.int .i64 r.2.2)] ∧ RepSl 5 (Ex cApiParcel) F p0 k0 r.1.Moving) := by
 refine CT0.enter Try.func13 rfl Try.ntmps13 rfl fun r R => ?_
 unfold m_excise_Play
 refine .seq ?_
 refine .region ?_
 refine .boxF (cs := (cApiDutyRules r_1 p2 k3)) rfl rfl rfl (fun b10 F_11 l_12 hb13 => ?_)
 refine .alloc (cs := (cApiDutyBook (ApiDutyBook.mk (fun _ => 0) ([]) 0 0 0 0 0 0 0 0) none 0)) rfl Try.zeroValue31 rfl (fun b14 => ?_)
 refine .assign rfl rfl ?_
 refine .assign rfl rfl ?_
 refine .nil ?_
 refine .code ?_
 refine .seq ?_
 refine .region ?_
 refine .loadFA rfl Try.isAgg24 Try.sizeOf24 rfl hb13 (vs := (cApiDutyRules r_1 p2 k3)) (by kernel_rfl) rfl ?_
 refine .move rfl rfl ?_
 refine .move rfl rfl ?_
 refine .callO rfl Try.call25 rfl rfl rfl (c_excise_play _ r_1 p2 k3 (h4.mono l_12) l_5 p6 k7 (h8.mono l_12) day9) ?_
 rintro r_15 _19 F_16 _ e18 l_17 ⟨p20, k21, rfl, h22⟩
 refine .norm (Sub.refl _) (rfl : _ = [arena _19.g66 (C66 _19) F_16 r_15.2.2.2.1, arena _19.g63 (C63 _19) F_16 r_15.2.2.2.2.1, arena _19.g64 (C64 _19) F_16 r_15.2.2.2.2.2, pt b14 (.cells (cApiDutyBook (ApiDutyBook.mk (fun _ => 0) ([]) 0 0 0 0 0 0 0 0) none 0).toArray 31), R]) ?_
 refine .move rfl rfl ?_
 refine .extract rfl rfl rfl ?_
 refine .extract rfl rfl rfl ?_
 refine .extract rfl rfl rfl ?_
 refine .assign rfl rfl ?_
 refine .assign rfl rfl ?_
 refine .assign rfl rfl ?_
 refine .nil ?_
 refine .code ?_
 refine .seq ?_
 refine .seq ?_
 refine .region ?_
 refine .move rfl rfl ?_
 refine .neq rfl rfl rfl ?_
 refine .nil ?_
 refine .code ?_
 refine .cond rfl (fun hb23 => ?_) (fun hb23 => ?_)
 ·skip
  refine .seq ?_
  refine .region ?_
  refine .build (cs := (cApiDutyBook (ApiDutyBook.mk (fun _ => 0) ([]) 0 0 0 0 0 0 0 0) none 0).toArray) rfl Try.underlying31 Try.zeroValue31 (plApiDutyBook _ Try.underlying31) rfl rfl (by kernel_rfl) ?_
  refine .move rfl rfl ?_
  refine .move rfl rfl ?_
  refine .store (cs' := (cApiDutyBook (ApiDutyBook.mk (fun _ => 0) ([]) 0 0 0 0 0 0 0 0) none 0)) Try.sizeOf31 rfl rfl rfl rfl (i := 3) rfl (Nat.le_of_ble_eq_true rfl) rfl (setMany_all (by rfl)) ?_
  refine .assign rfl rfl ?_
  refine .assign rfl rfl ?_
  refine .nil ?_
  refine .code ?_
  exact .ret0 Try.results13 (.agg rfl Try.isAgg31 Try.sizeOf31 (i := 3) rfl (vs' := (cApiDutyBook (ApiDutyBook.mk (fun _ => 0) ([]) 0 0 0 0 0 0 0 0) none 0)) (by kernel_rfl) rfl (.tmp rfl (.tmp rfl (.nil)))) (i := 4) rfl (Fz.le_trans l_12 l_17) ⟨none, 0, rfl, (RepSl.nil.mono (Fz.le_trans l_12 l_17))⟩
 ·skip
  refine .skip ?_
  refine .code ?_
  refine .seq ?_
  refine .region ?_
  refine .move rfl rfl ?_
  refine .bind (fun i24 e25 => ?_)
  obtain ⟨b26, hb27, hp28⟩ := h22.at e25
  refine .nilCheckR hp28 rfl rfl ?_
  refine .fieldAddr rfl Try.underlying66 rfl Try.sizeOf31 rfl ?_
  refine .bind (fun x29 e30 => ?_)
  refine .loadRA (Φ := fun us => ∃ (p31 : Option Addr) (k32 : Nat), us = (cApiDutyBook x29.book p31 k32) ∧ NilSl 5 (Ex cApiParcel) F_16 p31 k32 x29.book.Moving) 0 rfl (Fz.le_refl _) hb27 e30 rfl Try.isAgg31 Try.sizeOf31 rfl (fun vs ⟨q0, q1, q2, q3, q4, q5, q6, q7, h, r0, r1, r2, r3⟩ => ⟨_, by subst h; rfl, rfl, q2, q3, rfl, r1⟩) (fun us hv => ?_)
  obtain ⟨p31, k32, rfl, h33⟩ := hv
  refine .bind (fun _ hn34 => ?_)
  obtain ⟨rfl, rfl⟩ := h33.nil (nilO_some hn34)
  refine .ownNil 5 (Ex cApiParcel) 49 ?_
  refine .ownConv 0 rfl (show [] = x29.book.Moving from (nilO_some hn34).symm) ?_
  refine .store (cs' := (cApiDutyBook x29.book none 0)) Try.sizeOf31 rfl rfl rfl rfl (i := 4) rfl (Nat.le_of_ble_eq_true rfl) rfl (setMany_all (by rfl)) ?_
  refine .nil ?_
  refine .code ?_
  refine .seq ?_
  refine .seq ?_
  refine .region ?_
  refine .move rfl rfl ?_
  refine .nilCheckR hp28 rfl rfl ?_
  refine .fieldAddr rfl Try.underlying66 rfl Try.sizeOf63 rfl ?_
  refine .loadR (Φ := fun v => ∃ (p36 : Option Nat) (k37 : Unit), v = (.map p36) ∧ RepRef _19.g63 F_16 p36 x29.moving) 1 rfl (Fz.le_refl _) hb27 e30 rfl Try.isAgg63 rfl (fun vs ⟨q0, q1, q2, q3, q4, q5, q6, q7, h, r0, r1, r2, r3⟩ => ⟨_, by subst h; exact rfl, q4, q5, rfl, r2⟩) (fun v hv => ?_)
  obtain ⟨p36, k37, rfl, h38⟩ := hv
  refine .keysC keysOf27 rfl Try.call27 rfl rfl (fun b39 F_40 l_41 hb42 => ?_)
  refine .sortedX Try.underlying3 sortedKeys46 (c := (Ex (cInt .i64))) (fun _ _ => rfl) (hb42) 2 rfl (h38.mono l_41) rfl Try.call26 rfl rfl (fun ks43 F_44 p45 c46 e47 l_48 h49 => ?_)
  refine .lenS rfl rfl Try.underlying41 rfl ?_
  refine .move rfl rfl ?_
  refine .nil ?_
  refine .keep (.cons (k := 6) rfl (.cons (k := 9) rfl (.cons (k := 10) rfl (.cons (k := 35) rfl (.cons (k := 36) rfl (.cons (k := 37) rfl (.nil _))))))) ?_
  refine .code ?_
  refine .block ?_
  refine .keep (.cons (k := 6) rfl (.cons (k := 9) rfl (.cons (k := 10) rfl (.cons (k := 35) rfl (.cons (k := 36) rfl (.cons (k := 37) rfl (.nil _))))))) ?_
  refine .ownUp 0 (Fz.le_trans l_41 l_48) rfl ?_
  refine .loop (fun (s50 : Int × ApiDutyBook) a w => ∃ (F_51 : Fz) (p53 : Option Addr) (k54 : Nat), F_44 ≤ F_51 ∧ Hd 55 [] [(6, (.pointer (some ⟨b14, 0, none⟩))), (9, (.pointer p20)), (10, (.int .i64 r_15.2.1)), (35, (.slice p45 ks43.length c46)), (36, (.int .i64 (ks43.length : Int))), (37, (.int .i64 s50.1))] F_51 [ownSl 5 (Ex cApiParcel) F_51 49 p53 k54 s50.2.Moving, arena _19.g66 (C66 _19) F_16 r_15.2.2.2.1, arena _19.g63 (C63 _19) F_16 r_15.2.2.2.2.1, arena _19.g64 (C64 _19) F_16 r_15.2.2.2.2.2, pt b14 (.cells (cApiDutyBook s50.2 p53 k54).toArray 31), R] a w) (fun b120 e a w => e = .exit 0 ∧ ∃ (F_121 : Fz) (p123 : Option Addr) (k124 : Nat), F_44 ≤ F_121 ∧ Hd 55 [] [(6, (.pointer (some ⟨b14, 0, none⟩))), (10, (.int .i64 r_15.2.1))] F_121 [ownSl 5 (Ex cApiParcel) F_121 49 p123 k124 b120.Moving, arena _19.g66 (C66 _19) F_16 r_15.2.2.2.1, arena _19.g63 (C63 _19) F_16 r_15.2.2.2.2.1, arena _19.g64 (C64 _19) F_16 r_15.2.2.2.2.2, pt b14 (.cells (cApiDutyBook b120 p123 k124).toArray 31), R] a w) ?_ ?_ ?_
  ·exact fun a w h => ⟨F_44, none, 0, (Fz.le_refl _), h.1.sub (.cons (k := 6) rfl (.cons (k := 9) rfl (.cons (k := 10) rfl (.cons (k := 35) rfl (.cons (k := 36) rfl (.cons (k := 37) rfl (.nil _))))))), h.2⟩
  ·intro s50 ctl
   refine GC.ex (fun a w ⟨F_51, p53, k54, l_52, hA⟩ => ⟨_, hA, ?_⟩)
   unfold b_excise_Play_1
   refine .seq ?_
   refine .region ?_
   refine .lss rfl rfl rfl ?_
   refine .nil ?_
   refine .code ?_
   refine .seq ?_
   refine .cond rfl (fun hb56 => ?_) (fun hb56 => ?_)
   ·skip
    refine .skip ?_
    refine .code ?_
    refine .seq ?_
    refine .block ?_
    refine .seq ?_
    refine .region ?_
    refine .idx rfl Try.underlying41 Try.sizeOf3 (h49.mono l_52) rfl rfl (fun x57 b58 o59 T60 fr61 cs62 e63 hm64 hv65 => ?_)
    refine .loadF rfl Try.isAgg3 rfl hm64 (cell_of_take (k := 0) hv65 rfl) ?_
    refine .assign rfl rfl ?_
    refine .nil ?_
    refine .code ?_
    refine .keep (.cons (k := 6) rfl (.cons (k := 9) rfl (.cons (k := 10) rfl (.cons (k := 12) rfl (.cons (k := 35) rfl (.cons (k := 36) rfl (.cons (k := 37) rfl (.nil _)))))))) ?_
    refine .bind (fun i72 e73 => ?_)
    refine .bind (fun x74 e75 => ?_)
    refine .drawGD 9 0 (fun env67 => [((.pointer (some ⟨b14, 0 + 16, none⟩)), fun _ => True), ((.slice p53 s50.2.Moving.length k54), fun _ => True), ((.pointer p20), fun _ => True), ((.pointer (some ⟨b26, 0, none⟩)), fun _ => True), ((.pointer (some ⟨b26, 0 + 29, none⟩)), fun _ => True), ((.map (env67.o 50)), fun G => RepRef _19.g63 G (env67.o 50) x29.moving), ((.int .i64 x57), fun _ => True), ((eApiParcel ((mapGet x74 x57).getD (ApiParcel.mk 0 0 0 0 0))), fun _ => True), ((.slice (some ⟨env67.n 80, 0, none⟩) ([((mapGet x74 x57).getD (ApiParcel.mk 0 0 0 0 0))]).length 1), fun G => RepSl 5 (Ex cApiParcel) G (some ⟨env67.n 80, 0, none⟩) 1 ([((mapGet x74 x57).getD (ApiParcel.mk 0 0 0 0 0))]))]) (fun L env67 => [ownSl 5 (Ex cApiParcel) F_51 49 p53 k54 s50.2.Moving, arena _19.g66 (C66 _19) F_16 r_15.2.2.2.1, arena _19.g63 (C63 _19) F_16 r_15.2.2.2.2.1, arena _19.g64 (C64 _19) F_16 r_15.2.2.2.2.2, pt b14 (.cells (cApiDutyBook s50.2 p53 k54).toArray 31), R]) mixedOK (by kernel_rfl) (deepN (k := 9) (n := 12) rfl (allLt12 (p := fun t => 9 ≤ t → ∀ j, j < t → ∃ s, depB _ s t j = true) (fun h => absurd h (by decide)) (fun h => absurd h (by decide)) (fun h => absurd h (by decide)) (fun h => absurd h (by decide)) (fun h => absurd h (by decide)) (fun h => absurd h (by decide)) (fun h => absurd h (by decide)) (fun h => absurd h (by decide)) (fun h => absurd h (by decide)) (fun _ => allLt9 (p := fun j => ∃ s, depB _ s 9 j = true) ⟨2, rfl⟩ ⟨1, rfl⟩ ⟨6, rfl⟩ ⟨5, rfl⟩ ⟨4, rfl⟩ ⟨3, rfl⟩ ⟨3, rfl⟩ ⟨2, rfl⟩ ⟨1, rfl⟩) (fun _ => allLt10 (p := fun j => ∃ s, depB _ s 10 j = true) ⟨1, rfl⟩ ⟨1, rfl⟩ ⟨1, rfl⟩ ⟨1, rfl⟩ ⟨1, rfl⟩ ⟨1, rfl⟩ ⟨1, rfl⟩ ⟨1, rfl⟩ ⟨1, rfl⟩ ⟨1, rfl⟩) (fun _ => allLt11 (p := fun j => ∃ s, depB _ s 11 j = true) ⟨1, rfl⟩ ⟨1, rfl⟩ ⟨1, rfl⟩ ⟨1, rfl⟩ ⟨1, rfl⟩ ⟨1, rfl⟩ ⟨1, rfl⟩ ⟨1, rfl⟩ ⟨1, rfl⟩ ⟨1, rfl⟩ ⟨1, rfl⟩))) rfl (fun _ => rfl) (by kernel_rfl) (fun _ => rfl) ?_ (fun env67 F_83 l_84 hphi => ?_)
    ·skip
     refine .cons (fun L env67 F_85 l_86 hL hdn hup hphi => ⟨[(6, (.pointer (some ⟨b14, 0, none⟩)))], fun S hS hV => (.cons (hS _ _ rfl) (Sub.nil _)), ?_⟩) ?_
     ·skip
      refine .fieldAddr rfl Try.underlying31 rfl Try.sizeOf29 rfl ?_
      exact .finV rfl rfl (Fz.le_refl _)
     refine .cons (fun L env67 F_87 l_88 hL hdn hup hphi => ⟨[(41, (.pointer (some ⟨b14, 0 + 16, none⟩)))], fun S hS hV => (.cons (hV 0 41 _ (hdn 1 0 rfl) rfl rfl) (Sub.nil _)), ?_⟩) ?_
     ·skip
      refine .loadO rfl Try.isAgg29 rfl (i := 4) rfl rfl ?_
      exact .finV rfl rfl (Fz.le_refl _)
     refine .cons (fun L env67 F_89 l_90 hL hdn hup hphi => ⟨[(9, (.pointer p20))], fun S hS hV => (.cons (hS _ _ rfl) (Sub.nil _)), ?_⟩) ?_
     ·skip
      refine .move rfl rfl ?_
      exact .finV rfl rfl (Fz.le_refl _)
     refine .cons (fun L env67 F_91 l_92 hL hdn hup hphi => ⟨[(43, (.pointer p20))], fun S hS hV => (.cons (hV 2 43 _ (hdn 1 2 rfl) rfl rfl) (Sub.nil _)), ?_⟩) ?_
     ·skip
      refine .nilCheckR hp28 rfl rfl ?_
      exact .finV rfl rfl (Fz.le_refl _)
     refine .cons (fun L env67 F_93 l_94 hL hdn hup hphi => ⟨[(44, (.pointer (some ⟨b26, 0, none⟩)))], fun S hS hV => (.cons (hV 3 44 _ (hdn 1 3 rfl) rfl rfl) (Sub.nil _)), ?_⟩) ?_
     ·skip
      refine .fieldAddr rfl Try.underlying66 rfl Try.sizeOf63 rfl ?_
      exact .finV rfl rfl (Fz.le_refl _)
     refine .cons (fun L env67 F_95 l_96 hL hdn hup hphi => ⟨[(45, (.pointer (some ⟨b26, 0 + 29, none⟩)))], fun S hS hV => (.cons (hV 4 45 _ (hdn 1 4 rfl) rfl rfl) (Sub.nil _)), ?_⟩) ?_
     ·skip
      refine .loadR (Φ := fun v => ∃ (p97 : Option Nat) (k98 : Unit), v = (.map p97) ∧ RepRef _19.g63 F_95 p97 x29.moving) 1 rfl (Fz.le_trans l_41 (Fz.le_trans l_48 (Fz.le_trans l_52 l_96))) (hb27.mono (Fz.le_trans l_41 (Fz.le_trans l_48 (Fz.le_trans l_52 l_96)))) e30 rfl Try.isAgg63 rfl (fun vs ⟨q0, q1, q2, q3, q4, q5, q6, q7, h, r0, r1, r2, r3⟩ => ⟨_, by subst h; exact rfl, q4, q5, rfl, r2⟩) (fun v hv => ?_)
      obtain ⟨p97, k98, rfl, h99⟩ := hv
      exact .finQ ({ env67 with a := env67.a, n := env67.n, c := env67.c, o := (updN env67.o 50 p97) }) [true, true, true, true, true, false, true, false, false] rfl (by kernel_rfl) rfl rfl (Fz.le_refl _) (fun _ le => h99.mono le) (cons_eq rfl (cons_eq rfl (cons_eq rfl (cons_eq rfl (cons_eq rfl (cons_eq rfl rfl))))))
     refine .cons (fun L env67 F_100 l_101 hL hdn hup hphi => ⟨[(12, (.int .i64 x57))], fun S hS hV => (.cons (hS _ _ rfl) (Sub.nil _)), ?_⟩) ?_
     ·skip
      refine .move rfl rfl ?_
      exact .finV rfl rfl (Fz.le_refl _)
     refine .cons (fun L env67 F_102 l_103 hL hdn hup hphi => ⟨[(46, (.map (env67.o 50))), (47, (.int .i64 x57))], fun S hS hV => (.cons (hV 5 46 _ (hdn 1 5 rfl) rfl rfl) (.cons (hV 6 47 _ (hdn 1 6 rfl) rfl rfl) (Sub.nil _))), ?_⟩) ?_
     ·skip
      have h71 := hphi 5 _ (hdn 1 5 rfl) rfl _ (Fz.le_refl _)
      obtain ⟨b104, hb105, hp106⟩ := h71.at e73
      refine .lookupR (key := x57) (z := (ApiParcel.mk 0 0 0 0 0)) 2 rfl (Fz.le_trans l_41 (Fz.le_trans l_48 (Fz.le_trans l_52 l_103))) hb105 hp106 e75 rfl Try.underlying63 (.int Try.underlying3) Try.zeroValue49 rfl rfl rfl ?_
      intro v hv
      obtain rfl := hv
      exact .finV rfl rfl (Fz.le_refl _)
     refine .cons (fun L env67 F_107 l_108 hL hdn hup hphi => ⟨[(48, (eApiParcel ((mapGet x74 x57).getD (ApiParcel.mk 0 0 0 0 0))))], fun S hS hV => (.cons (hV 7 48 _ (hdn 1 7 rfl) rfl rfl) (Sub.nil _)), ?_⟩) ?_
     ·skip
      have h71 := hphi 5 _ (hdn 2 5 rfl) rfl _ (Fz.le_refl _)
      refine .sliceLit (cs := [.int .i64 ((mapGet x74 x57).getD (ApiParcel.mk 0 0 0 0 0)).Id, .int .i64 ((mapGet x74 x57).getD (ApiParcel.mk 0 0 0 0 0)).From, .int .i64 ((mapGet x74 x57).getD (ApiParcel.mk 0 0 0 0 0)).To, .int .i64 ((mapGet x74 x57).getD (ApiParcel.mk 0 0 0 0 0)).Sent, .int .i64 ((mapGet x74 x57).getD (ApiParcel.mk 0 0 0 0 0)).Amount]) (zc := [.int .i64 (ApiParcel.mk 0 0 0 0 0).Id, .int .i64 (ApiParcel.mk 0 0 0 0 0).From, .int .i64 (ApiParcel.mk 0 0 0 0 0).To, .int .i64 (ApiParcel.mk 0 0 0 0 0).Sent, .int .i64 (ApiParcel.mk 0 0 0 0 0).Amount]) rfl Try.underlying29 Try.sizeOf49 Try.zeroValue49 rfl rfl rfl (by kernel_rfl) (by kernel_rfl) (fun b109 F_110 l_111 hb112 => ?_)
      have h113 : RepSl 5 (Ex cApiParcel) F_110 (some ⟨b109, 0, none⟩) 1 ([((mapGet x74 x57).getD (ApiParcel.mk 0 0 0 0 0))]) := RepSl.ofRow hb112 (.cons ok_t49.mono rfl .nil) rfl rfl
      exact .finQ ({ env67 with a := env67.a, n := (updN env67.n 80 b109), c := env67.c, o := env67.o }) [true, true, true, true, true, true, true, true, false] rfl (by kernel_rfl) rfl rfl l_111 (fun _ le => h113.mono le) (cons_eq rfl (cons_eq rfl (cons_eq rfl (cons_eq rfl (cons_eq rfl (cons_eq rfl rfl))))))
     exact .nil
    have h71 := hphi 5 _ rfl
    have h82 := hphi 8 _ rfl
    refine .norm (S' := [(6, (.pointer (some ⟨b14, 0, none⟩))), (9, (.pointer p20)), (10, (.int .i64 r_15.2.1)), (12, (.int .i64 x57)), (35, (.slice p45 ks43.length c46)), (36, (.int .i64 (ks43.length : Int))), (37, (.int .i64 s50.1)), (41, (.pointer (some ⟨b14, 0 + 16, none⟩))), (42, (.slice p53 s50.2.Moving.length k54)), (43, (.pointer p20)), (44, (.pointer (some ⟨b26, 0, none⟩))), (45, (.pointer (some ⟨b26, 0 + 29, none⟩))), (46, (.map (env67.o 50))), (47, (.int .i64 x57)), (48, (eApiParcel ((mapGet x74 x57).getD (ApiParcel.mk 0 0 0 0 0)))), (49, (.slice (some ⟨env67.n 80, 0, none⟩) ([((mapGet x74 x57).getD (ApiParcel.mk 0 0 0 0 0))]).length 1))]) (.cons (k := 6) rfl (.cons (k := 9) rfl (.cons (k := 10) rfl (.cons (k := 12) rfl (.cons (k := 35) rfl (.cons (k := 36) rfl (.cons (k := 37) rfl (.cons (k := 41) rfl (.cons (k := 42) rfl (.cons (k := 43) rfl (.cons (k := 44) rfl (.cons (k := 45) rfl (.cons (k := 46) rfl (.cons (k := 47) rfl (.cons (k := 48) rfl (.cons (k := 49) rfl (.nil _))))))))))))))))) (rfl : _ = [ownSl 5 (Ex cApiParcel) F_51 49 p53 k54 s50.2.Moving, arena _19.g66 (C66 _19) F_16 r_15.2.2.2.1, arena _19.g63 (C63 _19) F_16 r_15.2.2.2.2.1, arena _19.g64 (C64 _19) F_16 r_15.2.2.2.2.2, pt b14 (.cells (cApiDutyBook s50.2 p53 k54).toArray 31), R]) ?_
    refine .append 0 ok_t49 l_84 rfl Try.underlying29 Try.underlying29 rfl rfl rfl h82 rfl rfl (fun l_114 p115 k116 e117 => ?_)
    refine .fieldAddr rfl Try.underlying31 rfl Try.sizeOf29 rfl ?_
    refine .letv (fun x118 e119 => ?_)
    refine .ownConv 0 rfl (show l_114 = x118.Moving by rw [e119]) ?_
    refine .store (cs' := (cApiDutyBook x118 p115 k116)) Try.sizeOf29 rfl rfl rfl rfl (i := 4) rfl (Nat.le_of_ble_eq_true rfl) rfl (by rw [e119]; kernel_rfl) ?_
    refine .nil ?_
    refine .block ?_
    refine .code ?_
    refine .region ?_
    refine .add rfl rfl rfl ?_
    refine .move rfl rfl ?_
    refine .nil ?_
    exact .nil (LPost.norm fun a w h => ⟨F_83, p115, k116, (Fz.le_trans l_52 l_84), h.1.sub (.cons (k := 6) rfl (.cons (k := 9) rfl (.cons (k := 10) rfl (.cons (k := 35) rfl (.cons (k := 36) rfl (.cons (k := 37) rfl (.nil _))))))), h.2⟩)
   ·skip
    refine .exitOut rfl (LPost.exit fun a w h => ⟨rfl, F_51, p53, k54, l_52, h.1.sub (.cons (k := 6) rfl (.cons (k := 10) rfl (.nil _))), h.2⟩)
  ·intro b120 hb0 hk e a w hD
   obtain ⟨rfl, F_121, p123, k124, l_122, hA⟩ := hD
   refine interp_exit rfl (GE.app ?_ hk a w hA)
   refine .code ?_
   refine .seq ?_
   refine .region ?_
   refine .loadOA rfl Try.isAgg31 Try.sizeOf31 rfl (i := 4) rfl (vs := (cApiDutyBook b120 p123 k124)) (by kernel_rfl) rfl ?_
   refine .move rfl rfl ?_
   refine .freezeSl 0 rfl (Fz.le_refl _) (fun F_126 l_127 h128 => ?_)
   refine .store (cs' := (cApiDutyBook b120 p123 k124)) Try.sizeOf31 rfl rfl rfl rfl (i := 3) rfl (Nat.le_of_ble_eq_true rfl) rfl (setMany_all (by rfl)) ?_
   refine .assign rfl rfl ?_
   refine .assign rfl rfl ?_
   refine .nil ?_
   refine .code ?_
   exact .ret0 Try.results13 (.agg rfl Try.isAgg31 Try.sizeOf31 (i := 3) rfl (vs' := (cApiDutyBook b120 p123 k124)) (by kernel_rfl) rfl (.tmp rfl (.tmp rfl (.nil)))) (i := 4) rfl (Fz.le_trans l_12 (Fz.le_trans l_17 (Fz.le_trans l_41 (Fz.le_trans l_48 (Fz.le_trans l_122 l_127))))) ⟨p123, k124, rfl, h128⟩
noncomputable def m_excise_Duty (r_1 : ApiDutyRules) (amount5 : Int) (day6 : Int) : Option (Int × Int) :=
 (m_excise_areRules r_1).bind fun r_13 => if (!r_13) then (some (0, 1)) else (if ((!(m_excise_within amount5 0 17179869184)) || (!(m_excise_isDay day6))) then (some (0, 2)) else ((m_excise_duty r_1 amount5 day6).bind fun r_26 => some (r_26, 0)))
theorem c_excise_Duty (F0 : Fz) (r_1 : ApiDutyRules) (p2 : Option Addr) (k3 : Nat) (h4 : RepSl 2 (Ex cApiDutyRate) F0 p2 k3 r_1.Rates) (amount5 : Int) (day6 : Int) : CT0 Try.prog 15 [(eApiDutyRules r_1 p2 k3), (.int .i64 amount5), (.int .i64 day6)].toArray F0 (m_excise_Duty r_1 amount5 day6) (fun r _ v => v = .tuple #[(.int .i64 r.1), (.int .i64 r.2)]) := by
 refine CT0.enter Try.func15 rfl Try.ntmps15 rfl fun r R => ?_
 unfold m_excise_Duty
 refine .seq ?_
 refine .region ?_
 refine .boxF (cs := (cApiDutyRules r_1 p2 k3)) rfl rfl rfl (fun b7 F_8 l_9 hb10 => ?_)
 refine .assign rfl rfl ?_
 refine .assign rfl rfl ?_
 refine .nil ?_
 refine .code ?_
 refine .seq ?_
 refine .block ?_
 refine .seq ?_
 refine .region ?_
 refine .loadFA rfl Try.isAgg24 Try.sizeOf24 rfl hb10 (vs := (cApiDutyRules r_1 p2 k3)) (by kernel_rfl) rfl ?_
 refine .call0 rfl Try.call32 rfl rfl rfl (c_excise_areRules _ r_1 p2 k3 (h4.mono l_9)) ?_
 rintro r_13 F_11 _ - l_12 rfl
 refine .not rfl rfl ?_
 refine .assign rfl rfl ?_
 refine .nil ?_
 refine .code ?_
 refine .cond rfl (fun hb14 => ?_) (fun hb14 => ?_)
 ·skip
  refine .seq ?_
  refine .region ?_
  refine .assign rfl rfl ?_
  refine .assign rfl rfl ?_
  refine .nil ?_
  refine .code ?_
  exact .ret0 Try.results15 (.tmp rfl (.tmp rfl (.nil))) (i := 0) rfl (Fz.le_trans l_9 l_12) rfl
 ·skip
  refine .seq ?_
  refine .region ?_
  refine .move rfl rfl ?_
  refine .callP rfl Try.call33 rfl rfl rfl (c_excise_within _ amount5 0 17179869184) ?_
  rintro F_15 _ l_16 rfl
  refine .not rfl rfl ?_
  refine .move rfl rfl ?_
  refine .orP (b := (!(m_excise_within amount5 0 17179869184))) (b' := (!(m_excise_isDay day6))) 4 20 (fun hb17 => ?_) (fun hb20 => ?_) (fun F_21 l_22 => ?_)
  ·skip
   refine .onH hb17 rfl rfl ?_
   refine .move rfl rfl ?_
   refine .onH hb17 rfl rfl ?_
   refine .callP rfl Try.call34 rfl rfl rfl (c_excise_isDay _ day6) ?_
   rintro F_18 _ l_19 rfl
   refine .onH hb17 rfl rfl ?_
   refine .not rfl rfl ?_
   refine .pickFH hb17 rfl rfl rfl ?_
   exact .fin 4 rfl rfl (by kernel_rfl) l_19
  ·skip
   refine .offH hb20 rfl rfl rfl ?_
   refine .offH hb20 rfl rfl rfl ?_
   refine .offH hb20 rfl rfl rfl ?_
   refine .pickTH hb20 rfl rfl rfl ?_
   exact .fin 4 rfl rfl (by kernel_rfl) (Fz.le_refl _)
  refine .assign rfl rfl ?_
  refine .nil ?_
  refine .code ?_
  refine .cond rfl (fun hb23 => ?_) (fun hb23 => ?_)
  ·skip
   refine .seq ?_
   refine .region ?_
   refine .assign rfl rfl ?_
   refine .assign rfl rfl ?_
   refine .nil ?_
   refine .code ?_
   exact .ret0 Try.results15 (.tmp rfl (.tmp rfl (.nil))) (i := 0) rfl (Fz.le_trans l_9 (Fz.le_trans l_12 (Fz.le_trans l_16 l_22))) rfl
  ·skip
   refine .skip ?_
   refine .block ?_
   refine .code ?_
   refine .seq ?_
   refine .region ?_
   refine .loadFA rfl Try.isAgg24 Try.sizeOf24 rfl ((Fz.le_trans l_12 (Fz.le_trans l_16 l_22)).mem _ _ hb10) (vs := (cApiDutyRules r_1 p2 k3)) (by kernel_rfl) rfl ?_
   refine .move rfl rfl ?_
   refine .move rfl rfl ?_
   refine .call0 rfl Try.call35 rfl rfl rfl (c_excise_duty _ r_1 p2 k3 (h4.mono (Fz.le_trans l_9 (Fz.le_trans l_12 (Fz.le_trans l_16 l_22)))) amount5 day6) ?_
   rintro r_26 F_24 _ - l_25 rfl
   refine .assign rfl rfl ?_
   refine .assign rfl rfl ?_
   refine .nil ?_
   refine .code ?_
   exact .ret0 Try.results15 (.tmp rfl (.tmp rfl (.nil))) (i := 0) rfl (Fz.le_trans l_9 (Fz.le_trans l_12 (Fz.le_trans l_16 (Fz.le_trans l_22 l_25)))) rfl
noncomputable def m_excise_Return (r_1 : ApiDutyRules) (l_5 : (List ApiDutyEvent)) (from_9 : Int) (to_10 : Int) : Option (Int × Int × Int) :=
 (m_excise_areRules r_1).bind fun r_17 => if (!r_17) then (some (0, 0, 1)) else (if (decide ((l_5.length : Int) > 4096)) then (some (0, 0, 3)) else (if ((!(m_excise_isDay from_9)) || (!(m_excise_within to_10 from_9 65536))) then (some (0, 0, 2)) else ((m_excise_play r_1 l_5 to_10).bind fun r_29 => if ((r_29.2.2.1 != 0) || (from_9 == 0)) then (if (r_29.1).isNone then (some (0, 0, r_29.2.2.1)) else ((r_29.1).bind fun i43 => (r_29.2.2.2.1[i43]?).bind fun x48 => some (x48.book.Due, x48.book.Paid, r_29.2.2.1))) else ((m_excise_play r_1 l_5 (w64 (from_9 - 1))).bind fun r_79 => (r_29.1).bind fun i87 => (r_29.2.2.2.1[i87]?).bind fun x92 => (r_79.1).bind fun i94 => (r_79.2.2.2.1[i94]?).bind fun x99 => bindv (w64 (x92.book.Due - x99.book.Due)) fun due101 => bindv (w64 (x92.book.Paid - x99.book.Paid)) fun paid103 => some (due101, paid103, 0)))))
theorem c_excise_Return (F0 : Fz) (r_1 : ApiDutyRules) (p2 : Option Addr) (k3 : Nat) (h4 : RepSl 2 (Ex cApiDutyRate) F0 p2 k3 r_1.Rates) (l_5 : (List ApiDutyEvent)) (p6 : Option Addr) (k7 : Nat) (h8 : RepSl 6 (Ex cApiDutyEvent) F0 p6 k7 l_5) (from_9 : Int) (to_10 : Int) : CT0 Try.prog 18 [(eApiDutyRules r_1 p2 k3), (.slice p6 l_5.length k7), (.int .i64 from_9), (.int .i64 to_10)].toArray F0 (m_excise_Return r_1 l_5 from_9 to_10) (fun r _ v => v = .tuple #[(.int .i64 r.1), (.int .i64 r.2.1), (.int .i64 r.2.2)]) := by
 refine CT0.enter Try.func18 rfl Try.ntmps18 rfl fun r R => ?_
 unfold m_excise_Return
 refine .seq ?_
 refine .region ?_
 refine .boxF (cs := (cApiDutyRules r_1 p2 k3)) rfl rfl rfl (fun b11 F_12 l_13 hb14 => ?_)
 refine .assign rfl rfl ?_
 refine .assign rfl rfl ?_
 refine .assign rfl rfl ?_
 refine .nil ?_
 refine .code ?_
 refine .seq ?_
 refine .block ?_
 refine .seq ?_
 refine .region ?_
 refine .loadFA rfl Try.isAgg24 Try.sizeOf24 rfl hb14 (vs := (cApiDutyRules r_1 p2 k3)) (by kernel_rfl) rfl ?_
 refine .call0 rfl Try.call32 rfl rfl rfl (c_excise_areRules _ r_1 p2 k3 (h4.mono l_13)) ?_
 rintro r_17 F_15 _ - l_16 rfl
 refine .not rfl rfl ?_
 refine .assign rfl rfl ?_
 refine .nil ?_
 refine .code ?_
 refine .cond rfl (fun hb18 => ?_) (fun hb18 => ?_)
 ·skip
  refine .seq ?_
  refine .region ?_
  refine .assign rfl rfl ?_
  refine .assign rfl rfl ?_
  refine .assign rfl rfl ?_
  refine .nil ?_
  refine .code ?_
  exact .ret0 Try.results18 (.tmp rfl (.tmp rfl (.tmp rfl (.nil)))) (i := 0) rfl (Fz.le_trans l_13 l_16) rfl
 ·skip
  refine .seq ?_
  refine .region ?_
  refine .move rfl rfl ?_
  refine .lenS rfl rfl Try.underlying25 rfl ?_
  refine .gtr rfl rfl rfl ?_
  refine .assign rfl rfl ?_
  refine .nil ?_
  refine .code ?_
  refine .cond rfl (fun hb19 => ?_) (fun hb19 => ?_)
  ·skip
   refine .seq ?_
   refine .region ?_
   refine .assign rfl rfl ?_
   refine .assign rfl rfl ?_
   refine .assign rfl rfl ?_
   refine .nil ?_
   refine .code ?_
   exact .ret0 Try.results18 (.tmp rfl (.tmp rfl (.tmp rfl (.nil)))) (i := 0) rfl (Fz.le_trans l_13 l_16) rfl
  ·skip
   refine .seq ?_
   refine .region ?_
   refine .move rfl rfl ?_
   refine .callP rfl Try.call34 rfl rfl rfl (c_excise_isDay _ from_9) ?_
   rintro F_20 _ l_21 rfl
   refine .not rfl rfl ?_
   refine .move rfl rfl ?_
   refine .orP (b := (!(m_excise_isDay from_9))) (b' := (!(m_excise_within to_10 from_9 65536))) 5 33 (fun hb22 => ?_) (fun hb25 => ?_) (fun F_26 l_27 => ?_)
   ·skip
    refine .onH hb22 rfl rfl ?_
    refine .move rfl rfl ?_
    refine .onH hb22 rfl rfl ?_
    refine .move rfl rfl ?_
    refine .onH hb22 rfl rfl ?_
    refine .callP rfl Try.call33 rfl rfl rfl (c_excise_within _ to_10 from_9 65536) ?_
    rintro F_23 _ l_24 rfl
    refine .onH hb22 rfl rfl ?_
    refine .not rfl rfl ?_
    refine .pickFH hb22 rfl rfl rfl ?_
    exact .fin 5 rfl rfl (by kernel_rfl) l_24
   ·skip
    refine .offH hb25 rfl rfl rfl ?_
    refine .offH hb25 rfl rfl rfl ?_
    refine .offH hb25 rfl rfl rfl ?_
    refine .offH hb25 rfl rfl rfl ?_
    refine .pickTH hb25 rfl rfl rfl ?_
    exact .fin 5 rfl rfl (by kernel_rfl) (Fz.le_refl _)
   refine .assign rfl rfl ?_
   refine .nil ?_
   refine .code ?_
   refine .cond rfl (fun hb28 => ?_) (fun hb28 => ?_)
   ·skip
    refine .seq ?_
    refine .region ?_
    refine .assign rfl rfl ?_
    refine .assign rfl rfl ?_
    refine .assign rfl rfl ?_
    refine .nil ?_
    refine .code ?_
    exact .ret0 Try.results18 (.tmp rfl (.tmp rfl (.tmp rfl (.nil)))) (i := 0) rfl (Fz.le_trans l_13 (Fz.le_trans l_16 (Fz.le_trans l_21 l_27))) rfl
   ·skip
    refine .skip ?_
    refine .block ?_
    refine .code ?_
    refine .seq ?_
    refine .region ?_
    refine .loadFA rfl Try.isAgg24 Try.sizeOf24 rfl ((Fz.le_trans l_16 (Fz.le_trans l_21 l_27)).mem _ _ hb14) (vs := (cApiDutyRules r_1 p2 k3)) (by kernel_rfl) rfl ?_
    refine .move rfl rfl ?_
    refine .move rfl rfl ?_
    refine .callO rfl Try.call25 rfl rfl rfl (c_excise_play _ r_1 p2 k3 (h4.mono (Fz.le_trans l_13 (Fz.le_trans l_16 (Fz.le_trans l_21 l_27)))) l_5 p6 k7 (h8.mono (Fz.le_trans l_13 (Fz.le_trans l_16 (Fz.le_trans l_21 l_27)))) to_10) ?_
    rintro r_29 _33 F_30 _ e32 l_31 ⟨p34, k35, rfl, h36⟩
    refine .norm (Sub.refl _) (rfl : _ = [arena _33.g66 (C66 _33) F_30 r_29.2.2.2.1, arena _33.g63 (C63 _33) F_30 r_29.2.2.2.2.1, arena _33.g64 (C64 _33) F_30 r_29.2.2.2.2.2, R]) ?_
    refine .move rfl rfl ?_
    refine .extract rfl rfl rfl ?_
    refine .extract rfl rfl rfl ?_
    refine .extract rfl rfl rfl ?_
    refine .assign rfl rfl ?_
    refine .assign rfl rfl ?_
    refine .assign rfl rfl ?_
    refine .nil ?_
    refine .keep (.cons (k := 1) rfl (.cons (k := 2) rfl (.cons (k := 4) rfl (.cons (k := 10) rfl (.cons (k := 11) rfl (.nil _)))))) ?_
    refine .code ?_
    refine .seq ?_
    refine .seq ?_
    refine .region ?_
    refine .move rfl rfl ?_
    refine .neq rfl rfl rfl ?_
    refine .move rfl rfl ?_
    refine .orP (b := (r_29.2.2.1 != 0)) (b' := (from_9 == 0)) 3 47 (fun hb37 => ?_) (fun hb38 => ?_) (fun F_39 l_40 => ?_)
    ·skip
     refine .onH hb37 rfl rfl ?_
     refine .move rfl rfl ?_
     refine .onH hb37 rfl rfl ?_
     refine .eql rfl rfl rfl ?_
     refine .pickFH hb37 rfl rfl rfl ?_
     exact .fin 3 rfl rfl (by kernel_rfl) (Fz.le_refl _)
    ·skip
     refine .offH hb38 rfl rfl rfl ?_
     refine .offH hb38 rfl rfl rfl ?_
     refine .pickTH hb38 rfl rfl rfl ?_
     exact .fin 3 rfl rfl (by kernel_rfl) (Fz.le_refl _)
    refine .nil ?_
    refine .code ?_
    refine .cond rfl (fun hb41 => ?_) (fun hb41 => ?_)
    ·skip
     refine .seq ?_
     refine .seq ?_
     refine .region ?_
     refine .move rfl rfl ?_
     refine .eqlPtrNil (h36.mono l_40) rfl Try.underlying60 rfl rfl ?_
     refine .nil ?_
     refine .code ?_
     refine .cond rfl (fun hb42 => ?_) (fun hb42 => ?_)
     ·skip
      refine .seq ?_
      refine .region ?_
      refine .move rfl rfl ?_
      refine .assign rfl rfl ?_
      refine .assign rfl rfl ?_
      refine .assign rfl rfl ?_
      refine .nil ?_
      refine .code ?_
      exact .ret0 Try.results18 (.tmp rfl (.tmp rfl (.tmp rfl (.nil)))) (i := 3) rfl (Fz.le_trans l_13 (Fz.le_trans l_16 (Fz.le_trans l_21 (Fz.le_trans l_27 (Fz.le_trans l_31 l_40))))) rfl
     ·skip
      refine .skip ?_
      refine .code ?_
      refine .seq ?_
      refine .keep (.cons (k := 10) rfl (.cons (k := 11) rfl (.nil _))) ?_
      refine .bind (fun i43 e44 => ?_)
      obtain ⟨b45, hb46, hp47⟩ := (h36.mono l_40).at e44
      refine .bind (fun x48 e49 => ?_)
      refine .draw ⟨1000000, 0, [], 0⟩ [(51, (.pointer p34)), (52, (.pointer (some ⟨b45, 0, none⟩))), (53, (.pointer (some ⟨b45, 0 + 4, none⟩))), (54, (.pointer (some ⟨b45, 0 + 4 + 23, none⟩))), (55, (.int .i64 x48.book.Due)), (56, (.pointer p34)), (57, (.pointer (some ⟨b45, 0, none⟩))), (58, (.pointer (some ⟨b45, 0 + 4, none⟩))), (59, (.pointer (some ⟨b45, 0 + 4 + 24, none⟩))), (60, (.int .i64 x48.book.Paid)), (61, (.int .i64 r_29.2.2.1)), (8, (.int .i64 x48.book.Due)), (9, (.int .i64 x48.book.Paid))] mixedOK (by kernel_rfl) (by kernel_rfl) rfl (by kernel_rfl) ?_ (fun F_50 b51 l_52 => ?_)
      ·skip
       refine .cons (.mk 51 (.pointer p34) [(11, (.pointer p34))] rfl rfl rfl rfl (fun S hS hd => (.cons (hS _ _ rfl) (Sub.nil _))) (fun F_53 X l_54 => ?_)) ?_
       ·skip
        refine .move rfl rfl ?_
        exact .fin1 (Fz.le_refl _)
       refine .cons (.mk 52 (.pointer (some ⟨b45, 0, none⟩)) [(51, (.pointer p34))] rfl rfl rfl rfl (fun S hS hd => (.cons (hd.1 rfl rfl _ _ rfl) (Sub.nil _))) (fun F_55 X l_56 => ?_)) ?_
       ·skip
        refine .nilCheckR hp47 rfl rfl ?_
        exact .fin1 (Fz.le_refl _)
       refine .cons (.mk 53 (.pointer (some ⟨b45, 0 + 4, none⟩)) [(52, (.pointer (some ⟨b45, 0, none⟩)))] rfl rfl rfl rfl (fun S hS hd => (.cons (hd.1 rfl rfl _ _ rfl) (Sub.nil _))) (fun F_57 X l_58 => ?_)) ?_
       ·skip
        refine .fieldAddr rfl Try.underlying66 rfl Try.sizeOf31 rfl ?_
        exact .fin1 (Fz.le_refl _)
       refine .cons (.mk 54 (.pointer (some ⟨b45, 0 + 4 + 23, none⟩)) [(53, (.pointer (some ⟨b45, 0 + 4, none⟩)))] rfl rfl rfl rfl (fun S hS hd => (.cons (hd.1 rfl rfl _ _ rfl) (Sub.nil _))) (fun F_59 X l_60 => ?_)) ?_
       ·skip
        refine .fieldAddr rfl Try.underlying31 rfl Try.sizeOf3 rfl ?_
        exact .fin1 (Fz.le_refl _)
       refine .cons (.mk 55 (.int .i64 x48.book.Due) [(54, (.pointer (some ⟨b45, 0 + 4 + 23, none⟩)))] rfl rfl rfl rfl (fun S hS hd => (.cons (hd.1 rfl rfl _ _ rfl) (Sub.nil _))) (fun F_61 X l_62 => ?_)) ?_
       ·skip
        refine .loadR (Φ := fun v => v = (.int .i64 x48.book.Due)) 0 rfl (Fz.le_trans l_40 l_62) (hb46.mono l_62) e49 rfl Try.isAgg3 rfl (fun vs ⟨q0, q1, q2, q3, q4, q5, q6, q7, h, r0, r1, r2, r3⟩ => ⟨_, by subst h; exact rfl, rfl⟩) (fun v hv => ?_)
        subst hv
        exact .fin1 (Fz.le_refl _)
       refine .cons (.mk 56 (.pointer p34) [(11, (.pointer p34))] rfl rfl rfl rfl (fun S hS hd => (.cons (hS _ _ rfl) (Sub.nil _))) (fun F_63 X l_64 => ?_)) ?_
       ·skip
        refine .move rfl rfl ?_
        exact .fin1 (Fz.le_refl _)
       refine .cons (.mk 57 (.pointer (some ⟨b45, 0, none⟩)) [(56, (.pointer p34))] rfl rfl rfl rfl (fun S hS hd => (.cons (hd.1 rfl rfl _ _ rfl) (Sub.nil _))) (fun F_65 X l_66 => ?_)) ?_
       ·skip
        refine .nilCheckR hp47 rfl rfl ?_
        exact .fin1 (Fz.le_refl _)
       refine .cons (.mk 58 (.pointer (some ⟨b45, 0 + 4, none⟩)) [(57, (.pointer (some ⟨b45, 0, none⟩)))] rfl rfl rfl rfl (fun S hS hd => (.cons (hd.1 rfl rfl _ _ rfl) (Sub.nil _))) (fun F_67 X l_68 => ?_)) ?_
       ·skip
        refine .fieldAddr rfl Try.underlying66 rfl Try.sizeOf31 rfl ?_
        exact .fin1 (Fz.le_refl _)
       refine .cons (.mk 59 (.pointer (some ⟨b45, 0 + 4 + 24, none⟩)) [(58, (.pointer (some ⟨b45, 0 + 4, none⟩)))] rfl rfl rfl rfl (fun S hS hd => (.cons (hd.1 rfl rfl _ _ rfl) (Sub.nil _))) (fun F_69 X l_70 => ?_)) ?_
       ·skip
        refine .fieldAddr rfl Try.underlying31 rfl Try.sizeOf3 rfl ?_
        exact .fin1 (Fz.le_refl _)
       refine .cons (.mk 60 (.int .i64 x48.book.Paid) [(59, (.pointer (some ⟨b45, 0 + 4 + 24, none⟩)))] rfl rfl rfl rfl (fun S hS hd => (.cons (hd.1 rfl rfl _ _ rfl) (Sub.nil _))) (fun F_71 X l_72 => ?_)) ?_
       ·skip
        refine .loadR (Φ := fun v => v = (.int .i64 x48.book.Paid)) 0 rfl (Fz.le_trans l_40 l_72) (hb46.mono l_72) e49 rfl Try.isAgg3 rfl (fun vs ⟨q0, q1, q2, q3, q4, q5, q6, q7, h, r0, r1, r2, r3⟩ => ⟨_, by subst h; exact rfl, rfl⟩) (fun v hv => ?_)
        subst hv
        exact .fin1 (Fz.le_refl _)
       refine .cons (.mk 61 (.int .i64 r_29.2.2.1) [(10, (.int .i64 r_29.2.2.1))] rfl rfl rfl rfl (fun S hS hd => (.cons (hS _ _ rfl) (Sub.nil _))) (fun F_73 X l_74 => ?_)) ?_
       ·skip
        refine .move rfl rfl ?_
        exact .fin1 (Fz.le_refl _)
       refine .cons (.mk 8 (.int .i64 x48.book.Due) [(55, (.int .i64 x48.book.Due))] rfl rfl rfl rfl (fun S hS hd => (.cons (hd.1 rfl rfl _ _ rfl) (Sub.nil _))) (fun F_75 X l_76 => ?_)) ?_
       ·skip
        refine .assign rfl rfl ?_
        exact .fin1 (Fz.le_refl _)
       refine .cons (.mk 9 (.int .i64 x48.book.Paid) [(60, (.int .i64 x48.book.Paid))] rfl rfl rfl rfl (fun S hS hd => (.cons (hd.1 rfl rfl _ _ rfl) (Sub.nil _))) (fun F_77 X l_78 => ?_)) ?_
       ·skip
        refine .assign rfl rfl ?_
        exact .fin1 (Fz.le_refl _)
       exact .nil
      refine .assign rfl rfl ?_
      refine .nil ?_
      refine .code ?_
      exact .ret0 Try.results18 (.tmp rfl (.tmp rfl (.tmp rfl (.nil)))) (i := 3) rfl (Fz.le_trans l_13 (Fz.le_trans l_16 (Fz.le_trans l_21 (Fz.le_trans l_27 (Fz.le_trans l_31 (Fz.le_trans l_40 l_52)))))) rfl
    ·skip
     refine .skip ?_
     refine .code ?_
     refine .seq ?_
     refine .region ?_
     refine .loadFA rfl Try.isAgg24 Try.sizeOf24 rfl ((Fz.le_trans l_16 (Fz.le_trans l_21 (Fz.le_trans l_27 (Fz.le_trans l_31 l_40)))).mem _ _ hb14) (vs := (cApiDutyRules r_1 p2 k3)) (by kernel_rfl) rfl ?_
     refine .move rfl rfl ?_
     refine .move rfl rfl ?_
     refine .sub rfl rfl rfl ?_
     refine .callO rfl Try.call25 rfl rfl rfl (c_excise_play _ r_1 p2 k3 (h4.mono (Fz.le_trans l_13 (Fz.le_trans l_16 (Fz.le_trans l_21 (Fz.le_trans l_27 (Fz.le_trans l_31 l_40)))))) l_5 p6 k7 (h8.mono (Fz.le_trans l_13 (Fz.le_trans l_16 (Fz.le_trans l_21 (Fz.le_trans l_27 (Fz.le_trans l_31 l_40)))))) (w64 (from_9 - 1))) ?_
     rintro r_79 _83 F_80 _ e82 l_81 ⟨p84, k85, rfl, h86⟩
     refine .norm (Sub.refl _) (rfl : _ = [arena _83.g66 (C66 _83) F_80 r_79.2.2.2.1, arena _83.g63 (C63 _83) F_80 r_79.2.2.2.2.1, arena _83.g64 (C64 _83) F_80 r_79.2.2.2.2.2, arena _33.g66 (C66 _33) F_30 r_29.2.2.2.1, arena _33.g63 (C63 _33) F_30 r_29.2.2.2.2.1, arena _33.g64 (C64 _33) F_30 r_29.2.2.2.2.2, R]) ?_
     refine .move rfl rfl ?_
     refine .extract rfl rfl rfl ?_
     refine .extract rfl rfl rfl ?_
     refine .extract rfl rfl rfl ?_
     refine .assign rfl rfl ?_
     refine .assign rfl rfl ?_
     refine .assign rfl rfl ?_
     refine .nil ?_
     refine .code ?_
     refine .seq ?_
     refine .keep (.cons (k := 11) rfl (.cons (k := 13) rfl (.nil _))) ?_
     refine .drawZ 25 mixedOK (by kernel_rfl) ?_
     refine .move rfl rfl ?_
     refine .bind (fun i87 e88 => ?_)
     obtain ⟨b89, hb90, hp91⟩ := (h36.mono (Fz.le_trans l_40 l_81)).at e88
     refine .nilCheckR hp91 rfl rfl ?_
     refine .fieldAddr rfl Try.underlying66 rfl Try.sizeOf31 rfl ?_
     refine .fieldAddr rfl Try.underlying31 rfl Try.sizeOf3 rfl ?_
     refine .bind (fun x92 e93 => ?_)
     refine .loadR (Φ := fun v => v = (.int .i64 x92.book.Due)) 3 rfl (Fz.le_trans l_40 l_81) hb90 e93 rfl Try.isAgg3 rfl (fun vs ⟨q0, q1, q2, q3, q4, q5, q6, q7, h, r0, r1, r2, r3⟩ => ⟨_, by subst h; exact rfl, rfl⟩) (fun v hv => ?_)
     subst hv
     refine .move rfl rfl ?_
     refine .bind (fun i94 e95 => ?_)
     obtain ⟨b96, hb97, hp98⟩ := h86.at e95
     refine .nilCheckR hp98 rfl rfl ?_
     refine .fieldAddr rfl Try.underlying66 rfl Try.sizeOf31 rfl ?_
     refine .fieldAddr rfl Try.underlying31 rfl Try.sizeOf3 rfl ?_
     refine .bind (fun x99 e100 => ?_)
     refine .loadR (Φ := fun v => v = (.int .i64 x99.book.Due)) 0 rfl (Fz.le_refl _) hb97 e100 rfl Try.isAgg3 rfl (fun vs ⟨q0, q1, q2, q3, q4, q5, q6, q7, h, r0, r1, r2, r3⟩ => ⟨_, by subst h; exact rfl, rfl⟩) (fun v hv => ?_)
     subst hv
     refine .sub rfl rfl rfl ?_
     refine .move rfl rfl ?_
     refine .nilCheckR hp91 rfl rfl ?_
     refine .fieldAddr rfl Try.underlying66 rfl Try.sizeOf31 rfl ?_
     refine .fieldAddr rfl Try.underlying31 rfl Try.sizeOf3 rfl ?_
     refine .loadR (Φ := fun v => v = (.int .i64 x92.book.Paid)) 3 rfl (Fz.le_trans l_40 l_81) hb90 e93 rfl Try.isAgg3 rfl (fun vs ⟨q0, q1, q2, q3, q4, q5, q6, q7, h, r0, r1, r2, r3⟩ => ⟨_, by subst h; exact rfl, rfl⟩) (fun v hv => ?_)
     subst hv
     refine .move rfl rfl ?_
     refine .nilCheckR hp98 rfl rfl ?_
     refine .fieldAddr rfl Try.underlying66 rfl Try.sizeOf31 rfl ?_
     refine .fieldAddr rfl Try.underlying31 rfl Try.sizeOf3 rfl ?_
     refine .loadR (Φ := fun v => v = (.int .i64 x99.book.Paid)) 0 rfl (Fz.le_refl _) hb97 e100 rfl Try.isAgg3 rfl (fun vs ⟨q0, q1, q2, q3, q4, q5, q6, q7, h, r0, r1, r2, r3⟩ => ⟨_, by subst h; exact rfl, rfl⟩) (fun v hv => ?_)
     subst hv
     refine .sub rfl rfl rfl ?_
     refine .assignL rfl rfl (fun due101 e102 => ?_)
     refine .assignL rfl rfl (fun paid103 e104 => ?_)
     refine .assign rfl rfl ?_
     refine .pend ?_
     refine .nil ?_
     refine .keep (.cons (k := 8) rfl (.cons (k := 9) rfl (.cons (k := 10) rfl (.nil _)))) ?_
     refine .code ?_
     exact .ret0 Try.results18 (.tmp rfl (.tmp rfl (.tmp rfl (.nil)))) (i := 6) rfl (Fz.le_trans l_13 (Fz.le_trans l_16 (Fz.le_trans l_21 (Fz.le_trans l_27 (Fz.le_trans l_31 (Fz.le_trans l_40 l_81)))))) rfl
noncomputable def b_excise_Late_1 (day9 : Int) (days10 : Int) (r_15 : (Option Nat) × Int × Int × (List ExciseOffice) × (List (List (Int × ApiParcel))) × (List (List (Int × Bool)))) (x32 : ExciseOffice) (ks41 : (List Int)) (s49 : (List Int) × Int) : Option (Ctl ((List Int) × Int) (((List Int)))) :=
 if (decide (s49.2 < (ks41.length : Int))) then (((idxL ks41 s49.2).bind fun x56 => (x32.moving).bind fun i69 => (r_15.2.2.2.2.1[i69]?).bind fun x74 => (m_excise_office_late r_15.2.2.2.1 r_15.1 ((mapGet x74 x56).getD (ApiParcel.mk 0 0 0 0 0))).bind fun r_76 => (if (decide (r_76 ≤ (w64 (day9 + days10)))) then ((appO s49.1 ([x56])).bind fun l_86 => some l_86) else (some s49.1) : Option ((List Int))).bind fun j90 => some j90 : Option ((List Int))).bind fun j96 => some (.next (j96, (w64 (s49.2 + 1))))) else (some (.done s49.1))
noncomputable def m_excise_Late (r_1 : ApiDutyRules) (l_5 : (List ApiDutyEvent)) (day9 : Int) (days10 : Int) : Option ((List Int) × Int) :=
 (m_excise_play r_1 l_5 day9).bind fun r_15 => if (r_15.2.2.1 != 0) then (some ([], r_15.2.2.1)) else (if (!(m_excise_isDay days10)) then (some ([], 2)) else ((r_15.1).bind fun i27 => (r_15.2.2.2.1[i27]?).bind fun x32 => (sortedO r_15.2.2.2.2.1 x32.moving).bind fun ks41 => (loopM (b_excise_Late_1 day9 days10 r_15 x32 ks41) ([], 0)).bind fun b102 => some (b102, 0)))
theorem c_excise_Late (F0 : Fz) (r_1 : ApiDutyRules) (p2 : Option Addr) (k3 : Nat) (h4 : RepSl 2 (Ex cApiDutyRate) F0 p2 k3 r_1.Rates) (l_5 : (List ApiDutyEvent)) (p6 : Option Addr) (k7 : Nat) (h8 : RepSl 6 (Ex cApiDutyEvent) F0 p6 k7 l_5) (day9 : Int) (days10 : Int) : CT0 Try.prog 20 [(eApiDutyRules r_1 p2 k3), (.slice p6 l_5.length k7), (.int .i64 day9), (.int .i64 days10)].toArray F0 (m_excise_Late r_1 l_5 day9 days10) (fun r F v => ∃ (p0 : Option Addr) (k0 : Nat), v = .tuple #[(.slice p0 r.1.length k0), (.int .i64 r.2)] ∧ RepSl 1 (Ex (cInt .i64)) F p0 k0 r.1) := by
 refine CT0.enter Try.func20 rfl Try.ntmps20 rfl fun r R => ?_
 unfold m_excise_Late
 refine .seq ?_
 refine .region ?_
 refine .boxF (cs := (cApiDutyRules r_1 p2 k3)) rfl rfl rfl (fun b11 F_12 l_13 hb14 => ?_)
 refine .assign rfl rfl ?_
 refine .assign rfl rfl ?_
 refine .nil ?_
 refine .code ?_
 refine .seq ?_
 refine .region ?_
 refine .loadFA rfl Try.isAgg24 Try.sizeOf24 rfl hb14 (vs := (cApiDutyRules r_1 p2 k3)) (by kernel_rfl) rfl ?_
 refine .move rfl rfl ?_
 refine .move rfl rfl ?_
 refine .callO rfl Try.call25 rfl rfl rfl (c_excise_play _ r_1 p2 k3 (h4.mono l_13) l_5 p6 k7 (h8.mono l_13) day9) ?_
 rintro r_15 _19 F_16 _ e18 l_17 ⟨p20, k21, rfl, h22⟩
 refine .norm (Sub.refl _) (rfl : _ = [arena _19.g66 (C66 _19) F_16 r_15.2.2.2.1, arena _19.g63 (C63 _19) F_16 r_15.2.2.2.2.1, arena _19.g64 (C64 _19) F_16 r_15.2.2.2.2.2, R]) ?_
 refine .move rfl rfl ?_
 refine .extract rfl rfl rfl ?_
 refine .extract rfl rfl rfl ?_
 refine .extract rfl rfl rfl ?_
 refine .assign rfl rfl ?_
 refine .assign rfl rfl ?_
 refine .assign rfl rfl ?_
 refine .nil ?_
 refine .code ?_
 refine .seq ?_
 refine .block ?_
 refine .seq ?_
 refine .region ?_
 refine .move rfl rfl ?_
 refine .neq rfl rfl rfl ?_
 refine .assign rfl rfl ?_
 refine .nil ?_
 refine .code ?_
 refine .cond rfl (fun hb23 => ?_) (fun hb23 => ?_)
 ·skip
  refine .seq ?_
  refine .region ?_
  refine .move rfl rfl ?_
  refine .assign rfl rfl ?_
  refine .assign rfl rfl ?_
  refine .nil ?_
  refine .code ?_
  exact .ret0 Try.results20 (.tmp rfl (.tmp rfl (.nil))) (i := 3) rfl (Fz.le_trans l_13 l_17) ⟨none, 0, rfl, (RepSl.nil.mono (Fz.le_trans l_13 l_17))⟩
 ·skip
  refine .seq ?_
  refine .region ?_
  refine .move rfl rfl ?_
  refine .callP rfl Try.call34 rfl rfl rfl (c_excise_isDay _ days10) ?_
  rintro F_24 _ l_25 rfl
  refine .not rfl rfl ?_
  refine .assign rfl rfl ?_
  refine .nil ?_
  refine .keep (.cons (k := 2) rfl (.cons (k := 3) rfl (.cons (k := 10) rfl (.cons (k := 28) rfl (.nil _))))) ?_
  refine .code ?_
  refine .cond rfl (fun hb26 => ?_) (fun hb26 => ?_)
  ·skip
   refine .seq ?_
   refine .region ?_
   refine .assign rfl rfl ?_
   refine .assign rfl rfl ?_
   refine .nil ?_
   refine .code ?_
   exact .ret0 Try.results20 (.tmp rfl (.tmp rfl (.nil))) (i := 3) rfl (Fz.le_trans l_13 (Fz.le_trans l_17 l_25)) ⟨none, 0, rfl, (RepSl.nil.mono (Fz.le_trans l_13 (Fz.le_trans l_17 l_25)))⟩
  ·skip
   refine .skip ?_
   refine .block ?_
   refine .code ?_
   refine .seq ?_
   refine .region ?_
   refine .assign rfl rfl ?_
   refine .nil ?_
   refine .code ?_
   refine .seq ?_
   refine .seq ?_
   refine .region ?_
   refine .move rfl rfl ?_
   refine .bind (fun i27 e28 => ?_)
   obtain ⟨b29, hb30, hp31⟩ := (h22.mono l_25).at e28
   refine .nilCheckR hp31 rfl rfl ?_
   refine .fieldAddr rfl Try.underlying66 rfl Try.sizeOf63 rfl ?_
   refine .bind (fun x32 e33 => ?_)
   refine .loadR (Φ := fun v => ∃ (p34 : Option Nat) (k35 : Unit), v = (.map p34) ∧ RepRef _19.g63 F_24 p34 x32.moving) 0 rfl l_25 hb30 e33 rfl Try.isAgg63 rfl (fun vs ⟨q0, q1, q2, q3, q4, q5, q6, q7, h, r0, r1, r2, r3⟩ => ⟨_, by subst h; exact rfl, q4, q5, rfl, r2⟩) (fun v hv => ?_)
   obtain ⟨p34, k35, rfl, h36⟩ := hv
   refine .keysC keysOf27 rfl Try.call27 rfl rfl (fun b37 F_38 l_39 hb40 => ?_)
   refine .sortedX Try.underlying3 sortedKeys46 (c := (Ex (cInt .i64))) (fun _ _ => rfl) (hb40) 1 rfl (h36.mono l_39) rfl Try.call26 rfl rfl (fun ks41 F_42 p43 c44 e45 l_46 h47 => ?_)
   refine .lenS rfl rfl Try.underlying41 rfl ?_
   refine .move rfl rfl ?_
   refine .nil ?_
   refine .code ?_
   refine .block ?_
   refine .ownNil 1 (Ex (cInt .i64)) 3 ?_
   refine .keep (.cons (k := 2) rfl (.cons (k := 3) rfl (.cons (k := 10) rfl (.cons (k := 13) rfl (.cons (k := 37) rfl (.cons (k := 38) rfl (.cons (k := 39) rfl (.nil _)))))))) ?_
   refine .upR 1 (stays66 _19) (Fz.le_trans l_25 (Fz.le_trans l_39 l_46)) rfl ?_
   refine .loop (fun (s49 : (List Int) × Int) a w => ∃ (F_50 : Fz) (p52 : Option Addr) (k53 : Nat), F_42 ≤ F_50 ∧ Hd 61 [] [(2, (.int .i64 day9)), (3, (.int .i64 days10)), (10, (.pointer p20)), (13, (.slice p52 s49.1.length k53)), (37, (.slice p43 ks41.length c44)), (38, (.int .i64 (ks41.length : Int))), (39, (.int .i64 s49.2))] F_50 [ownSl 1 (Ex (cInt .i64)) F_50 3 p52 k53 s49.1, arena _19.g66 (C66 _19) F_50 r_15.2.2.2.1, arena _19.g63 (C63 _19) F_16 r_15.2.2.2.2.1, arena _19.g64 (C64 _19) F_16 r_15.2.2.2.2.2, R] a w) (fun b102 e a w => e = .exit 1 ∧ ∃ (F_103 : Fz) (p105 : Option Addr) (k106 : Nat), F_42 ≤ F_103 ∧ Hd 61 [] [(13, (.slice p105 b102.length k106))] F_103 [ownSl 1 (Ex (cInt .i64)) F_103 3 p105 k106 b102, arena _19.g66 (C66 _19) F_103 r_15.2.2.2.1, arena _19.g63 (C63 _19) F_16 r_15.2.2.2.2.1, arena _19.g64 (C64 _19) F_16 r_15.2.2.2.2.2, R] a w) ?_ ?_ ?_
   ·exact fun a w h => ⟨F_42, none, 0, (Fz.le_refl _), h.1.sub (.cons (k := 2) rfl (.cons (k := 3) rfl (.cons (k := 10) rfl (.cons (k := 13) rfl (.cons (k := 37) rfl (.cons (k := 38) rfl (.cons (k := 39) rfl (.nil _)))))))), h.2⟩
   ·intro s49 ctl
    refine GC.ex (fun a w ⟨F_50, p52, k53, l_51, hA⟩ => ⟨_, hA, ?_⟩)
    unfold b_excise_Late_1
    refine .seq ?_
    refine .region ?_
    refine .lss rfl rfl rfl ?_
    refine .nil ?_
    refine .code ?_
    refine .seq ?_
    refine .cond rfl (fun hb55 => ?_) (fun hb55 => ?_)
    ·skip
     refine .skip ?_
     refine .code ?_
     refine .seq ?_
     refine .keep (.cons (k := 2) rfl (.cons (k := 3) rfl (.cons (k := 10) rfl (.cons (k := 13) rfl (.cons (k := 37) rfl (.cons (k := 38) rfl (.cons (k := 39) rfl (.nil _)))))))) ?_
     refine GC.join0 (σ := (List Int)) (fun j96 a w => ∃ (F_97 : Fz) (p99 : Option Addr) (k100 : Nat), F_50 ≤ F_97 ∧ Hd 61 [] [(2, (.int .i64 day9)), (3, (.int .i64 days10)), (10, (.pointer p20)), (13, (.slice p99 j96.length k100)), (37, (.slice p43 ks41.length c44)), (38, (.int .i64 (ks41.length : Int))), (39, (.int .i64 s49.2))] F_97 [ownSl 1 (Ex (cInt .i64)) F_97 3 p99 k100 j96, arena _19.g66 (C66 _19) F_97 r_15.2.2.2.1, arena _19.g63 (C63 _19) F_16 r_15.2.2.2.2.1, arena _19.g64 (C64 _19) F_16 r_15.2.2.2.2.2, R] a w) (fun sj => ?_) (fun j96 hs0 => GE.ex (fun a w ⟨F_97, p99, k100, l_98, hA⟩ => ⟨_, hA, ?_⟩))
     ·skip
      refine .block ?_
      refine .seq ?_
      refine .region ?_
      refine .idx rfl Try.underlying41 Try.sizeOf3 (h47.mono l_51) rfl rfl (fun x56 b57 o58 T59 fr60 cs61 e62 hm63 hv64 => ?_)
      refine .loadF rfl Try.isAgg3 rfl hm63 (cell_of_take (k := 0) hv64 rfl) ?_
      refine .assign rfl rfl ?_
      refine .nil ?_
      refine .code ?_
      refine .seq ?_
      refine .region ?_
      refine .move rfl rfl ?_
      refine .move rfl rfl ?_
      refine .nilCheckR hp31 rfl rfl ?_
      refine .fieldAddr rfl Try.underlying66 rfl Try.sizeOf63 rfl ?_
      refine .loadR (Φ := fun v => ∃ (p66 : Option Nat) (k67 : Unit), v = (.map p66) ∧ RepRef _19.g63 F_50 p66 x32.moving) 1 rfl (Fz.le_refl _) (hb30.mono (Fz.le_trans l_39 (Fz.le_trans l_46 l_51))) e33 rfl Try.isAgg63 rfl (fun vs ⟨q0, q1, q2, q3, q4, q5, q6, q7, h, r0, r1, r2, r3⟩ => ⟨_, by subst h; exact rfl, q4, q5, rfl, r2⟩) (fun v hv => ?_)
      obtain ⟨p66, k67, rfl, h68⟩ := hv
      refine .move rfl rfl ?_
      refine .bind (fun i69 e70 => ?_)
      obtain ⟨b71, hb72, hp73⟩ := h68.at e70
      refine .bind (fun x74 e75 => ?_)
      refine .lookupR (key := x56) (z := (ApiParcel.mk 0 0 0 0 0)) 2 rfl (Fz.le_trans l_25 (Fz.le_trans l_39 (Fz.le_trans l_46 l_51))) hb72 hp73 e75 rfl Try.underlying63 (.int Try.underlying3) Try.zeroValue49 rfl rfl rfl ?_
      intro v hv
      obtain rfl := hv
      refine .callT [1] rfl Try.call37 rfl rfl rfl rfl (c_excise_office_late _ _19 r_15.2.2.2.1 r_15.1 p20 k21 (h22.mono (Fz.le_trans l_25 (Fz.le_trans l_39 (Fz.le_trans l_46 l_51)))) ((mapGet x74 x56).getD (ApiParcel.mk 0 0 0 0 0))) ?_
      rintro r_76 F_77 _ e79 l_78 rfl
      refine .pick [1, 0, 0, 0, 0] (rfl : _ = [ownSl 1 (Ex (cInt .i64)) F_50 3 p52 k53 s49.1, arena _19.g66 (C66 _19) F_77 r_15.2.2.2.1, arena _19.g63 (C63 _19) F_16 r_15.2.2.2.2.1, arena _19.g64 (C64 _19) F_16 r_15.2.2.2.2.2, R]) ?_
      refine .move rfl rfl ?_
      refine .move rfl rfl ?_
      refine .add rfl rfl rfl ?_
      refine .leq rfl rfl rfl ?_
      refine .nil ?_
      refine .code ?_
      refine .keep (.cons (k := 2) rfl (.cons (k := 3) rfl (.cons (k := 10) rfl (.cons (k := 13) rfl (.cons (k := 15) rfl (.cons (k := 37) rfl (.cons (k := 38) rfl (.cons (k := 39) rfl (.cons (k := 54) rfl (.nil _)))))))))) ?_
      refine GC.join0 (σ := (List Int)) (fun j90 a w => ∃ (F_91 : Fz) (p93 : Option Addr) (k94 : Nat), F_77 ≤ F_91 ∧ Hd 61 [] [(2, (.int .i64 day9)), (3, (.int .i64 days10)), (10, (.pointer p20)), (13, (.slice p93 j90.length k94)), (37, (.slice p43 ks41.length c44)), (38, (.int .i64 (ks41.length : Int))), (39, (.int .i64 s49.2))] F_91 [ownSl 1 (Ex (cInt .i64)) F_91 3 p93 k94 j90, arena _19.g66 (C66 _19) F_77 r_15.2.2.2.1, arena _19.g63 (C63 _19) F_16 r_15.2.2.2.2.1, arena _19.g64 (C64 _19) F_16 r_15.2.2.2.2.2, R] a w) (fun sj => ?_) (fun j90 hs0 => GE.ex (fun a w ⟨F_91, p93, k94, l_92, hA⟩ => ⟨_, hA, ?_⟩))
      ·skip
       refine .cond rfl (fun hb80 => ?_) (fun hb80 => ?_)
       ·skip
        refine .region ?_
        refine .move rfl rfl ?_
        refine .move rfl rfl ?_
        refine .sliceLit (cs := [.int .i64 x56]) (zc := [.int .i64 0]) rfl Try.underlying41 Try.sizeOf3 Try.zeroValue3 rfl rfl rfl (by kernel_rfl) (by kernel_rfl) (fun b81 F_82 l_83 hb84 => ?_)
        have h85 : RepSl 1 (Ex (cInt .i64)) F_82 (some ⟨b81, 0, none⟩) 1 ([x56]) := RepSl.ofRow hb84 (.cons ok_t3.mono rfl .nil) rfl rfl
        refine .append 0 ok_t3 (Fz.le_trans l_78 l_83) rfl Try.underlying41 Try.underlying41 rfl rfl rfl h85 rfl rfl (fun l_86 p87 k88 e89 => ?_)
        refine .assign rfl rfl ?_
        refine .nil ?_
        exact .nil fun e a w h => by cases e; exact ⟨rfl, ⟨F_82, p87, k88, l_83, h.1.sub (.cons (k := 2) rfl (.cons (k := 3) rfl (.cons (k := 10) rfl (.cons (k := 13) rfl (.cons (k := 37) rfl (.cons (k := 38) rfl (.cons (k := 39) rfl (.nil _)))))))), h.2⟩⟩
       ·skip
        refine .skip ?_
        refine .ownUp 0 l_78 rfl ?_
        exact .nil fun e a w h => by cases e; exact ⟨rfl, ⟨F_77, p52, k53, (Fz.le_refl _), h.1.sub (.cons (k := 2) rfl (.cons (k := 3) rfl (.cons (k := 10) rfl (.cons (k := 13) rfl (.cons (k := 37) rfl (.cons (k := 38) rfl (.cons (k := 39) rfl (.nil _)))))))), h.2⟩⟩
      refine .block ?_
      refine .upR 1 (stays66 _19) l_92 rfl ?_
      exact .nil fun e a w h => by cases e; exact ⟨rfl, ⟨F_91, p93, k94, (Fz.le_trans l_78 l_92), h.1.sub (.cons (k := 2) rfl (.cons (k := 3) rfl (.cons (k := 10) rfl (.cons (k := 13) rfl (.cons (k := 37) rfl (.cons (k := 38) rfl (.cons (k := 39) rfl (.nil _)))))))), h.2⟩⟩
     refine .code ?_
     refine .region ?_
     refine .add rfl rfl rfl ?_
     refine .move rfl rfl ?_
     refine .nil ?_
     exact .nil (LPost.norm fun a w h => ⟨F_97, p99, k100, (Fz.le_trans l_51 l_98), h.1.sub (.cons (k := 2) rfl (.cons (k := 3) rfl (.cons (k := 10) rfl (.cons (k := 13) rfl (.cons (k := 37) rfl (.cons (k := 38) rfl (.cons (k := 39) rfl (.nil _)))))))), h.2⟩)
    ·skip
     refine .exitOut rfl (LPost.exit fun a w h => ⟨rfl, F_50, p52, k53, l_51, h.1.sub (.cons (k := 13) rfl (.nil _)), h.2⟩)
   ·intro b102 hb0 hk e a w hD
    obtain ⟨rfl, F_103, p105, k106, l_104, hA⟩ := hD
    refine interp_exit rfl (GE.app ?_ hk a w hA)
    refine .code ?_
    refine .seq ?_
    refine .region ?_
    refine .move rfl rfl ?_
    refine .assign rfl rfl ?_
    refine .assign rfl rfl ?_
    refine .nil ?_
    refine .code ?_
    refine .freezeSl 0 rfl (Fz.le_refl _) (fun F_108 l_109 h110 => ?_)
    exact .ret0 Try.results20 (.tmp rfl (.tmp rfl (.nil))) (i := 3) rfl (Fz.le_trans l_13 (Fz.le_trans l_17 (Fz.le_trans l_25 (Fz.le_trans l_39 (Fz.le_trans l_46 (Fz.le_trans l_104 l_109)))))) ⟨p105, k106, rfl, h110⟩
noncomputable def b_wormtubref11_Ints_1 (a1 : (List Int)) (b5 : (List Int)) (s10 : Int) : Option (Ctl (Int) ((Unit) ⊕ (Bool))) :=
 if (decide (s10 < (a1.length : Int))) then ((idxL a1 s10).bind fun x14 => (idxL b5 s10).bind fun x24 => if (x14 != x24) then (some (.done (.inr false))) else (bindv (w64 (s10 + 1)) fun i35 => some (.next i35))) else (some (.done (.inl ())))
noncomputable def m_wormtubref11_Ints (a1 : (List Int)) (b5 : (List Int)) : Option Bool :=
 if ((a1.length : Int) != (b5.length : Int)) then (some false) else ((loopM (b_wormtubref11_Ints_1 a1 b5) 0).bind fun b0 => match b0 with | .inl _b37 => (some true) | .inr b37 => (some b37))
theorem c_wormtubref11_Ints (F0 : Fz) (a1 : (List Int)) (p2 : Option Addr) (k3 : Nat) (h4 : RepSl 1 (Ex (cInt .i64)) F0 p2 k3 a1) (b5 : (List Int)) (p6 : Option Addr) (k7 : Nat) (h8 : RepSl 1 (Ex (cInt .i64)) F0 p6 k7 b5) : CT0 Try.prog 22 [(.slice p2 a1.length k3), (.slice p6 b5.length k7)].toArray F0 (m_wormtubref11_Ints a1 b5) (fun r _ v => v = (.bool r)) := by
 refine CT0.enter Try.func22 rfl Try.ntmps22 rfl fun r R => ?_
 unfold m_wormtubref11_Ints
 refine .seq ?_
 refine .region ?_
 refine .assign rfl rfl ?_
 refine .nil ?_
 refine .code ?_
 refine .seq ?_
 refine .seq ?_
 refine .region ?_
 refine .move rfl rfl ?_
 refine .lenS rfl rfl Try.underlying41 rfl ?_
 refine .move rfl rfl ?_
 refine .lenS rfl rfl Try.underlying41 rfl ?_
 refine .neq rfl rfl rfl ?_
 refine .nil ?_
 refine .code ?_
 refine .cond rfl (fun hb9 => ?_) (fun hb9 => ?_)
 ·skip
  refine .seq ?_
  refine .region ?_
  refine .assign rfl rfl ?_
  refine .nil ?_
  refine .code ?_
  exact .ret0 Try.results22 (.tmp rfl (.nil)) (i := 0) rfl (Fz.le_refl _) rfl
 ·skip
  refine .skip ?_
  refine .code ?_
  refine .seq ?_
  refine .seq ?_
  refine .region ?_
  refine .assign rfl rfl ?_
  refine .nil ?_
  refine .code ?_
  refine .block ?_
  refine .keep (.cons (k := 0) rfl (.cons (k := 1) rfl (.cons (k := 5) rfl (.nil _)))) ?_
  refine .loop (fun (s10 : Int) a w => ∃ (F_11 : Fz), F0 ≤ F_11 ∧ Hd 26 [] [(0, (.slice p2 a1.length k3)), (1, (.slice p6 b5.length k7)), (5, (.int .i64 s10))] F_11 [R] a w) (fun b0 e a w => match b0 with | .inl b37 => e = .exit 0 ∧ ∃ (F_38 : Fz), F0 ≤ F_38 ∧ Hd 26 [] [] F_38 [R] a w | .inr b37 => e = .ret ∧ ∃ (F_40 : Fz), F0 ≤ F_40 ∧ Hd 26 [] [(4, (.bool b37))] F_40 [R] a w) ?_ ?_ ?_
  ·exact fun a w h => ⟨F0, (Fz.le_refl _), h.1.sub (.cons (k := 0) rfl (.cons (k := 1) rfl (.cons (k := 5) rfl (.nil _)))), h.2⟩
  ·intro s10 ctl
   refine GC.ex (fun a w ⟨F_11, l_12, hA⟩ => ⟨_, hA, ?_⟩)
   unfold b_wormtubref11_Ints_1
   refine .seq ?_
   refine .seq ?_
   refine .region ?_
   refine .move rfl rfl ?_
   refine .move rfl rfl ?_
   refine .lenS rfl rfl Try.underlying41 rfl ?_
   refine .lss rfl rfl rfl ?_
   refine .nil ?_
   refine .code ?_
   refine .cond rfl (fun hb13 => ?_) (fun hb13 => ?_)
   ·skip
    refine .skip ?_
    refine .code ?_
    refine .seq ?_
    refine .block ?_
    refine .seq ?_
    refine .keep (.cons (k := 0) rfl (.cons (k := 1) rfl (.cons (k := 5) rfl (.nil _)))) ?_
    refine .drawZ 9 mixedOK (by kernel_rfl) ?_
    refine .move rfl rfl ?_
    refine .move rfl rfl ?_
    refine .idx rfl Try.underlying41 Try.sizeOf3 (h4.mono l_12) rfl rfl (fun x14 b15 o16 T17 fr18 cs19 e20 hm21 hv22 => ?_)
    refine .loadF rfl Try.isAgg3 rfl hm21 (cell_of_take (k := 0) hv22 rfl) ?_
    refine .move rfl rfl ?_
    refine .move rfl rfl ?_
    refine .idx rfl Try.underlying41 Try.sizeOf3 (h8.mono l_12) rfl rfl (fun x24 b25 o26 T27 fr28 cs29 e30 hm31 hv32 => ?_)
    refine .loadF rfl Try.isAgg3 rfl hm31 (cell_of_take (k := 0) hv32 rfl) ?_
    refine .neq rfl rfl rfl ?_
    refine .pend ?_
    refine .nil ?_
    refine .code ?_
    refine .cond rfl (fun hb34 => ?_) (fun hb34 => ?_)
    ·skip
     refine .seq ?_
     refine .region ?_
     refine .assign rfl rfl ?_
     refine .nil ?_
     refine .code ?_
     refine .retQ (LPost.ret fun a w h => ⟨rfl, F_11, l_12, h.1.sub (.cons (k := 4) rfl (.nil _)), h.2⟩)
    ·skip
     refine .skip ?_
     refine .block ?_
     refine .code ?_
     refine .region ?_
     refine .move rfl rfl ?_
     refine .add rfl rfl rfl ?_
     refine .assignL rfl rfl (fun i35 e36 => ?_)
     refine .nil ?_
     exact .nil (LPost.norm fun a w h => ⟨F_11, l_12, h.1.sub (.cons (k := 0) rfl (.cons (k := 1) rfl (.cons (k := 5) rfl (.nil _)))), h.2⟩)
   ·skip
    refine .exitOut rfl (LPost.exit fun a w h => ⟨rfl, F_11, l_12, h.1.sub (.nil _), h.2⟩)
  ·intro b37 hb0 hk e a w hD
   rcases b37 with b37 | b37
   ·skip
    obtain ⟨rfl, F_38, l_39, hA⟩ := hD
    refine interp_exit rfl (GE.app ?_ hk a w hA)
    refine .code ?_
    refine .seq ?_
    refine .region ?_
    refine .assign rfl rfl ?_
    refine .nil ?_
    refine .code ?_
    exact .ret0 Try.results22 (.tmp rfl (.nil)) (i := 0) rfl l_39 rfl
   obtain ⟨rfl, F_40, l_41, hA⟩ := hD
   exact interp_ret ((ret_post0 Try.results22 (.tmp rfl (.nil)) (i := 0) rfl l_41 rfl) hk a w hA)
noncomputable def m_wormtublaw11_sample  : Option (ApiDutyRules × (List ApiDutyEvent)) :=
 some ((ApiDutyRules.mk ([(ApiDutyRate.mk 0 2000), (ApiDutyRate.mk 100 3000)]) 10 50 200), [(ApiDutyEvent.mk 0 0 1 0 0 100000), (ApiDutyEvent.mk 1 20 1 2 7 40000), (ApiDutyEvent.mk 2 25 2 0 7 39700), (ApiDutyEvent.mk 1 50 1 2 8 10000), (ApiDutyEvent.mk 5 90 1 0 0 49000), (ApiDutyEvent.mk 3 100 2 0 0 10000)])
theorem c_wormtublaw11_sample (F0 : Fz)  : CT0 Try.prog 24 [].toArray F0 (m_wormtublaw11_sample) (fun r F v => ∃ (p0 : Option Addr) (k0 : Nat) (p1 : Option Addr) (k1 : Nat), v = .tuple #[(eApiDutyRules r.1 p0 k0), (.slice p1 r.2.length k1)] ∧ RepSl 2 (Ex cApiDutyRate) F p0 k0 r.1.Rates ∧ RepSl 6 (Ex cApiDutyEvent) F p1 k1 r.2) := by
 refine CT0.enter Try.func24 rfl Try.ntmps24 rfl fun r R => ?_
 unfold m_wormtublaw11_sample
 refine .seq ?_
 refine .region ?_
 refine .alloc (cs := (cApiDutyRules (ApiDutyRules.mk ([]) 0 0 0) none 0)) rfl Try.zeroValue24 rfl (fun b1 => ?_)
 refine .assign rfl rfl ?_
 refine .nil ?_
 refine .code ?_
 refine .seq ?_
 refine .region ?_
 refine .build (cs := (cApiDutyEvent (ApiDutyEvent.mk 0 0 1 0 0 100000)).toArray) rfl Try.underlying47 Try.zeroValue47 (plApiDutyEvent _ Try.underlying47) rfl rfl (by kernel_rfl) ?_
 refine .build (cs := (cApiDutyEvent (ApiDutyEvent.mk 1 20 1 2 7 40000)).toArray) rfl Try.underlying47 Try.zeroValue47 (plApiDutyEvent _ Try.underlying47) rfl rfl (by kernel_rfl) ?_
 refine .build (cs := (cApiDutyEvent (ApiDutyEvent.mk 2 25 2 0 7 39700)).toArray) rfl Try.underlying47 Try.zeroValue47 (plApiDutyEvent _ Try.underlying47) rfl rfl (by kernel_rfl) ?_
 refine .build (cs := (cApiDutyEvent (ApiDutyEvent.mk 1 50 1 2 8 10000)).toArray) rfl Try.underlying47 Try.zeroValue47 (plApiDutyEvent _ Try.underlying47) rfl rfl (by kernel_rfl) ?_
 refine .build (cs := (cApiDutyEvent (ApiDutyEvent.mk 5 90 1 0 0 49000)).toArray) rfl Try.underlying47 Try.zeroValue47 (plApiDutyEvent _ Try.underlying47) rfl rfl (by kernel_rfl) ?_
 refine .build (cs := (cApiDutyEvent (ApiDutyEvent.mk 3 100 2 0 0 10000)).toArray) rfl Try.underlying47 Try.zeroValue47 (plApiDutyEvent _ Try.underlying47) rfl rfl (by kernel_rfl) ?_
 refine .sliceLit (cs := [.int .i64 (ApiDutyEvent.mk 0 0 1 0 0 100000).Kind, .int .i64 (ApiDutyEvent.mk 0 0 1 0 0 100000).Day, .int .i64 (ApiDutyEvent.mk 0 0 1 0 0 100000).Bond, .int .i64 (ApiDutyEvent.mk 0 0 1 0 0 100000).To, .int .i64 (ApiDutyEvent.mk 0 0 1 0 0 100000).Id, .int .i64 (ApiDutyEvent.mk 0 0 1 0 0 100000).Amount, .int .i64 (ApiDutyEvent.mk 1 20 1 2 7 40000).Kind, .int .i64 (ApiDutyEvent.mk 1 20 1 2 7 40000).Day, .int .i64 (ApiDutyEvent.mk 1 20 1 2 7 40000).Bond, .int .i64 (ApiDutyEvent.mk 1 20 1 2 7 40000).To, .int .i64 (ApiDutyEvent.mk 1 20 1 2 7 40000).Id, .int .i64 (ApiDutyEvent.mk 1 20 1 2 7 40000).Amount, .int .i64 (ApiDutyEvent.mk 2 25 2 0 7 39700).Kind, .int .i64 (ApiDutyEvent.mk 2 25 2 0 7 39700).Day, .int .i64 (ApiDutyEvent.mk 2 25 2 0 7 39700).Bond, .int .i64 (ApiDutyEvent.mk 2 25 2 0 7 39700).To, .int .i64 (ApiDutyEvent.mk 2 25 2 0 7 39700).Id, .int .i64 (ApiDutyEvent.mk 2 25 2 0 7 39700).Amount, .int .i64 (ApiDutyEvent.mk 1 50 1 2 8 10000).Kind, .int .i64 (ApiDutyEvent.mk 1 50 1 2 8 10000).Day, .int .i64 (ApiDutyEvent.mk 1 50 1 2 8 10000).Bond, .int .i64 (ApiDutyEvent.mk 1 50 1 2 8 10000).To, .int .i64 (ApiDutyEvent.mk 1 50 1 2 8 10000).Id, .int .i64 (ApiDutyEvent.mk 1 50 1 2 8 10000).Amount, .int .i64 (ApiDutyEvent.mk 5 90 1 0 0 49000).Kind, .int .i64 (ApiDutyEvent.mk 5 90 1 0 0 49000).Day, .int .i64 (ApiDutyEvent.mk 5 90 1 0 0 49000).Bond, .int .i64 (ApiDutyEvent.mk 5 90 1 0 0 49000).To, .int .i64 (ApiDutyEvent.mk 5 90 1 0 0 49000).Id, .int .i64 (ApiDutyEvent.mk 5 90 1 0 0 49000).Amount, .int .i64 (ApiDutyEvent.mk 3 100 2 0 0 10000).Kind, .int .i64 (ApiDutyEvent.mk 3 100 2 0 0 10000).Day, .int .i64 (ApiDutyEvent.mk 3 100 2 0 0 10000).Bond, .int .i64 (ApiDutyEvent.mk 3 100 2 0 0 10000).To, .int .i64 (ApiDutyEvent.mk 3 100 2 0 0 10000).Id, .int .i64 (ApiDutyEvent.mk 3 100 2 0 0 10000).Amount]) (zc := [.int .i64 (ApiDutyEvent.mk 0 0 0 0 0 0).Kind, .int .i64 (ApiDutyEvent.mk 0 0 0 0 0 0).Day, .int .i64 (ApiDutyEvent.mk 0 0 0 0 0 0).Bond, .int .i64 (ApiDutyEvent.mk 0 0 0 0 0 0).To, .int .i64 (ApiDutyEvent.mk 0 0 0 0 0 0).Id, .int .i64 (ApiDutyEvent.mk 0 0 0 0 0 0).Amount, .int .i64 (ApiDutyEvent.mk 0 0 0 0 0 0).Kind, .int .i64 (ApiDutyEvent.mk 0 0 0 0 0 0).Day, .int .i64 (ApiDutyEvent.mk 0 0 0 0 0 0).Bond, .int .i64 (ApiDutyEvent.mk 0 0 0 0 0 0).To, .int .i64 (ApiDutyEvent.mk 0 0 0 0 0 0).Id, .int .i64 (ApiDutyEvent.mk 0 0 0 0 0 0).Amount, .int .i64 (ApiDutyEvent.mk 0 0 0 0 0 0).Kind, .int .i64 (ApiDutyEvent.mk 0 0 0 0 0 0).Day, .int .i64 (ApiDutyEvent.mk 0 0 0 0 0 0).Bond, .int .i64 (ApiDutyEvent.mk 0 0 0 0 0 0).To, .int .i64 (ApiDutyEvent.mk 0 0 0 0 0 0).Id, .int .i64 (ApiDutyEvent.mk 0 0 0 0 0 0).Amount, .int .i64 (ApiDutyEvent.mk 0 0 0 0 0 0).Kind, .int .i64 (ApiDutyEvent.mk 0 0 0 0 0 0).Day, .int .i64 (ApiDutyEvent.mk 0 0 0 0 0 0).Bond, .int .i64 (ApiDutyEvent.mk 0 0 0 0 0 0).To, .int .i64 (ApiDutyEvent.mk 0 0 0 0 0 0).Id, .int .i64 (ApiDutyEvent.mk 0 0 0 0 0 0).Amount, .int .i64 (ApiDutyEvent.mk 0 0 0 0 0 0).Kind, .int .i64 (ApiDutyEvent.mk 0 0 0 0 0 0).Day, .int .i64 (ApiDutyEvent.mk 0 0 0 0 0 0).Bond, .int .i64 (ApiDutyEvent.mk 0 0 0 0 0 0).To, .int .i64 (ApiDutyEvent.mk 0 0 0 0 0 0).Id, .int .i64 (ApiDutyEvent.mk 0 0 0 0 0 0).Amount, .int .i64 (ApiDutyEvent.mk 0 0 0 0 0 0).Kind, .int .i64 (ApiDutyEvent.mk 0 0 0 0 0 0).Day, .int .i64 (ApiDutyEvent.mk 0 0 0 0 0 0).Bond, .int .i64 (ApiDutyEvent.mk 0 0 0 0 0 0).To, .int .i64 (ApiDutyEvent.mk 0 0 0 0 0 0).Id, .int .i64 (ApiDutyEvent.mk 0 0 0 0 0 0).Amount]) rfl Try.underlying25 Try.sizeOf47 Try.zeroValue47 rfl rfl rfl (by kernel_rfl) (by kernel_rfl) (fun b2 F_3 l_4 hb5 => ?_)
 have h6 : RepSl 6 (Ex cApiDutyEvent) F_3 (some ⟨b2, 0, none⟩) 6 ([(ApiDutyEvent.mk 0 0 1 0 0 100000), (ApiDutyEvent.mk 1 20 1 2 7 40000), (ApiDutyEvent.mk 2 25 2 0 7 39700), (ApiDutyEvent.mk 1 50 1 2 8 10000), (ApiDutyEvent.mk 5 90 1 0 0 49000), (ApiDutyEvent.mk 3 100 2 0 0 10000)]) := RepSl.ofRow hb5 (.cons ok_t47.mono rfl (.cons ok_t47.mono rfl (.cons ok_t47.mono rfl (.cons ok_t47.mono rfl (.cons ok_t47.mono rfl (.cons ok_t47.mono rfl .nil)))))) rfl rfl
 refine .assign rfl rfl ?_
 refine .nil ?_
 refine .code ?_
 refine .seq ?_
 refine .region ?_
 refine .build (cs := (cApiDutyRate (ApiDutyRate.mk 0 2000)).toArray) rfl Try.underlying53 Try.zeroValue53 (plApiDutyRate _ Try.underlying53) rfl rfl (by kernel_rfl) ?_
 refine .build (cs := (cApiDutyRate (ApiDutyRate.mk 100 3000)).toArray) rfl Try.underlying53 Try.zeroValue53 (plApiDutyRate _ Try.underlying53) rfl rfl (by kernel_rfl) ?_
 refine .sliceLit (cs := [.int .i64 (ApiDutyRate.mk 0 2000).From, .int .i64 (ApiDutyRate.mk 0 2000).Rate, .int .i64 (ApiDutyRate.mk 100 3000).From, .int .i64 (ApiDutyRate.mk 100 3000).Rate]) (zc := [.int .i64 (ApiDutyRate.mk 0 0).From, .int .i64 (ApiDutyRate.mk 0 0).Rate, .int .i64 (ApiDutyRate.mk 0 0).From, .int .i64 (ApiDutyRate.mk 0 0).Rate]) rfl Try.underlying22 Try.sizeOf53 Try.zeroValue53 rfl rfl rfl (by kernel_rfl) (by kernel_rfl) (fun b7 F_8 l_9 hb10 => ?_)
 have h11 : RepSl 2 (Ex cApiDutyRate) F_8 (some ⟨b7, 0, none⟩) 2 ([(ApiDutyRate.mk 0 2000), (ApiDutyRate.mk 100 3000)]) := RepSl.ofRow hb10 (.cons ok_t53.mono rfl (.cons ok_t53.mono rfl .nil)) rfl rfl
 refine .build (cs := (cApiDutyRules (ApiDutyRules.mk ([(ApiDutyRate.mk 0 2000), (ApiDutyRate.mk 100 3000)]) 10 50 200) (some ⟨b7, 0, none⟩) 2).toArray) rfl Try.underlying24 Try.zeroValue24 (plApiDutyRules _ Try.underlying24) rfl rfl (by kernel_rfl) ?_
 refine .move rfl rfl ?_
 refine .store (cs' := (cApiDutyRules (ApiDutyRules.mk ([(ApiDutyRate.mk 0 2000), (ApiDutyRate.mk 100 3000)]) 10 50 200) (some ⟨b7, 0, none⟩) 2)) Try.sizeOf24 rfl rfl rfl rfl (i := 0) rfl (Nat.le_of_ble_eq_true rfl) rfl (setMany_all (by rfl)) ?_
 refine .assign rfl rfl ?_
 refine .nil ?_
 refine .code ?_
 exact .ret0 Try.results24 (.agg rfl Try.isAgg24 Try.sizeOf24 (i := 0) rfl (vs' := (cApiDutyRules (ApiDutyRules.mk ([(ApiDutyRate.mk 0 2000), (ApiDutyRate.mk 100 3000)]) 10 50 200) (some ⟨b7, 0, none⟩) 2)) (by kernel_rfl) rfl (.tmp rfl (.nil))) (i := 1) rfl (Fz.le_trans l_4 l_9) ⟨(some ⟨b7, 0, none⟩), 2, (some ⟨b2, 0, none⟩), 6, rfl, h11, (h6.mono l_9)⟩
noncomputable def m_wormtublaw11_awake  : Option Bool :=
 (m_wormtublaw11_sample).bind fun r_3 => (m_excise_Duty r_3.1 1999 100).bind fun r_13 => (m_excise_Play r_3.1 r_3.2 90).bind fun r_16 => (m_excise_Return r_3.1 r_3.2 26 99).bind fun r_23 => (m_excise_Late r_3.1 r_3.2 55 6).bind fun r_26 => if ((((((((((r_13.1 != 5997) || (r_13.2 != 0)) || ((r_16.1.Bonds 1) != 49000)) || ((r_16.1.Bonds 2) != 39700)) || (r_16.1.Lost != 517)) || (r_16.1.Charged != 783)) || (r_16.1.Used != 10000)) || (r_16.1.Due != 21566)) || (r_16.2.1 != 5)) || (r_16.2.2 != 0)) then (some false) else ((if (((r_23.1 == 21366) && (r_23.2.1 == 0)) && (r_23.2.2 == 0)) then ((m_wormtubref11_Ints r_26.1 ([8])).bind fun r_83 => some r_83) else some false).bind fun z87 => some (z87 && (r_26.2 == 0)))
theorem c_wormtublaw11_awake (F0 : Fz)  : CT0 Try.prog 12 [].toArray F0 (m_wormtublaw11_awake) (fun r _ v => v = (.bool r)) := by
 refine CT0.enter Try.func12 rfl Try.ntmps12 rfl fun r R => ?_
 unfold m_wormtublaw11_awake
 refine .seq ?_
 refine .region ?_
 refine .assign rfl rfl ?_
 refine .nil ?_
 refine .code ?_
 refine .seq ?_
 refine .region ?_
 refine .call0 rfl Try.call24 rfl rfl rfl (c_wormtublaw11_sample _ ) ?_
 rintro r_3 F_1 _ - l_2 ⟨p4, k5, p7, k8, rfl, h6, h9⟩
 refine .move rfl rfl ?_
 refine .extract rfl rfl rfl ?_
 refine .extract rfl rfl rfl ?_
 refine .alloc (cs := (cApiDutyRules (ApiDutyRules.mk ([]) 0 0 0) none 0)) rfl Try.zeroValue24 rfl (fun b10 => ?_)
 refine .store (cs' := (cApiDutyRules r_3.1 p4 k5)) Try.sizeOf24 rfl rfl rfl rfl (i := 0) rfl (Nat.le_of_ble_eq_true rfl) rfl (setMany_all (by rfl)) ?_
 refine .assign rfl rfl ?_
 refine .nil ?_
 refine .code ?_
 refine .seq ?_
 refine .region ?_
 refine .loadOA rfl Try.isAgg24 Try.sizeOf24 rfl (i := 0) rfl (vs := (cApiDutyRules r_3.1 p4 k5)) (by kernel_rfl) rfl ?_
 refine .call0 rfl Try.call15 rfl rfl rfl (c_excise_Duty _ r_3.1 p4 k5 h6 1999 100) ?_
 rintro r_13 F_11 _ - l_12 rfl
 refine .move rfl rfl ?_
 refine .extract rfl rfl rfl ?_
 refine .extract rfl rfl rfl ?_
 refine .assign rfl rfl ?_
 refine .assign rfl rfl ?_
 refine .nil ?_
 refine .code ?_
 refine .seq ?_
 refine .region ?_
 refine .loadOA rfl Try.isAgg24 Try.sizeOf24 rfl (i := 0) rfl (vs := (cApiDutyRules r_3.1 p4 k5)) (by kernel_rfl) rfl ?_
 refine .move rfl rfl ?_
 refine .call0 rfl Try.call13 rfl rfl rfl (c_excise_Play _ r_3.1 p4 k5 (h6.mono l_12) r_3.2 p7 k8 (h9.mono l_12) 90) ?_
 rintro r_16 F_14 _ - l_15 ⟨p17, k18, rfl, h19⟩
 refine .move rfl rfl ?_
 refine .extract rfl rfl rfl ?_
 refine .extract rfl rfl rfl ?_
 refine .extract rfl rfl rfl ?_
 refine .alloc (cs := (cApiDutyBook (ApiDutyBook.mk (fun _ => 0) ([]) 0 0 0 0 0 0 0 0) none 0)) rfl Try.zeroValue31 rfl (fun b20 => ?_)
 refine .store (cs' := (cApiDutyBook r_16.1 p17 k18)) Try.sizeOf31 rfl rfl rfl rfl (i := 0) rfl (Nat.le_of_ble_eq_true rfl) rfl (setMany_all (by rfl)) ?_
 refine .assign rfl rfl ?_
 refine .assign rfl rfl ?_
 refine .nil ?_
 refine .code ?_
 refine .seq ?_
 refine .region ?_
 refine .loadOA rfl Try.isAgg24 Try.sizeOf24 rfl (i := 1) rfl (vs := (cApiDutyRules r_3.1 p4 k5)) (by kernel_rfl) rfl ?_
 refine .move rfl rfl ?_
 refine .call0 rfl Try.call18 rfl rfl rfl (c_excise_Return _ r_3.1 p4 k5 (h6.mono (Fz.le_trans l_12 l_15)) r_3.2 p7 k8 (h9.mono (Fz.le_trans l_12 l_15)) 26 99) ?_
 rintro r_23 F_21 _ - l_22 rfl
 refine .move rfl rfl ?_
 refine .extract rfl rfl rfl ?_
 refine .extract rfl rfl rfl ?_
 refine .extract rfl rfl rfl ?_
 refine .assign rfl rfl ?_
 refine .assign rfl rfl ?_
 refine .assign rfl rfl ?_
 refine .nil ?_
 refine .keep (.cons (k := 1) rfl (.cons (k := 2) rfl (.cons (k := 3) rfl (.cons (k := 4) rfl (.cons (k := 5) rfl (.cons (k := 6) rfl (.cons (k := 7) rfl (.cons (k := 8) rfl (.cons (k := 9) rfl (.cons (k := 10) rfl (.nil _))))))))))) ?_
 refine .code ?_
 refine .seq ?_
 refine .region ?_
 refine .loadOA rfl Try.isAgg24 Try.sizeOf24 rfl (i := 1) rfl (vs := (cApiDutyRules r_3.1 p4 k5)) (by kernel_rfl) rfl ?_
 refine .move rfl rfl ?_
 refine .call0 rfl Try.call20 rfl rfl rfl (c_excise_Late _ r_3.1 p4 k5 (h6.mono (Fz.le_trans l_12 (Fz.le_trans l_15 l_22))) r_3.2 p7 k8 (h9.mono (Fz.le_trans l_12 (Fz.le_trans l_15 l_22))) 55 6) ?_
 rintro r_26 F_24 _ - l_25 ⟨p27, k28, rfl, h29⟩
 refine .move rfl rfl ?_
 refine .extract rfl rfl rfl ?_
 refine .extract rfl rfl rfl ?_
 refine .assign rfl rfl ?_
 refine .assign rfl rfl ?_
 refine .nil ?_
 refine .code ?_
 refine .seq ?_
 refine .seq ?_
 refine .region ?_
 refine .move rfl rfl ?_
 refine .neq rfl rfl rfl ?_
 refine .move rfl rfl ?_
 refine .orP (b := (r_13.1 != 5997)) (b' := (r_13.2 != 0)) 3 47 (fun hb30 => ?_) (fun hb31 => ?_) (fun F_32 l_33 => ?_)
 ·skip
  refine .onH hb30 rfl rfl ?_
  refine .move rfl rfl ?_
  refine .onH hb30 rfl rfl ?_
  refine .neq rfl rfl rfl ?_
  refine .pickFH hb30 rfl rfl rfl ?_
  exact .fin 3 rfl rfl (by kernel_rfl) (Fz.le_refl _)
 ·skip
  refine .offH hb31 rfl rfl rfl ?_
  refine .offH hb31 rfl rfl rfl ?_
  refine .pickTH hb31 rfl rfl rfl ?_
  exact .fin 3 rfl rfl (by kernel_rfl) (Fz.le_refl _)
 refine .move rfl rfl ?_
 refine .orP (b := ((r_13.1 != 5997) || (r_13.2 != 0))) (b' := ((r_16.1.Bonds 1) != 49000)) 5 53 (fun hb34 => ?_) (fun hb35 => ?_) (fun F_36 l_37 => ?_)
 ·skip
  refine .onH hb34 rfl rfl ?_
  refine .fieldAddr rfl Try.underlying31 rfl Try.sizeOf28 rfl ?_
  refine .onH hb34 rfl rfl ?_
  refine .indexAddrA rfl Try.underlying28 Try.sizeOf3 rfl rfl (j := 1) rfl ?_
  refine .onH hb34 rfl rfl ?_
  refine .loadO rfl Try.isAgg3 rfl (i := 0) rfl rfl ?_
  refine .onH hb34 rfl rfl ?_
  refine .neq rfl rfl rfl ?_
  refine .pickFH hb34 rfl rfl rfl ?_
  exact .fin 5 rfl rfl (by kernel_rfl) (Fz.le_refl _)
 ·skip
  refine .offH hb35 rfl rfl rfl ?_
  refine .offH hb35 rfl rfl rfl ?_
  refine .offH hb35 rfl rfl rfl ?_
  refine .offH hb35 rfl rfl rfl ?_
  refine .pickTH hb35 rfl rfl rfl ?_
  exact .fin 5 rfl rfl (by kernel_rfl) (Fz.le_refl _)
 refine .move rfl rfl ?_
 refine .orP (b := (((r_13.1 != 5997) || (r_13.2 != 0)) || ((r_16.1.Bonds 1) != 49000))) (b' := ((r_16.1.Bonds 2) != 39700)) 5 59 (fun hb38 => ?_) (fun hb39 => ?_) (fun F_40 l_41 => ?_)
 ·skip
  refine .onH hb38 rfl rfl ?_
  refine .fieldAddr rfl Try.underlying31 rfl Try.sizeOf28 rfl ?_
  refine .onH hb38 rfl rfl ?_
  refine .indexAddrA rfl Try.underlying28 Try.sizeOf3 rfl rfl (j := 2) rfl ?_
  refine .onH hb38 rfl rfl ?_
  refine .loadO rfl Try.isAgg3 rfl (i := 0) rfl rfl ?_
  refine .onH hb38 rfl rfl ?_
  refine .neq rfl rfl rfl ?_
  refine .pickFH hb38 rfl rfl rfl ?_
  exact .fin 5 rfl rfl (by kernel_rfl) (Fz.le_refl _)
 ·skip
  refine .offH hb39 rfl rfl rfl ?_
  refine .offH hb39 rfl rfl rfl ?_
  refine .offH hb39 rfl rfl rfl ?_
  refine .offH hb39 rfl rfl rfl ?_
  refine .pickTH hb39 rfl rfl rfl ?_
  exact .fin 5 rfl rfl (by kernel_rfl) (Fz.le_refl _)
 refine .move rfl rfl ?_
 refine .orP (b := ((((r_13.1 != 5997) || (r_13.2 != 0)) || ((r_16.1.Bonds 1) != 49000)) || ((r_16.1.Bonds 2) != 39700))) (b' := (r_16.1.Lost != 517)) 4 64 (fun hb42 => ?_) (fun hb43 => ?_) (fun F_44 l_45 => ?_)
 ·skip
  refine .onH hb42 rfl rfl ?_
  refine .fieldAddr rfl Try.underlying31 rfl Try.sizeOf3 rfl ?_
  refine .onH hb42 rfl rfl ?_
  refine .loadO rfl Try.isAgg3 rfl (i := 0) rfl rfl ?_
  refine .onH hb42 rfl rfl ?_
  refine .neq rfl rfl rfl ?_
  refine .pickFH hb42 rfl rfl rfl ?_
  exact .fin 4 rfl rfl (by kernel_rfl) (Fz.le_refl _)
 ·skip
  refine .offH hb43 rfl rfl rfl ?_
  refine .offH hb43 rfl rfl rfl ?_
  refine .offH hb43 rfl rfl rfl ?_
  refine .pickTH hb43 rfl rfl rfl ?_
  exact .fin 4 rfl rfl (by kernel_rfl) (Fz.le_refl _)
 refine .move rfl rfl ?_
 refine .orP (b := (((((r_13.1 != 5997) || (r_13.2 != 0)) || ((r_16.1.Bonds 1) != 49000)) || ((r_16.1.Bonds 2) != 39700)) || (r_16.1.Lost != 517))) (b' := (r_16.1.Charged != 783)) 4 69 (fun hb46 => ?_) (fun hb47 => ?_) (fun F_48 l_49 => ?_)
 ·skip
  refine .onH hb46 rfl rfl ?_
  refine .fieldAddr rfl Try.underlying31 rfl Try.sizeOf3 rfl ?_
  refine .onH hb46 rfl rfl ?_
  refine .loadO rfl Try.isAgg3 rfl (i := 0) rfl rfl ?_
  refine .onH hb46 rfl rfl ?_
  refine .neq rfl rfl rfl ?_
  refine .pickFH hb46 rfl rfl rfl ?_
  exact .fin 4 rfl rfl (by kernel_rfl) (Fz.le_refl _)
 ·skip
  refine .offH hb47 rfl rfl rfl ?_
  refine .offH hb47 rfl rfl rfl ?_
  refine .offH hb47 rfl rfl rfl ?_
  refine .pickTH hb47 rfl rfl rfl ?_
  exact .fin 4 rfl rfl (by kernel_rfl) (Fz.le_refl _)
 refine .move rfl rfl ?_
 refine .orP (b := ((((((r_13.1 != 5997) || (r_13.2 != 0)) || ((r_16.1.Bonds 1) != 49000)) || ((r_16.1.Bonds 2) != 39700)) || (r_16.1.Lost != 517)) || (r_16.1.Charged != 783))) (b' := (r_16.1.Used != 10000)) 4 74 (fun hb50 => ?_) (fun hb51 => ?_) (fun F_52 l_53 => ?_)
 ·skip
  refine .onH hb50 rfl rfl ?_
  refine .fieldAddr rfl Try.underlying31 rfl Try.sizeOf3 rfl ?_
  refine .onH hb50 rfl rfl ?_
  refine .loadO rfl Try.isAgg3 rfl (i := 0) rfl rfl ?_
  refine .onH hb50 rfl rfl ?_
  refine .neq rfl rfl rfl ?_
  refine .pickFH hb50 rfl rfl rfl ?_
  exact .fin 4 rfl rfl (by kernel_rfl) (Fz.le_refl _)
 ·skip
  refine .offH hb51 rfl rfl rfl ?_
  refine .offH hb51 rfl rfl rfl ?_
  refine .offH hb51 rfl rfl rfl ?_
  refine .pickTH hb51 rfl rfl rfl ?_
  exact .fin 4 rfl rfl (by kernel_rfl) (Fz.le_refl _)
 refine .move rfl rfl ?_
 refine .orP (b := (((((((r_13.1 != 5997) || (r_13.2 != 0)) || ((r_16.1.Bonds 1) != 49000)) || ((r_16.1.Bonds 2) != 39700)) || (r_16.1.Lost != 517)) || (r_16.1.Charged != 783)) || (r_16.1.Used != 10000))) (b' := (r_16.1.Due != 21566)) 4 79 (fun hb54 => ?_) (fun hb55 => ?_) (fun F_56 l_57 => ?_)
 ·skip
  refine .onH hb54 rfl rfl ?_
  refine .fieldAddr rfl Try.underlying31 rfl Try.sizeOf3 rfl ?_
  refine .onH hb54 rfl rfl ?_
  refine .loadO rfl Try.isAgg3 rfl (i := 0) rfl rfl ?_
  refine .onH hb54 rfl rfl ?_
  refine .neq rfl rfl rfl ?_
  refine .pickFH hb54 rfl rfl rfl ?_
  exact .fin 4 rfl rfl (by kernel_rfl) (Fz.le_refl _)
 ·skip
  refine .offH hb55 rfl rfl rfl ?_
  refine .offH hb55 rfl rfl rfl ?_
  refine .offH hb55 rfl rfl rfl ?_
  refine .pickTH hb55 rfl rfl rfl ?_
  exact .fin 4 rfl rfl (by kernel_rfl) (Fz.le_refl _)
 refine .move rfl rfl ?_
 refine .orP (b := ((((((((r_13.1 != 5997) || (r_13.2 != 0)) || ((r_16.1.Bonds 1) != 49000)) || ((r_16.1.Bonds 2) != 39700)) || (r_16.1.Lost != 517)) || (r_16.1.Charged != 783)) || (r_16.1.Used != 10000)) || (r_16.1.Due != 21566))) (b' := (r_16.2.1 != 5)) 3 83 (fun hb58 => ?_) (fun hb59 => ?_) (fun F_60 l_61 => ?_)
 ·skip
  refine .onH hb58 rfl rfl ?_
  refine .move rfl rfl ?_
  refine .onH hb58 rfl rfl ?_
  refine .neq rfl rfl rfl ?_
  refine .pickFH hb58 rfl rfl rfl ?_
  exact .fin 3 rfl rfl (by kernel_rfl) (Fz.le_refl _)
 ·skip
  refine .offH hb59 rfl rfl rfl ?_
  refine .offH hb59 rfl rfl rfl ?_
  refine .pickTH hb59 rfl rfl rfl ?_
  exact .fin 3 rfl rfl (by kernel_rfl) (Fz.le_refl _)
 refine .move rfl rfl ?_
 refine .orP (b := (((((((((r_13.1 != 5997) || (r_13.2 != 0)) || ((r_16.1.Bonds 1) != 49000)) || ((r_16.1.Bonds 2) != 39700)) || (r_16.1.Lost != 517)) || (r_16.1.Charged != 783)) || (r_16.1.Used != 10000)) || (r_16.1.Due != 21566)) || (r_16.2.1 != 5))) (b' := (r_16.2.2 != 0)) 3 87 (fun hb62 => ?_) (fun hb63 => ?_) (fun F_64 l_65 => ?_)
 ·skip
  refine .onH hb62 rfl rfl ?_
  refine .move rfl rfl ?_
  refine .onH hb62 rfl rfl ?_
  refine .neq rfl rfl rfl ?_
  refine .pickFH hb62 rfl rfl rfl ?_
  exact .fin 3 rfl rfl (by kernel_rfl) (Fz.le_refl _)
 ·skip
  refine .offH hb63 rfl rfl rfl ?_
  refine .offH hb63 rfl rfl rfl ?_
  refine .pickTH hb63 rfl rfl rfl ?_
  exact .fin 3 rfl rfl (by kernel_rfl) (Fz.le_refl _)
 refine .nil ?_
 refine .keep (.cons (k := 8) rfl (.cons (k := 9) rfl (.cons (k := 10) rfl (.cons (k := 11) rfl (.cons (k := 12) rfl (.cons (k := 87) rfl (.nil _))))))) ?_
 refine .code ?_
 refine .cond rfl (fun hb66 => ?_) (fun hb66 => ?_)
 ·skip
  refine .seq ?_
  refine .region ?_
  refine .assign rfl rfl ?_
  refine .nil ?_
  refine .code ?_
  exact .ret0 Try.results12 (.tmp rfl (.nil)) (i := 2) rfl (Fz.le_trans l_2 (Fz.le_trans l_12 (Fz.le_trans l_15 (Fz.le_trans l_22 (Fz.le_trans l_25 (Fz.le_trans l_33 (Fz.le_trans l_37 (Fz.le_trans l_41 (Fz.le_trans l_45 (Fz.le_trans l_49 (Fz.le_trans l_53 (Fz.le_trans l_57 (Fz.le_trans l_61 l_65))))))))))))) rfl
 ·skip
  refine .skip ?_
  refine .code ?_
  refine .seq ?_
  refine .region ?_
  refine .move rfl rfl ?_
  refine .eql rfl rfl rfl ?_
  refine .move rfl rfl ?_
  refine .andP (b := (r_23.1 == 21366)) (b' := (r_23.2.1 == 0)) 3 93 (fun hb67 => ?_) (fun hb68 => ?_) (fun F_69 l_70 => ?_)
  ·skip
   refine .onH hb67 rfl rfl ?_
   refine .move rfl rfl ?_
   refine .onH hb67 rfl rfl ?_
   refine .eql rfl rfl rfl ?_
   refine .pickTH hb67 rfl rfl rfl ?_
   exact .fin 3 rfl rfl (by kernel_rfl) (Fz.le_refl _)
  ·skip
   refine .offH hb68 rfl rfl rfl ?_
   refine .offH hb68 rfl rfl rfl ?_
   refine .pickFH hb68 rfl rfl rfl ?_
   exact .fin 3 rfl rfl (by kernel_rfl) (Fz.le_refl _)
  refine .move rfl rfl ?_
  refine .andP (b := ((r_23.1 == 21366) && (r_23.2.1 == 0))) (b' := (r_23.2.2 == 0)) 3 97 (fun hb71 => ?_) (fun hb72 => ?_) (fun F_73 l_74 => ?_)
  ·skip
   refine .onH hb71 rfl rfl ?_
   refine .move rfl rfl ?_
   refine .onH hb71 rfl rfl ?_
   refine .eql rfl rfl rfl ?_
   refine .pickTH hb71 rfl rfl rfl ?_
   exact .fin 3 rfl rfl (by kernel_rfl) (Fz.le_refl _)
  ·skip
   refine .offH hb72 rfl rfl rfl ?_
   refine .offH hb72 rfl rfl rfl ?_
   refine .pickFH hb72 rfl rfl rfl ?_
   exact .fin 3 rfl rfl (by kernel_rfl) (Fz.le_refl _)
  refine .move rfl rfl ?_
  refine .andM (b := (((r_23.1 == 21366) && (r_23.2.1 == 0)) && (r_23.2.2 == 0))) 4 102 (fun hb75 z88 => ?_) (fun hb84 => ?_) (fun z87 F_85 l_86 => ?_)
  ·skip
   refine .onH hb75 rfl rfl ?_
   refine .move rfl rfl ?_
   refine .onH hb75 rfl rfl ?_
   refine .sliceLit (cs := [.int .i64 8]) (zc := [.int .i64 0]) rfl Try.underlying41 Try.sizeOf3 Try.zeroValue3 rfl rfl rfl (by kernel_rfl) (by kernel_rfl) (fun b76 F_77 l_78 hb79 => ?_)
   have h80 : RepSl 1 (Ex (cInt .i64)) F_77 (some ⟨b76, 0, none⟩) 1 ([8]) := RepSl.ofRow hb79 (.cons ok_t3.mono rfl .nil) rfl rfl
   refine .onH hb75 rfl rfl ?_
   refine .call0 rfl Try.call22 rfl rfl rfl (c_wormtubref11_Ints _ r_26.1 p27 k28 (h29.mono (Fz.le_trans l_33 (Fz.le_trans l_37 (Fz.le_trans l_41 (Fz.le_trans l_45 (Fz.le_trans l_49 (Fz.le_trans l_53 (Fz.le_trans l_57 (Fz.le_trans l_61 (Fz.le_trans l_65 (Fz.le_trans l_70 (Fz.le_trans l_74 l_78)))))))))))) ([8]) (some ⟨b76, 0, none⟩) 1 h80) ?_
   rintro r_83 F_81 _ - l_82 rfl
   refine .pickTH hb75 rfl rfl rfl ?_
   exact .finZ 4 rfl rfl (by kernel_rfl) (Fz.le_trans l_78 l_82)
  ·skip
   refine .offH hb84 rfl rfl rfl ?_
   refine .offH hb84 rfl rfl rfl ?_
   refine .offH hb84 rfl rfl rfl ?_
   refine .pickFH hb84 rfl rfl rfl ?_
   exact .fin 4 rfl rfl (by kernel_rfl) (Fz.le_refl _)
  refine .move rfl rfl ?_
  refine .andP (b := z87) (b' := (r_26.2 == 0)) 3 106 (fun hb89 => ?_) (fun hb90 => ?_) (fun F_91 l_92 => ?_)
  ·skip
   refine .onH hb89 rfl rfl ?_
   refine .move rfl rfl ?_
   refine .onH hb89 rfl rfl ?_
   refine .eql rfl rfl rfl ?_
   refine .pickTH hb89 rfl rfl rfl ?_
   exact .fin 3 rfl rfl (by kernel_rfl) (Fz.le_refl _)
  ·skip
   refine .offH hb90 rfl rfl rfl ?_
   refine .offH hb90 rfl rfl rfl ?_
   refine .pickFH hb90 rfl rfl rfl ?_
   exact .fin 3 rfl rfl (by kernel_rfl) (Fz.le_refl _)
  refine .assign rfl rfl ?_
  refine .nil ?_
  refine .code ?_
  exact .ret0 Try.results12 (.tmp rfl (.nil)) (i := 2) rfl (Fz.le_trans l_2 (Fz.le_trans l_12 (Fz.le_trans l_15 (Fz.le_trans l_22 (Fz.le_trans l_25 (Fz.le_trans l_33 (Fz.le_trans l_37 (Fz.le_trans l_41 (Fz.le_trans l_45 (Fz.le_trans l_49 (Fz.le_trans l_53 (Fz.le_trans l_57 (Fz.le_trans l_61 (Fz.le_trans l_65 (Fz.le_trans l_70 (Fz.le_trans l_74 (Fz.le_trans l_86 l_92))))))))))))))))) rfl
end Go.Proofs.Ytadpjmaaokkhjaa
end

section
namespace Go.Proofs.Ytadpjmaaokkhjaa
open Go.Dec
variable {r : Rul} {n : Nat} {t d day : Int} {s : Acc} {x : Ev} {p : ApiParcel} {A1 : List ExciseOffice} {A2 : PM} {A3 : KM}
abbrev Deed := (List ExciseOffice × PM × KM × Ev) → Option OutP
theorem deeds_some : ∃ D : Nat → Deed, m_excise_office_deeds (some 0) = some D ∧ ∀ (x : Ev), evB x = true → ∃ j, idxO 7 x.Kind = some j ∧
    ∀ {r : Rul} {n : Nat} {t : Int} {s : Acc} {A1 : List ExciseOffice} {A2 : PM} {A3 : KM}, RulOk r → SOk r n t s → n ≤ 1000 → 0 ≤ t → t ≤ 65536 → PR r t s A1 A2 A3 → x.Day = t → Does r t (doS r s x) (D j (A1, A2, A3, x)) := by
  refine ⟨_, rfl, fun x he => ?_⟩
  have ix : ∀ {k : Nat}, k < 7 → x.Kind = (k : Int) → idxO 7 x.Kind = some k := fun hk e => by rw [e]; exact idxO_nat hk
  rcases ev_kinds he with k | k | k | k | k | k | k
  · refine ⟨0, ix (by omega) k, fun hr h hn h0 ht hp hday => ?_⟩
    have := distil_prog h hn hp he k
    unfold doS; rw [k]; exact this
  · refine ⟨1, ix (by omega) k, fun hr h hn h0 ht hp hday => ?_⟩
    have := send_prog h hp he k
    unfold doS; rw [k]; exact this
  · refine ⟨2, ix (by omega) k, fun hr h hn h0 ht hp hday => ?_⟩
    have := receive_prog hr h hn h0 hp he k hday
    unfold doS; rw [k]; exact this
  · refine ⟨3, ix (by omega) k, fun hr h hn h0 ht hp hday => ?_⟩
    have := release_prog hr h hn hp he k
    unfold doS; rw [k]; exact this
  · refine ⟨4, ix (by omega) k, fun hr h hn h0 ht hp hday => ?_⟩
    have := export_prog h hn hp he k
    unfold doS; rw [k]; exact this
  · refine ⟨5, ix (by omega) k, fun hr h hn h0 ht hp hday => ?_⟩
    have := take_prog hr h hn h0 ht hp he k hday
    unfold doS; rw [k]; exact this
  · refine ⟨6, ix (by omega) k, fun hr h hn h0 ht hp hday => ?_⟩
    have := pay_prog h hn hp he k
    unfold doS; rw [k]; exact this
def GoOK (r : Rul) (out : (Cur ⊕ Int) × Nat) (q : Option ((Int × List ExciseOffice × PM × KM) ⊕ (ExciseMisfit × Int × Int × Option Nat))) : Prop := match out with
  | (.inl c, k) => ∃ A1 A2 A3, q = some (.inl ((k : Int), A1, A2, A3)) ∧ PR r c.day c.acc A1 A2 A3
  | (.inr e, k) => q = some (.inr (⟨e⟩, (k : Int), 0, some 0))
theorem play_loopP (hr : RulOk r) {l : List Ev} (hd : day ≤ 65536) (hl : l.length ≤ 1000) {D : Nat → Deed} (hD : ∀ (x : Ev), evB x = true → ∃ j, idxO 7 x.Kind = some j ∧
    ∀ {r : Rul} {n : Nat} {t : Int} {s : Acc} {A1 : List ExciseOffice} {A2 : PM} {A3 : KM}, RulOk r → SOk r n t s → n ≤ 1000 → 0 ≤ t → t ≤ 65536 → PR r t s A1 A2 A3 → x.Day = t → Does r t (doS r s x) (D j (A1, A2, A3, x)))
    {r33 : Option Nat × List ExciseOffice × PM × KM} (h33 : r33.1 = some 0) : ∀ (post : List Ev) (n : Nat) (c : Cur) (A1 : List ExciseOffice) (A2 : PM) (A3 : KM), l.drop n = post → n ≤ l.length → SOk r n c.day c.acc → 0 ≤ c.day → c.day ≤ day → PR r c.day c.acc A1 A2 A3 →
    GoOK r (goS r day post n c) (loopM (b_excise_play_1 l day r33 D) ((n : Int), A1, A2, A3))
  | [], n, c, A1, A2, A3, hp, hn, h, h0, h1, hP => by
    have e : n = l.length := by have := List.drop_eq_nil_iff.1 hp; omega
    have : b_excise_play_1 l day r33 D ((n : Int), A1, A2, A3) = some (.done (.inl ((n : Int), A1, A2, A3))) := by
      unfold b_excise_play_1
      rw [if_neg (by simp [e])]; rfl
    rw [loopM_eq, this]
    exact ⟨A1, A2, A3, rfl, hP⟩
  | x :: post, n, c, A1, A2, A3, hp, hn, h, h0, h1, hP => by
    have hlt : n < l.length := by
      rcases Nat.lt_or_ge n l.length with h | h
      · exact h
      · rw [List.drop_eq_nil_of_le h] at hp; cases hp
    have hx : l[n]? = some x := by rw [← List.head?_drop, hp]; rfl
    have hp' : l.drop (n + 1) = post := by rw [← List.tail_drop, hp]; rfl
    have o1 : (A1[0]?) = some (offS r c.day c.acc) := by rw [hP.o]; rfl
    have od : (offS r c.day c.acc).day = c.day := rfl
    rw [goS]
    by_cases hle : x.Day ≤ day
    · rw [if_pos hle]
      by_cases he : evB x = true
      · by_cases hlt2 : x.Day < c.day
        · have : b_excise_play_1 l day r33 D ((n : Int), A1, A2, A3) = some (.done (.inr (⟨7⟩, (n : Int), 0, some 0))) := by
            unfold b_excise_play_1
            rw [if_pos (by simp; omega)]
            simp only [idxL_nat, hx, Option.bind_some, hle, decide_true, if_true, isEvent_prog, he]
            rw [bindX_ok (need_t 1), h33]
            have e1 : decide (x.Day ≥ c.day) = false := by simp; omega
            simp only [Option.bind_some, o1, od, e1]
            rw [bindX_pan (need_f 7)]
          have hs : stepS r c x = .inr 7 := by unfold stepS; simp only [he, Bool.not_true, Bool.false_eq_true, if_false, hlt2, if_true]
          rw [loopM_eq, this, hs]; rfl
        · obtain ⟨B1, B2, B3, hpass, hPR⟩ := pass_prog hr h (by omega) h0 (show c.day ≤ x.Day by omega) (by omega) hP
          obtain ⟨j, hj, hdo⟩ := hD x he
          have hpk := pass_ok hr h (show c.day ≤ x.Day by omega)
          have hdo := hdo hr hpk (by omega) (by omega) (by omega) hPR rfl
          have hb : b_excise_play_1 l day r33 D ((n : Int), A1, A2, A3) = bindX (D j (B1, B2, B3, x)) (fun q136 => some (.done (.inr (q136, (n : Int), 0, some 0)))) fun r_130 => some (.next (((n + 1 : Nat) : Int), r_130.1, r_130.2.1, r_130.2.2)) := by
            unfold b_excise_play_1
            rw [if_pos (by simp; omega)]
            simp only [idxL_nat, hx, Option.bind_some, hle, decide_true, if_true, isEvent_prog, he]
            rw [bindX_ok (need_t 1), h33]
            have e1 : decide (x.Day ≥ c.day) = true := by simp; omega
            simp only [Option.bind_some, o1, od, e1]
            rw [bindX_ok (need_t 7), hpass]
            simp only [Option.bind_some, hj, bindv, w64_next (by omega : n ≤ 4294967296)]
          have hs : stepS r c x = match doS r (passS r c.day x.Day c.acc) x with | .inl a => .inl ⟨a, x.Day⟩ | .inr e => .inr e := by unfold stepS; simp only [he, Bool.not_true, Bool.false_eq_true, if_false, hlt2]; rfl
          unfold Does at hdo
          cases hq : doS r (passS r c.day x.Day c.acc) x with
          | inl a =>
            rw [hq] at hdo
            obtain ⟨C1, C2, C3, hC, hPC⟩ := hdo
            rw [bindX_ok hC] at hb
            rw [hq] at hs
            have hs : stepS r c x = .inl ⟨a, x.Day⟩ := hs
            obtain ⟨g1, g2, g3, _⟩ := step_ok hr h h0 hs
            rw [loopM_eq, hb, hs]
            exact play_loopP hr hd hl hD h33 post (n + 1) ⟨a, x.Day⟩ C1 C2 C3 hp' hlt g1 (by omega) hle hPC
          | inr e =>
            rw [hq] at hdo
            rw [bindX_pan hdo] at hb
            rw [hq] at hs
            have hs : stepS r c x = .inr e := hs
            rw [loopM_eq, hb, hs]; rfl
      · simp only [Bool.not_eq_true] at he
        have : b_excise_play_1 l day r33 D ((n : Int), A1, A2, A3) = some (.done (.inr (⟨1⟩, (n : Int), 0, some 0))) := by
          unfold b_excise_play_1
          rw [if_pos (by simp; omega)]
          simp only [idxL_nat, hx, Option.bind_some, hle, decide_true, if_true, isEvent_prog, he]
          rw [bindX_pan (need_f 1), h33]
        have hs : stepS r c x = .inr 1 := by unfold stepS; simp only [he, Bool.not_false, if_true]
        rw [loopM_eq, this, hs]; rfl
    · have : b_excise_play_1 l day r33 D ((n : Int), A1, A2, A3) = some (.done (.inl ((n : Int), A1, A2, A3))) := by
        unfold b_excise_play_1
        rw [if_pos (by simp; omega)]
        simp only [idxL_nat, hx, Option.bind_some, hle, decide_false, Bool.false_eq_true, if_false]
      rw [loopM_eq, this, if_neg hle]
      exact ⟨A1, A2, A3, rfl, hP⟩
def PlayOK (r : Rul) (day : Int) (out : (Acc ⊕ Int) × Nat) (q : Option (Option Nat × Int × Int × List ExciseOffice × PM × KM)) : Prop := match out with
  | (.inl a, k) => ∃ A1 A2 A3, q = some (some 0, (k : Int), 0, A1, A2, A3) ∧ PR r day a A1 A2 A3
  | (.inr e, k) => q = some (none, (k : Int), e, [], [], [])
theorem pr0 (r : Rul) : PR r 0 acc0 [offS r 0 acc0] [[]] [[]] := ⟨rfl, ⟨[], rfl, by simp [acc0]⟩, ⟨[], [], rfl, by simp, fun i => by simp [mapGet, acc0]⟩⟩
theorem play_prog {l : List Ev} (hlr : r.Rates.length ≤ 1000000) (hl : l.length ≤ 1000 ∨ 4096 < l.length) : PlayOK r day (playS r l day) (m_excise_play r l day) := by
  unfold m_excise_play playS
  rw [areRules_prog hlr, Option.bind_some]
  by_cases h1 : rulesB r = true
  · simp only [h1, Bool.not_true, Bool.false_eq_true, if_false]
    by_cases h2 : l.length > 4096
    · have e2 : decide ((l.length : Int) > 4096) = true := by simp; omega
      rw [if_pos h2, if_pos e2]; rfl
    · have e2 : ¬ decide ((l.length : Int) > 4096) = true := by simp; omega
      rw [if_neg h2, if_neg e2]
      by_cases h3 : inB day 0 65536 = true
      · simp only [ex_day, h3, Bool.not_true, Bool.false_eq_true, if_false]
        have hr := rules_iff.1 h1
        have hd := inB_iff.1 h3
        obtain ⟨D, hD, hDD⟩ := deeds_some
        have hno : m_excise_newOffice [] [] [] r = some (some 0, [offS r 0 acc0], [[]], [[]]) := rfl
        have hloop := play_loopP hr hd.2 (by omega : l.length ≤ 1000) hDD (r33 := (some 0, [offS r 0 acc0], [[]], [[]])) rfl l 0 cur0 _ _ _ (List.drop_zero ..) (Nat.zero_le _) (acc0_ok r) (by simp [cur0]) (by simp [cur0]; omega) (pr0 r)
        rw [hno, Option.bind_some, hD, Option.bind_some]
        unfold GoOK at hloop
        unfold runS
        cases hg : goS r day l 0 cur0 with
        | mk q k =>
          rw [hg] at hloop
          cases q with
          | inr e =>
            have hloop : loopM (b_excise_play_1 l day (some 0, [offS r 0 acc0], [[]], [[]]) D) (0, [offS r 0 acc0], [[]], [[]]) = _ := hloop
            rw [hloop]; rfl
          | inl c =>
            obtain ⟨A1, A2, A3, hq, hP⟩ := hloop
            have hq : loopM (b_excise_play_1 l day (some 0, [offS r 0 acc0], [[]], [[]]) D) (0, [offS r 0 acc0], [[]], [[]]) = _ := hq
            obtain ⟨a1, a2, a3, a4, a5⟩ := go_ok hr (acc0_ok r) (by simp [cur0]) (by simp [cur0]; omega) hg
            obtain ⟨B1, B2, B3, hpass, hPR⟩ := pass_prog hr a1 (by omega) a2 a3 hd.2 hP
            rw [hq, Option.bind_some]
            exact ⟨B1, B2, B3, bind_of hpass rfl, hPR⟩
      · simp only [Bool.not_eq_true] at h3
        simp only [ex_day, h3, Bool.not_false, if_true]; rfl
  · simp only [Bool.not_eq_true] at h1
    simp only [h1, Bool.not_false, if_true]; rfl
theorem playS_ok {l : List Ev} {a : Acc} {k : Nat} (h : playS r l day = (.inl a, k)) : RulOk r ∧ SOk r k day a ∧ (0 ≤ day ∧ day ≤ 65536) ∧ k ≤ l.length := by
  unfold playS at h
  split at h
  · simp at h
  · rename_i h1
    split at h
    · simp at h
    · split at h
      · simp at h
      · rename_i h3
        have hr := rules_iff.1 (by simpa using h1 : rulesB r = true)
        have hd := inB_iff.1 (by simpa using h3 : inB day 0 65536 = true)
        unfold runS at h
        split at h
        · rename_i c k' hg
          simp only [Prod.mk.injEq, Sum.inl.injEq] at h
          obtain ⟨rfl, rfl⟩ := h
          obtain ⟨a1, a2, a3, a4, a5⟩ := go_ok hr (acc0_ok r) (by simp [cur0]) (by simp [cur0]; omega) hg
          exact ⟨hr, pass_ok hr a1 a3, hd, by omega⟩
        · simp at h
theorem go_err {l : List Ev} : ∀ {n : Nat} {c : Cur} {e : Int} {k : Nat}, goS r day l n c = (.inr e, k) → (e = 1 ∨ e = 7 ∨ e = 4 ∨ e = 5 ∨ e = 10 ∨ e = 11 ∨ e = 12) ∧ n ≤ k ∧ k < n + l.length := by
  induction l with
  | nil => intro n c e k h; simp [goS] at h
  | cons x l ih =>
    intro n c e k h
    rw [goS] at h
    split at h
    · split at h
      · have := ih h
        simp only [List.length_cons]; exact ⟨this.1, by omega, by omega⟩
      · rename_i e' hs
        simp only [Prod.mk.injEq, Sum.inr.injEq] at h
        obtain ⟨rfl, rfl⟩ := h
        simp only [List.length_cons]; exact ⟨step_err hs, by omega, by omega⟩
    · simp at h
theorem playS_err {l : List Ev} {e : Int} {k : Nat} (h : playS r l day = (.inr e, k)) : e ≠ 0 := by
  unfold playS at h
  split at h
  · simp at h; omega
  · split at h
    · simp at h; omega
    · split at h
      · simp at h; omega
      · unfold runS at h
        split at h
        · simp at h
        · rename_i e' k' hg
          simp only [Prod.mk.injEq, Sum.inr.injEq] at h
          obtain ⟨rfl, rfl⟩ := h
          have := go_err hg; omega
end Go.Proofs.Ytadpjmaaokkhjaa
end

section
namespace Go.Proofs.Ytadpjmaaokkhjaa
open Go.Dec
variable {r : Rul} {n : Nat} {t d day : Int} {s a : Acc} {x : Ev} {p : ApiParcel} {l : List Ev}
theorem sorted_ext : ∀ {a b : List Int}, a.Pairwise (· < ·) → b.Pairwise (· < ·) → (∀ x, x ∈ a ↔ x ∈ b) → a = b
  | [], [], _, _, _ => rfl
  | [], y :: b, _, _, h => by have := (h y).2 (by simp); simp at this
  | x :: a, [], _, _, h => by have := (h x).1 (by simp); simp at this
  | x :: a, y :: b, ha, hb, h => by
    have ha' := List.pairwise_cons.1 ha
    have hb' := List.pairwise_cons.1 hb
    have exy : x = y := by
      have h1 := (h x).1 (by simp)
      have h2 := (h y).2 (by simp)
      rcases List.mem_cons.1 h1 with e | h1
      · exact e
      · rcases List.mem_cons.1 h2 with e | h2
        · exact e.symm
        · have := hb'.1 x h1; have := ha'.1 y h2; omega
    subst exy
    congr 1
    refine sorted_ext ha'.2 hb'.2 fun z => ?_
    constructor
    · intro hz
      have := (h z).1 (List.mem_cons_of_mem _ hz)
      rcases List.mem_cons.1 this with rfl | this
      · have := ha'.1 z hz; omega
      · exact this
    · intro hz
      have := (h z).2 (List.mem_cons_of_mem _ hz)
      rcases List.mem_cons.1 this with rfl | this
      · have := hb'.1 z hz; omega
      · exact this
theorem ids_pair {l : List ApiParcel} (h : l.Pairwise (fun p q => p.Id < q.Id)) : (l.map ApiParcel.Id).Pairwise (· < ·) := List.pairwise_map.2 h
theorem keys_ids {m : List (Int × ApiParcel)} {l : List ApiParcel} (hs : l.Pairwise (fun p q => p.Id < q.Id)) (hm : m.Perm (l.map keyP)) (hr : ∀ p ∈ l, 0 ≤ p.Id ∧ p.Id ≤ 1073741824) (hl : l.length ≤ 1000000) : keysS m = some (l.map ApiParcel.Id) := by
  have hmp : (m.map Prod.fst).Perm (l.map ApiParcel.Id) := by
    have := hm.map Prod.fst
    have e : (l.map keyP).map Prod.fst = l.map ApiParcel.Id := by rw [List.map_map]; rfl
    rwa [e] at this
  unfold keysS
  rw [if_pos]
  · congr 1
    have h1 : ((m.map Prod.fst).mergeSort (fun a b => decide (a ≤ b))).Pairwise (fun a b => decide (a ≤ b) = true) := List.pairwise_mergeSort (fun a b c h1 h2 => by simp only [decide_eq_true_eq] at *; omega) (fun a b => by simp only [Bool.or_eq_true, decide_eq_true_eq]; omega) _
    have hp := (List.mergeSort_perm (m.map Prod.fst) (fun a b => decide (a ≤ b))).trans hmp
    have hnd : (l.map ApiParcel.Id).Nodup := (ids_pair hs).imp fun h => Int.ne_of_lt h
    have h2 : ((m.map Prod.fst).mergeSort (fun a b => decide (a ≤ b))).Nodup := hp.nodup_iff.2 hnd
    exact sorted_ext ((h1.and h2).imp fun h => by have := h.1; have := h.2; simp only [decide_eq_true_eq] at *; omega) (ids_pair hs) fun x => hp.mem_iff
  · refine ⟨List.all_eq_true.2 fun y hy => ?_, by have := hm.length_eq; simp at this; omega⟩
    obtain ⟨q, hq, rfl⟩ := List.mem_map.1 (hm.mem_iff.1 hy)
    have := hr q hq
    exact decide_eq_true (show -9223372036854775808 ≤ q.Id ∧ q.Id ≤ 9223372036854775807 by omega)
theorem find_mem {l : List ApiParcel} (hs : l.Pairwise (fun p q => p.Id < q.Id)) {p : ApiParcel} (hp : p ∈ l) : l.find? (fun q => q.Id == p.Id) = some p := by
  cases h : l.find? (fun q => q.Id == p.Id) with
  | none => have := List.find?_eq_none.1 h p hp; simp at this
  | some q =>
    have hq := List.mem_of_find?_eq_some h
    have e : q.Id = p.Id := by simpa using List.find?_some h
    rw [ids_inj hs hq hp e]
theorem Duty_prog {amount : Int} (hlr : r.Rates.length ≤ 1000000) : m_excise_Duty r amount day = some (if !rulesB r then (0, 1) else if !inB amount 0 17179869184 || !inB day 0 65536 then (0, 2) else (dutyS r amount day, 0)) := by
  unfold m_excise_Duty
  rw [areRules_prog hlr, Option.bind_some]
  simp only [ex_within, ex_day]
  by_cases h1 : rulesB r = true
  · simp only [h1, Bool.not_true, Bool.false_eq_true, if_false]
    by_cases h2 : (!inB amount 0 17179869184 || !inB day 0 65536) = true
    · rw [if_pos h2, if_pos h2]
    · rw [if_neg h2, if_neg h2]
      simp only [Bool.or_eq_true, Bool.not_eq_true', not_or, Bool.not_eq_false] at h2
      have ha := inB_iff.1 h2.1; have hd := inB_iff.1 h2.2
      exact bind_of (duty_prog (rules_iff.1 h1) ha.1 ha.2 hd.1) rfl
  · simp only [Bool.not_eq_true] at h1
    simp only [h1, Bool.not_false, if_true]
theorem playS_len {a : Acc} {k : Nat} (h : playS r l day = (.inl a, k)) : l.length ≤ 4096 := by
  rcases Nat.lt_or_ge 4096 l.length with h1 | h1
  · unfold playS at h
    split at h
    · simp at h
    · simp at h
  · exact h1
theorem moving_loop {A1 : List ExciseOffice} {m : List (Int × ApiParcel)} {k e : Int} {o : Option Nat} {A3 : KM} (hs : a.B.Moving.Pairwise (fun p q => p.Id < q.Id)) (hm : m.Perm (a.B.Moving.map keyP)) (hl : a.B.Moving.length ≤ 1000000) :
    loopM (b_excise_Play_1 (o, k, e, A1, [m], A3) (offS r day a) (a.B.Moving.map ApiParcel.Id)) (0, (offS r day a).book) = some a.B := by
  obtain ⟨b, hb, hloop⟩ := loopM_pre (body := b_excise_Play_1 (o, k, e, A1, [m], A3) (offS r day a) (a.B.Moving.map ApiParcel.Id)) (fun i (b : Bk) => ((i : Int), b)) (fun b => b) (fun pre b => b = { a.B with Moving := pre }) a.B.Moving
    (fun pre q post b hl' hb => by
      have hil : pre.length < a.B.Moving.length := by rw [hl']; simp
      have hx : (a.B.Moving.map ApiParcel.Id)[pre.length]? = some q.Id := by rw [hl']; simp
      have hmo : (offS r day a).moving = some 0 := rfl
      have hq : mapGet m q.Id = some q := by rw [get_perm hs hm]; exact find_mem hs (by rw [hl']; simp)
      refine ⟨{ a.B with Moving := pre ++ [q] }, ?_, rfl⟩
      subst hb
      unfold b_excise_Play_1
      rw [if_pos (by simp; omega)]
      simp only [idxL_nat, hx, Option.bind_some, hmo, List.getElem?_cons_zero, hq, Option.getD_some]
      refine bind_of (appO_some' (by simp; omega)) ?_
      simp only [bindv, w64_next (by omega : pre.length ≤ 4294967296)])
    (fun b hb => by
      unfold b_excise_Play_1
      rw [if_neg (by simp)]) a.B.Moving [] { a.B with Moving := [] } rfl rfl
  have h0 : loopM (b_excise_Play_1 (o, k, e, A1, [m], A3) (offS r day a) (a.B.Moving.map ApiParcel.Id)) (0, (offS r day a).book) = some b := hloop
  rw [h0, hb]
theorem Play_prog (hlr : r.Rates.length ≤ 1000000) (hl : l.length ≤ 1000 ∨ 4096 < l.length) : m_excise_Play r l day = some (outD (playS r l day)) := by
  have hp := play_prog (day := day) hlr hl
  unfold PlayOK at hp
  unfold m_excise_Play
  cases h : playS r l day with
  | mk q k =>
    rw [h] at hp
    cases q with
    | inr e =>
      have he := playS_err h
      have hp : m_excise_play r l day = some (none, (k : Int), e, [], [], []) := hp
      have hne : (e != 0) = true := by simpa using he
      rw [hp]
      simp only [Option.bind_some, hne, if_true, outD]
    | inl a =>
      obtain ⟨A1, A2, A3, hq, hP⟩ := hp
      obtain ⟨hr, hok, hd, hk⟩ := playS_ok h
      obtain ⟨m, hm, hmp⟩ := hP.m
      have hml : a.B.Moving.length ≤ 1000000 := by have := playS_len h; have := hok.mlen; omega
      have ho : A1[0]? = some (offS r day a) := by rw [hP.o]; rfl
      have hks : sortedO A2 (some 0) = some (a.B.Moving.map ApiParcel.Id) := by
        rw [hm]; simp only [sortedO, List.getElem?_cons_zero, Option.bind_some]
        exact keys_ids hok.sorted hmp (fun p hp => (hok.mov p hp).id) hml
      rw [hq]
      simp only [Option.bind_some, bne_self_eq_false, Bool.false_eq_true, if_false, ho]
      have hno : nilO (offS r day a).book.Moving = some () := rfl
      have hmo : (offS r day a).moving = some 0 := rfl
      rw [hno, Option.bind_some, hmo, hks, Option.bind_some, hm]
      exact bind_of (moving_loop hok.sorted hmp hml) rfl
def lateL (r : Rul) (lim : Int) (a : Acc) : List Int := (a.B.Moving.filter (fun p => decide (lateS r p ≤ lim))).map ApiParcel.Id
def lateO (r : Rul) (l : List Ev) (day more : Int) : List Int × Int := match playS r l day with
  | (.inr e, _) => ([], e)
  | (.inl a, _) => if !inB more 0 65536 then ([], 2) else (lateL r (day + more) a, 0)
theorem lateL_loop {body : List Int × Int → Option (Ctl (List Int × Int) (List Int))} {lim : Int} {M : List ApiParcel}
    (hb : ∀ (i : Nat) (p : ApiParcel) (out : List Int), M[i]? = some p → out.length ≤ i → body (out, (i : Int)) = some (.next (if lateS r p ≤ lim then out ++ [p.Id] else out, ((i + 1 : Nat) : Int))))
    (he : ∀ out, body (out, (M.length : Int)) = some (.done out)) : loopM body ([], 0) = some ((M.filter (fun p => decide (lateS r p ≤ lim))).map ApiParcel.Id) := by
  obtain ⟨b, hb', hloop⟩ := loopM_pre (body := body) (fun i (out : List Int) => (out, (i : Int))) (fun b => b) (fun pre b => b = (pre.filter (fun p => decide (lateS r p ≤ lim))).map ApiParcel.Id) M
    (fun pre q post b hl' hbb => by
      refine ⟨_, hb pre.length q b (by rw [hl']; simp) (by rw [hbb, List.length_map]; exact List.length_filter_le _ _), ?_⟩
      rw [List.filter_append, List.map_append, ← hbb]
      by_cases h : lateS r q ≤ lim
      · simp [h]
      · simp [h])
    (fun b hbb => he b) M [] [] rfl rfl
  have h0 : loopM body ([], 0) = some b := hloop
  rw [h0, hb']
theorem late_if {out : List Int} {p : ApiParcel} {lim : Int} (h : out.length ≤ 1000000) : ((if (decide (lateS r p ≤ lim)) then ((appO out ([p.Id])).bind fun l_86 => some l_86) else (some out) : Option (List Int))) = some (if lateS r p ≤ lim then out ++ [p.Id] else out) := by
  by_cases hc : lateS r p ≤ lim
  · simp only [hc, decide_true, if_true]
    exact bind_of (appO_some' (by simp; omega)) rfl
  · simp only [hc, decide_false, Bool.false_eq_true, if_false]
theorem Late_prog {more : Int} (hlr : r.Rates.length ≤ 1000000) (hl : l.length ≤ 1000 ∨ 4096 < l.length) : m_excise_Late r l day more = some (lateO r l day more) := by
  have hp := play_prog (day := day) hlr hl
  unfold PlayOK at hp
  unfold m_excise_Late lateO
  cases h : playS r l day with
  | mk q k =>
    rw [h] at hp
    cases q with
    | inr e =>
      have hne : (e != 0) = true := by simpa using playS_err h
      have hp : m_excise_play r l day = some (none, (k : Int), e, [], [], []) := hp
      rw [hp]
      simp only [Option.bind_some, hne, if_true]
    | inl a =>
      obtain ⟨A1, A2, A3, hq, hP⟩ := hp
      obtain ⟨hr, hok, hd, hk⟩ := playS_ok h
      obtain ⟨m, hm, hmp⟩ := hP.m
      have hml : a.B.Moving.length ≤ 1000000 := by have := playS_len h; have := hok.mlen; omega
      have ho : A1[0]? = some (offS r day a) := by rw [hP.o]; rfl
      have hks : sortedO A2 (some 0) = some (a.B.Moving.map ApiParcel.Id) := by
        rw [hm]; simp only [sortedO, List.getElem?_cons_zero, Option.bind_some]
        exact keys_ids hok.sorted hmp (fun p hp => (hok.mov p hp).id) hml
      have hmo : (offS r day a).moving = some 0 := rfl
      rw [hq]
      simp only [Option.bind_some, bne_self_eq_false, Bool.false_eq_true, if_false, ex_day]
      by_cases hmr : inB more 0 65536 = true
      · simp only [hmr, Bool.not_true, Bool.false_eq_true, if_false, ho, Option.bind_some, hmo, hks]
        have hmm := inB_iff.1 hmr
        refine bind_of (lateL_loop (r := r) (lim := day + more) (M := a.B.Moving) (fun i p out hp ho' => ?_) (fun out => ?_)) rfl
        · have hi := (List.getElem?_eq_some_iff.1 hp).1
          have hsent := (hok.mov p (List.mem_of_getElem? hp)).sent
          have hx : (a.B.Moving.map ApiParcel.Id)[i]? = some p.Id := by simp [hp]
          have hg : mapGet m p.Id = some p := by rw [get_perm hok.sorted hmp]; exact find_mem hok.sorted (List.mem_of_getElem? hp)
          unfold b_excise_Late_1
          rw [if_pos (by simp; omega)]
          simp only [idxL_nat, hx, Option.bind_some, hmo, hm, List.getElem?_cons_zero, hg, Option.getD_some]
          rw [hP.o, late_prog hr (by omega)]
          simp only [Option.bind_some]
          rw [w64_id (n := day + more) (by omega) (by omega), late_if (by omega)]
          simp only [Option.bind_some, w64_next (by omega : i ≤ 4294967296)]
        · unfold b_excise_Late_1
          rw [if_neg (by simp)]
      · simp only [Bool.not_eq_true] at hmr
        simp only [hmr, Bool.not_false, if_true]
theorem eq49_refl (p : ApiParcel) : eq_49 p p = true := by simp [eq_49]
theorem Ints_self (a : List Int) (h : a.length ≤ 1000000) : m_wormtubref11_Ints a a = some true := by
  have hl := loop_list (body := b_wormtubref11_Ints_1 a a) (fun (_ : Unit) i => ((i : Nat) : Int)) (fun (_ : Unit) _ (_ : Int) => some (.next ())) (fun _ => (.inl () : Unit ⊕ Bool)) a (fun t i x hx => by
    have hi := (List.getElem?_eq_some_iff.1 hx).1
    unfold b_wormtubref11_Ints_1
    rw [if_pos (by simp; omega)]
    simp only [idxL_nat, hx, Option.bind_some, bindv, w64_next (by omega : i ≤ 4294967296), bne_self_eq_false, Bool.false_eq_true, if_false]
    rfl) (fun t => by unfold b_wormtubref11_Ints_1; rw [if_neg (by simp)]) ()
  have hg : ∀ (l : List Int) (i : Nat), goL (fun (_ : Unit) _ (_ : Int) => some (.next ())) (fun _ => (.inl () : Unit ⊕ Bool)) l i () = some (.inl ()) := fun l => by
    induction l with
    | nil => intro i; rfl
    | cons x l ih => intro i; simp only [goL]; exact ih (i + 1)
  rw [hg] at hl
  have hl' : loopM (b_wormtubref11_Ints_1 a a) 0 = some (.inl ()) := hl
  unfold m_wormtubref11_Ints
  rw [if_neg (by simp), hl']; rfl
end Go.Proofs.Ytadpjmaaokkhjaa
end

section
namespace Go.Proofs.Ytadpjmaaokkhjaa
open Go.Dec
variable {r : Rul} {n : Nat} {t d day : Int} {s a : Acc} {x : Ev} {p : ApiParcel} {l : List Ev}
theorem go_less {d d' : Int} (hd : d' ≤ d) : ∀ {l : List Ev} {n : Nat} {c c1 : Cur} {k1 : Nat}, goS r d l n c = (.inl c1, k1) → ∃ c0 k0, goS r d' l n c = (.inl c0, k0) ∧ k0 ≤ k1
  | [], n, c, c1, k1, h => by
    simp only [goS, Prod.mk.injEq, Sum.inl.injEq] at h ⊢
    exact ⟨c, n, ⟨rfl, rfl⟩, by omega⟩
  | x :: l, n, c, c1, k1, h => by
    rw [goS] at h ⊢
    by_cases h1 : x.Day ≤ d'
    · rw [if_pos (by omega)] at h
      rw [if_pos h1]
      cases hs : stepS r c x with
      | inl c' => rw [hs] at h; exact go_less hd h
      | inr e => rw [hs] at h; simp at h
    · rw [if_neg h1]
      refine ⟨c, n, rfl, ?_⟩
      split at h
      · split at h
        · have : ∀ {l : List Ev} {n : Nat} {c c1 : Cur} {k1 : Nat}, goS r d l n c = (.inl c1, k1) → n ≤ k1 := by
            intro l
            induction l with
            | nil => intro n c c1 k1 h; simp only [goS, Prod.mk.injEq] at h; omega
            | cons y l ih =>
              intro n c c1 k1 h
              rw [goS] at h
              split at h
              · split at h
                · have := ih h; omega
                · simp at h
              · simp only [Prod.mk.injEq] at h; omega
          have := this h; omega
        · simp at h
      · simp only [Prod.mk.injEq] at h; omega
theorem play_less {d d' : Int} {b : Acc} {k : Nat} (h0 : 0 ≤ d') (hd : d' ≤ d) (h : playS r l d = (.inl b, k)) : ∃ a j, playS r l d' = (.inl a, j) ∧ j ≤ k := by
  obtain ⟨hr, hok, hday, hk⟩ := playS_ok h
  have hlen := playS_len h
  have h1 : rulesB r = true := rules_iff.2 hr
  have h3 : inB d 0 65536 = true := inB_iff.2 hday
  have h3' : inB d' 0 65536 = true := inB_iff.2 ⟨h0, by omega⟩
  unfold playS at h ⊢
  simp only [h1, h3, h3', Bool.not_true, Bool.false_eq_true, if_false] at h ⊢
  rw [if_neg (by omega)] at h ⊢
  unfold runS at h ⊢
  cases hg : goS r d l 0 cur0 with
  | mk q k1 =>
    rw [hg] at h
    cases q with
    | inr e => simp at h
    | inl c1 =>
      simp only [Prod.mk.injEq] at h
      obtain ⟨c0, k0, g1, g2⟩ := go_less hd hg
      rw [g1]
      exact ⟨_, _, rfl, by omega⟩
def retO (r : Rul) (l : List Ev) (fro to : Int) : Int × Int × Int :=
  if !rulesB r then (0, 0, 1) else if l.length > 4096 then (0, 0, 3) else if !inB fro 0 65536 || !inB to fro 65536 then (0, 0, 2)
  else match playS r l to with
    | (.inr e, _) => (0, 0, e)
    | (.inl b, _) => if fro == 0 then (b.B.Due, b.B.Paid, 0) else match playS r l (fro - 1) with
      | (.inr _, _) => (0, 0, 0)
      | (.inl a, _) => (b.B.Due - a.B.Due, b.B.Paid - a.B.Paid, 0)
theorem due_lim {k : Nat} {b : Acc} (h : SOk r k d b) (hk : k ≤ 4096) : (0 ≤ b.B.Due ∧ b.B.Due ≤ 4611686018427387904) ∧ 0 ≤ b.B.Paid ∧ b.B.Paid ≤ b.B.Due := by
  have := h.pos; have := h.due; have := h.lim; omega
theorem Return_prog {fro to : Int} (hlr : r.Rates.length ≤ 1000000) (hl : l.length ≤ 1000 ∨ 4096 < l.length) : m_excise_Return r l fro to = some (retO r l fro to) := by
  unfold m_excise_Return retO
  rw [areRules_prog hlr, Option.bind_some]
  by_cases h1 : rulesB r = true
  · simp only [h1, Bool.not_true, Bool.false_eq_true, if_false]
    by_cases h2 : l.length > 4096
    · have e2 : decide ((l.length : Int) > 4096) = true := by simp; omega
      rw [if_pos e2, if_pos h2]
    · have e2 : ¬ decide ((l.length : Int) > 4096) = true := by simp; omega
      rw [if_neg e2, if_neg h2]
      simp only [ex_within, ex_day]
      by_cases h3 : (!inB fro 0 65536 || !inB to fro 65536) = true
      · rw [if_pos h3, if_pos h3]
      · rw [if_neg h3, if_neg h3]
        simp only [Bool.or_eq_true, Bool.not_eq_true', not_or, Bool.not_eq_false] at h3
        have hf := inB_iff.1 h3.1; have ht := inB_iff.1 h3.2
        have hp := play_prog (day := to) hlr hl
        unfold PlayOK at hp
        cases h : playS r l to with
        | mk q k =>
          rw [h] at hp
          cases q with
          | inr e =>
            have hne : (e != 0) = true := by simpa using playS_err h
            have hp : m_excise_play r l to = some (none, (k : Int), e, [], [], []) := hp
            rw [hp]
            simp only [Option.bind_some, hne, Bool.true_or, if_true, Option.isNone_none]
          | inl b =>
            obtain ⟨A1, A2, A3, hq, hP⟩ := hp
            have ho : A1[0]? = some (offS r to b) := by rw [hP.o]; rfl
            rw [hq]
            simp only [Option.bind_some, bne_self_eq_false, Bool.false_or]
            by_cases h0 : (fro == 0) = true
            · rw [if_pos h0, if_pos h0]
              simp only [Option.isNone_some, Bool.false_eq_true, if_false, ho, Option.bind_some]
              rfl
            · rw [if_neg h0, if_neg h0]
              have h0' : fro ≠ 0 := by simpa using h0
              obtain ⟨a, j, hj, hjk⟩ := play_less (d' := fro - 1) (by omega) (by omega) h
              have hp2 := play_prog (day := fro - 1) hlr hl
              unfold PlayOK at hp2
              rw [hj] at hp2
              obtain ⟨C1, C2, C3, hq2, hP2⟩ := hp2
              have ho2 : C1[0]? = some (offS r (fro - 1) a) := by rw [hP2.o]; rfl
              rw [w64_id (n := fro - 1) (by omega) (by omega), hq2, hj]
              simp only [Option.bind_some, ho, ho2, bindv]
              obtain ⟨_, hok, _, hk⟩ := playS_ok h
              obtain ⟨_, hok', _, hk'⟩ := playS_ok hj
              have b1 := due_lim hok (by omega); have b2 := due_lim hok' (by omega)
              have e1 : (offS r to b).book.Due = b.B.Due := rfl
              have e2 : (offS r to b).book.Paid = b.B.Paid := rfl
              have e3 : (offS r (fro - 1) a).book.Due = a.B.Due := rfl
              have e4 : (offS r (fro - 1) a).book.Paid = a.B.Paid := rfl
              rw [e1, e2, e3, e4, w64_id (n := b.B.Due - a.B.Due) (by omega) (by omega), w64_id (n := b.B.Paid - a.B.Paid) (by omega) (by omega)]
  · simp only [Bool.not_eq_true] at h1
    simp only [h1, Bool.not_false, if_true]
def smpR : Rul := ⟨[⟨0, 2000⟩, ⟨100, 3000⟩], 10, 50, 200⟩
def smpL : List Ev := [⟨0, 0, 1, 0, 0, 100000⟩, ⟨1, 20, 1, 2, 7, 40000⟩, ⟨2, 25, 2, 0, 7, 39700⟩, ⟨1, 50, 1, 2, 8, 10000⟩, ⟨5, 90, 1, 0, 0, 49000⟩, ⟨3, 100, 2, 0, 0, 10000⟩]
theorem awake_true : m_wormtublaw11_awake = some true := by
  have hs : m_wormtublaw11_sample = some (smpR, smpL) := rfl
  have hlr : smpR.Rates.length ≤ 1000000 := by decide
  have hl : smpL.length ≤ 1000 ∨ 4096 < smpL.length := by decide
  have e1 : (if !rulesB smpR then ((0 : Int), (1 : Int)) else if !inB 1999 0 17179869184 || !inB 100 0 65536 then (0, 2) else (dutyS smpR 1999 100, 0)) = (5997, 0) := by decide +kernel
  have e2 : (((((((((((5997 : Int) != 5997) || ((0 : Int) != 0)) || ((outD (playS smpR smpL 90)).1.Bonds 1 != 49000)) || ((outD (playS smpR smpL 90)).1.Bonds 2 != 39700)) || ((outD (playS smpR smpL 90)).1.Lost != 517)) || ((outD (playS smpR smpL 90)).1.Charged != 783)) || ((outD (playS smpR smpL 90)).1.Used != 10000)) || ((outD (playS smpR smpL 90)).1.Due != 21566)) || ((outD (playS smpR smpL 90)).2.1 != 5)) || ((outD (playS smpR smpL 90)).2.2 != 0)) = false := by decide +kernel
  have e3 : retO smpR smpL 26 99 = (21366, 0, 0) := by decide +kernel
  have e4 : lateO smpR smpL 55 6 = ([8], 0) := by decide +kernel
  unfold m_wormtublaw11_awake
  refine bind_of hs (bind_of (Duty_prog hlr) (bind_of (Play_prog hlr hl) (bind_of (Return_prog hlr hl) (bind_of (Late_prog hlr hl) ?_))))
  rw [e1, e3, e4]
  simp only [e2, Bool.false_eq_true, if_false]
  have i1 : m_wormtubref11_Ints [8] [8] = some true := Ints_self _ (by decide)
  simp [i1]
end Go.Proofs.Ytadpjmaaokkhjaa
end

section
namespace Go.Proofs.Ytadpjmaaokkhjaa
open Go.Dec
variable {r : Rul} {n : Nat} {t d day : Int} {s s' a : Acc} {x : Ev} {p : ApiParcel} {l : List Ev}
def RunS (r : Rul) : List Ev → Cur → Cur → Prop
  | [], c, c' => c = c'
  | x :: l, c, c' => ∃ c1, stepS r c x = .inl c1 ∧ RunS r l c1 c'
theorem run_app {k : List Ev} : ∀ {l : List Ev} {c c' : Cur}, RunS r (l ++ k) c c' ↔ ∃ c1, RunS r l c c1 ∧ RunS r k c1 c'
  | [], c, c' => by simp [RunS]
  | x :: l, c, c' => by
    simp only [List.cons_append, RunS, run_app (l := l)]
    constructor
    · rintro ⟨c1, h1, c2, h2, h3⟩; exact ⟨c2, ⟨c1, h1, h2⟩, h3⟩
    · rintro ⟨c2, ⟨c1, h1, h2⟩, h3⟩; exact ⟨c1, h1, c2, h2, h3⟩
theorem run_one {c c' : Cur} : RunS r [x] c c' ↔ stepS r c x = .inl c' := by
  simp only [RunS]
  constructor
  · rintro ⟨c1, h, rfl⟩; exact h
  · intro h; exact ⟨c', h, rfl⟩
theorem go_run : ∀ {l : List Ev} {n : Nat} {c c' : Cur} {k : Nat}, goS r day l n c = (.inl c', k) → n ≤ k ∧ k - n ≤ l.length ∧ RunS r (l.take (k - n)) c c' ∧ (∀ x ∈ l.take (k - n), x.Day ≤ day) ∧ ∀ y, l[k - n]? = some y → day < y.Day
  | [], n, c, c', k, h => by
    simp only [goS, Prod.mk.injEq, Sum.inl.injEq] at h
    obtain ⟨rfl, rfl⟩ := h
    simp [RunS]
  | x :: l, n, c, c', k, h => by
    rw [goS] at h
    split at h
    · rename_i hle
      split at h
      · rename_i c1 hs
        obtain ⟨h1, h2, h3, h4, h5⟩ := go_run h
        have e : k - n = (k - (n + 1)) + 1 := by omega
        refine ⟨by omega, by simp only [List.length_cons]; omega, ?_, ?_, ?_⟩
        · rw [e, List.take_succ_cons]; exact ⟨c1, hs, h3⟩
        · rw [e, List.take_succ_cons]
          intro y hy
          rcases List.mem_cons.1 hy with rfl | hy
          · exact hle
          · exact h4 y hy
        · rw [e, List.getElem?_cons_succ]; exact h5
      · simp at h
    · rename_i hle
      simp only [Prod.mk.injEq, Sum.inl.injEq] at h
      obtain ⟨rfl, rfl⟩ := h
      refine ⟨Nat.le_refl _, by simp, by simp [RunS], by simp, ?_⟩
      intro y hy
      simp only [Nat.sub_self, List.getElem?_cons_zero, Option.some.injEq] at hy
      subst hy; omega
theorem play_run {k : Nat} (h : playS r l day = (.inl a, k)) : ∃ c, RunS r (l.take k) cur0 c ∧ SOk r k c.day c.acc ∧ 0 ≤ c.day ∧ c.day ≤ day ∧ a = passS r c.day day c.acc ∧ k ≤ l.length ∧ (∀ x ∈ l.take k, x.Day ≤ day) ∧ ∀ y, l[k]? = some y → day < y.Day := by
  obtain ⟨hr, hok, hd, hk⟩ := playS_ok h
  have hlen := playS_len h
  have h1 : rulesB r = true := rules_iff.2 hr
  have h3 : inB day 0 65536 = true := inB_iff.2 hd
  unfold playS at h
  simp only [h1, h3, Bool.not_true, Bool.false_eq_true, if_false] at h
  rw [if_neg (by omega)] at h
  unfold runS at h
  cases hg : goS r day l 0 cur0 with
  | mk q k1 =>
    rw [hg] at h
    cases q with
    | inr e => simp at h
    | inl c1 =>
      simp only [Prod.mk.injEq, Sum.inl.injEq] at h
      obtain ⟨rfl, rfl⟩ := h
      obtain ⟨g1, g2, g3, g4, g5⟩ := go_run hg
      simp only [Nat.sub_zero] at g2 g3 g4 g5
      obtain ⟨a1, a2, a3, _⟩ := go_ok hr (acc0_ok r) (by simp [cur0]) (by simp [cur0]; omega) hg
      exact ⟨c1, g3, a1, a2, a3, rfl, g2, g4, g5⟩
theorem run_inv (hr : RulOk r) {I : List Ev → Cur → Prop} (h0 : I [] cur0) (hs : ∀ pre x c c', I pre c → RunS r pre cur0 c → SOk r pre.length c.day c.acc → 0 ≤ c.day → stepS r c x = .inl c' → I (pre ++ [x]) c') : ∀ {l : List Ev} {c : Cur}, RunS r l cur0 c → I l c ∧ SOk r l.length c.day c.acc ∧ 0 ≤ c.day := by
  intro l
  induction l using snoc_ind with
  | h0 => intro c h; simp only [RunS] at h; subst h; exact ⟨h0, acc0_ok r, by simp [cur0]⟩
  | hs l x ih =>
    intro c h
    obtain ⟨c1, h1, h2⟩ := run_app.1 h
    have h2 := run_one.1 h2
    obtain ⟨i1, i2, i3⟩ := ih h1
    obtain ⟨g1, g2, _, _⟩ := step_ok hr i2 i3 h2
    exact ⟨hs l x c1 c i1 h1 i2 i3 h2, by rw [List.length_append, List.length_singleton]; exact g1, by omega⟩
theorem step_do {c c' : Cur} (h : stepS r c x = .inl c') : evB x = true ∧ c.day ≤ x.Day ∧ c'.day = x.Day ∧ doS r (passS r c.day x.Day c.acc) x = .inl c'.acc := by
  unfold stepS at h
  split at h
  · cases h
  · rename_i he
    split at h
    · cases h
    · rename_i hlt
      split at h
      · rename_i a ha
        simp only [Sum.inl.injEq] at h
        subst h
        exact ⟨by simpa using he, by omega, rfl, ha⟩
      · cases h
theorem run_ev (hr : RulOk r) {c : Cur} (h : RunS r l cur0 c) : ∀ x ∈ l, evB x = true :=
  (run_inv hr (I := fun l _ => ∀ x ∈ l, evB x = true) (fun _ h => by cases h) (fun pre x c c' hi _ _ _ hs y hy => by
    rcases List.mem_append.1 hy with hy | hy
    · exact hi y hy
    · simp only [List.mem_singleton] at hy; subst hy; exact (step_do hs).1) h).1
end Go.Proofs.Ytadpjmaaokkhjaa
end

section
namespace Go.Proofs.Ytadpjmaaokkhjaa
open Go.Dec
theorem Try.own : ownKnob Try.prog.godebug = none := by kernel_rfl
theorem Try.laidOut : laidOutB Try.prog = true := by kernel_rfl
def okApiDutyRate (x : ApiDutyRate) : Prop := (Lit.int .i64 x.From).wf = true ∧ (Lit.int .i64 x.Rate).wf = true
theorem vApiDutyRate {H : Type} {enc : TypeId × Value → H} {W : World} : Viewed enc Try.prog W 53 (Ex cApiDutyRate) okApiDutyRate := by
 intro sp held fuel cs x h
 obtain ⟨xs, k, _, _, hl, hxl, hx⟩ := DataW.trod_struct Try.underlying53 h
 have hl' : cs.length = 2 := hl.trans (by kernel_rfl)
 obtain ⟨y0, h0⟩ := some_of (hx 0 _ rfl) hxl rfl
 have e0 : Try.prog.cellsOf 3 = 1 := by kernel_rfl
 obtain ⟨m0, o0, q0⟩ := (Viewed.int Try.underlying3) _ _ _ _ _ h0
 obtain ⟨y1, h1⟩ := some_of (hx 1 _ rfl) hxl rfl
 have e1 : Try.prog.cellsOf 3 = 1 := by kernel_rfl
 obtain ⟨m1, o1, q1⟩ := (Viewed.int Try.underlying3) _ _ _ _ _ h1
 refine ⟨⟨m0, m1⟩, ⟨o0, o1⟩, fun F' le => ?_⟩
 have w0 : (cs.drop 0).take (Try.prog.cellsOf 3) = (cInt .i64) m0 := q0 F' le
 rw [e0] at w0
 have w1 : (cs.drop 1).take (Try.prog.cellsOf 3) = (cInt .i64) m1 := q1 F' le
 rw [e1] at w1
 exact (cat_cons w0 (cat_cons w1 (cat_nil hl')))
def okApiDutyRules (x : ApiDutyRules) : Prop := (∀ y7 ∈ x.Rates, okApiDutyRate y7) ∧ (Lit.int .i64 x.Transit).wf = true ∧ (Lit.int .i64 x.Loss).wf = true ∧ (Lit.int .i64 x.Share).wf = true
theorem vApiDutyRules {H : Type} {enc : TypeId × Value → H} {W : World} : Viewed enc Try.prog W 24 rApiDutyRules okApiDutyRules := by
 intro sp held fuel cs x h
 obtain ⟨xs, k, _, _, hl, hxl, hx⟩ := DataW.trod_struct Try.underlying24 h
 have hl' : cs.length = 4 := hl.trans (by kernel_rfl)
 obtain ⟨y0, h0⟩ := some_of (hx 0 _ rfl) hxl rfl
 have e0 : Try.prog.cellsOf 22 = 1 := by kernel_rfl
 obtain ⟨m0, o0, q0⟩ := (Viewed.slice (sz := 2) Try.underlying22 (by kernel_rfl) (by decide) vApiDutyRate) _ _ _ _ _ h0
 obtain ⟨y1, h1⟩ := some_of (hx 1 _ rfl) hxl rfl
 have e1 : Try.prog.cellsOf 3 = 1 := by kernel_rfl
 obtain ⟨m1, o1, q1⟩ := (Viewed.int Try.underlying3) _ _ _ _ _ h1
 obtain ⟨y2, h2⟩ := some_of (hx 2 _ rfl) hxl rfl
 have e2 : Try.prog.cellsOf 3 = 1 := by kernel_rfl
 obtain ⟨m2, o2, q2⟩ := (Viewed.int Try.underlying3) _ _ _ _ _ h2
 obtain ⟨y3, h3⟩ := some_of (hx 3 _ rfl) hxl rfl
 have e3 : Try.prog.cellsOf 3 = 1 := by kernel_rfl
 obtain ⟨m3, o3, q3⟩ := (Viewed.int Try.underlying3) _ _ _ _ _ h3
 refine ⟨⟨m0, m1, m2, m3⟩, ⟨o0, o1, o2, o3⟩, fun F' le => ?_⟩
 have w0 : (rSl 2 (Ex cApiDutyRate)) F' m0 ((cs.drop 0).take (Try.prog.cellsOf 22)) := q0 F' le
 rw [e0] at w0
 obtain ⟨p0_0, p0_1, w0, r0_0⟩ := w0
 have w1 : (cs.drop 1).take (Try.prog.cellsOf 3) = (cInt .i64) m1 := q1 F' le
 rw [e1] at w1
 have w2 : (cs.drop 2).take (Try.prog.cellsOf 3) = (cInt .i64) m2 := q2 F' le
 rw [e2] at w2
 have w3 : (cs.drop 3).take (Try.prog.cellsOf 3) = (cInt .i64) m3 := q3 F' le
 rw [e3] at w3
 exact ⟨p0_0, p0_1, (cat_cons w0 (cat_cons w1 (cat_cons w2 (cat_cons w3 (cat_nil hl'))))), r0_0⟩
def okApiDutyEvent (x : ApiDutyEvent) : Prop := (Lit.int .i64 x.Kind).wf = true ∧ (Lit.int .i64 x.Day).wf = true ∧ (Lit.int .i64 x.Bond).wf = true ∧ (Lit.int .i64 x.To).wf = true ∧ (Lit.int .i64 x.Id).wf = true ∧ (Lit.int .i64 x.Amount).wf = true
theorem vApiDutyEvent {H : Type} {enc : TypeId × Value → H} {W : World} : Viewed enc Try.prog W 47 (Ex cApiDutyEvent) okApiDutyEvent := by
 intro sp held fuel cs x h
 obtain ⟨xs, k, _, _, hl, hxl, hx⟩ := DataW.trod_struct Try.underlying47 h
 have hl' : cs.length = 6 := hl.trans (by kernel_rfl)
 obtain ⟨y0, h0⟩ := some_of (hx 0 _ rfl) hxl rfl
 have e0 : Try.prog.cellsOf 3 = 1 := by kernel_rfl
 obtain ⟨m0, o0, q0⟩ := (Viewed.int Try.underlying3) _ _ _ _ _ h0
 obtain ⟨y1, h1⟩ := some_of (hx 1 _ rfl) hxl rfl
 have e1 : Try.prog.cellsOf 3 = 1 := by kernel_rfl
 obtain ⟨m1, o1, q1⟩ := (Viewed.int Try.underlying3) _ _ _ _ _ h1
 obtain ⟨y2, h2⟩ := some_of (hx 2 _ rfl) hxl rfl
 have e2 : Try.prog.cellsOf 3 = 1 := by kernel_rfl
 obtain ⟨m2, o2, q2⟩ := (Viewed.int Try.underlying3) _ _ _ _ _ h2
 obtain ⟨y3, h3⟩ := some_of (hx 3 _ rfl) hxl rfl
 have e3 : Try.prog.cellsOf 3 = 1 := by kernel_rfl
 obtain ⟨m3, o3, q3⟩ := (Viewed.int Try.underlying3) _ _ _ _ _ h3
 obtain ⟨y4, h4⟩ := some_of (hx 4 _ rfl) hxl rfl
 have e4 : Try.prog.cellsOf 3 = 1 := by kernel_rfl
 obtain ⟨m4, o4, q4⟩ := (Viewed.int Try.underlying3) _ _ _ _ _ h4
 obtain ⟨y5, h5⟩ := some_of (hx 5 _ rfl) hxl rfl
 have e5 : Try.prog.cellsOf 3 = 1 := by kernel_rfl
 obtain ⟨m5, o5, q5⟩ := (Viewed.int Try.underlying3) _ _ _ _ _ h5
 refine ⟨⟨m0, m1, m2, m3, m4, m5⟩, ⟨o0, o1, o2, o3, o4, o5⟩, fun F' le => ?_⟩
 have w0 : (cs.drop 0).take (Try.prog.cellsOf 3) = (cInt .i64) m0 := q0 F' le
 rw [e0] at w0
 have w1 : (cs.drop 1).take (Try.prog.cellsOf 3) = (cInt .i64) m1 := q1 F' le
 rw [e1] at w1
 have w2 : (cs.drop 2).take (Try.prog.cellsOf 3) = (cInt .i64) m2 := q2 F' le
 rw [e2] at w2
 have w3 : (cs.drop 3).take (Try.prog.cellsOf 3) = (cInt .i64) m3 := q3 F' le
 rw [e3] at w3
 have w4 : (cs.drop 4).take (Try.prog.cellsOf 3) = (cInt .i64) m4 := q4 F' le
 rw [e4] at w4
 have w5 : (cs.drop 5).take (Try.prog.cellsOf 3) = (cInt .i64) m5 := q5 F' le
 rw [e5] at w5
 exact (cat_cons w0 (cat_cons w1 (cat_cons w2 (cat_cons w3 (cat_cons w4 (cat_cons w5 (cat_nil hl')))))))
theorem vt24 {H : Type} {enc : TypeId × Value → H} {W : World} : Viewed enc Try.prog W 24 rApiDutyRules (fun x => okApiDutyRules x) := vApiDutyRules
theorem vt25 {H : Type} {enc : TypeId × Value → H} {W : World} : Viewed enc Try.prog W 25 (rSl 6 (Ex cApiDutyEvent)) (fun x => (∀ y1 ∈ x, okApiDutyEvent y1)) := (Viewed.slice (sz := 6) Try.underlying25 (by kernel_rfl) (by decide) vApiDutyEvent)
end Go.Proofs.Ytadpjmaaokkhjaa
end

section
namespace Go.Proofs.Ytadpjmaaokkhjaa
open Go.Dec
variable {r : Rul} {n : Nat} {t d day : Int} {s s' a : Acc} {x : Ev} {p : ApiParcel} {l : List Ev}
theorem Play_ok {k : Nat} (hlr : r.Rates.length ≤ 1000000) (hl : l.length ≤ 1000) (h : playS r l day = (.inl a, k)) : m_excise_Play r l day = some (a.B, (k : Int), 0) := by
  rw [Play_prog hlr (.inl hl), h]; rfl
theorem Play_err {k : Nat} {e : Int} (hlr : r.Rates.length ≤ 1000000) (hl : l.length ≤ 1000) (h : playS r l day = (.inr e, k)) : m_excise_Play r l day = some (bk0, (k : Int), e) := by
  rw [Play_prog hlr (.inl hl), h]; rfl
end Go.Proofs.Ytadpjmaaokkhjaa
end

section
namespace Go.Proofs.Ytadpjmaaokkhjaa
open Go.Dec Go.Shelf Go.RowKit Go.Maps Go.Sort
noncomputable def b_wormtublaw11_ExciseArrives_2 (r_1 : ApiDutyRules) (l_5 : (List ApiDutyEvent)) (r_25 : (ApiDutyBook × Int × Int)) (s55 : Int × Int) (s86 : Bool × Int) : Option (Ctl (Bool × Int) ((Bool) ⊕ (Bool))) :=
 if (decide (s86.2 < r_25.2.1)) then ((idxL l_5 s86.2).bind fun x90 => (idxL l_5 s55.2).bind fun x100 => if (x90.Id != x100.Id) then (bindv (w64 (s86.2 + 1)) fun k111 => some (.next (s86.1, k111))) else ((idxL l_5 s86.2).bind fun x113 => if (x113.Kind == 1) then (some (.done (.inr false))) else ((idxL l_5 s86.2).bind fun x124 => if (x124.Kind == 2) then ((idxL l_5 s86.2).bind fun x135 => (idxL l_5 s55.2).bind fun x145 => (if (decide (x135.Day > (w64 (x145.Day + r_1.Transit)))) then some true else ((idxL l_5 s86.2).bind fun x156 => (idxL l_5 s55.2).bind fun x166 => some (x156.Bond != x166.To))).bind fun z179 => if z179 then (some (.done (.inr false))) else (bindv (w64 (s86.2 + 1)) fun k182 => some (.next (false, k182)))) else (bindv (w64 (s86.2 + 1)) fun k184 => some (.next (s86.1, k184)))))) else (some (.done (.inl s86.1)))
noncomputable def b_wormtublaw11_ExciseArrives_3 (l_5 : (List ApiDutyEvent)) (r_25 : (ApiDutyBook × Int × Int)) (s55 : Int × Int) (s191 : Bool × Int) : Option (Ctl (Bool × Int) ((Bool))) :=
 if (decide (s191.2 < (r_25.1.Moving.length : Int))) then (((idxL r_25.1.Moving s191.2).bind fun x195 => (idxL l_5 s55.2).bind fun x206 => (if (x195.Id == x206.Id) then ((idxL l_5 s55.2).bind fun x217 => (idxL l_5 s55.2).bind fun x227 => (idxL l_5 s55.2).bind fun x237 => (idxL l_5 s55.2).bind fun x247 => (idxL l_5 s55.2).bind fun x257 => bindv (eq_49 x195 (ApiParcel.mk x217.Id x227.Bond x237.To x247.Day x257.Amount)) fun found267 => some found267) else (some s191.1) : Option (Bool)).bind fun j269 => some j269 : Option (Bool)).bind fun j272 => bindv (w64 (s191.2 + 1)) fun k275 => some (.next (j272, k275))) else (some (.done s191.1))
noncomputable def b_wormtublaw11_ExciseArrives_1 (r_1 : ApiDutyRules) (l_5 : (List ApiDutyEvent)) (day9 : Int) (r_25 : (ApiDutyBook × Int × Int)) (s55 : Int × Int) : Option (Ctl (Int × Int) ((Int) ⊕ (Bool))) :=
 if (decide (s55.2 < r_25.2.1)) then ((idxL l_5 s55.2).bind fun x59 => if (x59.Kind != 1) then (bindv (w64 (s55.2 + 1)) fun i70 => some (.next (s55.1, i70))) else ((idxL l_5 s55.2).bind fun x72 => bindv (decide ((w64 ((w64 (x72.Day + r_1.Transit)) + 1)) > day9)) fun here82 => bindv (w64 (s55.2 + 1)) fun k84 => (loopM (b_wormtublaw11_ExciseArrives_2 r_1 l_5 r_25 s55) (here82, k84)).bind fun b0 => match b0 with | .inl b186 => ((loopM (b_wormtublaw11_ExciseArrives_3 l_5 r_25 s55) (false, 0)).bind fun b277 => if (!(b277 == b186)) then (some (.done (.inr false))) else ((if b186 then (bindv (w64 (s55.1 + 1)) fun moving282 => some moving282) else (some s55.1) : Option (Int)).bind fun j284 => bindv (w64 (s55.2 + 1)) fun i287 => some (.next (j284, i287)))) | .inr b186 => (some (.done (.inr b186))))) else (some (.done (.inl s55.1)))
noncomputable def b_wormtublaw11_ExciseArrives_4 (r_1 : ApiDutyRules) (day9 : Int) (more10 : Int) (r_25 : (ApiDutyBook × Int × Int)) (r_32 : ((List Int) × Int)) (s309 : Int × Int) : Option (Ctl (Int × Int) ((Int) ⊕ (Bool))) :=
 if (decide (s309.2 < (r_25.1.Moving.length : Int))) then ((idxL r_25.1.Moving s309.2).bind fun x313 => if (decide ((w64 ((w64 (x313.Sent + r_1.Transit)) + 1)) ≤ (w64 (day9 + more10)))) then ((if (decide (s309.1 ≥ (r_32.1.length : Int))) then some true else ((idxL r_32.1 s309.1).bind fun x325 => (idxL r_25.1.Moving s309.2).bind fun x335 => some (x325 != x335.Id))).bind fun z348 => if z348 then (some (.done (.inr false))) else (bindv (w64 (s309.1 + 1)) fun k351 => bindv (w64 (s309.2 + 1)) fun i353 => some (.next (k351, i353)))) else (bindv (w64 (s309.2 + 1)) fun i355 => some (.next (s309.1, i355)))) else (some (.done (.inl s309.1)))
noncomputable def m_wormtublaw11_ExciseArrives (r_1 : ApiDutyRules) (l_5 : (List ApiDutyEvent)) (day9 : Int) (more10 : Int) : Option Bool :=
 if ((decide ((r_1.Rates.length : Int) > 70)) || (decide ((l_5.length : Int) > 60))) then ((m_wormtublaw11_awake).bind fun r_22 => some r_22) else ((m_excise_Play r_1 l_5 day9).bind fun r_25 => (m_excise_Late r_1 l_5 day9 more10).bind fun r_32 => if (r_25.2.2 != 0) then ((if ((r_32.2 == r_25.2.2) && ((r_32.1.length : Int) == 0)) then ((m_wormtublaw11_awake).bind fun r_44 => some r_44) else some false).bind fun z48 => some z48) else (if ((decide (r_25.2.1 < 0)) || (decide (r_25.2.1 > (l_5.length : Int)))) then (some false) else ((loopM (b_wormtublaw11_ExciseArrives_1 r_1 l_5 day9 r_25) (0, 0)).bind fun b0 => match b0 with | .inl b289 => (if (b289 != (r_25.1.Moving.length : Int)) then (some false) else (if (r_32.2 != 0) then ((if ((r_32.2 == 2) && ((r_32.1.length : Int) == 0)) then ((m_wormtublaw11_awake).bind fun r_303 => some r_303) else some false).bind fun z307 => some z307) else ((loopM (b_wormtublaw11_ExciseArrives_4 r_1 day9 more10 r_25 r_32) (0, 0)).bind fun b0 => match b0 with | .inl b357 => ((if (b357 == (r_32.1.length : Int)) then ((m_wormtublaw11_awake).bind fun r_365 => some r_365) else some false).bind fun z369 => some z369) | .inr b357 => (some b357)))) | .inr b289 => (some b289))))
set_option maxHeartbeats 4000000 in
theorem c_wormtublaw11_ExciseArrives (F0 : Fz) (r_1 : ApiDutyRules) (p2 : Option Addr) (k3 : Nat) (h4 : RepSl 2 (Ex cApiDutyRate) F0 p2 k3 r_1.Rates) (l_5 : (List ApiDutyEvent)) (p6 : Option Addr) (k7 : Nat) (h8 : RepSl 6 (Ex cApiDutyEvent) F0 p6 k7 l_5) (day9 : Int) (more10 : Int) : CT0 Try.prog 9 [(eApiDutyRules r_1 p2 k3), (.slice p6 l_5.length k7), (.int .i64 day9), (.int .i64 more10)].toArray F0 (m_wormtublaw11_ExciseArrives r_1 l_5 day9 more10) (fun r _ v => v = (.bool r)) := by
 refine CT0.enter Try.func9 rfl Try.ntmps9 rfl fun r R => ?_
 unfold m_wormtublaw11_ExciseArrives
 refine .seq ?_
 refine .region ?_
 refine .boxF (cs := (cApiDutyRules r_1 p2 k3)) rfl rfl rfl (fun b11 F_12 l_13 hb14 => ?_)
 refine .assign rfl rfl ?_
 refine .nil ?_
 refine .code ?_
 refine .seq ?_
 refine .seq ?_
 refine .region ?_
 refine .fieldAddr rfl Try.underlying24 rfl Try.sizeOf22 rfl ?_
 refine .loadF rfl Try.isAgg22 rfl hb14 rfl ?_
 refine .lenS rfl rfl Try.underlying22 rfl ?_
 refine .gtr rfl rfl rfl ?_
 refine .move rfl rfl ?_
 refine .orP (b := (decide ((r_1.Rates.length : Int) > 70))) (b' := (decide ((l_5.length : Int) > 60))) 4 31 (fun hb15 => ?_) (fun hb16 => ?_) (fun F_17 l_18 => ?_)
 ·skip
  refine .onH hb15 rfl rfl ?_
  refine .move rfl rfl ?_
  refine .onH hb15 rfl rfl ?_
  refine .lenS rfl rfl Try.underlying25 rfl ?_
  refine .onH hb15 rfl rfl ?_
  refine .gtr rfl rfl rfl ?_
  refine .pickFH hb15 rfl rfl rfl ?_
  exact .fin 4 rfl rfl (by kernel_rfl) (Fz.le_refl _)
 ·skip
  refine .offH hb16 rfl rfl rfl ?_
  refine .offH hb16 rfl rfl rfl ?_
  refine .offH hb16 rfl rfl rfl ?_
  refine .pickTH hb16 rfl rfl rfl ?_
  exact .fin 4 rfl rfl (by kernel_rfl) (Fz.le_refl _)
 refine .nil ?_
 refine .code ?_
 refine .cond rfl (fun hb19 => ?_) (fun hb19 => ?_)
 ·skip
  refine .seq ?_
  refine .region ?_
  refine .call0 rfl Try.call12 rfl rfl rfl (c_wormtublaw11_awake _ ) ?_
  rintro r_22 F_20 _ - l_21 rfl
  refine .assign rfl rfl ?_
  refine .nil ?_
  refine .code ?_
  exact .ret0 Try.results9 (.tmp rfl (.nil)) (i := 0) rfl (Fz.le_trans l_13 (Fz.le_trans l_18 l_21)) rfl
 ·skip
  refine .skip ?_
  refine .code ?_
  refine .seq ?_
  refine .region ?_
  refine .loadFA rfl Try.isAgg24 Try.sizeOf24 rfl (l_18.mem _ _ hb14) (vs := (cApiDutyRules r_1 p2 k3)) (by kernel_rfl) rfl ?_
  refine .move rfl rfl ?_
  refine .move rfl rfl ?_
  refine .call0 rfl Try.call13 rfl rfl rfl (c_excise_Play _ r_1 p2 k3 (h4.mono (Fz.le_trans l_13 l_18)) l_5 p6 k7 (h8.mono (Fz.le_trans l_13 l_18)) day9) ?_
  rintro r_25 F_23 _ - l_24 ⟨p26, k27, rfl, h28⟩
  refine .move rfl rfl ?_
  refine .extract rfl rfl rfl ?_
  refine .extract rfl rfl rfl ?_
  refine .extract rfl rfl rfl ?_
  refine .alloc (cs := (cApiDutyBook (ApiDutyBook.mk (fun _ => 0) ([]) 0 0 0 0 0 0 0 0) none 0)) rfl Try.zeroValue31 rfl (fun b29 => ?_)
  refine .store (cs' := (cApiDutyBook r_25.1 p26 k27)) Try.sizeOf31 rfl rfl rfl rfl (i := 0) rfl (Nat.le_of_ble_eq_true rfl) rfl (setMany_all (by rfl)) ?_
  refine .assign rfl rfl ?_
  refine .assign rfl rfl ?_
  refine .nil ?_
  refine .code ?_
  refine .seq ?_
  refine .region ?_
  refine .loadFA rfl Try.isAgg24 Try.sizeOf24 rfl ((Fz.le_trans l_18 l_24).mem _ _ hb14) (vs := (cApiDutyRules r_1 p2 k3)) (by kernel_rfl) rfl ?_
  refine .move rfl rfl ?_
  refine .move rfl rfl ?_
  refine .move rfl rfl ?_
  refine .call0 rfl Try.call20 rfl rfl rfl (c_excise_Late _ r_1 p2 k3 (h4.mono (Fz.le_trans l_13 (Fz.le_trans l_18 l_24))) l_5 p6 k7 (h8.mono (Fz.le_trans l_13 (Fz.le_trans l_18 l_24))) day9 more10) ?_
  rintro r_32 F_30 _ - l_31 ⟨p33, k34, rfl, h35⟩
  refine .move rfl rfl ?_
  refine .extract rfl rfl rfl ?_
  refine .extract rfl rfl rfl ?_
  refine .assign rfl rfl ?_
  refine .assign rfl rfl ?_
  refine .nil ?_
  refine .keep (.cons (k := 1) rfl (.cons (k := 2) rfl (.cons (k := 3) rfl (.cons (k := 4) rfl (.cons (k := 9) rfl (.cons (k := 10) rfl (.cons (k := 11) rfl (.cons (k := 12) rfl (.cons (k := 13) rfl (.nil _)))))))))) ?_
  refine .code ?_
  refine .seq ?_
  refine .seq ?_
  refine .region ?_
  refine .move rfl rfl ?_
  refine .neq rfl rfl rfl ?_
  refine .nil ?_
  refine .code ?_
  refine .cond rfl (fun hb36 => ?_) (fun hb36 => ?_)
  ·skip
   refine .seq ?_
   refine .region ?_
   refine .move rfl rfl ?_
   refine .move rfl rfl ?_
   refine .eql rfl rfl rfl ?_
   refine .move rfl rfl ?_
   refine .andP (b := (r_32.2 == r_25.2.2)) (b' := ((r_32.1.length : Int) == 0)) 4 58 (fun hb37 => ?_) (fun hb38 => ?_) (fun F_39 l_40 => ?_)
   ·skip
    refine .onH hb37 rfl rfl ?_
    refine .move rfl rfl ?_
    refine .onH hb37 rfl rfl ?_
    refine .lenS rfl rfl Try.underlying41 rfl ?_
    refine .onH hb37 rfl rfl ?_
    refine .eql rfl rfl rfl ?_
    refine .pickTH hb37 rfl rfl rfl ?_
    exact .fin 4 rfl rfl (by kernel_rfl) (Fz.le_refl _)
   ·skip
    refine .offH hb38 rfl rfl rfl ?_
    refine .offH hb38 rfl rfl rfl ?_
    refine .offH hb38 rfl rfl rfl ?_
    refine .pickFH hb38 rfl rfl rfl ?_
    exact .fin 4 rfl rfl (by kernel_rfl) (Fz.le_refl _)
   refine .move rfl rfl ?_
   refine .andM (b := ((r_32.2 == r_25.2.2) && ((r_32.1.length : Int) == 0))) 2 61 (fun hb41 z49 => ?_) (fun hb45 => ?_) (fun z48 F_46 l_47 => ?_)
   ·skip
    refine .onH hb41 rfl rfl ?_
    refine .call0 rfl Try.call12 rfl rfl rfl (c_wormtublaw11_awake _ ) ?_
    rintro r_44 F_42 _ - l_43 rfl
    refine .pickTH hb41 rfl rfl rfl ?_
    exact .finZ 2 rfl rfl (by kernel_rfl) l_43
   ·skip
    refine .offH hb45 rfl rfl rfl ?_
    refine .pickFH hb45 rfl rfl rfl ?_
    exact .fin 2 rfl rfl (by kernel_rfl) (Fz.le_refl _)
   refine .assign rfl rfl ?_
   refine .nil ?_
   refine .code ?_
   exact .ret0 Try.results9 (.tmp rfl (.nil)) (i := 1) rfl (Fz.le_trans l_13 (Fz.le_trans l_18 (Fz.le_trans l_24 (Fz.le_trans l_31 (Fz.le_trans l_40 l_47))))) rfl
  ·skip
   refine .skip ?_
   refine .code ?_
   refine .seq ?_
   refine .seq ?_
   refine .region ?_
   refine .move rfl rfl ?_
   refine .lss rfl rfl rfl ?_
   refine .move rfl rfl ?_
   refine .orP (b := (decide (r_25.2.1 < 0))) (b' := (decide (r_25.2.1 > (l_5.length : Int)))) 5 69 (fun hb50 => ?_) (fun hb51 => ?_) (fun F_52 l_53 => ?_)
   ·skip
    refine .onH hb50 rfl rfl ?_
    refine .move rfl rfl ?_
    refine .onH hb50 rfl rfl ?_
    refine .move rfl rfl ?_
    refine .onH hb50 rfl rfl ?_
    refine .lenS rfl rfl Try.underlying25 rfl ?_
    refine .onH hb50 rfl rfl ?_
    refine .gtr rfl rfl rfl ?_
    refine .pickFH hb50 rfl rfl rfl ?_
    exact .fin 5 rfl rfl (by kernel_rfl) (Fz.le_refl _)
   ·skip
    refine .offH hb51 rfl rfl rfl ?_
    refine .offH hb51 rfl rfl rfl ?_
    refine .offH hb51 rfl rfl rfl ?_
    refine .offH hb51 rfl rfl rfl ?_
    refine .pickTH hb51 rfl rfl rfl ?_
    exact .fin 5 rfl rfl (by kernel_rfl) (Fz.le_refl _)
   refine .nil ?_
   refine .code ?_
   refine .cond rfl (fun hb54 => ?_) (fun hb54 => ?_)
   ·skip
    refine .seq ?_
    refine .region ?_
    refine .assign rfl rfl ?_
    refine .nil ?_
    refine .code ?_
    exact .ret0 Try.results9 (.tmp rfl (.nil)) (i := 1) rfl (Fz.le_trans l_13 (Fz.le_trans l_18 (Fz.le_trans l_24 (Fz.le_trans l_31 l_53)))) rfl
   ·skip
    refine .skip ?_
    refine .code ?_
    refine .seq ?_
    refine .region ?_
    refine .assign rfl rfl ?_
    refine .nil ?_
    refine .code ?_
    refine .seq ?_
    refine .seq ?_
    refine .region ?_
    refine .assign rfl rfl ?_
    refine .nil ?_
    refine .code ?_
    refine .block ?_
    refine .keep (.cons (k := 1) rfl (.cons (k := 2) rfl (.cons (k := 3) rfl (.cons (k := 4) rfl (.cons (k := 9) rfl (.cons (k := 10) rfl (.cons (k := 12) rfl (.cons (k := 13) rfl (.cons (k := 14) rfl (.cons (k := 15) rfl (.nil _))))))))))) ?_
    refine .loop (fun (s55 : Int × Int) a w => ∃ (F_56 : Fz), F_52 ≤ F_56 ∧ Hd 267 [] [(1, (.slice p6 l_5.length k7)), (2, (.int .i64 day9)), (3, (.int .i64 more10)), (4, (.pointer (some ⟨b11, 0, none⟩))), (9, (.pointer (some ⟨b29, 0, none⟩))), (10, (.int .i64 r_25.2.1)), (12, (.slice p33 r_32.1.length k34)), (13, (.int .i64 r_32.2)), (14, (.int .i64 s55.1)), (15, (.int .i64 s55.2))] F_56 [pt b29 (.cells (cApiDutyBook r_25.1 p26 k27).toArray 31), R] a w) (fun b0 e a w => match b0 with | .inl b289 => e = .exit 0 ∧ ∃ (F_290 : Fz), F_52 ≤ F_290 ∧ Hd 267 [] [(2, (.int .i64 day9)), (3, (.int .i64 more10)), (4, (.pointer (some ⟨b11, 0, none⟩))), (9, (.pointer (some ⟨b29, 0, none⟩))), (12, (.slice p33 r_32.1.length k34)), (13, (.int .i64 r_32.2)), (14, (.int .i64 b289))] F_290 [pt b29 (.cells (cApiDutyBook r_25.1 p26 k27).toArray 31), R] a w | .inr b289 => e = .ret ∧ ∃ (F_292 : Fz), F_52 ≤ F_292 ∧ Hd 267 [] [(8, (.bool b289))] F_292 [R] a w) ?_ ?_ ?_
    ·exact fun a w h => ⟨F_52, (Fz.le_refl _), h.1.sub (.cons (k := 1) rfl (.cons (k := 2) rfl (.cons (k := 3) rfl (.cons (k := 4) rfl (.cons (k := 9) rfl (.cons (k := 10) rfl (.cons (k := 12) rfl (.cons (k := 13) rfl (.cons (k := 14) rfl (.cons (k := 15) rfl (.nil _))))))))))), h.2⟩
    ·intro s55 ctl
     refine GC.ex (fun a w ⟨F_56, l_57, hA⟩ => ⟨_, hA, ?_⟩)
     unfold b_wormtublaw11_ExciseArrives_1
     refine .seq ?_
     refine .seq ?_
     refine .region ?_
     refine .move rfl rfl ?_
     refine .move rfl rfl ?_
     refine .lss rfl rfl rfl ?_
     refine .nil ?_
     refine .code ?_
     refine .cond rfl (fun hb58 => ?_) (fun hb58 => ?_)
     ·skip
      refine .skip ?_
      refine .code ?_
      refine .seq ?_
      refine .block ?_
      refine .seq ?_
      refine .seq ?_
      refine .region ?_
      refine .move rfl rfl ?_
      refine .move rfl rfl ?_
      refine .idx rfl Try.underlying25 Try.sizeOf47 (h8.mono (Fz.le_trans l_13 (Fz.le_trans l_18 (Fz.le_trans l_24 (Fz.le_trans l_31 (Fz.le_trans l_53 l_57)))))) rfl rfl (fun x59 b60 o61 T62 fr63 cs64 e65 hm66 hv67 => ?_)
      refine .fieldAddr rfl Try.underlying47 rfl Try.sizeOf3 rfl ?_
      refine .loadF rfl Try.isAgg3 rfl hm66 (cell_of_take (k := 0) hv67 rfl) ?_
      refine .neq rfl rfl rfl ?_
      refine .nil ?_
      refine .code ?_
      refine .cond rfl (fun hb69 => ?_) (fun hb69 => ?_)
      ·skip
       refine .exit rfl ?_
       refine .code ?_
       refine .region ?_
       refine .move rfl rfl ?_
       refine .add rfl rfl rfl ?_
       refine .assignL rfl rfl (fun i70 e71 => ?_)
       refine .nil ?_
       exact .nil (LPost.norm fun a w h => ⟨F_56, l_57, h.1.sub (.cons (k := 1) rfl (.cons (k := 2) rfl (.cons (k := 3) rfl (.cons (k := 4) rfl (.cons (k := 9) rfl (.cons (k := 10) rfl (.cons (k := 12) rfl (.cons (k := 13) rfl (.cons (k := 14) rfl (.cons (k := 15) rfl (.nil _))))))))))), h.2⟩)
      ·skip
       refine .skip ?_
       refine .code ?_
       refine .seq ?_
       refine .keep (.cons (k := 1) rfl (.cons (k := 2) rfl (.cons (k := 3) rfl (.cons (k := 4) rfl (.cons (k := 9) rfl (.cons (k := 10) rfl (.cons (k := 12) rfl (.cons (k := 13) rfl (.cons (k := 14) rfl (.cons (k := 15) rfl (.nil _))))))))))) ?_
       refine .drawZ 12 mixedOK (by kernel_rfl) ?_
       refine .move rfl rfl ?_
       refine .move rfl rfl ?_
       refine .idx rfl Try.underlying25 Try.sizeOf47 (h8.mono (Fz.le_trans l_13 (Fz.le_trans l_18 (Fz.le_trans l_24 (Fz.le_trans l_31 (Fz.le_trans l_53 l_57)))))) rfl rfl (fun x72 b73 o74 T75 fr76 cs77 e78 hm79 hv80 => ?_)
       refine .fieldAddr rfl Try.underlying47 rfl Try.sizeOf3 rfl ?_
       refine .loadF rfl Try.isAgg3 rfl hm79 (cell_of_take (k := 1) hv80 rfl) ?_
       refine .fieldAddr rfl Try.underlying24 rfl Try.sizeOf3 rfl ?_
       refine .loadF rfl Try.isAgg3 rfl ((Fz.le_trans l_18 (Fz.le_trans l_24 (Fz.le_trans l_31 (Fz.le_trans l_53 l_57)))).mem _ _ hb14) rfl ?_
       refine .add rfl rfl rfl ?_
       refine .add rfl rfl rfl ?_
       refine .move rfl rfl ?_
       refine .gtr rfl rfl rfl ?_
       refine .assignB rfl rfl (fun here82 e83 => ?_)
       refine .pend ?_
       refine .nil ?_
       refine .code ?_
       refine .seq ?_
       refine .seq ?_
       refine .region ?_
       refine .move rfl rfl ?_
       refine .add rfl rfl rfl ?_
       refine .assignL rfl rfl (fun k84 e85 => ?_)
       refine .nil ?_
       refine .keep (.cons (k := 1) rfl (.cons (k := 2) rfl (.cons (k := 3) rfl (.cons (k := 4) rfl (.cons (k := 9) rfl (.cons (k := 10) rfl (.cons (k := 12) rfl (.cons (k := 13) rfl (.cons (k := 14) rfl (.cons (k := 15) rfl (.cons (k := 16) rfl (.cons (k := 17) rfl (.nil _))))))))))))) ?_
       refine .code ?_
       refine .block ?_
       refine .keep (.cons (k := 1) rfl (.cons (k := 2) rfl (.cons (k := 3) rfl (.cons (k := 4) rfl (.cons (k := 9) rfl (.cons (k := 10) rfl (.cons (k := 12) rfl (.cons (k := 13) rfl (.cons (k := 14) rfl (.cons (k := 15) rfl (.cons (k := 16) rfl (.cons (k := 17) rfl (.nil _))))))))))))) ?_
       refine .loop (fun (s86 : Bool × Int) a w => ∃ (F_87 : Fz), F_56 ≤ F_87 ∧ Hd 267 [] [(1, (.slice p6 l_5.length k7)), (2, (.int .i64 day9)), (3, (.int .i64 more10)), (4, (.pointer (some ⟨b11, 0, none⟩))), (9, (.pointer (some ⟨b29, 0, none⟩))), (10, (.int .i64 r_25.2.1)), (12, (.slice p33 r_32.1.length k34)), (13, (.int .i64 r_32.2)), (14, (.int .i64 s55.1)), (15, (.int .i64 s55.2)), (16, (.bool s86.1)), (17, (.int .i64 s86.2))] F_87 [pt b29 (.cells (cApiDutyBook r_25.1 p26 k27).toArray 31), R] a w) (fun b0 e a w => match b0 with | .inl b186 => e = .exit 2 ∧ ∃ (F_187 : Fz), F_56 ≤ F_187 ∧ Hd 267 [] [(1, (.slice p6 l_5.length k7)), (2, (.int .i64 day9)), (3, (.int .i64 more10)), (4, (.pointer (some ⟨b11, 0, none⟩))), (9, (.pointer (some ⟨b29, 0, none⟩))), (10, (.int .i64 r_25.2.1)), (12, (.slice p33 r_32.1.length k34)), (13, (.int .i64 r_32.2)), (14, (.int .i64 s55.1)), (15, (.int .i64 s55.2)), (16, (.bool b186))] F_187 [pt b29 (.cells (cApiDutyBook r_25.1 p26 k27).toArray 31), R] a w | .inr b186 => e = .ret ∧ ∃ (F_189 : Fz), F_56 ≤ F_189 ∧ Hd 267 [] [(8, (.bool b186))] F_189 [R] a w) ?_ ?_ ?_
       ·exact fun a w h => ⟨F_56, (Fz.le_refl _), h.1.sub (.cons (k := 1) rfl (.cons (k := 2) rfl (.cons (k := 3) rfl (.cons (k := 4) rfl (.cons (k := 9) rfl (.cons (k := 10) rfl (.cons (k := 12) rfl (.cons (k := 13) rfl (.cons (k := 14) rfl (.cons (k := 15) rfl (.cons (k := 16) rfl (.cons (k := 17) rfl (.nil _))))))))))))), h.2⟩
       ·intro s86 ctl
        refine GC.ex (fun a w ⟨F_87, l_88, hA⟩ => ⟨_, hA, ?_⟩)
        unfold b_wormtublaw11_ExciseArrives_2
        refine .seq ?_
        refine .seq ?_
        refine .region ?_
        refine .move rfl rfl ?_
        refine .move rfl rfl ?_
        refine .lss rfl rfl rfl ?_
        refine .nil ?_
        refine .code ?_
        refine .cond rfl (fun hb89 => ?_) (fun hb89 => ?_)
        ·skip
         refine .skip ?_
         refine .code ?_
         refine .seq ?_
         refine .block ?_
         refine .seq ?_
         refine .seq ?_
         refine .keep (.cons (k := 1) rfl (.cons (k := 2) rfl (.cons (k := 3) rfl (.cons (k := 4) rfl (.cons (k := 9) rfl (.cons (k := 10) rfl (.cons (k := 12) rfl (.cons (k := 13) rfl (.cons (k := 14) rfl (.cons (k := 15) rfl (.cons (k := 16) rfl (.cons (k := 17) rfl (.nil _))))))))))))) ?_
         refine .drawZ 11 mixedOK (by kernel_rfl) ?_
         refine .move rfl rfl ?_
         refine .move rfl rfl ?_
         refine .idx rfl Try.underlying25 Try.sizeOf47 (h8.mono (Fz.le_trans l_13 (Fz.le_trans l_18 (Fz.le_trans l_24 (Fz.le_trans l_31 (Fz.le_trans l_53 (Fz.le_trans l_57 l_88))))))) rfl rfl (fun x90 b91 o92 T93 fr94 cs95 e96 hm97 hv98 => ?_)
         refine .fieldAddr rfl Try.underlying47 rfl Try.sizeOf3 rfl ?_
         refine .loadF rfl Try.isAgg3 rfl hm97 (cell_of_take (k := 4) hv98 rfl) ?_
         refine .move rfl rfl ?_
         refine .move rfl rfl ?_
         refine .idx rfl Try.underlying25 Try.sizeOf47 (h8.mono (Fz.le_trans l_13 (Fz.le_trans l_18 (Fz.le_trans l_24 (Fz.le_trans l_31 (Fz.le_trans l_53 (Fz.le_trans l_57 l_88))))))) rfl rfl (fun x100 b101 o102 T103 fr104 cs105 e106 hm107 hv108 => ?_)
         refine .fieldAddr rfl Try.underlying47 rfl Try.sizeOf3 rfl ?_
         refine .loadF rfl Try.isAgg3 rfl hm107 (cell_of_take (k := 4) hv108 rfl) ?_
         refine .neq rfl rfl rfl ?_
         refine .pend ?_
         refine .nil ?_
         refine .code ?_
         refine .cond rfl (fun hb110 => ?_) (fun hb110 => ?_)
         ·skip
          refine .exit rfl ?_
          refine .code ?_
          refine .region ?_
          refine .move rfl rfl ?_
          refine .add rfl rfl rfl ?_
          refine .assignL rfl rfl (fun k111 e112 => ?_)
          refine .nil ?_
          exact .nil (LPost.norm fun a w h => ⟨F_87, l_88, h.1.sub (.cons (k := 1) rfl (.cons (k := 2) rfl (.cons (k := 3) rfl (.cons (k := 4) rfl (.cons (k := 9) rfl (.cons (k := 10) rfl (.cons (k := 12) rfl (.cons (k := 13) rfl (.cons (k := 14) rfl (.cons (k := 15) rfl (.cons (k := 16) rfl (.cons (k := 17) rfl (.nil _))))))))))))), h.2⟩)
         ·skip
          refine .skip ?_
          refine .code ?_
          refine .seq ?_
          refine .seq ?_
          refine .region ?_
          refine .move rfl rfl ?_
          refine .move rfl rfl ?_
          refine .idx rfl Try.underlying25 Try.sizeOf47 (h8.mono (Fz.le_trans l_13 (Fz.le_trans l_18 (Fz.le_trans l_24 (Fz.le_trans l_31 (Fz.le_trans l_53 (Fz.le_trans l_57 l_88))))))) rfl rfl (fun x113 b114 o115 T116 fr117 cs118 e119 hm120 hv121 => ?_)
          refine .fieldAddr rfl Try.underlying47 rfl Try.sizeOf3 rfl ?_
          refine .loadF rfl Try.isAgg3 rfl hm120 (cell_of_take (k := 0) hv121 rfl) ?_
          refine .eql rfl rfl rfl ?_
          refine .nil ?_
          refine .keep (.cons (k := 1) rfl (.cons (k := 2) rfl (.cons (k := 3) rfl (.cons (k := 4) rfl (.cons (k := 9) rfl (.cons (k := 10) rfl (.cons (k := 12) rfl (.cons (k := 13) rfl (.cons (k := 14) rfl (.cons (k := 15) rfl (.cons (k := 16) rfl (.cons (k := 17) rfl (.cons (k := 115) rfl (.nil _)))))))))))))) ?_
          refine .code ?_
          refine .cond rfl (fun hb123 => ?_) (fun hb123 => ?_)
          ·skip
           refine .seq ?_
           refine .region ?_
           refine .assign rfl rfl ?_
           refine .nil ?_
           refine .code ?_
           refine .drop 0 ?_
           refine .retQ (LPost.ret fun a w h => ⟨rfl, F_87, l_88, h.1.sub (.cons (k := 8) rfl (.nil _)), h.2⟩)
          ·skip
           refine .skip ?_
           refine .code ?_
           refine .seq ?_
           refine .region ?_
           refine .move rfl rfl ?_
           refine .move rfl rfl ?_
           refine .idx rfl Try.underlying25 Try.sizeOf47 (h8.mono (Fz.le_trans l_13 (Fz.le_trans l_18 (Fz.le_trans l_24 (Fz.le_trans l_31 (Fz.le_trans l_53 (Fz.le_trans l_57 l_88))))))) rfl rfl (fun x124 b125 o126 T127 fr128 cs129 e130 hm131 hv132 => ?_)
           refine .fieldAddr rfl Try.underlying47 rfl Try.sizeOf3 rfl ?_
           refine .loadF rfl Try.isAgg3 rfl hm131 (cell_of_take (k := 0) hv132 rfl) ?_
           refine .eql rfl rfl rfl ?_
           refine .nil ?_
           refine .code ?_
           refine .cond rfl (fun hb134 => ?_) (fun hb134 => ?_)
           ·skip
            refine .seq ?_
            refine .seq ?_
            refine .keep (.cons (k := 1) rfl (.cons (k := 2) rfl (.cons (k := 3) rfl (.cons (k := 4) rfl (.cons (k := 9) rfl (.cons (k := 10) rfl (.cons (k := 12) rfl (.cons (k := 13) rfl (.cons (k := 14) rfl (.cons (k := 15) rfl (.cons (k := 17) rfl (.nil _)))))))))))) ?_
            refine .drawZ 27 mixedOK (by kernel_rfl) ?_
            refine .move rfl rfl ?_
            refine .move rfl rfl ?_
            refine .idx rfl Try.underlying25 Try.sizeOf47 (h8.mono (Fz.le_trans l_13 (Fz.le_trans l_18 (Fz.le_trans l_24 (Fz.le_trans l_31 (Fz.le_trans l_53 (Fz.le_trans l_57 l_88))))))) rfl rfl (fun x135 b136 o137 T138 fr139 cs140 e141 hm142 hv143 => ?_)
            refine .fieldAddr rfl Try.underlying47 rfl Try.sizeOf3 rfl ?_
            refine .loadF rfl Try.isAgg3 rfl hm142 (cell_of_take (k := 1) hv143 rfl) ?_
            refine .move rfl rfl ?_
            refine .move rfl rfl ?_
            refine .idx rfl Try.underlying25 Try.sizeOf47 (h8.mono (Fz.le_trans l_13 (Fz.le_trans l_18 (Fz.le_trans l_24 (Fz.le_trans l_31 (Fz.le_trans l_53 (Fz.le_trans l_57 l_88))))))) rfl rfl (fun x145 b146 o147 T148 fr149 cs150 e151 hm152 hv153 => ?_)
            refine .fieldAddr rfl Try.underlying47 rfl Try.sizeOf3 rfl ?_
            refine .loadF rfl Try.isAgg3 rfl hm152 (cell_of_take (k := 1) hv153 rfl) ?_
            refine .fieldAddr rfl Try.underlying24 rfl Try.sizeOf3 rfl ?_
            refine .loadF rfl Try.isAgg3 rfl ((Fz.le_trans l_18 (Fz.le_trans l_24 (Fz.le_trans l_31 (Fz.le_trans l_53 (Fz.le_trans l_57 l_88))))).mem _ _ hb14) rfl ?_
            refine .add rfl rfl rfl ?_
            refine .gtr rfl rfl rfl ?_
            refine .move rfl rfl ?_
            refine .orM (b := (decide (x135.Day > (w64 (x145.Day + r_1.Transit))))) 12 148 (fun hb155 z180 => ?_) (fun hb176 => ?_) (fun z179 F_177 l_178 => ?_)
            ·skip
             refine .onH hb155 rfl rfl ?_
             refine .move rfl rfl ?_
             refine .onH hb155 rfl rfl ?_
             refine .move rfl rfl ?_
             refine .onH hb155 rfl rfl ?_
             refine .idx rfl Try.underlying25 Try.sizeOf47 (h8.mono (Fz.le_trans l_13 (Fz.le_trans l_18 (Fz.le_trans l_24 (Fz.le_trans l_31 (Fz.le_trans l_53 (Fz.le_trans l_57 l_88))))))) rfl rfl (fun x156 b157 o158 T159 fr160 cs161 e162 hm163 hv164 => ?_)
             refine .onH hb155 rfl rfl ?_
             refine .fieldAddr rfl Try.underlying47 rfl Try.sizeOf3 rfl ?_
             refine .onH hb155 rfl rfl ?_
             refine .loadF rfl Try.isAgg3 rfl hm163 (cell_of_take (k := 2) hv164 rfl) ?_
             refine .onH hb155 rfl rfl ?_
             refine .move rfl rfl ?_
             refine .onH hb155 rfl rfl ?_
             refine .move rfl rfl ?_
             refine .onH hb155 rfl rfl ?_
             refine .idx rfl Try.underlying25 Try.sizeOf47 (h8.mono (Fz.le_trans l_13 (Fz.le_trans l_18 (Fz.le_trans l_24 (Fz.le_trans l_31 (Fz.le_trans l_53 (Fz.le_trans l_57 l_88))))))) rfl rfl (fun x166 b167 o168 T169 fr170 cs171 e172 hm173 hv174 => ?_)
             refine .onH hb155 rfl rfl ?_
             refine .fieldAddr rfl Try.underlying47 rfl Try.sizeOf3 rfl ?_
             refine .onH hb155 rfl rfl ?_
             refine .loadF rfl Try.isAgg3 rfl hm173 (cell_of_take (k := 3) hv174 rfl) ?_
             refine .onH hb155 rfl rfl ?_
             refine .neq rfl rfl rfl ?_
             refine .pickFH hb155 rfl rfl rfl ?_
             exact .finZ 12 rfl rfl (by kernel_rfl) (Fz.le_refl _)
            ·skip
             refine .offH hb176 rfl rfl rfl ?_
             refine .offH hb176 rfl rfl rfl ?_
             refine .offH hb176 rfl rfl rfl ?_
             refine .offH hb176 rfl rfl rfl ?_
             refine .offH hb176 rfl rfl rfl ?_
             refine .offH hb176 rfl rfl rfl ?_
             refine .offH hb176 rfl rfl rfl ?_
             refine .offH hb176 rfl rfl rfl ?_
             refine .offH hb176 rfl rfl rfl ?_
             refine .offH hb176 rfl rfl rfl ?_
             refine .offH hb176 rfl rfl rfl ?_
             refine .pickTH hb176 rfl rfl rfl ?_
             exact .fin 12 rfl rfl (by kernel_rfl) (Fz.le_refl _)
            refine .pend ?_
            refine .nil ?_
            refine .keep (.cons (k := 1) rfl (.cons (k := 2) rfl (.cons (k := 3) rfl (.cons (k := 4) rfl (.cons (k := 9) rfl (.cons (k := 10) rfl (.cons (k := 12) rfl (.cons (k := 13) rfl (.cons (k := 14) rfl (.cons (k := 15) rfl (.cons (k := 17) rfl (.cons (k := 148) rfl (.nil _))))))))))))) ?_
            refine .code ?_
            refine .cond rfl (fun hb181 => ?_) (fun hb181 => ?_)
            ·skip
             refine .seq ?_
             refine .region ?_
             refine .assign rfl rfl ?_
             refine .nil ?_
             refine .code ?_
             refine .drop 0 ?_
             refine .retQ (LPost.ret fun a w h => ⟨rfl, F_177, (Fz.le_trans l_88 l_178), h.1.sub (.cons (k := 8) rfl (.nil _)), h.2⟩)
            ·skip
             refine .skip ?_
             refine .code ?_
             refine .region ?_
             refine .assign rfl rfl ?_
             refine .nil ?_
             refine .block ?_
             refine .code ?_
             refine .region ?_
             refine .move rfl rfl ?_
             refine .add rfl rfl rfl ?_
             refine .assignL rfl rfl (fun k182 e183 => ?_)
             refine .nil ?_
             exact .nil (LPost.norm fun a w h => ⟨F_177, (Fz.le_trans l_88 l_178), h.1.sub (.cons (k := 1) rfl (.cons (k := 2) rfl (.cons (k := 3) rfl (.cons (k := 4) rfl (.cons (k := 9) rfl (.cons (k := 10) rfl (.cons (k := 12) rfl (.cons (k := 13) rfl (.cons (k := 14) rfl (.cons (k := 15) rfl (.cons (k := 16) rfl (.cons (k := 17) rfl (.nil _))))))))))))), h.2⟩)
           ·skip
            refine .skip ?_
            refine .block ?_
            refine .code ?_
            refine .region ?_
            refine .move rfl rfl ?_
            refine .add rfl rfl rfl ?_
            refine .assignL rfl rfl (fun k184 e185 => ?_)
            refine .nil ?_
            exact .nil (LPost.norm fun a w h => ⟨F_87, l_88, h.1.sub (.cons (k := 1) rfl (.cons (k := 2) rfl (.cons (k := 3) rfl (.cons (k := 4) rfl (.cons (k := 9) rfl (.cons (k := 10) rfl (.cons (k := 12) rfl (.cons (k := 13) rfl (.cons (k := 14) rfl (.cons (k := 15) rfl (.cons (k := 16) rfl (.cons (k := 17) rfl (.nil _))))))))))))), h.2⟩)
        ·skip
         refine .exitOut rfl (LPost.exit fun a w h => ⟨rfl, F_87, l_88, h.1.sub (.cons (k := 1) rfl (.cons (k := 2) rfl (.cons (k := 3) rfl (.cons (k := 4) rfl (.cons (k := 9) rfl (.cons (k := 10) rfl (.cons (k := 12) rfl (.cons (k := 13) rfl (.cons (k := 14) rfl (.cons (k := 15) rfl (.cons (k := 16) rfl (.nil _)))))))))))), h.2⟩)
       ·intro b186 hb0 hk e a w hD
        rcases b186 with b186 | b186
        ·skip
         obtain ⟨rfl, F_187, l_188, hA⟩ := hD
         refine interp_exit rfl (GE.app ?_ hk a w hA)
         refine .code ?_
         refine .seq ?_
         refine .region ?_
         refine .assign rfl rfl ?_
         refine .nil ?_
         refine .code ?_
         refine .seq ?_
         refine .seq ?_
         refine .region ?_
         refine .assign rfl rfl ?_
         refine .nil ?_
         refine .code ?_
         refine .block ?_
         refine .keep (.cons (k := 1) rfl (.cons (k := 2) rfl (.cons (k := 3) rfl (.cons (k := 4) rfl (.cons (k := 9) rfl (.cons (k := 10) rfl (.cons (k := 12) rfl (.cons (k := 13) rfl (.cons (k := 14) rfl (.cons (k := 15) rfl (.cons (k := 16) rfl (.cons (k := 18) rfl (.cons (k := 19) rfl (.nil _)))))))))))))) ?_
         refine .loop (fun (s191 : Bool × Int) a w => ∃ (F_192 : Fz), F_187 ≤ F_192 ∧ Hd 267 [] [(1, (.slice p6 l_5.length k7)), (2, (.int .i64 day9)), (3, (.int .i64 more10)), (4, (.pointer (some ⟨b11, 0, none⟩))), (9, (.pointer (some ⟨b29, 0, none⟩))), (10, (.int .i64 r_25.2.1)), (12, (.slice p33 r_32.1.length k34)), (13, (.int .i64 r_32.2)), (14, (.int .i64 s55.1)), (15, (.int .i64 s55.2)), (16, (.bool b186)), (18, (.bool s191.1)), (19, (.int .i64 s191.2))] F_192 [pt b29 (.cells (cApiDutyBook r_25.1 p26 k27).toArray 31), R] a w) (fun b277 e a w => e = .exit 4 ∧ ∃ (F_278 : Fz), F_187 ≤ F_278 ∧ Hd 267 [] [(1, (.slice p6 l_5.length k7)), (2, (.int .i64 day9)), (3, (.int .i64 more10)), (4, (.pointer (some ⟨b11, 0, none⟩))), (9, (.pointer (some ⟨b29, 0, none⟩))), (10, (.int .i64 r_25.2.1)), (12, (.slice p33 r_32.1.length k34)), (13, (.int .i64 r_32.2)), (14, (.int .i64 s55.1)), (15, (.int .i64 s55.2)), (16, (.bool b186)), (18, (.bool b277))] F_278 [pt b29 (.cells (cApiDutyBook r_25.1 p26 k27).toArray 31), R] a w) ?_ ?_ ?_
         ·exact fun a w h => ⟨F_187, (Fz.le_refl _), h.1.sub (.cons (k := 1) rfl (.cons (k := 2) rfl (.cons (k := 3) rfl (.cons (k := 4) rfl (.cons (k := 9) rfl (.cons (k := 10) rfl (.cons (k := 12) rfl (.cons (k := 13) rfl (.cons (k := 14) rfl (.cons (k := 15) rfl (.cons (k := 16) rfl (.cons (k := 18) rfl (.cons (k := 19) rfl (.nil _)))))))))))))), h.2⟩
         ·intro s191 ctl
          refine GC.ex (fun a w ⟨F_192, l_193, hA⟩ => ⟨_, hA, ?_⟩)
          unfold b_wormtublaw11_ExciseArrives_3
          refine .seq ?_
          refine .seq ?_
          refine .region ?_
          refine .move rfl rfl ?_
          refine .fieldAddr rfl Try.underlying31 rfl Try.sizeOf29 rfl ?_
          refine .loadO rfl Try.isAgg29 rfl (i := 0) rfl rfl ?_
          refine .lenS rfl rfl Try.underlying29 rfl ?_
          refine .lss rfl rfl rfl ?_
          refine .nil ?_
          refine .code ?_
          refine .cond rfl (fun hb194 => ?_) (fun hb194 => ?_)
          ·skip
           refine .skip ?_
           refine .code ?_
           refine .seq ?_
           refine .keep (.cons (k := 1) rfl (.cons (k := 2) rfl (.cons (k := 3) rfl (.cons (k := 4) rfl (.cons (k := 9) rfl (.cons (k := 10) rfl (.cons (k := 12) rfl (.cons (k := 13) rfl (.cons (k := 14) rfl (.cons (k := 15) rfl (.cons (k := 16) rfl (.cons (k := 18) rfl (.cons (k := 19) rfl (.nil _)))))))))))))) ?_
           refine GC.join0 (σ := Bool) (fun j272 a w => ∃ (F_273 : Fz), F_192 ≤ F_273 ∧ Hd 267 [] [(1, (.slice p6 l_5.length k7)), (2, (.int .i64 day9)), (3, (.int .i64 more10)), (4, (.pointer (some ⟨b11, 0, none⟩))), (9, (.pointer (some ⟨b29, 0, none⟩))), (10, (.int .i64 r_25.2.1)), (12, (.slice p33 r_32.1.length k34)), (13, (.int .i64 r_32.2)), (14, (.int .i64 s55.1)), (15, (.int .i64 s55.2)), (16, (.bool b186)), (18, (.bool j272)), (19, (.int .i64 s191.2))] F_273 [pt b29 (.cells (cApiDutyBook r_25.1 p26 k27).toArray 31), R] a w) (fun sj => ?_) (fun j272 hs0 => GE.ex (fun a w ⟨F_273, l_274, hA⟩ => ⟨_, hA, ?_⟩))
           ·skip
            refine .block ?_
            refine .seq ?_
            refine .region ?_
            refine .fieldAddr rfl Try.underlying31 rfl Try.sizeOf29 rfl ?_
            refine .loadO rfl Try.isAgg29 rfl (i := 0) rfl rfl ?_
            refine .move rfl rfl ?_
            refine .idx rfl Try.underlying29 Try.sizeOf49 (h28.mono (Fz.le_trans l_31 (Fz.le_trans l_53 (Fz.le_trans l_57 (Fz.le_trans l_188 l_193))))) rfl rfl (fun x195 b196 o197 T198 fr199 cs200 e201 hm202 hv203 => ?_)
            refine .loadFA rfl Try.isAgg49 Try.sizeOf49 rfl hm202 hv203 rfl ?_
            refine .alloc (cs := (cApiParcel (ApiParcel.mk 0 0 0 0 0))) rfl Try.zeroValue49 rfl (fun b205 => ?_)
            refine .store (cs' := (cApiParcel x195)) Try.sizeOf49 rfl rfl rfl rfl (i := 0) rfl (Nat.le_of_ble_eq_true rfl) rfl (setMany_all (by rfl)) ?_
            refine .nil ?_
            refine .code ?_
            refine .seq ?_
            refine .keep (.cons (k := 1) rfl (.cons (k := 2) rfl (.cons (k := 3) rfl (.cons (k := 4) rfl (.cons (k := 9) rfl (.cons (k := 10) rfl (.cons (k := 12) rfl (.cons (k := 13) rfl (.cons (k := 14) rfl (.cons (k := 15) rfl (.cons (k := 16) rfl (.cons (k := 18) rfl (.cons (k := 19) rfl (.cons (k := 20) rfl (.nil _))))))))))))))) ?_
            refine .drawZ 8 mixedOK (by kernel_rfl) ?_
            refine .fieldAddr rfl Try.underlying49 rfl Try.sizeOf3 rfl ?_
            refine .loadO rfl Try.isAgg3 rfl (i := 0) rfl rfl ?_
            refine .move rfl rfl ?_
            refine .move rfl rfl ?_
            refine .idx rfl Try.underlying25 Try.sizeOf47 (h8.mono (Fz.le_trans l_13 (Fz.le_trans l_18 (Fz.le_trans l_24 (Fz.le_trans l_31 (Fz.le_trans l_53 (Fz.le_trans l_57 (Fz.le_trans l_188 l_193)))))))) rfl rfl (fun x206 b207 o208 T209 fr210 cs211 e212 hm213 hv214 => ?_)
            refine .fieldAddr rfl Try.underlying47 rfl Try.sizeOf3 rfl ?_
            refine .loadF rfl Try.isAgg3 rfl hm213 (cell_of_take (k := 4) hv214 rfl) ?_
            refine .eql rfl rfl rfl ?_
            refine .pend ?_
            refine .nil ?_
            refine .code ?_
            refine .keep (.cons (k := 1) rfl (.cons (k := 2) rfl (.cons (k := 3) rfl (.cons (k := 4) rfl (.cons (k := 9) rfl (.cons (k := 10) rfl (.cons (k := 12) rfl (.cons (k := 13) rfl (.cons (k := 14) rfl (.cons (k := 15) rfl (.cons (k := 16) rfl (.cons (k := 18) rfl (.cons (k := 19) rfl (.cons (k := 20) rfl (.cons (k := 168) rfl (.nil _)))))))))))))))) ?_
            refine GC.join0 (σ := Bool) (fun j269 a w => ∃ (F_270 : Fz), F_192 ≤ F_270 ∧ Hd 267 [] [(1, (.slice p6 l_5.length k7)), (2, (.int .i64 day9)), (3, (.int .i64 more10)), (4, (.pointer (some ⟨b11, 0, none⟩))), (9, (.pointer (some ⟨b29, 0, none⟩))), (10, (.int .i64 r_25.2.1)), (12, (.slice p33 r_32.1.length k34)), (13, (.int .i64 r_32.2)), (14, (.int .i64 s55.1)), (15, (.int .i64 s55.2)), (16, (.bool b186)), (18, (.bool j269)), (19, (.int .i64 s191.2))] F_270 [pt b205 (.cells (cApiParcel x195).toArray 49), pt b29 (.cells (cApiDutyBook r_25.1 p26 k27).toArray 31), R] a w) (fun sj => ?_) (fun j269 hs0 => GE.ex (fun a w ⟨F_270, l_271, hA⟩ => ⟨_, hA, ?_⟩))
            ·skip
             refine .cond rfl (fun hb216 => ?_) (fun hb216 => ?_)
             ·skip
              refine .keep (.cons (k := 1) rfl (.cons (k := 2) rfl (.cons (k := 3) rfl (.cons (k := 4) rfl (.cons (k := 9) rfl (.cons (k := 10) rfl (.cons (k := 12) rfl (.cons (k := 13) rfl (.cons (k := 14) rfl (.cons (k := 15) rfl (.cons (k := 16) rfl (.cons (k := 19) rfl (.cons (k := 20) rfl (.nil _)))))))))))))) ?_
              refine .drawZ 29 mixedOK (by kernel_rfl) ?_
              refine .loadOA rfl Try.isAgg49 Try.sizeOf49 rfl (i := 0) rfl (vs := (cApiParcel x195)) (by kernel_rfl) rfl ?_
              refine .move rfl rfl ?_
              refine .move rfl rfl ?_
              refine .idx rfl Try.underlying25 Try.sizeOf47 (h8.mono (Fz.le_trans l_13 (Fz.le_trans l_18 (Fz.le_trans l_24 (Fz.le_trans l_31 (Fz.le_trans l_53 (Fz.le_trans l_57 (Fz.le_trans l_188 l_193)))))))) rfl rfl (fun x217 b218 o219 T220 fr221 cs222 e223 hm224 hv225 => ?_)
              refine .fieldAddr rfl Try.underlying47 rfl Try.sizeOf3 rfl ?_
              refine .loadF rfl Try.isAgg3 rfl hm224 (cell_of_take (k := 4) hv225 rfl) ?_
              refine .move rfl rfl ?_
              refine .move rfl rfl ?_
              refine .idx rfl Try.underlying25 Try.sizeOf47 (h8.mono (Fz.le_trans l_13 (Fz.le_trans l_18 (Fz.le_trans l_24 (Fz.le_trans l_31 (Fz.le_trans l_53 (Fz.le_trans l_57 (Fz.le_trans l_188 l_193)))))))) rfl rfl (fun x227 b228 o229 T230 fr231 cs232 e233 hm234 hv235 => ?_)
              refine .fieldAddr rfl Try.underlying47 rfl Try.sizeOf3 rfl ?_
              refine .loadF rfl Try.isAgg3 rfl hm234 (cell_of_take (k := 2) hv235 rfl) ?_
              refine .move rfl rfl ?_
              refine .move rfl rfl ?_
              refine .idx rfl Try.underlying25 Try.sizeOf47 (h8.mono (Fz.le_trans l_13 (Fz.le_trans l_18 (Fz.le_trans l_24 (Fz.le_trans l_31 (Fz.le_trans l_53 (Fz.le_trans l_57 (Fz.le_trans l_188 l_193)))))))) rfl rfl (fun x237 b238 o239 T240 fr241 cs242 e243 hm244 hv245 => ?_)
              refine .fieldAddr rfl Try.underlying47 rfl Try.sizeOf3 rfl ?_
              refine .loadF rfl Try.isAgg3 rfl hm244 (cell_of_take (k := 3) hv245 rfl) ?_
              refine .move rfl rfl ?_
              refine .move rfl rfl ?_
              refine .idx rfl Try.underlying25 Try.sizeOf47 (h8.mono (Fz.le_trans l_13 (Fz.le_trans l_18 (Fz.le_trans l_24 (Fz.le_trans l_31 (Fz.le_trans l_53 (Fz.le_trans l_57 (Fz.le_trans l_188 l_193)))))))) rfl rfl (fun x247 b248 o249 T250 fr251 cs252 e253 hm254 hv255 => ?_)
              refine .fieldAddr rfl Try.underlying47 rfl Try.sizeOf3 rfl ?_
              refine .loadF rfl Try.isAgg3 rfl hm254 (cell_of_take (k := 1) hv255 rfl) ?_
              refine .move rfl rfl ?_
              refine .move rfl rfl ?_
              refine .idx rfl Try.underlying25 Try.sizeOf47 (h8.mono (Fz.le_trans l_13 (Fz.le_trans l_18 (Fz.le_trans l_24 (Fz.le_trans l_31 (Fz.le_trans l_53 (Fz.le_trans l_57 (Fz.le_trans l_188 l_193)))))))) rfl rfl (fun x257 b258 o259 T260 fr261 cs262 e263 hm264 hv265 => ?_)
              refine .fieldAddr rfl Try.underlying47 rfl Try.sizeOf3 rfl ?_
              refine .loadF rfl Try.isAgg3 rfl hm264 (cell_of_take (k := 5) hv265 rfl) ?_
              refine .build (cs := (cApiParcel (ApiParcel.mk x217.Id x227.Bond x237.To x247.Day x257.Amount)).toArray) rfl Try.underlying49 Try.zeroValue49 (plApiParcel _ Try.underlying49) rfl rfl (by kernel_rfl) ?_
              refine .eqlR rfl Try.eqGuardType49 (fun w => req_49 x195 (ApiParcel.mk x217.Id x227.Bond x237.To x247.Day x257.Amount) w) rfl rfl ?_
              refine .assignB rfl rfl (fun found267 e268 => ?_)
              refine .pend ?_
              refine .nil ?_
              exact .nil fun e a w h => by cases e; exact ⟨rfl, ⟨F_192, (Fz.le_refl _), h.1.sub (.cons (k := 1) rfl (.cons (k := 2) rfl (.cons (k := 3) rfl (.cons (k := 4) rfl (.cons (k := 9) rfl (.cons (k := 10) rfl (.cons (k := 12) rfl (.cons (k := 13) rfl (.cons (k := 14) rfl (.cons (k := 15) rfl (.cons (k := 16) rfl (.cons (k := 18) rfl (.cons (k := 19) rfl (.nil _)))))))))))))), h.2⟩⟩
             ·skip
              refine .skip ?_
              exact .nil fun e a w h => by cases e; exact ⟨rfl, ⟨F_192, (Fz.le_refl _), h.1.sub (.cons (k := 1) rfl (.cons (k := 2) rfl (.cons (k := 3) rfl (.cons (k := 4) rfl (.cons (k := 9) rfl (.cons (k := 10) rfl (.cons (k := 12) rfl (.cons (k := 13) rfl (.cons (k := 14) rfl (.cons (k := 15) rfl (.cons (k := 16) rfl (.cons (k := 18) rfl (.cons (k := 19) rfl (.nil _)))))))))))))), h.2⟩⟩
            refine .block ?_
            refine .drop 0 ?_
            exact .nil fun e a w h => by cases e; exact ⟨rfl, ⟨F_270, l_271, h.1.sub (.cons (k := 1) rfl (.cons (k := 2) rfl (.cons (k := 3) rfl (.cons (k := 4) rfl (.cons (k := 9) rfl (.cons (k := 10) rfl (.cons (k := 12) rfl (.cons (k := 13) rfl (.cons (k := 14) rfl (.cons (k := 15) rfl (.cons (k := 16) rfl (.cons (k := 18) rfl (.cons (k := 19) rfl (.nil _)))))))))))))), h.2⟩⟩
           refine .code ?_
           refine .region ?_
           refine .move rfl rfl ?_
           refine .add rfl rfl rfl ?_
           refine .assignL rfl rfl (fun k275 e276 => ?_)
           refine .nil ?_
           exact .nil (LPost.norm fun a w h => ⟨F_273, (Fz.le_trans l_193 l_274), h.1.sub (.cons (k := 1) rfl (.cons (k := 2) rfl (.cons (k := 3) rfl (.cons (k := 4) rfl (.cons (k := 9) rfl (.cons (k := 10) rfl (.cons (k := 12) rfl (.cons (k := 13) rfl (.cons (k := 14) rfl (.cons (k := 15) rfl (.cons (k := 16) rfl (.cons (k := 18) rfl (.cons (k := 19) rfl (.nil _)))))))))))))), h.2⟩)
          ·skip
           refine .exitOut rfl (LPost.exit fun a w h => ⟨rfl, F_192, l_193, h.1.sub (.cons (k := 1) rfl (.cons (k := 2) rfl (.cons (k := 3) rfl (.cons (k := 4) rfl (.cons (k := 9) rfl (.cons (k := 10) rfl (.cons (k := 12) rfl (.cons (k := 13) rfl (.cons (k := 14) rfl (.cons (k := 15) rfl (.cons (k := 16) rfl (.cons (k := 18) rfl (.nil _))))))))))))), h.2⟩)
         ·intro b277 hb0 hk e a w hD
          obtain ⟨rfl, F_278, l_279, hA⟩ := hD
          refine interp_exit rfl (GE.app ?_ hk a w hA)
          refine .code ?_
          refine .seq ?_
          refine .seq ?_
          refine .region ?_
          refine .move rfl rfl ?_
          refine .move rfl rfl ?_
          refine .neqB rfl Try.underlying4 rfl rfl ?_
          refine .nil ?_
          refine .code ?_
          refine .cond rfl (fun hb280 => ?_) (fun hb280 => ?_)
          ·skip
           refine .seq ?_
           refine .region ?_
           refine .assign rfl rfl ?_
           refine .nil ?_
           refine .code ?_
           refine .drop 0 ?_
           refine .retQ (LPost.ret fun a w h => ⟨rfl, F_278, (Fz.le_trans l_57 (Fz.le_trans l_188 l_279)), h.1.sub (.cons (k := 8) rfl (.nil _)), h.2⟩)
          ·skip
           refine .skip ?_
           refine .code ?_
           refine .seq ?_
           refine .region ?_
           refine .move rfl rfl ?_
           refine .nil ?_
           refine .code ?_
           refine .keep (.cons (k := 1) rfl (.cons (k := 2) rfl (.cons (k := 3) rfl (.cons (k := 4) rfl (.cons (k := 9) rfl (.cons (k := 10) rfl (.cons (k := 12) rfl (.cons (k := 13) rfl (.cons (k := 14) rfl (.cons (k := 15) rfl (.cons (k := 200) rfl (.nil _)))))))))))) ?_
           refine GC.join0 (σ := Int) (fun j284 a w => ∃ (F_285 : Fz), F_278 ≤ F_285 ∧ Hd 267 [] [(1, (.slice p6 l_5.length k7)), (2, (.int .i64 day9)), (3, (.int .i64 more10)), (4, (.pointer (some ⟨b11, 0, none⟩))), (9, (.pointer (some ⟨b29, 0, none⟩))), (10, (.int .i64 r_25.2.1)), (12, (.slice p33 r_32.1.length k34)), (13, (.int .i64 r_32.2)), (14, (.int .i64 j284)), (15, (.int .i64 s55.2))] F_285 [pt b29 (.cells (cApiDutyBook r_25.1 p26 k27).toArray 31), R] a w) (fun sj => ?_) (fun j284 hs0 => GE.ex (fun a w ⟨F_285, l_286, hA⟩ => ⟨_, hA, ?_⟩))
           ·skip
            refine .cond rfl (fun hb281 => ?_) (fun hb281 => ?_)
            ·skip
             refine .region ?_
             refine .move rfl rfl ?_
             refine .add rfl rfl rfl ?_
             refine .assignL rfl rfl (fun moving282 e283 => ?_)
             refine .nil ?_
             exact .nil fun e a w h => by cases e; exact ⟨rfl, ⟨F_278, (Fz.le_refl _), h.1.sub (.cons (k := 1) rfl (.cons (k := 2) rfl (.cons (k := 3) rfl (.cons (k := 4) rfl (.cons (k := 9) rfl (.cons (k := 10) rfl (.cons (k := 12) rfl (.cons (k := 13) rfl (.cons (k := 14) rfl (.cons (k := 15) rfl (.nil _))))))))))), h.2⟩⟩
            ·skip
             refine .skip ?_
             exact .nil fun e a w h => by cases e; exact ⟨rfl, ⟨F_278, (Fz.le_refl _), h.1.sub (.cons (k := 1) rfl (.cons (k := 2) rfl (.cons (k := 3) rfl (.cons (k := 4) rfl (.cons (k := 9) rfl (.cons (k := 10) rfl (.cons (k := 12) rfl (.cons (k := 13) rfl (.cons (k := 14) rfl (.cons (k := 15) rfl (.nil _))))))))))), h.2⟩⟩
           refine .block ?_
           refine .code ?_
           refine .region ?_
           refine .move rfl rfl ?_
           refine .add rfl rfl rfl ?_
           refine .assignL rfl rfl (fun i287 e288 => ?_)
           refine .nil ?_
           exact .nil (LPost.norm fun a w h => ⟨F_285, (Fz.le_trans l_57 (Fz.le_trans l_188 (Fz.le_trans l_279 l_286))), h.1.sub (.cons (k := 1) rfl (.cons (k := 2) rfl (.cons (k := 3) rfl (.cons (k := 4) rfl (.cons (k := 9) rfl (.cons (k := 10) rfl (.cons (k := 12) rfl (.cons (k := 13) rfl (.cons (k := 14) rfl (.cons (k := 15) rfl (.nil _))))))))))), h.2⟩)
        obtain ⟨rfl, F_189, l_190, hA⟩ := hD
        exact interp_ret ((LPost.ret fun a w h => ⟨rfl, F_189, (Fz.le_trans l_57 l_190), h.1.sub (.cons (k := 8) rfl (.nil _)), h.2⟩) hk a w hA)
     ·skip
      refine .exitOut rfl (LPost.exit fun a w h => ⟨rfl, F_56, l_57, h.1.sub (.cons (k := 2) rfl (.cons (k := 3) rfl (.cons (k := 4) rfl (.cons (k := 9) rfl (.cons (k := 12) rfl (.cons (k := 13) rfl (.cons (k := 14) rfl (.nil _)))))))), h.2⟩)
    ·intro b289 hb0 hk e a w hD
     rcases b289 with b289 | b289
     ·skip
      obtain ⟨rfl, F_290, l_291, hA⟩ := hD
      refine interp_exit rfl (GE.app ?_ hk a w hA)
      refine .code ?_
      refine .seq ?_
      refine .seq ?_
      refine .region ?_
      refine .move rfl rfl ?_
      refine .fieldAddr rfl Try.underlying31 rfl Try.sizeOf29 rfl ?_
      refine .loadO rfl Try.isAgg29 rfl (i := 0) rfl rfl ?_
      refine .lenS rfl rfl Try.underlying29 rfl ?_
      refine .neq rfl rfl rfl ?_
      refine .nil ?_
      refine .code ?_
      refine .cond rfl (fun hb294 => ?_) (fun hb294 => ?_)
      ·skip
       refine .seq ?_
       refine .region ?_
       refine .assign rfl rfl ?_
       refine .nil ?_
       refine .code ?_
       exact .ret0 Try.results9 (.tmp rfl (.nil)) (i := 1) rfl (Fz.le_trans l_13 (Fz.le_trans l_18 (Fz.le_trans l_24 (Fz.le_trans l_31 (Fz.le_trans l_53 l_291))))) rfl
      ·skip
       refine .skip ?_
       refine .code ?_
       refine .seq ?_
       refine .seq ?_
       refine .region ?_
       refine .move rfl rfl ?_
       refine .neq rfl rfl rfl ?_
       refine .nil ?_
       refine .code ?_
       refine .cond rfl (fun hb295 => ?_) (fun hb295 => ?_)
       ·skip
        refine .seq ?_
        refine .region ?_
        refine .move rfl rfl ?_
        refine .eql rfl rfl rfl ?_
        refine .move rfl rfl ?_
        refine .andP (b := (r_32.2 == 2)) (b' := ((r_32.1.length : Int) == 0)) 4 216 (fun hb296 => ?_) (fun hb297 => ?_) (fun F_298 l_299 => ?_)
        ·skip
         refine .onH hb296 rfl rfl ?_
         refine .move rfl rfl ?_
         refine .onH hb296 rfl rfl ?_
         refine .lenS rfl rfl Try.underlying41 rfl ?_
         refine .onH hb296 rfl rfl ?_
         refine .eql rfl rfl rfl ?_
         refine .pickTH hb296 rfl rfl rfl ?_
         exact .fin 4 rfl rfl (by kernel_rfl) (Fz.le_refl _)
        ·skip
         refine .offH hb297 rfl rfl rfl ?_
         refine .offH hb297 rfl rfl rfl ?_
         refine .offH hb297 rfl rfl rfl ?_
         refine .pickFH hb297 rfl rfl rfl ?_
         exact .fin 4 rfl rfl (by kernel_rfl) (Fz.le_refl _)
        refine .move rfl rfl ?_
        refine .andM (b := ((r_32.2 == 2) && ((r_32.1.length : Int) == 0))) 2 219 (fun hb300 z308 => ?_) (fun hb304 => ?_) (fun z307 F_305 l_306 => ?_)
        ·skip
         refine .onH hb300 rfl rfl ?_
         refine .call0 rfl Try.call12 rfl rfl rfl (c_wormtublaw11_awake _ ) ?_
         rintro r_303 F_301 _ - l_302 rfl
         refine .pickTH hb300 rfl rfl rfl ?_
         exact .finZ 2 rfl rfl (by kernel_rfl) l_302
        ·skip
         refine .offH hb304 rfl rfl rfl ?_
         refine .pickFH hb304 rfl rfl rfl ?_
         exact .fin 2 rfl rfl (by kernel_rfl) (Fz.le_refl _)
        refine .assign rfl rfl ?_
        refine .nil ?_
        refine .code ?_
        exact .ret0 Try.results9 (.tmp rfl (.nil)) (i := 1) rfl (Fz.le_trans l_13 (Fz.le_trans l_18 (Fz.le_trans l_24 (Fz.le_trans l_31 (Fz.le_trans l_53 (Fz.le_trans l_291 (Fz.le_trans l_299 l_306))))))) rfl
       ·skip
        refine .skip ?_
        refine .code ?_
        refine .seq ?_
        refine .region ?_
        refine .assign rfl rfl ?_
        refine .nil ?_
        refine .code ?_
        refine .seq ?_
        refine .seq ?_
        refine .region ?_
        refine .assign rfl rfl ?_
        refine .nil ?_
        refine .code ?_
        refine .block ?_
        refine .keep (.cons (k := 2) rfl (.cons (k := 3) rfl (.cons (k := 4) rfl (.cons (k := 9) rfl (.cons (k := 12) rfl (.cons (k := 21) rfl (.cons (k := 22) rfl (.nil _)))))))) ?_
        refine .loop (fun (s309 : Int × Int) a w => ∃ (F_310 : Fz), F_290 ≤ F_310 ∧ Hd 267 [] [(2, (.int .i64 day9)), (3, (.int .i64 more10)), (4, (.pointer (some ⟨b11, 0, none⟩))), (9, (.pointer (some ⟨b29, 0, none⟩))), (12, (.slice p33 r_32.1.length k34)), (21, (.int .i64 s309.1)), (22, (.int .i64 s309.2))] F_310 [pt b29 (.cells (cApiDutyBook r_25.1 p26 k27).toArray 31), R] a w) (fun b0 e a w => match b0 with | .inl b357 => e = .exit 6 ∧ ∃ (F_358 : Fz), F_290 ≤ F_358 ∧ Hd 267 [] [(12, (.slice p33 r_32.1.length k34)), (21, (.int .i64 b357))] F_358 [pt b29 (.cells (cApiDutyBook r_25.1 p26 k27).toArray 31), R] a w | .inr b357 => e = .ret ∧ ∃ (F_360 : Fz), F_290 ≤ F_360 ∧ Hd 267 [] [(8, (.bool b357))] F_360 [R] a w) ?_ ?_ ?_
        ·exact fun a w h => ⟨F_290, (Fz.le_refl _), h.1.sub (.cons (k := 2) rfl (.cons (k := 3) rfl (.cons (k := 4) rfl (.cons (k := 9) rfl (.cons (k := 12) rfl (.cons (k := 21) rfl (.cons (k := 22) rfl (.nil _)))))))), h.2⟩
        ·intro s309 ctl
         refine GC.ex (fun a w ⟨F_310, l_311, hA⟩ => ⟨_, hA, ?_⟩)
         unfold b_wormtublaw11_ExciseArrives_4
         refine .seq ?_
         refine .seq ?_
         refine .region ?_
         refine .move rfl rfl ?_
         refine .fieldAddr rfl Try.underlying31 rfl Try.sizeOf29 rfl ?_
         refine .loadO rfl Try.isAgg29 rfl (i := 0) rfl rfl ?_
         refine .lenS rfl rfl Try.underlying29 rfl ?_
         refine .lss rfl rfl rfl ?_
         refine .nil ?_
         refine .code ?_
         refine .cond rfl (fun hb312 => ?_) (fun hb312 => ?_)
         ·skip
          refine .skip ?_
          refine .code ?_
          refine .seq ?_
          refine .block ?_
          refine .seq ?_
          refine .keep (.cons (k := 2) rfl (.cons (k := 3) rfl (.cons (k := 4) rfl (.cons (k := 9) rfl (.cons (k := 12) rfl (.cons (k := 21) rfl (.cons (k := 22) rfl (.nil _)))))))) ?_
          refine .drawZ 14 mixedOK (by kernel_rfl) ?_
          refine .fieldAddr rfl Try.underlying31 rfl Try.sizeOf29 rfl ?_
          refine .loadO rfl Try.isAgg29 rfl (i := 0) rfl rfl ?_
          refine .move rfl rfl ?_
          refine .idx rfl Try.underlying29 Try.sizeOf49 (h28.mono (Fz.le_trans l_31 (Fz.le_trans l_53 (Fz.le_trans l_291 l_311)))) rfl rfl (fun x313 b314 o315 T316 fr317 cs318 e319 hm320 hv321 => ?_)
          refine .fieldAddr rfl Try.underlying49 rfl Try.sizeOf3 rfl ?_
          refine .loadF rfl Try.isAgg3 rfl hm320 (cell_of_take (k := 3) hv321 rfl) ?_
          refine .fieldAddr rfl Try.underlying24 rfl Try.sizeOf3 rfl ?_
          refine .loadF rfl Try.isAgg3 rfl ((Fz.le_trans l_18 (Fz.le_trans l_24 (Fz.le_trans l_31 (Fz.le_trans l_53 (Fz.le_trans l_291 l_311))))).mem _ _ hb14) rfl ?_
          refine .add rfl rfl rfl ?_
          refine .add rfl rfl rfl ?_
          refine .move rfl rfl ?_
          refine .move rfl rfl ?_
          refine .add rfl rfl rfl ?_
          refine .leq rfl rfl rfl ?_
          refine .pend ?_
          refine .nil ?_
          refine .code ?_
          refine .cond rfl (fun hb323 => ?_) (fun hb323 => ?_)
          ·skip
           refine .seq ?_
           refine .seq ?_
           refine .keep (.cons (k := 2) rfl (.cons (k := 3) rfl (.cons (k := 4) rfl (.cons (k := 9) rfl (.cons (k := 12) rfl (.cons (k := 21) rfl (.cons (k := 22) rfl (.nil _)))))))) ?_
           refine .drawZ 17 mixedOK (by kernel_rfl) ?_
           refine .move rfl rfl ?_
           refine .move rfl rfl ?_
           refine .lenS rfl rfl Try.underlying41 rfl ?_
           refine .geq rfl rfl rfl ?_
           refine .move rfl rfl ?_
           refine .orM (b := (decide (s309.1 ≥ (r_32.1.length : Int)))) 12 257 (fun hb324 z349 => ?_) (fun hb345 => ?_) (fun z348 F_346 l_347 => ?_)
           ·skip
            refine .onH hb324 rfl rfl ?_
            refine .move rfl rfl ?_
            refine .onH hb324 rfl rfl ?_
            refine .move rfl rfl ?_
            refine .onH hb324 rfl rfl ?_
            refine .idx rfl Try.underlying41 Try.sizeOf3 (h35.mono (Fz.le_trans l_53 (Fz.le_trans l_291 l_311))) rfl rfl (fun x325 b326 o327 T328 fr329 cs330 e331 hm332 hv333 => ?_)
            refine .onH hb324 rfl rfl ?_
            refine .loadF rfl Try.isAgg3 rfl hm332 (cell_of_take (k := 0) hv333 rfl) ?_
            refine .onH hb324 rfl rfl ?_
            refine .fieldAddr rfl Try.underlying31 rfl Try.sizeOf29 rfl ?_
            refine .onH hb324 rfl rfl ?_
            refine .loadO rfl Try.isAgg29 rfl (i := 0) rfl rfl ?_
            refine .onH hb324 rfl rfl ?_
            refine .move rfl rfl ?_
            refine .onH hb324 rfl rfl ?_
            refine .idx rfl Try.underlying29 Try.sizeOf49 (h28.mono (Fz.le_trans l_31 (Fz.le_trans l_53 (Fz.le_trans l_291 l_311)))) rfl rfl (fun x335 b336 o337 T338 fr339 cs340 e341 hm342 hv343 => ?_)
            refine .onH hb324 rfl rfl ?_
            refine .fieldAddr rfl Try.underlying49 rfl Try.sizeOf3 rfl ?_
            refine .onH hb324 rfl rfl ?_
            refine .loadF rfl Try.isAgg3 rfl hm342 (cell_of_take (k := 0) hv343 rfl) ?_
            refine .onH hb324 rfl rfl ?_
            refine .neq rfl rfl rfl ?_
            refine .pickFH hb324 rfl rfl rfl ?_
            exact .finZ 12 rfl rfl (by kernel_rfl) (Fz.le_refl _)
           ·skip
            refine .offH hb345 rfl rfl rfl ?_
            refine .offH hb345 rfl rfl rfl ?_
            refine .offH hb345 rfl rfl rfl ?_
            refine .offH hb345 rfl rfl rfl ?_
            refine .offH hb345 rfl rfl rfl ?_
            refine .offH hb345 rfl rfl rfl ?_
            refine .offH hb345 rfl rfl rfl ?_
            refine .offH hb345 rfl rfl rfl ?_
            refine .offH hb345 rfl rfl rfl ?_
            refine .offH hb345 rfl rfl rfl ?_
            refine .offH hb345 rfl rfl rfl ?_
            refine .pickTH hb345 rfl rfl rfl ?_
            exact .fin 12 rfl rfl (by kernel_rfl) (Fz.le_refl _)
           refine .pend ?_
           refine .nil ?_
           refine .code ?_
           refine .cond rfl (fun hb350 => ?_) (fun hb350 => ?_)
           ·skip
            refine .seq ?_
            refine .region ?_
            refine .assign rfl rfl ?_
            refine .nil ?_
            refine .code ?_
            refine .drop 0 ?_
            refine .retQ (LPost.ret fun a w h => ⟨rfl, F_346, (Fz.le_trans l_311 l_347), h.1.sub (.cons (k := 8) rfl (.nil _)), h.2⟩)
           ·skip
            refine .skip ?_
            refine .code ?_
            refine .region ?_
            refine .move rfl rfl ?_
            refine .add rfl rfl rfl ?_
            refine .assignL rfl rfl (fun k351 e352 => ?_)
            refine .nil ?_
            refine .block ?_
            refine .code ?_
            refine .region ?_
            refine .move rfl rfl ?_
            refine .add rfl rfl rfl ?_
            refine .assignL rfl rfl (fun i353 e354 => ?_)
            refine .nil ?_
            exact .nil (LPost.norm fun a w h => ⟨F_346, (Fz.le_trans l_311 l_347), h.1.sub (.cons (k := 2) rfl (.cons (k := 3) rfl (.cons (k := 4) rfl (.cons (k := 9) rfl (.cons (k := 12) rfl (.cons (k := 21) rfl (.cons (k := 22) rfl (.nil _)))))))), h.2⟩)
          ·skip
           refine .skip ?_
           refine .block ?_
           refine .code ?_
           refine .region ?_
           refine .move rfl rfl ?_
           refine .add rfl rfl rfl ?_
           refine .assignL rfl rfl (fun i355 e356 => ?_)
           refine .nil ?_
           exact .nil (LPost.norm fun a w h => ⟨F_310, l_311, h.1.sub (.cons (k := 2) rfl (.cons (k := 3) rfl (.cons (k := 4) rfl (.cons (k := 9) rfl (.cons (k := 12) rfl (.cons (k := 21) rfl (.cons (k := 22) rfl (.nil _)))))))), h.2⟩)
         ·skip
          refine .exitOut rfl (LPost.exit fun a w h => ⟨rfl, F_310, l_311, h.1.sub (.cons (k := 12) rfl (.cons (k := 21) rfl (.nil _))), h.2⟩)
        ·intro b357 hb0 hk e a w hD
         rcases b357 with b357 | b357
         ·skip
          obtain ⟨rfl, F_358, l_359, hA⟩ := hD
          refine interp_exit rfl (GE.app ?_ hk a w hA)
          refine .code ?_
          refine .seq ?_
          refine .region ?_
          refine .move rfl rfl ?_
          refine .move rfl rfl ?_
          refine .lenS rfl rfl Try.underlying41 rfl ?_
          refine .eql rfl rfl rfl ?_
          refine .move rfl rfl ?_
          refine .andM (b := (b357 == (r_32.1.length : Int))) 2 266 (fun hb362 z370 => ?_) (fun hb366 => ?_) (fun z369 F_367 l_368 => ?_)
          ·skip
           refine .onH hb362 rfl rfl ?_
           refine .call0 rfl Try.call12 rfl rfl rfl (c_wormtublaw11_awake _ ) ?_
           rintro r_365 F_363 _ - l_364 rfl
           refine .pickTH hb362 rfl rfl rfl ?_
           exact .finZ 2 rfl rfl (by kernel_rfl) l_364
          ·skip
           refine .offH hb366 rfl rfl rfl ?_
           refine .pickFH hb366 rfl rfl rfl ?_
           exact .fin 2 rfl rfl (by kernel_rfl) (Fz.le_refl _)
          refine .assign rfl rfl ?_
          refine .nil ?_
          refine .code ?_
          exact .ret0 Try.results9 (.tmp rfl (.nil)) (i := 1) rfl (Fz.le_trans l_13 (Fz.le_trans l_18 (Fz.le_trans l_24 (Fz.le_trans l_31 (Fz.le_trans l_53 (Fz.le_trans l_291 (Fz.le_trans l_359 l_368))))))) rfl
         obtain ⟨rfl, F_360, l_361, hA⟩ := hD
         exact interp_ret ((ret_post0 Try.results9 (.tmp rfl (.nil)) (i := 0) rfl (Fz.le_trans l_13 (Fz.le_trans l_18 (Fz.le_trans l_24 (Fz.le_trans l_31 (Fz.le_trans l_53 (Fz.le_trans l_291 l_361)))))) rfl) hk a w hA)
     obtain ⟨rfl, F_292, l_293, hA⟩ := hD
     exact interp_ret ((ret_post0 Try.results9 (.tmp rfl (.nil)) (i := 0) rfl (Fz.le_trans l_13 (Fz.le_trans l_18 (Fz.le_trans l_24 (Fz.le_trans l_31 (Fz.le_trans l_53 l_293))))) rfl) hk a w hA)
end Go.Proofs.Ytadpjmaaokkhjaa
end

section
namespace Go.Proofs.Ytadpjmaaokkhjaa
open Go.Dec
open Go.ChangeShapes Go.WideShapes Go.ChangeAt Go.RowKit
def LawExciseArrives : Prop := ∀ (a0 : ApiDutyRules) (a1 : (List ApiDutyEvent)) (a2 : Int) (a3 : Int), okApiDutyRules a0 → (∀ y ∈ a1, okApiDutyEvent y) → (Lit.int .i64 a2).wf = true → (Lit.int .i64 a3).wf = true → m_wormtublaw11_ExciseArrives a0 a1 a2 a3 = some true
set_option maxRecDepth 100000 in
theorem lifted_ExciseArrives (law : LawExciseArrives) (os : Os) (started : os.Started) (H : Type) (enc : TypeId × Value → H) :
  ReturnsInHanded {} Try.checked os 9 .any (Rows.exciseArrivesSpec.pre6 enc Try.prog Try.f9 Rows.exciseArrivesRow.domain false) (Rows.exciseArrivesSpec.post enc Try.prog Try.f9 false true false false) := by
 refine returnsInHanded_of_change (C := Try.checked) Try.own started (by kernel_rfl) Try.func9 (ChangeSpec.witness6 (enc := enc) (C := Try.checked) false ⟨#[], #[(.agg #[.slice none 0 0, .int .i64 0, .int .i64 0, .int .i64 0]), .slice none 0 0, .int .i64 0, .int .i64 0], []⟩ 12 (by kernel_rfl) (by kernel_rfl) (by kernel_rfl) (by kernel_rfl)) ?_
 intro W base args ds gs before hval hW _ _
 refine law_contract (P := Try.prog) Try.laidOut (by kernel_rfl) rfl (by kernel_rfl : Try.f9.resultTypes = #[4]) Try.underlying4 (fun ds h => ?_) (fun W base args ds ps hval hA => ?_) W base args ds gs before hval hW
 ·match ds, h with
  | [d0, d1, d2, d3], _ => rfl
 ·rw [Try.params9] at hA hval
  obtain ⟨v0, l0, _, _, _, _, e0, _, _, t0, hA⟩ := trodAll_cons hA
  obtain ⟨v1, l1, _, _, _, _, e1, _, _, t1, hA⟩ := trodAll_cons hA
  obtain ⟨v2, l2, _, _, _, _, e2, _, _, t2, hA⟩ := trodAll_cons hA
  obtain ⟨v3, l3, _, _, _, _, e3, _, _, t3, hA⟩ := trodAll_cons hA
  obtain ⟨e4, _, _⟩ := trodAll_nil hA
  subst e4 e3 e2 e1
  obtain rfl : args = [v0, v1, v2, v3].toArray := by rw [← e0]
  obtain ⟨m0, cs0, o0, rfl, h0⟩ := argStruct Try.underlying24 vt24 (hval 0 _ _ rfl rfl) t0
  obtain ⟨p0_0, k0_0, rfl, h0_0⟩ := h0
  obtain ⟨m1, p1, k1, o1, rfl, h1⟩ := argSlice Try.underlying25 vt25 (hval 1 _ _ rfl rfl) t1
  obtain ⟨m2, o2, rfl⟩ := argInt Try.underlying3 (hval 2 _ _ rfl rfl) t2
  obtain ⟨m3, o3, rfl⟩ := argInt Try.underlying3 (hval 3 _ _ rfl rfl) t3
  have hl := law m0 m1 m2 m3 o0 o1 o2 o3
  have hc := c_wormtublaw11_ExciseArrives (FW W) m0 p0_0 k0_0 h0_0 m1 p1 k1 h1 m2 m3
  rw [hl] at hc
  exact hc
theorem said_ExciseArrives (law : LawExciseArrives) : Rows.ExciseArrivesSaid :=
 OpenClaim.holds_of_wide 9 Try.f9 rfl rfl rfl rfl rfl rfl rfl ⟨rfl, rfl, rfl, rfl, rfl⟩ rfl rfl rfl rfl rfl (by kernel_rfl) Try.func9 (by kernel_rfl)
  (of_decide_eq_true (by kernel_rfl)) (by unfold Func.isWrapper; first | (rw [if_pos (by decide +kernel)]; kernel_rfl) | (rw [if_neg (by decide +kernel)]; exact ⟨rfl, rfl⟩))
  (fun os started H enc _ => lifted_ExciseArrives law os started H enc)
end Go.Proofs.Ytadpjmaaokkhjaa
end

section
namespace Go.Proofs.Ytadpjmaaokkhjaa
open Go.Dec
variable {r : Rul} {n : Nat} {t d day : Int} {s s' a : Acc} {x : Ev} {p : ApiParcel} {l : List Ev}
theorem do_moving (he : evB x = true) (h : doS r s x = .inl s') : (x.Kind = 1 ∧ s'.B.Moving = insS (parS x) s.B.Moving ∧ s'.Ids = s.Ids ++ [x.Id] ∧ x.Id ∉ s.Ids) ∨
    (x.Kind = 2 ∧ (∃ p, s.B.Moving.find? (fun q => q.Id == x.Id) = some p ∧ p.To = x.Bond) ∧ s'.B.Moving = s.B.Moving.filter (fun q => !(q.Id == x.Id)) ∧ s'.Ids = s.Ids) ∨
    (x.Kind ≠ 1 ∧ x.Kind ≠ 2 ∧ s'.B.Moving = s.B.Moving ∧ s'.Ids = s.Ids) := by
  unfold doS at h
  rcases ev_kinds he with k | k | k | k | k | k | k <;> simp only [k, beq_iff_eq, Int.reduceEq, if_true, if_false] at h
  · right; right
    unfold distilS at h
    split at h
    · cases h
    · simp only [Sum.inl.injEq] at h; subst h; exact ⟨by omega, by omega, rfl, rfl⟩
  · left
    unfold sendS at h
    split at h
    · cases h
    · split at h
      · cases h
      · rename_i hc
        split at h
        · cases h
        · simp only [Sum.inl.injEq] at h; subst h
          exact ⟨k, rfl, rfl, by simpa using hc⟩
  · right; left
    unfold receiveS at h
    split at h
    · cases h
    · rename_i p hp
      split at h
      · cases h
      · rename_i hto
        split at h
        · cases h
        · simp only [Sum.inl.injEq] at h; subst h
          exact ⟨k, ⟨p, hp, by simpa using hto⟩, rfl, rfl⟩
  · right; right
    unfold releaseS at h
    split at h
    · cases h
    · simp only [Sum.inl.injEq] at h; subst h; exact ⟨by omega, by omega, rfl, rfl⟩
  · right; right
    unfold exportS at h
    split at h
    · cases h
    · simp only [Sum.inl.injEq] at h; subst h; exact ⟨by omega, by omega, rfl, rfl⟩
  · right; right
    simp only [Sum.inl.injEq] at h; subst h; exact ⟨by omega, by omega, rfl, rfl⟩
  · right; right
    unfold payS at h
    split at h
    · cases h
    · simp only [Sum.inl.injEq] at h; subst h; exact ⟨by omega, by omega, rfl, rfl⟩
structure Arr (r : Rul) (pre : List Ev) (c : Cur) : Prop where
  ids : ∀ x ∈ pre, x.Kind = 1 → x.Id ∈ c.acc.Ids
  src : ∀ p ∈ c.acc.B.Moving, ∃ x ∈ pre, x.Kind = 1 ∧ p = parS x
  uniq : ∀ p ∈ c.acc.B.Moving, ∀ x ∈ pre, x.Kind = 1 → x.Id = p.Id → p = parS x
  ev : ∀ u x v, pre = u ++ x :: v → x.Kind = 1 → (∀ y ∈ v, y.Id = x.Id → y.Kind ≠ 1 ∧ (y.Kind = 2 → y.Day ≤ x.Day + r.Transit ∧ y.Bond = x.To)) ∧ (parS x ∈ c.acc.B.Moving ↔ c.day < lateS r (parS x) ∧ ∀ y ∈ v, ¬ (y.Kind = 2 ∧ y.Id = x.Id))
theorem arr_pass {pre : List Ev} {c : Cur} (h : Arr r pre c) (hd : c.day ≤ d) : Arr r pre ⟨passS r c.day d c.acc, d⟩ where
  ids := h.ids
  src := fun p hp => h.src p (List.mem_filter.1 hp).1
  uniq := fun p hp => h.uniq p (List.mem_filter.1 hp).1
  ev := fun u x v e k => by
    obtain ⟨h1, h2⟩ := h.ev u x v e k
    refine ⟨h1, ?_⟩
    show parS x ∈ c.acc.B.Moving.filter (fun p => decide (d < lateS r p)) ↔ d < lateS r (parS x) ∧ _
    rw [List.mem_filter, h2]
    simp only [decide_eq_true_eq]
    constructor
    · rintro ⟨⟨g1, g2⟩, g3⟩; exact ⟨g3, g2⟩
    · rintro ⟨g1, g2⟩; exact ⟨⟨by omega, g2⟩, g1⟩
theorem snoc_mid {α : Type} {pre u v : List α} {x y : α} (h : pre ++ [y] = u ++ x :: v) : (v = [] ∧ x = y ∧ u = pre) ∨ ∃ v0, v = v0 ++ [y] ∧ pre = u ++ x :: v0 := by
  rcases List.eq_nil_or_concat v with rfl | ⟨v0, z, rfl⟩
  · have := List.append_inj' h rfl
    simp only [List.cons.injEq, and_true] at this
    exact .inl ⟨rfl, this.2.symm, this.1.symm⟩
  · right
    have h2 : pre ++ [y] = (u ++ x :: v0) ++ [z] := by rw [h]; simp
    have := List.append_inj' h2 rfl
    simp only [List.cons.injEq, and_true] at this
    refine ⟨v0, ?_, this.1⟩
    rw [this.2, List.concat_eq_append]
theorem arr_do {pre : List Ev} {y : Ev} (h : Arr r pre ⟨s, t⟩) (hr : RulOk r) (hok : SOk r n t s) (he : evB y = true) (hday : y.Day = t) (hd : doS r s y = .inl s') : Arr r (pre ++ [y]) ⟨s', t⟩ := by
  have hT := hr.transit
  rcases do_moving he hd with ⟨k, hm, hi, hnew⟩ | ⟨k, ⟨p, hp, hto⟩, hm, hi⟩ | ⟨k1, k2, hm, hi⟩
  ·
    have hold : ∀ x ∈ pre, x.Kind = 1 → x.Id ≠ y.Id := fun x hx hk e => hnew (e ▸ h.ids x hx hk)
    have hmo : ∀ q ∈ s.B.Moving, q.Id ≠ y.Id := fun q hq e => hnew (e ▸ hok.known q hq)
    refine ⟨fun x hx hk => ?_, fun q hq => ?_, fun q hq x hx hk e => ?_, fun u x v e hk => ?_⟩
    · show x.Id ∈ s'.Ids
      rw [hi]
      rcases List.mem_append.1 hx with hx | hx
      · exact List.mem_append_left _ (h.ids x hx hk)
      · simp only [List.mem_singleton] at hx; subst hx; simp
    · have hq : q ∈ s'.B.Moving := hq
      rw [hm] at hq
      rcases ins_mem.1 hq with rfl | hq
      · exact ⟨y, by simp, k, rfl⟩
      · obtain ⟨x, hx, hk, e⟩ := h.src q hq
        exact ⟨x, by simp [hx], hk, e⟩
    · have hq : q ∈ s'.B.Moving := hq
      rw [hm] at hq
      rcases ins_mem.1 hq with rfl | hq1
      · rcases List.mem_append.1 hx with hx | hx
        · exact absurd e (hold x hx hk)
        · simp only [List.mem_singleton] at hx; rw [hx]
      · rcases List.mem_append.1 hx with hx | hx
        · exact h.uniq q hq1 x hx hk e
        · simp only [List.mem_singleton] at hx; exact absurd (hx ▸ e).symm (hmo q hq1)
    · show _ ∧ (parS x ∈ s'.B.Moving ↔ t < lateS r (parS x) ∧ _)
      rw [hm, ins_mem]
      rcases snoc_mid e with ⟨rfl, rfl, rfl⟩ | ⟨v0, rfl, hpre⟩
      · refine ⟨fun _ h => (by cases h), ⟨fun _ => ⟨?_, fun _ h => (by cases h)⟩, fun _ => .inl rfl⟩⟩
        show t < x.Day + r.Transit + 1; omega
      · obtain ⟨h1, h2⟩ := h.ev u x v0 hpre hk
        have hx : x ∈ pre := by rw [hpre]; simp
        have hne := hold x hx hk
        refine ⟨fun z hz hzi => ?_, ?_⟩
        · rcases List.mem_append.1 hz with hz | hz
          · exact h1 z hz hzi
          · simp only [List.mem_singleton] at hz; subst hz; exact absurd hzi.symm hne
        · constructor
          · rintro (e1 | e1)
            · exact absurd (congrArg ApiParcel.Id e1) hne
            · obtain ⟨g1, g2⟩ := h2.1 e1
              refine ⟨g1, fun z hz => ?_⟩
              rcases List.mem_append.1 hz with hz | hz
              · exact g2 z hz
              · simp only [List.mem_singleton] at hz; subst hz; rintro ⟨_, e2⟩; exact hne e2.symm
          · rintro ⟨g1, g2⟩
            exact .inr (h2.2 ⟨g1, fun z hz => g2 z (List.mem_append_left _ hz)⟩)
  ·
    obtain ⟨hmem, hpid, _⟩ := out_perm hok.sorted hp
    refine ⟨fun x hx hk => ?_, fun q hq => ?_, fun q hq x hx hk e => ?_, fun u x v e hk => ?_⟩
    · show x.Id ∈ s'.Ids
      rw [hi]
      rcases List.mem_append.1 hx with hx | hx
      · exact h.ids x hx hk
      · simp only [List.mem_singleton] at hx; subst hx; omega
    · have hq : q ∈ s'.B.Moving := hq
      rw [hm] at hq
      obtain ⟨x, hx, hk, e⟩ := h.src q (List.mem_filter.1 hq).1
      exact ⟨x, by simp [hx], hk, e⟩
    · have hq : q ∈ s'.B.Moving := hq
      rw [hm] at hq
      rcases List.mem_append.1 hx with hx | hx
      · exact h.uniq q (List.mem_filter.1 hq).1 x hx hk e
      · simp only [List.mem_singleton] at hx; subst hx; omega
    · show _ ∧ (parS x ∈ s'.B.Moving ↔ t < lateS r (parS x) ∧ _)
      rw [hm, List.mem_filter]
      rcases snoc_mid e with ⟨rfl, rfl, rfl⟩ | ⟨v0, rfl, hpre⟩
      · omega
      · obtain ⟨h1, h2⟩ := h.ev u x v0 hpre hk
        have hx : x ∈ pre := by rw [hpre]; simp
        by_cases hid : y.Id = x.Id
        · have hpx := h.uniq p hmem x hx hk (by rw [hpid, hid])
          have hlate := (hok.mov p hmem).late
          rw [hpx] at hlate hto
          refine ⟨fun z hz hzi => ?_, ?_⟩
          · rcases List.mem_append.1 hz with hz | hz
            · exact h1 z hz hzi
            · simp only [List.mem_singleton] at hz; subst hz
              refine ⟨by omega, fun _ => ⟨?_, hto.symm⟩⟩
              have : t < x.Day + r.Transit + 1 := hlate
              omega
          · constructor
            · rintro ⟨_, g⟩
              have : (x.Id == y.Id) = true := by simp [hid]
              have g : (!(x.Id == y.Id)) = true := g
              rw [this] at g; cases g
            · rintro ⟨_, g⟩; exact absurd ⟨k, hid⟩ (g y (by simp))
        · refine ⟨fun z hz hzi => ?_, ?_⟩
          · rcases List.mem_append.1 hz with hz | hz
            · exact h1 z hz hzi
            · simp only [List.mem_singleton] at hz; subst hz; exact absurd hzi hid
          · have hne : (!((parS x).Id == y.Id)) = true := by
              have : (x.Id == y.Id) = false := by simpa using Ne.symm hid
              show (!(x.Id == y.Id)) = true
              rw [this]; rfl
            constructor
            · rintro ⟨e1, _⟩
              obtain ⟨g1, g2⟩ := h2.1 e1
              refine ⟨g1, fun z hz => ?_⟩
              rcases List.mem_append.1 hz with hz | hz
              · exact g2 z hz
              · simp only [List.mem_singleton] at hz; subst hz; rintro ⟨_, e2⟩; exact hid e2
            · rintro ⟨g1, g2⟩
              exact ⟨h2.2 ⟨g1, fun z hz => g2 z (List.mem_append_left _ hz)⟩, hne⟩
  ·
    refine ⟨fun x hx hk => ?_, fun q hq => ?_, fun q hq x hx hk e => ?_, fun u x v e hk => ?_⟩
    · show x.Id ∈ s'.Ids
      rw [hi]
      rcases List.mem_append.1 hx with hx | hx
      · exact h.ids x hx hk
      · simp only [List.mem_singleton] at hx; subst hx; exact absurd hk k1
    · have hq : q ∈ s'.B.Moving := hq
      rw [hm] at hq
      obtain ⟨x, hx, hk, e⟩ := h.src q hq
      exact ⟨x, by simp [hx], hk, e⟩
    · have hq : q ∈ s'.B.Moving := hq
      rw [hm] at hq
      rcases List.mem_append.1 hx with hx | hx
      · exact h.uniq q hq x hx hk e
      · simp only [List.mem_singleton] at hx; subst hx; exact absurd hk k1
    · show _ ∧ (parS x ∈ s'.B.Moving ↔ t < lateS r (parS x) ∧ _)
      rw [hm]
      rcases snoc_mid e with ⟨rfl, rfl, rfl⟩ | ⟨v0, rfl, hpre⟩
      · exact absurd hk k1
      · obtain ⟨h1, h2⟩ := h.ev u x v0 hpre hk
        refine ⟨fun z hz hzi => ?_, ?_⟩
        · rcases List.mem_append.1 hz with hz | hz
          · exact h1 z hz hzi
          · simp only [List.mem_singleton] at hz; subst hz; exact ⟨k1, fun g => absurd g k2⟩
        · rw [h2]
          constructor
          · rintro ⟨g1, g2⟩
            refine ⟨g1, fun z hz => ?_⟩
            rcases List.mem_append.1 hz with hz | hz
            · exact g2 z hz
            · simp only [List.mem_singleton] at hz; subst hz; rintro ⟨g, _⟩; exact k2 g
          · rintro ⟨g1, g2⟩
            exact ⟨g1, fun z hz => g2 z (List.mem_append_left _ hz)⟩
theorem run_arr (hr : RulOk r) {c : Cur} (h : RunS r l cur0 c) : Arr r l c :=
  (run_inv hr (I := fun l c => Arr r l c) ⟨fun _ h => (by cases h), fun _ h => (by cases h), fun _ h => (by cases h), fun u x v e => by cases u <;> simp at e⟩ (fun pre x c c' hi _ hok h0 hs => by
    obtain ⟨he, hle, hday, hd⟩ := step_do hs
    have hp := pass_ok hr hok hle
    have h1 := arr_do (arr_pass hi hle) hr hp he rfl hd
    have e : c' = ⟨c'.acc, x.Day⟩ := by cases c'; simp only at hday; rw [hday]
    rw [e]; exact h1) h).1
def recB (x y : Ev) : Bool := y.Kind == 2 && y.Id == x.Id
def hereB (r : Rul) (day : Int) (x : Ev) (v : List Ev) : Bool := decide (lateS r (parS x) > day) && !(v.any (recB x))
def herS (r : Rul) (day : Int) : List Ev → List ApiParcel
  | [] => []
  | x :: v => if x.Kind == 1 && hereB r day x v then parS x :: herS r day v else herS r day v
theorem herS_cons {x : Ev} {v : List Ev} : herS r day (x :: v) = if x.Kind == 1 && hereB r day x v then parS x :: herS r day v else herS r day v := by
  conv => lhs; unfold herS
theorem here_iff {x : Ev} {v : List Ev} : hereB r day x v = true ↔ day < lateS r (parS x) ∧ ∀ y ∈ v, ¬ (y.Kind = 2 ∧ y.Id = x.Id) := by
  unfold hereB
  rw [Bool.and_eq_true, decide_eq_true_eq, Bool.not_eq_true', ← Bool.not_eq_true, List.any_eq_true]
  constructor
  · rintro ⟨h1, h2⟩
    exact ⟨h1, fun y hy hk => h2 ⟨y, hy, by simp [recB, hk.1, hk.2]⟩⟩
  · rintro ⟨h1, h2⟩
    refine ⟨h1, fun ⟨y, hy, hk⟩ => h2 y hy ?_⟩
    simpa [recB] using hk
theorem her_mem : ∀ {l : List Ev} {p : ApiParcel}, p ∈ herS r day l ↔ ∃ u x v, l = u ++ x :: v ∧ x.Kind = 1 ∧ hereB r day x v = true ∧ p = parS x
  | [], p => by simp [herS]
  | x :: l, p => by
    have ih := her_mem (l := l) (p := p)
    have hstep : (∃ u y v, x :: l = u ++ y :: v ∧ y.Kind = 1 ∧ hereB r day y v = true ∧ p = parS y) ↔ (x.Kind = 1 ∧ hereB r day x l = true ∧ p = parS x) ∨ ∃ u y v, l = u ++ y :: v ∧ y.Kind = 1 ∧ hereB r day y v = true ∧ p = parS y := by
      constructor
      · rintro ⟨u, y, v, e, h1, h2, h3⟩
        cases u with
        | nil => simp only [List.nil_append, List.cons.injEq] at e; obtain ⟨rfl, rfl⟩ := e; exact .inl ⟨h1, h2, h3⟩
        | cons z u => simp only [List.cons_append, List.cons.injEq] at e; exact .inr ⟨u, y, v, e.2, h1, h2, h3⟩
      · rintro (⟨h1, h2, h3⟩ | ⟨u, y, v, e, h1, h2, h3⟩)
        · exact ⟨[], x, l, rfl, h1, h2, h3⟩
        · exact ⟨x :: u, y, v, by rw [e]; rfl, h1, h2, h3⟩
    rw [hstep, ← ih, herS_cons]
    by_cases hc : (x.Kind == 1 && hereB r day x l) = true
    · rw [if_pos hc, List.mem_cons]
      rw [Bool.and_eq_true, beq_iff_eq] at hc
      constructor
      · rintro (h | h)
        · exact .inl ⟨hc.1, hc.2, h⟩
        · exact .inr h
      · rintro (⟨_, _, h⟩ | h)
        · exact .inl h
        · exact .inr h
    · rw [if_neg hc]
      constructor
      · exact fun h => .inr h
      · rintro (⟨h1, h2, _⟩ | h)
        · exact absurd (by simp [h1, h2]) hc
        · exact h
theorem her_ids {l : List Ev} (h : ∀ u x v, l = u ++ x :: v → x.Kind = 1 → ∀ y ∈ v, y.Id = x.Id → y.Kind ≠ 1) : (herS r day l).Pairwise (fun p q => p.Id ≠ q.Id) := by
  induction l with
  | nil => exact List.Pairwise.nil
  | cons x l ih =>
    have ih := ih fun u y v e => h (x :: u) y v (by rw [e]; rfl)
    rw [herS_cons]
    split
    · rename_i hc
      rw [Bool.and_eq_true, beq_iff_eq] at hc
      refine List.pairwise_cons.2 ⟨fun q hq e => ?_, ih⟩
      obtain ⟨u, y, v, e1, hk, _, rfl⟩ := her_mem.1 hq
      exact h [] x l rfl hc.1 y (by rw [e1]; simp) e.symm hk
    · exact ih
theorem arr_perm {c : Cur} (h : Arr r l c) (hs : c.acc.B.Moving.Pairwise (fun p q => p.Id < q.Id)) : c.acc.B.Moving.Perm (herS r c.day l) := by
  have n1 : c.acc.B.Moving.Nodup := hs.imp fun h e => by rw [e] at h; omega
  have n2 : (herS r c.day l).Nodup := (her_ids fun u x v e k y hy hid => ((h.ev u x v e k).1 y hy hid).1).imp fun h e => h (by rw [e])
  refine (List.perm_ext_iff_of_nodup n1 n2).2 fun p => ?_
  rw [her_mem]
  constructor
  · intro hp
    obtain ⟨x, hx, hk, rfl⟩ := h.src p hp
    obtain ⟨u, v, e⟩ := List.append_of_mem hx
    exact ⟨u, x, v, e, hk, here_iff.2 ((h.ev u x v e hk).2.1 hp), rfl⟩
  · rintro ⟨u, x, v, e, hk, hh, rfl⟩
    exact (h.ev u x v e hk).2.2 (here_iff.1 hh)
theorem arr_loop2 {k : Nat} {b : Bk} {e m : Int} {x : Ev} {i : Nat} (hk : k ≤ l.length) (hl : l.length ≤ 1000) (hi : l[i]? = some x) (hT : 0 ≤ r.Transit ∧ r.Transit ≤ 65536) (hd : 0 ≤ x.Day ∧ x.Day ≤ 65536) :
    ∀ (post : List Ev) (j : Nat) (h0 : Bool), (l.take k).drop j = post → j ≤ k → (∀ y ∈ post, y.Id = x.Id → y.Kind ≠ 1 ∧ (y.Kind = 2 → y.Day ≤ x.Day + r.Transit ∧ y.Bond = x.To)) →
    loopM (b_wormtublaw11_ExciseArrives_2 r l (b, (k : Int), e) (m, (i : Int))) (h0, (j : Int)) = some (.inl (h0 && !(post.any (recB x))))
  | [], j, h0, hp, hj, _ => by
    have hlen : (l.take k).length = k := by rw [List.length_take]; omega
    have : j = k := by have := List.drop_eq_nil_iff.1 hp; omega
    subst this
    have step : b_wormtublaw11_ExciseArrives_2 r l (b, (j : Int), e) (m, (i : Int)) (h0, (j : Int)) = some (.done (.inl h0)) := by
      unfold b_wormtublaw11_ExciseArrives_2
      rw [if_neg (by simp)]
    rw [loopM_eq, step]; simp
  | y :: post, j, h0, hp, hj, hA => by
    have hlen : (l.take k).length = k := by rw [List.length_take]; omega
    have hlt : j < k := by
      rcases Nat.lt_or_ge j k with h | h
      · exact h
      · rw [List.drop_eq_nil_of_le (by omega)] at hp; cases hp
    have hy0 : (l.take k)[j]? = some y := by rw [← List.head?_drop, hp]; rfl
    have hy : l[j]? = some y := by rw [List.getElem?_take] at hy0; simpa [hlt] using hy0
    have hp' : (l.take k).drop (j + 1) = post := by rw [← List.tail_drop, hp]; rfl
    have hA0 := hA y (List.mem_cons_self ..)
    have step : b_wormtublaw11_ExciseArrives_2 r l (b, (k : Int), e) (m, (i : Int)) (h0, (j : Int)) = some (.next (h0 && !recB x y, ((j + 1 : Nat) : Int))) := by
      unfold b_wormtublaw11_ExciseArrives_2
      rw [if_pos (by simp; omega)]
      simp only [idxL_nat, hy, hi, Option.bind_some, bindv, w64_next (by omega : j ≤ 4294967296)]
      by_cases hid : y.Id = x.Id
      · have c1 : (y.Id != x.Id) = false := by simp [hid]
        obtain ⟨g1, g2⟩ := hA0 hid
        have c2 : (y.Kind == 1) = false := by simpa using g1
        simp only [c1, c2, Bool.false_eq_true, if_false]
        by_cases hk2 : y.Kind = 2
        · have g3 := g2 hk2
          rw [w64_id (n := x.Day + r.Transit) (by omega) (by omega)]
          have c3 : decide (y.Day > x.Day + r.Transit) = false := by simp; omega
          have c4 : (y.Bond != x.To) = false := by simp [g3.2]
          have c5 : recB x y = true := by simp [recB, hk2, hid]
          have c6 : (y.Kind == 2) = true := by simp [hk2]
          simp only [c3, c4, c5, c6, Bool.false_eq_true, if_false, if_true, Option.bind_some, Bool.not_true, Bool.and_false]
        · have c5 : recB x y = false := by simp [recB, hk2]
          have c6 : (y.Kind == 2) = false := by simp [hk2]
          simp only [c5, c6, Bool.false_eq_true, if_false, Bool.not_false, Bool.and_true]
      · have c1 : (y.Id != x.Id) = true := by simp [hid]
        have c5 : recB x y = false := by simp [recB, hid]
        simp only [c1, c5, if_true, Bool.not_false, Bool.and_true]
    rw [loopM_eq, step]
    refine (arr_loop2 hk hl hi hT hd post (j + 1) (h0 && !recB x y) hp' (by omega) (fun z hz => hA z (List.mem_cons_of_mem _ hz))).trans ?_
    rw [List.any_cons, Bool.not_or, Bool.and_assoc]
theorem arr_loop3 {k : Nat} {e m : Int} {x : Ev} {i : Nat} (hi : l[i]? = some x) (hml : a.B.Moving.length ≤ 1000000) (hu : ∀ p ∈ a.B.Moving, p.Id = x.Id → p = parS x) :
    loopM (b_wormtublaw11_ExciseArrives_3 l (a.B, (k : Int), e) (m, (i : Int))) (false, 0) = some (a.B.Moving.any (fun p => p.Id == x.Id)) := by
  obtain ⟨b, hb, hloop⟩ := loopM_pre (body := b_wormtublaw11_ExciseArrives_3 l (a.B, (k : Int), e) (m, (i : Int))) (fun i (t : Bool) => (t, (i : Int))) (fun t => t) (fun pre t => t = pre.any (fun p => p.Id == x.Id)) a.B.Moving
    (fun pre q post t hl' ht => by
      have hx : a.B.Moving[pre.length]? = some q := getEl_mid hl'
      have hlt := lt_mid hl'
      refine ⟨(pre ++ [q]).any (fun p => p.Id == x.Id), ?_, rfl⟩
      subst ht
      unfold b_wormtublaw11_ExciseArrives_3
      rw [if_pos (by simpa using hlt)]
      simp only [idxL_nat, hx, hi, Option.bind_some, bindv, w64_next (by omega : pre.length ≤ 4294967296)]
      by_cases hid : q.Id = x.Id
      · have c1 : (q.Id == x.Id) = true := by simp [hid]
        have c2 : eq_49 q (ApiParcel.mk x.Id x.Bond x.To x.Day x.Amount) = true := by
          have : q = parS x := hu q (by rw [hl']; simp) hid
          rw [this]; exact eq49_refl _
        simp only [c1, c2, if_true, Option.bind_some]
        rw [List.any_append]; simp [hid]
      · have c1 : (q.Id == x.Id) = false := by simp [hid]
        simp only [c1, Bool.false_eq_true, if_false, Option.bind_some]
        rw [List.any_append]; simp [hid])
    (fun t ht => by unfold b_wormtublaw11_ExciseArrives_3; rw [if_neg (by simp)]) a.B.Moving [] false rfl rfl
  have h0 : loopM (b_wormtublaw11_ExciseArrives_3 l (a.B, (k : Int), e) (m, (i : Int))) (false, 0) = some b := hloop
  rw [h0, hb]
theorem arr_loop1 {k : Nat} {e : Int} (hk : k ≤ l.length) (hl : l.length ≤ 1000) (hr : RulOk r) (hev : ∀ x ∈ l.take k, evB x = true) (hA : Arr r (l.take k) ⟨a, day⟩) (hok : SOk r k day a) (_hday : day ≤ 65536) :
    loopM (b_wormtublaw11_ExciseArrives_1 r l day (a.B, (k : Int), e)) (0, 0) = some (.inl (a.B.Moving.length : Int)) := by
  have hlen : (l.take k).length = k := by rw [List.length_take]; omega
  have hT := hr.transit
  have hperm := (arr_perm hA hok.sorted).length_eq
  simp only at hperm
  obtain ⟨b, hb, hloop⟩ := loopM_pre (body := b_wormtublaw11_ExciseArrives_1 r l day (a.B, (k : Int), e)) (fun i (t : Nat) => ((t : Int), (i : Int))) (fun t => (Sum.inl (t : Int) : Int ⊕ Bool)) (fun pre t => t + (herS r day ((l.take k).drop pre.length)).length = (herS r day (l.take k)).length) (l.take k)
    (fun pre x post t hl' ht => by
      have hx0 : (l.take k)[pre.length]? = some x := getEl_mid hl'
      have hpk : pre.length < k := by have := lt_mid hl'; omega
      have hx : l[pre.length]? = some x := by rw [List.getElem?_take] at hx0; simpa [hpk] using hx0
      have hdrop : (l.take k).drop pre.length = x :: post := by rw [hl']; simp
      have hdrop' : (l.take k).drop (pre ++ [x]).length = post := by rw [hl']; simp
      have hxe := hev x (by rw [hl']; simp)
      have hxd := ev_day hxe
      rw [hdrop] at ht
      simp only [hdrop']
      by_cases hk1 : x.Kind = 1
      · obtain ⟨h1, h2⟩ := hA.ev pre x post hl' hk1
        have hxmem : x ∈ l.take k := by rw [hl']; simp
        have hu : ∀ p ∈ a.B.Moving, p.Id = x.Id → p = parS x := fun p hp e => hA.uniq p hp x hxmem hk1 e.symm
        have c1 : (x.Kind != 1) = false := by simp [hk1]
        have hl2 := arr_loop2 (r := r) (l := l) (b := a.B) (e := e) (m := (t : Int)) hk hl hx hT hxd post (pre.length + 1) (decide (lateS r (parS x) > day)) (by rw [← List.tail_drop, hdrop]; rfl) (by omega) h1
        have hl3 := arr_loop3 (l := l) (a := a) (k := k) (e := e) (m := (t : Int)) hx (by have := hok.mlen; omega) hu
        have hw : w64 (w64 (x.Day + r.Transit) + 1) = lateS r (parS x) := by rw [w64_id (n := x.Day + r.Transit) (by omega) (by omega), w64_id (by omega) (by omega)]; rfl
        have hfound : (a.B.Moving.any (fun p => p.Id == x.Id)) = hereB r day x post := by
          rw [Bool.eq_iff_iff, here_iff, ← h2, List.any_eq_true]
          constructor
          · rintro ⟨p, hp, e⟩
            have e : p.Id = x.Id := by simpa using e
            have := hu p hp e
            rw [← this]; exact hp
          · intro hp
            exact ⟨parS x, hp, by simp [parS]⟩
        have step : b_wormtublaw11_ExciseArrives_1 r l day (a.B, (k : Int), e) ((t : Int), (pre.length : Int)) = some (.next (((if hereB r day x post then t + 1 else t : Nat) : Int), ((pre.length + 1 : Nat) : Int))) := by
          unfold b_wormtublaw11_ExciseArrives_1
          rw [if_pos (by simp; omega)]
          simp only [idxL_nat, hx, Option.bind_some, c1, Bool.false_eq_true, if_false, bindv, hw, w64_next (by omega : pre.length ≤ 4294967296)]
          refine bind_of hl2 ?_
          simp only []
          refine bind_of hl3 ?_
          rw [hfound]
          have hhe : (decide (lateS r (parS x) > day) && !post.any (recB x)) = hereB r day x post := rfl
          rw [hhe]
          simp only [BEq.rfl, Bool.not_true, Bool.false_eq_true, if_false]
          have htl : t ≤ 4294967296 := by
            have : (herS r day (l.take k)).length ≤ 1000000 := by have := hok.mlen; omega
            omega
          by_cases hc : hereB r day x post = true
          · simp only [hc, if_true, w64_next htl, Option.bind_some]
          · simp only [Bool.not_eq_true] at hc
            simp only [hc, Bool.false_eq_true, if_false, Option.bind_some]
        refine ⟨_, step, ?_⟩
        rw [herS_cons] at ht
        by_cases hc : hereB r day x post = true
        · simp only [hk1, hc, BEq.rfl, Bool.and_self, if_true, List.length_cons] at ht ⊢; omega
        · simp only [Bool.not_eq_true] at hc
          simp only [hk1, hc, Bool.and_false, Bool.false_eq_true, if_false] at ht ⊢; exact ht
      · have c1 : (x.Kind != 1) = true := by simp [hk1]
        have c2 : (x.Kind == 1) = false := by simp [hk1]
        have step : b_wormtublaw11_ExciseArrives_1 r l day (a.B, (k : Int), e) ((t : Int), (pre.length : Int)) = some (.next ((t : Int), ((pre.length + 1 : Nat) : Int))) := by
          unfold b_wormtublaw11_ExciseArrives_1
          rw [if_pos (by simp; omega)]
          simp only [idxL_nat, hx, Option.bind_some, c1, if_true, bindv, w64_next (by omega : pre.length ≤ 4294967296)]
        refine ⟨t, step, ?_⟩
        rw [herS_cons] at ht
        simp only [c2, Bool.false_and, Bool.false_eq_true, if_false] at ht
        exact ht)
    (fun t ht => by
      unfold b_wormtublaw11_ExciseArrives_1
      rw [hlen, if_neg (by simp)]) (l.take k) [] 0 rfl (by simp)
  have h0 : loopM (b_wormtublaw11_ExciseArrives_1 r l day (a.B, (k : Int), e)) (0, 0) = some (.inl (b : Int)) := hloop
  rw [List.drop_of_length_le (Nat.le_refl _)] at hb
  simp only [herS, List.length_nil, Nat.add_zero] at hb
  rw [h0, hb, hperm]
theorem arr_loop4 {k : Nat} {e f more : Int} (hr : RulOk r) (hok : SOk r k day a) (hk : k ≤ 1000) (hd : 0 ≤ day ∧ day ≤ 65536) (hm : 0 ≤ more ∧ more ≤ 65536) :
    loopM (b_wormtublaw11_ExciseArrives_4 r day more (a.B, (k : Int), e) (lateL r (day + more) a, f)) (0, 0) = some (.inl ((lateL r (day + more) a).length : Int)) := by
  have hml := hok.mlen
  obtain ⟨b, hb, hloop⟩ := loopM_pre (body := b_wormtublaw11_ExciseArrives_4 r day more (a.B, (k : Int), e) (lateL r (day + more) a, f)) (fun i (t : Nat) => ((t : Int), (i : Int))) (fun t => (Sum.inl (t : Int) : Int ⊕ Bool)) (fun pre t => t = (pre.filter (fun p => decide (lateS r p ≤ day + more))).length) a.B.Moving
    (fun pre q post t hl' ht => by
      have hx : a.B.Moving[pre.length]? = some q := getEl_mid hl'
      have hlt := lt_mid hl'
      have hsent := (hok.mov q (by rw [hl']; simp)).sent
      have htp : t ≤ pre.length := by rw [ht]; exact List.length_filter_le _ _
      refine ⟨((pre ++ [q]).filter (fun p => decide (lateS r p ≤ day + more))).length, ?_, rfl⟩
      unfold b_wormtublaw11_ExciseArrives_4
      rw [if_pos (by simpa using hlt)]
      simp only [idxL_nat, hx, Option.bind_some]
      rw [late_w64 hr (by omega), w64_id (n := day + more) (by omega) (by omega)]
      by_cases hc : lateS r q ≤ day + more
      · have hll : lateL r (day + more) a = (pre.filter (fun p => decide (lateS r p ≤ day + more))).map ApiParcel.Id ++ q.Id :: (post.filter (fun p => decide (lateS r p ≤ day + more))).map ApiParcel.Id := by
          unfold lateL
          rw [hl', List.filter_append, List.filter_cons]
          simp [hc]
        have hlen : t < (lateL r (day + more) a).length := by rw [hll, ht]; simp
        have hg : (lateL r (day + more) a)[t]? = some q.Id := by rw [hll, ht]; simp
        have c1 : decide ((t : Int) ≥ ((lateL r (day + more) a).length : Int)) = false := by simp; omega
        simp only [hc, decide_true, if_true, c1, Bool.false_eq_true, if_false, hg, Option.bind_some, bne_self_eq_false, bindv, w64_next (by omega : pre.length ≤ 4294967296), w64_next (by omega : t ≤ 4294967296)]
        rw [List.filter_append, ht]; simp [hc]
      · simp only [hc, decide_false, Bool.false_eq_true, if_false, bindv, w64_next (by omega : pre.length ≤ 4294967296)]
        rw [List.filter_append, ht]; simp [hc])
    (fun t ht => by unfold b_wormtublaw11_ExciseArrives_4; rw [if_neg (by simp)]) a.B.Moving [] 0 rfl rfl
  have h0 : loopM (b_wormtublaw11_ExciseArrives_4 r day more (a.B, (k : Int), e) (lateL r (day + more) a, f)) (0, 0) = some (.inl (b : Int)) := hloop
  rw [h0, hb]
  simp [lateL]
theorem law_ExciseArrives : LawExciseArrives := by
  intro r l day more _ _ _ _
  unfold m_wormtublaw11_ExciseArrives
  by_cases hbig : (decide ((r.Rates.length : Int) > 70) || decide ((l.length : Int) > 60)) = true
  · rw [if_pos hbig, awake_true]; rfl
  · rw [if_neg hbig]
    simp only [Bool.or_eq_true, decide_eq_true_eq, not_or] at hbig
    have hlr : r.Rates.length ≤ 1000000 := by omega
    have hl : l.length ≤ 1000 := by omega
    cases h : playS r l day with
    | mk q k =>
      cases q with
      | inr e =>
        have hne : (e != 0) = true := by simpa using playS_err h
        have hla : lateO r l day more = ([], e) := by unfold lateO; rw [h]
        rw [Play_err hlr hl h, Option.bind_some, Late_prog hlr (.inl hl), hla, Option.bind_some]
        simp only [hne, if_true, BEq.rfl, List.length_nil, Int.natCast_zero, Bool.and_self, awake_true, Option.bind_some]
      | inl a =>
        obtain ⟨hr, hok, hd, hk⟩ := playS_ok h
        obtain ⟨c, hrun, hc, h0, hcd, ha, _, _, _⟩ := play_run h
        have hA0 := arr_pass (run_arr hr hrun) hcd
        rw [← ha] at hA0
        have hev := run_ev hr hrun
        have d1 : decide ((k : Int) < 0) = false := by simp
        have d2 : decide ((k : Int) > (l.length : Int)) = false := by simp; omega
        have hla : lateO r l day more = if !inB more 0 65536 then ([], 2) else (lateL r (day + more) a, 0) := by unfold lateO; rw [h]
        rw [Play_ok hlr hl h, Option.bind_some, Late_prog hlr (.inl hl), Option.bind_some]
        simp only [bne_self_eq_false, Bool.false_eq_true, if_false, d1, d2, Bool.or_self]
        rw [arr_loop1 hk hl hr hev hA0 hok hd.2, Option.bind_some]
        simp only [bne_self_eq_false, Bool.false_eq_true, if_false]
        by_cases hm : inB more 0 65536 = true
        · simp only [hm, Bool.not_true, Bool.false_eq_true, if_false] at hla
          rw [hla]
          simp only [bne_self_eq_false, Bool.false_eq_true, if_false]
          rw [arr_loop4 hr hok (by omega) hd (inB_iff.1 hm), Option.bind_some]
          simp only [BEq.rfl, if_true, awake_true, Option.bind_some]
        · simp only [Bool.not_eq_true] at hm
          simp only [hm, Bool.not_false, if_true] at hla
          rw [hla]
          have z : ((2 : Int) != 0) = true := rfl
          simp only [z, if_true, BEq.rfl, List.length_nil, Int.natCast_zero, Bool.and_self, awake_true, Option.bind_some]
theorem exciseArrives_holds : Rows.ExciseArrivesSaid := said_ExciseArrives law_ExciseArrives
end Go.Proofs.Ytadpjmaaokkhjaa
end
