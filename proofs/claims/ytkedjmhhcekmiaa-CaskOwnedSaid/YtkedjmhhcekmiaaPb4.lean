/- Own texts and texts printed by a program of mine, for caskOwned_holds; only what it reaches. -/
import Derived.Test.YtkedjmhhcekmiaaPb3
section
namespace Go.Proofs.Ytkedjmhhcekmiaa
open Go.Dec Go.Shelf Go.RowKit Go.Maps Go.Sort
noncomputable def b_wormtubref06_older_1 (n_5 : Int) (s12 : (List Wormtubref06Held) × Int) : Option (Ctl ((List Wormtubref06Held) × Int) (((List Wormtubref06Held)))) :=
 if (decide (s12.2 < (s12.1.length : Int))) then (((idxL s12.1 s12.2).bind fun x19 => (if (decide (x19.C.Amount > 0)) then ((idxL s12.1 s12.2).bind fun x24 => (idxL s12.1 s12.2).bind fun x28 => bindv (List.set s12.1 (s12.2).toNat ({ x28 with C := { x28.C with Age := (w64 (x24.C.Age + n_5)) } })) fun l_32 => (idxL l_32 s12.2).bind fun x36 => (idxL l_32 s12.2).bind fun x40 => (idxL l_32 s12.2).bind fun x44 => (idxO 8 x40.C.Wood).bind fun j48 => (idxL l_32 s12.2).bind fun x50 => (idxO 8 x36.C.Wood).bind fun j108 => bindv (List.set l_32 (s12.2).toNat ({ x50 with C := { x50.C with Woods := updN x50.C.Woods j108 (w64 ((x44.C.Woods j48) + n_5)) } })) fun l_110 => (idxL l_110 s12.2).bind fun x114 => (idxL l_110 s12.2).bind fun x118 => (idxL l_110 s12.2).bind fun x122 => (idxO 8 x118.C.Place).bind fun j126 => (idxL l_110 s12.2).bind fun x128 => (idxO 8 x114.C.Place).bind fun j186 => bindv (List.set l_110 (s12.2).toNat ({ x128 with C := { x128.C with Places := updN x128.C.Places j186 (w64 ((x122.C.Places j126) + n_5)) } })) fun l_188 => some l_188) else (some s12.1) : Option ((List Wormtubref06Held))).bind fun j191 => some j191 : Option ((List Wormtubref06Held))).bind fun j197 => bindv (w64 (s12.2 + 1)) fun i203 => some (.next (j197, i203))) else (some (.done s12.1))
noncomputable def m_wormtubref06_older (l_1 : (List Wormtubref06Held)) (n_5 : Int) : Option (List Wormtubref06Held) :=
 (appO ([]) l_1).bind fun l_8 => (loopM (b_wormtubref06_older_1 n_5) (l_8, 0)).bind fun b205 => some b205
set_option maxHeartbeats 4000000 in
theorem c_wormtubref06_older (F0 : Fz) (l_1 : (List Wormtubref06Held)) (p2 : Option Addr) (k3 : Nat) (h4 : RepSl 25 rWormtubref06Held F0 p2 k3 l_1) (n_5 : Int) : CT0 Try.prog 42 [(.slice p2 l_1.length k3), (.int .i64 n_5)].toArray F0 (m_wormtubref06_older l_1 n_5) (fun r F v => ∃ (p0 : Option Addr) (k0 : Nat), v = (.slice p0 r.length k0) ∧ RepSl 25 rWormtubref06Held F p0 k0 r) := by
 refine CT0.enter Try.func42 rfl Try.ntmps42 rfl fun r R => ?_
 unfold m_wormtubref06_older
 refine .seq ?_
 refine .region ?_
 refine .assign rfl rfl ?_
 refine .nil ?_
 refine .code ?_
 refine .seq ?_
 refine .region ?_
 refine .sliceOwn0 rWormtubref06Held rfl Try.underlying62 Try.sizeOf66 (fun b6 => ?_)
 refine .move rfl rfl ?_
 refine .append 0 ok_t66 (Fz.le_refl _) rfl Try.underlying62 Try.underlying62 rfl rfl rfl h4 rfl rfl (fun l_8 p9 k10 e11 => ?_)
 refine .assign rfl rfl ?_
 refine .nil ?_
 refine .code ?_
 refine .seq ?_
 refine .seq ?_
 refine .region ?_
 refine .assign rfl rfl ?_
 refine .nil ?_
 refine .code ?_
 refine .block ?_
 refine .keep (.cons (k := 1) rfl (.cons (k := 5) rfl (.cons (k := 6) rfl (.nil _)))) ?_
 refine .loop (fun (s12 : (List Wormtubref06Held) × Int) a w => ∃ (F_13 : Fz) (p15 : Option Addr) (k16 : Nat), F0 ≤ F_13 ∧ Hd 91 [] [(1, (.int .i64 n_5)), (5, (.slice p15 s12.1.length k16)), (6, (.int .i64 s12.2))] F_13 [ownSl 25 rWormtubref06Held F_13 66 p15 k16 s12.1, R] a w) (fun b205 e a w => e = .exit 0 ∧ ∃ (F_206 : Fz) (p208 : Option Addr) (k209 : Nat), F0 ≤ F_206 ∧ Hd 91 [] [(5, (.slice p208 b205.length k209))] F_206 [ownSl 25 rWormtubref06Held F_206 66 p208 k209 b205, R] a w) ?_ ?_ ?_
 ·exact fun a w h => ⟨F0, p9, k10, (Fz.le_refl _), h.1.sub (.cons (k := 1) rfl (.cons (k := 5) rfl (.cons (k := 6) rfl (.nil _)))), h.2⟩
 ·intro s12 ctl
  refine GC.ex (fun a w ⟨F_13, p15, k16, l_14, hA⟩ => ⟨_, hA, ?_⟩)
  unfold b_wormtubref06_older_1
  refine .seq ?_
  refine .seq ?_
  refine .region ?_
  refine .move rfl rfl ?_
  refine .move rfl rfl ?_
  refine .lenS rfl rfl Try.underlying62 rfl ?_
  refine .lss rfl rfl rfl ?_
  refine .nil ?_
  refine .code ?_
  refine .cond rfl (fun hb18 => ?_) (fun hb18 => ?_)
  ·skip
   refine .skip ?_
   refine .code ?_
   refine .seq ?_
   refine .keep (.cons (k := 1) rfl (.cons (k := 5) rfl (.cons (k := 6) rfl (.nil _)))) ?_
   refine GC.join0 (σ := (List Wormtubref06Held)) (fun j197 a w => ∃ (F_198 : Fz) (p200 : Option Addr) (k201 : Nat), F_13 ≤ F_198 ∧ Hd 91 [] [(1, (.int .i64 n_5)), (5, (.slice p200 j197.length k201)), (6, (.int .i64 s12.2))] F_198 [ownSl 25 rWormtubref06Held F_198 66 p200 k201 j197, R] a w) (fun sj => ?_) (fun j197 hs0 => GE.ex (fun a w ⟨F_198, p200, k201, l_199, hA⟩ => ⟨_, hA, ?_⟩))
   ·skip
    refine .block ?_
    refine .seq ?_
    refine .region ?_
    refine .move rfl rfl ?_
    refine .move rfl rfl ?_
    refine .bind (fun x19 e20 => ?_)
    refine .ownAddr 0 rfl e20 (fun b21 hp22 => ?_)
    refine .idxOwn rfl Try.underlying62 Try.sizeOf66 hp22 e20 rfl rfl ?_
    refine .fieldAddr rfl Try.underlying66 rfl Try.sizeOf31 rfl ?_
    refine .fieldAddr rfl Try.underlying31 rfl Try.sizeOf3 rfl ?_
    refine .loadOwn (off := 6) (Φ := fun v => v = (.int .i64 x19.C.Amount)) 0 rfl (Fz.le_refl _) rfl Try.isAgg3 hp22 e20 rfl rfl (fun vs ⟨q0, q1, h, r0⟩ => ⟨_, by subst h; exact rfl, rfl⟩) (fun v hv => ?_)
    subst hv
    refine .gtr rfl rfl rfl ?_
    refine .nil ?_
    refine .code ?_
    refine .keep (.cons (k := 1) rfl (.cons (k := 5) rfl (.cons (k := 6) rfl (.cons (k := 22) rfl (.nil _))))) ?_
    refine GC.join0 (σ := (List Wormtubref06Held)) (fun j191 a w => ∃ (F_192 : Fz) (p194 : Option Addr) (k195 : Nat), F_13 ≤ F_192 ∧ Hd 91 [] [(1, (.int .i64 n_5)), (5, (.slice p194 j191.length k195)), (6, (.int .i64 s12.2))] F_192 [ownSl 25 rWormtubref06Held F_192 66 p194 k195 j191, R] a w) (fun sj => ?_) (fun j191 hs0 => GE.ex (fun a w ⟨F_192, p194, k195, l_193, hA⟩ => ⟨_, hA, ?_⟩))
    ·skip
     refine .cond rfl (fun hb23 => ?_) (fun hb23 => ?_)
     ·skip
      refine .seq ?_
      refine .region ?_
      refine .move rfl rfl ?_
      refine .move rfl rfl ?_
      refine .move rfl rfl ?_
      refine .move rfl rfl ?_
      refine .bind (fun x24 e25 => ?_)
      refine .ownAddr 0 rfl e25 (fun b26 hp27 => ?_)
      refine .idxOwn rfl Try.underlying62 Try.sizeOf66 hp27 e25 rfl rfl ?_
      refine .fieldAddr rfl Try.underlying66 rfl Try.sizeOf31 rfl ?_
      refine .fieldAddr rfl Try.underlying31 rfl Try.sizeOf3 rfl ?_
      refine .loadOwn (off := 7) (Φ := fun v => v = (.int .i64 x24.C.Age)) 0 rfl (Fz.le_refl _) rfl Try.isAgg3 hp27 e25 rfl rfl (fun vs ⟨q0, q1, h, r0⟩ => ⟨_, by subst h; exact rfl, rfl⟩) (fun v hv => ?_)
      subst hv
      refine .move rfl rfl ?_
      refine .add rfl rfl rfl ?_
      refine .bind (fun x28 e29 => ?_)
      refine .ownAddr 0 rfl e29 (fun b30 hp31 => ?_)
      refine .idxOwn rfl Try.underlying62 Try.sizeOf66 hp31 e29 rfl rfl ?_
      refine .fieldAddr rfl Try.underlying66 rfl Try.sizeOf31 rfl ?_
      refine .fieldAddr rfl Try.underlying31 rfl Try.sizeOf3 rfl ?_
      refine .letv (fun l_32 e33 => ?_)
      have hn34 : s12.1.length = l_32.length := by rw [e33, List.length_set]
      refine .storeOwn0 (z' := { x28 with C := { x28.C with Age := (w64 (x24.C.Age + n_5)) } }) (off := 7) (us := [(.int .i64 (w64 (x24.C.Age + n_5)))]) 0 rfl Try.sizeOf3 hp31 e29 rfl rfl rfl rfl rfl rfl rfl (fun F' vs le ⟨q0, q1, h, r0⟩ => ⟨q0, q1, by subst h; exact rfl, r0⟩) e33 ?_
      refine .nil ?_
      refine .code ?_
      refine .seq ?_
      refine .keep (.cons (k := 1) rfl (.cons (k := 5) rfl (.cons (k := 6) rfl (.nil _)))) ?_
      refine .bind (fun x36 e37 => ?_)
      refine .ownAddr 0 rfl e37 (fun b38 hp39 => ?_)
      refine .bind (fun x40 e41 => ?_)
      refine .ownAddr 0 rfl e41 (fun b42 hp43 => ?_)
      refine .bind (fun x44 e45 => ?_)
      refine .ownAddr 0 rfl e45 (fun b46 hp47 => ?_)
      refine .bind (fun j48 hj49 => ?_)
      refine .bind (fun x50 e51 => ?_)
      refine .ownAddr 0 rfl e51 (fun b52 hp53 => ?_)
      refine .drawGD 26 0 (fun env35 => [((.slice p15 s12.1.length k16), fun _ => True), ((.int .i64 s12.2), fun _ => True), ((.slice p15 s12.1.length k16), fun _ => True), ((.int .i64 s12.2), fun _ => True), ((.pointer (some ⟨b38, 0 + (s12.2).toNat * 25, none⟩)), fun _ => True), ((.pointer (some ⟨b38, 0 + (s12.2).toNat * 25, none⟩)), fun _ => True), ((.pointer (some ⟨b38, 0 + (s12.2).toNat * 25 + 1, none⟩)), fun _ => True), ((.int .i64 x36.C.Wood), fun _ => True), ((.slice p15 s12.1.length k16), fun _ => True), ((.int .i64 s12.2), fun _ => True), ((.slice p15 s12.1.length k16), fun _ => True), ((.int .i64 s12.2), fun _ => True), ((.pointer (some ⟨b42, 0 + (s12.2).toNat * 25, none⟩)), fun _ => True), ((.pointer (some ⟨b42, 0 + (s12.2).toNat * 25, none⟩)), fun _ => True), ((.pointer (some ⟨b42, 0 + (s12.2).toNat * 25 + 1, none⟩)), fun _ => True), ((.int .i64 x40.C.Wood), fun _ => True), ((.pointer (some ⟨b46, 0 + (s12.2).toNat * 25, none⟩)), fun _ => True), ((.pointer (some ⟨b46, 0 + (s12.2).toNat * 25, none⟩)), fun _ => True), ((.pointer (some ⟨b46, 0 + (s12.2).toNat * 25 + 8, none⟩)), fun _ => True), ((.pointer (some ⟨b46, 0 + (s12.2).toNat * 25 + 8 + j48 * 1, none⟩)), fun _ => True), ((.int .i64 (x44.C.Woods j48)), fun _ => True), ((.int .i64 n_5), fun _ => True), ((.int .i64 (w64 ((x44.C.Woods j48) + n_5))), fun _ => True), ((.pointer (some ⟨b52, 0 + (s12.2).toNat * 25, none⟩)), fun _ => True), ((.pointer (some ⟨b52, 0 + (s12.2).toNat * 25, none⟩)), fun _ => True), ((.pointer (some ⟨b52, 0 + (s12.2).toNat * 25 + 8, none⟩)), fun _ => True)]) (fun L env35 => [ownSl 25 rWormtubref06Held F_13 66 p15 k16 l_32, R]) mixedOK (by kernel_rfl) (deepN (k := 26) (n := 28) rfl (allLt28 (p := fun t => 26 ≤ t → ∀ j, j < t → ∃ s, depB _ s t j = true) (fun h => absurd h (by decide)) (fun h => absurd h (by decide)) (fun h => absurd h (by decide)) (fun h => absurd h (by decide)) (fun h => absurd h (by decide)) (fun h => absurd h (by decide)) (fun h => absurd h (by decide)) (fun h => absurd h (by decide)) (fun h => absurd h (by decide)) (fun h => absurd h (by decide)) (fun h => absurd h (by decide)) (fun h => absurd h (by decide)) (fun h => absurd h (by decide)) (fun h => absurd h (by decide)) (fun h => absurd h (by decide)) (fun h => absurd h (by decide)) (fun h => absurd h (by decide)) (fun h => absurd h (by decide)) (fun h => absurd h (by decide)) (fun h => absurd h (by decide)) (fun h => absurd h (by decide)) (fun h => absurd h (by decide)) (fun h => absurd h (by decide)) (fun h => absurd h (by decide)) (fun h => absurd h (by decide)) (fun h => absurd h (by decide)) (fun _ => allLt26 (p := fun j => ∃ s, depB _ s 26 j = true) ⟨1, rfl⟩ ⟨1, rfl⟩ ⟨1, rfl⟩ ⟨1, rfl⟩ ⟨1, rfl⟩ ⟨1, rfl⟩ ⟨1, rfl⟩ ⟨1, rfl⟩ ⟨1, rfl⟩ ⟨1, rfl⟩ ⟨1, rfl⟩ ⟨1, rfl⟩ ⟨1, rfl⟩ ⟨1, rfl⟩ ⟨1, rfl⟩ ⟨1, rfl⟩ ⟨1, rfl⟩ ⟨1, rfl⟩ ⟨1, rfl⟩ ⟨1, rfl⟩ ⟨1, rfl⟩ ⟨1, rfl⟩ ⟨1, rfl⟩ ⟨3, rfl⟩ ⟨2, rfl⟩ ⟨1, rfl⟩) (fun _ => allLt27 (p := fun j => ∃ s, depB _ s 27 j = true) ⟨1, rfl⟩ ⟨1, rfl⟩ ⟨1, rfl⟩ ⟨1, rfl⟩ ⟨1, rfl⟩ ⟨1, rfl⟩ ⟨1, rfl⟩ ⟨1, rfl⟩ ⟨1, rfl⟩ ⟨1, rfl⟩ ⟨1, rfl⟩ ⟨1, rfl⟩ ⟨1, rfl⟩ ⟨1, rfl⟩ ⟨1, rfl⟩ ⟨1, rfl⟩ ⟨1, rfl⟩ ⟨1, rfl⟩ ⟨1, rfl⟩ ⟨1, rfl⟩ ⟨1, rfl⟩ ⟨1, rfl⟩ ⟨1, rfl⟩ ⟨4, rfl⟩ ⟨3, rfl⟩ ⟨2, rfl⟩ ⟨1, rfl⟩))) rfl (fun _ => rfl) (by kernel_rfl) (fun _ => rfl) ?_ (fun env35 F_54 l_55 hphi => ?_)
      ·skip
       refine .cons (fun L env35 F_56 l_57 hL hdn hup hphi => ⟨[(5, (.slice p15 s12.1.length k16))], fun S hS hV => (.cons (hS _ _ rfl) (Sub.nil _)), ?_⟩) ?_
       ·skip
        refine .move rfl rfl ?_
        exact .finV rfl rfl (Fz.le_refl _)
       refine .cons (fun L env35 F_58 l_59 hL hdn hup hphi => ⟨[(6, (.int .i64 s12.2))], fun S hS hV => (.cons (hS _ _ rfl) (Sub.nil _)), ?_⟩) ?_
       ·skip
        refine .move rfl rfl ?_
        exact .finV rfl rfl (Fz.le_refl _)
       refine .cons (fun L env35 F_60 l_61 hL hdn hup hphi => ⟨[(5, (.slice p15 s12.1.length k16))], fun S hS hV => (.cons (hS _ _ rfl) (Sub.nil _)), ?_⟩) ?_
       ·skip
        refine .move rfl rfl ?_
        exact .finV rfl rfl (Fz.le_refl _)
       refine .cons (fun L env35 F_62 l_63 hL hdn hup hphi => ⟨[(6, (.int .i64 s12.2))], fun S hS hV => (.cons (hS _ _ rfl) (Sub.nil _)), ?_⟩) ?_
       ·skip
        refine .move rfl rfl ?_
        exact .finV rfl rfl (Fz.le_refl _)
       refine .cons (fun L env35 F_64 l_65 hL hdn hup hphi => ⟨[(38, (.slice p15 s12.1.length k16)), (39, (.int .i64 s12.2))], fun S hS hV => (.cons (hV 2 38 _ (hdn 1 2 rfl) rfl rfl) (.cons (hV 3 39 _ (hdn 1 3 rfl) rfl rfl) (Sub.nil _))), ?_⟩) ?_
       ·skip
        refine .idxOwnN hn34 rfl Try.underlying62 Try.sizeOf66 hp39 e37 rfl rfl ?_
        exact .finV rfl rfl (Fz.le_refl _)
       refine .cons (fun L env35 F_66 l_67 hL hdn hup hphi => ⟨[(40, (.pointer (some ⟨b38, 0 + (s12.2).toNat * 25, none⟩)))], fun S hS hV => (.cons (hV 4 40 _ (hdn 1 4 rfl) rfl rfl) (Sub.nil _)), ?_⟩) ?_
       ·skip
        refine .fieldAddr rfl Try.underlying66 rfl Try.sizeOf31 rfl ?_
        exact .finV rfl rfl (Fz.le_refl _)
       refine .cons (fun L env35 F_68 l_69 hL hdn hup hphi => ⟨[(41, (.pointer (some ⟨b38, 0 + (s12.2).toNat * 25, none⟩)))], fun S hS hV => (.cons (hV 5 41 _ (hdn 1 5 rfl) rfl rfl) (Sub.nil _)), ?_⟩) ?_
       ·skip
        refine .fieldAddr rfl Try.underlying31 rfl Try.sizeOf3 rfl ?_
        exact .finV rfl rfl (Fz.le_refl _)
       refine .cons (fun L env35 F_70 l_71 hL hdn hup hphi => ⟨[(42, (.pointer (some ⟨b38, 0 + (s12.2).toNat * 25 + 1, none⟩)))], fun S hS hV => (.cons (hV 6 42 _ (hdn 1 6 rfl) rfl rfl) (Sub.nil _)), ?_⟩) ?_
       ·skip
        refine .loadOwn (off := 1) (Φ := fun v => v = (.int .i64 x36.C.Wood)) 0 rfl l_71 rfl Try.isAgg3 hp39 e37 rfl rfl (fun vs ⟨q0, q1, h, r0⟩ => ⟨_, by subst h; exact rfl, rfl⟩) (fun v hv => ?_)
        subst hv
        exact .finV rfl rfl (Fz.le_refl _)
       refine .cons (fun L env35 F_72 l_73 hL hdn hup hphi => ⟨[(5, (.slice p15 s12.1.length k16))], fun S hS hV => (.cons (hS _ _ rfl) (Sub.nil _)), ?_⟩) ?_
       ·skip
        refine .move rfl rfl ?_
        exact .finV rfl rfl (Fz.le_refl _)
       refine .cons (fun L env35 F_74 l_75 hL hdn hup hphi => ⟨[(6, (.int .i64 s12.2))], fun S hS hV => (.cons (hS _ _ rfl) (Sub.nil _)), ?_⟩) ?_
       ·skip
        refine .move rfl rfl ?_
        exact .finV rfl rfl (Fz.le_refl _)
       refine .cons (fun L env35 F_76 l_77 hL hdn hup hphi => ⟨[(5, (.slice p15 s12.1.length k16))], fun S hS hV => (.cons (hS _ _ rfl) (Sub.nil _)), ?_⟩) ?_
       ·skip
        refine .move rfl rfl ?_
        exact .finV rfl rfl (Fz.le_refl _)
       refine .cons (fun L env35 F_78 l_79 hL hdn hup hphi => ⟨[(6, (.int .i64 s12.2))], fun S hS hV => (.cons (hS _ _ rfl) (Sub.nil _)), ?_⟩) ?_
       ·skip
        refine .move rfl rfl ?_
        exact .finV rfl rfl (Fz.le_refl _)
       refine .cons (fun L env35 F_80 l_81 hL hdn hup hphi => ⟨[(46, (.slice p15 s12.1.length k16)), (47, (.int .i64 s12.2))], fun S hS hV => (.cons (hV 10 46 _ (hdn 1 10 rfl) rfl rfl) (.cons (hV 11 47 _ (hdn 1 11 rfl) rfl rfl) (Sub.nil _))), ?_⟩) ?_
       ·skip
        refine .idxOwnN hn34 rfl Try.underlying62 Try.sizeOf66 hp43 e41 rfl rfl ?_
        exact .finV rfl rfl (Fz.le_refl _)
       refine .cons (fun L env35 F_82 l_83 hL hdn hup hphi => ⟨[(48, (.pointer (some ⟨b42, 0 + (s12.2).toNat * 25, none⟩)))], fun S hS hV => (.cons (hV 12 48 _ (hdn 1 12 rfl) rfl rfl) (Sub.nil _)), ?_⟩) ?_
       ·skip
        refine .fieldAddr rfl Try.underlying66 rfl Try.sizeOf31 rfl ?_
        exact .finV rfl rfl (Fz.le_refl _)
       refine .cons (fun L env35 F_84 l_85 hL hdn hup hphi => ⟨[(49, (.pointer (some ⟨b42, 0 + (s12.2).toNat * 25, none⟩)))], fun S hS hV => (.cons (hV 13 49 _ (hdn 1 13 rfl) rfl rfl) (Sub.nil _)), ?_⟩) ?_
       ·skip
        refine .fieldAddr rfl Try.underlying31 rfl Try.sizeOf3 rfl ?_
        exact .finV rfl rfl (Fz.le_refl _)
       refine .cons (fun L env35 F_86 l_87 hL hdn hup hphi => ⟨[(50, (.pointer (some ⟨b42, 0 + (s12.2).toNat * 25 + 1, none⟩)))], fun S hS hV => (.cons (hV 14 50 _ (hdn 1 14 rfl) rfl rfl) (Sub.nil _)), ?_⟩) ?_
       ·skip
        refine .loadOwn (off := 1) (Φ := fun v => v = (.int .i64 x40.C.Wood)) 0 rfl l_87 rfl Try.isAgg3 hp43 e41 rfl rfl (fun vs ⟨q0, q1, h, r0⟩ => ⟨_, by subst h; exact rfl, rfl⟩) (fun v hv => ?_)
        subst hv
        exact .finV rfl rfl (Fz.le_refl _)
       refine .cons (fun L env35 F_88 l_89 hL hdn hup hphi => ⟨[(44, (.slice p15 s12.1.length k16)), (45, (.int .i64 s12.2))], fun S hS hV => (.cons (hV 8 44 _ (hdn 1 8 rfl) rfl rfl) (.cons (hV 9 45 _ (hdn 1 9 rfl) rfl rfl) (Sub.nil _))), ?_⟩) ?_
       ·skip
        refine .idxOwnN hn34 rfl Try.underlying62 Try.sizeOf66 hp47 e45 rfl rfl ?_
        exact .finV rfl rfl (Fz.le_refl _)
       refine .cons (fun L env35 F_90 l_91 hL hdn hup hphi => ⟨[(52, (.pointer (some ⟨b46, 0 + (s12.2).toNat * 25, none⟩)))], fun S hS hV => (.cons (hV 16 52 _ (hdn 1 16 rfl) rfl rfl) (Sub.nil _)), ?_⟩) ?_
       ·skip
        refine .fieldAddr rfl Try.underlying66 rfl Try.sizeOf31 rfl ?_
        exact .finV rfl rfl (Fz.le_refl _)
       refine .cons (fun L env35 F_92 l_93 hL hdn hup hphi => ⟨[(53, (.pointer (some ⟨b46, 0 + (s12.2).toNat * 25, none⟩)))], fun S hS hV => (.cons (hV 17 53 _ (hdn 1 17 rfl) rfl rfl) (Sub.nil _)), ?_⟩) ?_
       ·skip
        refine .fieldAddr rfl Try.underlying31 rfl Try.sizeOf29 rfl ?_
        exact .finV rfl rfl (Fz.le_refl _)
       refine .cons (fun L env35 F_94 l_95 hL hdn hup hphi => ⟨[(51, (.int .i64 x40.C.Wood)), (54, (.pointer (some ⟨b46, 0 + (s12.2).toNat * 25 + 8, none⟩)))], fun S hS hV => (.cons (hV 15 51 _ (hdn 1 15 rfl) rfl rfl) (.cons (hV 18 54 _ (hdn 1 18 rfl) rfl rfl) (Sub.nil _))), ?_⟩) ?_
       ·skip
        refine .indexAddrA rfl Try.underlying29 Try.sizeOf3 rfl rfl hj49 ?_
        exact .finV rfl rfl (Fz.le_refl _)
       refine .cons (fun L env35 F_96 l_97 hL hdn hup hphi => ⟨[(55, (.pointer (some ⟨b46, 0 + (s12.2).toNat * 25 + 8 + j48 * 1, none⟩)))], fun S hS hV => (.cons (hV 19 55 _ (hdn 1 19 rfl) rfl rfl) (Sub.nil _)), ?_⟩) ?_
       ·skip
        refine .loadOwn (off := 8 + j48 * 1) (Φ := fun v => v = (.int .i64 (x44.C.Woods j48))) 0 rfl l_97 rfl Try.isAgg3 hp47 e45 rfl (by omega) (fun vs ⟨q0, q1, h, r0⟩ => ⟨_, by subst h; exact (allLt8 (p := fun j48 => ((cWormtubref06Held x44 q0 q1))[8 + j48 * 1]? = some (.int .i64 (x44.C.Woods j48))) rfl rfl rfl rfl rfl rfl rfl rfl _ (idxO_some hj49).2.2.2), rfl⟩) (fun v hv => ?_)
        subst hv
        exact .finV rfl rfl (Fz.le_refl _)
       refine .cons (fun L env35 F_98 l_99 hL hdn hup hphi => ⟨[(1, (.int .i64 n_5))], fun S hS hV => (.cons (hS _ _ rfl) (Sub.nil _)), ?_⟩) ?_
       ·skip
        refine .move rfl rfl ?_
        exact .finV rfl rfl (Fz.le_refl _)
       refine .cons (fun L env35 F_100 l_101 hL hdn hup hphi => ⟨[(56, (.int .i64 (x44.C.Woods j48))), (57, (.int .i64 n_5))], fun S hS hV => (.cons (hV 20 56 _ (hdn 1 20 rfl) rfl rfl) (.cons (hV 21 57 _ (hdn 1 21 rfl) rfl rfl) (Sub.nil _))), ?_⟩) ?_
       ·skip
        refine .add rfl rfl rfl ?_
        exact .finV rfl rfl (Fz.le_refl _)
       refine .cons (fun L env35 F_102 l_103 hL hdn hup hphi => ⟨[(36, (.slice p15 s12.1.length k16)), (37, (.int .i64 s12.2))], fun S hS hV => (.cons (hV 0 36 _ (hdn 1 0 rfl) rfl rfl) (.cons (hV 1 37 _ (hdn 1 1 rfl) rfl rfl) (Sub.nil _))), ?_⟩) ?_
       ·skip
        refine .idxOwnN hn34 rfl Try.underlying62 Try.sizeOf66 hp53 e51 rfl rfl ?_
        exact .finV rfl rfl (Fz.le_refl _)
       refine .cons (fun L env35 F_104 l_105 hL hdn hup hphi => ⟨[(59, (.pointer (some ⟨b52, 0 + (s12.2).toNat * 25, none⟩)))], fun S hS hV => (.cons (hV 23 59 _ (hdn 1 23 rfl) rfl rfl) (Sub.nil _)), ?_⟩) ?_
       ·skip
        refine .fieldAddr rfl Try.underlying66 rfl Try.sizeOf31 rfl ?_
        exact .finV rfl rfl (Fz.le_refl _)
       refine .cons (fun L env35 F_106 l_107 hL hdn hup hphi => ⟨[(60, (.pointer (some ⟨b52, 0 + (s12.2).toNat * 25, none⟩)))], fun S hS hV => (.cons (hV 24 60 _ (hdn 1 24 rfl) rfl rfl) (Sub.nil _)), ?_⟩) ?_
       ·skip
        refine .fieldAddr rfl Try.underlying31 rfl Try.sizeOf29 rfl ?_
        exact .finV rfl rfl (Fz.le_refl _)
       exact .nil
      refine .norm (S' := [(1, (.int .i64 n_5)), (5, (.slice p15 s12.1.length k16)), (6, (.int .i64 s12.2)), (36, (.slice p15 s12.1.length k16)), (37, (.int .i64 s12.2)), (38, (.slice p15 s12.1.length k16)), (39, (.int .i64 s12.2)), (40, (.pointer (some ⟨b38, 0 + (s12.2).toNat * 25, none⟩))), (41, (.pointer (some ⟨b38, 0 + (s12.2).toNat * 25, none⟩))), (42, (.pointer (some ⟨b38, 0 + (s12.2).toNat * 25 + 1, none⟩))), (43, (.int .i64 x36.C.Wood)), (44, (.slice p15 s12.1.length k16)), (45, (.int .i64 s12.2)), (46, (.slice p15 s12.1.length k16)), (47, (.int .i64 s12.2)), (48, (.pointer (some ⟨b42, 0 + (s12.2).toNat * 25, none⟩))), (49, (.pointer (some ⟨b42, 0 + (s12.2).toNat * 25, none⟩))), (50, (.pointer (some ⟨b42, 0 + (s12.2).toNat * 25 + 1, none⟩))), (51, (.int .i64 x40.C.Wood)), (52, (.pointer (some ⟨b46, 0 + (s12.2).toNat * 25, none⟩))), (53, (.pointer (some ⟨b46, 0 + (s12.2).toNat * 25, none⟩))), (54, (.pointer (some ⟨b46, 0 + (s12.2).toNat * 25 + 8, none⟩))), (55, (.pointer (some ⟨b46, 0 + (s12.2).toNat * 25 + 8 + j48 * 1, none⟩))), (56, (.int .i64 (x44.C.Woods j48))), (57, (.int .i64 n_5)), (58, (.int .i64 (w64 ((x44.C.Woods j48) + n_5)))), (59, (.pointer (some ⟨b52, 0 + (s12.2).toNat * 25, none⟩))), (60, (.pointer (some ⟨b52, 0 + (s12.2).toNat * 25, none⟩))), (61, (.pointer (some ⟨b52, 0 + (s12.2).toNat * 25 + 8, none⟩)))]) (.cons (k := 1) rfl (.cons (k := 5) rfl (.cons (k := 6) rfl (.cons (k := 36) rfl (.cons (k := 37) rfl (.cons (k := 38) rfl (.cons (k := 39) rfl (.cons (k := 40) rfl (.cons (k := 41) rfl (.cons (k := 42) rfl (.cons (k := 43) rfl (.cons (k := 44) rfl (.cons (k := 45) rfl (.cons (k := 46) rfl (.cons (k := 47) rfl (.cons (k := 48) rfl (.cons (k := 49) rfl (.cons (k := 50) rfl (.cons (k := 51) rfl (.cons (k := 52) rfl (.cons (k := 53) rfl (.cons (k := 54) rfl (.cons (k := 55) rfl (.cons (k := 56) rfl (.cons (k := 57) rfl (.cons (k := 58) rfl (.cons (k := 59) rfl (.cons (k := 60) rfl (.cons (k := 61) rfl (.nil _)))))))))))))))))))))))))))))) (rfl : _ = [ownSl 25 rWormtubref06Held F_13 66 p15 k16 l_32, R]) ?_
      refine .bind (fun j108 hj109 => ?_)
      refine .indexAddrA rfl Try.underlying29 Try.sizeOf3 rfl rfl hj109 ?_
      refine .letv (fun l_110 e111 => ?_)
      have hn112 : s12.1.length = l_110.length := by rw [e111, List.length_set, ← hn34]
      refine .storeOwn0 (z' := { x50 with C := { x50.C with Woods := updN x50.C.Woods j108 (w64 ((x44.C.Woods j48) + n_5)) } }) (off := 8 + j108 * 1) (us := [(.int .i64 (w64 ((x44.C.Woods j48) + n_5)))]) 0 rfl Try.sizeOf3 hp53 e51 rfl (by omega) rfl rfl rfl rfl (allLt8 (p := fun j108 => Nat.ble (8 + j108 * 1 + 1) 25 = true) rfl rfl rfl rfl rfl rfl rfl rfl _ (idxO_some hj109).2.2.2) (fun F' vs le ⟨q0, q1, h, r0⟩ => ⟨q0, q1, by subst h; exact (allLt8 (p := fun j108 => setMany (cWormtubref06Held x50 q0 q1) (8 + j108 * 1) [(.int .i64 (w64 ((x44.C.Woods j48) + n_5)))] = (cWormtubref06Held ({ x50 with C := { x50.C with Woods := updN x50.C.Woods j108 (w64 ((x44.C.Woods j48) + n_5)) } }) q0 q1)) rfl rfl rfl rfl rfl rfl rfl rfl _ (idxO_some hj109).2.2.2), r0⟩) e111 ?_
      refine .nil ?_
      refine .keep (.cons (k := 1) rfl (.cons (k := 5) rfl (.cons (k := 6) rfl (.nil _)))) ?_
      refine .code ?_
      refine .keep (.cons (k := 1) rfl (.cons (k := 5) rfl (.cons (k := 6) rfl (.nil _)))) ?_
      refine .bind (fun x114 e115 => ?_)
      refine .ownAddr 0 rfl e115 (fun b116 hp117 => ?_)
      refine .bind (fun x118 e119 => ?_)
      refine .ownAddr 0 rfl e119 (fun b120 hp121 => ?_)
      refine .bind (fun x122 e123 => ?_)
      refine .ownAddr 0 rfl e123 (fun b124 hp125 => ?_)
      refine .bind (fun j126 hj127 => ?_)
      refine .bind (fun x128 e129 => ?_)
      refine .ownAddr 0 rfl e129 (fun b130 hp131 => ?_)
      refine .drawGD 26 0 (fun env113 => [((.slice p15 s12.1.length k16), fun _ => True), ((.int .i64 s12.2), fun _ => True), ((.slice p15 s12.1.length k16), fun _ => True), ((.int .i64 s12.2), fun _ => True), ((.pointer (some ⟨b116, 0 + (s12.2).toNat * 25, none⟩)), fun _ => True), ((.pointer (some ⟨b116, 0 + (s12.2).toNat * 25, none⟩)), fun _ => True), ((.pointer (some ⟨b116, 0 + (s12.2).toNat * 25 + 2, none⟩)), fun _ => True), ((.int .i64 x114.C.Place), fun _ => True), ((.slice p15 s12.1.length k16), fun _ => True), ((.int .i64 s12.2), fun _ => True), ((.slice p15 s12.1.length k16), fun _ => True), ((.int .i64 s12.2), fun _ => True), ((.pointer (some ⟨b120, 0 + (s12.2).toNat * 25, none⟩)), fun _ => True), ((.pointer (some ⟨b120, 0 + (s12.2).toNat * 25, none⟩)), fun _ => True), ((.pointer (some ⟨b120, 0 + (s12.2).toNat * 25 + 2, none⟩)), fun _ => True), ((.int .i64 x118.C.Place), fun _ => True), ((.pointer (some ⟨b124, 0 + (s12.2).toNat * 25, none⟩)), fun _ => True), ((.pointer (some ⟨b124, 0 + (s12.2).toNat * 25, none⟩)), fun _ => True), ((.pointer (some ⟨b124, 0 + (s12.2).toNat * 25 + 16, none⟩)), fun _ => True), ((.pointer (some ⟨b124, 0 + (s12.2).toNat * 25 + 16 + j126 * 1, none⟩)), fun _ => True), ((.int .i64 (x122.C.Places j126)), fun _ => True), ((.int .i64 n_5), fun _ => True), ((.int .i64 (w64 ((x122.C.Places j126) + n_5))), fun _ => True), ((.pointer (some ⟨b130, 0 + (s12.2).toNat * 25, none⟩)), fun _ => True), ((.pointer (some ⟨b130, 0 + (s12.2).toNat * 25, none⟩)), fun _ => True), ((.pointer (some ⟨b130, 0 + (s12.2).toNat * 25 + 16, none⟩)), fun _ => True)]) (fun L env113 => [ownSl 25 rWormtubref06Held F_13 66 p15 k16 l_110, R]) mixedOK (by kernel_rfl) (deepN (k := 26) (n := 28) rfl (allLt28 (p := fun t => 26 ≤ t → ∀ j, j < t → ∃ s, depB _ s t j = true) (fun h => absurd h (by decide)) (fun h => absurd h (by decide)) (fun h => absurd h (by decide)) (fun h => absurd h (by decide)) (fun h => absurd h (by decide)) (fun h => absurd h (by decide)) (fun h => absurd h (by decide)) (fun h => absurd h (by decide)) (fun h => absurd h (by decide)) (fun h => absurd h (by decide)) (fun h => absurd h (by decide)) (fun h => absurd h (by decide)) (fun h => absurd h (by decide)) (fun h => absurd h (by decide)) (fun h => absurd h (by decide)) (fun h => absurd h (by decide)) (fun h => absurd h (by decide)) (fun h => absurd h (by decide)) (fun h => absurd h (by decide)) (fun h => absurd h (by decide)) (fun h => absurd h (by decide)) (fun h => absurd h (by decide)) (fun h => absurd h (by decide)) (fun h => absurd h (by decide)) (fun h => absurd h (by decide)) (fun h => absurd h (by decide)) (fun _ => allLt26 (p := fun j => ∃ s, depB _ s 26 j = true) ⟨1, rfl⟩ ⟨1, rfl⟩ ⟨1, rfl⟩ ⟨1, rfl⟩ ⟨1, rfl⟩ ⟨1, rfl⟩ ⟨1, rfl⟩ ⟨1, rfl⟩ ⟨1, rfl⟩ ⟨1, rfl⟩ ⟨1, rfl⟩ ⟨1, rfl⟩ ⟨1, rfl⟩ ⟨1, rfl⟩ ⟨1, rfl⟩ ⟨1, rfl⟩ ⟨1, rfl⟩ ⟨1, rfl⟩ ⟨1, rfl⟩ ⟨1, rfl⟩ ⟨1, rfl⟩ ⟨1, rfl⟩ ⟨1, rfl⟩ ⟨3, rfl⟩ ⟨2, rfl⟩ ⟨1, rfl⟩) (fun _ => allLt27 (p := fun j => ∃ s, depB _ s 27 j = true) ⟨1, rfl⟩ ⟨1, rfl⟩ ⟨1, rfl⟩ ⟨1, rfl⟩ ⟨1, rfl⟩ ⟨1, rfl⟩ ⟨1, rfl⟩ ⟨1, rfl⟩ ⟨1, rfl⟩ ⟨1, rfl⟩ ⟨1, rfl⟩ ⟨1, rfl⟩ ⟨1, rfl⟩ ⟨1, rfl⟩ ⟨1, rfl⟩ ⟨1, rfl⟩ ⟨1, rfl⟩ ⟨1, rfl⟩ ⟨1, rfl⟩ ⟨1, rfl⟩ ⟨1, rfl⟩ ⟨1, rfl⟩ ⟨1, rfl⟩ ⟨4, rfl⟩ ⟨3, rfl⟩ ⟨2, rfl⟩ ⟨1, rfl⟩))) rfl (fun _ => rfl) (by kernel_rfl) (fun _ => rfl) ?_ (fun env113 F_132 l_133 hphi => ?_)
      ·skip
       refine .cons (fun L env113 F_134 l_135 hL hdn hup hphi => ⟨[(5, (.slice p15 s12.1.length k16))], fun S hS hV => (.cons (hS _ _ rfl) (Sub.nil _)), ?_⟩) ?_
       ·skip
        refine .move rfl rfl ?_
        exact .finV rfl rfl (Fz.le_refl _)
       refine .cons (fun L env113 F_136 l_137 hL hdn hup hphi => ⟨[(6, (.int .i64 s12.2))], fun S hS hV => (.cons (hS _ _ rfl) (Sub.nil _)), ?_⟩) ?_
       ·skip
        refine .move rfl rfl ?_
        exact .finV rfl rfl (Fz.le_refl _)
       refine .cons (fun L env113 F_138 l_139 hL hdn hup hphi => ⟨[(5, (.slice p15 s12.1.length k16))], fun S hS hV => (.cons (hS _ _ rfl) (Sub.nil _)), ?_⟩) ?_
       ·skip
        refine .move rfl rfl ?_
        exact .finV rfl rfl (Fz.le_refl _)
       refine .cons (fun L env113 F_140 l_141 hL hdn hup hphi => ⟨[(6, (.int .i64 s12.2))], fun S hS hV => (.cons (hS _ _ rfl) (Sub.nil _)), ?_⟩) ?_
       ·skip
        refine .move rfl rfl ?_
        exact .finV rfl rfl (Fz.le_refl _)
       refine .cons (fun L env113 F_142 l_143 hL hdn hup hphi => ⟨[(65, (.slice p15 s12.1.length k16)), (66, (.int .i64 s12.2))], fun S hS hV => (.cons (hV 2 65 _ (hdn 1 2 rfl) rfl rfl) (.cons (hV 3 66 _ (hdn 1 3 rfl) rfl rfl) (Sub.nil _))), ?_⟩) ?_
       ·skip
        refine .idxOwnN hn112 rfl Try.underlying62 Try.sizeOf66 hp117 e115 rfl rfl ?_
        exact .finV rfl rfl (Fz.le_refl _)
       refine .cons (fun L env113 F_144 l_145 hL hdn hup hphi => ⟨[(67, (.pointer (some ⟨b116, 0 + (s12.2).toNat * 25, none⟩)))], fun S hS hV => (.cons (hV 4 67 _ (hdn 1 4 rfl) rfl rfl) (Sub.nil _)), ?_⟩) ?_
       ·skip
        refine .fieldAddr rfl Try.underlying66 rfl Try.sizeOf31 rfl ?_
        exact .finV rfl rfl (Fz.le_refl _)
       refine .cons (fun L env113 F_146 l_147 hL hdn hup hphi => ⟨[(68, (.pointer (some ⟨b116, 0 + (s12.2).toNat * 25, none⟩)))], fun S hS hV => (.cons (hV 5 68 _ (hdn 1 5 rfl) rfl rfl) (Sub.nil _)), ?_⟩) ?_
       ·skip
        refine .fieldAddr rfl Try.underlying31 rfl Try.sizeOf3 rfl ?_
        exact .finV rfl rfl (Fz.le_refl _)
       refine .cons (fun L env113 F_148 l_149 hL hdn hup hphi => ⟨[(69, (.pointer (some ⟨b116, 0 + (s12.2).toNat * 25 + 2, none⟩)))], fun S hS hV => (.cons (hV 6 69 _ (hdn 1 6 rfl) rfl rfl) (Sub.nil _)), ?_⟩) ?_
       ·skip
        refine .loadOwn (off := 2) (Φ := fun v => v = (.int .i64 x114.C.Place)) 0 rfl (Fz.le_trans l_55 l_149) rfl Try.isAgg3 hp117 e115 rfl rfl (fun vs ⟨q0, q1, h, r0⟩ => ⟨_, by subst h; exact rfl, rfl⟩) (fun v hv => ?_)
        subst hv
        exact .finV rfl rfl (Fz.le_refl _)
       refine .cons (fun L env113 F_150 l_151 hL hdn hup hphi => ⟨[(5, (.slice p15 s12.1.length k16))], fun S hS hV => (.cons (hS _ _ rfl) (Sub.nil _)), ?_⟩) ?_
       ·skip
        refine .move rfl rfl ?_
        exact .finV rfl rfl (Fz.le_refl _)
       refine .cons (fun L env113 F_152 l_153 hL hdn hup hphi => ⟨[(6, (.int .i64 s12.2))], fun S hS hV => (.cons (hS _ _ rfl) (Sub.nil _)), ?_⟩) ?_
       ·skip
        refine .move rfl rfl ?_
        exact .finV rfl rfl (Fz.le_refl _)
       refine .cons (fun L env113 F_154 l_155 hL hdn hup hphi => ⟨[(5, (.slice p15 s12.1.length k16))], fun S hS hV => (.cons (hS _ _ rfl) (Sub.nil _)), ?_⟩) ?_
       ·skip
        refine .move rfl rfl ?_
        exact .finV rfl rfl (Fz.le_refl _)
       refine .cons (fun L env113 F_156 l_157 hL hdn hup hphi => ⟨[(6, (.int .i64 s12.2))], fun S hS hV => (.cons (hS _ _ rfl) (Sub.nil _)), ?_⟩) ?_
       ·skip
        refine .move rfl rfl ?_
        exact .finV rfl rfl (Fz.le_refl _)
       refine .cons (fun L env113 F_158 l_159 hL hdn hup hphi => ⟨[(73, (.slice p15 s12.1.length k16)), (74, (.int .i64 s12.2))], fun S hS hV => (.cons (hV 10 73 _ (hdn 1 10 rfl) rfl rfl) (.cons (hV 11 74 _ (hdn 1 11 rfl) rfl rfl) (Sub.nil _))), ?_⟩) ?_
       ·skip
        refine .idxOwnN hn112 rfl Try.underlying62 Try.sizeOf66 hp121 e119 rfl rfl ?_
        exact .finV rfl rfl (Fz.le_refl _)
       refine .cons (fun L env113 F_160 l_161 hL hdn hup hphi => ⟨[(75, (.pointer (some ⟨b120, 0 + (s12.2).toNat * 25, none⟩)))], fun S hS hV => (.cons (hV 12 75 _ (hdn 1 12 rfl) rfl rfl) (Sub.nil _)), ?_⟩) ?_
       ·skip
        refine .fieldAddr rfl Try.underlying66 rfl Try.sizeOf31 rfl ?_
        exact .finV rfl rfl (Fz.le_refl _)
       refine .cons (fun L env113 F_162 l_163 hL hdn hup hphi => ⟨[(76, (.pointer (some ⟨b120, 0 + (s12.2).toNat * 25, none⟩)))], fun S hS hV => (.cons (hV 13 76 _ (hdn 1 13 rfl) rfl rfl) (Sub.nil _)), ?_⟩) ?_
       ·skip
        refine .fieldAddr rfl Try.underlying31 rfl Try.sizeOf3 rfl ?_
        exact .finV rfl rfl (Fz.le_refl _)
       refine .cons (fun L env113 F_164 l_165 hL hdn hup hphi => ⟨[(77, (.pointer (some ⟨b120, 0 + (s12.2).toNat * 25 + 2, none⟩)))], fun S hS hV => (.cons (hV 14 77 _ (hdn 1 14 rfl) rfl rfl) (Sub.nil _)), ?_⟩) ?_
       ·skip
        refine .loadOwn (off := 2) (Φ := fun v => v = (.int .i64 x118.C.Place)) 0 rfl (Fz.le_trans l_55 l_165) rfl Try.isAgg3 hp121 e119 rfl rfl (fun vs ⟨q0, q1, h, r0⟩ => ⟨_, by subst h; exact rfl, rfl⟩) (fun v hv => ?_)
        subst hv
        exact .finV rfl rfl (Fz.le_refl _)
       refine .cons (fun L env113 F_166 l_167 hL hdn hup hphi => ⟨[(71, (.slice p15 s12.1.length k16)), (72, (.int .i64 s12.2))], fun S hS hV => (.cons (hV 8 71 _ (hdn 1 8 rfl) rfl rfl) (.cons (hV 9 72 _ (hdn 1 9 rfl) rfl rfl) (Sub.nil _))), ?_⟩) ?_
       ·skip
        refine .idxOwnN hn112 rfl Try.underlying62 Try.sizeOf66 hp125 e123 rfl rfl ?_
        exact .finV rfl rfl (Fz.le_refl _)
       refine .cons (fun L env113 F_168 l_169 hL hdn hup hphi => ⟨[(79, (.pointer (some ⟨b124, 0 + (s12.2).toNat * 25, none⟩)))], fun S hS hV => (.cons (hV 16 79 _ (hdn 1 16 rfl) rfl rfl) (Sub.nil _)), ?_⟩) ?_
       ·skip
        refine .fieldAddr rfl Try.underlying66 rfl Try.sizeOf31 rfl ?_
        exact .finV rfl rfl (Fz.le_refl _)
       refine .cons (fun L env113 F_170 l_171 hL hdn hup hphi => ⟨[(80, (.pointer (some ⟨b124, 0 + (s12.2).toNat * 25, none⟩)))], fun S hS hV => (.cons (hV 17 80 _ (hdn 1 17 rfl) rfl rfl) (Sub.nil _)), ?_⟩) ?_
       ·skip
        refine .fieldAddr rfl Try.underlying31 rfl Try.sizeOf29 rfl ?_
        exact .finV rfl rfl (Fz.le_refl _)
       refine .cons (fun L env113 F_172 l_173 hL hdn hup hphi => ⟨[(78, (.int .i64 x118.C.Place)), (81, (.pointer (some ⟨b124, 0 + (s12.2).toNat * 25 + 16, none⟩)))], fun S hS hV => (.cons (hV 15 78 _ (hdn 1 15 rfl) rfl rfl) (.cons (hV 18 81 _ (hdn 1 18 rfl) rfl rfl) (Sub.nil _))), ?_⟩) ?_
       ·skip
        refine .indexAddrA rfl Try.underlying29 Try.sizeOf3 rfl rfl hj127 ?_
        exact .finV rfl rfl (Fz.le_refl _)
       refine .cons (fun L env113 F_174 l_175 hL hdn hup hphi => ⟨[(82, (.pointer (some ⟨b124, 0 + (s12.2).toNat * 25 + 16 + j126 * 1, none⟩)))], fun S hS hV => (.cons (hV 19 82 _ (hdn 1 19 rfl) rfl rfl) (Sub.nil _)), ?_⟩) ?_
       ·skip
        refine .loadOwn (off := 16 + j126 * 1) (Φ := fun v => v = (.int .i64 (x122.C.Places j126))) 0 rfl (Fz.le_trans l_55 l_175) rfl Try.isAgg3 hp125 e123 rfl (by omega) (fun vs ⟨q0, q1, h, r0⟩ => ⟨_, by subst h; exact (allLt8 (p := fun j126 => ((cWormtubref06Held x122 q0 q1))[16 + j126 * 1]? = some (.int .i64 (x122.C.Places j126))) rfl rfl rfl rfl rfl rfl rfl rfl _ (idxO_some hj127).2.2.2), rfl⟩) (fun v hv => ?_)
        subst hv
        exact .finV rfl rfl (Fz.le_refl _)
       refine .cons (fun L env113 F_176 l_177 hL hdn hup hphi => ⟨[(1, (.int .i64 n_5))], fun S hS hV => (.cons (hS _ _ rfl) (Sub.nil _)), ?_⟩) ?_
       ·skip
        refine .move rfl rfl ?_
        exact .finV rfl rfl (Fz.le_refl _)
       refine .cons (fun L env113 F_178 l_179 hL hdn hup hphi => ⟨[(83, (.int .i64 (x122.C.Places j126))), (84, (.int .i64 n_5))], fun S hS hV => (.cons (hV 20 83 _ (hdn 1 20 rfl) rfl rfl) (.cons (hV 21 84 _ (hdn 1 21 rfl) rfl rfl) (Sub.nil _))), ?_⟩) ?_
       ·skip
        refine .add rfl rfl rfl ?_
        exact .finV rfl rfl (Fz.le_refl _)
       refine .cons (fun L env113 F_180 l_181 hL hdn hup hphi => ⟨[(63, (.slice p15 s12.1.length k16)), (64, (.int .i64 s12.2))], fun S hS hV => (.cons (hV 0 63 _ (hdn 1 0 rfl) rfl rfl) (.cons (hV 1 64 _ (hdn 1 1 rfl) rfl rfl) (Sub.nil _))), ?_⟩) ?_
       ·skip
        refine .idxOwnN hn112 rfl Try.underlying62 Try.sizeOf66 hp131 e129 rfl rfl ?_
        exact .finV rfl rfl (Fz.le_refl _)
       refine .cons (fun L env113 F_182 l_183 hL hdn hup hphi => ⟨[(86, (.pointer (some ⟨b130, 0 + (s12.2).toNat * 25, none⟩)))], fun S hS hV => (.cons (hV 23 86 _ (hdn 1 23 rfl) rfl rfl) (Sub.nil _)), ?_⟩) ?_
       ·skip
        refine .fieldAddr rfl Try.underlying66 rfl Try.sizeOf31 rfl ?_
        exact .finV rfl rfl (Fz.le_refl _)
       refine .cons (fun L env113 F_184 l_185 hL hdn hup hphi => ⟨[(87, (.pointer (some ⟨b130, 0 + (s12.2).toNat * 25, none⟩)))], fun S hS hV => (.cons (hV 24 87 _ (hdn 1 24 rfl) rfl rfl) (Sub.nil _)), ?_⟩) ?_
       ·skip
        refine .fieldAddr rfl Try.underlying31 rfl Try.sizeOf29 rfl ?_
        exact .finV rfl rfl (Fz.le_refl _)
       exact .nil
      refine .norm (S' := [(1, (.int .i64 n_5)), (5, (.slice p15 s12.1.length k16)), (6, (.int .i64 s12.2)), (63, (.slice p15 s12.1.length k16)), (64, (.int .i64 s12.2)), (65, (.slice p15 s12.1.length k16)), (66, (.int .i64 s12.2)), (67, (.pointer (some ⟨b116, 0 + (s12.2).toNat * 25, none⟩))), (68, (.pointer (some ⟨b116, 0 + (s12.2).toNat * 25, none⟩))), (69, (.pointer (some ⟨b116, 0 + (s12.2).toNat * 25 + 2, none⟩))), (70, (.int .i64 x114.C.Place)), (71, (.slice p15 s12.1.length k16)), (72, (.int .i64 s12.2)), (73, (.slice p15 s12.1.length k16)), (74, (.int .i64 s12.2)), (75, (.pointer (some ⟨b120, 0 + (s12.2).toNat * 25, none⟩))), (76, (.pointer (some ⟨b120, 0 + (s12.2).toNat * 25, none⟩))), (77, (.pointer (some ⟨b120, 0 + (s12.2).toNat * 25 + 2, none⟩))), (78, (.int .i64 x118.C.Place)), (79, (.pointer (some ⟨b124, 0 + (s12.2).toNat * 25, none⟩))), (80, (.pointer (some ⟨b124, 0 + (s12.2).toNat * 25, none⟩))), (81, (.pointer (some ⟨b124, 0 + (s12.2).toNat * 25 + 16, none⟩))), (82, (.pointer (some ⟨b124, 0 + (s12.2).toNat * 25 + 16 + j126 * 1, none⟩))), (83, (.int .i64 (x122.C.Places j126))), (84, (.int .i64 n_5)), (85, (.int .i64 (w64 ((x122.C.Places j126) + n_5)))), (86, (.pointer (some ⟨b130, 0 + (s12.2).toNat * 25, none⟩))), (87, (.pointer (some ⟨b130, 0 + (s12.2).toNat * 25, none⟩))), (88, (.pointer (some ⟨b130, 0 + (s12.2).toNat * 25 + 16, none⟩)))]) (.cons (k := 1) rfl (.cons (k := 5) rfl (.cons (k := 6) rfl (.cons (k := 63) rfl (.cons (k := 64) rfl (.cons (k := 65) rfl (.cons (k := 66) rfl (.cons (k := 67) rfl (.cons (k := 68) rfl (.cons (k := 69) rfl (.cons (k := 70) rfl (.cons (k := 71) rfl (.cons (k := 72) rfl (.cons (k := 73) rfl (.cons (k := 74) rfl (.cons (k := 75) rfl (.cons (k := 76) rfl (.cons (k := 77) rfl (.cons (k := 78) rfl (.cons (k := 79) rfl (.cons (k := 80) rfl (.cons (k := 81) rfl (.cons (k := 82) rfl (.cons (k := 83) rfl (.cons (k := 84) rfl (.cons (k := 85) rfl (.cons (k := 86) rfl (.cons (k := 87) rfl (.cons (k := 88) rfl (.nil _)))))))))))))))))))))))))))))) (rfl : _ = [ownSl 25 rWormtubref06Held F_13 66 p15 k16 l_110, R]) ?_
      refine .bind (fun j186 hj187 => ?_)
      refine .indexAddrA rfl Try.underlying29 Try.sizeOf3 rfl rfl hj187 ?_
      refine .letv (fun l_188 e189 => ?_)
      have hn190 : s12.1.length = l_188.length := by rw [e189, List.length_set, ← hn112]
      refine .storeOwn0 (z' := { x128 with C := { x128.C with Places := updN x128.C.Places j186 (w64 ((x122.C.Places j126) + n_5)) } }) (off := 16 + j186 * 1) (us := [(.int .i64 (w64 ((x122.C.Places j126) + n_5)))]) 0 rfl Try.sizeOf3 hp131 e129 rfl (by omega) rfl rfl rfl rfl (allLt8 (p := fun j186 => Nat.ble (16 + j186 * 1 + 1) 25 = true) rfl rfl rfl rfl rfl rfl rfl rfl _ (idxO_some hj187).2.2.2) (fun F' vs le ⟨q0, q1, h, r0⟩ => ⟨q0, q1, by subst h; exact (allLt8 (p := fun j186 => setMany (cWormtubref06Held x128 q0 q1) (16 + j186 * 1) [(.int .i64 (w64 ((x122.C.Places j126) + n_5)))] = (cWormtubref06Held ({ x128 with C := { x128.C with Places := updN x128.C.Places j186 (w64 ((x122.C.Places j126) + n_5)) } }) q0 q1)) rfl rfl rfl rfl rfl rfl rfl rfl _ (idxO_some hj187).2.2.2), r0⟩) e189 ?_
      refine .nil ?_
      refine .reslot 5 rfl (v' := .slice p15 l_188.length k16) (by rw [hn190]) ?_
      refine .ownUp 0 (Fz.le_trans l_55 l_133) rfl ?_
      exact .nil fun e a w h => by cases e; exact ⟨rfl, ⟨F_132, p15, k16, (Fz.le_trans l_55 l_133), h.1.sub (.cons (k := 1) rfl (.cons (k := 5) rfl (.cons (k := 6) rfl (.nil _)))), h.2⟩⟩
     ·skip
      refine .skip ?_
      exact .nil fun e a w h => by cases e; exact ⟨rfl, ⟨F_13, p15, k16, (Fz.le_refl _), h.1.sub (.cons (k := 1) rfl (.cons (k := 5) rfl (.cons (k := 6) rfl (.nil _)))), h.2⟩⟩
    refine .block ?_
    exact .nil fun e a w h => by cases e; exact ⟨rfl, ⟨F_192, p194, k195, l_193, h.1.sub (.cons (k := 1) rfl (.cons (k := 5) rfl (.cons (k := 6) rfl (.nil _)))), h.2⟩⟩
   refine .code ?_
   refine .region ?_
   refine .move rfl rfl ?_
   refine .add rfl rfl rfl ?_
   refine .assignL rfl rfl (fun i203 e204 => ?_)
   refine .nil ?_
   exact .nil (LPost.norm fun a w h => ⟨F_198, p200, k201, (Fz.le_trans l_14 l_199), h.1.sub (.cons (k := 1) rfl (.cons (k := 5) rfl (.cons (k := 6) rfl (.nil _)))), h.2⟩)
  ·skip
   refine .exitOut rfl (LPost.exit fun a w h => ⟨rfl, F_13, p15, k16, l_14, h.1.sub (.cons (k := 5) rfl (.nil _)), h.2⟩)
 ·intro b205 hb0 hk e a w hD
  obtain ⟨rfl, F_206, p208, k209, l_207, hA⟩ := hD
  refine interp_exit rfl (GE.app ?_ hk a w hA)
  refine .code ?_
  refine .seq ?_
  refine .region ?_
  refine .move rfl rfl ?_
  refine .assign rfl rfl ?_
  refine .nil ?_
  refine .code ?_
  refine .freezeSl 0 rfl (Fz.le_refl _) (fun F_211 l_212 h213 => ?_)
  exact .ret0 Try.results42 (.tmp rfl (.nil)) (i := 0) rfl (Fz.le_trans l_207 l_212) ⟨p208, k209, rfl, h213⟩
noncomputable def b_wormtubref06_play_1 (l_1 : (List ApiCaskEvent)) (day5 : Int) (s10 : (List Wormtubref06Held) × Int × Int) : Option (Ctl ((List Wormtubref06Held) × Int × Int) (((List Wormtubref06Held) × Int × Int) ⊕ ((List Wormtubref06Held) × Int × Int))) :=
 (if (decide (s10.2.2 < (l_1.length : Int))) then ((idxL l_1 s10.2.2).bind fun x17 => some (decide (x17.Day ≤ day5))) else some false).bind fun z30 => if z30 then ((idxL l_1 s10.2.2).bind fun x33 => (m_wormtubref06_Event x33).bind fun r_46 => if (!r_46) then (some (.done (.inr ([], s10.2.2, 1)))) else (if (decide (x33.Day < s10.2.1)) then (some (.done (.inr ([], s10.2.2, 7)))) else ((m_wormtubref06_older s10.1 (w64 (x33.Day - s10.2.1))).bind fun r_52 => (m_wormtubref06_do r_52 x33 s10.2.2).bind fun r_60 => if (r_60.2 != 0) then (some (.done (.inr ([], s10.2.2, r_60.2)))) else (bindv (w64 (s10.2.2 + 1)) fun n_105 => some (.next (r_60.1, x33.Day, n_105)))))) else (some (.done (.inl (s10.1, s10.2.1, s10.2.2))))
noncomputable def m_wormtubref06_play (l_1 : (List ApiCaskEvent)) (day5 : Int) : Option ((List Wormtubref06Held) × Int × Int) :=
 if (decide ((l_1.length : Int) > 4096)) then (some ([], 0, 3)) else (if (!(m_wormtubref06_in day5 0 65536)) then (some ([], 0, 2)) else ((loopM (b_wormtubref06_play_1 l_1 day5) ([], 0, 0)).bind fun b0 => match b0 with | .inl b107 => ((m_wormtubref06_older b107.1 (w64 (day5 - b107.2.1))).bind fun r_120 => some (r_120, b107.2.2, 0)) | .inr b107 => (some (b107.1, b107.2.1, b107.2.2))))
theorem c_wormtubref06_play (F0 : Fz) (l_1 : (List ApiCaskEvent)) (p2 : Option Addr) (k3 : Nat) (h4 : RepSl 8 (Ex cApiCaskEvent) F0 p2 k3 l_1) (day5 : Int) : CT0 Try.prog 27 [(.slice p2 l_1.length k3), (.int .i64 day5)].toArray F0 (m_wormtubref06_play l_1 day5) (fun r F v => ∃ (p0 : Option Addr) (k0 : Nat), v = .tuple #[(.slice p0 r.1.length k0), (.int .i64 r.2.1), (.int .i64 r.2.2)] ∧ RepSl 25 rWormtubref06Held F p0 k0 r.1) := by
 refine CT0.enter Try.func27 rfl Try.ntmps27 rfl fun r R => ?_
 unfold m_wormtubref06_play
 refine .seq ?_
 refine .region ?_
 refine .assign rfl rfl ?_
 refine .assign rfl rfl ?_
 refine .assign rfl rfl ?_
 refine .nil ?_
 refine .code ?_
 refine .seq ?_
 refine .seq ?_
 refine .region ?_
 refine .move rfl rfl ?_
 refine .lenS rfl rfl Try.underlying22 rfl ?_
 refine .gtr rfl rfl rfl ?_
 refine .nil ?_
 refine .code ?_
 refine .cond rfl (fun hb6 => ?_) (fun hb6 => ?_)
 ·skip
  refine .seq ?_
  refine .region ?_
  refine .assign rfl rfl ?_
  refine .assign rfl rfl ?_
  refine .assign rfl rfl ?_
  refine .nil ?_
  refine .code ?_
  exact .ret0 Try.results27 (.tmp rfl (.tmp rfl (.tmp rfl (.nil)))) (i := 0) rfl (Fz.le_refl _) ⟨none, 0, rfl, RepSl.nil⟩
 ·skip
  refine .skip ?_
  refine .code ?_
  refine .seq ?_
  refine .seq ?_
  refine .region ?_
  refine .move rfl rfl ?_
  refine .callP rfl Try.call39 rfl rfl rfl (c_wormtubref06_in _ day5 0 65536) ?_
  rintro F_7 _ l_8 rfl
  refine .not rfl rfl ?_
  refine .nil ?_
  refine .code ?_
  refine .cond rfl (fun hb9 => ?_) (fun hb9 => ?_)
  ·skip
   refine .seq ?_
   refine .region ?_
   refine .assign rfl rfl ?_
   refine .assign rfl rfl ?_
   refine .assign rfl rfl ?_
   refine .nil ?_
   refine .code ?_
   exact .ret0 Try.results27 (.tmp rfl (.tmp rfl (.tmp rfl (.nil)))) (i := 0) rfl l_8 ⟨none, 0, rfl, (RepSl.nil.mono l_8)⟩
  ·skip
   refine .skip ?_
   refine .code ?_
   refine .seq ?_
   refine .region ?_
   refine .assign rfl rfl ?_
   refine .nil ?_
   refine .code ?_
   refine .seq ?_
   refine .region ?_
   refine .assign rfl rfl ?_
   refine .assign rfl rfl ?_
   refine .nil ?_
   refine .code ?_
   refine .seq ?_
   refine .block ?_
   refine .keep (.cons (k := 0) rfl (.cons (k := 1) rfl (.cons (k := 7) rfl (.cons (k := 8) rfl (.cons (k := 9) rfl (.nil _)))))) ?_
   refine .loop (fun (s10 : (List Wormtubref06Held) × Int × Int) a w => ∃ (F_11 : Fz) (p13 : Option Addr) (k14 : Nat), F_7 ≤ F_11 ∧ RepSl 25 rWormtubref06Held F_11 p13 k14 s10.1 ∧ Hd 72 [] [(0, (.slice p2 l_1.length k3)), (1, (.int .i64 day5)), (7, (.slice p13 s10.1.length k14)), (8, (.int .i64 s10.2.1)), (9, (.int .i64 s10.2.2))] F_11 [R] a w) (fun b0 e a w => match b0 with | .inl b107 => e = .exit 0 ∧ ∃ (F_108 : Fz) (p110 : Option Addr) (k111 : Nat), F_7 ≤ F_108 ∧ RepSl 25 rWormtubref06Held F_108 p110 k111 b107.1 ∧ Hd 72 [] [(1, (.int .i64 day5)), (7, (.slice p110 b107.1.length k111)), (8, (.int .i64 b107.2.1)), (9, (.int .i64 b107.2.2))] F_108 [R] a w | .inr b107 => e = .ret ∧ ∃ (F_113 : Fz) (p115 : Option Addr) (k116 : Nat), F_7 ≤ F_113 ∧ RepSl 25 rWormtubref06Held F_113 p115 k116 b107.1 ∧ Hd 72 [] [(4, (.slice p115 b107.1.length k116)), (5, (.int .i64 b107.2.1)), (6, (.int .i64 b107.2.2))] F_113 [R] a w) ?_ ?_ ?_
   ·exact fun a w h => ⟨F_7, none, 0, (Fz.le_refl _), (RepSl.nil.mono l_8), h.1.sub (.cons (k := 0) rfl (.cons (k := 1) rfl (.cons (k := 7) rfl (.cons (k := 8) rfl (.cons (k := 9) rfl (.nil _)))))), h.2⟩
   ·intro s10 ctl
    refine GC.ex (fun a w ⟨F_11, p13, k14, l_12, h15, hA⟩ => ⟨_, hA, ?_⟩)
    unfold b_wormtubref06_play_1
    refine .seq ?_
    refine .seq ?_
    refine .region ?_
    refine .move rfl rfl ?_
    refine .move rfl rfl ?_
    refine .lenS rfl rfl Try.underlying22 rfl ?_
    refine .lss rfl rfl rfl ?_
    refine .move rfl rfl ?_
    refine .andM (b := (decide (s10.2.2 < (l_1.length : Int)))) 8 31 (fun hb16 z31 => ?_) (fun hb27 => ?_) (fun z30 F_28 l_29 => ?_)
    ·skip
     refine .onH hb16 rfl rfl ?_
     refine .move rfl rfl ?_
     refine .onH hb16 rfl rfl ?_
     refine .move rfl rfl ?_
     refine .onH hb16 rfl rfl ?_
     refine .idx rfl Try.underlying22 Try.sizeOf45 (h4.mono (Fz.le_trans l_8 l_12)) rfl rfl (fun x17 b18 o19 T20 fr21 cs22 e23 hm24 hv25 => ?_)
     refine .onH hb16 rfl rfl ?_
     refine .fieldAddr rfl Try.underlying45 rfl Try.sizeOf3 rfl ?_
     refine .onH hb16 rfl rfl ?_
     refine .loadF rfl Try.isAgg3 rfl hm24 (cell_of_take (k := 1) hv25 rfl) ?_
     refine .onH hb16 rfl rfl ?_
     refine .move rfl rfl ?_
     refine .onH hb16 rfl rfl ?_
     refine .leq rfl rfl rfl ?_
     refine .pickTH hb16 rfl rfl rfl ?_
     exact .finZ 8 rfl rfl (by kernel_rfl) (Fz.le_refl _)
    ·skip
     refine .offH hb27 rfl rfl rfl ?_
     refine .offH hb27 rfl rfl rfl ?_
     refine .offH hb27 rfl rfl rfl ?_
     refine .offH hb27 rfl rfl rfl ?_
     refine .offH hb27 rfl rfl rfl ?_
     refine .offH hb27 rfl rfl rfl ?_
     refine .offH hb27 rfl rfl rfl ?_
     refine .pickFH hb27 rfl rfl rfl ?_
     exact .fin 8 rfl rfl (by kernel_rfl) (Fz.le_refl _)
    refine .nil ?_
    refine .code ?_
    refine .cond rfl (fun hb32 => ?_) (fun hb32 => ?_)
    ·skip
     refine .skip ?_
     refine .code ?_
     refine .block ?_
     refine .seq ?_
     refine .region ?_
     refine .move rfl rfl ?_
     refine .move rfl rfl ?_
     refine .idx rfl Try.underlying22 Try.sizeOf45 (h4.mono (Fz.le_trans l_8 (Fz.le_trans l_12 l_29))) rfl rfl (fun x33 b34 o35 T36 fr37 cs38 e39 hm40 hv41 => ?_)
     refine .loadFA rfl Try.isAgg45 Try.sizeOf45 rfl hm40 hv41 rfl ?_
     refine .alloc (cs := (cApiCaskEvent (ApiCaskEvent.mk 0 0 0 0 0 0 0 0))) rfl Try.zeroValue45 rfl (fun b43 => ?_)
     refine .store (cs' := (cApiCaskEvent x33)) Try.sizeOf45 rfl rfl rfl rfl (i := 0) rfl (Nat.le_of_ble_eq_true rfl) rfl (setMany_all (by rfl)) ?_
     refine .nil ?_
     refine .code ?_
     refine .seq ?_
     refine .seq ?_
     refine .region ?_
     refine .loadOA rfl Try.isAgg45 Try.sizeOf45 rfl (i := 0) rfl (vs := (cApiCaskEvent x33)) (by kernel_rfl) rfl ?_
     refine .call0 rfl Try.call40 rfl rfl rfl (c_wormtubref06_Event _ x33) ?_
     rintro r_46 F_44 _ - l_45 rfl
     refine .not rfl rfl ?_
     refine .nil ?_
     refine .code ?_
     refine .cond rfl (fun hb47 => ?_) (fun hb47 => ?_)
     ·skip
      refine .seq ?_
      refine .region ?_
      refine .move rfl rfl ?_
      refine .assign rfl rfl ?_
      refine .assign rfl rfl ?_
      refine .assign rfl rfl ?_
      refine .nil ?_
      refine .code ?_
      refine .drop 0 ?_
      refine .retQ (LPost.ret fun a w h => ⟨rfl, F_44, none, 0, (Fz.le_trans l_12 (Fz.le_trans l_29 l_45)), (RepSl.nil.mono (Fz.le_trans l_8 (Fz.le_trans l_12 (Fz.le_trans l_29 l_45)))), h.1.sub (.cons (k := 4) rfl (.cons (k := 5) rfl (.cons (k := 6) rfl (.nil _)))), h.2⟩)
     ·skip
      refine .skip ?_
      refine .code ?_
      refine .seq ?_
      refine .seq ?_
      refine .region ?_
      refine .fieldAddr rfl Try.underlying45 rfl Try.sizeOf3 rfl ?_
      refine .loadO rfl Try.isAgg3 rfl (i := 0) rfl rfl ?_
      refine .move rfl rfl ?_
      refine .lss rfl rfl rfl ?_
      refine .nil ?_
      refine .code ?_
      refine .cond rfl (fun hb48 => ?_) (fun hb48 => ?_)
      ·skip
       refine .seq ?_
       refine .region ?_
       refine .move rfl rfl ?_
       refine .assign rfl rfl ?_
       refine .assign rfl rfl ?_
       refine .assign rfl rfl ?_
       refine .nil ?_
       refine .keep (.cons (k := 4) rfl (.cons (k := 5) rfl (.cons (k := 6) rfl (.nil _)))) ?_
       refine .code ?_
       refine .drop 0 ?_
       refine .retQ (LPost.ret fun a w h => ⟨rfl, F_44, none, 0, (Fz.le_trans l_12 (Fz.le_trans l_29 l_45)), (RepSl.nil.mono (Fz.le_trans l_8 (Fz.le_trans l_12 (Fz.le_trans l_29 l_45)))), h.1.sub (.cons (k := 4) rfl (.cons (k := 5) rfl (.cons (k := 6) rfl (.nil _)))), h.2⟩)
      ·skip
       refine .skip ?_
       refine .code ?_
       refine .seq ?_
       refine .keep (.cons (k := 0) rfl (.cons (k := 1) rfl (.cons (k := 7) rfl (.cons (k := 8) rfl (.cons (k := 9) rfl (.cons (k := 10) rfl (.nil _))))))) ?_
       refine .bind (fun r_52 hx57 => ?_)
       refine .bind (fun r_60 hx65 => ?_)
       refine .drawG 13 0 (fun env49 => [((.slice p13 s10.1.length k14), fun _ => True), ((.pointer (some ⟨b43, 0 + 1, none⟩)), fun _ => True), ((.int .i64 x33.Day), fun _ => True), ((.int .i64 s10.2.1), fun _ => True), ((.int .i64 (w64 (x33.Day - s10.2.1))), fun _ => True), ((.slice (env49.a 50) r_52.length (env49.n 50)), fun G => RepSl 25 rWormtubref06Held G (env49.a 50) (env49.n 50) r_52), ((eApiCaskEvent x33), fun _ => True), ((.int .i64 s10.2.2), fun _ => True), ((.tuple #[(.slice (env49.a 80) r_60.1.length (env49.n 80)), (.int .i64 r_60.2)]), fun G => RepSl 25 rWormtubref06Held G (env49.a 80) (env49.n 80) r_60.1), ((.tuple #[(.slice (env49.a 80) r_60.1.length (env49.n 80)), (.int .i64 r_60.2)]), fun _ => True), ((.slice (env49.a 80) r_60.1.length (env49.n 80)), fun _ => True), ((.int .i64 r_60.2), fun _ => True), ((.slice (env49.a 80) r_60.1.length (env49.n 80)), fun _ => True)]) (fun L env49 => [pt b43 (.cells (cApiCaskEvent x33).toArray 45), R]) mixedOK (by kernel_rfl) (by kernel_rfl) rfl (fun _ => rfl) (by kernel_rfl) (fun _ => rfl) ?_ (fun env49 F_66 l_67 hphi => ?_)
       ·skip
        refine .cons (fun L env49 F_68 l_69 hL hdn hup hphi => ⟨[(7, (.slice p13 s10.1.length k14))], fun S hS hV => (.cons (hS _ _ rfl) (Sub.nil _)), ?_⟩) ?_
        ·skip
         refine .move rfl rfl ?_
         exact .finV rfl rfl (Fz.le_refl _)
        refine .cons (fun L env49 F_70 l_71 hL hdn hup hphi => ⟨[(10, (.pointer (some ⟨b43, 0, none⟩)))], fun S hS hV => (.cons (hS _ _ rfl) (Sub.nil _)), ?_⟩) ?_
        ·skip
         refine .fieldAddr rfl Try.underlying45 rfl Try.sizeOf3 rfl ?_
         exact .finV rfl rfl (Fz.le_refl _)
        refine .cons (fun L env49 F_72 l_73 hL hdn hup hphi => ⟨[(47, (.pointer (some ⟨b43, 0 + 1, none⟩)))], fun S hS hV => (.cons (hV 1 47 _ (hdn 1 1 rfl) rfl rfl) (Sub.nil _)), ?_⟩) ?_
        ·skip
         refine .loadO rfl Try.isAgg3 rfl (i := 0) rfl rfl ?_
         exact .finV rfl rfl (Fz.le_refl _)
        refine .cons (fun L env49 F_74 l_75 hL hdn hup hphi => ⟨[(8, (.int .i64 s10.2.1))], fun S hS hV => (.cons (hS _ _ rfl) (Sub.nil _)), ?_⟩) ?_
        ·skip
         refine .move rfl rfl ?_
         exact .finV rfl rfl (Fz.le_refl _)
        refine .cons (fun L env49 F_76 l_77 hL hdn hup hphi => ⟨[(48, (.int .i64 x33.Day)), (49, (.int .i64 s10.2.1))], fun S hS hV => (.cons (hV 2 48 _ (hdn 1 2 rfl) rfl rfl) (.cons (hV 3 49 _ (hdn 1 3 rfl) rfl rfl) (Sub.nil _))), ?_⟩) ?_
        ·skip
         refine .sub rfl rfl rfl ?_
         exact .finV rfl rfl (Fz.le_refl _)
        refine .cons (fun L env49 F_78 l_79 hL hdn hup hphi => ⟨[(46, (.slice p13 s10.1.length k14)), (50, (.int .i64 (w64 (x33.Day - s10.2.1))))], fun S hS hV => (.cons (hV 0 46 _ (hdn 1 0 rfl) rfl rfl) (.cons (hV 4 50 _ (hdn 1 4 rfl) rfl rfl) (Sub.nil _))), ?_⟩) ?_
        ·skip
         refine .callK hx57 rfl Try.call42 rfl rfl rfl (c_wormtubref06_older _ s10.1 p13 k14 (h15.mono (Fz.le_trans l_29 (Fz.le_trans l_45 l_79))) (w64 (x33.Day - s10.2.1))) ?_
         rintro F_80 _ l_81 ⟨p82, k83, rfl, h84⟩
         exact .finQ ({ env49 with a := (updN env49.a 50 p82), n := (updN env49.n 50 k83), c := env49.c, o := env49.o }) [true, true, true, true, true, false, true, true, false, false, false, false, false] rfl (by kernel_rfl) rfl rfl l_81 (fun _ le => h84.mono le) (cons_eq rfl (cons_eq rfl rfl))
        refine .cons (fun L env49 F_85 l_86 hL hdn hup hphi => ⟨[(10, (.pointer (some ⟨b43, 0, none⟩)))], fun S hS hV => (.cons (hS _ _ rfl) (Sub.nil _)), ?_⟩) ?_
        ·skip
         refine .loadOA rfl Try.isAgg45 Try.sizeOf45 rfl (i := 0) rfl (vs := (cApiCaskEvent x33)) (by kernel_rfl) rfl ?_
         exact .finV rfl rfl (Fz.le_refl _)
        refine .cons (fun L env49 F_87 l_88 hL hdn hup hphi => ⟨[(9, (.int .i64 s10.2.2))], fun S hS hV => (.cons (hS _ _ rfl) (Sub.nil _)), ?_⟩) ?_
        ·skip
         refine .move rfl rfl ?_
         exact .finV rfl rfl (Fz.le_refl _)
        refine .cons (fun L env49 F_89 l_90 hL hdn hup hphi => ⟨[(51, (.slice (env49.a 50) r_52.length (env49.n 50))), (52, (eApiCaskEvent x33)), (53, (.int .i64 s10.2.2))], fun S hS hV => (.cons (hV 5 51 _ (hdn 1 5 rfl) rfl rfl) (.cons (hV 6 52 _ (hdn 1 6 rfl) rfl rfl) (.cons (hV 7 53 _ (hdn 1 7 rfl) rfl rfl) (Sub.nil _)))), ?_⟩) ?_
        ·skip
         have h56 := hphi 5 _ (hdn 1 5 rfl) rfl _ (Fz.le_refl _)
         refine .callK hx65 rfl Try.call41 rfl rfl rfl (c_wormtubref06_do _ r_52 (env49.a 50) (env49.n 50) h56 x33 s10.2.2) ?_
         rintro F_91 _ l_92 ⟨p93, k94, rfl, h95⟩
         exact .finQ ({ env49 with a := (updN env49.a 80 p93), n := (updN env49.n 80 k94), c := env49.c, o := env49.o }) [true, true, true, true, true, true, true, true, false, false, false, false, false] rfl (by kernel_rfl) rfl rfl l_92 (fun _ le => h95.mono le) (cons_eq rfl (cons_eq rfl rfl))
        refine .cons (fun L env49 F_96 l_97 hL hdn hup hphi => ⟨[(54, (.tuple #[(.slice (env49.a 80) r_60.1.length (env49.n 80)), (.int .i64 r_60.2)]))], fun S hS hV => (.cons (hV 8 54 _ (hdn 1 8 rfl) rfl rfl) (Sub.nil _)), ?_⟩) ?_
        ·skip
         have h56 := hphi 5 _ (hdn 2 5 rfl) rfl _ (Fz.le_refl _)
         have h64 := hphi 8 _ (hdn 1 8 rfl) rfl _ (Fz.le_refl _)
         refine .move rfl rfl ?_
         exact .finV rfl rfl (Fz.le_refl _)
        refine .cons (fun L env49 F_98 l_99 hL hdn hup hphi => ⟨[(45, (.tuple #[(.slice (env49.a 80) r_60.1.length (env49.n 80)), (.int .i64 r_60.2)]))], fun S hS hV => (.cons (hV 9 45 _ (hdn 1 9 rfl) rfl rfl) (Sub.nil _)), ?_⟩) ?_
        ·skip
         have h56 := hphi 5 _ (hdn 3 5 rfl) rfl _ (Fz.le_refl _)
         have h64 := hphi 8 _ (hdn 2 8 rfl) rfl _ (Fz.le_refl _)
         refine .extract rfl rfl rfl ?_
         exact .finV rfl rfl (Fz.le_refl _)
        refine .cons (fun L env49 F_100 l_101 hL hdn hup hphi => ⟨[(45, (.tuple #[(.slice (env49.a 80) r_60.1.length (env49.n 80)), (.int .i64 r_60.2)]))], fun S hS hV => (.cons (hV 9 45 _ (hdn 1 9 rfl) rfl rfl) (Sub.nil _)), ?_⟩) ?_
        ·skip
         have h56 := hphi 5 _ (hdn 3 5 rfl) rfl _ (Fz.le_refl _)
         have h64 := hphi 8 _ (hdn 2 8 rfl) rfl _ (Fz.le_refl _)
         refine .extract rfl rfl rfl ?_
         exact .finV rfl rfl (Fz.le_refl _)
        refine .cons (fun L env49 F_102 l_103 hL hdn hup hphi => ⟨[(55, (.slice (env49.a 80) r_60.1.length (env49.n 80)))], fun S hS hV => (.cons (hV 10 55 _ (hdn 1 10 rfl) rfl rfl) (Sub.nil _)), ?_⟩) ?_
        ·skip
         have h56 := hphi 5 _ (hdn 1 5 rfl) rfl _ (Fz.le_refl _)
         have h64 := hphi 8 _ (hdn 1 8 rfl) rfl _ (Fz.le_refl _)
         refine .assign rfl rfl ?_
         exact .finV rfl rfl (Fz.le_refl _)
        exact .nil
       have h56 := hphi 5 _ rfl
       have h64 := hphi 8 _ rfl
       refine .norm (S' := [(0, (.slice p2 l_1.length k3)), (1, (.int .i64 day5)), (7, (.slice p13 s10.1.length k14)), (8, (.int .i64 s10.2.1)), (9, (.int .i64 s10.2.2)), (10, (.pointer (some ⟨b43, 0, none⟩))), (11, (.slice (env49.a 80) r_60.1.length (env49.n 80))), (45, (.tuple #[(.slice (env49.a 80) r_60.1.length (env49.n 80)), (.int .i64 r_60.2)])), (46, (.slice p13 s10.1.length k14)), (47, (.pointer (some ⟨b43, 0 + 1, none⟩))), (48, (.int .i64 x33.Day)), (49, (.int .i64 s10.2.1)), (50, (.int .i64 (w64 (x33.Day - s10.2.1)))), (51, (.slice (env49.a 50) r_52.length (env49.n 50))), (52, (eApiCaskEvent x33)), (53, (.int .i64 s10.2.2)), (54, (.tuple #[(.slice (env49.a 80) r_60.1.length (env49.n 80)), (.int .i64 r_60.2)])), (55, (.slice (env49.a 80) r_60.1.length (env49.n 80))), (56, (.int .i64 r_60.2))]) (.cons (k := 0) rfl (.cons (k := 1) rfl (.cons (k := 7) rfl (.cons (k := 8) rfl (.cons (k := 9) rfl (.cons (k := 10) rfl (.cons (k := 11) rfl (.cons (k := 45) rfl (.cons (k := 46) rfl (.cons (k := 47) rfl (.cons (k := 48) rfl (.cons (k := 49) rfl (.cons (k := 50) rfl (.cons (k := 51) rfl (.cons (k := 52) rfl (.cons (k := 53) rfl (.cons (k := 54) rfl (.cons (k := 55) rfl (.cons (k := 56) rfl (.nil _)))))))))))))))))))) (rfl : _ = [pt b43 (.cells (cApiCaskEvent x33).toArray 45), R]) ?_
       refine .assign rfl rfl ?_
       refine .nil ?_
       refine .code ?_
       refine .seq ?_
       refine .seq ?_
       refine .region ?_
       refine .move rfl rfl ?_
       refine .neq rfl rfl rfl ?_
       refine .nil ?_
       refine .code ?_
       refine .cond rfl (fun hb104 => ?_) (fun hb104 => ?_)
       ·skip
        refine .seq ?_
        refine .region ?_
        refine .move rfl rfl ?_
        refine .move rfl rfl ?_
        refine .assign rfl rfl ?_
        refine .assign rfl rfl ?_
        refine .assign rfl rfl ?_
        refine .nil ?_
        refine .keep (.cons (k := 4) rfl (.cons (k := 5) rfl (.cons (k := 6) rfl (.nil _)))) ?_
        refine .code ?_
        refine .drop 0 ?_
        refine .retQ (LPost.ret fun a w h => ⟨rfl, F_66, none, 0, (Fz.le_trans l_12 (Fz.le_trans l_29 (Fz.le_trans l_45 l_67))), (RepSl.nil.mono (Fz.le_trans l_8 (Fz.le_trans l_12 (Fz.le_trans l_29 (Fz.le_trans l_45 l_67))))), h.1.sub (.cons (k := 4) rfl (.cons (k := 5) rfl (.cons (k := 6) rfl (.nil _)))), h.2⟩)
       ·skip
        refine .skip ?_
        refine .code ?_
        refine .seq ?_
        refine .region ?_
        refine .move rfl rfl ?_
        refine .assign rfl rfl ?_
        refine .nil ?_
        refine .code ?_
        refine .seq ?_
        refine .region ?_
        refine .fieldAddr rfl Try.underlying45 rfl Try.sizeOf3 rfl ?_
        refine .loadO rfl Try.isAgg3 rfl (i := 0) rfl rfl ?_
        refine .assign rfl rfl ?_
        refine .nil ?_
        refine .keep (.cons (k := 0) rfl (.cons (k := 1) rfl (.cons (k := 7) rfl (.cons (k := 8) rfl (.cons (k := 9) rfl (.nil _)))))) ?_
        refine .code ?_
        refine .region ?_
        refine .move rfl rfl ?_
        refine .add rfl rfl rfl ?_
        refine .assignL rfl rfl (fun n_105 e106 => ?_)
        refine .nil ?_
        refine .block ?_
        refine .drop 0 ?_
        exact .nil (LPost.norm fun a w h => ⟨F_66, (env49.a 80), (env49.n 80), (Fz.le_trans l_12 (Fz.le_trans l_29 (Fz.le_trans l_45 l_67))), h64, h.1.sub (.cons (k := 0) rfl (.cons (k := 1) rfl (.cons (k := 7) rfl (.cons (k := 8) rfl (.cons (k := 9) rfl (.nil _)))))), h.2⟩)
    ·skip
     refine .exitOut rfl (LPost.exit fun a w h => ⟨rfl, F_28, p13, k14, (Fz.le_trans l_12 l_29), (h15.mono l_29), h.1.sub (.cons (k := 1) rfl (.cons (k := 7) rfl (.cons (k := 8) rfl (.cons (k := 9) rfl (.nil _))))), h.2⟩)
   ·intro b107 hb0 hk e a w hD
    rcases b107 with b107 | b107
    ·skip
     obtain ⟨rfl, F_108, p110, k111, l_109, h112, hA⟩ := hD
     refine interp_exit rfl (GE.app ?_ hk a w hA)
     refine .code ?_
     refine .seq ?_
     refine .region ?_
     refine .move rfl rfl ?_
     refine .move rfl rfl ?_
     refine .move rfl rfl ?_
     refine .sub rfl rfl rfl ?_
     refine .call0 rfl Try.call42 rfl rfl rfl (c_wormtubref06_older _ b107.1 p110 k111 h112 (w64 (day5 - b107.2.1))) ?_
     rintro r_120 F_118 _ - l_119 ⟨p121, k122, rfl, h123⟩
     refine .move rfl rfl ?_
     refine .assign rfl rfl ?_
     refine .assign rfl rfl ?_
     refine .assign rfl rfl ?_
     refine .nil ?_
     refine .code ?_
     exact .ret0 Try.results27 (.tmp rfl (.tmp rfl (.tmp rfl (.nil)))) (i := 0) rfl (Fz.le_trans l_8 (Fz.le_trans l_109 l_119)) ⟨p121, k122, rfl, h123⟩
    obtain ⟨rfl, F_113, p115, k116, l_114, h117, hA⟩ := hD
    exact interp_ret ((ret_post0 Try.results27 (.tmp rfl (.tmp rfl (.tmp rfl (.nil)))) (i := 0) rfl (Fz.le_trans l_8 l_114) ⟨p115, k116, rfl, h117⟩) hk a w hA)
noncomputable def b_wormtubref06_Play_2 (r_8 : ((List Wormtubref06Held) × Int × Int)) (s16 : (List ApiCask) × Int) (s23 : Int × Int) : Option (Ctl (Int × Int) ((Int))) :=
 if (decide (s23.2 < (r_8.1.length : Int))) then (((idxL r_8.1 s23.2).bind fun x28 => (idxL r_8.1 s16.2).bind fun x41 => (if (decide (x28.C.Number < x41.C.Number)) then (bindv (w64 (s23.1 + 1)) fun at_81 => some at_81) else (some s23.1) : Option (Int)).bind fun j83 => some j83 : Option (Int)).bind fun j86 => bindv (w64 (s23.2 + 1)) fun k89 => some (.next (j86, k89))) else (some (.done s23.1))
noncomputable def b_wormtubref06_Play_1 (r_8 : ((List Wormtubref06Held) × Int × Int)) (s16 : (List ApiCask) × Int) : Option (Ctl ((List ApiCask) × Int) (((List ApiCask)))) :=
 if (decide (s16.2 < (r_8.1.length : Int))) then ((loopM (b_wormtubref06_Play_2 r_8 s16) (0, 0)).bind fun b91 => (idxL r_8.1 s16.2).bind fun x94 => (idxL s16.1 b91).bind fun _x107 => bindv (List.set s16.1 (b91).toNat (x94.C)) fun l_111 => bindv (w64 (s16.2 + 1)) fun i114 => some (.next (l_111, i114))) else (some (.done s16.1))
noncomputable def m_wormtubref06_Play (l_1 : (List ApiCaskEvent)) (day5 : Int) : Option ((List ApiCask) × Int × Int) :=
 (m_wormtubref06_play l_1 day5).bind fun r_8 => if (r_8.2.2 != 0) then (some ([], r_8.2.1, r_8.2.2)) else ((mkO (r_8.1.length : Int) (r_8.1.length : Int)).bind fun n_13 => (loopM (b_wormtubref06_Play_1 r_8) ((List.replicate n_13 (ApiCask.mk 0 0 0 0 0 0 0 0 (fun _ => 0) (fun _ => 0))), 0)).bind fun b116 => some (b116, r_8.2.1, 0))
theorem c_wormtubref06_Play (F0 : Fz) (l_1 : (List ApiCaskEvent)) (p2 : Option Addr) (k3 : Nat) (h4 : RepSl 8 (Ex cApiCaskEvent) F0 p2 k3 l_1) (day5 : Int) : CT0 Try.prog 13 [(.slice p2 l_1.length k3), (.int .i64 day5)].toArray F0 (m_wormtubref06_Play l_1 day5) (fun r F v => ∃ (p0 : Option Addr) (k0 : Nat), v = .tuple #[(.slice p0 r.1.length k0), (.int .i64 r.2.1), (.int .i64 r.2.2)] ∧ RepSl 24 (Ex cApiCask) F p0 k0 r.1) := by
 refine CT0.enter Try.func13 rfl Try.ntmps13 rfl fun r R => ?_
 unfold m_wormtubref06_Play
 refine .seq ?_
 refine .region ?_
 refine .assign rfl rfl ?_
 refine .assign rfl rfl ?_
 refine .assign rfl rfl ?_
 refine .nil ?_
 refine .code ?_
 refine .seq ?_
 refine .region ?_
 refine .move rfl rfl ?_
 refine .move rfl rfl ?_
 refine .call0 rfl Try.call27 rfl rfl rfl (c_wormtubref06_play _ l_1 p2 k3 h4 day5) ?_
 rintro r_8 F_6 _ - l_7 ⟨p9, k10, rfl, h11⟩
 refine .move rfl rfl ?_
 refine .extract rfl rfl rfl ?_
 refine .extract rfl rfl rfl ?_
 refine .extract rfl rfl rfl ?_
 refine .assign rfl rfl ?_
 refine .assign rfl rfl ?_
 refine .assign rfl rfl ?_
 refine .nil ?_
 refine .code ?_
 refine .seq ?_
 refine .seq ?_
 refine .region ?_
 refine .move rfl rfl ?_
 refine .neq rfl rfl rfl ?_
 refine .nil ?_
 refine .code ?_
 refine .cond rfl (fun hb12 => ?_) (fun hb12 => ?_)
 ·skip
  refine .seq ?_
  refine .region ?_
  refine .move rfl rfl ?_
  refine .move rfl rfl ?_
  refine .assign rfl rfl ?_
  refine .assign rfl rfl ?_
  refine .assign rfl rfl ?_
  refine .nil ?_
  refine .code ?_
  exact .ret0 Try.results13 (.tmp rfl (.tmp rfl (.tmp rfl (.nil)))) (i := 0) rfl l_7 ⟨none, 0, rfl, (RepSl.nil.mono l_7)⟩
 ·skip
  refine .skip ?_
  refine .code ?_
  refine .seq ?_
  refine .region ?_
  refine .move rfl rfl ?_
  refine .lenS rfl rfl Try.underlying62 rfl ?_
  refine .makeSlice (z := (ApiCask.mk 0 0 0 0 0 0 0 0 (fun _ => 0) (fun _ => 0))) ok_t31 rfl Try.underlying25 Try.zeroValue31 (fun _ _ => rfl) rfl rfl (fun n_13 b14 _ => ?_)
  refine .assign rfl rfl ?_
  refine .nil ?_
  refine .code ?_
  refine .seq ?_
  refine .seq ?_
  refine .region ?_
  refine .assign rfl rfl ?_
  refine .nil ?_
  refine .code ?_
  refine .block ?_
  refine .keep (.cons (k := 7) rfl (.cons (k := 8) rfl (.cons (k := 10) rfl (.cons (k := 11) rfl (.nil _))))) ?_
  refine .loop (fun (s16 : (List ApiCask) × Int) a w => ∃ (F_17 : Fz) (p19 : Option Addr) (k20 : Nat), F_6 ≤ F_17 ∧ Hd 65 [] [(7, (.slice p9 r_8.1.length k10)), (8, (.int .i64 r_8.2.1)), (10, (.slice p19 s16.1.length k20)), (11, (.int .i64 s16.2))] F_17 [ownSl 24 (Ex cApiCask) F_17 31 p19 k20 s16.1, R] a w) (fun b116 e a w => e = .exit 0 ∧ ∃ (F_117 : Fz) (p119 : Option Addr) (k120 : Nat), F_6 ≤ F_117 ∧ Hd 65 [] [(8, (.int .i64 r_8.2.1)), (10, (.slice p119 b116.length k120))] F_117 [ownSl 24 (Ex cApiCask) F_117 31 p119 k120 b116, R] a w) ?_ ?_ ?_
  ·exact fun a w h => ⟨F_6, (some ⟨b14, 0, none⟩), ((r_8.1.length : Int)).toNat, (Fz.le_refl _), h.1.sub (.cons (k := 7) rfl (.cons (k := 8) rfl (.cons (k := 10) rfl (.cons (k := 11) rfl (.nil _))))), h.2⟩
  ·intro s16 ctl
   refine GC.ex (fun a w ⟨F_17, p19, k20, l_18, hA⟩ => ⟨_, hA, ?_⟩)
   unfold b_wormtubref06_Play_1
   refine .seq ?_
   refine .seq ?_
   refine .region ?_
   refine .move rfl rfl ?_
   refine .move rfl rfl ?_
   refine .lenS rfl rfl Try.underlying62 rfl ?_
   refine .lss rfl rfl rfl ?_
   refine .nil ?_
   refine .code ?_
   refine .cond rfl (fun hb22 => ?_) (fun hb22 => ?_)
   ·skip
    refine .skip ?_
    refine .code ?_
    refine .seq ?_
    refine .block ?_
    refine .seq ?_
    refine .region ?_
    refine .assign rfl rfl ?_
    refine .nil ?_
    refine .code ?_
    refine .seq ?_
    refine .seq ?_
    refine .region ?_
    refine .assign rfl rfl ?_
    refine .nil ?_
    refine .code ?_
    refine .block ?_
    refine .keep (.cons (k := 7) rfl (.cons (k := 8) rfl (.cons (k := 10) rfl (.cons (k := 11) rfl (.cons (k := 12) rfl (.cons (k := 13) rfl (.nil _))))))) ?_
    refine .loop (fun (s23 : Int × Int) a w => ∃ (F_24 : Fz), F_17 ≤ F_24 ∧ Hd 65 [] [(7, (.slice p9 r_8.1.length k10)), (8, (.int .i64 r_8.2.1)), (10, (.slice p19 s16.1.length k20)), (11, (.int .i64 s16.2)), (12, (.int .i64 s23.1)), (13, (.int .i64 s23.2))] F_24 [ownSl 24 (Ex cApiCask) F_17 31 p19 k20 s16.1, R] a w) (fun b91 e a w => e = .exit 2 ∧ ∃ (F_92 : Fz), F_17 ≤ F_92 ∧ Hd 65 [] [(7, (.slice p9 r_8.1.length k10)), (8, (.int .i64 r_8.2.1)), (10, (.slice p19 s16.1.length k20)), (11, (.int .i64 s16.2)), (12, (.int .i64 b91))] F_92 [ownSl 24 (Ex cApiCask) F_17 31 p19 k20 s16.1, R] a w) ?_ ?_ ?_
    ·exact fun a w h => ⟨F_17, (Fz.le_refl _), h.1.sub (.cons (k := 7) rfl (.cons (k := 8) rfl (.cons (k := 10) rfl (.cons (k := 11) rfl (.cons (k := 12) rfl (.cons (k := 13) rfl (.nil _))))))), h.2⟩
    ·intro s23 ctl
     refine GC.ex (fun a w ⟨F_24, l_25, hA⟩ => ⟨_, hA, ?_⟩)
     unfold b_wormtubref06_Play_2
     refine .seq ?_
     refine .seq ?_
     refine .region ?_
     refine .move rfl rfl ?_
     refine .move rfl rfl ?_
     refine .lenS rfl rfl Try.underlying62 rfl ?_
     refine .lss rfl rfl rfl ?_
     refine .nil ?_
     refine .code ?_
     refine .cond rfl (fun hb26 => ?_) (fun hb26 => ?_)
     ·skip
      refine .skip ?_
      refine .code ?_
      refine .seq ?_
      refine .keep (.cons (k := 7) rfl (.cons (k := 8) rfl (.cons (k := 10) rfl (.cons (k := 11) rfl (.cons (k := 12) rfl (.cons (k := 13) rfl (.nil _))))))) ?_
      refine GC.join0 (σ := Int) (fun j86 a w => ∃ (F_87 : Fz), F_24 ≤ F_87 ∧ Hd 65 [] [(7, (.slice p9 r_8.1.length k10)), (8, (.int .i64 r_8.2.1)), (10, (.slice p19 s16.1.length k20)), (11, (.int .i64 s16.2)), (12, (.int .i64 j86)), (13, (.int .i64 s23.2))] F_87 [ownSl 24 (Ex cApiCask) F_17 31 p19 k20 s16.1, R] a w) (fun sj => ?_) (fun j86 hs0 => GE.ex (fun a w ⟨F_87, l_88, hA⟩ => ⟨_, hA, ?_⟩))
      ·skip
       refine .block ?_
       refine .seq ?_
       refine .keep (.cons (k := 7) rfl (.cons (k := 8) rfl (.cons (k := 10) rfl (.cons (k := 11) rfl (.cons (k := 12) rfl (.cons (k := 13) rfl (.nil _))))))) ?_
       refine .bind (fun x28 e34 => ?_)
       obtain ⟨b29, o30, T31, fr32, cs33, hm35, hv36, hq37⟩ := RepSl.idxE (h11.mono (Fz.le_trans l_18 l_25)) e34
       obtain ⟨p38, k39, hv36, h40⟩ := hv36
       refine .bind (fun x41 e47 => ?_)
       obtain ⟨b42, o43, T44, fr45, cs46, hm48, hv49, hq50⟩ := RepSl.idxE (h11.mono (Fz.le_trans l_18 l_25)) e47
       obtain ⟨p51, k52, hv49, h53⟩ := hv49
       refine .drawGD 12 0 (fun env27 => [((.slice p9 r_8.1.length k10), fun _ => True), ((.int .i64 s23.2), fun _ => True), ((.pointer (some ⟨b29, o30, none⟩)), fun _ => True), ((.pointer (some ⟨b29, o30, none⟩)), fun _ => True), ((.pointer (some ⟨b29, o30, none⟩)), fun _ => True), ((.int .i64 x28.C.Number), fun _ => True), ((.slice p9 r_8.1.length k10), fun _ => True), ((.int .i64 s16.2), fun _ => True), ((.pointer (some ⟨b42, o43, none⟩)), fun _ => True), ((.pointer (some ⟨b42, o43, none⟩)), fun _ => True), ((.pointer (some ⟨b42, o43, none⟩)), fun _ => True), ((.int .i64 x41.C.Number), fun _ => True)]) (fun L env27 => [ownSl 24 (Ex cApiCask) F_17 31 p19 k20 s16.1, R]) mixedOK (by kernel_rfl) (deepN (k := 12) (n := 13) rfl (allLt13 (p := fun t => 12 ≤ t → ∀ j, j < t → ∃ s, depB _ s t j = true) (fun h => absurd h (by decide)) (fun h => absurd h (by decide)) (fun h => absurd h (by decide)) (fun h => absurd h (by decide)) (fun h => absurd h (by decide)) (fun h => absurd h (by decide)) (fun h => absurd h (by decide)) (fun h => absurd h (by decide)) (fun h => absurd h (by decide)) (fun h => absurd h (by decide)) (fun h => absurd h (by decide)) (fun h => absurd h (by decide)) (fun _ => allLt12 (p := fun j => ∃ s, depB _ s 12 j = true) ⟨5, rfl⟩ ⟨5, rfl⟩ ⟨4, rfl⟩ ⟨3, rfl⟩ ⟨2, rfl⟩ ⟨1, rfl⟩ ⟨5, rfl⟩ ⟨5, rfl⟩ ⟨4, rfl⟩ ⟨3, rfl⟩ ⟨2, rfl⟩ ⟨1, rfl⟩))) rfl (fun _ => rfl) (by kernel_rfl) (fun _ => rfl) ?_ (fun env27 F_54 l_55 hphi => ?_)
       ·skip
        refine .cons (fun L env27 F_56 l_57 hL hdn hup hphi => ⟨[(7, (.slice p9 r_8.1.length k10))], fun S hS hV => (.cons (hS _ _ rfl) (Sub.nil _)), ?_⟩) ?_
        ·skip
         refine .move rfl rfl ?_
         exact .finV rfl rfl (Fz.le_refl _)
        refine .cons (fun L env27 F_58 l_59 hL hdn hup hphi => ⟨[(13, (.int .i64 s23.2))], fun S hS hV => (.cons (hS _ _ rfl) (Sub.nil _)), ?_⟩) ?_
        ·skip
         refine .move rfl rfl ?_
         exact .finV rfl rfl (Fz.le_refl _)
        refine .cons (fun L env27 F_60 l_61 hL hdn hup hphi => ⟨[(40, (.slice p9 r_8.1.length k10)), (41, (.int .i64 s23.2))], fun S hS hV => (.cons (hV 0 40 _ (hdn 1 0 rfl) rfl rfl) (.cons (hV 1 41 _ (hdn 1 1 rfl) rfl rfl) (Sub.nil _))), ?_⟩) ?_
        ·skip
         refine .idxQ rfl Try.underlying62 Try.sizeOf66 hq37 rfl rfl ?_
         exact .finV rfl rfl (Fz.le_refl _)
        refine .cons (fun L env27 F_62 l_63 hL hdn hup hphi => ⟨[(42, (.pointer (some ⟨b29, o30, none⟩)))], fun S hS hV => (.cons (hV 2 42 _ (hdn 1 2 rfl) rfl rfl) (Sub.nil _)), ?_⟩) ?_
        ·skip
         refine .fieldAddr rfl Try.underlying66 rfl Try.sizeOf31 rfl ?_
         exact .finV rfl rfl (Fz.le_refl _)
        refine .cons (fun L env27 F_64 l_65 hL hdn hup hphi => ⟨[(43, (.pointer (some ⟨b29, o30, none⟩)))], fun S hS hV => (.cons (hV 3 43 _ (hdn 1 3 rfl) rfl rfl) (Sub.nil _)), ?_⟩) ?_
        ·skip
         refine .fieldAddr rfl Try.underlying31 rfl Try.sizeOf3 rfl ?_
         exact .finV rfl rfl (Fz.le_refl _)
        refine .cons (fun L env27 F_66 l_67 hL hdn hup hphi => ⟨[(44, (.pointer (some ⟨b29, o30, none⟩)))], fun S hS hV => (.cons (hV 4 44 _ (hdn 1 4 rfl) rfl rfl) (Sub.nil _)), ?_⟩) ?_
        ·skip
         refine .loadF rfl Try.isAgg3 rfl (l_67.mem _ _ hm35) (cell_of_take (k := 0) hv36 rfl) ?_
         exact .finV rfl rfl (Fz.le_refl _)
        refine .cons (fun L env27 F_68 l_69 hL hdn hup hphi => ⟨[(7, (.slice p9 r_8.1.length k10))], fun S hS hV => (.cons (hS _ _ rfl) (Sub.nil _)), ?_⟩) ?_
        ·skip
         refine .move rfl rfl ?_
         exact .finV rfl rfl (Fz.le_refl _)
        refine .cons (fun L env27 F_70 l_71 hL hdn hup hphi => ⟨[(11, (.int .i64 s16.2))], fun S hS hV => (.cons (hS _ _ rfl) (Sub.nil _)), ?_⟩) ?_
        ·skip
         refine .move rfl rfl ?_
         exact .finV rfl rfl (Fz.le_refl _)
        refine .cons (fun L env27 F_72 l_73 hL hdn hup hphi => ⟨[(46, (.slice p9 r_8.1.length k10)), (47, (.int .i64 s16.2))], fun S hS hV => (.cons (hV 6 46 _ (hdn 1 6 rfl) rfl rfl) (.cons (hV 7 47 _ (hdn 1 7 rfl) rfl rfl) (Sub.nil _))), ?_⟩) ?_
        ·skip
         refine .idxQ rfl Try.underlying62 Try.sizeOf66 hq50 rfl rfl ?_
         exact .finV rfl rfl (Fz.le_refl _)
        refine .cons (fun L env27 F_74 l_75 hL hdn hup hphi => ⟨[(48, (.pointer (some ⟨b42, o43, none⟩)))], fun S hS hV => (.cons (hV 8 48 _ (hdn 1 8 rfl) rfl rfl) (Sub.nil _)), ?_⟩) ?_
        ·skip
         refine .fieldAddr rfl Try.underlying66 rfl Try.sizeOf31 rfl ?_
         exact .finV rfl rfl (Fz.le_refl _)
        refine .cons (fun L env27 F_76 l_77 hL hdn hup hphi => ⟨[(49, (.pointer (some ⟨b42, o43, none⟩)))], fun S hS hV => (.cons (hV 9 49 _ (hdn 1 9 rfl) rfl rfl) (Sub.nil _)), ?_⟩) ?_
        ·skip
         refine .fieldAddr rfl Try.underlying31 rfl Try.sizeOf3 rfl ?_
         exact .finV rfl rfl (Fz.le_refl _)
        refine .cons (fun L env27 F_78 l_79 hL hdn hup hphi => ⟨[(50, (.pointer (some ⟨b42, o43, none⟩)))], fun S hS hV => (.cons (hV 10 50 _ (hdn 1 10 rfl) rfl rfl) (Sub.nil _)), ?_⟩) ?_
        ·skip
         refine .loadF rfl Try.isAgg3 rfl (l_79.mem _ _ hm48) (cell_of_take (k := 0) hv49 rfl) ?_
         exact .finV rfl rfl (Fz.le_refl _)
        exact .nil
       refine .norm (S' := [(7, (.slice p9 r_8.1.length k10)), (8, (.int .i64 r_8.2.1)), (10, (.slice p19 s16.1.length k20)), (11, (.int .i64 s16.2)), (12, (.int .i64 s23.1)), (13, (.int .i64 s23.2)), (40, (.slice p9 r_8.1.length k10)), (41, (.int .i64 s23.2)), (42, (.pointer (some ⟨b29, o30, none⟩))), (43, (.pointer (some ⟨b29, o30, none⟩))), (44, (.pointer (some ⟨b29, o30, none⟩))), (45, (.int .i64 x28.C.Number)), (46, (.slice p9 r_8.1.length k10)), (47, (.int .i64 s16.2)), (48, (.pointer (some ⟨b42, o43, none⟩))), (49, (.pointer (some ⟨b42, o43, none⟩))), (50, (.pointer (some ⟨b42, o43, none⟩))), (51, (.int .i64 x41.C.Number))]) (.cons (k := 7) rfl (.cons (k := 8) rfl (.cons (k := 10) rfl (.cons (k := 11) rfl (.cons (k := 12) rfl (.cons (k := 13) rfl (.cons (k := 40) rfl (.cons (k := 41) rfl (.cons (k := 42) rfl (.cons (k := 43) rfl (.cons (k := 44) rfl (.cons (k := 45) rfl (.cons (k := 46) rfl (.cons (k := 47) rfl (.cons (k := 48) rfl (.cons (k := 49) rfl (.cons (k := 50) rfl (.cons (k := 51) rfl (.nil _))))))))))))))))))) (rfl : _ = [ownSl 24 (Ex cApiCask) F_17 31 p19 k20 s16.1, R]) ?_
       refine .lss rfl rfl rfl ?_
       refine .nil ?_
       refine .code ?_
       refine .keep (.cons (k := 7) rfl (.cons (k := 8) rfl (.cons (k := 10) rfl (.cons (k := 11) rfl (.cons (k := 12) rfl (.cons (k := 13) rfl (.cons (k := 52) rfl (.nil _)))))))) ?_
       refine GC.join0 (σ := Int) (fun j83 a w => ∃ (F_84 : Fz), F_54 ≤ F_84 ∧ Hd 65 [] [(7, (.slice p9 r_8.1.length k10)), (8, (.int .i64 r_8.2.1)), (10, (.slice p19 s16.1.length k20)), (11, (.int .i64 s16.2)), (12, (.int .i64 j83)), (13, (.int .i64 s23.2))] F_84 [ownSl 24 (Ex cApiCask) F_17 31 p19 k20 s16.1, R] a w) (fun sj => ?_) (fun j83 hs0 => GE.ex (fun a w ⟨F_84, l_85, hA⟩ => ⟨_, hA, ?_⟩))
       ·skip
        refine .cond rfl (fun hb80 => ?_) (fun hb80 => ?_)
        ·skip
         refine .region ?_
         refine .move rfl rfl ?_
         refine .add rfl rfl rfl ?_
         refine .assignL rfl rfl (fun at_81 e82 => ?_)
         refine .nil ?_
         exact .nil fun e a w h => by cases e; exact ⟨rfl, ⟨F_54, (Fz.le_refl _), h.1.sub (.cons (k := 7) rfl (.cons (k := 8) rfl (.cons (k := 10) rfl (.cons (k := 11) rfl (.cons (k := 12) rfl (.cons (k := 13) rfl (.nil _))))))), h.2⟩⟩
        ·skip
         refine .skip ?_
         exact .nil fun e a w h => by cases e; exact ⟨rfl, ⟨F_54, (Fz.le_refl _), h.1.sub (.cons (k := 7) rfl (.cons (k := 8) rfl (.cons (k := 10) rfl (.cons (k := 11) rfl (.cons (k := 12) rfl (.cons (k := 13) rfl (.nil _))))))), h.2⟩⟩
       refine .block ?_
       exact .nil fun e a w h => by cases e; exact ⟨rfl, ⟨F_84, (Fz.le_trans l_55 l_85), h.1.sub (.cons (k := 7) rfl (.cons (k := 8) rfl (.cons (k := 10) rfl (.cons (k := 11) rfl (.cons (k := 12) rfl (.cons (k := 13) rfl (.nil _))))))), h.2⟩⟩
      refine .code ?_
      refine .region ?_
      refine .move rfl rfl ?_
      refine .add rfl rfl rfl ?_
      refine .assignL rfl rfl (fun k89 e90 => ?_)
      refine .nil ?_
      exact .nil (LPost.norm fun a w h => ⟨F_87, (Fz.le_trans l_25 l_88), h.1.sub (.cons (k := 7) rfl (.cons (k := 8) rfl (.cons (k := 10) rfl (.cons (k := 11) rfl (.cons (k := 12) rfl (.cons (k := 13) rfl (.nil _))))))), h.2⟩)
     ·skip
      refine .exitOut rfl (LPost.exit fun a w h => ⟨rfl, F_24, l_25, h.1.sub (.cons (k := 7) rfl (.cons (k := 8) rfl (.cons (k := 10) rfl (.cons (k := 11) rfl (.cons (k := 12) rfl (.nil _)))))), h.2⟩)
    ·intro b91 hb0 hk e a w hD
     obtain ⟨rfl, F_92, l_93, hA⟩ := hD
     refine interp_exit rfl (GE.app ?_ hk a w hA)
     refine .code ?_
     refine .region ?_
     refine .move rfl rfl ?_
     refine .move rfl rfl ?_
     refine .move rfl rfl ?_
     refine .move rfl rfl ?_
     refine .idx rfl Try.underlying62 Try.sizeOf66 (h11.mono (Fz.le_trans l_18 l_93)) rfl rfl (fun x94 b95 o96 T97 fr98 cs99 e100 hm101 hv102 => ?_)
     obtain ⟨p104, k105, hv102, h106⟩ := hv102
     refine .fieldAddr rfl Try.underlying66 rfl Try.sizeOf31 rfl ?_
     refine .loadFA rfl Try.isAgg31 Try.sizeOf31 rfl hm101 (take_of_take (k := 0) (us := (cApiCask x94.C)) hv102 rfl rfl) rfl ?_
     refine .bind (fun x107 e108 => ?_)
     refine .ownAddr 0 rfl e108 (fun b109 hp110 => ?_)
     refine .idxOwn rfl Try.underlying25 Try.sizeOf31 hp110 e108 rfl rfl ?_
     refine .letv (fun l_111 e112 => ?_)
     have hn113 : s16.1.length = l_111.length := by rw [e112, List.length_set]
     refine .storeOwn0 (z' := x94.C) (off := 0) (us := (cApiCask x94.C)) 0 rfl Try.sizeOf31 hp110 e108 rfl rfl rfl rfl rfl rfl rfl (fun F' vs le h => by subst h; exact (setMany_all (by rfl))) e112 ?_
     refine .nil ?_
     refine .block ?_
     refine .code ?_
     refine .region ?_
     refine .move rfl rfl ?_
     refine .add rfl rfl rfl ?_
     refine .assignL rfl rfl (fun i114 e115 => ?_)
     refine .nil ?_
     refine .reslot 10 rfl (v' := .slice p19 l_111.length k20) (by rw [hn113]) ?_
     refine .ownUp 0 l_93 rfl ?_
     exact .nil (LPost.norm fun a w h => ⟨F_92, p19, k20, (Fz.le_trans l_18 l_93), h.1.sub (.cons (k := 7) rfl (.cons (k := 8) rfl (.cons (k := 10) rfl (.cons (k := 11) rfl (.nil _))))), h.2⟩)
   ·skip
    refine .exitOut rfl (LPost.exit fun a w h => ⟨rfl, F_17, p19, k20, l_18, h.1.sub (.cons (k := 8) rfl (.cons (k := 10) rfl (.nil _))), h.2⟩)
  ·intro b116 hb0 hk e a w hD
   obtain ⟨rfl, F_117, p119, k120, l_118, hA⟩ := hD
   refine interp_exit rfl (GE.app ?_ hk a w hA)
   refine .code ?_
   refine .seq ?_
   refine .region ?_
   refine .move rfl rfl ?_
   refine .move rfl rfl ?_
   refine .assign rfl rfl ?_
   refine .assign rfl rfl ?_
   refine .assign rfl rfl ?_
   refine .nil ?_
   refine .code ?_
   refine .freezeSl 0 rfl (Fz.le_refl _) (fun F_122 l_123 h124 => ?_)
   exact .ret0 Try.results13 (.tmp rfl (.tmp rfl (.tmp rfl (.nil)))) (i := 0) rfl (Fz.le_trans l_7 (Fz.le_trans l_118 l_123)) ⟨p119, k120, rfl, h124⟩
end Go.Proofs.Ytkedjmhhcekmiaa
end

section
namespace Go.Proofs.Ytkedjmhhcekmiaa
open Go.Dec
theorem Event_doc (x : Ev) : m_wormtubref06_Event x = some (evB x) := by
  have e : ∀ n a b, m_wormtubref06_in n a b = inB n a b := fun _ _ _ => rfl
  unfold m_wormtubref06_Event evB
  simp only [e]
  cases h1 : inB x.Day 0 65536 with
  | false => simp
  | true =>
    cases h2 : inB x.Cask 0 1073741824 with
    | false => simp
    | true =>
      simp only [Bool.not_true, Bool.or_self, Bool.false_eq_true, if_false, Bool.true_and]
      by_cases k0 : (x.Kind == 0) = true
      · rw [if_pos k0, if_pos k0]
      · rw [if_neg k0, if_neg k0]
        by_cases k1 : (x.Kind == 1) = true
        · simp [k1]
        · simp only [Bool.not_eq_true] at k1
          by_cases k3 : (x.Kind == 3) = true
          · simp [k1, k3]
          · simp only [Bool.not_eq_true] at k3
            simp only [k1, k3, Bool.or_self, Bool.false_eq_true, if_false, Option.bind_some]
            by_cases k2 : (x.Kind == 2) = true
            · rw [if_pos k2, if_pos k2]
            · rw [if_neg k2, if_neg k2]
              by_cases k4 : (x.Kind == 4) = true
              · rw [if_pos k4, if_pos k4]
              · rw [if_neg k4, if_neg k4]
                by_cases k5 : (x.Kind == 5) = true
                · simp [k5]
                · simp only [Bool.not_eq_true] at k5
                  by_cases k6 : (x.Kind == 6) = true
                  · simp [k5, k6]
                  · simp only [Bool.not_eq_true] at k6
                    simp only [k5, k6, Bool.or_self, Bool.false_eq_true, if_false, Option.bind_some]
                    by_cases k7 : (x.Kind == 7) = true
                    · rw [if_pos k7, if_pos k7]
                    · rw [if_neg k7, if_neg k7]
                      by_cases k8 : (x.Kind == 8) = true
                      · rw [if_pos k8, if_pos k8]
                      · rw [if_neg k8, if_neg k8]
def ixO : Option Nat → Int
  | some i => i
  | none => -1
theorem goL_find {n : Int} : ∀ (l : List Held) (k : Nat), goL (fun (_ : Unit) i (h : Held) => if h.C.Number == n then some (.done (.inr (i : Int))) else some (.next ())) (fun _ => (.inl () : Unit ⊕ Int)) l k () = some (match findS l n with | some i => .inr ((k + i : Nat) : Int) | none => .inl ())
  | [], k => rfl
  | h :: l, k => by
    simp only [goL, findS]
    by_cases hb : (h.C.Number == n) = true
    · simp [hb]
    · simp only [Bool.not_eq_true] at hb
      simp only [hb, Bool.false_eq_true, if_false, goL_find l (k + 1)]
      cases findS l n with
      | none => rfl
      | some i => simp; omega
theorem find_doc {l : List Held} (n : Int) (hl : l.length ≤ 1000000) : m_wormtubref06_find l n = some (ixO (findS l n)) := by
  have h := loop_list (body := b_wormtubref06_find_1 l n) (fun (_ : Unit) i => ((i : Nat) : Int)) (fun (_ : Unit) i (h : Held) => if h.C.Number == n then some (.done (.inr (i : Int))) else some (.next ())) (fun _ => (.inl () : Unit ⊕ Int)) l ?_ ?_ ()
  · unfold m_wormtubref06_find
    have h' : loopM (b_wormtubref06_find_1 l n) 0 = some (match findS l n with | some i => .inr ((0 + i : Nat) : Int) | none => .inl ()) := by
      rw [← goL_find l 0]; exact h
    rw [h']
    cases findS l n with
    | none => rfl
    | some i => simp [ixO]
  · intro t i x hx
    have hi : i < l.length := (List.getElem?_eq_some_iff.1 hx).1
    have hw : w64 ((i : Int) + 1) = ((i + 1 : Nat) : Int) := by rw [w64_id (by omega) (by omega)]; rfl
    unfold b_wormtubref06_find_1
    rw [if_pos (by simp; omega), idxL_nat, hx, Option.bind_some]
    split
    · rfl
    · simp only [bindv, hw]; rfl
  · intro t
    unfold b_wormtubref06_find_1
    rw [if_neg (by simp)]
theorem sorted_len {n : Int} : ∀ {l : List Int} (a : Int), l.Pairwise (· < ·) → (∀ f ∈ l, a ≤ f ∧ f < n) → a ≤ n → (l.length : Int) ≤ n - a
  | [], a, _, _, h => by simp; omega
  | x :: l, a, h, hb, _ => by
    have h' := List.pairwise_cons.1 h
    have hx := hb x (by simp)
    have := sorted_len (l := l) (x + 1) h'.2 (fun f hf => ⟨by have := h'.1 f hf; omega, (hb f (List.mem_cons_of_mem _ hf)).2⟩) (by omega)
    simp only [List.length_cons]; omega
theorem fills_len {last : Int} {n : Nat} {h : Held} (ho : HOk last n h) : h.Fills.length ≤ n := by
  have := sorted_len 0 ho.fills.1 (n := n) ho.fills.2 (by omega)
  omega
theorem older_body {n : Int} {last : Int} {m : Nat} {s : List Held} {i : Nat} {h : Held} (hi : s[i]? = some h) (ho : HOk last m h) (hn : 0 ≤ n) (hb : last + n ≤ 1000000) (hl : s.length ≤ 1000000) :
    b_wormtubref06_older_1 n (s, (i : Int)) = some (.next (s.set i (olderS n h), ((i + 1 : Nat) : Int))) := by
  have hil : i < s.length := (List.getElem?_eq_some_iff.1 hi).1
  have hw : w64 ((i : Int) + 1) = ((i + 1 : Nat) : Int) := by rw [w64_id (by omega) (by omega)]; rfl
  have hage := ho.age
  have hwood := ho.wood
  have hplace := ho.place
  have ew : idxO 8 h.C.Wood = some h.C.Wood.toNat := by unfold idxO; rw [if_pos (by omega)]
  have ep : idxO 8 h.C.Place = some h.C.Place.toNat := by unfold idxO; rw [if_pos (by omega)]
  have w1 := ho.woods.le h.C.Wood.toNat
  have p1 := ho.places.le h.C.Place.toNat
  unfold b_wormtubref06_older_1
  rw [if_pos (by simp; omega)]
  simp only [idxL_nat, hi, Option.bind_some]
  by_cases hp : 0 < h.C.Amount
  · have hp' : decide (h.C.Amount > 0) = true := by simpa using hp
    rw [if_pos hp']
    simp only [bindv, Int.toNat_natCast, List.getElem?_set_self hil, Option.bind_some, ew, ep, List.set_set]
    rw [w64_id (n := h.C.Age + n) (by omega) (by omega), w64_id (n := h.C.Woods h.C.Wood.toNat + n) (by omega) (by omega), w64_id (n := h.C.Places h.C.Place.toNat + n) (by omega) (by omega)]
    simp only [olderS, hp, if_true, hw]
  · have hp' : ¬ decide (h.C.Amount > 0) = true := by simpa using hp
    rw [if_neg hp']
    simp only [bindv, Option.bind_some, olderS, hp, if_false, hw]
    rw [← set_back hi]
theorem older_doc {n last : Int} {m : Nat} {l : List Held} (ho : AOk last m l) (hn : 0 ≤ n) (hb : last + n ≤ 1000000) : m_wormtubref06_older l n = some (l.map (olderS n)) := by
  have hl : l.length ≤ 1000000 := by have := ho.few; omega
  obtain ⟨t', ht, hloop⟩ := loopM_pre (body := b_wormtubref06_older_1 n) (fun i (t : List Held) => (t, (i : Int))) (fun t => t) (fun pre t => t = pre.map (olderS n) ++ l.drop pre.length) l
    (fun pre x post t hl' ht => by
      have hd : l.drop pre.length = x :: post := by rw [hl']; simp
      rw [hd] at ht
      have hx : t[pre.length]? = some x := by rw [ht]; simp
      have htl : t.length = l.length := by rw [ht, hl']; simp
      refine ⟨t.set pre.length (olderS n x), older_body hx (ho.each x (by rw [hl']; simp)) hn hb (by omega), ?_⟩
      rw [ht, hl']
      simp)
    (fun t ht => by
      have htl : t.length = l.length := by rw [ht]; simp
      unfold b_wormtubref06_older_1
      rw [if_neg (by simp [htl])]) l [] l rfl (by simp)
  unfold m_wormtubref06_older
  refine bind_of (appO_some' (by simp; omega)) ?_
  have h0 : loopM (b_wormtubref06_older_1 n) (([] : List Held) ++ l, 0) = some t' := hloop
  refine bind_of h0 ?_
  rw [ht]; simp
theorem less_doc {h : Held} {n : Int} (h1 : 0 ≤ n) (h2 : n ≤ h.C.Amount) (h3 : h.C.Amount ≤ 1099511627776) : m_wormtubref06_less h n = some (lessS h n) := by
  have z : (arrOf [0, 0, 0, 0, 0, 0, 0, 0] 0 : Nat → Int) = zN := by
    funext k
    match k with
    | 0 => rfl
    | 1 => rfl
    | 2 => rfl
    | 3 => rfl
    | 4 => rfl
    | 5 => rfl
    | 6 => rfl
    | 7 => rfl
    | k + 8 => simp [arrOf]
  unfold m_wormtubref06_less lessS
  simp only [bindv]
  rw [w64_id (n := h.C.Amount - n) (by omega) (by omega), z]
  by_cases e : (h.C.Amount - n == 0) = true
  · rw [if_pos e, if_pos e]
    have : h.C.Amount - n = 0 := beq_iff_eq.1 e
    simp [this]
  · rw [if_neg e, if_neg e]; rfl
structure UI (a b : List Int) (s : List Int × Int × Int) : Prop where
  i : 0 ≤ s.2.1 ∧ s.2.1 ≤ a.length
  k : 0 ≤ s.2.2 ∧ s.2.2 ≤ b.length
  sorted : s.1.Pairwise (· < ·)
  lo : ∀ x ∈ s.1, (∀ y ∈ a.drop s.2.1.toNat, x < y) ∧ ∀ y ∈ b.drop s.2.2.toNat, x < y
  mem : ∀ x, x ∈ a ∨ x ∈ b ↔ x ∈ s.1 ∨ x ∈ a.drop s.2.1.toNat ∨ x ∈ b.drop s.2.2.toNat
  len : (s.1.length : Int) ≤ s.2.1 + s.2.2
theorem drop_at {l : List Int} {i : Int} (h0 : 0 ≤ i) (h : i < l.length) : ∃ x, idxL l i = some x ∧ l.drop i.toNat = x :: l.drop (i + 1).toNat := by
  obtain ⟨x, h1, h2⟩ := idxL_lt h0 h
  refine ⟨x, h1, ?_⟩
  have hl := (List.getElem?_eq_some_iff.1 h2).1
  have hx := (List.getElem?_eq_some_iff.1 h2).2
  rw [List.drop_eq_getElem_cons hl, hx]
  congr 2
  omega
theorem lt_head {x y : Int} {t : List Int} (h : (y :: t).Pairwise (· < ·)) (hxy : x < y) : ∀ u ∈ y :: t, x < u := fun u hu => by
  rcases List.mem_cons.1 hu with rfl | hu
  · exact hxy
  · have := (List.pairwise_cons.1 h).1 u hu; omega
theorem union_doc {a b : List Int} (ha : a.Pairwise (· < ·)) (hb : b.Pairwise (· < ·)) (hla : a.length ≤ 1000000) (hlb : b.length ≤ 1000000) : m_wormtubref06_union a b = some (uniS a b) := by
  have key := loop_inv (body := b_wormtubref06_union_1 a b) (UI a b) (fun s => (a.length - s.2.1.toNat) + (b.length - s.2.2.toNat)) (fun r => r = uniS a b) (fun s hs => by
    obtain ⟨out, i, k⟩ := s
    obtain ⟨hi, hk, hso, hlo, hm, hlen⟩ := hs
    simp only at hi hk hso hlo hm hlen
    by_cases hend : i < a.length ∨ k < b.length
    · left
      have hc : ((decide (i < (a.length : Int))) || (decide (k < (b.length : Int)))) = true := by
        rcases hend with h | h <;> simp [h]
      have hw : ∀ z : Int, 0 ≤ z → z ≤ 1000000 → w64 (z + 1) = z + 1 := fun z h1 h2 => w64_id (by omega) (by omega)
      have stepA : ∀ (hia : i < a.length) (k' : Int), (∀ x, idxL a i = some x → ((k' = k ∧ ∀ y ∈ b.drop k.toNat, x < y) ∨ (k' = k + 1 ∧ ∃ t, b.drop k.toNat = x :: t ∧ b.drop (k + 1).toNat = t ∧ k < b.length))) → ∀ x, idxL a i = some x → appO out [x] = some (out ++ [x]) ∧ UI a b (out ++ [x], i + 1, k') ∧ (a.length - (i + 1).toNat) + (b.length - k'.toNat) < (a.length - i.toNat) + (b.length - k.toNat) := by
        intro hia k' hk' x hx
        obtain ⟨x', hx', hd⟩ := drop_at hi.1 hia
        rw [hx] at hx'; cases hx'
        have hpa : (x :: a.drop (i + 1).toNat).Pairwise (· < ·) := by rw [← hd]; exact ha.sublist (List.drop_sublist _ _)
        have hpa' := List.pairwise_cons.1 hpa
        have hlox := fun z hz => (hlo z hz).1 x (by rw [hd]; simp)
        refine ⟨appO_some' (by simp; omega), ?_, ?_⟩
        · rcases hk' x hx with ⟨rfl, hlt⟩ | ⟨rfl, t, ht, ht2, hkb⟩
          · refine ⟨⟨by show 0 ≤ i + 1; omega, by show i + 1 ≤ _; omega⟩, hk, ?_, fun z hz => ?_, fun z => ?_, by simp; omega⟩
            · rw [List.pairwise_append]; exact ⟨hso, by simp, fun z hz y hy => by simp only [List.mem_singleton] at hy; subst hy; exact hlox z hz⟩
            · rcases List.mem_append.1 hz with hz | hz
              · exact ⟨fun y hy => (hlo z hz).1 y (by rw [hd]; exact List.mem_cons_of_mem _ hy), (hlo z hz).2⟩
              · simp only [List.mem_singleton] at hz; subst hz
                exact ⟨hpa'.1, hlt⟩
            · rw [hm z, hd]; simp only [List.mem_append, List.mem_cons, List.not_mem_nil, or_false, or_assoc]
          · have hpb : (x :: t).Pairwise (· < ·) := by rw [← ht]; exact hb.sublist (List.drop_sublist _ _)
            have hpb' := List.pairwise_cons.1 hpb
            refine ⟨⟨by show 0 ≤ i + 1; omega, by show i + 1 ≤ _; omega⟩, ⟨by show 0 ≤ k + 1; omega, by show k + 1 ≤ _; omega⟩, ?_, fun z hz => ?_, fun z => ?_, by simp; omega⟩
            · rw [List.pairwise_append]; exact ⟨hso, by simp, fun z hz y hy => by simp only [List.mem_singleton] at hy; subst hy; exact hlox z hz⟩
            · rcases List.mem_append.1 hz with hz | hz
              · exact ⟨fun y hy => (hlo z hz).1 y (by rw [hd]; exact List.mem_cons_of_mem _ hy), fun y hy => (hlo z hz).2 y (by rw [ht]; rw [ht2] at hy; exact List.mem_cons_of_mem _ hy)⟩
              · simp only [List.mem_singleton] at hz; subst hz
                exact ⟨hpa'.1, fun y hy => hpb'.1 y (by rw [ht2] at hy; exact hy)⟩
            · rw [hm z, hd, ht, ht2]; simp only [List.mem_append, List.mem_cons, List.not_mem_nil, or_false]
              constructor
              · rintro (h | (h | h) | (h | h))
                · exact .inl (.inl h)
                · exact .inl (.inr h)
                · exact .inr (.inl h)
                · exact .inl (.inr h)
                · exact .inr (.inr h)
              · rintro ((h | h) | h | h)
                · exact .inl h
                · exact .inr (.inl (.inl h))
                · exact .inr (.inl (.inr h))
                · exact .inr (.inr (.inr h))
        · rcases hk' x hx with ⟨rfl, _⟩ | ⟨rfl, _, _, _, _⟩ <;> omega
      have stepB : ∀ (hkb : k < b.length), (∀ y, idxL b k = some y → ∀ x ∈ a.drop i.toNat, y < x) → ∀ y, idxL b k = some y → appO out [y] = some (out ++ [y]) ∧ UI a b (out ++ [y], i, k + 1) ∧ (a.length - i.toNat) + (b.length - (k + 1).toNat) < (a.length - i.toNat) + (b.length - k.toNat) := by
        intro hkb hlt y hy
        obtain ⟨y', hy', hd⟩ := drop_at hk.1 hkb
        rw [hy] at hy'; cases hy'
        have hpb : (y :: b.drop (k + 1).toNat).Pairwise (· < ·) := by rw [← hd]; exact hb.sublist (List.drop_sublist _ _)
        have hpb' := List.pairwise_cons.1 hpb
        have hloy := fun z hz => (hlo z hz).2 y (by rw [hd]; simp)
        refine ⟨appO_some' (by simp; omega), ⟨hi, ⟨by show 0 ≤ k + 1; omega, by show k + 1 ≤ _; omega⟩, ?_, fun z hz => ?_, fun z => ?_, by simp; omega⟩, by omega⟩
        · rw [List.pairwise_append]; exact ⟨hso, by simp, fun z hz u hu => by simp only [List.mem_singleton] at hu; subst hu; exact hloy z hz⟩
        · rcases List.mem_append.1 hz with hz | hz
          · exact ⟨(hlo z hz).1, fun u hu => (hlo z hz).2 u (by rw [hd]; exact List.mem_cons_of_mem _ hu)⟩
          · simp only [List.mem_singleton] at hz; subst hz
            exact ⟨hlt z hy, hpb'.1⟩
        · rw [hm z, hd]; simp only [List.mem_append, List.mem_cons, List.not_mem_nil, or_false]
          constructor
          · rintro (h | h | (h | h))
            · exact .inl (.inl h)
            · exact .inr (.inl h)
            · exact .inl (.inr h)
            · exact .inr (.inr h)
          · rintro ((h | h) | h | h)
            · exact .inl h
            · exact .inr (.inr (.inl h))
            · exact .inr (.inl h)
            · exact .inr (.inr (.inr h))
      unfold b_wormtubref06_union_1
      rw [if_pos hc]
      by_cases hkb : k < b.length
      · have hkne : (k == (b.length : Int)) = false := by
          cases h : k == (b.length : Int) with
          | false => rfl
          | true => have := beq_iff_eq.1 h; omega
        obtain ⟨y, hy, hdy⟩ := drop_at hk.1 hkb
        have hpb : (y :: b.drop (k + 1).toNat).Pairwise (· < ·) := by rw [← hdy]; exact hb.sublist (List.drop_sublist _ _)
        have hpb' := List.pairwise_cons.1 hpb
        by_cases hia : i < a.length
        · obtain ⟨x, hx, hdx⟩ := drop_at hi.1 hia
          have hpa : (x :: a.drop (i + 1).toNat).Pairwise (· < ·) := by rw [← hdx]; exact ha.sublist (List.drop_sublist _ _)
          have hpa' := List.pairwise_cons.1 hpa
          by_cases hxy : x ≤ y
          · by_cases hexy : x = y
            · obtain ⟨h1, h2, h3⟩ := stepA hia (k + 1) (fun x' hx' => by rw [hx] at hx'; cases hx'; exact .inr ⟨rfl, _, by rw [hdy, hexy], rfl, hkb⟩) x hx
              exact ⟨(out ++ [y], i + 1, k + 1), by simp [hkne, hia, hkb, hx, hy, hexy, bindv, hw k hk.1 (by omega), hw i hi.1 (by omega), show appO out [y] = some (out ++ [y]) by rw [← hexy]; exact h1], by rw [hexy] at h2; exact h2, h3⟩
            · have hlt : ∀ u ∈ b.drop k.toNat, x < u := by rw [hdy]; exact lt_head hpb (by omega)
              obtain ⟨h1, h2, h3⟩ := stepA hia k (fun x' hx' => by rw [hx] at hx'; cases hx'; exact .inl ⟨rfl, hlt⟩) x hx
              exact ⟨_, by simp [hkne, hia, hkb, hx, hy, hxy, hexy, bindv, hw i hi.1 (by omega), h1], h2, h3⟩
          · have hlt : ∀ u ∈ a.drop i.toNat, y < u := by rw [hdx]; exact lt_head hpa (by omega)
            obtain ⟨h1, h2, h3⟩ := stepB hkb (fun y' hy' => by rw [hy] at hy'; cases hy'; exact hlt) y hy
            exact ⟨_, by simp [hkne, hia, hkb, hx, hy, hxy, bindv, hw k hk.1 (by omega), h1], h2, h3⟩
        · have hdn : a.drop i.toNat = [] := List.drop_eq_nil_of_le (by omega)
          obtain ⟨h1, h2, h3⟩ := stepB hkb (fun y' hy' u hu => by rw [hdn] at hu; cases hu) y hy
          exact ⟨_, by simp [hkne, hia, hkb, hy, bindv, hw k hk.1 (by omega), h1], h2, h3⟩
      · have hia : i < a.length := hend.resolve_right hkb
        have hke : k = b.length := by omega
        obtain ⟨x, hx, hdx⟩ := drop_at hi.1 hia
        have hdn : b.drop k.toNat = [] := List.drop_eq_nil_of_le (by omega)
        obtain ⟨h1, h2, h3⟩ := stepA hia k (fun x' hx' => .inl ⟨rfl, fun u hu => by rw [hdn] at hu; cases hu⟩) x hx
        have hkeq : (k == (b.length : Int)) = true := by simp [hke]
        exact ⟨_, by simp only [hkeq, hia, hkb, hx, bindv, hw i hi.1 (by omega), h1, if_true, if_false, Option.bind_some, decide_true, decide_false, Bool.false_eq_true], h2, h3⟩
    · right
      have hi' : a.drop i.toNat = [] := List.drop_eq_nil_of_le (by omega)
      have hk' : b.drop k.toNat = [] := List.drop_eq_nil_of_le (by omega)
      refine ⟨out, ?_, ?_⟩
      · unfold b_wormtubref06_union_1
        have h1 : ¬ i < a.length := fun h => hend (.inl h)
        have h2 : ¬ k < b.length := fun h => hend (.inr h)
        rw [if_neg (by simp [h1, h2])]
      · refine sorted_ext hso (uni_sorted hb) fun x => ?_
        rw [mem_uniS, hm x, hi', hk']; simp) _ ([], 0, 0) (Nat.le_refl _) ⟨⟨Int.le_refl 0, by simp⟩, ⟨Int.le_refl 0, by simp⟩, List.Pairwise.nil, (fun _ h => by cases h), (fun x => by simp), by simp⟩
  obtain ⟨r, h1, h2⟩ := key
  unfold m_wormtubref06_union
  refine bind_of h1 ?_
  rw [h2]
def minI (i : Nat) (f g : Nat → Int) : Nat → Int := fun k => if k < i then imin (f k) (g k) else f k
theorem minI_step {i : Nat} {f g : Nat → Int} : updN (minI i f g) i (imin (f i) (g i)) = minI (i + 1) f g := by
  funext k
  by_cases e : k = i
  · subst e; rw [updN_self]; unfold minI; rw [if_pos (by omega)]
  · rw [updN_ne e]; unfold minI
    by_cases h : k < i
    · rw [if_pos h, if_pos (by omega)]
    · rw [if_neg h, if_neg (by omega)]
theorem minI_0 {f g : Nat → Int} : minI 0 f g = f := by funext k; unfold minI; rw [if_neg (by omega)]
theorem pour1_doc (into so x : Held) (hx : x.C.Woods = into.C.Woods) : loopM (b_wormtubref06_pour_1 into so) (0, x) = some { x with C := { x.C with Woods := minN into.C.Woods so.C.Woods } } := by
  obtain ⟨t', ht, hl⟩ := loopM_upto (body := b_wormtubref06_pour_1 into so) (fun i (t : Held) => ((i : Int), t)) (fun t => t) (fun i t => t = { x with C := { x.C with Woods := minI i into.C.Woods so.C.Woods } }) 8
    (fun i t hi ht => by
      have hw : w64 ((i : Int) + 1) = ((i + 1 : Nat) : Int) := by rw [w64_id (by omega) (by omega)]; rfl
      refine ⟨_, ?_, rfl⟩
      unfold b_wormtubref06_pour_1
      rw [if_pos (by simp; omega), idxO_nat hi]
      simp only [Option.bind_some, bindv, hw, ht]
      rw [minI_step])
    (fun t ht => by
      unfold b_wormtubref06_pour_1
      rw [if_neg (by simp)]) 8 0 x rfl (by rw [minI_0, ← hx])
  rw [ht] at hl
  exact hl
theorem pour2_doc (into so x : Held) (hx : x.C.Places = into.C.Places) : loopM (b_wormtubref06_pour_2 into so) (0, x) = some { x with C := { x.C with Places := minN into.C.Places so.C.Places } } := by
  obtain ⟨t', ht, hl⟩ := loopM_upto (body := b_wormtubref06_pour_2 into so) (fun i (t : Held) => ((i : Int), t)) (fun t => t) (fun i t => t = { x with C := { x.C with Places := minI i into.C.Places so.C.Places } }) 8
    (fun i t hi ht => by
      have hw : w64 ((i : Int) + 1) = ((i + 1 : Nat) : Int) := by rw [w64_id (by omega) (by omega)]; rfl
      refine ⟨_, ?_, rfl⟩
      unfold b_wormtubref06_pour_2
      rw [if_pos (by simp; omega), idxO_nat hi]
      simp only [Option.bind_some, bindv, hw, ht]
      rw [minI_step])
    (fun t ht => by
      unfold b_wormtubref06_pour_2
      rw [if_neg (by simp)]) 8 0 x rfl (by rw [minI_0, ← hx])
  rw [ht] at hl
  exact hl
theorem pour_doc {h so : Held} {n : Int} (ha : 0 ≤ h.C.Amount ∧ h.C.Amount ≤ 1099511627776) (hn : 0 ≤ n ∧ n ≤ 1099511627776) (hf : h.Fills.Pairwise (· < ·)) (hf2 : so.Fills.Pairwise (· < ·)) (hl : h.Fills.length ≤ 1000000) (hl2 : so.Fills.length ≤ 1000000) : m_wormtubref06_pour h so n = some (pourS h so n) := by
  have hw : w64 (h.C.Amount + n) = h.C.Amount + n := w64_id (by omega) (by omega)
  unfold m_wormtubref06_pour pourS
  by_cases e : (h.C.Amount == 0) = true
  · rw [if_pos e, if_pos e]
    simp only [bindv]
    rw [appO_some' (by simp; omega)]
    simp only [Option.bind_some, List.nil_append, hw]
  · rw [if_neg e, if_neg e]
    simp only [bindv]
    rw [pour1_doc h so { h with C := { h.C with Age := imin h.C.Age so.C.Age } } rfl]
    simp only [Option.bind_some]
    rw [pour2_doc h so { h with C := { h.C with Age := imin h.C.Age so.C.Age, Woods := minN h.C.Woods so.C.Woods } } rfl]
    simp only [Option.bind_some]
    rw [union_doc hf hf2 hl hl2]
    simp only [Option.bind_some, hw]
def Gives (r : List Held ⊕ Int) (m : Option (List Held × Int)) : Prop := match r with
  | .inl l => m = some (l, 0)
  | .inr e => e ≠ 0 ∧ ∃ l, m = some (l, e)
section
variable {last : Int} {m : Nat} {l : List Held} {x : Ev} {i : Nat} {c : Held}
theorem app_nil {α : Type} {l : List α} (h : l.length ≤ 1000000) : appO [] l = some l := by rw [appO_some' (by simp; omega)]; simp
theorem do_doc (ho : AOk last m l) (hm : m ≤ 1000000) (_hl : 0 ≤ last) (hv : evB x = true) : Gives (doS l x m) (m_wormtubref06_do l x m) := by
  have hlen : l.length ≤ 1000000 := by have := ho.few; omega
  unfold m_wormtubref06_do doS
  rw [find_doc _ hlen, Option.bind_some]
  by_cases k0 : x.Kind = 0
  · have k0' : (x.Kind == 0) = true := by simpa using k0
    rw [if_pos k0', if_pos k0']
    unfold makeD
    cases hf : findS l x.Cask with
    | some j =>
      have e1 : decide (ixO (some j) ≥ 0) = true := by simp [ixO]
      simp only [e1, if_true, Option.isSome_some]
      exact ⟨by decide, l, rfl⟩
    | none =>
      have e1 : decide (ixO none ≥ 0) = false := by decide
      simp only [e1, Bool.false_eq_true, if_false, Option.isSome_none]
      by_cases hfull : 256 ≤ l.length
      · have e2 : decide ((l.length : Int) ≥ 256) = true := decide_eq_true (by omega)
        simp only [e2, hfull, if_true]
        exact ⟨by decide, l, rfl⟩
      · have e2 : decide ((l.length : Int) ≥ 256) = false := decide_eq_false (by omega)
        simp only [e2, hfull, if_false, Bool.false_eq_true]
        rw [app_nil hlen, Option.bind_some, appO_some' (by simp; omega)]
        rfl
  · have k0' : ¬ (x.Kind == 0) = true := by simpa using k0
    rw [if_neg k0', if_neg k0']
    cases hi : findS l x.Cask with
    | none =>
      have e1 : decide (ixO none < 0) = true := by decide
      by_cases k2 : (x.Kind == 2) = true
      · simp only [k2, if_true, find_doc _ hlen, Option.bind_some, e1, Bool.true_or]
        exact ⟨by decide, l, rfl⟩
      · simp only [k2, if_false, Option.bind_some, e1, Bool.true_or, if_true, Bool.false_eq_true]
        exact ⟨by decide, l, rfl⟩
    | some i =>
      obtain ⟨c, hc, _⟩ := find_some hi
      have hil : i < l.length := (List.getElem?_eq_some_iff.1 hc).1
      have e1 : decide (ixO (some i) < 0) = false := decide_eq_false (by show ¬ ((i : Int) < 0); omega)
      have ei : (ixO (some i)).toNat = i := rfl
      have ex : ∀ l' : List Held, idxL l' (ixO (some i)) = l'[i]? := fun l' => idxL_nat l' i
      have hcm := ho.each c (List.mem_of_getElem? hc)
      have hcl := fills_len hcm
      simp only [hc]
      rcases kinds hv with k | k | k | k | k | k | k | k | k
      · exact absurd k k0
      · have hact : actS l i c x m = fillD l i c x m := by unfold actS; rw [k]; rfl
        rw [hact]
        simp only [k, show ((1 : Int) == 1) = true from rfl, show ((1 : Int) == 2) = false from rfl, show ((1 : Int) == 3) = false from rfl, show ((1 : Int) == 4) = false from rfl, show ((1 : Int) == 5) = false from rfl, show ((1 : Int) == 6) = false from rfl, show ((1 : Int) == 7) = false from rfl, show ((1 : Int) == 8) = false from rfl, if_true, if_false, Bool.false_eq_true, Option.bind_some, e1, Bool.or_self, app_nil hlen, ex, hc, bindv, ei]
        have ha := evAmt hv (.inl k)
        have hamt := hcm.amt
        have hroom := hcm.room
        have hw : w64 (c.C.Amount + x.Amount) = c.C.Amount + x.Amount := w64_id (by omega) (by omega)
        have hp : m_wormtubref06_pour c (Wormtubref06Held.mk (ApiCask.mk 0 0 0 0 0 0 0 0 (fun _ => 0) (fun _ => 0)) ([(m : Int)])) x.Amount = some (pourS c (fillS m) x.Amount) := pour_doc (so := fillS m) ⟨by omega, by omega⟩ ⟨by omega, by omega⟩ hcm.fills.1 (by simp [fillS]) (by omega) (by simp [fillS])
        rw [hw, hp]
        unfold fillD
        by_cases hf : c.C.Amount + x.Amount > c.C.Room
        · simp only [hf, decide_true, if_true, Option.bind_some]
          exact ⟨by decide, _, rfl⟩
        · simp only [hf, decide_false, if_false, Bool.false_eq_true, Option.bind_some]
          rfl
      · have hact : actS l i c x m = rackD l i c x := by unfold actS; rw [k]; rfl
        rw [hact]
        have ha := evAmt hv (.inr (.inl k))
        have hamt := hcm.amt
        have hroom := hcm.room
        unfold rackD
        simp only [k, show ((2 : Int) == 1) = false from rfl, show ((2 : Int) == 2) = true from rfl, show ((2 : Int) == 3) = false from rfl, show ((2 : Int) == 4) = false from rfl, show ((2 : Int) == 5) = false from rfl, show ((2 : Int) == 6) = false from rfl, show ((2 : Int) == 7) = false from rfl, show ((2 : Int) == 8) = false from rfl, if_true, if_false, Bool.false_eq_true, find_doc _ hlen, Option.bind_some, e1, Bool.false_or]
        cases hk : findS l x.Other with
        | none =>
          have e2 : decide (ixO none < 0) = true := by decide
          simp only [e2, if_true]
          exact ⟨by decide, l, rfl⟩
        | some q =>
          obtain ⟨o, hq, _⟩ := find_some hk
          have hom := ho.each o (List.mem_of_getElem? hq)
          have hol := fills_len hom
          have hoamt := hom.amt
          have horoom := hom.room
          have hql : q < l.length := (List.getElem?_eq_some_iff.1 hq).1
          have e2 : decide (ixO (some q) < 0) = false := decide_eq_false (by show ¬ ((q : Int) < 0); omega)
          have eq' : (ixO (some q)).toNat = q := rfl
          have ex2 : ∀ l' : List Held, idxL l' (ixO (some q)) = l'[q]? := fun l' => idxL_nat l' q
          have eiq : (ixO (some i) == ixO (some q)) = (i == q) := by
            cases h : i == q with
            | true => have := beq_iff_eq.1 h; subst this; simp
            | false =>
              have : i ≠ q := by simpa using h
              have : ixO (some i) ≠ ixO (some q) := fun e => this (by have e' : (i : Int) = (q : Int) := e; omega)
              simpa using this
          simp only [e2, Bool.false_eq_true, if_false, app_nil hlen, Option.bind_some, ex, ex2, hc, hq, eiq]
          unfold rackD2
          by_cases h1 : (i == q) = true
          · simp only [h1, if_true, Option.bind_some]
            exact ⟨by decide, _, rfl⟩
          · have hne : i ≠ q := fun e => h1 (by simp [e])
            simp only [h1, if_false, Bool.false_eq_true]
            by_cases h2 : (c.C.Owner != o.C.Owner || decide (c.C.Creditor ≥ 0) || decide (o.C.Creditor ≥ 0)) = true
            · simp only [h2, if_true, Option.bind_some]
              exact ⟨by decide, _, rfl⟩
            · simp only [h2, if_false, Bool.false_eq_true]
              by_cases h3 : c.C.Amount < x.Amount
              · simp only [h3, decide_true, if_true, Option.bind_some]
                exact ⟨by decide, _, rfl⟩
              · simp only [h3, decide_false, if_false, Bool.false_eq_true]
                have hw : w64 (o.C.Amount + x.Amount) = o.C.Amount + x.Amount := w64_id (by omega) (by omega)
                rw [hw]
                by_cases h4 : o.C.Amount + x.Amount > o.C.Room
                · simp only [h4, decide_true, if_true, Option.bind_some]
                  exact ⟨by decide, _, rfl⟩
                · simp only [h4, decide_false, if_false, Bool.false_eq_true]
                  rw [pour_doc (so := c) ⟨by omega, by omega⟩ ⟨by omega, by omega⟩ hom.fills.1 hcm.fills.1 (by omega) (by omega)]
                  simp only [Option.bind_some, bindv, eq', ei]
                  have hc' : (l.set q (pourS o c x.Amount))[i]? = some c := by rw [List.getElem?_set_ne (fun e => hne e.symm)]; exact hc
                  rw [hc']
                  simp only [Option.bind_some]
                  rw [less_doc (by omega) (by omega) (by omega)]
                  rfl
      · have hact : actS l i c x m = drainD l i c x := by unfold actS; rw [k]; rfl
        rw [hact]
        simp only [k, show ((3 : Int) == 1) = false from rfl, show ((3 : Int) == 2) = false from rfl, show ((3 : Int) == 3) = true from rfl, show ((3 : Int) == 4) = false from rfl, show ((3 : Int) == 5) = false from rfl, show ((3 : Int) == 6) = false from rfl, show ((3 : Int) == 7) = false from rfl, show ((3 : Int) == 8) = false from rfl, if_true, if_false, Bool.false_eq_true, Option.bind_some, e1, Bool.or_self, app_nil hlen, ex, hc, bindv, ei]
        have ha := evAmt hv (.inr (.inr k))
        have hamt := hcm.amt
        have hroom := hcm.room
        unfold drainD
        by_cases h1 : c.C.Creditor ≥ 0
        · simp only [h1, decide_true, if_true, Option.bind_some]
          exact ⟨by decide, _, rfl⟩
        · by_cases h2 : c.C.Amount < x.Amount
          · simp only [h1, h2, decide_true, decide_false, if_true, if_false, Bool.false_eq_true, Option.bind_some]
            exact ⟨by decide, _, rfl⟩
          · simp only [h1, h2, decide_false, if_false, Bool.false_eq_true]
            rw [less_doc (by omega) (by omega) (by omega)]
            rfl
      · have hact : actS l i c x m = carryD l i c x := by unfold actS; rw [k]; rfl
        rw [hact]
        simp only [k, show ((4 : Int) == 1) = false from rfl, show ((4 : Int) == 2) = false from rfl, show ((4 : Int) == 3) = false from rfl, show ((4 : Int) == 4) = true from rfl, show ((4 : Int) == 5) = false from rfl, show ((4 : Int) == 6) = false from rfl, show ((4 : Int) == 7) = false from rfl, show ((4 : Int) == 8) = false from rfl, if_true, if_false, Bool.false_eq_true, Option.bind_some, e1, Bool.or_self, app_nil hlen, ex, hc, bindv, ei]
        rfl
      · have hact : actS l i c x m = sellD l i c x := by unfold actS; rw [k]; rfl
        rw [hact]
        simp only [k, show ((5 : Int) == 1) = false from rfl, show ((5 : Int) == 2) = false from rfl, show ((5 : Int) == 3) = false from rfl, show ((5 : Int) == 4) = false from rfl, show ((5 : Int) == 5) = true from rfl, show ((5 : Int) == 6) = false from rfl, show ((5 : Int) == 7) = false from rfl, show ((5 : Int) == 8) = false from rfl, if_true, if_false, Bool.false_eq_true, Option.bind_some, e1, Bool.or_self, app_nil hlen, ex, hc, bindv, ei]
        unfold sellD
        by_cases h1 : (c.C.Owner != x.Person || decide (c.C.Creditor ≥ 0)) = true
        · simp only [h1, if_true, Option.bind_some]
          exact ⟨by decide, _, rfl⟩
        · simp only [h1, if_false, Bool.false_eq_true]
          by_cases h2 : (x.To == c.C.Owner) = true
          · simp only [h2, if_true, Option.bind_some]
            exact ⟨by decide, _, rfl⟩
          · simp only [h2, if_false, Bool.false_eq_true, Option.bind_some]
            rfl
      · have hact : actS l i c x m = pledgeD l i c x := by unfold actS; rw [k]; rfl
        rw [hact]
        simp only [k, show ((6 : Int) == 1) = false from rfl, show ((6 : Int) == 2) = false from rfl, show ((6 : Int) == 3) = false from rfl, show ((6 : Int) == 4) = false from rfl, show ((6 : Int) == 5) = false from rfl, show ((6 : Int) == 6) = true from rfl, show ((6 : Int) == 7) = false from rfl, show ((6 : Int) == 8) = false from rfl, if_true, if_false, Bool.false_eq_true, Option.bind_some, e1, Bool.or_self, app_nil hlen, ex, hc, bindv, ei]
        unfold pledgeD
        by_cases h1 : (c.C.Owner != x.Person) = true
        · simp only [h1, if_true, Option.bind_some]
          exact ⟨by decide, _, rfl⟩
        · simp only [h1, if_false, Bool.false_eq_true]
          by_cases h2 : c.C.Creditor ≥ 0
          · simp only [h2, decide_true, if_true, Option.bind_some]
            exact ⟨by decide, _, rfl⟩
          · simp only [h2, decide_false, if_false, Bool.false_eq_true, Option.bind_some]
            rfl
      · have hact : actS l i c x m = freeD l i c x := by unfold actS; rw [k]; rfl
        rw [hact]
        simp only [k, show ((7 : Int) == 1) = false from rfl, show ((7 : Int) == 2) = false from rfl, show ((7 : Int) == 3) = false from rfl, show ((7 : Int) == 4) = false from rfl, show ((7 : Int) == 5) = false from rfl, show ((7 : Int) == 6) = false from rfl, show ((7 : Int) == 7) = true from rfl, show ((7 : Int) == 8) = false from rfl, if_true, if_false, Bool.false_eq_true, Option.bind_some, e1, Bool.or_self, app_nil hlen, ex, hc, bindv, ei]
        unfold freeD
        by_cases h1 : (c.C.Creditor != x.Person) = true
        · simp only [h1, if_true, Option.bind_some]
          exact ⟨by decide, _, rfl⟩
        · simp only [h1, if_false, Bool.false_eq_true, Option.bind_some]
          rfl
      · have hact : actS l i c x m = charD l i c x := by unfold actS; rw [k]; rfl
        rw [hact]
        simp only [k, show ((8 : Int) == 1) = false from rfl, show ((8 : Int) == 2) = false from rfl, show ((8 : Int) == 3) = false from rfl, show ((8 : Int) == 4) = false from rfl, show ((8 : Int) == 5) = false from rfl, show ((8 : Int) == 6) = false from rfl, show ((8 : Int) == 7) = false from rfl, show ((8 : Int) == 8) = true from rfl, if_true, if_false, Bool.false_eq_true, Option.bind_some, e1, Bool.or_self, app_nil hlen, ex, hc, bindv, ei]
        unfold charD
        by_cases h1 : c.C.Amount > 0
        · simp only [h1, decide_true, if_true, Option.bind_some]
          exact ⟨by decide, _, rfl⟩
        · simp only [h1, decide_false, if_false, Bool.false_eq_true, Option.bind_some]
          rfl
end
end Go.Proofs.Ytkedjmhhcekmiaa
end

section
namespace Go.Proofs.Ytkedjmhhcekmiaa
open Go.Dec
theorem evD {x : Ev} (h : evB x = true) : 0 ≤ x.Day ∧ x.Day ≤ 65536 := (evB_base h).1
theorem step_doc {l : List Ev} {day : Int} {n : Nat} {s : Cur} {x : Ev} (hx : l[n]? = some x) (hn : n ≤ 4096) (ho : SOk n s) (hd : x.Day ≤ day) :
    b_wormtubref06_play_1 l day (s.all, s.last, (n : Int)) = some (match stepS n s x with | .inl s' => .next (s'.all, s'.last, ((n + 1 : Nat) : Int)) | .inr e => .done (.inr ([], (n : Int), e))) := by
  have hnl : n < l.length := (List.getElem?_eq_some_iff.1 hx).1
  have hw : w64 ((n : Int) + 1) = ((n + 1 : Nat) : Int) := by rw [w64_id (by omega) (by omega)]; rfl
  have h1 : decide ((n : Int) < (l.length : Int)) = true := decide_eq_true (by omega)
  unfold b_wormtubref06_play_1 stepS
  simp only [h1, if_true, idxL_nat, hx, Option.bind_some, hd, decide_true, Event_doc]
  cases hv : evB x with
  | false => simp
  | true =>
    simp only [Bool.not_true, Bool.false_eq_true, if_false]
    by_cases hlt : x.Day < s.last
    · simp only [hlt, decide_true, if_true]
    · simp only [hlt, decide_false, if_false, Bool.false_eq_true]
      have hday := evD hv
      have hsd := ho.day
      rw [w64_id (n := x.Day - s.last) (by omega) (by omega), older_doc ho.ok (by omega) (by omega), Option.bind_some]
      have hok := older_all ho.ok (n := x.Day - s.last) (by omega)
      have hg := do_doc hok (by omega) (by omega) hv
      cases hdo : doS (s.all.map (olderS (x.Day - s.last))) x n with
      | inl all =>
        rw [hdo] at hg
        have hg : m_wormtubref06_do _ x n = some (all, 0) := hg
        rw [hg, Option.bind_some]
        simp only [bindv, hw]
        rfl
      | inr e =>
        rw [hdo] at hg
        obtain ⟨hne, l', hg⟩ := hg
        rw [hg, Option.bind_some]
        have : (e != 0) = true := by simpa using hne
        simp only [this, if_true]
theorem stop_doc {l : List Ev} {day : Int} {n : Nat} {s : Cur} (h : ∀ x, l[n]? = some x → ¬ x.Day ≤ day) (hn : n ≤ l.length) : b_wormtubref06_play_1 l day (s.all, s.last, (n : Int)) = some (.done (.inl (s.all, s.last, (n : Int)))) := by
  unfold b_wormtubref06_play_1
  cases hx : l[n]? with
  | none =>
    have : ¬ (n : Int) < (l.length : Int) := by
      have := List.getElem?_eq_none_iff.1 hx; omega
    simp [this]
  | some x =>
    have hnl : n < l.length := (List.getElem?_eq_some_iff.1 hx).1
    have h1 : decide ((n : Int) < (l.length : Int)) = true := decide_eq_true (by omega)
    have h2 : decide (x.Day ≤ day) = false := decide_eq_false (h x hx)
    simp only [h1, if_true, idxL_nat, hx, Option.bind_some, h2, Bool.false_eq_true, if_false]
theorem loop_doc {l : List Ev} {day : Int} (hl : l.length ≤ 4096) : ∀ (post pre : List Ev) (s : Cur), l = pre ++ post → SOk pre.length s →
    loopM (b_wormtubref06_play_1 l day) (s.all, s.last, (pre.length : Int)) = some (match goS day post pre.length s with | (.inl s', k) => .inl (s'.all, s'.last, (k : Int)) | (.inr e, k) => .inr ([], (k : Int), e))
  | [], pre, s, e, ho => by
    rw [loopM_eq, stop_doc (fun x hx => by rw [e] at hx; simp at hx) (by rw [e]; simp)]
    rfl
  | x :: post, pre, s, e, ho => by
    have hx : l[pre.length]? = some x := getEl_mid e
    have hn : pre.length ≤ 4096 := by have := lt_mid e; omega
    rw [loopM_eq]
    by_cases hd : x.Day ≤ day
    · rw [step_doc hx hn ho hd]
      simp only [goS, hd, if_true]
      cases hs : stepS pre.length s x with
      | inl s' =>
        have ih := loop_doc (day := day) hl post (pre ++ [x]) s' (by rw [e]; simp) (by simpa using (step_ok ho hs).1)
        simpa using ih
      | inr er => rfl
    · rw [stop_doc (fun y hy => by rw [hx] at hy; cases hy; exact hd) (by have := lt_mid e; omega)]
      simp only [goS, hd, if_false]
theorem go_ok {day : Int} : ∀ (l : List Ev) (n : Nat) (s s' : Cur) (k : Nat), SOk n s → s.last ≤ day → goS day l n s = (.inl s', k) → SOk k s' ∧ s'.last ≤ day ∧ n ≤ k ∧ k ≤ n + l.length
  | [], n, s, s', k, ho, hd, h => by
    simp only [goS, Prod.mk.injEq, Sum.inl.injEq] at h
    obtain ⟨rfl, rfl⟩ := h
    exact ⟨ho, hd, Nat.le_refl _, by simp⟩
  | x :: l, n, s, s', k, ho, hd, h => by
    simp only [goS] at h
    by_cases hx : x.Day ≤ day
    · rw [if_pos hx] at h
      cases hs : stepS n s x with
      | inl s1 =>
        rw [hs] at h
        obtain ⟨h1, _, _, h4⟩ := step_ok ho hs
        obtain ⟨g1, g2, g3, g4⟩ := go_ok l (n + 1) s1 s' k h1 (by omega) h
        exact ⟨g1, g2, by omega, by simp; omega⟩
      | inr e => rw [hs] at h; cases h
    · rw [if_neg hx] at h
      simp only [Prod.mk.injEq, Sum.inl.injEq] at h
      obtain ⟨rfl, rfl⟩ := h
      exact ⟨ho, hd, Nat.le_refl _, by simp⟩
def outD : (List Held ⊕ Int) × Nat → List Held × Int × Int
  | (.inl all, k) => (all, (k : Int), 0)
  | (.inr e, k) => ([], (k : Int), e)
theorem play_doc (l : List Ev) (day : Int) : m_wormtubref06_play l day = some (outD (playS l day)) := by
  unfold m_wormtubref06_play playS
  by_cases hl : l.length > 4096
  · have : decide ((l.length : Int) > 4096) = true := decide_eq_true (by omega)
    simp only [this, hl, if_true]; rfl
  · have : decide ((l.length : Int) > 4096) = false := decide_eq_false (by omega)
    simp only [this, hl, if_false, Bool.false_eq_true]
    have e : m_wormtubref06_in day 0 65536 = inB day 0 65536 := rfl
    rw [e]
    cases hb : inB day 0 65536 with
    | false => rfl
    | true =>
      have hday := inB_iff.1 hb
      simp only [Bool.not_true, Bool.false_eq_true, if_false]
      have hloop := loop_doc (l := l) (day := day) (by omega) l [] ⟨[], 0⟩ rfl SOk.start
      have hloop' : loopM (b_wormtubref06_play_1 l day) ([], 0, 0) = _ := hloop
      rw [hloop', Option.bind_some]
      unfold runS
      cases hg : goS day l 0 ⟨[], 0⟩ with
      | mk r k =>
        cases r with
        | inl s' =>
          obtain ⟨h1, h2, h3, h4⟩ := go_ok l 0 ⟨[], 0⟩ s' k SOk.start (by show (0:Int) ≤ day; omega) hg
          have hsd := h1.day
          show ((m_wormtubref06_older s'.all (w64 (day - s'.last))).bind fun r_120 => some (r_120, (k : Int), 0)) = _
          rw [w64_id (n := day - s'.last) (by omega) (by omega), older_doc h1.ok (by omega) (by omega)]
          rfl
        | inr e => rfl
end Go.Proofs.Ytkedjmhhcekmiaa
end
