/- Own texts and texts printed by a program of mine, for fileOwns_holds; only what it reaches. -/
import Derived.Test.YthnlglmjffdpfaaGreatDoorPo3
import Derived.Test.YthnlglmjffdpfaaGreatDoorProg
section
namespace Go.Proofs.YthnlglmjffdpfaaGreatDoor
open Go.Dec Go.Shelf Go.RowKit Go.Maps Go.Sort
theorem mixedOK : Tryz.prog.follows .mixedOrders = true := by kernel_rfl
structure ApiBooked where
 Kind : Int
 N : (List Int)
def cApiBooked (x : ApiBooked) (p0 : Option Addr) (k0 : Nat) : List Value := [.int .i64 x.Kind, .slice p0 x.N.length k0]
def eApiBooked (x : ApiBooked) (p0 : Option Addr) (k0 : Nat) : Value := .agg (cApiBooked x p0 k0).toArray
def rApiBooked : ERel ApiBooked := fun F x vs => ∃ p0 k0, vs = cApiBooked x p0 k0 ∧ RepSl 1 (Ex (cInt .i64)) F p0 k0 x.N
theorem plApiBooked : ∀ fs, Tryz.prog.underlying 41 = some (.struct fs) → Places Tryz.prog fs #[(0, 1), (1, 1)] := fun fs h => by
 obtain rfl := TypeDesc.struct.inj (Option.some.inj (Tryz.underlying41.symm.trans h))
 intro w; kernel_rfl
structure FileKind where
 letter : Int
 most : (List Int)
def cFileKind (x : FileKind) (p0 : Option Addr) (k0 : Nat) : List Value := [.int .u8 x.letter, .slice p0 x.most.length k0]
def eFileKind (x : FileKind) (p0 : Option Addr) (k0 : Nat) : Value := .agg (cFileKind x p0 k0).toArray
def rFileKind : ERel FileKind := fun F x vs => ∃ p0 k0, vs = cFileKind x p0 k0 ∧ RepSl 1 (Ex (cInt .i64)) F p0 k0 x.most
theorem plFileKind : ∀ fs, Tryz.prog.underlying 129 = some (.struct fs) → Places Tryz.prog fs #[(0, 1), (1, 1)] := fun fs h => by
 obtain rfl := TypeDesc.struct.inj (Option.some.inj (Tryz.underlying129.symm.trans h))
 intro w; kernel_rfl
structure FileWrong where
def cFileWrong (x : FileWrong)  : List Value := []
def eFileWrong (x : FileWrong)  : Value := .agg (cFileWrong x).toArray
theorem plFileWrong : ∀ fs, Tryz.prog.underlying 139 = some (.struct fs) → Places Tryz.prog fs #[] := fun fs h => by
 obtain rfl := TypeDesc.struct.inj (Option.some.inj (Tryz.underlying139.symm.trans h))
 intro w; kernel_rfl
def penc (x : FileWrong) : Value := .iface 139 (eFileWrong x)
theorem ok_t3 : ElemOK Tryz.prog 3 1 (Ex (cInt .i64)) := .ex (fun _ => rfl) (fun _ => rfl) Tryz.sizeOf3 ⟨_, Tryz.typeInfo3, by decide +kernel, by decide +kernel⟩ ⟨_, Tryz.zeroValue3, rfl⟩
theorem ok_t5 : ElemOK Tryz.prog 5 1 (Ex (cInt .u8)) := .ex (fun _ => rfl) (fun _ => rfl) Tryz.sizeOf5 ⟨_, Tryz.typeInfo5, by decide +kernel, by decide +kernel⟩ ⟨_, Tryz.zeroValue5, rfl⟩
theorem ok_t41 : ElemOK Tryz.prog 41 2 rApiBooked := .mk (fun _ _ _ ⟨_, _, h, _⟩ => h ▸ rfl) (fun _ _ _ ⟨_, _, h, _⟩ => h ▸ rfl) (fun _ _ _ _ le ⟨q0, q1, h, h0⟩ => ⟨q0, q1, h, h0.mono le⟩) Tryz.sizeOf41 ⟨_, Tryz.typeInfo41, by decide +kernel, by decide +kernel⟩ ⟨_, Tryz.zeroValue41, rfl⟩
theorem ok_t83 : ElemOK Tryz.prog 83 96 (Ex (cArr 96 (cInt .u8))) := .ex (fun _ => rfl) (fun _ => rfl) Tryz.sizeOf83 ⟨_, Tryz.typeInfo83, by decide +kernel, by decide +kernel⟩ ⟨_, Tryz.zeroValue83, rfl⟩
theorem ok_t129 : ElemOK Tryz.prog 129 2 rFileKind := .mk (fun _ _ _ ⟨_, _, h, _⟩ => h ▸ rfl) (fun _ _ _ ⟨_, _, h, _⟩ => h ▸ rfl) (fun _ _ _ _ le ⟨q0, q1, h, h0⟩ => ⟨q0, q1, h, h0.mono le⟩) Tryz.sizeOf129 ⟨_, Tryz.typeInfo129, by decide +kernel, by decide +kernel⟩ ⟨_, Tryz.zeroValue129, rfl⟩
theorem allLt3 {p : Nat → Prop} (h0 : p 0) (h1 : p 1) (h2 : p 2) : ∀ j, j < 3 → p j := by
 intro j hj; match j, hj with | 0, _ => exact h0 | 1, _ => exact h1 | 2, _ => exact h2
theorem allLt4 {p : Nat → Prop} (h0 : p 0) (h1 : p 1) (h2 : p 2) (h3 : p 3) : ∀ j, j < 4 → p j := by
 intro j hj; match j, hj with | 0, _ => exact h0 | 1, _ => exact h1 | 2, _ => exact h2 | 3, _ => exact h3
theorem allLt5 {p : Nat → Prop} (h0 : p 0) (h1 : p 1) (h2 : p 2) (h3 : p 3) (h4 : p 4) : ∀ j, j < 5 → p j := by
 intro j hj; match j, hj with | 0, _ => exact h0 | 1, _ => exact h1 | 2, _ => exact h2 | 3, _ => exact h3 | 4, _ => exact h4
theorem allLt9 {p : Nat → Prop} (h0 : p 0) (h1 : p 1) (h2 : p 2) (h3 : p 3) (h4 : p 4) (h5 : p 5) (h6 : p 6) (h7 : p 7) (h8 : p 8) : ∀ j, j < 9 → p j := by
 intro j hj; match j, hj with | 0, _ => exact h0 | 1, _ => exact h1 | 2, _ => exact h2 | 3, _ => exact h3 | 4, _ => exact h4 | 5, _ => exact h5 | 6, _ => exact h6 | 7, _ => exact h7 | 8, _ => exact h8
theorem allLt13 {p : Nat → Prop} (h0 : p 0) (h1 : p 1) (h2 : p 2) (h3 : p 3) (h4 : p 4) (h5 : p 5) (h6 : p 6) (h7 : p 7) (h8 : p 8) (h9 : p 9) (h10 : p 10) (h11 : p 11) (h12 : p 12) : ∀ j, j < 13 → p j := (allS (allS (allS (allS (allS (allS (allS (allS (allS (allS (allS (allS (allS (fun j h => absurd h (Nat.not_lt_zero j)) h0) h1) h2) h3) h4) h5) h6) h7) h8) h9) h10) h11) h12)
theorem allLt14 {p : Nat → Prop} (h0 : p 0) (h1 : p 1) (h2 : p 2) (h3 : p 3) (h4 : p 4) (h5 : p 5) (h6 : p 6) (h7 : p 7) (h8 : p 8) (h9 : p 9) (h10 : p 10) (h11 : p 11) (h12 : p 12) (h13 : p 13) : ∀ j, j < 14 → p j := (allS (allS (allS (allS (allS (allS (allS (allS (allS (allS (allS (allS (allS (allS (fun j h => absurd h (Nat.not_lt_zero j)) h0) h1) h2) h3) h4) h5) h6) h7) h8) h9) h10) h11) h12) h13)
theorem allLt15 {p : Nat → Prop} (h0 : p 0) (h1 : p 1) (h2 : p 2) (h3 : p 3) (h4 : p 4) (h5 : p 5) (h6 : p 6) (h7 : p 7) (h8 : p 8) (h9 : p 9) (h10 : p 10) (h11 : p 11) (h12 : p 12) (h13 : p 13) (h14 : p 14) : ∀ j, j < 15 → p j := (allS (allS (allS (allS (allS (allS (allS (allS (allS (allS (allS (allS (allS (allS (allS (fun j h => absurd h (Nat.not_lt_zero j)) h0) h1) h2) h3) h4) h5) h6) h7) h8) h9) h10) h11) h12) h13) h14)
theorem allLt96 {p : Nat → Prop} (h0 : p 0) (h1 : p 1) (h2 : p 2) (h3 : p 3) (h4 : p 4) (h5 : p 5) (h6 : p 6) (h7 : p 7) (h8 : p 8) (h9 : p 9) (h10 : p 10) (h11 : p 11) (h12 : p 12) (h13 : p 13) (h14 : p 14) (h15 : p 15) (h16 : p 16) (h17 : p 17) (h18 : p 18) (h19 : p 19) (h20 : p 20) (h21 : p 21) (h22 : p 22) (h23 : p 23) (h24 : p 24) (h25 : p 25) (h26 : p 26) (h27 : p 27) (h28 : p 28) (h29 : p 29) (h30 : p 30) (h31 : p 31) (h32 : p 32) (h33 : p 33) (h34 : p 34) (h35 : p 35) (h36 : p 36) (h37 : p 37) (h38 : p 38) (h39 : p 39) (h40 : p 40) (h41 : p 41) (h42 : p 42) (h43 : p 43) (h44 : p 44) (h45 : p 45) (h46 : p 46) (h47 : p 47) (h48 : p 48) (h49 : p 49) (h50 : p 50) (h51 : p 51) (h52 : p 52) (h53 : p 53) (h54 : p 54) (h55 : p 55) (h56 : p 56) (h57 : p 57) (h58 : p 58) (h59 : p 59) (h60 : p 60) (h61 : p 61) (h62 : p 62) (h63 : p 63) (h64 : p 64) (h65 : p 65) (h66 : p 66) (h67 : p 67) (h68 : p 68) (h69 : p 69) (h70 : p 70) (h71 : p 71) (h72 : p 72) (h73 : p 73) (h74 : p 74) (h75 : p 75) (h76 : p 76) (h77 : p 77) (h78 : p 78) (h79 : p 79) (h80 : p 80) (h81 : p 81) (h82 : p 82) (h83 : p 83) (h84 : p 84) (h85 : p 85) (h86 : p 86) (h87 : p 87) (h88 : p 88) (h89 : p 89) (h90 : p 90) (h91 : p 91) (h92 : p 92) (h93 : p 93) (h94 : p 94) (h95 : p 95) : ∀ j, j < 96 → p j := (allS (allS (allS (allS (allS (allS (allS (allS (allS (allS (allS (allS (allS (allS (allS (allS (allS (allS (allS (allS (allS (allS (allS (allS (allS (allS (allS (allS (allS (allS (allS (allS (allS (allS (allS (allS (allS (allS (allS (allS (allS (allS (allS (allS (allS (allS (allS (allS (allS (allS (allS (allS (allS (allS (allS (allS (allS (allS (allS (allS (allS (allS (allS (allS (allS (allS (allS (allS (allS (allS (allS (allS (allS (allS (allS (allS (allS (allS (allS (allS (allS (allS (allS (allS (allS (allS (allS (allS (allS (allS (allS (allS (allS (allS (allS (allS (fun j h => absurd h (Nat.not_lt_zero j)) h0) h1) h2) h3) h4) h5) h6) h7) h8) h9) h10) h11) h12) h13) h14) h15) h16) h17) h18) h19) h20) h21) h22) h23) h24) h25) h26) h27) h28) h29) h30) h31) h32) h33) h34) h35) h36) h37) h38) h39) h40) h41) h42) h43) h44) h45) h46) h47) h48) h49) h50) h51) h52) h53) h54) h55) h56) h57) h58) h59) h60) h61) h62) h63) h64) h65) h66) h67) h68) h69) h70) h71) h72) h73) h74) h75) h76) h77) h78) h79) h80) h81) h82) h83) h84) h85) h86) h87) h88) h89) h90) h91) h92) h93) h94) h95)
def eq_83 (x y : (Nat → Int)) : Bool := [((x 0) == (y 0)), ((x 1) == (y 1)), ((x 2) == (y 2)), ((x 3) == (y 3)), ((x 4) == (y 4)), ((x 5) == (y 5)), ((x 6) == (y 6)), ((x 7) == (y 7)), ((x 8) == (y 8)), ((x 9) == (y 9)), ((x 10) == (y 10)), ((x 11) == (y 11)), ((x 12) == (y 12)), ((x 13) == (y 13)), ((x 14) == (y 14)), ((x 15) == (y 15)), ((x 16) == (y 16)), ((x 17) == (y 17)), ((x 18) == (y 18)), ((x 19) == (y 19)), ((x 20) == (y 20)), ((x 21) == (y 21)), ((x 22) == (y 22)), ((x 23) == (y 23)), ((x 24) == (y 24)), ((x 25) == (y 25)), ((x 26) == (y 26)), ((x 27) == (y 27)), ((x 28) == (y 28)), ((x 29) == (y 29)), ((x 30) == (y 30)), ((x 31) == (y 31)), ((x 32) == (y 32)), ((x 33) == (y 33)), ((x 34) == (y 34)), ((x 35) == (y 35)), ((x 36) == (y 36)), ((x 37) == (y 37)), ((x 38) == (y 38)), ((x 39) == (y 39)), ((x 40) == (y 40)), ((x 41) == (y 41)), ((x 42) == (y 42)), ((x 43) == (y 43)), ((x 44) == (y 44)), ((x 45) == (y 45)), ((x 46) == (y 46)), ((x 47) == (y 47)), ((x 48) == (y 48)), ((x 49) == (y 49)), ((x 50) == (y 50)), ((x 51) == (y 51)), ((x 52) == (y 52)), ((x 53) == (y 53)), ((x 54) == (y 54)), ((x 55) == (y 55)), ((x 56) == (y 56)), ((x 57) == (y 57)), ((x 58) == (y 58)), ((x 59) == (y 59)), ((x 60) == (y 60)), ((x 61) == (y 61)), ((x 62) == (y 62)), ((x 63) == (y 63)), ((x 64) == (y 64)), ((x 65) == (y 65)), ((x 66) == (y 66)), ((x 67) == (y 67)), ((x 68) == (y 68)), ((x 69) == (y 69)), ((x 70) == (y 70)), ((x 71) == (y 71)), ((x 72) == (y 72)), ((x 73) == (y 73)), ((x 74) == (y 74)), ((x 75) == (y 75)), ((x 76) == (y 76)), ((x 77) == (y 77)), ((x 78) == (y 78)), ((x 79) == (y 79)), ((x 80) == (y 80)), ((x 81) == (y 81)), ((x 82) == (y 82)), ((x 83) == (y 83)), ((x 84) == (y 84)), ((x 85) == (y 85)), ((x 86) == (y 86)), ((x 87) == (y 87)), ((x 88) == (y 88)), ((x 89) == (y 89)), ((x 90) == (y 90)), ((x 91) == (y 91)), ((x 92) == (y 92)), ((x 93) == (y 93)), ((x 94) == (y 94)), ((x 95) == (y 95))].all id
theorem reqd_83 (x y : (Nat → Int)) (d : Nat) (w : World) : (Op.equalIn (d + 2) 83 (.agg ((cArr 96 (cInt .u8)) x).toArray) (.agg ((cArr 96 (cInt .u8)) y).toArray)).run Tryz.prog w = .ok (eq_83 x y) w :=
 eq_array Tryz.underlying83 Tryz.sizeOf5 (bs := [((x 0) == (y 0)), ((x 1) == (y 1)), ((x 2) == (y 2)), ((x 3) == (y 3)), ((x 4) == (y 4)), ((x 5) == (y 5)), ((x 6) == (y 6)), ((x 7) == (y 7)), ((x 8) == (y 8)), ((x 9) == (y 9)), ((x 10) == (y 10)), ((x 11) == (y 11)), ((x 12) == (y 12)), ((x 13) == (y 13)), ((x 14) == (y 14)), ((x 15) == (y 15)), ((x 16) == (y 16)), ((x 17) == (y 17)), ((x 18) == (y 18)), ((x 19) == (y 19)), ((x 20) == (y 20)), ((x 21) == (y 21)), ((x 22) == (y 22)), ((x 23) == (y 23)), ((x 24) == (y 24)), ((x 25) == (y 25)), ((x 26) == (y 26)), ((x 27) == (y 27)), ((x 28) == (y 28)), ((x 29) == (y 29)), ((x 30) == (y 30)), ((x 31) == (y 31)), ((x 32) == (y 32)), ((x 33) == (y 33)), ((x 34) == (y 34)), ((x 35) == (y 35)), ((x 36) == (y 36)), ((x 37) == (y 37)), ((x 38) == (y 38)), ((x 39) == (y 39)), ((x 40) == (y 40)), ((x 41) == (y 41)), ((x 42) == (y 42)), ((x 43) == (y 43)), ((x 44) == (y 44)), ((x 45) == (y 45)), ((x 46) == (y 46)), ((x 47) == (y 47)), ((x 48) == (y 48)), ((x 49) == (y 49)), ((x 50) == (y 50)), ((x 51) == (y 51)), ((x 52) == (y 52)), ((x 53) == (y 53)), ((x 54) == (y 54)), ((x 55) == (y 55)), ((x 56) == (y 56)), ((x 57) == (y 57)), ((x 58) == (y 58)), ((x 59) == (y 59)), ((x 60) == (y 60)), ((x 61) == (y 61)), ((x 62) == (y 62)), ((x 63) == (y 63)), ((x 64) == (y 64)), ((x 65) == (y 65)), ((x 66) == (y 66)), ((x 67) == (y 67)), ((x 68) == (y 68)), ((x 69) == (y 69)), ((x 70) == (y 70)), ((x 71) == (y 71)), ((x 72) == (y 72)), ((x 73) == (y 73)), ((x 74) == (y 74)), ((x 75) == (y 75)), ((x 76) == (y 76)), ((x 77) == (y 77)), ((x 78) == (y 78)), ((x 79) == (y 79)), ((x 80) == (y 80)), ((x 81) == (y 81)), ((x 82) == (y 82)), ((x 83) == (y 83)), ((x 84) == (y 84)), ((x 85) == (y 85)), ((x 86) == (y 86)), ((x 87) == (y 87)), ((x 88) == (y 88)), ((x 89) == (y 89)), ((x 90) == (y 90)), ((x 91) == (y 91)), ((x 92) == (y 92)), ((x 93) == (y 93)), ((x 94) == (y 94)), ((x 95) == (y 95))]) rfl ⟨⟨_, _, part1 Tryz.isAgg5 rfl, part1 Tryz.isAgg5 rfl, fun w => eq_int Tryz.underlying5 (d + 0) w⟩, ⟨_, _, part1 Tryz.isAgg5 rfl, part1 Tryz.isAgg5 rfl, fun w => eq_int Tryz.underlying5 (d + 0) w⟩, ⟨_, _, part1 Tryz.isAgg5 rfl, part1 Tryz.isAgg5 rfl, fun w => eq_int Tryz.underlying5 (d + 0) w⟩, ⟨_, _, part1 Tryz.isAgg5 rfl, part1 Tryz.isAgg5 rfl, fun w => eq_int Tryz.underlying5 (d + 0) w⟩, ⟨_, _, part1 Tryz.isAgg5 rfl, part1 Tryz.isAgg5 rfl, fun w => eq_int Tryz.underlying5 (d + 0) w⟩, ⟨_, _, part1 Tryz.isAgg5 rfl, part1 Tryz.isAgg5 rfl, fun w => eq_int Tryz.underlying5 (d + 0) w⟩, ⟨_, _, part1 Tryz.isAgg5 rfl, part1 Tryz.isAgg5 rfl, fun w => eq_int Tryz.underlying5 (d + 0) w⟩, ⟨_, _, part1 Tryz.isAgg5 rfl, part1 Tryz.isAgg5 rfl, fun w => eq_int Tryz.underlying5 (d + 0) w⟩, ⟨_, _, part1 Tryz.isAgg5 rfl, part1 Tryz.isAgg5 rfl, fun w => eq_int Tryz.underlying5 (d + 0) w⟩, ⟨_, _, part1 Tryz.isAgg5 rfl, part1 Tryz.isAgg5 rfl, fun w => eq_int Tryz.underlying5 (d + 0) w⟩, ⟨_, _, part1 Tryz.isAgg5 rfl, part1 Tryz.isAgg5 rfl, fun w => eq_int Tryz.underlying5 (d + 0) w⟩, ⟨_, _, part1 Tryz.isAgg5 rfl, part1 Tryz.isAgg5 rfl, fun w => eq_int Tryz.underlying5 (d + 0) w⟩, ⟨_, _, part1 Tryz.isAgg5 rfl, part1 Tryz.isAgg5 rfl, fun w => eq_int Tryz.underlying5 (d + 0) w⟩, ⟨_, _, part1 Tryz.isAgg5 rfl, part1 Tryz.isAgg5 rfl, fun w => eq_int Tryz.underlying5 (d + 0) w⟩, ⟨_, _, part1 Tryz.isAgg5 rfl, part1 Tryz.isAgg5 rfl, fun w => eq_int Tryz.underlying5 (d + 0) w⟩, ⟨_, _, part1 Tryz.isAgg5 rfl, part1 Tryz.isAgg5 rfl, fun w => eq_int Tryz.underlying5 (d + 0) w⟩, ⟨_, _, part1 Tryz.isAgg5 rfl, part1 Tryz.isAgg5 rfl, fun w => eq_int Tryz.underlying5 (d + 0) w⟩, ⟨_, _, part1 Tryz.isAgg5 rfl, part1 Tryz.isAgg5 rfl, fun w => eq_int Tryz.underlying5 (d + 0) w⟩, ⟨_, _, part1 Tryz.isAgg5 rfl, part1 Tryz.isAgg5 rfl, fun w => eq_int Tryz.underlying5 (d + 0) w⟩, ⟨_, _, part1 Tryz.isAgg5 rfl, part1 Tryz.isAgg5 rfl, fun w => eq_int Tryz.underlying5 (d + 0) w⟩, ⟨_, _, part1 Tryz.isAgg5 rfl, part1 Tryz.isAgg5 rfl, fun w => eq_int Tryz.underlying5 (d + 0) w⟩, ⟨_, _, part1 Tryz.isAgg5 rfl, part1 Tryz.isAgg5 rfl, fun w => eq_int Tryz.underlying5 (d + 0) w⟩, ⟨_, _, part1 Tryz.isAgg5 rfl, part1 Tryz.isAgg5 rfl, fun w => eq_int Tryz.underlying5 (d + 0) w⟩, ⟨_, _, part1 Tryz.isAgg5 rfl, part1 Tryz.isAgg5 rfl, fun w => eq_int Tryz.underlying5 (d + 0) w⟩, ⟨_, _, part1 Tryz.isAgg5 rfl, part1 Tryz.isAgg5 rfl, fun w => eq_int Tryz.underlying5 (d + 0) w⟩, ⟨_, _, part1 Tryz.isAgg5 rfl, part1 Tryz.isAgg5 rfl, fun w => eq_int Tryz.underlying5 (d + 0) w⟩, ⟨_, _, part1 Tryz.isAgg5 rfl, part1 Tryz.isAgg5 rfl, fun w => eq_int Tryz.underlying5 (d + 0) w⟩, ⟨_, _, part1 Tryz.isAgg5 rfl, part1 Tryz.isAgg5 rfl, fun w => eq_int Tryz.underlying5 (d + 0) w⟩, ⟨_, _, part1 Tryz.isAgg5 rfl, part1 Tryz.isAgg5 rfl, fun w => eq_int Tryz.underlying5 (d + 0) w⟩, ⟨_, _, part1 Tryz.isAgg5 rfl, part1 Tryz.isAgg5 rfl, fun w => eq_int Tryz.underlying5 (d + 0) w⟩, ⟨_, _, part1 Tryz.isAgg5 rfl, part1 Tryz.isAgg5 rfl, fun w => eq_int Tryz.underlying5 (d + 0) w⟩, ⟨_, _, part1 Tryz.isAgg5 rfl, part1 Tryz.isAgg5 rfl, fun w => eq_int Tryz.underlying5 (d + 0) w⟩, ⟨_, _, part1 Tryz.isAgg5 rfl, part1 Tryz.isAgg5 rfl, fun w => eq_int Tryz.underlying5 (d + 0) w⟩, ⟨_, _, part1 Tryz.isAgg5 rfl, part1 Tryz.isAgg5 rfl, fun w => eq_int Tryz.underlying5 (d + 0) w⟩, ⟨_, _, part1 Tryz.isAgg5 rfl, part1 Tryz.isAgg5 rfl, fun w => eq_int Tryz.underlying5 (d + 0) w⟩, ⟨_, _, part1 Tryz.isAgg5 rfl, part1 Tryz.isAgg5 rfl, fun w => eq_int Tryz.underlying5 (d + 0) w⟩, ⟨_, _, part1 Tryz.isAgg5 rfl, part1 Tryz.isAgg5 rfl, fun w => eq_int Tryz.underlying5 (d + 0) w⟩, ⟨_, _, part1 Tryz.isAgg5 rfl, part1 Tryz.isAgg5 rfl, fun w => eq_int Tryz.underlying5 (d + 0) w⟩, ⟨_, _, part1 Tryz.isAgg5 rfl, part1 Tryz.isAgg5 rfl, fun w => eq_int Tryz.underlying5 (d + 0) w⟩, ⟨_, _, part1 Tryz.isAgg5 rfl, part1 Tryz.isAgg5 rfl, fun w => eq_int Tryz.underlying5 (d + 0) w⟩, ⟨_, _, part1 Tryz.isAgg5 rfl, part1 Tryz.isAgg5 rfl, fun w => eq_int Tryz.underlying5 (d + 0) w⟩, ⟨_, _, part1 Tryz.isAgg5 rfl, part1 Tryz.isAgg5 rfl, fun w => eq_int Tryz.underlying5 (d + 0) w⟩, ⟨_, _, part1 Tryz.isAgg5 rfl, part1 Tryz.isAgg5 rfl, fun w => eq_int Tryz.underlying5 (d + 0) w⟩, ⟨_, _, part1 Tryz.isAgg5 rfl, part1 Tryz.isAgg5 rfl, fun w => eq_int Tryz.underlying5 (d + 0) w⟩, ⟨_, _, part1 Tryz.isAgg5 rfl, part1 Tryz.isAgg5 rfl, fun w => eq_int Tryz.underlying5 (d + 0) w⟩, ⟨_, _, part1 Tryz.isAgg5 rfl, part1 Tryz.isAgg5 rfl, fun w => eq_int Tryz.underlying5 (d + 0) w⟩, ⟨_, _, part1 Tryz.isAgg5 rfl, part1 Tryz.isAgg5 rfl, fun w => eq_int Tryz.underlying5 (d + 0) w⟩, ⟨_, _, part1 Tryz.isAgg5 rfl, part1 Tryz.isAgg5 rfl, fun w => eq_int Tryz.underlying5 (d + 0) w⟩, ⟨_, _, part1 Tryz.isAgg5 rfl, part1 Tryz.isAgg5 rfl, fun w => eq_int Tryz.underlying5 (d + 0) w⟩, ⟨_, _, part1 Tryz.isAgg5 rfl, part1 Tryz.isAgg5 rfl, fun w => eq_int Tryz.underlying5 (d + 0) w⟩, ⟨_, _, part1 Tryz.isAgg5 rfl, part1 Tryz.isAgg5 rfl, fun w => eq_int Tryz.underlying5 (d + 0) w⟩, ⟨_, _, part1 Tryz.isAgg5 rfl, part1 Tryz.isAgg5 rfl, fun w => eq_int Tryz.underlying5 (d + 0) w⟩, ⟨_, _, part1 Tryz.isAgg5 rfl, part1 Tryz.isAgg5 rfl, fun w => eq_int Tryz.underlying5 (d + 0) w⟩, ⟨_, _, part1 Tryz.isAgg5 rfl, part1 Tryz.isAgg5 rfl, fun w => eq_int Tryz.underlying5 (d + 0) w⟩, ⟨_, _, part1 Tryz.isAgg5 rfl, part1 Tryz.isAgg5 rfl, fun w => eq_int Tryz.underlying5 (d + 0) w⟩, ⟨_, _, part1 Tryz.isAgg5 rfl, part1 Tryz.isAgg5 rfl, fun w => eq_int Tryz.underlying5 (d + 0) w⟩, ⟨_, _, part1 Tryz.isAgg5 rfl, part1 Tryz.isAgg5 rfl, fun w => eq_int Tryz.underlying5 (d + 0) w⟩, ⟨_, _, part1 Tryz.isAgg5 rfl, part1 Tryz.isAgg5 rfl, fun w => eq_int Tryz.underlying5 (d + 0) w⟩, ⟨_, _, part1 Tryz.isAgg5 rfl, part1 Tryz.isAgg5 rfl, fun w => eq_int Tryz.underlying5 (d + 0) w⟩, ⟨_, _, part1 Tryz.isAgg5 rfl, part1 Tryz.isAgg5 rfl, fun w => eq_int Tryz.underlying5 (d + 0) w⟩, ⟨_, _, part1 Tryz.isAgg5 rfl, part1 Tryz.isAgg5 rfl, fun w => eq_int Tryz.underlying5 (d + 0) w⟩, ⟨_, _, part1 Tryz.isAgg5 rfl, part1 Tryz.isAgg5 rfl, fun w => eq_int Tryz.underlying5 (d + 0) w⟩, ⟨_, _, part1 Tryz.isAgg5 rfl, part1 Tryz.isAgg5 rfl, fun w => eq_int Tryz.underlying5 (d + 0) w⟩, ⟨_, _, part1 Tryz.isAgg5 rfl, part1 Tryz.isAgg5 rfl, fun w => eq_int Tryz.underlying5 (d + 0) w⟩, ⟨_, _, part1 Tryz.isAgg5 rfl, part1 Tryz.isAgg5 rfl, fun w => eq_int Tryz.underlying5 (d + 0) w⟩, ⟨_, _, part1 Tryz.isAgg5 rfl, part1 Tryz.isAgg5 rfl, fun w => eq_int Tryz.underlying5 (d + 0) w⟩, ⟨_, _, part1 Tryz.isAgg5 rfl, part1 Tryz.isAgg5 rfl, fun w => eq_int Tryz.underlying5 (d + 0) w⟩, ⟨_, _, part1 Tryz.isAgg5 rfl, part1 Tryz.isAgg5 rfl, fun w => eq_int Tryz.underlying5 (d + 0) w⟩, ⟨_, _, part1 Tryz.isAgg5 rfl, part1 Tryz.isAgg5 rfl, fun w => eq_int Tryz.underlying5 (d + 0) w⟩, ⟨_, _, part1 Tryz.isAgg5 rfl, part1 Tryz.isAgg5 rfl, fun w => eq_int Tryz.underlying5 (d + 0) w⟩, ⟨_, _, part1 Tryz.isAgg5 rfl, part1 Tryz.isAgg5 rfl, fun w => eq_int Tryz.underlying5 (d + 0) w⟩, ⟨_, _, part1 Tryz.isAgg5 rfl, part1 Tryz.isAgg5 rfl, fun w => eq_int Tryz.underlying5 (d + 0) w⟩, ⟨_, _, part1 Tryz.isAgg5 rfl, part1 Tryz.isAgg5 rfl, fun w => eq_int Tryz.underlying5 (d + 0) w⟩, ⟨_, _, part1 Tryz.isAgg5 rfl, part1 Tryz.isAgg5 rfl, fun w => eq_int Tryz.underlying5 (d + 0) w⟩, ⟨_, _, part1 Tryz.isAgg5 rfl, part1 Tryz.isAgg5 rfl, fun w => eq_int Tryz.underlying5 (d + 0) w⟩, ⟨_, _, part1 Tryz.isAgg5 rfl, part1 Tryz.isAgg5 rfl, fun w => eq_int Tryz.underlying5 (d + 0) w⟩, ⟨_, _, part1 Tryz.isAgg5 rfl, part1 Tryz.isAgg5 rfl, fun w => eq_int Tryz.underlying5 (d + 0) w⟩, ⟨_, _, part1 Tryz.isAgg5 rfl, part1 Tryz.isAgg5 rfl, fun w => eq_int Tryz.underlying5 (d + 0) w⟩, ⟨_, _, part1 Tryz.isAgg5 rfl, part1 Tryz.isAgg5 rfl, fun w => eq_int Tryz.underlying5 (d + 0) w⟩, ⟨_, _, part1 Tryz.isAgg5 rfl, part1 Tryz.isAgg5 rfl, fun w => eq_int Tryz.underlying5 (d + 0) w⟩, ⟨_, _, part1 Tryz.isAgg5 rfl, part1 Tryz.isAgg5 rfl, fun w => eq_int Tryz.underlying5 (d + 0) w⟩, ⟨_, _, part1 Tryz.isAgg5 rfl, part1 Tryz.isAgg5 rfl, fun w => eq_int Tryz.underlying5 (d + 0) w⟩, ⟨_, _, part1 Tryz.isAgg5 rfl, part1 Tryz.isAgg5 rfl, fun w => eq_int Tryz.underlying5 (d + 0) w⟩, ⟨_, _, part1 Tryz.isAgg5 rfl, part1 Tryz.isAgg5 rfl, fun w => eq_int Tryz.underlying5 (d + 0) w⟩, ⟨_, _, part1 Tryz.isAgg5 rfl, part1 Tryz.isAgg5 rfl, fun w => eq_int Tryz.underlying5 (d + 0) w⟩, ⟨_, _, part1 Tryz.isAgg5 rfl, part1 Tryz.isAgg5 rfl, fun w => eq_int Tryz.underlying5 (d + 0) w⟩, ⟨_, _, part1 Tryz.isAgg5 rfl, part1 Tryz.isAgg5 rfl, fun w => eq_int Tryz.underlying5 (d + 0) w⟩, ⟨_, _, part1 Tryz.isAgg5 rfl, part1 Tryz.isAgg5 rfl, fun w => eq_int Tryz.underlying5 (d + 0) w⟩, ⟨_, _, part1 Tryz.isAgg5 rfl, part1 Tryz.isAgg5 rfl, fun w => eq_int Tryz.underlying5 (d + 0) w⟩, ⟨_, _, part1 Tryz.isAgg5 rfl, part1 Tryz.isAgg5 rfl, fun w => eq_int Tryz.underlying5 (d + 0) w⟩, ⟨_, _, part1 Tryz.isAgg5 rfl, part1 Tryz.isAgg5 rfl, fun w => eq_int Tryz.underlying5 (d + 0) w⟩, ⟨_, _, part1 Tryz.isAgg5 rfl, part1 Tryz.isAgg5 rfl, fun w => eq_int Tryz.underlying5 (d + 0) w⟩, ⟨_, _, part1 Tryz.isAgg5 rfl, part1 Tryz.isAgg5 rfl, fun w => eq_int Tryz.underlying5 (d + 0) w⟩, ⟨_, _, part1 Tryz.isAgg5 rfl, part1 Tryz.isAgg5 rfl, fun w => eq_int Tryz.underlying5 (d + 0) w⟩, ⟨_, _, part1 Tryz.isAgg5 rfl, part1 Tryz.isAgg5 rfl, fun w => eq_int Tryz.underlying5 (d + 0) w⟩, ⟨_, _, part1 Tryz.isAgg5 rfl, part1 Tryz.isAgg5 rfl, fun w => eq_int Tryz.underlying5 (d + 0) w⟩, trivial⟩ w
theorem req_83 (x y : (Nat → Int)) (w : World) : (Op.equal 83 (.agg ((cArr 96 (cInt .u8)) x).toArray) (.agg ((cArr 96 (cInt .u8)) y).toArray)).run Tryz.prog w = .ok (eq_83 x y) w := reqd_83 x y 9998 w
theorem ok_t20 : ElemOK Tryz.prog 20 1 (rAny 5 31) := .any Tryz.sizeOf20 ⟨_, Tryz.typeInfo20, by decide +kernel, by decide +kernel⟩ ⟨_, Tryz.zeroValue20, rfl⟩
end Go.Proofs.YthnlglmjffdpfaaGreatDoor
end

section
namespace Go.Proofs.YthnlglmjffdpfaaGreatDoor
open Go.Dec Go.Shelf Go.RowKit Go.Maps Go.Sort
noncomputable def b_file_groups_Booked_1_1 {σ : Type} (y : (Int × (List ApiBooked)) → σ → Option (σ × Bool)) (c1 : (List ApiBooked)) (c7 : Int) (s10 : Int × σ) : Option (Ctl (Int × σ) ((σ) ⊕ (σ))) :=
 if (decide (s10.1 < (c1.length : Int))) then ((sliceL c1 s10.1 (imin (c1.length : Int) (w64 (s10.1 + c7)))).bind fun l_14 => (y (s10.1, l_14) s10.2).bind fun p19 => if (!p19.2) then (some (.done (.inr p19.1))) else (bindv (w64 (s10.1 + c7)) fun at_24 => some (.next (at_24, p19.1)))) else (some (.done (.inl s10.2)))
noncomputable def m_file_groups_Booked_1 {σ : Type} (y : (Int × (List ApiBooked)) → σ → Option (σ × Bool)) (c1 : (List ApiBooked)) (c7 : Int) (s0 : σ) : Option σ :=
 (loopM (b_file_groups_Booked_1_1 y c1 c7) (0, s0)).bind fun b0 => match b0 with | .inl b26 => (some b26) | .inr b26 => (some b26)
theorem c_file_groups_Booked_1 (F0 : Fz) (σ : Type) (ly : Nat) (Y : σ → Fz → HP) (y : (Int × (List ApiBooked)) → σ → Option (σ × Bool)) (hy : YieldOK Tryz.prog ly F0 (fun (x : (Int × (List ApiBooked))) F vs => ∃ p0 k0, vs = [(.int .i64 x.1), (.slice p0 x.2.length k0)] ∧ RepSl 2 rApiBooked F p0 k0 x.2) Y y) (c1 : (List ApiBooked)) (b2 : Nat) (p4 : Option Addr) (k5 : Nat) (hb3 : F0.mem b2 = some (.cells [(.slice p4 c1.length k5)].toArray 22)) (h6 : RepSl 2 rApiBooked F0 p4 k5 c1) (c7 : Int) (b8 : Nat) (hb9 : F0.mem b8 = some (.cells [(.int .i64 c7)].toArray 3)) (s0 : σ) : CT Tryz.prog 76 [(.func (.yield ly) #[] #[]), (.pointer (some ⟨b2, 0, none⟩)), (.pointer (some ⟨b8, 0, none⟩))].toArray F0 (Y s0 F0) (m_file_groups_Booked_1 y c1 c7 s0) (fun _ _ _ => True) (fun s' F' _ => Y s' F') := by
 refine CT.enter Tryz.func76 rfl Tryz.ntmps76 rfl fun r R => ?_
 unfold m_file_groups_Booked_1
 refine .seq (.region (.assign rfl rfl (.nil (.code (.block (.keep (.cons (k := 0) rfl (.cons (k := 1) rfl (.cons (k := 2) rfl (.cons (k := 4) rfl (.nil _))))) ?_))))))
 refine .loop (fun (s10 : Int × σ) a w => ∃ (F_11 : Fz), F0 ≤ F_11 ∧ Hd 25 [] [(0, (.func (.yield ly) #[] #[])), (1, (.pointer (some ⟨b2, 0, none⟩))), (2, (.pointer (some ⟨b8, 0, none⟩))), (4, (.int .i64 s10.1))] F_11 [Y s10.2 F_11, R] a w) (fun b0 e a w => match b0 with | .inl b26 => e = .exit 0 ∧ ∃ (F_27 : Fz), F0 ≤ F_27 ∧ Hd 25 [] [] F_27 [Y b26 F_27, R] a w | .inr b26 => e = .ret ∧ ∃ (F_29 : Fz), F0 ≤ F_29 ∧ Hd 25 [] [] F_29 [Y b26 F_29, R] a w) ?_ ?_ ?_
 ·exact fun a w h => ⟨F0, Fz.r, h.1.sub (.cons (k := 0) rfl (.cons (k := 1) rfl (.cons (k := 2) rfl (.cons (k := 4) rfl (.nil _))))), h.2⟩
 ·intro s10 ctl
  refine GC.ex (fun a w ⟨F_11, l_12, hA⟩ => ⟨_, hA, ?_⟩)
  unfold b_file_groups_Booked_1_1
  refine .seq (.seq (.region (.move rfl rfl (.loadF rfl Tryz.isAgg22 rfl (l_12.mem _ _ hb3) rfl (.lenS rfl rfl Tryz.underlying22 rfl (.lss rfl rfl rfl (.nil (.code (.cond rfl (fun hb13 => ?_) (fun hb13 => ?_))))))))))
  ·skip
   refine .skip (.code (.seq (.block (.seq (.region (.move rfl rfl (.move rfl rfl (.loadF rfl Tryz.isAgg22 rfl (l_12.mem _ _ hb3) rfl (.move rfl rfl (.loadF rfl Tryz.isAgg22 rfl (l_12.mem _ _ hb3) rfl (.lenS rfl rfl Tryz.underlying22 rfl ?_)))))))))))
   refine .move rfl rfl (.loadF rfl Tryz.isAgg3 rfl (l_12.mem _ _ hb9) rfl (.add rfl rfl rfl (.min2 rfl rfl rfl (.sliceLoHi rfl Tryz.underlying22 Tryz.sizeOf41 (h6.mono l_12) rfl rfl rfl (fun l_14 p15 k16 e17 h18 => ?_)))))
   refine .callY rfl hy rfl rfl ⟨p15, k16, rfl, h18⟩ (i := 0) rfl l_12 Fz.r (fun p19 F_20 e22 l_21 => ?_)
   refine .not rfl rfl (.nil (.code (.cond rfl (fun hb23 => ?_) (fun hb23 => ?_))))
   ·skip
    refine .retQ (LPost.ret fun a w h => ⟨rfl, F_20, (Fz.t l_12 l_21), h.1.sub (.nil _), h.2⟩)
   ·skip
    refine .skip (.block (.code (.region (.move rfl rfl (.loadF rfl Tryz.isAgg3 rfl ((Fz.t l_12 l_21).mem _ _ hb9) rfl (.add rfl rfl rfl (.assignL rfl rfl (fun at_24 e25 => ?_))))))))
    refine .nil ?_
    exact .nil (LPost.norm fun a w h => ⟨F_20, (Fz.t l_12 l_21), h.1.sub (.cons (k := 0) rfl (.cons (k := 1) rfl (.cons (k := 2) rfl (.cons (k := 4) rfl (.nil _))))), h.2⟩)
  ·skip
   refine .exitOut rfl (LPost.exit fun a w h => ⟨rfl, F_11, l_12, h.1.sub (.nil _), h.2⟩)
 ·intro b26 hb0 hk e a w hD
  rcases b26 with b26 | b26
  ·skip
   obtain ⟨rfl, F_27, l_28, hA⟩ := hD
   refine interp_exit rfl (GE.app ?_ hk a w hA)
   exact .end1 Tryz.results76 .nil (i := 0) rfl (j := 0) rfl l_28 trivial
  obtain ⟨rfl, F_29, l_30, hA⟩ := hD
  exact interp_ret ((ret_post Tryz.results76 .nil (i := 0) rfl (j := 0) rfl l_30 trivial) hk a w hA)
noncomputable def L_file_groups_Booked_1 (c1 : (List ApiBooked)) (c7 : Int) : Option (List (Int × (List ApiBooked))) := groupsO c1 c7
theorem it_file_groups_Booked_1 {σ : Type} {y : (Int × (List ApiBooked)) → σ → Option (σ × Bool)} {c1 : (List ApiBooked)} {c7 : Int} {l : List (Int × (List ApiBooked))} {s r : σ} (hl : L_file_groups_Booked_1 c1 c7 = some l) (hr : foldY y l s = some r) : m_file_groups_Booked_1 y c1 c7 s = some r :=
 groups_it (y := y) hl hr
noncomputable def b_file_groups_row_1_1 {σ : Type} (y : (Int × (List (Nat → Int))) → σ → Option (σ × Bool)) (c1 : (List (Nat → Int))) (c7 : Int) (s10 : Int × σ) : Option (Ctl (Int × σ) ((σ) ⊕ (σ))) :=
 if (decide (s10.1 < (c1.length : Int))) then ((sliceL c1 s10.1 (imin (c1.length : Int) (w64 (s10.1 + c7)))).bind fun l_14 => (y (s10.1, l_14) s10.2).bind fun p19 => if (!p19.2) then (some (.done (.inr p19.1))) else (bindv (w64 (s10.1 + c7)) fun at_24 => some (.next (at_24, p19.1)))) else (some (.done (.inl s10.2)))
noncomputable def m_file_groups_row_1 {σ : Type} (y : (Int × (List (Nat → Int))) → σ → Option (σ × Bool)) (c1 : (List (Nat → Int))) (c7 : Int) (s0 : σ) : Option σ :=
 (loopM (b_file_groups_row_1_1 y c1 c7) (0, s0)).bind fun b0 => match b0 with | .inl b26 => (some b26) | .inr b26 => (some b26)
theorem c_file_groups_row_1 (F0 : Fz) (σ : Type) (ly : Nat) (Y : σ → Fz → HP) (y : (Int × (List (Nat → Int))) → σ → Option (σ × Bool)) (hy : YieldOK Tryz.prog ly F0 (fun (x : (Int × (List (Nat → Int)))) F vs => ∃ p0 k0, vs = [(.int .i64 x.1), (.slice p0 x.2.length k0)] ∧ RepSl 96 (Ex (cArr 96 (cInt .u8))) F p0 k0 x.2) Y y) (c1 : (List (Nat → Int))) (b2 : Nat) (p4 : Option Addr) (k5 : Nat) (hb3 : F0.mem b2 = some (.cells [(.slice p4 c1.length k5)].toArray 81)) (h6 : RepSl 96 (Ex (cArr 96 (cInt .u8))) F0 p4 k5 c1) (c7 : Int) (b8 : Nat) (hb9 : F0.mem b8 = some (.cells [(.int .i64 c7)].toArray 3)) (s0 : σ) : CT Tryz.prog 85 [(.func (.yield ly) #[] #[]), (.pointer (some ⟨b2, 0, none⟩)), (.pointer (some ⟨b8, 0, none⟩))].toArray F0 (Y s0 F0) (m_file_groups_row_1 y c1 c7 s0) (fun _ _ _ => True) (fun s' F' _ => Y s' F') := by
 refine CT.enter Tryz.func85 rfl Tryz.ntmps85 rfl fun r R => ?_
 unfold m_file_groups_row_1
 refine .seq (.region (.assign rfl rfl (.nil (.code (.block (.keep (.cons (k := 0) rfl (.cons (k := 1) rfl (.cons (k := 2) rfl (.cons (k := 4) rfl (.nil _))))) ?_))))))
 refine .loop (fun (s10 : Int × σ) a w => ∃ (F_11 : Fz), F0 ≤ F_11 ∧ Hd 25 [] [(0, (.func (.yield ly) #[] #[])), (1, (.pointer (some ⟨b2, 0, none⟩))), (2, (.pointer (some ⟨b8, 0, none⟩))), (4, (.int .i64 s10.1))] F_11 [Y s10.2 F_11, R] a w) (fun b0 e a w => match b0 with | .inl b26 => e = .exit 0 ∧ ∃ (F_27 : Fz), F0 ≤ F_27 ∧ Hd 25 [] [] F_27 [Y b26 F_27, R] a w | .inr b26 => e = .ret ∧ ∃ (F_29 : Fz), F0 ≤ F_29 ∧ Hd 25 [] [] F_29 [Y b26 F_29, R] a w) ?_ ?_ ?_
 ·exact fun a w h => ⟨F0, Fz.r, h.1.sub (.cons (k := 0) rfl (.cons (k := 1) rfl (.cons (k := 2) rfl (.cons (k := 4) rfl (.nil _))))), h.2⟩
 ·intro s10 ctl
  refine GC.ex (fun a w ⟨F_11, l_12, hA⟩ => ⟨_, hA, ?_⟩)
  unfold b_file_groups_row_1_1
  refine .seq (.seq (.region (.move rfl rfl (.loadF rfl Tryz.isAgg81 rfl (l_12.mem _ _ hb3) rfl (.lenS rfl rfl Tryz.underlying81 rfl (.lss rfl rfl rfl (.nil (.code (.cond rfl (fun hb13 => ?_) (fun hb13 => ?_))))))))))
  ·skip
   refine .skip (.code (.seq (.block (.seq (.region (.move rfl rfl (.move rfl rfl (.loadF rfl Tryz.isAgg81 rfl (l_12.mem _ _ hb3) rfl (.move rfl rfl (.loadF rfl Tryz.isAgg81 rfl (l_12.mem _ _ hb3) rfl (.lenS rfl rfl Tryz.underlying81 rfl ?_)))))))))))
   refine .move rfl rfl (.loadF rfl Tryz.isAgg3 rfl (l_12.mem _ _ hb9) rfl (.add rfl rfl rfl (.min2 rfl rfl rfl (.sliceLoHi rfl Tryz.underlying81 Tryz.sizeOf83 (h6.mono l_12) rfl rfl rfl (fun l_14 p15 k16 e17 h18 => ?_)))))
   refine .callY rfl hy rfl rfl ⟨p15, k16, rfl, h18⟩ (i := 0) rfl l_12 Fz.r (fun p19 F_20 e22 l_21 => ?_)
   refine .not rfl rfl (.nil (.code (.cond rfl (fun hb23 => ?_) (fun hb23 => ?_))))
   ·skip
    refine .retQ (LPost.ret fun a w h => ⟨rfl, F_20, (Fz.t l_12 l_21), h.1.sub (.nil _), h.2⟩)
   ·skip
    refine .skip (.block (.code (.region (.move rfl rfl (.loadF rfl Tryz.isAgg3 rfl ((Fz.t l_12 l_21).mem _ _ hb9) rfl (.add rfl rfl rfl (.assignL rfl rfl (fun at_24 e25 => ?_))))))))
    refine .nil ?_
    exact .nil (LPost.norm fun a w h => ⟨F_20, (Fz.t l_12 l_21), h.1.sub (.cons (k := 0) rfl (.cons (k := 1) rfl (.cons (k := 2) rfl (.cons (k := 4) rfl (.nil _))))), h.2⟩)
  ·skip
   refine .exitOut rfl (LPost.exit fun a w h => ⟨rfl, F_11, l_12, h.1.sub (.nil _), h.2⟩)
 ·intro b26 hb0 hk e a w hD
  rcases b26 with b26 | b26
  ·skip
   obtain ⟨rfl, F_27, l_28, hA⟩ := hD
   refine interp_exit rfl (GE.app ?_ hk a w hA)
   exact .end1 Tryz.results85 .nil (i := 0) rfl (j := 0) rfl l_28 trivial
  obtain ⟨rfl, F_29, l_30, hA⟩ := hD
  exact interp_ret ((ret_post Tryz.results85 .nil (i := 0) rfl (j := 0) rfl l_30 trivial) hk a w hA)
noncomputable def L_file_groups_row_1 (c1 : (List (Nat → Int))) (c7 : Int) : Option (List (Int × (List (Nat → Int)))) := groupsO c1 c7
theorem it_file_groups_row_1 {σ : Type} {y : (Int × (List (Nat → Int))) → σ → Option (σ × Bool)} {c1 : (List (Nat → Int))} {c7 : Int} {l : List (Int × (List (Nat → Int)))} {s r : σ} (hl : L_file_groups_row_1 c1 c7 = some l) (hr : foldY y l s = some r) : m_file_groups_row_1 y c1 c7 s = some r :=
 groups_it (y := y) hl hr
end Go.Proofs.YthnlglmjffdpfaaGreatDoor
end

section
namespace Go.Proofs.YthnlglmjffdpfaaGreatDoor
open Go.Dec Go.Shelf Go.RowKit Go.Maps Go.Sort
noncomputable def b_slices_IndexFunc_Booked_1 (s1 : (List ApiBooked)) (f5 : (ApiBooked → Option Bool)) (s9 : Int) : Option (Ctl (Int) ((Unit) ⊕ (Int))) :=
 if (decide (s9 < (s1.length : Int))) then ((idxL s1 s9).bind fun x13 => (f5 x13).bind fun r_28 => if r_28 then (some (.done (.inr s9))) else (some (.next (w64 (s9 + 1))))) else (some (.done (.inl ())))
noncomputable def m_slices_IndexFunc_Booked (s1 : (List ApiBooked)) (f5 : (ApiBooked → Option Bool)) : Option Int :=
 (loopM (b_slices_IndexFunc_Booked_1 s1 f5) 0).bind fun b0 => match b0 with | .inl b30 => (some (-1)) | .inr b30 => (some b30)
set_option maxRecDepth 100000 in
set_option maxHeartbeats 4000000 in
theorem c_slices_IndexFunc_Booked (F0 : Fz) (s1 : (List ApiBooked)) (p2 : Option Addr) (k3 : Nat) (h4 : RepSl 2 rApiBooked F0 p2 k3 s1) (f5 : (ApiBooked → Option Bool)) (p6 : FuncId) (k7 : List Value) (h8 : RepFn Tryz.prog F0 p6 k7 (fun x F vs => ∃ p0 k0, vs = [(eApiBooked x p0 k0)] ∧ RepSl 1 (Ex (cInt .i64)) F p0 k0 x.N) (fun r _ v => v = (.bool r)) f5) : CT0 Tryz.prog 94 [(.slice p2 s1.length k3), (.func (.func p6) #[] k7.toArray)].toArray F0 (m_slices_IndexFunc_Booked s1 f5) (fun r _ v => v = (.int .i64 r)) := by
 refine CT0.enter Tryz.func94 rfl Tryz.ntmps94 rfl fun r R => ?_
 unfold m_slices_IndexFunc_Booked
 refine .seq (.region (.assign rfl rfl (.nil (.code (.seq (.seq (.region (.move rfl rfl (.lenS rfl rfl Tryz.underlying22 rfl (.move rfl rfl (.nil ?_)))))))))))
 refine .code (.block (.keep (.cons (k := 0) rfl (.cons (k := 1) rfl (.cons (k := 7) rfl (.cons (k := 8) rfl (.nil _))))) ?_))
 refine .loop (fun (s9 : Int) a w => ∃ (F_10 : Fz), F0 ≤ F_10 ∧ Hd 19 [] [(0, (.slice p2 s1.length k3)), (1, (.func (.func p6) #[] k7.toArray)), (7, (.int .i64 (s1.length : Int))), (8, (.int .i64 s9))] F_10 [R] a w) (fun b0 e a w => match b0 with | .inl b30 => e = .exit 0 ∧ ∃ (F_31 : Fz), F0 ≤ F_31 ∧ Hd 19 [] [] F_31 [R] a w | .inr b30 => e = .ret ∧ ∃ (F_33 : Fz), F0 ≤ F_33 ∧ Hd 19 [] [(4, (.int .i64 b30))] F_33 [R] a w) ?_ ?_ ?_
 ·exact fun a w h => ⟨F0, Fz.r, h.1.sub (.cons (k := 0) rfl (.cons (k := 1) rfl (.cons (k := 7) rfl (.cons (k := 8) rfl (.nil _))))), h.2⟩
 ·intro s9 ctl
  refine GC.ex (fun a w ⟨F_10, l_11, hA⟩ => ⟨_, hA, ?_⟩)
  unfold b_slices_IndexFunc_Booked_1
  refine .seq (.region (.lss rfl rfl rfl (.nil (.code (.seq (.cond rfl (fun hb12 => ?_) (fun hb12 => ?_)))))))
  ·skip
   refine .skip (.code (.seq (.block (.seq (.region (.move rfl rfl (.assign rfl rfl (.nil (.code (.seq (.region ?_)))))))))))
   refine .move rfl rfl (.move rfl rfl (.move rfl rfl (.idx rfl Tryz.underlying22 Tryz.sizeOf41 (h4.mono l_11) rfl rfl (fun x13 b14 o15 T16 fr17 cs18 e19 hm20 hv21 => ?_))))
   obtain ⟨p23, k24, hv21, h25⟩ := hv21
   refine .loadFA rfl Tryz.isAgg41 Tryz.sizeOf41 rfl hm20 hv21 rfl (.call0 rfl h8.1 rfl rfl rfl (h8.2 _ l_11 x13 [(eApiBooked x13 p23 k24)] ⟨_, _, rfl, h25⟩) ?_)
   rintro r_28 F_26 _ - l_27 rfl
   refine .nil (.code (.cond rfl (fun hb29 => ?_) (fun hb29 => ?_)))
   ·skip
    refine .seq (.region (.move rfl rfl (.assign rfl rfl (.nil (.code (.retQ (LPost.ret fun a w h => ⟨rfl, F_26, (Fz.t l_11 l_27), h.1.sub (.cons (k := 4) rfl (.nil _)), h.2⟩)))))))
   ·skip
    refine .skip (.block (.code (.region (.add rfl rfl rfl (.move rfl rfl (.nil ?_))))))
    exact .nil (LPost.norm fun a w h => ⟨F_26, (Fz.t l_11 l_27), h.1.sub (.cons (k := 0) rfl (.cons (k := 1) rfl (.cons (k := 7) rfl (.cons (k := 8) rfl (.nil _))))), h.2⟩)
  ·skip
   refine .exitOut rfl (LPost.exit fun a w h => ⟨rfl, F_10, l_11, h.1.sub (.nil _), h.2⟩)
 ·intro b30 hb0 hk e a w hD
  rcases b30 with b30 | b30
  ·skip
   obtain ⟨rfl, F_31, l_32, hA⟩ := hD
   refine interp_exit rfl (GE.app ?_ hk a w hA)
   refine .code (.seq (.region (.assign rfl rfl (.nil (.code ?_)))))
   exact .ret0 Tryz.results94 (.tmp rfl (.nil)) (i := 0) rfl l_32 rfl
  obtain ⟨rfl, F_33, l_34, hA⟩ := hD
  exact interp_ret ((ret_post0 Tryz.results94 (.tmp rfl (.nil)) (i := 0) rfl l_34 rfl) hk a w hA)
noncomputable def m_slices_ContainsFunc_Booked (s1 : (List ApiBooked)) (f5 : (ApiBooked → Option Bool)) : Option Bool :=
 (m_slices_IndexFunc_Booked s1 f5).bind fun r_11 => some (decide (r_11 ≥ 0))
set_option maxRecDepth 100000 in
set_option maxHeartbeats 4000000 in
theorem c_slices_ContainsFunc_Booked (F0 : Fz) (s1 : (List ApiBooked)) (p2 : Option Addr) (k3 : Nat) (h4 : RepSl 2 rApiBooked F0 p2 k3 s1) (f5 : (ApiBooked → Option Bool)) (p6 : FuncId) (k7 : List Value) (h8 : RepFn Tryz.prog F0 p6 k7 (fun x F vs => ∃ p0 k0, vs = [(eApiBooked x p0 k0)] ∧ RepSl 1 (Ex (cInt .i64)) F p0 k0 x.N) (fun r _ v => v = (.bool r)) f5) : CT0 Tryz.prog 73 [(.slice p2 s1.length k3), (.func (.func p6) #[] k7.toArray)].toArray F0 (m_slices_ContainsFunc_Booked s1 f5) (fun r _ v => v = (.bool r)) := by
 refine CT0.enter Tryz.func73 rfl Tryz.ntmps73 rfl fun r R => ?_
 unfold m_slices_ContainsFunc_Booked
 refine .seq (.region (.assign rfl rfl (.nil (.code (.seq (.region (.move rfl rfl (.move rfl rfl (.call0 rfl Tryz.call94 rfl rfl rfl (c_slices_IndexFunc_Booked _ s1 p2 k3 h4 f5 p6 k7 h8) ?_)))))))))
 rintro r_11 F_9 _ - l_10 rfl
 refine .geq rfl rfl rfl (.assign rfl rfl (.nil (.code ?_)))
 exact .ret0 Tryz.results73 (.tmp rfl (.nil)) (i := 0) rfl l_10 rfl
noncomputable def m_file_kinds  : Option (List FileKind) :=
 some ([(FileKind.mk 77 ([5, 1099511627776, 1099511627776])), (FileKind.mk 83 ([1073741824, 1073741824, 1073741824])), (FileKind.mk 67 ([8, 65536, 1073741824, 1073741824, 1073741824, 1073741824, 1099511627776, 7])), (FileKind.mk 68 ([6, 65536, 15, 15, 1073741824, 72057594037927936]))])
set_option maxRecDepth 100000 in
set_option maxHeartbeats 4000000 in
theorem c_file_kinds (F0 : Fz)  : CT0 Tryz.prog 78 [].toArray F0 (m_file_kinds) (fun r F v => ∃ (p0 : Option Addr) (k0 : Nat), v = (.slice p0 r.length k0) ∧ RepSl 2 rFileKind F p0 k0 r) := by
 refine CT0.enter Tryz.func78 rfl Tryz.ntmps78 rfl fun r R => ?_
 unfold m_file_kinds
 refine .seq (.region (.assign rfl rfl (.nil (.code (.seq (.region (.sliceLit (cs := [.int .i64 5, .int .i64 1099511627776, .int .i64 1099511627776]) (zc := [.int .i64 0, .int .i64 0, .int .i64 0]) rfl Tryz.underlying31 Tryz.sizeOf3 Tryz.zeroValue3 rfl rfl rfl (by kernel_rfl) (by kernel_rfl) (fun b1 F_2 l_3 hb4 => ?_))))))))
 have h5 : RepSl 1 (Ex (cInt .i64)) F_2 (some ⟨b1, 0, none⟩) 3 ([5, 1099511627776, 1099511627776]) := RepSl.ofRow hb4 (.cons ok_t3.mono rfl (.cons ok_t3.mono rfl (.cons ok_t3.mono rfl .nil))) rfl rfl
 refine .build (cs := (cFileKind (FileKind.mk 77 ([5, 1099511627776, 1099511627776])) (some ⟨b1, 0, none⟩) 3).toArray) rfl Tryz.underlying129 Tryz.zeroValue129 (plFileKind _ Tryz.underlying129) rfl rfl (by kernel_rfl) ?_
 refine .sliceLit (cs := [.int .i64 1073741824, .int .i64 1073741824, .int .i64 1073741824]) (zc := [.int .i64 0, .int .i64 0, .int .i64 0]) rfl Tryz.underlying31 Tryz.sizeOf3 Tryz.zeroValue3 rfl rfl rfl (by kernel_rfl) (by kernel_rfl) (fun b6 F_7 l_8 hb9 => ?_)
 have h10 : RepSl 1 (Ex (cInt .i64)) F_7 (some ⟨b6, 0, none⟩) 3 ([1073741824, 1073741824, 1073741824]) := RepSl.ofRow hb9 (.cons ok_t3.mono rfl (.cons ok_t3.mono rfl (.cons ok_t3.mono rfl .nil))) rfl rfl
 refine .build (cs := (cFileKind (FileKind.mk 83 ([1073741824, 1073741824, 1073741824])) (some ⟨b6, 0, none⟩) 3).toArray) rfl Tryz.underlying129 Tryz.zeroValue129 (plFileKind _ Tryz.underlying129) rfl rfl (by kernel_rfl) ?_
 refine .sliceLit (cs := [.int .i64 8, .int .i64 65536, .int .i64 1073741824, .int .i64 1073741824, .int .i64 1073741824, .int .i64 1073741824, .int .i64 1099511627776, .int .i64 7]) (zc := [.int .i64 0, .int .i64 0, .int .i64 0, .int .i64 0, .int .i64 0, .int .i64 0, .int .i64 0, .int .i64 0]) rfl Tryz.underlying31 Tryz.sizeOf3 Tryz.zeroValue3 rfl rfl rfl (by kernel_rfl) (by kernel_rfl) (fun b11 F_12 l_13 hb14 => ?_)
 have h15 : RepSl 1 (Ex (cInt .i64)) F_12 (some ⟨b11, 0, none⟩) 8 ([8, 65536, 1073741824, 1073741824, 1073741824, 1073741824, 1099511627776, 7]) := RepSl.ofRow hb14 (.cons ok_t3.mono rfl (.cons ok_t3.mono rfl (.cons ok_t3.mono rfl (.cons ok_t3.mono rfl (.cons ok_t3.mono rfl (.cons ok_t3.mono rfl (.cons ok_t3.mono rfl (.cons ok_t3.mono rfl .nil)))))))) rfl rfl
 refine .build (cs := (cFileKind (FileKind.mk 67 ([8, 65536, 1073741824, 1073741824, 1073741824, 1073741824, 1099511627776, 7])) (some ⟨b11, 0, none⟩) 8).toArray) rfl Tryz.underlying129 Tryz.zeroValue129 (plFileKind _ Tryz.underlying129) rfl rfl (by kernel_rfl) ?_
 refine .sliceLit (cs := [.int .i64 6, .int .i64 65536, .int .i64 15, .int .i64 15, .int .i64 1073741824, .int .i64 72057594037927936]) (zc := [.int .i64 0, .int .i64 0, .int .i64 0, .int .i64 0, .int .i64 0, .int .i64 0]) rfl Tryz.underlying31 Tryz.sizeOf3 Tryz.zeroValue3 rfl rfl rfl (by kernel_rfl) (by kernel_rfl) (fun b16 F_17 l_18 hb19 => ?_)
 have h20 : RepSl 1 (Ex (cInt .i64)) F_17 (some ⟨b16, 0, none⟩) 6 ([6, 65536, 15, 15, 1073741824, 72057594037927936]) := RepSl.ofRow hb19 (.cons ok_t3.mono rfl (.cons ok_t3.mono rfl (.cons ok_t3.mono rfl (.cons ok_t3.mono rfl (.cons ok_t3.mono rfl (.cons ok_t3.mono rfl .nil)))))) rfl rfl
 refine .build (cs := (cFileKind (FileKind.mk 68 ([6, 65536, 15, 15, 1073741824, 72057594037927936])) (some ⟨b16, 0, none⟩) 6).toArray) rfl Tryz.underlying129 Tryz.zeroValue129 (plFileKind _ Tryz.underlying129) rfl rfl (by kernel_rfl) ?_
 refine .sliceLit (cs := [.int .u8 (FileKind.mk 77 ([5, 1099511627776, 1099511627776])).letter, .slice (some ⟨b1, 0, none⟩) (FileKind.mk 77 ([5, 1099511627776, 1099511627776])).most.length 3, .int .u8 (FileKind.mk 83 ([1073741824, 1073741824, 1073741824])).letter, .slice (some ⟨b6, 0, none⟩) (FileKind.mk 83 ([1073741824, 1073741824, 1073741824])).most.length 3, .int .u8 (FileKind.mk 67 ([8, 65536, 1073741824, 1073741824, 1073741824, 1073741824, 1099511627776, 7])).letter, .slice (some ⟨b11, 0, none⟩) (FileKind.mk 67 ([8, 65536, 1073741824, 1073741824, 1073741824, 1073741824, 1099511627776, 7])).most.length 8, .int .u8 (FileKind.mk 68 ([6, 65536, 15, 15, 1073741824, 72057594037927936])).letter, .slice (some ⟨b16, 0, none⟩) (FileKind.mk 68 ([6, 65536, 15, 15, 1073741824, 72057594037927936])).most.length 6]) (zc := [.int .u8 (FileKind.mk 0 ([])).letter, .slice none (FileKind.mk 0 ([])).most.length 0, .int .u8 (FileKind.mk 0 ([])).letter, .slice none (FileKind.mk 0 ([])).most.length 0, .int .u8 (FileKind.mk 0 ([])).letter, .slice none (FileKind.mk 0 ([])).most.length 0, .int .u8 (FileKind.mk 0 ([])).letter, .slice none (FileKind.mk 0 ([])).most.length 0]) rfl Tryz.underlying130 Tryz.sizeOf129 Tryz.zeroValue129 rfl rfl rfl (by kernel_rfl) (by kernel_rfl) (fun b21 F_22 l_23 hb24 => ?_)
 have h25 : RepSl 2 rFileKind F_22 (some ⟨b21, 0, none⟩) 4 ([(FileKind.mk 77 ([5, 1099511627776, 1099511627776])), (FileKind.mk 83 ([1073741824, 1073741824, 1073741824])), (FileKind.mk 67 ([8, 65536, 1073741824, 1073741824, 1073741824, 1073741824, 1099511627776, 7])), (FileKind.mk 68 ([6, 65536, 15, 15, 1073741824, 72057594037927936]))]) := RepSl.ofRow hb24 (.cons ok_t129.mono ⟨_, _, rfl, (h5.mono (Fz.t l_8 (Fz.t l_13 (Fz.t l_18 l_23))))⟩ (.cons ok_t129.mono ⟨_, _, rfl, (h10.mono (Fz.t l_13 (Fz.t l_18 l_23)))⟩ (.cons ok_t129.mono ⟨_, _, rfl, (h15.mono (Fz.t l_18 l_23))⟩ (.cons ok_t129.mono ⟨_, _, rfl, (h20.mono l_23)⟩ .nil)))) rfl rfl
 refine .assign rfl rfl (.nil (.code ?_))
 exact .ret0 Tryz.results78 (.tmp rfl (.nil)) (i := 0) rfl (Fz.t l_3 (Fz.t l_8 (Fz.t l_13 (Fz.t l_18 l_23)))) ⟨(some ⟨b21, 0, none⟩), 4, rfl, h25⟩
def m_file_within (n_1 : Int) (low2 : Int) (high3 : Int) : Bool :=
 ((decide (low2 ≤ n_1)) && (decide (n_1 ≤ high3)))
set_option maxRecDepth 100000 in
set_option maxHeartbeats 4000000 in
theorem c_file_within (F0 : Fz) (n_1 : Int) (low2 : Int) (high3 : Int) : CT0 Tryz.prog 95 [(.int .i64 n_1), (.int .i64 low2), (.int .i64 high3)].toArray F0 (some (m_file_within n_1 low2 high3)) (fun r _ v => v = (.bool r)) := by
 refine CT0.enter Tryz.func95 rfl Tryz.ntmps95 rfl fun r R => ?_
 refine .seq (.region (.assign rfl rfl (.nil (.code (.seq (.region (.move rfl rfl (.move rfl rfl (.leq rfl rfl rfl (.move rfl rfl (.andP (b := (decide (low2 ≤ n_1))) (b' := (decide (n_1 ≤ high3))) 4 14 (fun hb4 => ?_) (fun hb5 => ?_) (fun F_6 l_7 => ?_))))))))))))
 ·skip
  refine .onH hb4 rfl rfl (.move rfl rfl (.onH hb4 rfl rfl (.move rfl rfl (.onH hb4 rfl rfl (.leq rfl rfl rfl (.pickTH hb4 rfl rfl rfl ?_))))))
  exact .fin 4 rfl rfl (by kernel_rfl) Fz.r
 ·skip
  refine .offH hb5 rfl rfl rfl (.offH hb5 rfl rfl rfl (.offH hb5 rfl rfl rfl (.pickFH hb5 rfl rfl rfl ?_)))
  exact .fin 4 rfl rfl (by kernel_rfl) Fz.r
 refine .assign rfl rfl (.nil (.code ?_))
 exact .ret0 Tryz.results95 (.tmp rfl (.nil)) (i := 0) rfl l_7 rfl
noncomputable def b_file_isBooked_1 (x1 : ApiBooked) (x34 : FileKind) (s47 : Int) : Option (Ctl (Int) ((Unit) ⊕ (Bool))) :=
 if (decide (s47 < (x1.N.length : Int))) then ((idxL x1.N s47).bind fun x51 => (if (decide (s47 ≥ (x34.most.length : Int))) then some true else ((idxL x34.most s47).bind fun x62 => some (!(m_file_within x51 0 x62)))).bind fun z77 => if z77 then (some (.done (.inr false))) else (some (.next (w64 (s47 + 1))))) else (some (.done (.inl ())))
noncomputable def m_file_isBooked (x1 : ApiBooked) : Option Bool :=
 if (!(m_file_within x1.Kind 0 3)) then (some false) else ((m_file_kinds).bind fun r_15 => (idxL r_15 x1.Kind).bind fun x34 => (loopM (b_file_isBooked_1 x1 x34) 0).bind fun b0 => match b0 with | .inl b80 => (some ((x1.N.length : Int) == (x34.most.length : Int))) | .inr b80 => (some b80))
set_option maxRecDepth 100000 in
set_option maxHeartbeats 4000000 in
theorem c_file_isBooked (F0 : Fz) (x1 : ApiBooked) (p2 : Option Addr) (k3 : Nat) (h4 : RepSl 1 (Ex (cInt .i64)) F0 p2 k3 x1.N) : CT0 Tryz.prog 75 [(eApiBooked x1 p2 k3)].toArray F0 (m_file_isBooked x1) (fun r _ v => v = (.bool r)) := by
 refine CT0.enter Tryz.func75 rfl Tryz.ntmps75 rfl fun r R => ?_
 unfold m_file_isBooked
 refine .seq (.region (.boxF (cs := (cApiBooked x1 p2 k3)) rfl rfl rfl (fun b5 F_6 l_7 hb8 => ?_)))
 refine .assign rfl rfl (.nil (.code (.seq (.seq (.region (.fieldAddr rfl Tryz.underlying41 rfl Tryz.sizeOf3 rfl (.loadF rfl Tryz.isAgg3 rfl hb8 rfl (.callP rfl Tryz.call95 rfl rfl rfl (c_file_within _ x1.Kind 0 3) ?_))))))))
 rintro F_9 _ l_10 rfl
 refine .not rfl rfl (.nil (.code (.cond rfl (fun hb11 => ?_) (fun hb11 => ?_))))
 ·skip
  refine .seq (.region (.assign rfl rfl (.nil (.code ?_))))
  exact .ret0 Tryz.results75 (.tmp rfl (.nil)) (i := 0) rfl (Fz.t l_7 l_10) rfl
 ·skip
  refine .skip (.code (.seq (.keep (.cons (k := 1) rfl (.nil _)) (.bind (fun r_15 hx20 => ?_)))))
  refine .drawGD 3 0 (fun env12 => [((.slice (env12.a 0) r_15.length (env12.n 0)), fun G => RepSl 2 rFileKind G (env12.a 0) (env12.n 0) r_15), ((.pointer (some ⟨b5, 0 + 0, none⟩)), fun _ => True), ((.int .i64 x1.Kind), fun _ => True)]) (fun L env12 => [R]) mixedOK (by kernel_rfl) (deepN (k := 3) (n := 7) rfl (allLt7 (p := fun t => 3 ≤ t → ∀ j, j < t → ∃ s, depB _ s t j = true) (fun h => absurd h (by decide)) (fun h => absurd h (by decide)) (fun h => absurd h (by decide)) (fun _ => allLt3 (p := fun j => ∃ s, depB _ s 3 j = true) ⟨1, rfl⟩ ⟨2, rfl⟩ ⟨1, rfl⟩) (fun _ => allLt4 (p := fun j => ∃ s, depB _ s 4 j = true) ⟨2, rfl⟩ ⟨3, rfl⟩ ⟨2, rfl⟩ ⟨1, rfl⟩) (fun _ => allLt5 (p := fun j => ∃ s, depB _ s 5 j = true) ⟨3, rfl⟩ ⟨4, rfl⟩ ⟨3, rfl⟩ ⟨2, rfl⟩ ⟨1, rfl⟩) (fun _ => allLt6 (p := fun j => ∃ s, depB _ s 6 j = true) ⟨1, rfl⟩ ⟨1, rfl⟩ ⟨1, rfl⟩ ⟨1, rfl⟩ ⟨1, rfl⟩ ⟨1, rfl⟩))) rfl (fun _ => rfl) (by kernel_rfl) (fun _ => rfl) ?_ (fun env12 F_21 l_22 hphi => ?_)
  ·skip
   refine .cons (fun L env12 F_23 l_24 hL hdn hup hphi => ⟨[], fun S hS hV => (Sub.nil _), ?_⟩) ?_
   ·skip
    refine .callK hx20 rfl Tryz.call78 rfl rfl rfl (c_file_kinds _ ) ?_
    rintro F_25 _ l_26 ⟨p27, k28, rfl, h29⟩
    exact .finQ ({ env12 with a := (updN env12.a 0 p27), n := (updN env12.n 0 k28), c := env12.c, o := env12.o }) [false, true, true] rfl (by kernel_rfl) rfl rfl l_26 (fun _ le => h29.mono le) (cons_eq rfl rfl)
   refine .cons (fun L env12 F_30 l_31 hL hdn hup hphi => ⟨[(1, (.pointer (some ⟨b5, 0, none⟩)))], fun S hS hV => (.cons (hS _ _ rfl) (Sub.nil _)), ?_⟩) ?_
   ·skip
    refine .fieldAddr rfl Tryz.underlying41 rfl Tryz.sizeOf3 rfl ?_
    exact .finV rfl rfl Fz.r
   refine .cons (fun L env12 F_32 l_33 hL hdn hup hphi => ⟨[(11, (.pointer (some ⟨b5, 0 + 0, none⟩)))], fun S hS hV => (.cons (hV 1 11 _ (hdn 1 1 rfl) rfl rfl) (Sub.nil _)), ?_⟩) ?_
   ·skip
    refine .loadF rfl Tryz.isAgg3 rfl ((Fz.t l_10 l_33).mem _ _ hb8) rfl ?_
    exact .finV rfl rfl Fz.r
   exact .nil
  have h19 := hphi 0 _ rfl
  refine .norm (S' := [(1, (.pointer (some ⟨b5, 0, none⟩))), (10, (.slice (env12.a 0) r_15.length (env12.n 0))), (11, (.pointer (some ⟨b5, 0 + 0, none⟩))), (12, (.int .i64 x1.Kind))]) (.cons (k := 1) rfl (.cons (k := 10) rfl (.cons (k := 11) rfl (.cons (k := 12) rfl (.nil _))))) (rfl : _ = [R]) (.idx rfl Tryz.underlying130 Tryz.sizeOf129 h19 rfl rfl (fun x34 b35 o36 T37 fr38 cs39 e40 hm41 hv42 => ?_))
  obtain ⟨p44, k45, hv42, h46⟩ := hv42
  refine .fieldAddr rfl Tryz.underlying129 rfl Tryz.sizeOf31 rfl (.loadF rfl Tryz.isAgg31 rfl hm41 (cell_of_take (k := 1) hv42 rfl) (.assign rfl rfl (.nil (.code (.seq (.seq (.region (.fieldAddr rfl Tryz.underlying41 rfl Tryz.sizeOf31 rfl (.loadF rfl Tryz.isAgg31 rfl ((Fz.t l_10 l_22).mem _ _ hb8) rfl (.lenS rfl rfl Tryz.underlying31 rfl (.move rfl rfl ?_)))))))))))
  refine .nil (.code (.block (.keep (.cons (k := 1) rfl (.cons (k := 3) rfl (.cons (k := 17) rfl (.cons (k := 18) rfl (.cons (k := 19) rfl (.nil _)))))) ?_)))
  refine .loop (fun (s47 : Int) a w => ∃ (F_48 : Fz), F_21 ≤ F_48 ∧ Hd 44 [] [(1, (.pointer (some ⟨b5, 0, none⟩))), (3, (.slice p44 x34.most.length k45)), (17, (.slice p2 x1.N.length k3)), (18, (.int .i64 (x1.N.length : Int))), (19, (.int .i64 s47))] F_48 [R] a w) (fun b0 e a w => match b0 with | .inl b80 => e = .exit 0 ∧ ∃ (F_81 : Fz), F_21 ≤ F_81 ∧ Hd 44 [] [(1, (.pointer (some ⟨b5, 0, none⟩))), (3, (.slice p44 x34.most.length k45))] F_81 [R] a w | .inr b80 => e = .ret ∧ ∃ (F_83 : Fz), F_21 ≤ F_83 ∧ Hd 44 [] [(2, (.bool b80))] F_83 [R] a w) ?_ ?_ ?_
  ·exact fun a w h => ⟨F_21, Fz.r, h.1.sub (.cons (k := 1) rfl (.cons (k := 3) rfl (.cons (k := 17) rfl (.cons (k := 18) rfl (.cons (k := 19) rfl (.nil _)))))), h.2⟩
  ·intro s47 ctl
   refine GC.ex (fun a w ⟨F_48, l_49, hA⟩ => ⟨_, hA, ?_⟩)
   unfold b_file_isBooked_1
   refine .seq (.region (.lss rfl rfl rfl (.nil (.code (.seq (.cond rfl (fun hb50 => ?_) (fun hb50 => ?_)))))))
   ·skip
    refine .skip (.code (.seq (.block (.seq (.region (.move rfl rfl (.idx rfl Tryz.underlying31 Tryz.sizeOf3 (h4.mono (Fz.t l_7 (Fz.t l_10 (Fz.t l_22 l_49)))) rfl rfl (fun x51 b52 o53 T54 fr55 cs56 e57 hm58 hv59 => ?_))))))))
    refine .loadF rfl Tryz.isAgg3 rfl hm58 (cell_of_take (k := 0) hv59 rfl) (.assign rfl rfl (.assign rfl rfl (.nil (.code (.seq (.region (.move rfl rfl (.move rfl rfl (.lenS rfl rfl Tryz.underlying31 rfl (.geq rfl rfl rfl (.move rfl rfl ?_)))))))))))
    refine .orM (b := (decide (s47 ≥ (x34.most.length : Int)))) 8 36 (fun hb61 z78 => ?_) (fun hb74 => ?_) (fun z77 F_75 l_76 => ?_)
    ·skip
     refine .onH hb61 rfl rfl (.move rfl rfl (.onH hb61 rfl rfl (.move rfl rfl (.onH hb61 rfl rfl (.move rfl rfl (.onH hb61 rfl rfl (.idx rfl Tryz.underlying31 Tryz.sizeOf3 (h46.mono l_49) rfl rfl (fun x62 b63 o64 T65 fr66 cs67 e68 hm69 hv70 => ?_))))))))
     refine .onH hb61 rfl rfl (.loadF rfl Tryz.isAgg3 rfl hm69 (cell_of_take (k := 0) hv70 rfl) (.onH hb61 rfl rfl (.callP rfl Tryz.call95 rfl rfl rfl (c_file_within _ x51 0 x62) ?_)))
     rintro F_72 _ l_73 rfl
     refine .onH hb61 rfl rfl (.not rfl rfl (.pickFH hb61 rfl rfl rfl ?_))
     exact .finZ 8 rfl rfl (by kernel_rfl) l_73
    ·skip
     refine .offH hb74 rfl rfl rfl (.offH hb74 rfl rfl rfl (.offH hb74 rfl rfl rfl (.offH hb74 rfl rfl rfl (.offH hb74 rfl rfl rfl (.offH hb74 rfl rfl rfl (.offH hb74 rfl rfl rfl (.pickTH hb74 rfl rfl rfl ?_)))))))
     exact .fin 8 rfl rfl (by kernel_rfl) Fz.r
    refine .nil (.code (.cond rfl (fun hb79 => ?_) (fun hb79 => ?_)))
    ·skip
     refine .seq (.region (.assign rfl rfl (.nil (.code (.retQ (LPost.ret fun a w h => ⟨rfl, F_75, (Fz.t l_49 l_76), h.1.sub (.cons (k := 2) rfl (.nil _)), h.2⟩))))))
    ·skip
     refine .skip (.block (.code (.region (.add rfl rfl rfl (.move rfl rfl (.nil ?_))))))
     exact .nil (LPost.norm fun a w h => ⟨F_75, (Fz.t l_49 l_76), h.1.sub (.cons (k := 1) rfl (.cons (k := 3) rfl (.cons (k := 17) rfl (.cons (k := 18) rfl (.cons (k := 19) rfl (.nil _)))))), h.2⟩)
   ·skip
    refine .exitOut rfl (LPost.exit fun a w h => ⟨rfl, F_48, l_49, h.1.sub (.cons (k := 1) rfl (.cons (k := 3) rfl (.nil _))), h.2⟩)
  ·intro b80 hb0 hk e a w hD
   rcases b80 with b80 | b80
   ·skip
    obtain ⟨rfl, F_81, l_82, hA⟩ := hD
    refine interp_exit rfl (GE.app ?_ hk a w hA)
    refine .code (.seq (.region (.fieldAddr rfl Tryz.underlying41 rfl Tryz.sizeOf31 rfl (.loadF rfl Tryz.isAgg31 rfl ((Fz.t l_10 (Fz.t l_22 l_82)).mem _ _ hb8) rfl (.lenS rfl rfl Tryz.underlying31 rfl (.move rfl rfl (.lenS rfl rfl Tryz.underlying31 rfl (.eql rfl rfl rfl (.assign rfl rfl (.nil (.code ?_)))))))))))
    exact .ret0 Tryz.results75 (.tmp rfl (.nil)) (i := 0) rfl (Fz.t l_7 (Fz.t l_10 (Fz.t l_22 l_82))) rfl
   obtain ⟨rfl, F_83, l_84, hA⟩ := hD
   exact interp_ret ((ret_post0 Tryz.results75 (.tmp rfl (.nil)) (i := 0) rfl (Fz.t l_7 (Fz.t l_10 (Fz.t l_22 l_84))) rfl) hk a w hA)
noncomputable def m_file_isBook_1 (x1 : ApiBooked) : Option Bool :=
 (m_file_isBooked x1).bind fun r_11 => some (!r_11)
set_option maxRecDepth 100000 in
set_option maxHeartbeats 4000000 in
theorem c_file_isBook_1 (F0 : Fz) (x1 : ApiBooked) (p2 : Option Addr) (k3 : Nat) (h4 : RepSl 1 (Ex (cInt .i64)) F0 p2 k3 x1.N) : CT0 Tryz.prog 74 [(eApiBooked x1 p2 k3)].toArray F0 (m_file_isBook_1 x1) (fun r _ v => v = (.bool r)) := by
 refine CT0.enter Tryz.func74 rfl Tryz.ntmps74 rfl fun r R => ?_
 unfold m_file_isBook_1
 refine .seq (.region (.boxF (cs := (cApiBooked x1 p2 k3)) rfl rfl rfl (fun b5 F_6 l_7 hb8 => ?_)))
 refine .assign rfl rfl (.nil (.code (.seq (.region (.loadFA rfl Tryz.isAgg41 Tryz.sizeOf41 rfl hb8 (vs := (cApiBooked x1 p2 k3)) (by kernel_rfl) rfl (.call0 rfl Tryz.call75 rfl rfl rfl (c_file_isBooked _ x1 p2 k3 (h4.mono l_7)) ?_))))))
 rintro r_11 F_9 _ - l_10 rfl
 refine .not rfl rfl (.assign rfl rfl (.nil (.code ?_)))
 exact .ret0 Tryz.results74 (.tmp rfl (.nil)) (i := 0) rfl (Fz.t l_7 l_10) rfl
noncomputable def m_file_isBook (l_1 : (List ApiBooked)) : Option Bool :=
 (if (decide ((l_1.length : Int) ≤ 1024)) then ((m_slices_ContainsFunc_Booked l_1 (fun x => m_file_isBook_1 x)).bind fun r_9 => some (!r_9)) else some false).bind fun z13 => some z13
set_option maxRecDepth 100000 in
set_option maxHeartbeats 4000000 in
theorem c_file_isBook (F0 : Fz) (l_1 : (List ApiBooked)) (p2 : Option Addr) (k3 : Nat) (h4 : RepSl 2 rApiBooked F0 p2 k3 l_1) : CT0 Tryz.prog 42 [(.slice p2 l_1.length k3)].toArray F0 (m_file_isBook l_1) (fun r _ v => v = (.bool r)) := by
 refine CT0.enter Tryz.func42 rfl Tryz.ntmps42 rfl fun r R => ?_
 unfold m_file_isBook
 refine .seq (.region (.assign rfl rfl (.nil (.code (.seq (.region (.move rfl rfl (.lenS rfl rfl Tryz.underlying22 rfl (.leq rfl rfl rfl (.move rfl rfl (.andM (b := (decide ((l_1.length : Int) ≤ 1024))) 4 10 (fun hb5 z14 => ?_) (fun hb10 => ?_) (fun z13 F_11 l_12 => ?_))))))))))))
 ·skip
  refine .onH hb5 rfl rfl (.move rfl rfl (.onH hb5 rfl rfl ?_))
  have hf6 : RepFn Tryz.prog F0 74 [] (fun x F vs => ∃ p0 k0, vs = [(eApiBooked x p0 k0)] ∧ RepSl 1 (Ex (cInt .i64)) F p0 k0 x.N) (fun r _ v => v = (.bool r)) (fun x => m_file_isBook_1 x) := ⟨Tryz.call74, fun F' le' x vs hv => by obtain ⟨_, _, rfl, hq0⟩ := hv; exact c_file_isBook_1 F' x _ _ hq0⟩
  refine .call0 rfl Tryz.call73 rfl rfl rfl (c_slices_ContainsFunc_Booked _ l_1 p2 k3 h4 (fun x => m_file_isBook_1 x) 74 ([]) hf6) ?_
  rintro r_9 F_7 _ - l_8 rfl
  refine .onH hb5 rfl rfl (.not rfl rfl (.pickTH hb5 rfl rfl rfl ?_))
  exact .finZ 4 rfl rfl (by kernel_rfl) l_8
 ·skip
  refine .offH hb10 rfl rfl rfl (.offH hb10 rfl rfl rfl (.offH hb10 rfl rfl rfl (.pickFH hb10 rfl rfl rfl ?_)))
  exact .fin 4 rfl rfl (by kernel_rfl) Fz.r
 refine .assign rfl rfl (.nil (.code ?_))
 exact .ret0 Tryz.results42 (.tmp rfl (.nil)) (i := 0) rfl l_12 rfl
noncomputable def m_file_groups_Booked (l_1 : (List ApiBooked)) (size5 : Int) : Option (List (Int × (List ApiBooked))) :=
 (L_file_groups_Booked_1 l_1 size5).bind fun l_14 => some l_14
set_option maxRecDepth 100000 in
set_option maxHeartbeats 4000000 in
theorem c_file_groups_Booked (F0 : Fz) (l_1 : (List ApiBooked)) (p2 : Option Addr) (k3 : Nat) (h4 : RepSl 2 rApiBooked F0 p2 k3 l_1) (size5 : Int) : CT0 Tryz.prog 43 [(.slice p2 l_1.length k3), (.int .i64 size5)].toArray F0 (m_file_groups_Booked l_1 size5) (fun r F v => ∃ (p0 : FuncId) (k0 : List Value), v = (.func (.func p0) #[] k0.toArray) ∧ RepIter Tryz.prog F p0 k0 (fun (x : (Int × (List ApiBooked))) F vs => ∃ p0 k0, vs = [(.int .i64 x.1), (.slice p0 x.2.length k0)] ∧ RepSl 2 rApiBooked F p0 k0 x.2) r) := by
 refine CT0.enter Tryz.func43 rfl Tryz.ntmps43 rfl fun r R => ?_
 unfold m_file_groups_Booked
 refine .seq (.region (.boxF (cs := [(.slice p2 l_1.length k3)]) rfl rfl rfl (fun b6 F_7 l_8 hb9 => ?_)))
 refine .boxF (cs := [(.int .i64 size5)]) rfl rfl rfl (fun b10 F_11 l_12 hb13 => ?_)
 refine .assign rfl rfl (.nil (.code (.seq (.region (.makeFunc rfl rfl (.bind (fun l_14 e15 => ?_)))))))
 have h16 : RepIter Tryz.prog F_11 76 [(.pointer (some ⟨b6, 0, none⟩)), (.pointer (some ⟨b10, 0, none⟩))] (fun (x : (Int × (List ApiBooked))) F vs => ∃ p0 k0, vs = [(.int .i64 x.1), (.slice p0 x.2.length k0)] ∧ RepSl 2 rApiBooked F p0 k0 x.2) l_14 := ⟨Tryz.call76, fun σ ly Y y F' le' hy s r hr => c_file_groups_Booked_1 F' σ ly Y y hy l_1 b6 p2 k3 (le'.mem _ _ (l_12.mem _ _ hb9)) ((h4.mono (Fz.t l_8 l_12)).mono le') size5 b10 (le'.mem _ _ hb13) s r (it_file_groups_Booked_1 e15 hr)⟩
 refine .assign rfl rfl (.nil (.code ?_))
 exact .ret0 Tryz.results43 (.tmp rfl (.nil)) (i := 0) rfl (Fz.t l_8 l_12) ⟨76, [(.pointer (some ⟨b6, 0, none⟩)), (.pointer (some ⟨b10, 0, none⟩))], rfl, h16⟩
noncomputable def b_file_text_1 (ns : List Int) (s : Int × List Int) : Option (Ctl (Int × List Int) (List Int)) :=
 if decide (s.1 < (ns.length : Int)) then (idxL ns s.1).bind fun n => (okB (decide (s.2.length + 1 ≤ 4294967295) && (decide (-9223372036854775808 ≤ n) && decide (n ≤ 9223372036854775807)))).bind fun _ => some (.next (w64 (s.1 + 1), s.2 ++ [32] ++ itoaI n)) else some (.done s.2)
noncomputable def b_file_text_0 (l : List AnyV) (s : Int × List Int) : Option (Ctl (Int × List Int) (List Int)) :=
 if decide (s.1 < (l.length : Int)) then (idxL l s.1).bind fun x => match x with
  | .b n => (okB (decide (s.2.length + 1 ≤ 4294967295))).bind fun _ => some (.next (w64 (s.1 + 1), s.2 ++ [n]))
  | .l ns => (loopM (b_file_text_1 ns) (0, s.2)).bind fun o => some (.next (w64 (s.1 + 1), o))
 else some (.done s.2)
noncomputable def m_file_text (l : List AnyV) : Option (List Int) := (loopM (b_file_text_0 l) (0, [])).bind fun o => some o
set_option maxRecDepth 100000 in
theorem c_file_text (F0 : Fz) (hT : TabsP F0) (a1 : List AnyV) (p2 : Option Addr) (k3 : Nat) (h4 : RepSl 1 (rAny 5 31) F0 p2 k3 a1) : CT0 Tryz.prog 77 [(.slice p2 a1.length k3)].toArray F0 (m_file_text a1) (fun r F v => ∃ p0 k0, v = (.slice p0 r.length k0) ∧ RepSl 1 (Ex (cInt .u8)) F p0 k0 r) := by
 refine CT0.enterB Tryz.func77 rfl Tryz.ntmps77 rfl fun B r R hF => ?_
 unfold m_file_text
 refine .seq (.region (.assign rfl rfl (.nil ?_)))
 refine .code (.seq (.region (.assign rfl rfl (.nil ?_))))
 refine .code (.seq (.seq (.region (.move rfl rfl ?_))))
 refine .lenS rfl rfl Tryz.underlying149 rfl ?_
 refine .move rfl rfl (.nil (.code (.block ?_)))
 refine GC.bufNil 5 ?_
 refine .loop (fun (s : Int × List Int) a w => ∃ v, Hd 41 [] [(3, v), (10, (.slice p2 a1.length k3)), (11, .int .i64 a1.length), (12, (.int .i64 s.1))] F0 [bufV B 5 v s.2, BelM B F0 R] a w) (fun (o : List Int) e a w => e = .exit 0 ∧ ∃ v, Hd 41 [] [(3, v)] F0 [bufV B 5 v o, BelM B F0 R] a w) ?_ ?_ ?_
 ·exact fun a w h => ⟨_, h.1.sub (.cons (k := 3) rfl (.cons (k := 10) rfl (.cons (k := 11) rfl (.cons (k := 12) rfl (.nil _))))), h.2⟩
 ·rintro ⟨i, o⟩ ctl
  refine GC.ex (fun a w ⟨v, hA⟩ => ⟨_, hA, ?_⟩)
  unfold b_file_text_0
  refine .seq (.region (.lss rfl rfl rfl (.nil (.code (.seq (.cond rfl (fun hb => ?_) (fun hb => ?_)))))))
  ·skip
   refine .skip (.code (.seq (.block (.seq (.region (.idx rfl Tryz.underlying149 Tryz.sizeOf20 h4 rfl rfl (fun x b oo T fr cs e hm hv => ?_)))))))
   cases x with
   | b n =>
    have hv : (cs.drop oo).take 1 = [.iface 5 (.int .u8 n)] := hv
    refine .loadF rfl Tryz.isAgg20 rfl hm (cell_of_take (k := 0) hv rfl) (.assign rfl rfl (.nil (.code (.seq (.region (.move rfl rfl (.nil (.code (.block (.seq (.region ?_)))))))))))
    refine .assertT rfl Tryz.underlying5 (by intro z h; cases h) rfl (.extract rfl rfl rfl (.extract rfl rfl rfl (.nil (.code (.condT rfl (.seq (.region (.assign rfl rfl (.nil (.code (.region (.move rfl rfl (.move rfl rfl ?_)))))))))))))
    refine .bind fun _ hk => ?_
    have hk := okB_some hk
    simp only [decide_eq_true_eq] at hk
    refine .sliceNew (cs := [.int .u8 n]) (zc := [.int .u8 0]) rfl Tryz.underlying25 Tryz.sizeOf5 Tryz.zeroValue5 rfl rfl rfl (by kernel_rfl) (by kernel_rfl) fun b2 => ?_
    refine .appB hF rfl Tryz.underlying25 infoByte (show o.length + 1 ≤ 4294967296 by omega) rfl rfl fun v' => ?_
    refine .assign rfl rfl (.nil (.block (.block (.code (.region (.add rfl rfl rfl (.move rfl rfl (.nil ?_))))))))
    exact .nil (LPost.norm fun a w h => ⟨v', h.1.sub (.cons (k := 3) rfl (.cons (k := 10) rfl (.cons (k := 11) rfl (.cons (k := 12) rfl (.nil _))))), h.2⟩)
   | l ns =>
    obtain ⟨q, c, hv, hr⟩ := hv
    refine .loadF rfl Tryz.isAgg20 rfl hm (cell_of_take (k := 0) hv rfl) (.assign rfl rfl (.nil (.code (.seq (.region (.move rfl rfl (.nil (.code (.block (.seq (.region ?_)))))))))))
    refine .assertF rfl Tryz.underlying5 (by intro z h; cases h) rfl Tryz.zeroValue5 rfl (.extract rfl rfl rfl (.extract rfl rfl rfl (.nil (.code (.condF rfl (.seq (.region ?_)))))))
    refine .assertT rfl Tryz.underlying31 (by intro z h; cases h) rfl (.extract rfl rfl rfl (.extract rfl rfl rfl (.nil (.code (.condT rfl (.seq (.region (.assign rfl rfl (.nil (.code (.seq (.region (.move rfl rfl (.lenS rfl rfl Tryz.underlying31 rfl (.move rfl rfl (.nil (.code (.block ?_))))))))))))))))))
    refine .loop (fun (s : Int × List Int) a w => ∃ v, Hd 41 [] [(3, v), (10, (.slice p2 a1.length k3)), (11, .int .i64 a1.length), (12, (.int .i64 i)), (27, (.slice q ns.length c)), (28, .int .i64 ns.length), (29, .int .i64 s.1)] F0 [bufV B 5 v s.2, BelM B F0 R] a w) (fun (o : List Int) e a w => e = .exit 3 ∧ ∃ v, Hd 41 [] [(3, v), (10, (.slice p2 a1.length k3)), (11, .int .i64 a1.length), (12, (.int .i64 i))] F0 [bufV B 5 v o, BelM B F0 R] a w) ?_ ?_ ?_
    ·exact fun a w h => ⟨_, h.1.sub (.cons (k := 3) rfl (.cons (k := 10) rfl (.cons (k := 11) rfl (.cons (k := 12) rfl (.cons (k := 27) rfl (.cons (k := 28) rfl (.cons (k := 29) rfl (.nil _)))))))), h.2⟩
    ·rintro ⟨j, o2⟩ ctl2
     refine GC.ex (fun a w ⟨v2, hA⟩ => ⟨_, hA, ?_⟩)
     unfold b_file_text_1
     refine .seq (.region (.lss rfl rfl rfl (.nil (.code (.seq (.cond rfl (fun hb => ?_) (fun hb => ?_)))))))
     ·skip
      refine .skip (.code (.seq (.block (.seq (.region (.idx rfl Tryz.underlying31 Tryz.sizeOf3 hr rfl rfl (fun x b oo T fr cs e hm hv => ?_)))))))
      refine .loadF rfl Tryz.isAgg3 rfl hm (cell_of_take (k := 0) hv rfl) (.assign rfl rfl (.nil (.code (.region (.move rfl rfl ?_)))))
      refine .bind fun _ hk => ?_
      have hk := okB_some hk
      simp only [Bool.and_eq_true, decide_eq_true_eq] at hk
      obtain ⟨hk1, hk2, hk3⟩ := hk
      refine .sliceNew (cs := [.int .u8 32]) (zc := [.int .u8 0]) rfl Tryz.underlying25 Tryz.sizeOf5 Tryz.zeroValue5 rfl rfl rfl (by kernel_rfl) (by kernel_rfl) fun b2 => ?_
      refine .appB hF rfl Tryz.underlying25 infoByte (show o2.length + 1 ≤ 4294967296 by omega) rfl rfl fun v' => ?_
      refine .move rfl rfl (.appIntB appInt96 hF hT.pow10 rfl Tryz.call96 rfl hk2 hk3 (by simp; omega) rfl fun v'' => ?_)
      refine .assign rfl rfl (.nil (.block (.code (.region (.add rfl rfl rfl (.move rfl rfl (.nil ?_)))))))
      exact .nil (LPost.norm fun a w h => ⟨v'', h.1.sub (.cons (k := 3) rfl (.cons (k := 10) rfl (.cons (k := 11) rfl (.cons (k := 12) rfl (.cons (k := 27) rfl (.cons (k := 28) rfl (.cons (k := 29) rfl (.nil _)))))))), h.2⟩)
     ·skip
      refine .exitOut rfl (LPost.exit fun a w h => ⟨rfl, _, h.1.sub (.cons (k := 3) rfl (.cons (k := 10) rfl (.cons (k := 11) rfl (.cons (k := 12) rfl (.nil _))))), h.2⟩)
    ·intro o2 hb0 hk e a w hD
     obtain ⟨rfl, v2, hA⟩ := hD
     refine interp_exit rfl (GE.app ?_ hk a w hA)
     refine .block (.block (.code (.region (.add rfl rfl rfl (.move rfl rfl (.nil ?_))))))
     exact .nil (LPost.norm fun a w h => ⟨v2, h.1.sub (.cons (k := 3) rfl (.cons (k := 10) rfl (.cons (k := 11) rfl (.cons (k := 12) rfl (.nil _))))), h.2⟩)
  ·skip
   refine .exitOut rfl (LPost.exit fun a w h => ⟨rfl, _, h.1.sub (.cons (k := 3) rfl (.nil _)), h.2⟩)
 ·intro o hb0 hk e a w hD
  obtain ⟨rfl, v, hA⟩ := hD
  refine interp_exit rfl (GE.app ?_ hk a w hA)
  refine .code (.seq (GC.freezeB fun F1 p c le hv hr => ?_))
  subst hv
  refine .region (.move rfl rfl (.assign rfl rfl (.nil (.code ?_))))
  exact .ret0 Tryz.results77 (.tmp rfl (.nil)) (i := 0) rfl le ⟨p, c, rfl, hr⟩
noncomputable def b_file_row_check_0 (f : Nat → Int) (s : Int × Int) : Option (Ctl (Int × Int) Int) :=
 if decide (s.1 < 87) then (idxO 87 s.1).bind fun j => some (.next (w64 (s.1 + 1), IntKind.u32.wrap (IntKind.u32.wrap (31 * s.2) + IntKind.u32.wrap (f j)))) else some (.done s.2)
noncomputable def m_file_row_check (f : Nat → Int) : Option Int := (loopM (b_file_row_check_0 f) (0, 0)).bind fun o => some o
theorem cArr_at {kd : IntKind} {N : Nat} {f : Nat → Int} {j : Nat} (h : j < N) : (cArr N (cInt kd) f)[0 + j * 1]? = some (.int kd (f j)) := by
 rw [cArr_int, List.getElem?_map, List.getElem?_range (by omega)]; simp
theorem c_file_row_check (F0 : Fz) (f : Nat → Int) (b : Nat) : CT Tryz.prog 79 #[.pointer (some ⟨b, 0, none⟩)] F0 (pt b (.cells (cArr 96 (cInt .u8) f).toArray 83)) (m_file_row_check f) (fun x _ v => v = .int .u32 x) (fun _ _ _ => pt b (.cells (cArr 96 (cInt .u8) f).toArray 83)) := by
 refine CT.enter (args := [.pointer (some ⟨b, 0, none⟩)]) Tryz.func79 rfl Tryz.ntmps79 rfl fun r R => ?_
 unfold m_file_row_check
 refine .seq (.region (.assign rfl rfl (.nil (.code (.seq (.region (.assign rfl rfl (.nil (.code (.seq (.seq (.region ?_))))))))))))
 refine .move rfl rfl (.nilCheck rfl rfl (.sliceArrHi rfl Tryz.underlying83 Tryz.sizeOf5 rfl rfl rfl rfl (.lenS rfl rfl Tryz.underlying25 rfl (.move rfl rfl (.nil (.code (.block ?_)))))))
 refine .loop (fun (s : Int × Int) a w => Hd 21 [] [(3, .int .u32 s.2), (8, .slice (some ⟨b, 0, none⟩) 87 96), (9, .int .i64 87), (10, (.int .i64 s.1))] F0 [pt b (.cells (cArr 96 (cInt .u8) f).toArray 83), R] a w) (fun (o : Int) e a w => e = .exit 0 ∧ Hd 21 [] [(3, .int .u32 o)] F0 [pt b (.cells (cArr 96 (cInt .u8) f).toArray 83), R] a w) ?_ ?_ ?_
 ·exact fun a w h => ⟨h.1.sub (.cons (k := 3) rfl (.cons (k := 8) rfl (.cons (k := 9) rfl (.cons (k := 10) rfl (.nil _))))), h.2⟩
 ·rintro ⟨i, c⟩ ctl
  unfold b_file_row_check_0
  refine .seq (.region (.lss rfl rfl rfl (.nil (.code (.seq (.cond rfl (fun hb => ?_) (fun hb => ?_)))))))
  ·skip
   refine .skip (.code (.seq (.block (.seq (.region ?_)))))
   refine .bind fun j hj => ?_
   refine .indexAddrS rfl Tryz.underlying25 Tryz.sizeOf5 rfl rfl hj ?_
   refine .loadO rfl Tryz.isAgg5 rfl (i := 0) rfl (cArr_at (by have := (idxO_some hj).2.2.2; omega)) ?_
   refine .assign rfl rfl (.nil (.code (.region ?_)))
   refine .move rfl rfl (.mul rfl rfl rfl (.move rfl rfl (.convI rfl Tryz.underlying5 Tryz.underlying132 rfl (.add rfl rfl rfl (.assign rfl rfl (.nil (.block (.code (.region (.add rfl rfl rfl (.move rfl rfl (.nil ?_))))))))))))
   exact .nil (LPost.norm fun a w h => ⟨h.1.sub (.cons (k := 3) rfl (.cons (k := 8) rfl (.cons (k := 9) rfl (.cons (k := 10) rfl (.nil _))))), h.2⟩)
  ·skip
   refine .exitOut rfl (LPost.exit fun a w h => ⟨rfl, h.1.sub (.cons (k := 3) rfl (.nil _)), h.2⟩)
 ·intro o hb0 hk e a w hD
  obtain ⟨rfl, hA⟩ := hD
  refine interp_exit rfl (GE.app ?_ hk a w hA)
  refine .code (.seq (.region (.move rfl rfl (.assign rfl rfl (.nil (.code ?_))))))
  exact .ret1 Tryz.results79 (.tmp rfl (.nil)) (i := 0) (j := 0) rfl rfl (Fz.le_refl _) rfl
noncomputable def b_file_rowOf_1  (s104 : Int × (Nat → Int)) : Option (Ctl (Int × (Nat → Int)) (((Nat → Int)))) :=
 if (decide (s104.1 < 87)) then ((idxO 96 s104.1).bind fun j108 => bindv (updN s104.2 j108 46) fun x110 => bindv (w64 (s104.1 + 1)) fun n_112 => some (.next (n_112, x110))) else (some (.done s104.2))
noncomputable def b_file_rowOf_2  (s120 : Int × Int × (Nat → Int)) : Option (Ctl (Int × Int × (Nat → Int)) (((Nat → Int)))) :=
 if (decide (s120.2.1 ≥ 87)) then ((idxL ([48, 49, 50, 51, 52, 53, 54, 55, 56, 57, 97, 98, 99, 100, 101, 102] : List UInt8) (andK .u32 s120.1 15)).bind fun c124 => (idxO 96 s120.2.1).bind fun j126 => bindv (updN s120.2.2 j126 (c124.toNat : Int)) fun x128 => bindv (shrK .u32 s120.1 4) fun c130 => bindv (w64 (s120.2.1 - 1)) fun i132 => some (.next (c130, i132, x128))) else (some (.done s120.2.2))
noncomputable def m_file_rowOf (x1 : ApiBooked) : Option (Nat → Int) :=
 (m_file_kinds).bind fun r_13 => (idxL r_13 x1.Kind).bind fun x19 => (m_file_text ([(AnyV.b x19.letter), (AnyV.l x1.N)])).bind fun r_42 => bindv (copyN (fun (_ : Nat) => (0 : Int)) 87 r_42) fun f100 => bindv (imin (r_42.length : Int) 87) fun n_102 => (loopM b_file_rowOf_1 (n_102, f100)).bind fun b114 => (m_file_row_check b114).bind fun r_117 => (loopM b_file_rowOf_2 (r_117, 94, b114)).bind fun b134 => bindv (updN b134 95 10) fun x137 => some x137
set_option maxRecDepth 100000 in
set_option maxHeartbeats 4000000 in
theorem c_file_rowOf (F0 : Fz) (hT : TabsP F0) (x1 : ApiBooked) (p2 : Option Addr) (k3 : Nat) (h4 : RepSl 1 (Ex (cInt .i64)) F0 p2 k3 x1.N) : CT0 Tryz.prog 44 [(eApiBooked x1 p2 k3)].toArray F0 (m_file_rowOf x1) (fun r _ v => v = (.agg ((cArr 96 (cInt .u8)) r).toArray)) := by
 refine CT0.enter Tryz.func44 rfl Tryz.ntmps44 rfl fun r R => ?_
 unfold m_file_rowOf
 refine .seq (.region (.boxF (cs := (cApiBooked x1 p2 k3)) rfl rfl rfl (fun b5 F_6 l_7 hb8 => ?_)))
 refine .alloc (cs := ((cArr 96 (cInt .u8)) (fun (_ : Nat) => (0 : Int)))) rfl Tryz.zeroValue83 rfl (fun b9 => ?_)
 refine .nil (.code (.seq (.keep (.cons (k := 1) rfl (.cons (k := 2) rfl (.nil _))) (.bind (fun r_13 hx18 => ?_)))))
 refine .bind (fun x19 e25 => ?_)
 have h32 : RepAny 5 31 F_6 (.iface 5 (.int .u8 x19.letter)) () (AnyV.b x19.letter) := (rfl : rAny 5 31 F_6 (.b x19.letter) [_])
 have h33 : RepAny 5 31 F_6 (.iface 31 (.slice p2 x1.N.length k3)) () (AnyV.l x1.N) := ⟨_, _, rfl, (h4.mono l_7)⟩
 refine .bind (fun r_42 hx47 => ?_)
 refine .drawGD 13 0 (fun env10 => [((.slice (some ⟨b9, 0, none⟩) 87 96), fun _ => True), ((.slice (env10.a 10) r_13.length (env10.n 10)), fun G => RepSl 2 rFileKind G (env10.a 10) (env10.n 10) r_13), ((.pointer (some ⟨b5, 0 + 0, none⟩)), fun _ => True), ((.int .i64 x1.Kind), fun _ => True), ((.pointer (some ⟨(env10.n 40), (env10.n 41), none⟩)), fun G => ∃ (cs : List Value) (T : TypeId) (fr : Nat × Nat) (p29 : Option Addr) (k30 : Nat), G.mem (env10.n 40) = some (.cells cs.toArray T fr) ∧ (cs.drop (env10.n 41)).take 2 = (cFileKind x19 p29 k30) ∧ RepSl 1 (Ex (cInt .i64)) G p29 k30 x19.most), ((.pointer (some ⟨(env10.n 40), (env10.n 41), none⟩)), fun _ => True), ((.int .u8 x19.letter), fun _ => True), ((.iface 5 (.int .u8 x19.letter)), fun _ => True), ((.pointer (some ⟨b5, 0 + 1, none⟩)), fun _ => True), ((.slice p2 x1.N.length k3), fun _ => True), ((.iface 31 (.slice p2 x1.N.length k3)), fun _ => True), ((.slice (some ⟨env10.n 110, 0, none⟩) ([(AnyV.b x19.letter), (AnyV.l x1.N)]).length 2), fun G => RepSl 1 (rAny 5 31) G (some ⟨env10.n 110, 0, none⟩) 2 ([(AnyV.b x19.letter), (AnyV.l x1.N)])), ((.slice (env10.a 120) r_42.length (env10.n 120)), fun G => RepSl 1 (Ex (cInt .u8)) G (env10.a 120) (env10.n 120) r_42)]) (fun L env10 => [pt b9 (.cells ((cArr 96 (cInt .u8)) (fun (_ : Nat) => (0 : Int))).toArray 83), R]) mixedOK (by kernel_rfl) (deepN (k := 13) (n := 15) rfl (allLt15 (p := fun t => 13 ≤ t → ∀ j, j < t → ∃ s, depB _ s t j = true) (fun h => absurd h (by decide)) (fun h => absurd h (by decide)) (fun h => absurd h (by decide)) (fun h => absurd h (by decide)) (fun h => absurd h (by decide)) (fun h => absurd h (by decide)) (fun h => absurd h (by decide)) (fun h => absurd h (by decide)) (fun h => absurd h (by decide)) (fun h => absurd h (by decide)) (fun h => absurd h (by decide)) (fun h => absurd h (by decide)) (fun h => absurd h (by decide)) (fun _ => allLt13 (p := fun j => ∃ s, depB _ s 13 j = true) ⟨1, rfl⟩ ⟨2, rfl⟩ ⟨8, rfl⟩ ⟨7, rfl⟩ ⟨6, rfl⟩ ⟨5, rfl⟩ ⟨4, rfl⟩ ⟨3, rfl⟩ ⟨5, rfl⟩ ⟨4, rfl⟩ ⟨3, rfl⟩ ⟨2, rfl⟩ ⟨1, rfl⟩) (fun _ => allLt14 (p := fun j => ∃ s, depB _ s 14 j = true) ⟨1, rfl⟩ ⟨1, rfl⟩ ⟨1, rfl⟩ ⟨1, rfl⟩ ⟨1, rfl⟩ ⟨1, rfl⟩ ⟨1, rfl⟩ ⟨1, rfl⟩ ⟨1, rfl⟩ ⟨1, rfl⟩ ⟨1, rfl⟩ ⟨1, rfl⟩ ⟨1, rfl⟩ ⟨1, rfl⟩))) rfl (fun _ => rfl) (by kernel_rfl) (fun _ => rfl) ?_ (fun env10 F_48 l_49 hphi => ?_)
 ·skip
  refine .cons (fun L env10 F_50 l_51 hL hdn hup hphi => ⟨[(2, (.pointer (some ⟨b9, 0, none⟩)))], fun S hS hV => (.cons (hS _ _ rfl) (Sub.nil _)), ?_⟩) ?_
  ·skip
   refine .sliceArrHi rfl Tryz.underlying83 Tryz.sizeOf5 rfl rfl rfl rfl ?_
   exact .finV rfl rfl Fz.r
  refine .cons (fun L env10 F_52 l_53 hL hdn hup hphi => ⟨[], fun S hS hV => (Sub.nil _), ?_⟩) ?_
  ·skip
   refine .callK hx18 rfl Tryz.call78 rfl rfl rfl (c_file_kinds _ ) ?_
   rintro F_54 _ l_55 ⟨p56, k57, rfl, h58⟩
   exact .finQ ({ env10 with a := (updN env10.a 10 p56), n := (updN env10.n 10 k57), c := env10.c, o := env10.o }) [true, false, true, true, false, false, false, false, true, true, true, false, false] rfl (by kernel_rfl) rfl rfl l_55 (fun _ le => h58.mono le) (cons_eq rfl (cons_eq rfl rfl))
  refine .cons (fun L env10 F_59 l_60 hL hdn hup hphi => ⟨[(1, (.pointer (some ⟨b5, 0, none⟩)))], fun S hS hV => (.cons (hS _ _ rfl) (Sub.nil _)), ?_⟩) ?_
  ·skip
   refine .fieldAddr rfl Tryz.underlying41 rfl Tryz.sizeOf3 rfl ?_
   exact .finV rfl rfl Fz.r
  refine .cons (fun L env10 F_61 l_62 hL hdn hup hphi => ⟨[(8, (.pointer (some ⟨b5, 0 + 0, none⟩)))], fun S hS hV => (.cons (hV 2 8 _ (hdn 1 2 rfl) rfl rfl) (Sub.nil _)), ?_⟩) ?_
  ·skip
   refine .loadF rfl Tryz.isAgg3 rfl (l_62.mem _ _ hb8) rfl ?_
   exact .finV rfl rfl Fz.r
  refine .cons (fun L env10 F_63 l_64 hL hdn hup hphi => ⟨[(7, (.slice (env10.a 10) r_13.length (env10.n 10))), (9, (.int .i64 x1.Kind))], fun S hS hV => (.cons (hV 1 7 _ (hdn 1 1 rfl) rfl rfl) (.cons (hV 3 9 _ (hdn 1 3 rfl) rfl rfl) (Sub.nil _))), ?_⟩) ?_
  ·skip
   have h17 := hphi 1 _ (hdn 1 1 rfl) rfl _ Fz.r
   obtain ⟨b65, o66, T67, fr68, cs69, hm70, hv71, hq72⟩ := RepSl.idxE h17 e25
   refine .idxQ rfl Tryz.underlying130 Tryz.sizeOf129 hq72 rfl rfl ?_
   obtain ⟨_, _, hv71, h73⟩ := hv71
   exact .finQ ({ env10 with n := updN (updN env10.n 40 b65) 41 o66 }) [true, true, true, true, false, false, false, false, true, true, true, false, false] rfl (by kernel_rfl) rfl rfl Fz.r (fun _ le => ⟨_, _, _, _, _, le.mem _ _ hm70, hv71, h73.mono le⟩) (cons_eq rfl (cons_eq rfl rfl))
  refine .cons (fun L env10 F_74 l_75 hL hdn hup hphi => ⟨[(10, (.pointer (some ⟨(env10.n 40), (env10.n 41), none⟩)))], fun S hS hV => (.cons (hV 4 10 _ (hdn 1 4 rfl) rfl rfl) (Sub.nil _)), ?_⟩) ?_
  ·skip
   have h17 := hphi 1 _ (hdn 2 1 rfl) rfl _ Fz.r
   obtain ⟨_, _, _, p29, k30, hm26, hv27, h31⟩ := hphi 4 _ (hdn 1 4 rfl) rfl _ Fz.r
   refine .fieldAddr rfl Tryz.underlying129 rfl Tryz.sizeOf5 rfl ?_
   exact .finV rfl rfl Fz.r
  refine .cons (fun L env10 F_76 l_77 hL hdn hup hphi => ⟨[(11, (.pointer (some ⟨(env10.n 40), (env10.n 41), none⟩)))], fun S hS hV => (.cons (hV 5 11 _ (hdn 1 5 rfl) rfl rfl) (Sub.nil _)), ?_⟩) ?_
  ·skip
   have h17 := hphi 1 _ (hdn 3 1 rfl) rfl _ Fz.r
   obtain ⟨_, _, _, p29, k30, hm26, hv27, h31⟩ := hphi 4 _ (hdn 2 4 rfl) rfl _ Fz.r
   refine .loadF rfl Tryz.isAgg5 rfl hm26 (cell_of_take (k := 0) hv27 rfl) ?_
   exact .finV rfl rfl Fz.r
  refine .cons (fun L env10 F_78 l_79 hL hdn hup hphi => ⟨[(12, (.int .u8 x19.letter))], fun S hS hV => (.cons (hV 6 12 _ (hdn 1 6 rfl) rfl rfl) (Sub.nil _)), ?_⟩) ?_
  ·skip
   have h17 := hphi 1 _ (hdn 4 1 rfl) rfl _ Fz.r
   obtain ⟨_, _, _, p29, k30, hm26, hv27, h31⟩ := hphi 4 _ (hdn 3 4 rfl) rfl _ Fz.r
   refine .mkIface rfl Tryz.underlying5 (by intro z h; cases h) rfl ?_
   exact .finV rfl rfl Fz.r
  refine .cons (fun L env10 F_80 l_81 hL hdn hup hphi => ⟨[(1, (.pointer (some ⟨b5, 0, none⟩)))], fun S hS hV => (.cons (hS _ _ rfl) (Sub.nil _)), ?_⟩) ?_
  ·skip
   refine .fieldAddr rfl Tryz.underlying41 rfl Tryz.sizeOf31 rfl ?_
   exact .finV rfl rfl Fz.r
  refine .cons (fun L env10 F_82 l_83 hL hdn hup hphi => ⟨[(14, (.pointer (some ⟨b5, 0 + 1, none⟩)))], fun S hS hV => (.cons (hV 8 14 _ (hdn 1 8 rfl) rfl rfl) (Sub.nil _)), ?_⟩) ?_
  ·skip
   refine .loadF rfl Tryz.isAgg31 rfl (l_83.mem _ _ hb8) rfl ?_
   exact .finV rfl rfl Fz.r
  refine .cons (fun L env10 F_84 l_85 hL hdn hup hphi => ⟨[(15, (.slice p2 x1.N.length k3))], fun S hS hV => (.cons (hV 9 15 _ (hdn 1 9 rfl) rfl rfl) (Sub.nil _)), ?_⟩) ?_
  ·skip
   refine .mkIface rfl Tryz.underlying31 (by intro z h; cases h) rfl ?_
   exact .finV rfl rfl Fz.r
  refine .cons (fun L env10 F_86 l_87 hL hdn hup hphi => ⟨[(13, (.iface 5 (.int .u8 x19.letter))), (16, (.iface 31 (.slice p2 x1.N.length k3)))], fun S hS hV => (.cons (hV 7 13 _ (hdn 1 7 rfl) rfl rfl) (.cons (hV 10 16 _ (hdn 1 10 rfl) rfl rfl) (Sub.nil _))), ?_⟩) ?_
  ·skip
   have h17 := hphi 1 _ (hdn 5 1 rfl) rfl _ Fz.r
   obtain ⟨_, _, _, p29, k30, hm26, hv27, h31⟩ := hphi 4 _ (hdn 4 4 rfl) rfl _ Fz.r
   refine .sliceLit (cs := [(.iface 5 (.int .u8 x19.letter)), (.iface 31 (.slice p2 x1.N.length k3))]) (zc := [.nilIface, .nilIface]) rfl Tryz.underlying149 Tryz.sizeOf20 Tryz.zeroValue20 rfl rfl rfl (by kernel_rfl) (by kernel_rfl) (fun b88 F_89 l_90 hb91 => ?_)
   have h92 : RepSl 1 (rAny 5 31) F_89 (some ⟨b88, 0, none⟩) 2 ([(AnyV.b x19.letter), (AnyV.l x1.N)]) := RepSl.ofRow hb91 (.cons ok_t20.mono (h32.mono (Fz.t l_87 l_90)) (.cons ok_t20.mono (h33.mono (Fz.t l_87 l_90)) .nil)) rfl rfl
   exact .finQ ({ env10 with a := env10.a, n := (updN env10.n 110 b88), c := env10.c, o := env10.o }) [true, true, true, true, true, true, true, true, true, true, true, false, false] rfl (by kernel_rfl) rfl rfl l_90 (fun _ le => h92.mono le) (cons_eq rfl (cons_eq rfl rfl))
  refine .cons (fun L env10 F_93 l_94 hL hdn hup hphi => ⟨[(17, (.slice (some ⟨env10.n 110, 0, none⟩) ([(AnyV.b x19.letter), (AnyV.l x1.N)]).length 2))], fun S hS hV => (.cons (hV 11 17 _ (hdn 1 11 rfl) rfl rfl) (Sub.nil _)), ?_⟩) ?_
  ·skip
   have h17 := hphi 1 _ (hdn 1 1 rfl) rfl _ Fz.r
   obtain ⟨_, _, _, p29, k30, hm26, hv27, h31⟩ := hphi 4 _ (hdn 5 4 rfl) rfl _ Fz.r
   have h39 := hphi 11 _ (hdn 1 11 rfl) rfl _ Fz.r
   refine .callK hx47 rfl Tryz.call77 rfl rfl rfl (c_file_text _ (hT.mono (Fz.t l_7 l_94)) ([(AnyV.b x19.letter), (AnyV.l x1.N)]) (some ⟨env10.n 110, 0, none⟩) 2 h39) ?_
   rintro F_95 _ l_96 ⟨p97, k98, rfl, h99⟩
   exact .finQ ({ env10 with a := (updN env10.a 120 p97), n := (updN env10.n 120 k98), c := env10.c, o := env10.o }) [true, true, true, true, true, true, true, true, true, true, true, true, false] rfl (by kernel_rfl) rfl rfl l_96 (fun _ le => h99.mono le) (cons_eq rfl (cons_eq rfl rfl))
  exact .nil
 have h17 := hphi 1 _ rfl
 obtain ⟨_, _, _, p29, k30, hm26, hv27, h31⟩ := hphi 4 _ rfl
 have h39 := hphi 11 _ rfl
 have h46 := hphi 12 _ rfl
 refine .norm (S' := [(1, (.pointer (some ⟨b5, 0, none⟩))), (2, (.pointer (some ⟨b9, 0, none⟩))), (6, (.slice (some ⟨b9, 0, none⟩) 87 96)), (7, (.slice (env10.a 10) r_13.length (env10.n 10))), (8, (.pointer (some ⟨b5, 0 + 0, none⟩))), (9, (.int .i64 x1.Kind)), (10, (.pointer (some ⟨(env10.n 40), (env10.n 41), none⟩))), (11, (.pointer (some ⟨(env10.n 40), (env10.n 41), none⟩))), (12, (.int .u8 x19.letter)), (13, (.iface 5 (.int .u8 x19.letter))), (14, (.pointer (some ⟨b5, 0 + 1, none⟩))), (15, (.slice p2 x1.N.length k3)), (16, (.iface 31 (.slice p2 x1.N.length k3))), (17, (.slice (some ⟨env10.n 110, 0, none⟩) ([(AnyV.b x19.letter), (AnyV.l x1.N)]).length 2)), (18, (.slice (env10.a 120) r_42.length (env10.n 120)))]) (.cons (k := 1) rfl (.cons (k := 2) rfl (.cons (k := 6) rfl (.cons (k := 7) rfl (.cons (k := 8) rfl (.cons (k := 9) rfl (.cons (k := 10) rfl (.cons (k := 11) rfl (.cons (k := 12) rfl (.cons (k := 13) rfl (.cons (k := 14) rfl (.cons (k := 15) rfl (.cons (k := 16) rfl (.cons (k := 17) rfl (.cons (k := 18) rfl (.nil _)))))))))))))))) (rfl : _ = [pt b9 (.cells ((cArr 96 (cInt .u8)) (fun (_ : Nat) => (0 : Int))).toArray 83), R]) ?_
 refine .letv (fun f100 e101 => ?_)
 refine .copyArr 0 rfl rfl Tryz.underlying25 Tryz.underlying25 Tryz.sizeOf5 rfl rfl rfl h46 e101 (.assignL rfl rfl (fun n_102 e103 => ?_))
 refine .nil (.code (.seq (.block (.keep (.cons (k := 2) rfl (.cons (k := 3) rfl (.nil _))) ?_))))
 refine .loop (fun (s104 : Int × (Nat → Int)) a w => ∃ (F_105 : Fz), F_48 ≤ F_105 ∧ Hd 40 [] [(2, (.pointer (some ⟨b9, 0, none⟩))), (3, (.int .i64 s104.1))] F_105 [pt b9 (.cells ((cArr 96 (cInt .u8)) s104.2).toArray 83), R] a w) (fun b114 e a w => e = .exit 0 ∧ ∃ (F_115 : Fz), F_48 ≤ F_115 ∧ Hd 40 [] [(2, (.pointer (some ⟨b9, 0, none⟩)))] F_115 [pt b9 (.cells ((cArr 96 (cInt .u8)) b114).toArray 83), R] a w) ?_ ?_ ?_
 ·exact fun a w h => ⟨F_48, Fz.r, h.1.sub (.cons (k := 2) rfl (.cons (k := 3) rfl (.nil _))), h.2⟩
 ·intro s104 ctl
  refine GC.ex (fun a w ⟨F_105, l_106, hA⟩ => ⟨_, hA, ?_⟩)
  unfold b_file_rowOf_1
  refine .seq (.seq (.region (.move rfl rfl (.lss rfl rfl rfl (.nil (.code (.cond rfl (fun hb107 => ?_) (fun hb107 => ?_))))))))
  ·skip
   refine .skip (.code (.seq (.block (.region (.move rfl rfl (.bind (fun j108 hj109 => ?_)))))))
   refine .indexAddrA rfl Tryz.underlying83 Tryz.sizeOf5 rfl rfl hj109 (.letv (fun x110 e111 => ?_))
   refine .store (cs' := ((cArr 96 (cInt .u8)) x110)) Tryz.sizeOf5 rfl rfl rfl rfl (i := 0) rfl (allLt96 (p := fun j108 => 0 + j108 * 1 + 1 ≤ 96) (by decide) (by decide) (by decide) (by decide) (by decide) (by decide) (by decide) (by decide) (by decide) (by decide) (by decide) (by decide) (by decide) (by decide) (by decide) (by decide) (by decide) (by decide) (by decide) (by decide) (by decide) (by decide) (by decide) (by decide) (by decide) (by decide) (by decide) (by decide) (by decide) (by decide) (by decide) (by decide) (by decide) (by decide) (by decide) (by decide) (by decide) (by decide) (by decide) (by decide) (by decide) (by decide) (by decide) (by decide) (by decide) (by decide) (by decide) (by decide) (by decide) (by decide) (by decide) (by decide) (by decide) (by decide) (by decide) (by decide) (by decide) (by decide) (by decide) (by decide) (by decide) (by decide) (by decide) (by decide) (by decide) (by decide) (by decide) (by decide) (by decide) (by decide) (by decide) (by decide) (by decide) (by decide) (by decide) (by decide) (by decide) (by decide) (by decide) (by decide) (by decide) (by decide) (by decide) (by decide) (by decide) (by decide) (by decide) (by decide) (by decide) (by decide) (by decide) (by decide) (by decide) (by decide) (by decide) (by decide) _ (idxO_some hj109).2.2.2) rfl (by rw [e111]; exact (allLt96 (p := fun j108 => setMany (((cArr 96 (cInt .u8)) s104.2)) (0 + j108 * 1) [(.int .u8 46)] = ((cArr 96 (cInt .u8)) (updN s104.2 j108 46))) rfl rfl rfl rfl rfl rfl rfl rfl rfl rfl rfl rfl rfl rfl rfl rfl rfl rfl rfl rfl rfl rfl rfl rfl rfl rfl rfl rfl rfl rfl rfl rfl rfl rfl rfl rfl rfl rfl rfl rfl rfl rfl rfl rfl rfl rfl rfl rfl rfl rfl rfl rfl rfl rfl rfl rfl rfl rfl rfl rfl rfl rfl rfl rfl rfl rfl rfl rfl rfl rfl rfl rfl rfl rfl rfl rfl rfl rfl rfl rfl rfl rfl rfl rfl rfl rfl rfl rfl rfl rfl rfl rfl rfl rfl rfl rfl _ (idxO_some hj109).2.2.2)) ?_
   refine .nil (.block (.code (.region (.move rfl rfl (.add rfl rfl rfl (.assignL rfl rfl (fun n_112 e113 => ?_)))))))
   refine .nil ?_
   exact .nil (LPost.norm fun a w h => ⟨F_105, l_106, h.1.sub (.cons (k := 2) rfl (.cons (k := 3) rfl (.nil _))), h.2⟩)
  ·skip
   refine .exitOut rfl (LPost.exit fun a w h => ⟨rfl, F_105, l_106, h.1.sub (.cons (k := 2) rfl (.nil _)), h.2⟩)
 ·intro b114 hb0 hk e a w hD
  obtain ⟨rfl, F_115, l_116, hA⟩ := hD
  refine interp_exit rfl (GE.app ?_ hk a w hA)
  refine .code (.seq (.region (.callBox 0 rfl rfl Tryz.call79 rfl rfl (c_file_row_check _ b114 b9) (fun r_117 F_118 l_119 => ?_))))
  refine .assign rfl rfl (.nil (.code (.seq (.seq (.region (.assign rfl rfl (.nil (.code (.block (.keep (.cons (k := 2) rfl (.cons (k := 4) rfl (.cons (k := 5) rfl (.nil _)))) ?_))))))))))
  refine .loop (fun (s120 : Int × Int × (Nat → Int)) a w => ∃ (F_121 : Fz), F_118 ≤ F_121 ∧ Hd 40 [] [(2, (.pointer (some ⟨b9, 0, none⟩))), (4, (.int .u32 s120.1)), (5, (.int .i64 s120.2.1))] F_121 [pt b9 (.cells ((cArr 96 (cInt .u8)) s120.2.2).toArray 83), R] a w) (fun b134 e a w => e = .exit 2 ∧ ∃ (F_135 : Fz), F_118 ≤ F_135 ∧ Hd 40 [] [(2, (.pointer (some ⟨b9, 0, none⟩)))] F_135 [pt b9 (.cells ((cArr 96 (cInt .u8)) b134).toArray 83), R] a w) ?_ ?_ ?_
  ·exact fun a w h => ⟨F_118, Fz.r, h.1.sub (.cons (k := 2) rfl (.cons (k := 4) rfl (.cons (k := 5) rfl (.nil _)))), h.2⟩
  ·intro s120 ctl
   refine GC.ex (fun a w ⟨F_121, l_122, hA⟩ => ⟨_, hA, ?_⟩)
   unfold b_file_rowOf_2
   refine .seq (.seq (.region (.move rfl rfl (.geq rfl rfl rfl (.nil (.code (.cond rfl (fun hb123 => ?_) (fun hb123 => ?_))))))))
   ·skip
    refine .skip (.code (.seq (.block (.seq (.region (.move rfl rfl (.move rfl rfl (.andI rfl rfl rfl (.idxStr rfl Tryz.underlying9 rfl rfl (fun c124 e125 => ?_))))))))))
    refine .bind (fun j126 hj127 => ?_)
    refine .indexAddrA rfl Tryz.underlying83 Tryz.sizeOf5 rfl rfl hj127 (.letv (fun x128 e129 => ?_))
    refine .store (cs' := ((cArr 96 (cInt .u8)) x128)) Tryz.sizeOf5 rfl rfl rfl rfl (i := 0) rfl (allLt96 (p := fun j126 => 0 + j126 * 1 + 1 ≤ 96) (by decide) (by decide) (by decide) (by decide) (by decide) (by decide) (by decide) (by decide) (by decide) (by decide) (by decide) (by decide) (by decide) (by decide) (by decide) (by decide) (by decide) (by decide) (by decide) (by decide) (by decide) (by decide) (by decide) (by decide) (by decide) (by decide) (by decide) (by decide) (by decide) (by decide) (by decide) (by decide) (by decide) (by decide) (by decide) (by decide) (by decide) (by decide) (by decide) (by decide) (by decide) (by decide) (by decide) (by decide) (by decide) (by decide) (by decide) (by decide) (by decide) (by decide) (by decide) (by decide) (by decide) (by decide) (by decide) (by decide) (by decide) (by decide) (by decide) (by decide) (by decide) (by decide) (by decide) (by decide) (by decide) (by decide) (by decide) (by decide) (by decide) (by decide) (by decide) (by decide) (by decide) (by decide) (by decide) (by decide) (by decide) (by decide) (by decide) (by decide) (by decide) (by decide) (by decide) (by decide) (by decide) (by decide) (by decide) (by decide) (by decide) (by decide) (by decide) (by decide) (by decide) (by decide) (by decide) (by decide) _ (idxO_some hj127).2.2.2) rfl (by rw [e129]; exact (allLt96 (p := fun j126 => setMany (((cArr 96 (cInt .u8)) s120.2.2)) (0 + j126 * 1) [(.int .u8 (c124.toNat : Int))] = ((cArr 96 (cInt .u8)) (updN s120.2.2 j126 (c124.toNat : Int)))) rfl rfl rfl rfl rfl rfl rfl rfl rfl rfl rfl rfl rfl rfl rfl rfl rfl rfl rfl rfl rfl rfl rfl rfl rfl rfl rfl rfl rfl rfl rfl rfl rfl rfl rfl rfl rfl rfl rfl rfl rfl rfl rfl rfl rfl rfl rfl rfl rfl rfl rfl rfl rfl rfl rfl rfl rfl rfl rfl rfl rfl rfl rfl rfl rfl rfl rfl rfl rfl rfl rfl rfl rfl rfl rfl rfl rfl rfl rfl rfl rfl rfl rfl rfl rfl rfl rfl rfl rfl rfl rfl rfl rfl rfl rfl rfl _ (idxO_some hj127).2.2.2)) ?_
    refine .nil (.code (.region (.move rfl rfl (.shrC rfl (by decide) rfl rfl (.assignL rfl rfl (fun c130 e131 => ?_))))))
    refine .nil (.block (.code (.region (.move rfl rfl (.sub rfl rfl rfl (.assignL rfl rfl (fun i132 e133 => ?_)))))))
    refine .nil ?_
    exact .nil (LPost.norm fun a w h => ⟨F_121, l_122, h.1.sub (.cons (k := 2) rfl (.cons (k := 4) rfl (.cons (k := 5) rfl (.nil _)))), h.2⟩)
   ·skip
    refine .exitOut rfl (LPost.exit fun a w h => ⟨rfl, F_121, l_122, h.1.sub (.cons (k := 2) rfl (.nil _)), h.2⟩)
  ·intro b134 hb0 hk e a w hD
   obtain ⟨rfl, F_135, l_136, hA⟩ := hD
   refine interp_exit rfl (GE.app ?_ hk a w hA)
   refine .code (.seq (.region (.indexAddrA rfl Tryz.underlying83 Tryz.sizeOf5 rfl rfl (j := 95) rfl (.letv (fun x137 e138 => ?_)))))
   refine .store (cs' := ((cArr 96 (cInt .u8)) x137)) Tryz.sizeOf5 rfl rfl rfl rfl (i := 0) rfl (Nat.le_of_ble_eq_true rfl) rfl (by rw [e138]; kernel_rfl) (.nil (.code (.seq (.region (.loadOA rfl Tryz.isAgg83 Tryz.sizeOf83 rfl (i := 0) rfl (vs := ((cArr 96 (cInt .u8)) x137)) (by kernel_rfl) rfl ?_)))))
   refine .store (cs' := ((cArr 96 (cInt .u8)) x137)) Tryz.sizeOf83 rfl rfl rfl rfl (i := 0) rfl (Nat.le_of_ble_eq_true rfl) rfl (setMany_all (by rfl)) (.nil (.code ?_))
   exact .ret0 Tryz.results44 (.agg rfl Tryz.isAgg83 Tryz.sizeOf83 (i := 0) rfl (vs' := ((cArr 96 (cInt .u8)) x137)) (by kernel_rfl) rfl (.nil)) (i := 1) rfl (Fz.t l_7 (Fz.t l_49 (Fz.t l_116 (Fz.t l_119 l_136)))) rfl
def m_file_residue (b1 : Int) : Int :=
 (Int.tmod (w64 ((w64 ((w64 (b1)) - 32)) + 95)) 95)
set_option maxRecDepth 100000 in
set_option maxHeartbeats 4000000 in
theorem c_file_residue (F0 : Fz) (b1 : Int) : CT0 Tryz.prog 80 [(.int .u8 b1)].toArray F0 (some (m_file_residue b1)) (fun r _ v => v = (.int .i64 r)) := by
 refine CT0.enter Tryz.func80 rfl Tryz.ntmps80 rfl fun r R => ?_
 refine .seq (.region (.assign rfl rfl (.nil (.code (.seq (.region (.move rfl rfl (.convI rfl Tryz.underlying5 Tryz.underlying3 rfl (.sub rfl rfl rfl (.add rfl rfl rfl (.remC rfl (by decide) rfl rfl ?_)))))))))))
 refine .assign rfl rfl (.nil (.code ?_))
 exact .ret0 Tryz.results80 (.tmp rfl (.nil)) (i := 0) rfl Fz.r rfl
noncomputable def b_file_guard_2 (rows1 : (List (Nat → Int))) (s6 : Int × (Nat → Int)) (s10 : Int × Int) : Option (Ctl (Int × Int) ((Int))) :=
 if (decide (s10.2 < (rows1.length : Int))) then ((idxL rows1 s10.2).bind fun x14 => (idxO 96 s6.1).bind fun j25 => bindv (w64 (s10.1 + (m_file_residue (x14 j25)))) fun n_29 => some (.next (n_29, (w64 (s10.2 + 1))))) else (some (.done s10.1))
noncomputable def b_file_guard_1 (rows1 : (List (Nat → Int))) (s6 : Int × (Nat → Int)) : Option (Ctl (Int × (Nat → Int)) (((Nat → Int)))) :=
 if (decide (s6.1 < 95)) then ((loopM (b_file_guard_2 rows1 s6) (0, 0)).bind fun b31 => (idxO 96 s6.1).bind fun j34 => bindv (updN s6.2 j34 (IntKind.u8.wrap ((w64 (32 + (Int.tmod b31 95)))))) fun x36 => some (.next ((w64 (s6.1 + 1)), x36))) else (some (.done s6.2))
noncomputable def m_file_guard (rows1 : (List (Nat → Int))) : Option (Nat → Int) :=
 (loopM (b_file_guard_1 rows1) (0, (fun (_ : Nat) => (0 : Int)))).bind fun b38 => bindv (updN b38 95 10) fun x41 => some x41
set_option maxRecDepth 100000 in
set_option maxHeartbeats 4000000 in
theorem c_file_guard (F0 : Fz) (rows1 : (List (Nat → Int))) (p2 : Option Addr) (k3 : Nat) (h4 : RepSl 96 (Ex (cArr 96 (cInt .u8))) F0 p2 k3 rows1) : CT0 Tryz.prog 45 [(.slice p2 rows1.length k3)].toArray F0 (m_file_guard rows1) (fun r _ v => v = (.agg ((cArr 96 (cInt .u8)) r).toArray)) := by
 refine CT0.enter Tryz.func45 rfl Tryz.ntmps45 rfl fun r R => ?_
 unfold m_file_guard
 refine .seq (.region (.alloc (cs := ((cArr 96 (cInt .u8)) (fun (_ : Nat) => (0 : Int)))) rfl Tryz.zeroValue83 rfl (fun b5 => ?_)))
 refine .nil (.code (.seq (.seq (.region (.move rfl rfl (.nil (.code (.block (.keep (.cons (k := 0) rfl (.cons (k := 2) rfl (.cons (k := 7) rfl (.nil _)))) ?_)))))))))
 refine .loop (fun (s6 : Int × (Nat → Int)) a w => ∃ (F_7 : Fz), F0 ≤ F_7 ∧ Hd 32 [] [(0, (.slice p2 rows1.length k3)), (2, (.pointer (some ⟨b5, 0, none⟩))), (7, (.int .i64 s6.1))] F_7 [pt b5 (.cells ((cArr 96 (cInt .u8)) s6.2).toArray 83), R] a w) (fun b38 e a w => e = .exit 0 ∧ ∃ (F_39 : Fz), F0 ≤ F_39 ∧ Hd 32 [] [(2, (.pointer (some ⟨b5, 0, none⟩)))] F_39 [pt b5 (.cells ((cArr 96 (cInt .u8)) b38).toArray 83), R] a w) ?_ ?_ ?_
 ·exact fun a w h => ⟨F0, Fz.r, h.1.sub (.cons (k := 0) rfl (.cons (k := 2) rfl (.cons (k := 7) rfl (.nil _)))), h.2⟩
 ·intro s6 ctl
  refine GC.ex (fun a w ⟨F_7, l_8, hA⟩ => ⟨_, hA, ?_⟩)
  unfold b_file_guard_1
  refine .seq (.region (.lss rfl rfl rfl (.nil (.code (.seq (.cond rfl (fun hb9 => ?_) (fun hb9 => ?_)))))))
  ·skip
   refine .skip (.code (.seq (.block (.seq (.region (.move rfl rfl (.assign rfl rfl (.nil (.code (.seq (.region ?_)))))))))))
   refine .assign rfl rfl (.nil (.code (.seq (.seq (.region (.move rfl rfl (.lenS rfl rfl Tryz.underlying81 rfl (.move rfl rfl (.nil (.code (.block ?_)))))))))))
   refine .keep (.cons (k := 0) rfl (.cons (k := 2) rfl (.cons (k := 3) rfl (.cons (k := 4) rfl (.cons (k := 7) rfl (.cons (k := 10) rfl (.cons (k := 11) rfl (.cons (k := 12) rfl (.nil _))))))))) ?_
   refine .loop (fun (s10 : Int × Int) a w => ∃ (F_11 : Fz), F_7 ≤ F_11 ∧ Hd 32 [] [(0, (.slice p2 rows1.length k3)), (2, (.pointer (some ⟨b5, 0, none⟩))), (3, (.int .i64 s6.1)), (4, (.int .i64 s10.1)), (7, (.int .i64 s6.1)), (10, (.slice p2 rows1.length k3)), (11, (.int .i64 (rows1.length : Int))), (12, (.int .i64 s10.2))] F_11 [pt b5 (.cells ((cArr 96 (cInt .u8)) s6.2).toArray 83), R] a w) (fun b31 e a w => e = .exit 2 ∧ ∃ (F_32 : Fz), F_7 ≤ F_32 ∧ Hd 32 [] [(0, (.slice p2 rows1.length k3)), (2, (.pointer (some ⟨b5, 0, none⟩))), (3, (.int .i64 s6.1)), (4, (.int .i64 b31)), (7, (.int .i64 s6.1))] F_32 [pt b5 (.cells ((cArr 96 (cInt .u8)) s6.2).toArray 83), R] a w) ?_ ?_ ?_
   ·exact fun a w h => ⟨F_7, Fz.r, h.1.sub (.cons (k := 0) rfl (.cons (k := 2) rfl (.cons (k := 3) rfl (.cons (k := 4) rfl (.cons (k := 7) rfl (.cons (k := 10) rfl (.cons (k := 11) rfl (.cons (k := 12) rfl (.nil _))))))))), h.2⟩
   ·intro s10 ctl
    refine GC.ex (fun a w ⟨F_11, l_12, hA⟩ => ⟨_, hA, ?_⟩)
    unfold b_file_guard_2
    refine .seq (.region (.lss rfl rfl rfl (.nil (.code (.seq (.cond rfl (fun hb13 => ?_) (fun hb13 => ?_)))))))
    ·skip
     refine .skip (.code (.seq (.block (.seq (.region (.idx rfl Tryz.underlying81 Tryz.sizeOf83 (h4.mono (Fz.t l_8 l_12)) rfl rfl (fun x14 b15 o16 T17 fr18 cs19 e20 hm21 hv22 => ?_)))))))
     refine .loadFA rfl Tryz.isAgg83 Tryz.sizeOf83 rfl hm21 hv22 rfl (.alloc (cs := ((cArr 96 (cInt .u8)) (fun (_ : Nat) => (0 : Int)))) rfl Tryz.zeroValue83 rfl (fun b24 => ?_))
     refine .store (cs' := ((cArr 96 (cInt .u8)) x14)) Tryz.sizeOf83 rfl rfl rfl rfl (i := 0) rfl (Nat.le_of_ble_eq_true rfl) rfl (setMany_all (by rfl)) (.nil (.code (.region (.move rfl rfl (.move rfl rfl (.bind (fun j25 hj26 => ?_)))))))
     refine .indexAddrA rfl Tryz.underlying83 Tryz.sizeOf5 rfl rfl hj26 ?_
     refine .loadO rfl Tryz.isAgg5 rfl (i := 0) rfl (allLt96 (p := fun j25 => (((cArr 96 (cInt .u8)) x14))[0 + j25 * 1]? = some (.int .u8 (x14 j25))) rfl rfl rfl rfl rfl rfl rfl rfl rfl rfl rfl rfl rfl rfl rfl rfl rfl rfl rfl rfl rfl rfl rfl rfl rfl rfl rfl rfl rfl rfl rfl rfl rfl rfl rfl rfl rfl rfl rfl rfl rfl rfl rfl rfl rfl rfl rfl rfl rfl rfl rfl rfl rfl rfl rfl rfl rfl rfl rfl rfl rfl rfl rfl rfl rfl rfl rfl rfl rfl rfl rfl rfl rfl rfl rfl rfl rfl rfl rfl rfl rfl rfl rfl rfl rfl rfl rfl rfl rfl rfl rfl rfl rfl rfl rfl rfl _ (idxO_some hj26).2.2.2) ?_
     refine .callP rfl Tryz.call80 rfl rfl rfl (c_file_residue _ (x14 j25)) ?_
     rintro F_27 _ l_28 rfl
     refine .add rfl rfl rfl (.assignL rfl rfl (fun n_29 e30 => ?_))
     refine .nil (.block (.code (.region (.add rfl rfl rfl (.move rfl rfl (.nil (.drop 0 ?_)))))))
     exact .nil (LPost.norm fun a w h => ⟨F_27, (Fz.t l_12 l_28), h.1.sub (.cons (k := 0) rfl (.cons (k := 2) rfl (.cons (k := 3) rfl (.cons (k := 4) rfl (.cons (k := 7) rfl (.cons (k := 10) rfl (.cons (k := 11) rfl (.cons (k := 12) rfl (.nil _))))))))), h.2⟩)
    ·skip
     refine .exitOut rfl (LPost.exit fun a w h => ⟨rfl, F_11, l_12, h.1.sub (.cons (k := 0) rfl (.cons (k := 2) rfl (.cons (k := 3) rfl (.cons (k := 4) rfl (.cons (k := 7) rfl (.nil _)))))), h.2⟩)
   ·intro b31 hb0 hk e a w hD
    obtain ⟨rfl, F_32, l_33, hA⟩ := hD
    refine interp_exit rfl (GE.app ?_ hk a w hA)
    refine .code (.region (.move rfl rfl (.move rfl rfl (.remC rfl (by decide) rfl rfl (.add rfl rfl rfl (.convI rfl Tryz.underlying3 Tryz.underlying5 rfl (.bind (fun j34 hj35 => ?_))))))))
    refine .indexAddrA rfl Tryz.underlying83 Tryz.sizeOf5 rfl rfl hj35 (.letv (fun x36 e37 => ?_))
    refine .store (cs' := ((cArr 96 (cInt .u8)) x36)) Tryz.sizeOf5 rfl rfl rfl rfl (i := 0) rfl (allLt96 (p := fun j34 => 0 + j34 * 1 + 1 ≤ 96) (by decide) (by decide) (by decide) (by decide) (by decide) (by decide) (by decide) (by decide) (by decide) (by decide) (by decide) (by decide) (by decide) (by decide) (by decide) (by decide) (by decide) (by decide) (by decide) (by decide) (by decide) (by decide) (by decide) (by decide) (by decide) (by decide) (by decide) (by decide) (by decide) (by decide) (by decide) (by decide) (by decide) (by decide) (by decide) (by decide) (by decide) (by decide) (by decide) (by decide) (by decide) (by decide) (by decide) (by decide) (by decide) (by decide) (by decide) (by decide) (by decide) (by decide) (by decide) (by decide) (by decide) (by decide) (by decide) (by decide) (by decide) (by decide) (by decide) (by decide) (by decide) (by decide) (by decide) (by decide) (by decide) (by decide) (by decide) (by decide) (by decide) (by decide) (by decide) (by decide) (by decide) (by decide) (by decide) (by decide) (by decide) (by decide) (by decide) (by decide) (by decide) (by decide) (by decide) (by decide) (by decide) (by decide) (by decide) (by decide) (by decide) (by decide) (by decide) (by decide) (by decide) (by decide) (by decide) (by decide) _ (idxO_some hj35).2.2.2) rfl (by rw [e37]; exact (allLt96 (p := fun j34 => setMany (((cArr 96 (cInt .u8)) s6.2)) (0 + j34 * 1) [(.int .u8 (IntKind.u8.wrap ((w64 (32 + (Int.tmod b31 95))))))] = ((cArr 96 (cInt .u8)) (updN s6.2 j34 (IntKind.u8.wrap ((w64 (32 + (Int.tmod b31 95)))))))) rfl rfl rfl rfl rfl rfl rfl rfl rfl rfl rfl rfl rfl rfl rfl rfl rfl rfl rfl rfl rfl rfl rfl rfl rfl rfl rfl rfl rfl rfl rfl rfl rfl rfl rfl rfl rfl rfl rfl rfl rfl rfl rfl rfl rfl rfl rfl rfl rfl rfl rfl rfl rfl rfl rfl rfl rfl rfl rfl rfl rfl rfl rfl rfl rfl rfl rfl rfl rfl rfl rfl rfl rfl rfl rfl rfl rfl rfl rfl rfl rfl rfl rfl rfl rfl rfl rfl rfl rfl rfl rfl rfl rfl rfl rfl rfl _ (idxO_some hj35).2.2.2)) ?_
    refine .nil (.block (.code (.region (.add rfl rfl rfl (.move rfl rfl (.nil ?_))))))
    exact .nil (LPost.norm fun a w h => ⟨F_32, (Fz.t l_8 l_33), h.1.sub (.cons (k := 0) rfl (.cons (k := 2) rfl (.cons (k := 7) rfl (.nil _)))), h.2⟩)
  ·skip
   refine .exitOut rfl (LPost.exit fun a w h => ⟨rfl, F_7, l_8, h.1.sub (.cons (k := 2) rfl (.nil _)), h.2⟩)
 ·intro b38 hb0 hk e a w hD
  obtain ⟨rfl, F_39, l_40, hA⟩ := hD
  refine interp_exit rfl (GE.app ?_ hk a w hA)
  refine .code (.seq (.region (.indexAddrA rfl Tryz.underlying83 Tryz.sizeOf5 rfl rfl (j := 95) rfl (.letv (fun x41 e42 => ?_)))))
  refine .store (cs' := ((cArr 96 (cInt .u8)) x41)) Tryz.sizeOf5 rfl rfl rfl rfl (i := 0) rfl (Nat.le_of_ble_eq_true rfl) rfl (by rw [e42]; kernel_rfl) (.nil (.code (.seq (.region (.loadOA rfl Tryz.isAgg83 Tryz.sizeOf83 rfl (i := 0) rfl (vs := ((cArr 96 (cInt .u8)) x41)) (by kernel_rfl) rfl ?_)))))
  refine .store (cs' := ((cArr 96 (cInt .u8)) x41)) Tryz.sizeOf83 rfl rfl rfl rfl (i := 0) rfl (Nat.le_of_ble_eq_true rfl) rfl (setMany_all (by rfl)) (.nil (.code ?_))
  exact .ret0 Tryz.results45 (.agg rfl Tryz.isAgg83 Tryz.sizeOf83 (i := 0) rfl (vs' := ((cArr 96 (cInt .u8)) x41)) (by kernel_rfl) rfl (.nil)) (i := 1) rfl l_40 rfl
noncomputable def b_file_Write_2 (x20 : (Int × (List ApiBooked))) (s31 : (List (Nat → Int)) × Int) : Option (Ctl ((List (Nat → Int)) × Int) (((List (Nat → Int))))) :=
 if (decide (s31.2 < (x20.2.length : Int))) then ((idxL x20.2 s31.2).bind fun x38 => (m_file_rowOf x38).bind fun r_54 => (appO s31.1 ([r_54])).bind fun l_60 => some (.next (l_60, (w64 (s31.2 + 1))))) else (some (.done s31.1))
noncomputable def b_file_Write_3 (l_81 : (List (Nat → Int))) (s85 : Int × (List Int)) : Option (Ctl (Int × (List Int)) (((List Int)))) :=
 if (decide (s85.1 < (l_81.length : Int))) then ((idxL l_81 s85.1).bind fun x92 => (appO s85.2 (arrL 96 x92)).bind fun l_101 => some (.next ((w64 (s85.1 + 1)), l_101))) else (some (.done s85.2))
noncomputable def b_file_Write_1  (x20 : (Int × (List ApiBooked))) (s18 : (List Int)) : Option ((List Int)) :=
 (loopM (b_file_Write_2 x20) ([], 0)).bind fun b64 => (m_file_guard b64).bind fun r_73 => (appO b64 ([r_73])).bind fun l_81 => (loopM (b_file_Write_3 l_81) (0, s18)).bind fun b105 => some b105
noncomputable def m_file_Write (l_1 : (List ApiBooked)) : Option ((List Int) × Int) :=
 if (decide ((l_1.length : Int) > 1024)) then (some ([], 3)) else ((m_file_isBook l_1).bind fun r_8 => if (!r_8) then (some ([], 1)) else ((m_file_groups_Booked l_1 8).bind fun r_14 => (forL b_file_Write_1 r_14 ([])).bind fun s112 => some (s112, 0)))
set_option maxRecDepth 100000 in
set_option maxHeartbeats 4000000 in
theorem c_file_Write_own (F0 : Fz) (hT : TabsP F0) (l_1 : (List ApiBooked)) (p2 : Option Addr) (k3 : Nat) (h4 : RepSl 2 rApiBooked F0 p2 k3 l_1) : CTW Tryz.prog 17 [(.slice p2 l_1.length k3)].toArray F0 (m_file_Write l_1) (fun (r : ((List Int) × Int)) p0 k0 => .tuple #[(.slice p0 r.1.length k0), (.int .i64 r.2)]) (fun (r : ((List Int) × Int)) => r.1) 1 (cInt .u8) 5 := by
 refine CTO.enterM Tryz.func17 rfl Tryz.ntmps17 rfl fun r R => ?_
 unfold m_file_Write
 refine .seq (.region (.assign rfl rfl (.assign rfl rfl (.nil (.code (.seq (.block (.seq (.region (.move rfl rfl (.lenS rfl rfl Tryz.underlying22 rfl ?_)))))))))))
 refine .gtr rfl rfl rfl (.assign rfl rfl (.nil (.code (.cond rfl (fun hb5 => ?_) (fun hb5 => ?_)))))
 ·skip
  refine .seq (.region (.assign rfl rfl (.assign rfl rfl (.nil (.code ?_)))))
  exact .retQ (ret_postON [] Tryz.results17 trivial (.tmp rfl (.tmp rfl (.nil))) (i := 0) rfl Fz.r rfl rfl)
 ·skip
  refine .seq (.region (.move rfl rfl (.call0 rfl Tryz.call42 rfl rfl rfl (c_file_isBook _ l_1 p2 k3 h4) ?_)))
  rintro r_8 F_6 _ - l_7 rfl
  refine .not rfl rfl (.assign rfl rfl (.nil (.code (.cond rfl (fun hb9 => ?_) (fun hb9 => ?_)))))
  ·skip
   refine .seq (.region (.assign rfl rfl (.assign rfl rfl (.nil (.code ?_)))))
   exact .retQ (ret_postON [] Tryz.results17 trivial (.tmp rfl (.tmp rfl (.nil))) (i := 0) rfl l_7 rfl rfl)
  ·skip
   refine .skip (.block (.code (.seq (.region (.alloc (cs := [(.slice none 0 0)]) rfl Tryz.zeroValue25 rfl (fun b10 => ?_))))))
   refine .ownNil 1 (Ex (cInt .u8)) 5 (.nil (.code (.seq (.seq (.region (.move rfl rfl (.call0 rfl Tryz.call43 rfl rfl rfl (c_file_groups_Booked _ l_1 p2 k3 (h4.mono l_7) 8) ?_)))))))
   rintro r_14 F_12 _ - l_13 ⟨p15, k16, rfl, h17⟩
   refine .nil (.code (.block (.keep (.cons (k := 4) rfl (.cons (k := 21) rfl (.nil _))) (.ownUp 0 l_13 rfl (.rangeFor (τ := (List Int)) (fun s18 F_19 hs' => ∃ (p24 : Option Addr) (k25 : Nat), hs' = [ownSl 1 (Ex (cInt .u8)) F_19 5 p24 k25 s18, pt b10 (.cells [(.slice p24 s18.length k25)].toArray 25), R]) rfl h17 rfl (fun _ _ _ h => by obtain ⟨_, _, h, _⟩ := h; rw [h]; rfl) ⟨none, 0, rfl⟩ ?_ ?_)))))
   ·intro lp Lp F_19 F_23 x20 vs s18 ctl Rp hs' l_21 l_22 hx hI
    obtain ⟨p27, k28, rfl, h29⟩ := hx
    obtain ⟨p24, k25, rfl⟩ := hI
    unfold b_file_Write_1
    refine .keep (.cons (k := 4) rfl (.cons (k := 21) rfl (.cons (k := 22) rfl (.cons (k := 23) rfl (.nil _))))) (.region (.assign rfl rfl (.nil ?_)))
    refine GE.begin 0 rfl ?_
    refine .block (.seq (.region (.assign rfl rfl (.nil (.code (.seq (.seq (.region (.move rfl rfl (.lenS rfl rfl Tryz.underlying22 rfl (.move rfl rfl ?_)))))))))))
    refine .nil (.code (.block (.ownNil 96 (Ex (cArr 96 (cInt .u8))) 83 (.keep (.cons (k := 4) rfl (.cons (k := 7) rfl (.cons (k := 24) rfl (.cons (k := 25) rfl (.cons (k := 26) rfl (.nil _)))))) ?_))))
    refine .loop (fun (s31 : (List (Nat → Int)) × Int) a w => ∃ (F_32 : Fz) (p34 : Option Addr) (k35 : Nat), F_23 ≤ F_32 ∧ Hd 51 [] [(4, (.pointer (some ⟨b10, 0, none⟩))), (7, (.slice p34 s31.1.length k35)), (24, (.slice p27 x20.2.length k28)), (25, (.int .i64 (x20.2.length : Int))), (26, (.int .i64 s31.2))] F_32 [ownSl 96 (Ex (cArr 96 (cInt .u8))) F_32 83 p34 k35 s31.1, pt lp (lbusy Lp), Rp, ownSl 1 (Ex (cInt .u8)) F_19 5 p24 k25 s18, pt b10 (.cells [(.slice p24 s18.length k25)].toArray 25), R] a w) (fun b64 e a w => e = .exit 3 ∧ ∃ (F_65 : Fz) (p67 : Option Addr) (k68 : Nat), F_23 ≤ F_65 ∧ Hd 51 [] [(4, (.pointer (some ⟨b10, 0, none⟩))), (7, (.slice p67 b64.length k68))] F_65 [ownSl 96 (Ex (cArr 96 (cInt .u8))) F_65 83 p67 k68 b64, pt lp (lbusy Lp), Rp, ownSl 1 (Ex (cInt .u8)) F_19 5 p24 k25 s18, pt b10 (.cells [(.slice p24 s18.length k25)].toArray 25), R] a w) ?_ ?_ ?_
    ·exact fun a w h => ⟨F_23, none, 0, Fz.r, h.1.sub (.cons (k := 4) rfl (.cons (k := 7) rfl (.cons (k := 24) rfl (.cons (k := 25) rfl (.cons (k := 26) rfl (.nil _)))))), h.2⟩
    ·intro s31 ctl
     refine GC.ex (fun a w ⟨F_32, p34, k35, l_33, hA⟩ => ⟨_, hA, ?_⟩)
     unfold b_file_Write_2
     refine .seq (.region (.lss rfl rfl rfl (.nil (.code (.seq (.cond rfl (fun hb37 => ?_) (fun hb37 => ?_)))))))
     ·skip
      refine .skip (.code (.seq (.block (.seq (.region (.idx rfl Tryz.underlying22 Tryz.sizeOf41 (h29.mono l_33) rfl rfl (fun x38 b39 o40 T41 fr42 cs43 e44 hm45 hv46 => ?_)))))))
      obtain ⟨p48, k49, hv46, h50⟩ := hv46
      refine .loadFA rfl Tryz.isAgg41 Tryz.sizeOf41 rfl hm45 hv46 rfl (.alloc (cs := (cApiBooked (ApiBooked.mk 0 ([])) none 0)) rfl Tryz.zeroValue41 rfl (fun b51 => ?_))
      refine .store (cs' := (cApiBooked x38 p48 k49)) Tryz.sizeOf41 rfl rfl rfl rfl (i := 0) rfl (Nat.le_of_ble_eq_true rfl) rfl (setMany_all (by rfl)) (.nil (.code (.region (.move rfl rfl (.loadOA rfl Tryz.isAgg41 Tryz.sizeOf41 rfl (i := 0) rfl (vs := (cApiBooked x38 p48 k49)) (by kernel_rfl) rfl ?_)))))
      refine .call0 rfl Tryz.call44 rfl rfl rfl (c_file_rowOf _ (hT.mono (Fz.t l_7 (Fz.t l_13 (Fz.t l_21 (Fz.t l_22 l_33))))) x38 p48 k49 h50) ?_
      rintro r_54 F_52 _ - l_53 rfl
      refine .sliceLit (cs := [.int .u8 (r_54 0), .int .u8 (r_54 1), .int .u8 (r_54 2), .int .u8 (r_54 3), .int .u8 (r_54 4), .int .u8 (r_54 5), .int .u8 (r_54 6), .int .u8 (r_54 7), .int .u8 (r_54 8), .int .u8 (r_54 9), .int .u8 (r_54 10), .int .u8 (r_54 11), .int .u8 (r_54 12), .int .u8 (r_54 13), .int .u8 (r_54 14), .int .u8 (r_54 15), .int .u8 (r_54 16), .int .u8 (r_54 17), .int .u8 (r_54 18), .int .u8 (r_54 19), .int .u8 (r_54 20), .int .u8 (r_54 21), .int .u8 (r_54 22), .int .u8 (r_54 23), .int .u8 (r_54 24), .int .u8 (r_54 25), .int .u8 (r_54 26), .int .u8 (r_54 27), .int .u8 (r_54 28), .int .u8 (r_54 29), .int .u8 (r_54 30), .int .u8 (r_54 31), .int .u8 (r_54 32), .int .u8 (r_54 33), .int .u8 (r_54 34), .int .u8 (r_54 35), .int .u8 (r_54 36), .int .u8 (r_54 37), .int .u8 (r_54 38), .int .u8 (r_54 39), .int .u8 (r_54 40), .int .u8 (r_54 41), .int .u8 (r_54 42), .int .u8 (r_54 43), .int .u8 (r_54 44), .int .u8 (r_54 45), .int .u8 (r_54 46), .int .u8 (r_54 47), .int .u8 (r_54 48), .int .u8 (r_54 49), .int .u8 (r_54 50), .int .u8 (r_54 51), .int .u8 (r_54 52), .int .u8 (r_54 53), .int .u8 (r_54 54), .int .u8 (r_54 55), .int .u8 (r_54 56), .int .u8 (r_54 57), .int .u8 (r_54 58), .int .u8 (r_54 59), .int .u8 (r_54 60), .int .u8 (r_54 61), .int .u8 (r_54 62), .int .u8 (r_54 63), .int .u8 (r_54 64), .int .u8 (r_54 65), .int .u8 (r_54 66), .int .u8 (r_54 67), .int .u8 (r_54 68), .int .u8 (r_54 69), .int .u8 (r_54 70), .int .u8 (r_54 71), .int .u8 (r_54 72), .int .u8 (r_54 73), .int .u8 (r_54 74), .int .u8 (r_54 75), .int .u8 (r_54 76), .int .u8 (r_54 77), .int .u8 (r_54 78), .int .u8 (r_54 79), .int .u8 (r_54 80), .int .u8 (r_54 81), .int .u8 (r_54 82), .int .u8 (r_54 83), .int .u8 (r_54 84), .int .u8 (r_54 85), .int .u8 (r_54 86), .int .u8 (r_54 87), .int .u8 (r_54 88), .int .u8 (r_54 89), .int .u8 (r_54 90), .int .u8 (r_54 91), .int .u8 (r_54 92), .int .u8 (r_54 93), .int .u8 (r_54 94), .int .u8 (r_54 95)]) (zc := [.int .u8 ((fun (_ : Nat) => (0 : Int)) 0), .int .u8 ((fun (_ : Nat) => (0 : Int)) 1), .int .u8 ((fun (_ : Nat) => (0 : Int)) 2), .int .u8 ((fun (_ : Nat) => (0 : Int)) 3), .int .u8 ((fun (_ : Nat) => (0 : Int)) 4), .int .u8 ((fun (_ : Nat) => (0 : Int)) 5), .int .u8 ((fun (_ : Nat) => (0 : Int)) 6), .int .u8 ((fun (_ : Nat) => (0 : Int)) 7), .int .u8 ((fun (_ : Nat) => (0 : Int)) 8), .int .u8 ((fun (_ : Nat) => (0 : Int)) 9), .int .u8 ((fun (_ : Nat) => (0 : Int)) 10), .int .u8 ((fun (_ : Nat) => (0 : Int)) 11), .int .u8 ((fun (_ : Nat) => (0 : Int)) 12), .int .u8 ((fun (_ : Nat) => (0 : Int)) 13), .int .u8 ((fun (_ : Nat) => (0 : Int)) 14), .int .u8 ((fun (_ : Nat) => (0 : Int)) 15), .int .u8 ((fun (_ : Nat) => (0 : Int)) 16), .int .u8 ((fun (_ : Nat) => (0 : Int)) 17), .int .u8 ((fun (_ : Nat) => (0 : Int)) 18), .int .u8 ((fun (_ : Nat) => (0 : Int)) 19), .int .u8 ((fun (_ : Nat) => (0 : Int)) 20), .int .u8 ((fun (_ : Nat) => (0 : Int)) 21), .int .u8 ((fun (_ : Nat) => (0 : Int)) 22), .int .u8 ((fun (_ : Nat) => (0 : Int)) 23), .int .u8 ((fun (_ : Nat) => (0 : Int)) 24), .int .u8 ((fun (_ : Nat) => (0 : Int)) 25), .int .u8 ((fun (_ : Nat) => (0 : Int)) 26), .int .u8 ((fun (_ : Nat) => (0 : Int)) 27), .int .u8 ((fun (_ : Nat) => (0 : Int)) 28), .int .u8 ((fun (_ : Nat) => (0 : Int)) 29), .int .u8 ((fun (_ : Nat) => (0 : Int)) 30), .int .u8 ((fun (_ : Nat) => (0 : Int)) 31), .int .u8 ((fun (_ : Nat) => (0 : Int)) 32), .int .u8 ((fun (_ : Nat) => (0 : Int)) 33), .int .u8 ((fun (_ : Nat) => (0 : Int)) 34), .int .u8 ((fun (_ : Nat) => (0 : Int)) 35), .int .u8 ((fun (_ : Nat) => (0 : Int)) 36), .int .u8 ((fun (_ : Nat) => (0 : Int)) 37), .int .u8 ((fun (_ : Nat) => (0 : Int)) 38), .int .u8 ((fun (_ : Nat) => (0 : Int)) 39), .int .u8 ((fun (_ : Nat) => (0 : Int)) 40), .int .u8 ((fun (_ : Nat) => (0 : Int)) 41), .int .u8 ((fun (_ : Nat) => (0 : Int)) 42), .int .u8 ((fun (_ : Nat) => (0 : Int)) 43), .int .u8 ((fun (_ : Nat) => (0 : Int)) 44), .int .u8 ((fun (_ : Nat) => (0 : Int)) 45), .int .u8 ((fun (_ : Nat) => (0 : Int)) 46), .int .u8 ((fun (_ : Nat) => (0 : Int)) 47), .int .u8 ((fun (_ : Nat) => (0 : Int)) 48), .int .u8 ((fun (_ : Nat) => (0 : Int)) 49), .int .u8 ((fun (_ : Nat) => (0 : Int)) 50), .int .u8 ((fun (_ : Nat) => (0 : Int)) 51), .int .u8 ((fun (_ : Nat) => (0 : Int)) 52), .int .u8 ((fun (_ : Nat) => (0 : Int)) 53), .int .u8 ((fun (_ : Nat) => (0 : Int)) 54), .int .u8 ((fun (_ : Nat) => (0 : Int)) 55), .int .u8 ((fun (_ : Nat) => (0 : Int)) 56), .int .u8 ((fun (_ : Nat) => (0 : Int)) 57), .int .u8 ((fun (_ : Nat) => (0 : Int)) 58), .int .u8 ((fun (_ : Nat) => (0 : Int)) 59), .int .u8 ((fun (_ : Nat) => (0 : Int)) 60), .int .u8 ((fun (_ : Nat) => (0 : Int)) 61), .int .u8 ((fun (_ : Nat) => (0 : Int)) 62), .int .u8 ((fun (_ : Nat) => (0 : Int)) 63), .int .u8 ((fun (_ : Nat) => (0 : Int)) 64), .int .u8 ((fun (_ : Nat) => (0 : Int)) 65), .int .u8 ((fun (_ : Nat) => (0 : Int)) 66), .int .u8 ((fun (_ : Nat) => (0 : Int)) 67), .int .u8 ((fun (_ : Nat) => (0 : Int)) 68), .int .u8 ((fun (_ : Nat) => (0 : Int)) 69), .int .u8 ((fun (_ : Nat) => (0 : Int)) 70), .int .u8 ((fun (_ : Nat) => (0 : Int)) 71), .int .u8 ((fun (_ : Nat) => (0 : Int)) 72), .int .u8 ((fun (_ : Nat) => (0 : Int)) 73), .int .u8 ((fun (_ : Nat) => (0 : Int)) 74), .int .u8 ((fun (_ : Nat) => (0 : Int)) 75), .int .u8 ((fun (_ : Nat) => (0 : Int)) 76), .int .u8 ((fun (_ : Nat) => (0 : Int)) 77), .int .u8 ((fun (_ : Nat) => (0 : Int)) 78), .int .u8 ((fun (_ : Nat) => (0 : Int)) 79), .int .u8 ((fun (_ : Nat) => (0 : Int)) 80), .int .u8 ((fun (_ : Nat) => (0 : Int)) 81), .int .u8 ((fun (_ : Nat) => (0 : Int)) 82), .int .u8 ((fun (_ : Nat) => (0 : Int)) 83), .int .u8 ((fun (_ : Nat) => (0 : Int)) 84), .int .u8 ((fun (_ : Nat) => (0 : Int)) 85), .int .u8 ((fun (_ : Nat) => (0 : Int)) 86), .int .u8 ((fun (_ : Nat) => (0 : Int)) 87), .int .u8 ((fun (_ : Nat) => (0 : Int)) 88), .int .u8 ((fun (_ : Nat) => (0 : Int)) 89), .int .u8 ((fun (_ : Nat) => (0 : Int)) 90), .int .u8 ((fun (_ : Nat) => (0 : Int)) 91), .int .u8 ((fun (_ : Nat) => (0 : Int)) 92), .int .u8 ((fun (_ : Nat) => (0 : Int)) 93), .int .u8 ((fun (_ : Nat) => (0 : Int)) 94), .int .u8 ((fun (_ : Nat) => (0 : Int)) 95)]) rfl Tryz.underlying81 Tryz.sizeOf83 Tryz.zeroValue83 rfl rfl rfl (by kernel_rfl) (by kernel_rfl) (fun b55 F_56 l_57 hb58 => ?_)
      have h59 : RepSl 96 (Ex (cArr 96 (cInt .u8))) F_56 (some ⟨b55, 0, none⟩) 1 ([r_54]) := RepSl.ofRow hb58 (.cons ok_t83.mono rfl .nil) rfl rfl
      refine .append 1 ok_t83 (Fz.t l_53 l_57) rfl Tryz.underlying81 Tryz.underlying81 rfl rfl rfl h59 rfl rfl (fun l_60 p61 k62 e63 => ?_)
      refine .assign rfl rfl (.nil (.block (.code (.region (.add rfl rfl rfl (.move rfl rfl (.nil (.drop 0 ?_))))))))
      exact .nil (LPost.norm fun a w h => ⟨F_56, p61, k62, (Fz.t l_33 (Fz.t l_53 l_57)), h.1.sub (.cons (k := 4) rfl (.cons (k := 7) rfl (.cons (k := 24) rfl (.cons (k := 25) rfl (.cons (k := 26) rfl (.nil _)))))), h.2⟩)
     ·skip
      refine .exitOut rfl (LPost.exit fun a w h => ⟨rfl, F_32, p34, k35, l_33, h.1.sub (.cons (k := 4) rfl (.cons (k := 7) rfl (.nil _))), h.2⟩)
    ·intro b64 hb0 hk e a w hD
     obtain ⟨rfl, F_65, p67, k68, l_66, hA⟩ := hD
     refine interp_exit rfl (GE.app ?_ hk a w hA)
     refine .code (.seq (.region (.move rfl rfl (.move rfl rfl (.callLend 0 rfl rfl Tryz.call45 rfl rfl rfl (fun F_70 l_71 h72 => (c_file_guard _ b64 p67 k68 h72)) (fun r_73 F_74 _ l_75 => ?_))))))
     refine .sliceLit (cs := [.int .u8 (r_73 0), .int .u8 (r_73 1), .int .u8 (r_73 2), .int .u8 (r_73 3), .int .u8 (r_73 4), .int .u8 (r_73 5), .int .u8 (r_73 6), .int .u8 (r_73 7), .int .u8 (r_73 8), .int .u8 (r_73 9), .int .u8 (r_73 10), .int .u8 (r_73 11), .int .u8 (r_73 12), .int .u8 (r_73 13), .int .u8 (r_73 14), .int .u8 (r_73 15), .int .u8 (r_73 16), .int .u8 (r_73 17), .int .u8 (r_73 18), .int .u8 (r_73 19), .int .u8 (r_73 20), .int .u8 (r_73 21), .int .u8 (r_73 22), .int .u8 (r_73 23), .int .u8 (r_73 24), .int .u8 (r_73 25), .int .u8 (r_73 26), .int .u8 (r_73 27), .int .u8 (r_73 28), .int .u8 (r_73 29), .int .u8 (r_73 30), .int .u8 (r_73 31), .int .u8 (r_73 32), .int .u8 (r_73 33), .int .u8 (r_73 34), .int .u8 (r_73 35), .int .u8 (r_73 36), .int .u8 (r_73 37), .int .u8 (r_73 38), .int .u8 (r_73 39), .int .u8 (r_73 40), .int .u8 (r_73 41), .int .u8 (r_73 42), .int .u8 (r_73 43), .int .u8 (r_73 44), .int .u8 (r_73 45), .int .u8 (r_73 46), .int .u8 (r_73 47), .int .u8 (r_73 48), .int .u8 (r_73 49), .int .u8 (r_73 50), .int .u8 (r_73 51), .int .u8 (r_73 52), .int .u8 (r_73 53), .int .u8 (r_73 54), .int .u8 (r_73 55), .int .u8 (r_73 56), .int .u8 (r_73 57), .int .u8 (r_73 58), .int .u8 (r_73 59), .int .u8 (r_73 60), .int .u8 (r_73 61), .int .u8 (r_73 62), .int .u8 (r_73 63), .int .u8 (r_73 64), .int .u8 (r_73 65), .int .u8 (r_73 66), .int .u8 (r_73 67), .int .u8 (r_73 68), .int .u8 (r_73 69), .int .u8 (r_73 70), .int .u8 (r_73 71), .int .u8 (r_73 72), .int .u8 (r_73 73), .int .u8 (r_73 74), .int .u8 (r_73 75), .int .u8 (r_73 76), .int .u8 (r_73 77), .int .u8 (r_73 78), .int .u8 (r_73 79), .int .u8 (r_73 80), .int .u8 (r_73 81), .int .u8 (r_73 82), .int .u8 (r_73 83), .int .u8 (r_73 84), .int .u8 (r_73 85), .int .u8 (r_73 86), .int .u8 (r_73 87), .int .u8 (r_73 88), .int .u8 (r_73 89), .int .u8 (r_73 90), .int .u8 (r_73 91), .int .u8 (r_73 92), .int .u8 (r_73 93), .int .u8 (r_73 94), .int .u8 (r_73 95)]) (zc := [.int .u8 ((fun (_ : Nat) => (0 : Int)) 0), .int .u8 ((fun (_ : Nat) => (0 : Int)) 1), .int .u8 ((fun (_ : Nat) => (0 : Int)) 2), .int .u8 ((fun (_ : Nat) => (0 : Int)) 3), .int .u8 ((fun (_ : Nat) => (0 : Int)) 4), .int .u8 ((fun (_ : Nat) => (0 : Int)) 5), .int .u8 ((fun (_ : Nat) => (0 : Int)) 6), .int .u8 ((fun (_ : Nat) => (0 : Int)) 7), .int .u8 ((fun (_ : Nat) => (0 : Int)) 8), .int .u8 ((fun (_ : Nat) => (0 : Int)) 9), .int .u8 ((fun (_ : Nat) => (0 : Int)) 10), .int .u8 ((fun (_ : Nat) => (0 : Int)) 11), .int .u8 ((fun (_ : Nat) => (0 : Int)) 12), .int .u8 ((fun (_ : Nat) => (0 : Int)) 13), .int .u8 ((fun (_ : Nat) => (0 : Int)) 14), .int .u8 ((fun (_ : Nat) => (0 : Int)) 15), .int .u8 ((fun (_ : Nat) => (0 : Int)) 16), .int .u8 ((fun (_ : Nat) => (0 : Int)) 17), .int .u8 ((fun (_ : Nat) => (0 : Int)) 18), .int .u8 ((fun (_ : Nat) => (0 : Int)) 19), .int .u8 ((fun (_ : Nat) => (0 : Int)) 20), .int .u8 ((fun (_ : Nat) => (0 : Int)) 21), .int .u8 ((fun (_ : Nat) => (0 : Int)) 22), .int .u8 ((fun (_ : Nat) => (0 : Int)) 23), .int .u8 ((fun (_ : Nat) => (0 : Int)) 24), .int .u8 ((fun (_ : Nat) => (0 : Int)) 25), .int .u8 ((fun (_ : Nat) => (0 : Int)) 26), .int .u8 ((fun (_ : Nat) => (0 : Int)) 27), .int .u8 ((fun (_ : Nat) => (0 : Int)) 28), .int .u8 ((fun (_ : Nat) => (0 : Int)) 29), .int .u8 ((fun (_ : Nat) => (0 : Int)) 30), .int .u8 ((fun (_ : Nat) => (0 : Int)) 31), .int .u8 ((fun (_ : Nat) => (0 : Int)) 32), .int .u8 ((fun (_ : Nat) => (0 : Int)) 33), .int .u8 ((fun (_ : Nat) => (0 : Int)) 34), .int .u8 ((fun (_ : Nat) => (0 : Int)) 35), .int .u8 ((fun (_ : Nat) => (0 : Int)) 36), .int .u8 ((fun (_ : Nat) => (0 : Int)) 37), .int .u8 ((fun (_ : Nat) => (0 : Int)) 38), .int .u8 ((fun (_ : Nat) => (0 : Int)) 39), .int .u8 ((fun (_ : Nat) => (0 : Int)) 40), .int .u8 ((fun (_ : Nat) => (0 : Int)) 41), .int .u8 ((fun (_ : Nat) => (0 : Int)) 42), .int .u8 ((fun (_ : Nat) => (0 : Int)) 43), .int .u8 ((fun (_ : Nat) => (0 : Int)) 44), .int .u8 ((fun (_ : Nat) => (0 : Int)) 45), .int .u8 ((fun (_ : Nat) => (0 : Int)) 46), .int .u8 ((fun (_ : Nat) => (0 : Int)) 47), .int .u8 ((fun (_ : Nat) => (0 : Int)) 48), .int .u8 ((fun (_ : Nat) => (0 : Int)) 49), .int .u8 ((fun (_ : Nat) => (0 : Int)) 50), .int .u8 ((fun (_ : Nat) => (0 : Int)) 51), .int .u8 ((fun (_ : Nat) => (0 : Int)) 52), .int .u8 ((fun (_ : Nat) => (0 : Int)) 53), .int .u8 ((fun (_ : Nat) => (0 : Int)) 54), .int .u8 ((fun (_ : Nat) => (0 : Int)) 55), .int .u8 ((fun (_ : Nat) => (0 : Int)) 56), .int .u8 ((fun (_ : Nat) => (0 : Int)) 57), .int .u8 ((fun (_ : Nat) => (0 : Int)) 58), .int .u8 ((fun (_ : Nat) => (0 : Int)) 59), .int .u8 ((fun (_ : Nat) => (0 : Int)) 60), .int .u8 ((fun (_ : Nat) => (0 : Int)) 61), .int .u8 ((fun (_ : Nat) => (0 : Int)) 62), .int .u8 ((fun (_ : Nat) => (0 : Int)) 63), .int .u8 ((fun (_ : Nat) => (0 : Int)) 64), .int .u8 ((fun (_ : Nat) => (0 : Int)) 65), .int .u8 ((fun (_ : Nat) => (0 : Int)) 66), .int .u8 ((fun (_ : Nat) => (0 : Int)) 67), .int .u8 ((fun (_ : Nat) => (0 : Int)) 68), .int .u8 ((fun (_ : Nat) => (0 : Int)) 69), .int .u8 ((fun (_ : Nat) => (0 : Int)) 70), .int .u8 ((fun (_ : Nat) => (0 : Int)) 71), .int .u8 ((fun (_ : Nat) => (0 : Int)) 72), .int .u8 ((fun (_ : Nat) => (0 : Int)) 73), .int .u8 ((fun (_ : Nat) => (0 : Int)) 74), .int .u8 ((fun (_ : Nat) => (0 : Int)) 75), .int .u8 ((fun (_ : Nat) => (0 : Int)) 76), .int .u8 ((fun (_ : Nat) => (0 : Int)) 77), .int .u8 ((fun (_ : Nat) => (0 : Int)) 78), .int .u8 ((fun (_ : Nat) => (0 : Int)) 79), .int .u8 ((fun (_ : Nat) => (0 : Int)) 80), .int .u8 ((fun (_ : Nat) => (0 : Int)) 81), .int .u8 ((fun (_ : Nat) => (0 : Int)) 82), .int .u8 ((fun (_ : Nat) => (0 : Int)) 83), .int .u8 ((fun (_ : Nat) => (0 : Int)) 84), .int .u8 ((fun (_ : Nat) => (0 : Int)) 85), .int .u8 ((fun (_ : Nat) => (0 : Int)) 86), .int .u8 ((fun (_ : Nat) => (0 : Int)) 87), .int .u8 ((fun (_ : Nat) => (0 : Int)) 88), .int .u8 ((fun (_ : Nat) => (0 : Int)) 89), .int .u8 ((fun (_ : Nat) => (0 : Int)) 90), .int .u8 ((fun (_ : Nat) => (0 : Int)) 91), .int .u8 ((fun (_ : Nat) => (0 : Int)) 92), .int .u8 ((fun (_ : Nat) => (0 : Int)) 93), .int .u8 ((fun (_ : Nat) => (0 : Int)) 94), .int .u8 ((fun (_ : Nat) => (0 : Int)) 95)]) rfl Tryz.underlying81 Tryz.sizeOf83 Tryz.zeroValue83 rfl rfl rfl (by kernel_rfl) (by kernel_rfl) (fun b76 F_77 l_78 hb79 => ?_)
     have h80 : RepSl 96 (Ex (cArr 96 (cInt .u8))) F_77 (some ⟨b76, 0, none⟩) 1 ([r_73]) := RepSl.ofRow hb79 (.cons ok_t83.mono rfl .nil) rfl rfl
     refine .append 0 ok_t83 (Fz.t l_75 l_78) rfl Tryz.underlying81 Tryz.underlying81 rfl rfl rfl h80 rfl rfl (fun l_81 p82 k83 e84 => ?_)
     refine .lenS rfl rfl Tryz.underlying81 rfl (.move rfl rfl (.nil (.code (.block (.keep (.cons (k := 4) rfl (.cons (k := 40) rfl (.cons (k := 41) rfl (.cons (k := 42) rfl (.nil _))))) (.ownUp 3 (Fz.t l_22 (Fz.t l_66 (Fz.t l_75 l_78))) rfl ?_))))))
     refine .loop (fun (s85 : Int × (List Int)) a w => ∃ (F_86 : Fz) (p88 : Option Addr) (k89 : Nat), F_77 ≤ F_86 ∧ Hd 51 [] [(4, (.pointer (some ⟨b10, 0, none⟩))), (40, (.slice p82 l_81.length k83)), (41, (.int .i64 (l_81.length : Int))), (42, (.int .i64 s85.1))] F_86 [ownSl 96 (Ex (cArr 96 (cInt .u8))) F_77 83 p82 k83 l_81, pt lp (lbusy Lp), Rp, ownSl 1 (Ex (cInt .u8)) F_86 5 p88 k89 s85.2, pt b10 (.cells [(.slice p88 s85.2.length k89)].toArray 25), R] a w) (fun b105 e a w => e = .exit 5 ∧ ∃ (F_106 : Fz) (p108 : Option Addr) (k109 : Nat), F_77 ≤ F_106 ∧ Hd 51 [] [] F_106 [ownSl 96 (Ex (cArr 96 (cInt .u8))) F_77 83 p82 k83 l_81, pt lp (lbusy Lp), Rp, ownSl 1 (Ex (cInt .u8)) F_106 5 p108 k109 b105, pt b10 (.cells [(.slice p108 b105.length k109)].toArray 25), R] a w) ?_ ?_ ?_
     ·exact fun a w h => ⟨F_77, p24, k25, Fz.r, h.1.sub (.cons (k := 4) rfl (.cons (k := 40) rfl (.cons (k := 41) rfl (.cons (k := 42) rfl (.nil _))))), h.2⟩
     ·intro s85 ctl
      refine GC.ex (fun a w ⟨F_86, p88, k89, l_87, hA⟩ => ⟨_, hA, ?_⟩)
      unfold b_file_Write_3
      refine .seq (.region (.lss rfl rfl rfl (.nil (.code (.seq (.cond rfl (fun hb91 => ?_) (fun hb91 => ?_)))))))
      ·skip
       refine .skip (.code (.seq (.block (.seq (.region (.bind (fun x92 e93 => ?_)))))))
       refine .ownAddr 0 rfl e93 (fun b94 hp95 => ?_)
       refine .idxOwn rfl Tryz.underlying81 Tryz.sizeOf83 hp95 e93 rfl rfl (.loadOwnA (off := 0) (Φ := fun us => us = ((cArr 96 (cInt .u8)) x92)) 0 rfl l_87 rfl Tryz.isAgg83 Tryz.sizeOf83 hp95 e93 rfl rfl rfl (fun vs h => ⟨_, by subst h; rfl, rfl, rfl⟩) (fun us hv => ?_))
       subst hv
       refine .alloc (cs := ((cArr 96 (cInt .u8)) (fun (_ : Nat) => (0 : Int)))) rfl Tryz.zeroValue83 rfl (fun b96 => ?_)
       refine .store (cs' := ((cArr 96 (cInt .u8)) x92)) Tryz.sizeOf83 rfl rfl rfl rfl (i := 0) rfl (Nat.le_of_ble_eq_true rfl) rfl (setMany_all (by rfl)) (.nil (.code (.freeze 0 rfl (fun F_97 l_98 hb99 => ?_))))
       refine .keep (.cons (k := 4) rfl (.cons (k := 11) rfl (.cons (k := 40) rfl (.cons (k := 41) rfl (.cons (k := 42) rfl (.nil _)))))) (.drawZ 2 mixedOK (by kernel_rfl) (.loadO rfl Tryz.isAgg25 rfl (i := 4) rfl rfl ?_))
       have h100 : RepSl 1 (Ex (cInt .u8)) F_97 (some ⟨b96, 0, none⟩) 96 (arrL 96 x92) := RepSl.ofArr (cs := ((cArr 96 (cInt .u8)) x92)) hb99 (arrL_len _ _) rfl (arrL_all (allLt96 (p := fun j => ∀ F', F_97 ≤ F' → ((((cArr 96 (cInt .u8)) x92)).drop (0 + j * 1)).take 1 = (cInt .u8) (x92 j)) (fun _ _ => rfl) (fun _ _ => rfl) (fun _ _ => rfl) (fun _ _ => rfl) (fun _ _ => rfl) (fun _ _ => rfl) (fun _ _ => rfl) (fun _ _ => rfl) (fun _ _ => rfl) (fun _ _ => rfl) (fun _ _ => rfl) (fun _ _ => rfl) (fun _ _ => rfl) (fun _ _ => rfl) (fun _ _ => rfl) (fun _ _ => rfl) (fun _ _ => rfl) (fun _ _ => rfl) (fun _ _ => rfl) (fun _ _ => rfl) (fun _ _ => rfl) (fun _ _ => rfl) (fun _ _ => rfl) (fun _ _ => rfl) (fun _ _ => rfl) (fun _ _ => rfl) (fun _ _ => rfl) (fun _ _ => rfl) (fun _ _ => rfl) (fun _ _ => rfl) (fun _ _ => rfl) (fun _ _ => rfl) (fun _ _ => rfl) (fun _ _ => rfl) (fun _ _ => rfl) (fun _ _ => rfl) (fun _ _ => rfl) (fun _ _ => rfl) (fun _ _ => rfl) (fun _ _ => rfl) (fun _ _ => rfl) (fun _ _ => rfl) (fun _ _ => rfl) (fun _ _ => rfl) (fun _ _ => rfl) (fun _ _ => rfl) (fun _ _ => rfl) (fun _ _ => rfl) (fun _ _ => rfl) (fun _ _ => rfl) (fun _ _ => rfl) (fun _ _ => rfl) (fun _ _ => rfl) (fun _ _ => rfl) (fun _ _ => rfl) (fun _ _ => rfl) (fun _ _ => rfl) (fun _ _ => rfl) (fun _ _ => rfl) (fun _ _ => rfl) (fun _ _ => rfl) (fun _ _ => rfl) (fun _ _ => rfl) (fun _ _ => rfl) (fun _ _ => rfl) (fun _ _ => rfl) (fun _ _ => rfl) (fun _ _ => rfl) (fun _ _ => rfl) (fun _ _ => rfl) (fun _ _ => rfl) (fun _ _ => rfl) (fun _ _ => rfl) (fun _ _ => rfl) (fun _ _ => rfl) (fun _ _ => rfl) (fun _ _ => rfl) (fun _ _ => rfl) (fun _ _ => rfl) (fun _ _ => rfl) (fun _ _ => rfl) (fun _ _ => rfl) (fun _ _ => rfl) (fun _ _ => rfl) (fun _ _ => rfl) (fun _ _ => rfl) (fun _ _ => rfl) (fun _ _ => rfl) (fun _ _ => rfl) (fun _ _ => rfl) (fun _ _ => rfl) (fun _ _ => rfl) (fun _ _ => rfl) (fun _ _ => rfl) (fun _ _ => rfl) (fun _ _ => rfl)))
       refine .sliceArr rfl Tryz.underlying83 Tryz.sizeOf5 rfl rfl ?_
       skip
       refine .pend (.append 3 ok_t5 l_98 rfl Tryz.underlying25 Tryz.underlying25 rfl rfl rfl h100 rfl rfl (fun l_101 p102 k103 e104 => ?_))
       refine .store (cs' := [(.slice p102 l_101.length k103)]) Tryz.sizeOf25 rfl rfl rfl rfl (i := 4) rfl (Nat.le_of_ble_eq_true rfl) rfl rfl (.nil (.block (.code (.region (.add rfl rfl rfl (.move rfl rfl (.nil ?_)))))))
       exact .nil (LPost.norm fun a w h => ⟨F_97, p102, k103, (Fz.t l_87 l_98), h.1.sub (.cons (k := 4) rfl (.cons (k := 40) rfl (.cons (k := 41) rfl (.cons (k := 42) rfl (.nil _))))), h.2⟩)
      ·skip
       refine .exitOut rfl (LPost.exit fun a w h => ⟨rfl, F_86, p88, k89, l_87, h.1.sub (.nil _), h.2⟩)
     ·intro b105 hb0 hk e a w hD
      obtain ⟨rfl, F_106, p108, k109, l_107, hA⟩ := hD
      refine interp_exit rfl (GE.app ?_ hk a w hA)
      refine .block (.drop 0 ?_)
      exact .nil (RP.normF (Fz.t l_66 (Fz.t l_75 (Fz.t l_78 l_107))) ⟨p108, k109, rfl⟩ rfl)
   ·intro q111 F_113 F_114 s112 hs' l_115 l_116 he hI
    obtain ⟨p117, k118, rfl⟩ := hI
    refine .block (.code (.seq (.region (.loadO rfl Tryz.isAgg25 rfl (i := 2) rfl rfl (.assign rfl rfl (.assign rfl rfl (.nil (.code (.ownUp 1 l_116 rfl ?_)))))))))
    exact .retQ (ret_postOM (p117, k118) [1, 2] [(0, q111)] Tryz.results17 ⟨rfl, trivial⟩ (.tmp rfl (.tmp rfl (.nil))) rfl (Fz.t l_7 (Fz.t l_13 (Fz.t l_115 l_116))) rfl)
theorem c_file_Write (F0 : Fz) (hT : TabsP F0) (l_1 : (List ApiBooked)) (p2 : Option Addr) (k3 : Nat) (h4 : RepSl 2 rApiBooked F0 p2 k3 l_1) : CT0 Tryz.prog 17 [(.slice p2 l_1.length k3)].toArray F0 (m_file_Write l_1) (fun r F v => ∃ (p0 : Option Addr) (k0 : Nat), v = .tuple #[(.slice p0 r.1.length k0), (.int .i64 r.2)] ∧ RepSl 1 (Ex (cInt .u8)) F p0 k0 r.1) :=
 (c_file_Write_own F0 hT l_1 p2 k3 h4).frozen
noncomputable def b_file_split_1 (b1 : (List Int)) (n_16 : Nat) (s19 : (List (Nat → Int)) × Int) : Option (Ctl ((List (Nat → Int)) × Int) (((List (Nat → Int))))) :=
 if (decide (s19.2 < ((List.replicate n_16 (fun (_ : Nat) => (0 : Int))).length : Int))) then ((sliceL b1 (w64 (s19.2 * 96)) b1.length).bind fun l_26 => (arrO 96 l_26).bind fun f31 => (idxL s19.1 s19.2).bind fun x40 => bindv (List.set s19.1 (s19.2).toNat (f31)) fun l_44 => some (.next (l_44, (w64 (s19.2 + 1))))) else (some (.done s19.1))
noncomputable def m_file_split (b1 : (List Int)) : Option ((List (Nat → Int)) × Bool) :=
 bindv (w64 (Int.tdiv (b1.length : Int) 96)) fun n_5 => if ((((Int.tmod (b1.length : Int) 96) != 0) || ((Int.tmod n_5 9) == 1)) || (decide (n_5 > 1152))) then (some ([], false)) else ((mkO n_5 n_5).bind fun n_16 => (loopM (b_file_split_1 b1 n_16) ((List.replicate n_16 (fun (_ : Nat) => (0 : Int))), 0)).bind fun b47 => some (b47, true))
set_option maxRecDepth 100000 in
set_option maxHeartbeats 4000000 in
theorem c_file_split (F0 : Fz) (b1 : (List Int)) (p2 : Option Addr) (k3 : Nat) (h4 : RepSl 1 (Ex (cInt .u8)) F0 p2 k3 b1) : CT0 Tryz.prog 49 [(.slice p2 b1.length k3)].toArray F0 (m_file_split b1) (fun r F v => ∃ (p0 : Option Addr) (k0 : Nat), v = .tuple #[(.slice p0 r.1.length k0), (.bool r.2)] ∧ RepSl 96 (Ex (cArr 96 (cInt .u8))) F p0 k0 r.1) := by
 refine CT0.enter Tryz.func49 rfl Tryz.ntmps49 rfl fun r R => ?_
 unfold m_file_split
 refine .seq (.region (.assign rfl rfl (.assign rfl rfl (.nil (.code (.seq (.region (.move rfl rfl (.lenS rfl rfl Tryz.underlying25 rfl (.quoC rfl (by decide) rfl rfl (.assignL rfl rfl (fun n_5 e6 => ?_))))))))))))
 refine .nil (.code (.seq (.seq (.region (.move rfl rfl (.lenS rfl rfl Tryz.underlying25 rfl (.remC rfl (by decide) rfl rfl (.neq rfl rfl rfl (.move rfl rfl (.orP (b := ((Int.tmod (b1.length : Int) 96) != 0)) (b' := ((Int.tmod n_5 9) == 1)) 4 18 (fun hb7 => ?_) (fun hb8 => ?_) (fun F_9 l_10 => ?_)))))))))))
 ·skip
  refine .onH hb7 rfl rfl (.move rfl rfl (.onH hb7 rfl rfl (.remC rfl (by decide) rfl rfl (.onH hb7 rfl rfl (.eql rfl rfl rfl (.pickFH hb7 rfl rfl rfl ?_))))))
  exact .fin 4 rfl rfl (by kernel_rfl) Fz.r
 ·skip
  refine .offH hb8 rfl rfl rfl (.offH hb8 rfl rfl rfl (.offH hb8 rfl rfl rfl (.pickTH hb8 rfl rfl rfl ?_)))
  exact .fin 4 rfl rfl (by kernel_rfl) Fz.r
 refine .move rfl rfl (.orP (b := (((Int.tmod (b1.length : Int) 96) != 0) || ((Int.tmod n_5 9) == 1))) (b' := (decide (n_5 > 1152))) 3 22 (fun hb11 => ?_) (fun hb12 => ?_) (fun F_13 l_14 => ?_))
 ·skip
  refine .onH hb11 rfl rfl (.move rfl rfl (.onH hb11 rfl rfl (.gtr rfl rfl rfl (.pickFH hb11 rfl rfl rfl ?_))))
  exact .fin 3 rfl rfl (by kernel_rfl) Fz.r
 ·skip
  refine .offH hb12 rfl rfl rfl (.offH hb12 rfl rfl rfl (.pickTH hb12 rfl rfl rfl ?_))
  exact .fin 3 rfl rfl (by kernel_rfl) Fz.r
 refine .nil (.code (.cond rfl (fun hb15 => ?_) (fun hb15 => ?_)))
 ·skip
  refine .seq (.region (.assign rfl rfl (.assign rfl rfl (.nil (.code ?_)))))
  exact .ret0 Tryz.results49 (.tmp rfl (.tmp rfl (.nil))) (i := 0) rfl (Fz.t l_10 l_14) ⟨none, 0, rfl, (RepSl.nil.mono (Fz.t l_10 l_14))⟩
 ·skip
  refine .skip (.code (.seq (.region (.move rfl rfl (.makeSlice (z := (fun (_ : Nat) => (0 : Int))) ok_t83 rfl Tryz.underlying81 Tryz.zeroValue83 (fun _ _ => rfl) rfl rfl (fun n_16 b17 _ => ?_))))))
  refine .assign rfl rfl (.nil (.code (.seq (.seq (.region (.move rfl rfl (.lenS rfl rfl Tryz.underlying81 rfl (.move rfl rfl (.nil (.code (.block ?_)))))))))))
  refine .keep (.cons (k := 0) rfl (.cons (k := 5) rfl (.cons (k := 26) rfl (.cons (k := 27) rfl (.nil _))))) ?_
  refine .loop (fun (s19 : (List (Nat → Int)) × Int) a w => ∃ (F_20 : Fz) (p22 : Option Addr) (k23 : Nat), F_13 ≤ F_20 ∧ Hd 41 [] [(0, (.slice p2 b1.length k3)), (5, (.slice p22 s19.1.length k23)), (26, (.int .i64 ((List.replicate n_16 (fun (_ : Nat) => (0 : Int))).length : Int))), (27, (.int .i64 s19.2))] F_20 [ownSl 96 (Ex (cArr 96 (cInt .u8))) F_20 83 p22 k23 s19.1, R] a w) (fun b47 e a w => e = .exit 0 ∧ ∃ (F_48 : Fz) (p50 : Option Addr) (k51 : Nat), F_13 ≤ F_48 ∧ Hd 41 [] [(5, (.slice p50 b47.length k51))] F_48 [ownSl 96 (Ex (cArr 96 (cInt .u8))) F_48 83 p50 k51 b47, R] a w) ?_ ?_ ?_
  ·exact fun a w h => ⟨F_13, (some ⟨b17, 0, none⟩), (n_5 : Int).toNat, Fz.r, h.1.sub (.cons (k := 0) rfl (.cons (k := 5) rfl (.cons (k := 26) rfl (.cons (k := 27) rfl (.nil _))))), h.2⟩
  ·intro s19 ctl
   refine GC.ex (fun a w ⟨F_20, p22, k23, l_21, hA⟩ => ⟨_, hA, ?_⟩)
   unfold b_file_split_1
   refine .seq (.region (.lss rfl rfl rfl (.nil (.code (.seq (.cond rfl (fun hb25 => ?_) (fun hb25 => ?_)))))))
   ·skip
    refine .skip (.code (.seq (.block (.seq (.region (.move rfl rfl (.assign rfl rfl (.nil (.code (.region (.move rfl rfl ?_)))))))))))
    refine .move rfl rfl (.move rfl rfl (.move rfl rfl (.mul rfl rfl rfl (.sliceLo rfl Tryz.underlying25 Tryz.sizeOf5 (h4.mono (Fz.t l_10 (Fz.t l_14 l_21))) rfl rfl (fun l_26 p27 k28 e29 h30 => ?_)))))
    refine .toArrP rfl Tryz.underlying83 rfl h30 rfl (fun f31 b32 o33 T34 fr35 cs36 e37 hm38 hv39 => ?_)
    refine .loadFA rfl Tryz.isAgg83 Tryz.sizeOf83 rfl hm38 hv39 rfl (.bind (fun x40 e41 => ?_))
    refine .ownAddr 0 rfl e41 (fun b42 hp43 => ?_)
    refine .idxOwn rfl Tryz.underlying81 Tryz.sizeOf83 hp43 e41 rfl rfl (.letv (fun l_44 e45 => ?_))
    have hn46 : s19.1.length = l_44.length := by rw [e45, List.length_set]
    refine .storeOwn0 (z' := f31) (off := 0) (us := ((cArr 96 (cInt .u8)) f31)) 0 rfl Tryz.sizeOf83 hp43 e41 rfl rfl rfl rfl rfl rfl rfl (fun F' vs le h => by subst h; exact (setMany_all (by rfl))) e45 (.nil (.block (.code (.region (.add rfl rfl rfl (.move rfl rfl (.nil (.reslot 5 rfl (v' := .slice p22 l_44.length k23) (congrArg (fun q => Value.slice p22 q k23) hn46) ?_))))))))
    exact .nil (LPost.norm fun a w h => ⟨F_20, p22, k23, l_21, h.1.sub (.cons (k := 0) rfl (.cons (k := 5) rfl (.cons (k := 26) rfl (.cons (k := 27) rfl (.nil _))))), h.2⟩)
   ·skip
    refine .exitOut rfl (LPost.exit fun a w h => ⟨rfl, F_20, p22, k23, l_21, h.1.sub (.cons (k := 5) rfl (.nil _)), h.2⟩)
  ·intro b47 hb0 hk e a w hD
   obtain ⟨rfl, F_48, p50, k51, l_49, hA⟩ := hD
   refine interp_exit rfl (GE.app ?_ hk a w hA)
   refine .code (.seq (.region (.move rfl rfl (.assign rfl rfl (.assign rfl rfl (.nil (.code (.freezeSl 0 rfl Fz.r (fun F_53 l_54 h55 => ?_)))))))))
   exact .ret0 Tryz.results49 (.tmp rfl (.tmp rfl (.nil))) (i := 0) rfl (Fz.t l_10 (Fz.t l_14 (Fz.t l_49 l_54))) ⟨p50, k51, rfl, h55⟩
noncomputable def m_file_groups_row (l_1 : (List (Nat → Int))) (size5 : Int) : Option (List (Int × (List (Nat → Int)))) :=
 (L_file_groups_row_1 l_1 size5).bind fun l_14 => some l_14
set_option maxRecDepth 100000 in
set_option maxHeartbeats 4000000 in
theorem c_file_groups_row (F0 : Fz) (l_1 : (List (Nat → Int))) (p2 : Option Addr) (k3 : Nat) (h4 : RepSl 96 (Ex (cArr 96 (cInt .u8))) F0 p2 k3 l_1) (size5 : Int) : CT0 Tryz.prog 50 [(.slice p2 l_1.length k3), (.int .i64 size5)].toArray F0 (m_file_groups_row l_1 size5) (fun r F v => ∃ (p0 : FuncId) (k0 : List Value), v = (.func (.func p0) #[] k0.toArray) ∧ RepIter Tryz.prog F p0 k0 (fun (x : (Int × (List (Nat → Int)))) F vs => ∃ p0 k0, vs = [(.int .i64 x.1), (.slice p0 x.2.length k0)] ∧ RepSl 96 (Ex (cArr 96 (cInt .u8))) F p0 k0 x.2) r) := by
 refine CT0.enter Tryz.func50 rfl Tryz.ntmps50 rfl fun r R => ?_
 unfold m_file_groups_row
 refine .seq (.region (.boxF (cs := [(.slice p2 l_1.length k3)]) rfl rfl rfl (fun b6 F_7 l_8 hb9 => ?_)))
 refine .boxF (cs := [(.int .i64 size5)]) rfl rfl rfl (fun b10 F_11 l_12 hb13 => ?_)
 refine .assign rfl rfl (.nil (.code (.seq (.region (.makeFunc rfl rfl (.bind (fun l_14 e15 => ?_)))))))
 have h16 : RepIter Tryz.prog F_11 85 [(.pointer (some ⟨b6, 0, none⟩)), (.pointer (some ⟨b10, 0, none⟩))] (fun (x : (Int × (List (Nat → Int)))) F vs => ∃ p0 k0, vs = [(.int .i64 x.1), (.slice p0 x.2.length k0)] ∧ RepSl 96 (Ex (cArr 96 (cInt .u8))) F p0 k0 x.2) l_14 := ⟨Tryz.call85, fun σ ly Y y F' le' hy s r hr => c_file_groups_row_1 F' σ ly Y y hy l_1 b6 p2 k3 (le'.mem _ _ (l_12.mem _ _ hb9)) ((h4.mono (Fz.t l_8 l_12)).mono le') size5 b10 (le'.mem _ _ hb13) s r (it_file_groups_row_1 e15 hr)⟩
 refine .assign rfl rfl (.nil (.code ?_))
 exact .ret0 Tryz.results50 (.tmp rfl (.nil)) (i := 0) rfl (Fz.t l_8 l_12) ⟨85, [(.pointer (some ⟨b6, 0, none⟩)), (.pointer (some ⟨b10, 0, none⟩))], rfl, h16⟩
noncomputable def b_slices_IndexFunc_kind_1 (s1 : (List FileKind)) (f5 : (FileKind → Option Bool)) (s9 : Int) : Option (Ctl (Int) ((Unit) ⊕ (Int))) :=
 if (decide (s9 < (s1.length : Int))) then ((idxL s1 s9).bind fun x13 => (f5 x13).bind fun r_28 => if r_28 then (some (.done (.inr s9))) else (some (.next (w64 (s9 + 1))))) else (some (.done (.inl ())))
noncomputable def m_slices_IndexFunc_kind (s1 : (List FileKind)) (f5 : (FileKind → Option Bool)) : Option Int :=
 (loopM (b_slices_IndexFunc_kind_1 s1 f5) 0).bind fun b0 => match b0 with | .inl b30 => (some (-1)) | .inr b30 => (some b30)
set_option maxRecDepth 100000 in
set_option maxHeartbeats 4000000 in
theorem c_slices_IndexFunc_kind (F0 : Fz) (s1 : (List FileKind)) (p2 : Option Addr) (k3 : Nat) (h4 : RepSl 2 rFileKind F0 p2 k3 s1) (f5 : (FileKind → Option Bool)) (p6 : FuncId) (k7 : List Value) (h8 : RepFn Tryz.prog F0 p6 k7 (fun x F vs => ∃ p0 k0, vs = [(eFileKind x p0 k0)] ∧ RepSl 1 (Ex (cInt .i64)) F p0 k0 x.most) (fun r _ v => v = (.bool r)) f5) : CT0 Tryz.prog 99 [(.slice p2 s1.length k3), (.func (.func p6) #[] k7.toArray)].toArray F0 (m_slices_IndexFunc_kind s1 f5) (fun r _ v => v = (.int .i64 r)) := by
 refine CT0.enter Tryz.func99 rfl Tryz.ntmps99 rfl fun r R => ?_
 unfold m_slices_IndexFunc_kind
 refine .seq (.region (.assign rfl rfl (.nil (.code (.seq (.seq (.region (.move rfl rfl (.lenS rfl rfl Tryz.underlying130 rfl (.move rfl rfl (.nil ?_)))))))))))
 refine .code (.block (.keep (.cons (k := 0) rfl (.cons (k := 1) rfl (.cons (k := 7) rfl (.cons (k := 8) rfl (.nil _))))) ?_))
 refine .loop (fun (s9 : Int) a w => ∃ (F_10 : Fz), F0 ≤ F_10 ∧ Hd 19 [] [(0, (.slice p2 s1.length k3)), (1, (.func (.func p6) #[] k7.toArray)), (7, (.int .i64 (s1.length : Int))), (8, (.int .i64 s9))] F_10 [R] a w) (fun b0 e a w => match b0 with | .inl b30 => e = .exit 0 ∧ ∃ (F_31 : Fz), F0 ≤ F_31 ∧ Hd 19 [] [] F_31 [R] a w | .inr b30 => e = .ret ∧ ∃ (F_33 : Fz), F0 ≤ F_33 ∧ Hd 19 [] [(4, (.int .i64 b30))] F_33 [R] a w) ?_ ?_ ?_
 ·exact fun a w h => ⟨F0, Fz.r, h.1.sub (.cons (k := 0) rfl (.cons (k := 1) rfl (.cons (k := 7) rfl (.cons (k := 8) rfl (.nil _))))), h.2⟩
 ·intro s9 ctl
  refine GC.ex (fun a w ⟨F_10, l_11, hA⟩ => ⟨_, hA, ?_⟩)
  unfold b_slices_IndexFunc_kind_1
  refine .seq (.region (.lss rfl rfl rfl (.nil (.code (.seq (.cond rfl (fun hb12 => ?_) (fun hb12 => ?_)))))))
  ·skip
   refine .skip (.code (.seq (.block (.seq (.region (.move rfl rfl (.assign rfl rfl (.nil (.code (.seq (.region ?_)))))))))))
   refine .move rfl rfl (.move rfl rfl (.move rfl rfl (.idx rfl Tryz.underlying130 Tryz.sizeOf129 (h4.mono l_11) rfl rfl (fun x13 b14 o15 T16 fr17 cs18 e19 hm20 hv21 => ?_))))
   obtain ⟨p23, k24, hv21, h25⟩ := hv21
   refine .loadFA rfl Tryz.isAgg129 Tryz.sizeOf129 rfl hm20 hv21 rfl (.call0 rfl h8.1 rfl rfl rfl (h8.2 _ l_11 x13 [(eFileKind x13 p23 k24)] ⟨_, _, rfl, h25⟩) ?_)
   rintro r_28 F_26 _ - l_27 rfl
   refine .nil (.code (.cond rfl (fun hb29 => ?_) (fun hb29 => ?_)))
   ·skip
    refine .seq (.region (.move rfl rfl (.assign rfl rfl (.nil (.code (.retQ (LPost.ret fun a w h => ⟨rfl, F_26, (Fz.t l_11 l_27), h.1.sub (.cons (k := 4) rfl (.nil _)), h.2⟩)))))))
   ·skip
    refine .skip (.block (.code (.region (.add rfl rfl rfl (.move rfl rfl (.nil ?_))))))
    exact .nil (LPost.norm fun a w h => ⟨F_26, (Fz.t l_11 l_27), h.1.sub (.cons (k := 0) rfl (.cons (k := 1) rfl (.cons (k := 7) rfl (.cons (k := 8) rfl (.nil _))))), h.2⟩)
  ·skip
   refine .exitOut rfl (LPost.exit fun a w h => ⟨rfl, F_10, l_11, h.1.sub (.nil _), h.2⟩)
 ·intro b30 hb0 hk e a w hD
  rcases b30 with b30 | b30
  ·skip
   obtain ⟨rfl, F_31, l_32, hA⟩ := hD
   refine interp_exit rfl (GE.app ?_ hk a w hA)
   refine .code (.seq (.region (.assign rfl rfl (.nil (.code ?_)))))
   exact .ret0 Tryz.results99 (.tmp rfl (.nil)) (i := 0) rfl l_32 rfl
  obtain ⟨rfl, F_33, l_34, hA⟩ := hD
  exact interp_ret ((ret_post0 Tryz.results99 (.tmp rfl (.nil)) (i := 0) rfl l_34 rfl) hk a w hA)
noncomputable def m_file_row_read_1 (k1 : FileKind) (c5 : (List (List UInt8))) : Option Bool :=
 (idxL c5 0).bind fun x15 => some (x15 == (encS (IntKind.i32.wrap (k1.letter))))
set_option maxRecDepth 100000 in
set_option maxHeartbeats 4000000 in
theorem c_file_row_read_1 (F0 : Fz) (k1 : FileKind) (p2 : Option Addr) (k3 : Nat) (h4 : RepSl 1 (Ex (cInt .i64)) F0 p2 k3 k1.most) (c5 : (List (List UInt8))) (b6 : Nat) (p8 : Option Addr) (k9 : Nat) (hb7 : F0.mem b6 = some (.cells [(.slice p8 c5.length k9)].toArray 86)) (h10 : RepSl 1 (Ex cStr) F0 p8 k9 c5) : CT0 Tryz.prog 100 [(eFileKind k1 p2 k3), (.pointer (some ⟨b6, 0, none⟩))].toArray F0 (m_file_row_read_1 k1 c5) (fun r _ v => v = (.bool r)) := by
 refine CT0.enter Tryz.func100 rfl Tryz.ntmps100 rfl fun r R => ?_
 unfold m_file_row_read_1
 refine .seq (.region (.boxF (cs := (cFileKind k1 p2 k3)) rfl rfl rfl (fun b11 F_12 l_13 hb14 => ?_)))
 refine .assign rfl rfl (.nil (.code (.seq (.keep (.cons (k := 1) rfl (.cons (k := 2) rfl (.nil _))) (.drawZ 9 mixedOK (by kernel_rfl) (.loadF rfl Tryz.isAgg86 rfl (l_13.mem _ _ hb7) rfl (.idx rfl Tryz.underlying86 Tryz.sizeOf9 (h10.mono l_13) rfl rfl (fun x15 b16 o17 T18 fr19 cs20 e21 hm22 hv23 => ?_))))))))
 refine .loadF rfl Tryz.isAgg9 rfl hm22 (cell_of_take (k := 0) hv23 rfl) (.fieldAddr rfl Tryz.underlying129 rfl Tryz.sizeOf5 rfl (.loadF rfl Tryz.isAgg5 rfl hb14 rfl (.convI rfl Tryz.underlying5 Tryz.underlying21 rfl (.encStr rfl Tryz.underlying21 Tryz.underlying9 rfl (.eqlS rfl Tryz.underlying9 rfl rfl (.assign rfl rfl (.pend (.nil (.code ?_)))))))))
 exact .ret0 Tryz.results100 (.tmp rfl (.nil)) (i := 0) rfl l_13 rfl
noncomputable def m_file_need (is_1 : Bool) : Option (Out FileWrong (Unit)) :=
 if (!is_1) then (some (.pan (FileWrong.mk ))) else (some (.ok ()))
set_option maxRecDepth 100000 in
set_option maxHeartbeats 4000000 in
theorem c_file_need (F0 : Fz) (is_1 : Bool) : CTX Tryz.prog penc 101 [(.bool is_1)].toArray F0 [] (m_file_need is_1) (fun (r : Unit) _ v => v = .tuple #[]) (fun (r : Unit) F' _ => []) := by
 refine CTX.enter Tryz.func101 rfl Tryz.ntmps101 rfl fun r R => ?_
 refine .norm (Sub.refl _) (rfl : _ = [R]) ?_
 unfold m_file_need
 refine .seq (.region (.move rfl rfl (.not rfl rfl (.nil (.code (.cond rfl (fun hb2 => ?_) (fun hb2 => ?_)))))))
 ·skip
  refine .region (.build (cs := (cFileWrong (FileWrong.mk )).toArray) rfl Tryz.underlying139 Tryz.zeroValue139 (plFileWrong _ Tryz.underlying139) rfl rfl (by kernel_rfl) (.makeIface rfl (by kernel_rfl) rfl ?_))
  exact .panicQ rfl (pan_postX (i := 0) rfl Fz.r)
 ·skip
  refine .skip ?_
  exact .endX [0] Tryz.results101 (.nil) rfl Fz.r rfl
noncomputable def b_file_row_read_1 (l_40 : (List (List UInt8))) (s45 : Int × ApiBooked) : Option (Ctl (Int × ApiBooked) ((ApiBooked) ⊕ (FileWrong))) :=
 if (decide (s45.1 < (l_40.length : Int))) then ((idxL l_40 s45.1).bind fun x52 => (m_strconv_Atoi x52).bind fun r_64 => bindX (m_file_need (!r_64.2)) (fun q74 => some (.done (.inr q74))) fun r_68 => (appO s45.2.N ([r_64.1])).bind fun l_80 => bindv ({ s45.2 with N := l_80 }) fun x84 => some (.next ((w64 (s45.1 + 1)), x84))) else (some (.done (.inl s45.2)))
noncomputable def m_file_row_read (r_1 : (Nat → Int)) : Option (Out FileWrong (ApiBooked)) :=
 (m_strings_TrimRight (u8s (arrL 87 r_1)) ([46] : List UInt8)).bind fun r_10 => (m_strings_Split r_10 ([32] : List UInt8)).bind fun r_13 => (m_file_kinds).bind fun r_20 => (m_slices_IndexFunc_kind r_20 (fun x => m_file_row_read_1 x r_13)).bind fun r_30 => bindX (m_file_need (decide (r_30 ≥ 0))) (fun q37 => some (.pan q37)) fun r_31 => (sliceL r_13 1 r_13.length).bind fun l_40 => (loopM (b_file_row_read_1 l_40) (0, (ApiBooked.mk r_30 ([])))).bind fun b0 => match b0 with | .inl b86 => (((m_file_isBooked b86).bind fun r_100 => if r_100 then ((m_file_rowOf b86).bind fun r_105 => bindX (m_file_need (eq_83 r_105 r_1)) (fun q135 => some (.done q135)) fun r_129 => some (.next ())) else (bindX (m_file_need false) (fun q162 => some (.done q162)) fun r_156 => some (.next ())) : Option (Ctl (Unit) (FileWrong))).bind fun j169 => match j169 with | .next j163 => (some (.ok b86)) | .done b166 => (some (.pan b166))) | .inr b86 => (some (.pan b86))
set_option maxRecDepth 100000 in
set_option maxHeartbeats 4000000 in
theorem c_file_row_read (F0 : Fz) (hT : TabsP F0) (r_1 : (Nat → Int)) : CTX Tryz.prog penc 87 [(.agg ((cArr 96 (cInt .u8)) r_1).toArray)].toArray F0 [] (m_file_row_read r_1) (fun (r : ApiBooked) F v => ∃ (p0 : Option Addr) (k0 : Nat), v = (eApiBooked r p0 k0) ∧ RepSl 1 (Ex (cInt .i64)) F p0 k0 r.N) (fun (r : ApiBooked) F' _ => []) := by
 refine CTX.enter Tryz.func87 rfl Tryz.ntmps87 rfl fun r R => ?_
 refine .norm (Sub.refl _) (rfl : _ = [R]) ?_
 unfold m_file_row_read
 refine .seq (.region (.boxF (cs := ((cArr 96 (cInt .u8)) r_1)) rfl rfl rfl (fun b2 F_3 l_4 hb5 => ?_)))
 refine .alloc (cs := (cApiBooked (ApiBooked.mk 0 ([])) none 0)) rfl Tryz.zeroValue41 rfl (fun b6 => ?_)
 refine .nil (.code (.seq (.region ?_)))
 have h7 : RepSl 1 (Ex (cInt .u8)) F_3 (some ⟨b2, 0, none⟩) 96 (arrL 87 r_1) := RepSl.ofArrHi (fun _ => rfl) rfl hb5
 refine .sliceArrHi rfl Tryz.underlying83 Tryz.sizeOf5 rfl rfl rfl rfl (.relen (arrL_len 87 r_1).symm (.bytesStr rfl Tryz.underlying25 Tryz.underlying5 Tryz.underlying9 h7 rfl (.call0 rfl Tryz.call98 rfl rfl rfl (c_strings_TrimRight _ (u8s (arrL 87 r_1)) ([46] : List UInt8)) ?_)))
 rintro r_10 F_8 _ - l_9 rfl
 refine .call0 rfl Tryz.call97 rfl rfl rfl (c_strings_Split _ (hT.mono (Fz.t l_4 l_9)) r_10 ([32] : List UInt8)) ?_
 rintro r_13 F_11 _ - l_12 ⟨p14, k15, rfl, h16⟩
 refine .alloc (cs := [(.slice none 0 0)]) rfl Tryz.zeroValue86 rfl (fun b17 => ?_)
 refine .store (cs' := [(.slice p14 r_13.length k15)]) Tryz.sizeOf86 rfl rfl rfl rfl (i := 0) rfl (Nat.le_of_ble_eq_true rfl) rfl rfl (.nil (.code (.seq (.region (.call0 rfl Tryz.call78 rfl rfl rfl (c_file_kinds _ ) ?_)))))
 rintro r_20 F_18 _ - l_19 ⟨p21, k22, rfl, h23⟩
 refine .freeze 0 rfl (fun F_24 l_25 hb26 => ?_)
 refine .makeFunc rfl rfl ?_
 have hf27 : RepFn Tryz.prog F_24 100 [(.pointer (some ⟨b17, 0, none⟩))] (fun x F vs => ∃ p0 k0, vs = [(eFileKind x p0 k0)] ∧ RepSl 1 (Ex (cInt .i64)) F p0 k0 x.most) (fun r _ v => v = (.bool r)) (fun x => m_file_row_read_1 x r_13) := ⟨Tryz.call100, fun F' le' x vs hv => by obtain ⟨_, _, rfl, hq0⟩ := hv; exact c_file_row_read_1 F' x _ _ hq0 r_13 b17 p14 k15 (le'.mem _ _ hb26) ((h16.mono (Fz.t l_19 l_25)).mono le')⟩
 refine .call0 rfl Tryz.call99 rfl rfl rfl (c_slices_IndexFunc_kind _ r_20 p21 k22 (h23.mono l_25) (fun x => m_file_row_read_1 x r_13) 100 ([(.pointer (some ⟨b17, 0, none⟩))]) hf27) ?_
 rintro r_30 F_28 _ - l_29 rfl
 refine .assign rfl rfl (.nil (.code (.seq (.region (.move rfl rfl (.geq rfl rfl rfl (.callB [] rfl Tryz.call101 rfl rfl rfl rfl (c_file_need _ (decide (r_30 ≥ 0))) ?_ (fun q37 F_35 _ l_36 => (pan_postX (i := 1) rfl (Fz.t l_4 (Fz.t l_9 (Fz.t l_12 (Fz.t l_19 (Fz.t l_25 (Fz.t l_29 l_36)))))))))))))))
 rintro r_31 F_32 _ e34 l_33 rfl
 refine .pick [0, 0] (rfl : _ = [pt b6 (.cells (cApiBooked (ApiBooked.mk 0 ([])) none 0).toArray 41), R]) (.nil (.code (.seq (.region (.move rfl rfl (.build (cs := (cApiBooked (ApiBooked.mk r_30 ([])) none 0).toArray) rfl Tryz.underlying41 Tryz.zeroValue41 (plApiBooked _ Tryz.underlying41) rfl rfl (by kernel_rfl) ?_))))))
 refine .alloc (cs := (cApiBooked (ApiBooked.mk 0 ([])) none 0)) rfl Tryz.zeroValue41 rfl (fun b38 => ?_)
 refine .ownNil 1 (Ex (cInt .i64)) 3 (.ownConv 0 rfl (show [] = (ApiBooked.mk r_30 ([])).N from rfl) (.store (cs' := (cApiBooked (ApiBooked.mk r_30 ([])) none 0)) Tryz.sizeOf41 rfl rfl rfl rfl (i := 1) rfl (Nat.le_of_ble_eq_true rfl) rfl (setMany_all (by rfl)) (.nil (.code (.seq (.seq (.region (.loadF rfl Tryz.isAgg86 rfl ((Fz.t l_29 l_33).mem _ _ hb26) rfl ?_))))))))
 refine .sliceLo rfl Tryz.underlying86 Tryz.sizeOf9 (h16.mono (Fz.t l_19 (Fz.t l_25 (Fz.t l_29 l_33)))) rfl rfl (fun l_40 p41 k42 e43 h44 => ?_)
 refine .lenS rfl rfl Tryz.underlying86 rfl (.move rfl rfl (.nil (.code (.block (.keep (.cons (k := 1) rfl (.cons (k := 2) rfl (.cons (k := 5) rfl (.cons (k := 23) rfl (.cons (k := 24) rfl (.cons (k := 25) rfl (.nil _))))))) ?_)))))
 refine .loop (fun (s45 : Int × ApiBooked) a w => ∃ (F_46 : Fz) (p48 : Option Addr) (k49 : Nat), F_32 ≤ F_46 ∧ Hd 54 [] [(1, (.pointer (some ⟨b2, 0, none⟩))), (2, (.pointer (some ⟨b6, 0, none⟩))), (5, (.pointer (some ⟨b38, 0, none⟩))), (23, (.slice p41 l_40.length k42)), (24, (.int .i64 (l_40.length : Int))), (25, (.int .i64 s45.1))] F_46 [ownSl 1 (Ex (cInt .i64)) F_46 3 p48 k49 s45.2.N, pt b38 (.cells (cApiBooked s45.2 p48 k49).toArray 41), pt b6 (.cells (cApiBooked (ApiBooked.mk 0 ([])) none 0).toArray 41), R] a w) (fun b0 e a w => match b0 with | .inl b86 => e = .exit 0 ∧ ∃ (F_87 : Fz) (p89 : Option Addr) (k90 : Nat), F_32 ≤ F_87 ∧ Hd 54 [] [(1, (.pointer (some ⟨b2, 0, none⟩))), (2, (.pointer (some ⟨b6, 0, none⟩))), (5, (.pointer (some ⟨b38, 0, none⟩)))] F_87 [ownSl 1 (Ex (cInt .i64)) F_87 3 p89 k90 b86.N, pt b38 (.cells (cApiBooked b86 p89 k90).toArray 41), pt b6 (.cells (cApiBooked (ApiBooked.mk 0 ([])) none 0).toArray 41), R] a w | .inr b86 => e = .panic [{ v := penc b86, recovered := false }] ∧ ∃ (F_92 : Fz), F_32 ≤ F_92 ∧ Hd 54 [] [] F_92 [R] a w) ?_ ?_ ?_
 ·exact fun a w h => ⟨F_32, none, 0, Fz.r, h.1.sub (.cons (k := 1) rfl (.cons (k := 2) rfl (.cons (k := 5) rfl (.cons (k := 23) rfl (.cons (k := 24) rfl (.cons (k := 25) rfl (.nil _))))))), h.2⟩
 ·intro s45 ctl
  refine GC.ex (fun a w ⟨F_46, p48, k49, l_47, hA⟩ => ⟨_, hA, ?_⟩)
  unfold b_file_row_read_1
  refine .seq (.region (.lss rfl rfl rfl (.nil (.code (.seq (.cond rfl (fun hb51 => ?_) (fun hb51 => ?_)))))))
  ·skip
   refine .skip (.code (.seq (.block (.seq (.region (.idx rfl Tryz.underlying86 Tryz.sizeOf9 (h44.mono l_47) rfl rfl (fun x52 b53 o54 T55 fr56 cs57 e58 hm59 hv60 => ?_)))))))
   refine .loadF rfl Tryz.isAgg9 rfl hm59 (cell_of_take (k := 0) hv60 rfl) (.assign rfl rfl (.nil (.code (.seq (.region (.move rfl rfl (.call0 rfl Tryz.call102 rfl rfl rfl (c_strconv_Atoi _ (hT.mono (Fz.t l_4 (Fz.t l_9 (Fz.t l_12 (Fz.t l_19 (Fz.t l_25 (Fz.t l_29 (Fz.t l_33 l_47)))))))) x52) ?_)))))))
   rintro r_64 F_62 _ - l_63 ⟨p65, k66, rfl, h67⟩
   refine .move rfl rfl (.extract rfl rfl rfl (.extract rfl rfl rfl (.assign rfl rfl (.assign rfl rfl (.nil (.code (.seq (.region (.move rfl rfl (.eqlErr rfl h67 Tryz.underlying120 rfl (.callB [] rfl Tryz.call101 rfl rfl rfl rfl (c_file_need _ (!r_64.2)) ?_ (fun q74 F_72 _ l_73 => (LPost.panQ fun a w h => ⟨rfl, F_72, (Fz.t l_47 (Fz.t l_63 l_73)), h.1.sub (.nil _), SH.picks [3] rfl h.2⟩)))))))))))))
   rintro r_68 F_69 _ e71 l_70 rfl
   refine .pick [0, 0, 0, 0] (rfl : _ = [ownSl 1 (Ex (cInt .i64)) F_46 3 p48 k49 s45.2.N, pt b38 (.cells (cApiBooked s45.2 p48 k49).toArray 41), pt b6 (.cells (cApiBooked (ApiBooked.mk 0 ([])) none 0).toArray 41), R]) (.nil (.code (.region (.fieldAddr rfl Tryz.underlying41 rfl Tryz.sizeOf31 rfl (.loadO rfl Tryz.isAgg31 rfl (i := 1) rfl rfl (.move rfl rfl ?_))))))
   refine .sliceLit (cs := [.int .i64 r_64.1]) (zc := [.int .i64 0]) rfl Tryz.underlying31 Tryz.sizeOf3 Tryz.zeroValue3 rfl rfl rfl (by kernel_rfl) (by kernel_rfl) (fun b75 F_76 l_77 hb78 => ?_)
   have h79 : RepSl 1 (Ex (cInt .i64)) F_76 (some ⟨b75, 0, none⟩) 1 ([r_64.1]) := RepSl.ofRow hb78 (.cons ok_t3.mono rfl .nil) rfl rfl
   refine .append 0 ok_t3 (Fz.t l_63 (Fz.t l_70 l_77)) rfl Tryz.underlying31 Tryz.underlying31 rfl rfl rfl h79 rfl rfl (fun l_80 p81 k82 e83 => ?_)
   refine .fieldAddr rfl Tryz.underlying41 rfl Tryz.sizeOf31 rfl (.letv (fun x84 e85 => ?_))
   refine .ownConv 0 rfl (show l_80 = x84.N by rw [e85]) (.store (cs' := (cApiBooked x84 p81 k82)) Tryz.sizeOf31 rfl rfl rfl rfl (i := 1) rfl (Nat.le_of_ble_eq_true rfl) rfl (by rw [e85]; kernel_rfl) (.nil (.block (.keep (.cons (k := 1) rfl (.cons (k := 2) rfl (.cons (k := 5) rfl (.cons (k := 23) rfl (.cons (k := 24) rfl (.cons (k := 25) rfl (.nil _))))))) (.code (.region (.add rfl rfl rfl (.move rfl rfl ?_))))))))
   refine .nil ?_
   exact .nil (LPost.norm fun a w h => ⟨F_76, p81, k82, (Fz.t l_47 (Fz.t l_63 (Fz.t l_70 l_77))), h.1.sub (.cons (k := 1) rfl (.cons (k := 2) rfl (.cons (k := 5) rfl (.cons (k := 23) rfl (.cons (k := 24) rfl (.cons (k := 25) rfl (.nil _))))))), h.2⟩)
  ·skip
   refine .exitOut rfl (LPost.exit fun a w h => ⟨rfl, F_46, p48, k49, l_47, h.1.sub (.cons (k := 1) rfl (.cons (k := 2) rfl (.cons (k := 5) rfl (.nil _)))), h.2⟩)
 ·intro b86 hb0 hk e a w hD
  rcases b86 with b86 | b86
  ·skip
   obtain ⟨rfl, F_87, p89, k90, l_88, hA⟩ := hD
   refine interp_exit rfl (GE.app ?_ hk a w hA)
   refine .code (.seq (.freezeSl 0 rfl Fz.r (fun F_94 l_95 h96 => ?_)))
   refine .keep (.cons (k := 1) rfl (.cons (k := 2) rfl (.cons (k := 5) rfl (.nil _)))) ?_
   refine GC.join (σ := Unit) (γ := FileWrong) (fun j163 a w => ∃ (F_164 : Fz), F_94 ≤ F_164 ∧ Hd 54 [] [(2, (.pointer (some ⟨b6, 0, none⟩))), (5, (.pointer (some ⟨b38, 0, none⟩)))] F_164 [pt b38 (.cells (cApiBooked b86 p89 k90).toArray 41), pt b6 (.cells (cApiBooked (ApiBooked.mk 0 ([])) none 0).toArray 41), R] a w) (fun b166 e a w => e = .panic [{ v := penc b166, recovered := false }] ∧ ∃ (F_167 : Fz), F_94 ≤ F_167 ∧ Hd 54 [] [] F_167 [R] a w) (fun sj => ?_) (fun j163 hs0 => GE.ex (fun a w ⟨F_164, l_165, hA⟩ => ⟨_, hA, ?_⟩)) ?_
   ·skip
    refine .bind (fun r_100 hx101 => ?_)
    refine .ite (fun hb102 => ?_) (fun hb102 => ?_)
    ·skip
     refine .bind (fun r_105 hx106 => ?_)
     refine .drawGD 8 0 (fun env97 => [((eApiBooked b86 p89 k90), fun _ => True), ((.bool r_100), fun _ => True), ((.bool r_100), fun _ => True), ((eApiBooked b86 p89 k90), fun _ => True), ((.agg ((cArr 96 (cInt .u8)) r_105).toArray), fun _ => True), ((.agg ((cArr 96 (cInt .u8)) r_1).toArray), fun _ => True), ((.bool (eq_83 r_105 r_1)), fun _ => True), ((.bool (eq_83 r_105 r_1)), fun _ => True)]) (fun L env97 => [pt b38 (.cells (cApiBooked b86 p89 k90).toArray 41), pt b6 (.cells (cApiBooked (ApiBooked.mk 0 ([])) none 0).toArray 41), R]) mixedOK (by kernel_rfl) (deepN (k := 8) (n := 9) rfl (allLt9 (p := fun t => 8 ≤ t → ∀ j, j < t → ∃ s, depB _ s t j = true) (fun h => absurd h (by decide)) (fun h => absurd h (by decide)) (fun h => absurd h (by decide)) (fun h => absurd h (by decide)) (fun h => absurd h (by decide)) (fun h => absurd h (by decide)) (fun h => absurd h (by decide)) (fun h => absurd h (by decide)) (fun _ => allLt8 (p := fun j => ∃ s, depB _ s 8 j = true) ⟨4, rfl⟩ ⟨3, rfl⟩ ⟨2, rfl⟩ ⟨2, rfl⟩ ⟨1, rfl⟩ ⟨3, rfl⟩ ⟨2, rfl⟩ ⟨1, rfl⟩))) rfl (fun _ => rfl) (by kernel_rfl) (fun _ => rfl) ?_ (fun env97 F_107 l_108 hphi => ?_)
     ·skip
      refine .cons (fun L env97 F_109 l_110 hL hdn hup hphi => ⟨[(5, (.pointer (some ⟨b38, 0, none⟩)))], fun S hS hV => (.cons (hS _ _ rfl) (Sub.nil _)), ?_⟩) ?_
      ·skip
       refine .loadOA rfl Tryz.isAgg41 Tryz.sizeOf41 rfl (i := 0) rfl (vs := (cApiBooked b86 p89 k90)) (by kernel_rfl) rfl ?_
       exact .finV rfl rfl Fz.r
      refine .cons (fun L env97 F_111 l_112 hL hdn hup hphi => ⟨[(44, (eApiBooked b86 p89 k90))], fun S hS hV => (.cons (hV 0 44 _ (hdn 1 0 rfl) rfl rfl) (Sub.nil _)), ?_⟩) ?_
      ·skip
       refine .callK hx101 rfl Tryz.call75 rfl rfl rfl (c_file_isBooked _ b86 p89 k90 (h96.mono l_112)) ?_
       rintro F_113 _ l_114 rfl
       exact .finV rfl rfl l_114
      refine .cons (fun L env97 F_115 l_116 hL hdn hup hphi => ⟨[(45, (.bool r_100))], fun S hS hV => (.cons (hV 1 45 _ (hdn 1 1 rfl) rfl rfl) (Sub.nil _)), ?_⟩) ?_
      ·skip
       refine .move rfl rfl ?_
       exact .finV rfl rfl Fz.r
      refine .cons (fun L env97 F_117 l_118 hL hdn hup hphi => ⟨[(5, (.pointer (some ⟨b38, 0, none⟩))), (46, (.bool r_100))], fun S hS hV => (.cons (hS _ _ rfl) (.cons (hV 2 46 _ (hdn 1 2 rfl) rfl rfl) (Sub.nil _))), ?_⟩) ?_
      ·skip
       refine .onH hb102 rfl rfl (.loadOA rfl Tryz.isAgg41 Tryz.sizeOf41 rfl (i := 0) rfl (vs := (cApiBooked b86 p89 k90)) (by kernel_rfl) rfl ?_)
       exact .finV rfl rfl Fz.r
      refine .cons (fun L env97 F_119 l_120 hL hdn hup hphi => ⟨[(46, (.bool r_100)), (47, (eApiBooked b86 p89 k90))], fun S hS hV => (.cons (hV 2 46 _ (hdn 1 2 rfl) rfl rfl) (.cons (hV 3 47 _ (hdn 1 3 rfl) rfl rfl) (Sub.nil _))), ?_⟩) ?_
      ·skip
       refine .onH hb102 rfl rfl (.callK hx106 rfl Tryz.call44 rfl rfl rfl (c_file_rowOf _ (hT.mono (Fz.t l_4 (Fz.t l_9 (Fz.t l_12 (Fz.t l_19 (Fz.t l_25 (Fz.t l_29 (Fz.t l_33 (Fz.t l_88 (Fz.t l_95 l_120)))))))))) b86 p89 k90 (h96.mono l_120)) ?_)
       rintro F_121 _ l_122 rfl
       exact .finV rfl rfl l_122
      refine .cons (fun L env97 F_123 l_124 hL hdn hup hphi => ⟨[(1, (.pointer (some ⟨b2, 0, none⟩))), (46, (.bool r_100))], fun S hS hV => (.cons (hS _ _ rfl) (.cons (hV 2 46 _ (hdn 1 2 rfl) rfl rfl) (Sub.nil _))), ?_⟩) ?_
      ·skip
       refine .onH hb102 rfl rfl (.loadFA rfl Tryz.isAgg83 Tryz.sizeOf83 rfl ((Fz.t l_9 (Fz.t l_12 (Fz.t l_19 (Fz.t l_25 (Fz.t l_29 (Fz.t l_33 (Fz.t l_88 (Fz.t l_95 l_124)))))))).mem _ _ hb5) (vs := ((cArr 96 (cInt .u8)) r_1)) (by kernel_rfl) rfl ?_)
       exact .finV rfl rfl Fz.r
      refine .cons (fun L env97 F_125 l_126 hL hdn hup hphi => ⟨[(46, (.bool r_100)), (48, (.agg ((cArr 96 (cInt .u8)) r_105).toArray)), (49, (.agg ((cArr 96 (cInt .u8)) r_1).toArray))], fun S hS hV => (.cons (hV 2 46 _ (hdn 1 2 rfl) rfl rfl) (.cons (hV 4 48 _ (hdn 1 4 rfl) rfl rfl) (.cons (hV 5 49 _ (hdn 1 5 rfl) rfl rfl) (Sub.nil _)))), ?_⟩) ?_
      ·skip
       refine .onH hb102 rfl rfl (.eqlR rfl Tryz.eqGuardType83 (fun w => req_83 r_105 r_1 w) rfl rfl ?_)
       exact .finV rfl rfl Fz.r
      refine .cons (fun L env97 F_127 l_128 hL hdn hup hphi => ⟨[(46, (.bool r_100)), (50, (.bool (eq_83 r_105 r_1)))], fun S hS hV => (.cons (hV 2 46 _ (hdn 1 2 rfl) rfl rfl) (.cons (hV 6 50 _ (hdn 1 6 rfl) rfl rfl) (Sub.nil _))), ?_⟩) ?_
      ·skip
       refine .pickTH hb102  rfl rfl rfl ?_
       exact .finV rfl rfl Fz.r
      exact .nil
     refine .norm (S' := [(1, (.pointer (some ⟨b2, 0, none⟩))), (2, (.pointer (some ⟨b6, 0, none⟩))), (5, (.pointer (some ⟨b38, 0, none⟩))), (44, (eApiBooked b86 p89 k90)), (45, (.bool r_100)), (46, (.bool r_100)), (47, (eApiBooked b86 p89 k90)), (48, (.agg ((cArr 96 (cInt .u8)) r_105).toArray)), (49, (.agg ((cArr 96 (cInt .u8)) r_1).toArray)), (50, (.bool (eq_83 r_105 r_1))), (51, (.bool (eq_83 r_105 r_1)))]) (.cons (k := 1) rfl (.cons (k := 2) rfl (.cons (k := 5) rfl (.cons (k := 44) rfl (.cons (k := 45) rfl (.cons (k := 46) rfl (.cons (k := 47) rfl (.cons (k := 48) rfl (.cons (k := 49) rfl (.cons (k := 50) rfl (.cons (k := 51) rfl (.nil _)))))))))))) (rfl : _ = [pt b38 (.cells (cApiBooked b86 p89 k90).toArray 41), pt b6 (.cells (cApiBooked (ApiBooked.mk 0 ([])) none 0).toArray 41), R]) ?_
     refine .callB [] rfl Tryz.call101 rfl rfl rfl rfl (c_file_need _ (eq_83 r_105 r_1)) ?_ (fun q135 F_133 _ l_134 => (LPost.panQ fun a w h => ⟨rfl, F_133, (Fz.t l_108 l_134), h.1.sub (.nil _), SH.picks [2] rfl h.2⟩))
     rintro r_129 F_130 _ e132 l_131 rfl
     refine .pick [0, 0, 0] (rfl : _ = [pt b38 (.cells (cApiBooked b86 p89 k90).toArray 41), pt b6 (.cells (cApiBooked (ApiBooked.mk 0 ([])) none 0).toArray 41), R]) (.nil ?_)
     exact .nil (LPost.norm fun a w h => ⟨F_130, (Fz.t l_108 l_131), h.1.sub (.cons (k := 2) rfl (.cons (k := 5) rfl (.nil _))), h.2⟩)
    ·skip
     refine .drawGD 8 0 (fun env97 => [((eApiBooked b86 p89 k90), fun _ => True), ((.bool r_100), fun _ => True), ((.bool r_100), fun _ => True), (undef, fun _ => True), (undef, fun _ => True), (undef, fun _ => True), (undef, fun _ => True), ((.bool false), fun _ => True)]) (fun L env97 => [pt b38 (.cells (cApiBooked b86 p89 k90).toArray 41), pt b6 (.cells (cApiBooked (ApiBooked.mk 0 ([])) none 0).toArray 41), R]) mixedOK (by kernel_rfl) (deepN (k := 8) (n := 9) rfl (allLt9 (p := fun t => 8 ≤ t → ∀ j, j < t → ∃ s, depB _ s t j = true) (fun h => absurd h (by decide)) (fun h => absurd h (by decide)) (fun h => absurd h (by decide)) (fun h => absurd h (by decide)) (fun h => absurd h (by decide)) (fun h => absurd h (by decide)) (fun h => absurd h (by decide)) (fun h => absurd h (by decide)) (fun _ => allLt8 (p := fun j => ∃ s, depB _ s 8 j = true) ⟨4, rfl⟩ ⟨3, rfl⟩ ⟨2, rfl⟩ ⟨2, rfl⟩ ⟨1, rfl⟩ ⟨3, rfl⟩ ⟨2, rfl⟩ ⟨1, rfl⟩))) rfl (fun _ => rfl) (by kernel_rfl) (fun _ => rfl) ?_ (fun env97 F_136 l_137 hphi => ?_)
     ·skip
      refine .cons (fun L env97 F_138 l_139 hL hdn hup hphi => ⟨[(5, (.pointer (some ⟨b38, 0, none⟩)))], fun S hS hV => (.cons (hS _ _ rfl) (Sub.nil _)), ?_⟩) ?_
      ·skip
       refine .loadOA rfl Tryz.isAgg41 Tryz.sizeOf41 rfl (i := 0) rfl (vs := (cApiBooked b86 p89 k90)) (by kernel_rfl) rfl ?_
       exact .finV rfl rfl Fz.r
      refine .cons (fun L env97 F_140 l_141 hL hdn hup hphi => ⟨[(44, (eApiBooked b86 p89 k90))], fun S hS hV => (.cons (hV 0 44 _ (hdn 1 0 rfl) rfl rfl) (Sub.nil _)), ?_⟩) ?_
      ·skip
       refine .callK hx101 rfl Tryz.call75 rfl rfl rfl (c_file_isBooked _ b86 p89 k90 (h96.mono l_141)) ?_
       rintro F_142 _ l_143 rfl
       exact .finV rfl rfl l_143
      refine .cons (fun L env97 F_144 l_145 hL hdn hup hphi => ⟨[(45, (.bool r_100))], fun S hS hV => (.cons (hV 1 45 _ (hdn 1 1 rfl) rfl rfl) (Sub.nil _)), ?_⟩) ?_
      ·skip
       refine .move rfl rfl ?_
       exact .finV rfl rfl Fz.r
      refine .cons (fun L env97 F_146 l_147 hL hdn hup hphi => ⟨[(5, (.pointer (some ⟨b38, 0, none⟩))), (46, (.bool r_100))], fun S hS hV => (.cons (hS _ _ rfl) (.cons (hV 2 46 _ (hdn 1 2 rfl) rfl rfl) (Sub.nil _))), ?_⟩) ?_
      ·skip
       refine .offH hb102 rfl rfl rfl ?_
       exact .finV rfl rfl Fz.r
      refine .cons (fun L env97 F_148 l_149 hL hdn hup hphi => ⟨[(46, (.bool r_100)), (47, undef)], fun S hS hV => (.cons (hV 2 46 _ (hdn 1 2 rfl) rfl rfl) (.cons (hV 3 47 _ (hdn 1 3 rfl) rfl rfl) (Sub.nil _))), ?_⟩) ?_
      ·skip
       refine .offH hb102 rfl rfl rfl ?_
       exact .finV rfl rfl Fz.r
      refine .cons (fun L env97 F_150 l_151 hL hdn hup hphi => ⟨[(1, (.pointer (some ⟨b2, 0, none⟩))), (46, (.bool r_100))], fun S hS hV => (.cons (hS _ _ rfl) (.cons (hV 2 46 _ (hdn 1 2 rfl) rfl rfl) (Sub.nil _))), ?_⟩) ?_
      ·skip
       refine .offH hb102 rfl rfl rfl ?_
       exact .finV rfl rfl Fz.r
      refine .cons (fun L env97 F_152 l_153 hL hdn hup hphi => ⟨[(46, (.bool r_100)), (48, undef), (49, undef)], fun S hS hV => (.cons (hV 2 46 _ (hdn 1 2 rfl) rfl rfl) (.cons (hV 4 48 _ (hdn 1 4 rfl) rfl rfl) (.cons (hV 5 49 _ (hdn 1 5 rfl) rfl rfl) (Sub.nil _)))), ?_⟩) ?_
      ·skip
       refine .offH hb102 rfl rfl rfl ?_
       exact .finV rfl rfl Fz.r
      refine .cons (fun L env97 F_154 l_155 hL hdn hup hphi => ⟨[(46, (.bool r_100)), (50, undef)], fun S hS hV => (.cons (hV 2 46 _ (hdn 1 2 rfl) rfl rfl) (.cons (hV 6 50 _ (hdn 1 6 rfl) rfl rfl) (Sub.nil _))), ?_⟩) ?_
      ·skip
       refine .pickFH hb102  rfl rfl rfl ?_
       exact .finV rfl rfl Fz.r
      exact .nil
     refine .norm (S' := [(1, (.pointer (some ⟨b2, 0, none⟩))), (2, (.pointer (some ⟨b6, 0, none⟩))), (5, (.pointer (some ⟨b38, 0, none⟩))), (44, (eApiBooked b86 p89 k90)), (45, (.bool r_100)), (46, (.bool r_100)), (51, (.bool false))]) (.cons (k := 1) rfl (.cons (k := 2) rfl (.cons (k := 5) rfl (.cons (k := 44) rfl (.cons (k := 45) rfl (.cons (k := 46) rfl (.cons (k := 51) rfl (.nil _)))))))) (rfl : _ = [pt b38 (.cells (cApiBooked b86 p89 k90).toArray 41), pt b6 (.cells (cApiBooked (ApiBooked.mk 0 ([])) none 0).toArray 41), R]) ?_
     refine .callB [] rfl Tryz.call101 rfl rfl rfl rfl (c_file_need _ false) ?_ (fun q162 F_160 _ l_161 => (LPost.panQ fun a w h => ⟨rfl, F_160, (Fz.t l_137 l_161), h.1.sub (.nil _), SH.picks [2] rfl h.2⟩))
     rintro r_156 F_157 _ e159 l_158 rfl
     refine .pick [0, 0, 0] (rfl : _ = [pt b38 (.cells (cApiBooked b86 p89 k90).toArray 41), pt b6 (.cells (cApiBooked (ApiBooked.mk 0 ([])) none 0).toArray 41), R]) (.nil ?_)
     exact .nil (LPost.norm fun a w h => ⟨F_157, (Fz.t l_137 l_158), h.1.sub (.cons (k := 2) rfl (.cons (k := 5) rfl (.nil _))), h.2⟩)
   ·skip
    refine .code (.seq (.region (.loadOA rfl Tryz.isAgg41 Tryz.sizeOf41 rfl (i := 0) rfl (vs := (cApiBooked b86 p89 k90)) (by kernel_rfl) rfl (.store (cs' := (cApiBooked b86 p89 k90)) Tryz.sizeOf41 rfl rfl rfl rfl (i := 1) rfl (Nat.le_of_ble_eq_true rfl) rfl (setMany_all (by rfl)) (.nil (.code ?_))))))
    exact .retX [2] Tryz.results87 (.agg rfl Tryz.isAgg41 Tryz.sizeOf41 (i := 1) rfl (vs' := (cApiBooked b86 p89 k90)) (by kernel_rfl) rfl (.nil)) rfl (Fz.t l_4 (Fz.t l_9 (Fz.t l_12 (Fz.t l_19 (Fz.t l_25 (Fz.t l_29 (Fz.t l_33 (Fz.t l_88 (Fz.t l_95 l_165))))))))) ⟨p89, k90, rfl, (h96.mono l_165)⟩
   ·intro b166 hb0 hk e a w hD
    obtain ⟨rfl, F_167, l_168, hA⟩ := hD
    exact interp_panic ((pan_postX (i := 0) rfl (Fz.t l_4 (Fz.t l_9 (Fz.t l_12 (Fz.t l_19 (Fz.t l_25 (Fz.t l_29 (Fz.t l_33 (Fz.t l_88 (Fz.t l_95 l_168)))))))))) hk a w hA)
  obtain ⟨rfl, F_92, l_93, hA⟩ := hD
  exact interp_panic ((pan_postX (i := 0) rfl (Fz.t l_4 (Fz.t l_9 (Fz.t l_12 (Fz.t l_19 (Fz.t l_25 (Fz.t l_29 (Fz.t l_33 l_93)))))))) hk a w hA)
theorem c_file_row_right_1 (F0 : Fz) (b2 b3 : Nat) (x : ApiBooked) (p : Option Addr) (k : Nat) (is : Bool) : CTV Tryz.prog penc 86 [(.pointer (some ⟨b2, 0, none⟩)), (.pointer (some ⟨b3, 0, none⟩))].toArray F0 [pt b2 (.cells (cApiBooked x p k).toArray 41), pt b3 (.cells [.bool is].toArray 4)] (fun (_ : FileWrong) _ => [pt b2 (.cells (cApiBooked ⟨0, []⟩ none 0).toArray 41), pt b3 (.cells [.bool false].toArray 4)]) := by
 refine CTV.mk1 (n := 12) Tryz.func86 rfl Tryz.ntmps86 rfl rfl (fun R => ?_) (fun q R => ?_)
 ·refine .block (.seq (.region (.eqlErr (b := false) (p := .nilIface) rfl rfl Tryz.underlying20 rfl (.nil (.code (.condT rfl (.region (.assign rfl rfl (.nil (.block ?_))))))))))
  exact .nil (end_postI [0, 0, 0] Tryz.results86 rfl)
 ·refine .block (.seq (.region (.eqlErr (b := true) (p := .iface 139 (eFileWrong q)) rfl ⟨_, _, rfl⟩ Tryz.underlying20 rfl (.nil (.code (.condF rfl (.seq (.region ?_))))))))
  refine .assertT rfl Tryz.underlying139 (by intro z h; cases h) rfl (.extract rfl rfl rfl (.extract rfl rfl rfl (.nil (.code (.condT rfl (.seq (.region ?_)))))))
  refine .alloc (cs := []) rfl Tryz.zeroValue139 rfl fun b => ?_
  refine .store (i := 0) (cs := []) (cs' := []) (vs := []) Tryz.sizeOf139 rfl rfl rfl rfl rfl (Nat.le_refl _) rfl rfl (.nil (.code (.region ?_)))
  refine .build (cs := #[.int .i64 0, .slice none 0 0]) rfl Tryz.underlying41 Tryz.zeroValue41 (plApiBooked _ Tryz.underlying41) rfl rfl (by kernel_rfl) ?_
  refine .store (i := 1) (cs := cApiBooked x p k) (cs' := cApiBooked ⟨0, []⟩ none 0) (vs := cApiBooked ⟨0, []⟩ none 0) Tryz.sizeOf41 rfl rfl rfl rfl rfl (Nat.le_refl _) rfl rfl ?_
  refine .store (i := 2) (cs := [.bool is]) (cs' := [.bool false]) (vs := [.bool false]) Tryz.sizeOf4 rfl rfl rfl rfl rfl (Nat.le_refl _) rfl rfl (.nil (.block ?_))
  exact .nil (end_postV [1, 1, 1] Tryz.results86 rfl (Fz.le_refl _))
noncomputable def m_file_row_right (r : Nat → Int) : Option (ApiBooked × Bool) := bindX (m_file_row_read r) (fun _ => some (⟨0, []⟩, false)) (fun x => some (x, true))
theorem c_file_row_right (F0 : Fz) (hT : TabsP F0) (r_1 : (Nat → Int)) : CT0 Tryz.prog 51 [(.agg ((cArr 96 (cInt .u8)) r_1).toArray)].toArray F0 (m_file_row_right r_1) (fun r F v => ∃ (p0 : Option Addr) (k0 : Nat), v = (.tuple #[(eApiBooked r.1 p0 k0), (.bool r.2)]) ∧ RepSl 1 (Ex (cInt .i64)) F p0 k0 r.1.N) := by
 refine CTO.plain (CTO.enter Tryz.func51 rfl Tryz.ntmps51 rfl fun r R => ?_)
 unfold m_file_row_right
 refine .seq (.region (.boxF (cs := (cArr 96 (cInt .u8)) r_1) rfl rfl rfl fun b1 F1 l1 hb1 => ?_))
 refine .alloc (cs := cApiBooked ⟨0, []⟩ none 0) rfl Tryz.zeroValue41 rfl fun b2 => ?_
 refine .alloc (cs := [.bool false]) rfl Tryz.zeroValue4 rfl fun b3 => ?_
 refine .nil (.code (.seq (.region (.makeFunc rfl rfl (.defer (caps := [.pointer (some ⟨b2, 0, none⟩), .pointer (some ⟨b3, 0, none⟩)]) rfl (.nil (.code (.seq (.region ?_)))))))))
 refine .loadFA rfl Tryz.isAgg83 Tryz.sizeOf83 rfl hb1 (vs := (cArr 96 (cInt .u8)) r_1) (by kernel_rfl) rfl ?_
 refine .callB [] rfl Tryz.call87 rfl rfl rfl rfl (c_file_row_read _ (hT.mono l1) r_1) ?_ (fun q F2 hq l2 => pan_postE 2 Tryz.call86 (c_file_row_right_1 F2 b2 b3 ⟨0, []⟩ none 0 false) [1, 0] rfl Tryz.results51 (fun F'' le'' => .agg rfl Tryz.isAgg41 Tryz.sizeOf41 (i := 0) rfl rfl rfl (.cell rfl Tryz.isAgg4 (i := 1) rfl rfl .nil)) (fun _ => rfl) (Fz.t l1 l2) (fun w F R h => ⟨(), F, Fz.le_refl _, h.mono fun m hm => news_nil hm⟩) (fun _ F'' => ⟨none, 0, rfl, RepSl.nil⟩))
 rintro x F2 _ hx l2 ⟨p, k, rfl, hr⟩
 refine .store (cs' := cApiBooked x p k) Tryz.sizeOf41 rfl rfl rfl rfl (i := 1) rfl (Nat.le_refl _) rfl rfl ?_
 refine .store (cs' := [.bool true]) Tryz.sizeOf4 rfl rfl rfl rfl (i := 0) rfl (Nat.le_refl _) rfl rfl (.nil (.code ?_))
 exact .retQ (ret_postE (Γ := ()) [1, 0] Tryz.call86 (c_file_row_right_1 F2 b2 b3 x p k true) rfl [2] Tryz.results51 (.agg rfl Tryz.isAgg41 Tryz.sizeOf41 (i := 0) rfl rfl rfl (.cell rfl Tryz.isAgg4 (i := 1) rfl rfl .nil)) rfl (Fz.t l1 l2) ⟨p, k, rfl, hr⟩)
noncomputable def b_file_Read_2 (l_39 : (List (Nat → Int))) (s44 : Int × (List ApiBooked)) : Option (Ctl (Int × (List ApiBooked)) (((List ApiBooked)) ⊕ ((List ApiBooked) × Int × (List ApiBooked)))) :=
 if (decide (s44.1 < (l_39.length : Int))) then ((idxL l_39 s44.1).bind fun x51 => (m_file_row_right x51).bind fun r_64 => if (!r_64.2) then (some (.done (.inr (s44.2, 8, [])))) else ((appO s44.2 ([r_64.1])).bind fun l_75 => some (.next ((w64 (s44.1 + 1)), l_75)))) else (some (.done (.inl s44.2)))
noncomputable def b_file_Read_1  (x24 : (Int × (List (Nat → Int)))) (s22 : (List ApiBooked) × Int × (List ApiBooked)) : Option (Ctl ((List ApiBooked) × Int × (List ApiBooked)) ((List ApiBooked) × Int × (List ApiBooked))) :=
 bindv (w64 ((x24.2.length : Int) - 1)) fun n_37 => (sliceL x24.2 0 n_37).bind fun l_39 => (loopM (b_file_Read_2 l_39) (0, s22.1)).bind fun b0 => match b0 with | .inl b79 => ((idxL x24.2 n_37).bind fun x94 => (sliceL x24.2 0 n_37).bind fun l_104 => (m_file_guard l_104).bind fun r_113 => if (!(eq_83 x94 r_113)) then (some (.done (b79, 8, []))) else (some (.next (b79, s22.2.1, s22.2.2)))) | .inr b79 => (some (.done (b79.1, b79.2.1, b79.2.2)))
noncomputable def m_file_Read (b1 : (List Int)) : Option ((List ApiBooked) × Int) :=
 (m_file_split b1).bind fun r_9 => if (!r_9.2) then (some ([], 8)) else ((m_file_groups_row r_9.1 9).bind fun r_18 => (retL b_file_Read_1 r_18 ([], 0, [])).bind fun c168 => match c168 with | .next s142 => (some (s142.1, 0)) | .done s157 => (some (s157.2.2, s157.2.1)))
set_option maxRecDepth 100000 in
set_option maxHeartbeats 4000000 in
theorem c_file_Read (F0 : Fz) (hT : TabsP F0) (b1 : (List Int)) (p2 : Option Addr) (k3 : Nat) (h4 : RepSl 1 (Ex (cInt .u8)) F0 p2 k3 b1) : CT0 Tryz.prog 19 [(.slice p2 b1.length k3)].toArray F0 (m_file_Read b1) (fun r F v => ∃ (p0 : Option Addr) (k0 : Nat), v = .tuple #[(.slice p0 r.1.length k0), (.int .i64 r.2)] ∧ RepSl 2 rApiBooked F p0 k0 r.1) := by
 refine CT0.enterM Tryz.func19 rfl Tryz.ntmps19 rfl fun r R => ?_
 unfold m_file_Read
 refine .seq (.region (.alloc (cs := [(.slice none 0 0)]) rfl Tryz.zeroValue22 rfl (fun b5 => ?_)))
 refine .alloc (cs := [(.int .i64 0)]) rfl Tryz.zeroValue26 rfl (fun b6 => ?_)
 refine .nil (.code (.seq (.region (.move rfl rfl (.call0 rfl Tryz.call49 rfl rfl rfl (c_file_split _ b1 p2 k3 h4) ?_)))))
 rintro r_9 F_7 _ - l_8 ⟨p10, k11, rfl, h12⟩
 refine .move rfl rfl (.extract rfl rfl rfl (.extract rfl rfl rfl (.assign rfl rfl (.assign rfl rfl (.nil (.code (.seq (.seq (.region (.move rfl rfl (.not rfl rfl ?_)))))))))))
 refine .nil (.code (.cond rfl (fun hb13 => ?_) (fun hb13 => ?_)))
 ·skip
  refine .seq (.region (.store (cs' := [(.slice none 0 0)]) Tryz.sizeOf22 rfl rfl rfl rfl (i := 1) rfl (Nat.le_of_ble_eq_true rfl) rfl rfl (.store (cs' := [(.int .i64 8)]) Tryz.sizeOf26 rfl rfl rfl rfl (i := 0) rfl (Nat.le_of_ble_eq_true rfl) rfl rfl (.nil (.code ?_)))))
  exact .ret0M [] Tryz.results19 trivial (.cell rfl Tryz.isAgg22 (i := 1) rfl rfl (.cell rfl Tryz.isAgg26 (i := 0) rfl rfl (.nil))) (i := 2) rfl l_8 ⟨none, 0, rfl, (RepSl.nil.mono l_8)⟩
 ·skip
  refine .skip (.code (.seq (.region (.alloc (cs := [(.slice none 0 0)]) rfl Tryz.zeroValue22 rfl (fun b14 => ?_)))))
  refine .ownNil 2 rApiBooked 41 (.nil (.code (.seq (.seq (.region (.move rfl rfl (.call0 rfl Tryz.call50 rfl rfl rfl (c_file_groups_row _ r_9.1 p10 k11 h12 9) ?_)))))))
  rintro r_18 F_16 _ - l_17 ⟨p19, k20, rfl, h21⟩
  refine .nil (.code (.block (.keep (.cons (k := 2) rfl (.cons (k := 3) rfl (.cons (k := 6) rfl (.cons (k := 22) rfl (.nil _))))) (.ownUp 0 l_17 rfl ?_))))
  refine .rangeRet (τ := (List ApiBooked) × Int × (List ApiBooked)) (γ := (List ApiBooked) × Int × (List ApiBooked)) (fun s22 F_23 hs' => ∃ (p28 : Option Addr) (k29 : Nat) (p31 : Option Addr) (k32 : Nat), RepSl 2 rApiBooked F_23 p31 k32 s22.2.2 ∧ hs' = [ownSl 2 rApiBooked F_23 41 p28 k29 s22.1, pt b14 (.cells [(.slice p28 s22.1.length k29)].toArray 22), pt b6 (.cells [(.int .i64 s22.2.1)].toArray 26), pt b5 (.cells [(.slice p31 s22.2.2.length k32)].toArray 22), R]) (fun s22 F_23 hs' => ∃ (p28 : Option Addr) (k29 : Nat) (p31 : Option Addr) (k32 : Nat), RepSl 2 rApiBooked F_23 p31 k32 s22.2.2 ∧ hs' = [ownSl 2 rApiBooked F_23 41 p28 k29 s22.1, pt b14 (.cells [(.slice p28 s22.1.length k29)].toArray 22), pt b6 (.cells [(.int .i64 s22.2.1)].toArray 26), pt b5 (.cells [(.slice p31 s22.2.2.length k32)].toArray 22), R]) rfl h21 rfl (fun _ _ _ h => by obtain ⟨_, _, h, _⟩ := h; rw [h]; rfl) ⟨none, 0, none, 0, (RepSl.nil.mono (Fz.t l_8 l_17)), rfl⟩ ?_ ?_ ?_
  ·intro lp Lp F_23 F_27 x24 vs s22 ctl Rp hs' l_25 l_26 hx hI
   obtain ⟨p34, k35, rfl, h36⟩ := hx
   obtain ⟨p28, k29, p31, k32, h33, rfl⟩ := hI
   unfold b_file_Read_1
   refine .keep (.cons (k := 2) rfl (.cons (k := 3) rfl (.cons (k := 6) rfl (.cons (k := 22) rfl (.cons (k := 23) rfl (.cons (k := 24) rfl (.nil _))))))) (.region (.assign rfl rfl (.nil ?_)))
   refine GE.begin 0 rfl ?_
   refine .block (.seq (.region (.move rfl rfl (.lenS rfl rfl Tryz.underlying81 rfl (.sub rfl rfl rfl (.assignL rfl rfl (fun n_37 e38 => ?_)))))))
   refine .nil (.code (.seq (.seq (.region (.move rfl rfl (.move rfl rfl (.sliceHi rfl Tryz.underlying81 Tryz.sizeOf83 h36 rfl rfl (fun l_39 p40 k41 e42 h43 => ?_))))))))
   refine .lenS rfl rfl Tryz.underlying81 rfl (.move rfl rfl (.nil (.code (.block (.keep (.cons (k := 2) rfl (.cons (k := 3) rfl (.cons (k := 6) rfl (.cons (k := 8) rfl (.cons (k := 9) rfl (.cons (k := 30) rfl (.cons (k := 31) rfl (.cons (k := 32) rfl (.nil _))))))))) (.ownUp 2 l_26 rfl ?_))))))
   refine .loop (fun (s44 : Int × (List ApiBooked)) a w => ∃ (F_45 : Fz) (p47 : Option Addr) (k48 : Nat), F_27 ≤ F_45 ∧ Hd 58 [] [(2, (.pointer (some ⟨b5, 0, none⟩))), (3, (.pointer (some ⟨b6, 0, none⟩))), (6, (.pointer (some ⟨b14, 0, none⟩))), (8, (.slice p34 x24.2.length k35)), (9, (.int .i64 n_37)), (30, (.slice p40 l_39.length k41)), (31, (.int .i64 (l_39.length : Int))), (32, (.int .i64 s44.1))] F_45 [pt lp (lbusy Lp), Rp, ownSl 2 rApiBooked F_45 41 p47 k48 s44.2, pt b14 (.cells [(.slice p47 s44.2.length k48)].toArray 22), pt b6 (.cells [(.int .i64 s22.2.1)].toArray 26), pt b5 (.cells [(.slice p31 s22.2.2.length k32)].toArray 22), R] a w) (fun b0 e a w => match b0 with | .inl b79 => e = .exit 2 ∧ ∃ (F_80 : Fz) (p82 : Option Addr) (k83 : Nat), F_27 ≤ F_80 ∧ Hd 58 [] [(2, (.pointer (some ⟨b5, 0, none⟩))), (3, (.pointer (some ⟨b6, 0, none⟩))), (8, (.slice p34 x24.2.length k35)), (9, (.int .i64 n_37))] F_80 [pt lp (lbusy Lp), Rp, ownSl 2 rApiBooked F_80 41 p82 k83 b79, pt b14 (.cells [(.slice p82 b79.length k83)].toArray 22), pt b6 (.cells [(.int .i64 s22.2.1)].toArray 26), pt b5 (.cells [(.slice p31 s22.2.2.length k32)].toArray 22), R] a w | .inr b79 => e = .ret ∧ ∃ (F_85 : Fz) (p87 : Option Addr) (k88 : Nat) (p90 : Option Addr) (k91 : Nat), F_27 ≤ F_85 ∧ RepSl 2 rApiBooked F_85 p90 k91 b79.2.2 ∧ Hd 58 [] [] F_85 [pt lp (lbusy Lp), Rp, ownSl 2 rApiBooked F_85 41 p87 k88 b79.1, pt b14 (.cells [(.slice p87 b79.1.length k88)].toArray 22), pt b6 (.cells [(.int .i64 b79.2.1)].toArray 26), pt b5 (.cells [(.slice p90 b79.2.2.length k91)].toArray 22), R] a w) ?_ ?_ ?_
   ·exact fun a w h => ⟨F_27, p28, k29, Fz.r, h.1.sub (.cons (k := 2) rfl (.cons (k := 3) rfl (.cons (k := 6) rfl (.cons (k := 8) rfl (.cons (k := 9) rfl (.cons (k := 30) rfl (.cons (k := 31) rfl (.cons (k := 32) rfl (.nil _))))))))), h.2⟩
   ·intro s44 ctl
    refine GC.ex (fun a w ⟨F_45, p47, k48, l_46, hA⟩ => ⟨_, hA, ?_⟩)
    unfold b_file_Read_2
    refine .seq (.region (.lss rfl rfl rfl (.nil (.code (.seq (.cond rfl (fun hb50 => ?_) (fun hb50 => ?_)))))))
    ·skip
     refine .skip (.code (.seq (.block (.seq (.region (.idx rfl Tryz.underlying81 Tryz.sizeOf83 (h43.mono l_46) rfl rfl (fun x51 b52 o53 T54 fr55 cs56 e57 hm58 hv59 => ?_)))))))
     refine .loadFA rfl Tryz.isAgg83 Tryz.sizeOf83 rfl hm58 hv59 rfl (.alloc (cs := ((cArr 96 (cInt .u8)) (fun (_ : Nat) => (0 : Int)))) rfl Tryz.zeroValue83 rfl (fun b61 => ?_))
     refine .store (cs' := ((cArr 96 (cInt .u8)) x51)) Tryz.sizeOf83 rfl rfl rfl rfl (i := 0) rfl (Nat.le_of_ble_eq_true rfl) rfl (setMany_all (by rfl)) (.nil (.code (.seq (.region (.loadOA rfl Tryz.isAgg83 Tryz.sizeOf83 rfl (i := 0) rfl (vs := ((cArr 96 (cInt .u8)) x51)) (by kernel_rfl) rfl ?_)))))
     refine .call0 rfl Tryz.call51 rfl rfl rfl (c_file_row_right _ (hT.mono (Fz.t l_8 (Fz.t l_17 (Fz.t l_25 (Fz.t l_26 l_46))))) x51) ?_
     rintro r_64 F_62 _ - l_63 ⟨p65, k66, rfl, h67⟩
     refine .move rfl rfl (.extract rfl rfl rfl (.extract rfl rfl rfl (.alloc (cs := (cApiBooked (ApiBooked.mk 0 ([])) none 0)) rfl Tryz.zeroValue41 rfl (fun b68 => ?_))))
     refine .store (cs' := (cApiBooked r_64.1 p65 k66)) Tryz.sizeOf41 rfl rfl rfl rfl (i := 0) rfl (Nat.le_of_ble_eq_true rfl) rfl (setMany_all (by rfl)) (.assign rfl rfl (.nil (.code (.seq (.seq (.region (.move rfl rfl (.not rfl rfl (.nil (.code (.cond rfl (fun hb69 => ?_) (fun hb69 => ?_))))))))))))
     ·skip
      refine .seq (.region (.store (cs' := [(.slice none 0 0)]) Tryz.sizeOf22 rfl rfl rfl rfl (i := 7) rfl (Nat.le_of_ble_eq_true rfl) rfl rfl (.store (cs' := [(.int .i64 8)]) Tryz.sizeOf26 rfl rfl rfl rfl (i := 6) rfl (Nat.le_of_ble_eq_true rfl) rfl rfl (.nil (.code (.drop 1 (.drop 0 (.ownUp 2 l_63 rfl ?_))))))))
      refine .retQ (LPost.ret fun a w h => ⟨rfl, F_62, p47, k48, none, 0, (Fz.t l_46 l_63), (RepSl.nil.mono (Fz.t l_8 (Fz.t l_17 (Fz.t l_25 (Fz.t l_26 (Fz.t l_46 l_63)))))), h.1.sub (.nil _), h.2⟩)
     ·skip
      refine .skip (.code (.region (.loadO rfl Tryz.isAgg22 rfl (i := 5) rfl rfl (.loadOA rfl Tryz.isAgg41 Tryz.sizeOf41 rfl (i := 0) rfl (vs := (cApiBooked r_64.1 p65 k66)) (by kernel_rfl) rfl ?_))))
      refine .sliceLit (cs := [.int .i64 r_64.1.Kind, .slice p65 r_64.1.N.length k66]) (zc := [.int .i64 (ApiBooked.mk 0 ([])).Kind, .slice none (ApiBooked.mk 0 ([])).N.length 0]) rfl Tryz.underlying22 Tryz.sizeOf41 Tryz.zeroValue41 rfl rfl rfl (by kernel_rfl) (by kernel_rfl) (fun b70 F_71 l_72 hb73 => ?_)
      have h74 : RepSl 2 rApiBooked F_71 (some ⟨b70, 0, none⟩) 1 ([r_64.1]) := RepSl.ofRow hb73 (.cons ok_t41.mono ⟨_, _, rfl, (h67.mono l_72)⟩ .nil) rfl rfl
      refine .append 4 ok_t41 (Fz.t l_63 l_72) rfl Tryz.underlying22 Tryz.underlying22 rfl rfl rfl h74 rfl rfl (fun l_75 p76 k77 e78 => ?_)
      refine .store (cs' := [(.slice p76 l_75.length k77)]) Tryz.sizeOf22 rfl rfl rfl rfl (i := 5) rfl (Nat.le_of_ble_eq_true rfl) rfl rfl (.nil (.block (.code (.region (.add rfl rfl rfl (.move rfl rfl (.nil (.drop 1 (.drop 0 ?_)))))))))
      exact .nil (LPost.norm fun a w h => ⟨F_71, p76, k77, (Fz.t l_46 (Fz.t l_63 l_72)), h.1.sub (.cons (k := 2) rfl (.cons (k := 3) rfl (.cons (k := 6) rfl (.cons (k := 8) rfl (.cons (k := 9) rfl (.cons (k := 30) rfl (.cons (k := 31) rfl (.cons (k := 32) rfl (.nil _))))))))), h.2⟩)
    ·skip
     refine .exitOut rfl (LPost.exit fun a w h => ⟨rfl, F_45, p47, k48, l_46, h.1.sub (.cons (k := 2) rfl (.cons (k := 3) rfl (.cons (k := 8) rfl (.cons (k := 9) rfl (.nil _))))), h.2⟩)
   ·intro b79 hb0 hk e a w hD
    rcases b79 with b79 | b79
    ·skip
     obtain ⟨rfl, F_80, p82, k83, l_81, hA⟩ := hD
     refine interp_exit rfl (GE.app ?_ hk a w hA)
     refine .code (.seq (.keep (.cons (k := 2) rfl (.cons (k := 3) rfl (.cons (k := 8) rfl (.cons (k := 9) rfl (.nil _))))) (.bind (fun x94 e100 => ?_))))
     obtain ⟨b95, o96, T97, fr98, cs99, hm101, hv102, hq103⟩ := RepSl.idxE (h36.mono l_81) e100
     refine .bind (fun l_104 hx110 => ?_)
     refine .bind (fun r_113 hx114 => ?_)
     refine .drawGD 8 0 (fun env93 => [((.slice p34 x24.2.length k35), fun _ => True), ((.int .i64 n_37), fun _ => True), ((.pointer (some ⟨b95, o96, none⟩)), fun _ => True), ((.agg ((cArr 96 (cInt .u8)) x94).toArray), fun _ => True), ((.slice p34 x24.2.length k35), fun _ => True), ((.int .i64 n_37), fun _ => True), ((.slice (env93.a 60) l_104.length (env93.n 60)), fun G => RepSl 96 (Ex (cArr 96 (cInt .u8))) G (env93.a 60) (env93.n 60) l_104), ((.agg ((cArr 96 (cInt .u8)) r_113).toArray), fun _ => True)]) (fun L env93 => [pt lp (lbusy Lp), Rp, ownSl 2 rApiBooked F_80 41 p82 k83 b79, pt b14 (.cells [(.slice p82 b79.length k83)].toArray 22), pt b6 (.cells [(.int .i64 s22.2.1)].toArray 26), pt b5 (.cells [(.slice p31 s22.2.2.length k32)].toArray 22), R]) mixedOK (by kernel_rfl) (deepN (k := 8) (n := 9) rfl (allLt9 (p := fun t => 8 ≤ t → ∀ j, j < t → ∃ s, depB _ s t j = true) (fun h => absurd h (by decide)) (fun h => absurd h (by decide)) (fun h => absurd h (by decide)) (fun h => absurd h (by decide)) (fun h => absurd h (by decide)) (fun h => absurd h (by decide)) (fun h => absurd h (by decide)) (fun h => absurd h (by decide)) (fun _ => allLt8 (p := fun j => ∃ s, depB _ s 8 j = true) ⟨3, rfl⟩ ⟨3, rfl⟩ ⟨2, rfl⟩ ⟨1, rfl⟩ ⟨3, rfl⟩ ⟨3, rfl⟩ ⟨2, rfl⟩ ⟨1, rfl⟩))) rfl (fun _ => rfl) (by kernel_rfl) (fun _ => rfl) ?_ (fun env93 F_115 l_116 hphi => ?_)
     ·skip
      refine .cons (fun L env93 F_117 l_118 hL hdn hup hphi => ⟨[(8, (.slice p34 x24.2.length k35))], fun S hS hV => (.cons (hS _ _ rfl) (Sub.nil _)), ?_⟩) ?_
      ·skip
       refine .move rfl rfl ?_
       exact .finV rfl rfl Fz.r
      refine .cons (fun L env93 F_119 l_120 hL hdn hup hphi => ⟨[(9, (.int .i64 n_37))], fun S hS hV => (.cons (hS _ _ rfl) (Sub.nil _)), ?_⟩) ?_
      ·skip
       refine .move rfl rfl ?_
       exact .finV rfl rfl Fz.r
      refine .cons (fun L env93 F_121 l_122 hL hdn hup hphi => ⟨[(48, (.slice p34 x24.2.length k35)), (49, (.int .i64 n_37))], fun S hS hV => (.cons (hV 0 48 _ (hdn 1 0 rfl) rfl rfl) (.cons (hV 1 49 _ (hdn 1 1 rfl) rfl rfl) (Sub.nil _))), ?_⟩) ?_
      ·skip
       refine .idxQ rfl Tryz.underlying81 Tryz.sizeOf83 hq103 rfl rfl ?_
       exact .finV rfl rfl Fz.r
      refine .cons (fun L env93 F_123 l_124 hL hdn hup hphi => ⟨[(50, (.pointer (some ⟨b95, o96, none⟩)))], fun S hS hV => (.cons (hV 2 50 _ (hdn 1 2 rfl) rfl rfl) (Sub.nil _)), ?_⟩) ?_
      ·skip
       refine .loadFA rfl Tryz.isAgg83 Tryz.sizeOf83 rfl (l_124.mem _ _ hm101) hv102 rfl ?_
       exact .finV rfl rfl Fz.r
      refine .cons (fun L env93 F_125 l_126 hL hdn hup hphi => ⟨[(8, (.slice p34 x24.2.length k35))], fun S hS hV => (.cons (hS _ _ rfl) (Sub.nil _)), ?_⟩) ?_
      ·skip
       refine .move rfl rfl ?_
       exact .finV rfl rfl Fz.r
      refine .cons (fun L env93 F_127 l_128 hL hdn hup hphi => ⟨[(9, (.int .i64 n_37))], fun S hS hV => (.cons (hS _ _ rfl) (Sub.nil _)), ?_⟩) ?_
      ·skip
       refine .move rfl rfl ?_
       exact .finV rfl rfl Fz.r
      refine .cons (fun L env93 F_129 l_130 hL hdn hup hphi => ⟨[(52, (.slice p34 x24.2.length k35)), (53, (.int .i64 n_37))], fun S hS hV => (.cons (hV 4 52 _ (hdn 1 4 rfl) rfl rfl) (.cons (hV 5 53 _ (hdn 1 5 rfl) rfl rfl) (Sub.nil _))), ?_⟩) ?_
      ·skip
       refine .sliceHiK hx110 rfl Tryz.underlying81 Tryz.sizeOf83 (h36.mono (Fz.t l_81 l_130)) rfl rfl (fun p132 k133 h135 => ?_)
       exact .finQ ({ env93 with a := (updN env93.a 60 p132), n := (updN env93.n 60 k133), c := env93.c, o := env93.o }) [true, true, true, true, true, true, false, false] rfl (by kernel_rfl) rfl rfl Fz.r (fun _ le => h135.mono le) (cons_eq rfl (cons_eq rfl (cons_eq rfl (cons_eq rfl (cons_eq rfl (cons_eq rfl (cons_eq rfl rfl)))))))
      refine .cons (fun L env93 F_136 l_137 hL hdn hup hphi => ⟨[(54, (.slice (env93.a 60) l_104.length (env93.n 60)))], fun S hS hV => (.cons (hV 6 54 _ (hdn 1 6 rfl) rfl rfl) (Sub.nil _)), ?_⟩) ?_
      ·skip
       have h109 := hphi 6 _ (hdn 1 6 rfl) rfl _ Fz.r
       refine .callK hx114 rfl Tryz.call45 rfl rfl rfl (c_file_guard _ l_104 (env93.a 60) (env93.n 60) h109) ?_
       rintro F_138 _ l_139 rfl
       exact .finV rfl rfl l_139
      exact .nil
     have h109 := hphi 6 _ rfl
     refine .norm (S' := [(2, (.pointer (some ⟨b5, 0, none⟩))), (3, (.pointer (some ⟨b6, 0, none⟩))), (8, (.slice p34 x24.2.length k35)), (9, (.int .i64 n_37)), (48, (.slice p34 x24.2.length k35)), (49, (.int .i64 n_37)), (50, (.pointer (some ⟨b95, o96, none⟩))), (51, (.agg ((cArr 96 (cInt .u8)) x94).toArray)), (52, (.slice p34 x24.2.length k35)), (53, (.int .i64 n_37)), (54, (.slice (env93.a 60) l_104.length (env93.n 60))), (55, (.agg ((cArr 96 (cInt .u8)) r_113).toArray))]) (.cons (k := 2) rfl (.cons (k := 3) rfl (.cons (k := 8) rfl (.cons (k := 9) rfl (.cons (k := 48) rfl (.cons (k := 49) rfl (.cons (k := 50) rfl (.cons (k := 51) rfl (.cons (k := 52) rfl (.cons (k := 53) rfl (.cons (k := 54) rfl (.cons (k := 55) rfl (.nil _))))))))))))) (rfl : _ = [pt lp (lbusy Lp), Rp, ownSl 2 rApiBooked F_80 41 p82 k83 b79, pt b14 (.cells [(.slice p82 b79.length k83)].toArray 22), pt b6 (.cells [(.int .i64 s22.2.1)].toArray 26), pt b5 (.cells [(.slice p31 s22.2.2.length k32)].toArray 22), R]) ?_
     refine .neqR rfl Tryz.eqGuardType83 (fun w => req_83 x94 r_113 w) rfl rfl (.nil (.code (.cond rfl (fun hb140 => ?_) (fun hb140 => ?_))))
     ·skip
      refine .seq (.region (.store (cs' := [(.slice none 0 0)]) Tryz.sizeOf22 rfl rfl rfl rfl (i := 5) rfl (Nat.le_of_ble_eq_true rfl) rfl rfl (.store (cs' := [(.int .i64 8)]) Tryz.sizeOf26 rfl rfl rfl rfl (i := 4) rfl (Nat.le_of_ble_eq_true rfl) rfl rfl (.nil (.code (.ownUp 2 l_116 rfl ?_))))))
      exact .retQ (RP.ret (Fz.t l_81 l_116) ⟨p82, k83, none, 0, (RepSl.nil.mono (Fz.t l_8 (Fz.t l_17 (Fz.t l_25 (Fz.t l_26 (Fz.t l_81 l_116)))))), rfl⟩ rfl)
     ·skip
      refine .skip (.block (.ownUp 2 l_116 rfl ?_))
      exact .nil (RP.norm (Fz.t l_81 l_116) ⟨p82, k83, p31, k32, (h33.mono (Fz.t l_26 (Fz.t l_81 l_116))), rfl⟩ rfl)
    obtain ⟨rfl, F_85, p87, k88, p90, k91, l_86, h92, hA⟩ := hD
    exact interp_ret ((RP.ret l_86 ⟨p87, k88, p90, k91, h92, rfl⟩ rfl) hk a w hA)
  ·intro q141 F_143 F_144 s142 hs' l_145 l_146 he hI
   obtain ⟨p147, k148, p150, k151, h152, rfl⟩ := hI
   refine .block (.code (.seq (.region (.loadO rfl Tryz.isAgg22 rfl (i := 2) rfl rfl (.freezeSl 1 rfl l_146 (fun F_153 l_154 h155 => ?_))))))
   refine .store (cs' := [(.slice p147 s142.1.length k148)]) Tryz.sizeOf22 rfl rfl rfl rfl (i := 3) rfl (Nat.le_of_ble_eq_true rfl) rfl rfl (.store (cs' := [(.int .i64 0)]) Tryz.sizeOf26 rfl rfl rfl rfl (i := 2) rfl (Nat.le_of_ble_eq_true rfl) rfl rfl (.nil (.code ?_)))
   exact .ret0M [(0, q141)] Tryz.results19 ⟨rfl, trivial⟩ (.cell rfl Tryz.isAgg22 (i := 3) rfl rfl (.cell rfl Tryz.isAgg26 (i := 2) rfl rfl (.nil))) (i := 4) rfl (Fz.t l_8 (Fz.t l_17 (Fz.t l_145 (Fz.t l_146 l_154)))) ⟨p147, k148, rfl, h155⟩
  ·intro q156 F_158 F_159 s157 hs' l_160 l_161 he hI
   obtain ⟨p162, k163, p165, k166, h167, rfl⟩ := hI
   exact .ret0M [(0, q156)] Tryz.results19 ⟨rfl, trivial⟩ (.cell rfl Tryz.isAgg22 (i := 4) rfl rfl (.cell rfl Tryz.isAgg26 (i := 3) rfl rfl (.nil))) (i := 5) rfl (Fz.t l_8 (Fz.t l_17 (Fz.t l_160 l_161))) ⟨p165, k166, rfl, (h167.mono l_161)⟩
noncomputable def m_slices_Clone_row (s1 : (List (Nat → Int))) : Option (List (Nat → Int)) :=
 (appO ([]) s1).bind fun l_8 => some l_8
noncomputable def b_file_mend_1 (L : List (Nat → Int)) (n : Nat) (s : Int × Int) : Option (Ctl (Int × Int) (Int ⊕ Unit)) :=
 if decide (s.1 < (n : Int)) then (idxO n s.1).bind fun j => (L[j]?).bind fun f => (m_file_row_right f).bind fun x =>
  if x.2 then some (.next (w64 (s.1 + 1), s.2)) else if decide (s.2 ≥ 0) then some (.done (.inr ())) else some (.next (w64 (s.1 + 1), s.1))
 else some (.done (.inl s.2))
noncomputable def b_file_mend_3 (L : List (Nat → Int)) (n : Nat) (bad i : Int) (s : Int × Int) : Option (Ctl (Int × Int) Int) :=
 if decide (s.2 < (n : Int)) then (idxO n s.2).bind fun j => (L[j]?).bind fun f =>
  if (s.2 != bad) then (idxO 96 i).bind fun q => some (.next (w64 (s.1 + m_file_residue (f q)), w64 (s.2 + 1))) else some (.next (s.1, w64 (s.2 + 1)))
 else some (.done s.1)
noncomputable def b_file_mend_2 (L : List (Nat → Int)) (n : Nat) (bad : Int) (s : Int × (Nat → Int)) : Option (Ctl (Int × (Nat → Int)) (Nat → Int)) :=
 if decide (s.1 < 95) then (loopM (b_file_mend_3 L n bad s.1) (0, 0)).bind fun sum => (idxO 96 s.1).bind fun q =>
  some (.next (w64 (s.1 + 1), updN s.2 q (IntKind.u8.wrap (w64 (32 + Int.tmod (w64 (w64 (m_file_residue (s.2 q) + 760) - sum)) 95)))))
 else some (.done s.2)
noncomputable def t_file_mend (n : Nat) (L : List (Nat → Int)) : Option (Bool × List (Nat → Int)) := (m_file_guard (L.take n)).bind fun g => some (true, L.set n g)
noncomputable def j_file_mend (L : List (Nat → Int)) (n : Nat) (bad : Int) : Option (Ctl (List (Nat → Int)) Unit) :=
 if decide (bad ≥ 0) then (L[n]?).bind fun f0 => (loopM (b_file_mend_2 L n bad) (0, f0)).bind fun lost => bindv (updN lost 95 10) fun lost2 => (m_file_row_right lost2).bind fun x =>
  if (!x.2) then some (.done ()) else (idxO L.length bad).bind fun k => some (.next (L.set k lost2))
 else some (.next L)
noncomputable def m_file_mend (L : List (Nat → Int)) : Option (Bool × List (Nat → Int)) :=
 (okB (decide (1 ≤ L.length ∧ L.length ≤ 1000000000))).bind fun _ => (loopM (b_file_mend_1 L (L.length - 1)) (0, -1)).bind fun c => match c with
  | .inl bad => (j_file_mend L (L.length - 1) bad).bind fun c => match c with
   | .next L' => t_file_mend (L.length - 1) L'
   | .done _ => some (false, L)
  | .inr _ => some (false, L)
set_option maxRecDepth 100000 in
set_option maxHeartbeats 4000000 in
theorem c_file_mend (F0 : Fz) (hT : TabsP F0) (b : Nat) (pre post : List Value) (L : List (Nat → Int)) (cap : Nat) (hcap : L.length ≤ cap) (hcm : cap ≤ 9223372036854775807) : CT Tryz.prog 54 #[.slice (some ⟨b, pre.length, none⟩) L.length cap] F0 (rowB 83 b pre L post) (m_file_mend L) (fun r _ v => v = .bool r.1) (fun r _ _ => rowB 83 b pre r.2 post) := by
 refine CT.enter (args := [.slice (some ⟨b, pre.length, none⟩) L.length cap]) Tryz.func54 rfl Tryz.ntmps54 rfl fun r R => ?_
 unfold m_file_mend
 refine GC.bind fun _ hok => ?_
 have hok := okB_some hok
 simp only [decide_eq_true_eq] at hok
 obtain ⟨n, hn⟩ : ∃ n, n = L.length - 1 := ⟨_, rfl⟩
 rw [← hn]
 have hw : IntKind.i64.wrap ((L.length : Int) - 1) = (n : Int) := by rw [show IntKind.i64.wrap ((L.length : Int) - 1) = (L.length : Int) - 1 from w64_id (by omega) (by omega)]; omega
 refine .seq (.region (.assign rfl rfl (.nil (.code (.seq (.region (.move rfl rfl (.lenS rfl rfl Tryz.underlying81 rfl (.sub rfl rfl rfl (.assign rfl rfl ?_))))))))))
 rw [hw]
 refine .nil (.code (.seq (.region (.assign rfl rfl (.nil (.code (.seq (.seq (.region (.move rfl rfl (.move rfl rfl (.sliceRows (q := n) rfl Tryz.underlying81 Tryz.sizeOf83 rfl rfl (by omega) (.lenS rfl rfl Tryz.underlying81 rfl (.move rfl rfl (.nil (.code (.block ?_)))))))))))))))))
 refine .loop (fun (s : Int × Int) a w => ∃ F1, F0 ≤ F1 ∧ Hd 98 [] [(0, .slice (some ⟨b, pre.length, none⟩) L.length cap), (3, .int .i64 n), (4, .int .i64 s.2), (21, .slice (some ⟨b, pre.length, none⟩) n cap), (22, .int .i64 n), (23, .int .i64 s.1)] F1 [rowB 83 b pre L post, R] a w)
  (fun (c : Int ⊕ Unit) e a w => match c with
   | .inl bad => e = .exit 0 ∧ ∃ F1, F0 ≤ F1 ∧ Hd 98 [] [(0, .slice (some ⟨b, pre.length, none⟩) L.length cap), (3, .int .i64 n), (4, .int .i64 bad)] F1 [rowB 83 b pre L post, R] a w
   | .inr _ => e = .ret ∧ ∃ F1, F0 ≤ F1 ∧ Hd 98 [] [(2, .bool false)] F1 [rowB 83 b pre L post, R] a w) ?_ ?_ ?_
 ·exact fun a w h => ⟨F0, Fz.r, h.1.sub (.cons (k := 0) rfl (.cons (k := 3) rfl (.cons (k := 4) rfl (.cons (k := 21) rfl (.cons (k := 22) rfl (.cons (k := 23) rfl (.nil _))))))), h.2⟩
 ·rintro ⟨i, bad⟩ ctl
  refine GC.ex (fun a w ⟨F1, l1, hA⟩ => ⟨_, hA, ?_⟩)
  unfold b_file_mend_1
  refine .seq (.region (.lss rfl rfl rfl (.nil (.code (.seq (.cond rfl (fun hb => ?_) (fun hb => ?_)))))))
  ·skip
   refine .skip (.code (.seq (.block (.seq (.region (.move rfl rfl ?_))))))
   refine .bind fun j hj => .bind fun f hf => ?_
   refine .indexAddrS rfl Tryz.underlying81 Tryz.sizeOf83 rfl rfl hj (.rowLoad rfl rfl Tryz.isAgg83 Tryz.sizeOf83 rfl (i := 0) rfl hf ?_)
   refine .alloc (cs := cArr 96 (cInt .u8) (fun _ => 0)) rfl Tryz.zeroValue83 rfl fun b6 => ?_
   refine .assign rfl rfl (.store (cs' := rowC f) Tryz.sizeOf83 rfl rfl rfl (rowC_len f) (i := 0) rfl (by rw [rowC_len, cArr_len]; exact Nat.le_refl _) (rowC_all f) (setMany_all (by rw [cArr_len]; exact (rowC_len f).symm)) (.nil (.code (.seq (.seq (.region ?_))))))
   refine .loadOA rfl Tryz.isAgg83 Tryz.sizeOf83 rfl (i := 0) rfl (rowC_take f) (rowC_len f) ?_
   refine .call0 rfl Tryz.call51 rfl rfl rfl (c_file_row_right _ (hT.mono l1) f) ?_
   rintro x F2 _ hx l2 ⟨p, k, rfl, hr⟩
   refine .move rfl rfl (.extract rfl rfl rfl (.extract rfl rfl rfl (.alloc (cs := cApiBooked ⟨0, []⟩ none 0) rfl Tryz.zeroValue41 rfl fun b7 => ?_)))
   refine .store (cs' := cApiBooked x.1 p k) Tryz.sizeOf41 rfl rfl rfl rfl (i := 0) rfl (Nat.le_refl _) rfl rfl (.assign rfl rfl (.nil (.code (.seq (.region (.move rfl rfl (.nil (.code (.cond rfl (fun hb2 => ?_) (fun hb2 => ?_))))))))))
   ·skip
    refine .exit rfl (.code (.region (.add rfl rfl rfl (.move rfl rfl (.nil ?_)))))
    exact .nil (LPost.norm fun a w h => ⟨F2, Fz.t l1 l2, h.1.sub (.cons (k := 0) rfl (.cons (k := 3) rfl (.cons (k := 4) rfl (.cons (k := 21) rfl (.cons (k := 22) rfl (.cons (k := 23) rfl (.nil _))))))), SH.picks [2, 2] rfl h.2⟩)
   ·skip
    refine .skip (.code (.seq (.seq (.region (.move rfl rfl (.geq rfl rfl rfl (.nil (.code (.cond rfl (fun hb3 => ?_) (fun hb3 => ?_))))))))))
    ·skip
     refine .seq (.region (.assign rfl rfl (.nil (.code ?_))))
     refine .retQ (LPost.ret fun a w h => ⟨rfl, F2, Fz.t l1 l2, h.1.sub (.cons (k := 2) rfl (.nil _)), SH.picks [2, 2] rfl h.2⟩)
    ·skip
     refine .skip (.code (.region (.move rfl rfl (.assign rfl rfl (.nil (.block (.code (.region (.add rfl rfl rfl (.move rfl rfl (.nil ?_)))))))))))
     exact .nil (LPost.norm fun a w h => ⟨F2, Fz.t l1 l2, h.1.sub (.cons (k := 0) rfl (.cons (k := 3) rfl (.cons (k := 4) rfl (.cons (k := 21) rfl (.cons (k := 22) rfl (.cons (k := 23) rfl (.nil _))))))), SH.picks [2, 2] rfl h.2⟩)
  ·skip
   refine .exitOut rfl (LPost.exit fun a w h => ⟨rfl, F1, l1, h.1.sub (.cons (k := 0) rfl (.cons (k := 3) rfl (.cons (k := 4) rfl (.nil _)))), h.2⟩)
 ·intro c hb0 hk e a w hD
  rcases c with bad | u
  ·skip
   obtain ⟨rfl, F1, l1, hA⟩ := hD
   refine interp_exit rfl (GE.app ?_ hk a w hA)
   refine .code (.seq (.seq (.region (.move rfl rfl (.geq rfl rfl rfl (.nil (.code ?_)))))))
   refine GC.join (σ := List (Nat → Int)) (γ := Unit) (fun L' a w => ∃ F2, F0 ≤ F2 ∧ L'.length = L.length ∧ Hd 98 [] [(0, .slice (some ⟨b, pre.length, none⟩) L.length cap), (3, .int .i64 n)] F2 [rowB 83 b pre L' post, R] a w) (fun _ e a w => e = .ret ∧ ∃ F2, F0 ≤ F2 ∧ Hd 98 [] [(2, .bool false)] F2 [rowB 83 b pre L post, R] a w) (fun ctl => ?_) (fun L' _ => GE.ex (fun a w ⟨F2, l2, hl, hA⟩ => ⟨_, hA, ?_⟩)) ?_
   ·skip
    unfold j_file_mend
    refine .cond rfl (fun hb => ?_) (fun hb => ?_)
    ·skip
     refine .seq (.region (.move rfl rfl (.move rfl rfl ?_)))
     refine .bind fun f0 hf0 => ?_
     refine .indexAddrS (j := n) rfl Tryz.underlying81 Tryz.sizeOf83 rfl rfl (by unfold idxO; rw [if_pos (by omega)]; simp) (.rowLoad rfl rfl Tryz.isAgg83 Tryz.sizeOf83 rfl (i := 0) rfl hf0 ?_)
     refine .alloc (cs := cArr 96 (cInt .u8) (fun _ => 0)) rfl Tryz.zeroValue83 rfl fun b9 => ?_
     refine .store (cs' := rowC f0) Tryz.sizeOf83 rfl rfl rfl (rowC_len f0) (i := 0) rfl (by rw [rowC_len, cArr_len]; exact Nat.le_refl _) (rowC_all f0) (setMany_all (by rw [cArr_len]; exact (rowC_len f0).symm)) (.nil (.code (.seq (.seq (.region (.move rfl rfl (.nil (.code (.block ?_)))))))))
     refine .loop (fun (s : Int × (Nat → Int)) a w => ∃ F2, F0 ≤ F2 ∧ Hd 98 [] [(0, .slice (some ⟨b, pre.length, none⟩) L.length cap), (3, .int .i64 n), (4, .int .i64 bad), (9, .pointer (some ⟨b9, 0, none⟩)), (44, .int .i64 s.1)] F2 [pt b9 (.cells (rowC s.2).toArray 83), rowB 83 b pre L post, R] a w) (fun (lost : Nat → Int) e a w => e = .exit 2 ∧ ∃ F2, F0 ≤ F2 ∧ Hd 98 [] [(0, .slice (some ⟨b, pre.length, none⟩) L.length cap), (3, .int .i64 n), (4, .int .i64 bad), (9, .pointer (some ⟨b9, 0, none⟩))] F2 [pt b9 (.cells (rowC lost).toArray 83), rowB 83 b pre L post, R] a w) ?_ ?_ ?_
     ·exact fun a w h => ⟨F1, l1, h.1.sub (.cons (k := 0) rfl (.cons (k := 3) rfl (.cons (k := 4) rfl (.cons (k := 9) rfl (.cons (k := 44) rfl (.nil _)))))), h.2⟩
     ·rintro ⟨i, lost⟩ ctl2
      refine GC.ex (fun a w ⟨F2, l2, hA⟩ => ⟨_, hA, ?_⟩)
      unfold b_file_mend_2
      refine .seq (.region (.lss rfl rfl rfl (.nil (.code (.seq (.cond rfl (fun hb4 => ?_) (fun hb4 => ?_)))))))
      ·skip
       refine .skip (.code (.seq (.block (.seq (.region (.move rfl rfl (.assign rfl rfl (.nil (.code (.seq (.region (.assign rfl rfl (.nil (.code (.seq (.seq (.region (.move rfl rfl (.move rfl rfl (.sliceRows (q := n) rfl Tryz.underlying81 Tryz.sizeOf83 rfl rfl (by omega) (.lenS rfl rfl Tryz.underlying81 rfl (.move rfl rfl (.nil (.code (.block ?_)))))))))))))))))))))))))
       refine .loop (fun (s : Int × Int) a w => ∃ F3, F0 ≤ F3 ∧ Hd 98 [] [(0, .slice (some ⟨b, pre.length, none⟩) L.length cap), (3, .int .i64 n), (4, .int .i64 bad), (9, .pointer (some ⟨b9, 0, none⟩)), (10, .int .i64 i), (11, .int .i64 s.1), (44, .int .i64 i), (49, .slice (some ⟨b, pre.length, none⟩) n cap), (50, .int .i64 n), (51, .int .i64 s.2)] F3 [pt b9 (.cells (rowC lost).toArray 83), rowB 83 b pre L post, R] a w) (fun (sum : Int) e a w => e = .exit 4 ∧ ∃ F3, F0 ≤ F3 ∧ Hd 98 [] [(0, .slice (some ⟨b, pre.length, none⟩) L.length cap), (3, .int .i64 n), (4, .int .i64 bad), (9, .pointer (some ⟨b9, 0, none⟩)), (10, .int .i64 i), (11, .int .i64 sum), (44, .int .i64 i)] F3 [pt b9 (.cells (rowC lost).toArray 83), rowB 83 b pre L post, R] a w) ?_ ?_ ?_
       ·exact fun a w h => ⟨F2, l2, h.1.sub (.cons (k := 0) rfl (.cons (k := 3) rfl (.cons (k := 4) rfl (.cons (k := 9) rfl (.cons (k := 10) rfl (.cons (k := 11) rfl (.cons (k := 44) rfl (.cons (k := 49) rfl (.cons (k := 50) rfl (.cons (k := 51) rfl (.nil _))))))))))), h.2⟩
       ·rintro ⟨sum, q⟩ ctl3
        refine GC.ex (fun a w ⟨F3, l3, hA⟩ => ⟨_, hA, ?_⟩)
        unfold b_file_mend_3
        refine .seq (.region (.lss rfl rfl rfl (.nil (.code (.seq (.cond rfl (fun hb5 => ?_) (fun hb5 => ?_)))))))
        ·skip
         refine .skip (.code (.seq (.block (.seq (.region (.move rfl rfl ?_))))))
         refine .bind fun j hj => .bind fun f hf => ?_
         refine .indexAddrS rfl Tryz.underlying81 Tryz.sizeOf83 rfl rfl hj (.rowLoad rfl rfl Tryz.isAgg83 Tryz.sizeOf83 rfl (i := 1) rfl hf ?_)
         refine .alloc (cs := cArr 96 (cInt .u8) (fun _ => 0)) rfl Tryz.zeroValue83 rfl fun b13 => ?_
         refine .assign rfl rfl (.store (cs' := rowC f) Tryz.sizeOf83 rfl rfl rfl (rowC_len f) (i := 0) rfl (by rw [rowC_len, cArr_len]; exact Nat.le_refl _) (rowC_all f) (setMany_all (by rw [cArr_len]; exact (rowC_len f).symm)) (.nil (.code (.seq (.region ?_)))))
         refine .move rfl rfl (.move rfl rfl (.neq rfl rfl rfl (.nil (.code (.cond rfl (fun hb6 => ?_) (fun hb6 => ?_))))))
         ·skip
          refine .region (.move rfl rfl (.move rfl rfl ?_))
          refine .bind fun z hz => ?_
          refine .indexAddrA rfl Tryz.underlying83 Tryz.sizeOf5 rfl rfl hz (.loadO rfl Tryz.isAgg5 rfl (i := 0) rfl (cArr_cell (idxO_some hz).2.2.2) ?_)
          refine .callP rfl Tryz.call80 rfl rfl rfl (c_file_residue _ (f z)) ?_
          rintro F4 _ l4 rfl
          refine .add rfl rfl rfl (.assign rfl rfl (.nil (.block (.code (.region (.add rfl rfl rfl (.move rfl rfl (.nil ?_))))))))
          exact .nil (LPost.norm fun a w h => ⟨F4, Fz.t l3 l4, h.1.sub (.cons (k := 0) rfl (.cons (k := 3) rfl (.cons (k := 4) rfl (.cons (k := 9) rfl (.cons (k := 10) rfl (.cons (k := 11) rfl (.cons (k := 44) rfl (.cons (k := 49) rfl (.cons (k := 50) rfl (.cons (k := 51) rfl (.nil _))))))))))), SH.picks [1, 1, 1] rfl h.2⟩)
         ·skip
          refine .skip (.block (.code (.region (.add rfl rfl rfl (.move rfl rfl (.nil ?_))))))
          exact .nil (LPost.norm fun a w h => ⟨F3, l3, h.1.sub (.cons (k := 0) rfl (.cons (k := 3) rfl (.cons (k := 4) rfl (.cons (k := 9) rfl (.cons (k := 10) rfl (.cons (k := 11) rfl (.cons (k := 44) rfl (.cons (k := 49) rfl (.cons (k := 50) rfl (.cons (k := 51) rfl (.nil _))))))))))), SH.picks [1, 1, 1] rfl h.2⟩)
        ·skip
         refine .exitOut rfl (LPost.exit fun a w h => ⟨rfl, F3, l3, h.1.sub (.cons (k := 0) rfl (.cons (k := 3) rfl (.cons (k := 4) rfl (.cons (k := 9) rfl (.cons (k := 10) rfl (.cons (k := 11) rfl (.cons (k := 44) rfl (.nil _)))))))), h.2⟩)
       ·intro sum hb0 hk e a w hD
        obtain ⟨rfl, F3, l3, hA⟩ := hD
        refine interp_exit rfl (GE.app ?_ hk a w hA)
        refine .code (.region (.move rfl rfl (.move rfl rfl ?_)))
        refine .bind fun z hz => ?_
        refine .indexAddrA rfl Tryz.underlying83 Tryz.sizeOf5 rfl rfl hz (.loadO rfl Tryz.isAgg5 rfl (i := 0) rfl (cArr_cell (idxO_some hz).2.2.2) ?_)
        refine .callP rfl Tryz.call80 rfl rfl rfl (c_file_residue _ (lost z)) ?_
        rintro F4 _ l4 rfl
        refine .add rfl rfl rfl (.move rfl rfl (.sub rfl rfl rfl (.remC rfl (by decide) rfl rfl (.add rfl rfl rfl (.convI rfl Tryz.underlying3 Tryz.underlying5 rfl (.indexAddrA rfl Tryz.underlying83 Tryz.sizeOf5 rfl rfl hz ?_))))))
        refine .store (cs' := rowC (updN lost z (IntKind.u8.wrap (w64 (32 + Int.tmod (w64 (w64 (m_file_residue (lost z) + 760) - sum)) 95))))) Tryz.sizeOf5 rfl rfl rfl rfl (i := 0) rfl (by rw [rowC_len]; have := (idxO_some hz).2.2.2; simp; omega) rfl (cArr_set (idxO_some hz).2.2.2) ?_
        refine .nil (.block (.code (.region (.add rfl rfl rfl (.move rfl rfl (.nil ?_))))))
        exact .nil (LPost.norm fun a w h => ⟨F4, Fz.t l3 l4, h.1.sub (.cons (k := 0) rfl (.cons (k := 3) rfl (.cons (k := 4) rfl (.cons (k := 9) rfl (.cons (k := 44) rfl (.nil _)))))), h.2⟩)
      ·skip
       refine .exitOut rfl (LPost.exit fun a w h => ⟨rfl, F2, l2, h.1.sub (.cons (k := 0) rfl (.cons (k := 3) rfl (.cons (k := 4) rfl (.cons (k := 9) rfl (.nil _))))), h.2⟩)
     ·intro lost hb0 hk e a w hD
      obtain ⟨rfl, F2, l2, hA⟩ := hD
      refine interp_exit rfl (GE.app ?_ hk a w hA)
      refine .code (.seq (.region (.letS ?_)))
      refine .indexAddrA (j := 95) rfl Tryz.underlying83 Tryz.sizeOf5 rfl rfl rfl ?_
      refine .store (cs' := rowC (updN lost 95 10)) Tryz.sizeOf5 rfl rfl rfl rfl (i := 0) rfl (by rw [rowC_len]; decide) rfl (cArr_set (by decide)) ?_
      refine .nil (.code (.seq (.seq (.region (.loadOA rfl Tryz.isAgg83 Tryz.sizeOf83 rfl (i := 0) rfl (rowC_take _) (rowC_len _) ?_)))))
      refine .call0 rfl Tryz.call51 rfl rfl rfl (c_file_row_right _ (hT.mono l2) _) ?_
      rintro x F3 _ hx l3 ⟨p, k, rfl, hr⟩
      refine .move rfl rfl (.extract rfl rfl rfl (.extract rfl rfl rfl (.alloc (cs := cApiBooked ⟨0, []⟩ none 0) rfl Tryz.zeroValue41 rfl fun b14 => ?_)))
      refine .store (cs' := cApiBooked x.1 p k) Tryz.sizeOf41 rfl rfl rfl rfl (i := 0) rfl (Nat.le_refl _) rfl rfl (.assign rfl rfl (.nil (.code (.seq (.region (.move rfl rfl (.not rfl rfl (.nil (.code (.cond rfl (fun hb7 => ?_) (fun hb7 => ?_)))))))))))
      ·skip
       refine .seq (.region (.assign rfl rfl (.nil (.code ?_))))
       refine .retQ (LPost.ret fun a w h => ⟨rfl, F3, Fz.t l2 l3, h.1.sub (.cons (k := 2) rfl (.nil _)), SH.picks [2, 2] rfl h.2⟩)
      ·skip
       refine .skip (.code (.region (.move rfl rfl (.move rfl rfl (.loadOA rfl Tryz.isAgg83 Tryz.sizeOf83 rfl (i := 1) rfl (rowC_take _) (rowC_len _) ?_)))))
       refine .bind fun z hz => ?_
       refine .indexAddrS rfl Tryz.underlying81 Tryz.sizeOf83 rfl rfl hz (.rowStore (i := 2) rfl Tryz.sizeOf83 rfl rfl rfl (by have := (idxO_some hz).2.2.2; omega) (.nil ?_))
       exact .nil (LPost.norm fun a w h => ⟨F3, Fz.t l2 l3, by simp, h.1.sub (.cons (k := 0) rfl (.cons (k := 3) rfl (.nil _))), SH.picks [2, 2] rfl h.2⟩)
    ·skip
     refine .skip ?_
     exact .nil (LPost.norm fun a w h => ⟨F1, l1, rfl, h.1.sub (.cons (k := 0) rfl (.cons (k := 3) rfl (.nil _))), h.2⟩)
   ·skip
    show GE _ _ _ _ _ (t_file_mend n L') _
    unfold t_file_mend
    refine .code (.seq (.region (.move rfl rfl (.move rfl rfl (.move rfl rfl (.move rfl rfl (.sliceRows (q := n) rfl Tryz.underlying81 Tryz.sizeOf83 rfl rfl (by omega) ?_)))))))
    refine .rowLend 0 rfl rfl (q := n) (by omega) (by omega) hcm rfl Tryz.call45 rfl rfl rfl (fun F3 l3 h3 => by have := c_file_guard F3 (L'.take n) _ _ h3; rw [List.length_take, Nat.min_eq_left (by omega)] at this; exact this) (fun g F3 _ l3 => ?_)
    refine .indexAddrS (j := n) rfl Tryz.underlying81 Tryz.sizeOf83 rfl rfl (by unfold idxO; rw [if_pos (by omega)]; simp) (.rowStore (i := 0) rfl Tryz.sizeOf83 rfl rfl rfl (by omega) (.nil ?_))
    refine .code (.seq (.region (.assign rfl rfl (.nil (.code ?_)))))
    exact .ret1 Tryz.results54 (.tmp rfl .nil) (i := 0) (j := 0) rfl rfl (Fz.t l2 l3) rfl
   ·rintro _ _ hk e a w ⟨rfl, F2, l2, hA⟩
    exact interp_ret ((ret_post Tryz.results54 (.tmp rfl .nil) (i := 0) (j := 0) rfl rfl l2 rfl) hk a w hA)
  ·skip
   obtain ⟨rfl, F1, l1, hA⟩ := hD
   exact interp_ret ((ret_post Tryz.results54 (.tmp rfl .nil) (i := 0) (j := 0) rfl rfl l1 rfl) hk a w hA)
def ho_split (r : List (Nat → Int) × Bool) (F : Fz) (v : Value) : HP := fun m => ∃ (p0 : Option Addr) (k0 : Nat), v = .tuple #[(.slice p0 r.1.length k0), (.bool r.2)] ∧ ownSl 96 (Ex (cArr 96 (cInt .u8))) F 83 p0 k0 r.1 m
def ho_clone (r : List (Nat → Int)) (F : Fz) (v : Value) : HP := fun m => ∃ (p0 : Option Addr) (k0 : Nat), v = (.slice p0 r.length k0) ∧ ownSl 96 (Ex (cArr 96 (cInt .u8))) F 83 p0 k0 r m
set_option maxRecDepth 100000 in
set_option maxHeartbeats 4000000 in
theorem c_file_split_own (F0 : Fz) (b1 : (List Int)) (p2 : Option Addr) (k3 : Nat) (h4 : RepSl 1 (Ex (cInt .u8)) F0 p2 k3 b1) : CT Tryz.prog 49 [(.slice p2 b1.length k3)].toArray F0 emp (m_file_split b1) (fun _ _ _ => True) ho_split := by
 refine CT.enter Tryz.func49 rfl Tryz.ntmps49 rfl fun r R => GC.drop 0 ?_
 unfold m_file_split
 refine .seq (.region (.assign rfl rfl (.assign rfl rfl (.nil (.code (.seq (.region (.move rfl rfl (.lenS rfl rfl Tryz.underlying25 rfl (.quoC rfl (by decide) rfl rfl (.assignL rfl rfl (fun n_5 e6 => ?_))))))))))))
 refine .nil (.code (.seq (.seq (.region (.move rfl rfl (.lenS rfl rfl Tryz.underlying25 rfl (.remC rfl (by decide) rfl rfl (.neq rfl rfl rfl (.move rfl rfl (.orP (b := ((Int.tmod (b1.length : Int) 96) != 0)) (b' := ((Int.tmod n_5 9) == 1)) 4 18 (fun hb7 => ?_) (fun hb8 => ?_) (fun F_9 l_10 => ?_)))))))))))
 ·skip
  refine .onH hb7 rfl rfl (.move rfl rfl (.onH hb7 rfl rfl (.remC rfl (by decide) rfl rfl (.onH hb7 rfl rfl (.eql rfl rfl rfl (.pickFH hb7 rfl rfl rfl ?_))))))
  exact .fin 4 rfl rfl (by kernel_rfl) Fz.r
 ·skip
  refine .offH hb8 rfl rfl rfl (.offH hb8 rfl rfl rfl (.offH hb8 rfl rfl rfl (.pickTH hb8 rfl rfl rfl ?_)))
  exact .fin 4 rfl rfl (by kernel_rfl) Fz.r
 refine .move rfl rfl (.orP (b := (((Int.tmod (b1.length : Int) 96) != 0) || ((Int.tmod n_5 9) == 1))) (b' := (decide (n_5 > 1152))) 3 22 (fun hb11 => ?_) (fun hb12 => ?_) (fun F_13 l_14 => ?_))
 ·skip
  refine .onH hb11 rfl rfl (.move rfl rfl (.onH hb11 rfl rfl (.gtr rfl rfl rfl (.pickFH hb11 rfl rfl rfl ?_))))
  exact .fin 3 rfl rfl (by kernel_rfl) Fz.r
 ·skip
  refine .offH hb12 rfl rfl rfl (.offH hb12 rfl rfl rfl (.pickTH hb12 rfl rfl rfl ?_))
  exact .fin 3 rfl rfl (by kernel_rfl) Fz.r
 refine .nil (.code (.cond rfl (fun hb15 => ?_) (fun hb15 => ?_)))
 ·skip
  refine .seq (.region (.assign rfl rfl (.assign rfl rfl (.nil (.code ?_)))))
  refine GC.ownNil 96 (Ex (cArr 96 (cInt .u8))) 83 (GC.hp (q := ho_split ([], false) F_13 (.tuple #[.slice none 0 0, .bool false])) 0 rfl (fun m h => ⟨none, 0, rfl, h⟩) ?_)
  exact .ret1 Tryz.results49 (.tmp rfl (.tmp rfl (.nil))) (i := 0) (j := 0) rfl rfl (Fz.t l_10 l_14) trivial
 ·skip
  refine .skip (.code (.seq (.region (.move rfl rfl (.makeSlice (z := (fun (_ : Nat) => (0 : Int))) ok_t83 rfl Tryz.underlying81 Tryz.zeroValue83 (fun _ _ => rfl) rfl rfl (fun n_16 b17 _ => ?_))))))
  refine .assign rfl rfl (.nil (.code (.seq (.seq (.region (.move rfl rfl (.lenS rfl rfl Tryz.underlying81 rfl (.move rfl rfl (.nil (.code (.block ?_)))))))))))
  refine .keep (.cons (k := 0) rfl (.cons (k := 5) rfl (.cons (k := 26) rfl (.cons (k := 27) rfl (.nil _))))) ?_
  refine .loop (fun (s19 : (List (Nat → Int)) × Int) a w => ∃ (F_20 : Fz) (p22 : Option Addr) (k23 : Nat), F_13 ≤ F_20 ∧ Hd 41 [] [(0, (.slice p2 b1.length k3)), (5, (.slice p22 s19.1.length k23)), (26, (.int .i64 ((List.replicate n_16 (fun (_ : Nat) => (0 : Int))).length : Int))), (27, (.int .i64 s19.2))] F_20 [ownSl 96 (Ex (cArr 96 (cInt .u8))) F_20 83 p22 k23 s19.1, R] a w) (fun b47 e a w => e = .exit 0 ∧ ∃ (F_48 : Fz) (p50 : Option Addr) (k51 : Nat), F_13 ≤ F_48 ∧ Hd 41 [] [(5, (.slice p50 b47.length k51))] F_48 [ownSl 96 (Ex (cArr 96 (cInt .u8))) F_48 83 p50 k51 b47, R] a w) ?_ ?_ ?_
  ·exact fun a w h => ⟨F_13, (some ⟨b17, 0, none⟩), (n_5).toNat, Fz.r, h.1.sub (.cons (k := 0) rfl (.cons (k := 5) rfl (.cons (k := 26) rfl (.cons (k := 27) rfl (.nil _))))), h.2⟩
  ·intro s19 ctl
   refine GC.ex (fun a w ⟨F_20, p22, k23, l_21, hA⟩ => ⟨_, hA, ?_⟩)
   unfold b_file_split_1
   refine .seq (.region (.lss rfl rfl rfl (.nil (.code (.seq (.cond rfl (fun hb25 => ?_) (fun hb25 => ?_)))))))
   ·skip
    refine .skip (.code (.seq (.block (.seq (.region (.move rfl rfl (.assign rfl rfl (.nil (.code (.region (.move rfl rfl ?_)))))))))))
    refine .move rfl rfl (.move rfl rfl (.move rfl rfl (.mul rfl rfl rfl (.sliceLo rfl Tryz.underlying25 Tryz.sizeOf5 (h4.mono (Fz.t l_10 (Fz.t l_14 l_21))) rfl rfl (fun l_26 p27 k28 e29 h30 => ?_)))))
    refine .toArrP rfl Tryz.underlying83 rfl h30 rfl (fun f31 b32 o33 T34 fr35 cs36 e37 hm38 hv39 => ?_)
    refine .loadFA rfl Tryz.isAgg83 Tryz.sizeOf83 rfl hm38 hv39 rfl (.bind (fun x40 e41 => ?_))
    refine .ownAddr 0 rfl e41 (fun b42 hp43 => ?_)
    refine .idxOwn rfl Tryz.underlying81 Tryz.sizeOf83 hp43 e41 rfl rfl (.letv (fun l_44 e45 => ?_))
    have hn46 : s19.1.length = l_44.length := by rw [e45, List.length_set]
    refine .storeOwn0 (z' := f31) (off := 0) (us := ((cArr 96 (cInt .u8)) f31)) 0 rfl Tryz.sizeOf83 hp43 e41 rfl rfl rfl rfl rfl rfl rfl (fun F' vs le h => by subst h; exact (setMany_all (by rfl))) e45 (.nil (.block (.code (.region (.add rfl rfl rfl (.move rfl rfl (.nil (.reslot 5 rfl (v' := .slice p22 l_44.length k23) (by rw [hn46]) ?_))))))))
    exact .nil (LPost.norm fun a w h => ⟨F_20, p22, k23, l_21, h.1.sub (.cons (k := 0) rfl (.cons (k := 5) rfl (.cons (k := 26) rfl (.cons (k := 27) rfl (.nil _))))), h.2⟩)
   ·skip
    refine .exitOut rfl (LPost.exit fun a w h => ⟨rfl, F_20, p22, k23, l_21, h.1.sub (.cons (k := 5) rfl (.nil _)), h.2⟩)
  ·intro b47 hb0 hk e a w hD
   obtain ⟨rfl, F_48, p50, k51, l_49, hA⟩ := hD
   refine interp_exit rfl (GE.app ?_ hk a w hA)
   refine .code (.seq (.region (.move rfl rfl (.assign rfl rfl (.assign rfl rfl (.nil (.code (GC.hp (q := ho_split (b47, true) F_48 (.tuple #[.slice p50 b47.length k51, .bool true])) 0 rfl (fun m h => ⟨p50, k51, rfl, h⟩) ?_))))))))
   exact .ret1 Tryz.results49 (.tmp rfl (.tmp rfl (.nil))) (i := 0) (j := 0) rfl rfl (Fz.t l_10 (Fz.t l_14 l_49)) trivial
set_option maxRecDepth 100000 in
theorem c_slices_Clone_row_own (F0 : Fz) (s1 : (List (Nat → Int))) (p2 : Option Addr) (k3 : Nat) (h4 : RepSl 96 (Ex (cArr 96 (cInt .u8))) F0 p2 k3 s1) : CT Tryz.prog 53 [(.slice p2 s1.length k3)].toArray F0 emp (m_slices_Clone_row s1) (fun _ _ _ => True) ho_clone := by
 refine CT.enter Tryz.func53 rfl Tryz.ntmps53 rfl fun r R => GC.drop 0 ?_
 unfold m_slices_Clone_row
 refine .seq (.region (.assign rfl rfl (.nil (.code (.seq (.seq (.region (.move rfl rfl (.eqlNil rfl Tryz.underlying81 rfl rfl (.nil (.code ?_)))))))))))
 rcases p2 with _ | _
 ·skip
  have h5 := h4.isNil
  subst h5
  refine .condT rfl (.seq (.region (.assign rfl rfl (.nil (.code ?_)))))
  refine GC.ownNil 96 (Ex (cArr 96 (cInt .u8))) 83 (GC.hp (q := ho_clone [] F0 (.slice none 0 0)) 0 rfl (fun m h => ⟨none, 0, rfl, h⟩) ?_)
  exact .ret1 Tryz.results53 (.tmp rfl (.nil)) (i := 0) (j := 0) rfl rfl Fz.r trivial
 ·skip
  refine .condF rfl (.skip (.code (.seq (.region (.sliceOwn0 (Ex (cArr 96 (cInt .u8))) rfl Tryz.underlying81 Tryz.sizeOf83 (fun b6 => ?_))))))
  refine .move rfl rfl (.append 0 ok_t83 Fz.r rfl Tryz.underlying81 Tryz.underlying81 rfl rfl rfl h4 rfl rfl (fun l_8 p9 k10 e11 => ?_))
  refine .assign rfl rfl (.nil (.code (GC.hp (q := ho_clone l_8 F0 (.slice p9 l_8.length k10)) 0 rfl (fun m h => ⟨p9, k10, rfl, h⟩) ?_)))
  exact .ret1 Tryz.results53 (.tmp rfl (.nil)) (i := 0) (j := 0) rfl rfl Fz.r trivial
theorem GL.bind_self {κ : Option Nat} {β : Type} {P : Program} {ops : Array Oper} {l : List Oper} {ks : List Kt} {Q : Exit → Act → World → Prop} {A : Act → World → Prop} {m : Option β} {r : β} (h : ∀ y, m = some y → GL κ P ops l ks Q A (some y) r) : GL κ P ops l ks Q A m r := fun hm => h r hm rfl
def argR (p : Option Addr) (cap : Nat) (x : Int × List Unit) (_ : Fz) (vs : List Value) : Prop := vs = [.int .i64 x.1, .slice (p.map (·.add (x.1.toNat * 96))) x.2.length (cap - x.1.toNat)]
theorem GL.cutR {κ : Option Nat} {β : Type} {ops : Array Oper} {rest : List Oper} {ks : List Kt} {Q : Exit → Act → World → Prop} {r : β} {n : Nat} {D : List Deferred} {S : List (Nat × Value)} {F : Fz} {hs : List HP} {d : Nat} {ty t e sz : TypeId} {pos : String} {after : Array Edge} {ox oy oz : Operand} {kd kd' : IntKind} {lo hi : Int} {p : Option Addr} {N cap : Nat} {f : List Unit → Option β}
  (hN : N ≤ cap) (hlo : lo < N) (hd : Nat.blt d n = true) (ht : Tryz.prog.underlying t = some (.slice e)) (hz : ∀ w, (sizeOf e).run Tryz.prog w = .ok sz w) (hx : evalS S ox = some (.slice p N cap)) (hy : evalS S oy = some (.int kd lo)) (hm : evalS S oz = some (.int kd' hi))
  (k : ∀ l, sliceL (List.replicate N ()) lo hi = some l → GL κ Tryz.prog ops rest ks Q (Hd n D ((d, .slice (p.map (·.add (lo.toNat * sz))) l.length (cap - lo.toNat)) :: S) F hs) (f l) r) :
  GL κ Tryz.prog ops (⟨some d, .slice t ox (some oy) (some oz) none, ty, pos, after, none⟩ :: rest) ks Q (Hd n D S F hs) ((sliceL (List.replicate N ()) lo hi).bind f) r :=
 GL.bind fun l hl => by
  have hl' := hl
  unfold sliceL at hl
  split at hl
  ·rename_i h
   simp only [Option.some.injEq] at hl
   simp only [List.length_replicate] at h
   have hk := k l hl'
   have hlen : l.length = hi.toNat - lo.toNat := by rw [← hl]; simp; omega
   rw [hlen] at hk
   refine GL.val hd (fun a w ha => ?_) hk
   simp only [execOp, ha.1.eval hx, ha.1.eval hy, ha.1.eval hm, Option.map_some, Option.map_none, Sem.run_bind]
   rw [run_slice_lohi ht hz (by omega) (by omega)]
   have hne : ¬ cap = lo.toNat := by omega
   rw [if_neg hne]
   rfl
  ·cases hl
theorem c_groups_raw_1 (F0 : Fz) (σ : Type) (ly : Nat) (Y : σ → Fz → HP) (y : (Int × List Unit) → σ → Option (σ × Bool)) (p4 : Option Addr) (N k5 : Nat) (hN : N ≤ k5) (hy : YieldOK Tryz.prog ly F0 (argR p4 k5) Y y) (b2 : Nat) (hb3 : F0.mem b2 = some (.cells [(.slice p4 N k5)].toArray 81)) (c7 : Int) (b8 : Nat) (hb9 : F0.mem b8 = some (.cells [(.int .i64 c7)].toArray 3)) (s0 : σ) : CT Tryz.prog 85 [(.func (.yield ly) #[] #[]), (.pointer (some ⟨b2, 0, none⟩)), (.pointer (some ⟨b8, 0, none⟩))].toArray F0 (Y s0 F0) ((loopM (gbody y (List.replicate N ()) c7) (0, s0)).bind fun b0 => match b0 with | .inl b26 => (some b26) | .inr b26 => (some b26)) (fun _ _ _ => True) (fun s' F' _ => Y s' F') := by
 refine CT.enter Tryz.func85 rfl Tryz.ntmps85 rfl fun r R => ?_
 refine .seq (.region (.assign rfl rfl (.nil (.code (.block (.keep (.cons (k := 0) rfl (.cons (k := 1) rfl (.cons (k := 2) rfl (.cons (k := 4) rfl (.nil _))))) ?_))))))
 refine .loop (fun (s10 : Int × σ) a w => ∃ (F_11 : Fz), F0 ≤ F_11 ∧ Hd 25 [] [(0, (.func (.yield ly) #[] #[])), (1, (.pointer (some ⟨b2, 0, none⟩))), (2, (.pointer (some ⟨b8, 0, none⟩))), (4, (.int .i64 s10.1))] F_11 [Y s10.2 F_11, R] a w) (fun b0 e a w => match b0 with | .inl b26 => e = .exit 0 ∧ ∃ (F_27 : Fz), F0 ≤ F_27 ∧ Hd 25 [] [] F_27 [Y b26 F_27, R] a w | .inr b26 => e = .ret ∧ ∃ (F_29 : Fz), F0 ≤ F_29 ∧ Hd 25 [] [] F_29 [Y b26 F_29, R] a w) ?_ ?_ ?_
 ·exact fun a w h => ⟨F0, Fz.r, h.1.sub (.cons (k := 0) rfl (.cons (k := 1) rfl (.cons (k := 2) rfl (.cons (k := 4) rfl (.nil _))))), h.2⟩
 ·intro s10 ctl
  refine GC.ex (fun a w ⟨F_11, l_12, hA⟩ => ⟨_, hA, ?_⟩)
  unfold gbody
  rw [List.length_replicate]
  refine .seq (.seq (.region (.move rfl rfl (.loadF rfl Tryz.isAgg81 rfl (l_12.mem _ _ hb3) rfl (.lenS rfl rfl Tryz.underlying81 rfl (.lss rfl rfl rfl (.nil (.code (.cond rfl (fun hb13 => ?_) (fun hb13 => ?_))))))))))
  ·skip
   refine .skip (.code (.seq (.block (.seq (.region (.move rfl rfl (.move rfl rfl (.loadF rfl Tryz.isAgg81 rfl (l_12.mem _ _ hb3) rfl (.move rfl rfl (.loadF rfl Tryz.isAgg81 rfl (l_12.mem _ _ hb3) rfl (.lenS rfl rfl Tryz.underlying81 rfl ?_)))))))))))
   refine .move rfl rfl (.loadF rfl Tryz.isAgg3 rfl (l_12.mem _ _ hb9) rfl (.add rfl rfl rfl (.min2 rfl rfl rfl (GL.cutR hN (of_decide_eq_true hb13) rfl Tryz.underlying81 Tryz.sizeOf83 rfl rfl rfl (fun l_14 e17 => ?_)))))
   refine .callY rfl hy rfl rfl rfl (i := 0) rfl l_12 Fz.r (fun p19 F_20 e22 l_21 => ?_)
   refine .not rfl rfl (.nil (.code (.cond rfl (fun hb23 => ?_) (fun hb23 => ?_))))
   ·skip
    refine .retQ (LPost.ret fun a w h => ⟨rfl, F_20, (Fz.t l_12 l_21), h.1.sub (.nil _), h.2⟩)
   ·skip
    refine .skip (.block (.code (.region (.move rfl rfl (.loadF rfl Tryz.isAgg3 rfl ((Fz.t l_12 l_21).mem _ _ hb9) rfl (.add rfl rfl rfl (.assignL rfl rfl (fun at_24 e25 => ?_))))))))
    refine .nil ?_
    exact .nil (LPost.norm fun a w h => ⟨F_20, (Fz.t l_12 l_21), h.1.sub (.cons (k := 0) rfl (.cons (k := 1) rfl (.cons (k := 2) rfl (.cons (k := 4) rfl (.nil _))))), h.2⟩)
  ·skip
   refine .exitOut rfl (LPost.exit fun a w h => ⟨rfl, F_11, l_12, h.1.sub (.nil _), h.2⟩)
 ·intro b26 hb0 hk e a w hD
  rcases b26 with b26 | b26
  ·skip
   obtain ⟨rfl, F_27, l_28, hA⟩ := hD
   refine interp_exit rfl (GE.app ?_ hk a w hA)
   exact .end1 Tryz.results85 .nil (i := 0) rfl (j := 0) rfl l_28 trivial
  obtain ⟨rfl, F_29, l_30, hA⟩ := hD
  exact interp_ret ((ret_post Tryz.results85 .nil (i := 0) rfl (j := 0) rfl l_30 trivial) hk a w hA)
theorem c_groups_raw (F0 : Fz) (p2 : Option Addr) (N k3 : Nat) (hN : N ≤ k3) (size5 : Int) : CT0 Tryz.prog 50 [(.slice p2 N k3), (.int .i64 size5)].toArray F0 (groupsO (List.replicate N ()) size5) (fun r F v => ∃ (k0 : List Value), v = (.func (.func 85) #[] k0.toArray) ∧ RepIter Tryz.prog F 85 k0 (argR p2 k3) r) := by
 refine CT0.enter Tryz.func50 rfl Tryz.ntmps50 rfl fun r R => ?_
 refine .seq (.region (.boxF (cs := [(.slice p2 N k3)]) rfl rfl rfl (fun b6 F_7 l_8 hb9 => ?_)))
 refine .boxF (cs := [(.int .i64 size5)]) rfl rfl rfl (fun b10 F_11 l_12 hb13 => ?_)
 refine .assign rfl rfl (.nil (.code (.seq (.region (.makeFunc rfl rfl ?_)))))
 refine GL.bind_self fun r' hr => ?_
 have h16 : RepIter Tryz.prog F_11 85 [(.pointer (some ⟨b6, 0, none⟩)), (.pointer (some ⟨b10, 0, none⟩))] (argR p2 k3) r' := ⟨Tryz.call85, fun σ ly Y y F' le' hy s r' hr' => c_groups_raw_1 F' σ ly Y y p2 N k3 hN hy b6 (le'.mem _ _ (l_12.mem _ _ hb9)) size5 b10 (le'.mem _ _ hb13) s r' (groups_it hr hr')⟩
 refine .assign rfl rfl (.nil (.code ?_))
 exact .ret0 Tryz.results50 (.tmp rfl (.nil)) (i := 0) rfl (Fz.t l_8 l_12) ⟨[(.pointer (some ⟨b6, 0, none⟩)), (.pointer (some ⟨b10, 0, none⟩))], rfl, h16⟩
theorem b_file_mend_len {L : List (Nat → Int)} {x : Bool × List (Nat → Int)} (h : m_file_mend L = some x) : x.2.length = L.length := by
 unfold m_file_mend at h
 cases h0 : okB (decide (1 ≤ L.length ∧ L.length ≤ 1000000000)) with
 | none => rw [h0] at h; cases h
 | some u =>
  rw [h0] at h
  simp only [Option.bind_some] at h
  cases h1 : loopM (b_file_mend_1 L (L.length - 1)) (0, -1) with
  | none => rw [h1] at h; cases h
  | some c =>
   rw [h1] at h
   simp only [Option.bind_some] at h
   cases c with
   | inl bad =>
    simp only at h
    cases h2 : j_file_mend L (L.length - 1) bad with
    | none => rw [h2] at h; cases h
    | some c2 =>
     rw [h2] at h
     simp only [Option.bind_some] at h
     cases c2 with
     | next L' =>
      have hl : L'.length = L.length := by
       unfold j_file_mend at h2
       split at h2
       ·cases h3 : L[L.length - 1]? with
        | none => rw [h3] at h2; cases h2
        | some f0 =>
         rw [h3] at h2
         simp only [Option.bind_some] at h2
         cases h4 : loopM (b_file_mend_2 L (L.length - 1) bad) (0, f0) with
         | none => rw [h4] at h2; cases h2
         | some lost =>
          rw [h4] at h2
          simp only [Option.bind_some, bindv] at h2
          cases h5 : m_file_row_right (updN lost 95 10) with
          | none => rw [h5] at h2; cases h2
          | some y =>
           rw [h5] at h2
           simp only [Option.bind_some] at h2
           split at h2
           ·cases h2
           ·cases h6 : idxO L.length bad with
            | none => rw [h6] at h2; cases h2
            | some q => rw [h6] at h2; simp only [Option.bind_some, Option.some.injEq, Ctl.next.injEq] at h2; rw [← h2]; simp
       ·simp only [Option.some.injEq, Ctl.next.injEq] at h2; rw [← h2]
      simp only at h
      unfold t_file_mend at h
      cases h3 : m_file_guard (L'.take (L.length - 1)) with
      | none => rw [h3] at h; cases h
      | some g => rw [h3] at h; simp only [Option.bind_some, Option.some.injEq] at h; rw [← h]; simpa using hl
     | done u => simp only [Option.some.injEq] at h; rw [← h]
   | inr u => simp only [Option.some.injEq] at h; rw [← h]
noncomputable def b_file_Repair_1 (x : Int × List Unit) (L : List (Nat → Int)) : Option (Ctl (List (Nat → Int)) Unit) :=
 (okB (decide (1 ≤ x.2.length ∧ x.1.toNat + x.2.length ≤ L.length))).bind fun _ => (m_file_mend ((L.drop x.1.toNat).take x.2.length)).bind fun r => if (!r.1) then some (.done ()) else some (.next (L.take x.1.toNat ++ (r.2 ++ L.drop (x.1.toNat + x.2.length))))
noncomputable def b_file_Repair_2 (L : List (Nat → Int)) (r_29 : (List (Nat → Int))) (s74 : Int × (List Int) × (List Int)) : Option (Ctl (Int × (List Int) × (List Int)) (((List Int) × (List Int)))) :=
 if (decide (s74.1 < (L.length : Int))) then (((idxL L s74.1).bind fun x84 => (appO s74.2.1 (arrL 96 x84)).bind fun l_99 => (idxL r_29 s74.1).bind fun x103 => (if (!(eq_83 x84 x103)) then ((appO s74.2.2 ([s74.1])).bind fun l_119 => some l_119) else (some s74.2.2) : Option ((List Int))).bind fun j123 => some (l_99, j123) : Option ((List Int) × (List Int))).bind fun j129 => some (.next ((w64 (s74.1 + 1)), j129.1, j129.2))) else (some (.done (s74.2.1, s74.2.2)))
noncomputable def m_file_Repair (b1 : (List Int)) : Option ((List Int) × (List Int) × Int) :=
 (m_file_split b1).bind fun r_12 => if (!r_12.2) then (some ([], [], 8)) else ((m_slices_Clone_row r_12.1).bind fun r_29 => (groupsO (List.replicate r_12.1.length ()) 9).bind fun r_35 => (retL b_file_Repair_1 r_35 r_12.1).bind fun c => match c with
  | .next L => ((loopM (b_file_Repair_2 L r_29) (0, [], [])).bind fun b138 => some (b138.1, b138.2, 0))
  | .done _ => some ([], [], 10))
set_option maxRecDepth 100000 in
set_option maxHeartbeats 4000000 in
theorem c_file_Repair (F0 : Fz) (hT : TabsP F0) (b1 : (List Int)) (p2 : Option Addr) (k3 : Nat) (h4 : RepSl 1 (Ex (cInt .u8)) F0 p2 k3 b1) : CT0 Tryz.prog 21 [(.slice p2 b1.length k3)].toArray F0 (m_file_Repair b1) (fun r F v => ∃ (p0 : Option Addr) (k0 : Nat) (p1 : Option Addr) (k1 : Nat), v = .tuple #[(.slice p0 r.1.length k0), (.slice p1 r.2.1.length k1), (.int .i64 r.2.2)] ∧ RepSl 1 (Ex (cInt .u8)) F p0 k0 r.1 ∧ RepSl 1 (Ex (cInt .i64)) F p1 k1 r.2.1) := by
 refine CT0.enterM Tryz.func21 rfl Tryz.ntmps21 rfl fun r R => ?_
 unfold m_file_Repair
 refine .seq (.region (.alloc (cs := [(.slice none 0 0)]) rfl Tryz.zeroValue25 rfl (fun b5 => ?_)))
 refine .ownNil 1 (Ex (cInt .u8)) 5 (.alloc (cs := [(.slice none 0 0)]) rfl Tryz.zeroValue31 rfl (fun b7 => ?_))
 refine .ownNil 1 (Ex (cInt .i64)) 3 (.alloc (cs := [(.int .i64 0)]) rfl Tryz.zeroValue26 rfl (fun b9 => ?_))
 refine .nil (.code (.seq (.region (.move rfl rfl (.callOwn rfl Tryz.call49 rfl rfl rfl (c_file_split_own _ b1 p2 k3 h4) (fun r_12 F_10 p13 k14 _ l_11 => ?_))))))
 refine .ownLen 0 rfl (fun hN hcm => ?_)
 refine .move rfl rfl (.extract rfl rfl rfl (.extract rfl rfl rfl (.assign rfl rfl (.assign rfl rfl (.nil (.code (.seq (.seq (.region (.move rfl rfl (.not rfl rfl ?_)))))))))))
 refine .nil (.code (.cond rfl (fun hb16 => ?_) (fun hb16 => ?_)))
 ·skip
  refine .drop 0 (.seq (.region (.ownNil 1 (Ex (cInt .u8)) 5 (.ownConv 0 rfl (show [] = [] from rfl) (.ownNil 1 (Ex (cInt .u8)) 5 (.store (cs' := [(.slice none 0 0)]) Tryz.sizeOf25 rfl rfl rfl rfl (i := 6) rfl (Nat.le_of_ble_eq_true rfl) rfl rfl (.ownNil 1 (Ex (cInt .i64)) 3 (.ownConv 0 rfl (show [] = [] from rfl) (.ownNil 1 (Ex (cInt .i64)) 3 ?_)))))))))
  refine .store (cs' := [(.slice none 0 0)]) Tryz.sizeOf31 rfl rfl rfl rfl (i := 6) rfl (Nat.le_of_ble_eq_true rfl) rfl rfl (.store (cs' := [(.int .i64 8)]) Tryz.sizeOf26 rfl rfl rfl rfl (i := 4) rfl (Nat.le_of_ble_eq_true rfl) rfl rfl (.nil (.code (.freezeSl 2 rfl Fz.r (fun F_21 l_22 h23 => ?_)))))
  refine .freezeSl 0 rfl l_22 (fun F_24 l_25 h26 => ?_)
  exact .ret0M [] Tryz.results21 trivial (.cell rfl Tryz.isAgg25 (i := 6) rfl rfl (.cell rfl Tryz.isAgg31 (i := 4) rfl rfl (.cell rfl Tryz.isAgg26 (i := 2) rfl rfl (.nil)))) (i := 7) rfl (Fz.t l_11 (Fz.t l_22 l_25)) ⟨none, 0, none, 0, rfl, (h23.mono l_25), h26⟩
 ·skip
  refine .skip (.code (.seq (.region (.move rfl rfl (.callLendOwn 0 rfl rfl Tryz.call53 rfl rfl rfl (fun F1 _ h => c_slices_Clone_row_own F1 r_12.1 p13 k14 h) (fun r_29 F_26 p30 k31 _ l_27 => ?_))))))
  refine .freezeSl 0 rfl Fz.r (fun F_27 l_28' h32 => ?_)
  have l_28 := Fz.t l_27 l_28'
  refine .assign rfl rfl (.nil (.code (.seq (.seq (.region (.move rfl rfl (.call0 rfl Tryz.call50 rfl rfl rfl (c_groups_raw _ p13 r_12.1.length k14 hN 9) ?_)))))))
  rintro r_35 F_33 _ - l_34 ⟨k37, rfl, h38⟩
  refine .nil (.code (.block (.keep (.cons (k := 2) rfl (.cons (k := 3) rfl (.cons (k := 4) rfl (.cons (k := 5) rfl (.cons (k := 7) rfl (.cons (k := 22) rfl (.nil _))))))) (.ownUp 0 (Fz.t l_28 l_34) rfl ?_))))
  refine .rangeRet (τ := List (Nat → Int)) (γ := Unit) (fun L F_40 hs' => hs' = [ownSl 96 (Ex (cArr 96 (cInt .u8))) F_40 83 p13 k14 L, pt b9 (.cells [(.int .i64 0)].toArray 26), ownSl 1 (Ex (cInt .i64)) F0 3 none 0 [], pt b7 (.cells [(.slice none 0 0)].toArray 31), ownSl 1 (Ex (cInt .u8)) F0 5 none 0 [], pt b5 (.cells [(.slice none 0 0)].toArray 25), R] ∧ L.length = r_12.1.length)
   (fun _ F_40 hs' => hs' = [ownSl 1 (Ex (cInt .u8)) F_40 5 none 0 [], ownSl 1 (Ex (cInt .i64)) F_40 3 none 0 [], pt b9 (.cells [(.int .i64 10)].toArray 26), pt b7 (.cells [(.slice none 0 0)].toArray 31), pt b5 (.cells [(.slice none 0 0)].toArray 25), R]) rfl h38 rfl (fun _ _ _ h => by rw [show _ = _ from h]; rfl) ⟨rfl, rfl⟩ ?_ ?_ ?_
  ·intro lp Lp F_40 F_44 x vs L ctl Rp hs' l_42 l_43 hx hI
   obtain rfl : vs = _ := hx
   obtain ⟨rfl, hLl⟩ := hI
   unfold b_file_Repair_1
   refine .bind fun _ hk => ?_
   have hk := okB_some hk
   simp only [decide_eq_true_eq] at hk
   refine .keep (.cons (k := 2) rfl (.cons (k := 3) rfl (.cons (k := 4) rfl (.cons (k := 5) rfl (.cons (k := 7) rfl (.cons (k := 22) rfl (.cons (k := 23) rfl (.cons (k := 24) rfl (.nil _))))))))) (.region (.assign rfl rfl (.nil ?_)))
   refine GE.begin 0 rfl ?_
   refine .block (.seq (.region (.move rfl rfl (.ownRows 2 rfl hk.1 hk.2 rfl Tryz.call54 rfl rfl (fun _ _ h => b_file_mend_len h) (fun b pre post M c h1 h2 => c_file_mend _ (hT.mono (Fz.t l_11 (Fz.t l_28 (Fz.t l_34 (Fz.t l_42 l_43))))) b pre post M c h1 h2) (fun r_56 F_54 hr56 l_55 => ?_)))))
   refine .not rfl rfl (.nil (.code (.cond rfl (fun hb57 => ?_) (fun hb57 => ?_))))
   ·skip
    refine .drop 2 (.drop 3 (.drop 4 (.seq (.region (.store (cs' := [(.slice none 0 0)]) Tryz.sizeOf25 rfl rfl rfl rfl (i := 4) rfl (Nat.le_of_ble_eq_true rfl) rfl rfl (.store (cs' := [(.slice none 0 0)]) Tryz.sizeOf31 rfl rfl rfl rfl (i := 3) rfl (Nat.le_of_ble_eq_true rfl) rfl rfl (.store (cs' := [(.int .i64 10)]) Tryz.sizeOf26 rfl rfl rfl rfl (i := 2) rfl (Nat.le_of_ble_eq_true rfl) rfl rfl (.ownNil 1 (Ex (cInt .i64)) 3 (.ownNil 1 (Ex (cInt .u8)) 5 (.nil (.code ?_)))))))))))
    refine .pick [2, 2, 0, 0, 0, 0, 0, 0] (rfl : _ = [_, _, _, _, _, _, _, _]) ?_
    exact .retQ (RP.ret l_55 rfl rfl)
   ·skip
    refine .skip (.block ?_)
    refine .nil (RP.norm l_55 ⟨rfl, ?_⟩ rfl)
    have h9 := b_file_mend_len hr56
    simp only [List.length_append, List.length_take, List.length_drop] at h9 ⊢
    omega
  ·intro q62 F_64 F_65 L hs' l_66 l_67 he hI
   obtain ⟨rfl, hLl⟩ := hI
   refine .block (.code (.seq (.seq (.region (.freezeSl 1 rfl l_67 (fun F_65' l_67' h15 => ?_))))))
   refine .reslot 5 rfl (v' := .slice p13 L.length k14) (by rw [hLl]; rfl) (.move rfl rfl (.lenS rfl rfl Tryz.underlying81 rfl (.move rfl rfl (.nil (.code (.block (.keep (.cons (k := 2) rfl (.cons (k := 3) rfl (.cons (k := 4) rfl (.cons (k := 7) rfl (.cons (k := 28) rfl (.cons (k := 29) rfl (.cons (k := 30) rfl (.nil _)))))))) ?_)))))))
   refine .ownUp 4 (Fz.t l_11 (Fz.t l_28 (Fz.t l_34 (Fz.t l_66 (Fz.t l_67 l_67'))))) rfl (.ownUp 2 (Fz.t l_11 (Fz.t l_28 (Fz.t l_34 (Fz.t l_66 (Fz.t l_67 l_67'))))) rfl ?_)
   refine .loop (fun (s74 : Int × (List Int) × (List Int)) a w => ∃ (F_75 : Fz) (p77 : Option Addr) (k78 : Nat) (p80 : Option Addr) (k81 : Nat), F_65' ≤ F_75 ∧ Hd 51 [dmark q62] [(2, (.pointer (some ⟨b5, 0, none⟩))), (3, (.pointer (some ⟨b7, 0, none⟩))), (4, (.pointer (some ⟨b9, 0, none⟩))), (7, (.slice p30 r_29.length k31)), (28, (.slice p13 L.length k14)), (29, (.int .i64 (L.length : Int))), (30, (.int .i64 s74.1))] F_75 [pt q62 (.deferred (some [])), pt b9 (.cells [(.int .i64 0)].toArray 26), ownSl 1 (Ex (cInt .i64)) F_75 3 p80 k81 s74.2.2, pt b7 (.cells [(.slice p80 s74.2.2.length k81)].toArray 31), ownSl 1 (Ex (cInt .u8)) F_75 5 p77 k78 s74.2.1, pt b5 (.cells [(.slice p77 s74.2.1.length k78)].toArray 25), R] a w) (fun b138 e a w => e = .exit 2 ∧ ∃ (F_139 : Fz) (p141 : Option Addr) (k142 : Nat) (p144 : Option Addr) (k145 : Nat), F_65' ≤ F_139 ∧ Hd 51 [dmark q62] [(2, (.pointer (some ⟨b5, 0, none⟩))), (3, (.pointer (some ⟨b7, 0, none⟩))), (4, (.pointer (some ⟨b9, 0, none⟩)))] F_139 [pt q62 (.deferred (some [])), pt b9 (.cells [(.int .i64 0)].toArray 26), ownSl 1 (Ex (cInt .i64)) F_139 3 p144 k145 b138.2, pt b7 (.cells [(.slice p144 b138.2.length k145)].toArray 31), ownSl 1 (Ex (cInt .u8)) F_139 5 p141 k142 b138.1, pt b5 (.cells [(.slice p141 b138.1.length k142)].toArray 25), R] a w) ?_ ?_ ?_
   ·exact fun a w h => ⟨F_65', none, 0, none, 0, Fz.r, h.1.sub (.cons (k := 2) rfl (.cons (k := 3) rfl (.cons (k := 4) rfl (.cons (k := 7) rfl (.cons (k := 28) rfl (.cons (k := 29) rfl (.cons (k := 30) rfl (.nil _)))))))), h.2⟩
   ·intro s74 ctl
    refine GC.ex (fun a w ⟨F_75, p77, k78, p80, k81, l_76, hA⟩ => ⟨_, hA, ?_⟩)
    unfold b_file_Repair_2
    refine .seq (.region (.lss rfl rfl rfl (.nil (.code (.seq (.cond rfl (fun hb83 => ?_) (fun hb83 => ?_)))))))
    ·skip
     refine .skip (.code (.seq (.keep (.cons (k := 2) rfl (.cons (k := 3) rfl (.cons (k := 4) rfl (.cons (k := 7) rfl (.cons (k := 28) rfl (.cons (k := 29) rfl (.cons (k := 30) rfl (.nil _)))))))) ?_)))
     refine GC.join0 (σ := (List Int) × (List Int)) (fun j129 a w => ∃ (F_130 : Fz) (p132 : Option Addr) (k133 : Nat) (p135 : Option Addr) (k136 : Nat), F_75 ≤ F_130 ∧ Hd 51 [dmark q62] [(2, (.pointer (some ⟨b5, 0, none⟩))), (3, (.pointer (some ⟨b7, 0, none⟩))), (4, (.pointer (some ⟨b9, 0, none⟩))), (7, (.slice p30 r_29.length k31)), (28, (.slice p13 L.length k14)), (29, (.int .i64 (L.length : Int))), (30, (.int .i64 s74.1))] F_130 [pt q62 (.deferred (some [])), pt b9 (.cells [(.int .i64 0)].toArray 26), ownSl 1 (Ex (cInt .i64)) F_130 3 p135 k136 j129.2, pt b7 (.cells [(.slice p135 j129.2.length k136)].toArray 31), ownSl 1 (Ex (cInt .u8)) F_130 5 p132 k133 j129.1, pt b5 (.cells [(.slice p132 j129.1.length k133)].toArray 25), R] a w) (fun sj => ?_) (fun j129 hs0 => GE.ex (fun a w ⟨F_130, p132, k133, p135, k136, l_131, hA⟩ => ⟨_, hA, ?_⟩))
     ·skip
      refine .block (.seq (.region (.move rfl rfl (.idx rfl Tryz.underlying81 Tryz.sizeOf83 (h15.mono l_76) rfl rfl (fun x84 b85 o86 T87 fr88 cs89 e90 hm91 hv92 => ?_)))))
      refine .loadFA rfl Tryz.isAgg83 Tryz.sizeOf83 rfl hm91 hv92 rfl (.alloc (cs := ((cArr 96 (cInt .u8)) (fun (_ : Nat) => (0 : Int)))) rfl Tryz.zeroValue83 rfl (fun b94 => ?_))
      refine .assign rfl rfl (.store (cs' := ((cArr 96 (cInt .u8)) x84)) Tryz.sizeOf83 rfl rfl rfl rfl (i := 0) rfl (Nat.le_of_ble_eq_true rfl) rfl (setMany_all (by rfl)) (.nil (.code (.seq (.freeze 0 rfl (fun F_95 l_96 hb97 => ?_))))))
      refine .keep (.cons (k := 2) rfl (.cons (k := 3) rfl (.cons (k := 4) rfl (.cons (k := 7) rfl (.cons (k := 10) rfl (.cons (k := 11) rfl (.cons (k := 28) rfl (.cons (k := 29) rfl (.cons (k := 30) rfl (.nil _)))))))))) (.drawZ 2 mixedOK (by kernel_rfl) (.loadO rfl Tryz.isAgg25 rfl (i := 5) rfl rfl ?_))
      have h98 : RepSl 1 (Ex (cInt .u8)) F_95 (some ⟨b94, 0, none⟩) 96 (arrL 96 x84) := RepSl.ofArr (cs := ((cArr 96 (cInt .u8)) x84)) hb97 (arrL_len _ _) rfl (arrL_all (allLt96 (p := fun j => ∀ F', F_95 ≤ F' → ((((cArr 96 (cInt .u8)) x84)).drop (0 + j * 1)).take 1 = (cInt .u8) (x84 j)) (fun _ _ => rfl) (fun _ _ => rfl) (fun _ _ => rfl) (fun _ _ => rfl) (fun _ _ => rfl) (fun _ _ => rfl) (fun _ _ => rfl) (fun _ _ => rfl) (fun _ _ => rfl) (fun _ _ => rfl) (fun _ _ => rfl) (fun _ _ => rfl) (fun _ _ => rfl) (fun _ _ => rfl) (fun _ _ => rfl) (fun _ _ => rfl) (fun _ _ => rfl) (fun _ _ => rfl) (fun _ _ => rfl) (fun _ _ => rfl) (fun _ _ => rfl) (fun _ _ => rfl) (fun _ _ => rfl) (fun _ _ => rfl) (fun _ _ => rfl) (fun _ _ => rfl) (fun _ _ => rfl) (fun _ _ => rfl) (fun _ _ => rfl) (fun _ _ => rfl) (fun _ _ => rfl) (fun _ _ => rfl) (fun _ _ => rfl) (fun _ _ => rfl) (fun _ _ => rfl) (fun _ _ => rfl) (fun _ _ => rfl) (fun _ _ => rfl) (fun _ _ => rfl) (fun _ _ => rfl) (fun _ _ => rfl) (fun _ _ => rfl) (fun _ _ => rfl) (fun _ _ => rfl) (fun _ _ => rfl) (fun _ _ => rfl) (fun _ _ => rfl) (fun _ _ => rfl) (fun _ _ => rfl) (fun _ _ => rfl) (fun _ _ => rfl) (fun _ _ => rfl) (fun _ _ => rfl) (fun _ _ => rfl) (fun _ _ => rfl) (fun _ _ => rfl) (fun _ _ => rfl) (fun _ _ => rfl) (fun _ _ => rfl) (fun _ _ => rfl) (fun _ _ => rfl) (fun _ _ => rfl) (fun _ _ => rfl) (fun _ _ => rfl) (fun _ _ => rfl) (fun _ _ => rfl) (fun _ _ => rfl) (fun _ _ => rfl) (fun _ _ => rfl) (fun _ _ => rfl) (fun _ _ => rfl) (fun _ _ => rfl) (fun _ _ => rfl) (fun _ _ => rfl) (fun _ _ => rfl) (fun _ _ => rfl) (fun _ _ => rfl) (fun _ _ => rfl) (fun _ _ => rfl) (fun _ _ => rfl) (fun _ _ => rfl) (fun _ _ => rfl) (fun _ _ => rfl) (fun _ _ => rfl) (fun _ _ => rfl) (fun _ _ => rfl) (fun _ _ => rfl) (fun _ _ => rfl) (fun _ _ => rfl) (fun _ _ => rfl) (fun _ _ => rfl) (fun _ _ => rfl) (fun _ _ => rfl) (fun _ _ => rfl) (fun _ _ => rfl) (fun _ _ => rfl)))
      refine .sliceArr rfl Tryz.underlying83 Tryz.sizeOf5 rfl rfl ?_
      skip
      refine .pend (.append 4 ok_t5 l_96 rfl Tryz.underlying25 Tryz.underlying25 rfl rfl rfl h98 rfl rfl (fun l_99 p100 k101 e102 => ?_))
      refine .store (cs' := [(.slice p100 l_99.length k101)]) Tryz.sizeOf25 rfl rfl rfl rfl (i := 5) rfl (Nat.le_of_ble_eq_true rfl) rfl rfl (.nil (.code (.seq (.keep (.cons (k := 2) rfl (.cons (k := 3) rfl (.cons (k := 4) rfl (.cons (k := 7) rfl (.cons (k := 10) rfl (.cons (k := 11) rfl (.cons (k := 28) rfl (.cons (k := 29) rfl (.cons (k := 30) rfl (.nil _)))))))))) (.drawZ 6 mixedOK (by kernel_rfl) ?_)))))
      refine .loadFA rfl Tryz.isAgg83 Tryz.sizeOf83 rfl hb97 (vs := ((cArr 96 (cInt .u8)) x84)) (by kernel_rfl) rfl (.move rfl rfl (.move rfl rfl (.idx rfl Tryz.underlying81 Tryz.sizeOf83 (h32.mono (Fz.t l_34 (Fz.t l_66 (Fz.t l_67 (Fz.t l_67' (Fz.t l_76 l_96)))))) rfl rfl (fun x103 b104 o105 T106 fr107 cs108 e109 hm110 hv111 => ?_))))
      refine .loadFA rfl Tryz.isAgg83 Tryz.sizeOf83 rfl hm110 hv111 rfl (.neqR rfl Tryz.eqGuardType83 (fun w => req_83 x84 x103 w) rfl rfl (.pend (.nil (.code (.keep (.cons (k := 2) rfl (.cons (k := 3) rfl (.cons (k := 4) rfl (.cons (k := 7) rfl (.cons (k := 10) rfl (.cons (k := 28) rfl (.cons (k := 29) rfl (.cons (k := 30) rfl (.cons (k := 43) rfl (.nil _)))))))))) ?_)))))
      refine GC.join0 (σ := (List Int)) (fun j123 a w => ∃ (F_124 : Fz) (p126 : Option Addr) (k127 : Nat), F_95 ≤ F_124 ∧ Hd 51 [dmark q62] [(2, (.pointer (some ⟨b5, 0, none⟩))), (3, (.pointer (some ⟨b7, 0, none⟩))), (4, (.pointer (some ⟨b9, 0, none⟩))), (7, (.slice p30 r_29.length k31)), (28, (.slice p13 L.length k14)), (29, (.int .i64 (L.length : Int))), (30, (.int .i64 s74.1))] F_124 [pt q62 (.deferred (some [])), pt b9 (.cells [(.int .i64 0)].toArray 26), ownSl 1 (Ex (cInt .i64)) F_124 3 p126 k127 j123, pt b7 (.cells [(.slice p126 j123.length k127)].toArray 31), ownSl 1 (Ex (cInt .u8)) F_95 5 p100 k101 l_99, pt b5 (.cells [(.slice p100 l_99.length k101)].toArray 25), R] a w) (fun sj => ?_) (fun j123 hs0 => GE.ex (fun a w ⟨F_124, p126, k127, l_125, hA⟩ => ⟨_, hA, ?_⟩))
      ·skip
       refine .cond rfl (fun hb113 => ?_) (fun hb113 => ?_)
       ·skip
        refine .region (.loadO rfl Tryz.isAgg31 rfl (i := 3) rfl rfl (.move rfl rfl (.sliceLit (cs := [.int .i64 s74.1]) (zc := [.int .i64 0]) rfl Tryz.underlying31 Tryz.sizeOf3 Tryz.zeroValue3 rfl rfl rfl (by kernel_rfl) (by kernel_rfl) (fun b114 F_115 l_116 hb117 => ?_))))
        have h118 : RepSl 1 (Ex (cInt .i64)) F_115 (some ⟨b114, 0, none⟩) 1 ([s74.1]) := RepSl.ofRow hb117 (.cons ok_t3.mono rfl .nil) rfl rfl
        refine .append 2 ok_t3 (Fz.t l_96 l_116) rfl Tryz.underlying31 Tryz.underlying31 rfl rfl rfl h118 rfl rfl (fun l_119 p120 k121 e122 => ?_)
        refine .store (cs' := [(.slice p120 l_119.length k121)]) Tryz.sizeOf31 rfl rfl rfl rfl (i := 3) rfl (Nat.le_of_ble_eq_true rfl) rfl rfl (.nil ?_)
        exact .nil fun e a w h => by cases e; exact ⟨rfl, ⟨F_115, p120, k121, l_116, h.1.sub (.cons (k := 2) rfl (.cons (k := 3) rfl (.cons (k := 4) rfl (.cons (k := 7) rfl (.cons (k := 28) rfl (.cons (k := 29) rfl (.cons (k := 30) rfl (.nil _)))))))), h.2⟩⟩
       ·skip
        refine .skip (.ownUp 2 l_96 rfl ?_)
        exact .nil fun e a w h => by cases e; exact ⟨rfl, ⟨F_95, p80, k81, Fz.r, h.1.sub (.cons (k := 2) rfl (.cons (k := 3) rfl (.cons (k := 4) rfl (.cons (k := 7) rfl (.cons (k := 28) rfl (.cons (k := 29) rfl (.cons (k := 30) rfl (.nil _)))))))), h.2⟩⟩
      refine .block (.ownUp 4 l_125 rfl ?_)
      exact .nil fun e a w h => by cases e; exact ⟨rfl, ⟨F_124, p100, k101, p126, k127, (Fz.t l_96 l_125), h.1.sub (.cons (k := 2) rfl (.cons (k := 3) rfl (.cons (k := 4) rfl (.cons (k := 7) rfl (.cons (k := 28) rfl (.cons (k := 29) rfl (.cons (k := 30) rfl (.nil _)))))))), h.2⟩⟩
     refine .code (.region (.add rfl rfl rfl (.move rfl rfl (.nil ?_))))
     exact .nil (LPost.norm fun a w h => ⟨F_130, p132, k133, p135, k136, (Fz.t l_76 l_131), h.1.sub (.cons (k := 2) rfl (.cons (k := 3) rfl (.cons (k := 4) rfl (.cons (k := 7) rfl (.cons (k := 28) rfl (.cons (k := 29) rfl (.cons (k := 30) rfl (.nil _)))))))), h.2⟩)
    ·skip
     refine .exitOut rfl (LPost.exit fun a w h => ⟨rfl, F_75, p77, k78, p80, k81, l_76, h.1.sub (.cons (k := 2) rfl (.cons (k := 3) rfl (.cons (k := 4) rfl (.nil _)))), h.2⟩)
   ·intro b138 hb0 hk e a w hD
    obtain ⟨rfl, F_139, p141, k142, p144, k145, l_140, hA⟩ := hD
    refine interp_exit rfl (GE.app ?_ hk a w hA)
    refine .code (.seq (.freezeSl 4 rfl Fz.r (fun F_147 l_148 h149 => ?_)))
    refine .freezeSl 2 rfl l_148 (fun F_150 l_151 h152 => ?_)
    refine .keep (.cons (k := 2) rfl (.cons (k := 3) rfl (.cons (k := 4) rfl (.nil _)))) ?_
    refine .drawG 3 0 (fun env160 => [((.slice p141 b138.1.length k142), fun _ => True), ((.slice p144 b138.2.length k145), fun _ => True), (undef, fun _ => True)]) (fun L env160 => [pt q62 (.deferred (some [])), pt b9 (.cells [(.int .i64 0)].toArray 26), pt b7 (.cells [(.slice p144 b138.2.length k145)].toArray 31), (bif L 2 then (pt b5 (.cells [(.slice p141 b138.1.length k142)].toArray 25)) else (pt b5 (.cells [(.slice p141 b138.1.length k142)].toArray 25))), R]) mixedOK (by kernel_rfl) (by kernel_rfl) rfl (fun _ => rfl) (by kernel_rfl) (fun _ => rfl) ?_ (fun env160 F_161 l_162 hphi => ?_)
    ·skip
     refine .cons (fun L env160 F_163 l_164 hL hdn hup hphi => ⟨[(2, (.pointer (some ⟨b5, 0, none⟩)))], fun S hS hV => (.cons (hS _ _ rfl) (Sub.nil _)), ?_⟩) ?_
     ·skip
      refine .loadO rfl Tryz.isAgg25 rfl (i := 3) (congrArg some (condF (hup 1 2 rfl))) rfl ?_
      exact .finV rfl rfl Fz.r
     refine .cons (fun L env160 F_165 l_166 hL hdn hup hphi => ⟨[(3, (.pointer (some ⟨b7, 0, none⟩)))], fun S hS hV => (.cons (hS _ _ rfl) (Sub.nil _)), ?_⟩) ?_
     ·skip
      refine .loadO rfl Tryz.isAgg31 rfl (i := 2) rfl rfl ?_
      exact .finV rfl rfl Fz.r
     refine .cons (fun L env160 F_167 l_168 hL hdn hup hphi => ⟨[(2, (.pointer (some ⟨b5, 0, none⟩))), (49, (.slice p141 b138.1.length k142))], fun S hS hV => (.cons (hS _ _ rfl) (.cons (hV 0 49 _ (hdn 1 0 rfl) rfl rfl) (Sub.nil _))), ?_⟩) ?_
     ·skip
      refine .store (cs' := [(.slice p141 b138.1.length k142)]) Tryz.sizeOf25 rfl rfl rfl rfl (i := 3) (congrArg some (condF hL)) (Nat.le_of_ble_eq_true rfl) rfl rfl ?_
      exact .finS rfl Fz.r (setC 3 (condT rfl))
     exact .nil
    refine .norm (S' := [(2, (.pointer (some ⟨b5, 0, none⟩))), (3, (.pointer (some ⟨b7, 0, none⟩))), (4, (.pointer (some ⟨b9, 0, none⟩))), (49, (.slice p141 b138.1.length k142)), (50, (.slice p144 b138.2.length k145))]) (.cons (k := 2) rfl (.cons (k := 3) rfl (.cons (k := 4) rfl (.cons (k := 49) rfl (.cons (k := 50) rfl (.nil _)))))) (rfl : _ = [pt q62 (.deferred (some [])), pt b9 (.cells [(.int .i64 0)].toArray 26), pt b7 (.cells [(.slice p144 b138.2.length k145)].toArray 31), pt b5 (.cells [(.slice p141 b138.1.length k142)].toArray 25), R]) ?_
    refine .store (cs' := [(.slice p144 b138.2.length k145)]) Tryz.sizeOf31 rfl rfl rfl rfl (i := 2) rfl (Nat.le_of_ble_eq_true rfl) rfl rfl (.store (cs' := [(.int .i64 0)]) Tryz.sizeOf26 rfl rfl rfl rfl (i := 1) rfl (Nat.le_of_ble_eq_true rfl) rfl rfl (.nil (.code ?_)))
    exact .ret0M [(0, q62)] Tryz.results21 ⟨rfl, trivial⟩ (.cell rfl Tryz.isAgg25 (i := 3) rfl rfl (.cell rfl Tryz.isAgg31 (i := 2) rfl rfl (.cell rfl Tryz.isAgg26 (i := 1) rfl rfl (.nil)))) (i := 4) rfl (Fz.t l_11 (Fz.t l_28 (Fz.t l_34 (Fz.t l_66 (Fz.t l_67 (Fz.t (Fz.t l_67' l_140) (Fz.t l_148 (Fz.t l_151 l_162)))))))) ⟨p141, k142, p144, k145, rfl, (h149.mono (Fz.t l_151 l_162)), (h152.mono l_162)⟩
  ·intro q169 F_171 F_172 s170 hs' l_173 l_174 he hI
   obtain rfl : hs' = _ := hI
   refine .freezeSl 1 rfl l_174 (fun F_181 l_182 h183 => ?_)
   refine .freezeSl 1 rfl (Fz.t l_174 l_182) (fun F_184 l_185 h186 => ?_)
   exact .ret0M [(0, q169)] Tryz.results21 ⟨rfl, trivial⟩ (.cell rfl Tryz.isAgg25 (i := 3) rfl rfl (.cell rfl Tryz.isAgg31 (i := 2) rfl rfl (.cell rfl Tryz.isAgg26 (i := 1) rfl rfl (.nil)))) (i := 4) rfl (Fz.t l_11 (Fz.t l_28 (Fz.t l_34 (Fz.t l_173 (Fz.t l_174 (Fz.t l_182 l_185)))))) ⟨none, 0, none, 0, rfl, (h183.mono l_185), h186⟩
noncomputable def b_wormtubref14_Ints_1 (a1 : (List Int)) (b5 : (List Int)) (s10 : Int) : Option (Ctl (Int) ((Unit) ⊕ (Bool))) :=
 if (decide (s10 < (a1.length : Int))) then ((idxL a1 s10).bind fun x14 => (idxL b5 s10).bind fun x24 => if (x14 != x24) then (some (.done (.inr false))) else (bindv (w64 (s10 + 1)) fun i35 => some (.next i35))) else (some (.done (.inl ())))
noncomputable def m_wormtubref14_Ints (a1 : (List Int)) (b5 : (List Int)) : Option Bool :=
 if ((a1.length : Int) != (b5.length : Int)) then (some false) else ((loopM (b_wormtubref14_Ints_1 a1 b5) 0).bind fun b0 => match b0 with | .inl b37 => (some true) | .inr b37 => (some b37))
set_option maxRecDepth 100000 in
set_option maxHeartbeats 4000000 in
theorem c_wormtubref14_Ints (F0 : Fz) (a1 : (List Int)) (p2 : Option Addr) (k3 : Nat) (h4 : RepSl 1 (Ex (cInt .i64)) F0 p2 k3 a1) (b5 : (List Int)) (p6 : Option Addr) (k7 : Nat) (h8 : RepSl 1 (Ex (cInt .i64)) F0 p6 k7 b5) : CT0 Tryz.prog 24 [(.slice p2 a1.length k3), (.slice p6 b5.length k7)].toArray F0 (m_wormtubref14_Ints a1 b5) (fun r _ v => v = (.bool r)) := by
 refine CT0.enter Tryz.func24 rfl Tryz.ntmps24 rfl fun r R => ?_
 unfold m_wormtubref14_Ints
 refine .seq (.region (.assign rfl rfl (.nil (.code (.seq (.seq (.region (.move rfl rfl (.lenS rfl rfl Tryz.underlying31 rfl (.move rfl rfl (.lenS rfl rfl Tryz.underlying31 rfl ?_)))))))))))
 refine .neq rfl rfl rfl (.nil (.code (.cond rfl (fun hb9 => ?_) (fun hb9 => ?_))))
 ·skip
  refine .seq (.region (.assign rfl rfl (.nil (.code ?_))))
  exact .ret0 Tryz.results24 (.tmp rfl (.nil)) (i := 0) rfl Fz.r rfl
 ·skip
  refine .skip (.code (.seq (.seq (.region (.assign rfl rfl (.nil (.code (.block (.keep (.cons (k := 0) rfl (.cons (k := 1) rfl (.cons (k := 5) rfl (.nil _)))) ?_)))))))))
  refine .loop (fun (s10 : Int) a w => ∃ (F_11 : Fz), F0 ≤ F_11 ∧ Hd 26 [] [(0, (.slice p2 a1.length k3)), (1, (.slice p6 b5.length k7)), (5, (.int .i64 s10))] F_11 [R] a w) (fun b0 e a w => match b0 with | .inl b37 => e = .exit 0 ∧ ∃ (F_38 : Fz), F0 ≤ F_38 ∧ Hd 26 [] [] F_38 [R] a w | .inr b37 => e = .ret ∧ ∃ (F_40 : Fz), F0 ≤ F_40 ∧ Hd 26 [] [(4, (.bool b37))] F_40 [R] a w) ?_ ?_ ?_
  ·exact fun a w h => ⟨F0, Fz.r, h.1.sub (.cons (k := 0) rfl (.cons (k := 1) rfl (.cons (k := 5) rfl (.nil _)))), h.2⟩
  ·intro s10 ctl
   refine GC.ex (fun a w ⟨F_11, l_12, hA⟩ => ⟨_, hA, ?_⟩)
   unfold b_wormtubref14_Ints_1
   refine .seq (.seq (.region (.move rfl rfl (.move rfl rfl (.lenS rfl rfl Tryz.underlying31 rfl (.lss rfl rfl rfl (.nil (.code (.cond rfl (fun hb13 => ?_) (fun hb13 => ?_))))))))))
   ·skip
    refine .skip (.code (.seq (.block (.seq (.keep (.cons (k := 0) rfl (.cons (k := 1) rfl (.cons (k := 5) rfl (.nil _)))) (.drawZ 9 mixedOK (by kernel_rfl) (.move rfl rfl (.move rfl rfl (.idx rfl Tryz.underlying31 Tryz.sizeOf3 (h4.mono l_12) rfl rfl (fun x14 b15 o16 T17 fr18 cs19 e20 hm21 hv22 => ?_))))))))))
    refine .loadF rfl Tryz.isAgg3 rfl hm21 (cell_of_take (k := 0) hv22 rfl) (.move rfl rfl (.move rfl rfl (.idx rfl Tryz.underlying31 Tryz.sizeOf3 (h8.mono l_12) rfl rfl (fun x24 b25 o26 T27 fr28 cs29 e30 hm31 hv32 => ?_))))
    refine .loadF rfl Tryz.isAgg3 rfl hm31 (cell_of_take (k := 0) hv32 rfl) (.neq rfl rfl rfl (.pend (.nil (.code (.cond rfl (fun hb34 => ?_) (fun hb34 => ?_))))))
    ·skip
     refine .seq (.region (.assign rfl rfl (.nil (.code (.retQ (LPost.ret fun a w h => ⟨rfl, F_11, l_12, h.1.sub (.cons (k := 4) rfl (.nil _)), h.2⟩))))))
    ·skip
     refine .skip (.block (.code (.region (.move rfl rfl (.add rfl rfl rfl (.assignL rfl rfl (fun i35 e36 => ?_)))))))
     refine .nil ?_
     exact .nil (LPost.norm fun a w h => ⟨F_11, l_12, h.1.sub (.cons (k := 0) rfl (.cons (k := 1) rfl (.cons (k := 5) rfl (.nil _)))), h.2⟩)
   ·skip
    refine .exitOut rfl (LPost.exit fun a w h => ⟨rfl, F_11, l_12, h.1.sub (.nil _), h.2⟩)
  ·intro b37 hb0 hk e a w hD
   rcases b37 with b37 | b37
   ·skip
    obtain ⟨rfl, F_38, l_39, hA⟩ := hD
    refine interp_exit rfl (GE.app ?_ hk a w hA)
    refine .code (.seq (.region (.assign rfl rfl (.nil (.code ?_)))))
    exact .ret0 Tryz.results24 (.tmp rfl (.nil)) (i := 0) rfl l_39 rfl
   obtain ⟨rfl, F_40, l_41, hA⟩ := hD
   exact interp_ret ((ret_post0 Tryz.results24 (.tmp rfl (.nil)) (i := 0) rfl l_41 rfl) hk a w hA)
noncomputable def b_wormtubref14_Same_1 (a1 : (List ApiBooked)) (b5 : (List ApiBooked)) (s10 : Int) : Option (Ctl (Int) ((Unit) ⊕ (Bool))) :=
 if (decide (s10 < (a1.length : Int))) then (((idxL a1 s10).bind fun x76 => (idxL b5 s10).bind fun x89 => if (x76.Kind != x89.Kind) then (some true) else ((idxL a1 s10).bind fun x103 => (idxL b5 s10).bind fun x116 => (m_wormtubref14_Ints x103.N x116.N).bind fun r_131 => some (!r_131)) : Option (Bool)).bind fun j132 => if j132 then (some (.done (.inr false))) else (bindv (w64 (s10 + 1)) fun i136 => some (.next i136))) else (some (.done (.inl ())))
noncomputable def m_wormtubref14_Same (a1 : (List ApiBooked)) (b5 : (List ApiBooked)) : Option Bool :=
 if ((a1.length : Int) != (b5.length : Int)) then (some false) else ((loopM (b_wormtubref14_Same_1 a1 b5) 0).bind fun b0 => match b0 with | .inl b138 => (some true) | .inr b138 => (some b138))
set_option maxRecDepth 100000 in
set_option maxHeartbeats 4000000 in
theorem c_wormtubref14_Same (F0 : Fz) (a1 : (List ApiBooked)) (p2 : Option Addr) (k3 : Nat) (h4 : RepSl 2 rApiBooked F0 p2 k3 a1) (b5 : (List ApiBooked)) (p6 : Option Addr) (k7 : Nat) (h8 : RepSl 2 rApiBooked F0 p6 k7 b5) : CT0 Tryz.prog 23 [(.slice p2 a1.length k3), (.slice p6 b5.length k7)].toArray F0 (m_wormtubref14_Same a1 b5) (fun r _ v => v = (.bool r)) := by
 refine CT0.enter Tryz.func23 rfl Tryz.ntmps23 rfl fun r R => ?_
 unfold m_wormtubref14_Same
 refine .seq (.region (.assign rfl rfl (.nil (.code (.seq (.seq (.region (.move rfl rfl (.lenS rfl rfl Tryz.underlying22 rfl (.move rfl rfl (.lenS rfl rfl Tryz.underlying22 rfl ?_)))))))))))
 refine .neq rfl rfl rfl (.nil (.code (.cond rfl (fun hb9 => ?_) (fun hb9 => ?_))))
 ·skip
  refine .seq (.region (.assign rfl rfl (.nil (.code ?_))))
  exact .ret0 Tryz.results23 (.tmp rfl (.nil)) (i := 0) rfl Fz.r rfl
 ·skip
  refine .skip (.code (.seq (.seq (.region (.assign rfl rfl (.nil (.code (.block (.keep (.cons (k := 0) rfl (.cons (k := 1) rfl (.cons (k := 5) rfl (.nil _)))) ?_)))))))))
  refine .loop (fun (s10 : Int) a w => ∃ (F_11 : Fz), F0 ≤ F_11 ∧ Hd 42 [] [(0, (.slice p2 a1.length k3)), (1, (.slice p6 b5.length k7)), (5, (.int .i64 s10))] F_11 [R] a w) (fun b0 e a w => match b0 with | .inl b138 => e = .exit 0 ∧ ∃ (F_139 : Fz), F0 ≤ F_139 ∧ Hd 42 [] [] F_139 [R] a w | .inr b138 => e = .ret ∧ ∃ (F_141 : Fz), F0 ≤ F_141 ∧ Hd 42 [] [(4, (.bool b138))] F_141 [R] a w) ?_ ?_ ?_
  ·exact fun a w h => ⟨F0, Fz.r, h.1.sub (.cons (k := 0) rfl (.cons (k := 1) rfl (.cons (k := 5) rfl (.nil _)))), h.2⟩
  ·intro s10 ctl
   refine GC.ex (fun a w ⟨F_11, l_12, hA⟩ => ⟨_, hA, ?_⟩)
   unfold b_wormtubref14_Same_1
   refine .seq (.seq (.region (.move rfl rfl (.move rfl rfl (.lenS rfl rfl Tryz.underlying22 rfl (.lss rfl rfl rfl (.nil (.code (.cond rfl (fun hb13 => ?_) (fun hb13 => ?_))))))))))
   ·skip
    refine .skip (.code (.seq (.block (.seq (.keep (.cons (k := 0) rfl (.cons (k := 1) rfl (.cons (k := 5) rfl (.nil _)))) ?_)))))
    refine GC.join0 (σ := Bool) (fun j132 a w => ∃ (F_133 : Fz), F_11 ≤ F_133 ∧ Hd 42 [] [(0, (.slice p2 a1.length k3)), (1, (.slice p6 b5.length k7)), (5, (.int .i64 s10)), (41, (.bool j132))] F_133 [R] a w) (fun sj => ?_) (fun j132 hs0 => GE.ex (fun a w ⟨F_133, l_134, hA⟩ => ⟨_, hA, ?_⟩))
    ·skip
     refine .drawT (p := 22) (st := []) mixedOK (by kernel_rfl) (.move rfl rfl (.move rfl rfl (.idx rfl Tryz.underlying22 Tryz.sizeOf41 (h4.mono l_12) rfl rfl (fun x76 b77 o78 T79 fr80 cs81 e82 hm83 hv84 => ?_))))
     obtain ⟨p86, k87, hv84, h88⟩ := hv84
     refine .fieldAddr rfl Tryz.underlying41 rfl Tryz.sizeOf3 rfl (.loadF rfl Tryz.isAgg3 rfl hm83 (cell_of_take (k := 0) hv84 rfl) (.move rfl rfl (.move rfl rfl (.idx rfl Tryz.underlying22 Tryz.sizeOf41 (h8.mono l_12) rfl rfl (fun x89 b90 o91 T92 fr93 cs94 e95 hm96 hv97 => ?_)))))
     obtain ⟨p99, k100, hv97, h101⟩ := hv97
     refine .fieldAddr rfl Tryz.underlying41 rfl Tryz.sizeOf3 rfl (.loadF rfl Tryz.isAgg3 rfl hm96 (cell_of_take (k := 0) hv97 rfl) (.neq rfl rfl rfl (.move rfl rfl (.ite (fun hb102 => ?_) (fun hb102 => ?_)))))
     ·skip
      refine .offH hb102 rfl rfl rfl (.offH hb102 rfl rfl rfl (.offH hb102 rfl rfl rfl (.offH hb102 rfl rfl rfl (.offH hb102 rfl rfl rfl (.offH hb102 rfl rfl rfl (.offH hb102 rfl rfl rfl (.offH hb102 rfl rfl rfl (.offH hb102 rfl rfl rfl (.offH hb102 rfl rfl rfl (.pendT (.offH hb102 rfl rfl rfl ?_)))))))))))
      refine .nil (.stageZ (.offH hb102 rfl rfl rfl (.pickTH hb102 rfl rfl rfl (.endT ?_))))
      exact .nil fun e a w h => by cases e; exact ⟨rfl, ⟨F_11, Fz.r, h.1.sub (.cons (k := 0) rfl (.cons (k := 1) rfl (.cons (k := 5) rfl (.cons (k := 41) rfl (.nil _))))), h.2⟩⟩
     ·skip
      refine .onH hb102 rfl rfl (.move rfl rfl (.onH hb102 rfl rfl (.move rfl rfl (.onH hb102 rfl rfl (.idx rfl Tryz.underlying22 Tryz.sizeOf41 (h4.mono l_12) rfl rfl (fun x103 b104 o105 T106 fr107 cs108 e109 hm110 hv111 => ?_))))))
      obtain ⟨p113, k114, hv111, h115⟩ := hv111
      refine .onH hb102 rfl rfl (.fieldAddr rfl Tryz.underlying41 rfl Tryz.sizeOf31 rfl (.onH hb102 rfl rfl (.loadF rfl Tryz.isAgg31 rfl hm110 (cell_of_take (k := 1) hv111 rfl) (.onH hb102 rfl rfl (.move rfl rfl (.onH hb102 rfl rfl (.move rfl rfl (.onH hb102 rfl rfl (.idx rfl Tryz.underlying22 Tryz.sizeOf41 (h8.mono l_12) rfl rfl (fun x116 b117 o118 T119 fr120 cs121 e122 hm123 hv124 => ?_))))))))))
      obtain ⟨p126, k127, hv124, h128⟩ := hv124
      refine .onH hb102 rfl rfl (.fieldAddr rfl Tryz.underlying41 rfl Tryz.sizeOf31 rfl (.onH hb102 rfl rfl (.loadF rfl Tryz.isAgg31 rfl hm123 (cell_of_take (k := 1) hv124 rfl) (.pendT (.onH hb102 rfl rfl (.call0 rfl Tryz.call24 rfl rfl rfl (c_wormtubref14_Ints _ x103.N p113 k114 h115 x116.N p126 k127 h128) ?_))))))
      rintro r_131 F_129 _ - l_130 rfl
      refine .nil (.stageZ (.onH hb102 rfl rfl (.not rfl rfl (.pickFH hb102 rfl rfl rfl (.endT ?_)))))
      exact .nil fun e a w h => by cases e; exact ⟨rfl, ⟨F_129, l_130, h.1.sub (.cons (k := 0) rfl (.cons (k := 1) rfl (.cons (k := 5) rfl (.cons (k := 41) rfl (.nil _))))), h.2⟩⟩
    refine .code (.cond rfl (fun hb135 => ?_) (fun hb135 => ?_))
    ·skip
     refine .seq (.region (.assign rfl rfl (.nil (.code (.retQ (LPost.ret fun a w h => ⟨rfl, F_133, (Fz.t l_12 l_134), h.1.sub (.cons (k := 4) rfl (.nil _)), h.2⟩))))))
    ·skip
     refine .skip (.block (.code (.region (.move rfl rfl (.add rfl rfl rfl (.assignL rfl rfl (fun i136 e137 => ?_)))))))
     refine .nil ?_
     exact .nil (LPost.norm fun a w h => ⟨F_133, (Fz.t l_12 l_134), h.1.sub (.cons (k := 0) rfl (.cons (k := 1) rfl (.cons (k := 5) rfl (.nil _)))), h.2⟩)
   ·skip
    refine .exitOut rfl (LPost.exit fun a w h => ⟨rfl, F_11, l_12, h.1.sub (.nil _), h.2⟩)
  ·intro b138 hb0 hk e a w hD
   rcases b138 with b138 | b138
   ·skip
    obtain ⟨rfl, F_139, l_140, hA⟩ := hD
    refine interp_exit rfl (GE.app ?_ hk a w hA)
    refine .code (.seq (.region (.assign rfl rfl (.nil (.code ?_)))))
    exact .ret0 Tryz.results23 (.tmp rfl (.nil)) (i := 0) rfl l_140 rfl
   obtain ⟨rfl, F_141, l_142, hA⟩ := hD
   exact interp_ret ((ret_post0 Tryz.results23 (.tmp rfl (.nil)) (i := 0) rfl l_142 rfl) hk a w hA)
noncomputable def m_wormtublaw14_step  : Option ApiBooked :=
 some (ApiBooked.mk 0 ([0, 5, 17]))
set_option maxRecDepth 100000 in
set_option maxHeartbeats 4000000 in
theorem c_wormtublaw14_step (F0 : Fz)  : CT0 Tryz.prog 26 [].toArray F0 (m_wormtublaw14_step) (fun r F v => ∃ (p0 : Option Addr) (k0 : Nat), v = (eApiBooked r p0 k0) ∧ RepSl 1 (Ex (cInt .i64)) F p0 k0 r.N) := by
 refine CT0.enter Tryz.func26 rfl Tryz.ntmps26 rfl fun r R => ?_
 unfold m_wormtublaw14_step
 refine .seq (.region (.alloc (cs := (cApiBooked (ApiBooked.mk 0 ([])) none 0)) rfl Tryz.zeroValue41 rfl (fun b1 => ?_)))
 refine .nil (.code (.seq (.region (.sliceLit (cs := [.int .i64 0, .int .i64 5, .int .i64 17]) (zc := [.int .i64 0, .int .i64 0, .int .i64 0]) rfl Tryz.underlying31 Tryz.sizeOf3 Tryz.zeroValue3 rfl rfl rfl (by kernel_rfl) (by kernel_rfl) (fun b2 F_3 l_4 hb5 => ?_)))))
 have h6 : RepSl 1 (Ex (cInt .i64)) F_3 (some ⟨b2, 0, none⟩) 3 ([0, 5, 17]) := RepSl.ofRow hb5 (.cons ok_t3.mono rfl (.cons ok_t3.mono rfl (.cons ok_t3.mono rfl .nil))) rfl rfl
 refine .build (cs := (cApiBooked (ApiBooked.mk 0 ([0, 5, 17])) (some ⟨b2, 0, none⟩) 3).toArray) rfl Tryz.underlying41 Tryz.zeroValue41 (plApiBooked _ Tryz.underlying41) rfl rfl (by kernel_rfl) (.store (cs' := (cApiBooked (ApiBooked.mk 0 ([0, 5, 17])) (some ⟨b2, 0, none⟩) 3)) Tryz.sizeOf41 rfl rfl rfl rfl (i := 0) rfl (Nat.le_of_ble_eq_true rfl) rfl (setMany_all (by rfl)) (.nil (.code ?_)))
 exact .ret0 Tryz.results26 (.agg rfl Tryz.isAgg41 Tryz.sizeOf41 (i := 0) rfl (vs' := (cApiBooked (ApiBooked.mk 0 ([0, 5, 17])) (some ⟨b2, 0, none⟩) 3)) (by kernel_rfl) rfl (.nil)) (i := 1) rfl l_4 ⟨(some ⟨b2, 0, none⟩), 3, rfl, h6⟩
end Go.Proofs.YthnlglmjffdpfaaGreatDoor
end

section
namespace Go.Proofs.YthnlglmjffdpfaaGreatDoor
open Go.Dec
abbrev Bytes := List UInt8
def mostS (k : Int) : List Int :=
  if k = 0 then [5, 1099511627776, 1099511627776] else if k = 1 then [1073741824, 1073741824, 1073741824]
  else if k = 2 then [8, 65536, 1073741824, 1073741824, 1073741824, 1073741824, 1099511627776, 7] else [6, 65536, 15, 15, 1073741824, 72057594037927936]
def letterS (k : Int) : UInt8 := if k = 0 then 77 else if k = 1 then 83 else if k = 2 then 67 else 68
def inM : List Int → List Int → Bool
  | [], [] => true
  | n :: ns, m :: ms => decide (0 ≤ n ∧ n ≤ m) && inM ns ms
  | _, _ => false
def okS (x : ApiBooked) : Bool := decide (0 ≤ x.Kind ∧ x.Kind ≤ 3) && inM x.N (mostS x.Kind)
def numsS (ns : List Int) : Bytes := ns.flatMap fun n => 32 :: Go.Lib.itoa n
def textS (x : ApiBooked) : Bytes := letterS x.Kind :: numsS x.N
def padS (t : Bytes) : Bytes := t ++ List.replicate (87 - t.length) 46
def checkN (s : Bytes) : Nat := s.foldl (fun c b => (31 * c + b.toNat) % 4294967296) 0
def hexd (n : Nat) : UInt8 := ([48, 49, 50, 51, 52, 53, 54, 55, 56, 57, 97, 98, 99, 100, 101, 102] : List UInt8).getD n 0
def hexS (c : Nat) : Bytes := (List.range 8).map fun i => hexd (c / 16 ^ (7 - i) % 16)
def rowS (x : ApiBooked) : Bytes := padS (textS x) ++ (hexS (checkN (padS (textS x))) ++ [10])
def resS (b : UInt8) : Nat := (b.toNat + 63) % 95
def sumS (rows : List Bytes) (k : Nat) : Nat := (rows.map fun r => resS (r.getD k 0)).sum
def guardS (rows : List Bytes) : Bytes := ((List.range 95).map fun k => UInt8.ofNat (32 + sumS rows k % 95)) ++ [10]
def lostS (others : List Bytes) (g : Bytes) : Bytes := ((List.range 95).map fun k => UInt8.ofNat (32 + (resS (g.getD k 0) + 760 - sumS others k) % 95)) ++ [10]
theorem dec_small {u : Nat} (h : u < 10) : Go.Lib.decDigits u = [UInt8.ofNat (48 + u)] := by rw [Go.Lib.decDigits, dif_pos h]
theorem dec_big {u : Nat} (h : ¬ u < 10) : Go.Lib.decDigits u = Go.Lib.decDigits (u / 10) ++ [UInt8.ofNat (48 + u % 10)] := by rw [Go.Lib.decDigits, dif_neg h]
theorem u8_nat {n : Nat} (h : n < 256) : (UInt8.ofNat n).toNat = n := by simp; omega
theorem dec_all (u : Nat) : ∀ b ∈ Go.Lib.decDigits u, 48 ≤ b.toNat ∧ b.toNat ≤ 57 := by
  induction u using Nat.strongRecOn with
  | _ u ih =>
    intro b hb
    by_cases h : u < 10
    · rw [dec_small h] at hb
      simp only [List.mem_singleton] at hb
      rw [hb, u8_nat (by omega)]; omega
    · rw [dec_big h] at hb
      rcases List.mem_append.1 hb with hb | hb
      · exact ih (u / 10) (by omega) b hb
      · simp only [List.mem_singleton] at hb
        rw [hb, u8_nat (by omega)]; omega
theorem dec_snoc (u : Nat) : ∃ pre d, Go.Lib.decDigits u = pre ++ [d] ∧ 48 ≤ d.toNat ∧ d.toNat ≤ 57 := by
  by_cases h : u < 10
  · exact ⟨[], _, by rw [dec_small h]; rfl, by rw [u8_nat (by omega)]; omega, by rw [u8_nat (by omega)]; omega⟩
  · exact ⟨_, _, dec_big h, by rw [u8_nat (by omega)]; omega, by rw [u8_nat (by omega)]; omega⟩
theorem dec_len : ∀ (k u : Nat), u < 10 ^ k → 1 ≤ k → (Go.Lib.decDigits u).length ≤ k
  | 0, _, _, h => by omega
  | 1, u, h, _ => by rw [dec_small (by simpa using h)]; simp
  | k + 2, u, h, _ => by
    by_cases h1 : u < 10
    · rw [dec_small h1]; simp
    · rw [dec_big h1]
      have := dec_len (k + 1) (u / 10) (by rw [Nat.pow_succ] at h; omega) (by omega)
      simp; omega
theorem dec_parse (u : Nat) : u < 18446744073709551616 → ∀ l, Go.Lib.parseUint10 0 (Go.Lib.decDigits u ++ l) = Go.Lib.parseUint10 u l := by
  induction u using Nat.strongRecOn with
  | _ u ih =>
    intro hu l
    by_cases h : u < 10
    · rw [dec_small h]
      show Go.Lib.parseUint10 0 (UInt8.ofNat (48 + u) :: l) = _
      rw [Go.Lib.parseUint10, u8_nat (by omega), if_pos (by omega), if_neg (by omega), if_neg (by omega)]
      congr 1; omega
    · rw [dec_big h, List.append_assoc, ih (u / 10) (by omega) (by omega)]
      show Go.Lib.parseUint10 (u / 10) (UInt8.ofNat (48 + u % 10) :: l) = _
      rw [Go.Lib.parseUint10, u8_nat (by omega), if_pos (by omega), if_neg (by omega), if_neg (by omega)]
      congr 1; omega
theorem itoa_nat {n : Int} (h : 0 ≤ n) : Go.Lib.itoa n = Go.Lib.decDigits n.toNat := by unfold Go.Lib.itoa; rw [if_neg (by omega)]
theorem itoa_all {n : Int} (h : 0 ≤ n) : ∀ b ∈ Go.Lib.itoa n, 48 ≤ b.toNat ∧ b.toNat ≤ 57 := by rw [itoa_nat h]; exact dec_all _
theorem itoa_snoc {n : Int} (h : 0 ≤ n) : ∃ pre d, Go.Lib.itoa n = pre ++ [d] ∧ 48 ≤ d.toNat ∧ d.toNat ≤ 57 := by rw [itoa_nat h]; exact dec_snoc _
theorem atoi_itoa {n : Int} (h : 0 ≤ n) (h2 : n < 9223372036854775808) : Go.Lib.atoiAll (Go.Lib.itoa n) = .ok n := by
  have h1 := dec_parse n.toNat (by omega) []
  rw [List.append_nil] at h1
  have hne : Go.Lib.decDigits n.toNat ≠ [] := by
    obtain ⟨p, d, e, _⟩ := dec_snoc n.toNat
    rw [e]; simp
  have hm : Go.Lib.parseMag (Go.Lib.decDigits n.toNat) = .ok n.toNat := by
    unfold Go.Lib.parseMag; rw [if_neg hne, h1]; rfl
  rw [itoa_nat h]
  have hall := dec_all n.toNat
  cases hd : Go.Lib.decDigits n.toNat with
  | nil => exact absurd hd hne
  | cons c r =>
    rw [hd] at hm hall
    have hc := hall c (by simp)
    unfold Go.Lib.atoiAll
    simp only
    rw [if_neg (by omega), hm]
    simp only
    rw [if_neg (by omega), if_neg (by omega), if_neg (by omega)]
    congr 1; omega
theorem inM_cons {ns ms : List Int} {m : Int} (h : inM ns (m :: ms) = true) : ∃ n ns', ns = n :: ns' ∧ 0 ≤ n ∧ n ≤ m ∧ inM ns' ms = true := by
  cases ns with
  | nil => simp [inM] at h
  | cons n ns' =>
    simp only [inM, Bool.and_eq_true, decide_eq_true_eq] at h
    exact ⟨n, ns', rfl, h.1.1, h.1.2, h.2⟩
theorem inM_nil {ns : List Int} (h : inM ns [] = true) : ns = [] := by
  cases ns with
  | nil => rfl
  | cons n ns' => simp [inM] at h
theorem inM_len : ∀ {ns ms : List Int}, inM ns ms = true → ns.length = ms.length
  | ns, [], h => by rw [inM_nil h]
  | ns, m :: ms, h => by
    obtain ⟨n, ns', rfl, _, _, h'⟩ := inM_cons h
    simp [inM_len h']
theorem inM_pos : ∀ {ns ms : List Int}, inM ns ms = true → ∀ n ∈ ns, 0 ≤ n
  | ns, [], h => by rw [inM_nil h]; simp
  | ns, m :: ms, h => by
    obtain ⟨n, ns', rfl, h0, _, h'⟩ := inM_cons h
    intro x hx
    rcases List.mem_cons.1 hx with rfl | hx
    · exact h0
    · exact inM_pos h' x hx
theorem nums_len : ∀ {ns ms : List Int} {ks : List Nat}, inM ns ms = true → ((ms.zip ks).all fun p => decide (p.1 < 10 ^ p.2) && decide (1 ≤ p.2)) = true → ms.length = ks.length → (numsS ns).length ≤ (ks.map (· + 1)).sum
  | ns, [], ks, h, _, _ => by rw [inM_nil h]; simp [numsS]
  | ns, m :: ms, [], h, _, hl => by simp at hl
  | ns, m :: ms, k :: ks, h, ha, hl => by
    obtain ⟨n, ns', rfl, h0, h1, h'⟩ := inM_cons h
    simp only [List.zip_cons_cons, List.all_cons, Bool.and_eq_true, decide_eq_true_eq] at ha
    have ih := nums_len (ks := ks) h' ha.2 (by simpa using hl)
    have hn := dec_len k n.toNat (by have := ha.1.1; have e : ((10 ^ k : Nat) : Int) = (10 : Int) ^ k := by simp
                                     omega) ha.1.2
    simp only [numsS, List.flatMap_cons, List.length_append, List.length_cons, itoa_nat h0, List.map_cons, List.sum_cons] at ih ⊢
    omega
theorem okS_iff {x : ApiBooked} : okS x = true ↔ (0 ≤ x.Kind ∧ x.Kind ≤ 3) ∧ inM x.N (mostS x.Kind) = true := by simp [okS]
theorem kind_cases {k : Int} (h : 0 ≤ k ∧ k ≤ 3) : k = 0 ∨ k = 1 ∨ k = 2 ∨ k = 3 := by omega
theorem textS_len {x : ApiBooked} (h : okS x = true) : (textS x).length ≤ 87 := by
  obtain ⟨hk, hm⟩ := okS_iff.1 h
  have : (numsS x.N).length ≤ 80 := by
    rcases kind_cases hk with e | e | e | e <;> rw [e] at hm
    · exact Nat.le_trans (nums_len (ks := [1, 13, 13]) hm (by decide) rfl) (by decide)
    · exact Nat.le_trans (nums_len (ks := [10, 10, 10]) hm (by decide) rfl) (by decide)
    · exact Nat.le_trans (nums_len (ks := [1, 5, 10, 10, 10, 10, 13, 1]) hm (by decide) rfl) (by decide)
    · exact Nat.le_trans (nums_len (ks := [1, 5, 2, 2, 10, 17]) hm (by decide) rfl) (by decide)
  simp only [textS, List.length_cons]; omega
theorem mostS_ne {k : Int} : mostS k ≠ [] := by unfold mostS; split <;> (try split) <;> (try split) <;> simp
theorem mostS_le {k : Int} : ∀ m ∈ mostS k, m ≤ 72057594037927936 := by unfold mostS; split <;> (try split) <;> (try split) <;> simp
theorem inM_le {B : Int} : ∀ {ns ms : List Int}, inM ns ms = true → (∀ m ∈ ms, m ≤ B) → ∀ n ∈ ns, n ≤ B
  | ns, [], h, _ => by rw [inM_nil h]; simp
  | ns, m :: ms, h, hb => by
    obtain ⟨n, ns', rfl, h0, h1, h'⟩ := inM_cons h
    intro x hx
    rcases List.mem_cons.1 hx with rfl | hx
    · have := hb m (by simp); omega
    · exact inM_le h' (fun m hm => hb m (by simp [hm])) x hx
theorem nums_bound {x : ApiBooked} (h : okS x = true) : ∀ n ∈ x.N, 0 ≤ n ∧ n ≤ 72057594037927936 := fun n hn =>
  ⟨inM_pos (okS_iff.1 h).2 n hn, inM_le (okS_iff.1 h).2 mostS_le n hn⟩
theorem nums_ne {x : ApiBooked} (h : okS x = true) : x.N ≠ [] := by
  intro e
  have h1 := inM_len (okS_iff.1 h).2
  rw [e] at h1
  exact mostS_ne (List.eq_nil_of_length_eq_zero h1.symm)
theorem textS_snoc {x : ApiBooked} (h : okS x = true) : ∃ pre d, textS x = pre ++ [d] ∧ 48 ≤ d.toNat ∧ d.toNat ≤ 57 := by
  have h1 := nums_ne h
  have hb := nums_bound h
  obtain ⟨ns, n, e⟩ : ∃ ns n, x.N = ns ++ [n] := ⟨x.N.dropLast, x.N.getLast h1, (List.dropLast_concat_getLast h1).symm⟩
  obtain ⟨p, d, e2, h2, h3⟩ := itoa_snoc (hb n (by rw [e]; simp)).1
  exact ⟨letterS x.Kind :: (numsS ns ++ 32 :: p), d, by simp [textS, numsS, e, e2], h2, h3⟩
theorem padS_len {t : Bytes} (h : t.length ≤ 87) : (padS t).length = 87 := by simp [padS]; omega
theorem hexS_len (c : Nat) : (hexS c).length = 8 := by simp [hexS]
theorem rowS_len {x : ApiBooked} (h : okS x = true) : (rowS x).length = 96 := by
  simp only [rowS, List.length_append, padS_len (textS_len h), hexS_len]; rfl
theorem trim_pad {t : Bytes} {d : UInt8} {pre : Bytes} (e : t = pre ++ [d]) (hd : d ≠ 46) : Go.Lib.trimRightS (padS t) [46] = t := by
  unfold Go.Lib.trimRightS padS
  have h1 : ∀ k : Nat, (List.replicate k (46 : UInt8)).dropWhile (([46] : List UInt8).contains ·) = [] := fun k => by
    induction k with
    | zero => rfl
    | succ k ih => rw [List.replicate_succ, List.dropWhile_cons, if_pos (by decide)]; exact ih
  rw [List.reverse_append, List.reverse_replicate]
  rw [List.dropWhile_append_of_pos (fun a ha => by rw [List.eq_of_mem_replicate ha]; decide)]
  rw [e, List.reverse_append]
  simp only [List.reverse_cons, List.reverse_nil, List.nil_append, List.cons_append]
  rw [List.dropWhile_cons, if_neg (by simpa using hd)]
  simp
theorem no_occ {c : UInt8} : ∀ {p : Bytes}, c ∉ p → Go.Lib.index p [c] = -1
  | [], _ => rfl
  | b :: l, h => by
    have hb : b ≠ c := fun e => h (by simp [e])
    have hl : c ∉ l := fun e => h (by simp [e])
    have hp : ([c] : List UInt8).isPrefixOf (b :: l) = false := by
      simp [List.isPrefixOf]; exact fun e => hb e.symm
    rw [Go.Lib.index, hp, no_occ hl]; rfl
theorem at_occ {c : UInt8} {r : Bytes} : ∀ {p : Bytes}, c ∉ p → Go.Lib.index (p ++ c :: r) [c] = (p.length : Int)
  | [], _ => by simp [Go.Lib.index, List.isPrefixOf]
  | b :: l, h => by
    have hb : b ≠ c := fun e => h (by simp [e])
    have hl : c ∉ l := fun e => h (by simp [e])
    have hp : ([c] : List UInt8).isPrefixOf (b :: l ++ c :: r) = false := by
      simp [List.isPrefixOf]; exact fun e => hb e.symm
    have ih := at_occ (r := r) hl
    show Go.Lib.index (b :: (l ++ c :: r)) [c] = _
    rw [Go.Lib.index, show ([c] : List UInt8).isPrefixOf (b :: (l ++ c :: r)) = false from hp, ih]
    have : ((l.length : Int) == -1) = false := by simp
    rw [if_neg (by simp), if_neg (by simp [this])]
    simp
theorem split_pieces {c : UInt8} : ∀ {qs : List Bytes} {p : Bytes}, c ∉ p → (∀ q ∈ qs, c ∉ q) → Go.Lib.split (p ++ qs.flatMap fun q => c :: q) [c] = p :: qs
  | [], p, hp, _ => by
    unfold Go.Lib.split
    rw [List.flatMap_nil, List.append_nil, Go.Lib.count_miss (no_occ hp)]; rfl
  | q :: qs, p, hp, hq => by
    have ih := split_pieces (qs := qs) (p := q) (hq q (by simp)) (fun r hr => hq r (by simp [hr]))
    have e : p ++ (q :: qs).flatMap (fun q => c :: q) = p ++ c :: (q ++ qs.flatMap fun q => c :: q) := by simp
    have hi := at_occ (r := q ++ qs.flatMap fun q => c :: q) hp
    have hd : (p ++ c :: (q ++ qs.flatMap fun q => c :: q)).drop (p.length + [c].length) = q ++ qs.flatMap fun q => c :: q := by
      rw [← List.drop_drop, List.drop_left]; rfl
    unfold Go.Lib.split at ih ⊢
    rw [e, Go.Lib.count_hit (by simp) hi, hd, Nat.add_comm, Go.Lib.splitK, hi]
    have : ((p.length : Int) == -1) = false := by simp
    rw [if_neg (by simp [this]), Int.toNat_natCast, hd, ih, Nat.add_zero, List.take_left]
theorem split_text {x : ApiBooked} (h : okS x = true) : Go.Lib.split (textS x) [32] = [letterS x.Kind] :: x.N.map Go.Lib.itoa := by
  have e : textS x = [letterS x.Kind] ++ (x.N.map Go.Lib.itoa).flatMap fun q => 32 :: q := by
    simp [textS, numsS, List.flatMap_map]
  rw [e]
  refine split_pieces ?_ ?_
  · unfold letterS; split <;> (try split) <;> (try split) <;> decide
  · intro q hq
    obtain ⟨n, hn, rfl⟩ := List.mem_map.1 hq
    intro h32
    have := itoa_all (nums_bound h n hn).1 _ h32
    revert this; decide
end Go.Proofs.YthnlglmjffdpfaaGreatDoor
end
