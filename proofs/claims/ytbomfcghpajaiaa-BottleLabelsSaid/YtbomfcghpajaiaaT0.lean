/- Printed by gen.py: the data of the program. -/
import Derived.Test.YtbomfcghpajaiaaKalR
import Derived.Test.YtbomfcghpajaiaaProg
namespace Go.Proofs.Ytbomfcghpajaiaa
open Go.Dec

theorem mixedOK : Try.prog.follows .mixedOrders = true := by kernel_rfl
structure ApiSpan where
  Lo : Int
  Hi : Int
def cApiSpan (x : ApiSpan)  : List Value := [.int .i64 x.Lo, .int .i64 x.Hi]
def eApiSpan (x : ApiSpan)  : Value := .agg (cApiSpan x).toArray
theorem plApiSpan : ∀ fs, Try.prog.underlying 36 = some (.struct fs) → Places Try.prog fs #[(0, 1), (1, 1)] := fun fs h => by
  obtain rfl := TypeDesc.struct.inj (Option.some.inj (Try.underlying36.symm.trans h))
  intro w; kernel_rfl
structure ApiStampEvent where
  Kind : Int
  First : Int
  Last : Int
  Batch : Int
def cApiStampEvent (x : ApiStampEvent)  : List Value := [.int .i64 x.Kind, .int .i64 x.First, .int .i64 x.Last, .int .i64 x.Batch]
def eApiStampEvent (x : ApiStampEvent)  : Value := .agg (cApiStampEvent x).toArray
theorem plApiStampEvent : ∀ fs, Try.prog.underlying 70 = some (.struct fs) → Places Try.prog fs #[(0, 1), (1, 1), (2, 1), (3, 1)] := fun fs h => by
  obtain rfl := TypeDesc.struct.inj (Option.some.inj (Try.underlying70.symm.trans h))
  intro w; kernel_rfl
structure ApiStampBook where
  Hand : (List ApiSpan)
  Stuck : Int
  Spoiled : Int
  Returned : Int
def cApiStampBook (x : ApiStampBook) (p0 : Option Addr) (k0 : Nat) : List Value := [.slice p0 x.Hand.length k0, .int .i64 x.Stuck, .int .i64 x.Spoiled, .int .i64 x.Returned]
def eApiStampBook (x : ApiStampBook) (p0 : Option Addr) (k0 : Nat) : Value := .agg (cApiStampBook x p0 k0).toArray
def rApiStampBook : ERel ApiStampBook := fun F x vs => ∃ p0 k0, vs = cApiStampBook x p0 k0 ∧ RepSl 2 (Ex cApiSpan) F p0 k0 x.Hand
theorem plApiStampBook : ∀ fs, Try.prog.underlying 26 = some (.struct fs) → Places Try.prog fs #[(0, 1), (1, 1), (2, 1), (3, 1)] := fun fs h => by
  obtain rfl := TypeDesc.struct.inj (Option.some.inj (Try.underlying26.symm.trans h))
  intro w; kernel_rfl
structure BottlePile where
  issued : (List ApiSpan)
  hand : (List ApiSpan)
def cBottlePile (x : BottlePile) (p0 : Option Addr) (k0 : Nat) (p1 : Option Addr) (k1 : Nat) : List Value := [.slice p0 x.issued.length k0, .slice p1 x.hand.length k1]
def eBottlePile (x : BottlePile) (p0 : Option Addr) (k0 : Nat) (p1 : Option Addr) (k1 : Nat) : Value := .agg (cBottlePile x p0 k0 p1 k1).toArray
def rBottlePile : ERel BottlePile := fun F x vs => ∃ p0 k0 p1 k1, vs = cBottlePile x p0 k0 p1 k1 ∧ RepSl 2 (Ex cApiSpan) F p0 k0 x.issued ∧ RepSl 2 (Ex cApiSpan) F p1 k1 x.hand
theorem plBottlePile : ∀ fs, Try.prog.underlying 83 = some (.struct fs) → Places Try.prog fs #[(0, 1), (1, 1)] := fun fs h => by
  obtain rfl := TypeDesc.struct.inj (Option.some.inj (Try.underlying83.symm.trans h))
  intro w; kernel_rfl
structure ApiCask where
  Number : Int
  Wood : Int
  Place : Int
  Room : Int
  Owner : Int
  Creditor : Int
  Amount : Int
  Age : Int
  Woods : (Nat → Int)
  Places : (Nat → Int)
def cApiCask (x : ApiCask)  : List Value := [.int .i64 x.Number, .int .i64 x.Wood, .int .i64 x.Place, .int .i64 x.Room, .int .i64 x.Owner, .int .i64 x.Creditor, .int .i64 x.Amount, .int .i64 x.Age, .int .i64 (x.Woods 0), .int .i64 (x.Woods 1), .int .i64 (x.Woods 2), .int .i64 (x.Woods 3), .int .i64 (x.Woods 4), .int .i64 (x.Woods 5), .int .i64 (x.Woods 6), .int .i64 (x.Woods 7), .int .i64 (x.Places 0), .int .i64 (x.Places 1), .int .i64 (x.Places 2), .int .i64 (x.Places 3), .int .i64 (x.Places 4), .int .i64 (x.Places 5), .int .i64 (x.Places 6), .int .i64 (x.Places 7)]
def eApiCask (x : ApiCask)  : Value := .agg (cApiCask x).toArray
theorem plApiCask : ∀ fs, Try.prog.underlying 49 = some (.struct fs) → Places Try.prog fs #[(0, 1), (1, 1), (2, 1), (3, 1), (4, 1), (5, 1), (6, 1), (7, 1), (8, 8), (16, 8)] := fun fs h => by
  obtain rfl := TypeDesc.struct.inj (Option.some.inj (Try.underlying49.symm.trans h))
  intro w; kernel_rfl
structure ApiDraught where
  From : ApiCask
  Amount : Int
  Strength : ApiSpan
def cApiDraught (x : ApiDraught)  : List Value := [.int .i64 x.From.Number, .int .i64 x.From.Wood, .int .i64 x.From.Place, .int .i64 x.From.Room, .int .i64 x.From.Owner, .int .i64 x.From.Creditor, .int .i64 x.From.Amount, .int .i64 x.From.Age, .int .i64 (x.From.Woods 0), .int .i64 (x.From.Woods 1), .int .i64 (x.From.Woods 2), .int .i64 (x.From.Woods 3), .int .i64 (x.From.Woods 4), .int .i64 (x.From.Woods 5), .int .i64 (x.From.Woods 6), .int .i64 (x.From.Woods 7), .int .i64 (x.From.Places 0), .int .i64 (x.From.Places 1), .int .i64 (x.From.Places 2), .int .i64 (x.From.Places 3), .int .i64 (x.From.Places 4), .int .i64 (x.From.Places 5), .int .i64 (x.From.Places 6), .int .i64 (x.From.Places 7), .int .i64 x.Amount, .int .i64 x.Strength.Lo, .int .i64 x.Strength.Hi]
def eApiDraught (x : ApiDraught)  : Value := .agg (cApiDraught x).toArray
theorem plApiDraught : ∀ fs, Try.prog.underlying 51 = some (.struct fs) → Places Try.prog fs #[(0, 24), (24, 1), (25, 2)] := fun fs h => by
  obtain rfl := TypeDesc.struct.inj (Option.some.inj (Try.underlying51.symm.trans h))
  intro w; kernel_rfl
structure ApiBatch where
  Draughts : (List ApiDraught)
  Water : Int
  Shrink : ApiSpan
  Filtered : Bool
  Coloured : Bool
def cApiBatch (x : ApiBatch) (p0 : Option Addr) (k0 : Nat) : List Value := [.slice p0 x.Draughts.length k0, .int .i64 x.Water, .int .i64 x.Shrink.Lo, .int .i64 x.Shrink.Hi, .bool x.Filtered, .bool x.Coloured]
def eApiBatch (x : ApiBatch) (p0 : Option Addr) (k0 : Nat) : Value := .agg (cApiBatch x p0 k0).toArray
def rApiBatch : ERel ApiBatch := fun F x vs => ∃ p0 k0, vs = cApiBatch x p0 k0 ∧ RepSl 27 (Ex cApiDraught) F p0 k0 x.Draughts
theorem plApiBatch : ∀ fs, Try.prog.underlying 38 = some (.struct fs) → Places Try.prog fs #[(0, 1), (1, 1), (2, 2), (4, 1), (5, 1)] := fun fs h => by
  obtain rfl := TypeDesc.struct.inj (Option.some.inj (Try.underlying38.symm.trans h))
  intro w; kernel_rfl
structure BottleBatch where
  Batch : ApiBatch
  amount : Int
  least : Int
  most : Int
def cBottleBatch (x : BottleBatch) (p0 : Option Addr) (k0 : Nat) : List Value := [.slice p0 x.Batch.Draughts.length k0, .int .i64 x.Batch.Water, .int .i64 x.Batch.Shrink.Lo, .int .i64 x.Batch.Shrink.Hi, .bool x.Batch.Filtered, .bool x.Batch.Coloured, .int .i64 x.amount, .int .i64 x.least, .int .i64 x.most]
def eBottleBatch (x : BottleBatch) (p0 : Option Addr) (k0 : Nat) : Value := .agg (cBottleBatch x p0 k0).toArray
def rBottleBatch : ERel BottleBatch := fun F x vs => ∃ p0 k0, vs = cBottleBatch x p0 k0 ∧ RepSl 27 (Ex cApiDraught) F p0 k0 x.Batch.Draughts
theorem plBottleBatch : ∀ fs, Try.prog.underlying 95 = some (.struct fs) → Places Try.prog fs #[(0, 6), (6, 1), (7, 1), (8, 1)] := fun fs h => by
  obtain rfl := TypeDesc.struct.inj (Option.some.inj (Try.underlying95.symm.trans h))
  intro w; kernel_rfl
structure ApiBottling where
  Volume : ApiSpan
  Strength : ApiSpan
  Age : Int
  Woods : (Nat → Int)
  Places : (Nat → Int)
  Casks : Int
def cApiBottling (x : ApiBottling)  : List Value := [.int .i64 x.Volume.Lo, .int .i64 x.Volume.Hi, .int .i64 x.Strength.Lo, .int .i64 x.Strength.Hi, .int .i64 x.Age, .int .i64 (x.Woods 0), .int .i64 (x.Woods 1), .int .i64 (x.Woods 2), .int .i64 (x.Woods 3), .int .i64 (x.Woods 4), .int .i64 (x.Woods 5), .int .i64 (x.Woods 6), .int .i64 (x.Woods 7), .int .i64 (x.Places 0), .int .i64 (x.Places 1), .int .i64 (x.Places 2), .int .i64 (x.Places 3), .int .i64 (x.Places 4), .int .i64 (x.Places 5), .int .i64 (x.Places 6), .int .i64 (x.Places 7), .int .i64 x.Casks]
def eApiBottling (x : ApiBottling)  : Value := .agg (cApiBottling x).toArray
theorem plApiBottling : ∀ fs, Try.prog.underlying 56 = some (.struct fs) → Places Try.prog fs #[(0, 2), (2, 2), (4, 1), (5, 8), (13, 8), (21, 1)] := fun fs h => by
  obtain rfl := TypeDesc.struct.inj (Option.some.inj (Try.underlying56.symm.trans h))
  intro w; kernel_rfl
structure ApiClaim where
  Kind : Int
  What : Int
  Number : Int
def cApiClaim (x : ApiClaim)  : List Value := [.int .i64 x.Kind, .int .i64 x.What, .int .i64 x.Number]
def eApiClaim (x : ApiClaim)  : Value := .agg (cApiClaim x).toArray
theorem plApiClaim : ∀ fs, Try.prog.underlying 46 = some (.struct fs) → Places Try.prog fs #[(0, 1), (1, 1), (2, 1)] := fun fs h => by
  obtain rfl := TypeDesc.struct.inj (Option.some.inj (Try.underlying46.symm.trans h))
  intro w; kernel_rfl
structure BottleLabel where
  batch : BottleBatch
  known : ApiBottling
def cBottleLabel (x : BottleLabel) (p0 : Option Addr) (k0 : Nat) : List Value := [.slice p0 x.batch.Batch.Draughts.length k0, .int .i64 x.batch.Batch.Water, .int .i64 x.batch.Batch.Shrink.Lo, .int .i64 x.batch.Batch.Shrink.Hi, .bool x.batch.Batch.Filtered, .bool x.batch.Batch.Coloured, .int .i64 x.batch.amount, .int .i64 x.batch.least, .int .i64 x.batch.most, .int .i64 x.known.Volume.Lo, .int .i64 x.known.Volume.Hi, .int .i64 x.known.Strength.Lo, .int .i64 x.known.Strength.Hi, .int .i64 x.known.Age, .int .i64 (x.known.Woods 0), .int .i64 (x.known.Woods 1), .int .i64 (x.known.Woods 2), .int .i64 (x.known.Woods 3), .int .i64 (x.known.Woods 4), .int .i64 (x.known.Woods 5), .int .i64 (x.known.Woods 6), .int .i64 (x.known.Woods 7), .int .i64 (x.known.Places 0), .int .i64 (x.known.Places 1), .int .i64 (x.known.Places 2), .int .i64 (x.known.Places 3), .int .i64 (x.known.Places 4), .int .i64 (x.known.Places 5), .int .i64 (x.known.Places 6), .int .i64 (x.known.Places 7), .int .i64 x.known.Casks]
def eBottleLabel (x : BottleLabel) (p0 : Option Addr) (k0 : Nat) : Value := .agg (cBottleLabel x p0 k0).toArray
def rBottleLabel : ERel BottleLabel := fun F x vs => ∃ p0 k0, vs = cBottleLabel x p0 k0 ∧ RepSl 27 (Ex cApiDraught) F p0 k0 x.batch.Batch.Draughts
theorem plBottleLabel : ∀ fs, Try.prog.underlying 97 = some (.struct fs) → Places Try.prog fs #[(0, 9), (9, 22)] := fun fs h => by
  obtain rfl := TypeDesc.struct.inj (Option.some.inj (Try.underlying97.symm.trans h))
  intro w; kernel_rfl
structure ApiLabelRule where
  Country : Int
  Least : Int
  Most : Int
  Age : Int
  Must : Int
  Never : Int
def cApiLabelRule (x : ApiLabelRule)  : List Value := [.int .i64 x.Country, .int .i64 x.Least, .int .i64 x.Most, .int .i64 x.Age, .int .i64 x.Must, .int .i64 x.Never]
def eApiLabelRule (x : ApiLabelRule)  : Value := .agg (cApiLabelRule x).toArray
theorem plApiLabelRule : ∀ fs, Try.prog.underlying 114 = some (.struct fs) → Places Try.prog fs #[(0, 1), (1, 1), (2, 1), (3, 1), (4, 1), (5, 1)] := fun fs h => by
  obtain rfl := TypeDesc.struct.inj (Option.some.inj (Try.underlying114.symm.trans h))
  intro w; kernel_rfl
theorem ok_t3 : ElemOK Try.prog 3 1 (Ex (cInt .i64)) := .ex (fun _ => rfl) (fun _ => rfl) Try.sizeOf3 ⟨_, Try.typeInfo3, by decide +kernel, by decide +kernel⟩ ⟨_, Try.zeroValue3, rfl⟩
theorem ok_t4 : ElemOK Try.prog 4 1 (Ex cBool) := .ex (fun _ => rfl) (fun _ => rfl) Try.sizeOf4 ⟨_, Try.typeInfo4, by decide +kernel, by decide +kernel⟩ ⟨_, Try.zeroValue4, rfl⟩
theorem ok_t36 : ElemOK Try.prog 36 2 (Ex cApiSpan) := .ex (fun _ => rfl) (fun _ => rfl) Try.sizeOf36 ⟨_, Try.typeInfo36, by decide +kernel, by decide +kernel⟩ ⟨_, Try.zeroValue36, rfl⟩
theorem ok_t46 : ElemOK Try.prog 46 3 (Ex cApiClaim) := .ex (fun _ => rfl) (fun _ => rfl) Try.sizeOf46 ⟨_, Try.typeInfo46, by decide +kernel, by decide +kernel⟩ ⟨_, Try.zeroValue46, rfl⟩
theorem ok_t51 : ElemOK Try.prog 51 27 (Ex cApiDraught) := .ex (fun _ => rfl) (fun _ => rfl) Try.sizeOf51 ⟨_, Try.typeInfo51, by decide +kernel, by decide +kernel⟩ ⟨_, Try.zeroValue51, rfl⟩
theorem ok_t70 : ElemOK Try.prog 70 4 (Ex cApiStampEvent) := .ex (fun _ => rfl) (fun _ => rfl) Try.sizeOf70 ⟨_, Try.typeInfo70, by decide +kernel, by decide +kernel⟩ ⟨_, Try.zeroValue70, rfl⟩
theorem ok_t81 : ElemOK Try.prog 81 1 (rSl 2 (Ex cApiSpan)) := .mk (fun _ _ _ ⟨_, _, h, _⟩ => h ▸ rfl) (fun _ _ _ ⟨_, _, h, _⟩ => h ▸ rfl) (fun _ _ _ _ le ⟨q0, q1, h, h0⟩ => ⟨q0, q1, h, h0.mono le⟩) Try.sizeOf81 ⟨_, Try.typeInfo81, by decide +kernel, by decide +kernel⟩ ⟨_, Try.zeroValue81, rfl⟩
theorem allLt2 {p : Nat → Prop} (h0 : p 0) (h1 : p 1) : ∀ j, j < 2 → p j := by
  intro j hj; match j, hj with | 0, _ => exact h0 | 1, _ => exact h1
theorem allLt4 {p : Nat → Prop} (h0 : p 0) (h1 : p 1) (h2 : p 2) (h3 : p 3) : ∀ j, j < 4 → p j := by
  intro j hj; match j, hj with | 0, _ => exact h0 | 1, _ => exact h1 | 2, _ => exact h2 | 3, _ => exact h3
def eq_36 (x y : ApiSpan) : Bool := [(x.Lo == y.Lo), (x.Hi == y.Hi)].all id
theorem reqd_36 (x y : ApiSpan) (d : Nat) (w : World) : (Op.equalIn (d + 2) 36 (.agg (cApiSpan x).toArray) (.agg (cApiSpan y).toArray)).run Try.prog w = .ok (eq_36 x y) w :=
  eq_struct Try.underlying36 (by kernel_rfl) (bs := [(x.Lo == y.Lo), (x.Hi == y.Hi)]) ⟨eq_false (by decide), ⟨_, _, part1 Try.isAgg3 rfl, part1 Try.isAgg3 rfl, fun w => eq_int Try.underlying3 (d + 0) w⟩, eq_false (by decide), ⟨_, _, part1 Try.isAgg3 rfl, part1 Try.isAgg3 rfl, fun w => eq_int Try.underlying3 (d + 0) w⟩, trivial⟩ w
theorem req_36 (x y : ApiSpan) (w : World) : (Op.equal 36 (.agg (cApiSpan x).toArray) (.agg (cApiSpan y).toArray)).run Try.prog w = .ok (eq_36 x y) w := reqd_36 x y 9998 w

end Go.Proofs.Ytbomfcghpajaiaa
