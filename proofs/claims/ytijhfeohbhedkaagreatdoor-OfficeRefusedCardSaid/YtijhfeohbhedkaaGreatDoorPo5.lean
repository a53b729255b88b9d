/- For OfficeRefused. -/
import Derived.Test.YtijhfeohbhedkaaGreatDoorPo4
import Derived.Test.YtijhfeohbhedkaaGreatDoorProg
import Derived.Shelf.SlMaps.Clone
import Derived.Ground.SlmcProg
import Derived.Shelf.SortM.Plain
import Derived.Shelf.SortM.SortNone
import Derived.Ground.GgzProg
import Derived.Ground.SlgmProg
noncomputable section
namespace Go.Dec
abbrev x5:=@TypeDesc.struct.inj
abbrev ph:=@List.mem_cons_self
abbrev rf:=@Go.Proofs.AnyZI.sorted_in
abbrev nL:=@eq_false
abbrev nr:=@Go.Proofs.AnyZI.keys_gives_nil
abbrev mE:=@Go.Proofs.AnyZI.keys_gives
abbrev mO:=@List.cons_ne_nil
abbrev mP:=@Go.Proofs.AnyZI.keys_in
end Go.Dec
namespace Go.Proofs.YtijhfeohbhedkaaGreatDoor
section
open Go.Dec Go.Shelf Go.RowKit Go.Maps Go.Sort
variable{Q:pY->Act->AT->Prop}{S:UV (Nat×Do)}{D:UV IR}{O:H1 Nat}{β:Type}{m:H1 β}{ks:UV Kt}{hs:UV HP}{F F' F1 F2:Fz}{P:RK}{n p2 p4 p6 p7 p8:Nat}{r:β}{p0 p1 p3 p5:H1 Of}
theorem Qc:Tryz.prog.follows .mixedOrders=true:=by kernel_rfl
abbrev YJ:= @Tryz.underlying101
abbrev FQ:= @Tryz.underlying108
abbrev TP:= @Tryz.underlying110
abbrev J2:= @Tryz.underlying112
abbrev H8:= @Tryz.underlying114
abbrev MY:= @Tryz.underlying121
abbrev SY:= @Tryz.underlying123
abbrev E2:= @Tryz.underlying128
abbrev B8:= @Tryz.underlying133
abbrev HL:= @Tryz.underlying135
abbrev B7:= @Tryz.underlying144
abbrev PD:= @Tryz.underlying147
abbrev SX:= @Tryz.underlying152
abbrev xH:= @Tryz.underlying153
abbrev Wi:= @Tryz.underlying155
abbrev DL:= @Tryz.underlying161
abbrev jX:= @Tryz.underlying162
abbrev xG:= @Tryz.underlying173
abbrev MX:= @Tryz.underlying181
abbrev H7:= @Tryz.underlying185
abbrev PC:= @Tryz.underlying191
abbrev vJ:= @Tryz.underlying198
abbrev Ie:= @Tryz.underlying199
abbrev xR:= @Tryz.underlying20
abbrev PB:= @Tryz.underlying201
abbrev Ic:= @Tryz.underlying206
abbrev Fh:= @Tryz.underlying208
abbrev Jw:= @Tryz.underlying210
abbrev xQ:= @Tryz.underlying22
abbrev qn:= @Tryz.underlying221
abbrev VC:= @Tryz.underlying223
abbrev qm:= @Tryz.underlying226
abbrev Ui:= @Tryz.underlying227
abbrev E1:= @Tryz.underlying229
abbrev vH:= @Tryz.underlying231
abbrev xr:= @Tryz.underlying244
abbrev uo:= @Tryz.underlying247
abbrev MW:= @Tryz.underlying249
abbrev xF:= @Tryz.underlying25
abbrev xq:= @Tryz.underlying261
abbrev um:= @Tryz.underlying265
abbrev xp:= @Tryz.underlying268
abbrev vG:= @Tryz.underlying288
abbrev U3:= @Tryz.underlying3
abbrev UT:= @Tryz.underlying34
abbrev Lm:= @Tryz.underlying40
abbrev Ll:= @Tryz.underlying42
abbrev U5:= @Tryz.underlying5
abbrev gm:= @Tryz.underlying50
abbrev jW:= @Tryz.underlying51
abbrev gy:= @Tryz.underlying52
abbrev jV:= @Tryz.underlying53
abbrev HK:= @Tryz.underlying55
abbrev jd:= @Tryz.underlying57
abbrev gG:= @Tryz.underlying59
abbrev gF:= @Tryz.underlying64
abbrev Fg:= @Tryz.underlying67
abbrev DM:= @Tryz.underlying70
abbrev Nx:= @Tryz.underlying72
abbrev gl:= @Tryz.underlying80
abbrev U9:= @Tryz.underlying9
abbrev Ux:= @Tryz.underlying98
abbrev Nt:= @Tryz.isAgg101
abbrev uk:= @Tryz.isAgg108
abbrev MV:= @Tryz.isAgg110
abbrev Ns:= @Tryz.isAgg112
abbrev E0:= @Tryz.isAgg114
abbrev ql:= @Tryz.isAgg121
abbrev Nr:= @Tryz.isAgg123
abbrev gk:= @Tryz.isAgg128
abbrev xo:= @Tryz.isAgg133
abbrev Ib:= @Tryz.isAgg135
abbrev gj:= @Tryz.isAgg138
abbrev qk:= @Tryz.isAgg144
abbrev uj:= @Tryz.isAgg147
abbrev xn:= @Tryz.isAgg152
abbrev gi:= @Tryz.isAgg153
abbrev jU:= @Tryz.isAgg155
abbrev ui:= @Tryz.isAgg161
abbrev uh:= @Tryz.isAgg173
abbrev vF:= @Tryz.isAgg181
abbrev AW:= @Tryz.isAgg185
abbrev ug:= @Tryz.isAgg191
abbrev MU:= @Tryz.isAgg195
abbrev Ez:= @Tryz.isAgg199
abbrev vE:= @Tryz.isAgg206
abbrev jT:= @Tryz.isAgg208
abbrev DK:= @Tryz.isAgg218
abbrev Ia:= @Tryz.isAgg221
abbrev xm:= @Tryz.isAgg226
abbrev IZ:= @Tryz.isAgg227
abbrev uf:= @Tryz.isAgg230
abbrev gg:= @Tryz.isAgg243
abbrev gf:= @Tryz.isAgg244
abbrev gd:= @Tryz.isAgg268
abbrev Lk:= @Tryz.isAgg27
abbrev V3:= @Tryz.isAgg3
abbrev ga:= @Tryz.isAgg34
abbrev V4:= @Tryz.isAgg4
abbrev xO:= @Tryz.isAgg40
abbrev xl:= @Tryz.isAgg42
abbrev V5:= @Tryz.isAgg5
abbrev gE:= @Tryz.isAgg50
abbrev vV:= @Tryz.isAgg51
abbrev gD:= @Tryz.isAgg52
abbrev gC:= @Tryz.isAgg53
abbrev xk:= @Tryz.isAgg77
abbrev V9:= @Tryz.isAgg9
abbrev xN:= @Tryz.isAgg98
abbrev Bd:= @Tryz.sizeOf101
abbrev MT:= @Tryz.sizeOf108
abbrev Pv:= @Tryz.sizeOf110
abbrev Uh:= @Tryz.sizeOf112
abbrev H6:= @Tryz.sizeOf114
abbrev Ey:= @Tryz.sizeOf121
abbrev Cv:= @Tryz.sizeOf123
abbrev qj:= @Tryz.sizeOf128
abbrev Ff:= @Tryz.sizeOf133
abbrev HI:= @Tryz.sizeOf135
abbrev xj:= @Tryz.sizeOf138
abbrev Cu:= @Tryz.sizeOf144
abbrev AV:= @Tryz.sizeOf147
abbrev Ct:= @Tryz.sizeOf152
abbrev xE:= @Tryz.sizeOf153
abbrev Ug:= @Tryz.sizeOf155
abbrev IY:= @Tryz.sizeOf161
abbrev xD:= @Tryz.sizeOf173
abbrev xi:= @Tryz.sizeOf179
abbrev Pu:= @Tryz.sizeOf181
abbrev H5:= @Tryz.sizeOf185
abbrev qi:= @Tryz.sizeOf191
abbrev vD:= @Tryz.sizeOf195
abbrev Ew:= @Tryz.sizeOf199
abbrev Eu:= @Tryz.sizeOf206
abbrev Gk:= @Tryz.sizeOf208
abbrev gZ:= @Tryz.sizeOf210
abbrev jS:= @Tryz.sizeOf218
abbrev IX:= @Tryz.sizeOf221
abbrev jR:= @Tryz.sizeOf226
abbrev AU:= @Tryz.sizeOf227
abbrev vC:= @Tryz.sizeOf230
abbrev gY:= @Tryz.sizeOf231
abbrev xh:= @Tryz.sizeOf243
abbrev xC:= @Tryz.sizeOf244
abbrev gX:= @Tryz.sizeOf247
abbrev gW:= @Tryz.sizeOf265
abbrev xB:= @Tryz.sizeOf268
abbrev Ii:= @Tryz.sizeOf27
abbrev W3:= @Tryz.sizeOf3
abbrev W4:= @Tryz.sizeOf4
abbrev vU:= @Tryz.sizeOf40
abbrev ue:= @Tryz.sizeOf42
abbrev W5:= @Tryz.sizeOf5
abbrev xM:= @Tryz.sizeOf50
abbrev jc:= @Tryz.sizeOf51
abbrev xL:= @Tryz.sizeOf52
abbrev wF:= @Tryz.sizeOf53
abbrev jQ:= @Tryz.sizeOf55
abbrev fF:= @Tryz.sizeOf59
abbrev W9:= @Tryz.sizeOf9
abbrev zj:= @Tryz.sizeOf98
abbrev qh:= @Tryz.zeroValue101
abbrev jP:= @Tryz.zeroValue108
abbrev Cs:= @Tryz.zeroValue112
abbrev jO:= @Tryz.zeroValue114
abbrev xg:= @Tryz.zeroValue123
abbrev xA:= @Tryz.zeroValue128
abbrev PA:= @Tryz.zeroValue135
abbrev jN:= @Tryz.zeroValue144
abbrev jM:= @Tryz.zeroValue147
abbrev jL:= @Tryz.zeroValue155
abbrev w9:= @Tryz.zeroValue161
abbrev gV:= @Tryz.zeroValue173
abbrev jK:= @Tryz.zeroValue181
abbrev jJ:= @Tryz.zeroValue185
abbrev ud:= @Tryz.zeroValue191
abbrev gU:= @Tryz.zeroValue195
abbrev vB:= @Tryz.zeroValue198
abbrev gT:= @Tryz.zeroValue201
abbrev w8:= @Tryz.zeroValue208
abbrev gS:= @Tryz.zeroValue210
abbrev gR:= @Tryz.zeroValue218
abbrev gQ:= @Tryz.zeroValue223
abbrev qg:= @Tryz.zeroValue226
abbrev gP:= @Tryz.zeroValue227
abbrev gO:= @Tryz.zeroValue229
abbrev xf:= @Tryz.zeroValue231
abbrev w7:= @Tryz.zeroValue244
abbrev xe:= @Tryz.zeroValue247
abbrev xd:= @Tryz.zeroValue265
abbrev w6:= @Tryz.zeroValue268
abbrev gN:= @Tryz.zeroValue27
abbrev Y3:= @Tryz.zeroValue3
abbrev Y4:= @Tryz.zeroValue4
abbrev gM:= @Tryz.zeroValue55
abbrev fE:= @Tryz.zeroValue57
abbrev gx:= @Tryz.zeroValue59
abbrev Lj:= @Tryz.zeroValue67
abbrev P8:= @Tryz.zeroValue70
abbrev vA:= @Tryz.zeroValue98
structure Js where
 g210:Nat
 g201:Nat
 g223:Nat
 g57:Nat
 g221:Nat
 g206:Nat
 g199:Nat
 g55:Nat
 g64:Nat
variable{U:Js}
structure ZP where
 Number:Int
 Wood:Int
 Place:Int
 Room:Int
 Owner:Int
 Creditor:Int
 Amount:Int
 Age:Int
 Woods:(Nat->Int)
 Places:(Nat->Int)
def Qv(x:ZP):UV Do:=[.int .i64 x.Number,.int .i64 x.Wood,.int .i64 x.Place,.int .i64 x.Room,.int .i64 x.Owner,.int .i64 x.Creditor,.int .i64 x.Amount,.int .i64 x.Age,.int .i64<|x.Woods 0,.int .i64<|x.Woods 1,.int .i64<|x.Woods 2,.int .i64<|x.Woods 3,.int .i64<|x.Woods 4,.int .i64<|x.Woods 5,.int .i64<|x.Woods 6,.int .i64<|x.Woods 7,.int .i64<|x.Places 0,.int .i64<|x.Places 1,.int .i64<|x.Places 2,.int .i64<|x.Places 3,.int .i64<|x.Places 4,.int .i64<|x.Places 5,.int .i64<|x.Places 6,.int .i64<|x.Places 7]
def Dg(x:ZP):Do:=.agg (Qv x).toArray
theorem TZ:∀fs,Tryz.prog.underlying 135=some (.struct fs)->Places Tryz.prog fs #[(0,1),(1,1),(2,1),(3,1),(4,1),(5,1),(6,1),(7,1),(8,8),(16,8)]:=λfs h=>by
 obtain rfl:=x5<|u2<|Tryz.underlying135.symm.trans h;intro w;kernel_rfl
structure QB where
 Lo:Int
 Hi:Int
def QY(x:QB):UV Do:=[.int .i64 x.Lo,.int .i64 x.Hi]
def JO(x:QB):Do:=.agg (QY x).toArray
theorem Xx:∀fs,Tryz.prog.underlying 112=some (.struct fs)->Places Tryz.prog fs #[(0,1),(1,1)]:=λfs h=>by
 obtain rfl:=x5<|u2<|Tryz.underlying112.symm.trans h;intro w;kernel_rfl
structure Qn where
 From:ZP
 Amount:Int
 Strength:QB
def QP(x:Qn):UV Do:=[.int .i64 x.From.Number,.int .i64 x.From.Wood,.int .i64 x.From.Place,.int .i64 x.From.Room,.int .i64 x.From.Owner,.int .i64 x.From.Creditor,.int .i64 x.From.Amount,.int .i64 x.From.Age,.int .i64<|x.From.Woods 0,.int .i64<|x.From.Woods 1,.int .i64<|x.From.Woods 2,.int .i64<|x.From.Woods 3,.int .i64<|x.From.Woods 4,.int .i64<|x.From.Woods 5,.int .i64<|x.From.Woods 6,.int .i64<|x.From.Woods 7,.int .i64<|x.From.Places 0,.int .i64<|x.From.Places 1,.int .i64<|x.From.Places 2,.int .i64<|x.From.Places 3,.int .i64<|x.From.Places 4,.int .i64<|x.From.Places 5,.int .i64<|x.From.Places 6,.int .i64<|x.From.Places 7,.int .i64 x.Amount,.int .i64 x.Strength.Lo,.int .i64 x.Strength.Hi]
def VA(x:Qn):Do:=.agg (QP x).toArray
theorem EH:∀fs,Tryz.prog.underlying 144=some (.struct fs)->Places Tryz.prog fs #[(0,24),(24,1),(25,2)]:=λfs h=>by
 obtain rfl:=x5<|u2<|Tryz.underlying144.symm.trans h;intro w;kernel_rfl
structure QU where
 Draughts:(List Qn)
 Water:Int
 Shrink:QB
 Filtered:Bool
 Coloured:Bool
def Q6(x:QU)(p0:H1 Of)(k0:Nat):UV Do:=[.slice p0 x.Draughts.length k0,.int .i64 x.Water,.int .i64 x.Shrink.Lo,.int .i64 x.Shrink.Hi,.bool x.Filtered,.bool x.Coloured]
def Zj(x:QU)(p0:H1 Of)(k0:Nat):Do:=.agg (Q6 x p0 k0).toArray
theorem I6:∀fs,Tryz.prog.underlying 114=some (.struct fs)->Places Tryz.prog fs #[(0,1),(1,1),(2,2),(4,1),(5,1)]:=λfs h=>by
 obtain rfl:=x5<|u2<|Tryz.underlying114.symm.trans h;intro w;kernel_rfl
structure Zy where
 From:Int
 Rate:Int
def ZZ(x:Zy):UV Do:=[.int .i64 x.From,.int .i64 x.Rate]
def Eh(x:Zy):Do:=.agg (ZZ x).toArray
theorem MA:∀fs,Tryz.prog.underlying 128=some (.struct fs)->Places Tryz.prog fs #[(0,1),(1,1)]:=λfs h=>by
 obtain rfl:=x5<|u2<|Tryz.underlying128.symm.trans h;intro w;kernel_rfl
structure Qz where
 Rates:(List Zy)
 Transit:Int
 Loss:Int
 Share:Int
def ZH(x:Qz)(p0:H1 Of)(k0:Nat):UV Do:=[.slice p0 x.Rates.length k0,.int .i64 x.Transit,.int .i64 x.Loss,.int .i64 x.Share]
def YA(x:Qz)(p0:H1 Of)(k0:Nat):Do:=.agg (ZH x p0 k0).toArray
def Kg:UU Qz:=λF x vs=>∃p0 k0,vs=ZH x p0 k0/\QG 2 (Ex ZZ) F p0 k0 x.Rates
theorem Rz:∀fs,Tryz.prog.underlying 123=some (.struct fs)->Places Tryz.prog fs #[(0,1),(1,1),(2,1),(3,1)]:=λfs h=>by
 obtain rfl:=x5<|u2<|Tryz.underlying123.symm.trans h;intro w;kernel_rfl
structure QE where
 Kind:Int
 Day:Int
 Cask:Int
 Other:Int
 Person:Int
 To:Int
 Amount:Int
 Where:Int
def QH(x:QE):UV Do:=[.int .i64 x.Kind,.int .i64 x.Day,.int .i64 x.Cask,.int .i64 x.Other,.int .i64 x.Person,.int .i64 x.To,.int .i64 x.Amount,.int .i64 x.Where]
def JG(x:QE):Do:=.agg (QH x).toArray
theorem Yl:∀fs,Tryz.prog.underlying 98=some (.struct fs)->Places Tryz.prog fs #[(0,1),(1,1),(2,1),(3,1),(4,1),(5,1),(6,1),(7,1)]:=λfs h=>by
 obtain rfl:=x5<|u2<|Tryz.underlying98.symm.trans h;intro w;kernel_rfl
structure QM where
 Kind:Int
 Day:Int
 Bond:Int
 To:Int
 Id:Int
 Amount:Int
def QI(x:QM):UV Do:=[.int .i64 x.Kind,.int .i64 x.Day,.int .i64 x.Bond,.int .i64 x.To,.int .i64 x.Id,.int .i64 x.Amount]
def JF(x:QM):Do:=.agg (QI x).toArray
theorem W6:∀fs,Tryz.prog.underlying 101=some (.struct fs)->Places Tryz.prog fs #[(0,1),(1,1),(2,1),(3,1),(4,1),(5,1)]:=λfs h=>by
 obtain rfl:=x5<|u2<|Tryz.underlying101.symm.trans h;intro w;kernel_rfl
structure QJ where
 Kind:Int
 First:Int
 Last:Int
 Batch:Int
def QR(x:QJ):UV Do:=[.int .i64 x.Kind,.int .i64 x.First,.int .i64 x.Last,.int .i64 x.Batch]
def FI(x:QJ):Do:=.agg (QR x).toArray
theorem GA:∀fs,Tryz.prog.underlying 108=some (.struct fs)->Places Tryz.prog fs #[(0,1),(1,1),(2,1),(3,1)]:=λfs h=>by
 obtain rfl:=x5<|u2<|Tryz.underlying108.symm.trans h;intro w;kernel_rfl
structure QA where
 day:Int
 rules:(Option Qz)
 casks:(List QE)
 duties:(List QM)
 stamps:(List QJ)
 batches:(List<|Int×QU)
 pure:(List<|Int×Int)
 ids:Int
variable{L:QA}
def Qg(x:QA)(p0:H1 Of)(k0:Unit)(p1:H1 Of)(k1:Nat)(p2:H1 Of)(k2:Nat)(p3:H1 Of)(k3:Nat)(p4:H1 Nat)(k4:Unit)(p5:H1 Nat)(k5:Unit):UV Do:=[.int .i64 x.day,.pointer p0,.slice p1 x.casks.length k1,.slice p2 x.duties.length k2,.slice p3 x.stamps.length k3,.map p4,.map p5,.int .i64 x.ids]
def NP(x:QA)(p0:H1 Of)(k0:Unit)(p1:H1 Of)(k1:Nat)(p2:H1 Of)(k2:Nat)(p3:H1 Of)(k3:Nat)(p4:H1 Nat)(k4:Unit)(p5:H1 Nat)(k5:Unit):Do:=.agg (Qg x p0 k0 p1 k1 p2 k2 p3 k3 p4 k4 p5 k5).toArray
theorem Pl:∀fs,Tryz.prog.underlying 55=some (.struct fs)->Places Tryz.prog fs #[(0,1),(1,1),(2,1),(3,1),(4,1),(5,1),(6,1),(7,1)]:=λfs h=>by
 obtain rfl:=x5<|u2<|Tryz.underlying55.symm.trans h;intro w;kernel_rfl
structure Qp where
 ledgers:QA
 open_:Bool
def DI(x:Qp)(p0:H1 Of)(k0:Unit)(p1:H1 Of)(k1:Nat)(p2:H1 Of)(k2:Nat)(p3:H1 Of)(k3:Nat)(p4:H1 Nat)(k4:Unit)(p5:H1 Nat)(k5:Unit):UV Do:=[.int .i64 x.ledgers.day,.pointer p0,.slice p1 x.ledgers.casks.length k1,.slice p2 x.ledgers.duties.length k2,.slice p3 x.ledgers.stamps.length k3,.map p4,.map p5,.int .i64 x.ledgers.ids,.bool x.open_]
def Se:UU Qp:=λF x vs=>∃p0 k0 p1 k1 p2 k2 p3 k3 p4 k4 p5 k5,vs=DI x p0 k0 p1 k1 p2 k2 p3 k3 p4 k4 p5 k5/\Ue 123 Kg F p0 x.ledgers.rules/\QG 8 (Ex QH) F p1 k1 x.ledgers.casks/\QG 6 (Ex QI) F p2 k2 x.ledgers.duties/\QG 4 (Ex QR) F p3 k3 x.ledgers.stamps/\UB (λx:Int=>(.int .i64 x)) (λF (x:QU) v=>∃(p0:H1 Of) (k0:Nat),v=(Zj x p0 k0)/\QG 27 (Ex QP) F p0 k0 x.Draughts) F p4 x.ledgers.batches/\UB (λx:Int=>(.int .i64 x)) (λ_ (x:Int) v=>v=(.int .i64 x)) F p5 x.ledgers.pure
theorem Ru:∀fs,Tryz.prog.underlying 57=some (.struct fs)->Places Tryz.prog fs #[(0,8),(8,1)]:=λfs h=>by
 obtain rfl:=x5<|u2<|Tryz.underlying57.symm.trans h;intro w;kernel_rfl
structure Qk where
 e:Int
def Wp(x:Qk):UV Do:=[.int .i64 x.e]
def MK(x:Qk):Do:=.agg (Wp x).toArray
theorem Rv:∀fs,Tryz.prog.underlying 59=some (.struct fs)->Places Tryz.prog fs #[(0,1)]:=λfs h=>by
 obtain rfl:=x5<|u2<|Tryz.underlying59.symm.trans h;intro w;kernel_rfl
structure Zf where
 rest:(List UInt8)
def U4(x:Zf):UV Do:=[.string<|bs x.rest]
theorem Rt:∀fs,Tryz.prog.underlying 64=some (.struct fs)->Places Tryz.prog fs #[(0,1)]:=λfs h=>by
 obtain rfl:=x5<|u2<|Tryz.underlying64.symm.trans h;intro w;kernel_rfl
structure Zh where
 e:Int
def X3(x:Zh):UV Do:=[.int .i64 x.e]
def II(x:Zh):Do:=.agg (X3 x).toArray
theorem EG:∀fs,Tryz.prog.underlying 247=some (.struct fs)->Places Tryz.prog fs #[(0,1)]:=λfs h=>by
 obtain rfl:=x5<|u2<|Tryz.underlying247.symm.trans h;intro w;kernel_rfl
structure ZF where
 age:Int
 woods:(Nat->Int)
 places:(Nat->Int)
def ZB(x:ZF):UV Do:=[.int .i64 x.age,.int .i64<|x.woods 0,.int .i64<|x.woods 1,.int .i64<|x.woods 2,.int .i64<|x.woods 3,.int .i64<|x.woods 4,.int .i64<|x.woods 5,.int .i64<|x.woods 6,.int .i64<|x.woods 7,.int .i64<|x.places 0,.int .i64<|x.places 1,.int .i64<|x.places 2,.int .i64<|x.places 3,.int .i64<|x.places 4,.int .i64<|x.places 5,.int .i64<|x.places 6,.int .i64<|x.places 7]
def U1(x:ZF):Do:=.agg (ZB x).toArray
theorem PT:∀fs,Tryz.prog.underlying 208=some (.struct fs)->Places Tryz.prog fs #[(0,1),(1,8),(9,8)]:=λfs h=>by
 obtain rfl:=x5<|u2<|Tryz.underlying208.symm.trans h;intro w;kernel_rfl
structure QN where
 number:Int
 wood:Int
 place:Int
 room:Int
 owner:Int
 creditor:Int
 amount:Int
 since:Int
 times:ZF
 fills:(Option Nat)
def Um(x:QN)(p0:H1 Nat)(k0:Unit):UV Do:=[.int .i64 x.number,.int .i64 x.wood,.int .i64 x.place,.int .i64 x.room,.int .i64 x.owner,.int .i64 x.creditor,.int .i64 x.amount,.int .i64 x.since,.int .i64 x.times.age,.int .i64<|x.times.woods 0,.int .i64<|x.times.woods 1,.int .i64<|x.times.woods 2,.int .i64<|x.times.woods 3,.int .i64<|x.times.woods 4,.int .i64<|x.times.woods 5,.int .i64<|x.times.woods 6,.int .i64<|x.times.woods 7,.int .i64<|x.times.places 0,.int .i64<|x.times.places 1,.int .i64<|x.times.places 2,.int .i64<|x.times.places 3,.int .i64<|x.times.places 4,.int .i64<|x.times.places 5,.int .i64<|x.times.places 6,.int .i64<|x.times.places 7,.map p0]
def kl(x:QN)(p0:H1 Nat)(k0:Unit):Do:=.agg (Um x p0 k0).toArray
def Mw(U:Js):UU QN:=λF x vs=>∃p0 k0,vs=Um x p0 k0/\Zq U.g206 F p0 x.fills
theorem I3:∀fs,Tryz.prog.underlying 210=some (.struct fs)->Places Tryz.prog fs #[(0,1),(1,1),(2,1),(3,1),(4,1),(5,1),(6,1),(7,1),(8,17),(25,1)]:=λfs h=>by
 obtain rfl:=x5<|u2<|Tryz.underlying210.symm.trans h;intro w;kernel_rfl
structure Qi where
 casks:(Option Nat)
 event:Int
def T9(x:Qi)(p0:H1 Nat)(k0:Unit):UV Do:=[.map p0,.int .i64 x.event]
def Mx(U:Js):UU Qi:=λF x vs=>∃p0 k0,vs=T9 x p0 k0/\Zq U.g199 F p0 x.casks
theorem I4:∀fs,Tryz.prog.underlying 201=some (.struct fs)->Places Tryz.prog fs #[(0,1),(1,1)]:=λfs h=>by
 obtain rfl:=x5<|u2<|Tryz.underlying201.symm.trans h;intro w;kernel_rfl
structure Zm where
 e:Int
def Wq(x:Zm):UV Do:=[.int .i64 x.e]
def ML(x:Zm):Do:=.agg (Wq x).toArray
theorem Ry:∀fs,Tryz.prog.underlying 265=some (.struct fs)->Places Tryz.prog fs #[(0,1)]:=λfs h=>by
 obtain rfl:=x5<|u2<|Tryz.underlying265.symm.trans h;intro w;kernel_rfl
structure QF where
 Id:Int
 From:Int
 To:Int
 Sent:Int
 Amount:Int
def ZI(x:QF):UV Do:=[.int .i64 x.Id,.int .i64 x.From,.int .i64 x.To,.int .i64 x.Sent,.int .i64 x.Amount]
def J0(x:QF):Do:=.agg (ZI x).toArray
theorem Od:∀fs,Tryz.prog.underlying 226=some (.struct fs)->Places Tryz.prog fs #[(0,1),(1,1),(2,1),(3,1),(4,1)]:=λfs h=>by
 obtain rfl:=x5<|u2<|Tryz.underlying226.symm.trans h;intro w;kernel_rfl
structure ZR where
 Bonds:(Nat->Int)
 Moving:(List QF)
 Made:Int
 Found:Int
 Used:Int
 Exported:Int
 Lost:Int
 Charged:Int
 Due:Int
 Paid:Int
def ZE(x:ZR)(p0:H1 Of)(k0:Nat):UV Do:=[.int .i64<|x.Bonds 0,.int .i64<|x.Bonds 1,.int .i64<|x.Bonds 2,.int .i64<|x.Bonds 3,.int .i64<|x.Bonds 4,.int .i64<|x.Bonds 5,.int .i64<|x.Bonds 6,.int .i64<|x.Bonds 7,.int .i64<|x.Bonds 8,.int .i64<|x.Bonds 9,.int .i64<|x.Bonds 10,.int .i64<|x.Bonds 11,.int .i64<|x.Bonds 12,.int .i64<|x.Bonds 13,.int .i64<|x.Bonds 14,.int .i64<|x.Bonds 15,.slice p0 x.Moving.length k0,.int .i64 x.Made,.int .i64 x.Found,.int .i64 x.Used,.int .i64 x.Exported,.int .i64 x.Lost,.int .i64 x.Charged,.int .i64 x.Due,.int .i64 x.Paid]
def V8(x:ZR)(p0:H1 Of)(k0:Nat):Do:=.agg (ZE x p0 k0).toArray
theorem MB:∀fs,Tryz.prog.underlying 155=some (.struct fs)->Places Tryz.prog fs #[(0,16),(16,1),(17,1),(18,1),(19,1),(20,1),(21,1),(22,1),(23,1),(24,1)]:=λfs h=>by
 obtain rfl:=x5<|u2<|Tryz.underlying155.symm.trans h;intro w;kernel_rfl
structure QD where
 rules:Qz
 book:ZR
 moving:(Option Nat)
 known:(Option Nat)
 sums:(Nat->Int)
 day:Int
def Zc(x:QD)(p0:H1 Of)(k0:Nat)(p1:H1 Of)(k1:Nat)(p2:H1 Nat)(k2:Unit)(p3:H1 Nat)(k3:Unit):UV Do:=[.slice p0 x.rules.Rates.length k0,.int .i64 x.rules.Transit,.int .i64 x.rules.Loss,.int .i64 x.rules.Share,.int .i64<|x.book.Bonds 0,.int .i64<|x.book.Bonds 1,.int .i64<|x.book.Bonds 2,.int .i64<|x.book.Bonds 3,.int .i64<|x.book.Bonds 4,.int .i64<|x.book.Bonds 5,.int .i64<|x.book.Bonds 6,.int .i64<|x.book.Bonds 7,.int .i64<|x.book.Bonds 8,.int .i64<|x.book.Bonds 9,.int .i64<|x.book.Bonds 10,.int .i64<|x.book.Bonds 11,.int .i64<|x.book.Bonds 12,.int .i64<|x.book.Bonds 13,.int .i64<|x.book.Bonds 14,.int .i64<|x.book.Bonds 15,.slice p1 x.book.Moving.length k1,.int .i64 x.book.Made,.int .i64 x.book.Found,.int .i64 x.book.Used,.int .i64 x.book.Exported,.int .i64 x.book.Lost,.int .i64 x.book.Charged,.int .i64 x.book.Due,.int .i64 x.book.Paid,.map p2,.map p3,.int .i64<|x.sums 0,.int .i64<|x.sums 1,.int .i64<|x.sums 2,.int .i64<|x.sums 3,.int .i64<|x.sums 4,.int .i64<|x.sums 5,.int .i64<|x.sums 6,.int .i64<|x.sums 7,.int .i64<|x.sums 8,.int .i64<|x.sums 9,.int .i64<|x.sums 10,.int .i64<|x.sums 11,.int .i64<|x.sums 12,.int .i64<|x.sums 13,.int .i64<|x.sums 14,.int .i64<|x.sums 15,.int .i64 x.day]
def Sf(U:Js):UU QD:=λF x vs=>∃p0 k0 p1 k1 p2 k2 p3 k3,vs=Zc x p0 k0 p1 k1 p2 k2 p3 k3/\QG 2 (Ex ZZ) F p0 k0 x.rules.Rates/\Nv 5 (Ex ZI) F p1 k1 x.book.Moving/\Zq U.g221 F p2 x.moving/\Zq U.g206 F p3 x.known
theorem Rx:∀fs,Tryz.prog.underlying 223=some (.struct fs)->Places Tryz.prog fs #[(0,4),(4,25),(29,1),(30,1),(31,16),(47,1)]:=λfs h=>by
 obtain rfl:=x5<|u2<|Tryz.underlying223.symm.trans h;intro w;kernel_rfl
structure Q4 where
 Hand:(List QB)
 Stuck:Int
 Spoiled:Int
 Returned:Int
def Qt(x:Q4)(p0:H1 Of)(k0:Nat):UV Do:=[.slice p0 x.Hand.length k0,.int .i64 x.Stuck,.int .i64 x.Spoiled,.int .i64 x.Returned]
def Sq(x:Q4)(p0:H1 Of)(k0:Nat):Do:=.agg (Qt x p0 k0).toArray
theorem G8:∀fs,Tryz.prog.underlying 181=some (.struct fs)->Places Tryz.prog fs #[(0,1),(1,1),(2,1),(3,1)]:=λfs h=>by
 obtain rfl:=x5<|u2<|Tryz.underlying181.symm.trans h;intro w;kernel_rfl
structure UW where
 issued:(List QB)
 hand:(List QB)
def JJ(x:UW)(p0:H1 Of)(k0:Nat)(p1:H1 Of)(k1:Nat):UV Do:=[.slice p0 x.issued.length k0,.slice p1 x.hand.length k1]
structure Qf where
 Batch:QU
 amount:Int
 least:Int
 most:Int
def Qe(x:Qf)(p0:H1 Of)(k0:Nat):UV Do:=[.slice p0 x.Batch.Draughts.length k0,.int .i64 x.Batch.Water,.int .i64 x.Batch.Shrink.Lo,.int .i64 x.Batch.Shrink.Hi,.bool x.Batch.Filtered,.bool x.Batch.Coloured,.int .i64 x.amount,.int .i64 x.least,.int .i64 x.most]
def Jr(x:Qf)(p0:H1 Of)(k0:Nat):Do:=.agg (Qe x p0 k0).toArray
theorem N9:∀fs,Tryz.prog.underlying 185=some (.struct fs)->Places Tryz.prog fs #[(0,6),(6,1),(7,1),(8,1)]:=λfs h=>by
 obtain rfl:=x5<|u2<|Tryz.underlying185.symm.trans h;intro w;kernel_rfl
structure Qm where
 Volume:QB
 Strength:QB
 Age:Int
 Woods:(Nat->Int)
 Places:(Nat->Int)
 Casks:Int
def Qo(x:Qm):UV Do:=[.int .i64 x.Volume.Lo,.int .i64 x.Volume.Hi,.int .i64 x.Strength.Lo,.int .i64 x.Strength.Hi,.int .i64 x.Age,.int .i64<|x.Woods 0,.int .i64<|x.Woods 1,.int .i64<|x.Woods 2,.int .i64<|x.Woods 3,.int .i64<|x.Woods 4,.int .i64<|x.Woods 5,.int .i64<|x.Woods 6,.int .i64<|x.Woods 7,.int .i64<|x.Places 0,.int .i64<|x.Places 1,.int .i64<|x.Places 2,.int .i64<|x.Places 3,.int .i64<|x.Places 4,.int .i64<|x.Places 5,.int .i64<|x.Places 6,.int .i64<|x.Places 7,.int .i64 x.Casks]
def Gg(x:Qm):Do:=.agg (Qo x).toArray
theorem Sh:∀fs,Tryz.prog.underlying 147=some (.struct fs)->Places Tryz.prog fs #[(0,2),(2,2),(4,1),(5,8),(13,8),(21,1)]:=λfs h=>by
 obtain rfl:=x5<|u2<|Tryz.underlying147.symm.trans h;intro w;kernel_rfl
structure Qr where
 Kind:Int
 What:Int
 Number:Int
def KA(x:Qr):UV Do:=[.int .i64 x.Kind,.int .i64 x.What,.int .i64 x.Number]
def Zn(x:Qr):Do:=.agg (KA x).toArray
theorem I5:∀fs,Tryz.prog.underlying 161=some (.struct fs)->Places Tryz.prog fs #[(0,1),(1,1),(2,1)]:=λfs h=>by
 obtain rfl:=x5<|u2<|Tryz.underlying161.symm.trans h;intro w;kernel_rfl
structure ZD where
 batch:Qf
 known:Qm
def ZY(x:ZD)(p0:H1 Of)(k0:Nat):UV Do:=[.slice p0 x.batch.Batch.Draughts.length k0,.int .i64 x.batch.Batch.Water,.int .i64 x.batch.Batch.Shrink.Lo,.int .i64 x.batch.Batch.Shrink.Hi,.bool x.batch.Batch.Filtered,.bool x.batch.Batch.Coloured,.int .i64 x.batch.amount,.int .i64 x.batch.least,.int .i64 x.batch.most,.int .i64 x.known.Volume.Lo,.int .i64 x.known.Volume.Hi,.int .i64 x.known.Strength.Lo,.int .i64 x.known.Strength.Hi,.int .i64 x.known.Age,.int .i64<|x.known.Woods 0,.int .i64<|x.known.Woods 1,.int .i64<|x.known.Woods 2,.int .i64<|x.known.Woods 3,.int .i64<|x.known.Woods 4,.int .i64<|x.known.Woods 5,.int .i64<|x.known.Woods 6,.int .i64<|x.known.Woods 7,.int .i64<|x.known.Places 0,.int .i64<|x.known.Places 1,.int .i64<|x.known.Places 2,.int .i64<|x.known.Places 3,.int .i64<|x.known.Places 4,.int .i64<|x.known.Places 5,.int .i64<|x.known.Places 6,.int .i64<|x.known.Places 7,.int .i64 x.known.Casks]
def BE(x:ZD)(p0:H1 Of)(k0:Nat):Do:=.agg (ZY x p0 k0).toArray
theorem Sg:∀fs,Tryz.prog.underlying 191=some (.struct fs)->Places Tryz.prog fs #[(0,9),(9,22)]:=λfs h=>by
 obtain rfl:=x5<|u2<|Tryz.underlying191.symm.trans h;intro w;kernel_rfl
structure QZ where
 least:Int
 each:Int
def Zx(x:QZ):UV Do:=[.int .i64 x.least,.int .i64 x.each]
def IH(x:QZ):Do:=.agg (Zx x).toArray
theorem Zz:∀fs,Tryz.prog.underlying 67=some (.struct fs)->Places Tryz.prog fs #[(0,1),(1,1)]:=λfs h=>by
 obtain rfl:=x5<|u2<|Tryz.underlying67.symm.trans h;intro w;kernel_rfl
structure QX where
 form:QZ
 do_:((QA×Unit×(List Int))->Option (Out Qk<|(List UInt8)×QA))
def Ze(x:QX)(p0:x4)(k0:UV Do×UV Do):UV Do:=[.int .i64 x.form.least,.int .i64 x.form.each,.func (.func p0) k0.1.toArray k0.2.toArray]
def Z7(x:QX)(p0:x4)(k0:UV Do×UV Do):Do:=.agg (Ze x p0 k0).toArray
theorem Z0:∀fs,Tryz.prog.underlying 70=some (.struct fs)->Places Tryz.prog fs #[(0,2),(2,1)]:=λfs h=>by
 obtain rfl:=x5<|u2<|Tryz.underlying70.symm.trans h;intro w;kernel_rfl
abbrev AZ(U:Js):Fz->Nat->QN->HP:=Ut 210<|Mw U
abbrev Qs(U:Js)(F:Fz)(xs:UV QN):HP:=Qy U.g210 (AZ U) F xs
theorem K7(U:Js):XO (AZ U):=Ut.stays
theorem XZ(U:Js){x:QN}:∀F vs,(Mw U) F x vs->vs.length=26:=λ_ _ ⟨_,_,h,_⟩=>h▸rfl
abbrev Nw(U:Js):Fz->Nat->Qi->HP:=Ut 201<|Mx U
abbrev Q5(U:Js)(F:Fz)(xs:UV Qi):HP:=Qy U.g201 (Nw U) F xs
theorem KT(U:Js):XO (Nw U):=Ut.stays
theorem wZ(U:Js){x:Qi}:∀F vs,(Mx U) F x vs->vs.length=2:=λ_ _ ⟨_,_,h,_⟩=>h▸rfl
abbrev E5(U:Js):Fz->Nat->QD->HP:=Ut 223<|Sf U
abbrev ZS(U:Js)(F:Fz)(xs:UV QD):HP:=Qy U.g223 (E5 U) F xs
theorem J8(U:Js):XO (E5 U):=Ut.stays
theorem XY(U:Js){x:QD}:∀F vs,(Sf U) F x vs->vs.length=48:=λ_ _ ⟨_,_,_,_,_,_,_,_,h,_,_,_,_⟩=>h▸rfl
abbrev xy(U:Js):Fz->Nat->Qp->HP:=Ut 57 Se
abbrev Vm(U:Js)(F:Fz)(xs:UV Qp):HP:=Qy U.g57 (xy U) F xs
theorem Jl(U:Js):XO (xy U):=Ut.stays
theorem xW{x:Qp}:∀F vs,Se F x vs->vs.length=9:=λ_ _ ⟨_,_,_,_,_,_,_,_,_,_,_,_,h,_,_,_,_,_,_⟩=>h▸rfl
abbrev PF(U:Js):Fz->Nat->UV (Int×QF)->HP:=QW (λx:Int=>(.int .i64 x)) λ_ (x:QF) v=>v=(J0 x)
abbrev KL(U:Js)(F:Fz)(xs:UV (UV<|Int×QF)):HP:=Qy U.g221 (PF U) F xs
theorem VG(U:Js):XO (PF U):=HB
abbrev Gm(U:Js):Fz->Nat->UV (Int×Bool)->HP:=QW (λx:Int=>(.int .i64 x)) λ_ (x:Bool) v=>v=(.bool x)
abbrev Qd(U:Js)(F:Fz)(xs:UV (UV<|Int×Bool)):HP:=Qy U.g206 (Gm U) F xs
theorem Zk(U:Js):XO (Gm U):=HB
abbrev PG(U:Js):Fz->Nat->UV (Int×(H1 Nat))->HP:=QW (λx:Int=>(.int .i64 x)) λF (x:(H1 Nat)) v=>∃(p0:H1 Of) (k0:Unit),v=(.pointer p0)/\ZJ U.g210 F p0 x
abbrev Q7(U:Js)(F:Fz)(xs:UV (UV<|Int×(H1 Nat))):HP:=Qy U.g199 (PG U) F xs
theorem Kj(U:Js):XO (PG U):=HB
def WD(x:Zh):Do:=.iface 247<|II x
def XR(x:Zm):Do:=.iface 265<|ML x
def JS(x:Qk):Do:=.iface 59<|MK x
def Qx(U:Js)(F:Fz)(L:QA):HP:=yi (λq:H1 Of×H1 Of×Nat×H1 Of×Nat×H1 Of×Nat×Nat×Nat=>Ue 123 Kg F q.1 L.rules) λq=>[pc U.g55 (Qg L q.1 () q.2.1 q.2.2.1 q.2.2.2.1 q.2.2.2.2.1 q.2.2.2.2.2.1 q.2.2.2.2.2.2.1 (some q.2.2.2.2.2.2.2.1) () (some q.2.2.2.2.2.2.2.2) ()) 55,Ql 8 (Ex QH) F 98 q.2.1 q.2.2.1<|L.casks,Ql 6 (Ex QI) F 101 q.2.2.2.1 q.2.2.2.2.1<|L.duties,Ql 4 (Ex QR) F 108 q.2.2.2.2.2.1 q.2.2.2.2.2.2.1<|L.stamps,QW (λx:Int=>(.int .i64 x)) (λF (x:QU) v=>∃(p0:H1 Of) (k0:Nat),v=(Zj x p0 k0)/\QG 27 (Ex QP) F p0 k0 x.Draughts) F q.2.2.2.2.2.2.2.1<|L.batches,QW (λx:Int=>(.int .i64 x)) (λ_ (x:Int) v=>v=(.int .i64 x)) F q.2.2.2.2.2.2.2.2<|L.pure]
theorem Gw{m:Mem}(le:F<=F'):Qx U F L m->Qx U F' L m:=fun⟨q,h,hm⟩=>⟨q,h.mono le,Q9 (λ_ h=>h) (Q9 (λ_=>V0 le)<|Q9 (λ_=>V0 le)<|Q9 (λ_=>V0 le)<|Q9 (λ_=>K3 le)<|Q9 (λ_=>K3 le) λ_ h=>h) m hm⟩
theorem _root_.Go.Dec.GL.fu{ops:Nm j9}{l0:UV j9}{F3:Fz}{F4:Fz}{F5:Fz}(is:UV Nat)(h0:Ue 123 Kg F p0 L.rules)(l1:F1<=F)(l2:F2<=F)(l3:F3<=F)(l4:F4<=F)(l5:F5<=F)(hp:JH is hs=[pc U.g55 (Qg L p0 () p1 p2 p3 p4 p5 p6 (some p7) () (some p8) ()) 55,Ql 8 (Ex QH) F1 98 p1 p2<|L.casks,Ql 6 (Ex QI) F2 101 p3 p4<|L.duties,Ql 4 (Ex QR) F3 108 p5 p6<|L.stamps,QW (λx:Int=>(.int .i64 x)) (λF (x:QU) v=>∃(p0:H1 Of) (k0:Nat),v=(Zj x p0 k0)/\QG 27 (Ex QP) F p0 k0 x.Draughts) F4 p7<|L.batches,QW (λx:Int=>(.int .i64 x)) (λ_ (x:Int) v=>v=(.int .i64 x)) F5 p8<|L.pure])(k:GL O P ops l0 ks Q (Hd n D S F<|Qx U F L::JW is hs) m r):GL O P ops l0 ks Q (Hd n D S F hs) m r:=GG.dt is (p0,p1,p2,p3,p4,p5,p6,p7,p8) h0 hp (Q9 (λ_ h=>h)<|Q9 (λ_=>V0 l1)<|Q9 (λ_=>V0 l2)<|Q9 (λ_=>V0 l3)<|Q9 (λ_=>K3 l4)<|Q9 (λ_=>K3 l5) λ_ h=>h) k
theorem _root_.Go.Dec.GC.ft{cd:rj}(i:Nat)(hi:hs[i]? =some (Qx U F L))(k:∀(p0:H1 Of) (p1:H1 Of) (p2:Nat) (p3:H1 Of) (p4:Nat) (p5:H1 Of) (p6:Nat) (p7:Nat) (p8:Nat),Ue 123 Kg F p0 L.rules->GC O P cd ks Q (Hd n D S F<|[pc U.g55 (Qg L p0 () p1 p2 p3 p4 p5 p6 (some p7) () (some p8) ()) 55,Ql 8 (Ex QH) F 98 p1 p2<|L.casks,Ql 6 (Ex QI) F 101 p3 p4<|L.duties,Ql 4 (Ex QR) F 108 p5 p6<|L.stamps,QW (λx:Int=>(.int .i64 x)) (λF (x:QU) v=>∃(p0:H1 Of) (k0:Nat),v=(Zj x p0 k0)/\QG 27 (Ex QP) F p0 k0 x.Draughts) F p7<|L.batches,QW (λx:Int=>(.int .i64 x)) (λ_ (x:Int) v=>v=(.int .i64 x)) F p8<|L.pure]++hs.eraseIdx i) m r):GC O P cd ks Q (Hd n D S F hs) m r:=GG.be i hi λq h=>k q.1 q.2.1 q.2.2.1 q.2.2.2.1 q.2.2.2.2.1 q.2.2.2.2.2.1 q.2.2.2.2.2.2.1 q.2.2.2.2.2.2.2.1 q.2.2.2.2.2.2.2.2 h
theorem _root_.Go.Dec.GE.fu{F3:Fz}{F4:Fz}{F5:Fz}(is:UV Nat)(h0:Ue 123 Kg F p0 L.rules)(l1:F1<=F)(l2:F2<=F)(l3:F3<=F)(l4:F4<=F)(l5:F5<=F)(hp:JH is hs=[pc U.g55 (Qg L p0 () p1 p2 p3 p4 p5 p6 (some p7) () (some p8) ()) 55,Ql 8 (Ex QH) F1 98 p1 p2<|L.casks,Ql 6 (Ex QI) F2 101 p3 p4<|L.duties,Ql 4 (Ex QR) F3 108 p5 p6<|L.stamps,QW (λx:Int=>(.int .i64 x)) (λF (x:QU) v=>∃(p0:H1 Of) (k0:Nat),v=(Zj x p0 k0)/\QG 27 (Ex QP) F p0 k0 x.Draughts) F4 p7<|L.batches,QW (λx:Int=>(.int .i64 x)) (λ_ (x:Int) v=>v=(.int .i64 x)) F5 p8<|L.pure])(k:GE O P ks Q (Hd n D S F<|Qx U F L::JW is hs) m r):GE O P ks Q (Hd n D S F hs) m r:=GG.dt is (p0,p1,p2,p3,p4,p5,p6,p7,p8) h0 hp (Q9 (λ_ h=>h)<|Q9 (λ_=>V0 l1)<|Q9 (λ_=>V0 l2)<|Q9 (λ_=>V0 l3)<|Q9 (λ_=>K3 l4)<|Q9 (λ_=>K3 l5) λ_ h=>h) k
def Jz(U:Js)(F:Fz)(L:QA):HP:=yi (λq:H1 Of×H1 Of×Nat×H1 Of×Nat×H1 Of×Nat×Nat×Nat=>Ue 123 Kg F q.1 L.rules) λq=>[pc U.g55 (Qg L q.1 () q.2.1 q.2.2.1 q.2.2.2.1 q.2.2.2.2.1 q.2.2.2.2.2.1 q.2.2.2.2.2.2.1 (some q.2.2.2.2.2.2.2.1) () (some q.2.2.2.2.2.2.2.2) ()) 55,Iu 8 (Ex QH) F 98 q.2.1 q.2.2.1<|L.casks,Iu 6 (Ex QI) F 101 q.2.2.2.1 q.2.2.2.2.1<|L.duties,Iu 4 (Ex QR) F 108 q.2.2.2.2.2.1 q.2.2.2.2.2.2.1<|L.stamps,QW (λx:Int=>(.int .i64 x)) (λF (x:QU) v=>∃(p0:H1 Of) (k0:Nat),v=(Zj x p0 k0)/\QG 27 (Ex QP) F p0 k0 x.Draughts) F q.2.2.2.2.2.2.2.1<|L.batches,QW (λx:Int=>(.int .i64 x)) (λ_ (x:Int) v=>v=(.int .i64 x)) F q.2.2.2.2.2.2.2.2<|L.pure]
theorem jo{m:Mem}(le:F<=F'):Jz U F L m->Jz U F' L m:=fun⟨q,h,hm⟩=>⟨q,h.mono le,Q9 (λ_ h=>h) (Q9 (λ_=>It le)<|Q9 (λ_=>It le)<|Q9 (λ_=>It le)<|Q9 (λ_=>K3 le)<|Q9 (λ_=>K3 le) λ_ h=>h) m hm⟩
theorem Ya{m:Mem}:Qx U F L m->Jz U F L m:=fun⟨q,h,hm⟩=>⟨q,h,Q9 (λ_ h=>h) (Q9 (λ_ h=>.inl h)<|Q9 (λ_ h=>.inl h)<|Q9 (λ_ h=>.inl h)<|Q9 (λ_ h=>h)<|Q9 (λ_ h=>h) λ_ h=>h) m hm⟩
theorem _root_.Go.Dec.GE.aG(is:UV Nat)(h0:Ue 123 Kg F p0 L.rules)(l1:F1<=F)(l2:F2<=F)(hp:JH is hs=[pc U.g55 (Qg L p0 () p1 p2 p3 p4 p5 p6 (some p7) () (some p8) ()) 55,Iu 8 (Ex QH) F 98 p1 p2<|L.casks,Iu 6 (Ex QI) F 101 p3 p4<|L.duties,Iu 4 (Ex QR) F 108 p5 p6<|L.stamps,QW (λx:Int=>(.int .i64 x)) (λF (x:QU) v=>∃(p0:H1 Of) (k0:Nat),v=(Zj x p0 k0)/\QG 27 (Ex QP) F p0 k0 x.Draughts) F1 p7<|L.batches,QW (λx:Int=>(.int .i64 x)) (λ_ (x:Int) v=>v=(.int .i64 x)) F2 p8<|L.pure])(k:GE O P ks Q (Hd n D S F<|Jz U F L::JW is hs) m r):GE O P ks Q (Hd n D S F hs) m r:=GG.dt is (p0,p1,p2,p3,p4,p5,p6,p7,p8) h0 hp (Q9 (λ_ h=>h)<|Q9 (λ_ h=>h)<|Q9 (λ_ h=>h)<|Q9 (λ_ h=>h)<|Q9 (λ_=>K3 l1)<|Q9 (λ_=>K3 l2) λ_ h=>h) k
def GN(U:Js)(F:Fz)(L:Zf):HP:=yi (λ_:Unit=>True) λ_=>[pc U.g64 (U4 L) 64]
theorem xT{L:Zf}{m:Mem}(_le:F<=F'):GN U F L m->GN U F' L m:=λh=>h
theorem _root_.Go.Dec.GL.sO{ops:Nm j9}{l0:UV j9}{L:Zf}(is:UV Nat)(hp:JH is hs=[pc U.g64 (U4 L) 64])(k:GL O P ops l0 ks Q (Hd n D S F<|GN U F L::JW is hs) m r):GL O P ops l0 ks Q (Hd n D S F hs) m r:=GG.dt is () trivial hp (Q9 (λ_ h=>h) λ_ h=>h) k
theorem _root_.Go.Dec.GC.al{cd:rj}{L:Zf}(i:Nat)(hi:hs[i]? =some (GN U F L))(k:GC O P cd ks Q (Hd n D S F<|[pc U.g64 (U4 L) 64]++hs.eraseIdx i) m r):GC O P cd ks Q (Hd n D S F hs) m r:=GG.be i hi λ_ _=>k
theorem _root_.Go.Dec.GE.sO{L:Zf}(is:UV Nat)(hp:JH is hs=[pc U.g64 (U4 L) 64])(k:GE O P ks Q (Hd n D S F<|GN U F L::JW is hs) m r):GE O P ks Q (Hd n D S F hs) m r:=GG.dt is () trivial hp (Q9 (λ_ h=>h) λ_ h=>h) k
theorem Fo:U7 Tryz.prog 3 1 (Ex<|KK .i64):=.ex (λ_=>rfl) (λ_=>rfl) Tryz.sizeOf3 ⟨_,Tryz.typeInfo3,by decide+kernel,by decide+kernel⟩ ⟨_,Tryz.zeroValue3,rfl⟩
theorem EP:U7 Tryz.prog 98 8 (Ex QH):=.ex (λ_=>rfl) (λ_=>rfl) Tryz.sizeOf98 ⟨_,Tryz.typeInfo98,by decide+kernel,by decide+kernel⟩ ⟨_,Tryz.zeroValue98,rfl⟩
theorem P0:U7 Tryz.prog 101 6 (Ex QI):=.ex (λ_=>rfl) (λ_=>rfl) Tryz.sizeOf101 ⟨_,Tryz.typeInfo101,by decide+kernel,by decide+kernel⟩ ⟨_,Tryz.zeroValue101,rfl⟩
theorem ES:U7 Tryz.prog 108 4 (Ex QR):=.ex (λ_=>rfl) (λ_=>rfl) Tryz.sizeOf108 ⟨_,Tryz.typeInfo108,by decide+kernel,by decide+kernel⟩ ⟨_,Tryz.zeroValue108,rfl⟩
theorem Xp:U7 Tryz.prog 112 2 (Ex QY):=.ex (λ_=>rfl) (λ_=>rfl) Tryz.sizeOf112 ⟨_,Tryz.typeInfo112,by decide+kernel,by decide+kernel⟩ ⟨_,Tryz.zeroValue112,rfl⟩
theorem zE:U7 Tryz.prog 128 2 (Ex ZZ):=.ex (λ_=>rfl) (λ_=>rfl) Tryz.sizeOf128 ⟨_,Tryz.typeInfo128,by decide+kernel,by decide+kernel⟩ ⟨_,Tryz.zeroValue128,rfl⟩
theorem zD:U7 Tryz.prog 135 24 (Ex Qv):=.ex (λ_=>rfl) (λ_=>rfl) Tryz.sizeOf135 ⟨_,Tryz.typeInfo135,by decide+kernel,by decide+kernel⟩ ⟨_,Tryz.zeroValue135,rfl⟩
theorem zB:U7 Tryz.prog 144 27 (Ex QP):=.ex (λ_=>rfl) (λ_=>rfl) Tryz.sizeOf144 ⟨_,Tryz.typeInfo144,by decide+kernel,by decide+kernel⟩ ⟨_,Tryz.zeroValue144,rfl⟩
theorem vz:U7 Tryz.prog 161 3 (Ex KA):=.ex (λ_=>rfl) (λ_=>rfl) Tryz.sizeOf161 ⟨_,Tryz.typeInfo161,by decide+kernel,by decide+kernel⟩ ⟨_,Tryz.zeroValue161,rfl⟩
theorem zA:U7 Tryz.prog 226 5 (Ex ZI):=.ex (λ_=>rfl) (λ_=>rfl) Tryz.sizeOf226 ⟨_,Tryz.typeInfo226,by decide+kernel,by decide+kernel⟩ ⟨_,Tryz.zeroValue226,rfl⟩
theorem ER:U7 Tryz.prog 227 1 (xU 2<|Ex QY):=.mk (λ_ _ _ ⟨_,_,h,_⟩=>h▸rfl) (λ_ _ _ ⟨_,_,h,_⟩=>h▸rfl) (λ_ _ _ _ le ⟨q0,q1,h,h0⟩=>⟨q0,q1,h,h0.mono le⟩) Tryz.sizeOf227 ⟨_,Tryz.typeInfo227,by decide+kernel,by decide+kernel⟩ ⟨_,Tryz.zeroValue227,rfl⟩
def IG(x y:QE):Bool:=[(x.Kind==y.Kind),(x.Day==y.Day),(x.Cask==y.Cask),(x.Other==y.Other),(x.Person==y.Person),(x.To==y.To),(x.Amount==y.Amount),(x.Where==y.Where)].all id
theorem vo(x y:QE)(d:Nat)(w:AT):(Op.equalIn (d+2) 98 (.agg (QH x).toArray)<|.agg (QH y).toArray).run Tryz.prog w= .ok (IG x y) w:=LW Tryz.underlying98 (by kernel_rfl) (bs:=[(x.Kind==y.Kind),(x.Day==y.Day),(x.Cask==y.Cask),(x.Other==y.Other),(x.Person==y.Person),(x.To==y.To),(x.Amount==y.Amount),(x.Where==y.Where)]) ⟨nL (by decide),⟨_,_,WA Tryz.isAgg3 rfl,WA Tryz.isAgg3 rfl,λw=>eq_int Tryz.underlying3 (d+0) w⟩,nL (by decide),⟨_,_,WA Tryz.isAgg3 rfl,WA Tryz.isAgg3 rfl,λw=>eq_int Tryz.underlying3 (d+0) w⟩,nL (by decide),⟨_,_,WA Tryz.isAgg3 rfl,WA Tryz.isAgg3 rfl,λw=>eq_int Tryz.underlying3 (d+0) w⟩,nL (by decide),⟨_,_,WA Tryz.isAgg3 rfl,WA Tryz.isAgg3 rfl,λw=>eq_int Tryz.underlying3 (d+0) w⟩,nL (by decide),⟨_,_,WA Tryz.isAgg3 rfl,WA Tryz.isAgg3 rfl,λw=>eq_int Tryz.underlying3 (d+0) w⟩,nL (by decide),⟨_,_,WA Tryz.isAgg3 rfl,WA Tryz.isAgg3 rfl,λw=>eq_int Tryz.underlying3 (d+0) w⟩,nL (by decide),⟨_,_,WA Tryz.isAgg3 rfl,WA Tryz.isAgg3 rfl,λw=>eq_int Tryz.underlying3 (d+0) w⟩,nL (by decide),⟨_,_,WA Tryz.isAgg3 rfl,WA Tryz.isAgg3 rfl,λw=>eq_int Tryz.underlying3 (d+0) w⟩,trivial⟩ w
theorem wO(x y:QE)(w:AT):(Op.equal 98 (.agg (QH x).toArray)<|.agg (QH y).toArray).run Tryz.prog w= .ok (IG x y) w:=vo x y 9998 w
def NO(x y:QM):Bool:=[(x.Kind==y.Kind),(x.Day==y.Day),(x.Bond==y.Bond),(x.To==y.To),(x.Id==y.Id),(x.Amount==y.Amount)].all id
theorem j1(x y:QM)(d:Nat)(w:AT):(Op.equalIn (d+2) 101 (.agg (QI x).toArray)<|.agg (QI y).toArray).run Tryz.prog w= .ok (NO x y) w:=LW Tryz.underlying101 (by kernel_rfl) (bs:=[(x.Kind==y.Kind),(x.Day==y.Day),(x.Bond==y.Bond),(x.To==y.To),(x.Id==y.Id),(x.Amount==y.Amount)]) ⟨nL (by decide),⟨_,_,WA Tryz.isAgg3 rfl,WA Tryz.isAgg3 rfl,λw=>eq_int Tryz.underlying3 (d+0) w⟩,nL (by decide),⟨_,_,WA Tryz.isAgg3 rfl,WA Tryz.isAgg3 rfl,λw=>eq_int Tryz.underlying3 (d+0) w⟩,nL (by decide),⟨_,_,WA Tryz.isAgg3 rfl,WA Tryz.isAgg3 rfl,λw=>eq_int Tryz.underlying3 (d+0) w⟩,nL (by decide),⟨_,_,WA Tryz.isAgg3 rfl,WA Tryz.isAgg3 rfl,λw=>eq_int Tryz.underlying3 (d+0) w⟩,nL (by decide),⟨_,_,WA Tryz.isAgg3 rfl,WA Tryz.isAgg3 rfl,λw=>eq_int Tryz.underlying3 (d+0) w⟩,nL (by decide),⟨_,_,WA Tryz.isAgg3 rfl,WA Tryz.isAgg3 rfl,λw=>eq_int Tryz.underlying3 (d+0) w⟩,trivial⟩ w
theorem vp(x y:QM)(w:AT):(Op.equal 101 (.agg (QI x).toArray)<|.agg (QI y).toArray).run Tryz.prog w= .ok (NO x y) w:=j1 x y 9998 w
def Tryz.bJ:Go.Shelf.Ren:=⟨fun | 6=>108 | 8=>142 | 9=>143 | 11=>195 | 13=>197 | 12=>196 | 23=>231 | 24=>199 | 14=>222 | 15=>223 | 16=>224 | 17=>225 | 18=>226 | 19=>227 | 20=>228 | 21=>229 | 22=>230 | 25=>241 | 26=>242 | 27=>243 | 28=>244 | 29=>245 | 30=>246 | 31=>247 | n=>n,fun | 26=>3 | 28=>204 | 24=>34 | 0=>0 | 3=>3 | 37=>261 | 48=>281 | 50=>256 | 4=>4 | 40=>295 | 39=>294 | 45=>93 | 5=>5 | 9=>9 | 51=>307 | 55=>230 | 57=>314 | 58=>315 | 33=>75 | n=>n,fun | n=>n⟩
theorem Tryz.dS:Go.Proofs.SlLaysZI.n6 Tryz.prog Tryz.bJ:={
 mixed:=by kernel_rfl
 f6:=⟨Tryz.f108.name,by decide,Tryz.func108.trans<|congrArg some<|by kernel_rfl⟩
 f8:=⟨Tryz.f142.name,by decide,Tryz.func142.trans<|congrArg some<|by kernel_rfl⟩
 f11:=⟨Tryz.f195.name,by decide,Tryz.func195.trans<|congrArg some<|by kernel_rfl⟩
 t0:=Tryz.underlying0
 a0:=Tryz.isAgg0
 z0:=Tryz.sizeOf0
 v0:=Tryz.zeroValue0
 t24:=Tryz.underlying34
 a24:=Tryz.isAgg34
 z24:=Tryz.sizeOf34
 v24:=Tryz.zeroValue34
 t26:=Tryz.underlying3
 a26:=Tryz.isAgg3
 z26:=Tryz.sizeOf3
 v26:=Tryz.zeroValue3
 t28:=Tryz.underlying204
 a28:=Tryz.isAgg204
 z28:=Tryz.sizeOf204
 v28:=Tryz.zeroValue204
 i26:=by kernel_rfl}
def Tryz.cO:Go.Shelf.Ren:=⟨fun | 5=>143 | 8=>197 | 7=>196 | 19=>231 | 20=>199 | 10=>222 | 11=>223 | 12=>224 | 13=>225 | 14=>226 | 15=>227 | 16=>228 | 17=>229 | 18=>230 | 30=>241 | 31=>242 | 32=>243 | 33=>244 | 34=>245 | 35=>246 | 40=>247 | n=>n,fun | 23=>34 | 25=>3 | 3=>3 | 32=>261 | 22=>34 | 0=>0 | 44=>281 | 46=>256 | 4=>4 | 36=>295 | 35=>294 | 41=>93 | 5=>5 | 9=>9 | 53=>307 | 57=>230 | 63=>314 | 64=>315 | n=>n,fun | n=>n⟩
theorem Tryz.sF:Go.Proofs.SlLaysM.n5 Tryz.prog Tryz.cO:={
 mixed:=by kernel_rfl
 f5:=⟨Tryz.f143.name,by decide,Tryz.func143.trans<|congrArg some<|by kernel_rfl⟩
 f7:=⟨Tryz.f196.name,by decide,Tryz.func196.trans<|congrArg some<|by kernel_rfl⟩
 f8:=Tryz.func197.trans<|congrArg some<|by kernel_rfl
 f10:=⟨Tryz.f222.name,by decide,Tryz.func222.trans<|congrArg some<|by kernel_rfl⟩
 f11:=⟨Tryz.f223.name,by decide,Tryz.func223.trans<|congrArg some<|by kernel_rfl⟩
 f12:=⟨Tryz.f224.name,by decide,Tryz.func224.trans<|congrArg some<|by kernel_rfl⟩
 f13:=⟨Tryz.f225.name,by decide,Tryz.func225.trans<|congrArg some<|by kernel_rfl⟩
 f14:=⟨Tryz.f226.name,by decide,Tryz.func226.trans<|congrArg some<|by kernel_rfl⟩
 f15:=⟨Tryz.f227.name,by decide,Tryz.func227.trans<|congrArg some<|by kernel_rfl⟩
 f16:=⟨Tryz.f228.name,by decide,Tryz.func228.trans<|congrArg some<|by kernel_rfl⟩
 f17:=⟨Tryz.f229.name,by decide,Tryz.func229.trans<|congrArg some<|by kernel_rfl⟩
 f18:=⟨Tryz.f230.name,by decide,Tryz.func230.trans<|congrArg some<|by kernel_rfl⟩
 f19:=Tryz.func231.trans<|congrArg some<|by kernel_rfl
 f20:=Tryz.func199.trans<|congrArg some<|by kernel_rfl
 f30:=⟨Tryz.f241.name,by decide,Tryz.func241.trans<|congrArg some<|by kernel_rfl⟩
 f31:=Tryz.func242.trans<|congrArg some<|by kernel_rfl
 f32:=Tryz.func243.trans<|congrArg some<|by kernel_rfl
 f33:=⟨Tryz.f244.name,by decide,Tryz.func244.trans<|congrArg some<|by kernel_rfl⟩
 f34:=⟨Tryz.f245.name,by decide,Tryz.func245.trans<|congrArg some<|by kernel_rfl⟩
 f35:=⟨Tryz.f246.name,by decide,Tryz.func246.trans<|congrArg some<|by kernel_rfl⟩
 f40:=⟨Tryz.f247.name,by decide,Tryz.func247.trans<|congrArg some<|by kernel_rfl⟩
 t0:=Tryz.underlying0
 a0:=Tryz.isAgg0
 z0:=Tryz.sizeOf0
 v0:=Tryz.zeroValue0
 t3:=Tryz.underlying3
 a3:=Tryz.isAgg3
 z3:=Tryz.sizeOf3
 v3:=Tryz.zeroValue3
 t4:=Tryz.underlying4
 a4:=Tryz.isAgg4
 z4:=Tryz.sizeOf4
 v4:=Tryz.zeroValue4
 t5:=Tryz.underlying5
 a5:=Tryz.isAgg5
 z5:=Tryz.sizeOf5
 v5:=Tryz.zeroValue5
 t9:=Tryz.underlying9
 a9:=Tryz.isAgg9
 z9:=Tryz.sizeOf9
 v9:=Tryz.zeroValue9
 t22:=Tryz.underlying34
 a22:=Tryz.isAgg34
 z22:=Tryz.sizeOf34
 v22:=Tryz.zeroValue34
 t23:=Tryz.underlying34
 a23:=Tryz.isAgg34
 z23:=Tryz.sizeOf34
 v23:=Tryz.zeroValue34
 t25:=Tryz.underlying3
 a25:=Tryz.isAgg3
 z25:=Tryz.sizeOf3
 v25:=Tryz.zeroValue3
 t32:=Tryz.underlying261
 a32:=Tryz.isAgg261
 z32:=Tryz.sizeOf261
 v32:=Tryz.zeroValue261
 t35:=Tryz.underlying294
 a35:=Tryz.isAgg294
 z35:=Tryz.sizeOf294
 v35:=Tryz.zeroValue294
 t36:=Tryz.underlying295
 a36:=Tryz.isAgg295
 z36:=Tryz.sizeOf295
 v36:=Tryz.zeroValue295
 t41:=Tryz.underlying93
 a41:=Tryz.isAgg93
 z41:=Tryz.sizeOf93
 v41:=Tryz.zeroValue93
 t44:=Tryz.underlying281
 a44:=Tryz.isAgg281
 z44:=Tryz.sizeOf281
 v44:=Tryz.zeroValue281
 t46:=Tryz.underlying256
 a46:=Tryz.isAgg256
 z46:=Tryz.sizeOf256
 v46:=Tryz.zeroValue256
 t53:=Tryz.underlying307
 a53:=Tryz.isAgg307
 z53:=Tryz.sizeOf307
 v53:=Tryz.zeroValue307
 t57:=Tryz.underlying230
 a57:=Tryz.isAgg230
 z57:=Tryz.sizeOf230
 v57:=Tryz.zeroValue230
 t63:=Tryz.underlying314
 a63:=Tryz.isAgg314
 z63:=Tryz.sizeOf314
 v63:=Tryz.zeroValue314
 t64:=Tryz.underlying315
 a64:=Tryz.isAgg315
 z64:=Tryz.sizeOf315
 v64:=Tryz.zeroValue315}
theorem DR(m:Nat):Go.Proofs.AnyZI.SortsIn Tryz.prog Tryz.bJ Fence.wide m:=⟨λblk off cap ss W hH hblk hsz=>pa.2<|Go.Proofs.AnyM.slices_Sort_int Tryz.sF blk off cap ss W hH hblk hsz,λp cap W=>pa.2<|Go.Proofs.AnyM.slices_Sort_int_none Tryz.sF p cap W⟩
def Tryz.dy:Go.Shelf.Ren:=⟨fun | 7=>154 | 10=>204 | n=>n,fun | 23=>199 | 26=>3 | 3=>198 | 28=>204 | 0=>0 | 27=>203 | 33=>75 | 4=>4 | n=>n,fun | n=>n⟩
theorem Tryz.cI:Go.Proofs.SlLaysZI.n7 Tryz.prog Tryz.dy:={
 mixed:=by kernel_rfl
 f7:=⟨Tryz.f154.name,by decide,Tryz.func154.trans<|congrArg some<|by kernel_rfl⟩
 f10:=⟨Tryz.f204.name,by decide,Tryz.func204.trans<|congrArg some<|by kernel_rfl⟩
 t0:=Tryz.underlying0
 a0:=Tryz.isAgg0
 z0:=Tryz.sizeOf0
 v0:=Tryz.zeroValue0
 t4:=Tryz.underlying4
 a4:=Tryz.isAgg4
 z4:=Tryz.sizeOf4
 v4:=Tryz.zeroValue4
 t23:=Tryz.underlying199
 a23:=Tryz.isAgg199
 z23:=Tryz.sizeOf199
 v23:=Tryz.zeroValue199
 t26:=Tryz.underlying3
 a26:=Tryz.isAgg3
 z26:=Tryz.sizeOf3
 v26:=Tryz.zeroValue3
 t27:=Tryz.underlying203
 a27:=Tryz.isAgg203
 z27:=Tryz.sizeOf203
 v27:=Tryz.zeroValue203
 t28:=Tryz.underlying204
 a28:=Tryz.isAgg204
 z28:=Tryz.sizeOf204
 v28:=Tryz.zeroValue204
 t33:=Tryz.underlying75
 a33:=Tryz.isAgg75
 z33:=Tryz.sizeOf75
 v33:=Tryz.zeroValue75}
theorem kZ:KeysOf Tryz.prog 154 204 199:=λmb W=>(pa (n:=5)).1<|mP Tryz.cI Fence.wide 5 trivial rfl mb W
theorem N1:FT Tryz.prog 108 204 3 3:=by
 refine⟨λb nn D Bm w hBm hm hown hsz=> ?_,λBm w hBm hm=> ?_⟩
 ·have hseq:SeqGives Fence.wide 2 Tryz.prog 204 #[.pointer<|some ⟨Bm,0,none⟩] encZ (λss=>ss.Perm<|intKeys D) (Maps.size D) w:=mE (ρ:=Tryz.dy) {Tryz.cI with} Fence.wide _ trivial rfl (by omega) Bm b nn D w hBm hm hown;have h:=rf Tryz.dS Fence.wide 5 trivial trivial trivial trivial rfl (by omega) (DR _) Tryz.call143 204 #[.pointer<|some ⟨Bm,0,none⟩] trivial Tryz.call204 _ _ (rm hsz (by unfold maxLen;omega)) (by omega) _ hseq;exact(pa (n:=5)).1 h
 ·have hseq:SeqGives Fence.wide 2 Tryz.prog 204 #[.pointer<|some ⟨Bm,0,none⟩] encZ (λss:UV Int=>ss=[]) 0 w:=nr (ρ:=Tryz.dy) {Tryz.cI with} Fence.wide _ trivial rfl Bm w hBm hm;have h:=rf Tryz.dS Fence.wide 5 trivial trivial trivial trivial rfl (by omega) (DR _) Tryz.call143 204 #[.pointer<|some ⟨Bm,0,none⟩] trivial Tryz.call204 _ 0 (mK _) (by omega) _ hseq;refine((pa (n:=5)).1 h).mono ?_;rintro e w' ⟨v,ss,rfl,rfl,hrow,hnil,hb⟩;obtain rfl:v= .slice none 0 0:=hnil.2 rfl;exact⟨rfl,hb⟩
def Tryz.dz:Go.Shelf.Ren:=⟨fun | 7=>118 | 10=>161 | n=>n,fun | 23=>221 | 26=>3 | 3=>226 | 28=>204 | 0=>0 | 27=>203 | 33=>75 | 4=>4 | n=>n,fun | n=>n⟩
theorem Tryz.cJ:Go.Proofs.SlLaysZI.n7 Tryz.prog Tryz.dz:={
 mixed:=by kernel_rfl
 f7:=⟨Tryz.f118.name,by decide,Tryz.func118.trans<|congrArg some<|by kernel_rfl⟩
 f10:=⟨Tryz.f161.name,by decide,Tryz.func161.trans<|congrArg some<|by kernel_rfl⟩
 t0:=Tryz.underlying0
 a0:=Tryz.isAgg0
 z0:=Tryz.sizeOf0
 v0:=Tryz.zeroValue0
 t4:=Tryz.underlying4
 a4:=Tryz.isAgg4
 z4:=Tryz.sizeOf4
 v4:=Tryz.zeroValue4
 t23:=Tryz.underlying221
 a23:=Tryz.isAgg221
 z23:=Tryz.sizeOf221
 v23:=Tryz.zeroValue221
 t26:=Tryz.underlying3
 a26:=Tryz.isAgg3
 z26:=Tryz.sizeOf3
 v26:=Tryz.zeroValue3
 t27:=Tryz.underlying203
 a27:=Tryz.isAgg203
 z27:=Tryz.sizeOf203
 v27:=Tryz.zeroValue203
 t28:=Tryz.underlying204
 a28:=Tryz.isAgg204
 z28:=Tryz.sizeOf204
 v28:=Tryz.zeroValue204
 t33:=Tryz.underlying75
 a33:=Tryz.isAgg75
 z33:=Tryz.sizeOf75
 v33:=Tryz.zeroValue75}
theorem ka:KeysOf Tryz.prog 118 161 221:=λmb W=>(pa (n:=5)).1<|mP Tryz.cJ Fence.wide 5 trivial rfl mb W
theorem N2:FT Tryz.prog 108 161 3 3:=by
 refine⟨λb nn D Bm w hBm hm hown hsz=> ?_,λBm w hBm hm=> ?_⟩
 ·have hseq:SeqGives Fence.wide 2 Tryz.prog 161 #[.pointer<|some ⟨Bm,0,none⟩] encZ (λss=>ss.Perm<|intKeys D) (Maps.size D) w:=mE (ρ:=Tryz.dz) {Tryz.cJ with} Fence.wide _ trivial rfl (by omega) Bm b nn D w hBm hm hown;have h:=rf Tryz.dS Fence.wide 5 trivial trivial trivial trivial rfl (by omega) (DR _) Tryz.call143 161 #[.pointer<|some ⟨Bm,0,none⟩] trivial Tryz.call161 _ _ (rm hsz (by unfold maxLen;omega)) (by omega) _ hseq;exact(pa (n:=5)).1 h
 ·have hseq:SeqGives Fence.wide 2 Tryz.prog 161 #[.pointer<|some ⟨Bm,0,none⟩] encZ (λss:UV Int=>ss=[]) 0 w:=nr (ρ:=Tryz.dz) {Tryz.cJ with} Fence.wide _ trivial rfl Bm w hBm hm;have h:=rf Tryz.dS Fence.wide 5 trivial trivial trivial trivial rfl (by omega) (DR _) Tryz.call143 161 #[.pointer<|some ⟨Bm,0,none⟩] trivial Tryz.call161 _ 0 (mK _) (by omega) _ hseq;refine((pa (n:=5)).1 h).mono ?_;rintro e w' ⟨v,ss,rfl,rfl,hrow,hnil,hb⟩;obtain rfl:v= .slice none 0 0:=hnil.2 rfl;exact⟨rfl,hb⟩
def Tryz.bA:Go.Shelf.Ren:=⟨fun | 7=>109 | 10=>144 | n=>n,fun | 23=>206 | 26=>3 | 3=>4 | 28=>204 | 0=>0 | 27=>203 | 33=>75 | 4=>4 | n=>n,fun | n=>n⟩
theorem Tryz.cK:Go.Proofs.SlLaysZI.n7 Tryz.prog Tryz.bA:={
 mixed:=by kernel_rfl
 f7:=⟨Tryz.f109.name,by decide,Tryz.func109.trans<|congrArg some<|by kernel_rfl⟩
 f10:=⟨Tryz.f144.name,by decide,Tryz.func144.trans<|congrArg some<|by kernel_rfl⟩
 t0:=Tryz.underlying0
 a0:=Tryz.isAgg0
 z0:=Tryz.sizeOf0
 v0:=Tryz.zeroValue0
 t4:=Tryz.underlying4
 a4:=Tryz.isAgg4
 z4:=Tryz.sizeOf4
 v4:=Tryz.zeroValue4
 t23:=Tryz.underlying206
 a23:=Tryz.isAgg206
 z23:=Tryz.sizeOf206
 v23:=Tryz.zeroValue206
 t26:=Tryz.underlying3
 a26:=Tryz.isAgg3
 z26:=Tryz.sizeOf3
 v26:=Tryz.zeroValue3
 t27:=Tryz.underlying203
 a27:=Tryz.isAgg203
 z27:=Tryz.sizeOf203
 v27:=Tryz.zeroValue203
 t28:=Tryz.underlying204
 a28:=Tryz.isAgg204
 z28:=Tryz.sizeOf204
 v28:=Tryz.zeroValue204
 t33:=Tryz.underlying75
 a33:=Tryz.isAgg75
 z33:=Tryz.sizeOf75
 v33:=Tryz.zeroValue75}
theorem LL:KeysOf Tryz.prog 109 144 206:=λmb W=>(pa (n:=5)).1<|mP Tryz.cK Fence.wide 5 trivial rfl mb W
theorem Sb:FT Tryz.prog 108 144 3 3:=by
 refine⟨λb nn D Bm w hBm hm hown hsz=> ?_,λBm w hBm hm=> ?_⟩
 ·have hseq:SeqGives Fence.wide 2 Tryz.prog 144 #[.pointer<|some ⟨Bm,0,none⟩] encZ (λss=>ss.Perm<|intKeys D) (Maps.size D) w:=mE (ρ:=Tryz.bA) {Tryz.cK with} Fence.wide _ trivial rfl (by omega) Bm b nn D w hBm hm hown;have h:=rf Tryz.dS Fence.wide 5 trivial trivial trivial trivial rfl (by omega) (DR _) Tryz.call143 144 #[.pointer<|some ⟨Bm,0,none⟩] trivial Tryz.call144 _ _ (rm hsz (by unfold maxLen;omega)) (by omega) _ hseq;exact(pa (n:=5)).1 h
 ·have hseq:SeqGives Fence.wide 2 Tryz.prog 144 #[.pointer<|some ⟨Bm,0,none⟩] encZ (λss:UV Int=>ss=[]) 0 w:=nr (ρ:=Tryz.bA) {Tryz.cK with} Fence.wide _ trivial rfl Bm w hBm hm;have h:=rf Tryz.dS Fence.wide 5 trivial trivial trivial trivial rfl (by omega) (DR _) Tryz.call143 144 #[.pointer<|some ⟨Bm,0,none⟩] trivial Tryz.call144 _ 0 (mK _) (by omega) _ hseq;refine((pa (n:=5)).1 h).mono ?_;rintro e w' ⟨v,ss,rfl,rfl,hrow,hnil,hb⟩;obtain rfl:v= .slice none 0 0:=hnil.2 rfl;exact⟨rfl,hb⟩
abbrev JL:=UV<|UV<|Int×QF
abbrev ZO:=UV<|UV<|Int×Bool
abbrev JR:=UV<|UV<|Int×(H1 Nat)
def Uj(F:Fz)(p:x4)(c:UV Do×UV Do)(M:((QA×Unit×(UV Int))->H1 (Out Qk<|(UV AC)×QA))):Prop:=∀U:Js,AX Tryz.prog JS F p c (fun(x:(QA×Unit×(UV Int))) F vs=>∃(p0:H1 Of) (k0:Nat),vs=[(vP U.g55 0),(vS p0 x.2.2 k0)]/\QG 1 (Ex<|KK .i64) F p0 k0 x.2.2) (λF (x:(QA×Unit×(UV Int)))=>[Qx U F x.1]) (fun(r:(UV AC)×QA) _ v=>v=(.string<|bs r.1)) (λF (x:(QA×Unit×(UV Int))) (r:(UV AC)×QA)=>[Jz U F r.2]) M
theorem Uj.mono{p:x4}{c:UV Do×UV Do}{M:((QA×Unit×(UV Int))->H1 (Out Qk<|(UV AC)×QA))}(h:Uj F p c M)(le:F<=F'):Uj F' p c M:=λU=>(h U).mono le
abbrev FV(U:Js)(F:Fz)(p:x4)(c:UV Do×UV Do)(M:(((UV QD)×(UV<|UV<|Int×QF)×(UV<|UV<|Int×Bool)×QM)->H1 (Out Zm<|(UV QD)×(UV<|UV<|Int×QF)×(UV<|UV<|Int×Bool)))):Prop:=AX Tryz.prog XR F p c (fun(x:((UV QD)×(UV<|UV<|Int×QF)×(UV<|UV<|Int×Bool)×QM)) _ vs=>vs=[(JF x.2.2.2)]) (λF (x:((UV QD)×(UV<|UV<|Int×QF)×(UV<|UV<|Int×Bool)×QM))=>[ZS U F x.1,KL U F x.2.1,Qd U F x.2.2.1]) (fun(r:(UV QD)×(UV<|UV<|Int×QF)×(UV<|UV<|Int×Bool)) _ v=>v= .tuple #[]) (λF (x:((UV QD)×(UV<|UV<|Int×QF)×(UV<|UV<|Int×Bool)×QM)) (r:(UV QD)×(UV<|UV<|Int×QF)×(UV<|UV<|Int×Bool))=>[ZS U F r.1,KL U F r.2.1,Qd U F r.2.2]) M
abbrev Cz(U:Js)(F:Fz)(p:x4)(c:UV Do×UV Do)(M:(((UV QN)×(UV Qi)×(UV<|UV<|Int×Bool)×(UV<|UV<|Int×(H1 Nat))×(H1 Nat)×QE)->H1 (Out Zh<|(UV QN)×(UV<|UV<|Int×Bool)×(UV<|UV<|Int×(H1 Nat))))):Prop:=AX Tryz.prog WD F p c (fun(x:((UV QN)×(UV Qi)×(UV<|UV<|Int×Bool)×(UV<|UV<|Int×(H1 Nat))×(H1 Nat)×QE)) F vs=>∃(p0:H1 Of) (k0:Unit),vs=[(.pointer p0),(JG x.2.2.2.2.2)]/\ZJ U.g201 F p0 x.2.2.2.2.1) (λF (x:((UV QN)×(UV Qi)×(UV<|UV<|Int×Bool)×(UV<|UV<|Int×(H1 Nat))×(H1 Nat)×QE))=>[Qs U F x.1,Q5 U F x.2.1,Qd U F x.2.2.1,Q7 U F x.2.2.2.1]) (fun(r:(UV QN)×(UV<|UV<|Int×Bool)×(UV<|UV<|Int×(H1 Nat))) _ v=>v= .tuple #[]) (λF (x:((UV QN)×(UV Qi)×(UV<|UV<|Int×Bool)×(UV<|UV<|Int×(H1 Nat))×(H1 Nat)×QE)) (r:(UV QN)×(UV<|UV<|Int×Bool)×(UV<|UV<|Int×(H1 Nat)))=>[Qs U F r.1,Q5 U F x.2.1,Qd U F r.2.1,Q7 U F r.2.2]) M
end
section
open Go.Dec Go.Proofs.Tryz Go.Shelf Go.RowKit Go.Maps Go.Sort
set_option maxRecDepth 100000
set_option maxHeartbeats 4000000
variable{σ ε:Type}
def Ku(y:(UV Int)->σ->H1 (Out ε<|σ×Bool))(c1:(UV Int))(c7:Int)(s10:Int×σ):H1 (UI (Int×σ)<|(Out ε σ) ⊕ (Out ε σ)):=if(decide<|s10.1 < (c1.length:Int)) then((ZX c1 s10.1 c1.length).bind λl14=>QT (Je c7 (l14.length:Int)) λend_19=>(ZX c1 s10.1<|ZC<|s10.1+end_19).bind λl21=>Qu (y l21 s10.2) (λq=>some<|.done<|.inr<|.pan q) λp26=>if(!p26.2) then(some<|.done<|.inr<|.ok p26.1) else(QT (ZC<|s10.1+c7) λi31=>some<|.next (i31,p26.1))) else(some<|.done<|.inl<|.ok s10.2)
def Ua(y:(UV Int)->σ->H1 (Out ε<|σ×Bool))(c1:(UV Int))(c7:Int)(s0:σ):H1 (Out ε σ):=(ZW (Ku y c1 c7) (0,s0)).bind λb0=>match b0 with | .inl b33=>(some b33) | .inr b33=>(some b33)
theorem B5(F0:Fz)(ε σ:Type)(penc:ε->Do)(ly:Nat)(Y:σ->Fz->HP)(Z:ε->Fz->HP)(y:(UV Int)->σ->H1 (Out ε<|σ×Bool))(hy:TN prog penc ly F0 (fun(x:(UV Int)) F vs=>∃(p0:H1 Of) (k0:Nat),vs=[(vS p0 x k0)]/\QG 1 (Ex<|KK .i64) F p0 k0 x) Y Z y)(c1:(UV Int))(b2:Nat)(p4:H1 Of)(k5:Nat)(hb3:F0.mem b2=some (.cells #[(vS p4 c1 k5)] 34))(h6:QG 1 (Ex<|KK .i64) F0 p4 k5 c1)(c7:Int)(b8:Nat)(hb9:F0.mem b8=some (.cells #[(vI c7)] 3))(s0:σ):xx prog penc 91 #[(.func (.yield ly) #[] #[]),(vP b2 0),(vP b8 0)] F0 (Y s0 F0) (Ua y c1 c7 s0) Y Z:=by
 refine xx.enter func91 J ntmps91 J λr R=> ?_;unfold Ua;refine .w 6 (.fM (.p [0,1,2,4] J)<|.loop (fun(s10:Int×σ) a w=>∃(F11:Fz),F0<=F11/\Hd 31 [] [(0,(.func (.yield ly) #[] #[])),(1,(vP b2 0)),(2,(vP b8 0)),(4,(vI s10.1))] F11 [Y s10.2 F11,R] a w) (λb0 e a w=>match b0 with | .inl (.ok b33)=>e= .exit 0/\∃(F34:Fz),F0<=F34/\Hd 31 [] [] F34 [Y b33 F34,R] a w | .inl (.pan q)=>False | .inr (.ok b33)=>e= .ret/\∃(F36:Fz),F0<=F36/\Hd 31 [] [] F36 [Y b33 F36,R] a w | .inr (.pan q)=>e= .panic (S5 penc q)/\∃(F36:Fz),F0<=F36/\Hd 31 [] [] F36 [Z q F36,R] a w) ?_ ?_ ?_)
 ·exact λa w h=>⟨F0,Fz.r,h.1.sub<|.k J,h.2⟩
 ·intro s10 ctl;refine GC.ex λa w ⟨F11,l12,hA⟩=>⟨_,hA,?_⟩;unfold Ku;refine .w 4<|.fJ J ga J (l12.mem _ _ hb3) J<|.fq J J UT J<|.w 3<|.i J (λhb13=> ?_) λhb13=> ?_
  ·refine .w 5<|.fM (.p [0,1,2,4] J)<|.fc 7 Qc (by kernel_rfl)<|.fJ J V3 J (l12.mem _ _ hb9) J<|.fJ J ga J (l12.mem _ _ hb3) J<|.m J J<|.dn J UT W3 (h6.mono l12) J J λl14 p15 k16 e17 h18=>.fq J J UT J<|.min2 J J J<|.fe J J λend_19 e20=>.fp<|.w 5<|.fJ J ga J (l12.mem _ _ hb3) J<|.w 7<|.cp J UT W3 (h6.mono l12) J J J J λl21 p22 k23 e24 h25=>.tL J hy J J ⟨p22,k23,J,h25⟩ (i:=0) J l12 Fz.r (λp26 F27 _ l28=>.w 3<|.i J (λhb30=> ?_) λhb30=> ?_) λq F27 l28 hq a w hA=>Q3.pan (λa w h=>⟨J,F27,(Fz.t l12 l28),h.1.sub<|.k J,h.2⟩) hq a w hA
   ·refine .fy<|Q3.ret λa w h=>⟨J,F27,(Fz.t l12 l28),h.1.sub<|.k J,h.2⟩
   ·refine .w 5<|.fJ J V3 J ((Fz.t l12 l28).mem _ _ hb9) J<|.add J J J<|.fe J J λi31 e32=>.n ?_;exact .n<|Q3.norm λa w h=>⟨F27,(Fz.t l12 l28),h.1.sub<|.k J,h.2⟩
  ·refine .fY J<|Q3.exit λa w h=>⟨J,F11,l12,h.1.sub<|.k J,h.2⟩
 ·intro z hb0 hk e a w hD;rcases z with(z | q) | (z | q)
  ·obtain⟨rfl,F1,l1,hA⟩:=hD;exact ZA J<|GE.app (GE.nil<|Mr results91 .n l1) hk a w hA
  ·exact hD.elim
  ·obtain⟨rfl,F1,l1,hA⟩:=hD;exact Jd<|Mr results91 .n l1 hk a w hA
  ·obtain⟨rfl,F1,l1,hA⟩:=hD;exact K5<|kO l1 hk a w hA
def Cb{α:Type}(n:Nat)(l:UV α):Nat->Nat->UV (UV α)
 | 0,_=>[]
 | d+1,a=>if a < l.length then(l.drop a).take n::Cb n l d (a+n) else[]
def Uw(c1:(UV Int))(c7:Int):H1 (UV<|UV Int):=if 0 < c7/\c7<=1000000/\c1.length<=1000000000000 then some (Cb c7.toNat c1 c1.length 0) else none
theorem Nc{y:(UV Int)->σ->H1 (Out ε<|σ×Bool)}{l:UV Int}{n:Nat}(hn:0 < n)(hn2:n<=1000000)(hl:l.length<=1000000000000):∀(d a:Nat) (s:σ) (r:Out ε σ),l.length<=a+d->a<=l.length+n->GI y (Cb n l d a) s=some r->
  ZW (Ku y l (n:Int)) ((a:Int),s)=some (.inl r)∨ZW (Ku y l (n:Int)) ((a:Int),s)=some (.inr r)
 | 0,a,s,r,hk,_,h=>by
  simp only[Cb,GI,BY] at h
  subst h;left;rw[ZQ];have:¬a < l.length:=by omega
  simp[Ku,this]
 | d+1,a,s,r,hk,ha,h=>by
  by_cases hlt:a < l.length
  ·simp only[Cb,T2 hlt,GI] at h
   have hs0:ZX l (a:Int) (l.length:Int)=some (l.drop a):=by
    unfold ZX;rw[T2<|by omega];simp only[rV];rw[s4<|by simp]
   have hw:ZC ((a:Int)+n)=((a+n:Nat):Int):=by rw[Qq (by omega)<|by omega];omega
   have he:Je (n:Int) ((l.drop a).length:Int)=((min n (l.length - a):Nat):Int):=by
    unfold Je;simp only[rp];split<;>omega
   have hs:ZX l (a:Int) (ZC<|(a:Int)+((min n (l.length - a):Nat):Int))=some ((l.drop a).take n):=by
    rw[Qq (by omega)<|by omega];unfold ZX;rw[T2<|by omega];congr 1;have e1:((a:Int)+((min n (l.length - a):Nat):Int)).toNat - (a:Int).toNat=min n (l.length - a):=by omega
    rw[e1,rV,<-rp,<-List.take_eq_take_min]
   rw[ZQ]
   have hb:Ku y l (n:Int) ((a:Int),s)=Qu (y ((l.drop a).take n) s) (λq=>some<|.done<|.inr<|.pan q) λp26=>if(!p26.2) then(some<|.done<|.inr<|.ok p26.1) else some (.next (((a+n:Nat):Int),p26.1)):=by
    show(if decide ((a:Int) < (l.length:Int)) then _ else _)=_;rw[T2<|by simpa using hlt];rw[hs0];show(ZX l (a:Int)<|ZC<|(a:Int)+Je (n:Int) ((l.drop a).length:Int)).bind _=_;rw[he,hs,<-hw];rfl
   rw[hb];cases hy:y ((l.drop a).take n) s with
   | none=>rw[hy] at h;cases h
   | some p=>
    rw[hy] at h
    cases p with
    | pan q=>
     simp only[Qu,BY] at h ⊢
     right;rw[h]
    | ok p=>
     simp only[Qu] at h ⊢
     by_cases hp:p.2=true
     ·rw[T2 hp] at h
      have:=Nc hn hn2 hl d (a+n) p.1 r (by omega) (by omega) h;simpa[hp] using this
     ·rw[RW hp] at h
      simp only[BY] at h
      right;simp[hp,h]
  ·simp only[Cb,RW hlt,GI,BY] at h
   subst h;left;rw[ZQ];simp[Ku,hlt]
theorem D8{y:(UV Int)->σ->H1 (Out ε<|σ×Bool)}{c1:(UV Int)}{c7:Int}{l:UV (UV Int)}{s:σ}{r:Out ε σ}(hl:Uw c1 c7=some l)(hr:GI y l s=some r):Ua y c1 c7 s=some r:=by
 unfold Uw at hl
 unfold Ua;split at hl
 ·rename_i h;simp only[BY] at hl
  subst hl;have e:((c7.toNat:Nat):Int)=c7:=by omega
  have:=Nc (n:=c7.toNat) (by omega) (by omega) h.2.2 c1.length 0 s r (by omega) (by omega) hr;rw[e] at this
  rcases this with e | e
  ·exact ZM e rfl
  ·exact ZM e rfl
 ·cases hl
def Z2(y:ON->σ->H1 (σ×Bool))(A2:JR)(x14:Qi)(ks23:(UV Int))(s30:Int×σ):H1 (UI (Int×σ)<|(σ) ⊕ (σ)):=if(decide<|s30.1 < (ks23.length:Int)) then((Za ks23 s30.1).bind λx34=>(x14.casks).bind λi47=>(A2[i47]?).bind λx52=>(y ((Qa x52 x34).getD none) s30.2).bind λp57=>if(!p57.2) then(some<|.done<|.inr p57.1) else(some<|.next ((ZC<|s30.1+1),p57.1))) else(some<|.done<|.inl s30.2)
def UZ(y:ON->σ->H1 (σ×Bool))(A1:UV Qi)(A2:JR)(c3:ON)(s0:σ):H1 σ:=c3.bind λi9=>(A1[i9]?).bind λx14=>(Vo A2 x14.casks).bind λks23=>(ZW (Z2 y A2 x14 ks23) (0,s0)).bind λb0=>match b0 with | .inl b62=>(some b62) | .inr b62=>(some b62)
theorem B0(F0:Fz)(U:Js)(σ:Type)(ly:Nat)(Y:σ->Fz->HP)(y:ON->σ->H1 (σ×Bool))(hy:Uc prog ly F0 (fun(x:ON) F vs=>∃(P:H1 Of) (k0:Unit),vs=[(.pointer P)]/\ZJ U.g210 F P x) Y y)(A1:UV Qi)(l:JR)(Q:ON)(C:Nat)(S:H1 Of)(k7:Unit)(T:F0.mem C=some (.cells #[(.pointer S)] 195))(h8:ZJ U.g201 F0 S Q)(D:σ):Xc prog 153 #[(.func (.yield ly) #[] #[]),(vP C 0)] F0 [Q5 U F0 A1,Q7 U F0 l,Y D F0] (UZ y A1 l Q D) (λ_ _ _=>True) (λs' F' =>[Q5 U F' A1,Q7 U F' l,Y s' F']):=by
 refine Xc.enter func153 J ntmps153 J λr R=> ?_;refine .o (Sub.refl _) (J:_=[Q5 U F0 A1,Q7 U F0 l,Y D F0,R]) ?_;unfold UZ;refine .w 2<|.fJ J MU J T J<|.d λi9 aE=> ?_;obtain⟨ae,V,W⟩:=h8.at aE;refine .U W J J (.f J PB J Ew J<|.d λX Z=>.fR (Φ:=λv=>∃(E:H1 Nat) (aF:Unit),v=(.map E)/\Zq U.g199 F0 E X.casks) 0 J Fz.r V Z J Ez J (λvs ⟨G,H,h,I⟩=>⟨_,by subst h;exact J,G,H,J,I⟩) λv hv=> ?_);obtain⟨E,aF,rfl,aG⟩:=hv;refine .sK kZ J call154 J J (λaf ag b aH=>.bj U3 N1 (c:=(Ex<|KK .i64)) (λ_ _=>J) (aH) 1 J (aG.mono b) J call108 J J λaA u aI aJ ah g aK=>.fq J J UT J<|.w 4<|.fM (.p [0,1,10,11,12] J)<|.tN 2 hy J Fz.r (Fz.t b g)<|.loop (fun(K:Int×σ) a w=>∃(s:Fz),u<=s/\Hd 26 [] [(0,(.func (.yield ly) #[] #[])),(1,(vP C 0)),(10,(vS aI aA aJ)),(11,(vI (aA.length:Int))),(12,(vI K.1))] s [Q5 U F0 A1,Q7 U F0 l,Y K.2 s,R] a w) (λb0 e a w=>match b0 with | .inl q=>e= .exit 0/\∃(A:Fz),u<=A/\Hd 26 [] [] A [Q5 U F0 A1,Q7 U F0 l,Y q A,R] a w | .inr q=>e= .ret/\∃(B:Fz),u<=B/\Hd 26 [] [] B [Q5 U F0 A1,Q7 U F0 l,Y q B,R] a w) ?_ ?_ ?_)
 ·exact λa w h=>⟨u,Fz.r,h.1.sub<|.k J,h.2⟩
 ·intro K ctl;refine GC.ex λa w ⟨s,j,hA⟩=>⟨_,hA,?_⟩;unfold Z2;refine .w 6<|.i J (λaM=> ?_) λaM=> ?_
  ·refine .w 6 (.idx J UT W3 (aK.mono j) J J λaN ai aj ak al an ao aO aP=>.fJ J V3 J aO (QO (k:=0) aP J)<|.w 6<|.fJ J MU J ((Fz.t b<|Fz.t g j).mem _ _ T) J<|.U W J J<|.f J PB J Ew J<|.fR (Φ:=λv=>∃(L:H1 Nat) (aQ:Unit),v=(.map L)/\Zq U.g199 s L X.casks) 0 J (Fz.t b<|Fz.t g j) (V.mono<|Fz.t b<|Fz.t g j) Z J Ez J (λvs ⟨G,H,h,I⟩=>⟨_,by subst h;exact J,G,H,J,I⟩) λv hv=> ?_);obtain⟨L,aQ,rfl,aR⟩:=hv;refine .m J J<|.d λi47 aS=> ?_;obtain⟨aq,aU,aV⟩:=aR.at aS;refine .d λar aW=>.dc (key:=aN) (z:=none) 1 J (Fz.t b<|Fz.t g j) aU aV aW J Ie (.int U3) vB ⟨none,(),J,ZJ.nil⟩ J J ?_;intro v hv;obtain⟨aX,aY,rfl,aZ⟩:=hv;refine .cn J hy J J ⟨aX,aY,J,aZ⟩ (i:=2) J (Fz.t b<|Fz.t g j) Fz.r λau aB av aC=>.w 3<|.i J (λaa=> ?_) λaa=> ?_
   ·refine .fy<|Q3.ret λa w h=>⟨J,aB,(Fz.t j aC),h.1.sub<|.k J,h.2⟩
   ·refine .w 7 ?_;exact .n<|Q3.norm λa w h=>⟨aB,(Fz.t j aC),h.1.sub<|.k J,h.2⟩
  ·refine .fY J<|Q3.exit λa w h=>⟨J,s,j,h.1.sub<|.k J,h.2⟩
 ·intro q aw hk e a w hD;rcases q with q | q
  ·obtain⟨rfl,A,M,hA⟩:=hD;refine ZA J<|GE.app ?_ hk a w hA;refine .fZ 0 (KT U) (Fz.t b<|Fz.t g M) J<|.fZ 1 (Kj U) (Fz.t b<|Fz.t g M) J ?_;exact .br [0,0,0,0] results153 .nil J (Fz.t b<|Fz.t g M) trivial
  obtain⟨rfl,B,N,hA⟩:=hD;exact Jd<|(λe a w h=>Gp [0,0,0,0] results153 .nil J (Fz.t b<|Fz.t g N) trivial e a w<|Hd.fZ 1 (Kj U) (Fz.t b<|Fz.t g N) J<|Hd.fZ 0 (KT U) (Fz.t b<|Fz.t g N) J h) hk a w hA
def VN(A1:UV Qi)(A2:UV (UV<|Int×H1 Nat))(c:H1 Nat):H1 (UV<|H1 Nat):=c.bind λi=>(A1[i]?).bind λb=>(b.casks).bind λj=>(A2[j]?).bind λl=>(GO l).bind λks=>some<|ks.map λk=>(Qa l k).getD none
theorem PU{y:H1 Nat->σ->H1 (σ×Bool)}{A2:UV (UV<|Int×H1 Nat)}{x:Qi}{j:Nat}{l:UV (Int×H1 Nat)}{ks:UV Int}(hj:x.casks=some j)(hl:A2[j]? =some l)(hn:ks.length<=1000000):∀(d k:Nat) (s r:σ),k+d=ks.length->Us y ((ks.drop k).map λk=>(Qa l k).getD none) s=some r->
  ZW (Z2 y A2 x ks) ((k:Int),s)=some (.inl r)∨ZW (Z2 y A2 x ks) ((k:Int),s)=some (.inr r)
 | 0,k,s,r,hk,h=>by
  rw[pQ<|by omega] at h
  simp only[lI,Us,BY] at h
  subst h;left;rw[ZQ];have:¬k < ks.length:=by omega
  simp[Z2,this]
 | d+1,k,s,r,hk,h=>by
  have hkl:k < ks.length:=by omega
  have hw:ZC ((k:Int)+1)=((k+1:Nat):Int):=by rw[Qq (by omega)<|by omega];rfl
  rw[pR hkl] at h
  have hi:Za ks (k:Int)=some ks[k]:=by simp[Za,hkl]
  simp only[s6,Us] at h
  rw[ZQ];cases hy:y ((Qa l ks[k]).getD none) s with
  | none=>rw[hy] at h;cases h
  | some p=>
   rw[hy] at h
   simp only[DO] at h
   by_cases hp:p.2=true
   ·rw[T2 hp] at h
    have:=PU hj hl hn d (k+1) p.1 r (by omega) h;simpa[Z2,hkl,hi,hj,hl,hy,hp,hw] using this
   ·rw[RW hp] at h
    simp only[BY] at h
    right;simp[Z2,hkl,hi,hj,hl,hy,hp,h]
theorem D7{y:H1 Nat->σ->H1 (σ×Bool)}{A1:UV Qi}{A2:UV (UV<|Int×H1 Nat)}{c:H1 Nat}{l:UV (H1 Nat)}{s r:σ}(hl:VN A1 A2 c=some l)(hr:Us y l s=some r):UZ y A1 A2 c s=some r:=by
 simp only[VN,nF] at hl
 obtain⟨i,hi,b,hb,j,hj,m,hm,ks,hks,hl⟩:=hl;simp only[BY] at hl
 subst hl
 have hn:ks.length<=1000000:=by
  unfold GO at hks
  split at hks
  ·rename_i h;simp only[BY] at hks
   rw[<-hks];simpa using h.2
  ·cases hks
 have hs:Vo A2 b.casks=some ks:=by simp[Vo,hj,hm,hks]
 unfold UZ;rw[hi,DO,hb,DO,hs,DO];rcases PU (y:=y) hj hm hn ks.length 0 s r (by omega) (by simpa using hr) with e | e
 ·have e' :ZW (Z2 y A2 b ks) (0,s)=some (.inl r):=e;rw[e'];rfl
 ·have e' :ZW (Z2 y A2 b ks) (0,s)=some (.inr r):=e;rw[e'];rfl
def YT(A1:UV QD)(a:ON)(b:QF):H1 (Int):=a.bind λi11=>(A1[i11]?).bind λc=>some<|ZC<|(ZC<|b.Sent+c.rules.Transit)+1
theorem H0(F0:Fz)(U:Js)(A1:UV QD)(c:ON)(e:H1 Of)(s:Unit)(g:ZJ U.g223 F0 e c)(b:QF):Xc prog 214 #[(.pointer e),(J0 b)] F0 [ZS U F0 A1] (YT A1 c b) (λr _ v=>v=(vI r)) (λr F' =>[ZS U F' A1]):=by
 refine Xc.enter func214 J ntmps214 J λr R=> ?_;refine .o (Sub.refl _) (J:_=[ZS U F0 A1,R]) ?_;unfold YT;refine .w 2 (.fg (cs:=(ZI b)) J J J λt u a i=>.w 4<|.fM (.p [0,3] J)<|.fc 10 Qc (by kernel_rfl)<|.f J qm J W3 J<|.fJ J V3 J i J<|.m J J<|.d λi11 j=> ?_);obtain⟨x,k,l⟩:=(g.mono a).at j;refine .U l J J (.f J VC J Cv J<|.f J SY J W3 J<|.d λn q=>.fR (Φ:=λv=>v=(vI n.rules.Transit)) 0 J a k q J V3 J (λvs ⟨y,z,A,B,C,D,E,F,h,G,H,I,K⟩=>⟨_,by subst h;exact J,J⟩) λv hv=> ?_);subst hv;refine .w 3<|.fp<|.w 2<|.fZ 0 (J8 U) a J ?_;exact .du [0,0] results214 (.tmp J<|.nil) J a J
def Z8(A1:UV QD)(A3:ZO)(c:ON)(d:Int)(e:(Int×QF))(a:ZO):H1 (ZO):=((YT A1 c e.2).bind λb=>(if(decide<|b<=d) then((a[A3.length]?).bind λf=>QT (List.set a A3.length<|Qw f b true) λg=>some g) else(some a):H1 (ZO)).bind λh=>some h:H1 (ZO)).bind λi=>some i
def Zo(y:Int->σ->H1 (σ×Bool))(ks86:(UV Int))(s93:Int×σ):H1 (UI (Int×σ)<|(σ) ⊕ (σ)):=if(decide<|s93.1 < (ks86.length:Int)) then((Za ks86 s93.1).bind λx97=>(y x97 s93.2).bind λp107=>if(!p107.2) then(some<|.done<|.inr p107.1) else(some<|.next ((ZC<|s93.1+1),p107.1))) else(some<|.done<|.inl s93.2)
def Vp(y:Int->σ->H1 (σ×Bool))(upd:UV QD×JL×ZO->σ)(A1:UV QD)(A2:JL)(A3:ZO)(c4:ON)(c10:Int):H1 σ:=QT (A3++[[]]) λA15=>c4.bind λi20=>(A1[i20]?).bind λx25=>(x25.moving).bind λi30=>(A2[i30]?).bind λx35=>(Bf TR (Z8 A1 A3 c4 c10) x35 A15).bind λR77=>(Vo R77<|some A3.length).bind λks86=>(ZW (Zo y ks86) (0,(upd (A1,A2,R77)))).bind λb0=>match b0 with | .inl b112=>(some b112) | .inr b112=>(some b112)
theorem Dq(F0:Fz)(U:Js)(σ:Type)(ly:Nat)(Y:σ->Fz->HP)(Z:HP)(upd:UV QD×JL×ZO->σ)(y:Int->σ->H1 (σ×Bool))(hy:Uc prog ly F0 (fun(x:Int) _ vs=>vs=[(vI x)]) Y y)(hp:∀(r:UV QD×JL×ZO) F',F0<=F'->∀m,Qh ([ZS U F' r.1,KL U F' r.2.1,Qd U F' r.2.2]++[Z]) m->Y (upd r) F' m)(A1:UV QD)(j:JL)(A3:ZO)(T:ON)(K:Nat)(p7:H1 Of)(k8:Unit)(aK:F0.mem K=some (.cells #[(.pointer p7)] 218))(h9:ZJ U.g223 F0 p7 T)(aC:Int)(L:Nat)(aa:F0.mem L=some (.cells #[(vI aC)] 3)):Xc prog 237 #[(.func (.yield ly) #[] #[]),(vP K 0),(vP L 0)] F0 [ZS U F0 A1,KL U F0 j,Qd U F0 A3,Z] (Vp y upd A1 j A3 T aC) (λ_ _ _=>True) (λs' F' =>[Y s' F']):=by
 refine Xc.enter func237 J ntmps237 J λr R=> ?_;refine .o (Sub.refl _) (J:_=[ZS U F0 A1,KL U F0 j,Qd U F0 A3,Z,R]) ?_;unfold Vp;refine .w 2<|.dI (λx:Int=>(vI x)) (λ_ (x:Bool) v=>v=(.bool x)) J λaD=>.fS λbO ab=>.dX 0 2 J J (Zk U) Fz.r (λG m l hm=>K3 (Fz.t Fz.r l) hm) ab λaE g aM=>.w 6<|.fJ J DK J (g.mem _ _ aK) J<|.d λi20 ad=> ?_;obtain⟨bP,ae,af⟩:=(h9.mono g).at ad;refine .U af J J (.f J VC J IX J<|.d λag ah=>.fR (Φ:=λv=>∃(aF:H1 Nat) (ai:Unit),v=(.map aF)/\Zq U.g221 aE aF ag.moving) 0 J g ae ah J Ia J (λvs ⟨q0,q1,q2,q3,q4,q5,q6,q7,h,r0,r1,r2,r3⟩=>⟨_,by subst h;exact J,q4,q5,J,r2⟩) λv hv=> ?_);obtain⟨aF,ai,rfl,an⟩:=hv;refine .d λi30 ao=> ?_;obtain⟨u,aq,ar⟩:=an.at ao;refine .d λba aN=>.cr 1 J aq ar aN J qn J λA au=>.w 3<|.fM (.p [0,1,2,4,15] J)<|.fZ 1 (J8 U) g J<|.cW (B:=0) (b:=(Z8 A1 A3 T aC)) TR (λaG C (aH:ZO) a w=>∃(V:Fz),aE<=V/\Hd 41 [] [(0,(.func (.yield ly) #[] #[])),(1,(vP K 0)),(2,(vP L 0)),(4,(.map<|some aD)),(15,(vP A 0))] V [UX (λx:Int=>(vI x)) (λ_ (x:QF) v=>v=(J0 x)) F0 u A aG C,ZS U V A1,hole U.g221 (PF U) F0 i30 u j,Qd U V aH,Z,R] a w) J ?_ ?_ ?_ ?_
 ·exact λa w h=>⟨aE,Fz.r,h.1.sub<|.k J,h.2⟩
 ·exact λC bb bc a w hE ⟨av,aw,hA⟩=>⟨av,aw,Hd.pJ 3 J hE hA⟩
 ·intro aG C aH ax;rcases aG with _ | ⟨y,ys⟩
  ·refine GC.ex λa w ⟨ay,az,hA⟩=>⟨_,hA,?_⟩;refine .w 2<|.cv 0 J J J J<|.w 4<|.dJ J ?_;exact .fY J<|GY.over λa w h=>⟨ay,az,h.1.sub<|.k J,h.2⟩
  ·refine GC.ex λa w ⟨aO,H,hA⟩=>⟨_,hA,?_⟩;refine .w 2<|.cu 0 J (mO _ _) J J J λq aI bd aP be=> ?_;obtain⟨bf,aQ⟩:=ax q<|aP.mem_iff.1<|ph ..;refine .use aQ ?_;unfold Z8;refine .w 4<|.de J<|.w 2<|.fM (.p [0,1,2,4,15] J) ?_;refine GC.dH (σ:=ZO) (λaR a w=>∃(I:Fz),aO<=I/\Hd 41 [] [(0,(.func (.yield ly) #[] #[])),(1,(vP K 0)),(2,(vP L 0)),(4,(.map<|some aD)),(15,(vP A 0))] I [UX (λx:Int=>(vI x)) (λ_ (x:QF) v=>v=(J0 x)) F0 u A aI<|q::C,ZS U I A1,hole U.g221 (PF U) F0 i30 u j,Qd U I aR,Z,R] a w) (λsj=> ?_) λaR a1=>GE.ex λa w ⟨I,a6,hA⟩=>⟨_,hA,?_⟩
   ·refine .w 3<|.cz 0 J J J J λv hv=> ?_;obtain rfl:=hv _<|Fz.t g H;refine .x J J J (.l (cs:=(ZI<|QF.mk 0 0 0 0 0)) J qg J λaS=>.store (cs' :=(ZI q.2)) jR J J J J (i:=0) J (Jc J) J (Qb<|by rfl)<|.w 4<|.fJ J DK J ((Fz.t g H).mem _ _ aK) J<|.fa J xm jR J (i:=0) J (vs:=(ZI q.2)) (by kernel_rfl) J<|.fh [2] J call214 J J J J (H0 _ U A1 T p7 k8 (h9.mono<|Fz.t g H) q.2) ?_);rintro a7 M _ bg N rfl;refine .pick [1,1,0,0,0,0,0] (J:_=[pc aS (ZI q.2) 226,UX (λx:Int=>(vI x)) (λ_ (x:QF) v=>v=(J0 x)) F0 u A aI<|q::C,ZS U M A1,hole U.g221 (PF U) F0 i30 u j,Qd U aO aH,Z,R])<|.w 6<|.fJ J V3 J ((Fz.t g<|Fz.t H N).mem _ _ aa) J<|.w 3<|.fM (.p [0,1,2,4,7,15,25] J) ?_;refine GC.dH (σ:=ZO) (λaU a w=>∃(P:Fz),M<=P/\Hd 41 [] [(0,(.func (.yield ly) #[] #[])),(1,(vP K 0)),(2,(vP L 0)),(4,(.map<|some aD)),(15,(vP A 0))] P [pc aS (ZI q.2) 226,UX (λx:Int=>(vI x)) (λ_ (x:QF) v=>v=(J0 x)) F0 u A aI<|q::C,ZS U M A1,hole U.g221 (PF U) F0 i30 u j,Qd U P aU,Z,R] a w) (λsj=> ?_) λaU a1=>GE.ex λa w ⟨P,aV,hA⟩=>⟨_,hA,?_⟩
    ·refine .i J (λa8=> ?_) λa8=> ?_
     ·refine .w 3<|.d λbh bA=>.fS λbj bB=>.dp (key:=a7) (val:=true) 4 J N (aM.mono<|Fz.t H N) J bA Ic (.int U3) J J J (λ_ _=>J) bB<|.n ?_;exact .n λe a w h=>by cases e;exact⟨J,⟨M,Fz.r,h.1.sub<|.k J,h.2⟩⟩
     ·refine .skip<|.fZ 4 (Zk U) N J ?_;exact .n λe a w h=>by cases e;exact⟨J,⟨M,Fz.r,h.1.sub<|.k J,h.2⟩⟩
    refine .k<|.drop 0<|.fZ 1 (J8 U) aV J ?_;exact .n λe a w h=>by cases e;exact⟨J,⟨P,(Fz.t N aV),h.1.sub<|.k J,h.2⟩⟩
   exact .n<|GY.norm aP aQ λa w h=>⟨I,(Fz.t H a6),h.1.sub<|.k J,h.2⟩
 ·intro C W bk bC;refine GE.ex λa w ⟨bl,D,hA⟩=>⟨_,hA,?_⟩;refine .bC 0 1 J J (Fz.t g D) (Fz.t g D) bC au (CC aN) (.w 4<|.sK LL J call109 J J λbm bn z bD=>.bj U3 Sb (c:=(Ex<|KK .i64)) (λ_ _=>J) (bD) 2 J ((Zq.of aM).mono<|Fz.t D z) J call108 J J λaW s bE bF bo E bG=>.fq J J UT J<|.w 3<|.fZ 0 (J8 U) (Fz.t z E) J<|.fZ 1 (VG U) (Fz.t z E) J<|.fZ 2 (Zk U) (Fz.t z E) J<|.tc (Hs:=[ZS U s A1,KL U s j,Qd U s W,Z]) (Y:=Y (upd (A1,j,W)) s) [0,0,0,0] J (hp (A1,j,W) _<|Fz.t g<|Fz.t D<|Fz.t z E)<|.o (Sub.refl _) (J:_=[Y (upd (A1,j,W)) s,R])<|.k<|.fM (.p [0,30,31,32] J)<|.loop (fun(aJ:Int×σ) a w=>∃(Q:Fz),s<=Q/\Hd 41 [] [(0,(.func (.yield ly) #[] #[])),(30,(vS bE aW bF)),(31,(vI (aW.length:Int))),(32,(vI aJ.1))] Q [Y aJ.2 Q,R] a w) (λb0 e a w=>match b0 with | .inl F=>e= .exit 2/\∃(X:Fz),s<=X/\Hd 41 [] [] X [Y F X,R] a w | .inr F=>e= .ret/\∃(aA:Fz),s<=aA/\Hd 41 [] [] aA [Y F aA,R] a w) ?_ ?_ ?_)
  ·exact λa w h=>⟨s,Fz.r,h.1.sub<|.k J,h.2⟩
  ·intro aJ ctl;refine GC.ex λa w ⟨Q,S,hA⟩=>⟨_,hA,?_⟩;unfold Zo;refine .w 6<|.i J (λbI=> ?_) λbI=> ?_
   ·refine .w 6<|.idx J UT W3 (bG.mono S) J J λbp bq br bt bu bw bx bJ bK=>.fJ J V3 J bJ (QO (k:=0) bK J)<|.w 7<|.cn J hy J J J (i:=0) J (Fz.t g<|Fz.t D<|Fz.t z<|Fz.t E S) Fz.r λbz aX b1 aY=>.w 3<|.i J (λbL=> ?_) λbL=> ?_
    ·refine .fy<|Q3.ret λa w h=>⟨J,aX,(Fz.t S aY),h.1.sub<|.k J,h.2⟩
    ·refine .w 7 ?_;exact .n<|Q3.norm λa w h=>⟨aX,(Fz.t S aY),h.1.sub<|.k J,h.2⟩
   ·refine .fY J<|Q3.exit λa w h=>⟨J,Q,S,h.1.sub<|.k J,h.2⟩
  ·intro F b2 hk e a w hD;rcases F with F | F
   ·obtain⟨rfl,X,bM,hA⟩:=hD;refine ZA J<|GE.app ?_ hk a w hA;exact .br [0,0] results237 .nil J (Fz.t g<|Fz.t D<|Fz.t z<|Fz.t E bM) trivial
   obtain⟨rfl,aA,bN,hA⟩:=hD;exact Jd<|(Gp [0,0] results237 .nil J (Fz.t g<|Fz.t D<|Fz.t z<|Fz.t E bN) trivial) hk a w hA
def Yf(A1:UV QD)(A2:UV (UV<|Int×QF))(A3:UV (UV<|Int×Bool))(c4:H1 Nat)(c10:Int):H1 ((UV QD×UV (UV<|Int×QF)×UV (UV<|Int×Bool))×UV Int):=c4.bind λi=>(A1[i]?).bind λx=>(x.moving).bind λj=>(A2[j]?).bind λl=>(Bf TR (Z8 A1 A3 c4 c10) l<|A3++[[]]).bind λR=>(Vo R<|some A3.length).bind λks=>some ((A1,A2,R),ks)
theorem LK{y:Int->σ->H1 (σ×Bool)}{ks:UV Int}(hn:ks.length<=1000000):∀(d k:Nat) (s r:σ),k+d=ks.length->Us y (ks.drop k) s=some r->
  ZW (Zo y ks) ((k:Int),s)=some (.inl r)∨ZW (Zo y ks) ((k:Int),s)=some (.inr r)
 | 0,k,s,r,hk,h=>by
  rw[pQ<|by omega] at h
  simp only[Us,BY] at h
  subst h;left;rw[ZQ];have:¬k < ks.length:=by omega
  simp[Zo,this]
 | d+1,k,s,r,hk,h=>by
  have hkl:k < ks.length:=by omega
  have hw:ZC ((k:Int)+1)=((k+1:Nat):Int):=by rw[Qq (by omega)<|by omega];rfl
  rw[pR hkl] at h
  have hi:Za ks (k:Int)=some ks[k]:=by simp[Za,hkl]
  simp only[Us] at h
  rw[ZQ];cases hy:y ks[k] s with
  | none=>rw[hy] at h;cases h
  | some p=>
   rw[hy] at h
   simp only[DO] at h
   by_cases hp:p.2=true
   ·rw[T2 hp] at h
    have:=LK hn d (k+1) p.1 r (by omega) h;simpa[Zo,hkl,hi,hy,hp,hw] using this
   ·rw[RW hp] at h
    simp only[BY] at h
    right;simp[Zo,hkl,hi,hy,hp,h]
theorem Fy{y:Int->σ->H1 (σ×Bool)}{upd:UV QD×UV (UV<|Int×QF)×UV (UV<|Int×Bool)->σ}{A1:UV QD}{A2:UV (UV<|Int×QF)}{A3:UV (UV<|Int×Bool)}{c4:H1 Nat}{c10:Int}{q:(UV QD×UV (UV<|Int×QF)×UV (UV<|Int×Bool))×UV Int}{r:σ}(hl:Yf A1 A2 A3 c4 c10=some q)(hr:Us y q.2 (upd q.1)=some r):Vp y upd A1 A2 A3 c4 c10=some r:=by
 simp only[Yf,nF] at hl
 obtain⟨i,rfl,b,hb,j,hj,l,hm,R,hR,ks,hks,hl⟩:=hl;simp only[BY] at hl
 subst hl
 have hn:ks.length<=1000000:=by
  have h:=hks;simp only[Vo,nF] at h
  obtain⟨m,_,h⟩:=h;unfold GO at h
  split at h
  ·rename_i h2;simp only[BY] at h
   rw[<-h];simpa using h2.2
  ·cases h
 simp only[Vp,QT,DO,hb,hj,hm,hR,hks];rcases LK (y:=y) hn ks.length 0 (upd (A1,A2,R)) r (by omega) (by simpa using hr) with e | e
 ·have e' :ZW (Zo y ks) (0,upd (A1,A2,R))=some (.inl r):=e;rw[e'];rfl
 ·have e' :ZW (Zo y ks) (0,upd (A1,A2,R))=some (.inr r):=e;rw[e'];rfl
end
end Go.Proofs.YtijhfeohbhedkaaGreatDoor
end
