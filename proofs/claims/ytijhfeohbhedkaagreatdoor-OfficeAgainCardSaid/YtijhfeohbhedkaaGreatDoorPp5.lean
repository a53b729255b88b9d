/- For OfficeAgain. -/
import Derived.Test.YtijhfeohbhedkaaGreatDoorPp4
import Derived.Test.YtijhfeohbhedkaaGreatDoorProg
import Derived.Shelf.SlMaps.Clone
import Derived.Ground.SlmcProg
import Derived.Shelf.SortM.Plain
import Derived.Shelf.SortM.SortNone
import Derived.Ground.GgzProg
import Derived.Ground.SlgmProg
noncomputable section
namespace Go.Dec
abbrev x5:=@TypeDesc.struct.inj
abbrev pd:=@List.mem_cons_self
abbrev ra:=@Go.Proofs.AnyZI.sorted_in
abbrev np:=@Go.Proofs.AnyZI.keys_gives_nil
abbrev mE:=@Go.Proofs.AnyZI.keys_gives
abbrev mO:=@List.cons_ne_nil
abbrev mQ:=@Go.Proofs.AnyZI.keys_in
end Go.Dec
namespace Go.Proofs.YtijhfeohbhedkaaGreatDoor
section
open Go.Dec Go.Shelf Go.RowKit Go.Maps Go.Sort
variable{Q:pU->Act->TO->Prop}{S:UV (Nat×Do)}{D:UV If}{O:H1 Nat}{β:Type}{m:H1 β}{ks:UV Kt}{hs:UV HP}{F F' F1 F2:Fz}{P:PP}{n p2 p4 p6 p7 p8:Nat}{r:β}{p0 p1 p3 p5:H1 Of}
theorem Qc:Tryz.prog.follows .mixedOrders=true:=by kernel_rfl
abbrev YH:= @Tryz.underlying101
abbrev FL:= @Tryz.underlying108
abbrev TM:= @Tryz.underlying110
abbrev J0:= @Tryz.underlying112
abbrev H0:= @Tryz.underlying114
abbrev Mb:= @Tryz.underlying121
abbrev SR:= @Tryz.underlying123
abbrev Ez:= @Tryz.underlying128
abbrev B0:= @Tryz.underlying133
abbrev HG:= @Tryz.underlying135
abbrev Bz:= @Tryz.underlying144
abbrev PF:= @Tryz.underlying147
abbrev SQ:= @Tryz.underlying152
abbrev xG:= @Tryz.underlying153
abbrev Wc:= @Tryz.underlying155
abbrev DG:= @Tryz.underlying161
abbrev jV:= @Tryz.underlying162
abbrev xF:= @Tryz.underlying173
abbrev Ma:= @Tryz.underlying181
abbrev Hz:= @Tryz.underlying185
abbrev PE:= @Tryz.underlying191
abbrev vK:= @Tryz.underlying198
abbrev Ig:= @Tryz.underlying199
abbrev xN:= @Tryz.underlying20
abbrev PD:= @Tryz.underlying201
abbrev Ie:= @Tryz.underlying206
abbrev Fa:= @Tryz.underlying208
abbrev gH:= @Tryz.underlying21
abbrev Js:= @Tryz.underlying210
abbrev vW:= @Tryz.underlying22
abbrev qp:= @Tryz.underlying221
abbrev VA:= @Tryz.underlying223
abbrev qo:= @Tryz.underlying226
abbrev Ue:= @Tryz.underlying227
abbrev Ey:= @Tryz.underlying229
abbrev vJ:= @Tryz.underlying231
abbrev xo:= @Tryz.underlying244
abbrev uu:= @Tryz.underlying247
abbrev MZ:= @Tryz.underlying249
abbrev fH:= @Tryz.underlying25
abbrev xn:= @Tryz.underlying261
abbrev ur:= @Tryz.underlying265
abbrev xm:= @Tryz.underlying268
abbrev vH:= @Tryz.underlying288
abbrev U3:= @Tryz.underlying3
abbrev UQ:= @Tryz.underlying34
abbrev vG:= @Tryz.underlying40
abbrev vF:= @Tryz.underlying42
abbrev U5:= @Tryz.underlying5
abbrev gq:= @Tryz.underlying50
abbrev ja:= @Tryz.underlying51
abbrev gz:= @Tryz.underlying52
abbrev jU:= @Tryz.underlying53
abbrev Hg:= @Tryz.underlying55
abbrev xM:= @Tryz.underlying57
abbrev gG:= @Tryz.underlying59
abbrev gF:= @Tryz.underlying64
abbrev FZ:= @Tryz.underlying67
abbrev DH:= @Tryz.underlying70
abbrev N0:= @Tryz.underlying72
abbrev gm:= @Tryz.underlying80
abbrev U9:= @Tryz.underlying9
abbrev Ur:= @Tryz.underlying98
abbrev Ew:= @Tryz.isAgg101
abbrev uq:= @Tryz.isAgg108
abbrev MY:= @Tryz.isAgg110
abbrev Nw:= @Tryz.isAgg112
abbrev Eu:= @Tryz.isAgg114
abbrev qn:= @Tryz.isAgg121
abbrev Nv:= @Tryz.isAgg123
abbrev gl:= @Tryz.isAgg128
abbrev xl:= @Tryz.isAgg133
abbrev Ic:= @Tryz.isAgg135
abbrev gk:= @Tryz.isAgg138
abbrev qm:= @Tryz.isAgg144
abbrev uo:= @Tryz.isAgg147
abbrev xk:= @Tryz.isAgg152
abbrev gj:= @Tryz.isAgg153
abbrev jT:= @Tryz.isAgg155
abbrev um:= @Tryz.isAgg161
abbrev uk:= @Tryz.isAgg173
abbrev vE:= @Tryz.isAgg181
abbrev AR:= @Tryz.isAgg185
abbrev uj:= @Tryz.isAgg191
abbrev MX:= @Tryz.isAgg195
abbrev Et:= @Tryz.isAgg199
abbrev vD:= @Tryz.isAgg206
abbrev jS:= @Tryz.isAgg208
abbrev DF:= @Tryz.isAgg218
abbrev Ib:= @Tryz.isAgg221
abbrev xj:= @Tryz.isAgg226
abbrev Ia:= @Tryz.isAgg227
abbrev ui:= @Tryz.isAgg230
abbrev gi:= @Tryz.isAgg243
abbrev gg:= @Tryz.isAgg244
abbrev gf:= @Tryz.isAgg268
abbrev Ll:= @Tryz.isAgg27
abbrev V3:= @Tryz.isAgg3
abbrev gd:= @Tryz.isAgg34
abbrev V4:= @Tryz.isAgg4
abbrev xi:= @Tryz.isAgg40
abbrev gE:= @Tryz.isAgg42
abbrev V5:= @Tryz.isAgg5
abbrev gD:= @Tryz.isAgg50
abbrev uh:= @Tryz.isAgg51
abbrev gC:= @Tryz.isAgg52
abbrev gB:= @Tryz.isAgg53
abbrev xh:= @Tryz.isAgg77
abbrev V9:= @Tryz.isAgg9
abbrev gA:= @Tryz.isAgg98
abbrev TL:= @Tryz.sizeOf101
abbrev MW:= @Tryz.sizeOf108
abbrev P1:= @Tryz.sizeOf110
abbrev Ud:= @Tryz.sizeOf112
abbrev Hy:= @Tryz.sizeOf114
abbrev Es:= @Tryz.sizeOf121
abbrev Co:= @Tryz.sizeOf123
abbrev ql:= @Tryz.sizeOf128
abbrev FY:= @Tryz.sizeOf133
abbrev HD:= @Tryz.sizeOf135
abbrev xg:= @Tryz.sizeOf138
abbrev Cn:= @Tryz.sizeOf144
abbrev AQ:= @Tryz.sizeOf147
abbrev Cm:= @Tryz.sizeOf152
abbrev xE:= @Tryz.sizeOf153
abbrev Uc:= @Tryz.sizeOf155
abbrev IZ:= @Tryz.sizeOf161
abbrev xD:= @Tryz.sizeOf173
abbrev xf:= @Tryz.sizeOf179
abbrev P0:= @Tryz.sizeOf181
abbrev Hx:= @Tryz.sizeOf185
abbrev qk:= @Tryz.sizeOf191
abbrev vC:= @Tryz.sizeOf195
abbrev Ep:= @Tryz.sizeOf199
abbrev Eo:= @Tryz.sizeOf206
abbrev Ge:= @Tryz.sizeOf208
abbrev ga:= @Tryz.sizeOf210
abbrev jR:= @Tryz.sizeOf218
abbrev IY:= @Tryz.sizeOf221
abbrev jQ:= @Tryz.sizeOf226
abbrev AP:= @Tryz.sizeOf227
abbrev vB:= @Tryz.sizeOf230
abbrev gZ:= @Tryz.sizeOf231
abbrev xe:= @Tryz.sizeOf243
abbrev xC:= @Tryz.sizeOf244
abbrev gY:= @Tryz.sizeOf247
abbrev gX:= @Tryz.sizeOf265
abbrev xB:= @Tryz.sizeOf268
abbrev Ij:= @Tryz.sizeOf27
abbrev W3:= @Tryz.sizeOf3
abbrev W4:= @Tryz.sizeOf4
abbrev ug:= @Tryz.sizeOf40
abbrev wH:= @Tryz.sizeOf42
abbrev W5:= @Tryz.sizeOf5
abbrev xK:= @Tryz.sizeOf50
abbrev vA:= @Tryz.sizeOf51
abbrev xJ:= @Tryz.sizeOf52
abbrev wG:= @Tryz.sizeOf53
abbrev vV:= @Tryz.sizeOf55
abbrev fG:= @Tryz.sizeOf59
abbrev W9:= @Tryz.sizeOf9
abbrev uf:= @Tryz.sizeOf98
abbrev qj:= @Tryz.zeroValue101
abbrev jP:= @Tryz.zeroValue108
abbrev Cl:= @Tryz.zeroValue112
abbrev jO:= @Tryz.zeroValue114
abbrev xd:= @Tryz.zeroValue123
abbrev xA:= @Tryz.zeroValue128
abbrev PC:= @Tryz.zeroValue135
abbrev jN:= @Tryz.zeroValue144
abbrev jM:= @Tryz.zeroValue147
abbrev jL:= @Tryz.zeroValue155
abbrev w9:= @Tryz.zeroValue161
abbrev gW:= @Tryz.zeroValue173
abbrev jK:= @Tryz.zeroValue181
abbrev jJ:= @Tryz.zeroValue185
abbrev ue:= @Tryz.zeroValue191
abbrev gV:= @Tryz.zeroValue195
abbrev y9:= @Tryz.zeroValue198
abbrev gU:= @Tryz.zeroValue201
abbrev w8:= @Tryz.zeroValue208
abbrev gT:= @Tryz.zeroValue210
abbrev gS:= @Tryz.zeroValue218
abbrev gR:= @Tryz.zeroValue223
abbrev qi:= @Tryz.zeroValue226
abbrev gQ:= @Tryz.zeroValue227
abbrev gP:= @Tryz.zeroValue229
abbrev xc:= @Tryz.zeroValue231
abbrev w7:= @Tryz.zeroValue244
abbrev xb:= @Tryz.zeroValue247
abbrev xa:= @Tryz.zeroValue265
abbrev w6:= @Tryz.zeroValue268
abbrev gO:= @Tryz.zeroValue27
abbrev Y3:= @Tryz.zeroValue3
abbrev Y4:= @Tryz.zeroValue4
abbrev gN:= @Tryz.zeroValue55
abbrev fF:= @Tryz.zeroValue57
abbrev gy:= @Tryz.zeroValue59
abbrev Lk:= @Tryz.zeroValue67
abbrev RD:= @Tryz.zeroValue70
abbrev y8:= @Tryz.zeroValue98
structure Jt where
 g210:Nat
 g201:Nat
 g223:Nat
 g57:Nat
 g221:Nat
 g206:Nat
 g199:Nat
 g55:Nat
 g64:Nat
variable{U:Jt}
structure ZQ where
 Number:Int
 Wood:Int
 Place:Int
 Room:Int
 Owner:Int
 Creditor:Int
 Amount:Int
 Age:Int
 Woods:(Nat->Int)
 Places:(Nat->Int)
def Qu(x:ZQ):UV Do:=[.int .i64 x.Number,.int .i64 x.Wood,.int .i64 x.Place,.int .i64 x.Room,.int .i64 x.Owner,.int .i64 x.Creditor,.int .i64 x.Amount,.int .i64 x.Age,.int .i64<|x.Woods 0,.int .i64<|x.Woods 1,.int .i64<|x.Woods 2,.int .i64<|x.Woods 3,.int .i64<|x.Woods 4,.int .i64<|x.Woods 5,.int .i64<|x.Woods 6,.int .i64<|x.Woods 7,.int .i64<|x.Places 0,.int .i64<|x.Places 1,.int .i64<|x.Places 2,.int .i64<|x.Places 3,.int .i64<|x.Places 4,.int .i64<|x.Places 5,.int .i64<|x.Places 6,.int .i64<|x.Places 7]
def Dd(x:ZQ):Do:=.agg (Qu x).toArray
theorem TZ:∀fs,Tryz.prog.underlying 135=some (.struct fs)->Places Tryz.prog fs #[(0,1),(1,1),(2,1),(3,1),(4,1),(5,1),(6,1),(7,1),(8,8),(16,8)]:=λfs h=>by
 obtain rfl:=x5<|u2<|Tryz.underlying135.symm.trans h;intro w;kernel_rfl
structure QB where
 Lo:Int
 Hi:Int
def QY(x:QB):UV Do:=[.int .i64 x.Lo,.int .i64 x.Hi]
def JO(x:QB):Do:=.agg (QY x).toArray
theorem Xs:∀fs,Tryz.prog.underlying 112=some (.struct fs)->Places Tryz.prog fs #[(0,1),(1,1)]:=λfs h=>by
 obtain rfl:=x5<|u2<|Tryz.underlying112.symm.trans h;intro w;kernel_rfl
structure Qn where
 From:ZQ
 Amount:Int
 Strength:QB
def QN(x:Qn):UV Do:=[.int .i64 x.From.Number,.int .i64 x.From.Wood,.int .i64 x.From.Place,.int .i64 x.From.Room,.int .i64 x.From.Owner,.int .i64 x.From.Creditor,.int .i64 x.From.Amount,.int .i64 x.From.Age,.int .i64<|x.From.Woods 0,.int .i64<|x.From.Woods 1,.int .i64<|x.From.Woods 2,.int .i64<|x.From.Woods 3,.int .i64<|x.From.Woods 4,.int .i64<|x.From.Woods 5,.int .i64<|x.From.Woods 6,.int .i64<|x.From.Woods 7,.int .i64<|x.From.Places 0,.int .i64<|x.From.Places 1,.int .i64<|x.From.Places 2,.int .i64<|x.From.Places 3,.int .i64<|x.From.Places 4,.int .i64<|x.From.Places 5,.int .i64<|x.From.Places 6,.int .i64<|x.From.Places 7,.int .i64 x.Amount,.int .i64 x.Strength.Lo,.int .i64 x.Strength.Hi]
def Y8(x:Qn):Do:=.agg (QN x).toArray
theorem EF:∀fs,Tryz.prog.underlying 144=some (.struct fs)->Places Tryz.prog fs #[(0,24),(24,1),(25,2)]:=λfs h=>by
 obtain rfl:=x5<|u2<|Tryz.underlying144.symm.trans h;intro w;kernel_rfl
structure QT where
 Draughts:(List Qn)
 Water:Int
 Shrink:QB
 Filtered:Bool
 Coloured:Bool
def Q6(x:QT)(p0:H1 Of)(k0:Nat):UV Do:=[.slice p0 x.Draughts.length k0,.int .i64 x.Water,.int .i64 x.Shrink.Lo,.int .i64 x.Shrink.Hi,.bool x.Filtered,.bool x.Coloured]
def Zk(x:QT)(p0:H1 Of)(k0:Nat):Do:=.agg (Q6 x p0 k0).toArray
theorem I6:∀fs,Tryz.prog.underlying 114=some (.struct fs)->Places Tryz.prog fs #[(0,1),(1,1),(2,2),(4,1),(5,1)]:=λfs h=>by
 obtain rfl:=x5<|u2<|Tryz.underlying114.symm.trans h;intro w;kernel_rfl
structure Zz where
 From:Int
 Rate:Int
def Zb(x:Zz):UV Do:=[.int .i64 x.From,.int .i64 x.Rate]
def Ee(x:Zz):Do:=.agg (Zb x).toArray
theorem MD:∀fs,Tryz.prog.underlying 128=some (.struct fs)->Places Tryz.prog fs #[(0,1),(1,1)]:=λfs h=>by
 obtain rfl:=x5<|u2<|Tryz.underlying128.symm.trans h;intro w;kernel_rfl
structure Qz where
 Rates:(List Zz)
 Transit:Int
 Loss:Int
 Share:Int
def ZH(x:Qz)(p0:H1 Of)(k0:Nat):UV Do:=[.slice p0 x.Rates.length k0,.int .i64 x.Transit,.int .i64 x.Loss,.int .i64 x.Share]
def J9(x:Qz)(p0:H1 Of)(k0:Nat):Do:=.agg (ZH x p0 k0).toArray
def Kh:UR Qz:=λF x vs=>∃p0 k0,vs=ZH x p0 k0/\QG 2 (Ex Zb) F p0 k0 x.Rates
theorem R3:∀fs,Tryz.prog.underlying 123=some (.struct fs)->Places Tryz.prog fs #[(0,1),(1,1),(2,1),(3,1)]:=λfs h=>by
 obtain rfl:=x5<|u2<|Tryz.underlying123.symm.trans h;intro w;kernel_rfl
structure QF where
 Kind:Int
 Day:Int
 Cask:Int
 Other:Int
 Person:Int
 To:Int
 Amount:Int
 Where:Int
def QM(x:QF):UV Do:=[.int .i64 x.Kind,.int .i64 x.Day,.int .i64 x.Cask,.int .i64 x.Other,.int .i64 x.Person,.int .i64 x.To,.int .i64 x.Amount,.int .i64 x.Where]
def JF(x:QF):Do:=.agg (QM x).toArray
theorem Yi:∀fs,Tryz.prog.underlying 98=some (.struct fs)->Places Tryz.prog fs #[(0,1),(1,1),(2,1),(3,1),(4,1),(5,1),(6,1),(7,1)]:=λfs h=>by
 obtain rfl:=x5<|u2<|Tryz.underlying98.symm.trans h;intro w;kernel_rfl
structure QP where
 Kind:Int
 Day:Int
 Bond:Int
 To:Int
 Id:Int
 Amount:Int
def QO(x:QP):UV Do:=[.int .i64 x.Kind,.int .i64 x.Day,.int .i64 x.Bond,.int .i64 x.To,.int .i64 x.Id,.int .i64 x.Amount]
def JE(x:QP):Do:=.agg (QO x).toArray
theorem Ww:∀fs,Tryz.prog.underlying 101=some (.struct fs)->Places Tryz.prog fs #[(0,1),(1,1),(2,1),(3,1),(4,1),(5,1)]:=λfs h=>by
 obtain rfl:=x5<|u2<|Tryz.underlying101.symm.trans h;intro w;kernel_rfl
structure QH where
 Kind:Int
 First:Int
 Last:Int
 Batch:Int
def QR(x:QH):UV Do:=[.int .i64 x.Kind,.int .i64 x.First,.int .i64 x.Last,.int .i64 x.Batch]
def FC(x:QH):Do:=.agg (QR x).toArray
theorem H3:∀fs,Tryz.prog.underlying 108=some (.struct fs)->Places Tryz.prog fs #[(0,1),(1,1),(2,1),(3,1)]:=λfs h=>by
 obtain rfl:=x5<|u2<|Tryz.underlying108.symm.trans h;intro w;kernel_rfl
structure QA where
 day:Int
 rules:(Option Qz)
 casks:(List QF)
 duties:(List QP)
 stamps:(List QH)
 batches:(List<|Int×QT)
 pure:(List<|Int×Int)
 ids:Int
variable{L:QA}
def Qg(x:QA)(p0:H1 Of)(k0:Unit)(p1:H1 Of)(k1:Nat)(p2:H1 Of)(k2:Nat)(p3:H1 Of)(k3:Nat)(p4:H1 Nat)(k4:Unit)(p5:H1 Nat)(k5:Unit):UV Do:=[.int .i64 x.day,.pointer p0,.slice p1 x.casks.length k1,.slice p2 x.duties.length k2,.slice p3 x.stamps.length k3,.map p4,.map p5,.int .i64 x.ids]
def NS(x:QA)(p0:H1 Of)(k0:Unit)(p1:H1 Of)(k1:Nat)(p2:H1 Of)(k2:Nat)(p3:H1 Of)(k3:Nat)(p4:H1 Nat)(k4:Unit)(p5:H1 Nat)(k5:Unit):Do:=.agg (Qg x p0 k0 p1 k1 p2 k2 p3 k3 p4 k4 p5 k5).toArray
theorem Pq:∀fs,Tryz.prog.underlying 55=some (.struct fs)->Places Tryz.prog fs #[(0,1),(1,1),(2,1),(3,1),(4,1),(5,1),(6,1),(7,1)]:=λfs h=>by
 obtain rfl:=x5<|u2<|Tryz.underlying55.symm.trans h;intro w;kernel_rfl
structure Qw where
 ledgers:QA
 open_:Bool
def DD(x:Qw)(p0:H1 Of)(k0:Unit)(p1:H1 Of)(k1:Nat)(p2:H1 Of)(k2:Nat)(p3:H1 Of)(k3:Nat)(p4:H1 Nat)(k4:Unit)(p5:H1 Nat)(k5:Unit):UV Do:=[.int .i64 x.ledgers.day,.pointer p0,.slice p1 x.ledgers.casks.length k1,.slice p2 x.ledgers.duties.length k2,.slice p3 x.ledgers.stamps.length k3,.map p4,.map p5,.int .i64 x.ledgers.ids,.bool x.open_]
def SY:UR Qw:=λF x vs=>∃p0 k0 p1 k1 p2 k2 p3 k3 p4 k4 p5 k5,vs=DD x p0 k0 p1 k1 p2 k2 p3 k3 p4 k4 p5 k5/\Ua 123 Kh F p0 x.ledgers.rules/\QG 8 (Ex QM) F p1 k1 x.ledgers.casks/\QG 6 (Ex QO) F p2 k2 x.ledgers.duties/\QG 4 (Ex QR) F p3 k3 x.ledgers.stamps/\WA (λx:Int=>(.int .i64 x)) (λF (x:QT) v=>∃(p0:H1 Of) (k0:Nat),v=(Zk x p0 k0)/\QG 27 (Ex QN) F p0 k0 x.Draughts) F p4 x.ledgers.batches/\WA (λx:Int=>(.int .i64 x)) (λ_ (x:Int) v=>v=(.int .i64 x)) F p5 x.ledgers.pure
theorem Rz:∀fs,Tryz.prog.underlying 57=some (.struct fs)->Places Tryz.prog fs #[(0,8),(8,1)]:=λfs h=>by
 obtain rfl:=x5<|u2<|Tryz.underlying57.symm.trans h;intro w;kernel_rfl
structure Qk where
 e:Int
def Wj(x:Qk):UV Do:=[.int .i64 x.e]
def MO(x:Qk):Do:=.agg (Wj x).toArray
theorem R0:∀fs,Tryz.prog.underlying 59=some (.struct fs)->Places Tryz.prog fs #[(0,1)]:=λfs h=>by
 obtain rfl:=x5<|u2<|Tryz.underlying59.symm.trans h;intro w;kernel_rfl
structure Zg where
 rest:(List UInt8)
def Ux(x:Zg):UV Do:=[.string<|bs x.rest]
theorem Ry:∀fs,Tryz.prog.underlying 64=some (.struct fs)->Places Tryz.prog fs #[(0,1)]:=λfs h=>by
 obtain rfl:=x5<|u2<|Tryz.underlying64.symm.trans h;intro w;kernel_rfl
structure Zi where
 e:Int
def Xx(x:Zi):UV Do:=[.int .i64 x.e]
def IG(x:Zi):Do:=.agg (Xx x).toArray
theorem EE:∀fs,Tryz.prog.underlying 247=some (.struct fs)->Places Tryz.prog fs #[(0,1)]:=λfs h=>by
 obtain rfl:=x5<|u2<|Tryz.underlying247.symm.trans h;intro w;kernel_rfl
structure ZF where
 age:Int
 woods:(Nat->Int)
 places:(Nat->Int)
def ZB(x:ZF):UV Do:=[.int .i64 x.age,.int .i64<|x.woods 0,.int .i64<|x.woods 1,.int .i64<|x.woods 2,.int .i64<|x.woods 3,.int .i64<|x.woods 4,.int .i64<|x.woods 5,.int .i64<|x.woods 6,.int .i64<|x.woods 7,.int .i64<|x.places 0,.int .i64<|x.places 1,.int .i64<|x.places 2,.int .i64<|x.places 3,.int .i64<|x.places 4,.int .i64<|x.places 5,.int .i64<|x.places 6,.int .i64<|x.places 7]
def Uv(x:ZF):Do:=.agg (ZB x).toArray
theorem PW:∀fs,Tryz.prog.underlying 208=some (.struct fs)->Places Tryz.prog fs #[(0,1),(1,8),(9,8)]:=λfs h=>by
 obtain rfl:=x5<|u2<|Tryz.underlying208.symm.trans h;intro w;kernel_rfl
structure QK where
 number:Int
 wood:Int
 place:Int
 room:Int
 owner:Int
 creditor:Int
 amount:Int
 since:Int
 times:ZF
 fills:(Option Nat)
def Uh(x:QK)(p0:H1 Nat)(k0:Unit):UV Do:=[.int .i64 x.number,.int .i64 x.wood,.int .i64 x.place,.int .i64 x.room,.int .i64 x.owner,.int .i64 x.creditor,.int .i64 x.amount,.int .i64 x.since,.int .i64 x.times.age,.int .i64<|x.times.woods 0,.int .i64<|x.times.woods 1,.int .i64<|x.times.woods 2,.int .i64<|x.times.woods 3,.int .i64<|x.times.woods 4,.int .i64<|x.times.woods 5,.int .i64<|x.times.woods 6,.int .i64<|x.times.woods 7,.int .i64<|x.times.places 0,.int .i64<|x.times.places 1,.int .i64<|x.times.places 2,.int .i64<|x.times.places 3,.int .i64<|x.times.places 4,.int .i64<|x.times.places 5,.int .i64<|x.times.places 6,.int .i64<|x.times.places 7,.map p0]
def kj(x:QK)(p0:H1 Nat)(k0:Unit):Do:=.agg (Uh x p0 k0).toArray
def Mz(U:Jt):UR QK:=λF x vs=>∃p0 k0,vs=Uh x p0 k0/\Zr U.g206 F p0 x.fills
theorem I3:∀fs,Tryz.prog.underlying 210=some (.struct fs)->Places Tryz.prog fs #[(0,1),(1,1),(2,1),(3,1),(4,1),(5,1),(6,1),(7,1),(8,17),(25,1)]:=λfs h=>by
 obtain rfl:=x5<|u2<|Tryz.underlying210.symm.trans h;intro w;kernel_rfl
structure Qi where
 casks:(Option Nat)
 event:Int
def PB(x:Qi)(p0:H1 Nat)(k0:Unit):UV Do:=[.map p0,.int .i64 x.event]
def M0(U:Jt):UR Qi:=λF x vs=>∃p0 k0,vs=PB x p0 k0/\Zr U.g199 F p0 x.casks
theorem I4:∀fs,Tryz.prog.underlying 201=some (.struct fs)->Places Tryz.prog fs #[(0,1),(1,1)]:=λfs h=>by
 obtain rfl:=x5<|u2<|Tryz.underlying201.symm.trans h;intro w;kernel_rfl
structure Zn where
 e:Int
def Wk(x:Zn):UV Do:=[.int .i64 x.e]
def MP(x:Zn):Do:=.agg (Wk x).toArray
theorem R2:∀fs,Tryz.prog.underlying 265=some (.struct fs)->Places Tryz.prog fs #[(0,1)]:=λfs h=>by
 obtain rfl:=x5<|u2<|Tryz.underlying265.symm.trans h;intro w;kernel_rfl
structure QE where
 Id:Int
 From:Int
 To:Int
 Sent:Int
 Amount:Int
def ZJ(x:QE):UV Do:=[.int .i64 x.Id,.int .i64 x.From,.int .i64 x.To,.int .i64 x.Sent,.int .i64 x.Amount]
def Jy(x:QE):Do:=.agg (ZJ x).toArray
theorem Oa:∀fs,Tryz.prog.underlying 226=some (.struct fs)->Places Tryz.prog fs #[(0,1),(1,1),(2,1),(3,1),(4,1)]:=λfs h=>by
 obtain rfl:=x5<|u2<|Tryz.underlying226.symm.trans h;intro w;kernel_rfl
structure ZS where
 Bonds:(Nat->Int)
 Moving:(List QE)
 Made:Int
 Found:Int
 Used:Int
 Exported:Int
 Lost:Int
 Charged:Int
 Due:Int
 Paid:Int
def ZE(x:ZS)(p0:H1 Of)(k0:Nat):UV Do:=[.int .i64<|x.Bonds 0,.int .i64<|x.Bonds 1,.int .i64<|x.Bonds 2,.int .i64<|x.Bonds 3,.int .i64<|x.Bonds 4,.int .i64<|x.Bonds 5,.int .i64<|x.Bonds 6,.int .i64<|x.Bonds 7,.int .i64<|x.Bonds 8,.int .i64<|x.Bonds 9,.int .i64<|x.Bonds 10,.int .i64<|x.Bonds 11,.int .i64<|x.Bonds 12,.int .i64<|x.Bonds 13,.int .i64<|x.Bonds 14,.int .i64<|x.Bonds 15,.slice p0 x.Moving.length k0,.int .i64 x.Made,.int .i64 x.Found,.int .i64 x.Used,.int .i64 x.Exported,.int .i64 x.Lost,.int .i64 x.Charged,.int .i64 x.Due,.int .i64 x.Paid]
def V6(x:ZS)(p0:H1 Of)(k0:Nat):Do:=.agg (ZE x p0 k0).toArray
theorem ME:∀fs,Tryz.prog.underlying 155=some (.struct fs)->Places Tryz.prog fs #[(0,16),(16,1),(17,1),(18,1),(19,1),(20,1),(21,1),(22,1),(23,1),(24,1)]:=λfs h=>by
 obtain rfl:=x5<|u2<|Tryz.underlying155.symm.trans h;intro w;kernel_rfl
structure QD where
 rules:Qz
 book:ZS
 moving:(Option Nat)
 known:(Option Nat)
 sums:(Nat->Int)
 day:Int
def Zd(x:QD)(p0:H1 Of)(k0:Nat)(p1:H1 Of)(k1:Nat)(p2:H1 Nat)(k2:Unit)(p3:H1 Nat)(k3:Unit):UV Do:=[.slice p0 x.rules.Rates.length k0,.int .i64 x.rules.Transit,.int .i64 x.rules.Loss,.int .i64 x.rules.Share,.int .i64<|x.book.Bonds 0,.int .i64<|x.book.Bonds 1,.int .i64<|x.book.Bonds 2,.int .i64<|x.book.Bonds 3,.int .i64<|x.book.Bonds 4,.int .i64<|x.book.Bonds 5,.int .i64<|x.book.Bonds 6,.int .i64<|x.book.Bonds 7,.int .i64<|x.book.Bonds 8,.int .i64<|x.book.Bonds 9,.int .i64<|x.book.Bonds 10,.int .i64<|x.book.Bonds 11,.int .i64<|x.book.Bonds 12,.int .i64<|x.book.Bonds 13,.int .i64<|x.book.Bonds 14,.int .i64<|x.book.Bonds 15,.slice p1 x.book.Moving.length k1,.int .i64 x.book.Made,.int .i64 x.book.Found,.int .i64 x.book.Used,.int .i64 x.book.Exported,.int .i64 x.book.Lost,.int .i64 x.book.Charged,.int .i64 x.book.Due,.int .i64 x.book.Paid,.map p2,.map p3,.int .i64<|x.sums 0,.int .i64<|x.sums 1,.int .i64<|x.sums 2,.int .i64<|x.sums 3,.int .i64<|x.sums 4,.int .i64<|x.sums 5,.int .i64<|x.sums 6,.int .i64<|x.sums 7,.int .i64<|x.sums 8,.int .i64<|x.sums 9,.int .i64<|x.sums 10,.int .i64<|x.sums 11,.int .i64<|x.sums 12,.int .i64<|x.sums 13,.int .i64<|x.sums 14,.int .i64<|x.sums 15,.int .i64 x.day]
def SZ(U:Jt):UR QD:=λF x vs=>∃p0 k0 p1 k1 p2 k2 p3 k3,vs=Zd x p0 k0 p1 k1 p2 k2 p3 k3/\QG 2 (Ex Zb) F p0 k0 x.rules.Rates/\Ny 5 (Ex ZJ) F p1 k1 x.book.Moving/\Zr U.g221 F p2 x.moving/\Zr U.g206 F p3 x.known
theorem R1:∀fs,Tryz.prog.underlying 223=some (.struct fs)->Places Tryz.prog fs #[(0,4),(4,25),(29,1),(30,1),(31,16),(47,1)]:=λfs h=>by
 obtain rfl:=x5<|u2<|Tryz.underlying223.symm.trans h;intro w;kernel_rfl
structure Q3 where
 Hand:(List QB)
 Stuck:Int
 Spoiled:Int
 Returned:Int
def Qs(x:Q3)(p0:H1 Of)(k0:Nat):UV Do:=[.slice p0 x.Hand.length k0,.int .i64 x.Stuck,.int .i64 x.Spoiled,.int .i64 x.Returned]
def Sh(x:Q3)(p0:H1 Of)(k0:Nat):Do:=.agg (Qs x p0 k0).toArray
theorem Gz:∀fs,Tryz.prog.underlying 181=some (.struct fs)->Places Tryz.prog fs #[(0,1),(1,1),(2,1),(3,1)]:=λfs h=>by
 obtain rfl:=x5<|u2<|Tryz.underlying181.symm.trans h;intro w;kernel_rfl
structure US where
 issued:(List QB)
 hand:(List QB)
def JI(x:US)(p0:H1 Of)(k0:Nat)(p1:H1 Of)(k1:Nat):UV Do:=[.slice p0 x.issued.length k0,.slice p1 x.hand.length k1]
structure Qf where
 Batch:QT
 amount:Int
 least:Int
 most:Int
def Qe(x:Qf)(p0:H1 Of)(k0:Nat):UV Do:=[.slice p0 x.Batch.Draughts.length k0,.int .i64 x.Batch.Water,.int .i64 x.Batch.Shrink.Lo,.int .i64 x.Batch.Shrink.Hi,.bool x.Batch.Filtered,.bool x.Batch.Coloured,.int .i64 x.amount,.int .i64 x.least,.int .i64 x.most]
def Jn(x:Qf)(p0:H1 Of)(k0:Nat):Do:=.agg (Qe x p0 k0).toArray
theorem MC:∀fs,Tryz.prog.underlying 185=some (.struct fs)->Places Tryz.prog fs #[(0,6),(6,1),(7,1),(8,1)]:=λfs h=>by
 obtain rfl:=x5<|u2<|Tryz.underlying185.symm.trans h;intro w;kernel_rfl
structure Qm where
 Volume:QB
 Strength:QB
 Age:Int
 Woods:(Nat->Int)
 Places:(Nat->Int)
 Casks:Int
def Qo(x:Qm):UV Do:=[.int .i64 x.Volume.Lo,.int .i64 x.Volume.Hi,.int .i64 x.Strength.Lo,.int .i64 x.Strength.Hi,.int .i64 x.Age,.int .i64<|x.Woods 0,.int .i64<|x.Woods 1,.int .i64<|x.Woods 2,.int .i64<|x.Woods 3,.int .i64<|x.Woods 4,.int .i64<|x.Woods 5,.int .i64<|x.Woods 6,.int .i64<|x.Woods 7,.int .i64<|x.Places 0,.int .i64<|x.Places 1,.int .i64<|x.Places 2,.int .i64<|x.Places 3,.int .i64<|x.Places 4,.int .i64<|x.Places 5,.int .i64<|x.Places 6,.int .i64<|x.Places 7,.int .i64 x.Casks]
def GZ(x:Qm):Do:=.agg (Qo x).toArray
theorem Sb:∀fs,Tryz.prog.underlying 147=some (.struct fs)->Places Tryz.prog fs #[(0,2),(2,2),(4,1),(5,8),(13,8),(21,1)]:=λfs h=>by
 obtain rfl:=x5<|u2<|Tryz.underlying147.symm.trans h;intro w;kernel_rfl
structure Qq where
 Kind:Int
 What:Int
 Number:Int
def KA(x:Qq):UV Do:=[.int .i64 x.Kind,.int .i64 x.What,.int .i64 x.Number]
def Zo(x:Qq):Do:=.agg (KA x).toArray
theorem I5:∀fs,Tryz.prog.underlying 161=some (.struct fs)->Places Tryz.prog fs #[(0,1),(1,1),(2,1)]:=λfs h=>by
 obtain rfl:=x5<|u2<|Tryz.underlying161.symm.trans h;intro w;kernel_rfl
structure ZD where
 batch:Qf
 known:Qm
def Za(x:ZD)(p0:H1 Of)(k0:Nat):UV Do:=[.slice p0 x.batch.Batch.Draughts.length k0,.int .i64 x.batch.Batch.Water,.int .i64 x.batch.Batch.Shrink.Lo,.int .i64 x.batch.Batch.Shrink.Hi,.bool x.batch.Batch.Filtered,.bool x.batch.Batch.Coloured,.int .i64 x.batch.amount,.int .i64 x.batch.least,.int .i64 x.batch.most,.int .i64 x.known.Volume.Lo,.int .i64 x.known.Volume.Hi,.int .i64 x.known.Strength.Lo,.int .i64 x.known.Strength.Hi,.int .i64 x.known.Age,.int .i64<|x.known.Woods 0,.int .i64<|x.known.Woods 1,.int .i64<|x.known.Woods 2,.int .i64<|x.known.Woods 3,.int .i64<|x.known.Woods 4,.int .i64<|x.known.Woods 5,.int .i64<|x.known.Woods 6,.int .i64<|x.known.Woods 7,.int .i64<|x.known.Places 0,.int .i64<|x.known.Places 1,.int .i64<|x.known.Places 2,.int .i64<|x.known.Places 3,.int .i64<|x.known.Places 4,.int .i64<|x.known.Places 5,.int .i64<|x.known.Places 6,.int .i64<|x.known.Places 7,.int .i64 x.known.Casks]
def D9(x:ZD)(p0:H1 Of)(k0:Nat):Do:=.agg (Za x p0 k0).toArray
theorem Sa:∀fs,Tryz.prog.underlying 191=some (.struct fs)->Places Tryz.prog fs #[(0,9),(9,22)]:=λfs h=>by
 obtain rfl:=x5<|u2<|Tryz.underlying191.symm.trans h;intro w;kernel_rfl
structure QZ where
 least:Int
 each:Int
def Zy(x:QZ):UV Do:=[.int .i64 x.least,.int .i64 x.each]
def IE(x:QZ):Do:=.agg (Zy x).toArray
theorem Z0:∀fs,Tryz.prog.underlying 67=some (.struct fs)->Places Tryz.prog fs #[(0,1),(1,1)]:=λfs h=>by
 obtain rfl:=x5<|u2<|Tryz.underlying67.symm.trans h;intro w;kernel_rfl
structure QX where
 form:QZ
 do_:((QA×Unit×(List Int))->Option (Out Qk<|(List UInt8)×QA))
def Zf(x:QX)(p0:x4)(k0:UV Do×UV Do):UV Do:=[.int .i64 x.form.least,.int .i64 x.form.each,.func (.func p0) k0.1.toArray k0.2.toArray]
def Z8(x:QX)(p0:x4)(k0:UV Do×UV Do):Do:=.agg (Zf x p0 k0).toArray
theorem Z1:∀fs,Tryz.prog.underlying 70=some (.struct fs)->Places Tryz.prog fs #[(0,2),(2,1)]:=λfs h=>by
 obtain rfl:=x5<|u2<|Tryz.underlying70.symm.trans h;intro w;kernel_rfl
abbrev AV(U:Jt):Fz->Nat->QK->HP:=U4 210<|Mz U
abbrev Qr(U:Jt)(F:Fz)(xs:UV QK):HP:=Qy U.g210 (AV U) F xs
theorem K5(U:Jt):XH (AV U):=U4.stays
theorem XS(U:Jt){x:QK}:∀F vs,(Mz U) F x vs->vs.length=26:=λ_ _ ⟨_,_,h,_⟩=>h▸rfl
abbrev Nz(U:Jt):Fz->Nat->Qi->HP:=U4 201<|M0 U
abbrev Q4(U:Jt)(F:Fz)(xs:UV Qi):HP:=Qy U.g201 (Nz U) F xs
theorem KS(U:Jt):XH (Nz U):=U4.stays
theorem wa(U:Jt){x:Qi}:∀F vs,(M0 U) F x vs->vs.length=2:=λ_ _ ⟨_,_,h,_⟩=>h▸rfl
abbrev E3(U:Jt):Fz->Nat->QD->HP:=U4 223<|SZ U
abbrev ZT(U:Jt)(F:Fz)(xs:UV QD):HP:=Qy U.g223 (E3 U) F xs
theorem J6(U:Jt):XH (E3 U):=U4.stays
theorem XR(U:Jt){x:QD}:∀F vs,(SZ U) F x vs->vs.length=48:=λ_ _ ⟨_,_,_,_,_,_,_,_,h,_,_,_,_⟩=>h▸rfl
abbrev xv(U:Jt):Fz->Nat->Qw->HP:=U4 57 SY
abbrev Xq(U:Jt)(F:Fz)(xs:UV Qw):HP:=Qy U.g57 (xv U) F xs
theorem U6(U:Jt):XH (xv U):=U4.stays
theorem xR{x:Qw}:∀F vs,SY F x vs->vs.length=9:=λ_ _ ⟨_,_,_,_,_,_,_,_,_,_,_,_,h,_,_,_,_,_,_⟩=>h▸rfl
abbrev PH(U:Jt):Fz->Nat->UV (Int×QE)->HP:=QW (λx:Int=>(.int .i64 x)) λ_ (x:QE) v=>v=(Jy x)
abbrev KK(U:Jt)(F:Fz)(xs:UV (UV<|Int×QE)):HP:=Qy U.g221 (PH U) F xs
theorem VD(U:Jt):XH (PH U):=X6
abbrev Gg(U:Jt):Fz->Nat->UV (Int×Bool)->HP:=QW (λx:Int=>(.int .i64 x)) λ_ (x:Bool) v=>v=(.bool x)
abbrev Qd(U:Jt)(F:Fz)(xs:UV (UV<|Int×Bool)):HP:=Qy U.g206 (Gg U) F xs
theorem Zl(U:Jt):XH (Gg U):=X6
abbrev PI(U:Jt):Fz->Nat->UV (Int×(H1 Nat))->HP:=QW (λx:Int=>(.int .i64 x)) λF (x:(H1 Nat)) v=>∃(p0:H1 Of) (k0:Unit),v=(.pointer p0)/\ZN U.g210 F p0 x
abbrev Q7(U:Jt)(F:Fz)(xs:UV (UV<|Int×(H1 Nat))):HP:=Qy U.g199 (PI U) F xs
theorem Kk(U:Jt):XH (PI U):=X6
def U7(x:Zi):Do:=.iface 247<|IG x
def XL(x:Zn):Do:=.iface 265<|MP x
def JR(x:Qk):Do:=.iface 59<|MO x
def Qx(U:Jt)(F:Fz)(L:QA):HP:=yf (λq:H1 Of×H1 Of×Nat×H1 Of×Nat×H1 Of×Nat×Nat×Nat=>Ua 123 Kh F q.1 L.rules) λq=>[pc U.g55 (Qg L q.1 () q.2.1 q.2.2.1 q.2.2.2.1 q.2.2.2.2.1 q.2.2.2.2.2.1 q.2.2.2.2.2.2.1 (some q.2.2.2.2.2.2.2.1) () (some q.2.2.2.2.2.2.2.2) ()) 55,Ql 8 (Ex QM) F 98 q.2.1 q.2.2.1<|L.casks,Ql 6 (Ex QO) F 101 q.2.2.2.1 q.2.2.2.2.1<|L.duties,Ql 4 (Ex QR) F 108 q.2.2.2.2.2.1 q.2.2.2.2.2.2.1<|L.stamps,QW (λx:Int=>(.int .i64 x)) (λF (x:QT) v=>∃(p0:H1 Of) (k0:Nat),v=(Zk x p0 k0)/\QG 27 (Ex QN) F p0 k0 x.Draughts) F q.2.2.2.2.2.2.2.1<|L.batches,QW (λx:Int=>(.int .i64 x)) (λ_ (x:Int) v=>v=(.int .i64 x)) F q.2.2.2.2.2.2.2.2<|L.pure]
theorem Gp{m:Mem}(le:F<=F'):Qx U F L m->Qx U F' L m:=fun⟨q,h,hm⟩=>⟨q,h.mono le,Q9 (λ_ h=>h) (Q9 (λ_=>Vx le)<|Q9 (λ_=>Vx le)<|Q9 (λ_=>Vx le)<|Q9 (λ_=>Ky le)<|Q9 (λ_=>Ky le) λ_ h=>h) m hm⟩
theorem _root_.Go.Dec.GL.fu{ops:OF j9}{l0:UV j9}{F3:Fz}{F4:Fz}{F5:Fz}(is:UV Nat)(h0:Ua 123 Kh F p0 L.rules)(l1:F1<=F)(l2:F2<=F)(l3:F3<=F)(l4:F4<=F)(l5:F5<=F)(hp:JG is hs=[pc U.g55 (Qg L p0 () p1 p2 p3 p4 p5 p6 (some p7) () (some p8) ()) 55,Ql 8 (Ex QM) F1 98 p1 p2<|L.casks,Ql 6 (Ex QO) F2 101 p3 p4<|L.duties,Ql 4 (Ex QR) F3 108 p5 p6<|L.stamps,QW (λx:Int=>(.int .i64 x)) (λF (x:QT) v=>∃(p0:H1 Of) (k0:Nat),v=(Zk x p0 k0)/\QG 27 (Ex QN) F p0 k0 x.Draughts) F4 p7<|L.batches,QW (λx:Int=>(.int .i64 x)) (λ_ (x:Int) v=>v=(.int .i64 x)) F5 p8<|L.pure])(k:GL O P ops l0 ks Q (Hd n D S F<|Qx U F L::JV is hs) m r):GL O P ops l0 ks Q (Hd n D S F hs) m r:=GG.dq is (p0,p1,p2,p3,p4,p5,p6,p7,p8) h0 hp (Q9 (λ_ h=>h)<|Q9 (λ_=>Vx l1)<|Q9 (λ_=>Vx l2)<|Q9 (λ_=>Vx l3)<|Q9 (λ_=>Ky l4)<|Q9 (λ_=>Ky l5) λ_ h=>h) k
theorem _root_.Go.Dec.GC.ft{cd:rh}(i:Nat)(hi:hs[i]? =some (Qx U F L))(k:∀(p0:H1 Of) (p1:H1 Of) (p2:Nat) (p3:H1 Of) (p4:Nat) (p5:H1 Of) (p6:Nat) (p7:Nat) (p8:Nat),Ua 123 Kh F p0 L.rules->GC O P cd ks Q (Hd n D S F<|[pc U.g55 (Qg L p0 () p1 p2 p3 p4 p5 p6 (some p7) () (some p8) ()) 55,Ql 8 (Ex QM) F 98 p1 p2<|L.casks,Ql 6 (Ex QO) F 101 p3 p4<|L.duties,Ql 4 (Ex QR) F 108 p5 p6<|L.stamps,QW (λx:Int=>(.int .i64 x)) (λF (x:QT) v=>∃(p0:H1 Of) (k0:Nat),v=(Zk x p0 k0)/\QG 27 (Ex QN) F p0 k0 x.Draughts) F p7<|L.batches,QW (λx:Int=>(.int .i64 x)) (λ_ (x:Int) v=>v=(.int .i64 x)) F p8<|L.pure]++hs.eraseIdx i) m r):GC O P cd ks Q (Hd n D S F hs) m r:=GG.be i hi λq h=>k q.1 q.2.1 q.2.2.1 q.2.2.2.1 q.2.2.2.2.1 q.2.2.2.2.2.1 q.2.2.2.2.2.2.1 q.2.2.2.2.2.2.2.1 q.2.2.2.2.2.2.2.2 h
theorem _root_.Go.Dec.GE.fu{F3:Fz}{F4:Fz}{F5:Fz}(is:UV Nat)(h0:Ua 123 Kh F p0 L.rules)(l1:F1<=F)(l2:F2<=F)(l3:F3<=F)(l4:F4<=F)(l5:F5<=F)(hp:JG is hs=[pc U.g55 (Qg L p0 () p1 p2 p3 p4 p5 p6 (some p7) () (some p8) ()) 55,Ql 8 (Ex QM) F1 98 p1 p2<|L.casks,Ql 6 (Ex QO) F2 101 p3 p4<|L.duties,Ql 4 (Ex QR) F3 108 p5 p6<|L.stamps,QW (λx:Int=>(.int .i64 x)) (λF (x:QT) v=>∃(p0:H1 Of) (k0:Nat),v=(Zk x p0 k0)/\QG 27 (Ex QN) F p0 k0 x.Draughts) F4 p7<|L.batches,QW (λx:Int=>(.int .i64 x)) (λ_ (x:Int) v=>v=(.int .i64 x)) F5 p8<|L.pure])(k:GE O P ks Q (Hd n D S F<|Qx U F L::JV is hs) m r):GE O P ks Q (Hd n D S F hs) m r:=GG.dq is (p0,p1,p2,p3,p4,p5,p6,p7,p8) h0 hp (Q9 (λ_ h=>h)<|Q9 (λ_=>Vx l1)<|Q9 (λ_=>Vx l2)<|Q9 (λ_=>Vx l3)<|Q9 (λ_=>Ky l4)<|Q9 (λ_=>Ky l5) λ_ h=>h) k
def Jw(U:Jt)(F:Fz)(L:QA):HP:=yf (λq:H1 Of×H1 Of×Nat×H1 Of×Nat×H1 Of×Nat×Nat×Nat=>Ua 123 Kh F q.1 L.rules) λq=>[pc U.g55 (Qg L q.1 () q.2.1 q.2.2.1 q.2.2.2.1 q.2.2.2.2.1 q.2.2.2.2.2.1 q.2.2.2.2.2.2.1 (some q.2.2.2.2.2.2.2.1) () (some q.2.2.2.2.2.2.2.2) ()) 55,Iu 8 (Ex QM) F 98 q.2.1 q.2.2.1<|L.casks,Iu 6 (Ex QO) F 101 q.2.2.2.1 q.2.2.2.2.1<|L.duties,Iu 4 (Ex QR) F 108 q.2.2.2.2.2.1 q.2.2.2.2.2.2.1<|L.stamps,QW (λx:Int=>(.int .i64 x)) (λF (x:QT) v=>∃(p0:H1 Of) (k0:Nat),v=(Zk x p0 k0)/\QG 27 (Ex QN) F p0 k0 x.Draughts) F q.2.2.2.2.2.2.2.1<|L.batches,QW (λx:Int=>(.int .i64 x)) (λ_ (x:Int) v=>v=(.int .i64 x)) F q.2.2.2.2.2.2.2.2<|L.pure]
theorem jl{m:Mem}(le:F<=F'):Jw U F L m->Jw U F' L m:=fun⟨q,h,hm⟩=>⟨q,h.mono le,Q9 (λ_ h=>h) (Q9 (λ_=>It le)<|Q9 (λ_=>It le)<|Q9 (λ_=>It le)<|Q9 (λ_=>Ky le)<|Q9 (λ_=>Ky le) λ_ h=>h) m hm⟩
theorem YX{m:Mem}:Qx U F L m->Jw U F L m:=fun⟨q,h,hm⟩=>⟨q,h,Q9 (λ_ h=>h) (Q9 (λ_ h=>.inl h)<|Q9 (λ_ h=>.inl h)<|Q9 (λ_ h=>.inl h)<|Q9 (λ_ h=>h)<|Q9 (λ_ h=>h) λ_ h=>h) m hm⟩
theorem _root_.Go.Dec.GE.aI(is:UV Nat)(h0:Ua 123 Kh F p0 L.rules)(l1:F1<=F)(l2:F2<=F)(hp:JG is hs=[pc U.g55 (Qg L p0 () p1 p2 p3 p4 p5 p6 (some p7) () (some p8) ()) 55,Iu 8 (Ex QM) F 98 p1 p2<|L.casks,Iu 6 (Ex QO) F 101 p3 p4<|L.duties,Iu 4 (Ex QR) F 108 p5 p6<|L.stamps,QW (λx:Int=>(.int .i64 x)) (λF (x:QT) v=>∃(p0:H1 Of) (k0:Nat),v=(Zk x p0 k0)/\QG 27 (Ex QN) F p0 k0 x.Draughts) F1 p7<|L.batches,QW (λx:Int=>(.int .i64 x)) (λ_ (x:Int) v=>v=(.int .i64 x)) F2 p8<|L.pure])(k:GE O P ks Q (Hd n D S F<|Jw U F L::JV is hs) m r):GE O P ks Q (Hd n D S F hs) m r:=GG.dq is (p0,p1,p2,p3,p4,p5,p6,p7,p8) h0 hp (Q9 (λ_ h=>h)<|Q9 (λ_ h=>h)<|Q9 (λ_ h=>h)<|Q9 (λ_ h=>h)<|Q9 (λ_=>Ky l1)<|Q9 (λ_=>Ky l2) λ_ h=>h) k
def GD(U:Jt)(F:Fz)(L:Zg):HP:=yf (λ_:Unit=>True) λ_=>[pc U.g64 (Ux L) 64]
theorem xO{L:Zg}{m:Mem}(_le:F<=F'):GD U F L m->GD U F' L m:=λh=>h
theorem _root_.Go.Dec.GL.sR{ops:OF j9}{l0:UV j9}{L:Zg}(is:UV Nat)(hp:JG is hs=[pc U.g64 (Ux L) 64])(k:GL O P ops l0 ks Q (Hd n D S F<|GD U F L::JV is hs) m r):GL O P ops l0 ks Q (Hd n D S F hs) m r:=GG.dq is () trivial hp (Q9 (λ_ h=>h) λ_ h=>h) k
theorem _root_.Go.Dec.GC.an{cd:rh}{L:Zg}(i:Nat)(hi:hs[i]? =some (GD U F L))(k:GC O P cd ks Q (Hd n D S F<|[pc U.g64 (Ux L) 64]++hs.eraseIdx i) m r):GC O P cd ks Q (Hd n D S F hs) m r:=GG.be i hi λ_ _=>k
theorem _root_.Go.Dec.GE.sR{L:Zg}(is:UV Nat)(hp:JG is hs=[pc U.g64 (Ux L) 64])(k:GE O P ks Q (Hd n D S F<|GD U F L::JV is hs) m r):GE O P ks Q (Hd n D S F hs) m r:=GG.dq is () trivial hp (Q9 (λ_ h=>h) λ_ h=>h) k
theorem Fj:Uz Tryz.prog 3 1 (Ex<|KJ .i64):=.ex (λ_=>rfl) (λ_=>rfl) Tryz.sizeOf3 ⟨_,Tryz.typeInfo3,by decide+kernel,by decide+kernel⟩ ⟨_,Tryz.zeroValue3,rfl⟩
theorem qC:Uz Tryz.prog 98 8 (Ex QM):=.ex (λ_=>rfl) (λ_=>rfl) Tryz.sizeOf98 ⟨_,Tryz.typeInfo98,by decide+kernel,by decide+kernel⟩ ⟨_,Tryz.zeroValue98,rfl⟩
theorem EP:Uz Tryz.prog 101 6 (Ex QO):=.ex (λ_=>rfl) (λ_=>rfl) Tryz.sizeOf101 ⟨_,Tryz.typeInfo101,by decide+kernel,by decide+kernel⟩ ⟨_,Tryz.zeroValue101,rfl⟩
theorem EO:Uz Tryz.prog 108 4 (Ex QR):=.ex (λ_=>rfl) (λ_=>rfl) Tryz.sizeOf108 ⟨_,Tryz.typeInfo108,by decide+kernel,by decide+kernel⟩ ⟨_,Tryz.zeroValue108,rfl⟩
theorem Xi:Uz Tryz.prog 112 2 (Ex QY):=.ex (λ_=>rfl) (λ_=>rfl) Tryz.sizeOf112 ⟨_,Tryz.typeInfo112,by decide+kernel,by decide+kernel⟩ ⟨_,Tryz.zeroValue112,rfl⟩
theorem zF:Uz Tryz.prog 128 2 (Ex Zb):=.ex (λ_=>rfl) (λ_=>rfl) Tryz.sizeOf128 ⟨_,Tryz.typeInfo128,by decide+kernel,by decide+kernel⟩ ⟨_,Tryz.zeroValue128,rfl⟩
theorem zE:Uz Tryz.prog 135 24 (Ex Qu):=.ex (λ_=>rfl) (λ_=>rfl) Tryz.sizeOf135 ⟨_,Tryz.typeInfo135,by decide+kernel,by decide+kernel⟩ ⟨_,Tryz.zeroValue135,rfl⟩
theorem zD:Uz Tryz.prog 144 27 (Ex QN):=.ex (λ_=>rfl) (λ_=>rfl) Tryz.sizeOf144 ⟨_,Tryz.typeInfo144,by decide+kernel,by decide+kernel⟩ ⟨_,Tryz.zeroValue144,rfl⟩
theorem v7:Uz Tryz.prog 161 3 (Ex KA):=.ex (λ_=>rfl) (λ_=>rfl) Tryz.sizeOf161 ⟨_,Tryz.typeInfo161,by decide+kernel,by decide+kernel⟩ ⟨_,Tryz.zeroValue161,rfl⟩
theorem zB:Uz Tryz.prog 226 5 (Ex ZJ):=.ex (λ_=>rfl) (λ_=>rfl) Tryz.sizeOf226 ⟨_,Tryz.typeInfo226,by decide+kernel,by decide+kernel⟩ ⟨_,Tryz.zeroValue226,rfl⟩
theorem EN:Uz Tryz.prog 227 1 (xP 2<|Ex QY):=.mk (λ_ _ _ ⟨_,_,h,_⟩=>h▸rfl) (λ_ _ _ ⟨_,_,h,_⟩=>h▸rfl) (λ_ _ _ _ le ⟨q0,q1,h,h0⟩=>⟨q0,q1,h,h0.mono le⟩) Tryz.sizeOf227 ⟨_,Tryz.typeInfo227,by decide+kernel,by decide+kernel⟩ ⟨_,Tryz.zeroValue227,rfl⟩
def Tryz.bJ:Go.Shelf.Ren:=⟨fun | 6=>108 | 8=>142 | 9=>143 | 11=>195 | 13=>197 | 12=>196 | 23=>231 | 24=>199 | 14=>222 | 15=>223 | 16=>224 | 17=>225 | 18=>226 | 19=>227 | 20=>228 | 21=>229 | 22=>230 | 25=>241 | 26=>242 | 27=>243 | 28=>244 | 29=>245 | 30=>246 | 31=>247 | n=>n,fun | 26=>3 | 28=>204 | 24=>34 | 0=>0 | 3=>3 | 37=>261 | 48=>281 | 50=>256 | 4=>4 | 40=>295 | 39=>294 | 45=>93 | 5=>5 | 9=>9 | 51=>307 | 55=>230 | 57=>314 | 58=>315 | 33=>75 | n=>n,fun | n=>n⟩
theorem Tryz.dS:Go.Proofs.SlLaysZI.n6 Tryz.prog Tryz.bJ:={
 mixed:=by kernel_rfl
 f6:=⟨Tryz.f108.name,by decide,Tryz.func108.trans<|congrArg some<|by kernel_rfl⟩
 f8:=⟨Tryz.f142.name,by decide,Tryz.func142.trans<|congrArg some<|by kernel_rfl⟩
 f11:=⟨Tryz.f195.name,by decide,Tryz.func195.trans<|congrArg some<|by kernel_rfl⟩
 t0:=Tryz.underlying0
 a0:=Tryz.isAgg0
 z0:=Tryz.sizeOf0
 v0:=Tryz.zeroValue0
 t24:=Tryz.underlying34
 a24:=Tryz.isAgg34
 z24:=Tryz.sizeOf34
 v24:=Tryz.zeroValue34
 t26:=Tryz.underlying3
 a26:=Tryz.isAgg3
 z26:=Tryz.sizeOf3
 v26:=Tryz.zeroValue3
 t28:=Tryz.underlying204
 a28:=Tryz.isAgg204
 z28:=Tryz.sizeOf204
 v28:=Tryz.zeroValue204
 i26:=by kernel_rfl}
def Tryz.cR:Go.Shelf.Ren:=⟨fun | 5=>143 | 8=>197 | 7=>196 | 19=>231 | 20=>199 | 10=>222 | 11=>223 | 12=>224 | 13=>225 | 14=>226 | 15=>227 | 16=>228 | 17=>229 | 18=>230 | 30=>241 | 31=>242 | 32=>243 | 33=>244 | 34=>245 | 35=>246 | 40=>247 | n=>n,fun | 23=>34 | 25=>3 | 3=>3 | 32=>261 | 22=>34 | 0=>0 | 44=>281 | 46=>256 | 4=>4 | 36=>295 | 35=>294 | 41=>93 | 5=>5 | 9=>9 | 53=>307 | 57=>230 | 63=>314 | 64=>315 | n=>n,fun | n=>n⟩
theorem Tryz.sH:Go.Proofs.SlLaysM.n5 Tryz.prog Tryz.cR:={
 mixed:=by kernel_rfl
 f5:=⟨Tryz.f143.name,by decide,Tryz.func143.trans<|congrArg some<|by kernel_rfl⟩
 f7:=⟨Tryz.f196.name,by decide,Tryz.func196.trans<|congrArg some<|by kernel_rfl⟩
 f8:=Tryz.func197.trans<|congrArg some<|by kernel_rfl
 f10:=⟨Tryz.f222.name,by decide,Tryz.func222.trans<|congrArg some<|by kernel_rfl⟩
 f11:=⟨Tryz.f223.name,by decide,Tryz.func223.trans<|congrArg some<|by kernel_rfl⟩
 f12:=⟨Tryz.f224.name,by decide,Tryz.func224.trans<|congrArg some<|by kernel_rfl⟩
 f13:=⟨Tryz.f225.name,by decide,Tryz.func225.trans<|congrArg some<|by kernel_rfl⟩
 f14:=⟨Tryz.f226.name,by decide,Tryz.func226.trans<|congrArg some<|by kernel_rfl⟩
 f15:=⟨Tryz.f227.name,by decide,Tryz.func227.trans<|congrArg some<|by kernel_rfl⟩
 f16:=⟨Tryz.f228.name,by decide,Tryz.func228.trans<|congrArg some<|by kernel_rfl⟩
 f17:=⟨Tryz.f229.name,by decide,Tryz.func229.trans<|congrArg some<|by kernel_rfl⟩
 f18:=⟨Tryz.f230.name,by decide,Tryz.func230.trans<|congrArg some<|by kernel_rfl⟩
 f19:=Tryz.func231.trans<|congrArg some<|by kernel_rfl
 f20:=Tryz.func199.trans<|congrArg some<|by kernel_rfl
 f30:=⟨Tryz.f241.name,by decide,Tryz.func241.trans<|congrArg some<|by kernel_rfl⟩
 f31:=Tryz.func242.trans<|congrArg some<|by kernel_rfl
 f32:=Tryz.func243.trans<|congrArg some<|by kernel_rfl
 f33:=⟨Tryz.f244.name,by decide,Tryz.func244.trans<|congrArg some<|by kernel_rfl⟩
 f34:=⟨Tryz.f245.name,by decide,Tryz.func245.trans<|congrArg some<|by kernel_rfl⟩
 f35:=⟨Tryz.f246.name,by decide,Tryz.func246.trans<|congrArg some<|by kernel_rfl⟩
 f40:=⟨Tryz.f247.name,by decide,Tryz.func247.trans<|congrArg some<|by kernel_rfl⟩
 t0:=Tryz.underlying0
 a0:=Tryz.isAgg0
 z0:=Tryz.sizeOf0
 v0:=Tryz.zeroValue0
 t3:=Tryz.underlying3
 a3:=Tryz.isAgg3
 z3:=Tryz.sizeOf3
 v3:=Tryz.zeroValue3
 t4:=Tryz.underlying4
 a4:=Tryz.isAgg4
 z4:=Tryz.sizeOf4
 v4:=Tryz.zeroValue4
 t5:=Tryz.underlying5
 a5:=Tryz.isAgg5
 z5:=Tryz.sizeOf5
 v5:=Tryz.zeroValue5
 t9:=Tryz.underlying9
 a9:=Tryz.isAgg9
 z9:=Tryz.sizeOf9
 v9:=Tryz.zeroValue9
 t22:=Tryz.underlying34
 a22:=Tryz.isAgg34
 z22:=Tryz.sizeOf34
 v22:=Tryz.zeroValue34
 t23:=Tryz.underlying34
 a23:=Tryz.isAgg34
 z23:=Tryz.sizeOf34
 v23:=Tryz.zeroValue34
 t25:=Tryz.underlying3
 a25:=Tryz.isAgg3
 z25:=Tryz.sizeOf3
 v25:=Tryz.zeroValue3
 t32:=Tryz.underlying261
 a32:=Tryz.isAgg261
 z32:=Tryz.sizeOf261
 v32:=Tryz.zeroValue261
 t35:=Tryz.underlying294
 a35:=Tryz.isAgg294
 z35:=Tryz.sizeOf294
 v35:=Tryz.zeroValue294
 t36:=Tryz.underlying295
 a36:=Tryz.isAgg295
 z36:=Tryz.sizeOf295
 v36:=Tryz.zeroValue295
 t41:=Tryz.underlying93
 a41:=Tryz.isAgg93
 z41:=Tryz.sizeOf93
 v41:=Tryz.zeroValue93
 t44:=Tryz.underlying281
 a44:=Tryz.isAgg281
 z44:=Tryz.sizeOf281
 v44:=Tryz.zeroValue281
 t46:=Tryz.underlying256
 a46:=Tryz.isAgg256
 z46:=Tryz.sizeOf256
 v46:=Tryz.zeroValue256
 t53:=Tryz.underlying307
 a53:=Tryz.isAgg307
 z53:=Tryz.sizeOf307
 v53:=Tryz.zeroValue307
 t57:=Tryz.underlying230
 a57:=Tryz.isAgg230
 z57:=Tryz.sizeOf230
 v57:=Tryz.zeroValue230
 t63:=Tryz.underlying314
 a63:=Tryz.isAgg314
 z63:=Tryz.sizeOf314
 v63:=Tryz.zeroValue314
 t64:=Tryz.underlying315
 a64:=Tryz.isAgg315
 z64:=Tryz.sizeOf315
 v64:=Tryz.zeroValue315}
theorem DL(m:Nat):Go.Proofs.AnyZI.SortsIn Tryz.prog Tryz.bJ Fence.wide m:=⟨λblk off cap ss W hH hblk hsz=>pW.2<|Go.Proofs.AnyM.slices_Sort_int Tryz.sH blk off cap ss W hH hblk hsz,λp cap W=>pW.2<|Go.Proofs.AnyM.slices_Sort_int_none Tryz.sH p cap W⟩
def Tryz.dw:Go.Shelf.Ren:=⟨fun | 7=>154 | 10=>204 | n=>n,fun | 23=>199 | 26=>3 | 3=>198 | 28=>204 | 0=>0 | 27=>203 | 33=>75 | 4=>4 | n=>n,fun | n=>n⟩
theorem Tryz.cK:Go.Proofs.SlLaysZI.n7 Tryz.prog Tryz.dw:={
 mixed:=by kernel_rfl
 f7:=⟨Tryz.f154.name,by decide,Tryz.func154.trans<|congrArg some<|by kernel_rfl⟩
 f10:=⟨Tryz.f204.name,by decide,Tryz.func204.trans<|congrArg some<|by kernel_rfl⟩
 t0:=Tryz.underlying0
 a0:=Tryz.isAgg0
 z0:=Tryz.sizeOf0
 v0:=Tryz.zeroValue0
 t4:=Tryz.underlying4
 a4:=Tryz.isAgg4
 z4:=Tryz.sizeOf4
 v4:=Tryz.zeroValue4
 t23:=Tryz.underlying199
 a23:=Tryz.isAgg199
 z23:=Tryz.sizeOf199
 v23:=Tryz.zeroValue199
 t26:=Tryz.underlying3
 a26:=Tryz.isAgg3
 z26:=Tryz.sizeOf3
 v26:=Tryz.zeroValue3
 t27:=Tryz.underlying203
 a27:=Tryz.isAgg203
 z27:=Tryz.sizeOf203
 v27:=Tryz.zeroValue203
 t28:=Tryz.underlying204
 a28:=Tryz.isAgg204
 z28:=Tryz.sizeOf204
 v28:=Tryz.zeroValue204
 t33:=Tryz.underlying75
 a33:=Tryz.isAgg75
 z33:=Tryz.sizeOf75
 v33:=Tryz.zeroValue75}
theorem kZ:KeysOf Tryz.prog 154 204 199:=λmb W=>(pW (n:=5)).1<|mQ Tryz.cK Fence.wide 5 trivial rfl mb W
theorem N4:FN Tryz.prog 108 204 3 3:=by
 refine⟨λb nn D Bm w hBm hm hown hsz=> ?_,λBm w hBm hm=> ?_⟩
 ·have hseq:SeqGives Fence.wide 2 Tryz.prog 204 #[.pointer<|some ⟨Bm,0,none⟩] encZ (λss=>ss.Perm<|intKeys D) (Maps.size D) w:=mE (ρ:=Tryz.dw) {Tryz.cK with} Fence.wide _ trivial rfl (by omega) Bm b nn D w hBm hm hown;have h:=ra Tryz.dS Fence.wide 5 trivial trivial trivial trivial rfl (by omega) (DL _) Tryz.call143 204 #[.pointer<|some ⟨Bm,0,none⟩] trivial Tryz.call204 _ _ (re hsz (by unfold maxLen;omega)) (by omega) _ hseq;exact(pW (n:=5)).1 h
 ·have hseq:SeqGives Fence.wide 2 Tryz.prog 204 #[.pointer<|some ⟨Bm,0,none⟩] encZ (λss:UV Int=>ss=[]) 0 w:=np (ρ:=Tryz.dw) {Tryz.cK with} Fence.wide _ trivial rfl Bm w hBm hm;have h:=ra Tryz.dS Fence.wide 5 trivial trivial trivial trivial rfl (by omega) (DL _) Tryz.call143 204 #[.pointer<|some ⟨Bm,0,none⟩] trivial Tryz.call204 _ 0 (mL _) (by omega) _ hseq;refine((pW (n:=5)).1 h).mono ?_;rintro e w' ⟨v,ss,rfl,rfl,hrow,hnil,hb⟩;obtain rfl:v= .slice none 0 0:=hnil.2 rfl;exact⟨rfl,hb⟩
def Tryz.dx:Go.Shelf.Ren:=⟨fun | 7=>118 | 10=>161 | n=>n,fun | 23=>221 | 26=>3 | 3=>226 | 28=>204 | 0=>0 | 27=>203 | 33=>75 | 4=>4 | n=>n,fun | n=>n⟩
theorem Tryz.cL:Go.Proofs.SlLaysZI.n7 Tryz.prog Tryz.dx:={
 mixed:=by kernel_rfl
 f7:=⟨Tryz.f118.name,by decide,Tryz.func118.trans<|congrArg some<|by kernel_rfl⟩
 f10:=⟨Tryz.f161.name,by decide,Tryz.func161.trans<|congrArg some<|by kernel_rfl⟩
 t0:=Tryz.underlying0
 a0:=Tryz.isAgg0
 z0:=Tryz.sizeOf0
 v0:=Tryz.zeroValue0
 t4:=Tryz.underlying4
 a4:=Tryz.isAgg4
 z4:=Tryz.sizeOf4
 v4:=Tryz.zeroValue4
 t23:=Tryz.underlying221
 a23:=Tryz.isAgg221
 z23:=Tryz.sizeOf221
 v23:=Tryz.zeroValue221
 t26:=Tryz.underlying3
 a26:=Tryz.isAgg3
 z26:=Tryz.sizeOf3
 v26:=Tryz.zeroValue3
 t27:=Tryz.underlying203
 a27:=Tryz.isAgg203
 z27:=Tryz.sizeOf203
 v27:=Tryz.zeroValue203
 t28:=Tryz.underlying204
 a28:=Tryz.isAgg204
 z28:=Tryz.sizeOf204
 v28:=Tryz.zeroValue204
 t33:=Tryz.underlying75
 a33:=Tryz.isAgg75
 z33:=Tryz.sizeOf75
 v33:=Tryz.zeroValue75}
theorem ka:KeysOf Tryz.prog 118 161 221:=λmb W=>(pW (n:=5)).1<|mQ Tryz.cL Fence.wide 5 trivial rfl mb W
theorem N5:FN Tryz.prog 108 161 3 3:=by
 refine⟨λb nn D Bm w hBm hm hown hsz=> ?_,λBm w hBm hm=> ?_⟩
 ·have hseq:SeqGives Fence.wide 2 Tryz.prog 161 #[.pointer<|some ⟨Bm,0,none⟩] encZ (λss=>ss.Perm<|intKeys D) (Maps.size D) w:=mE (ρ:=Tryz.dx) {Tryz.cL with} Fence.wide _ trivial rfl (by omega) Bm b nn D w hBm hm hown;have h:=ra Tryz.dS Fence.wide 5 trivial trivial trivial trivial rfl (by omega) (DL _) Tryz.call143 161 #[.pointer<|some ⟨Bm,0,none⟩] trivial Tryz.call161 _ _ (re hsz (by unfold maxLen;omega)) (by omega) _ hseq;exact(pW (n:=5)).1 h
 ·have hseq:SeqGives Fence.wide 2 Tryz.prog 161 #[.pointer<|some ⟨Bm,0,none⟩] encZ (λss:UV Int=>ss=[]) 0 w:=np (ρ:=Tryz.dx) {Tryz.cL with} Fence.wide _ trivial rfl Bm w hBm hm;have h:=ra Tryz.dS Fence.wide 5 trivial trivial trivial trivial rfl (by omega) (DL _) Tryz.call143 161 #[.pointer<|some ⟨Bm,0,none⟩] trivial Tryz.call161 _ 0 (mL _) (by omega) _ hseq;refine((pW (n:=5)).1 h).mono ?_;rintro e w' ⟨v,ss,rfl,rfl,hrow,hnil,hb⟩;obtain rfl:v= .slice none 0 0:=hnil.2 rfl;exact⟨rfl,hb⟩
def Tryz.dy:Go.Shelf.Ren:=⟨fun | 7=>109 | 10=>144 | n=>n,fun | 23=>206 | 26=>3 | 3=>4 | 28=>204 | 0=>0 | 27=>203 | 33=>75 | 4=>4 | n=>n,fun | n=>n⟩
theorem Tryz.cM:Go.Proofs.SlLaysZI.n7 Tryz.prog Tryz.dy:={
 mixed:=by kernel_rfl
 f7:=⟨Tryz.f109.name,by decide,Tryz.func109.trans<|congrArg some<|by kernel_rfl⟩
 f10:=⟨Tryz.f144.name,by decide,Tryz.func144.trans<|congrArg some<|by kernel_rfl⟩
 t0:=Tryz.underlying0
 a0:=Tryz.isAgg0
 z0:=Tryz.sizeOf0
 v0:=Tryz.zeroValue0
 t4:=Tryz.underlying4
 a4:=Tryz.isAgg4
 z4:=Tryz.sizeOf4
 v4:=Tryz.zeroValue4
 t23:=Tryz.underlying206
 a23:=Tryz.isAgg206
 z23:=Tryz.sizeOf206
 v23:=Tryz.zeroValue206
 t26:=Tryz.underlying3
 a26:=Tryz.isAgg3
 z26:=Tryz.sizeOf3
 v26:=Tryz.zeroValue3
 t27:=Tryz.underlying203
 a27:=Tryz.isAgg203
 z27:=Tryz.sizeOf203
 v27:=Tryz.zeroValue203
 t28:=Tryz.underlying204
 a28:=Tryz.isAgg204
 z28:=Tryz.sizeOf204
 v28:=Tryz.zeroValue204
 t33:=Tryz.underlying75
 a33:=Tryz.isAgg75
 z33:=Tryz.sizeOf75
 v33:=Tryz.zeroValue75}
theorem LO:KeysOf Tryz.prog 109 144 206:=λmb W=>(pW (n:=5)).1<|mQ Tryz.cM Fence.wide 5 trivial rfl mb W
theorem SV:FN Tryz.prog 108 144 3 3:=by
 refine⟨λb nn D Bm w hBm hm hown hsz=> ?_,λBm w hBm hm=> ?_⟩
 ·have hseq:SeqGives Fence.wide 2 Tryz.prog 144 #[.pointer<|some ⟨Bm,0,none⟩] encZ (λss=>ss.Perm<|intKeys D) (Maps.size D) w:=mE (ρ:=Tryz.dy) {Tryz.cM with} Fence.wide _ trivial rfl (by omega) Bm b nn D w hBm hm hown;have h:=ra Tryz.dS Fence.wide 5 trivial trivial trivial trivial rfl (by omega) (DL _) Tryz.call143 144 #[.pointer<|some ⟨Bm,0,none⟩] trivial Tryz.call144 _ _ (re hsz (by unfold maxLen;omega)) (by omega) _ hseq;exact(pW (n:=5)).1 h
 ·have hseq:SeqGives Fence.wide 2 Tryz.prog 144 #[.pointer<|some ⟨Bm,0,none⟩] encZ (λss:UV Int=>ss=[]) 0 w:=np (ρ:=Tryz.dy) {Tryz.cM with} Fence.wide _ trivial rfl Bm w hBm hm;have h:=ra Tryz.dS Fence.wide 5 trivial trivial trivial trivial rfl (by omega) (DL _) Tryz.call143 144 #[.pointer<|some ⟨Bm,0,none⟩] trivial Tryz.call144 _ 0 (mL _) (by omega) _ hseq;refine((pW (n:=5)).1 h).mono ?_;rintro e w' ⟨v,ss,rfl,rfl,hrow,hnil,hb⟩;obtain rfl:v= .slice none 0 0:=hnil.2 rfl;exact⟨rfl,hb⟩
abbrev JK:=UV<|UV<|Int×QE
abbrev ZP:=UV<|UV<|Int×Bool
abbrev JQ:=UV<|UV<|Int×(H1 Nat)
def Uf(F:Fz)(p:x4)(c:UV Do×UV Do)(M:((QA×Unit×(UV Int))->H1 (Out Qk<|(UV So)×QA))):Prop:=∀U:Jt,AS Tryz.prog JR F p c (fun(x:(QA×Unit×(UV Int))) F vs=>∃(p0:H1 Of) (k0:Nat),vs=[(vP U.g55 0),(vS p0 x.2.2 k0)]/\QG 1 (Ex<|KJ .i64) F p0 k0 x.2.2) (λF (x:(QA×Unit×(UV Int)))=>[Qx U F x.1]) (fun(r:(UV So)×QA) _ v=>v=(.string<|bs r.1)) (λF (x:(QA×Unit×(UV Int))) (r:(UV So)×QA)=>[Jw U F r.2]) M
theorem Uf.mono{p:x4}{c:UV Do×UV Do}{M:((QA×Unit×(UV Int))->H1 (Out Qk<|(UV So)×QA))}(h:Uf F p c M)(le:F<=F'):Uf F' p c M:=λU=>(h U).mono le
abbrev FO(U:Jt)(F:Fz)(p:x4)(c:UV Do×UV Do)(M:(((UV QD)×(UV<|UV<|Int×QE)×(UV<|UV<|Int×Bool)×QP)->H1 (Out Zn<|(UV QD)×(UV<|UV<|Int×QE)×(UV<|UV<|Int×Bool)))):Prop:=AS Tryz.prog XL F p c (fun(x:((UV QD)×(UV<|UV<|Int×QE)×(UV<|UV<|Int×Bool)×QP)) _ vs=>vs=[(JE x.2.2.2)]) (λF (x:((UV QD)×(UV<|UV<|Int×QE)×(UV<|UV<|Int×Bool)×QP))=>[ZT U F x.1,KK U F x.2.1,Qd U F x.2.2.1]) (fun(r:(UV QD)×(UV<|UV<|Int×QE)×(UV<|UV<|Int×Bool)) _ v=>v= .tuple #[]) (λF (x:((UV QD)×(UV<|UV<|Int×QE)×(UV<|UV<|Int×Bool)×QP)) (r:(UV QD)×(UV<|UV<|Int×QE)×(UV<|UV<|Int×Bool))=>[ZT U F r.1,KK U F r.2.1,Qd U F r.2.2]) M
abbrev Cs(U:Jt)(F:Fz)(p:x4)(c:UV Do×UV Do)(M:(((UV QK)×(UV Qi)×(UV<|UV<|Int×Bool)×(UV<|UV<|Int×(H1 Nat))×(H1 Nat)×QF)->H1 (Out Zi<|(UV QK)×(UV<|UV<|Int×Bool)×(UV<|UV<|Int×(H1 Nat))))):Prop:=AS Tryz.prog U7 F p c (fun(x:((UV QK)×(UV Qi)×(UV<|UV<|Int×Bool)×(UV<|UV<|Int×(H1 Nat))×(H1 Nat)×QF)) F vs=>∃(p0:H1 Of) (k0:Unit),vs=[(.pointer p0),(JF x.2.2.2.2.2)]/\ZN U.g201 F p0 x.2.2.2.2.1) (λF (x:((UV QK)×(UV Qi)×(UV<|UV<|Int×Bool)×(UV<|UV<|Int×(H1 Nat))×(H1 Nat)×QF))=>[Qr U F x.1,Q4 U F x.2.1,Qd U F x.2.2.1,Q7 U F x.2.2.2.1]) (fun(r:(UV QK)×(UV<|UV<|Int×Bool)×(UV<|UV<|Int×(H1 Nat))) _ v=>v= .tuple #[]) (λF (x:((UV QK)×(UV Qi)×(UV<|UV<|Int×Bool)×(UV<|UV<|Int×(H1 Nat))×(H1 Nat)×QF)) (r:(UV QK)×(UV<|UV<|Int×Bool)×(UV<|UV<|Int×(H1 Nat)))=>[Qr U F r.1,Q4 U F x.2.1,Qd U F r.2.1,Q7 U F r.2.2]) M
end
section
open Go.Dec Go.Proofs.Tryz Go.Shelf Go.RowKit Go.Maps Go.Sort
set_option maxRecDepth 100000
set_option maxHeartbeats 4000000
variable{σ ε:Type}
def Ku(y:(UV Int)->σ->H1 (Out ε<|σ×Bool))(c1:(UV Int))(c7:Int)(s10:Int×σ):H1 (UE (Int×σ)<|(Out ε σ) ⊕ (Out ε σ)):=if(decide<|s10.1 < (c1.length:Int)) then((ZW c1 s10.1 c1.length).bind λl14=>QU (Jc c7 (l14.length:Int)) λend_19=>(ZW c1 s10.1<|ZA<|s10.1+end_19).bind λl21=>Qt (y l21 s10.2) (λq=>some<|.done<|.inr<|.pan q) λp26=>if(!p26.2) then(some<|.done<|.inr<|.ok p26.1) else(QU (ZA<|s10.1+c7) λi31=>some<|.next (i31,p26.1))) else(some<|.done<|.inl<|.ok s10.2)
def UX(y:(UV Int)->σ->H1 (Out ε<|σ×Bool))(c1:(UV Int))(c7:Int)(s0:σ):H1 (Out ε σ):=(ZR (Ku y c1 c7) (0,s0)).bind λb0=>match b0 with | .inl b33=>(some b33) | .inr b33=>(some b33)
theorem Bw(F0:Fz)(ε σ:Type)(penc:ε->Do)(ly:Nat)(Y:σ->Fz->HP)(Z:ε->Fz->HP)(y:(UV Int)->σ->H1 (Out ε<|σ×Bool))(hy:TK prog penc ly F0 (fun(x:(UV Int)) F vs=>∃(p0:H1 Of) (k0:Nat),vs=[(vS p0 x k0)]/\QG 1 (Ex<|KJ .i64) F p0 k0 x) Y Z y)(c1:(UV Int))(b2:Nat)(p4:H1 Of)(k5:Nat)(hb3:F0.mem b2=some (.cells #[(vS p4 c1 k5)] 34))(h6:QG 1 (Ex<|KJ .i64) F0 p4 k5 c1)(c7:Int)(b8:Nat)(hb9:F0.mem b8=some (.cells #[(vI c7)] 3))(s0:σ):xu prog penc 91 #[(.func (.yield ly) #[] #[]),(vP b2 0),(vP b8 0)] F0 (Y s0 F0) (UX y c1 c7 s0) Y Z:=by
 refine xu.enter func91 J ntmps91 J λr R=> ?_;unfold UX;refine .w 6 (.fN (.p [0,1,2,4] J)<|.loop (fun(s10:Int×σ) a w=>∃(F11:Fz),F0<=F11/\Hd 31 [] [(0,(.func (.yield ly) #[] #[])),(1,(vP b2 0)),(2,(vP b8 0)),(4,(vI s10.1))] F11 [Y s10.2 F11,R] a w) (λb0 e a w=>match b0 with | .inl (.ok b33)=>e= .exit 0/\∃(F34:Fz),F0<=F34/\Hd 31 [] [] F34 [Y b33 F34,R] a w | .inl (.pan q)=>False | .inr (.ok b33)=>e= .ret/\∃(F36:Fz),F0<=F36/\Hd 31 [] [] F36 [Y b33 F36,R] a w | .inr (.pan q)=>e= .panic (Sy penc q)/\∃(F36:Fz),F0<=F36/\Hd 31 [] [] F36 [Z q F36,R] a w) ?_ ?_ ?_)
 ·exact λa w h=>⟨F0,Fz.r,h.1.sub<|.k J,h.2⟩
 ·intro s10 ctl;refine GC.ex λa w ⟨F11,l12,hA⟩=>⟨_,hA,?_⟩;unfold Ku;refine .w 4<|.U J gd J (l12.mem _ _ hb3) J<|.fw J J UQ J<|.w 3<|.i J (λhb13=> ?_) λhb13=> ?_
  ·refine .w 5<|.fN (.p [0,1,2,4] J)<|.fc 7 Qc (by kernel_rfl)<|.U J V3 J (l12.mem _ _ hb9) J<|.U J gd J (l12.mem _ _ hb3) J<|.m J J<|.dk J UQ W3 (h6.mono l12) J J λl14 p15 k16 e17 h18=>.fw J J UQ J<|.min2 J J J<|.fe J J λend_19 e20=>.fp<|.w 5<|.U J gd J (l12.mem _ _ hb3) J<|.w 7<|.cr J UQ W3 (h6.mono l12) J J J J λl21 p22 k23 e24 h25=>.tL J hy J J ⟨p22,k23,J,h25⟩ (i:=0) J l12 Fz.r (λp26 F27 _ l28=>.w 3<|.i J (λhb30=> ?_) λhb30=> ?_) λq F27 l28 hq a w hA=>Q5.pan (λa w h=>⟨J,F27,(Fz.t l12 l28),h.1.sub<|.k J,h.2⟩) hq a w hA
   ·refine .dC<|Q5.ret λa w h=>⟨J,F27,(Fz.t l12 l28),h.1.sub<|.k J,h.2⟩
   ·refine .w 5<|.U J V3 J ((Fz.t l12 l28).mem _ _ hb9) J<|.add J J J<|.fe J J λi31 e32=>.n ?_;exact .n<|Q5.norm λa w h=>⟨F27,(Fz.t l12 l28),h.1.sub<|.k J,h.2⟩
  ·refine .fZ J<|Q5.exit λa w h=>⟨J,F11,l12,h.1.sub<|.k J,h.2⟩
 ·intro z hb0 hk e a w hD;rcases z with(z | q) | (z | q)
  ·obtain⟨rfl,F1,l1,hA⟩:=hD;exact ZC J<|GE.app (GE.nil<|Mu results91 .n l1) hk a w hA
  ·exact hD.elim
  ·obtain⟨rfl,F1,l1,hA⟩:=hD;exact Jx<|Mu results91 .n l1 hk a w hA
  ·obtain⟨rfl,F1,l1,hA⟩:=hD;exact K0<|kN l1 hk a w hA
def CU{α:Type}(n:Nat)(l:UV α):Nat->Nat->UV (UV α)
 | 0,_=>[]
 | d+1,a=>if a < l.length then(l.drop a).take n::CU n l d (a+n) else[]
def Uq(c1:(UV Int))(c7:Int):H1 (UV<|UV Int):=if 0 < c7/\c7<=1000000/\c1.length<=1000000000000 then some (CU c7.toNat c1 c1.length 0) else none
theorem Ng{y:(UV Int)->σ->H1 (Out ε<|σ×Bool)}{l:UV Int}{n:Nat}(hn:0 < n)(hn2:n<=1000000)(hl:l.length<=1000000000000):∀(d a:Nat) (s:σ) (r:Out ε σ),l.length<=a+d->a<=l.length+n->H8 y (CU n l d a) s=some r->
  ZR (Ku y l (n:Int)) ((a:Int),s)=some (.inl r)∨ZR (Ku y l (n:Int)) ((a:Int),s)=some (.inr r)
 | 0,a,s,r,hk,_,h=>by
  simp only[CU,H8,BY] at h
  subst h;left;rw[ZI];have:¬a < l.length:=by omega
  simp[Ku,this]
 | d+1,a,s,r,hk,ha,h=>by
  by_cases hlt:a < l.length
  ·simp only[CU,AT hlt,H8] at h
   have hs0:ZW l (a:Int) (l.length:Int)=some (l.drop a):=by
    unfold ZW;rw[AT<|by omega];simp only[ph];rw[s4<|by simp]
   have hw:ZA ((a:Int)+n)=((a+n:Nat):Int):=by rw[Qp (by omega)<|by omega];omega
   have he:Jc (n:Int) ((l.drop a).length:Int)=((min n (l.length - a):Nat):Int):=by
    unfold Jc;simp only[rl];split<;>omega
   have hs:ZW l (a:Int) (ZA<|(a:Int)+((min n (l.length - a):Nat):Int))=some ((l.drop a).take n):=by
    rw[Qp (by omega)<|by omega];unfold ZW;rw[AT<|by omega];congr 1;have e1:((a:Int)+((min n (l.length - a):Nat):Int)).toNat - (a:Int).toNat=min n (l.length - a):=by omega
    rw[e1,ph,<-rl,<-List.take_eq_take_min]
   rw[ZI]
   have hb:Ku y l (n:Int) ((a:Int),s)=Qt (y ((l.drop a).take n) s) (λq=>some<|.done<|.inr<|.pan q) λp26=>if(!p26.2) then(some<|.done<|.inr<|.ok p26.1) else some (.next (((a+n:Nat):Int),p26.1)):=by
    show(if decide ((a:Int) < (l.length:Int)) then _ else _)=_;rw[AT<|by simpa using hlt];rw[hs0];show(ZW l (a:Int)<|ZA<|(a:Int)+Jc (n:Int) ((l.drop a).length:Int)).bind _=_;rw[he,hs,<-hw];rfl
   rw[hb];cases hy:y ((l.drop a).take n) s with
   | none=>rw[hy] at h;cases h
   | some p=>
    rw[hy] at h
    cases p with
    | pan q=>
     simp only[Qt,BY] at h ⊢
     right;rw[h]
    | ok p=>
     simp only[Qt] at h ⊢
     by_cases hp:p.2=true
     ·rw[AT hp] at h
      have:=Ng hn hn2 hl d (a+n) p.1 r (by omega) (by omega) h;simpa[hp] using this
     ·rw[RW hp] at h
      simp only[BY] at h
      right;simp[hp,h]
  ·simp only[CU,RW hlt,H8,BY] at h
   subst h;left;rw[ZI];simp[Ku,hlt]
theorem D4{y:(UV Int)->σ->H1 (Out ε<|σ×Bool)}{c1:(UV Int)}{c7:Int}{l:UV (UV Int)}{s:σ}{r:Out ε σ}(hl:Uq c1 c7=some l)(hr:H8 y l s=some r):UX y c1 c7 s=some r:=by
 unfold Uq at hl
 unfold UX;split at hl
 ·rename_i h;simp only[BY] at hl
  subst hl;have e:((c7.toNat:Nat):Int)=c7:=by omega
  have:=Ng (n:=c7.toNat) (by omega) (by omega) h.2.2 c1.length 0 s r (by omega) (by omega) hr;rw[e] at this
  rcases this with e | e
  ·exact ZO e rfl
  ·exact ZO e rfl
 ·cases hl
def Z3(y:ON->σ->H1 (σ×Bool))(A2:JQ)(x14:Qi)(ks23:(UV Int))(s30:Int×σ):H1 (UE (Int×σ)<|(σ) ⊕ (σ)):=if(decide<|s30.1 < (ks23.length:Int)) then((ZZ ks23 s30.1).bind λx34=>(x14.casks).bind λi47=>(A2[i47]?).bind λx52=>(y ((Qb x52 x34).getD none) s30.2).bind λp57=>if(!p57.2) then(some<|.done<|.inr p57.1) else(some<|.next ((ZA<|s30.1+1),p57.1))) else(some<|.done<|.inl s30.2)
def UW(y:ON->σ->H1 (σ×Bool))(A1:UV Qi)(A2:JQ)(c3:ON)(s0:σ):H1 σ:=c3.bind λi9=>(A1[i9]?).bind λx14=>(Vl A2 x14.casks).bind λks23=>(ZR (Z3 y A2 x14 ks23) (0,s0)).bind λb0=>match b0 with | .inl b62=>(some b62) | .inr b62=>(some b62)
theorem Bu(F0:Fz)(U:Jt)(σ:Type)(ly:Nat)(Y:σ->Fz->HP)(y:ON->σ->H1 (σ×Bool))(hy:UY prog ly F0 (fun(x:ON) F vs=>∃(P:H1 Of) (k0:Unit),vs=[(.pointer P)]/\ZN U.g210 F P x) Y y)(A1:UV Qi)(l:JQ)(Q:ON)(C:Nat)(S:H1 Of)(k7:Unit)(T:F0.mem C=some (.cells #[(.pointer S)] 195))(h8:ZN U.g201 F0 S Q)(D:σ):Xz prog 153 #[(.func (.yield ly) #[] #[]),(vP C 0)] F0 [Q4 U F0 A1,Q7 U F0 l,Y D F0] (UW y A1 l Q D) (λ_ _ _=>True) (λs' F' =>[Q4 U F' A1,Q7 U F' l,Y s' F']):=by
 refine Xz.enter func153 J ntmps153 J λr R=> ?_;refine .o (Sub.refl _) (J:_=[Q4 U F0 A1,Q7 U F0 l,Y D F0,R]) ?_;unfold UW;refine .w 2<|.U J MX J T J<|.d λi9 aE=> ?_;obtain⟨ae,V,W⟩:=h8.at aE;refine .fK W J J (.f J PD J Ep J<|.d λX Z=>.fT (Φ:=λv=>∃(E:H1 Nat) (aF:Unit),v=(.map E)/\Zr U.g199 F0 E X.casks) 0 J Fz.r V Z J Et J (λvs ⟨G,H,h,I⟩=>⟨_,by subst h;exact J,G,H,J,I⟩) λv hv=> ?_);obtain⟨E,aF,rfl,aG⟩:=hv;refine .sM kZ J call154 J J (λaf ag b aH=>.bj U3 N4 (c:=(Ex<|KJ .i64)) (λ_ _=>J) (aH) 1 J (aG.mono b) J call108 J J λaA u aI aJ ah g aK=>.fw J J UQ J<|.w 4<|.fN (.p [0,1,10,11,12] J)<|.tM 2 hy J Fz.r (Fz.t b g)<|.loop (fun(K:Int×σ) a w=>∃(s:Fz),u<=s/\Hd 26 [] [(0,(.func (.yield ly) #[] #[])),(1,(vP C 0)),(10,(vS aI aA aJ)),(11,(vI (aA.length:Int))),(12,(vI K.1))] s [Q4 U F0 A1,Q7 U F0 l,Y K.2 s,R] a w) (λb0 e a w=>match b0 with | .inl q=>e= .exit 0/\∃(A:Fz),u<=A/\Hd 26 [] [] A [Q4 U F0 A1,Q7 U F0 l,Y q A,R] a w | .inr q=>e= .ret/\∃(B:Fz),u<=B/\Hd 26 [] [] B [Q4 U F0 A1,Q7 U F0 l,Y q B,R] a w) ?_ ?_ ?_)
 ·exact λa w h=>⟨u,Fz.r,h.1.sub<|.k J,h.2⟩
 ·intro K ctl;refine GC.ex λa w ⟨s,j,hA⟩=>⟨_,hA,?_⟩;unfold Z3;refine .w 6<|.i J (λaM=> ?_) λaM=> ?_
  ·refine .w 6 (.idx J UQ W3 (aK.mono j) J J λaN ai aj ak al an ao aO aP=>.U J V3 J aO (QJ (k:=0) aP J)<|.w 6<|.U J MX J ((Fz.t b<|Fz.t g j).mem _ _ T) J<|.fK W J J<|.f J PD J Ep J<|.fT (Φ:=λv=>∃(L:H1 Nat) (aQ:Unit),v=(.map L)/\Zr U.g199 s L X.casks) 0 J (Fz.t b<|Fz.t g j) (V.mono<|Fz.t b<|Fz.t g j) Z J Et J (λvs ⟨G,H,h,I⟩=>⟨_,by subst h;exact J,G,H,J,I⟩) λv hv=> ?_);obtain⟨L,aQ,rfl,aR⟩:=hv;refine .m J J<|.d λi47 aS=> ?_;obtain⟨aq,aU,aV⟩:=aR.at aS;refine .d λar aW=>.dY (key:=aN) (z:=none) 1 J (Fz.t b<|Fz.t g j) aU aV aW J Ig (.int U3) y9 ⟨none,(),J,ZN.nil⟩ J J ?_;intro v hv;obtain⟨aX,aY,rfl,aZ⟩:=hv;refine .cq J hy J J ⟨aX,aY,J,aZ⟩ (i:=2) J (Fz.t b<|Fz.t g j) Fz.r λau aB av aC=>.w 3<|.i J (λaa=> ?_) λaa=> ?_
   ·refine .dC<|Q5.ret λa w h=>⟨J,aB,(Fz.t j aC),h.1.sub<|.k J,h.2⟩
   ·refine .w 7 ?_;exact .n<|Q5.norm λa w h=>⟨aB,(Fz.t j aC),h.1.sub<|.k J,h.2⟩
  ·refine .fZ J<|Q5.exit λa w h=>⟨J,s,j,h.1.sub<|.k J,h.2⟩
 ·intro q aw hk e a w hD;rcases q with q | q
  ·obtain⟨rfl,A,M,hA⟩:=hD;refine ZC J<|GE.app ?_ hk a w hA;refine .fb 0 (KS U) (Fz.t b<|Fz.t g M) J<|.fb 1 (Kk U) (Fz.t b<|Fz.t g M) J ?_;exact .br [0,0,0,0] results153 .nil J (Fz.t b<|Fz.t g M) trivial
  obtain⟨rfl,B,N,hA⟩:=hD;exact Jx<|(λe a w h=>Gh [0,0,0,0] results153 .nil J (Fz.t b<|Fz.t g N) trivial e a w<|Hd.fb 1 (Kk U) (Fz.t b<|Fz.t g N) J<|Hd.fb 0 (KS U) (Fz.t b<|Fz.t g N) J h) hk a w hA
def VK(A1:UV Qi)(A2:UV (UV<|Int×H1 Nat))(c:H1 Nat):H1 (UV<|H1 Nat):=c.bind λi=>(A1[i]?).bind λb=>(b.casks).bind λj=>(A2[j]?).bind λl=>(GF l).bind λks=>some<|ks.map λk=>(Qb l k).getD none
theorem PX{y:H1 Nat->σ->H1 (σ×Bool)}{A2:UV (UV<|Int×H1 Nat)}{x:Qi}{j:Nat}{l:UV (Int×H1 Nat)}{ks:UV Int}(hj:x.casks=some j)(hl:A2[j]? =some l)(hn:ks.length<=1000000):∀(d k:Nat) (s r:σ),k+d=ks.length->Un y ((ks.drop k).map λk=>(Qb l k).getD none) s=some r->
  ZR (Z3 y A2 x ks) ((k:Int),s)=some (.inl r)∨ZR (Z3 y A2 x ks) ((k:Int),s)=some (.inr r)
 | 0,k,s,r,hk,h=>by
  rw[pL<|by omega] at h
  simp only[lH,Un,BY] at h
  subst h;left;rw[ZI];have:¬k < ks.length:=by omega
  simp[Z3,this]
 | d+1,k,s,r,hk,h=>by
  have hkl:k < ks.length:=by omega
  have hw:ZA ((k:Int)+1)=((k+1:Nat):Int):=by rw[Qp (by omega)<|by omega];rfl
  rw[pM hkl] at h
  have hi:ZZ ks (k:Int)=some ks[k]:=by simp[ZZ,hkl]
  simp only[s6,Un] at h
  rw[ZI];cases hy:y ((Qb l ks[k]).getD none) s with
  | none=>rw[hy] at h;cases h
  | some p=>
   rw[hy] at h
   simp only[DO] at h
   by_cases hp:p.2=true
   ·rw[AT hp] at h
    have:=PX hj hl hn d (k+1) p.1 r (by omega) h;simpa[Z3,hkl,hi,hj,hl,hy,hp,hw] using this
   ·rw[RW hp] at h
    simp only[BY] at h
    right;simp[Z3,hkl,hi,hj,hl,hy,hp,h]
theorem D3{y:H1 Nat->σ->H1 (σ×Bool)}{A1:UV Qi}{A2:UV (UV<|Int×H1 Nat)}{c:H1 Nat}{l:UV (H1 Nat)}{s r:σ}(hl:VK A1 A2 c=some l)(hr:Un y l s=some r):UW y A1 A2 c s=some r:=by
 simp only[VK,nD] at hl
 obtain⟨i,hi,b,hb,j,hj,m,hm,ks,hks,hl⟩:=hl;simp only[BY] at hl
 subst hl
 have hn:ks.length<=1000000:=by
  unfold GF at hks
  split at hks
  ·rename_i h;simp only[BY] at hks
   rw[<-hks];simpa using h.2
  ·cases hks
 have hs:Vl A2 b.casks=some ks:=by simp[Vl,hj,hm,hks]
 unfold UW;rw[hi,DO,hb,DO,hs,DO];rcases PX (y:=y) hj hm hn ks.length 0 s r (by omega) (by simpa using hr) with e | e
 ·have e' :ZR (Z3 y A2 b ks) (0,s)=some (.inl r):=e;rw[e'];rfl
 ·have e' :ZR (Z3 y A2 b ks) (0,s)=some (.inr r):=e;rw[e'];rfl
def YQ(A1:UV QD)(a:ON)(b:QE):H1 (Int):=a.bind λi11=>(A1[i11]?).bind λc=>some<|ZA<|(ZA<|b.Sent+c.rules.Transit)+1
theorem Hu(F0:Fz)(U:Jt)(A1:UV QD)(c:ON)(e:H1 Of)(s:Unit)(g:ZN U.g223 F0 e c)(b:QE):Xz prog 214 #[(.pointer e),(Jy b)] F0 [ZT U F0 A1] (YQ A1 c b) (λr _ v=>v=(vI r)) (λr F' =>[ZT U F' A1]):=by
 refine Xz.enter func214 J ntmps214 J λr R=> ?_;refine .o (Sub.refl _) (J:_=[ZT U F0 A1,R]) ?_;unfold YQ;refine .w 2 (.fh (cs:=(ZJ b)) J J J λt u a i=>.w 4<|.fN (.p [0,3] J)<|.fc 10 Qc (by kernel_rfl)<|.f J qo J W3 J<|.U J V3 J i J<|.m J J<|.d λi11 j=> ?_);obtain⟨x,k,l⟩:=(g.mono a).at j;refine .fK l J J (.f J VA J Co J<|.f J SR J W3 J<|.d λn q=>.fT (Φ:=λv=>v=(vI n.rules.Transit)) 0 J a k q J V3 J (λvs ⟨y,z,A,B,C,D,E,F,h,G,H,I,K⟩=>⟨_,by subst h;exact J,J⟩) λv hv=> ?_);subst hv;refine .w 3<|.fp<|.w 2<|.fb 0 (J6 U) a J ?_;exact .bZ [0,0] results214 (.tmp J<|.nil) J a J
def Z9(A1:UV QD)(A3:ZP)(c:ON)(d:Int)(e:(Int×QE))(a:ZP):H1 (ZP):=((YQ A1 c e.2).bind λb=>(if(decide<|b<=d) then((a[A3.length]?).bind λf=>QU (List.set a A3.length<|Qv f b true) λg=>some g) else(some a):H1 (ZP)).bind λh=>some h:H1 (ZP)).bind λi=>some i
def Zp(y:Int->σ->H1 (σ×Bool))(ks86:(UV Int))(s93:Int×σ):H1 (UE (Int×σ)<|(σ) ⊕ (σ)):=if(decide<|s93.1 < (ks86.length:Int)) then((ZZ ks86 s93.1).bind λx97=>(y x97 s93.2).bind λp107=>if(!p107.2) then(some<|.done<|.inr p107.1) else(some<|.next ((ZA<|s93.1+1),p107.1))) else(some<|.done<|.inl s93.2)
def Vm(y:Int->σ->H1 (σ×Bool))(upd:UV QD×JK×ZP->σ)(A1:UV QD)(A2:JK)(A3:ZP)(c4:ON)(c10:Int):H1 σ:=QU (A3++[[]]) λA15=>c4.bind λi20=>(A1[i20]?).bind λx25=>(x25.moving).bind λi30=>(A2[i30]?).bind λx35=>(BZ TP (Z9 A1 A3 c4 c10) x35 A15).bind λR77=>(Vl R77<|some A3.length).bind λks86=>(ZR (Zp y ks86) (0,(upd (A1,A2,R77)))).bind λb0=>match b0 with | .inl b112=>(some b112) | .inr b112=>(some b112)
theorem Dk(F0:Fz)(U:Jt)(σ:Type)(ly:Nat)(Y:σ->Fz->HP)(Z:HP)(upd:UV QD×JK×ZP->σ)(y:Int->σ->H1 (σ×Bool))(hy:UY prog ly F0 (fun(x:Int) _ vs=>vs=[(vI x)]) Y y)(hp:∀(r:UV QD×JK×ZP) F',F0<=F'->∀m,Qh ([ZT U F' r.1,KK U F' r.2.1,Qd U F' r.2.2]++[Z]) m->Y (upd r) F' m)(A1:UV QD)(j:JK)(A3:ZP)(T:ON)(K:Nat)(p7:H1 Of)(k8:Unit)(aK:F0.mem K=some (.cells #[(.pointer p7)] 218))(h9:ZN U.g223 F0 p7 T)(aC:Int)(L:Nat)(aa:F0.mem L=some (.cells #[(vI aC)] 3)):Xz prog 237 #[(.func (.yield ly) #[] #[]),(vP K 0),(vP L 0)] F0 [ZT U F0 A1,KK U F0 j,Qd U F0 A3,Z] (Vm y upd A1 j A3 T aC) (λ_ _ _=>True) (λs' F' =>[Y s' F']):=by
 refine Xz.enter func237 J ntmps237 J λr R=> ?_;refine .o (Sub.refl _) (J:_=[ZT U F0 A1,KK U F0 j,Qd U F0 A3,Z,R]) ?_;unfold Vm;refine .w 2<|.dJ (λx:Int=>(vI x)) (λ_ (x:Bool) v=>v=(.bool x)) J λaD=>.fS λbO ab=>.dW 0 2 J J (Zl U) Fz.r (λG m l hm=>Ky (Fz.t Fz.r l) hm) ab λaE g aM=>.w 6<|.U J DF J (g.mem _ _ aK) J<|.d λi20 ad=> ?_;obtain⟨bP,ae,af⟩:=(h9.mono g).at ad;refine .fK af J J (.f J VA J IY J<|.d λag ah=>.fT (Φ:=λv=>∃(aF:H1 Nat) (ai:Unit),v=(.map aF)/\Zr U.g221 aE aF ag.moving) 0 J g ae ah J Ib J (λvs ⟨q0,q1,q2,q3,q4,q5,q6,q7,h,r0,r1,r2,r3⟩=>⟨_,by subst h;exact J,q4,q5,J,r2⟩) λv hv=> ?_);obtain⟨aF,ai,rfl,an⟩:=hv;refine .d λi30 ao=> ?_;obtain⟨u,aq,ar⟩:=an.at ao;refine .d λba aN=>.cu 1 J aq ar aN J qp J λA au=>.w 3<|.fN (.p [0,1,2,4,15] J)<|.fb 1 (J6 U) g J<|.cY (B:=0) (b:=(Z9 A1 A3 T aC)) TP (λaG C (aH:ZP) a w=>∃(V:Fz),aE<=V/\Hd 41 [] [(0,(.func (.yield ly) #[] #[])),(1,(vP K 0)),(2,(vP L 0)),(4,(.map<|some aD)),(15,(vP A 0))] V [UT (λx:Int=>(vI x)) (λ_ (x:QE) v=>v=(Jy x)) F0 u A aG C,ZT U V A1,hole U.g221 (PH U) F0 i30 u j,Qd U V aH,Z,R] a w) J ?_ ?_ ?_ ?_
 ·exact λa w h=>⟨aE,Fz.r,h.1.sub<|.k J,h.2⟩
 ·exact λC bb bc a w hE ⟨av,aw,hA⟩=>⟨av,aw,Hd.pE 3 J hE hA⟩
 ·intro aG C aH ax;rcases aG with _ | ⟨y,ys⟩
  ·refine GC.ex λa w ⟨ay,az,hA⟩=>⟨_,hA,?_⟩;refine .w 2<|.cx 0 J J J J<|.w 4<|.dP J ?_;exact .fZ J<|GP.over λa w h=>⟨ay,az,h.1.sub<|.k J,h.2⟩
  ·refine GC.ex λa w ⟨aO,H,hA⟩=>⟨_,hA,?_⟩;refine .w 2<|.cw 0 J (mO _ _) J J J λq aI bd aP be=> ?_;obtain⟨bf,aQ⟩:=ax q<|aP.mem_iff.1<|pd ..;refine .use aQ ?_;unfold Z9;refine .w 4<|.dr J<|.w 2<|.fN (.p [0,1,2,4,15] J) ?_;refine GC.dE (σ:=ZP) (λaR a w=>∃(I:Fz),aO<=I/\Hd 41 [] [(0,(.func (.yield ly) #[] #[])),(1,(vP K 0)),(2,(vP L 0)),(4,(.map<|some aD)),(15,(vP A 0))] I [UT (λx:Int=>(vI x)) (λ_ (x:QE) v=>v=(Jy x)) F0 u A aI<|q::C,ZT U I A1,hole U.g221 (PH U) F0 i30 u j,Qd U I aR,Z,R] a w) (λsj=> ?_) λaR a1=>GE.ex λa w ⟨I,a6,hA⟩=>⟨_,hA,?_⟩
   ·refine .w 3<|.c9 0 J J J J λv hv=> ?_;obtain rfl:=hv _<|Fz.t g H;refine .x J J J (.l (cs:=(ZJ<|QE.mk 0 0 0 0 0)) J qi J λaS=>.store (cs' :=(ZJ q.2)) jQ J J J J (i:=0) J (Jb J) J (Qa<|by rfl)<|.w 4<|.U J DF J ((Fz.t g H).mem _ _ aK) J<|.fa J xj jQ J (i:=0) J (vs:=(ZJ q.2)) (by kernel_rfl) J<|.fq [2] J call214 J J J J (Hu _ U A1 T p7 k8 (h9.mono<|Fz.t g H) q.2) ?_);rintro a7 M _ bg N rfl;refine .pick [1,1,0,0,0,0,0] (J:_=[pc aS (ZJ q.2) 226,UT (λx:Int=>(vI x)) (λ_ (x:QE) v=>v=(Jy x)) F0 u A aI<|q::C,ZT U M A1,hole U.g221 (PH U) F0 i30 u j,Qd U aO aH,Z,R])<|.w 6<|.U J V3 J ((Fz.t g<|Fz.t H N).mem _ _ aa) J<|.w 3<|.fN (.p [0,1,2,4,7,15,25] J) ?_;refine GC.dE (σ:=ZP) (λaU a w=>∃(P:Fz),M<=P/\Hd 41 [] [(0,(.func (.yield ly) #[] #[])),(1,(vP K 0)),(2,(vP L 0)),(4,(.map<|some aD)),(15,(vP A 0))] P [pc aS (ZJ q.2) 226,UT (λx:Int=>(vI x)) (λ_ (x:QE) v=>v=(Jy x)) F0 u A aI<|q::C,ZT U M A1,hole U.g221 (PH U) F0 i30 u j,Qd U P aU,Z,R] a w) (λsj=> ?_) λaU a1=>GE.ex λa w ⟨P,aV,hA⟩=>⟨_,hA,?_⟩
    ·refine .i J (λa8=> ?_) λa8=> ?_
     ·refine .w 3<|.d λbh bA=>.fS λbj bB=>.dm (key:=a7) (val:=true) 4 J N (aM.mono<|Fz.t H N) J bA Ie (.int U3) J J J (λ_ _=>J) bB<|.n ?_;exact .n λe a w h=>by cases e;exact⟨J,⟨M,Fz.r,h.1.sub<|.k J,h.2⟩⟩
     ·refine .skip<|.fb 4 (Zl U) N J ?_;exact .n λe a w h=>by cases e;exact⟨J,⟨M,Fz.r,h.1.sub<|.k J,h.2⟩⟩
    refine .k<|.drop 0<|.fb 1 (J6 U) aV J ?_;exact .n λe a w h=>by cases e;exact⟨J,⟨P,(Fz.t N aV),h.1.sub<|.k J,h.2⟩⟩
   exact .n<|GP.norm aP aQ λa w h=>⟨I,(Fz.t H a6),h.1.sub<|.k J,h.2⟩
 ·intro C W bk bC;refine GE.ex λa w ⟨bl,D,hA⟩=>⟨_,hA,?_⟩;refine .dz 0 1 J J (Fz.t g D) (Fz.t g D) bC au (B6 aN) (.w 4<|.sM LO J call109 J J λbm bn z bD=>.bj U3 SV (c:=(Ex<|KJ .i64)) (λ_ _=>J) (bD) 2 J ((Zr.of aM).mono<|Fz.t D z) J call108 J J λaW s bE bF bo E bG=>.fw J J UQ J<|.w 3<|.fb 0 (J6 U) (Fz.t z E) J<|.fb 1 (VD U) (Fz.t z E) J<|.fb 2 (Zl U) (Fz.t z E) J<|.tY (Hs:=[ZT U s A1,KK U s j,Qd U s W,Z]) (Y:=Y (upd (A1,j,W)) s) [0,0,0,0] J (hp (A1,j,W) _<|Fz.t g<|Fz.t D<|Fz.t z E)<|.o (Sub.refl _) (J:_=[Y (upd (A1,j,W)) s,R])<|.k<|.fN (.p [0,30,31,32] J)<|.loop (fun(aJ:Int×σ) a w=>∃(Q:Fz),s<=Q/\Hd 41 [] [(0,(.func (.yield ly) #[] #[])),(30,(vS bE aW bF)),(31,(vI (aW.length:Int))),(32,(vI aJ.1))] Q [Y aJ.2 Q,R] a w) (λb0 e a w=>match b0 with | .inl F=>e= .exit 2/\∃(X:Fz),s<=X/\Hd 41 [] [] X [Y F X,R] a w | .inr F=>e= .ret/\∃(aA:Fz),s<=aA/\Hd 41 [] [] aA [Y F aA,R] a w) ?_ ?_ ?_)
  ·exact λa w h=>⟨s,Fz.r,h.1.sub<|.k J,h.2⟩
  ·intro aJ ctl;refine GC.ex λa w ⟨Q,S,hA⟩=>⟨_,hA,?_⟩;unfold Zp;refine .w 6<|.i J (λbI=> ?_) λbI=> ?_
   ·refine .w 6<|.idx J UQ W3 (bG.mono S) J J λbp bq br bt bu bw bx bJ bK=>.U J V3 J bJ (QJ (k:=0) bK J)<|.w 7<|.cq J hy J J J (i:=0) J (Fz.t g<|Fz.t D<|Fz.t z<|Fz.t E S) Fz.r λbz aX b1 aY=>.w 3<|.i J (λbL=> ?_) λbL=> ?_
    ·refine .dC<|Q5.ret λa w h=>⟨J,aX,(Fz.t S aY),h.1.sub<|.k J,h.2⟩
    ·refine .w 7 ?_;exact .n<|Q5.norm λa w h=>⟨aX,(Fz.t S aY),h.1.sub<|.k J,h.2⟩
   ·refine .fZ J<|Q5.exit λa w h=>⟨J,Q,S,h.1.sub<|.k J,h.2⟩
  ·intro F b2 hk e a w hD;rcases F with F | F
   ·obtain⟨rfl,X,bM,hA⟩:=hD;refine ZC J<|GE.app ?_ hk a w hA;exact .br [0,0] results237 .nil J (Fz.t g<|Fz.t D<|Fz.t z<|Fz.t E bM) trivial
   obtain⟨rfl,aA,bN,hA⟩:=hD;exact Jx<|(Gh [0,0] results237 .nil J (Fz.t g<|Fz.t D<|Fz.t z<|Fz.t E bN) trivial) hk a w hA
def Yc(A1:UV QD)(A2:UV (UV<|Int×QE))(A3:UV (UV<|Int×Bool))(c4:H1 Nat)(c10:Int):H1 ((UV QD×UV (UV<|Int×QE)×UV (UV<|Int×Bool))×UV Int):=c4.bind λi=>(A1[i]?).bind λx=>(x.moving).bind λj=>(A2[j]?).bind λl=>(BZ TP (Z9 A1 A3 c4 c10) l<|A3++[[]]).bind λR=>(Vl R<|some A3.length).bind λks=>some ((A1,A2,R),ks)
theorem LN{y:Int->σ->H1 (σ×Bool)}{ks:UV Int}(hn:ks.length<=1000000):∀(d k:Nat) (s r:σ),k+d=ks.length->Un y (ks.drop k) s=some r->
  ZR (Zp y ks) ((k:Int),s)=some (.inl r)∨ZR (Zp y ks) ((k:Int),s)=some (.inr r)
 | 0,k,s,r,hk,h=>by
  rw[pL<|by omega] at h
  simp only[Un,BY] at h
  subst h;left;rw[ZI];have:¬k < ks.length:=by omega
  simp[Zp,this]
 | d+1,k,s,r,hk,h=>by
  have hkl:k < ks.length:=by omega
  have hw:ZA ((k:Int)+1)=((k+1:Nat):Int):=by rw[Qp (by omega)<|by omega];rfl
  rw[pM hkl] at h
  have hi:ZZ ks (k:Int)=some ks[k]:=by simp[ZZ,hkl]
  simp only[Un] at h
  rw[ZI];cases hy:y ks[k] s with
  | none=>rw[hy] at h;cases h
  | some p=>
   rw[hy] at h
   simp only[DO] at h
   by_cases hp:p.2=true
   ·rw[AT hp] at h
    have:=LN hn d (k+1) p.1 r (by omega) h;simpa[Zp,hkl,hi,hy,hp,hw] using this
   ·rw[RW hp] at h
    simp only[BY] at h
    right;simp[Zp,hkl,hi,hy,hp,h]
theorem Fu{y:Int->σ->H1 (σ×Bool)}{upd:UV QD×UV (UV<|Int×QE)×UV (UV<|Int×Bool)->σ}{A1:UV QD}{A2:UV (UV<|Int×QE)}{A3:UV (UV<|Int×Bool)}{c4:H1 Nat}{c10:Int}{q:(UV QD×UV (UV<|Int×QE)×UV (UV<|Int×Bool))×UV Int}{r:σ}(hl:Yc A1 A2 A3 c4 c10=some q)(hr:Un y q.2 (upd q.1)=some r):Vm y upd A1 A2 A3 c4 c10=some r:=by
 simp only[Yc,nD] at hl
 obtain⟨i,rfl,b,hb,j,hj,l,hm,R,hR,ks,hks,hl⟩:=hl;simp only[BY] at hl
 subst hl
 have hn:ks.length<=1000000:=by
  have h:=hks;simp only[Vl,nD] at h
  obtain⟨m,_,h⟩:=h;unfold GF at h
  split at h
  ·rename_i h2;simp only[BY] at h
   rw[<-h];simpa using h2.2
  ·cases h
 simp only[Vm,QU,DO,hb,hj,hm,hR,hks];rcases LN (y:=y) hn ks.length 0 (upd (A1,A2,R)) r (by omega) (by simpa using hr) with e | e
 ·have e' :ZR (Zp y ks) (0,upd (A1,A2,R))=some (.inl r):=e;rw[e'];rfl
 ·have e' :ZR (Zp y ks) (0,upd (A1,A2,R))=some (.inr r):=e;rw[e'];rfl
end
end Go.Proofs.YtijhfeohbhedkaaGreatDoor
end
