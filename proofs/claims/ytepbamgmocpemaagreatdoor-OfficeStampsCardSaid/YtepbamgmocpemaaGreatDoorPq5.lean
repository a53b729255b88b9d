/- For OfficeStamps. -/
import Derived.Test.YtepbamgmocpemaaGreatDoorPq4
import Derived.Test.YtepbamgmocpemaaGreatDoorProg
import Derived.Shelf.SlMaps.Clone
import Derived.Ground.SlmcProg
import Derived.Shelf.SortM.Plain
import Derived.Shelf.SortM.SortNone
import Derived.Ground.GgzProg
import Derived.Ground.SlgmProg
noncomputable section
namespace Go.Dec
abbrev u2:=@TypeDesc.struct.inj
abbrev nX:=@List.mem_cons_self
abbrev mW:=@Go.Proofs.AnyZI.sorted_in
abbrev lx:=@Go.Proofs.AnyZI.keys_gives_nil
abbrev eJ:=@Go.Proofs.AnyZI.keys_gives
abbrev eU:=@List.cons_ne_nil
abbrev eW:=@Go.Proofs.AnyZI.keys_in
end Go.Dec
namespace Go.Proofs.YtepbamgmocpemaaGreatDoor
section
open Go.Dec Go.Shelf Go.RowKit Go.Maps Go.Sort
variable{S:UV (Nat×Do)}{D:UV q8}{F F':Fz}{β:Type}{m:H1 β}{hs:UV HP}{n:Nat}{g:Gp}{r:β}
theorem Qd:Tryz.prog.follows .mixedOrders=true:=by kernel_rfl
abbrev Fo:= @Tryz.underlying101
abbrev Tw:= @Tryz.underlying103
abbrev J6:= @Tryz.underlying105
abbrev GU:= @Tryz.underlying107
abbrev LN:= @Tryz.underlying114
abbrev S7:= @Tryz.underlying116
abbrev Oq:= @Tryz.underlying121
abbrev CV:= @Tryz.underlying126
abbrev Hc:= @Tryz.underlying128
abbrev CU:= @Tryz.underlying137
abbrev Pv:= @Tryz.underlying140
abbrev S6:= @Tryz.underlying145
abbrev gQ:= @Tryz.underlying146
abbrev Ww:= @Tryz.underlying148
abbrev Dd:= @Tryz.underlying154
abbrev yQ:= @Tryz.underlying155
abbrev gP:= @Tryz.underlying166
abbrev LM:= @Tryz.underlying174
abbrev GS:= @Tryz.underlying178
abbrev Pu:= @Tryz.underlying184
abbrev uU:= @Tryz.underlying191
abbrev qT:= @Tryz.underlying192
abbrev Ps:= @Tryz.underlying194
abbrev qS:= @Tryz.underlying199
abbrev gZ:= @Tryz.underlying20
abbrev DB:= @Tryz.underlying201
abbrev Jw:= @Tryz.underlying203
abbrev fg:= @Tryz.underlying21
abbrev zs:= @Tryz.underlying214
abbrev VK:= @Tryz.underlying216
abbrev zr:= @Tryz.underlying219
abbrev yW:= @Tryz.underlying22
abbrev Up:= @Tryz.underlying220
abbrev Oo:= @Tryz.underlying222
abbrev uT:= @Tryz.underlying224
abbrev fL:= @Tryz.underlying237
abbrev wz:= @Tryz.underlying240
abbrev LL:= @Tryz.underlying242
abbrev fK:= @Tryz.underlying255
abbrev wy:= @Tryz.underlying259
abbrev fJ:= @Tryz.underlying262
abbrev uS:= @Tryz.underlying282
abbrev VI:= @Tryz.underlying29
abbrev U3:= @Tryz.underlying3
abbrev Me:= @Tryz.underlying31
abbrev dN:= @Tryz.underlying41
abbrev yV:= @Tryz.underlying42
abbrev dV:= @Tryz.underlying43
abbrev uR:= @Tryz.underlying44
abbrev uQ:= @Tryz.underlying45
abbrev yP:= @Tryz.underlying46
abbrev H5:= @Tryz.underlying48
abbrev U5:= @Tryz.underlying5
abbrev gY:= @Tryz.underlying50
abbrev ff:= @Tryz.underlying55
abbrev fe:= @Tryz.underlying60
abbrev DA:= @Tryz.underlying63
abbrev De:= @Tryz.underlying66
abbrev Mk:= @Tryz.underlying68
abbrev dM:= @Tryz.underlying76
abbrev U9:= @Tryz.underlying9
abbrev U6:= @Tryz.underlying95
abbrev HD:= @Tryz.underlying98
abbrev wv:= @Tryz.isAgg101
abbrev LK:= @Tryz.isAgg103
abbrev Mc:= @Tryz.isAgg105
abbrev On:= @Tryz.isAgg107
abbrev zq:= @Tryz.isAgg114
abbrev Mb:= @Tryz.isAgg116
abbrev dL:= @Tryz.isAgg121
abbrev fI:= @Tryz.isAgg126
abbrev qR:= @Tryz.isAgg128
abbrev dK:= @Tryz.isAgg131
abbrev zp:= @Tryz.isAgg137
abbrev wu:= @Tryz.isAgg140
abbrev fH:= @Tryz.isAgg145
abbrev dJ:= @Tryz.isAgg146
abbrev yO:= @Tryz.isAgg148
abbrev wq:= @Tryz.isAgg154
abbrev wo:= @Tryz.isAgg166
abbrev uP:= @Tryz.isAgg174
abbrev A5:= @Tryz.isAgg178
abbrev wm:= @Tryz.isAgg184
abbrev LJ:= @Tryz.isAgg188
abbrev Om:= @Tryz.isAgg192
abbrev uO:= @Tryz.isAgg199
abbrev yM:= @Tryz.isAgg201
abbrev Dc:= @Tryz.isAgg211
abbrev qQ:= @Tryz.isAgg214
abbrev fG:= @Tryz.isAgg219
abbrev qP:= @Tryz.isAgg220
abbrev wk:= @Tryz.isAgg223
abbrev dI:= @Tryz.isAgg236
abbrev dH:= @Tryz.isAgg237
abbrev dF:= @Tryz.isAgg262
abbrev Ol:= @Tryz.isAgg29
abbrev V3:= @Tryz.isAgg3
abbrev fc:= @Tryz.isAgg31
abbrev Ea:= @Tryz.isAgg34
abbrev V4:= @Tryz.isAgg4
abbrev fb:= @Tryz.isAgg41
abbrev wj:= @Tryz.isAgg42
abbrev fa:= @Tryz.isAgg43
abbrev fF:= @Tryz.isAgg44
abbrev fZ:= @Tryz.isAgg45
abbrev fY:= @Tryz.isAgg46
abbrev V5:= @Tryz.isAgg5
abbrev fE:= @Tryz.isAgg73
abbrev V9:= @Tryz.isAgg9
abbrev fX:= @Tryz.isAgg95
abbrev wi:= @Tryz.isAgg98
abbrev LI:= @Tryz.sizeOf101
abbrev Rj:= @Tryz.sizeOf103
abbrev Uo:= @Tryz.sizeOf105
abbrev GR:= @Tryz.sizeOf107
abbrev Oj:= @Tryz.sizeOf114
abbrev SN:= @Tryz.sizeOf116
abbrev zo:= @Tryz.sizeOf121
abbrev Fy:= @Tryz.sizeOf126
abbrev Ha:= @Tryz.sizeOf128
abbrev fD:= @Tryz.sizeOf131
abbrev SM:= @Tryz.sizeOf137
abbrev A0:= @Tryz.sizeOf140
abbrev SL:= @Tryz.sizeOf145
abbrev gO:= @Tryz.sizeOf146
abbrev Un:= @Tryz.sizeOf148
abbrev qO:= @Tryz.sizeOf154
abbrev gN:= @Tryz.sizeOf166
abbrev fC:= @Tryz.sizeOf172
abbrev Ri:= @Tryz.sizeOf174
abbrev GQ:= @Tryz.sizeOf178
abbrev zn:= @Tryz.sizeOf184
abbrev uN:= @Tryz.sizeOf188
abbrev Oi:= @Tryz.sizeOf192
abbrev Oh:= @Tryz.sizeOf199
abbrev FB:= @Tryz.sizeOf201
abbrev dE:= @Tryz.sizeOf203
abbrev yL:= @Tryz.sizeOf211
abbrev qN:= @Tryz.sizeOf214
abbrev yK:= @Tryz.sizeOf219
abbrev Az:= @Tryz.sizeOf220
abbrev uM:= @Tryz.sizeOf223
abbrev dD:= @Tryz.sizeOf224
abbrev fB:= @Tryz.sizeOf236
abbrev gM:= @Tryz.sizeOf237
abbrev dC:= @Tryz.sizeOf240
abbrev dB:= @Tryz.sizeOf259
abbrev gL:= @Tryz.sizeOf262
abbrev Ow:= @Tryz.sizeOf29
abbrev W3:= @Tryz.sizeOf3
abbrev yJ:= @Tryz.sizeOf31
abbrev qX:= @Tryz.sizeOf34
abbrev W4:= @Tryz.sizeOf4
abbrev gW:= @Tryz.sizeOf41
abbrev uL:= @Tryz.sizeOf42
abbrev gV:= @Tryz.sizeOf43
abbrev wh:= @Tryz.sizeOf44
abbrev xR:= @Tryz.sizeOf45
abbrev xQ:= @Tryz.sizeOf46
abbrev W5:= @Tryz.sizeOf5
abbrev dh:= @Tryz.sizeOf55
abbrev W9:= @Tryz.sizeOf9
abbrev wg:= @Tryz.sizeOf95
abbrev kj:= @Tryz.sizeOf98
abbrev yI:= @Tryz.zeroValue101
abbrev SK:= @Tryz.zeroValue105
abbrev yH:= @Tryz.zeroValue107
abbrev fA:= @Tryz.zeroValue116
abbrev gK:= @Tryz.zeroValue121
abbrev Pr:= @Tryz.zeroValue128
abbrev yG:= @Tryz.zeroValue137
abbrev yF:= @Tryz.zeroValue140
abbrev yE:= @Tryz.zeroValue148
abbrev gJ:= @Tryz.zeroValue154
abbrev dA:= @Tryz.zeroValue166
abbrev yD:= @Tryz.zeroValue174
abbrev yC:= @Tryz.zeroValue178
abbrev we:= @Tryz.zeroValue184
abbrev fz:= @Tryz.zeroValue188
abbrev uK:= @Tryz.zeroValue191
abbrev fy:= @Tryz.zeroValue194
abbrev gI:= @Tryz.zeroValue201
abbrev fx:= @Tryz.zeroValue203
abbrev fw:= @Tryz.zeroValue211
abbrev fu:= @Tryz.zeroValue216
abbrev zm:= @Tryz.zeroValue219
abbrev ft:= @Tryz.zeroValue220
abbrev fq:= @Tryz.zeroValue222
abbrev gz:= @Tryz.zeroValue224
abbrev gH:= @Tryz.zeroValue237
abbrev gy:= @Tryz.zeroValue240
abbrev gx:= @Tryz.zeroValue259
abbrev gG:= @Tryz.zeroValue262
abbrev Y3:= @Tryz.zeroValue3
abbrev gU:= @Tryz.zeroValue31
abbrev fp:= @Tryz.zeroValue34
abbrev Y4:= @Tryz.zeroValue4
abbrev fo:= @Tryz.zeroValue48
abbrev df:= @Tryz.zeroValue50
abbrev dU:= @Tryz.zeroValue55
abbrev EZ:= @Tryz.zeroValue63
abbrev R0:= @Tryz.zeroValue66
abbrev Y9:= @Tryz.zeroValue9
abbrev uJ:= @Tryz.zeroValue95
abbrev gF:= @Tryz.zeroValue98
structure Jx where
 g203:Nat
 g194:Nat
 g216:Nat
 g50:Nat
 g214:Nat
 g199:Nat
 g192:Nat
 g48:Nat
 g60:Nat
variable{U:Jx}
structure ZU where
 Number:Int
 Wood:Int
 Place:Int
 Room:Int
 Owner:Int
 Creditor:Int
 Amount:Int
 Age:Int
 Woods:(Nat->Int)
 Places:(Nat->Int)
def Qy(x:ZU):UV Do:=[.int .i64 x.Number,.int .i64 x.Wood,.int .i64 x.Place,.int .i64 x.Room,.int .i64 x.Owner,.int .i64 x.Creditor,.int .i64 x.Amount,.int .i64 x.Age,.int .i64<|x.Woods 0,.int .i64<|x.Woods 1,.int .i64<|x.Woods 2,.int .i64<|x.Woods 3,.int .i64<|x.Woods 4,.int .i64<|x.Woods 5,.int .i64<|x.Woods 6,.int .i64<|x.Woods 7,.int .i64<|x.Places 0,.int .i64<|x.Places 1,.int .i64<|x.Places 2,.int .i64<|x.Places 3,.int .i64<|x.Places 4,.int .i64<|x.Places 5,.int .i64<|x.Places 6,.int .i64<|x.Places 7]
def Dz(x:ZU):Do:=.agg (Qy x).toArray
theorem PE:∀fs,Tryz.prog.underlying 128=some (.struct fs)->Places Tryz.prog fs #[(0,1),(1,1),(2,1),(3,1),(4,1),(5,1),(6,1),(7,1),(8,8),(16,8)]:=λfs h=>by
 obtain rfl:=u2<|y1<|Tryz.underlying128.symm.trans h;intro w;kernel_rfl
structure QB where
 Lo:Int
 Hi:Int
def QY(x:QB):UV Do:=[.int .i64 x.Lo,.int .i64 x.Hi]
def JS(x:QB):Do:=.agg (QY x).toArray
theorem HE:∀fs,Tryz.prog.underlying 105=some (.struct fs)->Places Tryz.prog fs #[(0,1),(1,1)]:=λfs h=>by
 obtain rfl:=u2<|y1<|Tryz.underlying105.symm.trans h;intro w;kernel_rfl
structure Qq where
 From:ZU
 Amount:Int
 Strength:QB
def QM(x:Qq):UV Do:=[.int .i64 x.From.Number,.int .i64 x.From.Wood,.int .i64 x.From.Place,.int .i64 x.From.Room,.int .i64 x.From.Owner,.int .i64 x.From.Creditor,.int .i64 x.From.Amount,.int .i64 x.From.Age,.int .i64<|x.From.Woods 0,.int .i64<|x.From.Woods 1,.int .i64<|x.From.Woods 2,.int .i64<|x.From.Woods 3,.int .i64<|x.From.Woods 4,.int .i64<|x.From.Woods 5,.int .i64<|x.From.Woods 6,.int .i64<|x.From.Woods 7,.int .i64<|x.From.Places 0,.int .i64<|x.From.Places 1,.int .i64<|x.From.Places 2,.int .i64<|x.From.Places 3,.int .i64<|x.From.Places 4,.int .i64<|x.From.Places 5,.int .i64<|x.From.Places 6,.int .i64<|x.From.Places 7,.int .i64 x.Amount,.int .i64 x.Strength.Lo,.int .i64 x.Strength.Hi]
def VH(x:Qq):Do:=.agg (QM x).toArray
theorem E4:∀fs,Tryz.prog.underlying 137=some (.struct fs)->Places Tryz.prog fs #[(0,24),(24,1),(25,2)]:=λfs h=>by
 obtain rfl:=u2<|y1<|Tryz.underlying137.symm.trans h;intro w;kernel_rfl
structure QU where
 Draughts:(List Qq)
 Water:Int
 Shrink:QB
 Filtered:Bool
 Coloured:Bool
def Q9(x:QU)(p0:H1 OF)(k0:Nat):UV Do:=[.slice p0 x.Draughts.length k0,.int .i64 x.Water,.int .i64 x.Shrink.Lo,.int .i64 x.Shrink.Hi,.bool x.Filtered,.bool x.Coloured]
def Zs(x:QU)(p0:H1 OF)(k0:Nat):Do:=.agg (Q9 x p0 k0).toArray
theorem qw:∀fs,Tryz.prog.underlying 107=some (.struct fs)->Places Tryz.prog fs #[(0,1),(1,1),(2,2),(4,1),(5,1)]:=λfs h=>by
 obtain rfl:=u2<|y1<|Tryz.underlying107.symm.trans h;intro w;kernel_rfl
structure Z5 where
 From:Int
 Rate:Int
def Zd(x:Z5):UV Do:=[.int .i64 x.From,.int .i64 x.Rate]
def OV(x:Z5):Do:=.agg (Zd x).toArray
theorem Mx:∀fs,Tryz.prog.underlying 121=some (.struct fs)->Places Tryz.prog fs #[(0,1),(1,1)]:=λfs h=>by
 obtain rfl:=u2<|y1<|Tryz.underlying121.symm.trans h;intro w;kernel_rfl
structure Q4 where
 Rates:(List Z5)
 Transit:Int
 Loss:Int
 Share:Int
def ZJ(x:Q4)(p0:H1 OF)(k0:Nat):UV Do:=[.slice p0 x.Rates.length k0,.int .i64 x.Transit,.int .i64 x.Loss,.int .i64 x.Share]
def YF(x:Q4)(p0:H1 OF)(k0:Nat):Do:=.agg (ZJ x p0 k0).toArray
def Ky:Uk Q4:=λF x vs=>∃p0 k0,vs=ZJ x p0 k0/\QI 2 (Ex Zd) F p0 k0 x.Rates
theorem Nn:∀fs,Tryz.prog.underlying 116=some (.struct fs)->Places Tryz.prog fs #[(0,1),(1,1),(2,1),(3,1)]:=λfs h=>by
 obtain rfl:=u2<|y1<|Tryz.underlying116.symm.trans h;intro w;kernel_rfl
structure QF where
 Kind:Int
 Day:Int
 Cask:Int
 Other:Int
 Person:Int
 To:Int
 Amount:Int
 Where:Int
def QK(x:QF):UV Do:=[.int .i64 x.Kind,.int .i64 x.Day,.int .i64 x.Cask,.int .i64 x.Other,.int .i64 x.Person,.int .i64 x.To,.int .i64 x.Amount,.int .i64 x.Where]
def JK(x:QF):Do:=.agg (QK x).toArray
theorem Yo:∀fs,Tryz.prog.underlying 95=some (.struct fs)->Places Tryz.prog fs #[(0,1),(1,1),(2,1),(3,1),(4,1),(5,1),(6,1),(7,1)]:=λfs h=>by
 obtain rfl:=u2<|y1<|Tryz.underlying95.symm.trans h;intro w;kernel_rfl
structure QP where
 Kind:Int
 Day:Int
 Bond:Int
 To:Int
 Id:Int
 Amount:Int
def QN(x:QP):UV Do:=[.int .i64 x.Kind,.int .i64 x.Day,.int .i64 x.Bond,.int .i64 x.To,.int .i64 x.Id,.int .i64 x.Amount]
def JJ(x:QP):Do:=.agg (QN x).toArray
theorem XI:∀fs,Tryz.prog.underlying 98=some (.struct fs)->Places Tryz.prog fs #[(0,1),(1,1),(2,1),(3,1),(4,1),(5,1)]:=λfs h=>by
 obtain rfl:=u2<|y1<|Tryz.underlying98.symm.trans h;intro w;kernel_rfl
structure QH where
 Kind:Int
 First:Int
 Last:Int
 Batch:Int
def QT(x:QH):UV Do:=[.int .i64 x.Kind,.int .i64 x.First,.int .i64 x.Last,.int .i64 x.Batch]
def Fg(x:QH):Do:=.agg (QT x).toArray
theorem GX:∀fs,Tryz.prog.underlying 101=some (.struct fs)->Places Tryz.prog fs #[(0,1),(1,1),(2,1),(3,1)]:=λfs h=>by
 obtain rfl:=u2<|y1<|Tryz.underlying101.symm.trans h;intro w;kernel_rfl
structure QA where
 day:Int
 rules:(Option Q4)
 casks:(List QF)
 duties:(List QP)
 stamps:(List QH)
 batches:(List<|Int×QU)
 pure:(List<|Int×Int)
 ids:Int
variable{L:QA}
def Qk(x:QA)(p0:H1 OF)(k0:Unit)(p1:H1 OF)(k1:Nat)(p2:H1 OF)(k2:Nat)(p3:H1 OF)(k3:Nat)(p4:H1 Nat)(k4:Unit)(p5:H1 Nat)(k5:Unit):UV Do:=[.int .i64 x.day,.pointer p0,.slice p1 x.casks.length k1,.slice p2 x.duties.length k2,.slice p3 x.stamps.length k3,.map p4,.map p5,.int .i64 x.ids]
def MD(x:QA)(p0:H1 OF)(k0:Unit)(p1:H1 OF)(k1:Nat)(p2:H1 OF)(k2:Nat)(p3:H1 OF)(k3:Nat)(p4:H1 Nat)(k4:Unit)(p5:H1 Nat)(k5:Unit):Do:=.agg (Qk x p0 k0 p1 k1 p2 k2 p3 k3 p4 k4 p5 k5).toArray
theorem RX:∀fs,Tryz.prog.underlying 48=some (.struct fs)->Places Tryz.prog fs #[(0,1),(1,1),(2,1),(3,1),(4,1),(5,1),(6,1),(7,1)]:=λfs h=>by
 obtain rfl:=u2<|y1<|Tryz.underlying48.symm.trans h;intro w;kernel_rfl
structure Qr where
 ledgers:QA
 open_:Bool
def Da(x:Qr)(p0:H1 OF)(k0:Unit)(p1:H1 OF)(k1:Nat)(p2:H1 OF)(k2:Nat)(p3:H1 OF)(k3:Nat)(p4:H1 Nat)(k4:Unit)(p5:H1 Nat)(k5:Unit):UV Do:=[.int .i64 x.ledgers.day,.pointer p0,.slice p1 x.ledgers.casks.length k1,.slice p2 x.ledgers.duties.length k2,.slice p3 x.ledgers.stamps.length k3,.map p4,.map p5,.int .i64 x.ledgers.ids,.bool x.open_]
def AD:Uk Qr:=λF x vs=>∃p0 k0 p1 k1 p2 k2 p3 k3 p4 k4 p5 k5,vs=Da x p0 k0 p1 k1 p2 k2 p3 k3 p4 k4 p5 k5/\U2 116 Ky F p0 x.ledgers.rules/\QI 8 (Ex QK) F p1 k1 x.ledgers.casks/\QI 6 (Ex QN) F p2 k2 x.ledgers.duties/\QI 4 (Ex QT) F p3 k3 x.ledgers.stamps/\Wm (λx:Int=>(.int .i64 x)) (λF (x:QU) v=>∃(p0:H1 OF) (k0:Nat),v=(Zs x p0 k0)/\QI 27 (Ex QM) F p0 k0 x.Draughts) F p4 x.ledgers.batches/\Wm (λx:Int=>(.int .i64 x)) (λ_ (x:Int) v=>v=(.int .i64 x)) F p5 x.ledgers.pure
theorem Ni:∀fs,Tryz.prog.underlying 50=some (.struct fs)->Places Tryz.prog fs #[(0,8),(8,1)]:=λfs h=>by
 obtain rfl:=u2<|y1<|Tryz.underlying50.symm.trans h;intro w;kernel_rfl
structure Qo where
 e:Int
def W6(x:Qo):UV Do:=[.int .i64 x.e]
def M8(x:Qo):Do:=.agg (W6 x).toArray
theorem Nj:∀fs,Tryz.prog.underlying 55=some (.struct fs)->Places Tryz.prog fs #[(0,1)]:=λfs h=>by
 obtain rfl:=u2<|y1<|Tryz.underlying55.symm.trans h;intro w;kernel_rfl
structure Zp where
 rest:(List UInt8)
def W2(x:Zp):UV Do:=[.string<|bs x.rest]
theorem Nh:∀fs,Tryz.prog.underlying 60=some (.struct fs)->Places Tryz.prog fs #[(0,1)]:=λfs h=>by
 obtain rfl:=u2<|y1<|Tryz.underlying60.symm.trans h;intro w;kernel_rfl
structure Zk where
 e:Int
def HK(x:Zk):UV Do:=[.int .i64 x.e]
def qA(x:Zk):Do:=.agg (HK x).toArray
theorem E3:∀fs,Tryz.prog.underlying 240=some (.struct fs)->Places Tryz.prog fs #[(0,1)]:=λfs h=>by
 obtain rfl:=u2<|y1<|Tryz.underlying240.symm.trans h;intro w;kernel_rfl
structure ZH where
 age:Int
 woods:(Nat->Int)
 places:(Nat->Int)
def ZD(x:ZH):UV Do:=[.int .i64 x.age,.int .i64<|x.woods 0,.int .i64<|x.woods 1,.int .i64<|x.woods 2,.int .i64<|x.woods 3,.int .i64<|x.woods 4,.int .i64<|x.woods 5,.int .i64<|x.woods 6,.int .i64<|x.woods 7,.int .i64<|x.places 0,.int .i64<|x.places 1,.int .i64<|x.places 2,.int .i64<|x.places 3,.int .i64<|x.places 4,.int .i64<|x.places 5,.int .i64<|x.places 6,.int .i64<|x.places 7]
def WC(x:ZH):Do:=.agg (ZD x).toArray
theorem P9:∀fs,Tryz.prog.underlying 201=some (.struct fs)->Places Tryz.prog fs #[(0,1),(1,8),(9,8)]:=λfs h=>by
 obtain rfl:=u2<|y1<|Tryz.underlying201.symm.trans h;intro w;kernel_rfl
structure QJ where
 number:Int
 wood:Int
 place:Int
 room:Int
 owner:Int
 creditor:Int
 amount:Int
 since:Int
 times:ZH
 fills:(Option Nat)
def Us(x:QJ)(p0:H1 Nat)(k0:Unit):UV Do:=[.int .i64 x.number,.int .i64 x.wood,.int .i64 x.place,.int .i64 x.room,.int .i64 x.owner,.int .i64 x.creditor,.int .i64 x.amount,.int .i64 x.since,.int .i64 x.times.age,.int .i64<|x.times.woods 0,.int .i64<|x.times.woods 1,.int .i64<|x.times.woods 2,.int .i64<|x.times.woods 3,.int .i64<|x.times.woods 4,.int .i64<|x.times.woods 5,.int .i64<|x.times.woods 6,.int .i64<|x.times.woods 7,.int .i64<|x.times.places 0,.int .i64<|x.times.places 1,.int .i64<|x.times.places 2,.int .i64<|x.times.places 3,.int .i64<|x.times.places 4,.int .i64<|x.times.places 5,.int .i64<|x.times.places 6,.int .i64<|x.times.places 7,.map p0]
def jq(x:QJ)(p0:H1 Nat)(k0:Unit):Do:=.agg (Us x p0 k0).toArray
def Ll(U:Jx):Uk QJ:=λF x vs=>∃p0 k0,vs=Us x p0 k0/\Zy U.g199 F p0 x.fills
theorem qt:∀fs,Tryz.prog.underlying 203=some (.struct fs)->Places Tryz.prog fs #[(0,1),(1,1),(2,1),(3,1),(4,1),(5,1),(6,1),(7,1),(8,17),(25,1)]:=λfs h=>by
 obtain rfl:=u2<|y1<|Tryz.underlying203.symm.trans h;intro w;kernel_rfl
structure Ql where
 casks:(Option Nat)
 event:Int
def Pq(x:Ql)(p0:H1 Nat)(k0:Unit):UV Do:=[.map p0,.int .i64 x.event]
def Lm(U:Jx):Uk Ql:=λF x vs=>∃p0 k0,vs=Pq x p0 k0/\Zy U.g192 F p0 x.casks
theorem qu:∀fs,Tryz.prog.underlying 194=some (.struct fs)->Places Tryz.prog fs #[(0,1),(1,1)]:=λfs h=>by
 obtain rfl:=u2<|y1<|Tryz.underlying194.symm.trans h;intro w;kernel_rfl
structure Zq where
 e:Int
def W7(x:Zq):UV Do:=[.int .i64 x.e]
def M9(x:Zq):Do:=.agg (W7 x).toArray
theorem Nl:∀fs,Tryz.prog.underlying 259=some (.struct fs)->Places Tryz.prog fs #[(0,1)]:=λfs h=>by
 obtain rfl:=u2<|y1<|Tryz.underlying259.symm.trans h;intro w;kernel_rfl
structure QE where
 Id:Int
 From:Int
 To:Int
 Sent:Int
 Amount:Int
def ZL(x:QE):UV Do:=[.int .i64 x.Id,.int .i64 x.From,.int .i64 x.To,.int .i64 x.Sent,.int .i64 x.Amount]
def J1(x:QE):Do:=.agg (ZL x).toArray
theorem IZ:∀fs,Tryz.prog.underlying 219=some (.struct fs)->Places Tryz.prog fs #[(0,1),(1,1),(2,1),(3,1),(4,1)]:=λfs h=>by
 obtain rfl:=u2<|y1<|Tryz.underlying219.symm.trans h;intro w;kernel_rfl
structure ZV where
 Bonds:(Nat->Int)
 Moving:(List QE)
 Made:Int
 Found:Int
 Used:Int
 Exported:Int
 Lost:Int
 Charged:Int
 Due:Int
 Paid:Int
def ZG(x:ZV)(p0:H1 OF)(k0:Nat):UV Do:=[.int .i64<|x.Bonds 0,.int .i64<|x.Bonds 1,.int .i64<|x.Bonds 2,.int .i64<|x.Bonds 3,.int .i64<|x.Bonds 4,.int .i64<|x.Bonds 5,.int .i64<|x.Bonds 6,.int .i64<|x.Bonds 7,.int .i64<|x.Bonds 8,.int .i64<|x.Bonds 9,.int .i64<|x.Bonds 10,.int .i64<|x.Bonds 11,.int .i64<|x.Bonds 12,.int .i64<|x.Bonds 13,.int .i64<|x.Bonds 14,.int .i64<|x.Bonds 15,.slice p0 x.Moving.length k0,.int .i64 x.Made,.int .i64 x.Found,.int .i64 x.Used,.int .i64 x.Exported,.int .i64 x.Lost,.int .i64 x.Charged,.int .i64 x.Due,.int .i64 x.Paid]
def UM(x:ZV)(p0:H1 OF)(k0:Nat):Do:=.agg (ZG x p0 k0).toArray
theorem My:∀fs,Tryz.prog.underlying 148=some (.struct fs)->Places Tryz.prog fs #[(0,16),(16,1),(17,1),(18,1),(19,1),(20,1),(21,1),(22,1),(23,1),(24,1)]:=λfs h=>by
 obtain rfl:=u2<|y1<|Tryz.underlying148.symm.trans h;intro w;kernel_rfl
structure QD where
 rules:Q4
 book:ZV
 moving:(Option Nat)
 known:(Option Nat)
 sums:(Nat->Int)
 day:Int
def Zg(x:QD)(p0:H1 OF)(k0:Nat)(p1:H1 OF)(k1:Nat)(p2:H1 Nat)(k2:Unit)(p3:H1 Nat)(k3:Unit):UV Do:=[.slice p0 x.rules.Rates.length k0,.int .i64 x.rules.Transit,.int .i64 x.rules.Loss,.int .i64 x.rules.Share,.int .i64<|x.book.Bonds 0,.int .i64<|x.book.Bonds 1,.int .i64<|x.book.Bonds 2,.int .i64<|x.book.Bonds 3,.int .i64<|x.book.Bonds 4,.int .i64<|x.book.Bonds 5,.int .i64<|x.book.Bonds 6,.int .i64<|x.book.Bonds 7,.int .i64<|x.book.Bonds 8,.int .i64<|x.book.Bonds 9,.int .i64<|x.book.Bonds 10,.int .i64<|x.book.Bonds 11,.int .i64<|x.book.Bonds 12,.int .i64<|x.book.Bonds 13,.int .i64<|x.book.Bonds 14,.int .i64<|x.book.Bonds 15,.slice p1 x.book.Moving.length k1,.int .i64 x.book.Made,.int .i64 x.book.Found,.int .i64 x.book.Used,.int .i64 x.book.Exported,.int .i64 x.book.Lost,.int .i64 x.book.Charged,.int .i64 x.book.Due,.int .i64 x.book.Paid,.map p2,.map p3,.int .i64<|x.sums 0,.int .i64<|x.sums 1,.int .i64<|x.sums 2,.int .i64<|x.sums 3,.int .i64<|x.sums 4,.int .i64<|x.sums 5,.int .i64<|x.sums 6,.int .i64<|x.sums 7,.int .i64<|x.sums 8,.int .i64<|x.sums 9,.int .i64<|x.sums 10,.int .i64<|x.sums 11,.int .i64<|x.sums 12,.int .i64<|x.sums 13,.int .i64<|x.sums 14,.int .i64<|x.sums 15,.int .i64 x.day]
def AE(U:Jx):Uk QD:=λF x vs=>∃p0 k0 p1 k1 p2 k2 p3 k3,vs=Zg x p0 k0 p1 k1 p2 k2 p3 k3/\QI 2 (Ex Zd) F p0 k0 x.rules.Rates/\Mh 5 (Ex ZL) F p1 k1 x.book.Moving/\Zy U.g214 F p2 x.moving/\Zy U.g199 F p3 x.known
theorem Nk:∀fs,Tryz.prog.underlying 216=some (.struct fs)->Places Tryz.prog fs #[(0,4),(4,25),(29,1),(30,1),(31,16),(47,1)]:=λfs h=>by
 obtain rfl:=u2<|y1<|Tryz.underlying216.symm.trans h;intro w;kernel_rfl
structure Q7 where
 Hand:(List QB)
 Stuck:Int
 Spoiled:Int
 Returned:Int
def Qv(x:Q7)(p0:H1 OF)(k0:Nat):UV Do:=[.slice p0 x.Hand.length k0,.int .i64 x.Stuck,.int .i64 x.Spoiled,.int .i64 x.Returned]
def AP(x:Q7)(p0:H1 OF)(k0:Nat):Do:=.agg (Qv x p0 k0).toArray
theorem FQ:∀fs,Tryz.prog.underlying 174=some (.struct fs)->Places Tryz.prog fs #[(0,1),(1,1),(2,1),(3,1)]:=λfs h=>by
 obtain rfl:=u2<|y1<|Tryz.underlying174.symm.trans h;intro w;kernel_rfl
structure Ue where
 issued:(List QB)
 hand:(List QB)
def JM(x:Ue)(p0:H1 OF)(k0:Nat)(p1:H1 OF)(k1:Nat):UV Do:=[.slice p0 x.issued.length k0,.slice p1 x.hand.length k1]
structure Qh where
 Batch:QU
 amount:Int
 least:Int
 most:Int
def Qg(x:Qh)(p0:H1 OF)(k0:Nat):UV Do:=[.slice p0 x.Batch.Draughts.length k0,.int .i64 x.Batch.Water,.int .i64 x.Batch.Shrink.Lo,.int .i64 x.Batch.Shrink.Hi,.bool x.Batch.Filtered,.bool x.Batch.Coloured,.int .i64 x.amount,.int .i64 x.least,.int .i64 x.most]
def Jt(x:Qh)(p0:H1 OF)(k0:Nat):Do:=.agg (Qg x p0 k0).toArray
theorem Mw:∀fs,Tryz.prog.underlying 178=some (.struct fs)->Places Tryz.prog fs #[(0,6),(6,1),(7,1),(8,1)]:=λfs h=>by
 obtain rfl:=u2<|y1<|Tryz.underlying178.symm.trans h;intro w;kernel_rfl
structure Qp where
 Volume:QB
 Strength:QB
 Age:Int
 Woods:(Nat->Int)
 Places:(Nat->Int)
 Casks:Int
def Qs(x:Qp):UV Do:=[.int .i64 x.Volume.Lo,.int .i64 x.Volume.Hi,.int .i64 x.Strength.Lo,.int .i64 x.Strength.Hi,.int .i64 x.Age,.int .i64<|x.Woods 0,.int .i64<|x.Woods 1,.int .i64<|x.Woods 2,.int .i64<|x.Woods 3,.int .i64<|x.Woods 4,.int .i64<|x.Woods 5,.int .i64<|x.Woods 6,.int .i64<|x.Woods 7,.int .i64<|x.Places 0,.int .i64<|x.Places 1,.int .i64<|x.Places 2,.int .i64<|x.Places 3,.int .i64<|x.Places 4,.int .i64<|x.Places 5,.int .i64<|x.Places 6,.int .i64<|x.Places 7,.int .i64 x.Casks]
def G6(x:Qp):Do:=.agg (Qs x).toArray
theorem AG:∀fs,Tryz.prog.underlying 140=some (.struct fs)->Places Tryz.prog fs #[(0,2),(2,2),(4,1),(5,8),(13,8),(21,1)]:=λfs h=>by
 obtain rfl:=u2<|y1<|Tryz.underlying140.symm.trans h;intro w;kernel_rfl
structure Qt where
 Kind:Int
 What:Int
 Number:Int
def KI(x:Qt):UV Do:=[.int .i64 x.Kind,.int .i64 x.What,.int .i64 x.Number]
def Zr(x:Qt):Do:=.agg (KI x).toArray
theorem qv:∀fs,Tryz.prog.underlying 154=some (.struct fs)->Places Tryz.prog fs #[(0,1),(1,1),(2,1)]:=λfs h=>by
 obtain rfl:=u2<|y1<|Tryz.underlying154.symm.trans h;intro w;kernel_rfl
structure ZF where
 batch:Qh
 known:Qp
def Zc(x:ZF)(p0:H1 OF)(k0:Nat):UV Do:=[.slice p0 x.batch.Batch.Draughts.length k0,.int .i64 x.batch.Batch.Water,.int .i64 x.batch.Batch.Shrink.Lo,.int .i64 x.batch.Batch.Shrink.Hi,.bool x.batch.Batch.Filtered,.bool x.batch.Batch.Coloured,.int .i64 x.batch.amount,.int .i64 x.batch.least,.int .i64 x.batch.most,.int .i64 x.known.Volume.Lo,.int .i64 x.known.Volume.Hi,.int .i64 x.known.Strength.Lo,.int .i64 x.known.Strength.Hi,.int .i64 x.known.Age,.int .i64<|x.known.Woods 0,.int .i64<|x.known.Woods 1,.int .i64<|x.known.Woods 2,.int .i64<|x.known.Woods 3,.int .i64<|x.known.Woods 4,.int .i64<|x.known.Woods 5,.int .i64<|x.known.Woods 6,.int .i64<|x.known.Woods 7,.int .i64<|x.known.Places 0,.int .i64<|x.known.Places 1,.int .i64<|x.known.Places 2,.int .i64<|x.known.Places 3,.int .i64<|x.known.Places 4,.int .i64<|x.known.Places 5,.int .i64<|x.known.Places 6,.int .i64<|x.known.Places 7,.int .i64 x.known.Casks]
def BW(x:ZF)(p0:H1 OF)(k0:Nat):Do:=.agg (Zc x p0 k0).toArray
theorem AF:∀fs,Tryz.prog.underlying 184=some (.struct fs)->Places Tryz.prog fs #[(0,9),(9,22)]:=λfs h=>by
 obtain rfl:=u2<|y1<|Tryz.underlying184.symm.trans h;intro w;kernel_rfl
structure Qb where
 least:Int
 each:Int
def Z3(x:Qb):UV Do:=[.int .i64 x.least,.int .i64 x.each]
def I9(x:Qb):Do:=.agg (Z3 x).toArray
theorem Z7:∀fs,Tryz.prog.underlying 63=some (.struct fs)->Places Tryz.prog fs #[(0,1),(1,1)]:=λfs h=>by
 obtain rfl:=u2<|y1<|Tryz.underlying63.symm.trans h;intro w;kernel_rfl
structure QX where
 form:Qb
 do_:((QA×Unit×(List Int))->Option (Out Qo<|(List UInt8)×QA))
def Zi(x:QX)(p0:x4)(k0:UV Do×UV Do):UV Do:=[.int .i64 x.form.least,.int .i64 x.form.each,.func (.func p0) k0.1.toArray k0.2.toArray]
def KF(x:QX)(p0:x4)(k0:UV Do×UV Do):Do:=.agg (Zi x p0 k0).toArray
theorem Z8:∀fs,Tryz.prog.underlying 66=some (.struct fs)->Places Tryz.prog fs #[(0,2),(2,1)]:=λfs h=>by
 obtain rfl:=u2<|y1<|Tryz.underlying66.symm.trans h;intro w;kernel_rfl
structure QV where
 Word:(List UInt8)
 N:(List Int)
def Qe(x:QV)(p0:H1 OF)(k0:Nat):UV Do:=[.string<|bs x.Word,.slice p0 x.N.length k0]
def Gj(x:QV)(p0:H1 OF)(k0:Nat):Do:=.agg (Qe x p0 k0).toArray
def ZY:Uk QV:=λF x vs=>∃p0 k0,vs=Qe x p0 k0/\QI 1 (Ex<|Z6 .i64) F p0 k0 x.N
theorem H6:∀fs,Tryz.prog.underlying 31=some (.struct fs)->Places Tryz.prog fs #[(0,1),(1,1)]:=λfs h=>by
 obtain rfl:=u2<|y1<|Tryz.underlying31.symm.trans h;intro w;kernel_rfl
abbrev A8(U:Jx):Fz->Nat->QJ->HP:=WW 203<|Ll U
abbrev Qu(U:Jx)(F:Fz)(xs:UV QJ):HP:=ZB U.g203 (A8 U) F xs
theorem JB(U:Jx):Hb (A8 U):=WW.stays
theorem Xj(U:Jx){x:QJ}:∀F vs,(Ll U) F x vs->vs.length=26:=λ_ _ ⟨_,_,h,_⟩=>h▸rfl
abbrev Mj(U:Jx):Fz->Nat->Ql->HP:=WW 194<|Lm U
abbrev Q8(U:Jx)(F:Fz)(xs:UV Ql):HP:=ZB U.g194 (Mj U) F xs
theorem KZ(U:Jx):Hb (Mj U):=WW.stays
theorem xm(U:Jx){x:Ql}:∀F vs,(Lm U) F x vs->vs.length=2:=λ_ _ ⟨_,_,h,_⟩=>h▸rfl
abbrev Ov(U:Jx):Fz->Nat->QD->HP:=WW 216<|AE U
abbrev ZX(U:Jx)(F:Fz)(xs:UV QD):HP:=ZB U.g216 (Ov U) F xs
theorem YC(U:Jx):Hb (Ov U):=WW.stays
theorem Xi(U:Jx){x:QD}:∀F vs,(AE U) F x vs->vs.length=48:=λ_ _ ⟨_,_,_,_,_,_,_,_,h,_,_,_,_⟩=>h▸rfl
abbrev fR(U:Jx):Fz->Nat->Qr->HP:=WW 50 AD
abbrev Wu(U:Jx)(F:Fz)(xs:UV Qr):HP:=ZB U.g50 (fR U) F xs
theorem Vy(U:Jx):Hb (fR U):=WW.stays
theorem gj{x:Qr}:∀F vs,AD F x vs->vs.length=9:=λ_ _ ⟨_,_,_,_,_,_,_,_,_,_,_,_,h,_,_,_,_,_,_⟩=>h▸rfl
abbrev Px(U:Jx):Fz->Nat->UV (Int×QE)->HP:=QZ (λx:Int=>(.int .i64 x)) λ_ (x:QE) v=>v=(J1 x)
abbrev KQ(U:Jx)(F:Fz)(xs:UV (UV<|Int×QE)):HP:=ZB U.g214 (Px U) F xs
theorem VN(U:Jx):Hb (Px U):=HT
abbrev FC(U:Jx):Fz->Nat->UV (Int×Bool)->HP:=QZ (λx:Int=>(.int .i64 x)) λ_ (x:Bool) v=>v=(.bool x)
abbrev Qf(U:Jx)(F:Fz)(xs:UV (UV<|Int×Bool)):HP:=ZB U.g199 (FC U) F xs
theorem Zm(U:Jx):Hb (FC U):=HT
abbrev Py(U:Jx):Fz->Nat->UV (Int×(H1 Nat))->HP:=QZ (λx:Int=>(.int .i64 x)) λF (x:(H1 Nat)) v=>∃(p0:H1 OF) (k0:Unit),v=(.pointer p0)/\ZP U.g203 F p0 x
abbrev ZA(U:Jx)(F:Fz)(xs:UV (UV<|Int×(H1 Nat))):HP:=ZB U.g192 (Py U) F xs
theorem Kn(U:Jx):Hb (Py U):=HT
def WK(x:Zk):Do:=.iface 240<|qA x
def Xc(x:Zq):Do:=.iface 259<|M9 x
def JW(x:Qo):Do:=.iface 55<|M8 x
def Q3(U:Jx)(F:Fz)(L:QA):HP:=wR (λq:H1 OF×H1 OF×Nat×H1 OF×Nat×H1 OF×Nat×Nat×Nat=>U2 116 Ky F q.1 L.rules) λq=>[pc U.g48 (Qk L q.1 () q.2.1 q.2.2.1 q.2.2.2.1 q.2.2.2.2.1 q.2.2.2.2.2.1 q.2.2.2.2.2.2.1 (some q.2.2.2.2.2.2.2.1) () (some q.2.2.2.2.2.2.2.2) ()) 48,Qj 8 (Ex QK) F 95 q.2.1 q.2.2.1<|L.casks,Qj 6 (Ex QN) F 98 q.2.2.2.1 q.2.2.2.2.1<|L.duties,Qj 4 (Ex QT) F 101 q.2.2.2.2.2.1 q.2.2.2.2.2.2.1<|L.stamps,QZ (λx:Int=>(.int .i64 x)) (λF (x:QU) v=>∃(p0:H1 OF) (k0:Nat),v=(Zs x p0 k0)/\QI 27 (Ex QM) F p0 k0 x.Draughts) F q.2.2.2.2.2.2.2.1<|L.batches,QZ (λx:Int=>(.int .i64 x)) (λ_ (x:Int) v=>v=(.int .i64 x)) F q.2.2.2.2.2.2.2.2<|L.pure]
theorem FI{m:Mem}(le:F<=F'):Q3 U F L m->Q3 U F' L m:=fun⟨q,h,hm⟩=>⟨q,h.mono le,ZT (λ_ h=>h) (ZT (λ_=>WQ le)<|ZT (λ_=>WQ le)<|ZT (λ_=>WQ le)<|ZT (λ_=>Je le)<|ZT (λ_=>Je le) λ_ h=>h) m hm⟩
theorem _root_.Go.Dec.GG.bX(i:Nat)(hi:hs[i]? =some (Q3 U F L))(k:∀(p0:H1 OF) (p1:H1 OF) (p2:Nat) (p3:H1 OF) (p4:Nat) (p5:H1 OF) (p6:Nat) (p7:Nat) (p8:Nat),U2 116 Ky F p0 L.rules->GG g (Hd n D S F<|[pc U.g48 (Qk L p0 () p1 p2 p3 p4 p5 p6 (some p7) () (some p8) ()) 48,Qj 8 (Ex QK) F 95 p1 p2<|L.casks,Qj 6 (Ex QN) F 98 p3 p4<|L.duties,Qj 4 (Ex QT) F 101 p5 p6<|L.stamps,QZ (λx:Int=>(.int .i64 x)) (λF (x:QU) v=>∃(p0:H1 OF) (k0:Nat),v=(Zs x p0 k0)/\QI 27 (Ex QM) F p0 k0 x.Draughts) F p7<|L.batches,QZ (λx:Int=>(.int .i64 x)) (λ_ (x:Int) v=>v=(.int .i64 x)) F p8<|L.pure]++hs.eraseIdx i) m r):GG g (Hd n D S F hs) m r:=GG.sZ i hi λq h=>k q.1 q.2.1 q.2.2.1 q.2.2.2.1 q.2.2.2.2.1 q.2.2.2.2.2.1 q.2.2.2.2.2.2.1 q.2.2.2.2.2.2.2.1 q.2.2.2.2.2.2.2.2 h
theorem _root_.Go.Dec.GG.bZ{F1:Fz}{F2:Fz}{F3:Fz}{F4:Fz}{F5:Fz}{p0:H1 OF}{p1:H1 OF}{p2:Nat}{p3:H1 OF}{p4:Nat}{p5:H1 OF}{p6:Nat}{p7:Nat}{p8:Nat}(is:UV Nat)(h0:U2 116 Ky F p0 L.rules)(l1:F1<=F)(l2:F2<=F)(l3:F3<=F)(l4:F4<=F)(l5:F5<=F)(hp:YD is hs=[pc U.g48 (Qk L p0 () p1 p2 p3 p4 p5 p6 (some p7) () (some p8) ()) 48,Qj 8 (Ex QK) F1 95 p1 p2<|L.casks,Qj 6 (Ex QN) F2 98 p3 p4<|L.duties,Qj 4 (Ex QT) F3 101 p5 p6<|L.stamps,QZ (λx:Int=>(.int .i64 x)) (λF (x:QU) v=>∃(p0:H1 OF) (k0:Nat),v=(Zs x p0 k0)/\QI 27 (Ex QM) F p0 k0 x.Draughts) F4 p7<|L.batches,QZ (λx:Int=>(.int .i64 x)) (λ_ (x:Int) v=>v=(.int .i64 x)) F5 p8<|L.pure])(k:GG g (Hd n D S F<|Q3 U F L::J4 is hs) m r):GG g (Hd n D S F hs) m r:=GG.sA is (p0,p1,p2,p3,p4,p5,p6,p7,p8) h0 hp (ZT (λ_ h=>h)<|ZT (λ_=>WQ l1)<|ZT (λ_=>WQ l2)<|ZT (λ_=>WQ l3)<|ZT (λ_=>Je l4)<|ZT (λ_=>Je l5) λ_ h=>h) k
def J0(U:Jx)(F:Fz)(L:QA):HP:=wR (λq:H1 OF×H1 OF×Nat×H1 OF×Nat×H1 OF×Nat×Nat×Nat=>U2 116 Ky F q.1 L.rules) λq=>[pc U.g48 (Qk L q.1 () q.2.1 q.2.2.1 q.2.2.2.1 q.2.2.2.2.1 q.2.2.2.2.2.1 q.2.2.2.2.2.2.1 (some q.2.2.2.2.2.2.2.1) () (some q.2.2.2.2.2.2.2.2) ()) 48,kA 8 (Ex QK) F 95 q.2.1 q.2.2.1<|L.casks,kA 6 (Ex QN) F 98 q.2.2.2.1 q.2.2.2.2.1<|L.duties,kA 4 (Ex QT) F 101 q.2.2.2.2.2.1 q.2.2.2.2.2.2.1<|L.stamps,QZ (λx:Int=>(.int .i64 x)) (λF (x:QU) v=>∃(p0:H1 OF) (k0:Nat),v=(Zs x p0 k0)/\QI 27 (Ex QM) F p0 k0 x.Draughts) F q.2.2.2.2.2.2.2.1<|L.batches,QZ (λx:Int=>(.int .i64 x)) (λ_ (x:Int) v=>v=(.int .i64 x)) F q.2.2.2.2.2.2.2.2<|L.pure]
theorem yk{m:Mem}(le:F<=F'):J0 U F L m->J0 U F' L m:=fun⟨q,h,hm⟩=>⟨q,h.mono le,ZT (λ_ h=>h) (ZT (λ_=>qh le)<|ZT (λ_=>qh le)<|ZT (λ_=>qh le)<|ZT (λ_=>Je le)<|ZT (λ_=>Je le) λ_ h=>h) m hm⟩
theorem Yd{m:Mem}:Q3 U F L m->J0 U F L m:=fun⟨q,h,hm⟩=>⟨q,h,ZT (λ_ h=>h) (ZT (λ_ h=>.inl h)<|ZT (λ_ h=>.inl h)<|ZT (λ_ h=>.inl h)<|ZT (λ_ h=>h)<|ZT (λ_ h=>h) λ_ h=>h) m hm⟩
theorem _root_.Go.Dec.GG.tf{F1:Fz}{F2:Fz}{p0:H1 OF}{p1:H1 OF}{p2:Nat}{p3:H1 OF}{p4:Nat}{p5:H1 OF}{p6:Nat}{p7:Nat}{p8:Nat}(is:UV Nat)(h0:U2 116 Ky F p0 L.rules)(l1:F1<=F)(l2:F2<=F)(hp:YD is hs=[pc U.g48 (Qk L p0 () p1 p2 p3 p4 p5 p6 (some p7) () (some p8) ()) 48,kA 8 (Ex QK) F 95 p1 p2<|L.casks,kA 6 (Ex QN) F 98 p3 p4<|L.duties,kA 4 (Ex QT) F 101 p5 p6<|L.stamps,QZ (λx:Int=>(.int .i64 x)) (λF (x:QU) v=>∃(p0:H1 OF) (k0:Nat),v=(Zs x p0 k0)/\QI 27 (Ex QM) F p0 k0 x.Draughts) F1 p7<|L.batches,QZ (λx:Int=>(.int .i64 x)) (λ_ (x:Int) v=>v=(.int .i64 x)) F2 p8<|L.pure])(k:GG g (Hd n D S F<|J0 U F L::J4 is hs) m r):GG g (Hd n D S F hs) m r:=GG.sA is (p0,p1,p2,p3,p4,p5,p6,p7,p8) h0 hp (ZT (λ_ h=>h)<|ZT (λ_ h=>h)<|ZT (λ_ h=>h)<|ZT (λ_ h=>h)<|ZT (λ_=>Je l1)<|ZT (λ_=>Je l2) λ_ h=>h) k
def FX(U:Jx)(F:Fz)(L:Zp):HP:=wR (λ_:Unit=>True) λ_=>[pc U.g60 (W2 L) 60]
theorem gf{L:Zp}{m:Mem}(_le:F<=F'):FX U F L m->FX U F' L m:=λh=>h
theorem _root_.Go.Dec.GG.pS{L:Zp}(i:Nat)(hi:hs[i]? =some (FX U F L))(k:GG g (Hd n D S F<|[pc U.g60 (W2 L) 60]++hs.eraseIdx i) m r):GG g (Hd n D S F hs) m r:=GG.sZ i hi λ_ _=>k
theorem _root_.Go.Dec.GG.tg{L:Zp}(is:UV Nat)(hp:YD is hs=[pc U.g60 (W2 L) 60])(k:GG g (Hd n D S F<|FX U F L::J4 is hs) m r):GG g (Hd n D S F hs) m r:=GG.sA is () trivial hp (ZT (λ_ h=>h) λ_ h=>h) k
theorem Gf:Ud Tryz.prog 3 1 (Ex<|Z6 .i64):=.ex (λ_=>rfl) (λ_=>rfl) Tryz.sizeOf3 ⟨_,Tryz.typeInfo3,by decide+kernel,by decide+kernel⟩ ⟨_,Tryz.zeroValue3,rfl⟩
theorem xE:Ud Tryz.prog 9 1 (Ex S5):=.ex (λ_=>rfl) (λ_=>rfl) Tryz.sizeOf9 ⟨_,Tryz.typeInfo9,by decide+kernel,by decide+kernel⟩ ⟨_,Tryz.zeroValue9,rfl⟩
theorem zE:Ud Tryz.prog 95 8 (Ex QK):=.ex (λ_=>rfl) (λ_=>rfl) Tryz.sizeOf95 ⟨_,Tryz.typeInfo95,by decide+kernel,by decide+kernel⟩ ⟨_,Tryz.zeroValue95,rfl⟩
theorem zD:Ud Tryz.prog 98 6 (Ex QN):=.ex (λ_=>rfl) (λ_=>rfl) Tryz.sizeOf98 ⟨_,Tryz.typeInfo98,by decide+kernel,by decide+kernel⟩ ⟨_,Tryz.zeroValue98,rfl⟩
theorem OD:Ud Tryz.prog 101 4 (Ex QT):=.ex (λ_=>rfl) (λ_=>rfl) Tryz.sizeOf101 ⟨_,Tryz.typeInfo101,by decide+kernel,by decide+kernel⟩ ⟨_,Tryz.zeroValue101,rfl⟩
theorem X3:Ud Tryz.prog 105 2 (Ex QY):=.ex (λ_=>rfl) (λ_=>rfl) Tryz.sizeOf105 ⟨_,Tryz.typeInfo105,by decide+kernel,by decide+kernel⟩ ⟨_,Tryz.zeroValue105,rfl⟩
theorem kH:Ud Tryz.prog 121 2 (Ex Zd):=.ex (λ_=>rfl) (λ_=>rfl) Tryz.sizeOf121 ⟨_,Tryz.typeInfo121,by decide+kernel,by decide+kernel⟩ ⟨_,Tryz.zeroValue121,rfl⟩
theorem kG:Ud Tryz.prog 128 24 (Ex Qy):=.ex (λ_=>rfl) (λ_=>rfl) Tryz.sizeOf128 ⟨_,Tryz.typeInfo128,by decide+kernel,by decide+kernel⟩ ⟨_,Tryz.zeroValue128,rfl⟩
theorem kF:Ud Tryz.prog 137 27 (Ex QM):=.ex (λ_=>rfl) (λ_=>rfl) Tryz.sizeOf137 ⟨_,Tryz.typeInfo137,by decide+kernel,by decide+kernel⟩ ⟨_,Tryz.zeroValue137,rfl⟩
theorem u9:Ud Tryz.prog 154 3 (Ex KI):=.ex (λ_=>rfl) (λ_=>rfl) Tryz.sizeOf154 ⟨_,Tryz.typeInfo154,by decide+kernel,by decide+kernel⟩ ⟨_,Tryz.zeroValue154,rfl⟩
theorem kE:Ud Tryz.prog 219 5 (Ex ZL):=.ex (λ_=>rfl) (λ_=>rfl) Tryz.sizeOf219 ⟨_,Tryz.typeInfo219,by decide+kernel,by decide+kernel⟩ ⟨_,Tryz.zeroValue219,rfl⟩
theorem OC:Ud Tryz.prog 220 1 (gg 2<|Ex QY):=.mk (λ_ _ _ ⟨_,_,h,_⟩=>h▸rfl) (λ_ _ _ ⟨_,_,h,_⟩=>h▸rfl) (λ_ _ _ _ le ⟨q0,q1,h,h0⟩=>⟨q0,q1,h,h0.mono le⟩) Tryz.sizeOf220 ⟨_,Tryz.typeInfo220,by decide+kernel,by decide+kernel⟩ ⟨_,Tryz.zeroValue220,rfl⟩
def Tryz.ct:Go.Shelf.Ren:=⟨fun | 6=>101 | 8=>135 | 9=>136 | 11=>188 | 13=>190 | 12=>189 | 23=>224 | 24=>192 | 14=>215 | 15=>216 | 16=>217 | 17=>218 | 18=>219 | 19=>220 | 20=>221 | 21=>222 | 22=>223 | 25=>234 | 26=>235 | 27=>236 | 28=>237 | 29=>238 | 30=>239 | 31=>240 | n=>n,fun | 26=>3 | 28=>197 | 24=>29 | 0=>0 | 3=>3 | 37=>255 | 48=>275 | 50=>249 | 4=>4 | 40=>289 | 39=>288 | 45=>51 | 5=>5 | 9=>9 | 51=>301 | 55=>223 | 57=>308 | 58=>309 | 33=>71 | n=>n,fun | n=>n⟩
theorem Tryz.cC:Go.Proofs.SlLaysZI.n6 Tryz.prog Tryz.ct:={
 mixed:=by kernel_rfl
 f6:=⟨Tryz.f101.name,by decide,Tryz.func101.trans<|congrArg some<|by kernel_rfl⟩
 f8:=⟨Tryz.f135.name,by decide,Tryz.func135.trans<|congrArg some<|by kernel_rfl⟩
 f11:=⟨Tryz.f188.name,by decide,Tryz.func188.trans<|congrArg some<|by kernel_rfl⟩
 t0:=Tryz.underlying0
 a0:=Tryz.isAgg0
 z0:=Tryz.sizeOf0
 v0:=Tryz.zeroValue0
 t24:=Tryz.underlying29
 a24:=Tryz.isAgg29
 z24:=Tryz.sizeOf29
 v24:=Tryz.zeroValue29
 t26:=Tryz.underlying3
 a26:=Tryz.isAgg3
 z26:=Tryz.sizeOf3
 v26:=Tryz.zeroValue3
 t28:=Tryz.underlying197
 a28:=Tryz.isAgg197
 z28:=Tryz.sizeOf197
 v28:=Tryz.zeroValue197
 i26:=by kernel_rfl}
def Tryz.aB:Go.Shelf.Ren:=⟨fun | 5=>136 | 8=>190 | 7=>189 | 19=>224 | 20=>192 | 10=>215 | 11=>216 | 12=>217 | 13=>218 | 14=>219 | 15=>220 | 16=>221 | 17=>222 | 18=>223 | 30=>234 | 31=>235 | 32=>236 | 33=>237 | 34=>238 | 35=>239 | 40=>240 | n=>n,fun | 23=>29 | 25=>3 | 3=>3 | 32=>255 | 22=>29 | 0=>0 | 44=>275 | 46=>249 | 4=>4 | 36=>289 | 35=>288 | 41=>51 | 5=>5 | 9=>9 | 53=>301 | 57=>223 | 63=>308 | 64=>309 | n=>n,fun | n=>n⟩
theorem Tryz.ak:Go.Proofs.SlLaysM.n5 Tryz.prog Tryz.aB:={
 mixed:=by kernel_rfl
 f5:=⟨Tryz.f136.name,by decide,Tryz.func136.trans<|congrArg some<|by kernel_rfl⟩
 f7:=⟨Tryz.f189.name,by decide,Tryz.func189.trans<|congrArg some<|by kernel_rfl⟩
 f8:=Tryz.func190.trans<|congrArg some<|by kernel_rfl
 f10:=⟨Tryz.f215.name,by decide,Tryz.func215.trans<|congrArg some<|by kernel_rfl⟩
 f11:=⟨Tryz.f216.name,by decide,Tryz.func216.trans<|congrArg some<|by kernel_rfl⟩
 f12:=⟨Tryz.f217.name,by decide,Tryz.func217.trans<|congrArg some<|by kernel_rfl⟩
 f13:=⟨Tryz.f218.name,by decide,Tryz.func218.trans<|congrArg some<|by kernel_rfl⟩
 f14:=⟨Tryz.f219.name,by decide,Tryz.func219.trans<|congrArg some<|by kernel_rfl⟩
 f15:=⟨Tryz.f220.name,by decide,Tryz.func220.trans<|congrArg some<|by kernel_rfl⟩
 f16:=⟨Tryz.f221.name,by decide,Tryz.func221.trans<|congrArg some<|by kernel_rfl⟩
 f17:=⟨Tryz.f222.name,by decide,Tryz.func222.trans<|congrArg some<|by kernel_rfl⟩
 f18:=⟨Tryz.f223.name,by decide,Tryz.func223.trans<|congrArg some<|by kernel_rfl⟩
 f19:=Tryz.func224.trans<|congrArg some<|by kernel_rfl
 f20:=Tryz.func192.trans<|congrArg some<|by kernel_rfl
 f30:=⟨Tryz.f234.name,by decide,Tryz.func234.trans<|congrArg some<|by kernel_rfl⟩
 f31:=Tryz.func235.trans<|congrArg some<|by kernel_rfl
 f32:=Tryz.func236.trans<|congrArg some<|by kernel_rfl
 f33:=⟨Tryz.f237.name,by decide,Tryz.func237.trans<|congrArg some<|by kernel_rfl⟩
 f34:=⟨Tryz.f238.name,by decide,Tryz.func238.trans<|congrArg some<|by kernel_rfl⟩
 f35:=⟨Tryz.f239.name,by decide,Tryz.func239.trans<|congrArg some<|by kernel_rfl⟩
 f40:=⟨Tryz.f240.name,by decide,Tryz.func240.trans<|congrArg some<|by kernel_rfl⟩
 t0:=Tryz.underlying0
 a0:=Tryz.isAgg0
 z0:=Tryz.sizeOf0
 v0:=Tryz.zeroValue0
 t3:=Tryz.underlying3
 a3:=Tryz.isAgg3
 z3:=Tryz.sizeOf3
 v3:=Tryz.zeroValue3
 t4:=Tryz.underlying4
 a4:=Tryz.isAgg4
 z4:=Tryz.sizeOf4
 v4:=Tryz.zeroValue4
 t5:=Tryz.underlying5
 a5:=Tryz.isAgg5
 z5:=Tryz.sizeOf5
 v5:=Tryz.zeroValue5
 t9:=Tryz.underlying9
 a9:=Tryz.isAgg9
 z9:=Tryz.sizeOf9
 v9:=Tryz.zeroValue9
 t22:=Tryz.underlying29
 a22:=Tryz.isAgg29
 z22:=Tryz.sizeOf29
 v22:=Tryz.zeroValue29
 t23:=Tryz.underlying29
 a23:=Tryz.isAgg29
 z23:=Tryz.sizeOf29
 v23:=Tryz.zeroValue29
 t25:=Tryz.underlying3
 a25:=Tryz.isAgg3
 z25:=Tryz.sizeOf3
 v25:=Tryz.zeroValue3
 t32:=Tryz.underlying255
 a32:=Tryz.isAgg255
 z32:=Tryz.sizeOf255
 v32:=Tryz.zeroValue255
 t35:=Tryz.underlying288
 a35:=Tryz.isAgg288
 z35:=Tryz.sizeOf288
 v35:=Tryz.zeroValue288
 t36:=Tryz.underlying289
 a36:=Tryz.isAgg289
 z36:=Tryz.sizeOf289
 v36:=Tryz.zeroValue289
 t41:=Tryz.underlying51
 a41:=Tryz.isAgg51
 z41:=Tryz.sizeOf51
 v41:=Tryz.zeroValue51
 t44:=Tryz.underlying275
 a44:=Tryz.isAgg275
 z44:=Tryz.sizeOf275
 v44:=Tryz.zeroValue275
 t46:=Tryz.underlying249
 a46:=Tryz.isAgg249
 z46:=Tryz.sizeOf249
 v46:=Tryz.zeroValue249
 t53:=Tryz.underlying301
 a53:=Tryz.isAgg301
 z53:=Tryz.sizeOf301
 v53:=Tryz.zeroValue301
 t57:=Tryz.underlying223
 a57:=Tryz.isAgg223
 z57:=Tryz.sizeOf223
 v57:=Tryz.zeroValue223
 t63:=Tryz.underlying308
 a63:=Tryz.isAgg308
 z63:=Tryz.sizeOf308
 v63:=Tryz.zeroValue308
 t64:=Tryz.underlying309
 a64:=Tryz.isAgg309
 z64:=Tryz.sizeOf309
 v64:=Tryz.zeroValue309}
theorem Dh(m:Nat):Go.Proofs.AnyZI.SortsIn Tryz.prog Tryz.ct Fence.wide m:=⟨λblk off cap ss W hH hblk hsz=>nP.2<|Go.Proofs.AnyM.slices_Sort_int Tryz.ak blk off cap ss W hH hblk hsz,λp cap W=>nP.2<|Go.Proofs.AnyM.slices_Sort_int_none Tryz.ak p cap W⟩
def Tryz.cV:Go.Shelf.Ren:=⟨fun | 7=>147 | 10=>197 | n=>n,fun | 23=>192 | 26=>3 | 3=>191 | 28=>197 | 0=>0 | 27=>196 | 33=>71 | 4=>4 | n=>n,fun | n=>n⟩
theorem Tryz.sn:Go.Proofs.SlLaysZI.n7 Tryz.prog Tryz.cV:={
 mixed:=by kernel_rfl
 f7:=⟨Tryz.f147.name,by decide,Tryz.func147.trans<|congrArg some<|by kernel_rfl⟩
 f10:=⟨Tryz.f197.name,by decide,Tryz.func197.trans<|congrArg some<|by kernel_rfl⟩
 t0:=Tryz.underlying0
 a0:=Tryz.isAgg0
 z0:=Tryz.sizeOf0
 v0:=Tryz.zeroValue0
 t4:=Tryz.underlying4
 a4:=Tryz.isAgg4
 z4:=Tryz.sizeOf4
 v4:=Tryz.zeroValue4
 t23:=Tryz.underlying192
 a23:=Tryz.isAgg192
 z23:=Tryz.sizeOf192
 v23:=Tryz.zeroValue192
 t26:=Tryz.underlying3
 a26:=Tryz.isAgg3
 z26:=Tryz.sizeOf3
 v26:=Tryz.zeroValue3
 t27:=Tryz.underlying196
 a27:=Tryz.isAgg196
 z27:=Tryz.sizeOf196
 v27:=Tryz.zeroValue196
 t28:=Tryz.underlying197
 a28:=Tryz.isAgg197
 z28:=Tryz.sizeOf197
 v28:=Tryz.zeroValue197
 t33:=Tryz.underlying71
 a33:=Tryz.isAgg71
 z33:=Tryz.sizeOf71
 v33:=Tryz.zeroValue71}
theorem jg:KeysOf Tryz.prog 147 197 192:=λmb W=>(nP (n:=5)).1<|eW Tryz.sn Fence.wide 5 trivial rfl mb W
theorem Mo:Fp Tryz.prog 101 197 3 3:=by
 refine⟨λb nn D Bm w hBm hm hown hsz=> ?_,λBm w hBm hm=> ?_⟩
 ·have hseq:SeqGives Fence.wide 2 Tryz.prog 197 #[.pointer<|some ⟨Bm,0,none⟩] encZ (λss=>ss.Perm<|intKeys D) (Maps.size D) w:=eJ (ρ:=Tryz.cV) {Tryz.sn with} Fence.wide _ trivial rfl (by omega) Bm b nn D w hBm hm hown;have h:=mW Tryz.cC Fence.wide 5 trivial trivial trivial trivial rfl (by omega) (Dh _) Tryz.call136 197 #[.pointer<|some ⟨Bm,0,none⟩] trivial Tryz.call197 _ _ (me hsz (by unfold maxLen;omega)) (by omega) _ hseq;exact(nP (n:=5)).1 h
 ·have hseq:SeqGives Fence.wide 2 Tryz.prog 197 #[.pointer<|some ⟨Bm,0,none⟩] encZ (λss:UV Int=>ss=[]) 0 w:=lx (ρ:=Tryz.cV) {Tryz.sn with} Fence.wide _ trivial rfl Bm w hBm hm;have h:=mW Tryz.cC Fence.wide 5 trivial trivial trivial trivial rfl (by omega) (Dh _) Tryz.call136 197 #[.pointer<|some ⟨Bm,0,none⟩] trivial Tryz.call197 _ 0 (eQ _) (by omega) _ hseq;refine((nP (n:=5)).1 h).mono ?_;rintro e w' ⟨v,ss,rfl,rfl,hrow,hnil,hb⟩;obtain rfl:v= .slice none 0 0:=hnil.2 rfl;exact⟨rfl,hb⟩
def Tryz.cW:Go.Shelf.Ren:=⟨fun | 7=>111 | 10=>154 | n=>n,fun | 23=>214 | 26=>3 | 3=>219 | 28=>197 | 0=>0 | 27=>196 | 33=>71 | 4=>4 | n=>n,fun | n=>n⟩
theorem Tryz.sq:Go.Proofs.SlLaysZI.n7 Tryz.prog Tryz.cW:={
 mixed:=by kernel_rfl
 f7:=⟨Tryz.f111.name,by decide,Tryz.func111.trans<|congrArg some<|by kernel_rfl⟩
 f10:=⟨Tryz.f154.name,by decide,Tryz.func154.trans<|congrArg some<|by kernel_rfl⟩
 t0:=Tryz.underlying0
 a0:=Tryz.isAgg0
 z0:=Tryz.sizeOf0
 v0:=Tryz.zeroValue0
 t4:=Tryz.underlying4
 a4:=Tryz.isAgg4
 z4:=Tryz.sizeOf4
 v4:=Tryz.zeroValue4
 t23:=Tryz.underlying214
 a23:=Tryz.isAgg214
 z23:=Tryz.sizeOf214
 v23:=Tryz.zeroValue214
 t26:=Tryz.underlying3
 a26:=Tryz.isAgg3
 z26:=Tryz.sizeOf3
 v26:=Tryz.zeroValue3
 t27:=Tryz.underlying196
 a27:=Tryz.isAgg196
 z27:=Tryz.sizeOf196
 v27:=Tryz.zeroValue196
 t28:=Tryz.underlying197
 a28:=Tryz.isAgg197
 z28:=Tryz.sizeOf197
 v28:=Tryz.zeroValue197
 t33:=Tryz.underlying71
 a33:=Tryz.isAgg71
 z33:=Tryz.sizeOf71
 v33:=Tryz.zeroValue71}
theorem jh:KeysOf Tryz.prog 111 154 214:=λmb W=>(nP (n:=5)).1<|eW Tryz.sq Fence.wide 5 trivial rfl mb W
theorem Mp:Fp Tryz.prog 101 154 3 3:=by
 refine⟨λb nn D Bm w hBm hm hown hsz=> ?_,λBm w hBm hm=> ?_⟩
 ·have hseq:SeqGives Fence.wide 2 Tryz.prog 154 #[.pointer<|some ⟨Bm,0,none⟩] encZ (λss=>ss.Perm<|intKeys D) (Maps.size D) w:=eJ (ρ:=Tryz.cW) {Tryz.sq with} Fence.wide _ trivial rfl (by omega) Bm b nn D w hBm hm hown;have h:=mW Tryz.cC Fence.wide 5 trivial trivial trivial trivial rfl (by omega) (Dh _) Tryz.call136 154 #[.pointer<|some ⟨Bm,0,none⟩] trivial Tryz.call154 _ _ (me hsz (by unfold maxLen;omega)) (by omega) _ hseq;exact(nP (n:=5)).1 h
 ·have hseq:SeqGives Fence.wide 2 Tryz.prog 154 #[.pointer<|some ⟨Bm,0,none⟩] encZ (λss:UV Int=>ss=[]) 0 w:=lx (ρ:=Tryz.cW) {Tryz.sq with} Fence.wide _ trivial rfl Bm w hBm hm;have h:=mW Tryz.cC Fence.wide 5 trivial trivial trivial trivial rfl (by omega) (Dh _) Tryz.call136 154 #[.pointer<|some ⟨Bm,0,none⟩] trivial Tryz.call154 _ 0 (eQ _) (by omega) _ hseq;refine((nP (n:=5)).1 h).mono ?_;rintro e w' ⟨v,ss,rfl,rfl,hrow,hnil,hb⟩;obtain rfl:v= .slice none 0 0:=hnil.2 rfl;exact⟨rfl,hb⟩
def Tryz.cX:Go.Shelf.Ren:=⟨fun | 7=>102 | 10=>137 | n=>n,fun | 23=>199 | 26=>3 | 3=>4 | 28=>197 | 0=>0 | 27=>196 | 33=>71 | 4=>4 | n=>n,fun | n=>n⟩
theorem Tryz.sr:Go.Proofs.SlLaysZI.n7 Tryz.prog Tryz.cX:={
 mixed:=by kernel_rfl
 f7:=⟨Tryz.f102.name,by decide,Tryz.func102.trans<|congrArg some<|by kernel_rfl⟩
 f10:=⟨Tryz.f137.name,by decide,Tryz.func137.trans<|congrArg some<|by kernel_rfl⟩
 t0:=Tryz.underlying0
 a0:=Tryz.isAgg0
 z0:=Tryz.sizeOf0
 v0:=Tryz.zeroValue0
 t4:=Tryz.underlying4
 a4:=Tryz.isAgg4
 z4:=Tryz.sizeOf4
 v4:=Tryz.zeroValue4
 t23:=Tryz.underlying199
 a23:=Tryz.isAgg199
 z23:=Tryz.sizeOf199
 v23:=Tryz.zeroValue199
 t26:=Tryz.underlying3
 a26:=Tryz.isAgg3
 z26:=Tryz.sizeOf3
 v26:=Tryz.zeroValue3
 t27:=Tryz.underlying196
 a27:=Tryz.isAgg196
 z27:=Tryz.sizeOf196
 v27:=Tryz.zeroValue196
 t28:=Tryz.underlying197
 a28:=Tryz.isAgg197
 z28:=Tryz.sizeOf197
 v28:=Tryz.zeroValue197
 t33:=Tryz.underlying71
 a33:=Tryz.isAgg71
 z33:=Tryz.sizeOf71
 v33:=Tryz.zeroValue71}
theorem EE:KeysOf Tryz.prog 102 137 199:=λmb W=>(nP (n:=5)).1<|eW Tryz.sr Fence.wide 5 trivial rfl mb W
theorem AA:Fp Tryz.prog 101 137 3 3:=by
 refine⟨λb nn D Bm w hBm hm hown hsz=> ?_,λBm w hBm hm=> ?_⟩
 ·have hseq:SeqGives Fence.wide 2 Tryz.prog 137 #[.pointer<|some ⟨Bm,0,none⟩] encZ (λss=>ss.Perm<|intKeys D) (Maps.size D) w:=eJ (ρ:=Tryz.cX) {Tryz.sr with} Fence.wide _ trivial rfl (by omega) Bm b nn D w hBm hm hown;have h:=mW Tryz.cC Fence.wide 5 trivial trivial trivial trivial rfl (by omega) (Dh _) Tryz.call136 137 #[.pointer<|some ⟨Bm,0,none⟩] trivial Tryz.call137 _ _ (me hsz (by unfold maxLen;omega)) (by omega) _ hseq;exact(nP (n:=5)).1 h
 ·have hseq:SeqGives Fence.wide 2 Tryz.prog 137 #[.pointer<|some ⟨Bm,0,none⟩] encZ (λss:UV Int=>ss=[]) 0 w:=lx (ρ:=Tryz.cX) {Tryz.sr with} Fence.wide _ trivial rfl Bm w hBm hm;have h:=mW Tryz.cC Fence.wide 5 trivial trivial trivial trivial rfl (by omega) (Dh _) Tryz.call136 137 #[.pointer<|some ⟨Bm,0,none⟩] trivial Tryz.call137 _ 0 (eQ _) (by omega) _ hseq;refine((nP (n:=5)).1 h).mono ?_;rintro e w' ⟨v,ss,rfl,rfl,hrow,hnil,hb⟩;obtain rfl:v= .slice none 0 0:=hnil.2 rfl;exact⟨rfl,hb⟩
abbrev JP:=UV<|UV<|Int×QE
abbrev ZS:=UV<|UV<|Int×Bool
abbrev JU:=UV<|UV<|Int×(H1 Nat)
def Uq(F:Fz)(p:x4)(c:UV Do×UV Do)(M:((QA×Unit×(UV Int))->H1 (Out Qo<|(UV So)×QA))):Prop:=∀U:Jx,A6 Tryz.prog JW F p c (fun(x:(QA×Unit×(UV Int))) F vs=>∃(p0:H1 OF) (k0:Nat),vs=[(vP U.g48 0),(vS p0 x.2.2 k0)]/\QI 1 (Ex<|Z6 .i64) F p0 k0 x.2.2) (λF (x:(QA×Unit×(UV Int)))=>[Q3 U F x.1]) (fun(r:(UV So)×QA) _ v=>v=(.string<|bs r.1)) (λF (x:(QA×Unit×(UV Int))) (r:(UV So)×QA)=>[J0 U F r.2]) M
theorem Uq.mono{p:x4}{c:UV Do×UV Do}{M:((QA×Unit×(UV Int))->H1 (Out Qo<|(UV So)×QA))}(h:Uq F p c M)(le:F<=F'):Uq F' p c M:=λU=>(h U).mono le
abbrev Fq(U:Jx)(F:Fz)(p:x4)(c:UV Do×UV Do)(M:(((UV QD)×(UV<|UV<|Int×QE)×(UV<|UV<|Int×Bool)×QP)->H1 (Out Zq<|(UV QD)×(UV<|UV<|Int×QE)×(UV<|UV<|Int×Bool)))):Prop:=A6 Tryz.prog Xc F p c (fun(x:((UV QD)×(UV<|UV<|Int×QE)×(UV<|UV<|Int×Bool)×QP)) _ vs=>vs=[(JJ x.2.2.2)]) (λF (x:((UV QD)×(UV<|UV<|Int×QE)×(UV<|UV<|Int×Bool)×QP))=>[ZX U F x.1,KQ U F x.2.1,Qf U F x.2.2.1]) (fun(r:(UV QD)×(UV<|UV<|Int×QE)×(UV<|UV<|Int×Bool)) _ v=>v= .tuple #[]) (λF (x:((UV QD)×(UV<|UV<|Int×QE)×(UV<|UV<|Int×Bool)×QP)) (r:(UV QD)×(UV<|UV<|Int×QE)×(UV<|UV<|Int×Bool))=>[ZX U F r.1,KQ U F r.2.1,Qf U F r.2.2]) M
abbrev SR(U:Jx)(F:Fz)(p:x4)(c:UV Do×UV Do)(M:(((UV QJ)×(UV Ql)×(UV<|UV<|Int×Bool)×(UV<|UV<|Int×(H1 Nat))×(H1 Nat)×QF)->H1 (Out Zk<|(UV QJ)×(UV<|UV<|Int×Bool)×(UV<|UV<|Int×(H1 Nat))))):Prop:=A6 Tryz.prog WK F p c (fun(x:((UV QJ)×(UV Ql)×(UV<|UV<|Int×Bool)×(UV<|UV<|Int×(H1 Nat))×(H1 Nat)×QF)) F vs=>∃(p0:H1 OF) (k0:Unit),vs=[(.pointer p0),(JK x.2.2.2.2.2)]/\ZP U.g194 F p0 x.2.2.2.2.1) (λF (x:((UV QJ)×(UV Ql)×(UV<|UV<|Int×Bool)×(UV<|UV<|Int×(H1 Nat))×(H1 Nat)×QF))=>[Qu U F x.1,Q8 U F x.2.1,Qf U F x.2.2.1,ZA U F x.2.2.2.1]) (fun(r:(UV QJ)×(UV<|UV<|Int×Bool)×(UV<|UV<|Int×(H1 Nat))) _ v=>v= .tuple #[]) (λF (x:((UV QJ)×(UV Ql)×(UV<|UV<|Int×Bool)×(UV<|UV<|Int×(H1 Nat))×(H1 Nat)×QF)) (r:(UV QJ)×(UV<|UV<|Int×Bool)×(UV<|UV<|Int×(H1 Nat)))=>[Qu U F r.1,Q8 U F x.2.1,Qf U F r.2.1,ZA U F r.2.2]) M
end
section
open Go.Dec Go.Proofs.Tryz Go.Shelf Go.RowKit Go.Maps Go.Sort
set_option maxRecDepth 100000
set_option maxHeartbeats 4000000
variable{σ ε:Type}
def Kx(y:(UV Int)->σ->H1 (Out ε<|σ×Bool))(c1:(UV Int))(c7:Int)(s10:Int×σ):H1 (UK (Int×σ)<|(Out ε σ) ⊕ (Out ε σ)):=if(decide<|s10.1 < (c1.length:Int)) then((ZW c1 s10.1 c1.length).bind λl14=>QR (Jj c7 (l14.length:Int)) λend_19=>(ZW c1 s10.1<|Q5<|s10.1+end_19).bind λl21=>Qw (y l21 s10.2) (λq=>some<|.done<|.inr<|.pan q) λp26=>if(!p26.2) then(some<|.done<|.inr<|.ok p26.1) else(QR (Q5<|s10.1+c7) λi31=>some<|.next (i31,p26.1))) else(some<|.done<|.inl<|.ok s10.2)
def Ui(y:(UV Int)->σ->H1 (Out ε<|σ×Bool))(c1:(UV Int))(c7:Int)(s0:σ):H1 (Out ε σ):=(ZQ (Kx y c1 c7) (0,s0)).bind λb0=>match b0 with | .inl b33=>(some b33) | .inr b33=>(some b33)
theorem CQ(F0:Fz)(ε σ:Type)(penc:ε->Do)(ly:Nat)(Y:σ->Fz->HP)(Z:ε->Fz->HP)(y:(UV Int)->σ->H1 (Out ε<|σ×Bool))(hy:Tv prog penc ly F0 (fun(x:(UV Int)) F vs=>∃(p0:H1 OF) (k0:Nat),vs=[(vS p0 x k0)]/\QI 1 (Ex<|Z6 .i64) F p0 k0 x) Y Z y)(c1:(UV Int))(b2:Nat)(p4:H1 OF)(k5:Nat)(hb3:F0.mem b2=some (.cells #[(vS p4 c1 k5)] 29))(h6:QI 1 (Ex<|Z6 .i64) F0 p4 k5 c1)(c7:Int)(b8:Nat)(hb9:F0.mem b8=some (.cells #[(vI c7)] 3))(s0:σ):fQ prog penc 84 #[(.func (.yield ly) #[] #[]),(vP b2 0),(vP b8 0)] F0 (Y s0 F0) (Ui y c1 c7 s0) Y Z:=by
 refine fQ.enter func84 J ntmps84 J λr R=> ?_;unfold Ui;refine .w 6 (.keep (.p [0,1,2,4] J)<|.loop (fun(s10:Int×σ) a w=>∃(F11:Fz),F0<=F11/\Hd 31 [] [(0,(.func (.yield ly) #[] #[])),(1,(vP b2 0)),(2,(vP b8 0)),(4,(vI s10.1))] F11 [Y s10.2 F11,R] a w) (λb0 e a w=>match b0 with | .inl (.ok b33)=>e= .exit 0/\∃(F34:Fz),F0<=F34/\Hd 31 [] [] F34 [Y b33 F34,R] a w | .inl (.pan q)=>False | .inr (.ok b33)=>e= .ret/\∃(F36:Fz),F0<=F36/\Hd 31 [] [] F36 [Y b33 F36,R] a w | .inr (.pan q)=>e= .panic (Ad penc q)/\∃(F36:Fz),F0<=F36/\Hd 31 [] [] F36 [Z q F36,R] a w) ?_ ?_ ?_)
 ·exact λa w h=>⟨F0,Fz.r,h.1.sub<|.k J,h.2⟩
 ·intro s10 ctl;refine GG.ex λa w ⟨F11,l12,hA⟩=>⟨_,hA,?_⟩;unfold Kx;refine .w 4<|.U J Ol J (l12.mem _ _ hb3) J<|.bW J J VI J<|.w 3<|.i J (λhb13=> ?_) λhb13=> ?_
  ·refine .w 5<|.keep (.p [0,1,2,4] J)<|.bH 7 Qd (by kernel_rfl)<|.U J V3 J (l12.mem _ _ hb9) J<|.U J Ol J (l12.mem _ _ hb3) J<|.m J J<|.cm J VI W3 (h6.mono l12) J J λl14 p15 k16 e17 h18=>.bW J J VI J<|.min2 J J J<|.bF J J λend_19 e20=>.bR<|.w 5<|.U J Ol J (l12.mem _ _ hb3) J<|.w 7<|.aU J VI W3 (h6.mono l12) J J J J λl21 p22 k23 e24 h25=>.rA J hy J J ⟨p22,k23,J,h25⟩ (i:=0) J l12 Fz.r (λp26 F27 _ l28=>.w 3<|.i J (λhb30=> ?_) λhb30=> ?_) λq F27 l28 hq a w hA=>Qz.pan (λa w h=>⟨J,F27,(Fz.t l12 l28),h.1.sub<|.k J,h.2⟩) hq a w hA
   ·refine .bc<|Qz.ret λa w h=>⟨J,F27,(Fz.t l12 l28),h.1.sub<|.k J,h.2⟩
   ·exact .w 5<|.U J V3 J ((Fz.t l12 l28).mem _ _ hb9) J<|.add J J J<|.bF J J λi31 e32=>.n<|.bA<|Qz.norm λa w h=>⟨F27,(Fz.t l12 l28),h.1.sub<|.k J,h.2⟩
  ·refine .bE J<|Qz.exit λa w h=>⟨J,F11,l12,h.1.sub<|.k J,h.2⟩
 ·intro z hb0 hk e a w hD;rcases z with(z | q) | (z | q)
  ·obtain⟨rfl,F1,l1,hA⟩:=hD;exact Q6 J<|GG.app (GG.bA<|Lg results84 .n l1) hk a w hA
  ·exact hD.elim
  ·obtain⟨rfl,F1,l1,hA⟩:=hD;exact K7<|Lg results84 .n l1 hk a w hA
  ·obtain⟨rfl,F1,l1,hA⟩:=hD;exact K8<|jW l1 hk a w hA
def Cx{α:Type}(n:Nat)(l:UV α):Nat->Nat->UV (UV α)
 | 0,_=>[]
 | d+1,a=>if a < l.length then(l.drop a).take n::Cx n l d (a+n) else[]
def U4(c1:(UV Int))(c7:Int):H1 (UV<|UV Int):=if 0 < c7/\c7<=1000000/\c1.length<=1000000000000 then some (Cx c7.toNat c1 c1.length 0) else none
theorem MO{y:(UV Int)->σ->H1 (Out ε<|σ×Bool)}{l:UV Int}{n:Nat}(hn:0 < n)(hn2:n<=1000000)(hl:l.length<=1000000000000):∀(d a:Nat) (s:σ) (r:Out ε σ),l.length<=a+d->a<=l.length+n->Gb y (Cx n l d a) s=some r->
  ZQ (Kx y l (n:Int)) ((a:Int),s)=some (.inl r)∨ZQ (Kx y l (n:Int)) ((a:Int),s)=some (.inr r)
 | 0,a,s,r,hk,_,h=>by
  simp only[Cx,Gb,BY] at h
  subst h;left;rw[ZC];have:¬a < l.length:=by omega
  simp[Kx,this]
 | d+1,a,s,r,hk,ha,h=>by
  by_cases hlt:a < l.length
  ·simp only[Cx,TO hlt,Gb] at h
   have hs0:ZW l (a:Int) (l.length:Int)=some (l.drop a):=by
    unfold ZW;rw[TO<|by omega];simp only[nW];rw[s5<|by simp]
   have hw:Q5 ((a:Int)+n)=((a+n:Nat):Int):=by rw[Qn (by omega)<|by omega];omega
   have he:Jj (n:Int) ((l.drop a).length:Int)=((min n (l.length - a):Nat):Int):=by
    unfold Jj;simp only[mg];split<;>omega
   have hs:ZW l (a:Int) (Q5<|(a:Int)+((min n (l.length - a):Nat):Int))=some ((l.drop a).take n):=by
    rw[Qn (by omega)<|by omega];unfold ZW;rw[TO<|by omega];congr 1;have e1:((a:Int)+((min n (l.length - a):Nat):Int)).toNat - (a:Int).toNat=min n (l.length - a):=by omega
    rw[e1,nW,<-mg,<-List.take_eq_take_min]
   rw[ZC]
   have hb:Kx y l (n:Int) ((a:Int),s)=Qw (y ((l.drop a).take n) s) (λq=>some<|.done<|.inr<|.pan q) λp26=>if(!p26.2) then(some<|.done<|.inr<|.ok p26.1) else some (.next (((a+n:Nat):Int),p26.1)):=by
    show(if decide ((a:Int) < (l.length:Int)) then _ else _)=_;rw[TO<|by simpa using hlt];rw[hs0];show(ZW l (a:Int)<|Q5<|(a:Int)+Jj (n:Int) ((l.drop a).length:Int)).bind _=_;rw[he,hs,<-hw];rfl
   rw[hb];cases hy:y ((l.drop a).take n) s with
   | none=>rw[hy] at h;cases h
   | some p=>
    rw[hy] at h
    cases p with
    | pan q=>
     simp only[Qw,BY] at h ⊢
     right;rw[h]
    | ok p=>
     simp only[Qw] at h ⊢
     by_cases hp:p.2=true
     ·rw[TO hp] at h
      have:=MO hn hn2 hl d (a+n) p.1 r (by omega) (by omega) h;simpa[hp] using this
     ·rw[RW hp] at h
      simp only[BY] at h
      right;simp[hp,h]
  ·simp only[Cx,RW hlt,Gb,BY] at h
   subst h;left;rw[ZC];simp[Kx,hlt]
theorem BQ{y:(UV Int)->σ->H1 (Out ε<|σ×Bool)}{c1:(UV Int)}{c7:Int}{l:UV (UV Int)}{s:σ}{r:Out ε σ}(hl:U4 c1 c7=some l)(hr:Gb y l s=some r):Ui y c1 c7 s=some r:=by
 unfold U4 at hl
 unfold Ui;split at hl
 ·rename_i h;simp only[BY] at hl
  subst hl;have e:((c7.toNat:Nat):Int)=c7:=by omega
  have:=MO (n:=c7.toNat) (by omega) (by omega) h.2.2 c1.length 0 s r (by omega) (by omega) hr;rw[e] at this
  rcases this with e | e
  ·exact ZR e rfl
  ·exact ZR e rfl
 ·cases hl
def KA(y:ON->σ->H1 (σ×Bool))(A2:JU)(x14:Ql)(ks23:(UV Int))(s30:Int×σ):H1 (UK (Int×σ)<|(σ) ⊕ (σ)):=if(decide<|s30.1 < (ks23.length:Int)) then((ZK ks23 s30.1).bind λx34=>(x14.casks).bind λi47=>(A2[i47]?).bind λx52=>(y ((Qc x52 x34).getD none) s30.2).bind λp57=>if(!p57.2) then(some<|.done<|.inr p57.1) else(some<|.next ((Q5<|s30.1+1),p57.1))) else(some<|.done<|.inl s30.2)
def Uh(y:ON->σ->H1 (σ×Bool))(A1:UV Ql)(A2:JU)(c3:ON)(s0:σ):H1 σ:=c3.bind λi9=>(A1[i9]?).bind λx14=>(Vz A2 x14.casks).bind λks23=>(ZQ (KA y A2 x14 ks23) (0,s0)).bind λb0=>match b0 with | .inl b62=>(some b62) | .inr b62=>(some b62)
theorem CO(F0:Fz)(U:Jx)(σ:Type)(ly:Nat)(Y:σ->Fz->HP)(y:ON->σ->H1 (σ×Bool))(hy:U1 prog ly F0 (fun(x:ON) F vs=>∃(N:H1 OF) (k0:Unit),vs=[(.pointer N)]/\ZP U.g203 F N x) Y y)(A1:UV Ql)(l:JU)(P:ON)(B:Nat)(Q:H1 OF)(k7:Unit)(S:F0.mem B=some (.cells #[(.pointer Q)] 188))(h8:ZP U.g194 F0 Q P)(C:σ):HN prog 146 #[(.func (.yield ly) #[] #[]),(vP B 0)] F0 [Q8 U F0 A1,ZA U F0 l,Y C F0] (Uh y A1 l P C) (λ_ _ _=>True) (λs' F' =>[Q8 U F' A1,ZA U F' l,Y s' F']):=by
 refine HN.enter func146 J ntmps146 J λr R=>(.o (Sub.refl _) (J:_=[Q8 U F0 A1,ZA U F0 l,Y C F0,R]) ?_);unfold Uh;refine .w 2<|.U J LJ J S J<|.d λi9 aD=> ?_;obtain⟨ad,T,V⟩:=h8.at aD;refine .dp V J J (.f J Ps J Oi J<|.d λW X=>.dx (Φ:=λv=>∃(D:H1 Nat) (aE:Unit),v=(.map D)/\Zy U.g192 F0 D W.casks) 0 J Fz.r T X J Om J (λvs ⟨E,G,h,H⟩=>⟨_,by subst h;exact J,E,G,J,H⟩) λv hv=> ?_);obtain⟨D,aE,rfl,aF⟩:=hv;refine .ar jg J call147 J J (λae af b aG=>.sM U3 Mo (c:=(Ex<|Z6 .i64)) (λ_ _=>J) (aG) 1 J (aF.mono b) J call101 J J λZ s aH aI ag g aJ=>.bW J J VI J<|.w 4<|.keep (.p [0,1,10,11,12] J)<|.rf 2 hy J Fz.r (Fz.t b g)<|.loop (fun(I:Int×σ) a w=>∃(q:Fz),s<=q/\Hd 26 [] [(0,(.func (.yield ly) #[] #[])),(1,(vP B 0)),(10,(vS aH Z aI)),(11,(vI (Z.length:Int))),(12,(vI I.1))] q [Q8 U F0 A1,ZA U F0 l,Y I.2 q,R] a w) (λb0 e a w=>match b0 with | .inl n=>e= .exit 0/\∃(u:Fz),s<=u/\Hd 26 [] [] u [Q8 U F0 A1,ZA U F0 l,Y n u,R] a w | .inr n=>e= .ret/\∃(A:Fz),s<=A/\Hd 26 [] [] A [Q8 U F0 A1,ZA U F0 l,Y n A,R] a w) ?_ ?_ ?_)
 ·exact λa w h=>⟨s,Fz.r,h.1.sub<|.k J,h.2⟩
 ·intro I ctl;refine GG.ex λa w ⟨q,j,hA⟩=>⟨_,hA,?_⟩;unfold KA;refine .w 6<|.i J (λaL=> ?_) λaL=> ?_
  ·refine .w 6 (.idx J VI W3 (aJ.mono j) J J λaM ah ai aj ak al an aN aO=>.U J V3 J aN (QG (k:=0) aO J)<|.w 6<|.U J LJ J ((Fz.t b<|Fz.t g j).mem _ _ S) J<|.dp V J J<|.f J Ps J Oi J<|.dx (Φ:=λv=>∃(K:H1 Nat) (aP:Unit),v=(.map K)/\Zy U.g192 q K W.casks) 0 J (Fz.t b<|Fz.t g j) (T.mono<|Fz.t b<|Fz.t g j) X J Om J (λvs ⟨E,G,h,H⟩=>⟨_,by subst h;exact J,E,G,J,H⟩) λv hv=> ?_);obtain⟨K,aP,rfl,aQ⟩:=hv;refine .m J J<|.d λi47 aR=> ?_;obtain⟨ao,aS,aU⟩:=aQ.at aR;refine .d λaq aV=>.cM (key:=aM) (z:=none) 1 J (Fz.t b<|Fz.t g j) aS aU aV J qT (.int U3) uK ⟨none,(),J,ZP.nil⟩ J J ?_;intro v hv;obtain⟨aW,aX,rfl,aY⟩:=hv;refine .aS J hy J J ⟨aW,aX,J,aY⟩ (i:=2) J (Fz.t b<|Fz.t g j) Fz.r λar aA au aB=>.w 3<|.i J (λaZ=> ?_) λaZ=> ?_
   ·refine .bc<|Qz.ret λa w h=>⟨J,aA,(Fz.t j aB),h.1.sub<|.k J,h.2⟩
   ·exact .w 7<|.bA<|Qz.norm λa w h=>⟨aA,(Fz.t j aB),h.1.sub<|.k J,h.2⟩
  ·refine .bE J<|Qz.exit λa w h=>⟨J,q,j,h.1.sub<|.k J,h.2⟩
 ·intro n av hk e a w hD;rcases n with n | n
  ·obtain⟨rfl,u,L,hA⟩:=hD;refine Q6 J<|GG.app ?_ hk a w hA;exact .bI 0 (KZ U) (Fz.t b<|Fz.t g L) J<|.bI 1 (Kn U) (Fz.t b<|Fz.t g L) J<|.sV [0,0,0,0] results146 .nil J (Fz.t b<|Fz.t g L) trivial
  obtain⟨rfl,A,M,hA⟩:=hD;exact K7<|(λe a w h=>Hq [0,0,0,0] results146 .nil J (Fz.t b<|Fz.t g M) trivial e a w<|Hd.bI 1 (Kn U) (Fz.t b<|Fz.t g M) J<|Hd.bI 0 (KZ U) (Fz.t b<|Fz.t g M) J h) hk a w hA
def VV(A1:UV Ql)(A2:UV (UV<|Int×H1 Nat))(c:H1 Nat):H1 (UV<|H1 Nat):=c.bind λi=>(A1[i]?).bind λb=>(b.casks).bind λj=>(A2[j]?).bind λl=>(Gg l).bind λks=>some<|ks.map λk=>(Qc l k).getD none
theorem RA{y:H1 Nat->σ->H1 (σ×Bool)}{A2:UV (UV<|Int×H1 Nat)}{x:Ql}{j:Nat}{l:UV (Int×H1 Nat)}{ks:UV Int}(hj:x.casks=some j)(hl:A2[j]? =some l)(hn:ks.length<=1000000):∀(d k:Nat) (s r:σ),k+d=ks.length->Uy y ((ks.drop k).map λk=>(Qc l k).getD none) s=some r->
  ZQ (KA y A2 x ks) ((k:Int),s)=some (.inl r)∨ZQ (KA y A2 x ks) ((k:Int),s)=some (.inr r)
 | 0,k,s,r,hk,h=>by
  rw[nC<|by omega] at h
  simp only[eY,Uy,BY] at h
  subst h;left;rw[ZC];have:¬k < ks.length:=by omega
  simp[KA,this]
 | d+1,k,s,r,hk,h=>by
  have hkl:k < ks.length:=by omega
  have hw:Q5 ((k:Int)+1)=((k+1:Nat):Int):=by rw[Qn (by omega)<|by omega];rfl
  rw[nD hkl] at h
  have hi:ZK ks (k:Int)=some ks[k]:=by simp[ZK,hkl]
  simp only[s4,Uy] at h
  rw[ZC];cases hy:y ((Qc l ks[k]).getD none) s with
  | none=>rw[hy] at h;cases h
  | some p=>
   rw[hy] at h
   simp only[DO] at h
   by_cases hp:p.2=true
   ·rw[TO hp] at h
    have:=RA hj hl hn d (k+1) p.1 r (by omega) h;simpa[KA,hkl,hi,hj,hl,hy,hp,hw] using this
   ·rw[RW hp] at h
    simp only[BY] at h
    right;simp[KA,hkl,hi,hj,hl,hy,hp,h]
theorem BO{y:H1 Nat->σ->H1 (σ×Bool)}{A1:UV Ql}{A2:UV (UV<|Int×H1 Nat)}{c:H1 Nat}{l:UV (H1 Nat)}{s r:σ}(hl:VV A1 A2 c=some l)(hr:Uy y l s=some r):Uh y A1 A2 c s=some r:=by
 simp only[VV,nF] at hl
 obtain⟨i,hi,b,hb,j,hj,m,hm,ks,hks,hl⟩:=hl;simp only[BY] at hl
 subst hl
 have hn:ks.length<=1000000:=by
  unfold Gg at hks
  split at hks
  ·rename_i h;simp only[BY] at hks
   rw[<-hks];simpa using h.2
  ·cases hks
 have hs:Vz A2 b.casks=some ks:=by simp[Vz,hj,hm,hks]
 unfold Uh;rw[hi,DO,hb,DO,hs,DO];rcases RA (y:=y) hj hm hn ks.length 0 s r (by omega) (by simpa using hr) with e | e
 ·have e' :ZQ (KA y A2 b ks) (0,s)=some (.inl r):=e;rw[e'];rfl
 ·have e' :ZQ (KA y A2 b ks) (0,s)=some (.inr r):=e;rw[e'];rfl
def YW(A1:UV QD)(a:ON)(b:QE):H1 (Int):=a.bind λi11=>(A1[i11]?).bind λc=>some<|Q5<|(Q5<|b.Sent+c.rules.Transit)+1
theorem GN(F0:Fz)(U:Jx)(A1:UV QD)(c:ON)(e:H1 OF)(s:Unit)(g:ZP U.g216 F0 e c)(b:QE):HN prog 207 #[(.pointer e),(J1 b)] F0 [ZX U F0 A1] (YW A1 c b) (λr _ v=>v=(vI r)) (λr F' =>[ZX U F' A1]):=by
 refine HN.enter func207 J ntmps207 J λr R=>(.o (Sub.refl _) (J:_=[ZX U F0 A1,R]) ?_);unfold YW;refine .w 2 (.bN (cs:=(ZL b)) J J J λt u a i=>.w 4<|.keep (.p [0,3] J)<|.bH 10 Qd (by kernel_rfl)<|.f J zr J W3 J<|.U J V3 J i J<|.m J J<|.d λi11 j=> ?_);obtain⟨x,k,l⟩:=(g.mono a).at j;refine .dp l J J (.f J VK J SN J<|.f J S7 J W3 J<|.d λn q=>.dx (Φ:=λv=>v=(vI n.rules.Transit)) 0 J a k q J V3 J (λvs ⟨y,z,A,B,C,D,E,F,h,G,H,I,K⟩=>⟨_,by subst h;exact J,J⟩) λv hv=> ?_);subst hv;exact .w 3<|.bR<|.w 2<|.bI 0 (YC U) a J<|.sJ [0,0] results207 (.tmp J<|.nil) J a J
def KG(A1:UV QD)(A3:ZS)(c:ON)(d:Int)(e:(Int×QE))(a:ZS):H1 (ZS):=((YW A1 c e.2).bind λb=>(if(decide<|b<=d) then((a[A3.length]?).bind λf=>QR (List.set a A3.length<|Qx f b true) λg=>some g) else(some a):H1 (ZS)).bind λh=>some h:H1 (ZS)).bind λi=>some i
def Zv(y:Int->σ->H1 (σ×Bool))(ks86:(UV Int))(s93:Int×σ):H1 (UK (Int×σ)<|(σ) ⊕ (σ)):=if(decide<|s93.1 < (ks86.length:Int)) then((ZK ks86 s93.1).bind λx97=>(y x97 s93.2).bind λp107=>if(!p107.2) then(some<|.done<|.inr p107.1) else(some<|.next ((Q5<|s93.1+1),p107.1))) else(some<|.done<|.inl s93.2)
def V0(y:Int->σ->H1 (σ×Bool))(upd:UV QD×JP×ZS->σ)(A1:UV QD)(A2:JP)(A3:ZS)(c4:ON)(c10:Int):H1 σ:=QR (A3++[[]]) λA15=>c4.bind λi20=>(A1[i20]?).bind λx25=>(x25.moving).bind λi30=>(A2[i30]?).bind λx35=>(B4 Tz (KG A1 A3 c4 c10) x35 A15).bind λR77=>(Vz R77<|some A3.length).bind λks86=>(ZQ (Zv y ks86) (0,(upd (A1,A2,R77)))).bind λb0=>match b0 with | .inl b112=>(some b112) | .inr b112=>(some b112)
theorem D7(F0:Fz)(U:Jx)(σ:Type)(ly:Nat)(Y:σ->Fz->HP)(Z:HP)(upd:UV QD×JP×ZS->σ)(y:Int->σ->H1 (σ×Bool))(hy:U1 prog ly F0 (fun(x:Int) _ vs=>vs=[(vI x)]) Y y)(hp:∀(r:UV QD×JP×ZS) F',F0<=F'->∀m,Qi ([ZX U F' r.1,KQ U F' r.2.1,Qf U F' r.2.2]++[Z]) m->Y (upd r) F' m)(A1:UV QD)(j:JP)(A3:ZS)(T:ON)(K:Nat)(p7:H1 OF)(k8:Unit)(aK:F0.mem K=some (.cells #[(.pointer p7)] 211))(h9:ZP U.g216 F0 p7 T)(aC:Int)(L:Nat)(aa:F0.mem L=some (.cells #[(vI aC)] 3)):HN prog 230 #[(.func (.yield ly) #[] #[]),(vP K 0),(vP L 0)] F0 [ZX U F0 A1,KQ U F0 j,Qf U F0 A3,Z] (V0 y upd A1 j A3 T aC) (λ_ _ _=>True) (λs' F' =>[Y s' F']):=by
 refine HN.enter func230 J ntmps230 J λr R=>(.o (Sub.refl _) (J:_=[ZX U F0 A1,KQ U F0 j,Qf U F0 A3,Z,R]) ?_);unfold V0;refine .w 2<|.bn (λx:Int=>(vI x)) (λ_ (x:Bool) v=>v=(.bool x)) J λaD=>.du λbO ab=>.cO 0 2 J J (Zm U) Fz.r (λG m l hm=>Je (Fz.t Fz.r l) hm) ab λaE g aM=>.w 6<|.U J Dc J (g.mem _ _ aK) J<|.d λi20 ad=> ?_;obtain⟨bP,ae,af⟩:=(h9.mono g).at ad;refine .dp af J J (.f J VK J qN J<|.d λag ah=>.dx (Φ:=λv=>∃(aF:H1 Nat) (ai:Unit),v=(.map aF)/\Zy U.g214 aE aF ag.moving) 0 J g ae ah J qQ J (λvs ⟨q0,q1,q2,q3,q4,q5,q6,q7,h,r0,r1,r2,r3⟩=>⟨_,by subst h;exact J,q4,q5,J,r2⟩) λv hv=> ?_);obtain⟨aF,ai,rfl,an⟩:=hv;refine .d λi30 ao=> ?_;obtain⟨u,aq,ar⟩:=an.at ao;refine .d λba aN=>.aW 1 J aq ar aN J zs J λA au=>.w 3<|.keep (.p [0,1,2,4,15] J)<|.bI 1 (YC U) g J<|.aK (B:=0) (b:=(KG A1 A3 T aC)) Tz (λaG C (aH:ZS) a w=>∃(V:Fz),aE<=V/\Hd 41 [] [(0,(.func (.yield ly) #[] #[])),(1,(vP K 0)),(2,(vP L 0)),(4,(.map<|some aD)),(15,(vP A 0))] V [Uf (λx:Int=>(vI x)) (λ_ (x:QE) v=>v=(J1 x)) F0 u A aG C,ZX U V A1,hole U.g214 (Px U) F0 i30 u j,Qf U V aH,Z,R] a w) J ?_ ?_ ?_ ?_
 ·exact λa w h=>⟨aE,Fz.r,h.1.sub<|.k J,h.2⟩
 ·exact λC bb bc a w hE ⟨av,aw,hA⟩=>⟨av,aw,Hd.ry 3 J hE hA⟩
 ·intro aG C aH ax;rcases aG with _ | ⟨y,ys⟩
  ·exact GG.ex λa w ⟨ay,az,hA⟩=>⟨_,hA,(.w 2<|.aZ 0 J J J J<|.w 4<|.cB J<|.bE J<|Gt.over λa w h=>⟨ay,az,h.1.sub<|.k J,h.2⟩)⟩
  ·refine GG.ex λa w ⟨aO,H,hA⟩=>⟨_,hA,(.w 2<|.aY 0 J (eU _ _) J J J λq aI bd aP be=> ?_)⟩;obtain⟨bf,aQ⟩:=ax q<|aP.mem_iff.1<|nX ..;refine .use aQ ?_;unfold KG;refine .w 4<|.cR J<|.w 2<|.keep (.p [0,1,2,4,15] J)<|GG.be (σ:=ZS) (λaR a w=>∃(I:Fz),aO<=I/\Hd 41 [] [(0,(.func (.yield ly) #[] #[])),(1,(vP K 0)),(2,(vP L 0)),(4,(.map<|some aD)),(15,(vP A 0))] I [Uf (λx:Int=>(vI x)) (λ_ (x:QE) v=>v=(J1 x)) F0 u A aI<|q::C,ZX U I A1,hole U.g214 (Px U) F0 i30 u j,Qf U I aR,Z,R] a w) (λsj=> ?_) λaR a1=>GG.ex λa w ⟨I,a6,hA⟩=>⟨_,hA,?_⟩
   ·refine .w 3<|.ae 0 J J J J λv hv=> ?_;obtain rfl:=hv _<|Fz.t g H;refine .x J J J<|.l (cs:=(ZL<|QE.mk 0 0 0 0 0)) J zm J λaS=>.store (cs' :=(ZL q.2)) yK J J J J (i:=0) J (JV J) J (Qa<|by rfl)<|.w 4<|.U J Dc J ((Fz.t g H).mem _ _ aK) J<|.bG J fG yK J (i:=0) J (vs:=(ZL q.2)) (by kernel_rfl) J<|.bV [2] J call207 J J J J (GN _ U A1 T p7 k8 (h9.mono<|Fz.t g H) q.2)<|K0 λa7 M bg N=>.pick [1,1,0,0,0,0,0] (J:_=[pc aS (ZL q.2) 219,Uf (λx:Int=>(vI x)) (λ_ (x:QE) v=>v=(J1 x)) F0 u A aI<|q::C,ZX U M A1,hole U.g214 (Px U) F0 i30 u j,Qf U aO aH,Z,R])<|.w 6<|.U J V3 J ((Fz.t g<|Fz.t H N).mem _ _ aa) J<|.w 3<|.keep (.p [0,1,2,4,7,15,25] J)<|GG.be (σ:=ZS) (λaU a w=>∃(P:Fz),M<=P/\Hd 41 [] [(0,(.func (.yield ly) #[] #[])),(1,(vP K 0)),(2,(vP L 0)),(4,(.map<|some aD)),(15,(vP A 0))] P [pc aS (ZL q.2) 219,Uf (λx:Int=>(vI x)) (λ_ (x:QE) v=>v=(J1 x)) F0 u A aI<|q::C,ZX U M A1,hole U.g214 (Px U) F0 i30 u j,Qf U P aU,Z,R] a w) (λsj=> ?_) λaU a1=>GG.ex λa w ⟨P,aV,hA⟩=>⟨_,hA,?_⟩
    ·refine .i J (λa8=> ?_) λa8=> ?_
     ·exact .w 3<|.d λbh bA=>.du λbj bB=>.cL (key:=a7) (val:=true) 4 J N (aM.mono<|Fz.t H N) J bA qS (.int U3) J J J (λ_ _=>J) bB<|.n (.bA λe a w h=>by cases e;exact⟨J,⟨M,Fz.r,h.1.sub<|.k J,h.2⟩⟩)
     ·exact .skip<|.bI 4 (Zm U) N J (.bA λe a w h=>by cases e;exact⟨J,⟨M,Fz.r,h.1.sub<|.k J,h.2⟩⟩)
    exact .k<|.drop 0<|.bI 1 (YC U) aV J (.bA λe a w h=>by cases e;exact⟨J,⟨P,(Fz.t N aV),h.1.sub<|.k J,h.2⟩⟩)
   exact .bA<|Gt.norm aP aQ λa w h=>⟨I,(Fz.t H a6),h.1.sub<|.k J,h.2⟩
 ·intro C W bk bC;refine GG.ex (λa w ⟨bl,D,hA⟩=>⟨_,hA,(.cY 0 1 J J (Fz.t g D) (Fz.t g D) bC au (Cb aN)<|.w 4<|.ar EE J call102 J J λbm bn z bD=>.sM U3 AA (c:=(Ex<|Z6 .i64)) (λ_ _=>J) (bD) 2 J ((Zy.of aM).mono<|Fz.t D z) J call101 J J λaW s bE bF bo E bG=>.bW J J VI J<|.w 3<|.bI 0 (YC U) (Fz.t z E) J<|.bI 1 (VN U) (Fz.t z E) J<|.bI 2 (Zm U) (Fz.t z E) J<|.rM (Hs:=[ZX U s A1,KQ U s j,Qf U s W,Z]) (Y:=Y (upd (A1,j,W)) s) [0,0,0,0] J (hp (A1,j,W) _<|Fz.t g<|Fz.t D<|Fz.t z E)<|.o (Sub.refl _) (J:_=[Y (upd (A1,j,W)) s,R])<|.k<|.keep (.p [0,30,31,32] J)<|.loop (fun(aJ:Int×σ) a w=>∃(Q:Fz),s<=Q/\Hd 41 [] [(0,(.func (.yield ly) #[] #[])),(30,(vS bE aW bF)),(31,(vI (aW.length:Int))),(32,(vI aJ.1))] Q [Y aJ.2 Q,R] a w) (λb0 e a w=>match b0 with | .inl F=>e= .exit 2/\∃(X:Fz),s<=X/\Hd 41 [] [] X [Y F X,R] a w | .inr F=>e= .ret/\∃(aA:Fz),s<=aA/\Hd 41 [] [] aA [Y F aA,R] a w) ?_ ?_ ?_)⟩)
  ·exact λa w h=>⟨s,Fz.r,h.1.sub<|.k J,h.2⟩
  ·intro aJ ctl;refine GG.ex λa w ⟨Q,S,hA⟩=>⟨_,hA,?_⟩;unfold Zv;refine .w 6<|.i J (λbI=> ?_) λbI=> ?_
   ·refine .w 6<|.idx J VI W3 (bG.mono S) J J λbp bq br bt bu bw bx bJ bK=>.U J V3 J bJ (QG (k:=0) bK J)<|.w 7<|.aS J hy J J J (i:=0) J (Fz.t g<|Fz.t D<|Fz.t z<|Fz.t E S) Fz.r λbz aX b1 aY=>.w 3<|.i J (λbL=> ?_) λbL=> ?_
    ·refine .bc<|Qz.ret λa w h=>⟨J,aX,(Fz.t S aY),h.1.sub<|.k J,h.2⟩
    ·exact .w 7<|.bA<|Qz.norm λa w h=>⟨aX,(Fz.t S aY),h.1.sub<|.k J,h.2⟩
   ·refine .bE J<|Qz.exit λa w h=>⟨J,Q,S,h.1.sub<|.k J,h.2⟩
  ·intro F b2 hk e a w hD;rcases F with F | F
   ·obtain⟨rfl,X,bM,hA⟩:=hD;refine Q6 J<|GG.app ?_ hk a w hA;exact .sV [0,0] results230 .nil J (Fz.t g<|Fz.t D<|Fz.t z<|Fz.t E bM) trivial
   obtain⟨rfl,aA,bN,hA⟩:=hD;exact K7<|(Hq [0,0] results230 .nil J (Fz.t g<|Fz.t D<|Fz.t z<|Fz.t E bN) trivial) hk a w hA
def Yi(A1:UV QD)(A2:UV (UV<|Int×QE))(A3:UV (UV<|Int×Bool))(c4:H1 Nat)(c10:Int):H1 ((UV QD×UV (UV<|Int×QE)×UV (UV<|Int×Bool))×UV Int):=c4.bind λi=>(A1[i]?).bind λx=>(x.moving).bind λj=>(A2[j]?).bind λl=>(B4 Tz (KG A1 A3 c4 c10) l<|A3++[[]]).bind λR=>(Vz R<|some A3.length).bind λks=>some ((A1,A2,R),ks)
theorem ED{y:Int->σ->H1 (σ×Bool)}{ks:UV Int}(hn:ks.length<=1000000):∀(d k:Nat) (s r:σ),k+d=ks.length->Uy y (ks.drop k) s=some r->
  ZQ (Zv y ks) ((k:Int),s)=some (.inl r)∨ZQ (Zv y ks) ((k:Int),s)=some (.inr r)
 | 0,k,s,r,hk,h=>by
  rw[nC<|by omega] at h
  simp only[Uy,BY] at h
  subst h;left;rw[ZC];have:¬k < ks.length:=by omega
  simp[Zv,this]
 | d+1,k,s,r,hk,h=>by
  have hkl:k < ks.length:=by omega
  have hw:Q5 ((k:Int)+1)=((k+1:Nat):Int):=by rw[Qn (by omega)<|by omega];rfl
  rw[nD hkl] at h
  have hi:ZK ks (k:Int)=some ks[k]:=by simp[ZK,hkl]
  simp only[Uy] at h
  rw[ZC];cases hy:y ks[k] s with
  | none=>rw[hy] at h;cases h
  | some p=>
   rw[hy] at h
   simp only[DO] at h
   by_cases hp:p.2=true
   ·rw[TO hp] at h
    have:=ED hn d (k+1) p.1 r (by omega) h;simpa[Zv,hkl,hi,hy,hp,hw] using this
   ·rw[RW hp] at h
    simp only[BY] at h
    right;simp[Zv,hkl,hi,hy,hp,h]
theorem DS{y:Int->σ->H1 (σ×Bool)}{upd:UV QD×UV (UV<|Int×QE)×UV (UV<|Int×Bool)->σ}{A1:UV QD}{A2:UV (UV<|Int×QE)}{A3:UV (UV<|Int×Bool)}{c4:H1 Nat}{c10:Int}{q:(UV QD×UV (UV<|Int×QE)×UV (UV<|Int×Bool))×UV Int}{r:σ}(hl:Yi A1 A2 A3 c4 c10=some q)(hr:Uy y q.2 (upd q.1)=some r):V0 y upd A1 A2 A3 c4 c10=some r:=by
 simp only[Yi,nF] at hl
 obtain⟨i,rfl,b,hb,j,hj,l,hm,R,hR,ks,hks,hl⟩:=hl;simp only[BY] at hl
 subst hl
 have hn:ks.length<=1000000:=by
  have h:=hks;simp only[Vz,nF] at h
  obtain⟨m,_,h⟩:=h;unfold Gg at h
  split at h
  ·rename_i h2;simp only[BY] at h
   rw[<-h];simpa using h2.2
  ·cases h
 simp only[V0,QR,DO,hb,hj,hm,hR,hks];rcases ED (y:=y) hn ks.length 0 (upd (A1,A2,R)) r (by omega) (by simpa using hr) with e | e
 ·have e' :ZQ (Zv y ks) (0,upd (A1,A2,R))=some (.inl r):=e;rw[e'];rfl
 ·have e' :ZQ (Zv y ks) (0,upd (A1,A2,R))=some (.inr r):=e;rw[e'];rfl
end
end Go.Proofs.YtepbamgmocpemaaGreatDoor
end
