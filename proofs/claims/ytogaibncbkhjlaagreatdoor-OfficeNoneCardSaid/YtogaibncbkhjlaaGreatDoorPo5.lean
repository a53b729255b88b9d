/- For OfficeNone. -/
import Derived.Test.YtogaibncbkhjlaaGreatDoorPo4
import Derived.Test.YtogaibncbkhjlaaGreatDoorProg
import Derived.Shelf.SlMaps.Clone
import Derived.Ground.SlmcProg
import Derived.Shelf.SortM.Plain
import Derived.Shelf.SortM.SortNone
import Derived.Ground.GgzProg
import Derived.Ground.SlgmProg
noncomputable section
namespace Go.Proofs.YtogaibncbkhjlaaGreatDoor
section
open Go.Dec Go.Shelf Go.RowKit Go.Maps Go.Sort
theorem Qb:Tryz.prog.follows .mixedOrders=true:=by kernel_rfl
abbrev Rv:= @Tryz.underlying107
abbrev CQ:= @Tryz.underlying109
abbrev Mq:= @Tryz.underlying114
abbrev D2:= @Tryz.underlying119
abbrev Xf:= @Tryz.underlying121
abbrev D1:= @Tryz.underlying130
abbrev Ah:= @Tryz.underlying133
abbrev CP:= @Tryz.underlying138
abbrev yr:= @Tryz.underlying139
abbrev WB:= @Tryz.underlying141
abbrev FA:= @Tryz.underlying147
abbrev qT:= @Tryz.underlying148
abbrev yq:= @Tryz.underlying159
abbrev Ru:= @Tryz.underlying167
abbrev HL:= @Tryz.underlying171
abbrev Ag:= @Tryz.underlying177
abbrev kQ:= @Tryz.underlying184
abbrev EF:= @Tryz.underlying185
abbrev Af:= @Tryz.underlying187
abbrev EE:= @Tryz.underlying192
abbrev Ge:= @Tryz.underlying194
abbrev Ji:= @Tryz.underlying196
abbrev yz:= @Tryz.underlying20
abbrev OO:= @Tryz.underlying207
abbrev Yo:= @Tryz.underlying209
abbrev OM:= @Tryz.underlying212
abbrev UG:= @Tryz.underlying213
abbrev Mp:= @Tryz.underlying215
abbrev kP:= @Tryz.underlying217
abbrev vW:= @Tryz.underlying23
abbrev vV:= @Tryz.underlying230
abbrev jl:= @Tryz.underlying233
abbrev Rt:= @Tryz.underlying235
abbrev uV:= @Tryz.underlying24
abbrev vU:= @Tryz.underlying247
abbrev qd:= @Tryz.underlying25
abbrev jk:= @Tryz.underlying251
abbrev vR:= @Tryz.underlying254
abbrev qc:= @Tryz.underlying26
abbrev qS:= @Tryz.underlying27
abbrev kO:= @Tryz.underlying275
abbrev uO:= @Tryz.underlying28
abbrev qb:= @Tryz.underlying29
abbrev U3:= @Tryz.underlying3
abbrev X4:= @Tryz.underlying31
abbrev qa:= @Tryz.underlying33
abbrev vn:= @Tryz.underlying45
abbrev V2:= @Tryz.underlying47
abbrev U5:= @Tryz.underlying5
abbrev vm:= @Tryz.underlying51
abbrev Gd:= @Tryz.underlying54
abbrev FB:= @Tryz.underlying57
abbrev RN:= @Tryz.underlying59
abbrev US:= @Tryz.underlying67
abbrev XI:= @Tryz.underlying70
abbrev uN:= @Tryz.underlying74
abbrev U9:= @Tryz.underlying9
abbrev RH:= @Tryz.underlying93
abbrev O7:= @Tryz.underlying95
abbrev Wx:= @Tryz.underlying97
abbrev TB:= @Tryz.underlying99
abbrev OL:= @Tryz.isAgg107
abbrev RG:= @Tryz.isAgg109
abbrev uM:= @Tryz.isAgg114
abbrev vQ:= @Tryz.isAgg119
abbrev ED:= @Tryz.isAgg121
abbrev uL:= @Tryz.isAgg124
abbrev OK:= @Tryz.isAgg130
abbrev jj:= @Tryz.isAgg133
abbrev vO:= @Tryz.isAgg138
abbrev uK:= @Tryz.isAgg139
abbrev qR:= @Tryz.isAgg141
abbrev ji:= @Tryz.isAgg147
abbrev jh:= @Tryz.isAgg159
abbrev kN:= @Tryz.isAgg167
abbrev SB:= @Tryz.isAgg171
abbrev jg:= @Tryz.isAgg177
abbrev Rs:= @Tryz.isAgg181
abbrev Mo:= @Tryz.isAgg185
abbrev kM:= @Tryz.isAgg192
abbrev qQ:= @Tryz.isAgg194
abbrev G9:= @Tryz.isAgg204
abbrev EC:= @Tryz.isAgg207
abbrev vN:= @Tryz.isAgg212
abbrev EB:= @Tryz.isAgg213
abbrev jf:= @Tryz.isAgg216
abbrev uJ:= @Tryz.isAgg229
abbrev uI:= @Tryz.isAgg230
abbrev vl:= @Tryz.isAgg24
abbrev vM:= @Tryz.isAgg25
abbrev uH:= @Tryz.isAgg254
abbrev vk:= @Tryz.isAgg26
abbrev vj:= @Tryz.isAgg27
abbrev vi:= @Tryz.isAgg28
abbrev je:= @Tryz.isAgg29
abbrev V3:= @Tryz.isAgg3
abbrev RM:= @Tryz.isAgg35
abbrev V4:= @Tryz.isAgg4
abbrev uG:= @Tryz.isAgg47
abbrev V5:= @Tryz.isAgg5
abbrev vL:= @Tryz.isAgg64
abbrev vh:= @Tryz.isAgg67
abbrev jd:= @Tryz.isAgg70
abbrev V9:= @Tryz.isAgg9
abbrev vg:= @Tryz.isAgg93
abbrev kY:= @Tryz.isAgg95
abbrev kL:= @Tryz.isAgg97
abbrev jc:= @Tryz.isAgg99
abbrev Mn:= @Tryz.sizeOf107
abbrev Bn:= @Tryz.sizeOf109
abbrev OJ:= @Tryz.sizeOf114
abbrev Gc:= @Tryz.sizeOf119
abbrev Xc:= @Tryz.sizeOf121
abbrev vK:= @Tryz.sizeOf124
abbrev Bl:= @Tryz.sizeOf130
abbrev SA:= @Tryz.sizeOf133
abbrev Bj:= @Tryz.sizeOf138
abbrev yp:= @Tryz.sizeOf139
abbrev UF:= @Tryz.sizeOf141
abbrev EA:= @Tryz.sizeOf147
abbrev yo:= @Tryz.sizeOf159
abbrev vJ:= @Tryz.sizeOf165
abbrev TN:= @Tryz.sizeOf167
abbrev HK:= @Tryz.sizeOf171
abbrev OI:= @Tryz.sizeOf177
abbrev kK:= @Tryz.sizeOf181
abbrev Mm:= @Tryz.sizeOf185
abbrev Ml:= @Tryz.sizeOf192
abbrev Hq:= @Tryz.sizeOf194
abbrev uF:= @Tryz.sizeOf196
abbrev qP:= @Tryz.sizeOf204
abbrev L9:= @Tryz.sizeOf207
abbrev qO:= @Tryz.sizeOf212
abbrev C9:= @Tryz.sizeOf213
abbrev kJ:= @Tryz.sizeOf216
abbrev uE:= @Tryz.sizeOf217
abbrev vH:= @Tryz.sizeOf229
abbrev yn:= @Tryz.sizeOf230
abbrev uD:= @Tryz.sizeOf233
abbrev yx:= @Tryz.sizeOf24
abbrev jb:= @Tryz.sizeOf25
abbrev uC:= @Tryz.sizeOf251
abbrev ym:= @Tryz.sizeOf254
abbrev yA:= @Tryz.sizeOf26
abbrev j8:= @Tryz.sizeOf27
abbrev yw:= @Tryz.sizeOf28
abbrev kI:= @Tryz.sizeOf29
abbrev W3:= @Tryz.sizeOf3
abbrev kX:= @Tryz.sizeOf31
abbrev Mv:= @Tryz.sizeOf35
abbrev W4:= @Tryz.sizeOf4
abbrev ud:= @Tryz.sizeOf45
abbrev W5:= @Tryz.sizeOf5
abbrev ja:= @Tryz.sizeOf67
abbrev O6:= @Tryz.sizeOf70
abbrev W9:= @Tryz.sizeOf9
abbrev kW:= @Tryz.sizeOf93
abbrev qZ:= @Tryz.sizeOf95
abbrev Gb:= @Tryz.sizeOf97
abbrev TA:= @Tryz.sizeOf99
abbrev vG:= @Tryz.zeroValue109
abbrev yl:= @Tryz.zeroValue114
abbrev Ae:= @Tryz.zeroValue121
abbrev qN:= @Tryz.zeroValue130
abbrev qM:= @Tryz.zeroValue133
abbrev qL:= @Tryz.zeroValue141
abbrev yk:= @Tryz.zeroValue147
abbrev uB:= @Tryz.zeroValue159
abbrev qK:= @Tryz.zeroValue167
abbrev qJ:= @Tryz.zeroValue171
abbrev jZ:= @Tryz.zeroValue177
abbrev uA:= @Tryz.zeroValue181
abbrev kH:= @Tryz.zeroValue184
abbrev v8:= @Tryz.zeroValue187
abbrev yj:= @Tryz.zeroValue194
abbrev v7:= @Tryz.zeroValue196
abbrev vz:= @Tryz.zeroValue204
abbrev vy:= @Tryz.zeroValue209
abbrev OH:= @Tryz.zeroValue212
abbrev vx:= @Tryz.zeroValue213
abbrev vw:= @Tryz.zeroValue215
abbrev vF:= @Tryz.zeroValue217
abbrev yi:= @Tryz.zeroValue230
abbrev vE:= @Tryz.zeroValue233
abbrev vD:= @Tryz.zeroValue251
abbrev yh:= @Tryz.zeroValue254
abbrev Y3:= @Tryz.zeroValue3
abbrev vu:= @Tryz.zeroValue31
abbrev uU:= @Tryz.zeroValue33
abbrev vf:= @Tryz.zeroValue35
abbrev Y4:= @Tryz.zeroValue4
abbrev uT:= @Tryz.zeroValue45
abbrev Nv:= @Tryz.zeroValue54
abbrev Tf:= @Tryz.zeroValue57
abbrev kG:= @Tryz.zeroValue67
abbrev yg:= @Tryz.zeroValue70
abbrev yv:= @Tryz.zeroValue93
abbrev L8:= @Tryz.zeroValue97
abbrev yu:= @Tryz.zeroValue99
structure JW where
 g196:Nat
 g187:Nat
 g209:Nat
 g33:Nat
 g207:Nat
 g192:Nat
 g185:Nat
 g31:Nat
 g51:Nat
structure Qm where
 e:Int
def WI(x:Qm):List Value:=[.int .i64 x.e]
def Ri(x:Qm):Value:=.agg (WI x).toArray
theorem PN:∀fs,Tryz.prog.underlying 45=some (.struct fs)->Places Tryz.prog fs #[(0,1)]:=λfs h=>by
 obtain rfl:=TypeDesc.struct.inj (Option.some.inj (Tryz.underlying45.symm.trans h));intro w;kernel_rfl
structure Zf where
 rest:(List UInt8)
def UZ(x:Zf):List Value:=[.string (bs x.rest)]
theorem PL:∀fs,Tryz.prog.underlying 51=some (.struct fs)->Places Tryz.prog fs #[(0,1)]:=λfs h=>by
 obtain rfl:=TypeDesc.struct.inj (Option.some.inj (Tryz.underlying51.symm.trans h));intro w;kernel_rfl
structure Zx where
 From:Int
 Rate:Int
def ZY(x:Zx):List Value:=[.int .i64 x.From,.int .i64 x.Rate]
def Mb(x:Zx):Value:=.agg (ZY x).toArray
theorem RZ:∀fs,Tryz.prog.underlying 114=some (.struct fs)->Places Tryz.prog fs #[(0,1),(1,1)]:=λfs h=>by
 obtain rfl:=TypeDesc.struct.inj (Option.some.inj (Tryz.underlying114.symm.trans h));intro w;kernel_rfl
structure Q8 where
 Rates:(List Zx)
 Transit:Int
 Loss:Int
 Share:Int
def ZE(x:Q8)(p0:Option Addr)(k0:Nat):List Value:=[.slice p0 x.Rates.length k0,.int .i64 x.Transit,.int .i64 x.Loss,.int .i64 x.Share]
def Jv(x:Q8)(p0:Option Addr)(k0:Nat):Value:=.agg (ZE x p0 k0).toArray
def Kc:Kb Q8:=λF x vs=>∃p0 k0,vs=ZE x p0 k0/\QH 2 (Ex ZY) F p0 k0 x.Rates
theorem PS:∀fs,Tryz.prog.underlying 109=some (.struct fs)->Places Tryz.prog fs #[(0,1),(1,1),(2,1),(3,1)]:=λfs h=>by
 obtain rfl:=TypeDesc.struct.inj (Option.some.inj (Tryz.underlying109.symm.trans h));intro w;kernel_rfl
structure ZO where
 Number:Int
 Wood:Int
 Place:Int
 Room:Int
 Owner:Int
 Creditor:Int
 Amount:Int
 Age:Int
 Woods:(Nat->Int)
 Places:(Nat->Int)
def Qt(x:ZO):List Value:=[.int .i64 x.Number,.int .i64 x.Wood,.int .i64 x.Place,.int .i64 x.Room,.int .i64 x.Owner,.int .i64 x.Creditor,.int .i64 x.Amount,.int .i64 x.Age,.int .i64 (x.Woods 0),.int .i64 (x.Woods 1),.int .i64 (x.Woods 2),.int .i64 (x.Woods 3),.int .i64 (x.Woods 4),.int .i64 (x.Woods 5),.int .i64 (x.Woods 6),.int .i64 (x.Woods 7),.int .i64 (x.Places 0),.int .i64 (x.Places 1),.int .i64 (x.Places 2),.int .i64 (x.Places 3),.int .i64 (x.Places 4),.int .i64 (x.Places 5),.int .i64 (x.Places 6),.int .i64 (x.Places 7)]
def FV(x:ZO):Value:=.agg (Qt x).toArray
theorem S5:∀fs,Tryz.prog.underlying 121=some (.struct fs)->Places Tryz.prog fs #[(0,1),(1,1),(2,1),(3,1),(4,1),(5,1),(6,1),(7,1),(8,8),(16,8)]:=λfs h=>by
 obtain rfl:=TypeDesc.struct.inj (Option.some.inj (Tryz.underlying121.symm.trans h));intro w;kernel_rfl
structure QB where
 Lo:Int
 Hi:Int
def QY(x:QB):List Value:=[.int .i64 x.Lo,.int .i64 x.Hi]
def JG(x:QB):Value:=.agg (QY x).toArray
theorem XK:∀fs,Tryz.prog.underlying 97=some (.struct fs)->Places Tryz.prog fs #[(0,1),(1,1)]:=λfs h=>by
 obtain rfl:=TypeDesc.struct.inj (Option.some.inj (Tryz.underlying97.symm.trans h));intro w;kernel_rfl
structure Qn where
 From:ZO
 Amount:Int
 Strength:QB
def QN(x:Qn):List Value:=[.int .i64 x.From.Number,.int .i64 x.From.Wood,.int .i64 x.From.Place,.int .i64 x.From.Room,.int .i64 x.From.Owner,.int .i64 x.From.Creditor,.int .i64 x.From.Amount,.int .i64 x.From.Age,.int .i64 (x.From.Woods 0),.int .i64 (x.From.Woods 1),.int .i64 (x.From.Woods 2),.int .i64 (x.From.Woods 3),.int .i64 (x.From.Woods 4),.int .i64 (x.From.Woods 5),.int .i64 (x.From.Woods 6),.int .i64 (x.From.Woods 7),.int .i64 (x.From.Places 0),.int .i64 (x.From.Places 1),.int .i64 (x.From.Places 2),.int .i64 (x.From.Places 3),.int .i64 (x.From.Places 4),.int .i64 (x.From.Places 5),.int .i64 (x.From.Places 6),.int .i64 (x.From.Places 7),.int .i64 x.Amount,.int .i64 x.Strength.Lo,.int .i64 x.Strength.Hi]
def Ym(x:Qn):Value:=.agg (QN x).toArray
theorem ME:∀fs,Tryz.prog.underlying 130=some (.struct fs)->Places Tryz.prog fs #[(0,24),(24,1),(25,2)]:=λfs h=>by
 obtain rfl:=TypeDesc.struct.inj (Option.some.inj (Tryz.underlying130.symm.trans h));intro w;kernel_rfl
structure QQ where
 Draughts:(List Qn)
 Water:Int
 Shrink:QB
 Filtered:Bool
 Coloured:Bool
def Q6(x:QQ)(p0:Option Addr)(k0:Nat):List Value:=[.slice p0 x.Draughts.length k0,.int .i64 x.Water,.int .i64 x.Shrink.Lo,.int .i64 x.Shrink.Hi,.bool x.Filtered,.bool x.Coloured]
def Zi(x:QQ)(p0:Option Addr)(k0:Nat):Value:=.agg (Q6 x p0 k0).toArray
theorem Ee:∀fs,Tryz.prog.underlying 99=some (.struct fs)->Places Tryz.prog fs #[(0,1),(1,1),(2,2),(4,1),(5,1)]:=λfs h=>by
 obtain rfl:=TypeDesc.struct.inj (Option.some.inj (Tryz.underlying99.symm.trans h));intro w;kernel_rfl
structure QG where
 Kind:Int
 Day:Int
 Cask:Int
 Other:Int
 Person:Int
 To:Int
 Amount:Int
 Where:Int
def QM(x:QG):List Value:=[.int .i64 x.Kind,.int .i64 x.Day,.int .i64 x.Cask,.int .i64 x.Other,.int .i64 x.Person,.int .i64 x.To,.int .i64 x.Amount,.int .i64 x.Where]
def K8(x:QG):Value:=.agg (QM x).toArray
theorem YQ:∀fs,Tryz.prog.underlying 67=some (.struct fs)->Places Tryz.prog fs #[(0,1),(1,1),(2,1),(3,1),(4,1),(5,1),(6,1),(7,1)]:=λfs h=>by
 obtain rfl:=TypeDesc.struct.inj (Option.some.inj (Tryz.underlying67.symm.trans h));intro w;kernel_rfl
structure QS where
 Kind:Int
 Day:Int
 Bond:Int
 To:Int
 Id:Int
 Amount:Int
def QO(x:QS):List Value:=[.int .i64 x.Kind,.int .i64 x.Day,.int .i64 x.Bond,.int .i64 x.To,.int .i64 x.Id,.int .i64 x.Amount]
def K7(x:QS):Value:=.agg (QO x).toArray
theorem WU:∀fs,Tryz.prog.underlying 70=some (.struct fs)->Places Tryz.prog fs #[(0,1),(1,1),(2,1),(3,1),(4,1),(5,1)]:=λfs h=>by
 obtain rfl:=TypeDesc.struct.inj (Option.some.inj (Tryz.underlying70.symm.trans h));intro w;kernel_rfl
structure QJ where
 Kind:Int
 First:Int
 Last:Int
 Batch:Int
def QP(x:QJ):List Value:=[.int .i64 x.Kind,.int .i64 x.First,.int .i64 x.Last,.int .i64 x.Batch]
def GJ(x:QJ):Value:=.agg (QP x).toArray
theorem HM:∀fs,Tryz.prog.underlying 93=some (.struct fs)->Places Tryz.prog fs #[(0,1),(1,1),(2,1),(3,1)]:=λfs h=>by
 obtain rfl:=TypeDesc.struct.inj (Option.some.inj (Tryz.underlying93.symm.trans h));intro w;kernel_rfl
structure QA where
 day:Int
 rules:(Option Q8)
 casks:(List QG)
 duties:(List QS)
 stamps:(List QJ)
 batches:(List (Int×QQ))
 pure:(List (Int×Int))
 ids:Int
def Qg(x:QA)(p0:Option Addr)(k0:Unit)(p1:Option Addr)(k1:Nat)(p2:Option Addr)(k2:Nat)(p3:Option Addr)(k3:Nat)(p4:Option Nat)(k4:Unit)(p5:Option Nat)(k5:Unit):List Value:=[.int .i64 x.day,.pointer p0,.slice p1 x.casks.length k1,.slice p2 x.duties.length k2,.slice p3 x.stamps.length k3,.map p4,.map p5,.int .i64 x.ids]
def Pt(x:QA)(p0:Option Addr)(k0:Unit)(p1:Option Addr)(k1:Nat)(p2:Option Addr)(k2:Nat)(p3:Option Addr)(k3:Nat)(p4:Option Nat)(k4:Unit)(p5:Option Nat)(k5:Unit):Value:=.agg (Qg x p0 k0 p1 k1 p2 k2 p3 k3 p4 k4 p5 k5).toArray
theorem TE:∀fs,Tryz.prog.underlying 31=some (.struct fs)->Places Tryz.prog fs #[(0,1),(1,1),(2,1),(3,1),(4,1),(5,1),(6,1),(7,1)]:=λfs h=>by
 obtain rfl:=TypeDesc.struct.inj (Option.some.inj (Tryz.underlying31.symm.trans h));intro w;kernel_rfl
structure Zg where
 e:Int
def XP(x:Zg):List Value:=[.int .i64 x.e]
def Lu(x:Zg):Value:=.agg (XP x).toArray
theorem MD:∀fs,Tryz.prog.underlying 233=some (.struct fs)->Places Tryz.prog fs #[(0,1)]:=λfs h=>by
 obtain rfl:=TypeDesc.struct.inj (Option.some.inj (Tryz.underlying233.symm.trans h));intro w;kernel_rfl
structure ZC where
 age:Int
 woods:(Nat->Int)
 places:(Nat->Int)
def Q7(x:ZC):List Value:=[.int .i64 x.age,.int .i64 (x.woods 0),.int .i64 (x.woods 1),.int .i64 (x.woods 2),.int .i64 (x.woods 3),.int .i64 (x.woods 4),.int .i64 (x.woods 5),.int .i64 (x.woods 6),.int .i64 (x.woods 7),.int .i64 (x.places 0),.int .i64 (x.places 1),.int .i64 (x.places 2),.int .i64 (x.places 3),.int .i64 (x.places 4),.int .i64 (x.places 5),.int .i64 (x.places 6),.int .i64 (x.places 7)]
def UX(x:ZC):Value:=.agg (Q7 x).toArray
theorem As:∀fs,Tryz.prog.underlying 194=some (.struct fs)->Places Tryz.prog fs #[(0,1),(1,8),(9,8)]:=λfs h=>by
 obtain rfl:=TypeDesc.struct.inj (Option.some.inj (Tryz.underlying194.symm.trans h));intro w;kernel_rfl
structure QF where
 number:Int
 wood:Int
 place:Int
 room:Int
 owner:Int
 creditor:Int
 amount:Int
 since:Int
 times:ZC
 fills:(Option Nat)
def UJ(x:QF)(p0:Option Nat)(k0:Unit):List Value:=[.int .i64 x.number,.int .i64 x.wood,.int .i64 x.place,.int .i64 x.room,.int .i64 x.owner,.int .i64 x.creditor,.int .i64 x.amount,.int .i64 x.since,.int .i64 x.times.age,.int .i64 (x.times.woods 0),.int .i64 (x.times.woods 1),.int .i64 (x.times.woods 2),.int .i64 (x.times.woods 3),.int .i64 (x.times.woods 4),.int .i64 (x.times.woods 5),.int .i64 (x.times.woods 6),.int .i64 (x.times.woods 7),.int .i64 (x.times.places 0),.int .i64 (x.times.places 1),.int .i64 (x.times.places 2),.int .i64 (x.times.places 3),.int .i64 (x.times.places 4),.int .i64 (x.times.places 5),.int .i64 (x.times.places 6),.int .i64 (x.times.places 7),.map p0]
def I1(x:QF)(p0:Option Nat)(k0:Unit):Value:=.agg (UJ x p0 k0).toArray
def NI(U:JW):Kb QF:=λF x vs=>∃p0 k0,vs=UJ x p0 k0/\Zp U.g192 F p0 x.fills
theorem Eb:∀fs,Tryz.prog.underlying 196=some (.struct fs)->Places Tryz.prog fs #[(0,1),(1,1),(2,1),(3,1),(4,1),(5,1),(6,1),(7,1),(8,17),(25,1)]:=λfs h=>by
 obtain rfl:=TypeDesc.struct.inj (Option.some.inj (Tryz.underlying196.symm.trans h));intro w;kernel_rfl
structure Qh where
 casks:(Option Nat)
 event:Int
def Ad(x:Qh)(p0:Option Nat)(k0:Unit):List Value:=[.map p0,.int .i64 x.event]
def NJ(U:JW):Kb Qh:=λF x vs=>∃p0 k0,vs=Ad x p0 k0/\Zp U.g185 F p0 x.casks
theorem Ec:∀fs,Tryz.prog.underlying 187=some (.struct fs)->Places Tryz.prog fs #[(0,1),(1,1)]:=λfs h=>by
 obtain rfl:=TypeDesc.struct.inj (Option.some.inj (Tryz.underlying187.symm.trans h));intro w;kernel_rfl
structure Zl where
 e:Int
def WJ(x:Zl):List Value:=[.int .i64 x.e]
def Rj(x:Zl):Value:=.agg (WJ x).toArray
theorem PQ:∀fs,Tryz.prog.underlying 251=some (.struct fs)->Places Tryz.prog fs #[(0,1)]:=λfs h=>by
 obtain rfl:=TypeDesc.struct.inj (Option.some.inj (Tryz.underlying251.symm.trans h));intro w;kernel_rfl
structure QE where
 Id:Int
 From:Int
 To:Int
 Sent:Int
 Amount:Int
def ZG(x:QE):List Value:=[.int .i64 x.Id,.int .i64 x.From,.int .i64 x.To,.int .i64 x.Sent,.int .i64 x.Amount]
def Jm(x:QE):Value:=.agg (ZG x).toArray
theorem LO:∀fs,Tryz.prog.underlying 212=some (.struct fs)->Places Tryz.prog fs #[(0,1),(1,1),(2,1),(3,1),(4,1)]:=λfs h=>by
 obtain rfl:=TypeDesc.struct.inj (Option.some.inj (Tryz.underlying212.symm.trans h));intro w;kernel_rfl
structure ZP where
 Bonds:(Nat->Int)
 Moving:(List QE)
 Made:Int
 Found:Int
 Used:Int
 Exported:Int
 Lost:Int
 Charged:Int
 Due:Int
 Paid:Int
def ZB(x:ZP)(p0:Option Addr)(k0:Nat):List Value:=[.int .i64 (x.Bonds 0),.int .i64 (x.Bonds 1),.int .i64 (x.Bonds 2),.int .i64 (x.Bonds 3),.int .i64 (x.Bonds 4),.int .i64 (x.Bonds 5),.int .i64 (x.Bonds 6),.int .i64 (x.Bonds 7),.int .i64 (x.Bonds 8),.int .i64 (x.Bonds 9),.int .i64 (x.Bonds 10),.int .i64 (x.Bonds 11),.int .i64 (x.Bonds 12),.int .i64 (x.Bonds 13),.int .i64 (x.Bonds 14),.int .i64 (x.Bonds 15),.slice p0 x.Moving.length k0,.int .i64 x.Made,.int .i64 x.Found,.int .i64 x.Used,.int .i64 x.Exported,.int .i64 x.Lost,.int .i64 x.Charged,.int .i64 x.Due,.int .i64 x.Paid]
def Vj(x:ZP)(p0:Option Addr)(k0:Nat):Value:=.agg (ZB x p0 k0).toArray
theorem Ra:∀fs,Tryz.prog.underlying 141=some (.struct fs)->Places Tryz.prog fs #[(0,16),(16,1),(17,1),(18,1),(19,1),(20,1),(21,1),(22,1),(23,1),(24,1)]:=λfs h=>by
 obtain rfl:=TypeDesc.struct.inj (Option.some.inj (Tryz.underlying141.symm.trans h));intro w;kernel_rfl
structure QD where
 rules:Q8
 book:ZP
 moving:(Option Nat)
 known:(Option Nat)
 sums:(Nat->Int)
 day:Int
def Za(x:QD)(p0:Option Addr)(k0:Nat)(p1:Option Addr)(k1:Nat)(p2:Option Nat)(k2:Unit)(p3:Option Nat)(k3:Unit):List Value:=[.slice p0 x.rules.Rates.length k0,.int .i64 x.rules.Transit,.int .i64 x.rules.Loss,.int .i64 x.rules.Share,.int .i64 (x.book.Bonds 0),.int .i64 (x.book.Bonds 1),.int .i64 (x.book.Bonds 2),.int .i64 (x.book.Bonds 3),.int .i64 (x.book.Bonds 4),.int .i64 (x.book.Bonds 5),.int .i64 (x.book.Bonds 6),.int .i64 (x.book.Bonds 7),.int .i64 (x.book.Bonds 8),.int .i64 (x.book.Bonds 9),.int .i64 (x.book.Bonds 10),.int .i64 (x.book.Bonds 11),.int .i64 (x.book.Bonds 12),.int .i64 (x.book.Bonds 13),.int .i64 (x.book.Bonds 14),.int .i64 (x.book.Bonds 15),.slice p1 x.book.Moving.length k1,.int .i64 x.book.Made,.int .i64 x.book.Found,.int .i64 x.book.Used,.int .i64 x.book.Exported,.int .i64 x.book.Lost,.int .i64 x.book.Charged,.int .i64 x.book.Due,.int .i64 x.book.Paid,.map p2,.map p3,.int .i64 (x.sums 0),.int .i64 (x.sums 1),.int .i64 (x.sums 2),.int .i64 (x.sums 3),.int .i64 (x.sums 4),.int .i64 (x.sums 5),.int .i64 (x.sums 6),.int .i64 (x.sums 7),.int .i64 (x.sums 8),.int .i64 (x.sums 9),.int .i64 (x.sums 10),.int .i64 (x.sums 11),.int .i64 (x.sums 12),.int .i64 (x.sums 13),.int .i64 (x.sums 14),.int .i64 (x.sums 15),.int .i64 x.day]
def CX(U:JW):Kb QD:=λF x vs=>∃p0 k0 p1 k1 p2 k2 p3 k3,vs=Za x p0 k0 p1 k1 p2 k2 p3 k3/\QH 2 (Ex ZY) F p0 k0 x.rules.Rates/\RI 5 (Ex ZG) F p1 k1 x.book.Moving/\Zp U.g207 F p2 x.moving/\Zp U.g192 F p3 x.known
theorem PO:∀fs,Tryz.prog.underlying 209=some (.struct fs)->Places Tryz.prog fs #[(0,4),(4,25),(29,1),(30,1),(31,16),(47,1)]:=λfs h=>by
 obtain rfl:=TypeDesc.struct.inj (Option.some.inj (Tryz.underlying209.symm.trans h));intro w;kernel_rfl
structure Qx where
 Hand:(List QB)
 Stuck:Int
 Spoiled:Int
 Returned:Int
def Qr(x:Qx)(p0:Option Addr)(k0:Nat):List Value:=[.slice p0 x.Hand.length k0,.int .i64 x.Stuck,.int .i64 x.Spoiled,.int .i64 x.Returned]
def Ce(x:Qx)(p0:Option Addr)(k0:Nat):Value:=.agg (Qr x p0 k0).toArray
theorem H9:∀fs,Tryz.prog.underlying 167=some (.struct fs)->Places Tryz.prog fs #[(0,1),(1,1),(2,1),(3,1)]:=λfs h=>by
 obtain rfl:=TypeDesc.struct.inj (Option.some.inj (Tryz.underlying167.symm.trans h));intro w;kernel_rfl
structure V6 where
 issued:(List QB)
 hand:(List QB)
def JB(x:V6)(p0:Option Addr)(k0:Nat)(p1:Option Addr)(k1:Nat):List Value:=[.slice p0 x.issued.length k0,.slice p1 x.hand.length k1]
structure Qf where
 Batch:QQ
 amount:Int
 least:Int
 most:Int
def Qe(x:Qf)(p0:Option Addr)(k0:Nat):List Value:=[.slice p0 x.Batch.Draughts.length k0,.int .i64 x.Batch.Water,.int .i64 x.Batch.Shrink.Lo,.int .i64 x.Batch.Shrink.Hi,.bool x.Batch.Filtered,.bool x.Batch.Coloured,.int .i64 x.amount,.int .i64 x.least,.int .i64 x.most]
def Jd(x:Qf)(p0:Option Addr)(k0:Nat):Value:=.agg (Qe x p0 k0).toArray
theorem RY:∀fs,Tryz.prog.underlying 171=some (.struct fs)->Places Tryz.prog fs #[(0,6),(6,1),(7,1),(8,1)]:=λfs h=>by
 obtain rfl:=TypeDesc.struct.inj (Option.some.inj (Tryz.underlying171.symm.trans h));intro w;kernel_rfl
structure Ql where
 Volume:QB
 Strength:QB
 Age:Int
 Woods:(Nat->Int)
 Places:(Nat->Int)
 Casks:Int
def Qo(x:Ql):List Value:=[.int .i64 x.Volume.Lo,.int .i64 x.Volume.Hi,.int .i64 x.Strength.Lo,.int .i64 x.Strength.Hi,.int .i64 x.Age,.int .i64 (x.Woods 0),.int .i64 (x.Woods 1),.int .i64 (x.Woods 2),.int .i64 (x.Woods 3),.int .i64 (x.Woods 4),.int .i64 (x.Woods 5),.int .i64 (x.Woods 6),.int .i64 (x.Woods 7),.int .i64 (x.Places 0),.int .i64 (x.Places 1),.int .i64 (x.Places 2),.int .i64 (x.Places 3),.int .i64 (x.Places 4),.int .i64 (x.Places 5),.int .i64 (x.Places 6),.int .i64 (x.Places 7),.int .i64 x.Casks]
def Hl(x:Ql):Value:=.agg (Qo x).toArray
theorem CZ:∀fs,Tryz.prog.underlying 133=some (.struct fs)->Places Tryz.prog fs #[(0,2),(2,2),(4,1),(5,8),(13,8),(21,1)]:=λfs h=>by
 obtain rfl:=TypeDesc.struct.inj (Option.some.inj (Tryz.underlying133.symm.trans h));intro w;kernel_rfl
structure Qp where
 Kind:Int
 What:Int
 Number:Int
def Z9(x:Qp):List Value:=[.int .i64 x.Kind,.int .i64 x.What,.int .i64 x.Number]
def Zm(x:Qp):Value:=.agg (Z9 x).toArray
theorem Ed:∀fs,Tryz.prog.underlying 147=some (.struct fs)->Places Tryz.prog fs #[(0,1),(1,1),(2,1)]:=λfs h=>by
 obtain rfl:=TypeDesc.struct.inj (Option.some.inj (Tryz.underlying147.symm.trans h));intro w;kernel_rfl
structure ZA where
 batch:Qf
 known:Ql
def ZX(x:ZA)(p0:Option Addr)(k0:Nat):List Value:=[.slice p0 x.batch.Batch.Draughts.length k0,.int .i64 x.batch.Batch.Water,.int .i64 x.batch.Batch.Shrink.Lo,.int .i64 x.batch.Batch.Shrink.Hi,.bool x.batch.Batch.Filtered,.bool x.batch.Batch.Coloured,.int .i64 x.batch.amount,.int .i64 x.batch.least,.int .i64 x.batch.most,.int .i64 x.known.Volume.Lo,.int .i64 x.known.Volume.Hi,.int .i64 x.known.Strength.Lo,.int .i64 x.known.Strength.Hi,.int .i64 x.known.Age,.int .i64 (x.known.Woods 0),.int .i64 (x.known.Woods 1),.int .i64 (x.known.Woods 2),.int .i64 (x.known.Woods 3),.int .i64 (x.known.Woods 4),.int .i64 (x.known.Woods 5),.int .i64 (x.known.Woods 6),.int .i64 (x.known.Woods 7),.int .i64 (x.known.Places 0),.int .i64 (x.known.Places 1),.int .i64 (x.known.Places 2),.int .i64 (x.known.Places 3),.int .i64 (x.known.Places 4),.int .i64 (x.known.Places 5),.int .i64 (x.known.Places 6),.int .i64 (x.known.Places 7),.int .i64 x.known.Casks]
def DG(x:ZA)(p0:Option Addr)(k0:Nat):Value:=.agg (ZX x p0 k0).toArray
theorem CY:∀fs,Tryz.prog.underlying 177=some (.struct fs)->Places Tryz.prog fs #[(0,9),(9,22)]:=λfs h=>by
 obtain rfl:=TypeDesc.struct.inj (Option.some.inj (Tryz.underlying177.symm.trans h));intro w;kernel_rfl
structure QZ where
 least:Int
 each:Int
def Zw(x:QZ):List Value:=[.int .i64 x.least,.int .i64 x.each]
def Lt(x:QZ):Value:=.agg (Zw x).toArray
theorem Zy:∀fs,Tryz.prog.underlying 54=some (.struct fs)->Places Tryz.prog fs #[(0,1),(1,1)]:=λfs h=>by
 obtain rfl:=TypeDesc.struct.inj (Option.some.inj (Tryz.underlying54.symm.trans h));intro w;kernel_rfl
structure QW where
 form:QZ
 do_:((QA×Unit×(List Int))->Option (Out Qm ((List UInt8)×QA)))
def Ze(x:QW)(p0:FuncId)(k0:List Value×List Value):List Value:=[.int .i64 x.form.least,.int .i64 x.form.each,.func (.func p0) k0.1.toArray k0.2.toArray]
def Z6(x:QW)(p0:FuncId)(k0:List Value×List Value):Value:=.agg (Ze x p0 k0).toArray
theorem Zz:∀fs,Tryz.prog.underlying 57=some (.struct fs)->Places Tryz.prog fs #[(0,2),(2,1)]:=λfs h=>by
 obtain rfl:=TypeDesc.struct.inj (Option.some.inj (Tryz.underlying57.symm.trans h));intro w;kernel_rfl
structure Zb where
 ledgers:QA
 open_:Bool
def G8(x:Zb)(p0:Option Addr)(k0:Unit)(p1:Option Addr)(k1:Nat)(p2:Option Addr)(k2:Nat)(p3:Option Addr)(k3:Nat)(p4:Option Nat)(k4:Unit)(p5:Option Nat)(k5:Unit):List Value:=[.int .i64 x.ledgers.day,.pointer p0,.slice p1 x.ledgers.casks.length k1,.slice p2 x.ledgers.duties.length k2,.slice p3 x.ledgers.stamps.length k3,.map p4,.map p5,.int .i64 x.ledgers.ids,.bool x.open_]
def CW:Kb Zb:=λF x vs=>∃p0 k0 p1 k1 p2 k2 p3 k3 p4 k4 p5 k5,vs=G8 x p0 k0 p1 k1 p2 k2 p3 k3 p4 k4 p5 k5/\UD 109 Kc F p0 x.ledgers.rules/\QH 8 (Ex QM) F p1 k1 x.ledgers.casks/\QH 6 (Ex QO) F p2 k2 x.ledgers.duties/\QH 4 (Ex QP) F p3 k3 x.ledgers.stamps/\Uf (λx:Int=>(.int .i64 x)) (λF (x:QQ) v=>∃(p0:Option Addr) (k0:Nat),v=(Zi x p0 k0)/\QH 27 (Ex QN) F p0 k0 x.Draughts) F p4 x.ledgers.batches/\Uf (λx:Int=>(.int .i64 x)) (λ_ (x:Int) v=>v=(.int .i64 x)) F p5 x.ledgers.pure
theorem D9:∀fs,Tryz.prog.underlying 33=some (.struct fs)->Places Tryz.prog fs #[(0,8),(8,1)]:=λfs h=>by
 obtain rfl:=TypeDesc.struct.inj (Option.some.inj (Tryz.underlying33.symm.trans h));intro w;kernel_rfl
abbrev SD(U:JW):Fz->Nat->QF->HP:=Ud 196 (NI U)
abbrev Qq(U:JW)(F:Fz)(xs:List QF):HP:=Qw U.g196 (SD U) F xs
theorem Kx(U:JW):Wl (SD U):=Ud.stays
theorem Wv(U:JW){x:QF}:∀F vs,(NI U) F x vs->vs.length=26:=λ_ _ ⟨_,_,h,_⟩=>h▸rfl
abbrev RJ(U:JW):Fz->Nat->Qh->HP:=Ud 187 (NJ U)
abbrev Qz(U:JW)(F:Fz)(xs:List Qh):HP:=Qw U.g187 (RJ U) F xs
theorem KQ(U:JW):Wl (RJ U):=Ud.stays
theorem yP(U:JW){x:Qh}:∀F vs,(NJ U) F x vs->vs.length=2:=λ_ _ ⟨_,_,h,_⟩=>h▸rfl
abbrev Mu(U:JW):Fz->Nat->QD->HP:=Ud 209 (CX U)
abbrev ZQ(U:JW)(F:Fz)(xs:List QD):HP:=Qw U.g209 (Mu U) F xs
theorem Jt(U:JW):Wl (Mu U):=Ud.stays
theorem Wu(U:JW){x:QD}:∀F vs,(CX U) F x vs->vs.length=48:=λ_ _ ⟨_,_,_,_,_,_,_,_,h,_,_,_,_⟩=>h▸rfl
abbrev vo(U:JW):Fz->Nat->Zb->HP:=Ud 33 CW
abbrev Bi(U:JW)(F:Fz)(xs:List Zb):HP:=Qw U.g33 (vo U) F xs
theorem Gh(U:JW):Wl (vo U):=Ud.stays
theorem y5{x:Zb}:∀F vs,CW F x vs->vs.length=9:=λ_ _ ⟨_,_,_,_,_,_,_,_,_,_,_,_,h,_,_,_,_,_,_⟩=>h▸rfl
abbrev Aj(U:JW):Fz->Nat->List (Int×QE)->HP:=QU (λx:Int=>(.int .i64 x)) (λ_ (x:QE) v=>v=(Jm x))
abbrev KJ(U:JW)(F:Fz)(xs:List (List (Int×QE))):HP:=Qw U.g207 (Aj U) F xs
theorem Ys(U:JW):Wl (Aj U):=XV
abbrev Hu(U:JW):Fz->Nat->List (Int×Bool)->HP:=QU (λx:Int=>(.int .i64 x)) (λ_ (x:Bool) v=>v=(.bool x))
abbrev Qd(U:JW)(F:Fz)(xs:List (List (Int×Bool))):HP:=Qw U.g192 (Hu U) F xs
theorem Zj(U:JW):Wl (Hu U):=XV
abbrev Ak(U:JW):Fz->Nat->List (Int×(Option Nat))->HP:=QU (λx:Int=>(.int .i64 x)) (λF (x:(Option Nat)) v=>∃(p0:Option Addr) (k0:Unit),v=(.pointer p0)/\ZL U.g196 F p0 x)
abbrev Q3(U:JW)(F:Fz)(xs:List (List (Int×(Option Nat)))):HP:=Qw U.g185 (Ak U) F xs
theorem Kf(U:JW):Wl (Ak U):=XV
def Ue(x:Zg):Value:=.iface 233 (Lu x)
def Wp(x:Zl):Value:=.iface 251 (Rj x)
def JO(x:Qm):Value:=.iface 45 (Ri x)
def Qu(U:JW)(F:Fz)(L:QA):HP:=zk (λq:Option Addr×Option Addr×Nat×Option Addr×Nat×Option Addr×Nat×Nat×Nat=>UD 109 Kc F q.1 L.rules) (λq=>[pc U.g31 (Qg L q.1 () q.2.1 q.2.2.1 q.2.2.2.1 q.2.2.2.2.1 q.2.2.2.2.2.1 q.2.2.2.2.2.2.1 (some q.2.2.2.2.2.2.2.1) () (some q.2.2.2.2.2.2.2.2) ()) 31,Qk 8 (Ex QM) F 67 q.2.1 q.2.2.1 (L.casks),Qk 6 (Ex QO) F 70 q.2.2.2.1 q.2.2.2.2.1 (L.duties),Qk 4 (Ex QP) F 93 q.2.2.2.2.2.1 q.2.2.2.2.2.2.1 (L.stamps),QU (λx:Int=>(.int .i64 x)) (λF (x:QQ) v=>∃(p0:Option Addr) (k0:Nat),v=(Zi x p0 k0)/\QH 27 (Ex QN) F p0 k0 x.Draughts) F q.2.2.2.2.2.2.2.1 (L.batches),QU (λx:Int=>(.int .i64 x)) (λ_ (x:Int) v=>v=(.int .i64 x)) F q.2.2.2.2.2.2.2.2 (L.pure)])
theorem H0{U:JW}{F F' :Fz}{L:QA}{m:Mem}(le:F<=F'):Qu U F L m->Qu U F' L m:=fun⟨q,h,hm⟩=>⟨q,h.mono le,Q5 (λ_ h=>h) (Q5 (λ_=>Vd le) (Q5 (λ_=>Vd le) (Q5 (λ_=>Vd le) (Q5 (λ_=>Ks le) (Q5 (λ_=>Ks le) (λ_ h=>h)))))) m hm⟩
theorem _root_.Go.Dec.GL.wG{O:Option Nat}{β:Type}{P:Program}{ops:Array Oper}{l0:List Oper}{ks:List Kt}{Q:Exit->Act->World->Prop}{m:Option β}{r:β}{n:Nat}{D:List Deferred}{S:List (Nat×Value)}{F:Fz}{hs:List HP}{U:JW}{L:QA}{F1:Fz}{F2:Fz}{F3:Fz}{F4:Fz}{F5:Fz}{p0:Option Addr}{p1:Option Addr}{p2:Nat}{p3:Option Addr}{p4:Nat}{p5:Option Addr}{p6:Nat}{p7:Nat}{p8:Nat}(is:List Nat)(h0:UD 109 Kc F p0 L.rules)(l1:F1<=F)(l2:F2<=F)(l3:F3<=F)(l4:F4<=F)(l5:F5<=F)(hp:K9 is hs=[pc U.g31 (Qg L p0 () p1 p2 p3 p4 p5 p6 (some p7) () (some p8) ()) 31,Qk 8 (Ex QM) F1 67 p1 p2 (L.casks),Qk 6 (Ex QO) F2 70 p3 p4 (L.duties),Qk 4 (Ex QP) F3 93 p5 p6 (L.stamps),QU (λx:Int=>(.int .i64 x)) (λF (x:QQ) v=>∃(p0:Option Addr) (k0:Nat),v=(Zi x p0 k0)/\QH 27 (Ex QN) F p0 k0 x.Draughts) F4 p7 (L.batches),QU (λx:Int=>(.int .i64 x)) (λ_ (x:Int) v=>v=(.int .i64 x)) F5 p8 (L.pure)])(k:GL O P ops l0 ks Q (Hd n D S F (Qu U F L::JN is hs)) m r):GL O P ops l0 ks Q (Hd n D S F hs) m r:=GG.w4 is (p0,p1,p2,p3,p4,p5,p6,p7,p8) h0 hp (Q5 (λ_ h=>h) (Q5 (λ_=>Vd l1) (Q5 (λ_=>Vd l2) (Q5 (λ_=>Vd l3) (Q5 (λ_=>Ks l4) (Q5 (λ_=>Ks l5) (λ_ h=>h))))))) k
theorem _root_.Go.Dec.GC.wF{O:Option Nat}{β:Type}{P:Program}{cd:Code}{ks:List Kt}{Q:Exit->Act->World->Prop}{m:Option β}{r:β}{n:Nat}{D:List Deferred}{S:List (Nat×Value)}{F:Fz}{hs:List HP}{U:JW}{L:QA}(i:Nat)(hi:hs[i]? =some (Qu U F L))(k:∀(p0:Option Addr) (p1:Option Addr) (p2:Nat) (p3:Option Addr) (p4:Nat) (p5:Option Addr) (p6:Nat) (p7:Nat) (p8:Nat),UD 109 Kc F p0 L.rules->GC O P cd ks Q (Hd n D S F ([pc U.g31 (Qg L p0 () p1 p2 p3 p4 p5 p6 (some p7) () (some p8) ()) 31,Qk 8 (Ex QM) F 67 p1 p2 (L.casks),Qk 6 (Ex QO) F 70 p3 p4 (L.duties),Qk 4 (Ex QP) F 93 p5 p6 (L.stamps),QU (λx:Int=>(.int .i64 x)) (λF (x:QQ) v=>∃(p0:Option Addr) (k0:Nat),v=(Zi x p0 k0)/\QH 27 (Ex QN) F p0 k0 x.Draughts) F p7 (L.batches),QU (λx:Int=>(.int .i64 x)) (λ_ (x:Int) v=>v=(.int .i64 x)) F p8 (L.pure)]++hs.eraseIdx i)) m r):GC O P cd ks Q (Hd n D S F hs) m r:=GG.xZ i hi λq h=>k q.1 q.2.1 q.2.2.1 q.2.2.2.1 q.2.2.2.2.1 q.2.2.2.2.2.1 q.2.2.2.2.2.2.1 q.2.2.2.2.2.2.2.1 q.2.2.2.2.2.2.2.2 h
theorem _root_.Go.Dec.GE.wG{O:Option Nat}{β:Type}{P:Program}{ks:List Kt}{Q:Exit->Act->World->Prop}{m:Option β}{r:β}{n:Nat}{D:List Deferred}{S:List (Nat×Value)}{F:Fz}{hs:List HP}{U:JW}{L:QA}{F1:Fz}{F2:Fz}{F3:Fz}{F4:Fz}{F5:Fz}{p0:Option Addr}{p1:Option Addr}{p2:Nat}{p3:Option Addr}{p4:Nat}{p5:Option Addr}{p6:Nat}{p7:Nat}{p8:Nat}(is:List Nat)(h0:UD 109 Kc F p0 L.rules)(l1:F1<=F)(l2:F2<=F)(l3:F3<=F)(l4:F4<=F)(l5:F5<=F)(hp:K9 is hs=[pc U.g31 (Qg L p0 () p1 p2 p3 p4 p5 p6 (some p7) () (some p8) ()) 31,Qk 8 (Ex QM) F1 67 p1 p2 (L.casks),Qk 6 (Ex QO) F2 70 p3 p4 (L.duties),Qk 4 (Ex QP) F3 93 p5 p6 (L.stamps),QU (λx:Int=>(.int .i64 x)) (λF (x:QQ) v=>∃(p0:Option Addr) (k0:Nat),v=(Zi x p0 k0)/\QH 27 (Ex QN) F p0 k0 x.Draughts) F4 p7 (L.batches),QU (λx:Int=>(.int .i64 x)) (λ_ (x:Int) v=>v=(.int .i64 x)) F5 p8 (L.pure)])(k:GE O P ks Q (Hd n D S F (Qu U F L::JN is hs)) m r):GE O P ks Q (Hd n D S F hs) m r:=GG.w4 is (p0,p1,p2,p3,p4,p5,p6,p7,p8) h0 hp (Q5 (λ_ h=>h) (Q5 (λ_=>Vd l1) (Q5 (λ_=>Vd l2) (Q5 (λ_=>Vd l3) (Q5 (λ_=>Ks l4) (Q5 (λ_=>Ks l5) (λ_ h=>h))))))) k
def Jl(U:JW)(F:Fz)(L:QA):HP:=zk (λq:Option Addr×Option Addr×Nat×Option Addr×Nat×Option Addr×Nat×Nat×Nat=>UD 109 Kc F q.1 L.rules) (λq=>[pc U.g31 (Qg L q.1 () q.2.1 q.2.2.1 q.2.2.2.1 q.2.2.2.2.1 q.2.2.2.2.2.1 q.2.2.2.2.2.2.1 (some q.2.2.2.2.2.2.2.1) () (some q.2.2.2.2.2.2.2.2) ()) 31,ET 8 (Ex QM) F 67 q.2.1 q.2.2.1 (L.casks),ET 6 (Ex QO) F 70 q.2.2.2.1 q.2.2.2.2.1 (L.duties),ET 4 (Ex QP) F 93 q.2.2.2.2.2.1 q.2.2.2.2.2.2.1 (L.stamps),QU (λx:Int=>(.int .i64 x)) (λF (x:QQ) v=>∃(p0:Option Addr) (k0:Nat),v=(Zi x p0 k0)/\QH 27 (Ex QN) F p0 k0 x.Draughts) F q.2.2.2.2.2.2.2.1 (L.batches),QU (λx:Int=>(.int .i64 x)) (λ_ (x:Int) v=>v=(.int .i64 x)) F q.2.2.2.2.2.2.2.2 (L.pure)])
theorem qn{U:JW}{F F' :Fz}{L:QA}{m:Mem}(le:F<=F'):Jl U F L m->Jl U F' L m:=fun⟨q,h,hm⟩=>⟨q,h.mono le,Q5 (λ_ h=>h) (Q5 (λ_=>ES le) (Q5 (λ_=>ES le) (Q5 (λ_=>ES le) (Q5 (λ_=>Ks le) (Q5 (λ_=>Ks le) (λ_ h=>h)))))) m hm⟩
theorem YH{U:JW}{F:Fz}{L:QA}{m:Mem}:Qu U F L m->Jl U F L m:=fun⟨q,h,hm⟩=>⟨q,h,Q5 (λ_ h=>h) (Q5 (λ_ h=>.inl h) (Q5 (λ_ h=>.inl h) (Q5 (λ_ h=>.inl h) (Q5 (λ_ h=>h) (Q5 (λ_ h=>h) (λ_ h=>h)))))) m hm⟩
theorem _root_.Go.Dec.GE.fu{O:Option Nat}{β:Type}{P:Program}{ks:List Kt}{Q:Exit->Act->World->Prop}{m:Option β}{r:β}{n:Nat}{D:List Deferred}{S:List (Nat×Value)}{F:Fz}{hs:List HP}{U:JW}{L:QA}{F1:Fz}{F2:Fz}{p0:Option Addr}{p1:Option Addr}{p2:Nat}{p3:Option Addr}{p4:Nat}{p5:Option Addr}{p6:Nat}{p7:Nat}{p8:Nat}(is:List Nat)(h0:UD 109 Kc F p0 L.rules)(l1:F1<=F)(l2:F2<=F)(hp:K9 is hs=[pc U.g31 (Qg L p0 () p1 p2 p3 p4 p5 p6 (some p7) () (some p8) ()) 31,ET 8 (Ex QM) F 67 p1 p2 (L.casks),ET 6 (Ex QO) F 70 p3 p4 (L.duties),ET 4 (Ex QP) F 93 p5 p6 (L.stamps),QU (λx:Int=>(.int .i64 x)) (λF (x:QQ) v=>∃(p0:Option Addr) (k0:Nat),v=(Zi x p0 k0)/\QH 27 (Ex QN) F p0 k0 x.Draughts) F1 p7 (L.batches),QU (λx:Int=>(.int .i64 x)) (λ_ (x:Int) v=>v=(.int .i64 x)) F2 p8 (L.pure)])(k:GE O P ks Q (Hd n D S F (Jl U F L::JN is hs)) m r):GE O P ks Q (Hd n D S F hs) m r:=GG.w4 is (p0,p1,p2,p3,p4,p5,p6,p7,p8) h0 hp (Q5 (λ_ h=>h) (Q5 (λ_ h=>h) (Q5 (λ_ h=>h) (Q5 (λ_ h=>h) (Q5 (λ_=>Ks l1) (Q5 (λ_=>Ks l2) (λ_ h=>h))))))) k
def HT(U:JW)(F:Fz)(L:Zf):HP:=zk (λ_:Unit=>True) (λ_=>[pc U.g51 (UZ L) 51])
theorem y2{U:JW}{F F' :Fz}{L:Zf}{m:Mem}(_le:F<=F'):HT U F L m->HT U F' L m:=λh=>h
theorem _root_.Go.Dec.GL.fG{O:Option Nat}{β:Type}{P:Program}{ops:Array Oper}{l0:List Oper}{ks:List Kt}{Q:Exit->Act->World->Prop}{m:Option β}{r:β}{n:Nat}{D:List Deferred}{S:List (Nat×Value)}{F:Fz}{hs:List HP}{U:JW}{L:Zf}(is:List Nat)(hp:K9 is hs=[pc U.g51 (UZ L) 51])(k:GL O P ops l0 ks Q (Hd n D S F (HT U F L::JN is hs)) m r):GL O P ops l0 ks Q (Hd n D S F hs) m r:=GG.w4 is () trivial hp (Q5 (λ_ h=>h) (λ_ h=>h)) k
theorem _root_.Go.Dec.GC.dc{O:Option Nat}{β:Type}{P:Program}{cd:Code}{ks:List Kt}{Q:Exit->Act->World->Prop}{m:Option β}{r:β}{n:Nat}{D:List Deferred}{S:List (Nat×Value)}{F:Fz}{hs:List HP}{U:JW}{L:Zf}(i:Nat)(hi:hs[i]? =some (HT U F L))(k:GC O P cd ks Q (Hd n D S F ([pc U.g51 (UZ L) 51]++hs.eraseIdx i)) m r):GC O P cd ks Q (Hd n D S F hs) m r:=GG.xZ i hi λ_ _=>k
theorem _root_.Go.Dec.GE.fG{O:Option Nat}{β:Type}{P:Program}{ks:List Kt}{Q:Exit->Act->World->Prop}{m:Option β}{r:β}{n:Nat}{D:List Deferred}{S:List (Nat×Value)}{F:Fz}{hs:List HP}{U:JW}{L:Zf}(is:List Nat)(hp:K9 is hs=[pc U.g51 (UZ L) 51])(k:GE O P ks Q (Hd n D S F (HT U F L::JN is hs)) m r):GE O P ks Q (Hd n D S F hs) m r:=GG.w4 is () trivial hp (Q5 (λ_ h=>h) (λ_ h=>h)) k
theorem Gl:Ub Tryz.prog 3 1 (Ex (KI .i64)):=.ex (λ_=>rfl) (λ_=>rfl) Tryz.sizeOf3 ⟨_,Tryz.typeInfo3,by decide+kernel,by decide+kernel⟩ ⟨_,Tryz.zeroValue3,rfl⟩
theorem Em:Ub Tryz.prog 67 8 (Ex QM):=.ex (λ_=>rfl) (λ_=>rfl) Tryz.sizeOf67 ⟨_,Tryz.typeInfo67,by decide+kernel,by decide+kernel⟩ ⟨_,Tryz.zeroValue67,rfl⟩
theorem El:Ub Tryz.prog 70 6 (Ex QO):=.ex (λ_=>rfl) (λ_=>rfl) Tryz.sizeOf70 ⟨_,Tryz.typeInfo70,by decide+kernel,by decide+kernel⟩ ⟨_,Tryz.zeroValue70,rfl⟩
theorem Ek:Ub Tryz.prog 93 4 (Ex QP):=.ex (λ_=>rfl) (λ_=>rfl) Tryz.sizeOf93 ⟨_,Tryz.typeInfo93,by decide+kernel,by decide+kernel⟩ ⟨_,Tryz.zeroValue93,rfl⟩
theorem HO:Ub Tryz.prog 97 2 (Ex QY):=.ex (λ_=>rfl) (λ_=>rfl) Tryz.sizeOf97 ⟨_,Tryz.typeInfo97,by decide+kernel,by decide+kernel⟩ ⟨_,Tryz.zeroValue97,rfl⟩
theorem Ob:Ub Tryz.prog 114 2 (Ex ZY):=.ex (λ_=>rfl) (λ_=>rfl) Tryz.sizeOf114 ⟨_,Tryz.typeInfo114,by decide+kernel,by decide+kernel⟩ ⟨_,Tryz.zeroValue114,rfl⟩
theorem Oa:Ub Tryz.prog 121 24 (Ex Qt):=.ex (λ_=>rfl) (λ_=>rfl) Tryz.sizeOf121 ⟨_,Tryz.typeInfo121,by decide+kernel,by decide+kernel⟩ ⟨_,Tryz.zeroValue121,rfl⟩
theorem OZ:Ub Tryz.prog 130 27 (Ex QN):=.ex (λ_=>rfl) (λ_=>rfl) Tryz.sizeOf130 ⟨_,Tryz.typeInfo130,by decide+kernel,by decide+kernel⟩ ⟨_,Tryz.zeroValue130,rfl⟩
theorem jA:Ub Tryz.prog 147 3 (Ex Z9):=.ex (λ_=>rfl) (λ_=>rfl) Tryz.sizeOf147 ⟨_,Tryz.typeInfo147,by decide+kernel,by decide+kernel⟩ ⟨_,Tryz.zeroValue147,rfl⟩
theorem OY:Ub Tryz.prog 212 5 (Ex ZG):=.ex (λ_=>rfl) (λ_=>rfl) Tryz.sizeOf212 ⟨_,Tryz.typeInfo212,by decide+kernel,by decide+kernel⟩ ⟨_,Tryz.zeroValue212,rfl⟩
theorem MM:Ub Tryz.prog 213 1 (vq 2 (Ex QY)):=.mk (λ_ _ _ ⟨_,_,h,_⟩=>h▸rfl) (λ_ _ _ ⟨_,_,h,_⟩=>h▸rfl) (λ_ _ _ _ le ⟨q0,q1,h,h0⟩=>⟨q0,q1,h,h0.mono le⟩) Tryz.sizeOf213 ⟨_,Tryz.typeInfo213,by decide+kernel,by decide+kernel⟩ ⟨_,Tryz.zeroValue213,rfl⟩
def Tryz.xN:Go.Shelf.Ren:=⟨fun | 6=>99 | 8=>133 | 9=>134 | 11=>186 | 13=>188 | 12=>187 | 23=>222 | 24=>190 | 14=>213 | 15=>214 | 16=>215 | 17=>216 | 18=>217 | 19=>218 | 20=>219 | 21=>220 | 22=>221 | 25=>232 | 26=>233 | 27=>234 | 28=>235 | 29=>236 | 30=>237 | 31=>238 | n=>n,fun | 26=>3 | 28=>190 | 24=>47 | 0=>0 | 3=>3 | 37=>247 | 48=>268 | 50=>242 | 4=>4 | 40=>282 | 39=>281 | 45=>260 | 5=>5 | 9=>9 | 51=>294 | 55=>216 | 57=>301 | 58=>302 | 33=>62 | n=>n,fun | n=>n⟩
theorem Tryz.wo:Go.Proofs.SlLaysZI.n6 Tryz.prog Tryz.xN:={
 mixed:=by kernel_rfl
 f6:=⟨Tryz.f99.name,by decide,Tryz.func99.trans (congrArg some (by kernel_rfl))⟩
 f8:=⟨Tryz.f133.name,by decide,Tryz.func133.trans (congrArg some (by kernel_rfl))⟩
 f11:=⟨Tryz.f186.name,by decide,Tryz.func186.trans (congrArg some (by kernel_rfl))⟩
 t0:=Tryz.underlying0
 a0:=Tryz.isAgg0
 z0:=Tryz.sizeOf0
 v0:=Tryz.zeroValue0
 t24:=Tryz.underlying47
 a24:=Tryz.isAgg47
 z24:=Tryz.sizeOf47
 v24:=Tryz.zeroValue47
 t26:=Tryz.underlying3
 a26:=Tryz.isAgg3
 z26:=Tryz.sizeOf3
 v26:=Tryz.zeroValue3
 t28:=Tryz.underlying190
 a28:=Tryz.isAgg190
 z28:=Tryz.sizeOf190
 v28:=Tryz.zeroValue190
 i26:=by kernel_rfl}
def Tryz.gE:Go.Shelf.Ren:=⟨fun | 5=>134 | 8=>188 | 7=>187 | 19=>222 | 20=>190 | 10=>213 | 11=>214 | 12=>215 | 13=>216 | 14=>217 | 15=>218 | 16=>219 | 17=>220 | 18=>221 | 30=>232 | 31=>233 | 32=>234 | 33=>235 | 34=>236 | 35=>237 | 40=>238 | n=>n,fun | 23=>47 | 25=>3 | 3=>3 | 32=>247 | 22=>47 | 0=>0 | 44=>268 | 46=>242 | 4=>4 | 36=>282 | 35=>281 | 41=>260 | 5=>5 | 9=>9 | 53=>294 | 57=>216 | 63=>301 | 64=>302 | n=>n,fun | n=>n⟩
theorem Tryz.gz:Go.Proofs.SlLaysM.n5 Tryz.prog Tryz.gE:={
 mixed:=by kernel_rfl
 f5:=⟨Tryz.f134.name,by decide,Tryz.func134.trans (congrArg some (by kernel_rfl))⟩
 f7:=⟨Tryz.f187.name,by decide,Tryz.func187.trans (congrArg some (by kernel_rfl))⟩
 f8:=Tryz.func188.trans (congrArg some (by kernel_rfl))
 f10:=⟨Tryz.f213.name,by decide,Tryz.func213.trans (congrArg some (by kernel_rfl))⟩
 f11:=⟨Tryz.f214.name,by decide,Tryz.func214.trans (congrArg some (by kernel_rfl))⟩
 f12:=⟨Tryz.f215.name,by decide,Tryz.func215.trans (congrArg some (by kernel_rfl))⟩
 f13:=⟨Tryz.f216.name,by decide,Tryz.func216.trans (congrArg some (by kernel_rfl))⟩
 f14:=⟨Tryz.f217.name,by decide,Tryz.func217.trans (congrArg some (by kernel_rfl))⟩
 f15:=⟨Tryz.f218.name,by decide,Tryz.func218.trans (congrArg some (by kernel_rfl))⟩
 f16:=⟨Tryz.f219.name,by decide,Tryz.func219.trans (congrArg some (by kernel_rfl))⟩
 f17:=⟨Tryz.f220.name,by decide,Tryz.func220.trans (congrArg some (by kernel_rfl))⟩
 f18:=⟨Tryz.f221.name,by decide,Tryz.func221.trans (congrArg some (by kernel_rfl))⟩
 f19:=Tryz.func222.trans (congrArg some (by kernel_rfl))
 f20:=Tryz.func190.trans (congrArg some (by kernel_rfl))
 f30:=⟨Tryz.f232.name,by decide,Tryz.func232.trans (congrArg some (by kernel_rfl))⟩
 f31:=Tryz.func233.trans (congrArg some (by kernel_rfl))
 f32:=Tryz.func234.trans (congrArg some (by kernel_rfl))
 f33:=⟨Tryz.f235.name,by decide,Tryz.func235.trans (congrArg some (by kernel_rfl))⟩
 f34:=⟨Tryz.f236.name,by decide,Tryz.func236.trans (congrArg some (by kernel_rfl))⟩
 f35:=⟨Tryz.f237.name,by decide,Tryz.func237.trans (congrArg some (by kernel_rfl))⟩
 f40:=⟨Tryz.f238.name,by decide,Tryz.func238.trans (congrArg some (by kernel_rfl))⟩
 t0:=Tryz.underlying0
 a0:=Tryz.isAgg0
 z0:=Tryz.sizeOf0
 v0:=Tryz.zeroValue0
 t3:=Tryz.underlying3
 a3:=Tryz.isAgg3
 z3:=Tryz.sizeOf3
 v3:=Tryz.zeroValue3
 t4:=Tryz.underlying4
 a4:=Tryz.isAgg4
 z4:=Tryz.sizeOf4
 v4:=Tryz.zeroValue4
 t5:=Tryz.underlying5
 a5:=Tryz.isAgg5
 z5:=Tryz.sizeOf5
 v5:=Tryz.zeroValue5
 t9:=Tryz.underlying9
 a9:=Tryz.isAgg9
 z9:=Tryz.sizeOf9
 v9:=Tryz.zeroValue9
 t22:=Tryz.underlying47
 a22:=Tryz.isAgg47
 z22:=Tryz.sizeOf47
 v22:=Tryz.zeroValue47
 t23:=Tryz.underlying47
 a23:=Tryz.isAgg47
 z23:=Tryz.sizeOf47
 v23:=Tryz.zeroValue47
 t25:=Tryz.underlying3
 a25:=Tryz.isAgg3
 z25:=Tryz.sizeOf3
 v25:=Tryz.zeroValue3
 t32:=Tryz.underlying247
 a32:=Tryz.isAgg247
 z32:=Tryz.sizeOf247
 v32:=Tryz.zeroValue247
 t35:=Tryz.underlying281
 a35:=Tryz.isAgg281
 z35:=Tryz.sizeOf281
 v35:=Tryz.zeroValue281
 t36:=Tryz.underlying282
 a36:=Tryz.isAgg282
 z36:=Tryz.sizeOf282
 v36:=Tryz.zeroValue282
 t41:=Tryz.underlying260
 a41:=Tryz.isAgg260
 z41:=Tryz.sizeOf260
 v41:=Tryz.zeroValue260
 t44:=Tryz.underlying268
 a44:=Tryz.isAgg268
 z44:=Tryz.sizeOf268
 v44:=Tryz.zeroValue268
 t46:=Tryz.underlying242
 a46:=Tryz.isAgg242
 z46:=Tryz.sizeOf242
 v46:=Tryz.zeroValue242
 t53:=Tryz.underlying294
 a53:=Tryz.isAgg294
 z53:=Tryz.sizeOf294
 v53:=Tryz.zeroValue294
 t57:=Tryz.underlying216
 a57:=Tryz.isAgg216
 z57:=Tryz.sizeOf216
 v57:=Tryz.zeroValue216
 t63:=Tryz.underlying301
 a63:=Tryz.isAgg301
 z63:=Tryz.sizeOf301
 v63:=Tryz.zeroValue301
 t64:=Tryz.underlying302
 a64:=Tryz.isAgg302
 z64:=Tryz.sizeOf302
 v64:=Tryz.zeroValue302}
theorem FF(m:Nat):Go.Proofs.AnyZI.SortsIn Tryz.prog Tryz.xN Fence.wide m:=
 ⟨λblk off cap ss W hH hblk hsz=>callsIn_wide.2 (Go.Proofs.AnyM.slices_Sort_int Tryz.gz blk off cap ss W hH hblk hsz),λp cap W=>callsIn_wide.2 (Go.Proofs.AnyM.slices_Sort_int_none Tryz.gz p cap W)⟩
def Tryz.w8:Go.Shelf.Ren:=⟨fun | 7=>145 | 10=>195 | n=>n,fun | 23=>185 | 26=>3 | 3=>184 | 28=>190 | 0=>0 | 27=>189 | 33=>62 | 4=>4 | n=>n,fun | n=>n⟩
theorem Tryz.xz:Go.Proofs.SlLaysZI.n7 Tryz.prog Tryz.w8:={
 mixed:=by kernel_rfl
 f7:=⟨Tryz.f145.name,by decide,Tryz.func145.trans (congrArg some (by kernel_rfl))⟩
 f10:=⟨Tryz.f195.name,by decide,Tryz.func195.trans (congrArg some (by kernel_rfl))⟩
 t0:=Tryz.underlying0
 a0:=Tryz.isAgg0
 z0:=Tryz.sizeOf0
 v0:=Tryz.zeroValue0
 t4:=Tryz.underlying4
 a4:=Tryz.isAgg4
 z4:=Tryz.sizeOf4
 v4:=Tryz.zeroValue4
 t23:=Tryz.underlying185
 a23:=Tryz.isAgg185
 z23:=Tryz.sizeOf185
 v23:=Tryz.zeroValue185
 t26:=Tryz.underlying3
 a26:=Tryz.isAgg3
 z26:=Tryz.sizeOf3
 v26:=Tryz.zeroValue3
 t27:=Tryz.underlying189
 a27:=Tryz.isAgg189
 z27:=Tryz.sizeOf189
 v27:=Tryz.zeroValue189
 t28:=Tryz.underlying190
 a28:=Tryz.isAgg190
 z28:=Tryz.sizeOf190
 v28:=Tryz.zeroValue190
 t33:=Tryz.underlying62
 a33:=Tryz.isAgg62
 z33:=Tryz.sizeOf62
 v33:=Tryz.zeroValue62}
theorem Is:KeysOf Tryz.prog 145 195 185:=λmb W=>(callsIn_wide (n:=5)).1 (Go.Proofs.AnyZI.keys_in Tryz.xz Fence.wide 5 trivial rfl mb W)
theorem RS:GR Tryz.prog 99 195 3 3:=by
 refine⟨λb nn D Bm w hBm hm hown hsz=> ?_,λBm w hBm hm=> ?_⟩
 ·have hseq:SeqGives Fence.wide 2 Tryz.prog 195 #[.pointer (some ⟨Bm,0,none⟩)] encZ (λss=>ss.Perm (intKeys D)) (Maps.size D) w:=Go.Proofs.AnyZI.keys_gives (ρ:=Tryz.w8) {Tryz.xz with} Fence.wide _ trivial rfl (by omega) Bm b nn D w hBm hm hown;have h:=Go.Proofs.AnyZI.sorted_in Tryz.wo Fence.wide 5 trivial trivial trivial trivial rfl (by omega) (FF _) Tryz.call134 195 #[.pointer (some ⟨Bm,0,none⟩)] trivial Tryz.call195 _ _ (Nat.le_trans hsz (by unfold maxLen;omega)) (by omega) _ hseq;exact(callsIn_wide (n:=5)).1 h
 ·have hseq:SeqGives Fence.wide 2 Tryz.prog 195 #[.pointer (some ⟨Bm,0,none⟩)] encZ (λss:List Int=>ss=[]) 0 w:=Go.Proofs.AnyZI.keys_gives_nil (ρ:=Tryz.w8) {Tryz.xz with} Fence.wide _ trivial rfl Bm w hBm hm;have h:=Go.Proofs.AnyZI.sorted_in Tryz.wo Fence.wide 5 trivial trivial trivial trivial rfl (by omega) (FF _) Tryz.call134 195 #[.pointer (some ⟨Bm,0,none⟩)] trivial Tryz.call195 _ 0 (Nat.zero_le _) (by omega) _ hseq;refine((callsIn_wide (n:=5)).1 h).mono ?_;rintro e w' ⟨v,ss,rfl,rfl,hrow,hnil,hb⟩;obtain rfl:v= .slice none 0 0:=hnil.2 rfl;exact⟨rfl,hb⟩
def Tryz.w9:Go.Shelf.Ren:=⟨fun | 7=>109 | 10=>152 | n=>n,fun | 23=>207 | 26=>3 | 3=>212 | 28=>190 | 0=>0 | 27=>189 | 33=>62 | 4=>4 | n=>n,fun | n=>n⟩
theorem Tryz.hO:Go.Proofs.SlLaysZI.n7 Tryz.prog Tryz.w9:={
 mixed:=by kernel_rfl
 f7:=⟨Tryz.f109.name,by decide,Tryz.func109.trans (congrArg some (by kernel_rfl))⟩
 f10:=⟨Tryz.f152.name,by decide,Tryz.func152.trans (congrArg some (by kernel_rfl))⟩
 t0:=Tryz.underlying0
 a0:=Tryz.isAgg0
 z0:=Tryz.sizeOf0
 v0:=Tryz.zeroValue0
 t4:=Tryz.underlying4
 a4:=Tryz.isAgg4
 z4:=Tryz.sizeOf4
 v4:=Tryz.zeroValue4
 t23:=Tryz.underlying207
 a23:=Tryz.isAgg207
 z23:=Tryz.sizeOf207
 v23:=Tryz.zeroValue207
 t26:=Tryz.underlying3
 a26:=Tryz.isAgg3
 z26:=Tryz.sizeOf3
 v26:=Tryz.zeroValue3
 t27:=Tryz.underlying189
 a27:=Tryz.isAgg189
 z27:=Tryz.sizeOf189
 v27:=Tryz.zeroValue189
 t28:=Tryz.underlying190
 a28:=Tryz.isAgg190
 z28:=Tryz.sizeOf190
 v28:=Tryz.zeroValue190
 t33:=Tryz.underlying62
 a33:=Tryz.isAgg62
 z33:=Tryz.sizeOf62
 v33:=Tryz.zeroValue62}
theorem It:KeysOf Tryz.prog 109 152 207:=λmb W=>(callsIn_wide (n:=5)).1 (Go.Proofs.AnyZI.keys_in Tryz.hO Fence.wide 5 trivial rfl mb W)
theorem RT:GR Tryz.prog 99 152 3 3:=by
 refine⟨λb nn D Bm w hBm hm hown hsz=> ?_,λBm w hBm hm=> ?_⟩
 ·have hseq:SeqGives Fence.wide 2 Tryz.prog 152 #[.pointer (some ⟨Bm,0,none⟩)] encZ (λss=>ss.Perm (intKeys D)) (Maps.size D) w:=Go.Proofs.AnyZI.keys_gives (ρ:=Tryz.w9) {Tryz.hO with} Fence.wide _ trivial rfl (by omega) Bm b nn D w hBm hm hown;have h:=Go.Proofs.AnyZI.sorted_in Tryz.wo Fence.wide 5 trivial trivial trivial trivial rfl (by omega) (FF _) Tryz.call134 152 #[.pointer (some ⟨Bm,0,none⟩)] trivial Tryz.call152 _ _ (Nat.le_trans hsz (by unfold maxLen;omega)) (by omega) _ hseq;exact(callsIn_wide (n:=5)).1 h
 ·have hseq:SeqGives Fence.wide 2 Tryz.prog 152 #[.pointer (some ⟨Bm,0,none⟩)] encZ (λss:List Int=>ss=[]) 0 w:=Go.Proofs.AnyZI.keys_gives_nil (ρ:=Tryz.w9) {Tryz.hO with} Fence.wide _ trivial rfl Bm w hBm hm;have h:=Go.Proofs.AnyZI.sorted_in Tryz.wo Fence.wide 5 trivial trivial trivial trivial rfl (by omega) (FF _) Tryz.call134 152 #[.pointer (some ⟨Bm,0,none⟩)] trivial Tryz.call152 _ 0 (Nat.zero_le _) (by omega) _ hseq;refine((callsIn_wide (n:=5)).1 h).mono ?_;rintro e w' ⟨v,ss,rfl,rfl,hrow,hnil,hb⟩;obtain rfl:v= .slice none 0 0:=hnil.2 rfl;exact⟨rfl,hb⟩
def Tryz.xA:Go.Shelf.Ren:=⟨fun | 7=>100 | 10=>135 | n=>n,fun | 23=>192 | 26=>3 | 3=>4 | 28=>190 | 0=>0 | 27=>189 | 33=>62 | 4=>4 | n=>n,fun | n=>n⟩
theorem Tryz.hZ:Go.Proofs.SlLaysZI.n7 Tryz.prog Tryz.xA:={
 mixed:=by kernel_rfl
 f7:=⟨Tryz.f100.name,by decide,Tryz.func100.trans (congrArg some (by kernel_rfl))⟩
 f10:=⟨Tryz.f135.name,by decide,Tryz.func135.trans (congrArg some (by kernel_rfl))⟩
 t0:=Tryz.underlying0
 a0:=Tryz.isAgg0
 z0:=Tryz.sizeOf0
 v0:=Tryz.zeroValue0
 t4:=Tryz.underlying4
 a4:=Tryz.isAgg4
 z4:=Tryz.sizeOf4
 v4:=Tryz.zeroValue4
 t23:=Tryz.underlying192
 a23:=Tryz.isAgg192
 z23:=Tryz.sizeOf192
 v23:=Tryz.zeroValue192
 t26:=Tryz.underlying3
 a26:=Tryz.isAgg3
 z26:=Tryz.sizeOf3
 v26:=Tryz.zeroValue3
 t27:=Tryz.underlying189
 a27:=Tryz.isAgg189
 z27:=Tryz.sizeOf189
 v27:=Tryz.zeroValue189
 t28:=Tryz.underlying190
 a28:=Tryz.isAgg190
 z28:=Tryz.sizeOf190
 v28:=Tryz.zeroValue190
 t33:=Tryz.underlying62
 a33:=Tryz.isAgg62
 z33:=Tryz.sizeOf62
 v33:=Tryz.zeroValue62}
theorem Nc:KeysOf Tryz.prog 100 135 192:=λmb W=>(callsIn_wide (n:=5)).1 (Go.Proofs.AnyZI.keys_in Tryz.hZ Fence.wide 5 trivial rfl mb W)
theorem CV:GR Tryz.prog 99 135 3 3:=by
 refine⟨λb nn D Bm w hBm hm hown hsz=> ?_,λBm w hBm hm=> ?_⟩
 ·have hseq:SeqGives Fence.wide 2 Tryz.prog 135 #[.pointer (some ⟨Bm,0,none⟩)] encZ (λss=>ss.Perm (intKeys D)) (Maps.size D) w:=Go.Proofs.AnyZI.keys_gives (ρ:=Tryz.xA) {Tryz.hZ with} Fence.wide _ trivial rfl (by omega) Bm b nn D w hBm hm hown;have h:=Go.Proofs.AnyZI.sorted_in Tryz.wo Fence.wide 5 trivial trivial trivial trivial rfl (by omega) (FF _) Tryz.call134 135 #[.pointer (some ⟨Bm,0,none⟩)] trivial Tryz.call135 _ _ (Nat.le_trans hsz (by unfold maxLen;omega)) (by omega) _ hseq;exact(callsIn_wide (n:=5)).1 h
 ·have hseq:SeqGives Fence.wide 2 Tryz.prog 135 #[.pointer (some ⟨Bm,0,none⟩)] encZ (λss:List Int=>ss=[]) 0 w:=Go.Proofs.AnyZI.keys_gives_nil (ρ:=Tryz.xA) {Tryz.hZ with} Fence.wide _ trivial rfl Bm w hBm hm;have h:=Go.Proofs.AnyZI.sorted_in Tryz.wo Fence.wide 5 trivial trivial trivial trivial rfl (by omega) (FF _) Tryz.call134 135 #[.pointer (some ⟨Bm,0,none⟩)] trivial Tryz.call135 _ 0 (Nat.zero_le _) (by omega) _ hseq;refine((callsIn_wide (n:=5)).1 h).mono ?_;rintro e w' ⟨v,ss,rfl,rfl,hrow,hnil,hb⟩;obtain rfl:v= .slice none 0 0:=hnil.2 rfl;exact⟨rfl,hb⟩
abbrev JD:=List (List (Int×QE))
abbrev ZM:=List (List (Int×Bool))
abbrev JI:=List (List (Int×(Option Nat)))
def UH(F:Fz)(p:FuncId)(c:List Value×List Value)(M:((QA×Unit×(List Int))->Option (Out Qm ((List UInt8)×QA)))):Prop:=∀U:JW,SC Tryz.prog JO F p c (fun(x:(QA×Unit×(List Int))) F vs=>∃(p0:Option Addr) (k0:Nat),vs=[(vP U.g31 0),(vS p0 x.2.2 k0)]/\QH 1 (Ex (KI .i64)) F p0 k0 x.2.2) (λF (x:(QA×Unit×(List Int)))=>[Qu U F x.1]) (fun(r:(List UInt8)×QA) _ v=>v=(.string (bs r.1))) (λF (x:(QA×Unit×(List Int))) (r:(List UInt8)×QA)=>[Jl U F r.2]) M
theorem UH.mono{F F' :Fz}{p:FuncId}{c:List Value×List Value}{M:((QA×Unit×(List Int))->Option (Out Qm ((List UInt8)×QA)))}(h:UH F p c M)(le:F<=F'):UH F' p c M:=λU=>(h U).mono le
abbrev GU(U:JW)(F:Fz)(p:FuncId)(c:List Value×List Value)(M:(((List QD)×(List (List (Int×QE)))×(List (List (Int×Bool)))×QS)->Option (Out Zl ((List QD)×(List (List (Int×QE)))×(List (List (Int×Bool))))))):Prop:=SC Tryz.prog Wp F p c (fun(x:((List QD)×(List (List (Int×QE)))×(List (List (Int×Bool)))×QS)) _ vs=>vs=[(K7 x.2.2.2)]) (λF (x:((List QD)×(List (List (Int×QE)))×(List (List (Int×Bool)))×QS))=>[ZQ U F x.1,KJ U F x.2.1,Qd U F x.2.2.1]) (fun(r:(List QD)×(List (List (Int×QE)))×(List (List (Int×Bool)))) _ v=>v= .tuple #[]) (λF (x:((List QD)×(List (List (Int×QE)))×(List (List (Int×Bool)))×QS)) (r:(List QD)×(List (List (Int×QE)))×(List (List (Int×Bool))))=>[ZQ U F r.1,KJ U F r.2.1,Qd U F r.2.2]) M
abbrev Bp(U:JW)(F:Fz)(p:FuncId)(c:List Value×List Value)(M:(((List QF)×(List Qh)×(List (List (Int×Bool)))×(List (List (Int×(Option Nat))))×(Option Nat)×QG)->Option (Out Zg ((List QF)×(List (List (Int×Bool)))×(List (List (Int×(Option Nat)))))))):Prop:=SC Tryz.prog Ue F p c (fun(x:((List QF)×(List Qh)×(List (List (Int×Bool)))×(List (List (Int×(Option Nat))))×(Option Nat)×QG)) F vs=>∃(p0:Option Addr) (k0:Unit),vs=[(.pointer p0),(K8 x.2.2.2.2.2)]/\ZL U.g187 F p0 x.2.2.2.2.1) (λF (x:((List QF)×(List Qh)×(List (List (Int×Bool)))×(List (List (Int×(Option Nat))))×(Option Nat)×QG))=>[Qq U F x.1,Qz U F x.2.1,Qd U F x.2.2.1,Q3 U F x.2.2.2.1]) (fun(r:(List QF)×(List (List (Int×Bool)))×(List (List (Int×(Option Nat))))) _ v=>v= .tuple #[]) (λF (x:((List QF)×(List Qh)×(List (List (Int×Bool)))×(List (List (Int×(Option Nat))))×(Option Nat)×QG)) (r:(List QF)×(List (List (Int×Bool)))×(List (List (Int×(Option Nat)))))=>[Qq U F r.1,Qz U F x.2.1,Qd U F r.2.1,Q3 U F r.2.2]) M
end
section
open Go.Dec Go.Proofs.Tryz Go.Shelf Go.RowKit Go.Maps Go.Sort
set_option maxRecDepth 100000
set_option maxHeartbeats 4000000
def KB{σ:Type}(y:(List Int)->σ->Option (σ×Bool))(b:(List Int))(d:Int)(a:Int×σ):Option (Vb (Int×σ) ((σ) ⊕ (σ))):=
 if(decide (a.1 < (b.length:Int))) then((ZW b a.1 b.length).bind λe=>QV (JT d (e.length:Int)) λf=>(ZW b a.1 (ZF (a.1+f))).bind λg=>(y g a.2).bind λc=>if(!c.2) then(some (.done (.inr c.1))) else(QV (ZF (a.1+d)) λi31=>some (.next (i31,c.1)))) else(some (.done (.inl a.2)))
def UN{σ:Type}(y:(List Int)->σ->Option (σ×Bool))(b:(List Int))(c:Int)(d:σ):Option σ:=
 (ZV (KB y b c) (0,d)).bind λe=>match e with | .inl a=>(some a) | .inr a=>(some a)
theorem BV(F0:Fz)(σ:Type)(ly:Nat)(Y:σ->Fz->HP)(y:(List Int)->σ->Option (σ×Bool))(hy:Vk prog ly F0 (fun(x:(List Int)) F vs=>∃(D:Option Addr) (E:Nat),vs=[(vS D x E)]/\QH 1 (Ex (KI .i64)) F D E x) Y y)(u:(List Int))(v:Nat)(G:Option Addr)(H:Nat)(z:F0.mem v=some (.cells #[(vS G u H)] 47))(I:QH 1 (Ex (KI .i64)) F0 G H u)(K:Int)(A:Nat)(L:F0.mem A=some (.cells #[(vI K)] 3))(M:σ):CT prog 82 #[(.func (.yield ly) #[] #[]),(vP v 0),(vP A 0)] F0 (Y M F0) (UN y u K M) (λ_ _ _=>True) (λs' F' _=>Y s' F'):=by
 refine CT.enter func82 J ntmps82 J λr R=> ?_;unfold UN;refine .q (.g (.s J J (.n (.c (.k (.ug (.p [0,1,2,4] J) (.loop (fun(B:Int×σ) a w=>∃(f:Fz),F0<=f/\Hd 31 [] [(0,(.func (.yield ly) #[] #[])),(1,(vP v 0)),(2,(vP A 0)),(4,(vI B.1))] f [Y B.2 f,R] a w) (λP e a w=>match P with | .inl d=>e= .exit 0/\∃(l:Fz),F0<=l/\Hd 31 [] [] l [Y d l,R] a w | .inr d=>e= .ret/\∃(o:Fz),F0<=o/\Hd 31 [] [] o [Y d o,R] a w) ?_ ?_ ?_)))))))
 ·exact λa w h=>⟨F0,Fz.r,h.1.sub (.k J),h.2⟩
 ·intro B ctl;refine GC.ex (λa w ⟨f,b,hA⟩=>⟨_,hA,?_⟩);unfold KB;refine .q (.q (.g (.m J J (.R J uG J (b.mem _ _ z) J (.wI J J V2 J (.lss J J J (.n (.c (.i J (λQ=> ?_) (λQ=> ?_))))))))))
  ·refine .skip (.c (.q (.k (.q (.ug (.p [0,1,2,4] J) (.uz 7 Qb (by kernel_rfl) (.R J V3 J (b.mem _ _ L) J (.R J uG J (b.mem _ _ z) J (.m J J (.wu J V2 W3 (I.mono b) J J (λaA aB aC aD aE=>.wI J J V2 J (.min2 J J J (.u9 J J (λaF aG=>.wC (.n (.c (.q (.g (.m J J (.R J uG J (b.mem _ _ z) J (.m J J (.m J J (.m J J (.add J J J (.m J J (.m J J (.add J J J (.gX J V2 W3 (I.mono b) J J J J (λaH S T aI V=>.xp J hy J J ⟨S,T,J,V⟩ (i:=0) J b Fz.r (λaJ N aK C=>.not J J (.n (.c (.i J (λW=> ?_) (λW=> ?_))))))))))))))))))))))))))))))))))
   ·refine .wN (Q9.ret λa w h=>⟨J,N,(Fz.t b C),h.1.sub (.k J),h.2⟩)
   ·refine .skip (.k (.c (.g (.m J J (.R J V3 J ((Fz.t b C).mem _ _ L) J (.add J J J (.u9 J J (λi31 aL=>.n ?_))))))));exact .n (Q9.norm λa w h=>⟨N,(Fz.t b C),h.1.sub (.k J),h.2⟩)
  ·refine .uy J (Q9.exit λa w h=>⟨J,f,b,h.1.sub (.k J),h.2⟩)
 ·intro d aM hk e a w hD;rcases d with d | d
  ·obtain⟨rfl,l,X,hA⟩:=hD;refine ZK J (GE.app ?_ hk a w hA);exact .bE results82 .n (i:=0) J (j:=0) J X trivial
  obtain⟨rfl,o,Z,hA⟩:=hD;exact YY ((PB results82 .n (i:=0) J (j:=0) J Z trivial) hk a w hA)
def BQ{α:Type}(n:Nat)(l:List α):Nat->Nat->List (List α)
 | 0,_=>[]
 | d+1,a=>if a < l.length then(l.drop a).take n::BQ n l d (a+n) else[]
def UR(c1:(List Int))(c7:Int):Option (List (List Int)):=if 0 < c7/\c7<=1000000/\c1.length<=1000000000000 then some (BQ c7.toNat c1 c1.length 0) else none
theorem Nr{σ:Type}{y:(List Int)->σ->Option (σ×Bool)}{l:List Int}{n:Nat}(hn:0 < n)(hn2:n<=1000000)(hl:l.length<=1000000000000):∀(d a:Nat) (s r:σ),l.length<=a+d->a<=l.length+n->V0 y (BQ n l d a) s=some r->
  ZV (KB y l (n:Int)) ((a:Int),s)=some (.inl r)∨ZV (KB y l (n:Int)) ((a:Int),s)=some (.inr r)
 | 0,a,s,r,hk,_,h=>by
  simp only[BQ,V0,Option.some.injEq] at h
  subst h;left;rw[ZR];have:¬a < l.length:=by omega
  simp[KB,this]
 | d+1,a,s,r,hk,ha,h=>by
  by_cases hlt:a < l.length
  ·simp only[BQ,if_pos hlt,V0] at h
   have hs0:ZW l (a:Int) (l.length:Int)=some (l.drop a):=by
    unfold ZW;rw[if_pos (by omega)];simp only[Int.toNat_natCast];rw[List.take_of_length_le (by simp)]
   have hw:ZF ((a:Int)+n)=((a+n:Nat):Int):=by rw[Qs (by omega) (by omega)];omega
   have he:JT (n:Int) ((l.drop a).length:Int)=((min n (l.length - a):Nat):Int):=by
    unfold JT;simp only[List.length_drop];split<;>omega
   have hs:ZW l (a:Int) (ZF ((a:Int)+((min n (l.length - a):Nat):Int)))=some ((l.drop a).take n):=by
    rw[Qs (by omega) (by omega)];unfold ZW;rw[if_pos (by omega)];congr 1;have e1:((a:Int)+((min n (l.length - a):Nat):Int)).toNat - (a:Int).toNat=min n (l.length - a):=by omega
    rw[e1,Int.toNat_natCast,<-List.length_drop,<-List.take_eq_take_min]
   rw[ZR]
   have hb:KB y l (n:Int) ((a:Int),s)=(y ((l.drop a).take n) s).bind λp26=>if(!p26.2) then(some (.done (.inr p26.1))) else some (.next (((a+n:Nat):Int),p26.1)):=by
    show(if decide ((a:Int) < (l.length:Int)) then _ else _)=_;rw[if_pos (by simpa using hlt)];rw[hs0];show(ZW l (a:Int) (ZF ((a:Int)+JT (n:Int) ((l.drop a).length:Int)))).bind _=_;rw[he,hs,<-hw];rfl
   rw[hb];cases hy:y ((l.drop a).take n) s with
   | none=>rw[hy] at h;cases h
   | some p=>
    rw[hy] at h
    simp only[Option.bind_some] at h ⊢
    by_cases hp:p.2=true
    ·rw[if_pos hp] at h
     have:=Nr hn hn2 hl d (a+n) p.1 r (by omega) (by omega) h;simpa[hp] using this
    ·rw[if_neg hp] at h
     simp only[Option.some.injEq] at h
     right;simp[hp,h]
  ·simp only[BQ,if_neg hlt,V0,Option.some.injEq] at h
   subst h;left;rw[ZR];simp[KB,hlt]
theorem Dm{σ:Type}{y:(List Int)->σ->Option (σ×Bool)}{c1:(List Int)}{c7:Int}{l:List (List Int)}{s r:σ}(hl:UR c1 c7=some l)(hr:V0 y l s=some r):UN y c1 c7 s=some r:=by
 unfold UR at hl
 unfold UN;split at hl
 ·rename_i h;simp only[Option.some.injEq] at hl
  subst hl;have e7:c7=((c7.toNat:Nat):Int):=by omega
  rcases Nr (y:=y) (n:=c7.toNat) (by omega) (by omega) h.2.2 c1.length 0 s r (by omega) (by omega) hr with e | e
  ·rw[<-e7] at e
   have e' :ZV (KB y c1 c7) (0,s)=some (.inl r):=e;rw[e'];rfl
  ·rw[<-e7] at e
   have e' :ZV (KB y c1 c7) (0,s)=some (.inr r):=e;rw[e'];rfl
 ·cases hl
def Z1{σ:Type}(y:ON->σ->Option (σ×Bool))(d:JI)(e:Qh)(c:(List Int))(a:Int×σ):Option (Vb (Int×σ) ((σ) ⊕ (σ))):=
 if(decide (a.1 < (c.length:Int))) then((Zc c a.1).bind λf=>(e.casks).bind λi47=>(d[i47]?).bind λg=>(y ((Qc g f).getD none) a.2).bind λb=>if(!b.2) then(some (.done (.inr b.1))) else(some (.next ((ZF (a.1+1)),b.1)))) else(some (.done (.inl a.2)))
def UA{σ:Type}(y:ON->σ->Option (σ×Bool))(A1:List Qh)(b:JI)(d:ON)(e:σ):Option σ:=
 d.bind λi9=>(A1[i9]?).bind λc=>(VU b c.casks).bind λf=>(ZV (Z1 y b c f) (0,e)).bind λg=>match g with | .inl a=>(some a) | .inr a=>(some a)
theorem Dx(F0:Fz)(U:JW)(σ:Type)(ly:Nat)(Y:σ->Fz->HP)(y:ON->σ->Option (σ×Bool))(hy:Vk prog ly F0 (fun(x:ON) F vs=>∃(T:Option Addr) (k0:Unit),vs=[(.pointer T)]/\ZL U.g196 F T x) Y y)(A1:List Qh)(u:JI)(V:ON)(G:Nat)(W:Option Addr)(k7:Unit)(X:F0.mem G=some (.cells #[(.pointer W)] 181))(h8:ZL U.g187 F0 W V)(H:σ):Xe prog 144 #[(.func (.yield ly) #[] #[]),(vP G 0)] F0 [Qz U F0 A1,Q3 U F0 u,Y H F0] (UA y A1 u V H) (λ_ _ _=>True) (λs' F' =>[Qz U F' A1,Q3 U F' u,Y s' F']):=by
 refine Xe.enter func144 J ntmps144 J λr R=> ?_;refine .o (Sub.refl _) (J:_=[Qz U F0 A1,Q3 U F0 u,Y H F0,R]) ?_;unfold UA;refine .q (.g (.R J Rs J X J (.d (λi9 aH=> ?_))));obtain⟨ah,Z,aA⟩:=h8.at aH;refine .J aA J J (.f J Af J Mm J (.d (λaB aC=>.um (Φ:=λv=>∃(I:Option Nat) (aI:Unit),v=(.map I)/\Zp U.g185 F0 I aB.casks) 0 J Fz.r Z aC J Mo J (λvs ⟨K,L,h,M⟩=>⟨_,by subst h;exact J,K,L,J,M⟩) (λv hv=> ?_))));obtain⟨I,aI,rfl,aJ⟩:=hv;refine .fC Is J call145 J J (λai aj b aK=>.xc U3 RS (c:=(Ex (KI .i64))) (λ_ _=>J) (aK) 1 J (aJ.mono b) J call99 J J (λaD C aL aM ak j aN=>.wI J J V2 J (.m J J (.n (.c (.k (.ug (.p [0,1,10,11,12] J) (.bH 2 hy J Fz.r (Fz.t b j) (.loop (fun(N:Int×σ) a w=>∃(B:Fz),C<=B/\Hd 26 [] [(0,(.func (.yield ly) #[] #[])),(1,(vP G 0)),(10,(vS aL aD aM)),(11,(vI (aD.length:Int))),(12,(vI N.1))] B [Qz U F0 A1,Q3 U F0 u,Y N.2 B,R] a w) (λb0 e a w=>match b0 with | .inl A=>e= .exit 0/\∃(D:Fz),C<=D/\Hd 26 [] [] D [Qz U F0 A1,Q3 U F0 u,Y A D,R] a w | .inr A=>e= .ret/\∃(E:Fz),C<=E/\Hd 26 [] [] E [Qz U F0 A1,Q3 U F0 u,Y A E,R] a w) ?_ ?_ ?_)))))))))
 ·exact λa w h=>⟨C,Fz.r,h.1.sub (.k J),h.2⟩
 ·intro N ctl;refine GC.ex (λa w ⟨B,l,hA⟩=>⟨_,hA,?_⟩);unfold Z1;refine .q (.g (.lss J J J (.n (.c (.q (.i J (λaP=> ?_) (λaP=> ?_)))))))
  ·refine .skip (.c (.q (.k (.q (.g (.idx J V2 W3 (aN.mono l) J J (λaQ al an ao aq ar au aR aS=>.R J V3 J aR (QI (k:=0) aS J) (.s J J (.n (.c (.q (.g (.m J J (.R J Rs J ((Fz.t b (Fz.t j l)).mem _ _ X) J (.J aA J J (.f J Af J Mm J (.um (Φ:=λv=>∃(P:Option Nat) (aU:Unit),v=(.map P)/\Zp U.g185 B P aB.casks) 0 J (Fz.t b (Fz.t j l)) (Z.mono (Fz.t b (Fz.t j l))) aC J Mo J (λvs ⟨K,L,h,M⟩=>⟨_,by subst h;exact J,K,L,J,M⟩) (λv hv=> ?_))))))))))))))))));obtain⟨P,aU,rfl,aV⟩:=hv;refine .m J J (.d (λi47 aW=> ?_));obtain⟨av,aX,aY⟩:=aV.at aW;refine .d (λaw aZ=>.wk (key:=aQ) (z:=none) 1 J (Fz.t b (Fz.t j l)) aX aY aZ J EF (.int U3) kH ⟨none,(),J,ZL.nil⟩ J J ?_);intro v hv;obtain⟨aa,ab,rfl,ad⟩:=hv;refine .xp J hy J J ⟨aa,ab,J,ad⟩ (i:=2) J (Fz.t b (Fz.t j l)) Fz.r (λax aE ay aF=>.not J J (.n (.c (.i J (λae=> ?_) (λae=> ?_)))))
   ·refine .wN (Q9.ret λa w h=>⟨J,aE,(Fz.t l aF),h.1.sub (.k J),h.2⟩)
   ·refine .skip (.k (.c (.g (.add J J J (.m J J (.n ?_))))));exact .n (Q9.norm λa w h=>⟨aE,(Fz.t l aF),h.1.sub (.k J),h.2⟩)
  ·refine .uy J (Q9.exit λa w h=>⟨J,B,l,h.1.sub (.k J),h.2⟩)
 ·intro A az hk e a w hD;rcases A with A | A
  ·obtain⟨rfl,D,Q,hA⟩:=hD;refine ZK J (GE.app ?_ hk a w hA);refine .u3 0 (KQ U) (Fz.t b (Fz.t j Q)) J (.u3 1 (Kf U) (Fz.t b (Fz.t j Q)) J ?_);exact .xi [0,0,0,0] results144 .nil J (Fz.t b (Fz.t j Q)) trivial
  obtain⟨rfl,E,S,hA⟩:=hD;exact YY ((λe a w h=>FH [0,0,0,0] results144 .nil J (Fz.t b (Fz.t j S)) trivial e a w (Hd.u3 1 (Kf U) (Fz.t b (Fz.t j S)) J (Hd.u3 0 (KQ U) (Fz.t b (Fz.t j S)) J h))) hk a w hA)
def Yz(A1:List Qh)(A2:List (List (Int×Option Nat)))(c:Option Nat):Option (List (Option Nat)):=
 c.bind λi=>(A1[i]?).bind λb=>(b.casks).bind λj=>(A2[j]?).bind λl=>(HU l).bind λks=>some (ks.map λk=>(Qc l k).getD none)
theorem Au{σ:Type}{y:Option Nat->σ->Option (σ×Bool)}{A2:List (List (Int×Option Nat))}{x:Qh}{j:Nat}{l:List (Int×Option Nat)}{ks:List Int}(hj:x.casks=some j)(hl:A2[j]? =some l)(hn:ks.length<=1000000):∀(d k:Nat) (s r:σ),k+d=ks.length->V0 y ((ks.drop k).map λk=>(Qc l k).getD none) s=some r->
  ZV (Z1 y A2 x ks) ((k:Int),s)=some (.inl r)∨ZV (Z1 y A2 x ks) ((k:Int),s)=some (.inr r)
 | 0,k,s,r,hk,h=>by
  rw[List.drop_eq_nil_of_le (by omega)] at h
  simp only[List.map_nil,V0,Option.some.injEq] at h
  subst h;left;rw[ZR];have:¬k < ks.length:=by omega
  simp[Z1,this]
 | d+1,k,s,r,hk,h=>by
  have hkl:k < ks.length:=by omega
  have hw:ZF ((k:Int)+1)=((k+1:Nat):Int):=by rw[Qs (by omega) (by omega)];rfl
  rw[List.drop_eq_getElem_cons hkl] at h
  have hi:Zc ks (k:Int)=some ks[k]:=by simp[Zc,hkl]
  simp only[List.map_cons,V0] at h
  rw[ZR];cases hy:y ((Qc l ks[k]).getD none) s with
  | none=>rw[hy] at h;cases h
  | some p=>
   rw[hy] at h
   simp only[Option.bind_some] at h
   by_cases hp:p.2=true
   ·rw[if_pos hp] at h
    have:=Au hj hl hn d (k+1) p.1 r (by omega) h;simpa[Z1,hkl,hi,hj,hl,hy,hp,hw] using this
   ·rw[if_neg hp] at h
    simp only[Option.some.injEq] at h
    right;simp[Z1,hkl,hi,hj,hl,hy,hp,h]
theorem DB{σ:Type}{y:Option Nat->σ->Option (σ×Bool)}{A1:List Qh}{A2:List (List (Int×Option Nat))}{c:Option Nat}{l:List (Option Nat)}{s r:σ}(hl:Yz A1 A2 c=some l)(hr:V0 y l s=some r):UA y A1 A2 c s=some r:=by
 simp only[Yz,Option.bind_eq_some_iff] at hl
 obtain⟨i,hi,b,hb,j,hj,m,hm,ks,hks,hl⟩:=hl;simp only[Option.some.injEq] at hl
 subst hl
 have hn:ks.length<=1000000:=by
  unfold HU at hks
  split at hks
  ·rename_i h;simp only[Option.some.injEq] at hks
   rw[<-hks];simpa using h.2
  ·cases hks
 have hs:VU A2 b.casks=some ks:=by simp[VU,hj,hm,hks]
 unfold UA;rw[hi,Option.bind_some,hb,Option.bind_some,hs,Option.bind_some];rcases Au (y:=y) hj hm hn ks.length 0 s r (by omega) (by simpa using hr) with e | e
 ·have e' :ZV (Z1 y A2 b ks) (0,s)=some (.inl r):=e;rw[e'];rfl
 ·have e' :ZV (Z1 y A2 b ks) (0,s)=some (.inr r):=e;rw[e'];rfl
def YA(A1:List QD)(a:ON)(b:QE):Option (Int):=
 a.bind λi11=>(A1[i11]?).bind λc=>some (ZF ((ZF (b.Sent+c.rules.Transit))+1))
theorem HG(F0:Fz)(U:JW)(A1:List QD)(e:ON)(i:Option Addr)(y:Unit)(j:ZL U.g209 F0 i e)(b:QE):Xe prog 205 #[(.pointer i),(Jm b)] F0 [ZQ U F0 A1] (YA A1 e b) (λr _ v=>v=(vI r)) (λr F' =>[ZQ U F' A1]):=by
 refine Xe.enter func205 J ntmps205 J λr R=> ?_;refine .o (Sub.refl _) (J:_=[ZQ U F0 A1,R]) ?_;unfold YA;refine .q (.g (.u6 (cs:=(ZG b)) J J J (λz A a k=>.s J J (.n (.c (.q (.ug (.p [0,3] J) (.uz 10 Qb (by kernel_rfl) (.f J OM J W3 J (.R J V3 J k J (.m J J (.d (λi11 l=> ?_)))))))))))));obtain⟨B,t,u⟩:=(j.mono a).at l;refine .J u J J (.f J Yo J Bn J (.f J CQ J W3 J (.d (λw x=>.um (Φ:=λv=>v=(vI w.rules.Transit)) 0 J a t x J V3 J (λvs ⟨C,D,E,F,G,H,I,K,h,L,M,N,P⟩=>⟨_,by subst h;exact J,J⟩) (λv hv=> ?_)))));subst hv;refine .add J J J (.add J J J (.s J J (.wC (.n (.c (.u3 0 (Jt U) a J ?_))))));exact .xt [0,0] results205 (.tmp J (.nil)) J a J
def Z7(A1:List QD)(A3:ZM)(c:ON)(d:Int)(e:(Int×QE))(a:ZM):Option (ZM):=
 ((YA A1 c e.2).bind λb=>(if(decide (b<=d)) then((a[A3.length]?).bind λf=>QV (List.set a A3.length (Qv f b true)) λg=>some g) else(some a):Option (ZM)).bind λh=>some h:Option (ZM)).bind λi=>some i
def Zn{σ:Type}(y:Int->σ->Option (σ×Bool))(c:(List Int))(a:Int×σ):Option (Vb (Int×σ) ((σ) ⊕ (σ))):=
 if(decide (a.1 < (c.length:Int))) then((Zc c a.1).bind λd=>(y d a.2).bind λb=>if(!b.2) then(some (.done (.inr b.1))) else(some (.next ((ZF (a.1+1)),b.1)))) else(some (.done (.inl a.2)))
def VV{σ:Type}(y:Int->σ->Option (σ×Bool))(upd:List QD×JD×ZM->σ)(A1:List QD)(b:JD)(A3:ZM)(c:ON)(e:Int):Option σ:=
 QV (A3++[[]]) λf=>c.bind λi20=>(A1[i20]?).bind λg=>(g.moving).bind λi30=>(b[i30]?).bind λh=>(Dd Sz (Z7 A1 A3 c e) h f).bind λd=>(VU d (some A3.length)).bind λi=>(ZV (Zn y i) (0,(upd (A1,b,d)))).bind λj=>match j with | .inl a=>(some a) | .inr a=>(some a)
theorem Fg(F0:Fz)(U:JW)(σ:Type)(ly:Nat)(Y:σ->Fz->HP)(Z:HP)(upd:List QD×JD×ZM->σ)(y:Int->σ->Option (σ×Bool))(hy:Vk prog ly F0 (fun(x:Int) _ vs=>vs=[(vI x)]) Y y)(hp:∀(r:List QD×JD×ZM) F',F0<=F'->∀m,Qj ([ZQ U F' r.1,KJ U F' r.2.1,Qd U F' r.2.2]++[Z]) m->Y (upd r) F' m)(A1:List QD)(u:JD)(A3:ZM)(X:ON)(N:Nat)(p7:Option Addr)(k8:Unit)(aN:F0.mem N=some (.cells #[(.pointer p7)] 204))(h9:ZL U.g209 F0 p7 X)(aF:Int)(P:Nat)(ae:F0.mem P=some (.cells #[(vI aF)] 3)):Xe prog 228 #[(.func (.yield ly) #[] #[]),(vP N 0),(vP P 0)] F0 [ZQ U F0 A1,KJ U F0 u,Qd U F0 A3,Z] (VV y upd A1 u A3 X aF) (λ_ _ _=>True) (λs' F' =>[Y s' F']):=by
 refine Xe.enter func228 J ntmps228 J λr R=> ?_;refine .o (Sub.refl _) (J:_=[ZQ U F0 A1,KJ U F0 u,Qd U F0 A3,Z,R]) ?_;unfold VV;refine .q (.g (.wS (λx:Int=>(vI x)) (λ_ (x:Bool) v=>v=(.bool x)) J (λaG=>.uj (λbR af=>.wh 0 2 J J (Zj U) Fz.r (λG m l hm=>Ks (Fz.t Fz.r l) hm) af (λaH j aP=>.s J J (.n (.c (.q (.q (.g (.R J G9 J (j.mem _ _ aN) J (.d (λi20 ag=> ?_)))))))))))));obtain⟨bS,ah,ai⟩:=(h9.mono j).at ag;refine .J ai J J (.f J Yo J L9 J (.d (λaj ak=>.um (Φ:=λv=>∃(aI:Option Nat) (al:Unit),v=(.map aI)/\Zp U.g207 aH aI aj.moving) 0 J j ah ak J EC J (λvs ⟨q0,q1,q2,q3,q4,q5,q6,q7,h,r0,r1,r2,r3⟩=>⟨_,by subst h;exact J,q4,q5,J,r2⟩) (λv hv=> ?_))));obtain⟨aI,al,rfl,ar⟩:=hv;refine .d (λi30 au=> ?_);obtain⟨C,av,aw⟩:=ar.at au;refine .d (λbd aQ=>.gZ 1 J av aw aQ J OO J (λE ax=>.n (.c (.k (.ug (.p [0,1,2,4,15] J) (.u3 1 (Jt U) j J (.gM (B:=0) (b:=(Z7 A1 A3 X aF)) Sz (λaJ F (aK:ZM) a w=>∃(aA:Fz),aH<=aA/\Hd 41 [] [(0,(.func (.yield ly) #[] #[])),(1,(vP N 0)),(2,(vP P 0)),(4,(.map (some aG))),(15,(vP E 0))] aA [V7 (λx:Int=>(vI x)) (λ_ (x:QE) v=>v=(Jm x)) F0 C E aJ F,ZQ U aA A1,hole U.g207 (Aj U) F0 i30 C u,Qd U aA aK,Z,R] a w) J ?_ ?_ ?_ ?_)))))))
 ·exact λa w h=>⟨aH,Fz.r,h.1.sub (.k J),h.2⟩
 ·exact λF be bf a w hE ⟨ay,az,hA⟩=>⟨ay,az,Hd.bu 3 J hE hA⟩
 ·intro aJ F aK a1;rcases aJ with _ | ⟨y,ys⟩
  ·refine GC.ex (λa w ⟨a6,a7,hA⟩=>⟨_,hA,?_⟩);refine .q (.g (.gf 0 J J J J (.x J J J (.n (.c (.q (.wY J ?_)))))));exact .uy J (Hc.over λa w h=>⟨a6,a7,h.1.sub (.k J),h.2⟩)
  ·refine GC.ex (λa w ⟨aR,L,hA⟩=>⟨_,hA,?_⟩);refine .q (.g (.gd 0 J (List.cons_ne_nil _ _) J J J (λz aL bg aS bh=> ?_)));obtain⟨bj,aU⟩:=a1 z (aS.mem_iff.1 (List.mem_cons_self ..));refine .use aU ?_;unfold Z7;refine .x J J J (.n (.c (.q (.wR J (.skip (.c (.ug (.p [0,1,2,4,15] J) ?_)))))));refine GC.wQ (σ:=ZM) (λaV a w=>∃(M:Fz),aR<=M/\Hd 41 [] [(0,(.func (.yield ly) #[] #[])),(1,(vP N 0)),(2,(vP P 0)),(4,(.map (some aG))),(15,(vP E 0))] M [V7 (λx:Int=>(vI x)) (λ_ (x:QE) v=>v=(Jm x)) F0 C E aL (z::F),ZQ U M A1,hole U.g207 (Aj U) F0 i30 C u,Qd U M aV,Z,R] a w) (λsj=> ?_) (λaV a8=>GE.ex (λa w ⟨M,bA,hA⟩=>⟨_,hA,?_⟩))
   ·refine .k (.q (.g (.gl 0 J J J J (λv hv=> ?_))));obtain rfl:=hv _ (Fz.t j L);refine .x J J J (.l (cs:=(ZG (QE.mk 0 0 0 0 0))) J OH J (λaW=>.store (cs' :=(ZG z.2)) qO J J J J (i:=0) J (JJ J) J (Qa (by rfl)) (.n (.c (.q (.g (.R J G9 J ((Fz.t j L).mem _ _ aN) J (.ux J vN qO J (i:=0) J (vs:=(ZG z.2)) (by kernel_rfl) J (.wE [2] J call205 J J J J (HG _ U A1 X p7 k8 (h9.mono (Fz.t j L)) z.2) ?_)))))))));rintro bB Q _ bk S rfl;refine .pick [1,1,0,0,0,0,0] (J:_=[pc aW (ZG z.2) 212,V7 (λx:Int=>(vI x)) (λ_ (x:QE) v=>v=(Jm x)) F0 C E aL (z::F),ZQ U Q A1,hole U.g207 (Aj U) F0 i30 C u,Qd U aR aK,Z,R]) (.s J J (.n (.c (.q (.g (.m J J (.R J V3 J ((Fz.t j (Fz.t L S)).mem _ _ ae) J (.leq J J J (.n (.c (.ug (.p [0,1,2,4,7,15,25] J) ?_)))))))))));refine GC.wQ (σ:=ZM) (λaX a w=>∃(T:Fz),Q<=T/\Hd 41 [] [(0,(.func (.yield ly) #[] #[])),(1,(vP N 0)),(2,(vP P 0)),(4,(.map (some aG))),(15,(vP E 0))] T [pc aW (ZG z.2) 212,V7 (λx:Int=>(vI x)) (λ_ (x:QE) v=>v=(Jm x)) F0 C E aL (z::F),ZQ U Q A1,hole U.g207 (Aj U) F0 i30 C u,Qd U T aX,Z,R] a w) (λsj=> ?_) (λaX a8=>GE.ex (λa w ⟨T,aY,hA⟩=>⟨_,hA,?_⟩))
    ·refine .i J (λbC=> ?_) (λbC=> ?_)
     ·refine .g (.m J J (.m J J (.d (λbl bD=>.uj (λbm bE=>.wx (key:=bB) (val:=true) 4 J S (aP.mono (Fz.t L S)) J bD EE (.int U3) J J J (λ_ _=>J) bE (.n ?_))))));exact .n λe a w h=>by cases e;exact⟨J,⟨Q,Fz.r,h.1.sub (.k J),h.2⟩⟩
     ·refine .skip (.u3 4 (Zj U) S J ?_);exact .n λe a w h=>by cases e;exact⟨J,⟨Q,Fz.r,h.1.sub (.k J),h.2⟩⟩
    refine .k (.drop 0 (.u3 1 (Jt U) aY J ?_));exact .n λe a w h=>by cases e;exact⟨J,⟨T,(Fz.t S aY),h.1.sub (.k J),h.2⟩⟩
   exact .n (Hc.norm aS aU λa w h=>⟨M,(Fz.t L bA),h.1.sub (.k J),h.2⟩)
 ·intro F aB bn bF;refine GE.ex (λa w ⟨bo,H,hA⟩=>⟨_,hA,?_⟩);refine .xB 0 1 J J (Fz.t j H) (Fz.t j H) bF ax (D5 aQ) (.c (.q (.g (.m J J (.fC Nc J call100 J J (λbp bq D bG=>.xc U3 CV (c:=(Ex (KI .i64))) (λ_ _=>J) (bG) 2 J ((Zp.of aP).mono (Fz.t H D)) J call99 J J (λaZ A bH bI br I bJ=>.wI J J V2 J (.m J J (.n (.c (.u3 0 (Jt U) (Fz.t D I) J (.u3 1 (Ys U) (Fz.t D I) J (.u3 2 (Zj U) (Fz.t D I) J (.bU (Hs:=[ZQ U A A1,KJ U A u,Qd U A aB,Z]) (Y:=Y (upd (A1,u,aB)) A) [0,0,0,0] J (hp (A1,u,aB) _ (Fz.t j (Fz.t H (Fz.t D I)))) (.o (Sub.refl _) (J:_=[Y (upd (A1,u,aB)) A,R]) (.k (.ug (.p [0,30,31,32] J) (.loop (fun(aM:Int×σ) a w=>∃(V:Fz),A<=V/\Hd 41 [] [(0,(.func (.yield ly) #[] #[])),(30,(vS bH aZ bI)),(31,(vI (aZ.length:Int))),(32,(vI aM.1))] V [Y aM.2 V,R] a w) (λb0 e a w=>match b0 with | .inl K=>e= .exit 2/\∃(aC:Fz),A<=aC/\Hd 41 [] [] aC [Y K aC,R] a w | .inr K=>e= .ret/\∃(aD:Fz),A<=aD/\Hd 41 [] [] aD [Y K aD,R] a w) ?_ ?_ ?_))))))))))))))))))
  ·exact λa w h=>⟨A,Fz.r,h.1.sub (.k J),h.2⟩
  ·intro aM ctl;refine GC.ex (λa w ⟨V,W,hA⟩=>⟨_,hA,?_⟩);unfold Zn;refine .q (.g (.lss J J J (.n (.c (.q (.i J (λbL=> ?_) (λbL=> ?_)))))))
   ·refine .skip (.c (.q (.k (.q (.g (.idx J V2 W3 (bJ.mono W) J J (λbt bu bw bx bz b1 b2 bM bN=>.R J V3 J bM (QI (k:=0) bN J) (.s J J (.n (.c (.q (.g (.m J J (.m J J (.xp J hy J J J (i:=0) J (Fz.t j (Fz.t H (Fz.t D (Fz.t I W)))) Fz.r (λb3 aa b4 ab=>.not J J (.n (.c (.i J (λbO=> ?_) (λbO=> ?_))))))))))))))))))))
    ·refine .wN (Q9.ret λa w h=>⟨J,aa,(Fz.t W ab),h.1.sub (.k J),h.2⟩)
    ·refine .skip (.k (.c (.g (.add J J J (.m J J (.n ?_))))));exact .n (Q9.norm λa w h=>⟨aa,(Fz.t W ab),h.1.sub (.k J),h.2⟩)
   ·refine .uy J (Q9.exit λa w h=>⟨J,V,W,h.1.sub (.k J),h.2⟩)
  ·intro K b6 hk e a w hD;rcases K with K | K
   ·obtain⟨rfl,aC,bP,hA⟩:=hD;refine ZK J (GE.app ?_ hk a w hA);exact .xi [0,0] results228 .nil J (Fz.t j (Fz.t H (Fz.t D (Fz.t I bP)))) trivial
   obtain⟨rfl,aD,bQ,hA⟩:=hD;exact YY ((FH [0,0] results228 .nil J (Fz.t j (Fz.t H (Fz.t D (Fz.t I bQ)))) trivial) hk a w hA)
def YM(A1:List QD)(A2:List (List (Int×QE)))(A3:List (List (Int×Bool)))(c4:Option Nat)(c10:Int):Option ((List QD×List (List (Int×QE))×List (List (Int×Bool)))×List Int):=
 c4.bind λi=>(A1[i]?).bind λx=>(x.moving).bind λj=>(A2[j]?).bind λl=>(Dd Sz (Z7 A1 A3 c4 c10) l (A3++[[]])).bind λR=>(VU R (some A3.length)).bind λks=>some ((A1,A2,R),ks)
theorem Nb{σ:Type}{y:Int->σ->Option (σ×Bool)}{ks:List Int}(hn:ks.length<=1000000):∀(d k:Nat) (s r:σ),k+d=ks.length->V0 y (ks.drop k) s=some r->
  ZV (Zn y ks) ((k:Int),s)=some (.inl r)∨ZV (Zn y ks) ((k:Int),s)=some (.inr r)
 | 0,k,s,r,hk,h=>by
  rw[List.drop_eq_nil_of_le (by omega)] at h
  simp only[V0,Option.some.injEq] at h
  subst h;left;rw[ZR];have:¬k < ks.length:=by omega
  simp[Zn,this]
 | d+1,k,s,r,hk,h=>by
  have hkl:k < ks.length:=by omega
  have hw:ZF ((k:Int)+1)=((k+1:Nat):Int):=by rw[Qs (by omega) (by omega)];rfl
  rw[List.drop_eq_getElem_cons hkl] at h
  have hi:Zc ks (k:Int)=some ks[k]:=by simp[Zc,hkl]
  simp only[V0] at h
  rw[ZR];cases hy:y ks[k] s with
  | none=>rw[hy] at h;cases h
  | some p=>
   rw[hy] at h
   simp only[Option.bind_some] at h
   by_cases hp:p.2=true
   ·rw[if_pos hp] at h
    have:=Nb hn d (k+1) p.1 r (by omega) h;simpa[Zn,hkl,hi,hy,hp,hw] using this
   ·rw[if_neg hp] at h
    simp only[Option.some.injEq] at h
    right;simp[Zn,hkl,hi,hy,hp,h]
theorem Gy{σ:Type}{y:Int->σ->Option (σ×Bool)}{upd:List QD×List (List (Int×QE))×List (List (Int×Bool))->σ}{A1:List QD}{A2:List (List (Int×QE))}{A3:List (List (Int×Bool))}{c4:Option Nat}{c10:Int}{q:(List QD×List (List (Int×QE))×List (List (Int×Bool)))×List Int}{r:σ}(hl:YM A1 A2 A3 c4 c10=some q)(hr:V0 y q.2 (upd q.1)=some r):VV y upd A1 A2 A3 c4 c10=some r:=by
 simp only[YM,Option.bind_eq_some_iff] at hl
 obtain⟨i,rfl,b,hb,j,hj,l,hm,R,hR,ks,hks,hl⟩:=hl;simp only[Option.some.injEq] at hl
 subst hl
 have hn:ks.length<=1000000:=by
  have h:=hks;simp only[VU,Option.bind_eq_some_iff] at h
  obtain⟨m,_,h⟩:=h;unfold HU at h
  split at h
  ·rename_i h2;simp only[Option.some.injEq] at h
   rw[<-h];simpa using h2.2
  ·cases h
 simp only[VV,QV,Option.bind_some,hb,hj,hm,hR,hks];rcases Nb (y:=y) hn ks.length 0 (upd (A1,A2,R)) r (by omega) (by simpa using hr) with e | e
 ·have e' :ZV (Zn y ks) (0,upd (A1,A2,R))=some (.inl r):=e;rw[e'];rfl
 ·have e' :ZV (Zn y ks) (0,upd (A1,A2,R))=some (.inr r):=e;rw[e'];rfl
end
end Go.Proofs.YtogaibncbkhjlaaGreatDoor
end
