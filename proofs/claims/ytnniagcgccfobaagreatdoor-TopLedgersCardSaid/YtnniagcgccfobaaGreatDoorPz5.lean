/- For TopLedgers. -/
import Derived.Test.YtnniagcgccfobaaGreatDoorPz4
import Derived.Test.YtnniagcgccfobaaGreatDoorProg
import Derived.Shelf.SlMaps.Clone
import Derived.Ground.SlmcProg
import Derived.Shelf.SortM.Plain
import Derived.Shelf.SortM.SortNone
import Derived.Ground.GgzProg
import Derived.Ground.SlgmProg
noncomputable section
namespace Go.Proofs.YtnniagcgccfobaaGreatDoor
section
open Go.Dec Go.Shelf Go.RowKit Go.Maps Go.Sort
theorem Qb:Tryz.prog.follows .mixedOrders=true:=by kernel_rfl
abbrev kg:= @Tryz.underlying116
abbrev Y9:= @Tryz.underlying120
abbrev YB:= @Tryz.underlying122
abbrev jl:= @Tryz.underlying130
abbrev Ei:= @Tryz.underlying135
abbrev Iy:= @Tryz.underlying136
abbrev Jm:= @Tryz.underlying138
abbrev Eh:= @Tryz.underlying144
abbrev T7:= @Tryz.underlying154
abbrev zV:= @Tryz.underlying155
abbrev yO:= @Tryz.underlying159
abbrev yN:= @Tryz.underlying163
abbrev vY:= @Tryz.underlying169
abbrev Ix:= @Tryz.underlying171
abbrev kf:= @Tryz.underlying173
abbrev Iw:= @Tryz.underlying175
abbrev T6:= @Tryz.underlying177
abbrev Pg:= @Tryz.underlying178
abbrev HL:= @Tryz.underlying186
abbrev Kw:= @Tryz.underlying188
abbrev ke:= @Tryz.underlying190
abbrev yM:= @Tryz.underlying194
abbrev ju:= @Tryz.underlying20
abbrev vX:= @Tryz.underlying200
abbrev kc:= @Tryz.underlying203
abbrev ve:= @Tryz.underlying21
abbrev vW:= @Tryz.underlying210
abbrev Gg:= @Tryz.underlying23
abbrev kb:= @Tryz.underlying25
abbrev I9:= @Tryz.underlying26
abbrev Iv:= @Tryz.underlying27
abbrev Iu:= @Tryz.underlying28
abbrev ka:= @Tryz.underlying29
abbrev U3:= @Tryz.underlying3
abbrev Eg:= @Tryz.underlying31
abbrev I8:= @Tryz.underlying32
abbrev LO:= @Tryz.underlying33
abbrev Dz:= @Tryz.underlying35
abbrev jA:= @Tryz.underlying39
abbrev HK:= @Tryz.underlying40
abbrev Pf:= @Tryz.underlying42
abbrev U5:= @Tryz.underlying5
abbrev yL:= @Tryz.underlying57
abbrev yf:= @Tryz.underlying59
abbrev zj:= @Tryz.underlying62
abbrev Ef:= @Tryz.underlying65
abbrev kz:= @Tryz.underlying66
abbrev Wc:= @Tryz.underlying68
abbrev Vd:= @Tryz.underlying75
abbrev kZ:= @Tryz.underlying79
abbrev zi:= @Tryz.underlying80
abbrev vV:= @Tryz.underlying82
abbrev I7:= @Tryz.underlying85
abbrev WO:= @Tryz.underlying87
abbrev U9:= @Tryz.underlying9
abbrev PD:= @Tryz.underlying92
abbrev zh:= @Tryz.underlying94
abbrev Wd:= @Tryz.isAgg120
abbrev Pe:= @Tryz.isAgg124
abbrev Hz:= @Tryz.isAgg132
abbrev LN:= @Tryz.isAgg135
abbrev kY:= @Tryz.isAgg136
abbrev kX:= @Tryz.isAgg144
abbrev vU:= @Tryz.isAgg154
abbrev vR:= @Tryz.isAgg168
abbrev Ee:= @Tryz.isAgg175
abbrev It:= @Tryz.isAgg186
abbrev vQ:= @Tryz.isAgg193
abbrev vO:= @Tryz.isAgg194
abbrev yK:= @Tryz.isAgg203
abbrev Is:= @Tryz.isAgg23
abbrev I6:= @Tryz.isAgg25
abbrev jk:= @Tryz.isAgg29
abbrev V3:= @Tryz.isAgg3
abbrev zg:= @Tryz.isAgg31
abbrev vd:= @Tryz.isAgg33
abbrev zf:= @Tryz.isAgg35
abbrev Nl:= @Tryz.isAgg36
abbrev kW:= @Tryz.isAgg40
abbrev Ed:= @Tryz.isAgg42
abbrev V5:= @Tryz.isAgg5
abbrev ye:= @Tryz.isAgg57
abbrev ky:= @Tryz.isAgg59
abbrev yd:= @Tryz.isAgg62
abbrev vN:= @Tryz.isAgg65
abbrev js:= @Tryz.isAgg66
abbrev jr:= @Tryz.isAgg68
abbrev yJ:= @Tryz.isAgg75
abbrev vq:= @Tryz.isAgg79
abbrev vc:= @Tryz.isAgg80
abbrev vM:= @Tryz.isAgg82
abbrev yc:= @Tryz.isAgg85
abbrev ze:= @Tryz.isAgg87
abbrev V9:= @Tryz.isAgg9
abbrev vL:= @Tryz.isAgg92
abbrev zU:= @Tryz.isAgg94
abbrev vK:= @Tryz.sizeOf116
abbrev Zk:= @Tryz.sizeOf120
abbrev zT:= @Tryz.sizeOf124
abbrev Ir:= @Tryz.sizeOf132
abbrev LM:= @Tryz.sizeOf135
abbrev LL:= @Tryz.sizeOf136
abbrev Pd:= @Tryz.sizeOf144
abbrev zS:= @Tryz.sizeOf154
abbrev vJ:= @Tryz.sizeOf168
abbrev vH:= @Tryz.sizeOf173
abbrev Ec:= @Tryz.sizeOf175
abbrev Xh:= @Tryz.sizeOf186
abbrev vG:= @Tryz.sizeOf188
abbrev vF:= @Tryz.sizeOf190
abbrev yI:= @Tryz.sizeOf193
abbrev jj:= @Tryz.sizeOf194
abbrev vp:= @Tryz.sizeOf20
abbrev vE:= @Tryz.sizeOf203
abbrev UR:= @Tryz.sizeOf23
abbrev Nr:= @Tryz.sizeOf25
abbrev ji:= @Tryz.sizeOf29
abbrev W3:= @Tryz.sizeOf3
abbrev Eb:= @Tryz.sizeOf31
abbrev vo:= @Tryz.sizeOf33
abbrev yH:= @Tryz.sizeOf35
abbrev Rn:= @Tryz.sizeOf36
abbrev zR:= @Tryz.sizeOf40
abbrev DT:= @Tryz.sizeOf42
abbrev W5:= @Tryz.sizeOf5
abbrev zd:= @Tryz.sizeOf57
abbrev Iq:= @Tryz.sizeOf59
abbrev vD:= @Tryz.sizeOf62
abbrev Rm:= @Tryz.sizeOf65
abbrev kv:= @Tryz.sizeOf66
abbrev Hy:= @Tryz.sizeOf68
abbrev Ip:= @Tryz.sizeOf75
abbrev jh:= @Tryz.sizeOf79
abbrev OP:= @Tryz.sizeOf80
abbrev ku:= @Tryz.sizeOf82
abbrev kV:= @Tryz.sizeOf85
abbrev LK:= @Tryz.sizeOf87
abbrev W9:= @Tryz.sizeOf9
abbrev SY:= @Tryz.sizeOf94
abbrev yG:= @Tryz.zeroValue116
abbrev Cn:= @Tryz.zeroValue120
abbrev vC:= @Tryz.zeroValue122
abbrev vB:= @Tryz.zeroValue124
abbrev jg:= @Tryz.zeroValue130
abbrev vA:= @Tryz.zeroValue132
abbrev y9:= @Tryz.zeroValue138
abbrev EZ:= @Tryz.zeroValue144
abbrev zQ:= @Tryz.zeroValue154
abbrev y8:= @Tryz.zeroValue163
abbrev yF:= @Tryz.zeroValue173
abbrev yz:= @Tryz.zeroValue177
abbrev jf:= @Tryz.zeroValue186
abbrev yy:= @Tryz.zeroValue188
abbrev yE:= @Tryz.zeroValue190
abbrev je:= @Tryz.zeroValue194
abbrev vn:= @Tryz.zeroValue20
abbrev yx:= @Tryz.zeroValue203
abbrev yw:= @Tryz.zeroValue23
abbrev yv:= @Tryz.zeroValue25
abbrev Y3:= @Tryz.zeroValue3
abbrev vm:= @Tryz.zeroValue31
abbrev vl:= @Tryz.zeroValue33
abbrev yu:= @Tryz.zeroValue35
abbrev yb:= @Tryz.zeroValue36
abbrev vk:= @Tryz.zeroValue39
abbrev Y4:= @Tryz.zeroValue4
abbrev Im:= @Tryz.zeroValue42
abbrev ya:= @Tryz.zeroValue57
abbrev yt:= @Tryz.zeroValue59
abbrev vj:= @Tryz.zeroValue62
abbrev yZ:= @Tryz.zeroValue68
abbrev jd:= @Tryz.zeroValue75
abbrev yr:= @Tryz.zeroValue79
abbrev yq:= @Tryz.zeroValue82
abbrev yY:= @Tryz.zeroValue85
abbrev yD:= @Tryz.zeroValue87
abbrev kr:= @Tryz.zeroValue94
structure YC where
 g188:Nat
 g177:Nat
 g138:Nat
 g122:Nat
 g135:Nat
 g136:Nat
 g175:Nat
structure QA where
 Kind:Int
 N:(List Int)
def QP(x:QA)(p0:Option Addr)(k0:Nat):List Value:=[.int .i64 x.Kind,.slice p0 x.N.length k0]
def YM(x:QA)(p0:Option Addr)(k0:Nat):Value:=.agg (QP x p0 k0).toArray
def Qe:Z9 QA:=λF x vs=>∃p0 k0,vs=QP x p0 k0/\QI 1 (Ex (QR .i64)) F p0 k0 x.N
theorem HT:∀fs,Tryz.prog.underlying 42=some (.struct fs)->Places Tryz.prog fs #[(0,1),(1,1)]:=λfs h=>by
 obtain rfl:=TypeDesc.struct.inj (Option.some.inj (Tryz.underlying42.symm.trans h));intro w;kernel_rfl
structure Qi where
 letter:Int
 most:(List Int)
def Je(x:Qi)(p0:Option Addr)(k0:Nat):List Value:=[.int .u8 x.letter,.slice p0 x.most.length k0]
def Dw(x:Qi)(p0:Option Addr)(k0:Nat):Value:=.agg (Je x p0 k0).toArray
def Xi:Z9 Qi:=λF x vs=>∃p0 k0,vs=Je x p0 k0/\QI 1 (Ex (QR .i64)) F p0 k0 x.most
theorem Gs:∀fs,Tryz.prog.underlying 154=some (.struct fs)->Places Tryz.prog fs #[(0,1),(1,1)]:=λfs h=>by
 obtain rfl:=TypeDesc.struct.inj (Option.some.inj (Tryz.underlying154.symm.trans h));intro w;kernel_rfl
structure ZR where
 e:Int
def WL(x:ZR):List Value:=[.int .i64 x.e]
def M0(x:ZR):Value:=.agg (WL x).toArray
theorem R9:∀fs,Tryz.prog.underlying 173=some (.struct fs)->Places Tryz.prog fs #[(0,1)]:=λfs h=>by
 obtain rfl:=TypeDesc.struct.inj (Option.some.inj (Tryz.underlying173.symm.trans h));intro w;kernel_rfl
structure QF where
 Kind:Int
 Day:Int
 Cask:Int
 Other:Int
 Person:Int
 To:Int
 Amount:Int
 Where:Int
def QW(x:QF):List Value:=[.int .i64 x.Kind,.int .i64 x.Day,.int .i64 x.Cask,.int .i64 x.Other,.int .i64 x.Person,.int .i64 x.To,.int .i64 x.Amount,.int .i64 x.Where]
def KC(x:QF):Value:=.agg (QW x).toArray
theorem Fu:∀fs,Tryz.prog.underlying 75=some (.struct fs)->Places Tryz.prog fs #[(0,1),(1,1),(2,1),(3,1),(4,1),(5,1),(6,1),(7,1)]:=λfs h=>by
 obtain rfl:=TypeDesc.struct.inj (Option.some.inj (Tryz.underlying75.symm.trans h));intro w;kernel_rfl
structure Qs where
 age:Int
 woods:(Nat->Int)
 places:(Nat->Int)
def Qp(x:Qs):List Value:=[.int .i64 x.age,.int .i64 (x.woods 0),.int .i64 (x.woods 1),.int .i64 (x.woods 2),.int .i64 (x.woods 3),.int .i64 (x.woods 4),.int .i64 (x.woods 5),.int .i64 (x.woods 6),.int .i64 (x.woods 7),.int .i64 (x.places 0),.int .i64 (x.places 1),.int .i64 (x.places 2),.int .i64 (x.places 3),.int .i64 (x.places 4),.int .i64 (x.places 5),.int .i64 (x.places 6),.int .i64 (x.places 7)]
def VC(x:Qs):Value:=.agg (Qp x).toArray
theorem Sq:∀fs,Tryz.prog.underlying 186=some (.struct fs)->Places Tryz.prog fs #[(0,1),(1,8),(9,8)]:=λfs h=>by
 obtain rfl:=TypeDesc.struct.inj (Option.some.inj (Tryz.underlying186.symm.trans h));intro w;kernel_rfl
structure QG where
 number:Int
 wood:Int
 place:Int
 room:Int
 owner:Int
 creditor:Int
 amount:Int
 since:Int
 times:Qs
 fills:(Option Nat)
def Yv(x:QG)(p0:Option Nat)(k0:Unit):List Value:=[.int .i64 x.number,.int .i64 x.wood,.int .i64 x.place,.int .i64 x.room,.int .i64 x.owner,.int .i64 x.creditor,.int .i64 x.amount,.int .i64 x.since,.int .i64 x.times.age,.int .i64 (x.times.woods 0),.int .i64 (x.times.woods 1),.int .i64 (x.times.woods 2),.int .i64 (x.times.woods 3),.int .i64 (x.times.woods 4),.int .i64 (x.times.woods 5),.int .i64 (x.times.woods 6),.int .i64 (x.times.woods 7),.int .i64 (x.times.places 0),.int .i64 (x.times.places 1),.int .i64 (x.times.places 2),.int .i64 (x.times.places 3),.int .i64 (x.times.places 4),.int .i64 (x.times.places 5),.int .i64 (x.times.places 6),.int .i64 (x.times.places 7),.map p0]
def IV(x:QG)(p0:Option Nat)(k0:Unit):Value:=.agg (Yv x p0 k0).toArray
def P2(U:YC):Z9 QG:=λF x vs=>∃p0 k0,vs=Yv x p0 k0/\Zf U.g136 F p0 x.fills
theorem Lw:∀fs,Tryz.prog.underlying 188=some (.struct fs)->Places Tryz.prog fs #[(0,1),(1,1),(2,1),(3,1),(4,1),(5,1),(6,1),(7,1),(8,17),(25,1)]:=λfs h=>by
 obtain rfl:=TypeDesc.struct.inj (Option.some.inj (Tryz.underlying188.symm.trans h));intro w;kernel_rfl
structure QU where
 casks:(Option Nat)
 event:Int
def SX(x:QU)(p0:Option Nat)(k0:Unit):List Value:=[.map p0,.int .i64 x.event]
def P3(U:YC):Z9 QU:=λF x vs=>∃p0 k0,vs=SX x p0 k0/\Zf U.g175 F p0 x.casks
theorem Lx:∀fs,Tryz.prog.underlying 177=some (.struct fs)->Places Tryz.prog fs #[(0,1),(1,1)]:=λfs h=>by
 obtain rfl:=TypeDesc.struct.inj (Option.some.inj (Tryz.underlying177.symm.trans h));intro w;kernel_rfl
structure Kd where
 Number:Int
 Wood:Int
 Place:Int
 Room:Int
 Owner:Int
 Creditor:Int
 Amount:Int
 Age:Int
 Woods:(Nat->Int)
 Places:(Nat->Int)
def Z2(x:Kd):List Value:=[.int .i64 x.Number,.int .i64 x.Wood,.int .i64 x.Place,.int .i64 x.Room,.int .i64 x.Owner,.int .i64 x.Creditor,.int .i64 x.Amount,.int .i64 x.Age,.int .i64 (x.Woods 0),.int .i64 (x.Woods 1),.int .i64 (x.Woods 2),.int .i64 (x.Woods 3),.int .i64 (x.Woods 4),.int .i64 (x.Woods 5),.int .i64 (x.Woods 6),.int .i64 (x.Woods 7),.int .i64 (x.Places 0),.int .i64 (x.Places 1),.int .i64 (x.Places 2),.int .i64 (x.Places 3),.int .i64 (x.Places 4),.int .i64 (x.Places 5),.int .i64 (x.Places 6),.int .i64 (x.Places 7)]
def M1(x:Kd):Value:=.agg (Z2 x).toArray
theorem Ow:∀fs,Tryz.prog.underlying 82=some (.struct fs)->Places Tryz.prog fs #[(0,1),(1,1),(2,1),(3,1),(4,1),(5,1),(6,1),(7,1),(8,8),(16,8)]:=λfs h=>by
 obtain rfl:=TypeDesc.struct.inj (Option.some.inj (Tryz.underlying82.symm.trans h));intro w;kernel_rfl
structure Zm where
 From:Int
 Rate:Int
def ZW(x:Zm):List Value:=[.int .i64 x.From,.int .i64 x.Rate]
theorem PL:∀fs,Tryz.prog.underlying 79=some (.struct fs)->Places Tryz.prog fs #[(0,1),(1,1)]:=λfs h=>by
 obtain rfl:=TypeDesc.struct.inj (Option.some.inj (Tryz.underlying79.symm.trans h));intro w;kernel_rfl
structure ZB where
 Rates:(List Zm)
 Transit:Int
 Loss:Int
 Share:Int
def ZU(x:ZB)(p0:Option Addr)(k0:Nat):List Value:=[.slice p0 x.Rates.length k0,.int .i64 x.Transit,.int .i64 x.Loss,.int .i64 x.Share]
def J7(x:ZB)(p0:Option Addr)(k0:Nat):Value:=.agg (ZU x p0 k0).toArray
def BF:Z9 ZB:=λF x vs=>∃p0 k0,vs=ZU x p0 k0/\QI 2 (Ex ZW) F p0 k0 x.Rates
theorem Ay:∀fs,Tryz.prog.underlying 31=some (.struct fs)->Places Tryz.prog fs #[(0,1),(1,1),(2,1),(3,1)]:=λfs h=>by
 obtain rfl:=TypeDesc.struct.inj (Option.some.inj (Tryz.underlying31.symm.trans h));intro w;kernel_rfl
structure Qd where
 Kind:Int
 A:Int
 B:Int
def ZI(x:Qd):List Value:=[.int .i64 x.Kind,.int .i64 x.A,.int .i64 x.B]
def WZ(x:Qd):Value:=.agg (ZI x).toArray
theorem PK:∀fs,Tryz.prog.underlying 85=some (.struct fs)->Places Tryz.prog fs #[(0,1),(1,1),(2,1)]:=λfs h=>by
 obtain rfl:=TypeDesc.struct.inj (Option.some.inj (Tryz.underlying85.symm.trans h));intro w;kernel_rfl
structure QD where
 Lo:Int
 Hi:Int
def ZP(x:QD):List Value:=[.int .i64 x.Lo,.int .i64 x.Hi]
def XD(x:QD):Value:=.agg (ZP x).toArray
theorem Cv:∀fs,Tryz.prog.underlying 23=some (.struct fs)->Places Tryz.prog fs #[(0,1),(1,1)]:=λfs h=>by
 obtain rfl:=TypeDesc.struct.inj (Option.some.inj (Tryz.underlying23.symm.trans h));intro w;kernel_rfl
structure ZN where
 Amount:Int
 Alcohol:QD
def Zt(x:ZN):List Value:=[.int .i64 x.Amount,.int .i64 x.Alcohol.Lo,.int .i64 x.Alcohol.Hi]
def SJ(x:ZN):Value:=.agg (Zt x).toArray
theorem Ly:∀fs,Tryz.prog.underlying 57=some (.struct fs)->Places Tryz.prog fs #[(0,1),(1,2)]:=λfs h=>by
 obtain rfl:=TypeDesc.struct.inj (Option.some.inj (Tryz.underlying57.symm.trans h));intro w;kernel_rfl
structure QH where
 Kind:Int
 Day:Int
 Bond:Int
 To:Int
 Id:Int
 Amount:Int
def QV(x:QH):List Value:=[.int .i64 x.Kind,.int .i64 x.Day,.int .i64 x.Bond,.int .i64 x.To,.int .i64 x.Id,.int .i64 x.Amount]
def KB(x:QH):Value:=.agg (QV x).toArray
theorem Az:∀fs,Tryz.prog.underlying 87=some (.struct fs)->Places Tryz.prog fs #[(0,1),(1,1),(2,1),(3,1),(4,1),(5,1)]:=λfs h=>by
 obtain rfl:=TypeDesc.struct.inj (Option.some.inj (Tryz.underlying87.symm.trans h));intro w;kernel_rfl
structure Jf where
def T4(x:Jf):List Value:=[]
def Tf(x:Jf):Value:=.agg (T4 x).toArray
theorem MJ:∀fs,Tryz.prog.underlying 163=some (.struct fs)->Places Tryz.prog fs #[]:=λfs h=>by
 obtain rfl:=TypeDesc.struct.inj (Option.some.inj (Tryz.underlying163.symm.trans h));intro w;kernel_rfl
structure Za where
 Dry:QD
 Water:QD
 Phenol:QD
def Q3(x:Za):List Value:=[.int .i64 x.Dry.Lo,.int .i64 x.Dry.Hi,.int .i64 x.Water.Lo,.int .i64 x.Water.Hi,.int .i64 x.Phenol.Lo,.int .i64 x.Phenol.Hi]
def HA(x:Za):Value:=.agg (Q3 x).toArray
structure Zz where
 e:Int
def Hg(x:Zz):List Value:=[.int .i64 x.e]
def Mz(x:Zz):Value:=.agg (Hg x).toArray
theorem R8:∀fs,Tryz.prog.underlying 116=some (.struct fs)->Places Tryz.prog fs #[(0,1)]:=λfs h=>by
 obtain rfl:=TypeDesc.struct.inj (Option.some.inj (Tryz.underlying116.symm.trans h));intro w;kernel_rfl
structure Qg where
 Span:QD
def QN(x:Qg):List Value:=[.int .i64 x.Span.Lo,.int .i64 x.Span.Hi]
def ZG(x:Qg):Value:=.agg (QN x).toArray
theorem Gr:∀fs,Tryz.prog.underlying 120=some (.struct fs)->Places Tryz.prog fs #[(0,2)]:=λfs h=>by
 obtain rfl:=TypeDesc.struct.inj (Option.some.inj (Tryz.underlying120.symm.trans h));intro w;kernel_rfl
structure Qx where
 Taken:QD
 Gas:QD
 Roots:QD
 Steam:QD
def Qf(x:Qx):List Value:=[.int .i64 x.Taken.Lo,.int .i64 x.Taken.Hi,.int .i64 x.Gas.Lo,.int .i64 x.Gas.Hi,.int .i64 x.Roots.Lo,.int .i64 x.Roots.Hi,.int .i64 x.Steam.Lo,.int .i64 x.Steam.Hi]
def G7(x:Qx):Value:=.agg (Qf x).toArray
structure ZJ where
 dry:Qg
 water:Qg
 phenol:Qg
 taken:Qg
 gas:Qg
 roots:Qg
 steam:Qg
def Ci(x:ZJ):List Value:=[.int .i64 x.dry.Span.Lo,.int .i64 x.dry.Span.Hi,.int .i64 x.water.Span.Lo,.int .i64 x.water.Span.Hi,.int .i64 x.phenol.Span.Lo,.int .i64 x.phenol.Span.Hi,.int .i64 x.taken.Span.Lo,.int .i64 x.taken.Span.Hi,.int .i64 x.gas.Span.Lo,.int .i64 x.gas.Span.Hi,.int .i64 x.roots.Span.Lo,.int .i64 x.roots.Span.Hi,.int .i64 x.steam.Span.Lo,.int .i64 x.steam.Span.Hi]
theorem Ov:∀fs,Tryz.prog.underlying 122=some (.struct fs)->Places Tryz.prog fs #[(0,2),(2,2),(4,2),(6,2),(8,2),(10,2),(12,2)]:=λfs h=>by
 obtain rfl:=TypeDesc.struct.inj (Option.some.inj (Tryz.underlying122.symm.trans h));intro w;kernel_rfl
structure ZX where
 e:Int
def Vr(x:ZX):List Value:=[.int .i64 x.e]
def PT(x:ZX):Value:=.agg (Vr x).toArray
theorem Ax:∀fs,Tryz.prog.underlying 190=some (.struct fs)->Places Tryz.prog fs #[(0,1)]:=λfs h=>by
 obtain rfl:=TypeDesc.struct.inj (Option.some.inj (Tryz.underlying190.symm.trans h));intro w;kernel_rfl
structure QB where
 Id:Int
 From:Int
 To:Int
 Sent:Int
 Amount:Int
def Qq(x:QB):List Value:=[.int .i64 x.Id,.int .i64 x.From,.int .i64 x.To,.int .i64 x.Sent,.int .i64 x.Amount]
def Ku(x:QB):Value:=.agg (Qq x).toArray
theorem MK:∀fs,Tryz.prog.underlying 144=some (.struct fs)->Places Tryz.prog fs #[(0,1),(1,1),(2,1),(3,1),(4,1)]:=λfs h=>by
 obtain rfl:=TypeDesc.struct.inj (Option.some.inj (Tryz.underlying144.symm.trans h));intro w;kernel_rfl
structure ZK where
 Bonds:(Nat->Int)
 Moving:(List QB)
 Made:Int
 Found:Int
 Used:Int
 Exported:Int
 Lost:Int
 Charged:Int
 Due:Int
 Paid:Int
def ZQ(x:ZK)(p0:Option Addr)(k0:Nat):List Value:=[.int .i64 (x.Bonds 0),.int .i64 (x.Bonds 1),.int .i64 (x.Bonds 2),.int .i64 (x.Bonds 3),.int .i64 (x.Bonds 4),.int .i64 (x.Bonds 5),.int .i64 (x.Bonds 6),.int .i64 (x.Bonds 7),.int .i64 (x.Bonds 8),.int .i64 (x.Bonds 9),.int .i64 (x.Bonds 10),.int .i64 (x.Bonds 11),.int .i64 (x.Bonds 12),.int .i64 (x.Bonds 13),.int .i64 (x.Bonds 14),.int .i64 (x.Bonds 15),.slice p0 x.Moving.length k0,.int .i64 x.Made,.int .i64 x.Found,.int .i64 x.Used,.int .i64 x.Exported,.int .i64 x.Lost,.int .i64 x.Charged,.int .i64 x.Due,.int .i64 x.Paid]
def G8(x:ZK)(p0:Option Addr)(k0:Nat):Value:=.agg (ZQ x p0 k0).toArray
theorem PN:∀fs,Tryz.prog.underlying 68=some (.struct fs)->Places Tryz.prog fs #[(0,16),(16,1),(17,1),(18,1),(19,1),(20,1),(21,1),(22,1),(23,1),(24,1)]:=λfs h=>by
 obtain rfl:=TypeDesc.struct.inj (Option.some.inj (Tryz.underlying68.symm.trans h));intro w;kernel_rfl
structure QC where
 rules:ZB
 book:ZK
 moving:(Option Nat)
 known:(Option Nat)
 sums:(Nat->Int)
 day:Int
def ZM(x:QC)(p0:Option Addr)(k0:Nat)(p1:Option Addr)(k1:Nat)(p2:Option Nat)(k2:Unit)(p3:Option Nat)(k3:Unit):List Value:=[.slice p0 x.rules.Rates.length k0,.int .i64 x.rules.Transit,.int .i64 x.rules.Loss,.int .i64 x.rules.Share,.int .i64 (x.book.Bonds 0),.int .i64 (x.book.Bonds 1),.int .i64 (x.book.Bonds 2),.int .i64 (x.book.Bonds 3),.int .i64 (x.book.Bonds 4),.int .i64 (x.book.Bonds 5),.int .i64 (x.book.Bonds 6),.int .i64 (x.book.Bonds 7),.int .i64 (x.book.Bonds 8),.int .i64 (x.book.Bonds 9),.int .i64 (x.book.Bonds 10),.int .i64 (x.book.Bonds 11),.int .i64 (x.book.Bonds 12),.int .i64 (x.book.Bonds 13),.int .i64 (x.book.Bonds 14),.int .i64 (x.book.Bonds 15),.slice p1 x.book.Moving.length k1,.int .i64 x.book.Made,.int .i64 x.book.Found,.int .i64 x.book.Used,.int .i64 x.book.Exported,.int .i64 x.book.Lost,.int .i64 x.book.Charged,.int .i64 x.book.Due,.int .i64 x.book.Paid,.map p2,.map p3,.int .i64 (x.sums 0),.int .i64 (x.sums 1),.int .i64 (x.sums 2),.int .i64 (x.sums 3),.int .i64 (x.sums 4),.int .i64 (x.sums 5),.int .i64 (x.sums 6),.int .i64 (x.sums 7),.int .i64 (x.sums 8),.int .i64 (x.sums 9),.int .i64 (x.sums 10),.int .i64 (x.sums 11),.int .i64 (x.sums 12),.int .i64 (x.sums 13),.int .i64 (x.sums 14),.int .i64 (x.sums 15),.int .i64 x.day]
def BE(U:YC):Z9 QC:=λF x vs=>∃p0 k0 p1 k1 p2 k2 p3 k3,vs=ZM x p0 k0 p1 k1 p2 k2 p3 k3/\QI 2 (Ex ZW) F p0 k0 x.rules.Rates/\PB 5 (Ex Qq) F p1 k1 x.book.Moving/\Zf U.g135 F p2 x.moving/\Zf U.g136 F p3 x.known
theorem Aw:∀fs,Tryz.prog.underlying 138=some (.struct fs)->Places Tryz.prog fs #[(0,4),(4,25),(29,1),(30,1),(31,16),(47,1)]:=λfs h=>by
 obtain rfl:=TypeDesc.struct.inj (Option.some.inj (Tryz.underlying138.symm.trans h));intro w;kernel_rfl
abbrev AH(U:YC):Fz->Nat->QG->HP:=VH 188 (P2 U)
abbrev Qc(U:YC)(F:Fz)(xs:List QG):HP:=Qo U.g188 (AH U) F xs
theorem KI(U:YC):US (AH U):=VH.stays
theorem Uj(U:YC){x:QG}:∀F vs,(P2 U) F x vs->vs.length=26:=λ_ _ ⟨_,_,h,_⟩=>h▸rfl
abbrev LW(U:YC):Fz->Nat->QU->HP:=VH 177 (P3 U)
abbrev Qm(U:YC)(F:Fz)(xs:List QU):HP:=Qo U.g177 (LW U) F xs
theorem Zu(U:YC):US (LW U):=VH.stays
theorem jS(U:YC){x:QU}:∀F vs,(P3 U) F x vs->vs.length=2:=λ_ _ ⟨_,_,h,_⟩=>h▸rfl
abbrev Np(U:YC):Fz->Nat->QC->HP:=VH 138 (BE U)
abbrev ZD(U:YC)(F:Fz)(xs:List QC):HP:=Qo U.g138 (Np U) F xs
theorem K0(U:YC):US (Np U):=VH.stays
theorem Uk(U:YC){x:QC}:∀F vs,(BE U) F x vs->vs.length=48:=λ_ _ ⟨_,_,_,_,_,_,_,_,h,_,_,_,_⟩=>h▸rfl
abbrev En(U:YC):Fz->Nat->ZJ->HP:=VH 122 (Ex Ci)
abbrev Zn(U:YC)(F:Fz)(xs:List ZJ):HP:=Qo U.g122 (En U) F xs
theorem H3(U:YC):US (En U):=VH.stays
theorem X3{x:ZJ}:∀F vs,(Ex Ci) F x vs->vs.length=14:=λ_ _ h=>h▸rfl
abbrev SZ(U:YC):Fz->Nat->List (Int×QB)->HP:=Q4 (λx:Int=>(.int .i64 x)) (λ_ (x:QB) v=>v=(Ku x))
abbrev Zq(U:YC)(F:Fz)(xs:List (List (Int×QB))):HP:=Qo U.g135 (SZ U) F xs
theorem Jr(U:YC):US (SZ U):=WQ
abbrev H0(U:YC):Fz->Nat->List (Int×Bool)->HP:=Q4 (λx:Int=>(.int .i64 x)) (λ_ (x:Bool) v=>v=(.bool x))
abbrev QQ(U:YC)(F:Fz)(xs:List (List (Int×Bool))):HP:=Qo U.g136 (H0 U) F xs
theorem ZV(U:YC):US (H0 U):=WQ
abbrev Pj(U:YC):Fz->Nat->List (Int×(Option Nat))->HP:=Q4 (λx:Int=>(.int .i64 x)) (λF (x:(Option Nat)) v=>∃(p0:Option Addr) (k0:Unit),v=(.pointer p0)/\Qu U.g188 F p0 x)
abbrev Qn(U:YC)(F:Fz)(xs:List (List (Int×(Option Nat)))):HP:=Qo U.g175 (Pj U) F xs
theorem Z4(U:YC):US (Pj U):=WQ
def UW(x:Zz):Value:=.iface 116 (Mz x)
def VK(x:ZR):Value:=.iface 173 (M0 x)
def UU(x:ZX):Value:=.iface 190 (PT x)
def CC(x:Jf):Value:=.iface 163 (Tf x)
theorem Kf:Vc Tryz.prog 3 1 (Ex (QR .i64)):=.ex (λ_=>rfl) (λ_=>rfl) Tryz.sizeOf3 ⟨_,Tryz.typeInfo3,by decide+kernel,by decide+kernel⟩ ⟨_,Tryz.zeroValue3,rfl⟩
theorem ki:Vc Tryz.prog 5 1 (Ex (QR .u8)):=.ex (λ_=>rfl) (λ_=>rfl) Tryz.sizeOf5 ⟨_,Tryz.typeInfo5,by decide+kernel,by decide+kernel⟩ ⟨_,Tryz.zeroValue5,rfl⟩
theorem Bb:Vc Tryz.prog 42 2 Qe:=.mk (λ_ _ _ ⟨_,_,h,_⟩=>h▸rfl) (λ_ _ _ ⟨_,_,h,_⟩=>h▸rfl) (λ_ _ _ _ le ⟨q0,q1,h,h0⟩=>⟨q0,q1,h,h0.mono le⟩) Tryz.sizeOf42 ⟨_,Tryz.typeInfo42,by decide+kernel,by decide+kernel⟩ ⟨_,Tryz.zeroValue42,rfl⟩
theorem qa:Vc Tryz.prog 57 3 (Ex Zt):=.ex (λ_=>rfl) (λ_=>rfl) Tryz.sizeOf57 ⟨_,Tryz.typeInfo57,by decide+kernel,by decide+kernel⟩ ⟨_,Tryz.zeroValue57,rfl⟩
theorem L7:Vc Tryz.prog 75 8 (Ex QW):=.ex (λ_=>rfl) (λ_=>rfl) Tryz.sizeOf75 ⟨_,Tryz.typeInfo75,by decide+kernel,by decide+kernel⟩ ⟨_,Tryz.zeroValue75,rfl⟩
theorem jN:Vc Tryz.prog 79 2 (Ex ZW):=.ex (λ_=>rfl) (λ_=>rfl) Tryz.sizeOf79 ⟨_,Tryz.typeInfo79,by decide+kernel,by decide+kernel⟩ ⟨_,Tryz.zeroValue79,rfl⟩
theorem qZ:Vc Tryz.prog 82 24 (Ex Z2):=.ex (λ_=>rfl) (λ_=>rfl) Tryz.sizeOf82 ⟨_,Tryz.typeInfo82,by decide+kernel,by decide+kernel⟩ ⟨_,Tryz.zeroValue82,rfl⟩
theorem qY:Vc Tryz.prog 85 3 (Ex ZI):=.ex (λ_=>rfl) (λ_=>rfl) Tryz.sizeOf85 ⟨_,Tryz.typeInfo85,by decide+kernel,by decide+kernel⟩ ⟨_,Tryz.zeroValue85,rfl⟩
theorem qX:Vc Tryz.prog 87 6 (Ex QV):=.ex (λ_=>rfl) (λ_=>rfl) Tryz.sizeOf87 ⟨_,Tryz.typeInfo87,by decide+kernel,by decide+kernel⟩ ⟨_,Tryz.zeroValue87,rfl⟩
theorem Ba:Vc Tryz.prog 94 96 (Ex (Qt 96 (QR .u8))):=.ex (λ_=>rfl) (λ_=>rfl) Tryz.sizeOf94 ⟨_,Tryz.typeInfo94,by decide+kernel,by decide+kernel⟩ ⟨_,Tryz.zeroValue94,rfl⟩
theorem Wt:Vc Tryz.prog 120 2 (Ex QN):=.ex (λ_=>rfl) (λ_=>rfl) Tryz.sizeOf120 ⟨_,Tryz.typeInfo120,by decide+kernel,by decide+kernel⟩ ⟨_,Tryz.zeroValue120,rfl⟩
theorem E2:Vc Tryz.prog 144 5 (Ex Qq):=.ex (λ_=>rfl) (λ_=>rfl) Tryz.sizeOf144 ⟨_,Tryz.typeInfo144,by decide+kernel,by decide+kernel⟩ ⟨_,Tryz.zeroValue144,rfl⟩
theorem AN:Vc Tryz.prog 154 2 Xi:=.mk (λ_ _ _ ⟨_,_,h,_⟩=>h▸rfl) (λ_ _ _ ⟨_,_,h,_⟩=>h▸rfl) (λ_ _ _ _ le ⟨q0,q1,h,h0⟩=>⟨q0,q1,h,h0.mono le⟩) Tryz.sizeOf154 ⟨_,Tryz.typeInfo154,by decide+kernel,by decide+kernel⟩ ⟨_,Tryz.zeroValue154,rfl⟩
theorem kU{p:Nat->Prop}(h0:p 0)(h1:p 1)(h2:p 2)(h3:p 3)(h4:p 4)(h5:p 5)(h6:p 6)(h7:p 7)(h8:p 8)(h9:p 9)(h10:p 10)(h11:p 11)(h12:p 12)(h13:p 13)(h14:p 14)(h15:p 15)(h16:p 16)(h17:p 17)(h18:p 18)(h19:p 19)(h20:p 20)(h21:p 21)(h22:p 22)(h23:p 23)(h24:p 24)(h25:p 25)(h26:p 26)(h27:p 27)(h28:p 28)(h29:p 29)(h30:p 30)(h31:p 31)(h32:p 32)(h33:p 33)(h34:p 34)(h35:p 35)(h36:p 36)(h37:p 37)(h38:p 38)(h39:p 39)(h40:p 40)(h41:p 41)(h42:p 42)(h43:p 43)(h44:p 44)(h45:p 45)(h46:p 46)(h47:p 47)(h48:p 48)(h49:p 49)(h50:p 50)(h51:p 51)(h52:p 52)(h53:p 53)(h54:p 54)(h55:p 55)(h56:p 56)(h57:p 57)(h58:p 58)(h59:p 59)(h60:p 60)(h61:p 61)(h62:p 62)(h63:p 63)(h64:p 64)(h65:p 65)(h66:p 66)(h67:p 67)(h68:p 68)(h69:p 69)(h70:p 70)(h71:p 71)(h72:p 72)(h73:p 73)(h74:p 74)(h75:p 75)(h76:p 76)(h77:p 77)(h78:p 78)(h79:p 79)(h80:p 80)(h81:p 81)(h82:p 82)(h83:p 83)(h84:p 84)(h85:p 85)(h86:p 86)(h87:p 87)(h88:p 88)(h89:p 89)(h90:p 90)(h91:p 91)(h92:p 92)(h93:p 93)(h94:p 94)(h95:p 95):∀j,j < 96->p j:=(Zr (Zr (Zr (Zr (Zr (Zr (Zr (Zr (Zr (Zr (Zr (Zr (Zr (Zr (Zr (Zr (Zr (Zr (Zr (Zr (Zr (Zr (Zr (Zr (Zr (Zr (Zr (Zr (Zr (Zr (Zr (Zr (Zr (Zr (Zr (Zr (Zr (Zr (Zr (Zr (Zr (Zr (Zr (Zr (Zr (Zr (Zr (Zr (Zr (Zr (Zr (Zr (Zr (Zr (Zr (Zr (Zr (Zr (Zr (Zr (Zr (Zr (Zr (Zr (Zr (Zr (Zr (Zr (Zr (Zr (Zr (Zr (Zr (Zr (Zr (Zr (Zr (Zr (Zr (Zr (Zr (Zr (Zr (Zr (Zr (Zr (Zr (Zr (Zr (Zr (Zr (Zr (Zr (Zr (Zr (Zr (λj h=>absurd h (Nat.not_lt_zero j)) h0) h1) h2) h3) h4) h5) h6) h7) h8) h9) h10) h11) h12) h13) h14) h15) h16) h17) h18) h19) h20) h21) h22) h23) h24) h25) h26) h27) h28) h29) h30) h31) h32) h33) h34) h35) h36) h37) h38) h39) h40) h41) h42) h43) h44) h45) h46) h47) h48) h49) h50) h51) h52) h53) h54) h55) h56) h57) h58) h59) h60) h61) h62) h63) h64) h65) h66) h67) h68) h69) h70) h71) h72) h73) h74) h75) h76) h77) h78) h79) h80) h81) h82) h83) h84) h85) h86) h87) h88) h89) h90) h91) h92) h93) h94) h95)
def eq_23(x y:QD):Bool:=[(x.Lo==y.Lo),(x.Hi==y.Hi)].all id
theorem HR(x y:QD)(d:Nat)(w:World):(Op.equalIn (d+2) 23 (.agg (ZP x).toArray) (.agg (ZP y).toArray)).run Tryz.prog w= .ok (eq_23 x y) w:=
 Xo Tryz.underlying23 (by kernel_rfl) (bs:=[(x.Lo==y.Lo),(x.Hi==y.Hi)]) ⟨eq_false (by decide),⟨_,_,QJ Tryz.isAgg3 rfl,QJ Tryz.isAgg3 rfl,λw=>eq_int Tryz.underlying3 (d+0) w⟩,eq_false (by decide),⟨_,_,QJ Tryz.isAgg3 rfl,QJ Tryz.isAgg3 rfl,λw=>eq_int Tryz.underlying3 (d+0) w⟩,trivial⟩ w
def eq_25(x y:Za):Bool:=[(eq_23 x.Dry y.Dry),(eq_23 x.Water y.Water),(eq_23 x.Phenol y.Phenol)].all id
theorem zz(x y:Za)(d:Nat)(w:World):(Op.equalIn (d+3) 25 (.agg (Q3 x).toArray) (.agg (Q3 y).toArray)).run Tryz.prog w= .ok (eq_25 x y) w:=
 Xo Tryz.underlying25 (by kernel_rfl) (bs:=[(eq_23 x.Dry y.Dry),(eq_23 x.Water y.Water),(eq_23 x.Phenol y.Phenol)]) ⟨eq_false (by decide),⟨_,_,WH Tryz.isAgg23 Tryz.sizeOf23 (vs:=(ZP (x.Dry))) rfl,WH Tryz.isAgg23 Tryz.sizeOf23 (vs:=(ZP (y.Dry))) rfl,λw=>HR _ _ (d+0) w⟩,eq_false (by decide),⟨_,_,WH Tryz.isAgg23 Tryz.sizeOf23 (vs:=(ZP (x.Water))) rfl,WH Tryz.isAgg23 Tryz.sizeOf23 (vs:=(ZP (y.Water))) rfl,λw=>HR _ _ (d+0) w⟩,eq_false (by decide),⟨_,_,WH Tryz.isAgg23 Tryz.sizeOf23 (vs:=(ZP (x.Phenol))) rfl,WH Tryz.isAgg23 Tryz.sizeOf23 (vs:=(ZP (y.Phenol))) rfl,λw=>HR _ _ (d+0) w⟩,trivial⟩ w
theorem jJ(x y:Za)(w:World):(Op.equal 25 (.agg (Q3 x).toArray) (.agg (Q3 y).toArray)).run Tryz.prog w= .ok (eq_25 x y) w:=zz x y 9997 w
def OI(x y:ZN):Bool:=[(x.Amount==y.Amount),(eq_23 x.Alcohol y.Alcohol)].all id
theorem zy(x y:ZN)(d:Nat)(w:World):(Op.equalIn (d+3) 57 (.agg (Zt x).toArray) (.agg (Zt y).toArray)).run Tryz.prog w= .ok (OI x y) w:=
 Xo Tryz.underlying57 (by kernel_rfl) (bs:=[(x.Amount==y.Amount),(eq_23 x.Alcohol y.Alcohol)]) ⟨eq_false (by decide),⟨_,_,QJ Tryz.isAgg3 rfl,QJ Tryz.isAgg3 rfl,λw=>eq_int Tryz.underlying3 (d+1) w⟩,eq_false (by decide),⟨_,_,WH Tryz.isAgg23 Tryz.sizeOf23 (vs:=(ZP (x.Alcohol))) rfl,WH Tryz.isAgg23 Tryz.sizeOf23 (vs:=(ZP (y.Alcohol))) rfl,λw=>HR _ _ (d+0) w⟩,trivial⟩ w
theorem jI(x y:ZN)(w:World):(Op.equal 57 (.agg (Zt x).toArray) (.agg (Zt y).toArray)).run Tryz.prog w= .ok (OI x y) w:=zy x y 9997 w
def CV(x y:Qx):Bool:=[(eq_23 x.Taken y.Taken),(eq_23 x.Gas y.Gas),(eq_23 x.Roots y.Roots),(eq_23 x.Steam y.Steam)].all id
theorem zx(x y:Qx)(d:Nat)(w:World):(Op.equalIn (d+3) 59 (.agg (Qf x).toArray) (.agg (Qf y).toArray)).run Tryz.prog w= .ok (CV x y) w:=
 Xo Tryz.underlying59 (by kernel_rfl) (bs:=[(eq_23 x.Taken y.Taken),(eq_23 x.Gas y.Gas),(eq_23 x.Roots y.Roots),(eq_23 x.Steam y.Steam)]) ⟨eq_false (by decide),⟨_,_,WH Tryz.isAgg23 Tryz.sizeOf23 (vs:=(ZP (x.Taken))) rfl,WH Tryz.isAgg23 Tryz.sizeOf23 (vs:=(ZP (y.Taken))) rfl,λw=>HR _ _ (d+0) w⟩,eq_false (by decide),⟨_,_,WH Tryz.isAgg23 Tryz.sizeOf23 (vs:=(ZP (x.Gas))) rfl,WH Tryz.isAgg23 Tryz.sizeOf23 (vs:=(ZP (y.Gas))) rfl,λw=>HR _ _ (d+0) w⟩,eq_false (by decide),⟨_,_,WH Tryz.isAgg23 Tryz.sizeOf23 (vs:=(ZP (x.Roots))) rfl,WH Tryz.isAgg23 Tryz.sizeOf23 (vs:=(ZP (y.Roots))) rfl,λw=>HR _ _ (d+0) w⟩,eq_false (by decide),⟨_,_,WH Tryz.isAgg23 Tryz.sizeOf23 (vs:=(ZP (x.Steam))) rfl,WH Tryz.isAgg23 Tryz.sizeOf23 (vs:=(ZP (y.Steam))) rfl,λw=>HR _ _ (d+0) w⟩,trivial⟩ w
theorem jH(x y:Qx)(w:World):(Op.equal 59 (.agg (Qf x).toArray) (.agg (Qf y).toArray)).run Tryz.prog w= .ok (CV x y) w:=zx x y 9997 w
def GO(x y:(Nat->Int)):Bool:=[((x 0)==(y 0)),((x 1)==(y 1)),((x 2)==(y 2)),((x 3)==(y 3)),((x 4)==(y 4)),((x 5)==(y 5)),((x 6)==(y 6)),((x 7)==(y 7)),((x 8)==(y 8)),((x 9)==(y 9)),((x 10)==(y 10)),((x 11)==(y 11)),((x 12)==(y 12)),((x 13)==(y 13)),((x 14)==(y 14)),((x 15)==(y 15))].all id
theorem zw(x y:(Nat->Int))(d:Nat)(w:World):(Op.equalIn (d+2) 65 (.agg ((Qt 16 (QR .i64)) x).toArray) (.agg ((Qt 16 (QR .i64)) y).toArray)).run Tryz.prog w= .ok (GO x y) w:=
 Td Tryz.underlying65 Tryz.sizeOf3 (bs:=[((x 0)==(y 0)),((x 1)==(y 1)),((x 2)==(y 2)),((x 3)==(y 3)),((x 4)==(y 4)),((x 5)==(y 5)),((x 6)==(y 6)),((x 7)==(y 7)),((x 8)==(y 8)),((x 9)==(y 9)),((x 10)==(y 10)),((x 11)==(y 11)),((x 12)==(y 12)),((x 13)==(y 13)),((x 14)==(y 14)),((x 15)==(y 15))]) rfl ⟨⟨_,_,QJ Tryz.isAgg3 rfl,QJ Tryz.isAgg3 rfl,λw=>eq_int Tryz.underlying3 (d+0) w⟩,⟨_,_,QJ Tryz.isAgg3 rfl,QJ Tryz.isAgg3 rfl,λw=>eq_int Tryz.underlying3 (d+0) w⟩,⟨_,_,QJ Tryz.isAgg3 rfl,QJ Tryz.isAgg3 rfl,λw=>eq_int Tryz.underlying3 (d+0) w⟩,⟨_,_,QJ Tryz.isAgg3 rfl,QJ Tryz.isAgg3 rfl,λw=>eq_int Tryz.underlying3 (d+0) w⟩,⟨_,_,QJ Tryz.isAgg3 rfl,QJ Tryz.isAgg3 rfl,λw=>eq_int Tryz.underlying3 (d+0) w⟩,⟨_,_,QJ Tryz.isAgg3 rfl,QJ Tryz.isAgg3 rfl,λw=>eq_int Tryz.underlying3 (d+0) w⟩,⟨_,_,QJ Tryz.isAgg3 rfl,QJ Tryz.isAgg3 rfl,λw=>eq_int Tryz.underlying3 (d+0) w⟩,⟨_,_,QJ Tryz.isAgg3 rfl,QJ Tryz.isAgg3 rfl,λw=>eq_int Tryz.underlying3 (d+0) w⟩,⟨_,_,QJ Tryz.isAgg3 rfl,QJ Tryz.isAgg3 rfl,λw=>eq_int Tryz.underlying3 (d+0) w⟩,⟨_,_,QJ Tryz.isAgg3 rfl,QJ Tryz.isAgg3 rfl,λw=>eq_int Tryz.underlying3 (d+0) w⟩,⟨_,_,QJ Tryz.isAgg3 rfl,QJ Tryz.isAgg3 rfl,λw=>eq_int Tryz.underlying3 (d+0) w⟩,⟨_,_,QJ Tryz.isAgg3 rfl,QJ Tryz.isAgg3 rfl,λw=>eq_int Tryz.underlying3 (d+0) w⟩,⟨_,_,QJ Tryz.isAgg3 rfl,QJ Tryz.isAgg3 rfl,λw=>eq_int Tryz.underlying3 (d+0) w⟩,⟨_,_,QJ Tryz.isAgg3 rfl,QJ Tryz.isAgg3 rfl,λw=>eq_int Tryz.underlying3 (d+0) w⟩,⟨_,_,QJ Tryz.isAgg3 rfl,QJ Tryz.isAgg3 rfl,λw=>eq_int Tryz.underlying3 (d+0) w⟩,⟨_,_,QJ Tryz.isAgg3 rfl,QJ Tryz.isAgg3 rfl,λw=>eq_int Tryz.underlying3 (d+0) w⟩,trivial⟩ w
theorem jG(x y:(Nat->Int))(w:World):(Op.equal 65 (.agg ((Qt 16 (QR .i64)) x).toArray) (.agg ((Qt 16 (QR .i64)) y).toArray)).run Tryz.prog w= .ok (GO x y) w:=zw x y 9998 w
def Rc(x y:(Nat->Int)):Bool:=[((x 0)==(y 0)),((x 1)==(y 1)),((x 2)==(y 2)),((x 3)==(y 3)),((x 4)==(y 4)),((x 5)==(y 5)),((x 6)==(y 6)),((x 7)==(y 7))].all id
theorem Et(x y:(Nat->Int))(d:Nat)(w:World):(Op.equalIn (d+2) 80 (.agg ((Qt 8 (QR .i64)) x).toArray) (.agg ((Qt 8 (QR .i64)) y).toArray)).run Tryz.prog w= .ok (Rc x y) w:=
 Td Tryz.underlying80 Tryz.sizeOf3 (bs:=[((x 0)==(y 0)),((x 1)==(y 1)),((x 2)==(y 2)),((x 3)==(y 3)),((x 4)==(y 4)),((x 5)==(y 5)),((x 6)==(y 6)),((x 7)==(y 7))]) rfl ⟨⟨_,_,QJ Tryz.isAgg3 rfl,QJ Tryz.isAgg3 rfl,λw=>eq_int Tryz.underlying3 (d+0) w⟩,⟨_,_,QJ Tryz.isAgg3 rfl,QJ Tryz.isAgg3 rfl,λw=>eq_int Tryz.underlying3 (d+0) w⟩,⟨_,_,QJ Tryz.isAgg3 rfl,QJ Tryz.isAgg3 rfl,λw=>eq_int Tryz.underlying3 (d+0) w⟩,⟨_,_,QJ Tryz.isAgg3 rfl,QJ Tryz.isAgg3 rfl,λw=>eq_int Tryz.underlying3 (d+0) w⟩,⟨_,_,QJ Tryz.isAgg3 rfl,QJ Tryz.isAgg3 rfl,λw=>eq_int Tryz.underlying3 (d+0) w⟩,⟨_,_,QJ Tryz.isAgg3 rfl,QJ Tryz.isAgg3 rfl,λw=>eq_int Tryz.underlying3 (d+0) w⟩,⟨_,_,QJ Tryz.isAgg3 rfl,QJ Tryz.isAgg3 rfl,λw=>eq_int Tryz.underlying3 (d+0) w⟩,⟨_,_,QJ Tryz.isAgg3 rfl,QJ Tryz.isAgg3 rfl,λw=>eq_int Tryz.underlying3 (d+0) w⟩,trivial⟩ w
def OH(x y:Kd):Bool:=[(x.Number==y.Number),(x.Wood==y.Wood),(x.Place==y.Place),(x.Room==y.Room),(x.Owner==y.Owner),(x.Creditor==y.Creditor),(x.Amount==y.Amount),(x.Age==y.Age),(Rc x.Woods y.Woods),(Rc x.Places y.Places)].all id
theorem zu(x y:Kd)(d:Nat)(w:World):(Op.equalIn (d+3) 82 (.agg (Z2 x).toArray) (.agg (Z2 y).toArray)).run Tryz.prog w= .ok (OH x y) w:=
 Xo Tryz.underlying82 (by kernel_rfl) (bs:=[(x.Number==y.Number),(x.Wood==y.Wood),(x.Place==y.Place),(x.Room==y.Room),(x.Owner==y.Owner),(x.Creditor==y.Creditor),(x.Amount==y.Amount),(x.Age==y.Age),(Rc x.Woods y.Woods),(Rc x.Places y.Places)]) ⟨eq_false (by decide),⟨_,_,QJ Tryz.isAgg3 rfl,QJ Tryz.isAgg3 rfl,λw=>eq_int Tryz.underlying3 (d+1) w⟩,eq_false (by decide),⟨_,_,QJ Tryz.isAgg3 rfl,QJ Tryz.isAgg3 rfl,λw=>eq_int Tryz.underlying3 (d+1) w⟩,eq_false (by decide),⟨_,_,QJ Tryz.isAgg3 rfl,QJ Tryz.isAgg3 rfl,λw=>eq_int Tryz.underlying3 (d+1) w⟩,eq_false (by decide),⟨_,_,QJ Tryz.isAgg3 rfl,QJ Tryz.isAgg3 rfl,λw=>eq_int Tryz.underlying3 (d+1) w⟩,eq_false (by decide),⟨_,_,QJ Tryz.isAgg3 rfl,QJ Tryz.isAgg3 rfl,λw=>eq_int Tryz.underlying3 (d+1) w⟩,eq_false (by decide),⟨_,_,QJ Tryz.isAgg3 rfl,QJ Tryz.isAgg3 rfl,λw=>eq_int Tryz.underlying3 (d+1) w⟩,eq_false (by decide),⟨_,_,QJ Tryz.isAgg3 rfl,QJ Tryz.isAgg3 rfl,λw=>eq_int Tryz.underlying3 (d+1) w⟩,eq_false (by decide),⟨_,_,QJ Tryz.isAgg3 rfl,QJ Tryz.isAgg3 rfl,λw=>eq_int Tryz.underlying3 (d+1) w⟩,eq_false (by decide),⟨_,_,WH Tryz.isAgg80 Tryz.sizeOf80 (vs:=((Qt 8 (QR .i64)) (x.Woods))) rfl,WH Tryz.isAgg80 Tryz.sizeOf80 (vs:=((Qt 8 (QR .i64)) (y.Woods))) rfl,λw=>Et _ _ (d+0) w⟩,eq_false (by decide),⟨_,_,WH Tryz.isAgg80 Tryz.sizeOf80 (vs:=((Qt 8 (QR .i64)) (x.Places))) rfl,WH Tryz.isAgg80 Tryz.sizeOf80 (vs:=((Qt 8 (QR .i64)) (y.Places))) rfl,λw=>Et _ _ (d+0) w⟩,trivial⟩ w
theorem jF(x y:Kd)(w:World):(Op.equal 82 (.agg (Z2 x).toArray) (.agg (Z2 y).toArray)).run Tryz.prog w= .ok (OH x y) w:=zu x y 9997 w
def GN(x y:(Nat->Int)):Bool:=[((x 0)==(y 0)),((x 1)==(y 1)),((x 2)==(y 2)),((x 3)==(y 3)),((x 4)==(y 4)),((x 5)==(y 5)),((x 6)==(y 6)),((x 7)==(y 7)),((x 8)==(y 8)),((x 9)==(y 9)),((x 10)==(y 10)),((x 11)==(y 11)),((x 12)==(y 12)),((x 13)==(y 13)),((x 14)==(y 14)),((x 15)==(y 15)),((x 16)==(y 16)),((x 17)==(y 17)),((x 18)==(y 18)),((x 19)==(y 19)),((x 20)==(y 20)),((x 21)==(y 21)),((x 22)==(y 22)),((x 23)==(y 23)),((x 24)==(y 24)),((x 25)==(y 25)),((x 26)==(y 26)),((x 27)==(y 27)),((x 28)==(y 28)),((x 29)==(y 29)),((x 30)==(y 30)),((x 31)==(y 31)),((x 32)==(y 32)),((x 33)==(y 33)),((x 34)==(y 34)),((x 35)==(y 35)),((x 36)==(y 36)),((x 37)==(y 37)),((x 38)==(y 38)),((x 39)==(y 39)),((x 40)==(y 40)),((x 41)==(y 41)),((x 42)==(y 42)),((x 43)==(y 43)),((x 44)==(y 44)),((x 45)==(y 45)),((x 46)==(y 46)),((x 47)==(y 47)),((x 48)==(y 48)),((x 49)==(y 49)),((x 50)==(y 50)),((x 51)==(y 51)),((x 52)==(y 52)),((x 53)==(y 53)),((x 54)==(y 54)),((x 55)==(y 55)),((x 56)==(y 56)),((x 57)==(y 57)),((x 58)==(y 58)),((x 59)==(y 59)),((x 60)==(y 60)),((x 61)==(y 61)),((x 62)==(y 62)),((x 63)==(y 63)),((x 64)==(y 64)),((x 65)==(y 65)),((x 66)==(y 66)),((x 67)==(y 67)),((x 68)==(y 68)),((x 69)==(y 69)),((x 70)==(y 70)),((x 71)==(y 71)),((x 72)==(y 72)),((x 73)==(y 73)),((x 74)==(y 74)),((x 75)==(y 75)),((x 76)==(y 76)),((x 77)==(y 77)),((x 78)==(y 78)),((x 79)==(y 79)),((x 80)==(y 80)),((x 81)==(y 81)),((x 82)==(y 82)),((x 83)==(y 83)),((x 84)==(y 84)),((x 85)==(y 85)),((x 86)==(y 86)),((x 87)==(y 87)),((x 88)==(y 88)),((x 89)==(y 89)),((x 90)==(y 90)),((x 91)==(y 91)),((x 92)==(y 92)),((x 93)==(y 93)),((x 94)==(y 94)),((x 95)==(y 95))].all id
theorem zt(x y:(Nat->Int))(d:Nat)(w:World):(Op.equalIn (d+2) 94 (.agg ((Qt 96 (QR .u8)) x).toArray) (.agg ((Qt 96 (QR .u8)) y).toArray)).run Tryz.prog w= .ok (GN x y) w:=
 Td Tryz.underlying94 Tryz.sizeOf5 (bs:=[((x 0)==(y 0)),((x 1)==(y 1)),((x 2)==(y 2)),((x 3)==(y 3)),((x 4)==(y 4)),((x 5)==(y 5)),((x 6)==(y 6)),((x 7)==(y 7)),((x 8)==(y 8)),((x 9)==(y 9)),((x 10)==(y 10)),((x 11)==(y 11)),((x 12)==(y 12)),((x 13)==(y 13)),((x 14)==(y 14)),((x 15)==(y 15)),((x 16)==(y 16)),((x 17)==(y 17)),((x 18)==(y 18)),((x 19)==(y 19)),((x 20)==(y 20)),((x 21)==(y 21)),((x 22)==(y 22)),((x 23)==(y 23)),((x 24)==(y 24)),((x 25)==(y 25)),((x 26)==(y 26)),((x 27)==(y 27)),((x 28)==(y 28)),((x 29)==(y 29)),((x 30)==(y 30)),((x 31)==(y 31)),((x 32)==(y 32)),((x 33)==(y 33)),((x 34)==(y 34)),((x 35)==(y 35)),((x 36)==(y 36)),((x 37)==(y 37)),((x 38)==(y 38)),((x 39)==(y 39)),((x 40)==(y 40)),((x 41)==(y 41)),((x 42)==(y 42)),((x 43)==(y 43)),((x 44)==(y 44)),((x 45)==(y 45)),((x 46)==(y 46)),((x 47)==(y 47)),((x 48)==(y 48)),((x 49)==(y 49)),((x 50)==(y 50)),((x 51)==(y 51)),((x 52)==(y 52)),((x 53)==(y 53)),((x 54)==(y 54)),((x 55)==(y 55)),((x 56)==(y 56)),((x 57)==(y 57)),((x 58)==(y 58)),((x 59)==(y 59)),((x 60)==(y 60)),((x 61)==(y 61)),((x 62)==(y 62)),((x 63)==(y 63)),((x 64)==(y 64)),((x 65)==(y 65)),((x 66)==(y 66)),((x 67)==(y 67)),((x 68)==(y 68)),((x 69)==(y 69)),((x 70)==(y 70)),((x 71)==(y 71)),((x 72)==(y 72)),((x 73)==(y 73)),((x 74)==(y 74)),((x 75)==(y 75)),((x 76)==(y 76)),((x 77)==(y 77)),((x 78)==(y 78)),((x 79)==(y 79)),((x 80)==(y 80)),((x 81)==(y 81)),((x 82)==(y 82)),((x 83)==(y 83)),((x 84)==(y 84)),((x 85)==(y 85)),((x 86)==(y 86)),((x 87)==(y 87)),((x 88)==(y 88)),((x 89)==(y 89)),((x 90)==(y 90)),((x 91)==(y 91)),((x 92)==(y 92)),((x 93)==(y 93)),((x 94)==(y 94)),((x 95)==(y 95))]) rfl ⟨⟨_,_,QJ Tryz.isAgg5 rfl,QJ Tryz.isAgg5 rfl,λw=>eq_int Tryz.underlying5 (d+0) w⟩,⟨_,_,QJ Tryz.isAgg5 rfl,QJ Tryz.isAgg5 rfl,λw=>eq_int Tryz.underlying5 (d+0) w⟩,⟨_,_,QJ Tryz.isAgg5 rfl,QJ Tryz.isAgg5 rfl,λw=>eq_int Tryz.underlying5 (d+0) w⟩,⟨_,_,QJ Tryz.isAgg5 rfl,QJ Tryz.isAgg5 rfl,λw=>eq_int Tryz.underlying5 (d+0) w⟩,⟨_,_,QJ Tryz.isAgg5 rfl,QJ Tryz.isAgg5 rfl,λw=>eq_int Tryz.underlying5 (d+0) w⟩,⟨_,_,QJ Tryz.isAgg5 rfl,QJ Tryz.isAgg5 rfl,λw=>eq_int Tryz.underlying5 (d+0) w⟩,⟨_,_,QJ Tryz.isAgg5 rfl,QJ Tryz.isAgg5 rfl,λw=>eq_int Tryz.underlying5 (d+0) w⟩,⟨_,_,QJ Tryz.isAgg5 rfl,QJ Tryz.isAgg5 rfl,λw=>eq_int Tryz.underlying5 (d+0) w⟩,⟨_,_,QJ Tryz.isAgg5 rfl,QJ Tryz.isAgg5 rfl,λw=>eq_int Tryz.underlying5 (d+0) w⟩,⟨_,_,QJ Tryz.isAgg5 rfl,QJ Tryz.isAgg5 rfl,λw=>eq_int Tryz.underlying5 (d+0) w⟩,⟨_,_,QJ Tryz.isAgg5 rfl,QJ Tryz.isAgg5 rfl,λw=>eq_int Tryz.underlying5 (d+0) w⟩,⟨_,_,QJ Tryz.isAgg5 rfl,QJ Tryz.isAgg5 rfl,λw=>eq_int Tryz.underlying5 (d+0) w⟩,⟨_,_,QJ Tryz.isAgg5 rfl,QJ Tryz.isAgg5 rfl,λw=>eq_int Tryz.underlying5 (d+0) w⟩,⟨_,_,QJ Tryz.isAgg5 rfl,QJ Tryz.isAgg5 rfl,λw=>eq_int Tryz.underlying5 (d+0) w⟩,⟨_,_,QJ Tryz.isAgg5 rfl,QJ Tryz.isAgg5 rfl,λw=>eq_int Tryz.underlying5 (d+0) w⟩,⟨_,_,QJ Tryz.isAgg5 rfl,QJ Tryz.isAgg5 rfl,λw=>eq_int Tryz.underlying5 (d+0) w⟩,⟨_,_,QJ Tryz.isAgg5 rfl,QJ Tryz.isAgg5 rfl,λw=>eq_int Tryz.underlying5 (d+0) w⟩,⟨_,_,QJ Tryz.isAgg5 rfl,QJ Tryz.isAgg5 rfl,λw=>eq_int Tryz.underlying5 (d+0) w⟩,⟨_,_,QJ Tryz.isAgg5 rfl,QJ Tryz.isAgg5 rfl,λw=>eq_int Tryz.underlying5 (d+0) w⟩,⟨_,_,QJ Tryz.isAgg5 rfl,QJ Tryz.isAgg5 rfl,λw=>eq_int Tryz.underlying5 (d+0) w⟩,⟨_,_,QJ Tryz.isAgg5 rfl,QJ Tryz.isAgg5 rfl,λw=>eq_int Tryz.underlying5 (d+0) w⟩,⟨_,_,QJ Tryz.isAgg5 rfl,QJ Tryz.isAgg5 rfl,λw=>eq_int Tryz.underlying5 (d+0) w⟩,⟨_,_,QJ Tryz.isAgg5 rfl,QJ Tryz.isAgg5 rfl,λw=>eq_int Tryz.underlying5 (d+0) w⟩,⟨_,_,QJ Tryz.isAgg5 rfl,QJ Tryz.isAgg5 rfl,λw=>eq_int Tryz.underlying5 (d+0) w⟩,⟨_,_,QJ Tryz.isAgg5 rfl,QJ Tryz.isAgg5 rfl,λw=>eq_int Tryz.underlying5 (d+0) w⟩,⟨_,_,QJ Tryz.isAgg5 rfl,QJ Tryz.isAgg5 rfl,λw=>eq_int Tryz.underlying5 (d+0) w⟩,⟨_,_,QJ Tryz.isAgg5 rfl,QJ Tryz.isAgg5 rfl,λw=>eq_int Tryz.underlying5 (d+0) w⟩,⟨_,_,QJ Tryz.isAgg5 rfl,QJ Tryz.isAgg5 rfl,λw=>eq_int Tryz.underlying5 (d+0) w⟩,⟨_,_,QJ Tryz.isAgg5 rfl,QJ Tryz.isAgg5 rfl,λw=>eq_int Tryz.underlying5 (d+0) w⟩,⟨_,_,QJ Tryz.isAgg5 rfl,QJ Tryz.isAgg5 rfl,λw=>eq_int Tryz.underlying5 (d+0) w⟩,⟨_,_,QJ Tryz.isAgg5 rfl,QJ Tryz.isAgg5 rfl,λw=>eq_int Tryz.underlying5 (d+0) w⟩,⟨_,_,QJ Tryz.isAgg5 rfl,QJ Tryz.isAgg5 rfl,λw=>eq_int Tryz.underlying5 (d+0) w⟩,⟨_,_,QJ Tryz.isAgg5 rfl,QJ Tryz.isAgg5 rfl,λw=>eq_int Tryz.underlying5 (d+0) w⟩,⟨_,_,QJ Tryz.isAgg5 rfl,QJ Tryz.isAgg5 rfl,λw=>eq_int Tryz.underlying5 (d+0) w⟩,⟨_,_,QJ Tryz.isAgg5 rfl,QJ Tryz.isAgg5 rfl,λw=>eq_int Tryz.underlying5 (d+0) w⟩,⟨_,_,QJ Tryz.isAgg5 rfl,QJ Tryz.isAgg5 rfl,λw=>eq_int Tryz.underlying5 (d+0) w⟩,⟨_,_,QJ Tryz.isAgg5 rfl,QJ Tryz.isAgg5 rfl,λw=>eq_int Tryz.underlying5 (d+0) w⟩,⟨_,_,QJ Tryz.isAgg5 rfl,QJ Tryz.isAgg5 rfl,λw=>eq_int Tryz.underlying5 (d+0) w⟩,⟨_,_,QJ Tryz.isAgg5 rfl,QJ Tryz.isAgg5 rfl,λw=>eq_int Tryz.underlying5 (d+0) w⟩,⟨_,_,QJ Tryz.isAgg5 rfl,QJ Tryz.isAgg5 rfl,λw=>eq_int Tryz.underlying5 (d+0) w⟩,⟨_,_,QJ Tryz.isAgg5 rfl,QJ Tryz.isAgg5 rfl,λw=>eq_int Tryz.underlying5 (d+0) w⟩,⟨_,_,QJ Tryz.isAgg5 rfl,QJ Tryz.isAgg5 rfl,λw=>eq_int Tryz.underlying5 (d+0) w⟩,⟨_,_,QJ Tryz.isAgg5 rfl,QJ Tryz.isAgg5 rfl,λw=>eq_int Tryz.underlying5 (d+0) w⟩,⟨_,_,QJ Tryz.isAgg5 rfl,QJ Tryz.isAgg5 rfl,λw=>eq_int Tryz.underlying5 (d+0) w⟩,⟨_,_,QJ Tryz.isAgg5 rfl,QJ Tryz.isAgg5 rfl,λw=>eq_int Tryz.underlying5 (d+0) w⟩,⟨_,_,QJ Tryz.isAgg5 rfl,QJ Tryz.isAgg5 rfl,λw=>eq_int Tryz.underlying5 (d+0) w⟩,⟨_,_,QJ Tryz.isAgg5 rfl,QJ Tryz.isAgg5 rfl,λw=>eq_int Tryz.underlying5 (d+0) w⟩,⟨_,_,QJ Tryz.isAgg5 rfl,QJ Tryz.isAgg5 rfl,λw=>eq_int Tryz.underlying5 (d+0) w⟩,⟨_,_,QJ Tryz.isAgg5 rfl,QJ Tryz.isAgg5 rfl,λw=>eq_int Tryz.underlying5 (d+0) w⟩,⟨_,_,QJ Tryz.isAgg5 rfl,QJ Tryz.isAgg5 rfl,λw=>eq_int Tryz.underlying5 (d+0) w⟩,⟨_,_,QJ Tryz.isAgg5 rfl,QJ Tryz.isAgg5 rfl,λw=>eq_int Tryz.underlying5 (d+0) w⟩,⟨_,_,QJ Tryz.isAgg5 rfl,QJ Tryz.isAgg5 rfl,λw=>eq_int Tryz.underlying5 (d+0) w⟩,⟨_,_,QJ Tryz.isAgg5 rfl,QJ Tryz.isAgg5 rfl,λw=>eq_int Tryz.underlying5 (d+0) w⟩,⟨_,_,QJ Tryz.isAgg5 rfl,QJ Tryz.isAgg5 rfl,λw=>eq_int Tryz.underlying5 (d+0) w⟩,⟨_,_,QJ Tryz.isAgg5 rfl,QJ Tryz.isAgg5 rfl,λw=>eq_int Tryz.underlying5 (d+0) w⟩,⟨_,_,QJ Tryz.isAgg5 rfl,QJ Tryz.isAgg5 rfl,λw=>eq_int Tryz.underlying5 (d+0) w⟩,⟨_,_,QJ Tryz.isAgg5 rfl,QJ Tryz.isAgg5 rfl,λw=>eq_int Tryz.underlying5 (d+0) w⟩,⟨_,_,QJ Tryz.isAgg5 rfl,QJ Tryz.isAgg5 rfl,λw=>eq_int Tryz.underlying5 (d+0) w⟩,⟨_,_,QJ Tryz.isAgg5 rfl,QJ Tryz.isAgg5 rfl,λw=>eq_int Tryz.underlying5 (d+0) w⟩,⟨_,_,QJ Tryz.isAgg5 rfl,QJ Tryz.isAgg5 rfl,λw=>eq_int Tryz.underlying5 (d+0) w⟩,⟨_,_,QJ Tryz.isAgg5 rfl,QJ Tryz.isAgg5 rfl,λw=>eq_int Tryz.underlying5 (d+0) w⟩,⟨_,_,QJ Tryz.isAgg5 rfl,QJ Tryz.isAgg5 rfl,λw=>eq_int Tryz.underlying5 (d+0) w⟩,⟨_,_,QJ Tryz.isAgg5 rfl,QJ Tryz.isAgg5 rfl,λw=>eq_int Tryz.underlying5 (d+0) w⟩,⟨_,_,QJ Tryz.isAgg5 rfl,QJ Tryz.isAgg5 rfl,λw=>eq_int Tryz.underlying5 (d+0) w⟩,⟨_,_,QJ Tryz.isAgg5 rfl,QJ Tryz.isAgg5 rfl,λw=>eq_int Tryz.underlying5 (d+0) w⟩,⟨_,_,QJ Tryz.isAgg5 rfl,QJ Tryz.isAgg5 rfl,λw=>eq_int Tryz.underlying5 (d+0) w⟩,⟨_,_,QJ Tryz.isAgg5 rfl,QJ Tryz.isAgg5 rfl,λw=>eq_int Tryz.underlying5 (d+0) w⟩,⟨_,_,QJ Tryz.isAgg5 rfl,QJ Tryz.isAgg5 rfl,λw=>eq_int Tryz.underlying5 (d+0) w⟩,⟨_,_,QJ Tryz.isAgg5 rfl,QJ Tryz.isAgg5 rfl,λw=>eq_int Tryz.underlying5 (d+0) w⟩,⟨_,_,QJ Tryz.isAgg5 rfl,QJ Tryz.isAgg5 rfl,λw=>eq_int Tryz.underlying5 (d+0) w⟩,⟨_,_,QJ Tryz.isAgg5 rfl,QJ Tryz.isAgg5 rfl,λw=>eq_int Tryz.underlying5 (d+0) w⟩,⟨_,_,QJ Tryz.isAgg5 rfl,QJ Tryz.isAgg5 rfl,λw=>eq_int Tryz.underlying5 (d+0) w⟩,⟨_,_,QJ Tryz.isAgg5 rfl,QJ Tryz.isAgg5 rfl,λw=>eq_int Tryz.underlying5 (d+0) w⟩,⟨_,_,QJ Tryz.isAgg5 rfl,QJ Tryz.isAgg5 rfl,λw=>eq_int Tryz.underlying5 (d+0) w⟩,⟨_,_,QJ Tryz.isAgg5 rfl,QJ Tryz.isAgg5 rfl,λw=>eq_int Tryz.underlying5 (d+0) w⟩,⟨_,_,QJ Tryz.isAgg5 rfl,QJ Tryz.isAgg5 rfl,λw=>eq_int Tryz.underlying5 (d+0) w⟩,⟨_,_,QJ Tryz.isAgg5 rfl,QJ Tryz.isAgg5 rfl,λw=>eq_int Tryz.underlying5 (d+0) w⟩,⟨_,_,QJ Tryz.isAgg5 rfl,QJ Tryz.isAgg5 rfl,λw=>eq_int Tryz.underlying5 (d+0) w⟩,⟨_,_,QJ Tryz.isAgg5 rfl,QJ Tryz.isAgg5 rfl,λw=>eq_int Tryz.underlying5 (d+0) w⟩,⟨_,_,QJ Tryz.isAgg5 rfl,QJ Tryz.isAgg5 rfl,λw=>eq_int Tryz.underlying5 (d+0) w⟩,⟨_,_,QJ Tryz.isAgg5 rfl,QJ Tryz.isAgg5 rfl,λw=>eq_int Tryz.underlying5 (d+0) w⟩,⟨_,_,QJ Tryz.isAgg5 rfl,QJ Tryz.isAgg5 rfl,λw=>eq_int Tryz.underlying5 (d+0) w⟩,⟨_,_,QJ Tryz.isAgg5 rfl,QJ Tryz.isAgg5 rfl,λw=>eq_int Tryz.underlying5 (d+0) w⟩,⟨_,_,QJ Tryz.isAgg5 rfl,QJ Tryz.isAgg5 rfl,λw=>eq_int Tryz.underlying5 (d+0) w⟩,⟨_,_,QJ Tryz.isAgg5 rfl,QJ Tryz.isAgg5 rfl,λw=>eq_int Tryz.underlying5 (d+0) w⟩,⟨_,_,QJ Tryz.isAgg5 rfl,QJ Tryz.isAgg5 rfl,λw=>eq_int Tryz.underlying5 (d+0) w⟩,⟨_,_,QJ Tryz.isAgg5 rfl,QJ Tryz.isAgg5 rfl,λw=>eq_int Tryz.underlying5 (d+0) w⟩,⟨_,_,QJ Tryz.isAgg5 rfl,QJ Tryz.isAgg5 rfl,λw=>eq_int Tryz.underlying5 (d+0) w⟩,⟨_,_,QJ Tryz.isAgg5 rfl,QJ Tryz.isAgg5 rfl,λw=>eq_int Tryz.underlying5 (d+0) w⟩,⟨_,_,QJ Tryz.isAgg5 rfl,QJ Tryz.isAgg5 rfl,λw=>eq_int Tryz.underlying5 (d+0) w⟩,⟨_,_,QJ Tryz.isAgg5 rfl,QJ Tryz.isAgg5 rfl,λw=>eq_int Tryz.underlying5 (d+0) w⟩,⟨_,_,QJ Tryz.isAgg5 rfl,QJ Tryz.isAgg5 rfl,λw=>eq_int Tryz.underlying5 (d+0) w⟩,⟨_,_,QJ Tryz.isAgg5 rfl,QJ Tryz.isAgg5 rfl,λw=>eq_int Tryz.underlying5 (d+0) w⟩,⟨_,_,QJ Tryz.isAgg5 rfl,QJ Tryz.isAgg5 rfl,λw=>eq_int Tryz.underlying5 (d+0) w⟩,⟨_,_,QJ Tryz.isAgg5 rfl,QJ Tryz.isAgg5 rfl,λw=>eq_int Tryz.underlying5 (d+0) w⟩,⟨_,_,QJ Tryz.isAgg5 rfl,QJ Tryz.isAgg5 rfl,λw=>eq_int Tryz.underlying5 (d+0) w⟩,trivial⟩ w
theorem Ln(x y:(Nat->Int))(w:World):(Op.equal 94 (.agg ((Qt 96 (QR .u8)) x).toArray) (.agg ((Qt 96 (QR .u8)) y).toArray)).run Tryz.prog w= .ok (GN x y) w:=zt x y 9998 w
def Te(x y:QB):Bool:=[(x.Id==y.Id),(x.From==y.From),(x.To==y.To),(x.Sent==y.Sent),(x.Amount==y.Amount)].all id
theorem qQ(x y:QB)(d:Nat)(w:World):(Op.equalIn (d+2) 144 (.agg (Qq x).toArray) (.agg (Qq y).toArray)).run Tryz.prog w= .ok (Te x y) w:=
 Xo Tryz.underlying144 (by kernel_rfl) (bs:=[(x.Id==y.Id),(x.From==y.From),(x.To==y.To),(x.Sent==y.Sent),(x.Amount==y.Amount)]) ⟨eq_false (by decide),⟨_,_,QJ Tryz.isAgg3 rfl,QJ Tryz.isAgg3 rfl,λw=>eq_int Tryz.underlying3 (d+0) w⟩,eq_false (by decide),⟨_,_,QJ Tryz.isAgg3 rfl,QJ Tryz.isAgg3 rfl,λw=>eq_int Tryz.underlying3 (d+0) w⟩,eq_false (by decide),⟨_,_,QJ Tryz.isAgg3 rfl,QJ Tryz.isAgg3 rfl,λw=>eq_int Tryz.underlying3 (d+0) w⟩,eq_false (by decide),⟨_,_,QJ Tryz.isAgg3 rfl,QJ Tryz.isAgg3 rfl,λw=>eq_int Tryz.underlying3 (d+0) w⟩,eq_false (by decide),⟨_,_,QJ Tryz.isAgg3 rfl,QJ Tryz.isAgg3 rfl,λw=>eq_int Tryz.underlying3 (d+0) w⟩,trivial⟩ w
theorem z1(x y:QB)(w:World):(Op.equal 144 (.agg (Qq x).toArray) (.agg (Qq y).toArray)).run Tryz.prog w= .ok (Te x y) w:=qQ x y 9998 w
theorem qb:Vc Tryz.prog 20 1 (R7 5 40):=.any Tryz.sizeOf20 ⟨_,Tryz.typeInfo20,by decide+kernel,by decide+kernel⟩ ⟨_,Tryz.zeroValue20,rfl⟩
def Tryz.wL:Go.Shelf.Ren:=⟨fun | 6=>44 | 8=>79 | 9=>80 | 11=>129 | 13=>131 | 12=>130 | 23=>157 | 24=>158 | 14=>148 | 15=>149 | 16=>150 | 17=>151 | 18=>152 | 19=>153 | 20=>154 | 21=>155 | 22=>156 | 25=>175 | 26=>176 | 27=>177 | 28=>178 | 29=>179 | 30=>180 | 31=>196 | n=>n,fun | 26=>3 | 28=>141 | 24=>40 | 0=>0 | 3=>3 | 37=>159 | 48=>157 | 50=>248 | 4=>4 | 40=>239 | 39=>238 | 45=>244 | 5=>5 | 9=>9 | 51=>265 | 55=>269 | 57=>286 | 58=>287 | 33=>147 | n=>n,fun | n=>n⟩
theorem Tryz.uq:Go.Proofs.SlLaysZI.n6 Tryz.prog Tryz.wL:={
 mixed:=by kernel_rfl
 f6:=⟨Tryz.f44.name,by decide,Tryz.func44.trans (congrArg some (by kernel_rfl))⟩
 f8:=⟨Tryz.f79.name,by decide,Tryz.func79.trans (congrArg some (by kernel_rfl))⟩
 f11:=⟨Tryz.f129.name,by decide,Tryz.func129.trans (congrArg some (by kernel_rfl))⟩
 t0:=Tryz.underlying0
 a0:=Tryz.isAgg0
 z0:=Tryz.sizeOf0
 v0:=Tryz.zeroValue0
 t24:=Tryz.underlying40
 a24:=Tryz.isAgg40
 z24:=Tryz.sizeOf40
 v24:=Tryz.zeroValue40
 t26:=Tryz.underlying3
 a26:=Tryz.isAgg3
 z26:=Tryz.sizeOf3
 v26:=Tryz.zeroValue3
 t28:=Tryz.underlying141
 a28:=Tryz.isAgg141
 z28:=Tryz.sizeOf141
 v28:=Tryz.zeroValue141
 i26:=by kernel_rfl}
def Tryz.xU:Go.Shelf.Ren:=⟨fun | 5=>80 | 8=>131 | 7=>130 | 19=>157 | 20=>158 | 10=>148 | 11=>149 | 12=>150 | 13=>151 | 14=>152 | 15=>153 | 16=>154 | 17=>155 | 18=>156 | 30=>175 | 31=>176 | 32=>177 | 33=>178 | 34=>179 | 35=>180 | 40=>196 | n=>n,fun | 23=>40 | 25=>3 | 3=>3 | 32=>159 | 22=>40 | 0=>0 | 44=>157 | 46=>248 | 4=>4 | 36=>239 | 35=>238 | 41=>244 | 5=>5 | 9=>9 | 53=>265 | 57=>269 | 63=>286 | 64=>287 | n=>n,fun | n=>n⟩
theorem Tryz.xx:Go.Proofs.SlLaysM.n5 Tryz.prog Tryz.xU:={
 mixed:=by kernel_rfl
 f5:=⟨Tryz.f80.name,by decide,Tryz.func80.trans (congrArg some (by kernel_rfl))⟩
 f7:=⟨Tryz.f130.name,by decide,Tryz.func130.trans (congrArg some (by kernel_rfl))⟩
 f8:=Tryz.func131.trans (congrArg some (by kernel_rfl))
 f10:=⟨Tryz.f148.name,by decide,Tryz.func148.trans (congrArg some (by kernel_rfl))⟩
 f11:=⟨Tryz.f149.name,by decide,Tryz.func149.trans (congrArg some (by kernel_rfl))⟩
 f12:=⟨Tryz.f150.name,by decide,Tryz.func150.trans (congrArg some (by kernel_rfl))⟩
 f13:=⟨Tryz.f151.name,by decide,Tryz.func151.trans (congrArg some (by kernel_rfl))⟩
 f14:=⟨Tryz.f152.name,by decide,Tryz.func152.trans (congrArg some (by kernel_rfl))⟩
 f15:=⟨Tryz.f153.name,by decide,Tryz.func153.trans (congrArg some (by kernel_rfl))⟩
 f16:=⟨Tryz.f154.name,by decide,Tryz.func154.trans (congrArg some (by kernel_rfl))⟩
 f17:=⟨Tryz.f155.name,by decide,Tryz.func155.trans (congrArg some (by kernel_rfl))⟩
 f18:=⟨Tryz.f156.name,by decide,Tryz.func156.trans (congrArg some (by kernel_rfl))⟩
 f19:=Tryz.func157.trans (congrArg some (by kernel_rfl))
 f20:=Tryz.func158.trans (congrArg some (by kernel_rfl))
 f30:=⟨Tryz.f175.name,by decide,Tryz.func175.trans (congrArg some (by kernel_rfl))⟩
 f31:=Tryz.func176.trans (congrArg some (by kernel_rfl))
 f32:=Tryz.func177.trans (congrArg some (by kernel_rfl))
 f33:=⟨Tryz.f178.name,by decide,Tryz.func178.trans (congrArg some (by kernel_rfl))⟩
 f34:=⟨Tryz.f179.name,by decide,Tryz.func179.trans (congrArg some (by kernel_rfl))⟩
 f35:=⟨Tryz.f180.name,by decide,Tryz.func180.trans (congrArg some (by kernel_rfl))⟩
 f40:=⟨Tryz.f196.name,by decide,Tryz.func196.trans (congrArg some (by kernel_rfl))⟩
 t0:=Tryz.underlying0
 a0:=Tryz.isAgg0
 z0:=Tryz.sizeOf0
 v0:=Tryz.zeroValue0
 t3:=Tryz.underlying3
 a3:=Tryz.isAgg3
 z3:=Tryz.sizeOf3
 v3:=Tryz.zeroValue3
 t4:=Tryz.underlying4
 a4:=Tryz.isAgg4
 z4:=Tryz.sizeOf4
 v4:=Tryz.zeroValue4
 t5:=Tryz.underlying5
 a5:=Tryz.isAgg5
 z5:=Tryz.sizeOf5
 v5:=Tryz.zeroValue5
 t9:=Tryz.underlying9
 a9:=Tryz.isAgg9
 z9:=Tryz.sizeOf9
 v9:=Tryz.zeroValue9
 t22:=Tryz.underlying40
 a22:=Tryz.isAgg40
 z22:=Tryz.sizeOf40
 v22:=Tryz.zeroValue40
 t23:=Tryz.underlying40
 a23:=Tryz.isAgg40
 z23:=Tryz.sizeOf40
 v23:=Tryz.zeroValue40
 t25:=Tryz.underlying3
 a25:=Tryz.isAgg3
 z25:=Tryz.sizeOf3
 v25:=Tryz.zeroValue3
 t32:=Tryz.underlying159
 a32:=Tryz.isAgg159
 z32:=Tryz.sizeOf159
 v32:=Tryz.zeroValue159
 t35:=Tryz.underlying238
 a35:=Tryz.isAgg238
 z35:=Tryz.sizeOf238
 v35:=Tryz.zeroValue238
 t36:=Tryz.underlying239
 a36:=Tryz.isAgg239
 z36:=Tryz.sizeOf239
 v36:=Tryz.zeroValue239
 t41:=Tryz.underlying244
 a41:=Tryz.isAgg244
 z41:=Tryz.sizeOf244
 v41:=Tryz.zeroValue244
 t44:=Tryz.underlying157
 a44:=Tryz.isAgg157
 z44:=Tryz.sizeOf157
 v44:=Tryz.zeroValue157
 t46:=Tryz.underlying248
 a46:=Tryz.isAgg248
 z46:=Tryz.sizeOf248
 v46:=Tryz.zeroValue248
 t53:=Tryz.underlying265
 a53:=Tryz.isAgg265
 z53:=Tryz.sizeOf265
 v53:=Tryz.zeroValue265
 t57:=Tryz.underlying269
 a57:=Tryz.isAgg269
 z57:=Tryz.sizeOf269
 v57:=Tryz.zeroValue269
 t63:=Tryz.underlying286
 a63:=Tryz.isAgg286
 z63:=Tryz.sizeOf286
 v63:=Tryz.zeroValue286
 t64:=Tryz.underlying287
 a64:=Tryz.isAgg287
 z64:=Tryz.sizeOf287
 v64:=Tryz.zeroValue287}
theorem H5(m:Nat):Go.Proofs.AnyZI.SortsIn Tryz.prog Tryz.wL Fence.wide m:=
 ⟨λblk off cap ss W hH hblk hsz=>callsIn_wide.2 (Go.Proofs.AnyM.slices_Sort_int Tryz.xx blk off cap ss W hH hblk hsz),λp cap W=>callsIn_wide.2 (Go.Proofs.AnyM.slices_Sort_int_none Tryz.xx p cap W)⟩
def Tryz.wG:Go.Shelf.Ren:=⟨fun | 7=>72 | 10=>117 | n=>n,fun | 23=>175 | 26=>3 | 3=>130 | 28=>141 | 0=>0 | 27=>140 | 33=>147 | 4=>4 | n=>n,fun | n=>n⟩
theorem Tryz.xa:Go.Proofs.SlLaysZI.n7 Tryz.prog Tryz.wG:={
 mixed:=by kernel_rfl
 f7:=⟨Tryz.f72.name,by decide,Tryz.func72.trans (congrArg some (by kernel_rfl))⟩
 f10:=⟨Tryz.f117.name,by decide,Tryz.func117.trans (congrArg some (by kernel_rfl))⟩
 t0:=Tryz.underlying0
 a0:=Tryz.isAgg0
 z0:=Tryz.sizeOf0
 v0:=Tryz.zeroValue0
 t4:=Tryz.underlying4
 a4:=Tryz.isAgg4
 z4:=Tryz.sizeOf4
 v4:=Tryz.zeroValue4
 t23:=Tryz.underlying175
 a23:=Tryz.isAgg175
 z23:=Tryz.sizeOf175
 v23:=Tryz.zeroValue175
 t26:=Tryz.underlying3
 a26:=Tryz.isAgg3
 z26:=Tryz.sizeOf3
 v26:=Tryz.zeroValue3
 t27:=Tryz.underlying140
 a27:=Tryz.isAgg140
 z27:=Tryz.sizeOf140
 v27:=Tryz.zeroValue140
 t28:=Tryz.underlying141
 a28:=Tryz.isAgg141
 z28:=Tryz.sizeOf141
 v28:=Tryz.zeroValue141
 t33:=Tryz.underlying147
 a33:=Tryz.isAgg147
 z33:=Tryz.sizeOf147
 v33:=Tryz.zeroValue147}
theorem qn:KeysOf Tryz.prog 72 117 175:=λmb W=>(callsIn_wide (n:=5)).1 (Go.Proofs.AnyZI.keys_in Tryz.xa Fence.wide 5 trivial rfl mb W)
theorem PI:HE Tryz.prog 44 117 3 3:=by
 refine⟨λb nn D Bm w hBm hm hown hsz=> ?_,λBm w hBm hm=> ?_⟩
 ·have hseq:SeqGives Fence.wide 2 Tryz.prog 117 #[.pointer (some ⟨Bm,0,none⟩)] encZ (λss=>ss.Perm (intKeys D)) (Maps.size D) w:=Go.Proofs.AnyZI.keys_gives (ρ:=Tryz.wG) {Tryz.xa with} Fence.wide _ trivial rfl (by omega) Bm b nn D w hBm hm hown;have h:=Go.Proofs.AnyZI.sorted_in Tryz.uq Fence.wide 5 trivial trivial trivial trivial rfl (by omega) (H5 _) Tryz.call80 117 #[.pointer (some ⟨Bm,0,none⟩)] trivial Tryz.call117 _ _ (Nat.le_trans hsz (by unfold maxLen;omega)) (by omega) _ hseq;exact(callsIn_wide (n:=5)).1 h
 ·have hseq:SeqGives Fence.wide 2 Tryz.prog 117 #[.pointer (some ⟨Bm,0,none⟩)] encZ (λss:List Int=>ss=[]) 0 w:=Go.Proofs.AnyZI.keys_gives_nil (ρ:=Tryz.wG) {Tryz.xa with} Fence.wide _ trivial rfl Bm w hBm hm;have h:=Go.Proofs.AnyZI.sorted_in Tryz.uq Fence.wide 5 trivial trivial trivial trivial rfl (by omega) (H5 _) Tryz.call80 117 #[.pointer (some ⟨Bm,0,none⟩)] trivial Tryz.call117 _ 0 (Nat.zero_le _) (by omega) _ hseq;refine((callsIn_wide (n:=5)).1 h).mono ?_;rintro e w' ⟨v,ss,rfl,rfl,hrow,hnil,hb⟩;obtain rfl:v= .slice none 0 0:=hnil.2 rfl;exact⟨rfl,hb⟩
def Tryz.wH:Go.Shelf.Ren:=⟨fun | 7=>45 | 10=>81 | n=>n,fun | 23=>135 | 26=>3 | 3=>144 | 28=>141 | 0=>0 | 27=>140 | 33=>147 | 4=>4 | n=>n,fun | n=>n⟩
theorem Tryz.xb:Go.Proofs.SlLaysZI.n7 Tryz.prog Tryz.wH:={
 mixed:=by kernel_rfl
 f7:=⟨Tryz.f45.name,by decide,Tryz.func45.trans (congrArg some (by kernel_rfl))⟩
 f10:=⟨Tryz.f81.name,by decide,Tryz.func81.trans (congrArg some (by kernel_rfl))⟩
 t0:=Tryz.underlying0
 a0:=Tryz.isAgg0
 z0:=Tryz.sizeOf0
 v0:=Tryz.zeroValue0
 t4:=Tryz.underlying4
 a4:=Tryz.isAgg4
 z4:=Tryz.sizeOf4
 v4:=Tryz.zeroValue4
 t23:=Tryz.underlying135
 a23:=Tryz.isAgg135
 z23:=Tryz.sizeOf135
 v23:=Tryz.zeroValue135
 t26:=Tryz.underlying3
 a26:=Tryz.isAgg3
 z26:=Tryz.sizeOf3
 v26:=Tryz.zeroValue3
 t27:=Tryz.underlying140
 a27:=Tryz.isAgg140
 z27:=Tryz.sizeOf140
 v27:=Tryz.zeroValue140
 t28:=Tryz.underlying141
 a28:=Tryz.isAgg141
 z28:=Tryz.sizeOf141
 v28:=Tryz.zeroValue141
 t33:=Tryz.underlying147
 a33:=Tryz.isAgg147
 z33:=Tryz.sizeOf147
 v33:=Tryz.zeroValue147}
theorem qo:KeysOf Tryz.prog 45 81 135:=λmb W=>(callsIn_wide (n:=5)).1 (Go.Proofs.AnyZI.keys_in Tryz.xb Fence.wide 5 trivial rfl mb W)
theorem R0:HE Tryz.prog 44 81 3 3:=by
 refine⟨λb nn D Bm w hBm hm hown hsz=> ?_,λBm w hBm hm=> ?_⟩
 ·have hseq:SeqGives Fence.wide 2 Tryz.prog 81 #[.pointer (some ⟨Bm,0,none⟩)] encZ (λss=>ss.Perm (intKeys D)) (Maps.size D) w:=Go.Proofs.AnyZI.keys_gives (ρ:=Tryz.wH) {Tryz.xb with} Fence.wide _ trivial rfl (by omega) Bm b nn D w hBm hm hown;have h:=Go.Proofs.AnyZI.sorted_in Tryz.uq Fence.wide 5 trivial trivial trivial trivial rfl (by omega) (H5 _) Tryz.call80 81 #[.pointer (some ⟨Bm,0,none⟩)] trivial Tryz.call81 _ _ (Nat.le_trans hsz (by unfold maxLen;omega)) (by omega) _ hseq;exact(callsIn_wide (n:=5)).1 h
 ·have hseq:SeqGives Fence.wide 2 Tryz.prog 81 #[.pointer (some ⟨Bm,0,none⟩)] encZ (λss:List Int=>ss=[]) 0 w:=Go.Proofs.AnyZI.keys_gives_nil (ρ:=Tryz.wH) {Tryz.xb with} Fence.wide _ trivial rfl Bm w hBm hm;have h:=Go.Proofs.AnyZI.sorted_in Tryz.uq Fence.wide 5 trivial trivial trivial trivial rfl (by omega) (H5 _) Tryz.call80 81 #[.pointer (some ⟨Bm,0,none⟩)] trivial Tryz.call81 _ 0 (Nat.zero_le _) (by omega) _ hseq;refine((callsIn_wide (n:=5)).1 h).mono ?_;rintro e w' ⟨v,ss,rfl,rfl,hrow,hnil,hb⟩;obtain rfl:v= .slice none 0 0:=hnil.2 rfl;exact⟨rfl,hb⟩
def Tryz.u7:Go.Shelf.Ren:=⟨fun | 7=>147 | 10=>174 | n=>n,fun | 23=>136 | 26=>3 | 3=>4 | 28=>141 | 0=>0 | 27=>140 | 33=>147 | 4=>4 | n=>n,fun | n=>n⟩
theorem Tryz.xC:Go.Proofs.SlLaysZI.n7 Tryz.prog Tryz.u7:={
 mixed:=by kernel_rfl
 f7:=⟨Tryz.f147.name,by decide,Tryz.func147.trans (congrArg some (by kernel_rfl))⟩
 f10:=⟨Tryz.f174.name,by decide,Tryz.func174.trans (congrArg some (by kernel_rfl))⟩
 t0:=Tryz.underlying0
 a0:=Tryz.isAgg0
 z0:=Tryz.sizeOf0
 v0:=Tryz.zeroValue0
 t4:=Tryz.underlying4
 a4:=Tryz.isAgg4
 z4:=Tryz.sizeOf4
 v4:=Tryz.zeroValue4
 t23:=Tryz.underlying136
 a23:=Tryz.isAgg136
 z23:=Tryz.sizeOf136
 v23:=Tryz.zeroValue136
 t26:=Tryz.underlying3
 a26:=Tryz.isAgg3
 z26:=Tryz.sizeOf3
 v26:=Tryz.zeroValue3
 t27:=Tryz.underlying140
 a27:=Tryz.isAgg140
 z27:=Tryz.sizeOf140
 v27:=Tryz.zeroValue140
 t28:=Tryz.underlying141
 a28:=Tryz.isAgg141
 z28:=Tryz.sizeOf141
 v28:=Tryz.zeroValue141
 t33:=Tryz.underlying147
 a33:=Tryz.isAgg147
 z33:=Tryz.sizeOf147
 v33:=Tryz.zeroValue147}
theorem ID:KeysOf Tryz.prog 147 174 136:=λmb W=>(callsIn_wide (n:=5)).1 (Go.Proofs.AnyZI.keys_in Tryz.xC Fence.wide 5 trivial rfl mb W)
theorem PH:HE Tryz.prog 44 174 3 3:=by
 refine⟨λb nn D Bm w hBm hm hown hsz=> ?_,λBm w hBm hm=> ?_⟩
 ·have hseq:SeqGives Fence.wide 2 Tryz.prog 174 #[.pointer (some ⟨Bm,0,none⟩)] encZ (λss=>ss.Perm (intKeys D)) (Maps.size D) w:=Go.Proofs.AnyZI.keys_gives (ρ:=Tryz.u7) {Tryz.xC with} Fence.wide _ trivial rfl (by omega) Bm b nn D w hBm hm hown;have h:=Go.Proofs.AnyZI.sorted_in Tryz.uq Fence.wide 5 trivial trivial trivial trivial rfl (by omega) (H5 _) Tryz.call80 174 #[.pointer (some ⟨Bm,0,none⟩)] trivial Tryz.call174 _ _ (Nat.le_trans hsz (by unfold maxLen;omega)) (by omega) _ hseq;exact(callsIn_wide (n:=5)).1 h
 ·have hseq:SeqGives Fence.wide 2 Tryz.prog 174 #[.pointer (some ⟨Bm,0,none⟩)] encZ (λss:List Int=>ss=[]) 0 w:=Go.Proofs.AnyZI.keys_gives_nil (ρ:=Tryz.u7) {Tryz.xC with} Fence.wide _ trivial rfl Bm w hBm hm;have h:=Go.Proofs.AnyZI.sorted_in Tryz.uq Fence.wide 5 trivial trivial trivial trivial rfl (by omega) (H5 _) Tryz.call80 174 #[.pointer (some ⟨Bm,0,none⟩)] trivial Tryz.call174 _ 0 (Nat.zero_le _) (by omega) _ hseq;refine((callsIn_wide (n:=5)).1 h).mono ?_;rintro e w' ⟨v,ss,rfl,rfl,hrow,hnil,hb⟩;obtain rfl:v= .slice none 0 0:=hnil.2 rfl;exact⟨rfl,hb⟩
abbrev KT:=List (List (Int×QB))
abbrev Q7:=List (List (Int×Bool))
abbrev KY:=List (List (Int×(Option Nat)))
abbrev yP(U:YC)(F:Fz)(p:FuncId)(c:List Value×List Value)(M:(((List ZJ)×(Option Nat)×Int×Int)->Option (Out Zz ((List ZJ))))):Prop:=Bt Tryz.prog UW F p c (fun(x:((List ZJ)×(Option Nat)×Int×Int)) F vs=>∃(p0:Option Addr) (k0:Unit),vs=[(.pointer p0),(vI x.2.2.1),(vI x.2.2.2)]/\Qu U.g122 F p0 x.2.1) (λF (x:((List ZJ)×(Option Nat)×Int×Int))=>[Zn U F x.1]) (fun(r:(List ZJ)) _ v=>v= .tuple #[]) (λF (x:((List ZJ)×(Option Nat)×Int×Int)) (r:(List ZJ))=>[Zn U F r]) M
abbrev DU(U:YC)(F:Fz)(p:FuncId)(c:List Value×List Value)(M:(((List QG)×(List QU)×(List (List (Int×Bool)))×(List (List (Int×(Option Nat))))×(Option Nat)×QF)->Option (Out ZR ((List QG)×(List (List (Int×Bool)))×(List (List (Int×(Option Nat)))))))):Prop:=Bt Tryz.prog VK F p c (fun(x:((List QG)×(List QU)×(List (List (Int×Bool)))×(List (List (Int×(Option Nat))))×(Option Nat)×QF)) F vs=>∃(p0:Option Addr) (k0:Unit),vs=[(.pointer p0),(KC x.2.2.2.2.2)]/\Qu U.g177 F p0 x.2.2.2.2.1) (λF (x:((List QG)×(List QU)×(List (List (Int×Bool)))×(List (List (Int×(Option Nat))))×(Option Nat)×QF))=>[Qc U F x.1,Qm U F x.2.1,QQ U F x.2.2.1,Qn U F x.2.2.2.1]) (fun(r:(List QG)×(List (List (Int×Bool)))×(List (List (Int×(Option Nat))))) _ v=>v= .tuple #[]) (λF (x:((List QG)×(List QU)×(List (List (Int×Bool)))×(List (List (Int×(Option Nat))))×(Option Nat)×QF)) (r:(List QG)×(List (List (Int×Bool)))×(List (List (Int×(Option Nat)))))=>[Qc U F r.1,Qm U F x.2.1,QQ U F r.2.1,Qn U F r.2.2]) M
abbrev HG(U:YC)(F:Fz)(p:FuncId)(c:List Value×List Value)(M:(((List QC)×(List (List (Int×QB)))×(List (List (Int×Bool)))×QH)->Option (Out ZX ((List QC)×(List (List (Int×QB)))×(List (List (Int×Bool))))))):Prop:=Bt Tryz.prog UU F p c (fun(x:((List QC)×(List (List (Int×QB)))×(List (List (Int×Bool)))×QH)) _ vs=>vs=[(KB x.2.2.2)]) (λF (x:((List QC)×(List (List (Int×QB)))×(List (List (Int×Bool)))×QH))=>[ZD U F x.1,Zq U F x.2.1,QQ U F x.2.2.1]) (fun(r:(List QC)×(List (List (Int×QB)))×(List (List (Int×Bool)))) _ v=>v= .tuple #[]) (λF (x:((List QC)×(List (List (Int×QB)))×(List (List (Int×Bool)))×QH)) (r:(List QC)×(List (List (Int×QB)))×(List (List (Int×Bool))))=>[ZD U F r.1,Zq U F r.2.1,QQ U F r.2.2]) M
end
section
open Go.Dec Go.Proofs.Tryz Go.Shelf Go.RowKit Go.Maps Go.Sort
set_option maxRecDepth 100000
set_option maxHeartbeats 4000000
def Uw{σ:Type}(y:(Int×(List QA))->σ->Option (σ×Bool))(b:(List QA))(d:Int)(a:Int×σ):Option (JM (Int×σ) ((σ) ⊕ (σ))):=
 if(decide (a.1 < (b.length:Int))) then((Ke b a.1 (KF (b.length:Int) (Qy (a.1+d)))).bind λe=>(y (a.1,e) a.2).bind λc=>if(!c.2) then(some (.done (.inr c.1))) else(QL (Qy (a.1+d)) λf=>some (.next (f,c.1)))) else(some (.done (.inl a.2)))
def Vi{σ:Type}(y:(Int×(List QA))->σ->Option (σ×Bool))(b:(List QA))(c:Int)(d:σ):Option σ:=
 (Qk (Uw y b c) (0,d)).bind λe=>match e with | .inl a=>(some a) | .inr a=>(some a)
theorem FE(F0:Fz)(σ:Type)(ly:Nat)(Y:σ->Fz->HP)(y:(Int×(List QA))->σ->Option (σ×Bool))(hy:VN prog ly F0 (fun(x:(Int×(List QA))) F vs=>∃(D:Option Addr) (E:Nat),vs=[(vI x.1),(vS D x.2 E)]/\QI 2 Qe F D E x.2) Y y)(u:(List QA))(v:Nat)(G:Option Addr)(H:Nat)(z:F0.mem v=some (.cells #[(vS G u H)] 35))(N:QI 2 Qe F0 G H u)(I:Int)(A:Nat)(K:F0.mem A=some (.cells #[(vI I)] 3))(L:σ):CT prog 53 #[(.func (.yield ly) #[] #[]),(vP v 0),(vP A 0)] F0 (Y L F0) (Vi y u I L) (λ_ _ _=>True) (λs' F' _=>Y s' F'):=by
 refine CT.enter func53 J ntmps53 J λr R=> ?_;unfold Vi;refine .q (.g (.s J J (.n (.c (.k (.j (.p [0,1,2,4] J) (.loop (fun(B:Int×σ) a w=>∃(f:Fz),F0<=f/\Hd 25 [] [(0,(.func (.yield ly) #[] #[])),(1,(vP v 0)),(2,(vP A 0)),(4,(vI B.1))] f [Y B.2 f,R] a w) (λP e a w=>match P with | .inl d=>e= .exit 0/\∃(l:Fz),F0<=l/\Hd 25 [] [] l [Y d l,R] a w | .inr d=>e= .ret/\∃(o:Fz),F0<=o/\Hd 25 [] [] o [Y d o,R] a w) ?_ ?_ ?_)))))))
 ·exact λa w h=>⟨F0,Fz.r,h.1.sub (.k J),h.2⟩
 ·intro B ctl;refine GC.ex (λa w ⟨f,b,hA⟩=>⟨_,hA,?_⟩);unfold Uw;refine .q (.q (.g (.m J J (.J J zf J (b.mem _ _ z) J (.uH J J Dz J (.lss J J J (.n (.c (.i J (λQ=> ?_) (λQ=> ?_))))))))))
  ·refine .skip (.c (.q (.k (.q (.g (.m J J (.m J J (.J J zf J (b.mem _ _ z) J (.m J J (.J J zf J (b.mem _ _ z) J (.uH J J Dz J (.m J J (.J J V3 J (b.mem _ _ K) J (.add J J J (.min2 J J J (.wk J Dz DT (N.mono b) J J J (λaA S T aB V=>.xR J hy J J ⟨S,T,J,V⟩ (i:=0) J b Fz.r (λaC M aD C=>.not J J (.n (.c (.i J (λW=> ?_) (λW=> ?_))))))))))))))))))))))
   ·refine .uY (QZ.ret λa w h=>⟨J,M,(Fz.t b C),h.1.sub (.k J),h.2⟩)
   ·refine .skip (.k (.c (.g (.m J J (.J J V3 J ((Fz.t b C).mem _ _ K) J (.add J J J (.uN J J (λaE aF=>.n ?_))))))));exact .n (QZ.norm λa w h=>⟨M,(Fz.t b C),h.1.sub (.k J),h.2⟩)
  ·refine .uB J (QZ.exit λa w h=>⟨J,f,b,h.1.sub (.k J),h.2⟩)
 ·intro d aG hk e a w hD;rcases d with d | d
  ·obtain⟨rfl,l,X,hA⟩:=hD;refine QX J (GE.app ?_ hk a w hA);exact .fU results53 .n (i:=0) J (j:=0) J X trivial
  obtain⟨rfl,o,Z,hA⟩:=hD;exact KR ((Xv results53 .n (i:=0) J (j:=0) J Z trivial) hk a w hA)
def Wb(c1:(List QA))(c7:Int):Option (List (Int×(List QA))):=Ww c1 c7
theorem GI{σ:Type}{y:(Int×(List QA))->σ->Option (σ×Bool)}{c1:(List QA)}{c7:Int}{l:List (Int×(List QA))}{s r:σ}(hl:Wb c1 c7=some l)(hr:Vw y l s=some r):Vi y c1 c7 s=some r:=
 SD (y:=y) hl hr
def Zh{σ:Type}(y:ON->σ->Option (σ×Bool))(d:KY)(e:QU)(c:(List Int))(a:Int×σ):Option (JM (Int×σ) ((σ) ⊕ (σ))):=
 if(decide (a.1 < (c.length:Int))) then((Zi c a.1).bind λf=>(e.casks).bind λg=>(d[g]?).bind λh=>(y ((Q5 h f).getD none) a.2).bind λb=>if(!b.2) then(some (.done (.inr b.1))) else(some (.next ((Qy (a.1+1)),b.1)))) else(some (.done (.inl a.2)))
def Yl{σ:Type}(y:ON->σ->Option (σ×Bool))(A1:List QU)(b:KY)(c3:ON)(d:σ):Option σ:=
 c3.bind λi9=>(A1[i9]?).bind λc=>(VJ b c.casks).bind λe=>(Qk (Zh y b c e) (0,d)).bind λf=>match f with | .inl a=>(some a) | .inr a=>(some a)
theorem Fc(F0:Fz)(U:YC)(σ:Type)(ly:Nat)(Y:σ->Fz->HP)(y:ON->σ->Option (σ×Bool))(hy:VN prog ly F0 (fun(x:ON) F vs=>∃(T:Option Addr) (k0:Unit),vs=[(.pointer T)]/\Qu U.g188 F T x) Y y)(A1:List QU)(u:KY)(c3:ON)(G:Nat)(V:Option Addr)(k7:Unit)(W:F0.mem G=some (.cells #[(.pointer V)] 124))(h8:Qu U.g177 F0 V c3)(H:σ):Ff prog 71 #[(.func (.yield ly) #[] #[]),(vP G 0)] F0 [Qm U F0 A1,Qn U F0 u,Y H F0] (Yl y A1 u c3 H) (λ_ _ _=>True) (λs' F' =>[Qm U F' A1,Qn U F' u,Y s' F']):=by
 refine Ff.enter func71 J ntmps71 J λr R=> ?_;refine .o (Sub.refl _) (J:_=[Qm U F0 A1,Qn U F0 u,Y H F0,R]) ?_;unfold Yl;refine .q (.g (.J J Pe J W J (.d (λi9 aG=> ?_))));obtain⟨ag,X,Z⟩:=h8.at aG;refine .R Z J J (.f J T6 J Ec J (.d (λaA aB=>.vy (Φ:=λv=>∃(I:Option Nat) (aH:Unit),v=(.map I)/\Zf U.g175 F0 I aA.casks) 0 J Fz.r X aB J Ee J (λvs ⟨K,L,h,M⟩=>⟨_,by subst h;exact J,K,L,J,M⟩) (λv hv=> ?_))));obtain⟨I,aH,rfl,aI⟩:=hv;refine .gB qn J call72 J J (λah ai b aJ=>.wt U3 PI (c:=(Ex (QR .i64))) (λ_ _=>J) (aJ) 1 J (aI.mono b) J call44 J J (λaC C aK aL aj j aM=>.uH J J HK J (.m J J (.n (.c (.k (.j (.p [0,1,10,11,12] J) (.dL 2 hy J Fz.r (Fz.t b j) (.loop (fun(N:Int×σ) a w=>∃(B:Fz),C<=B/\Hd 26 [] [(0,(.func (.yield ly) #[] #[])),(1,(vP G 0)),(10,(vS aK aC aL)),(11,(vI (aC.length:Int))),(12,(vI N.1))] B [Qm U F0 A1,Qn U F0 u,Y N.2 B,R] a w) (λb0 e a w=>match b0 with | .inl A=>e= .exit 0/\∃(D:Fz),C<=D/\Hd 26 [] [] D [Qm U F0 A1,Qn U F0 u,Y A D,R] a w | .inr A=>e= .ret/\∃(E:Fz),C<=E/\Hd 26 [] [] E [Qm U F0 A1,Qn U F0 u,Y A E,R] a w) ?_ ?_ ?_)))))))))
 ·exact λa w h=>⟨C,Fz.r,h.1.sub (.k J),h.2⟩
 ·intro N ctl;refine GC.ex (λa w ⟨B,l,hA⟩=>⟨_,hA,?_⟩);unfold Zh;refine .q (.g (.lss J J J (.n (.c (.q (.i J (λaO=> ?_) (λaO=> ?_)))))))
  ·refine .skip (.c (.q (.k (.q (.g (.idx J HK W3 (aM.mono l) J J (λaP ak al an ao aq ar aQ aR=>.J J V3 J aQ (Qh (k:=0) aR J) (.s J J (.n (.c (.q (.g (.m J J (.J J Pe J ((Fz.t b (Fz.t j l)).mem _ _ W) J (.R Z J J (.f J T6 J Ec J (.vy (Φ:=λv=>∃(P:Option Nat) (aS:Unit),v=(.map P)/\Zf U.g175 B P aA.casks) 0 J (Fz.t b (Fz.t j l)) (X.mono (Fz.t b (Fz.t j l))) aB J Ee J (λvs ⟨K,L,h,M⟩=>⟨_,by subst h;exact J,K,L,J,M⟩) (λv hv=> ?_))))))))))))))))));obtain⟨P,aS,rfl,aU⟩:=hv;refine .m J J (.d (λau aV=> ?_));obtain⟨av,aW,aX⟩:=aU.at aV;refine .d (λaw aY=>.wB (key:=aP) (z:=none) 1 J (Fz.t b (Fz.t j l)) aW aX aY J Iw (.int U3) jg ⟨none,(),J,Qu.nil⟩ J J ?_);intro v hv;obtain⟨aZ,aa,rfl,ab⟩:=hv;refine .xR J hy J J ⟨aZ,aa,J,ab⟩ (i:=2) J (Fz.t b (Fz.t j l)) Fz.r (λax aD ay aE=>.not J J (.n (.c (.i J (λad=> ?_) (λad=> ?_)))))
   ·refine .uY (QZ.ret λa w h=>⟨J,aD,(Fz.t l aE),h.1.sub (.k J),h.2⟩)
   ·refine .skip (.k (.c (.g (.add J J J (.m J J (.n ?_))))));exact .n (QZ.norm λa w h=>⟨aD,(Fz.t l aE),h.1.sub (.k J),h.2⟩)
  ·refine .uB J (QZ.exit λa w h=>⟨J,B,l,h.1.sub (.k J),h.2⟩)
 ·intro A az hk e a w hD;rcases A with A | A
  ·obtain⟨rfl,D,Q,hA⟩:=hD;refine QX J (GE.app ?_ hk a w hA);refine .uL 0 (Zu U) (Fz.t b (Fz.t j Q)) J (.uL 1 (Z4 U) (Fz.t b (Fz.t j Q)) J ?_);exact .wh [0,0,0,0] results71 .nil J (Fz.t b (Fz.t j Q)) trivial
  obtain⟨rfl,E,S,hA⟩:=hD;exact KR ((λe a w h=>Db [0,0,0,0] results71 .nil J (Fz.t b (Fz.t j S)) trivial e a w (Hd.uL 1 (Z4 U) (Fz.t b (Fz.t j S)) J (Hd.uL 0 (Zu U) (Fz.t b (Fz.t j S)) J h))) hk a w hA)
def Ju(A1:List QU)(A2:List (List (Int×Option Nat)))(c:Option Nat):Option (List (Option Nat)):=
 c.bind λi=>(A1[i]?).bind λb=>(b.casks).bind λj=>(A2[j]?).bind λl=>(GH l).bind λks=>some (ks.map λk=>(Q5 l k).getD none)
theorem Sr{σ:Type}{y:Option Nat->σ->Option (σ×Bool)}{A2:List (List (Int×Option Nat))}{x:QU}{j:Nat}{l:List (Int×Option Nat)}{ks:List Int}(hj:x.casks=some j)(hl:A2[j]? =some l)(hn:ks.length<=1000000):∀(d k:Nat) (s r:σ),k+d=ks.length->Vw y ((ks.drop k).map λk=>(Q5 l k).getD none) s=some r->
  Qk (Zh y A2 x ks) ((k:Int),s)=some (.inl r)∨Qk (Zh y A2 x ks) ((k:Int),s)=some (.inr r)
 | 0,k,s,r,hk,h=>by
  rw[List.drop_eq_nil_of_le (by omega)] at h
  simp only[List.map_nil,Vw,Option.some.injEq] at h
  subst h;left;rw[Q9];have:¬k < ks.length:=by omega
  simp[Zh,this]
 | d+1,k,s,r,hk,h=>by
  have hkl:k < ks.length:=by omega
  have hw:Qy ((k:Int)+1)=((k+1:Nat):Int):=by rw[Q8 (by omega) (by omega)];rfl
  rw[List.drop_eq_getElem_cons hkl] at h
  have hi:Zi ks (k:Int)=some ks[k]:=by simp[Zi,hkl]
  simp only[List.map_cons,Vw] at h
  rw[Q9];cases hy:y ((Q5 l ks[k]).getD none) s with
  | none=>rw[hy] at h;cases h
  | some p=>
   rw[hy] at h
   simp only[Option.bind_some] at h
   by_cases hp:p.2=true
   ·rw[if_pos hp] at h
    have:=Sr hj hl hn d (k+1) p.1 r (by omega) h;simpa[Zh,hkl,hi,hj,hl,hy,hp,hw] using this
   ·rw[if_neg hp] at h
    simp only[Option.some.injEq] at h
    right;simp[Zh,hkl,hi,hj,hl,hy,hp,h]
theorem Gx{σ:Type}{y:Option Nat->σ->Option (σ×Bool)}{A1:List QU}{A2:List (List (Int×Option Nat))}{c:Option Nat}{l:List (Option Nat)}{s r:σ}(hl:Ju A1 A2 c=some l)(hr:Vw y l s=some r):Yl y A1 A2 c s=some r:=by
 simp only[Ju,Option.bind_eq_some_iff] at hl
 obtain⟨i,hi,b,hb,j,hj,m,hm,ks,hks,hl⟩:=hl;simp only[Option.some.injEq] at hl
 subst hl
 have hn:ks.length<=1000000:=by
  unfold GH at hks
  split at hks
  ·rename_i h;simp only[Option.some.injEq] at hks
   rw[<-hks];simpa using h.2
  ·cases hks
 have hs:VJ A2 b.casks=some ks:=by simp[VJ,hj,hm,hks]
 unfold Yl;rw[hi,Option.bind_some,hb,Option.bind_some,hs,Option.bind_some];rcases Sr (y:=y) hj hm hn ks.length 0 s r (by omega) (by simpa using hr) with e | e
 ·have e' :Qk (Zh y A2 b ks) (0,s)=some (.inl r):=e;rw[e'];rfl
 ·have e' :Qk (Zh y A2 b ks) (0,s)=some (.inr r):=e;rw[e'];rfl
def Wf{σ:Type}(y:(Int×(List (Nat->Int)))->σ->Option (σ×Bool))(b:(List (Nat->Int)))(d:Int)(a:Int×σ):Option (JM (Int×σ) ((σ) ⊕ (σ))):=
 if(decide (a.1 < (b.length:Int))) then((Ke b a.1 (KF (b.length:Int) (Qy (a.1+d)))).bind λe=>(y (a.1,e) a.2).bind λc=>if(!c.2) then(some (.done (.inr c.1))) else(QL (Qy (a.1+d)) λf=>some (.next (f,c.1)))) else(some (.done (.inl a.2)))
def Ui{σ:Type}(y:(Int×(List (Nat->Int)))->σ->Option (σ×Bool))(b:(List (Nat->Int)))(c:Int)(d:σ):Option σ:=
 (Qk (Wf y b c) (0,d)).bind λe=>match e with | .inl a=>(some a) | .inr a=>(some a)
theorem D5(F0:Fz)(σ:Type)(ly:Nat)(Y:σ->Fz->HP)(y:(Int×(List (Nat->Int)))->σ->Option (σ×Bool))(hy:VN prog ly F0 (fun(x:(Int×(List (Nat->Int)))) F vs=>∃(D:Option Addr) (E:Nat),vs=[(vI x.1),(vS D x.2 E)]/\QI 96 (Ex (Qt 96 (QR .u8))) F D E x.2) Y y)(u:(List (Nat->Int)))(v:Nat)(G:Option Addr)(H:Nat)(z:F0.mem v=some (.cells #[(vS G u H)] 92))(N:QI 96 (Ex (Qt 96 (QR .u8))) F0 G H u)(I:Int)(A:Nat)(K:F0.mem A=some (.cells #[(vI I)] 3))(L:σ):CT prog 58 #[(.func (.yield ly) #[] #[]),(vP v 0),(vP A 0)] F0 (Y L F0) (Ui y u I L) (λ_ _ _=>True) (λs' F' _=>Y s' F'):=by
 refine CT.enter func58 J ntmps58 J λr R=> ?_;unfold Ui;refine .q (.g (.s J J (.n (.c (.k (.j (.p [0,1,2,4] J) (.loop (fun(B:Int×σ) a w=>∃(f:Fz),F0<=f/\Hd 25 [] [(0,(.func (.yield ly) #[] #[])),(1,(vP v 0)),(2,(vP A 0)),(4,(vI B.1))] f [Y B.2 f,R] a w) (λP e a w=>match P with | .inl d=>e= .exit 0/\∃(l:Fz),F0<=l/\Hd 25 [] [] l [Y d l,R] a w | .inr d=>e= .ret/\∃(o:Fz),F0<=o/\Hd 25 [] [] o [Y d o,R] a w) ?_ ?_ ?_)))))))
 ·exact λa w h=>⟨F0,Fz.r,h.1.sub (.k J),h.2⟩
 ·intro B ctl;refine GC.ex (λa w ⟨f,b,hA⟩=>⟨_,hA,?_⟩);unfold Wf;refine .q (.q (.g (.m J J (.J J vL J (b.mem _ _ z) J (.uH J J PD J (.lss J J J (.n (.c (.i J (λQ=> ?_) (λQ=> ?_))))))))))
  ·refine .skip (.c (.q (.k (.q (.g (.m J J (.m J J (.J J vL J (b.mem _ _ z) J (.m J J (.J J vL J (b.mem _ _ z) J (.uH J J PD J (.m J J (.J J V3 J (b.mem _ _ K) J (.add J J J (.min2 J J J (.wk J PD SY (N.mono b) J J J (λaA S T aB V=>.xR J hy J J ⟨S,T,J,V⟩ (i:=0) J b Fz.r (λaC M aD C=>.not J J (.n (.c (.i J (λW=> ?_) (λW=> ?_))))))))))))))))))))))
   ·refine .uY (QZ.ret λa w h=>⟨J,M,(Fz.t b C),h.1.sub (.k J),h.2⟩)
   ·refine .skip (.k (.c (.g (.m J J (.J J V3 J ((Fz.t b C).mem _ _ K) J (.add J J J (.uN J J (λaE aF=>.n ?_))))))));exact .n (QZ.norm λa w h=>⟨M,(Fz.t b C),h.1.sub (.k J),h.2⟩)
  ·refine .uB J (QZ.exit λa w h=>⟨J,f,b,h.1.sub (.k J),h.2⟩)
 ·intro d aG hk e a w hD;rcases d with d | d
  ·obtain⟨rfl,l,X,hA⟩:=hD;refine QX J (GE.app ?_ hk a w hA);exact .fU results58 .n (i:=0) J (j:=0) J X trivial
  obtain⟨rfl,o,Z,hA⟩:=hD;exact KR ((Xv results58 .n (i:=0) J (j:=0) J Z trivial) hk a w hA)
def XZ(c1:(List (Nat->Int)))(c7:Int):Option (List (Int×(List (Nat->Int)))):=Ww c1 c7
theorem DD{σ:Type}{y:(Int×(List (Nat->Int)))->σ->Option (σ×Bool)}{c1:(List (Nat->Int))}{c7:Int}{l:List (Int×(List (Nat->Int)))}{s r:σ}(hl:XZ c1 c7=some l)(hr:Vw y l s=some r):Ui y c1 c7 s=some r:=
 SD (y:=y) hl hr
def JG(A1:List QC)(a:ON)(b:QB):Option (Int):=
 a.bind λc=>(A1[c]?).bind λd=>some (Qy ((Qy (b.Sent+d.rules.Transit))+1))
theorem XG(F0:Fz)(U:YC)(A1:List QC)(e:ON)(i:Option Addr)(y:Unit)(j:Qu U.g138 F0 i e)(b:QB):Ff prog 127 #[(.pointer i),(Ku b)] F0 [ZD U F0 A1] (JG A1 e b) (λr _ v=>v=(vI r)) (λr F' =>[ZD U F' A1]):=by
 refine Ff.enter func127 J ntmps127 J λr R=> ?_;refine .o (Sub.refl _) (J:_=[ZD U F0 A1,R]) ?_;unfold JG;refine .q (.g (.uQ (cs:=(Qq b)) J J J (λz A a k=>.s J J (.n (.c (.q (.j (.p [0,3] J) (.uT 10 Qb (by kernel_rfl) (.f J Eh J W3 J (.J J V3 J k J (.m J J (.d (λB l=> ?_)))))))))))));obtain⟨C,t,u⟩:=(j.mono a).at l;refine .R u J J (.f J Jm J Eb J (.f J Eg J W3 J (.d (λw x=>.vy (Φ:=λv=>v=(vI w.rules.Transit)) 0 J a t x J V3 J (λvs ⟨D,E,F,G,H,I,K,L,h,M,N,P,Q⟩=>⟨_,by subst h;exact J,J⟩) (λv hv=> ?_)))));subst hv;refine .add J J J (.add J J J (.s J J (.ub (.n (.c (.uL 0 (K0 U) a J ?_))))));exact .fG [0,0] results127 (.tmp J (.nil)) J a J
def Zl(A1:List QC)(A3:Q7)(c4:ON)(c:Int)(d:(Int×QB))(a:Q7):Option (Q7):=
 ((JG A1 c4 d.2).bind λb=>(if(decide (b<=c)) then((a[A3.length]?).bind λe=>QL (List.set a A3.length (ZL e b true)) λf=>some f) else(some a):Option (Q7)).bind λg=>some g:Option (Q7)).bind λh=>some h
def ZZ{σ:Type}(y:Int->σ->Option (σ×Bool))(c:(List Int))(a:Int×σ):Option (JM (Int×σ) ((σ) ⊕ (σ))):=
 if(decide (a.1 < (c.length:Int))) then((Zi c a.1).bind λd=>(y d a.2).bind λb=>if(!b.2) then(some (.done (.inr b.1))) else(some (.next ((Qy (a.1+1)),b.1)))) else(some (.done (.inl a.2)))
def YH{σ:Type}(y:Int->σ->Option (σ×Bool))(upd:List QC×KT×Q7->σ)(A1:List QC)(b:KT)(A3:Q7)(c4:ON)(d:Int):Option σ:=
 QL (A3++[[]]) λe=>c4.bind λi20=>(A1[i20]?).bind λf=>(f.moving).bind λg=>(b[g]?).bind λh=>(FN Co (Zl A1 A3 c4 d) h e).bind λc=>(VJ c (some A3.length)).bind λi=>(Qk (ZZ y i) (0,(upd (A1,b,c)))).bind λj=>match j with | .inl a=>(some a) | .inr a=>(some a)
theorem Gb(F0:Fz)(U:YC)(σ:Type)(ly:Nat)(Y:σ->Fz->HP)(Z:HP)(upd:List QC×KT×Q7->σ)(y:Int->σ->Option (σ×Bool))(hy:VN prog ly F0 (fun(x:Int) _ vs=>vs=[(vI x)]) Y y)(hp:∀(r:List QC×KT×Q7) F',F0<=F'->∀m,QY ([ZD U F' r.1,Zq U F' r.2.1,QQ U F' r.2.2]++[Z]) m->Y (upd r) F' m)(A1:List QC)(u:KT)(A3:Q7)(c4:ON)(N:Nat)(p7:Option Addr)(k8:Unit)(aN:F0.mem N=some (.cells #[(.pointer p7)] 132))(h9:Qu U.g138 F0 p7 c4)(aF:Int)(P:Nat)(ae:F0.mem P=some (.cells #[(vI aF)] 3)):Ff prog 146 #[(.func (.yield ly) #[] #[]),(vP N 0),(vP P 0)] F0 [ZD U F0 A1,Zq U F0 u,QQ U F0 A3,Z] (YH y upd A1 u A3 c4 aF) (λ_ _ _=>True) (λs' F' =>[Y s' F']):=by
 refine Ff.enter func146 J ntmps146 J λr R=> ?_;refine .o (Sub.refl _) (J:_=[ZD U F0 A1,Zq U F0 u,QQ U F0 A3,Z,R]) ?_;unfold YH;refine .q (.g (.uu (λx:Int=>(vI x)) (λ_ (x:Bool) v=>v=(.bool x)) J (λaG=>.uA (λbV af=>.uj 0 2 J J (ZV U) Fz.r (λG m l hm=>U4 (Fz.t Fz.r l) hm) af (λaH j aP=>.s J J (.n (.c (.q (.q (.g (.J J Hz J (j.mem _ _ aN) J (.d (λi20 ag=> ?_)))))))))))));obtain⟨bW,ah,ai⟩:=(h9.mono j).at ag;refine .R ai J J (.f J Jm J LM J (.d (λaj ak=>.vy (Φ:=λv=>∃(aI:Option Nat) (al:Unit),v=(.map aI)/\Zf U.g135 aH aI aj.moving) 0 J j ah ak J LN J (λvs ⟨q0,q1,q2,q3,q4,q5,q6,q7,h,r0,r1,r2,r3⟩=>⟨_,by subst h;exact J,q4,q5,J,r2⟩) (λv hv=> ?_))));obtain⟨aI,al,rfl,ar⟩:=hv;refine .d (λX au=> ?_);obtain⟨C,av,aw⟩:=ar.at au;refine .d (λbh aQ=>.xV 1 J av aw aQ J Ei J (λE ax=>.n (.c (.k (.j (.p [0,1,2,4,15] J) (.uL 1 (K0 U) j J (.xL (B:=0) (b:=(Zl A1 A3 c4 aF)) Co (λaJ F (aK:Q7) a w=>∃(aA:Fz),aH<=aA/\Hd 41 [] [(0,(.func (.yield ly) #[] #[])),(1,(vP N 0)),(2,(vP P 0)),(4,(.map (some aG))),(15,(vP E 0))] aA [Yj (λx:Int=>(vI x)) (λ_ (x:QB) v=>v=(Ku x)) F0 C E aJ F,ZD U aA A1,hole U.g135 (SZ U) F0 X C u,QQ U aA aK,Z,R] a w) J ?_ ?_ ?_ ?_)))))))
 ·exact λa w h=>⟨aH,Fz.r,h.1.sub (.k J),h.2⟩
 ·exact λF bj bk a w hE ⟨ay,az,hA⟩=>⟨ay,az,Hd.dR 3 J hE hA⟩
 ·intro aJ F aK a1;rcases aJ with _ | ⟨y,ys⟩
  ·refine GC.ex (λa w ⟨a6,a7,hA⟩=>⟨_,hA,?_⟩);refine .q (.g (.xY 0 J J J J (.x J J J (.n (.c (.q (.uv J ?_)))))));exact .uB J (XY.over λa w h=>⟨a6,a7,h.1.sub (.k J),h.2⟩)
  ·refine GC.ex (λa w ⟨aR,L,hA⟩=>⟨_,hA,?_⟩);refine .q (.g (.xX 0 J (List.cons_ne_nil _ _) J J J (λz aL bl aS bm=> ?_)));obtain⟨bn,aU⟩:=a1 z (aS.mem_iff.1 (List.mem_cons_self ..));refine .use aU ?_;unfold Zl;refine .x J J J (.n (.c (.q (.uy J (.skip (.c (.j (.p [0,1,2,4,15] J) ?_)))))));refine GC.ua (σ:=Q7) (λaV a w=>∃(M:Fz),aR<=M/\Hd 41 [] [(0,(.func (.yield ly) #[] #[])),(1,(vP N 0)),(2,(vP P 0)),(4,(.map (some aG))),(15,(vP E 0))] M [Yj (λx:Int=>(vI x)) (λ_ (x:QB) v=>v=(Ku x)) F0 C E aL (z::F),ZD U M A1,hole U.g135 (SZ U) F0 X C u,QQ U M aV,Z,R] a w) (λsj=> ?_) (λaV a8=>GE.ex (λa w ⟨M,bA,hA⟩=>⟨_,hA,?_⟩))
   ·refine .k (.q (.g (.xe 0 J J J J (λv hv=> ?_))));obtain rfl:=hv _ (Fz.t j L);refine .x J J J (.l (cs:=(Qq (QB.mk 0 0 0 0 0))) J EZ J (λaW=>.store (cs' :=(Qq z.2)) Pd J J J J (i:=0) J (J6 J) J (QT (by rfl)) (.n (.c (.q (.g (.J J Hz J ((Fz.t j L).mem _ _ aN) J (.uO J kX Pd J (i:=0) J (vs:=(Qq z.2)) (by kernel_rfl) J (.ui [2] J call127 J J J J (XG _ U A1 c4 p7 k8 (h9.mono (Fz.t j L)) z.2) ?_)))))))));rintro bB Q _ bo S rfl;refine .pick [1,1,0,0,0,0,0] (J:_=[pc aW (Qq z.2) 144,Yj (λx:Int=>(vI x)) (λ_ (x:QB) v=>v=(Ku x)) F0 C E aL (z::F),ZD U Q A1,hole U.g135 (SZ U) F0 X C u,QQ U aR aK,Z,R]) (.s J J (.n (.c (.q (.g (.m J J (.J J V3 J ((Fz.t j (Fz.t L S)).mem _ _ ae) J (.leq J J J (.n (.c (.j (.p [0,1,2,4,7,15,25] J) ?_)))))))))));refine GC.ua (σ:=Q7) (λaX a w=>∃(T:Fz),Q<=T/\Hd 41 [] [(0,(.func (.yield ly) #[] #[])),(1,(vP N 0)),(2,(vP P 0)),(4,(.map (some aG))),(15,(vP E 0))] T [pc aW (Qq z.2) 144,Yj (λx:Int=>(vI x)) (λ_ (x:QB) v=>v=(Ku x)) F0 C E aL (z::F),ZD U Q A1,hole U.g135 (SZ U) F0 X C u,QQ U T aX,Z,R] a w) (λsj=> ?_) (λaX a8=>GE.ex (λa w ⟨T,aY,hA⟩=>⟨_,hA,?_⟩))
    ·refine .i J (λbE=> ?_) (λbE=> ?_)
     ·refine .g (.m J J (.m J J (.d (λbp bF=>.uA (λbq bG=>.uw (key:=bB) (val:=true) 4 J S (aP.mono (Fz.t L S)) J bF Iy (.int U3) J J J (λ_ _=>J) bG (.n ?_))))));exact .n λe a w h=>by cases e;exact⟨J,⟨Q,Fz.r,h.1.sub (.k J),h.2⟩⟩
     ·refine .skip (.uL 4 (ZV U) S J ?_);exact .n λe a w h=>by cases e;exact⟨J,⟨Q,Fz.r,h.1.sub (.k J),h.2⟩⟩
    refine .k (.drop 0 (.uL 1 (K0 U) aY J ?_));exact .n λe a w h=>by cases e;exact⟨J,⟨T,(Fz.t S aY),h.1.sub (.k J),h.2⟩⟩
   exact .n (XY.norm aS aU λa w h=>⟨M,(Fz.t L bA),h.1.sub (.k J),h.2⟩)
 ·intro F aB br bH;refine GE.ex (λa w ⟨bt,H,hA⟩=>⟨_,hA,?_⟩);refine .u9 0 1 J J (Fz.t j H) (Fz.t j H) bH ax (Fk aQ) (.c (.q (.g (.m J J (.gB ID J call147 J J (λbu bw D bI=>.wt U3 PH (c:=(Ex (QR .i64))) (λ_ _=>J) (bI) 2 J ((Zf.of aP).mono (Fz.t H D)) J call44 J J (λaZ A bJ bK bx I bL=>.uH J J HK J (.m J J (.n (.c (.uL 0 (K0 U) (Fz.t D I) J (.uL 1 (Jr U) (Fz.t D I) J (.uL 2 (ZV U) (Fz.t D I) J (.fp (Hs:=[ZD U A A1,Zq U A u,QQ U A aB,Z]) (Y:=Y (upd (A1,u,aB)) A) [0,0,0,0] J (hp (A1,u,aB) _ (Fz.t j (Fz.t H (Fz.t D I)))) (.o (Sub.refl _) (J:_=[Y (upd (A1,u,aB)) A,R]) (.k (.j (.p [0,30,31,32] J) (.loop (fun(aM:Int×σ) a w=>∃(V:Fz),A<=V/\Hd 41 [] [(0,(.func (.yield ly) #[] #[])),(30,(vS bJ aZ bK)),(31,(vI (aZ.length:Int))),(32,(vI aM.1))] V [Y aM.2 V,R] a w) (λb0 e a w=>match b0 with | .inl K=>e= .exit 2/\∃(aC:Fz),A<=aC/\Hd 41 [] [] aC [Y K aC,R] a w | .inr K=>e= .ret/\∃(aD:Fz),A<=aD/\Hd 41 [] [] aD [Y K aD,R] a w) ?_ ?_ ?_))))))))))))))))))
  ·exact λa w h=>⟨A,Fz.r,h.1.sub (.k J),h.2⟩
  ·intro aM ctl;refine GC.ex (λa w ⟨V,W,hA⟩=>⟨_,hA,?_⟩);unfold ZZ;refine .q (.g (.lss J J J (.n (.c (.q (.i J (λbO=> ?_) (λbO=> ?_)))))))
   ·refine .skip (.c (.q (.k (.q (.g (.idx J HK W3 (bL.mono W) J J (λbz b1 b2 b3 b4 b6 b7 bP bQ=>.J J V3 J bP (Qh (k:=0) bQ J) (.s J J (.n (.c (.q (.g (.m J J (.m J J (.xR J hy J J J (i:=0) J (Fz.t j (Fz.t H (Fz.t D (Fz.t I W)))) Fz.r (λb8 aa b9 ab=>.not J J (.n (.c (.i J (λbR=> ?_) (λbR=> ?_))))))))))))))))))))
    ·refine .uY (QZ.ret λa w h=>⟨J,aa,(Fz.t W ab),h.1.sub (.k J),h.2⟩)
    ·refine .skip (.k (.c (.g (.add J J J (.m J J (.n ?_))))));exact .n (QZ.norm λa w h=>⟨aa,(Fz.t W ab),h.1.sub (.k J),h.2⟩)
   ·refine .uB J (QZ.exit λa w h=>⟨J,V,W,h.1.sub (.k J),h.2⟩)
  ·intro K cA hk e a w hD;rcases K with K | K
   ·obtain⟨rfl,aC,bT,hA⟩:=hD;refine QX J (GE.app ?_ hk a w hA);exact .wh [0,0] results146 .nil J (Fz.t j (Fz.t H (Fz.t D (Fz.t I bT)))) trivial
   obtain⟨rfl,aD,bU,hA⟩:=hD;exact KR ((Db [0,0] results146 .nil J (Fz.t j (Fz.t H (Fz.t D (Fz.t I bU)))) trivial) hk a w hA)
def JL(A1:List QC)(A2:List (List (Int×QB)))(A3:List (List (Int×Bool)))(c4:Option Nat)(c10:Int):Option ((List QC×List (List (Int×QB))×List (List (Int×Bool)))×List Int):=
 c4.bind λi=>(A1[i]?).bind λx=>(x.moving).bind λj=>(A2[j]?).bind λl=>(FN Co (Zl A1 A3 c4 c10) l (A3++[[]])).bind λR=>(VJ R (some A3.length)).bind λks=>some ((A1,A2,R),ks)
theorem RM{σ:Type}{y:Int->σ->Option (σ×Bool)}{ks:List Int}(hn:ks.length<=1000000):∀(d k:Nat) (s r:σ),k+d=ks.length->Vw y (ks.drop k) s=some r->
  Qk (ZZ y ks) ((k:Int),s)=some (.inl r)∨Qk (ZZ y ks) ((k:Int),s)=some (.inr r)
 | 0,k,s,r,hk,h=>by
  rw[List.drop_eq_nil_of_le (by omega)] at h
  simp only[Vw,Option.some.injEq] at h
  subst h;left;rw[Q9];have:¬k < ks.length:=by omega
  simp[ZZ,this]
 | d+1,k,s,r,hk,h=>by
  have hkl:k < ks.length:=by omega
  have hw:Qy ((k:Int)+1)=((k+1:Nat):Int):=by rw[Q8 (by omega) (by omega)];rfl
  rw[List.drop_eq_getElem_cons hkl] at h
  have hi:Zi ks (k:Int)=some ks[k]:=by simp[Zi,hkl]
  simp only[Vw] at h
  rw[Q9];cases hy:y ks[k] s with
  | none=>rw[hy] at h;cases h
  | some p=>
   rw[hy] at h
   simp only[Option.bind_some] at h
   by_cases hp:p.2=true
   ·rw[if_pos hp] at h
    have:=RM hn d (k+1) p.1 r (by omega) h;simpa[ZZ,hkl,hi,hy,hp,hw] using this
   ·rw[if_neg hp] at h
    simp only[Option.some.injEq] at h
    right;simp[ZZ,hkl,hi,hy,hp,h]
theorem Hv{σ:Type}{y:Int->σ->Option (σ×Bool)}{upd:List QC×List (List (Int×QB))×List (List (Int×Bool))->σ}{A1:List QC}{A2:List (List (Int×QB))}{A3:List (List (Int×Bool))}{c4:Option Nat}{c10:Int}{q:(List QC×List (List (Int×QB))×List (List (Int×Bool)))×List Int}{r:σ}(hl:JL A1 A2 A3 c4 c10=some q)(hr:Vw y q.2 (upd q.1)=some r):YH y upd A1 A2 A3 c4 c10=some r:=by
 simp only[JL,Option.bind_eq_some_iff] at hl
 obtain⟨i,rfl,b,hb,j,hj,l,hm,R,hR,ks,hks,hl⟩:=hl;simp only[Option.some.injEq] at hl
 subst hl
 have hn:ks.length<=1000000:=by
  have h:=hks;simp only[VJ,Option.bind_eq_some_iff] at h
  obtain⟨m,_,h⟩:=h;unfold GH at h
  split at h
  ·rename_i h2;simp only[Option.some.injEq] at h
   rw[<-h];simpa using h2.2
  ·cases h
 simp only[YH,QL,Option.bind_some,hb,hj,hm,hR,hks];rcases RM (y:=y) hn ks.length 0 (upd (A1,A2,R)) r (by omega) (by simpa using hr) with e | e
 ·have e' :Qk (ZZ y ks) (0,upd (A1,A2,R))=some (.inl r):=e;rw[e'];rfl
 ·have e' :Qk (ZZ y ks) (0,upd (A1,A2,R))=some (.inr r):=e;rw[e'];rfl
end
end Go.Proofs.YtnniagcgccfobaaGreatDoor
end
