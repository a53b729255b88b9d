/- For OfficeBonds. -/
import Derived.Test.YtdoocboganbagaaGreatDoorPb4
import Derived.Test.YtdoocboganbagaaGreatDoorProg
import Derived.Shelf.SlMaps.Clone
import Derived.Ground.SlmcProg
import Derived.Shelf.SortM.Plain
import Derived.Shelf.SortM.SortNone
import Derived.Ground.GgzProg
import Derived.Ground.SlgmProg
noncomputable section
namespace Go.Dec
abbrev PP:=@TypeDesc.struct.inj
abbrev sp:=@List.mem_cons_self
abbrev my:=@Go.Proofs.AnyZI.sorted_in
abbrev e0:=@Go.Proofs.AnyZI.keys_gives_nil
abbrev oI:=@Go.Proofs.AnyZI.keys_gives
abbrev oS:=@List.cons_ne_nil
abbrev oT:=@Go.Proofs.AnyZI.keys_in
end Go.Dec
namespace Go.Proofs.YtdoocboganbagaaGreatDoor
section
open Go.Dec Go.Shelf Go.RowKit Go.Maps Go.Sort
variable{S:Q0 (Nat×UV)}{D:Q0 AC}{F F':Fz}{β:Type}{m:K1 β}{hs:Q0 HP}{n:Nat}{g:Gp}{r:β}
theorem Qb:Tryz.prog.follows .mixedOrders=true:=by kernel_rfl
abbrev wK:= @Tryz.underlying106
abbrev kf:= @Tryz.underlying111
abbrev zG:= @Tryz.underlying112
abbrev VV:= @Tryz.underlying114
abbrev ke:= @Tryz.underlying120
abbrev fU:= @Tryz.underlying123
abbrev DG:= @Tryz.underlying142
abbrev PG:= @Tryz.underlying144
abbrev YH:= @Tryz.underlying146
abbrev Gj:= @Tryz.underlying148
abbrev xn:= @Tryz.underlying152
abbrev zF:= @Tryz.underlying154
abbrev RD:= @Tryz.underlying156
abbrev Lh:= @Tryz.underlying157
abbrev DU:= @Tryz.underlying165
abbrev J9:= @Tryz.underlying167
abbrev xm:= @Tryz.underlying170
abbrev dS:= @Tryz.underlying174
abbrev Cx:= @Tryz.underlying198
abbrev ff:= @Tryz.underlying20
abbrev RC:= @Tryz.underlying201
abbrev D4:= @Tryz.underlying211
abbrev y7:= @Tryz.underlying212
abbrev vH:= @Tryz.underlying22
abbrev dR:= @Tryz.underlying222
abbrev Lg:= @Tryz.underlying231
abbrev Gi:= @Tryz.underlying235
abbrev RB:= @Tryz.underlying241
abbrev dQ:= @Tryz.underlying25
abbrev U0:= @Tryz.underlying265
abbrev IX:= @Tryz.underlying267
abbrev wJ:= @Tryz.underlying269
abbrev y6:= @Tryz.underlying27
abbrev dP:= @Tryz.underlying282
abbrev E6:= @Tryz.underlying29
abbrev U3:= @Tryz.underlying3
abbrev wI:= @Tryz.underlying309
abbrev UA:= @Tryz.underlying32
abbrev zP:= @Tryz.underlying34
abbrev zO:= @Tryz.underlying41
abbrev zM:= @Tryz.underlying43
abbrev dN:= @Tryz.underlying45
abbrev Ic:= @Tryz.underlying48
abbrev dw:= @Tryz.underlying49
abbrev U5:= @Tryz.underlying5
abbrev DL:= @Tryz.underlying51
abbrev Ib:= @Tryz.underlying54
abbrev AJ:= @Tryz.underlying56
abbrev bV:= @Tryz.underlying60
abbrev y5:= @Tryz.underlying61
abbrev bj:= @Tryz.underlying62
abbrev y4:= @Tryz.underlying63
abbrev Ht:= @Tryz.underlying65
abbrev vG:= @Tryz.underlying67
abbrev dv:= @Tryz.underlying72
abbrev du:= @Tryz.underlying77
abbrev DT:= @Tryz.underlying80
abbrev D6:= @Tryz.underlying83
abbrev M4:= @Tryz.underlying85
abbrev U9:= @Tryz.underlying9
abbrev wH:= @Tryz.underlying93
abbrev WM:= @Tryz.underlying96
abbrev HN:= @Tryz.underlying99
abbrev Lf:= @Tryz.isAgg100
abbrev D3:= @Tryz.isAgg108
abbrev zE:= @Tryz.isAgg111
abbrev wG:= @Tryz.isAgg112
abbrev dM:= @Tryz.isAgg120
abbrev xk:= @Tryz.isAgg142
abbrev Ld:= @Tryz.isAgg144
abbrev My:= @Tryz.isAgg146
abbrev IW:= @Tryz.isAgg148
abbrev IV:= @Tryz.isAgg154
abbrev y3:= @Tryz.isAgg165
abbrev bU:= @Tryz.isAgg173
abbrev bT:= @Tryz.isAgg174
abbrev kc:= @Tryz.isAgg198
abbrev xj:= @Tryz.isAgg201
abbrev xi:= @Tryz.isAgg211
abbrev wF:= @Tryz.isAgg231
abbrev TW:= @Tryz.isAgg235
abbrev xh:= @Tryz.isAgg241
abbrev zD:= @Tryz.isAgg265
abbrev xg:= @Tryz.isAgg268
abbrev gN:= @Tryz.isAgg27
abbrev bR:= @Tryz.isAgg281
abbrev bQ:= @Tryz.isAgg282
abbrev vF:= @Tryz.isAgg29
abbrev V3:= @Tryz.isAgg3
abbrev vE:= @Tryz.isAgg32
abbrev dt:= @Tryz.isAgg34
abbrev E5:= @Tryz.isAgg37
abbrev V4:= @Tryz.isAgg4
abbrev fc:= @Tryz.isAgg41
abbrev dL:= @Tryz.isAgg43
abbrev dr:= @Tryz.isAgg45
abbrev dq:= @Tryz.isAgg48
abbrev bh:= @Tryz.isAgg49
abbrev V5:= @Tryz.isAgg5
abbrev fb:= @Tryz.isAgg51
abbrev bg:= @Tryz.isAgg54
abbrev xf:= @Tryz.isAgg56
abbrev dp:= @Tryz.isAgg60
abbrev wU:= @Tryz.isAgg61
abbrev dn:= @Tryz.isAgg62
abbrev dm:= @Tryz.isAgg63
abbrev V9:= @Tryz.isAgg9
abbrev dK:= @Tryz.isAgg90
abbrev bx:= @Tryz.isAgg93
abbrev dk:= @Tryz.isAgg96
abbrev xe:= @Tryz.isAgg99
abbrev wE:= @Tryz.sizeOf100
abbrev y2:= @Tryz.sizeOf108
abbrev zB:= @Tryz.sizeOf111
abbrev IU:= @Tryz.sizeOf112
abbrev yz:= @Tryz.sizeOf120
abbrev Lc:= @Tryz.sizeOf142
abbrev R4:= @Tryz.sizeOf144
abbrev Uz:= @Tryz.sizeOf146
abbrev Gh:= @Tryz.sizeOf148
abbrev bP:= @Tryz.sizeOf152
abbrev IT:= @Tryz.sizeOf154
abbrev FO:= @Tryz.sizeOf165
abbrev bO:= @Tryz.sizeOf167
abbrev bN:= @Tryz.sizeOf170
abbrev dJ:= @Tryz.sizeOf173
abbrev fT:= @Tryz.sizeOf174
abbrev Sp:= @Tryz.sizeOf198
abbrev TV:= @Tryz.sizeOf201
abbrev zA:= @Tryz.sizeOf211
abbrev dI:= @Tryz.sizeOf229
abbrev R3:= @Tryz.sizeOf231
abbrev Gg:= @Tryz.sizeOf235
abbrev kb:= @Tryz.sizeOf241
abbrev TU:= @Tryz.sizeOf265
abbrev wD:= @Tryz.sizeOf268
abbrev bM:= @Tryz.sizeOf269
abbrev vD:= @Tryz.sizeOf27
abbrev dH:= @Tryz.sizeOf281
abbrev fS:= @Tryz.sizeOf282
abbrev Mx:= @Tryz.sizeOf29
abbrev W3:= @Tryz.sizeOf3
abbrev wC:= @Tryz.sizeOf32
abbrev gM:= @Tryz.sizeOf34
abbrev zK:= @Tryz.sizeOf37
abbrev W4:= @Tryz.sizeOf4
abbrev wT:= @Tryz.sizeOf41
abbrev xd:= @Tryz.sizeOf43
abbrev bK:= @Tryz.sizeOf45
abbrev E0:= @Tryz.sizeOf48
abbrev di:= @Tryz.sizeOf49
abbrev W5:= @Tryz.sizeOf5
abbrev DK:= @Tryz.sizeOf51
abbrev M3:= @Tryz.sizeOf54
abbrev Ap:= @Tryz.sizeOf56
abbrev fa:= @Tryz.sizeOf60
abbrev vC:= @Tryz.sizeOf61
abbrev fZ:= @Tryz.sizeOf62
abbrev gL:= @Tryz.sizeOf63
abbrev yy:= @Tryz.sizeOf65
abbrev bw:= @Tryz.sizeOf72
abbrev W9:= @Tryz.sizeOf9
abbrev gK:= @Tryz.sizeOf93
abbrev wS:= @Tryz.sizeOf96
abbrev ka:= @Tryz.sizeOf99
abbrev bJ:= @Tryz.zeroValue100
abbrev wB:= @Tryz.zeroValue106
abbrev bI:= @Tryz.zeroValue108
abbrev bH:= @Tryz.zeroValue114
abbrev kZ:= @Tryz.zeroValue120
abbrev yx:= @Tryz.zeroValue142
abbrev Sn:= @Tryz.zeroValue146
abbrev yw:= @Tryz.zeroValue148
abbrev dF:= @Tryz.zeroValue152
abbrev bG:= @Tryz.zeroValue156
abbrev fR:= @Tryz.zeroValue165
abbrev bF:= @Tryz.zeroValue167
abbrev dE:= @Tryz.zeroValue170
abbrev fQ:= @Tryz.zeroValue174
abbrev yv:= @Tryz.zeroValue198
abbrev yu:= @Tryz.zeroValue201
abbrev fP:= @Tryz.zeroValue211
abbrev yt:= @Tryz.zeroValue231
abbrev yr:= @Tryz.zeroValue235
abbrev xc:= @Tryz.zeroValue241
abbrev bE:= @Tryz.zeroValue265
abbrev bD:= @Tryz.zeroValue267
abbrev dD:= @Tryz.zeroValue269
abbrev fO:= @Tryz.zeroValue282
abbrev bC:= @Tryz.zeroValue29
abbrev Y3:= @Tryz.zeroValue3
abbrev dC:= @Tryz.zeroValue34
abbrev bA:= @Tryz.zeroValue37
abbrev Y4:= @Tryz.zeroValue4
abbrev bt:= @Tryz.zeroValue45
abbrev fN:= @Tryz.zeroValue51
abbrev jY:= @Tryz.zeroValue56
abbrev dz:= @Tryz.zeroValue65
abbrev bq:= @Tryz.zeroValue67
abbrev bf:= @Tryz.zeroValue72
abbrev Ez:= @Tryz.zeroValue80
abbrev NK:= @Tryz.zeroValue83
abbrev Y9:= @Tryz.zeroValue9
abbrev dB:= @Tryz.zeroValue93
abbrev wA:= @Tryz.zeroValue96
abbrev fM:= @Tryz.zeroValue99
structure Jl where
 g167:Nat
 g156:Nat
 g114:Nat
 g67:Nat
 g31:Nat
 g111:Nat
 g112:Nat
 g154:Nat
 g65:Nat
 g77:Nat
variable{U:Jl}
structure ZR where
 Number:Int
 Wood:Int
 Place:Int
 Room:Int
 Owner:Int
 Creditor:Int
 Amount:Int
 Age:Int
 Woods:(Nat->Int)
 Places:(Nat->Int)
def Qw(x:ZR):Q0 UV:=[.int .i64 x.Number,.int .i64 x.Wood,.int .i64 x.Place,.int .i64 x.Room,.int .i64 x.Owner,.int .i64 x.Creditor,.int .i64 x.Amount,.int .i64 x.Age,.int .i64<|x.Woods 0,.int .i64<|x.Woods 1,.int .i64<|x.Woods 2,.int .i64<|x.Woods 3,.int .i64<|x.Woods 4,.int .i64<|x.Woods 5,.int .i64<|x.Woods 6,.int .i64<|x.Woods 7,.int .i64<|x.Places 0,.int .i64<|x.Places 1,.int .i64<|x.Places 2,.int .i64<|x.Places 3,.int .i64<|x.Places 4,.int .i64<|x.Places 5,.int .i64<|x.Places 6,.int .i64<|x.Places 7]
def BU(x:ZR):UV:=.agg (Qw x).toArray
theorem Pa:∀a,Tryz.prog.underlying 56=some (.struct a)->Places Tryz.prog a #[(0,1),(1,1),(2,1),(3,1),(4,1),(5,1),(6,1),(7,1),(8,8),(16,8)]:=λa h=>by
 obtain rfl:=PP<|Tc<|Tryz.underlying56.symm.trans h;intro w;kernel_rfl
structure QB where
 Lo:Int
 Hi:Int
def QX(x:QB):Q0 UV:=[.int .i64 x.Lo,.int .i64 x.Hi]
def JZ(x:QB):UV:=.agg (QX x).toArray
theorem HO:∀a,Tryz.prog.underlying 146=some (.struct a)->Places Tryz.prog a #[(0,1),(1,1)]:=λa h=>by
 obtain rfl:=PP<|Tc<|Tryz.underlying146.symm.trans h;intro w;kernel_rfl
structure Qr where
 From:ZR
 Amount:Int
 Strength:QB
def QO(x:Qr):Q0 UV:=[.int .i64 x.From.Number,.int .i64 x.From.Wood,.int .i64 x.From.Place,.int .i64 x.From.Room,.int .i64 x.From.Owner,.int .i64 x.From.Creditor,.int .i64 x.From.Amount,.int .i64 x.From.Age,.int .i64<|x.From.Woods 0,.int .i64<|x.From.Woods 1,.int .i64<|x.From.Woods 2,.int .i64<|x.From.Woods 3,.int .i64<|x.From.Woods 4,.int .i64<|x.From.Woods 5,.int .i64<|x.From.Woods 6,.int .i64<|x.From.Woods 7,.int .i64<|x.From.Places 0,.int .i64<|x.From.Places 1,.int .i64<|x.From.Places 2,.int .i64<|x.From.Places 3,.int .i64<|x.From.Places 4,.int .i64<|x.From.Places 5,.int .i64<|x.From.Places 6,.int .i64<|x.From.Places 7,.int .i64 x.Amount,.int .i64 x.Strength.Lo,.int .i64 x.Strength.Hi]
def VS(x:Qr):UV:=.agg (QO x).toArray
theorem Oc:∀a,Tryz.prog.underlying 198=some (.struct a)->Places Tryz.prog a #[(0,24),(24,1),(25,2)]:=λa h=>by
 obtain rfl:=PP<|Tc<|Tryz.underlying198.symm.trans h;intro w;kernel_rfl
structure QU where
 Draughts:(List Qr)
 Water:Int
 Shrink:QB
 Filtered:Bool
 Coloured:Bool
def ZG(x:QU)(a:K1 C3)(b:Nat):Q0 UV:=[.slice a x.Draughts.length b,.int .i64 x.Water,.int .i64 x.Shrink.Lo,.int .i64 x.Shrink.Hi,.bool x.Filtered,.bool x.Coloured]
def Zv(x:QU)(a:K1 C3)(b:Nat):UV:=.agg (ZG x a b).toArray
theorem zm:∀a,Tryz.prog.underlying 148=some (.struct a)->Places Tryz.prog a #[(0,1),(1,1),(2,2),(4,1),(5,1)]:=λa h=>by
 obtain rfl:=PP<|Tc<|Tryz.underlying148.symm.trans h;intro w;kernel_rfl
structure Zc where
 From:Int
 Rate:Int
def Q6(x:Zc):Q0 UV:=[.int .i64 x.From,.int .i64 x.Rate]
def Tx(x:Zc):UV:=.agg (Q6 x).toArray
theorem Ab:∀a,Tryz.prog.underlying 93=some (.struct a)->Places Tryz.prog a #[(0,1),(1,1)]:=λa h=>by
 obtain rfl:=PP<|Tc<|Tryz.underlying93.symm.trans h;intro w;kernel_rfl
structure Qk where
 Rates:(List Zc)
 Transit:Int
 Loss:Int
 Share:Int
def ZI(x:Qk)(a:K1 C3)(b:Nat):Q0 UV:=[.slice a x.Rates.length b,.int .i64 x.Transit,.int .i64 x.Loss,.int .i64 x.Share]
def Jw(x:Qk)(a:K1 C3)(b:Nat):UV:=.agg (ZI x a b).toArray
def K3:Uo Qk:=λF x vs=>∃a b,vs=ZI x a b/\QG 2 (Ex Q6) F a b x.Rates
theorem C9:∀a,Tryz.prog.underlying 29=some (.struct a)->Places Tryz.prog a #[(0,1),(1,1),(2,1),(3,1)]:=λa h=>by
 obtain rfl:=PP<|Tc<|Tryz.underlying29.symm.trans h;intro w;kernel_rfl
structure QE where
 Kind:Int
 Day:Int
 Cask:Int
 Other:Int
 Person:Int
 To:Int
 Amount:Int
 Where:Int
def QJ(x:QE):Q0 UV:=[.int .i64 x.Kind,.int .i64 x.Day,.int .i64 x.Cask,.int .i64 x.Other,.int .i64 x.Person,.int .i64 x.To,.int .i64 x.Amount,.int .i64 x.Where]
def JO(x:QE):UV:=.agg (QJ x).toArray
theorem Yy:∀a,Tryz.prog.underlying 96=some (.struct a)->Places Tryz.prog a #[(0,1),(1,1),(2,1),(3,1),(4,1),(5,1),(6,1),(7,1)]:=λa h=>by
 obtain rfl:=PP<|Tc<|Tryz.underlying96.symm.trans h;intro w;kernel_rfl
structure QN where
 Kind:Int
 Day:Int
 Bond:Int
 To:Int
 Id:Int
 Amount:Int
def QM(x:QN):Q0 UV:=[.int .i64 x.Kind,.int .i64 x.Day,.int .i64 x.Bond,.int .i64 x.To,.int .i64 x.Id,.int .i64 x.Amount]
def JN(x:QN):UV:=.agg (QM x).toArray
theorem XR:∀a,Tryz.prog.underlying 99=some (.struct a)->Places Tryz.prog a #[(0,1),(1,1),(2,1),(3,1),(4,1),(5,1)]:=λa h=>by
 obtain rfl:=PP<|Tc<|Tryz.underlying99.symm.trans h;intro w;kernel_rfl
structure QH where
 Kind:Int
 First:Int
 Last:Int
 Batch:Int
def QT(x:QH):Q0 UV:=[.int .i64 x.Kind,.int .i64 x.First,.int .i64 x.Last,.int .i64 x.Batch]
def Fv(x:QH):UV:=.agg (QT x).toArray
theorem Gl:∀a,Tryz.prog.underlying 142=some (.struct a)->Places Tryz.prog a #[(0,1),(1,1),(2,1),(3,1)]:=λa h=>by
 obtain rfl:=PP<|Tc<|Tryz.underlying142.symm.trans h;intro w;kernel_rfl
structure QA where
 day:Int
 rules:(Option Qk)
 casks:(List QE)
 duties:(List QN)
 stamps:(List QH)
 batches:(List<|Int×QU)
 pure:(List<|Int×Int)
 ids:Int
variable{L:QA}
def Qi(x:QA)(a:K1 C3)(_:Unit)(b:K1 C3)(c:Nat)(d:K1 C3)(e:Nat)(f:K1 C3)(h:Nat)(i:K1 Nat)(_:Unit)(j:K1 Nat)(_:Unit):Q0 UV:=[.int .i64 x.day,.pointer a,.slice b x.casks.length c,.slice d x.duties.length e,.slice f x.stamps.length h,.map i,.map j,.int .i64 x.ids]
def MX(x:QA)(a:K1 C3)(b:Unit)(c:K1 C3)(d:Nat)(e:K1 C3)(f:Nat)(h:K1 C3)(i:Nat)(j:K1 Nat)(k:Unit)(l:K1 Nat)(o:Unit):UV:=.agg (Qi x a b c d e f h i j k l o).toArray
theorem Rr:∀a,Tryz.prog.underlying 65=some (.struct a)->Places Tryz.prog a #[(0,1),(1,1),(2,1),(3,1),(4,1),(5,1),(6,1),(7,1)]:=λa h=>by
 obtain rfl:=PP<|Tc<|Tryz.underlying65.symm.trans h;intro w;kernel_rfl
structure Qu where
 ledgers:QA
 open_:Bool
def D1(x:Qu)(a:K1 C3)(_:Unit)(b:K1 C3)(c:Nat)(d:K1 C3)(e:Nat)(f:K1 C3)(h:Nat)(i:K1 Nat)(_:Unit)(j:K1 Nat)(_:Unit):Q0 UV:=[.int .i64 x.ledgers.day,.pointer a,.slice b x.ledgers.casks.length c,.slice d x.ledgers.duties.length e,.slice f x.ledgers.stamps.length h,.map i,.map j,.int .i64 x.ledgers.ids,.bool x.open_]
def AY:Uo Qu:=λF x vs=>∃a b c d e f h i j l k o,vs=D1 x a b c d e f h i j l k o/\WK 29 K3 F a x.ledgers.rules/\QG 8 (Ex QJ) F c d x.ledgers.casks/\QG 6 (Ex QM) F e f x.ledgers.duties/\QG 4 (Ex QT) F h i x.ledgers.stamps/\Uu (λx:Int=>(.int .i64 x)) (λF (x:QU) v=>∃(a:K1 C3) (b:Nat),v=(Zv x a b)/\QG 27 (Ex QO) F a b x.Draughts) F j x.ledgers.batches/\Uu (λx:Int=>(.int .i64 x)) (λ_ (x:Int) v=>v=(.int .i64 x)) F k x.ledgers.pure
theorem N4:∀a,Tryz.prog.underlying 67=some (.struct a)->Places Tryz.prog a #[(0,8),(8,1)]:=λa h=>by
 obtain rfl:=PP<|Tc<|Tryz.underlying67.symm.trans h;intro w;kernel_rfl
structure Qp where
 e:Int
def XG(x:Qp):Q0 UV:=[.int .i64 x.e]
def LU(x:Qp):UV:=.agg (XG x).toArray
theorem N5:∀a,Tryz.prog.underlying 72=some (.struct a)->Places Tryz.prog a #[(0,1)]:=λa h=>by
 obtain rfl:=PP<|Tc<|Tryz.underlying72.symm.trans h;intro w;kernel_rfl
structure Zs where
 rest:(List UInt8)
def XF(x:Zs):Q0 UV:=[.string<|bs x.rest]
theorem N3:∀a,Tryz.prog.underlying 77=some (.struct a)->Places Tryz.prog a #[(0,1)]:=λa h=>by
 obtain rfl:=PP<|Tc<|Tryz.underlying77.symm.trans h;intro w;kernel_rfl
structure Zl where
 e:Int
def HV(x:Zl):Q0 UV:=[.int .i64 x.e]
def qn(x:Zl):UV:=.agg (HV x).toArray
theorem Ob:∀a,Tryz.prog.underlying 152=some (.struct a)->Places Tryz.prog a #[(0,1)]:=λa h=>by
 obtain rfl:=PP<|Tc<|Tryz.underlying152.symm.trans h;intro w;kernel_rfl
structure ZM where
 age:Int
 woods:(Nat->Int)
 places:(Nat->Int)
def ZK(x:ZM):Q0 UV:=[.int .i64 x.age,.int .i64<|x.woods 0,.int .i64<|x.woods 1,.int .i64<|x.woods 2,.int .i64<|x.woods 3,.int .i64<|x.woods 4,.int .i64<|x.woods 5,.int .i64<|x.woods 6,.int .i64<|x.woods 7,.int .i64<|x.places 0,.int .i64<|x.places 1,.int .i64<|x.places 2,.int .i64<|x.places 3,.int .i64<|x.places 4,.int .i64<|x.places 5,.int .i64<|x.places 6,.int .i64<|x.places 7]
def WT(x:ZM):UV:=.agg (ZK x).toArray
theorem RU:∀a,Tryz.prog.underlying 165=some (.struct a)->Places Tryz.prog a #[(0,1),(1,8),(9,8)]:=λa h=>by
 obtain rfl:=PP<|Tc<|Tryz.underlying165.symm.trans h;intro w;kernel_rfl
structure QK where
 number:Int
 wood:Int
 place:Int
 room:Int
 owner:Int
 creditor:Int
 amount:Int
 since:Int
 times:ZM
 fills:(Option Nat)
def U6(x:QK)(a:K1 Nat)(_:Unit):Q0 UV:=[.int .i64 x.number,.int .i64 x.wood,.int .i64 x.place,.int .i64 x.room,.int .i64 x.owner,.int .i64 x.creditor,.int .i64 x.amount,.int .i64 x.since,.int .i64 x.times.age,.int .i64<|x.times.woods 0,.int .i64<|x.times.woods 1,.int .i64<|x.times.woods 2,.int .i64<|x.times.woods 3,.int .i64<|x.times.woods 4,.int .i64<|x.times.woods 5,.int .i64<|x.times.woods 6,.int .i64<|x.times.woods 7,.int .i64<|x.times.places 0,.int .i64<|x.times.places 1,.int .i64<|x.times.places 2,.int .i64<|x.times.places 3,.int .i64<|x.times.places 4,.int .i64<|x.times.places 5,.int .i64<|x.times.places 6,.int .i64<|x.times.places 7,.map a]
def yW(x:QK)(a:K1 Nat)(b:Unit):UV:=.agg (U6 x a b).toArray
def EB(U:Jl):Uo QK:=λF x vs=>∃a b,vs=U6 x a b/\Z3 U.g112 F a x.fills
theorem zj:∀a,Tryz.prog.underlying 167=some (.struct a)->Places Tryz.prog a #[(0,1),(1,1),(2,1),(3,1),(4,1),(5,1),(6,1),(7,1),(8,17),(25,1)]:=λa h=>by
 obtain rfl:=PP<|Tc<|Tryz.underlying167.symm.trans h;intro w;kernel_rfl
structure Qm where
 casks:(Option Nat)
 event:Int
def RA(x:Qm)(a:K1 Nat)(_:Unit):Q0 UV:=[.map a,.int .i64 x.event]
def EC(U:Jl):Uo Qm:=λF x vs=>∃a b,vs=RA x a b/\Z3 U.g154 F a x.casks
theorem zk:∀a,Tryz.prog.underlying 156=some (.struct a)->Places Tryz.prog a #[(0,1),(1,1)]:=λa h=>by
 obtain rfl:=PP<|Tc<|Tryz.underlying156.symm.trans h;intro w;kernel_rfl
structure Zt where
 e:Int
def XH(x:Zt):Q0 UV:=[.int .i64 x.e]
def LV(x:Zt):UV:=.agg (XH x).toArray
theorem N7:∀a,Tryz.prog.underlying 170=some (.struct a)->Places Tryz.prog a #[(0,1)]:=λa h=>by
 obtain rfl:=PP<|Tc<|Tryz.underlying170.symm.trans h;intro w;kernel_rfl
structure QF where
 Id:Int
 From:Int
 To:Int
 Sent:Int
 Amount:Int
def ZO(x:QF):Q0 UV:=[.int .i64 x.Id,.int .i64 x.From,.int .i64 x.To,.int .i64 x.Sent,.int .i64 x.Amount]
def YD(x:QF):UV:=.agg (ZO x).toArray
theorem qD:∀a,Tryz.prog.underlying 120=some (.struct a)->Places Tryz.prog a #[(0,1),(1,1),(2,1),(3,1),(4,1)]:=λa h=>by
 obtain rfl:=PP<|Tc<|Tryz.underlying120.symm.trans h;intro w;kernel_rfl
structure Qz where
 Bonds:(Nat->Int)
 Moving:(List QF)
 Made:Int
 Found:Int
 Used:Int
 Exported:Int
 Lost:Int
 Charged:Int
 Due:Int
 Paid:Int
def Qv(x:Qz)(a:K1 C3)(b:Nat):Q0 UV:=[.int .i64<|x.Bonds 0,.int .i64<|x.Bonds 1,.int .i64<|x.Bonds 2,.int .i64<|x.Bonds 3,.int .i64<|x.Bonds 4,.int .i64<|x.Bonds 5,.int .i64<|x.Bonds 6,.int .i64<|x.Bonds 7,.int .i64<|x.Bonds 8,.int .i64<|x.Bonds 9,.int .i64<|x.Bonds 10,.int .i64<|x.Bonds 11,.int .i64<|x.Bonds 12,.int .i64<|x.Bonds 13,.int .i64<|x.Bonds 14,.int .i64<|x.Bonds 15,.slice a x.Moving.length b,.int .i64 x.Made,.int .i64 x.Found,.int .i64 x.Used,.int .i64 x.Exported,.int .i64 x.Lost,.int .i64 x.Charged,.int .i64 x.Due,.int .i64 x.Paid]
def YV(x:Qz)(a:K1 C3)(b:Nat):UV:=.agg (Qv x a b).toArray
theorem LJ:∀a,Tryz.prog.underlying 51=some (.struct a)->Places Tryz.prog a #[(0,16),(16,1),(17,1),(18,1),(19,1),(20,1),(21,1),(22,1),(23,1),(24,1)]:=λa h=>by
 obtain rfl:=PP<|Tc<|Tryz.underlying51.symm.trans h;intro w;kernel_rfl
structure QD where
 rules:Qk
 book:Qz
 moving:(Option Nat)
 known:(Option Nat)
 sums:(Nat->Int)
 day:Int
def Zi(x:QD)(a:K1 C3)(b:Nat)(c:K1 C3)(d:Nat)(e:K1 Nat)(_:Unit)(f:K1 Nat)(_:Unit):Q0 UV:=[.slice a x.rules.Rates.length b,.int .i64 x.rules.Transit,.int .i64 x.rules.Loss,.int .i64 x.rules.Share,.int .i64<|x.book.Bonds 0,.int .i64<|x.book.Bonds 1,.int .i64<|x.book.Bonds 2,.int .i64<|x.book.Bonds 3,.int .i64<|x.book.Bonds 4,.int .i64<|x.book.Bonds 5,.int .i64<|x.book.Bonds 6,.int .i64<|x.book.Bonds 7,.int .i64<|x.book.Bonds 8,.int .i64<|x.book.Bonds 9,.int .i64<|x.book.Bonds 10,.int .i64<|x.book.Bonds 11,.int .i64<|x.book.Bonds 12,.int .i64<|x.book.Bonds 13,.int .i64<|x.book.Bonds 14,.int .i64<|x.book.Bonds 15,.slice c x.book.Moving.length d,.int .i64 x.book.Made,.int .i64 x.book.Found,.int .i64 x.book.Used,.int .i64 x.book.Exported,.int .i64 x.book.Lost,.int .i64 x.book.Charged,.int .i64 x.book.Due,.int .i64 x.book.Paid,.map e,.map f,.int .i64<|x.sums 0,.int .i64<|x.sums 1,.int .i64<|x.sums 2,.int .i64<|x.sums 3,.int .i64<|x.sums 4,.int .i64<|x.sums 5,.int .i64<|x.sums 6,.int .i64<|x.sums 7,.int .i64<|x.sums 8,.int .i64<|x.sums 9,.int .i64<|x.sums 10,.int .i64<|x.sums 11,.int .i64<|x.sums 12,.int .i64<|x.sums 13,.int .i64<|x.sums 14,.int .i64<|x.sums 15,.int .i64 x.day]
def AZ(U:Jl):Uo QD:=λF x vs=>∃a b c d e h f i,vs=Zi x a b c d e h f i/\QG 2 (Ex Q6) F a b x.rules.Rates/\M1 5 (Ex ZO) F c d x.book.Moving/\Z3 U.g111 F e x.moving/\Z3 U.g112 F f x.known
theorem N6:∀a,Tryz.prog.underlying 114=some (.struct a)->Places Tryz.prog a #[(0,4),(4,25),(29,1),(30,1),(31,16),(47,1)]:=λa h=>by
 obtain rfl:=PP<|Tc<|Tryz.underlying114.symm.trans h;intro w;kernel_rfl
structure ZA where
 Hand:(List QB)
 Stuck:Int
 Spoiled:Int
 Returned:Int
def Q3(x:ZA)(a:K1 C3)(b:Nat):Q0 UV:=[.slice a x.Hand.length b,.int .i64 x.Stuck,.int .i64 x.Spoiled,.int .i64 x.Returned]
def Ak(x:ZA)(a:K1 C3)(b:Nat):UV:=.agg (Q3 x a b).toArray
theorem Fj:∀a,Tryz.prog.underlying 231=some (.struct a)->Places Tryz.prog a #[(0,1),(1,1),(2,1),(3,1)]:=λa h=>by
 obtain rfl:=PP<|Tc<|Tryz.underlying231.symm.trans h;intro w;kernel_rfl
structure Up where
 issued:(List QB)
 hand:(List QB)
def JQ(x:Up)(a:K1 C3)(b:Nat)(c:K1 C3)(d:Nat):Q0 UV:=[.slice a x.issued.length b,.slice c x.hand.length d]
structure Qg where
 Batch:QU
 amount:Int
 least:Int
 most:Int
def Qf(x:Qg)(a:K1 C3)(b:Nat):Q0 UV:=[.slice a x.Batch.Draughts.length b,.int .i64 x.Batch.Water,.int .i64 x.Batch.Shrink.Lo,.int .i64 x.Batch.Shrink.Hi,.bool x.Batch.Filtered,.bool x.Batch.Coloured,.int .i64 x.amount,.int .i64 x.least,.int .i64 x.most]
def J4(x:Qg)(a:K1 C3)(b:Nat):UV:=.agg (Qf x a b).toArray
theorem LI:∀a,Tryz.prog.underlying 235=some (.struct a)->Places Tryz.prog a #[(0,6),(6,1),(7,1),(8,1)]:=λa h=>by
 obtain rfl:=PP<|Tc<|Tryz.underlying235.symm.trans h;intro w;kernel_rfl
structure Qq where
 Volume:QB
 Strength:QB
 Age:Int
 Woods:(Nat->Int)
 Places:(Nat->Int)
 Casks:Int
def Qt(x:Qq):Q0 UV:=[.int .i64 x.Volume.Lo,.int .i64 x.Volume.Hi,.int .i64 x.Strength.Lo,.int .i64 x.Strength.Hi,.int .i64 x.Age,.int .i64<|x.Woods 0,.int .i64<|x.Woods 1,.int .i64<|x.Woods 2,.int .i64<|x.Woods 3,.int .i64<|x.Woods 4,.int .i64<|x.Woods 5,.int .i64<|x.Woods 6,.int .i64<|x.Woods 7,.int .i64<|x.Places 0,.int .i64<|x.Places 1,.int .i64<|x.Places 2,.int .i64<|x.Places 3,.int .i64<|x.Places 4,.int .i64<|x.Places 5,.int .i64<|x.Places 6,.int .i64<|x.Places 7,.int .i64 x.Casks]
def FH(x:Qq):UV:=.agg (Qt x).toArray
theorem Ac:∀a,Tryz.prog.underlying 201=some (.struct a)->Places Tryz.prog a #[(0,2),(2,2),(4,1),(5,8),(13,8),(21,1)]:=λa h=>by
 obtain rfl:=PP<|Tc<|Tryz.underlying201.symm.trans h;intro w;kernel_rfl
structure Qx where
 Kind:Int
 What:Int
 Number:Int
def KK(x:Qx):Q0 UV:=[.int .i64 x.Kind,.int .i64 x.What,.int .i64 x.Number]
def Zu(x:Qx):UV:=.agg (KK x).toArray
theorem zl:∀a,Tryz.prog.underlying 211=some (.struct a)->Places Tryz.prog a #[(0,1),(1,1),(2,1)]:=λa h=>by
 obtain rfl:=PP<|Tc<|Tryz.underlying211.symm.trans h;intro w;kernel_rfl
structure ZL where
 batch:Qg
 known:Qq
def Zg(x:ZL)(a:K1 C3)(b:Nat):Q0 UV:=[.slice a x.batch.Batch.Draughts.length b,.int .i64 x.batch.Batch.Water,.int .i64 x.batch.Batch.Shrink.Lo,.int .i64 x.batch.Batch.Shrink.Hi,.bool x.batch.Batch.Filtered,.bool x.batch.Batch.Coloured,.int .i64 x.batch.amount,.int .i64 x.batch.least,.int .i64 x.batch.most,.int .i64 x.known.Volume.Lo,.int .i64 x.known.Volume.Hi,.int .i64 x.known.Strength.Lo,.int .i64 x.known.Strength.Hi,.int .i64 x.known.Age,.int .i64<|x.known.Woods 0,.int .i64<|x.known.Woods 1,.int .i64<|x.known.Woods 2,.int .i64<|x.known.Woods 3,.int .i64<|x.known.Woods 4,.int .i64<|x.known.Woods 5,.int .i64<|x.known.Woods 6,.int .i64<|x.known.Woods 7,.int .i64<|x.known.Places 0,.int .i64<|x.known.Places 1,.int .i64<|x.known.Places 2,.int .i64<|x.known.Places 3,.int .i64<|x.known.Places 4,.int .i64<|x.known.Places 5,.int .i64<|x.known.Places 6,.int .i64<|x.known.Places 7,.int .i64 x.known.Casks]
def B8(x:ZL)(a:K1 C3)(b:Nat):UV:=.agg (Zg x a b).toArray
theorem Aa:∀a,Tryz.prog.underlying 241=some (.struct a)->Places Tryz.prog a #[(0,9),(9,22)]:=λa h=>by
 obtain rfl:=PP<|Tc<|Tryz.underlying241.symm.trans h;intro w;kernel_rfl
structure Qa where
 least:Int
 each:Int
def Z8(x:Qa):Q0 UV:=[.int .i64 x.least,.int .i64 x.each]
def qm(x:Qa):UV:=.agg (Z8 x).toArray
theorem Z9:∀a,Tryz.prog.underlying 80=some (.struct a)->Places Tryz.prog a #[(0,1),(1,1)]:=λa h=>by
 obtain rfl:=PP<|Tc<|Tryz.underlying80.symm.trans h;intro w;kernel_rfl
structure QW where
 form:Qa
 do_:((QA×Unit×(List Int))->Option (Out Qp<|(List UInt8)×QA))
def Zk(x:QW)(b:Rw)(a:Q0 UV×Q0 UV):Q0 UV:=[.int .i64 x.form.least,.int .i64 x.form.each,.func (.func b) a.1.toArray a.2.toArray]
def KH(x:QW)(a:Rw)(b:Q0 UV×Q0 UV):UV:=.agg (Zk x a b).toArray
theorem KA:∀a,Tryz.prog.underlying 83=some (.struct a)->Places Tryz.prog a #[(0,2),(2,1)]:=λa h=>by
 obtain rfl:=PP<|Tc<|Tryz.underlying83.symm.trans h;intro w;kernel_rfl
structure Qs where
 Word:(List UInt8)
 N:(List Int)
def Qj(x:Qs)(a:K1 C3)(b:Nat):Q0 UV:=[.string<|bs x.Word,.slice a x.N.length b]
def Xy(x:Qs)(a:K1 C3)(b:Nat):UV:=.agg (Qj x a b).toArray
theorem GS:∀a,Tryz.prog.underlying 34=some (.struct a)->Places Tryz.prog a #[(0,1),(1,1)]:=λa h=>by
 obtain rfl:=PP<|Tc<|Tryz.underlying34.symm.trans h;intro w;kernel_rfl
structure Qd where
 day:Int
 ruled:Bool
 rules:Qk
def KW(x:Qd)(a:K1 C3)(b:Nat):Q0 UV:=[.int .i64 x.day,.bool x.ruled,.slice a x.rules.Rates.length b,.int .i64 x.rules.Transit,.int .i64 x.rules.Loss,.int .i64 x.rules.Share]
def Az:Uo Qd:=λF x vs=>∃a b,vs=KW x a b/\QG 2 (Ex Q6) F a b x.rules.Rates
abbrev TY(U:Jl):Fz->Nat->QK->HP:=Uy 167<|EB U
abbrev Qy(U:Jl)(F:Fz)(xs:Q0 QK):HP:=ZD U.g167 (TY U) F xs
theorem JE(U:Jl):HC (TY U):=Uy.stays
theorem Xw(U:Jl){x:QK}:∀F vs,(EB U) F x vs->vs.length=26:=λ_ _ ⟨_,_,h,_⟩=>h▸rfl
abbrev M2(U:Jl):Fz->Nat->Qm->HP:=Uy 156<|EC U
abbrev ZC(U:Jl)(F:Fz)(xs:Q0 Qm):HP:=ZD U.g156 (M2 U) F xs
theorem Kc(U:Jl):HC (M2 U):=Uy.stays
theorem gq(U:Jl){x:Qm}:∀F vs,(EC U) F x vs->vs.length=2:=λ_ _ ⟨_,_,h,_⟩=>h▸rfl
abbrev Ia(U:Jl):Fz->Nat->QD->HP:=Uy 114<|AZ U
abbrev Za(U:Jl)(F:Fz)(xs:Q0 QD):HP:=ZD U.g114 (Ia U) F xs
theorem YM(U:Jl):HC (Ia U):=Uy.stays
theorem Xx(U:Jl){x:QD}:∀F vs,(AZ U) F x vs->vs.length=48:=λ_ _ ⟨_,_,_,_,_,_,_,_,h,_,_,_,_⟩=>h▸rfl
abbrev dZ(_:Jl):Fz->Nat->Qu->HP:=Uy 67 AY
abbrev V8(U:Jl)(F:Fz)(xs:Q0 Qu):HP:=ZD U.g67 (dZ U) F xs
theorem Jk(U:Jl):HC (dZ U):=Uy.stays
theorem fp{x:Qu}:∀F vs,AY F x vs->vs.length=9:=λ_ _ ⟨_,_,_,_,_,_,_,_,_,_,_,_,h,_,_,_,_,_,_⟩=>h▸rfl
abbrev xt(_:Jl):Fz->Nat->Qd->HP:=Uy 31 Az
abbrev Hr(U:Jl)(F:Fz)(xs:Q0 Qd):HP:=ZD U.g31 (xt U) F xs
theorem Xn(U:Jl):HC (xt U):=Uy.stays
abbrev RG(_:Jl):Fz->Nat->Q0 (Int×QF)->HP:=QZ (λx:Int=>(.int .i64 x)) λ_ (x:QF) v=>v=(YD x)
abbrev KU(U:Jl)(F:Fz)(xs:Q0 (Q0<|Int×QF)):HP:=ZD U.g111 (RG U) F xs
theorem VZ(U:Jl):HC (RG U):=Hf
abbrev FP(_:Jl):Fz->Nat->Q0 (Int×Bool)->HP:=QZ (λx:Int=>(.int .i64 x)) λ_ (x:Bool) v=>v=(.bool x)
abbrev Qe(U:Jl)(F:Fz)(xs:Q0 (Q0<|Int×Bool)):HP:=ZD U.g112 (FP U) F xs
theorem Zo(U:Jl):HC (FP U):=Hf
abbrev RF(U:Jl):Fz->Nat->Q0 (Int×(K1 Nat))->HP:=QZ (λx:Int=>(.int .i64 x)) λF (x:(K1 Nat)) v=>∃(p0:K1 C3) (_:Unit),v=(.pointer p0)/\ZP U.g167 F p0 x
abbrev ZH(U:Jl)(F:Fz)(xs:Q0 (Q0<|Int×(K1 Nat))):HP:=ZD U.g154 (RF U) F xs
theorem Kq(U:Jl):HC (RF U):=Hf
def Wb(x:Zl):UV:=.iface 152<|qn x
def Xo(x:Zt):UV:=.iface 170<|LV x
def Jc(x:Qp):UV:=.iface 72<|LU x
def Q9(U:Jl)(F:Fz)(L:QA):HP:=wO (λq:K1 C3×K1 C3×Nat×K1 C3×Nat×K1 C3×Nat×Nat×Nat=>WK 29 K3 F q.1 L.rules) λq=>[pc U.g65 (Qi L q.1 () q.2.1 q.2.2.1 q.2.2.2.1 q.2.2.2.2.1 q.2.2.2.2.2.1 q.2.2.2.2.2.2.1 (some q.2.2.2.2.2.2.2.1) () (some q.2.2.2.2.2.2.2.2) ()) 65,Ql 8 (Ex QJ) F 96 q.2.1 q.2.2.1<|L.casks,Ql 6 (Ex QM) F 99 q.2.2.2.1 q.2.2.2.2.1<|L.duties,Ql 4 (Ex QT) F 142 q.2.2.2.2.2.1 q.2.2.2.2.2.2.1<|L.stamps,QZ (λx:Int=>(.int .i64 x)) (λF (x:QU) v=>∃(a:K1 C3) (b:Nat),v=(Zv x a b)/\QG 27 (Ex QO) F a b x.Draughts) F q.2.2.2.2.2.2.2.1<|L.batches,QZ (λx:Int=>(.int .i64 x)) (λ_ (x:Int) v=>v=(.int .i64 x)) F q.2.2.2.2.2.2.2.2<|L.pure]
theorem FZ{m:Mem}(le:F<=F'):Q9 U F L m->Q9 U F' L m:=fun⟨q,h,a⟩=>⟨q,h.mono le,ZW (λ_ h=>h) (ZW (λ_=>WB le)<|ZW (λ_=>WB le)<|ZW (λ_=>WB le)<|ZW (λ_=>Jn le)<|ZW (λ_=>Jn le) λ_ h=>h) m a⟩
theorem _root_.Go.Dec.GG.cp(i:Nat)(hi:hs[i]? =some (Q9 U F L))(k:∀(a:K1 C3) (b:K1 C3) (c:Nat) (d:K1 C3) (e:Nat) (f:K1 C3) (j:Nat) (l:Nat) (o:Nat),WK 29 K3 F a L.rules->GG g (Hd n D S F<|[pc U.g65 (Qi L a () b c d e f j (some l) () (some o) ()) 65,Ql 8 (Ex QJ) F 96 b c<|L.casks,Ql 6 (Ex QM) F 99 d e<|L.duties,Ql 4 (Ex QT) F 142 f j<|L.stamps,QZ (λx:Int=>(.int .i64 x)) (λF (x:QU) v=>∃(a:K1 C3) (p:Nat),v=(Zv x a p)/\QG 27 (Ex QO) F a p x.Draughts) F l<|L.batches,QZ (λx:Int=>(.int .i64 x)) (λ_ (x:Int) v=>v=(.int .i64 x)) F o<|L.pure]++hs.eraseIdx i) m r):GG g (Hd n D S F hs) m r:=GG.ad i hi λq h=>k q.1 q.2.1 q.2.2.1 q.2.2.2.1 q.2.2.2.2.1 q.2.2.2.2.2.1 q.2.2.2.2.2.2.1 q.2.2.2.2.2.2.2.1 q.2.2.2.2.2.2.2.2 h
theorem _root_.Go.Dec.GG.cq{o:Fz}{p:Fz}{q:Fz}{s:Fz}{t:Fz}{a:K1 C3}{b:K1 C3}{c:Nat}{d:K1 C3}{e:Nat}{f:K1 C3}{i:Nat}{j:Nat}{l:Nat}(is:Q0 Nat)(w:WK 29 K3 F a L.rules)(y:o<=F)(l2:p<=F)(z:q<=F)(A:s<=F)(B:t<=F)(C:YN is hs=[pc U.g65 (Qi L a () b c d e f i (some j) () (some l) ()) 65,Ql 8 (Ex QJ) o 96 b c<|L.casks,Ql 6 (Ex QM) p 99 d e<|L.duties,Ql 4 (Ex QT) q 142 f i<|L.stamps,QZ (λx:Int=>(.int .i64 x)) (λF (x:QU) v=>∃(a:K1 C3) (u:Nat),v=(Zv x a u)/\QG 27 (Ex QO) F a u x.Draughts) s j<|L.batches,QZ (λx:Int=>(.int .i64 x)) (λ_ (x:Int) v=>v=(.int .i64 x)) t l<|L.pure])(k:GG g (Hd n D S F<|Q9 U F L::YF is hs) m r):GG g (Hd n D S F hs) m r:=GG.aI is (a,b,c,d,e,f,i,j,l) w C (ZW (λ_ h=>h)<|ZW (λ_=>WB y)<|ZW (λ_=>WB l2)<|ZW (λ_=>WB z)<|ZW (λ_=>Jn A)<|ZW (λ_=>Jn B) λ_ h=>h) k
def YC(U:Jl)(F:Fz)(L:QA):HP:=wO (λq:K1 C3×K1 C3×Nat×K1 C3×Nat×K1 C3×Nat×Nat×Nat=>WK 29 K3 F q.1 L.rules) λq=>[pc U.g65 (Qi L q.1 () q.2.1 q.2.2.1 q.2.2.2.1 q.2.2.2.2.1 q.2.2.2.2.2.1 q.2.2.2.2.2.2.1 (some q.2.2.2.2.2.2.2.1) () (some q.2.2.2.2.2.2.2.2) ()) 65,ku 8 (Ex QJ) F 96 q.2.1 q.2.2.1<|L.casks,ku 6 (Ex QM) F 99 q.2.2.2.1 q.2.2.2.2.1<|L.duties,ku 4 (Ex QT) F 142 q.2.2.2.2.2.1 q.2.2.2.2.2.2.1<|L.stamps,QZ (λx:Int=>(.int .i64 x)) (λF (x:QU) v=>∃(a:K1 C3) (b:Nat),v=(Zv x a b)/\QG 27 (Ex QO) F a b x.Draughts) F q.2.2.2.2.2.2.2.1<|L.batches,QZ (λx:Int=>(.int .i64 x)) (λ_ (x:Int) v=>v=(.int .i64 x)) F q.2.2.2.2.2.2.2.2<|L.pure]
theorem vX{m:Mem}(le:F<=F'):YC U F L m->YC U F' L m:=fun⟨q,h,a⟩=>⟨q,h.mono le,ZW (λ_ h=>h) (ZW (λ_=>zY le)<|ZW (λ_=>zY le)<|ZW (λ_=>zY le)<|ZW (λ_=>Jn le)<|ZW (λ_=>Jn le) λ_ h=>h) m a⟩
theorem Yp{m:Mem}:Q9 U F L m->YC U F L m:=fun⟨q,h,a⟩=>⟨q,h,ZW (λ_ h=>h) (ZW (λ_ h=>.inl h)<|ZW (λ_ h=>.inl h)<|ZW (λ_ h=>.inl h)<|ZW (λ_ h=>h)<|ZW (λ_ h=>h) λ_ h=>h) m a⟩
theorem _root_.Go.Dec.GG.pw{o:Fz}{p:Fz}{a:K1 C3}{b:K1 C3}{c:Nat}{d:K1 C3}{e:Nat}{f:K1 C3}{i:Nat}{j:Nat}{l:Nat}(is:Q0 Nat)(s:WK 29 K3 F a L.rules)(t:o<=F)(l2:p<=F)(u:YN is hs=[pc U.g65 (Qi L a () b c d e f i (some j) () (some l) ()) 65,ku 8 (Ex QJ) F 96 b c<|L.casks,ku 6 (Ex QM) F 99 d e<|L.duties,ku 4 (Ex QT) F 142 f i<|L.stamps,QZ (λx:Int=>(.int .i64 x)) (λF (x:QU) v=>∃(a:K1 C3) (q:Nat),v=(Zv x a q)/\QG 27 (Ex QO) F a q x.Draughts) o j<|L.batches,QZ (λx:Int=>(.int .i64 x)) (λ_ (x:Int) v=>v=(.int .i64 x)) p l<|L.pure])(k:GG g (Hd n D S F<|YC U F L::YF is hs) m r):GG g (Hd n D S F hs) m r:=GG.aI is (a,b,c,d,e,f,i,j,l) s u (ZW (λ_ h=>h)<|ZW (λ_ h=>h)<|ZW (λ_ h=>h)<|ZW (λ_ h=>h)<|ZW (λ_=>Jn t)<|ZW (λ_=>Jn l2) λ_ h=>h) k
def Fo(U:Jl)(_:Fz)(L:Zs):HP:=wO (λ_:Unit=>True) λ_=>[pc U.g77 (XF L) 77]
theorem fh{L:Zs}{m:Mem}(_le:F<=F'):Fo U F L m->Fo U F' L m:=λh=>h
theorem _root_.Go.Dec.GG.rj{L:Zs}(i:Nat)(hi:hs[i]? =some (Fo U F L))(k:GG g (Hd n D S F<|[pc U.g77 (XF L) 77]++hs.eraseIdx i) m r):GG g (Hd n D S F hs) m r:=GG.ad i hi λ_ _=>k
theorem _root_.Go.Dec.GG.px{L:Zs}(is:Q0 Nat)(a:YN is hs=[pc U.g77 (XF L) 77])(k:GG g (Hd n D S F<|Fo U F L::YF is hs) m r):GG g (Hd n D S F hs) m r:=GG.aI is () trivial a (ZW (λ_ h=>h) λ_ h=>h) k
theorem Gx:U2 Tryz.prog 3 1 (Ex<|Zy .i64):=.ex (λ_=>rfl) (λ_=>rfl) Tryz.sizeOf3 ⟨_,Tryz.typeInfo3,by decide+kernel,by decide+kernel⟩ ⟨_,Tryz.zeroValue3,rfl⟩
theorem xz:U2 Tryz.prog 9 1 (Ex AR):=.ex (λ_=>rfl) (λ_=>rfl) Tryz.sizeOf9 ⟨_,Tryz.typeInfo9,by decide+kernel,by decide+kernel⟩ ⟨_,Tryz.zeroValue9,rfl⟩
theorem vz:U2 Tryz.prog 56 24 (Ex Qw):=.ex (λ_=>rfl) (λ_=>rfl) Tryz.sizeOf56 ⟨_,Tryz.typeInfo56,by decide+kernel,by decide+kernel⟩ ⟨_,Tryz.zeroValue56,rfl⟩
theorem Oo:U2 Tryz.prog 93 2 (Ex Q6):=.ex (λ_=>rfl) (λ_=>rfl) Tryz.sizeOf93 ⟨_,Tryz.typeInfo93,by decide+kernel,by decide+kernel⟩ ⟨_,Tryz.zeroValue93,rfl⟩
theorem On:U2 Tryz.prog 96 8 (Ex QJ):=.ex (λ_=>rfl) (λ_=>rfl) Tryz.sizeOf96 ⟨_,Tryz.typeInfo96,by decide+kernel,by decide+kernel⟩ ⟨_,Tryz.zeroValue96,rfl⟩
theorem Om:U2 Tryz.prog 99 6 (Ex QM):=.ex (λ_=>rfl) (λ_=>rfl) Tryz.sizeOf99 ⟨_,Tryz.typeInfo99,by decide+kernel,by decide+kernel⟩ ⟨_,Tryz.zeroValue99,rfl⟩
theorem jB:U2 Tryz.prog 120 5 (Ex ZO):=.ex (λ_=>rfl) (λ_=>rfl) Tryz.sizeOf120 ⟨_,Tryz.typeInfo120,by decide+kernel,by decide+kernel⟩ ⟨_,Tryz.zeroValue120,rfl⟩
theorem Ot:U2 Tryz.prog 142 4 (Ex QT):=.ex (λ_=>rfl) (λ_=>rfl) Tryz.sizeOf142 ⟨_,Tryz.typeInfo142,by decide+kernel,by decide+kernel⟩ ⟨_,Tryz.zeroValue142,rfl⟩
theorem HE:U2 Tryz.prog 146 2 (Ex QX):=.ex (λ_=>rfl) (λ_=>rfl) Tryz.sizeOf146 ⟨_,Tryz.typeInfo146,by decide+kernel,by decide+kernel⟩ ⟨_,Tryz.zeroValue146,rfl⟩
theorem jA:U2 Tryz.prog 198 27 (Ex QO):=.ex (λ_=>rfl) (λ_=>rfl) Tryz.sizeOf198 ⟨_,Tryz.typeInfo198,by decide+kernel,by decide+kernel⟩ ⟨_,Tryz.zeroValue198,rfl⟩
theorem w9:U2 Tryz.prog 211 3 (Ex KK):=.ex (λ_=>rfl) (λ_=>rfl) Tryz.sizeOf211 ⟨_,Tryz.typeInfo211,by decide+kernel,by decide+kernel⟩ ⟨_,Tryz.zeroValue211,rfl⟩
theorem Oq:U2 Tryz.prog 265 1 (fj 2<|Ex QX):=.mk (λ_ _ _ ⟨_,_,h,_⟩=>h▸rfl) (λ_ _ _ ⟨_,_,h,_⟩=>h▸rfl) (λ_ _ _ _ le ⟨a,b,h,c⟩=>⟨a,b,h,c.mono le⟩) Tryz.sizeOf265 ⟨_,Tryz.typeInfo265,by decide+kernel,by decide+kernel⟩ ⟨_,Tryz.zeroValue265,rfl⟩
def Tryz.aG:Go.Shelf.Ren:=⟨fun | 6=>31 | 8=>80 | 9=>81 | 11=>135 | 13=>137 | 12=>136 | 23=>172 | 24=>173 | 14=>163 | 15=>164 | 16=>165 | 17=>166 | 18=>167 | 19=>168 | 20=>169 | 21=>170 | 22=>171 | 25=>200 | 26=>201 | 27=>202 | 28=>203 | 29=>204 | 30=>205 | 31=>233 | n=>n,fun | 26=>3 | 28=>117 | 24=>32 | 0=>0 | 3=>3 | 37=>222 | 48=>259 | 50=>261 | 4=>4 | 40=>252 | 39=>251 | 45=>68 | 5=>5 | 9=>9 | 51=>287 | 55=>268 | 57=>301 | 58=>302 | 33=>88 | n=>n,fun | n=>n⟩
theorem Tryz.sW:Go.Proofs.SlLaysZI.n6 Tryz.prog Tryz.aG:={
 mixed:=by kernel_rfl
 f6:=⟨Tryz.f31.name,by decide,Tryz.func31.trans<|congrArg some x0⟩
 f8:=⟨Tryz.f80.name,by decide,Tryz.func80.trans<|congrArg some x0⟩
 f11:=⟨Tryz.f135.name,by decide,Tryz.func135.trans<|congrArg some x0⟩
 t0:=Tryz.underlying0
 a0:=Tryz.isAgg0
 z0:=Tryz.sizeOf0
 v0:=Tryz.zeroValue0
 t24:=Tryz.underlying32
 a24:=Tryz.isAgg32
 z24:=Tryz.sizeOf32
 v24:=Tryz.zeroValue32
 t26:=Tryz.underlying3
 a26:=Tryz.isAgg3
 z26:=Tryz.sizeOf3
 v26:=Tryz.zeroValue3
 t28:=Tryz.underlying117
 a28:=Tryz.isAgg117
 z28:=Tryz.sizeOf117
 v28:=Tryz.zeroValue117
 i26:=by kernel_rfl}
def Tryz.tP:Go.Shelf.Ren:=⟨fun | 5=>81 | 8=>137 | 7=>136 | 19=>172 | 20=>173 | 10=>163 | 11=>164 | 12=>165 | 13=>166 | 14=>167 | 15=>168 | 16=>169 | 17=>170 | 18=>171 | 30=>200 | 31=>201 | 32=>202 | 33=>203 | 34=>204 | 35=>205 | 40=>233 | n=>n,fun | 23=>32 | 25=>3 | 3=>3 | 32=>222 | 22=>32 | 0=>0 | 44=>259 | 46=>261 | 4=>4 | 36=>252 | 35=>251 | 41=>68 | 5=>5 | 9=>9 | 53=>287 | 57=>268 | 63=>301 | 64=>302 | n=>n,fun | n=>n⟩
theorem Tryz.pS:Go.Proofs.SlLaysM.n5 Tryz.prog Tryz.tP:={
 mixed:=by kernel_rfl
 f5:=⟨Tryz.f81.name,by decide,Tryz.func81.trans<|congrArg some x0⟩
 f7:=⟨Tryz.f136.name,by decide,Tryz.func136.trans<|congrArg some x0⟩
 f8:=Tryz.func137.trans<|congrArg some x0
 f10:=⟨Tryz.f163.name,by decide,Tryz.func163.trans<|congrArg some x0⟩
 f11:=⟨Tryz.f164.name,by decide,Tryz.func164.trans<|congrArg some x0⟩
 f12:=⟨Tryz.f165.name,by decide,Tryz.func165.trans<|congrArg some x0⟩
 f13:=⟨Tryz.f166.name,by decide,Tryz.func166.trans<|congrArg some x0⟩
 f14:=⟨Tryz.f167.name,by decide,Tryz.func167.trans<|congrArg some x0⟩
 f15:=⟨Tryz.f168.name,by decide,Tryz.func168.trans<|congrArg some x0⟩
 f16:=⟨Tryz.f169.name,by decide,Tryz.func169.trans<|congrArg some x0⟩
 f17:=⟨Tryz.f170.name,by decide,Tryz.func170.trans<|congrArg some x0⟩
 f18:=⟨Tryz.f171.name,by decide,Tryz.func171.trans<|congrArg some x0⟩
 f19:=Tryz.func172.trans<|congrArg some x0
 f20:=Tryz.func173.trans<|congrArg some x0
 f30:=⟨Tryz.f200.name,by decide,Tryz.func200.trans<|congrArg some x0⟩
 f31:=Tryz.func201.trans<|congrArg some x0
 f32:=Tryz.func202.trans<|congrArg some x0
 f33:=⟨Tryz.f203.name,by decide,Tryz.func203.trans<|congrArg some x0⟩
 f34:=⟨Tryz.f204.name,by decide,Tryz.func204.trans<|congrArg some x0⟩
 f35:=⟨Tryz.f205.name,by decide,Tryz.func205.trans<|congrArg some x0⟩
 f40:=⟨Tryz.f233.name,by decide,Tryz.func233.trans<|congrArg some x0⟩
 t0:=Tryz.underlying0
 a0:=Tryz.isAgg0
 z0:=Tryz.sizeOf0
 v0:=Tryz.zeroValue0
 t3:=Tryz.underlying3
 a3:=Tryz.isAgg3
 z3:=Tryz.sizeOf3
 v3:=Tryz.zeroValue3
 t4:=Tryz.underlying4
 a4:=Tryz.isAgg4
 z4:=Tryz.sizeOf4
 v4:=Tryz.zeroValue4
 t5:=Tryz.underlying5
 a5:=Tryz.isAgg5
 z5:=Tryz.sizeOf5
 v5:=Tryz.zeroValue5
 t9:=Tryz.underlying9
 a9:=Tryz.isAgg9
 z9:=Tryz.sizeOf9
 v9:=Tryz.zeroValue9
 t22:=Tryz.underlying32
 a22:=Tryz.isAgg32
 z22:=Tryz.sizeOf32
 v22:=Tryz.zeroValue32
 t23:=Tryz.underlying32
 a23:=Tryz.isAgg32
 z23:=Tryz.sizeOf32
 v23:=Tryz.zeroValue32
 t25:=Tryz.underlying3
 a25:=Tryz.isAgg3
 z25:=Tryz.sizeOf3
 v25:=Tryz.zeroValue3
 t32:=Tryz.underlying222
 a32:=Tryz.isAgg222
 z32:=Tryz.sizeOf222
 v32:=Tryz.zeroValue222
 t35:=Tryz.underlying251
 a35:=Tryz.isAgg251
 z35:=Tryz.sizeOf251
 v35:=Tryz.zeroValue251
 t36:=Tryz.underlying252
 a36:=Tryz.isAgg252
 z36:=Tryz.sizeOf252
 v36:=Tryz.zeroValue252
 t41:=Tryz.underlying68
 a41:=Tryz.isAgg68
 z41:=Tryz.sizeOf68
 v41:=Tryz.zeroValue68
 t44:=Tryz.underlying259
 a44:=Tryz.isAgg259
 z44:=Tryz.sizeOf259
 v44:=Tryz.zeroValue259
 t46:=Tryz.underlying261
 a46:=Tryz.isAgg261
 z46:=Tryz.sizeOf261
 v46:=Tryz.zeroValue261
 t53:=Tryz.underlying287
 a53:=Tryz.isAgg287
 z53:=Tryz.sizeOf287
 v53:=Tryz.zeroValue287
 t57:=Tryz.underlying268
 a57:=Tryz.isAgg268
 z57:=Tryz.sizeOf268
 v57:=Tryz.zeroValue268
 t63:=Tryz.underlying301
 a63:=Tryz.isAgg301
 z63:=Tryz.sizeOf301
 v63:=Tryz.zeroValue301
 t64:=Tryz.underlying302
 a64:=Tryz.isAgg302
 z64:=Tryz.sizeOf302
 v64:=Tryz.zeroValue302}
theorem D9(m:Nat):Go.Proofs.AnyZI.SortsIn Tryz.prog Tryz.aG Fence.wide m:=⟨λblk off cap c W d a b=>hQ.2<|Go.Proofs.AnyM.slices_Sort_int Tryz.pS blk off cap c W d a b,λp cap W=>hQ.2<|Go.Proofs.AnyM.slices_Sort_int_none Tryz.pS p cap W⟩
def Tryz.aA:Go.Shelf.Ren:=⟨fun | 7=>71 | 10=>122 | n=>n,fun | 23=>154 | 26=>3 | 3=>106 | 28=>117 | 0=>0 | 27=>116 | 33=>88 | 4=>4 | n=>n,fun | n=>n⟩
theorem Tryz.tZ:Go.Proofs.SlLaysZI.n7 Tryz.prog Tryz.aA:={
 mixed:=by kernel_rfl
 f7:=⟨Tryz.f71.name,by decide,Tryz.func71.trans<|congrArg some x0⟩
 f10:=⟨Tryz.f122.name,by decide,Tryz.func122.trans<|congrArg some x0⟩
 t0:=Tryz.underlying0
 a0:=Tryz.isAgg0
 z0:=Tryz.sizeOf0
 v0:=Tryz.zeroValue0
 t4:=Tryz.underlying4
 a4:=Tryz.isAgg4
 z4:=Tryz.sizeOf4
 v4:=Tryz.zeroValue4
 t23:=Tryz.underlying154
 a23:=Tryz.isAgg154
 z23:=Tryz.sizeOf154
 v23:=Tryz.zeroValue154
 t26:=Tryz.underlying3
 a26:=Tryz.isAgg3
 z26:=Tryz.sizeOf3
 v26:=Tryz.zeroValue3
 t27:=Tryz.underlying116
 a27:=Tryz.isAgg116
 z27:=Tryz.sizeOf116
 v27:=Tryz.zeroValue116
 t28:=Tryz.underlying117
 a28:=Tryz.isAgg117
 z28:=Tryz.sizeOf117
 v28:=Tryz.zeroValue117
 t33:=Tryz.underlying88
 a33:=Tryz.isAgg88
 z33:=Tryz.sizeOf88
 v33:=Tryz.zeroValue88}
theorem uR:KeysOf Tryz.prog 71 122 154:=λa W=>(hQ (n:=5)).1<|oT Tryz.tZ Fence.wide 5 trivial rfl a W
theorem LB:DH Tryz.prog 31 122 3 3:=by
 refine⟨λb p D c w d k f l=> ?_,λc w d k=> ?_⟩
 ·have a:SeqGives Fence.wide 2 Tryz.prog 122 #[.pointer<|some ⟨c,0,none⟩] encZ (λj=>j.Perm<|intKeys D) (Maps.size D) w:=oI (ρ:=Tryz.aA) {Tryz.tZ with} Fence.wide _ trivial rfl eB c b p D w d k f;have h:=my Tryz.sW Fence.wide 5 trivial trivial trivial trivial rfl eB (D9 _) Tryz.call81 122 #[.pointer<|some ⟨c,0,none⟩] trivial Tryz.call122 _ _ (mz l (by unfold maxLen;omega)) eB _ a;exact(hQ (n:=5)).1 h
 ·have a:SeqGives Fence.wide 2 Tryz.prog 122 #[.pointer<|some ⟨c,0,none⟩] encZ (λj:Q0 Int=>j=[]) 0 w:=e0 (ρ:=Tryz.aA) {Tryz.tZ with} Fence.wide _ trivial rfl c w d k;have h:=my Tryz.sW Fence.wide 5 trivial trivial trivial trivial rfl eB (D9 _) Tryz.call81 122 #[.pointer<|some ⟨c,0,none⟩] trivial Tryz.call122 _ 0 (oO _) eB _ a;refine((hQ (n:=5)).1 h).mono ?_;rintro e w' ⟨v,j,rfl,rfl,o,i,q⟩;obtain rfl:v= .slice none 0 0:=i.2 rfl;exact⟨rfl,q⟩
def Tryz.aB:Go.Shelf.Ren:=⟨fun | 7=>32 | 10=>82 | n=>n,fun | 23=>111 | 26=>3 | 3=>120 | 28=>117 | 0=>0 | 27=>116 | 33=>88 | 4=>4 | n=>n,fun | n=>n⟩
theorem Tryz.tc:Go.Proofs.SlLaysZI.n7 Tryz.prog Tryz.aB:={
 mixed:=by kernel_rfl
 f7:=⟨Tryz.f32.name,by decide,Tryz.func32.trans<|congrArg some x0⟩
 f10:=⟨Tryz.f82.name,by decide,Tryz.func82.trans<|congrArg some x0⟩
 t0:=Tryz.underlying0
 a0:=Tryz.isAgg0
 z0:=Tryz.sizeOf0
 v0:=Tryz.zeroValue0
 t4:=Tryz.underlying4
 a4:=Tryz.isAgg4
 z4:=Tryz.sizeOf4
 v4:=Tryz.zeroValue4
 t23:=Tryz.underlying111
 a23:=Tryz.isAgg111
 z23:=Tryz.sizeOf111
 v23:=Tryz.zeroValue111
 t26:=Tryz.underlying3
 a26:=Tryz.isAgg3
 z26:=Tryz.sizeOf3
 v26:=Tryz.zeroValue3
 t27:=Tryz.underlying116
 a27:=Tryz.isAgg116
 z27:=Tryz.sizeOf116
 v27:=Tryz.zeroValue116
 t28:=Tryz.underlying117
 a28:=Tryz.isAgg117
 z28:=Tryz.sizeOf117
 v28:=Tryz.zeroValue117
 t33:=Tryz.underlying88
 a33:=Tryz.isAgg88
 z33:=Tryz.sizeOf88
 v33:=Tryz.zeroValue88}
theorem uS:KeysOf Tryz.prog 32 82 111:=λa W=>(hQ (n:=5)).1<|oT Tryz.tc Fence.wide 5 trivial rfl a W
theorem OL:DH Tryz.prog 31 82 3 3:=by
 refine⟨λb p D c w d k f l=> ?_,λc w d k=> ?_⟩
 ·have a:SeqGives Fence.wide 2 Tryz.prog 82 #[.pointer<|some ⟨c,0,none⟩] encZ (λj=>j.Perm<|intKeys D) (Maps.size D) w:=oI (ρ:=Tryz.aB) {Tryz.tc with} Fence.wide _ trivial rfl eB c b p D w d k f;have h:=my Tryz.sW Fence.wide 5 trivial trivial trivial trivial rfl eB (D9 _) Tryz.call81 82 #[.pointer<|some ⟨c,0,none⟩] trivial Tryz.call82 _ _ (mz l (by unfold maxLen;omega)) eB _ a;exact(hQ (n:=5)).1 h
 ·have a:SeqGives Fence.wide 2 Tryz.prog 82 #[.pointer<|some ⟨c,0,none⟩] encZ (λj:Q0 Int=>j=[]) 0 w:=e0 (ρ:=Tryz.aB) {Tryz.tc with} Fence.wide _ trivial rfl c w d k;have h:=my Tryz.sW Fence.wide 5 trivial trivial trivial trivial rfl eB (D9 _) Tryz.call81 82 #[.pointer<|some ⟨c,0,none⟩] trivial Tryz.call82 _ 0 (oO _) eB _ a;refine((hQ (n:=5)).1 h).mono ?_;rintro e w' ⟨v,j,rfl,rfl,o,i,q⟩;obtain rfl:v= .slice none 0 0:=i.2 rfl;exact⟨rfl,q⟩
def Tryz.si:Go.Shelf.Ren:=⟨fun | 7=>155 | 10=>196 | n=>n,fun | 23=>112 | 26=>3 | 3=>4 | 28=>117 | 0=>0 | 27=>116 | 33=>88 | 4=>4 | n=>n,fun | n=>n⟩
theorem Tryz.aw:Go.Proofs.SlLaysZI.n7 Tryz.prog Tryz.si:={
 mixed:=by kernel_rfl
 f7:=⟨Tryz.f155.name,by decide,Tryz.func155.trans<|congrArg some x0⟩
 f10:=⟨Tryz.f196.name,by decide,Tryz.func196.trans<|congrArg some x0⟩
 t0:=Tryz.underlying0
 a0:=Tryz.isAgg0
 z0:=Tryz.sizeOf0
 v0:=Tryz.zeroValue0
 t4:=Tryz.underlying4
 a4:=Tryz.isAgg4
 z4:=Tryz.sizeOf4
 v4:=Tryz.zeroValue4
 t23:=Tryz.underlying112
 a23:=Tryz.isAgg112
 z23:=Tryz.sizeOf112
 v23:=Tryz.zeroValue112
 t26:=Tryz.underlying3
 a26:=Tryz.isAgg3
 z26:=Tryz.sizeOf3
 v26:=Tryz.zeroValue3
 t27:=Tryz.underlying116
 a27:=Tryz.isAgg116
 z27:=Tryz.sizeOf116
 v27:=Tryz.zeroValue116
 t28:=Tryz.underlying117
 a28:=Tryz.isAgg117
 z28:=Tryz.sizeOf117
 v28:=Tryz.zeroValue117
 t33:=Tryz.underlying88
 a33:=Tryz.isAgg88
 z33:=Tryz.sizeOf88
 v33:=Tryz.zeroValue88}
theorem EZ:KeysOf Tryz.prog 155 196 112:=λa W=>(hQ (n:=5)).1<|oT Tryz.aw Fence.wide 5 trivial rfl a W
theorem AW:DH Tryz.prog 31 196 3 3:=by
 refine⟨λb p D c w d k f l=> ?_,λc w d k=> ?_⟩
 ·have a:SeqGives Fence.wide 2 Tryz.prog 196 #[.pointer<|some ⟨c,0,none⟩] encZ (λj=>j.Perm<|intKeys D) (Maps.size D) w:=oI (ρ:=Tryz.si) {Tryz.aw with} Fence.wide _ trivial rfl eB c b p D w d k f;have h:=my Tryz.sW Fence.wide 5 trivial trivial trivial trivial rfl eB (D9 _) Tryz.call81 196 #[.pointer<|some ⟨c,0,none⟩] trivial Tryz.call196 _ _ (mz l (by unfold maxLen;omega)) eB _ a;exact(hQ (n:=5)).1 h
 ·have a:SeqGives Fence.wide 2 Tryz.prog 196 #[.pointer<|some ⟨c,0,none⟩] encZ (λj:Q0 Int=>j=[]) 0 w:=e0 (ρ:=Tryz.si) {Tryz.aw with} Fence.wide _ trivial rfl c w d k;have h:=my Tryz.sW Fence.wide 5 trivial trivial trivial trivial rfl eB (D9 _) Tryz.call81 196 #[.pointer<|some ⟨c,0,none⟩] trivial Tryz.call196 _ 0 (oO _) eB _ a;refine((hQ (n:=5)).1 h).mono ?_;rintro e w' ⟨v,j,rfl,rfl,o,i,q⟩;obtain rfl:v= .slice none 0 0:=i.2 rfl;exact⟨rfl,q⟩
abbrev JU:=Q0<|Q0<|Int×QF
abbrev ZV:=Q0<|Q0<|Int×Bool
abbrev Jb:=Q0<|Q0<|Int×(K1 Nat)
def U1(F:Fz)(p:Rw)(c:Q0 UV×Q0 UV)(M:((QA×Unit×(Q0 Int))->K1 (Out Qp<|(Q0 H1)×QA))):Prop:=∀U:Jl,TX Tryz.prog Jc F p c (fun(x:(QA×Unit×(Q0 Int))) F vs=>∃(a:K1 C3) (b:Nat),vs=[(vP U.g65 0),(vS a x.2.2 b)]/\QG 1 (Ex<|Zy .i64) F a b x.2.2) (λF (x:(QA×Unit×(Q0 Int)))=>[Q9 U F x.1]) (fun(r:(Q0 H1)×QA) _ v=>v=(.string<|bs r.1)) (λF (_:(QA×Unit×(Q0 Int))) (r:(Q0 H1)×QA)=>[YC U F r.2]) M
theorem U1.mono{p:Rw}{c:Q0 UV×Q0 UV}{M:((QA×Unit×(Q0 Int))->K1 (Out Qp<|(Q0 H1)×QA))}(h:U1 F p c M)(le:F<=F'):U1 F' p c M:=λU=>(h U).mono le
abbrev Su(U:Jl)(F:Fz)(p:Rw)(c:Q0 UV×Q0 UV)(M:(((Q0 QK)×(Q0 Qm)×(Q0<|Q0<|Int×Bool)×(Q0<|Q0<|Int×(K1 Nat))×(K1 Nat)×QE)->K1 (Out Zl<|(Q0 QK)×(Q0<|Q0<|Int×Bool)×(Q0<|Q0<|Int×(K1 Nat))))):Prop:=TX Tryz.prog Wb F p c (fun(x:((Q0 QK)×(Q0 Qm)×(Q0<|Q0<|Int×Bool)×(Q0<|Q0<|Int×(K1 Nat))×(K1 Nat)×QE)) F vs=>∃(p0:K1 C3) (_:Unit),vs=[(.pointer p0),(JO x.2.2.2.2.2)]/\ZP U.g156 F p0 x.2.2.2.2.1) (λF (x:((Q0 QK)×(Q0 Qm)×(Q0<|Q0<|Int×Bool)×(Q0<|Q0<|Int×(K1 Nat))×(K1 Nat)×QE))=>[Qy U F x.1,ZC U F x.2.1,Qe U F x.2.2.1,ZH U F x.2.2.2.1]) (fun(_:(Q0 QK)×(Q0<|Q0<|Int×Bool)×(Q0<|Q0<|Int×(K1 Nat))) _ v=>v= .tuple #[]) (λF (x:((Q0 QK)×(Q0 Qm)×(Q0<|Q0<|Int×Bool)×(Q0<|Q0<|Int×(K1 Nat))×(K1 Nat)×QE)) (r:(Q0 QK)×(Q0<|Q0<|Int×Bool)×(Q0<|Q0<|Int×(K1 Nat)))=>[Qy U F r.1,ZC U F x.2.1,Qe U F r.2.1,ZH U F r.2.2]) M
abbrev DI(U:Jl)(F:Fz)(p:Rw)(c:Q0 UV×Q0 UV)(M:(((Q0 QD)×(Q0<|Q0<|Int×QF)×(Q0<|Q0<|Int×Bool)×QN)->K1 (Out Zt<|(Q0 QD)×(Q0<|Q0<|Int×QF)×(Q0<|Q0<|Int×Bool)))):Prop:=TX Tryz.prog Xo F p c (fun(x:((Q0 QD)×(Q0<|Q0<|Int×QF)×(Q0<|Q0<|Int×Bool)×QN)) _ vs=>vs=[(JN x.2.2.2)]) (λF (x:((Q0 QD)×(Q0<|Q0<|Int×QF)×(Q0<|Q0<|Int×Bool)×QN))=>[Za U F x.1,KU U F x.2.1,Qe U F x.2.2.1]) (fun(_:(Q0 QD)×(Q0<|Q0<|Int×QF)×(Q0<|Q0<|Int×Bool)) _ v=>v= .tuple #[]) (λF (_:((Q0 QD)×(Q0<|Q0<|Int×QF)×(Q0<|Q0<|Int×Bool)×QN)) (r:(Q0 QD)×(Q0<|Q0<|Int×QF)×(Q0<|Q0<|Int×Bool))=>[Za U F r.1,KU U F r.2.1,Qe U F r.2.2]) M
end
section
open Go.Dec Go.Proofs.Tryz Go.Shelf Go.RowKit Go.Maps Go.Sort
set_option maxRecDepth 100000
set_option maxHeartbeats 4000000
variable{σ ε:Type}
def K0(y:(Q0 Int)->σ->K1 (Out ε<|σ×Bool))(d:(Q0 Int))(h:Int)(a:Int×σ):K1 (UQ (Int×σ)<|(Out ε σ) ⊕ (Out ε σ)):=if(decide<|a.1 < (d.length:Int)) then((ZZ d a.1 d.length).bind λe=>QS (Je h (e.length:Int)) λb=>(ZZ d a.1<|Q8<|a.1+b).bind λf=>Q4 (y f a.2) (λq=>some<|.done<|.inr<|.pan q) λc=>if(!c.2) then(some<|.done<|.inr<|.ok c.1) else(QS (Q8<|a.1+h) λg=>some<|.next (g,c.1))) else(some<|.done<|.inl<|.ok a.2)
def Ut(y:(Q0 Int)->σ->K1 (Out ε<|σ×Bool))(b:(Q0 Int))(c:Int)(d:σ):K1 (Out ε σ):=(ZU (K0 y b c) (0,d)).bind λe=>match e with | .inl a=>(some a) | .inr a=>(some a)
theorem Cv(F0:Fz)(ε σ:Type)(ec:ε->UV)(G:Nat)(Y:σ->Fz->HP)(Z:ε->Fz->HP)(y:(Q0 Int)->σ->K1 (Out ε<|σ×Bool))(hy:PF prog ec G F0 (fun(x:(Q0 Int)) F vs=>∃(Q:K1 C3) (S:Nat),vs=[(vS Q x S)]/\QG 1 (Ex<|Zy .i64) F Q S x) Y Z y)(H:(Q0 Int))(I:Nat)(T:K1 C3)(V:Nat)(l:F0.mem I=some (.cells #[(vS T H V)] 32))(W:QG 1 (Ex<|Zy .i64) F0 T V H)(X:Int)(K:Nat)(v:F0.mem K=some (.cells #[(vI X)] 3))(s0:σ):dY prog ec 144 #[(.func (.yield G) #[] #[]),(vP I 0),(vP K 0)] F0 (Y s0 F0) (Ut y H X s0) Y Z:=by
 refine dY.enter func144 J ntmps144 J λr R=> ?_;unfold Ut;refine .w 6 (.keep (.p [0,1,2,4] J)<|.loop (fun(o:Int×σ) a w=>∃(d:Fz),F0<=d/\Hd 31 [] [(0,(.func (.yield G) #[] #[])),(1,(vP I 0)),(2,(vP K 0)),(4,(vI o.1))] d [Y o.2 d,R] a w) (λb0 e a w=>match b0 with | .inl (.ok s)=>e= .exit 0/\∃(u:Fz),F0<=u/\Hd 31 [] [] u [Y s u,R] a w | .inl (.pan q)=>False | .inr (.ok s)=>e= .ret/\∃(c:Fz),F0<=c/\Hd 31 [] [] c [Y s c,R] a w | .inr (.pan q)=>e= .panic (A0 ec q)/\∃(c:Fz),F0<=c/\Hd 31 [] [] c [Z q c,R] a w) ?_ ?_ ?_)
 ·exact λa w h=>⟨F0,Fz.r,h.1.sub<|.k J,h.2⟩
 ·intro o aE;refine GG.ex λa w ⟨d,b,g⟩=>⟨_,g,?_⟩;unfold K0;refine .w 4<|.U J vE J (b.mem _ _ l) J<|.cm J J UA J<|.w 3<|.i J (λA=> ?_) λA=> ?_
  ·refine .w 5<|.keep (.p [0,1,2,4] J)<|.cS 7 Qb x0<|.U J V3 J (b.mem _ _ v) J<|.U J vE J (b.mem _ _ l) J<|.m J J<|.sr J UA W3 (W.mono b) J J λaF aG aH aI aJ=>.cm J J UA J<|.min2 J J J<|.cR J J λD aK=>.cc<|.w 5<|.U J vE J (b.mem _ _ l) J<|.w 7<|.tQ J UA W3 (W.mono b) J J J J λaL L M aM N=>.nU J hy J J ⟨L,M,J,N⟩ (i:=0) J b Fz.r (λaN j _ f=>.w 3<|.i J (λB=> ?_) λB=> ?_) λq j f hq a w g=>Q7.pan (λa w h=>⟨J,j,(Fz.t b f),h.1.sub<|.k J,h.2⟩) hq a w g
   ·refine .cw<|Q7.ret λa w h=>⟨J,j,(Fz.t b f),h.1.sub<|.k J,h.2⟩
   ·exact .w 5<|.U J V3 J ((Fz.t b f).mem _ _ v) J<|.add J J J<|.cR J J λaP aQ=>.n<|.cK<|Q7.norm λa w h=>⟨j,(Fz.t b f),h.1.sub<|.k J,h.2⟩
  ·refine .cO J<|Q7.exit λa w h=>⟨J,d,b,h.1.sub<|.k J,h.2⟩
 ·intro z aR P e a w E;rcases z with(z | q) | (z | q)
  ·obtain⟨rfl,F1,C,g⟩:=E;exact ZE J<|GG.app (GG.cK<|L6 results144 .n C) P a w g
  ·exact E.elim
  ·obtain⟨rfl,F1,C,g⟩:=E;exact JT<|L6 results144 .n C P a w g
  ·obtain⟨rfl,F1,C,g⟩:=E;exact JB<|j8 C P a w g
def SS{α:Type}(n:Nat)(l:Q0 α):Nat->Nat->Q0 (Q0 α)
 | 0,_=>[]
 | d+1,a=>if a < l.length then(l.drop a).take n::SS n l d (a+n) else[]
def WL(a:(Q0 Int))(b:Int):K1 (Q0<|Q0 Int):=if 0 < b/\b<=1000000/\a.length<=1000000000000 then some (SS b.toNat a a.length 0) else none
theorem Mj{y:(Q0 Int)->σ->K1 (Out ε<|σ×Bool)}{l:Q0 Int}{n:Nat}(j:0 < n)(f:n<=1000000)(k:l.length<=1000000000000):∀(d a:Nat) (s:σ) (r:Out ε σ),l.length<=a+d->a<=l.length+n->Gr y (SS n l d a) s=some r->
  ZU (K0 y l (n:Int)) ((a:Int),s)=some (.inl r)∨ZU (K0 y l (n:Int)) ((a:Int),s)=some (.inr r)
 | 0,a,s,r,m,_,h=>by
  simp only[SS,Gr,W1] at h
  subst h;left;rw[ZJ];have:¬a < l.length:=by omega
  simp[K0,this]
 | d+1,a,s,r,m,v,h=>by
  by_cases b:a < l.length
  ·simp only[SS,BY b,Gr] at h
   have g:ZZ l (a:Int) (l.length:Int)=some (l.drop a):=by
    unfold ZZ;rw[BY eB];simp only[hR];rw[IF eF]
   have o:Q8 ((a:Int)+n)=((a+n:Nat):Int):=by rw[Qo eB eB];omega
   have he:Je (n:Int) ((l.drop a).length:Int)=((min n (l.length - a):Nat):Int):=by
    unfold Je;simp only[lK];split<;>omega
   have hs:ZZ l (a:Int) (Q8<|(a:Int)+((min n (l.length - a):Nat):Int))=some ((l.drop a).take n):=by
    rw[Qo eB eB];unfold ZZ;rw[BY eB];congr 1;have t:((a:Int)+((min n (l.length - a):Nat):Int)).toNat - (a:Int).toNat=min n (l.length - a):=by omega
    rw[t,hR,<-lK,<-List.take_eq_take_min]
   rw[ZJ]
   have u:K0 y l (n:Int) ((a:Int),s)=Q4 (y ((l.drop a).take n) s) (λq=>some<|.done<|.inr<|.pan q) λc=>if(!c.2) then(some<|.done<|.inr<|.ok c.1) else some (.next (((a+n:Nat):Int),c.1)):=by
    show(if decide ((a:Int) < (l.length:Int)) then _ else _)=_;rw[BY<|by simpa using b];rw[g];show(ZZ l (a:Int)<|Q8<|(a:Int)+Je (n:Int) ((l.drop a).length:Int)).bind _=_;rw[he,hs,<-o];rfl
   rw[u];cases i:y ((l.drop a).take n) s with
   | none=>rw[i] at h;cases h
   | some p=>
    rw[i] at h
    cases p with
    | pan q=>
     simp only[Q4,W1] at h ⊢
     right;rw[h]
    | ok p=>
     simp only[Q4] at h ⊢
     by_cases e:p.2=true
     ·rw[BY e] at h
      have:=Mj j f k d (a+n) p.1 r eB eB h;simpa[e] using this
     ·rw[B1 e] at h
      simp only[W1] at h
      right;simp[e,h]
  ·simp only[SS,B1 b,Gr,W1] at h
   subst h;left;rw[ZJ];simp[K0,b]
theorem B0{y:(Q0 Int)->σ->K1 (Out ε<|σ×Bool)}{c:(Q0 Int)}{a:Int}{l:Q0 (Q0 Int)}{s:σ}{r:Out ε σ}(b:WL c a=some l)(d:Gr y l s=some r):Ut y c a s=some r:=by
 unfold WL at b
 unfold Ut;split at b
 ·rename_i h;simp only[W1] at b
  subst b;have e:((a.toNat:Nat):Int)=a:=by omega
  have:=Mj (n:=a.toNat) eB eB h.2.2 c.length 0 s r eB eB d;rw[e] at this
  rcases this with e | e
  ·exact ZT e rfl
  ·exact ZT e rfl
 ·cases b
def KC(y:ON->σ->K1 (σ×Bool))(A2:Jb)(d:Qm)(b:(Q0 Int))(a:Int×σ):K1 (UQ (Int×σ)<|(σ) ⊕ (σ)):=if(decide<|a.1 < (b.length:Int)) then((ZX b a.1).bind λe=>(d.casks).bind λf=>(A2[f]?).bind λg=>(y ((Qc g e).getD none) a.2).bind λc=>if(!c.2) then(some<|.done<|.inr c.1) else(some<|.next ((Q8<|a.1+1),c.1))) else(some<|.done<|.inl a.2)
def Us(y:ON->σ->K1 (σ×Bool))(A1:Q0 Qm)(A2:Jb)(d:ON)(e:σ):K1 σ:=d.bind λf=>(A1[f]?).bind λb=>(UC A2 b.casks).bind λc=>(ZU (KC y A2 b c) (0,e)).bind λg=>match g with | .inl a=>(some a) | .inr a=>(some a)
theorem Ct(F0:Fz)(U:Jl)(σ:Type)(ly:Nat)(Y:σ->Fz->HP)(y:ON->σ->K1 (σ×Bool))(hy:WJ prog ly F0 (fun(x:ON) F vs=>∃(p0:K1 C3) (_:Unit),vs=[(.pointer p0)]/\ZP U.g167 F p0 x) Y y)(A1:Q0 Qm)(A2:Jb)(c3:ON)(b4:Nat)(p6:K1 C3)(_:Unit)(K:F0.mem b4=some (.cells #[(.pointer p6)] 100))(h8:ZP U.g156 F0 p6 c3)(s0:σ):Xs prog 70 #[(.func (.yield ly) #[] #[]),(vP b4 0)] F0 [ZC U F0 A1,ZH U F0 A2,Y s0 F0] (Us y A1 A2 c3 s0) (λ_ _ _=>True) (λs' F' =>[ZC U F' A1,ZH U F' A2,Y s' F']):=by
 refine Xs.enter func70 J ntmps70 J λr R=>(.o (Sub.refl _) (J:_=[ZC U F0 A1,ZH U F0 A2,Y s0 F0,R]) ?_);unfold Us;refine .w 2<|.U J Lf J K J<|.d λi9 aG=> ?_;obtain⟨aj,A,B⟩:=h8.at aG;refine .cB B J J (.f J RD J IT J<|.d λL M=>.cG (Φ:=λv=>∃(D:K1 Nat) (aH:Unit),v=(.map D)/\Z3 U.g154 F0 D L.casks) 0 J Fz.r A M J IV J (λvs ⟨q0,q1,h,r0⟩=>⟨_,by subst h;exact J,q0,q1,J,r0⟩) λv N=> ?_);obtain⟨D,aH,rfl,aL⟩:=N;refine .tz uR J call71 J J (λak al b P=>.aX U3 LB (c:=(Ex<|Zy .i64)) (λ_ _=>J) (P) 1 J (aL.mono b) J call31 J J λC q aM aN an g aO=>.cm J J UA J<|.w 4<|.keep (.p [0,1,10,11,12] J)<|.mH 2 hy J Fz.r (Fz.t b g)<|.loop (fun(E:Int×σ) a w=>∃(n:Fz),q<=n/\Hd 26 [] [(0,(.func (.yield ly) #[] #[])),(1,(vP b4 0)),(10,(vS aM C aN)),(11,(vI (C.length:Int))),(12,(vI E.1))] n [ZC U F0 A1,ZH U F0 A2,Y E.2 n,R] a w) (λb0 e a w=>match b0 with | .inl l=>e= .exit 0/\∃(s:Fz),q<=s/\Hd 26 [] [] s [ZC U F0 A1,ZH U F0 A2,Y l s,R] a w | .inr l=>e= .ret/\∃(u:Fz),q<=u/\Hd 26 [] [] u [ZC U F0 A1,ZH U F0 A2,Y l u,R] a w) ?_ ?_ ?_)
 ·exact λa w h=>⟨q,Fz.r,h.1.sub<|.k J,h.2⟩
 ·intro E aq;refine GG.ex λa w ⟨n,j,Q⟩=>⟨_,Q,?_⟩;unfold KC;refine .w 6<|.i J (λS=> ?_) λS=> ?_
  ·refine .w 6 (.idx J UA W3 (aO.mono j) J J λaP ar au av ad ae aw T V=>.U J V3 J T (QI (k:=0) V J)<|.w 6<|.U J Lf J ((Fz.t b<|Fz.t g j).mem _ _ K) J<|.cB B J J<|.f J RD J IT J<|.cG (Φ:=λv=>∃(G:K1 Nat) (aQ:Unit),v=(.map G)/\Z3 U.g154 n G L.casks) 0 J (Fz.t b<|Fz.t g j) (A.mono<|Fz.t b<|Fz.t g j) M J IV J (λvs ⟨q0,q1,h,r0⟩=>⟨_,by subst h;exact J,q0,q1,J,r0⟩) λv N=> ?_);obtain⟨G,aQ,rfl,aR⟩:=N;refine .m J J<|.d λax aS=> ?_;obtain⟨ay,W,X⟩:=aR.at aS;refine .d λaz aU=>.sc (key:=aP) (z:=none) 1 J (Fz.t b<|Fz.t g j) W X aU J zF (.int U3) wB ⟨none,(),J,ZP.nil⟩ J J ?_;intro v N;obtain⟨aV,aW,rfl,aX⟩:=N;refine .tN J hy J J ⟨aV,aW,J,aX⟩ (i:=2) J (Fz.t b<|Fz.t g j) Fz.r λa1 Z a6 aA=>.w 3<|.i J (λaB=> ?_) λaB=> ?_
   ·refine .cw<|Q7.ret λa w h=>⟨J,Z,(Fz.t j aA),h.1.sub<|.k J,h.2⟩
   ·exact .w 7<|.cK<|Q7.norm λa w h=>⟨Z,(Fz.t j aA),h.1.sub<|.k J,h.2⟩
  ·refine .cO J<|Q7.exit λa w h=>⟨J,n,j,h.1.sub<|.k J,h.2⟩
 ·intro l a7 hk e a w hD;rcases l with l | l
  ·obtain⟨rfl,s,H,Q⟩:=hD;refine ZE J<|GG.app ?_ hk a w Q;exact .cQ 0 (Kc U) (Fz.t b<|Fz.t g H) J<|.cQ 1 (Kq U) (Fz.t b<|Fz.t g H) J<|.aW [0,0,0,0] results70 .nil J (Fz.t b<|Fz.t g H) trivial
  obtain⟨rfl,u,I,Q⟩:=hD;exact JT<|(λe a w h=>H7 [0,0,0,0] results70 .nil J (Fz.t b<|Fz.t g I) trivial e a w<|Hd.cQ 1 (Kq U) (Fz.t b<|Fz.t g I) J<|Hd.cQ 0 (Kc U) (Fz.t b<|Fz.t g I) J h) hk a w Q
def Vg(A1:Q0 Qm)(A2:Q0 (Q0<|Int×K1 Nat))(c:K1 Nat):K1 (Q0<|K1 Nat):=c.bind λi=>(A1[i]?).bind λb=>(b.casks).bind λj=>(A2[j]?).bind λl=>(Gy l).bind λks=>some<|ks.map λk=>(Qc l k).getD none
theorem RV{y:K1 Nat->σ->K1 (σ×Bool)}{A2:Q0 (Q0<|Int×K1 Nat)}{x:Qm}{j:Nat}{l:Q0 (Int×K1 Nat)}{ks:Q0 Int}(e:x.casks=some j)(f:A2[j]? =some l)(g:ks.length<=1000000):∀(d k:Nat) (s r:σ),k+d=ks.length->WG y ((ks.drop k).map λk=>(Qc l k).getD none) s=some r->
  ZU (KC y A2 x ks) ((k:Int),s)=some (.inl r)∨ZU (KC y A2 x ks) ((k:Int),s)=some (.inr r)
 | 0,k,s,r,i,h=>by
  rw[u0 eB] at h
  simp only[oV,WG,W1] at h
  subst h;left;rw[ZJ];have:¬k < ks.length:=by omega
  simp[KC,this]
 | d+1,k,s,r,i,h=>by
  have a:k < ks.length:=by omega
  have m:Q8 ((k:Int)+1)=((k+1:Nat):Int):=by rw[Qo eB eB];rfl
  rw[u2 a] at h
  have hi:ZX ks (k:Int)=some ks[k]:=by simp[ZX,a]
  simp only[E4,WG] at h
  rw[ZJ];cases b:y ((Qc l ks[k]).getD none) s with
  | none=>rw[b] at h;cases h
  | some p=>
   rw[b] at h
   simp only[K2] at h
   by_cases c:p.2=true
   ·rw[BY c] at h
    have:=RV e f g d (k+1) p.1 r eB h;simpa[KC,a,hi,e,f,b,c,m] using this
   ·rw[B1 c] at h
    simp only[W1] at h
    right;simp[KC,a,hi,e,f,b,c,h]
theorem Bz{y:K1 Nat->σ->K1 (σ×Bool)}{A1:Q0 Qm}{A2:Q0 (Q0<|Int×K1 Nat)}{c:K1 Nat}{l:Q0 (K1 Nat)}{s r:σ}(d:Vg A1 A2 c=some l)(n:WG y l s=some r):Us y A1 A2 c s=some r:=by
 simp only[Vg,If] at d
 obtain⟨i,hi,b,o,j,g,m,k,ks,a,d⟩:=d;simp only[W1] at d
 subst d
 have p:ks.length<=1000000:=by
  unfold Gy at a
  split at a
  ·rename_i h;simp only[W1] at a
   rw[<-a];simpa using h.2
  ·cases a
 have hs:UC A2 b.casks=some ks:=by simp[UC,g,k,a]
 unfold Us;rw[hi,K2,o,K2,hs,K2];rcases RV (y:=y) g k p ks.length 0 s r eB (by simpa using n) with e | e
 ·have f:ZU (KC y A2 b ks) (0,s)=some (.inl r):=e;rw[f];rfl
 ·have f:ZU (KC y A2 b ks) (0,s)=some (.inr r):=e;rw[f];rfl
def Yi(A1:Q0 QD)(c:ON)(d:QF):K1 (Int):=c.bind λa=>(A1[a]?).bind λb=>some<|Q8<|(Q8<|d.Sent+b.rules.Transit)+1
theorem Gd(F0:Fz)(U:Jl)(A1:Q0 QD)(l:ON)(n:K1 C3)(_:Unit)(q:ZP U.g114 F0 n l)(g:QF):Xs prog 133 #[(.pointer n),(YD g)] F0 [Za U F0 A1] (Yi A1 l g) (λr _ v=>v=(vI r)) (λ_ s=>[Za U s A1]):=by
 refine Xs.enter func133 J ntmps133 J λr R=>(.o (Sub.refl _) (J:_=[Za U F0 A1,R]) ?_);unfold Yi;refine .w 2 (.cV (cs:=(ZO g)) J J J λy z e a=>.w 4<|.keep (.p [0,3] J)<|.cS 10 Qb x0<|.f J ke J W3 J<|.U J V3 J a J<|.m J J<|.d λt i=> ?_);obtain⟨u,b,c⟩:=(q.mono e).at i;refine .cB c J J (.f J VV J Mx J<|.f J E6 J W3 J<|.d λj k=>.cG (Φ:=λv=>v=(vI j.rules.Transit)) 0 J e b k J V3 J (λvs ⟨A,B,C,D,E,F,G,H,h,I,K,L,M⟩=>⟨_,by subst h;exact J,J⟩) λv x=> ?_);subst x;exact .w 3<|.cc<|.w 2<|.cQ 0 (YM U) e J<|.sX [0,0] results133 (.tmp J<|.nil) J e J
def KI(A1:Q0 QD)(A3:ZV)(i:ON)(c:Int)(d:(Int×QF))(a:ZV):K1 (ZV):=((Yi A1 i d.2).bind λb=>(if(decide<|b<=c) then((a[A3.length]?).bind λe=>QS (List.set a A3.length<|Q5 e b true) λf=>some f) else(some a):K1 (ZV)).bind λg=>some g:K1 (ZV)).bind λh=>some h
def Z1(y:Int->σ->K1 (σ×Bool))(c:(Q0 Int))(a:Int×σ):K1 (UQ (Int×σ)<|(σ) ⊕ (σ)):=if(decide<|a.1 < (c.length:Int)) then((ZX c a.1).bind λd=>(y d a.2).bind λb=>if(!b.2) then(some<|.done<|.inr b.1) else(some<|.next ((Q8<|a.1+1),b.1))) else(some<|.done<|.inl a.2)
def UD(y:Int->σ->K1 (σ×Bool))(d:Q0 QD×JU×ZV->σ)(A1:Q0 QD)(A2:JU)(A3:ZV)(k:ON)(e:Int):K1 σ:=QS (A3++[[]]) λf=>k.bind λg=>(A1[g]?).bind λh=>(h.moving).bind λi=>(A2[i]?).bind λj=>(CY PI (KI A1 A3 k e) j f).bind λb=>(UC b<|some A3.length).bind λc=>(ZU (Z1 y c) (0,(d (A1,A2,b)))).bind λl=>match l with | .inl a=>(some a) | .inr a=>(some a)
theorem Be(F0:Fz)(U:Jl)(σ:Type)(ly:Nat)(Y:σ->Fz->HP)(Z:HP)(X:Q0 QD×JU×ZV->σ)(y:Int->σ->K1 (σ×Bool))(hy:WJ prog ly F0 (fun(x:Int) _ vs=>vs=[(vI x)]) Y y)(hp:∀(r:Q0 QD×JU×ZV) F',F0<=F'->∀m,Qh ([Za U F' r.1,KU U F' r.2.1,Qe U F' r.2.2]++[Z]) m->Y (X r) F' m)(A1:Q0 QD)(A2:JU)(A3:ZV)(c4:ON)(b5:Nat)(p7:K1 C3)(k8:Unit)(aX:F0.mem b5=some (.cells #[(.pointer p7)] 108))(h9:ZP U.g114 F0 p7 c4)(aL:Int)(N:Nat)(aY:F0.mem N=some (.cells #[(vI aL)] 3)):Xs prog 162 #[(.func (.yield ly) #[] #[]),(vP b5 0),(vP N 0)] F0 [Za U F0 A1,KU U F0 A2,Qe U F0 A3,Z] (UD y X A1 A2 A3 c4 aL) (λ_ _ _=>True) (λs' F' =>[Y s' F']):=by
 refine Xs.enter func162 J ntmps162 J λr R=>(.o (Sub.refl _) (J:_=[Za U F0 A1,KU U F0 A2,Qe U F0 A3,Z,R]) ?_);unfold UD;refine .w 2<|.sC (λx:Int=>(vI x)) (λ_ (x:Bool) v=>v=(.bool x)) J λaM=>.cH λbd ax=>.sU 0 2 J J (Zo U) Fz.r (λG m l hm=>Jn (Fz.t Fz.r l) hm) ax λaN g aE=>.w 6<|.U J D3 J (g.mem _ _ aX) J<|.d λbf ay=> ?_;obtain⟨bg,aZ,aa⟩:=(h9.mono g).at ay;refine .cB aa J J (.f J VV J zB J<|.d λaz a1=>.cG (Φ:=λv=>∃(aO:K1 Nat) (a6:Unit),v=(.map aO)/\Z3 U.g111 aN aO az.moving) 0 J g aZ a1 J zE J (λvs ⟨q0,q1,q2,q3,q4,q5,q6,q7,h,r0,r1,r2,r3⟩=>⟨_,by subst h;exact J,q4,q5,J,r2⟩) λv hv=> ?_);obtain⟨aO,a6,rfl,a8⟩:=hv;refine .d λaA bA=> ?_;obtain⟨C,ab,ad⟩:=a8.at bA;refine .d λbl ae=>.tS 1 J ab ad ae J kf J λj af=>.w 3<|.keep (.p [0,1,2,4,15] J)<|.cQ 1 (YM U) g J<|.tG (B:=0) (b:=(KI A1 A3 c4 aL)) PI (λP q (aP:ZV) a w=>∃(aB:Fz),aN<=aB/\Hd 41 [] [(0,(.func (.yield ly) #[] #[])),(1,(vP b5 0)),(2,(vP N 0)),(4,(.map<|some aM)),(15,(vP j 0))] aB [Uq (λx:Int=>(vI x)) (λ_ (x:QF) v=>v=(YD x)) F0 C j P q,Za U aB A1,hole U.g111 (RG U) F0 aA C A2,Qe U aB aP,Z,R] a w) J ?_ ?_ ?_ ?_
 ·exact λa w h=>⟨aN,Fz.r,h.1.sub<|.k J,h.2⟩
 ·exact λq bm bn a w hE ⟨bB,bC,D⟩=>⟨bB,bC,Hd.mV 3 J hE D⟩
 ·intro P q aP aC;rcases P with _ | ⟨y,ys⟩
  ·exact GG.ex λa w ⟨bD,bE,D⟩=>⟨_,D,(.w 2<|.tW 0 J J J J<|.w 4<|.sF J<|.cO J<|G9.over λa w h=>⟨bD,bE,h.1.sub<|.k J,h.2⟩)⟩
  ·refine GG.ex λa w ⟨ag,L,D⟩=>⟨_,D,(.w 2<|.tV 0 J (oS _ _) J J J λu z bp aF bQ=> ?_)⟩;obtain⟨bq,aG⟩:=aC u<|aF.mem_iff.1<|sp ..;refine .use aG ?_;unfold KI;refine .w 4<|.sR J<|.w 2<|.keep (.p [0,1,2,4,15] J)<|GG.cr (σ:=ZV) (λah a w=>∃(M:Fz),ag<=M/\Hd 41 [] [(0,(.func (.yield ly) #[] #[])),(1,(vP b5 0)),(2,(vP N 0)),(4,(.map<|some aM)),(15,(vP j 0))] M [Uq (λx:Int=>(vI x)) (λ_ (x:QF) v=>v=(YD x)) F0 C j z<|u::q,Za U M A1,hole U.g111 (RG U) F0 aA C A2,Qe U M ah,Z,R] a w) (λsj=> ?_) λah bF=>GG.ex λa w ⟨M,bG,D⟩=>⟨_,D,?_⟩
   ·refine .w 3<|.tf 0 J J J J λv hv=> ?_;obtain rfl:=hv _<|Fz.t g L;refine .x J J J<|.l (cs:=(ZO<|QF.mk 0 0 0 0 0)) J kZ J λai=>.store (cs' :=(ZO u.2)) yz J J J J (i:=0) J (JK J) J (QY iO)<|.w 4<|.U J D3 J ((Fz.t g L).mem _ _ aX) J<|.cP J dM yz J (i:=0) J (vs:=(ZO u.2)) x0 J<|.cg [2] J call133 J J J J (Gd _ U A1 c4 p7 k8 (h9.mono<|Fz.t g L) u.2)<|K8 λbH Q bt S=>.pick [1,1,0,0,0,0,0] (J:_=[pc ai (ZO u.2) 120,Uq (λx:Int=>(vI x)) (λ_ (x:QF) v=>v=(YD x)) F0 C j z<|u::q,Za U Q A1,hole U.g111 (RG U) F0 aA C A2,Qe U ag aP,Z,R])<|.w 6<|.U J V3 J ((Fz.t g<|Fz.t L S).mem _ _ aY) J<|.w 3<|.keep (.p [0,1,2,4,7,15,25] J)<|GG.cr (σ:=ZV) (λaj a w=>∃(T:Fz),Q<=T/\Hd 41 [] [(0,(.func (.yield ly) #[] #[])),(1,(vP b5 0)),(2,(vP N 0)),(4,(.map<|some aM)),(15,(vP j 0))] T [pc ai (ZO u.2) 120,Uq (λx:Int=>(vI x)) (λ_ (x:QF) v=>v=(YD x)) F0 C j z<|u::q,Za U Q A1,hole U.g111 (RG U) F0 aA C A2,Qe U T aj,Z,R] a w) (λsj=> ?_) λaj bF=>GG.ex λa w ⟨T,ak,D⟩=>⟨_,D,?_⟩
    ·refine .i J (λal=> ?_) λal=> ?_
     ·exact .w 3<|.d λbu bI=>.cH λbw bJ=>.sb (key:=bH) (val:=true) 4 J S (aE.mono<|Fz.t L S) J bI zG (.int U3) J J J (λ_ _=>J) bJ<|.n (.cK λe a w h=>by cases e;exact⟨J,⟨Q,Fz.r,h.1.sub<|.k J,h.2⟩⟩)
     ·exact .skip<|.cQ 4 (Zo U) S J (.cK λe a w h=>by cases e;exact⟨J,⟨Q,Fz.r,h.1.sub<|.k J,h.2⟩⟩)
    exact .k<|.drop 0<|.cQ 1 (YM U) ak J (.cK λe a w h=>by cases e;exact⟨J,⟨T,(Fz.t S ak),h.1.sub<|.k J,h.2⟩⟩)
   exact .cK<|G9.norm aF aG λa w h=>⟨M,(Fz.t L bG),h.1.sub<|.k J,h.2⟩
 ·intro q aD bR an;refine GG.ex (λa w ⟨bx,F,D⟩=>⟨_,D,(.sk 0 1 J J (Fz.t g F) (Fz.t g F) an af (C5 ae)<|.w 4<|.tz EZ J call155 J J λbz b1 E ao=>.aX U3 AW (c:=(Ex<|Zy .i64)) (λ_ _=>J) (ao) 2 J ((Z3.of aE).mono<|Fz.t F E) J call31 J J λaH A bK bL b2 H bM=>.cm J J UA J<|.w 3<|.cQ 0 (YM U) (Fz.t E H) J<|.cQ 1 (VZ U) (Fz.t E H) J<|.cQ 2 (Zo U) (Fz.t E H) J<|.np (Hs:=[Za U A A1,KU U A A2,Qe U A aD,Z]) (Y:=Y (X (A1,A2,aD)) A) [0,0,0,0] J (hp (A1,A2,aD) _<|Fz.t g<|Fz.t F<|Fz.t E H)<|.o (Sub.refl _) (J:_=[Y (X (A1,A2,aD)) A,R])<|.k<|.keep (.p [0,30,31,32] J)<|.loop (fun(aQ:Int×σ) a w=>∃(V:Fz),A<=V/\Hd 41 [] [(0,(.func (.yield ly) #[] #[])),(30,(vS bK aH bL)),(31,(vI (aH.length:Int))),(32,(vI aQ.1))] V [Y aQ.2 V,R] a w) (λb0 e a w=>match b0 with | .inl s=>e= .exit 2/\∃(I:Fz),A<=I/\Hd 41 [] [] I [Y s I,R] a w | .inr s=>e= .ret/\∃(K:Fz),A<=K/\Hd 41 [] [] K [Y s K,R] a w) ?_ ?_ ?_)⟩)
  ·exact λa w h=>⟨A,Fz.r,h.1.sub<|.k J,h.2⟩
  ·intro aQ b4;refine GG.ex λa w ⟨V,W,D⟩=>⟨_,D,?_⟩;unfold Z1;refine .w 6<|.i J (λaq=> ?_) λaq=> ?_
   ·refine .w 6<|.idx J UA W3 (bM.mono W) J J λb6 b7 b8 bS bN bO bT aR aS=>.U J V3 J aR (QI (k:=0) aS J)<|.w 7<|.tN J hy J J J (i:=0) J (Fz.t g<|Fz.t F<|Fz.t E<|Fz.t H W) Fz.r λbU aI bV aJ=>.w 3<|.i J (λaU=> ?_) λaU=> ?_
    ·refine .cw<|Q7.ret λa w h=>⟨J,aI,(Fz.t W aJ),h.1.sub<|.k J,h.2⟩
    ·exact .w 7<|.cK<|Q7.norm λa w h=>⟨aI,(Fz.t W aJ),h.1.sub<|.k J,h.2⟩
   ·refine .cO J<|Q7.exit λa w h=>⟨J,V,W,h.1.sub<|.k J,h.2⟩
  ·intro s b9 hk e a w hD;rcases s with s | s
   ·obtain⟨rfl,I,ar,D⟩:=hD;refine ZE J<|GG.app ?_ hk a w D;exact .aW [0,0] results162 .nil J (Fz.t g<|Fz.t F<|Fz.t E<|Fz.t H ar) trivial
   obtain⟨rfl,K,au,D⟩:=hD;exact JT<|(H7 [0,0] results162 .nil J (Fz.t g<|Fz.t F<|Fz.t E<|Fz.t H au) trivial) hk a w D
def Yt(A1:Q0 QD)(A2:Q0 (Q0<|Int×QF))(A3:Q0 (Q0<|Int×Bool))(b:K1 Nat)(a:Int):K1 ((Q0 QD×Q0 (Q0<|Int×QF)×Q0 (Q0<|Int×Bool))×Q0 Int):=b.bind λi=>(A1[i]?).bind λx=>(x.moving).bind λj=>(A2[j]?).bind λl=>(CY PI (KI A1 A3 b a) l<|A3++[[]]).bind λR=>(UC R<|some A3.length).bind λks=>some ((A1,A2,R),ks)
theorem EY{y:Int->σ->K1 (σ×Bool)}{ks:Q0 Int}(e:ks.length<=1000000):∀(d k:Nat) (s r:σ),k+d=ks.length->WG y (ks.drop k) s=some r->
  ZU (Z1 y ks) ((k:Int),s)=some (.inl r)∨ZU (Z1 y ks) ((k:Int),s)=some (.inr r)
 | 0,k,s,r,f,h=>by
  rw[u0 eB] at h
  simp only[WG,W1] at h
  subst h;left;rw[ZJ];have:¬k < ks.length:=by omega
  simp[Z1,this]
 | d+1,k,s,r,f,h=>by
  have a:k < ks.length:=by omega
  have g:Q8 ((k:Int)+1)=((k+1:Nat):Int):=by rw[Qo eB eB];rfl
  rw[u2 a] at h
  have hi:ZX ks (k:Int)=some ks[k]:=by simp[ZX,a]
  simp only[WG] at h
  rw[ZJ];cases b:y ks[k] s with
  | none=>rw[b] at h;cases h
  | some p=>
   rw[b] at h
   simp only[K2] at h
   by_cases c:p.2=true
   ·rw[BY c] at h
    have:=EY e d (k+1) p.1 r eB h;simpa[Z1,a,hi,b,c,g] using this
   ·rw[B1 c] at h
    simp only[W1] at h
    right;simp[Z1,a,hi,b,c,h]
theorem Dp{y:Int->σ->K1 (σ×Bool)}{a:Q0 QD×Q0 (Q0<|Int×QF)×Q0 (Q0<|Int×Bool)->σ}{A1:Q0 QD}{A2:Q0 (Q0<|Int×QF)}{A3:Q0 (Q0<|Int×Bool)}{k:K1 Nat}{c:Int}{q:(Q0 QD×Q0 (Q0<|Int×QF)×Q0 (Q0<|Int×Bool))×Q0 Int}{r:σ}(d:Yt A1 A2 A3 k c=some q)(n:WG y q.2 (a q.1)=some r):UD y a A1 A2 A3 k c=some r:=by
 simp only[Yt,If] at d
 obtain⟨i,rfl,b,o,j,p,l,s,R,t,ks,f,d⟩:=d;simp only[W1] at d
 subst d
 have u:ks.length<=1000000:=by
  have h:=f;simp only[UC,If] at h
  obtain⟨m,_,h⟩:=h;unfold Gy at h
  split at h
  ·rename_i v;simp only[W1] at h
   rw[<-h];simpa using v.2
  ·cases h
 simp only[UD,QS,K2,o,p,s,t,f];rcases EY (y:=y) u ks.length 0 (a (A1,A2,R)) r eB (by simpa using n) with e | e
 ·have g:ZU (Z1 y ks) (0,a (A1,A2,R))=some (.inl r):=e;rw[g];rfl
 ·have g:ZU (Z1 y ks) (0,a (A1,A2,R))=some (.inr r):=e;rw[g];rfl
end
end Go.Proofs.YtdoocboganbagaaGreatDoor
end
