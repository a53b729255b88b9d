/- For OfficeDue. -/
import Derived.Test.YtbjgigfhnlnbfaaGreatDoorPd4
import Derived.Test.YtbjgigfhnlnbfaaGreatDoorProg
import Derived.Shelf.SlMaps.Clone
import Derived.Ground.SlmcProg
import Derived.Shelf.SortM.Plain
import Derived.Shelf.SortM.SortNone
import Derived.Ground.GgzProg
import Derived.Ground.SlgmProg
noncomputable section
namespace Go.Dec
abbrev RW:=@TypeDesc.struct.inj
abbrev tO:=@List.mem_cons_self
abbrev lK:=@Go.Proofs.AnyZI.sorted_in
abbrev eR:=@Go.Proofs.AnyZI.keys_gives_nil
abbrev ec:=@Go.Proofs.AnyZI.keys_gives
abbrev en:=@List.cons_ne_nil
abbrev ep:=@Go.Proofs.AnyZI.keys_in
end Go.Dec
namespace Go.Proofs.YtbjgigfhnlnbfaaGreatDoor
section
open Go.Dec Go.Shelf Go.RowKit Go.Maps Go.Sort
variable{S:Q0 (Nat×K2)}{D:Q0 TO}{F F':Fz}{β:Type}{m:Q2 β}{hs:Q0 HP}{n:Nat}{g:Gp}{r:β}
theorem Qc:Tryz.prog.follows .mixedOrders=true:=by kernel_rfl
abbrev IM:= @Tryz.underlying100
abbrev wO:= @Tryz.underlying109
abbrev kf:= @Tryz.underlying114
abbrev zM:= @Tryz.underlying115
abbrev VN:= @Tryz.underlying117
abbrev ke:= @Tryz.underlying123
abbrev fU:= @Tryz.underlying126
abbrev Fx:= @Tryz.underlying145
abbrev PA:= @Tryz.underlying147
abbrev YC:= @Tryz.underlying149
abbrev Gc:= @Tryz.underlying151
abbrev xp:= @Tryz.underlying155
abbrev zK:= @Tryz.underlying157
abbrev P3:= @Tryz.underlying159
abbrev Li:= @Tryz.underlying160
abbrev DK:= @Tryz.underlying168
abbrev J3:= @Tryz.underlying170
abbrev xo:= @Tryz.underlying173
abbrev dT:= @Tryz.underlying177
abbrev fj:= @Tryz.underlying20
abbrev Cu:= @Tryz.underlying200
abbrev P2:= @Tryz.underlying203
abbrev du:= @Tryz.underlying21
abbrev Dy:= @Tryz.underlying213
abbrev y8:= @Tryz.underlying214
abbrev vH:= @Tryz.underlying22
abbrev dS:= @Tryz.underlying224
abbrev Lh:= @Tryz.underlying233
abbrev Gb:= @Tryz.underlying237
abbrev P1:= @Tryz.underlying243
abbrev dR:= @Tryz.underlying25
abbrev Uz:= @Tryz.underlying267
abbrev IL:= @Tryz.underlying269
abbrev wX:= @Tryz.underlying27
abbrev wN:= @Tryz.underlying271
abbrev dQ:= @Tryz.underlying284
abbrev zS:= @Tryz.underlying29
abbrev U3:= @Tryz.underlying3
abbrev wM:= @Tryz.underlying311
abbrev UO:= @Tryz.underlying32
abbrev vG:= @Tryz.underlying34
abbrev IX:= @Tryz.underlying41
abbrev IW:= @Tryz.underlying43
abbrev bZ:= @Tryz.underlying45
abbrev zR:= @Tryz.underlying48
abbrev bX:= @Tryz.underlying49
abbrev U5:= @Tryz.underlying5
abbrev Cd:= @Tryz.underlying51
abbrev IV:= @Tryz.underlying54
abbrev PC:= @Tryz.underlying56
abbrev WA:= @Tryz.underlying61
abbrev X7:= @Tryz.underlying63
abbrev bW:= @Tryz.underlying67
abbrev y7:= @Tryz.underlying68
abbrev bp:= @Tryz.underlying69
abbrev y6:= @Tryz.underlying70
abbrev Hn:= @Tryz.underlying72
abbrev vF:= @Tryz.underlying74
abbrev dt:= @Tryz.underlying79
abbrev dr:= @Tryz.underlying84
abbrev DJ:= @Tryz.underlying87
abbrev U9:= @Tryz.underlying9
abbrev Dz:= @Tryz.underlying90
abbrev M2:= @Tryz.underlying92
abbrev bV:= @Tryz.isAgg100
abbrev Lg:= @Tryz.isAgg103
abbrev Dx:= @Tryz.isAgg111
abbrev zJ:= @Tryz.isAgg114
abbrev wL:= @Tryz.isAgg115
abbrev dP:= @Tryz.isAgg123
abbrev xn:= @Tryz.isAgg145
abbrev Lf:= @Tryz.isAgg147
abbrev Mw:= @Tryz.isAgg149
abbrev IK:= @Tryz.isAgg151
abbrev IJ:= @Tryz.isAgg157
abbrev y5:= @Tryz.isAgg168
abbrev bU:= @Tryz.isAgg176
abbrev bT:= @Tryz.isAgg177
abbrev kc:= @Tryz.isAgg200
abbrev xm:= @Tryz.isAgg203
abbrev xl:= @Tryz.isAgg213
abbrev wK:= @Tryz.isAgg233
abbrev TL:= @Tryz.isAgg237
abbrev xk:= @Tryz.isAgg243
abbrev zI:= @Tryz.isAgg267
abbrev fT:= @Tryz.isAgg27
abbrev xj:= @Tryz.isAgg270
abbrev bR:= @Tryz.isAgg283
abbrev bQ:= @Tryz.isAgg284
abbrev wJ:= @Tryz.isAgg29
abbrev V3:= @Tryz.isAgg3
abbrev fS:= @Tryz.isAgg32
abbrev bP:= @Tryz.isAgg34
abbrev Ey:= @Tryz.isAgg37
abbrev V4:= @Tryz.isAgg4
abbrev fg:= @Tryz.isAgg41
abbrev dN:= @Tryz.isAgg43
abbrev dq:= @Tryz.isAgg45
abbrev bn:= @Tryz.isAgg48
abbrev cA:= @Tryz.isAgg49
abbrev V5:= @Tryz.isAgg5
abbrev ff:= @Tryz.isAgg51
abbrev bl:= @Tryz.isAgg54
abbrev gL:= @Tryz.isAgg56
abbrev dp:= @Tryz.isAgg61
abbrev xi:= @Tryz.isAgg63
abbrev dn:= @Tryz.isAgg67
abbrev wW:= @Tryz.isAgg68
abbrev dm:= @Tryz.isAgg69
abbrev dk:= @Tryz.isAgg70
abbrev V9:= @Tryz.isAgg9
abbrev dM:= @Tryz.isAgg97
abbrev kb:= @Tryz.sizeOf100
abbrev wI:= @Tryz.sizeOf103
abbrev y4:= @Tryz.sizeOf111
abbrev zH:= @Tryz.sizeOf114
abbrev II:= @Tryz.sizeOf115
abbrev y3:= @Tryz.sizeOf123
abbrev Ld:= @Tryz.sizeOf145
abbrev Rt:= @Tryz.sizeOf147
abbrev Uy:= @Tryz.sizeOf149
abbrev Ga:= @Tryz.sizeOf151
abbrev bO:= @Tryz.sizeOf155
abbrev IH:= @Tryz.sizeOf157
abbrev FD:= @Tryz.sizeOf168
abbrev bN:= @Tryz.sizeOf170
abbrev bM:= @Tryz.sizeOf173
abbrev dL:= @Tryz.sizeOf176
abbrev fR:= @Tryz.sizeOf177
abbrev Sj:= @Tryz.sizeOf200
abbrev TK:= @Tryz.sizeOf203
abbrev zG:= @Tryz.sizeOf213
abbrev dK:= @Tryz.sizeOf231
abbrev Rs:= @Tryz.sizeOf233
abbrev GZ:= @Tryz.sizeOf237
abbrev ka:= @Tryz.sizeOf243
abbrev TJ:= @Tryz.sizeOf267
abbrev xh:= @Tryz.sizeOf27
abbrev wH:= @Tryz.sizeOf270
abbrev bK:= @Tryz.sizeOf271
abbrev dJ:= @Tryz.sizeOf283
abbrev fQ:= @Tryz.sizeOf284
abbrev zF:= @Tryz.sizeOf29
abbrev W3:= @Tryz.sizeOf3
abbrev fe:= @Tryz.sizeOf32
abbrev fP:= @Tryz.sizeOf34
abbrev zQ:= @Tryz.sizeOf37
abbrev W4:= @Tryz.sizeOf4
abbrev wV:= @Tryz.sizeOf41
abbrev xg:= @Tryz.sizeOf43
abbrev bJ:= @Tryz.sizeOf45
abbrev zE:= @Tryz.sizeOf48
abbrev bI:= @Tryz.sizeOf49
abbrev W5:= @Tryz.sizeOf5
abbrev DI:= @Tryz.sizeOf51
abbrev M1:= @Tryz.sizeOf54
abbrev T9:= @Tryz.sizeOf56
abbrev vE:= @Tryz.sizeOf61
abbrev zD:= @Tryz.sizeOf63
abbrev fc:= @Tryz.sizeOf67
abbrev vD:= @Tryz.sizeOf68
abbrev fb:= @Tryz.sizeOf69
abbrev gK:= @Tryz.sizeOf70
abbrev y2:= @Tryz.sizeOf72
abbrev bz:= @Tryz.sizeOf79
abbrev W9:= @Tryz.sizeOf9
abbrev fO:= @Tryz.zeroValue100
abbrev bH:= @Tryz.zeroValue103
abbrev wG:= @Tryz.zeroValue109
abbrev bG:= @Tryz.zeroValue111
abbrev bF:= @Tryz.zeroValue117
abbrev kZ:= @Tryz.zeroValue123
abbrev yz:= @Tryz.zeroValue145
abbrev Sh:= @Tryz.zeroValue149
abbrev yy:= @Tryz.zeroValue151
abbrev dI:= @Tryz.zeroValue155
abbrev bE:= @Tryz.zeroValue159
abbrev fN:= @Tryz.zeroValue168
abbrev bD:= @Tryz.zeroValue170
abbrev dH:= @Tryz.zeroValue173
abbrev fM:= @Tryz.zeroValue177
abbrev yx:= @Tryz.zeroValue200
abbrev yw:= @Tryz.zeroValue203
abbrev fL:= @Tryz.zeroValue213
abbrev yv:= @Tryz.zeroValue233
abbrev yu:= @Tryz.zeroValue237
abbrev xf:= @Tryz.zeroValue243
abbrev bC:= @Tryz.zeroValue267
abbrev bA:= @Tryz.zeroValue269
abbrev dF:= @Tryz.zeroValue271
abbrev fK:= @Tryz.zeroValue284
abbrev bk:= @Tryz.zeroValue29
abbrev Y3:= @Tryz.zeroValue3
abbrev dE:= @Tryz.zeroValue34
abbrev dz:= @Tryz.zeroValue37
abbrev Y4:= @Tryz.zeroValue4
abbrev bx:= @Tryz.zeroValue45
abbrev fa:= @Tryz.zeroValue51
abbrev yt:= @Tryz.zeroValue56
abbrev wF:= @Tryz.zeroValue61
abbrev fJ:= @Tryz.zeroValue63
abbrev dy:= @Tryz.zeroValue72
abbrev bw:= @Tryz.zeroValue74
abbrev bj:= @Tryz.zeroValue79
abbrev Ew:= @Tryz.zeroValue87
abbrev Y9:= @Tryz.zeroValue9
abbrev NB:= @Tryz.zeroValue90
structure Jy where
 g170:Nat
 g159:Nat
 g117:Nat
 g74:Nat
 g114:Nat
 g115:Nat
 g157:Nat
 g72:Nat
 g84:Nat
variable{U:Jy}
structure ZU where
 Number:Int
 Wood:Int
 Place:Int
 Room:Int
 Owner:Int
 Creditor:Int
 Amount:Int
 Age:Int
 Woods:(Nat->Int)
 Places:(Nat->Int)
def Qy(x:ZU):Q0 K2:=[.int .i64 x.Number,.int .i64 x.Wood,.int .i64 x.Place,.int .i64 x.Room,.int .i64 x.Owner,.int .i64 x.Creditor,.int .i64 x.Amount,.int .i64 x.Age,.int .i64<|x.Woods 0,.int .i64<|x.Woods 1,.int .i64<|x.Woods 2,.int .i64<|x.Woods 3,.int .i64<|x.Woods 4,.int .i64<|x.Woods 5,.int .i64<|x.Woods 6,.int .i64<|x.Woods 7,.int .i64<|x.Places 0,.int .i64<|x.Places 1,.int .i64<|x.Places 2,.int .i64<|x.Places 3,.int .i64<|x.Places 4,.int .i64<|x.Places 5,.int .i64<|x.Places 6,.int .i64<|x.Places 7]
def BQ(x:ZU):K2:=.agg (Qy x).toArray
theorem PO:∀a,Tryz.prog.underlying 56=some (.struct a)->Places Tryz.prog a #[(0,1),(1,1),(2,1),(3,1),(4,1),(5,1),(6,1),(7,1),(8,8),(16,8)]:=λa h=>by
 obtain rfl:=RW<|PP<|Tryz.underlying56.symm.trans h;intro w;kernel_rfl
structure QB where
 Lo:Int
 Hi:Int
def QX(x:QB):Q0 K2:=[.int .i64 x.Lo,.int .i64 x.Hi]
def JS(x:QB):K2:=.agg (QX x).toArray
theorem HL:∀a,Tryz.prog.underlying 149=some (.struct a)->Places Tryz.prog a #[(0,1),(1,1)]:=λa h=>by
 obtain rfl:=RW<|PP<|Tryz.underlying149.symm.trans h;intro w;kernel_rfl
structure Qq where
 From:ZU
 Amount:Int
 Strength:QB
def QO(x:Qq):Q0 K2:=[.int .i64 x.From.Number,.int .i64 x.From.Wood,.int .i64 x.From.Place,.int .i64 x.From.Room,.int .i64 x.From.Owner,.int .i64 x.From.Creditor,.int .i64 x.From.Amount,.int .i64 x.From.Age,.int .i64<|x.From.Woods 0,.int .i64<|x.From.Woods 1,.int .i64<|x.From.Woods 2,.int .i64<|x.From.Woods 3,.int .i64<|x.From.Woods 4,.int .i64<|x.From.Woods 5,.int .i64<|x.From.Woods 6,.int .i64<|x.From.Woods 7,.int .i64<|x.From.Places 0,.int .i64<|x.From.Places 1,.int .i64<|x.From.Places 2,.int .i64<|x.From.Places 3,.int .i64<|x.From.Places 4,.int .i64<|x.From.Places 5,.int .i64<|x.From.Places 6,.int .i64<|x.From.Places 7,.int .i64 x.Amount,.int .i64 x.Strength.Lo,.int .i64 x.Strength.Hi]
def VK(x:Qq):K2:=.agg (QO x).toArray
theorem OV:∀a,Tryz.prog.underlying 200=some (.struct a)->Places Tryz.prog a #[(0,24),(24,1),(25,2)]:=λa h=>by
 obtain rfl:=RW<|PP<|Tryz.underlying200.symm.trans h;intro w;kernel_rfl
structure QU where
 Draughts:(List Qq)
 Water:Int
 Shrink:QB
 Filtered:Bool
 Coloured:Bool
def ZA(x:QU)(a:Q2 C3)(b:Nat):Q0 K2:=[.slice a x.Draughts.length b,.int .i64 x.Water,.int .i64 x.Shrink.Lo,.int .i64 x.Shrink.Hi,.bool x.Filtered,.bool x.Coloured]
def Zv(x:QU)(a:Q2 C3)(b:Nat):K2:=.agg (ZA x a b).toArray
theorem zq:∀a,Tryz.prog.underlying 151=some (.struct a)->Places Tryz.prog a #[(0,1),(1,1),(2,2),(4,1),(5,1)]:=λa h=>by
 obtain rfl:=RW<|PP<|Tryz.underlying151.symm.trans h;intro w;kernel_rfl
structure Z4 where
 From:Int
 Rate:Int
def Zd(x:Z4):Q0 K2:=[.int .i64 x.From,.int .i64 x.Rate]
def O4(x:Z4):K2:=.agg (Zd x).toArray
theorem LI:∀a,Tryz.prog.underlying 100=some (.struct a)->Places Tryz.prog a #[(0,1),(1,1)]:=λa h=>by
 obtain rfl:=RW<|PP<|Tryz.underlying100.symm.trans h;intro w;kernel_rfl
structure Ql where
 Rates:(List Z4)
 Transit:Int
 Loss:Int
 Share:Int
def ZL(x:Ql)(a:Q2 C3)(b:Nat):Q0 K2:=[.slice a x.Rates.length b,.int .i64 x.Transit,.int .i64 x.Loss,.int .i64 x.Share]
def YL(x:Ql)(a:Q2 C3)(b:Nat):K2:=.agg (ZL x a b).toArray
def K3:U2 Ql:=λF x vs=>∃a b,vs=ZL x a b/\QG 2 (Ex Zd) F a b x.Rates
theorem N2:∀a,Tryz.prog.underlying 29=some (.struct a)->Places Tryz.prog a #[(0,1),(1,1),(2,1),(3,1)]:=λa h=>by
 obtain rfl:=RW<|PP<|Tryz.underlying29.symm.trans h;intro w;kernel_rfl
structure QE where
 Kind:Int
 Day:Int
 Cask:Int
 Other:Int
 Person:Int
 To:Int
 Amount:Int
 Where:Int
def QK(x:QE):Q0 K2:=[.int .i64 x.Kind,.int .i64 x.Day,.int .i64 x.Cask,.int .i64 x.Other,.int .i64 x.Person,.int .i64 x.To,.int .i64 x.Amount,.int .i64 x.Where]
def JK(x:QE):K2:=.agg (QK x).toArray
theorem Yr:∀a,Tryz.prog.underlying 61=some (.struct a)->Places Tryz.prog a #[(0,1),(1,1),(2,1),(3,1),(4,1),(5,1),(6,1),(7,1)]:=λa h=>by
 obtain rfl:=RW<|PP<|Tryz.underlying61.symm.trans h;intro w;kernel_rfl
structure QM where
 Kind:Int
 Day:Int
 Bond:Int
 To:Int
 Id:Int
 Amount:Int
def QN(x:QM):Q0 K2:=[.int .i64 x.Kind,.int .i64 x.Day,.int .i64 x.Bond,.int .i64 x.To,.int .i64 x.Id,.int .i64 x.Amount]
def JJ(x:QM):K2:=.agg (QN x).toArray
theorem XS:∀a,Tryz.prog.underlying 63=some (.struct a)->Places Tryz.prog a #[(0,1),(1,1),(2,1),(3,1),(4,1),(5,1)]:=λa h=>by
 obtain rfl:=RW<|PP<|Tryz.underlying63.symm.trans h;intro w;kernel_rfl
structure QH where
 Kind:Int
 First:Int
 Last:Int
 Batch:Int
def QT(x:QH):Q0 K2:=[.int .i64 x.Kind,.int .i64 x.First,.int .i64 x.Last,.int .i64 x.Batch]
def Fp(x:QH):K2:=.agg (QT x).toArray
theorem Gf:∀a,Tryz.prog.underlying 145=some (.struct a)->Places Tryz.prog a #[(0,1),(1,1),(2,1),(3,1)]:=λa h=>by
 obtain rfl:=RW<|PP<|Tryz.underlying145.symm.trans h;intro w;kernel_rfl
structure QA where
 day:Int
 rules:(Option Ql)
 casks:(List QE)
 duties:(List QM)
 stamps:(List QH)
 batches:(List<|Int×QU)
 pure:(List<|Int×Int)
 ids:Int
variable{L:QA}
def Qh(x:QA)(a:Q2 C3)(_:Unit)(b:Q2 C3)(c:Nat)(d:Q2 C3)(e:Nat)(f:Q2 C3)(h:Nat)(i:Q2 Nat)(_:Unit)(j:Q2 Nat)(_:Unit):Q0 K2:=[.int .i64 x.day,.pointer a,.slice b x.casks.length c,.slice d x.duties.length e,.slice f x.stamps.length h,.map i,.map j,.int .i64 x.ids]
def MW(x:QA)(a:Q2 C3)(b:Unit)(c:Q2 C3)(d:Nat)(e:Q2 C3)(f:Nat)(h:Q2 C3)(i:Nat)(j:Q2 Nat)(k:Unit)(l:Q2 Nat)(o:Unit):K2:=.agg (Qh x a b c d e f h i j k l o).toArray
theorem Rh:∀a,Tryz.prog.underlying 72=some (.struct a)->Places Tryz.prog a #[(0,1),(1,1),(2,1),(3,1),(4,1),(5,1),(6,1),(7,1)]:=λa h=>by
 obtain rfl:=RW<|PP<|Tryz.underlying72.symm.trans h;intro w;kernel_rfl
structure Qr where
 ledgers:QA
 open_:Bool
def Dv(x:Qr)(a:Q2 C3)(_:Unit)(b:Q2 C3)(c:Nat)(d:Q2 C3)(e:Nat)(f:Q2 C3)(h:Nat)(i:Q2 Nat)(_:Unit)(j:Q2 Nat)(_:Unit):Q0 K2:=[.int .i64 x.ledgers.day,.pointer a,.slice b x.ledgers.casks.length c,.slice d x.ledgers.duties.length e,.slice f x.ledgers.stamps.length h,.map i,.map j,.int .i64 x.ledgers.ids,.bool x.open_]
def AP:U2 Qr:=λF x vs=>∃a b c d e f h i j l k o,vs=Dv x a b c d e f h i j l k o/\WL 29 K3 F a x.ledgers.rules/\QG 8 (Ex QK) F c d x.ledgers.casks/\QG 6 (Ex QN) F e f x.ledgers.duties/\QG 4 (Ex QT) F h i x.ledgers.stamps/\Uu (λx:Int=>(.int .i64 x)) (λF (x:QU) v=>∃(a:Q2 C3) (b:Nat),v=(Zv x a b)/\QG 27 (Ex QO) F a b x.Draughts) F j x.ledgers.batches/\Uu (λx:Int=>(.int .i64 x)) (λ_ (x:Int) v=>v=(.int .i64 x)) F k x.ledgers.pure
theorem Ny:∀a,Tryz.prog.underlying 74=some (.struct a)->Places Tryz.prog a #[(0,8),(8,1)]:=λa h=>by
 obtain rfl:=RW<|PP<|Tryz.underlying74.symm.trans h;intro w;kernel_rfl
structure Qn where
 e:Int
def XH(x:Qn):Q0 K2:=[.int .i64 x.e]
def LU(x:Qn):K2:=.agg (XH x).toArray
theorem Nz:∀a,Tryz.prog.underlying 79=some (.struct a)->Places Tryz.prog a #[(0,1)]:=λa h=>by
 obtain rfl:=RW<|PP<|Tryz.underlying79.symm.trans h;intro w;kernel_rfl
structure Zs where
 rest:(List UInt8)
def XG(x:Zs):Q0 K2:=[.string<|bs x.rest]
theorem Nx:∀a,Tryz.prog.underlying 84=some (.struct a)->Places Tryz.prog a #[(0,1)]:=λa h=>by
 obtain rfl:=RW<|PP<|Tryz.underlying84.symm.trans h;intro w;kernel_rfl
structure Zk where
 e:Int
def HR(x:Zk):Q0 K2:=[.int .i64 x.e]
def qk(x:Zk):K2:=.agg (HR x).toArray
theorem OU:∀a,Tryz.prog.underlying 155=some (.struct a)->Places Tryz.prog a #[(0,1)]:=λa h=>by
 obtain rfl:=RW<|PP<|Tryz.underlying155.symm.trans h;intro w;kernel_rfl
structure ZH where
 age:Int
 woods:(Nat->Int)
 places:(Nat->Int)
def ZD(x:ZH):Q0 K2:=[.int .i64 x.age,.int .i64<|x.woods 0,.int .i64<|x.woods 1,.int .i64<|x.woods 2,.int .i64<|x.woods 3,.int .i64<|x.woods 4,.int .i64<|x.woods 5,.int .i64<|x.woods 6,.int .i64<|x.woods 7,.int .i64<|x.places 0,.int .i64<|x.places 1,.int .i64<|x.places 2,.int .i64<|x.places 3,.int .i64<|x.places 4,.int .i64<|x.places 5,.int .i64<|x.places 6,.int .i64<|x.places 7]
def WR(x:ZH):K2:=.agg (ZD x).toArray
theorem RI:∀a,Tryz.prog.underlying 168=some (.struct a)->Places Tryz.prog a #[(0,1),(1,8),(9,8)]:=λa h=>by
 obtain rfl:=RW<|PP<|Tryz.underlying168.symm.trans h;intro w;kernel_rfl
structure QJ where
 number:Int
 wood:Int
 place:Int
 room:Int
 owner:Int
 creditor:Int
 amount:Int
 since:Int
 times:ZH
 fills:(Option Nat)
def U6(x:QJ)(a:Q2 Nat)(_:Unit):Q0 K2:=[.int .i64 x.number,.int .i64 x.wood,.int .i64 x.place,.int .i64 x.room,.int .i64 x.owner,.int .i64 x.creditor,.int .i64 x.amount,.int .i64 x.since,.int .i64 x.times.age,.int .i64<|x.times.woods 0,.int .i64<|x.times.woods 1,.int .i64<|x.times.woods 2,.int .i64<|x.times.woods 3,.int .i64<|x.times.woods 4,.int .i64<|x.times.woods 5,.int .i64<|x.times.woods 6,.int .i64<|x.times.woods 7,.int .i64<|x.times.places 0,.int .i64<|x.times.places 1,.int .i64<|x.times.places 2,.int .i64<|x.times.places 3,.int .i64<|x.times.places 4,.int .i64<|x.times.places 5,.int .i64<|x.times.places 6,.int .i64<|x.times.places 7,.map a]
def yW(x:QJ)(a:Q2 Nat)(b:Unit):K2:=.agg (U6 x a b).toArray
def ED(U:Jy):U2 QJ:=λF x vs=>∃a b,vs=U6 x a b/\Zx U.g115 F a x.fills
theorem zn:∀a,Tryz.prog.underlying 170=some (.struct a)->Places Tryz.prog a #[(0,1),(1,1),(2,1),(3,1),(4,1),(5,1),(6,1),(7,1),(8,17),(25,1)]:=λa h=>by
 obtain rfl:=RW<|PP<|Tryz.underlying170.symm.trans h;intro w;kernel_rfl
structure Qj where
 casks:(Option Nat)
 event:Int
def P0(x:Qj)(a:Q2 Nat)(_:Unit):Q0 K2:=[.map a,.int .i64 x.event]
def EE(U:Jy):U2 Qj:=λF x vs=>∃a b,vs=P0 x a b/\Zx U.g157 F a x.casks
theorem zo:∀a,Tryz.prog.underlying 159=some (.struct a)->Places Tryz.prog a #[(0,1),(1,1)]:=λa h=>by
 obtain rfl:=RW<|PP<|Tryz.underlying159.symm.trans h;intro w;kernel_rfl
structure Zt where
 e:Int
def XI(x:Zt):Q0 K2:=[.int .i64 x.e]
def LV(x:Zt):K2:=.agg (XI x).toArray
theorem N1:∀a,Tryz.prog.underlying 173=some (.struct a)->Places Tryz.prog a #[(0,1)]:=λa h=>by
 obtain rfl:=RW<|PP<|Tryz.underlying173.symm.trans h;intro w;kernel_rfl
structure QF where
 Id:Int
 From:Int
 To:Int
 Sent:Int
 Amount:Int
def ZN(x:QF):Q0 K2:=[.int .i64 x.Id,.int .i64 x.From,.int .i64 x.To,.int .i64 x.Sent,.int .i64 x.Amount]
def J7(x:QF):K2:=.agg (ZN x).toArray
theorem qA:∀a,Tryz.prog.underlying 123=some (.struct a)->Places Tryz.prog a #[(0,1),(1,1),(2,1),(3,1),(4,1)]:=λa h=>by
 obtain rfl:=RW<|PP<|Tryz.underlying123.symm.trans h;intro w;kernel_rfl
structure Q3 where
 Bonds:(Nat->Int)
 Moving:(List QF)
 Made:Int
 Found:Int
 Used:Int
 Exported:Int
 Lost:Int
 Charged:Int
 Due:Int
 Paid:Int
def ZG(x:Q3)(a:Q2 C3)(b:Nat):Q0 K2:=[.int .i64<|x.Bonds 0,.int .i64<|x.Bonds 1,.int .i64<|x.Bonds 2,.int .i64<|x.Bonds 3,.int .i64<|x.Bonds 4,.int .i64<|x.Bonds 5,.int .i64<|x.Bonds 6,.int .i64<|x.Bonds 7,.int .i64<|x.Bonds 8,.int .i64<|x.Bonds 9,.int .i64<|x.Bonds 10,.int .i64<|x.Bonds 11,.int .i64<|x.Bonds 12,.int .i64<|x.Bonds 13,.int .i64<|x.Bonds 14,.int .i64<|x.Bonds 15,.slice a x.Moving.length b,.int .i64 x.Made,.int .i64 x.Found,.int .i64 x.Used,.int .i64 x.Exported,.int .i64 x.Lost,.int .i64 x.Charged,.int .i64 x.Due,.int .i64 x.Paid]
def US(x:Q3)(a:Q2 C3)(b:Nat):K2:=.agg (ZG x a b).toArray
theorem LJ:∀a,Tryz.prog.underlying 51=some (.struct a)->Places Tryz.prog a #[(0,16),(16,1),(17,1),(18,1),(19,1),(20,1),(21,1),(22,1),(23,1),(24,1)]:=λa h=>by
 obtain rfl:=RW<|PP<|Tryz.underlying51.symm.trans h;intro w;kernel_rfl
structure QD where
 rules:Ql
 book:Q3
 moving:(Option Nat)
 known:(Option Nat)
 sums:(Nat->Int)
 day:Int
def Zg(x:QD)(a:Q2 C3)(b:Nat)(c:Q2 C3)(d:Nat)(e:Q2 Nat)(_:Unit)(f:Q2 Nat)(_:Unit):Q0 K2:=[.slice a x.rules.Rates.length b,.int .i64 x.rules.Transit,.int .i64 x.rules.Loss,.int .i64 x.rules.Share,.int .i64<|x.book.Bonds 0,.int .i64<|x.book.Bonds 1,.int .i64<|x.book.Bonds 2,.int .i64<|x.book.Bonds 3,.int .i64<|x.book.Bonds 4,.int .i64<|x.book.Bonds 5,.int .i64<|x.book.Bonds 6,.int .i64<|x.book.Bonds 7,.int .i64<|x.book.Bonds 8,.int .i64<|x.book.Bonds 9,.int .i64<|x.book.Bonds 10,.int .i64<|x.book.Bonds 11,.int .i64<|x.book.Bonds 12,.int .i64<|x.book.Bonds 13,.int .i64<|x.book.Bonds 14,.int .i64<|x.book.Bonds 15,.slice c x.book.Moving.length d,.int .i64 x.book.Made,.int .i64 x.book.Found,.int .i64 x.book.Used,.int .i64 x.book.Exported,.int .i64 x.book.Lost,.int .i64 x.book.Charged,.int .i64 x.book.Due,.int .i64 x.book.Paid,.map e,.map f,.int .i64<|x.sums 0,.int .i64<|x.sums 1,.int .i64<|x.sums 2,.int .i64<|x.sums 3,.int .i64<|x.sums 4,.int .i64<|x.sums 5,.int .i64<|x.sums 6,.int .i64<|x.sums 7,.int .i64<|x.sums 8,.int .i64<|x.sums 9,.int .i64<|x.sums 10,.int .i64<|x.sums 11,.int .i64<|x.sums 12,.int .i64<|x.sums 13,.int .i64<|x.sums 14,.int .i64<|x.sums 15,.int .i64 x.day]
def AQ(U:Jy):U2 QD:=λF x vs=>∃a b c d e h f i,vs=Zg x a b c d e h f i/\QG 2 (Ex Zd) F a b x.rules.Rates/\Mz 5 (Ex ZN) F c d x.book.Moving/\Zx U.g114 F e x.moving/\Zx U.g115 F f x.known
theorem N0:∀a,Tryz.prog.underlying 117=some (.struct a)->Places Tryz.prog a #[(0,4),(4,25),(29,1),(30,1),(31,16),(47,1)]:=λa h=>by
 obtain rfl:=RW<|PP<|Tryz.underlying117.symm.trans h;intro w;kernel_rfl
structure Q7 where
 Hand:(List QB)
 Stuck:Int
 Spoiled:Int
 Returned:Int
def Qv(x:Q7)(a:Q2 C3)(b:Nat):Q0 K2:=[.slice a x.Hand.length b,.int .i64 x.Stuck,.int .i64 x.Spoiled,.int .i64 x.Returned]
def Ab(x:Q7)(a:Q2 C3)(b:Nat):K2:=.agg (Qv x a b).toArray
theorem Fe:∀a,Tryz.prog.underlying 233=some (.struct a)->Places Tryz.prog a #[(0,1),(1,1),(2,1),(3,1)]:=λa h=>by
 obtain rfl:=RW<|PP<|Tryz.underlying233.symm.trans h;intro w;kernel_rfl
structure Un where
 issued:(List QB)
 hand:(List QB)
def JN(x:Un)(a:Q2 C3)(b:Nat)(c:Q2 C3)(d:Nat):Q0 K2:=[.slice a x.issued.length b,.slice c x.hand.length d]
structure Qf where
 Batch:QU
 amount:Int
 least:Int
 most:Int
def Qe(x:Qf)(a:Q2 C3)(b:Nat):Q0 K2:=[.slice a x.Batch.Draughts.length b,.int .i64 x.Batch.Water,.int .i64 x.Batch.Shrink.Lo,.int .i64 x.Batch.Shrink.Hi,.bool x.Batch.Filtered,.bool x.Batch.Coloured,.int .i64 x.amount,.int .i64 x.least,.int .i64 x.most]
def Jx(x:Qf)(a:Q2 C3)(b:Nat):K2:=.agg (Qe x a b).toArray
theorem LH:∀a,Tryz.prog.underlying 237=some (.struct a)->Places Tryz.prog a #[(0,6),(6,1),(7,1),(8,1)]:=λa h=>by
 obtain rfl:=RW<|PP<|Tryz.underlying237.symm.trans h;intro w;kernel_rfl
structure Qo where
 Volume:QB
 Strength:QB
 Age:Int
 Woods:(Nat->Int)
 Places:(Nat->Int)
 Casks:Int
def Qs(x:Qo):Q0 K2:=[.int .i64 x.Volume.Lo,.int .i64 x.Volume.Hi,.int .i64 x.Strength.Lo,.int .i64 x.Strength.Hi,.int .i64 x.Age,.int .i64<|x.Woods 0,.int .i64<|x.Woods 1,.int .i64<|x.Woods 2,.int .i64<|x.Woods 3,.int .i64<|x.Woods 4,.int .i64<|x.Woods 5,.int .i64<|x.Woods 6,.int .i64<|x.Woods 7,.int .i64<|x.Places 0,.int .i64<|x.Places 1,.int .i64<|x.Places 2,.int .i64<|x.Places 3,.int .i64<|x.Places 4,.int .i64<|x.Places 5,.int .i64<|x.Places 6,.int .i64<|x.Places 7,.int .i64 x.Casks]
def G9(x:Qo):K2:=.agg (Qs x).toArray
theorem AS:∀a,Tryz.prog.underlying 203=some (.struct a)->Places Tryz.prog a #[(0,2),(2,2),(4,1),(5,8),(13,8),(21,1)]:=λa h=>by
 obtain rfl:=RW<|PP<|Tryz.underlying203.symm.trans h;intro w;kernel_rfl
structure Qt where
 Kind:Int
 What:Int
 Number:Int
def KH(x:Qt):Q0 K2:=[.int .i64 x.Kind,.int .i64 x.What,.int .i64 x.Number]
def Zu(x:Qt):K2:=.agg (KH x).toArray
theorem zp:∀a,Tryz.prog.underlying 213=some (.struct a)->Places Tryz.prog a #[(0,1),(1,1),(2,1)]:=λa h=>by
 obtain rfl:=RW<|PP<|Tryz.underlying213.symm.trans h;intro w;kernel_rfl
structure ZF where
 batch:Qf
 known:Qo
def Zc(x:ZF)(a:Q2 C3)(b:Nat):Q0 K2:=[.slice a x.batch.Batch.Draughts.length b,.int .i64 x.batch.Batch.Water,.int .i64 x.batch.Batch.Shrink.Lo,.int .i64 x.batch.Batch.Shrink.Hi,.bool x.batch.Batch.Filtered,.bool x.batch.Batch.Coloured,.int .i64 x.batch.amount,.int .i64 x.batch.least,.int .i64 x.batch.most,.int .i64 x.known.Volume.Lo,.int .i64 x.known.Volume.Hi,.int .i64 x.known.Strength.Lo,.int .i64 x.known.Strength.Hi,.int .i64 x.known.Age,.int .i64<|x.known.Woods 0,.int .i64<|x.known.Woods 1,.int .i64<|x.known.Woods 2,.int .i64<|x.known.Woods 3,.int .i64<|x.known.Woods 4,.int .i64<|x.known.Woods 5,.int .i64<|x.known.Woods 6,.int .i64<|x.known.Woods 7,.int .i64<|x.known.Places 0,.int .i64<|x.known.Places 1,.int .i64<|x.known.Places 2,.int .i64<|x.known.Places 3,.int .i64<|x.known.Places 4,.int .i64<|x.known.Places 5,.int .i64<|x.known.Places 6,.int .i64<|x.known.Places 7,.int .i64 x.known.Casks]
def Bw(x:ZF)(a:Q2 C3)(b:Nat):K2:=.agg (Zc x a b).toArray
theorem AR:∀a,Tryz.prog.underlying 243=some (.struct a)->Places Tryz.prog a #[(0,9),(9,22)]:=λa h=>by
 obtain rfl:=RW<|PP<|Tryz.underlying243.symm.trans h;intro w;kernel_rfl
structure Qa where
 least:Int
 each:Int
def Z3(x:Qa):Q0 K2:=[.int .i64 x.least,.int .i64 x.each]
def qj(x:Qa):K2:=.agg (Z3 x).toArray
theorem Z5:∀a,Tryz.prog.underlying 87=some (.struct a)->Places Tryz.prog a #[(0,1),(1,1)]:=λa h=>by
 obtain rfl:=RW<|PP<|Tryz.underlying87.symm.trans h;intro w;kernel_rfl
structure QW where
 form:Qa
 do_:((QA×Unit×(List Int))->Option (Out Qn<|(List UInt8)×QA))
def Zj(x:QW)(b:L3)(a:Q0 K2×Q0 K2):Q0 K2:=[.int .i64 x.form.least,.int .i64 x.form.each,.func (.func b) a.1.toArray a.2.toArray]
def KE(x:QW)(a:L3)(b:Q0 K2×Q0 K2):K2:=.agg (Zj x a b).toArray
theorem Z6:∀a,Tryz.prog.underlying 90=some (.struct a)->Places Tryz.prog a #[(0,2),(2,1)]:=λa h=>by
 obtain rfl:=RW<|PP<|Tryz.underlying90.symm.trans h;intro w;kernel_rfl
structure Qx where
 Word:(List UInt8)
 N:(List Int)
def Qp(x:Qx)(a:Q2 C3)(b:Nat):Q0 K2:=[.string<|bs x.Word,.slice a x.N.length b]
def Gr(x:Qx)(a:Q2 C3)(b:Nat):K2:=.agg (Qp x a b).toArray
theorem GI:∀a,Tryz.prog.underlying 34=some (.struct a)->Places Tryz.prog a #[(0,1),(1,1)]:=λa h=>by
 obtain rfl:=RW<|PP<|Tryz.underlying34.symm.trans h;intro w;kernel_rfl
abbrev TN(U:Jy):Fz->Nat->QJ->HP:=Wk 170<|ED U
abbrev Qu(U:Jy)(F:Fz)(xs:Q0 QJ):HP:=ZC U.g170 (TN U) F xs
theorem JC(U:Jy):Hm (TN U):=Wk.stays
theorem Xr(U:Jy){x:QJ}:∀F vs,(ED U) F x vs->vs.length=26:=λ_ _ ⟨_,_,h,_⟩=>h▸rfl
abbrev M0(U:Jy):Fz->Nat->Qj->HP:=Wk 159<|EE U
abbrev Q8(U:Jy)(F:Fz)(xs:Q0 Qj):HP:=ZC U.g159 (M0 U) F xs
theorem KY(U:Jy):Hm (M0 U):=Wk.stays
theorem gk(U:Jy){x:Qj}:∀F vs,(EE U) F x vs->vs.length=2:=λ_ _ ⟨_,_,h,_⟩=>h▸rfl
abbrev IS(U:Jy):Fz->Nat->QD->HP:=Wk 117<|AQ U
abbrev ZX(U:Jy)(F:Fz)(xs:Q0 QD):HP:=ZC U.g117 (IS U) F xs
theorem YI(U:Jy):Hm (IS U):=Wk.stays
theorem Xs(U:Jy){x:QD}:∀F vs,(AQ U) F x vs->vs.length=48:=λ_ _ ⟨_,_,_,_,_,_,_,_,h,_,_,_,_⟩=>h▸rfl
abbrev dc(_:Jy):Fz->Nat->Qr->HP:=Wk 74 AP
abbrev UZ(U:Jy)(F:Fz)(xs:Q0 Qr):HP:=ZC U.g74 (dc U) F xs
theorem VO(U:Jy):Hm (dc U):=Wk.stays
theorem fw{x:Qr}:∀F vs,AP F x vs->vs.length=9:=λ_ _ ⟨_,_,_,_,_,_,_,_,_,_,_,_,h,_,_,_,_,_,_⟩=>h▸rfl
abbrev P6(_:Jy):Fz->Nat->Q0 (Int×QF)->HP:=QY (λx:Int=>(.int .i64 x)) λ_ (x:QF) v=>v=(J7 x)
abbrev KR(U:Jy)(F:Fz)(xs:Q0 (Q0<|Int×QF)):HP:=ZC U.g114 (P6 U) F xs
theorem VR(U:Jy):Hm (P6 U):=He
abbrev FF(_:Jy):Fz->Nat->Q0 (Int×Bool)->HP:=QY (λx:Int=>(.int .i64 x)) λ_ (x:Bool) v=>v=(.bool x)
abbrev Qd(U:Jy)(F:Fz)(xs:Q0 (Q0<|Int×Bool)):HP:=ZC U.g115 (FF U) F xs
theorem Zn(U:Jy):Hm (FF U):=He
abbrev P5(U:Jy):Fz->Nat->Q0 (Int×(Q2 Nat))->HP:=QY (λx:Int=>(.int .i64 x)) λF (x:(Q2 Nat)) v=>∃(p0:Q2 C3) (_:Unit),v=(.pointer p0)/\ZO U.g170 F p0 x
abbrev ZB(U:Jy)(F:Fz)(xs:Q0 (Q0<|Int×(Q2 Nat))):HP:=ZC U.g157 (P5 U) F xs
theorem Km(U:Jy):Hm (P5 U):=He
def WZ(x:Zk):K2:=.iface 155<|qk x
def Xk(x:Zt):K2:=.iface 173<|LV x
def JW(x:Qn):K2:=.iface 79<|LU x
def Q6(U:Jy)(F:Fz)(L:QA):HP:=xU (λq:Q2 C3×Q2 C3×Nat×Q2 C3×Nat×Q2 C3×Nat×Nat×Nat=>WL 29 K3 F q.1 L.rules) λq=>[pc U.g72 (Qh L q.1 () q.2.1 q.2.2.1 q.2.2.2.1 q.2.2.2.2.1 q.2.2.2.2.2.1 q.2.2.2.2.2.2.1 (some q.2.2.2.2.2.2.2.1) () (some q.2.2.2.2.2.2.2.2) ()) 72,Qm 8 (Ex QK) F 61 q.2.1 q.2.2.1<|L.casks,Qm 6 (Ex QN) F 63 q.2.2.2.1 q.2.2.2.2.1<|L.duties,Qm 4 (Ex QT) F 145 q.2.2.2.2.2.1 q.2.2.2.2.2.2.1<|L.stamps,QY (λx:Int=>(.int .i64 x)) (λF (x:QU) v=>∃(a:Q2 C3) (b:Nat),v=(Zv x a b)/\QG 27 (Ex QO) F a b x.Draughts) F q.2.2.2.2.2.2.2.1<|L.batches,QY (λx:Int=>(.int .i64 x)) (λ_ (x:Int) v=>v=(.int .i64 x)) F q.2.2.2.2.2.2.2.2<|L.pure]
theorem FO{m:Mem}(le:F<=F'):Q6 U F L m->Q6 U F' L m:=fun⟨q,h,a⟩=>⟨q,h.mono le,ZS (λ_ h=>h) (ZS (λ_=>We le)<|ZS (λ_=>We le)<|ZS (λ_=>We le)<|ZS (λ_=>Ji le)<|ZS (λ_=>Ji le) λ_ h=>h) m a⟩
theorem _root_.Go.Dec.GG.cr(i:Nat)(hi:hs[i]? =some (Q6 U F L))(k:∀(a:Q2 C3) (b:Q2 C3) (c:Nat) (d:Q2 C3) (e:Nat) (f:Q2 C3) (j:Nat) (l:Nat) (o:Nat),WL 29 K3 F a L.rules->GG g (Hd n D S F<|[pc U.g72 (Qh L a () b c d e f j (some l) () (some o) ()) 72,Qm 8 (Ex QK) F 61 b c<|L.casks,Qm 6 (Ex QN) F 63 d e<|L.duties,Qm 4 (Ex QT) F 145 f j<|L.stamps,QY (λx:Int=>(.int .i64 x)) (λF (x:QU) v=>∃(a:Q2 C3) (p:Nat),v=(Zv x a p)/\QG 27 (Ex QO) F a p x.Draughts) F l<|L.batches,QY (λx:Int=>(.int .i64 x)) (λ_ (x:Int) v=>v=(.int .i64 x)) F o<|L.pure]++hs.eraseIdx i) m r):GG g (Hd n D S F hs) m r:=GG.ak i hi λq h=>k q.1 q.2.1 q.2.2.1 q.2.2.2.1 q.2.2.2.2.1 q.2.2.2.2.2.1 q.2.2.2.2.2.2.1 q.2.2.2.2.2.2.2.1 q.2.2.2.2.2.2.2.2 h
theorem _root_.Go.Dec.GG.cv{o:Fz}{p:Fz}{q:Fz}{s:Fz}{t:Fz}{a:Q2 C3}{b:Q2 C3}{c:Nat}{d:Q2 C3}{e:Nat}{f:Q2 C3}{i:Nat}{j:Nat}{l:Nat}(is:Q0 Nat)(w:WL 29 K3 F a L.rules)(y:o<=F)(l2:p<=F)(z:q<=F)(A:s<=F)(B:t<=F)(C:YJ is hs=[pc U.g72 (Qh L a () b c d e f i (some j) () (some l) ()) 72,Qm 8 (Ex QK) o 61 b c<|L.casks,Qm 6 (Ex QN) p 63 d e<|L.duties,Qm 4 (Ex QT) q 145 f i<|L.stamps,QY (λx:Int=>(.int .i64 x)) (λF (x:QU) v=>∃(a:Q2 C3) (u:Nat),v=(Zv x a u)/\QG 27 (Ex QO) F a u x.Draughts) s j<|L.batches,QY (λx:Int=>(.int .i64 x)) (λ_ (x:Int) v=>v=(.int .i64 x)) t l<|L.pure])(k:GG g (Hd n D S F<|Q6 U F L::J9 is hs) m r):GG g (Hd n D S F hs) m r:=GG.aK is (a,b,c,d,e,f,i,j,l) w C (ZS (λ_ h=>h)<|ZS (λ_=>We y)<|ZS (λ_=>We l2)<|ZS (λ_=>We z)<|ZS (λ_=>Ji A)<|ZS (λ_=>Ji B) λ_ h=>h) k
def J6(U:Jy)(F:Fz)(L:QA):HP:=xU (λq:Q2 C3×Q2 C3×Nat×Q2 C3×Nat×Q2 C3×Nat×Nat×Nat=>WL 29 K3 F q.1 L.rules) λq=>[pc U.g72 (Qh L q.1 () q.2.1 q.2.2.1 q.2.2.2.1 q.2.2.2.2.1 q.2.2.2.2.2.1 q.2.2.2.2.2.2.1 (some q.2.2.2.2.2.2.2.1) () (some q.2.2.2.2.2.2.2.2) ()) 72,kv 8 (Ex QK) F 61 q.2.1 q.2.2.1<|L.casks,kv 6 (Ex QN) F 63 q.2.2.2.1 q.2.2.2.2.1<|L.duties,kv 4 (Ex QT) F 145 q.2.2.2.2.2.1 q.2.2.2.2.2.2.1<|L.stamps,QY (λx:Int=>(.int .i64 x)) (λF (x:QU) v=>∃(a:Q2 C3) (b:Nat),v=(Zv x a b)/\QG 27 (Ex QO) F a b x.Draughts) F q.2.2.2.2.2.2.2.1<|L.batches,QY (λx:Int=>(.int .i64 x)) (λ_ (x:Int) v=>v=(.int .i64 x)) F q.2.2.2.2.2.2.2.2<|L.pure]
theorem vX{m:Mem}(le:F<=F'):J6 U F L m->J6 U F' L m:=fun⟨q,h,a⟩=>⟨q,h.mono le,ZS (λ_ h=>h) (ZS (λ_=>zb le)<|ZS (λ_=>zb le)<|ZS (λ_=>zb le)<|ZS (λ_=>Ji le)<|ZS (λ_=>Ji le) λ_ h=>h) m a⟩
theorem Yl{m:Mem}:Q6 U F L m->J6 U F L m:=fun⟨q,h,a⟩=>⟨q,h,ZS (λ_ h=>h) (ZS (λ_ h=>.inl h)<|ZS (λ_ h=>.inl h)<|ZS (λ_ h=>.inl h)<|ZS (λ_ h=>h)<|ZS (λ_ h=>h) λ_ h=>h) m a⟩
theorem _root_.Go.Dec.GG.rC{o:Fz}{p:Fz}{a:Q2 C3}{b:Q2 C3}{c:Nat}{d:Q2 C3}{e:Nat}{f:Q2 C3}{i:Nat}{j:Nat}{l:Nat}(is:Q0 Nat)(s:WL 29 K3 F a L.rules)(t:o<=F)(l2:p<=F)(u:YJ is hs=[pc U.g72 (Qh L a () b c d e f i (some j) () (some l) ()) 72,kv 8 (Ex QK) F 61 b c<|L.casks,kv 6 (Ex QN) F 63 d e<|L.duties,kv 4 (Ex QT) F 145 f i<|L.stamps,QY (λx:Int=>(.int .i64 x)) (λF (x:QU) v=>∃(a:Q2 C3) (q:Nat),v=(Zv x a q)/\QG 27 (Ex QO) F a q x.Draughts) o j<|L.batches,QY (λx:Int=>(.int .i64 x)) (λ_ (x:Int) v=>v=(.int .i64 x)) p l<|L.pure])(k:GG g (Hd n D S F<|J6 U F L::J9 is hs) m r):GG g (Hd n D S F hs) m r:=GG.aK is (a,b,c,d,e,f,i,j,l) s u (ZS (λ_ h=>h)<|ZS (λ_ h=>h)<|ZS (λ_ h=>h)<|ZS (λ_ h=>h)<|ZS (λ_=>Ji t)<|ZS (λ_=>Ji l2) λ_ h=>h) k
def Fi(U:Jy)(_:Fz)(L:Zs):HP:=xU (λ_:Unit=>True) λ_=>[pc U.g84 (XG L) 84]
theorem fq{L:Zs}{m:Mem}(_le:F<=F'):Fi U F L m->Fi U F' L m:=λh=>h
theorem _root_.Go.Dec.GG.rq{L:Zs}(i:Nat)(hi:hs[i]? =some (Fi U F L))(k:GG g (Hd n D S F<|[pc U.g84 (XG L) 84]++hs.eraseIdx i) m r):GG g (Hd n D S F hs) m r:=GG.ak i hi λ_ _=>k
theorem _root_.Go.Dec.GG.rD{L:Zs}(is:Q0 Nat)(a:YJ is hs=[pc U.g84 (XG L) 84])(k:GG g (Hd n D S F<|Fi U F L::J9 is hs) m r):GG g (Hd n D S F hs) m r:=GG.aK is () trivial a (ZS (λ_ h=>h) λ_ h=>h) k
theorem Gm:U1 Tryz.prog 3 1 (Ex<|KG .i64):=.ex (λ_=>rfl) (λ_=>rfl) Tryz.sizeOf3 ⟨_,Tryz.typeInfo3,by decide+kernel,by decide+kernel⟩ ⟨_,Tryz.zeroValue3,rfl⟩
theorem hO:U1 Tryz.prog 9 1 (Ex AK):=.ex (λ_=>rfl) (λ_=>rfl) Tryz.sizeOf9 ⟨_,Tryz.typeInfo9,by decide+kernel,by decide+kernel⟩ ⟨_,Tryz.zeroValue9,rfl⟩
theorem v7:U1 Tryz.prog 56 24 (Ex Qy):=.ex (λ_=>rfl) (λ_=>rfl) Tryz.sizeOf56 ⟨_,Tryz.typeInfo56,by decide+kernel,by decide+kernel⟩ ⟨_,Tryz.zeroValue56,rfl⟩
theorem Oe:U1 Tryz.prog 61 8 (Ex QK):=.ex (λ_=>rfl) (λ_=>rfl) Tryz.sizeOf61 ⟨_,Tryz.typeInfo61,by decide+kernel,by decide+kernel⟩ ⟨_,Tryz.zeroValue61,rfl⟩
theorem Od:U1 Tryz.prog 63 6 (Ex QN):=.ex (λ_=>rfl) (λ_=>rfl) Tryz.sizeOf63 ⟨_,Tryz.typeInfo63,by decide+kernel,by decide+kernel⟩ ⟨_,Tryz.zeroValue63,rfl⟩
theorem jD:U1 Tryz.prog 100 2 (Ex Zd):=.ex (λ_=>rfl) (λ_=>rfl) Tryz.sizeOf100 ⟨_,Tryz.typeInfo100,by decide+kernel,by decide+kernel⟩ ⟨_,Tryz.zeroValue100,rfl⟩
theorem jC:U1 Tryz.prog 123 5 (Ex ZN):=.ex (λ_=>rfl) (λ_=>rfl) Tryz.sizeOf123 ⟨_,Tryz.typeInfo123,by decide+kernel,by decide+kernel⟩ ⟨_,Tryz.zeroValue123,rfl⟩
theorem Oh:U1 Tryz.prog 145 4 (Ex QT):=.ex (λ_=>rfl) (λ_=>rfl) Tryz.sizeOf145 ⟨_,Tryz.typeInfo145,by decide+kernel,by decide+kernel⟩ ⟨_,Tryz.zeroValue145,rfl⟩
theorem HA:U1 Tryz.prog 149 2 (Ex QX):=.ex (λ_=>rfl) (λ_=>rfl) Tryz.sizeOf149 ⟨_,Tryz.typeInfo149,by decide+kernel,by decide+kernel⟩ ⟨_,Tryz.zeroValue149,rfl⟩
theorem jB:U1 Tryz.prog 200 27 (Ex QO):=.ex (λ_=>rfl) (λ_=>rfl) Tryz.sizeOf200 ⟨_,Tryz.typeInfo200,by decide+kernel,by decide+kernel⟩ ⟨_,Tryz.zeroValue200,rfl⟩
theorem xB:U1 Tryz.prog 213 3 (Ex KH):=.ex (λ_=>rfl) (λ_=>rfl) Tryz.sizeOf213 ⟨_,Tryz.typeInfo213,by decide+kernel,by decide+kernel⟩ ⟨_,Tryz.zeroValue213,rfl⟩
theorem Og:U1 Tryz.prog 267 1 (ft 2<|Ex QX):=.mk (λ_ _ _ ⟨_,_,h,_⟩=>h▸rfl) (λ_ _ _ ⟨_,_,h,_⟩=>h▸rfl) (λ_ _ _ _ le ⟨a,b,h,c⟩=>⟨a,b,h,c.mono le⟩) Tryz.sizeOf267 ⟨_,Tryz.typeInfo267,by decide+kernel,by decide+kernel⟩ ⟨_,Tryz.zeroValue267,rfl⟩
def Tryz.aG:Go.Shelf.Ren:=⟨fun | 6=>33 | 8=>82 | 9=>83 | 11=>137 | 13=>139 | 12=>138 | 23=>174 | 24=>175 | 14=>165 | 15=>166 | 16=>167 | 17=>168 | 18=>169 | 19=>170 | 20=>171 | 21=>172 | 22=>173 | 25=>202 | 26=>203 | 27=>204 | 28=>205 | 29=>206 | 30=>207 | 31=>235 | n=>n,fun | 26=>3 | 28=>120 | 24=>32 | 0=>0 | 3=>3 | 37=>224 | 48=>261 | 50=>263 | 4=>4 | 40=>254 | 39=>253 | 45=>75 | 5=>5 | 9=>9 | 51=>289 | 55=>270 | 57=>303 | 58=>304 | 33=>95 | n=>n,fun | n=>n⟩
theorem Tryz.sW:Go.Proofs.SlLaysZI.n6 Tryz.prog Tryz.aG:={
 mixed:=by kernel_rfl
 f6:=⟨Tryz.f33.name,by decide,Tryz.func33.trans<|congrArg some ql⟩
 f8:=⟨Tryz.f82.name,by decide,Tryz.func82.trans<|congrArg some ql⟩
 f11:=⟨Tryz.f137.name,by decide,Tryz.func137.trans<|congrArg some ql⟩
 t0:=Tryz.underlying0
 a0:=Tryz.isAgg0
 z0:=Tryz.sizeOf0
 v0:=Tryz.zeroValue0
 t24:=Tryz.underlying32
 a24:=Tryz.isAgg32
 z24:=Tryz.sizeOf32
 v24:=Tryz.zeroValue32
 t26:=Tryz.underlying3
 a26:=Tryz.isAgg3
 z26:=Tryz.sizeOf3
 v26:=Tryz.zeroValue3
 t28:=Tryz.underlying120
 a28:=Tryz.isAgg120
 z28:=Tryz.sizeOf120
 v28:=Tryz.zeroValue120
 i26:=by kernel_rfl}
def Tryz.tT:Go.Shelf.Ren:=⟨fun | 5=>83 | 8=>139 | 7=>138 | 19=>174 | 20=>175 | 10=>165 | 11=>166 | 12=>167 | 13=>168 | 14=>169 | 15=>170 | 16=>171 | 17=>172 | 18=>173 | 30=>202 | 31=>203 | 32=>204 | 33=>205 | 34=>206 | 35=>207 | 40=>235 | n=>n,fun | 23=>32 | 25=>3 | 3=>3 | 32=>224 | 22=>32 | 0=>0 | 44=>261 | 46=>263 | 4=>4 | 36=>254 | 35=>253 | 41=>75 | 5=>5 | 9=>9 | 53=>289 | 57=>270 | 63=>303 | 64=>304 | n=>n,fun | n=>n⟩
theorem Tryz.pX:Go.Proofs.SlLaysM.n5 Tryz.prog Tryz.tT:={
 mixed:=by kernel_rfl
 f5:=⟨Tryz.f83.name,by decide,Tryz.func83.trans<|congrArg some ql⟩
 f7:=⟨Tryz.f138.name,by decide,Tryz.func138.trans<|congrArg some ql⟩
 f8:=Tryz.func139.trans<|congrArg some ql
 f10:=⟨Tryz.f165.name,by decide,Tryz.func165.trans<|congrArg some ql⟩
 f11:=⟨Tryz.f166.name,by decide,Tryz.func166.trans<|congrArg some ql⟩
 f12:=⟨Tryz.f167.name,by decide,Tryz.func167.trans<|congrArg some ql⟩
 f13:=⟨Tryz.f168.name,by decide,Tryz.func168.trans<|congrArg some ql⟩
 f14:=⟨Tryz.f169.name,by decide,Tryz.func169.trans<|congrArg some ql⟩
 f15:=⟨Tryz.f170.name,by decide,Tryz.func170.trans<|congrArg some ql⟩
 f16:=⟨Tryz.f171.name,by decide,Tryz.func171.trans<|congrArg some ql⟩
 f17:=⟨Tryz.f172.name,by decide,Tryz.func172.trans<|congrArg some ql⟩
 f18:=⟨Tryz.f173.name,by decide,Tryz.func173.trans<|congrArg some ql⟩
 f19:=Tryz.func174.trans<|congrArg some ql
 f20:=Tryz.func175.trans<|congrArg some ql
 f30:=⟨Tryz.f202.name,by decide,Tryz.func202.trans<|congrArg some ql⟩
 f31:=Tryz.func203.trans<|congrArg some ql
 f32:=Tryz.func204.trans<|congrArg some ql
 f33:=⟨Tryz.f205.name,by decide,Tryz.func205.trans<|congrArg some ql⟩
 f34:=⟨Tryz.f206.name,by decide,Tryz.func206.trans<|congrArg some ql⟩
 f35:=⟨Tryz.f207.name,by decide,Tryz.func207.trans<|congrArg some ql⟩
 f40:=⟨Tryz.f235.name,by decide,Tryz.func235.trans<|congrArg some ql⟩
 t0:=Tryz.underlying0
 a0:=Tryz.isAgg0
 z0:=Tryz.sizeOf0
 v0:=Tryz.zeroValue0
 t3:=Tryz.underlying3
 a3:=Tryz.isAgg3
 z3:=Tryz.sizeOf3
 v3:=Tryz.zeroValue3
 t4:=Tryz.underlying4
 a4:=Tryz.isAgg4
 z4:=Tryz.sizeOf4
 v4:=Tryz.zeroValue4
 t5:=Tryz.underlying5
 a5:=Tryz.isAgg5
 z5:=Tryz.sizeOf5
 v5:=Tryz.zeroValue5
 t9:=Tryz.underlying9
 a9:=Tryz.isAgg9
 z9:=Tryz.sizeOf9
 v9:=Tryz.zeroValue9
 t22:=Tryz.underlying32
 a22:=Tryz.isAgg32
 z22:=Tryz.sizeOf32
 v22:=Tryz.zeroValue32
 t23:=Tryz.underlying32
 a23:=Tryz.isAgg32
 z23:=Tryz.sizeOf32
 v23:=Tryz.zeroValue32
 t25:=Tryz.underlying3
 a25:=Tryz.isAgg3
 z25:=Tryz.sizeOf3
 v25:=Tryz.zeroValue3
 t32:=Tryz.underlying224
 a32:=Tryz.isAgg224
 z32:=Tryz.sizeOf224
 v32:=Tryz.zeroValue224
 t35:=Tryz.underlying253
 a35:=Tryz.isAgg253
 z35:=Tryz.sizeOf253
 v35:=Tryz.zeroValue253
 t36:=Tryz.underlying254
 a36:=Tryz.isAgg254
 z36:=Tryz.sizeOf254
 v36:=Tryz.zeroValue254
 t41:=Tryz.underlying75
 a41:=Tryz.isAgg75
 z41:=Tryz.sizeOf75
 v41:=Tryz.zeroValue75
 t44:=Tryz.underlying261
 a44:=Tryz.isAgg261
 z44:=Tryz.sizeOf261
 v44:=Tryz.zeroValue261
 t46:=Tryz.underlying263
 a46:=Tryz.isAgg263
 z46:=Tryz.sizeOf263
 v46:=Tryz.zeroValue263
 t53:=Tryz.underlying289
 a53:=Tryz.isAgg289
 z53:=Tryz.sizeOf289
 v53:=Tryz.zeroValue289
 t57:=Tryz.underlying270
 a57:=Tryz.isAgg270
 z57:=Tryz.sizeOf270
 v57:=Tryz.zeroValue270
 t63:=Tryz.underlying303
 a63:=Tryz.isAgg303
 z63:=Tryz.sizeOf303
 v63:=Tryz.zeroValue303
 t64:=Tryz.underlying304
 a64:=Tryz.isAgg304
 z64:=Tryz.sizeOf304
 v64:=Tryz.zeroValue304}
theorem D3(m:Nat):Go.Proofs.AnyZI.SortsIn Tryz.prog Tryz.aG Fence.wide m:=⟨λblk off cap c W d a b=>fl.2<|Go.Proofs.AnyM.slices_Sort_int Tryz.pX blk off cap c W d a b,λp cap W=>fl.2<|Go.Proofs.AnyM.slices_Sort_int_none Tryz.pX p cap W⟩
def Tryz.aB:Go.Shelf.Ren:=⟨fun | 7=>73 | 10=>124 | n=>n,fun | 23=>157 | 26=>3 | 3=>109 | 28=>120 | 0=>0 | 27=>119 | 33=>95 | 4=>4 | n=>n,fun | n=>n⟩
theorem Tryz.tf:Go.Proofs.SlLaysZI.n7 Tryz.prog Tryz.aB:={
 mixed:=by kernel_rfl
 f7:=⟨Tryz.f73.name,by decide,Tryz.func73.trans<|congrArg some ql⟩
 f10:=⟨Tryz.f124.name,by decide,Tryz.func124.trans<|congrArg some ql⟩
 t0:=Tryz.underlying0
 a0:=Tryz.isAgg0
 z0:=Tryz.sizeOf0
 v0:=Tryz.zeroValue0
 t4:=Tryz.underlying4
 a4:=Tryz.isAgg4
 z4:=Tryz.sizeOf4
 v4:=Tryz.zeroValue4
 t23:=Tryz.underlying157
 a23:=Tryz.isAgg157
 z23:=Tryz.sizeOf157
 v23:=Tryz.zeroValue157
 t26:=Tryz.underlying3
 a26:=Tryz.isAgg3
 z26:=Tryz.sizeOf3
 v26:=Tryz.zeroValue3
 t27:=Tryz.underlying119
 a27:=Tryz.isAgg119
 z27:=Tryz.sizeOf119
 v27:=Tryz.zeroValue119
 t28:=Tryz.underlying120
 a28:=Tryz.isAgg120
 z28:=Tryz.sizeOf120
 v28:=Tryz.zeroValue120
 t33:=Tryz.underlying95
 a33:=Tryz.isAgg95
 z33:=Tryz.sizeOf95
 v33:=Tryz.zeroValue95}
theorem uQ:KeysOf Tryz.prog 73 124 157:=λa W=>(fl (n:=5)).1<|ep Tryz.tf Fence.wide 5 trivial rfl a W
theorem M8:Fy Tryz.prog 33 124 3 3:=by
 refine⟨λb p D c w d k f l=> ?_,λc w d k=> ?_⟩
 ·have a:SeqGives Fence.wide 2 Tryz.prog 124 #[.pointer<|some ⟨c,0,none⟩] encZ (λj=>j.Perm<|intKeys D) (Maps.size D) w:=ec (ρ:=Tryz.aB) {Tryz.tf with} Fence.wide _ trivial rfl qz c b p D w d k f;have h:=lK Tryz.sW Fence.wide 5 trivial trivial trivial trivial rfl qz (D3 _) Tryz.call83 124 #[.pointer<|some ⟨c,0,none⟩] trivial Tryz.call124 _ _ (lN l (by unfold maxLen;omega)) qz _ a;exact(fl (n:=5)).1 h
 ·have a:SeqGives Fence.wide 2 Tryz.prog 124 #[.pointer<|some ⟨c,0,none⟩] encZ (λj:Q0 Int=>j=[]) 0 w:=eR (ρ:=Tryz.aB) {Tryz.tf with} Fence.wide _ trivial rfl c w d k;have h:=lK Tryz.sW Fence.wide 5 trivial trivial trivial trivial rfl qz (D3 _) Tryz.call83 124 #[.pointer<|some ⟨c,0,none⟩] trivial Tryz.call124 _ 0 (ei _) qz _ a;refine((fl (n:=5)).1 h).mono ?_;rintro e w' ⟨v,j,rfl,rfl,o,i,q⟩;obtain rfl:v= .slice none 0 0:=i.2 rfl;exact⟨rfl,q⟩
def Tryz.aC:Go.Shelf.Ren:=⟨fun | 7=>34 | 10=>84 | n=>n,fun | 23=>114 | 26=>3 | 3=>123 | 28=>120 | 0=>0 | 27=>119 | 33=>95 | 4=>4 | n=>n,fun | n=>n⟩
theorem Tryz.tg:Go.Proofs.SlLaysZI.n7 Tryz.prog Tryz.aC:={
 mixed:=by kernel_rfl
 f7:=⟨Tryz.f34.name,by decide,Tryz.func34.trans<|congrArg some ql⟩
 f10:=⟨Tryz.f84.name,by decide,Tryz.func84.trans<|congrArg some ql⟩
 t0:=Tryz.underlying0
 a0:=Tryz.isAgg0
 z0:=Tryz.sizeOf0
 v0:=Tryz.zeroValue0
 t4:=Tryz.underlying4
 a4:=Tryz.isAgg4
 z4:=Tryz.sizeOf4
 v4:=Tryz.zeroValue4
 t23:=Tryz.underlying114
 a23:=Tryz.isAgg114
 z23:=Tryz.sizeOf114
 v23:=Tryz.zeroValue114
 t26:=Tryz.underlying3
 a26:=Tryz.isAgg3
 z26:=Tryz.sizeOf3
 v26:=Tryz.zeroValue3
 t27:=Tryz.underlying119
 a27:=Tryz.isAgg119
 z27:=Tryz.sizeOf119
 v27:=Tryz.zeroValue119
 t28:=Tryz.underlying120
 a28:=Tryz.isAgg120
 z28:=Tryz.sizeOf120
 v28:=Tryz.zeroValue120
 t33:=Tryz.underlying95
 a33:=Tryz.isAgg95
 z33:=Tryz.sizeOf95
 v33:=Tryz.zeroValue95}
theorem uR:KeysOf Tryz.prog 34 84 114:=λa W=>(fl (n:=5)).1<|ep Tryz.tg Fence.wide 5 trivial rfl a W
theorem OE:Fy Tryz.prog 33 84 3 3:=by
 refine⟨λb p D c w d k f l=> ?_,λc w d k=> ?_⟩
 ·have a:SeqGives Fence.wide 2 Tryz.prog 84 #[.pointer<|some ⟨c,0,none⟩] encZ (λj=>j.Perm<|intKeys D) (Maps.size D) w:=ec (ρ:=Tryz.aC) {Tryz.tg with} Fence.wide _ trivial rfl qz c b p D w d k f;have h:=lK Tryz.sW Fence.wide 5 trivial trivial trivial trivial rfl qz (D3 _) Tryz.call83 84 #[.pointer<|some ⟨c,0,none⟩] trivial Tryz.call84 _ _ (lN l (by unfold maxLen;omega)) qz _ a;exact(fl (n:=5)).1 h
 ·have a:SeqGives Fence.wide 2 Tryz.prog 84 #[.pointer<|some ⟨c,0,none⟩] encZ (λj:Q0 Int=>j=[]) 0 w:=eR (ρ:=Tryz.aC) {Tryz.tg with} Fence.wide _ trivial rfl c w d k;have h:=lK Tryz.sW Fence.wide 5 trivial trivial trivial trivial rfl qz (D3 _) Tryz.call83 84 #[.pointer<|some ⟨c,0,none⟩] trivial Tryz.call84 _ 0 (ei _) qz _ a;refine((fl (n:=5)).1 h).mono ?_;rintro e w' ⟨v,j,rfl,rfl,o,i,q⟩;obtain rfl:v= .slice none 0 0:=i.2 rfl;exact⟨rfl,q⟩
def Tryz.sl:Go.Shelf.Ren:=⟨fun | 7=>157 | 10=>198 | n=>n,fun | 23=>115 | 26=>3 | 3=>4 | 28=>120 | 0=>0 | 27=>119 | 33=>95 | 4=>4 | n=>n,fun | n=>n⟩
theorem Tryz.az:Go.Proofs.SlLaysZI.n7 Tryz.prog Tryz.sl:={
 mixed:=by kernel_rfl
 f7:=⟨Tryz.f157.name,by decide,Tryz.func157.trans<|congrArg some ql⟩
 f10:=⟨Tryz.f198.name,by decide,Tryz.func198.trans<|congrArg some ql⟩
 t0:=Tryz.underlying0
 a0:=Tryz.isAgg0
 z0:=Tryz.sizeOf0
 v0:=Tryz.zeroValue0
 t4:=Tryz.underlying4
 a4:=Tryz.isAgg4
 z4:=Tryz.sizeOf4
 v4:=Tryz.zeroValue4
 t23:=Tryz.underlying115
 a23:=Tryz.isAgg115
 z23:=Tryz.sizeOf115
 v23:=Tryz.zeroValue115
 t26:=Tryz.underlying3
 a26:=Tryz.isAgg3
 z26:=Tryz.sizeOf3
 v26:=Tryz.zeroValue3
 t27:=Tryz.underlying119
 a27:=Tryz.isAgg119
 z27:=Tryz.sizeOf119
 v27:=Tryz.zeroValue119
 t28:=Tryz.underlying120
 a28:=Tryz.isAgg120
 z28:=Tryz.sizeOf120
 v28:=Tryz.zeroValue120
 t33:=Tryz.underlying95
 a33:=Tryz.isAgg95
 z33:=Tryz.sizeOf95
 v33:=Tryz.zeroValue95}
theorem Ec:KeysOf Tryz.prog 157 198 115:=λa W=>(fl (n:=5)).1<|ep Tryz.az Fence.wide 5 trivial rfl a W
theorem AN:Fy Tryz.prog 33 198 3 3:=by
 refine⟨λb p D c w d k f l=> ?_,λc w d k=> ?_⟩
 ·have a:SeqGives Fence.wide 2 Tryz.prog 198 #[.pointer<|some ⟨c,0,none⟩] encZ (λj=>j.Perm<|intKeys D) (Maps.size D) w:=ec (ρ:=Tryz.sl) {Tryz.az with} Fence.wide _ trivial rfl qz c b p D w d k f;have h:=lK Tryz.sW Fence.wide 5 trivial trivial trivial trivial rfl qz (D3 _) Tryz.call83 198 #[.pointer<|some ⟨c,0,none⟩] trivial Tryz.call198 _ _ (lN l (by unfold maxLen;omega)) qz _ a;exact(fl (n:=5)).1 h
 ·have a:SeqGives Fence.wide 2 Tryz.prog 198 #[.pointer<|some ⟨c,0,none⟩] encZ (λj:Q0 Int=>j=[]) 0 w:=eR (ρ:=Tryz.sl) {Tryz.az with} Fence.wide _ trivial rfl c w d k;have h:=lK Tryz.sW Fence.wide 5 trivial trivial trivial trivial rfl qz (D3 _) Tryz.call83 198 #[.pointer<|some ⟨c,0,none⟩] trivial Tryz.call198 _ 0 (ei _) qz _ a;refine((fl (n:=5)).1 h).mono ?_;rintro e w' ⟨v,j,rfl,rfl,o,i,q⟩;obtain rfl:v= .slice none 0 0:=i.2 rfl;exact⟨rfl,q⟩
abbrev JP:=Q0<|Q0<|Int×QF
abbrev ZR:=Q0<|Q0<|Int×Bool
abbrev JU:=Q0<|Q0<|Int×(Q2 Nat)
def U0(F:Fz)(p:L3)(c:Q0 K2×Q0 K2)(M:((QA×Unit×(Q0 Int))->Q2 (Out Qn<|(Q0 DO)×QA))):Prop:=∀U:Jy,TM Tryz.prog JW F p c (fun(x:(QA×Unit×(Q0 Int))) F vs=>∃(a:Q2 C3) (b:Nat),vs=[(vP U.g72 0),(vS a x.2.2 b)]/\QG 1 (Ex<|KG .i64) F a b x.2.2) (λF (x:(QA×Unit×(Q0 Int)))=>[Q6 U F x.1]) (fun(r:(Q0 DO)×QA) _ v=>v=(.string<|bs r.1)) (λF (_:(QA×Unit×(Q0 Int))) (r:(Q0 DO)×QA)=>[J6 U F r.2]) M
theorem U0.mono{p:L3}{c:Q0 K2×Q0 K2}{M:((QA×Unit×(Q0 Int))->Q2 (Out Qn<|(Q0 DO)×QA))}(h:U0 F p c M)(le:F<=F'):U0 F' p c M:=λU=>(h U).mono le
abbrev Sp(U:Jy)(F:Fz)(p:L3)(c:Q0 K2×Q0 K2)(M:(((Q0 QJ)×(Q0 Qj)×(Q0<|Q0<|Int×Bool)×(Q0<|Q0<|Int×(Q2 Nat))×(Q2 Nat)×QE)->Q2 (Out Zk<|(Q0 QJ)×(Q0<|Q0<|Int×Bool)×(Q0<|Q0<|Int×(Q2 Nat))))):Prop:=TM Tryz.prog WZ F p c (fun(x:((Q0 QJ)×(Q0 Qj)×(Q0<|Q0<|Int×Bool)×(Q0<|Q0<|Int×(Q2 Nat))×(Q2 Nat)×QE)) F vs=>∃(p0:Q2 C3) (_:Unit),vs=[(.pointer p0),(JK x.2.2.2.2.2)]/\ZO U.g159 F p0 x.2.2.2.2.1) (λF (x:((Q0 QJ)×(Q0 Qj)×(Q0<|Q0<|Int×Bool)×(Q0<|Q0<|Int×(Q2 Nat))×(Q2 Nat)×QE))=>[Qu U F x.1,Q8 U F x.2.1,Qd U F x.2.2.1,ZB U F x.2.2.2.1]) (fun(_:(Q0 QJ)×(Q0<|Q0<|Int×Bool)×(Q0<|Q0<|Int×(Q2 Nat))) _ v=>v= .tuple #[]) (λF (x:((Q0 QJ)×(Q0 Qj)×(Q0<|Q0<|Int×Bool)×(Q0<|Q0<|Int×(Q2 Nat))×(Q2 Nat)×QE)) (r:(Q0 QJ)×(Q0<|Q0<|Int×Bool)×(Q0<|Q0<|Int×(Q2 Nat)))=>[Qu U F r.1,Q8 U F x.2.1,Qd U F r.2.1,ZB U F r.2.2]) M
abbrev DA(U:Jy)(F:Fz)(p:L3)(c:Q0 K2×Q0 K2)(M:(((Q0 QD)×(Q0<|Q0<|Int×QF)×(Q0<|Q0<|Int×Bool)×QM)->Q2 (Out Zt<|(Q0 QD)×(Q0<|Q0<|Int×QF)×(Q0<|Q0<|Int×Bool)))):Prop:=TM Tryz.prog Xk F p c (fun(x:((Q0 QD)×(Q0<|Q0<|Int×QF)×(Q0<|Q0<|Int×Bool)×QM)) _ vs=>vs=[(JJ x.2.2.2)]) (λF (x:((Q0 QD)×(Q0<|Q0<|Int×QF)×(Q0<|Q0<|Int×Bool)×QM))=>[ZX U F x.1,KR U F x.2.1,Qd U F x.2.2.1]) (fun(_:(Q0 QD)×(Q0<|Q0<|Int×QF)×(Q0<|Q0<|Int×Bool)) _ v=>v= .tuple #[]) (λF (_:((Q0 QD)×(Q0<|Q0<|Int×QF)×(Q0<|Q0<|Int×Bool)×QM)) (r:(Q0 QD)×(Q0<|Q0<|Int×QF)×(Q0<|Q0<|Int×Bool))=>[ZX U F r.1,KR U F r.2.1,Qd U F r.2.2]) M
end
section
open Go.Dec Go.Proofs.Tryz Go.Shelf Go.RowKit Go.Maps Go.Sort
set_option maxRecDepth 100000
set_option maxHeartbeats 4000000
variable{σ ε:Type}
def K0(y:(Q0 Int)->σ->Q2 (Out ε<|σ×Bool))(d:(Q0 Int))(h:Int)(a:Int×σ):Q2 (UP (Int×σ)<|(Out ε σ) ⊕ (Out ε σ)):=if(decide<|a.1 < (d.length:Int)) then((ZV d a.1 d.length).bind λe=>QQ (JY h (e.length:Int)) λb=>(ZV d a.1<|Qz<|a.1+b).bind λf=>Qw (y f a.2) (λq=>some<|.done<|.inr<|.pan q) λc=>if(!c.2) then(some<|.done<|.inr<|.ok c.1) else(QQ (Qz<|a.1+h) λg=>some<|.next (g,c.1))) else(some<|.done<|.inl<|.ok a.2)
def Us(y:(Q0 Int)->σ->Q2 (Out ε<|σ×Bool))(b:(Q0 Int))(c:Int)(d:σ):Q2 (Out ε σ):=(ZT (K0 y b c) (0,d)).bind λe=>match e with | .inl a=>(some a) | .inr a=>(some a)
theorem Cs(F0:Fz)(ε σ:Type)(penc:ε->K2)(G:Nat)(Y:σ->Fz->HP)(Z:ε->Fz->HP)(y:(Q0 Int)->σ->Q2 (Out ε<|σ×Bool))(hy:T8 prog penc G F0 (fun(x:(Q0 Int)) F vs=>∃(Q:Q2 C3) (S:Nat),vs=[(vS Q x S)]/\QG 1 (Ex<|KG .i64) F Q S x) Y Z y)(H:(Q0 Int))(I:Nat)(T:Q2 C3)(V:Nat)(l:F0.mem I=some (.cells #[(vS T H V)] 32))(W:QG 1 (Ex<|KG .i64) F0 T V H)(X:Int)(K:Nat)(v:F0.mem K=some (.cells #[(vI X)] 3))(s0:σ):dZ prog penc 146 #[(.func (.yield G) #[] #[]),(vP I 0),(vP K 0)] F0 (Y s0 F0) (Us y H X s0) Y Z:=by
 refine dZ.enter func146 J ntmps146 J λr R=> ?_;unfold Us;refine .w 6 (.keep (.p [0,1,2,4] J)<|.loop (fun(o:Int×σ) a w=>∃(d:Fz),F0<=d/\Hd 31 [] [(0,(.func (.yield G) #[] #[])),(1,(vP I 0)),(2,(vP K 0)),(4,(vI o.1))] d [Y o.2 d,R] a w) (λb0 e a w=>match b0 with | .inl (.ok s)=>e= .exit 0/\∃(u:Fz),F0<=u/\Hd 31 [] [] u [Y s u,R] a w | .inl (.pan q)=>False | .inr (.ok s)=>e= .ret/\∃(c:Fz),F0<=c/\Hd 31 [] [] c [Y s c,R] a w | .inr (.pan q)=>e= .panic (Aq penc q)/\∃(c:Fz),F0<=c/\Hd 31 [] [] c [Z q c,R] a w) ?_ ?_ ?_)
 ·exact λa w h=>⟨F0,Fz.r,h.1.sub<|.k J,h.2⟩
 ·intro o aE;refine GG.ex λa w ⟨d,b,g⟩=>⟨_,g,?_⟩;unfold K0;refine .w 4<|.U J fS J (b.mem _ _ l) J<|.cq J J UO J<|.w 3<|.i J (λA=> ?_) λA=> ?_
  ·refine .w 5<|.keep (.p [0,1,2,4] J)<|.cV 7 Qc ql<|.U J V3 J (b.mem _ _ v) J<|.U J fS J (b.mem _ _ l) J<|.m J J<|.sv J UO W3 (W.mono b) J J λaF aG aH aI aJ=>.cq J J UO J<|.min2 J J J<|.cS J J λD aK=>.cn<|.w 5<|.U J fS J (b.mem _ _ l) J<|.w 7<|.tU J UO W3 (W.mono b) J J J J λaL L M aM N=>.nW J hy J J ⟨L,M,J,N⟩ (i:=0) J b Fz.r (λaN j _ f=>.w 3<|.i J (λB=> ?_) λB=> ?_) λq j f hq a w g=>Q5.pan (λa w h=>⟨J,j,(Fz.t b f),h.1.sub<|.k J,h.2⟩) hq a w g
   ·refine .cz<|Q5.ret λa w h=>⟨J,j,(Fz.t b f),h.1.sub<|.k J,h.2⟩
   ·exact .w 5<|.U J V3 J ((Fz.t b f).mem _ _ v) J<|.add J J J<|.cS J J λaP aQ=>.n<|.cN<|Q5.norm λa w h=>⟨j,(Fz.t b f),h.1.sub<|.k J,h.2⟩
  ·refine .cR J<|Q5.exit λa w h=>⟨J,d,b,h.1.sub<|.k J,h.2⟩
 ·intro z aR P e a w E;rcases z with(z | q) | (z | q)
  ·obtain⟨rfl,F1,C,g⟩:=E;exact Q9 J<|GG.app (GG.cN<|L8 results146 .n C) P a w g
  ·exact E.elim
  ·obtain⟨rfl,F1,C,g⟩:=E;exact Jn<|L8 results146 .n C P a w g
  ·obtain⟨rfl,F1,C,g⟩:=E;exact K9<|j7 C P a w g
def SN{α:Type}(n:Nat)(l:Q0 α):Nat->Nat->Q0 (Q0 α)
 | 0,_=>[]
 | d+1,a=>if a < l.length then(l.drop a).take n::SN n l d (a+n) else[]
def WM(a:(Q0 Int))(b:Int):Q2 (Q0<|Q0 Int):=if 0 < b/\b<=1000000/\a.length<=1000000000000 then some (SN b.toNat a a.length 0) else none
theorem Mg{y:(Q0 Int)->σ->Q2 (Out ε<|σ×Bool)}{l:Q0 Int}{n:Nat}(j:0 < n)(f:n<=1000000)(k:l.length<=1000000000000):∀(d a:Nat) (s:σ) (r:Out ε σ),l.length<=a+d->a<=l.length+n->Gj y (SN n l d a) s=some r->
  ZT (K0 y l (n:Int)) ((a:Int),s)=some (.inl r)∨ZT (K0 y l (n:Int)) ((a:Int),s)=some (.inr r)
 | 0,a,s,r,m,_,h=>by
  simp only[SN,Gj,UV] at h
  subst h;left;rw[ZJ];have:¬a < l.length:=by omega
  simp[K0,this]
 | d+1,a,s,r,m,v,h=>by
  by_cases b:a < l.length
  ·simp only[SN,Bm b,Gj] at h
   have g:ZV l (a:Int) (l.length:Int)=some (l.drop a):=by
    unfold ZV;rw[Bm qz];simp only[hQ];rw[OF zh]
   have o:Qz ((a:Int)+n)=((a+n:Nat):Int):=by rw[Qi qz qz];omega
   have he:JY (n:Int) ((l.drop a).length:Int)=((min n (l.length - a):Nat):Int):=by
    unfold JY;simp only[lO];split<;>omega
   have hs:ZV l (a:Int) (Qz<|(a:Int)+((min n (l.length - a):Nat):Int))=some ((l.drop a).take n):=by
    rw[Qi qz qz];unfold ZV;rw[Bm qz];congr 1;have t:((a:Int)+((min n (l.length - a):Nat):Int)).toNat - (a:Int).toNat=min n (l.length - a):=by omega
    rw[t,hQ,<-lO,<-List.take_eq_take_min]
   rw[ZJ]
   have u:K0 y l (n:Int) ((a:Int),s)=Qw (y ((l.drop a).take n) s) (λq=>some<|.done<|.inr<|.pan q) λc=>if(!c.2) then(some<|.done<|.inr<|.ok c.1) else some (.next (((a+n:Nat):Int),c.1)):=by
    show(if decide ((a:Int) < (l.length:Int)) then _ else _)=_;rw[Bm<|by simpa using b];rw[g];show(ZV l (a:Int)<|Qz<|(a:Int)+JY (n:Int) ((l.drop a).length:Int)).bind _=_;rw[he,hs,<-o];rfl
   rw[u];cases i:y ((l.drop a).take n) s with
   | none=>rw[i] at h;cases h
   | some p=>
    rw[i] at h
    cases p with
    | pan q=>
     simp only[Qw,UV] at h ⊢
     right;rw[h]
    | ok p=>
     simp only[Qw] at h ⊢
     by_cases e:p.2=true
     ·rw[Bm e] at h
      have:=Mg j f k d (a+n) p.1 r qz qz h;simpa[e] using this
     ·rw[B2 e] at h
      simp only[UV] at h
      right;simp[e,h]
  ·simp only[SN,B2 b,Gj,UV] at h
   subst h;left;rw[ZJ];simp[K0,b]
theorem Br{y:(Q0 Int)->σ->Q2 (Out ε<|σ×Bool)}{c:(Q0 Int)}{a:Int}{l:Q0 (Q0 Int)}{s:σ}{r:Out ε σ}(b:WM c a=some l)(d:Gj y l s=some r):Us y c a s=some r:=by
 unfold WM at b
 unfold Us;split at b
 ·rename_i h;simp only[UV] at b
  subst b;have e:((a.toNat:Nat):Int)=a:=by omega
  have:=Mg (n:=a.toNat) qz qz h.2.2 c.length 0 s r qz qz d;rw[e] at this
  rcases this with e | e
  ·exact ZQ e rfl
  ·exact ZQ e rfl
 ·cases b
def Z8(y:ON->σ->Q2 (σ×Bool))(h:JU)(d:Qj)(b:(Q0 Int))(a:Int×σ):Q2 (UP (Int×σ)<|(σ) ⊕ (σ)):=if(decide<|a.1 < (b.length:Int)) then((ZW b a.1).bind λe=>(d.casks).bind λf=>(h[f]?).bind λg=>(y ((Qb g e).getD none) a.2).bind λc=>if(!c.2) then(some<|.done<|.inr c.1) else(some<|.next ((Qz<|a.1+1),c.1))) else(some<|.done<|.inl a.2)
def Ur(y:ON->σ->Q2 (σ×Bool))(A1:Q0 Qj)(d:JU)(e:ON)(f:σ):Q2 σ:=e.bind λg=>(A1[g]?).bind λb=>(V7 d b.casks).bind λc=>(ZT (Z8 y d b c) (0,f)).bind λh=>match h with | .inl a=>(some a) | .inr a=>(some a)
theorem Cq(F0:Fz)(U:Jy)(σ:Type)(ly:Nat)(Y:σ->Fz->HP)(y:ON->σ->Q2 (σ×Bool))(hy:WK prog ly F0 (fun(x:ON) F vs=>∃(p0:Q2 C3) (_:Unit),vs=[(.pointer p0)]/\ZO U.g170 F p0 x) Y y)(A1:Q0 Qj)(D:JU)(c3:ON)(b4:Nat)(p6:Q2 C3)(_:Unit)(L:F0.mem b4=some (.cells #[(.pointer p6)] 103))(h8:ZO U.g159 F0 p6 c3)(s0:σ):Xv prog 72 #[(.func (.yield ly) #[] #[]),(vP b4 0)] F0 [Q8 U F0 A1,ZB U F0 D,Y s0 F0] (Ur y A1 D c3 s0) (λ_ _ _=>True) (λs' F' =>[Q8 U F' A1,ZB U F' D,Y s' F']):=by
 refine Xv.enter func72 J ntmps72 J λr R=>(.o (Sub.refl _) (J:_=[Q8 U F0 A1,ZB U F0 D,Y s0 F0,R]) ?_);unfold Ur;refine .w 2<|.U J Lg J L J<|.d λi9 aH=> ?_;obtain⟨ak,A,B⟩:=h8.at aH;refine .cE B J J (.f J P3 J IH J<|.d λM N=>.cI (Φ:=λv=>∃(E:Q2 Nat) (aI:Unit),v=(.map E)/\Zx U.g157 F0 E M.casks) 0 J Fz.r A N J IJ J (λvs ⟨q0,q1,h,r0⟩=>⟨_,by subst h;exact J,q0,q1,J,r0⟩) λv P=> ?_);obtain⟨E,aI,rfl,aM⟩:=P;refine .pE uQ J call73 J J (λal an b Q=>.aW U3 M8 (c:=(Ex<|KG .i64)) (λ_ _=>J) (Q) 1 J (aM.mono b) J call33 J J λC q aN aO ao g aP=>.cq J J UO J<|.w 4<|.keep (.p [0,1,10,11,12] J)<|.mL 2 hy J Fz.r (Fz.t b g)<|.loop (fun(G:Int×σ) a w=>∃(n:Fz),q<=n/\Hd 26 [] [(0,(.func (.yield ly) #[] #[])),(1,(vP b4 0)),(10,(vS aN C aO)),(11,(vI (C.length:Int))),(12,(vI G.1))] n [Q8 U F0 A1,ZB U F0 D,Y G.2 n,R] a w) (λb0 e a w=>match b0 with | .inl l=>e= .exit 0/\∃(s:Fz),q<=s/\Hd 26 [] [] s [Q8 U F0 A1,ZB U F0 D,Y l s,R] a w | .inr l=>e= .ret/\∃(u:Fz),q<=u/\Hd 26 [] [] u [Q8 U F0 A1,ZB U F0 D,Y l u,R] a w) ?_ ?_ ?_)
 ·exact λa w h=>⟨q,Fz.r,h.1.sub<|.k J,h.2⟩
 ·intro G ar;refine GG.ex λa w ⟨n,j,S⟩=>⟨_,S,?_⟩;unfold Z8;refine .w 6<|.i J (λT=> ?_) λT=> ?_
  ·refine .w 6 (.idx J UO W3 (aP.mono j) J J λaQ au av aw ae af ax V W=>.U J V3 J V (QI (k:=0) W J)<|.w 6<|.U J Lg J ((Fz.t b<|Fz.t g j).mem _ _ L) J<|.cE B J J<|.f J P3 J IH J<|.cI (Φ:=λv=>∃(H:Q2 Nat) (aR:Unit),v=(.map H)/\Zx U.g157 n H M.casks) 0 J (Fz.t b<|Fz.t g j) (A.mono<|Fz.t b<|Fz.t g j) N J IJ J (λvs ⟨q0,q1,h,r0⟩=>⟨_,by subst h;exact J,q0,q1,J,r0⟩) λv P=> ?_);obtain⟨H,aR,rfl,aS⟩:=P;refine .m J J<|.d λay aU=> ?_;obtain⟨az,X,Z⟩:=aS.at aU;refine .d λa1 aV=>.sa (key:=aQ) (z:=none) 1 J (Fz.t b<|Fz.t g j) X Z aV J zK (.int U3) wG ⟨none,(),J,ZO.nil⟩ J J ?_;intro v P;obtain⟨aW,aX,rfl,aY⟩:=P;refine .tS J hy J J ⟨aW,aX,J,aY⟩ (i:=2) J (Fz.t b<|Fz.t g j) Fz.r λa6 aA a7 aB=>.w 3<|.i J (λaC=> ?_) λaC=> ?_
   ·refine .cz<|Q5.ret λa w h=>⟨J,aA,(Fz.t j aB),h.1.sub<|.k J,h.2⟩
   ·exact .w 7<|.cN<|Q5.norm λa w h=>⟨aA,(Fz.t j aB),h.1.sub<|.k J,h.2⟩
  ·refine .cR J<|Q5.exit λa w h=>⟨J,n,j,h.1.sub<|.k J,h.2⟩
 ·intro l a8 hk e a w hD;rcases l with l | l
  ·obtain⟨rfl,s,I,S⟩:=hD;refine Q9 J<|GG.app ?_ hk a w S;exact .cU 0 (KY U) (Fz.t b<|Fz.t g I) J<|.cU 1 (Km U) (Fz.t b<|Fz.t g I) J<|.ag [0,0,0,0] results72 .nil J (Fz.t b<|Fz.t g I) trivial
  obtain⟨rfl,u,K,S⟩:=hD;exact Jn<|(λe a w h=>FG [0,0,0,0] results72 .nil J (Fz.t b<|Fz.t g K) trivial e a w<|Hd.cU 1 (Km U) (Fz.t b<|Fz.t g K) J<|Hd.cU 0 (KY U) (Fz.t b<|Fz.t g K) J h) hk a w S
def VZ(A1:Q0 Qj)(a:Q0 (Q0<|Int×Q2 Nat))(c:Q2 Nat):Q2 (Q0<|Q2 Nat):=c.bind λi=>(A1[i]?).bind λb=>(b.casks).bind λj=>(a[j]?).bind λl=>(Gn l).bind λks=>some<|ks.map λk=>(Qb l k).getD none
theorem RJ{y:Q2 Nat->σ->Q2 (σ×Bool)}{e:Q0 (Q0<|Int×Q2 Nat)}{x:Qj}{j:Nat}{l:Q0 (Int×Q2 Nat)}{ks:Q0 Int}(f:x.casks=some j)(g:e[j]? =some l)(i:ks.length<=1000000):∀(d k:Nat) (s r:σ),k+d=ks.length->WH y ((ks.drop k).map λk=>(Qb l k).getD none) s=some r->
  ZT (Z8 y e x ks) ((k:Int),s)=some (.inl r)∨ZT (Z8 y e x ks) ((k:Int),s)=some (.inr r)
 | 0,k,s,r,m,h=>by
  rw[j0 qz] at h
  simp only[eW,WH,UV] at h
  subst h;left;rw[ZJ];have:¬k < ks.length:=by omega
  simp[Z8,this]
 | d+1,k,s,r,m,h=>by
  have a:k < ks.length:=by omega
  have n:Qz ((k:Int)+1)=((k+1:Nat):Int):=by rw[Qi qz qz];rfl
  rw[x2 a] at h
  have hi:ZW ks (k:Int)=some ks[k]:=by simp[ZW,a]
  simp only[Of,WH] at h
  rw[ZJ];cases b:y ((Qb l ks[k]).getD none) s with
  | none=>rw[b] at h;cases h
  | some p=>
   rw[b] at h
   simp only[K1] at h
   by_cases c:p.2=true
   ·rw[Bm c] at h
    have:=RJ f g i d (k+1) p.1 r qz h;simpa[Z8,a,hi,f,g,b,c,n] using this
   ·rw[B2 c] at h
    simp only[UV] at h
    right;simp[Z8,a,hi,f,g,b,c,h]
theorem Bq{y:Q2 Nat->σ->Q2 (σ×Bool)}{A1:Q0 Qj}{d:Q0 (Q0<|Int×Q2 Nat)}{c:Q2 Nat}{l:Q0 (Q2 Nat)}{s r:σ}(f:VZ A1 d c=some l)(o:WH y l s=some r):Ur y A1 d c s=some r:=by
 simp only[VZ,x8] at f
 obtain⟨i,hi,b,p,j,k,m,n,ks,a,f⟩:=f;simp only[UV] at f
 subst f
 have q:ks.length<=1000000:=by
  unfold Gn at a
  split at a
  ·rename_i h;simp only[UV] at a
   rw[<-a];simpa using h.2
  ·cases a
 have hs:V7 d b.casks=some ks:=by simp[V7,k,n,a]
 unfold Ur;rw[hi,K1,p,K1,hs,K1];rcases RJ (y:=y) k n q ks.length 0 s r qz (by simpa using o) with e | e
 ·have g:ZT (Z8 y d b ks) (0,s)=some (.inl r):=e;rw[g];rfl
 ·have g:ZT (Z8 y d b ks) (0,s)=some (.inr r):=e;rw[g];rfl
def Ye(A1:Q0 QD)(c:ON)(d:QF):Q2 (Int):=c.bind λa=>(A1[a]?).bind λb=>some<|Qz<|(Qz<|d.Sent+b.rules.Transit)+1
theorem GW(F0:Fz)(U:Jy)(A1:Q0 QD)(l:ON)(n:Q2 C3)(_:Unit)(q:ZO U.g117 F0 n l)(g:QF):Xv prog 135 #[(.pointer n),(J7 g)] F0 [ZX U F0 A1] (Ye A1 l g) (λr _ v=>v=(vI r)) (λ_ s=>[ZX U s A1]):=by
 refine Xv.enter func135 J ntmps135 J λr R=>(.o (Sub.refl _) (J:_=[ZX U F0 A1,R]) ?_);unfold Ye;refine .w 2 (.cY (cs:=(ZN g)) J J J λy z e a=>.w 4<|.keep (.p [0,3] J)<|.cV 10 Qc ql<|.f J ke J W3 J<|.U J V3 J a J<|.m J J<|.d λt i=> ?_);obtain⟨u,b,c⟩:=(q.mono e).at i;refine .cE c J J (.f J VN J zF J<|.f J zS J W3 J<|.d λj k=>.cI (Φ:=λv=>v=(vI j.rules.Transit)) 0 J e b k J V3 J (λvs ⟨A,B,C,D,E,F,G,H,h,I,K,L,M⟩=>⟨_,by subst h;exact J,J⟩) λv x=> ?_);subst x;exact .w 3<|.cn<|.w 2<|.cU 0 (YI U) e J<|.sY [0,0] results135 (.tmp J<|.nil) J e J
def KF(A1:Q0 QD)(A3:ZR)(i:ON)(c:Int)(d:(Int×QF))(a:ZR):Q2 (ZR):=((Ye A1 i d.2).bind λb=>(if(decide<|b<=c) then((a[A3.length]?).bind λe=>QQ (List.set a A3.length<|Q4 e b true) λf=>some f) else(some a):Q2 (ZR)).bind λg=>some g:Q2 (ZR)).bind λh=>some h
def Zw(y:Int->σ->Q2 (σ×Bool))(c:(Q0 Int))(a:Int×σ):Q2 (UP (Int×σ)<|(σ) ⊕ (σ)):=if(decide<|a.1 < (c.length:Int)) then((ZW c a.1).bind λd=>(y d a.2).bind λb=>if(!b.2) then(some<|.done<|.inr b.1) else(some<|.next ((Qz<|a.1+1),b.1))) else(some<|.done<|.inl a.2)
def UA(y:Int->σ->Q2 (σ×Bool))(d:Q0 QD×JP×ZR->σ)(A1:Q0 QD)(k:JP)(A3:ZR)(l:ON)(e:Int):Q2 σ:=QQ (A3++[[]]) λf=>l.bind λg=>(A1[g]?).bind λh=>(h.moving).bind λi=>(k[i]?).bind λj=>(CS PB (KF A1 A3 l e) j f).bind λb=>(V7 b<|some A3.length).bind λc=>(ZT (Zw y c) (0,(d (A1,k,b)))).bind λm=>match m with | .inl a=>(some a) | .inr a=>(some a)
theorem Ba(F0:Fz)(U:Jy)(σ:Type)(ly:Nat)(Y:σ->Fz->HP)(Z:HP)(aA:Q0 QD×JP×ZR->σ)(y:Int->σ->Q2 (σ×Bool))(hy:WK prog ly F0 (fun(x:Int) _ vs=>vs=[(vI x)]) Y y)(hp:∀(r:Q0 QD×JP×ZR) F',F0<=F'->∀m,Qg ([ZX U F' r.1,KR U F' r.2.1,Qd U F' r.2.2]++[Z]) m->Y (aA r) F' m)(A1:Q0 QD)(N:JP)(A3:ZR)(c4:ON)(b5:Nat)(p7:Q2 C3)(k8:Unit)(aY:F0.mem b5=some (.cells #[(.pointer p7)] 111))(h9:ZO U.g117 F0 p7 c4)(aM:Int)(P:Nat)(aZ:F0.mem P=some (.cells #[(vI aM)] 3)):Xv prog 164 #[(.func (.yield ly) #[] #[]),(vP b5 0),(vP P 0)] F0 [ZX U F0 A1,KR U F0 N,Qd U F0 A3,Z] (UA y aA A1 N A3 c4 aM) (λ_ _ _=>True) (λs' F' =>[Y s' F']):=by
 refine Xv.enter func164 J ntmps164 J λr R=>(.o (Sub.refl _) (J:_=[ZX U F0 A1,KR U F0 N,Qd U F0 A3,Z,R]) ?_);unfold UA;refine .w 2<|.sE (λx:Int=>(vI x)) (λ_ (x:Bool) v=>v=(.bool x)) J λaN=>.cL λbe ay=>.sc 0 2 J J (Zn U) Fz.r (λG m l hm=>Ji (Fz.t Fz.r l) hm) ay λaO g aF=>.w 6<|.U J Dx J (g.mem _ _ aY) J<|.d λbg az=> ?_;obtain⟨bh,aa,ab⟩:=(h9.mono g).at az;refine .cE ab J J (.f J VN J zH J<|.d λa1 a6=>.cI (Φ:=λv=>∃(aP:Q2 Nat) (a7:Unit),v=(.map aP)/\Zx U.g114 aO aP a1.moving) 0 J g aa a6 J zJ J (λvs ⟨q0,q1,q2,q3,q4,q5,q6,q7,h,r0,r1,r2,r3⟩=>⟨_,by subst h;exact J,q4,q5,J,r2⟩) λv hv=> ?_);obtain⟨aP,a7,rfl,bA⟩:=hv;refine .d λaB bB=> ?_;obtain⟨C,ad,ae⟩:=bA.at bB;refine .d λbm af=>.tW 1 J ad ae af J kf J λj ag=>.w 3<|.keep (.p [0,1,2,4,15] J)<|.cU 1 (YI U) g J<|.tJ (B:=0) (b:=(KF A1 A3 c4 aM)) PB (λQ q (aQ:ZR) a w=>∃(aC:Fz),aO<=aC/\Hd 41 [] [(0,(.func (.yield ly) #[] #[])),(1,(vP b5 0)),(2,(vP P 0)),(4,(.map<|some aN)),(15,(vP j 0))] aC [Up (λx:Int=>(vI x)) (λ_ (x:QF) v=>v=(J7 x)) F0 C j Q q,ZX U aC A1,hole U.g114 (P6 U) F0 aB C N,Qd U aC aQ,Z,R] a w) J ?_ ?_ ?_ ?_
 ·exact λa w h=>⟨aO,Fz.r,h.1.sub<|.k J,h.2⟩
 ·exact λq bn bo a w hE ⟨bC,bD,D⟩=>⟨bC,bD,Hd.mW 3 J hE D⟩
 ·intro Q q aQ aD;rcases Q with _ | ⟨y,ys⟩
  ·exact GG.ex λa w ⟨bE,bF,D⟩=>⟨_,D,(.w 2<|.tZ 0 J J J J<|.w 4<|.sH J<|.cR J<|Gz.over λa w h=>⟨bE,bF,h.1.sub<|.k J,h.2⟩)⟩
  ·refine GG.ex λa w ⟨ah,L,D⟩=>⟨_,D,(.w 2<|.tY 0 J (en _ _) J J J λu z bq aG bR=> ?_)⟩;obtain⟨br,aH⟩:=aD u<|aG.mem_iff.1<|tO ..;refine .use aH ?_;unfold KF;refine .w 4<|.sT J<|.w 2<|.keep (.p [0,1,2,4,15] J)<|GG.ct (σ:=ZR) (λai a w=>∃(M:Fz),ah<=M/\Hd 41 [] [(0,(.func (.yield ly) #[] #[])),(1,(vP b5 0)),(2,(vP P 0)),(4,(.map<|some aN)),(15,(vP j 0))] M [Up (λx:Int=>(vI x)) (λ_ (x:QF) v=>v=(J7 x)) F0 C j z<|u::q,ZX U M A1,hole U.g114 (P6 U) F0 aB C N,Qd U M ai,Z,R] a w) (λsj=> ?_) λai bG=>GG.ex λa w ⟨M,bH,D⟩=>⟨_,D,?_⟩
   ·refine .w 3<|.tj 0 J J J J λv hv=> ?_;obtain rfl:=hv _<|Fz.t g L;refine .x J J J<|.l (cs:=(ZN<|QF.mk 0 0 0 0 0)) J kZ J λaj=>.store (cs' :=(ZN u.2)) y3 J J J J (i:=0) J (JV J) J (QZ j8)<|.w 4<|.U J Dx J ((Fz.t g L).mem _ _ aY) J<|.cT J dP y3 J (i:=0) J (vs:=(ZN u.2)) ql J<|.cm [2] J call135 J J J J (GW _ U A1 c4 p7 k8 (h9.mono<|Fz.t g L) u.2)<|Kv λbI S bu T=>.pick [1,1,0,0,0,0,0] (J:_=[pc aj (ZN u.2) 123,Up (λx:Int=>(vI x)) (λ_ (x:QF) v=>v=(J7 x)) F0 C j z<|u::q,ZX U S A1,hole U.g114 (P6 U) F0 aB C N,Qd U ah aQ,Z,R])<|.w 6<|.U J V3 J ((Fz.t g<|Fz.t L T).mem _ _ aZ) J<|.w 3<|.keep (.p [0,1,2,4,7,15,25] J)<|GG.ct (σ:=ZR) (λak a w=>∃(V:Fz),S<=V/\Hd 41 [] [(0,(.func (.yield ly) #[] #[])),(1,(vP b5 0)),(2,(vP P 0)),(4,(.map<|some aN)),(15,(vP j 0))] V [pc aj (ZN u.2) 123,Up (λx:Int=>(vI x)) (λ_ (x:QF) v=>v=(J7 x)) F0 C j z<|u::q,ZX U S A1,hole U.g114 (P6 U) F0 aB C N,Qd U V ak,Z,R] a w) (λsj=> ?_) λak bG=>GG.ex λa w ⟨V,al,D⟩=>⟨_,D,?_⟩
    ·refine .i J (λan=> ?_) λan=> ?_
     ·exact .w 3<|.d λbw bJ=>.cL λbx bK=>.sZ (key:=bI) (val:=true) 4 J T (aF.mono<|Fz.t L T) J bJ zM (.int U3) J J J (λ_ _=>J) bK<|.n (.cN λe a w h=>by cases e;exact⟨J,⟨S,Fz.r,h.1.sub<|.k J,h.2⟩⟩)
     ·exact .skip<|.cU 4 (Zn U) T J (.cN λe a w h=>by cases e;exact⟨J,⟨S,Fz.r,h.1.sub<|.k J,h.2⟩⟩)
    exact .k<|.drop 0<|.cU 1 (YI U) al J (.cN λe a w h=>by cases e;exact⟨J,⟨V,(Fz.t T al),h.1.sub<|.k J,h.2⟩⟩)
   exact .cN<|Gz.norm aG aH λa w h=>⟨M,(Fz.t L bH),h.1.sub<|.k J,h.2⟩
 ·intro q aE bS ao;refine GG.ex (λa w ⟨bz,F,D⟩=>⟨_,D,(.sn 0 1 J J (Fz.t g F) (Fz.t g F) ao ag (Cz af)<|.w 4<|.pE Ec J call157 J J λb1 b2 E aq=>.aW U3 AN (c:=(Ex<|KG .i64)) (λ_ _=>J) (aq) 2 J ((Zx.of aF).mono<|Fz.t F E) J call33 J J λaI A bL bM b3 H bN=>.cq J J UO J<|.w 3<|.cU 0 (YI U) (Fz.t E H) J<|.cU 1 (VR U) (Fz.t E H) J<|.cU 2 (Zn U) (Fz.t E H) J<|.nu (Hs:=[ZX U A A1,KR U A N,Qd U A aE,Z]) (Y:=Y (aA (A1,N,aE)) A) [0,0,0,0] J (hp (A1,N,aE) _<|Fz.t g<|Fz.t F<|Fz.t E H)<|.o (Sub.refl _) (J:_=[Y (aA (A1,N,aE)) A,R])<|.k<|.keep (.p [0,30,31,32] J)<|.loop (fun(aR:Int×σ) a w=>∃(W:Fz),A<=W/\Hd 41 [] [(0,(.func (.yield ly) #[] #[])),(30,(vS bL aI bM)),(31,(vI (aI.length:Int))),(32,(vI aR.1))] W [Y aR.2 W,R] a w) (λb0 e a w=>match b0 with | .inl s=>e= .exit 2/\∃(I:Fz),A<=I/\Hd 41 [] [] I [Y s I,R] a w | .inr s=>e= .ret/\∃(K:Fz),A<=K/\Hd 41 [] [] K [Y s K,R] a w) ?_ ?_ ?_)⟩)
  ·exact λa w h=>⟨A,Fz.r,h.1.sub<|.k J,h.2⟩
  ·intro aR b6;refine GG.ex λa w ⟨W,X,D⟩=>⟨_,D,?_⟩;unfold Zw;refine .w 6<|.i J (λar=> ?_) λar=> ?_
   ·refine .w 6<|.idx J UO W3 (bN.mono X) J J λb7 b8 b9 bT bO bP bU aS aU=>.U J V3 J aS (QI (k:=0) aU J)<|.w 7<|.tS J hy J J J (i:=0) J (Fz.t g<|Fz.t F<|Fz.t E<|Fz.t H X) Fz.r λbV aJ bW aK=>.w 3<|.i J (λaV=> ?_) λaV=> ?_
    ·refine .cz<|Q5.ret λa w h=>⟨J,aJ,(Fz.t X aK),h.1.sub<|.k J,h.2⟩
    ·exact .w 7<|.cN<|Q5.norm λa w h=>⟨aJ,(Fz.t X aK),h.1.sub<|.k J,h.2⟩
   ·refine .cR J<|Q5.exit λa w h=>⟨J,W,X,h.1.sub<|.k J,h.2⟩
  ·intro s cA hk e a w hD;rcases s with s | s
   ·obtain⟨rfl,I,au,D⟩:=hD;refine Q9 J<|GG.app ?_ hk a w D;exact .ag [0,0] results164 .nil J (Fz.t g<|Fz.t F<|Fz.t E<|Fz.t H au) trivial
   obtain⟨rfl,K,av,D⟩:=hD;exact Jn<|(FG [0,0] results164 .nil J (Fz.t g<|Fz.t F<|Fz.t E<|Fz.t H av) trivial) hk a w D
def Yp(A1:Q0 QD)(b:Q0 (Q0<|Int×QF))(A3:Q0 (Q0<|Int×Bool))(c:Q2 Nat)(a:Int):Q2 ((Q0 QD×Q0 (Q0<|Int×QF)×Q0 (Q0<|Int×Bool))×Q0 Int):=c.bind λi=>(A1[i]?).bind λx=>(x.moving).bind λj=>(b[j]?).bind λl=>(CS PB (KF A1 A3 c a) l<|A3++[[]]).bind λR=>(V7 R<|some A3.length).bind λks=>some ((A1,b,R),ks)
theorem Eb{y:Int->σ->Q2 (σ×Bool)}{ks:Q0 Int}(e:ks.length<=1000000):∀(d k:Nat) (s r:σ),k+d=ks.length->WH y (ks.drop k) s=some r->
  ZT (Zw y ks) ((k:Int),s)=some (.inl r)∨ZT (Zw y ks) ((k:Int),s)=some (.inr r)
 | 0,k,s,r,f,h=>by
  rw[j0 qz] at h
  simp only[WH,UV] at h
  subst h;left;rw[ZJ];have:¬k < ks.length:=by omega
  simp[Zw,this]
 | d+1,k,s,r,f,h=>by
  have a:k < ks.length:=by omega
  have g:Qz ((k:Int)+1)=((k+1:Nat):Int):=by rw[Qi qz qz];rfl
  rw[x2 a] at h
  have hi:ZW ks (k:Int)=some ks[k]:=by simp[ZW,a]
  simp only[WH] at h
  rw[ZJ];cases b:y ks[k] s with
  | none=>rw[b] at h;cases h
  | some p=>
   rw[b] at h
   simp only[K1] at h
   by_cases c:p.2=true
   ·rw[Bm c] at h
    have:=Eb e d (k+1) p.1 r qz h;simpa[Zw,a,hi,b,c,g] using this
   ·rw[B2 c] at h
    simp only[UV] at h
    right;simp[Zw,a,hi,b,c,h]
theorem Di{y:Int->σ->Q2 (σ×Bool)}{a:Q0 QD×Q0 (Q0<|Int×QF)×Q0 (Q0<|Int×Bool)->σ}{A1:Q0 QD}{c:Q0 (Q0<|Int×QF)}{A3:Q0 (Q0<|Int×Bool)}{n:Q2 Nat}{d:Int}{q:(Q0 QD×Q0 (Q0<|Int×QF)×Q0 (Q0<|Int×Bool))×Q0 Int}{r:σ}(f:Yp A1 c A3 n d=some q)(o:WH y q.2 (a q.1)=some r):UA y a A1 c A3 n d=some r:=by
 simp only[Yp,x8] at f
 obtain⟨i,rfl,b,p,j,s,l,t,R,u,ks,g,f⟩:=f;simp only[UV] at f
 subst f
 have v:ks.length<=1000000:=by
  have h:=g;simp only[V7,x8] at h
  obtain⟨m,_,h⟩:=h;unfold Gn at h
  split at h
  ·rename_i w;simp only[UV] at h
   rw[<-h];simpa using w.2
  ·cases h
 simp only[UA,QQ,K1,p,s,t,u,g];rcases Eb (y:=y) v ks.length 0 (a (A1,c,R)) r qz (by simpa using o) with e | e
 ·have k:ZT (Zw y ks) (0,a (A1,c,R))=some (.inl r):=e;rw[k];rfl
 ·have k:ZT (Zw y ks) (0,a (A1,c,R))=some (.inr r):=e;rw[k];rfl
end
end Go.Proofs.YtbjgigfhnlnbfaaGreatDoor
end
