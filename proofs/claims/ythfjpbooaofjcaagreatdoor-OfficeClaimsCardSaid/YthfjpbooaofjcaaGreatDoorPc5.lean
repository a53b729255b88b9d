/- For OfficeClaims. -/
import Derived.Test.YthfjpbooaofjcaaGreatDoorPc4
import Derived.Test.YthfjpbooaofjcaaGreatDoorProg
import Derived.Shelf.SlMaps.Clone
import Derived.Ground.SlmcProg
import Derived.Shelf.SortM.Plain
import Derived.Shelf.SortM.SortNone
import Derived.Ground.GgzProg
import Derived.Ground.SlgmProg
noncomputable section
namespace Go.Dec
abbrev PP:=@TypeDesc.struct.inj
abbrev r9:=@List.mem_cons_self
abbrev oB:=@Go.Proofs.AnyZI.sorted_in
abbrev qAC:=@Go.Proofs.AnyZI.keys_gives_nil
abbrev qAM:=@Go.Proofs.AnyZI.keys_gives
abbrev qAV:=@List.cons_ne_nil
abbrev qAW:=@Go.Proofs.AnyZI.keys_in
end Go.Dec
namespace Go.Proofs.YthfjpbooaofjcaaGreatDoor
section
open Go.Dec Go.Shelf Go.RowKit Go.Maps Go.Sort
variable{S:Q0 (Nat×K2)}{D:Q0 AT}{F F':Fz}{β:Type}{m:Q2 β}{hs:Q0 HP}{n:Nat}{g:Gp}{r:β}
theorem Qd:Tryz.prog.follows .mixedOrders=true:=by kernel_rfl
abbrev Yd:= @Tryz.underlying112
abbrev DP:= @Tryz.underlying115
abbrev PY:= @Tryz.underlying117
abbrev YD:= @Tryz.underlying119
abbrev Gt:= @Tryz.underlying121
abbrev H5:= @Tryz.underlying137
abbrev SB:= @Tryz.underlying146
abbrev RX:= @Tryz.underlying149
abbrev Ag:= @Tryz.underlying154
abbrev fy:= @Tryz.underlying155
abbrev XF:= @Tryz.underlying157
abbrev D6:= @Tryz.underlying163
abbrev vb:= @Tryz.underlying164
abbrev fx:= @Tryz.underlying175
abbrev Lv:= @Tryz.underlying183
abbrev Gs:= @Tryz.underlying187
abbrev RV:= @Tryz.underlying193
abbrev dM:= @Tryz.underlying20
abbrev wY:= @Tryz.underlying200
abbrev zY:= @Tryz.underlying201
abbrev RU:= @Tryz.underlying203
abbrev zX:= @Tryz.underlying208
abbrev DZ:= @Tryz.underlying210
abbrev J6:= @Tryz.underlying212
abbrev vg:= @Tryz.underlying22
abbrev jF:= @Tryz.underlying223
abbrev VX:= @Tryz.underlying225
abbrev jE:= @Tryz.underlying228
abbrev U4:= @Tryz.underlying229
abbrev dL:= @Tryz.underlying23
abbrev Ii:= @Tryz.underlying231
abbrev wX:= @Tryz.underlying233
abbrev dx:= @Tryz.underlying246
abbrev xz:= @Tryz.underlying249
abbrev Lu:= @Tryz.underlying251
abbrev cB:= @Tryz.underlying26
abbrev dw:= @Tryz.underlying263
abbrev xy:= @Tryz.underlying267
abbrev dv:= @Tryz.underlying270
abbrev va:= @Tryz.underlying28
abbrev wW:= @Tryz.underlying290
abbrev U3:= @Tryz.underlying3
abbrev OH:= @Tryz.underlying30
abbrev YK:= @Tryz.underlying34
abbrev Ci:= @Tryz.underlying36
abbrev Ih:= @Tryz.underlying39
abbrev VW:= @Tryz.underlying46
abbrev R8:= @Tryz.underlying47
abbrev U5:= @Tryz.underlying5
abbrev cA:= @Tryz.underlying55
abbrev PX:= @Tryz.underlying56
abbrev cM:= @Tryz.underlying57
abbrev wV:= @Tryz.underlying58
abbrev vZ:= @Tryz.underlying59
abbrev GR:= @Tryz.underlying61
abbrev gj:= @Tryz.underlying63
abbrev bR:= @Tryz.underlying69
abbrev bQ:= @Tryz.underlying74
abbrev DY:= @Tryz.underlying77
abbrev D7:= @Tryz.underlying80
abbrev LF:= @Tryz.underlying82
abbrev U9:= @Tryz.underlying9
abbrev wU:= @Tryz.underlying90
abbrev Ig:= @Tryz.isAgg112
abbrev xx:= @Tryz.isAgg115
abbrev Lt:= @Tryz.isAgg117
abbrev M8:= @Tryz.isAgg119
abbrev Ie:= @Tryz.isAgg121
abbrev zW:= @Tryz.isAgg137
abbrev bz:= @Tryz.isAgg140
abbrev jC:= @Tryz.isAgg146
abbrev xw:= @Tryz.isAgg149
abbrev du:= @Tryz.isAgg154
abbrev bx:= @Tryz.isAgg155
abbrev vY:= @Tryz.isAgg157
abbrev xv:= @Tryz.isAgg163
abbrev xu:= @Tryz.isAgg175
abbrev wT:= @Tryz.isAgg183
abbrev Th:= @Tryz.isAgg187
abbrev xt:= @Tryz.isAgg193
abbrev Ls:= @Tryz.isAgg197
abbrev Ic:= @Tryz.isAgg201
abbrev wS:= @Tryz.isAgg208
abbrev vX:= @Tryz.isAgg210
abbrev D5:= @Tryz.isAgg220
abbrev zV:= @Tryz.isAgg223
abbrev dt:= @Tryz.isAgg228
abbrev zU:= @Tryz.isAgg229
abbrev xr:= @Tryz.isAgg232
abbrev bw:= @Tryz.isAgg245
abbrev bu:= @Tryz.isAgg246
abbrev bt:= @Tryz.isAgg270
abbrev gi:= @Tryz.isAgg28
abbrev V3:= @Tryz.isAgg3
abbrev wR:= @Tryz.isAgg30
abbrev A8:= @Tryz.isAgg34
abbrev bP:= @Tryz.isAgg36
abbrev dI:= @Tryz.isAgg39
abbrev V4:= @Tryz.isAgg4
abbrev OG:= @Tryz.isAgg41
abbrev dr:= @Tryz.isAgg46
abbrev cL:= @Tryz.isAgg47
abbrev V5:= @Tryz.isAgg5
abbrev bO:= @Tryz.isAgg55
abbrev zT:= @Tryz.isAgg56
abbrev bN:= @Tryz.isAgg57
abbrev bM:= @Tryz.isAgg58
abbrev bK:= @Tryz.isAgg59
abbrev dq:= @Tryz.isAgg87
abbrev V9:= @Tryz.isAgg9
abbrev cW:= @Tryz.isAgg90
abbrev PW:= @Tryz.sizeOf112
abbrev Lr:= @Tryz.sizeOf115
abbrev NN:= @Tryz.sizeOf117
abbrev U2:= @Tryz.sizeOf119
abbrev Gr:= @Tryz.sizeOf121
abbrev H4:= @Tryz.sizeOf137
abbrev dp:= @Tryz.sizeOf140
abbrev S4:= @Tryz.sizeOf146
abbrev Tg:= @Tryz.sizeOf149
abbrev S3:= @Tryz.sizeOf154
abbrev ft:= @Tryz.sizeOf155
abbrev U1:= @Tryz.sizeOf157
abbrev zS:= @Tryz.sizeOf163
abbrev fq:= @Tryz.sizeOf175
abbrev dn:= @Tryz.sizeOf181
abbrev NM:= @Tryz.sizeOf183
abbrev Gq:= @Tryz.sizeOf187
abbrev jB:= @Tryz.sizeOf193
abbrev wQ:= @Tryz.sizeOf197
abbrev Ib:= @Tryz.sizeOf201
abbrev Ia:= @Tryz.sizeOf208
abbrev Fc:= @Tryz.sizeOf210
abbrev br:= @Tryz.sizeOf212
abbrev vW:= @Tryz.sizeOf220
abbrev zR:= @Tryz.sizeOf223
abbrev vV:= @Tryz.sizeOf228
abbrev Tf:= @Tryz.sizeOf229
abbrev wP:= @Tryz.sizeOf232
abbrev bq:= @Tryz.sizeOf233
abbrev dm:= @Tryz.sizeOf245
abbrev fp:= @Tryz.sizeOf246
abbrev bp:= @Tryz.sizeOf249
abbrev bn:= @Tryz.sizeOf267
abbrev fl:= @Tryz.sizeOf270
abbrev vf:= @Tryz.sizeOf28
abbrev W3:= @Tryz.sizeOf3
abbrev Lq:= @Tryz.sizeOf30
abbrev Te:= @Tryz.sizeOf34
abbrev gg:= @Tryz.sizeOf36
abbrev wh:= @Tryz.sizeOf39
abbrev W4:= @Tryz.sizeOf4
abbrev ze:= @Tryz.sizeOf41
abbrev jv:= @Tryz.sizeOf46
abbrev Tk:= @Tryz.sizeOf47
abbrev W5:= @Tryz.sizeOf5
abbrev dH:= @Tryz.sizeOf55
abbrev vU:= @Tryz.sizeOf56
abbrev dF:= @Tryz.sizeOf57
abbrev gf:= @Tryz.sizeOf58
abbrev gd:= @Tryz.sizeOf59
abbrev wO:= @Tryz.sizeOf61
abbrev cV:= @Tryz.sizeOf69
abbrev W9:= @Tryz.sizeOf9
abbrev ga:= @Tryz.sizeOf90
abbrev k9:= @Tryz.zeroValue112
abbrev vR:= @Tryz.zeroValue115
abbrev Sz:= @Tryz.zeroValue119
abbrev vQ:= @Tryz.zeroValue121
abbrev RT:= @Tryz.zeroValue137
abbrev vO:= @Tryz.zeroValue146
abbrev vN:= @Tryz.zeroValue149
abbrev vM:= @Tryz.zeroValue157
abbrev fj:= @Tryz.zeroValue163
abbrev bl:= @Tryz.zeroValue175
abbrev vL:= @Tryz.zeroValue183
abbrev vK:= @Tryz.zeroValue187
abbrev xq:= @Tryz.zeroValue193
abbrev bk:= @Tryz.zeroValue197
abbrev wN:= @Tryz.zeroValue200
abbrev bj:= @Tryz.zeroValue203
abbrev fh:= @Tryz.zeroValue210
abbrev bh:= @Tryz.zeroValue212
abbrev bg:= @Tryz.zeroValue220
abbrev bf:= @Tryz.zeroValue225
abbrev kz:= @Tryz.zeroValue228
abbrev be:= @Tryz.zeroValue229
abbrev ba:= @Tryz.zeroValue231
abbrev dk:= @Tryz.zeroValue233
abbrev fg:= @Tryz.zeroValue246
abbrev di:= @Tryz.zeroValue249
abbrev dh:= @Tryz.zeroValue267
abbrev ff:= @Tryz.zeroValue270
abbrev Y3:= @Tryz.zeroValue3
abbrev bZ:= @Tryz.zeroValue30
abbrev df:= @Tryz.zeroValue36
abbrev Y4:= @Tryz.zeroValue4
abbrev bX:= @Tryz.zeroValue41
abbrev ve:= @Tryz.zeroValue46
abbrev bW:= @Tryz.zeroValue61
abbrev cT:= @Tryz.zeroValue63
abbrev cK:= @Tryz.zeroValue69
abbrev OE:= @Tryz.zeroValue77
abbrev Na:= @Tryz.zeroValue80
abbrev Y9:= @Tryz.zeroValue9
abbrev de:= @Tryz.zeroValue90
structure Jw where
 g212:Nat
 g203:Nat
 g225:Nat
 g63:Nat
 g32:Nat
 g223:Nat
 g208:Nat
 g201:Nat
 g61:Nat
 g74:Nat
variable{U:Jw}
structure Za where
 Number:Int
 Wood:Int
 Place:Int
 Room:Int
 Owner:Int
 Creditor:Int
 Amount:Int
 Age:Int
 Woods:(Nat->Int)
 Places:(Nat->Int)
def Q7(x:Za):Q0 K2:=[.int .i64 x.Number,.int .i64 x.Wood,.int .i64 x.Place,.int .i64 x.Room,.int .i64 x.Owner,.int .i64 x.Creditor,.int .i64 x.Amount,.int .i64 x.Age,.int .i64<|x.Woods 0,.int .i64<|x.Woods 1,.int .i64<|x.Woods 2,.int .i64<|x.Woods 3,.int .i64<|x.Woods 4,.int .i64<|x.Woods 5,.int .i64<|x.Woods 6,.int .i64<|x.Woods 7,.int .i64<|x.Places 0,.int .i64<|x.Places 1,.int .i64<|x.Places 2,.int .i64<|x.Places 3,.int .i64<|x.Places 4,.int .i64<|x.Places 5,.int .i64<|x.Places 6,.int .i64<|x.Places 7]
def Ba(x:Za):K2:=.agg (Q7 x).toArray
theorem Po:∀a,Tryz.prog.underlying 137=some (.struct a)->Places Tryz.prog a #[(0,1),(1,1),(2,1),(3,1),(4,1),(5,1),(6,1),(7,1),(8,8),(16,8)]:=λa h=>by
 obtain rfl:=PP<|Tc<|Tryz.underlying137.symm.trans h;intro w;kernel_rfl
structure QB where
 Lo:Int
 Hi:Int
def Qb(x:QB):Q0 K2:=[.int .i64 x.Lo,.int .i64 x.Hi]
def Jd(x:QB):K2:=.agg (Qb x).toArray
theorem HX:∀a,Tryz.prog.underlying 119=some (.struct a)->Places Tryz.prog a #[(0,1),(1,1)]:=λa h=>by
 obtain rfl:=PP<|Tc<|Tryz.underlying119.symm.trans h;intro w;kernel_rfl
structure Qp where
 From:Za
 Amount:Int
 Strength:QB
def QN(x:Qp):Q0 K2:=[.int .i64 x.From.Number,.int .i64 x.From.Wood,.int .i64 x.From.Place,.int .i64 x.From.Room,.int .i64 x.From.Owner,.int .i64 x.From.Creditor,.int .i64 x.From.Amount,.int .i64 x.From.Age,.int .i64<|x.From.Woods 0,.int .i64<|x.From.Woods 1,.int .i64<|x.From.Woods 2,.int .i64<|x.From.Woods 3,.int .i64<|x.From.Woods 4,.int .i64<|x.From.Woods 5,.int .i64<|x.From.Woods 6,.int .i64<|x.From.Woods 7,.int .i64<|x.From.Places 0,.int .i64<|x.From.Places 1,.int .i64<|x.From.Places 2,.int .i64<|x.From.Places 3,.int .i64<|x.From.Places 4,.int .i64<|x.From.Places 5,.int .i64<|x.From.Places 6,.int .i64<|x.From.Places 7,.int .i64 x.Amount,.int .i64 x.Strength.Lo,.int .i64 x.Strength.Hi]
def VV(x:Qp):K2:=.agg (QN x).toArray
theorem On:∀a,Tryz.prog.underlying 146=some (.struct a)->Places Tryz.prog a #[(0,24),(24,1),(25,2)]:=λa h=>by
 obtain rfl:=PP<|Tc<|Tryz.underlying146.symm.trans h;intro w;kernel_rfl
structure QV where
 Draughts:(List Qp)
 Water:Int
 Shrink:QB
 Filtered:Bool
 Coloured:Bool
def ZG(x:QV)(a:Q2 C1)(b:Nat):Q0 K2:=[.slice a x.Draughts.length b,.int .i64 x.Water,.int .i64 x.Shrink.Lo,.int .i64 x.Shrink.Hi,.bool x.Filtered,.bool x.Coloured]
def Zx(x:QV)(a:Q2 C1)(b:Nat):K2:=.agg (ZG x a b).toArray
theorem z7:∀a,Tryz.prog.underlying 121=some (.struct a)->Places Tryz.prog a #[(0,1),(1,1),(2,2),(4,1),(5,1)]:=λa h=>by
 obtain rfl:=PP<|Tc<|Tryz.underlying121.symm.trans h;intro w;kernel_rfl
structure Ze where
 From:Int
 Rate:Int
def ZB(x:Ze):Q0 K2:=[.int .i64 x.From,.int .i64 x.Rate]
def PC(x:Ze):K2:=.agg (ZB x).toArray
theorem Ap:∀a,Tryz.prog.underlying 90=some (.struct a)->Places Tryz.prog a #[(0,1),(1,1)]:=λa h=>by
 obtain rfl:=PP<|Tc<|Tryz.underlying90.symm.trans h;intro w;kernel_rfl
structure Qw where
 Rates:(List Ze)
 Transit:Int
 Loss:Int
 Share:Int
def ZM(x:Qw)(a:Q2 C1)(b:Nat):Q0 K2:=[.slice a x.Rates.length b,.int .i64 x.Transit,.int .i64 x.Loss,.int .i64 x.Share]
def YR(x:Qw)(a:Q2 C1)(b:Nat):K2:=.agg (ZM x a b).toArray
def K9:Up Qw:=λF x vs=>∃a b,vs=ZM x a b/\QI 2 (Ex ZB) F a b x.Rates
theorem SM:∀a,Tryz.prog.underlying 30=some (.struct a)->Places Tryz.prog a #[(0,1),(1,1),(2,1),(3,1)]:=λa h=>by
 obtain rfl:=PP<|Tc<|Tryz.underlying30.symm.trans h;intro w;kernel_rfl
structure QE where
 Kind:Int
 Day:Int
 Cask:Int
 Other:Int
 Person:Int
 To:Int
 Amount:Int
 Where:Int
def QK(x:QE):Q0 K2:=[.int .i64 x.Kind,.int .i64 x.Day,.int .i64 x.Cask,.int .i64 x.Other,.int .i64 x.Person,.int .i64 x.To,.int .i64 x.Amount,.int .i64 x.Where]
def JU(x:QE):K2:=.agg (QK x).toArray
theorem Y6:∀a,Tryz.prog.underlying 46=some (.struct a)->Places Tryz.prog a #[(0,1),(1,1),(2,1),(3,1),(4,1),(5,1),(6,1),(7,1)]:=λa h=>by
 obtain rfl:=PP<|Tc<|Tryz.underlying46.symm.trans h;intro w;kernel_rfl
structure QQ where
 Kind:Int
 Day:Int
 Bond:Int
 To:Int
 Id:Int
 Amount:Int
def QP(x:QQ):Q0 K2:=[.int .i64 x.Kind,.int .i64 x.Day,.int .i64 x.Bond,.int .i64 x.To,.int .i64 x.Id,.int .i64 x.Amount]
def JT(x:QQ):K2:=.agg (QP x).toArray
theorem XW:∀a,Tryz.prog.underlying 112=some (.struct a)->Places Tryz.prog a #[(0,1),(1,1),(2,1),(3,1),(4,1),(5,1)]:=λa h=>by
 obtain rfl:=PP<|Tc<|Tryz.underlying112.symm.trans h;intro w;kernel_rfl
structure QJ where
 Kind:Int
 First:Int
 Last:Int
 Batch:Int
def QU(x:QJ):Q0 K2:=[.int .i64 x.Kind,.int .i64 x.First,.int .i64 x.Last,.int .i64 x.Batch]
def DH(x:QJ):K2:=.agg (QU x).toArray
theorem Gw:∀a,Tryz.prog.underlying 115=some (.struct a)->Places Tryz.prog a #[(0,1),(1,1),(2,1),(3,1)]:=λa h=>by
 obtain rfl:=PP<|Tc<|Tryz.underlying115.symm.trans h;intro w;kernel_rfl
structure QA where
 day:Int
 rules:(Option Qw)
 casks:(List QE)
 duties:(List QQ)
 stamps:(List QJ)
 batches:(List<|Int×QV)
 pure:(List<|Int×Int)
 ids:Int
variable{L:QA}
def Ql(x:QA)(a:Q2 C1)(_:Unit)(b:Q2 C1)(c:Nat)(d:Q2 C1)(e:Nat)(f:Q2 C1)(h:Nat)(i:Q2 Nat)(_:Unit)(j:Q2 Nat)(_:Unit):Q0 K2:=[.int .i64 x.day,.pointer a,.slice b x.casks.length c,.slice d x.duties.length e,.slice f x.stamps.length h,.map i,.map j,.int .i64 x.ids]
def Mh(x:QA)(a:Q2 C1)(b:Unit)(c:Q2 C1)(d:Nat)(e:Q2 C1)(f:Nat)(h:Q2 C1)(i:Nat)(j:Q2 Nat)(k:Unit)(l:Q2 Nat)(o:Unit):K2:=.agg (Ql x a b c d e f h i j k l o).toArray
theorem NB:∀a,Tryz.prog.underlying 61=some (.struct a)->Places Tryz.prog a #[(0,1),(1,1),(2,1),(3,1),(4,1),(5,1),(6,1),(7,1)]:=λa h=>by
 obtain rfl:=PP<|Tc<|Tryz.underlying61.symm.trans h;intro w;kernel_rfl
structure Q8 where
 ledgers:QA
 open_:Bool
def D3(x:Q8)(a:Q2 C1)(_:Unit)(b:Q2 C1)(c:Nat)(d:Q2 C1)(e:Nat)(f:Q2 C1)(h:Nat)(i:Q2 Nat)(_:Unit)(j:Q2 Nat)(_:Unit):Q0 K2:=[.int .i64 x.ledgers.day,.pointer a,.slice b x.ledgers.casks.length c,.slice d x.ledgers.duties.length e,.slice f x.ledgers.stamps.length h,.map i,.map j,.int .i64 x.ledgers.ids,.bool x.open_]
def Am:Up Q8:=λF x vs=>∃a b c d e f h i j l k o,vs=D3 x a b c d e f h i j l k o/\WL 30 K9 F a x.ledgers.rules/\QI 8 (Ex QK) F c d x.ledgers.casks/\QI 6 (Ex QP) F e f x.ledgers.duties/\QI 4 (Ex QU) F h i x.ledgers.stamps/\W6 (λx:Int=>(.int .i64 x)) (λF (x:QV) v=>∃(a:Q2 C1) (b:Nat),v=(Zx x a b)/\QI 27 (Ex QN) F a b x.Draughts) F j x.ledgers.batches/\W6 (λx:Int=>(.int .i64 x)) (λ_ (x:Int) v=>v=(.int .i64 x)) F k x.ledgers.pure
theorem MG:∀a,Tryz.prog.underlying 63=some (.struct a)->Places Tryz.prog a #[(0,8),(8,1)]:=λa h=>by
 obtain rfl:=PP<|Tc<|Tryz.underlying63.symm.trans h;intro w;kernel_rfl
structure Qt where
 e:Int
def XL(x:Qt):Q0 K2:=[.int .i64 x.e]
def Ld(x:Qt):K2:=.agg (XL x).toArray
theorem MH:∀a,Tryz.prog.underlying 69=some (.struct a)->Places Tryz.prog a #[(0,1)]:=λa h=>by
 obtain rfl:=PP<|Tc<|Tryz.underlying69.symm.trans h;intro w;kernel_rfl
structure Zu where
 rest:(List UInt8)
def XK(x:Zu):Q0 K2:=[.string<|bs x.rest]
theorem MF:∀a,Tryz.prog.underlying 74=some (.struct a)->Places Tryz.prog a #[(0,1)]:=λa h=>by
 obtain rfl:=PP<|Tc<|Tryz.underlying74.symm.trans h;intro w;kernel_rfl
structure Zo where
 e:Int
def Hg(x:Zo):Q0 K2:=[.int .i64 x.e]
def qx(x:Zo):K2:=.agg (Hg x).toArray
theorem Om:∀a,Tryz.prog.underlying 249=some (.struct a)->Places Tryz.prog a #[(0,1)]:=λa h=>by
 obtain rfl:=PP<|Tc<|Tryz.underlying249.symm.trans h;intro w;kernel_rfl
structure ZP where
 age:Int
 woods:(Nat->Int)
 places:(Nat->Int)
def ZL(x:ZP):Q0 K2:=[.int .i64 x.age,.int .i64<|x.woods 0,.int .i64<|x.woods 1,.int .i64<|x.woods 2,.int .i64<|x.woods 3,.int .i64<|x.woods 4,.int .i64<|x.woods 5,.int .i64<|x.woods 6,.int .i64<|x.woods 7,.int .i64<|x.places 0,.int .i64<|x.places 1,.int .i64<|x.places 2,.int .i64<|x.places 3,.int .i64<|x.places 4,.int .i64<|x.places 5,.int .i64<|x.places 6,.int .i64<|x.places 7]
def WT(x:ZP):K2:=.agg (ZL x).toArray
theorem Rm:∀a,Tryz.prog.underlying 210=some (.struct a)->Places Tryz.prog a #[(0,1),(1,8),(9,8)]:=λa h=>by
 obtain rfl:=PP<|Tc<|Tryz.underlying210.symm.trans h;intro w;kernel_rfl
structure QM where
 number:Int
 wood:Int
 place:Int
 room:Int
 owner:Int
 creditor:Int
 amount:Int
 since:Int
 times:ZP
 fills:(Option Nat)
def U8(x:QM)(a:Q2 Nat)(_:Unit):Q0 K2:=[.int .i64 x.number,.int .i64 x.wood,.int .i64 x.place,.int .i64 x.room,.int .i64 x.owner,.int .i64 x.creditor,.int .i64 x.amount,.int .i64 x.since,.int .i64 x.times.age,.int .i64<|x.times.woods 0,.int .i64<|x.times.woods 1,.int .i64<|x.times.woods 2,.int .i64<|x.times.woods 3,.int .i64<|x.times.woods 4,.int .i64<|x.times.woods 5,.int .i64<|x.times.woods 6,.int .i64<|x.times.woods 7,.int .i64<|x.times.places 0,.int .i64<|x.times.places 1,.int .i64<|x.times.places 2,.int .i64<|x.times.places 3,.int .i64<|x.times.places 4,.int .i64<|x.times.places 5,.int .i64<|x.times.places 6,.int .i64<|x.times.places 7,.map a]
def yz(x:QM)(a:Q2 Nat)(b:Unit):K2:=.agg (U8 x a b).toArray
def EP(U:Jw):Up QM:=λF x vs=>∃a b,vs=U8 x a b/\Z4 U.g208 F a x.fills
theorem zy:∀a,Tryz.prog.underlying 212=some (.struct a)->Places Tryz.prog a #[(0,1),(1,1),(2,1),(3,1),(4,1),(5,1),(6,1),(7,1),(8,17),(25,1)]:=λa h=>by
 obtain rfl:=PP<|Tc<|Tryz.underlying212.symm.trans h;intro w;kernel_rfl
structure Qn where
 casks:(Option Nat)
 event:Int
def RR(x:Qn)(a:Q2 Nat)(_:Unit):Q0 K2:=[.map a,.int .i64 x.event]
def ER(U:Jw):Up Qn:=λF x vs=>∃a b,vs=RR x a b/\Z4 U.g201 F a x.casks
theorem zz:∀a,Tryz.prog.underlying 203=some (.struct a)->Places Tryz.prog a #[(0,1),(1,1)]:=λa h=>by
 obtain rfl:=PP<|Tc<|Tryz.underlying203.symm.trans h;intro w;kernel_rfl
structure Zv where
 e:Int
def XM(x:Zv):Q0 K2:=[.int .i64 x.e]
def Lf(x:Zv):K2:=.agg (XM x).toArray
theorem MJ:∀a,Tryz.prog.underlying 267=some (.struct a)->Places Tryz.prog a #[(0,1)]:=λa h=>by
 obtain rfl:=PP<|Tc<|Tryz.underlying267.symm.trans h;intro w;kernel_rfl
structure QG where
 Id:Int
 From:Int
 To:Int
 Sent:Int
 Amount:Int
def ZS(x:QG):Q0 K2:=[.int .i64 x.Id,.int .i64 x.From,.int .i64 x.To,.int .i64 x.Sent,.int .i64 x.Amount]
def YA(x:QG):K2:=.agg (ZS x).toArray
theorem qN:∀a,Tryz.prog.underlying 228=some (.struct a)->Places Tryz.prog a #[(0,1),(1,1),(2,1),(3,1),(4,1)]:=λa h=>by
 obtain rfl:=PP<|Tc<|Tryz.underlying228.symm.trans h;intro w;kernel_rfl
structure ZR where
 Bonds:(Nat->Int)
 Moving:(List QG)
 Made:Int
 Found:Int
 Used:Int
 Exported:Int
 Lost:Int
 Charged:Int
 Due:Int
 Paid:Int
def ZO(x:ZR)(a:Q2 C1)(b:Nat):Q0 K2:=[.int .i64<|x.Bonds 0,.int .i64<|x.Bonds 1,.int .i64<|x.Bonds 2,.int .i64<|x.Bonds 3,.int .i64<|x.Bonds 4,.int .i64<|x.Bonds 5,.int .i64<|x.Bonds 6,.int .i64<|x.Bonds 7,.int .i64<|x.Bonds 8,.int .i64<|x.Bonds 9,.int .i64<|x.Bonds 10,.int .i64<|x.Bonds 11,.int .i64<|x.Bonds 12,.int .i64<|x.Bonds 13,.int .i64<|x.Bonds 14,.int .i64<|x.Bonds 15,.slice a x.Moving.length b,.int .i64 x.Made,.int .i64 x.Found,.int .i64 x.Used,.int .i64 x.Exported,.int .i64 x.Lost,.int .i64 x.Charged,.int .i64 x.Due,.int .i64 x.Paid]
def UY(x:ZR)(a:Q2 C1)(b:Nat):K2:=.agg (ZO x a b).toArray
theorem LS:∀a,Tryz.prog.underlying 157=some (.struct a)->Places Tryz.prog a #[(0,16),(16,1),(17,1),(18,1),(19,1),(20,1),(21,1),(22,1),(23,1),(24,1)]:=λa h=>by
 obtain rfl:=PP<|Tc<|Tryz.underlying157.symm.trans h;intro w;kernel_rfl
structure QD where
 rules:Qw
 book:ZR
 moving:(Option Nat)
 known:(Option Nat)
 sums:(Nat->Int)
 day:Int
def Zl(x:QD)(a:Q2 C1)(b:Nat)(c:Q2 C1)(d:Nat)(e:Q2 Nat)(_:Unit)(f:Q2 Nat)(_:Unit):Q0 K2:=[.slice a x.rules.Rates.length b,.int .i64 x.rules.Transit,.int .i64 x.rules.Loss,.int .i64 x.rules.Share,.int .i64<|x.book.Bonds 0,.int .i64<|x.book.Bonds 1,.int .i64<|x.book.Bonds 2,.int .i64<|x.book.Bonds 3,.int .i64<|x.book.Bonds 4,.int .i64<|x.book.Bonds 5,.int .i64<|x.book.Bonds 6,.int .i64<|x.book.Bonds 7,.int .i64<|x.book.Bonds 8,.int .i64<|x.book.Bonds 9,.int .i64<|x.book.Bonds 10,.int .i64<|x.book.Bonds 11,.int .i64<|x.book.Bonds 12,.int .i64<|x.book.Bonds 13,.int .i64<|x.book.Bonds 14,.int .i64<|x.book.Bonds 15,.slice c x.book.Moving.length d,.int .i64 x.book.Made,.int .i64 x.book.Found,.int .i64 x.book.Used,.int .i64 x.book.Exported,.int .i64 x.book.Lost,.int .i64 x.book.Charged,.int .i64 x.book.Due,.int .i64 x.book.Paid,.map e,.map f,.int .i64<|x.sums 0,.int .i64<|x.sums 1,.int .i64<|x.sums 2,.int .i64<|x.sums 3,.int .i64<|x.sums 4,.int .i64<|x.sums 5,.int .i64<|x.sums 6,.int .i64<|x.sums 7,.int .i64<|x.sums 8,.int .i64<|x.sums 9,.int .i64<|x.sums 10,.int .i64<|x.sums 11,.int .i64<|x.sums 12,.int .i64<|x.sums 13,.int .i64<|x.sums 14,.int .i64<|x.sums 15,.int .i64 x.day]
def An(U:Jw):Up QD:=λF x vs=>∃a b c d e h f i,vs=Zl x a b c d e h f i/\QI 2 (Ex ZB) F a b x.rules.Rates/\LB 5 (Ex ZS) F c d x.book.Moving/\Z4 U.g223 F e x.moving/\Z4 U.g208 F f x.known
theorem MI:∀a,Tryz.prog.underlying 225=some (.struct a)->Places Tryz.prog a #[(0,4),(4,25),(29,1),(30,1),(31,16),(47,1)]:=λa h=>by
 obtain rfl:=PP<|Tc<|Tryz.underlying225.symm.trans h;intro w;kernel_rfl
structure ZC where
 Hand:(List QB)
 Stuck:Int
 Spoiled:Int
 Returned:Int
def Q4(x:ZC)(a:Q2 C1)(b:Nat):Q0 K2:=[.slice a x.Hand.length b,.int .i64 x.Stuck,.int .i64 x.Spoiled,.int .i64 x.Returned]
def Ay(x:ZC)(a:Q2 C1)(b:Nat):K2:=.agg (Q4 x a b).toArray
theorem Fu:∀a,Tryz.prog.underlying 183=some (.struct a)->Places Tryz.prog a #[(0,1),(1,1),(2,1),(3,1)]:=λa h=>by
 obtain rfl:=PP<|Tc<|Tryz.underlying183.symm.trans h;intro w;kernel_rfl
structure Ur where
 issued:(List QB)
 hand:(List QB)
def JY(x:Ur)(a:Q2 C1)(b:Nat)(c:Q2 C1)(d:Nat):Q0 K2:=[.slice a x.issued.length b,.slice c x.hand.length d]
structure Qj where
 Batch:QV
 amount:Int
 least:Int
 most:Int
def Qi(x:Qj)(a:Q2 C1)(b:Nat):Q0 K2:=[.slice a x.Batch.Draughts.length b,.int .i64 x.Batch.Water,.int .i64 x.Batch.Shrink.Lo,.int .i64 x.Batch.Shrink.Hi,.bool x.Batch.Filtered,.bool x.Batch.Coloured,.int .i64 x.amount,.int .i64 x.least,.int .i64 x.most]
def J3(x:Qj)(a:Q2 C1)(b:Nat):K2:=.agg (Qi x a b).toArray
theorem LR:∀a,Tryz.prog.underlying 187=some (.struct a)->Places Tryz.prog a #[(0,6),(6,1),(7,1),(8,1)]:=λa h=>by
 obtain rfl:=PP<|Tc<|Tryz.underlying187.symm.trans h;intro w;kernel_rfl
structure Qv where
 Volume:QB
 Strength:QB
 Age:Int
 Woods:(Nat->Int)
 Places:(Nat->Int)
 Casks:Int
def Qx(x:Qv):Q0 K2:=[.int .i64 x.Volume.Lo,.int .i64 x.Volume.Hi,.int .i64 x.Strength.Lo,.int .i64 x.Strength.Hi,.int .i64 x.Age,.int .i64<|x.Woods 0,.int .i64<|x.Woods 1,.int .i64<|x.Woods 2,.int .i64<|x.Woods 3,.int .i64<|x.Woods 4,.int .i64<|x.Woods 5,.int .i64<|x.Woods 6,.int .i64<|x.Woods 7,.int .i64<|x.Places 0,.int .i64<|x.Places 1,.int .i64<|x.Places 2,.int .i64<|x.Places 3,.int .i64<|x.Places 4,.int .i64<|x.Places 5,.int .i64<|x.Places 6,.int .i64<|x.Places 7,.int .i64 x.Casks]
def FV(x:Qv):K2:=.agg (Qx x).toArray
theorem Aq:∀a,Tryz.prog.underlying 149=some (.struct a)->Places Tryz.prog a #[(0,2),(2,2),(4,1),(5,8),(13,8),(21,1)]:=λa h=>by
 obtain rfl:=PP<|Tc<|Tryz.underlying149.symm.trans h;intro w;kernel_rfl
structure Qz where
 Kind:Int
 What:Int
 Number:Int
def KP(x:Qz):Q0 K2:=[.int .i64 x.Kind,.int .i64 x.What,.int .i64 x.Number]
def Zw(x:Qz):K2:=.agg (KP x).toArray
theorem z6:∀a,Tryz.prog.underlying 163=some (.struct a)->Places Tryz.prog a #[(0,1),(1,1),(2,1)]:=λa h=>by
 obtain rfl:=PP<|Tc<|Tryz.underlying163.symm.trans h;intro w;kernel_rfl
structure ZN where
 batch:Qj
 known:Qv
def Zi(x:ZN)(a:Q2 C1)(b:Nat):Q0 K2:=[.slice a x.batch.Batch.Draughts.length b,.int .i64 x.batch.Batch.Water,.int .i64 x.batch.Batch.Shrink.Lo,.int .i64 x.batch.Batch.Shrink.Hi,.bool x.batch.Batch.Filtered,.bool x.batch.Batch.Coloured,.int .i64 x.batch.amount,.int .i64 x.batch.least,.int .i64 x.batch.most,.int .i64 x.known.Volume.Lo,.int .i64 x.known.Volume.Hi,.int .i64 x.known.Strength.Lo,.int .i64 x.known.Strength.Hi,.int .i64 x.known.Age,.int .i64<|x.known.Woods 0,.int .i64<|x.known.Woods 1,.int .i64<|x.known.Woods 2,.int .i64<|x.known.Woods 3,.int .i64<|x.known.Woods 4,.int .i64<|x.known.Woods 5,.int .i64<|x.known.Woods 6,.int .i64<|x.known.Woods 7,.int .i64<|x.known.Places 0,.int .i64<|x.known.Places 1,.int .i64<|x.known.Places 2,.int .i64<|x.known.Places 3,.int .i64<|x.known.Places 4,.int .i64<|x.known.Places 5,.int .i64<|x.known.Places 6,.int .i64<|x.known.Places 7,.int .i64 x.known.Casks]
def CH(x:ZN)(a:Q2 C1)(b:Nat):K2:=.agg (Zi x a b).toArray
theorem Ao:∀a,Tryz.prog.underlying 193=some (.struct a)->Places Tryz.prog a #[(0,9),(9,22)]:=λa h=>by
 obtain rfl:=PP<|Tc<|Tryz.underlying193.symm.trans h;intro w;kernel_rfl
structure Qe where
 least:Int
 each:Int
def Z9(x:Qe):Q0 K2:=[.int .i64 x.least,.int .i64 x.each]
def qw(x:Qe):K2:=.agg (Z9 x).toArray
theorem KB:∀a,Tryz.prog.underlying 77=some (.struct a)->Places Tryz.prog a #[(0,1),(1,1)]:=λa h=>by
 obtain rfl:=PP<|Tc<|Tryz.underlying77.symm.trans h;intro w;kernel_rfl
structure Qa where
 form:Qe
 do_:((QA×Unit×(List Int))->Option (Out Qt<|(List UInt8)×QA))
def Zn(x:Qa)(b:Nm)(a:Q0 K2×Q0 K2):Q0 K2:=[.int .i64 x.form.least,.int .i64 x.form.each,.func (.func b) a.1.toArray a.2.toArray]
def KL(x:Qa)(a:Nm)(b:Q0 K2×Q0 K2):K2:=.agg (Zn x a b).toArray
theorem KC:∀a,Tryz.prog.underlying 80=some (.struct a)->Places Tryz.prog a #[(0,2),(2,1)]:=λa h=>by
 obtain rfl:=PP<|Tc<|Tryz.underlying80.symm.trans h;intro w;kernel_rfl
structure Qr where
 Word:(List UInt8)
 N:(List Int)
def QW(x:Qr)(a:Q2 C1)(b:Nat):Q0 K2:=[.string<|bs x.Word,.slice a x.N.length b]
def X4(x:Qr)(a:Q2 C1)(b:Nat):K2:=.agg (QW x a b).toArray
theorem GY:∀a,Tryz.prog.underlying 36=some (.struct a)->Places Tryz.prog a #[(0,1),(1,1)]:=λa h=>by
 obtain rfl:=PP<|Tc<|Tryz.underlying36.symm.trans h;intro w;kernel_rfl
structure Qm where
 batch:Int
 age:Int
 woods:(Nat->Int)
 places:(Nat->Int)
def QH(x:Qm):Q0 K2:=[.int .i64 x.batch,.int .i64 x.age,.int .i64<|x.woods 0,.int .i64<|x.woods 1,.int .i64<|x.woods 2,.int .i64<|x.woods 3,.int .i64<|x.woods 4,.int .i64<|x.woods 5,.int .i64<|x.woods 6,.int .i64<|x.woods 7,.int .i64<|x.places 0,.int .i64<|x.places 1,.int .i64<|x.places 2,.int .i64<|x.places 3,.int .i64<|x.places 4,.int .i64<|x.places 5,.int .i64<|x.places 6,.int .i64<|x.places 7]
def WH(x:Qm):K2:=.agg (QH x).toArray
structure Qf where
 day:Int
 ruled:Bool
 rules:Qw
def KZ(x:Qf)(a:Q2 C1)(b:Nat):Q0 K2:=[.int .i64 x.day,.bool x.ruled,.slice a x.rules.Rates.length b,.int .i64 x.rules.Transit,.int .i64 x.rules.Loss,.int .i64 x.rules.Share]
def TG:Up Qf:=λF x vs=>∃a b,vs=KZ x a b/\QI 2 (Ex ZB) F a b x.rules.Rates
abbrev Tj(U:Jw):Fz->Nat->QM->HP:=Uy 212<|EP U
abbrev Q3(U:Jw)(F:Fz)(xs:Q0 QM):HP:=ZE U.g212 (Tj U) F xs
theorem JK(U:Jw):HK (Tj U):=Uy.stays
theorem X3(U:Jw){x:QM}:∀F vs,(EP U) F x vs->vs.length=26:=λ_ _ ⟨_,_,h,_⟩=>h▸rfl
abbrev LD(U:Jw):Fz->Nat->Qn->HP:=Uy 203<|ER U
abbrev ZD(U:Jw)(F:Fz)(xs:Q0 Qn):HP:=ZE U.g203 (LD U) F xs
theorem Kf(U:Jw):HK (LD U):=Uy.stays
theorem fK(U:Jw){x:Qn}:∀F vs,(ER U) F x vs->vs.length=2:=λ_ _ ⟨_,_,h,_⟩=>h▸rfl
abbrev Il(U:Jw):Fz->Nat->QD->HP:=Uy 225<|An U
abbrev Zd(U:Jw)(F:Fz)(xs:Q0 QD):HP:=ZE U.g225 (Il U) F xs
theorem YM(U:Jw):HK (Il U):=Uy.stays
theorem X2(U:Jw){x:QD}:∀F vs,(An U) F x vs->vs.length=48:=λ_ _ ⟨_,_,_,_,_,_,_,_,h,_,_,_,_⟩=>h▸rfl
abbrev bF(_:Jw):Fz->Nat->Q8->HP:=Uy 63 Am
abbrev WX(U:Jw)(F:Fz)(xs:Q0 Q8):HP:=ZE U.g63 (bF U) F xs
theorem VY(U:Jw):HK (bF U):=Uy.stays
theorem dS{x:Q8}:∀F vs,Am F x vs->vs.length=9:=λ_ _ ⟨_,_,_,_,_,_,_,_,_,_,_,_,h,_,_,_,_,_,_⟩=>h▸rfl
abbrev gD(_:Jw):Fz->Nat->Qf->HP:=Uy 32 TG
abbrev Gn(U:Jw)(F:Fz)(xs:Q0 Qf):HP:=ZE U.g32 (gD U) F xs
theorem Ws(U:Jw):HK (gD U):=Uy.stays
abbrev RZ(_:Jw):Fz->Nat->Q0 (Int×QG)->HP:=Qc (λx:Int=>(.int .i64 x)) λ_ (x:QG) v=>v=(YA x)
abbrev KX(U:Jw)(F:Fz)(xs:Q0 (Q0<|Int×QG)):HP:=ZE U.g223 (RZ U) F xs
theorem Vc(U:Jw):HK (RZ U):=Hu
abbrev Ff(_:Jw):Fz->Nat->Q0 (Int×Bool)->HP:=Qc (λx:Int=>(.int .i64 x)) λ_ (x:Bool) v=>v=(.bool x)
abbrev Qh(U:Jw)(F:Fz)(xs:Q0 (Q0<|Int×Bool)):HP:=ZE U.g208 (Ff U) F xs
theorem Zr(U:Jw):HK (Ff U):=Hu
abbrev Ra(U:Jw):Fz->Nat->Q0 (Int×(Q2 Nat))->HP:=Qc (λx:Int=>(.int .i64 x)) λF (x:(Q2 Nat)) v=>∃(p0:Q2 C1) (_:Unit),v=(.pointer p0)/\ZT U.g212 F p0 x
abbrev ZH(U:Jw)(F:Fz)(xs:Q0 (Q0<|Int×(Q2 Nat))):HP:=ZE U.g201 (Ra U) F xs
theorem Kv(U:Jw):HK (Ra U):=Hu
def Wb(x:Zo):K2:=.iface 249<|qx x
def Xr(x:Zv):K2:=.iface 267<|Lf x
def Jg(x:Qt):K2:=.iface 69<|Ld x
def ZA(U:Jw)(F:Fz)(L:QA):HP:=wc (λq:Q2 C1×Q2 C1×Nat×Q2 C1×Nat×Q2 C1×Nat×Nat×Nat=>WL 30 K9 F q.1 L.rules) λq=>[pc U.g61 (Ql L q.1 () q.2.1 q.2.2.1 q.2.2.2.1 q.2.2.2.2.1 q.2.2.2.2.2.1 q.2.2.2.2.2.2.1 (some q.2.2.2.2.2.2.2.1) () (some q.2.2.2.2.2.2.2.2) ()) 61,Qg 8 (Ex QK) F 46 q.2.1 q.2.2.1<|L.casks,Qg 6 (Ex QP) F 112 q.2.2.2.1 q.2.2.2.2.1<|L.duties,Qg 4 (Ex QU) F 115 q.2.2.2.2.2.1 q.2.2.2.2.2.2.1<|L.stamps,Qc (λx:Int=>(.int .i64 x)) (λF (x:QV) v=>∃(a:Q2 C1) (b:Nat),v=(Zx x a b)/\QI 27 (Ex QN) F a b x.Draughts) F q.2.2.2.2.2.2.2.1<|L.batches,Qc (λx:Int=>(.int .i64 x)) (λ_ (x:Int) v=>v=(.int .i64 x)) F q.2.2.2.2.2.2.2.2<|L.pure]
theorem Fk{m:Mem}(le:F<=F'):ZA U F L m->ZA U F' L m:=fun⟨q,h,a⟩=>⟨q,h.mono le,ZJ (λ_ h=>h) (ZJ (λ_=>WD le)<|ZJ (λ_=>WD le)<|ZJ (λ_=>WD le)<|ZJ (λ_=>KG le)<|ZJ (λ_=>KG le) λ_ h=>h) m a⟩
theorem _root_.Go.Dec.GG.sP(i:Nat)(hi:hs[i]? =some (ZA U F L))(k:∀(a:Q2 C1) (b:Q2 C1) (c:Nat) (d:Q2 C1) (e:Nat) (f:Q2 C1) (j:Nat) (l:Nat) (o:Nat),WL 30 K9 F a L.rules->GG g (Hd n D S F<|[pc U.g61 (Ql L a () b c d e f j (some l) () (some o) ()) 61,Qg 8 (Ex QK) F 46 b c<|L.casks,Qg 6 (Ex QP) F 112 d e<|L.duties,Qg 4 (Ex QU) F 115 f j<|L.stamps,Qc (λx:Int=>(.int .i64 x)) (λF (x:QV) v=>∃(a:Q2 C1) (p:Nat),v=(Zx x a p)/\QI 27 (Ex QN) F a p x.Draughts) F l<|L.batches,Qc (λx:Int=>(.int .i64 x)) (λ_ (x:Int) v=>v=(.int .i64 x)) F o<|L.pure]++hs.eraseIdx i) m r):GG g (Hd n D S F hs) m r:=GG.tG i hi λq h=>k q.1 q.2.1 q.2.2.1 q.2.2.2.1 q.2.2.2.2.1 q.2.2.2.2.2.1 q.2.2.2.2.2.2.1 q.2.2.2.2.2.2.2.1 q.2.2.2.2.2.2.2.2 h
theorem _root_.Go.Dec.GG.sT{o:Fz}{p:Fz}{q:Fz}{s:Fz}{t:Fz}{a:Q2 C1}{b:Q2 C1}{c:Nat}{d:Q2 C1}{e:Nat}{f:Q2 C1}{i:Nat}{j:Nat}{l:Nat}(is:Q0 Nat)(w:WL 30 K9 F a L.rules)(y:o<=F)(l2:p<=F)(z:q<=F)(A:s<=F)(B:t<=F)(C:YN is hs=[pc U.g61 (Ql L a () b c d e f i (some j) () (some l) ()) 61,Qg 8 (Ex QK) o 46 b c<|L.casks,Qg 6 (Ex QP) p 112 d e<|L.duties,Qg 4 (Ex QU) q 115 f i<|L.stamps,Qc (λx:Int=>(.int .i64 x)) (λF (x:QV) v=>∃(a:Q2 C1) (u:Nat),v=(Zx x a u)/\QI 27 (Ex QN) F a u x.Draughts) s j<|L.batches,Qc (λx:Int=>(.int .i64 x)) (λ_ (x:Int) v=>v=(.int .i64 x)) t l<|L.pure])(k:GG g (Hd n D S F<|ZA U F L::YC is hs) m r):GG g (Hd n D S F hs) m r:=GG.an is (a,b,c,d,e,f,i,j,l) w C (ZJ (λ_ h=>h)<|ZJ (λ_=>WD y)<|ZJ (λ_=>WD l2)<|ZJ (λ_=>WD z)<|ZJ (λ_=>KG A)<|ZJ (λ_=>KG B) λ_ h=>h) k
def J9(U:Jw)(F:Fz)(L:QA):HP:=wc (λq:Q2 C1×Q2 C1×Nat×Q2 C1×Nat×Q2 C1×Nat×Nat×Nat=>WL 30 K9 F q.1 L.rules) λq=>[pc U.g61 (Ql L q.1 () q.2.1 q.2.2.1 q.2.2.2.1 q.2.2.2.2.1 q.2.2.2.2.2.1 q.2.2.2.2.2.2.1 (some q.2.2.2.2.2.2.2.1) () (some q.2.2.2.2.2.2.2.2) ()) 61,jN 8 (Ex QK) F 46 q.2.1 q.2.2.1<|L.casks,jN 6 (Ex QP) F 112 q.2.2.2.1 q.2.2.2.2.1<|L.duties,jN 4 (Ex QU) F 115 q.2.2.2.2.2.1 q.2.2.2.2.2.2.1<|L.stamps,Qc (λx:Int=>(.int .i64 x)) (λF (x:QV) v=>∃(a:Q2 C1) (b:Nat),v=(Zx x a b)/\QI 27 (Ex QN) F a b x.Draughts) F q.2.2.2.2.2.2.2.1<|L.batches,Qc (λx:Int=>(.int .i64 x)) (λ_ (x:Int) v=>v=(.int .i64 x)) F q.2.2.2.2.2.2.2.2<|L.pure]
theorem vu{m:Mem}(le:F<=F'):J9 U F L m->J9 U F' L m:=fun⟨q,h,a⟩=>⟨q,h.mono le,ZJ (λ_ h=>h) (ZJ (λ_=>zn le)<|ZJ (λ_=>zn le)<|ZJ (λ_=>zn le)<|ZJ (λ_=>KG le)<|ZJ (λ_=>KG le) λ_ h=>h) m a⟩
theorem Yt{m:Mem}:ZA U F L m->J9 U F L m:=fun⟨q,h,a⟩=>⟨q,h,ZJ (λ_ h=>h) (ZJ (λ_ h=>.inl h)<|ZJ (λ_ h=>.inl h)<|ZJ (λ_ h=>.inl h)<|ZJ (λ_ h=>h)<|ZJ (λ_ h=>h) λ_ h=>h) m a⟩
theorem _root_.Go.Dec.GG.rh{o:Fz}{p:Fz}{a:Q2 C1}{b:Q2 C1}{c:Nat}{d:Q2 C1}{e:Nat}{f:Q2 C1}{i:Nat}{j:Nat}{l:Nat}(is:Q0 Nat)(s:WL 30 K9 F a L.rules)(t:o<=F)(l2:p<=F)(u:YN is hs=[pc U.g61 (Ql L a () b c d e f i (some j) () (some l) ()) 61,jN 8 (Ex QK) F 46 b c<|L.casks,jN 6 (Ex QP) F 112 d e<|L.duties,jN 4 (Ex QU) F 115 f i<|L.stamps,Qc (λx:Int=>(.int .i64 x)) (λF (x:QV) v=>∃(a:Q2 C1) (q:Nat),v=(Zx x a q)/\QI 27 (Ex QN) F a q x.Draughts) o j<|L.batches,Qc (λx:Int=>(.int .i64 x)) (λ_ (x:Int) v=>v=(.int .i64 x)) p l<|L.pure])(k:GG g (Hd n D S F<|J9 U F L::YC is hs) m r):GG g (Hd n D S F hs) m r:=GG.an is (a,b,c,d,e,f,i,j,l) s u (ZJ (λ_ h=>h)<|ZJ (λ_ h=>h)<|ZJ (λ_ h=>h)<|ZJ (λ_ h=>h)<|ZJ (λ_=>KG t)<|ZJ (λ_=>KG l2) λ_ h=>h) k
def Fx(U:Jw)(_:Fz)(L:Zu):HP:=wc (λ_:Unit=>True) λ_=>[pc U.g74 (XK L) 74]
theorem dP{L:Zu}{m:Mem}(_le:F<=F'):Fx U F L m->Fx U F' L m:=λh=>h
theorem _root_.Go.Dec.GG.nU{L:Zu}(i:Nat)(hi:hs[i]? =some (Fx U F L))(k:GG g (Hd n D S F<|[pc U.g74 (XK L) 74]++hs.eraseIdx i) m r):GG g (Hd n D S F hs) m r:=GG.tG i hi λ_ _=>k
theorem _root_.Go.Dec.GG.ri{L:Zu}(is:Q0 Nat)(a:YN is hs=[pc U.g74 (XK L) 74])(k:GG g (Hd n D S F<|Fx U F L::YC is hs) m r):GG g (Hd n D S F hs) m r:=GG.an is () trivial a (ZJ (λ_ h=>h) λ_ h=>h) k
theorem H7:Uo Tryz.prog 3 1 (Ex<|Zy .i64):=.ex (λ_=>rfl) (λ_=>rfl) Tryz.sizeOf3 ⟨_,Tryz.typeInfo3,by decide+kernel,by decide+kernel⟩ ⟨_,Tryz.zeroValue3,rfl⟩
theorem gN:Uo Tryz.prog 9 1 (Ex Af):=.ex (λ_=>rfl) (λ_=>rfl) Tryz.sizeOf9 ⟨_,Tryz.typeInfo9,by decide+kernel,by decide+kernel⟩ ⟨_,Tryz.zeroValue9,rfl⟩
theorem Oz:Uo Tryz.prog 46 8 (Ex QK):=.ex (λ_=>rfl) (λ_=>rfl) Tryz.sizeOf46 ⟨_,Tryz.typeInfo46,by decide+kernel,by decide+kernel⟩ ⟨_,Tryz.zeroValue46,rfl⟩
theorem Oy:Uo Tryz.prog 90 2 (Ex ZB):=.ex (λ_=>rfl) (λ_=>rfl) Tryz.sizeOf90 ⟨_,Tryz.typeInfo90,by decide+kernel,by decide+kernel⟩ ⟨_,Tryz.zeroValue90,rfl⟩
theorem O2:Uo Tryz.prog 112 6 (Ex QP):=.ex (λ_=>rfl) (λ_=>rfl) Tryz.sizeOf112 ⟨_,Tryz.typeInfo112,by decide+kernel,by decide+kernel⟩ ⟨_,Tryz.zeroValue112,rfl⟩
theorem O1:Uo Tryz.prog 115 4 (Ex QU):=.ex (λ_=>rfl) (λ_=>rfl) Tryz.sizeOf115 ⟨_,Tryz.typeInfo115,by decide+kernel,by decide+kernel⟩ ⟨_,Tryz.zeroValue115,rfl⟩
theorem HN:Uo Tryz.prog 119 2 (Ex Qb):=.ex (λ_=>rfl) (λ_=>rfl) Tryz.sizeOf119 ⟨_,Tryz.typeInfo119,by decide+kernel,by decide+kernel⟩ ⟨_,Tryz.zeroValue119,rfl⟩
theorem jU:Uo Tryz.prog 137 24 (Ex Q7):=.ex (λ_=>rfl) (λ_=>rfl) Tryz.sizeOf137 ⟨_,Tryz.typeInfo137,by decide+kernel,by decide+kernel⟩ ⟨_,Tryz.zeroValue137,rfl⟩
theorem jT:Uo Tryz.prog 146 27 (Ex QN):=.ex (λ_=>rfl) (λ_=>rfl) Tryz.sizeOf146 ⟨_,Tryz.typeInfo146,by decide+kernel,by decide+kernel⟩ ⟨_,Tryz.zeroValue146,rfl⟩
theorem xK:Uo Tryz.prog 163 3 (Ex KP):=.ex (λ_=>rfl) (λ_=>rfl) Tryz.sizeOf163 ⟨_,Tryz.typeInfo163,by decide+kernel,by decide+kernel⟩ ⟨_,Tryz.zeroValue163,rfl⟩
theorem jS:Uo Tryz.prog 228 5 (Ex ZS):=.ex (λ_=>rfl) (λ_=>rfl) Tryz.sizeOf228 ⟨_,Tryz.typeInfo228,by decide+kernel,by decide+kernel⟩ ⟨_,Tryz.zeroValue228,rfl⟩
theorem O0:Uo Tryz.prog 229 1 (dQ 2<|Ex Qb):=.mk (λ_ _ _ ⟨_,_,h,_⟩=>h▸rfl) (λ_ _ _ ⟨_,_,h,_⟩=>h▸rfl) (λ_ _ _ _ le ⟨a,b,h,c⟩=>⟨a,b,h,c.mono le⟩) Tryz.sizeOf229 ⟨_,Tryz.typeInfo229,by decide+kernel,by decide+kernel⟩ ⟨_,Tryz.zeroValue229,rfl⟩
def Tryz.aZ:Go.Shelf.Ren:=⟨fun | 6=>104 | 8=>138 | 9=>139 | 11=>191 | 13=>193 | 12=>192 | 23=>227 | 24=>195 | 14=>218 | 15=>219 | 16=>220 | 17=>221 | 18=>222 | 19=>223 | 20=>224 | 21=>225 | 22=>226 | 25=>237 | 26=>238 | 27=>239 | 28=>240 | 29=>241 | 30=>242 | 31=>243 | n=>n,fun | 26=>3 | 28=>206 | 24=>34 | 0=>0 | 3=>3 | 37=>263 | 48=>283 | 50=>257 | 4=>4 | 40=>297 | 39=>296 | 45=>64 | 5=>5 | 9=>9 | 51=>309 | 55=>232 | 57=>316 | 58=>317 | 33=>85 | n=>n,fun | n=>n⟩
theorem Tryz.sv:Go.Proofs.SlLaysZI.n6 Tryz.prog Tryz.aZ:={
 mixed:=by kernel_rfl
 f6:=⟨Tryz.f104.name,by decide,Tryz.func104.trans<|congrArg some x0⟩
 f8:=⟨Tryz.f138.name,by decide,Tryz.func138.trans<|congrArg some x0⟩
 f11:=⟨Tryz.f191.name,by decide,Tryz.func191.trans<|congrArg some x0⟩
 t0:=Tryz.underlying0
 a0:=Tryz.isAgg0
 z0:=Tryz.sizeOf0
 v0:=Tryz.zeroValue0
 t24:=Tryz.underlying34
 a24:=Tryz.isAgg34
 z24:=Tryz.sizeOf34
 v24:=Tryz.zeroValue34
 t26:=Tryz.underlying3
 a26:=Tryz.isAgg3
 z26:=Tryz.sizeOf3
 v26:=Tryz.zeroValue3
 t28:=Tryz.underlying206
 a28:=Tryz.isAgg206
 z28:=Tryz.sizeOf206
 v28:=Tryz.zeroValue206
 i26:=by kernel_rfl}
def Tryz.tj:Go.Shelf.Ren:=⟨fun | 5=>139 | 8=>193 | 7=>192 | 19=>227 | 20=>195 | 10=>218 | 11=>219 | 12=>220 | 13=>221 | 14=>222 | 15=>223 | 16=>224 | 17=>225 | 18=>226 | 30=>237 | 31=>238 | 32=>239 | 33=>240 | 34=>241 | 35=>242 | 40=>243 | n=>n,fun | 23=>34 | 25=>3 | 3=>3 | 32=>263 | 22=>34 | 0=>0 | 44=>283 | 46=>257 | 4=>4 | 36=>297 | 35=>296 | 41=>64 | 5=>5 | 9=>9 | 53=>309 | 57=>232 | 63=>316 | 64=>317 | n=>n,fun | n=>n⟩
theorem Tryz.pb:Go.Proofs.SlLaysM.n5 Tryz.prog Tryz.tj:={
 mixed:=by kernel_rfl
 f5:=⟨Tryz.f139.name,by decide,Tryz.func139.trans<|congrArg some x0⟩
 f7:=⟨Tryz.f192.name,by decide,Tryz.func192.trans<|congrArg some x0⟩
 f8:=Tryz.func193.trans<|congrArg some x0
 f10:=⟨Tryz.f218.name,by decide,Tryz.func218.trans<|congrArg some x0⟩
 f11:=⟨Tryz.f219.name,by decide,Tryz.func219.trans<|congrArg some x0⟩
 f12:=⟨Tryz.f220.name,by decide,Tryz.func220.trans<|congrArg some x0⟩
 f13:=⟨Tryz.f221.name,by decide,Tryz.func221.trans<|congrArg some x0⟩
 f14:=⟨Tryz.f222.name,by decide,Tryz.func222.trans<|congrArg some x0⟩
 f15:=⟨Tryz.f223.name,by decide,Tryz.func223.trans<|congrArg some x0⟩
 f16:=⟨Tryz.f224.name,by decide,Tryz.func224.trans<|congrArg some x0⟩
 f17:=⟨Tryz.f225.name,by decide,Tryz.func225.trans<|congrArg some x0⟩
 f18:=⟨Tryz.f226.name,by decide,Tryz.func226.trans<|congrArg some x0⟩
 f19:=Tryz.func227.trans<|congrArg some x0
 f20:=Tryz.func195.trans<|congrArg some x0
 f30:=⟨Tryz.f237.name,by decide,Tryz.func237.trans<|congrArg some x0⟩
 f31:=Tryz.func238.trans<|congrArg some x0
 f32:=Tryz.func239.trans<|congrArg some x0
 f33:=⟨Tryz.f240.name,by decide,Tryz.func240.trans<|congrArg some x0⟩
 f34:=⟨Tryz.f241.name,by decide,Tryz.func241.trans<|congrArg some x0⟩
 f35:=⟨Tryz.f242.name,by decide,Tryz.func242.trans<|congrArg some x0⟩
 f40:=⟨Tryz.f243.name,by decide,Tryz.func243.trans<|congrArg some x0⟩
 t0:=Tryz.underlying0
 a0:=Tryz.isAgg0
 z0:=Tryz.sizeOf0
 v0:=Tryz.zeroValue0
 t3:=Tryz.underlying3
 a3:=Tryz.isAgg3
 z3:=Tryz.sizeOf3
 v3:=Tryz.zeroValue3
 t4:=Tryz.underlying4
 a4:=Tryz.isAgg4
 z4:=Tryz.sizeOf4
 v4:=Tryz.zeroValue4
 t5:=Tryz.underlying5
 a5:=Tryz.isAgg5
 z5:=Tryz.sizeOf5
 v5:=Tryz.zeroValue5
 t9:=Tryz.underlying9
 a9:=Tryz.isAgg9
 z9:=Tryz.sizeOf9
 v9:=Tryz.zeroValue9
 t22:=Tryz.underlying34
 a22:=Tryz.isAgg34
 z22:=Tryz.sizeOf34
 v22:=Tryz.zeroValue34
 t23:=Tryz.underlying34
 a23:=Tryz.isAgg34
 z23:=Tryz.sizeOf34
 v23:=Tryz.zeroValue34
 t25:=Tryz.underlying3
 a25:=Tryz.isAgg3
 z25:=Tryz.sizeOf3
 v25:=Tryz.zeroValue3
 t32:=Tryz.underlying263
 a32:=Tryz.isAgg263
 z32:=Tryz.sizeOf263
 v32:=Tryz.zeroValue263
 t35:=Tryz.underlying296
 a35:=Tryz.isAgg296
 z35:=Tryz.sizeOf296
 v35:=Tryz.zeroValue296
 t36:=Tryz.underlying297
 a36:=Tryz.isAgg297
 z36:=Tryz.sizeOf297
 v36:=Tryz.zeroValue297
 t41:=Tryz.underlying64
 a41:=Tryz.isAgg64
 z41:=Tryz.sizeOf64
 v41:=Tryz.zeroValue64
 t44:=Tryz.underlying283
 a44:=Tryz.isAgg283
 z44:=Tryz.sizeOf283
 v44:=Tryz.zeroValue283
 t46:=Tryz.underlying257
 a46:=Tryz.isAgg257
 z46:=Tryz.sizeOf257
 v46:=Tryz.zeroValue257
 t53:=Tryz.underlying309
 a53:=Tryz.isAgg309
 z53:=Tryz.sizeOf309
 v53:=Tryz.zeroValue309
 t57:=Tryz.underlying232
 a57:=Tryz.isAgg232
 z57:=Tryz.sizeOf232
 v57:=Tryz.zeroValue232
 t63:=Tryz.underlying316
 a63:=Tryz.isAgg316
 z63:=Tryz.sizeOf316
 v63:=Tryz.zeroValue316
 t64:=Tryz.underlying317
 a64:=Tryz.isAgg317
 z64:=Tryz.sizeOf317
 v64:=Tryz.zeroValue317}
theorem BB(m:Nat):Go.Proofs.AnyZI.SortsIn Tryz.prog Tryz.aZ Fence.wide m:=⟨λblk off cap c W d a b=>s9.2<|Go.Proofs.AnyM.slices_Sort_int Tryz.pb blk off cap c W d a b,λp cap W=>s9.2<|Go.Proofs.AnyM.slices_Sort_int_none Tryz.pb p cap W⟩
def Tryz.aN:Go.Shelf.Ren:=⟨fun | 7=>150 | 10=>200 | n=>n,fun | 23=>201 | 26=>3 | 3=>200 | 28=>206 | 0=>0 | 27=>205 | 33=>85 | 4=>4 | n=>n,fun | n=>n⟩
theorem Tryz.tX:Go.Proofs.SlLaysZI.n7 Tryz.prog Tryz.aN:={
 mixed:=by kernel_rfl
 f7:=⟨Tryz.f150.name,by decide,Tryz.func150.trans<|congrArg some x0⟩
 f10:=⟨Tryz.f200.name,by decide,Tryz.func200.trans<|congrArg some x0⟩
 t0:=Tryz.underlying0
 a0:=Tryz.isAgg0
 z0:=Tryz.sizeOf0
 v0:=Tryz.zeroValue0
 t4:=Tryz.underlying4
 a4:=Tryz.isAgg4
 z4:=Tryz.sizeOf4
 v4:=Tryz.zeroValue4
 t23:=Tryz.underlying201
 a23:=Tryz.isAgg201
 z23:=Tryz.sizeOf201
 v23:=Tryz.zeroValue201
 t26:=Tryz.underlying3
 a26:=Tryz.isAgg3
 z26:=Tryz.sizeOf3
 v26:=Tryz.zeroValue3
 t27:=Tryz.underlying205
 a27:=Tryz.isAgg205
 z27:=Tryz.sizeOf205
 v27:=Tryz.zeroValue205
 t28:=Tryz.underlying206
 a28:=Tryz.isAgg206
 z28:=Tryz.sizeOf206
 v28:=Tryz.zeroValue206
 t33:=Tryz.underlying85
 a33:=Tryz.isAgg85
 z33:=Tryz.sizeOf85
 v33:=Tryz.zeroValue85}
theorem yk:KeysOf Tryz.prog 150 200 201:=λa W=>(s9 (n:=5)).1<|qAW Tryz.tX Fence.wide 5 trivial rfl a W
theorem LK:DQ Tryz.prog 104 200 3 3:=by
 refine⟨λb p D c w d k f l=> ?_,λc w d k=> ?_⟩
 .have a:SeqGives Fence.wide 2 Tryz.prog 200 #[.pointer<|some ⟨c,0,none⟩] encZ (λj=>j.Perm<|intKeys D) (Maps.size D) w:=qAM (ρ:=Tryz.aN) {Tryz.tX with} Fence.wide _ trivial rfl hQ c b p D w d k f;have h:=oB Tryz.sv Fence.wide 5 trivial trivial trivial trivial rfl hQ (BB _) Tryz.call139 200 #[.pointer<|some ⟨c,0,none⟩] trivial Tryz.call200 _ _ (oD l (by unfold maxLen;omega)) hQ _ a;exact(s9 (n:=5)).1 h
 .have a:SeqGives Fence.wide 2 Tryz.prog 200 #[.pointer<|some ⟨c,0,none⟩] encZ (λj:Q0 Int=>j=[]) 0 w:=qAC (ρ:=Tryz.aN) {Tryz.tX with} Fence.wide _ trivial rfl c w d k;have h:=oB Tryz.sv Fence.wide 5 trivial trivial trivial trivial rfl hQ (BB _) Tryz.call139 200 #[.pointer<|some ⟨c,0,none⟩] trivial Tryz.call200 _ 0 (oh _) hQ _ a;refine((s9 (n:=5)).1 h).mono ?_;rintro e w' ⟨v,j,rfl,rfl,o,i,q⟩;obtain rfl:v= .slice none 0 0:=i.2 rfl;exact⟨rfl,q⟩
def Tryz.aO:Go.Shelf.Ren:=⟨fun | 7=>114 | 10=>157 | n=>n,fun | 23=>223 | 26=>3 | 3=>228 | 28=>206 | 0=>0 | 27=>205 | 33=>85 | 4=>4 | n=>n,fun | n=>n⟩
theorem Tryz.tY:Go.Proofs.SlLaysZI.n7 Tryz.prog Tryz.aO:={
 mixed:=by kernel_rfl
 f7:=⟨Tryz.f114.name,by decide,Tryz.func114.trans<|congrArg some x0⟩
 f10:=⟨Tryz.f157.name,by decide,Tryz.func157.trans<|congrArg some x0⟩
 t0:=Tryz.underlying0
 a0:=Tryz.isAgg0
 z0:=Tryz.sizeOf0
 v0:=Tryz.zeroValue0
 t4:=Tryz.underlying4
 a4:=Tryz.isAgg4
 z4:=Tryz.sizeOf4
 v4:=Tryz.zeroValue4
 t23:=Tryz.underlying223
 a23:=Tryz.isAgg223
 z23:=Tryz.sizeOf223
 v23:=Tryz.zeroValue223
 t26:=Tryz.underlying3
 a26:=Tryz.isAgg3
 z26:=Tryz.sizeOf3
 v26:=Tryz.zeroValue3
 t27:=Tryz.underlying205
 a27:=Tryz.isAgg205
 z27:=Tryz.sizeOf205
 v27:=Tryz.zeroValue205
 t28:=Tryz.underlying206
 a28:=Tryz.isAgg206
 z28:=Tryz.sizeOf206
 v28:=Tryz.zeroValue206
 t33:=Tryz.underlying85
 a33:=Tryz.isAgg85
 z33:=Tryz.sizeOf85
 v33:=Tryz.zeroValue85}
theorem yl:KeysOf Tryz.prog 114 157 223:=λa W=>(s9 (n:=5)).1<|qAW Tryz.tY Fence.wide 5 trivial rfl a W
theorem LL:DQ Tryz.prog 104 157 3 3:=by
 refine⟨λb p D c w d k f l=> ?_,λc w d k=> ?_⟩
 .have a:SeqGives Fence.wide 2 Tryz.prog 157 #[.pointer<|some ⟨c,0,none⟩] encZ (λj=>j.Perm<|intKeys D) (Maps.size D) w:=qAM (ρ:=Tryz.aO) {Tryz.tY with} Fence.wide _ trivial rfl hQ c b p D w d k f;have h:=oB Tryz.sv Fence.wide 5 trivial trivial trivial trivial rfl hQ (BB _) Tryz.call139 157 #[.pointer<|some ⟨c,0,none⟩] trivial Tryz.call157 _ _ (oD l (by unfold maxLen;omega)) hQ _ a;exact(s9 (n:=5)).1 h
 .have a:SeqGives Fence.wide 2 Tryz.prog 157 #[.pointer<|some ⟨c,0,none⟩] encZ (λj:Q0 Int=>j=[]) 0 w:=qAC (ρ:=Tryz.aO) {Tryz.tY with} Fence.wide _ trivial rfl c w d k;have h:=oB Tryz.sv Fence.wide 5 trivial trivial trivial trivial rfl hQ (BB _) Tryz.call139 157 #[.pointer<|some ⟨c,0,none⟩] trivial Tryz.call157 _ 0 (oh _) hQ _ a;refine((s9 (n:=5)).1 h).mono ?_;rintro e w' ⟨v,j,rfl,rfl,o,i,q⟩;obtain rfl:v= .slice none 0 0:=i.2 rfl;exact⟨rfl,q⟩
def Tryz.aP:Go.Shelf.Ren:=⟨fun | 7=>105 | 10=>140 | n=>n,fun | 23=>208 | 26=>3 | 3=>4 | 28=>206 | 0=>0 | 27=>205 | 33=>85 | 4=>4 | n=>n,fun | n=>n⟩
theorem Tryz.tZ:Go.Proofs.SlLaysZI.n7 Tryz.prog Tryz.aP:={
 mixed:=by kernel_rfl
 f7:=⟨Tryz.f105.name,by decide,Tryz.func105.trans<|congrArg some x0⟩
 f10:=⟨Tryz.f140.name,by decide,Tryz.func140.trans<|congrArg some x0⟩
 t0:=Tryz.underlying0
 a0:=Tryz.isAgg0
 z0:=Tryz.sizeOf0
 v0:=Tryz.zeroValue0
 t4:=Tryz.underlying4
 a4:=Tryz.isAgg4
 z4:=Tryz.sizeOf4
 v4:=Tryz.zeroValue4
 t23:=Tryz.underlying208
 a23:=Tryz.isAgg208
 z23:=Tryz.sizeOf208
 v23:=Tryz.zeroValue208
 t26:=Tryz.underlying3
 a26:=Tryz.isAgg3
 z26:=Tryz.sizeOf3
 v26:=Tryz.zeroValue3
 t27:=Tryz.underlying205
 a27:=Tryz.isAgg205
 z27:=Tryz.sizeOf205
 v27:=Tryz.zeroValue205
 t28:=Tryz.underlying206
 a28:=Tryz.isAgg206
 z28:=Tryz.sizeOf206
 v28:=Tryz.zeroValue206
 t33:=Tryz.underlying85
 a33:=Tryz.isAgg85
 z33:=Tryz.sizeOf85
 v33:=Tryz.zeroValue85}
theorem En:KeysOf Tryz.prog 105 140 208:=λa W=>(s9 (n:=5)).1<|qAW Tryz.tZ Fence.wide 5 trivial rfl a W
theorem Ak:DQ Tryz.prog 104 140 3 3:=by
 refine⟨λb p D c w d k f l=> ?_,λc w d k=> ?_⟩
 .have a:SeqGives Fence.wide 2 Tryz.prog 140 #[.pointer<|some ⟨c,0,none⟩] encZ (λj=>j.Perm<|intKeys D) (Maps.size D) w:=qAM (ρ:=Tryz.aP) {Tryz.tZ with} Fence.wide _ trivial rfl hQ c b p D w d k f;have h:=oB Tryz.sv Fence.wide 5 trivial trivial trivial trivial rfl hQ (BB _) Tryz.call139 140 #[.pointer<|some ⟨c,0,none⟩] trivial Tryz.call140 _ _ (oD l (by unfold maxLen;omega)) hQ _ a;exact(s9 (n:=5)).1 h
 .have a:SeqGives Fence.wide 2 Tryz.prog 140 #[.pointer<|some ⟨c,0,none⟩] encZ (λj:Q0 Int=>j=[]) 0 w:=qAC (ρ:=Tryz.aP) {Tryz.tZ with} Fence.wide _ trivial rfl c w d k;have h:=oB Tryz.sv Fence.wide 5 trivial trivial trivial trivial rfl hQ (BB _) Tryz.call139 140 #[.pointer<|some ⟨c,0,none⟩] trivial Tryz.call140 _ 0 (oh _) hQ _ a;refine((s9 (n:=5)).1 h).mono ?_;rintro e w' ⟨v,j,rfl,rfl,o,i,q⟩;obtain rfl:v= .slice none 0 0:=i.2 rfl;exact⟨rfl,q⟩
abbrev Ja:=Q0<|Q0<|Int×QG
abbrev Zb:=Q0<|Q0<|Int×Bool
abbrev Jf:=Q0<|Q0<|Int×(Q2 Nat)
def U6(F:Fz)(p:Nm)(c:Q0 K2×Q0 K2)(M:((QA×Unit×(Q0 Int))->Q2 (Out Qt<|(Q0 H1)×QA))):Prop:=∀U:Jw,Ti Tryz.prog Jg F p c (fun(x:(QA×Unit×(Q0 Int))) F vs=>∃(a:Q2 C1) (b:Nat),vs=[(vP U.g61 0),(vS a x.2.2 b)]/\QI 1 (Ex<|Zy .i64) F a b x.2.2) (λF (x:(QA×Unit×(Q0 Int)))=>[ZA U F x.1]) (fun(r:(Q0 H1)×QA) _ v=>v=(.string<|bs r.1)) (λF (_:(QA×Unit×(Q0 Int))) (r:(Q0 H1)×QA)=>[J9 U F r.2]) M
theorem U6.mono{p:Nm}{c:Q0 K2×Q0 K2}{M:((QA×Unit×(Q0 Int))->Q2 (Out Qt<|(Q0 H1)×QA))}(h:U6 F p c M)(le:F<=F'):U6 F' p c M:=λU=>(h U).mono le
abbrev DR(U:Jw)(F:Fz)(p:Nm)(c:Q0 K2×Q0 K2)(M:(((Q0 QD)×(Q0<|Q0<|Int×QG)×(Q0<|Q0<|Int×Bool)×QQ)->Q2 (Out Zv<|(Q0 QD)×(Q0<|Q0<|Int×QG)×(Q0<|Q0<|Int×Bool)))):Prop:=Ti Tryz.prog Xr F p c (fun(x:((Q0 QD)×(Q0<|Q0<|Int×QG)×(Q0<|Q0<|Int×Bool)×QQ)) _ vs=>vs=[(JT x.2.2.2)]) (λF (x:((Q0 QD)×(Q0<|Q0<|Int×QG)×(Q0<|Q0<|Int×Bool)×QQ))=>[Zd U F x.1,KX U F x.2.1,Qh U F x.2.2.1]) (fun(_:(Q0 QD)×(Q0<|Q0<|Int×QG)×(Q0<|Q0<|Int×Bool)) _ v=>v= .tuple #[]) (λF (_:((Q0 QD)×(Q0<|Q0<|Int×QG)×(Q0<|Q0<|Int×Bool)×QQ)) (r:(Q0 QD)×(Q0<|Q0<|Int×QG)×(Q0<|Q0<|Int×Bool))=>[Zd U F r.1,KX U F r.2.1,Qh U F r.2.2]) M
abbrev S7(U:Jw)(F:Fz)(p:Nm)(c:Q0 K2×Q0 K2)(M:(((Q0 QM)×(Q0 Qn)×(Q0<|Q0<|Int×Bool)×(Q0<|Q0<|Int×(Q2 Nat))×(Q2 Nat)×QE)->Q2 (Out Zo<|(Q0 QM)×(Q0<|Q0<|Int×Bool)×(Q0<|Q0<|Int×(Q2 Nat))))):Prop:=Ti Tryz.prog Wb F p c (fun(x:((Q0 QM)×(Q0 Qn)×(Q0<|Q0<|Int×Bool)×(Q0<|Q0<|Int×(Q2 Nat))×(Q2 Nat)×QE)) F vs=>∃(p0:Q2 C1) (_:Unit),vs=[(.pointer p0),(JU x.2.2.2.2.2)]/\ZT U.g203 F p0 x.2.2.2.2.1) (λF (x:((Q0 QM)×(Q0 Qn)×(Q0<|Q0<|Int×Bool)×(Q0<|Q0<|Int×(Q2 Nat))×(Q2 Nat)×QE))=>[Q3 U F x.1,ZD U F x.2.1,Qh U F x.2.2.1,ZH U F x.2.2.2.1]) (fun(_:(Q0 QM)×(Q0<|Q0<|Int×Bool)×(Q0<|Q0<|Int×(Q2 Nat))) _ v=>v= .tuple #[]) (λF (x:((Q0 QM)×(Q0 Qn)×(Q0<|Q0<|Int×Bool)×(Q0<|Q0<|Int×(Q2 Nat))×(Q2 Nat)×QE)) (r:(Q0 QM)×(Q0<|Q0<|Int×Bool)×(Q0<|Q0<|Int×(Q2 Nat)))=>[Q3 U F r.1,ZD U F x.2.1,Qh U F r.2.1,ZH U F r.2.2]) M
end
section
open Go.Dec Go.Proofs.Tryz Go.Shelf Go.RowKit Go.Maps Go.Sort
set_option maxRecDepth 100000
set_option maxHeartbeats 4000000
variable{σ ε:Type}
def K8(y:(Q0 Int)->σ->Q2 (Out ε<|σ×Bool))(d:(Q0 Int))(h:Int)(a:Int×σ):Q2 (UN (Int×σ)<|(Out ε σ) ⊕ (Out ε σ)):=if(decide<|a.1 < (d.length:Int)) then((Zc d a.1 d.length).bind λe=>QO (JS h (e.length:Int)) λb=>(Zc d a.1<|Qy<|a.1+b).bind λf=>Q5 (y f a.2) (λq=>some<|.done<|.inr<|.pan q) λc=>if(!c.2) then(some<|.done<|.inr<|.ok c.1) else(QO (Qy<|a.1+h) λg=>some<|.next (g,c.1))) else(some<|.done<|.inl<|.ok a.2)
def Uv(y:(Q0 Int)->σ->Q2 (Out ε<|σ×Bool))(b:(Q0 Int))(c:Int)(d:σ):Q2 (Out ε σ):=(ZV (K8 y b c) (0,d)).bind λe=>match e with | .inl a=>(some a) | .inr a=>(some a)
theorem C9(F0:Fz)(ε σ:Type)(en:ε->K2)(G:Nat)(Y:σ->Fz->HP)(Z:ε->Fz->HP)(y:(Q0 Int)->σ->Q2 (Out ε<|σ×Bool))(hy:PV prog en G F0 (fun(x:(Q0 Int)) F vs=>∃(Q:Q2 C1) (S:Nat),vs=[(vS Q x S)]/\QI 1 (Ex<|Zy .i64) F Q S x) Y Z y)(H:(Q0 Int))(I:Nat)(T:Q2 C1)(V:Nat)(l:F0.mem I=some (.cells #[(vS T H V)] 34))(W:QI 1 (Ex<|Zy .i64) F0 T V H)(X:Int)(K:Nat)(v:F0.mem K=some (.cells #[(vI X)] 3))(s0:σ):bE prog en 87 #[(.func (.yield G) #[] #[]),(vP I 0),(vP K 0)] F0 (Y s0 F0) (Uv y H X s0) Y Z:=by
 refine bE.enter func87 J ntmps87 J λr R=> ?_;unfold Uv;refine .w 6 (.keep (.p [0,1,2,4] J)<|.loop (fun(o:Int×σ) a w=>∃(d:Fz),F0<=d/\Hd 31 [] [(0,(.func (.yield G) #[] #[])),(1,(vP I 0)),(2,(vP K 0)),(4,(vI o.1))] d [Y o.2 d,R] a w) (λb0 e a w=>match b0 with | .inl (.ok s)=>e= .exit 0/\∃(u:Fz),F0<=u/\Hd 31 [] [] u [Y s u,R] a w | .inl (.pan q)=>False | .inr (.ok s)=>e= .ret/\∃(c:Fz),F0<=c/\Hd 31 [] [] c [Y s c,R] a w | .inr (.pan q)=>e= .panic (TH en q)/\∃(c:Fz),F0<=c/\Hd 31 [] [] c [Z q c,R] a w) ?_ ?_ ?_)
 .exact λa w h=>⟨F0,Fz.r,h.1.sub<|.k J,h.2⟩
 .intro o aE;refine GG.ex λa w ⟨d,b,g⟩=>⟨_,g,?_⟩;unfold K8;refine .w 4<|.U J A8 J (b.mem _ _ l) J<|.sO J J YK J<|.w 3<|.i J (λA=> ?_) λA=> ?_
  .refine .w 5<|.keep (.p [0,1,2,4] J)<|.cz 7 Qd x0<|.U J V3 J (b.mem _ _ v) J<|.U J A8 J (b.mem _ _ l) J<|.m J J<|.aW J YK W3 (W.mono b) J J λaF aG aH aI aJ=>.sO J J YK J<|.min2 J J J<|.cv J J λD aK=>.sI<|.w 5<|.U J A8 J (b.mem _ _ l) J<|.w 7<|.pJ J YK W3 (W.mono b) J J J J λaL L M aM N=>.mF J hy J J ⟨L,M,J,N⟩ (i:=0) J b Fz.r (λaN j _ f=>.w 3<|.i J (λB=> ?_) λB=> ?_) λq j f hq a w g=>Qu.pan (λa w h=>⟨J,j,(Fz.t b f),h.1.sub<|.k J,h.2⟩) hq a w g
   .refine .sR<|Qu.ret λa w h=>⟨J,j,(Fz.t b f),h.1.sub<|.k J,h.2⟩
   .exact .w 5<|.U J V3 J ((Fz.t b f).mem _ _ v) J<|.add J J J<|.cv J J λaP aQ=>.n<|.cg<|Qu.norm λa w h=>⟨j,(Fz.t b f),h.1.sub<|.k J,h.2⟩
  .refine .cw J<|Qu.exit λa w h=>⟨J,d,b,h.1.sub<|.k J,h.2⟩
 .intro z aR P e a w E;rcases z with(z | q) | (z | q)
  .obtain⟨rfl,F1,C,g⟩:=E;exact Q9 J<|GG.app (GG.cg<|EK results87 .n C) P a w g
  .exact E.elim
  .obtain⟨rfl,F1,C,g⟩:=E;exact K6<|EK results87 .n C P a w g
  .obtain⟨rfl,F1,C,g⟩:=E;exact JF<|yY C P a w g
def Se{α:Type}(n:Nat)(l:Q0 α):Nat->Nat->Q0 (Q0 α)
 | 0,_=>[]
 | d+1,a=>if a < l.length then(l.drop a).take n::Se n l d (a+n) else[]
def WM(a:(Q0 Int))(b:Int):Q2 (Q0<|Q0 Int):=if 0 < b/\b<=1000000/\a.length<=1000000000000 then some (Se b.toNat a a.length 0) else none
theorem Mt{y:(Q0 Int)->σ->Q2 (Out ε<|σ×Bool)}{l:Q0 Int}{n:Nat}(j:0 < n)(f:n<=1000000)(k:l.length<=1000000000000):∀(d a:Nat) (s:σ) (r:Out ε σ),l.length<=a+d->a<=l.length+n->G4 y (Se n l d a) s=some r->
  ZV (K8 y l (n:Int)) ((a:Int),s)=some (.inl r)∨ZV (K8 y l (n:Int)) ((a:Int),s)=some (.inr r)
 | 0,a,s,r,m,_,h=>by
  simp only[Se,G4,UV] at h
  subst h;left;rw[ZK];have:¬a < l.length:=by omega
  simp[K8,this]
 | d+1,a,s,r,m,v,h=>by
  by_cases b:a < l.length
  .simp only[Se,DO b,G4] at h
   have g:Zc l (a:Int) (l.length:Int)=some (l.drop a):=by
    unfold Zc;rw[DO hQ];simp only[lV];rw[IF ic]
   have o:Qy ((a:Int)+n)=((a+n:Nat):Int):=by rw[Qs hQ hQ];omega
   have he:JS (n:Int) ((l.drop a).length:Int)=((min n (l.length - a):Nat):Int):=by
    unfold JS;simp only[oJ];split<;>omega
   have hs:Zc l (a:Int) (Qy<|(a:Int)+((min n (l.length - a):Nat):Int))=some ((l.drop a).take n):=by
    rw[Qs hQ hQ];unfold Zc;rw[DO hQ];congr 1;have t:((a:Int)+((min n (l.length - a):Nat):Int)).toNat - (a:Int).toNat=min n (l.length - a):=by omega
    rw[t,lV,<-oJ,<-List.take_eq_take_min]
   rw[ZK]
   have u:K8 y l (n:Int) ((a:Int),s)=Q5 (y ((l.drop a).take n) s) (λq=>some<|.done<|.inr<|.pan q) λc=>if(!c.2) then(some<|.done<|.inr<|.ok c.1) else some (.next (((a+n:Nat):Int),c.1)):=by
    show(if decide ((a:Int) < (l.length:Int)) then _ else _)=_;rw[DO<|by simpa using b];rw[g];show(Zc l (a:Int)<|Qy<|(a:Int)+JS (n:Int) ((l.drop a).length:Int)).bind _=_;rw[he,hs,<-o];rfl
   rw[u];cases i:y ((l.drop a).take n) s with
   | none=>rw[i] at h;cases h
   | some p=>
    rw[i] at h
    cases p with
    | pan q=>
     simp only[Q5,UV] at h ⊢
     right;rw[h]
    | ok p=>
     simp only[Q5] at h ⊢
     by_cases e:p.2=true
     .rw[DO e] at h
      have:=Mt j f k d (a+n) p.1 r hQ hQ h;simpa[e] using this
     .rw[Do e] at h
      simp only[UV] at h
      right;simp[e,h]
  .simp only[Se,Do b,G4,UV] at h
   subst h;left;rw[ZK];simp[K8,b]
theorem CB{y:(Q0 Int)->σ->Q2 (Out ε<|σ×Bool)}{c:(Q0 Int)}{a:Int}{l:Q0 (Q0 Int)}{s:σ}{r:Out ε σ}(b:WM c a=some l)(d:G4 y l s=some r):Uv y c a s=some r:=by
 unfold WM at b
 unfold Uv;split at b
 .rename_i h;simp only[UV] at b
  subst b;have e:((a.toNat:Nat):Int)=a:=by omega
  have:=Mt (n:=a.toNat) hQ hQ h.2.2 c.length 0 s r hQ hQ d;rw[e] at this
  rcases this with e | e
  .exact ZZ e rfl
  .exact ZZ e rfl
 .cases b
def KF(y:ON->σ->Q2 (σ×Bool))(h:Jf)(d:Qn)(b:(Q0 Int))(a:Int×σ):Q2 (UN (Int×σ)<|(σ) ⊕ (σ)):=if(decide<|a.1 < (b.length:Int)) then((ZI b a.1).bind λe=>(d.casks).bind λf=>(h[f]?).bind λg=>(y ((QZ g e).getD none) a.2).bind λc=>if(!c.2) then(some<|.done<|.inr c.1) else(some<|.next ((Qy<|a.1+1),c.1))) else(some<|.done<|.inl a.2)
def Uu(y:ON->σ->Q2 (σ×Bool))(A1:Q0 Qn)(d:Jf)(e:ON)(f:σ):Q2 σ:=e.bind λg=>(A1[g]?).bind λb=>(UG d b.casks).bind λc=>(ZV (KF y d b c) (0,f)).bind λh=>match h with | .inl a=>(some a) | .inr a=>(some a)
theorem C7(F0:Fz)(U:Jw)(σ:Type)(ly:Nat)(Y:σ->Fz->HP)(y:ON->σ->Q2 (σ×Bool))(hy:WK prog ly F0 (fun(x:ON) F vs=>∃(p0:Q2 C1) (_:Unit),vs=[(.pointer p0)]/\ZT U.g212 F p0 x) Y y)(A1:Q0 Qn)(D:Jf)(c3:ON)(b4:Nat)(p6:Q2 C1)(_:Unit)(L:F0.mem b4=some (.cells #[(.pointer p6)] 197))(h8:ZT U.g203 F0 p6 c3)(s0:σ):X6 prog 149 #[(.func (.yield ly) #[] #[]),(vP b4 0)] F0 [ZD U F0 A1,ZH U F0 D,Y s0 F0] (Uu y A1 D c3 s0) (λ_ _ _=>True) (λs' F' =>[ZD U F' A1,ZH U F' D,Y s' F']):=by
 refine X6.enter func149 J ntmps149 J λr R=>(.o (Sub.refl _) (J:_=[ZD U F0 A1,ZH U F0 D,Y s0 F0,R]) ?_);unfold Uu;refine .w 2<|.U J Ls J L J<|.d λi9 aH=> ?_;obtain⟨ak,A,B⟩:=h8.at aH;refine .cZ B J J (.f J RU J Ib J<|.d λM N=>.cp (Φ:=λv=>∃(E:Q2 Nat) (aI:Unit),v=(.map E)/\Z4 U.g201 F0 E M.casks) 0 J Fz.r A N J Ic J (λvs ⟨q0,q1,h,r0⟩=>⟨_,by subst h;exact J,q0,q1,J,r0⟩) λv P=> ?_);obtain⟨E,aI,rfl,aM⟩:=P;refine .ph yk J call150 J J (λal an b Q=>.tB U3 LK (c:=(Ex<|Zy .i64)) (λ_ _=>J) (Q) 1 J (aM.mono b) J call104 J J λC q aN aO ao g aP=>.sO J J YK J<|.w 4<|.keep (.p [0,1,10,11,12] J)<|.ml 2 hy J Fz.r (Fz.t b g)<|.loop (fun(G:Int×σ) a w=>∃(n:Fz),q<=n/\Hd 26 [] [(0,(.func (.yield ly) #[] #[])),(1,(vP b4 0)),(10,(vS aN C aO)),(11,(vI (C.length:Int))),(12,(vI G.1))] n [ZD U F0 A1,ZH U F0 D,Y G.2 n,R] a w) (λb0 e a w=>match b0 with | .inl l=>e= .exit 0/\∃(s:Fz),q<=s/\Hd 26 [] [] s [ZD U F0 A1,ZH U F0 D,Y l s,R] a w | .inr l=>e= .ret/\∃(u:Fz),q<=u/\Hd 26 [] [] u [ZD U F0 A1,ZH U F0 D,Y l u,R] a w) ?_ ?_ ?_)
 .exact λa w h=>⟨q,Fz.r,h.1.sub<|.k J,h.2⟩
 .intro G ar;refine GG.ex λa w ⟨n,j,S⟩=>⟨_,S,?_⟩;unfold KF;refine .w 6<|.i J (λT=> ?_) λT=> ?_
  .refine .w 6 (.idx J YK W3 (aP.mono j) J J λaQ au av aw ae af ax V W=>.U J V3 J V (QF (k:=0) W J)<|.w 6<|.U J Ls J ((Fz.t b<|Fz.t g j).mem _ _ L) J<|.cZ B J J<|.f J RU J Ib J<|.cp (Φ:=λv=>∃(H:Q2 Nat) (aR:Unit),v=(.map H)/\Z4 U.g201 n H M.casks) 0 J (Fz.t b<|Fz.t g j) (A.mono<|Fz.t b<|Fz.t g j) N J Ic J (λvs ⟨q0,q1,h,r0⟩=>⟨_,by subst h;exact J,q0,q1,J,r0⟩) λv P=> ?_);obtain⟨H,aR,rfl,aS⟩:=P;refine .m J J<|.d λay aU=> ?_;obtain⟨az,X,Z⟩:=aS.at aU;refine .d λa1 aV=>.aH (key:=aQ) (z:=none) 1 J (Fz.t b<|Fz.t g j) X Z aV J zY (.int U3) wN ⟨none,(),J,ZT.nil⟩ J J ?_;intro v P;obtain⟨aW,aX,rfl,aY⟩:=P;refine .pH J hy J J ⟨aW,aX,J,aY⟩ (i:=2) J (Fz.t b<|Fz.t g j) Fz.r λa6 aA a7 aB=>.w 3<|.i J (λaC=> ?_) λaC=> ?_
   .refine .sR<|Qu.ret λa w h=>⟨J,aA,(Fz.t j aB),h.1.sub<|.k J,h.2⟩
   .exact .w 7<|.cg<|Qu.norm λa w h=>⟨aA,(Fz.t j aB),h.1.sub<|.k J,h.2⟩
  .refine .cw J<|Qu.exit λa w h=>⟨J,n,j,h.1.sub<|.k J,h.2⟩
 .intro l a8 hk e a w hD;rcases l with l | l
  .obtain⟨rfl,s,I,S⟩:=hD;refine Q9 J<|GG.app ?_ hk a w S;exact .sA 0 (Kf U) (Fz.t b<|Fz.t g I) J<|.sA 1 (Kv U) (Fz.t b<|Fz.t g I) J<|.al [0,0,0,0] results149 .nil J (Fz.t b<|Fz.t g I) trivial
  obtain⟨rfl,u,K,S⟩:=hD;exact K6<|(λe a w h=>Fg [0,0,0,0] results149 .nil J (Fz.t b<|Fz.t g K) trivial e a w<|Hd.sA 1 (Kv U) (Fz.t b<|Fz.t g K) J<|Hd.sA 0 (Kf U) (Fz.t b<|Fz.t g K) J h) hk a w S
def Vk(A1:Q0 Qn)(a:Q0 (Q0<|Int×Q2 Nat))(c:Q2 Nat):Q2 (Q0<|Q2 Nat):=c.bind λi=>(A1[i]?).bind λb=>(b.casks).bind λj=>(a[j]?).bind λl=>(FC l).bind λks=>some<|ks.map λk=>(QZ l k).getD none
theorem Rn{y:Q2 Nat->σ->Q2 (σ×Bool)}{e:Q0 (Q0<|Int×Q2 Nat)}{x:Qn}{j:Nat}{l:Q0 (Int×Q2 Nat)}{ks:Q0 Int}(f:x.casks=some j)(g:e[j]? =some l)(i:ks.length<=1000000):∀(d k:Nat) (s r:σ),k+d=ks.length->WG y ((ks.drop k).map λk=>(QZ l k).getD none) s=some r->
  ZV (KF y e x ks) ((k:Int),s)=some (.inl r)∨ZV (KF y e x ks) ((k:Int),s)=some (.inr r)
 | 0,k,s,r,m,h=>by
  rw[x4 hQ] at h
  simp only[qAx,WG,UV] at h
  subst h;left;rw[ZK];have:¬k < ks.length:=by omega
  simp[KF,this]
 | d+1,k,s,r,m,h=>by
  have a:k < ks.length:=by omega
  have n:Qy ((k:Int)+1)=((k+1:Nat):Int):=by rw[Qs hQ hQ];rfl
  rw[dO a] at h
  have hi:ZI ks (k:Int)=some ks[k]:=by simp[ZI,a]
  simp only[Of,WG] at h
  rw[ZK];cases b:y ((QZ l ks[k]).getD none) s with
  | none=>rw[b] at h;cases h
  | some p=>
   rw[b] at h
   simp only[K1] at h
   by_cases c:p.2=true
   .rw[DO c] at h
    have:=Rn f g i d (k+1) p.1 r hQ h;simpa[KF,a,hi,f,g,b,c,n] using this
   .rw[Do c] at h
    simp only[UV] at h
    right;simp[KF,a,hi,f,g,b,c,h]
theorem CA{y:Q2 Nat->σ->Q2 (σ×Bool)}{A1:Q0 Qn}{d:Q0 (Q0<|Int×Q2 Nat)}{c:Q2 Nat}{l:Q0 (Q2 Nat)}{s r:σ}(f:Vk A1 d c=some l)(o:WG y l s=some r):Uu y A1 d c s=some r:=by
 simp only[Vk,u2] at f
 obtain⟨i,hi,b,p,j,k,m,n,ks,a,f⟩:=f;simp only[UV] at f
 subst f
 have q:ks.length<=1000000:=by
  unfold FC at a
  split at a
  .rename_i h;simp only[UV] at a
   rw[<-a];simpa using h.2
  .cases a
 have hs:UG d b.casks=some ks:=by simp[UG,k,n,a]
 unfold Uu;rw[hi,K1,p,K1,hs,K1];rcases Rn (y:=y) k n q ks.length 0 s r hQ (by simpa using o) with e | e
 .have g:ZV (KF y d b ks) (0,s)=some (.inl r):=e;rw[g];rfl
 .have g:ZV (KF y d b ks) (0,s)=some (.inr r):=e;rw[g];rfl
def Ym(A1:Q0 QD)(c:ON)(d:QG):Q2 (Int):=c.bind λa=>(A1[a]?).bind λb=>some<|Qy<|(Qy<|d.Sent+b.rules.Transit)+1
theorem Gk(F0:Fz)(U:Jw)(A1:Q0 QD)(l:ON)(n:Q2 C1)(_:Unit)(q:ZT U.g225 F0 n l)(g:QG):X6 prog 210 #[(.pointer n),(YA g)] F0 [Zd U F0 A1] (Ym A1 l g) (λr _ v=>v=(vI r)) (λ_ s=>[Zd U s A1]):=by
 refine X6.enter func210 J ntmps210 J λr R=>(.o (Sub.refl _) (J:_=[Zd U F0 A1,R]) ?_);unfold Ym;refine .w 2 (.sG (cs:=(ZS g)) J J J λy z e a=>.w 4<|.keep (.p [0,3] J)<|.cz 10 Qd x0<|.f J jE J W3 J<|.U J V3 J a J<|.m J J<|.d λt i=> ?_);obtain⟨u,b,c⟩:=(q.mono e).at i;refine .cZ c J J (.f J VX J Lq J<|.f J OH J W3 J<|.d λj k=>.cp (Φ:=λv=>v=(vI j.rules.Transit)) 0 J e b k J V3 J (λvs ⟨A,B,C,D,E,F,G,H,h,I,K,L,M⟩=>⟨_,by subst h;exact J,J⟩) λv x=> ?_);subst x;exact .w 3<|.sI<|.w 2<|.sA 0 (YM U) e J<|.ai [0,0] results210 (.tmp J<|.nil) J e J
def KN(A1:Q0 QD)(A3:Zb)(i:ON)(c:Int)(d:(Int×QG))(a:Zb):Q2 (Zb):=((Ym A1 i d.2).bind λb=>(if(decide<|b<=c) then((a[A3.length]?).bind λe=>QO (List.set a A3.length<|Qq e b true) λf=>some f) else(some a):Q2 (Zb)).bind λg=>some g:Q2 (Zb)).bind λh=>some h
def Z2(y:Int->σ->Q2 (σ×Bool))(c:(Q0 Int))(a:Int×σ):Q2 (UN (Int×σ)<|(σ) ⊕ (σ)):=if(decide<|a.1 < (c.length:Int)) then((ZI c a.1).bind λd=>(y d a.2).bind λb=>if(!b.2) then(some<|.done<|.inr b.1) else(some<|.next ((Qy<|a.1+1),b.1))) else(some<|.done<|.inl a.2)
def UH(y:Int->σ->Q2 (σ×Bool))(d:Q0 QD×Ja×Zb->σ)(A1:Q0 QD)(k:Ja)(A3:Zb)(l:ON)(e:Int):Q2 σ:=QO (A3++[[]]) λf=>l.bind λg=>(A1[g]?).bind λh=>(h.moving).bind λi=>(k[i]?).bind λj=>(Ck Pa (KN A1 A3 l e) j f).bind λb=>(UG b<|some A3.length).bind λc=>(ZV (Z2 y c) (0,(d (A1,k,b)))).bind λm=>match m with | .inl a=>(some a) | .inr a=>(some a)
theorem Bj(F0:Fz)(U:Jw)(σ:Type)(ly:Nat)(Y:σ->Fz->HP)(Z:HP)(aA:Q0 QD×Ja×Zb->σ)(y:Int->σ->Q2 (σ×Bool))(hy:WK prog ly F0 (fun(x:Int) _ vs=>vs=[(vI x)]) Y y)(hp:∀(r:Q0 QD×Ja×Zb) F',F0<=F'->∀m,Qk ([Zd U F' r.1,KX U F' r.2.1,Qh U F' r.2.2]++[Z]) m->Y (aA r) F' m)(A1:Q0 QD)(N:Ja)(A3:Zb)(c4:ON)(b5:Nat)(p7:Q2 C1)(k8:Unit)(aY:F0.mem b5=some (.cells #[(.pointer p7)] 220))(h9:ZT U.g225 F0 p7 c4)(aM:Int)(P:Nat)(aZ:F0.mem P=some (.cells #[(vI aM)] 3)):X6 prog 233 #[(.func (.yield ly) #[] #[]),(vP b5 0),(vP P 0)] F0 [Zd U F0 A1,KX U F0 N,Qh U F0 A3,Z] (UH y aA A1 N A3 c4 aM) (λ_ _ _=>True) (λs' F' =>[Y s' F']):=by
 refine X6.enter func233 J ntmps233 J λr R=>(.o (Sub.refl _) (J:_=[Zd U F0 A1,KX U F0 N,Qh U F0 A3,Z,R]) ?_);unfold UH;refine .w 2<|.sY (λx:Int=>(vI x)) (λ_ (x:Bool) v=>v=(.bool x)) J λaN=>.cm λbe ay=>.aA 0 2 J J (Zr U) Fz.r (λG m l hm=>KG (Fz.t Fz.r l) hm) ay λaO g aF=>.w 6<|.U J D5 J (g.mem _ _ aY) J<|.d λbg az=> ?_;obtain⟨bh,aa,ab⟩:=(h9.mono g).at az;refine .cZ ab J J (.f J VX J zR J<|.d λa1 a6=>.cp (Φ:=λv=>∃(aP:Q2 Nat) (a7:Unit),v=(.map aP)/\Z4 U.g223 aO aP a1.moving) 0 J g aa a6 J zV J (λvs ⟨q0,q1,q2,q3,q4,q5,q6,q7,h,r0,r1,r2,r3⟩=>⟨_,by subst h;exact J,q4,q5,J,r2⟩) λv hv=> ?_);obtain⟨aP,a7,rfl,bA⟩:=hv;refine .d λaB bB=> ?_;obtain⟨C,ad,ae⟩:=bA.at bB;refine .d λbm af=>.pL 1 J ad ae af J jF J λj ag=>.w 3<|.keep (.p [0,1,2,4,15] J)<|.sA 1 (YM U) g J<|.tw (B:=0) (b:=(KN A1 A3 c4 aM)) Pa (λQ q (aQ:Zb) a w=>∃(aC:Fz),aO<=aC/\Hd 41 [] [(0,(.func (.yield ly) #[] #[])),(1,(vP b5 0)),(2,(vP P 0)),(4,(.map<|some aN)),(15,(vP j 0))] aC [Us (λx:Int=>(vI x)) (λ_ (x:QG) v=>v=(YA x)) F0 C j Q q,Zd U aC A1,hole U.g223 (RZ U) F0 aB C N,Qh U aC aQ,Z,R] a w) J ?_ ?_ ?_ ?_
 .exact λa w h=>⟨aO,Fz.r,h.1.sub<|.k J,h.2⟩
 .exact λq bn bo a w hE ⟨bC,bD,D⟩=>⟨bC,bD,Hd.lK 3 J hE D⟩
 .intro Q q aQ aD;rcases Q with _ | ⟨y,ys⟩
  .exact GG.ex λa w ⟨bE,bF,D⟩=>⟨_,D,(.w 2<|.pO 0 J J J J<|.w 4<|.su J<|.cw J<|FJ.over λa w h=>⟨bE,bF,h.1.sub<|.k J,h.2⟩)⟩
  .refine GG.ex λa w ⟨ah,L,D⟩=>⟨_,D,(.w 2<|.pN 0 J (qAV _ _) J J J λu z bq aG bR=> ?_)⟩;obtain⟨br,aH⟩:=aD u<|aG.mem_iff.1<|r9 ..;refine .use aH ?_;unfold KN;refine .w 4<|.aC J<|.w 2<|.keep (.p [0,1,2,4,15] J)<|GG.sQ (σ:=Zb) (λai a w=>∃(M:Fz),ah<=M/\Hd 41 [] [(0,(.func (.yield ly) #[] #[])),(1,(vP b5 0)),(2,(vP P 0)),(4,(.map<|some aN)),(15,(vP j 0))] M [Us (λx:Int=>(vI x)) (λ_ (x:QG) v=>v=(YA x)) F0 C j z<|u::q,Zd U M A1,hole U.g223 (RZ U) F0 aB C N,Qh U M ai,Z,R] a w) (λsj=> ?_) λai bG=>GG.ex λa w ⟨M,bH,D⟩=>⟨_,D,?_⟩
   .refine .w 3<|.pS 0 J J J J λv hv=> ?_;obtain rfl:=hv _<|Fz.t g L;refine .x J J J<|.l (cs:=(ZS<|QG.mk 0 0 0 0 0)) J kz J λaj=>.store (cs' :=(ZS u.2)) vV J J J J (i:=0) J (K4 J) J (QX ij)<|.w 4<|.U J D5 J ((Fz.t g L).mem _ _ aY) J<|.c9 J dt vV J (i:=0) J (vs:=(ZS u.2)) x0 J<|.sM [2] J call210 J J J J (Gk _ U A1 c4 p7 k8 (h9.mono<|Fz.t g L) u.2)<|JI λbI S bu T=>.pick [1,1,0,0,0,0,0] (J:_=[pc aj (ZS u.2) 228,Us (λx:Int=>(vI x)) (λ_ (x:QG) v=>v=(YA x)) F0 C j z<|u::q,Zd U S A1,hole U.g223 (RZ U) F0 aB C N,Qh U ah aQ,Z,R])<|.w 6<|.U J V3 J ((Fz.t g<|Fz.t L T).mem _ _ aZ) J<|.w 3<|.keep (.p [0,1,2,4,7,15,25] J)<|GG.sQ (σ:=Zb) (λak a w=>∃(V:Fz),S<=V/\Hd 41 [] [(0,(.func (.yield ly) #[] #[])),(1,(vP b5 0)),(2,(vP P 0)),(4,(.map<|some aN)),(15,(vP j 0))] V [pc aj (ZS u.2) 228,Us (λx:Int=>(vI x)) (λ_ (x:QG) v=>v=(YA x)) F0 C j z<|u::q,Zd U S A1,hole U.g223 (RZ U) F0 aB C N,Qh U V ak,Z,R] a w) (λsj=> ?_) λak bG=>GG.ex λa w ⟨V,al,D⟩=>⟨_,D,?_⟩
    .refine .i J (λan=> ?_) λan=> ?_
     .exact .w 3<|.d λbw bJ=>.cm λbx bK=>.aG (key:=bI) (val:=true) 4 J T (aF.mono<|Fz.t L T) J bJ zX (.int U3) J J J (λ_ _=>J) bK<|.n (.cg λe a w h=>by cases e;exact⟨J,⟨S,Fz.r,h.1.sub<|.k J,h.2⟩⟩)
     .exact .skip<|.sA 4 (Zr U) T J (.cg λe a w h=>by cases e;exact⟨J,⟨S,Fz.r,h.1.sub<|.k J,h.2⟩⟩)
    exact .k<|.drop 0<|.sA 1 (YM U) al J (.cg λe a w h=>by cases e;exact⟨J,⟨V,(Fz.t T al),h.1.sub<|.k J,h.2⟩⟩)
   exact .cg<|FJ.norm aG aH λa w h=>⟨M,(Fz.t L bH),h.1.sub<|.k J,h.2⟩
 .intro q aE bS ao;refine GG.ex (λa w ⟨bz,F,D⟩=>⟨_,D,(.aQ 0 1 J J (Fz.t g F) (Fz.t g F) ao ag (SF af)<|.w 4<|.ph En J call105 J J λb1 b2 E aq=>.tB U3 Ak (c:=(Ex<|Zy .i64)) (λ_ _=>J) (aq) 2 J ((Z4.of aF).mono<|Fz.t F E) J call104 J J λaI A bL bM b3 H bN=>.sO J J YK J<|.w 3<|.sA 0 (YM U) (Fz.t E H) J<|.sA 1 (Vc U) (Fz.t E H) J<|.sA 2 (Zr U) (Fz.t E H) J<|.mS (Hs:=[Zd U A A1,KX U A N,Qh U A aE,Z]) (Y:=Y (aA (A1,N,aE)) A) [0,0,0,0] J (hp (A1,N,aE) _<|Fz.t g<|Fz.t F<|Fz.t E H)<|.o (Sub.refl _) (J:_=[Y (aA (A1,N,aE)) A,R])<|.k<|.keep (.p [0,30,31,32] J)<|.loop (fun(aR:Int×σ) a w=>∃(W:Fz),A<=W/\Hd 41 [] [(0,(.func (.yield ly) #[] #[])),(30,(vS bL aI bM)),(31,(vI (aI.length:Int))),(32,(vI aR.1))] W [Y aR.2 W,R] a w) (λb0 e a w=>match b0 with | .inl s=>e= .exit 2/\∃(I:Fz),A<=I/\Hd 41 [] [] I [Y s I,R] a w | .inr s=>e= .ret/\∃(K:Fz),A<=K/\Hd 41 [] [] K [Y s K,R] a w) ?_ ?_ ?_)⟩)
  .exact λa w h=>⟨A,Fz.r,h.1.sub<|.k J,h.2⟩
  .intro aR b6;refine GG.ex λa w ⟨W,X,D⟩=>⟨_,D,?_⟩;unfold Z2;refine .w 6<|.i J (λar=> ?_) λar=> ?_
   .refine .w 6<|.idx J YK W3 (bN.mono X) J J λb7 b8 b9 bT bO bP bU aS aU=>.U J V3 J aS (QF (k:=0) aU J)<|.w 7<|.pH J hy J J J (i:=0) J (Fz.t g<|Fz.t F<|Fz.t E<|Fz.t H X) Fz.r λbV aJ bW aK=>.w 3<|.i J (λaV=> ?_) λaV=> ?_
    .refine .sR<|Qu.ret λa w h=>⟨J,aJ,(Fz.t X aK),h.1.sub<|.k J,h.2⟩
    .exact .w 7<|.cg<|Qu.norm λa w h=>⟨aJ,(Fz.t X aK),h.1.sub<|.k J,h.2⟩
   .refine .cw J<|Qu.exit λa w h=>⟨J,W,X,h.1.sub<|.k J,h.2⟩
  .intro s cA hk e a w hD;rcases s with s | s
   .obtain⟨rfl,I,au,D⟩:=hD;refine Q9 J<|GG.app ?_ hk a w D;exact .al [0,0] results233 .nil J (Fz.t g<|Fz.t F<|Fz.t E<|Fz.t H au) trivial
   obtain⟨rfl,K,av,D⟩:=hD;exact K6<|(Fg [0,0] results233 .nil J (Fz.t g<|Fz.t F<|Fz.t E<|Fz.t H av) trivial) hk a w D
def Yx(A1:Q0 QD)(b:Q0 (Q0<|Int×QG))(A3:Q0 (Q0<|Int×Bool))(c:Q2 Nat)(a:Int):Q2 ((Q0 QD×Q0 (Q0<|Int×QG)×Q0 (Q0<|Int×Bool))×Q0 Int):=c.bind λi=>(A1[i]?).bind λx=>(x.moving).bind λj=>(b[j]?).bind λl=>(Ck Pa (KN A1 A3 c a) l<|A3++[[]]).bind λR=>(UG R<|some A3.length).bind λks=>some ((A1,b,R),ks)
theorem Em{y:Int->σ->Q2 (σ×Bool)}{ks:Q0 Int}(e:ks.length<=1000000):∀(d k:Nat) (s r:σ),k+d=ks.length->WG y (ks.drop k) s=some r->
  ZV (Z2 y ks) ((k:Int),s)=some (.inl r)∨ZV (Z2 y ks) ((k:Int),s)=some (.inr r)
 | 0,k,s,r,f,h=>by
  rw[x4 hQ] at h
  simp only[WG,UV] at h
  subst h;left;rw[ZK];have:¬k < ks.length:=by omega
  simp[Z2,this]
 | d+1,k,s,r,f,h=>by
  have a:k < ks.length:=by omega
  have g:Qy ((k:Int)+1)=((k+1:Nat):Int):=by rw[Qs hQ hQ];rfl
  rw[dO a] at h
  have hi:ZI ks (k:Int)=some ks[k]:=by simp[ZI,a]
  simp only[WG] at h
  rw[ZK];cases b:y ks[k] s with
  | none=>rw[b] at h;cases h
  | some p=>
   rw[b] at h
   simp only[K1] at h
   by_cases c:p.2=true
   .rw[DO c] at h
    have:=Em e d (k+1) p.1 r hQ h;simpa[Z2,a,hi,b,c,g] using this
   .rw[Do c] at h
    simp only[UV] at h
    right;simp[Z2,a,hi,b,c,h]
theorem Ds{y:Int->σ->Q2 (σ×Bool)}{a:Q0 QD×Q0 (Q0<|Int×QG)×Q0 (Q0<|Int×Bool)->σ}{A1:Q0 QD}{c:Q0 (Q0<|Int×QG)}{A3:Q0 (Q0<|Int×Bool)}{n:Q2 Nat}{d:Int}{q:(Q0 QD×Q0 (Q0<|Int×QG)×Q0 (Q0<|Int×Bool))×Q0 Int}{r:σ}(f:Yx A1 c A3 n d=some q)(o:WG y q.2 (a q.1)=some r):UH y a A1 c A3 n d=some r:=by
 simp only[Yx,u2] at f
 obtain⟨i,rfl,b,p,j,s,l,t,R,u,ks,g,f⟩:=f;simp only[UV] at f
 subst f
 have v:ks.length<=1000000:=by
  have h:=g;simp only[UG,u2] at h
  obtain⟨m,_,h⟩:=h;unfold FC at h
  split at h
  .rename_i w;simp only[UV] at h
   rw[<-h];simpa using w.2
  .cases h
 simp only[UH,QO,K1,p,s,t,u,g];rcases Em (y:=y) v ks.length 0 (a (A1,c,R)) r hQ (by simpa using o) with e | e
 .have k:ZV (Z2 y ks) (0,a (A1,c,R))=some (.inl r):=e;rw[k];rfl
 .have k:ZV (Z2 y ks) (0,a (A1,c,R))=some (.inr r):=e;rw[k];rfl
end
end Go.Proofs.YthfjpbooaofjcaaGreatDoor
end
