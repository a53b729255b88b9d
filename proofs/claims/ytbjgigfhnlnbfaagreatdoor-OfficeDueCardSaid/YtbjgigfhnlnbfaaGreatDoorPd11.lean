/- OfficeDue is true whatever its inputs are: no condition but the row's own. -/
import Derived.Test.YtbjgigfhnlnbfaaGreatDoorPd10
import Derived.Test.YtbjgigfhnlnbfaaGreatDoorTie
import Derived.Test.YtbjgigfhnlnbfaaGreatDoorCards
import Derived.ChangeMaps5
noncomputable section
namespace Go.Dec
abbrev iC:=@MakeChecks.laidMetH_plain
end Go.Dec
namespace Go.Proofs.YtbjgigfhnlnbfaaGreatDoor
section
open Go.Dec Go.Proofs.Tryz Go.Shelf Go.RowKit Go.Maps Go.Sort
set_option maxRecDepth 100000
set_option maxHeartbeats 4000000
def Zr(l2:(Q0<|Q0 DO))(g:ON×(Q0 Qr))(a:Int×Int×(Q0 Qr)):Q2 (UP (Int×Int×(Q0 Qr))<|(Int×(Q0 Qr)) ⊕ (Bool×(Q0 Qr))):=if(decide<|a.2.1 < (l2.length:Int)) then((ZW l2 a.2.1).bind λh=>(YY h).bind λc=>(ZW l2 a.2.1).bind λi=>(WE a.2.2 g.1 i).bind λd=>if((d.2.1==0)&&((!c.2)||(c.1.Word==([114,117,108,101,115]:Q0 DO)))) then(some<|.done<|.inr (false,d.2.2)) else((if((d.2.1==0)&&(c.1.Word==([102,105,108,108]:Q0 DO))) then((ZW c.1.N 1).bind λj=>(ZW c.1.N 2).bind λk=>QQ (Qz<|a.1+(Qz<|Int.tdiv (Qz<|j*k) 10000)) λb=>some b) else(some a.1):Q2 (Int)).bind λe=>QQ (Qz<|a.2.1+1) λf=>some<|.next (e,f,d.2.2))) else(some<|.done<|.inl (a.1,a.2.2))
def Kz(k:ON×(Q0 Qr))(d:Int×(Q0 Qr))(b:(Q0 QE))(a:Int×Int):Q2 (UP (Int×Int)<|Int):=if(decide<|a.2 < (b.length:Int)) then(((ZW b a.2).bind λe=>(if(e.Kind==0) then((ZW b a.2).bind λf=>(Vw d.2 k.1 f.Cask).bind λg=>QQ (Qz<|a.1+g) λc=>some c) else(some a.1):Q2 (Int)).bind λh=>some h:Q2 (Int)).bind λi=>QQ (Qz<|a.2+1) λj=>some<|.next (i,j)) else(some<|.done a.1)
def Ky(b:(Q0 QM))(a:Int×Int):Q2 (UP (Int×Int)<|Int):=if(decide<|a.2 < (b.length:Int)) then(((ZW b a.2).bind λd=>(if(d.Kind==6) then((ZW b a.2).bind λe=>QQ (Qz<|a.1+e.Amount) λc=>some c) else(some a.1):Q2 (Int)).bind λf=>some f:Q2 (Int)).bind λg=>QQ (Qz<|a.2+1) λh=>some<|.next (g,h)) else(some<|.done a.1)
def J0(A1:Q0 Qr)(l2:(Q0<|Q0 DO))(f:Int):Q2 (Bool×(Q0 Qr)):=(Ub l2).bind λv=>if(!v) then(Wg.bind λs=>some (s,A1)) else(QQ (Int.tmod (Qz<|f) 1000) λg=>(Hf A1).bind λb=>if(b.1).isNone then(some (false,b.2)) else((JL<|Qz<|1000*g).bind λt=>(YB ([114,117,108,101,115,32,48,32,48,32,48,32,48,32]:Q0 DO) t).bind λu=>(WE b.2 b.1 u).bind λh=>if(h.2.1 != 0) then(some (false,h.2.2)) else((ZT (Zr l2 b) (0,0,h.2.2)).bind λw=>match w with | .inl a=>((VT a.2 b.1).bind λi=>(ZT (Kz b a i) (0,0)).bind λd=>(Ys a.2 b.1).bind λj=>(ZT (Ky j) (0,0)).bind λe=>(WE a.2 b.1 ([100,117,101]:Q0 DO)).bind λc=>(if(c.2.1==0) then((JL<|Qz<|g*(Qz<|a.1 - d)).bind λk=>(YB ([100,117,101,32]:Q0 DO) k).bind λl=>(YB l ([32]:Q0 DO)).bind λm=>(JL e).bind λn=>(YB m n).bind λo=>some<|c.1==o) else some false).bind λp=>(if(p&&(decide<|e<=(Qz<|g*(Qz<|a.1 - d)))) then(Wg.bind λq=>some q) else some false).bind λr=>some (r,c.2.2)) | .inr a=>(some (a.1,a.2)))))
theorem DH(F0:Fz)(hT:X8 F0)(U:Jy)(A1:Q0 Qr)(l2:(Q0<|Q0 DO))(p3:Q2 C3)(k4:Nat)(h5:QG 1 (Ex AK) F0 p3 k4 l2)(aO:Int):Xv prog 4 #[(vS p3 l2 k4),(.int .u16 aO)] F0 [UZ U F0 A1] (J0 A1 l2 aO) (λr _ v=>v=(.bool r.1)) (λr F' =>[UZ U F' r.2]):=by
 refine Xv.enter func4 J ntmps4 J λr R=>(.o (Sub.refl _) (J:_=[UZ U F0 A1,R]) ?_);unfold J0;refine .w 9<|.cP J call5 J J J (TA _ l2 p3 k4 h5)<|Kv λr9 F7 _ X=>.w 3<|.i J (λbR=> ?_) λbR=> ?_
 ·exact .w 2<|.cP J call6 J J J (SX _<|hT.mono X)<|Kv λdN dP _ bS=>.w 3<|.cU 0 (VO U) (Fz.t X bS) J<|.sY [0,0] results4 (.tmp J<|.nil) J (Fz.t X bS) J
 ·refine .w 5 (.ah J cB U3 J<|.pN J (by decide) J J<|.cS J J λs dQ=>.w 4<|.cU 0 (VO U) X J<|.cm [0] J call7 J J J J (Tw _ U A1) ?_);rintro G b4 _ dS D ⟨g,aK,rfl,V⟩;refine .pick [0,0] (J:_=[UZ U b4 G.2,R])<|.w 7<|.sD V J dR J J<|.w 2<|.i J (λbT=> ?_) λbT=> ?_
  ·exact .w 5<|.sY [0,0] results4 (.tmp J<|.nil) J (Fz.t X D) J
  ·refine .w 7<|.cP J call16 J J J (Xt _<|Qz<|1000*s)<|Kv λdT dU _ q=>.tn J J J λb5 dV=>.cU 0 (VO U) q J<|.cm [0] J call9 J J J J (DZ _ (hT.mono<|Fz.t X<|Fz.t D q) U G.2 G.1 g aK (V.mono q) b5)<|Kv λb6 aP dW x=>.pick [0,0] (J:_=[UZ U aP b6.2.2,R])<|.w 6<|.keep (.p [0,5,6,8] J)<|.w 8<|.i J (λbU=> ?_) λbU=> ?_
   ·exact .w 5<|.sY [0,0] results4 (.tmp J<|.nil) J (Fz.t X<|Fz.t D<|Fz.t q x) J
   ·refine .w 14 (.keep (.p [0,5,6,9,10] J)<|.loop (fun(aL:Int×Int×(Q0 Qr)) a w=>∃(aQ:Fz),aP<=aQ/\Hd 175 [] [(0,(vS p3 l2 k4)),(5,(vI s)),(6,(.pointer g)),(9,(vI aL.1)),(10,(vI aL.2.1))] aQ [UZ U aQ aL.2.2,R] a w) (λb0 e a w=>match b0 with | .inl c=>e= .exit 0/\∃(Y:Fz),aP<=Y/\Hd 175 [] [(5,(vI s)),(6,(.pointer g)),(9,(vI c.1))] Y [UZ U Y c.2,R] a w | .inr c=>e= .ret/\∃(Z:Fz),aP<=Z/\Hd 175 [] [(4,(.bool c.1))] Z [UZ U Z c.2,R] a w) ?_ ?_ ?_)
    ·exact λa w h=>⟨aP,Fz.r,h.1.sub<|.k J,h.2⟩
    ·intro aL bV;refine GG.ex λa w ⟨aQ,W,B⟩=>⟨_,B,?_⟩;unfold Zr;refine .w 5<|.cq J J vH J<|.w 3<|.i J (λbW=> ?_) λbW=> ?_
     ·refine .w 8<|.idx J vH W9 (h5.mono<|Fz.t X<|Fz.t D<|Fz.t q<|Fz.t x W) J J λb7 dY dZ da cK cL db bX bZ=>.U J V9 J bX (QI (k:=0) bZ J)<|.cP J call8 J J J (SQ _ b7) ?_;rintro H dc _ - aM ⟨ay,az,rfl,ba⟩;refine .w 3<|.l (cs:=(Qp (Qx.mk ([])<|[]) none 0)) J dE J λbb=>.store (cs' :=(Qp H.1 ay az)) fP J J J J (i:=0) J (JV J) J (QZ<|by rfl)<|.w 8<|.idx J vH W9 (h5.mono<|Fz.t X<|Fz.t D<|Fz.t q<|Fz.t x<|Fz.t W aM) J J λb8 dd de df cM cN dh bc bd=>.U J V9 J bc (QI (k:=0) bd J)<|.cU 1 (VO U) aM J<|.cm [1] J call9 J J J J (DZ _ (hT.mono<|Fz.t X<|Fz.t D<|Fz.t q<|Fz.t x<|Fz.t W aM) U aL.2.2 G.1 g aK (V.mono<|Fz.t q<|Fz.t x<|Fz.t W aM) b8)<|Kv λad be di ae=>.pick [1,0,0] (J:_=[pc bb (Qp H.1 ay az) 34,UZ U be ad.2.2,R])<|.w 6<|.keep (.p [0,5,6,9,10,11,12,14] J)<|.w 7<|.rJ (b:=(ad.2.1==0)) (b' :=((!H.2)||(H.1.Word==([114,117,108,101,115]:Q0 DO)))) 8 77 (λE=> ?_) (λI=> ?_) λb9 aN=> ?_
      ·refine .cG E J J<|.m J J<|.cG E J J<|.not J J<|.cG E J J<|.m J J<|.nZ (b:=(!H.2)) (b' :=(H.1.Word==([114,117,108,101,115]:Q0 DO))) 4 76 (λaA=> ?_) (λaB=> ?_) λdj cA=> ?_
       ·exact .cG aA J J<|.f J vG J W9 J<|.cG aA J J<|.cF J V9 J (i:=0) J J<|.cG aA J J<|.sG J U9 J J<|.cG E J J<|.cc aA J J J<|.fi Fz.r
       ·exact .cf aB J J J<|.cf aB J J J<|.cf aB J J J<|.cG E J J<|.cH aB J J J<|.fi Fz.r
       exact .cH E J J J<|.fi cA
      ·exact .cf I J J J<|.cf I J J J<|.cf I J J J<|.off J J J J<|.off J J J J<|.off J J J J<|.cf I J J J<|.cc I J J J<|.fi Fz.r
      refine .w 2<|.i J (λbf=> ?_) λbf=> ?_
      ·refine .w 5<|.drop 0<|.cU 0 (VO U) aN J<|.cz<|Q5.ret λa w h=>⟨J,b9,(Fz.t W<|Fz.t aM<|Fz.t ae aN),h.1.sub<|.k J,h.2⟩
      ·refine .w 7<|.cw (b:=(ad.2.1==0)) (b' :=(H.1.Word==([102,105,108,108]:Q0 DO))) 4 84 J (λaC=> ?_) λa1 af=> ?_
       ·exact .cG aC J J<|.f J vG J W9 J<|.cG aC J J<|.cF J V9 J (i:=0) J J<|.cG aC J J<|.sG J U9 J J<|.cH aC J J J<|.fi Fz.r
       refine .w 2<|.keep (.p [0,5,6,9,10,11,84] J)<|GG.ct (σ:=Int) (λah a w=>∃(aD:Fz),a1<=aD/\Hd 175 [] [(0,(vS p3 l2 k4)),(5,(vI s)),(6,(.pointer g)),(9,(vI ah)),(10,(vI aL.2.1))] aD [pc bb (Qp H.1 ay az) 34,UZ U be ad.2.2,R] a w) (λsj=> ?_) λah ag=>GG.ex λa w ⟨aD,ai,B⟩=>⟨_,B,?_⟩
       ·refine .i J (λbg=> ?_) λbg=> ?_
        ·exact .keep (.p [0,5,6,9,10,11] J)<|.mH 13 Qc (by kernel_rfl)<|.m J J<|.f J vG J fe J<|.cF J fS J (i:=0) J J<|.idx J UO W3 (ba.mono<|Fz.t ae<|Fz.t aN af) J J λdk dm dn dp cO cP dq bh bj=>.U J V3 J bh (QI (k:=0) bj J)<|.f J vG J fe J<|.cF J fS J (i:=0) J J<|.idx J UO W3 (ba.mono<|Fz.t ae<|Fz.t aN af) J J λdr ds dt du cQ cR dv a6 a7=>.U J V3 J a6 (QI (k:=0) a7 J)<|.mul J J J<|.ar J (by decide) J J<|.add J J J<|.cS J J λa8 cS=>.cn<|.n (.cN λe a w h=>by cases e;exact⟨J,⟨a1,Fz.r,h.1.sub<|.k J,h.2⟩⟩)
        ·exact .skip (.cN λe a w h=>by cases e;exact⟨J,⟨a1,Fz.r,h.1.sub<|.k J,h.2⟩⟩)
       exact .w 5<|.cS J J λcT cU=>.n<|.drop 0<|.cU 0 (VO U) (Fz.t aN<|Fz.t af ai) J<|.cN<|Q5.norm λa w h=>⟨aD,(Fz.t W<|Fz.t aM<|Fz.t ae<|Fz.t aN<|Fz.t af ai),h.1.sub<|.k J,h.2⟩
     ·refine .cR J<|Q5.exit λa w h=>⟨J,aQ,W,h.1.sub<|.k J,h.2⟩
    ·intro c bk hk e a w hD;rcases c with c | c
     ·obtain⟨rfl,Y,C,B⟩:=hD;refine Q9 J<|GG.app ?_ hk a w B;refine .w 4<|.cm [0] J call11 J J J J (Cn _ U c.2 G.1 g aK<|V.mono<|Fz.t q<|Fz.t x C) ?_;rintro aR aE _ cV F ⟨aS,aU,rfl,aj⟩;refine .pick [0,0] (J:_=[UZ U aE c.2,R])<|.w 16<|.keep (.p [5,6,9,15,16,17,18] J)<|.loop (fun(K:Int×Int) a w=>∃(y:Fz),aE<=y/\Hd 175 [] [(5,(vI s)),(6,(.pointer g)),(9,(vI c.1)),(15,(vS aS aR aU)),(16,(vI K.1)),(17,(vI 0)),(18,(vI K.2))] y [UZ U y c.2,R] a w) (λu e a w=>e= .exit 2/\∃(aF:Fz),aE<=aF/\Hd 175 [] [(5,(vI s)),(6,(.pointer g)),(9,(vI c.1)),(16,(vI u)),(17,(vI 0))] aF [UZ U aF c.2,R] a w) ?_ ?_ ?_
      ·exact λa w h=>⟨aE,Fz.r,h.1.sub<|.k J,h.2⟩
      ·intro K bV;refine GG.ex λa w ⟨y,L,B⟩=>⟨_,B,?_⟩;unfold Kz;refine .w 5<|.cq J J IX J<|.w 3<|.i J (λbA=> ?_) λbA=> ?_
       ·refine .w 3<|.keep (.p [5,6,9,15,16,17,18] J)<|GG.ct (σ:=Int) (λak a w=>∃(M:Fz),y<=M/\Hd 175 [] [(5,(vI s)),(6,(.pointer g)),(9,(vI c.1)),(15,(vS aS aR aU)),(16,(vI ak)),(17,(vI 0)),(18,(vI K.2))] M [UZ U M c.2,R] a w) (λsj=> ?_) λak ag=>GG.ex λa w ⟨M,bl,B⟩=>⟨_,B,?_⟩
        ·refine .w 5<|.idx J IX vE (aj.mono L) J J λcW cX cY cZ cC cD ca bB bC=>.f J WA J W3 J<|.U J V3 J bB (QI (k:=0) bC J)<|.w 3<|.keep (.p [5,6,9,15,16,17,18,110] J)<|GG.ct (σ:=Int) (λal a w=>∃(N:Fz),y<=N/\Hd 175 [] [(5,(vI s)),(6,(.pointer g)),(9,(vI c.1)),(15,(vS aS aR aU)),(16,(vI al)),(17,(vI 0)),(18,(vI K.2))] N [UZ U N c.2,R] a w) (λsj=> ?_) λal ag=>GG.ex λa w ⟨N,bm,B⟩=>⟨_,B,?_⟩
         ·refine .i J (λbD=> ?_) λbD=> ?_
          ·exact .w 5<|.idx J IX vE (aj.mono L) J J λbn cb cc cd cE cF cf bE bF=>.f J WA J W3 J<|.U J V3 J bE (QI (k:=2) bF J)<|.cm [0] J call15 J J J J (SY _ U c.2 G.1 g aK (V.mono<|Fz.t q<|Fz.t x<|Fz.t C<|Fz.t F L) bn.Cask)<|Kv λcg an ch bo=>.pick [0,0] (J:_=[UZ U an c.2,R])<|.add J J J<|.cS J J λbp cj=>.n (.cN λe a w h=>by cases e;exact⟨J,⟨an,bo,h.1.sub<|.k J,h.2⟩⟩)
          ·exact .skip (.cN λe a w h=>by cases e;exact⟨J,⟨y,Fz.r,h.1.sub<|.k J,h.2⟩⟩)
         exact .k (.cN λe a w h=>by cases e;exact⟨J,⟨N,bm,h.1.sub<|.k J,h.2⟩⟩)
        exact .w 4<|.cS J J λck cl=>.n<|.cN<|Q5.norm λa w h=>⟨M,(Fz.t L bl),h.1.sub<|.k J,h.2⟩
       ·refine .cR J<|Q5.exit λa w h=>⟨J,y,L,h.1.sub<|.k J,h.2⟩
      ·intro u bk hk e a w hD;obtain⟨rfl,aF,P,B⟩:=hD;refine Q9 J<|GG.app ?_ hk a w B;refine .w 4<|.cm [0] J call12 J J J J (B9 _ U c.2 G.1 g aK<|V.mono<|Fz.t q<|Fz.t x<|Fz.t C<|Fz.t F P) ?_;rintro aV z _ cm aG ⟨aW,aX,rfl,ao⟩;refine .pick [0,0] (J:_=[UZ U z c.2,R])<|.w 10<|.keep (.p [5,6,9,16,17,19,20] J)<|.loop (fun(Q:Int×Int) a w=>∃(A:Fz),z<=A/\Hd 175 [] [(5,(vI s)),(6,(.pointer g)),(9,(vI c.1)),(16,(vI u)),(17,(vI Q.1)),(19,(vS aW aV aX)),(20,(vI Q.2))] A [UZ U z c.2,R] a w) (λS e a w=>e= .exit 4/\∃(aY:Fz),z<=aY/\Hd 175 [] [(5,(vI s)),(6,(.pointer g)),(9,(vI c.1)),(16,(vI u)),(17,(vI S))] aY [UZ U z c.2,R] a w) ?_ ?_ ?_
       ·exact λa w h=>⟨z,Fz.r,h.1.sub<|.k J,h.2⟩
       ·intro Q bV;refine GG.ex λa w ⟨A,aH,B⟩=>⟨_,B,?_⟩;unfold Ky;refine .w 5<|.cq J J IW J<|.w 3<|.i J (λbG=> ?_) λbG=> ?_
        ·refine .w 3<|.keep (.p [5,6,9,16,17,19,20] J)<|GG.ct (σ:=Int) (λaq a w=>∃(aI:Fz),A<=aI/\Hd 175 [] [(5,(vI s)),(6,(.pointer g)),(9,(vI c.1)),(16,(vI u)),(17,(vI aq)),(19,(vS aW aV aX)),(20,(vI Q.2))] aI [UZ U z c.2,R] a w) (λsj=> ?_) λaq ag=>GG.ex λa w ⟨aI,bq,B⟩=>⟨_,B,?_⟩
         ·refine .w 5<|.idx J IW zD (ao.mono aH) J J λcn cp cq cr cG cH ct bH bI=>.f J X7 J W3 J<|.U J V3 J bH (QI (k:=0) bI J)<|.w 3<|.keep (.p [5,6,9,16,17,19,20,133] J)<|GG.ct (σ:=Int) (λar a w=>∃(aJ:Fz),A<=aJ/\Hd 175 [] [(5,(vI s)),(6,(.pointer g)),(9,(vI c.1)),(16,(vI u)),(17,(vI ar)),(19,(vS aW aV aX)),(20,(vI Q.2))] aJ [UZ U z c.2,R] a w) (λsj=> ?_) λar ag=>GG.ex λa w ⟨aJ,br,B⟩=>⟨_,B,?_⟩
          ·refine .i J (λbJ=> ?_) λbJ=> ?_
           ·exact .w 4<|.idx J IW zD (ao.mono aH) J J λcu cv cw cx cI cJ cy bK bL=>.f J X7 J W3 J<|.U J V3 J bK (QI (k:=5) bL J)<|.add J J J<|.cS J J λbt cz=>.n (.cN λe a w h=>by cases e;exact⟨J,⟨A,Fz.r,h.1.sub<|.k J,h.2⟩⟩)
           ·exact .skip (.cN λe a w h=>by cases e;exact⟨J,⟨A,Fz.r,h.1.sub<|.k J,h.2⟩⟩)
          exact .k (.cN λe a w h=>by cases e;exact⟨J,⟨aJ,br,h.1.sub<|.k J,h.2⟩⟩)
         exact .w 4<|.cS J J λc0 c1=>.n<|.cN<|Q5.norm λa w h=>⟨aI,(Fz.t aH bq),h.1.sub<|.k J,h.2⟩
        ·refine .cR J<|Q5.exit λa w h=>⟨J,A,aH,h.1.sub<|.k J,h.2⟩
       ·intro S bk hk e a w hD;obtain⟨rfl,aY,T,B⟩:=hD;refine Q9 J<|GG.app ?_ hk a w B;refine .w 4<|.cU 0 (VO U) T J<|.cm [0] J call9 J J J J (DZ _ (hT.mono<|Fz.t X<|Fz.t D<|Fz.t q<|Fz.t x<|Fz.t C<|Fz.t F<|Fz.t P<|Fz.t aG T) U c.2 G.1 g aK (V.mono<|Fz.t q<|Fz.t x<|Fz.t C<|Fz.t F<|Fz.t P<|Fz.t aG T) ([100,117,101]:Q0 DO))<|Kv λau bu c2 av=>.pick [0,0] (J:_=[UZ U bu au.2.2,R])<|.w 12<|.aO (b:=(au.2.1==0)) 14 162 J (λd c3=> ?_) λaw c4 aZ=> ?_
        ·exact .cG d J J<|.m J J<|.cG d J J<|.m J J<|.cG d J J<|.m J J<|.cG d J J<|.m J J<|.cG d J J<|.sub J J J<|.cG d J J<|.mul J J J<|.cG d J J<|.cP J call16 J J J (Xt _<|Qz<|s*(Qz<|c.1 - u))<|Kv λc5 c6 _ bw=>.cG d J J<|.tn J J J λc7 c8=>.cG d J J<|.tn J J J λc9 dA=>.cG d J J<|.m J J<|.cG d J J<|.cP J call16 J J J (Xt _ S)<|Kv λdB dC _ bx=>.cG d J J<|.tn J J J λdD dF=>.cG d J J<|.sG J U9 J J<|.cH d J J J<|.sL 14 J J (by kernel_rfl)<|Fz.t bw bx
        refine .m J J<|.cw (b:=aw) (b' :=(decide<|S<=(Qz<|s*(Qz<|c.1 - u)))) 8 171 J (λj=> ?_) λdG aa=> ?_
        ·exact .cG j J J<|.m J J<|.cG j J J<|.m J J<|.cG j J J<|.m J J<|.cG j J J<|.m J J<|.cG j J J<|.sub J J J<|.cG j J J<|.mul J J J<|.cG j J J<|.leq J J J<|.cH j J J J<|.fi Fz.r
        refine .m J J<|.aO (b:=(aw&&(decide<|S<=(Qz<|s*(Qz<|c.1 - u))))) 2 174 J (λab dH=> ?_) λdI dJ ax=> ?_
        ·exact .cG ab J J<|.cP J call6 J J J (SX _<|hT.mono<|Fz.t X<|Fz.t D<|Fz.t q<|Fz.t x<|Fz.t C<|Fz.t F<|Fz.t P<|Fz.t aG<|Fz.t T<|Fz.t av<|Fz.t aZ aa)<|Kv λdK dL _ bz=>.cH ab J J J<|.sL 2 J J (by kernel_rfl) bz
        exact .w 3<|.cU 0 (VO U) (Fz.t aZ<|Fz.t aa ax) J<|.sY [0,0] results4 (.tmp J<|.nil) J (Fz.t X<|Fz.t D<|Fz.t q<|Fz.t x<|Fz.t C<|Fz.t F<|Fz.t P<|Fz.t aG<|Fz.t T<|Fz.t av<|Fz.t aZ<|Fz.t aa ax) J
     obtain⟨rfl,Z,b1,B⟩:=hD;exact Jn<|(FG [0,0] results4 (.tmp J<|.nil) J (Fz.t X<|Fz.t D<|Fz.t q<|Fz.t x b1) J) hk a w B
def Vp(l2:(Q0<|Q0 DO))(a:Int):Q2 Bool:=(J0 [] l2 a).map Prod.fst
theorem Dl(F0:Fz)(d:X8 F0)(l2:(Q0<|Q0 DO))(b:Q2 C3)(c:Nat)(e:QG 1 (Ex AK) F0 b c l2)(a:Int):Z9 prog 4 #[(vS b l2 c),(.int .u16 a)] F0 (Vp l2 a) (λr _ v=>v=(.bool r)):=Z9.nw (C:=λγ=>dc<|Jy.mk 0 0 0 γ 0 0 0 0 0) λγ F le=>DH F (d.mono le) (Jy.mk 0 0 0 γ 0 0 0 0 0) [] l2 b c (e.mono le) a
end
section
open Go.Dec
variable{L:QA}{ru:Ql}{b:Q3}{cu:Ca.DL}{k:Int}
theorem kl(a b:Int):Qz (Qz a+b)=Qz (a+b):=by
 have e:IntKind.i64.bits=64:=rfl;simp only[Qz,IntKind.wrap,e,IntKind.signed,rW,AT]
 repeat' split
 all_goals omega
theorem zg{X:Int}(c:0<=X)(d:X < 10000000000000):Hb ([114,117,108,101,115,32,48,32,48,32,48,32,48,32]++WW X)= .ok (HX,[0,0,0,0,X]):=by
 obtain⟨a,e,_⟩:=yL c d
 have f:(WW X).all Rn=true:=by
  simp only[Fh,BY] at a
  exact a.2
 unfold Hb
 have hs:Jg ([114,117,108,101,115,32,48,32,48,32,48,32,48,32]++WW X)=[HX,[48],[48],[48],[48],WW X]:=by
  simp[Jg,Ly _ f]
 rw[hs];have g:Fh [48]=true:=rfl;have h:(Ww [48]:Int)=0:=rfl;simp only[s8,lf,a,g,mw,B3,Of,eW,e,h]
def Tf(k:Int):Ql:=X9 0 0 0 [(0,1000*k)]
theorem I7(a:0<=k/\k < 1000):Ex.XJ (Tf k)=true:=by
 have e:Ex.Wa (1000*k) 0 1048576=true:=Ex.Jf.2 (by omega);show(Ex.Wa ((1:Nat):Int) 1 64&&Ex.MT [⟨0,1000*k⟩]&&Ex.Wa 0 0 65536&&Ex.Wa 0 0 10000&&Ex.Wa 0 0 1000&&(Ex.Wa 0 0 65536&&decide ((-1:Int) < 0)&&Ex.Wa (1000*k) 0 1048576&&true))=true;rw[e];rfl
theorem j2(n d:Int)(a:0<=d):Ex.Ux (Tf k) n d=k*n:=by
 have:Ex.Fa (Tf k).Rates d=1000*k:=by
  show(if(0:Int)<=d then 1000*k else 0)=_;rw[Bm a]
 unfold Ex.Ux;rw[this,show n*(1000*k)=k*n*1000 by rw[oZ k n,Int.mul_assoc,oZ 1000 k]];exact Int.mul_ediv_cancel _<|by decide
theorem zh(c:0<=k/\k < 1000):uu Ul ([114,117,108,101,115,32,48,32,48,32,48,32,48,32]++WW (1000*k))=some (E9,0,{Ul with rules:=some (Tf k)}):=by
 have h:=FH<|1000*k;have d:Cv HX=some ⟨HX,3,2,Nk⟩:=rfl
 have e:Nk Ul [0,0,0,0,1000*k]=some (.ok (E9,{Ul with rules:=some (Tf k)})):=by
  show(if([0,1000*k]:Q0 Int).length<=1000000 then(XT [0,1000*k]).bind (λps=>V8 Ul.rules.isNone 5<|V8 (Ex.XJ<|X9 0 0 0 ps) 1<|qI {Ul with rules:=some (X9 0 0 0 ps)}) else none)=_;rw[Bm<|by simp];show V8 true 5 (V8 (Ex.XJ<|Tf k) 1<|qI {Ul with rules:=some (Tf k)})=_;rw[I7 c];rfl
 have a:CU Ul ([114,117,108,101,115,32,48,32,48,32,48,32,48,32]++WW (1000*k))=some (.ok (E9,{Ul with rules:=some (Tf k)})):=by
  unfold CU;rw[B2 (by simp;omega),zg (by omega)<|by omega];simp only[d];have f:XM 3 2 (([0,0,0,0,1000*k]:Q0 Int).length:Int)=true:=by simp[XM]
  have g:(!Ul.rules.isNone||HX==[100,97,121]||HX==[114,117,108,101,115])=true:=by decide
  rw[Bm (by decide),e,f,g];rfl
 unfold uu;rw[a]
section
variable{l:Q0 (Q0 DO)}(hl:l.length<=40)(hx:∀x∈l,x.length<=4000){r:ON×Q0 Qr}(h0:r.1=some 0){ru:Ql}
include hl hx h0
theorem ui{x:Q0 DO}{pre post:Q0 (Q0 DO)}(e:l=pre++x::post)(Q:Inv (1000*(pre.length+1)) (pre.length+1) L)(H:Ai ru L cu b)(S:0<=b.Made/\b.Made<=1099511627776*(pre.length:Int)):∃g h b',Zr l r (b.Made,(pre.length:Int),[⟨L,true⟩])=some (.next (b'.Made,((pre++[x]).length:Int),[⟨g,true⟩]))/\Inv (1000*((pre++[x]).length+1)) ((pre++[x]).length+1) g/\Ai ru g h b'/\0<=b'.Made/\b'.Made<=1099511627776*((pre++[x]).length:Int):=by
 have T:=Vm e;have hi:=Xq e;have m:ZW l (pre.length:Int)=some x:=by rw[Zy,T]
 have y:=hx x (by rw[e];simp);obtain⟨V,er,g,j,R,I,W⟩:=ur (A:=[⟨L,true⟩]) (i:=0) rfl Q (by omega) (by omega) x;have z:([⟨L,true⟩]:Q0 Qr).set 0 ⟨g,true⟩=[⟨g,true⟩]:=rfl;rw[z] at j
 have o:Inv (1000*((pre++[x]).length+1)) ((pre++[x]).length+1) g:=I.up (by simp;omega) (by simp);have d:decide ((pre.length:Int) < (l.length:Int))=true:=by simpa using hi
 have a:(((pre++[x]).length:Nat):Int)=(pre.length:Int)+1:=by simp
 have K:Qz ((pre.length:Int)+1)=(pre.length:Int)+1:=Qi (by omega) (by omega);rcases W with⟨X,_,M⟩ | ⟨B,p,_⟩
 ·obtain⟨r1,F,_⟩:=jA x y;subst M;have he:(er==0)=false:=by have:=X.1;simp;omega
  refine⟨g,cu,b,?_,o,H,S.1,by rw[a];omega⟩;unfold Zr;simp only[d,B3,m,F,K1,h0];rw[j,K1];simp only[he,eB,H1,By,K1,QQ,K,a]
 ·obtain⟨w,ns,t,u,_,f⟩:=O5 Q.days p;have F:=zt y t u;obtain⟨h,b',C,v⟩:=H.mR f;obtain⟨G,D⟩:=H.word f;have G:(w==HX)=false:=by simpa using G
  have go:∀q:Int,b'.Made=b.Made+q->0<=q/\q<=1099511627776->0<=b'.Made/\b'.Made<=1099511627776*((pre++[x]).length:Int):=λq e1 e2=>by rw[a];omega
  rcases D with⟨D,N⟩ | ⟨c,n,s,rfl,rfl,P,Y,Z⟩
  ·have D:(w==HY)=false:=by simpa using D
   rw[N] at v
   refine⟨g,h,b',?_,o,C,go 0 v<|by omega⟩;unfold Zr;simp only[d,B3,m,F,K1,h0];rw[j,K1];simp only[B,hW,rW,RK,mv,G,D,H1,By,K1,QQ,K,a];rw[v];simp
  ·have N:MH HY [c,n,s]=n*s / 10000:=by
    show(if HY=HY then n*s / 10000 else 0)=_;rw[Bm rfl]
   rw[N] at v
   have P:Qz (Int.tdiv (Qz<|n*s) 10000)=n*s / 10000:=P;have i1:ZW [c,n,s] 1=some n:=rfl;have i2:ZW [c,n,s] 2=some s:=rfl;have E:Qz (b.Made+n*s / 10000)=b'.Made:=by rw[v];exact Qi (by omega)<|by omega
   refine⟨g,h,b',?_,o,C,go _ v ⟨Y,Z⟩⟩;unfold Zr;simp only[d,B3,m,F,K1,h0];rw[j,K1];simp only[B,hW,rW,RK,mv,G,H1,By,B3,i1,i2,K1,QQ,P,E,K,a]
theorem ql:∀(post pre:Q0 (Q0 DO)) (L:QA) (cu:Ca.DL) (b:Q3),l=pre++post->Inv (1000*(pre.length+1)) (pre.length+1) L->Ai ru L cu b->0<=b.Made/\b.Made<=1099511627776*(pre.length:Int)->
  ∃a c b',ZT (Zr l r) (b.Made,(pre.length:Int),[⟨L,true⟩])=some (.inl (b'.Made,[⟨a,true⟩]))/\Inv (1000*(l.length+1)) (l.length+1) a/\Ai ru a c b'/\0<=b'.Made/\b'.Made<=1099511627776*(l.length:Int)
 | [],pre,L,cu,b,e,d,f,g=>by
  rw[mf] at e
  subst e;refine⟨L,cu,b,?_,d,f,g⟩;rw[ZJ];unfold Zr;simp
 | x::post,pre,L,cu,b,e,d,f,g=>by
  obtain⟨m,n,o,p,h,i,j⟩:=ui hl hx h0 e d f g;obtain⟨q,s,t,u,v⟩:=ql post (pre++[x]) m n o (by rw[e];simp) h i j;refine⟨q,s,t,?_,v⟩;rw[ZJ,p];exact u
end
def NQ(f:Int->Int):Q0 Int->Int
 | []=>0
 | c::l=>f c+NQ f l
theorem Lt(f:Int->Int):∀(l:Q0 Int) (c:Int),NQ f (l++[c])=NQ f l+f c
 | [],c=>by simp[NQ]
 | a::l,c=>by simp only[s9,NQ,Lt f l c];omega
theorem va(f:Int->Int):∀l:Q0 (Int×Int),HZ (λp=>f p.1) l=NQ f (l.map Prod.fst)
 | []=>rfl
 | p::l=>by simp only[HZ,Of,NQ,va f l]
theorem yH{r:ON×Q0 Qr}(f:r.1=some 0){q:Int}(l:Q0 QE)(j:l.length<=1000000):ZT (Kz r (q,[⟨L,true⟩]) l) (0,0)=some (Qz<|NQ (Ze L)<|HH l):=by
 obtain⟨t,c,d⟩:=HN (body:=Kz r (q,[⟨L,true⟩]) l) (λi (t:Int)=>(t,(i:Int))) (λt=>t) (λpre t=>t=Qz (NQ (Ze L)<|HH pre)) l
  (λpre x post t e c=>by
   have g:=Vm e;have hi:=Xq e;have h:Qz ((pre.length:Int)+1)=((pre.length+1:Nat):Int):=by rw[Qi (by omega)<|by omega];simp
   have a:decide ((pre.length:Int) < (l.length:Int))=true:=by simpa using hi
   refine⟨if x.Kind==0 then Qz (t+Ze L x.Cask) else t,?_,?_⟩
   ·unfold Kz;simp only[a,B3,Zy,g,K1,f];rw[w5 (A:=[⟨L,true⟩]) (i:=0) rfl];cases x.Kind==0<;>simp only[K1,QQ,h,B3,H1,By]
   ·rw[MG];cases x.Kind==0
    ·simp only[H1,By];exact c
    ·simp only[B3];rw[Lt,c,kl])
  (λt _=>by unfold Kz;simp) l [] 0 rfl rfl
 rw[c] at d
 exact d
theorem j8(l:Q0 QM)(h:l.length<=1000000):ZT (Ky l) (0,0)=some (Qz<|BB l):=by
 obtain⟨t,c,d⟩:=HN (body:=Ky l) (λi (t:Int)=>(t,(i:Int))) (λt=>t) (λpre t=>t=Qz (BB pre)) l
  (λpre x post t e c=>by
   have f:=Vm e;have hi:=Xq e;have g:Qz ((pre.length:Int)+1)=((pre.length+1:Nat):Int):=by rw[Qi (by omega)<|by omega];simp
   have a:decide ((pre.length:Int) < (l.length:Int))=true:=by simpa using hi
   refine⟨if x.Kind==6 then Qz (t+x.Amount) else t,?_,?_⟩
   ·unfold Ky;simp only[a,B3,Zy,f,K1];cases x.Kind==6<;>simp only[K1,QQ,g,B3,H1,By]
   ·rw[EI];cases x.Kind==6
    ·simp only[H1,By];rw[c,oc]
    ·simp only[B3];rw[c,kl])
  (λt _=>by unfold Ky;simp) l [] 0 rfl rfl
 rw[c] at d
 exact d
theorem uj{n s:Nat}(f:Inv n s L)(j:n<=700000)(hs:s < 256)(c:Ai ru L cu b):uu L [100,117,101]=some ([100,117,101,32]++WW b.Due++[32]++WW b.Paid,0,L):=by
 have i:Cv [100,117,101]=some ⟨[100,117,101],0,0,FV⟩:=rfl;have a:=c.ds.bd.pe c.rok c.bc.day c.ds.calm.mov;have d:=ID ru L.duties L.day;rw[a] at d
 have g:FV L []=some (.ok ([100,117,101,32]++WW b.Due++[32]++WW b.Paid,L)):=by
  unfold FV Mt;rw[c.ds.rules];simp only;rw[Bm<|f.rules _ c.ds.rules,K1,a];unfold LD;rw[Bm ⟨by decide,by simp,by simp only[s8,lf,d.2.1,d.2.2,mw]⟩];simp[HE]
 have h:Hb [100,117,101]= .ok ([100,117,101],[]):=rfl
 have e:CU L [100,117,101]=some (.ok ([100,117,101,32]++WW b.Due++[32]++WW b.Paid,L)):=by
  unfold CU;rw[B2 (by decide),h];simp only[i,c.ds.rules];have:=f.casks;have:=f.duties;have:=f.stamps;rw[Bm (by omega),g];rfl
 unfold uu;rw[e]
theorem w4(a:Ai ru L cu b):0<=b.Made - b.Used:=by
 rw[a.ev.made]
 have:∀l:Q0 (Int×Int),(∀p∈l,0<=Ze L p.1)->0<=HZ (λp=>Ze L p.1) l:=λl=>by
  induction l with
  | nil=>intro _;exact IN _
  | cons p l d=>
   intro h;have j:=h p (by simp);have m:=d λq e=>h q (by simp[e]);simp only[HZ];omega
 exact this (IT cu.all) λp f=>by
  obtain⟨c,g,rfl⟩:=n2.1 f;obtain⟨i,hi⟩:=eS g;exact(a.ev.amt i c hi).1
theorem uh(l:Q0 (Q0 DO))(each:Int)(G:∀x∈l,x.length<=140737488351232)(H:(Lit.int .u16 each).wf=true):Vp l each=some true:=by
 have I:=wf_u16 H;unfold Vp
 suffices h:∃A,J0 [] l each=some (true,A) by obtain⟨A,h⟩:=h;rw[h];rfl
 unfold J0;obtain⟨b,K,q⟩:=gu l G;rw[K,K1];cases b with
 | false=>
  simp only[u0,B3,Mu,K1];exact⟨_,rfl⟩
 | true=>
  obtain⟨M,hB⟩:=q rfl
  have v:∀x∈l,x.length<=4000:=λx N=>by
   obtain⟨a,b,rfl⟩:=lT N;have:WT (a++x::b)=WT a+(x.length+1)+WT b:=by simp[WT];omega
   omega
  simp only[RK,H1,By]
  have w:∃k,Int.tmod (Qz each) 1000=k/\0<=k/\k < 1000:=by
   rw[Qi (n:=each) (by omega) (by omega),lU I.1];exact⟨_,rfl,by omega,by omega⟩
  obtain⟨k,w,g,s⟩:=w;have y:Hf []=some (some 0,[⟨Ul,true⟩]):=rfl;simp only[QQ,w];rw[y,K1];simp only[lR,H1,By];have l0:=FH<|1000*k;rw[Qi (n:=1000*k) (by omega) (by omega),OB (n:=1000*k) (by omega) (by omega),K1,Ut (by simp;omega),K1];obtain⟨z,er,L0,m,c,B,_⟩:=ur (A:=[⟨Ul,true⟩]) (i:=0) rfl Inv.start (by omega) (by omega)<|[114,117,108,101,115,32,48,32,48,32,48,32,48,32]++WW (1000*k);rw[zh ⟨g,s⟩] at c
  simp only[UV,L4] at c
  obtain⟨rfl,rfl,rfl⟩:=c;obtain⟨C,P,D,t,_⟩:=wS.start.mO (I7 ⟨g,s⟩) rfl;rw[m,K1];simp only[oS,H1,By];obtain⟨L,cu,b,f,u,e,hM⟩:=ql M v (r:=(some 0,[⟨Ul,true⟩])) rfl l [] _ C P rfl (B.up (by simp)<|by simp) D (by rw[t];simp);have j:ZT (Zr l (some 0,[⟨Ul,true⟩])) (0,0,([⟨Ul,true⟩]:Q0 Qr).set 0 ⟨{Ul with rules:=some (Tf k)},true⟩)=some (.inl (b.Made,[⟨L,true⟩])):=by rw[t] at f;exact f
  rw[j,K1];simp only;have Q:=u.casks;have R:=u.duties;rw[Mh (A:=[⟨L,true⟩]) (i:=0) rfl (by omega),K1,yH (r:=(some 0,[⟨Ul,true⟩])) rfl _ (by omega),K1,yX (A:=[⟨L,true⟩]) (i:=0) rfl (by omega),K1,j8 _ (by omega),K1];obtain⟨z,er,L',m,c,_,_⟩:=ur (A:=[⟨L,true⟩]) (i:=0) rfl u (by omega) (by omega) [100,117,101];rw[uj u (by omega) (by omega) e] at c
  simp only[UV,L4] at c
  obtain⟨rfl,rfl,rfl⟩:=c;rw[m,K1]
  have o:NQ (Ze L) (HH L.casks)=b.Made - b.Used:=by
   rw[e.ev.made,va,z8,e.nums]
  obtain⟨F,S⟩:=e.ds.least;obtain⟨T,V⟩:=e.ds.due k g λn d W=>j2 n d W;have E:=w4 e;have p:b.Used<=1099511627776*41:=by omega
  have X:0<=k*b.Used/\k*b.Used<=1000*(1099511627776*41):=⟨r7 g F,eA (by omega) p F<|by omega⟩;have Y:Qz (NQ (Ze L)<|HH L.casks)=b.Made - b.Used:=by rw[o];exact Qi (by omega)<|by omega
  have Z:Qz (b.Made - (b.Made - b.Used))=b.Used:=by rw[Qi (by omega)<|by omega];omega
  have e3:Qz (k*b.Used)=b.Due:=by rw[T];exact Qi (by omega)<|by omega
  have e4:Qz (BB L.duties)=b.Paid:=by rw[<-e.ds.pays];exact Qi (by omega)<|by omega
  have t1:JL b.Due=some (WW b.Due):=OB (by omega) (by omega);have t2:JL b.Paid=some (WW b.Paid):=OB S (by omega);have l1:=FH b.Due;have l2:=FH b.Paid;simp only[Y,Z,e3,e4,hW,B3,t1,t2,K1];rw[Ut (by simp;omega),K1,Ut (by simp;omega),K1,Ut (by simp;omega),K1];simp only[hW,K1,rW,hR V,B3,Mu];exact⟨_,rfl⟩
end
section
open Go.Dec Go.Shelf Go.RowKit Go.Maps Go.Sort Go.ChangeShapes Go.WideShapes Go.ChangeAt
theorem Tryz.own:ownKnob Tryz.prog.godebug=none:=by kernel_rfl
theorem Tryz.laidOut:laidOutB Tryz.prog=true:=by kernel_rfl
theorem qz{α:Type}{a:S1 α}{l:Q0 α}(h:a.toList=l):a=l.toArray:=by rw[<-h]
theorem fz:Tryz.prog.globalNamed "internal/strconv.uint64pow10"=some 1:=by kernel_rfl
theorem dv:(Tryz.prog.globals[1]?).map (·.type)=some 307:=by kernel_rfl
theorem xc:Tryz.prog.cellsOf 263=1:=by kernel_rfl
theorem u7:Tryz.prog.cellsOf 307=20:=by kernel_rfl
theorem vr:(Rows.laid_internal_strconv_uint64pow10:DataW Unit)=Go.Lib.tabData .u64 Go.Lib.pow10Tab:=by kernel_rfl
theorem jH:((begin Tryz.prog (λ_ _=>0) default).world.heap[0]?).bind Obj.row? =some (#[.int .i64 0],3):=by kernel_rfl
theorem kF{W:B1}(h:laidMetH Tryz.prog Rows.officeDueRow.laid W):laidMet Tryz.prog Rows.officeDueRow.laid W:=by
 rwa[iC _ _ _<|by kernel_rfl] at h
set_option maxRecDepth 100000 in
theorem wg{W:B1}(h:laidMetH Tryz.prog Rows.officeDueRow.laid W)(a:W.ShapedOpen Tryz.prog):X8 (FW W):=by
 obtain⟨ps,c,_,_⟩:=kF h;refine⟨?_,?_⟩
 ·obtain⟨g,t,cs,b,p,T,fr,d,e,f,i⟩:=jK 2 rfl c;obtain rfl:=PP<|fz.symm.trans d;obtain rfl:=PP<|dv.symm.trans e;have j:=Go.Lib.cells_of_tab Tryz.underlying307 Tryz.underlying263 xc u7 (by rw[<-vr];exact i);exact⟨1,T,fr,fz,by rw[show(FW W).mem 1=W.heap[1]? from rfl,f,qz j];rfl⟩
 ·obtain⟨m,k⟩:=od (P:=Tryz.prog) (g:=0) (t:=3) (zero:=#[.int .i64 0]) a (lv<|by kernel_rfl) jH rfl (by kernel_rfl) (by kernel_rfl) Tryz.underlying3;obtain⟨T,fr,l⟩:=MQ a (lv<|by kernel_rfl) jH rfl k;exact⟨m,T,fr,l⟩
end
section
open Go.Dec
open Go.ChangeShapes Go.WideShapes Go.ChangeAt Go.RowKit
def FE:Prop:=∀(a0:(Q0<|Q0 DO)) (a:Int),(∀y∈a0,y.length<=140737488351232)->(Lit.int .u16 a).wf=true->Vp a0 a=some true
set_option maxRecDepth 100000 in
theorem PY(d:FE)(os:Os)(started:os.Started)(H:Type)(enc:A4×K2->H):ReturnsInHanded {} Tryz.checked os 4 .any (λw args=>(Rows.officeDueSpec.pre enc Tryz.prog Tryz.f4 Rows.officeDueRow.domain false w args/\laidMetH Tryz.prog Rows.officeDueRow.laid w)/\sizedMet enc Tryz.prog Tryz.f4 (OpenSpec.ofChange Rows.officeDueSpec) false w args) (Rows.officeDueSpec.post enc Tryz.prog Tryz.f4 false true false false):=by
 refine kE (C:=Tryz.checked) (X:=λw=>laidMetH Tryz.prog Rows.officeDueRow.laid w) (λ_ _ j h=>h.of_heap j) Tryz.own started (by kernel_rfl) Tryz.func4
  (ChangeSpec.witness_shaped (enc:=enc) (C:=Tryz.checked) (os:=os) (X:=λw _=>laidMetH Tryz.prog Rows.officeDueRow.laid w) false (World.laidAll Tryz.prog os Rows.officeDueRow.laid) #[.slice none 0 0,.int .u16 0] 12 (World.laidAll_os _ _ _) (World.shaped_of_ZipB (by kernel_rfl)<|by kernel_rfl) (by kernel_rfl) (by kernel_rfl) (by kernel_rfl)
   (by rw[iC _ _ _<|by kernel_rfl];exact laidMet_laidAll _ (by kernel_rfl)<|by kernel_rfl)) ?_
 intro W base args ds k before a l e m n;have o:X8 (FW W):=wg m e;refine LM (P:=Tryz.prog) Tryz.laidOut (by kernel_rfl) rfl (by kernel_rfl) (by kernel_rfl:Tryz.f4.resultTypes=#[4]) Tryz.underlying4 (λds h=> ?_) base args ds k before (λps a c b=> ?_) a l n
 ·match ds,h with
  | [p,q],_=>rfl
 ·rw[Tryz.params4] at c a b
  obtain⟨v0,F,p,_,_,_,r,rfl,_,s,c⟩:=trodAll_cons c;have t:=TS b
  replace b:=TR b
  obtain⟨v1,G,q,_,_,_,u,rfl,_,v,c⟩:=trodAll_cons c;have I:=TS b
  replace b:=TR b
  obtain⟨x,_,_⟩:=trodAll_nil c;subst x u;obtain rfl:args=[v0,v1].toArray:=by rw[<-r]
  obtain⟨f,y,z,A,rfl,B⟩:=xe Tryz.underlying22 Tryz.underlying9 (by kernel_rfl) (a 0 _ _ rfl rfl) s t;obtain⟨g,D,rfl⟩:=fD Tryz.underlying58 (a 1 _ _ rfl rfl) v;have E:=d f g A D;have i:=Dl (FW W) o f y z B g;rw[E] at i
  exact i
theorem Nh(a:FE):Rows.OfficeDueSaid:=
 OpenClaim.holds_of_wide 4 Tryz.f4 rfl rfl rfl rfl rfl rfl rfl ⟨rfl,rfl,rfl,rfl,rfl⟩ rfl rfl rfl rfl rfl (by kernel_rfl) Tryz.func4 (by kernel_rfl)
  (lv<|by kernel_rfl) (by unfold Func.isWrapper;first | (rw[Bm<|by decide+kernel];kernel_rfl) | (rw[B2<|by decide+kernel];exact⟨rfl,rfl⟩))
  (λos started H enc _=>PY a os started H enc)
theorem Mi(b:FE):Rows.OfficeDueCardSaid:=
 Claim7.holds_tied_plain_at .later [] [.data,.data,.data] true (true, "deaf544e630a44e551739120c978b8740a1d5a7896cd59f4940acf0dc5c8cd72") true (Nh b) (λ_ h=>by cases h) (by kernel_rfl) (λ_ h=>by cases h) officeDue_row_tie rfl ⟨rfl,rfl⟩ (by kernel_rfl) rfl
  (λf fn e c=>by
   obtain rfl:f=4:=PP ((show Tryz.prog.funcNamed "wormtub/wormtublaw15.OfficeDue"=some 4 by kernel_rfl).symm.trans e) |>.symm;obtain rfl:fn=Tryz.f4:=(PP<|Tryz.func4.symm.trans c).symm
   exact⟨by kernel_rfl,λj t g=>by
    have a:(Tryz.f4.params.toList.all λu=> !Tryz.prog.wantsStandIn u)=true:=by kernel_rfl
    have d:=Array.mem_of_getElem? g;exact(show Tryz.prog.wantsStandIn t=false by first | (simp at d;done) | simpa using List.all_eq_true.1 a t (by simpa using d))⟩)
  (by kernel_rfl)
end
section
theorem LN:FE:=λl each h a=>uh l each h a
theorem officeDue_holds:Rows.OfficeDueCardSaid:=Mi LN
end
end Go.Proofs.YtbjgigfhnlnbfaaGreatDoor
end
