/- OfficeBonds is true whatever its inputs are: no condition but the row's own. -/
import Derived.Test.YtdoocboganbagaaGreatDoorPb10
import Derived.Test.YtdoocboganbagaaGreatDoorTie
import Derived.Test.YtdoocboganbagaaGreatDoorCards
import Derived.ChangeMaps5
noncomputable section
namespace Go.Dec
abbrev ia:=@MakeChecks.laidMetH_plain
end Go.Dec
section
set_option maxRecDepth 100000
set_option maxHeartbeats 4000000
namespace Go.Proofs.YtdoocboganbagaaGreatDoor
open Go.Dec Go.Proofs.Tryz Go.Shelf Go.RowKit Go.Maps Go.Sort
theorem _root_.Go.Dec.KJ.nD{α α' β β' :Type}{P:B3}{f:Rw}{args:So UV}{F0:Fz}{m:K1 β}{ρ:β'->Fz->UV->Prop}{C:Nat->Nat->Fz->Nat->α->HP}{C' :Nat->Nat->Fz->Nat->α'->HP}{c:Nat->Nat->β->Fz->Q0 HP}{g:β->β'}
  (h:∀γ γ' F,F0<=F->Xs P f args F [ZD γ (C γ γ') F [],ZD γ' (C' γ γ') F []] m (λr F v=>ρ (g r) F v) (c γ γ')):KJ P f args F0 (m.map g) ρ:=by
 intro r a w R i;obtain⟨x,j,rfl⟩:=mY.1 a;obtain⟨le,n⟩:=i.sa;obtain⟨b,o⟩:=n.sa;have d:∀{α:Type} {γ:Nat} {C:Fz->Nat->α->HP} {F:Fz} {m:Mem},yQ γ [] m->ZD γ C F [] m:=fun{α γ C F m} a=>⟨[],rfl,m,λ_=>none,λ_=>.inr rfl,Mem.sub.refl _,λ_ _ e=>by simp at e,a,trivial⟩
 refine(h F0.gn F0.rD.gn _ (Fz.le_trans le b) x j w R<|o.mono λm a=> ?_).mono λe w' ⟨p,v,l,e,hρ,q⟩=>⟨p,v,Fz.le_trans (Fz.le_trans le b) l,e,hρ,q.drop⟩;refine XM<|Yx (l:=[_,_]) (k:=[R]) ?_;exact QR (λ_ h=>QP (λ_ h=>d h)<|QR (λ_ h=>Jy h) h)<|QP (λ_ h=>d h)<|Zj a
theorem _root_.Go.Dec.GG.mN{g:Gp}{α β:Type}{m:K1 β}{r:β}{n:Nat}{D:Q0 AC}{S:Q0 (Nat×UV)}{F F0:Fz}{hs:Q0 HP}{T:S1}{c:Uo α}{b:Nat}{x:α}(le:F0<=F)
  (k:∀vs,c F x vs->GG g (Hd n D S F<|pc b vs T::hs) m r):GG g (Hd n D S F<|Uy T c F0 b x::hs) m r:=
 GG.sM 0 (p' :=wO (λvs=>c F x vs) λvs=>[pc b vs T]) (λ_ ⟨vs,h,a⟩=>⟨vs,h F le,Jy a⟩) J (GG.ad 0 J λvs h=>k vs h)
def Xg(d:Qs)(a:Int×Qd):K1 (UQ (Int×Qd) Qd):=if(decide<|(Q8<|a.1+1) < (d.N.length:Int)) then((ZX d.N a.1).bind λe=>(ZX d.N<|Q8<|a.1+1).bind λf=>(VU a.2.rules.Rates<|[(Zc.mk e f)]).bind λb=>QS (Q8<|a.1+2) λc=>some<|.next (c,(Qd.mk a.2.day a.2.ruled<|{a.2.rules with Rates:=b}))) else(some<|.done a.2)
def Zn(A1:Q0 Qd)(j:K1 Nat)(a:Qs):K1 (Q0 Qd):=j.bind λi=>(A1[i]?).bind λx=>((if(a.Word==([100,97,121]:Q0 H1)) then((ZX a.N 0).bind λe=>some<|Qd.mk e x.ruled x.rules) else(if(a.Word==([114,117,108,101,115]:Q0 H1)) then((ZX a.N 0).bind λf=>(ZX a.N 1).bind λg=>(ZX a.N 2).bind λh=>(ZU (Xg a) (3,(Qd.mk x.day true<|Qk.mk ([]) f g h))).bind λb=>some b) else(some x)):K1 (Qd)).bind λc=>some c:K1 (Qd)).bind λd=>some<|A1.set i d
theorem Dr(F0:Fz)(U:Jl)(A1:Q0 Qd)(w2:K1 Nat)(q:K1 C3)(_u:Unit)(hq:ZP U.g31 F0 q w2)(p3:Qs)(p4:K1 C3)(k5:Nat)(h6:QG 1 (Ex<|Zy .i64) F0 p4 k5 p3.N):Xs prog 9 #[.pointer q,(Xy p3 p4 k5)] F0 [Hr U F0 A1] (Zn A1 w2 p3) (λ_ _ v=>v= .tuple #[]) (λr F' =>[Hr U F' r]):=by
 refine Xs.enter func9 J ntmps9 J λr R=> ?_;refine .o (Sub.refl _) (J:_=[Hr U F0 A1,R]) ?_;unfold Zn;refine .d λi e=>.d λx ex=> ?_;obtain⟨b,hb,rfl⟩:=hq.at e;have hi:i < A1.length:=(DO.1 ex).1;refine .sw 0 J hb ex<|.mN Fz.r λvs ⟨p,k,a1,hr⟩=> ?_;subst a1;generalize hH:hole U.g31 (xt U) F0 i b A1=H;refine .o (Sub.refl _) (J:_=[pc b (KW x p k) 31,H,R]) ?_;refine .q<|.g<|.cV (cs:=(Qj p3 p4 k5)) J J J λb7 T S y=>.n<|.c<|.q<|.g<|.f J zP J W9 J<|.U J V9 J y J<|.n<|.c<|.keep (.p [0,3,6] J) ?_;refine GG.cr (σ:=Qd) (λV a w=>∃(D:Fz),T<=D/\Hd 68 [] [] D [xt U D b V,H,R] a w) (λsj=> ?_) λV a7=>GG.ex λa w ⟨D,W,Z⟩=>⟨_,Z,?_⟩
 ·refine .k<|.q<|.g<|.sH J U9 J J<|.s J J<|.n<|.c<|.keep (.p [0,3,6,7] J) ?_;refine GG.cr (σ:=Qd) (λX a w=>∃(z:Fz),T<=z/\Hd 68 [] [] z [xt U z b X,H,R] a w) (λsj=> ?_) λX a7=>GG.ex λa w ⟨z,aH,Z⟩=>⟨_,Z,?_⟩
  ·refine .i J (λaI=> ?_) λaI=> ?_
   ·refine .g (.m J J<|.f J zP J wC J<|.U J vE J y J<|.idx J UA W3 (h6.mono S) J J λaJ bf bg bh bK bL bj aK aL=>.U J V3 J aK (QI (k:=0) aL J)<|.nilCheck J J<|.f J xl J W3 J<|.store (cs' :=(KW (Qd.mk aJ x.ruled x.rules) p k)) W3 J J J J (i:=0) J (JK J) J x0<|.n<|.sM 0 (p' :=xt U T b<|Qd.mk aJ x.ruled x.rules) (λ_ hm=>⟨_,λ_ l=>⟨p,k,J,hr.mono<|Fz.t S l⟩,hm⟩) J ?_);exact .cK λe a w h=>by cases e;exact⟨J,⟨T,Fz.r,h.1.sub<|.k J,h.2⟩⟩
   ·refine .q<|.g<|.sH J U9 J J<|.s J J<|.n<|.c<|.i J (λaM=> ?_) λaM=> ?_
    ·refine .q (.g<|.m J J<|.nilCheck J J<|.f J xl J W4 J<|.store (cs' :=(KW (Qd.mk x.day true x.rules) p k)) W4 J J J J (i:=0) J (JK J) J x0<|.n<|.c<|.q<|.keep (.p [0,3] J)<|.cS 16 Qb x0<|.m J J<|.f J zP J wC J<|.U J vE J y J<|.idx J UA W3 (h6.mono S) J J λaN bk bl bm bM bN bn aO aP=>.U J V3 J aO (QI (k:=0) aP J)<|.f J zP J wC J<|.U J vE J y J<|.idx J UA W3 (h6.mono S) J J λaQ bo bp bq bO bP br aR aS=>.U J V3 J aR (QI (k:=0) aS J)<|.f J zP J wC J<|.U J vE J y J<|.idx J UA W3 (h6.mono S) J J λaU bt bu bw bQ bR bx aV aW=>.U J V3 J aV (QI (k:=0) aW J) ?_);refine .build (cs:=(ZI (Qk.mk ([]) aN aQ aU) none 0).toArray) J E6 bC (C9 _ E6) J J x0<|.nilCheck J J<|.f J xl J Mx J<|.cc<|.store (cs' :=(KW (Qd.mk x.day true<|Qk.mk ([]) aN aQ aU) none 0)) Mx J J J J (i:=0) J (JK J) J x0<|.n<|.c6 2 (Ex Q6) 93<|.c<|.q<|.g<|.s J J<|.n<|.c<|.k<|.keep (.p [0,3,4] J)<|.loop (fun(u:Int×Qd) a w=>∃(K:Fz) (p:K1 C3) (k:Nat),T<=K/\Hd 68 [] [(0,(vP b 0)),(3,(vP b7 0)),(4,(vI u.1))] K [pc b (KW u.2 p k) 31,Ql 2 (Ex Q6) K 93 p k u.2.rules.Rates,H,R] a w) (λE e a w=>e= .exit 1/\∃(F:Fz) (p:K1 C3) (k:Nat),T<=F/\Hd 68 [] [] F [pc b (KW E p k) 31,Ql 2 (Ex Q6) F 93 p k E.rules.Rates,H,R] a w) ?_ ?_ ?_
     ·exact λa w h=>⟨T,none,0,Fz.r,h.1.sub<|.k J,h.2.mono λ_ hm=>Yw (ks:=[1,0,0,0]) hm⟩
     ·intro u bz;refine GG.ex λa w ⟨K,M,P,A,Z⟩=>⟨_,Z,?_⟩;unfold Xg;refine .q<|.q<|.g<|.m J J<|.add J J J<|.f J zP J wC J<|.U J vE J (A.mem _ _ y) J<|.cm J J UA J<|.lss J J J<|.n<|.c<|.i J (λaX=> ?_) λaX=> ?_
      ·refine .skip<|.c<|.q<|.k<|.keep (.p [0,3,4] J)<|.d λB a8=> ?_;obtain⟨bA,bB,b0,bS,bT,aY,aZ,aa⟩:=QG.sv (h6.mono<|Fz.t S A) a8;refine .d λC bD=> ?_;obtain⟨bE,bF,b1,bU,bV,ab,ad,ae⟩:=QG.sv (h6.mono<|Fz.t S A) bD;refine .d λI aB=>.dG 20 0 (λj=>[vT<|vP b 0,vT<|vP b 0,vT<|vP b 0,vT<|vP b<|0+2,vT<|vP b<|0+2+0,vT<|vS M u.2.rules.Rates P,vT<|vP b7<|0+1,vT<|vS p4 p3.N k5,vT<|vI u.1,vT<|vP bA bB,vT<|vI B,vT<|vP b7<|0+1,vT<|vS p4 p3.N k5,vT<|vI u.1,vT<|vI<|Q8<|u.1+1,vT<|vP bE bF,vT<|vI C,vT<|Tx<|Zc.mk B C,((.slice (some ⟨j.n 180,0,none⟩) ([(Zc.mk B C)]).length 1),λG=>QG 2 (Ex Q6) G (some ⟨j.n 180,0,none⟩) 1<|[(Zc.mk B C)]),((vS (j.a 190) I<|j.n 190),λG=>j.f 190<=G)]) (λL j=>[pc b (KW u.2 M P) 31,(bif L 19 then(Ql 2 (Ex Q6) (j.f 190) 93 (j.a 190) (j.n 190) I) else(Ql 2 (Ex Q6) K 93 M P u.2.rules.Rates)),H,R]) Qb x0 (λ_=>J) (λ_=>J) ?_ λj af ag Q=> ?_
       ·refine .b (λ_ _ _ _=>.m J J<|.cy J J Fz.r)<|.b (λ_ _ _ _=>.m J J<|.cy J J Fz.r)<|.b (λ_ _ _ _=>.nilCheck J J<|.cy J J Fz.r)<|.b (λ_ _ _ _=>.f J xl J Mx J<|.cy J J Fz.r)<|.b (λ_ _ _ _=>.f J E6 J vD J<|.cy J J Fz.r)<|.b (λ_ _ _ _=>.cC J gN J (i:=0) J J<|.cy J J Fz.r)<|.b (λ_ _ _ _=>.f J zP J wC J<|.cy J J Fz.r)<|.b (λ_ _ _ ah=>.U J vE J ((Fz.t A ah).mem _ _ y) J<|.cy J J Fz.r)<|.b (λ_ _ _ _=>.m J J<|.cy J J Fz.r)<|.b (λ_ _ _ _=>.se J UA W3 aa J J<|.cy J J Fz.r)<|.b (λ_ _ _ ai=>.U J V3 J (ai.mem _ _ aY) (QI (k:=0) aZ J)<|.cy J J Fz.r)<|.b (λ_ _ _ _=>.f J zP J wC J<|.cy J J Fz.r)<|.b (λ_ _ _ aj=>.U J vE J ((Fz.t A aj).mem _ _ y) J<|.cy J J Fz.r)<|.b (λ_ _ _ _=>.m J J<|.cy J J Fz.r)<|.b (λ_ _ _ _=>.add J J J<|.cy J J Fz.r)<|.b (λ_ _ _ _=>.se J UA W3 ae J J<|.cy J J Fz.r) ?_;refine .b (λ_ _ _ ak=>.U J V3 J (ak.mem _ _ ab) (QI (k:=0) ad J)<|.cy J J Fz.r)<|.b (λ_ _ _ _=>.build (cs:=(Q6<|Zc.mk B C).toArray) J wH dB (Ab _ wH) J J x0<|.cy J J Fz.r)<|.a (λL j _ _ _ _ al _=> ?_) ?_
        ·refine .cX (cs:=((Q6<|Zc.mk B C))) (zc:=((Q6<|Zc.mk 0 0))) J y6 gK dB J J J x0 x0 λY an ao aC=> ?_;have aq:QG 2 (Ex Q6) an (some ⟨Y,0,none⟩) 1 ([(Zc.mk B C)]):=QG.ofRow aC (.cons Oo.mono J .nil) J J;exact .ct ({j with a:=j.a,n:=(ZB j.n 180 Y),c:=j.c,o:=j.o}) [true,true,true,true,true,true,true,true,true,true,true,true,true,true,true,true,true,true,false,false] J x0 J J ao (λ_ le=>aq.mono le)<|QC J<|QC ((Z0 (b:=Kb L 18 19)<|al 1 19 J).trans (Z0<|al 1 19 J).symm)<|QC J<|QC J J
        refine .a (λ_ j ar au hL bG _ Q=> ?_) ?_
        ·have av:=Q 18 _ (bG 1 18 J) J _ Fz.r;refine .aM aB 1 Oo au J y6 y6 J J (congrArg some<|Z0 hL) av J J λaw ax=> ?_;exact .ct ({j with a:=ZB j.a 190 aw,n:=ZB j.n 190 ax,f:=ZB j.f 190 ar}) [true,true,true,true,true,true,true,true,true,true,true,true,true,true,true,true,true,true,true,false] J x0 J J Fz.r (λ_ le=>le)<|QC J<|QC (JF J)<|QC J<|QC J J
        exact .nil
       have ay:=Q 19 _ J;refine .o (.p [0,3,4,45,46,47,48,49,50,51,52,53,54,55,56,57,58,59,60,61,62,63,64] J) (J:_=[pc b (KW u.2 M P) 31,Ql 2 (Ex Q6) (j.f 190) 93 (j.a 190) (j.n 190) I,H,R]) (.nilCheck J J<|.f J xl J Mx J<|.f J E6 J vD J<|.store (cs' :=(KW (Qd.mk u.2.day u.2.ruled<|{u.2.rules with Rates:=I}) (j.a 190)<|j.n 190)) vD J J J J (i:=0) J (JK J) J x0<|.n<|.sM 1 (λ_ h=>WB ay h) J<|.k<|.c<|.g<|.m J J<|.add J J J<|.cR J J λbW bX=>.n ?_);exact .cK<|Q7.norm λa w h=>⟨af,_,_,(Fz.t A ag),h.1.sub<|.k J,h.2⟩
      ·refine .cO J<|Q7.exit λa w h=>⟨J,K,M,P,A,h.1.sub<|.k J,h.2⟩
     ·intro E b3 hk e a w hD;obtain⟨rfl,F,p,k,az,Z⟩:=hD;refine ZE J<|GG.app ?_ hk a w Z;refine .cZ 1 J Fz.r λF1 l1 h1=>.sM 0 (p' :=xt U F1 b E) (λ_ hm=>⟨_,λ_ l=>⟨p,k,J,h1.mono l⟩,hm⟩) J ?_;exact .cK λe a w h=>by cases e;exact⟨J,⟨F1,Fz.t az l1,h.1.sub<|.k J,h.2⟩⟩
    ·refine .skip<|.sM 0 (p' :=xt U T b x) (λ_ hm=>⟨_,λ_ l=>⟨p,k,J,hr.mono<|Fz.t S l⟩,hm⟩) J ?_;exact .cK λe a w h=>by cases e;exact⟨J,⟨T,Fz.r,h.1.sub<|.k J,h.2⟩⟩
  refine .k ?_;exact .cK λe a w h=>by cases e;exact⟨J,⟨z,aH,h.1.sub<|.k J,h.2⟩⟩
 subst hH;refine .aV (Xn U) (Fz.t S W) hi (λ_ h=>h) ?_;exact .aW [0,0] results9 (.nil) J (Fz.t S W) J
end Go.Proofs.YtdoocboganbagaaGreatDoor
end
namespace Go.Proofs.YtdoocboganbagaaGreatDoor
section
open Go.Dec Go.Proofs.Tryz Go.Shelf Go.RowKit Go.Maps Go.Sort
set_option maxRecDepth 100000
set_option maxHeartbeats 4000000
def Zz(A2:Q0 Qd)(d:(Q0<|Q0 H1))(e:ON×(Q0 Qu))(a:Int×(Q0 Qu)×(Q0 Qd)):K1 (UQ (Int×(Q0 Qu)×(Q0 Qd))<|((Q0 Qu)×(Q0 Qd)) ⊕ (Bool×(Q0 Qu)×(Q0 Qd))):=if(decide<|a.1 < (d.length:Int)) then((ZX d a.1).bind λf=>(Yc f).bind λc=>(ZX d a.1).bind λg=>(XV a.2.1 e.1 g).bind λb=>if((b.2.1==0)&&(!c.2)) then(some<|.done<|.inr (false,b.2.2,a.2.2)) else((if(b.2.1==0) then((Zn a.2.2 (some A2.length) c.1).bind λh=>some h) else(some a.2.2):K1 ((Q0 Qd))).bind λi=>QS (Q8<|a.1+1) λj=>some<|.next (j,b.2.2,i))) else(some<|.done<|.inl (a.2.1,a.2.2))
def Ke(j:ON×(Q0 Qu))(k:(Q0 Qu)×(Q0 Qd))(e:((Q0 ZR)×Int×Int))(a:Int×Int×(Nat->Int)):K1 (UQ (Int×Int×(Nat->Int))<|(Int×(Nat->Int)) ⊕ (Bool)):=if(decide<|a.2.1 < (e.1.length:Int)) then((ZX e.1 a.2.1).bind λb=>(Vx k.1 j.1 b.Number).bind λc=>if((((decide<|c < 0)||(decide<|c > b.Amount))||(decide<|b.Place < 0))||(decide<|b.Place≥8)) then(some<|.done<|.inr false) else((Yu 16 b.Place).bind λf=>(Yu 16 b.Place).bind λg=>QS (ZB a.2.2 g<|Q8<|(a.2.2 f)+c) λh=>QS (Q8<|a.1+c) λd=>QS (Q8<|a.2.1+1) λi=>some<|.next (d,i,h))) else(some<|.done<|.inl (a.1,a.2.2))
def JY(A1:Q0 Qu)(A2:Q0 Qd)(t:(Q0<|Q0 H1)):K1 (Bool×(Q0 Qu)×(Q0 Qd)):=(Ud t).bind λu=>if(!u) then(Ug.bind λn=>some (n,A1,A2)) else((Hg A1).bind λc=>if(c.1).isNone then(some (false,c.2,A2)) else(QS (Qd.mk 0 false<|Qk.mk ([]) 0 0 0) λo=>QS (A2++[o]) λp=>(ZU (Zz A2 t c) (0,c.2,p)).bind λq=>match q with | .inl a=>((a.2[A2.length]?).bind λe=>if(!e.ruled) then((JS a.1 c.1).bind λr=>(if((r.length:Int)==0) then((JA a.1 c.1).bind λs=>some<|(s.length:Int)==0) else some false).bind λg=>(if g then(Ug.bind λh=>some h) else some false).bind λi=>some (i,a.1,a.2)) else((JS a.1 c.1).bind λj=>(HR j e.day).bind λf=>(JA a.1 c.1).bind λk=>(WQ e.rules k e.day).bind λb=>if((f.2.2 != 0)||(b.2.2 != 0)) then(some (false,a.1,a.2)) else((ZU (Ke c a f) (0,0,(fun(_:Nat)=>(0:Int)))).bind λq=>match q with | .inl d=>((if(((((((Cb b.1.Bonds d.2)&&(b.1.Made==(Q8<|d.1+b.1.Used)))&&(b.1.Found==0))&&(b.1.Lost==0))&&(b.1.Charged==0))&&(b.1.Exported==0))&&((b.1.Moving.length:Int)==0)) then(Ug.bind λl=>some l) else some false).bind λm=>some (m,a.1,a.2)) | .inr d=>(some (d,a.1,a.2))))) | .inr a=>(some (a.1,a.2.1,a.2.2))))
theorem FL(F0:Fz)(hT:HB F0)(U:Jl)(A1:Q0 Qu)(A2:Q0 Qd)(l3:(Q0<|Q0 H1))(p4:K1 C3)(k5:Nat)(h6:QG 1 (Ex AR) F0 p4 k5 l3):Xs prog 3 #[(vS p4 l3 k5)] F0 [V8 U F0 A1,Hr U F0 A2] (JY A1 A2 l3) (λr _ v=>v=(.bool r.1)) (λr F' =>[V8 U F' r.2.1,Hr U F' r.2.2]):=by
 refine Xs.enter func3 J ntmps3 J λr R=>(.o (Sub.refl _) (J:_=[V8 U F0 A1,Hr U F0 A2,R]) ?_);unfold JY;refine .w 9<|.cM J call4 J J J (TJ _ l3 p4 k5 h6)<|K8 λr9 F7 _ l8=>.w 3<|.i J (λb2=> ?_) λb2=> ?_
 ·exact .w 2<|.cM J call5 J J J (DE _<|hT.mono l8)<|K8 λeB eC _ be=>.w 3<|.cQ 0 (Jk U) (Fz.t l8 be) J<|.cQ 1 (Xn U) (Fz.t l8 be) J<|.sX [0,0,0] results3 (.tmp J<|.nil) J (Fz.t l8 be) J
 ·refine .w 4<|.cQ 0 (Jk U) l8 J<|.cg [0] J call6 J J J J (T7 _ U A1) ?_;rintro ad cu _ eD P ⟨aB,bA,rfl,ae⟩;refine .pick [0,0,0] (J:_=[V8 U cu ad.2,Hr U F0 A2,R])<|.w 7<|.sB ae J dQ J J<|.w 2<|.i J (λb3=> ?_) λb3=> ?_
  ·exact .w 5<|.cQ 1 (Xn U) (Fz.t l8 P) J<|.sX [0,0,0] results3 (.tmp J<|.nil) J (Fz.t l8 P) J
  ·refine .w 4 (.l (cs:=(KW (Qd.mk 0 false<|Qk.mk ([]) 0 0 0) none 0)) J bu J λaf=>.cH λeE cv=>.cH λeF cw=>.sU 0 1 J J (Xn U) (Fz.t l8 P) (λG m l hm=>⟨_,λG' l' =>by subst cv;exact⟨none,0,J,((QG.nil.mono<|Fz.t l8 P)).mono<|Fz.t l l'⟩,hm⟩) cw λbP H aU=>.w 9<|.keep (.p [0,3,4,5] J)<|.cQ 0 (Jk U) H J<|.loop (fun(aV:Int×(Q0 Qu)×(Q0 Qd)) a w=>∃(ag:Fz),bP<=ag/\Hd 189 [] [(0,(vS p4 l3 k5)),(3,(.pointer aB)),(4,(vP af 0)),(5,(vI aV.1))] ag [V8 U ag aV.2.1,Hr U ag aV.2.2,R] a w) (λb0 e a w=>match b0 with | .inl z=>e= .exit 0/\∃(E:Fz),bP<=E/\Hd 189 [] [(3,(.pointer aB)),(4,(vP af 0))] E [V8 U E z.1,Hr U E z.2,R] a w | .inr z=>e= .ret/\∃(bD:Fz),bP<=bD/\Hd 189 [] [(2,(.bool z.1))] bD [V8 U bD z.2.1,Hr U bD z.2.2,R] a w) ?_ ?_ ?_)
   ·exact λa w h=>⟨bP,Fz.r,h.1.sub<|.k J,h.2⟩
   ·intro aV cy;refine GG.ex λa w ⟨ag,aW,hA⟩=>⟨_,hA,?_⟩;unfold Zz;refine .w 5<|.cm J J vH J<|.w 3<|.i J (λb4=> ?_) λb4=> ?_
    ·refine .w 8<|.idx J vH W9 (h6.mono<|Fz.t l8<|Fz.t P<|Fz.t H aW) J J λcz eH eI eJ dD dE eK b5 b6=>.U J V9 J b5 (QI (k:=0) b6 J)<|.cM J call7 J J J (SV _ cz) ?_;rintro ai eL _ - aI ⟨bB,bC,rfl,c0⟩;refine .w 3<|.l (cs:=(Qj (Qs.mk ([])<|[]) none 0)) J dC J λbf=>.store (cs' :=(Qj ai.1 bB bC)) gM J J J J (i:=0) J (JK J) J (QY iO)<|.w 8<|.idx J vH W9 (h6.mono<|Fz.t l8<|Fz.t P<|Fz.t H<|Fz.t aW aI) J J λc1 eM eN eO dF dH eP b7 b8=>.U J V9 J b7 (QI (k:=0) b8 J)<|.cQ 1 (Jk U) aI J<|.cg [1] J call8 J J J J (Rl _ (hT.mono<|Fz.t l8<|Fz.t P<|Fz.t H<|Fz.t aW aI) U aV.2.1 ad.1 aB bA (ae.mono<|Fz.t H<|Fz.t aW aI) c1)<|K8 λbQ bg eQ aj=>.pick [1,0,0,0] (J:_=[pc bf (Qj ai.1 bB bC) 34,V8 U bg bQ.2.2,Hr U ag aV.2.2,R])<|.w 6<|.keep (.p [0,3,4,5,6,7,9] J)<|.w 7<|.cn (b:=(bQ.2.1==0)) (b' :=(!ai.2)) 3 56 J (λbE=> ?_) λbj aM=> ?_
     ·exact .cD bE J J<|.m J J<|.cD bE J J<|.not J J<|.cE bE J J J<|.fi Fz.r
     refine .w 2<|.i J (λb9=> ?_) λb9=> ?_
     ·refine .w 5<|.drop 0<|.cQ 0 (Jk U) aM J<|.cQ 1 (Xn U) (Fz.t aI<|Fz.t aj aM) J<|.cw<|Q7.ret λa w h=>⟨J,bj,(Fz.t aW<|Fz.t aI<|Fz.t aj aM),h.1.sub<|.k J,h.2⟩
     ·refine .w 8<|.keep (.p [0,3,4,5,6,58] J)<|GG.cr (σ:=(Q0 Qd)) (λcA a w=>∃(bF:Fz),bj<=bF/\Hd 189 [] [(0,(vS p4 l3 k5)),(3,(.pointer aB)),(4,(vP af 0)),(5,(vI aV.1))] bF [pc bf (Qj ai.1 bB bC) 34,V8 U bg bQ.2.2,Hr U bF cA,R] a w) (λsj=> ?_) λcA eR=>GG.ex λa w ⟨bF,cB,hA⟩=>⟨_,hA,?_⟩
      ·refine .i J (λcC=> ?_) λcC=> ?_
       ·exact .g<|.cP J dt gM J (i:=0) J (vs:=(Qj ai.1 bB bC)) x0 J<|.cQ 2 (Xn U) (Fz.t aI<|Fz.t aj aM) J<|.cg [2] J call9 J J J J (Dr _ U aV.2.2 (some A2.length) (some ⟨af,0,none⟩) () ((ZP.of aU).mono<|Fz.t aW<|Fz.t aI<|Fz.t aj aM) ai.1 bB bC<|c0.mono<|Fz.t aj aM)<|K8 λc2 cD eS c3=>.pick [1,1,0,0] (J:_=[pc bf (Qj ai.1 bB bC) 34,V8 U bg bQ.2.2,Hr U cD c2,R])<|.n (.cK λe a w h=>by cases e;exact⟨J,⟨cD,c3,h.1.sub<|.k J,h.2⟩⟩)
       ·exact .skip<|.cQ 2 (Xn U) (Fz.t aI<|Fz.t aj aM) J (.cK λe a w h=>by cases e;exact⟨J,⟨bj,Fz.r,h.1.sub<|.k J,h.2⟩⟩)
      exact .w 5<|.cR J J λeT eU=>.n<|.drop 0<|.cQ 0 (Jk U) (Fz.t aM cB) J<|.cK<|Q7.norm λa w h=>⟨bF,(Fz.t aW<|Fz.t aI<|Fz.t aj<|Fz.t aM cB),h.1.sub<|.k J,h.2⟩
    ·refine .cO J<|Q7.exit λa w h=>⟨J,ag,aW,h.1.sub<|.k J,h.2⟩
   ·intro z c4 hk e a w hD;rcases z with z | z
    ·obtain⟨rfl,E,N,hA⟩:=hD;refine ZE J<|GG.app ?_ hk a w hA;refine .w 4 (.f J xl J W4 J<|.d λaC bR=>.cG (Φ:=λv=>v=(.bool aC.ruled)) 1 J Fz.r (aU.mono N) bR J V4 J (λvs ⟨q0,q1,h,r0⟩=>⟨_,by subst h;exact J,J⟩) λv hv=> ?_);subst hv;refine .w 3<|.i J (λcG=> ?_) λcG=> ?_
     ·refine .w 3<|.cg [0] J call10 J J J J (H0 _ U z.1 ad.1 aB bA<|ae.mono<|Fz.t H N) ?_;rintro c5 c6 _ eV bG ⟨eW,eX,rfl,eY⟩;refine .pick [0,0,0] (J:_=[V8 U c6 z.1,Hr U E z.2,R])<|.cm J J zO J<|.w 2<|.mR (b:=((c5.length:Int)==0)) 5 73 (λG=>[V8 U G z.1,Hr U G z.2,R]) (λaX dI=> ?_) (λaD=> ?_) λcH dJ bS=> ?_
      ·refine .cD aX J J<|.m J J<|.cD aX J J<|.cg [0] J call11 J J J J (Hn _ U z.1 ad.1 aB bA<|ae.mono<|Fz.t H<|Fz.t N bG) ?_;rintro eZ c7 _ ea cI ⟨dK,dL,rfl,dM⟩;exact .pick [0,0,0] (J:_=[V8 U c7 z.1,Hr U E z.2,R])<|.cD aX J J<|.cm J J zM J<|.cD aX J J<|.eql J J J<|.cE aX J J J<|.cQ 1 (Xn U) (Fz.t bG cI) J<|.mB 5 J J x0 cI J
      ·exact .ca aD J J J<|.ca aD J J J<|.ca aD J J J<|.ca aD J J J<|.cW aD J J J<|.cQ 1 (Xn U) bG J<|.mB 5 J J x0 Fz.r J
      refine .m J J<|.aN (b:=cH) 2 76 J (λbH dP=> ?_) λdR dS bI=> ?_
      ·exact .cD bH J J<|.cM J call5 J J J (DE _<|hT.mono<|Fz.t l8<|Fz.t P<|Fz.t H<|Fz.t N<|Fz.t bG bS)<|K8 λdT dU _ cJ=>.cE bH J J J<|.sK 2 J J x0 cJ
      exact .w 3<|.cQ 0 (Jk U) bI J<|.cQ 1 (Xn U) bI J<|.sX [0,0,0] results3 (.tmp J<|.nil) J (Fz.t l8<|Fz.t P<|Fz.t H<|Fz.t N<|Fz.t bG<|Fz.t bS bI) J
     ·refine .w 3<|.keep (.p [3,4] J)<|.d λbJ cK=>.d λD bl=>.dG 11 0 (λq=>[vT<|.pointer aB,((vS (q.a 10) bJ<|q.n 10),λG=>q.f 10<=G/\QG 8 (Ex QJ) G (q.a 10) (q.n 10) bJ),vT<|vP af<|0+0,vT<|vI aC.day,((.tuple #[(vS (q.a 40) D.1<|q.n 40),(vI D.2.1),(vI D.2.2)]),λG=>QG 24 (Ex Qw) G (q.a 40) (q.n 40) D.1),vT<|.tuple #[(vS (q.a 40) D.1<|q.n 40),(vI D.2.1),(vI D.2.2)],vT<|vS (q.a 40) D.1<|q.n 40,vT<|vI D.2.1,vT<|vI D.2.2,vT<|vS (q.a 40) D.1<|q.n 40,vT<|vI D.2.1]) (λL q=>[(bif L 1 then(V8 U (q.f 10) z.1) else(V8 U E z.1)),Hr U E z.2,R]) Qb x0 (λ_=>J) (λ_=>J) ?_ λq dV F y=> ?_
      ·refine .V 1 (λ_ _=>⟨J,J⟩)<|.a (λ_ q _ bT hL _ _ _=> ?_) ?_
       ·refine .o (Sub.refl _) ((QC (Z0 hL)<|QC J<|QC J J):_=[V8 U E z.1,Hr U E z.2,R])<|.cQ 0 (Jk U) bT J<|.ah cK [0] J call10 J J J J (H0 _ U z.1 ad.1 aB bA<|ae.mono<|Fz.t H<|Fz.t N bT) ?_;rintro bU _ cL ⟨cM,cN,rfl,cO⟩;exact .pick [0,0,0] (J:_=[V8 U bU z.1,Hr U E z.2,R])<|.ct ({q with a:=(ZB q.a 10 cM),o:=q.o,f:=(ZB q.f 10 bU),n:=(ZB q.n 10 cN)}) [true,false,true,true,false,false,false,false,false,false,false] J x0 J J cL (λ_ le=>⟨le,cO.mono le⟩)<|QC (JF J)<|QC J<|QC J J
       refine .B (.f J xl J W3 J<|.fv J)<|.b (λ_ _ _ bV=> ?_) ?_
       ·refine .cG (Φ:=λv=>v=(vI aC.day)) 1 J bV (aU.mono<|Fz.t N bV) bR J V3 J (λvs ⟨q0,q1,h,r0⟩=>⟨_,by subst h;exact J,J⟩) λv hv=> ?_;subst hv;exact .fv J
       refine .a (λ_ q _ _ _ A _ y=> ?_) ?_
       ·obtain⟨W,X⟩:=y 1 _ (A 1 1 rfl) rfl _ Fz.r;refine .sE bl J call12 J J J (Rn _ bJ (q.a 10) (q.n 10) X aC.day) ?_;rintro dW _ cP ⟨cQ,cR,rfl,cS⟩;exact .ct ({q with a:=(ZB q.a 40 cQ),n:=(ZB q.n 40 cR),c:=q.c,o:=q.o}) [true,true,true,true,false,false,false,false,false,false,false] J x0 J J cP (λ_ le=>cS.mono le)<|QC J<|QC J<|QC J J
       refine .a (λ_ _ _ _ _ A _ y=> ?_) ?_
       ·obtain⟨W,X⟩:=y 1 _ (A 2 1 rfl) rfl _ Fz.r;have aE:=y 4 _ (A 1 4 J) J _ Fz.r;exact .m J J<|.fv J
       refine .a (λ_ _ _ _ _ A _ y=> ?_) ?_
       ·obtain⟨W,X⟩:=y 1 _ (A 3 1 rfl) rfl _ Fz.r;have aE:=y 4 _ (A 2 4 J) J _ Fz.r;exact .x J J J<|.fv J
       refine .a (λ_ _ _ _ _ A _ y=> ?_) ?_
       ·obtain⟨W,X⟩:=y 1 _ (A 3 1 rfl) rfl _ Fz.r;have aE:=y 4 _ (A 2 4 J) J _ Fz.r;exact .x J J J<|.fv J
       refine .a (λ_ _ _ _ _ A _ y=> ?_) ?_
       ·obtain⟨W,X⟩:=y 1 _ (A 3 1 rfl) rfl _ Fz.r;have aE:=y 4 _ (A 2 4 J) J _ Fz.r;exact .x J J J<|.fv J
       refine .a (λ_ _ _ _ _ A _ y=> ?_) ?_
       ·obtain⟨W,X⟩:=y 1 _ (A 1 1 rfl) rfl _ Fz.r;have aE:=y 4 _ (A 1 4 J) J _ Fz.r;exact .s J J<|.fv J
       refine .a (λ_ _ _ _ _ A _ y=> ?_) ?_
       ·obtain⟨W,X⟩:=y 1 _ (A 1 1 rfl) rfl _ Fz.r;have aE:=y 4 _ (A 1 4 J) J _ Fz.r;exact .s J J<|.fv J
       exact .nil
      obtain⟨W,X⟩:=y 1 _ rfl;have aE:=y 4 _ J;refine .o (.p [3,4,10,11,77,78,79,80,81,82,83,84,85] J) (J:_=[V8 U (q.f 10) z.1,Hr U E z.2,R])<|.w 4<|.keep (.p [3,4,10,12] J)<|.d λbK cT=>.d λu bn=>(.dG 14 1 (λj=>[vT<|vP af<|0+2,((Jw aC.rules (j.a 10)<|j.n 10),λG=>QG 2 (Ex Q6) G (j.a 10) (j.n 10) aC.rules.Rates),vT<|.pointer aB,((vS (j.a 30) bK<|j.n 30),λG=>j.f 30<=G/\QG 6 (Ex QM) G (j.a 30) (j.n 30) bK),vT<|vP af<|0+0,vT<|vI aC.day,((.tuple #[(YV u.1 (j.a 60)<|j.n 60),(vI u.2.1),(vI u.2.2)]),λG=>QG 5 (Ex ZO) G (j.a 60) (j.n 60) u.1.Moving),vT<|.tuple #[(YV u.1 (j.a 60)<|j.n 60),(vI u.2.1),(vI u.2.2)],vT<|YV u.1 (j.a 60)<|j.n 60,vT<|vI u.2.1,vT<|vI u.2.2,vT<|.pointer<|some ⟨(j.n 110),0,none⟩,vT undef,vT<|vI u.2.1]) (λL j=>[(bif L 3 then(V8 U (j.f 30) z.1) else(V8 U (q.f 10) z.1)),Hr U E z.2,R,(bif L 12 then(pc (j.n 110) (Qv u.1 (j.a 60)<|j.n 60) 51) else(bif L 11 then(pc (j.n 110) (Qv (Qz.mk (λ_=>0) ([]) 0 0 0 0 0 0 0 0) none 0) 51) else SO))]) Qb x0 (λ_=>J) (λ_=>J) ?_ λj dX Q y=> ?_)
      ·refine .B (.f J xl J Mx J<|.fv J)<|.a (λL j cU bW _ _ aF _=> ?_) ?_
       ·refine .sT (Φ:=λus=>∃(an:K1 C3) (ao:Nat),us=(ZI aC.rules an ao)/\QG 2 (Ex Q6) cU an ao aC.rules.Rates) 1 J (Fz.t F bW) (aU.mono<|Fz.t N<|Fz.t F bW) bR J vF Mx J (λvs ⟨q0,q1,h,r0⟩=>⟨_,by subst h;rfl,J,q0,q1,J,r0⟩) λus hv=> ?_;obtain⟨an,ao,rfl,cV⟩:=hv;exact .ct ({j with a:=(ZB j.a 10 an),n:=(ZB j.n 10 ao),c:=j.c,o:=j.o}) [true,false,true,true,true,true,false,false,false,false,false,true,false,false] J x0 J J Fz.r (λ_ le=>cV.mono le)<|QC J<|QC J<|QC J<|QC ((Z0 (b:=Kb L 1 12)<|aF 1 12 J).trans (Z0<|aF 1 12 J).symm) J
       refine .V 1 (λ_ _=>⟨J,J⟩)<|.a (λL j _ bX hL _ aF _=> ?_) ?_
       ·refine .o (Sub.refl _) ((QC (Z0 hL)<|QC J<|QC J<|QC (Z0<|aF 1 12 J) J):_=[V8 U (q.f 10) z.1,Hr U E z.2,R,(bif L 11 then(pc (j.n 110) (Qv (Qz.mk (λ_=>0) ([]) 0 0 0 0 0 0 0 0) none 0) 51) else SO)])<|.cQ 0 (Jk U) (Fz.t W bX) J<|.ah cT [0] J call11 J J J J (Hn _ U z.1 ad.1 aB bA<|ae.mono<|Fz.t H<|Fz.t N<|Fz.t F bX) ?_;rintro bZ _ cW ⟨cX,cY,rfl,cZ⟩;exact .pick [0,0,0,0] (J:_=[V8 U bZ z.1,Hr U E z.2,R,(bif L 11 then(pc (j.n 110) (Qv (Qz.mk (λ_=>0) ([]) 0 0 0 0 0 0 0 0) none 0) 51) else SO)])<|.ct ({j with a:=(ZB j.a 30 cX),o:=j.o,f:=(ZB j.f 30 bZ),n:=(ZB j.n 30 cY)}) [true,true,true,false,true,true,false,false,false,false,false,true,false,false] J x0 J J cW (λ_ le=>⟨le,cZ.mono le⟩)<|QC (JF J)<|QC J<|QC J<|QC (Z0 (b:=Kb L 3 12)<|aF 1 12 J) J
       refine .B (.f J xl J W3 J<|.fv J)<|.b (λ_ _ _ ba=> ?_) ?_
       ·refine .cG (Φ:=λv=>v=(vI aC.day)) 1 J (Fz.t F ba) (aU.mono<|Fz.t N<|Fz.t F ba) bR J V3 J (λvs ⟨q0,q1,h,r0⟩=>⟨_,by subst h;exact J,J⟩) λv hv=> ?_;subst hv;exact .fv J
       refine .a (λL j _ _ _ A aF y=> ?_) ?_
       ·have Y:=y 1 _ (A 1 1 J) J _ Fz.r;obtain⟨S,Z⟩:=y 3 _ (A 1 3 rfl) rfl _ Fz.r;refine .sE bn J call13 J J J (Dx _ aC.rules (j.a 10) (j.n 10) Y bK (j.a 30) (j.n 30) Z aC.day) ?_;rintro dY _ ca ⟨cb,cc,rfl,cd⟩;exact .ct ({j with a:=(ZB j.a 60 cb),n:=(ZB j.n 60 cc),c:=j.c,o:=j.o}) [true,true,true,true,true,true,false,false,false,false,false,true,false,false] J x0 J J ca (λ_ le=>cd.mono le)<|QC J<|QC J<|QC J<|QC ((Z0 (b:=Kb L 6 12)<|aF 1 12 J).trans (Z0<|aF 1 12 J).symm) J
       refine .a (λ_ _ _ _ _ A _ y=> ?_) ?_
       ·have Y:=y 1 _ (A 2 1 J) J _ Fz.r;obtain⟨S,Z⟩:=y 3 _ (A 2 3 rfl) rfl _ Fz.r;have aJ:=y 6 _ (A 1 6 J) J _ Fz.r;exact .m J J<|.fv J
       refine .a (λ_ _ _ _ _ A _ y=> ?_) ?_
       ·have Y:=y 1 _ (A 3 1 J) J _ Fz.r;obtain⟨S,Z⟩:=y 3 _ (A 3 3 rfl) rfl _ Fz.r;have aJ:=y 6 _ (A 2 6 J) J _ Fz.r;exact .x J J J<|.fv J
       refine .a (λ_ _ _ _ _ A _ y=> ?_) ?_
       ·have Y:=y 1 _ (A 3 1 J) J _ Fz.r;obtain⟨S,Z⟩:=y 3 _ (A 3 3 rfl) rfl _ Fz.r;have aJ:=y 6 _ (A 2 6 J) J _ Fz.r;exact .x J J J<|.fv J
       refine .a (λ_ _ _ _ _ A _ y=> ?_) ?_
       ·have Y:=y 1 _ (A 3 1 J) J _ Fz.r;obtain⟨S,Z⟩:=y 3 _ (A 3 3 rfl) rfl _ Fz.r;have aJ:=y 6 _ (A 2 6 J) J _ Fz.r;exact .x J J J<|.fv J
       refine .a (λL j _ _ hL _ aF _=> ?_) ?_
       ·exact .l (cs:=(Qv (Qz.mk (λ_=>0) ([]) 0 0 0 0 0 0 0 0) none 0)) J fN J λcf=>(.aD ({j with n:=ZB j.n 110 cf}) [true,true,true,true,true,true,true,true,true,true,true,false,false,false] J x0 J J Fz.r (λ_ _=>trivial) λ_ h=>SH.sZ 3 (congrArg some<|(Z0<|aF 1 12 J).trans<|Z0 hL) ((Z0 (b:=Kb L 11 12)<|aF 1 12 J).trans<|JF J) h)
       refine .a (λ_ j _ _ hL A _ y=> ?_) ?_
       ·have Y:=y 1 _ (A 1 1 J) J _ Fz.r;obtain⟨S,Z⟩:=y 3 _ (A 1 3 rfl) rfl _ Fz.r;have aJ:=y 6 _ (A 1 6 J) J _ Fz.r;exact .store (cs' :=(Qv u.1 (j.a 60)<|j.n 60)) DK J J J J (i:=3) (congrArg some<|(Z0 hL).trans<|JF<|A 1 11 J) (JK J) J (QY iO)<|.ag J Fz.r<|Nn 3<|JF J
       refine .a (λ_ _ _ _ _ A _ y=> ?_) ?_
       ·have Y:=y 1 _ (A 1 1 J) J _ Fz.r;obtain⟨S,Z⟩:=y 3 _ (A 1 3 rfl) rfl _ Fz.r;have aJ:=y 6 _ (A 1 6 J) J _ Fz.r;exact .s J J<|.fv J
       exact .nil
      have Y:=y 1 _ J;obtain⟨S,Z⟩:=y 3 _ rfl;have aJ:=y 6 _ J;refine .o (.p [3,4,10,12,13,14,86,87,88,89,90,91,92,93,94,95,96] J) (J:_=[V8 U (j.f 30) z.1,Hr U E z.2,R,pc (j.n 110) (Qv u.1 (j.a 60)<|j.n 60) 51])<|.w 9<|.rE (b:=(D.2.2 != 0)) (b' :=(u.2.2 != 0)) 3 102 J (λak=> ?_) λaq I=> ?_
      ·exact .cD ak J J<|.m J J<|.cD ak J J<|.neq J J J<|.cW ak J J J<|.fi Fz.r
      refine .w 2<|.i J (λbo=> ?_) λbo=> ?_
      ·exact .w 5<|.cQ 0 (Jk U) (Fz.t S I) J<|.cQ 1 (Xn U) (Fz.t F<|Fz.t Q I) J<|.sX [0,0,0] results3 (.tmp J<|.nil) J (Fz.t l8<|Fz.t P<|Fz.t H<|Fz.t N<|Fz.t F<|Fz.t Q I) J
      ·refine .w 4 (.l (cs:=((FK 16<|Zy .i64) fun(_:Nat)=>(0:Int))) J br J λaY=>.w 12<|.keep (.p [3,10,13,16,17,18] J)<|.w 2<|.keep (.p [3,10,13,16,17,18] J)<|.cQ 1 (Jk U) (Fz.t S I) J<|.loop (fun(K:Int×Int×(Nat->Int)) a w=>∃(aZ:Fz),aq<=aZ/\Hd 189 [] [(3,(.pointer aB)),(10,(vS (q.a 40) D.1<|q.n 40)),(13,(.pointer<|some ⟨(j.n 110),0,none⟩)),(16,(vP aY 0)),(17,(vI K.1)),(18,(vI K.2.1))] aZ [pc aY ((FK 16<|Zy .i64) K.2.2) 48,V8 U aZ z.1,Hr U E z.2,R,pc (j.n 110) (Qv u.1 (j.a 60)<|j.n 60) 51] a w) (λb0 e a w=>match b0 with | .inl C=>e= .exit 2/\∃(ar:Fz),aq<=ar/\Hd 189 [] [(13,(.pointer<|some ⟨(j.n 110),0,none⟩)),(16,(vP aY 0)),(17,(vI C.1))] ar [pc aY ((FK 16<|Zy .i64) C.2) 48,V8 U ar z.1,Hr U E z.2,R,pc (j.n 110) (Qv u.1 (j.a 60)<|j.n 60) 51] a w | .inr C=>e= .ret/\∃(au:Fz),aq<=au/\Hd 189 [] [(2,(.bool C))] au [V8 U au z.1,Hr U E z.2,R] a w) ?_ ?_ ?_)
       ·exact λa w h=>⟨aq,Fz.r,h.1.sub<|.k J,h.2⟩
       ·intro K cy;refine GG.ex λa w ⟨aZ,aa,hA⟩=>⟨_,hA,?_⟩;unfold Ke;refine .w 5<|.cm J J dN J<|.w 3<|.i J (λbp=> ?_) λbp=> ?_
        ·refine .w 8<|.idx J dN Ap (aE.mono<|Fz.t Q<|Fz.t I aa) J J λT dZ da db c8 c9 dc bq bt=>.cT J xf Ap J bq bt J<|.l (cs:=(Qw<|ZR.mk 0 0 0 0 0 0 0 0 (λ_=>0) λ_=>0)) J jY J λcg=>.store (cs' :=(Qw T)) Ap J J J J (i:=0) J (JK J) J (QY iO)<|.w 5<|.f J AJ J W3 J<|.cC J V3 J (i:=0) J J<|.cg [2] J call14 J J J J (Sb _ U z.1 ad.1 aB bA (ae.mono<|Fz.t H<|Fz.t N<|Fz.t F<|Fz.t Q<|Fz.t I aa) T.Number)<|K8 λaA ch dd bb=>.pick [1,1,0,0,0,0] (J:_=[pc cg (Qw T) 56,pc aY ((FK 16<|Zy .i64) K.2.2) 48,V8 U ch z.1,Hr U E z.2,R,pc (j.n 110) (Qv u.1 (j.a 60)<|j.n 60) 51])<|.w 9<|.rE (b:=(decide<|aA < 0)) (b' :=(decide<|aA > T.Amount)) 5 124 J (λaG=> ?_) λde av=> ?_
         ·exact .cD aG J J<|.m J J<|.cD aG J J<|.f J AJ J W3 J<|.cD aG J J<|.cC J V3 J (i:=0) J J<|.cD aG J J<|.gtr J J J<|.cW aG J J J<|.fi Fz.r
         refine .m J J<|.rE (b:=((decide<|aA < 0)||(decide<|aA > T.Amount))) (b' :=(decide<|T.Place < 0)) 4 129 J (λaN=> ?_) λdf aw=> ?_
         ·exact .cD aN J J<|.f J AJ J W3 J<|.cD aN J J<|.cC J V3 J (i:=0) J J<|.cD aN J J<|.lss J J J<|.cW aN J J J<|.fi Fz.r
         refine .m J J<|.rE (b:=(((decide<|aA < 0)||(decide<|aA > T.Amount))||(decide<|T.Place < 0))) (b' :=(decide<|T.Place≥8)) 4 134 J (λaO=> ?_) λbc ax=> ?_
         ·exact .cD aO J J<|.f J AJ J W3 J<|.cD aO J J<|.cC J V3 J (i:=0) J J<|.cD aO J J<|.geq J J J<|.cW aO J J J<|.fi Fz.r
         refine .n<|.keep (.p [3,10,13,16,17,18,19,20,134] J)<|.c<|.i J (λbw=> ?_) λbw=> ?_
         ·refine .w 5<|.drop 5<|.drop 1<|.drop 0<|.cQ 0 (Jk U) (Fz.t av<|Fz.t aw ax) J<|.cw<|Q7.ret λa w h=>⟨J,bc,(Fz.t aa<|Fz.t bb<|Fz.t av<|Fz.t aw ax),h.1.sub<|.k J,h.2⟩
         ·exact .w 3<|.keep (.p [3,10,13,16,17,18,19,20] J)<|.cS 9 Qb x0<|.f J AJ J W3 J<|.cC J V3 J (i:=0) J J<|.f J AJ J W3 J<|.cC J V3 J (i:=0) J J<|.d λaK bL=>.cF J Ic W3 J J bL<|.cC J V3 J (i:=1) J (UU 16 (λaK=>(((FK 16<|Zy .i64) K.2.2))[0+aK*1]?) (λaK=>some<|vI<|K.2.2 aK) J (ZF bL).2.2.2)<|.w 2<|.d λab al=>.cF J Ic W3 J J al<|.cc<|.cH λcj ck=>.store (cs' :=((FK 16<|Zy .i64) cj)) W3 J J J J (i:=1) J (show 0+ab*1+1<=16 by have:=(ZF al).2.2.2;omega) J (by rw[ck];exact(UU 16 (λab=>Kp (((FK 16<|Zy .i64) K.2.2)) (0+ab*1) [(vI<|Q8<|(K.2.2 aK)+aA)]) (λab=>((FK 16<|Zy .i64)<|ZB K.2.2 ab<|Q8<|(K.2.2 aK)+aA)) J (ZF al).2.2.2))<|.w 6<|.cR J J λcr dh=>.w 6<|.cR J J λdj dk=>.n<|.drop 0<|.cQ 1 (Jk U) (Fz.t av<|Fz.t aw ax) J<|.cK<|Q7.norm λa w h=>⟨bc,(Fz.t aa<|Fz.t bb<|Fz.t av<|Fz.t aw ax),h.1.sub<|.k J,h.2⟩
        ·refine .cO J<|Q7.exit λa w h=>⟨J,aZ,aa,h.1.sub<|.k J,h.2⟩
       ·intro C c4 hk e a w hD;rcases C with C | C
        ·obtain⟨rfl,ar,bM,hA⟩:=hD;refine ZE J<|GG.app ?_ hk a w hA;refine .w 3<|.f J DL J E0 J<|.cP J dq E0 J (i:=4) J (vs:=((FK 16<|Zy .i64) u.1.Bonds)) x0 J<|.cP J dq E0 J (i:=0) J (vs:=((FK 16<|Zy .i64) C.2)) x0 J<|.mP J Tryz.eqGuardType48 (λw=>gW u.1.Bonds C.2 w) J J<|.m J J<|.cn (b:=(Cb u.1.Bonds C.2)) (b' :=(u.1.Made==(Q8<|C.1+u.1.Used))) 8 159 J (λM=> ?_) λdm ay=> ?_
         ·exact .cD M J J<|.f J DL J W3 J<|.cD M J J<|.cC J V3 J (i:=4) J J<|.cD M J J<|.m J J<|.cD M J J<|.f J DL J W3 J<|.cD M J J<|.cC J V3 J (i:=4) J J<|.cD M J J<|.add J J J<|.cD M J J<|.eql J J J<|.cE M J J J<|.fi Fz.r
         refine .m J J<|.cn (b:=((Cb u.1.Bonds C.2)&&(u.1.Made==(Q8<|C.1+u.1.Used)))) (b' :=(u.1.Found==0)) 4 164 J (λaP=> ?_) λdn az=> ?_
         ·exact .cD aP J J<|.f J DL J W3 J<|.cD aP J J<|.cC J V3 J (i:=4) J J<|.cD aP J J<|.eql J J J<|.cE aP J J J<|.fi Fz.r
         refine .m J J<|.cn (b:=(((Cb u.1.Bonds C.2)&&(u.1.Made==(Q8<|C.1+u.1.Used)))&&(u.1.Found==0))) (b' :=(u.1.Lost==0)) 4 169 J (λaQ=> ?_) λdp a1=> ?_
         ·exact .cD aQ J J<|.f J DL J W3 J<|.cD aQ J J<|.cC J V3 J (i:=4) J J<|.cD aQ J J<|.eql J J J<|.cE aQ J J J<|.fi Fz.r
         refine .m J J<|.cn (b:=((((Cb u.1.Bonds C.2)&&(u.1.Made==(Q8<|C.1+u.1.Used)))&&(u.1.Found==0))&&(u.1.Lost==0))) (b' :=(u.1.Charged==0)) 4 174 J (λaR=> ?_) λdr a6=> ?_
         ·exact .cD aR J J<|.f J DL J W3 J<|.cD aR J J<|.cC J V3 J (i:=4) J J<|.cD aR J J<|.eql J J J<|.cE aR J J J<|.fi Fz.r
         refine .m J J<|.cn (b:=(((((Cb u.1.Bonds C.2)&&(u.1.Made==(Q8<|C.1+u.1.Used)))&&(u.1.Found==0))&&(u.1.Lost==0))&&(u.1.Charged==0))) (b' :=(u.1.Exported==0)) 4 179 J (λaS=> ?_) λds a7=> ?_
         ·exact .cD aS J J<|.f J DL J W3 J<|.cD aS J J<|.cC J V3 J (i:=4) J J<|.cD aS J J<|.eql J J J<|.cE aS J J J<|.fi Fz.r
         refine .m J J<|.cn (b:=((((((Cb u.1.Bonds C.2)&&(u.1.Made==(Q8<|C.1+u.1.Used)))&&(u.1.Found==0))&&(u.1.Lost==0))&&(u.1.Charged==0))&&(u.1.Exported==0))) (b' :=((u.1.Moving.length:Int)==0)) 5 185 J (λaH=> ?_) λdu a8=> ?_
         ·exact .cD aH J J<|.f J DL J di J<|.cD aH J J<|.cC J bh J (i:=4) J J<|.cD aH J J<|.cm J J dw J<|.cD aH J J<|.eql J J J<|.cE aH J J J<|.fi Fz.r
         refine .m J J<|.aN (b:=(((((((Cb u.1.Bonds C.2)&&(u.1.Made==(Q8<|C.1+u.1.Used)))&&(u.1.Found==0))&&(u.1.Lost==0))&&(u.1.Charged==0))&&(u.1.Exported==0))&&((u.1.Moving.length:Int)==0))) 2 188 J (λbN dv=> ?_) λdx dy bO=> ?_
         ·exact .cD bN J J<|.cM J call5 J J J (DE _<|hT.mono<|Fz.t l8<|Fz.t P<|Fz.t H<|Fz.t N<|Fz.t F<|Fz.t Q<|Fz.t I<|Fz.t bM<|Fz.t ay<|Fz.t az<|Fz.t a1<|Fz.t a6<|Fz.t a7 a8)<|K8 λdz eA _ cl=>.cE bN J J J<|.sK 2 J J x0 cl
         exact .w 3<|.cQ 1 (Jk U) (Fz.t ay<|Fz.t az<|Fz.t a1<|Fz.t a6<|Fz.t a7<|Fz.t a8 bO) J<|.cQ 2 (Xn U) (Fz.t F<|Fz.t Q<|Fz.t I<|Fz.t bM<|Fz.t ay<|Fz.t az<|Fz.t a1<|Fz.t a6<|Fz.t a7<|Fz.t a8 bO) J<|.sX [1,1,1] results3 (.tmp J<|.nil) J (Fz.t l8<|Fz.t P<|Fz.t H<|Fz.t N<|Fz.t F<|Fz.t Q<|Fz.t I<|Fz.t bM<|Fz.t ay<|Fz.t az<|Fz.t a1<|Fz.t a6<|Fz.t a7<|Fz.t a8 bO) J
        obtain⟨rfl,au,bd,hA⟩:=hD
        replace hA:=Hd.cQ 1 (Xn U) (Fz.t F<|Fz.t Q<|Fz.t I bd) rfl hA
        exact JT<|(H7 [0,0,0] results3 (.tmp J<|.nil) J (Fz.t l8<|Fz.t P<|Fz.t H<|Fz.t N<|Fz.t F<|Fz.t Q<|Fz.t I bd) J) hk a w hA
    obtain⟨rfl,bD,dA,hA⟩:=hD;exact JT<|(H7 [0,0,0] results3 (.tmp J<|.nil) J (Fz.t l8<|Fz.t P<|Fz.t H dA) J) hk a w hA
def Yz(a:(Q0<|Q0 H1)):K1 Bool:=(JY [] [] a).map Prod.fst
theorem Fy(F0:Fz)(d:HB F0)(a:(Q0<|Q0 H1))(b:K1 C3)(c:Nat)(e:QG 1 (Ex AR) F0 b c a):KJ prog 3 #[(vS b a c)] F0 (Yz a) (λr _ v=>v=(.bool r)):=KJ.nD (C:=λγ γ' =>dZ<|Jl.mk 0 0 0 γ γ' 0 0 0 0 0) (C' :=λγ γ' =>xt<|Jl.mk 0 0 0 γ γ' 0 0 0 0 0) λγ γ' F le=>FL F (d.mono le) (Jl.mk 0 0 0 γ γ' 0 0 0 0 0) [] [] a b c<|e.mono le
end
section
open Go.Dec
variable{W:Qd}{L:QA}{ns:Q0 Int}{w:Q0 H1}
theorem OI(a b:Int):Q8 (Q8 a+b)=Q8 (a+b):=by
 have e:IntKind.i64.bits=64:=rfl;simp only[Q8,IntKind.wrap,e,IntKind.signed,mb,AT]
 repeat' split
 all_goals omega
theorem Iz(p:Qs)(i:p.N.length<=1000000)(d a b c:Int):∀(ns pre:Q0 Int) (ps acc:Q0 (Int×Int)),p.N=pre++ns->WN ns=some ps->acc.length<=pre.length->
  ZU (Xg p) ((pre.length:Int),⟨d,true,VW a b c acc⟩)=some ⟨d,true,VW a b c<|acc++ps⟩
 | [],pre,ps,acc,e,h,j=>by
  simp only[WN,W1] at h
  subst h;rw[r8] at e ⊢
  have f:decide ((pre.length:Int)+1 < (p.N.length:Int))=false:=by rw[e];simp;omega
  rw[ZJ];unfold Xg;rw[e] at i
  rw[Qo (n:=(pre.length:Int)+1) eB eB];simp only[f,W2,Bm]
 | [x],pre,ps,acc,e,h,j=>by cases h
 | x::y::ns,pre,ps,acc,e,h,j=>by
  simp only[WN,mY] at h
  obtain⟨l,m,rfl⟩:=h;have o:p.N=(pre++[x])++y::ns:=by rw[e];simp
  have k:pre.length+2<=p.N.length:=by rw[e];simp
  have q:ZX p.N (pre.length:Int)=some x:=by rw[Z2,VO e]
  have r:ZX p.N ((pre.length:Int)+1)=some y:=by
   have:=VO o;rw[show((pre.length:Int)+1)=((pre++[x]).length:Int) by simp,Z2,this]
  have g:VU (VW a b c acc).Rates [⟨x,y⟩]=some (VW a b c<|acc++[(x,y)]).Rates:=by
   rw[XK (by simp[VW];omega)];simp[VW]
  have s:Xg p ((pre.length:Int),⟨d,true,VW a b c acc⟩)=some (.next (((pre++[x,y]).length:Int),⟨d,true,VW a b c<|acc++[(x,y)]⟩)):=by
   unfold Xg;rw[Qo (n:=(pre.length:Int)+1) eB eB,Qo (n:=(pre.length:Int)+2) eB eB];have f:decide ((pre.length:Int)+1 < (p.N.length:Int))=true:=by simp;omega
   simp only[f,B2,q,r,K2,g,QS];simp[VW]
  have:=Iz p i d a b c ns (pre++[x,y]) l (acc++[(x,y)]) (by rw[e];simp) m eE;rw[ZJ,s];simpa using this
theorem ju{a b c:Int}{ps:Q0 (Int×Int)}(k:ns.length<=100000)(d:WN ns=some ps):Zn [W] (some 0) ⟨Wo,a::b::c::ns⟩=some [⟨W.day,true,VW a b c ps⟩]:=by
 have:=Iz ⟨Wo,a::b::c::ns⟩ eE W.day a b c ns [a,b,c] ps [] rfl d eF;have h:ZU (Xg ⟨Wo,a::b::c::ns⟩) (3,⟨W.day,true,⟨[],a,b,c⟩⟩)=some ⟨W.day,true,VW a b c ps⟩:=this;unfold Zn;have e:(Wo==[100,97,121])=false:=by decide
 have f:(Wo==[114,117,108,101,115])=true:=by decide
 have g:ZX (a::b::c::ns) 0=some a:=rfl;have i:ZX (a::b::c::ns) 1=some b:=rfl;have j:ZX (a::b::c::ns) 2=some c:=rfl;simp only[K2,C2,e,f,W2,Bm,B2,g,i,j,h,mZ]
theorem wm{d:Int}:Zn [W] (some 0) ⟨M7,[d]⟩=some [⟨d,W.ruled,W.rules⟩]:=by
 unfold Zn;have a:ZX [d] 0=some d:=rfl;simp only[K2,C2,hF,B2,a,mZ]
theorem ve(a:w≠M7)(b:w≠Wo):Zn [W] (some 0) ⟨w,ns⟩=some [W]:=by
 unfold Zn;have c:(w==[100,97,121])=false:=by simpa using a
 have d:(w==[114,117,108,101,115])=false:=by simpa using b
 simp only[K2,C2,c,d,W2,Bm,mZ]
theorem Aq.day{a:QA}{p q n:Int}(h:Aq L p q n a):a.day=L.day:=by
 cases h with
 | stay=>rfl
 | go _ _ a d b c=>exact c.same.day.trans b.same.day
theorem Ek:∀(ps:Q0 (Int×Int)) {x y:QU} {L e:QA},Gt ps x L=some (.ok (y,e))->e.day=L.day
 | [],x,y,L,e,b=>by
  simp only[Gt,W1,Out.ok.injEq,L0] at b
  rw[b.2]
 | p::ps,x,y,L,e,b=>by
  unfold Gt at b
  obtain⟨⟨q,i⟩,a,b⟩:=J5 b;obtain⟨_,b⟩:=Wj b;refine(Ek ps b).trans ?_;unfold Fw at a
  obtain⟨_,a⟩:=J6 a;obtain⟨g,d,a⟩:=J5 a;obtain⟨p,_,a⟩:=If.1 a;obtain⟨j,c,a⟩:=J5 a;obtain⟨_,_,a⟩:=If.1 a;obtain⟨_,_,a⟩:=If.1 a;simp only[W1,Out.ok.injEq,L0] at a
  obtain⟨_,rfl⟩:=a
  have f:g.day=L.day:=by
   obtain⟨_,d⟩:=Wj d;obtain⟨_,d⟩:=J6 d;simp only[W1,Out.ok.injEq] at d
   rw[<-d]
  unfold C7 at c
  split at c
  ·obtain⟨k,h,c⟩:=J5 c;simp only[W1,Out.ok.injEq] at c
   rw[<-c];exact(BV h).same.day.trans f
  ·simp only[W1,Out.ok.injEq] at c
   rw[<-c];exact f
theorem Deed.clock{j:QA}{r:Q0 H1}(h:Deed L w ns r j):(∃d,w=M7/\ns=[d]/\d<=65536/\L.day<=d/\j={L with day:=d})∨
  (∃a b c ds ps,w=Wo/\ns=a::b::c::ds/\WN ds=some ps/\L.rules=none/\Ex.Xv (VW a b c ps)=true/\j={L with rules:=some (VW a b c ps)})∨(w≠M7/\w≠Wo/\j.day=L.day):=by
 have rest:∀w∈AS,w≠M7/\w≠Wo:=by decide
 have go:∀{w:Q0 H1} {g:QA},w∈AS->g.day=L.day->w≠M7/\w≠Wo/\g.day=L.day:=λf e=>⟨(rest _ f).1,(rest _ f).2,e⟩;have i:∀{x:QE} {g:QA},HD L x g->g.day=L.day:=λh=>by rw[h.1]
 cases h with
 | day d t A=>exact .inl ⟨d,rfl,rfl,t,A,rfl⟩
 | rules a b c ns ps k u t=>exact .inr (.inl ⟨a,b,c,ns,ps,rfl,rfl,k,u,t,rfl⟩)
 | make w f c v p m o g l h=>exact .inr (.inr<|go f<|i h)
 | fill0 c n s g hs h=>exact .inr (.inr ⟨by decide,by decide,i h⟩)
 | fill c n s g q hs h k d=>exact .inr (.inr ⟨by decide,by decide,d.same.day.trans<|i h⟩)
 | rack w f a b n p g q h k l=>exact .inr (.inr<|go f<|l.day.trans<|i h)
 | carry w f a p g q h l=>exact .inr (.inr<|go f<|l.day.trans<|i h)
 | keep w f ns x g B h=>exact .inr (.inr<|go f<|i h)
 | stamps w f ns x g B C h=>exact .inr (.inr<|go f<|by rw[h.1])
 | pay w f a g h=>exact .inr (.inr<|go f h.same.day)
 | bottle num v a z ds ps b g q k u y D hs C h=>
  refine .inr (.inr ⟨by decide,by decide,?_⟩);show q.day=_;have e:=Ek ps y;rw[h.1];exact e
 | ask d y f=>
  have:∀w∈wX,w≠M7/\w≠Wo:=by decide
  exact .inr<|.inr ⟨(this _ f).1,(this _ f).2,rfl⟩
def wR(W:Qd)(L:QA)(n:Nat):Prop:=W.day=L.day/\((W.ruled=false/\vA L)∨(W.ruled=true/\∃a b,PJ W.rules L a b/\0<=b.Made/\b.Made<=1099511627776*(n:Int)))
theorem wR.up{n:Nat}(h:wR W L n):wR W L (n+1):=⟨h.1,h.2.imp id fun⟨a,c,b,d,e,f⟩=>⟨a,c,b,d,e,by omega⟩⟩
theorem wR.nQ{o:QA}{n:Nat}{p:Q0 H1}(h:wR W L n)(q:w≠M7->w≠Wo->L.rules.isNone=false)(C:ns.length<=4000)(m:Deed L w ns p o):∃x,Zn [W] (some 0) ⟨w,ns⟩=some [x]/\wR x o (n+1):=by
 obtain⟨y,g⟩:=h
 have l:∀{i b},PJ W.rules L i b->0<=b.Made/\b.Made<=1099511627776*(n:Int)->∃i b,PJ W.rules o i b/\0<=b.Made/\b.Made<=1099511627776*((n+1:Nat):Int):=fun{i b} f k=>by
  obtain⟨r,b',j,z⟩:=f.nQ m;refine⟨r,b',j,?_⟩;rcases(f.word m).2 with⟨_,t⟩ | ⟨c,n',s,rfl,rfl,_,F,G⟩
  ·rw[t] at z;omega
  ·have t:ML Hu [c,n',s]=n' *s / 10000:=by
    show(if Hu=Hu then n' *s / 10000 else 0)=_;rw[BY rfl]
   rw[t] at z
   omega
 rcases m.clock with⟨d,rfl,rfl,u,D,e⟩ | ⟨a,b,c,ds,ps,rfl,rfl,E,H,v,e⟩ | ⟨A,B,e⟩
 ·refine⟨_,wm,by rw[e],?_⟩;rcases g with⟨g,f⟩ | ⟨g,i,b,f,k⟩
  ·have:=f.day;exact .inl ⟨g,by rw[e];exact⟨f.rules,f.casks,f.duties,⟨by show 0<=d;omega,u⟩,f.pure⟩⟩
  ·exact .inr ⟨g,l f k⟩
 ·refine⟨_,ju (by simp at C;omega) E,by rw[e];exact y,?_⟩;rcases g with⟨g,f⟩ | ⟨g,i,b,f,k⟩
  ·obtain⟨i,b,j,k,_⟩:=f.mL v e;exact .inr ⟨rfl,i,b,j,by omega,by omega⟩
  ·exact absurd rfl (f.word m).1
 ·refine⟨_,ve A B,by rw[e];exact y,?_⟩;rcases g with⟨g,f⟩ | ⟨g,i,b,f,k⟩
  ·have:=q A B;rw[f.rules] at this
   cases this
  ·exact .inr ⟨g,l f k⟩
section
variable{l:Q0 (Q0 H1)}(hl:l.length<=40)(hx:∀x∈l,x.length<=4000){r:ON×Q0 Qu}(h0:r.1=some 0)
include hl hx h0
theorem kX{x:Q0 H1}{pre post:Q0 (Q0 H1)}(e:l=pre++x::post)(B:Inv (1000*(pre.length+1)) (pre.length+1) L)(C:wR W L pre.length):∃c q,Zz [] l r ((pre.length:Int),[⟨L,true⟩],[W])=some (.next (((pre++[x]).length:Int),[⟨c,true⟩],[q]))/\Inv (1000*((pre++[x]).length+1)) ((pre++[x]).length+1) c/\wR q c (pre++[x]).length:=by
 have F:=VO e;have hi:=HJ e;have m:ZX l (pre.length:Int)=some x:=by rw[Z2,F]
 have f:=hx x (by rw[e];simp);obtain⟨G,er,c,g,D,s,H⟩:=fy (A:=[⟨L,true⟩]) (i:=0) rfl B eB eB x;have n:([⟨L,true⟩]:Q0 Qu).set 0 ⟨c,true⟩=[⟨c,true⟩]:=rfl;rw[n] at g
 have o:Inv (1000*((pre++[x]).length+1)) ((pre++[x]).length+1) c:=s.up eE eF;have a:decide ((pre.length:Int) < (l.length:Int))=true:=by simpa using hi
 have p:(pre++[x]).length=pre.length+1:=by simp
 have d:(((pre++[x]).length:Nat):Int)=(pre.length:Int)+1:=by simp
 have E:Q8 ((pre.length:Int)+1)=(pre.length:Int)+1:=Qo eB eB;rcases H with⟨I,_,t⟩ | ⟨u,h,_⟩
 ·obtain⟨K,v,_⟩:=k9 x f;subst t;have he:(er==0)=false:=by have:=I.1;simp;omega
  refine⟨c,W,?_,o,by rw[p];exact C.up⟩;unfold Zz;simp only[a,B2,m,v,K2,h0];rw[g,K2];simp only[he,lu,W2,Bm,K2,QS,E,d]
 ·obtain⟨w,ns,b,j,y,k⟩:=ID B.days h;have v:=zp f b j;obtain⟨q,hs,z⟩:=C.nQ y (mz (Nv b) f) k;refine⟨c,q,?_,o,by rw[p];exact z⟩;unfold Zz;simp only[a,B2,m,v,K2,h0];rw[g,K2];simp only[u,hF,mb,RK,W2,Bm,B2,kp];rw[hs];simp only[K2,QS,E,d]
theorem Mv:∀(post pre:Q0 (Q0 H1)) (L:QA) (W:Qd),l=pre++post->Inv (1000*(pre.length+1)) (pre.length+1) L->wR W L pre.length->
  ∃a g,ZU (Zz [] l r) ((pre.length:Int),[⟨L,true⟩],[W])=some (.inl ([⟨a,true⟩],[g]))/\Inv (1000*(l.length+1)) (l.length+1) a/\wR g a l.length
 | [],pre,L,W,e,b,c=>by
  rw[r8] at e
  subst e;refine⟨L,W,?_,b,c⟩;rw[ZJ];unfold Zz;simp
 | x::post,pre,L,W,e,b,c=>by
  obtain⟨h,i,j,d,f⟩:=kX hl hx h0 e b c;obtain⟨k,m,n,o⟩:=Mv post (pre++[x]) h i (by rw[e];simp) d f;refine⟨k,m,?_,o⟩;rw[ZJ,j];exact n
end
abbrev yG(l:Q0 ZR):Q0 (Int×Int):=l.map λc=>(c.Number,c.Place)
theorem jk{r:ON×Q0 Qu}(g:r.1=some 0){A2:Q0 Qd}{k e:Int}(l:Q0 ZR)(B:l.length<=1000000)(h:∀c∈l,0<=Zb L c.Number/\Zb L c.Number<=c.Amount/\0<=c.Place/\c.Place<=7):∃S,ZU (Ke r ([⟨L,true⟩],A2) (l,k,e)) (0,0,λ_=>0)=some (.inl (Q8<|Wp (λp=>Zb L p.1)<|yG l,S))/\∀j:Nat,S j=Q8 (Wp (gI (Zb L) j)<|yG l):=by
 obtain⟨t,⟨m,o⟩,q⟩:=GD (body:=Ke r ([⟨L,true⟩],A2) (l,k,e)) (λi (t:Int×(Nat->Int))=>(t.1,(i:Int),t.2)) (λt=>.inl t) (λpre t=>t.1=Q8 (Wp (λp=>Zb L p.1)<|yG pre)/\∀j:Nat,t.2 j=Q8 (Wp (gI (Zb L) j)<|yG pre)) l
  (λpre x post t e ⟨s,d⟩=>by
   have u:=VO e;have hi:=HJ e;obtain⟨C,D,v,E⟩:=h x (by rw[e];simp);have y:Q8 ((pre.length:Int)+1)=((pre.length+1:Nat):Int):=by rw[Qo eB eB];simp
   have a:decide ((pre.length:Int) < (l.length:Int))=true:=by simpa using hi
   have b:(((decide (Zb L x.Number < 0)||decide (Zb L x.Number > x.Amount))||decide (x.Place < 0))||decide (x.Place≥8))=false:=by simp;omega
   have z:Yu 16 x.Place=some x.Place.toNat:=by
    have:=Hm (n:=16) (i:=x.Place.toNat) eB
    rwa[Int.toNat_of_nonneg v] at this
   have hs:∀f:Int×Int->Int,Wp f (yG<|pre++[x])=Wp f (yG pre)+f (x.Number,x.Place):=λf=>by
    rw[show yG (pre++[x])=yG pre++[(x.Number,x.Place)] by simp[yG],Tb];simp[Wp]
   refine⟨(Q8<|t.1+Zb L x.Number,ZB t.2 x.Place.toNat<|Q8<|t.2 x.Place.toNat+Zb L x.Number),?_,?_,λj=> ?_⟩
   ·unfold Ke;simp only[a,B2,Z2,u,K2,g];rw[w4 (A:=[⟨L,true⟩]) (i:=0) rfl];simp only[K2,b,W2,Bm,z,QS,y]
   ·rw[hs,s,OI]
   ·rw[hs];by_cases e:j=x.Place.toNat
    ·subst e;show ZB _ _ _ _=_;rw[Ex.VJ,d,OI];show _=Q8 (_+if x.Place=((x.Place.toNat:Nat):Int) then _ else _);rw[BY eB]
    ·show ZB _ _ _ _=_;rw[Ex.UR e,d];show _=Q8 (_+if x.Place=(j:Int) then _ else _);rw[B1 eB,iH])
  (λt _=>by unfold Ke;simp) l [] (0,λ_=>0) rfl ⟨rfl,λ_=>rfl⟩
 exact⟨t.2,by rw[<-m];exact q,o⟩
theorem kW(l:Q0 (Q0 H1))(Y:∀x∈l,x.length<=140737488351232):Yz l=some true:=by
 unfold Yz
 suffices h:∃A,JY [] [] l=some (true,A) by obtain⟨A,h⟩:=h;rw[h];rfl
 unfold JY;obtain⟨b,Z,y⟩:=gy l Y;rw[Z,K2];cases b with
 | false=>
  simp only[k4,B2,TS,K2];exact⟨_,rfl⟩
 | true=>
  obtain⟨hl,g⟩:=y rfl
  have F:∀x∈l,x.length<=4000:=λx hx=>by
   obtain⟨a,b,rfl⟩:=lP hx;have:WV (a++x::b)=WV a+(x.length+1)+WV b:=by simp[WV];omega
   omega
  have G:Hg []=some (some 0,[⟨Gs,true⟩]):=rfl;simp only[RK,W2,Bm,G,K2,lN,QS,r7];obtain⟨L,W,t,H,Q,hW⟩:=Mv hl F (r:=(some 0,[⟨Gs,true⟩])) rfl l [] Gs ⟨0,false,⟨[],0,0,0⟩⟩ rfl (Inv.start.up eF eF) ⟨rfl,.inl ⟨rfl,vA.start⟩⟩;have n:ZU (Zz [] l (some 0,[⟨Gs,true⟩])) (0,[⟨Gs,true⟩],[⟨0,false,⟨[],0,0,0⟩⟩])=some (.inl ([⟨L,true⟩],[W])):=t;have aD:=H.casks;have aE:=H.duties;have hC:JS [⟨L,true⟩] (some 0)=some L.casks:=Mk rfl eB;have R:JA [⟨L,true⟩] (some 0)=some L.duties:=yX rfl eB;rw[n,K2];simp only[kp,C2,K2,hC];rcases hW with⟨I,g⟩ | ⟨I,o,b,g,hM⟩
  ·simp only[I,k4,B2,g.casks,kp,hJ,hF,R,g.duties,K2,TS];exact⟨_,rfl⟩
  ·simp only[I,RK,W2,Bm]
   have K:Ca.Sm L.casks W.day=((Ca.N9<|Ca.R2 L.day o).map (·.C),(L.casks.length:Int),0):=by
    unfold Ca.Sm;rw[Q,g.bc.tT]
   have m:=g.ds.bd.tT g.rok g.bc.day g.ds.calm.mov;have z:=IP W.rules L.duties L.day;rw[m] at z
   rw[Ca.FX,K2,K,R,K2,Ex.FX (H.rules _ g.ds.rules) eB,K2,show Ex.vy (Ex.JV W.rules L.duties W.day)=(b,(L.duties.length:Int),0) by rw[Q];exact m];simp only[iA,oZ,W2,Bm];have E:Bp (Zb L) (Ca.R2 L.day o) b.Bonds (b.Made - b.Used):=g.ev.rk _;have B:=(Ca.GR g.bc.tT).1;have u:=qK E.nd
   have M:yG ((Ca.N9<|Ca.R2 L.day o).map (·.C))=EO (Ca.N9<|Ca.R2 L.day o):=by
    unfold yG EO;rw[lJ];rfl
   have q:∀f:Int×Int->Int,Wp f (yG<|(Ca.N9<|Ca.R2 L.day o).map (·.C))=Wp f (EO<|Ca.R2 L.day o):=λf=>by rw[M];exact jl<|u.map gg
   obtain⟨S,hS,N⟩:=jk (r:=(some 0,[⟨Gs,true⟩])) rfl (L:=L) (A2:=[W]) (k:=(L.casks.length:Int)) (e:=0) ((Ca.N9<|Ca.R2 L.day o).map (·.C)) (by rw[ei,u.length_eq];have:=B.few;omega) λc hc=>by
    obtain⟨c',P,rfl⟩:=rm.1 hc;have s:=u.mem_iff.1 P;obtain⟨i,hi⟩:=lr s;have T:=E.amt i c' hi;have V:=(B.each c' s).place;exact⟨T.1,T.2.1,V.1,V.2⟩
   rw[hS,K2]
   have d:∀j:Nat,j < 16->b.Bonds j=S j:=λj X=>by
    rw[N,q,<-E.bonds j X];have:=z.1 j X;simp only[O1,Do,AT] at this
    exact(Qo eB eB).symm
   have heq:Cb b.Bonds S=true:=by
    unfold Cb;rw[d 0 eT,d 1 eT,d 2 eT,d 3 eT,d 4 eT,d 5 eT,d 6 eT,d 7 eT,d 8 eT,d 9 eT,d 10 eT,d 11 eT,d 12 eT,d 13 eT,d 14 eT,d 15 eT];simp
   have v:Q8 (Q8 (Wp (λp=>Zb L p.1)<|yG<|(Ca.N9<|Ca.R2 L.day o).map (·.C))+b.Used)=b.Made:=by
    rw[q,<-E.made,OI,Int.sub_add_cancel];exact Qo eB eB
   have D:=g.ds.calm;simp only[heq,v,D.found,D.lost,D.charged,D.exported,D.mov,kp,hJ,hF,Bool.and_self,B2,TS,K2];exact⟨_,rfl⟩
end
section
open Go.Dec Go.Shelf Go.RowKit Go.Maps Go.Sort Go.ChangeShapes Go.WideShapes Go.ChangeAt
theorem Tryz.own:ownKnob Tryz.prog.godebug=none:=by kernel_rfl
theorem Tryz.laidOut:laidOutB Tryz.prog=true:=by kernel_rfl
theorem qx{α:Type}{a:So α}{l:Q0 α}(h:a.toList=l):a=l.toArray:=by rw[<-h]
theorem fu:Tryz.prog.globalNamed "internal/strconv.uint64pow10"=some 1:=by kernel_rfl
theorem dx:(Tryz.prog.globals[1]?).map (·.type)=some 305:=by kernel_rfl
theorem xZ:Tryz.prog.cellsOf 261=1:=by kernel_rfl
theorem uz:Tryz.prog.cellsOf 305=20:=by kernel_rfl
theorem vp:(Rows.laid_internal_strconv_uint64pow10:DataW Unit)=Go.Lib.tabData .u64 Go.Lib.pow10Tab:=by kernel_rfl
theorem jE:((begin Tryz.prog (λ_ _=>0) default).world.heap[0]?).bind Obj.row? =some (#[.int .i64 0],3):=by kernel_rfl
theorem kC{W:By}(h:laidMetH Tryz.prog Rows.officeBondsRow.laid W):laidMet Tryz.prog Rows.officeBondsRow.laid W:=by
 rwa[ia _ _ _ x0] at h
set_option maxRecDepth 100000 in
theorem wc{W:By}(h:laidMetH Tryz.prog Rows.officeBondsRow.laid W)(a:W.ShapedOpen Tryz.prog):HB (FW W):=by
 obtain⟨ps,c,_,_⟩:=kC h;refine⟨?_,?_⟩
 ·obtain⟨g,t,cs,b,p,T,fr,d,e,f,i⟩:=jH 2 rfl c;obtain rfl:=Tc<|fu.symm.trans d;obtain rfl:=Tc<|dx.symm.trans e;have j:=Go.Lib.cells_of_tab Tryz.underlying305 Tryz.underlying261 xZ uz (by rw[<-vp];exact i);exact⟨1,T,fr,fu,by rw[show(FW W).mem 1=W.heap[1]? from rfl,f,qx j];rfl⟩
 ·obtain⟨m,k⟩:=iI (P:=Tryz.prog) (g:=0) (t:=3) (zero:=#[.int .i64 0]) a (ll x0) jE rfl x0 x0 Tryz.underlying3;obtain⟨T,fr,l⟩:=MS a (ll x0) jE rfl k;exact⟨m,T,fr,l⟩
end
section
open Go.Dec
open Go.ChangeShapes Go.WideShapes Go.ChangeAt Go.RowKit
def Hq:Prop:=∀(a0:(Q0<|Q0 H1)),(∀y∈a0,y.length<=140737488351232)->Yz a0=some true
set_option maxRecDepth 100000 in
theorem TC(d:Hq)(os:Os)(started:os.Started)(H:Type)(enc:S1×UV->H):ReturnsInHanded {} Tryz.checked os 3 .any (λw args=>(Rows.officeBondsSpec.pre enc Tryz.prog Tryz.f3 Rows.officeBondsRow.domain false w args/\laidMetH Tryz.prog Rows.officeBondsRow.laid w)/\sizedMet enc Tryz.prog Tryz.f3 (OpenSpec.ofChange Rows.officeBondsSpec) false w args) (Rows.officeBondsSpec.post enc Tryz.prog Tryz.f3 false true false false):=by
 refine kB (C:=Tryz.checked) (X:=λw=>laidMetH Tryz.prog Rows.officeBondsRow.laid w) (λ_ _ i h=>h.of_heap i) Tryz.own started x0 Tryz.func3
  (ChangeSpec.witness_shaped (enc:=enc) (C:=Tryz.checked) (os:=os) (X:=λw _=>laidMetH Tryz.prog Rows.officeBondsRow.laid w) false (World.laidAll Tryz.prog os Rows.officeBondsRow.laid) #[.slice none 0 0] 12 (World.laidAll_os _ _ _) (World.shaped_of_ZipB x0 x0) x0 x0 x0
   (by rw[ia _ _ _ x0];exact laidMet_laidAll _ x0 x0)) ?_
 intro W base args ds j before a k e l m;have n:HB (FW W):=wc l e;refine LN (P:=Tryz.prog) Tryz.laidOut x0 rfl x0 (by kernel_rfl:Tryz.f3.resultTypes=#[4]) Tryz.underlying4 (λds h=> ?_) base args ds j before (λps a b c=> ?_) a k m
 ·match ds,h with
  | [o],_=>rfl
 ·rw[Tryz.params3] at b a c
  obtain⟨v0,z,o,_,_,_,p,rfl,_,q,b⟩:=trodAll_cons b;have r:=OG c
  replace c:=OE c
  obtain⟨s,_,_⟩:=trodAll_nil b;subst s;obtain rfl:args=[v0].toArray:=by rw[<-p]
  obtain⟨f,t,u,v,rfl,x⟩:=xb Tryz.underlying22 Tryz.underlying9 x0 (a 0 _ _ rfl rfl) q r;have y:=d f v;have g:=Fy (FW W) n f t u x;rw[y] at g
  exact g
theorem PV(a:Hq):Rows.OfficeBondsSaid:=
 OpenClaim.holds_of_wide 3 Tryz.f3 rfl rfl rfl rfl rfl rfl rfl ⟨rfl,rfl,rfl,rfl,rfl⟩ rfl rfl rfl rfl rfl x0 Tryz.func3 x0
  (ll x0) (by unfold Func.isWrapper;first | (rw[BY<|by decide+kernel];kernel_rfl) | (rw[B1<|by decide+kernel];exact⟨rfl,rfl⟩))
  (λos started H enc _=>TC a os started H enc)
theorem Pz(b:Hq):Rows.OfficeBondsCardSaid:=
 Claim7.holds_tied_plain_at .later [] [.data,.data,.data] true (true, "623388f38323a74ee661a591b8d8693cc91cb054a151b6868d1bd7abfbefcfbe") true (PV b) (λ_ h=>by cases h) x0 (λ_ h=>by cases h) officeBonds_row_tie rfl ⟨rfl,rfl⟩ x0 rfl
  (λf fn e c=>by
   obtain rfl:f=3:=Tc ((show Tryz.prog.funcNamed "wormtub/wormtublaw15.OfficeBonds"=some 3 by kernel_rfl).symm.trans e) |>.symm;obtain rfl:fn=Tryz.f3:=(Tc<|Tryz.func3.symm.trans c).symm
   exact⟨by kernel_rfl,λj t g=>by
    have a:(Tryz.f3.params.toList.all λu=> !Tryz.prog.wantsStandIn u)=true:=by kernel_rfl
    have d:=Array.mem_of_getElem? g;exact(show Tryz.prog.wantsStandIn t=false by first | (simp at d;done) | simpa using List.all_eq_true.1 a t (by simpa using d))⟩)
  x0
end
section
theorem Rv:Hq:=λl h=>kW l h
theorem officeBonds_holds:Rows.OfficeBondsCardSaid:=Pz Rv
end
end Go.Proofs.YtdoocboganbagaaGreatDoor
end
