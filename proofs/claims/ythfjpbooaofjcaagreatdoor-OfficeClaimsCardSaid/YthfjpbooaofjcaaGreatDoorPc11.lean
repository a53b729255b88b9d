/- OfficeClaims is true whatever its inputs are: no condition but the row's own. -/
import Derived.Test.YthfjpbooaofjcaaGreatDoorPc10
import Derived.Test.YthfjpbooaofjcaaGreatDoorTie
import Derived.Test.YthfjpbooaofjcaaGreatDoorCards
import Derived.ChangeMaps5
noncomputable section
namespace Go.Dec
abbrev qBE:=@MakeChecks.laidMetH_plain
end Go.Dec
section
set_option maxRecDepth 100000
set_option maxHeartbeats 4000000
namespace Go.Proofs.YthfjpbooaofjcaaGreatDoor
open Go.Dec Go.Proofs.Tryz Go.Shelf Go.RowKit Go.Maps Go.Sort
abbrev mI(F:Fz)(b:Nat)(l:Q0 (Int×Int)):HP:=Qc AY yK F b l
abbrev HD(l:Q0 (Int×Int))(k:Int):Int:=(QZ l k).getD 0
def GM(a:Int)(d:Qm)(last:Int)(wood place:Q0 (Int×Int))(to:Int):Q2 Qm:=
 if decide (a≥0) then(YY 8<|HD wood a).bind λj=>(YY 8<|HD place a).bind λk=>
  some ⟨d.batch,Qy<|Qy (d.age+to) - last,ZF d.woods j<|Qy<|Qy (d.woods j+to) - last,ZF d.places k<|Qy<|Qy (d.places k+to) - last⟩
 else some d
theorem E8(F0 s:Fz)(le:s<=F0)(a:Int)(d:Qm)(last to:Int)(wood place:Q0 (Int×Int))(b e l t u B C:Nat)(w:F0.mem t=some (.cells #[.map<|some B] 56))(x:F0.mem u=some (.cells #[.map<|some C] 56)):X6 prog 23 #[vI to,vP b 0,vP e 0,vP l 0,vP t 0,vP u 0] F0 [pc b [vI a] 3,pc e (QH d) 49,pc l [vI last] 3,mI s B wood,mI s C place] (GM a d last wood place to)
   (λ_ _ v=>v= .tuple #[]) (λr D=>[pc b [vI a] 3,pc e (QH r) 49,pc l [vI to] 3,mI D B wood,mI D C place]):=by
 refine X6.enter func23 J ntmps23 J λr R=> ?_;refine .o (Sub.refl _) (J:_=[pc b [vI a] 3,pc e (QH d) 49,pc l [vI last] 3,mI s B wood,mI s C place,R]) ?_;unfold GM;refine .sg 3 (λ_ h=>KG le h) J<|.sg 4 (λ_ h=>KG le h) J ?_;refine .q<|.q<|.g<|.ca J V3 J (i:=0) J J<|.geq J J J<|.n<|.c<|.i J (λE=> ?_) λE=> ?_
 .refine .d λj y=>.d λk A=> ?_;refine .q (.g<|.f J jD J W3 J<|.ca J V3 J (i:=1) J J<|.m J J<|.add J J J<|.ca J V3 J (i:=2) J J<|.sub J J J<|.f J jD J W3 J<|.store (cs' :=QH ⟨d.batch,Qy<|Qy (d.age+to) - last,d.woods,d.places⟩) W3 J J J J (i:=1) J (K4 J) J x0<|.n<|.c ?_);refine .q (.cz 15 Qd x0<|.U J zT J w J<|.ca J V3 J (i:=0) J J<|.sS (key:=a) (z:=0) 3 J Fz.r J PX (.int U3) Tryz.zeroValue3 J J J λv p=> ?_);subst p;refine .U J zT J w J<|.ca J V3 J (i:=0) J J<|.sS (key:=a) (z:=0) 3 J Fz.r J PX (.int U3) Tryz.zeroValue3 J J J λv p=> ?_;subst p;refine .f J jD J Tk J (.cf J R8 W3 J J y<|.ca J V3 J (i:=1) J (UW 8 (λj=>(QH ⟨d.batch,Qy<|Qy (d.age+to) - last,d.woods,d.places⟩)[0+2+j*1]?) (λj=>some<|vI<|d.woods j) J (Q6 y).2.2.2)<|.m J J<|.add J J J<|.ca J V3 J (i:=2) J J<|.sub J J J<|.f J jD J Tk J<|.cf J R8 W3 J J y<|.sI<|.store (cs' :=QH ⟨d.batch,Qy<|Qy (d.age+to) - last,ZF d.woods j<|Qy<|Qy (d.woods j+to) - last,d.places⟩) W3 J J J J (i:=1) J (show 0+2+j*1+1<=18 by have:=(Q6 y).2.2.2;omega) J (UW 8 (λj=>Ki (QH ⟨d.batch,Qy<|Qy (d.age+to) - last,d.woods,d.places⟩) (0+2+j*1) [vI<|Qy<|Qy (d.woods j+to) - last]) (λj=>QH ⟨d.batch,Qy<|Qy (d.age+to) - last,ZF d.woods j<|Qy<|Qy (d.woods j+to) - last,d.places⟩) J (Q6 y).2.2.2)<|.n<|.c ?_);refine .cz 15 Qd x0<|.U J zT J x J<|.ca J V3 J (i:=0) J J<|.sS (key:=a) (z:=0) 4 J Fz.r J PX (.int U3) Tryz.zeroValue3 J J J λv p=> ?_;subst p;refine .U J zT J x J<|.ca J V3 J (i:=0) J J<|.sS (key:=a) (z:=0) 4 J Fz.r J PX (.int U3) Tryz.zeroValue3 J J J λv p=> ?_;subst p;generalize ZF d.woods j (Qy<|Qy (d.woods j+to) - last)=W;refine .f J jD J Tk J (.cf J R8 W3 J J A<|.ca J V3 J (i:=1) J (UW 8 (λk=>(QH ⟨d.batch,Qy<|Qy (d.age+to) - last,W,d.places⟩)[0+10+k*1]?) (λk=>some<|vI<|d.places k) J (Q6 A).2.2.2)<|.m J J<|.add J J J<|.ca J V3 J (i:=2) J J<|.sub J J J<|.f J jD J Tk J<|.cf J R8 W3 J J A<|.sI<|.store (cs' :=QH ⟨d.batch,Qy<|Qy (d.age+to) - last,W,ZF d.places k<|Qy<|Qy (d.places k+to) - last⟩) W3 J J J J (i:=1) J (show 0+10+k*1+1<=18 by have:=(Q6 A).2.2.2;omega) J (UW 8 (λk=>Ki (QH ⟨d.batch,Qy<|Qy (d.age+to) - last,W,d.places⟩) (0+10+k*1) [vI<|Qy<|Qy (d.places k+to) - last]) (λk=>QH ⟨d.batch,Qy<|Qy (d.age+to) - last,W,ZF d.places k<|Qy<|Qy (d.places k+to) - last⟩) J (Q6 A).2.2.2)<|.n<|.c ?_);refine .g<|.m J J<|.store (cs' :=[vI to]) W3 J J J J (i:=2) J (K4 J) J J<|.n ?_;exact .al [0,0,0,0,0,0] results23 (.nil) J Fz.r J
 .refine .skip<|.c<|.g<|.m J J<|.store (cs' :=[vI to]) W3 J J J J (i:=2) J (K4 J) J J<|.n ?_;exact .al [0,0,0,0,0,0] results23 (.nil) J Fz.r J
abbrev fz:=Int×Qm×Int×Q0 (Int×Int)×Q0 (Int×Int)×Q0 (Int×Int)×Int
def IV(fill:Int)(s:fz)(x:QE)(d:Qm)(g:Bool):Q2 (UN fz<|fz ⊕ Qm):=
 if x.Kind==0 then some (.next (s.1,d,x.Day,s.2.2.2.1,Qq s.2.2.2.2.1 x.Cask x.Other,Qq s.2.2.2.2.2.1 x.Cask x.Where,Qy<|s.2.2.2.2.2.2+1))
 else if x.Kind==1 then(if s.2.2.2.2.2.2==fill then some (.next (x.Cask,d,x.Day,Qq s.2.2.2.1 x.Cask<|Qy<|HD s.2.2.2.1 x.Cask+x.Amount,s.2.2.2.2.1,s.2.2.2.2.2.1,Qy<|s.2.2.2.2.2.2+1))
  else some (.next (s.1,d,x.Day,Qq s.2.2.2.1 x.Cask<|Qy<|HD s.2.2.2.1 x.Cask+x.Amount,s.2.2.2.2.1,s.2.2.2.2.2.1,Qy<|s.2.2.2.2.2.2+1)))
 else if x.Kind==2 then(if g then some (.next (x.Other,d,x.Day,Qq (Qq s.2.2.2.1 x.Cask<|Qy<|HD s.2.2.2.1 x.Cask - x.Amount) x.Other<|Qy<|HD (Qq s.2.2.2.1 x.Cask<|Qy<|HD s.2.2.2.1 x.Cask - x.Amount) x.Other+x.Amount,s.2.2.2.2.1,s.2.2.2.2.2.1,Qy<|s.2.2.2.2.2.2+1))
  else some (.next (s.1,d,x.Day,Qq (Qq s.2.2.2.1 x.Cask<|Qy<|HD s.2.2.2.1 x.Cask - x.Amount) x.Other<|Qy<|HD (Qq s.2.2.2.1 x.Cask<|Qy<|HD s.2.2.2.1 x.Cask - x.Amount) x.Other+x.Amount,s.2.2.2.2.1,s.2.2.2.2.2.1,Qy<|s.2.2.2.2.2.2+1)))
 else if x.Kind==3 then(if g then some (.done<|.inr d) else some (.next (s.1,d,x.Day,Qq s.2.2.2.1 x.Cask<|Qy<|HD s.2.2.2.1 x.Cask - x.Amount,s.2.2.2.2.1,s.2.2.2.2.2.1,Qy<|s.2.2.2.2.2.2+1)))
 else if x.Kind==4 then some (.next (s.1,d,x.Day,s.2.2.2.1,s.2.2.2.2.1,Qq s.2.2.2.2.2.1 x.Cask x.Where,Qy<|s.2.2.2.2.2.2+1))
 else if x.Kind==8 then some (.next (s.1,d,x.Day,s.2.2.2.1,Qq s.2.2.2.2.1 x.Cask x.Where,s.2.2.2.2.2.1,Qy<|s.2.2.2.2.2.2+1))
 else some (.next (s.1,d,x.Day,s.2.2.2.1,s.2.2.2.2.1,s.2.2.2.2.2.1,Qy<|s.2.2.2.2.2.2+1))
def Dm(l:Q0 QE)(fill:Int)(by_:Q0 Int)(s:fz):Q2 (UN fz<|fz ⊕ Qm):=
 if decide (s.2.2.2.2.2.2 < (l.length:Int)) then(ZI l s.2.2.2.2.2.2).bind λx=>(GM s.1 s.2.1 s.2.2.1 s.2.2.2.2.1 s.2.2.2.2.2.1 x.Day).bind λd=>
  (if s.1==x.Cask then(if x.Amount==HD s.2.2.2.1 x.Cask then some true else(SI s.2.2.2.2.2.2 (by_.length:Int)).bind λq=>(ZI by_ q).bind λy=>some<|Int.tmod y 2==1) else some false).bind λg=>IV fill s x d g
 else some (.done<|.inl s)
def zD:Qm:=⟨0,0,λ_=>0,λ_=>0⟩
def Vz(l:Q0 QE)(fill number day:Int)(by_:Q0 Int):Q2 (Qm×Bool):=
 (ZV (Dm l fill by_) (-1,zD,0,[],[],[],0)).bind λb=>match b with
 | .inr d=>some (d,false)
 | .inl s=>(GM s.1 s.2.1 s.2.2.1 s.2.2.2.2.1 s.2.2.2.2.2.1 day).bind λd=>some (d,s.1==number)
theorem Sh(F0:Fz)(l:Q0 QE)(p:Q2 C1)(k:Nat)(hl:QI 8 (Ex QK) F0 p k l)(fill number day:Int)(by_:Q0 Int)(p9:Q2 C1)(S:Nat)(aI:QI 1 (Ex<|Zy .u8) F0 p9 S by_):KO prog 11 #[vS p l k,vI fill,vI number,vI day,vS p9 by_ S] F0 (Vz l fill number day by_) (λr _ v=>v= .tuple #[WH r.1,.bool r.2]):=by
 refine KO.enter func11 J ntmps11 J λr R=> ?_;unfold Vz;refine .q<|.g<|.l (cs:=QH zD) J dE J λA=>.s J J<|.n<|.c<|.q<|.g<|.l (cs:=QH zD) J dE J λj=>.n<|.c<|.q<|.g<|.sY AY yK J λm3=>.sY AY yK J λN=>.sY AY yK J λP=>.l (cs:=[.map none]) J Tryz.zeroValue56 J λI=>.l (cs:=[.map none]) J Tryz.zeroValue56 J λK=> ?_;refine .s J J<|.store (cs' :=[.map<|some N]) vU J J J J (i:=1) J (K4 J) J J<|.store (cs' :=[.map<|some P]) vU J J J J (i:=0) J (K4 J) J J<|.freeze 1 J λF1 V W=>.freeze 0 J λY l2 X=> ?_;refine .n<|.c<|.q<|.g<|.l (cs:=[vI 0]) J Y3 J λu=>.l (cs:=[vI 0]) J Y3 J λB=>.store (cs' :=[vI<|-1]) W3 J J J J (i:=1) J (K4 J) J J<|.store (cs' :=[vI 0]) W3 J J J J (i:=0) J (K4 J) J J<|.n<|.c<|.q<|.g<|.makeFunc J J<|.s J J<|.n<|.c<|.q<|.q<|.g<|.s J J<|.n<|.c<|.k ?_;refine .o (.p [0,1,2,3,4,10,11,12,13,14,15,16,17,18,19] J) (J:_=[pc B [vI 0] 3,pc u [vI<|-1] 3,mI F0 P [],mI F0 N [],mI F0 m3 [],pc j (QH zD) 49,pc A (QH zD) 49,R]) ?_
 refine .loop (fun(s:fz) a w=>∃F,Y<=F/\Hd 155 [] [(0,vS p l k),(1,vI fill),(2,vI number),(3,vI day),(4,vS p9 by_ S),(10,vP A 0),(11,.bool false),(12,vP j 0),(13,.map<|some m3),(14,vP I 0),(15,vP K 0),(16,vP u 0),(17,vP B 0),(18,.func (.func 23) #[] #[vP u 0,vP j 0,vP B 0,vP I 0,vP K 0]),(19,vI s.2.2.2.2.2.2)] F [pc u [vI s.1] 3,pc j (QH s.2.1) 49,pc B [vI s.2.2.1] 3,mI F m3 s.2.2.2.1,mI F N s.2.2.2.2.1,mI F P s.2.2.2.2.2.1,pc A (QH zD) 49,R] a w)
  (λb e a w=>match b with
   | .inl s=>e= .exit 0/\∃F,Y<=F/\Hd 155 [] [(2,vI number),(3,vI day),(10,vP A 0),(12,vP j 0),(16,vP u 0),(18,.func (.func 23) #[] #[vP u 0,vP j 0,vP B 0,vP I 0,vP K 0])] F [pc u [vI s.1] 3,pc j (QH s.2.1) 49,pc B [vI s.2.2.1] 3,mI F N s.2.2.2.2.1,mI F P s.2.2.2.2.2.1,pc A (QH zD) 49,R] a w
   | .inr d=>e= .ret/\∃F,Y<=F/\Hd 155 [] [(10,vP A 0),(11,.bool false)] F [pc A (QH d) 49,R] a w) ?_ ?_ ?_
 .exact λa w h=>⟨Y,Fz.r,h.1.sub<|.k J,h.2.mono λ_ hm=>ZJ (λ_ h=>h) (ZJ (λ_ h=>h)<|ZJ (λ_ h=>h)<|ZJ (λ_ h=>KG (Fz.t V l2) h)<|ZJ (λ_ h=>KG (Fz.t V l2) h)<|ZJ (λ_ h=>KG (Fz.t V l2) h) λ_ h=>h) _<|YZ (ks:=[1,4,0,2,1,0,0,0]) hm⟩
 .intro s aR;refine GG.ex λa w ⟨F,M,hA⟩=>⟨_,hA,?_⟩;unfold Dm IV;refine .q<|.q<|.g<|.m J J<|.m J J<|.sO J J Ih J<|.lss J J J<|.n<|.c<|.i J (λaC=> ?_) λaC=> ?_
  .refine .skip (.c<|.q<|.k<|.q<|.g<|.m J J<|.m J J<|.idx J Ih jv (hl.mono<|Fz.t V<|Fz.t l2 M) J J λx b o T fr cs e hm H=>.sB J dr jv J hm H J<|.l (cs:=QK ⟨0,0,0,0,0,0,0,0⟩) J ve J λaJ=>.store (cs' :=QK x) jv J J J J (i:=0) J (K4 J) J (QX ij)<|.n<|.c<|.q<|.g<|.m J J<|.f J VW J W3 J<|.ca J V3 J (i:=0) J J ?_);refine .sM [1,1,1,2,2] J call23 J J J J (E8 F F Fz.r s.1 s.2.1 s.2.2.1 x.Day s.2.2.2.2.1 s.2.2.2.2.2.1 u j B I K N P ((Fz.t l2 M).mem _ _ W)<|M.mem _ _ X) ?_;rintro d Q _ - l3 rfl;have E:Y<=Q:=Fz.t M l3;refine .n<|.c<|.q<|.g<|.ca J V3 J (i:=0) J J<|.f J VW J W3 J<|.ca J V3 J (i:=5) J J<|.eql J J J<|.m J J<|.andM (b:=s.1==x.Cask) 19 63 (λC z=> ?_) (λC=> ?_) λg G Z=> ?_
   .refine .cc C J J<|.f J VW J W3 J<|.cc C J J<|.ca J V3 J (i:=5) J J<|.cc C J J<|.m J J<|.cc C J J<|.f J VW J W3 J<|.cc C J J<|.ca J V3 J (i:=5) J J<|.cc C J J<|.sS (key:=x.Cask) (z:=0) 6 J l3 J PX (.int U3) Tryz.zeroValue3 J J J λv H=> ?_;obtain rfl:=H;refine .cc C J J<|.eql J J J<|.cc C J J<|.m J J<|.ite (λD=> ?_) λD=> ?_
    .refine .sF D J J J<|.sF D J J J<|.sF D J J J<|.sF D J J J<|.sF D J J J<|.sF D J J J<|.sF D J J J<|.sF D J J J<|.sF D J J J<|.cc C J J<|.cn D J J J<|.cn C J J J ?_;exact .sh 19 J J x0 Fz.r
    .refine .cc D J J (.m J J<|.cc D J J<|.m J J<|.cc D J J<|.m J J<|.cc D J J<|.sO J J dL J<|.cc D J J<|.rem J J J λq hq=>.cc D J J<|.idx J dL W5 (aI.mono<|Fz.t V<|Fz.t l2 E) J J λy b o T fr cs e hm H=>.cc D J J<|.U J V5 J hm (QF (k:=0) H J)<|.cc D J J<|.rL J ig J J<|.cc D J J<|.eql J J J<|.cc C J J<|.sD D J J J<|.cn C J J J ?_);exact .sh 19 J J x0 Fz.r
   .refine .sF C J J J<|.sF C J J J<|.sF C J J J<|.sF C J J J<|.sF C J J J<|.sF C J J J<|.sF C J J J<|.sF C J J J<|.off J J J J<|.off J J J J<|.off J J J J<|.off J J J J<|.off J J J J<|.off J J J J<|.off J J J J<|.off J J J J<|.off J J J J<|.sF C J J J<|.sD C J J J ?_;exact .fin 19 J J x0 Fz.r
   have E:Y<=G:=Fz.t E Z;have aE:=E.mem _ _ X;have aF:=(Fz.t l2 E).mem _ _ W;refine .sg 3 (λ_ h=>KG Z h) J<|.sg 4 (λ_ h=>KG Z h) J<|.sg 6 (λ_ h=>KG (Fz.t l3 Z) h) J<|.pick [0,0,0,3,0,0,1,0,0] (J:_=[pc u [vI s.1] 3,pc j (QH d) 49,pc B [vI x.Day] 3,mI G m3 s.2.2.2.1,mI G N s.2.2.2.2.1,mI G P s.2.2.2.2.2.1,pc A (QH zD) 49,pc aJ (QK x) 46,R]) ?_;refine .s J J<|.n<|.c<|.q<|.g<|.f J VW J W3 J<|.ca J V3 J (i:=7) J J<|.n<|.c<|.k<|.q<|.g<|.eql J J J<|.s J J<|.n<|.c<|.i J (λe0=> ?_) λe0=> ?_
   .refine .q<|.g<|.U J zT J aF J<|.f J VW J W3 J<|.ca J V3 J (i:=7) J J<|(.f J VW J W3 J<|.ca J V3 J (i:=7) J J<|.sN (key:=x.Cask) (val:=x.Other) 4 J Fz.r PX (.int U3) J J J (λ_ _=>J) J<|.n<|.c<|.g<|.U J zT J aE J<|.f J VW J W3 J<|.ca J V3 J (i:=7) J J<|(.f J VW J W3 J<|.ca J V3 J (i:=7) J J<|.sN (key:=x.Cask) (val:=x.Where) 5 J Fz.r PX (.int U3) J J J (λ_ _=>J) J<|.n<|.k<|.k<|.c<|.g<|.m J J<|.add J J J<|.s J J<|.n<|.drop 7 ?_));exact .cg<|Qu.norm λa w h=>⟨G,E,h.1.sub<|.k J,h.2⟩
   .refine .q<|.g<|.eql J J J<|.s J J<|.n<|.c<|.i J (λe1=> ?_) λe1=> ?_
    .refine .q<|.g<|.m J J<|.f J VW J W3 J<|.ca J V3 J (i:=7) J J<|.m J J<|.f J VW J W3 J<|.ca J V3 J (i:=7) J J<|.sS (key:=x.Cask) (z:=0) 3 J Fz.r J PX (.int U3) Tryz.zeroValue3 J J J λv H=> ?_;obtain rfl:=H;refine .f J VW J W3 J<|.ca J V3 J (i:=7) J J<|.add J J J<|.sN (key:=x.Cask) (val:=Qy<|HD s.2.2.2.1 x.Cask+x.Amount) 3 J Fz.r PX (.int U3) J J J (λ_ _=>J) J<|.n<|.c<|.q<|.g<|.m J J<|.m J J<|.eql J J J<|.n<|.c<|.i J (λe2=> ?_) λe2=> ?_
     .refine .g<|.f J VW J W3 J<|.ca J V3 J (i:=7) J J<|.store (cs' :=[vI x.Cask]) W3 J J J J (i:=0) J (K4 J) J J<|.n<|.k<|.k<|.c<|.g<|.m J J<|.add J J J<|.s J J<|.n<|.drop 7 ?_;exact .cg<|Qu.norm λa w h=>⟨G,E,h.1.sub<|.k J,h.2⟩
     .refine .skip<|.k<|.k<|.c<|.g<|.m J J<|.add J J J<|.s J J<|.n<|.drop 7 ?_;exact .cg<|Qu.norm λa w h=>⟨G,E,h.1.sub<|.k J,h.2⟩
    .refine .q<|.g<|.eql J J J<|.s J J<|.n<|.c<|.i J (λe2=> ?_) λe2=> ?_
     .refine .q<|.g<|.m J J<|.f J VW J W3 J<|.ca J V3 J (i:=7) J J<|.m J J<|.f J VW J W3 J<|.ca J V3 J (i:=7) J J<|.sS (key:=x.Cask) (z:=0) 3 J Fz.r J PX (.int U3) Tryz.zeroValue3 J J J λv H=> ?_;obtain rfl:=H;refine .f J VW J W3 J<|.ca J V3 J (i:=7) J J<|.sub J J J<|.sN (key:=x.Cask) (val:=Qy<|HD s.2.2.2.1 x.Cask - x.Amount) 3 J Fz.r PX (.int U3) J J J (λ_ _=>J) J<|.n<|.c<|.q<|.g<|.m J J<|.f J VW J W3 J<|.ca J V3 J (i:=7) J J<|.m J J<|.f J VW J W3 J<|.ca J V3 J (i:=7) J J<|.sS (key:=x.Other) (z:=0) 3 J Fz.r J PX (.int U3) Tryz.zeroValue3 J J J λv H=> ?_;obtain rfl:=H;refine .f J VW J W3 J<|.ca J V3 J (i:=7) J J<|.add J J J<|.sN (key:=x.Other) (val:=Qy<|HD (Qq s.2.2.2.1 x.Cask<|Qy<|HD s.2.2.2.1 x.Cask - x.Amount) x.Other+x.Amount) 3 J Fz.r PX (.int U3) J J J (λ_ _=>J) J<|.n<|.c<|.q<|.g<|.m J J<|.n<|.c<|.i J (λe3=> ?_) λe3=> ?_
      .refine .g<|.f J VW J W3 J<|.ca J V3 J (i:=7) J J<|.store (cs' :=[vI x.Other]) W3 J J J J (i:=0) J (K4 J) J J<|.n<|.k<|.k<|.c<|.g<|.m J J<|.add J J J<|.s J J<|.n<|.drop 7 ?_;exact .cg<|Qu.norm λa w h=>⟨G,E,h.1.sub<|.k J,h.2⟩
      .refine .skip<|.k<|.k<|.c<|.g<|.m J J<|.add J J J<|.s J J<|.n<|.drop 7 ?_;exact .cg<|Qu.norm λa w h=>⟨G,E,h.1.sub<|.k J,h.2⟩
     .refine .q<|.g<|.eql J J J<|.s J J<|.n<|.c<|.i J (λe3=> ?_) λe3=> ?_
      .refine .q<|.g<|.m J J<|.f J VW J W3 J<|.ca J V3 J (i:=7) J J<|.m J J<|.f J VW J W3 J<|.ca J V3 J (i:=7) J J<|.sS (key:=x.Cask) (z:=0) 3 J Fz.r J PX (.int U3) Tryz.zeroValue3 J J J λv H=> ?_;obtain rfl:=H;refine .f J VW J W3 J<|.ca J V3 J (i:=7) J J<|.sub J J J<|.sN (key:=x.Cask) (val:=Qy<|HD s.2.2.2.1 x.Cask - x.Amount) 3 J Fz.r PX (.int U3) J J J (λ_ _=>J) J<|.n<|.c<|.q<|.g<|.m J J<|.n<|.c<|.i J (λe4=> ?_) λe4=> ?_
       .refine .q (.g<|.c9 J fu jA J (i:=1) J (vs:=QH d) x0 J<|.store (cs' :=QH d) jA J J J J (i:=6) J (K4 J) J (QX ij)<|.s J J<|.n<|.c ?_);exact .sR<|Qu.ret λa w h=>⟨J,G,E,h.1.sub<|.k J,SH.sd [6,7] J h.2⟩
       .refine .skip<|.k<|.k<|.c<|.g<|.m J J<|.add J J J<|.s J J<|.n<|.drop 7 ?_;exact .cg<|Qu.norm λa w h=>⟨G,E,h.1.sub<|.k J,h.2⟩
      .refine .q<|.g<|.eql J J J<|.s J J<|.n<|.c<|.i J (λe4=> ?_) λe4=> ?_
       .refine .g<|.U J zT J aE J<|.f J VW J W3 J<|.ca J V3 J (i:=7) J J<|(.f J VW J W3 J<|.ca J V3 J (i:=7) J J<|.sN (key:=x.Cask) (val:=x.Where) 5 J Fz.r PX (.int U3) J J J (λ_ _=>J) J<|.n<|.k<|.k<|.c<|.g<|.m J J<|.add J J J<|.s J J<|.n<|.drop 7 ?_);exact .cg<|Qu.norm λa w h=>⟨G,E,h.1.sub<|.k J,h.2⟩
       .refine .q<|.g<|.eql J J J<|.s J J<|.n<|.c<|.i J (λe5=> ?_) λe5=> ?_
        .refine .g<|.U J zT J aF J<|.f J VW J W3 J<|.ca J V3 J (i:=7) J J<|(.f J VW J W3 J<|.ca J V3 J (i:=7) J J<|.sN (key:=x.Cask) (val:=x.Where) 4 J Fz.r PX (.int U3) J J J (λ_ _=>J) J<|.n<|.k<|.k<|.c<|.g<|.m J J<|.add J J J<|.s J J<|.n<|.drop 7 ?_);exact .cg<|Qu.norm λa w h=>⟨G,E,h.1.sub<|.k J,h.2⟩
        .refine .skip<|.k<|.k<|.c<|.g<|.m J J<|.add J J J<|.s J J<|.n<|.drop 7 ?_;exact .cg<|Qu.norm λa w h=>⟨G,E,h.1.sub<|.k J,h.2⟩
  .refine .cw J<|Qu.exit λa w h=>⟨J,F,M,h.1.sub<|.k J,SH.sd [0,0,0,1,1,1,1] J h.2⟩
 .intro b aW hk e a w hD;rcases b with s | d
  .obtain⟨rfl,F,M,hA⟩:=hD;refine Q9 J<|GG.app ?_ hk a w hA;refine .c<|.q<|.g<|.m J J<|.m J J ?_;refine .sM [0,0,0,0,0] J call23 J J J J (E8 F F Fz.r s.1 s.2.1 s.2.2.1 day s.2.2.2.2.1 s.2.2.2.2.2.1 u j B I K N P ((Fz.t l2 M).mem _ _ W)<|M.mem _ _ X) ?_;rintro d Q _ - l3 rfl;refine .o (.p [2,3,10,12,16,18] J) (J:_=[pc u [vI s.1] 3,pc j (QH d) 49,pc B [vI day] 3,mI Q N s.2.2.2.2.1,mI Q P s.2.2.2.2.2.1,pc A (QH zD) 49,R]) ?_;refine .n<|.c<|.q<|.dG 5 0 (λ_=>[vT<|WH d,vT<|vI s.1,vT<|vI number,vT<|.bool<|s.1==number,vT undef]) (λL _=>[pc u [vI s.1] 3,pc j (QH d) 49,pc B [vI day] 3,mI Q N s.2.2.2.2.1,mI Q P s.2.2.2.2.2.1,(bif L 4 then(pc A (QH d) 49) else(pc A (QH zD) 49)),R]) Qd x0 (λ_=>J) (λ_=>J) ?_ λ_ G Z _=> ?_
   .refine .b (λ_ _ _ _=>.c9 J fu jA J (i:=1) J (vs:=QH d) x0 J<|.sU J J Fz.r)<|.b (λ_ _ _ _=>.ca J V3 J (i:=0) J J<|.sU J J Fz.r)<|.b (λ_ _ _ _=>.m J J<|.sU J J Fz.r)<|.b (λ_ _ _ _=>.eql J J J<|.sU J J Fz.r)<|.a (λL env F5 l5 hL aY aZ aP=> ?_) .nil;refine .store (cs' :=QH d) jA J J J J (i:=5) (congrArg some<|KE hL) (K4 J) J (QX ij) ?_;exact .a6 J Fz.r<|R9 5<|JX J
   refine .o (.p [10,154] J) (J:_=[pc u [vI s.1] 3,pc j (QH d) 49,pc B [vI day] 3,mI Q N s.2.2.2.2.1,mI Q P s.2.2.2.2.2.1,pc A (QH d) 49,R])<|.s J J<|.n<|.c ?_;exact .cq results11 (.agg J fu jA (i:=5) J J J<|.tmp J .nil) (i:=6) J (Fz.t V<|Fz.t l2<|Fz.t M<|Fz.t l3 Z) J
  .obtain⟨rfl,F,M,hA⟩:=hD;exact K6<|(Wf results11 (.agg J fu jA (i:=0) J J J<|.tmp J .nil) (i:=1) J (Fz.t V<|Fz.t l2 M) J) hk a w hA
end Go.Proofs.YthfjpbooaofjcaaGreatDoor
end
namespace Go.Proofs.YthfjpbooaofjcaaGreatDoor.Ca
section
open Go.Dec
theorem xV{x:Int}(a:0<=x)(b:x<=7):YY 8 x=some x.toNat:=by
 have:=H0 (n:=8) (i:=x.toNat) hQ
 rwa[Int.toNat_of_nonneg a] at this
theorem L9{f c:Nat}{a last b:Int}{l:Q0 ZY}{am wo pl:Q0 (Int×Int)}{q:Qm}(d:Uq f c last l am wo pl q.age b q.woods q.places)(r:Ah last c l)(_:0<=last)(z:last<=a)(A:a<=65536):∃i,GM b q last wo pl a=some i/\Uq f c a (l.map<|Kj<|a - last) am wo pl i.age b i.woods i.places:=by
 obtain⟨s,g⟩:=d.rQ r (n:=a - last) hQ (w:=((QZ wo b).getD 0).toNat) (p:=((QZ pl b).getD 0).toNat) rfl rfl;rw[show last+(a - last)=a by omega] at s g
 by_cases j:0<=b
 .rcases d.drop with⟨B,_⟩ | ⟨_,h,k,D⟩
  .omega
  .have e:=r.each h (BR k).2;have t:HD wo b=h.C.Wood:=by unfold HD;rw[d.wo _ h k];rfl
   have u:HD pl b=h.C.Place:=by unfold HD;rw[d.pl _ h k];rfl
   have m:=d.ag;have x:=d.wi h.C.Wood.toNat;have y:=d.pa h.C.Place.toNat;have g:Uq f c a (l.map<|Kj<|a - last) am wo pl (q.age+(a - last)) b (ZF q.woods (HD wo b).toNat<|q.woods (HD wo b).toNat+(a - last)) (ZF q.places (HD pl b).toNat<|q.places (HD pl b).toNat+(a - last)):=g j;rw[t,u] at g
   refine⟨⟨q.batch,q.age+(a - last),ZF q.woods h.C.Wood.toNat<|q.woods h.C.Wood.toNat+(a - last),ZF q.places h.C.Place.toNat<|q.places h.C.Place.toNat+(a - last)⟩,?_,g⟩
   have o:∀v:Int,0<=v/\v<=last->Qy (Qy (v+a) - last)=v+(a - last):=λv E=>by
    rw[show Qy (v+a)=v+a from Qs hQ hQ,Qs hQ hQ];omega
   unfold GM;rw[DO<|aT j,t,u,xV e.wood.1 e.wood.2,xV e.place.1 e.place.2];simp only[K1,o _ m,o _ x,o _ y]
 .exact⟨q,by unfold GM;rw[Do<|by simpa using j],s hQ⟩
theorem yq(am:Q0 (Int×Int)){by_:Q0 Int}(f:by_≠[])(x:Ev)(a:Int)(i:Nat):∃g,(if a==x.Cask then(if x.Amount==HD am x.Cask then some true else(SI (i:Int) (by_.length:Int)).bind λq=>(ZI by_ q).bind λy=>some<|Int.tmod y 2==1) else some false)=some g/\(g=true->a=x.Cask)/\(a=x.Cask->x.Amount=HD am x.Cask->g=true):=by
 have e:0 < by_.length:=by cases by_ with | nil=>exact absurd rfl f | cons _ _=>simp
 by_cases b:a=x.Cask
 .rw[DO<|by simp[b]];by_cases d:x.Amount=HD am x.Cask
  .rw[DO<|by simp[<-d]];exact⟨true,rfl,λ_=>b,λ_ _=>rfl⟩
  .rw[Do<|by simp[d]]
   have c:SI (i:Int) (by_.length:Int)=some ((i:Int)%(by_.length:Int)):=by
    unfold SI;rw[Do hQ,oO<|Int.natCast_nonneg i]
   obtain⟨y,j,_⟩:=O9 (l:=by_) (Int.emod_nonneg (i:Int)<|show(by_.length:Int)≠0 by omega) (Int.emod_lt_of_pos (i:Int)<|show(0:Int) < (by_.length:Int) by omega);rw[c,K1,j];exact⟨_,rfl,λ_=>b,λ_ h=>absurd h d⟩
 .rw[Do<|by simp[b]];exact⟨false,rfl,λh=>(by cases h),λh=>absurd h b⟩
theorem Uq.start(f:Nat):Uq f 0 0 [] [] [] [] zD.age (-1) zD.woods zD.places:=⟨λ_=>rfl,λ_ _ h=>(by cases h),λ_ _ h=>(by cases h),⟨y0 0,y0 0⟩,λ_=>⟨y0 0,y0 0⟩,λ_=>⟨y0 0,y0 0⟩,.inl ⟨rfl,oh _⟩⟩
section
variable{L:Q0 Ev}{f kn:Nat}{day j3:Int}{am wo pl:Q0 (Int×Int)}{q:Qm}{x:Ev}{by_:Q0 Int}{s:FA}{l' :Q0 ZY}
theorem Iw(Q:L[kn]? =some x)(hl:L.length<=1000000)(hb:by_≠[])(R:∀y,L[f]? =some y->y.Kind=1)
  (d:Uq f kn s.last s.all am wo pl q.age j3 q.woods q.places) (S:Xz kn s) (z:XN x=true) (hd:s.last<=x.Day) (ev:OJ (Ln x.Day s) x kn l'):(∃F G H u,∃a:Qm,Dm L (f:Int) by_ (j3,q,s.last,am,wo,pl,(kn:Int))=some (.next (u,a,x.Day,F,G,H,((kn+1:Nat):Int)))/\Uq f (kn+1) x.Day l' F G H a.age u a.woods a.places)∨
   ∃a,Dm L (f:Int) by_ (j3,q,s.last,am,wo,pl,(kn:Int))=some (.done<|.inr a):=by
 have aJ:kn < L.length:=(Fm.1 Q).1;have I:=(BX z).1;obtain⟨a,K,p⟩:=L9 d S.ok S.day.1 hd I.2;have m:=AF S.ok (n:=x.Day - s.last) hQ;rw[show s.last+(x.Day - s.last)=x.Day by omega] at m
 have p:Uq f kn x.Day (Ln x.Day s) am wo pl a.age j3 a.woods a.places:=p;have m:Ah x.Day kn (Ln x.Day s):=m;have b:=m.nums;generalize Ln x.Day s=A at*
 obtain⟨g,hg,g1,Y⟩:=yq am hb x j3 kn;have c2:decide ((kn:Int) < (L.length:Int))=true:=aT hQ;have c6:Qy ((kn:Int)+1)=((kn+1:Nat):Int):=by rw[Qs hQ hQ];rfl
 have T:ZI L (kn:Int)=some x:=by rw[Zq,Q]
 have N:∀v:Int,0<=v->v<=2199023255552->Qy v=v:=λv Z P=>Qs hQ hQ
 have w:∀{i:Nat} {c:ZY} {n:Int},Z1 A n=some i->A[i]? =some c->HD am n=c.C.Amount/\0<=c.C.Amount/\c.C.Amount<=1099511627776:=fun{i c n} Z P=>by
  have hn:=DE Z P;have hc:=m.each c<|S1 P;have:=hc.amt;have:=hc.room;exact⟨by unfold HD;rw[p.am,<-hn,xo b P],by omega,by omega⟩
 have l:x.Kind≠1->kn≠f:=λh e=>h<|R x (by rw[<-e];exact Q)
 have key:Dm L (f:Int) by_ (j3,q,s.last,am,wo,pl,(kn:Int))=IV (f:Int) (j3,q,s.last,am,wo,pl,(kn:Int)) x a g:=by
  unfold Dm;simp only[c2,B1,T,K1];rw[K,K1,hg,K1]
 simp only[key];unfold IV;simp only[c6];cases ev with
 | make k fn n=>exact .inl ⟨_,_,_,_,_,by rw[DO<|by simp[k]],p.make z (l hQ) fn⟩
 | fill k i c fn hi r=>
  obtain⟨B,a2,a3⟩:=w fn hi;have ha:=DF z<|.inl k;refine .inl ⟨_,_,_,_,a,?_,p.fill b (m.each c<|S1 hi) k z fn hi⟩;rw[Do (by simp[k]),DO (by simp[k]),B,N _ hQ hQ];by_cases e:kn=f
  .rw[DO (by simp[e]),DO e]
  .rw[Do ia,Do e]
 | rack k i c fn hi j o fo V ne ow E q2 le r=>
  obtain⟨B,a2,a3⟩:=w fn hi;obtain⟨b1,b2,b3⟩:=w fo V;have ha:=DF z<|.inr<|.inl k;obtain⟨D,M⟩:=p.rack b (m.each o<|S1 V) k z (l hQ) fn hi fo V ne le (goes:=g) g1 λW X=>Y W (by rw[B];exact X)
  have eo:HD (Qq am x.Cask<|c.C.Amount - x.Amount) x.Other=o.C.Amount:=by
   unfold HD at b1 ⊢
   rw[WO,Do (by rw[r6];exact λe=>M e.symm),b1]
  refine .inl ⟨_,_,_,_,a,?_,D⟩;rw[Do (by simp[k]),Do (by simp[k]),DO (by simp[k]),B,N (c.C.Amount - x.Amount) hQ hQ,eo,N (o.C.Amount+x.Amount) hQ hQ];cases g<;>rfl
 | drain k i c fn hi E le=>
  obtain⟨B,a2,a3⟩:=w fn hi;have ha:=DF z<|.inr<|.inr k;cases g with
  | true=>exact .inr ⟨a,by rw[Do (by simp[k]),Do (by simp[k]),Do (by simp[k]),DO<|by simp[k]];rfl⟩
  | false=>
   refine .inl ⟨_,_,_,_,a,?_,p.drain b (l hQ) fn hi le λW X=>by have:=Y W (by rw[B];exact X);cases this⟩;rw[Do (by simp[k]),Do (by simp[k]),Do (by simp[k]),DO (by simp[k]),B,N (c.C.Amount - x.Amount) hQ hQ];rfl
 | carry k i c fn hi=>
  refine .inl ⟨_,_,_,_,a,?_,p.carry b (l hQ) fn hi⟩;rw[Do (by simp[k]),Do (by simp[k]),Do (by simp[k]),Do (by simp[k]),DO<|by simp[k]]
 | sell k i c fn hi o E t=>
  refine .inl ⟨_,_,_,_,a,?_,p.other b (h' :={c with C:={c.C with Owner:=x.To}}) (l hQ) hi rfl rfl rfl rfl rfl rfl rfl rfl⟩;rw[Do (by simp[k]),Do (by simp[k]),Do (by simp[k]),Do (by simp[k]),Do (by simp[k]),Do<|by simp[k]]
 | pledge k i c fn hi o E=>
  refine .inl ⟨_,_,_,_,a,?_,p.other b (h' :={c with C:={c.C with Creditor:=x.To}}) (l hQ) hi rfl rfl rfl rfl rfl rfl rfl rfl⟩;rw[Do (by simp[k]),Do (by simp[k]),Do (by simp[k]),Do (by simp[k]),Do (by simp[k]),Do<|by simp[k]]
 | free k i c fn hi E=>
  refine .inl ⟨_,_,_,_,a,?_,p.other b (h' :={c with C:={c.C with Creditor:= -1}}) (l hQ) hi rfl rfl rfl rfl rfl rfl rfl rfl⟩;rw[Do (by simp[k]),Do (by simp[k]),Do (by simp[k]),Do (by simp[k]),Do (by simp[k]),Do<|by simp[k]]
 | char k i c fn hi E=>
  refine .inl ⟨_,_,_,_,a,?_,p.char b (l hQ) fn hi E⟩;rw[Do (by simp[k]),Do (by simp[k]),Do (by simp[k]),Do (by simp[k]),Do (by simp[k]),DO<|by simp[k]]
theorem j7{num:Int}{all:Q0 ZY}(D:JV L day=(.inl all,L.length))(E:L.length<=1000000)(m:day<=65536)(F:by_≠[])(n:∀y,L[f]? =some y->y.Kind=1)(B:0<=num):∃r,Vz L (f:Int) num day by_=some r/\(r.2=true->∃h,Jk all num=some h/\Dr f r.1.age r.1.woods r.1.places h):=by
 obtain⟨o,e,hs,G,_⟩:=xG D;rw[List.take_length] at hs
 have l:=gG hs
 obtain⟨b,p,t⟩:=MV (body:=Dm L (f:Int) by_)
  (λs=>∃pre post st am wo pl j3,∃q:Qm,L=pre++post/\gH pre=some st/\s=(j3,q,st.last,am,wo,pl,(pre.length:Int))/\Uq f pre.length st.last st.all am wo pl q.age j3 q.woods q.places)
  (λs=>((L.length:Int)+1 - s.2.2.2.2.2.2).toNat)
  (λb=>match b with
   | .inl s=>s.2.2.1=o.last/\Uq f L.length o.last o.all s.2.2.2.1 s.2.2.2.2.1 s.2.2.2.2.2.1 s.2.1.age s.1 s.2.1.woods s.2.1.places
   | .inr _=>True)
  (λs ⟨pre,post,st,am,wo,pl,j3,q,a,g,i,C⟩=>by
   cases post with
   | nil=>
    rw[mo] at a
    subst a;rw[hs] at g;cases g
    refine .inr ⟨.inl s,?_,by subst i;exact⟨rfl,C⟩⟩;unfold Dm;rw[Do (by rw[i];simp)]
   | cons x post=>
    obtain⟨l',_,B,H,I,j,l⟩:=w4 hs a g;have K:L[pre.length]? =some x:=YJ a;have M:=Xf a;rcases Iw K E F n C l I j H with⟨u,v,w,c,z,k,A⟩ | ⟨z,k⟩
    .refine .inl ⟨_,by rw[i];exact k,⟨pre++[x],post,⟨l',x.Day⟩,u,v,w,c,z,by rw[a];simp,B,by simp,by rw[bY];exact A⟩,?_⟩;rw[i];show((L.length:Int)+1 - ((pre.length+1:Nat):Int)).toNat < ((L.length:Int)+1 - (pre.length:Int)).toNat;omega
    .exact .inr ⟨_,by rw[i];exact k,trivial⟩) _ (-1,zD,0,[],[],[],0) (So _) ⟨[],L,⟨[],0⟩,[],[],[], -1,zD,rfl,rfl,rfl,Uq.start f⟩
 unfold Vz;rw[p,K1];cases b with
 | inl s=>
  obtain⟨a,g⟩:=t;obtain⟨z,k,A⟩:=L9 g l.ok l.day.1 G m;simp only[a];rw[k,K1];refine⟨_,rfl,λh=> ?_⟩;have h:s.1=num:=by simpa using h
  rcases A.drop with⟨Q,_⟩ | ⟨_,y,N,P⟩
  .omega
  .refine⟨y,?_,P⟩;rw[e,<-h];exact N
 | inr d=>exact⟨_,rfl,λh=>by cases h⟩
end
end
end Go.Proofs.YthfjpbooaofjcaaGreatDoor.Ca
namespace Go.Proofs.YthfjpbooaofjcaaGreatDoor
section
open Go.Dec Go.Proofs.Tryz Go.Shelf Go.RowKit Go.Maps Go.Sort
set_option maxRecDepth 100000
set_option maxHeartbeats 4000000
def KA(b:(Q0 QE))(a:(Q0 Int)×Int):Q2 (UN ((Q0 Int)×Int)<|Q0 Int):=if(decide<|a.2 < (b.length:Int)) then(((ZI b a.2).bind λc=>(if(c.Kind==1) then((Y1 a.1<|[a.2]).bind λd=>some d) else(some a.1):Q2 ((Q0 Int))).bind λe=>some e:Q2 ((Q0 Int))).bind λf=>QO (Qy<|a.2+1) λg=>some<|.next (f,g)) else(some<|.done a.1)
def Wq(b:(Qr×Bool))(e:(Q0 Qm)×Qm)(a:Int):Q2 (UN (Int)<|(Unit) ⊕ (Bool)):=if(decide<|a < (e.1.length:Int)) then((ZI e.1 a).bind λc=>(ZI b.1.N 0).bind λf=>if(c.batch != f) then(QO (Qy<|a+1) λg=>some<|.next g) else((ZI b.1.N 1).bind λd=>if(d==0) then((ZI b.1.N 3).bind λh=>if(decide<|c.age < h) then(some<|.done<|.inr false) else(QO (Qy<|a+1) λi=>some<|.next i)) else(if(d==1) then((ZI b.1.N 2).bind λj=>(if(decide<|j≥8) then some true else((ZI b.1.N 2).bind λk=>(YY 8 k).bind λl=>(ZI b.1.N 3).bind λm=>some<|decide<|(c.woods l) < m)).bind λn=>if n then(some<|.done<|.inr false) else(QO (Qy<|a+1) λo=>some<|.next o)) else(if(d==2) then((ZI b.1.N 2).bind λp=>(if(decide<|p≥8) then some true else((ZI b.1.N 2).bind λq=>(YY 8 q).bind λr=>(ZI b.1.N 3).bind λs=>some<|decide<|(c.places r) < s)).bind λt=>if t then(some<|.done<|.inr false) else(QO (Qy<|a+1) λu=>some<|.next u)) else(QO (Qy<|a+1) λv=>some<|.next v))))) else(some<|.done<|.inl ())
def Kd(e:(Q0 Qm)×Int×(Q0 Q8)×(Q0 Qf))(b:(Qr×Bool))(a:Int):Q2 (UN (Int)<|(Unit) ⊕ (Bool)):=if(decide<|a < (e.1.length:Int)) then((ZI e.1 a).bind λc=>(ZI b.1.N 0).bind λf=>if(c.batch != f) then(QO (Qy<|a+1) λg=>some<|.next g) else((ZI b.1.N 1).bind λd=>if(d==0) then((ZI b.1.N 3).bind λh=>if(decide<|c.age < h) then(some<|.done<|.inr false) else(QO (Qy<|a+1) λi=>some<|.next i)) else(if(d==1) then((ZI b.1.N 2).bind λj=>(if(decide<|j≥8) then some true else((ZI b.1.N 2).bind λk=>(YY 8 k).bind λl=>(ZI b.1.N 3).bind λm=>some<|decide<|(c.woods l) < m)).bind λn=>if n then(some<|.done<|.inr false) else(QO (Qy<|a+1) λo=>some<|.next o)) else(if(d==2) then((ZI b.1.N 2).bind λp=>(if(decide<|p≥8) then some true else((ZI b.1.N 2).bind λq=>(YY 8 q).bind λr=>(ZI b.1.N 3).bind λs=>some<|decide<|(c.places r) < s)).bind λt=>if t then(some<|.done<|.inr false) else(QO (Qy<|a+1) λu=>some<|.next u)) else(QO (Qy<|a+1) λv=>some<|.next v))))) else(some<|.done<|.inl ())
def ZX(D:Q0 Qf)(y:(Q0<|Q0 H1))(h:Int)(j:(Q0 Int))(k:ON×(Q0 Q8))(a:(Q0 Qm)×Int×(Q0 Q8)×(Q0 Qf)):Q2 (UN ((Q0 Qm)×Int×(Q0 Q8)×(Q0 Qf))<|((Q0 Qm)×(Q0 Q8)×(Q0 Qf)) ⊕ (Bool×(Q0 Q8)×(Q0 Qf))):=if(decide<|a.2.1 < (y.length:Int)) then((ZI y a.2.1).bind λz=>(Yg z).bind λc=>(YH a.2.2.1 k.1).bind λl=>(ZI y a.2.1).bind λA=>(Xb a.2.2.1 k.1 A).bind λb=>if(b.2.1 != 0) then(QO (Qy<|a.2.1+1) λB=>some<|.next (a.1,B,b.2.2,a.2.2.2)) else(if(!c.2) then(some<|.done<|.inr (false,b.2.2,a.2.2.2)) else((Zj a.2.2.2 (some D.length) c.1).bind λd=>if(c.1.Word==([98,111,116,116,108,101]:Q0 H1)) then((ZV (KA l) ([],0)).bind λe=>if((e.length:Int)==0) then(some<|.done<|.inr (false,b.2.2,d)) else((SI (Qy<|h) (e.length:Int)).bind λm=>(ZI e m).bind λn=>(ZI c.1.N 4).bind λo=>(d[D.length]?).bind λp=>(Vz l n o p.day j).bind λf=>(if f.2 then((ZI c.1.N 0).bind λq=>QO ({f.1 with batch:=q}) λi=>(Y1 a.1<|[i]).bind λr=>some (r,i)) else(some (a.1,f.1)):Q2 ((Q0 Qm)×Qm)).bind λg=>if((!(c.1.Word==([99,108,97,105,109]:Q0 H1)))||(!(b.1==([116,114,117,101]:Q0 H1)))) then(QO (Qy<|a.2.1+1) λs=>some<|.next (g.1,s,b.2.2,d)) else((ZV (Wq c g) 0).bind λC=>match C with | .inl _=>(QO (Qy<|a.2.1+1) λt=>some<|.next (g.1,t,b.2.2,d)) | .inr u=>(some<|.done<|.inr (u,b.2.2,d))))) else(if((!(c.1.Word==([99,108,97,105,109]:Q0 H1)))||(!(b.1==([116,114,117,101]:Q0 H1)))) then(QO (Qy<|a.2.1+1) λv=>some<|.next (a.1,v,b.2.2,d)) else((ZV (Kd a c) 0).bind λC=>match C with | .inl _=>(QO (Qy<|a.2.1+1) λw=>some<|.next (a.1,w,b.2.2,d)) | .inr x=>(some<|.done<|.inr (x,b.2.2,d))))))) else(some<|.done<|.inl (a.1,a.2.2.1,a.2.2.2))
def JL(A1:Q0 Q8)(f:Q0 Qf)(k:(Q0<|Q0 H1))(b:Int)(d:(Q0 Int)):Q2 (Bool×(Q0 Q8)×(Q0 Qf)):=(Uf k).bind λg=>if((!g)||((d.length:Int)==0)) then(Wi.bind λh=>some (h,A1,f)) else((Hv A1).bind λc=>if(c.1).isNone then(some (false,c.2,f)) else(QO (Qf.mk 0 false<|Qw.mk ([]) 0 0 0) λi=>QO (f++[i]) λj=>(ZV (ZX f k b d c) ([],0,c.2,j)).bind λl=>match l with | .inl a=>(Wi.bind λe=>some (e,a.2.1,a.2.2)) | .inr a=>(some (a.1,a.2.1,a.2.2))))
theorem G8(F0:Fz)(hT:HJ F0)(U:Jw)(A1:Q0 Q8)(A2:Q0 Qf)(l3:(Q0<|Q0 H1))(p4:Q2 C1)(k5:Nat)(h6:QI 1 (Ex Af) F0 p4 k5 l3)(y:Int)(W:(Q0 Int))(p9:Q2 C1)(aQ:Nat)(eZ:QI 1 (Ex<|Zy .u8) F0 p9 aQ W):X6 prog 3 #[(vS p4 l3 k5),(.int .u8 y),(vS p9 W aQ)] F0 [WX U F0 A1,Gn U F0 A2] (JL A1 A2 l3 y W) (λr _ v=>v=(.bool r.1)) (λr F' =>[WX U F' r.2.1,Gn U F' r.2.2]):=by
 refine X6.enter func3 J ntmps3 J λr R=>(.o (Sub.refl _) (J:_=[WX U F0 A1,Gn U F0 A2,R]) ?_);unfold JL;refine .w 9<|.cx J call4 J J J (TU _ l3 p4 k5 h6)<|JI λea il _ aK=>.w 2<|.rz (b:=(!ea)) (b' :=((W.length:Int)==0)) 4 29 J (λay=> ?_) λim aL=> ?_
 .exact .cc ay J J<|.m J J<|.cc ay J J<|.sO J J dL J<|.cc ay J J<|.eql J J J<|.sD ay J J J<|.fi Fz.r
 refine .w 2<|.i J (λdh=> ?_) λdh=> ?_
 .exact .w 2<|.cx J call5 J J J (Sq _<|hT.mono<|Fz.t aK aL)<|JI λiq ir _ cG=>.w 3<|.sA 0 (VY U) (Fz.t aK<|Fz.t aL cG) J<|.sA 1 (Ws U) (Fz.t aK<|Fz.t aL cG) J<|.ai [0,0,0] results3 (.tmp J<|.nil) J (Fz.t aK<|Fz.t aL cG) J
 .refine .w 4<|.sA 0 (VY U) (Fz.t aK aL) J<|.sM [0] J call6 J J J J (PJ _ U A1) ?_;rintro cH eb _ iu aa ⟨aY,di,rfl,cI⟩;refine .pick [0,0,0] (J:_=[WX U eb cH.2,Gn U F0 A2,R])<|.w 7<|.sw cI J cB J J<|.w 2<|.i J (λdj=> ?_) λdj=> ?_
  .exact .w 5<|.sA 1 (Ws U) (Fz.t aK<|Fz.t aL aa) J<|.ai [0,0,0] results3 (.tmp J<|.nil) J (Fz.t aK<|Fz.t aL aa) J
  .refine .w 4 (.l (cs:=(KZ (Qf.mk 0 false<|Qw.mk ([]) 0 0 0) none 0)) J cU J λaZ=>.cm λiv ec=>.cm λiw ed=>.aA 0 1 J J (Ws U) (Fz.t aK<|Fz.t aL aa) (λG m l hm=>⟨_,λG' l' =>by subst ec;exact⟨none,0,J,((QI.nil.mono<|Fz.t aK<|Fz.t aL aa)).mono<|Fz.t l l'⟩,hm⟩) ed λbp ab bq=>.w 14<|.sW 18 (Ex QH) 49<|.keep (.p [0,1,2,7,8,9,10] J)<|.sA 1 (VY U) ab J<|.loop (fun(x:(Q0 Qm)×Int×(Q0 Q8)×(Q0 Qf)) a w=>∃(aA:Fz) (S:Q2 C1) (T:Nat),bp<=aA/\Hd 197 [] [(0,(vS p4 l3 k5)),(1,(.int .u8 y)),(2,(vS p9 W aQ)),(7,(.pointer aY)),(8,(vP aZ 0)),(9,(vS S x.1 T)),(10,(vI x.2.1))] aA [Qg 18 (Ex QH) aA 49 S T x.1,WX U aA x.2.2.1,Gn U aA x.2.2.2,R] a w) (λb0 e a w=>match b0 with | .inl aC=>e= .exit 0/\∃(ad:Fz) (bQ:Q2 C1) (bR:Nat),bp<=ad/\Hd 197 [] [(9,(vS bQ aC.1 bR))] ad [Qg 18 (Ex QH) ad 49 bQ bR aC.1,WX U ad aC.2.1,Gn U ad aC.2.2,R] a w | .inr aC=>e= .ret/\∃(aj:Fz),bp<=aj/\Hd 197 [] [(6,(.bool aC.1))] aj [WX U aj aC.2.1,Gn U aj aC.2.2,R] a w) ?_ ?_ ?_)
   .exact λa w h=>⟨bp,none,0,Fz.r,h.1.sub<|.k J,h.2⟩
   .intro x cJ;refine GG.ex λa w ⟨aA,S,T,aD,hA⟩=>⟨_,hA,?_⟩;unfold ZX;refine .w 5<|.sO J J vg J<|.w 3<|.i J (λdm=> ?_) λdm=> ?_
    .refine .w 8<|.idx J vg W9 (h6.mono<|Fz.t aK<|Fz.t aL<|Fz.t aa<|Fz.t ab aD) J J λee iy iz jB fW fX jC dn dp=>.U J V9 J dn (QF (k:=0) dp J)<|.cx J call7 J J J (Sg _ ee) ?_;rintro aB jE _ - Q ⟨aE,aF,rfl,Z⟩;refine .w 3 (.l (cs:=(QW (Qr.mk ([])<|[]) none 0)) J df J λX=>.store (cs' :=(QW aB.1 aE aF)) gg J J J J (i:=0) J (K4 J) J (QX ij)<|.w 6<|.sA 2 (VY U) Q J<|.sM [2] J call8 J J J J (C4 _ U x.2.2.1 cH.1 aY di<|cI.mono<|Fz.t ab<|Fz.t aD Q) ?_);rintro bM ef _ jF g ⟨bN,bO,rfl,dq⟩;refine .pick [1,1,0,0,0] (J:_=[pc X (QW aB.1 aE aF) 36,Qg 18 (Ex QH) aA 49 S T x.1,WX U ef x.2.2.1,Gn U aA x.2.2.2,R])<|.w 8<|.idx J vg W9 (h6.mono<|Fz.t aK<|Fz.t aL<|Fz.t aa<|Fz.t ab<|Fz.t aD<|Fz.t Q g) J J λeg jG jH jI fY fZ jJ dr ds=>.U J V9 J dr (QF (k:=0) ds J)<|.sM [2] J call9 J J J J (R5 _ (hT.mono<|Fz.t aK<|Fz.t aL<|Fz.t aa<|Fz.t ab<|Fz.t aD<|Fz.t Q g) U x.2.2.1 cH.1 aY di (cI.mono<|Fz.t ab<|Fz.t aD<|Fz.t Q g) eg)<|JI λY aH jK j=>.pick [1,1,0,0,0] (J:_=[pc X (QW aB.1 aE aF) 36,Qg 18 (Ex QH) aA 49 S T x.1,WX U aH Y.2.2,Gn U aA x.2.2.2,R])<|.w 6<|.keep (.p [0,1,2,7,8,9,10,11,12,13,14,15] J)<|.w 8<|.i J (λdt=> ?_) λdt=> ?_
     .exact .exit J<|.w 4<|.cv J J λjL jM=>.n<|.drop 0<|.sy 0 (Fz.t Q<|Fz.t g j) J<|.sA 2 (Ws U) (Fz.t Q<|Fz.t g j) J<|.cg<|Qu.norm λa w h=>⟨aH,S,T,(Fz.t aD<|Fz.t Q<|Fz.t g j),h.1.sub<|.k J,h.2⟩
     .refine .w 9<|.i J (λdu=> ?_) λdu=> ?_
      .refine .w 5<|.drop 1<|.drop 0<|.sA 1 (Ws U) (Fz.t Q<|Fz.t g j) J<|.sR<|Qu.ret λa w h=>⟨J,aH,(Fz.t aD<|Fz.t Q<|Fz.t g j),h.1.sub<|.k J,h.2⟩
      .refine .w 4<|.c9 J bP gg J (i:=0) J (vs:=(QW aB.1 aE aF)) x0 J<|.sA 3 (Ws U) (Fz.t Q<|Fz.t g j) J<|.sM [3] J call10 J J J J (Dv _ U x.2.2.2 (some A2.length) (some ⟨aZ,0,none⟩) () ((ZT.of bq).mono<|Fz.t aD<|Fz.t Q<|Fz.t g j) aB.1 aE aF<|Z.mono<|Fz.t g j)<|JI λaR aI jN u=>.pick [1,1,1,0,0] (J:_=[pc X (QW aB.1 aE aF) 36,Qg 18 (Ex QH) aA 49 S T x.1,WX U aH Y.2.2,Gn U aI aR,R])<|.w 5<|.f J Ci J W9 J<|.ca J V9 J (i:=0) J J<|.si J U9 J J<|.w 2<|.i J (λdv=> ?_) λdv=> ?_
       .refine .w 12<|.sW 1 (Ex<|Zy .i64) 3<|.keep (.p [0,1,2,7,8,9,10,11,13,14,16,17] J)<|.loop (fun(ak:(Q0 Int)×Int) a w=>∃(al:Fz) (bS:Q2 C1) (bT:Nat),aI<=al/\Hd 197 [] [(0,(vS p4 l3 k5)),(1,(.int .u8 y)),(2,(vS p9 W aQ)),(7,(.pointer aY)),(8,(vP aZ 0)),(9,(vS S x.1 T)),(10,(vI x.2.1)),(11,(vP X 0)),(13,(vS bN bM bO)),(14,(.string<|bs Y.1)),(16,(vS bS ak.1 bT)),(17,(vI ak.2))] al [Qg 1 (Ex<|Zy .i64) al 3 bS bT ak.1,pc X (QW aB.1 aE aF) 36,Qg 18 (Ex QH) aA 49 S T x.1,WX U aH Y.2.2,Gn U aI aR,R] a w) (λaJ e a w=>e= .exit 2/\∃(aM:Fz) (aN:Q2 C1) (aO:Nat),aI<=aM/\Hd 197 [] [(0,(vS p4 l3 k5)),(1,(.int .u8 y)),(2,(vS p9 W aQ)),(7,(.pointer aY)),(8,(vP aZ 0)),(9,(vS S x.1 T)),(10,(vI x.2.1)),(11,(vP X 0)),(13,(vS bN bM bO)),(14,(.string<|bs Y.1)),(16,(vS aN aJ aO))] aM [Qg 1 (Ex<|Zy .i64) aM 3 aN aO aJ,pc X (QW aB.1 aE aF) 36,Qg 18 (Ex QH) aA 49 S T x.1,WX U aH Y.2.2,Gn U aI aR,R] a w) ?_ ?_ ?_
        .exact λa w h=>⟨aI,none,0,Fz.r,h.1.sub<|.k J,h.2⟩
        .intro ak cJ;refine GG.ex λa w ⟨al,bS,bT,cK,hA⟩=>⟨_,hA,?_⟩;unfold KA;refine .w 5<|.sO J J Ih J<|.w 3<|.i J (λcL=> ?_) λcL=> ?_
         .refine .w 3<|.keep (.p [0,1,2,7,8,9,10,11,13,14,16,17] J)<|GG.sQ (σ:=(Q0 Int)) (λbU a w=>∃(an:Fz) (az:Q2 C1) (a1:Nat),al<=an/\Hd 197 [] [(0,(vS p4 l3 k5)),(1,(.int .u8 y)),(2,(vS p9 W aQ)),(7,(.pointer aY)),(8,(vP aZ 0)),(9,(vS S x.1 T)),(10,(vI x.2.1)),(11,(vP X 0)),(13,(vS bN bM bO)),(14,(.string<|bs Y.1)),(16,(vS az bU a1)),(17,(vI ak.2))] an [Qg 1 (Ex<|Zy .i64) an 3 az a1 bU,pc X (QW aB.1 aE aF) 36,Qg 18 (Ex QH) aA 49 S T x.1,WX U aH Y.2.2,Gn U aI aR,R] a w) (λsj=> ?_) λbU dw=>GG.ex λa w ⟨an,az,a1,dx,hA⟩=>⟨_,hA,?_⟩
          .refine .w 5<|.idx J Ih jv (dq.mono<|Fz.t j<|Fz.t u cK) J J λfb fc fe ff eh ei fg cM cN=>.f J VW J W3 J<|.U J V3 J cM (QF (k:=0) cN J)<|.w 3<|.keep (.p [0,1,2,7,8,9,10,11,13,14,16,17,79] J)<|GG.sQ (σ:=(Q0 Int)) (λbV a w=>∃(ao:Fz) (a6:Q2 C1) (a7:Nat),al<=ao/\Hd 197 [] [(0,(vS p4 l3 k5)),(1,(.int .u8 y)),(2,(vS p9 W aQ)),(7,(.pointer aY)),(8,(vP aZ 0)),(9,(vS S x.1 T)),(10,(vI x.2.1)),(11,(vP X 0)),(13,(vS bN bM bO)),(14,(.string<|bs Y.1)),(16,(vS a6 bV a7)),(17,(vI ak.2))] ao [Qg 1 (Ex<|Zy .i64) ao 3 a6 a7 bV,pc X (QW aB.1 aE aF) 36,Qg 18 (Ex QH) aA 49 S T x.1,WX U aH Y.2.2,Gn U aI aR,R] a w) (λsj=> ?_) λbV dw=>GG.ex λa w ⟨ao,a6,a7,dy,hA⟩=>⟨_,hA,?_⟩
           .refine .i J (λcO=> ?_) λcO=> ?_
            .refine .w 3 (.sC (cs:=[.int .i64 ak.2]) (zc:=[.int .i64 0]) J YK W3 Y3 J J J x0 x0 λdz br bt cP=> ?_);have eA:QI 1 (Ex<|Zy .i64) br (some ⟨dz,0,none⟩) 1 ([ak.2]):=QI.ofRow cP (.cons H7.mono J .nil) J J;exact .append 0 H7 bt J YK YK J J J eA J J λfh eB eC fj=>.w 2 (.cg λe a w h=>by cases e;exact⟨J,⟨br,eB,eC,bt,h.1.sub<|.k J,h.2⟩⟩)
            .exact .skip (.cg λe a w h=>by cases e;exact⟨J,⟨al,bS,bT,Fz.r,h.1.sub<|.k J,h.2⟩⟩)
           exact .k (.cg λe a w h=>by cases e;exact⟨J,⟨ao,a6,a7,dy,h.1.sub<|.k J,h.2⟩⟩)
          exact .w 4<|.cv J J λfk fl=>.n<|.cg<|Qu.norm λa w h=>⟨an,az,a1,(Fz.t cK dx),h.1.sub<|.k J,h.2⟩
         .refine .cw J<|Qu.exit λa w h=>⟨J,al,bS,bT,cK,h.1.sub<|.k J,h.2⟩
        .intro aJ cQ hk e a w hD;obtain⟨rfl,aM,aN,aO,s,hA⟩:=hD;refine Q9 J<|GG.app ?_ hk a w hA;refine .w 5<|.sO J J YK J<|.w 3<|.i J (λcR=> ?_) λcR=> ?_
         .refine .w 5<|.drop 2<|.drop 1<|.drop 0<|.sA 0 (VY U) (Fz.t u s) J<|.sA 1 (Ws U) s J<|.sR<|Qu.ret λa w h=>⟨J,aM,(Fz.t aD<|Fz.t Q<|Fz.t g<|Fz.t j<|Fz.t u s),h.1.sub<|.k J,h.2⟩
         .refine .w 3<|.keep (.p [0,1,2,7,8,9,10,11,13,14,16] J)<|.d λbu cS=>.d λbW bX=>.ak 0 J bX λeD bZ=>.d λbw eE=> ?_;obtain⟨eF,eG,fm,ej,ek,cT,cV,cW⟩:=QI.aR (Z.mono<|Fz.t g<|Fz.t j<|Fz.t u s) eE;refine .d λba eH=>.d λaS cX=>.dG 22 1 (λD=>[vT<|vS bN bM bO,vT<|vS aN aJ aO,vT<|.int .u8 y,vT<|vI<|Qy<|y,vT<|vS aN aJ aO,vT<|vI (aJ.length:Int),vT<|vI bu,vT<|.pointer<|some ⟨eD,0+(bu).toNat*1,none⟩,vT<|vI bW,vT<|vP X<|0+1,vT<|vS aE aB.1.N aF,vT<|vP eF eG,vT<|vI bw,vT<|vP aZ<|0+0,vT<|vI ba.day,vT<|vS p9 W aQ,vT<|.tuple #[(WH aS.1),(.bool aS.2)],vT<|.tuple #[(WH aS.1),(.bool aS.2)],vT<|WH aS.1,vT<|.bool aS.2,vT<|.pointer<|some ⟨(D.n 200),0,none⟩,vT undef]) (λL D=>[Qg 1 (Ex<|Zy .i64) aM 3 aN aO aJ,pc X (QW aB.1 aE aF) 36,Qg 18 (Ex QH) aA 49 S T x.1,WX U aH Y.2.2,Gn U aI aR,R,(bif L 21 then(pc (D.n 200) (QH aS.1) 49) else(bif L 20 then(pc (D.n 200) (QH<|Qm.mk 0 0 (λ_=>0) λ_=>0) 49) else AX))]) Qd x0 (λ_=>J) (λ_=>J) ?_ λD bx z fo=> ?_
          .refine .V 3 (λ_ _=>⟨J,J,J,J⟩)<|.B (.pD J U5 U3 J<|.fv J)<|.V 1 (λ_ _=>⟨J,J⟩)<|.B (.sO J J YK J<|.fv J)<|.B (.mr cS J J J<|.fv J)<|.B (.tJ J YK W3 bZ bX J J<|.fv J)<|.b (λ_ _ _ eI=> ?_) ?_
           .refine .tV (off:=0) (Φ:=λv=>v=(vI bW)) 0 J eI J V3 bZ bX J J (λvs h=>⟨_,by subst h;exact J,J⟩) λv hv=> ?_;subst hv;exact .fv J
           refine .B (.f J Ci J Te J<|.fv J)<|.B (.ca J A8 J (i:=1) J J<|.fv J)<|.B (.aJ J YK W3 cW J J<|.fv J)<|.b (λ_ _ _ eJ=>.U J V3 J (eJ.mem _ _ cT) (QF (k:=0) cV J)<|.fv J)<|.B (.f J dK J W3 J<|.fv J)<|.b (λ_ _ _ bz=> ?_) ?_
           .refine .cp (Φ:=λv=>v=(vI ba.day)) 4 J (Fz.t s bz) (bq.mono<|Fz.t aD<|Fz.t Q<|Fz.t g<|Fz.t j<|Fz.t u<|Fz.t s bz) eH J V3 J (λvs ⟨q0,q1,h,r0⟩=>⟨_,by subst h;exact J,J⟩) λv hv=> ?_;subst hv;exact .fv J
           refine .V 1 (λ_ _=>⟨J,J⟩)<|.b (λ_ _ _ b1=> ?_) ?_
           .exact .sk cX J call11 J J J (Sh _ bM bN bO (dq.mono<|Fz.t j<|Fz.t u<|Fz.t s b1) bW bw ba.day W p9 aQ<|eZ.mono<|Fz.t aK<|Fz.t aL<|Fz.t aa<|Fz.t ab<|Fz.t aD<|Fz.t Q<|Fz.t g<|Fz.t j<|Fz.t u<|Fz.t s b1)<|We λfp eK=>.sU J J eK
           refine .V 3 (λ_ _=>⟨J,J,J,J⟩)<|.a (λL D _ _ hL _ eL _=> ?_) ?_
           .exact .l (cs:=(QH<|Qm.mk 0 0 (λ_=>0) λ_=>0)) J dE J λeM=>(.ae ({D with n:=ZF D.n 200 eM}) [true,true,true,true,true,true,true,true,true,true,true,true,true,true,true,true,true,true,true,true,false,false] J x0 J J Fz.r (λ_ _=>trivial) λ_ h=>SH.aE 6 (congrArg some<|(KE<|eL 1 21 J).trans<|KE hL) ((KE (b:=Kh L 20 21)<|eL 1 21 J).trans<|JX J) h)
           exact .a (λ_ _ _ _ hL eo _ _=>.store (cs' :=(QH aS.1)) jA J J J J (i:=6) (congrArg some<|(KE hL).trans<|JX<|eo 1 20 J) (K4 J) J (QX ij)<|.a6 J Fz.r<|R9 6<|JX J)<|.nil
          refine .o (.p [0,1,2,7,8,9,10,11,13,14,16,18,87,88,89,90,91,92,93,94,95,96,97,98,99,100,101,102,103,104,105,106] J) (J:_=[Qg 1 (Ex<|Zy .i64) aM 3 aN aO aJ,pc X (QW aB.1 aE aF) 36,Qg 18 (Ex QH) aA 49 S T x.1,WX U aH Y.2.2,Gn U aI aR,R,pc (D.n 200) (QH aS.1) 49])<|.w 2<|.keep (.p [0,1,2,7,8,9,10,11,14,18,19] J)<|.w 6<|.keep (.p [0,1,2,7,8,9,10,11,14,18,107] J)<|GG.sQ (σ:=(Q0 Qm)×Qm) (λaP a w=>∃(ae:Fz) (aU:Q2 C1) (aV:Nat),bx<=ae/\Hd 197 [] [(0,(vS p4 l3 k5)),(1,(.int .u8 y)),(2,(vS p9 W aQ)),(7,(.pointer aY)),(8,(vP aZ 0)),(9,(vS aU aP.1 aV)),(10,(vI x.2.1)),(11,(vP X 0)),(14,(.string<|bs Y.1))] ae [Qg 1 (Ex<|Zy .i64) aM 3 aN aO aJ,pc X (QW aB.1 aE aF) 36,Qg 18 (Ex QH) ae 49 aU aV aP.1,WX U aH Y.2.2,Gn U aI aR,R,pc (D.n 200) (QH aP.2) 49] a w) (λsj=> ?_) λaP dw=>GG.ex λa w ⟨ae,aU,aV,H,hA⟩=>⟨_,hA,?_⟩
          .refine .i J (λcZ=> ?_) λcZ=> ?_
           .refine .w 2 (.f J Ci J Te J<|.ca J A8 J (i:=1) J J<|.idx J YK W3 (Z.mono<|Fz.t g<|Fz.t j<|Fz.t u<|Fz.t s z) J J λfq fr fs ft ep et fx ca cb=>.U J V3 J ca (QF (k:=0) cb J)<|.f J jD J W3 J<|.cm λa8 eN=>.store (cs' :=(QH a8)) W3 J J J J (i:=6) J (K4 J) J (by rw[eN];kernel_rfl)<|.w 4<|.c9 J fu jA J (i:=6) J (vs:=(QH a8)) x0 J<|.sC (cs:=((QH a8))) (zc:=((QH<|Qm.mk 0 0 (λ_=>0) λ_=>0))) J fw jA dE J J J x0 x0 λeO b2 b3 cc=> ?_);have eP:QI 18 (Ex QH) b2 (some ⟨eO,0,none⟩) 1 ([a8]):=QI.ofRow cc (.cons uQ.mono J .nil) J J;exact .append 2 uQ (Fz.t Q<|Fz.t g<|Fz.t j<|Fz.t u<|Fz.t s<|Fz.t z b3) J fw fw J J J eP J J λfy eQ eR fz=>.w 2 (.cg λe a w h=>by cases e;exact⟨J,⟨b2,eQ,eR,b3,h.1.sub<|.k J,h.2⟩⟩)
           .exact .skip<|.sy 2 (Fz.t Q<|Fz.t g<|Fz.t j<|Fz.t u<|Fz.t s z) J (.cg λe a w h=>by cases e;exact⟨J,⟨bx,S,T,Fz.r,h.1.sub<|.k J,h.2⟩⟩)
          refine .w 4<|.f J Ci J W9 J<|.ca J V9 J (i:=1) J J<|.rD J U9 J J<|.m J J<|.rz (b:=(!(aB.1.Word==([99,108,97,105,109]:Q0 H1)))) (b' :=(!(Y.1==([116,114,117,101]:Q0 H1)))) 3 123 J (λau=> ?_) λaq A=> ?_
          .exact .cc au J J<|.m J J<|.cc au J J<|.rD J U9 J J<|.sD au J J J<|.fi Fz.r
          refine .w 2<|.i J (λcd=> ?_) λcd=> ?_
          .exact .exit J<|.w 4<|.cv J J λgA gB=>.n<|.drop 6<|.drop 1<|.drop 0<|.sy 0 A J<|.sA 1 (VY U) (Fz.t u<|Fz.t s<|Fz.t z<|Fz.t H A) J<|.sA 2 (Ws U) (Fz.t s<|Fz.t z<|Fz.t H A) J<|.cg<|Qu.norm λa w h=>⟨aq,aU,aV,(Fz.t aD<|Fz.t Q<|Fz.t g<|Fz.t j<|Fz.t u<|Fz.t s<|Fz.t z<|Fz.t H A),h.1.sub<|.k J,h.2⟩
          .refine .w 8 (.keep (.p [0,1,2,7,8,9,10,11,20] J)<|.loop (fun(b4:Int) a w=>∃(aW:Fz),aq<=aW/\Hd 197 [] [(0,(vS p4 l3 k5)),(1,(.int .u8 y)),(2,(vS p9 W aQ)),(7,(.pointer aY)),(8,(vP aZ 0)),(9,(vS aU aP.1 aV)),(10,(vI x.2.1)),(11,(vP X 0)),(20,(vI b4))] aW [Qg 1 (Ex<|Zy .i64) aM 3 aN aO aJ,pc X (QW aB.1 aE aF) 36,Qg 18 (Ex QH) ae 49 aU aV aP.1,WX U aH Y.2.2,Gn U aI aR,R,pc (D.n 200) (QH aP.2) 49] a w) (λb0 e a w=>match b0 with | .inl af=>e= .exit 4/\∃(bA:Fz),aq<=bA/\Hd 197 [] [(0,(vS p4 l3 k5)),(1,(.int .u8 y)),(2,(vS p9 W aQ)),(7,(.pointer aY)),(8,(vP aZ 0)),(9,(vS aU aP.1 aV)),(10,(vI x.2.1))] bA [Qg 1 (Ex<|Zy .i64) aM 3 aN aO aJ,pc X (QW aB.1 aE aF) 36,Qg 18 (Ex QH) ae 49 aU aV aP.1,WX U aH Y.2.2,Gn U aI aR,R,pc (D.n 200) (QH aP.2) 49] a w | .inr af=>e= .ret/\∃(bB:Fz),aq<=bB/\Hd 197 [] [(6,(.bool af))] bB [WX U aH Y.2.2,Gn U aI aR,R] a w) ?_ ?_ ?_)
           .exact λa w h=>⟨aq,Fz.r,h.1.sub<|.k J,h.2⟩
           .intro b4 cJ;refine GG.ex λa w ⟨aW,E,hA⟩=>⟨_,hA,?_⟩;unfold Wq;refine .w 5<|.sO J J fw J<|.w 3<|.i J (λcf=> ?_) λcf=> ?_
            .refine .w 8 (.d λag bb=>.ak 2 J bb λgC bc=>.tJ J fw jA bc bb J J<|.pB (off:=0) (Φ:=λus=>us=(QH ag)) 2 J (Fz.t A E) J fu jA bc bb J J J (λvs h=>⟨_,by subst h;rfl,J,J⟩) λus hv=> ?_);subst hv;refine .l (cs:=(QH<|Qm.mk 0 0 (λ_=>0) λ_=>0)) J dE J λgD=>.store (cs' :=(QH ag)) jA J J J J (i:=0) J (K4 J) J (QX ij)<|.w 4<|.keep (.p [0,1,2,7,8,9,10,11,20,21] J)<|.cz 7 Qd x0<|.f J jD J W3 J<|.ca J V3 J (i:=0) J J<|.f J Ci J Te J<|.ca J A8 J (i:=2) J J<|.idx J YK W3 (Z.mono<|Fz.t g<|Fz.t j<|Fz.t u<|Fz.t s<|Fz.t z<|Fz.t H<|Fz.t A E) J J λgE gF gG gH eu ev gI cg ch=>.U J V3 J cg (QF (k:=0) ch J)<|.neq J J J<|.sI<|.w 2<|.i J (λcj=> ?_) λcj=> ?_
             .exact .exit J<|.w 4<|.cv J J λgJ gK=>.n<|.drop 0<|.cg<|Qu.norm λa w h=>⟨aW,E,h.1.sub<|.k J,h.2⟩
             .refine .w 4<|.f J Ci J Te J<|.ca J A8 J (i:=2) J J<|.idx J YK W3 (Z.mono<|Fz.t g<|Fz.t j<|Fz.t u<|Fz.t s<|Fz.t z<|Fz.t H<|Fz.t A E) J J λgL gM gN gO ew ey gP ck cl=>.U J V3 J ck (QF (k:=0) cl J)<|.w 9<|.i J (λcm=> ?_) λcm=> ?_
              .refine .q<|.keep (.p [0,1,2,7,8,9,10,11,20,21] J)<|.cz 7 Qd x0<|.f J jD J W3 J<|.ca J V3 J (i:=0) J J<|.f J Ci J Te J<|.ca J A8 J (i:=2) J J<|.idx J YK W3 (Z.mono<|Fz.t g<|Fz.t j<|Fz.t u<|Fz.t s<|Fz.t z<|Fz.t H<|Fz.t A E) J J λgQ gR gS gT ez e0 gU cn cp=>.U J V3 J cn (QF (k:=0) cp J)<|.lss J J J<|.sI<|.w 2<|.i J (λcq=> ?_) λcq=> ?_
               .refine .w 5<|.drop 7<|.drop 3<|.drop 2<|.drop 1<|.drop 0<|.sR<|Qu.ret λa w h=>⟨J,aW,E,h.1.sub<|.k J,h.2⟩
               .exact .w 7<|.cv J J λgV gW=>.n<|.drop 0<|.cg<|Qu.norm λa w h=>⟨aW,E,h.1.sub<|.k J,h.2⟩
              .refine .w 5<|.keep (.p [0,1,2,7,8,9,10,11,20,21,144,154] J)<|.c<|.i J (λcr=> ?_) λcr=> ?_
               .refine .q<|.keep (.p [0,1,2,7,8,9,10,11,20,21] J)<|.cz 19 Qd x0<|.f J Ci J Te J<|.ca J A8 J (i:=2) J J<|.idx J YK W3 (Z.mono<|Fz.t g<|Fz.t j<|Fz.t u<|Fz.t s<|Fz.t z<|Fz.t H<|Fz.t A E) J J λeS gX gY gZ e1 e2 ga ct cu=>.U J V3 J ct (QF (k:=0) cu J)<|.w 2<|.rP (b:=(decide<|eS≥8)) 13 174 J (λI gb=> ?_) λgd b5 b6=> ?_
                .exact .cc I J J<|.f J Ci J Te J<|.cc I J J<|.ca J A8 J (i:=2) J J<|.cc I J J<|.idx J YK W3 (Z.mono<|Fz.t g<|Fz.t j<|Fz.t u<|Fz.t s<|Fz.t z<|Fz.t H<|Fz.t A E) J J λgf gh gi gj e3 e4 gk cv cw=>.cc I J J<|.U J V3 J cv (QF (k:=0) cw J)<|.cc I J J<|.f J jD J Tk J<|.cc I J J<|.d λbC bd=>.cf J R8 W3 J J bd<|.cc I J J<|.ca J V3 J (i:=0) J (UW 8 (λbC=>((QH ag))[0+2+bC*1]?) (λbC=>some<|vI<|ag.woods bC) J (Q6 bd).2.2.2)<|.cc I J J<|.f J Ci J Te J<|.cc I J J<|.ca J A8 J (i:=2) J J<|.cc I J J<|.idx J YK W3 (Z.mono<|Fz.t g<|Fz.t j<|Fz.t u<|Fz.t s<|Fz.t z<|Fz.t H<|Fz.t A E) J J λgl gm gn gp e5 e6 gq cx cy=>.cc I J J<|.U J V3 J cx (QF (k:=0) cy J)<|.cc I J J<|.lss J J J<|.sD I J J J<|.sh 13 J J x0 Fz.r
                refine .sI<|.w 2<|.i J (λcz=> ?_) λcz=> ?_
                .refine .w 5<|.drop 7<|.drop 3<|.drop 2<|.drop 1<|.drop 0<|.sR<|Qu.ret λa w h=>⟨J,b5,(Fz.t E b6),h.1.sub<|.k J,h.2⟩
                .exact .w 7<|.cv J J λgr gu=>.n<|.drop 0<|.cg<|Qu.norm λa w h=>⟨b5,(Fz.t E b6),h.1.sub<|.k J,h.2⟩
               .refine .w 6<|.i J (λc0=> ?_) λc0=> ?_
                .refine .q<|.keep (.p [0,1,2,7,8,9,10,11,20,21] J)<|.cz 19 Qd x0<|.f J Ci J Te J<|.ca J A8 J (i:=2) J J<|.idx J YK W3 (Z.mono<|Fz.t g<|Fz.t j<|Fz.t u<|Fz.t s<|Fz.t z<|Fz.t H<|Fz.t A E) J J λeT gv gw gx e7 e8 gy c1 c2=>.U J V3 J c1 (QF (k:=0) c2 J)<|.w 2<|.rP (b:=(decide<|eT≥8)) 13 195 J (λK gz=> ?_) λhB b7 b8=> ?_
                 .exact .cc K J J<|.f J Ci J Te J<|.cc K J J<|.ca J A8 J (i:=2) J J<|.cc K J J<|.idx J YK W3 (Z.mono<|Fz.t g<|Fz.t j<|Fz.t u<|Fz.t s<|Fz.t z<|Fz.t H<|Fz.t A E) J J λhC hE hF hG e9 fA hH c3 c4=>.cc K J J<|.U J V3 J c3 (QF (k:=0) c4 J)<|.cc K J J<|.f J jD J Tk J<|.cc K J J<|.d λbD be=>.cf J R8 W3 J J be<|.cc K J J<|.ca J V3 J (i:=0) J (UW 8 (λbD=>((QH ag))[0+10+bD*1]?) (λbD=>some<|vI<|ag.places bD) J (Q6 be).2.2.2)<|.cc K J J<|.f J Ci J Te J<|.cc K J J<|.ca J A8 J (i:=2) J J<|.cc K J J<|.idx J YK W3 (Z.mono<|Fz.t g<|Fz.t j<|Fz.t u<|Fz.t s<|Fz.t z<|Fz.t H<|Fz.t A E) J J λhI hJ hK hM fB fC hN c5 c6=>.cc K J J<|.U J V3 J c5 (QF (k:=0) c6 J)<|.cc K J J<|.lss J J J<|.sD K J J J<|.sh 13 J J x0 Fz.r
                 refine .sI<|.w 2<|.i J (λc7=> ?_) λc7=> ?_
                 .refine .w 5<|.drop 7<|.drop 3<|.drop 2<|.drop 1<|.drop 0<|.sR<|Qu.ret λa w h=>⟨J,b7,(Fz.t E b8),h.1.sub<|.k J,h.2⟩
                 .exact .w 7<|.cv J J λhO hP=>.n<|.drop 0<|.cg<|Qu.norm λa w h=>⟨b7,(Fz.t E b8),h.1.sub<|.k J,h.2⟩
                .exact .w 7<|.cv J J λhQ hR=>.n<|.drop 0<|.cg<|Qu.norm λa w h=>⟨aW,E,h.1.sub<|.k J,h.2⟩
            .refine .cw J<|Qu.exit λa w h=>⟨J,aW,E,h.1.sub<|.k J,h.2⟩
           .intro af cQ hk e a w hD;rcases af with af | af
            .obtain⟨rfl,bA,bE,hA⟩:=hD;refine Q9 J<|GG.app ?_ hk a w hA;exact .w 5<|.cv J J λhS hU=>.n<|.drop 6<|.drop 1<|.drop 0<|.sy 0 (Fz.t A bE) J<|.sA 1 (VY U) (Fz.t u<|Fz.t s<|Fz.t z<|Fz.t H<|Fz.t A bE) J<|.sA 2 (Ws U) (Fz.t s<|Fz.t z<|Fz.t H<|Fz.t A bE) J<|.cg<|Qu.norm λa w h=>⟨bA,aU,aV,(Fz.t aD<|Fz.t Q<|Fz.t g<|Fz.t j<|Fz.t u<|Fz.t s<|Fz.t z<|Fz.t H<|Fz.t A bE),h.1.sub<|.k J,h.2⟩
            obtain⟨rfl,bB,bf,hA⟩:=hD
            replace hA:=Hd.sA 0 (VY U) (Fz.t u<|Fz.t s<|Fz.t z<|Fz.t H<|Fz.t A bf) rfl hA
            replace hA:=Hd.sA 1 (Ws U) (Fz.t s<|Fz.t z<|Fz.t H<|Fz.t A bf) rfl hA
            exact K6<|(Qu.ret λa w h=>⟨J,bB,(Fz.t aD<|Fz.t Q<|Fz.t g<|Fz.t j<|Fz.t u<|Fz.t s<|Fz.t z<|Fz.t H<|Fz.t A bf),h.1.sub<|.k J,h.2⟩) hk a w hA
       .refine .w 5<|.f J Ci J W9 J<|.ca J V9 J (i:=0) J J<|.rD J U9 J J<|.m J J<|.rz (b:=(!(aB.1.Word==([99,108,97,105,109]:Q0 H1)))) (b' :=(!(Y.1==([116,114,117,101]:Q0 H1)))) 3 123 J (λav=> ?_) λar C=> ?_
        .exact .cc av J J<|.m J J<|.cc av J J<|.rD J U9 J J<|.sD av J J J<|.fi Fz.r
        refine .n<|.keep (.p [0,1,2,7,8,9,10,11,123] J)<|.c<|.i J (λc8=> ?_) λc8=> ?_
        .exact .exit J<|.w 4<|.cv J J λhV hW=>.n<|.drop 0<|.sy 0 (Fz.t Q<|Fz.t g<|Fz.t j<|Fz.t u C) J<|.sA 1 (VY U) (Fz.t u C) J<|.sA 2 (Ws U) C J<|.cg<|Qu.norm λa w h=>⟨ar,S,T,(Fz.t aD<|Fz.t Q<|Fz.t g<|Fz.t j<|Fz.t u C),h.1.sub<|.k J,h.2⟩
        .refine .w 8 (.keep (.p [0,1,2,7,8,9,10,11,20] J)<|.loop (fun(b9:Int) a w=>∃(aX:Fz),ar<=aX/\Hd 197 [] [(0,(vS p4 l3 k5)),(1,(.int .u8 y)),(2,(vS p9 W aQ)),(7,(.pointer aY)),(8,(vP aZ 0)),(9,(vS S x.1 T)),(10,(vI x.2.1)),(11,(vP X 0)),(20,(vI b9))] aX [pc X (QW aB.1 aE aF) 36,Qg 18 (Ex QH) aA 49 S T x.1,WX U aH Y.2.2,Gn U aI aR,R] a w) (λb0 e a w=>match b0 with | .inl ah=>e= .exit 4/\∃(bF:Fz),ar<=bF/\Hd 197 [] [(0,(vS p4 l3 k5)),(1,(.int .u8 y)),(2,(vS p9 W aQ)),(7,(.pointer aY)),(8,(vP aZ 0)),(9,(vS S x.1 T)),(10,(vI x.2.1))] bF [pc X (QW aB.1 aE aF) 36,Qg 18 (Ex QH) aA 49 S T x.1,WX U aH Y.2.2,Gn U aI aR,R] a w | .inr ah=>e= .ret/\∃(bG:Fz),ar<=bG/\Hd 197 [] [(6,(.bool ah))] bG [WX U aH Y.2.2,Gn U aI aR,R] a w) ?_ ?_ ?_)
         .exact λa w h=>⟨ar,Fz.r,h.1.sub<|.k J,h.2⟩
         .intro b9 cJ;refine GG.ex λa w ⟨aX,F,hA⟩=>⟨_,hA,?_⟩;unfold Kd;refine .w 5<|.sO J J fw J<|.w 3<|.i J (λc9=> ?_) λc9=> ?_
          .refine .w 8 (.d λai bg=>.ak 1 J bg λhX bh=>.tJ J fw jA bh bg J J<|.pB (off:=0) (Φ:=λus=>us=(QH ai)) 1 J (Fz.t Q<|Fz.t g<|Fz.t j<|Fz.t u<|Fz.t C F) J fu jA bh bg J J J (λvs h=>⟨_,by subst h;rfl,J,J⟩) λus hv=> ?_);subst hv;refine .l (cs:=(QH<|Qm.mk 0 0 (λ_=>0) λ_=>0)) J dE J λhY=>.store (cs' :=(QH ai)) jA J J J J (i:=0) J (K4 J) J (QX ij)<|.w 4<|.keep (.p [0,1,2,7,8,9,10,11,20,21] J)<|.cz 7 Qd x0<|.f J jD J W3 J<|.ca J V3 J (i:=0) J J<|.f J Ci J Te J<|.ca J A8 J (i:=1) J J<|.idx J YK W3 (Z.mono<|Fz.t g<|Fz.t j<|Fz.t u<|Fz.t C F) J J λhZ ha hb hc fD fE hd dA dB=>.U J V3 J dA (QF (k:=0) dB J)<|.neq J J J<|.sI<|.w 2<|.i J (λdC=> ?_) λdC=> ?_
           .exact .exit J<|.w 4<|.cv J J λhf hg=>.n<|.drop 0<|.cg<|Qu.norm λa w h=>⟨aX,F,h.1.sub<|.k J,h.2⟩
           .refine .w 4<|.f J Ci J Te J<|.ca J A8 J (i:=1) J J<|.idx J YK W3 (Z.mono<|Fz.t g<|Fz.t j<|Fz.t u<|Fz.t C F) J J λhh hi hj hl fF fG hn dD dF=>.U J V3 J dD (QF (k:=0) dF J)<|.w 9<|.i J (λdH=> ?_) λdH=> ?_
            .refine .q<|.keep (.p [0,1,2,7,8,9,10,11,20,21] J)<|.cz 7 Qd x0<|.f J jD J W3 J<|.ca J V3 J (i:=0) J J<|.f J Ci J Te J<|.ca J A8 J (i:=1) J J<|.idx J YK W3 (Z.mono<|Fz.t g<|Fz.t j<|Fz.t u<|Fz.t C F) J J λho hp hq hr fH fI hs dI dJ=>.U J V3 J dI (QF (k:=0) dJ J)<|.lss J J J<|.sI<|.w 2<|.i J (λdM=> ?_) λdM=> ?_
             .refine .w 5<|.drop 2<|.drop 1<|.drop 0<|.sR<|Qu.ret λa w h=>⟨J,aX,F,h.1.sub<|.k J,h.2⟩
             .exact .w 7<|.cv J J λht hx=>.n<|.drop 0<|.cg<|Qu.norm λa w h=>⟨aX,F,h.1.sub<|.k J,h.2⟩
            .refine .w 5<|.keep (.p [0,1,2,7,8,9,10,11,20,21,144,154] J)<|.c<|.i J (λdN=> ?_) λdN=> ?_
             .refine .q<|.keep (.p [0,1,2,7,8,9,10,11,20,21] J)<|.cz 19 Qd x0<|.f J Ci J Te J<|.ca J A8 J (i:=1) J J<|.idx J YK W3 (Z.mono<|Fz.t g<|Fz.t j<|Fz.t u<|Fz.t C F) J J λeU hy hz h0 fJ fK h1 dP dQ=>.U J V3 J dP (QF (k:=0) dQ J)<|.w 2<|.rP (b:=(decide<|eU≥8)) 13 174 J (λM h2=> ?_) λh3 cA cC=> ?_
              .exact .cc M J J<|.f J Ci J Te J<|.cc M J J<|.ca J A8 J (i:=1) J J<|.cc M J J<|.idx J YK W3 (Z.mono<|Fz.t g<|Fz.t j<|Fz.t u<|Fz.t C F) J J λh4 h5 h7 h8 fL fM h9 dR dS=>.cc M J J<|.U J V3 J dR (QF (k:=0) dS J)<|.cc M J J<|.f J jD J Tk J<|.cc M J J<|.d λbH bj=>.cf J R8 W3 J J bj<|.cc M J J<|.ca J V3 J (i:=0) J (UW 8 (λbH=>((QH ai))[0+2+bH*1]?) (λbH=>some<|vI<|ai.woods bH) J (Q6 bj).2.2.2)<|.cc M J J<|.f J Ci J Te J<|.cc M J J<|.ca J A8 J (i:=1) J J<|.cc M J J<|.idx J YK W3 (Z.mono<|Fz.t g<|Fz.t j<|Fz.t u<|Fz.t C F) J J λiA iB iC iD fN fO iE dT dU=>.cc M J J<|.U J V3 J dT (QF (k:=0) dU J)<|.cc M J J<|.lss J J J<|.sD M J J J<|.sh 13 J J x0 Fz.r
              refine .sI<|.w 2<|.i J (λdV=> ?_) λdV=> ?_
              .refine .w 5<|.drop 2<|.drop 1<|.drop 0<|.sR<|Qu.ret λa w h=>⟨J,cA,(Fz.t F cC),h.1.sub<|.k J,h.2⟩
              .exact .w 7<|.cv J J λiG iH=>.n<|.drop 0<|.cg<|Qu.norm λa w h=>⟨cA,(Fz.t F cC),h.1.sub<|.k J,h.2⟩
             .refine .w 6<|.i J (λdW=> ?_) λdW=> ?_
              .refine .q<|.keep (.p [0,1,2,7,8,9,10,11,20,21] J)<|.cz 19 Qd x0<|.f J Ci J Te J<|.ca J A8 J (i:=1) J J<|.idx J YK W3 (Z.mono<|Fz.t g<|Fz.t j<|Fz.t u<|Fz.t C F) J J λeV iI iJ iK fP fQ iL dX dY=>.U J V3 J dX (QF (k:=0) dY J)<|.w 2<|.rP (b:=(decide<|eV≥8)) 13 195 J (λP iM=> ?_) λiP cD cE=> ?_
               .exact .cc P J J<|.f J Ci J Te J<|.cc P J J<|.ca J A8 J (i:=1) J J<|.cc P J J<|.idx J YK W3 (Z.mono<|Fz.t g<|Fz.t j<|Fz.t u<|Fz.t C F) J J λiQ iR iS iT fR fS iU dZ da=>.cc P J J<|.U J V3 J dZ (QF (k:=0) da J)<|.cc P J J<|.f J jD J Tk J<|.cc P J J<|.d λbI bk=>.cf J R8 W3 J J bk<|.cc P J J<|.ca J V3 J (i:=0) J (UW 8 (λbI=>((QH ai))[0+10+bI*1]?) (λbI=>some<|vI<|ai.places bI) J (Q6 bk).2.2.2)<|.cc P J J<|.f J Ci J Te J<|.cc P J J<|.ca J A8 J (i:=1) J J<|.cc P J J<|.idx J YK W3 (Z.mono<|Fz.t g<|Fz.t j<|Fz.t u<|Fz.t C F) J J λiV iW iX iY fT fU iZ db dc=>.cc P J J<|.U J V3 J db (QF (k:=0) dc J)<|.cc P J J<|.lss J J J<|.sD P J J J<|.sh 13 J J x0 Fz.r
               refine .sI<|.w 2<|.i J (λdd=> ?_) λdd=> ?_
               .refine .w 5<|.drop 2<|.drop 1<|.drop 0<|.sR<|Qu.ret λa w h=>⟨J,cD,(Fz.t F cE),h.1.sub<|.k J,h.2⟩
               .exact .w 7<|.cv J J λia ib=>.n<|.drop 0<|.cg<|Qu.norm λa w h=>⟨cD,(Fz.t F cE),h.1.sub<|.k J,h.2⟩
              .exact .w 7<|.cv J J λic ie=>.n<|.drop 0<|.cg<|Qu.norm λa w h=>⟨aX,F,h.1.sub<|.k J,h.2⟩
          .refine .cw J<|Qu.exit λa w h=>⟨J,aX,F,h.1.sub<|.k J,h.2⟩
         .intro ah cQ hk e a w hD;rcases ah with ah | ah
          .obtain⟨rfl,bF,bJ,hA⟩:=hD;refine Q9 J<|GG.app ?_ hk a w hA;exact .w 5<|.cv J J λig ih=>.n<|.drop 0<|.sy 0 (Fz.t Q<|Fz.t g<|Fz.t j<|Fz.t u<|Fz.t C bJ) J<|.sA 1 (VY U) (Fz.t u<|Fz.t C bJ) J<|.sA 2 (Ws U) (Fz.t C bJ) J<|.cg<|Qu.norm λa w h=>⟨bF,S,T,(Fz.t aD<|Fz.t Q<|Fz.t g<|Fz.t j<|Fz.t u<|Fz.t C bJ),h.1.sub<|.k J,h.2⟩
          obtain⟨rfl,bG,bl,hA⟩:=hD
          replace hA:=Hd.sA 0 (VY U) (Fz.t u<|Fz.t C bl) rfl hA
          replace hA:=Hd.sA 1 (Ws U) (Fz.t C bl) rfl hA
          exact K6<|(Qu.ret λa w h=>⟨J,bG,(Fz.t aD<|Fz.t Q<|Fz.t g<|Fz.t j<|Fz.t u<|Fz.t C bl),h.1.sub<|.k J,h.2⟩) hk a w hA
    .refine .cw J<|Qu.exit λa w h=>⟨J,aA,S,T,aD,h.1.sub<|.k J,h.2⟩
   .intro aC cQ hk e a w hD;rcases aC with aC | aC
    .obtain⟨rfl,ad,bQ,bR,cF,hA⟩:=hD;refine Q9 J<|GG.app ?_ hk a w hA;exact .w 3<|.cx J call5 J J J (Sq _<|hT.mono<|Fz.t aK<|Fz.t aL<|Fz.t aa<|Fz.t ab cF)<|JI λij ik _ bm=>.w 3<|.sA 1 (VY U) bm J<|.sA 2 (Ws U) bm J<|.ai [1,1,1] results3 (.tmp J<|.nil) J (Fz.t aK<|Fz.t aL<|Fz.t aa<|Fz.t ab<|Fz.t cF bm) J
    obtain⟨rfl,aj,eW,hA⟩:=hD;exact K6<|(Fg [0,0,0] results3 (.tmp J<|.nil) J (Fz.t aK<|Fz.t aL<|Fz.t aa<|Fz.t ab eW) J) hk a w hA
def Yy(c:(Q0<|Q0 H1))(a:Int)(b:(Q0 Int)):Q2 Bool:=(JL [] [] c a b).map Prod.fst
theorem FY(F0:Fz)(i:HJ F0)(d:(Q0<|Q0 H1))(e:Q2 C1)(f:Nat)(j:QI 1 (Ex Af) F0 e f d)(a:Int)(b:(Q0 Int))(g:Q2 C1)(c:Nat)(h:QI 1 (Ex<|Zy .u8) F0 g c b):KO prog 3 #[(vS e d f),(.int .u8 a),(vS g b c)] F0 (Yy d a b) (λr _ v=>v=(.bool r)):=KO.nl (C:=λγ γ' =>bF<|Jw.mk 0 0 0 γ γ' 0 0 0 0 0) (C' :=λγ γ' =>gD<|Jw.mk 0 0 0 γ γ' 0 0 0 0 0) λγ γ' F le=>G8 F (i.mono le) (Jw.mk 0 0 0 γ γ' 0 0 0 0 0) [] [] d e f (j.mono le) a b g c<|h.mono le
end
section
open Go.Dec
variable{L:QA}{n:Int}
structure zZ(L L1:QA):Prop where
 bat:L1.batches=L.batches
 day:L1.day=L.day
 bc:∀cu,BC L cu->∃cu',BC L1 cu'
section
variable{L L1 L2:QA}{cu:Ca.FA}
theorem zZ.refl:zZ L L:=⟨rfl,rfl,λcu h=>⟨cu,h⟩⟩
theorem zZ.trans(h:zZ L L1)(k:zZ L1 L2):zZ L L2:=⟨k.bat.trans h.bat,k.day.trans h.day,λcu a=>let⟨b,c⟩:=h.bc cu a;k.bc b c⟩
theorem zZ.casks(h:L1.casks=L.casks)(d:L1.day=L.day)(b:L1.batches=L.batches):zZ L L1:=⟨b,d,λcu a=>⟨cu,a.later h (by rw[d];exact y0 _) (by rw[d];exact a.day.2)⟩⟩
theorem Hh.pI{x:QE}(h:Hh L x L1):zZ L L1:=⟨by rw[h.1],by rw[h.1],λcu a=>let⟨c',h',_⟩:=a.step h;⟨c',h'⟩⟩
theorem AA.pI{x:QQ}(h:AA L x L1):zZ L L1:=.casks (by rw[h.1]) (by rw[h.1])<|by rw[h.1]
theorem LC.pI{p q:Int}(h:LC L p q n L1):zZ L L1:=by
 cases h with
 | stay=>exact .refl
 | go _ _ L1 L2 a b=>exact(a.pI.trans b.pI).trans<|.casks rfl rfl rfl
theorem R2{num:Int}{q:Qp}(d:BC L cu)(a:Bc L num n=some (.ok (q,L2))):zZ L L2/\q.From=(atR L num).1/\∃L1,Hh L ⟨3,0,num,0,0,0,n,0⟩ L1:=by
 unfold Bc at a
 obtain⟨_,a⟩:=YO a;obtain⟨L1,e,a⟩:=Yz a;obtain⟨p,g,a⟩:=u2.1 a;obtain⟨h,b,a⟩:=Yz a;obtain⟨_,_,a⟩:=u2.1 a;obtain⟨_,_,a⟩:=u2.1 a;simp only[UV,Out.ok.injEq,T2] at a
 obtain⟨rfl,rfl⟩:=a;have c:=HF d.days e;refine⟨c.pI.trans ?_,rfl,L1,c⟩;unfold Tz at b
 split at b
 .obtain⟨i,f,b⟩:=Yz b;simp only[UV,Out.ok.injEq] at b
  subst b;exact(Sb f).pI.trans<|.casks rfl rfl rfl
 .simp only[UV,Out.ok.injEq] at b
  subst b;exact .refl
theorem RA:∀(ps:Q0 (Int×Int)) {x y:QV} {L L2:QA} {cu:Ca.FA},BC L cu->G5 ps x L=some (.ok (y,L2))->zZ L L2/\∃k,y.Draughts=x.Draughts++k
 | [],x,y,L,L2,cu,h,a=>by
  simp only[G5,UV,Out.ok.injEq,T2] at a
  obtain⟨rfl,rfl⟩:=a;exact⟨.refl,[],by simp⟩
 | p::ps,x,y,L,L2,cu,h,a=>by
  unfold G5 at a
  obtain⟨⟨q,L1⟩,c,a⟩:=Yz a;obtain⟨_,a⟩:=Wm a;obtain⟨b,_⟩:=R2 h c;obtain⟨g,d⟩:=b.bc cu h;obtain⟨f,k,e⟩:=RA ps d a;exact⟨b.trans f,q::k,by rw[e];simp⟩
theorem qz{ps:Q0 (Int×Int)}{v:Int}{b:QV}(d:BC L cu)(a:G5 ps ⟨[],v,⟨0,0⟩,false,false⟩ L=some (.ok (b,L2)))(f:Bo.X1 b=true):zZ L L2/\∃c n g q,ps=(c,n)::g/\q∈b.Draughts/\q.From=(atR L c).1/\∃L1,Hh L ⟨3,0,c,0,0,0,n,0⟩ L1:=by
 refine⟨(RA ps d a).1,?_⟩;cases ps with
 | nil=>
  simp only[G5,UV,Out.ok.injEq,T2] at a
  obtain⟨rfl,_⟩:=a;have:=((Bo.HS _).1 f).len.1;simp at this
 | cons p ps=>
  unfold G5 at a
  obtain⟨⟨q,L1⟩,h,a⟩:=Yz a;obtain⟨_,a⟩:=Wm a;obtain⟨i,j,l⟩:=R2 d h;obtain⟨o,m⟩:=i.bc cu d;obtain⟨_,k,e⟩:=RA ps m a;exact⟨p.1,p.2,ps,q,rfl,by rw[e];simp,j,l⟩
theorem kW{num:Int}(b:BC L cu)(d:Hh L ⟨3,0,num,0,0,0,n,0⟩ L1):∃h,Ca.Jk (Ca.Ln L.day cu) num=some h/\(atR L num).1=h.C/\1<=h.C.Amount:=by
 obtain⟨⟨e,t'⟩,_,a,_,j⟩:=b.step d;have a:Ca.OJ (Ca.Ln L.day cu) _ _ e:=a;have l:1<=n/\n<=1099511627776:=Ca.DF j<|.inr<|.inr rfl;cases a with
 | make k=>cases k
 | fill k=>cases k
 | rack k=>cases k
 | carry k=>cases k
 | sell k=>cases k
 | pledge k=>cases k
 | free k=>cases k
 | char k=>cases k
 | drain k i c f g m am=>
  have am:n<=c.C.Amount:=am;have f:Ca.Z1 (Ca.Ln L.day cu) num=some i:=f;exact⟨c,Ca.H2 f g,by rw[show atR L num=(c.C,0) from Ca.OS b.nj f g],by omega⟩
end
theorem yv{l:Q0 QE}{day:Int}{all:Q0 Ca.ZY}{h:Ca.ZY}(F:Ca.JV l day=(.inl all,l.length))(g:h∈all)(I:1<=h.C.Amount):∃x∈l,x.Kind=1:=by
 have B:∀(d:Int) (A:Q0 Ca.ZY),(∀h∈A,h.C.Amount=0)->∀h∈A.map (Ca.Kj d),h.C.Amount=0:=λd A m h g=>by
  obtain⟨y,v,rfl⟩:=lX.1 g;have:=m y v;unfold Ca.Kj;split<;>exact this
 obtain⟨s,p,q,_⟩:=Ca.yV (λpre s=>(∀x∈pre,x.Kind≠1)->∀h∈s.all,h.C.Amount=0) (λ_ h g=>by cases g)
  (λpre x s l' q _ D _ _ G E=>by
   have m:=B (x.Day - s.last) s.all (q λy v=>E y<|by simp[v]);have w:=E x ic;have m:∀h∈Ca.Ln x.Day s,h.C.Amount=0:=m
   have b:∀{i:Nat} {c' :Ca.ZY},c'.C.Amount=0->∀h∈(Ca.Ln x.Day s).set i c',h.C.Amount=0:=fun{i c'} e h g=>by
    rcases qBF g with z | z
    .exact m h z
    .rw[z];exact e
   cases G with
   | make k f n=>
    intro h g;rcases mb.1 g with g | g
    .exact m h g
    .simp only[ts] at g;subst g;rfl
   | fill k=>exact absurd k w
   | rack k i c f hi j o K M ne N u P a r=>
    have:=m c<|S1 hi;have:=(Ca.DF D<|.inr<|.inl k).1;omega
   | drain k i c f hi u a=>
    have:=m c<|S1 hi;have:=(Ca.DF D<|.inr<|.inr k).1;omega
   | carry k i c f hi=>exact b (m c<|S1 hi)
   | sell k i c f hi o u t=>exact b (m c<|S1 hi)
   | pledge k i c f hi o u=>exact b (m c<|S1 hi)
   | free k i c f hi u=>exact b (m c<|S1 hi)
   | char k i c f hi a=>exact b<|m c<|S1 hi) F
 rw[List.take_length] at q
 refine oC λH=> ?_;have:=B (day - s.last) s.all (q λx w e=>H ⟨x,w,e⟩) h (by rw[p] at g;exact g);omega
abbrev Pd:Q0 H1:=[99,108,97,105,109]
theorem Deed.what{k:QA}{H:Ca.FA}{w u:Q0 H1}{i:Q0 Int}(I:BC L H)(h:Deed L w i u k):(∃d,w=LH/\i=[d]/\d<=65536/\L.day<=d/\k={L with day:=d})∨
  (∃a b c ds ps,w=Hn/\i=a::b::c::ds/\U0 ds=some ps/\k={L with rules:=some (VZ a b c ps)})∨
  (∃num v a z c n ds b q,w=FN/\i=num::v::a::z::c::n::ds/\QZ L.batches num=none/\q∈b.Draughts/\q.From=(atR L c).1/\(∃g,Hh L ⟨3,0,c,0,0,0,n,0⟩ g)/\k.batches=Qq L.batches num b/\k.day=L.day/\∃D,BC k D)∨
  (w≠LH/\w≠Hn/\w≠FN/\zZ L k/\(w=Pd->Ue L i=some (.ok (u,k)))):=by
 have rest:∀w∈Re,w≠LH/\w≠Hn/\w≠FN/\w≠Pd:=by decide
 have go:∀{w:Q0 H1} {g:QA},w∈Re->zZ L g->w≠LH/\w≠Hn/\w≠FN/\zZ L g/\(w=Pd->Ue L i=some (.ok (u,g))):=λf e=>⟨(rest _ f).1,(rest _ f).2.1,(rest _ f).2.2.1,e,λh=>absurd h (rest _ f).2.2.2⟩;cases h with
 | day d y M=>exact .inl ⟨d,rfl,rfl,y,M,rfl⟩
 | rules a b c i ps t K y=>exact .inr (.inl ⟨a,b,c,i,ps,rfl,rfl,t,rfl⟩)
 | make w f c v p m o g C h=>exact .inr (.inr<|.inr<|go f h.pI)
 | fill0 c n s g hs h=>exact .inr (.inr<|.inr ⟨by decide,by decide,by decide,h.pI,λe=>absurd e ig⟩)
 | fill c n s g j hs h t d=>exact .inr (.inr<|.inr ⟨by decide,by decide,by decide,(h.pI.trans d.pI).trans<|.casks rfl rfl rfl,λe=>absurd e ig⟩)
 | rack w f a b n p g j h t C=>exact .inr (.inr<|.inr<|go f<|(h.pI.trans C.pI).trans<|.casks rfl rfl rfl)
 | carry w f a p g j h C=>exact .inr (.inr<|.inr<|go f<|h.pI.trans C.pI)
 | keep w f i x g N h=>exact .inr (.inr<|.inr<|go f h.pI)
 | stamps w f i x g N P h=>exact .inr (.inr<|.inr<|go f<|.casks (by rw[h.1]) (by rw[h.1])<|by rw[h.1])
 | pay w f a g h=>exact .inr (.inr<|.inr<|go f h.pI)
 | bottle num v a z ds ps b g j t K E Q hs P h=>
  obtain⟨F,c,n,W,q,rfl,R,S,T⟩:=qz I E Q;obtain⟨V,y⟩:=F.bc H I
  have G:∃r,ds=c::n::r:=by
   cases ds with
   | nil=>cases t
   | cons a l=>
    cases l with
    | nil=>cases t
    | cons b l=>
     simp only[U0,lW] at t
     obtain⟨_,_,e⟩:=t;simp only[oA,T2] at e
     exact⟨l,by rw[e.1.1,e.1.2]⟩
  obtain⟨r,rfl⟩:=G;have A:j={g with stamps:=g.stamps++[⟨1,a,z,num⟩]}:=h.1;refine .inr<|.inr<|.inl ⟨num,v,a,z,c,n,r,b,q,rfl,rfl,K,R,S,T,?_,?_,V,y.later ?_ ?_ ?_⟩
  .show Qq j.batches num b=_;rw[A];show Qq g.batches num b=_;rw[F.bat]
  .show j.day=_;rw[A];exact F.day
  .show j.casks=_;rw[A]
  .show g.day<=j.day;rw[A];exact y0 _
  .show j.day<=_;rw[A];exact y.day.2
 | ask d E f=>
  have:∀w∈gq,w≠LH/\w≠Hn/\w≠FN:=by decide
  rename_i h;refine .inr<|.inr<|.inr ⟨(this _ f).1,(this _ f).2.1,(this _ f).2.2,.refl,λe=> ?_⟩
  have B:∀d∈X0,d.word=Pd->d.does=Ue:=by
   unfold X0;simp only[A4,oo,qAf];rintro d (rfl | rfl | rfl | rfl | rfl | rfl | rfl | rfl | rfl | rfl | rfl | rfl | rfl | rfl | rfl | rfl | rfl | rfl | rfl | rfl) e
   all_goals first | rfl | exact absurd e ig
  rw[<-B d E e];exact h
theorem kj{o:QA}{l:Q0 Int}(h:Ue L l=some (.ok (L5,o))):∃n k w v b,l=[n,k,w,v]/\QZ L.batches n=some b/\(k=1∨k=2->0<=w/\w<=7)/\
  ∀q∈b.Draughts,(k=0->v<=q.From.Age)/\(k=1->v<=q.From.Woods w.toNat)/\(k=2->v<=q.From.Places w.toNat):=by
 unfold Ue at h
 split at h
 .rename_i n k w v;cases g:QZ L.batches n with
  | none=>rw[g] at h;cases h
  | some b=>
   rw[g] at h
   obtain⟨r,c,h⟩:=u2.1 h;obtain⟨m,h⟩:=YO h;simp only[UV,Out.ok.injEq,T2] at h
   have a:r.1=true:=by
    cases e:r.1 with
    | true=>rfl
    | false=>rw[e] at h;exact absurd h.1 ig
   unfold Mq at c
   obtain⟨_,c⟩:=Wm c;simp only[UV] at c
   split at c
   .rename_i i;rw[<-c] at a
    have a:Bo.Fl b (kR b) ⟨k,w,v⟩=true:=a;simp only[BY] at i
    have p:=Bo.gC.of i.2;have f:b.Draughts≠[]:=λe=>by have:=((Bo.HS _).1 i.1).len.1;rw[e] at this;simp at this
    refine⟨n,k,w,v,b,rfl,g,p.what,λq j=>⟨λe=> ?_,λe=> ?_,λe=> ?_⟩⟩
    .subst e;have a:v<=Bo.Ga b.Draughts λd=>d.From.Age:=lv a;exact(Bo.O7 f).1 a q j
    .subst e;have a:v<=Bo.Ga b.Draughts λd=>d.From.Woods w.toNat:=lv a;exact(Bo.O7 f).1 a q j
    .subst e;have a:v<=Bo.Ga b.Draughts λd=>d.From.Places w.toNat:=lv a;exact(Bo.O7 f).1 a q j
   .rw[<-c] at m;cases m
 .cases h
theorem kY(l:Q0 QE)(r:l.length<=1000000):∃t,ZV (KA l) ([],0)=some t/\t.length<=l.length/\(∀z∈t,∃(j:Nat) (x:QE),z=(j:Int)/\l[j]? =some x/\x.Kind=1)/\((∃x∈l,x.Kind=1)->t≠[]):=by
 obtain⟨t',o,p⟩:=Ha (body:=KA l) (λi (t:Q0 Int)=>(t,(i:Int))) (λt=>t) (λpre t=>t.length<=pre.length/\(∀z∈t,∃(j:Nat) (x:QE),z=(j:Int)/\l[j]? =some x/\x.Kind=1)/\((∃x∈pre,x.Kind=1)->t≠[])) l
  (λpre x post t e ⟨s,k,q⟩=>by
   have g:=YJ e;have hi:=Xf e;have m:Qy ((pre.length:Int)+1)=((pre.length+1:Nat):Int):=by rw[Qs hQ hQ];simp
   have a:decide ((pre.length:Int) < (l.length:Int))=true:=by simpa using hi
   by_cases f:x.Kind=1
   .refine⟨t++[(pre.length:Int)],?_,by simp;omega,λz b=> ?_,λ_ h=>by simp at h⟩
    .unfold KA;simp only[a,B1,Zq,g,K1];rw[DO (by simp[f]),W2 ia];simp only[K1,QO,m]
    .rcases mb.1 b with b | b
     .exact k z b
     .simp only[ts] at b;exact⟨pre.length,x,b,g,f⟩
   .refine⟨t,?_,by simp;omega,k,fun⟨y,c,d⟩=>q ⟨y,?_,d⟩⟩
    .unfold KA;simp only[a,B1,Zq,g,K1];rw[Do<|by simp[f]];simp only[K1,QO,m]
    .rcases mb.1 c with c | c
     .exact c
     .simp only[ts] at c;subst c;exact absurd d f)
  (λt _=>by unfold KA;simp) l [] [] rfl ⟨So _,λ_ h=>(by cases h),fun⟨_,h,_⟩=>(by cases h)⟩
 exact⟨t',p,o⟩
def bC(L:QA)(d:Qm):Prop:=∃b,QZ L.batches d.batch=some b/\∃q∈b.Draughts,q.From.Age<=d.age/\(∀k,q.From.Woods k<=d.woods k)/\∀k,q.From.Places k<=d.places k
theorem kl{ds:Q0 Qm}{y:Int×Q0 Q8×Q0 Qf}{w:Q0 H1}{f:Bool}{k a v:Int}{b:QV}(N:ds.length<=1000000)(r:∀d∈ds,bC L d)(s:QZ L.batches n=some b)(p:k=1∨k=2->0<=a/\a<=7)
  (u:∀q∈b.Draughts,(k=0->v<=q.From.Age)/\(k=1->v<=q.From.Woods a.toNat)/\(k=2->v<=q.From.Places a.toNat)):ZV (Kd (ds,y) (⟨w,[n,k,a,v]⟩,f)) 0=some (.inl ()):=by
 obtain⟨_,_,x⟩:=Ha (body:=Kd (ds,y) (⟨w,[n,k,a,v]⟩,f)) (λi (_:Unit)=>(i:Int)) (λ_=>.inl ()) (λ_ _=>True) ds
  (λpre d post t e _=>by
   have z:=YJ e;have hi:=Xf e;have A:Qy ((pre.length:Int)+1)=((pre.length+1:Nat):Int):=by rw[Qs hQ hQ];simp
   have c:decide ((pre.length:Int) < (ds.length:Int))=true:=by simpa using hi
   have B:ZI [n,k,a,v] 0=some n:=rfl;have C:ZI [n,k,a,v] 1=some k:=rfl;have D:ZI [n,k,a,v] 2=some a:=rfl;have E:ZI [n,k,a,v] 3=some v:=rfl;refine⟨(),?_,trivial⟩;unfold Kd;simp only[c,B1,Zq,z,K1,B,C,D,E,QO,A];by_cases l:d.batch=n
   .obtain⟨b',g,q,F,P,G,H⟩:=r d (by rw[e];simp);rw[l,s] at g
    simp only[UV] at g
    subst g;obtain⟨I,K,M⟩:=u q F;rw[Do<|by simp[l]];by_cases m:k=0
    .have:=I m;rw[DO (by simp[m]),Do ia]
    .rw[Do<|by simp[m]];by_cases h:k=1
     .have:=K h;have:=G a.toNat;have⟨a0,o⟩:=p<|.inl h;rw[DO (by simp[h]),Do ia,Ca.xV a0 o,K1,K1,Do ia]
     .rw[Do<|by simp[h]];by_cases j:k=2
      .have:=M j;have:=H a.toNat;have⟨a0,o⟩:=p<|.inr j;rw[DO (by simp[j]),Do ia,Ca.xV a0 o,K1,K1,Do ia]
      .rw[Do<|by simp[j]]
   .rw[DO<|by simp[l]])
  (λt _=>by unfold Kd;simp) ds [] () rfl trivial
 exact x
structure cE(L:QA)(W:Qf)(ds:List Qm)(n:Nat):Prop where
 bc:∃cu,BC L cu
 day:W.day=L.day
 few:ds.length<=n
 ok:∀d∈ds,bC L d
section
variable{l:Q0 (Q0 H1)}(hl:l.length<=40)(hx:∀x∈l,x.length<=4000){r:ON×Q0 Q8}(h0:r.1=some 0){kp:Int}(hw8:0<=kp/\kp<=255){by_:Q0 Int}(hby:by_≠[])
include hl hx h0 hw8 hby
theorem zF{x:Q0 H1}{pre post:Q0 (Q0 H1)}{W:Qf}{ds:Q0 Qm}(e:l=pre++x::post)(hI:Inv (1000*(pre.length+1)) (pre.length+1) L)(B:cE L W ds pre.length):∃s W' o,ZX [] l kp by_ r (ds,(pre.length:Int),[⟨L,true⟩],[W])=some (.next (o,((pre++[x]).length:Int),[⟨s,true⟩],[W']))/\Inv (1000*((pre++[x]).length+1)) ((pre++[x]).length+1) s/\cE s W' o (pre++[x]).length:=by
 have hg:=YJ e;have hi:=Xf e;have E:ZI l (pre.length:Int)=some x:=by rw[Zq,hg]
 have T:=hx x (by rw[e];simp);obtain⟨V,er,s,D,a6,aX,hc⟩:=dY (A:=[⟨L,true⟩]) (i:=0) rfl hI hQ hQ x;have aL:([⟨L,true⟩]:Q0 Q8).set 0 ⟨s,true⟩=[⟨s,true⟩]:=rfl;rw[aL] at D
 have F:Inv (1000*((pre++[x]).length+1)) ((pre++[x]).length+1) s:=aX.up ia ic;have g:decide ((pre.length:Int) < (l.length:Int))=true:=by simpa using hi
 have G:(pre++[x]).length=pre.length+1:=by simp
 have m:(((pre++[x]).length:Nat):Int)=(pre.length:Int)+1:=by simp
 have hw:Qy ((pre.length:Int)+1)=(pre.length:Int)+1:=Qs hQ hQ;have bE:=hI.casks;have p:YH [⟨L,true⟩] (some 0)=some L.casks:=Mu rfl hQ;rcases hc with⟨hE,_,aY⟩ | ⟨aZ,X,_⟩
 .obtain⟨r1,hp,_⟩:=jR x T;subst aY;have he:(er != 0)=true:=by have:=hE.1;simp;omega
  refine⟨s,W,ds,?_,F,by rw[G];exact⟨B.bc,B.day,by have:=B.few;omega,B.ok⟩⟩;unfold ZX;simp only[g,B1,E,hp,K1,h0,p];rw[D,K1];simp only[he,B1,QO,hw,m]
 .obtain⟨w,ns,u,Y,_,Z⟩:=IK hI.days X;have hp:=kB T u Y;have aa:ns.length<=4000:=oD (N8 u) T;have aM:=qH u;obtain⟨cu,N⟩:=B.bc;have P:(er != 0)=false:=by simp[aZ]
  have H:∀{L1:QA},L1.batches=L.batches->∀d∈ds,bC L1 d:=fun{L1} eb d M=>by
   obtain⟨b,hb,h⟩:=B.ok d M;exact⟨b,by rw[eb];exact hb,h⟩
  have a8:=B.few;rcases Z.what N with⟨d,rfl,rfl,ae,af,I⟩ | ⟨a,b,c,dd,ps,rfl,rfl,ag,I⟩ | ⟨num,v,a,z,c,n,dd,b,q,rfl,rfl,aA,hq,hf,⟨L1,ai⟩,Q,aO,aB,aC⟩ | ⟨n1,n2,n3,hS,ak⟩
  .refine⟨s,_,ds,?_,F,by rw[G];exact⟨⟨cu,N.later (by rw[I]) (by rw[I];exact af) (by rw[I];exact ae)⟩,(by rw[I]:(⟨d,W.ruled,W.rules⟩:Qf).day=s.day),by omega,H<|by rw[I]⟩⟩;unfold ZX;simp only[g,B1,E,hp,K1,h0,p];rw[D,K1];simp only[P,RW,W1,Bm,qs,w9,K1];rw[Do ig,DO (by rw[show(LH==([99,108,97,105,109]:Q0 H1))=false by decide];rfl)];simp only[QO,hw,m]
  .refine⟨s,_,ds,?_,F,by rw[G];exact⟨⟨cu,N.later (by rw[I]) (by rw[I];exact y0 _) (by rw[I];exact N.day.2)⟩,(by rw[I];exact B.day:(⟨W.day,true,VZ a b c ps⟩:Qf).day=s.day),by omega,H<|by rw[I]⟩⟩;unfold ZX;simp only[g,B1,E,hp,K1,h0,p];rw[D,K1];simp only[P,RW,W1,Bm,qs,yJ (W:=W) (a:=a) (b:=b) (c:=c) (show dd.length<=100000 by simp at aa;omega) ag,K1];rw[Do ig,DO (by rw[show(Hn==([99,108,97,105,109]:Q0 H1))=false by decide];rfl)];simp only[QO,hw,m]
  .obtain⟨y,hy,al,aQ⟩:=kW N ai;obtain⟨t,ht,bM,an,ao⟩:=kY L.casks hQ;have R:=ao<|yv N.nj (Ca.BR hy).2 aQ;have bN:0 < t.length:=by cases t with | nil=>exact absurd rfl R | cons _ _=>simp
   obtain⟨j,hj,aq⟩:=O9 (l:=t) (Int.emod_nonneg kp<|show(t.length:Int)≠0 by omega) (Int.emod_lt_of_pos kp<|show(0:Int) < (t.length:Int) by omega);obtain⟨f,xf,rfl,ar,au⟩:=an j<|S1 aq
   have aR:SI kp (t.length:Int)=some (kp%(t.length:Int)):=by
    unfold SI;rw[Do hQ,oO hw8.1]
   obtain⟨tr,av,aD⟩:=Ca.j7 (f:=f) (num:=c) N.nj hQ N.day.2 hby (λy hy=>by rw[ar] at hy;cases hy;exact au) (aM c ic);have K:Zj [W] (some 0) ⟨FN,num::v::a::z::c::n::dd⟩=some [W]:=I8 ig ig
   have S:∀d∈ds,bC s d:=λd M=>by
    obtain⟨b',aE,h⟩:=B.ok d M;refine⟨b',?_,h⟩;rw[Q,Ca.WO,Do ?_]
    .exact aE
    .intro e';rw[r6.1 e',aA] at aE
     cases aE
   have i4:ZI (num::v::a::z::c::n::dd) 4=some c:=rfl;have i0:ZI (num::v::a::z::c::n::dd) 0=some num:=rfl;have aw:((t.length:Int)==0)=false:=by simpa using R
   have ax:∃o,(if tr.2 then((some num).bind λx=>QO ({tr.1 with batch:=x}) λx' =>(Y1 ds [x']).bind λl=>some (l,x')) else some (ds,tr.1):Q2 (Q0 Qm×Qm))=some o/\o.1.length<=pre.length+1/\∀d∈o.1,bC s d:=by
    cases h2:tr.2 with
    | false=>exact⟨_,rfl,by show ds.length<=_;omega,S⟩
    | true=>
     obtain⟨y',aF,aG⟩:=aD h2;rw[hy] at aF
     simp only[UV] at aF
     subst aF;refine⟨(ds++[{tr.1 with batch:=num}],{tr.1 with batch:=num}),?_,by simp;omega,λd M=> ?_⟩
     .rw[DO rfl,K1,QO,W2 ia];rfl
     .rcases mb.1 M with M | M
      .exact S d M
      .simp only[ts] at M
       subst M;have eq:q.From=y.C:=by rw[hf,al]
       exact⟨b,by rw[Q,Ca.WO];simp,q,hq,by rw[eq];exact aG.age,λk=>by rw[eq];exact aG.iw k,λk=>by rw[eq];exact aG.ap k⟩
   obtain⟨o,az,aH,aS⟩:=ax;refine⟨s,W,o.1,?_,F,by rw[G];exact⟨⟨aB,aC⟩,by rw[aO];exact B.day,aH,aS⟩⟩;unfold ZX;simp only[g,B1,E,hp,K1,h0,p];rw[D,K1];simp only[P,RW,W1,Bm,qs,K,K1];rw[DO ig,ht,K1];simp only[aw,W1,Bm];rw[Qs (n:=kp) hQ hQ,aR,K1,hj,K1,i4,K1];simp only[C2,K1];rw[B.day,av,K1,i0,az,K1,DO (by rw[show(FN==([99,108,97,105,109]:Q0 H1))=false by decide];rfl)];simp only[QO,hw,m]
  .have K:Zj [W] (some 0) ⟨w,ns⟩=some [W]:=I8 n1 n2;obtain⟨aB,aC⟩:=hS.bc cu N;refine⟨s,W,ds,?_,F,by rw[G];exact⟨⟨aB,aC⟩,by rw[hS.day];exact B.day,by omega,H hS.bat⟩⟩;unfold ZX;simp only[g,B1,E,hp,K1,h0,p];rw[D,K1];have e3:(w==([98,111,116,116,108,101]:Q0 H1))=false:=by simpa using n3
   simp only[P,RW,W1,Bm,qs,K,K1,e3];by_cases aU:w=Pd/\V=L5
   .obtain⟨rfl,rfl⟩:=aU;obtain⟨n,k,a,v,b,rfl,hb,ha,hq⟩:=kj<|ak rfl;rw[Do ig,kl hQ B.ok hb ha hq];simp only[K1,QO,hw,m]
   .rw[DO (by
     by_cases h1:w=Pd
     .have h2:V≠L5:=λh=>aU ⟨h1,h⟩;have:(V==([116,114,117,101]:Q0 H1))=false:=by simpa using h2
      simp[this]
     .have:(w==([99,108,97,105,109]:Q0 H1))=false:=by simpa using h1
      simp[this])]
    simp only[QO,hw,m]
theorem R3:∀(post pre:Q0 (Q0 H1)) (L:QA) (W:Qf) (ds:Q0 Qm),l=pre++post->Inv (1000*(pre.length+1)) (pre.length+1) L->cE L W ds pre.length->
  ∃b,ZV (ZX [] l kp by_ r) (ds,(pre.length:Int),[⟨L,true⟩],[W])=some (.inl b)
 | [],pre,L,W,ds,e,d,f=>by
  rw[mo] at e
  subst e;refine⟨(ds,[⟨L,true⟩],[W]),?_⟩;rw[ZK];unfold ZX;simp
 | x::post,pre,L,W,ds,e,d,f=>by
  obtain⟨g,h,i,j,a,c⟩:=zF hl hx h0 hw8 hby e d f;obtain⟨b,k⟩:=R3 post (pre++[x]) g h i (by rw[e];simp) a c;refine⟨b,?_⟩;rw[ZK,j];exact k
end
theorem zE(l:Q0 (Q0 H1))(kp:Int)(by_:Q0 Int)(o:∀x∈l,x.length<=140737488351232)(p:(Lit.int .u8 kp).wf=true):Yy l kp by_=some true:=by
 have u:=wf_u8 p;unfold Yy
 suffices h:∃A,JL [] [] l kp by_=some (true,A) by obtain⟨A,h⟩:=h;rw[h];rfl
 unfold JL;obtain⟨b,q,g⟩:=fP l o;rw[q,K1];by_cases c:((!b)||((by_.length:Int)==0))=true
 .rw[DO c];simp only[M5,K1];exact⟨_,rfl⟩
 .rw[Do c];simp only[mx,r8,r6,not_or] at c
  obtain⟨s,v⟩:=g (by simpa using c.1);have i:by_≠[]:=λe=>c.2<|by simp[e]
  have j:∀x∈l,x.length<=4000:=λx t=>by
   obtain⟨a,b,rfl⟩:=oN t;have:WV (a++x::b)=WV a+(x.length+1)+WV b:=by simp[WV];omega
   omega
  have k:Hv []=some (some 0,[⟨DG,true⟩]):=rfl;simp only[k,K1,o6,W1,Bm,QO,lQ];have m:BC DG ⟨[],0⟩:=⟨by decide,λ_ h=>(by cases h),by decide,rfl⟩;obtain⟨b,f⟩:=R3 s j (r:=(some 0,[⟨DG,true⟩])) rfl (kp:=kp) hQ i l [] DG ⟨0,false,⟨[],0,0,0⟩⟩ [] rfl (Inv.start.up ic ic) ⟨⟨_,m⟩,rfl,So _,λ_ h=>by cases h⟩;have d:ZV (ZX [] l kp by_ (some 0,[⟨DG,true⟩])) ([],0,[⟨DG,true⟩],[⟨0,false,⟨[],0,0,0⟩⟩])=some (.inl b):=f;rw[d,K1];simp only[M5,K1];exact⟨_,rfl⟩
end
section
open Go.Dec Go.Shelf Go.RowKit Go.Maps Go.Sort Go.ChangeShapes Go.WideShapes Go.ChangeAt
theorem Tryz.own:ownKnob Tryz.prog.godebug=none:=by kernel_rfl
theorem Tryz.laidOut:laidOutB Tryz.prog=true:=by kernel_rfl
theorem zM{α:Type}{a:C3 α}{l:Q0 α}(h:a.toList=l):a=l.toArray:=by rw[<-h]
theorem dV:Tryz.prog.globalNamed "internal/strconv.uint64pow10"=some 1:=by kernel_rfl
theorem bT:(Tryz.prog.globals[1]?).map (·.type)=some 282:=by kernel_rfl
theorem xl:Tryz.prog.cellsOf 257=1:=by kernel_rfl
theorem wH:Tryz.prog.cellsOf 282=20:=by kernel_rfl
theorem uL:(Rows.laid_internal_strconv_uint64pow10:DataW Unit)=Go.Lib.tabData .u64 Go.Lib.pow10Tab:=by kernel_rfl
theorem jX:((begin Tryz.prog (λ_ _=>0) default).world.heap[0]?).bind Obj.row? =some (#[.int .i64 0],3):=by kernel_rfl
theorem kQ{W:By}(h:laidMetH Tryz.prog Rows.officeClaimsRow.laid W):laidMet Tryz.prog Rows.officeClaimsRow.laid W:=by
 rwa[qBE _ _ _ x0] at h
set_option maxRecDepth 100000 in
theorem wx{W:By}(h:laidMetH Tryz.prog Rows.officeClaimsRow.laid W)(a:W.ShapedOpen Tryz.prog):HJ (FW W):=by
 obtain⟨ps,c,_,_⟩:=kQ h;refine⟨?_,?_⟩
 .obtain⟨g,t,cs,b,p,T,fr,d,e,f,i⟩:=ja 2 rfl c;obtain rfl:=Tc<|dV.symm.trans d;obtain rfl:=Tc<|bT.symm.trans e;have j:=Go.Lib.cells_of_tab Tryz.underlying282 Tryz.underlying257 xl wH (by rw[<-uL];exact i);exact⟨1,T,fr,dV,by rw[show(FW W).mem 1=W.heap[1]? from rfl,f,zM j];rfl⟩
 .obtain⟨m,k⟩:=qAy (P:=Tryz.prog) (g:=0) (t:=3) (zero:=#[.int .i64 0]) a (lv x0) jX rfl x0 x0 Tryz.underlying3;obtain⟨T,fr,l⟩:=Mc a (lv x0) jX rfl k;exact⟨m,T,fr,l⟩
end
section
open Go.Dec
open Go.ChangeShapes Go.WideShapes Go.ChangeAt Go.RowKit
def HR:Prop:=∀(a0:(Q0<|Q0 H1)) (a:Int) (b:(Q0 Int)),(∀y∈a0,y.length<=140737488351232)->(Lit.int .u8 a).wf=true->(∀y∈b,(Lit.int .u8 y).wf=true)->Yy a0 a b=some true
set_option maxRecDepth 100000 in
theorem AW(d:HR)(os:Os)(started:os.Started)(H:Type)(enc:S2×K2->H):ReturnsInHanded {} Tryz.checked os 3 .any (λw args=>(Rows.officeClaimsSpec.pre enc Tryz.prog Tryz.f3 Rows.officeClaimsRow.domain false w args/\laidMetH Tryz.prog Rows.officeClaimsRow.laid w)/\sizedMet enc Tryz.prog Tryz.f3 (OpenSpec.ofChange Rows.officeClaimsSpec) false w args) (Rows.officeClaimsSpec.post enc Tryz.prog Tryz.f3 false true false false):=by
 refine kP (C:=Tryz.checked) (X:=λw=>laidMetH Tryz.prog Rows.officeClaimsRow.laid w) (λ_ _ k h=>h.of_heap k) Tryz.own started x0 Tryz.func3
  (ChangeSpec.witness_shaped (enc:=enc) (C:=Tryz.checked) (os:=os) (X:=λw _=>laidMetH Tryz.prog Rows.officeClaimsRow.laid w) false (World.laidAll Tryz.prog os Rows.officeClaimsRow.laid) #[.slice none 0 0,.int .u8 0,.slice none 0 0] 12 (World.laidAll_os _ _ _) (World.shaped_of_ZipB x0 x0) x0 x0 x0
   (by rw[qBE _ _ _ x0];exact laidMet_laidAll _ x0 x0)) ?_
 intro W base args ds l before a m e n o;have p:HJ (FW W):=wx n e;refine LX (P:=Tryz.prog) Tryz.laidOut x0 rfl x0 (by kernel_rfl:Tryz.f3.resultTypes=#[4]) Tryz.underlying4 (λds h=> ?_) base args ds l before (λps a c b=> ?_) a m o
 .match ds,h with
  | [q,r,s],_=>rfl
 .rw[Tryz.params3] at c a b
  obtain⟨v0,S,q,_,_,_,t,rfl,_,u,c⟩:=trodAll_cons c;have v:=Bv b
  replace b:=Bu b
  obtain⟨v1,T,r,_,_,_,x,rfl,_,y,c⟩:=trodAll_cons c;have V:=Bv b
  replace b:=Bu b
  obtain⟨z,l2,s,_,_,_,A,rfl,_,B,c⟩:=trodAll_cons c;have Y:=Bv b
  replace b:=Bu b
  obtain⟨D,_,_⟩:=trodAll_nil c;subst D A x;obtain rfl:args=[v0,v1,z].toArray:=by rw[<-t]
  obtain⟨f,E,F,G,rfl,I⟩:=xn Tryz.underlying22 Tryz.underlying9 x0 (a 0 _ _ rfl rfl) u v;obtain⟨g,K,rfl⟩:=fY Tryz.underlying5 (a 1 _ _ rfl rfl) y;obtain⟨i,L,M,N,rfl,Q⟩:=zQ Tryz.underlying23 (G9.slice (sz:=1) Tryz.underlying23 x0 ig<|G9.int Tryz.underlying5) (a 2 _ _ rfl rfl) B;have R:=d f g i G K N;have j:=FY (FW W) p f E F I g i L M Q;rw[R] at j
  exact j
theorem Tv(a:HR):Rows.OfficeClaimsSaid:=
 OpenClaim.holds_of_wide 3 Tryz.f3 rfl rfl rfl rfl rfl rfl rfl ⟨rfl,rfl,rfl,rfl,rfl⟩ rfl rfl rfl rfl rfl x0 Tryz.func3 x0
  (lv x0) (by unfold Func.isWrapper;first | (rw[DO<|by decide+kernel];kernel_rfl) | (rw[Do<|by decide+kernel];exact⟨rfl,rfl⟩))
  (λos started H enc _=>AW a os started H enc)
theorem PH(b:HR):Rows.OfficeClaimsCardSaid:=
 Claim7.holds_tied_plain_at .later [] [.data,.data,.data] true (true, "e5f8d4bb1947f2f68355482ed978175ca9a8c431729344c68c8a4ab338145a2e") true (Tv b) (λ_ h=>by cases h) x0 (λ_ h=>by cases h) officeClaims_row_tie rfl ⟨rfl,rfl⟩ x0 rfl
  (λf fn e c=>by
   obtain rfl:f=3:=Tc ((show Tryz.prog.funcNamed "wormtub/wormtublaw15.OfficeClaims"=some 3 by kernel_rfl).symm.trans e) |>.symm;obtain rfl:fn=Tryz.f3:=(Tc<|Tryz.func3.symm.trans c).symm
   exact⟨by kernel_rfl,λj t g=>by
    have a:(Tryz.f3.params.toList.all λu=> !Tryz.prog.wantsStandIn u)=true:=by kernel_rfl
    have d:=Array.mem_of_getElem? g;exact(show Tryz.prog.wantsStandIn t=false by first | (simp at d;done) | simpa using List.all_eq_true.1 a t (by simpa using d))⟩)
  x0
end
theorem Py:HR:=λl kp by_ h a _=>zE l kp by_ h a
theorem officeClaims_holds:Rows.OfficeClaimsCardSaid:=PH Py
end Go.Proofs.YthfjpbooaofjcaaGreatDoor
end
