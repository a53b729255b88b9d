/- For OfficeClaims. -/
import Derived.Test.YthfjpbooaofjcaaGreatDoorPc8
noncomputable section
namespace Go.Dec
abbrev C2:=@List.getElem?_cons_zero
abbrev IR:=@List.pairwise_cons
abbrev y0:=@Int.le_refl
abbrev x2:=@List.getElem?_set_self
abbrev sL:=@List.getElem?_set_ne
abbrev sf:=@Bool.not_eq_true
abbrev s8:=@Sum.inl.injEq
abbrev aT:=@decide_eq_true
abbrev tO:=@Int.natCast_zero
abbrev nt:=@decide_eq_false
abbrev lL:=@decide_true
abbrev lP:=@decide_false
abbrev lU:=@Sum.inr.injEq
abbrev lb:=@List.set_cons_zero
abbrev lf:=@List.mem_of_find?_eq_some
abbrev lx:=@List.set_set
abbrev oC:=@Classical.byContradiction
abbrev oE:=@Int.mul_nonneg
abbrev oM:=@List.filter_filter
abbrev oR:=@Bool.and_eq_true_iff
abbrev ob:=@Bool.eq_iff_iff
abbrev od:=@List.length_singleton
abbrev oi:=@List.getElem?_mapIdx
abbrev oo:=@List.not_mem_nil
abbrev ot:=@List.takeWhile_cons
abbrev o1:=@List.foldl_cons
abbrev o6:=@Option.isNone_some
abbrev iF:=@Bool.false_and
abbrev qAE:=@List.mergeSort_perm
abbrev qAG:=@Int.sub_self
abbrev qAI:=@ge_iff_le
abbrev qAL:=@Int.mul_le_mul
abbrev qAd:=@List.length_filter_le
abbrev qAs:=@List.findIdx?_eq_some_iff_getElem
abbrev qAw:=@List.pairwise_map
abbrev qA0:=@Bool.or_self
abbrev qBD:=@List.perm_ext_iff_of_nodup
abbrev qBF:=@List.mem_or_eq_of_mem_set
abbrev qBH:=@List.findIdx?_eq_none_iff
abbrev qBJ:=@List.any_cons
abbrev qBK:=@Int.add_assoc
abbrev qBL:=@Bool.and_comm
abbrev qBM:=@and_assoc
abbrev qBN:=@List.pairwise_mergeSort
abbrev qBS:=@Nat.sub_self
abbrev qBT:=@Int.ne_of_lt
abbrev qBV:=@List.set_getElem_self
abbrev qBa:=@List.map_id
abbrev qBc:=@Int.mul_add
end Go.Dec
section
set_option maxRecDepth 100000
set_option maxHeartbeats 4000000
namespace Go.Proofs.YthfjpbooaofjcaaGreatDoor
open Go.Dec Go.Proofs.Tryz Go.Shelf Go.RowKit Go.Maps Go.Sort
variable{F:Fz}{U:Jw}
section
variable{g:Gp}{β:Type}{m:Q2 β}{r:β}{n:Nat}{D:Q0 AT}{S:Q0 (Nat×K2)}{hs:Q0 HP}{L:QA}
theorem _root_.Go.Dec.GG.mu{v:K2}(i:Nat)(hi:hs[i]? =some (fL F L v))(k:∀q:QL,WL 30 K9 F q.1 L.rules->v= .agg (TT L q).toArray->GG g (Hd n D S F<|gM F L q++hs.eraseIdx i) m r):GG g (Hd n D S F hs) m r:=GG.tG i hi λq h=>k q h.1 h.2
theorem _root_.Go.Dec.GG.nk(i:Nat)(hi:hs[i]? =some (J9 U F L))(k:∀q:QL,WL 30 K9 F q.1 L.rules->GG g (Hd n D S F<|[pc U.g61 (TT L q) 61,jN 8 (Ex QK) F 46 q.2.1 q.2.2.1 L.casks,jN 6 (Ex QP) F 112 q.2.2.2.1 q.2.2.2.2.1 L.duties,jN 4 (Ex QU) F 115 q.2.2.2.2.2.1 q.2.2.2.2.2.2.1 L.stamps,Qc AY xA F q.2.2.2.2.2.2.2.1 L.batches,Qc AY yK F q.2.2.2.2.2.2.2.2 L.pure]++hs.eraseIdx i) m r):GG g (Hd n D S F hs) m r:=GG.tG i hi λq h=>k q h
end
theorem yc{w:By}{F0:Fz}{a b:Nat}{c d:Q0 K2}{A:Q0 Q8}{R:HP}(le:F0<=F)(h:SH w F (Qk [pc a c 9,pc b d 41,WX U F0 A,R])):SH w F (star (Qk [WX U F A]) R):=
 have e:=SH.push (k:=2) rfl<|(h.pull (k:=2) rfl).ar (VY U) le
 e.mono λ_ f=>XR<|Y5<|YZ (ks:=[2,2]) f
def Xa(A:Q0 Q8)(i:Nat)(x:Q8)(word:Q0 H1)(n:Q0 Int)(d:Qa):Q2 (Q0 H1×Int×Q0 Q8):=
 (Uh d.form (n.length:Int)).bind λok=>Q5 (Zk ok 8) (λq=>some ([],q.e,A)) λ_=>
 (if(!x.ledgers.rules.isNone) then some true else some (word==([100,97,121]:Q0 H1))).bind λa=>(if a then some true else some (word==([114,117,108,101,115]:Q0 H1))).bind λb=>
 Q5 (Zk b 6) (λq=>some ([],q.e,A)) λ_=>(Yh x.ledgers).bind λL=>Q5 (d.do_ (L,(),n)) (λq=>some ([],q.e,A)) λs=>some (s.1,0,A.set i {x with ledgers:=s.2})
def Xb(A:Q0 Q8)(o:ON)(line:Q0 H1):Q2 (Q0 H1×Int×Q0 Q8):=
 (if o.isNone then some true else(o.bind λi=>(A[i]?).bind λx=>some<|!x.open_)).bind λz=>if z then some ([],13,A) else
 if decide ((line.length:Int) > 1000) then some ([],3,A) else
 o.bind λi=>(A[i]?).bind λx=>Q5 (V2 (Zu.mk line) ()) (λq=>some ([],q.e,A)) λw=>
 XZ.bind λD=>match QZ D w.1 with
  | none=>some ([],8,A)
  | some d=>Xa A i x w.1 w.2.1 d
theorem R5(F0:Fz)(hT:HJ F0)(U:Jw)(A:Q0 Q8)(o:ON)(p:Q2 C1)(_:Unit)(h:ZT U.g63 F0 p o)(line:Q0 H1):X6 Tryz.prog 9 [.pointer p,.string<|bs line].toArray F0 [WX U F0 A] (Xb A o line) (λr _ v=>v= .tuple #[.string<|bs r.1,vI r.2.1]) (λr F' =>[WX U F' r.2.2]):=by
 refine X6.nz func9 J ntmps9 J λr R=>(.o (Sub.refl _) (J:_=[WX U F0 A,R]) ?_);unfold Xb;refine .w 2<|.l (cs:=[.string<|bs []]) J Tryz.zeroValue9 J λB=>.l (cs:=[vI 0]) J bX J λC=>.w 7<|.sw h J cB J J<|.m J J<|.rP (b:=o.isNone) 6 20 J (λa bG=> ?_) λz F1 c=> ?_
 .refine .cc a J J<|.m J J<|.cc a J J<|.d λi e=> ?_;obtain⟨bo,E,F⟩:=h.at e;refine .cZ F J J (.cc a J J<|.f J gj J W4 J<|.cc a J J<|.d λx ex=>.cp (Φ:=λv=>v=(.bool x.open_)) 2 J Fz.r E ex J V4 J (λvs ⟨q0,q1,q2,q3,q4,q5,q6,q7,q8,q9,H,Q,h,r0,r1,r2,r3,r4,r5⟩=>⟨_,by subst h;exact J,J⟩) λv S=> ?_);subst S;exact .cc a J J<|.not J J<|.sD a J J J<|.sh 6 J J x0 Fz.r
 refine .w 3<|.i J (λhz=> ?_) λhz=> ?_
 .exact .w 2<|.store (cs' :=[.string<|bs []]) W9 J J J J (i:=1) J (K4 J) J J<|.store (cs' :=[vI 13]) ze J J J J (i:=0) J (K4 J) J J<|.w 2<|.sA 2 (VY U) c J<|.sR<|GI (U:=()) [2,2] results9 (.cell J V9 (i:=1) J J<|.cell J OG (i:=0) J J .nil) J c J
 refine .w 3<|.sZ J J U9 J<|.w 4<|.i J (λhl=> ?_) λhl=> ?_
 .exact .w 2<|.store (cs' :=[.string<|bs []]) W9 J J J J (i:=1) J (K4 J) J J<|.store (cs' :=[vI 3]) ze J J J J (i:=0) J (K4 J) J J<|.w 2<|.sA 2 (VY U) c J<|.sR<|GI (U:=()) [2,2] results9 (.cell J V9 (i:=1) J J<|.cell J OG (i:=0) J J .nil) J c J
 refine .skip<|.d λi e=> ?_;obtain⟨bo,E,F⟩:=h.at e;refine .d (λx ex=>.w 4<|.makeFunc J J<|.defer J<|.w 5<|.build (cs:=(XK<|Zu.mk line).toArray) J bQ Tryz.zeroValue74 (MF _ bQ) J J x0<|.box (cs:=XK<|Zu.mk line) J J J λb=>.ri (U:={U with g74:=b}) (L:=Zu.mk line) [0] J<|.cr [0] J call18 J J J J (Sn _ (hT.mono c) {U with g74:=b} (Zu.mk line) ()) ?_ λq F2 _ l2=>Fv (U:=()) call17 (Yu _ B [] C 0) [1,0] J results9 (λ_ _=>.cell J V9 (i:=0) J J<|.cell J OG (i:=1) J J .nil) (Fz.t c l2) (λI w le K=>yc (Fz.t c<|Fz.t l2 le) K) λ_=>J);rintro⟨word,n,rd⟩ F2 _ - l2 ⟨p7,k7,rfl,h7⟩;refine .pick [1,1,1,1] (J:_=[pc C [vI 0] 41,pc B [.string<|bs []] 9,WX U F0 A,R])<|.w 9<|.cx J call19 J J J (Mx _<|hT.mono<|Fz.t c l2) ?_;rintro D F3 _ - Y ⟨pm,km,rfl,hm⟩;have ah:=h7.mono Y;show GL _ _ _ _ _ _ _ (match QZ D word with | none=>some ([],8,A) | some d=>Xa A i x word n d) r;cases hg:QZ D word with
 | none=>
  exact .m J J (.pA hm J LF (.str U9) Na J J (λ_=>(.w 3<|.l (cs:=[.int .i64 0,.int .i64 0,.nilFunc]) J Na J λZ=>(.store (cs' :=[.int .i64 0,.int .i64 0,.nilFunc]) Tryz.sizeOf80 J J J J (i:=0) J (K4 J) J J<|.w 7<|.off J J J J<|.off J J J J<|.off J J J J<|.off J J J J<|.off J J J J<|.pd J J J<|.tf (he:=(J:Zk false 8=some (.pan<|Qt.mk 8))) [] J call20 J J J J (Ku _ false 8) λF4 T=>Fv (U:=()) call17 (Yu _ B [] C 0) [2,1] J results9 (λ_ _=>.cell J V9 (i:=0) J J<|.cell J OG (i:=1) J J .nil) (Fz.t c<|Fz.t l2<|Fz.t Y T) (λI w le K=>yc (Fz.t c<|Fz.t l2<|Fz.t Y<|Fz.t T le)<|SH.sd [0,0,1,1] J K) λ_=>J))) λx v hx=>by rw[hg] at hx;cases hx)
 | some d=>
  refine .m J J (.pA hm J LF (.str U9) Na J J (λh0=>by rw[hg] at h0;cases h0) λx0 v hx S=> ?_);rw[hg] at hx
  obtain rfl:=Tc hx;obtain⟨fd,kd,rfl,aj⟩:=S;show GL _ _ _ _ _ _ _ (Xa A i x word n d) r;unfold Xa;refine .w 3 (.l (cs:=[.int .i64 0,.int .i64 0,.nilFunc]) J Na J λZ=>(.store (cs' :=Zn d fd kd) Tryz.sizeOf80 J J J J (i:=0) J (K4 J) J (QX ij)<|.w 7<|.on J J<|.f J D7 J Tryz.sizeOf77 J<|.on J J<|.c9 J Tryz.isAgg77 Tryz.sizeOf77 J (i:=0) J (vs:=Z9 d.form) x0 J<|.on J J<|.m J J<|.on J J<|.sO J J YK J<|.on J J<|.cx J call21 J J J (TW _ d.form (n.length:Int))<|JI λok F4 _ T=>.nT J J J<|.cr [] J call20 J J J J (Ku _ ok 8) (JI λ_ F5 _ l5=>.pick [0,0,0,0,0] (J:_=[pc Z (Zn d fd kd) 80,pc C [vI 0] 41,pc B [.string<|bs []] 9,WX U F0 A,R])<|.w 3<|.keep (.p [0,4,5,6,7,8] J)<|.w 2<|.cZ F J J<|.f J gj J wO J<|.f J GR J dF J ?_) λq F5 _ l5=>Fv (U:=()) call17 (Yu _ B [] C 0) [2,1] J results9 (λ_ _=>.cell J V9 (i:=0) J J<|.cell J OG (i:=1) J J .nil) (Fz.t c<|Fz.t l2<|Fz.t Y<|Fz.t T l5) (λI w le K=>yc (Fz.t c<|Fz.t l2<|Fz.t Y<|Fz.t T<|Fz.t l5 le)<|SH.sd [0,0,1,1] J K) λ_=>J));have lA:F0<=F5:=Fz.t c<|Fz.t l2<|Fz.t Y<|Fz.t T l5;refine .cp (Φ:=λv=>∃p,v= .pointer p/\WL 30 K9 F5 p x.ledgers.rules) 3 J lA (E.mono lA) ex J bN J (λvs ⟨q0,q1,q2,q3,q4,q5,q6,q7,q8,q9,H,Q,h,r0,r1,r2,r3,r4,r5⟩=>⟨_,by subst h;exact J,q0,J,r0⟩) λv S=> ?_;obtain⟨pr,rfl,an⟩:=S;refine .rT an J cM J J<|.m J J<|.rP (b:=(!x.ledgers.rules.isNone)) 3 57 J (λV z=> ?_) λz1 F6 l6=> ?_
  .exact .cc V J J<|.m J J<|.cc V J J<|.si J U9 J J<|.sD V J J J<|.sh 3 J J x0 Fz.r
  refine .m J J<|.rP (b:=z1) 3 61 J (λV z=> ?_) λz2 F7 l7=> ?_
  .exact .cc V J J<|.m J J<|.cc V J J<|.si J U9 J J<|.sD V J J J<|.sh 3 J J x0 Fz.r
  have lB:F0<=F7:=Fz.t lA<|Fz.t l6 l7;refine .cr [] J call20 J J J J (Ku _ z2 6) ?_ λq P _ l8=>Fv (U:=()) call17 (Yu _ B [] C 0) [2,1] J results9 (λ_ _=>.cell J V9 (i:=0) J J<|.cell J OG (i:=1) J J .nil) (Fz.t lB l8) (λI w le K=>yc (Fz.t lB<|Fz.t l8 le)<|SH.sd [0,0,1,1] J K) λ_=>J;rintro _ P _ - l8 rfl;have lC:F0<=P:=Fz.t lB l8;refine .pick [0,0,0,0,0] (J:_=[pc Z (Zn d fd kd) 80,pc C [vI 0] 41,pc B [.string<|bs []] 9,WX U F0 A,R]) (.w 3<|.keep (.p [0,4,5,6,7,8] J)<|.w 2<|.cZ F J J<|.f J gj J wO J<|.aI (Φ:=λus=>∃p0 p1 k1 p2 k2 p3 k3 p4 p5,us=Ql x.ledgers p0 () p1 k1 p2 k2 p3 k3 p4 () p5 ()/\WL 30 K9 P p0 x.ledgers.rules/\QI 8 (Ex QK) P p1 k1 x.ledgers.casks/\QI 6 (Ex QP) P p2 k2 x.ledgers.duties/\QI 4 (Ex QU) P p3 k3 x.ledgers.stamps/\W6 AY xA P p4 x.ledgers.batches/\W6 AY yK P p5 x.ledgers.pure) 3 J lC (E.mono lC) ex J Tryz.isAgg61 wO J (λvs ⟨q0,q1,q2,q3,q4,q5,q6,q7,q8,q9,H,Q,h,r0,r1,r2,r3,r4,r5⟩=>⟨_,by subst h;rfl,J,q0,q2,q3,q4,q5,q6,q7,q8,H,J,r0,r1,r2,r3,r4,r5⟩) λus ar=> ?_);obtain⟨p0,p1,k1,p2,k2,p3,k3,p4,p5,rfl,g0,g1,g2,g3,g4,g5⟩:=ar;refine .nw<|.aU J call22 J J J (i:=0) J (Bf _ x.ledgers p0 p1 k1 p2 k2 p3 k3 p4 p5 g0 g1 g2 g3 g4 g5) λL F9 v _ l9 _=>.mu 0 J λq W S=> ?_;subst S;refine .l (cs:=zL) J bW J (λG=>.store (cs' :=TT L q) wO J J J J (i:=0) J (K4 J) J (QX ij)<|.sT (U:={U with g61:=G}) (L:=L) [0,0,0,0,0,0] W Fz.r Fz.r Fz.r Fz.r Fz.r J ?_);have lD:F0<=F9:=Fz.t lC l9;have lE:F3<=F9:=Fz.t T<|Fz.t l5<|Fz.t l6<|Fz.t l7<|Fz.t l8 l9;refine .pick [0,0,0,0,0,0] (J:_=[ZA {U with g61:=G} F9 L,pc Z (Zn d fd kd) 80,pc C [vI 0] 41,pc B [.string<|bs []] 9,WX U F0 A,R])<|.w 3<|.keep (.p [0,4,5,7,8,10] J)<|.g<|.f J D7 J Tryz.sizeOf78 J<|.ca J Tryz.isAgg78 J (i:=1) J J<|.m J J<|.rk [0] J ((aj.mono lE) {U with g61:=G}) J J ⟨p7,k7,J,ah.mono lE⟩ J J ?_ λq X _ M=>Fv (U:=()) call17 (Yu _ B [] C 0) [2,1] J results9 (λ_ _=>.cell J V9 (i:=0) J J<|.cell J OG (i:=1) J J .nil) (Fz.t lD M) (λI w le K=>yc (Fz.t lD<|Fz.t M le)<|SH.sd [0,0,1,1] J K) λ_=>J;rintro⟨N,L'⟩ X _ - M rfl;have lF:F0<=X:=Fz.t lD M;refine .pick [0,0,0,0,0,0] (J:_=[J9 {U with g61:=G} X L',pc Z (Zn d fd kd) 80,pc C [vI 0] 41,pc B [.string<|bs []] 9,WX U F0 A,R]) (.store (cs' :=[.string<|bs N]) W9 J J J J (i:=3) J (K4 J) J J<|.w 3<|.keep (.p [0,4,5,10] J)<|.w 2<|.nk 0 J λq W=>(.c9 J Tryz.isAgg61 wO J (i:=0) J (vs:=TT L' q) x0 J<|.tc 1 J Fz.r λbf j f1=>.tc 1 J j λbh k f2=>.tc 1 J (Fz.t j k) λbk s f3=>.aK 1 J (Fz.t j<|Fz.t k s) λbm u f4=>.aK 1 J (Fz.t j<|Fz.t k<|Fz.t s u) λaw y f5=> ?_));have lG:F0<=aw:=Fz.t lF<|Fz.t j<|Fz.t k<|Fz.t s<|Fz.t u y;have f0:=W.mono<|Fz.t j<|Fz.t k<|Fz.t s<|Fz.t u y;have ay:=f1.mono<|Fz.t k<|Fz.t s<|Fz.t u y;have az:=f2.mono<|Fz.t s<|Fz.t u y;have a1:=f3.mono<|Fz.t u y;have a6:=f4.mono y;exact .pick [0,0,0,0,0,0] (J:_=[pc G (TT L' q) 61,pc Z (Zn d fd kd) 80,pc C [vI 0] 41,pc B [.string<|bs N] 9,WX U F0 A,R])<|.cZ F J J<|.f J gj J wO J<|.sH (xs' :=A.set i {x with ledgers:=L'}) (x' :={x with ledgers:=L'}) (us:=TT L' q) 4 J lG Fz.r dS wO (E.mono lG) ex J J J J J J (λF' vs le ⟨q0,q1,q2,q3,q4,q5,q6,q7,q8,q9,H,Q,h,r0,r1,r2,r3,r4,r5⟩=>⟨q.1,(),q.2.1,q.2.2.1,q.2.2.2.1,q.2.2.2.2.1,q.2.2.2.2.2.1,q.2.2.2.2.2.2.1,some q.2.2.2.2.2.2.2.1,(),some q.2.2.2.2.2.2.2.2,(),by subst h;exact J,f0.mono le,ay.mono le,az.mono le,a1.mono le,a6.mono le,f5.mono le⟩) J<|.w 4<|.ca J V9 J (i:=3) J J<|.store (cs' :=[.string<|bs N]) W9 J J J J (i:=3) J (K4 J) J J<|.store (cs' :=[vI 0]) ze J J J J (i:=2) J (K4 J) J J<|.w 2<|.sR<|Pm (U:=()) [3,2] call17 (Yu _ B N C 0) J [4,4] results9 (.cell J V9 (i:=0) J J<|.cell J OG (i:=1) J J .nil) J lG J
end Go.Proofs.YthfjpbooaofjcaaGreatDoor
end
section
set_option maxRecDepth 100000
set_option maxHeartbeats 4000000
namespace Go.Proofs.YthfjpbooaofjcaaGreatDoor
open Go.Dec Go.Proofs.Tryz Go.Shelf Go.RowKit Go.Maps Go.Sort
variable{σ:Type}{y:Q0 H1->σ->Q2 (σ×Bool)}
abbrev IW:Q0 H1->Fz->Q0 K2->Prop:=fun(x:Q0 H1) _ vs=>vs=[.string<|bs x]
def JN(y:Q0 H1->σ->Q2 (σ×Bool))(s:Q0 H1×σ):Q2 (UN (Q0 H1×σ)<|σ ⊕ σ):=
 if decide ((s.1.length:Int) > 0) then(US s.1 10).bind λi=>
  if decide (i≥0) then(Zc s.1 0<|Qy<|i+1).bind λu=>(Zc s.1 (Qy<|i+1) s.1.length).bind λv=>(y u s.2).bind λp=>if(!p.2) then some (.done<|.inr p.1) else some (.next (v,p.1))
  else(y s.1 s.2).bind λp=>if(!p.2) then some (.done<|.inr p.1) else some (.next ([],p.1))
 else some (.done<|.inl s.2)
def HO(y:Q0 H1->σ->Q2 (σ×Bool))(s:Q0 H1)(a:σ):Q2 σ:=(ZV (JN y) (s,a)).bind λo=>match o with | .inl z=>some z | .inr z=>some z
theorem PI(F0:Fz)(σ:Type)(x:Nat)(Y:σ->Fz->HP)(y:Q0 H1->σ->Q2 (σ×Bool))(B:WK Tryz.prog x F0 IW Y y)(s:Q0 H1)(b:Nat)(C:σ):X6 Tryz.prog 81 [.func (.yield x) #[] #[],vP b 0].toArray F0 [pc b [.string<|bs s] 9,Y C F0] (HO y s C) (λ_ _ _=>True) (λF G=>[Y F G]):=by
 refine X6.enter func81 J ntmps81 J λr R=> ?_;unfold HO;refine .k (.loop (fun(s:Q0 H1×σ) a w=>∃f,F0<=f/\Hd 25 [] [(0,.func (.yield x) #[] #[]),(1,vP b 0)] f [pc b [.string<|bs s.1] 9,Y s.2 f,R] a w) (λo e a w=>match o with | .inl z=>e= .exit 0/\∃f c,F0<=f/\Hd 25 [] [] f [pc b c 9,Y z f,R] a w | .inr z=>e= .ret/\∃f c,F0<=f/\Hd 25 [] [] f [pc b c 9,Y z f,R] a w) ?_ ?_ ?_)
 .exact λa w h=>⟨F0,Fz.r,h.1.sub<|.k J,h.2⟩
 .rintro⟨s,st⟩ H;refine GG.ex λa w ⟨f,j,l⟩=>⟨_,l,?_⟩;unfold JN;refine .w 3<|.ca J V9 J (i:=0) J J<|.sZ J J U9 J<|.w 3<|.i J (λI=> ?_) λI=> ?_
  .refine .w 11<|.ca J V9 J (i:=0) J J<|.cx J call82 J J J (AZ _ s 10)<|JI λi N _ l2=>.w 9<|.i J (λhi=> ?_) λhi=> ?_
   .refine .d λu K=>.d λv L=>(.keep (.p [0,1,4] J)<|.cz 9 Qd x0<|.ca J V9 J (i:=0) J J<|.w 2<|.rf K J U9 J J<|.ca J V9 J (i:=0) J J<|.w 2<|.rF L J U9 J J<|.s J J<|.sI<|.store (cs' :=[.string<|bs v]) W9 J J J J (i:=0) J (K4 J) J J<|.w 6<|.pH J B J J J (i:=1) J j l2 λp m _ q=>.w 3<|.i J (λA=> ?_) λA=> ?_)
    .exact .sR<|Qu.ret λa w h=>⟨J,m,_,Fz.t j<|Fz.t l2 q,h.1.sub<|.k J,h.2⟩
    .exact .w 2<|.cg<|Qu.norm λa w h=>⟨m,Fz.t j<|Fz.t l2 q,h.1.sub<|.k J,h.2⟩
   .refine .keep (.p [0,1,4] J)<|.g<|.ca J V9 J (i:=0) J J<|.s J J<|.store (cs' :=[.string<|bs []]) W9 J J J J (i:=0) J (K4 J) J J<|.w 6<|.pH J B J J J (i:=1) J j l2 λp m _ q=>.w 3<|.i J (λA=> ?_) λA=> ?_
    .exact .sR<|Qu.ret λa w h=>⟨J,m,_,Fz.t j<|Fz.t l2 q,h.1.sub<|.k J,h.2⟩
    .exact .w 2<|.cg<|Qu.norm λa w h=>⟨m,Fz.t j<|Fz.t l2 q,h.1.sub<|.k J,h.2⟩
  .exact .cw J<|Qu.exit λa w h=>⟨J,f,_,j,h.1.sub<|.k J,h.2⟩
 .intro o M D e a w E;rcases o with z | z
  .obtain⟨rfl,f,c,j,l⟩:=E;refine Q9 J<|GG.app ?_ D a w l;exact .al [1,1] results81 .n J j trivial
  .obtain⟨rfl,f,c,j,l⟩:=E;exact K6<|(Fg [1,1] results81 .n J j trivial) D a w l
def B9:Nat->Q0 H1->Q0 (Q0 H1)
 | 0,_=>[]
 | k+1,s=>if s=[] then[] else if 0<=Go.Lib.indexByte s 10 then s.take ((Go.Lib.indexByte s 10).toNat+1)::B9 k (s.drop<|(Go.Lib.indexByte s 10).toNat+1) else[s]
theorem T7:∀(s:Q0 H1) (c:H1), -1<=Go.Lib.indexByte s c/\Go.Lib.indexByte s c < (s.length:Int)
 | [],c=>by simp[Go.Lib.indexByte]
 | b::l,c=>by
  have a:=T7 l c;simp only[Go.Lib.indexByte,L4];split
  .omega
  .split
   .omega
   .omega
theorem El{σ:Type}{y:Q0 H1->σ->Q2 (σ×Bool)}:∀(k:Nat) (s:Q0 H1) (st r:σ),s.length<=k->s.length<=1000000000000->WG y (B9 k s) st=some r->ZV (JN y) (s,st)=some (.inl r)∨ZV (JN y) (s,st)=some (.inr r)
 | 0,s,st,r,i,_,h=>by
  obtain rfl:s=[]:=Rw hQ;simp only[B9,WG,UV] at h
  subst h;left;rw[ZK];simp[JN]
 | k+1,s,st,r,i,m,h=>by
  by_cases d:s=[]
  .subst d;simp only[B9,B1,WG,UV] at h
   subst h;left;rw[ZK];simp[JN]
  .have b:0 < s.length:=by cases s with | nil=>exact absurd rfl d | cons=>simp
   obtain⟨n,o⟩:=T7 s 10;simp only[B9,Do d] at h
   have f:((10:Int).toNat.toUInt8)=10:=by decide
   rw[ZK];by_cases hi:0<=Go.Lib.indexByte s 10
   .rw[DO hi] at h
    simp only[WG] at h
    have g:Qy (Go.Lib.indexByte s 10+1)=Go.Lib.indexByte s 10+1:=Qs hQ hQ
    have j:Zc s 0 (Qy<|Go.Lib.indexByte s 10+1)=some (s.take<|(Go.Lib.indexByte s 10).toNat+1):=by
     rw[g];unfold Zc;rw[DO hQ];congr 1;simp only[qAi,qAK,qAX];congr 1;omega
    have l:Zc s (Qy<|Go.Lib.indexByte s 10+1) s.length=some (s.drop<|(Go.Lib.indexByte s 10).toNat+1):=by
     rw[g];unfold Zc;rw[DO hQ];congr 1;rw[IF (by simp;skip)];congr 1;omega
    have e:JN y (s,st)=(y (s.take<|(Go.Lib.indexByte s 10).toNat+1) st).bind λp=>if(!p.2) then some (.done<|.inr p.1) else some (.next (s.drop<|(Go.Lib.indexByte s 10).toNat+1,p.1)):=by
     unfold JN US;rw[DO (by simpa using b),f];show(if decide (Go.Lib.indexByte s 10≥0) then _ else _)=_;rw[DO (by simpa using hi),j,l];rfl
    rw[e];cases c:y (s.take<|(Go.Lib.indexByte s 10).toNat+1) st with
    | none=>rw[c] at h;cases h
    | some p=>
     rw[c] at h
     simp only[K1] at h ⊢
     by_cases a:p.2=true
     .rw[DO a] at h
      have:=El k (s.drop<|(Go.Lib.indexByte s 10).toNat+1) p.1 r ia ia h;simpa[a] using this
     .rw[Do a] at h
      simp only[UV] at h
      right;simp[a,h]
   .rw[Do hi] at h
    simp only[WG] at h
    have e:JN y (s,st)=(y s st).bind λp=>if(!p.2) then some (.done<|.inr p.1) else some (.next ([],p.1)):=by
     unfold JN US;rw[DO (by simpa using b),f];show(if decide (Go.Lib.indexByte s 10≥0) then _ else _)=_;rw[Do<|by simpa using hi]
    rw[e];cases c:y s st with
    | none=>rw[c] at h;cases h
    | some p=>
     rw[c] at h
     simp only[K1] at h ⊢
     by_cases a:p.2=true
     .rw[DO a] at h
      simp only[UV] at h
      left;simp only[a,RW,W1,Bm];rw[ZK];simp[JN,h]
     .rw[Do a] at h
      simp only[UV] at h
      right;simp[a,h]
def O5(s:Q0 H1):Q0 (Q0 H1):=B9 s.length s
theorem P1{s:Q0 H1}{st r:σ}(a:s.length<=1000000000000)(h:WG y (O5 s) st=some r):HO y s st=some r:=by
 unfold HO;rcases El s.length s st r (So _) a h with e | e
 .rw[e];rfl
 .rw[e];rfl
theorem kT(F:Fz)(s:Q0 H1)(b:Nat)(a:s.length<=1000000000000):gl Tryz.prog F 81 [vP b 0] IW [pc b [.string<|bs s] 9] (O5 s):=⟨call81,λσ c Y y d _ e f r g=>PI d σ c Y y e s b f r<|P1 a g⟩
theorem NJ(F0:Fz)(s:Q0 H1):CT Tryz.prog 58 [.string<|bs s].toArray F0 AX (some ()) (λ_ _ _=>True) (λ_ _ v=>wc (λb=>v= .func (.func 81) #[] #[vP b 0]) λb=>[pc b [.string<|bs s] 9]):=by
 exact CT.enter func58 J ntmps58 J λr R=>(.w 2<|.box (cs:=[.string<|bs s]) J J J λb=>.w 5<|.makeFunc J J<|.w 3<|.mE (Φ:=λb' =>(.func (.func 81) #[] #[vP b 0]:K2)= .func (.func 81) #[] #[vP b' 0]) (l:=λb=>[pc b [.string<|bs s] 9]) [0] b J J<|.rK results58 (.tmp J .nil) (i:=0) J (j:=1) J Fz.r trivial)
def H3(y:Q0 H1->σ->Q2 (σ×Bool))(line:Q0 H1)(s:σ):Q2 (UN σ σ):=(V0 line [10]).bind λu=>(y u s).bind λp=>if(!p.2) then some (.done p.1) else some (.next p.1)
def SU(y:Q0 H1->σ->Q2 (σ×Bool))(script:Q0 H1)(a:σ):Q2 σ:=(TF (H3 y) (O5 script) a).bind λc=>match c with | .next s=>some s | .done s=>some s
theorem RD(F0:Fz)(σ:Type)(a:Nat)(Y:σ->Fz->HP)(y:Q0 H1->σ->Q2 (σ×Bool))(j:WK Tryz.prog a F0 IW Y y)(script:Q0 H1)(K:script.length<=1000000000000)(b:Nat)(M:F0.mem b=some (.cells #[.string<|bs script] 9))(z:σ):X6 Tryz.prog 57 [.func (.yield a) #[] #[],vP b 0].toArray F0 [Y z F0] (SU y script z) (λ_ _ _=>True) (λN P=>[Y N P]):=by
 refine X6.af func57 J ntmps57 J λr R=> ?_;unfold SU;refine .w 2<|.box (cs:=[.func (.yield a) #[] #[]]) J J J λf=>.w 4<|.U J V9 J M J<|.nw<|.pW J call58 J J J (i:=0) J (NJ _ script) λQ v e=>.tG 0 J λA C=> ?_;subst C;refine .w 3<|.keep (.p [1,2,5] J)<|.pick [0,0,0,0] (J:_=[pc A [.string<|bs script] 9,pc f [.func (.yield a) #[] #[]] 123,Y z F0,R])<|.ml 2 j J Fz.r e<|.py [pc A [.string<|bs script] 9] [0] (λs F hs=>hs=[pc f [.func (.yield a) #[] #[]] 123,Y s F,R]) (λs F hs=>hs=[pc f [.func (.yield a) #[] #[]] 123,Y s F,R]) J (kT Q script A K) J (λ_ _ _ h=>by rw[h];rfl) J J ?_ ?_ ?_
 .rintro l L m G x vs s S H g l2 c rfl rfl;unfold H3;refine .d λu T=>.w 3<|GG.begin 0 J<|.w 2<|.keep (.p [2,3] J)<|.dG 3 0 (λ_=>[vT<|.func (.yield a) #[] #[],vT<|.string<|bs x,vT<|.string<|bs u]) (λ_ _=>[pt l<|UJ L,H,pc f [.func (.yield a) #[] #[]] 123,Y s m,R]) Qd x0 (λ_=>J) (λ_=>J) ?_ λenv F4 D I=> ?_
  .refine .B (.ca J Tryz.isAgg123 J (i:=2) J J<|.fv J)<|.V 1 (λ_ _=>⟨J,J⟩)<|.b (λ_ _ W E=>.sk T J call59 J J J (Sj _ x [10]) λF6 v X C=>by subst C;exact .sU J J X) .nil
  refine .o (.p [7,9] J) (J:_=[pt l<|UJ L,H,pc f [.func (.yield a) #[] #[]] 123,Y s m,R])<|.pH J j J J J (i:=3) J (Fz.t e l2) (Fz.t c D) λp W _ E=>.w 3<|.i J (λZ=> ?_) λZ=> ?_
  .exact .sR<|RP.ret (Fz.t D E) J J
  .exact .w 2<|.cg<|RP.norm (Fz.t D E) J J
 .rintro q m G s g l2 c he rfl;exact .k<|.ml 2 j J (Fz.t e l2) c<|.nX [2,2] [(0,q)] results57 ⟨J,trivial⟩ .n J (Fz.t e<|Fz.t l2 c) trivial
 .rintro q m G s g l2 c he rfl;exact .ml 2 j J (Fz.t e l2) c<|.mQ [2,2] [(0,q)] results57 ⟨J,trivial⟩ .n J (Fz.t e<|Fz.t l2 c) trivial
end Go.Proofs.YthfjpbooaofjcaaGreatDoor
end
section
set_option maxRecDepth 100000
set_option maxHeartbeats 4000000
namespace Go.Proofs.YthfjpbooaofjcaaGreatDoor
open Go.Dec Go.Proofs.Tryz Go.Shelf Go.RowKit Go.Maps Go.Sort
def R0(x:Q0 H1):Bool:=x.getLast? ==some 10
def Iv(x:Q0 H1):Q0 H1:=if R0 x then x.dropLast else x
theorem T8(x:Q0 H1)(h:x.length<=1000000000000):J8 x [10]=some (R0 x):=by
 unfold J8 Zs R0;cases a:x.reverse with
 | nil=>
  obtain rfl:x=[]:=by simpa using a
  rfl
 | cons c l=>
  obtain rfl:x=l.reverse++[c]:=by have:=congrArg List.reverse a;simpa using this
  have b:(l.reverse++[c]).length=l.length+1:=by simp
  rw[b] at h ⊢
  have d:Qy (((l.length+1:Nat):Int) - (([10]:Q0 H1).length:Int))=(l.length:Int):=by
   show Qy (((l.length+1:Nat):Int) - (1:Int))=_;rw[Qs hQ hQ];omega
  have hs:Zc (l.reverse++[c]) (l.length:Int) ((l.length+1:Nat):Int)=some [c]:=by
   unfold Zc;rw[DO ia];congr 1;simp only[lV];rw[oV ic,qAZ ic];simp
  rw[DO ia,d,hs];show some ([c]==([10]:Q0 H1))=some ((l.reverse++[c]).getLast? ==some 10);rw[List.getLast?_concat];have:([c]==([10]:Q0 H1))=(some c==some 10):=by by_cases h:c=10<;>simp[h]
  rw[this]
theorem LI(x:Q0 H1)(h:x.length<=1000000000000):V0 x [10]=some (Iv x):=by
 have a:=T8 x h;unfold J8 at a
 unfold V0 JP Iv
 have c:Zs x [10]=some (R0 x):=by
  cases e:Zs x [10] with
  | none=>rw[e] at a;cases a
  | some b=>rw[e] at a;exact a
 rw[c];simp only[K1];cases he:R0 x with
 | false=>rfl
 | true=>
  have d:0 < x.length:=by
   cases x with
   | nil=>simp[R0] at he
   | cons=>simp
  have f:Qy ((x.length:Int) - (([10]:Q0 H1).length:Int))=((x.length - 1:Nat):Int):=by
   show Qy ((x.length:Int) - (1:Int))=_;rw[Qs hQ hQ];omega
  rw[f]
  have hs:Zc x 0 ((x.length - 1:Nat):Int)=some x.dropLast:=by
   unfold Zc;rw[DO hQ];congr 1;simp only[qAi,qAK,qAX,lV];rw[List.dropLast_eq_take]
  rw[hs];rfl
def MW(s:Q0 H1):Q0 (Q0 H1):=(O5 s).map Iv
theorem MX:∀(k:Nat) (s:Q0 H1),∀x∈B9 k s,x.length<=s.length
 | 0,_,_,h=>by simp[B9] at h
 | k+1,s,x,h=>by
  unfold B9 at h
  split at h
  .simp at h
  .split at h
   .simp only[A4] at h
    rcases h with rfl | h
    .simp;omega
    .have:=MX k _ x h;simp at this;omega
   .simp only[ts] at h
    subst h;exact So _
theorem Rx{σ:Type}{y:Q0 H1->σ->Q2 (σ×Bool)}:∀(l:Q0 (Q0 H1)) (s r:σ),(∀x∈l,x.length<=1000000000000)->WG y (l.map Iv) s=some r->(TF (H3 y) l s).bind (λc=>match c with | .next s=>some s | .done s=>some s)=some r
 | [],s,r,_,h=>h
 | x::l,s,r,b,h=>by
  simp only[Of,WG] at h
  simp only[TF,H3,LI x<|b x<|r9 ..,K1];cases d:y (Iv x) s with
  | none=>rw[d] at h;cases h
  | some p=>
   rw[d] at h
   simp only[K1] at h ⊢
   by_cases a:p.2=true
   .rw[DO a] at h
    have:=Rx l p.1 r (λz e=>b z<|L3 _ e) h;simpa[a] using this
   .rw[Do a] at h
    simpa[a] using h
theorem X6.mn{β:Type}{P:B2}{f:Nm}{args:C3 K2}{F:Fz}{H:HP}{m:Q2 β}{ρ:β->Fz->K2->Prop}{H' :β->Fz->HP}(h:X6 P f args F [H] m ρ (λr F=>[H' r F])):CT P f args F H m ρ (λr F _=>H' r F):=λr a w R b=>
 (h r a w R<|b.mono λm a=>QR (λ_ h=>Jx h) a).mono (by rintro e w' ⟨c,v,le,he,hρ,hs⟩;exact⟨c,v,le,he,hρ,hs.mono λ_ a=>Wt a⟩)
theorem kS(F:Fz)(script:Q0 H1)(b:Nat)(a:script.length<=1000000000000)(c:F.mem b=some (.cells #[.string<|bs script] 9)):Nb Tryz.prog F 57 [vP b 0] IW (MW script):=⟨call57,λσ d Y y e le f s r g=>X6.mn (RD e σ d Y y f script a b (le.mem _ _ c) s) r<|Rx _ s r (λx h=>oD (MX _ _ x h) a) g⟩
theorem Mw(F0:Fz)(script:Q0 H1):KO Tryz.prog 25 [.string<|bs script].toArray F0 (some ()) (λ_ F v=>∃b,v= .func (.func 57) #[] [vP b 0].toArray/\F.mem b=some (.cells #[.string<|bs script] 9)):=by
 exact KO.enter func25 J ntmps25 J λr R=>(.w 2<|.sG (cs:=[.string<|bs script]) J J J λb d a c=>.w 5<|.makeFunc J J<|.w 3<|.cq results25 (.tmp J .nil) (i:=0) J a ⟨b,J,c⟩)
abbrev zi:Q0 H1:=[101,114,114,111,114]
def XG(A:Q0 Q8)(s u:Q0 H1):Q2 (Q0 Q8×Q0 H1):=(Sf s u).bind λv=>(Sf v [10]).bind λw=>some (A,w)
def GX(o:ON)(line:Q0 H1)(s:Q0 Q8×Q0 H1):Q2 (Q0 Q8×Q0 H1):=(Xb s.1 o line).bind λt=>if(t.2.1 != 0) then(Jo zi [t.2.1]).bind λu=>XG t.2.2 s.2 u else XG t.2.2 s.2 t.1
def HA(script:Q0 H1):Q2 (Q0 H1×Int):=
 if decide ((script.length:Int) > 262144) then some ([],3) else
 (if(!(script==([]:Q0 H1))) then(J8 script [10]).bind λh=>some (!h) else some false).bind λz=>if z then some ([],8) else
 (Hv []).bind λo=>(VH (GX o.1) (MW script) (o.2,[])).bind λs=>some (s.2,0)
theorem Li(F0:Fz)(hT:HJ F0)(script:Q0 H1):KO Tryz.prog 13 [.string<|bs script].toArray F0 (HA script) (λr _ v=>v= .tuple #[.string<|bs r.1,vI r.2]):=by
 refine KO.af func13 J ntmps13 J λr R=> ?_;unfold HA;refine .w 11<|.sZ J J U9 J<|.w 4<|.i J (λD=> ?_) λD=> ?_
 .exact .w 6<|.tp [] results13 trivial (.tmp J<|.tmp J .nil) (i:=0) J Fz.r J
 have j:script.length<=1000000000000:=by simp at D;omega
 refine .w 3<|.rD J U9 J J<|.m J J<|.tA (b:=(!(script==([]:Q0 H1)))) 4 20 J (λhs z=> ?_) λz F1 G=> ?_
 .exact .cc hs J J<|.m J J<|.cc hs J J<|.cx J call24 J J J (Aa _ script [10])<|JI λhh T _ l2=>.cc hs J J<|.not J J<|.cn hs J J J<|.sh 4 J J x0 l2
 refine .w 3<|.i J (λhz=> ?_) λhz=> ?_
 .exact .w 6<|.tp [] results13 trivial (.tmp J<|.tmp J .nil) (i:=0) J G J
 refine .w 4<|.aF λg T l2=>.tv (bF<|Jw.mk 0 0 0 g 0 0 0 0 0 0) 0 J<|.pick [0,0] (J:_=[ZE (Jw.mk 0 0 0 g 0 0 0 0 0 0).g63 (bF<|Jw.mk 0 0 0 g 0 0 0 0 0 0) T [],R]) ?_;generalize Jw.mk 0 0 0 g 0 0 0 0 0 0=U;refine(.g<|.sM [0] J call6 J J J J (PJ _ U []) ?_);rintro⟨o,A⟩ F3 _ - V ⟨p,_,rfl,hp⟩;refine .l (cs:=[.pointer none]) J Tryz.zeroValue26 J λH=>.store (cs' :=[.pointer p]) Tryz.sizeOf26 J J J J (i:=0) J (K4 J) J J<|.w 4<|.l (cs:=[.pointer none,.slice none 0 0]) J Tryz.zeroValue95 J λd=>.rl 0 5 J<|.w 6<|.cy J call25 J J J (Mw _ script) ?_;rintro W _ E ⟨bS,rfl,I⟩;refine .w 3<|.keep (.p [4,5,23] J)<|.sA 2 (VY U) E J<|.pick [0,0,0,0] (J:_=[Ch 95 5 d [],pc H [.pointer p] 26,WX U W A,R]) ?_;have k:=hT.mono<|Fz.t G<|Fz.t l2<|Fz.t V E;refine .aj (τ:=Q0 Q8×Q0 H1) (λs F hs=>hs=[Ch 95 5 d s.2,pc H [.pointer p] 26,WX U F s.1,R]) J (kS W script bS j I) J (λ_ _ _ h=>by rw[h];rfl) J ?_ ?_
 .rintro l L F5 F6 x vs ⟨X,s⟩ aG R' K y f rfl rfl;unfold GX;refine .w 2<|.n<|GG.begin 0 J<|.w 2<|.keep (.p [4,5,6] J)<|.sA 4 (VY U) f J<|.g<|.ca J Tryz.isAgg26 J (i:=3) J J<|.m J J<|.sM [4] J call9 J J J J (R5 _ (k.mono<|Fz.t y f) U X o p () (hp.mono<|Fz.t E<|Fz.t y f) x) ?_;rintro⟨M,e,A2⟩ Y _ - B rfl;refine .pick [1,1,1,1,0,0] (J:_=[pt l<|UJ L,R',Ch 95 5 d s,pc H [.pointer p] 26,WX U Y A2,R])<|.w 14<|.i J (λD=> ?_) λD=> ?_
  .refine .w 2 (.sC (cs:=[vI e]) (zc:=[vI 0]) J YK W3 Y3 J J J x0 x0 λb8 F8 N P=> ?_);have C:QI 1 (Ex<|Zy .i64) F8 (some ⟨b8,0,none⟩) 1 [e]:=QI.ofRow P (.cons H7.mono J .nil) J J;refine .cx J call26 J J J (Wn _ (k.mono<|Fz.t y<|Fz.t f<|Fz.t B N) zi [e] _ _ C) ?_;rintro u F9 _ - Z rfl;unfold XG;exact .w 6<|.aU J call27 J J J (i:=2) J (GW _ d s u) λv Q _ _ a _=>.w 3<|.aU J call28 J J J (i:=2) J (Sy _ d v 10) λw S _ _ c _=>.w 2<|.sA 4 (VY U) (Fz.t N<|Fz.t Z<|Fz.t a c) J<|.cg<|RP.tu (Fz.t B<|Fz.t N<|Fz.t Z<|Fz.t a c) J J
  .unfold XG;exact .w 5<|.aU J call27 J J J (i:=2) J (GW _ d s M) λv Q _ _ a _=>.w 3<|.aU J call28 J J J (i:=2) J (Sy _ d v 10) λw S _ _ c _=>.w 2<|.sA 4 (VY U) (Fz.t a c) J<|.cg<|RP.tu (Fz.t B<|Fz.t a c) J J
 .rintro q F5 F6 ⟨X,s⟩ K y f he rfl;refine .w 4<|.aU (e:=some s) (g:=λs=>some (s,0)) J call29 J J J (i:=1) J (zJ _ d s) ?_;rintro s' Y _ e7 B rfl;exact .w 4<|.tp [(0,q)] results13 ⟨J,trivial⟩ (.tmp J<|.tmp J .nil) (i:=4) J (Fz.t G<|Fz.t l2<|Fz.t V<|Fz.t E<|Fz.t y<|Fz.t f B) J
end Go.Proofs.YthfjpbooaofjcaaGreatDoor
end
section
set_option maxRecDepth 100000
set_option maxHeartbeats 4000000
namespace Go.Proofs.YthfjpbooaofjcaaGreatDoor
open Go.Dec Go.Proofs.Tryz Go.Shelf Go.RowKit Go.Maps Go.Sort
def Wi:Q2 Bool:=(HA JZ.1).bind λr=>(if(r.1==JZ.2) then some (r.2==0) else some false).bind λz=>some z
theorem Sq(F0:Fz)(c:HJ F0):KO Tryz.prog 5 [].toArray F0 Wi (λr _ v=>v= .bool r):=by
 refine KO.enter func5 J ntmps5 J λr R=> ?_;unfold Wi;refine .w 7<|.cy J call12 J J J (Cv _)<|We λf a=>.w 10<|.cx J call13 J J J (Li _ (c.mono a) JZ.1) ?_;rintro⟨s,e⟩ g _ - l2 rfl;refine .w 11<|.si J U9 J J<|.m J J<|.tA (b:=(s==JZ.2)) 3 20 J (λhs z=> ?_) λz h d=> ?_
 .exact .cc hs J J<|.m J J<|.cc hs J J<|.eql J J J<|.cn hs J J J<|.sh 3 J J x0 Fz.r
 exact .w 3<|.cq results5 (.tmp J .nil) (i:=0) J (Fz.t a<|Fz.t l2 d) J
end Go.Proofs.YthfjpbooaofjcaaGreatDoor
end
namespace Go.Proofs.YthfjpbooaofjcaaGreatDoor.Ca
section
open Go.Dec
variable{f:Nat->Int}{a n b:Int}{j:Nat}
structure ZY where
 C:Za
 Fills:List Int
variable{h:ZY}
abbrev Ev:=QE
abbrev zN:Nat->Int:=λ_=>0
def XB(n a b:Int):Bool:=decide (n≥a)&&decide (n<=b)
def XN(x:Ev):Bool:=
 XB x.Day 0 65536&&XB x.Cask 0 1073741824&&
 (if x.Kind==0 then XB x.Other 0 7&&XB x.Where 0 7&&XB x.Amount 1 1099511627776&&XB x.Person 0 1073741824
  else if x.Kind==1||x.Kind==3 then XB x.Amount 1 1099511627776
  else if x.Kind==2 then XB x.Other 0 1073741824&&XB x.Amount 1 1099511627776
  else if x.Kind==4 then XB x.Where 0 7
  else if x.Kind==5||x.Kind==6 then XB x.Person 0 1073741824&&XB x.To 0 1073741824
  else if x.Kind==7 then XB x.Person 0 1073741824
  else if x.Kind==8 then XB x.Where 0 7 else false)
def Kj(n:Int)(h:ZY):ZY:=if 0 < h.C.Amount then{h with C:={h.C with Age:=h.C.Age+n,Woods:=ZF h.C.Woods h.C.Wood.toNat<|h.C.Woods h.C.Wood.toNat+n,Places:=ZF h.C.Places h.C.Place.toNat (h.C.Places h.C.Place.toNat+n)}} else h
def Z1:Q0 ZY->Int->Q2 Nat
 | [],_=>none
 | h::l,n=>if h.C.Number==n then some 0 else(Z1 l n).map (·+1)
def CD(x:Int):Q0 Int->Q0 Int
 | []=>[x]
 | y::l=>if x < y then x::y::l else if x==y then y::l else y::CD x l
def It(a b:Q0 Int):Q0 Int:=a.foldr CD b
def Gz(f g:Nat->Int):Nat->Int:=λk=>if k < 8 then JS (f k) (g k) else f k
def JJ(h s:ZY)(n:Int):ZY:=
 if h.C.Amount==0 then{C:={h.C with Age:=s.C.Age,Woods:=s.C.Woods,Places:=s.C.Places,Amount:=h.C.Amount+n},Fills:=s.Fills}
 else{C:={h.C with Age:=JS h.C.Age s.C.Age,Woods:=Gz h.C.Woods s.C.Woods,Places:=Gz h.C.Places s.C.Places,Amount:=h.C.Amount+n},Fills:=It h.Fills s.Fills}
def VF(h:ZY)(n:Int):ZY:=if h.C.Amount - n==0 then{C:={h.C with Age:=0,Woods:=zN,Places:=zN,Amount:=0},Fills:=[]} else{h with C:={h.C with Amount:=h.C.Amount - n}}
def kO(x:Ev):ZY:=⟨⟨x.Cask,x.Other,x.Where,x.Amount,x.Person, -1,0,0,zN,zN⟩,[]⟩
def Gd(n:Int):ZY:=⟨⟨0,0,0,0,0,0,0,0,zN,zN⟩,[n]⟩
def Ax(l:Q0 ZY)(i:Nat)(c:ZY)(x:Ev)(num:Int):Q0 ZY ⊕ Int:=if c.C.Amount+x.Amount > c.C.Room then .inr 9 else .inl (l.set i<|JJ c (Gd num) x.Amount)
def Pn(l:Q0 ZY)(i k:Nat)(c o:ZY)(x:Ev):Q0 ZY ⊕ Int:=
 if i==k then .inr 5
 else if c.C.Owner != o.C.Owner||decide (c.C.Creditor≥0)||decide (o.C.Creditor≥0) then .inr 11
 else if c.C.Amount < x.Amount then .inr 10
 else if o.C.Amount+x.Amount > o.C.Room then .inr 9
 else .inl ((l.set k<|JJ o c x.Amount).set i<|VF c x.Amount)
def Al(l:Q0 ZY)(i:Nat)(c:ZY)(x:Ev):Q0 ZY ⊕ Int:=
 match Z1 l x.Other with
 | none=>.inr 4
 | some k=>match l[k]? with
  | none=>.inr 4
  | some o=>Pn l i k c o x
def CI(l:Q0 ZY)(i:Nat)(c:ZY)(x:Ev):Q0 ZY ⊕ Int:=if c.C.Creditor≥0 then .inr 11 else if c.C.Amount < x.Amount then .inr 10 else .inl (l.set i<|VF c x.Amount)
def IP(l:Q0 ZY)(i:Nat)(c:ZY)(x:Ev):Q0 ZY ⊕ Int:=.inl<|l.set i {c with C:={c.C with Place:=x.Where}}
def Rk(l:Q0 ZY)(i:Nat)(c:ZY)(x:Ev):Q0 ZY ⊕ Int:=if c.C.Owner != x.Person||decide (c.C.Creditor≥0) then .inr 11 else if x.To==c.C.Owner then .inr 5 else .inl (l.set i {c with C:={c.C with Owner:=x.To}})
def Dd(l:Q0 ZY)(i:Nat)(c:ZY)(x:Ev):Q0 ZY ⊕ Int:=if c.C.Owner != x.Person then .inr 11 else if c.C.Creditor≥0 then .inr 5 else .inl (l.set i {c with C:={c.C with Creditor:=x.To}})
def Rv(l:Q0 ZY)(i:Nat)(c:ZY)(x:Ev):Q0 ZY ⊕ Int:=if c.C.Creditor != x.Person then .inr 11 else .inl (l.set i {c with C:={c.C with Creditor:= -1}})
def R4(l:Q0 ZY)(i:Nat)(c:ZY)(x:Ev):Q0 ZY ⊕ Int:=if c.C.Amount > 0 then .inr 6 else .inl (l.set i {c with C:={c.C with Wood:=x.Where}})
def XO(l:Q0 ZY)(i:Nat)(c:ZY)(x:Ev)(num:Int):Q0 ZY ⊕ Int:=
 if x.Kind==1 then Ax l i c x num
 else if x.Kind==2 then Al l i c x
 else if x.Kind==3 then CI l i c x
 else if x.Kind==4 then IP l i c x
 else if x.Kind==5 then Rk l i c x
 else if x.Kind==6 then Dd l i c x
 else if x.Kind==7 then Rv l i c x
 else if x.Kind==8 then R4 l i c x
 else .inl l
def Ei(l:Q0 ZY)(x:Ev):Q0 ZY ⊕ Int:=if(Z1 l x.Cask).isSome then .inr 5 else if 256<=l.length then .inr 9 else .inl (l++[kO x])
def DT(l:Q0 ZY)(x:Ev)(num:Int):Q0 ZY ⊕ Int:=
 if x.Kind==0 then Ei l x
 else match Z1 l x.Cask with
  | none=>.inr 4
  | some i=>match l[i]? with
   | none=>.inr 4
   | some c=>XO l i c x num
structure FA where
 all:List ZY
 last:Int
def YL(n:Nat)(s:FA)(x:Ev):FA ⊕ Int:=
 if !XN x then .inr 1 else if x.Day < s.last then .inr 7
 else match DT (s.all.map<|Kj<|x.Day - s.last) x n with
  | .inl all=>.inl ⟨all,x.Day⟩
  | .inr e=>.inr e
def Hj(day:Int):Q0 Ev->Nat->FA->(FA ⊕ Int)×Nat
 | [],n,s=>(.inl s,n)
 | x::l,n,s=>if x.Day<=day then match YL n s x with
   | .inl c=>Hj day l (n+1) c
   | .inr e=>(.inr e,n)
  else(.inl s,n)
def Ln(day:Int)(s:FA):Q0 ZY:=s.all.map<|Kj<|day - s.last
def AV(day:Int)(l:Q0 Ev)(n:Nat)(s:FA):(Q0 ZY ⊕ Int)×Nat:=match Hj day l n s with
 | (.inl c,k)=>(.inl<|Ln day c,k)
 | (.inr e,k)=>(.inr e,k)
def JV(l:Q0 Ev)(day:Int):(Q0 ZY ⊕ Int)×Nat:=if l.length > 4096 then(.inr 3,0) else if !XB day 0 65536 then(.inr 2,0) else AV day l 0 ⟨[],0⟩
def vy(f:Nat->Int):Int:=f 0+f 1+f 2+f 3+f 4+f 5+f 6+f 7
structure Lw(age:Int)(f:Nat->Int):Prop where
 pos:∀k,0<=f k
 out:∀k,8<=k->f k=0
 sum:vy f<=age
theorem Lw.le(h:Lw a f)(k:Nat):0<=f k/\f k<=a:=by
 refine⟨h.pos k,?_⟩;have c:=h.pos 0;have d:=h.pos 1;have e:=h.pos 2;have g:=h.pos 3;have i:=h.pos 4;have l:=h.pos 5;have m:=h.pos 6;have o:=h.pos 7;have hs:=h.sum;unfold vy at hs
 match k with
 | 0=>omega
 | 1=>omega
 | 2=>omega
 | 3=>omega
 | 4=>omega
 | 5=>omega
 | 6=>omega
 | 7=>omega
 | k+8=>have:=h.out (k+8) hQ;omega
theorem Lw.zero(h:0<=a):Lw a zN:=⟨λ_=>y0 0,λ_ _=>rfl,by simpa[vy] using h⟩
theorem UF{v:Int}:ZF f j v j=v:=by simp[ZF]
theorem Wa{k:Nat}{v:Int}(h:k≠j):ZF f j v k=f k:=by
 unfold ZF
 have:Nat.beq k j=false:=by
  cases c:Nat.beq k j with
  | false=>rfl
  | true=>exact absurd (yb c) h
 rw[this]
theorem Lw.mz(h:Lw a f)(c:j < 8)(g:0<=n):Lw (a+n) (ZF f j<|f j+n):=by
 refine⟨λk=> ?_,λk d=> ?_,?_⟩
 .by_cases e:k=j
  .subst e;rw[UF];have:=h.pos k;omega
  .rw[Wa e];exact h.pos k
 .rw[Wa hQ];exact h.out k d
 .have hs:=h.sum;unfold vy at hs ⊢
  match j,c with
  | 0,_=>simp[ZF];omega
  | 1,_=>simp[ZF];omega
  | 2,_=>simp[ZF];omega
  | 3,_=>simp[ZF];omega
  | 4,_=>simp[ZF];omega
  | 5,_=>simp[ZF];omega
  | 6,_=>simp[ZF];omega
  | 7,_=>simp[ZF];omega
theorem Xu:JS a b<=a/\JS a b<=b/\(JS a b=a∨JS a b=b):=by unfold JS;split<;>omega
theorem Lw.min{g:Nat->Int}(h:Lw a f)(h' :Lw b g):Lw (JS a b) (Gz f g):=by
 refine⟨λk=> ?_,λk c=> ?_,?_⟩
 .unfold Gz;have:=h.pos k;have:=h'.pos k;split
  .have:=Xu (a:=f k) (b:=g k);omega
  .exact h.pos k
 .unfold Gz;rw[Do hQ];exact h.out k c
 .have hs:=h.sum;have d:=h'.sum;unfold vy at hs d ⊢
  have e:∀k,k < 8->Gz f g k<=f k/\Gz f g k<=g k:=λk c=>by
   unfold Gz;rw[DO c];have:=Xu (a:=f k) (b:=g k);omega
  have i:=e 0 ig;have l:=e 1 ig;have m:=e 2 ig;have o:=e 3 ig;have p:=e 4 ig;have q:=e 5 ig;have r:=e 6 ig;have s:=e 7 ig;have:=Xu (a:=a) (b:=b);omega
structure Nc(last:Int)(n:Nat)(h:ZY):Prop where
 num:0<=h.C.Number/\h.C.Number<=1073741824
 wood:0<=h.C.Wood/\h.C.Wood<=7
 place:0<=h.C.Place/\h.C.Place<=7
 room:1<=h.C.Room/\h.C.Room<=1099511627776
 owner:0<=h.C.Owner/\h.C.Owner<=1073741824
 cred: -1<=h.C.Creditor/\h.C.Creditor<=1073741824
 amt:0<=h.C.Amount/\h.C.Amount<=h.C.Room
 age:0<=h.C.Age/\h.C.Age<=last
 woods:Lw h.C.Age h.C.Woods
 places:Lw h.C.Age h.C.Places
 empty:h.C.Amount=0->h.C.Age=0/\h.C.Woods=zN/\h.C.Places=zN/\h.Fills=[]
 fills:h.Fills.Pairwise (·< ·)/\∀f∈h.Fills,0<=f/\f < n
 some:0 < h.C.Amount->h.Fills≠[]
structure Ah(last:Int)(n:Nat)(l:List ZY):Prop where
 each:∀h∈l,Nc last n h
 nums:(l.map (·.C.Number)).Nodup
 few:l.length<=256
structure Xz(n:Nat)(s:FA):Prop where
 day:0<=s.last/\s.last<=65536
 ok:Ah s.last n s.all
theorem J2:XB n a b=true↔a<=n/\n<=b:=by simp[XB]
theorem qT{last:Int}{m:Nat}(c:Nc last m h)(d:0<=n):Nc (last+n) m (Kj n h):=by
 unfold Kj;split
 .rename_i g;refine⟨c.num,c.wood,c.place,c.room,c.owner,c.cred,c.amt,⟨by have:=c.age;simp;omega,by have:=c.age;simp;omega⟩,c.woods.mz (by have:=c.wood;omega) d,c.places.mz (by have:=c.place;omega) d,λe=> ?_,c.fills,c.some⟩;have:h.C.Amount=0:=e;omega
 .exact⟨c.num,c.wood,c.place,c.room,c.owner,c.cred,c.amt,⟨c.age.1,by have:=c.age.2;omega⟩,c.woods,c.places,c.empty,c.fills,c.some⟩
theorem Pq:(Kj n h).C.Number=h.C.Number:=by unfold Kj;split<;>rfl
theorem AF{last:Int}{m:Nat}{l:Q0 ZY}(c:Ah last m l)(d:0<=n):Ah (last+n) m (l.map<|Kj n):=by
 refine⟨λh e=> ?_,?_,by simpa using c.few⟩
 .obtain⟨g,i,rfl⟩:=lX.1 e;exact qT (c.each g i) d
 .rw[qAF];have:((λx:ZY=>x.C.Number)∘Kj n)=λx=>x.C.Number:=funext λx=>Pq;rw[this];exact c.nums
theorem ye:Kj b (Kj a h)=Kj (a+b) h:=by
 unfold Kj;by_cases c:0 < h.C.Amount
 .simp only[c,B1]
  have e:∀(f:Nat->Int) (j:Nat),ZF (ZF f j<|f j+a) j (ZF f j (f j+a) j+b)=ZF f j (f j+(a+b)):=λf j=>by
   funext k;unfold ZF;cases d:Nat.beq k j with
   | true=>simp;omega
   | false=>simp
  simp only[e];congr 2;omega
 .simp only[c,Bm]
end
section
open Go.Dec
variable{last n:Int}{x:Ev}{l:Q0 ZY}{h:ZY}{i m:Nat}
theorem MS{x y:Int}:∀{l:Q0 Int},y∈CD x l↔y=x∨y∈l
 | []=>by simp[CD]
 | z::l=>by
  simp only[CD];split
  .simp
  .split
   .rename_i h;have:=(r6.1 h:x=z);subst this;simp
   .simp only[A4,MS (l:=l)];constructor
    .rintro(h | h | h)
     .exact .inr<|.inl h
     .exact .inl h
     .exact .inr<|.inr h
    .rintro(h | h | h)
     .exact .inr<|.inl h
     .exact .inl h
     .exact .inr<|.inr h
theorem DB{x:Int}:∀{l:Q0 Int},l.Pairwise (·< ·)->(CD x l).Pairwise (·< ·)
 | [],_=>by simp[CD]
 | z::l,h=>by
  have c:=IR.1 h;simp only[CD];split
  .rename_i d;refine IR.2 ⟨λa b=> ?_,h⟩;rcases A4.1 b with rfl | b
   .exact d
   .have:=c.1 a b;omega
  .split
   .exact h
   .rename_i j f;have g:x≠z:=λe=>f (by simp[e]);refine IR.2 ⟨λa b=> ?_,DB c.2⟩;rcases MS.1 b with rfl | b
    .omega
    .exact c.1 a b
theorem BL{a b:Q0 Int}{y:Int}:y∈It a b↔y∈a∨y∈b:=by
 unfold It
 induction a with
 | nil=>simp
 | cons x a c=>simp only[List.foldr_cons,MS,c,A4,or_assoc]
theorem zj{a b:Q0 Int}(h:b.Pairwise (·< ·)):(It a b).Pairwise (·< ·):=by
 unfold It
 induction a with
 | nil=>exact h
 | cons x a c=>exact DB c
theorem Bx:∀{a b:Q0 Int},a.Pairwise (·< ·)->b.Pairwise (·< ·)->(∀x,x∈a↔x∈b)->a=b
 | [],[],_,_,_=>rfl
 | [],y::b,_,_,h=>by have:=(h y).2 ic;simp at this
 | x::a,[],_,_,h=>by have:=(h x).1 ic;simp at this
 | x::a,y::b,o,p,h=>by
  have c:=IR.1 o;have d:=IR.1 p
  have g:x=y:=by
   have j:=(h x).1 ic;have k:=(h y).2 ic;rcases A4.1 j with e | j
   .exact e
   .rcases A4.1 k with e | k
    .exact e.symm
    .have:=d.1 x j;have:=c.1 y k;omega
  subst g;congr 1;refine Bx c.2 d.2 λz=> ?_;constructor
  .intro f;have:=(h z).1<|L3 _ f;rcases A4.1 this with rfl | this
   .have:=c.1 z f;omega
   .exact this
  .intro f;have:=(h z).2<|L3 _ f;rcases A4.1 this with rfl | this
   .have:=d.1 z f;omega
   .exact this
theorem Hb:∀{l:Q0 ZY} {i:Nat},Z1 l n=some i->∃h,l[i]? =some h/\h.C.Number=n
 | [],_,h=>by cases h
 | h::l,i,e=>by
  simp only[Z1] at e
  split at e
  .rename_i b;cases e;exact⟨h,rfl,r6.1 b⟩
  .cases a:Z1 l n with
   | none=>rw[a] at e;cases e
   | some j=>
    rw[a] at e
    simp only[RK,UV] at e
    subst e;obtain⟨h',c,d⟩:=Hb a;exact⟨h',by simpa using c,d⟩
theorem BQ:∀{l:Q0 ZY},Z1 l n=none->∀h∈l,h.C.Number≠n
 | [],_,_,h=>by cases h
 | h::l,e,h',a=>by
  simp only[Z1] at e
  split at e
  .cases e
  .rename_i c;cases b:Z1 l n with
   | some j=>rw[b] at e;cases e
   | none=>
    rcases A4.1 a with rfl | a
    .intro d;exact c<|by simp[d]
    .exact BQ b h' a
theorem qo{f:ZY->ZY}(a:∀h,(f h).C.Number=h.C.Number):∀(l:Q0 ZY),Z1 (l.map f) n=Z1 l n
 | []=>rfl
 | h::l=>by simp only[Of,Z1,a,qo a l]
theorem Dg(d:(l.map (·.C.Number)).Nodup)(hi:l[i]? =some h):Z1 l h.C.Number=some i:=by
 cases b:Z1 l h.C.Number with
 | none=>exact absurd rfl (BQ b h<|S1 hi)
 | some j=>
  obtain⟨h',f,e⟩:=Hb b;have c:(l.map (·.C.Number))[i]? =some h.C.Number:=by simp[hi]
  have g:(l.map (·.C.Number))[j]? =some h.C.Number:=by simp[f,e]
  have a:i < (l.map (·.C.Number)).length:=(Fm.1 c).1;rw[(List.getElem?_inj a d).1<|c.trans g.symm]
theorem Nc.up{n:Nat}(a:Nc last n h):Nc last (n+1) h:={a with fills:=⟨a.fills.1,λf b=>by have:=a.fills.2 f b;omega⟩}
theorem Ah.set{n:Nat}{h':ZY}(a:Ah last n l)(hi:l[i]? =some h)(b:Nc last n h')(f:h'.C.Number=h.C.Number):Ah last n (l.set i h'):=by
 refine⟨λx g=> ?_,?_,by simpa using a.few⟩
 .rcases qBF g with c | c
  .exact a.each x c
  .rw[c];exact b
 .have:(l.set i h').map (·.C.Number)=l.map (·.C.Number):=by
   apply lM;intro j;simp only[tb,lg];by_cases e:i=j
   .subst e;have d:=(Fm.1 hi).1;have b:=(Fm.1 hi).2;simp[d,f,b]
   .simp[e]
  rw[this];exact a.nums
theorem Ah.up{n:Nat}(a:Ah last n l):Ah last (n+1) l:=⟨λh b=>(a.each h b).up,a.nums,a.few⟩
theorem jP{s:ZY}(c:Nc last m h)(z:1<=n)(p:h.C.Amount+n<=h.C.Room)(v:0<=s.C.Age/\s.C.Age<=last)(q:Lw s.C.Age s.C.Woods)(r:Lw s.C.Age s.C.Places)(j:s.Fills.Pairwise (·< ·)/\∀f∈s.Fills,0<=f/\f < m)(k:s.Fills≠[]):Nc last m (JJ h s n):=by
 unfold JJ;split
 .rename_i o;have w:h.C.Amount=0:=r6.1 o;refine⟨c.num,c.wood,c.place,c.room,c.owner,c.cred,⟨by show 0<=h.C.Amount+n;omega,p⟩,v,q,r,λe=> ?_,j,λ_=>k⟩;have:h.C.Amount+n=0:=e;omega
 .rename_i o
  have g:0 < h.C.Amount:=by
   have:=c.amt.1;have:h.C.Amount≠0:=λe=>o (by simp[e]);omega
  refine⟨c.num,c.wood,c.place,c.room,c.owner,c.cred,⟨by show 0<=h.C.Amount+n;omega,p⟩,?_,c.woods.min q,c.places.min r,λe=> ?_,?_,λ_=> ?_⟩
  .have:=c.age;have:=Xu (a:=h.C.Age) (b:=s.C.Age);show 0<=JS _ _/\JS _ _<=last;omega
  .have:h.C.Amount+n=0:=e;omega
  .refine⟨zj j.1,λf d=> ?_⟩;rcases BL.1 d with d | d
   .exact c.fills.2 f d
   .exact j.2 f d
  .intro e;have d:=c.some g;cases u:h.Fills with
   | nil=>exact d u
   | cons a t=>
    have:a∈It h.Fills s.Fills:=BL.2 (.inl (by rw[u];simp));have y:It h.Fills s.Fills=[]:=e;rw[y] at this;cases this
theorem O6(a:Nc last m h)(g:1<=n)(j:n<=h.C.Amount)(d:0<=last):Nc last m (VF h n):=by
 unfold VF;split
 .have b:=a.room;exact⟨a.num,a.wood,a.place,a.room,a.owner,a.cred,⟨y0 0,by show(0:Int)<=h.C.Room;omega⟩,⟨y0 0,d⟩,Lw.zero<|y0 0,Lw.zero<|y0 0,λ_=>⟨rfl,rfl,rfl,rfl⟩,⟨List.Pairwise.nil,λ_ h=>by cases h⟩,λh=>by have h' :(0:Int) < 0:=h;omega⟩
 .rename_i f;have c:h.C.Amount - n≠0:=λe=>f (by simp[e]);have k:=a.amt;refine⟨a.num,a.wood,a.place,a.room,a.owner,a.cred,⟨by show 0<=h.C.Amount - n;omega,by show h.C.Amount - n<=h.C.Room;omega⟩,a.age,a.woods,a.places,λe=>absurd e c,a.fills,λ_=>a.some hQ⟩
theorem BX(h:XN x=true):(0<=x.Day/\x.Day<=65536)/\(0<=x.Cask/\x.Cask<=1073741824):=by
 simp only[XN,BY,J2] at h
 exact⟨h.1.1,h.1.2⟩
theorem cR(h:XN x=true)(k:x.Kind=0):(0<=x.Other/\x.Other<=7)/\(0<=x.Where/\x.Where<=7)/\(1<=x.Amount/\x.Amount<=1099511627776)/\(0<=x.Person/\x.Person<=1073741824):=by
 simp only[XN,BY,J2,k,BEq.rfl,B1] at h
 obtain⟨_,⟨⟨⟨a,b⟩,c⟩,d⟩⟩:=h;exact⟨a,b,c,d⟩
theorem IH(h:XN x=true):(if x.Kind==0 then XB x.Other 0 7&&XB x.Where 0 7&&XB x.Amount 1 1099511627776&&XB x.Person 0 1073741824
 else if x.Kind==1||x.Kind==3 then XB x.Amount 1 1099511627776
 else if x.Kind==2 then XB x.Other 0 1073741824&&XB x.Amount 1 1099511627776
 else if x.Kind==4 then XB x.Where 0 7
 else if x.Kind==5||x.Kind==6 then XB x.Person 0 1073741824&&XB x.To 0 1073741824
 else if x.Kind==7 then XB x.Person 0 1073741824
 else if x.Kind==8 then XB x.Where 0 7 else false)=true:=((BY _ _).mp h).2
theorem DF(h:XN x=true)(k:x.Kind=1∨x.Kind=2∨x.Kind=3):1<=x.Amount/\x.Amount<=1099511627776:=by
 have h:=IH h;rcases k with k | k | k<;>rw[k] at h
 .exact J2.1 h
 .exact J2.1 ((BY _ _).mp h).2
 .exact J2.1 h
theorem bI(h:XN x=true)(k:x.Kind=4∨x.Kind=8):0<=x.Where/\x.Where<=7:=by
 have h:=IH h;rcases k with k | k<;>rw[k] at h
 .exact J2.1 h
 .exact J2.1 h
theorem bH(h:XN x=true)(k:x.Kind=5∨x.Kind=6):0<=x.To/\x.To<=1073741824:=by
 have h:=IH h;rcases k with k | k<;>rw[k] at h
 .exact J2.1 ((BY _ _).mp h).2
 .exact J2.1 ((BY _ _).mp h).2
theorem kinds(h:XN x=true):x.Kind=0∨x.Kind=1∨x.Kind=2∨x.Kind=3∨x.Kind=4∨x.Kind=5∨x.Kind=6∨x.Kind=7∨x.Kind=8:=by
 have h:=IH h;by_cases a:x.Kind=0
 .exact .inl a
 rw[Do<|by simpa using a] at h
 by_cases b:x.Kind=1
 .exact .inr<|.inl b
 by_cases c:x.Kind=3
 .exact .inr<|.inr<|.inr<|.inl c
 rw[Do<|by simp[b,c]] at h
 by_cases d:x.Kind=2
 .exact .inr<|.inr<|.inl d
 rw[Do<|by simpa using d] at h
 by_cases e:x.Kind=4
 .exact .inr<|.inr<|.inr<|.inr<|.inl e
 rw[Do<|by simpa using e] at h
 by_cases f:x.Kind=5
 .exact .inr<|.inr<|.inr<|.inr<|.inr<|.inl f
 by_cases g:x.Kind=6
 .exact .inr<|.inr<|.inr<|.inr<|.inr<|.inr<|.inl g
 rw[Do<|by simp[f,g]] at h
 by_cases j:x.Kind=7
 .exact .inr<|.inr<|.inr<|.inr<|.inr<|.inr<|.inr<|.inl j
 rw[Do<|by simpa using j] at h
 by_cases k:x.Kind=8
 .exact .inr<|.inr<|.inr<|.inr<|.inr<|.inr<|.inr<|.inr k
 rw[Do<|by simpa using k] at h
 cases h
section
variable{last:Int}{m:Nat}{l l' :Q0 ZY}{x:Ev}{i:Nat}{c:ZY}
theorem jY(f:Ah last m l)(o:0<=last)(g:XN x=true)(p:x.Kind=0)(h:Ei l x= .inl l'):Ah last (m+1) l' :=by
 unfold Ei at h
 split at h
 .cases h
 .rename_i q;split at h
  .cases h
  .rename_i j;cases h;obtain⟨r,s,t,u⟩:=cR g p;have v:=(BX g).2;refine⟨λy d=> ?_,?_,by simp;omega⟩
   .rcases mb.1 d with d | d
    .exact(f.each y d).up
    .simp only[ts] at d
     subst d;exact⟨v,r,s,t,u,by simp[kO],⟨y0 0,by show(0:Int)<=x.Amount;omega⟩,⟨y0 0,o⟩,Lw.zero<|y0 0,Lw.zero<|y0 0,λ_=>⟨rfl,rfl,rfl,rfl⟩,⟨List.Pairwise.nil,λ_ h=>by cases h⟩,λh=>by have h' :(0:Int) < 0:=h;omega⟩
   .rw[List.map_append,List.nodup_append];refine⟨f.nums,by simp,λa w b k=> ?_⟩;simp only[Of,qAx,ts] at k
    obtain⟨y,d,rfl⟩:=lX.1 w;subst k;have e:Z1 l x.Cask=none:=by simpa using q
    exact BQ e y d
theorem jg(d:Ah last m l)(j:0<=last)(e:l[i]? =some c)(k:1<=x.Amount)(h:Ax l i c x m= .inl l'):Ah last (m+1) l' :=by
 have a:=d.each c<|S1 e;unfold Ax at h
 split at h
 .cases h
 .rename_i b;cases h;refine(d.up).set e (jP a.up k hQ ⟨y0 0,j⟩ (Lw.zero<|y0 0) (Lw.zero<|y0 0) ⟨by simp[Gd],λf g=> ?_⟩<|by simp[Gd]) ?_
  .simp only[Gd,ts] at g
   subst g;omega
  .unfold JJ;split<;>rfl
theorem jO(g:Ah last m l)(t:0<=last)(q:l[i]? =some c)(r:1<=x.Amount)(h:Al l i c x= .inl l'):Ah last (m+1) l' :=by
 have a:=g.each c<|S1 q;unfold Al at h
 split at h
 .cases h
 .rename_i k u;split at h
  .cases h
  .rename_i o b;have j:=g.each o<|S1 b;unfold Pn at h
   split at h
   .cases h
   .rename_i p;have d:i≠k:=λe=>p (by simp[e]);split at h
    .cases h
    .split at h
     .cases h
     .split at h
      .cases h
      .rename_i v w;cases h;have f:0 < c.C.Amount:=by omega
       have y:=(g.up).set b (jP (s:=c) j.up r hQ a.age a.woods a.places a.up.fills<|a.some f) (by unfold JJ;split<;>rfl);refine y.set (h:=c) ?_ (O6 a.up r hQ t) (by unfold VF;split<;>rfl);rw[sL λe=>d e.symm];exact q
theorem u6(b:Ah last m l)(e:0<=last)(d:l[i]? =some c)(f:1<=x.Amount)(h:CI l i c x= .inl l'):Ah last (m+1) l' :=by
 have a:=b.each c<|S1 d;unfold CI at h
 split at h
 .cases h
 .split at h
  .cases h
  .cases h;exact(b.up).set d (O6 a.up f hQ e) (by unfold VF;split<;>rfl)
theorem fc(b:Ah last m l)(f:0<=last)(e:XN x=true)(g:x.Kind≠0)(d:l[i]? =some c)(h:XO l i c x m= .inl l'):Ah last (m+1) l' :=by
 have a:=b.each c<|S1 d;rcases kinds e with k | k | k | k | k | k | k | k | k
 .exact absurd k g
 .have h:Ax l i c x m= .inl l' :=by rw[<-h];unfold XO;rw[k];rfl
  exact jg b f d (DF e<|.inl k).1 h
 .have h:Al l i c x= .inl l' :=by rw[<-h];unfold XO;rw[k];rfl
  exact jO b f d (DF e<|.inr<|.inl k).1 h
 .have h:CI l i c x= .inl l' :=by rw[<-h];unfold XO;rw[k];rfl
  exact u6 b f d (DF e<|.inr<|.inr k).1 h
 .have h:IP l i c x= .inl l' :=by rw[<-h];unfold XO;rw[k];rfl
  cases h;exact(b.up).set d {a.up with place:=bI e (.inl k)} rfl
 .have h:Rk l i c x= .inl l' :=by rw[<-h];unfold XO;rw[k];rfl
  unfold Rk at h
  split at h
  .cases h
  .split at h
   .cases h
   .cases h;exact(b.up).set d {a.up with owner:=bH e (.inl k)} rfl
 .have h:Dd l i c x= .inl l' :=by rw[<-h];unfold XO;rw[k];rfl
  unfold Dd at h
  split at h
  .cases h
  .split at h
   .cases h
   .cases h;have:=bH e<|.inr k;exact(b.up).set d {a.up with cred:=⟨by show -1<=x.To;omega,this.2⟩} rfl
 .have h:Rv l i c x= .inl l' :=by rw[<-h];unfold XO;rw[k];rfl
  unfold Rv at h
  split at h
  .cases h
  .cases h;exact(b.up).set d {a.up with cred:=⟨y0 _,by show(-1:Int)<=_;omega⟩} rfl
 .have h:R4 l i c x= .inl l' :=by rw[<-h];unfold XO;rw[k];rfl
  unfold R4 at h
  split at h
  .cases h
  .cases h;exact(b.up).set d {a.up with wood:=bI e (.inr k)} rfl
theorem u7(b:Ah last m l)(d:0<=last)(f:XN x=true)(h:DT l x m= .inl l'):Ah last (m+1) l' :=by
 unfold DT at h
 split at h
 .rename_i a;exact jY b d f (r6.1 a) h
 .rename_i a;split at h
  .cases h
  .split at h
   .cases h
   .rename_i c g;exact fc b d f (λe=>a<|by simp[e]) g h
end
theorem Bw{n:Nat}{s c:FA}(g:Xz n s)(h:YL n s x= .inl c):Xz (n+1) c/\XN x=true/\s.last<=x.Day/\c.last=x.Day:=by
 unfold YL at h
 split at h
 .cases h
 .rename_i a;have a:XN x=true:=by simpa using a
  split at h
  .cases h
  .rename_i j;split at h
   .rename_i all b;cases h;have d:=(BX a).1;have f:=AF g.ok (n:=x.Day - s.last) hQ;have e:s.last+(x.Day - s.last)=x.Day:=by omega
    rw[e] at f
    exact⟨⟨d,u7 f d.1 a b⟩,a,by omega,rfl⟩
   .cases h
theorem Xz.start:Xz 0 ⟨[],0⟩:=⟨⟨y0 0,by decide⟩,⟨λ_ h=>(by cases h),List.nodup_nil,by simp⟩⟩
end
section
open Go.Dec
theorem TC{n:Int}:∀{l:Q0 Int} (a:Int),l.Pairwise (·< ·)->(∀f∈l,a<=f/\f < n)->a<=n->(l.length:Int)<=n - a
 | [],a,_,_,h=>by simp;omega
 | x::l,a,h,b,_=>by
  have h' :=IR.1 h;have d:=b x ic;have:=TC (l:=l) (x+1) h'.2 (λf c=>⟨by have:=h'.1 f c;omega,(b f<|L3 _ c).2⟩) hQ;simp only[L4];omega
def ND(i:Nat)(f g:Nat->Int):Nat->Int:=λk=>if k < i then JS (f k) (g k) else f k
theorem Eg{i:Nat}{f g:Nat->Int}:ZF (ND i f g) i (JS (f i)<|g i)=ND (i+1) f g:=by
 funext k;by_cases e:k=i
 .subst e;rw[UF];unfold ND;rw[DO hQ]
 .rw[Wa e];unfold ND;by_cases h:k < i
  .rw[DO h,DO hQ]
  .rw[Do h,Do hQ]
theorem uX{f g:Nat->Int}:ND 0 f g=f:=by funext k;unfold ND;rw[Do hQ]
theorem cQ{x:Ev}(h:XN x=true):0<=x.Day/\x.Day<=65536:=(BX h).1
theorem Eu{day:Int}:∀(l:Q0 Ev) (n:Nat) (s a:FA) (k:Nat),Xz n s->s.last<=day->Hj day l n s=(.inl a,k)->Xz k a/\a.last<=day/\n<=k/\k<=n+l.length
 | [],n,s,a,k,b,c,h=>by
  simp only[Hj,T2,s8] at h
  obtain⟨rfl,rfl⟩:=h;exact⟨b,c,So _,by simp⟩
 | x::l,n,s,a,k,b,c,h=>by
  simp only[Hj] at h
  by_cases d:x.Day<=day
  .rw[DO d] at h
   cases hs:YL n s x with
   | inl f=>
    rw[hs] at h
    obtain⟨g,_,_,m⟩:=Bw b hs;obtain⟨i,j,o,p⟩:=Eu l (n+1) f a k g hQ h;exact⟨i,j,by omega,by simp;omega⟩
   | inr e=>rw[hs] at h;cases h
  .rw[Do d] at h
   simp only[T2,s8] at h
   obtain⟨rfl,rfl⟩:=h;exact⟨b,c,So _,by simp⟩
end
section
open Go.Dec
variable{c:QM}{t:Int}{A1:Q0 QM}{n:Nat}{h:ZY}
abbrev FM:=Q0<|Q0<|Int×Bool
variable{A3:FM}
def UR(c:QM)(F:Q0 Int):ZY:=⟨⟨c.number,c.wood,c.place,c.room,c.owner,c.creditor,c.amount,c.times.age,c.times.woods,c.times.places⟩,F⟩
def FR(A3:FM)(p:Q2 Nat)(F:Q0 Int):Prop:=match p with
 | none=>F=[]
 | some j=>∃l,A3[j]? =some l/\(l.map Prod.fst).Nodup/\∀x,x∈F↔x∈l.map Prod.fst
structure CR(t:Int)(n:Nat)(A3:FM)(c:QM)(h:ZY):Prop where
 since:0<=c.since/\c.since<=t
 ok:Nc c.since n (UR c h.Fills)
 eq:h=Kj (t - c.since) (UR c h.Fills)
 fills:FR A3 c.fills h.Fills
structure PR(t:Int)(n:Nat)(all:List ZY)(A1:List QM)(A3:FM)(m:List (Int×Option Nat)):Prop where
 len:A1.length=all.length
 each:∀(k:Nat) (c:QM) (h:ZY),A1[k]? =some c->all[k]? =some h->CR t n A3 c h
 map:m=A1.mapIdx (λk c=>(c.number,some k))
 apart:∀(i j:Nat) (ci cj:QM) (q:Nat),A1[i]? =some ci->A1[j]? =some cj->ci.fills=some q->cj.fills=some q->i=j
theorem SP{n:Int}:(Kj n h).Fills=h.Fills:=by unfold Kj;split<;>rfl
theorem AG:Kj 0 h=h:=by
 unfold Kj;split
 .have e:∀(f:Nat->Int) (j:Nat),ZF f j (f j)=f:=λf j=>by
   funext k;by_cases e:k=j
   .subst e;rw[UF]
   .rw[Wa e]
  simp only[Int.add_zero,e]
 .rfl
theorem CR.number(r:CR t n A3 c h):h.C.Number=c.number:=by rw[r.eq,Pq];rfl
theorem CR.shift{t':Int}(r:CR t n A3 c h)(le:t<=t'):CR t' n A3 c (Kj (t' - t) h):=by
 refine⟨⟨r.since.1,by have:=r.since.2;omega⟩,?_,?_,?_⟩
 .rw[SP];exact r.ok
 .rw[SP]
  conv=>lhs;rw[r.eq]
  rw[ye];congr 1;omega
 .rw[SP];exact r.fills
theorem PR.shift{t':Int}{all:Q0 ZY}{m:Q0 (Int×Q2 Nat)}(r:PR t n all A1 A3 m)(le:t<=t'):PR t' n (all.map<|Kj<|t' - t) A1 A3 m:=by
 refine⟨by simpa using r.len,λk c h d a=> ?_,r.map,r.apart⟩;rw[tb] at a
 cases b:all[k]? with
 | none=>rw[b] at a;cases a
 | some e=>
  rw[b] at a
  simp only[RK,UV] at a
  subst a;exact(r.each k c e d b).shift le
def XV(t:Int)(c:QM):QM:=if 0 < c.amount then{c with since:=t,times:=⟨c.times.age+(t - c.since),ZF c.times.woods c.wood.toNat<|c.times.woods c.wood.toNat+(t - c.since),ZF c.times.places c.place.toNat<|c.times.places c.place.toNat+(t - c.since)⟩} else{c with since:=t}
theorem qI{F:Q0 Int}:UR (XV t c) F=Kj (t - c.since) (UR c F):=by
 unfold XV Kj;by_cases h:0 < c.amount
 .rw[DO h,DO<|show 0 < (UR c F).C.Amount from h];rfl
 .rw[Do h,Do<|show ¬0 < (UR c F).C.Amount from h];rfl
theorem XU:(XV t c).since=t:=by unfold XV;split<;>rfl
theorem Rl:(XV t c).number=c.number:=by unfold XV;split<;>rfl
theorem SG:(XV t c).fills=c.fills:=by unfold XV;split<;>rfl
theorem CR.rest(r:CR t n A3 c h):CR t n A3 (XV t c) h:=by
 refine⟨⟨by rw[XU];have:=r.since;omega,by rw[XU];exact y0 t⟩,?_,?_,by rw[SG];exact r.fills⟩
 .rw[qI,XU];have:=qT r.ok (n:=t - c.since) (by have:=r.since;omega);have e:c.since+(t - c.since)=t:=by omega
  rwa[e] at this
 .rw[qI,XU,qAG,AG];exact r.eq
theorem EM{k:Nat}{F:Q0 Int}(g:A1[k]? =some c)(d:Nc c.since n (UR c F))(_h0:0<=c.since)(l:c.since<=t)(m:t<=1000000):Ub A1 (some k) t=some (A1.set k<|XV t c):=by
 have o:k < A1.length:=(Fm.1 g).1;have e:=d.age;have b:=d.wood;have a:=d.place;have i:YY 8 c.wood=some c.wood.toNat:=by unfold YY;rw[DO (by have:0<=c.wood/\c.wood<=7:=b;omega)]
 have j:YY 8 c.place=some c.place.toNat:=by unfold YY;rw[DO (by have:0<=c.place/\c.place<=7:=a;omega)]
 have p:0<=c.times.woods c.wood.toNat/\c.times.woods c.wood.toNat<=c.times.age:=d.woods.le _;have q:0<=c.times.places c.place.toNat/\c.times.places c.place.toNat<=c.times.age:=d.places.le _;have r:0<=c.times.age/\c.times.age<=c.since:=e;unfold Ub;simp only[K1,g,QO];rw[Qs (n:=t - c.since) hQ hQ];by_cases f:0 < c.amount
 .rw[DO<|by simpa using f];simp only[i,j,K1,lx];rw[Qs (n:=c.times.age+(t - c.since)) hQ hQ,Qs (n:=c.times.woods c.wood.toNat+(t - c.since)) hQ hQ,Qs (n:=c.times.places c.place.toNat+(t - c.since)) hQ hQ];simp only[XV,f,B1]
 .rw[Do<|by simpa using f];simp only[XV,f,Bm]
theorem MU{num:Int}:∀(A1:Q0 QM) (all:Q0 ZY) (b:Nat),A1.length=all.length->(∀(k:Nat) (c:QM) (h:ZY),A1[k]? =some c->all[k]? =some h->h.C.Number=c.number)->
  (QZ (A1.mapIdx λk c=>(c.number,some<|b+k)) num).getD none=(Z1 all num).map (b+ ·)
 | [],[],_,_,_=>rfl
 | [],_::_,_,h,_=>by simp at h
 | _::_,[],_,h,_=>by simp at h
 | c::A1,h::all,b,m,g=>by
  have l:=g 0 c h rfl rfl;rw[List.mapIdx_cons];simp only[QZ,Z1];by_cases e:num=c.number
  .have d:(num==c.number)=true:=by simpa using e
   have f:(h.C.Number==num)=true:=by simp[l,e]
   simp[d,f]
  .have d:(num==c.number)=false:=by simpa using e
   have f:(h.C.Number==num)=false:=by simp[l];exact λo=>e o.symm
   have p:=MU (num:=num) A1 all (b+1) (by simpa using m) (λk c h q r=>g (k+1) c h (by simpa using q)<|by simpa using r);simp only[d,f,W1,Bm];have s:(fun(i:Nat) (a:QM)=>(a.number,some<|b+(i+1)))=λk c=>(c.number,some<|b+1+k):=by funext i a;rw[show b+(i+1)=b+1+i by omega]
   rw[s,p];cases Z1 all num with
   | none=>rfl
   | some j=>simp;omega
theorem PR.get{all:Q0 ZY}{m:Q0 (Int×Q2 Nat)}(r:PR t n all A1 A3 m)(num:Int):(QZ m num).getD none=Z1 all num:=by
 have:=MU (num:=num) A1 all 0 r.len λk c h a b=>(r.each k c h a b).number;rw[r.map];simpa using this
end
section
open Go.Dec
variable{c c':QM}{A1:Q0 QM}{F:Q0 Int}{A3:FM}{h:ZY}{t:Int}{n k:Nat}
theorem CR.up(r:CR t n A3 c h):CR t (n+1) A3 c h:=⟨r.since,r.ok.up,r.eq,r.fills⟩
theorem FR.keep{A3':FM}{p:Q2 Nat}(r:FR A3 p F)(h:∀q,p=some q->A3'[q]? =A3[q]?):FR A3' p F:=by
 cases p with
 | none=>exact r
 | some q=>obtain⟨l,a,b⟩:=r;exact⟨l,by rw[h q rfl];exact a,b⟩
theorem mapIdx_set(b:A1[k]? =some c)(d:c'.number=c.number):(A1.set k c').mapIdx (λk c=>(c.number,some k))=A1.mapIdx (λk (c:QM)=>(c.number,some k)):=by
 apply lM;intro i;simp only[oi,lg];by_cases e:k=i
 .subst e;have a:=(Fm.1 b).1;have f:=(Fm.1 b).2;simp[a,d,f]
 .simp[e]
section
variable{t:Int}{n n' :Nat}{all:Q0 ZY}{A1:Q0 QM}{A3 A3' :FM}{m:Q0 (Int×Q2 Nat)}{k:Nat}{c c' :QM}{h h' :ZY}
theorem PR.set(r:PR t n all A1 A3 m)(x:A1[k]? =some c)(z:all[k]? =some h)(o:c'.number=c.number)(p:CR t n' A3' c' h')(d:∀(i:Nat) (ci:QM) (hi:ZY),i≠k->A1[i]? =some ci->all[i]? =some hi->CR t n' A3' ci hi)
  (g:∀(i:Nat) (ci:QM) (q:Nat),i≠k->A1[i]? =some ci->ci.fills=some q->c'.fills≠some q):PR t n' (all.set k h') (A1.set k c') A3' m:=by
 have s:=(Fm.1 x).1;have u:=(Fm.1 z).1;refine⟨by simpa using r.len,λi ci hi b a=> ?_,by rw[mapIdx_set x o];exact r.map,λi j ci y q b a v w=> ?_⟩
 .by_cases e:k=i
  .subst e;rw[x2 s] at b
   rw[x2 u] at a
   cases b;cases a;exact p
  .rw[sL e] at b a
   exact d i ci hi (λl=>e l.symm) b a
 .by_cases e:k=i
  .by_cases f:k=j
   .rw[<-e,<-f]
   .subst e;rw[x2 s] at b
    rw[sL f] at a
    cases b;exact absurd v<|g j y q (λl=>f l.symm) a w
  .rw[sL e] at b
   by_cases f:k=j
   .subst f;rw[x2 s] at a
    cases a;exact absurd w<|g i ci q (λl=>e l.symm) b v
   .rw[sL f] at a
    exact r.apart i j ci y q b a v w
theorem PR.mN(r:PR t n all A1 A3 m)(j:A1[k]? =some c)(l:all[k]? =some h)(d:c'.number=c.number)(e:CR t (n+1) A3 c' h')(a:c'.fills=c.fills∨c'.fills=none):PR t (n+1) (all.set k h') (A1.set k c') A3 m:=
 r.set j l d e (λi ci hi _ f g=>(r.each i ci hi f g).up) (λi ci q hi f g b=>by
  rcases a with a | a
  .rw[a] at b;exact hi<|r.apart i k ci c q f j g b
  .rw[a] at b;cases b)
theorem PR.rest(r:PR t n all A1 A3 m)(a:A1[k]? =some c):PR t n all (A1.set k<|XV t c) A3 m:=by
 have j:=(Fm.1 a).1;have b:k < all.length:=by rw[<-r.len];exact j
 have f:all[k]? =some all[k]:=B3 b
 have:=r.set (n' :=n) (A3' :=A3) (c' :=XV t c) (h' :=all[k]) a f Rl (r.each k c _ a f).rest (λi ci hi _ d e=>r.each i ci hi d e) λi ci q hi d e g=>by
  rw[SG] at g;exact hi<|r.apart i k ci c q d a e g
 rwa[qBV] at this
theorem Xw{e:Qn}{num:Int}(r:PR t n all A1 A3 m)(q:t<=1000000)(s:e.casks=some 0):(Z1 all num=none/\KD A1 [e] [m] (some 0) num t=some (.pan ⟨4⟩))∨
  (∃k h c,Z1 all num=some k/\all[k]? =some h/\h.C.Number=num/\PR t n all (A1.set k c) A3 m/\(A1.set k c)[k]? =some c/\c.since=t/\h=UR c h.Fills/\Nc t n h/\KD A1 [e] [m] (some 0) num t=some (.ok (some k,A1.set k c))):=by
 have f:=r.get num;unfold KD;simp only[K1,C2,s,f];cases u:Z1 all num with
 | none=>
  left;exact⟨rfl,rfl⟩
 | some k=>
  right;obtain⟨h,i,g⟩:=Hb u;have j:=(Fm.1 i).1;have p:k < A1.length:=by rw[r.len];exact j
  have l:A1[k]? =some A1[k]:=B3 p;have a:=r.each k _ h l i;have b:=a.rest
  have d:h=UR (XV t A1[k]) h.Fills:=by
   have:=b.eq;rw[XU,qAG,AG] at this
   exact this
  have o:Nc t n h:=by
   have:=b.ok;rw[XU,<-d] at this
   exact this
  refine⟨k,h,XV t A1[k],rfl,i,g,r.rest l,x2 p,XU,d,o,?_⟩;show Q5 (Zh true 4) _ _=_;have v:Zh true 4=some (.ok ()):=rfl;rw[v];simp only[Q5];rw[EM l a.ok a.since.1 a.since.2 q];rfl
end
def X5(t:Int)(n:Nat)(r:Q0 ZY ⊕ Int)(o:Q2 (Out Zo<|Q0 QM×FM×Q0 (Q0<|Int×Q2 Nat))):Prop:=match r with
 | .inl a=>∃b A3' d,o=some (.ok (b,A3',[d]))/\PR t (n+1) a b A3' d
 | .inr e=>o=some (.pan ⟨e⟩)/\e≠0
section
variable{t:Int}{n:Nat}{all:Q0 ZY}{A1:Q0 QM}{A3:FM}{m:Q0 (Int×Q2 Nat)}{b:Qn}{x:Ev}
theorem CR.av(e:0<=t)(hs:c.since=t)(a:Nc t n (UR c F))(d:FR A3 c.fills F):CR t n A3 c (UR c F):=⟨by omega,by rw[hs];exact a,by rw[hs,qAG,AG];rfl,d⟩
theorem kq(r:PR t n all A1 A3 m)(v:0<=t)(A:t<=65536)(w:b.casks=some 0)(y:XN x=true)(f:x.Kind=4)(z:x.Day=t):X5 t n (DT all x n) (VA A1 [b] A3 [m] (some 0) x):=by
 unfold VA DT;rw[Do (by rw[f];decide),z];rcases Xw (num:=x.Cask) r hQ w with⟨g,i⟩ | ⟨k,h,c,g,j,s,u,l,hs,a,o,i⟩
 .rw[g,i];exact⟨rfl,by decide⟩
 .rw[g,i];simp only[j,Q5,K1,l,QO,lx];have d:XO all k h x n=IP all k h x:=by unfold XO;rw[f];rfl
  rw[d];refine⟨_,_,_,rfl,?_⟩;have p:=u.each k c h l j
  have q:PR t (n+1) (all.set k<|UR {c with place:=x.Where} h.Fills) ((A1.set k c).set k {c with place:=x.Where}) A3 m:=u.mN l j rfl (CR.av v hs (by
   have:=o.up;rw[a] at this
   exact{this with place:=bI y (.inl f)}) p.fills)<|.inl rfl
  rw[lx] at q
  have e:UR {c with place:=x.Where} h.Fills={h with C:={h.C with Place:=x.Where}}:=by
   conv=>rhs;rw[a]
   rfl
  rw[e] at q
  exact q
theorem Iu{h':ZY}{r:Q0 ZY ⊕ Int}(e:PR t n all (A1.set k c) A3 m)(f:all[k]? =some h)(g:(A1.set k c)[k]? =some c)(i:0<=t)(hs:c'.since=t)(j:c'.number=c.number)(l:c'.fills=c.fills∨c'.fills=none)(he:h' =UR c' F)(o:Nc t (n+1) h')(d:FR A3 c'.fills F)(a:r= .inl (all.set k h')):X5 t n r (some<|.ok (A1.set k c',A3,[m])):=by
 subst a;subst he;refine⟨_,_,_,rfl,?_⟩;have p:=e.mN g f j (CR.av i hs o d) l
 rwa[lx] at p
theorem wC{a:Int}(h: -1<=a):(a==(-1))= !decide (a≥0):=by
 by_cases e:a= -1
 .subst e;rfl
 .have d:(a==(-1))=false:=by simpa using e
  rw[d,aT<|show a≥0 by omega];rfl
theorem yH(r:PR t n all A1 A3 m)(G:0<=t)(M:t<=65536)(H:b.casks=some 0)(I:XN x=true)(l:x.Kind=5)(K:x.Day=t):X5 t n (DT all x n) (Vp A1 [b] A3 [m] (some 0) x):=by
 unfold Vp DT;rw[Do (by rw[l];decide),K];rcases Xw (num:=x.Cask) r hQ H with⟨o,p⟩ | ⟨k,h,c,o,q,B,D,s,hs,a,e,p⟩
 .rw[o,p];exact⟨rfl,by decide⟩
 .rw[o,p];simp only[q,Q5,K1,s,QO,lx];have f:XO all k h x n=Rk all k h x:=by unfold XO;rw[l];rfl
  rw[f];have u:=D.each k c h s q;have L:h.C.Owner=c.owner:=by rw[a];rfl
  have g:h.C.Creditor=c.creditor:=by rw[a];rfl
  have d:=e.cred;rw[g] at d
  unfold Rk;rw[L,g];by_cases i:c.owner=x.Person
  .have v:(c.owner==x.Person)=true:=by simpa using i
   have w:(c.owner != x.Person)=false:=by simpa using i
   simp only[v,w,B1,oS,wC d.1];by_cases E:c.creditor≥0
   .simp only[E,lL,RW,B1];exact⟨rfl,by decide⟩
   .simp only[E,lP,u1,W1,Bm];by_cases j:x.To=c.owner
    .have y:(x.To==c.owner)=true:=by simpa using j
     have A:(x.To != c.owner)=false:=by simpa using j
     simp only[y,A,B1];exact⟨rfl,by decide⟩
    .have y:(x.To==c.owner)=false:=by simpa using j
     have A:(x.To != c.owner)=true:=by simpa using j
     simp only[y,A,W1,Bm];exact Iu (h' :={h with C:={h.C with Owner:=x.To}}) (c' :={c with owner:=x.To}) (F:=h.Fills) D q s G hs rfl (.inl rfl) (congrArg (λz:ZY=>{z with C:={z.C with Owner:=x.To}}) a) {e.up with owner:=bH I (.inl l)} u.fills rfl
  .have v:(c.owner==x.Person)=false:=by simpa using i
   have w:(c.owner != x.Person)=true:=by simpa using i
   simp only[v,w,qAz,B1,W1,Bm];exact⟨rfl,by decide⟩
theorem qL(r:PR t n all A1 A3 m)(B:0<=t)(I:t<=65536)(D:b.casks=some 0)(E:XN x=true)(j:x.Kind=6)(G:x.Day=t):X5 t n (DT all x n) (Yb A1 [b] A3 [m] (some 0) x):=by
 unfold Yb DT;rw[Do (by rw[j];decide),G];rcases Xw (num:=x.Cask) r hQ D with⟨l,o⟩ | ⟨k,h,c,l,p,w,y,q,hs,a,e,o⟩
 .rw[l,o];exact⟨rfl,by decide⟩
 .rw[l,o];simp only[p,Q5,K1,q,QO,lx];have f:XO all k h x n=Dd all k h x:=by unfold XO;rw[j];rfl
  rw[f];have s:=y.each k c h q p;have H:h.C.Owner=c.owner:=by rw[a];rfl
  have g:h.C.Creditor=c.creditor:=by rw[a];rfl
  have d:=e.cred;rw[g] at d
  unfold Dd;rw[H,g];by_cases i:c.owner=x.Person
  .have u:(c.owner==x.Person)=true:=by simpa using i
   have v:(c.owner != x.Person)=false:=by simpa using i
   simp only[u,v,W1,Bm,wC d.1];by_cases A:c.creditor≥0
   .simp only[A,lL,RW,B1];exact⟨rfl,by decide⟩
   .simp only[A,lP,u1,Bm];have:=bH E<|.inr j;exact Iu (h' :={h with C:={h.C with Creditor:=x.To}}) (c' :={c with creditor:=x.To}) (F:=h.Fills) y p q B hs rfl (.inl rfl) (congrArg (λz:ZY=>{z with C:={z.C with Creditor:=x.To}}) a) {e.up with cred:=⟨by show -1<=x.To;omega,this.2⟩} s.fills rfl
  .have u:(c.owner==x.Person)=false:=by simpa using i
   have v:(c.owner != x.Person)=true:=by simpa using i
   simp only[u,v,B1];exact⟨rfl,by decide⟩
theorem yt(r:PR t n all A1 A3 m)(y:0<=t)(D:t<=65536)(A:b.casks=some 0)(_hv:XN x=true)(u:x.Kind=7)(B:x.Day=t):X5 t n (DT all x n) (Vr A1 [b] A3 [m] (some 0) x):=by
 unfold Vr DT;rw[Do (by rw[u];decide),B];rcases Xw (num:=x.Cask) r hQ A with⟨f,g⟩ | ⟨k,h,c,f,i,v,w,j,hs,a,l,g⟩
 .rw[f,g];exact⟨rfl,by decide⟩
 .rw[f,g];simp only[i,Q5,K1,j,QO,lx];have d:XO all k h x n=Rv all k h x:=by unfold XO;rw[u];rfl
  rw[d];have o:=w.each k c h j i;have p:h.C.Creditor=c.creditor:=by rw[a];rfl
  unfold Rv;rw[p];by_cases e:c.creditor=x.Person
  .have q:(c.creditor==x.Person)=true:=by simpa using e
   have s:(c.creditor != x.Person)=false:=by simpa using e
   simp only[q,s,W1,Bm];exact Iu (h' :={h with C:={h.C with Creditor:= -1}}) (c' :={c with creditor:= -1}) (F:=h.Fills) w i j y hs rfl (.inl rfl) (congrArg (λz:ZY=>{z with C:={z.C with Creditor:= -1}}) a) {l.up with cred:=⟨y0 _,by show(-1:Int)<=_;omega⟩} o.fills rfl
  .have q:(c.creditor==x.Person)=false:=by simpa using e
   have s:(c.creditor != x.Person)=true:=by simpa using e
   simp only[q,s,B1];exact⟨rfl,by decide⟩
theorem vA(r:PR t n all A1 A3 m)(A:0<=t)(G:t<=65536)(B:b.casks=some 0)(D:XN x=true)(i:x.Kind=8)(E:x.Day=t):X5 t n (DT all x n) (Vt A1 [b] A3 [m] (some 0) x):=by
 unfold Vt DT;rw[Do (by rw[i];decide),E];rcases Xw (num:=x.Cask) r hQ B with⟨j,l⟩ | ⟨k,h,c,j,o,v,w,p,hs,a,d,l⟩
 .rw[j,l];exact⟨rfl,by decide⟩
 .rw[j,l];simp only[o,Q5,K1,p,QO,lx];have e:XO all k h x n=R4 all k h x:=by unfold XO;rw[i];rfl
  rw[e];have q:=w.each k c h p o;have f:h.C.Amount=c.amount:=by rw[a];rfl
  have g:=d.amt;rw[f] at g
  unfold R4;rw[f];by_cases y:c.amount=0
  .have s:(c.amount==0)=true:=by simpa using y
   have u:¬c.amount > 0:=by omega
   simp only[s,u,Bm];exact Iu (h' :={h with C:={h.C with Wood:=x.Where}}) (c' :={c with wood:=x.Where}) (F:=h.Fills) w o p A hs rfl (.inl rfl) (congrArg (λz:ZY=>{z with C:={z.C with Wood:=x.Where}}) a) {d.up with wood:=bI D (.inr i)} q.fills rfl
  .have s:(c.amount==0)=false:=by simpa using y
   have u:c.amount > 0:=by omega
   simp only[s,u,B1];exact⟨rfl,by decide⟩
end
end
section
open Go.Dec
variable{c:QM}{n:Int}
def FD(c:QM)(n:Int):QM:=if c.amount - n==0 then{c with amount:=0,times:=⟨0,zN,zN⟩,fills:=none} else{c with amount:=c.amount - n}
theorem qJ{F:Q0 Int}:VF (UR c F) n=UR (FD c n) (VF (UR c F) n).Fills:=by
 unfold VF FD;by_cases e:(c.amount - n==0)=true
 .rw[DO e,DO<|show((UR c F).C.Amount - n==0)=true from e];rfl
 .rw[Do e,Do<|show ¬((UR c F).C.Amount - n==0)=true from e];rfl
theorem Mj:(FD c n).fills=c.fills∨(FD c n).fills=none:=by
 unfold FD;split
 .exact .inr rfl
 .exact .inl rfl
theorem Mi:(FD c n).since=c.since:=by unfold FD;split<;>rfl
theorem R1:(FD c n).number=c.number:=by unfold FD;split<;>rfl
theorem jl{A3:FM}{F:Q0 Int}(h:FR A3 c.fills F):FR A3 (FD c n).fills (VF (UR c F) n).Fills:=by
 unfold VF FD;by_cases e:(c.amount - n==0)=true
 .rw[DO e,DO<|show((UR c F).C.Amount - n==0)=true from e];rfl
 .rw[Do e,Do<|show ¬((UR c F).C.Amount - n==0)=true from e];exact h
theorem Fj{A1:Q0 QM}{k:Nat}(a:A1[k]? =some c)(d:0<=c.amount/\c.amount<=1099511627776)(f:0<=n/\n<=1099511627776):Vo A1 (some k) n=some (A1.set k<|FD c n):=by
 unfold Vo;simp only[K1,a,QO,lx];rw[Qs (n:=c.amount - n) hQ hQ];unfold FD;by_cases e:(c.amount - n==0)=true
 .have b:c.amount - n=0:=r6.1 e;rw[DO e,DO e];simp only[b]
 .rw[Do e,Do e]
section
variable{t:Int}{n:Nat}{all:Q0 ZY}{A1:Q0 QM}{A3:FM}{m:Q0 (Int×Q2 Nat)}{b:Qn}{x:Ev}
theorem kf(r:PR t n all A1 A3 m)(A:0<=t)(L:t<=65536)(G:b.casks=some 0)(H:XN x=true)(p:x.Kind=3)(I:x.Day=t):X5 t n (DT all x n) (Y8 A1 [b] A3 [m] (some 0) x):=by
 unfold Y8 DT;rw[Do (by rw[p];decide),I];rcases Xw (num:=x.Cask) r hQ G with⟨q,s⟩ | ⟨k,h,c,q,u,B,D,o,hs,a,e,s⟩
 .rw[q,s];exact⟨rfl,by decide⟩
 .rw[q,s];simp only[u,Q5,K1,o];have f:XO all k h x n=CI all k h x:=by unfold XO;rw[p];rfl
  rw[f];have v:=D.each k c h o u;have g:h.C.Amount=c.amount:=by rw[a];rfl
  have i:h.C.Creditor=c.creditor:=by rw[a];rfl
  have d:=e.cred;have j:=e.amt;have w:=e.room;rw[g] at j
  rw[i] at d
  have K:=DF H<|.inr<|.inr p;unfold CI;rw[g,i,wC d.1];by_cases E:c.creditor≥0
  .simp only[E,lL,RW,B1];exact⟨rfl,by decide⟩
  .simp only[E,lP,u1,Bm];by_cases F:c.amount < x.Amount
   .have y:decide (c.amount≥x.Amount)=false:=nt hQ;simp only[F,y,B1];exact⟨rfl,by decide⟩
   .have y:decide (c.amount≥x.Amount)=true:=aT hQ;simp only[F,y,Bm];show X5 t n _ ((Vo (A1.set k c) (some k) x.Amount).bind λl=>some<|.ok (l,A3,[m]));rw[Fj o hQ hQ,K1,lx];have z:VF h x.Amount=UR (FD c x.Amount) (VF (UR c h.Fills) x.Amount).Fills:=by rw[<-qJ,<-a]
    exact Iu (h' :=VF h x.Amount) (c' :=FD c x.Amount) D u o A (by rw[Mi];exact hs) R1 Mj z (O6 e.up K.1 hQ A) (jl v.fills) rfl
theorem MT{num:Int}{v:Q2 Nat}:∀(A1:Q0 QM) (d:Nat),(∀c∈A1,c.number≠num)->Qq (A1.mapIdx λk c=>(c.number,some<|d+k)) num v=A1.mapIdx (λk c=>(c.number,some<|d+k))++[(num,v)]
 | [],_,_=>rfl
 | c::A1,d,h=>by
  rw[List.mapIdx_cons];have f:(num==c.number)=false:=by simpa using(λe=>h c ic e.symm)
  have g:(fun(i:Nat) (a:QM)=>(a.number,some<|d+(i+1)))=λk c=>(c.number,some<|d+1+k):=by funext i a;rw[show d+(i+1)=d+1+i by omega]
  simp only[Qq,f,W1,Bm,g,r7];rw[MT A1 (d+1) λc j=>h c<|L3 _ j]
def fG(x:Ev):QM:=⟨x.Cask,x.Other,x.Where,x.Amount,x.Person, -1,0,x.Day,⟨0,zN,zN⟩,none⟩
theorem ku(r:PR t n all A1 A3 m)(K:Ah t n all)(E:0<=t)(L:b.casks=some 0)(M:XN x=true)(w:x.Kind=0)(N:x.Day=t):X5 t n (DT all x n) (VB A1 [b] A3 [m] (some 0) x):=by
 have a:=λl' h=>jY (l' :=l') K E M w h;have P:m.length=all.length:=by rw[r.map,List.length_mapIdx,r.len]
 unfold VB DT;rw[DO (by rw[w];rfl)];simp only[K1,C2,L,r.get];unfold Ei at a ⊢
 cases G:Z1 all x.Cask with
 | some k=>
  simp only[o5,B1];exact⟨rfl,by decide⟩
 | none=>
  rw[G] at a
  simp only[oL,W1,Bm] at a ⊢
  by_cases f:256<=all.length
  .have e:decide ((m.length:Int) < 256)=false:=nt hQ;simp only[f,e,B1];exact⟨rfl,by decide⟩
  .have e:decide ((m.length:Int) < 256)=true:=aT hQ;simp only[f,e,Bm] at a ⊢
   have y:=a _ rfl;have z:Nc t (n+1) (kO x):=y.each _ ic;refine⟨A1++[fG x],A3,Qq m x.Cask<|some A1.length,?_,?_⟩
   .rfl
   .refine⟨by simp[r.len],λk c h l A=> ?_,?_,λi j ci Q q o g H I=> ?_⟩
    .by_cases e:k < A1.length
     .rw[x8 e] at l
      rw[x8 (by rw[<-r.len];exact e)] at A
      exact(r.each k c h l A).up
     .have p:=(Fm.1 l).1;have u:k=A1.length:=by simp at p;omega
      rw[u,lR<|So _] at l
      rw[u,r.len,lR<|So _] at A
      simp only[qBS,C2,UV] at l A
      subst l;subst A;exact CR.av (c:=fG x) (F:=[]) E N z rfl
    .rw[r.map]
     have o:∀c∈A1,c.number≠x.Cask:=λc l=>by
      obtain⟨k,w⟩:=List.getElem?_of_mem l;have p:=(Fm.1 w).1;have B:all[k]? =some (all[k]'(by rw[<-r.len];exact p)):=B3 _;have:=BQ G _<|S1 B;rw[(r.each k c _ w B).number] at this
      exact this
     have g:=MT (num:=x.Cask) (v:=some A1.length) A1 0 o;simp only[s5] at g
     rw[g];apply lM;intro i;simp only[oi,List.getElem?_append,List.length_mapIdx];by_cases e:i < A1.length
     .simp[e]
     .simp only[e,Bm];by_cases C:i=A1.length
      .subst C;simp[fG]
      .have:∃d,i - A1.length=d+1:=⟨i - A1.length - 1,by omega⟩;obtain⟨d,D⟩:=this;rw[D];simp
    .by_cases e:i < A1.length
     .rw[x8 e] at o
      by_cases C:j < A1.length
      .rw[x8 C] at g
       exact r.apart i j ci Q q o g H I
      .have s:=(Fm.1 g).1;have u:j=A1.length:=by simp at s;omega
       rw[u,lR<|So _] at g
       simp only[qBS,C2,UV] at g
       subst g;cases I
     .have s:=(Fm.1 o).1;have u:i=A1.length:=by simp at s;omega
      rw[u,lR<|So _] at o
      simp only[qBS,C2,UV] at o
      subst o;cases H
end
end
section
open Go.Dec
variable{x:Int}
section
variable{V:Type}
theorem MR{k:Int}{v:V}:∀{l:Q0 (Int×V)},x∈(Qq l k v).map Prod.fst↔x=k∨x∈l.map Prod.fst
 | []=>by simp[Qq]
 | y::l=>by
  simp only[Qq];by_cases e:k=y.1
  .have a:(k==y.1)=true:=by simpa using e
   rw[DO a];simp[e]
  .have a:(k==y.1)=false:=by simpa using e
   rw[a];simp only[W1,Bm,Of,A4,MR (l:=l)];constructor
   .rintro(h | h | h)
    .exact .inr<|.inl h
    .exact .inl h
    .exact .inr<|.inr h
   .rintro(h | h | h)
    .exact .inr<|.inl h
    .exact .inl h
    .exact .inr<|.inr h
def FE(a l:Q0 (Int×V)):Q0 (Int×V):=l.foldl (λa x=>Qq a x.1 x.2) a
theorem Mn:∀{l a:Q0 (Int×V)},(a.map Prod.fst).Nodup->((FE a l).map Prod.fst).Nodup
 | [],_,h=>h
 | x::l,a,h=>Mn (l:=l) (a:=Qq a x.1 x.2)<|Jb h
theorem qZ{x:Int}:∀{l a:Q0 (Int×V)},x∈(FE a l).map Prod.fst↔x∈a.map Prod.fst∨x∈l.map Prod.fst
 | [],a=>by simp[FE]
 | y::l,a=>by
  have:=qZ (x:=x) (l:=l) (a:=Qq a y.1 y.2);have e:FE a (y::l)=FE (Qq a y.1 y.2) l:=rfl;rw[e,this,MR];simp only[Of,A4];constructor
  .rintro((h | h) | h)
   .exact .inr<|.inl h
   .exact .inl h
   .exact .inr<|.inr h
  .rintro(h | h | h)
   .exact .inl<|.inr h
   .exact .inl<|.inl h
   .exact .inr h
theorem E6:∀{l a b:Q0 (Int×V)},b.Perm a->(a.map Prod.fst).Nodup->(FE b l).Perm (FE a l)
 | [],_,_,h,_=>h
 | _x::l,_a,_a',h,c=>E6 (l:=l) (Gb h c)<|Jb c
theorem qa{a:Q0 (Int×V)}{y:Int}{u v:V}(b:(a.map Prod.fst).Nodup)(h:x≠y):(Qq (Qq a x u) y v).Perm (Qq (Qq a y v) x u):=by
 have c:(Qq (Qq a x u) y v).Perm ((y,v)::(x,u)::(a.filter λz=> !(x==z.1)).filter (λz=> !(y==z.1))):=by
  refine(Jv<|Jb b).trans<|.cons _ ?_;refine((Jv b).filter _).trans<|.of_eq ?_;rw[lS,DO<|by simpa using h.symm]
 have d:(Qq (Qq a y v) x u).Perm ((x,u)::(y,v)::(a.filter λz=> !(y==z.1)).filter (λz=> !(x==z.1))):=by
  refine(Jv<|Jb b).trans<|.cons _ ?_;refine((Jv b).filter _).trans<|.of_eq ?_;rw[lS,DO<|by simpa using h]
 refine c.trans<|(List.Perm.swap _ _ _).trans ?_;refine List.Perm.trans (.of_eq ?_) d.symm;congr 2;rw[oM,oM];exact td λz _=>qBL _ _
theorem y7{l l' :Q0 (Int×V)}(h:l'.Perm l):∀{a:Q0 (Int×V)},(a.map Prod.fst).Nodup->(l.map Prod.fst).Nodup->(FE a l').Perm (FE a l):=by
 induction h with
 | nil=>intro a _ _;exact .refl _
 | cons x _ g=>
  intro a c b;simp only[Of,lr] at b
  exact g (Jb c) b.2
 | swap x y l=>
  intro a c b;simp only[Of,lr,A4,not_or] at b
  exact E6 (qa c λe=>b.1.1 e.symm) (Jb<|Jb c)
 | trans j i d f=>
  intro a c b;exact(d c<|(i.map Prod.fst).nodup_iff.2 b).trans<|f c b
end
theorem P3{q j:Nat}(c:q≠j):∀(l:Q0 (Int×Bool)) (s:FM) (a:Q0 (Int×Bool)),s[q]? =some a->VH (Yc (some q) j) l s=some (s.set q<|FE a l)
 | [],s,a,h=>by
  have:=SF h;simp only[VH,FE,List.foldl_nil];rw[<-this]
 | x::l,s,a,h=>by
  have b:=(Fm.1 h).1
  have e:Yc (some q) j x s=some (s.set q<|Qq a x.1 x.2):=by
   unfold Yc bG;simp only[K1,Do c,h,QO]
  simp only[VH,e,K1];rw[P3 c l _ (Qq a x.1 x.2)<|x2 b,lx];rfl
theorem y6{A:FM}{q j:Nat}{a lj:Q0 (Int×Bool)}(d:q≠j)(f:A[q]? =some a)(l:A[j]? =some lj)(m:(a.map Prod.fst).Nodup)(g:(lj.map Prod.fst).Nodup):Wj A (some q) (some j)=some (A.set q<|FE a lj):=by
 unfold Wj;simp only[K1,l]
 have n:Ck Pa (Yc (some q) j) lj A=some (A.set q<|FE a lj):=by
  refine qP (P3 d lj A a f) λl' h=>⟨_,P3 d l' A a f,by simp,λi x y c b=> ?_⟩;have k:=(Fm.1 f).1;by_cases e:q=i
  .subst e;rw[x2 k] at c b
   cases c;cases b;exact y7 h m g
  .rw[sL e] at c b
   rw[c] at b;cases b;exact .refl _
 rw[n,K1];have:(A.set q<|FE a lj)[j]? =some lj:=by rw[sL d];exact l
 rw[<-SF this]
theorem yh(a u:ZP):Ui a u=some ⟨JS a.age u.age,Gz a.woods u.woods,Gz a.places u.places⟩:=by
 obtain⟨c,d,e⟩:=GN (body:=Yw u) (λi (t:ZP)=>((i:Int),t)) (λt=>t) (λi t=>t={a with age:=JS a.age u.age,woods:=ND i a.woods u.woods}) 8
  (λi t hi b=>by
   have f:Qy ((i:Int)+1)=((i+1:Nat):Int):=by rw[Qs hQ hQ];rfl
   have g:(ND i a.woods u.woods) i=a.woods i:=by unfold ND;rw[Do hQ]
   refine⟨_,?_,rfl⟩;unfold Yw;rw[DO ia,H0 hi];simp only[K1,QO,f,b,g];rw[Eg])
  (λt b=>by
   unfold Yw;rw[Do ic]) 8 0 {a with age:=JS a.age u.age} rfl (by rw[uX])
 obtain⟨k,h,j⟩:=GN (body:=Yv u) (λi (t:ZP)=>((i:Int),t)) (λt=>t) (λi t=>t={a with age:=JS a.age u.age,woods:=Gz a.woods u.woods,places:=ND i a.places u.places}) 8
  (λi t hi b=>by
   have f:Qy ((i:Int)+1)=((i+1:Nat):Int):=by rw[Qs hQ hQ];rfl
   have g:(ND i a.places u.places) i=a.places i:=by unfold ND;rw[Do hQ]
   refine⟨_,?_,rfl⟩;unfold Yv;rw[DO ia,H0 hi];simp only[K1,QO,f,b,g];rw[Eg])
  (λt b=>by
   unfold Yv;rw[Do ic]) 8 0 c rfl (by rw[d,uX];rfl)
 unfold Ui;simp only[QO];have l:ZV (Yw u) (0,{a with age:=JS a.age u.age})=some c:=e;have m:ZV (Yv u) (0,c)=some k:=j;refine ZZ l<|ZZ m ?_;rw[h];rfl
end
section
open Go.Dec
variable{A3:FM}
theorem ET{A1:Q0 QM}{k j:Nat}{c:QM}{h so:ZY}{lj:Q0 (Int×Bool)}{tm:ZP}{n:Int}(B:A1[k]? =some c)(a:h=UR c h.Fills)(D:0<=c.amount/\c.amount<=1099511627776)(L:0<=n/\n<=1099511627776)(b:FR A3 c.fills h.Fills)(v:0 < c.amount->h.Fills≠[])
  (E:A3[j]? =some lj) (l:(lj.map Prod.fst).Nodup) (m:∀x,x∈so.Fills↔x∈lj.map Prod.fst) (H:c.fills≠some j) (d:so.C.Age=tm.age/\so.C.Woods=tm.woods/\so.C.Places=tm.places):∃c' A3',Yn A1 A3 (some k) tm (some j) n=some (A1.set k c',A3')/\c'.number=c.number/\c'.since=c.since/\JJ h so n=UR c' (JJ h so n).Fills/\FR A3' c'.fills (JJ h so n).Fills/\
   (∀(q:Nat) f,A3[q]? =some f->c.fills≠some q->A3'[q]? =some f)/\(c'.fills=c.fills∨c'.fills=some A3.length):=by
 have F:=(Fm.1 B).1;have o:h.C.Amount=c.amount:=by rw[a];rfl
 have G:Qy (c.amount+n)=c.amount+n:=Qs hQ hQ;unfold Yn;simp only[K1,B];by_cases e:(c.amount==0)=true
 .have p:(h.C.Amount==0)=true:=by rw[o];exact e
  refine⟨{c with times:=tm,fills:=some A3.length,amount:=c.amount+n},A3++[lj],?_,rfl,rfl,?_,?_,λq f g _=> ?_,.inr rfl⟩
  .simp only[e,B1,Hw,Mp,E,K1,QO,lx,x2 F,G]
  .unfold JJ;rw[DO p];rw[a];simp only[d.1,d.2.1,d.2.2];rfl
  .unfold JJ;rw[DO p];exact⟨lj,by simp,l,m⟩
  .have:=(Fm.1 g).1;rw[x8 this];exact g
 .have r:0 < c.amount:=by
   have:c.amount≠0:=λs=>e (by simp[s]);omega
  have p:¬(h.C.Amount==0)=true:=by rw[o];exact e
  cases i:c.fills with
  | none=>rw[i] at b;exact absurd b (v r)
  | some q=>
   rw[i] at b
   obtain⟨f,t,u,w⟩:=b;have y:q≠j:=λs=>H (by rw[i,s]);have z:=(Fm.1 t).1;refine⟨{c with times:=⟨JS c.times.age tm.age,Gz c.times.woods tm.woods,Gz c.times.places tm.places⟩,amount:=c.amount+n},A3.set q<|FE f lj,?_,rfl,rfl,?_,?_,λM I g A=> ?_,.inl i⟩
   .simp only[e,Bm,W1,yh,K1,QO,i,y6 y t E u l,x2 F,lx,G]
   .unfold JJ;rw[Do p];have g:h.C.Age=c.times.age:=by rw[a];rfl
    have A:h.C.Woods=c.times.woods:=by rw[a];rfl
    have K:h.C.Places=c.times.places:=by rw[a];rfl
    simp only[d.1,d.2.1,d.2.2,g,A,K]
    conv=>lhs;rw[a]
    rfl
   .unfold JJ;rw[Do p];show FR _ c.fills (It h.Fills so.Fills);rw[i];refine⟨FE f lj,x2 z,Mn u,λx=> ?_⟩;rw[BL,qZ,w,m]
   .rw[sL λs=>A<|by rw[s]];exact g
section
variable{t:Int}{n:Nat}{all:Q0 ZY}{A1:Q0 QM}{A3:FM}{m:Q0 (Int×Q2 Nat)}{b:Qn}{x:Ev}
theorem uq{q:Nat}{F:Q0 Int}(h:FR A3 (some q) F):q < A3.length:=by
 obtain⟨l,a,_⟩:=h;exact(Fm.1 a).1
theorem P5(r:PR t n all A1 A3 m)(ho:Ah t n all)(h0:0<=t)(ht:t<=65536)(hb:b.casks=some 0)(W:b.event=n)(hv:XN x=true)(X:x.Kind=1)(hd:x.Day=t):X5 t n (DT all x n) (Vs A1 [b] A3 [m] (some 0) x):=by
 unfold Vs DT;rw[Do (by rw[X];decide),hd];rcases Xw (num:=x.Cask) r hQ hb with⟨Y,Z⟩ | ⟨k,h,c,Y,D,aI,s,A,hs,f,u,Z⟩
 .rw[Y,Z];exact⟨rfl,by decide⟩
 .rw[Y,Z];simp only[D,Q5,K1,A,QO];have E:XO all k h x n=Ax all k h x n:=by unfold XO;rw[X];rfl
  rw[E];have F:=s.each k c h A D;have v:h.C.Amount=c.amount:=by rw[f];rfl
  have g:h.C.Room=c.room:=by rw[f];rfl
  have G:=u.amt;have w:=u.room;rw[v,g] at G
  rw[g] at w
  have ha:=DF hv<|.inl X;have hw:Qy (c.amount+x.Amount)=c.amount+x.Amount:=Qs hQ hQ;have d:=λl' (aA:Ax all k h x n= .inl l')=>jg ho h0 D ha.1 aA;unfold Ax at d ⊢
  rw[v,g] at d ⊢
  rw[hw];by_cases p:c.amount+x.Amount > c.room
  .have e:decide (c.amount+x.Amount<=c.room)=false:=nt hQ;simp only[p,e,B1];exact⟨rfl,by decide⟩
  .have e:decide (c.amount+x.Amount<=c.room)=true:=aT hQ;simp only[p,Bm] at d
   simp only[p,e,Bm];have H:=d _ rfl;have I:∀q,c.fills=some q->q < A3.length:=λq B=>uq (by rw[<-B];exact F.fills);have K:FR (A3++[[((n:Int),true)]]) c.fills h.Fills:=F.fills.keep λq B=>x8<|I q B
   obtain⟨c',A3',S,aB,aC,L,aD,aE,l⟩:=ET (A3:=A3++[[((n:Int),true)]]) (j:=A3.length) (lj:=[((n:Int),true)]) (so:=Gd n) (tm:=⟨0,zN,zN⟩) (n:=x.Amount) A f hQ hQ K (λS=>by rw[<-v] at S;exact u.some S)
    ic ic (λy=>by simp[Gd]) (λe=>by have:=I _ e;omega) ⟨rfl,rfl,rfl⟩
   have M:Yn (A1.set k c) (A3++[Qq [] b.event true]) (some k) (ZP.mk 0 (λ_=>0) λ_=>0) (some A3.length) x.Amount=some ((A1.set k c).set k c',A3'):=by rw[W];exact S
   have N:JJ h (Gd n) x.Amount∈all.set k (JJ h (Gd n) x.Amount):=S1<|x2 (Fm.1 D).1;have aF:=H.each _ N
   have P:X5 t n (.inl<|all.set k<|JJ h (Gd n) x.Amount) (some<|.ok ((A1.set k c).set k c',A3',[m])):=by
    refine⟨_,_,_,rfl,?_⟩;refine s.set A D aB ?_ (λi ci hi z p T=> ?_) λi ci q z p T V=> ?_
    .rw[L];refine CR.av h0 (by rw[aC];exact hs) (by rw[<-L];exact aF) ?_;exact aD
    .have a:=(s.each i ci hi p T).up;refine⟨a.since,a.ok,a.eq,a.fills.keep λq B=> ?_⟩;have Q:=a.fills;rw[B] at Q
     obtain⟨lq,g1,_⟩:=Q;have R:=(Fm.1 g1).1;rw[g1];exact aE q lq (by rw[x8 R];exact g1) λe=>z<|s.apart i k ci c q p A B e
    .have a:=(s.each i ci _ p<|B3 (show i < all.length by rw[<-s.len];exact(Fm.1 p).1)).fills;rw[T] at a
     have:=uq a;rcases l with l | l
     .rw[l] at V;exact z<|s.apart i k ci c q p A T V
     .rw[l] at V
      simp only[UV,bY,L4,qs] at V
      omega
   show X5 t n _ ((Yn (A1.set k c) (A3++[Qq [] b.event true]) (some k) (ZP.mk 0 (λ_=>0) λ_=>0) (some A3.length) x.Amount).bind λo=>some<|.ok (o.1,o.2,[m]));rw[M,K1];exact P
theorem yT(r:PR t n all A1 A3 m)(ho:Ah t n all)(h0:0<=t)(ht:t<=65536)(hb:b.casks=some 0)(hv:XN x=true)(hk:x.Kind=2)(hd:x.Day=t):X5 t n (DT all x n) (Vq A1 [b] A3 [m] (some 0) x):=by
 unfold Vq DT;rw[Do (by rw[hk];decide),hd];rcases Xw (num:=x.Cask) r hQ hb with⟨hf,hm⟩ | ⟨i,h,c,hf,W,au,hr,hc,hs,d,F,hm⟩
 .rw[hf,hm];exact⟨rfl,by decide⟩
 .rw[hf,hm];have X:XO all i h x n=Al all i h x:=by unfold XO;rw[hk];rfl
  simp only[W,X];have a:=λl' (ha:1<=x.Amount) (aS:Al all i h x= .inl l')=>jO ho h0 W ha aS;have ha:=DF hv<|.inr<|.inl hk;have a:=λl' =>a l' ha.1;unfold Al at a ⊢
  simp only[Q5];rcases Xw (num:=x.Other) hr hQ hb with⟨G,Q⟩ | ⟨k,g,o,G,H,aU,l,p,aV,f,v,Q⟩
  .rw[G,Q];exact⟨rfl,by decide⟩
  .rw[G,Q];rw[G] at a
   simp only[H] at a ⊢
   have bF:i < A1.length:=by have:=(Fm.1 hc).1;simpa using this
   by_cases s:i=k
   ·
     subst s;have w:((A1.set i c).set i o)[i]? =some o:=p;simp only[K1,w];have e1:(i != i)=false:=by simp
     have e2:(i==i)=true:=by simp
     unfold Pn;simp only[e1,e2,B1];exact⟨rfl,by decide⟩
   . have w:((A1.set i c).set k o)[i]? =some c:=by rw[sL λe=>s e.symm];exact hc
     simp only[K1,w,p];have e1:(i != k)=true:=by simpa using s
     have e2:(i==k)=false:=by simpa using s
     have aY:=l.each i c h w W;have aZ:=l.each k o g p H;have a1:h.C.Owner=c.owner:=by rw[d];rfl
     have a2:h.C.Creditor=c.creditor:=by rw[d];rfl
     have a3:h.C.Amount=c.amount:=by rw[d];rfl
     have b1:g.C.Owner=o.owner:=by rw[f];rfl
     have b2:g.C.Creditor=o.creditor:=by rw[f];rfl
     have b3:g.C.Amount=o.amount:=by rw[f];rfl
     have b4:g.C.Room=o.room:=by rw[f];rfl
     have Y:=F.amt;have ae:=F.room;have y:=F.cred;have Z:=v.amt;have R:=v.room;have z:=v.cred;rw[a2] at y;rw[b2] at z;rw[b3,b4] at Z;rw[b4] at R;rw[a3] at Y
     unfold Pn at a ⊢
     rw[a1,a2,a3,b1,b2,b3,b4] at a ⊢
     simp only[e1,e2,W1,Bm,wC y.1,wC z.1] at a ⊢
     have bI:Zh false 11=some (.pan ⟨11⟩):=rfl;have n0:∀e,Zh true e=some (.ok ()):=λ_=>rfl;have nf:∀e,Zh false e=some (.pan ⟨e⟩):=λ_=>rfl;by_cases c1:c.owner=o.owner
     .have f1:(c.owner==o.owner)=true:=by simpa using c1
      have f2:(c.owner != o.owner)=false:=by simpa using c1
      simp only[f1,f2,B1,oS,n0] at a ⊢
      by_cases c2:c.creditor≥0
      .simp only[c2,lL,RW,qAz,B1,W1,Bm,nf,K1];exact⟨rfl,by decide⟩
      .simp only[c2,lP,u1,oS,B1] at a ⊢
       by_cases c3:o.creditor≥0
       .simp only[c3,lL,RW,B1,nf,K1];exact⟨rfl,by decide⟩
       .simp only[c3,lP,u1,n0,K1,W1,Bm] at a ⊢
        by_cases c4:c.amount < x.Amount
        .have g1:decide (c.amount≥x.Amount)=false:=nt hQ;simp only[c4,g1,B1,nf];exact⟨rfl,by decide⟩
        .have g1:decide (c.amount≥x.Amount)=true:=aT hQ;simp only[c4,g1,Bm,n0] at a ⊢
         have hw:Qy (o.amount+x.Amount)=o.amount+x.Amount:=Qs hQ hQ;rw[hw];by_cases c5:o.amount+x.Amount > o.room
         .have g2:decide (o.amount+x.Amount<=o.room)=false:=nt hQ;simp only[c5,g2,B1,nf];exact⟨rfl,by decide⟩
         .have g2:decide (o.amount+x.Amount<=o.room)=true:=aT hQ;simp only[c5,g2,Bm,n0] at a ⊢
          have N:=a _ rfl;have I:=aY.fills;cases S:c.fills with
          | none=>
           rw[S] at I
           exact absurd I (F.some (by rw[a3];omega))
          | some j=>
           rw[S] at I
           obtain⟨lj,hj,aj,ak⟩:=I
           obtain⟨o',A3',hp,al,an,aC,ao,aq,A⟩:=ET (A3:=A3) (j:=j) (lj:=lj) (so:=h) (tm:=c.times) (n:=x.Amount) p f hQ hQ aZ.fills λhp=>by rw[<-b3] at hp;exact v.some hp
            hj aj ak (λe=>s<|l.apart i k c o j w p S e) ⟨by rw[d];rfl,by rw[d];rfl,by rw[d];rfl⟩
           have K:(((A1.set i c).set k o).set k o')[i]? =some c:=by rw[sL λe=>s e.symm];exact w
           rw[hp,K1];simp only;rw[Fj K hQ hQ,K1];have bK:j < A3.length:=(Fm.1 hj).1;have T:=(Fm.1 H).1;have aD:JJ g h x.Amount∈(all.set k<|JJ g h x.Amount).set i (VF h x.Amount):=S1 (i:=k) (by rw[sL s];exact x2 T);have aE:=N.each _ aD;have V:VF h x.Amount∈(all.set k<|JJ g h x.Amount).set i (VF h x.Amount):=S1 (i:=i) (x2<|by simpa using(Fm.1 W).1);have aF:=N.each _ V
           have L:PR t (n+1) (all.set k<|JJ g h x.Amount) (((A1.set i c).set k o).set k o') A3' m:=by
            refine l.set p H al ?_ (λD ci hi B E P=> ?_) λD ci q B E P M=> ?_
            .rw[aC];refine CR.av h0 (by rw[an];exact aV) (by rw[<-aC];exact aE) ?_;exact ao
            .have u:=(l.each D ci hi E P).up;refine⟨u.since,u.ok,u.eq,u.fills.keep λq hq=> ?_⟩;have aG:=u.fills;rw[hq] at aG
             obtain⟨lq,aH,_⟩:=aG;rw[aH];exact aq q lq aH λe=>B<|l.apart D k ci o q E p hq e
            .have u:=(l.each D ci _ E<|B3 (show D < all.length by rw[<-l.len];exact(Fm.1 E).1)).fills;rw[P] at u
             have bM:=uq u;rcases A with A | A
             .rw[A] at M;exact B<|l.apart D k ci o q E p P M
             .rw[A] at M
              simp only[UV] at M
              omega
           refine⟨_,_,_,rfl,?_⟩;have aI:(all.set k<|JJ g h x.Amount)[i]? =some h:=by rw[sL λe=>s e.symm];exact W
           have aJ:=L.each i c h K aI;have aK:VF h x.Amount=UR (FD c x.Amount) (VF (UR c h.Fills) x.Amount).Fills:=by rw[<-qJ,<-d]
           refine L.set K aI R1 ?_ (λD ci hi _ E P=>L.each D ci hi E P) λD ci q B E P M=> ?_
           .rw[aK];refine CR.av h0 (by rw[Mi];exact hs) (by rw[<-aK];exact aF)<|jl aJ.fills
           .rcases Mj (c:=c) (n:=x.Amount) with e | e
            .rw[e] at M;exact B<|L.apart D i ci c q E K P M
            .rw[e] at M;cases M
     .have f1:(c.owner==o.owner)=false:=by simpa using c1
      have f2:(c.owner != o.owner)=true:=by simpa using c1
      simp only[f1,f2,B1,qAz,W1,Bm,n0,nf,K1];exact⟨rfl,by decide⟩
end
end
section
open Go.Dec
variable{l:Q0 Ev}{day:Int}
theorem jH(x:Ev):Xd x=some (XN x):=by
 have e:∀n a b,YQ n a b=XB n a b:=λ_ _ _=>rfl;unfold Xd U7 WR Uj VU YW XN;simp only[e];cases o:XB x.Day 0 65536 with
 | false=>simp
 | true=>
  cases p:XB x.Cask 0 1073741824 with
  | false=>simp
  | true=>
   simp only[RW,qA0,W1,Bm,ln];by_cases c:(x.Kind==0)=true
   .rw[DO c,DO c]
   .rw[Do c,Do c];by_cases d:(x.Kind==1)=true
    .simp[d]
    .simp only[sf] at d
     by_cases k:(x.Kind==3)=true
     .simp[d,k]
     .simp only[sf] at k
      simp only[d,k,qA0,W1,Bm,K1];by_cases f:(x.Kind==2)=true
      .rw[DO f,DO f]
      .rw[Do f,Do f];by_cases g:(x.Kind==4)=true
       .rw[DO g,DO g]
       .rw[Do g,Do g];by_cases h:(x.Kind==5)=true
        .simp[h]
        .simp only[sf] at h
         by_cases m:(x.Kind==6)=true
         .simp[h,m]
         .simp only[sf] at m
          simp only[h,m,qA0,W1,Bm,K1];by_cases i:(x.Kind==7)=true
          .rw[DO i,DO i]
          .rw[Do i,Do i];by_cases j:(x.Kind==8)=true
           .rw[DO j,DO j]
           .rw[Do j,Do j]
abbrev Deed:=((Q0 QM)×(Q0 Qn)×FM×(Q0<|Q0<|Int×(Q2 Nat))×(Q2 Nat)×Ev)->Q2 (Out Zo<|(Q0 QM)×FM×(Q0<|Q0<|Int×(Q2 Nat)))
theorem TS:∃D:Q0 (Int×Deed),FQ=some D/\∀(x:Ev),XN x=true->∃f,QZ D x.Kind=some f/\
  ∀{t:Int} {n:Nat} {all:Q0 ZY} {A1:Q0 QM} {A3:FM} {m:Q0 (Int×Q2 Nat)} {b:Qn},PR t n all A1 A3 m->Ah t n all->0<=t->t<=65536->b.casks=some 0->b.event=n->x.Day=t->X5 t n (DT all x n) (f (A1,[b],A3,[m],some 0,x)):=by
 refine⟨_,rfl,λx g=> ?_⟩;rcases kinds g with k | k | k | k | k | k | k | k | k<;>rw[k]
 .exact⟨_,rfl,λr h a e c _ d=>ku r h a c g k d⟩
 .exact⟨_,rfl,λr h a e c i d=>P5 r h a e c i g k d⟩
 .exact⟨_,rfl,λr h a e c _ d=>yT r h a e c g k d⟩
 .exact⟨_,rfl,λr _ a e c _ d=>kf r a e c g k d⟩
 .exact⟨_,rfl,λr _ a e c _ d=>kq r a e c g k d⟩
 .exact⟨_,rfl,λr _ a e c _ d=>yH r a e c g k d⟩
 .exact⟨_,rfl,λr _ a e c _ d=>qL r a e c g k d⟩
 .exact⟨_,rfl,λr _ a e c _ d=>yt r a e c g k d⟩
 .exact⟨_,rfl,λr _ a e c _ d=>vA r a e c g k d⟩
section
variable{D:Q0 (Int×Deed)}
def jx(D:Q0 (Int×Deed)):Prop:=∀(x:Ev),XN x=true->∃f,QZ D x.Kind=some f/\
 ∀{t:Int} {n:Nat} {all:Q0 ZY} {A1:Q0 QM} {A3:FM} {m:Q0 (Int×Q2 Nat)} {b:Qn},PR t n all A1 A3 m->Ah t n all->0<=t->t<=65536->b.casks=some 0->b.event=n->x.Day=t->X5 t n (DT all x n) (f (A1,[b],A3,[m],some 0,x))
theorem yB(A:jx D){n:Nat}{s:FA}{x:Ev}{A1:Q0 QM}{A3:FM}{m:Q0 (Int×Q2 Nat)}{b:Qn}(t:l[n]? =some x)(M:n<=4096)(u:Xz n s)(B:PR s.last n s.all A1 A3 m)(C:b.casks=some 0)(E:x.Day<=day):match YL n s x with
  | .inl k=>∃c A3' j,YT l day D ((n:Int),s.last,A1,[b],A3,[m])=some (.next (((n+1:Nat):Int),k.last,c,[⟨some 0,n⟩],A3',[j]))/\PR k.last (n+1) k.all c A3' j
  | .inr e=>YT l day D ((n:Int),s.last,A1,[b],A3,[m])=some (.done<|.inr (⟨e⟩,(n:Int),0,some 0))/\e≠0:=by
 have F:n < l.length:=(Fm.1 t).1;have G:Qy ((n:Int)+1)=((n+1:Nat):Int):=by rw[Qs hQ hQ];rfl
 have H:decide ((n:Int) < (l.length:Int))=true:=aT hQ;have v:∀e,Zh true e=some (.ok ()):=λ_=>rfl;have w:∀e,Zh false e=some (.pan ⟨e⟩):=λ_=>rfl;unfold YT YL;simp only[H,B1,Zq,t,K1,E,lL,jH];cases y:XN x with
 | false=>
  simp only[u1,B1,w,Q5];exact⟨trivial,by decide⟩
 | true=>
  simp only[RW,W1,Bm,v,Q5];by_cases g:x.Day < s.last
  .have e:decide (x.Day≥s.last)=false:=nt hQ;simp only[g,e,B1,w];exact⟨trivial,by decide⟩
  .have e:decide (x.Day≥s.last)=true:=aT hQ;simp only[g,e,Bm,v];have d:=cQ y;have I:=u.day;obtain⟨f,K,o⟩:=A x y;have h:=AF u.ok (n:=x.Day - s.last) hQ;have L:s.last+(x.Day - s.last)=x.Day:=by omega
   rw[L] at h
   have a:=o (b:=⟨some 0,(n:Int)⟩) (B.shift (t' :=x.Day) hQ) h d.1 d.2 rfl rfl rfl;have p:({b with event:=(n:Int)}:Qn)=⟨some 0,n⟩:=by rw[<-C]
   simp only[C2,K1,QO,lb,p,K];cases i:DT (s.all.map<|Kj<|x.Day - s.last) x n with
   | inl z=>
    rw[i] at a
    obtain⟨c,A3',j,q,r⟩:=a;rw[q];simp only[G];exact⟨c,A3',j,rfl,r⟩
   | inr er=>
    rw[i] at a
    obtain⟨q,r⟩:=a;rw[q];exact⟨rfl,r⟩
theorem ED{n:Nat}{last:Int}{A1:Q0 QM}{b:Q0 Qn}{A3:FM}{c:Q0 (Q0<|Int×Q2 Nat)}(h:∀x,l[n]? =some x->¬x.Day<=day)(g:n<=l.length):YT l day D ((n:Int),last,A1,b,A3,c)=some (.done<|.inl ((n:Int),A1,b,A3,c)):=by
 unfold YT;cases a:l[n]? with
 | none=>
  have:¬(n:Int) < (l.length:Int):=by
   have:=qAO.1 a;omega
  simp[this]
 | some x=>
  have d:n < l.length:=(Fm.1 a).1;have e:decide ((n:Int) < (l.length:Int))=true:=aT hQ;have f:decide (x.Day<=day)=false:=nt<|h x a;simp only[e,B1,Zq,a,K1,f,W1,Bm]
theorem Ej(o:jx D){l:Q0 Ev}{day:Int}(q:l.length<=4096):∀(post pre:Q0 Ev) (s:FA) (A1:Q0 QM) (A3:FM) (m:Q0 (Int×Q2 Nat)) (b:Qn),l=pre++post->Xz pre.length s->PR s.last pre.length s.all A1 A3 m->b.casks=some 0->
  match Hj day post pre.length s with
  | (.inl f,k)=>∃c A3' g b',ZV (YT l day D) ((pre.length:Int),s.last,A1,[b],A3,[m])=some (.inl ((k:Int),c,[b'],A3',[g]))/\PR f.last k f.all c A3' g/\b'.casks=some 0
  | (.inr e,k)=>ZV (YT l day D) ((pre.length:Int),s.last,A1,[b],A3,[m])=some (.inr (⟨e⟩,(k:Int),0,some 0))/\e≠0
 | [],pre,s,A1,A3,m,b,e,n,h,i=>by
  simp only[Hj];refine⟨A1,A3,m,b,?_,h,i⟩;rw[ZK,ED (λx d=>by rw[e] at d;simp at d) (by rw[e];simp)]
 | x::post,pre,s,A1,A3,m,b,e,n,h,i=>by
  have d:l[pre.length]? =some x:=YJ e;have r:pre.length<=4096:=by have:=Xf e;omega
  rw[ZK];by_cases j:x.Day<=day
  .have a:=yB o d r n h i j;simp only[Hj,j,B1];cases hs:YL pre.length s x with
   | inl f=>
    rw[hs] at a
    obtain⟨c,A3',g,t,u⟩:=a;rw[t];have v:=Ej o (day:=day) q post (pre++[x]) f c A3' g ⟨some 0,(pre.length:Int)⟩ (by rw[e];simp) (by simpa using(Bw n hs).1) (by simpa using u) rfl;simpa using v
   | inr er=>
    rw[hs] at a
    rw[a.1];exact⟨rfl,a.2⟩
  .rw[ED (λy p=>by rw[d] at p;cases p;exact j) (by have:=Xf e;omega)];simp only[Hj,j,Bm];exact⟨A1,A3,m,b,rfl,h,i⟩
end
end
section
open Go.Dec
section
variable{t day:Int}{n:Nat}{all:Q0 ZY}{A1:Q0 QM}{A3:FM}{m:Q0 (Int×Q2 Nat)}
theorem Ew(a:day<=1000000)(d:∀(k:Nat) (c:QM),A1[k]? =some c->0<=c.since/\c.since<=day/\∃F,Nc c.since n<|UR c F):∀(L:Q0 (Int×Q2 Nat)) (s:Q0 QM),(∀e∈L,∃k,e.2=some k/\k < A1.length)->(L.map Prod.snd).Nodup->s.length=A1.length->(∀k,some k∈L.map Prod.snd->s[k]? =A1[k]?)->
  ∃f,VH (WW day) L s=some f/\f.length=A1.length/\∀i:Nat,f[i]? =if some i∈L.map Prod.snd then(A1[i]?).map (XV day) else s[i]?
 | [],s,_,_,p,_=>⟨s,rfl,p,λi=>by simp⟩
 | e::L,s,w,y,p,hs=>by
  obtain⟨k,g,j⟩:=w e ic
  have l:some k∉L.map Prod.snd/\(L.map Prod.snd).Nodup:=by
   have:=lr.1 y;rw[g] at this;exact this
  have q:A1[k]? =some A1[k]:=B3 j;have r:s[k]? =some A1[k]:=by rw[hs k<|by simp[g]];exact q
  obtain⟨z,A,F,B⟩:=d k _ q
  have C:WW day e s=some (s.set k<|XV day A1[k]):=by
   unfold WW;rw[g,EM r B z A a];rfl
  obtain⟨f,D,E,G⟩:=Ew a d L (s.set k<|XV day A1[k]) (λb u=>w b<|L3 _ u) l.2 (by simpa using p) λx o=>by
   have v:k≠x:=λb=>l.1 (by rw[b];exact o);rw[sL v];exact hs x (by rw[Of];exact L3 _ o)
  refine⟨f,by simp only[VH,C,K1];exact D,E,λi=> ?_⟩;rw[G i];by_cases hi:some i∈L.map Prod.snd
  .rw[DO hi,DO (by rw[Of];exact L3 _ hi)]
  .rw[Do hi];by_cases b:k=i
   .subst b;rw[x2 (by rw[p];exact j),DO (by simp[g]),q];rfl
   .rw[sL b,Do];rw[Of,A4,g];rintro(h | h)
    .exact b<|by simpa using h.symm
    .exact hi h
theorem uG(r:PR t n all A1 A3 m)(G:t<=day)(A:day<=65536):SN (WW day) m A1=some (A1.map<|XV day)/\PR day n (all.map<|Kj<|day - t) (A1.map<|XV day) A3 m/\∀c∈A1.map (XV day),c.since=day:=by
 have l:∀(k:Nat) (c:QM),A1[k]? =some c->∃h,all[k]? =some h/\CR t n A3 c h:=λk c g=>by
  have B:k < all.length:=by rw[<-r.len];exact(Fm.1 g).1
  exact⟨all[k],B3 B,r.each k c _ g<|B3 B⟩
 have u:m.map Prod.snd=(List.range A1.length).map some:=by
  rw[r.map];apply lM;intro i;simp only[tb,oi];by_cases h:i < A1.length
  .simp[h]
  .simp[h]
 refine⟨qO λl' y=> ?_,⟨by simp[r.len],λk c h g w=> ?_,?_,λi j ci L q d f C D=> ?_⟩,λc g=> ?_⟩
 .have E:=y.map Prod.snd
  have p:∀o,o∈l'.map Prod.snd↔∃i,i < A1.length/\o=some i:=λo=>by
   rw[E.mem_iff,u];simp only[lX,ll];exact⟨fun⟨i,d,f⟩=>⟨i,d,f.symm⟩,fun⟨i,d,f⟩=>⟨i,d,f.symm⟩⟩
  obtain⟨M,v,x,H⟩:=Ew (day:=day) (A1:=A1) (n:=n) hQ (λk c g=>by
   obtain⟨h,_,s⟩:=l k c g
   exact⟨s.since.1,by have:=s.since.2;omega,_,s.ok⟩) l' A1 (λe he=>by
    obtain⟨i,d,f⟩:=(p e.2).1<|wt he;exact⟨i,f,d⟩) (E.nodup_iff.2 (by rw[u];exact List.nodup_range.map _ λa b z e=>z<|by simpa using e)) rfl λ_ _=>rfl
  rw[v];congr 1;apply lM;intro i;rw[H i,tb];by_cases h:i < A1.length
  .rw[DO<|(p _).2 ⟨i,h,rfl⟩]
  .rw[Do (λh' =>by
    obtain⟨N,d,f⟩:=(p _).1 h';simp only[UV] at f
    omega),lZ hQ]
   rfl
 .rw[tb] at g w
  cases d:A1[k]? with
  | none=>rw[d] at g;cases g
  | some F=>
   obtain⟨P,f,s⟩:=l k F d;rw[d] at g;rw[f] at w
   simp only[RK,UV] at g w
   subst g;subst w;exact(s.shift G).rest
 .rw[r.map];apply lM;intro i;simp only[oi,tb];cases A1[i]? with
  | none=>rfl
  | some c=>simp[Rl]
 .rw[tb] at d f
  cases v:A1[i]? with
  | none=>rw[v] at d;cases d
  | some I=>
   cases x:A1[j]? with
   | none=>rw[x] at f;cases f
   | some K=>
    rw[v] at d;rw[x] at f
    simp only[RK,UV] at d f
    subst d;subst f;rw[SG] at C D
    exact r.apart i j I K q v x C D
 .obtain⟨F,_,rfl⟩:=lX.1 g;exact XU
end
theorem PR.start:PR 0 0 [] [] [] []:=⟨rfl,λ_ _ _ h=>by simp at h,rfl,λ_ _ _ _ _ h=>by simp at h⟩
def Ik(day:Int)(r:(Q0 ZY ⊕ Int)×Nat)(o:Q2 ((Q2 Nat)×Int×Int×(Q0 QM)×(Q0 Qn)×FM×(Q0<|Q0<|Int×Q2 Nat))):Prop:=match r with
 | (.inl all,k)=>∃A1 b A3 m,o=some (some 0,(k:Int),0,A1,[b],A3,[m])/\b.casks=some 0/\PR day k all A1 A3 m/\(∀c∈A1,c.since=day)/\Ah day k all/\k<=4096/\0<=day/\day<=65536
 | (.inr e,k)=>o=some (none,(k:Int),e,[],[],[],[])/\e≠0
theorem GJ(l:Q0 Ev)(day:Int):Ik day (JV l day) (Xc l day):=by
 obtain⟨D,p,g⟩:=TS;unfold Xc JV;by_cases j:l.length > 4096
 .have:decide ((l.length:Int) > 4096)=true:=aT hQ;simp only[this,j,B1];exact⟨rfl,by decide⟩
 .have:decide ((l.length:Int) > 4096)=false:=nt hQ;simp only[this,j,Bm,W1];have e:YQ day 0 65536=XB day 0 65536:=rfl;rw[e];cases q:XB day 0 65536 with
  | false=>exact⟨rfl,by decide⟩
  | true=>
   have b:=J2.1 q;simp only[RW,W1,Bm,QO,p,K1,lQ];have a:=Ej (D:=D) g (l:=l) (day:=day) hQ l [] ⟨[],0⟩ [] [] [] ⟨some 0,0⟩ rfl Xz.start PR.start rfl;unfold AV;cases m:Hj day l 0 ⟨[],0⟩ with
   | mk r k=>
    have h:Hj day l ([]:Q0 Ev).length ⟨[],0⟩=(r,k):=m;rw[h] at a
    cases r with
    | inl f=>
     obtain⟨i,A3',s,b',t,u,o⟩:=a;obtain⟨v,w,A,B⟩:=Eu l 0 ⟨[],0⟩ f k Xz.start (by show(0:Int)<=day;omega) m;have c:ZV (YT l day D) (0,0,[],[⟨some 0,0⟩],[],[[]])=_:=t;obtain⟨x,y,z⟩:=uG u w b.2;have d:=AF v.ok (n:=day - f.last) hQ;rw[show f.last+(day - f.last)=day by omega] at d
     refine⟨i.map<|XV day,b',A3',s,?_,o,y,z,d,by omega,b.1,b.2⟩;rw[c,K1];simp only[C2,K1,o,x]
    | inr er=>
     have c:ZV (YT l day D) (0,0,[],[⟨some 0,0⟩],[],[[]])=_:=a.1;refine⟨?_,a.2⟩;rw[c,K1]
end
section
open Go.Dec
variable{all:Q0 ZY}
def zC:Za:=⟨0,0,0,0,0,0,0,0,zN,zN⟩
def Jk(all:Q0 ZY)(num:Int):Q2 ZY:=(Z1 all num).bind λi=>all[i]?
def SC(l:Q0 Ev)(num day:Int):Za×Int:=match(JV l day).1 with
 | .inr e=>(zC,e)
 | .inl all=>match Jk all num with
  | none=>(zC,4)
  | some h=>(h.C,0)
def Nx(l:Q0 Ev)(num day:Int):Q0 Int×Int:=match(JV l day).1 with
 | .inr e=>([],e)
 | .inl all=>match Jk all num with
  | none=>([],4)
  | some h=>(h.Fills,0)
theorem AD{l:Q0 Ev}{day e:Int}{k:Nat}(h:JV l day=(.inr e,k)):e≠0:=by
 have:=GJ l day;rw[h] at this
 exact this.2
theorem SL{l:Q0 Ev}{day:Int}{k:Nat}(h:JV l day=(.inl all,k)):Ah day k all/\k<=4096/\0<=day/\day<=65536:=by
 have:=GJ l day;rw[h] at this
 obtain⟨_,_,_,_,_,_,_,_,a,b,c,d⟩:=this;exact⟨a,b,c,d⟩
theorem CR.now{t:Int}{n:Nat}{A3:FM}{c:QM}{h:ZY}(r:CR t n A3 c h)(hs:c.since=t):h=UR c h.Fills:=by
 have:=r.eq;rw[hs,qAG,AG] at this
 exact this
theorem P4{num:Int}{i:Nat}(h:Z1 all num=some i):∃a,all[i]? =some a/\Jk all num=some a:=by
 obtain⟨a,b,_⟩:=Hb h;exact⟨a,b,by simp[Jk,h,b]⟩
theorem PR.look{t:Int}{n:Nat}{A1:Q0 QM}{A3:FM}{m:Q0 (Int×Q2 Nat)}(r:PR t n all A1 A3 m)(hs:∀c∈A1,c.since=t){i:Nat}{h:ZY}(b:all[i]? =some h):∃c,A1[i]? =some c/\h=UR c h.Fills/\FR A3 c.fills h.Fills:=by
 have hi:i < A1.length:=by rw[r.len];exact(Fm.1 b).1
 have d:A1[i]? =some A1[i]:=B3 hi;have a:=r.each i _ h d b;exact⟨_,d,a.now<|hs _<|qA4 _,a.fills⟩
theorem gE(l:Q0 Ev)(num day:Int):BM l num day=some (SC l num day):=by
 have d:=GJ l day;unfold BM SC;cases f:JV l day with
 | mk r k=>
  rw[f] at d
  cases r with
  | inr e=>
   rw[d.1,K1];have:(e != 0)=true:=by simpa using d.2
   simp only[this,B1];rfl
  | inl all=>
   obtain⟨A1,b,A3,m,o,p,j,hs,_⟩:=d;rw[o,K1];have q:((0:Int) != 0)=false:=rfl;simp only[q,W1,Bm,K1,C2,p,j.get];cases n:Z1 all num with
   | none=>simp[Jk,n];rfl
   | some i=>
    obtain⟨h,s,g⟩:=P4 n;obtain⟨c,t,a,_⟩:=j.look hs s;simp only[o6,W1,Bm,g];unfold Y7;simp only[K1,t];have:h.C=(UR c h.Fills).C:=by rw[<-a]
    rw[this];rfl
end
section
open Go.Dec
def Ec(all:Q0 ZY):Q0 Int:=(all.map (·.C.Number)).mergeSort λa b=>decide<|a<=b
def bV(all:Q0 ZY):Q0 ZY:=(Ec all).filterMap<|Jk all
theorem Eb(all:Q0 ZY):(Ec all).Perm (all.map (·.C.Number)):=qAE _ _
theorem xa{all:Q0 ZY}{num:Int}(h:num∈all.map (·.C.Number)):∃i a,Z1 all num=some i/\all[i]? =some a/\Jk all num=some a/\a.C.Number=num:=by
 cases b:Z1 all num with
 | none=>
  obtain⟨x,f,e⟩:=lX.1 h;exact absurd e (BQ b x f)
 | some i=>
  obtain⟨a,c,g⟩:=P4 b;obtain⟨h',d,j⟩:=Hb b;rw[c] at d;cases d
  exact⟨i,a,rfl,c,g,j⟩
section
variable{t:Int}{n:Nat}{all:Q0 ZY}{A1:Q0 QM}{A3:FM}{m:Q0 (Int×Q2 Nat)}{b:Qn}
theorem xS(r:PR t n all A1 A3 m)(d:Ah t n all):FC m=some (Ec all):=by
 have c:m.map Prod.fst=all.map (·.C.Number):=by
  rw[r.map];apply lM;intro i;simp only[tb,oi];by_cases h:i < A1.length
  .have g:i < all.length:=by rw[<-r.len];exact h
   rw[B3 h,B3 g];simp only[RK];rw[(r.each i _ _ (B3 h)<|B3 g).number]
  .rw[lZ hQ,lZ (by rw[<-r.len];omega)];rfl
 have o:m.length=all.length:=by rw[<-qAD (f:=Prod.fst),c,qAD]
 have a:m.all (λx=>decide<|-9223372036854775808<=x.1/\x.1<=9223372036854775807)=true:=IN.2 λx j=>by
  have k:x.1∈all.map (·.C.Number):=by rw[<-c];exact wt j
  obtain⟨h,l,e⟩:=lX.1 k;have:=(d.each h l).num;simp only[TO];omega
 unfold FC;rw[DO ⟨a,by have:=d.few;omega⟩,c];rfl
theorem Ou(r:PR t n all A1 A3 m)(a:Ah t n all)(c:b.casks=some 0):Vk [b] [m] (some 0)=some ((Ec all).map<|Z1 all):=by
 unfold Vk;simp only[K1,C2,c,xS r a];congr 1;exact List.map_congr_left λk _=>r.get k
theorem Ey(hs:∀c∈A1,c.since=t)(r:PR t n all A1 A3 m):∀(ks:Q0 Int) (out:Q0 Za),(∀k∈ks,k∈all.map (·.C.Number))->out.length+ks.length<=1000000->
  VH HH (ks.map<|Z1 all) (out,A1)=some (out++(ks.filterMap<|Jk all).map (·.C),A1)
 | [],out,_,_=>by simp[VH]
 | k::ks,out,f,g=>by
  obtain⟨i,h,j,l,o,u⟩:=xa (f k ic);obtain⟨c,p,a,_⟩:=r.look hs l
  have d:Y7 A1 (some i)=some h.C:=by
   unfold Y7;simp only[K1,p];have:h.C=(UR c h.Fills).C:=by rw[<-a]
   rw[this];rfl
  have q:HH (some i) (out,A1)=some (out++[h.C],A1):=by
   unfold HH;rw[d,K1];simp only[L4] at g
   rw[Td ia];rfl
  simp only[Of,VH,j,q,K1];rw[Ey hs r ks (out++[h.C]) (λs e=>f s<|L3 _ e) (by simp at g ⊢;omega)];rw[List.filterMap_cons,o];simp
end
def PU(l:Q0 Ev)(day:Int):Q0 Za×Int×Int:=match JV l day with
 | (.inr e,k)=>([],(k:Int),e)
 | (.inl all,k)=>((bV all).map (·.C),(k:Int),0)
theorem AU(l:Q0 Ev)(day:Int):Gc l day=some (PU l day):=by
 have c:=GJ l day;unfold Gc PU;cases d:JV l day with
 | mk r k=>
  rw[d] at c
  cases r with
  | inr e=>
   rw[c.1,K1];have:(e != 0)=true:=by simpa using c.2
   simp only[this,B1]
  | inl all=>
   obtain⟨A1,b,A3,m,i,j,f,hs,a,g,_⟩:=c;rw[i,K1];have n:((0:Int) != 0)=false:=rfl;simp only[n,W1,Bm,K1];rw[Ou f a j,K1];have h:(Ec all).length=all.length:=by rw[(Eb all).length_eq];simp
   rw[Ey hs f (Ec all) [] (λk g=>(Eb all).mem_iff.1 g) (by have:=a.few;simp;omega),K1];rfl
end
section
open Go.Dec
theorem LJ{A3:FM}{p:Q2 Nat}{F:Q0 Int}{n:Nat}(h:FR A3 p F)(d:F.Pairwise (·< ·)/\∀f∈F,0<=f/\f < n)(u:n<=4096):UG A3 p=some F:=by
 cases p with
 | none=>have:F=[]:=h;subst this;rfl
 | some j=>
  obtain⟨l,o,q,k⟩:=h;have i:F.Nodup:=d.1.imp λh=>qBT h;have c:(l.map Prod.fst).Perm F:=(qBD q i).2 λx=>(k x).symm;have m:l.length=F.length:=by rw[<-c.length_eq];simp
  have r:=TC 0 d.1 (n:=n) d.2 hQ
  have g:l.all (λx=>decide<|-9223372036854775808<=x.1/\x.1<=9223372036854775807)=true:=IN.2 λx s=>by
   have:=d.2 x.1<|(k x.1).2<|wt s;simp only[TO];omega
  have t:FC l=some ((l.map Prod.fst).mergeSort λa b=>decide<|a<=b):=by
   unfold FC;rw[DO ⟨g,by omega⟩]
  have e:UG A3 (some j)=FC l:=by simp[UG,o]
  rw[e,t,jM c];congr 1;exact List.mergeSort_of_pairwise<|d.1.imp λh=>by simpa using Int.le_of_lt h
theorem Ij(l:Q0 Ev)(num day:Int):Xe l num day=some (Nx l num day):=by
 have a:=GJ l day;unfold Xe Nx;cases d:JV l day with
 | mk r k=>
  rw[d] at a
  cases r with
  | inr e=>
   rw[a.1,K1];have:(e != 0)=true:=by simpa using a.2
   simp only[this,B1]
  | inl all=>
   obtain⟨A1,b,A3,m,t,u,o,hs,f,v,_⟩:=a;rw[t,K1];have w:((0:Int) != 0)=false:=rfl;simp only[w,W1,Bm,K1,C2,u,o.get];cases p:Z1 all num with
   | none=>simp[Jk,p]
   | some i=>
    obtain⟨h,q,g⟩:=P4 p;obtain⟨c,x,s,j⟩:=o.look hs q;have n:=f.each h<|S1 q;simp only[o6,W1,Bm,g,K1,x];rw[LJ j n.fills v];rfl
end
end Go.Proofs.YthfjpbooaofjcaaGreatDoor.Ca
namespace Go.Proofs.YthfjpbooaofjcaaGreatDoor.Ex
section
open Go.Dec
variable{f:QG->Int}{j:Nat}{v a:Int}
structure Acc where
 B:ZR
 Ids:List Int
 Sums:Nat->Int
abbrev Ev:=QQ
abbrev Fe:=Qw
variable{r:Fe}
abbrev Bk:=ZR
abbrev zN:Nat->Int:=λ_=>0
def XB(n a b:Int):Bool:=decide (n≥a)&&decide (n<=b)
def FP:Int->Q0 Ze->Bool
 | _,[]=>true
 | last,x::l=>XB x.From 0 65536&&decide (last < x.From)&&XB x.Rate 0 1048576&&FP x.From l
def IG:Q0 Ze->Bool
 | x::_=>x.From==0
 | []=>false
def Gv(r:Fe):Bool:=XB r.Rates.length 1 64&&IG r.Rates&&XB r.Transit 0 65536&&XB r.Loss 0 10000&&XB r.Share 0 1000&&FP (-1) r.Rates
def Dc(l:Q0 Ze)(day:Int):Int:=l.foldl (λown x=>if x.From<=day then x.Rate else own) 0
def Wp(r:Fe)(amount day:Int):Int:=amount*Dc r.Rates day / 1000
def Cr(n:Int):Bool:=XB n 0 15
def XN(x:Ev):Bool:=
 XB x.Day 0 65536&&
 (if x.Kind==0||x.Kind==3||x.Kind==4 then Cr x.Bond&&XB x.Amount 1 17179869184
  else if x.Kind==1 then Cr x.Bond&&Cr x.To&&XB x.Id 0 1073741824&&XB x.Amount 1 17179869184
  else if x.Kind==2 then Cr x.Bond&&XB x.Id 0 1073741824&&XB x.Amount 0 17179869184
  else if x.Kind==5 then Cr x.Bond&&XB x.Amount 0 17179869184
  else if x.Kind==6 then XB x.Amount 1 72057594037927936 else false)
def ZU(r:Fe)(p:QG):Int:=p.Sent+r.Transit+1
def Y0(f:QG->Int):Q0 QG->Int
 | []=>0
 | p::l=>f p+Y0 f l
def XX(r:Fe)(t d:Int)(s:Acc):Acc:=
 {s with
  B:={s.B with
   Moving:=s.B.Moving.filter λp=>decide<|d < ZU r p,
   Used:=s.B.Used+Y0 QG.Amount (s.B.Moving.filter λp=> !decide (d < ZU r p)),
   Due:=s.B.Due+Y0 (λp=>Wp r p.Amount<|ZU r p) (s.B.Moving.filter λp=> !decide (d < ZU r p))},
  Sums:=λi=>if i < 16 then s.Sums i+s.B.Bonds i*(d - t) else s.Sums i}
def Cl(r:Fe)(day lost allowed:Int)(s:Acc):Acc:={s with B:={s.B with Lost:=s.B.Lost+JS lost allowed,Charged:=s.B.Charged+(lost - JS lost allowed),Due:=s.B.Due+Wp r (lost - JS lost allowed) day}}
def Uz(s:Acc)(x:Ev)(n:Int):Acc:={s with B:={s.B with Bonds:=ZF s.B.Bonds x.Bond.toNat n}}
def OR(r:Fe)(amount day:Int)(s:Acc):Acc:={s with B:={s.B with Used:=s.B.Used+amount,Due:=s.B.Due+Wp r amount day}}
def Z3(s:Acc)(x:Ev):Int:=s.B.Bonds x.Bond.toNat
def CD(p:QG):Q0 QG->Q0 QG
 | []=>[p]
 | q::l=>if q.Id < p.Id then q::CD p l else p::q::l
def kC(x:Ev):QG:=⟨x.Id,x.Bond,x.To,x.Day,x.Amount⟩
def AR(s:Acc)(x:Ev):Acc ⊕ Int:=if Z3 s x+x.Amount > 17179869184 then .inr 12 else .inl {Uz s x (Z3 s x+x.Amount) with B:={(Uz s x<|Z3 s x+x.Amount).B with Made:=s.B.Made+x.Amount}}
def EF(s:Acc)(x:Ev):Acc ⊕ Int:=
 if x.Bond==x.To then .inr 11 else if s.Ids.contains x.Id then .inr 5 else if Z3 s x < x.Amount then .inr 10
 else .inl {Uz s x (Z3 s x - x.Amount) with B:={(Uz s x<|Z3 s x - x.Amount).B with Moving:=CD (kC x) s.B.Moving},Ids:=s.Ids++[x.Id]}
def qj(r:Fe)(s:Acc)(x:Ev)(p:QG):Acc:=
 Cl r x.Day (imax 0<|p.Amount - x.Amount) (p.Amount*r.Loss / 10000)
  {Uz s x (Z3 s x+x.Amount) with B:={(Uz s x<|Z3 s x+x.Amount).B with Moving:=s.B.Moving.filter λq=> !(q.Id==x.Id),Found:=s.B.Found+imax 0 (x.Amount - p.Amount)}}
def SK(r:Fe)(s:Acc)(x:Ev):Acc ⊕ Int:=
 match s.B.Moving.find? (λq=>q.Id==x.Id) with
 | none=>.inr 4
 | some p=>if p.To != x.Bond then .inr 11 else if Z3 s x+x.Amount > 17179869184 then .inr 12 else .inl (qj r s x p)
def BJ(r:Fe)(s:Acc)(x:Ev):Acc ⊕ Int:=if Z3 s x < x.Amount then .inr 10 else .inl (OR r x.Amount x.Day<|Uz s x<|Z3 s x - x.Amount)
def AP(s:Acc)(x:Ev):Acc ⊕ Int:=if Z3 s x < x.Amount then .inr 10 else .inl {Uz s x (Z3 s x - x.Amount) with B:={(Uz s x<|Z3 s x - x.Amount).B with Exported:=s.B.Exported+x.Amount}}
def Rg(r:Fe)(s:Acc)(x:Ev):Acc:=
 Cl r x.Day (imax 0<|Z3 s x - x.Amount) (s.Sums x.Bond.toNat*r.Share / 3650000)
  {Uz s x x.Amount with B:={(Uz s x x.Amount).B with Found:=s.B.Found+imax 0 (x.Amount - Z3 s x)},Sums:=ZF s.Sums x.Bond.toNat 0}
def yW(s:Acc)(x:Ev):Acc ⊕ Int:=if x.Amount > s.B.Due - s.B.Paid then .inr 11 else .inl {s with B:={s.B with Paid:=s.B.Paid+x.Amount}}
def DT(r:Fe)(s:Acc)(x:Ev):Acc ⊕ Int:=
 if x.Kind==0 then AR s x else if x.Kind==1 then EF s x else if x.Kind==2 then SK r s x else if x.Kind==3 then BJ r s x
 else if x.Kind==4 then AP s x else if x.Kind==5 then .inl (Rg r s x) else if x.Kind==6 then yW s x else .inl s
structure FA where
 acc:Acc
 day:Int
def YL(r:Fe)(s:FA)(x:Ev):FA ⊕ Int:=
 if !XN x then .inr 1 else if x.Day < s.day then .inr 7
 else match DT r (XX r s.day x.Day s.acc) x with
  | .inl a=>.inl ⟨a,x.Day⟩
  | .inr e=>.inr e
def Hj(r:Fe)(day:Int):Q0 Ev->Nat->FA->(FA ⊕ Int)×Nat
 | [],n,s=>(.inl s,n)
 | x::l,n,s=>if x.Day<=day then match YL r s x with
   | .inl b=>Hj r day l (n+1) b
   | .inr e=>(.inr e,n)
  else(.inl s,n)
def SA:Acc:=⟨⟨zN,[],0,0,0,0,0,0,0,0⟩,[],zN⟩
def NI:FA:=⟨SA,0⟩
def AV(r:Fe)(day:Int)(l:Q0 Ev)(n:Nat)(s:FA):(Acc ⊕ Int)×Nat:=match Hj r day l n s with
 | (.inl b,k)=>(.inl<|XX r b.day day b.acc,k)
 | (.inr e,k)=>(.inr e,k)
def JV(r:Fe)(l:Q0 Ev)(day:Int):(Acc ⊕ Int)×Nat:=if !Gv r then(.inr 1,0) else if l.length > 4096 then(.inr 3,0) else if !XB day 0 65536 then(.inr 2,0) else AV r day l 0 NI
theorem J2{n b:Int}:XB n a b=true↔a<=n/\n<=b:=by simp[XB]
theorem UF{f:Nat->Int}:ZF f j v j=v:=by simp[ZF]
theorem Wa{f:Nat->Int}{k:Nat}(h:k≠j):ZF f j v k=f k:=by
 unfold ZF
 have:Nat.beq k j=false:=by
  cases b:Nat.beq k j with
  | false=>rfl
  | true=>exact absurd (yb b) h
 rw[this]
def No(f:Nat->Int):Nat->Int
 | 0=>0
 | n+1=>No f n+f n
theorem Tn{f:Nat->Int}:∀{n:Nat},n<=j->No (ZF f j v) n=No f n
 | 0,_=>rfl
 | n+1,h=>by simp only[No];rw[Tn hQ,Wa hQ]
theorem Fo{f:Nat->Int}:∀{n:Nat},j < n->No (ZF f j v) n=No f n+v - f j
 | n+1,h=>by
  simp only[No];by_cases e:n=j
  .subst e;rw[Tn<|So _,UF];omega
  .rw[Fo hQ,Wa e];omega
theorem Iy{f:Nat->Int}:∀{n:Nat},(∀i,i < n->0<=f i)->0<=No f n
 | 0,_=>y0 _
 | n+1,h=>by have:=Iy (n:=n) (λi hi=>h i hQ);have:=h n hQ;simp only[No];omega
theorem Fq:∀{l:Q0 QG},(∀p∈l,0<=f p)->0<=Y0 f l
 | [],_=>y0 _
 | p::l,h=>by have:=Fq (l:=l) λq b=>h q<|L3 _ b;have:=h p<|r9 ..;simp only[Y0];omega
theorem OU{g:QG->Int}:∀{l:Q0 QG},(∀p∈l,f p<=g p)->Y0 f l<=Y0 g l
 | [],_=>y0 _
 | p::l,h=>by have:=OU (l:=l) λq b=>h q<|L3 _ b;have:=h p<|r9 ..;simp only[Y0];omega
theorem Nr{k:Int}:∀{l:Q0 QG},Y0 (λp=>k*f p) l=k*Y0 f l
 | []=>by simp[Y0]
 | p::l=>by simp only[Y0,Nr (l:=l),qBc]
theorem Fp{f:QG->Int}{c:QG->Bool}:∀{l:Q0 QG},Y0 f (l.filter c)+Y0 f (l.filter λp=> !c p)=Y0 f l
 | []=>rfl
 | p::l=>by
  have:=Fp (f:=f) (c:=c) (l:=l);cases h:c p<;>simp only[lS,h,RW,u1,B1,W1,Bm,Y0]<;>omega
theorem D8{l k:Q0 QG}(h:l.Perm k):Y0 f l=Y0 f k:=by
 induction h with
 | nil=>rfl
 | cons x _ b=>simp only[Y0,b]
 | swap x y l=>simp only[Y0];omega
 | trans _ _ c d=>exact c.trans d
structure Vj(r:Fe):Prop where
 rates:∀x∈r.Rates,0<=x.From/\x.From<=65536/\0<=x.Rate/\x.Rate<=1048576
 sorted:r.Rates.Pairwise (λx y=>x.From < y.From)
 first:∃x l,r.Rates=x::l/\x.From=0
 len:r.Rates.length<=64
 transit:0<=r.Transit/\r.Transit<=65536
 loss:0<=r.Loss/\r.Loss<=10000
 share:0<=r.Share/\r.Share<=1000
theorem Ro:∀{last:Int} {l:Q0 Ze},FP last l=true↔(∀x∈l,0<=x.From/\x.From<=65536/\0<=x.Rate/\x.Rate<=1048576)/\l.Pairwise (λx y=>x.From < y.From)/\∀x∈l,last < x.From
 | last,[]=>by simp[FP]
 | last,x::l=>by
  simp only[FP,BY,J2,TO,Ro (last:=x.From) (l:=l),IR,List.forall_mem_cons];constructor
  .rintro⟨⟨⟨b,e⟩,c⟩,g,h,d⟩;exact⟨⟨⟨b.1,b.2,c.1,c.2⟩,g⟩,⟨d,h⟩,e,λy i=>by have:=d y i;omega⟩
  .rintro⟨⟨⟨b,e,c,g⟩,h⟩,⟨d,k⟩,m,_⟩;exact⟨⟨⟨⟨b,e⟩,m⟩,c,g⟩,h,k,d⟩
theorem Pl:Gv r=true↔Vj r:=by
 unfold Gv;simp only[BY,J2,Ro];constructor
 .rintro⟨⟨⟨⟨⟨o,b⟩,c⟩,d⟩,g⟩,i,k,p⟩;refine⟨i,k,?_,by omega,c,d,g⟩;cases e:r.Rates with
  | nil=>rw[e] at b;cases b
  | cons x l=>rw[e] at b;exact⟨x,l,rfl,by simpa[IG] using b⟩
 .intro h;obtain⟨x,l,e,m⟩:=h.first;refine⟨⟨⟨⟨⟨⟨?_,?_⟩,?_⟩,h.transit⟩,h.loss⟩,h.share⟩,h.rates,h.sorted,λy n=> ?_⟩
  .rw[e];simp;omega
  .have:=h.len;omega
  .rw[e];simp[IG,m]
  .have:=(h.rates y n).1;omega
theorem qK{l:Q0 Ze}{day:Int}(h:∀x∈l,0<=x.Rate/\x.Rate<=1048576):0<=Dc l day/\Dc l day<=1048576:=by
 have:∀(l:Q0 Ze) (a:Int),(∀x∈l,0<=x.Rate/\x.Rate<=1048576)->0<=a/\a<=1048576->0<=l.foldl (λown x=>if x.From<=day then x.Rate else own) a/\l.foldl (λown x=>if x.From<=day then x.Rate else own) a<=1048576:=by
  intro l
  induction l with
  | nil=>intro a _ h;exact h
  | cons x l c=>
   intro a b d;refine c _ (λy e=>b y<|L3 _ e) ?_;have:=b x<|r9 ..;show 0<=(if x.From<=day then x.Rate else a)/\(if x.From<=day then x.Rate else a)<=1048576;split
   .exact this
   .exact d
 exact this l 0 h hQ
theorem Vj.mR(h:Vj r)(day:Int):0<=Dc r.Rates day/\Dc r.Rates day<=1048576:=qK λx b=>⟨(h.rates x b).2.2.1,(h.rates x b).2.2.2⟩
theorem Vj.aS(h:Vj r){d:Int}(b:0<=a):0<=Wp r a d/\Wp r a d<=1049*a:=by
 have c:=h.mR d;unfold Wp;have e:0<=a*Dc r.Rates d:=oE b c.1;have g:a*Dc r.Rates d<=a*1048576:=lk c.2 b;constructor<;>omega
theorem Vj.rb(h:Vj r){d:Int}(b:0<=a)(e:a<=17179869184):0<=a*Dc r.Rates d/\a*Dc r.Rates d<=18014398509481984:=by
 have c:=h.mR d;have g:a*Dc r.Rates d<=a*1048576:=lk c.2 b;exact⟨oE b c.1,by omega⟩
end
section
open Go.Dec
variable{q p:QG}{l:Q0 QG}
structure cX(r:Fe)(t:Int)(p:QG):Prop where
 amount:1<=p.Amount/\p.Amount<=17179869184
 id:0<=p.Id/\p.Id<=1073741824
 fro:0<=p.From/\p.From<=15
 tow:0<=p.To/\p.To<=15
 ne:p.From≠p.To
 sent:0<=p.Sent/\p.Sent<=t
 late:t < ZU r p
structure Xz(r:Fe)(n:Nat)(t:Int)(s:Acc):Prop where
 bonds:∀i,i < 16->0<=s.B.Bonds i/\s.B.Bonds i<=17179869184
 sums:∀i,i < 16->0<=s.Sums i/\s.Sums i<=t*17179869184
 sorted:s.B.Moving.Pairwise (λp q=>p.Id < q.Id)
 mov:∀p∈s.B.Moving,cX r t p
 known:∀p∈s.B.Moving,p.Id∈s.Ids
 ids:∀i∈s.Ids,0<=i/\i<=1073741824
 mlen:s.B.Moving.length<=n
 ilen:s.Ids.length<=n
 pos:0<=s.B.Made/\0<=s.B.Found/\0<=s.B.Used/\0<=s.B.Exported/\0<=s.B.Lost/\0<=s.B.Charged/\0<=s.B.Paid/\s.B.Paid<=s.B.Due
 made:s.B.Made+s.B.Found<=n*17179869184
 whole:s.B.Used+s.B.Exported+s.B.Lost+s.B.Charged+No s.B.Bonds 16+Y0 QG.Amount s.B.Moving=s.B.Made+s.B.Found
 due:s.B.Due<=1049*(s.B.Used+s.B.Charged)
 out:∀i,16<=i->s.B.Bonds i=0
variable{r:Fe}{n:Nat}{t d:Int}{s:Acc}{x:Ev}{p:QG}
theorem IZ(r:Fe):Xz r 0 0 SA where
 bonds:=λi _=>by simp[SA]
 sums:=λi _=>by simp[SA]
 sorted:=List.Pairwise.nil
 mov:=λ_ h=>by cases h
 known:=λ_ h=>by cases h
 ids:=λ_ h=>by cases h
 mlen:=So _
 ilen:=So _
 pos:=by simp[SA]
 made:=by simp[SA]
 whole:=by simp[SA,No,Y0]
 due:=by simp[SA]
 out:=λi _=>rfl
theorem Xz.lim(h:Xz r n t s):s.B.Used<=n*17179869184/\s.B.Exported<=n*17179869184/\s.B.Lost<=n*17179869184/\s.B.Charged<=n*17179869184/\s.B.Used+s.B.Charged+Y0 QG.Amount s.B.Moving<=n*17179869184/\s.B.Made<=n*17179869184/\s.B.Found<=n*17179869184/\0<=Y0 QG.Amount s.B.Moving:=by
 have b:=h.pos;have c:=h.made;have e:=h.whole;have f:=Iy (n:=16) λi hi=>(h.bonds i hi).1;have g:0<=Y0 QG.Amount s.B.Moving:=Fq λp a=>by have:=(h.mov p a).amount.1;omega
 refine⟨?_,?_,?_,?_,?_,?_,?_,?_⟩<;>omega
theorem Oo(j:Vj r)(h:Xz r n t s)(le:t<=d):Xz r n d (XX r t d s) where
 bonds:=h.bonds
 sums:=λi hi=>by
  have e:=h.sums i hi;have a:=h.bonds i hi;simp only[XX,hi,B1];have g:0<=s.B.Bonds i*(d - t):=oE a.1 hQ;have k:s.B.Bonds i*(d - t)<=17179869184*(d - t):=qAB a.2 hQ;constructor
  .omega
  .omega
 sorted:=h.sorted.filter _
 mov:=λp b=>by
  have e:=rW.1 b;have a:=h.mov p e.1;exact⟨a.amount,a.id,a.fro,a.tow,a.ne,⟨a.sent.1,by have:=a.sent.2;omega⟩,by simpa using e.2⟩
 known:=λp b=>h.known p (rW.1 b).1
 ids:=h.ids
 mlen:=oD (qAd _ _) h.mlen
 ilen:=h.ilen
 pos:=by
  have e:=h.pos;have a:0<=Y0 QG.Amount (s.B.Moving.filter λp=> !decide (d < ZU r p)):=Fq λp b=>by have:=(h.mov p (rW.1 b).1).amount.1;omega
  have g:0<=Y0 (λp=>Wp r p.Amount<|ZU r p) (s.B.Moving.filter λp=> !decide (d < ZU r p)):=Fq λp b=>by have:=(h.mov p (rW.1 b).1).amount.1;exact(j.aS hQ).1
  simp only[XX];refine⟨?_,?_,?_,?_,?_,?_,?_,?_⟩<;>omega
 made:=h.made
 whole:=by
  have e:=h.whole;have a:=Fp (f:=QG.Amount) (c:=λp=>decide<|d < ZU r p) (l:=s.B.Moving);simp only[XX];omega
 due:=by
  have e:=h.due;have g:Y0 (λp=>Wp r p.Amount<|ZU r p) (s.B.Moving.filter λp=> !decide (d < ZU r p))<=Y0 (λp=>1049*p.Amount) (s.B.Moving.filter λp=> !decide (d < ZU r p)):=OU λp b=>by have:=(h.mov p (rW.1 b).1).amount.1;exact(j.aS hQ).2
  rw[Nr] at g
  simp only[XX];omega
 out:=h.out
theorem yX{u:Int}(o:u<=d):XX r u d (XX r t u s)=XX r t d s:=by
 have b:(s.B.Moving.filter λp=>decide<|u < ZU r p).filter (λp=>decide<|d < ZU r p)=s.B.Moving.filter (λp=>decide<|d < ZU r p):=by
  rw[oM];refine td λp _=> ?_;by_cases h:d < ZU r p
  .simp[h];omega
  .simp[h]
 have a (f:QG->Int):Y0 f (s.B.Moving.filter λp=> !decide (u < ZU r p))+Y0 f ((s.B.Moving.filter λp=>decide<|u < ZU r p).filter λp=> !decide (d < ZU r p))=Y0 f (s.B.Moving.filter λp=> !decide (d < ZU r p)):=by
  have:=Fp (f:=f) (c:=λp=>decide<|u < ZU r p) (l:=s.B.Moving.filter λp=> !decide (d < ZU r p));rw[oM,oM] at this
  rw[oM,<-this]
  have e:s.B.Moving.filter (λp=> !decide (u < ZU r p))=s.B.Moving.filter (λp=>(!decide (u < ZU r p))&& !decide (d < ZU r p)):=td λp _=>by
   by_cases h:u < ZU r p
   .simp[h]
   .simp[h];omega
  have g:s.B.Moving.filter (λp=>(!decide (d < ZU r p))&&decide (u < ZU r p))=s.B.Moving.filter (λp=>decide (u < ZU r p)&& !decide (d < ZU r p)):=td λp _=>qBL _ _;rw[<-e,g];omega
 have j:(λi=>if i < 16 then(if i < 16 then s.Sums i+s.B.Bonds i*(u - t) else s.Sums i)+s.B.Bonds i*(d - u) else(if i < 16 then s.Sums i+s.B.Bonds i*(u - t) else s.Sums i))=(λi=>if i < 16 then s.Sums i+s.B.Bonds i*(d - t) else s.Sums i):=by
  funext i;by_cases h:i < 16
  .simp only[h,B1];have:s.B.Bonds i*(d - t)=s.B.Bonds i*(u - t)+s.B.Bonds i*(d - u):=by rw[<-qBc];congr 1;omega
   omega
  .simp only[h,Bm]
 have k:=a QG.Amount;have m:=a λp=>Wp r p.Amount<|ZU r p;simp only[XX,b];rw[j,qBK,k,qBK,m]
theorem ux(h:XN x=true):0<=x.Day/\x.Day<=65536:=by
 unfold XN at h;simp only[BY,J2] at h;exact h.1
theorem BW(h:XN x=true)(a:x.Kind=0∨x.Kind=3∨x.Kind=4):(0<=x.Bond/\x.Bond<=15)/\1<=x.Amount/\x.Amount<=17179869184:=by
 unfold XN at h
 have:(x.Kind==0||x.Kind==3||x.Kind==4)=true:=by rcases a with e | e | e<;>simp[e]
 rw[this] at h
 simpa[J2,Cr] using(oR.1 h).2
theorem ji(h:XN x=true)(a:x.Kind=1):(0<=x.Bond/\x.Bond<=15)/\(0<=x.To/\x.To<=15)/\(0<=x.Id/\x.Id<=1073741824)/\1<=x.Amount/\x.Amount<=17179869184:=by
 unfold XN at h
 simp only[a] at h
 simpa[J2,Cr,qBM] using(oR.1 h).2
theorem Mg(h:XN x=true)(a:x.Kind=2):(0<=x.Bond/\x.Bond<=15)/\(0<=x.Id/\x.Id<=1073741824)/\0<=x.Amount/\x.Amount<=17179869184:=by
 unfold XN at h
 simp only[a] at h
 simpa[J2,Cr,qBM] using(oR.1 h).2
theorem jh(h:XN x=true)(a:x.Kind=5):(0<=x.Bond/\x.Bond<=15)/\0<=x.Amount/\x.Amount<=17179869184:=by
 unfold XN at h
 simp only[a] at h
 simpa[J2,Cr,qBM] using(oR.1 h).2
theorem uw(h:XN x=true)(a:x.Kind=6):1<=x.Amount/\x.Amount<=72057594037927936:=by
 unfold XN at h
 simp only[a] at h
 simpa[J2,Cr,qBM] using(oR.1 h).2
theorem qt(h:XN x=true):x.Kind=0∨x.Kind=1∨x.Kind=2∨x.Kind=3∨x.Kind=4∨x.Kind=5∨x.Kind=6:=by
 unfold XN at h
 have j:=(oR.1 h).2;by_cases a:x.Kind=0
 .exact .inl a
 by_cases b:x.Kind=1
 .exact .inr<|.inl b
 by_cases c:x.Kind=2
 .exact .inr<|.inr<|.inl c
 by_cases e:x.Kind=3
 .exact .inr<|.inr<|.inr<|.inl e
 by_cases f:x.Kind=4
 .exact .inr<|.inr<|.inr<|.inr<|.inl f
 by_cases g:x.Kind=5
 .exact .inr<|.inr<|.inr<|.inr<|.inr<|.inl g
 by_cases i:x.Kind=6
 .exact .inr<|.inr<|.inr<|.inr<|.inr<|.inr i
 .simp[a,b,c,e,f,g,i] at j
theorem SV:∀{l:Q0 QG},(CD q l).Perm (q::l)
 | []=>.refl _
 | y::l=>by
  simp only[CD];split
  .exact(SV.cons y).trans<|.swap _ _ _
  .exact .refl _
theorem O8{y:QG}:y∈CD q l↔y=q∨y∈l:=by
 rw[SV.mem_iff,A4]
theorem DB:∀{l:Q0 QG},l.Pairwise (λp q=>p.Id < q.Id)->(∀p∈l,p.Id≠q.Id)->(CD q l).Pairwise (λp q=>p.Id < q.Id)
 | [],_,_=>by simp[CD]
 | y::l,h,f=>by
  have e:=IR.1 h;simp only[CD];split
  .rename_i c;refine IR.2 ⟨λa b=> ?_,DB e.2 λp g=>f p<|L3 _ g⟩;rcases O8.1 b with rfl | b
   .exact c
   .exact e.1 a b
  .rename_i c;have:=f y<|r9 ..;refine IR.2 ⟨λa b=> ?_,h⟩;rcases A4.1 b with rfl | b
   .omega
   .have:=e.1 a b;omega
theorem xW(h:l.Pairwise (λp q=>p.Id < q.Id))(f:p∈l)(g:q∈l)(e:p.Id=q.Id):p=q:=by
 induction l with
 | nil=>cases f
 | cons y l i=>
  have c:=IR.1 h;rcases A4.1 f with rfl | a<;>rcases A4.1 g with rfl | b
  .rfl
  .have:=c.1 q b;omega
  .have:=c.1 p a;omega
  .exact i c.2 a b
theorem qS{i:Int}(h:l.Pairwise (λp q=>p.Id < q.Id))(a:l.find? (λq=>q.Id==i)=some p):p∈l/\p.Id=i/\l.Perm (p::l.filter (λq=> !(q.Id==i))):=by
 have c:=lf a;have hi:p.Id=i:=by simpa using List.find?_some a
 refine⟨c,hi,?_⟩
 induction l with
 | nil=>cases c
 | cons y l j=>
  have f:=IR.1 h;rw[oF] at a
  by_cases e:y.Id=i
  .have:(y.Id==i)=true:=by simpa using e
   rw[this] at a;simp only[UV] at a;subst a
   have:l.filter (λq=> !(q.Id==i))=l:=el.2 λq k=>by have:=f.1 q k;simp;omega
   rw[lS,this];simp[e]
  .have g:(y.Id==i)=false:=by simpa using e
   rw[g] at a
   have b:=lf a;rw[lS,g];simp only[u1,B1];exact((j f.2 a b).cons y).trans<|.swap _ _ _
end
section
open Go.Dec
variable{r:Fe}{n:Nat}{t d:Int}{s s' :Acc}{x:Ev}{p:QG}
theorem GQ{f:Nat->Int}{j:Nat}{v M:Int}(h:∀i,i < 16->0<=f i/\f i<=M)(a:0<=v/\v<=M):∀i,i < 16->0<=ZF f j v i/\ZF f j v i<=M:=λi hi=>by
 by_cases e:i=j
 .subst e;rw[UF];exact a
 .rw[Wa e];exact h i hi
theorem AE{f:Nat->Int}{j:Nat}{v:Int}(h:∀i,16<=i->f i=0)(a:j < 16):∀i,16<=i->ZF f j v i=0:=λi hi=>by
 rw[Wa hQ];exact h i hi
theorem Dl(h:0<=x.Bond/\x.Bond<=15):x.Bond.toNat < 16:=by omega
theorem P2{a b:Int}:(JS a b=a/\a<=b)∨(JS a b=b/\b<=a):=by unfold JS;split<;>omega
theorem Fh{a b:Int}:(imax a b=a/\b<=a)∨(imax a b=b/\a<=b):=by unfold imax;split<;>omega
theorem y2(h:Xz r n t s)(g:0<=x.Bond/\x.Bond<=15)(i:1<=x.Amount/\x.Amount<=17179869184)(a:AR s x= .inl s'):Xz r (n+1) t s' :=by
 unfold AR at a
 split at a
 .cases a
 .rename_i b;simp only[s8] at a
  subst a;have c:=Dl g;have j:=h.bonds _ c;have hs:=Fo (f:=s.B.Bonds) (v:=Z3 s x+x.Amount) c;unfold Z3 at b hs
  have k:=h.pos;have l:=h.made;have m:=h.whole;have e:=h.due;have o:=h.mlen;have q:=h.ilen
  exact{
   bonds:=GQ h.bonds (by unfold Z3;omega),sums:=h.sums,sorted:=h.sorted,mov:=h.mov,known:=h.known,ids:=h.ids
   mlen:=by show s.B.Moving.length<=_;omega
   ilen:=by show s.Ids.length<=_;omega
   pos:=by simp only[Uz];omega
   made:=by simp only[Uz];omega
   whole:=by simp only[Uz,Z3];omega
   due:=e
   out:=AE h.out c}
theorem w7(h:Xz r n t s)(w:0<=x.Bond/\x.Bond<=15)(m:0<=x.To/\x.To<=15)(c:0<=x.Id/\x.Id<=1073741824)(z:1<=x.Amount/\x.Amount<=17179869184)(A:Vj r)(y:x.Day=t)(C:0<=t)(b:EF s x= .inl s'):Xz r (n+1) t s' :=by
 unfold EF at b
 split at b
 .cases b
 .rename_i o;split at b
  .cases b
  .rename_i g;split at b
   .cases b
   .rename_i j;simp only[s8] at b
    subst b;have k:x.Bond≠x.To:=by simpa using o
    have l:x.Id∉s.Ids:=by simpa using g
    have q:=Dl w;have D:=h.bonds _ q;have hs:=Fo (f:=s.B.Bonds) (v:=Z3 s x - x.Amount) q;unfold Z3 at j hs
    have a:=h.pos;have E:=h.made;have F:=h.whole;have u:=h.due;have G:=h.mlen;have H:=h.ilen;have I:Y0 QG.Amount (CD (kC x) s.B.Moving)=x.Amount+Y0 QG.Amount s.B.Moving:=(D8 SV).trans rfl;have K:(CD (kC x) s.B.Moving).length=s.B.Moving.length+1:=SV.length_eq;have L:=A.transit
    exact{
     bonds:=GQ h.bonds (by unfold Z3;omega),sums:=h.sums
     sorted:=DB h.sorted λp a e=>l (by have:=h.known p a;rw[e] at this;exact this)
     mov:=λp a=>by
      rcases O8.1 a with rfl | a
      .exact⟨z,c,w,m,k,⟨by show 0<=x.Day;omega,by show x.Day<=t;omega⟩,by show t < x.Day+r.Transit+1;omega⟩
      .exact h.mov p a
     known:=λp a=>by
      show p.Id∈s.Ids++[x.Id];rcases O8.1 a with rfl | a
      .simp[kC]
      .exact qBZ _<|h.known p a
     ids:=λi hi=>by
      have hi:i∈s.Ids++[x.Id]:=hi;rcases mb.1 hi with hi | hi
      .exact h.ids i hi
      .simp only[ts] at hi;subst hi;exact c
     mlen:=by simp only;omega
     ilen:=by simp only[bY,od];omega
     pos:=by simp only[Uz];omega
     made:=by simp only[Uz];omega
     whole:=by simp only[Uz,Z3];omega
     due:=u
     out:=AE h.out q}
theorem fO(h:Xz r n t s)(m:0<=x.Bond/\x.Bond<=15)(C:0<=x.Amount/\x.Amount<=17179869184)(l:Vj r)(e:s.B.Moving.find? (λq=>q.Id==x.Id)=some p)(g:¬Z3 s x+x.Amount > 17179869184):Xz r (n+1) t (qj r s x p):=by
 obtain⟨i,o,c⟩:=qS h.sorted e;have j:=h.mov p i;have k:=Dl m;have D:=h.bonds _ k;have hs:=Fo (f:=s.B.Bonds) (v:=Z3 s x+x.Amount) k;unfold Z3 at g hs
 have u:=h.pos;have E:=h.made;have F:=h.whole;have w:=h.due;have G:=h.mlen;have H:=h.ilen;have I:Y0 QG.Amount s.B.Moving=p.Amount+Y0 QG.Amount (s.B.Moving.filter λq=> !(q.Id==x.Id)):=(D8 c).trans rfl;have y:0<=p.Amount*r.Loss / 10000:=qBB (oE (by have:=j.amount;omega) l.loss.1) hQ;have K:=Fh (a:=0) (b:=p.Amount - x.Amount);have L:=Fh (a:=0) (b:=x.Amount - p.Amount);have M:=P2 (a:=imax 0<|p.Amount - x.Amount) (b:=p.Amount*r.Loss / 10000);have z:=j.amount;have A:=l.aS (a:=imax 0 (p.Amount - x.Amount) - JS (imax 0<|p.Amount - x.Amount) (p.Amount*r.Loss / 10000)) (d:=x.Day) hQ
 exact{
  bonds:=GQ h.bonds (by unfold Z3;omega),sums:=h.sums
  sorted:=h.sorted.filter _
  mov:=λp e=>h.mov p (rW.1 e).1
  known:=λp e=>h.known p (rW.1 e).1
  ids:=h.ids
  mlen:=by
   have:=qAd (λq:QG=> !(q.Id==x.Id)) s.B.Moving;simp only[qj,Cl,Uz];omega
  ilen:=by show s.Ids.length<=_;omega
  pos:=by simp only[qj,Cl,Uz];omega
  made:=by simp only[qj,Cl,Uz];omega
  whole:=by simp only[qj,Cl,Uz,Z3];omega
  due:=by simp only[qj,Cl,Uz];omega
  out:=AE h.out k}
theorem wq(h:Xz r n t s)(i:0<=x.Bond/\x.Bond<=15)(o:0<=x.Amount/\x.Amount<=17179869184)(g:Vj r)(e:0<=t):Xz r (n+1) t (Rg r s x):=by
 have c:=Dl i;have q:=h.bonds _ c;have hs:=Fo (f:=s.B.Bonds) (v:=x.Amount) c;have j:=h.pos;have u:=h.made;have w:=h.whole;have k:=h.due;have y:=h.mlen;have z:=h.ilen;have l:0<=s.Sums x.Bond.toNat*r.Share / 3650000:=qBB (oE (h.sums _ c).1 g.share.1) hQ;have A:=Fh (a:=0) (b:=Z3 s x - x.Amount);have C:=Fh (a:=0) (b:=x.Amount - Z3 s x);have D:=P2 (a:=imax 0<|Z3 s x - x.Amount) (b:=s.Sums x.Bond.toNat*r.Share / 3650000);have m:=g.aS (a:=imax 0 (Z3 s x - x.Amount) - JS (imax 0<|Z3 s x - x.Amount) (s.Sums x.Bond.toNat*r.Share / 3650000)) (d:=x.Day) hQ;have E:Z3 s x=s.B.Bonds x.Bond.toNat:=rfl
 exact{
  bonds:=GQ h.bonds hQ
  sums:=GQ h.sums ⟨y0 _,oE e hQ⟩
  sorted:=h.sorted
  mov:=h.mov
  known:=h.known
  ids:=h.ids
  mlen:=by show s.B.Moving.length<=_;omega
  ilen:=by show s.Ids.length<=_;omega
  pos:=by simp only[Rg,Cl,Uz];omega
  made:=by simp only[Rg,Cl,Uz];omega
  whole:=by simp only[Rg,Cl,Uz];omega
  due:=by simp only[Rg,Cl,Uz];omega
  out:=AE h.out c}
theorem zx(h:Xz r n t s)(g:0<=x.Bond/\x.Bond<=15)(l:1<=x.Amount/\x.Amount<=17179869184)(i:Vj r)(b:BJ r s x= .inl s'):Xz r (n+1) t s' :=by
 unfold BJ at b
 split at b
 .cases b
 .rename_i c;simp only[s8] at b
  subst b;have e:=Dl g;have m:=h.bonds _ e;have hs:=Fo (f:=s.B.Bonds) (v:=Z3 s x - x.Amount) e;unfold Z3 at c hs
  have o:=h.pos;have q:=h.made;have u:=h.whole;have j:=h.due;have w:=h.mlen;have y:=h.ilen;have k:=i.aS (a:=x.Amount) (d:=x.Day) hQ
  exact{
   bonds:=GQ h.bonds (by unfold Z3;omega),sums:=h.sums,sorted:=h.sorted,mov:=h.mov,known:=h.known,ids:=h.ids
   mlen:=by show s.B.Moving.length<=_;omega
   ilen:=by show s.Ids.length<=_;omega
   pos:=by simp only[OR,Uz];omega
   made:=by simp only[OR,Uz];omega
   whole:=by simp only[OR,Uz,Z3];omega
   due:=by simp only[OR,Uz];omega
   out:=AE h.out e}
theorem yx(h:Xz r n t s)(g:0<=x.Bond/\x.Bond<=15)(i:1<=x.Amount/\x.Amount<=17179869184)(a:AP s x= .inl s'):Xz r (n+1) t s' :=by
 unfold AP at a
 split at a
 .cases a
 .rename_i b;simp only[s8] at a
  subst a;have c:=Dl g;have j:=h.bonds _ c;have hs:=Fo (f:=s.B.Bonds) (v:=Z3 s x - x.Amount) c;unfold Z3 at b hs
  have k:=h.pos;have l:=h.made;have m:=h.whole;have e:=h.due;have o:=h.mlen;have q:=h.ilen
  exact{
   bonds:=GQ h.bonds (by unfold Z3;omega),sums:=h.sums,sorted:=h.sorted,mov:=h.mov,known:=h.known,ids:=h.ids
   mlen:=by show s.B.Moving.length<=_;omega
   ilen:=by show s.Ids.length<=_;omega
   pos:=by simp only[Uz];omega
   made:=by simp only[Uz];omega
   whole:=by simp only[Uz,Z3];omega
   due:=e
   out:=AE h.out c}
theorem fB(h:Xz r n t s)(c:1<=x.Amount)(a:yW s x= .inl s'):Xz r (n+1) t s' :=by
 unfold yW at a
 split at a
 .cases a
 .rename_i b;simp only[s8] at a
  subst a;have e:=h.pos;have f:=h.made;have g:=h.mlen;have i:=h.ilen
  exact{
   bonds:=h.bonds,sums:=h.sums,sorted:=h.sorted,mov:=h.mov,known:=h.known,ids:=h.ids
   mlen:=by show s.B.Moving.length<=_;omega
   ilen:=by show s.Ids.length<=_;omega
   pos:=by simp only[];omega
   made:=by simp only[];omega
   whole:=h.whole
   due:=h.due
   out:=h.out}
theorem u7(g:Vj r)(h:Xz r n t s)(b:0<=t)(he:XN x=true)(c:x.Day=t)(a:DT r s x= .inl s'):Xz r (n+1) t s' :=by
 unfold DT at a
 rcases qt he with k | k | k | k | k | k | k<;>simp only[k,r6,Int.reduceEq,B1,Bm] at a
 .have e:=BW he<|.inl k;exact y2 h e.1 e.2 a
 .have e:=ji he k;exact w7 h e.1 e.2.1 e.2.2.1 e.2.2.2 g c b a
 .have e:=Mg he k;unfold SK at a
  split at a
  .cases a
  .rename_i p i;split at a
   .cases a
   .split at a
    .cases a
    .rename_i f;simp only[s8] at a;subst a;exact fO h e.1 e.2.2 g i f
 .have e:=BW he<|.inr<|.inl k;exact zx h e.1 e.2 g a
 .have e:=BW he<|.inr<|.inr k;exact yx h e.1 e.2 a
 .have e:=jh he k;simp only[s8] at a;subst a;exact wq h e.1 e.2 g b
 .have e:=uw he k;exact fB h e.1 a
theorem Bw{c c' :FA}(e:Vj r)(h:Xz r n c.day c.acc)(_h0:0<=c.day)(hs:YL r c x= .inl c'):Xz r (n+1) c'.day c'.acc/\c.day<=c'.day/\c'.day=x.Day/\XN x=true:=by
 unfold YL at hs
 split at hs
 .cases hs
 .rename_i he;split at hs
  .cases hs
  .rename_i f;split at hs
   .rename_i a g;simp only[s8] at hs
    subst hs;have b:XN x=true:=by simpa using he
    exact⟨u7 e (Oo e h<|show c.day<=x.Day by omega) (by have:=(ux b).1;exact this) b rfl g,by show c.day<=x.Day;omega,rfl,b⟩
   .cases hs
end
section
open Go.Dec
variable{r:Fe}{n:Nat}{t d:Int}{s s' :Acc}{x:Ev}{p:QG}
theorem Tm{i:Nat}(h:i<=4294967296):Qy ((i:Int)+1)=((i+1:Nat):Int):=by rw[Qs hQ hQ];rfl
theorem u4(b:Vj r){a:Int}(c:0<=a)(e:a<=17179869184)(day:Int):Qy (Int.tdiv (Qy<|a*Dc r.Rates day) 1000)=Wp r a day:=by
 have h:=b.rb (d:=day) c e;rw[Qs (n:=a*Dc r.Rates day) hQ hQ,oP h.1];unfold Wp;rw[Qs hQ hQ]
end
section
open Go.Dec
variable{r:Fe}{n:Nat}{t d:Int}{s s' :Acc}{x:Ev}{p:QG}
theorem Ns{f g:QG->Int}:∀{l:Q0 QG},(∀p∈l,f p=g p)->Y0 f l=Y0 g l
 | [],_=>rfl
 | p::l,h=>by simp only[Y0];rw[h p<|r9 ..,Ns (l:=l) λq a=>h q<|L3 _ a]
def O4(r:Fe)(next:Int)(s:Acc)(pre post:Q0 QG):Acc:={s with B:={s.B with Moving:=pre++post.filter (λp=> !(ZU r p==next)),Used:=s.B.Used+Y0 QG.Amount (post.filter λp=>ZU r p==next),Due:=s.B.Due+Y0 (λp=>Wp r p.Amount next) (post.filter λp=>ZU r p==next)}}
end
section
open Go.Dec
variable{r:Fe}{n:Nat}{t d:Int}{s s' :Acc}{x:Ev}{p:QG}
def yc(s:Acc):Acc ⊕ Int->Acc×Int
 | .inl a=>(a,0)
 | .inr e=>(s,e)
theorem SW(h:0<=x.Bond/\x.Bond<=15):YY 16 x.Bond=some x.Bond.toNat:=by unfold YY;rw[DO hQ]
theorem HU(h:Xz r n t s)(a:0<=x.Bond/\x.Bond<=15):0<=Z3 s x/\Z3 s x<=17179869184:=h.bonds _<|Dl a
end
section
open Go.Dec
variable{day:Int}
variable{r:Fe}{n:Nat}{t d:Int}{s s' :Acc}{x:Ev}{p:QG}
theorem Fi(n a b:Int):ZW n a b=XB n a b:=by unfold ZW XB;exact rfl
theorem P6(n:Int):Kp n=XB n 0 65536:=by unfold Kp;exact Fi ..
theorem xc(n:Int):Zp n=Cr n:=by unfold Zp Cr;exact Fi ..
theorem A7(r:Fe)(g:r.Rates.length<=1000000):∀(k i:Nat) (last:Int),i+k=r.Rates.length->
  ZV (YB r) (last,(i:Int))=some (if FP last (r.Rates.drop i) then .inl () else .inr false)
 | 0,i,last,hi=>by
  have:YB r (last,(i:Int))=some (.done<|.inl ()):=by unfold YB;rw[Do ia]
  rw[ZK,x4 hQ,this];rfl
 | k+1,i,last,hi=>by
  have a:i < r.Rates.length:=by omega
  have h:r.Rates[i]? =some r.Rates[i]:=by simp[a]
  have step:YB r (last,(i:Int))=some (if XB r.Rates[i].From 0 65536&&decide (last < r.Rates[i].From)&&XB r.Rates[i].Rate 0 1048576 then .next (r.Rates[i].From,((i+1:Nat):Int)) else .done (.inr false)):=by
   unfold YB;rw[DO ia];simp only[Zq,h,K1,Fi,P6,Tm (by omega:i<=4294967296)];by_cases b:XB r.Rates[i].From 0 65536=true
   case neg=>simp only[sf] at b;simp[b]
   case pos=>
    by_cases c:XB r.Rates[i].Rate 0 1048576=true
    case neg=>simp only[sf] at c;simp[b,c]
    case pos=>
     by_cases f:r.Rates[i].From<=last
     .have:decide (last < r.Rates[i].From)=false:=by simp;omega
      simp[b,c,f,this]
     .have:decide (last < r.Rates[i].From)=true:=by simp;omega
      simp[b,c,f,this]
  rw[ZK,dO a,step];by_cases e:(XB r.Rates[i].From 0 65536&&decide (last < r.Rates[i].From)&&XB r.Rates[i].Rate 0 1048576)=true
  case neg=>simp only[sf] at e;simp[FP,e]
  case pos=>
   simp only[FP,e,B1,ln];exact A7 r g k (i+1) r.Rates[i].From hQ
theorem A6(g:r.Rates.length<=1000000):UI r=some (Gv r):=by
 unfold UI Gv;have a:=A7 r g r.Rates.length 0 (-1) hQ;simp only[tO,qAK] at a
 simp only[QO,Fi,P6];refine ZZ a ?_;by_cases f:FP (-1) r.Rates=true
 case neg=>simp only[sf] at f;simp[f]
 case pos=>
  simp only[f,B1,oc];by_cases c:XB (r.Rates.length:Int) 1 64=true
  case neg=>simp only[sf] at c;simp[c]
  case pos=>
   have b:=J2.1 c
   obtain⟨y,l,e⟩:∃y l,r.Rates=y::l:=by
    cases h:r.Rates with
    | nil=>rw[h] at b;simp at b
    | cons y l=>exact⟨y,l,rfl⟩
   have i:ZI r.Rates 0=some y:=by
    have:=Zq r.Rates 0;rw[e] at this ⊢;exact this
   have j:IG r.Rates=(y.From==0):=by rw[e];rfl
   simp only[c,B1,i,K1,j,ln]
theorem CC(x:Ev):Wk x=some (XN x):=by
 unfold Wk XN;simp only[Fi,P6,xc,QO]
 have j:(XB x.Amount 1 17179869184||x.Amount==0)=XB x.Amount 0 17179869184:=by
  rw[ob];simp[XB];omega
 rw[j];by_cases h:XB x.Day 0 65536=true
 case neg=>simp only[sf] at h;simp[h]
 case pos=>
  simp only[h,RW,W1,Bm,ln];by_cases a:(x.Kind==0)=true
  .simp[a]
  .simp only[sf] at a
   by_cases b:(x.Kind==3)=true
   .simp[a,b]
   .simp only[sf] at b
    by_cases i:(x.Kind==4)=true
    .simp[a,b,i]
    .simp only[sf] at i
     simp only[a,b,i,qA0,W1,Bm,K1];by_cases c:(x.Kind==1)=true
     .rw[DO c,DO c]
     .rw[Do c,Do c];by_cases e:(x.Kind==2)=true
      .rw[DO e,DO e]
      .rw[Do e,Do e];by_cases f:(x.Kind==5)=true
       .rw[DO f,DO f]
       .rw[Do f,Do f];by_cases g:(x.Kind==6)=true
        .rw[DO g,DO g]
        .rw[Do g,Do g]
theorem uj{m:Int}(b:0<=m)(c:m<=2000000):Qy (yE .u64 (IntKind.u64.wrap<|Qy m) 1)=m / 2:=by
 rw[Qs (n:=m) hQ hQ];have e:IntKind.u64.bits=64:=rfl
 have a:IntKind.u64.wrap m=m:=by
  simp only[IntKind.wrap,e];simp[IntKind.signed];omega
 rw[a]
 have hs:yE .u64 m 1=m / 2:=by
  unfold yE;have:(2:Int)^(min (Int.toNat 1) IntKind.u64.bits)=2:=by decide
  rw[this,Int.fdiv_eq_ediv_of_nonneg _ hQ]
 rw[hs,Qs hQ hQ]
def Wg(l:Q0 Ze)(day:Int):Nat:=(l.takeWhile λx=>decide<|x.From<=day).length
theorem BK{day:Int}:∀{l:Q0 Ze},l.Pairwise (λx y=>x.From < y.From)->Wg l day<=l.length/\(∀i x,l[i]? =some x->(x.From<=day↔i < Wg l day))
 | [],_=>⟨So _,λi x h=>by simp at h⟩
 | y::l,h=>by
  have c:=IR.1 h;have e:=BK (day:=day) c.2;unfold Wg at e ⊢
  rw[ot];by_cases b:y.From<=day
  .simp only[b,lL,B1,L4];refine⟨by omega,λi x a=> ?_⟩;cases i with
   | zero=>simp at a;subst a;simp[b]
   | succ i=>
    simp only[la] at a
    have:=e.2 i x a;omega
  .simp only[b,lP,W1,Bm,qs];refine⟨oh _,λi x a=> ?_⟩;cases i with
   | zero=>simp at a;subst a;omega
   | succ i=>
    simp only[la] at a
    have:=c.1 x<|S1 a;omega
theorem EO:∀{l:Q0 Ze} (a:Int),l.Pairwise (λx y=>x.From < y.From)->l.foldl (λown x=>if x.From<=day then x.Rate else own) a=if Wg l day=0 then a else match l[Wg l day - 1]? with | some x=>x.Rate | none=>a
 | [],a,_=>rfl
 | y::l,a,h=>by
  have c:=IR.1 h;have i:=BK (day:=day) h;rw[o1,EO _ c.2];have j:=(BK (day:=day) c.2).1;by_cases b:y.From<=day
  .have e:Wg (y::l) day=Wg l day+1:=by unfold Wg;rw[ot];simp[b]
   rw[e];simp only[b,B1,Nat.add_one_ne_zero,Bm,Nat.add_sub_cancel];by_cases f:Wg l day=0
   .rw[DO f,f];rfl
   .rw[Do f];have:Wg l day=(Wg l day - 1)+1:=by omega
    conv=>rhs;rw[this,la]
    have g:Wg l day - 1 < l.length:=by omega
    rw[B3 g]
  .have e:Wg (y::l) day=0:=by unfold Wg;rw[ot];simp[b]
   have k:Wg l day=0:=by
    cases m:l with
    | nil=>rfl
    | cons z l' =>
     unfold Wg;rw[ot];have:=c.1 z (by rw[m];simp);have:¬z.From<=day:=by omega
     simp[this]
   rw[DO k,DO e,Do b]
theorem qA(g:Vj r):X9 (r.Rates.length:Int) (λx=>YV x r day)=some (Wg r.Rates day:Int):=by
 have a:=BK (day:=day) g.sorted;have h:=g.len
 have key:=MV (body:=WB λx=>YV x r day) (λs:Int×Int=>0<=s.1/\s.1<=Wg r.Rates day/\(Wg r.Rates day:Int)<=s.2/\s.2<=r.Rates.length) (λs=>(s.2 - s.1).toNat) (λb=>b=(Wg r.Rates day:Int)) λs hs=>by
  obtain⟨i,j⟩:=s;obtain⟨v,w,z,A⟩:=hs;simp only at v w z A
  by_cases c:i < j
  .left;have k:=uj (m:=i+j) hQ hQ;have B:i<=(i+j) / 2:=by omega
   have C:(i+j) / 2 < j:=by omega
   obtain⟨y,e,f⟩:=O9 (l:=r.Rates) (i:=(i+j) / 2) hQ hQ;have o:YV ((i+j) / 2) r day=some (decide<|y.From > day):=by unfold YV;rw[e];rfl
   have q:=a.2 _ y f;by_cases u:y.From > day
   .refine⟨(i,(i+j) / 2),?_,⟨by simp only;omega,by simp only;omega,?_,by simp only;omega⟩,by simp only;omega⟩
    .unfold WB;rw[DO<|by simpa using c];simp only[k,QO,o,K1,u,lL,RW,W1,Bm]
    .simp only;omega
   .refine⟨((i+j) / 2+1,j),?_,⟨by simp only;omega,?_,by simp only;omega,by simp only;omega⟩,by simp only;omega⟩
    .unfold WB;rw[DO<|by simpa using c];simp only[k,QO,o,K1,u,lP,u1,B1];rw[Qs (n:=(i+j) / 2+1) hQ hQ]
    .simp only;omega
  .right;refine⟨i,?_,by omega⟩;unfold WB;rw[Do<|by simpa using c]
 obtain⟨b,D,E⟩:=key r.Rates.length (0,(r.Rates.length:Int)) ic ⟨by simp,by simp,by simp;exact a.1,by simp⟩;unfold X9;rw[D,E];rfl
theorem P9(c:Vj r){a:Int}(j:0<=a)(k:a<=17179869184)(o:0<=day):WQ r a day=some (Wp r a day):=by
 have f:=BK (day:=day) c.sorted;have h:=c.len;obtain⟨y,l,e,q⟩:=c.first;have u:0 < Wg r.Rates day:=(f.2 0 y (by rw[e];rfl)).1 hQ;have g:Wg r.Rates day - 1 < r.Rates.length:=by omega
 have i:r.Rates[Wg r.Rates day - 1]? =some r.Rates[Wg r.Rates day - 1]:=B3 g
 have b:Dc r.Rates day=r.Rates[Wg r.Rates day - 1].Rate:=by
  unfold Dc;rw[EO _ c.sorted,Do hQ,i]
 unfold WQ;refine ZZ (qA c) ?_;have m:Qy ((Wg r.Rates day:Int) - 1)=((Wg r.Rates day - 1:Nat):Int):=by rw[Qs hQ hQ];omega
 simp only[QO,m,Zq,i,K1,<-b];rw[u4 c j k]
end
section
open Go.Dec
variable{l:Q0 QG}{i:Int}
variable{r:Fe}{n:Nat}{t d:Int}{s s' :Acc}{x:Ev}{p:QG}
abbrev PM:=Q0<|Q0<|Int×QG
abbrev KM:=Q0<|Q0<|Int×Bool
def DA(p:QG):Int×QG:=(p.Id,p)
def JA(r:Fe)(t:Int)(s:Acc):QD:=⟨r,{s.B with Moving:=[]},some 0,some 0,s.Sums,t⟩
structure PR(r:Fe)(t:Int)(s:Acc)(A1:List QD)(A2:PM)(A3:KM):Prop where
 o:A1=[JA r t s]
 m:∃m,A2=[m]/\m.Perm (s.B.Moving.map DA)
 k:∃k rest,A3=k::rest/\(k.map Prod.fst).Nodup/\∀i,(QZ k i).getD false=s.Ids.contains i
theorem Fy(h:l.Pairwise (λp q=>p.Id < q.Id)):((l.map DA).map Prod.fst).Nodup:=by
 have:(l.map DA).map Prod.fst=l.map QG.Id:=by rw[qAF];rfl
 rw[this];rw[List.Nodup,qAw];exact h.imp λh=>qBT h
theorem jc:∀{l:Q0 QG},QZ (l.map DA) i=l.find? (λq=>q.Id==i)
 | []=>rfl
 | q::l=>by
  simp only[Of,DA,QZ,oF];by_cases h:i=q.Id
  .subst h;simp
  .have a:(i==q.Id)=false:=by simpa using h
   have b:(q.Id==i)=false:=by simpa using Ne.symm h
   simp only[a,b,W1,Bm];exact jc
theorem qk{m:Q0 (Int×QG)}(hs:l.Pairwise (λp q=>p.Id < q.Id))(h:m.Perm (l.map DA)):QZ m i=l.find? (λq=>q.Id==i):=by
 rw[Wo h<|Fy hs,jc]
theorem kX:(l.map DA).filter (λx=> !(i==x.1))=(l.filter λq=> !(q.Id==i)).map DA:=by
 rw[qBA];congr 1;refine td λq _=> ?_;show(!(i==q.Id))= !(q.Id==i);rw[Bool.beq_comm]
theorem u9{m:Q0 (Int×QG)}(hs:l.Pairwise (λp q=>p.Id < q.Id))(h:m.Perm (l.map DA)):(J7 m i).Perm ((l.filter λq=> !(q.Id==i)).map DA):=by
 have a:=SS (k:=i) h<|Fy hs
 rwa[XH<|Fy hs,kX] at a
abbrev dy:=Out Zv<|Q0 QD×PM×KM
def X5(r:Fe)(t:Int)(out:Acc ⊕ Int)(q:Q2 dy):Prop:=match out with
 | .inl s' =>∃A1 a A3,q=some (.ok (A1,a,A3))/\PR r t s' A1 a A3
 | .inr e=>q=some (.pan ⟨e⟩)
theorem SR(e:Int):JR true e=some (.ok ()):=rfl
theorem Pr(e:Int):JR false e=some (.pan ⟨e⟩):=rfl
theorem WJ{ε α β:Type}{e:Q2 (Out ε α)}{gp:ε->Q2 β}{g:α->Q2 β}{x:α}(h:e=some (.ok x)):Q5 e gp g=g x:=by rw[h];rfl
theorem WA{ε α β:Type}{e:Q2 (Out ε α)}{gp:ε->Q2 β}{g:α->Q2 β}{x:ε}(h:e=some (.pan x)):Q5 e gp g=gp x:=by rw[h];rfl
variable{A1:Q0 QD}{A2:PM}{A3:KM}
theorem EJ(h:Xz r n t s)(f:PR r t s A1 A2 A3)(c:0<=x.Bond/\x.Bond<=15)(g:0<=x.Amount/\x.Amount<=17179869184):Yk A1 (some 0) x=if Z3 s x+x.Amount > 17179869184 then some (.pan ⟨12⟩) else some (.ok ()):=by
 have j:=HU h c;have e:(JA r t s).book.Bonds x.Bond.toNat=Z3 s x:=rfl;unfold Yk;rw[f.o];simp only[K1,SW c,C2];rw[e,Qs (n:=Z3 s x+x.Amount) hQ hQ];by_cases a:Z3 s x+x.Amount > 17179869184
 .have b:decide (Z3 s x+x.Amount<=17179869184)=false:=by simp;omega
  rw[b,DO a];rfl
 .have b:decide (Z3 s x+x.Amount<=17179869184)=true:=by simp;omega
  rw[b,Do a];rfl
theorem Fj(h:Xz r n t s)(f:PR r t s A1 A2 A3)(c:0<=x.Bond/\x.Bond<=15)(g:1<=x.Amount/\x.Amount<=17179869184):Jr A1 (some 0) x=if Z3 s x < x.Amount then some (.pan ⟨10⟩) else some (.ok [JA r t<|Uz s x<|Z3 s x - x.Amount]):=by
 have j:=HU h c;have e:(JA r t s).book.Bonds x.Bond.toNat=Z3 s x:=rfl;unfold Jr;rw[f.o];simp only[K1,SW c,C2];rw[e];by_cases a:Z3 s x < x.Amount
 .have b:decide (Z3 s x≥x.Amount)=false:=by simp;omega
  rw[b,DO a];rfl
 .have b:decide (Z3 s x≥x.Amount)=true:=by simp;omega
  rw[b,Do a,Qs (n:=Z3 s x - x.Amount) hQ hQ];rfl
theorem zB(h:Xz r n t s)(q:n<=4096)(b:PR r t s A1 A2 A3)(he:XN x=true)(k:x.Kind=0):X5 r t (AR s x) (Jz A1 A2 A3 (some 0) x):=by
 obtain⟨f,u⟩:=BW he<|.inl k;have v:=HU h f;have w:=h.lim;have g:=h.pos;have c:=EJ h b f hQ;unfold Jz AR X5;by_cases a:Z3 s x+x.Amount > 17179869184
 .rw[DO a] at c ⊢
  rw[WA c]
 .rw[Do a] at c ⊢
  rw[WJ c];refine⟨[JA r t {Uz s x (Z3 s x+x.Amount) with B:={(Uz s x<|Z3 s x+x.Amount).B with Made:=s.B.Made+x.Amount}}],A2,A3,?_,rfl,b.m,b.k⟩;rw[b.o];have e:(JA r t s).book.Bonds x.Bond.toNat=Z3 s x:=rfl;have j:(JA r t s).book.Made=s.B.Made:=rfl;simp only[K1,SW f,C2,QO,e,j];rw[Qs (n:=Z3 s x+x.Amount) hQ hQ,Qs (n:=s.B.Made+x.Amount) hQ hQ];rfl
theorem yj{k:Q0 (Int×Bool)}{ids:Q0 Int}{id:Int}(b:(k.map Prod.fst).Nodup)(h:∀i,(QZ k i).getD false=ids.contains i)(i:Int):(QZ (Qq k id true) i).getD false=(ids++[id]).contains i:=by
 have c:=Jv (l:=k) (k:=id) (v:=true) b;have a:(((id,true)::k.filter (λx=> !(id==x.1))).map Prod.fst).Nodup:=(c.map Prod.fst).nodup_iff.1<|Jb b;rw[Wo c a];simp only[QZ];by_cases e:i=id
 .subst e;simp
 .have m:(i==id)=false:=by simpa using e
  rw[m];simp only[W1,Bm]
  have o:QZ (k.filter λx=> !(id==x.1)) i=QZ k i:=by
   clear b h c a
   induction k with
   | nil=>rfl
   | cons y k j=>
    rw[lS];by_cases f:id=y.1
    .have g:(id==y.1)=true:=by simpa using f
     have q:(i==y.1)=false:=by simp;intro h;exact e<|h.trans f.symm
     simp only[g,RW,W1,Bm,QZ,q,j]
    .have g:(id==y.1)=false:=by simpa using f
     simp only[g,u1,B1,QZ,j]
  rw[o,h];simp[e]
theorem yG(h:Xz r n t s)(y:PR r t s A1 A2 A3)(he:XN x=true)(k:x.Kind=1):X5 r t (EF s x) (Yj A1 A2 A3 (some 0) x):=by
 obtain⟨E,L,M,N⟩:=ji he k;have W:=HU h E;have b:=Fj h y E N;obtain⟨m,F,f⟩:=y.m;obtain⟨G,rest,H,j,u⟩:=y.k;unfold Yj EF X5;by_cases a:(x.Bond==x.To)=true
 .have A:(x.Bond != x.To)=false:=by simp[bne,a]
  rw[A,DO a,WA<|Pr 11]
 .have A:(x.Bond != x.To)=true:=by simp only[bne];simp only[sf] at a;rw[a];rfl
  rw[A,Do a,WJ<|SR 11];have P:(A1[0]?)=some (JA r t s):=by rw[y.o];rfl
  have I:(A3[0]?)=some G:=by rw[H];rfl
  have Q:(JA r t s).known=some 0:=rfl;simp only[K1,P,Q,I,u];by_cases z:s.Ids.contains x.Id=true
  .rw[DO z,z];rw[RW,WA<|Pr 5]
  .have g:s.Ids.contains x.Id=false:=by simpa using z
   rw[Do z,g,u1,WJ<|SR 5];by_cases c:Z3 s x < x.Amount
   .rw[DO c] at b ⊢
    rw[WA b]
   .rw[Do c] at b ⊢
    rw[WJ b];have R:(A2[0]?)=some m:=by rw[F];rfl
    have S:(JA r t<|Uz s x<|Z3 s x - x.Amount).moving=some 0:=rfl;have C:(JA r t<|Uz s x<|Z3 s x - x.Amount).known=some 0:=rfl;refine⟨_,_,_,by simp only[C2,K1,C,I,S,R,QO];rfl,rfl,⟨Qq m x.Id<|kC x,by rw[F];rfl,?_⟩,⟨Qq G x.Id true,rest,by rw[H];rfl,Jb j,yj j u⟩⟩
    have w:∀q∈s.B.Moving,q.Id≠x.Id:=λq D e=>by
     have:=h.known q D;rw[e] at this
     rw[<-sf,List.contains_iff_mem] at g;exact g this
    have K:=Jv (l:=m) (k:=x.Id) (v:=kC x)<|(f.map Prod.fst).nodup_iff.2<|Fy h.sorted
    have T:m.filter (λe=> !(x.Id==e.1))=m:=el.2 λe he=>by
     obtain⟨q,D,rfl⟩:=lX.1<|f.mem_iff.1 he;have:=w q D;simp[DA];exact qBR this
    rw[T] at K
    refine K.trans ?_;refine(f.cons _).trans ?_;have V:=(SV (q:=kC x) (l:=s.B.Moving)).symm.map DA;exact V
theorem I5(c:Vj r)(h:Xz r n t s)(q:n<=4096)(g:0<=t){u:Acc}(v:u.B.Bonds x.Bond.toNat=0∨u.B.Bonds x.Bond.toNat=Z3 s x)(e:0<=x.Bond/\x.Bond<=15){was is allowed:Int}(f:0<=was/\was<=17179869184)(j:0<=is/\is<=17179869184)(k:0<=allowed/\allowed<=4611686018427387904)
  (w:u.B.Found=s.B.Found) (y:u.B.Lost=s.B.Lost) (z:u.B.Charged=s.B.Charged) (A:u.B.Due=s.B.Due):VQ [JA r t u] (some 0) x.Bond was is allowed=some [JA r t<|Cl r t (imax 0<|was - is) allowed {Uz u x (u.B.Bonds x.Bond.toNat+is) with B:={(Uz u x<|u.B.Bonds x.Bond.toNat+is).B with Found:=u.B.Found+imax 0 (is - was)}}]:=by
 have C:=HU h e;have D:=h.lim;have m:=h.pos;have o:=h.due;have E:=Fh (a:=0) (b:=was - is);have F:=Fh (a:=0) (b:=is - was);have G:=P2 (a:=imax 0<|was - is) (b:=allowed);have H:=c.aS (a:=imax 0 (was - is) - JS (imax 0<|was - is) allowed) (d:=t) hQ;unfold VQ;simp only[K1,SW e,C2,QO];rw[Qs (n:=is - was) hQ hQ,Qs (n:=was - is) hQ hQ,Qs (n:=imax 0 (was - is) - JS (imax 0<|was - is) allowed) hQ hQ];refine ZZ (P9 c hQ hQ g) ?_;simp only[JA,lb];rw[Qs (n:=u.B.Bonds x.Bond.toNat+is) hQ hQ,Qs (n:=u.B.Found+imax 0 (is - was)) hQ hQ,Qs (n:=u.B.Lost+JS (imax 0<|was - is) allowed) hQ hQ,Qs (n:=u.B.Charged+(imax 0 (was - is) - JS (imax 0<|was - is) allowed)) hQ hQ,Qs (n:=u.B.Due+Wp r (imax 0 (was - is) - JS (imax 0<|was - is) allowed) t) hQ hQ];rfl
theorem Oh(F:Vj r)(h:Xz r n t s)(L:n<=4096)(M:0<=t)(f:PR r t s A1 A2 A3)(he:XN x=true)(k:x.Kind=2)(g:x.Day=t):X5 r t (SK r s x) (Jj A1 A2 A3 (some 0) x):=by
 obtain⟨z,N,G⟩:=Mg he k;have T:=HU h z;have a:=EJ h f z G;obtain⟨m,H,j⟩:=f.m;have P:(A1[0]?)=some (JA r t s):=by rw[f.o];rfl
 have Q:(A2[0]?)=some m:=by rw[H];rfl
 have R:(JA r t s).moving=some 0:=rfl;unfold Jj SK X5;simp only[K1,P,R,Q,QO,qk h.sorted j];cases S:s.B.Moving.find? (λq=>q.Id==x.Id) with
 | none=>rfl
 | some p=>
  obtain⟨v,I,_⟩:=qS h.sorted S;have A:=h.mov p v;have C:=A.amount;simp only[o5,om];rw[WJ<|SR 4];by_cases b:(p.To != x.Bond)=true
  .have D:(p.To==x.Bond)=false:=by simpa[bne] using b
   rw[D,WA<|Pr 11,DO b]
  .have D:(p.To==x.Bond)=true:=by simpa[bne] using b
   rw[D,WJ<|SR 11,Do b];by_cases c:Z3 s x+x.Amount > 17179869184
   .rw[DO c] at a ⊢
    rw[WA a]
   .rw[Do c] at a ⊢
    rw[WJ a];have e:=F.loss;have w:0<=p.Amount*r.Loss:=oE hQ e.1;have K:p.Amount*r.Loss<=17179869184*10000:=qAL C.2 e.2 e.1 hQ;have E:(JA r t s).rules.Loss=r.Loss:=rfl;have y:=I5 (x:=x) F h L M (u:=s) (.inr rfl) z (was:=p.Amount) (is:=x.Amount) (allowed:=p.Amount*r.Loss / 10000) hQ G hQ rfl rfl rfl rfl;simp only[E];rw[Qs (n:=p.Amount*r.Loss) hQ hQ,oP w,Qs (n:=p.Amount*r.Loss / 10000) hQ hQ];refine⟨_,_,_,ZZ (by rw[f.o];exact y) rfl,?_,⟨J7 m x.Id,by rw[H];rfl,u9 h.sorted j⟩,f.k⟩;unfold qj;rw[g];rfl
theorem Is(b:Vj r){u:Acc}{a day:Int}(c:0<=a/\a<=17179869184)(e:0<=day)(g:0<=u.B.Used/\u.B.Used<=4611686018427387904)(h:0<=u.B.Due/\u.B.Due<=4611686018427387904):VP [JA r t u] (some 0) a day=some [JA r t<|OR r a day u]:=by
 have f:=b.aS (a:=a) (d:=day) hQ;unfold VP;simp only[K1,C2,QO];refine ZZ (P9 b c.1 c.2 e) ?_;simp only[JA,lb];rw[Qs (n:=u.B.Used+a) hQ hQ,Qs (n:=u.B.Due+Wp r a day) hQ hQ];rfl
theorem Og(e:Vj r)(h:Xz r n t s)(q:n<=4096)(c:PR r t s A1 A2 A3)(he:XN x=true)(k:x.Kind=3):X5 r t (BJ r s x) (Ji A1 A2 A3 (some 0) x):=by
 obtain⟨f,g⟩:=BW he<|.inr<|.inl k;have a:=Fj h c f g;have u:=h.lim;have j:=h.pos;have o:=h.due;unfold Ji BJ X5;by_cases b:Z3 s x < x.Amount
 .rw[DO b] at a ⊢
  rw[WA a]
 .rw[Do b] at a ⊢
  rw[WJ a];exact⟨_,_,_,ZZ (Is e hQ (ux he).1 ⟨by show 0<=s.B.Used;omega,by show s.B.Used<=_;omega⟩ ⟨by show 0<=s.B.Due;omega,by show s.B.Due<=_;omega⟩) rfl,rfl,c.m,c.k⟩
theorem qq(h:Xz r n t s)(o:n<=4096)(c:PR r t s A1 A2 A3)(he:XN x=true)(k:x.Kind=4):X5 r t (AP s x) (Jy A1 A2 A3 (some 0) x):=by
 obtain⟨f,g⟩:=BW he<|.inr<|.inr k;have a:=Fj h c f g;have q:=h.lim;have j:=h.pos;unfold Jy AP X5;by_cases b:Z3 s x < x.Amount
 .rw[DO b] at a ⊢
  rw[WA a]
 .rw[Do b] at a ⊢
  rw[WJ a];have e:(JA r t<|Uz s x<|Z3 s x - x.Amount).book.Exported=s.B.Exported:=rfl;refine⟨[JA r t {Uz s x (Z3 s x - x.Amount) with B:={(Uz s x<|Z3 s x - x.Amount).B with Exported:=s.B.Exported+x.Amount}}],A2,A3,?_,rfl,c.m,c.k⟩;simp only[K1,C2,QO,e];rw[Qs (n:=s.B.Exported+x.Amount) hQ hQ];rfl
theorem j8(v:Vj r)(h:Xz r n t s)(y:n<=4096)(z:0<=t)(H:t<=65536)(j:PR r t s A1 A2 A3)(he:XN x=true)(k:x.Kind=5)(b:x.Day=t):X5 r t (.inl<|Rg r s x) (Yi A1 A2 A3 (some 0) x):=by
 obtain⟨g,A⟩:=jh he k;have C:=HU h g;have q:=h.sums _<|Dl g;have a:=v.share;have c:0<=s.Sums x.Bond.toNat*r.Share:=oE q.1 a.1;have w:s.Sums x.Bond.toNat*r.Share<=65536*17179869184*1000:=qAL hQ a.2 a.1 hQ;have D:(JA r t s).sums x.Bond.toNat=s.Sums x.Bond.toNat:=rfl;have E:(JA r t s).rules.Share=r.Share:=rfl;have F:(JA r t s).book.Bonds x.Bond.toNat=Z3 s x:=rfl;have f:=I5 (x:=x) v h y z (u:={Uz s x 0 with Sums:=ZF s.Sums x.Bond.toNat 0}) (.inl UF) g (was:=Z3 s x) (is:=x.Amount) (allowed:=s.Sums x.Bond.toNat*r.Share / 3650000) C A hQ rfl rfl rfl rfl;unfold Yi X5;rw[j.o];simp only[K1,SW g,C2,QO,D,E,F,lb];rw[Qs (n:=s.Sums x.Bond.toNat*r.Share) hQ hQ,oP c,Qs (n:=s.Sums x.Bond.toNat*r.Share / 3650000) hQ hQ];refine⟨_,_,_,ZZ f rfl,?_,j.m,j.k⟩
 have G:ZF (ZF s.B.Bonds x.Bond.toNat 0) x.Bond.toNat (ZF s.B.Bonds x.Bond.toNat 0 x.Bond.toNat+x.Amount)=ZF s.B.Bonds x.Bond.toNat x.Amount:=by
  funext i;by_cases e:i=x.Bond.toNat
  .subst e;rw[UF,UF,UF];omega
  .rw[Wa e,Wa e,Wa e]
 unfold Rg;rw[b];simp only[Uz,G]
theorem uN(h:Xz r n t s)(q:n<=4096)(b:PR r t s A1 A2 A3)(he:XN x=true)(k:x.Kind=6):X5 r t (yW s x) (VR A1 A2 A3 (some 0) x):=by
 have u:=uw he k;have v:=h.lim;have e:=h.pos;have f:=h.due;have g:(JA r t s).book.Due=s.B.Due:=rfl;have j:(JA r t s).book.Paid=s.B.Paid:=rfl;unfold VR yW X5;rw[b.o];simp only[K1,C2,QO,g,j];rw[Qs (n:=s.B.Due - s.B.Paid) hQ hQ];by_cases a:x.Amount > s.B.Due - s.B.Paid
 .have c:decide (x.Amount<=s.B.Due - s.B.Paid)=false:=by simp;omega
  rw[c,DO a,WA<|Pr 11]
 .have c:decide (x.Amount<=s.B.Due - s.B.Paid)=true:=by simp;omega
  rw[c,Do a,WJ<|SR 11,Qs (n:=s.B.Paid+x.Amount) hQ hQ];exact⟨_,_,_,rfl,rfl,b.m,b.k⟩
end
section
open Go.Dec
variable{l:Q0 (Int×QG)}
variable{r:Fe}{n:Nat}{t d day:Int}{s u:Acc}{x:Ev}{p:QG}{A1:Q0 QD}{A2:PM}{A3:KM}
def Gm(r:Fe)(d:Int)(s:Acc):Acc:={s with B:=(XX r 0 d s).B}
structure dJ(r:Fe)(u:Acc):Prop where
 sorted:u.B.Moving.Pairwise (λp q=>p.Id < q.Id)
 mov:∀p∈u.B.Moving,(1<=p.Amount/\p.Amount<=17179869184)/\0<=p.Sent/\p.Sent<=65536
 used:0<=u.B.Used/\u.B.Used+Y0 QG.Amount u.B.Moving<=4611686018427387904
 due:0<=u.B.Due/\u.B.Due+1049*Y0 QG.Amount u.B.Moving<=4611686018427387904
theorem Xz.lJ(h:Xz r n t s)(b:n<=4096)(c:t<=65536):dJ r s where
 sorted:=h.sorted
 mov:=λp a=>⟨(h.mov p a).amount,(h.mov p a).sent.1,by have:=(h.mov p a).sent.2;omega⟩
 used:=by have:=h.lim;have:=h.pos;omega
 due:=by have:=h.lim;have:=h.pos;have:=h.due;omega
theorem ue(a:Vj r)(h:0<=p.Sent/\p.Sent<=65536):Qy (Qy (p.Sent+r.Transit)+1)=ZU r p:=by
 have:=a.transit;rw[Qs (n:=p.Sent+r.Transit) hQ hQ,Qs hQ hQ];rfl
theorem Pz(a:Vj r)(h:0<=p.Sent/\p.Sent<=65536):Ym [JA r t u] (some 0) p=some (ZU r p):=by
 unfold Ym;simp only[K1,C2,JA];rw[ue a h]
def Xy(r:Fe)(day:Int)(D:Q0 (Int×Bool))(l:Q0 (Int×QG)):Q0 (Int×Bool):=l.foldl (λD e=>if ZU r e.2<=day then Qq D (ZU r e.2) true else D) D
theorem mem_set{D:Q0 (Int×Bool)}{k:Int}(a:(D.map Prod.fst).Nodup)(b:∀y∈D,y.2=true)(y:Int×Bool):y∈Qq D k true↔y=(k,true)∨y∈D:=by
 rw[(Jv a).mem_iff,A4,rW];constructor
 .rintro(h | ⟨h,_⟩)
  .exact .inl h
  .exact .inr h
 .rintro(h | h)
  .exact .inl h
  .by_cases e:k=y.1
   .left;have:=b y h;rw[e,<-this]
   .exact .inr ⟨h,by simpa using e⟩
theorem GO:∀{l:Q0 (Int×QG)} {D:Q0 (Int×Bool)},(D.map Prod.fst).Nodup->(∀y∈D,y.2=true)->
  ((Xy r day D l).map Prod.fst).Nodup/\(Xy r day D l).length<=D.length+l.length/\∀y,y∈Xy r day D l↔y∈D∨∃e∈l,ZU r e.2<=day/\y=(ZU r e.2,true)
 | [],D,a,b=>⟨a,by simp[Xy],λy=>by simp[Xy]⟩
 | e::l,D,a,b=>by
  unfold Xy;rw[o1];by_cases c:ZU r e.2<=day
  .rw[DO c]
   have g:∀y∈Qq D (ZU r e.2) true,y.2=true:=λy i=>by
    rcases(mem_set a b y).1 i with rfl | i
    .rfl
    .exact b y i
   have o:(Qq D (ZU r e.2) true).length<=D.length+1:=by
    have:=(Jv (k:=ZU r e.2) (v:=true) a).length_eq;have f:=qAd (λx:Int×Bool=> !(ZU r e.2==x.1)) D;simp only[L4] at this;omega
   obtain⟨j,f,m⟩:=GO (l:=l) (Jb (k:=ZU r e.2) (v:=true) a) g;refine⟨j,by simp only[L4];unfold Xy at f;omega,λy=> ?_⟩;rw[show(List.foldl (λD e=>if ZU r e.2<=day then Qq D (ZU r e.2) true else D) (Qq D (ZU r e.2) true) l)=Xy r day (Qq D (ZU r e.2) true) l from rfl,m,mem_set a b];simp only[A4,exists_eq_or_imp];constructor
   .rintro((h | h) | h)
    .exact .inr<|.inl ⟨c,h⟩
    .exact .inl h
    .exact .inr<|.inr h
   .rintro(h | (h | h))
    .exact .inl<|.inr h
    .exact .inl<|.inl h.2
    .exact .inr h
  .rw[Do c];obtain⟨j,f,m⟩:=GO (l:=l) a b;refine⟨j,by simp only[L4];unfold Xy at f;omega,λy=> ?_⟩;rw[show(List.foldl (λD e=>if ZU r e.2<=day then Qq D (ZU r e.2) true else D) D l)=Xy r day D l from rfl,m];simp only[A4,exists_eq_or_imp];constructor
   .rintro(h | h)
    .exact .inl h
    .exact .inr<|.inr h
   .rintro(h | (h | h))
    .exact .inl h
    .exact absurd h.1 c
    .exact .inr h
theorem y3{l':Q0 (Int×QG)}(c:l'.Perm l):(Xy r day [] l').Perm (Xy r day [] l):=by
 have a:=GO (r:=r) (day:=day) (l:=l') (D:=[]) ic ic;have b:=GO (r:=r) (day:=day) (l:=l) (D:=[]) ic ic
 have nd:∀{L:Q0 (Int×Bool)},(L.map Prod.fst).Nodup->L.Nodup:=fun{L} h=>by
  rw[List.Nodup,qAw] at h
  exact h.imp λh e=>h<|by rw[e]
 refine(qBD (nd a.1)<|nd b.1).2 λy=> ?_;rw[a.2.2,b.2.2];constructor
 .rintro(h | ⟨e,he,h⟩)
  .exact .inl h
  .exact .inr ⟨e,c.mem_iff.1 he,h⟩
 .rintro(h | ⟨e,he,h⟩)
  .exact .inl h
  .exact .inr ⟨e,c.mem_iff.2 he,h⟩
theorem uA{α:Type}{A:Q0 α}{x y:α}:List.set (A++[x]) A.length y=A++[y]:=by simp
theorem RC(a:Vj r):∀{l:Q0 (Int×QG)} {D:Q0 (Int×Bool)},(∀e∈l,0<=e.2.Sent/\e.2.Sent<=65536)->
  VH (KN [JA r t u] A3 (some 0) day) l (A3++[D])=some (A3++[Xy r day D l])
 | [],D,_=>rfl
 | e::l,D,h=>by
  have he:=h e<|r9 ..
  have step:KN [JA r t u] A3 (some 0) day e (A3++[D])=some (A3++[if ZU r e.2<=day then Qq D (ZU r e.2) true else D]):=by
   unfold KN;rw[Pz a he];simp only[K1];by_cases b:ZU r e.2<=day
   .have c:(A3++[D])[A3.length]? =some D:=by simp
    simp only[b,lL,B1,c,K1,QO,uA]
   .simp only[b,lP,W1,Bm,K1]
  simp only[VH,step,K1];exact RC a λq f=>h q<|L3 _ f
theorem kh(f:Vj r)(h:∀e∈l,0<=e.2.Sent/\e.2.Sent<=65536):Ck Pa (KN [JA r t u] A3 (some 0) day) l (A3++[[]])=some (A3++[Xy r day [] l]):=by
 refine qP (RC f h) λl' c=>⟨_,RC f λe he=>h e<|c.mem_iff.1 he,by simp,λi x y a b=> ?_⟩;by_cases hi:i < A3.length
 .rw[x8 hi] at a b
  rw[a] at b;simp only[UV] at b;subst b;exact .refl _
 .rw[lR hQ] at a b
  cases g:i - A3.length with
  | zero=>
   rw[g] at a b
   simp only[C2,UV] at a b
   subst a;subst b;exact y3 c
  | succ k=>rw[g] at a;simp at a
def gQ(r:Fe)(day:Int)(l:Q0 (Int×QG)):Q0 Int:=((Xy r day [] l).map Prod.fst).mergeSort λa b=>decide<|a<=b
theorem yi:(gQ r day l).Pairwise (·< ·):=by
 have g:=(GO (r:=r) (day:=day) (l:=l) (D:=[]) ic ic).1;have e:(gQ r day l).Pairwise (λa b=>decide (a<=b)=true):=qBN (λa b c e f=>by simp only[TO] at*;omega) (λa b=>by simp only[mx,TO];omega) _;have f:(gQ r day l).Nodup:=(qAE _ _).nodup_iff.2 g;exact(e.and f).imp λh=>by have:=h.1;have:=h.2;simp only[TO] at*;omega
theorem ug:d∈gQ r day l↔d<=day/\∃e∈l,ZU r e.2=d:=by
 unfold gQ;rw[(qAE _ _).mem_iff,lX];have h:=(GO (r:=r) (day:=day) (l:=l) (D:=[]) ic ic).2.2;constructor
 .rintro⟨y,a,rfl⟩;rcases(h y).1 a with a | ⟨e,he,b,rfl⟩
  .cases a
  .exact⟨b,e,he,rfl⟩
 .rintro⟨c,e,he,rfl⟩;exact⟨(ZU r e.2,true),(h _).2<|.inr ⟨e,he,c,rfl⟩,rfl⟩
theorem xR(g:Vj r)(b:A1=[JA r t u]){m:Q0 (Int×QG)}(c:A2=[m])(k:m.length<=4096)(hs:∀e∈m,0<=e.2.Sent/\e.2.Sent<=65536):Yx A1 A2 A3 (some 0) day=some ((A1,A2,A3++[Xy r day [] m]),gQ r day m):=by
 subst b;subst c;have a:=GO (r:=r) (day:=day) (l:=m) (D:=[]) ic ic;have o:=g.transit
 have i:UG (A3++[Xy r day [] m]) (some A3.length)=some (gQ r day m):=by
  have j:(A3++[Xy r day [] m])[A3.length]? =some (Xy r day [] m):=by simp
  simp only[UG,j,K1,FC];rw[DO]
  .rfl
  .refine⟨IN.2 λy f=> ?_,by have:=a.2.1;simp at this;omega⟩;rcases(a.2.2 y).1 f with f | ⟨e,he,q,rfl⟩
   .cases f
   .have:=hs e he;simp only[TO];unfold ZU;omega
 unfold Yx;simp only[K1,C2,JA];have h:=kh (t:=t) (u:=u) (A3:=A3) (day:=day) g hs;simp only[JA] at h
 rw[h];simp only[K1,i]
theorem dJ.book(b:Vj r)(h:dJ r u):dJ r (Gm r d u) where
 sorted:=h.sorted.filter _
 mov:=λp a=>h.mov p (rW.1 a).1
 used:=by
  have e:=h.used;have g:=Fp (f:=QG.Amount) (c:=λp=>decide<|d < ZU r p) (l:=u.B.Moving);have i:0<=Y0 QG.Amount (u.B.Moving.filter λp=> !decide (d < ZU r p)):=Fq λp a=>by have:=(h.mov p (rW.1 a).1).1.1;omega
  simp only[Gm,XX];omega
 due:=by
  have e:=h.due;have g:=Fp (f:=QG.Amount) (c:=λp=>decide<|d < ZU r p) (l:=u.B.Moving);have i:0<=Y0 (λp=>Wp r p.Amount<|ZU r p) (u.B.Moving.filter λp=> !decide (d < ZU r p)):=Fq λp a=>by have:=(h.mov p (rW.1 a).1).1.1;exact(b.aS hQ).1
  have j:Y0 (λp=>Wp r p.Amount<|ZU r p) (u.B.Moving.filter λp=> !decide (d < ZU r p))<=Y0 (λp=>1049*p.Amount) (u.B.Moving.filter λp=> !decide (d < ZU r p)):=OU λp a=>by have:=(h.mov p (rW.1 a).1).1.1;exact(b.aS hQ).2
  rw[Nr] at j
  simp only[Gm,XX];omega
theorem vF{a:Int}(h:a<=d):Gm r d (Gm r a s)=Gm r d s:=by
 have e:=yX (r:=r) (s:=s) (t:=0) (u:=a) (d:=d) h;have b:(XX r 0 d<|Gm r a s).B=(XX r a d<|XX r 0 a s).B:=rfl;unfold Gm at b ⊢
 simp only[b,e]
theorem vE(h:∀p∈s.B.Moving,d < ZU r p):Gm r d s=s:=by
 have b:s.B.Moving.filter (λp=>decide<|d < ZU r p)=s.B.Moving:=el.2 λp a=>by simpa using h p a
 have c:s.B.Moving.filter (λp=> !decide (d < ZU r p))=[]:=o7.2 λp a=>by simpa using h p a
 simp only[Gm,XX,b,c,Y0,Int.add_zero]
theorem kM(h:∀p∈s.B.Moving,d<=ZU r p):O4 r d s [] s.B.Moving=Gm r d s:=by
 have f:s.B.Moving.filter (λp=> !(ZU r p==d))=s.B.Moving.filter (λp=>decide<|d < ZU r p):=td λp a=>by
  have:=h p a;by_cases e:ZU r p=d
  .simp[e]
  .have b:d < ZU r p:=by omega
   simp[e,b]
 have b:s.B.Moving.filter (λp=>ZU r p==d)=s.B.Moving.filter (λp=> !decide (d < ZU r p)):=td λp a=>by
  have:=h p a;by_cases e:ZU r p=d
  .simp[e]
  .have b:d < ZU r p:=by omega
   simp[e,b]
 have g:Y0 (λp=>Wp r p.Amount d) (s.B.Moving.filter λp=> !decide (d < ZU r p))=Y0 (λp=>Wp r p.Amount<|ZU r p) (s.B.Moving.filter λp=> !decide (d < ZU r p)):=Ns λp a=>by
  have c:=rW.1 a;have i:=h p c.1;have j:¬d < ZU r p:=by simpa using c.2
  have:ZU r p=d:=by omega
  rw[this]
 simp only[O4,Gm,XX,lQ,f,b,g]
def Ni(r:Fe)(d:Int)(u:Acc)(l:Q0 QG):Acc:={u with B:={u.B with Used:=u.B.Used+Y0 QG.Amount (l.filter λp=>ZU r p==d),Due:=u.B.Due+Y0 (λp=>Wp r p.Amount d) (l.filter λp=>ZU r p==d)}}
def Sc(r:Fe)(d:Int)(M l:Q0 (Int×QG)):Q0 (Int×QG):=l.foldl (λM e=>if ZU r e.2==d then J7 M e.1 else M) M
theorem P0(b:Vj r)(i:0<=d):∀{l:Q0 (Int×QG)} {u:Acc} {M:Q0 (Int×QG)},(∀e∈l,(1<=e.2.Amount/\e.2.Amount<=17179869184)/\0<=e.2.Sent/\e.2.Sent<=65536)->
  0<=u.B.Used->u.B.Used+Y0 QG.Amount (l.map Prod.snd)<=4611686018427387904->0<=u.B.Due->u.B.Due+1049*Y0 QG.Amount (l.map Prod.snd)<=4611686018427387904->
  VH (KS (some 0) d 0 0) l ([JA r t u],[M])=some ([JA r t<|Ni r d u<|l.map Prod.snd],[Sc r d M l])
 | [],u,M,_,_,_,_,_=>by simp[VH,Ni,Sc,Y0]
 | e::l,u,M,h,o,v,w,z=>by
  have he:=h e<|r9 ..
  have hs:=Fq (f:=QG.Amount) (l:=l.map Prod.snd) λq c=>by
   obtain⟨y,A,rfl⟩:=lX.1 c;have:=(h y<|L3 _ A).1.1;omega
  simp only[Of,Y0] at v z
  have C:=b.aS (a:=e.2.Amount) (d:=d) hQ;by_cases m:ZU r e.2=d
  .have g:(ZU r e.2==d)=true:=by simpa using m
   have step:KS (some 0) d 0 0 e ([JA r t u],[M])=some ([JA r t<|OR r e.2.Amount d u],[J7 M e.1]):=by
    unfold KS;simp only[];rw[Pz b he.2];have j:(JA r t u).moving=some 0:=rfl;simp only[K1,g,B1,C2,j,bJ,QO,lb];rw[Is b hQ i hQ hQ];rfl
   simp only[VH,step,K1];have k:=P0 b i (l:=l) (u:=OR r e.2.Amount d u) (M:=J7 M e.1) (λq c=>h q<|L3 _ c) (by show 0<=u.B.Used+e.2.Amount;omega) (by show u.B.Used+e.2.Amount+_<=_;omega) (by show 0<=u.B.Due+Wp r e.2.Amount d;omega) (by show u.B.Due+Wp r e.2.Amount d+_<=_;omega);rw[k];simp only[Ni,OR,Sc,Of,lS,g,B1,Y0,o1,qBK]
  .have g:(ZU r e.2==d)=false:=by simpa using m
   have step:KS (some 0) d 0 0 e ([JA r t u],[M])=some ([JA r t u],[M]):=by
    unfold KS;simp only[];rw[Pz b he.2];simp only[K1,g,W1,Bm]
   simp only[VH,step,K1];have k:=P0 b i (l:=l) (u:=u) (M:=M) (λq c=>h q<|L3 _ c) o hQ w hQ;rw[k];simp only[Ni,Sc,Of,lS,g,W1,Bm,o1]
theorem Du:∀{l M:Q0 (Int×QG)},(M.map Prod.fst).Nodup->Sc r d M l=M.filter (λe=> !(l.any λy=>ZU r y.2==d&&y.1==e.1))
 | [],M,_=>by
  have:M.filter (λe=> !(([]:Q0 (Int×QG)).any λy=>ZU r y.2==d&&y.1==e.1))=M:=el.2 λ_ _=>rfl;rw[this];rfl
 | y::l,M,b=>by
  unfold Sc;rw[o1];by_cases a:(ZU r y.2==d)=true
  .rw[DO a];have:=Du (l:=l) (M:=J7 M y.1)<|B7 b;unfold Sc at this
   rw[this,XH b,oM];refine td λe _=> ?_;simp only[qBJ,a,ln,qBd,qBL]
  .simp only[sf] at a
   rw[Do<|by simp[a]];have:=Du (l:=l) (M:=M) b;unfold Sc at this
   rw[this];refine td λe _=> ?_;simp only[qBJ,a,iF,oS]
theorem uf(o:Vj r)(q:0<=d)(h:dJ r u){m:Q0 (Int×QG)}(j:m.Perm (u.B.Moving.map DA)):SN (KS (some 0) d 0 0) m ([JA r t u],[m])=some ([JA r t<|O4 r d u [] u.B.Moving],[m.filter λe=> !(ZU r e.2==d)]):=by
 have k:(m.map Prod.fst).Nodup:=(j.map Prod.fst).nodup_iff.2<|Fy h.sorted;refine qO λl' b=> ?_
 have a:(l'.map Prod.snd).Perm u.B.Moving:=by
  have c:=(b.trans j).map Prod.snd;have i:(u.B.Moving.map DA).map Prod.snd=u.B.Moving:=by rw[qAF];exact qBa _
  rwa[i] at c
 have hs:=D8 (f:=QG.Amount) a;have g:∀e∈l',(1<=e.2.Amount/\e.2.Amount<=17179869184)/\0<=e.2.Sent/\e.2.Sent<=65536:=λe he=>h.mov e.2<|a.mem_iff.1<|wt he;rw[P0 o q g h.used.1 (by rw[hs];exact h.used.2) h.due.1 (by rw[hs];exact h.due.2),Du k]
 have v:m.filter (λe=> !(l'.any λy=>ZU r y.2==d&&y.1==e.1))=m.filter (λe=> !(ZU r e.2==d)):=td λe he=>by
  congr 1;rw[ob,lT];simp only[BY,r6];constructor
  .rintro⟨y,w,c,i⟩;have:=Mb k (b.mem_iff.1 w) he i;rw[<-this];exact c
  .intro c;exact⟨e,b.mem_iff.2 he,c,rfl⟩
 rw[v];have z:Y0 QG.Amount ((l'.map Prod.snd).filter λp=>ZU r p==d)=Y0 QG.Amount (u.B.Moving.filter λp=>ZU r p==d):=D8<|a.filter _;have A:Y0 (λp=>Wp r p.Amount d) ((l'.map Prod.snd).filter λp=>ZU r p==d)=Y0 (λp=>Wp r p.Amount d) (u.B.Moving.filter λp=>ZU r p==d):=D8<|a.filter _;simp only[Ni,O4,JA,z,A]
theorem Ma(v:Vj r)(D:0<=day){R:KM}:∀{ks:Q0 Int} {u:Acc} {m:Q0 (Int×QG)},ks.Pairwise (·< ·)->(∀d∈ks,0<=d/\d<=day)->dJ r u->(∀p∈u.B.Moving,ZU r p<=day->ZU r p∈ks)->m.Perm (u.B.Moving.map DA)->
  ∃j,VH (VK<|some 0) ks ([JA r t u],[m],R)=some ([JA r t<|Gm r day u],[j],R)/\j.Perm ((Gm r day u).B.Moving.map DA)
 | [],u,m,_,_,h,k,o=>by
  have e:=vE (r:=r) (d:=day) (s:=u) λp a=>by
   have:=k p a;simp only[oo,imp_false] at this;omega
  rw[e];exact⟨m,rfl,o⟩
 | d::ks,u,m,hs,z,h,k,o=>by
  have b:=IR.1 hs;have c:=z d<|r9 ..
  have f:∀p∈u.B.Moving,d<=ZU r p:=λp a=>by
   by_cases E:ZU r p<=day
   .rcases A4.1 (k p a E) with e | e
    .omega
    .have:=b.1 _ e;omega
   .omega
  have g:=uf (t:=t) v c.1 h o;rw[kM f] at g
  have w:(JA r t u).moving=some 0:=rfl
  have step:VK (some 0) d ([JA r t u],[m],R)=some ([JA r t<|Gm r d u],[m.filter λe=> !(ZU r e.2==d)],R):=by
   unfold VK;simp only[K1,C2,w,g]
  have y:(m.filter λe=> !(ZU r e.2==d)).Perm ((Gm r d u).B.Moving.map DA):=by
   refine(o.filter _).trans<|.of_eq ?_;rw[qBA];show(u.B.Moving.filter λp=> !(ZU r p==d)).map DA=(u.B.Moving.filter λp=>decide<|d < ZU r p).map DA;congr 1;refine td λp a=> ?_;have:=f p a;by_cases e:ZU r p=d
   .simp[e]
   .have F:d < ZU r p:=by omega
    simp[e,F]
  obtain⟨j,A,C⟩:=Ma v D (R:=R) b.2 (λq G=>z q<|L3 _ G) (h.book v (d:=d)) (λp a H=>by
   have i:=rW.1 a;rcases A4.1 (k p i.1 H) with e | e
   .have:=i.2;simp only[TO] at this;omega
   .exact e) y
  rw[vF c.2] at A C
  exact⟨j,by simp only[VH,step,K1];exact A,C⟩
theorem yA(h:Xz r n t s)(o:t<=day)(D:0<=t)(E:day<=65536)(w:u.B.Bonds=s.B.Bonds)(g:u.Sums=s.Sums):ZV (JH day 0<|JA r t u) (0,[JA r t u])=some [JA r t {u with Sums:=λi=>if i < 16 then s.Sums i+s.B.Bonds i*(day - t) else s.Sums i}]:=by
 obtain⟨f,b,a⟩:=GN (body:=JH day 0<|JA r t u) (λi (f:Nat->Int)=>((i:Int),[JA r t {u with Sums:=f}])) (λf=>[JA r t {u with Sums:=f}]) (λi f=>f=λk=>if k < i then s.Sums k+s.B.Bonds k*(day - t) else s.Sums k) 16
  (λi f hi b=>by
   have e:YY 16 ((i:Nat):Int)=some i:=H0 hi;have F:=h.sums i hi;have q:=h.bonds i hi;have j:f i=s.Sums i:=by rw[b];simp
   have y:0<=s.B.Bonds i*(day - t):=oE q.1 hQ;have z:s.B.Bonds i*(day - t)<=17179869184*(day - t):=qAB q.2 hQ;have A:(JA r t u).book.Bonds i=s.B.Bonds i:=by show u.B.Bonds i=_;rw[w]
   have C:(JA r t {u with Sums:=f}).day=t:=rfl;have es:(JA r t {u with Sums:=f}).sums i=s.Sums i:=j;refine⟨ZF f i<|s.Sums i+s.B.Bonds i*(day - t),?_,?_⟩
   .unfold JH;rw[DO ia];simp only[e,K1,QO,A,C2,C,es,lb,Tm (by omega:i<=4294967296)];rw[Qs (n:=day - t) hQ hQ,Qs (n:=s.B.Bonds i*(day - t)) hQ hQ,Qs (n:=s.Sums i+s.B.Bonds i*(day - t)) hQ hQ];rfl
   .funext k;by_cases v:k=i
    .subst v;rw[UF,DO hQ]
    .rw[Wa v,b];by_cases c:k < i
     .simp only[c,B1];rw[DO hQ]
     .simp only[c,Bm];rw[Do hQ])
  (λf b=>by unfold JH;rw[Do ic]) 16 0 u.Sums rfl (by rw[g];funext k;simp)
 have m:ZV (JH day 0<|JA r t u) (0,[JA r t u])=some [JA r t {u with Sums:=f}]:=a;rw[m,b]
theorem EW(j:Vj r)(h:Xz r n t s)(G:n<=4096)(H:0<=t)(f:t<=day)(v:day<=65536)(c:PR r t s A1 A2 A3):∃g i A3',Yl A1 A2 A3 (some 0) day=some (g,i,A3')/\PR r day (XX r t day s) g i A3' :=by
 obtain⟨m,E,a⟩:=c.m;obtain⟨I,rest,K,w,y⟩:=c.k;have z:=h.lJ G hQ
 have b:∀e∈m,e.2∈s.B.Moving:=λe he=>by
  obtain⟨q,L,rfl⟩:=lX.1<|a.mem_iff.1 he;exact L
 have M:=xR (A3:=A3) (day:=day) j c.o E (by have:=a.length_eq;have:=h.mlen;simp at*;omega) λe he=>(z.mov e.2<|b e he).2
 obtain⟨F,A,C⟩:=Ma (t:=t) j (by omega:0<=day) (R:=A3++[Xy r day [] m]) (ks:=gQ r day m) (u:=s) (m:=m) yi (λd v=>by
   obtain⟨Q,e,he,N⟩:=ug.1 v;have:=(z.mov e.2<|b e he).2;have:=j.transit;unfold ZU at N;omega) z (λp c P=>ug.2 ⟨P,DA p,a.mem_iff.2<|wt c,rfl⟩) a
 have D:=yA h f H v (u:=Gm r day s) rfl rfl;unfold Yl;rw[K1];refine⟨[JA r day<|XX r t day s],[F],A3++[Xy r day [] m],ZZ M (ZZ (by rw[c.o,E];exact A) ?_),rfl,⟨F,rfl,C⟩,⟨I,rest++[Xy r day [] m],by rw[K];rfl,w,y⟩⟩;simp only[K1,C2];refine ZZ D ?_;simp only[K1,C2,QO,lb];rfl
end
section
open Go.Dec
variable{r:Fe}{n:Nat}{t d:Int}{s s' :Acc}{x:Ev}{p:QG}
abbrev cI:Bk:=ZR.mk (λ_=>0) ([]) 0 0 0 0 0 0 0 0
def fE:(Acc ⊕ Int)×Nat->Bk×Int×Int
 | (.inl a,k)=>(a.B,(k:Int),0)
 | (.inr e,k)=>(cI,(k:Int),e)
theorem fR{e:Int}(h:DT r s x= .inr e):e=4∨e=5∨e=10∨e=11∨e=12:=by
 unfold DT AR EF SK BJ AP yW at h
 repeat' split at h
 all_goals first | (cases h;done) | (simp only[lU] at h;subst h;simp)
theorem vz{c:FA}{e:Int}(h:YL r c x= .inr e):e=1∨e=7∨e=4∨e=5∨e=10∨e=11∨e=12:=by
 unfold YL at h
 split at h
 .simp only[lU] at h;omega
 .split at h
  .simp only[lU] at h;omega
  .split at h
   .cases h
   .rename_i a he;simp only[lU] at h
    subst h;have:=fR he;omega
theorem Eu(f:Vj r){day:Int}:∀{l:Q0 Ev} {n:Nat} {c c' :FA} {k:Nat},Xz r n c.day c.acc->0<=c.day->c.day<=day->Hj r day l n c=(.inl c',k)->Xz r k c'.day c'.acc/\0<=c'.day/\c'.day<=day/\n<=k/\k<=n+l.length
 | [],n,c,c',k,h,b,e,a=>by
  simp only[Hj,T2,s8] at a
  obtain⟨rfl,rfl⟩:=a;exact⟨h,b,e,So _,by simp⟩
 | x::l,n,c,c',k,h,b,e,a=>by
  rw[Hj] at a
  split at a
  .rename_i o;split at a
   .rename_i q hs;obtain⟨g,u,v,_⟩:=Bw f h b hs;obtain⟨i,j,m,w,y⟩:=Eu f g hQ hQ a;exact⟨i,j,m,by omega,by simp only[L4];omega⟩
   .simp only[T2,reduceCtorEq,false_and] at a
  .simp only[T2,s8] at a
   obtain⟨rfl,rfl⟩:=a;exact⟨h,b,e,So _,by simp⟩
def Ot:(FA ⊕ Int)×Nat->(Int×Int×Acc) ⊕ (Bk×Int×Int)
 | (.inl c,k)=>.inl (c.day,(k:Int),c.acc)
 | (.inr e,k)=>.inr (cI,(k:Int),e)
end
section
open Go.Dec
variable{l:Q0 Ev}
variable{r:Fe}{n:Nat}{t d day:Int}{s:Acc}{x:Ev}{p:QG}{A1:Q0 QD}{A2:PM}{A3:KM}
abbrev Deed:=(Q0 QD×PM×KM×Ev)->Q2 dy
theorem TS:∃D:Nat->Deed,Ut (some 0)=some D/\∀(x:Ev),XN x=true->∃j,YY 7 x.Kind=some j/\
  ∀{r:Fe} {n:Nat} {t:Int} {s:Acc} {A1:Q0 QD} {A2:PM} {A3:KM},Vj r->Xz r n t s->n<=4096->0<=t->t<=65536->PR r t s A1 A2 A3->x.Day=t->X5 r t (DT r s x) (D j (A1,A2,A3,x)):=by
 refine⟨_,rfl,λx he=> ?_⟩;have i:∀{k:Nat},k < 7->x.Kind=(k:Int)->YY 7 x.Kind=some k:=λo e=>by rw[e];exact H0 o
 rcases qt he with k | k | k | k | k | k | k
 .refine⟨0,i hQ k,λf h c g m b a=> ?_⟩;have:=zB h c b he k;unfold DT;rw[k];exact this
 .refine⟨1,i hQ k,λf h c g m b a=> ?_⟩;have:=yG h b he k;unfold DT;rw[k];exact this
 .refine⟨2,i hQ k,λf h c g m b a=> ?_⟩;have:=Oh f h c g b he k a;unfold DT;rw[k];exact this
 .refine⟨3,i hQ k,λf h c g m b a=> ?_⟩;have:=Og f h c b he k;unfold DT;rw[k];exact this
 .refine⟨4,i hQ k,λf h c g m b a=> ?_⟩;have:=qq h c b he k;unfold DT;rw[k];exact this
 .refine⟨5,i hQ k,λf h c g m b a=> ?_⟩;have:=j8 f h c g m b he k a;unfold DT;rw[k];exact this
 .refine⟨6,i hQ k,λf h c g m b a=> ?_⟩;have:=uN h c b he k;unfold DT;rw[k];exact this
def bA(r:Fe)(out:(FA ⊕ Int)×Nat)(q:Q2 ((Int×Q0 QD×PM×KM) ⊕ (Zv×Int×Int×Q2 Nat))):Prop:=match out with
 | (.inl c,k)=>∃A1 A2 A3,q=some (.inl ((k:Int),A1,A2,A3))/\PR r c.day c.acc A1 A2 A3
 | (.inr e,k)=>q=some (.inr (⟨e⟩,(k:Int),0,some 0))
theorem ME(u:Vj r)(N:day<=65536)(P:l.length<=4096){D:Nat->Deed}(K:∀(x:Ev),XN x=true->∃j,YY 7 x.Kind=some j/\
  ∀{r:Fe} {n:Nat} {t:Int} {s:Acc} {A1:Q0 QD} {A2:PM} {A3:KM},Vj r->Xz r n t s->n<=4096->0<=t->t<=65536->PR r t s A1 A2 A3->x.Day=t->X5 r t (DT r s x) (D j (A1,A2,A3,x)))
  {r33:Q2 Nat×Q0 QD×PM×KM} (i:r33.1=some 0):∀(post:Q0 Ev) (n:Nat) (c:FA) (A1:Q0 QD) (A2:PM) (A3:KM),l.drop n=post->n<=l.length->Xz r n c.day c.acc->0<=c.day->c.day<=day->PR r c.day c.acc A1 A2 A3->
  bA r (Hj r day post n c) (ZV (KH l day r33 D) ((n:Int),A1,A2,A3))
 | [],n,c,A1,A2,A3,q,Q,h,B,R,v=>by
  have e:n=l.length:=by have:=List.drop_eq_nil_iff.1 q;omega
  have:KH l day r33 D ((n:Int),A1,A2,A3)=some (.done<|.inl ((n:Int),A1,A2,A3)):=by
   unfold KH;rw[Do<|by simp[e]];rfl
  rw[ZK,this];exact⟨A1,A2,A3,rfl,v⟩
 | x::post,n,c,A1,A2,A3,q,Q,h,B,R,v=>by
  have C:n < l.length:=by
   rcases u0 n l.length with h | h
   .exact h
   .rw[x4 h] at q;cases q
  have y:l[n]? =some x:=by rw[<-qA9,q];rfl
  have E:l.drop (n+1)=post:=by rw[<-List.tail_drop,q];rfl
  have L:(A1[0]?)=some (JA r c.day c.acc):=by rw[v.o];rfl
  have M:(JA r c.day c.acc).day=c.day:=rfl;rw[Hj];by_cases b:x.Day<=day
  .rw[DO b];by_cases he:XN x=true
   .by_cases k:x.Day < c.day
    .have:KH l day r33 D ((n:Int),A1,A2,A3)=some (.done<|.inr (⟨7⟩,(n:Int),0,some 0)):=by
      unfold KH;rw[DO ia];simp only[Zq,y,K1,b,lL,B1,CC,he];rw[WJ<|SR 1,i];have F:decide (x.Day≥c.day)=false:=by simp;omega
      simp only[K1,L,M,F];rw[WA<|Pr 7]
     have hs:YL r c x= .inr 7:=by unfold YL;simp only[he,RW,W1,Bm,k,B1]
     rw[ZK,this,hs];rfl
    .obtain⟨S,T,V,m,G⟩:=EW u h hQ B (show c.day<=x.Day by omega) hQ v;obtain⟨j,W,f⟩:=K x he;have H:=Oo u h (show c.day<=x.Day by omega);have f:=f u H hQ hQ hQ G rfl
     have z:KH l day r33 D ((n:Int),A1,A2,A3)=Q5 (D j (S,T,V,x)) (λw=>some<|.done<|.inr (w,(n:Int),0,some 0)) λg=>some (.next (((n+1:Nat):Int),g.1,g.2.1,g.2.2)):=by
      unfold KH;rw[DO ia];simp only[Zq,y,K1,b,lL,B1,CC,he];rw[WJ<|SR 1,i];have F:decide (x.Day≥c.day)=true:=by simp;omega
      simp only[K1,L,M,F];rw[WJ<|SR 7,m];simp only[K1,W,QO,Tm (by omega:n<=4294967296)]
     have hs:YL r c x=match DT r (XX r c.day x.Day c.acc) x with | .inl a=>.inl ⟨a,x.Day⟩ | .inr e=>.inr e:=by unfold YL;simp only[he,RW,W1,Bm,k]<;>rfl
     unfold X5 at f
     cases A:DT r (XX r c.day x.Day c.acc) x with
     | inl a=>
      rw[A] at f
      obtain⟨X,Y,Z,hC,I⟩:=f;rw[WJ hC] at z
      rw[A] at hs
      have hs:YL r c x= .inl ⟨a,x.Day⟩:=hs;obtain⟨g1,g2,g3,_⟩:=Bw u h B hs;rw[ZK,z,hs];exact ME u N P K i post (n+1) ⟨a,x.Day⟩ X Y Z E C g1 hQ b I
     | inr e=>
      rw[A] at f
      rw[WA f] at z
      rw[A] at hs
      have hs:YL r c x= .inr e:=hs;rw[ZK,z,hs];rfl
   .simp only[sf] at he
    have:KH l day r33 D ((n:Int),A1,A2,A3)=some (.done<|.inr (⟨1⟩,(n:Int),0,some 0)):=by
     unfold KH;rw[DO ia];simp only[Zq,y,K1,b,lL,B1,CC,he];rw[WA<|Pr 1,i]
    have hs:YL r c x= .inr 1:=by unfold YL;simp only[he,u1,B1]
    rw[ZK,this,hs];rfl
  .have:KH l day r33 D ((n:Int),A1,A2,A3)=some (.done<|.inl ((n:Int),A1,A2,A3)):=by
    unfold KH;rw[DO ia];simp only[Zq,y,K1,b,lP,W1,Bm]
   rw[ZK,this,Do b];exact⟨A1,A2,A3,rfl,v⟩
def Ik(r:Fe)(day:Int)(out:(Acc ⊕ Int)×Nat)(q:Q2 (Q2 Nat×Int×Int×Q0 QD×PM×KM)):Prop:=match out with
 | (.inl a,k)=>∃A1 A2 A3,q=some (some 0,(k:Int),0,A1,A2,A3)/\PR r day a A1 A2 A3
 | (.inr e,k)=>q=some (none,(k:Int),e,[],[],[])
theorem cO(r:Fe):PR r 0 SA [JA r 0 SA] [[]] [[]]:=⟨rfl,⟨[],rfl,by simp[SA]⟩,⟨[],[],rfl,by simp,λi=>by simp[QZ,SA]⟩⟩
theorem GJ(h:r.Rates.length<=1000000)(_:l.length<=4096∨4096 < l.length):Ik r day (JV r l day) (XI r l day):=by
 unfold XI JV;rw[A6 h,K1];by_cases f:Gv r=true
 .simp only[f,RW,W1,Bm];by_cases w:l.length > 4096
  .have i:decide ((l.length:Int) > 4096)=true:=by simp;omega
   rw[DO w,DO i];rfl
  .have i:¬decide ((l.length:Int) > 4096)=true:=by simp;omega
   rw[Do w,Do i];by_cases g:XB day 0 65536=true
   .simp only[P6,g,RW,W1,Bm];have j:=Pl.1 f;have y:=J2.1 g;obtain⟨D,A,m⟩:=TS;have o:Wu [] [] [] r=some (some 0,[JA r 0 SA],[[]],[[]]):=rfl;have a:=ME j y.2 (by omega:l.length<=4096) m (r33:=(some 0,[JA r 0 SA],[[]],[[]])) rfl l 0 NI _ _ _ (qAK ..) (oh _) (IZ r) (by simp[NI]) (by simp[NI];omega)<|cO r;rw[o,K1,A,K1];unfold bA at a
    unfold AV;cases z:Hj r day l 0 NI with
    | mk q k=>
     rw[z] at a
     cases q with
     | inr e=>
      have a:ZV (KH l day (some 0,[JA r 0 SA],[[]],[[]]) D) (0,[JA r 0 SA],[[]],[[]])=_:=a;rw[a];rfl
     | inl c=>
      obtain⟨A1,A2,A3,u,B⟩:=a;have u:ZV (KH l day (some 0,[JA r 0 SA],[[]],[[]]) D) (0,[JA r 0 SA],[[]],[[]])=_:=u;obtain⟨C,E,F,K,L⟩:=Eu j (IZ r) (by simp[NI]) (by simp[NI];omega) z;obtain⟨G,H,I,b,v⟩:=EW j C hQ E F y.2 B;rw[u,K1];exact⟨G,H,I,ZZ b rfl,v⟩
   .simp only[sf] at g
    simp only[P6,g,u1,B1];rfl
 .simp only[sf] at f
  simp only[f,u1,B1];rfl
theorem SL{a:Acc}{k:Nat}(h:JV r l day=(.inl a,k)):Vj r/\Xz r k day a/\(0<=day/\day<=65536)/\k<=l.length:=by
 unfold JV at h
 split at h
 .simp at h
 .rename_i e;split at h
  .simp at h
  .split at h
   .simp at h
   .rename_i f;have b:=Pl.1 (by simpa using e:Gv r=true);have g:=J2.1 (by simpa using f:XB day 0 65536=true);unfold AV at h
    split at h
    .rename_i c o i;simp only[T2,s8] at h
     obtain⟨rfl,rfl⟩:=h;obtain⟨j,q,m,u,v⟩:=Eu b (IZ r) (by simp[NI]) (by simp[NI];omega) i;exact⟨b,Oo b j m,g,by omega⟩
    .simp at h
theorem uk:∀{n:Nat} {c:FA} {e:Int} {k:Nat},Hj r day l n c=(.inr e,k)->(e=1∨e=7∨e=4∨e=5∨e=10∨e=11∨e=12)/\n<=k/\k < n+l.length:=by
 induction l with
 | nil=>intro n c e k h;simp[Hj] at h
 | cons x l a=>
  intro n c e k h;rw[Hj] at h
  split at h
  .split at h
   .have:=a h;simp only[L4];exact⟨this.1,by omega,by omega⟩
   .rename_i b hs;simp only[T2,lU] at h
    obtain⟨rfl,rfl⟩:=h;simp only[L4];exact⟨vz hs,by omega,by omega⟩
  .simp at h
theorem AD{e:Int}{k:Nat}(h:JV r l day=(.inr e,k)):e≠0:=by
 unfold JV at h
 split at h
 .simp at h;omega
 .split at h
  .simp at h;omega
  .split at h
   .simp at h;omega
   .unfold AV at h
    split at h
    .simp at h
    .rename_i b c a;simp only[T2,lU] at h
     obtain⟨rfl,rfl⟩:=h;have:=uk a;omega
end
section
open Go.Dec
variable{l:Q0 QG}
variable{r:Fe}{n:Nat}{t d day:Int}{s a:Acc}{x:Ev}{p:QG}{l:Q0 Ev}
theorem Bx:∀{a b:Q0 Int},a.Pairwise (·< ·)->b.Pairwise (·< ·)->(∀x,x∈a↔x∈b)->a=b
 | [],[],_,_,_=>rfl
 | [],y::b,_,_,h=>by have:=(h y).2 ic;simp at this
 | x::a,[],_,_,h=>by have:=(h x).1 ic;simp at this
 | x::a,y::b,m,o,h=>by
  have c:=IR.1 m;have f:=IR.1 o
  have i:x=y:=by
   have j:=(h x).1 ic;have k:=(h y).2 ic;rcases A4.1 j with e | j
   .exact e
   .rcases A4.1 k with e | k
    .exact e.symm
    .have:=f.1 x j;have:=c.1 y k;omega
  subst i;congr 1;refine Bx c.2 f.2 λz=> ?_;constructor
  .intro g;have:=(h z).1<|L3 _ g;rcases A4.1 this with rfl | this
   .have:=c.1 z g;omega
   .exact this
  .intro g;have:=(h z).2<|L3 _ g;rcases A4.1 this with rfl | this
   .have:=f.1 z g;omega
   .exact this
theorem qh{l:Q0 QG}(h:l.Pairwise (λp q=>p.Id < q.Id)):(l.map QG.Id).Pairwise (·< ·):=qAw.2 h
theorem uh{m:Q0 (Int×QG)}{l:Q0 QG}(hs:l.Pairwise (λp q=>p.Id < q.Id))(f:m.Perm (l.map DA))(u:∀p∈l,0<=p.Id/\p.Id<=1073741824)(z:l.length<=1000000):FC m=some (l.map QG.Id):=by
 have g:(m.map Prod.fst).Perm (l.map QG.Id):=by
  have:=f.map Prod.fst;have e:(l.map DA).map Prod.fst=l.map QG.Id:=by rw[qAF];rfl
  rwa[e] at this
 unfold FC;rw[DO]
 .congr 1;have j:((m.map Prod.fst).mergeSort λa b=>decide<|a<=b).Pairwise (λa b=>decide (a<=b)=true):=qBN (λa b c j k=>by simp only[TO] at*;omega) (λa b=>by simp only[mx,TO];omega) _;have o:=(qAE (m.map Prod.fst) λa b=>decide<|a<=b).trans g;have i:(l.map QG.Id).Nodup:=(qh hs).imp λh=>qBT h;have k:((m.map Prod.fst).mergeSort λa b=>decide<|a<=b).Nodup:=o.nodup_iff.2 i;exact Bx ((j.and k).imp λh=>by have:=h.1;have:=h.2;simp only[TO] at*;omega) (qh hs) λx=>o.mem_iff
 .refine⟨IN.2 λy v=> ?_,by have:=f.length_eq;simp at this;omega⟩;obtain⟨q,w,rfl⟩:=lX.1<|f.mem_iff.1 v;have:=u q w;exact aT<|show -9223372036854775808<=q.Id/\q.Id<=9223372036854775807 by omega
theorem ur{l:Q0 QG}(hs:l.Pairwise (λp q=>p.Id < q.Id))(b:p∈l):l.find? (λq=>q.Id==p.Id)=some p:=by
 cases h:l.find? (λq=>q.Id==p.Id) with
 | none=>have:=List.find?_eq_none.1 h p b;simp at this
 | some q=>
  have c:=lf h;have e:q.Id=p.Id:=by simpa using List.find?_some h
  rw[xW hs c b e]
theorem vc{amount:Int}(e:r.Rates.length<=1000000):HB r amount day=some (if !Gv r then(0,1) else if !XB amount 0 17179869184|| !XB day 0 65536 then(0,2) else(Wp r amount day,0)):=by
 unfold HB;rw[A6 e,K1];simp only[Fi,P6];by_cases c:Gv r=true
 .simp only[c,RW,W1,Bm];by_cases b:(!XB amount 0 17179869184|| !XB day 0 65536)=true
  .rw[DO b,DO b]
  .rw[Do b,Do b];simp only[mx,r8,not_or,Bool.not_eq_false] at b
   have f:=J2.1 b.1;have g:=J2.1 b.2;exact ZZ (P9 (Pl.1 c) f.1 f.2 g.1) rfl
 .simp only[sf] at c
  simp only[c,u1,B1]
theorem EV{k:Nat}(h:JV r l day=(.inl a,k)):l.length<=4096:=by
 rcases u0 4096 l.length with b | b
 .unfold JV at h
  split at h
  .simp at h
  .simp at h
 .exact b
theorem qW{A1:Q0 QD}{m:Q0 (Int×QG)}{k e:Int}{o:Q2 Nat}{A3:KM}(hs:a.B.Moving.Pairwise (λp q=>p.Id < q.Id))(j:m.Perm (a.B.Moving.map DA))(z:a.B.Moving.length<=1000000):ZV (UQ (o,k,e,A1,[m],A3) (JA r day a)<|a.B.Moving.map QG.Id) (0,(JA r day a).book)=some a.B:=by
 obtain⟨b,g,c⟩:=Ha (body:=UQ (o,k,e,A1,[m],A3) (JA r day a)<|a.B.Moving.map QG.Id) (λi (b:Bk)=>((i:Int),b)) (λb=>b) (λpre b=>b={a.B with Moving:=pre}) a.B.Moving
  (λpre q post b f g=>by
   have u:pre.length < a.B.Moving.length:=by rw[f];simp
   have v:(a.B.Moving.map QG.Id)[pre.length]? =some q.Id:=by rw[f];simp
   have h:(JA r day a).moving=some 0:=rfl;have w:QZ m q.Id=some q:=by rw[qk hs j];exact ur hs (by rw[f];simp)
   refine⟨{a.B with Moving:=pre++[q]},?_,rfl⟩;subst g;unfold UQ;rw[DO ia];simp only[Zq,v,K1,h,C2,w,om];refine ZZ (Td ia) ?_;simp only[QO,Tm (by omega:pre.length<=4294967296)])
  (λb g=>by
   unfold UQ;rw[Do ic]) a.B.Moving [] {a.B with Moving:=[]} rfl rfl
 have y:ZV (UQ (o,k,e,A1,[m],A3) (JA r day a)<|a.B.Moving.map QG.Id) (0,(JA r day a).book)=some b:=c;rw[y,g]
theorem AU(i:r.Rates.length<=1000000)(A:l.length<=4096∨4096 < l.length):XJ r l day=some (fE<|JV r l day):=by
 have c:=GJ (day:=day) i A;unfold Ik at c
 unfold XJ;cases h:JV r l day with
 | mk q k=>
  rw[h] at c
  cases q with
  | inr e=>
   have he:=AD h;have c:XI r l day=some (none,(k:Int),e,[],[],[]):=c;have j:(e != 0)=true:=by simpa using he
   rw[c];simp only[K1,j,B1,fE]
  | inl a=>
   obtain⟨A1,C,A3,D,y⟩:=c;obtain⟨F,b,G,H⟩:=SL h;obtain⟨m,z,f⟩:=y.m;have g:a.B.Moving.length<=1000000:=by have:=EV h;have:=b.mlen;omega
   have E:A1[0]? =some (JA r day a):=by rw[y.o];rfl
   have u:UG C (some 0)=some (a.B.Moving.map QG.Id):=by
    rw[z];simp only[UG,C2,K1];exact uh b.sorted f (λp c=>(b.mov p c).id) g
   rw[D];simp only[K1,bne_self_eq_false,W1,Bm,E];have v:fF (JA r day a).book.Moving=some ():=rfl;have w:(JA r day a).moving=some 0:=rfl;rw[v,K1,w,u,K1,z];exact ZZ (qW b.sorted f g) rfl
end
section
open Go.Dec
variable{r:Fe}{n:Nat}{t d day:Int}{s a:Acc}{x:Ev}{p:QG}{l:Q0 Ev}
theorem xi{k:Nat}{b:Acc}(h:Xz r k d b)(c:k<=4096):(0<=b.B.Due/\b.B.Due<=4611686018427387904)/\0<=b.B.Paid/\b.B.Paid<=b.B.Due:=by
 have:=h.pos;have:=h.due;have:=h.lim;omega
end
end Go.Proofs.YthfjpbooaofjcaaGreatDoor.Ex
namespace Go.Proofs.YthfjpbooaofjcaaGreatDoor.Bo
section
open Go.Dec
variable{s:Q0 QB}{x:QB}
def NV(x:QB)(n:Int):Prop:=x.Lo<=n/\n<=x.Hi
def mem(s:Q0 QB)(n:Int):Prop:=∃y∈s,NV y n
structure XP(s:List QB):Prop where
 ok:∀y∈s,0<=y.Lo/\y.Lo<=y.Hi/\y.Hi<=1099511627776
 apart:s.Pairwise λa b=>a.Hi+1 < b.Lo
theorem AI(n:Int):¬mem [] n:=by simp[mem]
theorem mem_cons(y:QB)(s:Q0 QB)(n:Int):mem (y::s) n↔NV y n∨mem s n:=by simp[mem]
theorem mem_append(s t:Q0 QB)(n:Int):mem (s++t) n↔mem s n∨mem t n:=by
 simp only[mem,mb];constructor
 .rintro⟨y,h | h,k⟩
  .exact .inl ⟨y,h,k⟩
  .exact .inr ⟨y,h,k⟩
 .rintro(⟨y,h,k⟩ | ⟨y,h,k⟩)
  .exact⟨y,.inl h,k⟩
  .exact⟨y,.inr h,k⟩
theorem XP.nil:XP []:=⟨by simp,by simp⟩
theorem XP.tail{y:QB}(h:XP (y::s)):XP s:=⟨λz a=>h.ok z (by simp[a]),(IR.1 h.apart).2⟩
theorem XP.tT{y:QB}(h:XP s)(b:0<=y.Lo/\y.Lo<=y.Hi/\y.Hi<=1099511627776)(hs:∀z∈s,y.Hi+1 < z.Lo):XP (y::s):=by
 refine⟨λz a=> ?_,IR.2 ⟨hs,h.apart⟩⟩;rcases A4.1 a with rfl | a
 .exact b
 .exact h.ok z a
theorem XP.append{t:Q0 QB}(h:XP s)(k:XP t)(d:∀a∈s,∀b∈t,a.Hi+1 < b.Lo):XP (s++t):=by
 refine⟨λz c=> ?_,qAh.2 ⟨h.apart,k.apart,d⟩⟩;rcases mb.1 c with c | c
 .exact h.ok z c
 .exact k.ok z c
theorem XP.split{t:Q0 QB}(h:XP (s++t)):XP s/\XP t/\∀a∈s,∀b∈t,a.Hi+1 < b.Lo:=by
 have:=qAh.1 h.apart;exact⟨⟨λz c=>h.ok z (by simp[c]),this.1⟩,⟨λz c=>h.ok z (by simp[c]),this.2.1⟩,this.2.2⟩
theorem Cm(s:Q0 QB)(f:QB->Bool)(c:s.length<=1000000):Jh s (λx=>some<|f x)=some (match s.findIdx? f with | some i=>(i:Int) | none=> -1):=by
 unfold Jh
 have key:=BN (body:=J5 s λx=>some<|f x) (fun(_:Unit) i=>(i:Int)) (λ_ i x=>if f x then some (.done<|.inr (i:Int)) else some (.next ())) (λ_=>.inl ()) s
  (λt i x a=>by
   have hi:=Zz a;unfold J5;simp only[Zq,a,K1];rw[Qs hQ hQ];simp only[show(decide<|(i:Int) < (s.length:Int))=true by simpa using hi,B1];cases f x<;>simp[UN.tU])
  (λt=>by unfold J5;simp) ()
 simp only[tO] at key
 rw[key]
 have gen:∀(l:Q0 QB) (i:Nat),NW (fun(_:Unit) i x=>if f x then some (.done<|.inr (i:Int)) else some (.next ())) (λ_=>(.inl ():Unit ⊕ Int)) l i ()=some (match l.findIdx? f with | some k=>.inr ((i+k:Nat):Int) | none=>.inl ()):=by
  intro l
  induction l with
  | nil=>intro i;simp[NW]
  | cons x l b=>
   intro i;simp only[NW,List.findIdx?_cons];cases d:f x with
   | true=>simp
   | false=>
    simp only[W1,Bm];rw[b];cases l.findIdx? f with
    | none=>simp
    | some k=>simp;omega
 rw[gen];cases s.findIdx? f<;>simp
theorem PE(s:Q0 QB)(f:QB->Bool)(a:s.length<=1000000):K5 s (λx=>some<|f x)=some (s.any f):=by
 unfold K5;rw[Cm s f a];simp only[K1,UV];cases h:s.findIdx? f with
 | none=>
  rw[qBH] at h
  simp only[show ¬((-1:Int)≥0) by omega,lP]
  symm;simpa using h
 | some i=>
  rw[qAs] at h
  obtain⟨hi,b,_⟩:=h;simp only[qAI,show(0:Int)<=(i:Int) by omega,lL]
  symm;rw[lT];exact⟨_,qA4 hi,b⟩
theorem qR(c:s.length<=1000000)(d:XP s)(f:x.Lo<=x.Hi):∃b,Yo s x=some b/\(b=true↔∃n,NV x n/\mem s n):=by
 refine⟨_,by unfold Yo;rw[PE s _ c];rfl,?_⟩;rw[lT];simp only[J4,BY,TO,mem,NV];constructor
 .rintro⟨y,a,g,i⟩;have:=d.ok y a;by_cases h:x.Lo<=y.Lo
  .exact⟨y.Lo,by omega,y,a,by omega⟩
  .exact⟨x.Lo,by omega,y,a,by omega⟩
 .rintro⟨n,e,y,a,h⟩;exact⟨y,a,by omega,by omega⟩
theorem Mm(d:XP s)(o:x.Lo<=x.Hi):(∃y∈s,y.Lo<=x.Lo/\x.Hi<=y.Hi)↔∀n,NV x n->mem s n:=by
 constructor
 .rintro⟨y,b,p,q⟩ n e;exact⟨y,b,by simp only[NV] at e ⊢;omega⟩
 .intro h;obtain⟨y,b,k⟩:=h x.Lo ⟨by omega,o⟩;refine⟨y,b,k.1,?_⟩;apply oC;intro r;simp only[NV] at k h
  obtain⟨z,l,f⟩:=h (y.Hi+1) ⟨by omega,by omega⟩;simp only[NV] at f
  have a:=d.apart;rw[qAN] at a
  obtain⟨i,hi,g⟩:=lz b;obtain⟨j,m,c⟩:=lz l;have t:=d.ok y b;have u:=d.ok z l;rcases qAu i j with h' | h' | h'
  .have:=a i j hi m h';rw[g,c] at this;omega
  .subst h';rw[g] at c;subst c;omega
  .have:=a j i m hi h';rw[g,c] at this;omega
theorem y5(a:s.length<=1000000)(c:XP s)(d:x.Lo<=x.Hi):∃b,Ve s x=some b/\(b=true↔∀n,NV x n->mem s n):=by
 refine⟨_,by unfold Ve;rw[PE s _ a];rfl,?_⟩;rw[lT,<-Mm c d];simp only[Yp,BY,TO]
end
end Go.Proofs.YthfjpbooaofjcaaGreatDoor.Bo
end
