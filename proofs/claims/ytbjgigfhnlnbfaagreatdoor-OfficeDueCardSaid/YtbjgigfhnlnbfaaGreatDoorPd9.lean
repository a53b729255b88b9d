/- For OfficeDue. -/
import Derived.Test.YtbjgigfhnlnbfaaGreatDoorPd8
noncomputable section
namespace Go.Dec
abbrev So:=@List.getElem?_cons_zero
abbrev IN:=@Int.le_refl
abbrev j3:=@List.pairwise_cons
abbrev y1:=@List.getElem?_set_self
abbrev u1:=@List.getElem?_set_ne
abbrev hH:=@Bool.not_eq_true
abbrev hJ:=@Sum.inl.injEq
abbrev hR:=@decide_eq_true
abbrev fm:=@Int.natCast_zero
abbrev bY:=@decide_eq_false
abbrev r6:=@decide_true
abbrev r7:=@Int.mul_nonneg
abbrev n1:=@decide_false
abbrev ma:=@Sum.inr.injEq
abbrev mq:=@List.mem_of_find?_eq_some
abbrev mx:=@List.set_set
abbrev lL:=@List.set_cons_zero
abbrev lR:=@Option.isNone_some
abbrev lS:=@List.filter_filter
abbrev lV:=@Classical.byContradiction
abbrev lZ:=@Bool.and_eq_true_iff
abbrev lr:=@Bool.eq_iff_iff
abbrev ls:=@List.length_singleton
abbrev lz:=@List.getElem?_mapIdx
abbrev eA:=@Int.mul_le_mul
abbrev eB:=@Bool.false_and
abbrev eE:=@List.takeWhile_cons
abbrev eH:=@List.foldl_cons
abbrev eM:=@Int.sub_self
abbrev eP:=@List.not_mem_nil
abbrev eS:=@List.getElem?_of_mem
abbrev eV:=@List.mergeSort_perm
abbrev eY:=@ge_iff_le
abbrev oC:=@List.length_filter_le
abbrev oL:=@List.map_congr_left
abbrev oQ:=@List.findIdx?_eq_some_iff_getElem
abbrev oS:=@bne_self_eq_false
abbrev oX:=@List.pairwise_map
abbrev oc:=@Int.add_zero
abbrev og:=@Bool.or_self
abbrev ov:=@Int.mul_add
abbrev iA:=@List.perm_ext_iff_of_nodup
abbrev iE:=@List.findIdx?_eq_none_iff
abbrev iH:=@List.any_cons
abbrev iI:=@Int.add_assoc
abbrev iJ:=@Bool.and_comm
abbrev iK:=@and_assoc
abbrev iL:=@List.pairwise_mergeSort
abbrev iQ:=@Nat.sub_self
abbrev iS:=@Int.ne_of_lt
abbrev iT:=@List.set_getElem_self
abbrev iY:=@List.map_id
abbrev ik:=@not_or
abbrev im:=@List.length_mapIdx
abbrev ix:=@List.nodup_append
end Go.Dec
section
set_option maxRecDepth 100000
set_option maxHeartbeats 4000000
namespace Go.Proofs.YtbjgigfhnlnbfaaGreatDoor
open Go.Dec Go.Proofs.Tryz Go.Shelf Go.RowKit Go.Maps Go.Sort
section
variable{g:Gp}{β:Type}{m:Q2 β}{r:β}{n:Nat}{D:Q0 TO}{S:Q0 (Nat×K2)}{F:Fz}{hs:Q0 HP}{L:QA}
theorem _root_.Go.Dec.GG.mP{v:K2}(i:Nat)(hi:hs[i]? =some (gl F L v))(k:∀q:QL,WL 29 K3 F q.1 L.rules->v= .agg (A9 L q).toArray->GG g (Hd n D S F<|xz F L q++hs.eraseIdx i) m r):GG g (Hd n D S F hs) m r:=GG.ak i hi λq h=>k q h.1 h.2
theorem _root_.Go.Dec.GG.nG{U:Jy}(i:Nat)(hi:hs[i]? =some (J6 U F L))(k:∀q:QL,WL 29 K3 F q.1 L.rules->GG g (Hd n D S F<|[pc U.g72 (A9 L q) 72,kv 8 (Ex QK) F 61 q.2.1 q.2.2.1 L.casks,kv 6 (Ex QN) F 63 q.2.2.2.1 q.2.2.2.2.1 L.duties,kv 4 (Ex QT) F 145 q.2.2.2.2.2.1 q.2.2.2.2.2.2.1 L.stamps,QY Tt wu F q.2.2.2.2.2.2.2.1 L.batches,QY Tt wq F q.2.2.2.2.2.2.2.2 L.pure]++hs.eraseIdx i) m r):GG g (Hd n D S F hs) m r:=GG.ak i hi λq h=>k q h
end
theorem yB{w:B1}{F F0:Fz}{a b:Nat}{c d:Q0 K2}{U:Jy}{A:Q0 Qr}{R:HP}(le:F0<=F)(h:SH w F (Qg [pc a c 9,pc b d 37,UZ U F0 A,R])):SH w F (star (Qg [UZ U F A]) R):=
 have e:=SH.push (k:=2) rfl<|(h.pull (k:=2) rfl).aN (VO U) le
 e.mono λ_ f=>Xw<|Ve<|Vd (ks:=[2,2]) f
def XW(A:Q0 Qr)(i:Nat)(x:Qr)(word:Q0 DO)(n:Q0 Int)(d:QW):Q2 (Q0 DO×Int×Q0 Qr):=
 (Ud d.form (n.length:Int)).bind λok=>Qw (Zf ok 8) (λq=>some ([],q.e,A)) λ_=>
 (if(!x.ledgers.rules.isNone) then some true else some (word==([100,97,121]:Q0 DO))).bind λa=>(if a then some true else some (word==([114,117,108,101,115]:Q0 DO))).bind λb=>
 Qw (Zf b 6) (λq=>some ([],q.e,A)) λ_=>(YZ x.ledgers).bind λL=>Qw (d.do_ (L,(),n)) (λq=>some ([],q.e,A)) λs=>some (s.1,0,A.set i {x with ledgers:=s.2})
def WE(A:Q0 Qr)(o:ON)(line:Q0 DO):Q2 (Q0 DO×Int×Q0 Qr):=
 (if o.isNone then some true else(o.bind λi=>(A[i]?).bind λx=>some<|!x.open_)).bind λz=>if z then some ([],13,A) else
 if decide ((line.length:Int) > 1000) then some ([],3,A) else
 o.bind λi=>(A[i]?).bind λx=>Qw (Vv (Zs.mk line) ()) (λq=>some ([],q.e,A)) λw=>
 XV.bind λD=>match Qb D w.1 with
  | none=>some ([],8,A)
  | some d=>XW A i x w.1 w.2.1 d
theorem DZ(F0:Fz)(hT:X8 F0)(U:Jy)(A:Q0 Qr)(o:ON)(p:Q2 C3)(_:Unit)(h:ZO U.g74 F0 p o)(line:Q0 DO):Xv Tryz.prog 9 [.pointer p,.string<|bs line].toArray F0 [UZ U F0 A] (WE A o line) (λr _ v=>v= .tuple #[.string<|bs r.1,vI r.2.1]) (λr F' =>[UZ U F' r.2.2]):=by
 refine Xv.nQ func9 J ntmps9 J λr R=>(.o (Sub.refl _) (J:_=[UZ U F0 A,R]) ?_);unfold WE;refine .w 2<|.l (cs:=[.string<|bs []]) J Tryz.zeroValue9 J λB=>.l (cs:=[vI 0]) J dz J λC=>.w 7<|.sD h J dR J J<|.m J J<|.rP (b:=o.isNone) 6 20 J (λa bG=> ?_) λz F1 c=> ?_
 ·refine .cG a J J<|.m J J<|.cG a J J<|.d λi e=> ?_;obtain⟨bo,E,F⟩:=h.at e;refine .cE F J J (.cG a J J<|.f J vF J W4 J<|.cG a J J<|.d λx ex=>.cI (Φ:=λv=>v=(.bool x.open_)) 2 J Fz.r E ex J V4 J (λvs ⟨q0,q1,q2,q3,q4,q5,q6,q7,q8,q9,H,Q,h,r0,r1,r2,r3,r4,r5⟩=>⟨_,by subst h;exact J,J⟩) λv S=> ?_);subst S;exact .cG a J J<|.not J J<|.cc a J J J<|.sL 6 J J ql Fz.r
 refine .w 3<|.i J (λhz=> ?_) λhz=> ?_
 ·exact .w 2<|.store (cs' :=[.string<|bs []]) W9 J J J J (i:=1) J (JV J) J J<|.store (cs' :=[vI 13]) zQ J J J J (i:=0) J (JV J) J J<|.w 2<|.cU 2 (VO U) c J<|.cz<|Hz (U:=()) [2,2] results9 (.cell J V9 (i:=1) J J<|.cell J Ey (i:=0) J J .nil) J c J
 refine .w 3<|.cy J J U9 J<|.w 4<|.i J (λhl=> ?_) λhl=> ?_
 ·exact .w 2<|.store (cs' :=[.string<|bs []]) W9 J J J J (i:=1) J (JV J) J J<|.store (cs' :=[vI 3]) zQ J J J J (i:=0) J (JV J) J J<|.w 2<|.cU 2 (VO U) c J<|.cz<|Hz (U:=()) [2,2] results9 (.cell J V9 (i:=1) J J<|.cell J Ey (i:=0) J J .nil) J c J
 refine .skip<|.d λi e=> ?_;obtain⟨bo,E,F⟩:=h.at e;refine .d (λx ex=>.w 4<|.makeFunc J J<|.defer J<|.w 5<|.build (cs:=(XG<|Zs.mk line).toArray) J dr Tryz.zeroValue84 (Nx _ dr) J J ql<|.box (cs:=XG<|Zs.mk line) J J J λb=>.rD (U:={U with g84:=b}) (L:=Zs.mk line) [0] J<|.cM [0] J call22 J J J J (SV _ (hT.mono c) {U with g84:=b} (Zs.mk line) ()) ?_ λq F2 _ l2=>Ff (U:=()) call21 (Ym _ B [] C 0) [1,0] J results9 (λ_ _=>.cell J V9 (i:=0) J J<|.cell J Ey (i:=1) J J .nil) (Fz.t c l2) (λI w le K=>yB (Fz.t c<|Fz.t l2 le) K) λ_=>J);rintro⟨word,n,rd⟩ F2 _ - l2 ⟨p7,k7,rfl,h7⟩;refine .pick [1,1,1,1] (J:_=[pc C [vI 0] 37,pc B [.string<|bs []] 9,UZ U F0 A,R])<|.w 9<|.cP J call23 J J J (Ml _<|hT.mono<|Fz.t c l2) ?_;rintro D F3 _ - Y ⟨pm,km,rfl,hm⟩;have ah:=h7.mono Y;show GL _ _ _ _ _ _ _ (match Qb D word with | none=>some ([],8,A) | some d=>XW A i x word n d) r;cases hg:Qb D word with
 | none=>
  exact .m J J (.tL hm J M2 (.str U9) NB J J (λ_=>(.w 3<|.l (cs:=[.int .i64 0,.int .i64 0,.nilFunc]) J NB J λZ=>(.store (cs' :=[.int .i64 0,.int .i64 0,.nilFunc]) Tryz.sizeOf90 J J J J (i:=0) J (JV J) J J<|.w 7<|.off J J J J<|.off J J J J<|.off J J J J<|.off J J J J<|.off J J J J<|.tv J J J<|.a8 (he:=(J:Zf false 8=some (.pan<|Qn.mk 8))) [] J call24 J J J J (Kl _ false 8) λF4 T=>Ff (U:=()) call21 (Ym _ B [] C 0) [2,1] J results9 (λ_ _=>.cell J V9 (i:=0) J J<|.cell J Ey (i:=1) J J .nil) (Fz.t c<|Fz.t l2<|Fz.t Y T) (λI w le K=>yB (Fz.t c<|Fz.t l2<|Fz.t Y<|Fz.t T le)<|SH.sC [0,0,1,1] J K) λ_=>J))) λx v hx=>by rw[hg] at hx;cases hx)
 | some d=>
  refine .m J J (.tL hm J M2 (.str U9) NB J J (λh0=>by rw[hg] at h0;cases h0) λx0 v hx S=> ?_);rw[hg] at hx
  obtain rfl:=PP hx;obtain⟨fd,kd,rfl,aj⟩:=S;show GL _ _ _ _ _ _ _ (XW A i x word n d) r;unfold XW;refine .w 3 (.l (cs:=[.int .i64 0,.int .i64 0,.nilFunc]) J NB J λZ=>(.store (cs' :=Zj d fd kd) Tryz.sizeOf90 J J J J (i:=0) J (JV J) J (QZ j8)<|.w 7<|.on J J<|.f J Dz J Tryz.sizeOf87 J<|.on J J<|.cT J Tryz.isAgg87 Tryz.sizeOf87 J (i:=0) J (vs:=Z3 d.form) ql J<|.on J J<|.m J J<|.on J J<|.cq J J UO J<|.on J J<|.cP J call25 J J J (TC _ d.form (n.length:Int))<|Kv λok F4 _ T=>.rp J J J<|.cM [] J call24 J J J J (Kl _ ok 8) (Kv λ_ F5 _ l5=>.pick [0,0,0,0,0] (J:_=[pc Z (Zj d fd kd) 90,pc C [vI 0] 37,pc B [.string<|bs []] 9,UZ U F0 A,R])<|.w 3<|.keep (.p [0,4,5,6,7,8] J)<|.w 2<|.cE F J J<|.f J vF J y2 J<|.f J Hn J fb J ?_) λq F5 _ l5=>Ff (U:=()) call21 (Ym _ B [] C 0) [2,1] J results9 (λ_ _=>.cell J V9 (i:=0) J J<|.cell J Ey (i:=1) J J .nil) (Fz.t c<|Fz.t l2<|Fz.t Y<|Fz.t T l5) (λI w le K=>yB (Fz.t c<|Fz.t l2<|Fz.t Y<|Fz.t T<|Fz.t l5 le)<|SH.sC [0,0,1,1] J K) λ_=>J));have lA:F0<=F5:=Fz.t c<|Fz.t l2<|Fz.t Y<|Fz.t T l5;refine .cI (Φ:=λv=>∃p,v= .pointer p/\WL 29 K3 F5 p x.ledgers.rules) 3 J lA (E.mono lA) ex J dm J (λvs ⟨q0,q1,q2,q3,q4,q5,q6,q7,q8,q9,H,Q,h,r0,r1,r2,r3,r4,r5⟩=>⟨_,by subst h;exact J,q0,J,r0⟩) λv S=> ?_;obtain⟨pr,rfl,an⟩:=S;refine .pj an J bp J J<|.m J J<|.rP (b:=(!x.ledgers.rules.isNone)) 3 57 J (λV z=> ?_) λz1 F6 l6=> ?_
  ·exact .cG V J J<|.m J J<|.cG V J J<|.sG J U9 J J<|.cc V J J J<|.sL 3 J J ql Fz.r
  refine .m J J<|.rP (b:=z1) 3 61 J (λV z=> ?_) λz2 F7 l7=> ?_
  ·exact .cG V J J<|.m J J<|.cG V J J<|.sG J U9 J J<|.cc V J J J<|.sL 3 J J ql Fz.r
  have lB:F0<=F7:=Fz.t lA<|Fz.t l6 l7;refine .cM [] J call24 J J J J (Kl _ z2 6) ?_ λq P _ l8=>Ff (U:=()) call21 (Ym _ B [] C 0) [2,1] J results9 (λ_ _=>.cell J V9 (i:=0) J J<|.cell J Ey (i:=1) J J .nil) (Fz.t lB l8) (λI w le K=>yB (Fz.t lB<|Fz.t l8 le)<|SH.sC [0,0,1,1] J K) λ_=>J;rintro _ P _ - l8 rfl;have lC:F0<=P:=Fz.t lB l8;refine .pick [0,0,0,0,0] (J:_=[pc Z (Zj d fd kd) 90,pc C [vI 0] 37,pc B [.string<|bs []] 9,UZ U F0 A,R]) (.w 3<|.keep (.p [0,4,5,6,7,8] J)<|.w 2<|.cE F J J<|.f J vF J y2 J<|.sb (Φ:=λus=>∃p0 p1 k1 p2 k2 p3 k3 p4 p5,us=Qh x.ledgers p0 () p1 k1 p2 k2 p3 k3 p4 () p5 ()/\WL 29 K3 P p0 x.ledgers.rules/\QG 8 (Ex QK) P p1 k1 x.ledgers.casks/\QG 6 (Ex QN) P p2 k2 x.ledgers.duties/\QG 4 (Ex QT) P p3 k3 x.ledgers.stamps/\Uu Tt wu P p4 x.ledgers.batches/\Uu Tt wq P p5 x.ledgers.pure) 3 J lC (E.mono lC) ex J Tryz.isAgg72 y2 J (λvs ⟨q0,q1,q2,q3,q4,q5,q6,q7,q8,q9,H,Q,h,r0,r1,r2,r3,r4,r5⟩=>⟨_,by subst h;rfl,J,q0,q2,q3,q4,q5,q6,q7,q8,H,J,r0,r1,r2,r3,r4,r5⟩) λus ar=> ?_);obtain⟨p0,p1,k1,p2,k2,p3,k3,p4,p5,rfl,g0,g1,g2,g3,g4,g5⟩:=ar;refine .nN<|.sr J call26 J J J (i:=0) J (BV _ x.ledgers p0 p1 k1 p2 k2 p3 k3 p4 p5 g0 g1 g2 g3 g4 g5) λL F9 v _ l9 _=>.mP 0 J λq W S=> ?_;subst S;refine .l (cs:=zL) J dy J (λG=>.store (cs' :=A9 L q) y2 J J J J (i:=0) J (JV J) J (QZ j8)<|.cv (U:={U with g72:=G}) (L:=L) [0,0,0,0,0,0] W Fz.r Fz.r Fz.r Fz.r Fz.r J ?_);have lD:F0<=F9:=Fz.t lC l9;have lE:F3<=F9:=Fz.t T<|Fz.t l5<|Fz.t l6<|Fz.t l7<|Fz.t l8 l9;refine .pick [0,0,0,0,0,0] (J:_=[Q6 {U with g72:=G} F9 L,pc Z (Zj d fd kd) 90,pc C [vI 0] 37,pc B [.string<|bs []] 9,UZ U F0 A,R])<|.w 3<|.keep (.p [0,4,5,7,8,10] J)<|.g<|.f J Dz J Tryz.sizeOf88 J<|.cF J Tryz.isAgg88 J (i:=1) J J<|.m J J<|.rF [0] J ((aj.mono lE) {U with g72:=G}) J J ⟨p7,k7,J,ah.mono lE⟩ J J ?_ λq X _ M=>Ff (U:=()) call21 (Ym _ B [] C 0) [2,1] J results9 (λ_ _=>.cell J V9 (i:=0) J J<|.cell J Ey (i:=1) J J .nil) (Fz.t lD M) (λI w le K=>yB (Fz.t lD<|Fz.t M le)<|SH.sC [0,0,1,1] J K) λ_=>J;rintro⟨N,L'⟩ X _ - M rfl;have lF:F0<=X:=Fz.t lD M;refine .pick [0,0,0,0,0,0] (J:_=[J6 {U with g72:=G} X L',pc Z (Zj d fd kd) 90,pc C [vI 0] 37,pc B [.string<|bs []] 9,UZ U F0 A,R]) (.store (cs' :=[.string<|bs N]) W9 J J J J (i:=3) J (JV J) J J<|.w 3<|.keep (.p [0,4,5,10] J)<|.w 2<|.nG 0 J λq W=>(.cT J Tryz.isAgg72 y2 J (i:=0) J (vs:=A9 L' q) ql J<|.a6 1 J Fz.r λbb j f1=>.a6 1 J j λbd k f2=>.a6 1 J (Fz.t j k) λbf s f3=>.sd 1 J (Fz.t j<|Fz.t k s) λbh u f4=>.sd 1 J (Fz.t j<|Fz.t k<|Fz.t s u) λaw y f5=> ?_));have lG:F0<=aw:=Fz.t lF<|Fz.t j<|Fz.t k<|Fz.t s<|Fz.t u y;have f0:=W.mono<|Fz.t j<|Fz.t k<|Fz.t s<|Fz.t u y;have ay:=f1.mono<|Fz.t k<|Fz.t s<|Fz.t u y;have az:=f2.mono<|Fz.t s<|Fz.t u y;have a1:=f3.mono<|Fz.t u y;have a6:=f4.mono y;exact .pick [0,0,0,0,0,0] (J:_=[pc G (A9 L' q) 72,pc Z (Zj d fd kd) 90,pc C [vI 0] 37,pc B [.string<|bs N] 9,UZ U F0 A,R])<|.cE F J J<|.f J vF J y2 J<|.cZ (xs' :=A.set i {x with ledgers:=L'}) (x' :={x with ledgers:=L'}) (us:=A9 L' q) 4 J lG Fz.r fw y2 (E.mono lG) ex J J J J J J (λF' vs le ⟨q0,q1,q2,q3,q4,q5,q6,q7,q8,q9,H,Q,h,r0,r1,r2,r3,r4,r5⟩=>⟨q.1,(),q.2.1,q.2.2.1,q.2.2.2.1,q.2.2.2.2.1,q.2.2.2.2.2.1,q.2.2.2.2.2.2.1,some q.2.2.2.2.2.2.2.1,(),some q.2.2.2.2.2.2.2.2,(),by subst h;exact J,f0.mono le,ay.mono le,az.mono le,a1.mono le,a6.mono le,f5.mono le⟩) J<|.w 4<|.cF J V9 J (i:=3) J J<|.store (cs' :=[.string<|bs N]) W9 J J J J (i:=3) J (JV J) J J<|.store (cs' :=[vI 0]) zQ J J J J (i:=2) J (JV J) J J<|.w 2<|.cz<|PK (U:=()) [3,2] call21 (Ym _ B N C 0) J [4,4] results9 (.cell J V9 (i:=0) J J<|.cell J Ey (i:=1) J J .nil) J lG J
end Go.Proofs.YtbjgigfhnlnbfaaGreatDoor
end
section
set_option maxRecDepth 100000
set_option maxHeartbeats 4000000
namespace Go.Proofs.YtbjgigfhnlnbfaaGreatDoor
open Go.Dec Go.Proofs.Tryz Go.Shelf Go.RowKit Go.Maps Go.Sort
abbrev IE:Q0 DO->Fz->Q0 K2->Prop:=fun(x:Q0 DO) _ vs=>vs=[.string<|bs x]
def JE{σ:Type}(y:Q0 DO->σ->Q2 (σ×Bool))(s:Q0 DO×σ):Q2 (UP (Q0 DO×σ)<|σ ⊕ σ):=
 if decide ((s.1.length:Int) > 0) then(UL s.1 10).bind λi=>
  if decide (i≥0) then(ZV s.1 0<|Qz<|i+1).bind λu=>(ZV s.1 (Qz<|i+1) s.1.length).bind λv=>(y u s.2).bind λp=>if(!p.2) then some (.done<|.inr p.1) else some (.next (v,p.1))
  else(y s.1 s.2).bind λp=>if(!p.2) then some (.done<|.inr p.1) else some (.next ([],p.1))
 else some (.done<|.inl s.2)
def HC{σ:Type}(y:Q0 DO->σ->Q2 (σ×Bool))(s:Q0 DO)(a:σ):Q2 σ:=(ZT (JE y) (s,a)).bind λo=>match o with | .inl z=>some z | .inr z=>some z
theorem Tv(F0:Fz)(σ:Type)(x:Nat)(Y:σ->Fz->HP)(y:Q0 DO->σ->Q2 (σ×Bool))(B:WK Tryz.prog x F0 IE Y y)(s:Q0 DO)(b:Nat)(C:σ):Xv Tryz.prog 140 [.func (.yield x) #[] #[],vP b 0].toArray F0 [pc b [.string<|bs s] 9,Y C F0] (HC y s C) (λ_ _ _=>True) (λF G=>[Y F G]):=by
 refine Xv.enter func140 J ntmps140 J λr R=> ?_;unfold HC;refine .k (.loop (fun(s:Q0 DO×σ) a w=>∃f,F0<=f/\Hd 25 [] [(0,.func (.yield x) #[] #[]),(1,vP b 0)] f [pc b [.string<|bs s.1] 9,Y s.2 f,R] a w) (λo e a w=>match o with | .inl z=>e= .exit 0/\∃f c,F0<=f/\Hd 25 [] [] f [pc b c 9,Y z f,R] a w | .inr z=>e= .ret/\∃f c,F0<=f/\Hd 25 [] [] f [pc b c 9,Y z f,R] a w) ?_ ?_ ?_)
 ·exact λa w h=>⟨F0,Fz.r,h.1.sub<|.k J,h.2⟩
 ·rintro⟨s,st⟩ H;refine GG.ex λa w ⟨f,j,l⟩=>⟨_,l,?_⟩;unfold JE;refine .w 3<|.cF J V9 J (i:=0) J J<|.cy J J U9 J<|.w 3<|.i J (λI=> ?_) λI=> ?_
  ·refine .w 11<|.cF J V9 J (i:=0) J J<|.cP J call141 J J J (AE _ s 10)<|Kv λi N _ l2=>.w 9<|.i J (λhi=> ?_) λhi=> ?_
   ·refine .d λu K=>.d λv L=>(.keep (.p [0,1,4] J)<|.cV 9 Qc ql<|.cF J V9 J (i:=0) J J<|.w 2<|.rB K J U9 J J<|.cF J V9 J (i:=0) J J<|.w 2<|.pT L J U9 J J<|.s J J<|.cn<|.store (cs' :=[.string<|bs v]) W9 J J J J (i:=0) J (JV J) J J<|.w 6<|.tS J B J J J (i:=1) J j l2 λp m _ q=>.w 3<|.i J (λA=> ?_) λA=> ?_)
    ·exact .cz<|Q5.ret λa w h=>⟨J,m,_,Fz.t j<|Fz.t l2 q,h.1.sub<|.k J,h.2⟩
    ·exact .w 2<|.cN<|Q5.norm λa w h=>⟨m,Fz.t j<|Fz.t l2 q,h.1.sub<|.k J,h.2⟩
   ·refine .keep (.p [0,1,4] J)<|.g<|.cF J V9 J (i:=0) J J<|.s J J<|.store (cs' :=[.string<|bs []]) W9 J J J J (i:=0) J (JV J) J J<|.w 6<|.tS J B J J J (i:=1) J j l2 λp m _ q=>.w 3<|.i J (λA=> ?_) λA=> ?_
    ·exact .cz<|Q5.ret λa w h=>⟨J,m,_,Fz.t j<|Fz.t l2 q,h.1.sub<|.k J,h.2⟩
    ·exact .w 2<|.cN<|Q5.norm λa w h=>⟨m,Fz.t j<|Fz.t l2 q,h.1.sub<|.k J,h.2⟩
  ·exact .cR J<|Q5.exit λa w h=>⟨J,f,_,j,h.1.sub<|.k J,h.2⟩
 ·intro o M D e a w E;rcases o with z | z
  ·obtain⟨rfl,f,c,j,l⟩:=E;refine Q9 J<|GG.app ?_ D a w l;exact .ag [1,1] results140 .n J j trivial
  ·obtain⟨rfl,f,c,j,l⟩:=E;exact Jn<|(FG [1,1] results140 .n J j trivial) D a w l
def Bp:Nat->Q0 DO->Q0 (Q0 DO)
 | 0,_=>[]
 | k+1,s=>if s=[] then[] else if 0<=Go.Lib.indexByte s 10 then s.take ((Go.Lib.indexByte s 10).toNat+1)::Bp k (s.drop<|(Go.Lib.indexByte s 10).toNat+1) else[s]
theorem Tl:∀(s:Q0 DO) (c:DO), -1<=Go.Lib.indexByte s c/\Go.Lib.indexByte s c < (s.length:Int)
 | [],c=>by simp[Go.Lib.indexByte]
 | b::l,c=>by
  have a:=Tl l c;simp only[Go.Lib.indexByte,kn];split
  ·omega
  ·split
   ·omega
   ·omega
theorem Ea{σ:Type}{y:Q0 DO->σ->Q2 (σ×Bool)}:∀(k:Nat) (s:Q0 DO) (st r:σ),s.length<=k->s.length<=1000000000000->WH y (Bp k s) st=some r->ZT (JE y) (s,st)=some (.inl r)∨ZT (JE y) (s,st)=some (.inr r)
 | 0,s,st,r,i,_,h=>by
  obtain rfl:s=[]:=Nm qz;simp only[Bp,WH,UV] at h
  subst h;left;rw[ZJ];simp[JE]
 | k+1,s,st,r,i,m,h=>by
  by_cases d:s=[]
  ·subst d;simp only[Bp,B3,WH,UV] at h
   subst h;left;rw[ZJ];simp[JE]
  ·have b:0 < s.length:=by cases s with | nil=>exact absurd rfl d | cons=>simp
   obtain⟨n,o⟩:=Tl s 10;simp only[Bp,B2 d] at h
   have f:((10:Int).toNat.toUInt8)=10:=by decide
   rw[ZJ];by_cases hi:0<=Go.Lib.indexByte s 10
   ·rw[Bm hi] at h
    simp only[WH] at h
    have g:Qz (Go.Lib.indexByte s 10+1)=Go.Lib.indexByte s 10+1:=Qi qz qz
    have j:ZV s 0 (Qz<|Go.Lib.indexByte s 10+1)=some (s.take<|(Go.Lib.indexByte s 10).toNat+1):=by
     rw[g];unfold ZV;rw[Bm qz];congr 1;simp only[oH,eb,et];congr 1;omega
    have l:ZV s (Qz<|Go.Lib.indexByte s 10+1) s.length=some (s.drop<|(Go.Lib.indexByte s 10).toNat+1):=by
     rw[g];unfold ZV;rw[Bm qz];congr 1;rw[OF (by simp;skip)];congr 1;omega
    have e:JE y (s,st)=(y (s.take<|(Go.Lib.indexByte s 10).toNat+1) st).bind λp=>if(!p.2) then some (.done<|.inr p.1) else some (.next (s.drop<|(Go.Lib.indexByte s 10).toNat+1,p.1)):=by
     unfold JE UL;rw[Bm (by simpa using b),f];show(if decide (Go.Lib.indexByte s 10≥0) then _ else _)=_;rw[Bm (by simpa using hi),j,l];rfl
    rw[e];cases c:y (s.take<|(Go.Lib.indexByte s 10).toNat+1) st with
    | none=>rw[c] at h;cases h
    | some p=>
     rw[c] at h
     simp only[K1] at h ⊢
     by_cases a:p.2=true
     ·rw[Bm a] at h
      have:=Ea k (s.drop<|(Go.Lib.indexByte s 10).toNat+1) p.1 r zg zg h;simpa[a] using this
     ·rw[B2 a] at h
      simp only[UV] at h
      right;simp[a,h]
   ·rw[B2 hi] at h
    simp only[WH] at h
    have e:JE y (s,st)=(y s st).bind λp=>if(!p.2) then some (.done<|.inr p.1) else some (.next ([],p.1)):=by
     unfold JE UL;rw[Bm (by simpa using b),f];show(if decide (Go.Lib.indexByte s 10≥0) then _ else _)=_;rw[B2<|by simpa using hi]
    rw[e];cases c:y s st with
    | none=>rw[c] at h;cases h
    | some p=>
     rw[c] at h
     simp only[K1] at h ⊢
     by_cases a:p.2=true
     ·rw[Bm a] at h
      simp only[UV] at h
      left;simp only[a,RK,H1,By];rw[ZJ];simp[JE,h]
     ·rw[B2 a] at h
      simp only[UV] at h
      right;simp[a,h]
def On(s:Q0 DO):Q0 (Q0 DO):=Bp s.length s
theorem Pd{σ:Type}{y:Q0 DO->σ->Q2 (σ×Bool)}{s:Q0 DO}{st r:σ}(a:s.length<=1000000000000)(h:WH y (On s) st=some r):HC y s st=some r:=by
 unfold HC;rcases Ea s.length s st r (S2 _) a h with e | e
 ·rw[e];rfl
 ·rw[e];rfl
theorem kH(F:Fz)(s:Q0 DO)(b:Nat)(a:s.length<=1000000000000):gN Tryz.prog F 140 [vP b 0] IE [pc b [.string<|bs s] 9] (On s):=⟨call140,λσ c Y y d _ e f r g=>Tv d σ c Y y e s b f r<|Pd a g⟩
theorem Ro(F0:Fz)(s:Q0 DO):CT Tryz.prog 87 [.string<|bs s].toArray F0 Aa (some ()) (λ_ _ _=>True) (λ_ _ v=>xU (λb=>v= .func (.func 140) #[] #[vP b 0]) λb=>[pc b [.string<|bs s] 9]):=by
 exact CT.enter func87 J ntmps87 J λr R=>(.w 2<|.box (cs:=[.string<|bs s]) J J J λb=>.w 5<|.makeFunc J J<|.w 3<|.nV (Φ:=λb' =>(.func (.func 140) #[] #[vP b 0]:K2)= .func (.func 140) #[] #[vP b' 0]) (l:=λb=>[pc b [.string<|bs s] 9]) [0] b J J<|.pa results87 (.tmp J .nil) (i:=0) J (j:=1) J Fz.r trivial)
def Hl{σ:Type}(y:Q0 DO->σ->Q2 (σ×Bool))(line:Q0 DO)(s:σ):Q2 (UP σ σ):=(Vt line [10]).bind λu=>(y u s).bind λp=>if(!p.2) then some (.done p.1) else some (.next p.1)
def SB{σ:Type}(y:Q0 DO->σ->Q2 (σ×Bool))(script:Q0 DO)(a:σ):Q2 σ:=(Ap (Hl y) (On script) a).bind λc=>match c with | .next s=>some s | .done s=>some s
theorem Pp(F0:Fz)(σ:Type)(a:Nat)(Y:σ->Fz->HP)(y:Q0 DO->σ->Q2 (σ×Bool))(j:WK Tryz.prog a F0 IE Y y)(script:Q0 DO)(K:script.length<=1000000000000)(b:Nat)(M:F0.mem b=some (.cells #[.string<|bs script] 9))(z:σ):Xv Tryz.prog 86 [.func (.yield a) #[] #[],vP b 0].toArray F0 [Y z F0] (SB y script z) (λ_ _ _=>True) (λN P=>[Y N P]):=by
 refine Xv.aE func86 J ntmps86 J λr R=> ?_;unfold SB;refine .w 2<|.box (cs:=[.func (.yield a) #[] #[]]) J J J λf=>.w 4<|.U J V9 J M J<|.nN<|.tr J call87 J J J (i:=0) J (Ro _ script) λQ v e=>.ak 0 J λA C=> ?_;subst C;refine .w 3<|.keep (.p [1,2,5] J)<|.pick [0,0,0,0] (J:_=[pc A [.string<|bs script] 9,pc f [.func (.yield a) #[] #[]] 181,Y z F0,R])<|.mL 2 j J Fz.r e<|.pO [pc A [.string<|bs script] 9] [0] (λs F hs=>hs=[pc f [.func (.yield a) #[] #[]] 181,Y s F,R]) (λs F hs=>hs=[pc f [.func (.yield a) #[] #[]] 181,Y s F,R]) J (kH Q script A K) J (λ_ _ _ h=>by rw[h];rfl) J J ?_ ?_ ?_
 ·rintro l L m G x vs s S H g l2 c rfl rfl;unfold Hl;refine .d λu T=>.w 3<|GG.begin 0 J<|.w 2<|.keep (.p [2,3] J)<|.dG 3 0 (λ_=>[vT<|.func (.yield a) #[] #[],vT<|.string<|bs x,vT<|.string<|bs u]) (λ_ _=>[pt l<|UC L,H,pc f [.func (.yield a) #[] #[]] 181,Y s m,R]) Qc ql (λ_=>J) (λ_=>J) ?_ λenv F4 D I=> ?_
  ·refine .B (.cF J Tryz.isAgg181 J (i:=2) J J<|.fv J)<|.V 1 (λ_ _=>⟨J,J⟩)<|.b (λ_ _ W E=>.sN T J call88 J J J (SR _ x [10]) λF6 v X C=>by subst C;exact .se J J X) .nil
  refine .o (.p [7,9] J) (J:_=[pt l<|UC L,H,pc f [.func (.yield a) #[] #[]] 181,Y s m,R])<|.tS J j J J J (i:=3) J (Fz.t e l2) (Fz.t c D) λp W _ E=>.w 3<|.i J (λZ=> ?_) λZ=> ?_
  ·exact .cz<|RP.ret (Fz.t D E) J J
  ·exact .w 2<|.cN<|RP.norm (Fz.t D E) J J
 ·rintro q m G s g l2 c he rfl;exact .k<|.mL 2 j J (Fz.t e l2) c<|.rz [2,2] [(0,q)] results86 ⟨J,trivial⟩ .n J (Fz.t e<|Fz.t l2 c) trivial
 ·rintro q m G s g l2 c he rfl;exact .mL 2 j J (Fz.t e l2) c<|.nq [2,2] [(0,q)] results86 ⟨J,trivial⟩ .n J (Fz.t e<|Fz.t l2 c) trivial
end Go.Proofs.YtbjgigfhnlnbfaaGreatDoor
end
section
set_option maxRecDepth 100000
set_option maxHeartbeats 4000000
namespace Go.Proofs.YtbjgigfhnlnbfaaGreatDoor
open Go.Dec Go.Proofs.Tryz Go.Shelf Go.RowKit Go.Maps Go.Sort
def RY(x:Q0 DO):Bool:=x.getLast? ==some 10
def Ig(x:Q0 DO):Q0 DO:=if RY x then x.dropLast else x
theorem Tm(x:Q0 DO)(h:x.length<=1000000000000):J5 x [10]=some (RY x):=by
 unfold J5 Zo RY;cases a:x.reverse with
 | nil=>
  obtain rfl:x=[]:=by simpa using a
  rfl
 | cons c l=>
  obtain rfl:x=l.reverse++[c]:=by have:=congrArg List.reverse a;simpa using this
  have b:(l.reverse++[c]).length=l.length+1:=by simp
  rw[b] at h ⊢
  have d:Qz (((l.length+1:Nat):Int) - (([10]:Q0 DO).length:Int))=(l.length:Int):=by
   show Qz (((l.length+1:Nat):Int) - (1:Int))=_;rw[Qi qz qz];omega
  have hs:ZV (l.reverse++[c]) (l.length:Int) ((l.length+1:Nat):Int)=some [c]:=by
   unfold ZV;rw[Bm zg];congr 1;simp only[hQ];rw[ld zh,ey zh];simp
  rw[Bm zg,d,hs];show some ([c]==([10]:Q0 DO))=some ((l.reverse++[c]).getLast? ==some 10);rw[List.getLast?_concat];have:([c]==([10]:Q0 DO))=(some c==some 10):=by by_cases h:c=10<;>simp[h]
  rw[this]
theorem M6(x:Q0 DO)(h:x.length<=1000000000000):Vt x [10]=some (Ig x):=by
 have a:=Tm x h;unfold J5 at a
 unfold Vt JG Ig
 have c:Zo x [10]=some (RY x):=by
  cases e:Zo x [10] with
  | none=>rw[e] at a;cases a
  | some b=>rw[e] at a;exact a
 rw[c];simp only[K1];cases he:RY x with
 | false=>rfl
 | true=>
  have d:0 < x.length:=by
   cases x with
   | nil=>simp[RY] at he
   | cons=>simp
  have f:Qz ((x.length:Int) - (([10]:Q0 DO).length:Int))=((x.length - 1:Nat):Int):=by
   show Qz ((x.length:Int) - (1:Int))=_;rw[Qi qz qz];omega
  rw[f]
  have hs:ZV x 0 ((x.length - 1:Nat):Int)=some x.dropLast:=by
   unfold ZV;rw[Bm qz];congr 1;simp only[oH,eb,et,hQ];rw[List.dropLast_eq_take]
  rw[hs];rfl
def MK(s:Q0 DO):Q0 (Q0 DO):=(On s).map Ig
theorem ML:∀(k:Nat) (s:Q0 DO),∀x∈Bp k s,x.length<=s.length
 | 0,_,_,h=>by simp[Bp] at h
 | k+1,s,x,h=>by
  unfold Bp at h
  split at h
  ·simp at h
  ·split at h
   ·simp only[Tc] at h
    rcases h with rfl | h
    ·simp;omega
    ·have:=ML k _ x h;simp at this;omega
   ·simp only[nt] at h
    subst h;exact S2 _
theorem RU{σ:Type}{y:Q0 DO->σ->Q2 (σ×Bool)}:∀(l:Q0 (Q0 DO)) (s r:σ),(∀x∈l,x.length<=1000000000000)->WH y (l.map Ig) s=some r->(Ap (Hl y) l s).bind (λc=>match c with | .next s=>some s | .done s=>some s)=some r
 | [],s,r,_,h=>h
 | x::l,s,r,b,h=>by
  simp only[Of,WH] at h
  simp only[Ap,Hl,M6 x<|b x<|tO ..,K1];cases d:y (Ig x) s with
  | none=>rw[d] at h;cases h
  | some p=>
   rw[d] at h
   simp only[K1] at h ⊢
   by_cases a:p.2=true
   ·rw[Bm a] at h
    have:=RU l p.1 r (λz e=>b z<|IF _ e) h;simpa[a] using this
   ·rw[B2 a] at h
    simpa[a] using h
theorem Xv.mM{β:Type}{P:C1}{f:L3}{args:S1 K2}{F:Fz}{H:HP}{m:Q2 β}{ρ:β->Fz->K2->Prop}{H' :β->Fz->HP}(h:Xv P f args F [H] m ρ (λr F=>[H' r F])):CT P f args F H m ρ (λr F _=>H' r F):=λr a w R b=>
 (h r a w R<|b.mono λm a=>QR (λ_ h=>YD h) a).mono (by rintro e w' ⟨c,v,le,he,hρ,hs⟩;exact⟨c,v,le,he,hρ,hs.mono λ_ a=>Wo a⟩)
theorem kG(F:Fz)(script:Q0 DO)(b:Nat)(a:script.length<=1000000000000)(c:F.mem b=some (.cells #[.string<|bs script] 9)):NC Tryz.prog F 86 [vP b 0] IE (MK script):=⟨call86,λσ d Y y e le f s r g=>Xv.mM (Pp e σ d Y y f script a b (le.mem _ _ c) s) r<|RU _ s r (λx h=>lN (ML _ _ x h) a) g⟩
theorem Mk(F0:Fz)(script:Q0 DO):Z9 Tryz.prog 36 [.string<|bs script].toArray F0 (some ()) (λ_ F v=>∃b,v= .func (.func 86) #[] [vP b 0].toArray/\F.mem b=some (.cells #[.string<|bs script] 9)):=by
 exact Z9.enter func36 J ntmps36 J λr R=>(.w 2<|.cY (cs:=[.string<|bs script]) J J J λb d a c=>.w 5<|.makeFunc J J<|.w 3<|.cK results36 (.tmp J .nil) (i:=0) J a ⟨b,J,c⟩)
abbrev zW:Q0 DO:=[101,114,114,111,114]
def XA(A:Q0 Qr)(s u:Q0 DO):Q2 (Q0 Qr×Q0 DO):=(SP s u).bind λv=>(SP v [10]).bind λw=>some (A,w)
def GF(o:ON)(line:Q0 DO)(s:Q0 Qr×Q0 DO):Q2 (Q0 Qr×Q0 DO):=(WE s.1 o line).bind λt=>if(t.2.1 != 0) then(Jj zW [t.2.1]).bind λu=>XA t.2.2 s.2 u else XA t.2.2 s.2 t.1
def Xz(script:Q0 DO):Q2 (Q0 DO×Int):=
 if decide ((script.length:Int) > 262144) then some ([],3) else
 (if(!(script==([]:Q0 DO))) then(J5 script [10]).bind λh=>some (!h) else some false).bind λz=>if z then some ([],8) else
 (Hf []).bind λo=>(Y1 (GF o.1) (MK script) (o.2,[])).bind λs=>some (s.2,0)
theorem LY(F0:Fz)(hT:X8 F0)(script:Q0 DO):Z9 Tryz.prog 18 [.string<|bs script].toArray F0 (Xz script) (λr _ v=>v= .tuple #[.string<|bs r.1,vI r.2]):=by
 refine Z9.aE func18 J ntmps18 J λr R=> ?_;unfold Xz;refine .w 11<|.cy J J U9 J<|.w 4<|.i J (λD=> ?_) λD=> ?_
 ·exact .w 6<|.tE [] results18 trivial (.tmp J<|.tmp J .nil) (i:=0) J Fz.r J
 have j:script.length<=1000000000000:=by simp at D;omega
 refine .w 3<|.ny J U9 J J<|.m J J<|.aO (b:=(!(script==([]:Q0 DO)))) 4 20 J (λhs z=> ?_) λz F1 G=> ?_
 ·exact .cG hs J J<|.m J J<|.cG hs J J<|.cP J call35 J J J (AF _ script [10])<|Kv λhh T _ l2=>.cG hs J J<|.not J J<|.cH hs J J J<|.sL 4 J J ql l2
 refine .w 3<|.i J (λhz=> ?_) λhz=> ?_
 ·exact .w 6<|.tE [] results18 trivial (.tmp J<|.tmp J .nil) (i:=0) J G J
 refine .w 4<|.sg λg T l2=>.tI (dc<|Jy.mk 0 0 0 g 0 0 0 0 0) 0 J<|.pick [0,0] (J:_=[ZC (Jy.mk 0 0 0 g 0 0 0 0 0).g74 (dc<|Jy.mk 0 0 0 g 0 0 0 0 0) T [],R]) ?_;generalize Jy.mk 0 0 0 g 0 0 0 0 0=U;refine(.g<|.cm [0] J call7 J J J J (Tw _ U []) ?_);rintro⟨o,A⟩ F3 _ - V ⟨p,_,rfl,hp⟩;refine .l (cs:=[.pointer none]) J Tryz.zeroValue25 J λH=>.store (cs' :=[.pointer p]) Tryz.sizeOf25 J J J J (i:=0) J (JV J) J J<|.w 4<|.l (cs:=[.pointer none,.slice none 0 0]) J Tryz.zeroValue128 J λd=>.rG 0 5 J<|.w 6<|.cQ J call36 J J J (Mk _ script) ?_;rintro W _ E ⟨bS,rfl,I⟩;refine .w 3<|.keep (.p [4,5,23] J)<|.cU 2 (VO U) E J<|.pick [0,0,0,0] (J:_=[CP 128 5 d [],pc H [.pointer p] 25,UZ U W A,R]) ?_;have k:=hT.mono<|Fz.t G<|Fz.t l2<|Fz.t V E;refine .aH (τ:=Q0 Qr×Q0 DO) (λs F hs=>hs=[CP 128 5 d s.2,pc H [.pointer p] 25,UZ U F s.1,R]) J (kG W script bS j I) J (λ_ _ _ h=>by rw[h];rfl) J ?_ ?_
 ·rintro l L F5 F6 x vs ⟨X,s⟩ aG R' K y f rfl rfl;unfold GF;refine .w 2<|.n<|GG.begin 0 J<|.w 2<|.keep (.p [4,5,6] J)<|.cU 4 (VO U) f J<|.g<|.cF J Tryz.isAgg25 J (i:=3) J J<|.m J J<|.cm [4] J call9 J J J J (DZ _ (k.mono<|Fz.t y f) U X o p () (hp.mono<|Fz.t E<|Fz.t y f) x) ?_;rintro⟨M,e,A2⟩ Y _ - B rfl;refine .pick [1,1,1,1,0,0] (J:_=[pt l<|UC L,R',CP 128 5 d s,pc H [.pointer p] 25,UZ U Y A2,R])<|.w 14<|.i J (λD=> ?_) λD=> ?_
  ·refine .w 2 (.ca (cs:=[vI e]) (zc:=[vI 0]) J UO W3 Y3 J J J ql ql λb8 F8 N P=> ?_);have C:QG 1 (Ex<|KG .i64) F8 (some ⟨b8,0,none⟩) 1 [e]:=QG.ofRow P (.cons Gm.mono J .nil) J J;refine .cP J call37 J J J (Wl _ (k.mono<|Fz.t y<|Fz.t f<|Fz.t B N) zW [e] _ _ C) ?_;rintro u F9 _ - Z rfl;unfold XA;exact .w 6<|.sr J call38 J J J (i:=2) J (GD _ d s u) λv Q _ _ a _=>.w 3<|.sr J call39 J J J (i:=2) J (Sg _ d v 10) λw S _ _ c _=>.w 2<|.cU 4 (VO U) (Fz.t N<|Fz.t Z<|Fz.t a c) J<|.cN<|RP.tH (Fz.t B<|Fz.t N<|Fz.t Z<|Fz.t a c) J J
  ·unfold XA;exact .w 5<|.sr J call38 J J J (i:=2) J (GD _ d s M) λv Q _ _ a _=>.w 3<|.sr J call39 J J J (i:=2) J (Sg _ d v 10) λw S _ _ c _=>.w 2<|.cU 4 (VO U) (Fz.t a c) J<|.cN<|RP.tH (Fz.t B<|Fz.t a c) J J
 ·rintro q F5 F6 ⟨X,s⟩ K y f he rfl;refine .w 4<|.sr (e:=some s) (g:=λs=>some (s,0)) J call40 J J J (i:=1) J (qw _ d s) ?_;rintro s' Y _ e7 B rfl;exact .w 4<|.tE [(0,q)] results18 ⟨J,trivial⟩ (.tmp J<|.tmp J .nil) (i:=4) J (Fz.t G<|Fz.t l2<|Fz.t V<|Fz.t E<|Fz.t y<|Fz.t f B) J
end Go.Proofs.YtbjgigfhnlnbfaaGreatDoor
end
section
set_option maxRecDepth 100000
set_option maxHeartbeats 4000000
namespace Go.Proofs.YtbjgigfhnlnbfaaGreatDoor
open Go.Dec Go.Proofs.Tryz Go.Shelf Go.RowKit Go.Maps Go.Sort
def Wg:Q2 Bool:=(Xz JO.1).bind λr=>(if(r.1==JO.2) then some (r.2==0) else some false).bind λz=>some z
theorem SX(F0:Fz)(c:X8 F0):Z9 Tryz.prog 6 [].toArray F0 Wg (λr _ v=>v= .bool r):=by
 refine Z9.enter func6 J ntmps6 J λr R=> ?_;unfold Wg;refine .w 7<|.cQ J call17 J J J (Ch _)<|Wm λf a=>.w 10<|.cP J call18 J J J (LY _ (c.mono a) JO.1) ?_;rintro⟨s,e⟩ g _ - l2 rfl;refine .w 11<|.sG J U9 J J<|.m J J<|.aO (b:=(s==JO.2)) 3 20 J (λhs z=> ?_) λz h d=> ?_
 ·exact .cG hs J J<|.m J J<|.cG hs J J<|.eql J J J<|.cH hs J J J<|.sL 3 J J ql Fz.r
 exact .w 3<|.cK results6 (.tmp J .nil) (i:=0) J (Fz.t a<|Fz.t l2 d) J
end Go.Proofs.YtbjgigfhnlnbfaaGreatDoor
end
namespace Go.Proofs.YtbjgigfhnlnbfaaGreatDoor.Ca
section
open Go.Dec
variable{f:Nat->Int}{a n b:Int}{j:Nat}
structure ZY where
 C:ZU
 Fills:List Int
variable{h:ZY}
abbrev Ev:=QE
abbrev zN:Nat->Int:=λ_=>0
def Wa(n a b:Int):Bool:=decide (n≥a)&&decide (n<=b)
def Xb(x:Ev):Bool:=
 Wa x.Day 0 65536&&Wa x.Cask 0 1073741824&&
 (if x.Kind==0 then Wa x.Other 0 7&&Wa x.Where 0 7&&Wa x.Amount 1 1099511627776&&Wa x.Person 0 1073741824
  else if x.Kind==1||x.Kind==3 then Wa x.Amount 1 1099511627776
  else if x.Kind==2 then Wa x.Other 0 1073741824&&Wa x.Amount 1 1099511627776
  else if x.Kind==4 then Wa x.Where 0 7
  else if x.Kind==5||x.Kind==6 then Wa x.Person 0 1073741824&&Wa x.To 0 1073741824
  else if x.Kind==7 then Wa x.Person 0 1073741824
  else if x.Kind==8 then Wa x.Where 0 7 else false)
def JX(n:Int)(h:ZY):ZY:=if 0 < h.C.Amount then{h with C:={h.C with Age:=h.C.Age+n,Woods:=ZK h.C.Woods h.C.Wood.toNat<|h.C.Woods h.C.Wood.toNat+n,Places:=ZK h.C.Places h.C.Place.toNat (h.C.Places h.C.Place.toNat+n)}} else h
def Js:Q0 ZY->Int->Q2 Nat
 | [],_=>none
 | h::l,n=>if h.C.Number==n then some 0 else(Js l n).map (·+1)
def BJ(x:Int):Q0 Int->Q0 Int
 | []=>[x]
 | y::l=>if x < y then x::y::l else if x==y then y::l else y::BJ x l
def Ic(a b:Q0 Int):Q0 Int:=a.foldr BJ b
def PU(f g:Nat->Int):Nat->Int:=λk=>if k < 8 then JY (f k) (g k) else f k
def Ua(h s:ZY)(n:Int):ZY:=
 if h.C.Amount==0 then{C:={h.C with Age:=s.C.Age,Woods:=s.C.Woods,Places:=s.C.Places,Amount:=h.C.Amount+n},Fills:=s.Fills}
 else{C:={h.C with Age:=JY h.C.Age s.C.Age,Woods:=PU h.C.Woods s.C.Woods,Places:=PU h.C.Places s.C.Places,Amount:=h.C.Amount+n},Fills:=Ic h.Fills s.Fills}
def WG(h:ZY)(n:Int):ZY:=if h.C.Amount - n==0 then{C:={h.C with Age:=0,Woods:=zN,Places:=zN,Amount:=0},Fills:=[]} else{h with C:={h.C with Amount:=h.C.Amount - n}}
def Ol(x:Ev):ZY:=⟨⟨x.Cask,x.Other,x.Where,x.Amount,x.Person, -1,0,0,zN,zN⟩,[]⟩
def BL(n:Int):ZY:=⟨⟨0,0,0,0,0,0,0,0,zN,zN⟩,[n]⟩
def AZ(l:Q0 ZY)(i:Nat)(c:ZY)(x:Ev)(num:Int):Q0 ZY ⊕ Int:=if c.C.Amount+x.Amount > c.C.Room then .inr 9 else .inl (l.set i<|Ua c (BL num) x.Amount)
def PL(l:Q0 ZY)(i k:Nat)(c o:ZY)(x:Ev):Q0 ZY ⊕ Int:=
 if i==k then .inr 5
 else if c.C.Owner != o.C.Owner||decide (c.C.Creditor≥0)||decide (o.C.Creditor≥0) then .inr 11
 else if c.C.Amount < x.Amount then .inr 10
 else if o.C.Amount+x.Amount > o.C.Room then .inr 9
 else .inl ((l.set k<|Ua o c x.Amount).set i<|WG c x.Amount)
def AO(l:Q0 ZY)(i:Nat)(c:ZY)(x:Ev):Q0 ZY ⊕ Int:=
 match Js l x.Other with
 | none=>.inr 4
 | some k=>match l[k]? with
  | none=>.inr 4
  | some o=>PL l i k c o x
def Bz(l:Q0 ZY)(i:Nat)(c:ZY)(x:Ev):Q0 ZY ⊕ Int:=if c.C.Creditor≥0 then .inr 11 else if c.C.Amount < x.Amount then .inr 10 else .inl (l.set i<|WG c x.Amount)
def O8(l:Q0 ZY)(i:Nat)(c:ZY)(x:Ev):Q0 ZY ⊕ Int:=.inl<|l.set i {c with C:={c.C with Place:=x.Where}}
def RG(l:Q0 ZY)(i:Nat)(c:ZY)(x:Ev):Q0 ZY ⊕ Int:=if c.C.Owner != x.Person||decide (c.C.Creditor≥0) then .inr 11 else if x.To==c.C.Owner then .inr 5 else .inl (l.set i {c with C:={c.C with Owner:=x.To}})
def DQ(l:Q0 ZY)(i:Nat)(c:ZY)(x:Ev):Q0 ZY ⊕ Int:=if c.C.Owner != x.Person then .inr 11 else if c.C.Creditor≥0 then .inr 5 else .inl (l.set i {c with C:={c.C with Creditor:=x.To}})
def RT(l:Q0 ZY)(i:Nat)(c:ZY)(x:Ev):Q0 ZY ⊕ Int:=if c.C.Creditor != x.Person then .inr 11 else .inl (l.set i {c with C:={c.C with Creditor:= -1}})
def Rb(l:Q0 ZY)(i:Nat)(c:ZY)(x:Ev):Q0 ZY ⊕ Int:=if c.C.Amount > 0 then .inr 6 else .inl (l.set i {c with C:={c.C with Wood:=x.Where}})
def XK(l:Q0 ZY)(i:Nat)(c:ZY)(x:Ev)(num:Int):Q0 ZY ⊕ Int:=
 if x.Kind==1 then AZ l i c x num
 else if x.Kind==2 then AO l i c x
 else if x.Kind==3 then Bz l i c x
 else if x.Kind==4 then O8 l i c x
 else if x.Kind==5 then RG l i c x
 else if x.Kind==6 then DQ l i c x
 else if x.Kind==7 then RT l i c x
 else if x.Kind==8 then Rb l i c x
 else .inl l
def EX(l:Q0 ZY)(x:Ev):Q0 ZY ⊕ Int:=if(Js l x.Cask).isSome then .inr 5 else if 256<=l.length then .inr 9 else .inl (l++[Ol x])
def DB(l:Q0 ZY)(x:Ev)(num:Int):Q0 ZY ⊕ Int:=
 if x.Kind==0 then EX l x
 else match Js l x.Cask with
  | none=>.inr 4
  | some i=>match l[i]? with
   | none=>.inr 4
   | some c=>XK l i c x num
structure DL where
 all:List ZY
 last:Int
def VI(n:Nat)(s:DL)(x:Ev):DL ⊕ Int:=
 if !Xb x then .inr 1 else if x.Day < s.last then .inr 7
 else match DB (s.all.map<|JX<|x.Day - s.last) x n with
  | .inl all=>.inl ⟨all,x.Day⟩
  | .inr e=>.inr e
def HV(day:Int):Q0 Ev->Nat->DL->(DL ⊕ Int)×Nat
 | [],n,s=>(.inl s,n)
 | x::l,n,s=>if x.Day<=day then match VI n s x with
   | .inl c=>HV day l (n+1) c
   | .inr e=>(.inr e,n)
  else(.inl s,n)
def qy(day:Int)(s:DL):Q0 ZY:=s.all.map<|JX<|day - s.last
def AD(day:Int)(l:Q0 Ev)(n:Nat)(s:DL):(Q0 ZY ⊕ Int)×Nat:=match HV day l n s with
 | (.inl c,k)=>(.inl<|qy day c,k)
 | (.inr e,k)=>(.inr e,k)
def JZ(l:Q0 Ev)(day:Int):(Q0 ZY ⊕ Int)×Nat:=if l.length > 4096 then(.inr 3,0) else if !Wa day 0 65536 then(.inr 2,0) else AD day l 0 ⟨[],0⟩
def vb(f:Nat->Int):Int:=f 0+f 1+f 2+f 3+f 4+f 5+f 6+f 7
structure Lj(age:Int)(f:Nat->Int):Prop where
 pos:∀k,0<=f k
 out:∀k,8<=k->f k=0
 sum:vb f<=age
theorem Lj.le(h:Lj a f)(k:Nat):0<=f k/\f k<=a:=by
 refine⟨h.pos k,?_⟩;have c:=h.pos 0;have d:=h.pos 1;have e:=h.pos 2;have g:=h.pos 3;have i:=h.pos 4;have l:=h.pos 5;have m:=h.pos 6;have o:=h.pos 7;have hs:=h.sum;unfold vb at hs
 match k with
 | 0=>omega
 | 1=>omega
 | 2=>omega
 | 3=>omega
 | 4=>omega
 | 5=>omega
 | 6=>omega
 | 7=>omega
 | k+8=>have:=h.out (k+8) qz;omega
theorem Lj.zero(h:0<=a):Lj a zN:=⟨λ_=>IN 0,λ_ _=>rfl,by simpa[vb] using h⟩
theorem Va{v:Int}:ZK f j v j=v:=by simp[ZK]
theorem Uo{k:Nat}{v:Int}(h:k≠j):ZK f j v k=f k:=by
 unfold ZK
 have:Nat.beq k j=false:=by
  cases c:Nat.beq k j with
  | false=>rfl
  | true=>exact absurd (kp c) h
 rw[this]
theorem Lj.rM(h:Lj a f)(c:j < 8)(g:0<=n):Lj (a+n) (ZK f j<|f j+n):=by
 refine⟨λk=> ?_,λk d=> ?_,?_⟩
 ·by_cases e:k=j
  ·subst e;rw[Va];have:=h.pos k;omega
  ·rw[Uo e];exact h.pos k
 ·rw[Uo qz];exact h.out k d
 ·have hs:=h.sum;unfold vb at hs ⊢
  match j,c with
  | 0,_=>simp[ZK];omega
  | 1,_=>simp[ZK];omega
  | 2,_=>simp[ZK];omega
  | 3,_=>simp[ZK];omega
  | 4,_=>simp[ZK];omega
  | 5,_=>simp[ZK];omega
  | 6,_=>simp[ZK];omega
  | 7,_=>simp[ZK];omega
theorem R5:JY a b<=a/\JY a b<=b/\(JY a b=a∨JY a b=b):=by unfold JY;split<;>omega
theorem Lj.min{g:Nat->Int}(h:Lj a f)(h' :Lj b g):Lj (JY a b) (PU f g):=by
 refine⟨λk=> ?_,λk c=> ?_,?_⟩
 ·unfold PU;have:=h.pos k;have:=h'.pos k;split
  ·have:=R5 (a:=f k) (b:=g k);omega
  ·exact h.pos k
 ·unfold PU;rw[B2 qz];exact h.out k c
 ·have hs:=h.sum;have d:=h'.sum;unfold vb at hs d ⊢
  have e:∀k,k < 8->PU f g k<=f k/\PU f g k<=g k:=λk c=>by
   unfold PU;rw[Bm c];have:=R5 (a:=f k) (b:=g k);omega
  have i:=e 0 j2;have l:=e 1 j2;have m:=e 2 j2;have o:=e 3 j2;have p:=e 4 j2;have q:=e 5 j2;have r:=e 6 j2;have s:=e 7 j2;have:=R5 (a:=a) (b:=b);omega
structure E0(last:Int)(n:Nat)(h:ZY):Prop where
 num:0<=h.C.Number/\h.C.Number<=1073741824
 wood:0<=h.C.Wood/\h.C.Wood<=7
 place:0<=h.C.Place/\h.C.Place<=7
 room:1<=h.C.Room/\h.C.Room<=1099511627776
 owner:0<=h.C.Owner/\h.C.Owner<=1073741824
 cred: -1<=h.C.Creditor/\h.C.Creditor<=1073741824
 amt:0<=h.C.Amount/\h.C.Amount<=h.C.Room
 age:0<=h.C.Age/\h.C.Age<=last
 woods:Lj h.C.Age h.C.Woods
 places:Lj h.C.Age h.C.Places
 empty:h.C.Amount=0->h.C.Age=0/\h.C.Woods=zN/\h.C.Places=zN/\h.Fills=[]
 fills:h.Fills.Pairwise (·< ·)/\∀f∈h.Fills,0<=f/\f < n
 some:0 < h.C.Amount->h.Fills≠[]
structure TP(last:Int)(n:Nat)(l:List ZY):Prop where
 each:∀h∈l,E0 last n h
 nums:(l.map (·.C.Number)).Nodup
 few:l.length<=256
structure Hw(n:Nat)(s:DL):Prop where
 day:0<=s.last/\s.last<=65536
 ok:TP s.last n s.all
theorem Jf:Wa n a b=true↔a<=n/\n<=b:=by simp[Wa]
theorem qH{last:Int}{m:Nat}(c:E0 last m h)(d:0<=n):E0 (last+n) m (JX n h):=by
 unfold JX;split
 ·rename_i g;refine⟨c.num,c.wood,c.place,c.room,c.owner,c.cred,c.amt,⟨by have:=c.age;simp;omega,by have:=c.age;simp;omega⟩,c.woods.rM (by have:=c.wood;omega) d,c.places.rM (by have:=c.place;omega) d,λe=> ?_,c.fills,c.some⟩;have:h.C.Amount=0:=e;omega
 ·exact⟨c.num,c.wood,c.place,c.room,c.owner,c.cred,c.amt,⟨c.age.1,by have:=c.age.2;omega⟩,c.woods,c.places,c.empty,c.fills,c.some⟩
theorem EP:(JX n h).C.Number=h.C.Number:=by unfold JX;split<;>rfl
theorem PS{last:Int}{m:Nat}{l:Q0 ZY}(c:TP last m l)(d:0<=n):TP (last+n) m (l.map<|JX n):=by
 refine⟨λh e=> ?_,?_,by simpa using c.few⟩
 ·obtain⟨g,i,rfl⟩:=n2.1 e;exact qH (c.each g i) d
 ·rw[lY];have:((λx:ZY=>x.C.Number)∘JX n)=λx=>x.C.Number:=funext λx=>EP;rw[this];exact c.nums
theorem yD:JX b (JX a h)=JX (a+b) h:=by
 unfold JX;by_cases c:0 < h.C.Amount
 ·simp only[c,B3]
  have e:∀(f:Nat->Int) (j:Nat),ZK (ZK f j<|f j+a) j (ZK f j (f j+a) j+b)=ZK f j (f j+(a+b)):=λf j=>by
   funext k;unfold ZK;cases d:Nat.beq k j with
   | true=>simp;omega
   | false=>simp
  simp only[e];congr 2;omega
 ·simp only[c,By]
end
section
open Go.Dec
variable{last n:Int}{x:Ev}{l:Q0 ZY}{h:ZY}{i m:Nat}
theorem MD{x y:Int}:∀{l:Q0 Int},y∈BJ x l↔y=x∨y∈l
 | []=>by simp[BJ]
 | z::l=>by
  simp only[BJ];split
  ·simp
  ·split
   ·rename_i h;have:=(mb.1 h:x=z);subst this;simp
   ·simp only[Tc,MD (l:=l)];constructor
    ·rintro(h | h | h)
     ·exact .inr<|.inl h
     ·exact .inl h
     ·exact .inr<|.inr h
    ·rintro(h | h | h)
     ·exact .inr<|.inl h
     ·exact .inl h
     ·exact .inr<|.inr h
theorem Fl{x:Int}:∀{l:Q0 Int},l.Pairwise (·< ·)->(BJ x l).Pairwise (·< ·)
 | [],_=>by simp[BJ]
 | z::l,h=>by
  have c:=j3.1 h;simp only[BJ];split
  ·rename_i d;refine j3.2 ⟨λa b=> ?_,h⟩;rcases Tc.1 b with rfl | b
   ·exact d
   ·have:=c.1 a b;omega
  ·split
   ·exact h
   ·rename_i j f;have g:x≠z:=λe=>f (by simp[e]);refine j3.2 ⟨λa b=> ?_,Fl c.2⟩;rcases MD.1 b with rfl | b
    ·omega
    ·exact c.1 a b
theorem MB{a b:Q0 Int}{y:Int}:y∈Ic a b↔y∈a∨y∈b:=by
 unfold Ic
 induction a with
 | nil=>simp
 | cons x a c=>simp only[List.foldr_cons,MD,c,Tc,or_assoc]
theorem zX{a b:Q0 Int}(h:b.Pairwise (·< ·)):(Ic a b).Pairwise (·< ·):=by
 unfold Ic
 induction a with
 | nil=>exact h
 | cons x a c=>exact Fl c
theorem Bi:∀{a b:Q0 Int},a.Pairwise (·< ·)->b.Pairwise (·< ·)->(∀x,x∈a↔x∈b)->a=b
 | [],[],_,_,_=>rfl
 | [],y::b,_,_,h=>by have:=(h y).2 zh;simp at this
 | x::a,[],_,_,h=>by have:=(h x).1 zh;simp at this
 | x::a,y::b,o,p,h=>by
  have c:=j3.1 o;have d:=j3.1 p
  have g:x=y:=by
   have j:=(h x).1 zh;have k:=(h y).2 zh;rcases Tc.1 j with e | j
   ·exact e
   ·rcases Tc.1 k with e | k
    ·exact e.symm
    ·have:=d.1 x j;have:=c.1 y k;omega
  subst g;congr 1;refine Bi c.2 d.2 λz=> ?_;constructor
  ·intro f;have:=(h z).1<|IF _ f;rcases Tc.1 this with rfl | this
   ·have:=c.1 z f;omega
   ·exact this
  ·intro f;have:=(h z).2<|IF _ f;rcases Tc.1 this with rfl | this
   ·have:=d.1 z f;omega
   ·exact this
theorem FJ:∀{l:Q0 ZY} {i:Nat},Js l n=some i->∃h,l[i]? =some h/\h.C.Number=n
 | [],_,h=>by cases h
 | h::l,i,e=>by
  simp only[Js] at e
  split at e
  ·rename_i b;cases e;exact⟨h,rfl,mb.1 b⟩
  ·cases a:Js l n with
   | none=>rw[a] at e;cases e
   | some j=>
    rw[a] at e
    simp only[E4,UV] at e
    subst e;obtain⟨h',c,d⟩:=FJ a;exact⟨h',by simpa using c,d⟩
theorem BK:∀{l:Q0 ZY},Js l n=none->∀h∈l,h.C.Number≠n
 | [],_,_,h=>by cases h
 | h::l,e,h',a=>by
  simp only[Js] at e
  split at e
  ·cases e
  ·rename_i c;cases b:Js l n with
   | some j=>rw[b] at e;cases e
   | none=>
    rcases Tc.1 a with rfl | a
    ·intro d;exact c<|by simp[d]
    ·exact BK b h' a
theorem R8(d:(l.map (·.C.Number)).Nodup)(hi:l[i]? =some h):Js l h.C.Number=some i:=by
 cases b:Js l h.C.Number with
 | none=>exact absurd rfl (BK b h<|T2 hi)
 | some j=>
  obtain⟨h',f,e⟩:=FJ b;have c:(l.map (·.C.Number))[i]? =some h.C.Number:=by simp[hi]
  have g:(l.map (·.C.Number))[j]? =some h.C.Number:=by simp[f,e]
  have a:i < (l.map (·.C.Number)).length:=(Do.1 c).1;rw[(List.getElem?_inj a d).1<|c.trans g.symm]
theorem E0.up{n:Nat}(a:E0 last n h):E0 last (n+1) h:={a with fills:=⟨a.fills.1,λf b=>by have:=a.fills.2 f b;omega⟩}
theorem TP.set{n:Nat}{h':ZY}(a:TP last n l)(hi:l[i]? =some h)(b:E0 last n h')(f:h'.C.Number=h.C.Number):TP last n (l.set i h'):=by
 refine⟨λx g=> ?_,?_,by simpa using a.few⟩
 ·rcases List.mem_or_eq_of_mem_set g with c | c
  ·exact a.each x c
  ·rw[c];exact b
 ·have:(l.set i h').map (·.C.Number)=l.map (·.C.Number):=by
   apply mg;intro j;simp only[hP,my];by_cases e:i=j
   ·subst e;have d:=(Do.1 hi).1;have b:=(Do.1 hi).2;simp[d,f,b]
   ·simp[e]
  rw[this];exact a.nums
theorem TP.up{n:Nat}(a:TP last n l):TP last (n+1) l:=⟨λh b=>(a.each h b).up,a.nums,a.few⟩
theorem kz{s:ZY}(c:E0 last m h)(z:1<=n)(p:h.C.Amount+n<=h.C.Room)(v:0<=s.C.Age/\s.C.Age<=last)(q:Lj s.C.Age s.C.Woods)(r:Lj s.C.Age s.C.Places)(j:s.Fills.Pairwise (·< ·)/\∀f∈s.Fills,0<=f/\f < m)(k:s.Fills≠[]):E0 last m (Ua h s n):=by
 unfold Ua;split
 ·rename_i o;have w:h.C.Amount=0:=mb.1 o;refine⟨c.num,c.wood,c.place,c.room,c.owner,c.cred,⟨by show 0<=h.C.Amount+n;omega,p⟩,v,q,r,λe=> ?_,j,λ_=>k⟩;have:h.C.Amount+n=0:=e;omega
 ·rename_i o
  have g:0 < h.C.Amount:=by
   have:=c.amt.1;have:h.C.Amount≠0:=λe=>o (by simp[e]);omega
  refine⟨c.num,c.wood,c.place,c.room,c.owner,c.cred,⟨by show 0<=h.C.Amount+n;omega,p⟩,?_,c.woods.min q,c.places.min r,λe=> ?_,?_,λ_=> ?_⟩
  ·have:=c.age;have:=R5 (a:=h.C.Age) (b:=s.C.Age);show 0<=JY _ _/\JY _ _<=last;omega
  ·have:h.C.Amount+n=0:=e;omega
  ·refine⟨zX j.1,λf d=> ?_⟩;rcases MB.1 d with d | d
   ·exact c.fills.2 f d
   ·exact j.2 f d
  ·intro e;have d:=c.some g;cases u:h.Fills with
   | nil=>exact d u
   | cons a t=>
    have:a∈Ic h.Fills s.Fills:=MB.2 (.inl (by rw[u];simp));have y:Ic h.Fills s.Fills=[]:=e;rw[y] at this;cases this
theorem Oo(a:E0 last m h)(g:1<=n)(j:n<=h.C.Amount)(d:0<=last):E0 last m (WG h n):=by
 unfold WG;split
 ·have b:=a.room;exact⟨a.num,a.wood,a.place,a.room,a.owner,a.cred,⟨IN 0,by show(0:Int)<=h.C.Room;omega⟩,⟨IN 0,d⟩,Lj.zero<|IN 0,Lj.zero<|IN 0,λ_=>⟨rfl,rfl,rfl,rfl⟩,⟨List.Pairwise.nil,λ_ h=>by cases h⟩,λh=>by have h' :(0:Int) < 0:=h;omega⟩
 ·rename_i f;have c:h.C.Amount - n≠0:=λe=>f (by simp[e]);have k:=a.amt;refine⟨a.num,a.wood,a.place,a.room,a.owner,a.cred,⟨by show 0<=h.C.Amount - n;omega,by show h.C.Amount - n<=h.C.Room;omega⟩,a.age,a.woods,a.places,λe=>absurd e c,a.fills,λ_=>a.some qz⟩
theorem MV(h:Xb x=true):(0<=x.Day/\x.Day<=65536)/\(0<=x.Cask/\x.Cask<=1073741824):=by
 simp only[Xb,BY,Jf] at h
 exact⟨h.1.1,h.1.2⟩
theorem bu(h:Xb x=true)(k:x.Kind=0):(0<=x.Other/\x.Other<=7)/\(0<=x.Where/\x.Where<=7)/\(1<=x.Amount/\x.Amount<=1099511627776)/\(0<=x.Person/\x.Person<=1073741824):=by
 simp only[Xb,BY,Jf,k,BEq.rfl,B3] at h
 obtain⟨_,⟨⟨⟨a,b⟩,c⟩,d⟩⟩:=h;exact⟨a,b,c,d⟩
theorem O1(h:Xb x=true):(if x.Kind==0 then Wa x.Other 0 7&&Wa x.Where 0 7&&Wa x.Amount 1 1099511627776&&Wa x.Person 0 1073741824
 else if x.Kind==1||x.Kind==3 then Wa x.Amount 1 1099511627776
 else if x.Kind==2 then Wa x.Other 0 1073741824&&Wa x.Amount 1 1099511627776
 else if x.Kind==4 then Wa x.Where 0 7
 else if x.Kind==5||x.Kind==6 then Wa x.Person 0 1073741824&&Wa x.To 0 1073741824
 else if x.Kind==7 then Wa x.Person 0 1073741824
 else if x.Kind==8 then Wa x.Where 0 7 else false)=true:=((BY _ _).mp h).2
theorem DW(h:Xb x=true)(k:x.Kind=1∨x.Kind=2∨x.Kind=3):1<=x.Amount/\x.Amount<=1099511627776:=by
 have h:=O1 h;rcases k with k | k | k<;>rw[k] at h
 ·exact Jf.1 h
 ·exact Jf.1 ((BY _ _).mp h).2
 ·exact Jf.1 h
theorem dh(h:Xb x=true)(k:x.Kind=4∨x.Kind=8):0<=x.Where/\x.Where<=7:=by
 have h:=O1 h;rcases k with k | k<;>rw[k] at h
 ·exact Jf.1 h
 ·exact Jf.1 h
theorem df(h:Xb x=true)(k:x.Kind=5∨x.Kind=6):0<=x.To/\x.To<=1073741824:=by
 have h:=O1 h;rcases k with k | k<;>rw[k] at h
 ·exact Jf.1 ((BY _ _).mp h).2
 ·exact Jf.1 ((BY _ _).mp h).2
theorem kinds(h:Xb x=true):x.Kind=0∨x.Kind=1∨x.Kind=2∨x.Kind=3∨x.Kind=4∨x.Kind=5∨x.Kind=6∨x.Kind=7∨x.Kind=8:=by
 have h:=O1 h;by_cases a:x.Kind=0
 ·exact .inl a
 rw[B2<|by simpa using a] at h
 by_cases b:x.Kind=1
 ·exact .inr<|.inl b
 by_cases c:x.Kind=3
 ·exact .inr<|.inr<|.inr<|.inl c
 rw[B2<|by simp[b,c]] at h
 by_cases d:x.Kind=2
 ·exact .inr<|.inr<|.inl d
 rw[B2<|by simpa using d] at h
 by_cases e:x.Kind=4
 ·exact .inr<|.inr<|.inr<|.inr<|.inl e
 rw[B2<|by simpa using e] at h
 by_cases f:x.Kind=5
 ·exact .inr<|.inr<|.inr<|.inr<|.inr<|.inl f
 by_cases g:x.Kind=6
 ·exact .inr<|.inr<|.inr<|.inr<|.inr<|.inr<|.inl g
 rw[B2<|by simp[f,g]] at h
 by_cases j:x.Kind=7
 ·exact .inr<|.inr<|.inr<|.inr<|.inr<|.inr<|.inr<|.inl j
 rw[B2<|by simpa using j] at h
 by_cases k:x.Kind=8
 ·exact .inr<|.inr<|.inr<|.inr<|.inr<|.inr<|.inr<|.inr k
 rw[B2<|by simpa using k] at h
 cases h
section
variable{last:Int}{m:Nat}{l l' :Q0 ZY}{x:Ev}{i:Nat}{c:ZY}
theorem jI(f:TP last m l)(o:0<=last)(g:Xb x=true)(p:x.Kind=0)(h:EX l x= .inl l'):TP last (m+1) l' :=by
 unfold EX at h
 split at h
 ·cases h
 ·rename_i q;split at h
  ·cases h
  ·rename_i j;cases h;obtain⟨r,s,t,u⟩:=bu g p;have v:=(MV g).2;refine⟨λy d=> ?_,?_,by simp;omega⟩
   ·rcases mn.1 d with d | d
    ·exact(f.each y d).up
    ·simp only[nt] at d
     subst d;exact⟨v,r,s,t,u,by simp[Ol],⟨IN 0,by show(0:Int)<=x.Amount;omega⟩,⟨IN 0,o⟩,Lj.zero<|IN 0,Lj.zero<|IN 0,λ_=>⟨rfl,rfl,rfl,rfl⟩,⟨List.Pairwise.nil,λ_ h=>by cases h⟩,λh=>by have h' :(0:Int) < 0:=h;omega⟩
   ·rw[e0,ix];refine⟨f.nums,by simp,λa w b k=> ?_⟩;simp only[Of,eW,nt] at k
    obtain⟨y,d,rfl⟩:=n2.1 w;subst k;have e:Js l x.Cask=none:=by simpa using q
    exact BK e y d
theorem jP(d:TP last m l)(j:0<=last)(e:l[i]? =some c)(k:1<=x.Amount)(h:AZ l i c x m= .inl l'):TP last (m+1) l' :=by
 have a:=d.each c<|T2 e;unfold AZ at h
 split at h
 ·cases h
 ·rename_i b;cases h;refine(d.up).set e (kz a.up k qz ⟨IN 0,j⟩ (Lj.zero<|IN 0) (Lj.zero<|IN 0) ⟨by simp[BL],λf g=> ?_⟩<|by simp[BL]) ?_
  ·simp only[BL,nt] at g
   subst g;omega
  ·unfold Ua;split<;>rfl
theorem ky(g:TP last m l)(t:0<=last)(q:l[i]? =some c)(r:1<=x.Amount)(h:AO l i c x= .inl l'):TP last (m+1) l' :=by
 have a:=g.each c<|T2 q;unfold AO at h
 split at h
 ·cases h
 ·rename_i k u;split at h
  ·cases h
  ·rename_i o b;have j:=g.each o<|T2 b;unfold PL at h
   split at h
   ·cases h
   ·rename_i p;have d:i≠k:=λe=>p (by simp[e]);split at h
    ·cases h
    ·split at h
     ·cases h
     ·split at h
      ·cases h
      ·rename_i v w;cases h;have f:0 < c.C.Amount:=by omega
       have y:=(g.up).set b (kz (s:=c) j.up r qz a.age a.woods a.places a.up.fills<|a.some f) (by unfold Ua;split<;>rfl);refine y.set (h:=c) ?_ (Oo a.up r qz t) (by unfold WG;split<;>rfl);rw[u1 λe=>d e.symm];exact q
theorem uo(b:TP last m l)(e:0<=last)(d:l[i]? =some c)(f:1<=x.Amount)(h:Bz l i c x= .inl l'):TP last (m+1) l' :=by
 have a:=b.each c<|T2 d;unfold Bz at h
 split at h
 ·cases h
 ·split at h
  ·cases h
  ·cases h;exact(b.up).set d (Oo a.up f qz e) (by unfold WG;split<;>rfl)
theorem fH(b:TP last m l)(f:0<=last)(e:Xb x=true)(g:x.Kind≠0)(d:l[i]? =some c)(h:XK l i c x m= .inl l'):TP last (m+1) l' :=by
 have a:=b.each c<|T2 d;rcases kinds e with k | k | k | k | k | k | k | k | k
 ·exact absurd k g
 ·have h:AZ l i c x m= .inl l' :=by rw[<-h];unfold XK;rw[k];rfl
  exact jP b f d (DW e<|.inl k).1 h
 ·have h:AO l i c x= .inl l' :=by rw[<-h];unfold XK;rw[k];rfl
  exact ky b f d (DW e<|.inr<|.inl k).1 h
 ·have h:Bz l i c x= .inl l' :=by rw[<-h];unfold XK;rw[k];rfl
  exact uo b f d (DW e<|.inr<|.inr k).1 h
 ·have h:O8 l i c x= .inl l' :=by rw[<-h];unfold XK;rw[k];rfl
  cases h;exact(b.up).set d {a.up with place:=dh e (.inl k)} rfl
 ·have h:RG l i c x= .inl l' :=by rw[<-h];unfold XK;rw[k];rfl
  unfold RG at h
  split at h
  ·cases h
  ·split at h
   ·cases h
   ·cases h;exact(b.up).set d {a.up with owner:=df e (.inl k)} rfl
 ·have h:DQ l i c x= .inl l' :=by rw[<-h];unfold XK;rw[k];rfl
  unfold DQ at h
  split at h
  ·cases h
  ·split at h
   ·cases h
   ·cases h;have:=df e<|.inr k;exact(b.up).set d {a.up with cred:=⟨by show -1<=x.To;omega,this.2⟩} rfl
 ·have h:RT l i c x= .inl l' :=by rw[<-h];unfold XK;rw[k];rfl
  unfold RT at h
  split at h
  ·cases h
  ·cases h;exact(b.up).set d {a.up with cred:=⟨IN _,by show(-1:Int)<=_;omega⟩} rfl
 ·have h:Rb l i c x= .inl l' :=by rw[<-h];unfold XK;rw[k];rfl
  unfold Rb at h
  split at h
  ·cases h
  ·cases h;exact(b.up).set d {a.up with wood:=dh e (.inr k)} rfl
theorem uq(b:TP last m l)(d:0<=last)(f:Xb x=true)(h:DB l x m= .inl l'):TP last (m+1) l' :=by
 unfold DB at h
 split at h
 ·rename_i a;exact jI b d f (mb.1 a) h
 ·rename_i a;split at h
  ·cases h
  ·split at h
   ·cases h
   ·rename_i c g;exact fH b d f (λe=>a<|by simp[e]) g h
end
theorem TV{n:Nat}{s c:DL}(g:Hw n s)(h:VI n s x= .inl c):Hw (n+1) c/\Xb x=true/\s.last<=x.Day/\c.last=x.Day:=by
 unfold VI at h
 split at h
 ·cases h
 ·rename_i a;have a:Xb x=true:=by simpa using a
  split at h
  ·cases h
  ·rename_i j;split at h
   ·rename_i all b;cases h;have d:=(MV a).1;have f:=PS g.ok (n:=x.Day - s.last) qz;have e:s.last+(x.Day - s.last)=x.Day:=by omega
    rw[e] at f
    exact⟨⟨d,uq f d.1 a b⟩,a,by omega,rfl⟩
   ·cases h
theorem Hw.start:Hw 0 ⟨[],0⟩:=⟨⟨IN 0,by decide⟩,⟨λ_ h=>(by cases h),iB,by simp⟩⟩
end
section
open Go.Dec
theorem Am{n:Int}:∀{l:Q0 Int} (a:Int),l.Pairwise (·< ·)->(∀f∈l,a<=f/\f < n)->a<=n->(l.length:Int)<=n - a
 | [],a,_,_,h=>by simp;omega
 | x::l,a,h,b,_=>by
  have h' :=j3.1 h;have d:=b x zh;have:=Am (l:=l) (x+1) h'.2 (λf c=>⟨by have:=h'.1 f c;omega,(b f<|IF _ c).2⟩) qz;simp only[kn];omega
def Rj(i:Nat)(f g:Nat->Int):Nat->Int:=λk=>if k < i then JY (f k) (g k) else f k
theorem EV{i:Nat}{f g:Nat->Int}:ZK (Rj i f g) i (JY (f i)<|g i)=Rj (i+1) f g:=by
 funext k;by_cases e:k=i
 ·subst e;rw[Va];unfold Rj;rw[Bm qz]
 ·rw[Uo e];unfold Rj;by_cases h:k < i
  ·rw[Bm h,Bm qz]
  ·rw[B2 h,B2 qz]
theorem uE{f g:Nat->Int}:Rj 0 f g=f:=by funext k;unfold Rj;rw[B2 qz]
theorem bt{x:Ev}(h:Xb x=true):0<=x.Day/\x.Day<=65536:=(MV h).1
theorem Ef{day:Int}:∀(l:Q0 Ev) (n:Nat) (s a:DL) (k:Nat),Hw n s->s.last<=day->HV day l n s=(.inl a,k)->Hw k a/\a.last<=day/\n<=k/\k<=n+l.length
 | [],n,s,a,k,b,c,h=>by
  simp only[HV,L4,hJ] at h
  obtain⟨rfl,rfl⟩:=h;exact⟨b,c,S2 _,by simp⟩
 | x::l,n,s,a,k,b,c,h=>by
  simp only[HV] at h
  by_cases d:x.Day<=day
  ·rw[Bm d] at h
   cases hs:VI n s x with
   | inl f=>
    rw[hs] at h
    obtain⟨g,_,_,m⟩:=TV b hs;obtain⟨i,j,o,p⟩:=Ef l (n+1) f a k g qz h;exact⟨i,j,by omega,by simp;omega⟩
   | inr e=>rw[hs] at h;cases h
  ·rw[B2 d] at h
   simp only[L4,hJ] at h
   obtain⟨rfl,rfl⟩:=h;exact⟨b,c,S2 _,by simp⟩
end
section
open Go.Dec
variable{c:QJ}{t:Int}{A1:Q0 QJ}{n:Nat}{h:ZY}
abbrev FM:=Q0<|Q0<|Int×Bool
variable{A3:FM}
def UK(c:QJ)(F:Q0 Int):ZY:=⟨⟨c.number,c.wood,c.place,c.room,c.owner,c.creditor,c.amount,c.times.age,c.times.woods,c.times.places⟩,F⟩
def FR(A3:FM)(p:Q2 Nat)(F:Q0 Int):Prop:=match p with
 | none=>F=[]
 | some j=>∃l,A3[j]? =some l/\(l.map Prod.fst).Nodup/\∀x,x∈F↔x∈l.map Prod.fst
structure CR(t:Int)(n:Nat)(A3:FM)(c:QJ)(h:ZY):Prop where
 since:0<=c.since/\c.since<=t
 ok:E0 c.since n (UK c h.Fills)
 eq:h=JX (t - c.since) (UK c h.Fills)
 fills:FR A3 c.fills h.Fills
structure PR(t:Int)(n:Nat)(all:List ZY)(A1:List QJ)(A3:FM)(m:List (Int×Option Nat)):Prop where
 len:A1.length=all.length
 each:∀(k:Nat) (c:QJ) (h:ZY),A1[k]? =some c->all[k]? =some h->CR t n A3 c h
 map:m=A1.mapIdx (λk c=>(c.number,some k))
 apart:∀(i j:Nat) (ci cj:QJ) (q:Nat),A1[i]? =some ci->A1[j]? =some cj->ci.fills=some q->cj.fills=some q->i=j
theorem C6{n:Int}:(JX n h).Fills=h.Fills:=by unfold JX;split<;>rfl
theorem Sw:JX 0 h=h:=by
 unfold JX;split
 ·have e:∀(f:Nat->Int) (j:Nat),ZK f j (f j)=f:=λf j=>by
   funext k;by_cases e:k=j
   ·subst e;rw[Va]
   ·rw[Uo e]
  simp only[oc,e]
 ·rfl
theorem CR.number(r:CR t n A3 c h):h.C.Number=c.number:=by rw[r.eq,EP];rfl
theorem CR.shift{t':Int}(r:CR t n A3 c h)(le:t<=t'):CR t' n A3 c (JX (t' - t) h):=by
 refine⟨⟨r.since.1,by have:=r.since.2;omega⟩,?_,?_,?_⟩
 ·rw[C6];exact r.ok
 ·rw[C6]
  conv=>lhs;rw[r.eq]
  rw[yD];congr 1;omega
 ·rw[C6];exact r.fills
theorem PR.shift{t':Int}{all:Q0 ZY}{m:Q0 (Int×Q2 Nat)}(r:PR t n all A1 A3 m)(le:t<=t'):PR t' n (all.map<|JX<|t' - t) A1 A3 m:=by
 refine⟨by simpa using r.len,λk c h d a=> ?_,r.map,r.apart⟩;rw[hP] at a
 cases b:all[k]? with
 | none=>rw[b] at a;cases a
 | some e=>
  rw[b] at a
  simp only[E4,UV] at a
  subst a;exact(r.each k c e d b).shift le
def XR(t:Int)(c:QJ):QJ:=if 0 < c.amount then{c with since:=t,times:=⟨c.times.age+(t - c.since),ZK c.times.woods c.wood.toNat<|c.times.woods c.wood.toNat+(t - c.since),ZK c.times.places c.place.toNat<|c.times.places c.place.toNat+(t - c.since)⟩} else{c with since:=t}
theorem I4{F:Q0 Int}:UK (XR t c) F=JX (t - c.since) (UK c F):=by
 unfold XR JX;by_cases h:0 < c.amount
 ·rw[Bm h,Bm<|show 0 < (UK c F).C.Amount from h];rfl
 ·rw[B2 h,B2<|show ¬0 < (UK c F).C.Amount from h];rfl
theorem XQ:(XR t c).since=t:=by unfold XR;split<;>rfl
theorem RH:(XR t c).number=c.number:=by unfold XR;split<;>rfl
theorem C0:(XR t c).fills=c.fills:=by unfold XR;split<;>rfl
theorem CR.rest(r:CR t n A3 c h):CR t n A3 (XR t c) h:=by
 refine⟨⟨by rw[XQ];have:=r.since;omega,by rw[XQ];exact IN t⟩,?_,?_,by rw[C0];exact r.fills⟩
 ·rw[I4,XQ];have:=qH r.ok (n:=t - c.since) (by have:=r.since;omega);have e:c.since+(t - c.since)=t:=by omega
  rwa[e] at this
 ·rw[I4,XQ,eM,Sw];exact r.eq
theorem EA{k:Nat}{F:Q0 Int}(g:A1[k]? =some c)(d:E0 c.since n (UK c F))(_h0:0<=c.since)(l:c.since<=t)(m:t<=1000000):UW A1 (some k) t=some (A1.set k<|XR t c):=by
 have o:k < A1.length:=(Do.1 g).1;have e:=d.age;have b:=d.wood;have a:=d.place;have i:VM 8 c.wood=some c.wood.toNat:=by unfold VM;rw[Bm (by have:0<=c.wood/\c.wood<=7:=b;omega)]
 have j:VM 8 c.place=some c.place.toNat:=by unfold VM;rw[Bm (by have:0<=c.place/\c.place<=7:=a;omega)]
 have p:0<=c.times.woods c.wood.toNat/\c.times.woods c.wood.toNat<=c.times.age:=d.woods.le _;have q:0<=c.times.places c.place.toNat/\c.times.places c.place.toNat<=c.times.age:=d.places.le _;have r:0<=c.times.age/\c.times.age<=c.since:=e;unfold UW;simp only[K1,g,QQ];rw[Qi (n:=t - c.since) qz qz];by_cases f:0 < c.amount
 ·rw[Bm<|by simpa using f];simp only[i,j,K1,mx];rw[Qi (n:=c.times.age+(t - c.since)) qz qz,Qi (n:=c.times.woods c.wood.toNat+(t - c.since)) qz qz,Qi (n:=c.times.places c.place.toNat+(t - c.since)) qz qz];simp only[XR,f,B3]
 ·rw[B2<|by simpa using f];simp only[XR,f,By]
theorem MF{num:Int}:∀(A1:Q0 QJ) (all:Q0 ZY) (b:Nat),A1.length=all.length->(∀(k:Nat) (c:QJ) (h:ZY),A1[k]? =some c->all[k]? =some h->h.C.Number=c.number)->
  (Qb (A1.mapIdx λk c=>(c.number,some<|b+k)) num).getD none=(Js all num).map (b+ ·)
 | [],[],_,_,_=>rfl
 | [],_::_,_,h,_=>by simp at h
 | _::_,[],_,h,_=>by simp at h
 | c::A1,h::all,b,m,g=>by
  have l:=g 0 c h rfl rfl;rw[List.mapIdx_cons];simp only[Qb,Js];by_cases e:num=c.number
  ·have d:(num==c.number)=true:=by simpa using e
   have f:(h.C.Number==num)=true:=by simp[l,e]
   simp[d,f]
  ·have d:(num==c.number)=false:=by simpa using e
   have f:(h.C.Number==num)=false:=by simp[l];exact λo=>e o.symm
   have p:=MF (num:=num) A1 all (b+1) (by simpa using m) (λk c h q r=>g (k+1) c h (by simpa using q)<|by simpa using r);simp only[d,f,H1,By];have s:(fun(i:Nat) (a:QJ)=>(a.number,some<|b+(i+1)))=λk c=>(c.number,some<|b+1+k):=by funext i a;rw[show b+(i+1)=b+1+i by omega]
   rw[s,p];cases Js all num with
   | none=>rfl
   | some j=>simp;omega
theorem PR.get{all:Q0 ZY}{m:Q0 (Int×Q2 Nat)}(r:PR t n all A1 A3 m)(num:Int):(Qb m num).getD none=Js all num:=by
 have:=MF (num:=num) A1 all 0 r.len λk c h a b=>(r.each k c h a b).number;rw[r.map];simpa using this
end
section
open Go.Dec
variable{c c':QJ}{A1:Q0 QJ}{F:Q0 Int}{A3:FM}{h:ZY}{t:Int}{n k:Nat}
theorem CR.up(r:CR t n A3 c h):CR t (n+1) A3 c h:=⟨r.since,r.ok.up,r.eq,r.fills⟩
theorem FR.keep{A3':FM}{p:Q2 Nat}(r:FR A3 p F)(h:∀q,p=some q->A3'[q]? =A3[q]?):FR A3' p F:=by
 cases p with
 | none=>exact r
 | some q=>obtain⟨l,a,b⟩:=r;exact⟨l,by rw[h q rfl];exact a,b⟩
theorem mapIdx_set(b:A1[k]? =some c)(d:c'.number=c.number):(A1.set k c').mapIdx (λk c=>(c.number,some k))=A1.mapIdx (λk (c:QJ)=>(c.number,some k)):=by
 apply mg;intro i;simp only[lz,my];by_cases e:k=i
 ·subst e;have a:=(Do.1 b).1;have f:=(Do.1 b).2;simp[a,d,f]
 ·simp[e]
section
variable{t:Int}{n n' :Nat}{all:Q0 ZY}{A1:Q0 QJ}{A3 A3' :FM}{m:Q0 (Int×Q2 Nat)}{k:Nat}{c c' :QJ}{h h' :ZY}
theorem PR.set(r:PR t n all A1 A3 m)(x:A1[k]? =some c)(z:all[k]? =some h)(o:c'.number=c.number)(p:CR t n' A3' c' h')(d:∀(i:Nat) (ci:QJ) (hi:ZY),i≠k->A1[i]? =some ci->all[i]? =some hi->CR t n' A3' ci hi)
  (g:∀(i:Nat) (ci:QJ) (q:Nat),i≠k->A1[i]? =some ci->ci.fills=some q->c'.fills≠some q):PR t n' (all.set k h') (A1.set k c') A3' m:=by
 have s:=(Do.1 x).1;have u:=(Do.1 z).1;refine⟨by simpa using r.len,λi ci hi b a=> ?_,by rw[mapIdx_set x o];exact r.map,λi j ci y q b a v w=> ?_⟩
 ·by_cases e:k=i
  ·subst e;rw[y1 s] at b
   rw[y1 u] at a
   cases b;cases a;exact p
  ·rw[u1 e] at b a
   exact d i ci hi (λl=>e l.symm) b a
 ·by_cases e:k=i
  ·by_cases f:k=j
   ·rw[<-e,<-f]
   ·subst e;rw[y1 s] at b
    rw[u1 f] at a
    cases b;exact absurd v<|g j y q (λl=>f l.symm) a w
  ·rw[u1 e] at b
   by_cases f:k=j
   ·subst f;rw[y1 s] at a
    cases a;exact absurd w<|g i ci q (λl=>e l.symm) b v
   ·rw[u1 f] at a
    exact r.apart i j ci y q b a v w
theorem PR.nm(r:PR t n all A1 A3 m)(j:A1[k]? =some c)(l:all[k]? =some h)(d:c'.number=c.number)(e:CR t (n+1) A3 c' h')(a:c'.fills=c.fills∨c'.fills=none):PR t (n+1) (all.set k h') (A1.set k c') A3 m:=
 r.set j l d e (λi ci hi _ f g=>(r.each i ci hi f g).up) (λi ci q hi f g b=>by
  rcases a with a | a
  ·rw[a] at b;exact hi<|r.apart i k ci c q f j g b
  ·rw[a] at b;cases b)
theorem PR.rest(r:PR t n all A1 A3 m)(a:A1[k]? =some c):PR t n all (A1.set k<|XR t c) A3 m:=by
 have j:=(Do.1 a).1;have b:k < all.length:=by rw[<-r.len];exact j
 have f:all[k]? =some all[k]:=C2 b
 have:=r.set (n' :=n) (A3' :=A3) (c' :=XR t c) (h' :=all[k]) a f RH (r.each k c _ a f).rest (λi ci hi _ d e=>r.each i ci hi d e) λi ci q hi d e g=>by
  rw[C0] at g;exact hi<|r.apart i k ci c q d a e g
 rwa[iT] at this
theorem Xo{e:Qj}{num:Int}(r:PR t n all A1 A3 m)(q:t<=1000000)(s:e.casks=some 0):(Js all num=none/\Z7 A1 [e] [m] (some 0) num t=some (.pan ⟨4⟩))∨
  (∃k h c,Js all num=some k/\all[k]? =some h/\h.C.Number=num/\PR t n all (A1.set k c) A3 m/\(A1.set k c)[k]? =some c/\c.since=t/\h=UK c h.Fills/\E0 t n h/\Z7 A1 [e] [m] (some 0) num t=some (.ok (some k,A1.set k c))):=by
 have f:=r.get num;unfold Z7;simp only[K1,So,s,f];cases u:Js all num with
 | none=>
  left;exact⟨rfl,rfl⟩
 | some k=>
  right;obtain⟨h,i,g⟩:=FJ u;have j:=(Do.1 i).1;have p:k < A1.length:=by rw[r.len];exact j
  have l:A1[k]? =some A1[k]:=C2 p;have a:=r.each k _ h l i;have b:=a.rest
  have d:h=UK (XR t A1[k]) h.Fills:=by
   have:=b.eq;rw[XQ,eM,Sw] at this
   exact this
  have o:E0 t n h:=by
   have:=b.ok;rw[XQ,<-d] at this
   exact this
  refine⟨k,h,XR t A1[k],rfl,i,g,r.rest l,y1 p,XQ,d,o,?_⟩;show Qw (Zb true 4) _ _=_;have v:Zb true 4=some (.ok ()):=rfl;rw[v];simp only[Qw];rw[EA l a.ok a.since.1 a.since.2 q];rfl
end
def Xu(t:Int)(n:Nat)(r:Q0 ZY ⊕ Int)(o:Q2 (Out Zk<|Q0 QJ×FM×Q0 (Q0<|Int×Q2 Nat))):Prop:=match r with
 | .inl a=>∃b A3' d,o=some (.ok (b,A3',[d]))/\PR t (n+1) a b A3' d
 | .inr e=>o=some (.pan ⟨e⟩)/\e≠0
section
variable{t:Int}{n:Nat}{all:Q0 ZY}{A1:Q0 QJ}{A3:FM}{m:Q0 (Int×Q2 Nat)}{b:Qj}{x:Ev}
theorem CR.aP(e:0<=t)(hs:c.since=t)(a:E0 t n (UK c F))(d:FR A3 c.fills F):CR t n A3 c (UK c F):=⟨by omega,by rw[hs];exact a,by rw[hs,eM,Sw];rfl,d⟩
theorem kU(r:PR t n all A1 A3 m)(v:0<=t)(A:t<=65536)(w:b.casks=some 0)(y:Xb x=true)(f:x.Kind=4)(z:x.Day=t):Xu t n (DB all x n) (Yv A1 [b] A3 [m] (some 0) x):=by
 unfold Yv DB;rw[B2 (by rw[f];decide),z];rcases Xo (num:=x.Cask) r qz w with⟨g,i⟩ | ⟨k,h,c,g,j,s,u,l,hs,a,o,i⟩
 ·rw[g,i];exact⟨rfl,by decide⟩
 ·rw[g,i];simp only[j,Qw,K1,l,QQ,mx];have d:XK all k h x n=O8 all k h x:=by unfold XK;rw[f];rfl
  rw[d];refine⟨_,_,_,rfl,?_⟩;have p:=u.each k c h l j
  have q:PR t (n+1) (all.set k<|UK {c with place:=x.Where} h.Fills) ((A1.set k c).set k {c with place:=x.Where}) A3 m:=u.nm l j rfl (CR.aP v hs (by
   have:=o.up;rw[a] at this
   exact{this with place:=dh y (.inl f)}) p.fills)<|.inl rfl
  rw[mx] at q
  have e:UK {c with place:=x.Where} h.Fills={h with C:={h.C with Place:=x.Where}}:=by
   conv=>rhs;rw[a]
   rfl
  rw[e] at q
  exact q
theorem Ie{h':ZY}{r:Q0 ZY ⊕ Int}(e:PR t n all (A1.set k c) A3 m)(f:all[k]? =some h)(g:(A1.set k c)[k]? =some c)(i:0<=t)(hs:c'.since=t)(j:c'.number=c.number)(l:c'.fills=c.fills∨c'.fills=none)(he:h' =UK c' F)(o:E0 t (n+1) h')(d:FR A3 c'.fills F)(a:r= .inl (all.set k h')):Xu t n r (some<|.ok (A1.set k c',A3,[m])):=by
 subst a;subst he;refine⟨_,_,_,rfl,?_⟩;have p:=e.nm g f j (CR.aP i hs o d) l
 rwa[mx] at p
theorem uz{a:Int}(h: -1<=a):(a==(-1))= !decide (a≥0):=by
 by_cases e:a= -1
 ·subst e;rfl
 ·have d:(a==(-1))=false:=by simpa using e
  rw[d,hR<|show a≥0 by omega];rfl
theorem js(r:PR t n all A1 A3 m)(G:0<=t)(M:t<=65536)(H:b.casks=some 0)(I:Xb x=true)(l:x.Kind=5)(K:x.Day=t):Xu t n (DB all x n) (Vh A1 [b] A3 [m] (some 0) x):=by
 unfold Vh DB;rw[B2 (by rw[l];decide),K];rcases Xo (num:=x.Cask) r qz H with⟨o,p⟩ | ⟨k,h,c,o,q,B,D,s,hs,a,e,p⟩
 ·rw[o,p];exact⟨rfl,by decide⟩
 ·rw[o,p];simp only[q,Qw,K1,s,QQ,mx];have f:XK all k h x n=RG all k h x:=by unfold XK;rw[l];rfl
  rw[f];have u:=D.each k c h s q;have L:h.C.Owner=c.owner:=by rw[a];rfl
  have g:h.C.Creditor=c.creditor:=by rw[a];rfl
  have d:=e.cred;rw[g] at d
  unfold RG;rw[L,g];by_cases i:c.owner=x.Person
  ·have v:(c.owner==x.Person)=true:=by simpa using i
   have w:(c.owner != x.Person)=false:=by simpa using i
   simp only[v,w,B3,mv,uz d.1];by_cases E:c.creditor≥0
   ·simp only[E,r6,RK,B3];exact⟨rfl,by decide⟩
   ·simp only[E,n1,u0,H1,By];by_cases j:x.To=c.owner
    ·have y:(x.To==c.owner)=true:=by simpa using j
     have A:(x.To != c.owner)=false:=by simpa using j
     simp only[y,A,B3];exact⟨rfl,by decide⟩
    ·have y:(x.To==c.owner)=false:=by simpa using j
     have A:(x.To != c.owner)=true:=by simpa using j
     simp only[y,A,H1,By];exact Ie (h' :={h with C:={h.C with Owner:=x.To}}) (c' :={c with owner:=x.To}) (F:=h.Fills) D q s G hs rfl (.inl rfl) (congrArg (λz:ZY=>{z with C:={z.C with Owner:=x.To}}) a) {e.up with owner:=df I (.inl l)} u.fills rfl
  ·have v:(c.owner==x.Person)=false:=by simpa using i
   have w:(c.owner != x.Person)=true:=by simpa using i
   simp only[v,w,oe,B3,H1,By];exact⟨rfl,by decide⟩
theorem I8(r:PR t n all A1 A3 m)(B:0<=t)(I:t<=65536)(D:b.casks=some 0)(E:Xb x=true)(j:x.Kind=6)(G:x.Day=t):Xu t n (DB all x n) (YT A1 [b] A3 [m] (some 0) x):=by
 unfold YT DB;rw[B2 (by rw[j];decide),G];rcases Xo (num:=x.Cask) r qz D with⟨l,o⟩ | ⟨k,h,c,l,p,w,y,q,hs,a,e,o⟩
 ·rw[l,o];exact⟨rfl,by decide⟩
 ·rw[l,o];simp only[p,Qw,K1,q,QQ,mx];have f:XK all k h x n=DQ all k h x:=by unfold XK;rw[j];rfl
  rw[f];have s:=y.each k c h q p;have H:h.C.Owner=c.owner:=by rw[a];rfl
  have g:h.C.Creditor=c.creditor:=by rw[a];rfl
  have d:=e.cred;rw[g] at d
  unfold DQ;rw[H,g];by_cases i:c.owner=x.Person
  ·have u:(c.owner==x.Person)=true:=by simpa using i
   have v:(c.owner != x.Person)=false:=by simpa using i
   simp only[u,v,H1,By,uz d.1];by_cases A:c.creditor≥0
   ·simp only[A,r6,RK,B3];exact⟨rfl,by decide⟩
   ·simp only[A,n1,u0,By];have:=df E<|.inr j;exact Ie (h' :={h with C:={h.C with Creditor:=x.To}}) (c' :={c with creditor:=x.To}) (F:=h.Fills) y p q B hs rfl (.inl rfl) (congrArg (λz:ZY=>{z with C:={z.C with Creditor:=x.To}}) a) {e.up with cred:=⟨by show -1<=x.To;omega,this.2⟩} s.fills rfl
  ·have u:(c.owner==x.Person)=false:=by simpa using i
   have v:(c.owner != x.Person)=true:=by simpa using i
   simp only[u,v,B3];exact⟨rfl,by decide⟩
theorem yR(r:PR t n all A1 A3 m)(y:0<=t)(D:t<=65536)(A:b.casks=some 0)(_hv:Xb x=true)(u:x.Kind=7)(B:x.Day=t):Xu t n (DB all x n) (Vj A1 [b] A3 [m] (some 0) x):=by
 unfold Vj DB;rw[B2 (by rw[u];decide),B];rcases Xo (num:=x.Cask) r qz A with⟨f,g⟩ | ⟨k,h,c,f,i,v,w,j,hs,a,l,g⟩
 ·rw[f,g];exact⟨rfl,by decide⟩
 ·rw[f,g];simp only[i,Qw,K1,j,QQ,mx];have d:XK all k h x n=RT all k h x:=by unfold XK;rw[u];rfl
  rw[d];have o:=w.each k c h j i;have p:h.C.Creditor=c.creditor:=by rw[a];rfl
  unfold RT;rw[p];by_cases e:c.creditor=x.Person
  ·have q:(c.creditor==x.Person)=true:=by simpa using e
   have s:(c.creditor != x.Person)=false:=by simpa using e
   simp only[q,s,H1,By];exact Ie (h' :={h with C:={h.C with Creditor:= -1}}) (c' :={c with creditor:= -1}) (F:=h.Fills) w i j y hs rfl (.inl rfl) (congrArg (λz:ZY=>{z with C:={z.C with Creditor:= -1}}) a) {l.up with cred:=⟨IN _,by show(-1:Int)<=_;omega⟩} o.fills rfl
  ·have q:(c.creditor==x.Person)=false:=by simpa using e
   have s:(c.creditor != x.Person)=true:=by simpa using e
   simp only[q,s,B3];exact⟨rfl,by decide⟩
theorem yi(r:PR t n all A1 A3 m)(A:0<=t)(G:t<=65536)(B:b.casks=some 0)(D:Xb x=true)(i:x.Kind=8)(E:x.Day=t):Xu t n (DB all x n) (Vl A1 [b] A3 [m] (some 0) x):=by
 unfold Vl DB;rw[B2 (by rw[i];decide),E];rcases Xo (num:=x.Cask) r qz B with⟨j,l⟩ | ⟨k,h,c,j,o,v,w,p,hs,a,d,l⟩
 ·rw[j,l];exact⟨rfl,by decide⟩
 ·rw[j,l];simp only[o,Qw,K1,p,QQ,mx];have e:XK all k h x n=Rb all k h x:=by unfold XK;rw[i];rfl
  rw[e];have q:=w.each k c h p o;have f:h.C.Amount=c.amount:=by rw[a];rfl
  have g:=d.amt;rw[f] at g
  unfold Rb;rw[f];by_cases y:c.amount=0
  ·have s:(c.amount==0)=true:=by simpa using y
   have u:¬c.amount > 0:=by omega
   simp only[s,u,By];exact Ie (h' :={h with C:={h.C with Wood:=x.Where}}) (c' :={c with wood:=x.Where}) (F:=h.Fills) w o p A hs rfl (.inl rfl) (congrArg (λz:ZY=>{z with C:={z.C with Wood:=x.Where}}) a) {d.up with wood:=dh D (.inr i)} q.fills rfl
  ·have s:(c.amount==0)=false:=by simpa using y
   have u:c.amount > 0:=by omega
   simp only[s,u,B3];exact⟨rfl,by decide⟩
end
end
section
open Go.Dec
variable{c:QJ}{n:Int}
def Gs(c:QJ)(n:Int):QJ:=if c.amount - n==0 then{c with amount:=0,times:=⟨0,zN,zN⟩,fills:=none} else{c with amount:=c.amount - n}
theorem I5{F:Q0 Int}:WG (UK c F) n=UK (Gs c n) (WG (UK c F) n).Fills:=by
 unfold WG Gs;by_cases e:(c.amount - n==0)=true
 ·rw[Bm e,Bm<|show((UK c F).C.Amount - n==0)=true from e];rfl
 ·rw[B2 e,B2<|show ¬((UK c F).C.Amount - n==0)=true from e];rfl
theorem MY:(Gs c n).fills=c.fills∨(Gs c n).fills=none:=by
 unfold Gs;split
 ·exact .inr rfl
 ·exact .inl rfl
theorem MX:(Gs c n).since=c.since:=by unfold Gs;split<;>rfl
theorem RZ:(Gs c n).number=c.number:=by unfold Gs;split<;>rfl
theorem jU{A3:FM}{F:Q0 Int}(h:FR A3 c.fills F):FR A3 (Gs c n).fills (WG (UK c F) n).Fills:=by
 unfold WG Gs;by_cases e:(c.amount - n==0)=true
 ·rw[Bm e,Bm<|show((UK c F).C.Amount - n==0)=true from e];rfl
 ·rw[B2 e,B2<|show ¬((UK c F).C.Amount - n==0)=true from e];exact h
theorem FL{A1:Q0 QJ}{k:Nat}(a:A1[k]? =some c)(d:0<=c.amount/\c.amount<=1099511627776)(f:0<=n/\n<=1099511627776):Vg A1 (some k) n=some (A1.set k<|Gs c n):=by
 unfold Vg;simp only[K1,a,QQ,mx];rw[Qi (n:=c.amount - n) qz qz];unfold Gs;by_cases e:(c.amount - n==0)=true
 ·have b:c.amount - n=0:=mb.1 e;rw[Bm e,Bm e];simp only[b]
 ·rw[B2 e,B2 e]
section
variable{t:Int}{n:Nat}{all:Q0 ZY}{A1:Q0 QJ}{A3:FM}{m:Q0 (Int×Q2 Nat)}{b:Qj}{x:Ev}
theorem kQ(r:PR t n all A1 A3 m)(A:0<=t)(L:t<=65536)(G:b.casks=some 0)(H:Xb x=true)(p:x.Kind=3)(I:x.Day=t):Xu t n (DB all x n) (Yu A1 [b] A3 [m] (some 0) x):=by
 unfold Yu DB;rw[B2 (by rw[p];decide),I];rcases Xo (num:=x.Cask) r qz G with⟨q,s⟩ | ⟨k,h,c,q,u,B,D,o,hs,a,e,s⟩
 ·rw[q,s];exact⟨rfl,by decide⟩
 ·rw[q,s];simp only[u,Qw,K1,o];have f:XK all k h x n=Bz all k h x:=by unfold XK;rw[p];rfl
  rw[f];have v:=D.each k c h o u;have g:h.C.Amount=c.amount:=by rw[a];rfl
  have i:h.C.Creditor=c.creditor:=by rw[a];rfl
  have d:=e.cred;have j:=e.amt;have w:=e.room;rw[g] at j
  rw[i] at d
  have K:=DW H<|.inr<|.inr p;unfold Bz;rw[g,i,uz d.1];by_cases E:c.creditor≥0
  ·simp only[E,r6,RK,B3];exact⟨rfl,by decide⟩
  ·simp only[E,n1,u0,By];by_cases F:c.amount < x.Amount
   ·have y:decide (c.amount≥x.Amount)=false:=bY qz;simp only[F,y,B3];exact⟨rfl,by decide⟩
   ·have y:decide (c.amount≥x.Amount)=true:=hR qz;simp only[F,y,By];show Xu t n _ ((Vg (A1.set k c) (some k) x.Amount).bind λl=>some<|.ok (l,A3,[m]));rw[FL o qz qz,K1,mx];have z:WG h x.Amount=UK (Gs c x.Amount) (WG (UK c h.Fills) x.Amount).Fills:=by rw[<-I5,<-a]
    exact Ie (h' :=WG h x.Amount) (c' :=Gs c x.Amount) D u o A (by rw[MX];exact hs) RZ MY z (Oo e.up K.1 qz A) (jU v.fills) rfl
theorem ME{num:Int}{v:Q2 Nat}:∀(A1:Q0 QJ) (d:Nat),(∀c∈A1,c.number≠num)->Q4 (A1.mapIdx λk c=>(c.number,some<|d+k)) num v=A1.mapIdx (λk c=>(c.number,some<|d+k))++[(num,v)]
 | [],_,_=>rfl
 | c::A1,d,h=>by
  rw[List.mapIdx_cons];have f:(num==c.number)=false:=by simpa using(λe=>h c zh e.symm)
  have g:(fun(i:Nat) (a:QJ)=>(a.number,some<|d+(i+1)))=λk c=>(c.number,some<|d+1+k):=by funext i a;rw[show d+(i+1)=d+1+i by omega]
  simp only[Q4,f,H1,By,g,s9];rw[ME A1 (d+1) λc j=>h c<|IF _ j]
def gf(x:Ev):QJ:=⟨x.Cask,x.Other,x.Where,x.Amount,x.Person, -1,0,x.Day,⟨0,zN,zN⟩,none⟩
theorem kW(r:PR t n all A1 A3 m)(K:TP t n all)(E:0<=t)(L:b.casks=some 0)(M:Xb x=true)(w:x.Kind=0)(N:x.Day=t):Xu t n (DB all x n) (Yw A1 [b] A3 [m] (some 0) x):=by
 have a:=λl' h=>jI (l' :=l') K E M w h;have P:m.length=all.length:=by rw[r.map,im,r.len]
 unfold Yw DB;rw[Bm (by rw[w];rfl)];simp only[K1,So,L,r.get];unfold EX at a ⊢
 cases G:Js all x.Cask with
 | some k=>
  simp only[eJ,B3];exact⟨rfl,by decide⟩
 | none=>
  rw[G] at a
  simp only[lQ,H1,By] at a ⊢
  by_cases f:256<=all.length
  ·have e:decide ((m.length:Int) < 256)=false:=bY qz;simp only[f,e,B3];exact⟨rfl,by decide⟩
  ·have e:decide ((m.length:Int) < 256)=true:=hR qz;simp only[f,e,By] at a ⊢
   have y:=a _ rfl;have z:E0 t (n+1) (Ol x):=y.each _ zh;refine⟨A1++[gf x],A3,Q4 m x.Cask<|some A1.length,?_,?_⟩
   ·rfl
   ·refine⟨by simp[r.len],λk c h l A=> ?_,?_,λi j ci Q q o g H I=> ?_⟩
    ·by_cases e:k < A1.length
     ·rw[x4 e] at l
      rw[x4 (by rw[<-r.len];exact e)] at A
      exact(r.each k c h l A).up
     ·have p:=(Do.1 l).1;have u:k=A1.length:=by simp at p;omega
      rw[u,ta<|S2 _] at l
      rw[u,r.len,ta<|S2 _] at A
      simp only[iQ,So,UV] at l A
      subst l;subst A;exact CR.aP (c:=gf x) (F:=[]) E N z rfl
    ·rw[r.map]
     have o:∀c∈A1,c.number≠x.Cask:=λc l=>by
      obtain⟨k,w⟩:=eS l;have p:=(Do.1 w).1;have B:all[k]? =some (all[k]'(by rw[<-r.len];exact p)):=C2 _;have:=BK G _<|T2 B;rw[(r.each k c _ w B).number] at this
      exact this
     have g:=ME (num:=x.Cask) (v:=some A1.length) A1 0 o;simp only[sf] at g
     rw[g];apply mg;intro i;simp only[lz,List.getElem?_append,im];by_cases e:i < A1.length
     ·simp[e]
     ·simp only[e,By];by_cases C:i=A1.length
      ·subst C;simp[gf]
      ·have:∃d,i - A1.length=d+1:=⟨i - A1.length - 1,by omega⟩;obtain⟨d,D⟩:=this;rw[D];simp
    ·by_cases e:i < A1.length
     ·rw[x4 e] at o
      by_cases C:j < A1.length
      ·rw[x4 C] at g
       exact r.apart i j ci Q q o g H I
      ·have s:=(Do.1 g).1;have u:j=A1.length:=by simp at s;omega
       rw[u,ta<|S2 _] at g
       simp only[iQ,So,UV] at g
       subst g;cases I
     ·have s:=(Do.1 o).1;have u:i=A1.length:=by simp at s;omega
      rw[u,ta<|S2 _] at o
      simp only[iQ,So,UV] at o
      subst o;cases H
end
end
section
open Go.Dec
variable{x:Int}
section
variable{V:Type}
theorem MC{k:Int}{v:V}:∀{l:Q0 (Int×V)},x∈(Q4 l k v).map Prod.fst↔x=k∨x∈l.map Prod.fst
 | []=>by simp[Q4]
 | y::l=>by
  simp only[Q4];by_cases e:k=y.1
  ·have a:(k==y.1)=true:=by simpa using e
   rw[Bm a];simp[e]
  ·have a:(k==y.1)=false:=by simpa using e
   rw[a];simp only[H1,By,Of,Tc,MC (l:=l)];constructor
   ·rintro(h | h | h)
    ·exact .inr<|.inl h
    ·exact .inl h
    ·exact .inr<|.inr h
   ·rintro(h | h | h)
    ·exact .inr<|.inl h
    ·exact .inl h
    ·exact .inr<|.inr h
def Gt(a l:Q0 (Int×V)):Q0 (Int×V):=l.foldl (λa x=>Q4 a x.1 x.2) a
theorem Ma:∀{l a:Q0 (Int×V)},(a.map Prod.fst).Nodup->((Gt a l).map Prod.fst).Nodup
 | [],_,h=>h
 | x::l,a,h=>Ma (l:=l) (a:=Q4 a x.1 x.2)<|JQ h
theorem qO{x:Int}:∀{l a:Q0 (Int×V)},x∈(Gt a l).map Prod.fst↔x∈a.map Prod.fst∨x∈l.map Prod.fst
 | [],a=>by simp[Gt]
 | y::l,a=>by
  have:=qO (x:=x) (l:=l) (a:=Q4 a y.1 y.2);have e:Gt a (y::l)=Gt (Q4 a y.1 y.2) l:=rfl;rw[e,this,MC];simp only[Of,Tc];constructor
  ·rintro((h | h) | h)
   ·exact .inr<|.inl h
   ·exact .inl h
   ·exact .inr<|.inr h
  ·rintro(h | h | h)
   ·exact .inl<|.inr h
   ·exact .inl<|.inl h
   ·exact .inr h
theorem En:∀{l a b:Q0 (Int×V)},b.Perm a->(a.map Prod.fst).Nodup->(Gt b l).Perm (Gt a l)
 | [],_,_,h,_=>h
 | _x::l,_a,_a',h,c=>En (l:=l) (GK h c)<|JQ c
theorem qP{a:Q0 (Int×V)}{y:Int}{u v:V}(b:(a.map Prod.fst).Nodup)(h:x≠y):(Q4 (Q4 a x u) y v).Perm (Q4 (Q4 a y v) x u):=by
 have c:(Q4 (Q4 a x u) y v).Perm ((y,v)::(x,u)::(a.filter λz=> !(x==z.1)).filter (λz=> !(y==z.1))):=by
  refine(Jr<|JQ b).trans<|.cons _ ?_;refine((Jr b).filter _).trans<|.of_eq ?_;rw[mY,Bm<|by simpa using h.symm]
 have d:(Q4 (Q4 a y v) x u).Perm ((x,u)::(y,v)::(a.filter λz=> !(y==z.1)).filter (λz=> !(x==z.1))):=by
  refine(Jr<|JQ b).trans<|.cons _ ?_;refine((Jr b).filter _).trans<|.of_eq ?_;rw[mY,Bm<|by simpa using h]
 refine c.trans<|(List.Perm.swap _ _ _).trans ?_;refine List.Perm.trans (.of_eq ?_) d.symm;congr 2;rw[lS,lS];exact s5 λz _=>iJ _ _
theorem yf{l l' :Q0 (Int×V)}(h:l'.Perm l):∀{a:Q0 (Int×V)},(a.map Prod.fst).Nodup->(l.map Prod.fst).Nodup->(Gt a l').Perm (Gt a l):=by
 induction h with
 | nil=>intro a _ _;exact .refl _
 | cons x _ g=>
  intro a c b;simp only[Of,mc] at b
  exact g (JQ c) b.2
 | swap x y l=>
  intro a c b;simp only[Of,mc,Tc,ik] at b
  exact En (qP c λe=>b.1.1 e.symm) (JQ<|JQ c)
 | trans j i d f=>
  intro a c b;exact(d c<|(i.map Prod.fst).nodup_iff.2 b).trans<|f c b
end
theorem Pf{q j:Nat}(c:q≠j):∀(l:Q0 (Int×Bool)) (s:FM) (a:Q0 (Int×Bool)),s[q]? =some a->Y1 (YU (some q) j) l s=some (s.set q<|Gt a l)
 | [],s,a,h=>by
  have:=Cz h;simp only[Y1,Gt,List.foldl_nil];rw[<-this]
 | x::l,s,a,h=>by
  have b:=(Do.1 h).1
  have e:YU (some q) j x s=some (s.set q<|Q4 a x.1 x.2):=by
   unfold YU de;simp only[K1,B2 c,h,QQ]
  simp only[Y1,e,K1];rw[Pf c l _ (Q4 a x.1 x.2)<|y1 b,mx];rfl
theorem ye{A:FM}{q j:Nat}{a lj:Q0 (Int×Bool)}(d:q≠j)(f:A[q]? =some a)(l:A[j]? =some lj)(m:(a.map Prod.fst).Nodup)(g:(lj.map Prod.fst).Nodup):Wh A (some q) (some j)=some (A.set q<|Gt a lj):=by
 unfold Wh;simp only[K1,l]
 have n:CS PB (YU (some q) j) lj A=some (A.set q<|Gt a lj):=by
  refine qC (Pf d lj A a f) λl' h=>⟨_,Pf d l' A a f,by simp,λi x y c b=> ?_⟩;have k:=(Do.1 f).1;by_cases e:q=i
  ·subst e;rw[y1 k] at c b
   cases c;cases b;exact yf h m g
  ·rw[u1 e] at c b
   rw[c] at b;cases b;exact .refl _
 rw[n,K1];have:(A.set q<|Gt a lj)[j]? =some lj:=by rw[u1 d];exact l
 rw[<-Cz this]
theorem yI(a u:ZH):Ue a u=some ⟨JY a.age u.age,PU a.woods u.woods,PU a.places u.places⟩:=by
 obtain⟨c,d,e⟩:=H3 (body:=Yo u) (λi (t:ZH)=>((i:Int),t)) (λt=>t) (λi t=>t={a with age:=JY a.age u.age,woods:=Rj i a.woods u.woods}) 8
  (λi t hi b=>by
   have f:Qz ((i:Int)+1)=((i+1:Nat):Int):=by rw[Qi qz qz];rfl
   have g:(Rj i a.woods u.woods) i=a.woods i:=by unfold Rj;rw[B2 qz]
   refine⟨_,?_,rfl⟩;unfold Yo;rw[Bm zg,GN hi];simp only[K1,QQ,f,b,g];rw[EV])
  (λt b=>by
   unfold Yo;rw[B2 zh]) 8 0 {a with age:=JY a.age u.age} rfl (by rw[uE])
 obtain⟨k,h,j⟩:=H3 (body:=Yn u) (λi (t:ZH)=>((i:Int),t)) (λt=>t) (λi t=>t={a with age:=JY a.age u.age,woods:=PU a.woods u.woods,places:=Rj i a.places u.places}) 8
  (λi t hi b=>by
   have f:Qz ((i:Int)+1)=((i+1:Nat):Int):=by rw[Qi qz qz];rfl
   have g:(Rj i a.places u.places) i=a.places i:=by unfold Rj;rw[B2 qz]
   refine⟨_,?_,rfl⟩;unfold Yn;rw[Bm zg,GN hi];simp only[K1,QQ,f,b,g];rw[EV])
  (λt b=>by
   unfold Yn;rw[B2 zh]) 8 0 c rfl (by rw[d,uE];rfl)
 unfold Ue;simp only[QQ];have l:ZT (Yo u) (0,{a with age:=JY a.age u.age})=some c:=e;have m:ZT (Yn u) (0,c)=some k:=j;refine ZQ l<|ZQ m ?_;rw[h];rfl
end
section
open Go.Dec
variable{A3:FM}
theorem EG{A1:Q0 QJ}{k j:Nat}{c:QJ}{h so:ZY}{lj:Q0 (Int×Bool)}{tm:ZH}{n:Int}(B:A1[k]? =some c)(a:h=UK c h.Fills)(D:0<=c.amount/\c.amount<=1099511627776)(L:0<=n/\n<=1099511627776)(b:FR A3 c.fills h.Fills)(v:0 < c.amount->h.Fills≠[])
  (E:A3[j]? =some lj) (l:(lj.map Prod.fst).Nodup) (m:∀x,x∈so.Fills↔x∈lj.map Prod.fst) (H:c.fills≠some j) (d:so.C.Age=tm.age/\so.C.Woods=tm.woods/\so.C.Places=tm.places):∃c' A3',Yf A1 A3 (some k) tm (some j) n=some (A1.set k c',A3')/\c'.number=c.number/\c'.since=c.since/\Ua h so n=UK c' (Ua h so n).Fills/\FR A3' c'.fills (Ua h so n).Fills/\
   (∀(q:Nat) f,A3[q]? =some f->c.fills≠some q->A3'[q]? =some f)/\(c'.fills=c.fills∨c'.fills=some A3.length):=by
 have F:=(Do.1 B).1;have o:h.C.Amount=c.amount:=by rw[a];rfl
 have G:Qz (c.amount+n)=c.amount+n:=Qi qz qz;unfold Yf;simp only[K1,B];by_cases e:(c.amount==0)=true
 ·have p:(h.C.Amount==0)=true:=by rw[o];exact e
  refine⟨{c with times:=tm,fills:=some A3.length,amount:=c.amount+n},A3++[lj],?_,rfl,rfl,?_,?_,λq f g _=> ?_,.inr rfl⟩
  ·simp only[e,B3,Hg,Mc,E,K1,QQ,mx,y1 F,G]
  ·unfold Ua;rw[Bm p];rw[a];simp only[d.1,d.2.1,d.2.2];rfl
  ·unfold Ua;rw[Bm p];exact⟨lj,by simp,l,m⟩
  ·have:=(Do.1 g).1;rw[x4 this];exact g
 ·have r:0 < c.amount:=by
   have:c.amount≠0:=λs=>e (by simp[s]);omega
  have p:¬(h.C.Amount==0)=true:=by rw[o];exact e
  cases i:c.fills with
  | none=>rw[i] at b;exact absurd b (v r)
  | some q=>
   rw[i] at b
   obtain⟨f,t,u,w⟩:=b;have y:q≠j:=λs=>H (by rw[i,s]);have z:=(Do.1 t).1;refine⟨{c with times:=⟨JY c.times.age tm.age,PU c.times.woods tm.woods,PU c.times.places tm.places⟩,amount:=c.amount+n},A3.set q<|Gt f lj,?_,rfl,rfl,?_,?_,λM I g A=> ?_,.inl i⟩
   ·simp only[e,By,H1,yI,K1,QQ,i,ye y t E u l,y1 F,mx,G]
   ·unfold Ua;rw[B2 p];have g:h.C.Age=c.times.age:=by rw[a];rfl
    have A:h.C.Woods=c.times.woods:=by rw[a];rfl
    have K:h.C.Places=c.times.places:=by rw[a];rfl
    simp only[d.1,d.2.1,d.2.2,g,A,K]
    conv=>lhs;rw[a]
    rfl
   ·unfold Ua;rw[B2 p];show FR _ c.fills (Ic h.Fills so.Fills);rw[i];refine⟨Gt f lj,y1 z,Ma u,λx=> ?_⟩;rw[MB,qO,w,m]
   ·rw[u1 λs=>A<|by rw[s]];exact g
section
variable{t:Int}{n:Nat}{all:Q0 ZY}{A1:Q0 QJ}{A3:FM}{m:Q0 (Int×Q2 Nat)}{b:Qj}{x:Ev}
theorem uX{q:Nat}{F:Q0 Int}(h:FR A3 (some q) F):q < A3.length:=by
 obtain⟨l,a,_⟩:=h;exact(Do.1 a).1
theorem Ph(r:PR t n all A1 A3 m)(ho:TP t n all)(h0:0<=t)(ht:t<=65536)(hb:b.casks=some 0)(W:b.event=n)(hv:Xb x=true)(X:x.Kind=1)(hd:x.Day=t):Xu t n (DB all x n) (Vk A1 [b] A3 [m] (some 0) x):=by
 unfold Vk DB;rw[B2 (by rw[X];decide),hd];rcases Xo (num:=x.Cask) r qz hb with⟨Y,Z⟩ | ⟨k,h,c,Y,D,aI,s,A,hs,f,u,Z⟩
 ·rw[Y,Z];exact⟨rfl,by decide⟩
 ·rw[Y,Z];simp only[D,Qw,K1,A,QQ];have E:XK all k h x n=AZ all k h x n:=by unfold XK;rw[X];rfl
  rw[E];have F:=s.each k c h A D;have v:h.C.Amount=c.amount:=by rw[f];rfl
  have g:h.C.Room=c.room:=by rw[f];rfl
  have G:=u.amt;have w:=u.room;rw[v,g] at G
  rw[g] at w
  have ha:=DW hv<|.inl X;have hw:Qz (c.amount+x.Amount)=c.amount+x.Amount:=Qi qz qz;have d:=λl' (aA:AZ all k h x n= .inl l')=>jP ho h0 D ha.1 aA;unfold AZ at d ⊢
  rw[v,g] at d ⊢
  rw[hw];by_cases p:c.amount+x.Amount > c.room
  ·have e:decide (c.amount+x.Amount<=c.room)=false:=bY qz;simp only[p,e,B3];exact⟨rfl,by decide⟩
  ·have e:decide (c.amount+x.Amount<=c.room)=true:=hR qz;simp only[p,By] at d
   simp only[p,e,By];have H:=d _ rfl;have I:∀q,c.fills=some q->q < A3.length:=λq B=>uX (by rw[<-B];exact F.fills);have K:FR (A3++[[((n:Int),true)]]) c.fills h.Fills:=F.fills.keep λq B=>x4<|I q B
   obtain⟨c',A3',S,aB,aC,L,aD,aE,l⟩:=EG (A3:=A3++[[((n:Int),true)]]) (j:=A3.length) (lj:=[((n:Int),true)]) (so:=BL n) (tm:=⟨0,zN,zN⟩) (n:=x.Amount) A f qz qz K (λS=>by rw[<-v] at S;exact u.some S)
    zh zh (λy=>by simp[BL]) (λe=>by have:=I _ e;omega) ⟨rfl,rfl,rfl⟩
   have M:Yf (A1.set k c) (A3++[Q4 [] b.event true]) (some k) (ZH.mk 0 (λ_=>0) λ_=>0) (some A3.length) x.Amount=some ((A1.set k c).set k c',A3'):=by rw[W];exact S
   have N:Ua h (BL n) x.Amount∈all.set k (Ua h (BL n) x.Amount):=T2<|y1 (Do.1 D).1;have aF:=H.each _ N
   have P:Xu t n (.inl<|all.set k<|Ua h (BL n) x.Amount) (some<|.ok ((A1.set k c).set k c',A3',[m])):=by
    refine⟨_,_,_,rfl,?_⟩;refine s.set A D aB ?_ (λi ci hi z p T=> ?_) λi ci q z p T V=> ?_
    ·rw[L];refine CR.aP h0 (by rw[aC];exact hs) (by rw[<-L];exact aF) ?_;exact aD
    ·have a:=(s.each i ci hi p T).up;refine⟨a.since,a.ok,a.eq,a.fills.keep λq B=> ?_⟩;have Q:=a.fills;rw[B] at Q
     obtain⟨lq,g1,_⟩:=Q;have R:=(Do.1 g1).1;rw[g1];exact aE q lq (by rw[x4 R];exact g1) λe=>z<|s.apart i k ci c q p A B e
    ·have a:=(s.each i ci _ p<|C2 (show i < all.length by rw[<-s.len];exact(Do.1 p).1)).fills;rw[T] at a
     have:=uX a;rcases l with l | l
     ·rw[l] at V;exact z<|s.apart i k ci c q p A T V
     ·rw[l] at V
      simp only[UV,hN,kn,hF] at V
      omega
   show Xu t n _ ((Yf (A1.set k c) (A3++[Q4 [] b.event true]) (some k) (ZH.mk 0 (λ_=>0) λ_=>0) (some A3.length) x.Amount).bind λo=>some<|.ok (o.1,o.2,[m]));rw[M,K1];exact P
theorem j4(r:PR t n all A1 A3 m)(ho:TP t n all)(h0:0<=t)(ht:t<=65536)(hb:b.casks=some 0)(hv:Xb x=true)(hk:x.Kind=2)(hd:x.Day=t):Xu t n (DB all x n) (Vi A1 [b] A3 [m] (some 0) x):=by
 unfold Vi DB;rw[B2 (by rw[hk];decide),hd];rcases Xo (num:=x.Cask) r qz hb with⟨hf,hm⟩ | ⟨i,h,c,hf,W,au,hr,hc,hs,d,F,hm⟩
 ·rw[hf,hm];exact⟨rfl,by decide⟩
 ·rw[hf,hm];have X:XK all i h x n=AO all i h x:=by unfold XK;rw[hk];rfl
  simp only[W,X];have a:=λl' (ha:1<=x.Amount) (aS:AO all i h x= .inl l')=>ky ho h0 W ha aS;have ha:=DW hv<|.inr<|.inl hk;have a:=λl' =>a l' ha.1;unfold AO at a ⊢
  simp only[Qw];rcases Xo (num:=x.Other) hr qz hb with⟨G,Q⟩ | ⟨k,g,o,G,H,aU,l,p,aV,f,v,Q⟩
  ·rw[G,Q];exact⟨rfl,by decide⟩
  ·rw[G,Q];rw[G] at a
   simp only[H] at a ⊢
   have bF:i < A1.length:=by have:=(Do.1 hc).1;simpa using this
   by_cases s:i=k
   ·
     subst s;have w:((A1.set i c).set i o)[i]? =some o:=p;simp only[K1,w];have e1:(i != i)=false:=by simp
     have e2:(i==i)=true:=by simp
     unfold PL;simp only[e1,e2,B3];exact⟨rfl,by decide⟩
   · have w:((A1.set i c).set k o)[i]? =some c:=by rw[u1 λe=>s e.symm];exact hc
     simp only[K1,w,p];have e1:(i != k)=true:=by simpa using s
     have e2:(i==k)=false:=by simpa using s
     have aY:=l.each i c h w W;have aZ:=l.each k o g p H;have a1:h.C.Owner=c.owner:=by rw[d];rfl
     have a2:h.C.Creditor=c.creditor:=by rw[d];rfl
     have a3:h.C.Amount=c.amount:=by rw[d];rfl
     have b1:g.C.Owner=o.owner:=by rw[f];rfl
     have b2:g.C.Creditor=o.creditor:=by rw[f];rfl
     have b3:g.C.Amount=o.amount:=by rw[f];rfl
     have b4:g.C.Room=o.room:=by rw[f];rfl
     have Y:=F.amt;have ae:=F.room;have y:=F.cred;have Z:=v.amt;have R:=v.room;have z:=v.cred;rw[a2] at y;rw[b2] at z;rw[b3,b4] at Z;rw[b4] at R;rw[a3] at Y
     unfold PL at a ⊢
     rw[a1,a2,a3,b1,b2,b3,b4] at a ⊢
     simp only[e1,e2,H1,By,uz y.1,uz z.1] at a ⊢
     have bI:Zb false 11=some (.pan ⟨11⟩):=rfl;have n0:∀e,Zb true e=some (.ok ()):=λ_=>rfl;have nf:∀e,Zb false e=some (.pan ⟨e⟩):=λ_=>rfl;by_cases c1:c.owner=o.owner
     ·have f1:(c.owner==o.owner)=true:=by simpa using c1
      have f2:(c.owner != o.owner)=false:=by simpa using c1
      simp only[f1,f2,B3,mv,n0] at a ⊢
      by_cases c2:c.creditor≥0
      ·simp only[c2,r6,RK,oe,B3,H1,By,nf,K1];exact⟨rfl,by decide⟩
      ·simp only[c2,n1,u0,mv,B3] at a ⊢
       by_cases c3:o.creditor≥0
       ·simp only[c3,r6,RK,B3,nf,K1];exact⟨rfl,by decide⟩
       ·simp only[c3,n1,u0,n0,K1,H1,By] at a ⊢
        by_cases c4:c.amount < x.Amount
        ·have g1:decide (c.amount≥x.Amount)=false:=bY qz;simp only[c4,g1,B3,nf];exact⟨rfl,by decide⟩
        ·have g1:decide (c.amount≥x.Amount)=true:=hR qz;simp only[c4,g1,By,n0] at a ⊢
         have hw:Qz (o.amount+x.Amount)=o.amount+x.Amount:=Qi qz qz;rw[hw];by_cases c5:o.amount+x.Amount > o.room
         ·have g2:decide (o.amount+x.Amount<=o.room)=false:=bY qz;simp only[c5,g2,B3,nf];exact⟨rfl,by decide⟩
         ·have g2:decide (o.amount+x.Amount<=o.room)=true:=hR qz;simp only[c5,g2,By,n0] at a ⊢
          have N:=a _ rfl;have I:=aY.fills;cases S:c.fills with
          | none=>
           rw[S] at I
           exact absurd I (F.some (by rw[a3];omega))
          | some j=>
           rw[S] at I
           obtain⟨lj,hj,aj,ak⟩:=I
           obtain⟨o',A3',hp,al,an,aC,ao,aq,A⟩:=EG (A3:=A3) (j:=j) (lj:=lj) (so:=h) (tm:=c.times) (n:=x.Amount) p f qz qz aZ.fills λhp=>by rw[<-b3] at hp;exact v.some hp
            hj aj ak (λe=>s<|l.apart i k c o j w p S e) ⟨by rw[d];rfl,by rw[d];rfl,by rw[d];rfl⟩
           have K:(((A1.set i c).set k o).set k o')[i]? =some c:=by rw[u1 λe=>s e.symm];exact w
           rw[hp,K1];simp only;rw[FL K qz qz,K1];have bK:j < A3.length:=(Do.1 hj).1;have T:=(Do.1 H).1;have aD:Ua g h x.Amount∈(all.set k<|Ua g h x.Amount).set i (WG h x.Amount):=T2 (i:=k) (by rw[u1 s];exact y1 T);have aE:=N.each _ aD;have V:WG h x.Amount∈(all.set k<|Ua g h x.Amount).set i (WG h x.Amount):=T2 (i:=i) (y1<|by simpa using(Do.1 W).1);have aF:=N.each _ V
           have L:PR t (n+1) (all.set k<|Ua g h x.Amount) (((A1.set i c).set k o).set k o') A3' m:=by
            refine l.set p H al ?_ (λD ci hi B E P=> ?_) λD ci q B E P M=> ?_
            ·rw[aC];refine CR.aP h0 (by rw[an];exact aV) (by rw[<-aC];exact aE) ?_;exact ao
            ·have u:=(l.each D ci hi E P).up;refine⟨u.since,u.ok,u.eq,u.fills.keep λq hq=> ?_⟩;have aG:=u.fills;rw[hq] at aG
             obtain⟨lq,aH,_⟩:=aG;rw[aH];exact aq q lq aH λe=>B<|l.apart D k ci o q E p hq e
            ·have u:=(l.each D ci _ E<|C2 (show D < all.length by rw[<-l.len];exact(Do.1 E).1)).fills;rw[P] at u
             have bM:=uX u;rcases A with A | A
             ·rw[A] at M;exact B<|l.apart D k ci o q E p P M
             ·rw[A] at M
              simp only[UV] at M
              omega
           refine⟨_,_,_,rfl,?_⟩;have aI:(all.set k<|Ua g h x.Amount)[i]? =some h:=by rw[u1 λe=>s e.symm];exact W
           have aJ:=L.each i c h K aI;have aK:WG h x.Amount=UK (Gs c x.Amount) (WG (UK c h.Fills) x.Amount).Fills:=by rw[<-I5,<-d]
           refine L.set K aI RZ ?_ (λD ci hi _ E P=>L.each D ci hi E P) λD ci q B E P M=> ?_
           ·rw[aK];refine CR.aP h0 (by rw[MX];exact hs) (by rw[<-aK];exact aF)<|jU aJ.fills
           ·rcases MY (c:=c) (n:=x.Amount) with e | e
            ·rw[e] at M;exact B<|L.apart D i ci c q E K P M
            ·rw[e] at M;cases M
     ·have f1:(c.owner==o.owner)=false:=by simpa using c1
      have f2:(c.owner != o.owner)=true:=by simpa using c1
      simp only[f1,f2,B3,oe,H1,By,n0,nf,K1];exact⟨rfl,by decide⟩
end
end
section
open Go.Dec
variable{l:Q0 Ev}{day:Int}
theorem kh(x:Ev):XY x=some (Xb x):=by
 have e:∀n a b,YK n a b=Wa n a b:=λ_ _ _=>rfl;unfold XY U4 WO Uf VJ YQ Xb;simp only[e];cases o:Wa x.Day 0 65536 with
 | false=>simp
 | true=>
  cases p:Wa x.Cask 0 1073741824 with
  | false=>simp
  | true=>
   simp only[RK,og,H1,By,rW];by_cases c:(x.Kind==0)=true
   ·rw[Bm c,Bm c]
   ·rw[B2 c,B2 c];by_cases d:(x.Kind==1)=true
    ·simp[d]
    ·simp only[hH] at d
     by_cases k:(x.Kind==3)=true
     ·simp[d,k]
     ·simp only[hH] at k
      simp only[d,k,og,H1,By,K1];by_cases f:(x.Kind==2)=true
      ·rw[Bm f,Bm f]
      ·rw[B2 f,B2 f];by_cases g:(x.Kind==4)=true
       ·rw[Bm g,Bm g]
       ·rw[B2 g,B2 g];by_cases h:(x.Kind==5)=true
        ·simp[h]
        ·simp only[hH] at h
         by_cases m:(x.Kind==6)=true
         ·simp[h,m]
         ·simp only[hH] at m
          simp only[h,m,og,H1,By,K1];by_cases i:(x.Kind==7)=true
          ·rw[Bm i,Bm i]
          ·rw[B2 i,B2 i];by_cases j:(x.Kind==8)=true
           ·rw[Bm j,Bm j]
           ·rw[B2 j,B2 j]
abbrev Deed:=((Q0 QJ)×(Q0 Qj)×FM×(Q0<|Q0<|Int×(Q2 Nat))×(Q2 Nat)×Ev)->Q2 (Out Zk<|(Q0 QJ)×FM×(Q0<|Q0<|Int×(Q2 Nat)))
theorem A7:∃D:Q0 (Int×Deed),G6=some D/\∀(x:Ev),Xb x=true->∃f,Qb D x.Kind=some f/\
  ∀{t:Int} {n:Nat} {all:Q0 ZY} {A1:Q0 QJ} {A3:FM} {m:Q0 (Int×Q2 Nat)} {b:Qj},PR t n all A1 A3 m->TP t n all->0<=t->t<=65536->b.casks=some 0->b.event=n->x.Day=t->Xu t n (DB all x n) (f (A1,[b],A3,[m],some 0,x)):=by
 refine⟨_,rfl,λx g=> ?_⟩;rcases kinds g with k | k | k | k | k | k | k | k | k<;>rw[k]
 ·exact⟨_,rfl,λr h a e c _ d=>kW r h a c g k d⟩
 ·exact⟨_,rfl,λr h a e c i d=>Ph r h a e c i g k d⟩
 ·exact⟨_,rfl,λr h a e c _ d=>j4 r h a e c g k d⟩
 ·exact⟨_,rfl,λr _ a e c _ d=>kQ r a e c g k d⟩
 ·exact⟨_,rfl,λr _ a e c _ d=>kU r a e c g k d⟩
 ·exact⟨_,rfl,λr _ a e c _ d=>js r a e c g k d⟩
 ·exact⟨_,rfl,λr _ a e c _ d=>I8 r a e c g k d⟩
 ·exact⟨_,rfl,λr _ a e c _ d=>yR r a e c g k d⟩
 ·exact⟨_,rfl,λr _ a e c _ d=>yi r a e c g k d⟩
section
variable{D:Q0 (Int×Deed)}
def jc(D:Q0 (Int×Deed)):Prop:=∀(x:Ev),Xb x=true->∃f,Qb D x.Kind=some f/\
 ∀{t:Int} {n:Nat} {all:Q0 ZY} {A1:Q0 QJ} {A3:FM} {m:Q0 (Int×Q2 Nat)} {b:Qj},PR t n all A1 A3 m->TP t n all->0<=t->t<=65536->b.casks=some 0->b.event=n->x.Day=t->Xu t n (DB all x n) (f (A1,[b],A3,[m],some 0,x))
theorem jm(A:jc D){n:Nat}{s:DL}{x:Ev}{A1:Q0 QJ}{A3:FM}{m:Q0 (Int×Q2 Nat)}{b:Qj}(t:l[n]? =some x)(M:n<=4096)(u:Hw n s)(B:PR s.last n s.all A1 A3 m)(C:b.casks=some 0)(E:x.Day<=day):match VI n s x with
  | .inl k=>∃c A3' j,YN l day D ((n:Int),s.last,A1,[b],A3,[m])=some (.next (((n+1:Nat):Int),k.last,c,[⟨some 0,n⟩],A3',[j]))/\PR k.last (n+1) k.all c A3' j
  | .inr e=>YN l day D ((n:Int),s.last,A1,[b],A3,[m])=some (.done<|.inr (⟨e⟩,(n:Int),0,some 0))/\e≠0:=by
 have F:n < l.length:=(Do.1 t).1;have G:Qz ((n:Int)+1)=((n+1:Nat):Int):=by rw[Qi qz qz];rfl
 have H:decide ((n:Int) < (l.length:Int))=true:=hR qz;have v:∀e,Zb true e=some (.ok ()):=λ_=>rfl;have w:∀e,Zb false e=some (.pan ⟨e⟩):=λ_=>rfl;unfold YN VI;simp only[H,B3,Zy,t,K1,E,r6,kh];cases y:Xb x with
 | false=>
  simp only[u0,B3,w,Qw];exact⟨trivial,by decide⟩
 | true=>
  simp only[RK,H1,By,v,Qw];by_cases g:x.Day < s.last
  ·have e:decide (x.Day≥s.last)=false:=bY qz;simp only[g,e,B3,w];exact⟨trivial,by decide⟩
  ·have e:decide (x.Day≥s.last)=true:=hR qz;simp only[g,e,By,v];have d:=bt y;have I:=u.day;obtain⟨f,K,o⟩:=A x y;have h:=PS u.ok (n:=x.Day - s.last) qz;have L:s.last+(x.Day - s.last)=x.Day:=by omega
   rw[L] at h
   have a:=o (b:=⟨some 0,(n:Int)⟩) (B.shift (t' :=x.Day) qz) h d.1 d.2 rfl rfl rfl;have p:({b with event:=(n:Int)}:Qj)=⟨some 0,n⟩:=by rw[<-C]
   simp only[So,K1,QQ,lL,p,K];cases i:DB (s.all.map<|JX<|x.Day - s.last) x n with
   | inl z=>
    rw[i] at a
    obtain⟨c,A3',j,q,r⟩:=a;rw[q];simp only[G];exact⟨c,A3',j,rfl,r⟩
   | inr er=>
    rw[i] at a
    obtain⟨q,r⟩:=a;rw[q];exact⟨rfl,r⟩
theorem Lv{n:Nat}{last:Int}{A1:Q0 QJ}{b:Q0 Qj}{A3:FM}{c:Q0 (Q0<|Int×Q2 Nat)}(h:∀x,l[n]? =some x->¬x.Day<=day)(g:n<=l.length):YN l day D ((n:Int),last,A1,b,A3,c)=some (.done<|.inl ((n:Int),A1,b,A3,c)):=by
 unfold YN;cases a:l[n]? with
 | none=>
  have:¬(n:Int) < (l.length:Int):=by
   have:=ee.1 a;omega
  simp[this]
 | some x=>
  have d:n < l.length:=(Do.1 a).1;have e:decide ((n:Int) < (l.length:Int))=true:=hR qz;have f:decide (x.Day<=day)=false:=bY<|h x a;simp only[e,B3,Zy,a,K1,f,H1,By]
theorem EY(o:jc D){l:Q0 Ev}{day:Int}(q:l.length<=4096):∀(post pre:Q0 Ev) (s:DL) (A1:Q0 QJ) (A3:FM) (m:Q0 (Int×Q2 Nat)) (b:Qj),l=pre++post->Hw pre.length s->PR s.last pre.length s.all A1 A3 m->b.casks=some 0->
  match HV day post pre.length s with
  | (.inl f,k)=>∃c A3' g b',ZT (YN l day D) ((pre.length:Int),s.last,A1,[b],A3,[m])=some (.inl ((k:Int),c,[b'],A3',[g]))/\PR f.last k f.all c A3' g/\b'.casks=some 0
  | (.inr e,k)=>ZT (YN l day D) ((pre.length:Int),s.last,A1,[b],A3,[m])=some (.inr (⟨e⟩,(k:Int),0,some 0))/\e≠0
 | [],pre,s,A1,A3,m,b,e,n,h,i=>by
  simp only[HV];refine⟨A1,A3,m,b,?_,h,i⟩;rw[ZJ,Lv (λx d=>by rw[e] at d;simp at d) (by rw[e];simp)]
 | x::post,pre,s,A1,A3,m,b,e,n,h,i=>by
  have d:l[pre.length]? =some x:=Vm e;have r:pre.length<=4096:=by have:=Xq e;omega
  rw[ZJ];by_cases j:x.Day<=day
  ·have a:=jm o d r n h i j;simp only[HV,j,B3];cases hs:VI pre.length s x with
   | inl f=>
    rw[hs] at a
    obtain⟨c,A3',g,t,u⟩:=a;rw[t];have v:=EY o (day:=day) q post (pre++[x]) f c A3' g ⟨some 0,(pre.length:Int)⟩ (by rw[e];simp) (by simpa using(TV n hs).1) (by simpa using u) rfl;simpa using v
   | inr er=>
    rw[hs] at a
    rw[a.1];exact⟨rfl,a.2⟩
  ·rw[Lv (λy p=>by rw[d] at p;cases p;exact j) (by have:=Xq e;omega)];simp only[HV,j,By];exact⟨A1,A3,m,b,rfl,h,i⟩
end
end
section
open Go.Dec
section
variable{t day:Int}{n:Nat}{all:Q0 ZY}{A1:Q0 QJ}{A3:FM}{m:Q0 (Int×Q2 Nat)}
theorem Eg(a:day<=1000000)(d:∀(k:Nat) (c:QJ),A1[k]? =some c->0<=c.since/\c.since<=day/\∃F,E0 c.since n<|UK c F):∀(L:Q0 (Int×Q2 Nat)) (s:Q0 QJ),(∀e∈L,∃k,e.2=some k/\k < A1.length)->(L.map Prod.snd).Nodup->s.length=A1.length->(∀k,some k∈L.map Prod.snd->s[k]? =A1[k]?)->
  ∃f,Y1 (WU day) L s=some f/\f.length=A1.length/\∀i:Nat,f[i]? =if some i∈L.map Prod.snd then(A1[i]?).map (XR day) else s[i]?
 | [],s,_,_,p,_=>⟨s,rfl,p,λi=>by simp⟩
 | e::L,s,w,y,p,hs=>by
  obtain⟨k,g,j⟩:=w e zh
  have l:some k∉L.map Prod.snd/\(L.map Prod.snd).Nodup:=by
   have:=mc.1 y;rw[g] at this;exact this
  have q:A1[k]? =some A1[k]:=C2 j;have r:s[k]? =some A1[k]:=by rw[hs k<|by simp[g]];exact q
  obtain⟨z,A,F,B⟩:=d k _ q
  have C:WU day e s=some (s.set k<|XR day A1[k]):=by
   unfold WU;rw[g,EA r B z A a];rfl
  obtain⟨f,D,E,G⟩:=Eg a d L (s.set k<|XR day A1[k]) (λb u=>w b<|IF _ u) l.2 (by simpa using p) λx o=>by
   have v:k≠x:=λb=>l.1 (by rw[b];exact o);rw[u1 v];exact hs x (by rw[Of];exact IF _ o)
  refine⟨f,by simp only[Y1,C,K1];exact D,E,λi=> ?_⟩;rw[G i];by_cases hi:some i∈L.map Prod.snd
  ·rw[Bm hi,Bm (by rw[Of];exact IF _ hi)]
  ·rw[B2 hi];by_cases b:k=i
   ·subst b;rw[y1 (by rw[p];exact j),Bm (by simp[g]),q];rfl
   ·rw[u1 b,B2];rw[Of,Tc,g];rintro(h | h)
    ·exact b<|by simpa using h.symm
    ·exact hi h
theorem vm(r:PR t n all A1 A3 m)(G:t<=day)(A:day<=65536):C5 (WU day) m A1=some (A1.map<|XR day)/\PR day n (all.map<|JX<|day - t) (A1.map<|XR day) A3 m/\∀c∈A1.map (XR day),c.since=day:=by
 have l:∀(k:Nat) (c:QJ),A1[k]? =some c->∃h,all[k]? =some h/\CR t n A3 c h:=λk c g=>by
  have B:k < all.length:=by rw[<-r.len];exact(Do.1 g).1
  exact⟨all[k],C2 B,r.each k c _ g<|C2 B⟩
 have u:m.map Prod.snd=(List.range A1.length).map some:=by
  rw[r.map];apply mg;intro i;simp only[hP,lz];by_cases h:i < A1.length
  ·simp[h]
  ·simp[h]
 refine⟨qB λl' y=> ?_,⟨by simp[r.len],λk c h g w=> ?_,?_,λi j ci L q d f C D=> ?_⟩,λc g=> ?_⟩
 ·have E:=y.map Prod.snd
  have p:∀o,o∈l'.map Prod.snd↔∃i,i < A1.length/\o=some i:=λo=>by
   rw[E.mem_iff,u];simp only[n2,mj];exact⟨fun⟨i,d,f⟩=>⟨i,d,f.symm⟩,fun⟨i,d,f⟩=>⟨i,d,f.symm⟩⟩
  obtain⟨M,v,x,H⟩:=Eg (day:=day) (A1:=A1) (n:=n) qz (λk c g=>by
   obtain⟨h,_,s⟩:=l k c g
   exact⟨s.since.1,by have:=s.since.2;omega,_,s.ok⟩) l' A1 (λe he=>by
    obtain⟨i,d,f⟩:=(p e.2).1<|kx he;exact⟨i,f,d⟩) (E.nodup_iff.2 (by rw[u];exact List.nodup_range.map _ λa b z e=>z<|by simpa using e)) rfl λ_ _=>rfl
  rw[v];congr 1;apply mg;intro i;rw[H i,hP];by_cases h:i < A1.length
  ·rw[Bm<|(p _).2 ⟨i,h,rfl⟩]
  ·rw[B2 (λh' =>by
    obtain⟨N,d,f⟩:=(p _).1 h';simp only[UV] at f
    omega),td qz]
   rfl
 ·rw[hP] at g w
  cases d:A1[k]? with
  | none=>rw[d] at g;cases g
  | some F=>
   obtain⟨P,f,s⟩:=l k F d;rw[d] at g;rw[f] at w
   simp only[E4,UV] at g w
   subst g;subst w;exact(s.shift G).rest
 ·rw[r.map];apply mg;intro i;simp only[lz,hP];cases A1[i]? with
  | none=>rfl
  | some c=>simp[RH]
 ·rw[hP] at d f
  cases v:A1[i]? with
  | none=>rw[v] at d;cases d
  | some I=>
   cases x:A1[j]? with
   | none=>rw[x] at f;cases f
   | some K=>
    rw[v] at d;rw[x] at f
    simp only[E4,UV] at d f
    subst d;subst f;rw[C0] at C D
    exact r.apart i j I K q v x C D
 ·obtain⟨F,_,rfl⟩:=n2.1 g;exact XQ
end
theorem PR.start:PR 0 0 [] [] [] []:=⟨rfl,λ_ _ _ h=>by simp at h,rfl,λ_ _ _ _ _ h=>by simp at h⟩
def IQ(day:Int)(r:(Q0 ZY ⊕ Int)×Nat)(o:Q2 ((Q2 Nat)×Int×Int×(Q0 QJ)×(Q0 Qj)×FM×(Q0<|Q0<|Int×Q2 Nat))):Prop:=match r with
 | (.inl all,k)=>∃A1 b A3 m,o=some (some 0,(k:Int),0,A1,[b],A3,[m])/\b.casks=some 0/\PR day k all A1 A3 m/\(∀c∈A1,c.since=day)/\TP day k all/\k<=4096/\0<=day/\day<=65536
 | (.inr e,k)=>o=some (none,(k:Int),e,[],[],[],[])/\e≠0
theorem H0(l:Q0 Ev)(day:Int):IQ day (JZ l day) (XX l day):=by
 obtain⟨D,p,g⟩:=A7;unfold XX JZ;by_cases j:l.length > 4096
 ·have:decide ((l.length:Int) > 4096)=true:=hR qz;simp only[this,j,B3];exact⟨rfl,by decide⟩
 ·have:decide ((l.length:Int) > 4096)=false:=bY qz;simp only[this,j,By,H1];have e:YK day 0 65536=Wa day 0 65536:=rfl;rw[e];cases q:Wa day 0 65536 with
  | false=>exact⟨rfl,by decide⟩
  | true=>
   have b:=Jf.1 q;simp only[RK,H1,By,QQ,p,K1,me];have a:=EY (D:=D) g (l:=l) (day:=day) qz l [] ⟨[],0⟩ [] [] [] ⟨some 0,0⟩ rfl Hw.start PR.start rfl;unfold AD;cases m:HV day l 0 ⟨[],0⟩ with
   | mk r k=>
    have h:HV day l ([]:Q0 Ev).length ⟨[],0⟩=(r,k):=m;rw[h] at a
    cases r with
    | inl f=>
     obtain⟨i,A3',s,b',t,u,o⟩:=a;obtain⟨v,w,A,B⟩:=Ef l 0 ⟨[],0⟩ f k Hw.start (by show(0:Int)<=day;omega) m;have c:ZT (YN l day D) (0,0,[],[⟨some 0,0⟩],[],[[]])=_:=t;obtain⟨x,y,z⟩:=vm u w b.2;have d:=PS v.ok (n:=day - f.last) qz;rw[show f.last+(day - f.last)=day by omega] at d
     refine⟨i.map<|XR day,b',A3',s,?_,o,y,z,d,by omega,b.1,b.2⟩;rw[c,K1];simp only[So,K1,o,x]
    | inr er=>
     have c:ZT (YN l day D) (0,0,[],[⟨some 0,0⟩],[],[[]])=_:=a.1;refine⟨?_,a.2⟩;rw[c,K1]
end
section
open Go.Dec
variable{all:Q0 ZY}
def zC:ZU:=⟨0,0,0,0,0,0,0,0,zN,zN⟩
def Gq(all:Q0 ZY)(num:Int):Q2 ZY:=(Js all num).bind λi=>all[i]?
def Cw(l:Q0 Ev)(num day:Int):ZU×Int:=match(JZ l day).1 with
 | .inr e=>(zC,e)
 | .inl all=>match Gq all num with
  | none=>(zC,4)
  | some h=>(h.C,0)
def Na(l:Q0 Ev)(num day:Int):Q0 Int×Int:=match(JZ l day).1 with
 | .inr e=>([],e)
 | .inl all=>match Gq all num with
  | none=>([],4)
  | some h=>(h.Fills,0)
theorem BA{l:Q0 Ev}{day e:Int}{k:Nat}(h:JZ l day=(.inr e,k)):e≠0:=by
 have:=H0 l day;rw[h] at this
 exact this.2
theorem Fc{l:Q0 Ev}{day:Int}{k:Nat}(h:JZ l day=(.inl all,k)):TP day k all/\k<=4096/\0<=day/\day<=65536:=by
 have:=H0 l day;rw[h] at this
 obtain⟨_,_,_,_,_,_,_,_,a,b,c,d⟩:=this;exact⟨a,b,c,d⟩
theorem CR.now{t:Int}{n:Nat}{A3:FM}{c:QJ}{h:ZY}(r:CR t n A3 c h)(hs:c.since=t):h=UK c h.Fills:=by
 have:=r.eq;rw[hs,eM,Sw] at this
 exact this
theorem Pg{num:Int}{i:Nat}(h:Js all num=some i):∃a,all[i]? =some a/\Gq all num=some a:=by
 obtain⟨a,b,_⟩:=FJ h;exact⟨a,b,by simp[Gq,h,b]⟩
theorem PR.look{t:Int}{n:Nat}{A1:Q0 QJ}{A3:FM}{m:Q0 (Int×Q2 Nat)}(r:PR t n all A1 A3 m)(hs:∀c∈A1,c.since=t){i:Nat}{h:ZY}(b:all[i]? =some h):∃c,A1[i]? =some c/\h=UK c h.Fills/\FR A3 c.fills h.Fills:=by
 have hi:i < A1.length:=by rw[r.len];exact(Do.1 b).1
 have d:A1[i]? =some A1[i]:=C2 hi;have a:=r.each i _ h d b;exact⟨_,d,a.now<|hs _<|oo _,a.fills⟩
theorem xv(l:Q0 Ev)(num day:Int):BG l num day=some (Cw l num day):=by
 have d:=H0 l day;unfold BG Cw;cases f:JZ l day with
 | mk r k=>
  rw[f] at d
  cases r with
  | inr e=>
   rw[d.1,K1];have:(e != 0)=true:=by simpa using d.2
   simp only[this,B3];rfl
  | inl all=>
   obtain⟨A1,b,A3,m,o,p,j,hs,_⟩:=d;rw[o,K1];have q:((0:Int) != 0)=false:=rfl;simp only[q,H1,By,K1,So,p,j.get];cases n:Js all num with
   | none=>simp[Gq,n];rfl
   | some i=>
    obtain⟨h,s,g⟩:=Pg n;obtain⟨c,t,a,_⟩:=j.look hs s;simp only[lR,H1,By,g];unfold Yt;simp only[K1,t];have:h.C=(UK c h.Fills).C:=by rw[<-a]
    rw[this];rfl
end
section
open Go.Dec
def ES(all:Q0 ZY):Q0 Int:=(all.map (·.C.Number)).mergeSort λa b=>decide<|a<=b
def dx(all:Q0 ZY):Q0 ZY:=(ES all).filterMap<|Gq all
theorem ER(all:Q0 ZY):(ES all).Perm (all.map (·.C.Number)):=eV _ _
theorem xR{all:Q0 ZY}{num:Int}(h:num∈all.map (·.C.Number)):∃i a,Js all num=some i/\all[i]? =some a/\Gq all num=some a/\a.C.Number=num:=by
 cases b:Js all num with
 | none=>
  obtain⟨x,f,e⟩:=n2.1 h;exact absurd e (BK b x f)
 | some i=>
  obtain⟨a,c,g⟩:=Pg b;obtain⟨h',d,j⟩:=FJ b;rw[c] at d;cases d
  exact⟨i,a,rfl,c,g,j⟩
section
variable{t:Int}{n:Nat}{all:Q0 ZY}{A1:Q0 QJ}{A3:FM}{m:Q0 (Int×Q2 Nat)}{b:Qj}
theorem xJ(r:PR t n all A1 A3 m)(d:TP t n all):Gn m=some (ES all):=by
 have c:m.map Prod.fst=all.map (·.C.Number):=by
  rw[r.map];apply mg;intro i;simp only[hP,lz];by_cases h:i < A1.length
  ·have g:i < all.length:=by rw[<-r.len];exact h
   rw[C2 h,C2 g];simp only[E4];rw[(r.each i _ _ (C2 h)<|C2 g).number]
  ·rw[td qz,td (by rw[<-r.len];omega)];rfl
 have o:m.length=all.length:=by rw[<-eT (f:=Prod.fst),c,eT]
 have a:m.all (λx=>decide<|-9223372036854775808<=x.1/\x.1<=9223372036854775807)=true:=If.2 λx j=>by
  have k:x.1∈all.map (·.C.Number):=by rw[<-c];exact kx j
  obtain⟨h,l,e⟩:=n2.1 k;have:=(d.each h l).num;simp only[AT];omega
 unfold Gn;rw[Bm ⟨a,by have:=d.few;omega⟩,c];rfl
theorem OZ(r:PR t n all A1 A3 m)(a:TP t n all)(c:b.casks=some 0):VZ [b] [m] (some 0)=some ((ES all).map<|Js all):=by
 unfold VZ;simp only[K1,So,c,xJ r a];congr 1;exact oL λk _=>r.get k
theorem Eh(hs:∀c∈A1,c.since=t)(r:PR t n all A1 A3 m):∀(ks:Q0 Int) (out:Q0 ZU),(∀k∈ks,k∈all.map (·.C.Number))->out.length+ks.length<=1000000->
  Y1 X5 (ks.map<|Js all) (out,A1)=some (out++(ks.filterMap<|Gq all).map (·.C),A1)
 | [],out,_,_=>by simp[Y1]
 | k::ks,out,f,g=>by
  obtain⟨i,h,j,l,o,u⟩:=xR (f k zh);obtain⟨c,p,a,_⟩:=r.look hs l
  have d:Yt A1 (some i)=some h.C:=by
   unfold Yt;simp only[K1,p];have:h.C=(UK c h.Fills).C:=by rw[<-a]
   rw[this];rfl
  have q:X5 (some i) (out,A1)=some (out++[h.C],A1):=by
   unfold X5;rw[d,K1];simp only[kn] at g
   rw[TI zg];rfl
  simp only[Of,Y1,j,q,K1];rw[Eh hs r ks (out++[h.C]) (λs e=>f s<|IF _ e) (by simp at g ⊢;omega)];rw[List.filterMap_cons,o];simp
end
def T7(l:Q0 Ev)(day:Int):Q0 ZU×Int×Int:=match JZ l day with
 | (.inr e,k)=>([],(k:Int),e)
 | (.inl all,k)=>((dx all).map (·.C),(k:Int),0)
theorem AB(l:Q0 Ev)(day:Int):GM l day=some (T7 l day):=by
 have c:=H0 l day;unfold GM T7;cases d:JZ l day with
 | mk r k=>
  rw[d] at c
  cases r with
  | inr e=>
   rw[c.1,K1];have:(e != 0)=true:=by simpa using c.2
   simp only[this,B3]
  | inl all=>
   obtain⟨A1,b,A3,m,i,j,f,hs,a,g,_⟩:=c;rw[i,K1];have n:((0:Int) != 0)=false:=rfl;simp only[n,H1,By,K1];rw[OZ f a j,K1];have h:(ES all).length=all.length:=by rw[(ER all).length_eq];simp
   rw[Eh hs f (ES all) [] (λk g=>(ER all).mem_iff.1 g) (by have:=a.few;simp;omega),K1];rfl
end
section
open Go.Dec
theorem M7{A3:FM}{p:Q2 Nat}{F:Q0 Int}{n:Nat}(h:FR A3 p F)(d:F.Pairwise (·< ·)/\∀f∈F,0<=f/\f < n)(u:n<=4096):V7 A3 p=some F:=by
 cases p with
 | none=>have:F=[]:=h;subst this;rfl
 | some j=>
  obtain⟨l,o,q,k⟩:=h;have i:F.Nodup:=d.1.imp λh=>iS h;have c:(l.map Prod.fst).Perm F:=(iA q i).2 λx=>(k x).symm;have m:l.length=F.length:=by rw[<-c.length_eq];simp
  have r:=Am 0 d.1 (n:=n) d.2 qz
  have g:l.all (λx=>decide<|-9223372036854775808<=x.1/\x.1<=9223372036854775807)=true:=If.2 λx s=>by
   have:=d.2 x.1<|(k x.1).2<|kx s;simp only[AT];omega
  have t:Gn l=some ((l.map Prod.fst).mergeSort λa b=>decide<|a<=b):=by
   unfold Gn;rw[Bm ⟨g,by omega⟩]
  have e:V7 A3 (some j)=Gn l:=by simp[V7,o]
  rw[e,t,ku c];congr 1;exact List.mergeSort_of_pairwise<|d.1.imp λh=>by simpa using Int.le_of_lt h
theorem IP(l:Q0 Ev)(num day:Int):XZ l num day=some (Na l num day):=by
 have a:=H0 l day;unfold XZ Na;cases d:JZ l day with
 | mk r k=>
  rw[d] at a
  cases r with
  | inr e=>
   rw[a.1,K1];have:(e != 0)=true:=by simpa using a.2
   simp only[this,B3]
  | inl all=>
   obtain⟨A1,b,A3,m,t,u,o,hs,f,v,_⟩:=a;rw[t,K1];have w:((0:Int) != 0)=false:=rfl;simp only[w,H1,By,K1,So,u,o.get];cases p:Js all num with
   | none=>simp[Gq,p]
   | some i=>
    obtain⟨h,q,g⟩:=Pg p;obtain⟨c,x,s,j⟩:=o.look hs q;have n:=f.each h<|T2 q;simp only[lR,H1,By,g,K1,x];rw[M7 j n.fills v];rfl
end
end Go.Proofs.YtbjgigfhnlnbfaaGreatDoor.Ca
namespace Go.Proofs.YtbjgigfhnlnbfaaGreatDoor.Ex
section
open Go.Dec
variable{f:QF->Int}{j:Nat}{v a:Int}
structure Acc where
 B:Q3
 Ids:List Int
 Sums:Nat->Int
abbrev Ev:=QM
abbrev Gy:=Ql
variable{r:Gy}
abbrev Bk:=Q3
abbrev zN:Nat->Int:=λ_=>0
def Wa(n a b:Int):Bool:=decide (n≥a)&&decide (n<=b)
def G5:Int->Q0 Z4->Bool
 | _,[]=>true
 | last,x::l=>Wa x.From 0 65536&&decide (last < x.From)&&Wa x.Rate 0 1048576&&G5 x.From l
def MT:Q0 Z4->Bool
 | x::_=>x.From==0
 | []=>false
def XJ(r:Gy):Bool:=Wa r.Rates.length 1 64&&MT r.Rates&&Wa r.Transit 0 65536&&Wa r.Loss 0 10000&&Wa r.Share 0 1000&&G5 (-1) r.Rates
def Fa(l:Q0 Z4)(day:Int):Int:=l.foldl (λown x=>if x.From<=day then x.Rate else own) 0
def Ux(r:Gy)(amount day:Int):Int:=amount*Fa r.Rates day / 1000
def Cc(n:Int):Bool:=Wa n 0 15
def Xb(x:Ev):Bool:=
 Wa x.Day 0 65536&&
 (if x.Kind==0||x.Kind==3||x.Kind==4 then Cc x.Bond&&Wa x.Amount 1 17179869184
  else if x.Kind==1 then Cc x.Bond&&Cc x.To&&Wa x.Id 0 1073741824&&Wa x.Amount 1 17179869184
  else if x.Kind==2 then Cc x.Bond&&Wa x.Id 0 1073741824&&Wa x.Amount 0 17179869184
  else if x.Kind==5 then Cc x.Bond&&Wa x.Amount 0 17179869184
  else if x.Kind==6 then Wa x.Amount 1 72057594037927936 else false)
def ZM(r:Gy)(p:QF):Int:=p.Sent+r.Transit+1
def YS(f:QF->Int):Q0 QF->Int
 | []=>0
 | p::l=>f p+YS f l
def Uw(r:Gy)(t d:Int)(s:Acc):Acc:=
 {s with
  B:={s.B with
   Moving:=s.B.Moving.filter λp=>decide<|d < ZM r p,
   Used:=s.B.Used+YS QF.Amount (s.B.Moving.filter λp=> !decide (d < ZM r p)),
   Due:=s.B.Due+YS (λp=>Ux r p.Amount<|ZM r p) (s.B.Moving.filter λp=> !decide (d < ZM r p))},
  Sums:=λi=>if i < 16 then s.Sums i+s.B.Bonds i*(d - t) else s.Sums i}
def BF(r:Gy)(day lost allowed:Int)(s:Acc):Acc:={s with B:={s.B with Lost:=s.B.Lost+JY lost allowed,Charged:=s.B.Charged+(lost - JY lost allowed),Due:=s.B.Due+Ux r (lost - JY lost allowed) day}}
def UR(s:Acc)(x:Ev)(n:Int):Acc:={s with B:={s.B with Bonds:=ZK s.B.Bonds x.Bond.toNat n}}
def M5(r:Gy)(amount day:Int)(s:Acc):Acc:={s with B:={s.B with Used:=s.B.Used+amount,Due:=s.B.Due+Ux r amount day}}
def Zp(s:Acc)(x:Ev):Int:=s.B.Bonds x.Bond.toNat
def BJ(p:QF):Q0 QF->Q0 QF
 | []=>[p]
 | q::l=>if q.Id < p.Id then q::BJ p l else p::q::l
def zu(x:Ev):QF:=⟨x.Id,x.Bond,x.To,x.Day,x.Amount⟩
def DX(s:Acc)(x:Ev):Acc ⊕ Int:=if Zp s x+x.Amount > 17179869184 then .inr 12 else .inl {UR s x (Zp s x+x.Amount) with B:={(UR s x<|Zp s x+x.Amount).B with Made:=s.B.Made+x.Amount}}
def RF(s:Acc)(x:Ev):Acc ⊕ Int:=
 if x.Bond==x.To then .inr 11 else if s.Ids.contains x.Id then .inr 5 else if Zp s x < x.Amount then .inr 10
 else .inl {UR s x (Zp s x - x.Amount) with B:={(UR s x<|Zp s x - x.Amount).B with Moving:=BJ (zu x) s.B.Moving},Ids:=s.Ids++[x.Id]}
def Ov(r:Gy)(s:Acc)(x:Ev)(p:QF):Acc:=
 BF r x.Day (imax 0<|p.Amount - x.Amount) (p.Amount*r.Loss / 10000)
  {UR s x (Zp s x+x.Amount) with B:={(UR s x<|Zp s x+x.Amount).B with Moving:=s.B.Moving.filter λq=> !(q.Id==x.Id),Found:=s.B.Found+imax 0 (x.Amount - p.Amount)}}
def FZ(r:Gy)(s:Acc)(x:Ev):Acc ⊕ Int:=
 match s.B.Moving.find? (λq=>q.Id==x.Id) with
 | none=>.inr 4
 | some p=>if p.To != x.Bond then .inr 11 else if Zp s x+x.Amount > 17179869184 then .inr 12 else .inl (Ov r s x p)
def GH(r:Gy)(s:Acc)(x:Ev):Acc ⊕ Int:=if Zp s x < x.Amount then .inr 10 else .inl (M5 r x.Amount x.Day<|UR s x<|Zp s x - x.Amount)
def S9(s:Acc)(x:Ev):Acc ⊕ Int:=if Zp s x < x.Amount then .inr 10 else .inl {UR s x (Zp s x - x.Amount) with B:={(UR s x<|Zp s x - x.Amount).B with Exported:=s.B.Exported+x.Amount}}
def RB(r:Gy)(s:Acc)(x:Ev):Acc:=
 BF r x.Day (imax 0<|Zp s x - x.Amount) (s.Sums x.Bond.toNat*r.Share / 3650000)
  {UR s x x.Amount with B:={(UR s x x.Amount).B with Found:=s.B.Found+imax 0 (x.Amount - Zp s x)},Sums:=ZK s.Sums x.Bond.toNat 0}
def qD(s:Acc)(x:Ev):Acc ⊕ Int:=if x.Amount > s.B.Due - s.B.Paid then .inr 11 else .inl {s with B:={s.B with Paid:=s.B.Paid+x.Amount}}
def DB(r:Gy)(s:Acc)(x:Ev):Acc ⊕ Int:=
 if x.Kind==0 then DX s x else if x.Kind==1 then RF s x else if x.Kind==2 then FZ r s x else if x.Kind==3 then GH r s x
 else if x.Kind==4 then S9 s x else if x.Kind==5 then .inl (RB r s x) else if x.Kind==6 then qD s x else .inl s
structure DL where
 acc:Acc
 day:Int
def VI(r:Gy)(s:DL)(x:Ev):DL ⊕ Int:=
 if !Xb x then .inr 1 else if x.Day < s.day then .inr 7
 else match DB r (Uw r s.day x.Day s.acc) x with
  | .inl a=>.inl ⟨a,x.Day⟩
  | .inr e=>.inr e
def HV(r:Gy)(day:Int):Q0 Ev->Nat->DL->(DL ⊕ Int)×Nat
 | [],n,s=>(.inl s,n)
 | x::l,n,s=>if x.Day<=day then match VI r s x with
   | .inl b=>HV r day l (n+1) b
   | .inr e=>(.inr e,n)
  else(.inl s,n)
def Ct:Acc:=⟨⟨zN,[],0,0,0,0,0,0,0,0⟩,[],zN⟩
def A8:DL:=⟨Ct,0⟩
def AD(r:Gy)(day:Int)(l:Q0 Ev)(n:Nat)(s:DL):(Acc ⊕ Int)×Nat:=match HV r day l n s with
 | (.inl b,k)=>(.inl<|Uw r b.day day b.acc,k)
 | (.inr e,k)=>(.inr e,k)
def JZ(r:Gy)(l:Q0 Ev)(day:Int):(Acc ⊕ Int)×Nat:=if !XJ r then(.inr 1,0) else if l.length > 4096 then(.inr 3,0) else if !Wa day 0 65536 then(.inr 2,0) else AD r day l 0 A8
theorem Jf{n b:Int}:Wa n a b=true↔a<=n/\n<=b:=by simp[Wa]
theorem Va{f:Nat->Int}:ZK f j v j=v:=by simp[ZK]
theorem Uo{f:Nat->Int}{k:Nat}(h:k≠j):ZK f j v k=f k:=by
 unfold ZK
 have:Nat.beq k j=false:=by
  cases b:Nat.beq k j with
  | false=>rfl
  | true=>exact absurd (kp b) h
 rw[this]
def NR(f:Nat->Int):Nat->Int
 | 0=>0
 | n+1=>NR f n+f n
theorem TU{f:Nat->Int}:∀{n:Nat},n<=j->NR (ZK f j v) n=NR f n
 | 0,_=>rfl
 | n+1,h=>by simp only[NR];rw[TU qz,Uo qz]
theorem FP{f:Nat->Int}:∀{n:Nat},j < n->NR (ZK f j v) n=NR f n+v - f j
 | n+1,h=>by
  simp only[NR];by_cases e:n=j
  ·subst e;rw[TU<|S2 _,Va];omega
  ·rw[FP qz,Uo e];omega
theorem Ik{f:Nat->Int}:∀{n:Nat},(∀i,i < n->0<=f i)->0<=NR f n
 | 0,_=>IN _
 | n+1,h=>by have:=Ik (n:=n) (λi hi=>h i qz);have:=h n qz;simp only[NR];omega
theorem FT:∀{l:Q0 QF},(∀p∈l,0<=f p)->0<=YS f l
 | [],_=>IN _
 | p::l,h=>by have:=FT (l:=l) λq b=>h q<|IF _ b;have:=h p<|tO ..;simp only[YS];omega
theorem OC{g:QF->Int}:∀{l:Q0 QF},(∀p∈l,f p<=g p)->YS f l<=YS g l
 | [],_=>IN _
 | p::l,h=>by have:=OC (l:=l) λq b=>h q<|IF _ b;have:=h p<|tO ..;simp only[YS];omega
theorem NU{k:Int}:∀{l:Q0 QF},YS (λp=>k*f p) l=k*YS f l
 | []=>by simp[YS]
 | p::l=>by simp only[YS,NU (l:=l),ov]
theorem FQ{f:QF->Int}{c:QF->Bool}:∀{l:Q0 QF},YS f (l.filter c)+YS f (l.filter λp=> !c p)=YS f l
 | []=>rfl
 | p::l=>by
  have:=FQ (f:=f) (c:=c) (l:=l);cases h:c p<;>simp only[mY,h,RK,u0,B3,H1,By,YS]<;>omega
theorem D1{l k:Q0 QF}(h:l.Perm k):YS f l=YS f k:=by
 induction h with
 | nil=>rfl
 | cons x _ b=>simp only[YS,b]
 | swap x y l=>simp only[YS];omega
 | trans _ _ c d=>exact c.trans d
structure VL(r:Gy):Prop where
 rates:∀x∈r.Rates,0<=x.From/\x.From<=65536/\0<=x.Rate/\x.Rate<=1048576
 sorted:r.Rates.Pairwise (λx y=>x.From < y.From)
 first:∃x l,r.Rates=x::l/\x.From=0
 len:r.Rates.length<=64
 transit:0<=r.Transit/\r.Transit<=65536
 loss:0<=r.Loss/\r.Loss<=10000
 share:0<=r.Share/\r.Share<=1000
theorem RM:∀{last:Int} {l:Q0 Z4},G5 last l=true↔(∀x∈l,0<=x.From/\x.From<=65536/\0<=x.Rate/\x.Rate<=1048576)/\l.Pairwise (λx y=>x.From < y.From)/\∀x∈l,last < x.From
 | last,[]=>by simp[G5]
 | last,x::l=>by
  simp only[G5,BY,Jf,AT,RM (last:=x.From) (l:=l),j3,List.forall_mem_cons];constructor
  ·rintro⟨⟨⟨b,e⟩,c⟩,g,h,d⟩;exact⟨⟨⟨b.1,b.2,c.1,c.2⟩,g⟩,⟨d,h⟩,e,λy i=>by have:=d y i;omega⟩
  ·rintro⟨⟨⟨b,e,c,g⟩,h⟩,⟨d,k⟩,m,_⟩;exact⟨⟨⟨⟨b,e⟩,m⟩,c,g⟩,h,k,d⟩
theorem PJ:XJ r=true↔VL r:=by
 unfold XJ;simp only[BY,Jf,RM];constructor
 ·rintro⟨⟨⟨⟨⟨o,b⟩,c⟩,d⟩,g⟩,i,k,p⟩;refine⟨i,k,?_,by omega,c,d,g⟩;cases e:r.Rates with
  | nil=>rw[e] at b;cases b
  | cons x l=>rw[e] at b;exact⟨x,l,rfl,by simpa[MT] using b⟩
 ·intro h;obtain⟨x,l,e,m⟩:=h.first;refine⟨⟨⟨⟨⟨⟨?_,?_⟩,?_⟩,h.transit⟩,h.loss⟩,h.share⟩,h.rates,h.sorted,λy n=> ?_⟩
  ·rw[e];simp;omega
  ·have:=h.len;omega
  ·rw[e];simp[MT,m]
  ·have:=(h.rates y n).1;omega
theorem I6{l:Q0 Z4}{day:Int}(h:∀x∈l,0<=x.Rate/\x.Rate<=1048576):0<=Fa l day/\Fa l day<=1048576:=by
 have:∀(l:Q0 Z4) (a:Int),(∀x∈l,0<=x.Rate/\x.Rate<=1048576)->0<=a/\a<=1048576->0<=l.foldl (λown x=>if x.From<=day then x.Rate else own) a/\l.foldl (λown x=>if x.From<=day then x.Rate else own) a<=1048576:=by
  intro l
  induction l with
  | nil=>intro a _ h;exact h
  | cons x l c=>
   intro a b d;refine c _ (λy e=>b y<|IF _ e) ?_;have:=b x<|tO ..;show 0<=(if x.From<=day then x.Rate else a)/\(if x.From<=day then x.Rate else a)<=1048576;split
   ·exact this
   ·exact d
 exact this l 0 h qz
theorem VL.nr(h:VL r)(day:Int):0<=Fa r.Rates day/\Fa r.Rates day<=1048576:=I6 λx b=>⟨(h.rates x b).2.2.1,(h.rates x b).2.2.2⟩
theorem VL.sq(h:VL r){d:Int}(b:0<=a):0<=Ux r a d/\Ux r a d<=1049*a:=by
 have c:=h.nr d;unfold Ux;have e:0<=a*Fa r.Rates d:=r7 b c.1;have g:a*Fa r.Rates d<=a*1048576:=sp c.2 b;constructor<;>omega
theorem VL.pz(h:VL r){d:Int}(b:0<=a)(e:a<=17179869184):0<=a*Fa r.Rates d/\a*Fa r.Rates d<=18014398509481984:=by
 have c:=h.nr d;have g:a*Fa r.Rates d<=a*1048576:=sp c.2 b;exact⟨r7 b c.1,by omega⟩
end
section
open Go.Dec
variable{q p:QF}{l:Q0 QF}
structure cC(r:Gy)(t:Int)(p:QF):Prop where
 amount:1<=p.Amount/\p.Amount<=17179869184
 id:0<=p.Id/\p.Id<=1073741824
 fro:0<=p.From/\p.From<=15
 tow:0<=p.To/\p.To<=15
 ne:p.From≠p.To
 sent:0<=p.Sent/\p.Sent<=t
 late:t < ZM r p
structure Hw(r:Gy)(n:Nat)(t:Int)(s:Acc):Prop where
 bonds:∀i,i < 16->0<=s.B.Bonds i/\s.B.Bonds i<=17179869184
 sums:∀i,i < 16->0<=s.Sums i/\s.Sums i<=t*17179869184
 sorted:s.B.Moving.Pairwise (λp q=>p.Id < q.Id)
 mov:∀p∈s.B.Moving,cC r t p
 known:∀p∈s.B.Moving,p.Id∈s.Ids
 ids:∀i∈s.Ids,0<=i/\i<=1073741824
 mlen:s.B.Moving.length<=n
 ilen:s.Ids.length<=n
 pos:0<=s.B.Made/\0<=s.B.Found/\0<=s.B.Used/\0<=s.B.Exported/\0<=s.B.Lost/\0<=s.B.Charged/\0<=s.B.Paid/\s.B.Paid<=s.B.Due
 made:s.B.Made+s.B.Found<=n*17179869184
 whole:s.B.Used+s.B.Exported+s.B.Lost+s.B.Charged+NR s.B.Bonds 16+YS QF.Amount s.B.Moving=s.B.Made+s.B.Found
 due:s.B.Due<=1049*(s.B.Used+s.B.Charged)
 out:∀i,16<=i->s.B.Bonds i=0
variable{r:Gy}{n:Nat}{t d:Int}{s:Acc}{x:Ev}{p:QF}
theorem IG(r:Gy):Hw r 0 0 Ct where
 bonds:=λi _=>by simp[Ct]
 sums:=λi _=>by simp[Ct]
 sorted:=List.Pairwise.nil
 mov:=λ_ h=>by cases h
 known:=λ_ h=>by cases h
 ids:=λ_ h=>by cases h
 mlen:=S2 _
 ilen:=S2 _
 pos:=by simp[Ct]
 made:=by simp[Ct]
 whole:=by simp[Ct,NR,YS]
 due:=by simp[Ct]
 out:=λi _=>rfl
theorem Hw.lim(h:Hw r n t s):s.B.Used<=n*17179869184/\s.B.Exported<=n*17179869184/\s.B.Lost<=n*17179869184/\s.B.Charged<=n*17179869184/\s.B.Used+s.B.Charged+YS QF.Amount s.B.Moving<=n*17179869184/\s.B.Made<=n*17179869184/\s.B.Found<=n*17179869184/\0<=YS QF.Amount s.B.Moving:=by
 have b:=h.pos;have c:=h.made;have e:=h.whole;have f:=Ik (n:=16) λi hi=>(h.bonds i hi).1;have g:0<=YS QF.Amount s.B.Moving:=FT λp a=>by have:=(h.mov p a).amount.1;omega
 refine⟨?_,?_,?_,?_,?_,?_,?_,?_⟩<;>omega
theorem OW(j:VL r)(h:Hw r n t s)(le:t<=d):Hw r n d (Uw r t d s) where
 bonds:=h.bonds
 sums:=λi hi=>by
  have e:=h.sums i hi;have a:=h.bonds i hi;simp only[Uw,hi,B3];have g:0<=s.B.Bonds i*(d - t):=r7 a.1 qz;have k:s.B.Bonds i*(d - t)<=17179869184*(d - t):=eQ a.2 qz;constructor
  ·omega
  ·omega
 sorted:=h.sorted.filter _
 mov:=λp b=>by
  have e:=s6.1 b;have a:=h.mov p e.1;exact⟨a.amount,a.id,a.fro,a.tow,a.ne,⟨a.sent.1,by have:=a.sent.2;omega⟩,by simpa using e.2⟩
 known:=λp b=>h.known p (s6.1 b).1
 ids:=h.ids
 mlen:=lN (oC _ _) h.mlen
 ilen:=h.ilen
 pos:=by
  have e:=h.pos;have a:0<=YS QF.Amount (s.B.Moving.filter λp=> !decide (d < ZM r p)):=FT λp b=>by have:=(h.mov p (s6.1 b).1).amount.1;omega
  have g:0<=YS (λp=>Ux r p.Amount<|ZM r p) (s.B.Moving.filter λp=> !decide (d < ZM r p)):=FT λp b=>by have:=(h.mov p (s6.1 b).1).amount.1;exact(j.sq qz).1
  simp only[Uw];refine⟨?_,?_,?_,?_,?_,?_,?_,?_⟩<;>omega
 made:=h.made
 whole:=by
  have e:=h.whole;have a:=FQ (f:=QF.Amount) (c:=λp=>decide<|d < ZM r p) (l:=s.B.Moving);simp only[Uw];omega
 due:=by
  have e:=h.due;have g:YS (λp=>Ux r p.Amount<|ZM r p) (s.B.Moving.filter λp=> !decide (d < ZM r p))<=YS (λp=>1049*p.Amount) (s.B.Moving.filter λp=> !decide (d < ZM r p)):=OC λp b=>by have:=(h.mov p (s6.1 b).1).amount.1;exact(j.sq qz).2
  rw[NU] at g
  simp only[Uw];omega
 out:=h.out
theorem j6{u:Int}(o:u<=d):Uw r u d (Uw r t u s)=Uw r t d s:=by
 have b:(s.B.Moving.filter λp=>decide<|u < ZM r p).filter (λp=>decide<|d < ZM r p)=s.B.Moving.filter (λp=>decide<|d < ZM r p):=by
  rw[lS];refine s5 λp _=> ?_;by_cases h:d < ZM r p
  ·simp[h];omega
  ·simp[h]
 have a (f:QF->Int):YS f (s.B.Moving.filter λp=> !decide (u < ZM r p))+YS f ((s.B.Moving.filter λp=>decide<|u < ZM r p).filter λp=> !decide (d < ZM r p))=YS f (s.B.Moving.filter λp=> !decide (d < ZM r p)):=by
  have:=FQ (f:=f) (c:=λp=>decide<|u < ZM r p) (l:=s.B.Moving.filter λp=> !decide (d < ZM r p));rw[lS,lS] at this
  rw[lS,<-this]
  have e:s.B.Moving.filter (λp=> !decide (u < ZM r p))=s.B.Moving.filter (λp=>(!decide (u < ZM r p))&& !decide (d < ZM r p)):=s5 λp _=>by
   by_cases h:u < ZM r p
   ·simp[h]
   ·simp[h];omega
  have g:s.B.Moving.filter (λp=>(!decide (d < ZM r p))&&decide (u < ZM r p))=s.B.Moving.filter (λp=>decide (u < ZM r p)&& !decide (d < ZM r p)):=s5 λp _=>iJ _ _;rw[<-e,g];omega
 have j:(λi=>if i < 16 then(if i < 16 then s.Sums i+s.B.Bonds i*(u - t) else s.Sums i)+s.B.Bonds i*(d - u) else(if i < 16 then s.Sums i+s.B.Bonds i*(u - t) else s.Sums i))=(λi=>if i < 16 then s.Sums i+s.B.Bonds i*(d - t) else s.Sums i):=by
  funext i;by_cases h:i < 16
  ·simp only[h,B3];have:s.B.Bonds i*(d - t)=s.B.Bonds i*(u - t)+s.B.Bonds i*(d - u):=by rw[<-ov];congr 1;omega
   omega
  ·simp only[h,By]
 have k:=a QF.Amount;have m:=a λp=>Ux r p.Amount<|ZM r p;simp only[Uw,b];rw[j,iI,k,iI,m]
theorem uc(h:Xb x=true):0<=x.Day/\x.Day<=65536:=by
 unfold Xb at h;simp only[BY,Jf] at h;exact h.1
theorem GO(h:Xb x=true)(a:x.Kind=0∨x.Kind=3∨x.Kind=4):(0<=x.Bond/\x.Bond<=15)/\1<=x.Amount/\x.Amount<=17179869184:=by
 unfold Xb at h
 have:(x.Kind==0||x.Kind==3||x.Kind==4)=true:=by rcases a with e | e | e<;>simp[e]
 rw[this] at h
 simpa[Jf,Cc] using(lZ.1 h).2
theorem O0(h:Xb x=true)(a:x.Kind=1):(0<=x.Bond/\x.Bond<=15)/\(0<=x.To/\x.To<=15)/\(0<=x.Id/\x.Id<=1073741824)/\1<=x.Amount/\x.Amount<=17179869184:=by
 unfold Xb at h
 simp only[a] at h
 simpa[Jf,Cc,iK] using(lZ.1 h).2
theorem MU(h:Xb x=true)(a:x.Kind=2):(0<=x.Bond/\x.Bond<=15)/\(0<=x.Id/\x.Id<=1073741824)/\0<=x.Amount/\x.Amount<=17179869184:=by
 unfold Xb at h
 simp only[a] at h
 simpa[Jf,Cc,iK] using(lZ.1 h).2
theorem jQ(h:Xb x=true)(a:x.Kind=5):(0<=x.Bond/\x.Bond<=15)/\0<=x.Amount/\x.Amount<=17179869184:=by
 unfold Xb at h
 simp only[a] at h
 simpa[Jf,Cc,iK] using(lZ.1 h).2
theorem ub(h:Xb x=true)(a:x.Kind=6):1<=x.Amount/\x.Amount<=72057594037927936:=by
 unfold Xb at h
 simp only[a] at h
 simpa[Jf,Cc,iK] using(lZ.1 h).2
theorem qg(h:Xb x=true):x.Kind=0∨x.Kind=1∨x.Kind=2∨x.Kind=3∨x.Kind=4∨x.Kind=5∨x.Kind=6:=by
 unfold Xb at h
 have j:=(lZ.1 h).2;by_cases a:x.Kind=0
 ·exact .inl a
 by_cases b:x.Kind=1
 ·exact .inr<|.inl b
 by_cases c:x.Kind=2
 ·exact .inr<|.inr<|.inl c
 by_cases e:x.Kind=3
 ·exact .inr<|.inr<|.inr<|.inl e
 by_cases f:x.Kind=4
 ·exact .inr<|.inr<|.inr<|.inr<|.inl f
 by_cases g:x.Kind=5
 ·exact .inr<|.inr<|.inr<|.inr<|.inr<|.inl g
 by_cases i:x.Kind=6
 ·exact .inr<|.inr<|.inr<|.inr<|.inr<|.inr i
 ·simp[a,b,c,e,f,g,i] at j
theorem SC:∀{l:Q0 QF},(BJ q l).Perm (q::l)
 | []=>.refl _
 | y::l=>by
  simp only[BJ];split
  ·exact(SC.cons y).trans<|.swap _ _ _
  ·exact .refl _
theorem Ot{y:QF}:y∈BJ q l↔y=q∨y∈l:=by
 rw[SC.mem_iff,Tc]
theorem Fl:∀{l:Q0 QF},l.Pairwise (λp q=>p.Id < q.Id)->(∀p∈l,p.Id≠q.Id)->(BJ q l).Pairwise (λp q=>p.Id < q.Id)
 | [],_,_=>by simp[BJ]
 | y::l,h,f=>by
  have e:=j3.1 h;simp only[BJ];split
  ·rename_i c;refine j3.2 ⟨λa b=> ?_,Fl e.2 λp g=>f p<|IF _ g⟩;rcases Ot.1 b with rfl | b
   ·exact c
   ·exact e.1 a b
  ·rename_i c;have:=f y<|tO ..;refine j3.2 ⟨λa b=> ?_,h⟩;rcases Tc.1 b with rfl | b
   ·omega
   ·have:=e.1 a b;omega
theorem xN(h:l.Pairwise (λp q=>p.Id < q.Id))(f:p∈l)(g:q∈l)(e:p.Id=q.Id):p=q:=by
 induction l with
 | nil=>cases f
 | cons y l i=>
  have c:=j3.1 h;rcases Tc.1 f with rfl | a<;>rcases Tc.1 g with rfl | b
  ·rfl
  ·have:=c.1 q b;omega
  ·have:=c.1 p a;omega
  ·exact i c.2 a b
theorem qG{i:Int}(h:l.Pairwise (λp q=>p.Id < q.Id))(a:l.find? (λq=>q.Id==i)=some p):p∈l/\p.Id=i/\l.Perm (p::l.filter (λq=> !(q.Id==i))):=by
 have c:=mq a;have hi:p.Id=i:=by simpa using List.find?_some a
 refine⟨c,hi,?_⟩
 induction l with
 | nil=>cases c
 | cons y l j=>
  have f:=j3.1 h;rw[lI] at a
  by_cases e:y.Id=i
  ·have:(y.Id==i)=true:=by simpa using e
   rw[this] at a;simp only[UV] at a;subst a
   have:l.filter (λq=> !(q.Id==i))=l:=lH.2 λq k=>by have:=f.1 q k;simp;omega
   rw[mY,this];simp[e]
  ·have g:(y.Id==i)=false:=by simpa using e
   rw[g] at a
   have b:=mq a;rw[mY,g];simp only[u0,B3];exact((j f.2 a b).cons y).trans<|.swap _ _ _
end
section
open Go.Dec
variable{r:Gy}{n:Nat}{t d:Int}{s s' :Acc}{x:Ev}{p:QF}
theorem H7{f:Nat->Int}{j:Nat}{v M:Int}(h:∀i,i < 16->0<=f i/\f i<=M)(a:0<=v/\v<=M):∀i,i < 16->0<=ZK f j v i/\ZK f j v i<=M:=λi hi=>by
 by_cases e:i=j
 ·subst e;rw[Va];exact a
 ·rw[Uo e];exact h i hi
theorem Sv{f:Nat->Int}{j:Nat}{v:Int}(h:∀i,16<=i->f i=0)(a:j < 16):∀i,16<=i->ZK f j v i=0:=λi hi=>by
 rw[Uo qz];exact h i hi
theorem Dd(h:0<=x.Bond/\x.Bond<=15):x.Bond.toNat < 16:=by omega
theorem Pe{a b:Int}:(JY a b=a/\a<=b)∨(JY a b=b/\b<=a):=by unfold JY;split<;>omega
theorem FI{a b:Int}:(imax a b=a/\b<=a)∨(imax a b=b/\a<=b):=by unfold imax;split<;>omega
theorem yY(h:Hw r n t s)(g:0<=x.Bond/\x.Bond<=15)(i:1<=x.Amount/\x.Amount<=17179869184)(a:DX s x= .inl s'):Hw r (n+1) t s' :=by
 unfold DX at a
 split at a
 ·cases a
 ·rename_i b;simp only[hJ] at a
  subst a;have c:=Dd g;have j:=h.bonds _ c;have hs:=FP (f:=s.B.Bonds) (v:=Zp s x+x.Amount) c;unfold Zp at b hs
  have k:=h.pos;have l:=h.made;have m:=h.whole;have e:=h.due;have o:=h.mlen;have q:=h.ilen
  exact{
   bonds:=H7 h.bonds (by unfold Zp;omega),sums:=h.sums,sorted:=h.sorted,mov:=h.mov,known:=h.known,ids:=h.ids
   mlen:=by show s.B.Moving.length<=_;omega
   ilen:=by show s.Ids.length<=_;omega
   pos:=by simp only[UR];omega
   made:=by simp only[UR];omega
   whole:=by simp only[UR,Zp];omega
   due:=e
   out:=Sv h.out c}
theorem wm(h:Hw r n t s)(w:0<=x.Bond/\x.Bond<=15)(m:0<=x.To/\x.To<=15)(c:0<=x.Id/\x.Id<=1073741824)(z:1<=x.Amount/\x.Amount<=17179869184)(A:VL r)(y:x.Day=t)(C:0<=t)(b:RF s x= .inl s'):Hw r (n+1) t s' :=by
 unfold RF at b
 split at b
 ·cases b
 ·rename_i o;split at b
  ·cases b
  ·rename_i g;split at b
   ·cases b
   ·rename_i j;simp only[hJ] at b
    subst b;have k:x.Bond≠x.To:=by simpa using o
    have l:x.Id∉s.Ids:=by simpa using g
    have q:=Dd w;have D:=h.bonds _ q;have hs:=FP (f:=s.B.Bonds) (v:=Zp s x - x.Amount) q;unfold Zp at j hs
    have a:=h.pos;have E:=h.made;have F:=h.whole;have u:=h.due;have G:=h.mlen;have H:=h.ilen;have I:YS QF.Amount (BJ (zu x) s.B.Moving)=x.Amount+YS QF.Amount s.B.Moving:=(D1 SC).trans rfl;have K:(BJ (zu x) s.B.Moving).length=s.B.Moving.length+1:=SC.length_eq;have L:=A.transit
    exact{
     bonds:=H7 h.bonds (by unfold Zp;omega),sums:=h.sums
     sorted:=Fl h.sorted λp a e=>l (by have:=h.known p a;rw[e] at this;exact this)
     mov:=λp a=>by
      rcases Ot.1 a with rfl | a
      ·exact⟨z,c,w,m,k,⟨by show 0<=x.Day;omega,by show x.Day<=t;omega⟩,by show t < x.Day+r.Transit+1;omega⟩
      ·exact h.mov p a
     known:=λp a=>by
      show p.Id∈s.Ids++[x.Id];rcases Ot.1 a with rfl | a
      ·simp[zu]
      ·exact iX _<|h.known p a
     ids:=λi hi=>by
      have hi:i∈s.Ids++[x.Id]:=hi;rcases mn.1 hi with hi | hi
      ·exact h.ids i hi
      ·simp only[nt] at hi;subst hi;exact c
     mlen:=by simp only;omega
     ilen:=by simp only[hN,ls];omega
     pos:=by simp only[UR];omega
     made:=by simp only[UR];omega
     whole:=by simp only[UR,Zp];omega
     due:=u
     out:=Sv h.out q}
theorem gr(h:Hw r n t s)(m:0<=x.Bond/\x.Bond<=15)(C:0<=x.Amount/\x.Amount<=17179869184)(l:VL r)(e:s.B.Moving.find? (λq=>q.Id==x.Id)=some p)(g:¬Zp s x+x.Amount > 17179869184):Hw r (n+1) t (Ov r s x p):=by
 obtain⟨i,o,c⟩:=qG h.sorted e;have j:=h.mov p i;have k:=Dd m;have D:=h.bonds _ k;have hs:=FP (f:=s.B.Bonds) (v:=Zp s x+x.Amount) k;unfold Zp at g hs
 have u:=h.pos;have E:=h.made;have F:=h.whole;have w:=h.due;have G:=h.mlen;have H:=h.ilen;have I:YS QF.Amount s.B.Moving=p.Amount+YS QF.Amount (s.B.Moving.filter λq=> !(q.Id==x.Id)):=(D1 c).trans rfl;have y:0<=p.Amount*r.Loss / 10000:=eU (r7 (by have:=j.amount;omega) l.loss.1) qz;have K:=FI (a:=0) (b:=p.Amount - x.Amount);have L:=FI (a:=0) (b:=x.Amount - p.Amount);have M:=Pe (a:=imax 0<|p.Amount - x.Amount) (b:=p.Amount*r.Loss / 10000);have z:=j.amount;have A:=l.sq (a:=imax 0 (p.Amount - x.Amount) - JY (imax 0<|p.Amount - x.Amount) (p.Amount*r.Loss / 10000)) (d:=x.Day) qz
 exact{
  bonds:=H7 h.bonds (by unfold Zp;omega),sums:=h.sums
  sorted:=h.sorted.filter _
  mov:=λp e=>h.mov p (s6.1 e).1
  known:=λp e=>h.known p (s6.1 e).1
  ids:=h.ids
  mlen:=by
   have:=oC (λq:QF=> !(q.Id==x.Id)) s.B.Moving;simp only[Ov,BF,UR];omega
  ilen:=by show s.Ids.length<=_;omega
  pos:=by simp only[Ov,BF,UR];omega
  made:=by simp only[Ov,BF,UR];omega
  whole:=by simp only[Ov,BF,UR,Zp];omega
  due:=by simp only[Ov,BF,UR];omega
  out:=Sv h.out k}
theorem wb(h:Hw r n t s)(i:0<=x.Bond/\x.Bond<=15)(o:0<=x.Amount/\x.Amount<=17179869184)(g:VL r)(e:0<=t):Hw r (n+1) t (RB r s x):=by
 have c:=Dd i;have q:=h.bonds _ c;have hs:=FP (f:=s.B.Bonds) (v:=x.Amount) c;have j:=h.pos;have u:=h.made;have w:=h.whole;have k:=h.due;have y:=h.mlen;have z:=h.ilen;have l:0<=s.Sums x.Bond.toNat*r.Share / 3650000:=eU (r7 (h.sums _ c).1 g.share.1) qz;have A:=FI (a:=0) (b:=Zp s x - x.Amount);have C:=FI (a:=0) (b:=x.Amount - Zp s x);have D:=Pe (a:=imax 0<|Zp s x - x.Amount) (b:=s.Sums x.Bond.toNat*r.Share / 3650000);have m:=g.sq (a:=imax 0 (Zp s x - x.Amount) - JY (imax 0<|Zp s x - x.Amount) (s.Sums x.Bond.toNat*r.Share / 3650000)) (d:=x.Day) qz;have E:Zp s x=s.B.Bonds x.Bond.toNat:=rfl
 exact{
  bonds:=H7 h.bonds qz
  sums:=H7 h.sums ⟨IN _,r7 e qz⟩
  sorted:=h.sorted
  mov:=h.mov
  known:=h.known
  ids:=h.ids
  mlen:=by show s.B.Moving.length<=_;omega
  ilen:=by show s.Ids.length<=_;omega
  pos:=by simp only[RB,BF,UR];omega
  made:=by simp only[RB,BF,UR];omega
  whole:=by simp only[RB,BF,UR];omega
  due:=by simp only[RB,BF,UR];omega
  out:=Sv h.out c}
theorem zm(h:Hw r n t s)(g:0<=x.Bond/\x.Bond<=15)(l:1<=x.Amount/\x.Amount<=17179869184)(i:VL r)(b:GH r s x= .inl s'):Hw r (n+1) t s' :=by
 unfold GH at b
 split at b
 ·cases b
 ·rename_i c;simp only[hJ] at b
  subst b;have e:=Dd g;have m:=h.bonds _ e;have hs:=FP (f:=s.B.Bonds) (v:=Zp s x - x.Amount) e;unfold Zp at c hs
  have o:=h.pos;have q:=h.made;have u:=h.whole;have j:=h.due;have w:=h.mlen;have y:=h.ilen;have k:=i.sq (a:=x.Amount) (d:=x.Day) qz
  exact{
   bonds:=H7 h.bonds (by unfold Zp;omega),sums:=h.sums,sorted:=h.sorted,mov:=h.mov,known:=h.known,ids:=h.ids
   mlen:=by show s.B.Moving.length<=_;omega
   ilen:=by show s.Ids.length<=_;omega
   pos:=by simp only[M5,UR];omega
   made:=by simp only[M5,UR];omega
   whole:=by simp only[M5,UR,Zp];omega
   due:=by simp only[M5,UR];omega
   out:=Sv h.out e}
theorem yU(h:Hw r n t s)(g:0<=x.Bond/\x.Bond<=15)(i:1<=x.Amount/\x.Amount<=17179869184)(a:S9 s x= .inl s'):Hw r (n+1) t s' :=by
 unfold S9 at a
 split at a
 ·cases a
 ·rename_i b;simp only[hJ] at a
  subst a;have c:=Dd g;have j:=h.bonds _ c;have hs:=FP (f:=s.B.Bonds) (v:=Zp s x - x.Amount) c;unfold Zp at b hs
  have k:=h.pos;have l:=h.made;have m:=h.whole;have e:=h.due;have o:=h.mlen;have q:=h.ilen
  exact{
   bonds:=H7 h.bonds (by unfold Zp;omega),sums:=h.sums,sorted:=h.sorted,mov:=h.mov,known:=h.known,ids:=h.ids
   mlen:=by show s.B.Moving.length<=_;omega
   ilen:=by show s.Ids.length<=_;omega
   pos:=by simp only[UR];omega
   made:=by simp only[UR];omega
   whole:=by simp only[UR,Zp];omega
   due:=e
   out:=Sv h.out c}
theorem gX(h:Hw r n t s)(c:1<=x.Amount)(a:qD s x= .inl s'):Hw r (n+1) t s' :=by
 unfold qD at a
 split at a
 ·cases a
 ·rename_i b;simp only[hJ] at a
  subst a;have e:=h.pos;have f:=h.made;have g:=h.mlen;have i:=h.ilen
  exact{
   bonds:=h.bonds,sums:=h.sums,sorted:=h.sorted,mov:=h.mov,known:=h.known,ids:=h.ids
   mlen:=by show s.B.Moving.length<=_;omega
   ilen:=by show s.Ids.length<=_;omega
   pos:=by simp only[];omega
   made:=by simp only[];omega
   whole:=h.whole
   due:=h.due
   out:=h.out}
theorem uq(g:VL r)(h:Hw r n t s)(b:0<=t)(he:Xb x=true)(c:x.Day=t)(a:DB r s x= .inl s'):Hw r (n+1) t s' :=by
 unfold DB at a
 rcases qg he with k | k | k | k | k | k | k<;>simp only[k,mb,Int.reduceEq,B3,By] at a
 ·have e:=GO he<|.inl k;exact yY h e.1 e.2 a
 ·have e:=O0 he k;exact wm h e.1 e.2.1 e.2.2.1 e.2.2.2 g c b a
 ·have e:=MU he k;unfold FZ at a
  split at a
  ·cases a
  ·rename_i p i;split at a
   ·cases a
   ·split at a
    ·cases a
    ·rename_i f;simp only[hJ] at a;subst a;exact gr h e.1 e.2.2 g i f
 ·have e:=GO he<|.inr<|.inl k;exact zm h e.1 e.2 g a
 ·have e:=GO he<|.inr<|.inr k;exact yU h e.1 e.2 a
 ·have e:=jQ he k;simp only[hJ] at a;subst a;exact wb h e.1 e.2 g b
 ·have e:=ub he k;exact gX h e.1 a
theorem TV{c c' :DL}(e:VL r)(h:Hw r n c.day c.acc)(_h0:0<=c.day)(hs:VI r c x= .inl c'):Hw r (n+1) c'.day c'.acc/\c.day<=c'.day/\c'.day=x.Day/\Xb x=true:=by
 unfold VI at hs
 split at hs
 ·cases hs
 ·rename_i he;split at hs
  ·cases hs
  ·rename_i f;split at hs
   ·rename_i a g;simp only[hJ] at hs
    subst hs;have b:Xb x=true:=by simpa using he
    exact⟨uq e (OW e h<|show c.day<=x.Day by omega) (by have:=(uc b).1;exact this) b rfl g,by show c.day<=x.Day;omega,rfl,b⟩
   ·cases hs
end
section
open Go.Dec
variable{r:Gy}{n:Nat}{t d:Int}{s s' :Acc}{x:Ev}{p:QF}
theorem TT{i:Nat}(h:i<=4294967296):Qz ((i:Int)+1)=((i+1:Nat):Int):=by rw[Qi qz qz];rfl
theorem ug(b:VL r){a:Int}(c:0<=a)(e:a<=17179869184)(day:Int):Qz (Int.tdiv (Qz<|a*Fa r.Rates day) 1000)=Ux r a day:=by
 have h:=b.pz (d:=day) c e;rw[Qi (n:=a*Fa r.Rates day) qz qz,mZ h.1];unfold Ux;rw[Qi qz qz]
end
section
open Go.Dec
variable{r:Gy}{n:Nat}{t d:Int}{s s' :Acc}{x:Ev}{p:QF}
theorem NV{f g:QF->Int}:∀{l:Q0 QF},(∀p∈l,f p=g p)->YS f l=YS g l
 | [],_=>rfl
 | p::l,h=>by simp only[YS];rw[h p<|tO ..,NV (l:=l) λq a=>h q<|IF _ a]
def Oj(r:Gy)(next:Int)(s:Acc)(pre post:Q0 QF):Acc:={s with B:={s.B with Moving:=pre++post.filter (λp=> !(ZM r p==next)),Used:=s.B.Used+YS QF.Amount (post.filter λp=>ZM r p==next),Due:=s.B.Due+YS (λp=>Ux r p.Amount next) (post.filter λp=>ZM r p==next)}}
end
section
open Go.Dec
variable{r:Gy}{n:Nat}{t d:Int}{s s' :Acc}{x:Ev}{p:QF}
def yB(s:Acc):Acc ⊕ Int->Acc×Int
 | .inl a=>(a,0)
 | .inr e=>(s,e)
theorem SD(h:0<=x.Bond/\x.Bond<=15):VM 16 x.Bond=some x.Bond.toNat:=by unfold VM;rw[Bm qz]
theorem HI(h:Hw r n t s)(a:0<=x.Bond/\x.Bond<=15):0<=Zp s x/\Zp s x<=17179869184:=h.bonds _<|Dd a
end
section
open Go.Dec
variable{day:Int}
variable{r:Gy}{n:Nat}{t d:Int}{s s' :Acc}{x:Ev}{p:QF}
theorem FK(n a b:Int):ZP n a b=Wa n a b:=by unfold ZP Wa;exact rfl
theorem Pj(n:Int):Kg n=Wa n 0 65536:=by unfold Kg;exact FK ..
theorem xT(n:Int):Zl n=Cc n:=by unfold Zl Cc;exact FK ..
theorem Ag(r:Gy)(g:r.Rates.length<=1000000):∀(k i:Nat) (last:Int),i+k=r.Rates.length->
  ZT (J8 r) (last,(i:Int))=some (if G5 last (r.Rates.drop i) then .inl () else .inr false)
 | 0,i,last,hi=>by
  have:J8 r (last,(i:Int))=some (.done<|.inl ()):=by unfold J8;rw[B2 zg]
  rw[ZJ,j0 qz,this];rfl
 | k+1,i,last,hi=>by
  have a:i < r.Rates.length:=by omega
  have h:r.Rates[i]? =some r.Rates[i]:=by simp[a]
  have step:J8 r (last,(i:Int))=some (if Wa r.Rates[i].From 0 65536&&decide (last < r.Rates[i].From)&&Wa r.Rates[i].Rate 0 1048576 then .next (r.Rates[i].From,((i+1:Nat):Int)) else .done (.inr false)):=by
   unfold J8;rw[Bm zg];simp only[Zy,h,K1,FK,Pj,TT (by omega:i<=4294967296)];by_cases b:Wa r.Rates[i].From 0 65536=true
   case neg=>simp only[hH] at b;simp[b]
   case pos=>
    by_cases c:Wa r.Rates[i].Rate 0 1048576=true
    case neg=>simp only[hH] at c;simp[b,c]
    case pos=>
     by_cases f:r.Rates[i].From<=last
     ·have:decide (last < r.Rates[i].From)=false:=by simp;omega
      simp[b,c,f,this]
     ·have:decide (last < r.Rates[i].From)=true:=by simp;omega
      simp[b,c,f,this]
  rw[ZJ,x2 a,step];by_cases e:(Wa r.Rates[i].From 0 65536&&decide (last < r.Rates[i].From)&&Wa r.Rates[i].Rate 0 1048576)=true
  case neg=>simp only[hH] at e;simp[G5,e]
  case pos=>
   simp only[G5,e,B3,rW];exact Ag r g k (i+1) r.Rates[i].From qz
theorem Af(g:r.Rates.length<=1000000):UB r=some (XJ r):=by
 unfold UB XJ;have a:=Ag r g r.Rates.length 0 (-1) qz;simp only[fm,eb] at a
 simp only[QQ,FK,Pj];refine ZQ a ?_;by_cases f:G5 (-1) r.Rates=true
 case neg=>simp only[hH] at f;simp[f]
 case pos=>
  simp only[f,B3,mw];by_cases c:Wa (r.Rates.length:Int) 1 64=true
  case neg=>simp only[hH] at c;simp[c]
  case pos=>
   have b:=Jf.1 c
   obtain⟨y,l,e⟩:∃y l,r.Rates=y::l:=by
    cases h:r.Rates with
    | nil=>rw[h] at b;simp at b
    | cons y l=>exact⟨y,l,rfl⟩
   have i:ZW r.Rates 0=some y:=by
    have:=Zy r.Rates 0;rw[e] at this ⊢;exact this
   have j:MT r.Rates=(y.From==0):=by rw[e];rfl
   simp only[c,B3,i,K1,j,rW]
theorem Bs(x:Ev):Wi x=some (Xb x):=by
 unfold Wi Xb;simp only[FK,Pj,xT,QQ]
 have j:(Wa x.Amount 1 17179869184||x.Amount==0)=Wa x.Amount 0 17179869184:=by
  rw[lr];simp[Wa];omega
 rw[j];by_cases h:Wa x.Day 0 65536=true
 case neg=>simp only[hH] at h;simp[h]
 case pos=>
  simp only[h,RK,H1,By,rW];by_cases a:(x.Kind==0)=true
  ·simp[a]
  ·simp only[hH] at a
   by_cases b:(x.Kind==3)=true
   ·simp[a,b]
   ·simp only[hH] at b
    by_cases i:(x.Kind==4)=true
    ·simp[a,b,i]
    ·simp only[hH] at i
     simp only[a,b,i,og,H1,By,K1];by_cases c:(x.Kind==1)=true
     ·rw[Bm c,Bm c]
     ·rw[B2 c,B2 c];by_cases e:(x.Kind==2)=true
      ·rw[Bm e,Bm e]
      ·rw[B2 e,B2 e];by_cases f:(x.Kind==5)=true
       ·rw[Bm f,Bm f]
       ·rw[B2 f,B2 f];by_cases g:(x.Kind==6)=true
        ·rw[Bm g,Bm g]
        ·rw[B2 g,B2 g]
theorem uT{m:Int}(b:0<=m)(c:m<=2000000):Qz (jo .u64 (IntKind.u64.wrap<|Qz m) 1)=m / 2:=by
 rw[Qi (n:=m) qz qz];have e:IntKind.u64.bits=64:=rfl
 have a:IntKind.u64.wrap m=m:=by
  simp only[IntKind.wrap,e];simp[IntKind.signed];omega
 rw[a]
 have hs:jo .u64 m 1=m / 2:=by
  unfold jo;have:(2:Int)^(min (Int.toNat 1) IntKind.u64.bits)=2:=by decide
  rw[this,Int.fdiv_eq_ediv_of_nonneg _ qz]
 rw[hs,Qi qz qz]
def Wc(l:Q0 Z4)(day:Int):Nat:=(l.takeWhile λx=>decide<|x.From<=day).length
theorem D8{day:Int}:∀{l:Q0 Z4},l.Pairwise (λx y=>x.From < y.From)->Wc l day<=l.length/\(∀i x,l[i]? =some x->(x.From<=day↔i < Wc l day))
 | [],_=>⟨S2 _,λi x h=>by simp at h⟩
 | y::l,h=>by
  have c:=j3.1 h;have e:=D8 (day:=day) c.2;unfold Wc at e ⊢
  rw[eE];by_cases b:y.From<=day
  ·simp only[b,r6,B3,kn];refine⟨by omega,λi x a=> ?_⟩;cases i with
   | zero=>simp at a;subst a;simp[b]
   | succ i=>
    simp only[ts] at a
    have:=e.2 i x a;omega
  ·simp only[b,n1,H1,By,hF];refine⟨ei _,λi x a=> ?_⟩;cases i with
   | zero=>simp at a;subst a;omega
   | succ i=>
    simp only[ts] at a
    have:=c.1 x<|T2 a;omega
theorem EC:∀{l:Q0 Z4} (a:Int),l.Pairwise (λx y=>x.From < y.From)->l.foldl (λown x=>if x.From<=day then x.Rate else own) a=if Wc l day=0 then a else match l[Wc l day - 1]? with | some x=>x.Rate | none=>a
 | [],a,_=>rfl
 | y::l,a,h=>by
  have c:=j3.1 h;have i:=D8 (day:=day) h;rw[eH,EC _ c.2];have j:=(D8 (day:=day) c.2).1;by_cases b:y.From<=day
  ·have e:Wc (y::l) day=Wc l day+1:=by unfold Wc;rw[eE];simp[b]
   rw[e];simp only[b,B3,Nat.add_one_ne_zero,By,Nat.add_sub_cancel];by_cases f:Wc l day=0
   ·rw[Bm f,f];rfl
   ·rw[B2 f];have:Wc l day=(Wc l day - 1)+1:=by omega
    conv=>rhs;rw[this,ts]
    have g:Wc l day - 1 < l.length:=by omega
    rw[C2 g]
  ·have e:Wc (y::l) day=0:=by unfold Wc;rw[eE];simp[b]
   have k:Wc l day=0:=by
    cases m:l with
    | nil=>rfl
    | cons z l' =>
     unfold Wc;rw[eE];have:=c.1 z (by rw[m];simp);have:¬z.From<=day:=by omega
     simp[this]
   rw[Bm k,Bm e,B2 b]
theorem Iv(g:VL r):Xy (r.Rates.length:Int) (λx=>YO x r day)=some (Wc r.Rates day:Int):=by
 have a:=D8 (day:=day) g.sorted;have h:=g.len
 have key:=qR (body:=U8 λx=>YO x r day) (λs:Int×Int=>0<=s.1/\s.1<=Wc r.Rates day/\(Wc r.Rates day:Int)<=s.2/\s.2<=r.Rates.length) (λs=>(s.2 - s.1).toNat) (λb=>b=(Wc r.Rates day:Int)) λs hs=>by
  obtain⟨i,j⟩:=s;obtain⟨v,w,z,A⟩:=hs;simp only at v w z A
  by_cases c:i < j
  ·left;have k:=uT (m:=i+j) qz qz;have B:i<=(i+j) / 2:=by omega
   have C:(i+j) / 2 < j:=by omega
   obtain⟨y,e,f⟩:=xM (l:=r.Rates) (i:=(i+j) / 2) qz qz;have o:YO ((i+j) / 2) r day=some (decide<|y.From > day):=by unfold YO;rw[e];rfl
   have q:=a.2 _ y f;by_cases u:y.From > day
   ·refine⟨(i,(i+j) / 2),?_,⟨by simp only;omega,by simp only;omega,?_,by simp only;omega⟩,by simp only;omega⟩
    ·unfold U8;rw[Bm<|by simpa using c];simp only[k,QQ,o,K1,u,r6,RK,H1,By]
    ·simp only;omega
   ·refine⟨((i+j) / 2+1,j),?_,⟨by simp only;omega,?_,by simp only;omega,by simp only;omega⟩,by simp only;omega⟩
    ·unfold U8;rw[Bm<|by simpa using c];simp only[k,QQ,o,K1,u,n1,u0,B3];rw[Qi (n:=(i+j) / 2+1) qz qz]
    ·simp only;omega
  ·right;refine⟨i,?_,by omega⟩;unfold U8;rw[B2<|by simpa using c]
 obtain⟨b,D,E⟩:=key r.Rates.length (0,(r.Rates.length:Int)) zh ⟨by simp,by simp,by simp;exact a.1,by simp⟩;unfold Xy;rw[D,E];rfl
theorem Pm(c:VL r){a:Int}(j:0<=a)(k:a<=17179869184)(o:0<=day):WN r a day=some (Ux r a day):=by
 have f:=D8 (day:=day) c.sorted;have h:=c.len;obtain⟨y,l,e,q⟩:=c.first;have u:0 < Wc r.Rates day:=(f.2 0 y (by rw[e];rfl)).1 qz;have g:Wc r.Rates day - 1 < r.Rates.length:=by omega
 have i:r.Rates[Wc r.Rates day - 1]? =some r.Rates[Wc r.Rates day - 1]:=C2 g
 have b:Fa r.Rates day=r.Rates[Wc r.Rates day - 1].Rate:=by
  unfold Fa;rw[EC _ c.sorted,B2 qz,i]
 unfold WN;refine ZQ (Iv c) ?_;have m:Qz ((Wc r.Rates day:Int) - 1)=((Wc r.Rates day - 1:Nat):Int):=by rw[Qi qz qz];omega
 simp only[QQ,m,Zy,i,K1,<-b];rw[ug c j k]
end
section
open Go.Dec
variable{l:Q0 QF}{i:Int}
variable{r:Gy}{n:Nat}{t d:Int}{s s' :Acc}{x:Ev}{p:QF}
abbrev PM:=Q0<|Q0<|Int×QF
abbrev KM:=Q0<|Q0<|Int×Bool
def Fk(p:QF):Int×QF:=(p.Id,p)
def K4(r:Gy)(t:Int)(s:Acc):QD:=⟨r,{s.B with Moving:=[]},some 0,some 0,s.Sums,t⟩
structure PR(r:Gy)(t:Int)(s:Acc)(A1:List QD)(A2:PM)(A3:KM):Prop where
 o:A1=[K4 r t s]
 m:∃m,A2=[m]/\m.Perm (s.B.Moving.map Fk)
 k:∃k rest,A3=k::rest/\(k.map Prod.fst).Nodup/\∀i,(Qb k i).getD false=s.Ids.contains i
theorem Fj(h:l.Pairwise (λp q=>p.Id < q.Id)):((l.map Fk).map Prod.fst).Nodup:=by
 have:(l.map Fk).map Prod.fst=l.map QF.Id:=by rw[lY];rfl
 rw[this];rw[List.Nodup,oX];exact h.imp λh=>iS h
theorem jL:∀{l:Q0 QF},Qb (l.map Fk) i=l.find? (λq=>q.Id==i)
 | []=>rfl
 | q::l=>by
  simp only[Of,Fk,Qb,lI];by_cases h:i=q.Id
  ·subst h;simp
  ·have a:(i==q.Id)=false:=by simpa using h
   have b:(q.Id==i)=false:=by simpa using Ne.symm h
   simp only[a,b,H1,By];exact jL
theorem qa{m:Q0 (Int×QF)}(hs:l.Pairwise (λp q=>p.Id < q.Id))(h:m.Perm (l.map Fk)):Qb m i=l.find? (λq=>q.Id==i):=by
 rw[WC h<|Fj hs,jL]
theorem kK:(l.map Fk).filter (λx=> !(i==x.1))=(l.filter λq=> !(q.Id==i)).map Fk:=by
 rw[o6];congr 1;refine s5 λq _=> ?_;show(!(i==q.Id))= !(q.Id==i);rw[Bool.beq_comm]
theorem uw{m:Q0 (Int×QF)}(hs:l.Pairwise (λp q=>p.Id < q.Id))(h:m.Perm (l.map Fk)):(J4 m i).Perm ((l.filter λq=> !(q.Id==i)).map Fk):=by
 have a:=C9 (k:=i) h<|Fj hs
 rwa[XD<|Fj hs,kK] at a
abbrev dU:=Out Zt<|Q0 QD×PM×KM
def Xu(r:Gy)(t:Int)(out:Acc ⊕ Int)(q:Q2 dU):Prop:=match out with
 | .inl s' =>∃A1 a A3,q=some (.ok (A1,a,A3))/\PR r t s' A1 a A3
 | .inr e=>q=some (.pan ⟨e⟩)
theorem C8(e:Int):JI true e=some (.ok ()):=rfl
theorem PT(e:Int):JI false e=some (.pan ⟨e⟩):=rfl
theorem WJ{ε α β:Type}{e:Q2 (Out ε α)}{gp:ε->Q2 β}{g:α->Q2 β}{x:α}(h:e=some (.ok x)):Qw e gp g=g x:=by rw[h];rfl
theorem U7{ε α β:Type}{e:Q2 (Out ε α)}{gp:ε->Q2 β}{g:α->Q2 β}{x:ε}(h:e=some (.pan x)):Qw e gp g=gp x:=by rw[h];rfl
variable{A1:Q0 QD}{A2:PM}{A3:KM}
theorem L7(h:Hw r n t s)(f:PR r t s A1 A2 A3)(c:0<=x.Bond/\x.Bond<=15)(g:0<=x.Amount/\x.Amount<=17179869184):Yc A1 (some 0) x=if Zp s x+x.Amount > 17179869184 then some (.pan ⟨12⟩) else some (.ok ()):=by
 have j:=HI h c;have e:(K4 r t s).book.Bonds x.Bond.toNat=Zp s x:=rfl;unfold Yc;rw[f.o];simp only[K1,SD c,So];rw[e,Qi (n:=Zp s x+x.Amount) qz qz];by_cases a:Zp s x+x.Amount > 17179869184
 ·have b:decide (Zp s x+x.Amount<=17179869184)=false:=by simp;omega
  rw[b,Bm a];rfl
 ·have b:decide (Zp s x+x.Amount<=17179869184)=true:=by simp;omega
  rw[b,B2 a];rfl
theorem FL(h:Hw r n t s)(f:PR r t s A1 A2 A3)(c:0<=x.Bond/\x.Bond<=15)(g:1<=x.Amount/\x.Amount<=17179869184):Jl A1 (some 0) x=if Zp s x < x.Amount then some (.pan ⟨10⟩) else some (.ok [K4 r t<|UR s x<|Zp s x - x.Amount]):=by
 have j:=HI h c;have e:(K4 r t s).book.Bonds x.Bond.toNat=Zp s x:=rfl;unfold Jl;rw[f.o];simp only[K1,SD c,So];rw[e];by_cases a:Zp s x < x.Amount
 ·have b:decide (Zp s x≥x.Amount)=false:=by simp;omega
  rw[b,Bm a];rfl
 ·have b:decide (Zp s x≥x.Amount)=true:=by simp;omega
  rw[b,B2 a,Qi (n:=Zp s x - x.Amount) qz qz];rfl
theorem qo(h:Hw r n t s)(q:n<=4096)(b:PR r t s A1 A2 A3)(he:Xb x=true)(k:x.Kind=0):Xu r t (DX s x) (Ju A1 A2 A3 (some 0) x):=by
 obtain⟨f,u⟩:=GO he<|.inl k;have v:=HI h f;have w:=h.lim;have g:=h.pos;have c:=L7 h b f qz;unfold Ju DX Xu;by_cases a:Zp s x+x.Amount > 17179869184
 ·rw[Bm a] at c ⊢
  rw[U7 c]
 ·rw[B2 a] at c ⊢
  rw[WJ c];refine⟨[K4 r t {UR s x (Zp s x+x.Amount) with B:={(UR s x<|Zp s x+x.Amount).B with Made:=s.B.Made+x.Amount}}],A2,A3,?_,rfl,b.m,b.k⟩;rw[b.o];have e:(K4 r t s).book.Bonds x.Bond.toNat=Zp s x:=rfl;have j:(K4 r t s).book.Made=s.B.Made:=rfl;simp only[K1,SD f,So,QQ,e,j];rw[Qi (n:=Zp s x+x.Amount) qz qz,Qi (n:=s.B.Made+x.Amount) qz qz];rfl
theorem yK{k:Q0 (Int×Bool)}{ids:Q0 Int}{id:Int}(b:(k.map Prod.fst).Nodup)(h:∀i,(Qb k i).getD false=ids.contains i)(i:Int):(Qb (Q4 k id true) i).getD false=(ids++[id]).contains i:=by
 have c:=Jr (l:=k) (k:=id) (v:=true) b;have a:(((id,true)::k.filter (λx=> !(id==x.1))).map Prod.fst).Nodup:=(c.map Prod.fst).nodup_iff.1<|JQ b;rw[WC c a];simp only[Qb];by_cases e:i=id
 ·subst e;simp
 ·have m:(i==id)=false:=by simpa using e
  rw[m];simp only[H1,By]
  have o:Qb (k.filter λx=> !(id==x.1)) i=Qb k i:=by
   clear b h c a
   induction k with
   | nil=>rfl
   | cons y k j=>
    rw[mY];by_cases f:id=y.1
    ·have g:(id==y.1)=true:=by simpa using f
     have q:(i==y.1)=false:=by simp;intro h;exact e<|h.trans f.symm
     simp only[g,RK,H1,By,Qb,q,j]
    ·have g:(id==y.1)=false:=by simpa using f
     simp only[g,u0,B3,Qb,j]
  rw[o,h];simp[e]
theorem jr(h:Hw r n t s)(y:PR r t s A1 A2 A3)(he:Xb x=true)(k:x.Kind=1):Xu r t (RF s x) (Yb A1 A2 A3 (some 0) x):=by
 obtain⟨E,L,M,N⟩:=O0 he k;have W:=HI h E;have b:=FL h y E N;obtain⟨m,F,f⟩:=y.m;obtain⟨G,rest,H,j,u⟩:=y.k;unfold Yb RF Xu;by_cases a:(x.Bond==x.To)=true
 ·have A:(x.Bond != x.To)=false:=by simp[bne,a]
  rw[A,Bm a,U7<|PT 11]
 ·have A:(x.Bond != x.To)=true:=by simp only[bne];simp only[hH] at a;rw[a];rfl
  rw[A,B2 a,WJ<|C8 11];have P:(A1[0]?)=some (K4 r t s):=by rw[y.o];rfl
  have I:(A3[0]?)=some G:=by rw[H];rfl
  have Q:(K4 r t s).known=some 0:=rfl;simp only[K1,P,Q,I,u];by_cases z:s.Ids.contains x.Id=true
  ·rw[Bm z,z];rw[RK,U7<|PT 5]
  ·have g:s.Ids.contains x.Id=false:=by simpa using z
   rw[B2 z,g,u0,WJ<|C8 5];by_cases c:Zp s x < x.Amount
   ·rw[Bm c] at b ⊢
    rw[U7 b]
   ·rw[B2 c] at b ⊢
    rw[WJ b];have R:(A2[0]?)=some m:=by rw[F];rfl
    have S:(K4 r t<|UR s x<|Zp s x - x.Amount).moving=some 0:=rfl;have C:(K4 r t<|UR s x<|Zp s x - x.Amount).known=some 0:=rfl;refine⟨_,_,_,by simp only[So,K1,C,I,S,R,QQ];rfl,rfl,⟨Q4 m x.Id<|zu x,by rw[F];rfl,?_⟩,⟨Q4 G x.Id true,rest,by rw[H];rfl,JQ j,yK j u⟩⟩
    have w:∀q∈s.B.Moving,q.Id≠x.Id:=λq D e=>by
     have:=h.known q D;rw[e] at this
     rw[<-hH,List.contains_iff_mem] at g;exact g this
    have K:=Jr (l:=m) (k:=x.Id) (v:=zu x)<|(f.map Prod.fst).nodup_iff.2<|Fj h.sorted
    have T:m.filter (λe=> !(x.Id==e.1))=m:=lH.2 λe he=>by
     obtain⟨q,D,rfl⟩:=n2.1<|f.mem_iff.1 he;have:=w q D;simp[Fk];exact iP this
    rw[T] at K
    refine K.trans ?_;refine(f.cons _).trans ?_;have V:=(SC (q:=zu x) (l:=s.B.Moving)).symm.map Fk;exact V
theorem It(c:VL r)(h:Hw r n t s)(q:n<=4096)(g:0<=t){u:Acc}(v:u.B.Bonds x.Bond.toNat=0∨u.B.Bonds x.Bond.toNat=Zp s x)(e:0<=x.Bond/\x.Bond<=15){was is allowed:Int}(f:0<=was/\was<=17179869184)(j:0<=is/\is<=17179869184)(k:0<=allowed/\allowed<=4611686018427387904)
  (w:u.B.Found=s.B.Found) (y:u.B.Lost=s.B.Lost) (z:u.B.Charged=s.B.Charged) (A:u.B.Due=s.B.Due):VE [K4 r t u] (some 0) x.Bond was is allowed=some [K4 r t<|BF r t (imax 0<|was - is) allowed {UR u x (u.B.Bonds x.Bond.toNat+is) with B:={(UR u x<|u.B.Bonds x.Bond.toNat+is).B with Found:=u.B.Found+imax 0 (is - was)}}]:=by
 have C:=HI h e;have D:=h.lim;have m:=h.pos;have o:=h.due;have E:=FI (a:=0) (b:=was - is);have F:=FI (a:=0) (b:=is - was);have G:=Pe (a:=imax 0<|was - is) (b:=allowed);have H:=c.sq (a:=imax 0 (was - is) - JY (imax 0<|was - is) allowed) (d:=t) qz;unfold VE;simp only[K1,SD e,So,QQ];rw[Qi (n:=is - was) qz qz,Qi (n:=was - is) qz qz,Qi (n:=imax 0 (was - is) - JY (imax 0<|was - is) allowed) qz qz];refine ZQ (Pm c qz qz g) ?_;simp only[K4,lL];rw[Qi (n:=u.B.Bonds x.Bond.toNat+is) qz qz,Qi (n:=u.B.Found+imax 0 (is - was)) qz qz,Qi (n:=u.B.Lost+JY (imax 0<|was - is) allowed) qz qz,Qi (n:=u.B.Charged+(imax 0 (was - is) - JY (imax 0<|was - is) allowed)) qz qz,Qi (n:=u.B.Due+Ux r (imax 0 (was - is) - JY (imax 0<|was - is) allowed) t) qz qz];rfl
theorem OP(F:VL r)(h:Hw r n t s)(L:n<=4096)(M:0<=t)(f:PR r t s A1 A2 A3)(he:Xb x=true)(k:x.Kind=2)(g:x.Day=t):Xu r t (FZ r s x) (Jc A1 A2 A3 (some 0) x):=by
 obtain⟨z,N,G⟩:=MU he k;have T:=HI h z;have a:=L7 h f z G;obtain⟨m,H,j⟩:=f.m;have P:(A1[0]?)=some (K4 r t s):=by rw[f.o];rfl
 have Q:(A2[0]?)=some m:=by rw[H];rfl
 have R:(K4 r t s).moving=some 0:=rfl;unfold Jc FZ Xu;simp only[K1,P,R,Q,QQ,qa h.sorted j];cases S:s.B.Moving.find? (λq=>q.Id==x.Id) with
 | none=>rfl
 | some p=>
  obtain⟨v,I,_⟩:=qG h.sorted S;have A:=h.mov p v;have C:=A.amount;simp only[eJ,eC];rw[WJ<|C8 4];by_cases b:(p.To != x.Bond)=true
  ·have D:(p.To==x.Bond)=false:=by simpa[bne] using b
   rw[D,U7<|PT 11,Bm b]
  ·have D:(p.To==x.Bond)=true:=by simpa[bne] using b
   rw[D,WJ<|C8 11,B2 b];by_cases c:Zp s x+x.Amount > 17179869184
   ·rw[Bm c] at a ⊢
    rw[U7 a]
   ·rw[B2 c] at a ⊢
    rw[WJ a];have e:=F.loss;have w:0<=p.Amount*r.Loss:=r7 qz e.1;have K:p.Amount*r.Loss<=17179869184*10000:=eA C.2 e.2 e.1 qz;have E:(K4 r t s).rules.Loss=r.Loss:=rfl;have y:=It (x:=x) F h L M (u:=s) (.inr rfl) z (was:=p.Amount) (is:=x.Amount) (allowed:=p.Amount*r.Loss / 10000) qz G qz rfl rfl rfl rfl;simp only[E];rw[Qi (n:=p.Amount*r.Loss) qz qz,mZ w,Qi (n:=p.Amount*r.Loss / 10000) qz qz];refine⟨_,_,_,ZQ (by rw[f.o];exact y) rfl,?_,⟨J4 m x.Id,by rw[H];rfl,uw h.sorted j⟩,f.k⟩;unfold Ov;rw[g];rfl
theorem Ib(b:VL r){u:Acc}{a day:Int}(c:0<=a/\a<=17179869184)(e:0<=day)(g:0<=u.B.Used/\u.B.Used<=4611686018427387904)(h:0<=u.B.Due/\u.B.Due<=4611686018427387904):VD [K4 r t u] (some 0) a day=some [K4 r t<|M5 r a day u]:=by
 have f:=b.sq (a:=a) (d:=day) qz;unfold VD;simp only[K1,So,QQ];refine ZQ (Pm b c.1 c.2 e) ?_;simp only[K4,lL];rw[Qi (n:=u.B.Used+a) qz qz,Qi (n:=u.B.Due+Ux r a day) qz qz];rfl
theorem OO(e:VL r)(h:Hw r n t s)(q:n<=4096)(c:PR r t s A1 A2 A3)(he:Xb x=true)(k:x.Kind=3):Xu r t (GH r s x) (Jb A1 A2 A3 (some 0) x):=by
 obtain⟨f,g⟩:=GO he<|.inr<|.inl k;have a:=FL h c f g;have u:=h.lim;have j:=h.pos;have o:=h.due;unfold Jb GH Xu;by_cases b:Zp s x < x.Amount
 ·rw[Bm b] at a ⊢
  rw[U7 a]
 ·rw[B2 b] at a ⊢
  rw[WJ a];exact⟨_,_,_,ZQ (Ib e qz (uc he).1 ⟨by show 0<=s.B.Used;omega,by show s.B.Used<=_;omega⟩ ⟨by show 0<=s.B.Due;omega,by show s.B.Due<=_;omega⟩) rfl,rfl,c.m,c.k⟩
theorem qf(h:Hw r n t s)(o:n<=4096)(c:PR r t s A1 A2 A3)(he:Xb x=true)(k:x.Kind=4):Xu r t (S9 s x) (Jt A1 A2 A3 (some 0) x):=by
 obtain⟨f,g⟩:=GO he<|.inr<|.inr k;have a:=FL h c f g;have q:=h.lim;have j:=h.pos;unfold Jt S9 Xu;by_cases b:Zp s x < x.Amount
 ·rw[Bm b] at a ⊢
  rw[U7 a]
 ·rw[B2 b] at a ⊢
  rw[WJ a];have e:(K4 r t<|UR s x<|Zp s x - x.Amount).book.Exported=s.B.Exported:=rfl;refine⟨[K4 r t {UR s x (Zp s x - x.Amount) with B:={(UR s x<|Zp s x - x.Amount).B with Exported:=s.B.Exported+x.Amount}}],A2,A3,?_,rfl,c.m,c.k⟩;simp only[K1,So,QQ,e];rw[Qi (n:=s.B.Exported+x.Amount) qz qz];rfl
theorem jk(v:VL r)(h:Hw r n t s)(y:n<=4096)(z:0<=t)(H:t<=65536)(j:PR r t s A1 A2 A3)(he:Xb x=true)(k:x.Kind=5)(b:x.Day=t):Xu r t (.inl<|RB r s x) (Ya A1 A2 A3 (some 0) x):=by
 obtain⟨g,A⟩:=jQ he k;have C:=HI h g;have q:=h.sums _<|Dd g;have a:=v.share;have c:0<=s.Sums x.Bond.toNat*r.Share:=r7 q.1 a.1;have w:s.Sums x.Bond.toNat*r.Share<=65536*17179869184*1000:=eA qz a.2 a.1 qz;have D:(K4 r t s).sums x.Bond.toNat=s.Sums x.Bond.toNat:=rfl;have E:(K4 r t s).rules.Share=r.Share:=rfl;have F:(K4 r t s).book.Bonds x.Bond.toNat=Zp s x:=rfl;have f:=It (x:=x) v h y z (u:={UR s x 0 with Sums:=ZK s.Sums x.Bond.toNat 0}) (.inl Va) g (was:=Zp s x) (is:=x.Amount) (allowed:=s.Sums x.Bond.toNat*r.Share / 3650000) C A qz rfl rfl rfl rfl;unfold Ya Xu;rw[j.o];simp only[K1,SD g,So,QQ,D,E,F,lL];rw[Qi (n:=s.Sums x.Bond.toNat*r.Share) qz qz,mZ c,Qi (n:=s.Sums x.Bond.toNat*r.Share / 3650000) qz qz];refine⟨_,_,_,ZQ f rfl,?_,j.m,j.k⟩
 have G:ZK (ZK s.B.Bonds x.Bond.toNat 0) x.Bond.toNat (ZK s.B.Bonds x.Bond.toNat 0 x.Bond.toNat+x.Amount)=ZK s.B.Bonds x.Bond.toNat x.Amount:=by
  funext i;by_cases e:i=x.Bond.toNat
  ·subst e;rw[Va,Va,Va];omega
  ·rw[Uo e,Uo e,Uo e]
 unfold RB;rw[b];simp only[UR,G]
theorem vw(h:Hw r n t s)(q:n<=4096)(b:PR r t s A1 A2 A3)(he:Xb x=true)(k:x.Kind=6):Xu r t (qD s x) (VF A1 A2 A3 (some 0) x):=by
 have u:=ub he k;have v:=h.lim;have e:=h.pos;have f:=h.due;have g:(K4 r t s).book.Due=s.B.Due:=rfl;have j:(K4 r t s).book.Paid=s.B.Paid:=rfl;unfold VF qD Xu;rw[b.o];simp only[K1,So,QQ,g,j];rw[Qi (n:=s.B.Due - s.B.Paid) qz qz];by_cases a:x.Amount > s.B.Due - s.B.Paid
 ·have c:decide (x.Amount<=s.B.Due - s.B.Paid)=false:=by simp;omega
  rw[c,Bm a,U7<|PT 11]
 ·have c:decide (x.Amount<=s.B.Due - s.B.Paid)=true:=by simp;omega
  rw[c,B2 a,WJ<|C8 11,Qi (n:=s.B.Paid+x.Amount) qz qz];exact⟨_,_,_,rfl,rfl,b.m,b.k⟩
end
section
open Go.Dec
variable{l:Q0 (Int×QF)}
variable{r:Gy}{n:Nat}{t d day:Int}{s u:Acc}{x:Ev}{p:QF}{A1:Q0 QD}{A2:PM}{A3:KM}
def GY(r:Gy)(d:Int)(s:Acc):Acc:={s with B:=(Uw r 0 d s).B}
structure fh(r:Gy)(u:Acc):Prop where
 sorted:u.B.Moving.Pairwise (λp q=>p.Id < q.Id)
 mov:∀p∈u.B.Moving,(1<=p.Amount/\p.Amount<=17179869184)/\0<=p.Sent/\p.Sent<=65536
 used:0<=u.B.Used/\u.B.Used+YS QF.Amount u.B.Moving<=4611686018427387904
 due:0<=u.B.Due/\u.B.Due+1049*YS QF.Amount u.B.Moving<=4611686018427387904
theorem Hw.mV(h:Hw r n t s)(b:n<=4096)(c:t<=65536):fh r s where
 sorted:=h.sorted
 mov:=λp a=>⟨(h.mov p a).amount,(h.mov p a).sent.1,by have:=(h.mov p a).sent.2;omega⟩
 used:=by have:=h.lim;have:=h.pos;omega
 due:=by have:=h.lim;have:=h.pos;have:=h.due;omega
theorem uL(a:VL r)(h:0<=p.Sent/\p.Sent<=65536):Qz (Qz (p.Sent+r.Transit)+1)=ZM r p:=by
 have:=a.transit;rw[Qi (n:=p.Sent+r.Transit) qz qz,Qi qz qz];rfl
theorem Pb(a:VL r)(h:0<=p.Sent/\p.Sent<=65536):Ye [K4 r t u] (some 0) p=some (ZM r p):=by
 unfold Ye;simp only[K1,So,K4];rw[uL a h]
def Xp(r:Gy)(day:Int)(D:Q0 (Int×Bool))(l:Q0 (Int×QF)):Q0 (Int×Bool):=l.foldl (λD e=>if ZM r e.2<=day then Q4 D (ZM r e.2) true else D) D
theorem mem_set{D:Q0 (Int×Bool)}{k:Int}(a:(D.map Prod.fst).Nodup)(b:∀y∈D,y.2=true)(y:Int×Bool):y∈Q4 D k true↔y=(k,true)∨y∈D:=by
 rw[(Jr a).mem_iff,Tc,s6];constructor
 ·rintro(h | ⟨h,_⟩)
  ·exact .inl h
  ·exact .inr h
 ·rintro(h | h)
  ·exact .inl h
  ·by_cases e:k=y.1
   ·left;have:=b y h;rw[e,<-this]
   ·exact .inr ⟨h,by simpa using e⟩
theorem H5:∀{l:Q0 (Int×QF)} {D:Q0 (Int×Bool)},(D.map Prod.fst).Nodup->(∀y∈D,y.2=true)->
  ((Xp r day D l).map Prod.fst).Nodup/\(Xp r day D l).length<=D.length+l.length/\∀y,y∈Xp r day D l↔y∈D∨∃e∈l,ZM r e.2<=day/\y=(ZM r e.2,true)
 | [],D,a,b=>⟨a,by simp[Xp],λy=>by simp[Xp]⟩
 | e::l,D,a,b=>by
  unfold Xp;rw[eH];by_cases c:ZM r e.2<=day
  ·rw[Bm c]
   have g:∀y∈Q4 D (ZM r e.2) true,y.2=true:=λy i=>by
    rcases(mem_set a b y).1 i with rfl | i
    ·rfl
    ·exact b y i
   have o:(Q4 D (ZM r e.2) true).length<=D.length+1:=by
    have:=(Jr (k:=ZM r e.2) (v:=true) a).length_eq;have f:=oC (λx:Int×Bool=> !(ZM r e.2==x.1)) D;simp only[kn] at this;omega
   obtain⟨j,f,m⟩:=H5 (l:=l) (JQ (k:=ZM r e.2) (v:=true) a) g;refine⟨j,by simp only[kn];unfold Xp at f;omega,λy=> ?_⟩;rw[show(List.foldl (λD e=>if ZM r e.2<=day then Q4 D (ZM r e.2) true else D) (Q4 D (ZM r e.2) true) l)=Xp r day (Q4 D (ZM r e.2) true) l from rfl,m,mem_set a b];simp only[Tc,exists_eq_or_imp];constructor
   ·rintro((h | h) | h)
    ·exact .inr<|.inl ⟨c,h⟩
    ·exact .inl h
    ·exact .inr<|.inr h
   ·rintro(h | (h | h))
    ·exact .inl<|.inr h
    ·exact .inl<|.inl h.2
    ·exact .inr h
  ·rw[B2 c];obtain⟨j,f,m⟩:=H5 (l:=l) a b;refine⟨j,by simp only[kn];unfold Xp at f;omega,λy=> ?_⟩;rw[show(List.foldl (λD e=>if ZM r e.2<=day then Q4 D (ZM r e.2) true else D) D l)=Xp r day D l from rfl,m];simp only[Tc,exists_eq_or_imp];constructor
   ·rintro(h | h)
    ·exact .inl h
    ·exact .inr<|.inr h
   ·rintro(h | (h | h))
    ·exact .inl h
    ·exact absurd h.1 c
    ·exact .inr h
theorem ya{l':Q0 (Int×QF)}(c:l'.Perm l):(Xp r day [] l').Perm (Xp r day [] l):=by
 have a:=H5 (r:=r) (day:=day) (l:=l') (D:=[]) zh zh;have b:=H5 (r:=r) (day:=day) (l:=l) (D:=[]) zh zh
 have nd:∀{L:Q0 (Int×Bool)},(L.map Prod.fst).Nodup->L.Nodup:=fun{L} h=>by
  rw[List.Nodup,oX] at h
  exact h.imp λh e=>h<|by rw[e]
 refine(iA (nd a.1)<|nd b.1).2 λy=> ?_;rw[a.2.2,b.2.2];constructor
 ·rintro(h | ⟨e,he,h⟩)
  ·exact .inl h
  ·exact .inr ⟨e,c.mem_iff.1 he,h⟩
 ·rintro(h | ⟨e,he,h⟩)
  ·exact .inl h
  ·exact .inr ⟨e,c.mem_iff.2 he,h⟩
theorem ve{α:Type}{A:Q0 α}{x y:α}:List.set (A++[x]) A.length y=A++[y]:=by simp
theorem Po(a:VL r):∀{l:Q0 (Int×QF)} {D:Q0 (Int×Bool)},(∀e∈l,0<=e.2.Sent/\e.2.Sent<=65536)->
  Y1 (KF [K4 r t u] A3 (some 0) day) l (A3++[D])=some (A3++[Xp r day D l])
 | [],D,_=>rfl
 | e::l,D,h=>by
  have he:=h e<|tO ..
  have step:KF [K4 r t u] A3 (some 0) day e (A3++[D])=some (A3++[if ZM r e.2<=day then Q4 D (ZM r e.2) true else D]):=by
   unfold KF;rw[Pb a he];simp only[K1];by_cases b:ZM r e.2<=day
   ·have c:(A3++[D])[A3.length]? =some D:=by simp
    simp only[b,r6,B3,c,K1,QQ,ve]
   ·simp only[b,n1,H1,By,K1]
  simp only[Y1,step,K1];exact Po a λq f=>h q<|IF _ f
theorem kR(f:VL r)(h:∀e∈l,0<=e.2.Sent/\e.2.Sent<=65536):CS PB (KF [K4 r t u] A3 (some 0) day) l (A3++[[]])=some (A3++[Xp r day [] l]):=by
 refine qC (Po f h) λl' c=>⟨_,Po f λe he=>h e<|c.mem_iff.1 he,by simp,λi x y a b=> ?_⟩;by_cases hi:i < A3.length
 ·rw[x4 hi] at a b
  rw[a] at b;simp only[UV] at b;subst b;exact .refl _
 ·rw[ta qz] at a b
  cases g:i - A3.length with
  | zero=>
   rw[g] at a b
   simp only[So,UV] at a b
   subst a;subst b;exact ya c
  | succ k=>rw[g] at a;simp at a
def gB(r:Gy)(day:Int)(l:Q0 (Int×QF)):Q0 Int:=((Xp r day [] l).map Prod.fst).mergeSort λa b=>decide<|a<=b
theorem yJ:(gB r day l).Pairwise (·< ·):=by
 have g:=(H5 (r:=r) (day:=day) (l:=l) (D:=[]) zh zh).1;have e:(gB r day l).Pairwise (λa b=>decide (a<=b)=true):=iL (λa b c e f=>by simp only[AT] at*;omega) (λa b=>by simp only[rm,AT];omega) _;have f:(gB r day l).Nodup:=(eV _ _).nodup_iff.2 g;exact(e.and f).imp λh=>by have:=h.1;have:=h.2;simp only[AT] at*;omega
theorem uN:d∈gB r day l↔d<=day/\∃e∈l,ZM r e.2=d:=by
 unfold gB;rw[(eV _ _).mem_iff,n2];have h:=(H5 (r:=r) (day:=day) (l:=l) (D:=[]) zh zh).2.2;constructor
 ·rintro⟨y,a,rfl⟩;rcases(h y).1 a with a | ⟨e,he,b,rfl⟩
  ·cases a
  ·exact⟨b,e,he,rfl⟩
 ·rintro⟨c,e,he,rfl⟩;exact⟨(ZM r e.2,true),(h _).2<|.inr ⟨e,he,c,rfl⟩,rfl⟩
theorem xI(g:VL r)(b:A1=[K4 r t u]){m:Q0 (Int×QF)}(c:A2=[m])(k:m.length<=4096)(hs:∀e∈m,0<=e.2.Sent/\e.2.Sent<=65536):Yp A1 A2 A3 (some 0) day=some ((A1,A2,A3++[Xp r day [] m]),gB r day m):=by
 subst b;subst c;have a:=H5 (r:=r) (day:=day) (l:=m) (D:=[]) zh zh;have o:=g.transit
 have i:V7 (A3++[Xp r day [] m]) (some A3.length)=some (gB r day m):=by
  have j:(A3++[Xp r day [] m])[A3.length]? =some (Xp r day [] m):=by simp
  simp only[V7,j,K1,Gn];rw[Bm]
  ·rfl
  ·refine⟨If.2 λy f=> ?_,by have:=a.2.1;simp at this;omega⟩;rcases(a.2.2 y).1 f with f | ⟨e,he,q,rfl⟩
   ·cases f
   ·have:=hs e he;simp only[AT];unfold ZM;omega
 unfold Yp;simp only[K1,So,K4];have h:=kR (t:=t) (u:=u) (A3:=A3) (day:=day) g hs;simp only[K4] at h
 rw[h];simp only[K1,i]
theorem fh.book(b:VL r)(h:fh r u):fh r (GY r d u) where
 sorted:=h.sorted.filter _
 mov:=λp a=>h.mov p (s6.1 a).1
 used:=by
  have e:=h.used;have g:=FQ (f:=QF.Amount) (c:=λp=>decide<|d < ZM r p) (l:=u.B.Moving);have i:0<=YS QF.Amount (u.B.Moving.filter λp=> !decide (d < ZM r p)):=FT λp a=>by have:=(h.mov p (s6.1 a).1).1.1;omega
  simp only[GY,Uw];omega
 due:=by
  have e:=h.due;have g:=FQ (f:=QF.Amount) (c:=λp=>decide<|d < ZM r p) (l:=u.B.Moving);have i:0<=YS (λp=>Ux r p.Amount<|ZM r p) (u.B.Moving.filter λp=> !decide (d < ZM r p)):=FT λp a=>by have:=(h.mov p (s6.1 a).1).1.1;exact(b.sq qz).1
  have j:YS (λp=>Ux r p.Amount<|ZM r p) (u.B.Moving.filter λp=> !decide (d < ZM r p))<=YS (λp=>1049*p.Amount) (u.B.Moving.filter λp=> !decide (d < ZM r p)):=OC λp a=>by have:=(h.mov p (s6.1 a).1).1.1;exact(b.sq qz).2
  rw[NU] at j
  simp only[GY,Uw];omega
theorem yo{a:Int}(h:a<=d):GY r d (GY r a s)=GY r d s:=by
 have e:=j6 (r:=r) (s:=s) (t:=0) (u:=a) (d:=d) h;have b:(Uw r 0 d<|GY r a s).B=(Uw r a d<|Uw r 0 a s).B:=rfl;unfold GY at b ⊢
 simp only[b,e]
theorem yn(h:∀p∈s.B.Moving,d < ZM r p):GY r d s=s:=by
 have b:s.B.Moving.filter (λp=>decide<|d < ZM r p)=s.B.Moving:=lH.2 λp a=>by simpa using h p a
 have c:s.B.Moving.filter (λp=> !decide (d < ZM r p))=[]:=eK.2 λp a=>by simpa using h p a
 simp only[GY,Uw,b,c,YS,oc]
theorem kC(h:∀p∈s.B.Moving,d<=ZM r p):Oj r d s [] s.B.Moving=GY r d s:=by
 have f:s.B.Moving.filter (λp=> !(ZM r p==d))=s.B.Moving.filter (λp=>decide<|d < ZM r p):=s5 λp a=>by
  have:=h p a;by_cases e:ZM r p=d
  ·simp[e]
  ·have b:d < ZM r p:=by omega
   simp[e,b]
 have b:s.B.Moving.filter (λp=>ZM r p==d)=s.B.Moving.filter (λp=> !decide (d < ZM r p)):=s5 λp a=>by
  have:=h p a;by_cases e:ZM r p=d
  ·simp[e]
  ·have b:d < ZM r p:=by omega
   simp[e,b]
 have g:YS (λp=>Ux r p.Amount d) (s.B.Moving.filter λp=> !decide (d < ZM r p))=YS (λp=>Ux r p.Amount<|ZM r p) (s.B.Moving.filter λp=> !decide (d < ZM r p)):=NV λp a=>by
  have c:=s6.1 a;have i:=h p c.1;have j:¬d < ZM r p:=by simpa using c.2
  have:ZM r p=d:=by omega
  rw[this]
 simp only[Oj,GY,Uw,me,f,b,g]
def NI(r:Gy)(d:Int)(u:Acc)(l:Q0 QF):Acc:={u with B:={u.B with Used:=u.B.Used+YS QF.Amount (l.filter λp=>ZM r p==d),Due:=u.B.Due+YS (λp=>Ux r p.Amount d) (l.filter λp=>ZM r p==d)}}
def SK(r:Gy)(d:Int)(M l:Q0 (Int×QF)):Q0 (Int×QF):=l.foldl (λM e=>if ZM r e.2==d then J4 M e.1 else M) M
theorem Pc(b:VL r)(i:0<=d):∀{l:Q0 (Int×QF)} {u:Acc} {M:Q0 (Int×QF)},(∀e∈l,(1<=e.2.Amount/\e.2.Amount<=17179869184)/\0<=e.2.Sent/\e.2.Sent<=65536)->
  0<=u.B.Used->u.B.Used+YS QF.Amount (l.map Prod.snd)<=4611686018427387904->0<=u.B.Due->u.B.Due+1049*YS QF.Amount (l.map Prod.snd)<=4611686018427387904->
  Y1 (KK (some 0) d 0 0) l ([K4 r t u],[M])=some ([K4 r t<|NI r d u<|l.map Prod.snd],[SK r d M l])
 | [],u,M,_,_,_,_,_=>by simp[Y1,NI,SK,YS]
 | e::l,u,M,h,o,v,w,z=>by
  have he:=h e<|tO ..
  have hs:=FT (f:=QF.Amount) (l:=l.map Prod.snd) λq c=>by
   obtain⟨y,A,rfl⟩:=n2.1 c;have:=(h y<|IF _ A).1.1;omega
  simp only[Of,YS] at v z
  have C:=b.sq (a:=e.2.Amount) (d:=d) qz;by_cases m:ZM r e.2=d
  ·have g:(ZM r e.2==d)=true:=by simpa using m
   have step:KK (some 0) d 0 0 e ([K4 r t u],[M])=some ([K4 r t<|M5 r e.2.Amount d u],[J4 M e.1]):=by
    unfold KK;simp only[];rw[Pb b he.2];have j:(K4 r t u).moving=some 0:=rfl;simp only[K1,g,B3,So,j,di,QQ,lL];rw[Ib b qz i qz qz];rfl
   simp only[Y1,step,K1];have k:=Pc b i (l:=l) (u:=M5 r e.2.Amount d u) (M:=J4 M e.1) (λq c=>h q<|IF _ c) (by show 0<=u.B.Used+e.2.Amount;omega) (by show u.B.Used+e.2.Amount+_<=_;omega) (by show 0<=u.B.Due+Ux r e.2.Amount d;omega) (by show u.B.Due+Ux r e.2.Amount d+_<=_;omega);rw[k];simp only[NI,M5,SK,Of,mY,g,B3,YS,eH,iI]
  ·have g:(ZM r e.2==d)=false:=by simpa using m
   have step:KK (some 0) d 0 0 e ([K4 r t u],[M])=some ([K4 r t u],[M]):=by
    unfold KK;simp only[];rw[Pb b he.2];simp only[K1,g,H1,By]
   simp only[Y1,step,K1];have k:=Pc b i (l:=l) (u:=u) (M:=M) (λq c=>h q<|IF _ c) o qz w qz;rw[k];simp only[NI,SK,Of,mY,g,H1,By,eH]
theorem Dj:∀{l M:Q0 (Int×QF)},(M.map Prod.fst).Nodup->SK r d M l=M.filter (λe=> !(l.any λy=>ZM r y.2==d&&y.1==e.1))
 | [],M,_=>by
  have:M.filter (λe=> !(([]:Q0 (Int×QF)).any λy=>ZM r y.2==d&&y.1==e.1))=M:=lH.2 λ_ _=>rfl;rw[this];rfl
 | y::l,M,b=>by
  unfold SK;rw[eH];by_cases a:(ZM r y.2==d)=true
  ·rw[Bm a];have:=Dj (l:=l) (M:=J4 M y.1)<|Bl b;unfold SK at this
   rw[this,XD b,lS];refine s5 λe _=> ?_;simp only[iH,a,rW,ia,iJ]
  ·simp only[hH] at a
   rw[B2<|by simp[a]];have:=Dj (l:=l) (M:=M) b;unfold SK at this
   rw[this];refine s5 λe _=> ?_;simp only[iH,a,eB,mv]
theorem uM(o:VL r)(q:0<=d)(h:fh r u){m:Q0 (Int×QF)}(j:m.Perm (u.B.Moving.map Fk)):C5 (KK (some 0) d 0 0) m ([K4 r t u],[m])=some ([K4 r t<|Oj r d u [] u.B.Moving],[m.filter λe=> !(ZM r e.2==d)]):=by
 have k:(m.map Prod.fst).Nodup:=(j.map Prod.fst).nodup_iff.2<|Fj h.sorted;refine qB λl' b=> ?_
 have a:(l'.map Prod.snd).Perm u.B.Moving:=by
  have c:=(b.trans j).map Prod.snd;have i:(u.B.Moving.map Fk).map Prod.snd=u.B.Moving:=by rw[lY];exact iY _
  rwa[i] at c
 have hs:=D1 (f:=QF.Amount) a;have g:∀e∈l',(1<=e.2.Amount/\e.2.Amount<=17179869184)/\0<=e.2.Sent/\e.2.Sent<=65536:=λe he=>h.mov e.2<|a.mem_iff.1<|kx he;rw[Pc o q g h.used.1 (by rw[hs];exact h.used.2) h.due.1 (by rw[hs];exact h.due.2),Dj k]
 have v:m.filter (λe=> !(l'.any λy=>ZM r y.2==d&&y.1==e.1))=m.filter (λe=> !(ZM r e.2==d)):=s5 λe he=>by
  congr 1;rw[lr,aT];simp only[BY,mb];constructor
  ·rintro⟨y,w,c,i⟩;have:=MP k (b.mem_iff.1 w) he i;rw[<-this];exact c
  ·intro c;exact⟨e,b.mem_iff.2 he,c,rfl⟩
 rw[v];have z:YS QF.Amount ((l'.map Prod.snd).filter λp=>ZM r p==d)=YS QF.Amount (u.B.Moving.filter λp=>ZM r p==d):=D1<|a.filter _;have A:YS (λp=>Ux r p.Amount d) ((l'.map Prod.snd).filter λp=>ZM r p==d)=YS (λp=>Ux r p.Amount d) (u.B.Moving.filter λp=>ZM r p==d):=D1<|a.filter _;simp only[NI,Oj,K4,z,A]
theorem MO(v:VL r)(D:0<=day){R:KM}:∀{ks:Q0 Int} {u:Acc} {m:Q0 (Int×QF)},ks.Pairwise (·< ·)->(∀d∈ks,0<=d/\d<=day)->fh r u->(∀p∈u.B.Moving,ZM r p<=day->ZM r p∈ks)->m.Perm (u.B.Moving.map Fk)->
  ∃j,Y1 (Y7<|some 0) ks ([K4 r t u],[m],R)=some ([K4 r t<|GY r day u],[j],R)/\j.Perm ((GY r day u).B.Moving.map Fk)
 | [],u,m,_,_,h,k,o=>by
  have e:=yn (r:=r) (d:=day) (s:=u) λp a=>by
   have:=k p a;simp only[eP,imp_false] at this;omega
  rw[e];exact⟨m,rfl,o⟩
 | d::ks,u,m,hs,z,h,k,o=>by
  have b:=j3.1 hs;have c:=z d<|tO ..
  have f:∀p∈u.B.Moving,d<=ZM r p:=λp a=>by
   by_cases E:ZM r p<=day
   ·rcases Tc.1 (k p a E) with e | e
    ·omega
    ·have:=b.1 _ e;omega
   ·omega
  have g:=uM (t:=t) v c.1 h o;rw[kC f] at g
  have w:(K4 r t u).moving=some 0:=rfl
  have step:Y7 (some 0) d ([K4 r t u],[m],R)=some ([K4 r t<|GY r d u],[m.filter λe=> !(ZM r e.2==d)],R):=by
   unfold Y7;simp only[K1,So,w,g]
  have y:(m.filter λe=> !(ZM r e.2==d)).Perm ((GY r d u).B.Moving.map Fk):=by
   refine(o.filter _).trans<|.of_eq ?_;rw[o6];show(u.B.Moving.filter λp=> !(ZM r p==d)).map Fk=(u.B.Moving.filter λp=>decide<|d < ZM r p).map Fk;congr 1;refine s5 λp a=> ?_;have:=f p a;by_cases e:ZM r p=d
   ·simp[e]
   ·have F:d < ZM r p:=by omega
    simp[e,F]
  obtain⟨j,A,C⟩:=MO v D (R:=R) b.2 (λq G=>z q<|IF _ G) (h.book v (d:=d)) (λp a H=>by
   have i:=s6.1 a;rcases Tc.1 (k p i.1 H) with e | e
   ·have:=i.2;simp only[AT] at this;omega
   ·exact e) y
  rw[yo c.2] at A C
  exact⟨j,by simp only[Y1,step,K1];exact A,C⟩
theorem jl(h:Hw r n t s)(o:t<=day)(D:0<=t)(E:day<=65536)(w:u.B.Bonds=s.B.Bonds)(g:u.Sums=s.Sums):ZT (JB day 0<|K4 r t u) (0,[K4 r t u])=some [K4 r t {u with Sums:=λi=>if i < 16 then s.Sums i+s.B.Bonds i*(day - t) else s.Sums i}]:=by
 obtain⟨f,b,a⟩:=H3 (body:=JB day 0<|K4 r t u) (λi (f:Nat->Int)=>((i:Int),[K4 r t {u with Sums:=f}])) (λf=>[K4 r t {u with Sums:=f}]) (λi f=>f=λk=>if k < i then s.Sums k+s.B.Bonds k*(day - t) else s.Sums k) 16
  (λi f hi b=>by
   have e:VM 16 ((i:Nat):Int)=some i:=GN hi;have F:=h.sums i hi;have q:=h.bonds i hi;have j:f i=s.Sums i:=by rw[b];simp
   have y:0<=s.B.Bonds i*(day - t):=r7 q.1 qz;have z:s.B.Bonds i*(day - t)<=17179869184*(day - t):=eQ q.2 qz;have A:(K4 r t u).book.Bonds i=s.B.Bonds i:=by show u.B.Bonds i=_;rw[w]
   have C:(K4 r t {u with Sums:=f}).day=t:=rfl;have es:(K4 r t {u with Sums:=f}).sums i=s.Sums i:=j;refine⟨ZK f i<|s.Sums i+s.B.Bonds i*(day - t),?_,?_⟩
   ·unfold JB;rw[Bm zg];simp only[e,K1,QQ,A,So,C,es,lL,TT (by omega:i<=4294967296)];rw[Qi (n:=day - t) qz qz,Qi (n:=s.B.Bonds i*(day - t)) qz qz,Qi (n:=s.Sums i+s.B.Bonds i*(day - t)) qz qz];rfl
   ·funext k;by_cases v:k=i
    ·subst v;rw[Va,Bm qz]
    ·rw[Uo v,b];by_cases c:k < i
     ·simp only[c,B3];rw[Bm qz]
     ·simp only[c,By];rw[B2 qz])
  (λf b=>by unfold JB;rw[B2 zh]) 16 0 u.Sums rfl (by rw[g];funext k;simp)
 have m:ZT (JB day 0<|K4 r t u) (0,[K4 r t u])=some [K4 r t {u with Sums:=f}]:=a;rw[m,b]
theorem EJ(j:VL r)(h:Hw r n t s)(G:n<=4096)(H:0<=t)(f:t<=day)(v:day<=65536)(c:PR r t s A1 A2 A3):∃g i A3',Yd A1 A2 A3 (some 0) day=some (g,i,A3')/\PR r day (Uw r t day s) g i A3' :=by
 obtain⟨m,E,a⟩:=c.m;obtain⟨I,rest,K,w,y⟩:=c.k;have z:=h.mV G qz
 have b:∀e∈m,e.2∈s.B.Moving:=λe he=>by
  obtain⟨q,L,rfl⟩:=n2.1<|a.mem_iff.1 he;exact L
 have M:=xI (A3:=A3) (day:=day) j c.o E (by have:=a.length_eq;have:=h.mlen;simp at*;omega) λe he=>(z.mov e.2<|b e he).2
 obtain⟨F,A,C⟩:=MO (t:=t) j (by omega:0<=day) (R:=A3++[Xp r day [] m]) (ks:=gB r day m) (u:=s) (m:=m) yJ (λd v=>by
   obtain⟨Q,e,he,N⟩:=uN.1 v;have:=(z.mov e.2<|b e he).2;have:=j.transit;unfold ZM at N;omega) z (λp c P=>uN.2 ⟨P,Fk p,a.mem_iff.2<|kx c,rfl⟩) a
 have D:=jl h f H v (u:=GY r day s) rfl rfl;unfold Yd;rw[K1];refine⟨[K4 r day<|Uw r t day s],[F],A3++[Xp r day [] m],ZQ M (ZQ (by rw[c.o,E];exact A) ?_),rfl,⟨F,rfl,C⟩,⟨I,rest++[Xp r day [] m],by rw[K];rfl,w,y⟩⟩;simp only[K1,So];refine ZQ D ?_;simp only[K1,So,QQ,lL];rfl
end
section
open Go.Dec
variable{r:Gy}{n:Nat}{t d:Int}{s s' :Acc}{x:Ev}{p:QF}
abbrev bg:Bk:=Q3.mk (λ_=>0) ([]) 0 0 0 0 0 0 0 0
def xA:(Acc ⊕ Int)×Nat->Bk×Int×Int
 | (.inl a,k)=>(a.B,(k:Int),0)
 | (.inr e,k)=>(bg,(k:Int),e)
theorem gx{e:Int}(h:DB r s x= .inr e):e=4∨e=5∨e=10∨e=11∨e=12:=by
 unfold DB DX RF FZ GH S9 qD at h
 repeat' split at h
 all_goals first | (cases h;done) | (simp only[ma] at h;subst h;simp)
theorem vc{c:DL}{e:Int}(h:VI r c x= .inr e):e=1∨e=7∨e=4∨e=5∨e=10∨e=11∨e=12:=by
 unfold VI at h
 split at h
 ·simp only[ma] at h;omega
 ·split at h
  ·simp only[ma] at h;omega
  ·split at h
   ·cases h
   ·rename_i a he;simp only[ma] at h
    subst h;have:=gx he;omega
theorem Ef(f:VL r){day:Int}:∀{l:Q0 Ev} {n:Nat} {c c' :DL} {k:Nat},Hw r n c.day c.acc->0<=c.day->c.day<=day->HV r day l n c=(.inl c',k)->Hw r k c'.day c'.acc/\0<=c'.day/\c'.day<=day/\n<=k/\k<=n+l.length
 | [],n,c,c',k,h,b,e,a=>by
  simp only[HV,L4,hJ] at a
  obtain⟨rfl,rfl⟩:=a;exact⟨h,b,e,S2 _,by simp⟩
 | x::l,n,c,c',k,h,b,e,a=>by
  rw[HV] at a
  split at a
  ·rename_i o;split at a
   ·rename_i q hs;obtain⟨g,u,v,_⟩:=TV f h b hs;obtain⟨i,j,m,w,y⟩:=Ef f g qz qz a;exact⟨i,j,m,by omega,by simp only[kn];omega⟩
   ·simp only[L4,reduceCtorEq,false_and] at a
  ·simp only[L4,hJ] at a
   obtain⟨rfl,rfl⟩:=a;exact⟨h,b,e,S2 _,by simp⟩
def OY:(DL ⊕ Int)×Nat->(Int×Int×Acc) ⊕ (Bk×Int×Int)
 | (.inl c,k)=>.inl (c.day,(k:Int),c.acc)
 | (.inr e,k)=>.inr (bg,(k:Int),e)
end
section
open Go.Dec
variable{l:Q0 Ev}
variable{r:Gy}{n:Nat}{t d day:Int}{s:Acc}{x:Ev}{p:QF}{A1:Q0 QD}{A2:PM}{A3:KM}
abbrev Deed:=(Q0 QD×PM×KM×Ev)->Q2 dU
theorem A7:∃D:Nat->Deed,Uq (some 0)=some D/\∀(x:Ev),Xb x=true->∃j,VM 7 x.Kind=some j/\
  ∀{r:Gy} {n:Nat} {t:Int} {s:Acc} {A1:Q0 QD} {A2:PM} {A3:KM},VL r->Hw r n t s->n<=4096->0<=t->t<=65536->PR r t s A1 A2 A3->x.Day=t->Xu r t (DB r s x) (D j (A1,A2,A3,x)):=by
 refine⟨_,rfl,λx he=> ?_⟩;have i:∀{k:Nat},k < 7->x.Kind=(k:Int)->VM 7 x.Kind=some k:=λo e=>by rw[e];exact GN o
 rcases qg he with k | k | k | k | k | k | k
 ·refine⟨0,i qz k,λf h c g m b a=> ?_⟩;have:=qo h c b he k;unfold DB;rw[k];exact this
 ·refine⟨1,i qz k,λf h c g m b a=> ?_⟩;have:=jr h b he k;unfold DB;rw[k];exact this
 ·refine⟨2,i qz k,λf h c g m b a=> ?_⟩;have:=OP f h c g b he k a;unfold DB;rw[k];exact this
 ·refine⟨3,i qz k,λf h c g m b a=> ?_⟩;have:=OO f h c b he k;unfold DB;rw[k];exact this
 ·refine⟨4,i qz k,λf h c g m b a=> ?_⟩;have:=qf h c b he k;unfold DB;rw[k];exact this
 ·refine⟨5,i qz k,λf h c g m b a=> ?_⟩;have:=jk f h c g m b he k a;unfold DB;rw[k];exact this
 ·refine⟨6,i qz k,λf h c g m b a=> ?_⟩;have:=vw h c b he k;unfold DB;rw[k];exact this
def dW(r:Gy)(out:(DL ⊕ Int)×Nat)(q:Q2 ((Int×Q0 QD×PM×KM) ⊕ (Zt×Int×Int×Q2 Nat))):Prop:=match out with
 | (.inl c,k)=>∃A1 A2 A3,q=some (.inl ((k:Int),A1,A2,A3))/\PR r c.day c.acc A1 A2 A3
 | (.inr e,k)=>q=some (.inr (⟨e⟩,(k:Int),0,some 0))
theorem Nw(u:VL r)(N:day<=65536)(P:l.length<=4096){D:Nat->Deed}(K:∀(x:Ev),Xb x=true->∃j,VM 7 x.Kind=some j/\
  ∀{r:Gy} {n:Nat} {t:Int} {s:Acc} {A1:Q0 QD} {A2:PM} {A3:KM},VL r->Hw r n t s->n<=4096->0<=t->t<=65536->PR r t s A1 A2 A3->x.Day=t->Xu r t (DB r s x) (D j (A1,A2,A3,x)))
  {r33:Q2 Nat×Q0 QD×PM×KM} (i:r33.1=some 0):∀(post:Q0 Ev) (n:Nat) (c:DL) (A1:Q0 QD) (A2:PM) (A3:KM),l.drop n=post->n<=l.length->Hw r n c.day c.acc->0<=c.day->c.day<=day->PR r c.day c.acc A1 A2 A3->
  dW r (HV r day post n c) (ZT (KA l day r33 D) ((n:Int),A1,A2,A3))
 | [],n,c,A1,A2,A3,q,Q,h,B,R,v=>by
  have e:n=l.length:=by have:=List.drop_eq_nil_iff.1 q;omega
  have:KA l day r33 D ((n:Int),A1,A2,A3)=some (.done<|.inl ((n:Int),A1,A2,A3)):=by
   unfold KA;rw[B2<|by simp[e]];rfl
  rw[ZJ,this];exact⟨A1,A2,A3,rfl,v⟩
 | x::post,n,c,A1,A2,A3,q,Q,h,B,R,v=>by
  have C:n < l.length:=by
   rcases qs n l.length with h | h
   ·exact h
   ·rw[j0 h] at q;cases q
  have y:l[n]? =some x:=by rw[<-o3,q];rfl
  have E:l.drop (n+1)=post:=by rw[<-List.tail_drop,q];rfl
  have L:(A1[0]?)=some (K4 r c.day c.acc):=by rw[v.o];rfl
  have M:(K4 r c.day c.acc).day=c.day:=rfl;rw[HV];by_cases b:x.Day<=day
  ·rw[Bm b];by_cases he:Xb x=true
   ·by_cases k:x.Day < c.day
    ·have:KA l day r33 D ((n:Int),A1,A2,A3)=some (.done<|.inr (⟨7⟩,(n:Int),0,some 0)):=by
      unfold KA;rw[Bm zg];simp only[Zy,y,K1,b,r6,B3,Bs,he];rw[WJ<|C8 1,i];have F:decide (x.Day≥c.day)=false:=by simp;omega
      simp only[K1,L,M,F];rw[U7<|PT 7]
     have hs:VI r c x= .inr 7:=by unfold VI;simp only[he,RK,H1,By,k,B3]
     rw[ZJ,this,hs];rfl
    ·obtain⟨S,T,V,m,G⟩:=EJ u h qz B (show c.day<=x.Day by omega) qz v;obtain⟨j,W,f⟩:=K x he;have H:=OW u h (show c.day<=x.Day by omega);have f:=f u H qz qz qz G rfl
     have z:KA l day r33 D ((n:Int),A1,A2,A3)=Qw (D j (S,T,V,x)) (λw=>some<|.done<|.inr (w,(n:Int),0,some 0)) λg=>some (.next (((n+1:Nat):Int),g.1,g.2.1,g.2.2)):=by
      unfold KA;rw[Bm zg];simp only[Zy,y,K1,b,r6,B3,Bs,he];rw[WJ<|C8 1,i];have F:decide (x.Day≥c.day)=true:=by simp;omega
      simp only[K1,L,M,F];rw[WJ<|C8 7,m];simp only[K1,W,QQ,TT (by omega:n<=4294967296)]
     have hs:VI r c x=match DB r (Uw r c.day x.Day c.acc) x with | .inl a=>.inl ⟨a,x.Day⟩ | .inr e=>.inr e:=by unfold VI;simp only[he,RK,H1,By,k]<;>rfl
     unfold Xu at f
     cases A:DB r (Uw r c.day x.Day c.acc) x with
     | inl a=>
      rw[A] at f
      obtain⟨X,Y,Z,hC,I⟩:=f;rw[WJ hC] at z
      rw[A] at hs
      have hs:VI r c x= .inl ⟨a,x.Day⟩:=hs;obtain⟨g1,g2,g3,_⟩:=TV u h B hs;rw[ZJ,z,hs];exact Nw u N P K i post (n+1) ⟨a,x.Day⟩ X Y Z E C g1 qz b I
     | inr e=>
      rw[A] at f
      rw[U7 f] at z
      rw[A] at hs
      have hs:VI r c x= .inr e:=hs;rw[ZJ,z,hs];rfl
   ·simp only[hH] at he
    have:KA l day r33 D ((n:Int),A1,A2,A3)=some (.done<|.inr (⟨1⟩,(n:Int),0,some 0)):=by
     unfold KA;rw[Bm zg];simp only[Zy,y,K1,b,r6,B3,Bs,he];rw[U7<|PT 1,i]
    have hs:VI r c x= .inr 1:=by unfold VI;simp only[he,u0,B3]
    rw[ZJ,this,hs];rfl
  ·have:KA l day r33 D ((n:Int),A1,A2,A3)=some (.done<|.inl ((n:Int),A1,A2,A3)):=by
    unfold KA;rw[Bm zg];simp only[Zy,y,K1,b,n1,H1,By]
   rw[ZJ,this,B2 b];exact⟨A1,A2,A3,rfl,v⟩
def IQ(r:Gy)(day:Int)(out:(Acc ⊕ Int)×Nat)(q:Q2 (Q2 Nat×Int×Int×Q0 QD×PM×KM)):Prop:=match out with
 | (.inl a,k)=>∃A1 A2 A3,q=some (some 0,(k:Int),0,A1,A2,A3)/\PR r day a A1 A2 A3
 | (.inr e,k)=>q=some (none,(k:Int),e,[],[],[])
theorem br(r:Gy):PR r 0 Ct [K4 r 0 Ct] [[]] [[]]:=⟨rfl,⟨[],rfl,by simp[Ct]⟩,⟨[],[],rfl,by simp,λi=>by simp[Qb,Ct]⟩⟩
theorem H0(h:r.Rates.length<=1000000)(_:l.length<=4096∨4096 < l.length):IQ r day (JZ r l day) (XE r l day):=by
 unfold XE JZ;rw[Af h,K1];by_cases f:XJ r=true
 ·simp only[f,RK,H1,By];by_cases w:l.length > 4096
  ·have i:decide ((l.length:Int) > 4096)=true:=by simp;omega
   rw[Bm w,Bm i];rfl
  ·have i:¬decide ((l.length:Int) > 4096)=true:=by simp;omega
   rw[B2 w,B2 i];by_cases g:Wa day 0 65536=true
   ·simp only[Pj,g,RK,H1,By];have j:=PJ.1 f;have y:=Jf.1 g;obtain⟨D,A,m⟩:=A7;have o:Wp [] [] [] r=some (some 0,[K4 r 0 Ct],[[]],[[]]):=rfl;have a:=Nw j y.2 (by omega:l.length<=4096) m (r33:=(some 0,[K4 r 0 Ct],[[]],[[]])) rfl l 0 A8 _ _ _ (eb ..) (ei _) (IG r) (by simp[A8]) (by simp[A8];omega)<|br r;rw[o,K1,A,K1];unfold dW at a
    unfold AD;cases z:HV r day l 0 A8 with
    | mk q k=>
     rw[z] at a
     cases q with
     | inr e=>
      have a:ZT (KA l day (some 0,[K4 r 0 Ct],[[]],[[]]) D) (0,[K4 r 0 Ct],[[]],[[]])=_:=a;rw[a];rfl
     | inl c=>
      obtain⟨A1,A2,A3,u,B⟩:=a;have u:ZT (KA l day (some 0,[K4 r 0 Ct],[[]],[[]]) D) (0,[K4 r 0 Ct],[[]],[[]])=_:=u;obtain⟨C,E,F,K,L⟩:=Ef j (IG r) (by simp[A8]) (by simp[A8];omega) z;obtain⟨G,H,I,b,v⟩:=EJ j C qz E F y.2 B;rw[u,K1];exact⟨G,H,I,ZQ b rfl,v⟩
   ·simp only[hH] at g
    simp only[Pj,g,u0,B3];rfl
 ·simp only[hH] at f
  simp only[f,u0,B3];rfl
theorem Fc{a:Acc}{k:Nat}(h:JZ r l day=(.inl a,k)):VL r/\Hw r k day a/\(0<=day/\day<=65536)/\k<=l.length:=by
 unfold JZ at h
 split at h
 ·simp at h
 ·rename_i e;split at h
  ·simp at h
  ·split at h
   ·simp at h
   ·rename_i f;have b:=PJ.1 (by simpa using e:XJ r=true);have g:=Jf.1 (by simpa using f:Wa day 0 65536=true);unfold AD at h
    split at h
    ·rename_i c o i;simp only[L4,hJ] at h
     obtain⟨rfl,rfl⟩:=h;obtain⟨j,q,m,u,v⟩:=Ef b (IG r) (by simp[A8]) (by simp[A8];omega) i;exact⟨b,OW b j m,g,by omega⟩
    ·simp at h
theorem uU:∀{n:Nat} {c:DL} {e:Int} {k:Nat},HV r day l n c=(.inr e,k)->(e=1∨e=7∨e=4∨e=5∨e=10∨e=11∨e=12)/\n<=k/\k < n+l.length:=by
 induction l with
 | nil=>intro n c e k h;simp[HV] at h
 | cons x l a=>
  intro n c e k h;rw[HV] at h
  split at h
  ·split at h
   ·have:=a h;simp only[kn];exact⟨this.1,by omega,by omega⟩
   ·rename_i b hs;simp only[L4,ma] at h
    obtain⟨rfl,rfl⟩:=h;simp only[kn];exact⟨vc hs,by omega,by omega⟩
  ·simp at h
theorem BA{e:Int}{k:Nat}(h:JZ r l day=(.inr e,k)):e≠0:=by
 unfold JZ at h
 split at h
 ·simp at h;omega
 ·split at h
  ·simp at h;omega
  ·split at h
   ·simp at h;omega
   ·unfold AD at h
    split at h
    ·simp at h
    ·rename_i b c a;simp only[L4,ma] at h
     obtain⟨rfl,rfl⟩:=h;have:=uU a;omega
end
section
open Go.Dec
variable{l:Q0 QF}
variable{r:Gy}{n:Nat}{t d day:Int}{s a:Acc}{x:Ev}{p:QF}{l:Q0 Ev}
theorem Bi:∀{a b:Q0 Int},a.Pairwise (·< ·)->b.Pairwise (·< ·)->(∀x,x∈a↔x∈b)->a=b
 | [],[],_,_,_=>rfl
 | [],y::b,_,_,h=>by have:=(h y).2 zh;simp at this
 | x::a,[],_,_,h=>by have:=(h x).1 zh;simp at this
 | x::a,y::b,m,o,h=>by
  have c:=j3.1 m;have f:=j3.1 o
  have i:x=y:=by
   have j:=(h x).1 zh;have k:=(h y).2 zh;rcases Tc.1 j with e | j
   ·exact e
   ·rcases Tc.1 k with e | k
    ·exact e.symm
    ·have:=f.1 x j;have:=c.1 y k;omega
  subst i;congr 1;refine Bi c.2 f.2 λz=> ?_;constructor
  ·intro g;have:=(h z).1<|IF _ g;rcases Tc.1 this with rfl | this
   ·have:=c.1 z g;omega
   ·exact this
  ·intro g;have:=(h z).2<|IF _ g;rcases Tc.1 this with rfl | this
   ·have:=f.1 z g;omega
   ·exact this
theorem qY{l:Q0 QF}(h:l.Pairwise (λp q=>p.Id < q.Id)):(l.map QF.Id).Pairwise (·< ·):=oX.2 h
theorem uP{m:Q0 (Int×QF)}{l:Q0 QF}(hs:l.Pairwise (λp q=>p.Id < q.Id))(f:m.Perm (l.map Fk))(u:∀p∈l,0<=p.Id/\p.Id<=1073741824)(z:l.length<=1000000):Gn m=some (l.map QF.Id):=by
 have g:(m.map Prod.fst).Perm (l.map QF.Id):=by
  have:=f.map Prod.fst;have e:(l.map Fk).map Prod.fst=l.map QF.Id:=by rw[lY];rfl
  rwa[e] at this
 unfold Gn;rw[Bm]
 ·congr 1;have j:((m.map Prod.fst).mergeSort λa b=>decide<|a<=b).Pairwise (λa b=>decide (a<=b)=true):=iL (λa b c j k=>by simp only[AT] at*;omega) (λa b=>by simp only[rm,AT];omega) _;have o:=(eV (m.map Prod.fst) λa b=>decide<|a<=b).trans g;have i:(l.map QF.Id).Nodup:=(qY hs).imp λh=>iS h;have k:((m.map Prod.fst).mergeSort λa b=>decide<|a<=b).Nodup:=o.nodup_iff.2 i;exact Bi ((j.and k).imp λh=>by have:=h.1;have:=h.2;simp only[AT] at*;omega) (qY hs) λx=>o.mem_iff
 ·refine⟨If.2 λy v=> ?_,by have:=f.length_eq;simp at this;omega⟩;obtain⟨q,w,rfl⟩:=n2.1<|f.mem_iff.1 v;have:=u q w;exact hR<|show -9223372036854775808<=q.Id/\q.Id<=9223372036854775807 by omega
theorem uY{l:Q0 QF}(hs:l.Pairwise (λp q=>p.Id < q.Id))(b:p∈l):l.find? (λq=>q.Id==p.Id)=some p:=by
 cases h:l.find? (λq=>q.Id==p.Id) with
 | none=>have:=List.find?_eq_none.1 h p b;simp at this
 | some q=>
  have c:=mq h;have e:q.Id=p.Id:=by simpa using List.find?_some h
  rw[xN hs c b e]
theorem vA{amount:Int}(e:r.Rates.length<=1000000):X0 r amount day=some (if !XJ r then(0,1) else if !Wa amount 0 17179869184|| !Wa day 0 65536 then(0,2) else(Ux r amount day,0)):=by
 unfold X0;rw[Af e,K1];simp only[FK,Pj];by_cases c:XJ r=true
 ·simp only[c,RK,H1,By];by_cases b:(!Wa amount 0 17179869184|| !Wa day 0 65536)=true
  ·rw[Bm b,Bm b]
  ·rw[B2 b,B2 b];simp only[rm,r8,ik,Bool.not_eq_false] at b
   have f:=Jf.1 b.1;have g:=Jf.1 b.2;exact ZQ (Pm (PJ.1 c) f.1 f.2 g.1) rfl
 ·simp only[hH] at c
  simp only[c,u0,B3]
theorem PN{k:Nat}(h:JZ r l day=(.inl a,k)):l.length<=4096:=by
 rcases qs 4096 l.length with b | b
 ·unfold JZ at h
  split at h
  ·simp at h
  ·simp at h
 ·exact b
theorem qL{A1:Q0 QD}{m:Q0 (Int×QF)}{k e:Int}{o:Q2 Nat}{A3:KM}(hs:a.B.Moving.Pairwise (λp q=>p.Id < q.Id))(j:m.Perm (a.B.Moving.map Fk))(z:a.B.Moving.length<=1000000):ZT (UI (o,k,e,A1,[m],A3) (K4 r day a)<|a.B.Moving.map QF.Id) (0,(K4 r day a).book)=some a.B:=by
 obtain⟨b,g,c⟩:=HN (body:=UI (o,k,e,A1,[m],A3) (K4 r day a)<|a.B.Moving.map QF.Id) (λi (b:Bk)=>((i:Int),b)) (λb=>b) (λpre b=>b={a.B with Moving:=pre}) a.B.Moving
  (λpre q post b f g=>by
   have u:pre.length < a.B.Moving.length:=by rw[f];simp
   have v:(a.B.Moving.map QF.Id)[pre.length]? =some q.Id:=by rw[f];simp
   have h:(K4 r day a).moving=some 0:=rfl;have w:Qb m q.Id=some q:=by rw[qa hs j];exact uY hs (by rw[f];simp)
   refine⟨{a.B with Moving:=pre++[q]},?_,rfl⟩;subst g;unfold UI;rw[Bm zg];simp only[Zy,v,K1,h,So,w,eC];refine ZQ (TI zg) ?_;simp only[QQ,TT (by omega:pre.length<=4294967296)])
  (λb g=>by
   unfold UI;rw[B2 zh]) a.B.Moving [] {a.B with Moving:=[]} rfl rfl
 have y:ZT (UI (o,k,e,A1,[m],A3) (K4 r day a)<|a.B.Moving.map QF.Id) (0,(K4 r day a).book)=some b:=c;rw[y,g]
theorem AB(i:r.Rates.length<=1000000)(A:l.length<=4096∨4096 < l.length):XF r l day=some (xA<|JZ r l day):=by
 have c:=H0 (day:=day) i A;unfold IQ at c
 unfold XF;cases h:JZ r l day with
 | mk q k=>
  rw[h] at c
  cases q with
  | inr e=>
   have he:=BA h;have c:XE r l day=some (none,(k:Int),e,[],[],[]):=c;have j:(e != 0)=true:=by simpa using he
   rw[c];simp only[K1,j,B3,xA]
  | inl a=>
   obtain⟨A1,C,A3,D,y⟩:=c;obtain⟨F,b,G,H⟩:=Fc h;obtain⟨m,z,f⟩:=y.m;have g:a.B.Moving.length<=1000000:=by have:=PN h;have:=b.mlen;omega
   have E:A1[0]? =some (K4 r day a):=by rw[y.o];rfl
   have u:V7 C (some 0)=some (a.B.Moving.map QF.Id):=by
    rw[z];simp only[V7,So,K1];exact uP b.sorted f (λp c=>(b.mov p c).id) g
   rw[D];simp only[K1,oS,H1,By,E];have v:gd (K4 r day a).book.Moving=some ():=rfl;have w:(K4 r day a).moving=some 0:=rfl;rw[v,K1,w,u,K1,z];exact ZQ (qL b.sorted f g) rfl
end
section
open Go.Dec
variable{r:Gy}{n:Nat}{t d day:Int}{s a:Acc}{x:Ev}{p:QF}{l:Q0 Ev}
theorem xZ{k:Nat}{b:Acc}(h:Hw r k d b)(c:k<=4096):(0<=b.B.Due/\b.B.Due<=4611686018427387904)/\0<=b.B.Paid/\b.B.Paid<=b.B.Due:=by
 have:=h.pos;have:=h.due;have:=h.lim;omega
end
end Go.Proofs.YtbjgigfhnlnbfaaGreatDoor.Ex
namespace Go.Proofs.YtbjgigfhnlnbfaaGreatDoor.Bo
section
open Go.Dec
variable{s:Q0 QB}{x:QB}
def R4(x:QB)(n:Int):Prop:=x.Lo<=n/\n<=x.Hi
def mem(s:Q0 QB)(n:Int):Prop:=∃y∈s,R4 y n
structure XL(s:List QB):Prop where
 ok:∀y∈s,0<=y.Lo/\y.Lo<=y.Hi/\y.Hi<=1099511627776
 apart:s.Pairwise λa b=>a.Hi+1 < b.Lo
theorem Sy(n:Int):¬mem [] n:=by simp[mem]
theorem mem_cons(y:QB)(s:Q0 QB)(n:Int):mem (y::s) n↔R4 y n∨mem s n:=by simp[mem]
theorem mem_append(s t:Q0 QB)(n:Int):mem (s++t) n↔mem s n∨mem t n:=by
 simp only[mem,mn];constructor
 ·rintro⟨y,h | h,k⟩
  ·exact .inl ⟨y,h,k⟩
  ·exact .inr ⟨y,h,k⟩
 ·rintro(⟨y,h,k⟩ | ⟨y,h,k⟩)
  ·exact⟨y,.inl h,k⟩
  ·exact⟨y,.inr h,k⟩
theorem XL.nil:XL []:=⟨by simp,by simp⟩
theorem XL.tail{y:QB}(h:XL (y::s)):XL s:=⟨λz a=>h.ok z (by simp[a]),(j3.1 h.apart).2⟩
theorem XL.aw{y:QB}(h:XL s)(b:0<=y.Lo/\y.Lo<=y.Hi/\y.Hi<=1099511627776)(hs:∀z∈s,y.Hi+1 < z.Lo):XL (y::s):=by
 refine⟨λz a=> ?_,j3.2 ⟨hs,h.apart⟩⟩;rcases Tc.1 a with rfl | a
 ·exact b
 ·exact h.ok z a
theorem XL.append{t:Q0 QB}(h:XL s)(k:XL t)(d:∀a∈s,∀b∈t,a.Hi+1 < b.Lo):XL (s++t):=by
 refine⟨λz c=> ?_,oG.2 ⟨h.apart,k.apart,d⟩⟩;rcases mn.1 c with c | c
 ·exact h.ok z c
 ·exact k.ok z c
theorem XL.split{t:Q0 QB}(h:XL (s++t)):XL s/\XL t/\∀a∈s,∀b∈t,a.Hi+1 < b.Lo:=by
 have:=oG.1 h.apart;exact⟨⟨λz c=>h.ok z (by simp[c]),this.1⟩,⟨λz c=>h.ok z (by simp[c]),this.2.1⟩,this.2.2⟩
theorem CW(s:Q0 QB)(f:QB->Bool)(c:s.length<=1000000):Ja s (λx=>some<|f x)=some (match s.findIdx? f with | some i=>(i:Int) | none=> -1):=by
 unfold Ja
 have key:=BH (body:=J2 s λx=>some<|f x) (fun(_:Unit) i=>(i:Int)) (λ_ i x=>if f x then some (.done<|.inr (i:Int)) else some (.next ())) (λ_=>.inl ()) s
  (λt i x a=>by
   have hi:=Zm a;unfold J2;simp only[Zy,a,K1];rw[Qi qz qz];simp only[show(decide<|(i:Int) < (s.length:Int))=true by simpa using hi,B3];cases f x<;>simp[UP.ax])
  (λt=>by unfold J2;simp) ()
 simp only[fm] at key
 rw[key]
 have gen:∀(l:Q0 QB) (i:Nat),R6 (fun(_:Unit) i x=>if f x then some (.done<|.inr (i:Int)) else some (.next ())) (λ_=>(.inl ():Unit ⊕ Int)) l i ()=some (match l.findIdx? f with | some k=>.inr ((i+k:Nat):Int) | none=>.inl ()):=by
  intro l
  induction l with
  | nil=>intro i;simp[R6]
  | cons x l b=>
   intro i;simp only[R6,List.findIdx?_cons];cases d:f x with
   | true=>simp
   | false=>
    simp only[H1,By];rw[b];cases l.findIdx? f with
    | none=>simp
    | some k=>simp;omega
 rw[gen];cases s.findIdx? f<;>simp
theorem Ts(s:Q0 QB)(f:QB->Bool)(a:s.length<=1000000):Kw s (λx=>some<|f x)=some (s.any f):=by
 unfold Kw;rw[CW s f a];simp only[K1,UV];cases h:s.findIdx? f with
 | none=>
  rw[iE] at h
  simp only[show ¬((-1:Int)≥0) by omega,n1]
  symm;simpa using h
 | some i=>
  rw[oQ] at h
  obtain⟨hi,b,_⟩:=h;simp only[eY,show(0:Int)<=(i:Int) by omega,r6]
  symm;rw[aT];exact⟨_,oo hi,b⟩
theorem qF(c:s.length<=1000000)(d:XL s)(f:x.Lo<=x.Hi):∃b,Yg s x=some b/\(b=true↔∃n,R4 x n/\mem s n):=by
 refine⟨_,by unfold Yg;rw[Ts s _ c];rfl,?_⟩;rw[aT];simp only[Jz,BY,AT,mem,R4];constructor
 ·rintro⟨y,a,g,i⟩;have:=d.ok y a;by_cases h:x.Lo<=y.Lo
  ·exact⟨y.Lo,by omega,y,a,by omega⟩
  ·exact⟨x.Lo,by omega,y,a,by omega⟩
 ·rintro⟨n,e,y,a,h⟩;exact⟨y,a,by omega,by omega⟩
theorem MZ(d:XL s)(o:x.Lo<=x.Hi):(∃y∈s,y.Lo<=x.Lo/\x.Hi<=y.Hi)↔∀n,R4 x n->mem s n:=by
 constructor
 ·rintro⟨y,b,p,q⟩ n e;exact⟨y,b,by simp only[R4] at e ⊢;omega⟩
 ·intro h;obtain⟨y,b,k⟩:=h x.Lo ⟨by omega,o⟩;refine⟨y,b,k.1,?_⟩;apply lV;intro r;simp only[R4] at k h
  obtain⟨z,l,f⟩:=h (y.Hi+1) ⟨by omega,by omega⟩;simp only[R4] at f
  have a:=d.apart;rw[ed] at a
  obtain⟨i,hi,g⟩:=mz b;obtain⟨j,m,c⟩:=mz l;have t:=d.ok y b;have u:=d.ok z l;rcases oV i j with h' | h' | h'
  ·have:=a i j hi m h';rw[g,c] at this;omega
  ·subst h';rw[g] at c;subst c;omega
  ·have:=a j i m hi h';rw[g,c] at this;omega
theorem yd(a:s.length<=1000000)(c:XL s)(d:x.Lo<=x.Hi):∃b,VU s x=some b/\(b=true↔∀n,R4 x n->mem s n):=by
 refine⟨_,by unfold VU;rw[Ts s _ a];rfl,?_⟩;rw[aT,<-MZ c d];simp only[Yh,BY,AT]
end
end Go.Proofs.YtbjgigfhnlnbfaaGreatDoor.Bo
end
