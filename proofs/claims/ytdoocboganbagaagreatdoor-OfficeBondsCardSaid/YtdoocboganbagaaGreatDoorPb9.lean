/- For OfficeBonds. -/
import Derived.Test.YtdoocboganbagaaGreatDoorPb8
noncomputable section
namespace Go.Dec
abbrev C2:=@List.getElem?_cons_zero
abbrev Of:=@Int.le_refl
abbrev qs:=@List.pairwise_cons
abbrev y0:=@List.getElem?_set_self
abbrev y1:=@List.getElem?_set_ne
abbrev wt:=@Bool.not_eq_true
abbrev x2:=@Sum.inl.injEq
abbrev hJ:=@Int.natCast_zero
abbrev fl:=@decide_eq_true
abbrev aT:=@decide_eq_false
abbrev ta:=@decide_true
abbrev rW:=@decide_false
abbrev n2:=@Int.mul_nonneg
abbrev mW:=@Sum.inr.injEq
abbrev mZ:=@List.set_cons_zero
abbrev ml:=@List.mem_of_find?_eq_some
abbrev mr:=@List.set_set
abbrev lN:=@Option.isNone_some
abbrev lO:=@List.filter_filter
abbrev lQ:=@Classical.byContradiction
abbrev lT:=@Bool.and_eq_true_iff
abbrev lb:=@Bool.eq_iff_iff
abbrev lg:=@List.length_singleton
abbrev lr:=@List.getElem?_of_mem
abbrev ls:=@List.getElem?_mapIdx
abbrev lu:=@Bool.false_and
abbrev ef:=@List.takeWhile_cons
abbrev eo:=@Int.sub_self
abbrev ep:=@Int.mul_le_mul
abbrev ew:=@List.not_mem_nil
abbrev oA:=@List.foldl_cons
abbrev oC:=@List.mergeSort_perm
abbrev oE:=@ge_iff_le
abbrev oZ:=@Bool.or_self
abbrev oe:=@List.length_filter_le
abbrev ov:=@List.map_congr_left
abbrev o7:=@List.findIdx?_eq_some_iff_getElem
abbrev iA:=@bne_self_eq_false
abbrev iE:=@List.pairwise_map
abbrev iH:=@Int.add_zero
abbrev iR:=@Int.mul_add
abbrev iY:=@List.perm_ext_iff_of_nodup
abbrev ic:=@List.findIdx?_eq_none_iff
abbrev ig:=@List.any_cons
abbrev ij:=@Int.add_assoc
abbrev ik:=@Bool.and_comm
abbrev il:=@and_assoc
abbrev im:=@List.pairwise_mergeSort
abbrev iv:=@Nat.sub_self
abbrev iw:=@Int.ne_of_lt
abbrev ix:=@List.set_getElem_self
abbrev qAC:=@List.map_id
abbrev qAH:=@List.filterMap_cons
end Go.Dec
section
set_option maxRecDepth 100000
set_option maxHeartbeats 4000000
namespace Go.Proofs.YtdoocboganbagaaGreatDoor
open Go.Dec Go.Proofs.Tryz Go.Shelf Go.RowKit Go.Maps Go.Sort
section
variable{g:Gp}{β:Type}{m:K1 β}{r:β}{n:Nat}{D:Q0 AC}{S:Q0 (Nat×UV)}{F:Fz}{hs:Q0 HP}{L:QA}
theorem _root_.Go.Dec.GG.mM{v:UV}(i:Nat)(hi:hs[i]? =some (gr F L v))(k:∀q:QL,WK 29 K3 F q.1 L.rules->v= .agg (TI L q).toArray->GG g (Hd n D S F<|xy F L q++hs.eraseIdx i) m r):GG g (Hd n D S F hs) m r:=GG.ad i hi λq h=>k q h.1 h.2
theorem _root_.Go.Dec.GG.nC{U:Jl}(i:Nat)(hi:hs[i]? =some (YC U F L))(k:∀q:QL,WK 29 K3 F q.1 L.rules->GG g (Hd n D S F<|[pc U.g65 (TI L q) 65,ku 8 (Ex QJ) F 96 q.2.1 q.2.2.1 L.casks,ku 6 (Ex QM) F 99 q.2.2.2.1 q.2.2.2.2.1 L.duties,ku 4 (Ex QT) F 142 q.2.2.2.2.2.1 q.2.2.2.2.2.2.1 L.stamps,QZ T3 wq F q.2.2.2.2.2.2.2.1 L.batches,QZ T3 wo F q.2.2.2.2.2.2.2.2 L.pure]++hs.eraseIdx i) m r):GG g (Hd n D S F hs) m r:=GG.ad i hi λq h=>k q h
end
theorem yB{w:By}{F F0:Fz}{a b:Nat}{c d:Q0 UV}{U:Jl}{A:Q0 Qu}{R:HP}(le:F0<=F)(h:SH w F (Qh [pc a c 9,pc b d 37,V8 U F0 A,R])):SH w F (star (Qh [V8 U F A]) R):=
 have e:=SH.push (k:=2) rfl<|(h.pull (k:=2) rfl).aL (Jk U) le
 e.mono λ_ f=>XM<|Yx<|Yw (ks:=[2,2]) f
def XU(A:Q0 Qu)(i:Nat)(x:Qu)(word:Q0 H1)(n:Q0 Int)(d:QW):K1 (Q0 H1×Int×Q0 Qu):=
 (Uf d.form (n.length:Int)).bind λok=>Q4 (Zh ok 8) (λq=>some ([],q.e,A)) λ_=>
 (if(!x.ledgers.rules.isNone) then some true else some (word==([100,97,121]:Q0 H1))).bind λa=>(if a then some true else some (word==([114,117,108,101,115]:Q0 H1))).bind λb=>
 Q4 (Zh b 6) (λq=>some ([],q.e,A)) λ_=>(Yd x.ledgers).bind λL=>Q4 (d.do_ (L,(),n)) (λq=>some ([],q.e,A)) λs=>some (s.1,0,A.set i {x with ledgers:=s.2})
def XV(A:Q0 Qu)(o:ON)(line:Q0 H1):K1 (Q0 H1×Int×Q0 Qu):=
 (if o.isNone then some true else(o.bind λi=>(A[i]?).bind λx=>some<|!x.open_)).bind λz=>if z then some ([],13,A) else
 if decide ((line.length:Int) > 1000) then some ([],3,A) else
 o.bind λi=>(A[i]?).bind λx=>Q4 (Vw (Zs.mk line) ()) (λq=>some ([],q.e,A)) λw=>
 XT.bind λD=>match Qc D w.1 with
  | none=>some ([],8,A)
  | some d=>XU A i x w.1 w.2.1 d
theorem Rl(F0:Fz)(hT:HB F0)(U:Jl)(A:Q0 Qu)(o:ON)(p:K1 C3)(_:Unit)(h:ZP U.g67 F0 p o)(line:Q0 H1):Xs Tryz.prog 8 [.pointer p,.string<|bs line].toArray F0 [V8 U F0 A] (XV A o line) (λr _ v=>v= .tuple #[.string<|bs r.1,vI r.2.1]) (λr F' =>[V8 U F' r.2.2]):=by
 refine Xs.nN func8 J ntmps8 J λr R=>(.o (Sub.refl _) (J:_=[V8 U F0 A,R]) ?_);unfold XV;refine .w 2<|.l (cs:=[.string<|bs []]) J Tryz.zeroValue9 J λB=>.l (cs:=[vI 0]) J bA J λC=>.w 7<|.sB h J dQ J J<|.m J J<|.rK (b:=o.isNone) 6 20 J (λa bH=> ?_) λz F1 c=> ?_
 ·refine .cD a J J<|.m J J<|.cD a J J<|.d λi e=> ?_;obtain⟨bo,E,F⟩:=h.at e;refine .cB F J J (.cD a J J<|.f J vG J W4 J<|.cD a J J<|.d λx ex=>.cG (Φ:=λv=>v=(.bool x.open_)) 2 J Fz.r E ex J V4 J (λvs ⟨q0,q1,q2,q3,q4,q5,q6,q7,q8,q9,H,Q,h,r0,r1,r2,r3,r4,r5⟩=>⟨_,by subst h;exact J,J⟩) λv S=> ?_);subst S;exact .cD a J J<|.not J J<|.cW a J J J<|.sK 6 J J x0 Fz.r
 refine .w 3<|.i J (λhz=> ?_) λhz=> ?_
 ·exact .w 2<|.store (cs' :=[.string<|bs []]) W9 J J J J (i:=1) J (JK J) J J<|.store (cs' :=[vI 13]) zK J J J J (i:=0) J (JK J) J J<|.w 2<|.cQ 2 (Jk U) c J<|.cw<|H6 (U:=()) [2,2] results8 (.cell J V9 (i:=1) J J<|.cell J E5 (i:=0) J J .nil) J c J
 refine .w 3<|.cx J J U9 J<|.w 4<|.i J (λhl=> ?_) λhl=> ?_
 ·exact .w 2<|.store (cs' :=[.string<|bs []]) W9 J J J J (i:=1) J (JK J) J J<|.store (cs' :=[vI 3]) zK J J J J (i:=0) J (JK J) J J<|.w 2<|.cQ 2 (Jk U) c J<|.cw<|H6 (U:=()) [2,2] results8 (.cell J V9 (i:=1) J J<|.cell J E5 (i:=0) J J .nil) J c J
 refine .skip<|.d λi e=> ?_;obtain⟨bo,E,F⟩:=h.at e;refine .d (λx ex=>.w 4<|.makeFunc J J<|.defer J<|.w 5<|.build (cs:=(XF<|Zs.mk line).toArray) J du Tryz.zeroValue77 (N3 _ du) J J x0<|.box (cs:=XF<|Zs.mk line) J J J λb=>.px (U:={U with g77:=b}) (L:=Zs.mk line) [0] J<|.cJ [0] J call20 J J J J (SZ _ (hT.mono c) {U with g77:=b} (Zs.mk line) ()) ?_ λq F2 _ l2=>Fk (U:=()) call19 (Yq _ B [] C 0) [1,0] J results8 (λ_ _=>.cell J V9 (i:=0) J J<|.cell J E5 (i:=1) J J .nil) (Fz.t c l2) (λI w le K=>yB (Fz.t c<|Fz.t l2 le) K) λ_=>J);rintro⟨word,n,rd⟩ F2 _ - l2 ⟨p7,k7,rfl,h7⟩;refine .pick [1,1,1,1] (J:_=[pc C [vI 0] 37,pc B [.string<|bs []] 9,V8 U F0 A,R])<|.w 9<|.cM J call21 J J J (Mn _<|hT.mono<|Fz.t c l2) ?_;rintro D F3 _ - Y ⟨pm,km,rfl,hm⟩;have ah:=h7.mono Y;show GL _ _ _ _ _ _ _ (match Qc D word with | none=>some ([],8,A) | some d=>XU A i x word n d) r;cases hg:Qc D word with
 | none=>
  exact .m J J (.tI hm J M4 (.str U9) NK J J (λ_=>(.w 3<|.l (cs:=[.int .i64 0,.int .i64 0,.nilFunc]) J NK J λZ=>(.store (cs' :=[.int .i64 0,.int .i64 0,.nilFunc]) Tryz.sizeOf83 J J J J (i:=0) J (JK J) J J<|.w 7<|.off J J J J<|.off J J J J<|.off J J J J<|.off J J J J<|.off J J J J<|.tp J J J<|.az (he:=(J:Zh false 8=some (.pan<|Qp.mk 8))) [] J call22 J J J J (Ko _ false 8) λF4 T=>Fk (U:=()) call19 (Yq _ B [] C 0) [2,1] J results8 (λ_ _=>.cell J V9 (i:=0) J J<|.cell J E5 (i:=1) J J .nil) (Fz.t c<|Fz.t l2<|Fz.t Y T) (λI w le K=>yB (Fz.t c<|Fz.t l2<|Fz.t Y<|Fz.t T le)<|SH.sA [0,0,1,1] J K) λ_=>J))) λx v hx=>by rw[hg] at hx;cases hx)
 | some d=>
  refine .m J J (.tI hm J M4 (.str U9) NK J J (λh0=>by rw[hg] at h0;cases h0) λx0 v hx S=> ?_);rw[hg] at hx
  obtain rfl:=Tc hx;obtain⟨fd,kd,rfl,aj⟩:=S;show GL _ _ _ _ _ _ _ (XU A i x word n d) r;unfold XU;refine .w 3 (.l (cs:=[.int .i64 0,.int .i64 0,.nilFunc]) J NK J λZ=>(.store (cs' :=Zk d fd kd) Tryz.sizeOf83 J J J J (i:=0) J (JK J) J (QY iO)<|.w 7<|.on J J<|.f J D6 J Tryz.sizeOf80 J<|.on J J<|.cP J Tryz.isAgg80 Tryz.sizeOf80 J (i:=0) J (vs:=Z8 d.form) x0 J<|.on J J<|.m J J<|.on J J<|.cm J J UA J<|.on J J<|.cM J call23 J J J (TL _ d.form (n.length:Int))<|K8 λok F4 _ T=>.ri J J J<|.cJ [] J call22 J J J J (Ko _ ok 8) (K8 λ_ F5 _ l5=>.pick [0,0,0,0,0] (J:_=[pc Z (Zk d fd kd) 83,pc C [vI 0] 37,pc B [.string<|bs []] 9,V8 U F0 A,R])<|.w 3<|.keep (.p [0,4,5,6,7,8] J)<|.w 2<|.cB F J J<|.f J vG J yy J<|.f J Ht J fZ J ?_) λq F5 _ l5=>Fk (U:=()) call19 (Yq _ B [] C 0) [2,1] J results8 (λ_ _=>.cell J V9 (i:=0) J J<|.cell J E5 (i:=1) J J .nil) (Fz.t c<|Fz.t l2<|Fz.t Y<|Fz.t T l5) (λI w le K=>yB (Fz.t c<|Fz.t l2<|Fz.t Y<|Fz.t T<|Fz.t l5 le)<|SH.sA [0,0,1,1] J K) λ_=>J));have lA:F0<=F5:=Fz.t c<|Fz.t l2<|Fz.t Y<|Fz.t T l5;refine .cG (Φ:=λv=>∃p,v= .pointer p/\WK 29 K3 F5 p x.ledgers.rules) 3 J lA (E.mono lA) ex J dn J (λvs ⟨q0,q1,q2,q3,q4,q5,q6,q7,q8,q9,H,Q,h,r0,r1,r2,r3,r4,r5⟩=>⟨_,by subst h;exact J,q0,J,r0⟩) λv S=> ?_;obtain⟨pr,rfl,an⟩:=S;refine .pb an J bj J J<|.m J J<|.rK (b:=(!x.ledgers.rules.isNone)) 3 57 J (λV z=> ?_) λz1 F6 l6=> ?_
  ·exact .cD V J J<|.m J J<|.cD V J J<|.sH J U9 J J<|.cW V J J J<|.sK 3 J J x0 Fz.r
  refine .m J J<|.rK (b:=z1) 3 61 J (λV z=> ?_) λz2 F7 l7=> ?_
  ·exact .cD V J J<|.m J J<|.cD V J J<|.sH J U9 J J<|.cW V J J J<|.sK 3 J J x0 Fz.r
  have lB:F0<=F7:=Fz.t lA<|Fz.t l6 l7;refine .cJ [] J call22 J J J J (Ko _ z2 6) ?_ λq P _ l8=>Fk (U:=()) call19 (Yq _ B [] C 0) [2,1] J results8 (λ_ _=>.cell J V9 (i:=0) J J<|.cell J E5 (i:=1) J J .nil) (Fz.t lB l8) (λI w le K=>yB (Fz.t lB<|Fz.t l8 le)<|SH.sA [0,0,1,1] J K) λ_=>J;rintro _ P _ - l8 rfl;have lC:F0<=P:=Fz.t lB l8;refine .pick [0,0,0,0,0] (J:_=[pc Z (Zk d fd kd) 83,pc C [vI 0] 37,pc B [.string<|bs []] 9,V8 U F0 A,R]) (.w 3<|.keep (.p [0,4,5,6,7,8] J)<|.w 2<|.cB F J J<|.f J vG J yy J<|.sT (Φ:=λus=>∃p0 p1 k1 p2 k2 p3 k3 p4 p5,us=Qi x.ledgers p0 () p1 k1 p2 k2 p3 k3 p4 () p5 ()/\WK 29 K3 P p0 x.ledgers.rules/\QG 8 (Ex QJ) P p1 k1 x.ledgers.casks/\QG 6 (Ex QM) P p2 k2 x.ledgers.duties/\QG 4 (Ex QT) P p3 k3 x.ledgers.stamps/\Uu T3 wq P p4 x.ledgers.batches/\Uu T3 wo P p5 x.ledgers.pure) 3 J lC (E.mono lC) ex J Tryz.isAgg65 yy J (λvs ⟨q0,q1,q2,q3,q4,q5,q6,q7,q8,q9,H,Q,h,r0,r1,r2,r3,r4,r5⟩=>⟨_,by subst h;rfl,J,q0,q2,q3,q4,q5,q6,q7,q8,H,J,r0,r1,r2,r3,r4,r5⟩) λus ar=> ?_);obtain⟨p0,p1,k1,p2,k2,p3,k3,p4,p5,rfl,g0,g1,g2,g3,g4,g5⟩:=ar;refine .nK<|.sn J call24 J J J (i:=0) J (Ba _ x.ledgers p0 p1 k1 p2 k2 p3 k3 p4 p5 g0 g1 g2 g3 g4 g5) λL F9 v _ l9 _=>.mM 0 J λq W S=> ?_;subst S;refine .l (cs:=zL) J dz J (λG=>.store (cs' :=TI L q) yy J J J J (i:=0) J (JK J) J (QY iO)<|.cq (U:={U with g65:=G}) (L:=L) [0,0,0,0,0,0] W Fz.r Fz.r Fz.r Fz.r Fz.r J ?_);have lD:F0<=F9:=Fz.t lC l9;have lE:F3<=F9:=Fz.t T<|Fz.t l5<|Fz.t l6<|Fz.t l7<|Fz.t l8 l9;refine .pick [0,0,0,0,0,0] (J:_=[Q9 {U with g65:=G} F9 L,pc Z (Zk d fd kd) 83,pc C [vI 0] 37,pc B [.string<|bs []] 9,V8 U F0 A,R])<|.w 3<|.keep (.p [0,4,5,7,8,10] J)<|.g<|.f J D6 J Tryz.sizeOf81 J<|.cC J Tryz.isAgg81 J (i:=1) J J<|.m J J<|.pz [0] J ((aj.mono lE) {U with g65:=G}) J J ⟨p7,k7,J,ah.mono lE⟩ J J ?_ λq X _ M=>Fk (U:=()) call19 (Yq _ B [] C 0) [2,1] J results8 (λ_ _=>.cell J V9 (i:=0) J J<|.cell J E5 (i:=1) J J .nil) (Fz.t lD M) (λI w le K=>yB (Fz.t lD<|Fz.t M le)<|SH.sA [0,0,1,1] J K) λ_=>J;rintro⟨N,L'⟩ X _ - M rfl;have lF:F0<=X:=Fz.t lD M;refine .pick [0,0,0,0,0,0] (J:_=[YC {U with g65:=G} X L',pc Z (Zk d fd kd) 83,pc C [vI 0] 37,pc B [.string<|bs []] 9,V8 U F0 A,R]) (.store (cs' :=[.string<|bs N]) W9 J J J J (i:=3) J (JK J) J J<|.w 3<|.keep (.p [0,4,5,10] J)<|.w 2<|.nC 0 J λq W=>(.cP J Tryz.isAgg65 yy J (i:=0) J (vs:=TI L' q) x0 J<|.ax 1 J Fz.r λbc j f1=>.ax 1 J j λbe k f2=>.ax 1 J (Fz.t j k) λbg s f3=>.sd 1 J (Fz.t j<|Fz.t k s) λbk u f4=>.sd 1 J (Fz.t j<|Fz.t k<|Fz.t s u) λaw y f5=> ?_));have lG:F0<=aw:=Fz.t lF<|Fz.t j<|Fz.t k<|Fz.t s<|Fz.t u y;have f0:=W.mono<|Fz.t j<|Fz.t k<|Fz.t s<|Fz.t u y;have ay:=f1.mono<|Fz.t k<|Fz.t s<|Fz.t u y;have az:=f2.mono<|Fz.t s<|Fz.t u y;have a1:=f3.mono<|Fz.t u y;have a6:=f4.mono y;exact .pick [0,0,0,0,0,0] (J:_=[pc G (TI L' q) 65,pc Z (Zk d fd kd) 83,pc C [vI 0] 37,pc B [.string<|bs N] 9,V8 U F0 A,R])<|.cB F J J<|.f J vG J yy J<|.cY (xs' :=A.set i {x with ledgers:=L'}) (x' :={x with ledgers:=L'}) (us:=TI L' q) 4 J lG Fz.r fp yy (E.mono lG) ex J J J J J J (λF' vs le ⟨q0,q1,q2,q3,q4,q5,q6,q7,q8,q9,H,Q,h,r0,r1,r2,r3,r4,r5⟩=>⟨q.1,(),q.2.1,q.2.2.1,q.2.2.2.1,q.2.2.2.2.1,q.2.2.2.2.2.1,q.2.2.2.2.2.2.1,some q.2.2.2.2.2.2.2.1,(),some q.2.2.2.2.2.2.2.2,(),by subst h;exact J,f0.mono le,ay.mono le,az.mono le,a1.mono le,a6.mono le,f5.mono le⟩) J<|.w 4<|.cC J V9 J (i:=3) J J<|.store (cs' :=[.string<|bs N]) W9 J J J J (i:=3) J (JK J) J J<|.store (cs' :=[vI 0]) zK J J J J (i:=2) J (JK J) J J<|.w 2<|.cw<|PX (U:=()) [3,2] call19 (Yq _ B N C 0) J [4,4] results8 (.cell J V9 (i:=0) J J<|.cell J E5 (i:=1) J J .nil) J lG J
end Go.Proofs.YtdoocboganbagaaGreatDoor
end
section
set_option maxRecDepth 100000
set_option maxHeartbeats 4000000
namespace Go.Proofs.YtdoocboganbagaaGreatDoor
open Go.Dec Go.Proofs.Tryz Go.Shelf Go.RowKit Go.Maps Go.Sort
abbrev IQ:Q0 H1->Fz->Q0 UV->Prop:=fun(x:Q0 H1) _ vs=>vs=[.string<|bs x]
def JH{σ:Type}(y:Q0 H1->σ->K1 (σ×Bool))(s:Q0 H1×σ):K1 (UQ (Q0 H1×σ)<|σ ⊕ σ):=
 if decide ((s.1.length:Int) > 0) then(UN s.1 10).bind λi=>
  if decide (i≥0) then(ZZ s.1 0<|Q8<|i+1).bind λu=>(ZZ s.1 (Q8<|i+1) s.1.length).bind λv=>(y u s.2).bind λp=>if(!p.2) then some (.done<|.inr p.1) else some (.next (v,p.1))
  else(y s.1 s.2).bind λp=>if(!p.2) then some (.done<|.inr p.1) else some (.next ([],p.1))
 else some (.done<|.inl s.2)
def HF{σ:Type}(y:Q0 H1->σ->K1 (σ×Bool))(s:Q0 H1)(a:σ):K1 σ:=(ZU (JH y) (s,a)).bind λo=>match o with | .inl z=>some z | .inr z=>some z
theorem T6(F0:Fz)(σ:Type)(x:Nat)(Y:σ->Fz->HP)(y:Q0 H1->σ->K1 (σ×Bool))(B:WJ Tryz.prog x F0 IQ Y y)(s:Q0 H1)(b:Nat)(C:σ):Xs Tryz.prog 138 [.func (.yield x) #[] #[],vP b 0].toArray F0 [pc b [.string<|bs s] 9,Y C F0] (HF y s C) (λ_ _ _=>True) (λF G=>[Y F G]):=by
 refine Xs.enter func138 J ntmps138 J λr R=> ?_;unfold HF;refine .k (.loop (fun(s:Q0 H1×σ) a w=>∃f,F0<=f/\Hd 25 [] [(0,.func (.yield x) #[] #[]),(1,vP b 0)] f [pc b [.string<|bs s.1] 9,Y s.2 f,R] a w) (λo e a w=>match o with | .inl z=>e= .exit 0/\∃f c,F0<=f/\Hd 25 [] [] f [pc b c 9,Y z f,R] a w | .inr z=>e= .ret/\∃f c,F0<=f/\Hd 25 [] [] f [pc b c 9,Y z f,R] a w) ?_ ?_ ?_)
 ·exact λa w h=>⟨F0,Fz.r,h.1.sub<|.k J,h.2⟩
 ·rintro⟨s,st⟩ H;refine GG.ex λa w ⟨f,j,l⟩=>⟨_,l,?_⟩;unfold JH;refine .w 3<|.cC J V9 J (i:=0) J J<|.cx J J U9 J<|.w 3<|.i J (λI=> ?_) λI=> ?_
  ·refine .w 11<|.cC J V9 J (i:=0) J J<|.cM J call139 J J J (AL _ s 10)<|K8 λi N _ l2=>.w 9<|.i J (λhi=> ?_) λhi=> ?_
   ·refine .d λu K=>.d λv L=>(.keep (.p [0,1,4] J)<|.cS 9 Qb x0<|.cC J V9 J (i:=0) J J<|.w 2<|.pv K J U9 J J<|.cC J V9 J (i:=0) J J<|.w 2<|.pP L J U9 J J<|.s J J<|.cc<|.store (cs' :=[.string<|bs v]) W9 J J J J (i:=0) J (JK J) J J<|.w 6<|.tN J B J J J (i:=1) J j l2 λp m _ q=>.w 3<|.i J (λA=> ?_) λA=> ?_)
    ·exact .cw<|Q7.ret λa w h=>⟨J,m,_,Fz.t j<|Fz.t l2 q,h.1.sub<|.k J,h.2⟩
    ·exact .w 2<|.cK<|Q7.norm λa w h=>⟨m,Fz.t j<|Fz.t l2 q,h.1.sub<|.k J,h.2⟩
   ·refine .keep (.p [0,1,4] J)<|.g<|.cC J V9 J (i:=0) J J<|.s J J<|.store (cs' :=[.string<|bs []]) W9 J J J J (i:=0) J (JK J) J J<|.w 6<|.tN J B J J J (i:=1) J j l2 λp m _ q=>.w 3<|.i J (λA=> ?_) λA=> ?_
    ·exact .cw<|Q7.ret λa w h=>⟨J,m,_,Fz.t j<|Fz.t l2 q,h.1.sub<|.k J,h.2⟩
    ·exact .w 2<|.cK<|Q7.norm λa w h=>⟨m,Fz.t j<|Fz.t l2 q,h.1.sub<|.k J,h.2⟩
  ·exact .cO J<|Q7.exit λa w h=>⟨J,f,_,j,h.1.sub<|.k J,h.2⟩
 ·intro o M D e a w E;rcases o with z | z
  ·obtain⟨rfl,f,c,j,l⟩:=E;refine ZE J<|GG.app ?_ D a w l;exact .aW [1,1] results138 .n J j trivial
  ·obtain⟨rfl,f,c,j,l⟩:=E;exact JT<|(H7 [1,1] results138 .n J j trivial) D a w l
def Bx:Nat->Q0 H1->Q0 (Q0 H1)
 | 0,_=>[]
 | k+1,s=>if s=[] then[] else if 0<=Go.Lib.indexByte s 10 then s.take ((Go.Lib.indexByte s 10).toNat+1)::Bx k (s.drop<|(Go.Lib.indexByte s 10).toNat+1) else[s]
theorem Tt:∀(s:Q0 H1) (c:H1), -1<=Go.Lib.indexByte s c/\Go.Lib.indexByte s c < (s.length:Int)
 | [],c=>by simp[Go.Lib.indexByte]
 | b::l,c=>by
  have a:=Tt l c;simp only[Go.Lib.indexByte,OF];split
  ·omega
  ·split
   ·omega
   ·omega
theorem EX{σ:Type}{y:Q0 H1->σ->K1 (σ×Bool)}:∀(k:Nat) (s:Q0 H1) (st r:σ),s.length<=k->s.length<=1000000000000->WG y (Bx k s) st=some r->ZU (JH y) (s,st)=some (.inl r)∨ZU (JH y) (s,st)=some (.inr r)
 | 0,s,st,r,i,_,h=>by
  obtain rfl:s=[]:=RW eB;simp only[Bx,WG,W1] at h
  subst h;left;rw[ZJ];simp[JH]
 | k+1,s,st,r,i,m,h=>by
  by_cases d:s=[]
  ·subst d;simp only[Bx,B2,WG,W1] at h
   subst h;left;rw[ZJ];simp[JH]
  ·have b:0 < s.length:=by cases s with | nil=>exact absurd rfl d | cons=>simp
   obtain⟨n,o⟩:=Tt s 10;simp only[Bx,B1 d] at h
   have f:((10:Int).toNat.toUInt8)=10:=by decide
   rw[ZJ];by_cases hi:0<=Go.Lib.indexByte s 10
   ·rw[BY hi] at h
    simp only[WG] at h
    have g:Q8 (Go.Lib.indexByte s 10+1)=Go.Lib.indexByte s 10+1:=Qo eB eB
    have j:ZZ s 0 (Q8<|Go.Lib.indexByte s 10+1)=some (s.take<|(Go.Lib.indexByte s 10).toNat+1):=by
     rw[g];unfold ZZ;rw[BY eB];congr 1;simp only[om,oG,oU];congr 1;omega
    have l:ZZ s (Q8<|Go.Lib.indexByte s 10+1) s.length=some (s.drop<|(Go.Lib.indexByte s 10).toNat+1):=by
     rw[g];unfold ZZ;rw[BY eB];congr 1;rw[IF (by simp;skip)];congr 1;omega
    have e:JH y (s,st)=(y (s.take<|(Go.Lib.indexByte s 10).toNat+1) st).bind λp=>if(!p.2) then some (.done<|.inr p.1) else some (.next (s.drop<|(Go.Lib.indexByte s 10).toNat+1,p.1)):=by
     unfold JH UN;rw[BY (by simpa using b),f];show(if decide (Go.Lib.indexByte s 10≥0) then _ else _)=_;rw[BY (by simpa using hi),j,l];rfl
    rw[e];cases c:y (s.take<|(Go.Lib.indexByte s 10).toNat+1) st with
    | none=>rw[c] at h;cases h
    | some p=>
     rw[c] at h
     simp only[K2] at h ⊢
     by_cases a:p.2=true
     ·rw[BY a] at h
      have:=EX k (s.drop<|(Go.Lib.indexByte s 10).toNat+1) p.1 r eE eE h;simpa[a] using this
     ·rw[B1 a] at h
      simp only[W1] at h
      right;simp[a,h]
   ·rw[B1 hi] at h
    simp only[WG] at h
    have e:JH y (s,st)=(y s st).bind λp=>if(!p.2) then some (.done<|.inr p.1) else some (.next ([],p.1)):=by
     unfold JH UN;rw[BY (by simpa using b),f];show(if decide (Go.Lib.indexByte s 10≥0) then _ else _)=_;rw[B1<|by simpa using hi]
    rw[e];cases c:y s st with
    | none=>rw[c] at h;cases h
    | some p=>
     rw[c] at h
     simp only[K2] at h ⊢
     by_cases a:p.2=true
     ·rw[BY a] at h
      simp only[W1] at h
      left;simp only[a,RK,W2,Bm];rw[ZJ];simp[JH,h]
     ·rw[B1 a] at h
      simp only[W1] at h
      right;simp[a,h]
def Ox(s:Q0 H1):Q0 (Q0 H1):=Bx s.length s
theorem Pn{σ:Type}{y:Q0 H1->σ->K1 (σ×Bool)}{s:Q0 H1}{st r:σ}(a:s.length<=1000000000000)(h:WG y (Ox s) st=some r):HF y s st=some r:=by
 unfold HF;rcases EX s.length s st r (S2 _) a h with e | e
 ·rw[e];rfl
 ·rw[e];rfl
theorem kE(F:Fz)(s:Q0 H1)(b:Nat)(a:s.length<=1000000000000):gP Tryz.prog F 138 [vP b 0] IQ [pc b [.string<|bs s] 9] (Ox s):=⟨call138,λσ c Y y d _ e f r g=>T6 d σ c Y y e s b f r<|Pn a g⟩
theorem Rz(F0:Fz)(s:Q0 H1):CT Tryz.prog 85 [.string<|bs s].toArray F0 SO (some ()) (λ_ _ _=>True) (λ_ _ v=>wO (λb=>v= .func (.func 138) #[] #[vP b 0]) λb=>[pc b [.string<|bs s] 9]):=by
 exact CT.enter func85 J ntmps85 J λr R=>(.w 2<|.box (cs:=[.string<|bs s]) J J J λb=>.w 5<|.makeFunc J J<|.w 3<|.nT (Φ:=λb' =>(.func (.func 138) #[] #[vP b 0]:UV)= .func (.func 138) #[] #[vP b' 0]) (l:=λb=>[pc b [.string<|bs s] 9]) [0] b J J<|.pV results85 (.tmp J .nil) (i:=0) J (j:=1) J Fz.r trivial)
def Ho{σ:Type}(y:Q0 H1->σ->K1 (σ×Bool))(line:Q0 H1)(s:σ):K1 (UQ σ σ):=(Vu line [10]).bind λu=>(y u s).bind λp=>if(!p.2) then some (.done p.1) else some (.next p.1)
def SI{σ:Type}(y:Q0 H1->σ->K1 (σ×Bool))(script:Q0 H1)(a:σ):K1 σ:=(Ay (Ho y) (Ox script) a).bind λc=>match c with | .next s=>some s | .done s=>some s
theorem P0(F0:Fz)(σ:Type)(a:Nat)(Y:σ->Fz->HP)(y:Q0 H1->σ->K1 (σ×Bool))(j:WJ Tryz.prog a F0 IQ Y y)(script:Q0 H1)(K:script.length<=1000000000000)(b:Nat)(M:F0.mem b=some (.cells #[.string<|bs script] 9))(z:σ):Xs Tryz.prog 84 [.func (.yield a) #[] #[],vP b 0].toArray F0 [Y z F0] (SI y script z) (λ_ _ _=>True) (λN P=>[Y N P]):=by
 refine Xs.aE func84 J ntmps84 J λr R=> ?_;unfold SI;refine .w 2<|.box (cs:=[.func (.yield a) #[] #[]]) J J J λf=>.w 4<|.U J V9 J M J<|.nK<|.tj J call85 J J J (i:=0) J (Rz _ script) λQ v e=>.ad 0 J λA C=> ?_;subst C;refine .w 3<|.keep (.p [1,2,5] J)<|.pick [0,0,0,0] (J:_=[pc A [.string<|bs script] 9,pc f [.func (.yield a) #[] #[]] 178,Y z F0,R])<|.mH 2 j J Fz.r e<|.pJ [pc A [.string<|bs script] 9] [0] (λs F hs=>hs=[pc f [.func (.yield a) #[] #[]] 178,Y s F,R]) (λs F hs=>hs=[pc f [.func (.yield a) #[] #[]] 178,Y s F,R]) J (kE Q script A K) J (λ_ _ _ h=>by rw[h];rfl) J J ?_ ?_ ?_
 ·rintro l L m G x vs s S H g l2 c rfl rfl;unfold Ho;refine .d λu T=>.w 3<|GG.begin 0 J<|.w 2<|.keep (.p [2,3] J)<|.dG 3 0 (λ_=>[vT<|.func (.yield a) #[] #[],vT<|.string<|bs x,vT<|.string<|bs u]) (λ_ _=>[pt l<|UF L,H,pc f [.func (.yield a) #[] #[]] 178,Y s m,R]) Qb x0 (λ_=>J) (λ_=>J) ?_ λenv F4 D I=> ?_
  ·refine .B (.cC J Tryz.isAgg178 J (i:=2) J J<|.fv J)<|.V 1 (λ_ _=>⟨J,J⟩)<|.b (λ_ _ W E=>.sE T J call86 J J J (SW _ x [10]) λF6 v X C=>by subst C;exact .cy J J X) .nil
  refine .o (.p [7,9] J) (J:_=[pt l<|UF L,H,pc f [.func (.yield a) #[] #[]] 178,Y s m,R])<|.tN J j J J J (i:=3) J (Fz.t e l2) (Fz.t c D) λp W _ E=>.w 3<|.i J (λZ=> ?_) λZ=> ?_
  ·exact .cw<|RP.ret (Fz.t D E) J J
  ·exact .w 2<|.cK<|RP.norm (Fz.t D E) J J
 ·rintro q m G s g l2 c he rfl;exact .k<|.mH 2 j J (Fz.t e l2) c<|.rp [2,2] [(0,q)] results84 ⟨J,trivial⟩ .n J (Fz.t e<|Fz.t l2 c) trivial
 ·rintro q m G s g l2 c he rfl;exact .mH 2 j J (Fz.t e l2) c<|.nl [2,2] [(0,q)] results84 ⟨J,trivial⟩ .n J (Fz.t e<|Fz.t l2 c) trivial
end Go.Proofs.YtdoocboganbagaaGreatDoor
end
section
set_option maxRecDepth 100000
set_option maxHeartbeats 4000000
namespace Go.Proofs.YtdoocboganbagaaGreatDoor
open Go.Dec Go.Proofs.Tryz Go.Shelf Go.RowKit Go.Maps Go.Sort
def Ri(x:Q0 H1):Bool:=x.getLast? ==some 10
def Il(x:Q0 H1):Q0 H1:=if Ri x then x.dropLast else x
theorem Tu(x:Q0 H1)(h:x.length<=1000000000000):YB x [10]=some (Ri x):=by
 unfold YB Zp Ri;cases a:x.reverse with
 | nil=>
  obtain rfl:x=[]:=by simpa using a
  rfl
 | cons c l=>
  obtain rfl:x=l.reverse++[c]:=by have:=congrArg List.reverse a;simpa using this
  have b:(l.reverse++[c]).length=l.length+1:=by simp
  rw[b] at h ⊢
  have d:Q8 (((l.length+1:Nat):Int) - (([10]:Q0 H1).length:Int))=(l.length:Int):=by
   show Q8 (((l.length+1:Nat):Int) - (1:Int))=_;rw[Qo eB eB];omega
  have hs:ZZ (l.reverse++[c]) (l.length:Int) ((l.length+1:Nat):Int)=some [c]:=by
   unfold ZZ;rw[BY eE];congr 1;simp only[hR];rw[lW eF,oX eF];simp
  rw[BY eE,d,hs];show some ([c]==([10]:Q0 H1))=some ((l.reverse++[c]).getLast? ==some 10);rw[List.getLast?_concat];have:([c]==([10]:Q0 H1))=(some c==some 10):=by by_cases h:c=10<;>simp[h]
  rw[this]
theorem M9(x:Q0 H1)(h:x.length<=1000000000000):Vu x [10]=some (Il x):=by
 have a:=Tu x h;unfold YB at a
 unfold Vu JJ Il
 have c:Zp x [10]=some (Ri x):=by
  cases e:Zp x [10] with
  | none=>rw[e] at a;cases a
  | some b=>rw[e] at a;exact a
 rw[c];simp only[K2];cases he:Ri x with
 | false=>rfl
 | true=>
  have d:0 < x.length:=by
   cases x with
   | nil=>simp[Ri] at he
   | cons=>simp
  have f:Q8 ((x.length:Int) - (([10]:Q0 H1).length:Int))=((x.length - 1:Nat):Int):=by
   show Q8 ((x.length:Int) - (1:Int))=_;rw[Qo eB eB];omega
  rw[f]
  have hs:ZZ x 0 ((x.length - 1:Nat):Int)=some x.dropLast:=by
   unfold ZZ;rw[BY eB];congr 1;simp only[om,oG,oU,hR];rw[List.dropLast_eq_take]
  rw[hs];rfl
def MM(s:Q0 H1):Q0 (Q0 H1):=(Ox s).map Il
theorem MN:∀(k:Nat) (s:Q0 H1),∀x∈Bx k s,x.length<=s.length
 | 0,_,_,h=>by simp[Bx] at h
 | k+1,s,x,h=>by
  unfold Bx at h
  split at h
  ·simp at h
  ·split at h
   ·simp only[TO] at h
    rcases h with rfl | h
    ·simp;omega
    ·have:=MN k _ x h;simp at this;omega
   ·simp only[ts] at h
    subst h;exact S2 _
theorem Rf{σ:Type}{y:Q0 H1->σ->K1 (σ×Bool)}:∀(l:Q0 (Q0 H1)) (s r:σ),(∀x∈l,x.length<=1000000000000)->WG y (l.map Il) s=some r->(Ay (Ho y) l s).bind (λc=>match c with | .next s=>some s | .done s=>some s)=some r
 | [],s,r,_,h=>h
 | x::l,s,r,b,h=>by
  simp only[E4,WG] at h
  simp only[Ay,Ho,M9 x<|b x<|sp ..,K2];cases d:y (Il x) s with
  | none=>rw[d] at h;cases h
  | some p=>
   rw[d] at h
   simp only[K2] at h ⊢
   by_cases a:p.2=true
   ·rw[BY a] at h
    have:=Rf l p.1 r (λz e=>b z<|L3 _ e) h;simpa[a] using this
   ·rw[B1 a] at h
    simpa[a] using h
theorem Xs.mI{β:Type}{P:B3}{f:Rw}{args:So UV}{F:Fz}{H:HP}{m:K1 β}{ρ:β->Fz->UV->Prop}{H' :β->Fz->HP}(h:Xs P f args F [H] m ρ (λr F=>[H' r F])):CT P f args F H m ρ (λr F _=>H' r F):=λr a w R b=>
 (h r a w R<|b.mono λm a=>QP (λ_ h=>Jy h) a).mono (by rintro e w' ⟨c,v,le,he,hρ,hs⟩;exact⟨c,v,le,he,hρ,hs.mono λ_ a=>Wq a⟩)
theorem kD(F:Fz)(script:Q0 H1)(b:Nat)(a:script.length<=1000000000000)(c:F.mem b=some (.cells #[.string<|bs script] 9)):NL Tryz.prog F 84 [vP b 0] IQ (MM script):=⟨call84,λσ d Y y e le f s r g=>Xs.mI (P0 e σ d Y y f script a b (le.mem _ _ c) s) r<|Rf _ s r (λx h=>mz (MN _ _ x h) a) g⟩
theorem Mm(F0:Fz)(script:Q0 H1):KJ Tryz.prog 34 [.string<|bs script].toArray F0 (some ()) (λ_ F v=>∃b,v= .func (.func 84) #[] [vP b 0].toArray/\F.mem b=some (.cells #[.string<|bs script] 9)):=by
 exact KJ.enter func34 J ntmps34 J λr R=>(.w 2<|.cV (cs:=[.string<|bs script]) J J J λb d a c=>.w 5<|.makeFunc J J<|.w 3<|.cI results34 (.tmp J .nil) (i:=0) J a ⟨b,J,c⟩)
abbrev zT:Q0 H1:=[101,114,114,111,114]
def XB(A:Q0 Qu)(s u:Q0 H1):K1 (Q0 Qu×Q0 H1):=(SU s u).bind λv=>(SU v [10]).bind λw=>some (A,w)
def GP(o:ON)(line:Q0 H1)(s:Q0 Qu×Q0 H1):K1 (Q0 Qu×Q0 H1):=(XV s.1 o line).bind λt=>if(t.2.1 != 0) then(Jo zT [t.2.1]).bind λu=>XB t.2.2 s.2 u else XB t.2.2 s.2 t.1
def X3(script:Q0 H1):K1 (Q0 H1×Int):=
 if decide ((script.length:Int) > 262144) then some ([],3) else
 (if(!(script==([]:Q0 H1))) then(YB script [10]).bind λh=>some (!h) else some false).bind λz=>if z then some ([],8) else
 (Hg []).bind λo=>(VB (GP o.1) (MM script) (o.2,[])).bind λs=>some (s.2,0)
theorem LY(F0:Fz)(hT:HB F0)(script:Q0 H1):KJ Tryz.prog 16 [.string<|bs script].toArray F0 (X3 script) (λr _ v=>v= .tuple #[.string<|bs r.1,vI r.2]):=by
 refine KJ.aE func16 J ntmps16 J λr R=> ?_;unfold X3;refine .w 11<|.cx J J U9 J<|.w 4<|.i J (λD=> ?_) λD=> ?_
 ·exact .w 6<|.tB [] results16 trivial (.tmp J<|.tmp J .nil) (i:=0) J Fz.r J
 have j:script.length<=1000000000000:=by simp at D;omega
 refine .w 3<|.nu J U9 J J<|.m J J<|.aN (b:=(!(script==([]:Q0 H1)))) 4 20 J (λhs z=> ?_) λz F1 G=> ?_
 ·exact .cD hs J J<|.m J J<|.cD hs J J<|.cM J call33 J J J (AM _ script [10])<|K8 λhh T _ l2=>.cD hs J J<|.not J J<|.cE hs J J J<|.sK 4 J J x0 l2
 refine .w 3<|.i J (λhz=> ?_) λhz=> ?_
 ·exact .w 6<|.tB [] results16 trivial (.tmp J<|.tmp J .nil) (i:=0) J G J
 refine .w 4<|.sa λg T l2=>.tF (dZ<|Jl.mk 0 0 0 g 0 0 0 0 0 0) 0 J<|.pick [0,0] (J:_=[ZD (Jl.mk 0 0 0 g 0 0 0 0 0 0).g67 (dZ<|Jl.mk 0 0 0 g 0 0 0 0 0 0) T [],R]) ?_;generalize Jl.mk 0 0 0 g 0 0 0 0 0 0=U;refine(.g<|.cg [0] J call6 J J J J (T7 _ U []) ?_);rintro⟨o,A⟩ F3 _ - V ⟨p,_,rfl,hp⟩;refine .l (cs:=[.pointer none]) J Tryz.zeroValue25 J λH=>.store (cs' :=[.pointer p]) Tryz.sizeOf25 J J J J (i:=0) J (JK J) J J<|.w 4<|.l (cs:=[.pointer none,.slice none 0 0]) J Tryz.zeroValue125 J λd=>.rA 0 5 J<|.w 6<|.cN J call34 J J J (Mm _ script) ?_;rintro W _ E ⟨bS,rfl,I⟩;refine .w 3<|.keep (.p [4,5,23] J)<|.cQ 2 (Jk U) E J<|.pick [0,0,0,0] (J:_=[CX 125 5 d [],pc H [.pointer p] 25,V8 U W A,R]) ?_;have k:=hT.mono<|Fz.t G<|Fz.t l2<|Fz.t V E;refine .aH (τ:=Q0 Qu×Q0 H1) (λs F hs=>hs=[CX 125 5 d s.2,pc H [.pointer p] 25,V8 U F s.1,R]) J (kD W script bS j I) J (λ_ _ _ h=>by rw[h];rfl) J ?_ ?_
 ·rintro l L F5 F6 x vs ⟨X,s⟩ aG R' K y f rfl rfl;unfold GP;refine .w 2<|.n<|GG.begin 0 J<|.w 2<|.keep (.p [4,5,6] J)<|.cQ 4 (Jk U) f J<|.g<|.cC J Tryz.isAgg25 J (i:=3) J J<|.m J J<|.cg [4] J call8 J J J J (Rl _ (k.mono<|Fz.t y f) U X o p () (hp.mono<|Fz.t E<|Fz.t y f) x) ?_;rintro⟨M,e,A2⟩ Y _ - B rfl;refine .pick [1,1,1,1,0,0] (J:_=[pt l<|UF L,R',CX 125 5 d s,pc H [.pointer p] 25,V8 U Y A2,R])<|.w 14<|.i J (λD=> ?_) λD=> ?_
  ·refine .w 2 (.cX (cs:=[vI e]) (zc:=[vI 0]) J UA W3 Y3 J J J x0 x0 λb8 F8 N P=> ?_);have C:QG 1 (Ex<|Zy .i64) F8 (some ⟨b8,0,none⟩) 1 [e]:=QG.ofRow P (.cons Gx.mono J .nil) J J;refine .cM J call35 J J J (Wl _ (k.mono<|Fz.t y<|Fz.t f<|Fz.t B N) zT [e] _ _ C) ?_;rintro u F9 _ - Z rfl;unfold XB;exact .w 6<|.sn J call36 J J J (i:=2) J (GO _ d s u) λv Q _ _ a _=>.w 3<|.sn J call37 J J J (i:=2) J (Sk _ d v 10) λw S _ _ c _=>.w 2<|.cQ 4 (Jk U) (Fz.t N<|Fz.t Z<|Fz.t a c) J<|.cK<|RP.tE (Fz.t B<|Fz.t N<|Fz.t Z<|Fz.t a c) J J
  ·unfold XB;exact .w 5<|.sn J call36 J J J (i:=2) J (GO _ d s M) λv Q _ _ a _=>.w 3<|.sn J call37 J J J (i:=2) J (Sk _ d v 10) λw S _ _ c _=>.w 2<|.cQ 4 (Jk U) (Fz.t a c) J<|.cK<|RP.tE (Fz.t B<|Fz.t a c) J J
 ·rintro q F5 F6 ⟨X,s⟩ K y f he rfl;refine .w 4<|.sn (e:=some s) (g:=λs=>some (s,0)) J call38 J J J (i:=1) J (qv _ d s) ?_;rintro s' Y _ e7 B rfl;exact .w 4<|.tB [(0,q)] results16 ⟨J,trivial⟩ (.tmp J<|.tmp J .nil) (i:=4) J (Fz.t G<|Fz.t l2<|Fz.t V<|Fz.t E<|Fz.t y<|Fz.t f B) J
end Go.Proofs.YtdoocboganbagaaGreatDoor
end
section
set_option maxRecDepth 100000
set_option maxHeartbeats 4000000
namespace Go.Proofs.YtdoocboganbagaaGreatDoor
open Go.Dec Go.Proofs.Tryz Go.Shelf Go.RowKit Go.Maps Go.Sort
def Ug:K1 Bool:=(X3 JR.1).bind λr=>(if(r.1==JR.2) then some (r.2==0) else some false).bind λz=>some z
theorem DE(F0:Fz)(c:HB F0):KJ Tryz.prog 5 [].toArray F0 Ug (λr _ v=>v= .bool r):=by
 refine KJ.enter func5 J ntmps5 J λr R=> ?_;unfold Ug;refine .w 7<|.cN J call15 J J J (Cl _)<|Wm λf a=>.w 10<|.cM J call16 J J J (LY _ (c.mono a) JR.1) ?_;rintro⟨s,e⟩ g _ - l2 rfl;refine .w 11<|.sH J U9 J J<|.m J J<|.aN (b:=(s==JR.2)) 3 20 J (λhs z=> ?_) λz h d=> ?_
 ·exact .cD hs J J<|.m J J<|.cD hs J J<|.eql J J J<|.cE hs J J J<|.sK 3 J J x0 Fz.r
 exact .w 3<|.cI results5 (.tmp J .nil) (i:=0) J (Fz.t a<|Fz.t l2 d) J
end Go.Proofs.YtdoocboganbagaaGreatDoor
end
namespace Go.Proofs.YtdoocboganbagaaGreatDoor.Ca
section
open Go.Dec
variable{f:Nat->Int}{a n b:Int}{j:Nat}
structure ZY where
 C:ZR
 Fills:List Int
variable{h:ZY}
abbrev Ev:=QE
abbrev zN:Nat->Int:=λ_=>0
def W6(n a b:Int):Bool:=decide (n≥a)&&decide (n<=b)
def Xa(x:Ev):Bool:=
 W6 x.Day 0 65536&&W6 x.Cask 0 1073741824&&
 (if x.Kind==0 then W6 x.Other 0 7&&W6 x.Where 0 7&&W6 x.Amount 1 1099511627776&&W6 x.Person 0 1073741824
  else if x.Kind==1||x.Kind==3 then W6 x.Amount 1 1099511627776
  else if x.Kind==2 then W6 x.Other 0 1073741824&&W6 x.Amount 1 1099511627776
  else if x.Kind==4 then W6 x.Where 0 7
  else if x.Kind==5||x.Kind==6 then W6 x.Person 0 1073741824&&W6 x.To 0 1073741824
  else if x.Kind==7 then W6 x.Person 0 1073741824
  else if x.Kind==8 then W6 x.Where 0 7 else false)
def Jd(n:Int)(h:ZY):ZY:=if 0 < h.C.Amount then{h with C:={h.C with Age:=h.C.Age+n,Woods:=ZB h.C.Woods h.C.Wood.toNat<|h.C.Woods h.C.Wood.toNat+n,Places:=ZB h.C.Places h.C.Place.toNat (h.C.Places h.C.Place.toNat+n)}} else h
def Jx:Q0 ZY->Int->K1 Nat
 | [],_=>none
 | h::l,n=>if h.C.Number==n then some 0 else(Jx l n).map (·+1)
def BN(x:Int):Q0 Int->Q0 Int
 | []=>[x]
 | y::l=>if x < y then x::y::l else if x==y then y::l else y::BN x l
def Ij(a b:Q0 Int):Q0 Int:=a.foldr BN b
def Pe(f g:Nat->Int):Nat->Int:=λk=>if k < 8 then Je (f k) (g k) else f k
def Uc(h s:ZY)(n:Int):ZY:=
 if h.C.Amount==0 then{C:={h.C with Age:=s.C.Age,Woods:=s.C.Woods,Places:=s.C.Places,Amount:=h.C.Amount+n},Fills:=s.Fills}
 else{C:={h.C with Age:=Je h.C.Age s.C.Age,Woods:=Pe h.C.Woods s.C.Woods,Places:=Pe h.C.Places s.C.Places,Amount:=h.C.Amount+n},Fills:=Ij h.Fills s.Fills}
def WE(h:ZY)(n:Int):ZY:=if h.C.Amount - n==0 then{C:={h.C with Age:=0,Woods:=zN,Places:=zN,Amount:=0},Fills:=[]} else{h with C:={h.C with Amount:=h.C.Amount - n}}
def Ow(x:Ev):ZY:=⟨⟨x.Cask,x.Other,x.Where,x.Amount,x.Person, -1,0,0,zN,zN⟩,[]⟩
def BQ(n:Int):ZY:=⟨⟨0,0,0,0,0,0,0,0,zN,zN⟩,[n]⟩
def Aj(l:Q0 ZY)(i:Nat)(c:ZY)(x:Ev)(num:Int):Q0 ZY ⊕ Int:=if c.C.Amount+x.Amount > c.C.Room then .inr 9 else .inl (l.set i<|Uc c (BQ num) x.Amount)
def PY(l:Q0 ZY)(i k:Nat)(c o:ZY)(x:Ev):Q0 ZY ⊕ Int:=
 if i==k then .inr 5
 else if c.C.Owner != o.C.Owner||decide (c.C.Creditor≥0)||decide (o.C.Creditor≥0) then .inr 11
 else if c.C.Amount < x.Amount then .inr 10
 else if o.C.Amount+x.Amount > o.C.Room then .inr 9
 else .inl ((l.set k<|Uc o c x.Amount).set i<|WE c x.Amount)
def AX(l:Q0 ZY)(i:Nat)(c:ZY)(x:Ev):Q0 ZY ⊕ Int:=
 match Jx l x.Other with
 | none=>.inr 4
 | some k=>match l[k]? with
  | none=>.inr 4
  | some o=>PY l i k c o x
def B9(l:Q0 ZY)(i:Nat)(c:ZY)(x:Ev):Q0 ZY ⊕ Int:=if c.C.Creditor≥0 then .inr 11 else if c.C.Amount < x.Amount then .inr 10 else .inl (l.set i<|WE c x.Amount)
def II(l:Q0 ZY)(i:Nat)(c:ZY)(x:Ev):Q0 ZY ⊕ Int:=.inl<|l.set i {c with C:={c.C with Place:=x.Where}}
def RS(l:Q0 ZY)(i:Nat)(c:ZY)(x:Ev):Q0 ZY ⊕ Int:=if c.C.Owner != x.Person||decide (c.C.Creditor≥0) then .inr 11 else if x.To==c.C.Owner then .inr 5 else .inl (l.set i {c with C:={c.C with Owner:=x.To}})
def DZ(l:Q0 ZY)(i:Nat)(c:ZY)(x:Ev):Q0 ZY ⊕ Int:=if c.C.Owner != x.Person then .inr 11 else if c.C.Creditor≥0 then .inr 5 else .inl (l.set i {c with C:={c.C with Creditor:=x.To}})
def Re(l:Q0 ZY)(i:Nat)(c:ZY)(x:Ev):Q0 ZY ⊕ Int:=if c.C.Creditor != x.Person then .inr 11 else .inl (l.set i {c with C:={c.C with Creditor:= -1}})
def Rk(l:Q0 ZY)(i:Nat)(c:ZY)(x:Ev):Q0 ZY ⊕ Int:=if c.C.Amount > 0 then .inr 6 else .inl (l.set i {c with C:={c.C with Wood:=x.Where}})
def XI(l:Q0 ZY)(i:Nat)(c:ZY)(x:Ev)(num:Int):Q0 ZY ⊕ Int:=
 if x.Kind==1 then Aj l i c x num
 else if x.Kind==2 then AX l i c x
 else if x.Kind==3 then B9 l i c x
 else if x.Kind==4 then II l i c x
 else if x.Kind==5 then RS l i c x
 else if x.Kind==6 then DZ l i c x
 else if x.Kind==7 then Re l i c x
 else if x.Kind==8 then Rk l i c x
 else .inl l
def EU(l:Q0 ZY)(x:Ev):Q0 ZY ⊕ Int:=if(Jx l x.Cask).isSome then .inr 5 else if 256<=l.length then .inr 9 else .inl (l++[Ow x])
def DJ(l:Q0 ZY)(x:Ev)(num:Int):Q0 ZY ⊕ Int:=
 if x.Kind==0 then EU l x
 else match Jx l x.Cask with
  | none=>.inr 4
  | some i=>match l[i]? with
   | none=>.inr 4
   | some c=>XI l i c x num
structure D5 where
 all:List ZY
 last:Int
def VQ(n:Nat)(s:D5)(x:Ev):D5 ⊕ Int:=
 if !Xa x then .inr 1 else if x.Day < s.last then .inr 7
 else match DJ (s.all.map<|Jd<|x.Day - s.last) x n with
  | .inl all=>.inl ⟨all,x.Day⟩
  | .inr e=>.inr e
def HY(day:Int):Q0 Ev->Nat->D5->(D5 ⊕ Int)×Nat
 | [],n,s=>(.inl s,n)
 | x::l,n,s=>if x.Day<=day then match VQ n s x with
   | .inl c=>HY day l (n+1) c
   | .inr e=>(.inr e,n)
  else(.inl s,n)
def R2(day:Int)(s:D5):Q0 ZY:=s.all.map<|Jd<|day - s.last
def AK(day:Int)(l:Q0 Ev)(n:Nat)(s:D5):(Q0 ZY ⊕ Int)×Nat:=match HY day l n s with
 | (.inl c,k)=>(.inl<|R2 day c,k)
 | (.inr e,k)=>(.inr e,k)
def JV(l:Q0 Ev)(day:Int):(Q0 ZY ⊕ Int)×Nat:=if l.length > 4096 then(.inr 3,0) else if !W6 day 0 65536 then(.inr 2,0) else AK day l 0 ⟨[],0⟩
def va(f:Nat->Int):Int:=f 0+f 1+f 2+f 3+f 4+f 5+f 6+f 7
structure Li(age:Int)(f:Nat->Int):Prop where
 pos:∀k,0<=f k
 out:∀k,8<=k->f k=0
 sum:va f<=age
theorem Li.le(h:Li a f)(k:Nat):0<=f k/\f k<=a:=by
 refine⟨h.pos k,?_⟩;have c:=h.pos 0;have d:=h.pos 1;have e:=h.pos 2;have g:=h.pos 3;have i:=h.pos 4;have l:=h.pos 5;have m:=h.pos 6;have o:=h.pos 7;have hs:=h.sum;unfold va at hs
 match k with
 | 0=>omega
 | 1=>omega
 | 2=>omega
 | 3=>omega
 | 4=>omega
 | 5=>omega
 | 6=>omega
 | 7=>omega
 | k+8=>have:=h.out (k+8) eB;omega
theorem Li.zero(h:0<=a):Li a zN:=⟨λ_=>Of 0,λ_ _=>rfl,by simpa[va] using h⟩
theorem VJ{v:Int}:ZB f j v j=v:=by simp[ZB]
theorem UR{k:Nat}{v:Int}(h:k≠j):ZB f j v k=f k:=by
 unfold ZB
 have:Nat.beq k j=false:=by
  cases c:Nat.beq k j with
  | false=>rfl
  | true=>exact absurd (j0 c) h
 rw[this]
theorem Li.rH(h:Li a f)(c:j < 8)(g:0<=n):Li (a+n) (ZB f j<|f j+n):=by
 refine⟨λk=> ?_,λk d=> ?_,?_⟩
 ·by_cases e:k=j
  ·subst e;rw[VJ];have:=h.pos k;omega
  ·rw[UR e];exact h.pos k
 ·rw[UR eB];exact h.out k d
 ·have hs:=h.sum;unfold va at hs ⊢
  match j,c with
  | 0,_=>simp[ZB];omega
  | 1,_=>simp[ZB];omega
  | 2,_=>simp[ZB];omega
  | 3,_=>simp[ZB];omega
  | 4,_=>simp[ZB];omega
  | 5,_=>simp[ZB];omega
  | 6,_=>simp[ZB];omega
  | 7,_=>simp[ZB];omega
theorem NF:Je a b<=a/\Je a b<=b/\(Je a b=a∨Je a b=b):=by unfold Je;split<;>omega
theorem Li.min{g:Nat->Int}(h:Li a f)(h' :Li b g):Li (Je a b) (Pe f g):=by
 refine⟨λk=> ?_,λk c=> ?_,?_⟩
 ·unfold Pe;have:=h.pos k;have:=h'.pos k;split
  ·have:=NF (a:=f k) (b:=g k);omega
  ·exact h.pos k
 ·unfold Pe;rw[B1 eB];exact h.out k c
 ·have hs:=h.sum;have d:=h'.sum;unfold va at hs d ⊢
  have e:∀k,k < 8->Pe f g k<=f k/\Pe f g k<=g k:=λk c=>by
   unfold Pe;rw[BY c];have:=NF (a:=f k) (b:=g k);omega
  have i:=e 0 eT;have l:=e 1 eT;have m:=e 2 eT;have o:=e 3 eT;have p:=e 4 eT;have q:=e 5 eT;have r:=e 6 eT;have s:=e 7 eT;have:=NF (a:=a) (b:=b);omega
structure E8(last:Int)(n:Nat)(h:ZY):Prop where
 num:0<=h.C.Number/\h.C.Number<=1073741824
 wood:0<=h.C.Wood/\h.C.Wood<=7
 place:0<=h.C.Place/\h.C.Place<=7
 room:1<=h.C.Room/\h.C.Room<=1099511627776
 owner:0<=h.C.Owner/\h.C.Owner<=1073741824
 cred: -1<=h.C.Creditor/\h.C.Creditor<=1073741824
 amt:0<=h.C.Amount/\h.C.Amount<=h.C.Room
 age:0<=h.C.Age/\h.C.Age<=last
 woods:Li h.C.Age h.C.Woods
 places:Li h.C.Age h.C.Places
 empty:h.C.Amount=0->h.C.Age=0/\h.C.Woods=zN/\h.C.Places=zN/\h.Fills=[]
 fills:h.Fills.Pairwise (·< ·)/\∀f∈h.Fills,0<=f/\f < n
 some:0 < h.C.Amount->h.Fills≠[]
structure Ar(last:Int)(n:Nat)(l:List ZY):Prop where
 each:∀h∈l,E8 last n h
 nums:(l.map (·.C.Number)).Nodup
 few:l.length<=256
structure H3(n:Nat)(s:D5):Prop where
 day:0<=s.last/\s.last<=65536
 ok:Ar s.last n s.all
theorem J3:W6 n a b=true↔a<=n/\n<=b:=by simp[W6]
theorem qL{last:Int}{m:Nat}(c:E8 last m h)(d:0<=n):E8 (last+n) m (Jd n h):=by
 unfold Jd;split
 ·rename_i g;refine⟨c.num,c.wood,c.place,c.room,c.owner,c.cred,c.amt,⟨by have:=c.age;simp;omega,by have:=c.age;simp;omega⟩,c.woods.rH (by have:=c.wood;omega) d,c.places.rH (by have:=c.place;omega) d,λe=> ?_,c.fills,c.some⟩;have:h.C.Amount=0:=e;omega
 ·exact⟨c.num,c.wood,c.place,c.room,c.owner,c.cred,c.amt,⟨c.age.1,by have:=c.age.2;omega⟩,c.woods,c.places,c.empty,c.fills,c.some⟩
theorem EM:(Jd n h).C.Number=h.C.Number:=by unfold Jd;split<;>rfl
theorem Pc{last:Int}{m:Nat}{l:Q0 ZY}(c:Ar last m l)(d:0<=n):Ar (last+n) m (l.map<|Jd n):=by
 refine⟨λh e=> ?_,?_,by simpa using c.few⟩
 ·obtain⟨g,i,rfl⟩:=rm.1 e;exact qL (c.each g i) d
 ·rw[lJ];have:((λx:ZY=>x.C.Number)∘Jd n)=λx=>x.C.Number:=funext λx=>EM;rw[this];exact c.nums
theorem yD:Jd b (Jd a h)=Jd (a+b) h:=by
 unfold Jd;by_cases c:0 < h.C.Amount
 ·simp only[c,B2]
  have e:∀(f:Nat->Int) (j:Nat),ZB (ZB f j<|f j+a) j (ZB f j (f j+a) j+b)=ZB f j (f j+(a+b)):=λf j=>by
   funext k;unfold ZB;cases d:Nat.beq k j with
   | true=>simp;omega
   | false=>simp
  simp only[e];congr 2;omega
 ·simp only[c,Bm]
end
section
open Go.Dec
variable{last n:Int}{x:Ev}{l:Q0 ZY}{h:ZY}{i m:Nat}
theorem MI{x y:Int}:∀{l:Q0 Int},y∈BN x l↔y=x∨y∈l
 | []=>by simp[BN]
 | z::l=>by
  simp only[BN];split
  ·simp
  ·split
   ·rename_i h;have:=(mX.1 h:x=z);subst this;simp
   ·simp only[TO,MI (l:=l)];constructor
    ·rintro(h | h | h)
     ·exact .inr<|.inl h
     ·exact .inl h
     ·exact .inr<|.inr h
    ·rintro(h | h | h)
     ·exact .inr<|.inl h
     ·exact .inl h
     ·exact .inr<|.inr h
theorem Fs{x:Int}:∀{l:Q0 Int},l.Pairwise (·< ·)->(BN x l).Pairwise (·< ·)
 | [],_=>by simp[BN]
 | z::l,h=>by
  have c:=qs.1 h;simp only[BN];split
  ·rename_i d;refine qs.2 ⟨λa b=> ?_,h⟩;rcases TO.1 b with rfl | b
   ·exact d
   ·have:=c.1 a b;omega
  ·split
   ·exact h
   ·rename_i j f;have g:x≠z:=λe=>f (by simp[e]);refine qs.2 ⟨λa b=> ?_,Fs c.2⟩;rcases MI.1 b with rfl | b
    ·omega
    ·exact c.1 a b
theorem MG{a b:Q0 Int}{y:Int}:y∈Ij a b↔y∈a∨y∈b:=by
 unfold Ij
 induction a with
 | nil=>simp
 | cons x a c=>simp only[List.foldr_cons,MI,c,TO,or_assoc]
theorem zU{a b:Q0 Int}(h:b.Pairwise (·< ·)):(Ij a b).Pairwise (·< ·):=by
 unfold Ij
 induction a with
 | nil=>exact h
 | cons x a c=>exact Fs c
theorem Br:∀{a b:Q0 Int},a.Pairwise (·< ·)->b.Pairwise (·< ·)->(∀x,x∈a↔x∈b)->a=b
 | [],[],_,_,_=>rfl
 | [],y::b,_,_,h=>by have:=(h y).2 eF;simp at this
 | x::a,[],_,_,h=>by have:=(h x).1 eF;simp at this
 | x::a,y::b,o,p,h=>by
  have c:=qs.1 o;have d:=qs.1 p
  have g:x=y:=by
   have j:=(h x).1 eF;have k:=(h y).2 eF;rcases TO.1 j with e | j
   ·exact e
   ·rcases TO.1 k with e | k
    ·exact e.symm
    ·have:=d.1 x j;have:=c.1 y k;omega
  subst g;congr 1;refine Br c.2 d.2 λz=> ?_;constructor
  ·intro f;have:=(h z).1<|L3 _ f;rcases TO.1 this with rfl | this
   ·have:=c.1 z f;omega
   ·exact this
  ·intro f;have:=(h z).2<|L3 _ f;rcases TO.1 this with rfl | this
   ·have:=d.1 z f;omega
   ·exact this
theorem FT:∀{l:Q0 ZY} {i:Nat},Jx l n=some i->∃h,l[i]? =some h/\h.C.Number=n
 | [],_,h=>by cases h
 | h::l,i,e=>by
  simp only[Jx] at e
  split at e
  ·rename_i b;cases e;exact⟨h,rfl,mX.1 b⟩
  ·cases a:Jx l n with
   | none=>rw[a] at e;cases e
   | some j=>
    rw[a] at e
    simp only[L4,W1] at e
    subst e;obtain⟨h',c,d⟩:=FT a;exact⟨h',by simpa using c,d⟩
theorem BO:∀{l:Q0 ZY},Jx l n=none->∀h∈l,h.C.Number≠n
 | [],_,_,h=>by cases h
 | h::l,e,h',a=>by
  simp only[Jx] at e
  split at e
  ·cases e
  ·rename_i c;cases b:Jx l n with
   | some j=>rw[b] at e;cases e
   | none=>
    rcases TO.1 a with rfl | a
    ·intro d;exact c<|by simp[d]
    ·exact BO b h' a
theorem AF(d:(l.map (·.C.Number)).Nodup)(hi:l[i]? =some h):Jx l h.C.Number=some i:=by
 cases b:Jx l h.C.Number with
 | none=>exact absurd rfl (BO b h<|T2 hi)
 | some j=>
  obtain⟨h',f,e⟩:=FT b;have c:(l.map (·.C.Number))[i]? =some h.C.Number:=by simp[hi]
  have g:(l.map (·.C.Number))[j]? =some h.C.Number:=by simp[f,e]
  have a:i < (l.map (·.C.Number)).length:=(DO.1 c).1;rw[(List.getElem?_inj a d).1<|c.trans g.symm]
theorem E8.up{n:Nat}(a:E8 last n h):E8 last (n+1) h:={a with fills:=⟨a.fills.1,λf b=>by have:=a.fills.2 f b;omega⟩}
theorem Ar.set{n:Nat}{h':ZY}(a:Ar last n l)(hi:l[i]? =some h)(b:E8 last n h')(f:h'.C.Number=h.C.Number):Ar last n (l.set i h'):=by
 refine⟨λx g=> ?_,?_,by simpa using a.few⟩
 ·rcases List.mem_or_eq_of_mem_set g with c | c
  ·exact a.each x c
  ·rw[c];exact b
 ·have:(l.set i h').map (·.C.Number)=l.map (·.C.Number):=by
   apply mc;intro j;simp only[x8,mu];by_cases e:i=j
   ·subst e;have d:=(DO.1 hi).1;have b:=(DO.1 hi).2;simp[d,f,b]
   ·simp[e]
  rw[this];exact a.nums
theorem Ar.up{n:Nat}(a:Ar last n l):Ar last (n+1) l:=⟨λh b=>(a.each h b).up,a.nums,a.few⟩
theorem ky{s:ZY}(c:E8 last m h)(z:1<=n)(p:h.C.Amount+n<=h.C.Room)(v:0<=s.C.Age/\s.C.Age<=last)(q:Li s.C.Age s.C.Woods)(r:Li s.C.Age s.C.Places)(j:s.Fills.Pairwise (·< ·)/\∀f∈s.Fills,0<=f/\f < m)(k:s.Fills≠[]):E8 last m (Uc h s n):=by
 unfold Uc;split
 ·rename_i o;have w:h.C.Amount=0:=mX.1 o;refine⟨c.num,c.wood,c.place,c.room,c.owner,c.cred,⟨by show 0<=h.C.Amount+n;omega,p⟩,v,q,r,λe=> ?_,j,λ_=>k⟩;have:h.C.Amount+n=0:=e;omega
 ·rename_i o
  have g:0 < h.C.Amount:=by
   have:=c.amt.1;have:h.C.Amount≠0:=λe=>o (by simp[e]);omega
  refine⟨c.num,c.wood,c.place,c.room,c.owner,c.cred,⟨by show 0<=h.C.Amount+n;omega,p⟩,?_,c.woods.min q,c.places.min r,λe=> ?_,?_,λ_=> ?_⟩
  ·have:=c.age;have:=NF (a:=h.C.Age) (b:=s.C.Age);show 0<=Je _ _/\Je _ _<=last;omega
  ·have:h.C.Amount+n=0:=e;omega
  ·refine⟨zU j.1,λf d=> ?_⟩;rcases MG.1 d with d | d
   ·exact c.fills.2 f d
   ·exact j.2 f d
  ·intro e;have d:=c.some g;cases u:h.Fills with
   | nil=>exact d u
   | cons a t=>
    have:a∈Ij h.Fills s.Fills:=MG.2 (.inl (by rw[u];simp));have y:Ij h.Fills s.Fills=[]:=e;rw[y] at this;cases this
theorem Oy(a:E8 last m h)(g:1<=n)(j:n<=h.C.Amount)(d:0<=last):E8 last m (WE h n):=by
 unfold WE;split
 ·have b:=a.room;exact⟨a.num,a.wood,a.place,a.room,a.owner,a.cred,⟨Of 0,by show(0:Int)<=h.C.Room;omega⟩,⟨Of 0,d⟩,Li.zero<|Of 0,Li.zero<|Of 0,λ_=>⟨rfl,rfl,rfl,rfl⟩,⟨List.Pairwise.nil,λ_ h=>by cases h⟩,λh=>by have h' :(0:Int) < 0:=h;omega⟩
 ·rename_i f;have c:h.C.Amount - n≠0:=λe=>f (by simp[e]);have k:=a.amt;refine⟨a.num,a.wood,a.place,a.room,a.owner,a.cred,⟨by show 0<=h.C.Amount - n;omega,by show h.C.Amount - n<=h.C.Room;omega⟩,a.age,a.woods,a.places,λe=>absurd e c,a.fills,λ_=>a.some eB⟩
theorem MW(h:Xa x=true):(0<=x.Day/\x.Day<=65536)/\(0<=x.Cask/\x.Cask<=1073741824):=by
 simp only[Xa,Do,J3] at h
 exact⟨h.1.1,h.1.2⟩
theorem bp(h:Xa x=true)(k:x.Kind=0):(0<=x.Other/\x.Other<=7)/\(0<=x.Where/\x.Where<=7)/\(1<=x.Amount/\x.Amount<=1099511627776)/\(0<=x.Person/\x.Person<=1073741824):=by
 simp only[Xa,Do,J3,k,BEq.rfl,B2] at h
 obtain⟨_,⟨⟨⟨a,b⟩,c⟩,d⟩⟩:=h;exact⟨a,b,c,d⟩
theorem IA(h:Xa x=true):(if x.Kind==0 then W6 x.Other 0 7&&W6 x.Where 0 7&&W6 x.Amount 1 1099511627776&&W6 x.Person 0 1073741824
 else if x.Kind==1||x.Kind==3 then W6 x.Amount 1 1099511627776
 else if x.Kind==2 then W6 x.Other 0 1073741824&&W6 x.Amount 1 1099511627776
 else if x.Kind==4 then W6 x.Where 0 7
 else if x.Kind==5||x.Kind==6 then W6 x.Person 0 1073741824&&W6 x.To 0 1073741824
 else if x.Kind==7 then W6 x.Person 0 1073741824
 else if x.Kind==8 then W6 x.Where 0 7 else false)=true:=((Do _ _).mp h).2
theorem De(h:Xa x=true)(k:x.Kind=1∨x.Kind=2∨x.Kind=3):1<=x.Amount/\x.Amount<=1099511627776:=by
 have h:=IA h;rcases k with k | k | k<;>rw[k] at h
 ·exact J3.1 h
 ·exact J3.1 ((Do _ _).mp h).2
 ·exact J3.1 h
theorem df(h:Xa x=true)(k:x.Kind=4∨x.Kind=8):0<=x.Where/\x.Where<=7:=by
 have h:=IA h;rcases k with k | k<;>rw[k] at h
 ·exact J3.1 h
 ·exact J3.1 h
theorem de(h:Xa x=true)(k:x.Kind=5∨x.Kind=6):0<=x.To/\x.To<=1073741824:=by
 have h:=IA h;rcases k with k | k<;>rw[k] at h
 ·exact J3.1 ((Do _ _).mp h).2
 ·exact J3.1 ((Do _ _).mp h).2
theorem kinds(h:Xa x=true):x.Kind=0∨x.Kind=1∨x.Kind=2∨x.Kind=3∨x.Kind=4∨x.Kind=5∨x.Kind=6∨x.Kind=7∨x.Kind=8:=by
 have h:=IA h;by_cases a:x.Kind=0
 ·exact .inl a
 rw[B1<|by simpa using a] at h
 by_cases b:x.Kind=1
 ·exact .inr<|.inl b
 by_cases c:x.Kind=3
 ·exact .inr<|.inr<|.inr<|.inl c
 rw[B1<|by simp[b,c]] at h
 by_cases d:x.Kind=2
 ·exact .inr<|.inr<|.inl d
 rw[B1<|by simpa using d] at h
 by_cases e:x.Kind=4
 ·exact .inr<|.inr<|.inr<|.inr<|.inl e
 rw[B1<|by simpa using e] at h
 by_cases f:x.Kind=5
 ·exact .inr<|.inr<|.inr<|.inr<|.inr<|.inl f
 by_cases g:x.Kind=6
 ·exact .inr<|.inr<|.inr<|.inr<|.inr<|.inr<|.inl g
 rw[B1<|by simp[f,g]] at h
 by_cases j:x.Kind=7
 ·exact .inr<|.inr<|.inr<|.inr<|.inr<|.inr<|.inr<|.inl j
 rw[B1<|by simpa using j] at h
 by_cases k:x.Kind=8
 ·exact .inr<|.inr<|.inr<|.inr<|.inr<|.inr<|.inr<|.inr k
 rw[B1<|by simpa using k] at h
 cases h
section
variable{last:Int}{m:Nat}{l l' :Q0 ZY}{x:Ev}{i:Nat}{c:ZY}
theorem jF(f:Ar last m l)(o:0<=last)(g:Xa x=true)(p:x.Kind=0)(h:EU l x= .inl l'):Ar last (m+1) l' :=by
 unfold EU at h
 split at h
 ·cases h
 ·rename_i q;split at h
  ·cases h
  ·rename_i j;cases h;obtain⟨r,s,t,u⟩:=bp g p;have v:=(MW g).2;refine⟨λy d=> ?_,?_,by simp;omega⟩
   ·rcases mg.1 d with d | d
    ·exact(f.each y d).up
    ·simp only[ts] at d
     subst d;exact⟨v,r,s,t,u,by simp[Ow],⟨Of 0,by show(0:Int)<=x.Amount;omega⟩,⟨Of 0,o⟩,Li.zero<|Of 0,Li.zero<|Of 0,λ_=>⟨rfl,rfl,rfl,rfl⟩,⟨List.Pairwise.nil,λ_ h=>by cases h⟩,λh=>by have h' :(0:Int) < 0:=h;omega⟩
   ·rw[ob,List.nodup_append];refine⟨f.nums,by simp,λa w b k=> ?_⟩;simp only[E4,oV,ts] at k
    obtain⟨y,d,rfl⟩:=rm.1 w;subst k;have e:Jx l x.Cask=none:=by simpa using q
    exact BO e y d
theorem jM(d:Ar last m l)(j:0<=last)(e:l[i]? =some c)(k:1<=x.Amount)(h:Aj l i c x m= .inl l'):Ar last (m+1) l' :=by
 have a:=d.each c<|T2 e;unfold Aj at h
 split at h
 ·cases h
 ·rename_i b;cases h;refine(d.up).set e (ky a.up k eB ⟨Of 0,j⟩ (Li.zero<|Of 0) (Li.zero<|Of 0) ⟨by simp[BQ],λf g=> ?_⟩<|by simp[BQ]) ?_
  ·simp only[BQ,ts] at g
   subst g;omega
  ·unfold Uc;split<;>rfl
theorem kv(g:Ar last m l)(t:0<=last)(q:l[i]? =some c)(r:1<=x.Amount)(h:AX l i c x= .inl l'):Ar last (m+1) l' :=by
 have a:=g.each c<|T2 q;unfold AX at h
 split at h
 ·cases h
 ·rename_i k u;split at h
  ·cases h
  ·rename_i o b;have j:=g.each o<|T2 b;unfold PY at h
   split at h
   ·cases h
   ·rename_i p;have d:i≠k:=λe=>p (by simp[e]);split at h
    ·cases h
    ·split at h
     ·cases h
     ·split at h
      ·cases h
      ·rename_i v w;cases h;have f:0 < c.C.Amount:=by omega
       have y:=(g.up).set b (ky (s:=c) j.up r eB a.age a.woods a.places a.up.fills<|a.some f) (by unfold Uc;split<;>rfl);refine y.set (h:=c) ?_ (Oy a.up r eB t) (by unfold WE;split<;>rfl);rw[y1 λe=>d e.symm];exact q
theorem uk(b:Ar last m l)(e:0<=last)(d:l[i]? =some c)(f:1<=x.Amount)(h:B9 l i c x= .inl l'):Ar last (m+1) l' :=by
 have a:=b.each c<|T2 d;unfold B9 at h
 split at h
 ·cases h
 ·split at h
  ·cases h
  ·cases h;exact(b.up).set d (Oy a.up f eB e) (by unfold WE;split<;>rfl)
theorem fK(b:Ar last m l)(f:0<=last)(e:Xa x=true)(g:x.Kind≠0)(d:l[i]? =some c)(h:XI l i c x m= .inl l'):Ar last (m+1) l' :=by
 have a:=b.each c<|T2 d;rcases kinds e with k | k | k | k | k | k | k | k | k
 ·exact absurd k g
 ·have h:Aj l i c x m= .inl l' :=by rw[<-h];unfold XI;rw[k];rfl
  exact jM b f d (De e<|.inl k).1 h
 ·have h:AX l i c x= .inl l' :=by rw[<-h];unfold XI;rw[k];rfl
  exact kv b f d (De e<|.inr<|.inl k).1 h
 ·have h:B9 l i c x= .inl l' :=by rw[<-h];unfold XI;rw[k];rfl
  exact uk b f d (De e<|.inr<|.inr k).1 h
 ·have h:II l i c x= .inl l' :=by rw[<-h];unfold XI;rw[k];rfl
  cases h;exact(b.up).set d {a.up with place:=df e (.inl k)} rfl
 ·have h:RS l i c x= .inl l' :=by rw[<-h];unfold XI;rw[k];rfl
  unfold RS at h
  split at h
  ·cases h
  ·split at h
   ·cases h
   ·cases h;exact(b.up).set d {a.up with owner:=de e (.inl k)} rfl
 ·have h:DZ l i c x= .inl l' :=by rw[<-h];unfold XI;rw[k];rfl
  unfold DZ at h
  split at h
  ·cases h
  ·split at h
   ·cases h
   ·cases h;have:=de e<|.inr k;exact(b.up).set d {a.up with cred:=⟨by show -1<=x.To;omega,this.2⟩} rfl
 ·have h:Re l i c x= .inl l' :=by rw[<-h];unfold XI;rw[k];rfl
  unfold Re at h
  split at h
  ·cases h
  ·cases h;exact(b.up).set d {a.up with cred:=⟨Of _,by show(-1:Int)<=_;omega⟩} rfl
 ·have h:Rk l i c x= .inl l' :=by rw[<-h];unfold XI;rw[k];rfl
  unfold Rk at h
  split at h
  ·cases h
  ·cases h;exact(b.up).set d {a.up with wood:=df e (.inr k)} rfl
theorem um(b:Ar last m l)(d:0<=last)(f:Xa x=true)(h:DJ l x m= .inl l'):Ar last (m+1) l' :=by
 unfold DJ at h
 split at h
 ·rename_i a;exact jF b d f (mX.1 a) h
 ·rename_i a;split at h
  ·cases h
  ·split at h
   ·cases h
   ·rename_i c g;exact fK b d f (λe=>a<|by simp[e]) g h
end
theorem Te{n:Nat}{s c:D5}(g:H3 n s)(h:VQ n s x= .inl c):H3 (n+1) c/\Xa x=true/\s.last<=x.Day/\c.last=x.Day:=by
 unfold VQ at h
 split at h
 ·cases h
 ·rename_i a;have a:Xa x=true:=by simpa using a
  split at h
  ·cases h
  ·rename_i j;split at h
   ·rename_i all b;cases h;have d:=(MW a).1;have f:=Pc g.ok (n:=x.Day - s.last) eB;have e:s.last+(x.Day - s.last)=x.Day:=by omega
    rw[e] at f
    exact⟨⟨d,um f d.1 a b⟩,a,by omega,rfl⟩
   ·cases h
theorem H3.start:H3 0 ⟨[],0⟩:=⟨⟨Of 0,by decide⟩,⟨λ_ h=>(by cases h),iZ,by simp⟩⟩
end
section
open Go.Dec
theorem Av{n:Int}:∀{l:Q0 Int} (a:Int),l.Pairwise (·< ·)->(∀f∈l,a<=f/\f < n)->a<=n->(l.length:Int)<=n - a
 | [],a,_,_,h=>by simp;omega
 | x::l,a,h,b,_=>by
  have h' :=qs.1 h;have d:=b x eF;have:=Av (l:=l) (x+1) h'.2 (λf c=>⟨by have:=h'.1 f c;omega,(b f<|L3 _ c).2⟩) eB;simp only[OF];omega
def Rt(i:Nat)(f g:Nat->Int):Nat->Int:=λk=>if k < i then Je (f k) (g k) else f k
theorem ES{i:Nat}{f g:Nat->Int}:ZB (Rt i f g) i (Je (f i)<|g i)=Rt (i+1) f g:=by
 funext k;by_cases e:k=i
 ·subst e;rw[VJ];unfold Rt;rw[BY eB]
 ·rw[UR e];unfold Rt;by_cases h:k < i
  ·rw[BY h,BY eB]
  ·rw[B1 h,B1 eB]
theorem uF{f g:Nat->Int}:Rt 0 f g=f:=by funext k;unfold Rt;rw[B1 eB]
theorem bn{x:Ev}(h:Xa x=true):0<=x.Day/\x.Day<=65536:=(MW h).1
theorem Ee{day:Int}:∀(l:Q0 Ev) (n:Nat) (s a:D5) (k:Nat),H3 n s->s.last<=day->HY day l n s=(.inl a,k)->H3 k a/\a.last<=day/\n<=k/\k<=n+l.length
 | [],n,s,a,k,b,c,h=>by
  simp only[HY,L0,x2] at h
  obtain⟨rfl,rfl⟩:=h;exact⟨b,c,S2 _,by simp⟩
 | x::l,n,s,a,k,b,c,h=>by
  simp only[HY] at h
  by_cases d:x.Day<=day
  ·rw[BY d] at h
   cases hs:VQ n s x with
   | inl f=>
    rw[hs] at h
    obtain⟨g,_,_,m⟩:=Te b hs;obtain⟨i,j,o,p⟩:=Ee l (n+1) f a k g eB h;exact⟨i,j,by omega,by simp;omega⟩
   | inr e=>rw[hs] at h;cases h
  ·rw[B1 d] at h
   simp only[L0,x2] at h
   obtain⟨rfl,rfl⟩:=h;exact⟨b,c,S2 _,by simp⟩
end
section
open Go.Dec
variable{c:QK}{t:Int}{A1:Q0 QK}{n:Nat}{h:ZY}
abbrev FM:=Q0<|Q0<|Int×Bool
variable{A3:FM}
def UM(c:QK)(F:Q0 Int):ZY:=⟨⟨c.number,c.wood,c.place,c.room,c.owner,c.creditor,c.amount,c.times.age,c.times.woods,c.times.places⟩,F⟩
def FR(A3:FM)(p:K1 Nat)(F:Q0 Int):Prop:=match p with
 | none=>F=[]
 | some j=>∃l,A3[j]? =some l/\(l.map Prod.fst).Nodup/\∀x,x∈F↔x∈l.map Prod.fst
structure CR(t:Int)(n:Nat)(A3:FM)(c:QK)(h:ZY):Prop where
 since:0<=c.since/\c.since<=t
 ok:E8 c.since n (UM c h.Fills)
 eq:h=Jd (t - c.since) (UM c h.Fills)
 fills:FR A3 c.fills h.Fills
structure PR(t:Int)(n:Nat)(all:List ZY)(A1:List QK)(A3:FM)(m:List (Int×Option Nat)):Prop where
 len:A1.length=all.length
 each:∀(k:Nat) (c:QK) (h:ZY),A1[k]? =some c->all[k]? =some h->CR t n A3 c h
 map:m=A1.mapIdx (λk c=>(c.number,some k))
 apart:∀(i j:Nat) (ci cj:QK) (q:Nat),A1[i]? =some ci->A1[j]? =some cj->ci.fills=some q->cj.fills=some q->i=j
theorem SC{n:Int}:(Jd n h).Fills=h.Fills:=by unfold Jd;split<;>rfl
theorem S3:Jd 0 h=h:=by
 unfold Jd;split
 ·have e:∀(f:Nat->Int) (j:Nat),ZB f j (f j)=f:=λf j=>by
   funext k;by_cases e:k=j
   ·subst e;rw[VJ]
   ·rw[UR e]
  simp only[iH,e]
 ·rfl
theorem CR.number(r:CR t n A3 c h):h.C.Number=c.number:=by rw[r.eq,EM];rfl
theorem CR.shift{t':Int}(r:CR t n A3 c h)(le:t<=t'):CR t' n A3 c (Jd (t' - t) h):=by
 refine⟨⟨r.since.1,by have:=r.since.2;omega⟩,?_,?_,?_⟩
 ·rw[SC];exact r.ok
 ·rw[SC]
  conv=>lhs;rw[r.eq]
  rw[yD];congr 1;omega
 ·rw[SC];exact r.fills
theorem PR.shift{t':Int}{all:Q0 ZY}{m:Q0 (Int×K1 Nat)}(r:PR t n all A1 A3 m)(le:t<=t'):PR t' n (all.map<|Jd<|t' - t) A1 A3 m:=by
 refine⟨by simpa using r.len,λk c h d a=> ?_,r.map,r.apart⟩;rw[x8] at a
 cases b:all[k]? with
 | none=>rw[b] at a;cases a
 | some e=>
  rw[b] at a
  simp only[L4,W1] at a
  subst a;exact(r.each k c e d b).shift le
def XQ(t:Int)(c:QK):QK:=if 0 < c.amount then{c with since:=t,times:=⟨c.times.age+(t - c.since),ZB c.times.woods c.wood.toNat<|c.times.woods c.wood.toNat+(t - c.since),ZB c.times.places c.place.toNat<|c.times.places c.place.toNat+(t - c.since)⟩} else{c with since:=t}
theorem I8{F:Q0 Int}:UM (XQ t c) F=Jd (t - c.since) (UM c F):=by
 unfold XQ Jd;by_cases h:0 < c.amount
 ·rw[BY h,BY<|show 0 < (UM c F).C.Amount from h];rfl
 ·rw[B1 h,B1<|show ¬0 < (UM c F).C.Amount from h];rfl
theorem XP:(XQ t c).since=t:=by unfold XQ;split<;>rfl
theorem RT:(XQ t c).number=c.number:=by unfold XQ;split<;>rfl
theorem C6:(XQ t c).fills=c.fills:=by unfold XQ;split<;>rfl
theorem CR.rest(r:CR t n A3 c h):CR t n A3 (XQ t c) h:=by
 refine⟨⟨by rw[XP];have:=r.since;omega,by rw[XP];exact Of t⟩,?_,?_,by rw[C6];exact r.fills⟩
 ·rw[I8,XP];have:=qL r.ok (n:=t - c.since) (by have:=r.since;omega);have e:c.since+(t - c.since)=t:=by omega
  rwa[e] at this
 ·rw[I8,XP,eo,S3];exact r.eq
theorem L8{k:Nat}{F:Q0 Int}(g:A1[k]? =some c)(d:E8 c.since n (UM c F))(_h0:0<=c.since)(l:c.since<=t)(m:t<=1000000):UZ A1 (some k) t=some (A1.set k<|XQ t c):=by
 have o:k < A1.length:=(DO.1 g).1;have e:=d.age;have b:=d.wood;have a:=d.place;have i:Yu 8 c.wood=some c.wood.toNat:=by unfold Yu;rw[BY (by have:0<=c.wood/\c.wood<=7:=b;omega)]
 have j:Yu 8 c.place=some c.place.toNat:=by unfold Yu;rw[BY (by have:0<=c.place/\c.place<=7:=a;omega)]
 have p:0<=c.times.woods c.wood.toNat/\c.times.woods c.wood.toNat<=c.times.age:=d.woods.le _;have q:0<=c.times.places c.place.toNat/\c.times.places c.place.toNat<=c.times.age:=d.places.le _;have r:0<=c.times.age/\c.times.age<=c.since:=e;unfold UZ;simp only[K2,g,QS];rw[Qo (n:=t - c.since) eB eB];by_cases f:0 < c.amount
 ·rw[BY<|by simpa using f];simp only[i,j,K2,mr];rw[Qo (n:=c.times.age+(t - c.since)) eB eB,Qo (n:=c.times.woods c.wood.toNat+(t - c.since)) eB eB,Qo (n:=c.times.places c.place.toNat+(t - c.since)) eB eB];simp only[XQ,f,B2]
 ·rw[B1<|by simpa using f];simp only[XQ,f,Bm]
theorem MK{num:Int}:∀(A1:Q0 QK) (all:Q0 ZY) (b:Nat),A1.length=all.length->(∀(k:Nat) (c:QK) (h:ZY),A1[k]? =some c->all[k]? =some h->h.C.Number=c.number)->
  (Qc (A1.mapIdx λk c=>(c.number,some<|b+k)) num).getD none=(Jx all num).map (b+ ·)
 | [],[],_,_,_=>rfl
 | [],_::_,_,h,_=>by simp at h
 | _::_,[],_,h,_=>by simp at h
 | c::A1,h::all,b,m,g=>by
  have l:=g 0 c h rfl rfl;rw[List.mapIdx_cons];simp only[Qc,Jx];by_cases e:num=c.number
  ·have d:(num==c.number)=true:=by simpa using e
   have f:(h.C.Number==num)=true:=by simp[l,e]
   simp[d,f]
  ·have d:(num==c.number)=false:=by simpa using e
   have f:(h.C.Number==num)=false:=by simp[l];exact λo=>e o.symm
   have p:=MK (num:=num) A1 all (b+1) (by simpa using m) (λk c h q r=>g (k+1) c h (by simpa using q)<|by simpa using r);simp only[d,f,W2,Bm];have s:(fun(i:Nat) (a:QK)=>(a.number,some<|b+(i+1)))=λk c=>(c.number,some<|b+1+k):=by funext i a;rw[show b+(i+1)=b+1+i by omega]
   rw[s,p];cases Jx all num with
   | none=>rfl
   | some j=>simp;omega
theorem PR.get{all:Q0 ZY}{m:Q0 (Int×K1 Nat)}(r:PR t n all A1 A3 m)(num:Int):(Qc m num).getD none=Jx all num:=by
 have:=MK (num:=num) A1 all 0 r.len λk c h a b=>(r.each k c h a b).number;rw[r.map];simpa using this
end
section
open Go.Dec
variable{c c':QK}{A1:Q0 QK}{F:Q0 Int}{A3:FM}{h:ZY}{t:Int}{n k:Nat}
theorem CR.up(r:CR t n A3 c h):CR t (n+1) A3 c h:=⟨r.since,r.ok.up,r.eq,r.fills⟩
theorem FR.keep{A3':FM}{p:K1 Nat}(r:FR A3 p F)(h:∀q,p=some q->A3'[q]? =A3[q]?):FR A3' p F:=by
 cases p with
 | none=>exact r
 | some q=>obtain⟨l,a,b⟩:=r;exact⟨l,by rw[h q rfl];exact a,b⟩
theorem mapIdx_set(b:A1[k]? =some c)(d:c'.number=c.number):(A1.set k c').mapIdx (λk c=>(c.number,some k))=A1.mapIdx (λk (c:QK)=>(c.number,some k)):=by
 apply mc;intro i;simp only[ls,mu];by_cases e:k=i
 ·subst e;have a:=(DO.1 b).1;have f:=(DO.1 b).2;simp[a,d,f]
 ·simp[e]
section
variable{t:Int}{n n' :Nat}{all:Q0 ZY}{A1:Q0 QK}{A3 A3' :FM}{m:Q0 (Int×K1 Nat)}{k:Nat}{c c' :QK}{h h' :ZY}
theorem PR.set(r:PR t n all A1 A3 m)(x:A1[k]? =some c)(z:all[k]? =some h)(o:c'.number=c.number)(p:CR t n' A3' c' h')(d:∀(i:Nat) (ci:QK) (hi:ZY),i≠k->A1[i]? =some ci->all[i]? =some hi->CR t n' A3' ci hi)
  (g:∀(i:Nat) (ci:QK) (q:Nat),i≠k->A1[i]? =some ci->ci.fills=some q->c'.fills≠some q):PR t n' (all.set k h') (A1.set k c') A3' m:=by
 have s:=(DO.1 x).1;have u:=(DO.1 z).1;refine⟨by simpa using r.len,λi ci hi b a=> ?_,by rw[mapIdx_set x o];exact r.map,λi j ci y q b a v w=> ?_⟩
 ·by_cases e:k=i
  ·subst e;rw[y0 s] at b
   rw[y0 u] at a
   cases b;cases a;exact p
  ·rw[y1 e] at b a
   exact d i ci hi (λl=>e l.symm) b a
 ·by_cases e:k=i
  ·by_cases f:k=j
   ·rw[<-e,<-f]
   ·subst e;rw[y0 s] at b
    rw[y1 f] at a
    cases b;exact absurd v<|g j y q (λl=>f l.symm) a w
  ·rw[y1 e] at b
   by_cases f:k=j
   ·subst f;rw[y0 s] at a
    cases a;exact absurd w<|g i ci q (λl=>e l.symm) b v
   ·rw[y1 f] at a
    exact r.apart i j ci y q b a v w
theorem PR.ng(r:PR t n all A1 A3 m)(j:A1[k]? =some c)(l:all[k]? =some h)(d:c'.number=c.number)(e:CR t (n+1) A3 c' h')(a:c'.fills=c.fills∨c'.fills=none):PR t (n+1) (all.set k h') (A1.set k c') A3 m:=
 r.set j l d e (λi ci hi _ f g=>(r.each i ci hi f g).up) (λi ci q hi f g b=>by
  rcases a with a | a
  ·rw[a] at b;exact hi<|r.apart i k ci c q f j g b
  ·rw[a] at b;cases b)
theorem PR.rest(r:PR t n all A1 A3 m)(a:A1[k]? =some c):PR t n all (A1.set k<|XQ t c) A3 m:=by
 have j:=(DO.1 a).1;have b:k < all.length:=by rw[<-r.len];exact j
 have f:all[k]? =some all[k]:=C1 b
 have:=r.set (n' :=n) (A3' :=A3) (c' :=XQ t c) (h' :=all[k]) a f RT (r.each k c _ a f).rest (λi ci hi _ d e=>r.each i ci hi d e) λi ci q hi d e g=>by
  rw[C6] at g;exact hi<|r.apart i k ci c q d a e g
 rwa[ix] at this
theorem Xr{e:Qm}{num:Int}(r:PR t n all A1 A3 m)(q:t<=1000000)(s:e.casks=some 0):(Jx all num=none/\KB A1 [e] [m] (some 0) num t=some (.pan ⟨4⟩))∨
  (∃k h c,Jx all num=some k/\all[k]? =some h/\h.C.Number=num/\PR t n all (A1.set k c) A3 m/\(A1.set k c)[k]? =some c/\c.since=t/\h=UM c h.Fills/\E8 t n h/\KB A1 [e] [m] (some 0) num t=some (.ok (some k,A1.set k c))):=by
 have f:=r.get num;unfold KB;simp only[K2,C2,s,f];cases u:Jx all num with
 | none=>
  left;exact⟨rfl,rfl⟩
 | some k=>
  right;obtain⟨h,i,g⟩:=FT u;have j:=(DO.1 i).1;have p:k < A1.length:=by rw[r.len];exact j
  have l:A1[k]? =some A1[k]:=C1 p;have a:=r.each k _ h l i;have b:=a.rest
  have d:h=UM (XQ t A1[k]) h.Fills:=by
   have:=b.eq;rw[XP,eo,S3] at this
   exact this
  have o:E8 t n h:=by
   have:=b.ok;rw[XP,<-d] at this
   exact this
  refine⟨k,h,XQ t A1[k],rfl,i,g,r.rest l,y0 p,XP,d,o,?_⟩;show Q4 (Zf true 4) _ _=_;have v:Zf true 4=some (.ok ()):=rfl;rw[v];simp only[Q4];rw[L8 l a.ok a.since.1 a.since.2 q];rfl
end
def Xz(t:Int)(n:Nat)(r:Q0 ZY ⊕ Int)(o:K1 (Out Zl<|Q0 QK×FM×Q0 (Q0<|Int×K1 Nat))):Prop:=match r with
 | .inl a=>∃b A3' d,o=some (.ok (b,A3',[d]))/\PR t (n+1) a b A3' d
 | .inr e=>o=some (.pan ⟨e⟩)/\e≠0
section
variable{t:Int}{n:Nat}{all:Q0 ZY}{A1:Q0 QK}{A3:FM}{m:Q0 (Int×K1 Nat)}{b:Qm}{x:Ev}
theorem CR.aO(e:0<=t)(hs:c.since=t)(a:E8 t n (UM c F))(d:FR A3 c.fills F):CR t n A3 c (UM c F):=⟨by omega,by rw[hs];exact a,by rw[hs,eo,S3];rfl,d⟩
theorem kS(r:PR t n all A1 A3 m)(v:0<=t)(A:t<=65536)(w:b.casks=some 0)(y:Xa x=true)(f:x.Kind=4)(z:x.Day=t):Xz t n (DJ all x n) (Y2 A1 [b] A3 [m] (some 0) x):=by
 unfold Y2 DJ;rw[B1 (by rw[f];decide),z];rcases Xr (num:=x.Cask) r eB w with⟨g,i⟩ | ⟨k,h,c,g,j,s,u,l,hs,a,o,i⟩
 ·rw[g,i];exact⟨rfl,by decide⟩
 ·rw[g,i];simp only[j,Q4,K2,l,QS,mr];have d:XI all k h x n=II all k h x:=by unfold XI;rw[f];rfl
  rw[d];refine⟨_,_,_,rfl,?_⟩;have p:=u.each k c h l j
  have q:PR t (n+1) (all.set k<|UM {c with place:=x.Where} h.Fills) ((A1.set k c).set k {c with place:=x.Where}) A3 m:=u.ng l j rfl (CR.aO v hs (by
   have:=o.up;rw[a] at this
   exact{this with place:=df y (.inl f)}) p.fills)<|.inl rfl
  rw[mr] at q
  have e:UM {c with place:=x.Where} h.Fills={h with C:={h.C with Place:=x.Where}}:=by
   conv=>rhs;rw[a]
   rfl
  rw[e] at q
  exact q
theorem Ik{h':ZY}{r:Q0 ZY ⊕ Int}(e:PR t n all (A1.set k c) A3 m)(f:all[k]? =some h)(g:(A1.set k c)[k]? =some c)(i:0<=t)(hs:c'.since=t)(j:c'.number=c.number)(l:c'.fills=c.fills∨c'.fills=none)(he:h' =UM c' F)(o:E8 t (n+1) h')(d:FR A3 c'.fills F)(a:r= .inl (all.set k h')):Xz t n r (some<|.ok (A1.set k c',A3,[m])):=by
 subst a;subst he;refine⟨_,_,_,rfl,?_⟩;have p:=e.ng g f j (CR.aO i hs o d) l
 rwa[mr] at p
theorem uu{a:Int}(h: -1<=a):(a==(-1))= !decide (a≥0):=by
 by_cases e:a= -1
 ·subst e;rfl
 ·have d:(a==(-1))=false:=by simpa using e
  rw[d,fl<|show a≥0 by omega];rfl
theorem js(r:PR t n all A1 A3 m)(G:0<=t)(M:t<=65536)(H:b.casks=some 0)(I:Xa x=true)(l:x.Kind=5)(K:x.Day=t):Xz t n (DJ all x n) (Vl A1 [b] A3 [m] (some 0) x):=by
 unfold Vl DJ;rw[B1 (by rw[l];decide),K];rcases Xr (num:=x.Cask) r eB H with⟨o,p⟩ | ⟨k,h,c,o,q,B,D,s,hs,a,e,p⟩
 ·rw[o,p];exact⟨rfl,by decide⟩
 ·rw[o,p];simp only[q,Q4,K2,s,QS,mr];have f:XI all k h x n=RS all k h x:=by unfold XI;rw[l];rfl
  rw[f];have u:=D.each k c h s q;have L:h.C.Owner=c.owner:=by rw[a];rfl
  have g:h.C.Creditor=c.creditor:=by rw[a];rfl
  have d:=e.cred;rw[g] at d
  unfold RS;rw[L,g];by_cases i:c.owner=x.Person
  ·have v:(c.owner==x.Person)=true:=by simpa using i
   have w:(c.owner != x.Person)=false:=by simpa using i
   simp only[v,w,B2,lU,uu d.1];by_cases E:c.creditor≥0
   ·simp only[E,ta,RK,B2];exact⟨rfl,by decide⟩
   ·simp only[E,rW,k4,W2,Bm];by_cases j:x.To=c.owner
    ·have y:(x.To==c.owner)=true:=by simpa using j
     have A:(x.To != c.owner)=false:=by simpa using j
     simp only[y,A,B2];exact⟨rfl,by decide⟩
    ·have y:(x.To==c.owner)=false:=by simpa using j
     have A:(x.To != c.owner)=true:=by simpa using j
     simp only[y,A,W2,Bm];exact Ik (h' :={h with C:={h.C with Owner:=x.To}}) (c' :={c with owner:=x.To}) (F:=h.Fills) D q s G hs rfl (.inl rfl) (congrArg (λz:ZY=>{z with C:={z.C with Owner:=x.To}}) a) {e.up with owner:=de I (.inl l)} u.fills rfl
  ·have v:(c.owner==x.Person)=false:=by simpa using i
   have w:(c.owner != x.Person)=true:=by simpa using i
   simp only[v,w,iJ,B2,W2,Bm];exact⟨rfl,by decide⟩
theorem qB(r:PR t n all A1 A3 m)(B:0<=t)(I:t<=65536)(D:b.casks=some 0)(E:Xa x=true)(j:x.Kind=6)(G:x.Day=t):Xz t n (DJ all x n) (YY A1 [b] A3 [m] (some 0) x):=by
 unfold YY DJ;rw[B1 (by rw[j];decide),G];rcases Xr (num:=x.Cask) r eB D with⟨l,o⟩ | ⟨k,h,c,l,p,w,y,q,hs,a,e,o⟩
 ·rw[l,o];exact⟨rfl,by decide⟩
 ·rw[l,o];simp only[p,Q4,K2,q,QS,mr];have f:XI all k h x n=DZ all k h x:=by unfold XI;rw[j];rfl
  rw[f];have s:=y.each k c h q p;have H:h.C.Owner=c.owner:=by rw[a];rfl
  have g:h.C.Creditor=c.creditor:=by rw[a];rfl
  have d:=e.cred;rw[g] at d
  unfold DZ;rw[H,g];by_cases i:c.owner=x.Person
  ·have u:(c.owner==x.Person)=true:=by simpa using i
   have v:(c.owner != x.Person)=false:=by simpa using i
   simp only[u,v,W2,Bm,uu d.1];by_cases A:c.creditor≥0
   ·simp only[A,ta,RK,B2];exact⟨rfl,by decide⟩
   ·simp only[A,rW,k4,Bm];have:=de E<|.inr j;exact Ik (h' :={h with C:={h.C with Creditor:=x.To}}) (c' :={c with creditor:=x.To}) (F:=h.Fills) y p q B hs rfl (.inl rfl) (congrArg (λz:ZY=>{z with C:={z.C with Creditor:=x.To}}) a) {e.up with cred:=⟨by show -1<=x.To;omega,this.2⟩} s.fills rfl
  ·have u:(c.owner==x.Person)=false:=by simpa using i
   have v:(c.owner != x.Person)=true:=by simpa using i
   simp only[u,v,B2];exact⟨rfl,by decide⟩
theorem yR(r:PR t n all A1 A3 m)(y:0<=t)(D:t<=65536)(A:b.casks=some 0)(_hv:Xa x=true)(u:x.Kind=7)(B:x.Day=t):Xz t n (DJ all x n) (Vn A1 [b] A3 [m] (some 0) x):=by
 unfold Vn DJ;rw[B1 (by rw[u];decide),B];rcases Xr (num:=x.Cask) r eB A with⟨f,g⟩ | ⟨k,h,c,f,i,v,w,j,hs,a,l,g⟩
 ·rw[f,g];exact⟨rfl,by decide⟩
 ·rw[f,g];simp only[i,Q4,K2,j,QS,mr];have d:XI all k h x n=Re all k h x:=by unfold XI;rw[u];rfl
  rw[d];have o:=w.each k c h j i;have p:h.C.Creditor=c.creditor:=by rw[a];rfl
  unfold Re;rw[p];by_cases e:c.creditor=x.Person
  ·have q:(c.creditor==x.Person)=true:=by simpa using e
   have s:(c.creditor != x.Person)=false:=by simpa using e
   simp only[q,s,W2,Bm];exact Ik (h' :={h with C:={h.C with Creditor:= -1}}) (c' :={c with creditor:= -1}) (F:=h.Fills) w i j y hs rfl (.inl rfl) (congrArg (λz:ZY=>{z with C:={z.C with Creditor:= -1}}) a) {l.up with cred:=⟨Of _,by show(-1:Int)<=_;omega⟩} o.fills rfl
  ·have q:(c.creditor==x.Person)=false:=by simpa using e
   have s:(c.creditor != x.Person)=true:=by simpa using e
   simp only[q,s,B2];exact⟨rfl,by decide⟩
theorem yi(r:PR t n all A1 A3 m)(A:0<=t)(G:t<=65536)(B:b.casks=some 0)(D:Xa x=true)(i:x.Kind=8)(E:x.Day=t):Xz t n (DJ all x n) (Vp A1 [b] A3 [m] (some 0) x):=by
 unfold Vp DJ;rw[B1 (by rw[i];decide),E];rcases Xr (num:=x.Cask) r eB B with⟨j,l⟩ | ⟨k,h,c,j,o,v,w,p,hs,a,d,l⟩
 ·rw[j,l];exact⟨rfl,by decide⟩
 ·rw[j,l];simp only[o,Q4,K2,p,QS,mr];have e:XI all k h x n=Rk all k h x:=by unfold XI;rw[i];rfl
  rw[e];have q:=w.each k c h p o;have f:h.C.Amount=c.amount:=by rw[a];rfl
  have g:=d.amt;rw[f] at g
  unfold Rk;rw[f];by_cases y:c.amount=0
  ·have s:(c.amount==0)=true:=by simpa using y
   have u:¬c.amount > 0:=by omega
   simp only[s,u,Bm];exact Ik (h' :={h with C:={h.C with Wood:=x.Where}}) (c' :={c with wood:=x.Where}) (F:=h.Fills) w o p A hs rfl (.inl rfl) (congrArg (λz:ZY=>{z with C:={z.C with Wood:=x.Where}}) a) {d.up with wood:=df D (.inr i)} q.fills rfl
  ·have s:(c.amount==0)=false:=by simpa using y
   have u:c.amount > 0:=by omega
   simp only[s,u,B2];exact⟨rfl,by decide⟩
end
end
section
open Go.Dec
variable{c:QK}{n:Int}
def Gz(c:QK)(n:Int):QK:=if c.amount - n==0 then{c with amount:=0,times:=⟨0,zN,zN⟩,fills:=none} else{c with amount:=c.amount - n}
theorem I9{F:Q0 Int}:WE (UM c F) n=UM (Gz c n) (WE (UM c F) n).Fills:=by
 unfold WE Gz;by_cases e:(c.amount - n==0)=true
 ·rw[BY e,BY<|show((UM c F).C.Amount - n==0)=true from e];rfl
 ·rw[B1 e,B1<|show ¬((UM c F).C.Amount - n==0)=true from e];rfl
theorem MZ:(Gz c n).fills=c.fills∨(Gz c n).fills=none:=by
 unfold Gz;split
 ·exact .inr rfl
 ·exact .inl rfl
theorem MY:(Gz c n).since=c.since:=by unfold Gz;split<;>rfl
theorem Rj:(Gz c n).number=c.number:=by unfold Gz;split<;>rfl
theorem jQ{A3:FM}{F:Q0 Int}(h:FR A3 c.fills F):FR A3 (Gz c n).fills (WE (UM c F) n).Fills:=by
 unfold WE Gz;by_cases e:(c.amount - n==0)=true
 ·rw[BY e,BY<|show((UM c F).C.Amount - n==0)=true from e];rfl
 ·rw[B1 e,B1<|show ¬((UM c F).C.Amount - n==0)=true from e];exact h
theorem FV{A1:Q0 QK}{k:Nat}(a:A1[k]? =some c)(d:0<=c.amount/\c.amount<=1099511627776)(f:0<=n/\n<=1099511627776):Vk A1 (some k) n=some (A1.set k<|Gz c n):=by
 unfold Vk;simp only[K2,a,QS,mr];rw[Qo (n:=c.amount - n) eB eB];unfold Gz;by_cases e:(c.amount - n==0)=true
 ·have b:c.amount - n=0:=mX.1 e;rw[BY e,BY e];simp only[b]
 ·rw[B1 e,B1 e]
section
variable{t:Int}{n:Nat}{all:Q0 ZY}{A1:Q0 QK}{A3:FM}{m:Q0 (Int×K1 Nat)}{b:Qm}{x:Ev}
theorem kN(r:PR t n all A1 A3 m)(A:0<=t)(L:t<=65536)(G:b.casks=some 0)(H:Xa x=true)(p:x.Kind=3)(I:x.Day=t):Xz t n (DJ all x n) (Y1 A1 [b] A3 [m] (some 0) x):=by
 unfold Y1 DJ;rw[B1 (by rw[p];decide),I];rcases Xr (num:=x.Cask) r eB G with⟨q,s⟩ | ⟨k,h,c,q,u,B,D,o,hs,a,e,s⟩
 ·rw[q,s];exact⟨rfl,by decide⟩
 ·rw[q,s];simp only[u,Q4,K2,o];have f:XI all k h x n=B9 all k h x:=by unfold XI;rw[p];rfl
  rw[f];have v:=D.each k c h o u;have g:h.C.Amount=c.amount:=by rw[a];rfl
  have i:h.C.Creditor=c.creditor:=by rw[a];rfl
  have d:=e.cred;have j:=e.amt;have w:=e.room;rw[g] at j
  rw[i] at d
  have K:=De H<|.inr<|.inr p;unfold B9;rw[g,i,uu d.1];by_cases E:c.creditor≥0
  ·simp only[E,ta,RK,B2];exact⟨rfl,by decide⟩
  ·simp only[E,rW,k4,Bm];by_cases F:c.amount < x.Amount
   ·have y:decide (c.amount≥x.Amount)=false:=aT eB;simp only[F,y,B2];exact⟨rfl,by decide⟩
   ·have y:decide (c.amount≥x.Amount)=true:=fl eB;simp only[F,y,Bm];show Xz t n _ ((Vk (A1.set k c) (some k) x.Amount).bind λl=>some<|.ok (l,A3,[m]));rw[FV o eB eB,K2,mr];have z:WE h x.Amount=UM (Gz c x.Amount) (WE (UM c h.Fills) x.Amount).Fills:=by rw[<-I9,<-a]
    exact Ik (h' :=WE h x.Amount) (c' :=Gz c x.Amount) D u o A (by rw[MY];exact hs) Rj MZ z (Oy e.up K.1 eB A) (jQ v.fills) rfl
theorem MJ{num:Int}{v:K1 Nat}:∀(A1:Q0 QK) (d:Nat),(∀c∈A1,c.number≠num)->Q5 (A1.mapIdx λk c=>(c.number,some<|d+k)) num v=A1.mapIdx (λk c=>(c.number,some<|d+k))++[(num,v)]
 | [],_,_=>rfl
 | c::A1,d,h=>by
  rw[List.mapIdx_cons];have f:(num==c.number)=false:=by simpa using(λe=>h c eF e.symm)
  have g:(fun(i:Nat) (a:QK)=>(a.number,some<|d+(i+1)))=λk c=>(c.number,some<|d+1+k):=by funext i a;rw[show d+(i+1)=d+1+i by omega]
  simp only[Q5,f,W2,Bm,g,tO];rw[MJ A1 (d+1) λc j=>h c<|L3 _ j]
def gj(x:Ev):QK:=⟨x.Cask,x.Other,x.Where,x.Amount,x.Person, -1,0,x.Day,⟨0,zN,zN⟩,none⟩
theorem kU(r:PR t n all A1 A3 m)(K:Ar t n all)(E:0<=t)(L:b.casks=some 0)(M:Xa x=true)(w:x.Kind=0)(N:x.Day=t):Xz t n (DJ all x n) (Y5 A1 [b] A3 [m] (some 0) x):=by
 have a:=λl' h=>jF (l' :=l') K E M w h;have P:m.length=all.length:=by rw[r.map,List.length_mapIdx,r.len]
 unfold Y5 DJ;rw[BY (by rw[w];rfl)];simp only[K2,C2,L,r.get];unfold EU at a ⊢
 cases G:Jx all x.Cask with
 | some k=>
  simp only[ek,B2];exact⟨rfl,by decide⟩
 | none=>
  rw[G] at a
  simp only[lM,W2,Bm] at a ⊢
  by_cases f:256<=all.length
  ·have e:decide ((m.length:Int) < 256)=false:=aT eB;simp only[f,e,B2];exact⟨rfl,by decide⟩
  ·have e:decide ((m.length:Int) < 256)=true:=fl eB;simp only[f,e,Bm] at a ⊢
   have y:=a _ rfl;have z:E8 t (n+1) (Ow x):=y.each _ eF;refine⟨A1++[gj x],A3,Q5 m x.Cask<|some A1.length,?_,?_⟩
   ·rfl
   ·refine⟨by simp[r.len],λk c h l A=> ?_,?_,λi j ci Q q o g H I=> ?_⟩
    ·by_cases e:k < A1.length
     ·rw[u1 e] at l
      rw[u1 (by rw[<-r.len];exact e)] at A
      exact(r.each k c h l A).up
     ·have p:=(DO.1 l).1;have u:k=A1.length:=by simp at p;omega
      rw[u,s5<|S2 _] at l
      rw[u,r.len,s5<|S2 _] at A
      simp only[iv,C2,W1] at l A
      subst l;subst A;exact CR.aO (c:=gj x) (F:=[]) E N z rfl
    ·rw[r.map]
     have o:∀c∈A1,c.number≠x.Cask:=λc l=>by
      obtain⟨k,w⟩:=lr l;have p:=(DO.1 w).1;have B:all[k]? =some (all[k]'(by rw[<-r.len];exact p)):=C1 _;have:=BO G _<|T2 B;rw[(r.each k c _ w B).number] at this
      exact this
     have g:=MJ (num:=x.Cask) (v:=some A1.length) A1 0 o;simp only[dO] at g
     rw[g];apply mc;intro i;simp only[ls,List.getElem?_append,List.length_mapIdx];by_cases e:i < A1.length
     ·simp[e]
     ·simp only[e,Bm];by_cases C:i=A1.length
      ·subst C;simp[gj]
      ·have:∃d,i - A1.length=d+1:=⟨i - A1.length - 1,by omega⟩;obtain⟨d,D⟩:=this;rw[D];simp
    ·by_cases e:i < A1.length
     ·rw[u1 e] at o
      by_cases C:j < A1.length
      ·rw[u1 C] at g
       exact r.apart i j ci Q q o g H I
      ·have s:=(DO.1 g).1;have u:j=A1.length:=by simp at s;omega
       rw[u,s5<|S2 _] at g
       simp only[iv,C2,W1] at g
       subst g;cases I
     ·have s:=(DO.1 o).1;have u:i=A1.length:=by simp at s;omega
      rw[u,s5<|S2 _] at o
      simp only[iv,C2,W1] at o
      subst o;cases H
end
end
section
open Go.Dec
variable{x:Int}
section
variable{V:Type}
theorem MH{k:Int}{v:V}:∀{l:Q0 (Int×V)},x∈(Q5 l k v).map Prod.fst↔x=k∨x∈l.map Prod.fst
 | []=>by simp[Q5]
 | y::l=>by
  simp only[Q5];by_cases e:k=y.1
  ·have a:(k==y.1)=true:=by simpa using e
   rw[BY a];simp[e]
  ·have a:(k==y.1)=false:=by simpa using e
   rw[a];simp only[W2,Bm,E4,TO,MH (l:=l)];constructor
   ·rintro(h | h | h)
    ·exact .inr<|.inl h
    ·exact .inl h
    ·exact .inr<|.inr h
   ·rintro(h | h | h)
    ·exact .inr<|.inl h
    ·exact .inl h
    ·exact .inr<|.inr h
def G0(a l:Q0 (Int×V)):Q0 (Int×V):=l.foldl (λa x=>Q5 a x.1 x.2) a
theorem Me:∀{l a:Q0 (Int×V)},(a.map Prod.fst).Nodup->((G0 a l).map Prod.fst).Nodup
 | [],_,h=>h
 | x::l,a,h=>Me (l:=l) (a:=Q5 a x.1 x.2)<|JW h
theorem qR{x:Int}:∀{l a:Q0 (Int×V)},x∈(G0 a l).map Prod.fst↔x∈a.map Prod.fst∨x∈l.map Prod.fst
 | [],a=>by simp[G0]
 | y::l,a=>by
  have:=qR (x:=x) (l:=l) (a:=Q5 a y.1 y.2);have e:G0 a (y::l)=G0 (Q5 a y.1 y.2) l:=rfl;rw[e,this,MH];simp only[E4,TO];constructor
  ·rintro((h | h) | h)
   ·exact .inr<|.inl h
   ·exact .inl h
   ·exact .inr<|.inr h
  ·rintro(h | h | h)
   ·exact .inl<|.inr h
   ·exact .inl<|.inl h
   ·exact .inr h
theorem Eo:∀{l a b:Q0 (Int×V)},b.Perm a->(a.map Prod.fst).Nodup->(G0 b l).Perm (G0 a l)
 | [],_,_,h,_=>h
 | _x::l,_a,_a',h,c=>Eo (l:=l) (GV h c)<|JW c
theorem qS{a:Q0 (Int×V)}{y:Int}{u v:V}(b:(a.map Prod.fst).Nodup)(h:x≠y):(Q5 (Q5 a x u) y v).Perm (Q5 (Q5 a y v) x u):=by
 have c:(Q5 (Q5 a x u) y v).Perm ((y,v)::(x,u)::(a.filter λz=> !(x==z.1)).filter (λz=> !(y==z.1))):=by
  refine(Jv<|JW b).trans<|.cons _ ?_;refine((Jv b).filter _).trans<|.of_eq ?_;rw[nt,BY<|by simpa using h.symm]
 have d:(Q5 (Q5 a y v) x u).Perm ((x,u)::(y,v)::(a.filter λz=> !(y==z.1)).filter (λz=> !(x==z.1))):=by
  refine(Jv<|JW b).trans<|.cons _ ?_;refine((Jv b).filter _).trans<|.of_eq ?_;rw[nt,BY<|by simpa using h]
 refine c.trans<|(List.Perm.swap _ _ _).trans ?_;refine List.Perm.trans (.of_eq ?_) d.symm;congr 2;rw[lO,lO];exact bY λz _=>ik _ _
theorem yf{l l' :Q0 (Int×V)}(h:l'.Perm l):∀{a:Q0 (Int×V)},(a.map Prod.fst).Nodup->(l.map Prod.fst).Nodup->(G0 a l').Perm (G0 a l):=by
 induction h with
 | nil=>intro a _ _;exact .refl _
 | cons x _ g=>
  intro a c b;simp only[E4,ma] at b
  exact g (JW c) b.2
 | swap x y l=>
  intro a c b;simp only[E4,ma,TO,not_or] at b
  exact Eo (qS c λe=>b.1.1 e.symm) (JW<|JW c)
 | trans j i d f=>
  intro a c b;exact(d c<|(i.map Prod.fst).nodup_iff.2 b).trans<|f c b
end
theorem Pp{q j:Nat}(c:q≠j):∀(l:Q0 (Int×Bool)) (s:FM) (a:Q0 (Int×Bool)),s[q]? =some a->VB (YZ (some q) j) l s=some (s.set q<|G0 a l)
 | [],s,a,h=>by
  have:=C5 h;simp only[VB,G0,List.foldl_nil];rw[<-this]
 | x::l,s,a,h=>by
  have b:=(DO.1 h).1
  have e:YZ (some q) j x s=some (s.set q<|Q5 a x.1 x.2):=by
   unfold YZ dc;simp only[K2,B1 c,h,QS]
  simp only[VB,e,K2];rw[Pp c l _ (Q5 a x.1 x.2)<|y0 b,mr];rfl
theorem ye{A:FM}{q j:Nat}{a lj:Q0 (Int×Bool)}(d:q≠j)(f:A[q]? =some a)(l:A[j]? =some lj)(m:(a.map Prod.fst).Nodup)(g:(lj.map Prod.fst).Nodup):Wg A (some q) (some j)=some (A.set q<|G0 a lj):=by
 unfold Wg;simp only[K2,l]
 have n:CY PI (YZ (some q) j) lj A=some (A.set q<|G0 a lj):=by
  refine qF (Pp d lj A a f) λl' h=>⟨_,Pp d l' A a f,by simp,λi x y c b=> ?_⟩;have k:=(DO.1 f).1;by_cases e:q=i
  ·subst e;rw[y0 k] at c b
   cases c;cases b;exact yf h m g
  ·rw[y1 e] at c b
   rw[c] at b;cases b;exact .refl _
 rw[n,K2];have:(A.set q<|G0 a lj)[j]? =some lj:=by rw[y1 d];exact l
 rw[<-C5 this]
theorem yI(a u:ZM):Uh a u=some ⟨Je a.age u.age,Pe a.woods u.woods,Pe a.places u.places⟩:=by
 obtain⟨c,d,e⟩:=GA (body:=Ys u) (λi (t:ZM)=>((i:Int),t)) (λt=>t) (λi t=>t={a with age:=Je a.age u.age,woods:=Rt i a.woods u.woods}) 8
  (λi t hi b=>by
   have f:Q8 ((i:Int)+1)=((i+1:Nat):Int):=by rw[Qo eB eB];rfl
   have g:(Rt i a.woods u.woods) i=a.woods i:=by unfold Rt;rw[B1 eB]
   refine⟨_,?_,rfl⟩;unfold Ys;rw[BY eE,Hm hi];simp only[K2,QS,f,b,g];rw[ES])
  (λt b=>by
   unfold Ys;rw[B1 eF]) 8 0 {a with age:=Je a.age u.age} rfl (by rw[uF])
 obtain⟨k,h,j⟩:=GA (body:=Yr u) (λi (t:ZM)=>((i:Int),t)) (λt=>t) (λi t=>t={a with age:=Je a.age u.age,woods:=Pe a.woods u.woods,places:=Rt i a.places u.places}) 8
  (λi t hi b=>by
   have f:Q8 ((i:Int)+1)=((i+1:Nat):Int):=by rw[Qo eB eB];rfl
   have g:(Rt i a.places u.places) i=a.places i:=by unfold Rt;rw[B1 eB]
   refine⟨_,?_,rfl⟩;unfold Yr;rw[BY eE,Hm hi];simp only[K2,QS,f,b,g];rw[ES])
  (λt b=>by
   unfold Yr;rw[B1 eF]) 8 0 c rfl (by rw[d,uF];rfl)
 unfold Uh;simp only[QS];have l:ZU (Ys u) (0,{a with age:=Je a.age u.age})=some c:=e;have m:ZU (Yr u) (0,c)=some k:=j;refine ZT l<|ZT m ?_;rw[h];rfl
end
section
open Go.Dec
variable{A3:FM}
theorem EE{A1:Q0 QK}{k j:Nat}{c:QK}{h so:ZY}{lj:Q0 (Int×Bool)}{tm:ZM}{n:Int}(B:A1[k]? =some c)(a:h=UM c h.Fills)(D:0<=c.amount/\c.amount<=1099511627776)(L:0<=n/\n<=1099511627776)(b:FR A3 c.fills h.Fills)(v:0 < c.amount->h.Fills≠[])
  (E:A3[j]? =some lj) (l:(lj.map Prod.fst).Nodup) (m:∀x,x∈so.Fills↔x∈lj.map Prod.fst) (H:c.fills≠some j) (d:so.C.Age=tm.age/\so.C.Woods=tm.woods/\so.C.Places=tm.places):∃c' A3',Yj A1 A3 (some k) tm (some j) n=some (A1.set k c',A3')/\c'.number=c.number/\c'.since=c.since/\Uc h so n=UM c' (Uc h so n).Fills/\FR A3' c'.fills (Uc h so n).Fills/\
   (∀(q:Nat) f,A3[q]? =some f->c.fills≠some q->A3'[q]? =some f)/\(c'.fills=c.fills∨c'.fills=some A3.length):=by
 have F:=(DO.1 B).1;have o:h.C.Amount=c.amount:=by rw[a];rfl
 have G:Q8 (c.amount+n)=c.amount+n:=Qo eB eB;unfold Yj;simp only[K2,B];by_cases e:(c.amount==0)=true
 ·have p:(h.C.Amount==0)=true:=by rw[o];exact e
  refine⟨{c with times:=tm,fills:=some A3.length,amount:=c.amount+n},A3++[lj],?_,rfl,rfl,?_,?_,λq f g _=> ?_,.inr rfl⟩
  ·simp only[e,B2,Hh,Mg,E,K2,QS,mr,y0 F,G]
  ·unfold Uc;rw[BY p];rw[a];simp only[d.1,d.2.1,d.2.2];rfl
  ·unfold Uc;rw[BY p];exact⟨lj,by simp,l,m⟩
  ·have:=(DO.1 g).1;rw[u1 this];exact g
 ·have r:0 < c.amount:=by
   have:c.amount≠0:=λs=>e (by simp[s]);omega
  have p:¬(h.C.Amount==0)=true:=by rw[o];exact e
  cases i:c.fills with
  | none=>rw[i] at b;exact absurd b (v r)
  | some q=>
   rw[i] at b
   obtain⟨f,t,u,w⟩:=b;have y:q≠j:=λs=>H (by rw[i,s]);have z:=(DO.1 t).1;refine⟨{c with times:=⟨Je c.times.age tm.age,Pe c.times.woods tm.woods,Pe c.times.places tm.places⟩,amount:=c.amount+n},A3.set q<|G0 f lj,?_,rfl,rfl,?_,?_,λM I g A=> ?_,.inl i⟩
   ·simp only[e,Bm,W2,yI,K2,QS,i,ye y t E u l,y0 F,mr,G]
   ·unfold Uc;rw[B1 p];have g:h.C.Age=c.times.age:=by rw[a];rfl
    have A:h.C.Woods=c.times.woods:=by rw[a];rfl
    have K:h.C.Places=c.times.places:=by rw[a];rfl
    simp only[d.1,d.2.1,d.2.2,g,A,K]
    conv=>lhs;rw[a]
    rfl
   ·unfold Uc;rw[B1 p];show FR _ c.fills (Ij h.Fills so.Fills);rw[i];refine⟨G0 f lj,y0 z,Me u,λx=> ?_⟩;rw[MG,qR,w,m]
   ·rw[y1 λs=>A<|by rw[s]];exact g
section
variable{t:Int}{n:Nat}{all:Q0 ZY}{A1:Q0 QK}{A3:FM}{m:Q0 (Int×K1 Nat)}{b:Qm}{x:Ev}
theorem uY{q:Nat}{F:Q0 Int}(h:FR A3 (some q) F):q < A3.length:=by
 obtain⟨l,a,_⟩:=h;exact(DO.1 a).1
theorem Pr(r:PR t n all A1 A3 m)(ho:Ar t n all)(h0:0<=t)(ht:t<=65536)(hb:b.casks=some 0)(W:b.event=n)(hv:Xa x=true)(X:x.Kind=1)(hd:x.Day=t):Xz t n (DJ all x n) (Vo A1 [b] A3 [m] (some 0) x):=by
 unfold Vo DJ;rw[B1 (by rw[X];decide),hd];rcases Xr (num:=x.Cask) r eB hb with⟨Y,Z⟩ | ⟨k,h,c,Y,D,aI,s,A,hs,f,u,Z⟩
 ·rw[Y,Z];exact⟨rfl,by decide⟩
 ·rw[Y,Z];simp only[D,Q4,K2,A,QS];have E:XI all k h x n=Aj all k h x n:=by unfold XI;rw[X];rfl
  rw[E];have F:=s.each k c h A D;have v:h.C.Amount=c.amount:=by rw[f];rfl
  have g:h.C.Room=c.room:=by rw[f];rfl
  have G:=u.amt;have w:=u.room;rw[v,g] at G
  rw[g] at w
  have ha:=De hv<|.inl X;have hw:Q8 (c.amount+x.Amount)=c.amount+x.Amount:=Qo eB eB;have d:=λl' (aA:Aj all k h x n= .inl l')=>jM ho h0 D ha.1 aA;unfold Aj at d ⊢
  rw[v,g] at d ⊢
  rw[hw];by_cases p:c.amount+x.Amount > c.room
  ·have e:decide (c.amount+x.Amount<=c.room)=false:=aT eB;simp only[p,e,B2];exact⟨rfl,by decide⟩
  ·have e:decide (c.amount+x.Amount<=c.room)=true:=fl eB;simp only[p,Bm] at d
   simp only[p,e,Bm];have H:=d _ rfl;have I:∀q,c.fills=some q->q < A3.length:=λq B=>uY (by rw[<-B];exact F.fills);have K:FR (A3++[[((n:Int),true)]]) c.fills h.Fills:=F.fills.keep λq B=>u1<|I q B
   obtain⟨c',A3',S,aB,aC,L,aD,aE,l⟩:=EE (A3:=A3++[[((n:Int),true)]]) (j:=A3.length) (lj:=[((n:Int),true)]) (so:=BQ n) (tm:=⟨0,zN,zN⟩) (n:=x.Amount) A f eB eB K (λS=>by rw[<-v] at S;exact u.some S)
    eF eF (λy=>by simp[BQ]) (λe=>by have:=I _ e;omega) ⟨rfl,rfl,rfl⟩
   have M:Yj (A1.set k c) (A3++[Q5 [] b.event true]) (some k) (ZM.mk 0 (λ_=>0) λ_=>0) (some A3.length) x.Amount=some ((A1.set k c).set k c',A3'):=by rw[W];exact S
   have N:Uc h (BQ n) x.Amount∈all.set k (Uc h (BQ n) x.Amount):=T2<|y0 (DO.1 D).1;have aF:=H.each _ N
   have P:Xz t n (.inl<|all.set k<|Uc h (BQ n) x.Amount) (some<|.ok ((A1.set k c).set k c',A3',[m])):=by
    refine⟨_,_,_,rfl,?_⟩;refine s.set A D aB ?_ (λi ci hi z p T=> ?_) λi ci q z p T V=> ?_
    ·rw[L];refine CR.aO h0 (by rw[aC];exact hs) (by rw[<-L];exact aF) ?_;exact aD
    ·have a:=(s.each i ci hi p T).up;refine⟨a.since,a.ok,a.eq,a.fills.keep λq B=> ?_⟩;have Q:=a.fills;rw[B] at Q
     obtain⟨lq,g1,_⟩:=Q;have R:=(DO.1 g1).1;rw[g1];exact aE q lq (by rw[u1 R];exact g1) λe=>z<|s.apart i k ci c q p A B e
    ·have a:=(s.each i ci _ p<|C1 (show i < all.length by rw[<-s.len];exact(DO.1 p).1)).fills;rw[T] at a
     have:=uY a;rcases l with l | l
     ·rw[l] at V;exact z<|s.apart i k ci c q p A T V
     ·rw[l] at V
      simp only[W1,x4,OF,kp] at V
      omega
   show Xz t n _ ((Yj (A1.set k c) (A3++[Q5 [] b.event true]) (some k) (ZM.mk 0 (λ_=>0) λ_=>0) (some A3.length) x.Amount).bind λo=>some<|.ok (o.1,o.2,[m]));rw[M,K2];exact P
theorem j4(r:PR t n all A1 A3 m)(ho:Ar t n all)(h0:0<=t)(ht:t<=65536)(hb:b.casks=some 0)(hv:Xa x=true)(hk:x.Kind=2)(hd:x.Day=t):Xz t n (DJ all x n) (Vm A1 [b] A3 [m] (some 0) x):=by
 unfold Vm DJ;rw[B1 (by rw[hk];decide),hd];rcases Xr (num:=x.Cask) r eB hb with⟨hf,hm⟩ | ⟨i,h,c,hf,W,au,hr,hc,hs,d,F,hm⟩
 ·rw[hf,hm];exact⟨rfl,by decide⟩
 ·rw[hf,hm];have X:XI all i h x n=AX all i h x:=by unfold XI;rw[hk];rfl
  simp only[W,X];have a:=λl' (ha:1<=x.Amount) (aS:AX all i h x= .inl l')=>kv ho h0 W ha aS;have ha:=De hv<|.inr<|.inl hk;have a:=λl' =>a l' ha.1;unfold AX at a ⊢
  simp only[Q4];rcases Xr (num:=x.Other) hr eB hb with⟨G,Q⟩ | ⟨k,g,o,G,H,aU,l,p,aV,f,v,Q⟩
  ·rw[G,Q];exact⟨rfl,by decide⟩
  ·rw[G,Q];rw[G] at a
   simp only[H] at a ⊢
   have bF:i < A1.length:=by have:=(DO.1 hc).1;simpa using this
   by_cases s:i=k
   ·
     subst s;have w:((A1.set i c).set i o)[i]? =some o:=p;simp only[K2,w];have e1:(i != i)=false:=by simp
     have e2:(i==i)=true:=by simp
     unfold PY;simp only[e1,e2,B2];exact⟨rfl,by decide⟩
   · have w:((A1.set i c).set k o)[i]? =some c:=by rw[y1 λe=>s e.symm];exact hc
     simp only[K2,w,p];have e1:(i != k)=true:=by simpa using s
     have e2:(i==k)=false:=by simpa using s
     have aY:=l.each i c h w W;have aZ:=l.each k o g p H;have a1:h.C.Owner=c.owner:=by rw[d];rfl
     have a2:h.C.Creditor=c.creditor:=by rw[d];rfl
     have a3:h.C.Amount=c.amount:=by rw[d];rfl
     have b1:g.C.Owner=o.owner:=by rw[f];rfl
     have b2:g.C.Creditor=o.creditor:=by rw[f];rfl
     have b3:g.C.Amount=o.amount:=by rw[f];rfl
     have b4:g.C.Room=o.room:=by rw[f];rfl
     have Y:=F.amt;have ae:=F.room;have y:=F.cred;have Z:=v.amt;have R:=v.room;have z:=v.cred;rw[a2] at y;rw[b2] at z;rw[b3,b4] at Z;rw[b4] at R;rw[a3] at Y
     unfold PY at a ⊢
     rw[a1,a2,a3,b1,b2,b3,b4] at a ⊢
     simp only[e1,e2,W2,Bm,uu y.1,uu z.1] at a ⊢
     have bI:Zf false 11=some (.pan ⟨11⟩):=rfl;have n0:∀e,Zf true e=some (.ok ()):=λ_=>rfl;have nf:∀e,Zf false e=some (.pan ⟨e⟩):=λ_=>rfl;by_cases c1:c.owner=o.owner
     ·have f1:(c.owner==o.owner)=true:=by simpa using c1
      have f2:(c.owner != o.owner)=false:=by simpa using c1
      simp only[f1,f2,B2,lU,n0] at a ⊢
      by_cases c2:c.creditor≥0
      ·simp only[c2,ta,RK,iJ,B2,W2,Bm,nf,K2];exact⟨rfl,by decide⟩
      ·simp only[c2,rW,k4,lU,B2] at a ⊢
       by_cases c3:o.creditor≥0
       ·simp only[c3,ta,RK,B2,nf,K2];exact⟨rfl,by decide⟩
       ·simp only[c3,rW,k4,n0,K2,W2,Bm] at a ⊢
        by_cases c4:c.amount < x.Amount
        ·have g1:decide (c.amount≥x.Amount)=false:=aT eB;simp only[c4,g1,B2,nf];exact⟨rfl,by decide⟩
        ·have g1:decide (c.amount≥x.Amount)=true:=fl eB;simp only[c4,g1,Bm,n0] at a ⊢
         have hw:Q8 (o.amount+x.Amount)=o.amount+x.Amount:=Qo eB eB;rw[hw];by_cases c5:o.amount+x.Amount > o.room
         ·have g2:decide (o.amount+x.Amount<=o.room)=false:=aT eB;simp only[c5,g2,B2,nf];exact⟨rfl,by decide⟩
         ·have g2:decide (o.amount+x.Amount<=o.room)=true:=fl eB;simp only[c5,g2,Bm,n0] at a ⊢
          have N:=a _ rfl;have I:=aY.fills;cases S:c.fills with
          | none=>
           rw[S] at I
           exact absurd I (F.some (by rw[a3];omega))
          | some j=>
           rw[S] at I
           obtain⟨lj,hj,aj,ak⟩:=I
           obtain⟨o',A3',hp,al,an,aC,ao,aq,A⟩:=EE (A3:=A3) (j:=j) (lj:=lj) (so:=h) (tm:=c.times) (n:=x.Amount) p f eB eB aZ.fills λhp=>by rw[<-b3] at hp;exact v.some hp
            hj aj ak (λe=>s<|l.apart i k c o j w p S e) ⟨by rw[d];rfl,by rw[d];rfl,by rw[d];rfl⟩
           have K:(((A1.set i c).set k o).set k o')[i]? =some c:=by rw[y1 λe=>s e.symm];exact w
           rw[hp,K2];simp only;rw[FV K eB eB,K2];have bK:j < A3.length:=(DO.1 hj).1;have T:=(DO.1 H).1;have aD:Uc g h x.Amount∈(all.set k<|Uc g h x.Amount).set i (WE h x.Amount):=T2 (i:=k) (by rw[y1 s];exact y0 T);have aE:=N.each _ aD;have V:WE h x.Amount∈(all.set k<|Uc g h x.Amount).set i (WE h x.Amount):=T2 (i:=i) (y0<|by simpa using(DO.1 W).1);have aF:=N.each _ V
           have L:PR t (n+1) (all.set k<|Uc g h x.Amount) (((A1.set i c).set k o).set k o') A3' m:=by
            refine l.set p H al ?_ (λD ci hi B E P=> ?_) λD ci q B E P M=> ?_
            ·rw[aC];refine CR.aO h0 (by rw[an];exact aV) (by rw[<-aC];exact aE) ?_;exact ao
            ·have u:=(l.each D ci hi E P).up;refine⟨u.since,u.ok,u.eq,u.fills.keep λq hq=> ?_⟩;have aG:=u.fills;rw[hq] at aG
             obtain⟨lq,aH,_⟩:=aG;rw[aH];exact aq q lq aH λe=>B<|l.apart D k ci o q E p hq e
            ·have u:=(l.each D ci _ E<|C1 (show D < all.length by rw[<-l.len];exact(DO.1 E).1)).fills;rw[P] at u
             have bM:=uY u;rcases A with A | A
             ·rw[A] at M;exact B<|l.apart D k ci o q E p P M
             ·rw[A] at M
              simp only[W1] at M
              omega
           refine⟨_,_,_,rfl,?_⟩;have aI:(all.set k<|Uc g h x.Amount)[i]? =some h:=by rw[y1 λe=>s e.symm];exact W
           have aJ:=L.each i c h K aI;have aK:WE h x.Amount=UM (Gz c x.Amount) (WE (UM c h.Fills) x.Amount).Fills:=by rw[<-I9,<-d]
           refine L.set K aI Rj ?_ (λD ci hi _ E P=>L.each D ci hi E P) λD ci q B E P M=> ?_
           ·rw[aK];refine CR.aO h0 (by rw[MY];exact hs) (by rw[<-aK];exact aF)<|jQ aJ.fills
           ·rcases MZ (c:=c) (n:=x.Amount) with e | e
            ·rw[e] at M;exact B<|L.apart D i ci c q E K P M
            ·rw[e] at M;cases M
     ·have f1:(c.owner==o.owner)=false:=by simpa using c1
      have f2:(c.owner != o.owner)=true:=by simpa using c1
      simp only[f1,f2,B2,iJ,W2,Bm,n0,nf,K2];exact⟨rfl,by decide⟩
end
end
section
open Go.Dec
variable{l:Q0 Ev}{day:Int}
theorem kh(x:Ev):XX x=some (Xa x):=by
 have e:∀n a b,YO n a b=W6 n a b:=λ_ _ _=>rfl;unfold XX U4 WR Ui VR YT Xa;simp only[e];cases o:W6 x.Day 0 65536 with
 | false=>simp
 | true=>
  cases p:W6 x.Cask 0 1073741824 with
  | false=>simp
  | true=>
   simp only[RK,oZ,W2,Bm,mb];by_cases c:(x.Kind==0)=true
   ·rw[BY c,BY c]
   ·rw[B1 c,B1 c];by_cases d:(x.Kind==1)=true
    ·simp[d]
    ·simp only[wt] at d
     by_cases k:(x.Kind==3)=true
     ·simp[d,k]
     ·simp only[wt] at k
      simp only[d,k,oZ,W2,Bm,K2];by_cases f:(x.Kind==2)=true
      ·rw[BY f,BY f]
      ·rw[B1 f,B1 f];by_cases g:(x.Kind==4)=true
       ·rw[BY g,BY g]
       ·rw[B1 g,B1 g];by_cases h:(x.Kind==5)=true
        ·simp[h]
        ·simp only[wt] at h
         by_cases m:(x.Kind==6)=true
         ·simp[h,m]
         ·simp only[wt] at m
          simp only[h,m,oZ,W2,Bm,K2];by_cases i:(x.Kind==7)=true
          ·rw[BY i,BY i]
          ·rw[B1 i,B1 i];by_cases j:(x.Kind==8)=true
           ·rw[BY j,BY j]
           ·rw[B1 j,B1 j]
abbrev Deed:=((Q0 QK)×(Q0 Qm)×FM×(Q0<|Q0<|Int×(K1 Nat))×(K1 Nat)×Ev)->K1 (Out Zl<|(Q0 QK)×FM×(Q0<|Q0<|Int×(K1 Nat)))
theorem TG:∃D:Q0 (Int×Deed),FE=some D/\∀(x:Ev),Xa x=true->∃f,Qc D x.Kind=some f/\
  ∀{t:Int} {n:Nat} {all:Q0 ZY} {A1:Q0 QK} {A3:FM} {m:Q0 (Int×K1 Nat)} {b:Qm},PR t n all A1 A3 m->Ar t n all->0<=t->t<=65536->b.casks=some 0->b.event=n->x.Day=t->Xz t n (DJ all x n) (f (A1,[b],A3,[m],some 0,x)):=by
 refine⟨_,rfl,λx g=> ?_⟩;rcases kinds g with k | k | k | k | k | k | k | k | k<;>rw[k]
 ·exact⟨_,rfl,λr h a e c _ d=>kU r h a c g k d⟩
 ·exact⟨_,rfl,λr h a e c i d=>Pr r h a e c i g k d⟩
 ·exact⟨_,rfl,λr h a e c _ d=>j4 r h a e c g k d⟩
 ·exact⟨_,rfl,λr _ a e c _ d=>kN r a e c g k d⟩
 ·exact⟨_,rfl,λr _ a e c _ d=>kS r a e c g k d⟩
 ·exact⟨_,rfl,λr _ a e c _ d=>js r a e c g k d⟩
 ·exact⟨_,rfl,λr _ a e c _ d=>qB r a e c g k d⟩
 ·exact⟨_,rfl,λr _ a e c _ d=>yR r a e c g k d⟩
 ·exact⟨_,rfl,λr _ a e c _ d=>yi r a e c g k d⟩
section
variable{D:Q0 (Int×Deed)}
def ja(D:Q0 (Int×Deed)):Prop:=∀(x:Ev),Xa x=true->∃f,Qc D x.Kind=some f/\
 ∀{t:Int} {n:Nat} {all:Q0 ZY} {A1:Q0 QK} {A3:FM} {m:Q0 (Int×K1 Nat)} {b:Qm},PR t n all A1 A3 m->Ar t n all->0<=t->t<=65536->b.casks=some 0->b.event=n->x.Day=t->Xz t n (DJ all x n) (f (A1,[b],A3,[m],some 0,x))
theorem jm(A:ja D){n:Nat}{s:D5}{x:Ev}{A1:Q0 QK}{A3:FM}{m:Q0 (Int×K1 Nat)}{b:Qm}(t:l[n]? =some x)(M:n<=4096)(u:H3 n s)(B:PR s.last n s.all A1 A3 m)(C:b.casks=some 0)(E:x.Day<=day):match VQ n s x with
  | .inl k=>∃c A3' j,YR l day D ((n:Int),s.last,A1,[b],A3,[m])=some (.next (((n+1:Nat):Int),k.last,c,[⟨some 0,n⟩],A3',[j]))/\PR k.last (n+1) k.all c A3' j
  | .inr e=>YR l day D ((n:Int),s.last,A1,[b],A3,[m])=some (.done<|.inr (⟨e⟩,(n:Int),0,some 0))/\e≠0:=by
 have F:n < l.length:=(DO.1 t).1;have G:Q8 ((n:Int)+1)=((n+1:Nat):Int):=by rw[Qo eB eB];rfl
 have H:decide ((n:Int) < (l.length:Int))=true:=fl eB;have v:∀e,Zf true e=some (.ok ()):=λ_=>rfl;have w:∀e,Zf false e=some (.pan ⟨e⟩):=λ_=>rfl;unfold YR VQ;simp only[H,B2,Z2,t,K2,E,ta,kh];cases y:Xa x with
 | false=>
  simp only[k4,B2,w,Q4];exact⟨trivial,by decide⟩
 | true=>
  simp only[RK,W2,Bm,v,Q4];by_cases g:x.Day < s.last
  ·have e:decide (x.Day≥s.last)=false:=aT eB;simp only[g,e,B2,w];exact⟨trivial,by decide⟩
  ·have e:decide (x.Day≥s.last)=true:=fl eB;simp only[g,e,Bm,v];have d:=bn y;have I:=u.day;obtain⟨f,K,o⟩:=A x y;have h:=Pc u.ok (n:=x.Day - s.last) eB;have L:s.last+(x.Day - s.last)=x.Day:=by omega
   rw[L] at h
   have a:=o (b:=⟨some 0,(n:Int)⟩) (B.shift (t' :=x.Day) eB) h d.1 d.2 rfl rfl rfl;have p:({b with event:=(n:Int)}:Qm)=⟨some 0,n⟩:=by rw[<-C]
   simp only[C2,K2,QS,mZ,p,K];cases i:DJ (s.all.map<|Jd<|x.Day - s.last) x n with
   | inl z=>
    rw[i] at a
    obtain⟨c,A3',j,q,r⟩:=a;rw[q];simp only[G];exact⟨c,A3',j,rfl,r⟩
   | inr er=>
    rw[i] at a
    obtain⟨q,r⟩:=a;rw[q];exact⟨rfl,r⟩
theorem Lt{n:Nat}{last:Int}{A1:Q0 QK}{A2:Q0 Qm}{A3:FM}{b:Q0 (Q0<|Int×K1 Nat)}(h:∀x,l[n]? =some x->¬x.Day<=day)(f:n<=l.length):YR l day D ((n:Int),last,A1,A2,A3,b)=some (.done<|.inl ((n:Int),A1,A2,A3,b)):=by
 unfold YR;cases a:l[n]? with
 | none=>
  have:¬(n:Int) < (l.length:Int):=by
   have:=oK.1 a;omega
  simp[this]
 | some x=>
  have c:n < l.length:=(DO.1 a).1;have d:decide ((n:Int) < (l.length:Int))=true:=fl eB;have e:decide (x.Day<=day)=false:=aT<|h x a;simp only[d,B2,Z2,a,K2,e,W2,Bm]
theorem EV(o:ja D){l:Q0 Ev}{day:Int}(q:l.length<=4096):∀(post pre:Q0 Ev) (s:D5) (A1:Q0 QK) (A3:FM) (m:Q0 (Int×K1 Nat)) (b:Qm),l=pre++post->H3 pre.length s->PR s.last pre.length s.all A1 A3 m->b.casks=some 0->
  match HY day post pre.length s with
  | (.inl f,k)=>∃c A3' g b',ZU (YR l day D) ((pre.length:Int),s.last,A1,[b],A3,[m])=some (.inl ((k:Int),c,[b'],A3',[g]))/\PR f.last k f.all c A3' g/\b'.casks=some 0
  | (.inr e,k)=>ZU (YR l day D) ((pre.length:Int),s.last,A1,[b],A3,[m])=some (.inr (⟨e⟩,(k:Int),0,some 0))/\e≠0
 | [],pre,s,A1,A3,m,b,e,n,h,i=>by
  simp only[HY];refine⟨A1,A3,m,b,?_,h,i⟩;rw[ZJ,Lt (λx d=>by rw[e] at d;simp at d) (by rw[e];simp)]
 | x::post,pre,s,A1,A3,m,b,e,n,h,i=>by
  have d:l[pre.length]? =some x:=VO e;have r:pre.length<=4096:=by have:=HJ e;omega
  rw[ZJ];by_cases j:x.Day<=day
  ·have a:=jm o d r n h i j;simp only[HY,j,B2];cases hs:VQ pre.length s x with
   | inl f=>
    rw[hs] at a
    obtain⟨c,A3',g,t,u⟩:=a;rw[t];have v:=EV o (day:=day) q post (pre++[x]) f c A3' g ⟨some 0,(pre.length:Int)⟩ (by rw[e];simp) (by simpa using(Te n hs).1) (by simpa using u) rfl;simpa using v
   | inr er=>
    rw[hs] at a
    rw[a.1];exact⟨rfl,a.2⟩
  ·rw[Lt (λy p=>by rw[d] at p;cases p;exact j) (by have:=HJ e;omega)];simp only[HY,j,Bm];exact⟨A1,A3,m,b,rfl,h,i⟩
end
end
section
open Go.Dec
section
variable{t day:Int}{n:Nat}{all:Q0 ZY}{A1:Q0 QK}{A3:FM}{m:Q0 (Int×K1 Nat)}
theorem Ef(a:day<=1000000)(d:∀(k:Nat) (c:QK),A1[k]? =some c->0<=c.since/\c.since<=day/\∃F,E8 c.since n<|UM c F):∀(L:Q0 (Int×K1 Nat)) (s:Q0 QK),(∀e∈L,∃k,e.2=some k/\k < A1.length)->(L.map Prod.snd).Nodup->s.length=A1.length->(∀k,some k∈L.map Prod.snd->s[k]? =A1[k]?)->
  ∃f,VB (WW day) L s=some f/\f.length=A1.length/\∀i:Nat,f[i]? =if some i∈L.map Prod.snd then(A1[i]?).map (XQ day) else s[i]?
 | [],s,_,_,p,_=>⟨s,rfl,p,λi=>by simp⟩
 | e::L,s,w,y,p,hs=>by
  obtain⟨k,g,j⟩:=w e eF
  have l:some k∉L.map Prod.snd/\(L.map Prod.snd).Nodup:=by
   have:=ma.1 y;rw[g] at this;exact this
  have q:A1[k]? =some A1[k]:=C1 j;have r:s[k]? =some A1[k]:=by rw[hs k<|by simp[g]];exact q
  obtain⟨z,A,F,B⟩:=d k _ q
  have C:WW day e s=some (s.set k<|XQ day A1[k]):=by
   unfold WW;rw[g,L8 r B z A a];rfl
  obtain⟨f,D,E,G⟩:=Ef a d L (s.set k<|XQ day A1[k]) (λb u=>w b<|L3 _ u) l.2 (by simpa using p) λx o=>by
   have v:k≠x:=λb=>l.1 (by rw[b];exact o);rw[y1 v];exact hs x (by rw[E4];exact L3 _ o)
  refine⟨f,by simp only[VB,C,K2];exact D,E,λi=> ?_⟩;rw[G i];by_cases hi:some i∈L.map Prod.snd
  ·rw[BY hi,BY (by rw[E4];exact L3 _ hi)]
  ·rw[B1 hi];by_cases b:k=i
   ·subst b;rw[y0 (by rw[p];exact j),BY (by simp[g]),q];rfl
   ·rw[y1 b,B1];rw[E4,TO,g];rintro(h | h)
    ·exact b<|by simpa using h.symm
    ·exact hi h
theorem vk(r:PR t n all A1 A3 m)(G:t<=day)(A:day<=65536):SA (WW day) m A1=some (A1.map<|XQ day)/\PR day n (all.map<|Jd<|day - t) (A1.map<|XQ day) A3 m/\∀c∈A1.map (XQ day),c.since=day:=by
 have l:∀(k:Nat) (c:QK),A1[k]? =some c->∃h,all[k]? =some h/\CR t n A3 c h:=λk c g=>by
  have B:k < all.length:=by rw[<-r.len];exact(DO.1 g).1
  exact⟨all[k],C1 B,r.each k c _ g<|C1 B⟩
 have u:m.map Prod.snd=(List.range A1.length).map some:=by
  rw[r.map];apply mc;intro i;simp only[x8,ls];by_cases h:i < A1.length
  ·simp[h]
  ·simp[h]
 refine⟨qE λl' y=> ?_,⟨by simp[r.len],λk c h g w=> ?_,?_,λi j ci L q d f C D=> ?_⟩,λc g=> ?_⟩
 ·have E:=y.map Prod.snd
  have p:∀o,o∈l'.map Prod.snd↔∃i,i < A1.length/\o=some i:=λo=>by
   rw[E.mem_iff,u];simp only[rm,mn];exact⟨fun⟨i,d,f⟩=>⟨i,d,f.symm⟩,fun⟨i,d,f⟩=>⟨i,d,f.symm⟩⟩
  obtain⟨M,v,x,H⟩:=Ef (day:=day) (A1:=A1) (n:=n) eB (λk c g=>by
   obtain⟨h,_,s⟩:=l k c g
   exact⟨s.since.1,by have:=s.since.2;omega,_,s.ok⟩) l' A1 (λe he=>by
    obtain⟨i,d,f⟩:=(p e.2).1<|IR he;exact⟨i,f,d⟩) (E.nodup_iff.2 (by rw[u];exact List.nodup_range.map _ λa b z e=>z<|by simpa using e)) rfl λ_ _=>rfl
  rw[v];congr 1;apply mc;intro i;rw[H i,x8];by_cases h:i < A1.length
  ·rw[BY<|(p _).2 ⟨i,h,rfl⟩]
  ·rw[B1 (λh' =>by
    obtain⟨N,d,f⟩:=(p _).1 h';simp only[W1] at f
    omega),s8 eB]
   rfl
 ·rw[x8] at g w
  cases d:A1[k]? with
  | none=>rw[d] at g;cases g
  | some F=>
   obtain⟨P,f,s⟩:=l k F d;rw[d] at g;rw[f] at w
   simp only[L4,W1] at g w
   subst g;subst w;exact(s.shift G).rest
 ·rw[r.map];apply mc;intro i;simp only[ls,x8];cases A1[i]? with
  | none=>rfl
  | some c=>simp[RT]
 ·rw[x8] at d f
  cases v:A1[i]? with
  | none=>rw[v] at d;cases d
  | some I=>
   cases x:A1[j]? with
   | none=>rw[x] at f;cases f
   | some K=>
    rw[v] at d;rw[x] at f
    simp only[L4,W1] at d f
    subst d;subst f;rw[C6] at C D
    exact r.apart i j I K q v x C D
 ·obtain⟨F,_,rfl⟩:=rm.1 g;exact XP
end
theorem PR.start:PR 0 0 [] [] [] []:=⟨rfl,λ_ _ _ h=>by simp at h,rfl,λ_ _ _ _ _ h=>by simp at h⟩
def IZ(day:Int)(r:(Q0 ZY ⊕ Int)×Nat)(o:K1 ((K1 Nat)×Int×Int×(Q0 QK)×(Q0 Qm)×FM×(Q0<|Q0<|Int×K1 Nat))):Prop:=match r with
 | (.inl all,k)=>∃A1 b A3 m,o=some (some 0,(k:Int),0,A1,[b],A3,[m])/\b.casks=some 0/\PR day k all A1 A3 m/\(∀c∈A1,c.since=day)/\Ar day k all/\k<=4096/\0<=day/\day<=65536
 | (.inr e,k)=>o=some (none,(k:Int),e,[],[],[],[])/\e≠0
theorem H8(l:Q0 Ev)(day:Int):IZ day (JV l day) (XW l day):=by
 obtain⟨D,p,g⟩:=TG;unfold XW JV;by_cases j:l.length > 4096
 ·have:decide ((l.length:Int) > 4096)=true:=fl eB;simp only[this,j,B2];exact⟨rfl,by decide⟩
 ·have:decide ((l.length:Int) > 4096)=false:=aT eB;simp only[this,j,Bm,W2];have e:YO day 0 65536=W6 day 0 65536:=rfl;rw[e];cases q:W6 day 0 65536 with
  | false=>exact⟨rfl,by decide⟩
  | true=>
   have b:=J3.1 q;simp only[RK,W2,Bm,QS,p,K2,r7];have a:=EV (D:=D) g (l:=l) (day:=day) eB l [] ⟨[],0⟩ [] [] [] ⟨some 0,0⟩ rfl H3.start PR.start rfl;unfold AK;cases m:HY day l 0 ⟨[],0⟩ with
   | mk r k=>
    have h:HY day l ([]:Q0 Ev).length ⟨[],0⟩=(r,k):=m;rw[h] at a
    cases r with
    | inl f=>
     obtain⟨i,A3',s,b',t,u,o⟩:=a;obtain⟨v,w,A,B⟩:=Ee l 0 ⟨[],0⟩ f k H3.start (by show(0:Int)<=day;omega) m;have c:ZU (YR l day D) (0,0,[],[⟨some 0,0⟩],[],[[]])=_:=t;obtain⟨x,y,z⟩:=vk u w b.2;have d:=Pc v.ok (n:=day - f.last) eB;rw[show f.last+(day - f.last)=day by omega] at d
     refine⟨i.map<|XQ day,b',A3',s,?_,o,y,z,d,by omega,b.1,b.2⟩;rw[c,K2];simp only[C2,K2,o,x]
    | inr er=>
     have c:ZU (YR l day D) (0,0,[],[⟨some 0,0⟩],[],[[]])=_:=a.1;refine⟨?_,a.2⟩;rw[c,K2]
end
section
open Go.Dec
variable{all:Q0 ZY}
def zC:ZR:=⟨0,0,0,0,0,0,0,0,zN,zN⟩
def Wk(all:Q0 ZY)(num:Int):K1 ZY:=(Jx all num).bind λi=>all[i]?
def Cy(l:Q0 Ev)(num day:Int):ZR×Int:=match(JV l day).1 with
 | .inr e=>(zC,e)
 | .inl all=>match Wk all num with
  | none=>(zC,4)
  | some h=>(h.C,0)
def Nh(l:Q0 Ev)(num day:Int):Q0 Int×Int:=match(JV l day).1 with
 | .inr e=>([],e)
 | .inl all=>match Wk all num with
  | none=>([],4)
  | some h=>(h.Fills,0)
theorem BI{l:Q0 Ev}{day e:Int}{k:Nat}(h:JV l day=(.inr e,k)):e≠0:=by
 have:=H8 l day;rw[h] at this
 exact this.2
theorem GR{l:Q0 Ev}{day:Int}{k:Nat}(h:JV l day=(.inl all,k)):Ar day k all/\k<=4096/\0<=day/\day<=65536:=by
 have:=H8 l day;rw[h] at this
 obtain⟨_,_,_,_,_,_,_,_,a,b,c,d⟩:=this;exact⟨a,b,c,d⟩
theorem CR.now{t:Int}{n:Nat}{A3:FM}{c:QK}{h:ZY}(r:CR t n A3 c h)(hs:c.since=t):h=UM c h.Fills:=by
 have:=r.eq;rw[hs,eo,S3] at this
 exact this
theorem Pq{num:Int}{i:Nat}(h:Jx all num=some i):∃a,all[i]? =some a/\Wk all num=some a:=by
 obtain⟨a,b,_⟩:=FT h;exact⟨a,b,by simp[Wk,h,b]⟩
theorem PR.look{t:Int}{n:Nat}{A1:Q0 QK}{A3:FM}{m:Q0 (Int×K1 Nat)}(r:PR t n all A1 A3 m)(hs:∀c∈A1,c.since=t){i:Nat}{h:ZY}(b:all[i]? =some h):∃c,A1[i]? =some c/\h=UM c h.Fills/\FR A3 c.fills h.Fills:=by
 have hi:i < A1.length:=by rw[r.len];exact(DO.1 b).1
 have d:A1[i]? =some A1[i]:=C1 hi;have a:=r.each i _ h d b;exact⟨_,d,a.now<|hs _<|iN _,a.fills⟩
theorem xu(l:Q0 Ev)(num day:Int):BK l num day=some (Cy l num day):=by
 have d:=H8 l day;unfold BK Cy;cases f:JV l day with
 | mk r k=>
  rw[f] at d
  cases r with
  | inr e=>
   rw[d.1,K2];have:(e != 0)=true:=by simpa using d.2
   simp only[this,B2];rfl
  | inl all=>
   obtain⟨A1,b,A3,m,o,p,j,hs,_⟩:=d;rw[o,K2];have q:((0:Int) != 0)=false:=rfl;simp only[q,W2,Bm,K2,C2,p,j.get];cases n:Jx all num with
   | none=>simp[Wk,n];rfl
   | some i=>
    obtain⟨h,s,g⟩:=Pq n;obtain⟨c,t,a,_⟩:=j.look hs s;simp only[lN,W2,Bm,g];unfold Y0;simp only[K2,t];have:h.C=(UM c h.Fills).C:=by rw[<-a]
    rw[this];rfl
end
section
open Go.Dec
def EN(all:Q0 ZY):Q0 Int:=(all.map (·.C.Number)).mergeSort λa b=>decide<|a<=b
def N9(all:Q0 ZY):Q0 ZY:=(EN all).filterMap<|Wk all
theorem S4(all:Q0 ZY):(EN all).Perm (all.map (·.C.Number)):=oC _ _
theorem xP{all:Q0 ZY}{num:Int}(h:num∈all.map (·.C.Number)):∃i a,Jx all num=some i/\all[i]? =some a/\Wk all num=some a/\a.C.Number=num:=by
 cases b:Jx all num with
 | none=>
  obtain⟨x,f,e⟩:=rm.1 h;exact absurd e (BO b x f)
 | some i=>
  obtain⟨a,c,g⟩:=Pq b;obtain⟨h',d,j⟩:=FT b;rw[c] at d;cases d
  exact⟨i,a,rfl,c,g,j⟩
section
variable{t:Int}{n:Nat}{all:Q0 ZY}{A1:Q0 QK}{A3:FM}{m:Q0 (Int×K1 Nat)}{b:Qm}
theorem xH(r:PR t n all A1 A3 m)(d:Ar t n all):Gy m=some (EN all):=by
 have c:m.map Prod.fst=all.map (·.C.Number):=by
  rw[r.map];apply mc;intro i;simp only[x8,ls];by_cases h:i < A1.length
  ·have g:i < all.length:=by rw[<-r.len];exact h
   rw[C1 h,C1 g];simp only[L4];rw[(r.each i _ _ (C1 h)<|C1 g).number]
  ·rw[s8 eB,s8 (by rw[<-r.len];omega)];rfl
 have o:m.length=all.length:=by rw[<-ei (f:=Prod.fst),c,ei]
 have a:m.all (λx=>decide<|-9223372036854775808<=x.1/\x.1<=9223372036854775807)=true:=IN.2 λx j=>by
  have k:x.1∈all.map (·.C.Number):=by rw[<-c];exact IR j
  obtain⟨h,l,e⟩:=rm.1 k;have:=(d.each h l).num;simp only[AT];omega
 unfold Gy;rw[BY ⟨a,by have:=d.few;omega⟩,c];rfl
theorem Oh(r:PR t n all A1 A3 m)(a:Ar t n all)(c:b.casks=some 0):Vg [b] [m] (some 0)=some ((EN all).map<|Jx all):=by
 unfold Vg;simp only[K2,C2,c,xH r a];congr 1;exact ov λk _=>r.get k
theorem Eg(hs:∀c∈A1,c.since=t)(r:PR t n all A1 A3 m):∀(ks:Q0 Int) (out:Q0 ZR),(∀k∈ks,k∈all.map (·.C.Number))->out.length+ks.length<=1000000->
  VB X9 (ks.map<|Jx all) (out,A1)=some (out++(ks.filterMap<|Wk all).map (·.C),A1)
 | [],out,_,_=>by simp[VB]
 | k::ks,out,f,g=>by
  obtain⟨i,h,j,l,o,u⟩:=xP (f k eF);obtain⟨c,p,a,_⟩:=r.look hs l
  have d:Y0 A1 (some i)=some h.C:=by
   unfold Y0;simp only[K2,p];have:h.C=(UM c h.Fills).C:=by rw[<-a]
   rw[this];rfl
  have q:X9 (some i) (out,A1)=some (out++[h.C],A1):=by
   unfold X9;rw[d,K2];simp only[OF] at g
   rw[TT eE];rfl
  simp only[E4,VB,j,q,K2];rw[Eg hs r ks (out++[h.C]) (λs e=>f s<|L3 _ e) (by simp at g ⊢;omega)];rw[qAH,o];simp
end
def Sm(l:Q0 Ev)(day:Int):Q0 ZR×Int×Int:=match JV l day with
 | (.inr e,k)=>([],(k:Int),e)
 | (.inl all,k)=>((N9 all).map (·.C),(k:Int),0)
theorem FX(l:Q0 Ev)(day:Int):HR l day=some (Sm l day):=by
 have c:=H8 l day;unfold HR Sm;cases d:JV l day with
 | mk r k=>
  rw[d] at c
  cases r with
  | inr e=>
   rw[c.1,K2];have:(e != 0)=true:=by simpa using c.2
   simp only[this,B2]
  | inl all=>
   obtain⟨A1,b,A3,m,i,j,f,hs,a,g,_⟩:=c;rw[i,K2];have n:((0:Int) != 0)=false:=rfl;simp only[n,W2,Bm,K2];rw[Oh f a j,K2];have h:(EN all).length=all.length:=by rw[(S4 all).length_eq];simp
   rw[Eg hs f (EN all) [] (λk g=>(S4 all).mem_iff.1 g) (by have:=a.few;simp;omega),K2];rfl
end
section
open Go.Dec
theorem LA{A3:FM}{p:K1 Nat}{F:Q0 Int}{n:Nat}(h:FR A3 p F)(d:F.Pairwise (·< ·)/\∀f∈F,0<=f/\f < n)(u:n<=4096):UC A3 p=some F:=by
 cases p with
 | none=>have:F=[]:=h;subst this;rfl
 | some j=>
  obtain⟨l,o,q,k⟩:=h;have i:F.Nodup:=d.1.imp λh=>iw h;have c:(l.map Prod.fst).Perm F:=(iY q i).2 λx=>(k x).symm;have m:l.length=F.length:=by rw[<-c.length_eq];simp
  have r:=Av 0 d.1 (n:=n) d.2 eB
  have g:l.all (λx=>decide<|-9223372036854775808<=x.1/\x.1<=9223372036854775807)=true:=IN.2 λx s=>by
   have:=d.2 x.1<|(k x.1).2<|IR s;simp only[AT];omega
  have t:Gy l=some ((l.map Prod.fst).mergeSort λa b=>decide<|a<=b):=by
   unfold Gy;rw[BY ⟨g,by omega⟩]
  have e:UC A3 (some j)=Gy l:=by simp[UC,o]
  rw[e,t,kr c];congr 1;exact List.mergeSort_of_pairwise<|d.1.imp λh=>by simpa using Int.le_of_lt h
theorem IY(l:Q0 Ev)(num day:Int):XY l num day=some (Nh l num day):=by
 have a:=H8 l day;unfold XY Nh;cases d:JV l day with
 | mk r k=>
  rw[d] at a
  cases r with
  | inr e=>
   rw[a.1,K2];have:(e != 0)=true:=by simpa using a.2
   simp only[this,B2]
  | inl all=>
   obtain⟨A1,b,A3,m,t,u,o,hs,f,v,_⟩:=a;rw[t,K2];have w:((0:Int) != 0)=false:=rfl;simp only[w,W2,Bm,K2,C2,u,o.get];cases p:Jx all num with
   | none=>simp[Wk,p]
   | some i=>
    obtain⟨h,q,g⟩:=Pq p;obtain⟨c,x,s,j⟩:=o.look hs q;have n:=f.each h<|T2 q;simp only[lN,W2,Bm,g,K2,x];rw[LA j n.fills v];rfl
end
end Go.Proofs.YtdoocboganbagaaGreatDoor.Ca
namespace Go.Proofs.YtdoocboganbagaaGreatDoor.Ex
section
open Go.Dec
variable{f:QF->Int}{j:Nat}{v a:Int}
structure Acc where
 B:Qz
 Ids:List Int
 Sums:Nat->Int
abbrev Ev:=QN
abbrev G8:=Qk
variable{r:G8}
abbrev Bk:=Qz
abbrev zN:Nat->Int:=λ_=>0
def W6(n a b:Int):Bool:=decide (n≥a)&&decide (n<=b)
def FD:Int->Q0 Zc->Bool
 | _,[]=>true
 | last,x::l=>W6 x.From 0 65536&&decide (last < x.From)&&W6 x.Rate 0 1048576&&FD x.From l
def O8:Q0 Zc->Bool
 | x::_=>x.From==0
 | []=>false
def Xv(r:G8):Bool:=W6 r.Rates.length 1 64&&O8 r.Rates&&W6 r.Transit 0 65536&&W6 r.Loss 0 10000&&W6 r.Share 0 1000&&FD (-1) r.Rates
def DY(l:Q0 Zc)(day:Int):Int:=l.foldl (λown x=>if x.From<=day then x.Rate else own) 0
def WY(r:G8)(amount day:Int):Int:=amount*DY r.Rates day / 1000
def Ch(n:Int):Bool:=W6 n 0 15
def Xa(x:Ev):Bool:=
 W6 x.Day 0 65536&&
 (if x.Kind==0||x.Kind==3||x.Kind==4 then Ch x.Bond&&W6 x.Amount 1 17179869184
  else if x.Kind==1 then Ch x.Bond&&Ch x.To&&W6 x.Id 0 1073741824&&W6 x.Amount 1 17179869184
  else if x.Kind==2 then Ch x.Bond&&W6 x.Id 0 1073741824&&W6 x.Amount 0 17179869184
  else if x.Kind==5 then Ch x.Bond&&W6 x.Amount 0 17179869184
  else if x.Kind==6 then W6 x.Amount 1 72057594037927936 else false)
def ZQ(r:G8)(p:QF):Int:=p.Sent+r.Transit+1
def YW(f:QF->Int):Q0 QF->Int
 | []=>0
 | p::l=>f p+YW f l
def Uw(r:G8)(t d:Int)(s:Acc):Acc:=
 {s with
  B:={s.B with
   Moving:=s.B.Moving.filter λp=>decide<|d < ZQ r p,
   Used:=s.B.Used+YW QF.Amount (s.B.Moving.filter λp=> !decide (d < ZQ r p)),
   Due:=s.B.Due+YW (λp=>WY r p.Amount<|ZQ r p) (s.B.Moving.filter λp=> !decide (d < ZQ r p))},
  Sums:=λi=>if i < 16 then s.Sums i+s.B.Bonds i*(d - t) else s.Sums i}
def BJ(r:G8)(day lost allowed:Int)(s:Acc):Acc:={s with B:={s.B with Lost:=s.B.Lost+Je lost allowed,Charged:=s.B.Charged+(lost - Je lost allowed),Due:=s.B.Due+WY r (lost - Je lost allowed) day}}
def UT(s:Acc)(x:Ev)(n:Int):Acc:={s with B:={s.B with Bonds:=ZB s.B.Bonds x.Bond.toNat n}}
def M8(r:G8)(amount day:Int)(s:Acc):Acc:={s with B:={s.B with Used:=s.B.Used+amount,Due:=s.B.Due+WY r amount day}}
def Zq(s:Acc)(x:Ev):Int:=s.B.Bonds x.Bond.toNat
def BN(p:QF):Q0 QF->Q0 QF
 | []=>[p]
 | q::l=>if q.Id < p.Id then q::BN p l else p::q::l
def zq(x:Ev):QF:=⟨x.Id,x.Bond,x.To,x.Day,x.Amount⟩
def Df(s:Acc)(x:Ev):Acc ⊕ Int:=if Zq s x+x.Amount > 17179869184 then .inr 12 else .inl {UT s x (Zq s x+x.Amount) with B:={(UT s x<|Zq s x+x.Amount).B with Made:=s.B.Made+x.Amount}}
def RR(s:Acc)(x:Ev):Acc ⊕ Int:=
 if x.Bond==x.To then .inr 11 else if s.Ids.contains x.Id then .inr 5 else if Zq s x < x.Amount then .inr 10
 else .inl {UT s x (Zq s x - x.Amount) with B:={(UT s x<|Zq s x - x.Amount).B with Moving:=BN (zq x) s.B.Moving},Ids:=s.Ids++[x.Id]}
def O3(r:G8)(s:Acc)(x:Ev)(p:QF):Acc:=
 BJ r x.Day (imax 0<|p.Amount - x.Amount) (p.Amount*r.Loss / 10000)
  {UT s x (Zq s x+x.Amount) with B:={(UT s x<|Zq s x+x.Amount).B with Moving:=s.B.Moving.filter λq=> !(q.Id==x.Id),Found:=s.B.Found+imax 0 (x.Amount - p.Amount)}}
def Fi(r:G8)(s:Acc)(x:Ev):Acc ⊕ Int:=
 match s.B.Moving.find? (λq=>q.Id==x.Id) with
 | none=>.inr 4
 | some p=>if p.To != x.Bond then .inr 11 else if Zq s x+x.Amount > 17179869184 then .inr 12 else .inl (O3 r s x p)
def GQ(r:G8)(s:Acc)(x:Ev):Acc ⊕ Int:=if Zq s x < x.Amount then .inr 10 else .inl (M8 r x.Amount x.Day<|UT s x<|Zq s x - x.Amount)
def AG(s:Acc)(x:Ev):Acc ⊕ Int:=if Zq s x < x.Amount then .inr 10 else .inl {UT s x (Zq s x - x.Amount) with B:={(UT s x<|Zq s x - x.Amount).B with Exported:=s.B.Exported+x.Amount}}
def RM(r:G8)(s:Acc)(x:Ev):Acc:=
 BJ r x.Day (imax 0<|Zq s x - x.Amount) (s.Sums x.Bond.toNat*r.Share / 3650000)
  {UT s x x.Amount with B:={(UT s x x.Amount).B with Found:=s.B.Found+imax 0 (x.Amount - Zq s x)},Sums:=ZB s.Sums x.Bond.toNat 0}
def qG(s:Acc)(x:Ev):Acc ⊕ Int:=if x.Amount > s.B.Due - s.B.Paid then .inr 11 else .inl {s with B:={s.B with Paid:=s.B.Paid+x.Amount}}
def DJ(r:G8)(s:Acc)(x:Ev):Acc ⊕ Int:=
 if x.Kind==0 then Df s x else if x.Kind==1 then RR s x else if x.Kind==2 then Fi r s x else if x.Kind==3 then GQ r s x
 else if x.Kind==4 then AG s x else if x.Kind==5 then .inl (RM r s x) else if x.Kind==6 then qG s x else .inl s
structure D5 where
 acc:Acc
 day:Int
def VQ(r:G8)(s:D5)(x:Ev):D5 ⊕ Int:=
 if !Xa x then .inr 1 else if x.Day < s.day then .inr 7
 else match DJ r (Uw r s.day x.Day s.acc) x with
  | .inl a=>.inl ⟨a,x.Day⟩
  | .inr e=>.inr e
def HY(r:G8)(day:Int):Q0 Ev->Nat->D5->(D5 ⊕ Int)×Nat
 | [],n,s=>(.inl s,n)
 | x::l,n,s=>if x.Day<=day then match VQ r s x with
   | .inl b=>HY r day l (n+1) b
   | .inr e=>(.inr e,n)
  else(.inl s,n)
def Cw:Acc:=⟨⟨zN,[],0,0,0,0,0,0,0,0⟩,[],zN⟩
def TH:D5:=⟨Cw,0⟩
def AK(r:G8)(day:Int)(l:Q0 Ev)(n:Nat)(s:D5):(Acc ⊕ Int)×Nat:=match HY r day l n s with
 | (.inl b,k)=>(.inl<|Uw r b.day day b.acc,k)
 | (.inr e,k)=>(.inr e,k)
def JV(r:G8)(l:Q0 Ev)(day:Int):(Acc ⊕ Int)×Nat:=if !Xv r then(.inr 1,0) else if l.length > 4096 then(.inr 3,0) else if !W6 day 0 65536 then(.inr 2,0) else AK r day l 0 TH
theorem J3{n b:Int}:W6 n a b=true↔a<=n/\n<=b:=by simp[W6]
theorem VJ{f:Nat->Int}:ZB f j v j=v:=by simp[ZB]
theorem UR{f:Nat->Int}{k:Nat}(h:k≠j):ZB f j v k=f k:=by
 unfold ZB
 have:Nat.beq k j=false:=by
  cases b:Nat.beq k j with
  | false=>rfl
  | true=>exact absurd (j0 b) h
 rw[this]
def NX(f:Nat->Int):Nat->Int
 | 0=>0
 | n+1=>NX f n+f n
theorem Td{f:Nat->Int}:∀{n:Nat},n<=j->NX (ZB f j v) n=NX f n
 | 0,_=>rfl
 | n+1,h=>by simp only[NX];rw[Td eB,UR eB]
theorem Fa{f:Nat->Int}:∀{n:Nat},j < n->NX (ZB f j v) n=NX f n+v - f j
 | n+1,h=>by
  simp only[NX];by_cases e:n=j
  ·subst e;rw[Td<|S2 _,VJ];omega
  ·rw[Fa eB,UR e];omega
theorem Iq{f:Nat->Int}:∀{n:Nat},(∀i,i < n->0<=f i)->0<=NX f n
 | 0,_=>Of _
 | n+1,h=>by have:=Iq (n:=n) (λi hi=>h i eB);have:=h n eB;simp only[NX];omega
theorem Fe:∀{l:Q0 QF},(∀p∈l,0<=f p)->0<=YW f l
 | [],_=>Of _
 | p::l,h=>by have:=Fe (l:=l) λq b=>h q<|L3 _ b;have:=h p<|sp ..;simp only[YW];omega
theorem OJ{g:QF->Int}:∀{l:Q0 QF},(∀p∈l,f p<=g p)->YW f l<=YW g l
 | [],_=>Of _
 | p::l,h=>by have:=OJ (l:=l) λq b=>h q<|L3 _ b;have:=h p<|sp ..;simp only[YW];omega
theorem Na{k:Int}:∀{l:Q0 QF},YW (λp=>k*f p) l=k*YW f l
 | []=>by simp[YW]
 | p::l=>by simp only[YW,Na (l:=l),iR]
theorem Fc{f:QF->Int}{c:QF->Bool}:∀{l:Q0 QF},YW f (l.filter c)+YW f (l.filter λp=> !c p)=YW f l
 | []=>rfl
 | p::l=>by
  have:=Fc (f:=f) (c:=c) (l:=l);cases h:c p<;>simp only[nt,h,RK,k4,B2,W2,Bm,YW]<;>omega
theorem D7{l k:Q0 QF}(h:l.Perm k):YW f l=YW f k:=by
 induction h with
 | nil=>rfl
 | cons x _ b=>simp only[YW,b]
 | swap x y l=>simp only[YW];omega
 | trans _ _ c d=>exact c.trans d
structure VT(r:G8):Prop where
 rates:∀x∈r.Rates,0<=x.From/\x.From<=65536/\0<=x.Rate/\x.Rate<=1048576
 sorted:r.Rates.Pairwise (λx y=>x.From < y.From)
 first:∃x l,r.Rates=x::l/\x.From=0
 len:r.Rates.length<=64
 transit:0<=r.Transit/\r.Transit<=65536
 loss:0<=r.Loss/\r.Loss<=10000
 share:0<=r.Share/\r.Share<=1000
theorem RX:∀{last:Int} {l:Q0 Zc},FD last l=true↔(∀x∈l,0<=x.From/\x.From<=65536/\0<=x.Rate/\x.Rate<=1048576)/\l.Pairwise (λx y=>x.From < y.From)/\∀x∈l,last < x.From
 | last,[]=>by simp[FD]
 | last,x::l=>by
  simp only[FD,Do,J3,AT,RX (last:=x.From) (l:=l),qs,List.forall_mem_cons];constructor
  ·rintro⟨⟨⟨b,e⟩,c⟩,g,h,d⟩;exact⟨⟨⟨b.1,b.2,c.1,c.2⟩,g⟩,⟨d,h⟩,e,λy i=>by have:=d y i;omega⟩
  ·rintro⟨⟨⟨b,e,c,g⟩,h⟩,⟨d,k⟩,m,_⟩;exact⟨⟨⟨⟨b,e⟩,m⟩,c,g⟩,h,k,d⟩
theorem PW:Xv r=true↔VT r:=by
 unfold Xv;simp only[Do,J3,RX];constructor
 ·rintro⟨⟨⟨⟨⟨o,b⟩,c⟩,d⟩,g⟩,i,k,p⟩;refine⟨i,k,?_,by omega,c,d,g⟩;cases e:r.Rates with
  | nil=>rw[e] at b;cases b
  | cons x l=>rw[e] at b;exact⟨x,l,rfl,by simpa[O8] using b⟩
 ·intro h;obtain⟨x,l,e,m⟩:=h.first;refine⟨⟨⟨⟨⟨⟨?_,?_⟩,?_⟩,h.transit⟩,h.loss⟩,h.share⟩,h.rates,h.sorted,λy n=> ?_⟩
  ·rw[e];simp;omega
  ·have:=h.len;omega
  ·rw[e];simp[O8,m]
  ·have:=(h.rates y n).1;omega
theorem qA{l:Q0 Zc}{day:Int}(h:∀x∈l,0<=x.Rate/\x.Rate<=1048576):0<=DY l day/\DY l day<=1048576:=by
 have:∀(l:Q0 Zc) (a:Int),(∀x∈l,0<=x.Rate/\x.Rate<=1048576)->0<=a/\a<=1048576->0<=l.foldl (λown x=>if x.From<=day then x.Rate else own) a/\l.foldl (λown x=>if x.From<=day then x.Rate else own) a<=1048576:=by
  intro l
  induction l with
  | nil=>intro a _ h;exact h
  | cons x l c=>
   intro a b d;refine c _ (λy e=>b y<|L3 _ e) ?_;have:=b x<|sp ..;show 0<=(if x.From<=day then x.Rate else a)/\(if x.From<=day then x.Rate else a)<=1048576;split
   ·exact this
   ·exact d
 exact this l 0 h eB
theorem VT.nm(h:VT r)(day:Int):0<=DY r.Rates day/\DY r.Rates day<=1048576:=qA λx b=>⟨(h.rates x b).2.2.1,(h.rates x b).2.2.2⟩
theorem VT.sl(h:VT r){d:Int}(b:0<=a):0<=WY r a d/\WY r a d<=1049*a:=by
 have c:=h.nm d;unfold WY;have e:0<=a*DY r.Rates d:=n2 b c.1;have g:a*DY r.Rates d<=a*1048576:=fm c.2 b;constructor<;>omega
theorem VT.po(h:VT r){d:Int}(b:0<=a)(e:a<=17179869184):0<=a*DY r.Rates d/\a*DY r.Rates d<=18014398509481984:=by
 have c:=h.nm d;have g:a*DY r.Rates d<=a*1048576:=fm c.2 b;exact⟨n2 b c.1,by omega⟩
end
section
open Go.Dec
variable{q p:QF}{l:Q0 QF}
structure bz(r:G8)(t:Int)(p:QF):Prop where
 amount:1<=p.Amount/\p.Amount<=17179869184
 id:0<=p.Id/\p.Id<=1073741824
 fro:0<=p.From/\p.From<=15
 tow:0<=p.To/\p.To<=15
 ne:p.From≠p.To
 sent:0<=p.Sent/\p.Sent<=t
 late:t < ZQ r p
structure H3(r:G8)(n:Nat)(t:Int)(s:Acc):Prop where
 bonds:∀i,i < 16->0<=s.B.Bonds i/\s.B.Bonds i<=17179869184
 sums:∀i,i < 16->0<=s.Sums i/\s.Sums i<=t*17179869184
 sorted:s.B.Moving.Pairwise (λp q=>p.Id < q.Id)
 mov:∀p∈s.B.Moving,bz r t p
 known:∀p∈s.B.Moving,p.Id∈s.Ids
 ids:∀i∈s.Ids,0<=i/\i<=1073741824
 mlen:s.B.Moving.length<=n
 ilen:s.Ids.length<=n
 pos:0<=s.B.Made/\0<=s.B.Found/\0<=s.B.Used/\0<=s.B.Exported/\0<=s.B.Lost/\0<=s.B.Charged/\0<=s.B.Paid/\s.B.Paid<=s.B.Due
 made:s.B.Made+s.B.Found<=n*17179869184
 whole:s.B.Used+s.B.Exported+s.B.Lost+s.B.Charged+NX s.B.Bonds 16+YW QF.Amount s.B.Moving=s.B.Made+s.B.Found
 due:s.B.Due<=1049*(s.B.Used+s.B.Charged)
 out:∀i,16<=i->s.B.Bonds i=0
variable{r:G8}{n:Nat}{t d:Int}{s:Acc}{x:Ev}{p:QF}
theorem IS(r:G8):H3 r 0 0 Cw where
 bonds:=λi _=>by simp[Cw]
 sums:=λi _=>by simp[Cw]
 sorted:=List.Pairwise.nil
 mov:=λ_ h=>by cases h
 known:=λ_ h=>by cases h
 ids:=λ_ h=>by cases h
 mlen:=S2 _
 ilen:=S2 _
 pos:=by simp[Cw]
 made:=by simp[Cw]
 whole:=by simp[Cw,NX,YW]
 due:=by simp[Cw]
 out:=λi _=>rfl
theorem H3.lim(h:H3 r n t s):s.B.Used<=n*17179869184/\s.B.Exported<=n*17179869184/\s.B.Lost<=n*17179869184/\s.B.Charged<=n*17179869184/\s.B.Used+s.B.Charged+YW QF.Amount s.B.Moving<=n*17179869184/\s.B.Made<=n*17179869184/\s.B.Found<=n*17179869184/\0<=YW QF.Amount s.B.Moving:=by
 have b:=h.pos;have c:=h.made;have e:=h.whole;have f:=Iq (n:=16) λi hi=>(h.bonds i hi).1;have g:0<=YW QF.Amount s.B.Moving:=Fe λp a=>by have:=(h.mov p a).amount.1;omega
 refine⟨?_,?_,?_,?_,?_,?_,?_,?_⟩<;>omega
theorem Od(j:VT r)(h:H3 r n t s)(le:t<=d):H3 r n d (Uw r t d s) where
 bonds:=h.bonds
 sums:=λi hi=>by
  have e:=h.sums i hi;have a:=h.bonds i hi;simp only[Uw,hi,B2];have g:0<=s.B.Bonds i*(d - t):=n2 a.1 eB;have k:s.B.Bonds i*(d - t)<=17179869184*(d - t):=ey a.2 eB;constructor
  ·omega
  ·omega
 sorted:=h.sorted.filter _
 mov:=λp b=>by
  have e:=sf.1 b;have a:=h.mov p e.1;exact⟨a.amount,a.id,a.fro,a.tow,a.ne,⟨a.sent.1,by have:=a.sent.2;omega⟩,by simpa using e.2⟩
 known:=λp b=>h.known p (sf.1 b).1
 ids:=h.ids
 mlen:=mz (oe _ _) h.mlen
 ilen:=h.ilen
 pos:=by
  have e:=h.pos;have a:0<=YW QF.Amount (s.B.Moving.filter λp=> !decide (d < ZQ r p)):=Fe λp b=>by have:=(h.mov p (sf.1 b).1).amount.1;omega
  have g:0<=YW (λp=>WY r p.Amount<|ZQ r p) (s.B.Moving.filter λp=> !decide (d < ZQ r p)):=Fe λp b=>by have:=(h.mov p (sf.1 b).1).amount.1;exact(j.sl eB).1
  simp only[Uw];refine⟨?_,?_,?_,?_,?_,?_,?_,?_⟩<;>omega
 made:=h.made
 whole:=by
  have e:=h.whole;have a:=Fc (f:=QF.Amount) (c:=λp=>decide<|d < ZQ r p) (l:=s.B.Moving);simp only[Uw];omega
 due:=by
  have e:=h.due;have g:YW (λp=>WY r p.Amount<|ZQ r p) (s.B.Moving.filter λp=> !decide (d < ZQ r p))<=YW (λp=>1049*p.Amount) (s.B.Moving.filter λp=> !decide (d < ZQ r p)):=OJ λp b=>by have:=(h.mov p (sf.1 b).1).amount.1;exact(j.sl eB).2
  rw[Na] at g
  simp only[Uw];omega
 out:=h.out
theorem j7{u:Int}(o:u<=d):Uw r u d (Uw r t u s)=Uw r t d s:=by
 have b:(s.B.Moving.filter λp=>decide<|u < ZQ r p).filter (λp=>decide<|d < ZQ r p)=s.B.Moving.filter (λp=>decide<|d < ZQ r p):=by
  rw[lO];refine bY λp _=> ?_;by_cases h:d < ZQ r p
  ·simp[h];omega
  ·simp[h]
 have a (f:QF->Int):YW f (s.B.Moving.filter λp=> !decide (u < ZQ r p))+YW f ((s.B.Moving.filter λp=>decide<|u < ZQ r p).filter λp=> !decide (d < ZQ r p))=YW f (s.B.Moving.filter λp=> !decide (d < ZQ r p)):=by
  have:=Fc (f:=f) (c:=λp=>decide<|u < ZQ r p) (l:=s.B.Moving.filter λp=> !decide (d < ZQ r p));rw[lO,lO] at this
  rw[lO,<-this]
  have e:s.B.Moving.filter (λp=> !decide (u < ZQ r p))=s.B.Moving.filter (λp=>(!decide (u < ZQ r p))&& !decide (d < ZQ r p)):=bY λp _=>by
   by_cases h:u < ZQ r p
   ·simp[h]
   ·simp[h];omega
  have g:s.B.Moving.filter (λp=>(!decide (d < ZQ r p))&&decide (u < ZQ r p))=s.B.Moving.filter (λp=>decide (u < ZQ r p)&& !decide (d < ZQ r p)):=bY λp _=>ik _ _;rw[<-e,g];omega
 have j:(λi=>if i < 16 then(if i < 16 then s.Sums i+s.B.Bonds i*(u - t) else s.Sums i)+s.B.Bonds i*(d - u) else(if i < 16 then s.Sums i+s.B.Bonds i*(u - t) else s.Sums i))=(λi=>if i < 16 then s.Sums i+s.B.Bonds i*(d - t) else s.Sums i):=by
  funext i;by_cases h:i < 16
  ·simp only[h,B2];have:s.B.Bonds i*(d - t)=s.B.Bonds i*(u - t)+s.B.Bonds i*(d - u):=by rw[<-iR];congr 1;omega
   omega
  ·simp only[h,Bm]
 have k:=a QF.Amount;have m:=a λp=>WY r p.Amount<|ZQ r p;simp only[Uw,b];rw[j,ij,k,ij,m]
theorem ud(h:Xa x=true):0<=x.Day/\x.Day<=65536:=by
 unfold Xa at h;simp only[Do,J3] at h;exact h.1
theorem GW(h:Xa x=true)(a:x.Kind=0∨x.Kind=3∨x.Kind=4):(0<=x.Bond/\x.Bond<=15)/\1<=x.Amount/\x.Amount<=17179869184:=by
 unfold Xa at h
 have:(x.Kind==0||x.Kind==3||x.Kind==4)=true:=by rcases a with e | e | e<;>simp[e]
 rw[this] at h
 simpa[J3,Ch] using(lT.1 h).2
theorem O9(h:Xa x=true)(a:x.Kind=1):(0<=x.Bond/\x.Bond<=15)/\(0<=x.To/\x.To<=15)/\(0<=x.Id/\x.Id<=1073741824)/\1<=x.Amount/\x.Amount<=17179869184:=by
 unfold Xa at h
 simp only[a] at h
 simpa[J3,Ch,il] using(lT.1 h).2
theorem MV(h:Xa x=true)(a:x.Kind=2):(0<=x.Bond/\x.Bond<=15)/\(0<=x.Id/\x.Id<=1073741824)/\0<=x.Amount/\x.Amount<=17179869184:=by
 unfold Xa at h
 simp only[a] at h
 simpa[J3,Ch,il] using(lT.1 h).2
theorem jN(h:Xa x=true)(a:x.Kind=5):(0<=x.Bond/\x.Bond<=15)/\0<=x.Amount/\x.Amount<=17179869184:=by
 unfold Xa at h
 simp only[a] at h
 simpa[J3,Ch,il] using(lT.1 h).2
theorem uc(h:Xa x=true)(a:x.Kind=6):1<=x.Amount/\x.Amount<=72057594037927936:=by
 unfold Xa at h
 simp only[a] at h
 simpa[J3,Ch,il] using(lT.1 h).2
theorem qi(h:Xa x=true):x.Kind=0∨x.Kind=1∨x.Kind=2∨x.Kind=3∨x.Kind=4∨x.Kind=5∨x.Kind=6:=by
 unfold Xa at h
 have j:=(lT.1 h).2;by_cases a:x.Kind=0
 ·exact .inl a
 by_cases b:x.Kind=1
 ·exact .inr<|.inl b
 by_cases c:x.Kind=2
 ·exact .inr<|.inr<|.inl c
 by_cases e:x.Kind=3
 ·exact .inr<|.inr<|.inr<|.inl e
 by_cases f:x.Kind=4
 ·exact .inr<|.inr<|.inr<|.inr<|.inl f
 by_cases g:x.Kind=5
 ·exact .inr<|.inr<|.inr<|.inr<|.inr<|.inl g
 by_cases i:x.Kind=6
 ·exact .inr<|.inr<|.inr<|.inr<|.inr<|.inr i
 ·simp[a,b,c,e,f,g,i] at j
theorem SJ:∀{l:Q0 QF},(BN q l).Perm (q::l)
 | []=>.refl _
 | y::l=>by
  simp only[BN];split
  ·exact(SJ.cons y).trans<|.swap _ _ _
  ·exact .refl _
theorem O0{y:QF}:y∈BN q l↔y=q∨y∈l:=by
 rw[SJ.mem_iff,TO]
theorem Fs:∀{l:Q0 QF},l.Pairwise (λp q=>p.Id < q.Id)->(∀p∈l,p.Id≠q.Id)->(BN q l).Pairwise (λp q=>p.Id < q.Id)
 | [],_,_=>by simp[BN]
 | y::l,h,f=>by
  have e:=qs.1 h;simp only[BN];split
  ·rename_i c;refine qs.2 ⟨λa b=> ?_,Fs e.2 λp g=>f p<|L3 _ g⟩;rcases O0.1 b with rfl | b
   ·exact c
   ·exact e.1 a b
  ·rename_i c;have:=f y<|sp ..;refine qs.2 ⟨λa b=> ?_,h⟩;rcases TO.1 b with rfl | b
   ·omega
   ·have:=e.1 a b;omega
theorem xL(h:l.Pairwise (λp q=>p.Id < q.Id))(f:p∈l)(g:q∈l)(e:p.Id=q.Id):p=q:=by
 induction l with
 | nil=>cases f
 | cons y l i=>
  have c:=qs.1 h;rcases TO.1 f with rfl | a<;>rcases TO.1 g with rfl | b
  ·rfl
  ·have:=c.1 q b;omega
  ·have:=c.1 p a;omega
  ·exact i c.2 a b
theorem qJ{i:Int}(h:l.Pairwise (λp q=>p.Id < q.Id))(a:l.find? (λq=>q.Id==i)=some p):p∈l/\p.Id=i/\l.Perm (p::l.filter (λq=> !(q.Id==i))):=by
 have c:=ml a;have hi:p.Id=i:=by simpa using List.find?_some a
 refine⟨c,hi,?_⟩
 induction l with
 | nil=>cases c
 | cons y l j=>
  have f:=qs.1 h;rw[mx] at a
  by_cases e:y.Id=i
  ·have:(y.Id==i)=true:=by simpa using e
   rw[this] at a;simp only[W1] at a;subst a
   have:l.filter (λq=> !(q.Id==i))=l:=mw.2 λq k=>by have:=f.1 q k;simp;omega
   rw[nt,this];simp[e]
  ·have g:(y.Id==i)=false:=by simpa using e
   rw[g] at a
   have b:=ml a;rw[nt,g];simp only[k4,B2];exact((j f.2 a b).cons y).trans<|.swap _ _ _
end
section
open Go.Dec
variable{r:G8}{n:Nat}{t d:Int}{s s' :Acc}{x:Ev}{p:QF}
theorem GJ{f:Nat->Int}{j:Nat}{v M:Int}(h:∀i,i < 16->0<=f i/\f i<=M)(a:0<=v/\v<=M):∀i,i < 16->0<=ZB f j v i/\ZB f j v i<=M:=λi hi=>by
 by_cases e:i=j
 ·subst e;rw[VJ];exact a
 ·rw[UR e];exact h i hi
theorem Sz{f:Nat->Int}{j:Nat}{v:Int}(h:∀i,16<=i->f i=0)(a:j < 16):∀i,16<=i->ZB f j v i=0:=λi hi=>by
 rw[UR eB];exact h i hi
theorem Dj(h:0<=x.Bond/\x.Bond<=15):x.Bond.toNat < 16:=by omega
theorem Po{a b:Int}:(Je a b=a/\a<=b)∨(Je a b=b/\b<=a):=by unfold Je;split<;>omega
theorem FQ{a b:Int}:(imax a b=a/\b<=a)∨(imax a b=b/\a<=b):=by unfold imax;split<;>omega
theorem yY(h:H3 r n t s)(g:0<=x.Bond/\x.Bond<=15)(i:1<=x.Amount/\x.Amount<=17179869184)(a:Df s x= .inl s'):H3 r (n+1) t s' :=by
 unfold Df at a
 split at a
 ·cases a
 ·rename_i b;simp only[x2] at a
  subst a;have c:=Dj g;have j:=h.bonds _ c;have hs:=Fa (f:=s.B.Bonds) (v:=Zq s x+x.Amount) c;unfold Zq at b hs
  have k:=h.pos;have l:=h.made;have m:=h.whole;have e:=h.due;have o:=h.mlen;have q:=h.ilen
  exact{
   bonds:=GJ h.bonds (by unfold Zq;omega),sums:=h.sums,sorted:=h.sorted,mov:=h.mov,known:=h.known,ids:=h.ids
   mlen:=by show s.B.Moving.length<=_;omega
   ilen:=by show s.Ids.length<=_;omega
   pos:=by simp only[UT];omega
   made:=by simp only[UT];omega
   whole:=by simp only[UT,Zq];omega
   due:=e
   out:=Sz h.out c}
theorem wj(h:H3 r n t s)(w:0<=x.Bond/\x.Bond<=15)(m:0<=x.To/\x.To<=15)(c:0<=x.Id/\x.Id<=1073741824)(z:1<=x.Amount/\x.Amount<=17179869184)(A:VT r)(y:x.Day=t)(C:0<=t)(b:RR s x= .inl s'):H3 r (n+1) t s' :=by
 unfold RR at b
 split at b
 ·cases b
 ·rename_i o;split at b
  ·cases b
  ·rename_i g;split at b
   ·cases b
   ·rename_i j;simp only[x2] at b
    subst b;have k:x.Bond≠x.To:=by simpa using o
    have l:x.Id∉s.Ids:=by simpa using g
    have q:=Dj w;have D:=h.bonds _ q;have hs:=Fa (f:=s.B.Bonds) (v:=Zq s x - x.Amount) q;unfold Zq at j hs
    have a:=h.pos;have E:=h.made;have F:=h.whole;have u:=h.due;have G:=h.mlen;have H:=h.ilen;have I:YW QF.Amount (BN (zq x) s.B.Moving)=x.Amount+YW QF.Amount s.B.Moving:=(D7 SJ).trans rfl;have K:(BN (zq x) s.B.Moving).length=s.B.Moving.length+1:=SJ.length_eq;have L:=A.transit
    exact{
     bonds:=GJ h.bonds (by unfold Zq;omega),sums:=h.sums
     sorted:=Fs h.sorted λp a e=>l (by have:=h.known p a;rw[e] at this;exact this)
     mov:=λp a=>by
      rcases O0.1 a with rfl | a
      ·exact⟨z,c,w,m,k,⟨by show 0<=x.Day;omega,by show x.Day<=t;omega⟩,by show t < x.Day+r.Transit+1;omega⟩
      ·exact h.mov p a
     known:=λp a=>by
      show p.Id∈s.Ids++[x.Id];rcases O0.1 a with rfl | a
      ·simp[zq]
      ·exact qAB _<|h.known p a
     ids:=λi hi=>by
      have hi:i∈s.Ids++[x.Id]:=hi;rcases mg.1 hi with hi | hi
      ·exact h.ids i hi
      ·simp only[ts] at hi;subst hi;exact c
     mlen:=by simp only;omega
     ilen:=by simp only[x4,lg];omega
     pos:=by simp only[UT];omega
     made:=by simp only[UT];omega
     whole:=by simp only[UT,Zq];omega
     due:=u
     out:=Sz h.out q}
theorem gx(h:H3 r n t s)(m:0<=x.Bond/\x.Bond<=15)(C:0<=x.Amount/\x.Amount<=17179869184)(l:VT r)(e:s.B.Moving.find? (λq=>q.Id==x.Id)=some p)(g:¬Zq s x+x.Amount > 17179869184):H3 r (n+1) t (O3 r s x p):=by
 obtain⟨i,o,c⟩:=qJ h.sorted e;have j:=h.mov p i;have k:=Dj m;have D:=h.bonds _ k;have hs:=Fa (f:=s.B.Bonds) (v:=Zq s x+x.Amount) k;unfold Zq at g hs
 have u:=h.pos;have E:=h.made;have F:=h.whole;have w:=h.due;have G:=h.mlen;have H:=h.ilen;have I:YW QF.Amount s.B.Moving=p.Amount+YW QF.Amount (s.B.Moving.filter λq=> !(q.Id==x.Id)):=(D7 c).trans rfl;have y:0<=p.Amount*r.Loss / 10000:=oB (n2 (by have:=j.amount;omega) l.loss.1) eB;have K:=FQ (a:=0) (b:=p.Amount - x.Amount);have L:=FQ (a:=0) (b:=x.Amount - p.Amount);have M:=Po (a:=imax 0<|p.Amount - x.Amount) (b:=p.Amount*r.Loss / 10000);have z:=j.amount;have A:=l.sl (a:=imax 0 (p.Amount - x.Amount) - Je (imax 0<|p.Amount - x.Amount) (p.Amount*r.Loss / 10000)) (d:=x.Day) eB
 exact{
  bonds:=GJ h.bonds (by unfold Zq;omega),sums:=h.sums
  sorted:=h.sorted.filter _
  mov:=λp e=>h.mov p (sf.1 e).1
  known:=λp e=>h.known p (sf.1 e).1
  ids:=h.ids
  mlen:=by
   have:=oe (λq:QF=> !(q.Id==x.Id)) s.B.Moving;simp only[O3,BJ,UT];omega
  ilen:=by show s.Ids.length<=_;omega
  pos:=by simp only[O3,BJ,UT];omega
  made:=by simp only[O3,BJ,UT];omega
  whole:=by simp only[O3,BJ,UT,Zq];omega
  due:=by simp only[O3,BJ,UT];omega
  out:=Sz h.out k}
theorem wZ(h:H3 r n t s)(i:0<=x.Bond/\x.Bond<=15)(o:0<=x.Amount/\x.Amount<=17179869184)(g:VT r)(e:0<=t):H3 r (n+1) t (RM r s x):=by
 have c:=Dj i;have q:=h.bonds _ c;have hs:=Fa (f:=s.B.Bonds) (v:=x.Amount) c;have j:=h.pos;have u:=h.made;have w:=h.whole;have k:=h.due;have y:=h.mlen;have z:=h.ilen;have l:0<=s.Sums x.Bond.toNat*r.Share / 3650000:=oB (n2 (h.sums _ c).1 g.share.1) eB;have A:=FQ (a:=0) (b:=Zq s x - x.Amount);have C:=FQ (a:=0) (b:=x.Amount - Zq s x);have D:=Po (a:=imax 0<|Zq s x - x.Amount) (b:=s.Sums x.Bond.toNat*r.Share / 3650000);have m:=g.sl (a:=imax 0 (Zq s x - x.Amount) - Je (imax 0<|Zq s x - x.Amount) (s.Sums x.Bond.toNat*r.Share / 3650000)) (d:=x.Day) eB;have E:Zq s x=s.B.Bonds x.Bond.toNat:=rfl
 exact{
  bonds:=GJ h.bonds eB
  sums:=GJ h.sums ⟨Of _,n2 e eB⟩
  sorted:=h.sorted
  mov:=h.mov
  known:=h.known
  ids:=h.ids
  mlen:=by show s.B.Moving.length<=_;omega
  ilen:=by show s.Ids.length<=_;omega
  pos:=by simp only[RM,BJ,UT];omega
  made:=by simp only[RM,BJ,UT];omega
  whole:=by simp only[RM,BJ,UT];omega
  due:=by simp only[RM,BJ,UT];omega
  out:=Sz h.out c}
theorem zi(h:H3 r n t s)(g:0<=x.Bond/\x.Bond<=15)(l:1<=x.Amount/\x.Amount<=17179869184)(i:VT r)(b:GQ r s x= .inl s'):H3 r (n+1) t s' :=by
 unfold GQ at b
 split at b
 ·cases b
 ·rename_i c;simp only[x2] at b
  subst b;have e:=Dj g;have m:=h.bonds _ e;have hs:=Fa (f:=s.B.Bonds) (v:=Zq s x - x.Amount) e;unfold Zq at c hs
  have o:=h.pos;have q:=h.made;have u:=h.whole;have j:=h.due;have w:=h.mlen;have y:=h.ilen;have k:=i.sl (a:=x.Amount) (d:=x.Day) eB
  exact{
   bonds:=GJ h.bonds (by unfold Zq;omega),sums:=h.sums,sorted:=h.sorted,mov:=h.mov,known:=h.known,ids:=h.ids
   mlen:=by show s.B.Moving.length<=_;omega
   ilen:=by show s.Ids.length<=_;omega
   pos:=by simp only[M8,UT];omega
   made:=by simp only[M8,UT];omega
   whole:=by simp only[M8,UT,Zq];omega
   due:=by simp only[M8,UT];omega
   out:=Sz h.out e}
theorem yU(h:H3 r n t s)(g:0<=x.Bond/\x.Bond<=15)(i:1<=x.Amount/\x.Amount<=17179869184)(a:AG s x= .inl s'):H3 r (n+1) t s' :=by
 unfold AG at a
 split at a
 ·cases a
 ·rename_i b;simp only[x2] at a
  subst a;have c:=Dj g;have j:=h.bonds _ c;have hs:=Fa (f:=s.B.Bonds) (v:=Zq s x - x.Amount) c;unfold Zq at b hs
  have k:=h.pos;have l:=h.made;have m:=h.whole;have e:=h.due;have o:=h.mlen;have q:=h.ilen
  exact{
   bonds:=GJ h.bonds (by unfold Zq;omega),sums:=h.sums,sorted:=h.sorted,mov:=h.mov,known:=h.known,ids:=h.ids
   mlen:=by show s.B.Moving.length<=_;omega
   ilen:=by show s.Ids.length<=_;omega
   pos:=by simp only[UT];omega
   made:=by simp only[UT];omega
   whole:=by simp only[UT,Zq];omega
   due:=e
   out:=Sz h.out c}
theorem gZ(h:H3 r n t s)(c:1<=x.Amount)(a:qG s x= .inl s'):H3 r (n+1) t s' :=by
 unfold qG at a
 split at a
 ·cases a
 ·rename_i b;simp only[x2] at a
  subst a;have e:=h.pos;have f:=h.made;have g:=h.mlen;have i:=h.ilen
  exact{
   bonds:=h.bonds,sums:=h.sums,sorted:=h.sorted,mov:=h.mov,known:=h.known,ids:=h.ids
   mlen:=by show s.B.Moving.length<=_;omega
   ilen:=by show s.Ids.length<=_;omega
   pos:=by simp only[];omega
   made:=by simp only[];omega
   whole:=h.whole
   due:=h.due
   out:=h.out}
theorem um(g:VT r)(h:H3 r n t s)(b:0<=t)(he:Xa x=true)(c:x.Day=t)(a:DJ r s x= .inl s'):H3 r (n+1) t s' :=by
 unfold DJ at a
 rcases qi he with k | k | k | k | k | k | k<;>simp only[k,mX,Int.reduceEq,B2,Bm] at a
 ·have e:=GW he<|.inl k;exact yY h e.1 e.2 a
 ·have e:=O9 he k;exact wj h e.1 e.2.1 e.2.2.1 e.2.2.2 g c b a
 ·have e:=MV he k;unfold Fi at a
  split at a
  ·cases a
  ·rename_i p i;split at a
   ·cases a
   ·split at a
    ·cases a
    ·rename_i f;simp only[x2] at a;subst a;exact gx h e.1 e.2.2 g i f
 ·have e:=GW he<|.inr<|.inl k;exact zi h e.1 e.2 g a
 ·have e:=GW he<|.inr<|.inr k;exact yU h e.1 e.2 a
 ·have e:=jN he k;simp only[x2] at a;subst a;exact wZ h e.1 e.2 g b
 ·have e:=uc he k;exact gZ h e.1 a
theorem Te{c c' :D5}(e:VT r)(h:H3 r n c.day c.acc)(_h0:0<=c.day)(hs:VQ r c x= .inl c'):H3 r (n+1) c'.day c'.acc/\c.day<=c'.day/\c'.day=x.Day/\Xa x=true:=by
 unfold VQ at hs
 split at hs
 ·cases hs
 ·rename_i he;split at hs
  ·cases hs
  ·rename_i f;split at hs
   ·rename_i a g;simp only[x2] at hs
    subst hs;have b:Xa x=true:=by simpa using he
    exact⟨um e (Od e h<|show c.day<=x.Day by omega) (by have:=(ud b).1;exact this) b rfl g,by show c.day<=x.Day;omega,rfl,b⟩
   ·cases hs
end
section
open Go.Dec
variable{r:G8}{n:Nat}{t d:Int}{s s' :Acc}{x:Ev}{p:QF}
theorem Ta{i:Nat}(h:i<=4294967296):Q8 ((i:Int)+1)=((i+1:Nat):Int):=by rw[Qo eB eB];rfl
theorem ui(b:VT r){a:Int}(c:0<=a)(e:a<=17179869184)(day:Int):Q8 (Int.tdiv (Q8<|a*DY r.Rates day) 1000)=WY r a day:=by
 have h:=b.po (d:=day) c e;rw[Qo (n:=a*DY r.Rates day) eB eB,mf h.1];unfold WY;rw[Qo eB eB]
end
section
open Go.Dec
variable{r:G8}{n:Nat}{t d:Int}{s s' :Acc}{x:Ev}{p:QF}
theorem Nb{f g:QF->Int}:∀{l:Q0 QF},(∀p∈l,f p=g p)->YW f l=YW g l
 | [],_=>rfl
 | p::l,h=>by simp only[YW];rw[h p<|sp ..,Nb (l:=l) λq a=>h q<|L3 _ a]
def Ov(r:G8)(next:Int)(s:Acc)(pre post:Q0 QF):Acc:={s with B:={s.B with Moving:=pre++post.filter (λp=> !(ZQ r p==next)),Used:=s.B.Used+YW QF.Amount (post.filter λp=>ZQ r p==next),Due:=s.B.Due+YW (λp=>WY r p.Amount next) (post.filter λp=>ZQ r p==next)}}
end
section
open Go.Dec
variable{r:G8}{n:Nat}{t d:Int}{s s' :Acc}{x:Ev}{p:QF}
def yB(s:Acc):Acc ⊕ Int->Acc×Int
 | .inl a=>(a,0)
 | .inr e=>(s,e)
theorem SK(h:0<=x.Bond/\x.Bond<=15):Yu 16 x.Bond=some x.Bond.toNat:=by unfold Yu;rw[BY eB]
theorem HK(h:H3 r n t s)(a:0<=x.Bond/\x.Bond<=15):0<=Zq s x/\Zq s x<=17179869184:=h.bonds _<|Dj a
end
section
open Go.Dec
variable{day:Int}
variable{r:G8}{n:Nat}{t d:Int}{s s' :Acc}{x:Ev}{p:QF}
theorem FU(n a b:Int):ZS n a b=W6 n a b:=by unfold ZS W6;exact rfl
theorem Ps(n:Int):Kk n=W6 n 0 65536:=by unfold Kk;exact FU ..
theorem xR(n:Int):Zm n=Ch n:=by unfold Zm Ch;exact FU ..
theorem Ao(r:G8)(g:r.Rates.length<=1000000):∀(k i:Nat) (last:Int),i+k=r.Rates.length->
  ZU (YE r) (last,(i:Int))=some (if FD last (r.Rates.drop i) then .inl () else .inr false)
 | 0,i,last,hi=>by
  have:YE r (last,(i:Int))=some (.done<|.inl ()):=by unfold YE;rw[B1 eE]
  rw[ZJ,u0 eB,this];rfl
 | k+1,i,last,hi=>by
  have a:i < r.Rates.length:=by omega
  have h:r.Rates[i]? =some r.Rates[i]:=by simp[a]
  have step:YE r (last,(i:Int))=some (if W6 r.Rates[i].From 0 65536&&decide (last < r.Rates[i].From)&&W6 r.Rates[i].Rate 0 1048576 then .next (r.Rates[i].From,((i+1:Nat):Int)) else .done (.inr false)):=by
   unfold YE;rw[BY eE];simp only[Z2,h,K2,FU,Ps,Ta (by omega:i<=4294967296)];by_cases b:W6 r.Rates[i].From 0 65536=true
   case neg=>simp only[wt] at b;simp[b]
   case pos=>
    by_cases c:W6 r.Rates[i].Rate 0 1048576=true
    case neg=>simp only[wt] at c;simp[b,c]
    case pos=>
     by_cases f:r.Rates[i].From<=last
     ·have:decide (last < r.Rates[i].From)=false:=by simp;omega
      simp[b,c,f,this]
     ·have:decide (last < r.Rates[i].From)=true:=by simp;omega
      simp[b,c,f,this]
  rw[ZJ,u2 a,step];by_cases e:(W6 r.Rates[i].From 0 65536&&decide (last < r.Rates[i].From)&&W6 r.Rates[i].Rate 0 1048576)=true
  case neg=>simp only[wt] at e;simp[FD,e]
  case pos=>
   simp only[FD,e,B2,mb];exact Ao r g k (i+1) r.Rates[i].From eB
theorem An(g:r.Rates.length<=1000000):UE r=some (Xv r):=by
 unfold UE Xv;have a:=Ao r g r.Rates.length 0 (-1) eB;simp only[hJ,oG] at a
 simp only[QS,FU,Ps];refine ZT a ?_;by_cases f:FD (-1) r.Rates=true
 case neg=>simp only[wt] at f;simp[f]
 case pos=>
  simp only[f,B2,ld];by_cases c:W6 (r.Rates.length:Int) 1 64=true
  case neg=>simp only[wt] at c;simp[c]
  case pos=>
   have b:=J3.1 c
   obtain⟨y,l,e⟩:∃y l,r.Rates=y::l:=by
    cases h:r.Rates with
    | nil=>rw[h] at b;simp at b
    | cons y l=>exact⟨y,l,rfl⟩
   have i:ZX r.Rates 0=some y:=by
    have:=Z2 r.Rates 0;rw[e] at this ⊢;exact this
   have j:O8 r.Rates=(y.From==0):=by rw[e];rfl
   simp only[c,B2,i,K2,j,mb]
theorem B4(x:Ev):Wh x=some (Xa x):=by
 unfold Wh Xa;simp only[FU,Ps,xR,QS]
 have j:(W6 x.Amount 1 17179869184||x.Amount==0)=W6 x.Amount 0 17179869184:=by
  rw[lb];simp[W6];omega
 rw[j];by_cases h:W6 x.Day 0 65536=true
 case neg=>simp only[wt] at h;simp[h]
 case pos=>
  simp only[h,RK,W2,Bm,mb];by_cases a:(x.Kind==0)=true
  ·simp[a]
  ·simp only[wt] at a
   by_cases b:(x.Kind==3)=true
   ·simp[a,b]
   ·simp only[wt] at b
    by_cases i:(x.Kind==4)=true
    ·simp[a,b,i]
    ·simp only[wt] at i
     simp only[a,b,i,oZ,W2,Bm,K2];by_cases c:(x.Kind==1)=true
     ·rw[BY c,BY c]
     ·rw[B1 c,B1 c];by_cases e:(x.Kind==2)=true
      ·rw[BY e,BY e]
      ·rw[B1 e,B1 e];by_cases f:(x.Kind==5)=true
       ·rw[BY f,BY f]
       ·rw[B1 f,B1 f];by_cases g:(x.Kind==6)=true
        ·rw[BY g,BY g]
        ·rw[B1 g,B1 g]
theorem uU{m:Int}(b:0<=m)(c:m<=2000000):Q8 (jo .u64 (IntKind.u64.wrap<|Q8 m) 1)=m / 2:=by
 rw[Qo (n:=m) eB eB];have e:IntKind.u64.bits=64:=rfl
 have a:IntKind.u64.wrap m=m:=by
  simp only[IntKind.wrap,e];simp[IntKind.signed];omega
 rw[a]
 have hs:jo .u64 m 1=m / 2:=by
  unfold jo;have:(2:Int)^(min (Int.toNat 1) IntKind.u64.bits)=2:=by decide
  rw[this,Int.fdiv_eq_ediv_of_nonneg _ eB]
 rw[hs,Qo eB eB]
def We(l:Q0 Zc)(day:Int):Nat:=(l.takeWhile λx=>decide<|x.From<=day).length
theorem BG{day:Int}:∀{l:Q0 Zc},l.Pairwise (λx y=>x.From < y.From)->We l day<=l.length/\(∀i x,l[i]? =some x->(x.From<=day↔i < We l day))
 | [],_=>⟨S2 _,λi x h=>by simp at h⟩
 | y::l,h=>by
  have c:=qs.1 h;have e:=BG (day:=day) c.2;unfold We at e ⊢
  rw[ef];by_cases b:y.From<=day
  ·simp only[b,ta,B2,OF];refine⟨by omega,λi x a=> ?_⟩;cases i with
   | zero=>simp at a;subst a;simp[b]
   | succ i=>
    simp only[s9] at a
    have:=e.2 i x a;omega
  ·simp only[b,rW,W2,Bm,kp];refine⟨oO _,λi x a=> ?_⟩;cases i with
   | zero=>simp at a;subst a;omega
   | succ i=>
    simp only[s9] at a
    have:=c.1 x<|T2 a;omega
theorem EA:∀{l:Q0 Zc} (a:Int),l.Pairwise (λx y=>x.From < y.From)->l.foldl (λown x=>if x.From<=day then x.Rate else own) a=if We l day=0 then a else match l[We l day - 1]? with | some x=>x.Rate | none=>a
 | [],a,_=>rfl
 | y::l,a,h=>by
  have c:=qs.1 h;have i:=BG (day:=day) h;rw[oA,EA _ c.2];have j:=(BG (day:=day) c.2).1;by_cases b:y.From<=day
  ·have e:We (y::l) day=We l day+1:=by unfold We;rw[ef];simp[b]
   rw[e];simp only[b,B2,Nat.add_one_ne_zero,Bm,Nat.add_sub_cancel];by_cases f:We l day=0
   ·rw[BY f,f];rfl
   ·rw[B1 f];have:We l day=(We l day - 1)+1:=by omega
    conv=>rhs;rw[this,s9]
    have g:We l day - 1 < l.length:=by omega
    rw[C1 g]
  ·have e:We (y::l) day=0:=by unfold We;rw[ef];simp[b]
   have k:We l day=0:=by
    cases m:l with
    | nil=>rfl
    | cons z l' =>
     unfold We;rw[ef];have:=c.1 z (by rw[m];simp);have:¬z.From<=day:=by omega
     simp[this]
   rw[BY k,BY e,B1 b]
theorem I0(g:VT r):X2 (r.Rates.length:Int) (λx=>YS x r day)=some (We r.Rates day:Int):=by
 have a:=BG (day:=day) g.sorted;have h:=g.len
 have key:=qU (body:=U8 λx=>YS x r day) (λs:Int×Int=>0<=s.1/\s.1<=We r.Rates day/\(We r.Rates day:Int)<=s.2/\s.2<=r.Rates.length) (λs=>(s.2 - s.1).toNat) (λb=>b=(We r.Rates day:Int)) λs hs=>by
  obtain⟨i,j⟩:=s;obtain⟨v,w,z,A⟩:=hs;simp only at v w z A
  by_cases c:i < j
  ·left;have k:=uU (m:=i+j) eB eB;have B:i<=(i+j) / 2:=by omega
   have C:(i+j) / 2 < j:=by omega
   obtain⟨y,e,f⟩:=xK (l:=r.Rates) (i:=(i+j) / 2) eB eB;have o:YS ((i+j) / 2) r day=some (decide<|y.From > day):=by unfold YS;rw[e];rfl
   have q:=a.2 _ y f;by_cases u:y.From > day
   ·refine⟨(i,(i+j) / 2),?_,⟨by simp only;omega,by simp only;omega,?_,by simp only;omega⟩,by simp only;omega⟩
    ·unfold U8;rw[BY<|by simpa using c];simp only[k,QS,o,K2,u,ta,RK,W2,Bm]
    ·simp only;omega
   ·refine⟨((i+j) / 2+1,j),?_,⟨by simp only;omega,?_,by simp only;omega,by simp only;omega⟩,by simp only;omega⟩
    ·unfold U8;rw[BY<|by simpa using c];simp only[k,QS,o,K2,u,rW,k4,B2];rw[Qo (n:=(i+j) / 2+1) eB eB]
    ·simp only;omega
  ·right;refine⟨i,?_,by omega⟩;unfold U8;rw[B1<|by simpa using c]
 obtain⟨b,D,E⟩:=key r.Rates.length (0,(r.Rates.length:Int)) eF ⟨by simp,by simp,by simp;exact a.1,by simp⟩;unfold X2;rw[D,E];rfl
theorem Pw(c:VT r){a:Int}(j:0<=a)(k:a<=17179869184)(o:0<=day):WO r a day=some (WY r a day):=by
 have f:=BG (day:=day) c.sorted;have h:=c.len;obtain⟨y,l,e,q⟩:=c.first;have u:0 < We r.Rates day:=(f.2 0 y (by rw[e];rfl)).1 eB;have g:We r.Rates day - 1 < r.Rates.length:=by omega
 have i:r.Rates[We r.Rates day - 1]? =some r.Rates[We r.Rates day - 1]:=C1 g
 have b:DY r.Rates day=r.Rates[We r.Rates day - 1].Rate:=by
  unfold DY;rw[EA _ c.sorted,B1 eB,i]
 unfold WO;refine ZT (I0 c) ?_;have m:Q8 ((We r.Rates day:Int) - 1)=((We r.Rates day - 1:Nat):Int):=by rw[Qo eB eB];omega
 simp only[QS,m,Z2,i,K2,<-b];rw[ui c j k]
end
section
open Go.Dec
variable{l:Q0 QF}{i:Int}
variable{r:G8}{n:Nat}{t d:Int}{s s' :Acc}{x:Ev}{p:QF}
abbrev PM:=Q0<|Q0<|Int×QF
abbrev KM:=Q0<|Q0<|Int×Bool
def Fq(p:QF):Int×QF:=(p.Id,p)
def K5(r:G8)(t:Int)(s:Acc):QD:=⟨r,{s.B with Moving:=[]},some 0,some 0,s.Sums,t⟩
structure PR(r:G8)(t:Int)(s:Acc)(A1:List QD)(A2:PM)(A3:KM):Prop where
 o:A1=[K5 r t s]
 m:∃m,A2=[m]/\m.Perm (s.B.Moving.map Fq)
 k:∃k rest,A3=k::rest/\(k.map Prod.fst).Nodup/\∀i,(Qc k i).getD false=s.Ids.contains i
theorem Fp(h:l.Pairwise (λp q=>p.Id < q.Id)):((l.map Fq).map Prod.fst).Nodup:=by
 have:(l.map Fq).map Prod.fst=l.map QF.Id:=by rw[lJ];rfl
 rw[this];rw[List.Nodup,iE];exact h.imp λh=>iw h
theorem jI:∀{l:Q0 QF},Qc (l.map Fq) i=l.find? (λq=>q.Id==i)
 | []=>rfl
 | q::l=>by
  simp only[E4,Fq,Qc,mx];by_cases h:i=q.Id
  ·subst h;simp
  ·have a:(i==q.Id)=false:=by simpa using h
   have b:(q.Id==i)=false:=by simpa using Ne.symm h
   simp only[a,b,W2,Bm];exact jI
theorem qc{m:Q0 (Int×QF)}(hs:l.Pairwise (λp q=>p.Id < q.Id))(h:m.Perm (l.map Fq)):Qc m i=l.find? (λq=>q.Id==i):=by
 rw[WC h<|Fp hs,jI]
theorem kH:(l.map Fq).filter (λx=> !(i==x.1))=(l.filter λq=> !(q.Id==i)).map Fq:=by
 rw[iV];congr 1;refine bY λq _=> ?_;show(!(i==q.Id))= !(q.Id==i);rw[Bool.beq_comm]
theorem uo{m:Q0 (Int×QF)}(hs:l.Pairwise (λp q=>p.Id < q.Id))(h:m.Perm (l.map Fq)):(YA m i).Perm ((l.filter λq=> !(q.Id==i)).map Fq):=by
 have a:=SF (k:=i) h<|Fp hs
 rwa[XD<|Fp hs,kH] at a
abbrev dT:=Out Zt<|Q0 QD×PM×KM
def Xz(r:G8)(t:Int)(out:Acc ⊕ Int)(q:K1 dT):Prop:=match out with
 | .inl s' =>∃A1 A2 A3,q=some (.ok (A1,A2,A3))/\PR r t s' A1 A2 A3
 | .inr e=>q=some (.pan ⟨e⟩)
theorem SE(e:Int):JM true e=some (.ok ()):=rfl
theorem Pd(e:Int):JM false e=some (.pan ⟨e⟩):=rfl
theorem WI{ε α β:Type}{e:K1 (Out ε α)}{gp:ε->K1 β}{g:α->K1 β}{x:α}(h:e=some (.ok x)):Q4 e gp g=g x:=by rw[h];rfl
theorem U7{ε α β:Type}{e:K1 (Out ε α)}{gp:ε->K1 β}{g:α->K1 β}{x:ε}(h:e=some (.pan x)):Q4 e gp g=gp x:=by rw[h];rfl
variable{A1:Q0 QD}{A2:PM}{A3:KM}
theorem Lz(h:H3 r n t s)(f:PR r t s A1 A2 A3)(c:0<=x.Bond/\x.Bond<=15)(g:0<=x.Amount/\x.Amount<=17179869184):Yg A1 (some 0) x=if Zq s x+x.Amount > 17179869184 then some (.pan ⟨12⟩) else some (.ok ()):=by
 have j:=HK h c;have e:(K5 r t s).book.Bonds x.Bond.toNat=Zq s x:=rfl;unfold Yg;rw[f.o];simp only[K2,SK c,C2];rw[e,Qo (n:=Zq s x+x.Amount) eB eB];by_cases a:Zq s x+x.Amount > 17179869184
 ·have b:decide (Zq s x+x.Amount<=17179869184)=false:=by simp;omega
  rw[b,BY a];rfl
 ·have b:decide (Zq s x+x.Amount<=17179869184)=true:=by simp;omega
  rw[b,B1 a];rfl
theorem FV(h:H3 r n t s)(f:PR r t s A1 A2 A3)(c:0<=x.Bond/\x.Bond<=15)(g:1<=x.Amount/\x.Amount<=17179869184):Jr A1 (some 0) x=if Zq s x < x.Amount then some (.pan ⟨10⟩) else some (.ok [K5 r t<|UT s x<|Zq s x - x.Amount]):=by
 have j:=HK h c;have e:(K5 r t s).book.Bonds x.Bond.toNat=Zq s x:=rfl;unfold Jr;rw[f.o];simp only[K2,SK c,C2];rw[e];by_cases a:Zq s x < x.Amount
 ·have b:decide (Zq s x≥x.Amount)=false:=by simp;omega
  rw[b,BY a];rfl
 ·have b:decide (Zq s x≥x.Amount)=true:=by simp;omega
  rw[b,B1 a,Qo (n:=Zq s x - x.Amount) eB eB];rfl
theorem qq(h:H3 r n t s)(q:n<=4096)(b:PR r t s A1 A2 A3)(he:Xa x=true)(k:x.Kind=0):Xz r t (Df s x) (J0 A1 A2 A3 (some 0) x):=by
 obtain⟨f,u⟩:=GW he<|.inl k;have v:=HK h f;have w:=h.lim;have g:=h.pos;have c:=Lz h b f eB;unfold J0 Df Xz;by_cases a:Zq s x+x.Amount > 17179869184
 ·rw[BY a] at c ⊢
  rw[U7 c]
 ·rw[B1 a] at c ⊢
  rw[WI c];refine⟨[K5 r t {UT s x (Zq s x+x.Amount) with B:={(UT s x<|Zq s x+x.Amount).B with Made:=s.B.Made+x.Amount}}],A2,A3,?_,rfl,b.m,b.k⟩;rw[b.o];have e:(K5 r t s).book.Bonds x.Bond.toNat=Zq s x:=rfl;have j:(K5 r t s).book.Made=s.B.Made:=rfl;simp only[K2,SK f,C2,QS,e,j];rw[Qo (n:=Zq s x+x.Amount) eB eB,Qo (n:=s.B.Made+x.Amount) eB eB];rfl
theorem yK{k:Q0 (Int×Bool)}{ids:Q0 Int}{id:Int}(b:(k.map Prod.fst).Nodup)(h:∀i,(Qc k i).getD false=ids.contains i)(i:Int):(Qc (Q5 k id true) i).getD false=(ids++[id]).contains i:=by
 have c:=Jv (l:=k) (k:=id) (v:=true) b;have a:(((id,true)::k.filter (λx=> !(id==x.1))).map Prod.fst).Nodup:=(c.map Prod.fst).nodup_iff.1<|JW b;rw[WC c a];simp only[Qc];by_cases e:i=id
 ·subst e;simp
 ·have m:(i==id)=false:=by simpa using e
  rw[m];simp only[W2,Bm]
  have o:Qc (k.filter λx=> !(id==x.1)) i=Qc k i:=by
   clear b h c a
   induction k with
   | nil=>rfl
   | cons y k j=>
    rw[nt];by_cases f:id=y.1
    ·have g:(id==y.1)=true:=by simpa using f
     have q:(i==y.1)=false:=by simp;intro h;exact e<|h.trans f.symm
     simp only[g,RK,W2,Bm,Qc,q,j]
    ·have g:(id==y.1)=false:=by simpa using f
     simp only[g,k4,B2,Qc,j]
  rw[o,h];simp[e]
theorem jr(h:H3 r n t s)(y:PR r t s A1 A2 A3)(he:Xa x=true)(k:x.Kind=1):Xz r t (RR s x) (Yf A1 A2 A3 (some 0) x):=by
 obtain⟨E,L,M,N⟩:=O9 he k;have W:=HK h E;have b:=FV h y E N;obtain⟨m,F,f⟩:=y.m;obtain⟨G,rest,H,j,u⟩:=y.k;unfold Yf RR Xz;by_cases a:(x.Bond==x.To)=true
 ·have A:(x.Bond != x.To)=false:=by simp[bne,a]
  rw[A,BY a,U7<|Pd 11]
 ·have A:(x.Bond != x.To)=true:=by simp only[bne];simp only[wt] at a;rw[a];rfl
  rw[A,B1 a,WI<|SE 11];have P:(A1[0]?)=some (K5 r t s):=by rw[y.o];rfl
  have I:(A3[0]?)=some G:=by rw[H];rfl
  have Q:(K5 r t s).known=some 0:=rfl;simp only[K2,P,Q,I,u];by_cases z:s.Ids.contains x.Id=true
  ·rw[BY z,z];rw[RK,U7<|Pd 5]
  ·have g:s.Ids.contains x.Id=false:=by simpa using z
   rw[B1 z,g,k4,WI<|SE 5];by_cases c:Zq s x < x.Amount
   ·rw[BY c] at b ⊢
    rw[U7 b]
   ·rw[B1 c] at b ⊢
    rw[WI b];have R:(A2[0]?)=some m:=by rw[F];rfl
    have S:(K5 r t<|UT s x<|Zq s x - x.Amount).moving=some 0:=rfl;have C:(K5 r t<|UT s x<|Zq s x - x.Amount).known=some 0:=rfl;refine⟨_,_,_,by simp only[C2,K2,C,I,S,R,QS];rfl,rfl,⟨Q5 m x.Id<|zq x,by rw[F];rfl,?_⟩,⟨Q5 G x.Id true,rest,by rw[H];rfl,JW j,yK j u⟩⟩
    have w:∀q∈s.B.Moving,q.Id≠x.Id:=λq D e=>by
     have:=h.known q D;rw[e] at this
     rw[<-wt,List.contains_iff_mem] at g;exact g this
    have K:=Jv (l:=m) (k:=x.Id) (v:=zq x)<|(f.map Prod.fst).nodup_iff.2<|Fp h.sorted
    have T:m.filter (λe=> !(x.Id==e.1))=m:=mw.2 λe he=>by
     obtain⟨q,D,rfl⟩:=rm.1<|f.mem_iff.1 he;have:=w q D;simp[Fq];exact iu this
    rw[T] at K
    refine K.trans ?_;refine(f.cons _).trans ?_;have V:=(SJ (q:=zq x) (l:=s.B.Moving)).symm.map Fq;exact V
theorem Ix(c:VT r)(h:H3 r n t s)(q:n<=4096)(g:0<=t){u:Acc}(v:u.B.Bonds x.Bond.toNat=0∨u.B.Bonds x.Bond.toNat=Zq s x)(e:0<=x.Bond/\x.Bond<=15){was is allowed:Int}(f:0<=was/\was<=17179869184)(j:0<=is/\is<=17179869184)(k:0<=allowed/\allowed<=4611686018427387904)
  (w:u.B.Found=s.B.Found) (y:u.B.Lost=s.B.Lost) (z:u.B.Charged=s.B.Charged) (A:u.B.Due=s.B.Due):VL [K5 r t u] (some 0) x.Bond was is allowed=some [K5 r t<|BJ r t (imax 0<|was - is) allowed {UT u x (u.B.Bonds x.Bond.toNat+is) with B:={(UT u x<|u.B.Bonds x.Bond.toNat+is).B with Found:=u.B.Found+imax 0 (is - was)}}]:=by
 have C:=HK h e;have D:=h.lim;have m:=h.pos;have o:=h.due;have E:=FQ (a:=0) (b:=was - is);have F:=FQ (a:=0) (b:=is - was);have G:=Po (a:=imax 0<|was - is) (b:=allowed);have H:=c.sl (a:=imax 0 (was - is) - Je (imax 0<|was - is) allowed) (d:=t) eB;unfold VL;simp only[K2,SK e,C2,QS];rw[Qo (n:=is - was) eB eB,Qo (n:=was - is) eB eB,Qo (n:=imax 0 (was - is) - Je (imax 0<|was - is) allowed) eB eB];refine ZT (Pw c eB eB g) ?_;simp only[K5,mZ];rw[Qo (n:=u.B.Bonds x.Bond.toNat+is) eB eB,Qo (n:=u.B.Found+imax 0 (is - was)) eB eB,Qo (n:=u.B.Lost+Je (imax 0<|was - is) allowed) eB eB,Qo (n:=u.B.Charged+(imax 0 (was - is) - Je (imax 0<|was - is) allowed)) eB eB,Qo (n:=u.B.Due+WY r (imax 0 (was - is) - Je (imax 0<|was - is) allowed) t) eB eB];rfl
theorem OW(F:VT r)(h:H3 r n t s)(L:n<=4096)(M:0<=t)(f:PR r t s A1 A2 A3)(he:Xa x=true)(k:x.Kind=2)(g:x.Day=t):Xz r t (Fi r s x) (Jh A1 A2 A3 (some 0) x):=by
 obtain⟨z,N,G⟩:=MV he k;have T:=HK h z;have a:=Lz h f z G;obtain⟨m,H,j⟩:=f.m;have P:(A1[0]?)=some (K5 r t s):=by rw[f.o];rfl
 have Q:(A2[0]?)=some m:=by rw[H];rfl
 have R:(K5 r t s).moving=some 0:=rfl;unfold Jh Fi Xz;simp only[K2,P,R,Q,QS,qc h.sorted j];cases S:s.B.Moving.find? (λq=>q.Id==x.Id) with
 | none=>rfl
 | some p=>
  obtain⟨v,I,_⟩:=qJ h.sorted S;have A:=h.mov p v;have C:=A.amount;simp only[ek,lv];rw[WI<|SE 4];by_cases b:(p.To != x.Bond)=true
  ·have D:(p.To==x.Bond)=false:=by simpa[bne] using b
   rw[D,U7<|Pd 11,BY b]
  ·have D:(p.To==x.Bond)=true:=by simpa[bne] using b
   rw[D,WI<|SE 11,B1 b];by_cases c:Zq s x+x.Amount > 17179869184
   ·rw[BY c] at a ⊢
    rw[U7 a]
   ·rw[B1 c] at a ⊢
    rw[WI a];have e:=F.loss;have w:0<=p.Amount*r.Loss:=n2 eB e.1;have K:p.Amount*r.Loss<=17179869184*10000:=ep C.2 e.2 e.1 eB;have E:(K5 r t s).rules.Loss=r.Loss:=rfl;have y:=Ix (x:=x) F h L M (u:=s) (.inr rfl) z (was:=p.Amount) (is:=x.Amount) (allowed:=p.Amount*r.Loss / 10000) eB G eB rfl rfl rfl rfl;simp only[E];rw[Qo (n:=p.Amount*r.Loss) eB eB,mf w,Qo (n:=p.Amount*r.Loss / 10000) eB eB];refine⟨_,_,_,ZT (by rw[f.o];exact y) rfl,?_,⟨YA m x.Id,by rw[H];rfl,uo h.sorted j⟩,f.k⟩;unfold O3;rw[g];rfl
theorem Ii(b:VT r){u:Acc}{a day:Int}(c:0<=a/\a<=17179869184)(e:0<=day)(g:0<=u.B.Used/\u.B.Used<=4611686018427387904)(h:0<=u.B.Due/\u.B.Due<=4611686018427387904):VK [K5 r t u] (some 0) a day=some [K5 r t<|M8 r a day u]:=by
 have f:=b.sl (a:=a) (d:=day) eB;unfold VK;simp only[K2,C2,QS];refine ZT (Pw b c.1 c.2 e) ?_;simp only[K5,mZ];rw[Qo (n:=u.B.Used+a) eB eB,Qo (n:=u.B.Due+WY r a day) eB eB];rfl
theorem OV(e:VT r)(h:H3 r n t s)(q:n<=4096)(c:PR r t s A1 A2 A3)(he:Xa x=true)(k:x.Kind=3):Xz r t (GQ r s x) (Jg A1 A2 A3 (some 0) x):=by
 obtain⟨f,g⟩:=GW he<|.inr<|.inl k;have a:=FV h c f g;have u:=h.lim;have j:=h.pos;have o:=h.due;unfold Jg GQ Xz;by_cases b:Zq s x < x.Amount
 ·rw[BY b] at a ⊢
  rw[U7 a]
 ·rw[B1 b] at a ⊢
  rw[WI a];exact⟨_,_,_,ZT (Ii e eB (ud he).1 ⟨by show 0<=s.B.Used;omega,by show s.B.Used<=_;omega⟩ ⟨by show 0<=s.B.Due;omega,by show s.B.Due<=_;omega⟩) rfl,rfl,c.m,c.k⟩
theorem qh(h:H3 r n t s)(o:n<=4096)(c:PR r t s A1 A2 A3)(he:Xa x=true)(k:x.Kind=4):Xz r t (AG s x) (Jz A1 A2 A3 (some 0) x):=by
 obtain⟨f,g⟩:=GW he<|.inr<|.inr k;have a:=FV h c f g;have q:=h.lim;have j:=h.pos;unfold Jz AG Xz;by_cases b:Zq s x < x.Amount
 ·rw[BY b] at a ⊢
  rw[U7 a]
 ·rw[B1 b] at a ⊢
  rw[WI a];have e:(K5 r t<|UT s x<|Zq s x - x.Amount).book.Exported=s.B.Exported:=rfl;refine⟨[K5 r t {UT s x (Zq s x - x.Amount) with B:={(UT s x<|Zq s x - x.Amount).B with Exported:=s.B.Exported+x.Amount}}],A2,A3,?_,rfl,c.m,c.k⟩;simp only[K2,C2,QS,e];rw[Qo (n:=s.B.Exported+x.Amount) eB eB];rfl
theorem ji(v:VT r)(h:H3 r n t s)(y:n<=4096)(z:0<=t)(H:t<=65536)(j:PR r t s A1 A2 A3)(he:Xa x=true)(k:x.Kind=5)(b:x.Day=t):Xz r t (.inl<|RM r s x) (Ye A1 A2 A3 (some 0) x):=by
 obtain⟨g,A⟩:=jN he k;have C:=HK h g;have q:=h.sums _<|Dj g;have a:=v.share;have c:0<=s.Sums x.Bond.toNat*r.Share:=n2 q.1 a.1;have w:s.Sums x.Bond.toNat*r.Share<=65536*17179869184*1000:=ep eB a.2 a.1 eB;have D:(K5 r t s).sums x.Bond.toNat=s.Sums x.Bond.toNat:=rfl;have E:(K5 r t s).rules.Share=r.Share:=rfl;have F:(K5 r t s).book.Bonds x.Bond.toNat=Zq s x:=rfl;have f:=Ix (x:=x) v h y z (u:={UT s x 0 with Sums:=ZB s.Sums x.Bond.toNat 0}) (.inl VJ) g (was:=Zq s x) (is:=x.Amount) (allowed:=s.Sums x.Bond.toNat*r.Share / 3650000) C A eB rfl rfl rfl rfl;unfold Ye Xz;rw[j.o];simp only[K2,SK g,C2,QS,D,E,F,mZ];rw[Qo (n:=s.Sums x.Bond.toNat*r.Share) eB eB,mf c,Qo (n:=s.Sums x.Bond.toNat*r.Share / 3650000) eB eB];refine⟨_,_,_,ZT f rfl,?_,j.m,j.k⟩
 have G:ZB (ZB s.B.Bonds x.Bond.toNat 0) x.Bond.toNat (ZB s.B.Bonds x.Bond.toNat 0 x.Bond.toNat+x.Amount)=ZB s.B.Bonds x.Bond.toNat x.Amount:=by
  funext i;by_cases e:i=x.Bond.toNat
  ·subst e;rw[VJ,VJ,VJ];omega
  ·rw[UR e,UR e,UR e]
 unfold RM;rw[b];simp only[UT,G]
theorem vr(h:H3 r n t s)(q:n<=4096)(b:PR r t s A1 A2 A3)(he:Xa x=true)(k:x.Kind=6):Xz r t (qG s x) (VM A1 A2 A3 (some 0) x):=by
 have u:=uc he k;have v:=h.lim;have e:=h.pos;have f:=h.due;have g:(K5 r t s).book.Due=s.B.Due:=rfl;have j:(K5 r t s).book.Paid=s.B.Paid:=rfl;unfold VM qG Xz;rw[b.o];simp only[K2,C2,QS,g,j];rw[Qo (n:=s.B.Due - s.B.Paid) eB eB];by_cases a:x.Amount > s.B.Due - s.B.Paid
 ·have c:decide (x.Amount<=s.B.Due - s.B.Paid)=false:=by simp;omega
  rw[c,BY a,U7<|Pd 11]
 ·have c:decide (x.Amount<=s.B.Due - s.B.Paid)=true:=by simp;omega
  rw[c,B1 a,WI<|SE 11,Qo (n:=s.B.Paid+x.Amount) eB eB];exact⟨_,_,_,rfl,rfl,b.m,b.k⟩
end
section
open Go.Dec
variable{l:Q0 (Int×QF)}
variable{r:G8}{n:Nat}{t d day:Int}{s u:Acc}{x:Ev}{p:QF}{A1:Q0 QD}{A2:PM}{A3:KM}
def Gf(r:G8)(d:Int)(s:Acc):Acc:={s with B:=(Uw r 0 d s).B}
structure fe(r:G8)(u:Acc):Prop where
 sorted:u.B.Moving.Pairwise (λp q=>p.Id < q.Id)
 mov:∀p∈u.B.Moving,(1<=p.Amount/\p.Amount<=17179869184)/\0<=p.Sent/\p.Sent<=65536
 used:0<=u.B.Used/\u.B.Used+YW QF.Amount u.B.Moving<=4611686018427387904
 due:0<=u.B.Due/\u.B.Due+1049*YW QF.Amount u.B.Moving<=4611686018427387904
theorem H3.mU(h:H3 r n t s)(b:n<=4096)(c:t<=65536):fe r s where
 sorted:=h.sorted
 mov:=λp a=>⟨(h.mov p a).amount,(h.mov p a).sent.1,by have:=(h.mov p a).sent.2;omega⟩
 used:=by have:=h.lim;have:=h.pos;omega
 due:=by have:=h.lim;have:=h.pos;have:=h.due;omega
theorem uM(a:VT r)(h:0<=p.Sent/\p.Sent<=65536):Q8 (Q8 (p.Sent+r.Transit)+1)=ZQ r p:=by
 have:=a.transit;rw[Qo (n:=p.Sent+r.Transit) eB eB,Qo eB eB];rfl
theorem Pl(a:VT r)(h:0<=p.Sent/\p.Sent<=65536):Yi [K5 r t u] (some 0) p=some (ZQ r p):=by
 unfold Yi;simp only[K2,C2,K5];rw[uM a h]
def Xu(r:G8)(day:Int)(D:Q0 (Int×Bool))(l:Q0 (Int×QF)):Q0 (Int×Bool):=l.foldl (λD e=>if ZQ r e.2<=day then Q5 D (ZQ r e.2) true else D) D
theorem mem_set{D:Q0 (Int×Bool)}{k:Int}(a:(D.map Prod.fst).Nodup)(b:∀y∈D,y.2=true)(y:Int×Bool):y∈Q5 D k true↔y=(k,true)∨y∈D:=by
 rw[(Jv a).mem_iff,TO,sf];constructor
 ·rintro(h | ⟨h,_⟩)
  ·exact .inl h
  ·exact .inr h
 ·rintro(h | h)
  ·exact .inl h
  ·by_cases e:k=y.1
   ·left;have:=b y h;rw[e,<-this]
   ·exact .inr ⟨h,by simpa using e⟩
theorem GH:∀{l:Q0 (Int×QF)} {D:Q0 (Int×Bool)},(D.map Prod.fst).Nodup->(∀y∈D,y.2=true)->
  ((Xu r day D l).map Prod.fst).Nodup/\(Xu r day D l).length<=D.length+l.length/\∀y,y∈Xu r day D l↔y∈D∨∃e∈l,ZQ r e.2<=day/\y=(ZQ r e.2,true)
 | [],D,a,b=>⟨a,by simp[Xu],λy=>by simp[Xu]⟩
 | e::l,D,a,b=>by
  unfold Xu;rw[oA];by_cases c:ZQ r e.2<=day
  ·rw[BY c]
   have g:∀y∈Q5 D (ZQ r e.2) true,y.2=true:=λy i=>by
    rcases(mem_set a b y).1 i with rfl | i
    ·rfl
    ·exact b y i
   have o:(Q5 D (ZQ r e.2) true).length<=D.length+1:=by
    have:=(Jv (k:=ZQ r e.2) (v:=true) a).length_eq;have f:=oe (λx:Int×Bool=> !(ZQ r e.2==x.1)) D;simp only[OF] at this;omega
   obtain⟨j,f,m⟩:=GH (l:=l) (JW (k:=ZQ r e.2) (v:=true) a) g;refine⟨j,by simp only[OF];unfold Xu at f;omega,λy=> ?_⟩;rw[show(List.foldl (λD e=>if ZQ r e.2<=day then Q5 D (ZQ r e.2) true else D) (Q5 D (ZQ r e.2) true) l)=Xu r day (Q5 D (ZQ r e.2) true) l from rfl,m,mem_set a b];simp only[TO,exists_eq_or_imp];constructor
   ·rintro((h | h) | h)
    ·exact .inr<|.inl ⟨c,h⟩
    ·exact .inl h
    ·exact .inr<|.inr h
   ·rintro(h | (h | h))
    ·exact .inl<|.inr h
    ·exact .inl<|.inl h.2
    ·exact .inr h
  ·rw[B1 c];obtain⟨j,f,m⟩:=GH (l:=l) a b;refine⟨j,by simp only[OF];unfold Xu at f;omega,λy=> ?_⟩;rw[show(List.foldl (λD e=>if ZQ r e.2<=day then Q5 D (ZQ r e.2) true else D) D l)=Xu r day D l from rfl,m];simp only[TO,exists_eq_or_imp];constructor
   ·rintro(h | h)
    ·exact .inl h
    ·exact .inr<|.inr h
   ·rintro(h | (h | h))
    ·exact .inl h
    ·exact absurd h.1 c
    ·exact .inr h
theorem ya{l':Q0 (Int×QF)}(c:l'.Perm l):(Xu r day [] l').Perm (Xu r day [] l):=by
 have a:=GH (r:=r) (day:=day) (l:=l') (D:=[]) eF eF;have b:=GH (r:=r) (day:=day) (l:=l) (D:=[]) eF eF
 have nd:∀{L:Q0 (Int×Bool)},(L.map Prod.fst).Nodup->L.Nodup:=fun{L} h=>by
  rw[List.Nodup,iE] at h
  exact h.imp λh e=>h<|by rw[e]
 refine(iY (nd a.1)<|nd b.1).2 λy=> ?_;rw[a.2.2,b.2.2];constructor
 ·rintro(h | ⟨e,he,h⟩)
  ·exact .inl h
  ·exact .inr ⟨e,c.mem_iff.1 he,h⟩
 ·rintro(h | ⟨e,he,h⟩)
  ·exact .inl h
  ·exact .inr ⟨e,c.mem_iff.2 he,h⟩
theorem vd{α:Type}{A:Q0 α}{x y:α}:List.set (A++[x]) A.length y=A++[y]:=by simp
theorem Py(a:VT r):∀{l:Q0 (Int×QF)} {D:Q0 (Int×Bool)},(∀e∈l,0<=e.2.Sent/\e.2.Sent<=65536)->
  VB (KI [K5 r t u] A3 (some 0) day) l (A3++[D])=some (A3++[Xu r day D l])
 | [],D,_=>rfl
 | e::l,D,h=>by
  have he:=h e<|sp ..
  have step:KI [K5 r t u] A3 (some 0) day e (A3++[D])=some (A3++[if ZQ r e.2<=day then Q5 D (ZQ r e.2) true else D]):=by
   unfold KI;rw[Pl a he];simp only[K2];by_cases b:ZQ r e.2<=day
   ·have c:(A3++[D])[A3.length]? =some D:=by simp
    simp only[b,ta,B2,c,K2,QS,vd]
   ·simp only[b,rW,W2,Bm,K2]
  simp only[VB,step,K2];exact Py a λq f=>h q<|L3 _ f
theorem kP(f:VT r)(h:∀e∈l,0<=e.2.Sent/\e.2.Sent<=65536):CY PI (KI [K5 r t u] A3 (some 0) day) l (A3++[[]])=some (A3++[Xu r day [] l]):=by
 refine qF (Py f h) λl' c=>⟨_,Py f λe he=>h e<|c.mem_iff.1 he,by simp,λi x y a b=> ?_⟩;by_cases hi:i < A3.length
 ·rw[u1 hi] at a b
  rw[a] at b;simp only[W1] at b;subst b;exact .refl _
 ·rw[s5 eB] at a b
  cases g:i - A3.length with
  | zero=>
   rw[g] at a b
   simp only[C2,W1] at a b
   subst a;subst b;exact ya c
  | succ k=>rw[g] at a;simp at a
def gA(r:G8)(day:Int)(l:Q0 (Int×QF)):Q0 Int:=((Xu r day [] l).map Prod.fst).mergeSort λa b=>decide<|a<=b
theorem yJ:(gA r day l).Pairwise (·< ·):=by
 have g:=(GH (r:=r) (day:=day) (l:=l) (D:=[]) eF eF).1;have e:(gA r day l).Pairwise (λa b=>decide (a<=b)=true):=im (λa b c e f=>by simp only[AT] at*;omega) (λa b=>by simp only[nn,AT];omega) _;have f:(gA r day l).Nodup:=(oC _ _).nodup_iff.2 g;exact(e.and f).imp λh=>by have:=h.1;have:=h.2;simp only[AT] at*;omega
theorem uO:d∈gA r day l↔d<=day/\∃e∈l,ZQ r e.2=d:=by
 unfold gA;rw[(oC _ _).mem_iff,rm];have h:=(GH (r:=r) (day:=day) (l:=l) (D:=[]) eF eF).2.2;constructor
 ·rintro⟨y,a,rfl⟩;rcases(h y).1 a with a | ⟨e,he,b,rfl⟩
  ·cases a
  ·exact⟨b,e,he,rfl⟩
 ·rintro⟨c,e,he,rfl⟩;exact⟨(ZQ r e.2,true),(h _).2<|.inr ⟨e,he,c,rfl⟩,rfl⟩
theorem xG(g:VT r)(b:A1=[K5 r t u]){m:Q0 (Int×QF)}(c:A2=[m])(k:m.length<=4096)(hs:∀e∈m,0<=e.2.Sent/\e.2.Sent<=65536):Yt A1 A2 A3 (some 0) day=some ((A1,A2,A3++[Xu r day [] m]),gA r day m):=by
 subst b;subst c;have a:=GH (r:=r) (day:=day) (l:=m) (D:=[]) eF eF;have o:=g.transit
 have i:UC (A3++[Xu r day [] m]) (some A3.length)=some (gA r day m):=by
  have j:(A3++[Xu r day [] m])[A3.length]? =some (Xu r day [] m):=by simp
  simp only[UC,j,K2,Gy];rw[BY]
  ·rfl
  ·refine⟨IN.2 λy f=> ?_,by have:=a.2.1;simp at this;omega⟩;rcases(a.2.2 y).1 f with f | ⟨e,he,q,rfl⟩
   ·cases f
   ·have:=hs e he;simp only[AT];unfold ZQ;omega
 unfold Yt;simp only[K2,C2,K5];have h:=kP (t:=t) (u:=u) (A3:=A3) (day:=day) g hs;simp only[K5] at h
 rw[h];simp only[K2,i]
theorem fe.book(b:VT r)(h:fe r u):fe r (Gf r d u) where
 sorted:=h.sorted.filter _
 mov:=λp a=>h.mov p (sf.1 a).1
 used:=by
  have e:=h.used;have g:=Fc (f:=QF.Amount) (c:=λp=>decide<|d < ZQ r p) (l:=u.B.Moving);have i:0<=YW QF.Amount (u.B.Moving.filter λp=> !decide (d < ZQ r p)):=Fe λp a=>by have:=(h.mov p (sf.1 a).1).1.1;omega
  simp only[Gf,Uw];omega
 due:=by
  have e:=h.due;have g:=Fc (f:=QF.Amount) (c:=λp=>decide<|d < ZQ r p) (l:=u.B.Moving);have i:0<=YW (λp=>WY r p.Amount<|ZQ r p) (u.B.Moving.filter λp=> !decide (d < ZQ r p)):=Fe λp a=>by have:=(h.mov p (sf.1 a).1).1.1;exact(b.sl eB).1
  have j:YW (λp=>WY r p.Amount<|ZQ r p) (u.B.Moving.filter λp=> !decide (d < ZQ r p))<=YW (λp=>1049*p.Amount) (u.B.Moving.filter λp=> !decide (d < ZQ r p)):=OJ λp a=>by have:=(h.mov p (sf.1 a).1).1.1;exact(b.sl eB).2
  rw[Na] at j
  simp only[Gf,Uw];omega
theorem yn{a:Int}(h:a<=d):Gf r d (Gf r a s)=Gf r d s:=by
 have e:=j7 (r:=r) (s:=s) (t:=0) (u:=a) (d:=d) h;have b:(Uw r 0 d<|Gf r a s).B=(Uw r a d<|Uw r 0 a s).B:=rfl;unfold Gf at b ⊢
 simp only[b,e]
theorem ym(h:∀p∈s.B.Moving,d < ZQ r p):Gf r d s=s:=by
 have b:s.B.Moving.filter (λp=>decide<|d < ZQ r p)=s.B.Moving:=mw.2 λp a=>by simpa using h p a
 have c:s.B.Moving.filter (λp=> !decide (d < ZQ r p))=[]:=el.2 λp a=>by simpa using h p a
 simp only[Gf,Uw,b,c,YW,iH]
theorem z7(h:∀p∈s.B.Moving,d<=ZQ r p):Ov r d s [] s.B.Moving=Gf r d s:=by
 have f:s.B.Moving.filter (λp=> !(ZQ r p==d))=s.B.Moving.filter (λp=>decide<|d < ZQ r p):=bY λp a=>by
  have:=h p a;by_cases e:ZQ r p=d
  ·simp[e]
  ·have b:d < ZQ r p:=by omega
   simp[e,b]
 have b:s.B.Moving.filter (λp=>ZQ r p==d)=s.B.Moving.filter (λp=> !decide (d < ZQ r p)):=bY λp a=>by
  have:=h p a;by_cases e:ZQ r p=d
  ·simp[e]
  ·have b:d < ZQ r p:=by omega
   simp[e,b]
 have g:YW (λp=>WY r p.Amount d) (s.B.Moving.filter λp=> !decide (d < ZQ r p))=YW (λp=>WY r p.Amount<|ZQ r p) (s.B.Moving.filter λp=> !decide (d < ZQ r p)):=Nb λp a=>by
  have c:=sf.1 a;have i:=h p c.1;have j:¬d < ZQ r p:=by simpa using c.2
  have:ZQ r p=d:=by omega
  rw[this]
 simp only[Ov,Gf,Uw,r7,f,b,g]
def NQ(r:G8)(d:Int)(u:Acc)(l:Q0 QF):Acc:={u with B:={u.B with Used:=u.B.Used+YW QF.Amount (l.filter λp=>ZQ r p==d),Due:=u.B.Due+YW (λp=>WY r p.Amount d) (l.filter λp=>ZQ r p==d)}}
def SQ(r:G8)(d:Int)(M l:Q0 (Int×QF)):Q0 (Int×QF):=l.foldl (λM e=>if ZQ r e.2==d then YA M e.1 else M) M
theorem Pm(b:VT r)(i:0<=d):∀{l:Q0 (Int×QF)} {u:Acc} {M:Q0 (Int×QF)},(∀e∈l,(1<=e.2.Amount/\e.2.Amount<=17179869184)/\0<=e.2.Sent/\e.2.Sent<=65536)->
  0<=u.B.Used->u.B.Used+YW QF.Amount (l.map Prod.snd)<=4611686018427387904->0<=u.B.Due->u.B.Due+1049*YW QF.Amount (l.map Prod.snd)<=4611686018427387904->
  VB (KO (some 0) d 0 0) l ([K5 r t u],[M])=some ([K5 r t<|NQ r d u<|l.map Prod.snd],[SQ r d M l])
 | [],u,M,_,_,_,_,_=>by simp[VB,NQ,SQ,YW]
 | e::l,u,M,h,o,v,w,z=>by
  have he:=h e<|sp ..
  have hs:=Fe (f:=QF.Amount) (l:=l.map Prod.snd) λq c=>by
   obtain⟨y,A,rfl⟩:=rm.1 c;have:=(h y<|L3 _ A).1.1;omega
  simp only[E4,YW] at v z
  have C:=b.sl (a:=e.2.Amount) (d:=d) eB;by_cases m:ZQ r e.2=d
  ·have g:(ZQ r e.2==d)=true:=by simpa using m
   have step:KO (some 0) d 0 0 e ([K5 r t u],[M])=some ([K5 r t<|M8 r e.2.Amount d u],[YA M e.1]):=by
    unfold KO;simp only[];rw[Pl b he.2];have j:(K5 r t u).moving=some 0:=rfl;simp only[K2,g,B2,C2,j,dh,QS,mZ];rw[Ii b eB i eB eB];rfl
   simp only[VB,step,K2];have k:=Pm b i (l:=l) (u:=M8 r e.2.Amount d u) (M:=YA M e.1) (λq c=>h q<|L3 _ c) (by show 0<=u.B.Used+e.2.Amount;omega) (by show u.B.Used+e.2.Amount+_<=_;omega) (by show 0<=u.B.Due+WY r e.2.Amount d;omega) (by show u.B.Due+WY r e.2.Amount d+_<=_;omega);rw[k];simp only[NQ,M8,SQ,E4,nt,g,B2,YW,oA,ij]
  ·have g:(ZQ r e.2==d)=false:=by simpa using m
   have step:KO (some 0) d 0 0 e ([K5 r t u],[M])=some ([K5 r t u],[M]):=by
    unfold KO;simp only[];rw[Pl b he.2];simp only[K2,g,W2,Bm]
   simp only[VB,step,K2];have k:=Pm b i (l:=l) (u:=u) (M:=M) (λq c=>h q<|L3 _ c) o eB w eB;rw[k];simp only[NQ,SQ,E4,nt,g,W2,Bm,oA]
theorem Dq:∀{l M:Q0 (Int×QF)},(M.map Prod.fst).Nodup->SQ r d M l=M.filter (λe=> !(l.any λy=>ZQ r y.2==d&&y.1==e.1))
 | [],M,_=>by
  have:M.filter (λe=> !(([]:Q0 (Int×QF)).any λy=>ZQ r y.2==d&&y.1==e.1))=M:=mw.2 λ_ _=>rfl;rw[this];rfl
 | y::l,M,b=>by
  unfold SQ;rw[oA];by_cases a:(ZQ r y.2==d)=true
  ·rw[BY a];have:=Dq (l:=l) (M:=YA M y.1)<|Bv b;unfold SQ at this
   rw[this,XD b,lO];refine bY λe _=> ?_;simp only[ig,a,mb,qAE,ik]
  ·simp only[wt] at a
   rw[B1<|by simp[a]];have:=Dq (l:=l) (M:=M) b;unfold SQ at this
   rw[this];refine bY λe _=> ?_;simp only[ig,a,lu,lU]
theorem uN(o:VT r)(q:0<=d)(h:fe r u){m:Q0 (Int×QF)}(j:m.Perm (u.B.Moving.map Fq)):SA (KO (some 0) d 0 0) m ([K5 r t u],[m])=some ([K5 r t<|Ov r d u [] u.B.Moving],[m.filter λe=> !(ZQ r e.2==d)]):=by
 have k:(m.map Prod.fst).Nodup:=(j.map Prod.fst).nodup_iff.2<|Fp h.sorted;refine qE λl' b=> ?_
 have a:(l'.map Prod.snd).Perm u.B.Moving:=by
  have c:=(b.trans j).map Prod.snd;have i:(u.B.Moving.map Fq).map Prod.snd=u.B.Moving:=by rw[lJ];exact qAC _
  rwa[i] at c
 have hs:=D7 (f:=QF.Amount) a;have g:∀e∈l',(1<=e.2.Amount/\e.2.Amount<=17179869184)/\0<=e.2.Sent/\e.2.Sent<=65536:=λe he=>h.mov e.2<|a.mem_iff.1<|IR he;rw[Pm o q g h.used.1 (by rw[hs];exact h.used.2) h.due.1 (by rw[hs];exact h.due.2),Dq k]
 have v:m.filter (λe=> !(l'.any λy=>ZQ r y.2==d&&y.1==e.1))=m.filter (λe=> !(ZQ r e.2==d)):=bY λe he=>by
  congr 1;rw[lb,n1];simp only[Do,mX];constructor
  ·rintro⟨y,w,c,i⟩;have:=MR k (b.mem_iff.1 w) he i;rw[<-this];exact c
  ·intro c;exact⟨e,b.mem_iff.2 he,c,rfl⟩
 rw[v];have z:YW QF.Amount ((l'.map Prod.snd).filter λp=>ZQ r p==d)=YW QF.Amount (u.B.Moving.filter λp=>ZQ r p==d):=D7<|a.filter _;have A:YW (λp=>WY r p.Amount d) ((l'.map Prod.snd).filter λp=>ZQ r p==d)=YW (λp=>WY r p.Amount d) (u.B.Moving.filter λp=>ZQ r p==d):=D7<|a.filter _;simp only[NQ,Ov,K5,z,A]
theorem MQ(v:VT r)(D:0<=day){R:KM}:∀{ks:Q0 Int} {u:Acc} {m:Q0 (Int×QF)},ks.Pairwise (·< ·)->(∀d∈ks,0<=d/\d<=day)->fe r u->(∀p∈u.B.Moving,ZQ r p<=day->ZQ r p∈ks)->m.Perm (u.B.Moving.map Fq)->
  ∃j,VB (VE<|some 0) ks ([K5 r t u],[m],R)=some ([K5 r t<|Gf r day u],[j],R)/\j.Perm ((Gf r day u).B.Moving.map Fq)
 | [],u,m,_,_,h,k,o=>by
  have e:=ym (r:=r) (d:=day) (s:=u) λp a=>by
   have:=k p a;simp only[ew,imp_false] at this;omega
  rw[e];exact⟨m,rfl,o⟩
 | d::ks,u,m,hs,z,h,k,o=>by
  have b:=qs.1 hs;have c:=z d<|sp ..
  have f:∀p∈u.B.Moving,d<=ZQ r p:=λp a=>by
   by_cases E:ZQ r p<=day
   ·rcases TO.1 (k p a E) with e | e
    ·omega
    ·have:=b.1 _ e;omega
   ·omega
  have g:=uN (t:=t) v c.1 h o;rw[z7 f] at g
  have w:(K5 r t u).moving=some 0:=rfl
  have step:VE (some 0) d ([K5 r t u],[m],R)=some ([K5 r t<|Gf r d u],[m.filter λe=> !(ZQ r e.2==d)],R):=by
   unfold VE;simp only[K2,C2,w,g]
  have y:(m.filter λe=> !(ZQ r e.2==d)).Perm ((Gf r d u).B.Moving.map Fq):=by
   refine(o.filter _).trans<|.of_eq ?_;rw[iV];show(u.B.Moving.filter λp=> !(ZQ r p==d)).map Fq=(u.B.Moving.filter λp=>decide<|d < ZQ r p).map Fq;congr 1;refine bY λp a=> ?_;have:=f p a;by_cases e:ZQ r p=d
   ·simp[e]
   ·have F:d < ZQ r p:=by omega
    simp[e,F]
  obtain⟨j,A,C⟩:=MQ v D (R:=R) b.2 (λq G=>z q<|L3 _ G) (h.book v (d:=d)) (λp a H=>by
   have i:=sf.1 a;rcases TO.1 (k p i.1 H) with e | e
   ·have:=i.2;simp only[AT] at this;omega
   ·exact e) y
  rw[yn c.2] at A C
  exact⟨j,by simp only[VB,step,K2];exact A,C⟩
theorem jj(h:H3 r n t s)(o:t<=day)(D:0<=t)(E:day<=65536)(w:u.B.Bonds=s.B.Bonds)(g:u.Sums=s.Sums):ZU (JD day 0<|K5 r t u) (0,[K5 r t u])=some [K5 r t {u with Sums:=λi=>if i < 16 then s.Sums i+s.B.Bonds i*(day - t) else s.Sums i}]:=by
 obtain⟨f,b,a⟩:=GA (body:=JD day 0<|K5 r t u) (λi (f:Nat->Int)=>((i:Int),[K5 r t {u with Sums:=f}])) (λf=>[K5 r t {u with Sums:=f}]) (λi f=>f=λk=>if k < i then s.Sums k+s.B.Bonds k*(day - t) else s.Sums k) 16
  (λi f hi b=>by
   have e:Yu 16 ((i:Nat):Int)=some i:=Hm hi;have F:=h.sums i hi;have q:=h.bonds i hi;have j:f i=s.Sums i:=by rw[b];simp
   have y:0<=s.B.Bonds i*(day - t):=n2 q.1 eB;have z:s.B.Bonds i*(day - t)<=17179869184*(day - t):=ey q.2 eB;have A:(K5 r t u).book.Bonds i=s.B.Bonds i:=by show u.B.Bonds i=_;rw[w]
   have C:(K5 r t {u with Sums:=f}).day=t:=rfl;have es:(K5 r t {u with Sums:=f}).sums i=s.Sums i:=j;refine⟨ZB f i<|s.Sums i+s.B.Bonds i*(day - t),?_,?_⟩
   ·unfold JD;rw[BY eE];simp only[e,K2,QS,A,C2,C,es,mZ,Ta (by omega:i<=4294967296)];rw[Qo (n:=day - t) eB eB,Qo (n:=s.B.Bonds i*(day - t)) eB eB,Qo (n:=s.Sums i+s.B.Bonds i*(day - t)) eB eB];rfl
   ·funext k;by_cases v:k=i
    ·subst v;rw[VJ,BY eB]
    ·rw[UR v,b];by_cases c:k < i
     ·simp only[c,B2];rw[BY eB]
     ·simp only[c,Bm];rw[B1 eB])
  (λf b=>by unfold JD;rw[B1 eF]) 16 0 u.Sums rfl (by rw[g];funext k;simp)
 have m:ZU (JD day 0<|K5 r t u) (0,[K5 r t u])=some [K5 r t {u with Sums:=f}]:=a;rw[m,b]
theorem EG(j:VT r)(h:H3 r n t s)(G:n<=4096)(H:0<=t)(f:t<=day)(v:day<=65536)(c:PR r t s A1 A2 A3):∃g i A3',Yh A1 A2 A3 (some 0) day=some (g,i,A3')/\PR r day (Uw r t day s) g i A3' :=by
 obtain⟨m,E,a⟩:=c.m;obtain⟨I,rest,K,w,y⟩:=c.k;have z:=h.mU G eB
 have b:∀e∈m,e.2∈s.B.Moving:=λe he=>by
  obtain⟨q,L,rfl⟩:=rm.1<|a.mem_iff.1 he;exact L
 have M:=xG (A3:=A3) (day:=day) j c.o E (by have:=a.length_eq;have:=h.mlen;simp at*;omega) λe he=>(z.mov e.2<|b e he).2
 obtain⟨F,A,C⟩:=MQ (t:=t) j (by omega:0<=day) (R:=A3++[Xu r day [] m]) (ks:=gA r day m) (u:=s) (m:=m) yJ (λd v=>by
   obtain⟨Q,e,he,N⟩:=uO.1 v;have:=(z.mov e.2<|b e he).2;have:=j.transit;unfold ZQ at N;omega) z (λp c P=>uO.2 ⟨P,Fq p,a.mem_iff.2<|IR c,rfl⟩) a
 have D:=jj h f H v (u:=Gf r day s) rfl rfl;unfold Yh;rw[K2];refine⟨[K5 r day<|Uw r t day s],[F],A3++[Xu r day [] m],ZT M (ZT (by rw[c.o,E];exact A) ?_),rfl,⟨F,rfl,C⟩,⟨I,rest++[Xu r day [] m],by rw[K];rfl,w,y⟩⟩;simp only[K2,C2];refine ZT D ?_;simp only[K2,C2,QS,mZ];rfl
end
section
open Go.Dec
variable{r:G8}{n:Nat}{t d:Int}{s s' :Acc}{x:Ev}{p:QF}
abbrev ba:Bk:=Qz.mk (λ_=>0) ([]) 0 0 0 0 0 0 0 0
def vy:(Acc ⊕ Int)×Nat->Bk×Int×Int
 | (.inl a,k)=>(a.B,(k:Int),0)
 | (.inr e,k)=>(ba,(k:Int),e)
theorem fA{e:Int}(h:DJ r s x= .inr e):e=4∨e=5∨e=10∨e=11∨e=12:=by
 unfold DJ Df RR Fi GQ AG qG at h
 repeat' split at h
 all_goals first | (cases h;done) | (simp only[mW] at h;subst h;simp)
theorem vb{c:D5}{e:Int}(h:VQ r c x= .inr e):e=1∨e=7∨e=4∨e=5∨e=10∨e=11∨e=12:=by
 unfold VQ at h
 split at h
 ·simp only[mW] at h;omega
 ·split at h
  ·simp only[mW] at h;omega
  ·split at h
   ·cases h
   ·rename_i a he;simp only[mW] at h
    subst h;have:=fA he;omega
theorem Ee(f:VT r){day:Int}:∀{l:Q0 Ev} {n:Nat} {c c' :D5} {k:Nat},H3 r n c.day c.acc->0<=c.day->c.day<=day->HY r day l n c=(.inl c',k)->H3 r k c'.day c'.acc/\0<=c'.day/\c'.day<=day/\n<=k/\k<=n+l.length
 | [],n,c,c',k,h,b,e,a=>by
  simp only[HY,L0,x2] at a
  obtain⟨rfl,rfl⟩:=a;exact⟨h,b,e,S2 _,by simp⟩
 | x::l,n,c,c',k,h,b,e,a=>by
  rw[HY] at a
  split at a
  ·rename_i o;split at a
   ·rename_i q hs;obtain⟨g,u,v,_⟩:=Te f h b hs;obtain⟨i,j,m,w,y⟩:=Ee f g eB eB a;exact⟨i,j,m,by omega,by simp only[OF];omega⟩
   ·simp only[L0,reduceCtorEq,false_and] at a
  ·simp only[L0,x2] at a
   obtain⟨rfl,rfl⟩:=a;exact⟨h,b,e,S2 _,by simp⟩
def Og:(D5 ⊕ Int)×Nat->(Int×Int×Acc) ⊕ (Bk×Int×Int)
 | (.inl c,k)=>.inl (c.day,(k:Int),c.acc)
 | (.inr e,k)=>.inr (ba,(k:Int),e)
end
section
open Go.Dec
variable{l:Q0 Ev}
variable{r:G8}{n:Nat}{t d day:Int}{s:Acc}{x:Ev}{p:QF}{A1:Q0 QD}{A2:PM}{A3:KM}
abbrev Deed:=(Q0 QD×PM×KM×Ev)->K1 dT
theorem TG:∃D:Nat->Deed,Ur (some 0)=some D/\∀(x:Ev),Xa x=true->∃j,Yu 7 x.Kind=some j/\
  ∀{r:G8} {n:Nat} {t:Int} {s:Acc} {A1:Q0 QD} {A2:PM} {A3:KM},VT r->H3 r n t s->n<=4096->0<=t->t<=65536->PR r t s A1 A2 A3->x.Day=t->Xz r t (DJ r s x) (D j (A1,A2,A3,x)):=by
 refine⟨_,rfl,λx he=> ?_⟩;have i:∀{k:Nat},k < 7->x.Kind=(k:Int)->Yu 7 x.Kind=some k:=λo e=>by rw[e];exact Hm o
 rcases qi he with k | k | k | k | k | k | k
 ·refine⟨0,i eB k,λf h c g m b a=> ?_⟩;have:=qq h c b he k;unfold DJ;rw[k];exact this
 ·refine⟨1,i eB k,λf h c g m b a=> ?_⟩;have:=jr h b he k;unfold DJ;rw[k];exact this
 ·refine⟨2,i eB k,λf h c g m b a=> ?_⟩;have:=OW f h c g b he k a;unfold DJ;rw[k];exact this
 ·refine⟨3,i eB k,λf h c g m b a=> ?_⟩;have:=OV f h c b he k;unfold DJ;rw[k];exact this
 ·refine⟨4,i eB k,λf h c g m b a=> ?_⟩;have:=qh h c b he k;unfold DJ;rw[k];exact this
 ·refine⟨5,i eB k,λf h c g m b a=> ?_⟩;have:=ji f h c g m b he k a;unfold DJ;rw[k];exact this
 ·refine⟨6,i eB k,λf h c g m b a=> ?_⟩;have:=vr h c b he k;unfold DJ;rw[k];exact this
def dV(r:G8)(out:(D5 ⊕ Int)×Nat)(q:K1 ((Int×Q0 QD×PM×KM) ⊕ (Zt×Int×Int×K1 Nat))):Prop:=match out with
 | (.inl c,k)=>∃A1 A2 A3,q=some (.inl ((k:Int),A1,A2,A3))/\PR r c.day c.acc A1 A2 A3
 | (.inr e,k)=>q=some (.inr (⟨e⟩,(k:Int),0,some 0))
theorem N2(u:VT r)(N:day<=65536)(P:l.length<=4096){D:Nat->Deed}(K:∀(x:Ev),Xa x=true->∃j,Yu 7 x.Kind=some j/\
  ∀{r:G8} {n:Nat} {t:Int} {s:Acc} {A1:Q0 QD} {A2:PM} {A3:KM},VT r->H3 r n t s->n<=4096->0<=t->t<=65536->PR r t s A1 A2 A3->x.Day=t->Xz r t (DJ r s x) (D j (A1,A2,A3,x)))
  {r33:K1 Nat×Q0 QD×PM×KM} (i:r33.1=some 0):∀(post:Q0 Ev) (n:Nat) (c:D5) (A1:Q0 QD) (A2:PM) (A3:KM),l.drop n=post->n<=l.length->H3 r n c.day c.acc->0<=c.day->c.day<=day->PR r c.day c.acc A1 A2 A3->
  dV r (HY r day post n c) (ZU (KD l day r33 D) ((n:Int),A1,A2,A3))
 | [],n,c,A1,A2,A3,q,Q,h,B,R,v=>by
  have e:n=l.length:=by have:=List.drop_eq_nil_iff.1 q;omega
  have:KD l day r33 D ((n:Int),A1,A2,A3)=some (.done<|.inl ((n:Int),A1,A2,A3)):=by
   unfold KD;rw[B1<|by simp[e]];rfl
  rw[ZJ,this];exact⟨A1,A2,A3,rfl,v⟩
 | x::post,n,c,A1,A2,A3,q,Q,h,B,R,v=>by
  have C:n < l.length:=by
   rcases kn n l.length with h | h
   ·exact h
   ·rw[u0 h] at q;cases q
  have y:l[n]? =some x:=by rw[<-iU,q];rfl
  have E:l.drop (n+1)=post:=by rw[<-List.tail_drop,q];rfl
  have L:(A1[0]?)=some (K5 r c.day c.acc):=by rw[v.o];rfl
  have M:(K5 r c.day c.acc).day=c.day:=rfl;rw[HY];by_cases b:x.Day<=day
  ·rw[BY b];by_cases he:Xa x=true
   ·by_cases k:x.Day < c.day
    ·have:KD l day r33 D ((n:Int),A1,A2,A3)=some (.done<|.inr (⟨7⟩,(n:Int),0,some 0)):=by
      unfold KD;rw[BY eE];simp only[Z2,y,K2,b,ta,B2,B4,he];rw[WI<|SE 1,i];have F:decide (x.Day≥c.day)=false:=by simp;omega
      simp only[K2,L,M,F];rw[U7<|Pd 7]
     have hs:VQ r c x= .inr 7:=by unfold VQ;simp only[he,RK,W2,Bm,k,B2]
     rw[ZJ,this,hs];rfl
    ·obtain⟨S,T,V,m,G⟩:=EG u h eB B (show c.day<=x.Day by omega) eB v;obtain⟨j,W,f⟩:=K x he;have H:=Od u h (show c.day<=x.Day by omega);have f:=f u H eB eB eB G rfl
     have z:KD l day r33 D ((n:Int),A1,A2,A3)=Q4 (D j (S,T,V,x)) (λw=>some<|.done<|.inr (w,(n:Int),0,some 0)) λg=>some (.next (((n+1:Nat):Int),g.1,g.2.1,g.2.2)):=by
      unfold KD;rw[BY eE];simp only[Z2,y,K2,b,ta,B2,B4,he];rw[WI<|SE 1,i];have F:decide (x.Day≥c.day)=true:=by simp;omega
      simp only[K2,L,M,F];rw[WI<|SE 7,m];simp only[K2,W,QS,Ta (by omega:n<=4294967296)]
     have hs:VQ r c x=match DJ r (Uw r c.day x.Day c.acc) x with | .inl a=>.inl ⟨a,x.Day⟩ | .inr e=>.inr e:=by unfold VQ;simp only[he,RK,W2,Bm,k]<;>rfl
     unfold Xz at f
     cases A:DJ r (Uw r c.day x.Day c.acc) x with
     | inl a=>
      rw[A] at f
      obtain⟨X,Y,Z,hC,I⟩:=f;rw[WI hC] at z
      rw[A] at hs
      have hs:VQ r c x= .inl ⟨a,x.Day⟩:=hs;obtain⟨g1,g2,g3,_⟩:=Te u h B hs;rw[ZJ,z,hs];exact N2 u N P K i post (n+1) ⟨a,x.Day⟩ X Y Z E C g1 eB b I
     | inr e=>
      rw[A] at f
      rw[U7 f] at z
      rw[A] at hs
      have hs:VQ r c x= .inr e:=hs;rw[ZJ,z,hs];rfl
   ·simp only[wt] at he
    have:KD l day r33 D ((n:Int),A1,A2,A3)=some (.done<|.inr (⟨1⟩,(n:Int),0,some 0)):=by
     unfold KD;rw[BY eE];simp only[Z2,y,K2,b,ta,B2,B4,he];rw[U7<|Pd 1,i]
    have hs:VQ r c x= .inr 1:=by unfold VQ;simp only[he,k4,B2]
    rw[ZJ,this,hs];rfl
  ·have:KD l day r33 D ((n:Int),A1,A2,A3)=some (.done<|.inl ((n:Int),A1,A2,A3)):=by
    unfold KD;rw[BY eE];simp only[Z2,y,K2,b,rW,W2,Bm]
   rw[ZJ,this,B1 b];exact⟨A1,A2,A3,rfl,v⟩
def IZ(r:G8)(day:Int)(out:(Acc ⊕ Int)×Nat)(q:K1 (K1 Nat×Int×Int×Q0 QD×PM×KM)):Prop:=match out with
 | (.inl a,k)=>∃A1 A2 A3,q=some (some 0,(k:Int),0,A1,A2,A3)/\PR r day a A1 A2 A3
 | (.inr e,k)=>q=some (none,(k:Int),e,[],[],[])
theorem bl(r:G8):PR r 0 Cw [K5 r 0 Cw] [[]] [[]]:=⟨rfl,⟨[],rfl,by simp[Cw]⟩,⟨[],[],rfl,by simp,λi=>by simp[Qc,Cw]⟩⟩
theorem H8(h:r.Rates.length<=1000000)(_K:l.length<=4096∨4096 < l.length):IZ r day (JV r l day) (XE r l day):=by
 unfold XE JV;rw[An h,K2];by_cases f:Xv r=true
 ·simp only[f,RK,W2,Bm];by_cases w:l.length > 4096
  ·have i:decide ((l.length:Int) > 4096)=true:=by simp;omega
   rw[BY w,BY i];rfl
  ·have i:¬decide ((l.length:Int) > 4096)=true:=by simp;omega
   rw[B1 w,B1 i];by_cases g:W6 day 0 65536=true
   ·simp only[Ps,g,RK,W2,Bm];have j:=PW.1 f;have y:=J3.1 g;obtain⟨D,A,m⟩:=TG;have o:Wr [] [] [] r=some (some 0,[K5 r 0 Cw],[[]],[[]]):=rfl;have a:=N2 j y.2 (by omega:l.length<=4096) m (r33:=(some 0,[K5 r 0 Cw],[[]],[[]])) rfl l 0 TH _ _ _ (oG ..) (oO _) (IS r) (by simp[TH]) (by simp[TH];omega)<|bl r;rw[o,K2,A,K2];unfold dV at a
    unfold AK;cases z:HY r day l 0 TH with
    | mk q k=>
     rw[z] at a
     cases q with
     | inr e=>
      have a:ZU (KD l day (some 0,[K5 r 0 Cw],[[]],[[]]) D) (0,[K5 r 0 Cw],[[]],[[]])=_:=a;rw[a];rfl
     | inl c=>
      obtain⟨A1,A2,A3,u,B⟩:=a;have u:ZU (KD l day (some 0,[K5 r 0 Cw],[[]],[[]]) D) (0,[K5 r 0 Cw],[[]],[[]])=_:=u;obtain⟨C,E,F,L,M⟩:=Ee j (IS r) (by simp[TH]) (by simp[TH];omega) z;obtain⟨G,H,I,b,v⟩:=EG j C eB E F y.2 B;rw[u,K2];exact⟨G,H,I,ZT b rfl,v⟩
   ·simp only[wt] at g
    simp only[Ps,g,k4,B2];rfl
 ·simp only[wt] at f
  simp only[f,k4,B2];rfl
theorem GR{a:Acc}{k:Nat}(h:JV r l day=(.inl a,k)):VT r/\H3 r k day a/\(0<=day/\day<=65536)/\k<=l.length:=by
 unfold JV at h
 split at h
 ·simp at h
 ·rename_i e;split at h
  ·simp at h
  ·split at h
   ·simp at h
   ·rename_i f;have b:=PW.1 (by simpa using e:Xv r=true);have g:=J3.1 (by simpa using f:W6 day 0 65536=true);unfold AK at h
    split at h
    ·rename_i c o i;simp only[L0,x2] at h
     obtain⟨rfl,rfl⟩:=h;obtain⟨j,q,m,u,v⟩:=Ee b (IS r) (by simp[TH]) (by simp[TH];omega) i;exact⟨b,Od b j m,g,by omega⟩
    ·simp at h
theorem uV:∀{n:Nat} {c:D5} {e:Int} {k:Nat},HY r day l n c=(.inr e,k)->(e=1∨e=7∨e=4∨e=5∨e=10∨e=11∨e=12)/\n<=k/\k < n+l.length:=by
 induction l with
 | nil=>intro n c e k h;simp[HY] at h
 | cons x l a=>
  intro n c e k h;rw[HY] at h
  split at h
  ·split at h
   ·have:=a h;simp only[OF];exact⟨this.1,by omega,by omega⟩
   ·rename_i b hs;simp only[L0,mW] at h
    obtain⟨rfl,rfl⟩:=h;simp only[OF];exact⟨vb hs,by omega,by omega⟩
  ·simp at h
theorem BI{e:Int}{k:Nat}(h:JV r l day=(.inr e,k)):e≠0:=by
 unfold JV at h
 split at h
 ·simp at h;omega
 ·split at h
  ·simp at h;omega
  ·split at h
   ·simp at h;omega
   ·unfold AK at h
    split at h
    ·simp at h
    ·rename_i b c a;simp only[L0,mW] at h
     obtain⟨rfl,rfl⟩:=h;have:=uV a;omega
end
section
open Go.Dec
variable{l:Q0 QF}
variable{r:G8}{n:Nat}{t d day:Int}{s a:Acc}{x:Ev}{p:QF}{l:Q0 Ev}
theorem Br:∀{a b:Q0 Int},a.Pairwise (·< ·)->b.Pairwise (·< ·)->(∀x,x∈a↔x∈b)->a=b
 | [],[],_,_,_=>rfl
 | [],y::b,_,_,h=>by have:=(h y).2 eF;simp at this
 | x::a,[],_,_,h=>by have:=(h x).1 eF;simp at this
 | x::a,y::b,m,o,h=>by
  have c:=qs.1 m;have f:=qs.1 o
  have i:x=y:=by
   have j:=(h x).1 eF;have k:=(h y).2 eF;rcases TO.1 j with e | j
   ·exact e
   ·rcases TO.1 k with e | k
    ·exact e.symm
    ·have:=f.1 x j;have:=c.1 y k;omega
  subst i;congr 1;refine Br c.2 f.2 λz=> ?_;constructor
  ·intro g;have:=(h z).1<|L3 _ g;rcases TO.1 this with rfl | this
   ·have:=c.1 z g;omega
   ·exact this
  ·intro g;have:=(h z).2<|L3 _ g;rcases TO.1 this with rfl | this
   ·have:=f.1 z g;omega
   ·exact this
theorem qa{l:Q0 QF}(h:l.Pairwise (λp q=>p.Id < q.Id)):(l.map QF.Id).Pairwise (·< ·):=iE.2 h
theorem uQ{m:Q0 (Int×QF)}{l:Q0 QF}(hs:l.Pairwise (λp q=>p.Id < q.Id))(f:m.Perm (l.map Fq))(u:∀p∈l,0<=p.Id/\p.Id<=1073741824)(z:l.length<=1000000):Gy m=some (l.map QF.Id):=by
 have g:(m.map Prod.fst).Perm (l.map QF.Id):=by
  have:=f.map Prod.fst;have e:(l.map Fq).map Prod.fst=l.map QF.Id:=by rw[lJ];rfl
  rwa[e] at this
 unfold Gy;rw[BY]
 ·congr 1;have j:((m.map Prod.fst).mergeSort λa b=>decide<|a<=b).Pairwise (λa b=>decide (a<=b)=true):=im (λa b c j k=>by simp only[AT] at*;omega) (λa b=>by simp only[nn,AT];omega) _;have o:=(oC (m.map Prod.fst) λa b=>decide<|a<=b).trans g;have i:(l.map QF.Id).Nodup:=(qa hs).imp λh=>iw h;have k:((m.map Prod.fst).mergeSort λa b=>decide<|a<=b).Nodup:=o.nodup_iff.2 i;exact Br ((j.and k).imp λh=>by have:=h.1;have:=h.2;simp only[AT] at*;omega) (qa hs) λx=>o.mem_iff
 ·refine⟨IN.2 λy v=> ?_,by have:=f.length_eq;simp at this;omega⟩;obtain⟨q,w,rfl⟩:=rm.1<|f.mem_iff.1 v;have:=u q w;exact fl<|show -9223372036854775808<=q.Id/\q.Id<=9223372036854775807 by omega
theorem uZ{l:Q0 QF}(hs:l.Pairwise (λp q=>p.Id < q.Id))(b:p∈l):l.find? (λq=>q.Id==p.Id)=some p:=by
 cases h:l.find? (λq=>q.Id==p.Id) with
 | none=>have:=List.find?_eq_none.1 h p b;simp at this
 | some q=>
  have c:=ml h;have e:q.Id=p.Id:=by simpa using List.find?_some h
  rw[xL hs c b e]
theorem y9{amount:Int}(e:r.Rates.length<=1000000):X4 r amount day=some (if !Xv r then(0,1) else if !W6 amount 0 17179869184|| !W6 day 0 65536 then(0,2) else(WY r amount day,0)):=by
 unfold X4;rw[An e,K2];simp only[FU,Ps];by_cases c:Xv r=true
 ·simp only[c,RK,W2,Bm];by_cases b:(!W6 amount 0 17179869184|| !W6 day 0 65536)=true
  ·rw[BY b,BY b]
  ·rw[B1 b,B1 b];simp only[nn,tb,not_or,Bool.not_eq_false] at b
   have f:=J3.1 b.1;have g:=J3.1 b.2;exact ZT (Pw (PW.1 c) f.1 f.2 g.1) rfl
 ·simp only[wt] at c
  simp only[c,k4,B2]
theorem PZ{k:Nat}(h:JV r l day=(.inl a,k)):l.length<=4096:=by
 rcases kn 4096 l.length with b | b
 ·unfold JV at h
  split at h
  ·simp at h
  ·simp at h
 ·exact b
theorem qO{A1:Q0 QD}{m:Q0 (Int×QF)}{k e:Int}{o:K1 Nat}{A3:KM}(hs:a.B.Moving.Pairwise (λp q=>p.Id < q.Id))(j:m.Perm (a.B.Moving.map Fq))(z:a.B.Moving.length<=1000000):ZU (UL (o,k,e,A1,[m],A3) (K5 r day a)<|a.B.Moving.map QF.Id) (0,(K5 r day a).book)=some a.B:=by
 obtain⟨b,g,c⟩:=GD (body:=UL (o,k,e,A1,[m],A3) (K5 r day a)<|a.B.Moving.map QF.Id) (λi (b:Bk)=>((i:Int),b)) (λb=>b) (λpre b=>b={a.B with Moving:=pre}) a.B.Moving
  (λpre q post b f g=>by
   have u:pre.length < a.B.Moving.length:=by rw[f];simp
   have v:(a.B.Moving.map QF.Id)[pre.length]? =some q.Id:=by rw[f];simp
   have h:(K5 r day a).moving=some 0:=rfl;have w:Qc m q.Id=some q:=by rw[qc hs j];exact uZ hs (by rw[f];simp)
   refine⟨{a.B with Moving:=pre++[q]},?_,rfl⟩;subst g;unfold UL;rw[BY eE];simp only[Z2,v,K2,h,C2,w,lv];refine ZT (TT eE) ?_;simp only[QS,Ta (by omega:pre.length<=4294967296)])
  (λb g=>by
   unfold UL;rw[B1 eF]) a.B.Moving [] {a.B with Moving:=[]} rfl rfl
 have y:ZU (UL (o,k,e,A1,[m],A3) (K5 r day a)<|a.B.Moving.map QF.Id) (0,(K5 r day a).book)=some b:=c;rw[y,g]
theorem FX(i:r.Rates.length<=1000000)(A:l.length<=4096∨4096 < l.length):WQ r l day=some (vy<|JV r l day):=by
 have c:=H8 (day:=day) i A;unfold IZ at c
 unfold WQ;cases h:JV r l day with
 | mk q k=>
  rw[h] at c
  cases q with
  | inr e=>
   have he:=BI h;have c:XE r l day=some (none,(k:Int),e,[],[],[]):=c;have j:(e != 0)=true:=by simpa using he
   rw[c];simp only[K2,j,B2,vy]
  | inl a=>
   obtain⟨A1,A2,A3,C,y⟩:=c;obtain⟨E,b,F,G⟩:=GR h;obtain⟨m,z,f⟩:=y.m;have g:a.B.Moving.length<=1000000:=by have:=PZ h;have:=b.mlen;omega
   have D:A1[0]? =some (K5 r day a):=by rw[y.o];rfl
   have u:UC A2 (some 0)=some (a.B.Moving.map QF.Id):=by
    rw[z];simp only[UC,C2,K2];exact uQ b.sorted f (λp c=>(b.mov p c).id) g
   rw[C];simp only[K2,iA,W2,Bm,D];have v:gi (K5 r day a).book.Moving=some ():=rfl;have w:(K5 r day a).moving=some 0:=rfl;rw[v,K2,w,u,K2,z];exact ZT (qO b.sorted f g) rfl
end
section
open Go.Dec
variable{r:G8}{n:Nat}{t d day:Int}{s a:Acc}{x:Ev}{p:QF}{l:Q0 Ev}
theorem xW{k:Nat}{b:Acc}(h:H3 r k d b)(c:k<=4096):(0<=b.B.Due/\b.B.Due<=4611686018427387904)/\0<=b.B.Paid/\b.B.Paid<=b.B.Due:=by
 have:=h.pos;have:=h.due;have:=h.lim;omega
end
end Go.Proofs.YtdoocboganbagaaGreatDoor.Ex
namespace Go.Proofs.YtdoocboganbagaaGreatDoor.Bo
section
open Go.Dec
variable{s:Q0 QB}{x:QB}
def ND(x:QB)(n:Int):Prop:=x.Lo<=n/\n<=x.Hi
def mem(s:Q0 QB)(n:Int):Prop:=∃y∈s,ND y n
structure XJ(s:List QB):Prop where
 ok:∀y∈s,0<=y.Lo/\y.Lo<=y.Hi/\y.Hi<=1099511627776
 apart:s.Pairwise λa b=>a.Hi+1 < b.Lo
theorem S6(n:Int):¬mem [] n:=by simp[mem]
theorem mem_cons(y:QB)(s:Q0 QB)(n:Int):mem (y::s) n↔ND y n∨mem s n:=by simp[mem]
theorem mem_append(s t:Q0 QB)(n:Int):mem (s++t) n↔mem s n∨mem t n:=by
 simp only[mem,mg];constructor
 ·rintro⟨y,h | h,k⟩
  ·exact .inl ⟨y,h,k⟩
  ·exact .inr ⟨y,h,k⟩
 ·rintro(⟨y,h,k⟩ | ⟨y,h,k⟩)
  ·exact⟨y,.inl h,k⟩
  ·exact⟨y,.inr h,k⟩
theorem XJ.nil:XJ []:=⟨by simp,by simp⟩
theorem XJ.tail{y:QB}(h:XJ (y::s)):XJ s:=⟨λz a=>h.ok z (by simp[a]),(qs.1 h.apart).2⟩
theorem XJ.ar{y:QB}(h:XJ s)(b:0<=y.Lo/\y.Lo<=y.Hi/\y.Hi<=1099511627776)(hs:∀z∈s,y.Hi+1 < z.Lo):XJ (y::s):=by
 refine⟨λz a=> ?_,qs.2 ⟨hs,h.apart⟩⟩;rcases TO.1 a with rfl | a
 ·exact b
 ·exact h.ok z a
theorem XJ.append{t:Q0 QB}(h:XJ s)(k:XJ t)(d:∀a∈s,∀b∈t,a.Hi+1 < b.Lo):XJ (s++t):=by
 refine⟨λz c=> ?_,oi.2 ⟨h.apart,k.apart,d⟩⟩;rcases mg.1 c with c | c
 ·exact h.ok z c
 ·exact k.ok z c
theorem XJ.split{t:Q0 QB}(h:XJ (s++t)):XJ s/\XJ t/\∀a∈s,∀b∈t,a.Hi+1 < b.Lo:=by
 have:=oi.1 h.apart;exact⟨⟨λz c=>h.ok z (by simp[c]),this.1⟩,⟨λz c=>h.ok z (by simp[c]),this.2.1⟩,this.2.2⟩
theorem Cc(s:Q0 QB)(f:QB->Bool)(c:s.length<=1000000):Jf s (λx=>some<|f x)=some (match s.findIdx? f with | some i=>(i:Int) | none=> -1):=by
 unfold Jf
 have key:=BL (body:=J8 s λx=>some<|f x) (fun(_:Unit) i=>(i:Int)) (λ_ i x=>if f x then some (.done<|.inr (i:Int)) else some (.next ())) (λ_=>.inl ()) s
  (λt i x a=>by
   have hi:=Zx a;unfold J8;simp only[Z2,a,K2];rw[Qo eB eB];simp only[show(decide<|(i:Int) < (s.length:Int))=true by simpa using hi,B2];cases f x<;>simp[UQ.au])
  (λt=>by unfold J8;simp) ()
 simp only[hJ] at key
 rw[key]
 have gen:∀(l:Q0 QB) (i:Nat),NG (fun(_:Unit) i x=>if f x then some (.done<|.inr (i:Int)) else some (.next ())) (λ_=>(.inl ():Unit ⊕ Int)) l i ()=some (match l.findIdx? f with | some k=>.inr ((i+k:Nat):Int) | none=>.inl ()):=by
  intro l
  induction l with
  | nil=>intro i;simp[NG]
  | cons x l b=>
   intro i;simp only[NG,List.findIdx?_cons];cases d:f x with
   | true=>simp
   | false=>
    simp only[W2,Bm];rw[b];cases l.findIdx? f with
    | none=>simp
    | some k=>simp;omega
 rw[gen];cases s.findIdx? f<;>simp
theorem T1(s:Q0 QB)(f:QB->Bool)(a:s.length<=1000000):Ky s (λx=>some<|f x)=some (s.any f):=by
 unfold Ky;rw[Cc s f a];simp only[K2,W1];cases h:s.findIdx? f with
 | none=>
  rw[ic] at h
  simp only[show ¬((-1:Int)≥0) by omega,rW]
  symm;simpa using h
 | some i=>
  rw[o7] at h
  obtain⟨hi,b,_⟩:=h;simp only[oE,show(0:Int)<=(i:Int) by omega,ta]
  symm;rw[n1];exact⟨_,iN hi,b⟩
theorem qI(c:s.length<=1000000)(d:XJ s)(f:x.Lo<=x.Hi):∃b,Yk s x=some b/\(b=true↔∃n,ND x n/\mem s n):=by
 refine⟨_,by unfold Yk;rw[T1 s _ c];rfl,?_⟩;rw[n1];simp only[J7,Do,AT,mem,ND];constructor
 ·rintro⟨y,a,g,i⟩;have:=d.ok y a;by_cases h:x.Lo<=y.Lo
  ·exact⟨y.Lo,by omega,y,a,by omega⟩
  ·exact⟨x.Lo,by omega,y,a,by omega⟩
 ·rintro⟨n,e,y,a,h⟩;exact⟨y,a,by omega,by omega⟩
theorem Mc(d:XJ s)(o:x.Lo<=x.Hi):(∃y∈s,y.Lo<=x.Lo/\x.Hi<=y.Hi)↔∀n,ND x n->mem s n:=by
 constructor
 ·rintro⟨y,b,p,q⟩ n e;exact⟨y,b,by simp only[ND] at e ⊢;omega⟩
 ·intro h;obtain⟨y,b,k⟩:=h x.Lo ⟨by omega,o⟩;refine⟨y,b,k.1,?_⟩;apply lQ;intro r;simp only[ND] at k h
  obtain⟨z,l,f⟩:=h (y.Hi+1) ⟨by omega,by omega⟩;simp only[ND] at f
  have a:=d.apart;rw[oJ] at a
  obtain⟨i,hi,g⟩:=mv b;obtain⟨j,m,c⟩:=mv l;have t:=d.ok y b;have u:=d.ok z l;rcases iC i j with h' | h' | h'
  ·have:=a i j hi m h';rw[g,c] at this;omega
  ·subst h';rw[g] at c;subst c;omega
  ·have:=a j i m hi h';rw[g,c] at this;omega
theorem yd(a:s.length<=1000000)(c:XJ s)(d:x.Lo<=x.Hi):∃b,Vb s x=some b/\(b=true↔∀n,ND x n->mem s n):=by
 refine⟨_,by unfold Vb;rw[T1 s _ a];rfl,?_⟩;rw[n1,<-Mc c d];simp only[Yl,Do,AT]
end
end Go.Proofs.YtdoocboganbagaaGreatDoor.Bo
end
