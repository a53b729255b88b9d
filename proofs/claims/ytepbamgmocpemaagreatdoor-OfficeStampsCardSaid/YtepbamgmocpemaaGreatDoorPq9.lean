/- For OfficeStamps. -/
import Derived.Test.YtepbamgmocpemaaGreatDoorPq8
noncomputable section
namespace Go.Dec
abbrev IF:=@List.getElem?_cons_zero
abbrev aT:=@List.pairwise_cons
abbrev nE:=@decide_eq_false
abbrev nI:=@Bool.not_eq_true
abbrev nJ:=@List.getElem?_set_self
abbrev nM:=@decide_eq_true
abbrev nO:=@List.getElem?_set_ne
abbrev nQ:=@Int.le_refl
abbrev nR:=@Int.natCast_zero
abbrev nc:=@decide_true
abbrev nk:=@decide_false
abbrev nw:=@Sum.inr.injEq
abbrev nz:=@Sum.inl.injEq
abbrev mJ:=@List.mem_of_find?_eq_some
abbrev mR:=@List.set_set
abbrev mX:=@Classical.byContradiction
abbrev mZ:=@Int.mul_nonneg
abbrev mn:=@List.set_cons_zero
abbrev mq:=@List.filter_filter
abbrev mu:=@List.length_singleton
abbrev my:=@Bool.and_eq_true_iff
abbrev lO:=@Bool.eq_iff_iff
abbrev lS:=@List.getElem?_mapIdx
abbrev lX:=@List.takeWhile_cons
abbrev la:=@List.foldl_cons
abbrev ll:=@Bool.false_and
abbrev lu:=@List.not_mem_nil
abbrev eA:=@List.mergeSort_perm
abbrev eD:=@ge_iff_le
abbrev eE:=@Option.isNone_some
abbrev eI:=@Int.mul_le_mul
abbrev eP:=@bne_self_eq_false
abbrev eg:=@Int.sub_self
abbrev eh:=@Bool.or_self
abbrev eu:=@List.length_filter_le
abbrev oL:=@List.findIdx?_eq_some_iff_getElem
abbrev oR:=@List.pairwise_map
abbrev oo:=@List.perm_ext_iff_of_nodup
abbrev o3:=@List.findIdx?_eq_none_iff
abbrev o7:=@List.any_cons
abbrev o8:=@Int.add_assoc
abbrev iA:=@Bool.and_comm
abbrev iB:=@and_assoc
abbrev iC:=@List.pairwise_mergeSort
abbrev iF:=@Nat.sub_self
abbrev iG:=@Int.ne_of_lt
abbrev iI:=@List.set_getElem_self
abbrev iN:=@Int.mul_add
abbrev iV:=@not_or
abbrev iW:=@List.length_mapIdx
end Go.Dec
section
set_option maxRecDepth 100000
set_option maxHeartbeats 4000000
namespace Go.Proofs.YtepbamgmocpemaaGreatDoor
open Go.Dec Go.Proofs.Tryz Go.Shelf Go.RowKit Go.Maps Go.Sort
section
variable{g:Gp}{β:Type}{m:H1 β}{r:β}{n:Nat}{D:UV q8}{S:UV (Nat×Do)}{F:Fz}{hs:UV HP}{L:QA}
theorem _root_.Go.Dec.GG.rk{v:Do}(i:Nat)(hi:hs[i]? =some (xn F L v))(k:∀q:QL,U2 116 Ky F q.1 L.rules->v= .agg (Ao L q).toArray->GG g (Hd n D S F<|xD F L q++hs.eraseIdx i) m r):GG g (Hd n D S F hs) m r:=GG.sZ i hi λq h=>k q h.1 h.2
theorem _root_.Go.Dec.GG.pb{U:Jx}(i:Nat)(hi:hs[i]? =some (J0 U F L))(k:∀q:QL,U2 116 Ky F q.1 L.rules->GG g (Hd n D S F<|[pc U.g48 (Ao L q) 48,kA 8 (Ex QK) F 95 q.2.1 q.2.2.1 L.casks,kA 6 (Ex QN) F 98 q.2.2.2.1 q.2.2.2.2.1 L.duties,kA 4 (Ex QT) F 101 q.2.2.2.2.2.1 q.2.2.2.2.2.2.1 L.stamps,QZ Tg uu F q.2.2.2.2.2.2.2.1 L.batches,QZ Tg ur F q.2.2.2.2.2.2.2.2 L.pure]++hs.eraseIdx i) m r):GG g (Hd n D S F hs) m r:=GG.sZ i hi λq h=>k q h
end
theorem jY{w:PP}{F F0:Fz}{b4 b5:Nat}{c4 c5:UV Do}{U:Jx}{A:UV Qr}{R:HP}(le:F0<=F)(h:SH w F (Qi [pc b4 c4 9,pc b5 c5 34,Wu U F0 A,R])):SH w F (star (Qi [Wu U F A]) R):=
 have h1:=SH.push (k:=2) rfl<|(h.pull (k:=2) rfl).sD (Vy U) le
 h1.mono λ_ hm=>Xn<|VY<|VX (ks:=[2,2]) hm
def XM(A:UV Qr)(i:Nat)(x:Qr)(word:UV So)(n:UV Int)(d:QX):H1 (UV So×Int×UV Qr):=
 (UU d.form (n.length:Int)).bind λok=>Qw (Zf ok 8) (λq=>some ([],q.e,A)) λ_=>
 (if(!x.ledgers.rules.isNone) then some true else some (word==([100,97,121]:UV So))).bind λa=>(if a then some true else some (word==([114,117,108,101,115]:UV So))).bind λz2=>
 Qw (Zf z2 6) (λq=>some ([],q.e,A)) λ_=>(YR x.ledgers).bind λL=>Qw (d.do_ (L,(),n)) (λq=>some ([],q.e,A)) λs=>some (s.1,0,A.set i {x with ledgers:=s.2})
def WZ(A:UV Qr)(o:ON)(line:UV So):H1 (UV So×Int×UV Qr):=
 (if o.isNone then some true else(o.bind λi=>(A[i]?).bind λx=>some<|!x.open_)).bind λz=>if z then some ([],13,A) else
 if decide ((line.length:Int) > 1000) then some ([],3,A) else
 o.bind λi=>(A[i]?).bind λx=>Qw (Vp (Zp.mk line) ()) (λq=>some ([],q.e,A)) λw=>
 XL.bind λD=>match Qc D w.1 with
  | none=>some ([],8,A)
  | some d=>XM A i x w.1 w.2.1 d
theorem C9(F0:Fz)(hT:Xz F0)(U:Jx)(A:UV Qr)(o:ON)(p:H1 OF)(k:Unit)(h:ZP U.g50 F0 p o)(line:UV So):HN Tryz.prog 8 [.pointer p,.string<|bs line].toArray F0 [Wu U F0 A] (WZ A o line) (λr _ v=>v= .tuple #[.string<|bs r.1,vI r.2.1]) (λr F' =>[Wu U F' r.2.2]):=by
 refine HN.pq func8 J ntmps8 J λr R=>(.o (Sub.refl _) (J:_=[Wu U F0 A,R]) ?_);unfold WZ;refine .w 2<|.l (cs:=[.string<|bs []]) J Tryz.zeroValue9 J λc=>.l (cs:=[vI 0]) J fp J λj=>.w 7<|.cJ h J Tryz.underlying26 J J<|.m J J<|.pR (b:=o.isNone) 6 20 J (λy al=> ?_) λz F1 a=> ?_
 ·refine .dr y J J<|.m J J<|.dr y J J<|.d λi e=> ?_;obtain⟨bo,hbo,hpo⟩:=h.at e;refine .dp hpo J J (.dr y J J<|.f J gY J W4 J<|.dr y J J<|.d λx ex=>.dx (Φ:=λv=>v=(.bool x.open_)) 2 J Fz.r hbo ex J V4 J (λvs ⟨K,q1,S,T,V,W,X,Y,Z,q9,aA,aR,h,M,r1,r2,r3,r4,r5⟩=>⟨_,by subst h;exact J,J⟩) λv hv=> ?_);subst hv;exact .dr y J J<|.not J J<|.bQ y J J J<|.bz 6 J J (by kernel_rfl) Fz.r
 refine .w 3<|.i J (λhz=> ?_) λhz=> ?_
 ·exact .w 2<|.store (cs' :=[.string<|bs []]) W9 J J J J (i:=1) J (JV J) J J<|.store (cs' :=[vI 13]) qX J J J J (i:=0) J (JV J) J J<|.w 2<|.bI 2 (Vy U) a J<|.bc<|Ho (U:=()) [2,2] results8 (.cell J V9 (i:=1) J J<|.cell J Ea (i:=0) J J .nil) J a J
 refine .w 3<|.bf J J U9 J<|.w 4<|.i J (λhl=> ?_) λhl=> ?_
 ·exact .w 2<|.store (cs' :=[.string<|bs []]) W9 J J J J (i:=1) J (JV J) J J<|.store (cs' :=[vI 3]) qX J J J J (i:=0) J (JV J) J J<|.w 2<|.bI 2 (Vy U) a J<|.bc<|Ho (U:=()) [2,2] results8 (.cell J V9 (i:=1) J J<|.cell J Ea (i:=0) J J .nil) J a J
 refine .skip<|.d λi e=> ?_;obtain⟨bo,hbo,hpo⟩:=h.at e;refine .d (λx ex=>.w 4<|.makeFunc J J<|.defer J<|.w 5<|.build (cs:=(W2<|Zp.mk line).toArray) J fe Tryz.zeroValue60 (Nh _ fe) J J (by kernel_rfl)<|.box (cs:=W2<|Zp.mk line) J J J λb=>.tg (U:={U with g60:=b}) (L:=Zp.mk line) [0] J<|.dy [0] J call15 J J J J (C6 _ (hT.mono a) {U with g60:=b} (Zp.mk line) ()) ?_ λq F2 _ l2=>FT (U:=()) call14 (Yf _ c [] j 0) [1,0] J results8 (λ_ _=>.cell J V9 (i:=0) J J<|.cell J Ea (i:=1) J J .nil) (Fz.t a l2) (λF'' w le hw=>jY (Fz.t a<|Fz.t l2 le) hw) λ_=>J);rintro⟨word,n,rd⟩ F2 _ - l2 ⟨p7,k7,rfl,h7⟩;refine .pick [1,1,1,1] (J:_=[pc j [vI 0] 34,pc c [.string<|bs []] 9,Wu U F0 A,R])<|.w 9<|.bC J call16 J J J (MR _<|hT.mono<|Fz.t a l2) ?_;rintro D F3 _ - B ⟨pm,km,rfl,hm⟩;have h7' :=h7.mono B;show GL _ _ _ _ _ _ _ (match Qc D word with | none=>some ([],8,A) | some d=>XM A i x word n d) r;cases hg:Qc D word with
 | none=>
  exact .m J J (.aM hm J Mk (.str U9) R0 J J (λ_=>(.w 3<|.l (cs:=[.int .i64 0,.int .i64 0,.nilFunc]) J R0 J λC=>(.store (cs' :=[.int .i64 0,.int .i64 0,.nilFunc]) Tryz.sizeOf66 J J J J (i:=0) J (JV J) J J<|.w 7<|.off J J J J<|.off J J J J<|.off J J J J<|.off J J J J<|.off J J J J<|.al J J J<|.sy (he:=(J:Zf false 8=some (.pan<|Qo.mk 8))) [] J call17 J J J J (Km _ false 8) λF4 u=>FT (U:=()) call14 (Yf _ c [] j 0) [2,1] J results8 (λ_ _=>.cell J V9 (i:=0) J J<|.cell J Ea (i:=1) J J .nil) (Fz.t a<|Fz.t l2<|Fz.t B u) (λF'' w le hw=>jY (Fz.t a<|Fz.t l2<|Fz.t B<|Fz.t u le)<|SH.bl [0,0,1,1] J hw) λ_=>J))) λx v hx=>by rw[hg] at hx;cases hx)
 | some d=>
  refine .m J J (.aM hm J Mk (.str U9) R0 J J (λh0=>by rw[hg] at h0;cases h0) λx0 v hx hv=> ?_);rw[hg] at hx
  obtain rfl:=y1 hx;obtain⟨fd,kd,rfl,hfd⟩:=hv;show GL _ _ _ _ _ _ _ (XM A i x word n d) r;unfold XM;refine .w 3 (.l (cs:=[.int .i64 0,.int .i64 0,.nilFunc]) J R0 J λC=>(.store (cs' :=Zi d fd kd) Tryz.sizeOf66 J J J J (i:=0) J (JV J) J (Qa<|by rfl)<|.w 7<|.on J J<|.f J De J Tryz.sizeOf63 J<|.on J J<|.bG J Tryz.isAgg63 Tryz.sizeOf63 J (i:=0) J (vs:=Z3 d.form) (by kernel_rfl) J<|.on J J<|.m J J<|.on J J<|.bW J J VI J<|.on J J<|.bC J call18 J J J (Ar _ d.form (n.length:Int))<|K0 λok F4 _ u=>.pQ J J J<|.dy [] J call17 J J J J (Km _ ok 8) (K0 λ_ F5 _ N=>.pick [0,0,0,0,0] (J:_=[pc C (Zi d fd kd) 66,pc j [vI 0] 34,pc c [.string<|bs []] 9,Wu U F0 A,R])<|.w 3<|.keep (.p [0,4,5,6,7,8] J)<|.w 2<|.dp hpo J J<|.f J gY J Tryz.sizeOf48 J<|.f J H5 J gV J ?_) λq F5 _ N=>FT (U:=()) call14 (Yf _ c [] j 0) [2,1] J results8 (λ_ _=>.cell J V9 (i:=0) J J<|.cell J Ea (i:=1) J J .nil) (Fz.t a<|Fz.t l2<|Fz.t B<|Fz.t u N) (λF'' w le hw=>jY (Fz.t a<|Fz.t l2<|Fz.t B<|Fz.t u<|Fz.t N le)<|SH.bl [0,0,1,1] J hw) λ_=>J));have lA:F0<=F5:=Fz.t a<|Fz.t l2<|Fz.t B<|Fz.t u N;refine .dx (Φ:=λv=>∃p,v= .pointer p/\U2 116 Ky F5 p x.ledgers.rules) 3 J lA (hbo.mono lA) ex J fa J (λvs ⟨K,q1,S,T,V,W,X,Y,Z,q9,aA,aR,h,M,r1,r2,r3,r4,r5⟩=>⟨_,by subst h;exact J,K,J,M⟩) λv hv=> ?_;obtain⟨pr,rfl,hpr⟩:=hv;refine .tS hpr J dV J J<|.m J J<|.pR (b:=(!x.ledgers.rules.isNone)) 3 57 J (λhb z=> ?_) λz1 F6 l6=> ?_
  ·exact .dr hb J J<|.m J J<|.dr hb J J<|.cA J U9 J J<|.bQ hb J J J<|.bz 3 J J (by kernel_rfl) Fz.r
  refine .m J J<|.pR (b:=z1) 3 61 J (λhb z=> ?_) λz2 F7 l7=> ?_
  ·exact .dr hb J J<|.m J J<|.dr hb J J<|.cA J U9 J J<|.bQ hb J J J<|.bz 3 J J (by kernel_rfl) Fz.r
  have lB:F0<=F7:=Fz.t lA<|Fz.t l6 l7;refine .dy [] J call17 J J J J (Km _ z2 6) ?_ λq s _ P=>FT (U:=()) call14 (Yf _ c [] j 0) [2,1] J results8 (λ_ _=>.cell J V9 (i:=0) J J<|.cell J Ea (i:=1) J J .nil) (Fz.t lB P) (λF'' w le hw=>jY (Fz.t lB<|Fz.t P le)<|SH.bl [0,0,1,1] J hw) λ_=>J;rintro _ s _ - P rfl;have lC:F0<=s:=Fz.t lB P;refine .pick [0,0,0,0,0] (J:_=[pc C (Zi d fd kd) 66,pc j [vI 0] 34,pc c [.string<|bs []] 9,Wu U F0 A,R]) (.w 3<|.keep (.p [0,4,5,6,7,8] J)<|.w 2<|.dp hpo J J<|.f J gY J Tryz.sizeOf48 J<|.cN (Φ:=λus=>∃p0 p1 k1 p2 k2 p3 k3 p4 p5,us=Qk x.ledgers p0 () p1 k1 p2 k2 p3 k3 p4 () p5 ()/\U2 116 Ky s p0 x.ledgers.rules/\QI 8 (Ex QK) s p1 k1 x.ledgers.casks/\QI 6 (Ex QN) s p2 k2 x.ledgers.duties/\QI 4 (Ex QT) s p3 k3 x.ledgers.stamps/\Wm Tg uu s p4 x.ledgers.batches/\Wm Tg ur s p5 x.ledgers.pure) 3 J lC (hbo.mono lC) ex J Tryz.isAgg48 Tryz.sizeOf48 J (λvs ⟨K,q1,S,T,V,W,X,Y,Z,q9,aA,aR,h,M,r1,r2,r3,r4,r5⟩=>⟨_,by subst h;rfl,J,K,S,T,V,W,X,Y,Z,aA,J,M,r1,r2,r3,r4,r5⟩) λus hus=> ?_);obtain⟨p0,p1,k1,p2,k2,p3,k3,p4,p5,rfl,g0,g1,g2,g3,g4,g5⟩:=hus;refine .pk<|.cc J call19 J J J (i:=0) J (D3 _ x.ledgers p0 p1 k1 p2 k2 p3 k3 p4 p5 g0 g1 g2 g3 g4 g5) λL F9 v _ l9 _=>.rk 0 J λq aV hv=> ?_;subst hv;refine .l (cs:=zL) J fo J (λQ=>.store (cs' :=Ao L q) Tryz.sizeOf48 J J J J (i:=0) J (JV J) J (Qa<|by rfl)<|.bZ (U:={U with g48:=Q}) (L:=L) [0,0,0,0,0,0] aV Fz.r Fz.r Fz.r Fz.r Fz.r J ?_);have lD:F0<=F9:=Fz.t lC l9;have lE:F3<=F9:=Fz.t u<|Fz.t N<|Fz.t l6<|Fz.t l7<|Fz.t P l9;refine .pick [0,0,0,0,0,0] (J:_=[Q3 {U with g48:=Q} F9 L,pc C (Zi d fd kd) 66,pc j [vI 0] 34,pc c [.string<|bs []] 9,Wu U F0 A,R])<|.w 3<|.keep (.p [0,4,5,7,8,10] J)<|.g<|.f J De J Tryz.sizeOf64 J<|.dq J Tryz.isAgg64 J (i:=1) J J<|.m J J<|.tj [0] J ((hfd.mono lE) {U with g48:=Q}) J J ⟨p7,k7,J,h7'.mono lE⟩ J J ?_ λq aW _ l10=>FT (U:=()) call14 (Yf _ c [] j 0) [2,1] J results8 (λ_ _=>.cell J V9 (i:=0) J J<|.cell J Ea (i:=1) J J .nil) (Fz.t lD l10) (λF'' w le hw=>jY (Fz.t lD<|Fz.t l10 le)<|SH.bl [0,0,1,1] J hw) λ_=>J;rintro⟨rep,L'⟩ aW _ - l10 rfl;have lF:F0<=aW:=Fz.t lD l10;refine .pick [0,0,0,0,0,0] (J:_=[J0 {U with g48:=Q} aW L',pc C (Zi d fd kd) 66,pc j [vI 0] 34,pc c [.string<|bs []] 9,Wu U F0 A,R]) (.store (cs' :=[.string<|bs rep]) W9 J J J J (i:=3) J (JV J) J J<|.w 3<|.keep (.p [0,4,5,10] J)<|.w 2<|.pb 0 J λq aV=>(.bG J Tryz.isAgg48 Tryz.sizeOf48 J (i:=0) J (vs:=Ao L' q) (by kernel_rfl) J<|.su 1 J Fz.r λar E f1=>.su 1 J E λau F f2=>.su 1 J (Fz.t E F) λav G f3=>.cQ 1 J (Fz.t E<|Fz.t F G) λaw H f4=>.cQ 1 J (Fz.t E<|Fz.t F<|Fz.t G H) λak I f5=> ?_));have lG:F0<=ak:=Fz.t lF<|Fz.t E<|Fz.t F<|Fz.t G<|Fz.t H I;have f0:=aV.mono<|Fz.t E<|Fz.t F<|Fz.t G<|Fz.t H I;have f1' :=f1.mono<|Fz.t F<|Fz.t G<|Fz.t H I;have f2' :=f2.mono<|Fz.t G<|Fz.t H I;have f3' :=f3.mono<|Fz.t H I;have f4' :=f4.mono I;exact .pick [0,0,0,0,0,0] (J:_=[pc Q (Ao L' q) 48,pc C (Zi d fd kd) 66,pc j [vI 0] 34,pc c [.string<|bs rep] 9,Wu U F0 A,R])<|.dp hpo J J<|.f J gY J Tryz.sizeOf48 J<|.bP (xs' :=A.set i {x with ledgers:=L'}) (x' :={x with ledgers:=L'}) (us:=Ao L' q) 4 J lG Fz.r gj Tryz.sizeOf48 (hbo.mono lG) ex J J J J J J (λF' vs le ⟨K,q1,S,T,V,W,X,Y,Z,q9,aA,aR,h,M,r1,r2,r3,r4,r5⟩=>⟨q.1,(),q.2.1,q.2.2.1,q.2.2.2.1,q.2.2.2.2.1,q.2.2.2.2.2.1,q.2.2.2.2.2.2.1,some q.2.2.2.2.2.2.2.1,(),some q.2.2.2.2.2.2.2.2,(),by subst h;exact J,f0.mono le,f1'.mono le,f2'.mono le,f3'.mono le,f4'.mono le,f5.mono le⟩) J<|.w 4<|.dq J V9 J (i:=3) J J<|.store (cs' :=[.string<|bs rep]) W9 J J J J (i:=3) J (JV J) J J<|.store (cs' :=[vI 0]) qX J J J J (i:=2) J (JV J) J J<|.w 2<|.bc<|PB (U:=()) [3,2] call14 (Yf _ c rep j 0) J [4,4] results8 (.cell J V9 (i:=0) J J<|.cell J Ea (i:=1) J J .nil) J lG J
end Go.Proofs.YtepbamgmocpemaaGreatDoor
end
section
set_option maxRecDepth 100000
set_option maxHeartbeats 4000000
namespace Go.Proofs.YtepbamgmocpemaaGreatDoor
open Go.Dec Go.Proofs.Tryz Go.Shelf Go.RowKit Go.Maps Go.Sort
abbrev Oe:UV So->Fz->UV Do->Prop:=fun(x:UV So) _ vs=>vs=[.string<|bs x]
def JE{σ:Type}(y:UV So->σ->H1 (σ×Bool))(s:UV So×σ):H1 (UK (UV So×σ)<|σ ⊕ σ):=
 if decide ((s.1.length:Int) > 0) then(UH s.1 10).bind λi=>
  if decide (i≥0) then(ZW s.1 0<|Q5<|i+1).bind λu=>(ZW s.1 (Q5<|i+1) s.1.length).bind λv=>(y u s.2).bind λp=>if(!p.2) then some (.done<|.inr p.1) else some (.next (v,p.1))
  else(y s.1 s.2).bind λp=>if(!p.2) then some (.done<|.inr p.1) else some (.next ([],p.1))
 else some (.done<|.inl s.2)
def X4{σ:Type}(y:UV So->σ->H1 (σ×Bool))(s:UV So)(a:σ):H1 σ:=(ZQ (JE y) (s,a)).bind λo=>match o with | .inl z=>some z | .inr z=>some z
theorem Tk(F0:Fz)(σ:Type)(ly:Nat)(Y:σ->Fz->HP)(y:UV So->σ->H1 (σ×Bool))(hy:U1 Tryz.prog ly F0 Oe Y y)(s:UV So)(b:Nat)(q:σ):HN Tryz.prog 78 [.func (.yield ly) #[] #[],vP b 0].toArray F0 [pc b [.string<|bs s] 9,Y q F0] (X4 y s q) (λ_ _ _=>True) (λs' F' =>[Y s' F']):=by
 refine HN.enter func78 J ntmps78 J λr R=> ?_;unfold X4;refine .k (.loop (fun(s:UV So×σ) a w=>∃f,F0<=f/\Hd 25 [] [(0,.func (.yield ly) #[] #[]),(1,vP b 0)] f [pc b [.string<|bs s.1] 9,Y s.2 f,R] a w) (λo e a w=>match o with | .inl z=>e= .exit 0/\∃f c,F0<=f/\Hd 25 [] [] f [pc b c 9,Y z f,R] a w | .inr z=>e= .ret/\∃f c,F0<=f/\Hd 25 [] [] f [pc b c 9,Y z f,R] a w) ?_ ?_ ?_)
 ·exact λa w h=>⟨F0,Fz.r,h.1.sub<|.k J,h.2⟩
 ·rintro⟨s,st⟩ ctl;refine GG.ex λa w ⟨f,j,hA⟩=>⟨_,hA,?_⟩;unfold JE;refine .w 3<|.dq J V9 J (i:=0) J J<|.bf J J U9 J<|.w 3<|.i J (λhb=> ?_) λhb=> ?_
  ·refine .w 11<|.dq J V9 J (i:=0) J J<|.bC J call79 J J J (Sw _ s 10)<|K0 λi x _ l2=>.w 9<|.i J (λhi=> ?_) λhi=> ?_
   ·refine .d λu hu=>.d λv hv=>(.keep (.p [0,1,4] J)<|.bH 9 Qd (by kernel_rfl)<|.dq J V9 J (i:=0) J J<|.w 2<|.te hu J U9 J J<|.dq J V9 J (i:=0) J J<|.w 2<|.tF hv J U9 J J<|.s J J<|.bR<|.store (cs' :=[.string<|bs v]) W9 J J J J (i:=0) J (JV J) J J<|.w 6<|.aS J hy J J J (i:=1) J j l2 λp l _ m=>.w 3<|.i J (λhq=> ?_) λhq=> ?_)
    ·exact .bc<|Qz.ret λa w h=>⟨J,l,_,Fz.t j<|Fz.t l2 m,h.1.sub<|.k J,h.2⟩
    ·exact .w 2<|.bA<|Qz.norm λa w h=>⟨l,Fz.t j<|Fz.t l2 m,h.1.sub<|.k J,h.2⟩
   ·refine .keep (.p [0,1,4] J)<|.g<|.dq J V9 J (i:=0) J J<|.s J J<|.store (cs' :=[.string<|bs []]) W9 J J J J (i:=0) J (JV J) J J<|.w 6<|.aS J hy J J J (i:=1) J j l2 λp l _ m=>.w 3<|.i J (λhq=> ?_) λhq=> ?_
    ·exact .bc<|Qz.ret λa w h=>⟨J,l,_,Fz.t j<|Fz.t l2 m,h.1.sub<|.k J,h.2⟩
    ·exact .w 2<|.bA<|Qz.norm λa w h=>⟨l,Fz.t j<|Fz.t l2 m,h.1.sub<|.k J,h.2⟩
  ·exact .bE J<|Qz.exit λa w h=>⟨J,f,_,j,h.1.sub<|.k J,h.2⟩
 ·intro o A hk e a w hD;rcases o with z | z
  ·obtain⟨rfl,f,c,j,hA⟩:=hD;refine Q6 J<|GG.app ?_ hk a w hA;exact .sV [1,1] results78 .n J j trivial
  ·obtain⟨rfl,f,c,j,hA⟩:=hD;exact K7<|(Hq [1,1] results78 .n J j trivial) hk a w hA
def BN:Nat->UV So->UV (UV So)
 | 0,_=>[]
 | k+1,s=>if s=[] then[] else if 0<=Go.Lib.indexByte s 10 then s.take ((Go.Lib.indexByte s 10).toNat+1)::BN k (s.drop<|(Go.Lib.indexByte s 10).toNat+1) else[s]
theorem TX:∀(s:UV So) (c:So), -1<=Go.Lib.indexByte s c/\Go.Lib.indexByte s c < (s.length:Int)
 | [],c=>by simp[Go.Lib.indexByte]
 | b::l,c=>by
  have ih:=TX l c;simp only[Go.Lib.indexByte,s6];split
  ·omega
  ·split
   ·omega
   ·omega
theorem EC{σ:Type}{y:UV So->σ->H1 (σ×Bool)}:∀(k:Nat) (s:UV So) (st r:σ),s.length<=k->s.length<=1000000000000->Uy y (BN k s) st=some r->ZQ (JE y) (s,st)=some (.inl r)∨ZQ (JE y) (s,st)=some (.inr r)
 | 0,s,st,r,hk,_,h=>by
  obtain rfl:s=[]:=wt (by omega);simp only[BN,Uy,BY] at h
  subst h;left;rw[ZC];simp[JE]
 | k+1,s,st,r,hk,hl,h=>by
  by_cases h0:s=[]
  ·subst h0;simp only[BN,Rw,Uy,BY] at h
   subst h;left;rw[ZC];simp[JE]
  ·have hpos:0 < s.length:=by cases s with | nil=>exact absurd rfl h0 | cons=>simp
   obtain⟨i1,i2⟩:=TX s 10;simp only[BN,RW h0] at h
   have ec:((10:Int).toNat.toUInt8)=10:=by decide
   rw[ZC];by_cases hi:0<=Go.Lib.indexByte s 10
   ·rw[TO hi] at h
    simp only[Uy] at h
    have hw:Q5 (Go.Lib.indexByte s 10+1)=Go.Lib.indexByte s 10+1:=Qn (by omega)<|by omega
    have s1:ZW s 0 (Q5<|Go.Lib.indexByte s 10+1)=some (s.take<|(Go.Lib.indexByte s 10).toNat+1):=by
     rw[hw];unfold ZW;rw[TO<|by omega];congr 1;simp only[oD,eH,eX];congr 1;omega
    have s2:ZW s (Q5<|Go.Lib.indexByte s 10+1) s.length=some (s.drop<|(Go.Lib.indexByte s 10).toNat+1):=by
     rw[hw];unfold ZW;rw[TO<|by omega];congr 1;rw[s5 (by simp;skip)];congr 1;omega
    have hb:JE y (s,st)=(y (s.take<|(Go.Lib.indexByte s 10).toNat+1) st).bind λp=>if(!p.2) then some (.done<|.inr p.1) else some (.next (s.drop<|(Go.Lib.indexByte s 10).toNat+1,p.1)):=by
     unfold JE UH;rw[TO (by simpa using hpos),ec];show(if decide (Go.Lib.indexByte s 10≥0) then _ else _)=_;rw[TO (by simpa using hi),s1,s2];rfl
    rw[hb];cases hy:y (s.take<|(Go.Lib.indexByte s 10).toNat+1) st with
    | none=>rw[hy] at h;cases h
    | some p=>
     rw[hy] at h
     simp only[DO] at h ⊢
     by_cases hp:p.2=true
     ·rw[TO hp] at h
      have:=EC k (s.drop<|(Go.Lib.indexByte s 10).toNat+1) p.1 r (by simp;omega) (by simp;omega) h;simpa[hp] using this
     ·rw[RW hp] at h
      simp only[BY] at h
      right;simp[hp,h]
   ·rw[RW hi] at h
    simp only[Uy] at h
    have hb:JE y (s,st)=(y s st).bind λp=>if(!p.2) then some (.done<|.inr p.1) else some (.next ([],p.1)):=by
     unfold JE UH;rw[TO (by simpa using hpos),ec];show(if decide (Go.Lib.indexByte s 10≥0) then _ else _)=_;rw[RW<|by simpa using hi]
    rw[hb];cases hy:y s st with
    | none=>rw[hy] at h;cases h
    | some p=>
     rw[hy] at h
     simp only[DO] at h ⊢
     by_cases hp:p.2=true
     ·rw[TO hp] at h
      simp only[BY] at h
      left;simp only[hp,x6,By,T2];rw[ZC];simp[JE,h]
     ·rw[RW hp] at h
      simp only[BY] at h
      right;simp[hp,h]
def OH(s:UV So):UV (UV So):=BN s.length s
theorem PU{σ:Type}{y:UV So->σ->H1 (σ×Bool)}{s:UV So}{st r:σ}(hl:s.length<=1000000000000)(h:Uy y (OH s) st=some r):X4 y s st=some r:=by
 unfold X4;rcases EC s.length s st r (IN _) hl h with e | e
 ·rw[e];rfl
 ·rw[e];rfl
theorem zS(F:Fz)(s:UV So)(b:Nat)(hl:s.length<=1000000000000):xT Tryz.prog F 78 [vP b 0] Oe [pc b [.string<|bs s] 9] (OH s):=⟨call78,λσ ly Y y F1 _ hy s0 r hr=>Tk F1 σ ly Y y hy s b s0 r<|PU hl hr⟩
theorem Rf(F0:Fz)(s:UV So):CT Tryz.prog 55 [.string<|bs s].toArray F0 AO (some ()) (λ_ _ _=>True) (λ_ _ v=>wR (λb=>v= .func (.func 78) #[] #[vP b 0]) λb=>[pc b [.string<|bs s] 9]):=by
 exact CT.enter func55 J ntmps55 J λr R=>(.w 2<|.box (cs:=[.string<|bs s]) J J J λb=>.w 5<|.makeFunc J J<|.w 3<|.pz (Φ:=λb' =>(.func (.func 78) #[] #[vP b 0]:Do)= .func (.func 78) #[] #[vP b' 0]) (l:=λb=>[pc b [.string<|bs s] 9]) [0] b J J<|.tL results55 (.tmp J .nil) (i:=0) J (j:=1) J Fz.r trivial)
def HZ{σ:Type}(y:UV So->σ->H1 (σ×Bool))(line:UV So)(s:σ):H1 (UK σ σ):=(Vn line [10]).bind λu=>(y u s).bind λp=>if(!p.2) then some (.done p.1) else some (.next p.1)
def Cm{σ:Type}(y:UV So->σ->H1 (σ×Bool))(script:UV So)(a:σ):H1 σ:=(Ac (HZ y) (OH script) a).bind λc=>match c with | .next s=>some s | .done s=>some s
theorem Pf(F0:Fz)(σ:Type)(ly:Nat)(Y:σ->Fz->HP)(y:UV So->σ->H1 (σ×Bool))(hy:U1 Tryz.prog ly F0 Oe Y y)(script:UV So)(hl:script.length<=1000000000000)(b:Nat)(hb:F0.mem b=some (.cells #[.string<|bs script] 9))(g:σ):HN Tryz.prog 54 [.func (.yield ly) #[] #[],vP b 0].toArray F0 [Y g F0] (Cm y script g) (λ_ _ _=>True) (λs' F' =>[Y s' F']):=by
 refine HN.cx func54 J ntmps54 J λr R=> ?_;unfold Cm;refine .w 2<|.box (cs:=[.func (.yield ly) #[] #[]]) J J J λe=>.w 4<|.U J V9 J hb J<|.pk<|.ah J call55 J J J (i:=0) J (Rf _ script) λA v c=>.sZ 0 J λbL hv=> ?_;subst hv;refine .w 3<|.keep (.p [1,2,5] J)<|.pick [0,0,0,0] (J:_=[pc bL [.string<|bs script] 9,pc e [.func (.yield ly) #[] #[]] 109,Y g F0,R])<|.rf 2 hy J Fz.r c<|.tA [pc bL [.string<|bs script] 9] [0] (λs F hs=>hs=[pc e [.func (.yield ly) #[] #[]] 109,Y s F,R]) (λs F hs=>hs=[pc e [.func (.yield ly) #[] #[]] 109,Y s F,R]) J (zS A script bL hl) J (λ_ _ _ h=>by rw[h];rfl) J J ?_ ?_ ?_
 ·rintro l L f z x vs s ctl R' hs' l2 a rfl rfl;unfold HZ;refine .d λu hu=>.w 3<|GG.begin 0 J<|.w 2<|.keep (.p [2,3] J)<|.dG 3 0 (λ_=>[vT<|.func (.yield ly) #[] #[],vT<|.string<|bs x,vT<|.string<|bs u]) (λ_ _=>[pt l<|V2 L,R',pc e [.func (.yield ly) #[] #[]] 109,Y s f,R]) Qd (by kernel_rfl) (λ_=>J) (λ_=>J) ?_ λenv E j hphi=> ?_
  ·refine .B (.dq J Tryz.isAgg109 J (i:=2) J J<|.fv J)<|.V 1 (λ_ _=>⟨J,J⟩)<|.b (λ_ _ C m=>.bq hu J call56 J J J (C0 _ x [10]) λG v D hv=>by subst hv;exact .cI J J D) .nil
  refine .o (.p [7,9] J) (J:_=[pt l<|V2 L,R',pc e [.func (.yield ly) #[] #[]] 109,Y s f,R])<|.aS J hy J J J (i:=3) J (Fz.t c l2) (Fz.t a j) λp C _ m=>.w 3<|.i J (λhq=> ?_) λhq=> ?_
  ·exact .bc<|RP.ret (Fz.t j m) J J
  ·exact .w 2<|.bA<|RP.norm (Fz.t j m) J J
 ·rintro q f z s hs' l2 a he rfl;exact .k<|.rf 2 hy J (Fz.t c l2) a<|.pV [2,2] [(0,q)] results54 ⟨J,trivial⟩ .n J (Fz.t c<|Fz.t l2 a) trivial
 ·rintro q f z s hs' l2 a he rfl;exact .rf 2 hy J (Fz.t c l2) a<|.rK [2,2] [(0,q)] results54 ⟨J,trivial⟩ .n J (Fz.t c<|Fz.t l2 a) trivial
end Go.Proofs.YtepbamgmocpemaaGreatDoor
end
section
set_option maxRecDepth 100000
set_option maxHeartbeats 4000000
namespace Go.Proofs.YtepbamgmocpemaaGreatDoor
open Go.Dec Go.Proofs.Tryz Go.Shelf Go.RowKit Go.Maps Go.Sort
def RM(x:UV So):Bool:=x.getLast? ==some 10
def O4(x:UV So):UV So:=if RM x then x.dropLast else x
theorem TY(x:UV So)(h:x.length<=1000000000000):Jz x [10]=some (RM x):=by
 unfold Jz Zn RM;cases hx:x.reverse with
 | nil=>
  obtain rfl:x=[]:=by simpa using hx
  rfl
 | cons c l=>
  obtain rfl:x=l.reverse++[c]:=by have:=congrArg List.reverse hx;simpa using this
  have h1:(l.reverse++[c]).length=l.length+1:=by simp
  rw[h1] at h ⊢
  have hw:Q5 (((l.length+1:Nat):Int) - (([10]:UV So).length:Int))=(l.length:Int):=by
   show Q5 (((l.length+1:Nat):Int) - (1:Int))=_;rw[Qn (by omega)<|by omega];omega
  have hs:ZW (l.reverse++[c]) (l.length:Int) ((l.length+1:Nat):Int)=some [c]:=by
   unfold ZW;rw[TO (by simp;omega)];congr 1;simp only[nW];rw[lJ (by simp),ef<|by simp];simp
  rw[TO (by simp;omega),hw,hs];show some ([c]==([10]:UV So))=some ((l.reverse++[c]).getLast? ==some 10);rw[List.getLast?_concat];have:([c]==([10]:UV So))=(some c==some 10):=by by_cases h:c=10<;>simp[h]
  rw[this]
theorem Mm(x:UV So)(h:x.length<=1000000000000):Vn x [10]=some (O4 x):=by
 have h0:=TY x h;unfold Jz at h0
 unfold Vn JG O4
 have h1:Zn x [10]=some (RM x):=by
  cases e:Zn x [10] with
  | none=>rw[e] at h0;cases h0
  | some b=>rw[e] at h0;exact h0
 rw[h1];simp only[DO];cases he:RM x with
 | false=>rfl
 | true=>
  have hne:0 < x.length:=by
   cases x with
   | nil=>simp[RM] at he
   | cons=>simp
  have hw:Q5 ((x.length:Int) - (([10]:UV So).length:Int))=((x.length - 1:Nat):Int):=by
   show Q5 ((x.length:Int) - (1:Int))=_;rw[Qn (by omega)<|by omega];omega
  rw[hw]
  have hs:ZW x 0 ((x.length - 1:Nat):Int)=some x.dropLast:=by
   unfold ZW;rw[TO<|by omega];congr 1;simp only[oD,eH,eX,nW];rw[List.dropLast_eq_take]
  rw[hs];rfl
def N0(s:UV So):UV (UV So):=(OH s).map O4
theorem N1:∀(k:Nat) (s:UV So),∀x∈BN k s,x.length<=s.length
 | 0,_,_,h=>by simp[BN] at h
 | k+1,s,x,h=>by
  unfold BN at h
  split at h
  ·simp at h
  ·split at h
   ·simp only[j9] at h
    rcases h with rfl | h
    ·simp;omega
    ·have:=N1 k _ x h;simp at this;omega
   ·simp only[nx] at h
    subst h;exact IN _
theorem RH{σ:Type}{y:UV So->σ->H1 (σ×Bool)}:∀(l:UV (UV So)) (s r:σ),(∀x∈l,x.length<=1000000000000)->Uy y (l.map O4) s=some r->(Ac (HZ y) l s).bind (λc=>match c with | .next s=>some s | .done s=>some s)=some r
 | [],s,r,_,h=>h
 | x::l,s,r,hx,h=>by
  simp only[s4,Uy] at h
  simp only[Ac,HZ,Mm x<|hx x<|nX ..,DO];cases hy:y (O4 x) s with
  | none=>rw[hy] at h;cases h
  | some p=>
   rw[hy] at h
   simp only[DO] at h ⊢
   by_cases hp:p.2=true
   ·rw[TO hp] at h
    have:=RH l p.1 r (λz hz=>hx z<|x8 _ hz) h;simpa[hp] using this
   ·rw[RW hp] at h
    simpa[hp] using h
theorem HN.rh{β:Type}{P:RK}{f:x4}{args:Of Do}{F:Fz}{H:HP}{m:H1 β}{ρ:β->Fz->Do->Prop}{H' :β->Fz->HP}(h:HN P f args F [H] m ρ (λr F=>[H' r F])):CT P f args F H m ρ (λr F _=>H' r F):=λr hm w R hw=>
 (h r hm w R<|hw.mono λm hm=>QQ (λ_ h=>J7 h) hm).mono (by rintro e w' ⟨F',v,le,he,hρ,hs⟩;exact⟨F',v,le,he,hρ,hs.mono λ_ hm=>Wb hm⟩)
theorem zR(F:Fz)(script:UV So)(b:Nat)(hl:script.length<=1000000000000)(hb:F.mem b=some (.cells #[.string<|bs script] 9)):R1 Tryz.prog F 54 [vP b 0] Oe (N0 script):=⟨call54,λσ ly Y y F1 le hy s r hr=>HN.rh (Pf F1 σ ly Y y hy script hl b (le.mem _ _ hb) s) r<|RH _ s r (λx hx=>me (N1 _ _ x hx) hl) hr⟩
theorem MQ(F0:Fz)(script:UV So):KH Tryz.prog 21 [.string<|bs script].toArray F0 (some ()) (λ_ F v=>∃b,v= .func (.func 54) #[] [vP b 0].toArray/\F.mem b=some (.cells #[.string<|bs script] 9)):=by
 exact KH.enter func21 J ntmps21 J λr R=>(.w 2<|.bN (cs:=[.string<|bs script]) J J J λb c a hb=>.w 5<|.makeFunc J J<|.w 3<|.dw results21 (.tmp J .nil) (i:=0) J a ⟨b,J,hb⟩)
abbrev qc:UV So:=[101,114,114,111,114]
def Wx(A:UV Qr)(s u:UV So):H1 (UV Qr×UV So):=(Cy s u).bind λv=>(Cy v [10]).bind λw=>some (A,w)
def H4(o:ON)(line:UV So)(s:UV Qr×UV So):H1 (UV Qr×UV So):=(WZ s.1 o line).bind λt=>if(t.2.1 != 0) then(Jf qc [t.2.1]).bind λu=>Wx t.2.2 s.2 u else Wx t.2.2 s.2 t.1
def Xq(script:UV So):H1 (UV So×Int):=
 if decide ((script.length:Int) > 262144) then some ([],3) else
 (if(!(script==([]:UV So))) then(Jz script [10]).bind λh=>some (!h) else some false).bind λz=>if z then some ([],8) else
 (HU []).bind λo=>(Yx (H4 o.1) (N0 script) (o.2,[])).bind λs=>some (s.2,0)
theorem LC(F0:Fz)(hT:Xz F0)(script:UV So):KH Tryz.prog 11 [.string<|bs script].toArray F0 (Xq script) (λr _ v=>v= .tuple #[.string<|bs r.1,vI r.2]):=by
 refine KH.cx func11 J ntmps11 J λr R=> ?_;unfold Xq;refine .w 11<|.bf J J U9 J<|.w 4<|.i J (λhb=> ?_) λhb=> ?_
 ·exact .w 6<|.aE [] results11 trivial (.tmp J<|.tmp J .nil) (i:=0) J Fz.r J
 have hlen:script.length<=1000000000000:=by simp at hb;omega
 refine .w 3<|.tv J U9 J J<|.m J J<|.sL (b:=(!(script==([]:UV So)))) 4 20 J (λhs z=> ?_) λz W k=> ?_
 ·exact .dr hs J J<|.m J J<|.dr hs J J<|.bC J call20 J J J (Sx _ script [10])<|K0 λhh C _ l2=>.dr hs J J<|.not J J<|.dv hs J J J<|.bz 4 J J (by kernel_rfl) l2
 refine .w 3<|.i J (λhz=> ?_) λhz=> ?_
 ·exact .w 6<|.aE [] results11 trivial (.tmp J<|.tmp J .nil) (i:=0) J k J
 refine .w 4<|.cS λg C l2=>.aJ (fR<|Jx.mk 0 0 0 g 0 0 0 0 0) 0 J<|.pick [0,0] (J:_=[ZB (Jx.mk 0 0 0 g 0 0 0 0 0).g50 (fR<|Jx.mk 0 0 0 g 0 0 0 0 0) C [],R]) ?_;generalize Jx.mk 0 0 0 g 0 0 0 0 0=U;refine(.g<|.bV [0] J call6 J J J J (Tl _ U []) ?_);rintro⟨o,A⟩ X _ - D ⟨p,_,rfl,hp⟩;refine .l (cs:=[.pointer none]) J Tryz.zeroValue26 J λy=>.store (cs' :=[.pointer p]) Tryz.sizeOf26 J J J J (i:=0) J (JV J) J J<|.w 4<|.l (cs:=[.pointer none,.slice none 0 0]) J Tryz.zeroValue78 J λbB=>.tk 0 5 J<|.w 6<|.bD J call21 J J J (MQ _ script) ?_;rintro E _ j ⟨bS,rfl,hbS⟩;refine .w 3<|.keep (.p [4,5,23] J)<|.bI 2 (Vy U) j J<|.pick [0,0,0,0] (J:_=[Bz 78 5 bB [],pc y [.pointer p] 26,Wu U E A,R]) ?_;have G:=hT.mono<|Fz.t k<|Fz.t l2<|Fz.t D j;refine .cz (τ:=UV Qr×UV So) (λs F hs=>hs=[Bz 78 5 bB s.2,pc y [.pointer p] 26,Wu U F s.1,R]) J (zR E script bS hlen hbS) J (λ_ _ _ h=>by rw[h];rfl) J ?_ ?_
 ·rintro l L K M x vs ⟨A',s⟩ ctl R' hs' c a rfl rfl;unfold H4;refine .w 2<|.n<|GG.begin 0 J<|.w 2<|.keep (.p [4,5,6] J)<|.bI 4 (Vy U) a J<|.g<|.dq J Tryz.isAgg26 J (i:=3) J J<|.m J J<|.bV [4] J call8 J J J J (C9 _ (G.mono<|Fz.t c a) U A' o p () (hp.mono<|Fz.t j<|Fz.t c a) x) ?_;rintro⟨rep,e,N⟩ H _ - d rfl;refine .pick [1,1,1,1,0,0] (J:_=[pt l<|V2 L,R',Bz 78 5 bB s,pc y [.pointer p] 26,Wu U H N,R])<|.w 14<|.i J (λhb=> ?_) λhb=> ?_
  ·refine .w 2 (.bO (cs:=[vI e]) (zc:=[vI 0]) J VI W3 Y3 J J J (by kernel_rfl) (by kernel_rfl) λP Q B S=> ?_);have hrep:QI 1 (Ex<|Z6 .i64) Q (some ⟨P,0,none⟩) 1 [e]:=QI.ofRow S (.cons Gf.mono J .nil) J J;refine .bC J call22 J J J (WX _ (G.mono<|Fz.t c<|Fz.t a<|Fz.t d B) qc [e] _ _ hrep) ?_;rintro u Y _ - I rfl;unfold Wx;exact .w 6<|.cc J call23 J J J (i:=2) J (H3 _ bB s u) λv T _ _ l10 _=>.w 3<|.cc J call24 J J J (i:=2) J (SJ _ bB v 10) λw V _ _ f _=>.w 2<|.bI 4 (Vy U) (Fz.t B<|Fz.t I<|Fz.t l10 f) J<|.bA<|RP.aI (Fz.t d<|Fz.t B<|Fz.t I<|Fz.t l10 f) J J
  ·unfold Wx;exact .w 5<|.cc J call23 J J J (i:=2) J (H3 _ bB s rep) λv T _ _ l10 _=>.w 3<|.cc J call24 J J J (i:=2) J (SJ _ bB v 10) λw V _ _ f _=>.w 2<|.bI 4 (Vy U) (Fz.t l10 f) J<|.bA<|RP.aI (Fz.t d<|Fz.t l10 f) J J
 ·rintro q K M ⟨A',s⟩ hs' c a he rfl;refine .w 4<|.cc (e:=some s) (g:=λs=>some (s,0)) J call25 J J J (i:=1) J (qI _ bB s) ?_;rintro s' H _ Z d rfl;exact .w 4<|.aE [(0,q)] results11 ⟨J,trivial⟩ (.tmp J<|.tmp J .nil) (i:=4) J (Fz.t k<|Fz.t l2<|Fz.t D<|Fz.t j<|Fz.t c<|Fz.t a d) J
end Go.Proofs.YtepbamgmocpemaaGreatDoor
end
section
set_option maxRecDepth 100000
set_option maxHeartbeats 4000000
namespace Go.Proofs.YtepbamgmocpemaaGreatDoor
open Go.Dec Go.Proofs.Tryz Go.Shelf Go.RowKit Go.Maps Go.Sort
def WS:H1 Bool:=(Xq JO.1).bind λr=>(if(r.1==JO.2) then some (r.2==0) else some false).bind λz=>some z
theorem C8(F0:Fz)(hT:Xz F0):KH Tryz.prog 5 [].toArray F0 WS (λr _ v=>v= .bool r):=by
 refine KH.enter func5 J ntmps5 J λr R=> ?_;unfold WS;refine .w 7<|.bD J call10 J J J (CG _)<|WJ λd a=>.w 10<|.bC J call11 J J J (LC _ (hT.mono a) JO.1) ?_;rintro⟨s,e⟩ f _ - l2 rfl;refine .w 11<|.cA J U9 J J<|.m J J<|.sL (b:=(s==JO.2)) 3 20 J (λhs z=> ?_) λz g c=> ?_
 ·exact .dr hs J J<|.m J J<|.dr hs J J<|.eql J J J<|.dv hs J J J<|.bz 3 J J (by kernel_rfl) Fz.r
 exact .w 3<|.dw results5 (.tmp J .nil) (i:=0) J (Fz.t a<|Fz.t l2 c) J
end Go.Proofs.YtepbamgmocpemaaGreatDoor
end
namespace Go.Proofs.YtepbamgmocpemaaGreatDoor.Ca
section
open Go.Dec
variable{f:Nat->Int}{a n b:Int}{j:Nat}
structure Zj where
 C:ZU
 Fills:List Int
variable{h:Zj}
abbrev Ev:=QF
abbrev zN:Nat->Int:=λ_=>0
def W8(n a b:Int):Bool:=decide (n≥a)&&decide (n<=b)
def Xk(x:Ev):Bool:=
 W8 x.Day 0 65536&&W8 x.Cask 0 1073741824&&
 (if x.Kind==0 then W8 x.Other 0 7&&W8 x.Where 0 7&&W8 x.Amount 1 1099511627776&&W8 x.Person 0 1073741824
  else if x.Kind==1||x.Kind==3 then W8 x.Amount 1 1099511627776
  else if x.Kind==2 then W8 x.Other 0 1073741824&&W8 x.Amount 1 1099511627776
  else if x.Kind==4 then W8 x.Where 0 7
  else if x.Kind==5||x.Kind==6 then W8 x.Person 0 1073741824&&W8 x.To 0 1073741824
  else if x.Kind==7 then W8 x.Person 0 1073741824
  else if x.Kind==8 then W8 x.Where 0 7 else false)
def UB(n:Int)(h:Zj):Zj:=if 0 < h.C.Amount then{h with C:={h.C with Age:=h.C.Age+n,Woods:=ZM h.C.Woods h.C.Wood.toNat<|h.C.Woods h.C.Wood.toNat+n,Places:=ZM h.C.Places h.C.Place.toNat (h.C.Places h.C.Place.toNat+n)}} else h
def Ye:UV Zj->Int->H1 Nat
 | [],_=>none
 | h::l,n=>if h.C.Number==n then some 0 else(Ye l n).map (·+1)
def BS(x:Int):UV Int->UV Int
 | []=>[x]
 | y::l=>if x < y then x::y::l else if x==y then y::l else y::BS x l
def O2(a b:UV Int):UV Int:=a.foldr BS b
def PI(f g:Nat->Int):Nat->Int:=λk=>if k < 8 then Jj (f k) (g k) else f k
def XH(h s:Zj)(n:Int):Zj:=
 if h.C.Amount==0 then{C:={h.C with Age:=s.C.Age,Woods:=s.C.Woods,Places:=s.C.Places,Amount:=h.C.Amount+n},Fills:=s.Fills}
 else{C:={h.C with Age:=Jj h.C.Age s.C.Age,Woods:=PI h.C.Woods s.C.Woods,Places:=PI h.C.Places s.C.Places,Amount:=h.C.Amount+n},Fills:=O2 h.Fills s.Fills}
def Xt(h:Zj)(n:Int):Zj:=if h.C.Amount - n==0 then{C:={h.C with Age:=0,Woods:=zN,Places:=zN,Amount:=0},Fills:=[]} else{h with C:={h.C with Amount:=h.C.Amount - n}}
def wB(x:Ev):Zj:=⟨⟨x.Cask,x.Other,x.Where,x.Amount,x.Person, -1,0,0,zN,zN⟩,[]⟩
def AM(n:Int):Zj:=⟨⟨0,0,0,0,0,0,0,0,zN,zN⟩,[n]⟩
def AN(l:UV Zj)(i:Nat)(c:Zj)(x:Ev)(num:Int):UV Zj ⊕ Int:=if c.C.Amount+x.Amount > c.C.Room then .inr 9 else .inl (l.set i<|XH c (AM num) x.Amount)
def PD(l:UV Zj)(i k:Nat)(c o:Zj)(x:Ev):UV Zj ⊕ Int:=
 if i==k then .inr 5
 else if c.C.Owner != o.C.Owner||decide (c.C.Creditor≥0)||decide (o.C.Creditor≥0) then .inr 11
 else if c.C.Amount < x.Amount then .inr 10
 else if o.C.Amount+x.Amount > o.C.Room then .inr 9
 else .inl ((l.set k<|XH o c x.Amount).set i<|Xt c x.Amount)
def AB(l:UV Zj)(i:Nat)(c:Zj)(x:Ev):UV Zj ⊕ Int:=
 match Ye l x.Other with
 | none=>.inr 4
 | some k=>match l[k]? with
  | none=>.inr 4
  | some o=>PD l i k c o x
def BZ(l:UV Zj)(i:Nat)(c:Zj)(x:Ev):UV Zj ⊕ Int:=if c.C.Creditor≥0 then .inr 11 else if c.C.Amount < x.Amount then .inr 10 else .inl (l.set i<|Xt c x.Amount)
def OZ(l:UV Zj)(i:Nat)(c:Zj)(x:Ev):UV Zj ⊕ Int:=.inl<|l.set i {c with C:={c.C with Place:=x.Where}}
def P7(l:UV Zj)(i:Nat)(c:Zj)(x:Ev):UV Zj ⊕ Int:=if c.C.Owner != x.Person||decide (c.C.Creditor≥0) then .inr 11 else if x.To==c.C.Owner then .inr 5 else .inl (l.set i {c with C:={c.C with Owner:=x.To}})
def DG(l:UV Zj)(i:Nat)(c:Zj)(x:Ev):UV Zj ⊕ Int:=if c.C.Owner != x.Person then .inr 11 else if c.C.Creditor≥0 then .inr 5 else .inl (l.set i {c with C:={c.C with Creditor:=x.To}})
def RG(l:UV Zj)(i:Nat)(c:Zj)(x:Ev):UV Zj ⊕ Int:=if c.C.Creditor != x.Person then .inr 11 else .inl (l.set i {c with C:={c.C with Creditor:= -1}})
def RR(l:UV Zj)(i:Nat)(c:Zj)(x:Ev):UV Zj ⊕ Int:=if c.C.Amount > 0 then .inr 6 else .inl (l.set i {c with C:={c.C with Wood:=x.Where}})
def XA(l:UV Zj)(i:Nat)(c:Zj)(x:Ev)(num:Int):UV Zj ⊕ Int:=
 if x.Kind==1 then AN l i c x num
 else if x.Kind==2 then AB l i c x
 else if x.Kind==3 then BZ l i c x
 else if x.Kind==4 then OZ l i c x
 else if x.Kind==5 then P7 l i c x
 else if x.Kind==6 then DG l i c x
 else if x.Kind==7 then RG l i c x
 else if x.Kind==8 then RR l i c x
 else .inl l
def L9(l:UV Zj)(x:Ev):UV Zj ⊕ Int:=if(Ye l x.Cask).isSome then .inr 5 else if 256<=l.length then .inr 9 else .inl (l++[wB x])
def Ft(l:UV Zj)(x:Ev)(num:Int):UV Zj ⊕ Int:=
 if x.Kind==0 then L9 l x
 else match Ye l x.Cask with
  | none=>.inr 4
  | some i=>match l[i]? with
   | none=>.inr 4
   | some c=>XA l i c x num
structure A7 where
 all:List Zj
 last:Int
def Uv(n:Nat)(s:A7)(x:Ev):A7 ⊕ Int:=
 if !Xk x then .inr 1 else if x.Day < s.last then .inr 7
 else match Ft (s.all.map<|UB<|x.Day - s.last) x n with
  | .inl all=>.inl ⟨all,x.Day⟩
  | .inr e=>.inr e
def CD(day:Int):UV Ev->Nat->A7->(A7 ⊕ Int)×Nat
 | [],n,s=>(.inl s,n)
 | x::l,n,s=>if x.Day<=day then match Uv n s x with
   | .inl s' =>CD day l (n+1) s'
   | .inr e=>(.inr e,n)
  else(.inl s,n)
def fW(day:Int)(s:A7):UV Zj:=s.all.map<|UB<|day - s.last
def RV(day:Int)(l:UV Ev)(n:Nat)(s:A7):(UV Zj ⊕ Int)×Nat:=match CD day l n s with
 | (.inl s',k)=>(.inl<|fW day s',k)
 | (.inr e,k)=>(.inr e,k)
def Ym(l:UV Ev)(day:Int):(UV Zj ⊕ Int)×Nat:=if l.length > 4096 then(.inr 3,0) else if !W8 day 0 65536 then(.inr 2,0) else RV day l 0 ⟨[],0⟩
def ym(f:Nat->Int):Int:=f 0+f 1+f 2+f 3+f 4+f 5+f 6+f 7
structure LO(age:Int)(f:Nat->Int):Prop where
 pos:∀k,0<=f k
 out:∀k,8<=k->f k=0
 sum:ym f<=age
theorem LO.le(h:LO a f)(k:Nat):0<=f k/\f k<=a:=by
 refine⟨h.pos k,?_⟩;have h0:=h.pos 0;have h1:=h.pos 1;have h2:=h.pos 2;have h3:=h.pos 3;have h4:=h.pos 4;have h5:=h.pos 5;have h6:=h.pos 6;have h7:=h.pos 7;have hs:=h.sum;unfold ym at hs
 match k with
 | 0=>omega
 | 1=>omega
 | 2=>omega
 | 3=>omega
 | 4=>omega
 | 5=>omega
 | 6=>omega
 | 7=>omega
 | k+8=>have:=h.out (k+8) (by omega);omega
theorem LO.zero(h:0<=a):LO a zN:=⟨λ_=>nQ 0,λ_ _=>rfl,by simpa[ym] using h⟩
theorem WL{v:Int}:ZM f j v j=v:=by simp[ZM]
theorem Xb{k:Nat}{v:Int}(h:k≠j):ZM f j v k=f k:=by
 unfold ZM
 have:Nat.beq k j=false:=by
  cases hb:Nat.beq k j with
  | false=>rfl
  | true=>exact absurd (rW hb) h
 rw[this]
theorem LO.rn(h:LO a f)(hj:j < 8)(hn:0<=n):LO (a+n) (ZM f j<|f j+n):=by
 refine⟨λk=> ?_,λk hk=> ?_,?_⟩
 ·by_cases e:k=j
  ·subst e;rw[WL];have:=h.pos k;omega
  ·rw[Xb e];exact h.pos k
 ·rw[Xb<|by omega];exact h.out k hk
 ·have hs:=h.sum;unfold ym at hs ⊢
  match j,hj with
  | 0,_=>simp[ZM];omega
  | 1,_=>simp[ZM];omega
  | 2,_=>simp[ZM];omega
  | 3,_=>simp[ZM];omega
  | 4,_=>simp[ZM];omega
  | 5,_=>simp[ZM];omega
  | 6,_=>simp[ZM];omega
  | 7,_=>simp[ZM];omega
theorem Ru:Jj a b<=a/\Jj a b<=b/\(Jj a b=a∨Jj a b=b):=by unfold Jj;split<;>omega
theorem LO.min{g:Nat->Int}(h:LO a f)(h' :LO b g):LO (Jj a b) (PI f g):=by
 refine⟨λk=> ?_,λk hk=> ?_,?_⟩
 ·unfold PI;have:=h.pos k;have:=h'.pos k;split
  ·have:=Ru (a:=f k) (b:=g k);omega
  ·exact h.pos k
 ·unfold PI;rw[RW<|by omega];exact h.out k hk
 ·have hs:=h.sum;have hs' :=h'.sum;unfold ym at hs hs' ⊢
  have e:∀k,k < 8->PI f g k<=f k/\PI f g k<=g k:=λk hk=>by
   unfold PI;rw[TO hk];have:=Ru (a:=f k) (b:=g k);omega
  have e0:=e 0 (by decide);have e1:=e 1 (by decide);have e2:=e 2 (by decide);have e3:=e 3 (by decide);have e4:=e 4 (by decide);have e5:=e 5 (by decide);have e6:=e 6 (by decide);have e7:=e 7 (by decide);have:=Ru (a:=a) (b:=b);omega
structure Ec(last:Int)(n:Nat)(h:Zj):Prop where
 num:0<=h.C.Number/\h.C.Number<=1073741824
 wood:0<=h.C.Wood/\h.C.Wood<=7
 place:0<=h.C.Place/\h.C.Place<=7
 room:1<=h.C.Room/\h.C.Room<=1099511627776
 owner:0<=h.C.Owner/\h.C.Owner<=1073741824
 cred: -1<=h.C.Creditor/\h.C.Creditor<=1073741824
 amt:0<=h.C.Amount/\h.C.Amount<=h.C.Room
 age:0<=h.C.Age/\h.C.Age<=last
 woods:LO h.C.Age h.C.Woods
 places:LO h.C.Age h.C.Places
 empty:h.C.Amount=0->h.C.Age=0/\h.C.Woods=zN/\h.C.Places=zN/\h.Fills=[]
 fills:h.Fills.Pairwise (·< ·)/\∀f∈h.Fills,0<=f/\f < n
 some:0 < h.C.Amount->h.Fills≠[]
structure A9(last:Int)(n:Nat)(l:List Zj):Prop where
 each:∀h∈l,Ec last n h
 nums:(l.map (·.C.Number)).Nodup
 few:l.length<=256
structure Hl(n:Nat)(s:A7):Prop where
 day:0<=s.last/\s.last<=65536
 ok:A9 s.last n s.all
theorem Yk:W8 n a b=true↔a<=n/\n<=b:=by simp[W8]
theorem Ih{last:Int}{m:Nat}(ho:Ec last m h)(hn:0<=n):Ec (last+n) m (UB n h):=by
 unfold UB;split
 ·rename_i hp;refine⟨ho.num,ho.wood,ho.place,ho.room,ho.owner,ho.cred,ho.amt,⟨by have:=ho.age;simp;omega,by have:=ho.age;simp;omega⟩,ho.woods.rn (by have:=ho.wood;omega) hn,ho.places.rn (by have:=ho.place;omega) hn,λe=> ?_,ho.fills,ho.some⟩;have:h.C.Amount=0:=e;omega
 ·exact⟨ho.num,ho.wood,ho.place,ho.room,ho.owner,ho.cred,ho.amt,⟨ho.age.1,by have:=ho.age.2;omega⟩,ho.woods,ho.places,ho.empty,ho.fills,ho.some⟩
theorem Ly:(UB n h).C.Number=h.C.Number:=by unfold UB;split<;>rfl
theorem PG{last:Int}{m:Nat}{l:UV Zj}(ho:A9 last m l)(hn:0<=n):A9 (last+n) m (l.map<|UB n):=by
 refine⟨λh hh=> ?_,?_,by simpa using ho.few⟩
 ·obtain⟨h0,h1,rfl⟩:=ny.1 hh;exact Ih (ho.each h0 h1) hn
 ·rw[eB];have:((λx:Zj=>x.C.Number)∘UB n)=λx=>x.C.Number:=funext λx=>Ly;rw[this];exact ho.nums
theorem ja:UB b (UB a h)=UB (a+b) h:=by
 unfold UB;by_cases hp:0 < h.C.Amount
 ·simp only[hp,Rw]
  have e:∀(f:Nat->Int) (j:Nat),ZM (ZM f j<|f j+a) j (ZM f j (f j+a) j+b)=ZM f j (f j+(a+b)):=λf j=>by
   funext k;unfold ZM;cases hk:Nat.beq k j with
   | true=>simp;omega
   | false=>simp
  simp only[e];congr 2;omega
 ·simp only[hp,T2]
end
section
open Go.Dec
variable{last n:Int}{x:Ev}{l:UV Zj}{h:Zj}{m:Nat}
theorem Nx{x y:Int}:∀{l:UV Int},y∈BS x l↔y=x∨y∈l
 | []=>by simp[BS]
 | z::l=>by
  simp only[BS];split
  ·simp
  ·split
   ·rename_i h;have:=(mB.1 h:x=z);subst this;simp
   ·simp only[j9,Nx (l:=l)];constructor
    ·rintro(h | h | h)
     ·exact .inr<|.inl h
     ·exact .inl h
     ·exact .inr<|.inr h
    ·rintro(h | h | h)
     ·exact .inr<|.inl h
     ·exact .inl h
     ·exact .inr<|.inr h
theorem Fa{x:Int}:∀{l:UV Int},l.Pairwise (·< ·)->(BS x l).Pairwise (·< ·)
 | [],_=>by simp[BS]
 | z::l,h=>by
  have hz:=aT.1 h;simp only[BS];split
  ·rename_i hlt;refine aT.2 ⟨λa ha=> ?_,h⟩;rcases j9.1 ha with rfl | ha
   ·exact hlt
   ·have:=hz.1 a ha;omega
  ·split
   ·exact h
   ·rename_i h1 h2;have hne:x≠z:=λe=>h2 (by simp[e]);refine aT.2 ⟨λa ha=> ?_,Fa hz.2⟩;rcases Nx.1 ha with rfl | ha
    ·omega
    ·exact hz.1 a ha
theorem Nv{a b:UV Int}{y:Int}:y∈O2 a b↔y∈a∨y∈b:=by
 unfold O2
 induction a with
 | nil=>simp
 | cons x a ih=>simp only[List.foldr_cons,Nx,ih,j9,or_assoc]
theorem qd{a b:UV Int}(h:b.Pairwise (·< ·)):(O2 a b).Pairwise (·< ·):=by
 unfold O2
 induction a with
 | nil=>exact h
 | cons x a ih=>exact Fa ih
theorem BG:∀{a b:UV Int},a.Pairwise (·< ·)->b.Pairwise (·< ·)->(∀x,x∈a↔x∈b)->a=b
 | [],[],_,_,_=>rfl
 | [],y::b,_,_,h=>by have:=(h y).2 (by simp);simp at this
 | x::a,[],_,_,h=>by have:=(h x).1 (by simp);simp at this
 | x::a,y::b,ha,hb,h=>by
  have ha' :=aT.1 ha;have hb' :=aT.1 hb
  have exy:x=y:=by
   have h1:=(h x).1 (by simp);have h2:=(h y).2 (by simp);rcases j9.1 h1 with e | h1
   ·exact e
   ·rcases j9.1 h2 with e | h2
    ·exact e.symm
    ·have:=hb'.1 x h1;have:=ha'.1 y h2;omega
  subst exy;congr 1;refine BG ha'.2 hb'.2 λz=> ?_;constructor
  ·intro hz;have:=(h z).1<|x8 _ hz;rcases j9.1 this with rfl | this
   ·have:=ha'.1 z hz;omega
   ·exact this
  ·intro hz;have:=(h z).2<|x8 _ hz;rcases j9.1 this with rfl | this
   ·have:=hb'.1 z hz;omega
   ·exact this
theorem Sn:∀{l:UV Zj} {i:Nat},Ye l n=some i->∃h,l[i]? =some h/\h.C.Number=n
 | [],_,h=>by cases h
 | h::l,i,e=>by
  simp only[Ye] at e
  split at e
  ·rename_i hb;cases e;exact⟨h,rfl,mB.1 hb⟩
  ·cases hf:Ye l n with
   | none=>rw[hf] at e;cases e
   | some j=>
    rw[hf] at e
    simp only[x7,BY] at e
    subst e;obtain⟨h',h1,h2⟩:=Sn hf;exact⟨h',by simpa using h1,h2⟩
theorem Sp:∀{l:UV Zj},Ye l n=none->∀h∈l,h.C.Number≠n
 | [],_,_,h=>by cases h
 | h::l,e,h',hm=>by
  simp only[Ye] at e
  split at e
  ·cases e
  ·rename_i hb;cases hf:Ye l n with
   | some j=>rw[hf] at e;cases e
   | none=>
    rcases j9.1 hm with rfl | hm
    ·intro e';exact hb<|by simp[e']
    ·exact Sp hf h' hm
theorem Ec.up{n:Nat}(ho:Ec last n h):Ec last (n+1) h:={ho with fills:=⟨ho.fills.1,λf hf=>by have:=ho.fills.2 f hf;omega⟩}
theorem A9.set{n:Nat}{i:Nat}{h':Zj}(ho:A9 last n l)(hi:l[i]? =some h)(hh:Ec last n h')(hn:h'.C.Number=h.C.Number):A9 last n (l.set i h'):=by
 refine⟨λx hx=> ?_,?_,by simpa using ho.few⟩
 ·rcases List.mem_or_eq_of_mem_set hx with h1 | h1
  ·exact ho.each x h1
  ·rw[h1];exact hh
 ·have:(l.set i h').map (·.C.Number)=l.map (·.C.Number):=by
   apply mD;intro j;simp only[nV,mS];by_cases e:i=j
   ·subst e;have hlt:=(AC.1 hi).1;have hh:=(AC.1 hi).2;simp[hlt,hn,hh]
   ·simp[e]
  rw[this];exact ho.nums
theorem A9.up{n:Nat}(ho:A9 last n l):A9 last (n+1) l:=⟨λh hh=>(ho.each h hh).up,ho.nums,ho.few⟩
theorem kC{s:Zj}(ho:Ec last m h)(hn:1<=n)(hr:h.C.Amount+n<=h.C.Room)(ha:0<=s.C.Age/\s.C.Age<=last)(hw:LO s.C.Age s.C.Woods)(hp:LO s.C.Age s.C.Places)(hf:s.Fills.Pairwise (·< ·)/\∀f∈s.Fills,0<=f/\f < m)(hne:s.Fills≠[]):Ec last m (XH h s n):=by
 unfold XH;split
 ·rename_i h0;have h0' :h.C.Amount=0:=mB.1 h0;refine⟨ho.num,ho.wood,ho.place,ho.room,ho.owner,ho.cred,⟨by show 0<=h.C.Amount+n;omega,hr⟩,ha,hw,hp,λe=> ?_,hf,λ_=>hne⟩;have:h.C.Amount+n=0:=e;omega
 ·rename_i h0
  have hpos:0 < h.C.Amount:=by
   have:=ho.amt.1;have:h.C.Amount≠0:=λe=>h0 (by simp[e]);omega
  refine⟨ho.num,ho.wood,ho.place,ho.room,ho.owner,ho.cred,⟨by show 0<=h.C.Amount+n;omega,hr⟩,?_,ho.woods.min hw,ho.places.min hp,λe=> ?_,?_,λ_=> ?_⟩
  ·have:=ho.age;have:=Ru (a:=h.C.Age) (b:=s.C.Age);show 0<=Jj _ _/\Jj _ _<=last;omega
  ·have:h.C.Amount+n=0:=e;omega
  ·refine⟨qd hf.1,λf h1=> ?_⟩;rcases Nv.1 h1 with h1 | h1
   ·exact ho.fills.2 f h1
   ·exact hf.2 f h1
  ·intro e;have h1:=ho.some hpos;cases hh:h.Fills with
   | nil=>exact h1 hh
   | cons a t=>
    have:a∈O2 h.Fills s.Fills:=Nv.2 (.inl (by rw[hh];simp));have e' :O2 h.Fills s.Fills=[]:=e;rw[e'] at this;cases this
theorem OI(ho:Ec last m h)(hn:1<=n)(hr:n<=h.C.Amount)(hl:0<=last):Ec last m (Xt h n):=by
 unfold Xt;split
 ·have hroom:=ho.room;exact⟨ho.num,ho.wood,ho.place,ho.room,ho.owner,ho.cred,⟨nQ 0,by show(0:Int)<=h.C.Room;omega⟩,⟨nQ 0,hl⟩,LO.zero<|nQ 0,LO.zero<|nQ 0,λ_=>⟨rfl,rfl,rfl,rfl⟩,⟨List.Pairwise.nil,λ_ h=>by cases h⟩,λh=>by have h' :(0:Int) < 0:=h;omega⟩
 ·rename_i h0;have hne:h.C.Amount - n≠0:=λe=>h0 (by simp[e]);have ha:=ho.amt;refine⟨ho.num,ho.wood,ho.place,ho.room,ho.owner,ho.cred,⟨by show 0<=h.C.Amount - n;omega,by show h.C.Amount - n<=h.C.Room;omega⟩,ho.age,ho.woods,ho.places,λe=>absurd e hne,ho.fills,λ_=>ho.some<|by omega⟩
theorem MA(h:Xk x=true):(0<=x.Day/\x.Day<=65536)/\(0<=x.Cask/\x.Cask<=1073741824):=by
 simp only[Xk,AT,Yk] at h
 exact⟨h.1.1,h.1.2⟩
theorem de(h:Xk x=true)(k:x.Kind=0):(0<=x.Other/\x.Other<=7)/\(0<=x.Where/\x.Where<=7)/\(1<=x.Amount/\x.Amount<=1099511627776)/\(0<=x.Person/\x.Person<=1073741824):=by
 simp only[Xk,AT,Yk,k,BEq.rfl,Rw] at h
 obtain⟨_,⟨⟨⟨h1,h2⟩,h3⟩,h4⟩⟩:=h;exact⟨h1,h2,h3,h4⟩
theorem OS(h:Xk x=true):(if x.Kind==0 then W8 x.Other 0 7&&W8 x.Where 0 7&&W8 x.Amount 1 1099511627776&&W8 x.Person 0 1073741824
 else if x.Kind==1||x.Kind==3 then W8 x.Amount 1 1099511627776
 else if x.Kind==2 then W8 x.Other 0 1073741824&&W8 x.Amount 1 1099511627776
 else if x.Kind==4 then W8 x.Where 0 7
 else if x.Kind==5||x.Kind==6 then W8 x.Person 0 1073741824&&W8 x.To 0 1073741824
 else if x.Kind==7 then W8 x.Person 0 1073741824
 else if x.Kind==8 then W8 x.Where 0 7 else false)=true:=((AT _ _).mp h).2
theorem MB(h:Xk x=true)(k:x.Kind=1∨x.Kind=2∨x.Kind=3):1<=x.Amount/\x.Amount<=1099511627776:=by
 have h:=OS h;rcases k with k | k | k<;>rw[k] at h
 ·exact Yk.1 h
 ·exact Yk.1 ((AT _ _).mp h).2
 ·exact Yk.1 h
theorem fU(h:Xk x=true)(k:x.Kind=4∨x.Kind=8):0<=x.Where/\x.Where<=7:=by
 have h:=OS h;rcases k with k | k<;>rw[k] at h
 ·exact Yk.1 h
 ·exact Yk.1 h
theorem fT(h:Xk x=true)(k:x.Kind=5∨x.Kind=6):0<=x.To/\x.To<=1073741824:=by
 have h:=OS h;rcases k with k | k<;>rw[k] at h
 ·exact Yk.1 ((AT _ _).mp h).2
 ·exact Yk.1 ((AT _ _).mp h).2
theorem kinds(h:Xk x=true):x.Kind=0∨x.Kind=1∨x.Kind=2∨x.Kind=3∨x.Kind=4∨x.Kind=5∨x.Kind=6∨x.Kind=7∨x.Kind=8:=by
 have h:=OS h;by_cases k0:x.Kind=0
 ·exact .inl k0
 rw[RW<|by simpa using k0] at h
 by_cases k1:x.Kind=1
 ·exact .inr<|.inl k1
 by_cases k3:x.Kind=3
 ·exact .inr<|.inr<|.inr<|.inl k3
 rw[RW<|by simp[k1,k3]] at h
 by_cases k2:x.Kind=2
 ·exact .inr<|.inr<|.inl k2
 rw[RW<|by simpa using k2] at h
 by_cases k4:x.Kind=4
 ·exact .inr<|.inr<|.inr<|.inr<|.inl k4
 rw[RW<|by simpa using k4] at h
 by_cases k5:x.Kind=5
 ·exact .inr<|.inr<|.inr<|.inr<|.inr<|.inl k5
 by_cases k6:x.Kind=6
 ·exact .inr<|.inr<|.inr<|.inr<|.inr<|.inr<|.inl k6
 rw[RW<|by simp[k5,k6]] at h
 by_cases k7:x.Kind=7
 ·exact .inr<|.inr<|.inr<|.inr<|.inr<|.inr<|.inr<|.inl k7
 rw[RW<|by simpa using k7] at h
 by_cases k8:x.Kind=8
 ·exact .inr<|.inr<|.inr<|.inr<|.inr<|.inr<|.inr<|.inr k8
 rw[RW<|by simpa using k8] at h
 cases h
section
variable{last:Int}{m:Nat}{l l' :UV Zj}{x:Ev}{i:Nat}{c:Zj}
theorem kL(ho:A9 last m l)(hl:0<=last)(hv:Xk x=true)(hk:x.Kind=0)(h:L9 l x= .inl l'):A9 last (m+1) l' :=by
 unfold L9 at h
 split at h
 ·cases h
 ·rename_i hf;split at h
  ·cases h
  ·rename_i hlen;cases h;obtain⟨e1,e2,e3,e4⟩:=de hv hk;have e0:=(MA hv).2;refine⟨λy hy=> ?_,?_,by simp;omega⟩
   ·rcases mH.1 hy with hy | hy
    ·exact(ho.each y hy).up
    ·simp only[nx] at hy
     subst hy;exact⟨e0,e1,e2,e3,e4,by simp[wB],⟨nQ 0,by show(0:Int)<=x.Amount;omega⟩,⟨nQ 0,hl⟩,LO.zero<|nQ 0,LO.zero<|nQ 0,λ_=>⟨rfl,rfl,rfl,rfl⟩,⟨List.Pairwise.nil,λ_ h=>by cases h⟩,λh=>by have h' :(0:Int) < 0:=h;omega⟩
   ·rw[List.map_append,List.nodup_append];refine⟨ho.nums,by simp,λa ha b hb=> ?_⟩;simp only[s4,eY,nx] at hb
    obtain⟨y,hy,rfl⟩:=ny.1 ha;subst hb;have hf' :Ye l x.Cask=none:=by simpa using hf
    exact Sp hf' y hy
theorem kT(ho:A9 last m l)(hl:0<=last)(hc:l[i]? =some c)(ha:1<=x.Amount)(h:AN l i c x m= .inl l'):A9 last (m+1) l' :=by
 have hcm:=ho.each c<|s8 hc;unfold AN at h
 split at h
 ·cases h
 ·rename_i hroom;cases h;refine(ho.up).set hc (kC hcm.up ha (by omega) ⟨nQ 0,hl⟩ (LO.zero<|nQ 0) (LO.zero<|nQ 0) ⟨by simp[AM],λf hf=> ?_⟩<|by simp[AM]) ?_
  ·simp only[AM,nx] at hf
   subst hf;omega
  ·unfold XH;split<;>rfl
theorem kB(ho:A9 last m l)(hl:0<=last)(hc:l[i]? =some c)(ha:1<=x.Amount)(h:AB l i c x= .inl l'):A9 last (m+1) l' :=by
 have hcm:=ho.each c<|s8 hc;unfold AB at h
 split at h
 ·cases h
 ·rename_i k hfk;split at h
  ·cases h
  ·rename_i o hko;have hom:=ho.each o<|s8 hko;unfold PD at h
   split at h
   ·cases h
   ·rename_i hik;have hik' :i≠k:=λe=>hik (by simp[e]);split at h
    ·cases h
    ·split at h
     ·cases h
     ·split at h
      ·cases h
      ·rename_i hsh hfu;cases h;have hpos:0 < c.C.Amount:=by omega
       have h1:=(ho.up).set hko (kC (s:=c) hom.up ha (by omega) hcm.age hcm.woods hcm.places hcm.up.fills<|hcm.some hpos) (by unfold XH;split<;>rfl);refine h1.set (h:=c) ?_ (OI hcm.up ha (by omega) hl) (by unfold Xt;split<;>rfl);rw[nO λe=>hik' e.symm];exact hc
theorem vp(ho:A9 last m l)(hl:0<=last)(hc:l[i]? =some c)(ha:1<=x.Amount)(h:BZ l i c x= .inl l'):A9 last (m+1) l' :=by
 have hcm:=ho.each c<|s8 hc;unfold BZ at h
 split at h
 ·cases h
 ·split at h
  ·cases h
  ·cases h;exact(ho.up).set hc (OI hcm.up ha (by omega) hl) (by unfold Xt;split<;>rfl)
theorem gD(ho:A9 last m l)(hl:0<=last)(hv:Xk x=true)(h0:x.Kind≠0)(hc:l[i]? =some c)(h:XA l i c x m= .inl l'):A9 last (m+1) l' :=by
 have hcm:=ho.each c<|s8 hc;rcases kinds hv with k | k | k | k | k | k | k | k | k
 ·exact absurd k h0
 ·have h:AN l i c x m= .inl l' :=by rw[<-h];unfold XA;rw[k];rfl
  exact kT ho hl hc (MB hv<|.inl k).1 h
 ·have h:AB l i c x= .inl l' :=by rw[<-h];unfold XA;rw[k];rfl
  exact kB ho hl hc (MB hv<|.inr<|.inl k).1 h
 ·have h:BZ l i c x= .inl l' :=by rw[<-h];unfold XA;rw[k];rfl
  exact vp ho hl hc (MB hv<|.inr<|.inr k).1 h
 ·have h:OZ l i c x= .inl l' :=by rw[<-h];unfold XA;rw[k];rfl
  cases h;exact(ho.up).set hc {hcm.up with place:=fU hv (.inl k)} rfl
 ·have h:P7 l i c x= .inl l' :=by rw[<-h];unfold XA;rw[k];rfl
  unfold P7 at h
  split at h
  ·cases h
  ·split at h
   ·cases h
   ·cases h;exact(ho.up).set hc {hcm.up with owner:=fT hv (.inl k)} rfl
 ·have h:DG l i c x= .inl l' :=by rw[<-h];unfold XA;rw[k];rfl
  unfold DG at h
  split at h
  ·cases h
  ·split at h
   ·cases h
   ·cases h;have:=fT hv<|.inr k;exact(ho.up).set hc {hcm.up with cred:=⟨by show -1<=x.To;omega,this.2⟩} rfl
 ·have h:RG l i c x= .inl l' :=by rw[<-h];unfold XA;rw[k];rfl
  unfold RG at h
  split at h
  ·cases h
  ·cases h;exact(ho.up).set hc {hcm.up with cred:=⟨nQ _,by show(-1:Int)<=_;omega⟩} rfl
 ·have h:RR l i c x= .inl l' :=by rw[<-h];unfold XA;rw[k];rfl
  unfold RR at h
  split at h
  ·cases h
  ·cases h;exact(ho.up).set hc {hcm.up with wood:=fU hv (.inr k)} rfl
theorem vq(ho:A9 last m l)(hl:0<=last)(hv:Xk x=true)(h:Ft l x m= .inl l'):A9 last (m+1) l' :=by
 unfold Ft at h
 split at h
 ·rename_i hk;exact kL ho hl hv (mB.1 hk) h
 ·rename_i hk;split at h
  ·cases h
  ·split at h
   ·cases h
   ·rename_i c hc;exact gD ho hl hv (λe=>hk<|by simp[e]) hc h
end
theorem TF{n:Nat}{s s' :A7}(ho:Hl n s)(h:Uv n s x= .inl s'):Hl (n+1) s'/\Xk x=true/\s.last<=x.Day/\s'.last=x.Day:=by
 unfold Uv at h
 split at h
 ·cases h
 ·rename_i hv;have hv:Xk x=true:=by simpa using hv
  split at h
  ·cases h
  ·rename_i hd;split at h
   ·rename_i all hall;cases h;have hb:=(MA hv).1;have h1:=PG ho.ok (n:=x.Day - s.last) (by omega);have e:s.last+(x.Day - s.last)=x.Day:=by omega
    rw[e] at h1
    exact⟨⟨hb,vq h1 hb.1 hv hall⟩,hv,by omega,rfl⟩
   ·cases h
theorem Hl.start:Hl 0 ⟨[],0⟩:=⟨⟨nQ 0,by decide⟩,⟨λ_ h=>(by cases h),List.nodup_nil,by simp⟩⟩
end
section
open Go.Dec
theorem Aa{n:Int}:∀{l:UV Int} (a:Int),l.Pairwise (·< ·)->(∀f∈l,a<=f/\f < n)->a<=n->(l.length:Int)<=n - a
 | [],a,_,_,h=>by simp;omega
 | x::l,a,h,hb,_=>by
  have h' :=aT.1 h;have hx:=hb x (by simp);have:=Aa (l:=l) (x+1) h'.2 (λf hf=>⟨by have:=h'.1 f hf;omega,(hb f<|x8 _ hf).2⟩) (by omega);simp only[s6];omega
def RZ(i:Nat)(f g:Nat->Int):Nat->Int:=λk=>if k < i then Jj (f k) (g k) else f k
theorem L7{i:Nat}{f g:Nat->Int}:ZM (RZ i f g) i (Jj (f i)<|g i)=RZ (i+1) f g:=by
 funext k;by_cases e:k=i
 ·subst e;rw[WL];unfold RZ;rw[TO<|by omega]
 ·rw[Xb e];unfold RZ;by_cases h:k < i
  ·rw[TO h,TO<|by omega]
  ·rw[RW h,RW<|by omega]
theorem vJ{f g:Nat->Int}:RZ 0 f g=f:=by funext k;unfold RZ;rw[RW<|by omega]
theorem dc{x:Ev}(h:Xk x=true):0<=x.Day/\x.Day<=65536:=(MA h).1
theorem EI{day:Int}:∀(l:UV Ev) (n:Nat) (s s' :A7) (k:Nat),Hl n s->s.last<=day->CD day l n s=(.inl s',k)->Hl k s'/\s'.last<=day/\n<=k/\k<=n+l.length
 | [],n,s,s',k,ho,hd,h=>by
  simp only[CD,bY,nz] at h
  obtain⟨rfl,rfl⟩:=h;exact⟨ho,hd,IN _,by simp⟩
 | x::l,n,s,s',k,ho,hd,h=>by
  simp only[CD] at h
  by_cases hx:x.Day<=day
  ·rw[TO hx] at h
   cases hs:Uv n s x with
   | inl s1=>
    rw[hs] at h
    obtain⟨h1,_,_,h4⟩:=TF ho hs;obtain⟨g1,g2,g3,g4⟩:=EI l (n+1) s1 s' k h1 (by omega) h;exact⟨g1,g2,by omega,by simp;omega⟩
   | inr e=>rw[hs] at h;cases h
  ·rw[RW hx] at h
   simp only[bY,nz] at h
   obtain⟨rfl,rfl⟩:=h;exact⟨ho,hd,IN _,by simp⟩
end
section
open Go.Dec
variable{c:QJ}{t:Int}{A1:UV QJ}{n:Nat}{h:Zj}
abbrev FM:=UV<|UV<|Int×Bool
variable{A3:FM}
def UF(c:QJ)(F:UV Int):Zj:=⟨⟨c.number,c.wood,c.place,c.room,c.owner,c.creditor,c.amount,c.times.age,c.times.woods,c.times.places⟩,F⟩
def FR(A3:FM)(p:H1 Nat)(F:UV Int):Prop:=match p with
 | none=>F=[]
 | some j=>∃l,A3[j]? =some l/\(l.map Prod.fst).Nodup/\∀x,x∈F↔x∈l.map Prod.fst
structure CR(t:Int)(n:Nat)(A3:FM)(c:QJ)(h:Zj):Prop where
 since:0<=c.since/\c.since<=t
 ok:Ec c.since n (UF c h.Fills)
 eq:h=UB (t - c.since) (UF c h.Fills)
 fills:FR A3 c.fills h.Fills
structure PR(t:Int)(n:Nat)(all:List Zj)(A1:List QJ)(A3:FM)(m:List (Int×Option Nat)):Prop where
 len:A1.length=all.length
 each:∀(k:Nat) (c:QJ) (h:Zj),A1[k]? =some c->all[k]? =some h->CR t n A3 c h
 map:m=A1.mapIdx (λk c=>(c.number,some k))
 apart:∀(i j:Nat) (ci cj:QJ) (q:Nat),A1[i]? =some ci->A1[j]? =some cj->ci.fills=some q->cj.fills=some q->i=j
theorem Ci{n:Int}:(UB n h).Fills=h.Fills:=by unfold UB;split<;>rfl
theorem TS:UB 0 h=h:=by
 unfold UB;split
 ·have e:∀(f:Nat->Int) (j:Nat),ZM f j (f j)=f:=λf j=>by
   funext k;by_cases e:k=j
   ·subst e;rw[WL]
   ·rw[Xb e]
  simp only[Int.add_zero,e]
 ·rfl
theorem CR.number(r:CR t n A3 c h):h.C.Number=c.number:=by rw[r.eq,Ly];rfl
theorem CR.shift{t':Int}(r:CR t n A3 c h)(le:t<=t'):CR t' n A3 c (UB (t' - t) h):=by
 refine⟨⟨r.since.1,by have:=r.since.2;omega⟩,?_,?_,?_⟩
 ·rw[Ci];exact r.ok
 ·rw[Ci]
  conv=>lhs;rw[r.eq]
  rw[ja];congr 1;omega
 ·rw[Ci];exact r.fills
theorem PR.shift{t':Int}{all:UV Zj}{m:UV (Int×H1 Nat)}(r:PR t n all A1 A3 m)(le:t<=t'):PR t' n (all.map<|UB<|t' - t) A1 A3 m:=by
 refine⟨by simpa using r.len,λk c h hc hh=> ?_,r.map,r.apart⟩;rw[nV] at hh
 cases h0:all[k]? with
 | none=>rw[h0] at hh;cases hh
 | some h1=>
  rw[h0] at hh
  simp only[x7,BY] at hh
  subst hh;exact(r.each k c h1 hc h0).shift le
def XG(t:Int)(c:QJ):QJ:=if 0 < c.amount then{c with since:=t,times:=⟨c.times.age+(t - c.since),ZM c.times.woods c.wood.toNat<|c.times.woods c.wood.toNat+(t - c.since),ZM c.times.places c.place.toNat<|c.times.places c.place.toNat+(t - c.since)⟩} else{c with since:=t}
theorem IU{F:UV Int}:UF (XG t c) F=UB (t - c.since) (UF c F):=by
 unfold XG UB;by_cases h:0 < c.amount
 ·rw[TO h,TO<|show 0 < (UF c F).C.Amount from h];rfl
 ·rw[RW h,RW<|show ¬0 < (UF c F).C.Amount from h];rfl
theorem XF:(XG t c).since=t:=by unfold XG;split<;>rfl
theorem P8:(XG t c).number=c.number:=by unfold XG;split<;>rfl
theorem Cc:(XG t c).fills=c.fills:=by unfold XG;split<;>rfl
theorem CR.rest(r:CR t n A3 c h):CR t n A3 (XG t c) h:=by
 refine⟨⟨by rw[XF];have:=r.since;omega,by rw[XF];exact nQ t⟩,?_,?_,by rw[Cc];exact r.fills⟩
 ·rw[IU,XF];have:=Ih r.ok (n:=t - c.since) (by have:=r.since;omega);have e:c.since+(t - c.since)=t:=by omega
  rwa[e] at this
 ·rw[IU,XF,eg,TS];exact r.eq
theorem Li{k:Nat}{F:UV Int}(hc:A1[k]? =some c)(ho:Ec c.since n (UF c F))(_h0:0<=c.since)(h1:c.since<=t)(ht:t<=1000000):UP A1 (some k) t=some (A1.set k<|XG t c):=by
 have hk:k < A1.length:=(AC.1 hc).1;have hage:=ho.age;have hwood:=ho.wood;have hplace:=ho.place;have ew:VJ 8 c.wood=some c.wood.toNat:=by unfold VJ;rw[TO (by have:0<=c.wood/\c.wood<=7:=hwood;omega)]
 have ep:VJ 8 c.place=some c.place.toNat:=by unfold VJ;rw[TO (by have:0<=c.place/\c.place<=7:=hplace;omega)]
 have w1:0<=c.times.woods c.wood.toNat/\c.times.woods c.wood.toNat<=c.times.age:=ho.woods.le _;have p1:0<=c.times.places c.place.toNat/\c.times.places c.place.toNat<=c.times.age:=ho.places.le _;have ha:0<=c.times.age/\c.times.age<=c.since:=hage;unfold UP;simp only[DO,hc,QR];rw[Qn (n:=t - c.since) (by omega)<|by omega];by_cases hp:0 < c.amount
 ·rw[TO<|by simpa using hp];simp only[ew,ep,DO,mR];rw[Qn (n:=c.times.age+(t - c.since)) (by omega) (by omega),Qn (n:=c.times.woods c.wood.toNat+(t - c.since)) (by omega) (by omega),Qn (n:=c.times.places c.place.toNat+(t - c.since)) (by omega)<|by omega];simp only[XG,hp,Rw]
 ·rw[RW<|by simpa using hp];simp only[XG,hp,T2]
theorem Nz{num:Int}:∀(A1:UV QJ) (all:UV Zj) (k0:Nat),A1.length=all.length->(∀(k:Nat) (c:QJ) (h:Zj),A1[k]? =some c->all[k]? =some h->h.C.Number=c.number)->
  (Qc (A1.mapIdx λk c=>(c.number,some<|k0+k)) num).getD none=(Ye all num).map (k0+ ·)
 | [],[],_,_,_=>rfl
 | [],_::_,_,h,_=>by simp at h
 | _::_,[],_,h,_=>by simp at h
 | c::A1,h::all,k0,hl,hn=>by
  have h0:=hn 0 c h rfl rfl;rw[List.mapIdx_cons];simp only[Qc,Ye];by_cases e:num=c.number
  ·have e1:(num==c.number)=true:=by simpa using e
   have e2:(h.C.Number==num)=true:=by simp[h0,e]
   simp[e1,e2]
  ·have e1:(num==c.number)=false:=by simpa using e
   have e2:(h.C.Number==num)=false:=by simp[h0];exact λe' =>e e'.symm
   have ih:=Nz (num:=num) A1 all (k0+1) (by simpa using hl) (λk c h h1 h2=>hn (k+1) c h (by simpa using h1)<|by simpa using h2);simp only[e1,e2,By,T2];have e3:(fun(i:Nat) (a:QJ)=>(a.number,some<|k0+(i+1)))=λk c=>(c.number,some<|k0+1+k):=by funext i a;rw[show k0+(i+1)=k0+1+i by omega]
   rw[e3,ih];cases Ye all num with
   | none=>rfl
   | some j=>simp;omega
theorem PR.get{all:UV Zj}{m:UV (Int×H1 Nat)}(r:PR t n all A1 A3 m)(num:Int):(Qc m num).getD none=Ye all num:=by
 have:=Nz (num:=num) A1 all 0 r.len λk c h h1 h2=>(r.each k c h h1 h2).number;rw[r.map];simpa using this
end
section
open Go.Dec
variable{c c':QJ}{A1:UV QJ}{F:UV Int}{A3:FM}{h:Zj}{t:Int}{n k:Nat}
theorem CR.up(r:CR t n A3 c h):CR t (n+1) A3 c h:=⟨r.since,r.ok.up,r.eq,r.fills⟩
theorem FR.keep{A3':FM}{p:H1 Nat}(r:FR A3 p F)(h:∀q,p=some q->A3'[q]? =A3[q]?):FR A3' p F:=by
 cases p with
 | none=>exact r
 | some q=>obtain⟨l,h1,h2⟩:=r;exact⟨l,by rw[h q rfl];exact h1,h2⟩
theorem mapIdx_set(hc:A1[k]? =some c)(hn:c'.number=c.number):(A1.set k c').mapIdx (λk c=>(c.number,some k))=A1.mapIdx (λk (c:QJ)=>(c.number,some k)):=by
 apply mD;intro i;simp only[lS,mS];by_cases e:k=i
 ·subst e;have hlt:=(AC.1 hc).1;have hx:=(AC.1 hc).2;simp[hlt,hn,hx]
 ·simp[e]
section
variable{t:Int}{n n' :Nat}{all:UV Zj}{A1:UV QJ}{A3 A3' :FM}{m:UV (Int×H1 Nat)}{k:Nat}{c c' :QJ}{h h' :Zj}
theorem PR.set(r:PR t n all A1 A3 m)(hc:A1[k]? =some c)(hh:all[k]? =some h)(hn' :c'.number=c.number)(hcr:CR t n' A3' c' h')(hother:∀(i:Nat) (ci:QJ) (hi:Zj),i≠k->A1[i]? =some ci->all[i]? =some hi->CR t n' A3' ci hi)
  (hap:∀(i:Nat) (ci:QJ) (q:Nat),i≠k->A1[i]? =some ci->ci.fills=some q->c'.fills≠some q):PR t n' (all.set k h') (A1.set k c') A3' m:=by
 have hk:=(AC.1 hc).1;have hk2:=(AC.1 hh).1;refine⟨by simpa using r.len,λi ci hi h1 h2=> ?_,by rw[mapIdx_set hc hn'];exact r.map,λi j ci cj q h1 h2 h3 h4=> ?_⟩
 ·by_cases e:k=i
  ·subst e;rw[nJ hk] at h1
   rw[nJ hk2] at h2
   cases h1;cases h2;exact hcr
  ·rw[nO e] at h1 h2
   exact hother i ci hi (λe' =>e e'.symm) h1 h2
 ·by_cases e:k=i
  ·by_cases e2:k=j
   ·rw[<-e,<-e2]
   ·subst e;rw[nJ hk] at h1
    rw[nO e2] at h2
    cases h1;exact absurd h3<|hap j cj q (λe' =>e2 e'.symm) h2 h4
  ·rw[nO e] at h1
   by_cases e2:k=j
   ·subst e2;rw[nJ hk] at h2
    cases h2;exact absurd h4<|hap i ci q (λe' =>e e'.symm) h1 h3
   ·rw[nO e2] at h2
    exact r.apart i j ci cj q h1 h2 h3 h4
theorem PR.rH(r:PR t n all A1 A3 m)(hc:A1[k]? =some c)(hh:all[k]? =some h)(hn' :c'.number=c.number)(hcr:CR t (n+1) A3 c' h')(hf:c'.fills=c.fills∨c'.fills=none):PR t (n+1) (all.set k h') (A1.set k c') A3 m:=
 r.set hc hh hn' hcr (λi ci hi _ h1 h2=>(r.each i ci hi h1 h2).up) (λi ci q hi h1 h2 h3=>by
  rcases hf with hf | hf
  ·rw[hf] at h3;exact hi<|r.apart i k ci c q h1 hc h2 h3
  ·rw[hf] at h3;cases h3)
theorem PR.rest(r:PR t n all A1 A3 m)(hc:A1[k]? =some c):PR t n all (A1.set k<|XG t c) A3 m:=by
 have hk:=(AC.1 hc).1;have hk2:k < all.length:=by rw[<-r.len];exact hk
 have hh:all[k]? =some all[k]:=Nm hk2
 have:=r.set (n' :=n) (A3' :=A3) (c' :=XG t c) (h' :=all[k]) hc hh P8 (r.each k c _ hc hh).rest (λi ci hi _ h1 h2=>r.each i ci hi h1 h2) λi ci q hi h1 h2 h3=>by
  rw[Cc] at h3;exact hi<|r.apart i k ci c q h1 hc h2 h3
 rwa[iI] at this
theorem Xg{x20:Ql}{num:Int}(r:PR t n all A1 A3 m)(ht:t<=1000000)(hb:x20.casks=some 0):(Ye all num=none/\Z9 A1 [x20] [m] (some 0) num t=some (.pan ⟨4⟩))∨
  (∃k h c,Ye all num=some k/\all[k]? =some h/\h.C.Number=num/\PR t n all (A1.set k c) A3 m/\(A1.set k c)[k]? =some c/\c.since=t/\h=UF c h.Fills/\Ec t n h/\Z9 A1 [x20] [m] (some 0) num t=some (.ok (some k,A1.set k c))):=by
 have hget:=r.get num;unfold Z9;simp only[DO,IF,hb,hget];cases hf:Ye all num with
 | none=>
  left;exact⟨rfl,rfl⟩
 | some k=>
  right;obtain⟨h,hh,hnum⟩:=Sn hf;have hk2:=(AC.1 hh).1;have hk:k < A1.length:=by rw[r.len];exact hk2
  have hc:A1[k]? =some A1[k]:=Nm hk;have hcr:=r.each k _ h hc hh;have hcr2:=hcr.rest
  have hraw:h=UF (XG t A1[k]) h.Fills:=by
   have:=hcr2.eq;rw[XF,eg,TS] at this
   exact this
  have hok:Ec t n h:=by
   have:=hcr2.ok;rw[XF,<-hraw] at this
   exact this
  refine⟨k,h,XG t A1[k],rfl,hh,hnum,r.rest hc,nJ hk,XF,hraw,hok,?_⟩;show Qw (Zb true 4) _ _=_;have e1:Zb true 4=some (.ok ()):=rfl;rw[e1];simp only[Qw];rw[Li hc hcr.ok hcr.since.1 hcr.since.2 ht];rfl
end
def Xl(t:Int)(n:Nat)(r:UV Zj ⊕ Int)(o:H1 (Out Zk<|UV QJ×FM×UV (UV<|Int×H1 Nat))):Prop:=match r with
 | .inl all' =>∃A1' A3' m',o=some (.ok (A1',A3',[m']))/\PR t (n+1) all' A1' A3' m'
 | .inr e=>o=some (.pan ⟨e⟩)/\e≠0
section
variable{t:Int}{n:Nat}{all:UV Zj}{A1:UV QJ}{A3:FM}{m:UV (Int×H1 Nat)}{b:Ql}{x:Ev}
theorem CR.sE(h0:0<=t)(hs:c.since=t)(ho:Ec t n (UF c F))(hf:FR A3 c.fills F):CR t n A3 c (UF c F):=⟨by omega,by rw[hs];exact ho,by rw[hs,eg,TS];rfl,hf⟩
theorem zg(r:PR t n all A1 A3 m)(h0:0<=t)(ht:t<=65536)(hb:b.casks=some 0)(hv:Xk x=true)(hk:x.Kind=4)(hd:x.Day=t):Xl t n (Ft all x n) (Yr A1 [b] A3 [m] (some 0) x):=by
 unfold Yr Ft;rw[RW (by rw[hk];decide),hd];rcases Xg (num:=x.Cask) r (by omega) hb with⟨hf,hm⟩ | ⟨k,h,c,hf,hh,hnum,hr,hc,hs,hraw,hok,hm⟩
 ·rw[hf,hm];exact⟨rfl,by decide⟩
 ·rw[hf,hm];simp only[hh,Qw,DO,hc,QR,mR];have hact:XA all k h x n=OZ all k h x:=by unfold XA;rw[hk];rfl
  rw[hact];refine⟨_,_,_,rfl,?_⟩;have hcr:=hr.each k c h hc hh
  have h2:PR t (n+1) (all.set k<|UF {c with place:=x.Where} h.Fills) ((A1.set k c).set k {c with place:=x.Where}) A3 m:=hr.rH hc hh rfl (CR.sE h0 hs (by
   have:=hok.up;rw[hraw] at this
   exact{this with place:=fU hv (.inl hk)}) hcr.fills)<|.inl rfl
  rw[mR] at h2
  have e:UF {c with place:=x.Where} h.Fills={h with C:={h.C with Place:=x.Where}}:=by
   conv=>rhs;rw[hraw]
   rfl
  rw[e] at h2
  exact h2
theorem O3{h':Zj}{r:UV Zj ⊕ Int}(hr:PR t n all (A1.set k c) A3 m)(hh:all[k]? =some h)(hc:(A1.set k c)[k]? =some c)(h0:0<=t)(hs:c'.since=t)(hn:c'.number=c.number)(hf:c'.fills=c.fills∨c'.fills=none)(he:h' =UF c' F)(ho:Ec t (n+1) h')(hfr:FR A3 c'.fills F)(hres:r= .inl (all.set k h')):Xl t n r (some<|.ok (A1.set k c',A3,[m])):=by
 subst hres;subst he;refine⟨_,_,_,rfl,?_⟩;have h2:=hr.rH hc hh hn (CR.sE h0 hs ho hfr) hf
 rwa[mR] at h2
theorem vy{a:Int}(h: -1<=a):(a==(-1))= !decide (a≥0):=by
 by_cases e:a= -1
 ·subst e;rfl
 ·have h1:(a==(-1))=false:=by simpa using e
  rw[h1,nM<|show a≥0 by omega];rfl
theorem jK(r:PR t n all A1 A3 m)(h0:0<=t)(ht:t<=65536)(hb:b.casks=some 0)(hv:Xk x=true)(hk:x.Kind=5)(hd:x.Day=t):Xl t n (Ft all x n) (Vb A1 [b] A3 [m] (some 0) x):=by
 unfold Vb Ft;rw[RW (by rw[hk];decide),hd];rcases Xg (num:=x.Cask) r (by omega) hb with⟨hf,hm⟩ | ⟨k,h,c,hf,hh,hnum,hr,hc,hs,hraw,hok,hm⟩
 ·rw[hf,hm];exact⟨rfl,by decide⟩
 ·rw[hf,hm];simp only[hh,Qw,DO,hc,QR,mR];have hact:XA all k h x n=P7 all k h x:=by unfold XA;rw[hk];rfl
  rw[hact];have hcr:=hr.each k c h hc hh;have ho:h.C.Owner=c.owner:=by rw[hraw];rfl
  have hcd:h.C.Creditor=c.creditor:=by rw[hraw];rfl
  have hcred:=hok.cred;rw[hcd] at hcred
  unfold P7;rw[ho,hcd];by_cases h1:c.owner=x.Person
  ·have e1:(c.owner==x.Person)=true:=by simpa using h1
   have e2:(c.owner != x.Person)=false:=by simpa using h1
   simp only[e1,e2,Rw,mz,vy hcred.1];by_cases h2:c.creditor≥0
   ·simp only[h2,nc,x6,Rw];exact⟨rfl,by decide⟩
   ·simp only[h2,nk,r6,By,T2];by_cases h3:x.To=c.owner
    ·have e3:(x.To==c.owner)=true:=by simpa using h3
     have e4:(x.To != c.owner)=false:=by simpa using h3
     simp only[e3,e4,Rw];exact⟨rfl,by decide⟩
    ·have e3:(x.To==c.owner)=false:=by simpa using h3
     have e4:(x.To != c.owner)=true:=by simpa using h3
     simp only[e3,e4,By,T2];exact O3 (h' :={h with C:={h.C with Owner:=x.To}}) (c' :={c with owner:=x.To}) (F:=h.Fills) hr hh hc h0 hs rfl (.inl rfl) (congrArg (λz:Zj=>{z with C:={z.C with Owner:=x.To}}) hraw) {hok.up with owner:=fT hv (.inl hk)} hcr.fills rfl
  ·have e1:(c.owner==x.Person)=false:=by simpa using h1
   have e2:(c.owner != x.Person)=true:=by simpa using h1
   simp only[e1,e2,oT,Rw,By,T2];exact⟨rfl,by decide⟩
theorem IX(r:PR t n all A1 A3 m)(h0:0<=t)(ht:t<=65536)(hb:b.casks=some 0)(hv:Xk x=true)(hk:x.Kind=6)(hd:x.Day=t):Xl t n (Ft all x n) (YL A1 [b] A3 [m] (some 0) x):=by
 unfold YL Ft;rw[RW (by rw[hk];decide),hd];rcases Xg (num:=x.Cask) r (by omega) hb with⟨hf,hm⟩ | ⟨k,h,c,hf,hh,hnum,hr,hc,hs,hraw,hok,hm⟩
 ·rw[hf,hm];exact⟨rfl,by decide⟩
 ·rw[hf,hm];simp only[hh,Qw,DO,hc,QR,mR];have hact:XA all k h x n=DG all k h x:=by unfold XA;rw[hk];rfl
  rw[hact];have hcr:=hr.each k c h hc hh;have ho:h.C.Owner=c.owner:=by rw[hraw];rfl
  have hcd:h.C.Creditor=c.creditor:=by rw[hraw];rfl
  have hcred:=hok.cred;rw[hcd] at hcred
  unfold DG;rw[ho,hcd];by_cases h1:c.owner=x.Person
  ·have e1:(c.owner==x.Person)=true:=by simpa using h1
   have e2:(c.owner != x.Person)=false:=by simpa using h1
   simp only[e1,e2,By,T2,vy hcred.1];by_cases h2:c.creditor≥0
   ·simp only[h2,nc,x6,Rw];exact⟨rfl,by decide⟩
   ·simp only[h2,nk,r6,T2];have:=fT hv<|.inr hk;exact O3 (h' :={h with C:={h.C with Creditor:=x.To}}) (c' :={c with creditor:=x.To}) (F:=h.Fills) hr hh hc h0 hs rfl (.inl rfl) (congrArg (λz:Zj=>{z with C:={z.C with Creditor:=x.To}}) hraw) {hok.up with cred:=⟨by show -1<=x.To;omega,this.2⟩} hcr.fills rfl
  ·have e1:(c.owner==x.Person)=false:=by simpa using h1
   have e2:(c.owner != x.Person)=true:=by simpa using h1
   simp only[e1,e2,Rw];exact⟨rfl,by decide⟩
theorem jm(r:PR t n all A1 A3 m)(h0:0<=t)(ht:t<=65536)(hb:b.casks=some 0)(_hv:Xk x=true)(hk:x.Kind=7)(hd:x.Day=t):Xl t n (Ft all x n) (Vd A1 [b] A3 [m] (some 0) x):=by
 unfold Vd Ft;rw[RW (by rw[hk];decide),hd];rcases Xg (num:=x.Cask) r (by omega) hb with⟨hf,hm⟩ | ⟨k,h,c,hf,hh,hnum,hr,hc,hs,hraw,hok,hm⟩
 ·rw[hf,hm];exact⟨rfl,by decide⟩
 ·rw[hf,hm];simp only[hh,Qw,DO,hc,QR,mR];have hact:XA all k h x n=RG all k h x:=by unfold XA;rw[hk];rfl
  rw[hact];have hcr:=hr.each k c h hc hh;have hcd:h.C.Creditor=c.creditor:=by rw[hraw];rfl
  unfold RG;rw[hcd];by_cases h1:c.creditor=x.Person
  ·have e1:(c.creditor==x.Person)=true:=by simpa using h1
   have e2:(c.creditor != x.Person)=false:=by simpa using h1
   simp only[e1,e2,By,T2];exact O3 (h' :={h with C:={h.C with Creditor:= -1}}) (c' :={c with creditor:= -1}) (F:=h.Fills) hr hh hc h0 hs rfl (.inl rfl) (congrArg (λz:Zj=>{z with C:={z.C with Creditor:= -1}}) hraw) {hok.up with cred:=⟨nQ _,by show(-1:Int)<=_;omega⟩} hcr.fills rfl
  ·have e1:(c.creditor==x.Person)=false:=by simpa using h1
   have e2:(c.creditor != x.Person)=true:=by simpa using h1
   simp only[e1,e2,Rw];exact⟨rfl,by decide⟩
theorem jz(r:PR t n all A1 A3 m)(h0:0<=t)(ht:t<=65536)(hb:b.casks=some 0)(hv:Xk x=true)(hk:x.Kind=8)(hd:x.Day=t):Xl t n (Ft all x n) (Vf A1 [b] A3 [m] (some 0) x):=by
 unfold Vf Ft;rw[RW (by rw[hk];decide),hd];rcases Xg (num:=x.Cask) r (by omega) hb with⟨hf,hm⟩ | ⟨k,h,c,hf,hh,hnum,hr,hc,hs,hraw,hok,hm⟩
 ·rw[hf,hm];exact⟨rfl,by decide⟩
 ·rw[hf,hm];simp only[hh,Qw,DO,hc,QR,mR];have hact:XA all k h x n=RR all k h x:=by unfold XA;rw[hk];rfl
  rw[hact];have hcr:=hr.each k c h hc hh;have hca:h.C.Amount=c.amount:=by rw[hraw];rfl
  have hamt:=hok.amt;rw[hca] at hamt
  unfold RR;rw[hca];by_cases h1:c.amount=0
  ·have e1:(c.amount==0)=true:=by simpa using h1
   have e2:¬c.amount > 0:=by omega
   simp only[e1,e2,T2];exact O3 (h' :={h with C:={h.C with Wood:=x.Where}}) (c' :={c with wood:=x.Where}) (F:=h.Fills) hr hh hc h0 hs rfl (.inl rfl) (congrArg (λz:Zj=>{z with C:={z.C with Wood:=x.Where}}) hraw) {hok.up with wood:=fU hv (.inr hk)} hcr.fills rfl
  ·have e1:(c.amount==0)=false:=by simpa using h1
   have e2:c.amount > 0:=by omega
   simp only[e1,e2,Rw];exact⟨rfl,by decide⟩
end
end
section
open Go.Dec
variable{c:QJ}{n:Int}
def Gk(c:QJ)(n:Int):QJ:=if c.amount - n==0 then{c with amount:=0,times:=⟨0,zN,zN⟩,fills:=none} else{c with amount:=c.amount - n}
theorem IV{F:UV Int}:Xt (UF c F) n=UF (Gk c n) (Xt (UF c F) n).Fills:=by
 unfold Xt Gk;by_cases e:(c.amount - n==0)=true
 ·rw[TO e,TO<|show((UF c F).C.Amount - n==0)=true from e];rfl
 ·rw[RW e,RW<|show ¬((UF c F).C.Amount - n==0)=true from e];rfl
theorem MF:(Gk c n).fills=c.fills∨(Gk c n).fills=none:=by
 unfold Gk;split
 ·exact .inr rfl
 ·exact .inl rfl
theorem ME:(Gk c n).since=c.since:=by unfold Gk;split<;>rfl
theorem RN:(Gk c n).number=c.number:=by unfold Gk;split<;>rfl
theorem kZ{A3:FM}{F:UV Int}(h:FR A3 c.fills F):FR A3 (Gk c n).fills (Xt (UF c F) n).Fills:=by
 unfold Xt Gk;by_cases e:(c.amount - n==0)=true
 ·rw[TO e,TO<|show((UF c F).C.Amount - n==0)=true from e];rfl
 ·rw[RW e,RW<|show ¬((UF c F).C.Amount - n==0)=true from e];exact h
theorem FF{A1:UV QJ}{k:Nat}(hc:A1[k]? =some c)(h1:0<=c.amount/\c.amount<=1099511627776)(h2:0<=n/\n<=1099511627776):Va A1 (some k) n=some (A1.set k<|Gk c n):=by
 unfold Va;simp only[DO,hc,QR,mR];rw[Qn (n:=c.amount - n) (by omega)<|by omega];unfold Gk;by_cases e:(c.amount - n==0)=true
 ·have e0:c.amount - n=0:=mB.1 e;rw[TO e,TO e];simp only[e0]
 ·rw[RW e,RW e]
section
variable{t:Int}{n:Nat}{all:UV Zj}{A1:UV QJ}{A3:FM}{m:UV (Int×H1 Nat)}{b:Ql}{x:Ev}
theorem zb(r:PR t n all A1 A3 m)(h0:0<=t)(ht:t<=65536)(hb:b.casks=some 0)(hv:Xk x=true)(hk:x.Kind=3)(hd:x.Day=t):Xl t n (Ft all x n) (Yq A1 [b] A3 [m] (some 0) x):=by
 unfold Yq Ft;rw[RW (by rw[hk];decide),hd];rcases Xg (num:=x.Cask) r (by omega) hb with⟨hf,hm⟩ | ⟨k,h,c,hf,hh,hnum,hr,hc,hs,hraw,hok,hm⟩
 ·rw[hf,hm];exact⟨rfl,by decide⟩
 ·rw[hf,hm];simp only[hh,Qw,DO,hc];have hact:XA all k h x n=BZ all k h x:=by unfold XA;rw[hk];rfl
  rw[hact];have hcr:=hr.each k c h hc hh;have hca:h.C.Amount=c.amount:=by rw[hraw];rfl
  have hcd:h.C.Creditor=c.creditor:=by rw[hraw];rfl
  have hcred:=hok.cred;have hamt:=hok.amt;have hroom:=hok.room;rw[hca] at hamt
  rw[hcd] at hcred
  have ha:=MB hv<|.inr<|.inr hk;unfold BZ;rw[hca,hcd,vy hcred.1];by_cases h1:c.creditor≥0
  ·simp only[h1,nc,x6,Rw];exact⟨rfl,by decide⟩
  ·simp only[h1,nk,r6,T2];by_cases h2:c.amount < x.Amount
   ·have e2:decide (c.amount≥x.Amount)=false:=nE (by omega);simp only[h2,e2,Rw];exact⟨rfl,by decide⟩
   ·have e2:decide (c.amount≥x.Amount)=true:=nM (by omega);simp only[h2,e2,T2];show Xl t n _ ((Va (A1.set k c) (some k) x.Amount).bind λr_60=>some<|.ok (r_60,A3,[m]));rw[FF hc (by omega) (by omega),DO,mR];have hls:Xt h x.Amount=UF (Gk c x.Amount) (Xt (UF c h.Fills) x.Amount).Fills:=by rw[<-IV,<-hraw]
    exact O3 (h' :=Xt h x.Amount) (c' :=Gk c x.Amount) hr hh hc h0 (by rw[ME];exact hs) RN MF hls (OI hok.up ha.1 (by omega) h0) (kZ hcr.fills) rfl
theorem Ny{num:Int}{v:H1 Nat}:∀(A1:UV QJ) (k0:Nat),(∀c∈A1,c.number≠num)->Qx (A1.mapIdx λk c=>(c.number,some<|k0+k)) num v=A1.mapIdx (λk c=>(c.number,some<|k0+k))++[(num,v)]
 | [],_,_=>rfl
 | c::A1,k0,h=>by
  rw[List.mapIdx_cons];have e1:(num==c.number)=false:=by simpa using(λe=>h c (by simp) e.symm)
  have e3:(fun(i:Nat) (a:QJ)=>(a.number,some<|k0+(i+1)))=λk c=>(c.number,some<|k0+1+k):=by funext i a;rw[show k0+(i+1)=k0+1+i by omega]
  simp only[Qx,e1,By,T2,e3,mQ];rw[Ny A1 (k0+1) λc hc=>h c<|x8 _ hc]
def xi(x:Ev):QJ:=⟨x.Cask,x.Other,x.Where,x.Amount,x.Person, -1,0,x.Day,⟨0,zN,zN⟩,none⟩
theorem zi(r:PR t n all A1 A3 m)(ho:A9 t n all)(h0:0<=t)(hb:b.casks=some 0)(hv:Xk x=true)(hk:x.Kind=0)(hd:x.Day=t):Xl t n (Ft all x n) (Ys A1 [b] A3 [m] (some 0) x):=by
 have hmk:=λl' h=>kL (l' :=l') ho h0 hv hk h;have hml:m.length=all.length:=by rw[r.map,iW,r.len]
 unfold Ys Ft;rw[TO (by rw[hk];rfl)];simp only[DO,IF,hb,r.get];unfold L9 at hmk ⊢
 cases hf:Ye all x.Cask with
 | some k=>
  simp only[ld,Rw];exact⟨rfl,by decide⟩
 | none=>
  rw[hf] at hmk
  simp only[ml,By,T2] at hmk ⊢
  by_cases hfull:256<=all.length
  ·have e:decide ((m.length:Int) < 256)=false:=nE (by omega);simp only[hfull,e,Rw];exact⟨rfl,by decide⟩
  ·have e:decide ((m.length:Int) < 256)=true:=nM (by omega);simp only[hfull,e,T2] at hmk ⊢
   have hnew:=hmk _ rfl;have hokn:Ec t (n+1) (wB x):=hnew.each _ (by simp);refine⟨A1++[xi x],A3,Qx m x.Cask<|some A1.length,?_,?_⟩
   ·rfl
   ·refine⟨by simp[r.len],λk c h hc hh=> ?_,?_,λi j ci cj q h1 h2 h3 h4=> ?_⟩
    ·by_cases e:k < A1.length
     ·rw[nK e] at hc
      rw[nK (by rw[<-r.len];exact e)] at hh
      exact(r.each k c h hc hh).up
     ·have hk1:=(AC.1 hc).1;have ek:k=A1.length:=by simp at hk1;omega
      rw[ek,nr<|IN _] at hc
      rw[ek,r.len,nr<|IN _] at hh
      simp only[iF,IF,BY] at hc hh
      subst hc;subst hh;exact CR.sE (c:=xi x) (F:=[]) h0 hd hokn rfl
    ·rw[r.map]
     have h1:∀c∈A1,c.number≠x.Cask:=λc hc=>by
      obtain⟨k,hk⟩:=List.getElem?_of_mem hc;have hk1:=(AC.1 hk).1;have hk2:all[k]? =some (all[k]'(by rw[<-r.len];exact hk1)):=Nm _;have:=Sp hf _<|s8 hk2;rw[(r.each k c _ hk hk2).number] at this
      exact this
     have h2:=Ny (num:=x.Cask) (v:=some A1.length) A1 0 h1;simp only[nl] at h2
     rw[h2];apply mD;intro i;simp only[lS,List.getElem?_append,iW];by_cases e:i < A1.length
     ·simp[e]
     ·simp only[e,T2];by_cases e2:i=A1.length
      ·subst e2;simp[xi]
      ·have:∃d,i - A1.length=d+1:=⟨i - A1.length - 1,by omega⟩;obtain⟨d,hd'⟩:=this;rw[hd'];simp
    ·by_cases e:i < A1.length
     ·rw[nK e] at h1
      by_cases e2:j < A1.length
      ·rw[nK e2] at h2
       exact r.apart i j ci cj q h1 h2 h3 h4
      ·have hj1:=(AC.1 h2).1;have ek:j=A1.length:=by simp at hj1;omega
       rw[ek,nr<|IN _] at h2
       simp only[iF,IF,BY] at h2
       subst h2;cases h4
     ·have hj1:=(AC.1 h1).1;have ek:i=A1.length:=by simp at hj1;omega
      rw[ek,nr<|IN _] at h1
      simp only[iF,IF,BY] at h1
      subst h1;cases h3
end
end
section
open Go.Dec
variable{x:Int}
section
variable{V:Type}
theorem Nw{k:Int}{v:V}:∀{l:UV (Int×V)},x∈(Qx l k v).map Prod.fst↔x=k∨x∈l.map Prod.fst
 | []=>by simp[Qx]
 | y::l=>by
  simp only[Qx];by_cases e:k=y.1
  ·have e1:(k==y.1)=true:=by simpa using e
   rw[TO e1];simp[e]
  ·have e1:(k==y.1)=false:=by simpa using e
   rw[e1];simp only[By,T2,s4,j9,Nw (l:=l)];constructor
   ·rintro(h | h | h)
    ·exact .inr<|.inl h
    ·exact .inl h
    ·exact .inr<|.inr h
   ·rintro(h | h | h)
    ·exact .inr<|.inl h
    ·exact .inl h
    ·exact .inr<|.inr h
def Gl(a l:UV (Int×V)):UV (Int×V):=l.foldl (λa x=>Qx a x.1 x.2) a
theorem MJ:∀{l a:UV (Int×V)},(a.map Prod.fst).Nodup->((Gl a l).map Prod.fst).Nodup
 | [],_,h=>h
 | x::l,a,h=>MJ (l:=l) (a:=Qx a x.1 x.2)<|JQ h
theorem Ip{x:Int}:∀{l a:UV (Int×V)},x∈(Gl a l).map Prod.fst↔x∈a.map Prod.fst∨x∈l.map Prod.fst
 | [],a=>by simp[Gl]
 | y::l,a=>by
  have:=Ip (x:=x) (l:=l) (a:=Qx a y.1 y.2);have e:Gl a (y::l)=Gl (Qx a y.1 y.2) l:=rfl;rw[e,this,Nw];simp only[s4,j9];constructor
  ·rintro((h | h) | h)
   ·exact .inr<|.inl h
   ·exact .inl h
   ·exact .inr<|.inr h
  ·rintro(h | h | h)
   ·exact .inl<|.inr h
   ·exact .inl<|.inl h
   ·exact .inr h
theorem ES:∀{l a a' :UV (Int×V)},a'.Perm a->(a.map Prod.fst).Nodup->(Gl a' l).Perm (Gl a l)
 | [],_,_,h,_=>h
 | _x::l,_a,_a',h,hn=>ES (l:=l) (H8 h hn)<|JQ hn
theorem Iq{a:UV (Int×V)}{y:Int}{u v:V}(hn:(a.map Prod.fst).Nodup)(h:x≠y):(Qx (Qx a x u) y v).Perm (Qx (Qx a y v) x u):=by
 have h1:(Qx (Qx a x u) y v).Perm ((y,v)::(x,u)::(a.filter λz=> !(x==z.1)).filter (λz=> !(y==z.1))):=by
  refine(Jm<|JQ hn).trans<|.cons _ ?_;refine((Jm hn).filter _).trans<|.of_eq ?_;rw[nu,TO<|by simpa using h.symm]
 have h2:(Qx (Qx a y v) x u).Perm ((x,u)::(y,v)::(a.filter λz=> !(y==z.1)).filter (λz=> !(x==z.1))):=by
  refine(Jm<|JQ hn).trans<|.cons _ ?_;refine((Jm hn).filter _).trans<|.of_eq ?_;rw[nu,TO<|by simpa using h]
 refine h1.trans<|(List.Perm.swap _ _ _).trans ?_;refine List.Perm.trans (.of_eq ?_) h2.symm;congr 2;rw[mq,mq];exact nT λz _=>iA _ _
theorem jw{l l' :UV (Int×V)}(h:l'.Perm l):∀{a:UV (Int×V)},(a.map Prod.fst).Nodup->(l.map Prod.fst).Nodup->(Gl a l').Perm (Gl a l):=by
 induction h with
 | nil=>intro a _ _;exact .refl _
 | cons x _ ih=>
  intro a ha hl;simp only[s4,mM] at hl
  exact ih (JQ ha) hl.2
 | swap x y l=>
  intro a ha hl;simp only[s4,mM,j9,iV] at hl
  exact ES (Iq ha λe=>hl.1.1 e.symm) (JQ<|JQ ha)
 | trans h1 h2 ih1 ih2=>
  intro a ha hl;exact(ih1 ha<|(h2.map Prod.fst).nodup_iff.2 hl).trans<|ih2 ha hl
end
theorem PW{q j:Nat}(hq:q≠j):∀(l:UV (Int×Bool)) (s:FM) (lq:UV (Int×Bool)),s[q]? =some lq->Yx (YM (some q) j) l s=some (s.set q<|Gl lq l)
 | [],s,lq,h=>by
  have:=Cb h;simp only[Yx,Gl,List.foldl_nil];rw[<-this]
 | x::l,s,lq,h=>by
  have hlt:=(AC.1 h).1
  have e:YM (some q) j x s=some (s.set q<|Qx lq x.1 x.2):=by
   unfold YM fS;simp only[DO,RW hq,h,QR]
  simp only[Yx,e,DO];rw[PW hq l _ (Qx lq x.1 x.2)<|nJ hlt,mR];rfl
theorem jv{A:FM}{q j:Nat}{lq lj:UV (Int×Bool)}(hq:q≠j)(h1:A[q]? =some lq)(h2:A[j]? =some lj)(hn:(lq.map Prod.fst).Nodup)(hn2:(lj.map Prod.fst).Nodup):WT A (some q) (some j)=some (A.set q<|Gl lq lj):=by
 unfold WT;simp only[DO,h2]
 have hp:B4 Tz (YM (some q) j) lj A=some (A.set q<|Gl lq lj):=by
  refine Ib (PW hq lj A lq h1) λl' hl' =>⟨_,PW hq l' A lq h1,by simp,λi x y hx hy=> ?_⟩;have hlt:=(AC.1 h1).1;by_cases e:q=i
  ·subst e;rw[nJ hlt] at hx hy
   cases hx;cases hy;exact jw hl' hn hn2
  ·rw[nO e] at hx hy
   rw[hx] at hy;cases hy;exact .refl _
 rw[hp,DO];have:(A.set q<|Gl lq lj)[j]? =some lj:=by rw[nO hq];exact h2
 rw[<-Cb this]
theorem jd(a u:ZH):UW a u=some ⟨Jj a.age u.age,PI a.woods u.woods,PI a.places u.places⟩:=by
 obtain⟨t1,ht1,hl1⟩:=Hu (body:=Yh u) (λi (t:ZH)=>((i:Int),t)) (λt=>t) (λi t=>t={a with age:=Jj a.age u.age,woods:=RZ i a.woods u.woods}) 8
  (λi t hi ht=>by
   have hw:Q5 ((i:Int)+1)=((i+1:Nat):Int):=by rw[Qn (by omega)<|by omega];rfl
   have hm:(RZ i a.woods u.woods) i=a.woods i:=by unfold RZ;rw[RW<|by omega]
   refine⟨_,?_,rfl⟩;unfold Yh;rw[TO (by simp;omega),GA hi];simp only[DO,QR,hw,ht,hm];rw[L7])
  (λt ht=>by
   unfold Yh;rw[RW<|by simp]) 8 0 {a with age:=Jj a.age u.age} rfl (by rw[vJ])
 obtain⟨t2,ht2,hl2⟩:=Hu (body:=Yg u) (λi (t:ZH)=>((i:Int),t)) (λt=>t) (λi t=>t={a with age:=Jj a.age u.age,woods:=PI a.woods u.woods,places:=RZ i a.places u.places}) 8
  (λi t hi ht=>by
   have hw:Q5 ((i:Int)+1)=((i+1:Nat):Int):=by rw[Qn (by omega)<|by omega];rfl
   have hm:(RZ i a.places u.places) i=a.places i:=by unfold RZ;rw[RW<|by omega]
   refine⟨_,?_,rfl⟩;unfold Yg;rw[TO (by simp;omega),GA hi];simp only[DO,QR,hw,ht,hm];rw[L7])
  (λt ht=>by
   unfold Yg;rw[RW<|by simp]) 8 0 t1 rfl (by rw[ht1,vJ];rfl)
 unfold UW;simp only[QR];have h1:ZQ (Yh u) (0,{a with age:=Jj a.age u.age})=some t1:=hl1;have h2:ZQ (Yg u) (0,t1)=some t2:=hl2;refine ZR h1<|ZR h2 ?_;rw[ht2];rfl
end
section
open Go.Dec
variable{A3:FM}
theorem Lq{A1:UV QJ}{k j:Nat}{c:QJ}{h so:Zj}{lj:UV (Int×Bool)}{tm:ZH}{n:Int}(hc:A1[k]? =some c)(hraw:h=UF c h.Fills)(hamt:0<=c.amount/\c.amount<=1099511627776)(hn:0<=n/\n<=1099511627776)(hfr:FR A3 c.fills h.Fills)(hne:0 < c.amount->h.Fills≠[])
  (hj:A3[j]? =some lj) (hjn:(lj.map Prod.fst).Nodup) (hjF:∀x,x∈so.Fills↔x∈lj.map Prod.fst) (hq:c.fills≠some j) (ht:so.C.Age=tm.age/\so.C.Woods=tm.woods/\so.C.Places=tm.places):∃c' A3',YX A1 A3 (some k) tm (some j) n=some (A1.set k c',A3')/\c'.number=c.number/\c'.since=c.since/\XH h so n=UF c' (XH h so n).Fills/\FR A3' c'.fills (XH h so n).Fills/\
   (∀(q:Nat) lq,A3[q]? =some lq->c.fills≠some q->A3'[q]? =some lq)/\(c'.fills=c.fills∨c'.fills=some A3.length):=by
 have hk:=(AC.1 hc).1;have hca:h.C.Amount=c.amount:=by rw[hraw];rfl
 have hw:Q5 (c.amount+n)=c.amount+n:=Qn (by omega) (by omega);unfold YX;simp only[DO,hc];by_cases e:(c.amount==0)=true
 ·have e' :(h.C.Amount==0)=true:=by rw[hca];exact e
  refine⟨{c with times:=tm,fills:=some A3.length,amount:=c.amount+n},A3++[lj],?_,rfl,rfl,?_,?_,λq lq h1 _=> ?_,.inr rfl⟩
  ·simp only[e,Rw,HV,ML,hj,DO,QR,mR,nJ hk,hw]
  ·unfold XH;rw[TO e'];rw[hraw];simp only[ht.1,ht.2.1,ht.2.2];rfl
  ·unfold XH;rw[TO e'];exact⟨lj,by simp,hjn,hjF⟩
  ·have:=(AC.1 h1).1;rw[nK this];exact h1
 ·have hpos:0 < c.amount:=by
   have:c.amount≠0:=λe0=>e (by simp[e0]);omega
  have e' :¬(h.C.Amount==0)=true:=by rw[hca];exact e
  cases hf:c.fills with
  | none=>rw[hf] at hfr;exact absurd hfr (hne hpos)
  | some q=>
   rw[hf] at hfr
   obtain⟨lq,hlq,hqn,hqF⟩:=hfr;have hqj:q≠j:=λe0=>hq (by rw[hf,e0]);have hql:=(AC.1 hlq).1;refine⟨{c with times:=⟨Jj c.times.age tm.age,PI c.times.woods tm.woods,PI c.times.places tm.places⟩,amount:=c.amount+n},A3.set q<|Gl lq lj,?_,rfl,rfl,?_,?_,λq' lq' h1 h2=> ?_,.inl hf⟩
   ·simp only[e,T2,By,jd,DO,QR,hf,jv hqj hlq hj hqn hjn,nJ hk,mR,hw]
   ·unfold XH;rw[RW e'];have h1:h.C.Age=c.times.age:=by rw[hraw];rfl
    have h2:h.C.Woods=c.times.woods:=by rw[hraw];rfl
    have h3:h.C.Places=c.times.places:=by rw[hraw];rfl
    simp only[ht.1,ht.2.1,ht.2.2,h1,h2,h3]
    conv=>lhs;rw[hraw]
    rfl
   ·unfold XH;rw[RW e'];show FR _ c.fills (O2 h.Fills so.Fills);rw[hf];refine⟨Gl lq lj,nJ hql,MJ hqn,λx=> ?_⟩;rw[Nv,Ip,hqF,hjF]
   ·rw[nO λe0=>h2<|by rw[e0]];exact h1
section
variable{t:Int}{n:Nat}{all:UV Zj}{A1:UV QJ}{A3:FM}{m:UV (Int×H1 Nat)}{b:Ql}{x:Ev}
theorem vd{q:Nat}{F:UV Int}(h:FR A3 (some q) F):q < A3.length:=by
 obtain⟨l,h1,_⟩:=h;exact(AC.1 h1).1
theorem PY(r:PR t n all A1 A3 m)(ho:A9 t n all)(h0:0<=t)(ht:t<=65536)(hb:b.casks=some 0)(hbe:b.event=n)(hv:Xk x=true)(hk:x.Kind=1)(hd:x.Day=t):Xl t n (Ft all x n) (Ve A1 [b] A3 [m] (some 0) x):=by
 unfold Ve Ft;rw[RW (by rw[hk];decide),hd];rcases Xg (num:=x.Cask) r (by omega) hb with⟨hf,hm⟩ | ⟨k,h,c,hf,hh,hnum,hr,hc,hs,hraw,hok,hm⟩
 ·rw[hf,hm];exact⟨rfl,by decide⟩
 ·rw[hf,hm];simp only[hh,Qw,DO,hc,QR];have hact:XA all k h x n=AN all k h x n:=by unfold XA;rw[hk];rfl
  rw[hact];have hcr:=hr.each k c h hc hh;have hca:h.C.Amount=c.amount:=by rw[hraw];rfl
  have hcro:h.C.Room=c.room:=by rw[hraw];rfl
  have hamt:=hok.amt;have hroom:=hok.room;rw[hca,hcro] at hamt
  rw[hcro] at hroom
  have ha:=MB hv<|.inl hk;have hw:Q5 (c.amount+x.Amount)=c.amount+x.Amount:=Qn (by omega) (by omega);have hokd:=λl' (hl' :AN all k h x n= .inl l')=>kT ho h0 hh ha.1 hl';unfold AN at hokd ⊢
  rw[hca,hcro] at hokd ⊢
  rw[hw];by_cases h1:c.amount+x.Amount > c.room
  ·have e:decide (c.amount+x.Amount<=c.room)=false:=nE (by omega);simp only[h1,e,Rw];exact⟨rfl,by decide⟩
  ·have e:decide (c.amount+x.Amount<=c.room)=true:=nM (by omega);simp only[h1,T2] at hokd
   simp only[h1,e,T2];have hnew:=hokd _ rfl;have hql:∀q,c.fills=some q->q < A3.length:=λq hq=>vd (by rw[<-hq];exact hcr.fills);have hfr' :FR (A3++[[((n:Int),true)]]) c.fills h.Fills:=hcr.fills.keep λq hq=>nK<|hql q hq
   obtain⟨c',A3',hp,hp1,hp2,hp3,hp4,hp5,hp6⟩:=Lq (A3:=A3++[[((n:Int),true)]]) (j:=A3.length) (lj:=[((n:Int),true)]) (so:=AM n) (tm:=⟨0,zN,zN⟩) (n:=x.Amount) hc hraw (by omega) (by omega) hfr' (λhp=>by rw[<-hca] at hp;exact hok.some hp)
    (by simp) (by simp) (λy=>by simp[AM]) (λe=>by have:=hql _ e;omega) ⟨rfl,rfl,rfl⟩
   have hmod:YX (A1.set k c) (A3++[Qx [] b.event true]) (some k) (ZH.mk 0 (λ_=>0) λ_=>0) (some A3.length) x.Amount=some ((A1.set k c).set k c',A3'):=by rw[hbe];exact hp
   have hmem:XH h (AM n) x.Amount∈all.set k (XH h (AM n) x.Amount):=s8<|nJ (AC.1 hh).1;have hho:=hnew.each _ hmem
   have hres:Xl t n (.inl<|all.set k<|XH h (AM n) x.Amount) (some<|.ok ((A1.set k c).set k c',A3',[m])):=by
    refine⟨_,_,_,rfl,?_⟩;refine hr.set hc hh hp1 ?_ (λi ci hi hne h1 h2=> ?_) λi ci q hne h1 h2 h3=> ?_
    ·rw[hp3];refine CR.sE h0 (by rw[hp2];exact hs) (by rw[<-hp3];exact hho) ?_;exact hp4
    ·have hci:=(hr.each i ci hi h1 h2).up;refine⟨hci.since,hci.ok,hci.eq,hci.fills.keep λq hq=> ?_⟩;have hq2:=hci.fills;rw[hq] at hq2
     obtain⟨lq,g1,_⟩:=hq2;have hql2:=(AC.1 g1).1;rw[g1];exact hp5 q lq (by rw[nK hql2];exact g1) λe=>hne<|hr.apart i k ci c q h1 hc hq e
    ·have hci:=(hr.each i ci _ h1<|Nm (show i < all.length by rw[<-hr.len];exact(AC.1 h1).1)).fills;rw[h2] at hci
     have:=vd hci;rcases hp6 with hp6 | hp6
     ·rw[hp6] at h3;exact hne<|hr.apart i k ci c q h1 hc h2 h3
     ·rw[hp6] at h3
      simp only[BY,nH,s6,nG] at h3
      omega
   show Xl t n _ ((YX (A1.set k c) (A3++[Qx [] b.event true]) (some k) (ZH.mk 0 (λ_=>0) λ_=>0) (some A3.length) x.Amount).bind λr_106=>some<|.ok (r_106.1,r_106.2,[m]));rw[hmod,DO];exact hres
theorem jS(r:PR t n all A1 A3 m)(ho:A9 t n all)(h0:0<=t)(ht:t<=65536)(hb:b.casks=some 0)(hv:Xk x=true)(hk:x.Kind=2)(hd:x.Day=t):Xl t n (Ft all x n) (Vc A1 [b] A3 [m] (some 0) x):=by
 unfold Vc Ft;rw[RW (by rw[hk];decide),hd];rcases Xg (num:=x.Cask) r (by omega) hb with⟨hf,hm⟩ | ⟨i,h,c,hf,hh,hnum,hr,hc,hs,hraw,hok,hm⟩
 ·rw[hf,hm];exact⟨rfl,by decide⟩
 ·rw[hf,hm];have hact:XA all i h x n=AB all i h x:=by unfold XA;rw[hk];rfl
  simp only[hh,hact];have hokd:=λl' (ha:1<=x.Amount) (hl' :AB all i h x= .inl l')=>kB ho h0 hh ha hl';have ha:=MB hv<|.inr<|.inl hk;have hokd:=λl' =>hokd l' ha.1;unfold AB at hokd ⊢
  simp only[Qw];rcases Xg (num:=x.Other) hr (by omega) hb with⟨hf2,hm2⟩ | ⟨k,ho2,o,hf2,hho,hnum2,hr2,hoc,hos,horaw,hook,hm2⟩
  ·rw[hf2,hm2];exact⟨rfl,by decide⟩
  ·rw[hf2,hm2];rw[hf2] at hokd
   simp only[hho] at hokd ⊢
   have hil:i < A1.length:=by have:=(AC.1 hc).1;simpa using this
   by_cases hik:i=k
   ·
     subst hik;have hc2:((A1.set i c).set i o)[i]? =some o:=hoc;simp only[DO,hc2];have e1:(i != i)=false:=by simp
     have e2:(i==i)=true:=by simp
     unfold PD;simp only[e1,e2,Rw];exact⟨rfl,by decide⟩
   · have hc2:((A1.set i c).set k o)[i]? =some c:=by rw[nO λe=>hik e.symm];exact hc
     simp only[DO,hc2,hoc];have e1:(i != k)=true:=by simpa using hik
     have e2:(i==k)=false:=by simpa using hik
     have hcr:=hr2.each i c h hc2 hh;have hor:=hr2.each k o ho2 hoc hho;have a1:h.C.Owner=c.owner:=by rw[hraw];rfl
     have a2:h.C.Creditor=c.creditor:=by rw[hraw];rfl
     have a3:h.C.Amount=c.amount:=by rw[hraw];rfl
     have b1:ho2.C.Owner=o.owner:=by rw[horaw];rfl
     have b2:ho2.C.Creditor=o.creditor:=by rw[horaw];rfl
     have b3:ho2.C.Amount=o.amount:=by rw[horaw];rfl
     have b4:ho2.C.Room=o.room:=by rw[horaw];rfl
     have camt:=hok.amt;have croom:=hok.room;have ccred:=hok.cred;have oamt:=hook.amt;have oroom:=hook.room;have ocred:=hook.cred;rw[a2] at ccred;rw[b2] at ocred;rw[b3,b4] at oamt;rw[b4] at oroom;rw[a3] at camt
     unfold PD at hokd ⊢
     rw[a1,a2,a3,b1,b2,b3,b4] at hokd ⊢
     simp only[e1,e2,By,T2,vy ccred.1,vy ocred.1] at hokd ⊢
     have n11:Zb false 11=some (.pan ⟨11⟩):=rfl;have n0:∀e,Zb true e=some (.ok ()):=λ_=>rfl;have nf:∀e,Zb false e=some (.pan ⟨e⟩):=λ_=>rfl;by_cases c1:c.owner=o.owner
     ·have f1:(c.owner==o.owner)=true:=by simpa using c1
      have f2:(c.owner != o.owner)=false:=by simpa using c1
      simp only[f1,f2,Rw,mz,n0] at hokd ⊢
      by_cases c2:c.creditor≥0
      ·simp only[c2,nc,x6,oT,Rw,By,T2,nf,DO];exact⟨rfl,by decide⟩
      ·simp only[c2,nk,r6,mz,Rw] at hokd ⊢
       by_cases c3:o.creditor≥0
       ·simp only[c3,nc,x6,Rw,nf,DO];exact⟨rfl,by decide⟩
       ·simp only[c3,nk,r6,n0,DO,By,T2] at hokd ⊢
        by_cases c4:c.amount < x.Amount
        ·have g1:decide (c.amount≥x.Amount)=false:=nE (by omega);simp only[c4,g1,Rw,nf];exact⟨rfl,by decide⟩
        ·have g1:decide (c.amount≥x.Amount)=true:=nM (by omega);simp only[c4,g1,T2,n0] at hokd ⊢
         have hw:Q5 (o.amount+x.Amount)=o.amount+x.Amount:=Qn (by omega) (by omega);rw[hw];by_cases c5:o.amount+x.Amount > o.room
         ·have g2:decide (o.amount+x.Amount<=o.room)=false:=nE (by omega);simp only[c5,g2,Rw,nf];exact⟨rfl,by decide⟩
         ·have g2:decide (o.amount+x.Amount<=o.room)=true:=nM (by omega);simp only[c5,g2,T2,n0] at hokd ⊢
          have hnew:=hokd _ rfl;have hcf:=hcr.fills;cases hfc:c.fills with
          | none=>
           rw[hfc] at hcf
           exact absurd hcf (hok.some (by rw[a3];omega))
          | some j=>
           rw[hfc] at hcf
           obtain⟨lj,hj,hjn,hjF⟩:=hcf
           obtain⟨o',A3',hp,hp1,hp2,hp3,hp4,hp5,hp6⟩:=Lq (A3:=A3) (j:=j) (lj:=lj) (so:=h) (tm:=c.times) (n:=x.Amount) hoc horaw (by omega) (by omega) hor.fills λhp=>by rw[<-b3] at hp;exact hook.some hp
            hj hjn hjF (λe=>hik<|hr2.apart i k c o j hc2 hoc hfc e) ⟨by rw[hraw];rfl,by rw[hraw];rfl,by rw[hraw];rfl⟩
           have hc3:(((A1.set i c).set k o).set k o')[i]? =some c:=by rw[nO λe=>hik e.symm];exact hc2
           rw[hp,DO];simp only;rw[FF hc3 (by omega) (by omega),DO];have hjl:j < A3.length:=(AC.1 hj).1;have hkall:=(AC.1 hho).1;have hmem:XH ho2 h x.Amount∈(all.set k<|XH ho2 h x.Amount).set i (Xt h x.Amount):=s8 (i:=k) (by rw[nO hik];exact nJ hkall);have hho' :=hnew.each _ hmem;have hlmem:Xt h x.Amount∈(all.set k<|XH ho2 h x.Amount).set i (Xt h x.Amount):=s8 (i:=i) (nJ<|by simpa using(AC.1 hh).1);have hlok:=hnew.each _ hlmem
           have hpr:PR t (n+1) (all.set k<|XH ho2 h x.Amount) (((A1.set i c).set k o).set k o') A3' m:=by
            refine hr2.set hoc hho hp1 ?_ (λi' ci hi hne h1 h2=> ?_) λi' ci q hne h1 h2 h3=> ?_
            ·rw[hp3];refine CR.sE h0 (by rw[hp2];exact hos) (by rw[<-hp3];exact hho') ?_;exact hp4
            ·have hci:=(hr2.each i' ci hi h1 h2).up;refine⟨hci.since,hci.ok,hci.eq,hci.fills.keep λq hq=> ?_⟩;have hq2:=hci.fills;rw[hq] at hq2
             obtain⟨lq,g1',_⟩:=hq2;rw[g1'];exact hp5 q lq g1' λe=>hne<|hr2.apart i' k ci o q h1 hoc hq e
            ·have hci:=(hr2.each i' ci _ h1<|Nm (show i' < all.length by rw[<-hr2.len];exact(AC.1 h1).1)).fills;rw[h2] at hci
             have hlt:=vd hci;rcases hp6 with hp6 | hp6
             ·rw[hp6] at h3;exact hne<|hr2.apart i' k ci o q h1 hoc h2 h3
             ·rw[hp6] at h3
              simp only[BY] at h3
              omega
           refine⟨_,_,_,rfl,?_⟩;have hh3:(all.set k<|XH ho2 h x.Amount)[i]? =some h:=by rw[nO λe=>hik e.symm];exact hh
           have hcr3:=hpr.each i c h hc3 hh3;have hls:Xt h x.Amount=UF (Gk c x.Amount) (Xt (UF c h.Fills) x.Amount).Fills:=by rw[<-IV,<-hraw]
           refine hpr.set hc3 hh3 RN ?_ (λi' ci hi _ h1 h2=>hpr.each i' ci hi h1 h2) λi' ci q hne h1 h2 h3=> ?_
           ·rw[hls];refine CR.sE h0 (by rw[ME];exact hs) (by rw[<-hls];exact hlok)<|kZ hcr3.fills
           ·rcases MF (c:=c) (n:=x.Amount) with e | e
            ·rw[e] at h3;exact hne<|hpr.apart i' i ci c q h1 hc3 h2 h3
            ·rw[e] at h3;cases h3
     ·have f1:(c.owner==o.owner)=false:=by simpa using c1
      have f2:(c.owner != o.owner)=true:=by simpa using c1
      simp only[f1,f2,Rw,oT,By,T2,n0,nf,DO];exact⟨rfl,by decide⟩
end
end
section
open Go.Dec
variable{l:UV Ev}{day:Int}
theorem zu(x:Ev):XO x=some (Xk x):=by
 have e:∀n a b,YE n a b=W8 n a b:=λ_ _ _=>rfl;unfold XO Ur WA UX VG YJ Xk;simp only[e];cases h1:W8 x.Day 0 65536 with
 | false=>simp
 | true=>
  cases h2:W8 x.Cask 0 1073741824 with
  | false=>simp
  | true=>
   simp only[x6,eh,By,T2,mA];by_cases k0:(x.Kind==0)=true
   ·rw[TO k0,TO k0]
   ·rw[RW k0,RW k0];by_cases k1:(x.Kind==1)=true
    ·simp[k1]
    ·simp only[nI] at k1
     by_cases k3:(x.Kind==3)=true
     ·simp[k1,k3]
     ·simp only[nI] at k3
      simp only[k1,k3,eh,By,T2,DO];by_cases k2:(x.Kind==2)=true
      ·rw[TO k2,TO k2]
      ·rw[RW k2,RW k2];by_cases k4:(x.Kind==4)=true
       ·rw[TO k4,TO k4]
       ·rw[RW k4,RW k4];by_cases k5:(x.Kind==5)=true
        ·simp[k5]
        ·simp only[nI] at k5
         by_cases k6:(x.Kind==6)=true
         ·simp[k5,k6]
         ·simp only[nI] at k6
          simp only[k5,k6,eh,By,T2,DO];by_cases k7:(x.Kind==7)=true
          ·rw[TO k7,TO k7]
          ·rw[RW k7,RW k7];by_cases k8:(x.Kind==8)=true
           ·rw[TO k8,TO k8]
           ·rw[RW k8,RW k8]
abbrev Deed:=((UV QJ)×(UV Ql)×FM×(UV<|UV<|Int×(H1 Nat))×(H1 Nat)×Ev)->H1 (Out Zk<|(UV QJ)×FM×(UV<|UV<|Int×(H1 Nat)))
theorem An:∃D:UV (Int×Deed),G0=some D/\∀(x:Ev),Xk x=true->∃f,Qc D x.Kind=some f/\
  ∀{t:Int} {n:Nat} {all:UV Zj} {A1:UV QJ} {A3:FM} {m:UV (Int×H1 Nat)} {b:Ql},PR t n all A1 A3 m->A9 t n all->0<=t->t<=65536->b.casks=some 0->b.event=n->x.Day=t->Xl t n (Ft all x n) (f (A1,[b],A3,[m],some 0,x)):=by
 refine⟨_,rfl,λx hv=> ?_⟩;rcases kinds hv with k | k | k | k | k | k | k | k | k<;>rw[k]
 ·exact⟨_,rfl,λr ho h0 ht hb _ hd=>zi r ho h0 hb hv k hd⟩
 ·exact⟨_,rfl,λr ho h0 ht hb hbe hd=>PY r ho h0 ht hb hbe hv k hd⟩
 ·exact⟨_,rfl,λr ho h0 ht hb _ hd=>jS r ho h0 ht hb hv k hd⟩
 ·exact⟨_,rfl,λr _ h0 ht hb _ hd=>zb r h0 ht hb hv k hd⟩
 ·exact⟨_,rfl,λr _ h0 ht hb _ hd=>zg r h0 ht hb hv k hd⟩
 ·exact⟨_,rfl,λr _ h0 ht hb _ hd=>jK r h0 ht hb hv k hd⟩
 ·exact⟨_,rfl,λr _ h0 ht hb _ hd=>IX r h0 ht hb hv k hd⟩
 ·exact⟨_,rfl,λr _ h0 ht hb _ hd=>jm r h0 ht hb hv k hd⟩
 ·exact⟨_,rfl,λr _ h0 ht hb _ hd=>jz r h0 ht hb hv k hd⟩
section
variable{D:UV (Int×Deed)}
def kq(D:UV (Int×Deed)):Prop:=∀(x:Ev),Xk x=true->∃f,Qc D x.Kind=some f/\
 ∀{t:Int} {n:Nat} {all:UV Zj} {A1:UV QJ} {A3:FM} {m:UV (Int×H1 Nat)} {b:Ql},PR t n all A1 A3 m->A9 t n all->0<=t->t<=65536->b.casks=some 0->b.event=n->x.Day=t->Xl t n (Ft all x n) (f (A1,[b],A3,[m],some 0,x))
theorem jE(hD:kq D){n:Nat}{s:A7}{x:Ev}{A1:UV QJ}{A3:FM}{m:UV (Int×H1 Nat)}{b:Ql}(hx:l[n]? =some x)(hn:n<=4096)(ho:Hl n s)(hr:PR s.last n s.all A1 A3 m)(hb:b.casks=some 0)(hd:x.Day<=day):match Uv n s x with
  | .inl s' =>∃A1' A3' m',YH l day D ((n:Int),s.last,A1,[b],A3,[m])=some (.next (((n+1:Nat):Int),s'.last,A1',[⟨some 0,n⟩],A3',[m']))/\PR s'.last (n+1) s'.all A1' A3' m'
  | .inr e=>YH l day D ((n:Int),s.last,A1,[b],A3,[m])=some (.done<|.inr (⟨e⟩,(n:Int),0,some 0))/\e≠0:=by
 have hnl:n < l.length:=(AC.1 hx).1;have hw:Q5 ((n:Int)+1)=((n+1:Nat):Int):=by rw[Qn (by omega)<|by omega];rfl
 have h1:decide ((n:Int) < (l.length:Int))=true:=nM (by omega);have nt:∀e,Zb true e=some (.ok ()):=λ_=>rfl;have nf:∀e,Zb false e=some (.pan ⟨e⟩):=λ_=>rfl;unfold YH Uv;simp only[h1,Rw,Zw,hx,DO,hd,nc,zu];cases hv:Xk x with
 | false=>
  simp only[r6,Rw,nf,Qw];exact⟨trivial,by decide⟩
 | true=>
  simp only[x6,By,T2,nt,Qw];by_cases hlt:x.Day < s.last
  ·have e:decide (x.Day≥s.last)=false:=nE (by omega);simp only[hlt,e,Rw,nf];exact⟨trivial,by decide⟩
  ·have e:decide (x.Day≥s.last)=true:=nM (by omega);simp only[hlt,e,T2,nt];have hday:=dc hv;have hsd:=ho.day;obtain⟨f,hf,hdo⟩:=hD x hv;have hok:=PG ho.ok (n:=x.Day - s.last) (by omega);have e0:s.last+(x.Day - s.last)=x.Day:=by omega
   rw[e0] at hok
   have hdoes:=hdo (b:=⟨some 0,(n:Int)⟩) (hr.shift (t' :=x.Day)<|by omega) hok hday.1 hday.2 rfl rfl rfl;have hbk:({b with event:=(n:Int)}:Ql)=⟨some 0,n⟩:=by rw[<-hb]
   simp only[IF,DO,QR,mn,hbk,hf];cases hds:Ft (s.all.map<|UB<|x.Day - s.last) x n with
   | inl all' =>
    rw[hds] at hdoes
    obtain⟨A1',A3',m',h2,h3⟩:=hdoes;rw[h2];simp only[hw];exact⟨A1',A3',m',rfl,h3⟩
   | inr er=>
    rw[hds] at hdoes
    obtain⟨h2,h3⟩:=hdoes;rw[h2];exact⟨rfl,h3⟩
theorem LW{n:Nat}{last:Int}{A1:UV QJ}{A2:UV Ql}{A3:FM}{A4:UV (UV<|Int×H1 Nat)}(h:∀x,l[n]? =some x->¬x.Day<=day)(hn:n<=l.length):YH l day D ((n:Int),last,A1,A2,A3,A4)=some (.done<|.inl ((n:Int),A1,A2,A3,A4)):=by
 unfold YH;cases hx:l[n]? with
 | none=>
  have:¬(n:Int) < (l.length:Int):=by
   have:=eL.1 hx;omega
  simp[this]
 | some x=>
  have hnl:n < l.length:=(AC.1 hx).1;have h1:decide ((n:Int) < (l.length:Int))=true:=nM (by omega);have h2:decide (x.Day<=day)=false:=nE<|h x hx;simp only[h1,Rw,Zw,hx,DO,h2,By,T2]
theorem EA(hD:kq D){l:UV Ev}{day:Int}(hl:l.length<=4096):∀(post pre:UV Ev) (s:A7) (A1:UV QJ) (A3:FM) (m:UV (Int×H1 Nat)) (b:Ql),l=pre++post->Hl pre.length s->PR s.last pre.length s.all A1 A3 m->b.casks=some 0->
  match CD day post pre.length s with
  | (.inl s',k)=>∃A1' A3' m' b',ZQ (YH l day D) ((pre.length:Int),s.last,A1,[b],A3,[m])=some (.inl ((k:Int),A1',[b'],A3',[m']))/\PR s'.last k s'.all A1' A3' m'/\b'.casks=some 0
  | (.inr e,k)=>ZQ (YH l day D) ((pre.length:Int),s.last,A1,[b],A3,[m])=some (.inr (⟨e⟩,(k:Int),0,some 0))/\e≠0
 | [],pre,s,A1,A3,m,b,e,ho,hr,hb=>by
  simp only[CD];refine⟨A1,A3,m,b,?_,hr,hb⟩;rw[ZC,LW (λx hx=>by rw[e] at hx;simp at hx) (by rw[e];simp)]
 | x::post,pre,s,A1,A3,m,b,e,ho,hr,hb=>by
  have hx:l[pre.length]? =some x:=VD e;have hn:pre.length<=4096:=by have:=XQ e;omega
  rw[ZC];by_cases hd:x.Day<=day
  ·have hst:=jE hD hx hn ho hr hb hd;simp only[CD,hd,Rw];cases hs:Uv pre.length s x with
   | inl s' =>
    rw[hs] at hst
    obtain⟨A1',A3',m',h1,h2⟩:=hst;rw[h1];have ih:=EA hD (day:=day) hl post (pre++[x]) s' A1' A3' m' ⟨some 0,(pre.length:Int)⟩ (by rw[e];simp) (by simpa using(TF ho hs).1) (by simpa using h2) rfl;simpa using ih
   | inr er=>
    rw[hs] at hst
    rw[hst.1];exact⟨rfl,hst.2⟩
  ·rw[LW (λy hy=>by rw[hx] at hy;cases hy;exact hd) (by have:=XQ e;omega)];simp only[CD,hd,T2];exact⟨A1,A3,m,b,rfl,hr,hb⟩
end
end
section
open Go.Dec
section
variable{t day:Int}{n:Nat}{all:UV Zj}{A1:UV QJ}{A3:FM}{m:UV (Int×H1 Nat)}
theorem EJ(hday:day<=1000000)(hok:∀(k:Nat) (c:QJ),A1[k]? =some c->0<=c.since/\c.since<=day/\∃F,Ec c.since n<|UF c F):∀(L:UV (Int×H1 Nat)) (s:UV QJ),(∀e∈L,∃k,e.2=some k/\k < A1.length)->(L.map Prod.snd).Nodup->s.length=A1.length->(∀k,some k∈L.map Prod.snd->s[k]? =A1[k]?)->
  ∃s',Yx (WG day) L s=some s'/\s'.length=A1.length/\∀i:Nat,s'[i]? =if some i∈L.map Prod.snd then(A1[i]?).map (XG day) else s[i]?
 | [],s,_,_,hl,_=>⟨s,rfl,hl,λi=>by simp⟩
 | e::L,s,hE,hN,hl,hs=>by
  obtain⟨k,hk,hkl⟩:=hE e<|by simp
  have hN' :some k∉L.map Prod.snd/\(L.map Prod.snd).Nodup:=by
   have:=mM.1 hN;rw[hk] at this;exact this
  have hc:A1[k]? =some A1[k]:=Nm hkl;have hsk:s[k]? =some A1[k]:=by rw[hs k<|by simp[hk]];exact hc
  obtain⟨h0,h1,F,hF⟩:=hok k _ hc
  have hb:WG day e s=some (s.set k<|XG day A1[k]):=by
   unfold WG;rw[hk,Li hsk hF h0 h1 hday];rfl
  obtain⟨s',g1,g2,g3⟩:=EJ hday hok L (s.set k<|XG day A1[k]) (λe' he' =>hE e'<|x8 _ he') hN'.2 (by simpa using hl) λk' hk' =>by
   have hne:k≠k' :=λe' =>hN'.1 (by rw[e'];exact hk');rw[nO hne];exact hs k' (by rw[s4];exact x8 _ hk')
  refine⟨s',by simp only[Yx,hb,DO];exact g1,g2,λi=> ?_⟩;rw[g3 i];by_cases hi:some i∈L.map Prod.snd
  ·rw[TO hi,TO (by rw[s4];exact x8 _ hi)]
  ·rw[RW hi];by_cases e' :k=i
   ·subst e';rw[nJ (by rw[hl];exact hkl),TO (by simp[hk]),hc];rfl
   ·rw[nO e',RW];rw[s4,j9,hk];rintro(h | h)
    ·exact e'<|by simpa using h.symm
    ·exact hi h
theorem yx(r:PR t n all A1 A3 m)(hd:t<=day)(hday:day<=65536):Cg (WG day) m A1=some (A1.map<|XG day)/\PR day n (all.map<|UB<|day - t) (A1.map<|XG day) A3 m/\∀c∈A1.map (XG day),c.since=day:=by
 have hlook:∀(k:Nat) (c:QJ),A1[k]? =some c->∃h,all[k]? =some h/\CR t n A3 c h:=λk c hc=>by
  have hk:k < all.length:=by rw[<-r.len];exact(AC.1 hc).1
  exact⟨all[k],Nm hk,r.each k c _ hc<|Nm hk⟩
 have hsnd:m.map Prod.snd=(List.range A1.length).map some:=by
  rw[r.map];apply mD;intro i;simp only[nV,lS];by_cases h:i < A1.length
  ·simp[h]
  ·simp[h]
 refine⟨Ia λl' hl' => ?_,⟨by simp[r.len],λk c h hc hh=> ?_,?_,λi j ci cj q h1 h2 h3 h4=> ?_⟩,λc hc=> ?_⟩
 ·have hp:=hl'.map Prod.snd
  have hmem:∀o,o∈l'.map Prod.snd↔∃i,i < A1.length/\o=some i:=λo=>by
   rw[hp.mem_iff,hsnd];simp only[ny,mL];exact⟨fun⟨i,h1,h2⟩=>⟨i,h1,h2.symm⟩,fun⟨i,h1,h2⟩=>⟨i,h1,h2.symm⟩⟩
  obtain⟨s',g1,g2,g3⟩:=EJ (day:=day) (A1:=A1) (n:=n) (by omega) (λk c hc=>by
   obtain⟨h,_,hcr⟩:=hlook k c hc
   exact⟨hcr.since.1,by have:=hcr.since.2;omega,_,hcr.ok⟩) l' A1 (λe he=>by
    obtain⟨i,h1,h2⟩:=(hmem e.2).1<|nB he;exact⟨i,h2,h1⟩) (hp.nodup_iff.2 (by rw[hsnd];exact List.nodup_range.map _ λa b hab e=>hab<|by simpa using e)) rfl λ_ _=>rfl
  rw[g1];congr 1;apply mD;intro i;rw[g3 i,nV];by_cases h:i < A1.length
  ·rw[TO<|(hmem _).2 ⟨i,h,rfl⟩]
  ·rw[RW (λh' =>by
    obtain⟨i',h1,h2⟩:=(hmem _).1 h';simp only[BY] at h2
    omega),mC<|by omega]
   rfl
 ·rw[nV] at hc hh
  cases h1:A1[k]? with
  | none=>rw[h1] at hc;cases hc
  | some c0=>
   obtain⟨h0,h2,hcr⟩:=hlook k c0 h1;rw[h1] at hc;rw[h2] at hh
   simp only[x7,BY] at hc hh
   subst hc;subst hh;exact(hcr.shift hd).rest
 ·rw[r.map];apply mD;intro i;simp only[lS,nV];cases A1[i]? with
  | none=>rfl
  | some c=>simp[P8]
 ·rw[nV] at h1 h2
  cases g1:A1[i]? with
  | none=>rw[g1] at h1;cases h1
  | some c1=>
   cases g2:A1[j]? with
   | none=>rw[g2] at h2;cases h2
   | some c2=>
    rw[g1] at h1;rw[g2] at h2
    simp only[x7,BY] at h1 h2
    subst h1;subst h2;rw[Cc] at h3 h4
    exact r.apart i j c1 c2 q g1 g2 h3 h4
 ·obtain⟨c0,_,rfl⟩:=ny.1 hc;exact XF
end
theorem PR.start:PR 0 0 [] [] [] []:=⟨rfl,λ_ _ _ h=>by simp at h,rfl,λ_ _ _ _ _ h=>by simp at h⟩
def Ou(day:Int)(r:(UV Zj ⊕ Int)×Nat)(o:H1 ((H1 Nat)×Int×Int×(UV QJ)×(UV Ql)×FM×(UV<|UV<|Int×H1 Nat))):Prop:=match r with
 | (.inl all,k)=>∃A1 b A3 m,o=some (some 0,(k:Int),0,A1,[b],A3,[m])/\b.casks=some 0/\PR day k all A1 A3 m/\(∀c∈A1,c.since=day)/\A9 day k all/\k<=4096/\0<=day/\day<=65536
 | (.inr e,k)=>o=some (none,(k:Int),e,[],[],[],[])/\e≠0
theorem Hr(l:UV Ev)(day:Int):Ou day (Ym l day) (XN l day):=by
 obtain⟨D,hD,hOK⟩:=An;unfold XN Ym;by_cases hl:l.length > 4096
 ·have:decide ((l.length:Int) > 4096)=true:=nM (by omega);simp only[this,hl,Rw];exact⟨rfl,by decide⟩
 ·have:decide ((l.length:Int) > 4096)=false:=nE (by omega);simp only[this,hl,T2,By];have e:YE day 0 65536=W8 day 0 65536:=rfl;rw[e];cases hb:W8 day 0 65536 with
  | false=>exact⟨rfl,by decide⟩
  | true=>
   have hday:=Yk.1 hb;simp only[x6,By,T2,QR,hD,DO,mN];have hloop:=EA (D:=D) hOK (l:=l) (day:=day) (by omega) l [] ⟨[],0⟩ [] [] [] ⟨some 0,0⟩ rfl Hl.start PR.start rfl;unfold RV;cases hg:CD day l 0 ⟨[],0⟩ with
   | mk r k=>
    have hg' :CD day l ([]:UV Ev).length ⟨[],0⟩=(r,k):=hg;rw[hg'] at hloop
    cases r with
    | inl s' =>
     obtain⟨A1',A3',m',b',h1,h2,h3⟩:=hloop;obtain⟨g1,g2,g3,g4⟩:=EI l 0 ⟨[],0⟩ s' k Hl.start (by show(0:Int)<=day;omega) hg;have h1' :ZQ (YH l day D) (0,0,[],[⟨some 0,0⟩],[],[[]])=_:=h1;obtain⟨p1,p2,p3⟩:=yx h2 g2 hday.2;have hok:=PG g1.ok (n:=day - s'.last) (by omega);rw[show s'.last+(day - s'.last)=day by omega] at hok
     refine⟨A1'.map<|XG day,b',A3',m',?_,h3,p2,p3,hok,by omega,hday.1,hday.2⟩;rw[h1',DO];simp only[IF,DO,h3,p1]
    | inr er=>
     have h1' :ZQ (YH l day D) (0,0,[],[⟨some 0,0⟩],[],[[]])=_:=hloop.1;refine⟨?_,hloop.2⟩;rw[h1',DO]
end
section
open Go.Dec
variable{all:UV Zj}
def zC:ZU:=⟨0,0,0,0,0,0,0,0,zN,zN⟩
def Gi(all:UV Zj)(num:Int):H1 Zj:=(Ye all num).bind λi=>all[i]?
def CW(l:UV Ev)(num day:Int):ZU×Int:=match(Ym l day).1 with
 | .inr e=>(zC,e)
 | .inl all=>match Gi all num with
  | none=>(zC,4)
  | some h=>(h.C,0)
def NN(l:UV Ev)(num day:Int):UV Int×Int:=match(Ym l day).1 with
 | .inr e=>([],e)
 | .inl all=>match Gi all num with
  | none=>([],4)
  | some h=>(h.Fills,0)
theorem Sa{l:UV Ev}{day e:Int}{k:Nat}(h:Ym l day=(.inr e,k)):e≠0:=by
 have:=Hr l day;rw[h] at this
 exact this.2
theorem Cf{l:UV Ev}{day:Int}{k:Nat}(h:Ym l day=(.inl all,k)):A9 day k all/\k<=4096/\0<=day/\day<=65536:=by
 have:=Hr l day;rw[h] at this
 obtain⟨_,_,_,_,_,_,_,_,h1,h2,h3,h4⟩:=this;exact⟨h1,h2,h3,h4⟩
theorem CR.now{t:Int}{n:Nat}{A3:FM}{c:QJ}{h:Zj}(r:CR t n A3 c h)(hs:c.since=t):h=UF c h.Fills:=by
 have:=r.eq;rw[hs,eg,TS] at this
 exact this
theorem PX{num:Int}{i:Nat}(h:Ye all num=some i):∃hh,all[i]? =some hh/\Gi all num=some hh:=by
 obtain⟨hh,h1,_⟩:=Sn h;exact⟨hh,h1,by simp[Gi,h,h1]⟩
theorem PR.look{t:Int}{n:Nat}{A1:UV QJ}{A3:FM}{m:UV (Int×H1 Nat)}(r:PR t n all A1 A3 m)(hs:∀c∈A1,c.since=t){i:Nat}{h:Zj}(hh:all[i]? =some h):∃c,A1[i]? =some c/\h=UF c h.Fills/\FR A3 c.fills h.Fills:=by
 have hi:i < A1.length:=by rw[r.len];exact(AC.1 hh).1
 have hc:A1[i]? =some A1[i]:=Nm hi;have hcr:=r.each i _ h hc hh;exact⟨_,hc,hcr.now<|hs _<|oX _,hcr.fills⟩
theorem w8(l:UV Ev)(num day:Int):Dq l num day=some (CW l num day):=by
 have hp:=Hr l day;unfold Dq CW;cases hpl:Ym l day with
 | mk r k=>
  rw[hpl] at hp
  cases r with
  | inr e=>
   rw[hp.1,DO];have:(e != 0)=true:=by simpa using hp.2
   simp only[this,Rw];rfl
  | inl all=>
   obtain⟨A1,b,A3,m,h1,hb,hr,hs,_⟩:=hp;rw[h1,DO];have e0:((0:Int) != 0)=false:=rfl;simp only[e0,By,T2,DO,IF,hb,hr.get];cases hf:Ye all num with
   | none=>simp[Gi,hf];rfl
   | some i=>
    obtain⟨h,hh,hfh⟩:=PX hf;obtain⟨c,hc,hraw,_⟩:=hr.look hs hh;simp only[eE,By,T2,hfh];unfold Yp;simp only[DO,hc];have:h.C=(UF c h.Fills).C:=by rw[<-hraw]
    rw[this];rfl
end
section
open Go.Dec
def L4(all:UV Zj):UV Int:=(all.map (·.C.Number)).mergeSort λa b=>decide<|a<=b
def fl(all:UV Zj):UV Zj:=(L4 all).filterMap<|Gi all
theorem Lz(all:UV Zj):(L4 all).Perm (all.map (·.C.Number)):=eA _ _
theorem wO{all:UV Zj}{num:Int}(h:num∈all.map (·.C.Number)):∃i hh,Ye all num=some i/\all[i]? =some hh/\Gi all num=some hh/\hh.C.Number=num:=by
 cases hf:Ye all num with
 | none=>
  obtain⟨x,hx,e⟩:=ny.1 h;exact absurd e (Sp hf x hx)
 | some i=>
  obtain⟨hh,h1,h2⟩:=PX hf;obtain⟨h',h3,h4⟩:=Sn hf;rw[h1] at h3;cases h3
  exact⟨i,hh,rfl,h1,h2,h4⟩
section
variable{t:Int}{n:Nat}{all:UV Zj}{A1:UV QJ}{A3:FM}{m:UV (Int×H1 Nat)}{b:Ql}
theorem wG(r:PR t n all A1 A3 m)(ho:A9 t n all):Gg m=some (L4 all):=by
 have hk:m.map Prod.fst=all.map (·.C.Number):=by
  rw[r.map];apply mD;intro i;simp only[nV,lS];by_cases h:i < A1.length
  ·have h2:i < all.length:=by rw[<-r.len];exact h
   rw[Nm h,Nm h2];simp only[x7];rw[(r.each i _ _ (Nm h)<|Nm h2).number]
  ·rw[mC (by omega),mC (by rw[<-r.len];omega)];rfl
 have hl:m.length=all.length:=by rw[<-lz (f:=Prod.fst),hk,lz]
 have hall:m.all (λx=>decide<|-9223372036854775808<=x.1/\x.1<=9223372036854775807)=true:=s7.2 λx hx=>by
  have h1:x.1∈all.map (·.C.Number):=by rw[<-hk];exact nB hx
  obtain⟨h,hh,e⟩:=ny.1 h1;have:=(ho.each h hh).num;simp only[IR];omega
 unfold Gg;rw[TO ⟨hall,by have:=ho.few;omega⟩,hk];rfl
theorem E8(r:PR t n all A1 A3 m)(ho:A9 t n all)(hb:b.casks=some 0):VV [b] [m] (some 0)=some ((L4 all).map<|Ye all):=by
 unfold VV;simp only[DO,IF,hb,wG r ho];congr 1;exact List.map_congr_left λk _=>r.get k
theorem EK(hs:∀c∈A1,c.since=t)(r:PR t n all A1 A3 m):∀(ks:UV Int) (out:UV ZU),(∀k∈ks,k∈all.map (·.C.Number))->out.length+ks.length<=1000000->
  Yx Xx (ks.map<|Ye all) (out,A1)=some (out++(ks.filterMap<|Gi all).map (·.C),A1)
 | [],out,_,_=>by simp[Yx]
 | k::ks,out,hk,hl=>by
  obtain⟨i,h,h1,h2,h3,h4⟩:=wO (hk k<|by simp);obtain⟨c,hc,hraw,_⟩:=r.look hs h2
  have hsh:Yp A1 (some i)=some h.C:=by
   unfold Yp;simp only[DO,hc];have:h.C=(UF c h.Fills).C:=by rw[<-hraw]
   rw[this];rfl
  have hb:Xx (some i) (out,A1)=some (out++[h.C],A1):=by
   unfold Xx;rw[hsh,DO];simp only[s6] at hl
   rw[Ay (by simp;omega)];rfl
  simp only[s4,Yx,h1,hb,DO];rw[EK hs r ks (out++[h.C]) (λk' hk' =>hk k'<|x8 _ hk') (by simp at hl ⊢;omega)];rw[List.filterMap_cons,h3];simp
end
def Tu(l:UV Ev)(day:Int):UV ZU×Int×Int:=match Ym l day with
 | (.inr e,k)=>([],(k:Int),e)
 | (.inl all,k)=>((fl all).map (·.C),(k:Int),0)
theorem Su(l:UV Ev)(day:Int):H9 l day=some (Tu l day):=by
 have hp:=Hr l day;unfold H9 Tu;cases hpl:Ym l day with
 | mk r k=>
  rw[hpl] at hp
  cases r with
  | inr e=>
   rw[hp.1,DO];have:(e != 0)=true:=by simpa using hp.2
   simp only[this,Rw]
  | inl all=>
   obtain⟨A1,b,A3,m,h1,hb,hr,hs,hok,hk,_⟩:=hp;rw[h1,DO];have e0:((0:Int) != 0)=false:=rfl;simp only[e0,By,T2,DO];rw[E8 hr hok hb,DO];have hlen:(L4 all).length=all.length:=by rw[(Lz all).length_eq];simp
   rw[EK hs hr (L4 all) [] (λk hk=>(Lz all).mem_iff.1 hk) (by have:=hok.few;simp;omega),DO];rfl
end
section
open Go.Dec
theorem Mn{A3:FM}{p:H1 Nat}{F:UV Int}{n:Nat}(h:FR A3 p F)(hF:F.Pairwise (·< ·)/\∀f∈F,0<=f/\f < n)(hn:n<=4096):Vz A3 p=some F:=by
 cases p with
 | none=>have:F=[]:=h;subst this;rfl
 | some j=>
  obtain⟨l,h1,h2,h3⟩:=h;have hFn:F.Nodup:=hF.1.imp λh=>iG h;have hperm:(l.map Prod.fst).Perm F:=(oo h2 hFn).2 λx=>(h3 x).symm;have hlen:l.length=F.length:=by rw[<-hperm.length_eq];simp
  have hfl:=Aa 0 hF.1 (n:=n) hF.2<|by omega
  have hall:l.all (λx=>decide<|-9223372036854775808<=x.1/\x.1<=9223372036854775807)=true:=s7.2 λx hx=>by
   have:=hF.2 x.1<|(h3 x.1).2<|nB hx;simp only[IR];omega
  have hk:Gg l=some ((l.map Prod.fst).mergeSort λa b=>decide<|a<=b):=by
   unfold Gg;rw[TO ⟨hall,by omega⟩]
  have e:Vz A3 (some j)=Gg l:=by simp[Vz,h1]
  rw[e,hk,z8 hperm];congr 1;exact List.mergeSort_of_pairwise<|hF.1.imp λh=>by simpa using Int.le_of_lt h
theorem Ot(l:UV Ev)(num day:Int):XP l num day=some (NN l num day):=by
 have hp:=Hr l day;unfold XP NN;cases hpl:Ym l day with
 | mk r k=>
  rw[hpl] at hp
  cases r with
  | inr e=>
   rw[hp.1,DO];have:(e != 0)=true:=by simpa using hp.2
   simp only[this,Rw]
  | inl all=>
   obtain⟨A1,b,A3,m,h1,hb,hr,hs,hok,hk,_⟩:=hp;rw[h1,DO];have e0:((0:Int) != 0)=false:=rfl;simp only[e0,By,T2,DO,IF,hb,hr.get];cases hf:Ye all num with
   | none=>simp[Gi,hf]
   | some i=>
    obtain⟨h,hh,hfh⟩:=PX hf;obtain⟨c,hc,hraw,hfr⟩:=hr.look hs hh;have hho:=hok.each h<|s8 hh;simp only[eE,By,T2,hfh,DO,hc];rw[Mn hfr hho.fills hk];rfl
end
end Go.Proofs.YtepbamgmocpemaaGreatDoor.Ca
namespace Go.Proofs.YtepbamgmocpemaaGreatDoor.Ex
section
open Go.Dec
variable{f:QE->Int}{j:Nat}{v a:Int}
structure Acc where
 B:ZV
 Ids:List Int
 Sums:Nat->Int
abbrev Ev:=QP
abbrev FG:=Q4
variable{r:FG}
abbrev Bk:=ZV
abbrev zN:Nat->Int:=λ_=>0
def W8(n a b:Int):Bool:=decide (n≥a)&&decide (n<=b)
def Gy:Int->UV Z5->Bool
 | _,[]=>true
 | last,x::l=>W8 x.From 0 65536&&decide (last < x.From)&&W8 x.Rate 0 1048576&&Gy x.From l
def OR:UV Z5->Bool
 | x::_=>x.From==0
 | []=>false
def GW(r:FG):Bool:=W8 r.Rates.length 1 64&&OR r.Rates&&W8 r.Transit 0 65536&&W8 r.Loss 0 10000&&W8 r.Share 0 1000&&Gy (-1) r.Rates
def DF(l:UV Z5)(day:Int):Int:=l.foldl (λown x=>if x.From<=day then x.Rate else own) 0
def Wr(r:FG)(amount day:Int):Int:=amount*DF r.Rates day / 1000
def CB(n:Int):Bool:=W8 n 0 15
def Xk(x:Ev):Bool:=
 W8 x.Day 0 65536&&
 (if x.Kind==0||x.Kind==3||x.Kind==4 then CB x.Bond&&W8 x.Amount 1 17179869184
  else if x.Kind==1 then CB x.Bond&&CB x.To&&W8 x.Id 0 1073741824&&W8 x.Amount 1 17179869184
  else if x.Kind==2 then CB x.Bond&&W8 x.Id 0 1073741824&&W8 x.Amount 0 17179869184
  else if x.Kind==5 then CB x.Bond&&W8 x.Amount 0 17179869184
  else if x.Kind==6 then W8 x.Amount 1 72057594037927936 else false)
def ZN(r:FG)(p:QE):Int:=p.Sent+r.Transit+1
def Yl(f:QE->Int):UV QE->Int
 | []=>0
 | p::l=>f p+Yl f l
def XJ(r:FG)(t d:Int)(s:Acc):Acc:=
 {s with
  B:={s.B with
   Moving:=s.B.Moving.filter λp=>decide<|d < ZN r p,
   Used:=s.B.Used+Yl QE.Amount (s.B.Moving.filter λp=> !decide (d < ZN r p)),
   Due:=s.B.Due+Yl (λp=>Wr r p.Amount<|ZN r p) (s.B.Moving.filter λp=> !decide (d < ZN r p))},
  Sums:=λi=>if i < 16 then s.Sums i+s.B.Bonds i*(d - t) else s.Sums i}
def B5(r:FG)(day lost allowed:Int)(s:Acc):Acc:={s with B:={s.B with Lost:=s.B.Lost+Jj lost allowed,Charged:=s.B.Charged+(lost - Jj lost allowed),Due:=s.B.Due+Wr r (lost - Jj lost allowed) day}}
def Um(s:Acc)(x:Ev)(n:Int):Acc:={s with B:={s.B with Bonds:=ZM s.B.Bonds x.Bond.toNat n}}
def Ek(r:FG)(amount day:Int)(s:Acc):Acc:={s with B:={s.B with Used:=s.B.Used+amount,Due:=s.B.Due+Wr r amount day}}
def Zx(s:Acc)(x:Ev):Int:=s.B.Bonds x.Bond.toNat
def BS(p:QE):UV QE->UV QE
 | []=>[p]
 | q::l=>if q.Id < p.Id then q::BS p l else p::q::l
def qz(x:Ev):QE:=⟨x.Id,x.Bond,x.To,x.Day,x.Amount⟩
def Ss(s:Acc)(x:Ev):Acc ⊕ Int:=if Zx s x+x.Amount > 17179869184 then .inr 12 else .inl {Um s x (Zx s x+x.Amount) with B:={(Um s x<|Zx s x+x.Amount).B with Made:=s.B.Made+x.Amount}}
def La(s:Acc)(x:Ev):Acc ⊕ Int:=
 if x.Bond==x.To then .inr 11 else if s.Ids.contains x.Id then .inr 5 else if Zx s x < x.Amount then .inr 10
 else .inl {Um s x (Zx s x - x.Amount) with B:={(Um s x<|Zx s x - x.Amount).B with Moving:=BS (qz x) s.B.Moving},Ids:=s.Ids++[x.Id]}
def I0(r:FG)(s:Acc)(x:Ev)(p:QE):Acc:=
 B5 r x.Day (imax 0<|p.Amount - x.Amount) (p.Amount*r.Loss / 10000)
  {Um s x (Zx s x+x.Amount) with B:={(Um s x<|Zx s x+x.Amount).B with Moving:=s.B.Moving.filter λq=> !(q.Id==x.Id),Found:=s.B.Found+imax 0 (x.Amount - p.Amount)}}
def Ce(r:FG)(s:Acc)(x:Ev):Acc ⊕ Int:=
 match s.B.Moving.find? (λq=>q.Id==x.Id) with
 | none=>.inr 4
 | some p=>if p.To != x.Bond then .inr 11 else if Zx s x+x.Amount > 17179869184 then .inr 12 else .inl (I0 r s x p)
def Dm(r:FG)(s:Acc)(x:Ev):Acc ⊕ Int:=if Zx s x < x.Amount then .inr 10 else .inl (Ek r x.Amount x.Day<|Um s x<|Zx s x - x.Amount)
def Sq(s:Acc)(x:Ev):Acc ⊕ Int:=if Zx s x < x.Amount then .inr 10 else .inl {Um s x (Zx s x - x.Amount) with B:={(Um s x<|Zx s x - x.Amount).B with Exported:=s.B.Exported+x.Amount}}
def P3(r:FG)(s:Acc)(x:Ev):Acc:=
 B5 r x.Day (imax 0<|Zx s x - x.Amount) (s.Sums x.Bond.toNat*r.Share / 3650000)
  {Um s x x.Amount with B:={(Um s x x.Amount).B with Found:=s.B.Found+imax 0 (x.Amount - Zx s x)},Sums:=ZM s.Sums x.Bond.toNat 0}
def jU(s:Acc)(x:Ev):Acc ⊕ Int:=if x.Amount > s.B.Due - s.B.Paid then .inr 11 else .inl {s with B:={s.B with Paid:=s.B.Paid+x.Amount}}
def Ft(r:FG)(s:Acc)(x:Ev):Acc ⊕ Int:=
 if x.Kind==0 then Ss s x else if x.Kind==1 then La s x else if x.Kind==2 then Ce r s x else if x.Kind==3 then Dm r s x
 else if x.Kind==4 then Sq s x else if x.Kind==5 then .inl (P3 r s x) else if x.Kind==6 then jU s x else .inl s
structure A7 where
 acc:Acc
 day:Int
def Uv(r:FG)(s:A7)(x:Ev):A7 ⊕ Int:=
 if !Xk x then .inr 1 else if x.Day < s.day then .inr 7
 else match Ft r (XJ r s.day x.Day s.acc) x with
  | .inl a=>.inl ⟨a,x.Day⟩
  | .inr e=>.inr e
def CD(r:FG)(day:Int):UV Ev->Nat->A7->(A7 ⊕ Int)×Nat
 | [],n,s=>(.inl s,n)
 | x::l,n,s=>if x.Day<=day then match Uv r s x with
   | .inl s' =>CD r day l (n+1) s'
   | .inr e=>(.inr e,n)
  else(.inl s,n)
def CS:Acc:=⟨⟨zN,[],0,0,0,0,0,0,0,0⟩,[],zN⟩
def MH:A7:=⟨CS,0⟩
def RV(r:FG)(day:Int)(l:UV Ev)(n:Nat)(s:A7):(Acc ⊕ Int)×Nat:=match CD r day l n s with
 | (.inl s',k)=>(.inl<|XJ r s'.day day s'.acc,k)
 | (.inr e,k)=>(.inr e,k)
def Ym(r:FG)(l:UV Ev)(day:Int):(Acc ⊕ Int)×Nat:=if !GW r then(.inr 1,0) else if l.length > 4096 then(.inr 3,0) else if !W8 day 0 65536 then(.inr 2,0) else RV r day l 0 MH
theorem Yk{n b:Int}:W8 n a b=true↔a<=n/\n<=b:=by simp[W8]
theorem WL{f:Nat->Int}:ZM f j v j=v:=by simp[ZM]
theorem Xb{f:Nat->Int}{k:Nat}(h:k≠j):ZM f j v k=f k:=by
 unfold ZM
 have:Nat.beq k j=false:=by
  cases hb:Nat.beq k j with
  | false=>rfl
  | true=>exact absurd (rW hb) h
 rw[this]
def ND(f:Nat->Int):Nat->Int
 | 0=>0
 | n+1=>ND f n+f n
theorem TE{f:Nat->Int}:∀{n:Nat},n<=j->ND (ZM f j v) n=ND f n
 | 0,_=>rfl
 | n+1,h=>by simp only[ND];rw[TE (by omega),Xb<|by omega]
theorem FJ{f:Nat->Int}:∀{n:Nat},j < n->ND (ZM f j v) n=ND f n+v - f j
 | n+1,h=>by
  simp only[ND];by_cases e:n=j
  ·subst e;rw[TE<|IN _,WL];omega
  ·rw[FJ (by omega),Xb e];omega
theorem O7{f:Nat->Int}:∀{n:Nat},(∀i,i < n->0<=f i)->0<=ND f n
 | 0,_=>nQ _
 | n+1,h=>by have:=O7 (n:=n) (λi hi=>h i<|by omega);have:=h n (by omega);simp only[ND];omega
theorem FL:∀{l:UV QE},(∀p∈l,0<=f p)->0<=Yl f l
 | [],_=>nQ _
 | p::l,h=>by have:=FL (l:=l) λq hq=>h q<|x8 _ hq;have:=h p<|nX ..;simp only[Yl];omega
theorem El{g:QE->Int}:∀{l:UV QE},(∀p∈l,f p<=g p)->Yl f l<=Yl g l
 | [],_=>nQ _
 | p::l,h=>by have:=El (l:=l) λq hq=>h q<|x8 _ hq;have:=h p<|nX ..;simp only[Yl];omega
theorem NH{k:Int}:∀{l:UV QE},Yl (λp=>k*f p) l=k*Yl f l
 | []=>by simp[Yl]
 | p::l=>by simp only[Yl,NH (l:=l),iN]
theorem FK{f:QE->Int}{c:QE->Bool}:∀{l:UV QE},Yl f (l.filter c)+Yl f (l.filter λp=> !c p)=Yl f l
 | []=>rfl
 | p::l=>by
  have:=FK (f:=f) (c:=c) (l:=l);cases h:c p<;>simp only[nu,h,x6,r6,Rw,By,T2,Yl]<;>omega
theorem Df{l k:UV QE}(h:l.Perm k):Yl f l=Yl f k:=by
 induction h with
 | nil=>rfl
 | cons x _ ih=>simp only[Yl,ih]
 | swap x y l=>simp only[Yl];omega
 | trans _ _ h1 h2=>exact h1.trans h2
structure VU(r:FG):Prop where
 rates:∀x∈r.Rates,0<=x.From/\x.From<=65536/\0<=x.Rate/\x.Rate<=1048576
 sorted:r.Rates.Pairwise (λx y=>x.From < y.From)
 first:∃x l,r.Rates=x::l/\x.From=0
 len:r.Rates.length<=64
 transit:0<=r.Transit/\r.Transit<=65536
 loss:0<=r.Loss/\r.Loss<=10000
 share:0<=r.Share/\r.Share<=1000
theorem RB:∀{last:Int} {l:UV Z5},Gy last l=true↔(∀x∈l,0<=x.From/\x.From<=65536/\0<=x.Rate/\x.Rate<=1048576)/\l.Pairwise (λx y=>x.From < y.From)/\∀x∈l,last < x.From
 | last,[]=>by simp[Gy]
 | last,x::l=>by
  simp only[Gy,AT,Yk,IR,RB (last:=x.From) (l:=l),aT,List.forall_mem_cons];constructor
  ·rintro⟨⟨⟨h1,h2⟩,h3⟩,h4,h5,h6⟩;exact⟨⟨⟨h1.1,h1.2,h3.1,h3.2⟩,h4⟩,⟨h6,h5⟩,h2,λy hy=>by have:=h6 y hy;omega⟩
  ·rintro⟨⟨⟨h1,h2,h3,h4⟩,h5⟩,⟨h6,h7⟩,h8,_⟩;exact⟨⟨⟨⟨h1,h2⟩,h8⟩,h3,h4⟩,h5,h7,h6⟩
theorem PA:GW r=true↔VU r:=by
 unfold GW;simp only[AT,Yk,RB];constructor
 ·rintro⟨⟨⟨⟨⟨h1,h2⟩,h3⟩,h4⟩,h5⟩,h6,h7,h8⟩;refine⟨h6,h7,?_,by omega,h3,h4,h5⟩;cases e:r.Rates with
  | nil=>rw[e] at h2;cases h2
  | cons x l=>rw[e] at h2;exact⟨x,l,rfl,by simpa[OR] using h2⟩
 ·intro h;obtain⟨x,l,e,e0⟩:=h.first;refine⟨⟨⟨⟨⟨⟨?_,?_⟩,?_⟩,h.transit⟩,h.loss⟩,h.share⟩,h.rates,h.sorted,λy hy=> ?_⟩
  ·rw[e];simp;omega
  ·have:=h.len;omega
  ·rw[e];simp[OR,e0]
  ·have:=(h.rates y hy).1;omega
theorem IW{l:UV Z5}{day:Int}(h:∀x∈l,0<=x.Rate/\x.Rate<=1048576):0<=DF l day/\DF l day<=1048576:=by
 have:∀(l:UV Z5) (a:Int),(∀x∈l,0<=x.Rate/\x.Rate<=1048576)->0<=a/\a<=1048576->0<=l.foldl (λown x=>if x.From<=day then x.Rate else own) a/\l.foldl (λown x=>if x.From<=day then x.Rate else own) a<=1048576:=by
  intro l
  induction l with
  | nil=>intro a _ h;exact h
  | cons x l ih=>
   intro a hl ha;refine ih _ (λy hy=>hl y<|x8 _ hy) ?_;have:=hl x<|nX ..;show 0<=(if x.From<=day then x.Rate else a)/\(if x.From<=day then x.Rate else a)<=1048576;split
   ·exact this
   ·exact ha
 exact this l 0 h<|by omega
theorem VU.rL(h:VU r)(day:Int):0<=DF r.Rates day/\DF r.Rates day<=1048576:=IW λx hx=>⟨(h.rates x hx).2.2.1,(h.rates x hx).2.2.2⟩
theorem VU.ca(h:VU r){d:Int}(ha:0<=a):0<=Wr r a d/\Wr r a d<=1049*a:=by
 have h1:=h.rL d;unfold Wr;have h2:0<=a*DF r.Rates d:=mZ ha h1.1;have h3:a*DF r.Rates d<=a*1048576:=mK h1.2 ha;constructor<;>omega
theorem VU.tZ(h:VU r){d:Int}(ha:0<=a)(hb:a<=17179869184):0<=a*DF r.Rates d/\a*DF r.Rates d<=18014398509481984:=by
 have h1:=h.rL d;have h3:a*DF r.Rates d<=a*1048576:=mK h1.2 ha;exact⟨mZ ha h1.1,by omega⟩
end
section
open Go.Dec
variable{q p:QE}{l:UV QE}
structure dm(r:FG)(t:Int)(p:QE):Prop where
 amount:1<=p.Amount/\p.Amount<=17179869184
 id:0<=p.Id/\p.Id<=1073741824
 fro:0<=p.From/\p.From<=15
 tow:0<=p.To/\p.To<=15
 ne:p.From≠p.To
 sent:0<=p.Sent/\p.Sent<=t
 late:t < ZN r p
structure Hl(r:FG)(n:Nat)(t:Int)(s:Acc):Prop where
 bonds:∀i,i < 16->0<=s.B.Bonds i/\s.B.Bonds i<=17179869184
 sums:∀i,i < 16->0<=s.Sums i/\s.Sums i<=t*17179869184
 sorted:s.B.Moving.Pairwise (λp q=>p.Id < q.Id)
 mov:∀p∈s.B.Moving,dm r t p
 known:∀p∈s.B.Moving,p.Id∈s.Ids
 ids:∀i∈s.Ids,0<=i/\i<=1073741824
 mlen:s.B.Moving.length<=n
 ilen:s.Ids.length<=n
 pos:0<=s.B.Made/\0<=s.B.Found/\0<=s.B.Used/\0<=s.B.Exported/\0<=s.B.Lost/\0<=s.B.Charged/\0<=s.B.Paid/\s.B.Paid<=s.B.Due
 made:s.B.Made+s.B.Found<=n*17179869184
 whole:s.B.Used+s.B.Exported+s.B.Lost+s.B.Charged+ND s.B.Bonds 16+Yl QE.Amount s.B.Moving=s.B.Made+s.B.Found
 due:s.B.Due<=1049*(s.B.Used+s.B.Charged)
 out:∀i,16<=i->s.B.Bonds i=0
variable{r:FG}{n:Nat}{t d:Int}{s:Acc}{x:Ev}{p:QE}
theorem Og(r:FG):Hl r 0 0 CS where
 bonds:=λi _=>by simp[CS]
 sums:=λi _=>by simp[CS]
 sorted:=List.Pairwise.nil
 mov:=λ_ h=>by cases h
 known:=λ_ h=>by cases h
 ids:=λ_ h=>by cases h
 mlen:=IN _
 ilen:=IN _
 pos:=by simp[CS]
 made:=by simp[CS]
 whole:=by simp[CS,ND,Yl]
 due:=by simp[CS]
 out:=λi _=>rfl
theorem Hl.lim(h:Hl r n t s):s.B.Used<=n*17179869184/\s.B.Exported<=n*17179869184/\s.B.Lost<=n*17179869184/\s.B.Charged<=n*17179869184/\s.B.Used+s.B.Charged+Yl QE.Amount s.B.Moving<=n*17179869184/\s.B.Made<=n*17179869184/\s.B.Found<=n*17179869184/\0<=Yl QE.Amount s.B.Moving:=by
 have h1:=h.pos;have h2:=h.made;have h3:=h.whole;have h4:=O7 (n:=16) λi hi=>(h.bonds i hi).1;have h5:0<=Yl QE.Amount s.B.Moving:=FL λp hp=>by have:=(h.mov p hp).amount.1;omega
 refine⟨?_,?_,?_,?_,?_,?_,?_,?_⟩<;>omega
theorem E5(hr:VU r)(h:Hl r n t s)(le:t<=d):Hl r n d (XJ r t d s) where
 bonds:=h.bonds
 sums:=λi hi=>by
  have h1:=h.sums i hi;have h2:=h.bonds i hi;simp only[XJ,hi,Rw];have h3:0<=s.B.Bonds i*(d - t):=mZ h2.1 (by omega);have h4:s.B.Bonds i*(d - t)<=17179869184*(d - t):=lv h2.2 (by omega);constructor
  ·omega
  ·omega
 sorted:=h.sorted.filter _
 mov:=λp hp=>by
  have h1:=nU.1 hp;have h2:=h.mov p h1.1;exact⟨h2.amount,h2.id,h2.fro,h2.tow,h2.ne,⟨h2.sent.1,by have:=h2.sent.2;omega⟩,by simpa using h1.2⟩
 known:=λp hp=>h.known p (nU.1 hp).1
 ids:=h.ids
 mlen:=me (eu _ _) h.mlen
 ilen:=h.ilen
 pos:=by
  have h1:=h.pos;have h2:0<=Yl QE.Amount (s.B.Moving.filter λp=> !decide (d < ZN r p)):=FL λp hp=>by have:=(h.mov p (nU.1 hp).1).amount.1;omega
  have h3:0<=Yl (λp=>Wr r p.Amount<|ZN r p) (s.B.Moving.filter λp=> !decide (d < ZN r p)):=FL λp hp=>by have:=(h.mov p (nU.1 hp).1).amount.1;exact(hr.ca<|by omega).1
  simp only[XJ];refine⟨?_,?_,?_,?_,?_,?_,?_,?_⟩<;>omega
 made:=h.made
 whole:=by
  have h1:=h.whole;have h2:=FK (f:=QE.Amount) (c:=λp=>decide<|d < ZN r p) (l:=s.B.Moving);simp only[XJ];omega
 due:=by
  have h1:=h.due;have h3:Yl (λp=>Wr r p.Amount<|ZN r p) (s.B.Moving.filter λp=> !decide (d < ZN r p))<=Yl (λp=>1049*p.Amount) (s.B.Moving.filter λp=> !decide (d < ZN r p)):=El λp hp=>by have:=(h.mov p (nU.1 hp).1).amount.1;exact(hr.ca<|by omega).2
  rw[NH] at h3
  simp only[XJ];omega
 out:=h.out
theorem jV{u:Int}(h2:u<=d):XJ r u d (XJ r t u s)=XJ r t d s:=by
 have e1:(s.B.Moving.filter λp=>decide<|u < ZN r p).filter (λp=>decide<|d < ZN r p)=s.B.Moving.filter (λp=>decide<|d < ZN r p):=by
  rw[mq];refine nT λp _=> ?_;by_cases h:d < ZN r p
  ·simp[h];omega
  ·simp[h]
 have e2 (f:QE->Int):Yl f (s.B.Moving.filter λp=> !decide (u < ZN r p))+Yl f ((s.B.Moving.filter λp=>decide<|u < ZN r p).filter λp=> !decide (d < ZN r p))=Yl f (s.B.Moving.filter λp=> !decide (d < ZN r p)):=by
  have:=FK (f:=f) (c:=λp=>decide<|u < ZN r p) (l:=s.B.Moving.filter λp=> !decide (d < ZN r p));rw[mq,mq] at this
  rw[mq,<-this]
  have a1:s.B.Moving.filter (λp=> !decide (u < ZN r p))=s.B.Moving.filter (λp=>(!decide (u < ZN r p))&& !decide (d < ZN r p)):=nT λp _=>by
   by_cases h:u < ZN r p
   ·simp[h]
   ·simp[h];omega
  have a2:s.B.Moving.filter (λp=>(!decide (d < ZN r p))&&decide (u < ZN r p))=s.B.Moving.filter (λp=>decide (u < ZN r p)&& !decide (d < ZN r p)):=nT λp _=>iA _ _;rw[<-a1,a2];omega
 have e3:(λi=>if i < 16 then(if i < 16 then s.Sums i+s.B.Bonds i*(u - t) else s.Sums i)+s.B.Bonds i*(d - u) else(if i < 16 then s.Sums i+s.B.Bonds i*(u - t) else s.Sums i))=(λi=>if i < 16 then s.Sums i+s.B.Bonds i*(d - t) else s.Sums i):=by
  funext i;by_cases h:i < 16
  ·simp only[h,Rw];have:s.B.Bonds i*(d - t)=s.B.Bonds i*(u - t)+s.B.Bonds i*(d - u):=by rw[<-iN];congr 1;omega
   omega
  ·simp only[h,T2]
 have e4:=e2 QE.Amount;have e5:=e2 λp=>Wr r p.Amount<|ZN r p;simp only[XJ,e1];rw[e3,o8,e4,o8,e5]
theorem vj(h:Xk x=true):0<=x.Day/\x.Day<=65536:=by
 unfold Xk at h;simp only[AT,Yk] at h;exact h.1
theorem Dx(h:Xk x=true)(hk:x.Kind=0∨x.Kind=3∨x.Kind=4):(0<=x.Bond/\x.Bond<=15)/\1<=x.Amount/\x.Amount<=17179869184:=by
 unfold Xk at h
 have:(x.Kind==0||x.Kind==3||x.Kind==4)=true:=by rcases hk with e | e | e<;>simp[e]
 rw[this] at h
 simpa[Yk,CB] using(my.1 h).2
theorem kV(h:Xk x=true)(hk:x.Kind=1):(0<=x.Bond/\x.Bond<=15)/\(0<=x.To/\x.To<=15)/\(0<=x.Id/\x.Id<=1073741824)/\1<=x.Amount/\x.Amount<=17179869184:=by
 unfold Xk at h
 simp only[hk] at h
 simpa[Yk,CB,iB] using(my.1 h).2
theorem N9(h:Xk x=true)(hk:x.Kind=2):(0<=x.Bond/\x.Bond<=15)/\(0<=x.Id/\x.Id<=1073741824)/\0<=x.Amount/\x.Amount<=17179869184:=by
 unfold Xk at h
 simp only[hk] at h
 simpa[Yk,CB,iB] using(my.1 h).2
theorem kU(h:Xk x=true)(hk:x.Kind=5):(0<=x.Bond/\x.Bond<=15)/\0<=x.Amount/\x.Amount<=17179869184:=by
 unfold Xk at h
 simp only[hk] at h
 simpa[Yk,CB,iB] using(my.1 h).2
theorem vi(h:Xk x=true)(hk:x.Kind=6):1<=x.Amount/\x.Amount<=72057594037927936:=by
 unfold Xk at h
 simp only[hk] at h
 simpa[Yk,CB,iB] using(my.1 h).2
theorem I7(h:Xk x=true):x.Kind=0∨x.Kind=1∨x.Kind=2∨x.Kind=3∨x.Kind=4∨x.Kind=5∨x.Kind=6:=by
 unfold Xk at h
 have h2:=(my.1 h).2;by_cases h0:x.Kind=0
 ·exact .inl h0
 by_cases h1:x.Kind=1
 ·exact .inr<|.inl h1
 by_cases h3:x.Kind=2
 ·exact .inr<|.inr<|.inl h3
 by_cases h4:x.Kind=3
 ·exact .inr<|.inr<|.inr<|.inl h4
 by_cases h5:x.Kind=4
 ·exact .inr<|.inr<|.inr<|.inr<|.inl h5
 by_cases h6:x.Kind=5
 ·exact .inr<|.inr<|.inr<|.inr<|.inr<|.inl h6
 by_cases h7:x.Kind=6
 ·exact .inr<|.inr<|.inr<|.inr<|.inr<|.inr h7
 ·simp[h0,h1,h3,h4,h5,h6,h7] at h2
theorem Cn:∀{l:UV QE},(BS q l).Perm (q::l)
 | []=>.refl _
 | y::l=>by
  simp only[BS];split
  ·exact(Cn.cons y).trans<|.swap _ _ _
  ·exact .refl _
theorem OJ{y:QE}:y∈BS q l↔y=q∨y∈l:=by
 rw[Cn.mem_iff,j9]
theorem Fa:∀{l:UV QE},l.Pairwise (λp q=>p.Id < q.Id)->(∀p∈l,p.Id≠q.Id)->(BS q l).Pairwise (λp q=>p.Id < q.Id)
 | [],_,_=>by simp[BS]
 | y::l,h,hn=>by
  have hy:=aT.1 h;simp only[BS];split
  ·rename_i hlt;refine aT.2 ⟨λa ha=> ?_,Fa hy.2 λp hp=>hn p<|x8 _ hp⟩;rcases OJ.1 ha with rfl | ha
   ·exact hlt
   ·exact hy.1 a ha
  ·rename_i hlt;have:=hn y<|nX ..;refine aT.2 ⟨λa ha=> ?_,h⟩;rcases j9.1 ha with rfl | ha
   ·omega
   ·have:=hy.1 a ha;omega
theorem wK(h:l.Pairwise (λp q=>p.Id < q.Id))(hp:p∈l)(hq:q∈l)(e:p.Id=q.Id):p=q:=by
 induction l with
 | nil=>cases hp
 | cons y l ih=>
  have hy:=aT.1 h;rcases j9.1 hp with rfl | hp1<;>rcases j9.1 hq with rfl | hq1
  ·rfl
  ·have:=hy.1 q hq1;omega
  ·have:=hy.1 p hp1;omega
  ·exact ih hy.2 hp1 hq1
theorem Ig{i:Int}(h:l.Pairwise (λp q=>p.Id < q.Id))(hf:l.find? (λq=>q.Id==i)=some p):p∈l/\p.Id=i/\l.Perm (p::l.filter (λq=> !(q.Id==i))):=by
 have hm:=mJ hf;have hi:p.Id=i:=by simpa using List.find?_some hf
 refine⟨hm,hi,?_⟩
 induction l with
 | nil=>cases hm
 | cons y l ih=>
  have hy:=aT.1 h;rw[ma] at hf
  by_cases e:y.Id=i
  ·have:(y.Id==i)=true:=by simpa using e
   rw[this] at hf;simp only[BY] at hf;subst hf
   have:l.filter (λq=> !(q.Id==i))=l:=mU.2 λq hq=>by have:=hy.1 q hq;simp;omega
   rw[nu,this];simp[e]
  ·have e' :(y.Id==i)=false:=by simpa using e
   rw[e'] at hf
   have hm' :=mJ hf;rw[nu,e'];simp only[r6,Rw];exact((ih hy.2 hf hm').cons y).trans<|.swap _ _ _
end
section
open Go.Dec
variable{r:FG}{n:Nat}{t d:Int}{s s' :Acc}{x:Ev}{p:QE}
theorem Hy{f:Nat->Int}{j:Nat}{v M:Int}(h:∀i,i < 16->0<=f i/\f i<=M)(hv:0<=v/\v<=M):∀i,i < 16->0<=ZM f j v i/\ZM f j v i<=M:=λi hi=>by
 by_cases e:i=j
 ·subst e;rw[WL];exact hv
 ·rw[Xb e];exact h i hi
theorem Sb{f:Nat->Int}{j:Nat}{v:Int}(h:∀i,16<=i->f i=0)(hj:j < 16):∀i,16<=i->ZM f j v i=0:=λi hi=>by
 rw[Xb<|by omega];exact h i hi
theorem DN(h:0<=x.Bond/\x.Bond<=15):x.Bond.toNat < 16:=by omega
theorem PV{a b:Int}:(Jj a b=a/\a<=b)∨(Jj a b=b/\b<=a):=by unfold Jj;split<;>omega
theorem FD{a b:Int}:(imax a b=a/\b<=a)∨(imax a b=b/\a<=b):=by unfold imax;split<;>omega
theorem jr(h:Hl r n t s)(hb:0<=x.Bond/\x.Bond<=15)(ha:1<=x.Amount/\x.Amount<=17179869184)(hd:Ss s x= .inl s'):Hl r (n+1) t s' :=by
 unfold Ss at hd
 split at hd
 ·cases hd
 ·rename_i hlim;simp only[nz] at hd
  subst hd;have hj:=DN hb;have h0:=h.bonds _ hj;have hs:=FJ (f:=s.B.Bonds) (v:=Zx s x+x.Amount) hj;unfold Zx at hlim hs
  have hp:=h.pos;have hm:=h.made;have hw:=h.whole;have hdu:=h.due;have h1:=h.mlen;have h2:=h.ilen
  exact{
   bonds:=Hy h.bonds (by unfold Zx;omega),sums:=h.sums,sorted:=h.sorted,mov:=h.mov,known:=h.known,ids:=h.ids
   mlen:=by show s.B.Moving.length<=_;omega
   ilen:=by show s.Ids.length<=_;omega
   pos:=by simp only[Um];omega
   made:=by simp only[Um];omega
   whole:=by simp only[Um,Zx];omega
   due:=hdu
   out:=Sb h.out hj}
theorem uo(h:Hl r n t s)(hb:0<=x.Bond/\x.Bond<=15)(hto:0<=x.To/\x.To<=15)(hid:0<=x.Id/\x.Id<=1073741824)(ha:1<=x.Amount/\x.Amount<=17179869184)(hr:VU r)(hday:x.Day=t)(h0t:0<=t)(hd:La s x= .inl s'):Hl r (n+1) t s' :=by
 unfold La at hd
 split at hd
 ·cases hd
 ·rename_i hne;split at hd
  ·cases hd
  ·rename_i hid';split at hd
   ·cases hd
   ·rename_i hlim;simp only[nz] at hd
    subst hd;have hne' :x.Bond≠x.To:=by simpa using hne
    have hnew:x.Id∉s.Ids:=by simpa using hid'
    have hj:=DN hb;have h0:=h.bonds _ hj;have hs:=FJ (f:=s.B.Bonds) (v:=Zx s x - x.Amount) hj;unfold Zx at hlim hs
    have hp:=h.pos;have hm:=h.made;have hw:=h.whole;have hdu:=h.due;have h1:=h.mlen;have h2:=h.ilen;have hf:Yl QE.Amount (BS (qz x) s.B.Moving)=x.Amount+Yl QE.Amount s.B.Moving:=(Df Cn).trans rfl;have hl:(BS (qz x) s.B.Moving).length=s.B.Moving.length+1:=Cn.length_eq;have ht:=hr.transit
    exact{
     bonds:=Hy h.bonds (by unfold Zx;omega),sums:=h.sums
     sorted:=Fa h.sorted λp hp e=>hnew (by have:=h.known p hp;rw[e] at this;exact this)
     mov:=λp hp=>by
      rcases OJ.1 hp with rfl | hp
      ·exact⟨ha,hid,hb,hto,hne',⟨by show 0<=x.Day;omega,by show x.Day<=t;omega⟩,by show t < x.Day+r.Transit+1;omega⟩
      ·exact h.mov p hp
     known:=λp hp=>by
      show p.Id∈s.Ids++[x.Id];rcases OJ.1 hp with rfl | hp
      ·simp[qz]
      ·exact iL _<|h.known p hp
     ids:=λi hi=>by
      have hi:i∈s.Ids++[x.Id]:=hi;rcases mH.1 hi with hi | hi
      ·exact h.ids i hi
      ·simp only[nx] at hi;subst hi;exact hid
     mlen:=by simp only;omega
     ilen:=by simp only[nH,mu];omega
     pos:=by simp only[Um];omega
     made:=by simp only[Um];omega
     whole:=by simp only[Um,Zx];omega
     due:=hdu
     out:=Sb h.out hj}
theorem xq(h:Hl r n t s)(hb:0<=x.Bond/\x.Bond<=15)(ha:0<=x.Amount/\x.Amount<=17179869184)(hr:VU r)(hp:s.B.Moving.find? (λq=>q.Id==x.Id)=some p)(hlim:¬Zx s x+x.Amount > 17179869184):Hl r (n+1) t (I0 r s x p):=by
 obtain⟨hmem,hid,hperm⟩:=Ig h.sorted hp;have hpk:=h.mov p hmem;have hj:=DN hb;have h0:=h.bonds _ hj;have hs:=FJ (f:=s.B.Bonds) (v:=Zx s x+x.Amount) hj;unfold Zx at hlim hs
 have hpo:=h.pos;have hm:=h.made;have hw:=h.whole;have hdu:=h.due;have h1:=h.mlen;have h2:=h.ilen;have hf:Yl QE.Amount s.B.Moving=p.Amount+Yl QE.Amount (s.B.Moving.filter λq=> !(q.Id==x.Id)):=(Df hperm).trans rfl;have hal:0<=p.Amount*r.Loss / 10000:=oi (mZ (by have:=hpk.amount;omega) hr.loss.1) (by omega);have e1:=FD (a:=0) (b:=p.Amount - x.Amount);have e2:=FD (a:=0) (b:=x.Amount - p.Amount);have e3:=PV (a:=imax 0<|p.Amount - x.Amount) (b:=p.Amount*r.Loss / 10000);have hpa:=hpk.amount;have hdt:=hr.ca (a:=imax 0 (p.Amount - x.Amount) - Jj (imax 0<|p.Amount - x.Amount) (p.Amount*r.Loss / 10000)) (d:=x.Day)<|by omega
 exact{
  bonds:=Hy h.bonds (by unfold Zx;omega),sums:=h.sums
  sorted:=h.sorted.filter _
  mov:=λp hp=>h.mov p (nU.1 hp).1
  known:=λp hp=>h.known p (nU.1 hp).1
  ids:=h.ids
  mlen:=by
   have:=eu (λq:QE=> !(q.Id==x.Id)) s.B.Moving;simp only[I0,B5,Um];omega
  ilen:=by show s.Ids.length<=_;omega
  pos:=by simp only[I0,B5,Um];omega
  made:=by simp only[I0,B5,Um];omega
  whole:=by simp only[I0,B5,Um,Zx];omega
  due:=by simp only[I0,B5,Um];omega
  out:=Sb h.out hj}
theorem ue(h:Hl r n t s)(hb:0<=x.Bond/\x.Bond<=15)(ha:0<=x.Amount/\x.Amount<=17179869184)(hr:VU r)(h0t:0<=t):Hl r (n+1) t (P3 r s x):=by
 have hj:=DN hb;have h0:=h.bonds _ hj;have hs:=FJ (f:=s.B.Bonds) (v:=x.Amount) hj;have hpo:=h.pos;have hm:=h.made;have hw:=h.whole;have hdu:=h.due;have h1:=h.mlen;have h2:=h.ilen;have hal:0<=s.Sums x.Bond.toNat*r.Share / 3650000:=oi (mZ (h.sums _ hj).1 hr.share.1) (by omega);have e1:=FD (a:=0) (b:=Zx s x - x.Amount);have e2:=FD (a:=0) (b:=x.Amount - Zx s x);have e3:=PV (a:=imax 0<|Zx s x - x.Amount) (b:=s.Sums x.Bond.toNat*r.Share / 3650000);have hdt:=hr.ca (a:=imax 0 (Zx s x - x.Amount) - Jj (imax 0<|Zx s x - x.Amount) (s.Sums x.Bond.toNat*r.Share / 3650000)) (d:=x.Day) (by omega);have hh:Zx s x=s.B.Bonds x.Bond.toNat:=rfl
 exact{
  bonds:=Hy h.bonds<|by omega
  sums:=Hy h.sums ⟨nQ _,mZ h0t<|by omega⟩
  sorted:=h.sorted
  mov:=h.mov
  known:=h.known
  ids:=h.ids
  mlen:=by show s.B.Moving.length<=_;omega
  ilen:=by show s.Ids.length<=_;omega
  pos:=by simp only[P3,B5,Um];omega
  made:=by simp only[P3,B5,Um];omega
  whole:=by simp only[P3,B5,Um];omega
  due:=by simp only[P3,B5,Um];omega
  out:=Sb h.out hj}
theorem qq(h:Hl r n t s)(hb:0<=x.Bond/\x.Bond<=15)(ha:1<=x.Amount/\x.Amount<=17179869184)(hr:VU r)(hd:Dm r s x= .inl s'):Hl r (n+1) t s' :=by
 unfold Dm at hd
 split at hd
 ·cases hd
 ·rename_i hlim;simp only[nz] at hd
  subst hd;have hj:=DN hb;have h0:=h.bonds _ hj;have hs:=FJ (f:=s.B.Bonds) (v:=Zx s x - x.Amount) hj;unfold Zx at hlim hs
  have hp:=h.pos;have hm:=h.made;have hw:=h.whole;have hdu:=h.due;have h1:=h.mlen;have h2:=h.ilen;have hdt:=hr.ca (a:=x.Amount) (d:=x.Day)<|by omega
  exact{
   bonds:=Hy h.bonds (by unfold Zx;omega),sums:=h.sums,sorted:=h.sorted,mov:=h.mov,known:=h.known,ids:=h.ids
   mlen:=by show s.B.Moving.length<=_;omega
   ilen:=by show s.Ids.length<=_;omega
   pos:=by simp only[Ek,Um];omega
   made:=by simp only[Ek,Um];omega
   whole:=by simp only[Ek,Um,Zx];omega
   due:=by simp only[Ek,Um];omega
   out:=Sb h.out hj}
theorem jo(h:Hl r n t s)(hb:0<=x.Bond/\x.Bond<=15)(ha:1<=x.Amount/\x.Amount<=17179869184)(hd:Sq s x= .inl s'):Hl r (n+1) t s' :=by
 unfold Sq at hd
 split at hd
 ·cases hd
 ·rename_i hlim;simp only[nz] at hd
  subst hd;have hj:=DN hb;have h0:=h.bonds _ hj;have hs:=FJ (f:=s.B.Bonds) (v:=Zx s x - x.Amount) hj;unfold Zx at hlim hs
  have hp:=h.pos;have hm:=h.made;have hw:=h.whole;have hdu:=h.due;have h1:=h.mlen;have h2:=h.ilen
  exact{
   bonds:=Hy h.bonds (by unfold Zx;omega),sums:=h.sums,sorted:=h.sorted,mov:=h.mov,known:=h.known,ids:=h.ids
   mlen:=by show s.B.Moving.length<=_;omega
   ilen:=by show s.Ids.length<=_;omega
   pos:=by simp only[Um];omega
   made:=by simp only[Um];omega
   whole:=by simp only[Um,Zx];omega
   due:=hdu
   out:=Sb h.out hj}
theorem xd(h:Hl r n t s)(ha:1<=x.Amount)(hd:jU s x= .inl s'):Hl r (n+1) t s' :=by
 unfold jU at hd
 split at hd
 ·cases hd
 ·rename_i hlim;simp only[nz] at hd
  subst hd;have hp:=h.pos;have hm:=h.made;have h1:=h.mlen;have h2:=h.ilen
  exact{
   bonds:=h.bonds,sums:=h.sums,sorted:=h.sorted,mov:=h.mov,known:=h.known,ids:=h.ids
   mlen:=by show s.B.Moving.length<=_;omega
   ilen:=by show s.Ids.length<=_;omega
   pos:=by simp only[];omega
   made:=by simp only[];omega
   whole:=h.whole
   due:=h.due
   out:=h.out}
theorem vq(hr:VU r)(h:Hl r n t s)(h0t:0<=t)(he:Xk x=true)(hday:x.Day=t)(hd:Ft r s x= .inl s'):Hl r (n+1) t s' :=by
 unfold Ft at hd
 rcases I7 he with k | k | k | k | k | k | k<;>simp only[k,mB,Int.reduceEq,Rw,T2] at hd
 ·have e:=Dx he<|.inl k;exact jr h e.1 e.2 hd
 ·have e:=kV he k;exact uo h e.1 e.2.1 e.2.2.1 e.2.2.2 hr hday h0t hd
 ·have e:=N9 he k;unfold Ce at hd
  split at hd
  ·cases hd
  ·rename_i p hp;split at hd
   ·cases hd
   ·split at hd
    ·cases hd
    ·rename_i hlim;simp only[nz] at hd;subst hd;exact xq h e.1 e.2.2 hr hp hlim
 ·have e:=Dx he<|.inr<|.inl k;exact qq h e.1 e.2 hr hd
 ·have e:=Dx he<|.inr<|.inr k;exact jo h e.1 e.2 hd
 ·have e:=kU he k;simp only[nz] at hd;subst hd;exact ue h e.1 e.2 hr h0t
 ·have e:=vi he k;exact xd h e.1 hd
theorem TF{c c' :A7}(hr:VU r)(h:Hl r n c.day c.acc)(_h0:0<=c.day)(hs:Uv r c x= .inl c'):Hl r (n+1) c'.day c'.acc/\c.day<=c'.day/\c'.day=x.Day/\Xk x=true:=by
 unfold Uv at hs
 split at hs
 ·cases hs
 ·rename_i he;split at hs
  ·cases hs
  ·rename_i hlt;split at hs
   ·rename_i a ha;simp only[nz] at hs
    subst hs;have he' :Xk x=true:=by simpa using he
    exact⟨vq hr (E5 hr h<|show c.day<=x.Day by omega) (by have:=(vj he').1;exact this) he' rfl ha,by show c.day<=x.Day;omega,rfl,he'⟩
   ·cases hs
end
section
open Go.Dec
variable{r:FG}{n:Nat}{t d:Int}{s s' :Acc}{x:Ev}{p:QE}
theorem TD{i:Nat}(h:i<=4294967296):Q5 ((i:Int)+1)=((i+1:Nat):Int):=by rw[Qn (by omega)<|by omega];rfl
theorem vn(hr:VU r){a:Int}(ha:0<=a)(hb:a<=17179869184)(day:Int):Q5 (Int.tdiv (Q5<|a*DF r.Rates day) 1000)=Wr r a day:=by
 have h:=hr.tZ (d:=day) ha hb;rw[Qn (n:=a*DF r.Rates day) (by omega) (by omega),mG h.1];unfold Wr;rw[Qn (by omega)<|by omega]
end
section
open Go.Dec
variable{r:FG}{n:Nat}{t d:Int}{s s' :Acc}{x:Ev}{p:QE}
theorem NI{f g:QE->Int}:∀{l:UV QE},(∀p∈l,f p=g p)->Yl f l=Yl g l
 | [],_=>rfl
 | p::l,h=>by simp only[Yl];rw[h p<|nX ..,NI (l:=l) λq hq=>h q<|x8 _ hq]
def OG(r:FG)(next:Int)(s:Acc)(pre post:UV QE):Acc:={s with B:={s.B with Moving:=pre++post.filter (λp=> !(ZN r p==next)),Used:=s.B.Used+Yl QE.Amount (post.filter λp=>ZN r p==next),Due:=s.B.Due+Yl (λp=>Wr r p.Amount next) (post.filter λp=>ZN r p==next)}}
end
section
open Go.Dec
variable{r:FG}{n:Nat}{t d:Int}{s s' :Acc}{x:Ev}{p:QE}
def jY(s:Acc):Acc ⊕ Int->Acc×Int
 | .inl a=>(a,0)
 | .inr e=>(s,e)
theorem Co(h:0<=x.Bond/\x.Bond<=15):VJ 16 x.Bond=some x.Bond.toNat:=by unfold VJ;rw[TO<|by omega]
theorem HA(h:Hl r n t s)(hb:0<=x.Bond/\x.Bond<=15):0<=Zx s x/\Zx s x<=17179869184:=h.bonds _<|DN hb
end
section
open Go.Dec
variable{day:Int}
variable{r:FG}{n:Nat}{t d:Int}{s s' :Acc}{x:Ev}{p:QE}
theorem FE(n a b:Int):ZO n a b=W8 n a b:=by unfold ZO W8;exact rfl
theorem PZ(n:Int):Kg n=W8 n 0 65536:=by unfold Kg;exact FE ..
theorem wQ(n:Int):Zl n=CB n:=by unfold Zl CB;exact FE ..
theorem AV(r:FG)(hl:r.Rates.length<=1000000):∀(k i:Nat) (last:Int),i+k=r.Rates.length->
  ZQ (J2 r) (last,(i:Int))=some (if Gy last (r.Rates.drop i) then .inl () else .inr false)
 | 0,i,last,hi=>by
  have:J2 r (last,(i:Int))=some (.done<|.inl ()):=by unfold J2;rw[RW (by simp;omega)]
  rw[ZC,nC (by omega),this];rfl
 | k+1,i,last,hi=>by
  have hil:i < r.Rates.length:=by omega
  have hx:r.Rates[i]? =some r.Rates[i]:=by simp[hil]
  have step:J2 r (last,(i:Int))=some (if W8 r.Rates[i].From 0 65536&&decide (last < r.Rates[i].From)&&W8 r.Rates[i].Rate 0 1048576 then .next (r.Rates[i].From,((i+1:Nat):Int)) else .done (.inr false)):=by
   unfold J2;rw[TO (by simp;omega)];simp only[Zw,hx,DO,FE,PZ,TD (by omega:i<=4294967296)];by_cases c1:W8 r.Rates[i].From 0 65536=true
   case neg=>simp only[nI] at c1;simp[c1]
   case pos=>
    by_cases c2:W8 r.Rates[i].Rate 0 1048576=true
    case neg=>simp only[nI] at c2;simp[c1,c2]
    case pos=>
     by_cases c3:r.Rates[i].From<=last
     ·have:decide (last < r.Rates[i].From)=false:=by simp;omega
      simp[c1,c2,c3,this]
     ·have:decide (last < r.Rates[i].From)=true:=by simp;omega
      simp[c1,c2,c3,this]
  rw[ZC,nD hil,step];by_cases hc:(W8 r.Rates[i].From 0 65536&&decide (last < r.Rates[i].From)&&W8 r.Rates[i].Rate 0 1048576)=true
  case neg=>simp only[nI] at hc;simp[Gy,hc]
  case pos=>
   simp only[Gy,hc,Rw,mA];exact AV r hl k (i+1) r.Rates[i].From<|by omega
theorem AU(hl:r.Rates.length<=1000000):V1 r=some (GW r):=by
 unfold V1 GW;have hloop:=AV r hl r.Rates.length 0 (-1) (by omega);simp only[nR,eH] at hloop
 simp only[QR,FE,PZ];refine ZR hloop ?_;by_cases ho:Gy (-1) r.Rates=true
 case neg=>simp only[nI] at ho;simp[ho]
 case pos=>
  simp only[ho,Rw,mY];by_cases h1:W8 (r.Rates.length:Int) 1 64=true
  case neg=>simp only[nI] at h1;simp[h1]
  case pos=>
   have hl1:=Yk.1 h1
   obtain⟨y,l,e⟩:∃y l,r.Rates=y::l:=by
    cases hr:r.Rates with
    | nil=>rw[hr] at hl1;simp at hl1
    | cons y l=>exact⟨y,l,rfl⟩
   have hx:ZK r.Rates 0=some y:=by
    have:=Zw r.Rates 0;rw[e] at this ⊢;exact this
   have hm:OR r.Rates=(y.From==0):=by rw[e];rfl
   simp only[h1,Rw,hx,DO,hm,mA]
theorem BR(x:Ev):WU x=some (Xk x):=by
 unfold WU Xk;simp only[FE,PZ,wQ,QR]
 have h0:(W8 x.Amount 1 17179869184||x.Amount==0)=W8 x.Amount 0 17179869184:=by
  rw[lO];simp[W8];omega
 rw[h0];by_cases h1:W8 x.Day 0 65536=true
 case neg=>simp only[nI] at h1;simp[h1]
 case pos=>
  simp only[h1,x6,By,T2,mA];by_cases k0:(x.Kind==0)=true
  ·simp[k0]
  ·simp only[nI] at k0
   by_cases k3:(x.Kind==3)=true
   ·simp[k0,k3]
   ·simp only[nI] at k3
    by_cases k4:(x.Kind==4)=true
    ·simp[k0,k3,k4]
    ·simp only[nI] at k4
     simp only[k0,k3,k4,eh,By,T2,DO];by_cases k1:(x.Kind==1)=true
     ·rw[TO k1,TO k1]
     ·rw[RW k1,RW k1];by_cases k2:(x.Kind==2)=true
      ·rw[TO k2,TO k2]
      ·rw[RW k2,RW k2];by_cases k5:(x.Kind==5)=true
       ·rw[TO k5,TO k5]
       ·rw[RW k5,RW k5];by_cases k6:(x.Kind==6)=true
        ·rw[TO k6,TO k6]
        ·rw[RW k6,RW k6]
theorem vZ{m:Int}(h0:0<=m)(h1:m<=2000000):Q5 (jH .u64 (IntKind.u64.wrap<|Q5 m) 1)=m / 2:=by
 rw[Qn (n:=m) (by omega)<|by omega];have e:IntKind.u64.bits=64:=rfl
 have hw:IntKind.u64.wrap m=m:=by
  simp only[IntKind.wrap,e];simp[IntKind.signed];omega
 rw[hw]
 have hs:jH .u64 m 1=m / 2:=by
  unfold jH;have:(2:Int)^(min (Int.toNat 1) IntKind.u64.bits)=2:=by decide
  rw[this,Int.fdiv_eq_ediv_of_nonneg _<|by omega]
 rw[hs,Qn (by omega)<|by omega]
def WN(l:UV Z5)(day:Int):Nat:=(l.takeWhile λx=>decide<|x.From<=day).length
theorem Dp{day:Int}:∀{l:UV Z5},l.Pairwise (λx y=>x.From < y.From)->WN l day<=l.length/\(∀i x,l[i]? =some x->(x.From<=day↔i < WN l day))
 | [],_=>⟨IN _,λi x h=>by simp at h⟩
 | y::l,h=>by
  have hy:=aT.1 h;have ih:=Dp (day:=day) hy.2;unfold WN at ih ⊢
  rw[lX];by_cases hc:y.From<=day
  ·simp only[hc,nc,Rw,s6];refine⟨by omega,λi x hx=> ?_⟩;cases i with
   | zero=>simp at hx;subst hx;simp[hc]
   | succ i=>
    simp only[mE] at hx
    have:=ih.2 i x hx;omega
  ·simp only[hc,nk,By,T2,nG];refine⟨eQ _,λi x hx=> ?_⟩;cases i with
   | zero=>simp at hx;subst hx;omega
   | succ i=>
    simp only[mE] at hx
    have:=hy.1 x<|s8 hx;omega
theorem Lk:∀{l:UV Z5} (a:Int),l.Pairwise (λx y=>x.From < y.From)->l.foldl (λown x=>if x.From<=day then x.Rate else own) a=if WN l day=0 then a else match l[WN l day - 1]? with | some x=>x.Rate | none=>a
 | [],a,_=>rfl
 | y::l,a,h=>by
  have hy:=aT.1 h;have hsp:=Dp (day:=day) h;rw[la,Lk _ hy.2];have hrl:=(Dp (day:=day) hy.2).1;by_cases hc:y.From<=day
  ·have e:WN (y::l) day=WN l day+1:=by unfold WN;rw[lX];simp[hc]
   rw[e];simp only[hc,Rw,Nat.add_one_ne_zero,T2,Nat.add_sub_cancel];by_cases h0:WN l day=0
   ·rw[TO h0,h0];rfl
   ·rw[RW h0];have:WN l day=(WN l day - 1)+1:=by omega
    conv=>rhs;rw[this,mE]
    have hlt:WN l day - 1 < l.length:=by omega
    rw[Nm hlt]
  ·have e:WN (y::l) day=0:=by unfold WN;rw[lX];simp[hc]
   have e2:WN l day=0:=by
    cases hl:l with
    | nil=>rfl
    | cons z l' =>
     unfold WN;rw[lX];have:=hy.1 z (by rw[hl];simp);have:¬z.From<=day:=by omega
     simp[this]
   rw[TO e2,TO e,RW hc]
theorem II(hr:VU r):Xp (r.Rates.length:Int) (λx=>YI x r day)=some (WN r.Rates day:Int):=by
 have hsp:=Dp (day:=day) hr.sorted;have hlen:=hr.len
 have key:=Is (body:=Uu λx=>YI x r day) (λs:Int×Int=>0<=s.1/\s.1<=WN r.Rates day/\(WN r.Rates day:Int)<=s.2/\s.2<=r.Rates.length) (λs=>(s.2 - s.1).toNat) (λb=>b=(WN r.Rates day:Int)) λs hs=>by
  obtain⟨i,j⟩:=s;obtain⟨h1,h2,h3,h4⟩:=hs;simp only at h1 h2 h3 h4
  by_cases hc:i < j
  ·left;have hh:=vZ (m:=i+j) (by omega) (by omega);have hm0:i<=(i+j) / 2:=by omega
   have hm1:(i+j) / 2 < j:=by omega
   obtain⟨y,hy1,hy2⟩:=wJ (l:=r.Rates) (i:=(i+j) / 2) (by omega) (by omega);have hf:YI ((i+j) / 2) r day=some (decide<|y.From > day):=by unfold YI;rw[hy1];rfl
   have hiff:=hsp.2 _ y hy2;by_cases hg:y.From > day
   ·refine⟨(i,(i+j) / 2),?_,⟨by simp only;omega,by simp only;omega,?_,by simp only;omega⟩,by simp only;omega⟩
    ·unfold Uu;rw[TO<|by simpa using hc];simp only[hh,QR,hf,DO,hg,nc,x6,By,T2]
    ·simp only;omega
   ·refine⟨((i+j) / 2+1,j),?_,⟨by simp only;omega,?_,by simp only;omega,by simp only;omega⟩,by simp only;omega⟩
    ·unfold Uu;rw[TO<|by simpa using hc];simp only[hh,QR,hf,DO,hg,nk,r6,Rw];rw[Qn (n:=(i+j) / 2+1) (by omega)<|by omega]
    ·simp only;omega
  ·right;refine⟨i,?_,by omega⟩;unfold Uu;rw[RW<|by simpa using hc]
 obtain⟨b,hb,hq⟩:=key r.Rates.length (0,(r.Rates.length:Int)) (by simp) ⟨by simp,by simp,by simp;exact hsp.1,by simp⟩;unfold Xp;rw[hb,hq];rfl
theorem Pc(hr:VU r){a:Int}(ha:0<=a)(hb:a<=17179869184)(hd:0<=day):U8 r a day=some (Wr r a day):=by
 have hsp:=Dp (day:=day) hr.sorted;have hlen:=hr.len;obtain⟨y,l,e,e0⟩:=hr.first;have h1:0 < WN r.Rates day:=(hsp.2 0 y (by rw[e];rfl)).1 (by omega);have hlt:WN r.Rates day - 1 < r.Rates.length:=by omega
 have hx:r.Rates[WN r.Rates day - 1]? =some r.Rates[WN r.Rates day - 1]:=Nm hlt
 have hrate:DF r.Rates day=r.Rates[WN r.Rates day - 1].Rate:=by
  unfold DF;rw[Lk _ hr.sorted,RW (by omega),hx]
 unfold U8;refine ZR (II hr) ?_;have hw:Q5 ((WN r.Rates day:Int) - 1)=((WN r.Rates day - 1:Nat):Int):=by rw[Qn (by omega)<|by omega];omega
 simp only[QR,hw,Zw,hx,DO,<-hrate];rw[vn hr ha hb]
end
section
open Go.Dec
variable{l:UV QE}{i:Int}
variable{r:FG}{n:Nat}{t d:Int}{s s' :Acc}{x:Ev}{p:QE}
abbrev PM:=UV<|UV<|Int×QE
abbrev KM:=UV<|UV<|Int×Bool
def FZ(p:QE):Int×QE:=(p.Id,p)
def Kz(r:FG)(t:Int)(s:Acc):QD:=⟨r,{s.B with Moving:=[]},some 0,some 0,s.Sums,t⟩
structure PR(r:FG)(t:Int)(s:Acc)(A1:List QD)(A2:PM)(A3:KM):Prop where
 o:A1=[Kz r t s]
 m:∃m,A2=[m]/\m.Perm (s.B.Moving.map FZ)
 k:∃k rest,A3=k::rest/\(k.map Prod.fst).Nodup/\∀i,(Qc k i).getD false=s.Ids.contains i
theorem FY(h:l.Pairwise (λp q=>p.Id < q.Id)):((l.map FZ).map Prod.fst).Nodup:=by
 have:(l.map FZ).map Prod.fst=l.map QE.Id:=by rw[eB];rfl
 rw[this];rw[List.Nodup,oR];exact h.imp λh=>iG h
theorem kP:∀{l:UV QE},Qc (l.map FZ) i=l.find? (λq=>q.Id==i)
 | []=>rfl
 | q::l=>by
  simp only[s4,FZ,Qc,ma];by_cases h:i=q.Id
  ·subst h;simp
  ·have h1:(i==q.Id)=false:=by simpa using h
   have h2:(q.Id==i)=false:=by simpa using Ne.symm h
   simp only[h1,h2,By,T2];exact kP
theorem I1{m:UV (Int×QE)}(hs:l.Pairwise (λp q=>p.Id < q.Id))(h:m.Perm (l.map FZ)):Qc m i=l.find? (λq=>q.Id==i):=by
 rw[WY h<|FY hs,kP]
theorem zV:(l.map FZ).filter (λx=> !(i==x.1))=(l.filter λq=> !(q.Id==i)).map FZ:=by
 rw[oh];congr 1;refine nT λq _=> ?_;show(!(i==q.Id))= !(q.Id==i);rw[Bool.beq_comm]
theorem vu{m:UV (Int×QE)}(hs:l.Pairwise (λp q=>p.Id < q.Id))(h:m.Perm (l.map FZ)):(Jy m i).Perm ((l.filter λq=> !(q.Id==i)).map FZ):=by
 have h1:=Cl (k:=i) h<|FY hs
 rwa[Wz<|FY hs,zV] at h1
abbrev fM:=Out Zq<|UV QD×PM×KM
def Xl(r:FG)(t:Int)(out:Acc ⊕ Int)(q:H1 fM):Prop:=match out with
 | .inl s' =>∃A1 A2 A3,q=some (.ok (A1,A2,A3))/\PR r t s' A1 A2 A3
 | .inr e=>q=some (.pan ⟨e⟩)
theorem Ck(e:Int):JI true e=some (.ok ()):=rfl
theorem PH(e:Int):JI false e=some (.pan ⟨e⟩):=rfl
theorem U0{ε α β:Type}{e:H1 (Out ε α)}{gp:ε->H1 β}{g:α->H1 β}{x:α}(h:e=some (.ok x)):Qw e gp g=g x:=by rw[h];rfl
theorem Ut{ε α β:Type}{e:H1 (Out ε α)}{gp:ε->H1 β}{g:α->H1 β}{x:ε}(h:e=some (.pan x)):Qw e gp g=gp x:=by rw[h];rfl
variable{A1:UV QD}{A2:PM}{A3:KM}
theorem Lf(h:Hl r n t s)(hp:PR r t s A1 A2 A3)(hb:0<=x.Bond/\x.Bond<=15)(ha:0<=x.Amount/\x.Amount<=17179869184):YU A1 (some 0) x=if Zx s x+x.Amount > 17179869184 then some (.pan ⟨12⟩) else some (.ok ()):=by
 have hh:=HA h hb;have e:(Kz r t s).book.Bonds x.Bond.toNat=Zx s x:=rfl;unfold YU;rw[hp.o];simp only[DO,Co hb,IF];rw[e,Qn (n:=Zx s x+x.Amount) (by omega)<|by omega];by_cases hlim:Zx s x+x.Amount > 17179869184
 ·have e1:decide (Zx s x+x.Amount<=17179869184)=false:=by simp;omega
  rw[e1,TO hlim];rfl
 ·have e1:decide (Zx s x+x.Amount<=17179869184)=true:=by simp;omega
  rw[e1,RW hlim];rfl
theorem FF(h:Hl r n t s)(hp:PR r t s A1 A2 A3)(hb:0<=x.Bond/\x.Bond<=15)(ha:1<=x.Amount/\x.Amount<=17179869184):Jh A1 (some 0) x=if Zx s x < x.Amount then some (.pan ⟨10⟩) else some (.ok [Kz r t<|Um s x<|Zx s x - x.Amount]):=by
 have hh:=HA h hb;have e:(Kz r t s).book.Bonds x.Bond.toNat=Zx s x:=rfl;unfold Jh;rw[hp.o];simp only[DO,Co hb,IF];rw[e];by_cases hlim:Zx s x < x.Amount
 ·have e1:decide (Zx s x≥x.Amount)=false:=by simp;omega
  rw[e1,TO hlim];rfl
 ·have e1:decide (Zx s x≥x.Amount)=true:=by simp;omega
  rw[e1,RW hlim,Qn (n:=Zx s x - x.Amount) (by omega)<|by omega];rfl
theorem qD(h:Hl r n t s)(hn:n<=4096)(hp:PR r t s A1 A2 A3)(he:Xk x=true)(k:x.Kind=0):Xl r t (Ss s x) (Jq A1 A2 A3 (some 0) x):=by
 obtain⟨hb,ha⟩:=Dx he<|.inl k;have hh:=HA h hb;have hl:=h.lim;have hpo:=h.pos;have hr:=Lf h hp hb (by omega);unfold Jq Ss Xl;by_cases hlim:Zx s x+x.Amount > 17179869184
 ·rw[TO hlim] at hr ⊢
  rw[Ut hr]
 ·rw[RW hlim] at hr ⊢
  rw[U0 hr];refine⟨[Kz r t {Um s x (Zx s x+x.Amount) with B:={(Um s x<|Zx s x+x.Amount).B with Made:=s.B.Made+x.Amount}}],A2,A3,?_,rfl,hp.m,hp.k⟩;rw[hp.o];have e:(Kz r t s).book.Bonds x.Bond.toNat=Zx s x:=rfl;have e2:(Kz r t s).book.Made=s.B.Made:=rfl;simp only[DO,Co hb,IF,QR,e,e2];rw[Qn (n:=Zx s x+x.Amount) (by omega) (by omega),Qn (n:=s.B.Made+x.Amount) (by omega)<|by omega];rfl
theorem jf{k:UV (Int×Bool)}{ids:UV Int}{id:Int}(hn:(k.map Prod.fst).Nodup)(h:∀i,(Qc k i).getD false=ids.contains i)(i:Int):(Qc (Qx k id true) i).getD false=(ids++[id]).contains i:=by
 have hp:=Jm (l:=k) (k:=id) (v:=true) hn;have hnd:(((id,true)::k.filter (λx=> !(id==x.1))).map Prod.fst).Nodup:=(hp.map Prod.fst).nodup_iff.1<|JQ hn;rw[WY hp hnd];simp only[Qc];by_cases e:i=id
 ·subst e;simp
 ·have e1:(i==id)=false:=by simpa using e
  rw[e1];simp only[By,T2]
  have e2:Qc (k.filter λx=> !(id==x.1)) i=Qc k i:=by
   clear hn h hp hnd
   induction k with
   | nil=>rfl
   | cons y k ih=>
    rw[nu];by_cases h1:id=y.1
    ·have h2:(id==y.1)=true:=by simpa using h1
     have h3:(i==y.1)=false:=by simp;intro h;exact e<|h.trans h1.symm
     simp only[h2,x6,By,T2,Qc,h3,ih]
    ·have h2:(id==y.1)=false:=by simpa using h1
     simp only[h2,r6,Rw,Qc,ih]
  rw[e2,h];simp[e]
theorem jJ(h:Hl r n t s)(hp:PR r t s A1 A2 A3)(he:Xk x=true)(k:x.Kind=1):Xl r t (La s x) (YT A1 A2 A3 (some 0) x):=by
 obtain⟨hb,hto,hid,ha⟩:=kV he k;have hh:=HA h hb;have hdr:=FF h hp hb ha;obtain⟨m,hm,hmp⟩:=hp.m;obtain⟨kk,rest,hk,hkn,hkg⟩:=hp.k;unfold YT La Xl;by_cases hne:(x.Bond==x.To)=true
 ·have e1:(x.Bond != x.To)=false:=by simp[bne,hne]
  rw[e1,TO hne,Ut<|PH 11]
 ·have e1:(x.Bond != x.To)=true:=by simp only[bne];simp only[nI] at hne;rw[hne];rfl
  rw[e1,RW hne,U0<|Ck 11];have o1:(A1[0]?)=some (Kz r t s):=by rw[hp.o];rfl
  have k0:(A3[0]?)=some kk:=by rw[hk];rfl
  have kn:(Kz r t s).known=some 0:=rfl;simp only[DO,o1,kn,k0,hkg];by_cases hc:s.Ids.contains x.Id=true
  ·rw[TO hc,hc];rw[x6,Ut<|PH 5]
  ·have hc' :s.Ids.contains x.Id=false:=by simpa using hc
   rw[RW hc,hc',r6,U0<|Ck 5];by_cases hlim:Zx s x < x.Amount
   ·rw[TO hlim] at hdr ⊢
    rw[Ut hdr]
   ·rw[RW hlim] at hdr ⊢
    rw[U0 hdr];have m0:(A2[0]?)=some m:=by rw[hm];rfl
    have mo:(Kz r t<|Um s x<|Zx s x - x.Amount).moving=some 0:=rfl;have kn2:(Kz r t<|Um s x<|Zx s x - x.Amount).known=some 0:=rfl;refine⟨_,_,_,by simp only[IF,DO,kn2,k0,mo,m0,QR];rfl,rfl,⟨Qx m x.Id<|qz x,by rw[hm];rfl,?_⟩,⟨Qx kk x.Id true,rest,by rw[hk];rfl,JQ hkn,jf hkn hkg⟩⟩
    have hnew:∀q∈s.B.Moving,q.Id≠x.Id:=λq hq e=>by
     have:=h.known q hq;rw[e] at this
     rw[<-nI,List.contains_iff_mem] at hc';exact hc' this
    have h1:=Jm (l:=m) (k:=x.Id) (v:=qz x)<|(hmp.map Prod.fst).nodup_iff.2<|FY h.sorted
    have h2:m.filter (λe=> !(x.Id==e.1))=m:=mU.2 λe he=>by
     obtain⟨q,hq,rfl⟩:=ny.1<|hmp.mem_iff.1 he;have:=hnew q hq;simp[FZ];exact ib this
    rw[h2] at h1
    refine h1.trans ?_;refine(hmp.cons _).trans ?_;have h3:=(Cn (q:=qz x) (l:=s.B.Moving)).symm.map FZ;exact h3
theorem IG(hr:VU r)(h:Hl r n t s)(hn:n<=4096)(h0:0<=t){u:Acc}(hu:u.B.Bonds x.Bond.toNat=0∨u.B.Bonds x.Bond.toNat=Zx s x)(hb:0<=x.Bond/\x.Bond<=15){was is allowed:Int}(hwas:0<=was/\was<=17179869184)(his:0<=is/\is<=17179869184)(hal:0<=allowed/\allowed<=4611686018427387904)
  (hF:u.B.Found=s.B.Found) (hL:u.B.Lost=s.B.Lost) (hC:u.B.Charged=s.B.Charged) (hD:u.B.Due=s.B.Due):VA [Kz r t u] (some 0) x.Bond was is allowed=some [Kz r t<|B5 r t (imax 0<|was - is) allowed {Um u x (u.B.Bonds x.Bond.toNat+is) with B:={(Um u x<|u.B.Bonds x.Bond.toNat+is).B with Found:=u.B.Found+imax 0 (is - was)}}]:=by
 have hh:=HA h hb;have hl:=h.lim;have hpo:=h.pos;have hdu:=h.due;have e1:=FD (a:=0) (b:=was - is);have e2:=FD (a:=0) (b:=is - was);have e3:=PV (a:=imax 0<|was - is) (b:=allowed);have hd:=hr.ca (a:=imax 0 (was - is) - Jj (imax 0<|was - is) allowed) (d:=t) (by omega);unfold VA;simp only[DO,Co hb,IF,QR];rw[Qn (n:=is - was) (by omega) (by omega),Qn (n:=was - is) (by omega) (by omega),Qn (n:=imax 0 (was - is) - Jj (imax 0<|was - is) allowed) (by omega)<|by omega];refine ZR (Pc hr (by omega) (by omega) h0) ?_;simp only[Kz,mn];rw[Qn (n:=u.B.Bonds x.Bond.toNat+is) (by omega) (by omega),Qn (n:=u.B.Found+imax 0 (is - was)) (by omega) (by omega),Qn (n:=u.B.Lost+Jj (imax 0<|was - is) allowed) (by omega) (by omega),Qn (n:=u.B.Charged+(imax 0 (was - is) - Jj (imax 0<|was - is) allowed)) (by omega) (by omega),Qn (n:=u.B.Due+Wr r (imax 0 (was - is) - Jj (imax 0<|was - is) allowed) t) (by omega)<|by omega];rfl
theorem Ez(hr:VU r)(h:Hl r n t s)(hn:n<=4096)(h0:0<=t)(hp:PR r t s A1 A2 A3)(he:Xk x=true)(k:x.Kind=2)(hday:x.Day=t):Xl r t (Ce r s x) (JZ A1 A2 A3 (some 0) x):=by
 obtain⟨hb,hid,ha⟩:=N9 he k;have hh:=HA h hb;have hro:=Lf h hp hb ha;obtain⟨m,hm,hmp⟩:=hp.m;have o1:(A1[0]?)=some (Kz r t s):=by rw[hp.o];rfl
 have m0:(A2[0]?)=some m:=by rw[hm];rfl
 have mo:(Kz r t s).moving=some 0:=rfl;unfold JZ Ce Xl;simp only[DO,o1,mo,m0,QR,I1 h.sorted hmp];cases hq:s.B.Moving.find? (λq=>q.Id==x.Id) with
 | none=>rfl
 | some p=>
  obtain⟨hmem,hpid,_⟩:=Ig h.sorted hq;have hpk:=h.mov p hmem;have hpa:=hpk.amount;simp only[ld,lU];rw[U0<|Ck 4];by_cases hto:(p.To != x.Bond)=true
  ·have e1:(p.To==x.Bond)=false:=by simpa[bne] using hto
   rw[e1,Ut<|PH 11,TO hto]
  ·have e1:(p.To==x.Bond)=true:=by simpa[bne] using hto
   rw[e1,U0<|Ck 11,RW hto];by_cases hlim:Zx s x+x.Amount > 17179869184
   ·rw[TO hlim] at hro ⊢
    rw[Ut hro]
   ·rw[RW hlim] at hro ⊢
    rw[U0 hro];have hlo:=hr.loss;have hal0:0<=p.Amount*r.Loss:=mZ (by omega) hlo.1;have hal1:p.Amount*r.Loss<=17179869184*10000:=eI hpa.2 hlo.2 hlo.1 (by omega);have hru:(Kz r t s).rules.Loss=r.Loss:=rfl;have hset:=IG (x:=x) hr h hn h0 (u:=s) (.inr rfl) hb (was:=p.Amount) (is:=x.Amount) (allowed:=p.Amount*r.Loss / 10000) (by omega) ha (by omega) rfl rfl rfl rfl;simp only[hru];rw[Qn (n:=p.Amount*r.Loss) (by omega) (by omega),mG hal0,Qn (n:=p.Amount*r.Loss / 10000) (by omega)<|by omega];refine⟨_,_,_,ZR (by rw[hp.o];exact hset) rfl,?_,⟨Jy m x.Id,by rw[hm];rfl,vu h.sorted hmp⟩,hp.k⟩;unfold I0;rw[hday];rfl
theorem O1(hr:VU r){u:Acc}{a day:Int}(ha:0<=a/\a<=17179869184)(hd:0<=day)(hU:0<=u.B.Used/\u.B.Used<=4611686018427387904)(hD:0<=u.B.Due/\u.B.Due<=4611686018427387904):Y8 [Kz r t u] (some 0) a day=some [Kz r t<|Ek r a day u]:=by
 have hdu:=hr.ca (a:=a) (d:=day) (by omega);unfold Y8;simp only[DO,IF,QR];refine ZR (Pc hr ha.1 ha.2 hd) ?_;simp only[Kz,mn];rw[Qn (n:=u.B.Used+a) (by omega) (by omega),Qn (n:=u.B.Due+Wr r a day) (by omega)<|by omega];rfl
theorem Ey(hr:VU r)(h:Hl r n t s)(hn:n<=4096)(hp:PR r t s A1 A2 A3)(he:Xk x=true)(k:x.Kind=3):Xl r t (Dm r s x) (JY A1 A2 A3 (some 0) x):=by
 obtain⟨hb,ha⟩:=Dx he<|.inr<|.inl k;have hdr:=FF h hp hb ha;have hl:=h.lim;have hpo:=h.pos;have hdu:=h.due;unfold JY Dm Xl;by_cases hlim:Zx s x < x.Amount
 ·rw[TO hlim] at hdr ⊢
  rw[Ut hdr]
 ·rw[RW hlim] at hdr ⊢
  rw[U0 hdr];exact⟨_,_,_,ZR (O1 hr (by omega) (vj he).1 ⟨by show 0<=s.B.Used;omega,by show s.B.Used<=_;omega⟩ ⟨by show 0<=s.B.Due;omega,by show s.B.Due<=_;omega⟩) rfl,rfl,hp.m,hp.k⟩
theorem I6(h:Hl r n t s)(hn:n<=4096)(hp:PR r t s A1 A2 A3)(he:Xk x=true)(k:x.Kind=4):Xl r t (Sq s x) (Jo A1 A2 A3 (some 0) x):=by
 obtain⟨hb,ha⟩:=Dx he<|.inr<|.inr k;have hdr:=FF h hp hb ha;have hl:=h.lim;have hpo:=h.pos;unfold Jo Sq Xl;by_cases hlim:Zx s x < x.Amount
 ·rw[TO hlim] at hdr ⊢
  rw[Ut hdr]
 ·rw[RW hlim] at hdr ⊢
  rw[U0 hdr];have e:(Kz r t<|Um s x<|Zx s x - x.Amount).book.Exported=s.B.Exported:=rfl;refine⟨[Kz r t {Um s x (Zx s x - x.Amount) with B:={(Um s x<|Zx s x - x.Amount).B with Exported:=s.B.Exported+x.Amount}}],A2,A3,?_,rfl,hp.m,hp.k⟩;simp only[DO,IF,QR,e];rw[Qn (n:=s.B.Exported+x.Amount) (by omega)<|by omega];rfl
theorem jC(hr:VU r)(h:Hl r n t s)(hn:n<=4096)(h0:0<=t)(ht:t<=65536)(hp:PR r t s A1 A2 A3)(he:Xk x=true)(k:x.Kind=5)(hday:x.Day=t):Xl r t (.inl<|P3 r s x) (YS A1 A2 A3 (some 0) x):=by
 obtain⟨hb,ha⟩:=kU he k;have hh:=HA h hb;have hsu:=h.sums _<|DN hb;have hsh:=hr.share;have hal0:0<=s.Sums x.Bond.toNat*r.Share:=mZ hsu.1 hsh.1;have hal1:s.Sums x.Bond.toNat*r.Share<=65536*17179869184*1000:=eI (by omega) hsh.2 hsh.1 (by omega);have e1:(Kz r t s).sums x.Bond.toNat=s.Sums x.Bond.toNat:=rfl;have e2:(Kz r t s).rules.Share=r.Share:=rfl;have e3:(Kz r t s).book.Bonds x.Bond.toNat=Zx s x:=rfl;have hset:=IG (x:=x) hr h hn h0 (u:={Um s x 0 with Sums:=ZM s.Sums x.Bond.toNat 0}) (.inl WL) hb (was:=Zx s x) (is:=x.Amount) (allowed:=s.Sums x.Bond.toNat*r.Share / 3650000) hh ha (by omega) rfl rfl rfl rfl;unfold YS Xl;rw[hp.o];simp only[DO,Co hb,IF,QR,e1,e2,e3,mn];rw[Qn (n:=s.Sums x.Bond.toNat*r.Share) (by omega) (by omega),mG hal0,Qn (n:=s.Sums x.Bond.toNat*r.Share / 3650000) (by omega)<|by omega];refine⟨_,_,_,ZR hset rfl,?_,hp.m,hp.k⟩
 have e4:ZM (ZM s.B.Bonds x.Bond.toNat 0) x.Bond.toNat (ZM s.B.Bonds x.Bond.toNat 0 x.Bond.toNat+x.Amount)=ZM s.B.Bonds x.Bond.toNat x.Amount:=by
  funext i;by_cases e:i=x.Bond.toNat
  ·subst e;rw[WL,WL,WL];omega
  ·rw[Xb e,Xb e,Xb e]
 unfold P3;rw[hday];simp only[Um,e4]
theorem y6(h:Hl r n t s)(hn:n<=4096)(hp:PR r t s A1 A2 A3)(he:Xk x=true)(k:x.Kind=6):Xl r t (jU s x) (VB A1 A2 A3 (some 0) x):=by
 have ha:=vi he k;have hl:=h.lim;have hpo:=h.pos;have hdu:=h.due;have e1:(Kz r t s).book.Due=s.B.Due:=rfl;have e2:(Kz r t s).book.Paid=s.B.Paid:=rfl;unfold VB jU Xl;rw[hp.o];simp only[DO,IF,QR,e1,e2];rw[Qn (n:=s.B.Due - s.B.Paid) (by omega)<|by omega];by_cases hlim:x.Amount > s.B.Due - s.B.Paid
 ·have e3:decide (x.Amount<=s.B.Due - s.B.Paid)=false:=by simp;omega
  rw[e3,TO hlim,Ut<|PH 11]
 ·have e3:decide (x.Amount<=s.B.Due - s.B.Paid)=true:=by simp;omega
  rw[e3,RW hlim,U0<|Ck 11,Qn (n:=s.B.Paid+x.Amount) (by omega)<|by omega];exact⟨_,_,_,rfl,rfl,hp.m,hp.k⟩
end
section
open Go.Dec
variable{l:UV (Int×QE)}
variable{r:FG}{n:Nat}{t d day:Int}{s u:Acc}{x:Ev}{p:QE}{A1:UV QD}{A2:PM}{A3:KM}
def GP(r:FG)(d:Int)(s:Acc):Acc:={s with B:=(XJ r 0 d s).B}
structure gX(r:FG)(u:Acc):Prop where
 sorted:u.B.Moving.Pairwise (λp q=>p.Id < q.Id)
 mov:∀p∈u.B.Moving,(1<=p.Amount/\p.Amount<=17179869184)/\0<=p.Sent/\p.Sent<=65536
 used:0<=u.B.Used/\u.B.Used+Yl QE.Amount u.B.Moving<=4611686018427387904
 due:0<=u.B.Due/\u.B.Due+1049*Yl QE.Amount u.B.Moving<=4611686018427387904
theorem Hl.rr(h:Hl r n t s)(hn:n<=4096)(ht:t<=65536):gX r s where
 sorted:=h.sorted
 mov:=λp hp=>⟨(h.mov p hp).amount,(h.mov p hp).sent.1,by have:=(h.mov p hp).sent.2;omega⟩
 used:=by have:=h.lim;have:=h.pos;omega
 due:=by have:=h.lim;have:=h.pos;have:=h.due;omega
theorem vR(hr:VU r)(h:0<=p.Sent/\p.Sent<=65536):Q5 (Q5 (p.Sent+r.Transit)+1)=ZN r p:=by
 have:=hr.transit;rw[Qn (n:=p.Sent+r.Transit) (by omega) (by omega),Qn (by omega)<|by omega];rfl
theorem PS(hr:VU r)(h:0<=p.Sent/\p.Sent<=65536):YW [Kz r t u] (some 0) p=some (ZN r p):=by
 unfold YW;simp only[DO,IF,Kz];rw[vR hr h]
def Xh(r:FG)(day:Int)(D:UV (Int×Bool))(l:UV (Int×QE)):UV (Int×Bool):=l.foldl (λD e=>if ZN r e.2<=day then Qx D (ZN r e.2) true else D) D
theorem mem_set{D:UV (Int×Bool)}{k:Int}(hn:(D.map Prod.fst).Nodup)(ht:∀y∈D,y.2=true)(y:Int×Bool):y∈Qx D k true↔y=(k,true)∨y∈D:=by
 rw[(Jm hn).mem_iff,j9,nU];constructor
 ·rintro(h | ⟨h,_⟩)
  ·exact .inl h
  ·exact .inr h
 ·rintro(h | h)
  ·exact .inl h
  ·by_cases e:k=y.1
   ·left;have:=ht y h;rw[e,<-this]
   ·exact .inr ⟨h,by simpa using e⟩
theorem Hw:∀{l:UV (Int×QE)} {D:UV (Int×Bool)},(D.map Prod.fst).Nodup->(∀y∈D,y.2=true)->
  ((Xh r day D l).map Prod.fst).Nodup/\(Xh r day D l).length<=D.length+l.length/\∀y,y∈Xh r day D l↔y∈D∨∃e∈l,ZN r e.2<=day/\y=(ZN r e.2,true)
 | [],D,hn,ht=>⟨hn,by simp[Xh],λy=>by simp[Xh]⟩
 | e::l,D,hn,ht=>by
  unfold Xh;rw[la];by_cases hc:ZN r e.2<=day
  ·rw[TO hc]
   have ht2:∀y∈Qx D (ZN r e.2) true,y.2=true:=λy hy=>by
    rcases(mem_set hn ht y).1 hy with rfl | hy
    ·rfl
    ·exact ht y hy
   have hlen:(Qx D (ZN r e.2) true).length<=D.length+1:=by
    have:=(Jm (k:=ZN r e.2) (v:=true) hn).length_eq;have h2:=eu (λx:Int×Bool=> !(ZN r e.2==x.1)) D;simp only[s6] at this;omega
   obtain⟨h1,h2,h3⟩:=Hw (l:=l) (JQ (k:=ZN r e.2) (v:=true) hn) ht2;refine⟨h1,by simp only[s6];unfold Xh at h2;omega,λy=> ?_⟩;rw[show(List.foldl (λD e=>if ZN r e.2<=day then Qx D (ZN r e.2) true else D) (Qx D (ZN r e.2) true) l)=Xh r day (Qx D (ZN r e.2) true) l from rfl,h3,mem_set hn ht];simp only[j9,exists_eq_or_imp];constructor
   ·rintro((h | h) | h)
    ·exact .inr<|.inl ⟨hc,h⟩
    ·exact .inl h
    ·exact .inr<|.inr h
   ·rintro(h | (h | h))
    ·exact .inl<|.inr h
    ·exact .inl<|.inl h.2
    ·exact .inr h
  ·rw[RW hc];obtain⟨h1,h2,h3⟩:=Hw (l:=l) hn ht;refine⟨h1,by simp only[s6];unfold Xh at h2;omega,λy=> ?_⟩;rw[show(List.foldl (λD e=>if ZN r e.2<=day then Qx D (ZN r e.2) true else D) D l)=Xh r day D l from rfl,h3];simp only[j9,exists_eq_or_imp];constructor
   ·rintro(h | h)
    ·exact .inl h
    ·exact .inr<|.inr h
   ·rintro(h | (h | h))
    ·exact .inl h
    ·exact absurd h.1 hc
    ·exact .inr h
theorem js{l':UV (Int×QE)}(hp:l'.Perm l):(Xh r day [] l').Perm (Xh r day [] l):=by
 have a:=Hw (r:=r) (day:=day) (l:=l') (D:=[]) (by simp) (by simp);have b:=Hw (r:=r) (day:=day) (l:=l) (D:=[]) (by simp)<|by simp
 have nd:∀{L:UV (Int×Bool)},(L.map Prod.fst).Nodup->L.Nodup:=fun{L} h=>by
  rw[List.Nodup,oR] at h
  exact h.imp λh e=>h<|by rw[e]
 refine(oo (nd a.1)<|nd b.1).2 λy=> ?_;rw[a.2.2,b.2.2];constructor
 ·rintro(h | ⟨e,he,h⟩)
  ·exact .inl h
  ·exact .inr ⟨e,hp.mem_iff.1 he,h⟩
 ·rintro(h | ⟨e,he,h⟩)
  ·exact .inl h
  ·exact .inr ⟨e,hp.mem_iff.2 he,h⟩
theorem yp{α:Type}{A:UV α}{x y:α}:List.set (A++[x]) A.length y=A++[y]:=by simp
theorem Pe(hr:VU r):∀{l:UV (Int×QE)} {D:UV (Int×Bool)},(∀e∈l,0<=e.2.Sent/\e.2.Sent<=65536)->
  Yx (KG [Kz r t u] A3 (some 0) day) l (A3++[D])=some (A3++[Xh r day D l])
 | [],D,_=>rfl
 | e::l,D,h=>by
  have he:=h e<|nX ..
  have step:KG [Kz r t u] A3 (some 0) day e (A3++[D])=some (A3++[if ZN r e.2<=day then Qx D (ZN r e.2) true else D]):=by
   unfold KG;rw[PS hr he];simp only[DO];by_cases hc:ZN r e.2<=day
   ·have hg:(A3++[D])[A3.length]? =some D:=by simp
    simp only[hc,nc,Rw,hg,DO,QR,yp]
   ·simp only[hc,nk,By,T2,DO]
  simp only[Yx,step,DO];exact Pe hr λq hq=>h q<|x8 _ hq
theorem zd(hr:VU r)(h:∀e∈l,0<=e.2.Sent/\e.2.Sent<=65536):B4 Tz (KG [Kz r t u] A3 (some 0) day) l (A3++[[]])=some (A3++[Xh r day [] l]):=by
 refine Ib (Pe hr h) λl' hl' =>⟨_,Pe hr λe he=>h e<|hl'.mem_iff.1 he,by simp,λi x y hx hy=> ?_⟩;by_cases hi:i < A3.length
 ·rw[nK hi] at hx hy
  rw[hx] at hy;simp only[BY] at hy;subst hy;exact .refl _
 ·rw[nr<|by omega] at hx hy
  cases hk:i - A3.length with
  | zero=>
   rw[hk] at hx hy
   simp only[IF,BY] at hx hy
   subst hx;subst hy;exact js hl'
  | succ k=>rw[hk] at hx;simp at hx
def xH(r:FG)(day:Int)(l:UV (Int×QE)):UV Int:=((Xh r day [] l).map Prod.fst).mergeSort λa b=>decide<|a<=b
theorem je:(xH r day l).Pairwise (·< ·):=by
 have hn:=(Hw (r:=r) (day:=day) (l:=l) (D:=[]) (by simp)<|by simp).1;have h1:(xH r day l).Pairwise (λa b=>decide (a<=b)=true):=iC (λa b c h1 h2=>by simp only[IR] at*;omega) (λa b=>by simp only[nq,IR];omega) _;have h2:(xH r day l).Nodup:=(eA _ _).nodup_iff.2 hn;exact(h1.and h2).imp λh=>by have:=h.1;have:=h.2;simp only[IR] at*;omega
theorem vV:d∈xH r day l↔d<=day/\∃e∈l,ZN r e.2=d:=by
 unfold xH;rw[(eA _ _).mem_iff,ny];have h:=(Hw (r:=r) (day:=day) (l:=l) (D:=[]) (by simp)<|by simp).2.2;constructor
 ·rintro⟨y,hy,rfl⟩;rcases(h y).1 hy with hy | ⟨e,he,hl,rfl⟩
  ·cases hy
  ·exact⟨hl,e,he,rfl⟩
 ·rintro⟨hd,e,he,rfl⟩;exact⟨(ZN r e.2,true),(h _).2<|.inr ⟨e,he,hd,rfl⟩,rfl⟩
theorem wF(hr:VU r)(hA1:A1=[Kz r t u]){m:UV (Int×QE)}(hA2:A2=[m])(hm:m.length<=4096)(hs:∀e∈m,0<=e.2.Sent/\e.2.Sent<=65536):Yi A1 A2 A3 (some 0) day=some ((A1,A2,A3++[Xh r day [] m]),xH r day m):=by
 subst hA1;subst hA2;have hsp:=Hw (r:=r) (day:=day) (l:=m) (D:=[]) (by simp) (by simp);have ht:=hr.transit
 have hk:Vz (A3++[Xh r day [] m]) (some A3.length)=some (xH r day m):=by
  have hg:(A3++[Xh r day [] m])[A3.length]? =some (Xh r day [] m):=by simp
  simp only[Vz,hg,DO,Gg];rw[TO]
  ·rfl
  ·refine⟨s7.2 λy hy=> ?_,by have:=hsp.2.1;simp at this;omega⟩;rcases(hsp.2.2 y).1 hy with hy | ⟨e,he,hl,rfl⟩
   ·cases hy
   ·have:=hs e he;simp only[IR];unfold ZN;omega
 unfold Yi;simp only[DO,IF,Kz];have h1:=zd (t:=t) (u:=u) (A3:=A3) (day:=day) hr hs;simp only[Kz] at h1
 rw[h1];simp only[DO,hk]
theorem gX.book(hr:VU r)(h:gX r u):gX r (GP r d u) where
 sorted:=h.sorted.filter _
 mov:=λp hp=>h.mov p (nU.1 hp).1
 used:=by
  have h1:=h.used;have h2:=FK (f:=QE.Amount) (c:=λp=>decide<|d < ZN r p) (l:=u.B.Moving);have h3:0<=Yl QE.Amount (u.B.Moving.filter λp=> !decide (d < ZN r p)):=FL λp hp=>by have:=(h.mov p (nU.1 hp).1).1.1;omega
  simp only[GP,XJ];omega
 due:=by
  have h1:=h.due;have h2:=FK (f:=QE.Amount) (c:=λp=>decide<|d < ZN r p) (l:=u.B.Moving);have h3:0<=Yl (λp=>Wr r p.Amount<|ZN r p) (u.B.Moving.filter λp=> !decide (d < ZN r p)):=FL λp hp=>by have:=(h.mov p (nU.1 hp).1).1.1;exact(hr.ca<|by omega).1
  have h4:Yl (λp=>Wr r p.Amount<|ZN r p) (u.B.Moving.filter λp=> !decide (d < ZN r p))<=Yl (λp=>1049*p.Amount) (u.B.Moving.filter λp=> !decide (d < ZN r p)):=El λp hp=>by have:=(h.mov p (nU.1 hp).1).1.1;exact(hr.ca<|by omega).2
  rw[NH] at h4
  simp only[GP,XJ];omega
theorem j7{d0:Int}(h:d0<=d):GP r d (GP r d0 s)=GP r d s:=by
 have e:=jV (r:=r) (s:=s) (t:=0) (u:=d0) (d:=d) h;have h1:(XJ r 0 d<|GP r d0 s).B=(XJ r d0 d<|XJ r 0 d0 s).B:=rfl;unfold GP at h1 ⊢
 simp only[h1,e]
theorem j6(h:∀p∈s.B.Moving,d < ZN r p):GP r d s=s:=by
 have e1:s.B.Moving.filter (λp=>decide<|d < ZN r p)=s.B.Moving:=mU.2 λp hp=>by simpa using h p hp
 have e2:s.B.Moving.filter (λp=> !decide (d < ZN r p))=[]:=lg.2 λp hp=>by simpa using h p hp
 simp only[GP,XJ,e1,e2,Yl,Int.add_zero]
theorem zM(h:∀p∈s.B.Moving,d<=ZN r p):OG r d s [] s.B.Moving=GP r d s:=by
 have e1:s.B.Moving.filter (λp=> !(ZN r p==d))=s.B.Moving.filter (λp=>decide<|d < ZN r p):=nT λp hp=>by
  have:=h p hp;by_cases e:ZN r p=d
  ·simp[e]
  ·have e2:d < ZN r p:=by omega
   simp[e,e2]
 have e2:s.B.Moving.filter (λp=>ZN r p==d)=s.B.Moving.filter (λp=> !decide (d < ZN r p)):=nT λp hp=>by
  have:=h p hp;by_cases e:ZN r p=d
  ·simp[e]
  ·have e2:d < ZN r p:=by omega
   simp[e,e2]
 have e3:Yl (λp=>Wr r p.Amount d) (s.B.Moving.filter λp=> !decide (d < ZN r p))=Yl (λp=>Wr r p.Amount<|ZN r p) (s.B.Moving.filter λp=> !decide (d < ZN r p)):=NI λp hp=>by
  have h1:=nU.1 hp;have h2:=h p h1.1;have h3:¬d < ZN r p:=by simpa using h1.2
  have:ZN r p=d:=by omega
  rw[this]
 simp only[OG,GP,XJ,mN,e1,e2,e3]
def R7(r:FG)(d:Int)(u:Acc)(l:UV QE):Acc:={u with B:={u.B with Used:=u.B.Used+Yl QE.Amount (l.filter λp=>ZN r p==d),Due:=u.B.Due+Yl (λp=>Wr r p.Amount d) (l.filter λp=>ZN r p==d)}}
def Cu(r:FG)(d:Int)(M l:UV (Int×QE)):UV (Int×QE):=l.foldl (λM e=>if ZN r e.2==d then Jy M e.1 else M) M
theorem PT(hr:VU r)(hd:0<=d):∀{l:UV (Int×QE)} {u:Acc} {M:UV (Int×QE)},(∀e∈l,(1<=e.2.Amount/\e.2.Amount<=17179869184)/\0<=e.2.Sent/\e.2.Sent<=65536)->
  0<=u.B.Used->u.B.Used+Yl QE.Amount (l.map Prod.snd)<=4611686018427387904->0<=u.B.Due->u.B.Due+1049*Yl QE.Amount (l.map Prod.snd)<=4611686018427387904->
  Yx (KL (some 0) d 0 0) l ([Kz r t u],[M])=some ([Kz r t<|R7 r d u<|l.map Prod.snd],[Cu r d M l])
 | [],u,M,_,_,_,_,_=>by simp[Yx,R7,Cu,Yl]
 | e::l,u,M,h,u0,u1,d0,d1=>by
  have he:=h e<|nX ..
  have hs:=FL (f:=QE.Amount) (l:=l.map Prod.snd) λq hq=>by
   obtain⟨y,hy,rfl⟩:=ny.1 hq;have:=(h y<|x8 _ hy).1.1;omega
  simp only[s4,Yl] at u1 d1
  have hdu:=hr.ca (a:=e.2.Amount) (d:=d) (by omega);by_cases hc:ZN r e.2=d
  ·have hb:(ZN r e.2==d)=true:=by simpa using hc
   have step:KL (some 0) d 0 0 e ([Kz r t u],[M])=some ([Kz r t<|Ek r e.2.Amount d u],[Jy M e.1]):=by
    unfold KL;simp only[];rw[PS hr he.2];have hmo:(Kz r t u).moving=some 0:=rfl;simp only[DO,hb,Rw,IF,hmo,fV,QR,mn];rw[O1 hr (by omega) hd (by omega)<|by omega];rfl
   simp only[Yx,step,DO];have ih:=PT hr hd (l:=l) (u:=Ek r e.2.Amount d u) (M:=Jy M e.1) (λq hq=>h q<|x8 _ hq) (by show 0<=u.B.Used+e.2.Amount;omega) (by show u.B.Used+e.2.Amount+_<=_;omega) (by show 0<=u.B.Due+Wr r e.2.Amount d;omega) (by show u.B.Due+Wr r e.2.Amount d+_<=_;omega);rw[ih];simp only[R7,Ek,Cu,s4,nu,hb,Rw,Yl,la,o8]
  ·have hb:(ZN r e.2==d)=false:=by simpa using hc
   have step:KL (some 0) d 0 0 e ([Kz r t u],[M])=some ([Kz r t u],[M]):=by
    unfold KL;simp only[];rw[PS hr he.2];simp only[DO,hb,By,T2]
   simp only[Yx,step,DO];have ih:=PT hr hd (l:=l) (u:=u) (M:=M) (λq hq=>h q<|x8 _ hq) u0 (by omega) d0 (by omega);rw[ih];simp only[R7,Cu,s4,nu,hb,By,T2,la]
theorem DT:∀{l M:UV (Int×QE)},(M.map Prod.fst).Nodup->Cu r d M l=M.filter (λe=> !(l.any λy=>ZN r y.2==d&&y.1==e.1))
 | [],M,_=>by
  have:M.filter (λe=> !(([]:UV (Int×QE)).any λy=>ZN r y.2==d&&y.1==e.1))=M:=mU.2 λ_ _=>rfl;rw[this];rfl
 | y::l,M,hn=>by
  unfold Cu;rw[la];by_cases hc:(ZN r y.2==d)=true
  ·rw[TO hc];have:=DT (l:=l) (M:=Jy M y.1)<|BL hn;unfold Cu at this
   rw[this,Wz hn,mq];refine nT λe _=> ?_;simp only[o7,hc,mA,iP,iA]
  ·simp only[nI] at hc
   rw[RW<|by simp[hc]];have:=DT (l:=l) (M:=M) hn;unfold Cu at this
   rw[this];refine nT λe _=> ?_;simp only[o7,hc,ll,mz]
theorem vU(hr:VU r)(hd:0<=d)(h:gX r u){m:UV (Int×QE)}(hm:m.Perm (u.B.Moving.map FZ)):Cg (KL (some 0) d 0 0) m ([Kz r t u],[m])=some ([Kz r t<|OG r d u [] u.B.Moving],[m.filter λe=> !(ZN r e.2==d)]):=by
 have hn:(m.map Prod.fst).Nodup:=(hm.map Prod.fst).nodup_iff.2<|FY h.sorted;refine Ia λl' hl' => ?_
 have hsnd:(l'.map Prod.snd).Perm u.B.Moving:=by
  have h1:=(hl'.trans hm).map Prod.snd;have h2:(u.B.Moving.map FZ).map Prod.snd=u.B.Moving:=by rw[eB];exact List.map_id _
  rwa[h2] at h1
 have hs:=Df (f:=QE.Amount) hsnd;have hall:∀e∈l',(1<=e.2.Amount/\e.2.Amount<=17179869184)/\0<=e.2.Sent/\e.2.Sent<=65536:=λe he=>h.mov e.2<|hsnd.mem_iff.1<|nB he;rw[PT hr hd hall h.used.1 (by rw[hs];exact h.used.2) h.due.1 (by rw[hs];exact h.due.2),DT hn]
 have e1:m.filter (λe=> !(l'.any λy=>ZN r y.2==d&&y.1==e.1))=m.filter (λe=> !(ZN r e.2==d)):=nT λe he=>by
  congr 1;rw[lO,nv];simp only[AT,mB];constructor
  ·rintro⟨y,hy,h1,h2⟩;have:=N5 hn (hl'.mem_iff.1 hy) he h2;rw[<-this];exact h1
  ·intro h1;exact⟨e,hl'.mem_iff.2 he,h1,rfl⟩
 rw[e1];have e2:Yl QE.Amount ((l'.map Prod.snd).filter λp=>ZN r p==d)=Yl QE.Amount (u.B.Moving.filter λp=>ZN r p==d):=Df<|hsnd.filter _;have e3:Yl (λp=>Wr r p.Amount d) ((l'.map Prod.snd).filter λp=>ZN r p==d)=Yl (λp=>Wr r p.Amount d) (u.B.Moving.filter λp=>ZN r p==d):=Df<|hsnd.filter _;simp only[R7,OG,Kz,e2,e3]
theorem N4(hr:VU r)(h0:0<=day){R:KM}:∀{ks:UV Int} {u:Acc} {m:UV (Int×QE)},ks.Pairwise (·< ·)->(∀d∈ks,0<=d/\d<=day)->gX r u->(∀p∈u.B.Moving,ZN r p<=day->ZN r p∈ks)->m.Perm (u.B.Moving.map FZ)->
  ∃m',Yx (Y1<|some 0) ks ([Kz r t u],[m],R)=some ([Kz r t<|GP r day u],[m'],R)/\m'.Perm ((GP r day u).B.Moving.map FZ)
 | [],u,m,_,_,h,hk,hm=>by
  have e:=j6 (r:=r) (d:=day) (s:=u) λp hp=>by
   have:=hk p hp;simp only[lu,imp_false] at this;omega
  rw[e];exact⟨m,rfl,hm⟩
 | d::ks,u,m,hs,hd,h,hk,hm=>by
  have hs' :=aT.1 hs;have hdd:=hd d<|nX ..
  have hge:∀p∈u.B.Moving,d<=ZN r p:=λp hp=>by
   by_cases hc:ZN r p<=day
   ·rcases j9.1 (hk p hp hc) with e | e
    ·omega
    ·have:=hs'.1 _ e;omega
   ·omega
  have hpm:=vU (t:=t) hr hdd.1 h hm;rw[zM hge] at hpm
  have hmo:(Kz r t u).moving=some 0:=rfl
  have step:Y1 (some 0) d ([Kz r t u],[m],R)=some ([Kz r t<|GP r d u],[m.filter λe=> !(ZN r e.2==d)],R):=by
   unfold Y1;simp only[DO,IF,hmo,hpm]
  have hm2:(m.filter λe=> !(ZN r e.2==d)).Perm ((GP r d u).B.Moving.map FZ):=by
   refine(hm.filter _).trans<|.of_eq ?_;rw[oh];show(u.B.Moving.filter λp=> !(ZN r p==d)).map FZ=(u.B.Moving.filter λp=>decide<|d < ZN r p).map FZ;congr 1;refine nT λp hp=> ?_;have:=hge p hp;by_cases e:ZN r p=d
   ·simp[e]
   ·have e2:d < ZN r p:=by omega
    simp[e,e2]
  obtain⟨m',g1,g2⟩:=N4 hr h0 (R:=R) hs'.2 (λq hq=>hd q<|x8 _ hq) (h.book hr (d:=d)) (λp hp hl=>by
   have hp' :=nU.1 hp;rcases j9.1 (hk p hp'.1 hl) with e | e
   ·have:=hp'.2;simp only[IR] at this;omega
   ·exact e) hm2
  rw[j7 hdd.2] at g1 g2
  exact⟨m',by simp only[Yx,step,DO];exact g1,g2⟩
theorem jD(h:Hl r n t s)(hday:t<=day)(h0:0<=t)(hd:day<=65536)(hu:u.B.Bonds=s.B.Bonds)(hu2:u.Sums=s.Sums):ZQ (JA day 0<|Kz r t u) (0,[Kz r t u])=some [Kz r t {u with Sums:=λi=>if i < 16 then s.Sums i+s.B.Bonds i*(day - t) else s.Sums i}]:=by
 obtain⟨f,hf,hloop⟩:=Hu (body:=JA day 0<|Kz r t u) (λi (f:Nat->Int)=>((i:Int),[Kz r t {u with Sums:=f}])) (λf=>[Kz r t {u with Sums:=f}]) (λi f=>f=λk=>if k < i then s.Sums k+s.B.Bonds k*(day - t) else s.Sums k) 16
  (λi f hi hf=>by
   have e:VJ 16 ((i:Nat):Int)=some i:=GA hi;have h1:=h.sums i hi;have h2:=h.bonds i hi;have hfi:f i=s.Sums i:=by rw[hf];simp
   have hm0:0<=s.B.Bonds i*(day - t):=mZ h2.1 (by omega);have hm1:s.B.Bonds i*(day - t)<=17179869184*(day - t):=lv h2.2 (by omega);have eb:(Kz r t u).book.Bonds i=s.B.Bonds i:=by show u.B.Bonds i=_;rw[hu]
   have ed:(Kz r t {u with Sums:=f}).day=t:=rfl;have es:(Kz r t {u with Sums:=f}).sums i=s.Sums i:=hfi;refine⟨ZM f i<|s.Sums i+s.B.Bonds i*(day - t),?_,?_⟩
   ·unfold JA;rw[TO (by simp;omega)];simp only[e,DO,QR,eb,IF,ed,es,mn,TD (by omega:i<=4294967296)];rw[Qn (n:=day - t) (by omega) (by omega),Qn (n:=s.B.Bonds i*(day - t)) (by omega) (by omega),Qn (n:=s.Sums i+s.B.Bonds i*(day - t)) (by omega)<|by omega];rfl
   ·funext k;by_cases hk:k=i
    ·subst hk;rw[WL,TO<|by omega]
    ·rw[Xb hk,hf];by_cases hlt:k < i
     ·simp only[hlt,Rw];rw[TO<|by omega]
     ·simp only[hlt,T2];rw[RW<|by omega])
  (λf hf=>by unfold JA;rw[RW<|by simp]) 16 0 u.Sums rfl (by rw[hu2];funext k;simp)
 have h0' :ZQ (JA day 0<|Kz r t u) (0,[Kz r t u])=some [Kz r t {u with Sums:=f}]:=hloop;rw[h0',hf]
theorem Lt(hr:VU r)(h:Hl r n t s)(hn:n<=4096)(h0:0<=t)(hday:t<=day)(hd:day<=65536)(hp:PR r t s A1 A2 A3):∃A1' A2' A3',YV A1 A2 A3 (some 0) day=some (A1',A2',A3')/\PR r day (XJ r t day s) A1' A2' A3' :=by
 obtain⟨m,hm,hmp⟩:=hp.m;obtain⟨kk,rest,hk,hkn,hkg⟩:=hp.k;have hu:=h.rr hn<|by omega
 have hmem:∀e∈m,e.2∈s.B.Moving:=λe he=>by
  obtain⟨q,hq,rfl⟩:=ny.1<|hmp.mem_iff.1 he;exact hq
 have hL:=wF (A3:=A3) (day:=day) hr hp.o hm (by have:=hmp.length_eq;have:=h.mlen;simp at*;omega) λe he=>(hu.mov e.2<|hmem e he).2
 obtain⟨m',hlo,hm'⟩:=N4 (t:=t) hr (by omega:0<=day) (R:=A3++[Xh r day [] m]) (ks:=xH r day m) (u:=s) (m:=m) je (λd hd=>by
   obtain⟨h1,e,he,h2⟩:=vV.1 hd;have:=(hu.mov e.2<|hmem e he).2;have:=hr.transit;unfold ZN at h2;omega) hu (λp hp hl=>vV.2 ⟨hl,FZ p,hmp.mem_iff.2<|nB hp,rfl⟩) hmp
 have hsu:=jD h hday h0 hd (u:=GP r day s) rfl rfl;unfold YV;rw[DO];refine⟨[Kz r day<|XJ r t day s],[m'],A3++[Xh r day [] m],ZR hL (ZR (by rw[hp.o,hm];exact hlo) ?_),rfl,⟨m',rfl,hm'⟩,⟨kk,rest++[Xh r day [] m],by rw[hk];rfl,hkn,hkg⟩⟩;simp only[DO,IF];refine ZR hsu ?_;simp only[DO,IF,QR,mn];rfl
end
section
open Go.Dec
variable{r:FG}{n:Nat}{t d:Int}{s s' :Acc}{x:Ev}{p:QE}
abbrev dS:Bk:=ZV.mk (λ_=>0) ([]) 0 0 0 0 0 0 0 0
def xg:(Acc ⊕ Int)×Nat->Bk×Int×Int
 | (.inl a,k)=>(a.B,(k:Int),0)
 | (.inr e,k)=>(dS,(k:Int),e)
theorem xu{e:Int}(h:Ft r s x= .inr e):e=4∨e=5∨e=10∨e=11∨e=12:=by
 unfold Ft Ss La Ce Dm Sq jU at h
 repeat' split at h
 all_goals first | (cases h;done) | (simp only[nw] at h;subst h;simp)
theorem yn{c:A7}{e:Int}(h:Uv r c x= .inr e):e=1∨e=7∨e=4∨e=5∨e=10∨e=11∨e=12:=by
 unfold Uv at h
 split at h
 ·simp only[nw] at h;omega
 ·split at h
  ·simp only[nw] at h;omega
  ·split at h
   ·cases h
   ·rename_i e' he;simp only[nw] at h
    subst h;have:=xu he;omega
theorem EI(hr:VU r){day:Int}:∀{l:UV Ev} {n:Nat} {c c' :A7} {k:Nat},Hl r n c.day c.acc->0<=c.day->c.day<=day->CD r day l n c=(.inl c',k)->Hl r k c'.day c'.acc/\0<=c'.day/\c'.day<=day/\n<=k/\k<=n+l.length
 | [],n,c,c',k,h,h0,h1,hg=>by
  simp only[CD,bY,nz] at hg
  obtain⟨rfl,rfl⟩:=hg;exact⟨h,h0,h1,IN _,by simp⟩
 | x::l,n,c,c',k,h,h0,h1,hg=>by
  rw[CD] at hg
  split at hg
  ·rename_i hx;split at hg
   ·rename_i c1 hs;obtain⟨g1,g2,g3,_⟩:=TF hr h h0 hs;obtain⟨a1,a2,a3,a4,a5⟩:=EI hr g1 (by omega) (by omega) hg;exact⟨a1,a2,a3,by omega,by simp only[s6];omega⟩
   ·simp only[bY,reduceCtorEq,false_and] at hg
  ·simp only[bY,nz] at hg
   obtain⟨rfl,rfl⟩:=hg;exact⟨h,h0,h1,IN _,by simp⟩
def E7:(A7 ⊕ Int)×Nat->(Int×Int×Acc) ⊕ (Bk×Int×Int)
 | (.inl c,k)=>.inl (c.day,(k:Int),c.acc)
 | (.inr e,k)=>.inr (dS,(k:Int),e)
end
section
open Go.Dec
variable{l:UV Ev}
variable{r:FG}{n:Nat}{t d day:Int}{s:Acc}{x:Ev}{p:QE}{A1:UV QD}{A2:PM}{A3:KM}
abbrev Deed:=(UV QD×PM×KM×Ev)->H1 fM
theorem An:∃D:Nat->Deed,Ug (some 0)=some D/\∀(x:Ev),Xk x=true->∃j,VJ 7 x.Kind=some j/\
  ∀{r:FG} {n:Nat} {t:Int} {s:Acc} {A1:UV QD} {A2:PM} {A3:KM},VU r->Hl r n t s->n<=4096->0<=t->t<=65536->PR r t s A1 A2 A3->x.Day=t->Xl r t (Ft r s x) (D j (A1,A2,A3,x)):=by
 refine⟨_,rfl,λx he=> ?_⟩;have ix:∀{k:Nat},k < 7->x.Kind=(k:Int)->VJ 7 x.Kind=some k:=λhk e=>by rw[e];exact GA hk
 rcases I7 he with k | k | k | k | k | k | k
 ·refine⟨0,ix (by omega) k,λhr h hn h0 ht hp hday=> ?_⟩;have:=qD h hn hp he k;unfold Ft;rw[k];exact this
 ·refine⟨1,ix (by omega) k,λhr h hn h0 ht hp hday=> ?_⟩;have:=jJ h hp he k;unfold Ft;rw[k];exact this
 ·refine⟨2,ix (by omega) k,λhr h hn h0 ht hp hday=> ?_⟩;have:=Ez hr h hn h0 hp he k hday;unfold Ft;rw[k];exact this
 ·refine⟨3,ix (by omega) k,λhr h hn h0 ht hp hday=> ?_⟩;have:=Ey hr h hn hp he k;unfold Ft;rw[k];exact this
 ·refine⟨4,ix (by omega) k,λhr h hn h0 ht hp hday=> ?_⟩;have:=I6 h hn hp he k;unfold Ft;rw[k];exact this
 ·refine⟨5,ix (by omega) k,λhr h hn h0 ht hp hday=> ?_⟩;have:=jC hr h hn h0 ht hp he k hday;unfold Ft;rw[k];exact this
 ·refine⟨6,ix (by omega) k,λhr h hn h0 ht hp hday=> ?_⟩;have:=y6 h hn hp he k;unfold Ft;rw[k];exact this
def fO(r:FG)(out:(A7 ⊕ Int)×Nat)(q:H1 ((Int×UV QD×PM×KM) ⊕ (Zq×Int×Int×H1 Nat))):Prop:=match out with
 | (.inl c,k)=>∃A1 A2 A3,q=some (.inl ((k:Int),A1,A2,A3))/\PR r c.day c.acc A1 A2 A3
 | (.inr e,k)=>q=some (.inr (⟨e⟩,(k:Int),0,some 0))
theorem Ng(hr:VU r)(hd:day<=65536)(hl:l.length<=4096){D:Nat->Deed}(hD:∀(x:Ev),Xk x=true->∃j,VJ 7 x.Kind=some j/\
  ∀{r:FG} {n:Nat} {t:Int} {s:Acc} {A1:UV QD} {A2:PM} {A3:KM},VU r->Hl r n t s->n<=4096->0<=t->t<=65536->PR r t s A1 A2 A3->x.Day=t->Xl r t (Ft r s x) (D j (A1,A2,A3,x)))
  {r33:H1 Nat×UV QD×PM×KM} (h33:r33.1=some 0):∀(post:UV Ev) (n:Nat) (c:A7) (A1:UV QD) (A2:PM) (A3:KM),l.drop n=post->n<=l.length->Hl r n c.day c.acc->0<=c.day->c.day<=day->PR r c.day c.acc A1 A2 A3->
  fO r (CD r day post n c) (ZQ (KB l day r33 D) ((n:Int),A1,A2,A3))
 | [],n,c,A1,A2,A3,hp,hn,h,h0,h1,hP=>by
  have e:n=l.length:=by have:=List.drop_eq_nil_iff.1 hp;omega
  have:KB l day r33 D ((n:Int),A1,A2,A3)=some (.done<|.inl ((n:Int),A1,A2,A3)):=by
   unfold KB;rw[RW<|by simp[e]];rfl
  rw[ZC,this];exact⟨A1,A2,A3,rfl,hP⟩
 | x::post,n,c,A1,A2,A3,hp,hn,h,h0,h1,hP=>by
  have hlt:n < l.length:=by
   rcases nA n l.length with h | h
   ·exact h
   ·rw[nC h] at hp;cases hp
  have hx:l[n]? =some x:=by rw[<-oe,hp];rfl
  have hp' :l.drop (n+1)=post:=by rw[<-List.tail_drop,hp];rfl
  have o1:(A1[0]?)=some (Kz r c.day c.acc):=by rw[hP.o];rfl
  have od:(Kz r c.day c.acc).day=c.day:=rfl;rw[CD];by_cases hle:x.Day<=day
  ·rw[TO hle];by_cases he:Xk x=true
   ·by_cases hlt2:x.Day < c.day
    ·have:KB l day r33 D ((n:Int),A1,A2,A3)=some (.done<|.inr (⟨7⟩,(n:Int),0,some 0)):=by
      unfold KB;rw[TO (by simp;omega)];simp only[Zw,hx,DO,hle,nc,Rw,BR,he];rw[U0<|Ck 1,h33];have e1:decide (x.Day≥c.day)=false:=by simp;omega
      simp only[DO,o1,od,e1];rw[Ut<|PH 7]
     have hs:Uv r c x= .inr 7:=by unfold Uv;simp only[he,x6,By,T2,hlt2,Rw]
     rw[ZC,this,hs];rfl
    ·obtain⟨B1,B2,B3,hpass,hPR⟩:=Lt hr h (by omega) h0 (show c.day<=x.Day by omega) (by omega) hP;obtain⟨j,hj,hdo⟩:=hD x he;have hpk:=E5 hr h (show c.day<=x.Day by omega);have hdo:=hdo hr hpk (by omega) (by omega) (by omega) hPR rfl
     have hb:KB l day r33 D ((n:Int),A1,A2,A3)=Qw (D j (B1,B2,B3,x)) (λq136=>some<|.done<|.inr (q136,(n:Int),0,some 0)) λr_130=>some (.next (((n+1:Nat):Int),r_130.1,r_130.2.1,r_130.2.2)):=by
      unfold KB;rw[TO (by simp;omega)];simp only[Zw,hx,DO,hle,nc,Rw,BR,he];rw[U0<|Ck 1,h33];have e1:decide (x.Day≥c.day)=true:=by simp;omega
      simp only[DO,o1,od,e1];rw[U0<|Ck 7,hpass];simp only[DO,hj,QR,TD (by omega:n<=4294967296)]
     have hs:Uv r c x=match Ft r (XJ r c.day x.Day c.acc) x with | .inl a=>.inl ⟨a,x.Day⟩ | .inr e=>.inr e:=by unfold Uv;simp only[he,x6,By,T2,hlt2]<;>rfl
     unfold Xl at hdo
     cases hq:Ft r (XJ r c.day x.Day c.acc) x with
     | inl a=>
      rw[hq] at hdo
      obtain⟨C1,C2,C3,hC,hPC⟩:=hdo;rw[U0 hC] at hb
      rw[hq] at hs
      have hs:Uv r c x= .inl ⟨a,x.Day⟩:=hs;obtain⟨g1,g2,g3,_⟩:=TF hr h h0 hs;rw[ZC,hb,hs];exact Ng hr hd hl hD h33 post (n+1) ⟨a,x.Day⟩ C1 C2 C3 hp' hlt g1 (by omega) hle hPC
     | inr e=>
      rw[hq] at hdo
      rw[Ut hdo] at hb
      rw[hq] at hs
      have hs:Uv r c x= .inr e:=hs;rw[ZC,hb,hs];rfl
   ·simp only[nI] at he
    have:KB l day r33 D ((n:Int),A1,A2,A3)=some (.done<|.inr (⟨1⟩,(n:Int),0,some 0)):=by
     unfold KB;rw[TO (by simp;omega)];simp only[Zw,hx,DO,hle,nc,Rw,BR,he];rw[Ut<|PH 1,h33]
    have hs:Uv r c x= .inr 1:=by unfold Uv;simp only[he,r6,Rw]
    rw[ZC,this,hs];rfl
  ·have:KB l day r33 D ((n:Int),A1,A2,A3)=some (.done<|.inl ((n:Int),A1,A2,A3)):=by
    unfold KB;rw[TO (by simp;omega)];simp only[Zw,hx,DO,hle,nk,By,T2]
   rw[ZC,this,RW hle];exact⟨A1,A2,A3,rfl,hP⟩
def Ou(r:FG)(day:Int)(out:(Acc ⊕ Int)×Nat)(q:H1 (H1 Nat×Int×Int×UV QD×PM×KM)):Prop:=match out with
 | (.inl a,k)=>∃A1 A2 A3,q=some (some 0,(k:Int),0,A1,A2,A3)/\PR r day a A1 A2 A3
 | (.inr e,k)=>q=some (none,(k:Int),e,[],[],[])
theorem dZ(r:FG):PR r 0 CS [Kz r 0 CS] [[]] [[]]:=⟨rfl,⟨[],rfl,by simp[CS]⟩,⟨[],[],rfl,by simp,λi=>by simp[Qc,CS]⟩⟩
theorem Hr(hlr:r.Rates.length<=1000000)(hl:l.length<=4096∨4096 < l.length):Ou r day (Ym r l day) (W0 r l day):=by
 unfold W0 Ym;rw[AU hlr,DO];by_cases h1:GW r=true
 ·simp only[h1,x6,By,T2];by_cases h2:l.length > 4096
  ·have e2:decide ((l.length:Int) > 4096)=true:=by simp;omega
   rw[TO h2,TO e2];rfl
  ·have e2:¬decide ((l.length:Int) > 4096)=true:=by simp;omega
   rw[RW h2,RW e2];by_cases h3:W8 day 0 65536=true
   ·simp only[PZ,h3,x6,By,T2];have hr:=PA.1 h1;have hd:=Yk.1 h3;obtain⟨D,hD,hDD⟩:=An;have hno:We [] [] [] r=some (some 0,[Kz r 0 CS],[[]],[[]]):=rfl;have hloop:=Ng hr hd.2 (by omega:l.length<=4096) hDD (r33:=(some 0,[Kz r 0 CS],[[]],[[]])) rfl l 0 MH _ _ _ (eH ..) (eQ _) (Og r) (by simp[MH]) (by simp[MH];omega)<|dZ r;rw[hno,DO,hD,DO];unfold fO at hloop
    unfold RV;cases hg:CD r day l 0 MH with
    | mk q k=>
     rw[hg] at hloop
     cases q with
     | inr e=>
      have hloop:ZQ (KB l day (some 0,[Kz r 0 CS],[[]],[[]]) D) (0,[Kz r 0 CS],[[]],[[]])=_:=hloop;rw[hloop];rfl
     | inl c=>
      obtain⟨A1,A2,A3,hq,hP⟩:=hloop;have hq:ZQ (KB l day (some 0,[Kz r 0 CS],[[]],[[]]) D) (0,[Kz r 0 CS],[[]],[[]])=_:=hq;obtain⟨a1,a2,a3,a4,a5⟩:=EI hr (Og r) (by simp[MH]) (by simp[MH];omega) hg;obtain⟨B1,B2,B3,hpass,hPR⟩:=Lt hr a1 (by omega) a2 a3 hd.2 hP;rw[hq,DO];exact⟨B1,B2,B3,ZR hpass rfl,hPR⟩
   ·simp only[nI] at h3
    simp only[PZ,h3,r6,Rw];rfl
 ·simp only[nI] at h1
  simp only[h1,r6,Rw];rfl
theorem Cf{a:Acc}{k:Nat}(h:Ym r l day=(.inl a,k)):VU r/\Hl r k day a/\(0<=day/\day<=65536)/\k<=l.length:=by
 unfold Ym at h
 split at h
 ·simp at h
 ·rename_i h1;split at h
  ·simp at h
  ·split at h
   ·simp at h
   ·rename_i h3;have hr:=PA.1 (by simpa using h1:GW r=true);have hd:=Yk.1 (by simpa using h3:W8 day 0 65536=true);unfold RV at h
    split at h
    ·rename_i c k' hg;simp only[bY,nz] at h
     obtain⟨rfl,rfl⟩:=h;obtain⟨a1,a2,a3,a4,a5⟩:=EI hr (Og r) (by simp[MH]) (by simp[MH];omega) hg;exact⟨hr,E5 hr a1 a3,hd,by omega⟩
    ·simp at h
theorem va:∀{n:Nat} {c:A7} {e:Int} {k:Nat},CD r day l n c=(.inr e,k)->(e=1∨e=7∨e=4∨e=5∨e=10∨e=11∨e=12)/\n<=k/\k < n+l.length:=by
 induction l with
 | nil=>intro n c e k h;simp[CD] at h
 | cons x l ih=>
  intro n c e k h;rw[CD] at h
  split at h
  ·split at h
   ·have:=ih h;simp only[s6];exact⟨this.1,by omega,by omega⟩
   ·rename_i e' hs;simp only[bY,nw] at h
    obtain⟨rfl,rfl⟩:=h;simp only[s6];exact⟨yn hs,by omega,by omega⟩
  ·simp at h
theorem Sa{e:Int}{k:Nat}(h:Ym r l day=(.inr e,k)):e≠0:=by
 unfold Ym at h
 split at h
 ·simp at h;omega
 ·split at h
  ·simp at h;omega
  ·split at h
   ·simp at h;omega
   ·unfold RV at h
    split at h
    ·simp at h
    ·rename_i e' k' hg;simp only[bY,nw] at h
     obtain⟨rfl,rfl⟩:=h;have:=va hg;omega
end
section
open Go.Dec
variable{l:UV QE}
variable{r:FG}{n:Nat}{t d day:Int}{s a:Acc}{x:Ev}{p:QE}{l:UV Ev}
theorem BG:∀{a b:UV Int},a.Pairwise (·< ·)->b.Pairwise (·< ·)->(∀x,x∈a↔x∈b)->a=b
 | [],[],_,_,_=>rfl
 | [],y::b,_,_,h=>by have:=(h y).2 (by simp);simp at this
 | x::a,[],_,_,h=>by have:=(h x).1 (by simp);simp at this
 | x::a,y::b,ha,hb,h=>by
  have ha' :=aT.1 ha;have hb' :=aT.1 hb
  have exy:x=y:=by
   have h1:=(h x).1 (by simp);have h2:=(h y).2 (by simp);rcases j9.1 h1 with e | h1
   ·exact e
   ·rcases j9.1 h2 with e | h2
    ·exact e.symm
    ·have:=hb'.1 x h1;have:=ha'.1 y h2;omega
  subst exy;congr 1;refine BG ha'.2 hb'.2 λz=> ?_;constructor
  ·intro hz;have:=(h z).1<|x8 _ hz;rcases j9.1 this with rfl | this
   ·have:=ha'.1 z hz;omega
   ·exact this
  ·intro hz;have:=(h z).2<|x8 _ hz;rcases j9.1 this with rfl | this
   ·have:=hb'.1 z hz;omega
   ·exact this
theorem Iy{l:UV QE}(h:l.Pairwise (λp q=>p.Id < q.Id)):(l.map QE.Id).Pairwise (·< ·):=oR.2 h
theorem vX{m:UV (Int×QE)}{l:UV QE}(hs:l.Pairwise (λp q=>p.Id < q.Id))(hm:m.Perm (l.map FZ))(hr:∀p∈l,0<=p.Id/\p.Id<=1073741824)(hl:l.length<=1000000):Gg m=some (l.map QE.Id):=by
 have hmp:(m.map Prod.fst).Perm (l.map QE.Id):=by
  have:=hm.map Prod.fst;have e:(l.map FZ).map Prod.fst=l.map QE.Id:=by rw[eB];rfl
  rwa[e] at this
 unfold Gg;rw[TO]
 ·congr 1;have h1:((m.map Prod.fst).mergeSort λa b=>decide<|a<=b).Pairwise (λa b=>decide (a<=b)=true):=iC (λa b c h1 h2=>by simp only[IR] at*;omega) (λa b=>by simp only[nq,IR];omega) _;have hp:=(eA (m.map Prod.fst) λa b=>decide<|a<=b).trans hmp;have hnd:(l.map QE.Id).Nodup:=(Iy hs).imp λh=>iG h;have h2:((m.map Prod.fst).mergeSort λa b=>decide<|a<=b).Nodup:=hp.nodup_iff.2 hnd;exact BG ((h1.and h2).imp λh=>by have:=h.1;have:=h.2;simp only[IR] at*;omega) (Iy hs) λx=>hp.mem_iff
 ·refine⟨s7.2 λy hy=> ?_,by have:=hm.length_eq;simp at this;omega⟩;obtain⟨q,hq,rfl⟩:=ny.1<|hm.mem_iff.1 hy;have:=hr q hq;exact nM<|show -9223372036854775808<=q.Id/\q.Id<=9223372036854775807 by omega
theorem vf{l:UV QE}(hs:l.Pairwise (λp q=>p.Id < q.Id))(hp:p∈l):l.find? (λq=>q.Id==p.Id)=some p:=by
 cases h:l.find? (λq=>q.Id==p.Id) with
 | none=>have:=List.find?_eq_none.1 h p hp;simp at this
 | some q=>
  have hq:=mJ h;have e:q.Id=p.Id:=by simpa using List.find?_some h
  rw[wK hs hq hp e]
theorem yR{amount:Int}(hlr:r.Rates.length<=1000000):Xr r amount day=some (if !GW r then(0,1) else if !W8 amount 0 17179869184|| !W8 day 0 65536 then(0,2) else(Wr r amount day,0)):=by
 unfold Xr;rw[AU hlr,DO];simp only[FE,PZ];by_cases h1:GW r=true
 ·simp only[h1,x6,By,T2];by_cases h2:(!W8 amount 0 17179869184|| !W8 day 0 65536)=true
  ·rw[TO h2,TO h2]
  ·rw[RW h2,RW h2];simp only[nq,ng,iV,Bool.not_eq_false] at h2
   have ha:=Yk.1 h2.1;have hd:=Yk.1 h2.2;exact ZR (Pc (PA.1 h1) ha.1 ha.2 hd.1) rfl
 ·simp only[nI] at h1
  simp only[h1,r6,Rw]
theorem Ls{k:Nat}(h:Ym r l day=(.inl a,k)):l.length<=4096:=by
 rcases nA 4096 l.length with h1 | h1
 ·unfold Ym at h
  split at h
  ·simp at h
  ·simp at h
 ·exact h1
theorem Ik{A1:UV QD}{m:UV (Int×QE)}{k e:Int}{o:H1 Nat}{A3:KM}(hs:a.B.Moving.Pairwise (λp q=>p.Id < q.Id))(hm:m.Perm (a.B.Moving.map FZ))(hl:a.B.Moving.length<=1000000):ZQ (UD (o,k,e,A1,[m],A3) (Kz r day a)<|a.B.Moving.map QE.Id) (0,(Kz r day a).book)=some a.B:=by
 obtain⟨b,hb,hloop⟩:=HH (body:=UD (o,k,e,A1,[m],A3) (Kz r day a)<|a.B.Moving.map QE.Id) (λi (b:Bk)=>((i:Int),b)) (λb=>b) (λpre b=>b={a.B with Moving:=pre}) a.B.Moving
  (λpre q post b hl' hb=>by
   have hil:pre.length < a.B.Moving.length:=by rw[hl'];simp
   have hx:(a.B.Moving.map QE.Id)[pre.length]? =some q.Id:=by rw[hl'];simp
   have hmo:(Kz r day a).moving=some 0:=rfl;have hq:Qc m q.Id=some q:=by rw[I1 hs hm];exact vf hs (by rw[hl'];simp)
   refine⟨{a.B with Moving:=pre++[q]},?_,rfl⟩;subst hb;unfold UD;rw[TO (by simp;omega)];simp only[Zw,hx,DO,hmo,IF,hq,lU];refine ZR (Ay (by simp;omega)) ?_;simp only[QR,TD (by omega:pre.length<=4294967296)])
  (λb hb=>by
   unfold UD;rw[RW<|by simp]) a.B.Moving [] {a.B with Moving:=[]} rfl rfl
 have h0:ZQ (UD (o,k,e,A1,[m],A3) (Kz r day a)<|a.B.Moving.map QE.Id) (0,(Kz r day a).book)=some b:=hloop;rw[h0,hb]
theorem Su(hlr:r.Rates.length<=1000000)(hl:l.length<=4096∨4096 < l.length):W1 r l day=some (xg<|Ym r l day):=by
 have hp:=Hr (day:=day) hlr hl;unfold Ou at hp
 unfold W1;cases h:Ym r l day with
 | mk q k=>
  rw[h] at hp
  cases q with
  | inr e=>
   have he:=Sa h;have hp:W0 r l day=some (none,(k:Int),e,[],[],[]):=hp;have hne:(e != 0)=true:=by simpa using he
   rw[hp];simp only[DO,hne,Rw,xg]
  | inl a=>
   obtain⟨A1,A2,A3,hq,hP⟩:=hp;obtain⟨hr,hok,hd,hk⟩:=Cf h;obtain⟨m,hm,hmp⟩:=hP.m;have hml:a.B.Moving.length<=1000000:=by have:=Ls h;have:=hok.mlen;omega
   have ho:A1[0]? =some (Kz r day a):=by rw[hP.o];rfl
   have hks:Vz A2 (some 0)=some (a.B.Moving.map QE.Id):=by
    rw[hm];simp only[Vz,IF,DO];exact vX hok.sorted hmp (λp hp=>(hok.mov p hp).id) hml
   rw[hq];simp only[DO,eP,By,T2,ho];have hno:xh (Kz r day a).book.Moving=some ():=rfl;have hmo:(Kz r day a).moving=some 0:=rfl;rw[hno,DO,hmo,hks,DO,hm];exact ZR (Ik hok.sorted hmp hml) rfl
end
section
open Go.Dec
variable{r:FG}{n:Nat}{t d day:Int}{s a:Acc}{x:Ev}{p:QE}{l:UV Ev}
theorem wW{k:Nat}{b:Acc}(h:Hl r k d b)(hk:k<=4096):(0<=b.B.Due/\b.B.Due<=4611686018427387904)/\0<=b.B.Paid/\b.B.Paid<=b.B.Due:=by
 have:=h.pos;have:=h.due;have:=h.lim;omega
end
end Go.Proofs.YtepbamgmocpemaaGreatDoor.Ex
namespace Go.Proofs.YtepbamgmocpemaaGreatDoor.Bo
section
open Go.Dec
variable{s:UV QB}{x:QB}
def Rt(x:QB)(n:Int):Prop:=x.Lo<=n/\n<=x.Hi
def mem(s:UV QB)(n:Int):Prop:=∃y∈s,Rt y n
structure XB(s:List QB):Prop where
 ok:∀y∈s,0<=y.Lo/\y.Lo<=y.Hi/\y.Hi<=1099511627776
 apart:s.Pairwise λa b=>a.Hi+1 < b.Lo
theorem Sd(n:Int):¬mem [] n:=by simp[mem]
theorem mem_cons(y:QB)(s:UV QB)(n:Int):mem (y::s) n↔Rt y n∨mem s n:=by simp[mem]
theorem mem_append(s t:UV QB)(n:Int):mem (s++t) n↔mem s n∨mem t n:=by
 simp only[mem,mH];constructor
 ·rintro⟨y,h | h,k⟩
  ·exact .inl ⟨y,h,k⟩
  ·exact .inr ⟨y,h,k⟩
 ·rintro(⟨y,h,k⟩ | ⟨y,h,k⟩)
  ·exact⟨y,.inl h,k⟩
  ·exact⟨y,.inr h,k⟩
theorem XB.nil:XB []:=⟨by simp,by simp⟩
theorem XB.tail{y:QB}(h:XB (y::s)):XB s:=⟨λz hz=>h.ok z (by simp[hz]),(aT.1 h.apart).2⟩
theorem XB.si{y:QB}(h:XB s)(hy:0<=y.Lo/\y.Lo<=y.Hi/\y.Hi<=1099511627776)(hs:∀z∈s,y.Hi+1 < z.Lo):XB (y::s):=by
 refine⟨λz hz=> ?_,aT.2 ⟨hs,h.apart⟩⟩;rcases j9.1 hz with rfl | hz
 ·exact hy
 ·exact h.ok z hz
theorem XB.append{t:UV QB}(h:XB s)(k:XB t)(hst:∀a∈s,∀b∈t,a.Hi+1 < b.Lo):XB (s++t):=by
 refine⟨λz hz=> ?_,oC.2 ⟨h.apart,k.apart,hst⟩⟩;rcases mH.1 hz with hz | hz
 ·exact h.ok z hz
 ·exact k.ok z hz
theorem XB.split{t:UV QB}(h:XB (s++t)):XB s/\XB t/\∀a∈s,∀b∈t,a.Hi+1 < b.Lo:=by
 have:=oC.1 h.apart;exact⟨⟨λz hz=>h.ok z (by simp[hz]),this.1⟩,⟨λz hz=>h.ok z (by simp[hz]),this.2.1⟩,this.2.2⟩
theorem B6(s:UV QB)(f:QB->Bool)(hl:s.length<=1000000):JX s (λx=>some<|f x)=some (match s.findIdx? f with | some i=>(i:Int) | none=> -1):=by
 unfold JX
 have key:=Dr (body:=Jv s λx=>some<|f x) (fun(_:Unit) i=>(i:Int)) (λ_ i x=>if f x then some (.done<|.inr (i:Int)) else some (.next ())) (λ_=>.inl ()) s
  (λt i x hx=>by
   have hi:=Zt hx;unfold Jv;simp only[Zw,hx,DO];rw[Qn (by omega)<|by omega];simp only[show(decide<|(i:Int) < (s.length:Int))=true by simpa using hi,Rw];cases f x<;>simp[UK.sk])
  (λt=>by unfold Jv;simp) ()
 simp only[nR] at key
 rw[key]
 have gen:∀(l:UV QB) (i:Nat),Rv (fun(_:Unit) i x=>if f x then some (.done<|.inr (i:Int)) else some (.next ())) (λ_=>(.inl ():Unit ⊕ Int)) l i ()=some (match l.findIdx? f with | some k=>.inr ((i+k:Nat):Int) | none=>.inl ()):=by
  intro l
  induction l with
  | nil=>intro i;simp[Rv]
  | cons x l ih=>
   intro i;simp only[Rv,List.findIdx?_cons];cases hf:f x with
   | true=>simp
   | false=>
    simp only[By,T2];rw[ih];cases l.findIdx? f with
    | none=>simp
    | some k=>simp;omega
 rw[gen];cases s.findIdx? f<;>simp
theorem Tf(s:UV QB)(f:QB->Bool)(hl:s.length<=1000000):Kv s (λx=>some<|f x)=some (s.any f):=by
 unfold Kv;rw[B6 s f hl];simp only[DO,BY];cases h:s.findIdx? f with
 | none=>
  rw[o3] at h
  simp only[show ¬((-1:Int)≥0) by omega,nk]
  symm;simpa using h
 | some i=>
  rw[oL] at h
  obtain⟨hi,hf,_⟩:=h;simp only[eD,show(0:Int)<=(i:Int) by omega,nc]
  symm;rw[nv];exact⟨_,oX hi,hf⟩
theorem Ie(hl:s.length<=1000000)(hn:XB s)(hx:x.Lo<=x.Hi):∃b,YY s x=some b/\(b=true↔∃n,Rt x n/\mem s n):=by
 refine⟨_,by unfold YY;rw[Tf s _ hl];rfl,?_⟩;rw[nv];simp only[Ju,AT,IR,mem,Rt];constructor
 ·rintro⟨y,hy,h1,h2⟩;have:=hn.ok y hy;by_cases h:x.Lo<=y.Lo
  ·exact⟨y.Lo,by omega,y,hy,by omega⟩
  ·exact⟨x.Lo,by omega,y,hy,by omega⟩
 ·rintro⟨n,hn',y,hy,h⟩;exact⟨y,hy,by omega,by omega⟩
theorem MI(hn:XB s)(hx:x.Lo<=x.Hi):(∃y∈s,y.Lo<=x.Lo/\x.Hi<=y.Hi)↔∀n,Rt x n->mem s n:=by
 constructor
 ·rintro⟨y,hy,h1,h2⟩ n hn';exact⟨y,hy,by simp only[Rt] at hn' ⊢;omega⟩
 ·intro h;obtain⟨y,hy,hm⟩:=h x.Lo ⟨by omega,hx⟩;refine⟨y,hy,hm.1,?_⟩;apply mX;intro hc;simp only[Rt] at hm h
  obtain⟨z,hz,hm2⟩:=h (y.Hi+1) ⟨by omega,by omega⟩;simp only[Rt] at hm2
  have hpw:=hn.apart;rw[eK] at hpw
  obtain⟨i,hi,ei⟩:=mT hy;obtain⟨j,hj,ej⟩:=mT hz;have oy:=hn.ok y hy;have oz:=hn.ok z hz;rcases oP i j with h' | h' | h'
  ·have:=hpw i j hi hj h';rw[ei,ej] at this;omega
  ·subst h';rw[ei] at ej;subst ej;omega
  ·have:=hpw j i hj hi h';rw[ei,ej] at this;omega
theorem ju(hl:s.length<=1000000)(hn:XB s)(hx:x.Lo<=x.Hi):∃b,VP s x=some b/\(b=true↔∀n,Rt x n->mem s n):=by
 refine⟨_,by unfold VP;rw[Tf s _ hl];rfl,?_⟩;rw[nv,<-MI hn hx];simp only[YZ,AT,IR]
end
end Go.Proofs.YtepbamgmocpemaaGreatDoor.Bo
end
