/- For OfficeRefused. -/
import Derived.Test.YtijhfeohbhedkaaGreatDoorPo8
noncomputable section
namespace Go.Dec
abbrev IF:=@List.getElem?_cons_zero
abbrev aT:=@List.pairwise_cons
abbrev pT:=@Bool.not_eq_true
abbrev pU:=@List.getElem?_set_self
abbrev pZ:=@List.getElem?_set_ne
abbrev pb:=@Int.natCast_zero
abbrev pn:=@Int.le_refl
abbrev pv:=@decide_true
abbrev pw:=@decide_false
abbrev rB:=@Sum.inr.injEq
abbrev rE:=@Sum.inl.injEq
abbrev rI:=@decide_eq_true
abbrev rT:=@List.set_set
abbrev rY:=@decide_eq_false
abbrev re:=@List.mem_of_find?_eq_some
abbrev ri:=@Int.mul_nonneg
abbrev rr:=@Option.isNone_some
abbrev ru:=@List.set_cons_zero
abbrev ry:=@List.filter_filter
abbrev r7:=@Classical.byContradiction
abbrev nD:=@Bool.and_eq_true_iff
abbrev nO:=@List.length_singleton
abbrev nR:=@bne_self_eq_false
abbrev nT:=@List.getElem?_mapIdx
abbrev nW:=@List.takeWhile_cons
abbrev ng:=@Bool.eq_iff_iff
abbrev nm:=@Bool.false_and
abbrev nv:=@List.foldl_cons
abbrev nw:=@List.mergeSort_perm
abbrev ny:=@Bool.or_self
abbrev mA:=@ge_iff_le
abbrev mD:=@Int.mul_le_mul
abbrev mU:=@Int.sub_self
abbrev mX:=@List.length_filter_le
abbrev mv:=@List.findIdx?_eq_some_iff_getElem
abbrev lH:=@List.pairwise_map
abbrev lP:=@List.not_mem_nil
abbrev lY:=@List.perm_ext_iff_of_nodup
abbrev lb:=@List.findIdx?_eq_none_iff
abbrev lg:=@List.any_cons
abbrev lk:=@Int.add_assoc
abbrev ll:=@Bool.and_comm
abbrev ln:=@and_assoc
abbrev lr:=@List.pairwise_mergeSort
abbrev lx:=@Nat.sub_self
abbrev lz:=@Int.ne_of_lt
abbrev eA:=@List.set_getElem_self
abbrev eG:=@Int.mul_add
abbrev eN:=@List.length_mapIdx
end Go.Dec
section
set_option maxRecDepth 100000
set_option maxHeartbeats 4000000
namespace Go.Proofs.YtijhfeohbhedkaaGreatDoor
open Go.Dec Go.Proofs.Tryz Go.Shelf Go.RowKit Go.Maps Go.Sort
section
variable{O:H1 Nat}{β:Type}{P:RK}{ops:Nm j9}{l0:UV j9}{ks:UV Kt}{Q:pY->Act->AT->Prop}{m:H1 β}{r:β}{n:Nat}{D:UV IR}{S:UV (Nat×Do)}{F:Fz}{hs:UV HP}{L:QA}
theorem _root_.Go.Dec.GL.aV(k:GL O P ops l0 ks Q (Hd n D S F<|SP::hs) m r):GL O P ops l0 ks Q (Hd n D S F hs) m r:=GG.ins (λ_=>trivial) k
theorem _root_.Go.Dec.GL.pD{v:Do}(i:Nat)(hi:hs[i]? =some (wa F L v))(k:∀q:QL,Ue 123 Kg F q.1 L.rules->v= .agg (AH L q).toArray->GL O P ops l0 ks Q (Hd n D S F<|u4 F L q++hs.eraseIdx i) m r):GL O P ops l0 ks Q (Hd n D S F hs) m r:=GG.be i hi λq h=>k q h.1 h.2
theorem _root_.Go.Dec.GL.ay{U:Js}(i:Nat)(hi:hs[i]? =some (Jz U F L))(k:∀q:QL,Ue 123 Kg F q.1 L.rules->GL O P ops l0 ks Q (Hd n D S F<|[pc U.g55 (AH L q) 55,Iu 8 (Ex QH) F 98 q.2.1 q.2.2.1 L.casks,Iu 6 (Ex QI) F 101 q.2.2.2.1 q.2.2.2.2.1 L.duties,Iu 4 (Ex QR) F 108 q.2.2.2.2.2.1 q.2.2.2.2.2.2.1 L.stamps,QW TA vl F q.2.2.2.2.2.2.2.1 L.batches,QW TA vk F q.2.2.2.2.2.2.2.2 L.pure]++hs.eraseIdx i) m r):GL O P ops l0 ks Q (Hd n D S F hs) m r:=GG.be i hi λq h=>k q h
end
theorem kQ{w:AT}{F F0:Fz}{b4 b5:Nat}{c4 c5:UV Do}{U:Js}{A:UV Qp}{R:HP}(le:F0<=F)(h:SH w F (Qh [pc b4 c4 9,pc b5 c5 27,Vm U F0 A,R])):SH w F (star (Qh [Vm U F A]) R):=
 have h1:=SH.push (k:=2) rfl<|(h.pull (k:=2) rfl).bW (Jl U) le
 h1.mono λ_ hm=>Xe<|VR<|VQ (ks:=[2,2]) hm
def XB(A:UV Qp)(i:Nat)(x:Qp)(word:UV AC)(n:UV Int)(d:QX):H1 (UV AC×Int×UV Qp):=
 (UL d.form (n.length:Int)).bind λok=>Qu (Zb ok 8) (λq=>some ([],q.e,A)) λ_=>
 (if(!x.ledgers.rules.isNone) then some true else some (word==([100,97,121]:UV AC))).bind λa=>(if a then some true else some (word==([114,117,108,101,115]:UV AC))).bind λz2=>
 Qu (Zb z2 6) (λq=>some ([],q.e,A)) λ_=>(YM x.ledgers).bind λL=>Qu (d.do_ (L,(),n)) (λq=>some ([],q.e,A)) λs=>some (s.1,0,A.set i {x with ledgers:=s.2})
def UE(A:UV Qp)(o:ON)(line:UV AC):H1 (UV AC×Int×UV Qp):=
 (if o.isNone then some true else(o.bind λi=>(A[i]?).bind λx=>some<|!x.open_)).bind λz=>if z then some ([],13,A) else
 if decide ((line.length:Int) > 1000) then some ([],3,A) else
 o.bind λi=>(A[i]?).bind λx=>Qu (Vf (Zf.mk line) ()) (λq=>some ([],q.e,A)) λw=>
 XA.bind λD=>match Qa D w.1 with
  | none=>some ([],8,A)
  | some d=>XB A i x w.1 w.2.1 d
theorem Hw(F0:Fz)(hT:Xo F0)(U:Js)(A:UV Qp)(o:ON)(p:H1 Of)(k:Unit)(h:ZJ U.g57 F0 p o)(line:UV AC):Xc Tryz.prog 9 [.pointer p,.string<|bs line].toArray F0 [Vm U F0 A] (UE A o line) (λr _ v=>v= .tuple #[.string<|bs r.1,vI r.2.1]) (λr F' =>[Vm U F' r.2.2]):=by
 refine Xc.tH func9 J ntmps9 J λr R=> ?_;refine .o (Sub.refl _) (J:_=[Vm U F0 A,R]) ?_;unfold UE;refine .w 2<|.l (cs:=[.string<|bs []]) J Tryz.zeroValue9 J λc=>.l (cs:=[vI 0]) J gN J λj=>.w 7<|.dC h J xF J J<|.m J J<|.orM (b:=o.isNone) 6 20 (λy an=> ?_) (λB=> ?_) λz F1 a=> ?_
 ·refine .fO y J J<|.m J J<|.fO y J J<|.d λi e=> ?_;obtain⟨bo,hbo,hpo⟩:=h.at e;refine .U hpo J J (.fO y J J<|.f J jd J W4 J<|.fO y J J<|.d λx ex=>.fR (Φ:=λv=>v=(.bool x.open_)) 2 J Fz.r hbo ex J V4 J (λvs ⟨M,q1,T,V,W,X,Y,Z,q8,q9,aB,aS,h,N,r1,r2,r3,r4,r5⟩=>⟨_,by subst h;exact J,J⟩) λv hv=> ?_);subst hv;refine .fO y J J<|.not J J<|.fP y J J J ?_;exact .dY 6 J J (by kernel_rfl) Fz.r
 ·refine .fK B J J J<|.fK B J J J<|.fK B J J J<|.fK B J J J<|.fK B J J J<|.fN B J J J ?_;exact .fin 6 J J (by kernel_rfl) Fz.r
 refine .w 3<|.i J (λhz=> ?_) λhz=> ?_
 ·refine .w 2<|.store (cs' :=[.string<|bs []]) W9 J J J J (i:=1) J (Jc J) J J<|.store (cs' :=[vI 13]) Ii J J J J (i:=0) J (Jc J) J J<|.w 2<|.fZ 2 (Jl U) a J ?_;exact .fy<|HW (U:=()) [2,2] results9 (.cell J V9 (i:=1) J J<|.cell J Lk (i:=0) J J .nil) J a J
 refine .w 3<|.dP J J U9 J<|.w 4<|.i J (λhl=> ?_) λhl=> ?_
 ·refine .w 2<|.store (cs' :=[.string<|bs []]) W9 J J J J (i:=1) J (Jc J) J J<|.store (cs' :=[vI 3]) Ii J J J J (i:=0) J (Jc J) J J<|.w 2<|.fZ 2 (Jl U) a J ?_;exact .fy<|HW (U:=()) [2,2] results9 (.cell J V9 (i:=1) J J<|.cell J Lk (i:=0) J J .nil) J a J
 refine .skip<|.d λi e=> ?_;obtain⟨bo,hbo,hpo⟩:=h.at e;refine .d (λx ex=>.w 4<|.makeFunc J J<|.defer J<|.w 5<|.build (cs:=(U4<|Zf.mk line).toArray) J gF Tryz.zeroValue64 (Rt _ gF) J J (by kernel_rfl)<|.box (cs:=U4<|Zf.mk line) J J J λb=>.sO (U:={U with g64:=b}) (L:=Zf.mk line) [0] J ?_);refine .fT [0] J call20 J J J J (Ch _ (hT.mono a) {U with g64:=b} (Zf.mk line) ()) ?_ λq F2 _ l2=>G9 (U:=()) call19 (Yc _ c [] j 0) [1,0] J results9 (λ_ _=>.cell J V9 (i:=0) J J<|.cell J Lk (i:=1) J J .nil) (Fz.t a l2) (λF'' w le hw=>kQ (Fz.t a<|Fz.t l2 le) hw) λ_=>J;rintro⟨word,n,rd⟩ F2 _ - l2 ⟨p7,k7,rfl,h7⟩;refine .pick [1,1,1,1] (J:_=[pc j [vI 0] 27,pc c [.string<|bs []] 9,Vm U F0 A,R])<|.w 9 ?_;refine .fW J call21 J J J (Ng _<|hT.mono<|Fz.t a l2) ?_;rintro D F3 _ - C ⟨pm,km,rfl,hm⟩;have h7' :=h7.mono C;show GL _ _ _ _ _ _ _ (match Qa D word with | none=>some ([],8,A) | some d=>XB A i x word n d) r;cases hg:Qa D word with
 | none=>
  refine .m J J (.cY hm J Nx (.str U9) P8 J J (λ_=> ?_) λx v hx=>by rw[hg] at hx;cases hx);refine .w 3<|.l (cs:=[.int .i64 0,.int .i64 0,.nilFunc]) J P8 J λE=> ?_;refine .store (cs' :=[.int .i64 0,.int .i64 0,.nilFunc]) Tryz.sizeOf70 J J J J (i:=0) J (Jc J) J J<|.w 7<|.off J J J J<|.off J J J J<|.off J J J J<|.off J J J J<|.off J J J J<|.bz J J J ?_;exact .cM (he:=(J:Zb false 8=some (.pan<|Qk.mk 8))) [] J call22 J J J J (Ki _ false 8) (λF4 u=>G9 (U:=()) call19 (Yc _ c [] j 0) [2,1] J results9 (λ_ _=>.cell J V9 (i:=0) J J<|.cell J Lk (i:=1) J J .nil) (Fz.t a<|Fz.t l2<|Fz.t C u) (λF'' w le hw=>kQ (Fz.t a<|Fz.t l2<|Fz.t C<|Fz.t u le)<|SH.dF [0,0,1,1] J hw) λ_=>J)
 | some d=>
  refine .m J J (.cY hm J Nx (.str U9) P8 J J (λh0=>by rw[hg] at h0;cases h0) λx0 v hx hv=> ?_);rw[hg] at hx
  obtain rfl:=u2 hx;obtain⟨fd,kd,rfl,hfd⟩:=hv;show GL _ _ _ _ _ _ _ (XB A i x word n d) r;unfold XB;refine .w 3<|.l (cs:=[.int .i64 0,.int .i64 0,.nilFunc]) J P8 J λE=> ?_;refine .store (cs' :=Ze d fd kd) Tryz.sizeOf70 J J J J (i:=0) J (Jc J) J (Qb<|by rfl) (.w 7<|.on J J<|.f J DM J Tryz.sizeOf67 J<|.on J J<|.fa J Tryz.isAgg67 Tryz.sizeOf67 J (i:=0) J (vs:=Zx d.form) (by kernel_rfl) J<|.on J J<|.m J J<|.on J J<|.fq J J UT J<|.on J J<|.fW J call23 J J J (AL _ d.form (n.length:Int)) ?_);rintro ok F4 _ - u rfl;refine .sG J J J<|.fT [] J call22 J J J J (Ki _ ok 8) ?_ λq F5 _ P=>G9 (U:=()) call19 (Yc _ c [] j 0) [2,1] J results9 (λ_ _=>.cell J V9 (i:=0) J J<|.cell J Lk (i:=1) J J .nil) (Fz.t a<|Fz.t l2<|Fz.t C<|Fz.t u P) (λF'' w le hw=>kQ (Fz.t a<|Fz.t l2<|Fz.t C<|Fz.t u<|Fz.t P le)<|SH.dF [0,0,1,1] J hw) λ_=>J;rintro _ F5 _ - P rfl;refine .pick [0,0,0,0,0] (J:_=[pc E (Ze d fd kd) 70,pc j [vI 0] 27,pc c [.string<|bs []] 9,Vm U F0 A,R])<|.w 3<|.fM (.p [0,4,5,6,7,8] J)<|.w 2<|.U hpo J J<|.f J jd J jQ J<|.f J HK J xL J ?_;have lA:F0<=F5:=Fz.t a<|Fz.t l2<|Fz.t C<|Fz.t u P;refine .fR (Φ:=λv=>∃p,v= .pointer p/\Ue 123 Kg F5 p x.ledgers.rules) 3 J lA (hbo.mono lA) ex J gD J (λvs ⟨M,q1,T,V,W,X,Y,Z,q8,q9,aB,aS,h,N,r1,r2,r3,r4,r5⟩=>⟨_,by subst h;exact J,M,J,N⟩) λv hv=> ?_;obtain⟨pr,rfl,hpr⟩:=hv;refine .sv hpr J gy J J<|.m J J<|.orM (b:=(!x.ledgers.rules.isNone)) 3 57 (λhb z=> ?_) (λhb=> ?_) λz1 F6 l6=> ?_
  ·refine .fO hb J J<|.m J J<|.fO hb J J<|.sZ J U9 J J<|.fP hb J J J ?_;exact .dY 3 J J (by kernel_rfl) Fz.r
  ·refine .fK hb J J J<|.fK hb J J J<|.fN hb J J J ?_;exact .fin 3 J J (by kernel_rfl) Fz.r
  refine .m J J<|.orM (b:=z1) 3 61 (λhb z=> ?_) (λhb=> ?_) λz2 F7 l7=> ?_
  ·refine .fO hb J J<|.m J J<|.fO hb J J<|.sZ J U9 J J<|.fP hb J J J ?_;exact .dY 3 J J (by kernel_rfl) Fz.r
  ·refine .fK hb J J J<|.fK hb J J J<|.fN hb J J J ?_;exact .fin 3 J J (by kernel_rfl) Fz.r
  have lB:F0<=F7:=Fz.t lA<|Fz.t l6 l7;refine .fT [] J call22 J J J J (Ki _ z2 6) ?_ λq s _ Q=>G9 (U:=()) call19 (Yc _ c [] j 0) [2,1] J results9 (λ_ _=>.cell J V9 (i:=0) J J<|.cell J Lk (i:=1) J J .nil) (Fz.t lB Q) (λF'' w le hw=>kQ (Fz.t lB<|Fz.t Q le)<|SH.dF [0,0,1,1] J hw) λ_=>J;rintro _ s _ - Q rfl;have lC:F0<=s:=Fz.t lB Q;refine .pick [0,0,0,0,0] (J:_=[pc E (Ze d fd kd) 70,pc j [vI 0] 27,pc c [.string<|bs []] 9,Vm U F0 A,R])<|.w 3<|.fM (.p [0,4,5,6,7,8] J)<|.w 2<|.U hpo J J<|.f J jd J jQ J ?_;refine .dq (Φ:=λus=>∃p0 p1 k1 p2 k2 p3 k3 p4 p5,us=Qg x.ledgers p0 () p1 k1 p2 k2 p3 k3 p4 () p5 ()/\Ue 123 Kg s p0 x.ledgers.rules/\QG 8 (Ex QH) s p1 k1 x.ledgers.casks/\QG 6 (Ex QI) s p2 k2 x.ledgers.duties/\QG 4 (Ex QR) s p3 k3 x.ledgers.stamps/\UB TA vl s p4 x.ledgers.batches/\UB TA vk s p5 x.ledgers.pure) 3 J lC (hbo.mono lC) ex J Tryz.isAgg55 jQ J (λvs ⟨M,q1,T,V,W,X,Y,Z,q8,q9,aB,aS,h,N,r1,r2,r3,r4,r5⟩=>⟨_,by subst h;rfl,J,M,T,V,W,X,Y,Z,q8,aB,J,N,r1,r2,r3,r4,r5⟩) λus hus=> ?_;obtain⟨p0,p1,k1,p2,k2,p3,k3,p4,p5,rfl,g0,g1,g2,g3,g4,g5⟩:=hus;refine .aV<|.bE J call24 J J J (i:=0) J (Dk _ x.ledgers p0 p1 k1 p2 k2 p3 k3 p4 p5 g0 g1 g2 g3 g4 g5) λL F9 v _ l9 _=>.pD 0 J λq aW hv=> ?_;subst hv;refine .l (cs:=zL) J gM J (λS=>.store (cs' :=AH L q) jQ J J J J (i:=0) J (Jc J) J (Qb<|by rfl)<|.fu (U:={U with g55:=S}) (L:=L) [0,0,0,0,0,0] aW Fz.r Fz.r Fz.r Fz.r Fz.r J ?_);have lD:F0<=F9:=Fz.t lC l9;have lE:F3<=F9:=Fz.t u<|Fz.t P<|Fz.t l6<|Fz.t l7<|Fz.t Q l9;refine .pick [0,0,0,0,0,0] (J:_=[Qx {U with g55:=S} F9 L,pc E (Ze d fd kd) 70,pc j [vI 0] 27,pc c [.string<|bs []] 9,Vm U F0 A,R])<|.w 3<|.fM (.p [0,4,5,7,8,10] J)<|.g<|.f J DM J Tryz.sizeOf68 J<|.fL J Tryz.isAgg68 J (i:=1) J J<|.m J J ?_;refine .aI [0] J ((hfd.mono lE) {U with g55:=S}) J J ⟨p7,k7,J,h7'.mono lE⟩ J J ?_ λq aX _ l10=>G9 (U:=()) call19 (Yc _ c [] j 0) [2,1] J results9 (λ_ _=>.cell J V9 (i:=0) J J<|.cell J Lk (i:=1) J J .nil) (Fz.t lD l10) (λF'' w le hw=>kQ (Fz.t lD<|Fz.t l10 le)<|SH.dF [0,0,1,1] J hw) λ_=>J;rintro⟨rep,L'⟩ aX _ - l10 rfl;have lF:F0<=aX:=Fz.t lD l10;refine .pick [0,0,0,0,0,0] (J:_=[Jz {U with g55:=S} aX L',pc E (Ze d fd kd) 70,pc j [vI 0] 27,pc c [.string<|bs []] 9,Vm U F0 A,R])<|.store (cs' :=[.string<|bs rep]) W9 J J J J (i:=3) J (Jc J) J J<|.w 3<|.fM (.p [0,4,5,10] J)<|.w 2<|.ay 0 J λq aW=> ?_;refine .fa J Tryz.isAgg55 jQ J (i:=0) J (vs:=AH L' q) (by kernel_rfl) J<|.bT 1 J Fz.r λau F f1=>.bT 1 J F λav G f2=>.bT 1 J (Fz.t F G) λaw H f3=>.dL 1 J (Fz.t F<|Fz.t G H) λax I f4=>.dL 1 J (Fz.t F<|Fz.t G<|Fz.t H I) λal K f5=> ?_;have lG:F0<=al:=Fz.t lF<|Fz.t F<|Fz.t G<|Fz.t H<|Fz.t I K;have f0:=aW.mono<|Fz.t F<|Fz.t G<|Fz.t H<|Fz.t I K;have f1' :=f1.mono<|Fz.t G<|Fz.t H<|Fz.t I K;have f2' :=f2.mono<|Fz.t H<|Fz.t I K;have f3' :=f3.mono<|Fz.t I K;have f4' :=f4.mono K;refine .pick [0,0,0,0,0,0] (J:_=[pc S (AH L' q) 55,pc E (Ze d fd kd) 70,pc j [vI 0] 27,pc c [.string<|bs rep] 9,Vm U F0 A,R])<|.U hpo J J<|.f J jd J jQ J ?_;refine .fi (xs' :=A.set i {x with ledgers:=L'}) (x' :={x with ledgers:=L'}) (us:=AH L' q) 4 J lG Fz.r xW jQ (hbo.mono lG) ex J J J J J J (λF' vs le ⟨M,q1,T,V,W,X,Y,Z,q8,q9,aB,aS,h,N,r1,r2,r3,r4,r5⟩=>⟨q.1,(),q.2.1,q.2.2.1,q.2.2.2.1,q.2.2.2.2.1,q.2.2.2.2.2.1,q.2.2.2.2.2.2.1,some q.2.2.2.2.2.2.2.1,(),some q.2.2.2.2.2.2.2.2,(),by subst h;exact J,f0.mono le,f1'.mono le,f2'.mono le,f3'.mono le,f4'.mono le,f5.mono le⟩) J<|.w 4<|.fL J V9 J (i:=3) J J<|.store (cs' :=[.string<|bs rep]) W9 J J J J (i:=3) J (Jc J) J J<|.store (cs' :=[vI 0]) Ii J J J J (i:=2) J (Jc J) J J<|.w 2 ?_;exact .fy<|TX (U:=()) [3,2] call19 (Yc _ c rep j 0) J [4,4] results9 (.cell J V9 (i:=0) J J<|.cell J Lk (i:=1) J J .nil) J lG J
end Go.Proofs.YtijhfeohbhedkaaGreatDoor
end
section
set_option maxRecDepth 100000
set_option maxHeartbeats 4000000
namespace Go.Proofs.YtijhfeohbhedkaaGreatDoor
open Go.Dec Go.Proofs.Tryz Go.Shelf Go.RowKit Go.Maps Go.Sort
abbrev Es:UV AC->Fz->UV Do->Prop:=fun(x:UV AC) _ vs=>vs=[.string<|bs x]
def K9{σ:Type}(y:UV AC->σ->H1 (σ×Bool))(s:UV AC×σ):H1 (UI (UV AC×σ)<|σ ⊕ σ):=
 if decide ((s.1.length:Int) > 0) then(V1 s.1 10).bind λi=>
  if decide (i≥0) then(ZX s.1 0<|ZC<|i+1).bind λu=>(ZX s.1 (ZC<|i+1) s.1.length).bind λv=>(y u s.2).bind λp=>if(!p.2) then some (.done<|.inr p.1) else some (.next (v,p.1))
  else(y s.1 s.2).bind λp=>if(!p.2) then some (.done<|.inr p.1) else some (.next ([],p.1))
 else some (.done<|.inl s.2)
def Xq{σ:Type}(y:UV AC->σ->H1 (σ×Bool))(s:UV AC)(a:σ):H1 σ:=(ZW (K9 y) (s,a)).bind λo=>match o with | .inl z=>some z | .inr z=>some z
theorem TD(F0:Fz)(σ:Type)(ly:Nat)(Y:σ->Fz->HP)(y:UV AC->σ->H1 (σ×Bool))(hy:Uc Tryz.prog ly F0 Es Y y)(s:UV AC)(b:Nat)(q:σ):Xc Tryz.prog 85 [.func (.yield ly) #[] #[],vP b 0].toArray F0 [pc b [.string<|bs s] 9,Y q F0] (Xq y s q) (λ_ _ _=>True) (λs' F' =>[Y s' F']):=by
 refine Xc.enter func85 J ntmps85 J λr R=> ?_;unfold Xq;refine .k (.loop (fun(s:UV AC×σ) a w=>∃f,F0<=f/\Hd 25 [] [(0,.func (.yield ly) #[] #[]),(1,vP b 0)] f [pc b [.string<|bs s.1] 9,Y s.2 f,R] a w) (λo e a w=>match o with | .inl z=>e= .exit 0/\∃f c,F0<=f/\Hd 25 [] [] f [pc b c 9,Y z f,R] a w | .inr z=>e= .ret/\∃f c,F0<=f/\Hd 25 [] [] f [pc b c 9,Y z f,R] a w) ?_ ?_ ?_)
 ·exact λa w h=>⟨F0,Fz.r,h.1.sub<|.k J,h.2⟩
 ·rintro⟨s,st⟩ ctl;refine GC.ex λa w ⟨f,j,hA⟩=>⟨_,hA,?_⟩;unfold K9;refine .w 3<|.fL J V9 J (i:=0) J J<|.dP J J U9 J<|.w 3<|.i J (λhb=> ?_) λhb=> ?_
  ·refine .w 11<|.fL J V9 J (i:=0) J J<|.fW J call86 J J J (SQ _ s 10) ?_;rintro i x _ - l2 rfl;refine .w 9<|.i J (λhi=> ?_) λhi=> ?_
   ·refine .d λu hu=>.d λv hv=> ?_;refine .fM (.p [0,1,4] J)<|.fc 9 Qc (by kernel_rfl)<|.fL J V9 J (i:=0) J J<|.w 2<|.aE hu J U9 J J<|.fL J V9 J (i:=0) J J<|.w 2<|.sa hv J U9 J J<|.s J J<|.fp<|.store (cs' :=[.string<|bs v]) W9 J J J J (i:=0) J (Jc J) J J<|.w 6<|.cn J hy J J J (i:=1) J j l2 λp l _ m=>.w 3<|.i J (λhq=> ?_) λhq=> ?_
    ·exact .fy<|Q3.ret λa w h=>⟨J,l,_,Fz.t j<|Fz.t l2 m,h.1.sub<|.k J,h.2⟩
    ·refine .w 2 ?_;exact .n<|Q3.norm λa w h=>⟨l,Fz.t j<|Fz.t l2 m,h.1.sub<|.k J,h.2⟩
   ·refine .fM (.p [0,1,4] J)<|.g<|.fL J V9 J (i:=0) J J<|.s J J<|.store (cs' :=[.string<|bs []]) W9 J J J J (i:=0) J (Jc J) J J<|.w 6<|.cn J hy J J J (i:=1) J j l2 λp l _ m=>.w 3<|.i J (λhq=> ?_) λhq=> ?_
    ·exact .fy<|Q3.ret λa w h=>⟨J,l,_,Fz.t j<|Fz.t l2 m,h.1.sub<|.k J,h.2⟩
    ·refine .w 2 ?_;exact .n<|Q3.norm λa w h=>⟨l,Fz.t j<|Fz.t l2 m,h.1.sub<|.k J,h.2⟩
  ·exact .fY J<|Q3.exit λa w h=>⟨J,f,_,j,h.1.sub<|.k J,h.2⟩
 ·intro o A hk e a w hD;rcases o with z | z
  ·obtain⟨rfl,f,c,j,hA⟩:=hD;refine ZA J<|GE.app ?_ hk a w hA;exact .br [1,1] results85 .n J j trivial
  ·obtain⟨rfl,f,c,j,hA⟩:=hD;exact Jd<|(Gp [1,1] results85 .n J j trivial) hk a w hA
def D6:Nat->UV AC->UV (UV AC)
 | 0,_=>[]
 | k+1,s=>if s=[] then[] else if 0<=Go.Lib.indexByte s 10 then s.take ((Go.Lib.indexByte s 10).toNat+1)::D6 k (s.drop<|(Go.Lib.indexByte s 10).toNat+1) else[s]
theorem Ay:∀(s:UV AC) (c:AC), -1<=Go.Lib.indexByte s c/\Go.Lib.indexByte s c < (s.length:Int)
 | [],c=>by simp[Go.Lib.indexByte]
 | b::l,c=>by
  have ih:=Ay l c;simp only[Go.Lib.indexByte,s5];split
  ·omega
  ·split
   ·omega
   ·omega
theorem LI{σ:Type}{y:UV AC->σ->H1 (σ×Bool)}:∀(k:Nat) (s:UV AC) (st r:σ),s.length<=k->s.length<=1000000000000->Us y (D6 k s) st=some r->ZW (K9 y) (s,st)=some (.inl r)∨ZW (K9 y) (s,st)=some (.inr r)
 | 0,s,st,r,hk,_,h=>by
  obtain rfl:s=[]:=x6 (by omega);simp only[D6,Us,BY] at h
  subst h;left;rw[ZQ];simp[K9]
 | k+1,s,st,r,hk,hl,h=>by
  by_cases h0:s=[]
  ·subst h0;simp only[D6,OF,Us,BY] at h
   subst h;left;rw[ZQ];simp[K9]
  ·have hpos:0 < s.length:=by cases s with | nil=>exact absurd rfl h0 | cons=>simp
   obtain⟨i1,i2⟩:=Ay s 10;simp only[D6,RW h0] at h
   have ec:((10:Int).toNat.toUInt8)=10:=by decide
   rw[ZQ];by_cases hi:0<=Go.Lib.indexByte s 10
   ·rw[T2 hi] at h
    simp only[Us] at h
    have hw:ZC (Go.Lib.indexByte s 10+1)=Go.Lib.indexByte s 10+1:=Qq (by omega)<|by omega
    have s1:ZX s 0 (ZC<|Go.Lib.indexByte s 10+1)=some (s.take<|(Go.Lib.indexByte s 10).toNat+1):=by
     rw[hw];unfold ZX;rw[T2<|by omega];congr 1;simp only[mc,mC,mQ];congr 1;omega
    have s2:ZX s (ZC<|Go.Lib.indexByte s 10+1) s.length=some (s.drop<|(Go.Lib.indexByte s 10).toNat+1):=by
     rw[hw];unfold ZX;rw[T2<|by omega];congr 1;rw[s4 (by simp;skip)];congr 1;omega
    have hb:K9 y (s,st)=(y (s.take<|(Go.Lib.indexByte s 10).toNat+1) st).bind λp=>if(!p.2) then some (.done<|.inr p.1) else some (.next (s.drop<|(Go.Lib.indexByte s 10).toNat+1,p.1)):=by
     unfold K9 V1;rw[T2 (by simpa using hpos),ec];show(if decide (Go.Lib.indexByte s 10≥0) then _ else _)=_;rw[T2 (by simpa using hi),s1,s2];rfl
    rw[hb];cases hy:y (s.take<|(Go.Lib.indexByte s 10).toNat+1) st with
    | none=>rw[hy] at h;cases h
    | some p=>
     rw[hy] at h
     simp only[DO] at h ⊢
     by_cases hp:p.2=true
     ·rw[T2 hp] at h
      have:=LI k (s.drop<|(Go.Lib.indexByte s 10).toNat+1) p.1 r (by simp;omega) (by simp;omega) h;simpa[hp] using this
     ·rw[RW hp] at h
      simp only[BY] at h
      right;simp[hp,h]
   ·rw[RW hi] at h
    simp only[Us] at h
    have hb:K9 y (s,st)=(y s st).bind λp=>if(!p.2) then some (.done<|.inr p.1) else some (.next ([],p.1)):=by
     unfold K9 V1;rw[T2 (by simpa using hpos),ec];show(if decide (Go.Lib.indexByte s 10≥0) then _ else _)=_;rw[RW<|by simpa using hi]
    rw[hb];cases hy:y s st with
    | none=>rw[hy] at h;cases h
    | some p=>
     rw[hy] at h
     simp only[DO] at h ⊢
     by_cases hp:p.2=true
     ·rw[T2 hp] at h
      simp only[BY] at h
      left;simp only[hp,wt,By,PP];rw[ZQ];simp[K9,h]
     ·rw[RW hp] at h
      simp only[BY] at h
      right;simp[hp,h]
def EV(s:UV AC):UV (UV AC):=D6 s.length s
theorem Tk{σ:Type}{y:UV AC->σ->H1 (σ×Bool)}{s:UV AC}{st r:σ}(hl:s.length<=1000000000000)(h:Us y (EV s) st=some r):Xq y s st=some r:=by
 unfold Xq;rcases LI s.length s st r (If _) hl h with e | e
 ·rw[e];rfl
 ·rw[e];rfl
theorem qN(F:Fz)(s:UV AC)(b:Nat)(hl:s.length<=1000000000000):wH Tryz.prog F 85 [vP b 0] Es [pc b [.string<|bs s] 9] (EV s):=⟨call85,λσ ly Y y F1 _ hy s0 r hr=>TD F1 σ ly Y y hy s b s0 r<|Tk hl hr⟩
theorem Pq(F0:Fz)(s:UV AC):CT Tryz.prog 62 [.string<|bs s].toArray F0 SP (some ()) (λ_ _ _=>True) (λ_ _ v=>yi (λb=>v= .func (.func 85) #[] #[vP b 0]) λb=>[pc b [.string<|bs s] 9]):=by
 refine CT.enter func62 J ntmps62 J λr R=> ?_;refine .w 2<|.box (cs:=[.string<|bs s]) J J J λb=>.w 5<|.makeFunc J J<|.w 3 ?_;refine .c9 (Φ:=λb' =>(.func (.func 85) #[] #[vP b 0]:Do)= .func (.func 85) #[] #[vP b' 0]) (l:=λb=>[pc b [.string<|bs s] 9]) [0] b J J ?_;exact .sh results62 (.tmp J .nil) (i:=0) J (j:=1) J Fz.r trivial
def HH{σ:Type}(y:UV AC->σ->H1 (σ×Bool))(line:UV AC)(s:σ):H1 (UI σ σ):=(Vd line [10]).bind λu=>(y u s).bind λp=>if(!p.2) then some (.done p.1) else some (.next p.1)
def CN{σ:Type}(y:UV AC->σ->H1 (σ×Bool))(script:UV AC)(a:σ):H1 σ:=(S4 (HH y) (EV script) a).bind λc=>match c with | .next s=>some s | .done s=>some s
theorem Tw(F0:Fz)(σ:Type)(ly:Nat)(Y:σ->Fz->HP)(y:UV AC->σ->H1 (σ×Bool))(hy:Uc Tryz.prog ly F0 Es Y y)(script:UV AC)(hl:script.length<=1000000000000)(b:Nat)(hb:F0.mem b=some (.cells #[.string<|bs script] 9))(g:σ):Xc Tryz.prog 61 [.func (.yield ly) #[] #[],vP b 0].toArray F0 [Y g F0] (CN y script g) (λ_ _ _=>True) (λs' F' =>[Y s' F']):=by
 refine Xc.bN func61 J ntmps61 J λr R=> ?_;unfold CN;refine .w 2<|.box (cs:=[.func (.yield ly) #[] #[]]) J J J λe=>.w 4<|.fJ J V9 J hb J<|.aV<|.sC J call62 J J J (i:=0) J (Pq _ script) λA v c=>.be 0 J λbL hv=> ?_;subst hv;refine .w 3<|.fM (.p [1,2,5] J)<|.pick [0,0,0,0] (J:_=[pc bL [.string<|bs script] 9,pc e [.func (.yield ly) #[] #[]] 116,Y g F0,R]) ?_;refine .tN 2 hy J Fz.r c<|.sU [pc bL [.string<|bs script] 9] [0] (λs F hs=>hs=[pc e [.func (.yield ly) #[] #[]] 116,Y s F,R]) (λs F hs=>hs=[pc e [.func (.yield ly) #[] #[]] 116,Y s F,R]) J (qN A script bL hl) J (λ_ _ _ h=>by rw[h];rfl) J J ?_ ?_ ?_
 ·rintro l L f z x vs s ctl R' hs' l2 a rfl rfl;unfold HH;refine .d λu hu=>.w 3 ?_;refine GE.begin 0 J<|.w 2<|.fM (.p [2,3] J) ?_;refine .dG 3 0 (λ_=>[vT<|.func (.yield ly) #[] #[],vT<|.string<|bs x,vT<|.string<|bs u]) (λ_ _=>[pt l<|Vr L,R',pc e [.func (.yield ly) #[] #[]] 116,Y s f,R]) Qc (by kernel_rfl) (λ_=>J) (λ_=>J) ?_ λenv E j hphi=> ?_
  ·refine .B (.fL J Tryz.isAgg116 J (i:=2) J J<|.fv J)<|.V 1 (λ_ _=>⟨J,J⟩)<|.b (λ_ _ C m=>.dQ hu J call63 J J J (Ce _ x [10]) λG v D hv=>by subst hv;exact .dv J J D) .nil
  refine .o (.p [7,9] J) (J:_=[pt l<|Vr L,R',pc e [.func (.yield ly) #[] #[]] 116,Y s f,R])<|.cn J hy J J J (i:=3) J (Fz.t c l2) (Fz.t a j) λp C _ m=>.w 3<|.i J (λhq=> ?_) λhq=> ?_
  ·exact .fy<|RP.ret (Fz.t j m) J J
  ·refine .w 2 ?_;exact .n<|RP.norm (Fz.t j m) J J
 ·rintro q f z s hs' l2 a he rfl;refine .k<|.tN 2 hy J (Fz.t c l2) a ?_;exact .aq [2,2] [(0,q)] results61 ⟨J,trivial⟩ .n J (Fz.t c<|Fz.t l2 a) trivial
 ·rintro q f z s hs' l2 a he rfl;refine .tN 2 hy J (Fz.t c l2) a ?_;exact .tY [2,2] [(0,q)] results61 ⟨J,trivial⟩ .n J (Fz.t c<|Fz.t l2 a) trivial
end Go.Proofs.YtijhfeohbhedkaaGreatDoor
end
section
set_option maxRecDepth 100000
set_option maxHeartbeats 4000000
namespace Go.Proofs.YtijhfeohbhedkaaGreatDoor
open Go.Dec Go.Proofs.Tryz Go.Shelf Go.RowKit Go.Maps Go.Sort
def Pd(x:UV AC):Bool:=x.getLast? ==some 10
def OC(x:UV AC):UV AC:=if Pd x then x.dropLast else x
theorem Az(x:UV AC)(h:x.length<=1000000000000):Jy x [10]=some (Pd x):=by
 unfold Jy Zl Pd;cases hx:x.reverse with
 | nil=>
  obtain rfl:x=[]:=by simpa using hx
  rfl
 | cons c l=>
  obtain rfl:x=l.reverse++[c]:=by have:=congrArg List.reverse hx;simpa using this
  have h1:(l.reverse++[c]).length=l.length+1:=by simp
  rw[h1] at h ⊢
  have hw:ZC (((l.length+1:Nat):Int) - (([10]:UV AC).length:Int))=(l.length:Int):=by
   show ZC (((l.length+1:Nat):Int) - (1:Int))=_;rw[Qq (by omega)<|by omega];omega
  have hs:ZX (l.reverse++[c]) (l.length:Int) ((l.length+1:Nat):Int)=some [c]:=by
   unfold ZX;rw[T2 (by simp;omega)];congr 1;simp only[rV];rw[nH (by simp),mS<|by simp];simp
  rw[T2 (by simp;omega),hw,hs];show some ([c]==([10]:UV AC))=some ((l.reverse++[c]).getLast? ==some 10);rw[List.getLast?_concat];have:([c]==([10]:UV AC))=(some c==some 10):=by by_cases h:c=10<;>simp[h]
  rw[this]
theorem Nz(x:UV AC)(h:x.length<=1000000000000):Vd x [10]=some (OC x):=by
 have h0:=Az x h;unfold Jy at h0
 unfold Vd JB OC
 have h1:Zl x [10]=some (Pd x):=by
  cases e:Zl x [10] with
  | none=>rw[e] at h0;cases h0
  | some b=>rw[e] at h0;exact h0
 rw[h1];simp only[DO];cases he:Pd x with
 | false=>rfl
 | true=>
  have hne:0 < x.length:=by
   cases x with
   | nil=>simp[Pd] at he
   | cons=>simp
  have hw:ZC ((x.length:Int) - (([10]:UV AC).length:Int))=((x.length - 1:Nat):Int):=by
   show ZC ((x.length:Int) - (1:Int))=_;rw[Qq (by omega)<|by omega];omega
  rw[hw]
  have hs:ZX x 0 ((x.length - 1:Nat):Int)=some x.dropLast:=by
   unfold ZX;rw[T2<|by omega];congr 1;simp only[mc,mC,mQ,rV];rw[List.dropLast_eq_take]
  rw[hs];rfl
def NB(s:UV AC):UV (UV AC):=(EV s).map OC
theorem NC:∀(k:Nat) (s:UV AC),∀x∈D6 k s,x.length<=s.length
 | 0,_,_,h=>by simp[D6] at h
 | k+1,s,x,h=>by
  unfold D6 at h
  split at h
  ·simp at h
  ·split at h
   ·simp only[y1] at h
    rcases h with rfl | h
    ·simp;omega
    ·have:=NC k _ x h;simp at this;omega
   ·simp only[rP] at h
    subst h;exact If _
theorem Pb{σ:Type}{y:UV AC->σ->H1 (σ×Bool)}:∀(l:UV (UV AC)) (s r:σ),(∀x∈l,x.length<=1000000000000)->Us y (l.map OC) s=some r->(S4 (HH y) l s).bind (λc=>match c with | .next s=>some s | .done s=>some s)=some r
 | [],s,r,_,h=>h
 | x::l,s,r,hx,h=>by
  simp only[s6,Us] at h
  simp only[S4,HH,Nz x<|hx x<|ph ..,DO];cases hy:y (OC x) s with
  | none=>rw[hy] at h;cases h
  | some p=>
   rw[hy] at h
   simp only[DO] at h ⊢
   by_cases hp:p.2=true
   ·rw[T2 hp] at h
    have:=Pb l p.1 r (λz hz=>hx z<|bY _ hz) h;simpa[hp] using this
   ·rw[RW hp] at h
    simpa[hp] using h
theorem Xc.pA{β:Type}{P:RK}{f:x4}{args:Nm Do}{F:Fz}{H:HP}{m:H1 β}{ρ:β->Fz->Do->Prop}{H' :β->Fz->HP}(h:Xc P f args F [H] m ρ (λr F=>[H' r F])):CT P f args F H m ρ (λr F _=>H' r F):=λr hm w R hw=>
 (h r hm w R<|hw.mono λm hm=>QQ (λ_ h=>J3 h) hm).mono (by rintro e w' ⟨F',v,le,he,hρ,hs⟩;exact⟨F',v,le,he,hρ,hs.mono λ_ hm=>WR hm⟩)
theorem qM(F:Fz)(script:UV AC)(b:Nat)(hl:script.length<=1000000000000)(hb:F.mem b=some (.cells #[.string<|bs script] 9)):P9 Tryz.prog F 61 [vP b 0] Es (NB script):=⟨call61,λσ ly Y y F1 le hy s r hr=>Xc.pA (Tw F1 σ ly Y y hy script hl b (le.mem _ _ hb) s) r<|Pb _ s r (λx hx=>rm (NC _ _ x hx) hl) hr⟩
theorem Nf(F0:Fz)(script:UV AC):Z9 Tryz.prog 26 [.string<|bs script].toArray F0 (some ()) (λ_ F v=>∃b,v= .func (.func 61) #[] [vP b 0].toArray/\F.mem b=some (.cells #[.string<|bs script] 9)):=by
 refine Z9.enter func26 J ntmps26 J λr R=> ?_;refine .w 2<|.fg (cs:=[.string<|bs script]) J J J λb c a hb=>.w 5<|.makeFunc J J<|.w 3 ?_;exact .fU results26 (.tmp J .nil) (i:=0) J a ⟨b,J,hb⟩
abbrev Im:UV AC:=[101,114,114,111,114]
def Wk(A:UV Qp)(s u:UV AC):H1 (UV Qp×UV AC):=(Cc s u).bind λv=>(Cc v [10]).bind λw=>some (A,w)
def Hj(o:ON)(line:UV AC)(s:UV Qp×UV AC):H1 (UV Qp×UV AC):=(UE s.1 o line).bind λt=>if(t.2.1 != 0) then(JY Im [t.2.1]).bind λu=>Wk t.2.2 s.2 u else Wk t.2.2 s.2 t.1
def Xg(script:UV AC):H1 (UV AC×Int):=
 if decide ((script.length:Int) > 262144) then some ([],3) else
 (if(!(script==([]:UV AC))) then(Jy script [10]).bind λh=>some (!h) else some false).bind λz=>if z then some ([],8) else
 (WS []).bind λo=>(Yu (Hj o.1) (NB script) (o.2,[])).bind λs=>some (s.2,0)
theorem MO(F0:Fz)(hT:Xo F0)(script:UV AC):Z9 Tryz.prog 11 [.string<|bs script].toArray F0 (Xg script) (λr _ v=>v= .tuple #[.string<|bs r.1,vI r.2]):=by
 refine Z9.bN func11 J ntmps11 J λr R=> ?_;unfold Xg;refine .w 11<|.dP J J U9 J<|.w 4<|.i J (λhb=> ?_) λhb=> ?_
 ·refine .w 6 ?_;exact .cR [] results11 trivial (.tmp J<|.tmp J .nil) (i:=0) J Fz.r J
 have hlen:script.length<=1000000000000:=by simp at hb;omega
 refine .w 3<|.su J U9 J J<|.m J J<|.andM (b:=(!(script==([]:UV AC)))) 4 20 (λhs z=> ?_) (λhs=> ?_) λz W k=> ?_
 ·refine .fO hs J J<|.m J J<|.fO hs J J<|.fW J call25 J J J (SR _ script [10]) ?_;rintro hh C _ - l2 rfl;refine .fO hs J J<|.not J J<|.fN hs J J J ?_;exact .dY 4 J J (by kernel_rfl) l2
 ·refine .fK hs J J J<|.fK hs J J J<|.fK hs J J J<|.fP hs J J J ?_;exact .fin 4 J J (by kernel_rfl) Fz.r
 refine .w 3<|.i J (λhz=> ?_) λhz=> ?_
 ·refine .w 6 ?_;exact .cR [] results11 trivial (.tmp J<|.tmp J .nil) (i:=0) J k J
 refine .w 4<|.di λg C l2=>.bu (xy<|Js.mk 0 0 0 g 0 0 0 0 0) 0 J ?_;refine .pick [0,0] (J:_=[Qy (Js.mk 0 0 0 g 0 0 0 0 0).g57 (xy<|Js.mk 0 0 0 g 0 0 0 0 0) C [],R]) ?_;generalize Js.mk 0 0 0 g 0 0 0 0 0=U;refine(.g<|.fh [0] J call8 J J J J (BM _ U []) ?_);rintro⟨o,A⟩ X _ - D ⟨p,_,rfl,hp⟩;refine .l (cs:=[.pointer none]) J Tryz.zeroValue25 J λy=>.store (cs' :=[.pointer p]) Tryz.sizeOf25 J J J J (i:=0) J (Jc J) J J<|.w 4<|.l (cs:=[.pointer none,.slice none 0 0]) J Tryz.zeroValue82 J λbB=>.aJ 0 5 J<|.w 6<|.fX J call26 J J J (Nf _ script) ?_;rintro E _ j ⟨bS,rfl,hbS⟩;refine .w 3<|.fM (.p [4,5,23] J)<|.fZ 2 (Jl U) j J<|.pick [0,0,0,0] (J:_=[Fe 82 5 bB [],pc y [.pointer p] 25,Vm U E A,R]) ?_;have G:=hT.mono<|Fz.t k<|Fz.t l2<|Fz.t D j;refine .bP (τ:=UV Qp×UV AC) (λs F hs=>hs=[Fe 82 5 bB s.2,pc y [.pointer p] 25,Vm U F s.1,R]) J (qM E script bS hlen hbS) J (λ_ _ _ h=>by rw[h];rfl) J ?_ ?_
 ·rintro l L K M x vs ⟨A',s⟩ ctl R' hs' c a rfl rfl;unfold Hj;refine .w 2<|.n<|GE.begin 0 J<|.w 2<|.fM (.p [4,5,6] J)<|.fZ 4 (Jl U) a J<|.g<|.fL J Tryz.isAgg25 J (i:=3) J J<|.m J J<|.fh [4] J call9 J J J J (Hw _ (G.mono<|Fz.t c a) U A' o p () (hp.mono<|Fz.t j<|Fz.t c a) x) ?_;rintro⟨rep,e,N⟩ H _ - d rfl;refine .pick [1,1,1,1,0,0] (J:_=[pt l<|Vr L,R',Fe 82 5 bB s,pc y [.pointer p] 25,Vm U H N,R])<|.w 14<|.i J (λhb=> ?_) λhb=> ?_
  ·refine .w 2 (.fl (cs:=[vI e]) (zc:=[vI 0]) J UT W3 Y3 J J J (by kernel_rfl) (by kernel_rfl) λP Q B S=> ?_);have hrep:QG 1 (Ex<|KK .i64) Q (some ⟨P,0,none⟩) 1 [e]:=QG.ofRow S (.cons Fo.mono J .nil) J J;refine .fW J call27 J J J (WN _ (G.mono<|Fz.t c<|Fz.t a<|Fz.t d B) Im [e] _ _ hrep) ?_;rintro u Y _ - I rfl;unfold Wk;refine .w 6<|.bE J call28 J J J (i:=2) J (Hh _ bB s u) λv T _ _ l10 _=>.w 3<|.bE J call29 J J J (i:=2) J (Cr _ bB v 10) λw V _ _ f _=>.w 2 ?_;refine .fZ 4 (Jl U) (Fz.t B<|Fz.t I<|Fz.t l10 f) J ?_;exact .n<|RP.cV (Fz.t d<|Fz.t B<|Fz.t I<|Fz.t l10 f) J J
  ·unfold Wk;refine .w 5<|.bE J call28 J J J (i:=2) J (Hh _ bB s rep) λv T _ _ l10 _=>.w 3<|.bE J call29 J J J (i:=2) J (Cr _ bB v 10) λw V _ _ f _=>.w 2 ?_;refine .fZ 4 (Jl U) (Fz.t l10 f) J ?_;exact .n<|RP.cV (Fz.t d<|Fz.t l10 f) J J
 ·rintro q K M ⟨A',s⟩ hs' c a he rfl;refine .w 4<|.bE (e:=some s) (g:=λs=>some (s,0)) J call30 J J J (i:=1) J (IS _ bB s) ?_;rintro s' H _ Z d rfl;refine .w 4 ?_;exact .cR [(0,q)] results11 ⟨J,trivial⟩ (.tmp J<|.tmp J .nil) (i:=4) J (Fz.t k<|Fz.t l2<|Fz.t D<|Fz.t j<|Fz.t c<|Fz.t a d) J
end Go.Proofs.YtijhfeohbhedkaaGreatDoor
end
section
set_option maxRecDepth 100000
set_option maxHeartbeats 4000000
namespace Go.Proofs.YtijhfeohbhedkaaGreatDoor
open Go.Dec Go.Proofs.Tryz Go.Shelf Go.RowKit Go.Maps Go.Sort
def WJ:H1 Bool:=(Xg JK.1).bind λr=>(if(r.1==JK.2) then some (r.2==0) else some false).bind λz=>some z
theorem Cj(F0:Fz)(hT:Xo F0):Z9 Tryz.prog 7 [].toArray F0 WJ (λr _ v=>v= .bool r):=by
 refine Z9.enter func7 J ntmps7 J λr R=> ?_;unfold WJ;refine .w 7<|.fX J call18 J J J (Br _) ?_;rintro d _ a rfl;refine .w 10<|.fW J call11 J J J (MO _ (hT.mono a) JK.1) ?_;rintro⟨s,e⟩ f _ - l2 rfl;refine .w 11<|.sZ J U9 J J<|.m J J<|.andM (b:=(s==JK.2)) 3 20 (λhs z=> ?_) (λhs=> ?_) λz g c=> ?_
 ·refine .fO hs J J<|.m J J<|.fO hs J J<|.eql J J J<|.fN hs J J J ?_;exact .dY 3 J J (by kernel_rfl) Fz.r
 ·refine .fK hs J J J<|.fK hs J J J<|.fP hs J J J ?_;exact .fin 3 J J (by kernel_rfl) Fz.r
 refine .w 3 ?_;exact .fU results7 (.tmp J .nil) (i:=0) J (Fz.t a<|Fz.t l2 c) J
end Go.Proofs.YtijhfeohbhedkaaGreatDoor
end
namespace Go.Proofs.YtijhfeohbhedkaaGreatDoor.Ca
section
open Go.Dec
variable{f:Nat->Int}{a n b:Int}{j:Nat}
structure Zg where
 C:ZP
 Fills:List Int
variable{h:Zg}
abbrev Ev:=QE
abbrev zN:Nat->Int:=λ_=>0
def Wt(n a b:Int):Bool:=decide (n≥a)&&decide (n<=b)
def Xa(x:Ev):Bool:=
 Wt x.Day 0 65536&&Wt x.Cask 0 1073741824&&
 (if x.Kind==0 then Wt x.Other 0 7&&Wt x.Where 0 7&&Wt x.Amount 1 1099511627776&&Wt x.Person 0 1073741824
  else if x.Kind==1||x.Kind==3 then Wt x.Amount 1 1099511627776
  else if x.Kind==2 then Wt x.Other 0 1073741824&&Wt x.Amount 1 1099511627776
  else if x.Kind==4 then Wt x.Where 0 7
  else if x.Kind==5||x.Kind==6 then Wt x.Person 0 1073741824&&Wt x.To 0 1073741824
  else if x.Kind==7 then Wt x.Person 0 1073741824
  else if x.Kind==8 then Wt x.Where 0 7 else false)
def Vw(n:Int)(h:Zg):Zg:=if 0 < h.C.Amount then{h with C:={h.C with Age:=h.C.Age+n,Woods:=ZL h.C.Woods h.C.Wood.toNat<|h.C.Woods h.C.Wood.toNat+n,Places:=ZL h.C.Places h.C.Place.toNat (h.C.Places h.C.Place.toNat+n)}} else h
def Yb:UV Zg->Int->H1 Nat
 | [],_=>none
 | h::l,n=>if h.C.Number==n then some 0 else(Yb l n).map (·+1)
def BA(x:Int):UV Int->UV Int
 | []=>[x]
 | y::l=>if x < y then x::y::l else if x==y then y::l else y::BA x l
def OA(a b:UV Int):UV Int:=a.foldr BA b
def Td(f g:Nat->Int):Nat->Int:=λk=>if k < 8 then Je (f k) (g k) else f k
def W2(h s:Zg)(n:Int):Zg:=
 if h.C.Amount==0 then{C:={h.C with Age:=s.C.Age,Woods:=s.C.Woods,Places:=s.C.Places,Amount:=h.C.Amount+n},Fills:=s.Fills}
 else{C:={h.C with Age:=Je h.C.Age s.C.Age,Woods:=Td h.C.Woods s.C.Woods,Places:=Td h.C.Places s.C.Places,Amount:=h.C.Amount+n},Fills:=OA h.Fills s.Fills}
def Xj(h:Zg)(n:Int):Zg:=if h.C.Amount - n==0 then{C:={h.C with Age:=0,Woods:=zN,Places:=zN,Amount:=0},Fills:=[]} else{h with C:={h.C with Amount:=h.C.Amount - n}}
def uB(x:Ev):Zg:=⟨⟨x.Cask,x.Other,x.Where,x.Amount,x.Person, -1,0,0,zN,zN⟩,[]⟩
def Sn(n:Int):Zg:=⟨⟨0,0,0,0,0,0,0,0,zN,zN⟩,[n]⟩
def Sp(l:UV Zg)(i:Nat)(c:Zg)(x:Ev)(num:Int):UV Zg ⊕ Int:=if c.C.Amount+x.Amount > c.C.Room then .inr 9 else .inl (l.set i<|W2 c (Sn num) x.Amount)
def TY(l:UV Zg)(i k:Nat)(c o:Zg)(x:Ev):UV Zg ⊕ Int:=
 if i==k then .inr 5
 else if c.C.Owner != o.C.Owner||decide (c.C.Creditor≥0)||decide (o.C.Creditor≥0) then .inr 11
 else if c.C.Amount < x.Amount then .inr 10
 else if o.C.Amount+x.Amount > o.C.Room then .inr 9
 else .inl ((l.set k<|W2 o c x.Amount).set i<|Xj c x.Amount)
def Sd(l:UV Zg)(i:Nat)(c:Zg)(x:Ev):UV Zg ⊕ Int:=
 match Yb l x.Other with
 | none=>.inr 4
 | some k=>match l[k]? with
  | none=>.inr 4
  | some o=>TY l i k c o x
def BF(l:UV Zg)(i:Nat)(c:Zg)(x:Ev):UV Zg ⊕ Int:=if c.C.Creditor≥0 then .inr 11 else if c.C.Amount < x.Amount then .inr 10 else .inl (l.set i<|Xj c x.Amount)
def El(l:UV Zg)(i:Nat)(c:Zg)(x:Ev):UV Zg ⊕ Int:=.inl<|l.set i {c with C:={c.C with Place:=x.Where}}
def PO(l:UV Zg)(i:Nat)(c:Zg)(x:Ev):UV Zg ⊕ Int:=if c.C.Owner != x.Person||decide (c.C.Creditor≥0) then .inr 11 else if x.To==c.C.Owner then .inr 5 else .inl (l.set i {c with C:={c.C with Owner:=x.To}})
def Fm(l:UV Zg)(i:Nat)(c:Zg)(x:Ev):UV Zg ⊕ Int:=if c.C.Owner != x.Person then .inr 11 else if c.C.Creditor≥0 then .inr 5 else .inl (l.set i {c with C:={c.C with Creditor:=x.To}})
def Pa(l:UV Zg)(i:Nat)(c:Zg)(x:Ev):UV Zg ⊕ Int:=if c.C.Creditor != x.Person then .inr 11 else .inl (l.set i {c with C:={c.C with Creditor:= -1}})
def Pf(l:UV Zg)(i:Nat)(c:Zg)(x:Ev):UV Zg ⊕ Int:=if c.C.Amount > 0 then .inr 6 else .inl (l.set i {c with C:={c.C with Wood:=x.Where}})
def Wu(l:UV Zg)(i:Nat)(c:Zg)(x:Ev)(num:Int):UV Zg ⊕ Int:=
 if x.Kind==1 then Sp l i c x num
 else if x.Kind==2 then Sd l i c x
 else if x.Kind==3 then BF l i c x
 else if x.Kind==4 then El l i c x
 else if x.Kind==5 then PO l i c x
 else if x.Kind==6 then Fm l i c x
 else if x.Kind==7 then Pa l i c x
 else if x.Kind==8 then Pf l i c x
 else .inl l
def LF(l:UV Zg)(x:Ev):UV Zg ⊕ Int:=if(Yb l x.Cask).isSome then .inr 5 else if 256<=l.length then .inr 9 else .inl (l++[uB x])
def FX(l:UV Zg)(x:Ev)(num:Int):UV Zg ⊕ Int:=
 if x.Kind==0 then LF l x
 else match Yb l x.Cask with
  | none=>.inr 4
  | some i=>match l[i]? with
   | none=>.inr 4
   | some c=>Wu l i c x num
structure AY where
 all:List Zg
 last:Int
def Up(n:Nat)(s:AY)(x:Ev):AY ⊕ Int:=
 if !Xa x then .inr 1 else if x.Day < s.last then .inr 7
 else match FX (s.all.map<|Vw<|x.Day - s.last) x n with
  | .inl all=>.inl ⟨all,x.Day⟩
  | .inr e=>.inr e
def Bq(day:Int):UV Ev->Nat->AY->(AY ⊕ Int)×Nat
 | [],n,s=>(.inl s,n)
 | x::l,n,s=>if x.Day<=day then match Up n s x with
   | .inl s' =>Bq day l (n+1) s'
   | .inr e=>(.inr e,n)
  else(.inl s,n)
def gB(day:Int)(s:AY):UV Zg:=s.all.map<|Vw<|day - s.last
def Pk(day:Int)(l:UV Ev)(n:Nat)(s:AY):(UV Zg ⊕ Int)×Nat:=match Bq day l n s with
 | (.inl s',k)=>(.inl<|gB day s',k)
 | (.inr e,k)=>(.inr e,k)
def Yi(l:UV Ev)(day:Int):(UV Zg ⊕ Int)×Nat:=if l.length > 4096 then(.inr 3,0) else if !Wt day 0 65536 then(.inr 2,0) else Pk day l 0 ⟨[],0⟩
def jr(f:Nat->Int):Int:=f 0+f 1+f 2+f 3+f 4+f 5+f 6+f 7
structure MZ(age:Int)(f:Nat->Int):Prop where
 pos:∀k,0<=f k
 out:∀k,8<=k->f k=0
 sum:jr f<=age
theorem MZ.le(h:MZ a f)(k:Nat):0<=f k/\f k<=a:=by
 refine⟨h.pos k,?_⟩;have h0:=h.pos 0;have h1:=h.pos 1;have h2:=h.pos 2;have h3:=h.pos 3;have h4:=h.pos 4;have h5:=h.pos 5;have h6:=h.pos 6;have h7:=h.pos 7;have hs:=h.sum;unfold jr at hs
 match k with
 | 0=>omega
 | 1=>omega
 | 2=>omega
 | 3=>omega
 | 4=>omega
 | 5=>omega
 | 6=>omega
 | 7=>omega
 | k+8=>have:=h.out (k+8) (by omega);omega
theorem MZ.zero(h:0<=a):MZ a zN:=⟨λ_=>pn 0,λ_ _=>rfl,by simpa[jr] using h⟩
theorem WE{v:Int}:ZL f j v j=v:=by simp[ZL]
theorem XP{k:Nat}{v:Int}(h:k≠j):ZL f j v k=f k:=by
 unfold ZL
 have:Nat.beq k j=false:=by
  cases hb:Nat.beq k j with
  | false=>rfl
  | true=>exact absurd (pM hb) h
 rw[this]
theorem MZ.pF(h:MZ a f)(hj:j < 8)(hn:0<=n):MZ (a+n) (ZL f j<|f j+n):=by
 refine⟨λk=> ?_,λk hk=> ?_,?_⟩
 ·by_cases e:k=j
  ·subst e;rw[WE];have:=h.pos k;omega
  ·rw[XP e];exact h.pos k
 ·rw[XP<|by omega];exact h.out k hk
 ·have hs:=h.sum;unfold jr at hs ⊢
  match j,hj with
  | 0,_=>simp[ZL];omega
  | 1,_=>simp[ZL];omega
  | 2,_=>simp[ZL];omega
  | 3,_=>simp[ZL];omega
  | 4,_=>simp[ZL];omega
  | 5,_=>simp[ZL];omega
  | 6,_=>simp[ZL];omega
  | 7,_=>simp[ZL];omega
theorem P4:Je a b<=a/\Je a b<=b/\(Je a b=a∨Je a b=b):=by unfold Je;split<;>omega
theorem MZ.min{g:Nat->Int}(h:MZ a f)(h' :MZ b g):MZ (Je a b) (Td f g):=by
 refine⟨λk=> ?_,λk hk=> ?_,?_⟩
 ·unfold Td;have:=h.pos k;have:=h'.pos k;split
  ·have:=P4 (a:=f k) (b:=g k);omega
  ·exact h.pos k
 ·unfold Td;rw[RW<|by omega];exact h.out k hk
 ·have hs:=h.sum;have hs' :=h'.sum;unfold jr at hs hs' ⊢
  have e:∀k,k < 8->Td f g k<=f k/\Td f g k<=g k:=λk hk=>by
   unfold Td;rw[T2 hk];have:=P4 (a:=f k) (b:=g k);omega
  have e0:=e 0 (by decide);have e1:=e 1 (by decide);have e2:=e 2 (by decide);have e3:=e 3 (by decide);have e4:=e 4 (by decide);have e5:=e 5 (by decide);have e6:=e 6 (by decide);have e7:=e 7 (by decide);have:=P4 (a:=a) (b:=b);omega
structure Lq(last:Int)(n:Nat)(h:Zg):Prop where
 num:0<=h.C.Number/\h.C.Number<=1073741824
 wood:0<=h.C.Wood/\h.C.Wood<=7
 place:0<=h.C.Place/\h.C.Place<=7
 room:1<=h.C.Room/\h.C.Room<=1099511627776
 owner:0<=h.C.Owner/\h.C.Owner<=1073741824
 cred: -1<=h.C.Creditor/\h.C.Creditor<=1073741824
 amt:0<=h.C.Amount/\h.C.Amount<=h.C.Room
 age:0<=h.C.Age/\h.C.Age<=last
 woods:MZ h.C.Age h.C.Woods
 places:MZ h.C.Age h.C.Places
 empty:h.C.Amount=0->h.C.Age=0/\h.C.Woods=zN/\h.C.Places=zN/\h.Fills=[]
 fills:h.Fills.Pairwise (·< ·)/\∀f∈h.Fills,0<=f/\f < n
 some:0 < h.C.Amount->h.Fills≠[]
structure Aa(last:Int)(n:Nat)(l:List Zg):Prop where
 each:∀h∈l,Lq last n h
 nums:(l.map (·.C.Number)).Nodup
 few:l.length<=256
structure HT(n:Nat)(s:AY):Prop where
 day:0<=s.last/\s.last<=65536
 ok:Aa s.last n s.all
theorem Yg:Wt n a b=true↔a<=n/\n<=b:=by simp[Wt]
theorem Ol{last:Int}{m:Nat}(ho:Lq last m h)(hn:0<=n):Lq (last+n) m (Vw n h):=by
 unfold Vw;split
 ·rename_i hp;refine⟨ho.num,ho.wood,ho.place,ho.room,ho.owner,ho.cred,ho.amt,⟨by have:=ho.age;simp;omega,by have:=ho.age;simp;omega⟩,ho.woods.pF (by have:=ho.wood;omega) hn,ho.places.pF (by have:=ho.place;omega) hn,λe=> ?_,ho.fills,ho.some⟩;have:h.C.Amount=0:=e;omega
 ·exact⟨ho.num,ho.wood,ho.place,ho.room,ho.owner,ho.cred,ho.amt,⟨ho.age.1,by have:=ho.age.2;omega⟩,ho.woods,ho.places,ho.empty,ho.fills,ho.some⟩
theorem M7:(Vw n h).C.Number=h.C.Number:=by unfold Vw;split<;>rfl
theorem Ta{last:Int}{m:Nat}{l:UV Zg}(ho:Aa last m l)(hn:0<=n):Aa (last+n) m (l.map<|Vw n):=by
 refine⟨λh hh=> ?_,?_,by simpa using ho.few⟩
 ·obtain⟨h0,h1,rfl⟩:=rG.1 hh;exact Ol (ho.each h0 h1) hn
 ·rw[nx];have:((λx:Zg=>x.C.Number)∘Vw n)=λx=>x.C.Number:=funext λx=>M7;rw[this];exact ho.nums
theorem kS:Vw b (Vw a h)=Vw (a+b) h:=by
 unfold Vw;by_cases hp:0 < h.C.Amount
 ·simp only[hp,OF]
  have e:∀(f:Nat->Int) (j:Nat),ZL (ZL f j<|f j+a) j (ZL f j (f j+a) j+b)=ZL f j (f j+(a+b)):=λf j=>by
   funext k;unfold ZL;cases hk:Nat.beq k j with
   | true=>simp;omega
   | false=>simp
  simp only[e];congr 2;omega
 ·simp only[hp,PP]
end
section
open Go.Dec
variable{last n:Int}{x:Ev}{l:UV Zg}{h:Zg}{m:Nat}
theorem R8{x y:Int}:∀{l:UV Int},y∈BA x l↔y=x∨y∈l
 | []=>by simp[BA]
 | z::l=>by
  simp only[BA];split
  ·simp
  ·split
   ·rename_i h;have:=(rh.1 h:x=z);subst this;simp
   ·simp only[y1,R8 (l:=l)];constructor
    ·rintro(h | h | h)
     ·exact .inr<|.inl h
     ·exact .inl h
     ·exact .inr<|.inr h
    ·rintro(h | h | h)
     ·exact .inr<|.inl h
     ·exact .inl h
     ·exact .inr<|.inr h
theorem FD{x:Int}:∀{l:UV Int},l.Pairwise (·< ·)->(BA x l).Pairwise (·< ·)
 | [],_=>by simp[BA]
 | z::l,h=>by
  have hz:=aT.1 h;simp only[BA];split
  ·rename_i hlt;refine aT.2 ⟨λa ha=> ?_,h⟩;rcases y1.1 ha with rfl | ha
   ·exact hlt
   ·have:=hz.1 a ha;omega
  ·split
   ·exact h
   ·rename_i h1 h2;have hne:x≠z:=λe=>h2 (by simp[e]);refine aT.2 ⟨λa ha=> ?_,FD hz.2⟩;rcases R8.1 ha with rfl | ha
    ·omega
    ·exact hz.1 a ha
theorem R6{a b:UV Int}{y:Int}:y∈OA a b↔y∈a∨y∈b:=by
 unfold OA
 induction a with
 | nil=>simp
 | cons x a ih=>simp only[List.foldr_cons,R8,ih,y1,or_assoc]
theorem Ip{a b:UV Int}(h:b.Pairwise (·< ·)):(OA a b).Pairwise (·< ·):=by
 unfold OA
 induction a with
 | nil=>exact h
 | cons x a ih=>exact FD ih
theorem Dy:∀{a b:UV Int},a.Pairwise (·< ·)->b.Pairwise (·< ·)->(∀x,x∈a↔x∈b)->a=b
 | [],[],_,_,_=>rfl
 | [],y::b,_,_,h=>by have:=(h y).2 (by simp);simp at this
 | x::a,[],_,_,h=>by have:=(h x).1 (by simp);simp at this
 | x::a,y::b,ha,hb,h=>by
  have ha' :=aT.1 ha;have hb' :=aT.1 hb
  have exy:x=y:=by
   have h1:=(h x).1 (by simp);have h2:=(h y).2 (by simp);rcases y1.1 h1 with e | h1
   ·exact e
   ·rcases y1.1 h2 with e | h2
    ·exact e.symm
    ·have:=hb'.1 x h1;have:=ha'.1 y h2;omega
  subst exy;congr 1;refine Dy ha'.2 hb'.2 λz=> ?_;constructor
  ·intro hz;have:=(h z).1<|bY _ hz;rcases y1.1 this with rfl | this
   ·have:=ha'.1 z hz;omega
   ·exact this
  ·intro hz;have:=(h z).2<|bY _ hz;rcases y1.1 this with rfl | this
   ·have:=hb'.1 z hz;omega
   ·exact this
theorem SJ:∀{l:UV Zg} {i:Nat},Yb l n=some i->∃h,l[i]? =some h/\h.C.Number=n
 | [],_,h=>by cases h
 | h::l,i,e=>by
  simp only[Yb] at e
  split at e
  ·rename_i hb;cases e;exact⟨h,rfl,rh.1 hb⟩
  ·cases hf:Yb l n with
   | none=>rw[hf] at e;cases e
   | some j=>
    rw[hf] at e
    simp only[dO,BY] at e
    subst e;obtain⟨h',h1,h2⟩:=SJ hf;exact⟨h',by simpa using h1,h2⟩
theorem SK:∀{l:UV Zg},Yb l n=none->∀h∈l,h.C.Number≠n
 | [],_,_,h=>by cases h
 | h::l,e,h',hm=>by
  simp only[Yb] at e
  split at e
  ·cases e
  ·rename_i hb;cases hf:Yb l n with
   | some j=>rw[hf] at e;cases e
   | none=>
    rcases y1.1 hm with rfl | hm
    ·intro e';exact hb<|by simp[e']
    ·exact SK hf h' hm
theorem Lq.up{n:Nat}(ho:Lq last n h):Lq last (n+1) h:={ho with fills:=⟨ho.fills.1,λf hf=>by have:=ho.fills.2 f hf;omega⟩}
theorem Aa.set{n:Nat}{i:Nat}{h':Zg}(ho:Aa last n l)(hi:l[i]? =some h)(hh:Lq last n h')(hn:h'.C.Number=h.C.Number):Aa last n (l.set i h'):=by
 refine⟨λx hx=> ?_,?_,by simpa using ho.few⟩
 ·rcases List.mem_or_eq_of_mem_set hx with h1 | h1
  ·exact ho.each x h1
  ·rw[h1];exact hh
 ·have:(l.set i h').map (·.C.Number)=l.map (·.C.Number):=by
   apply rH;intro j;simp only[pg,rU];by_cases e:i=j
   ·subst e;have hlt:=(So.1 hi).1;have hh:=(So.1 hi).2;simp[hlt,hn,hh]
   ·simp[e]
  rw[this];exact ho.nums
theorem Aa.up{n:Nat}(ho:Aa last n l):Aa last (n+1) l:=⟨λh hh=>(ho.each h hh).up,ho.nums,ho.few⟩
theorem qy{s:Zg}(ho:Lq last m h)(hn:1<=n)(hr:h.C.Amount+n<=h.C.Room)(ha:0<=s.C.Age/\s.C.Age<=last)(hw:MZ s.C.Age s.C.Woods)(hp:MZ s.C.Age s.C.Places)(hf:s.Fills.Pairwise (·< ·)/\∀f∈s.Fills,0<=f/\f < m)(hne:s.Fills≠[]):Lq last m (W2 h s n):=by
 unfold W2;split
 ·rename_i h0;have h0' :h.C.Amount=0:=rh.1 h0;refine⟨ho.num,ho.wood,ho.place,ho.room,ho.owner,ho.cred,⟨by show 0<=h.C.Amount+n;omega,hr⟩,ha,hw,hp,λe=> ?_,hf,λ_=>hne⟩;have:h.C.Amount+n=0:=e;omega
 ·rename_i h0
  have hpos:0 < h.C.Amount:=by
   have:=ho.amt.1;have:h.C.Amount≠0:=λe=>h0 (by simp[e]);omega
  refine⟨ho.num,ho.wood,ho.place,ho.room,ho.owner,ho.cred,⟨by show 0<=h.C.Amount+n;omega,hr⟩,?_,ho.woods.min hw,ho.places.min hp,λe=> ?_,?_,λ_=> ?_⟩
  ·have:=ho.age;have:=P4 (a:=h.C.Age) (b:=s.C.Age);show 0<=Je _ _/\Je _ _<=last;omega
  ·have:h.C.Amount+n=0:=e;omega
  ·refine⟨Ip hf.1,λf h1=> ?_⟩;rcases R6.1 h1 with h1 | h1
   ·exact ho.fills.2 f h1
   ·exact hf.2 f h1
  ·intro e;have h1:=ho.some hpos;cases hh:h.Fills with
   | nil=>exact h1 hh
   | cons a t=>
    have:a∈OA h.Fills s.Fills:=R6.2 (.inl (by rw[hh];simp));have e' :OA h.Fills s.Fills=[]:=e;rw[e'] at this;cases this
theorem EW(ho:Lq last m h)(hn:1<=n)(hr:n<=h.C.Amount)(hl:0<=last):Lq last m (Xj h n):=by
 unfold Xj;split
 ·have hroom:=ho.room;exact⟨ho.num,ho.wood,ho.place,ho.room,ho.owner,ho.cred,⟨pn 0,by show(0:Int)<=h.C.Room;omega⟩,⟨pn 0,hl⟩,MZ.zero<|pn 0,MZ.zero<|pn 0,λ_=>⟨rfl,rfl,rfl,rfl⟩,⟨List.Pairwise.nil,λ_ h=>by cases h⟩,λh=>by have h' :(0:Int) < 0:=h;omega⟩
 ·rename_i h0;have hne:h.C.Amount - n≠0:=λe=>h0 (by simp[e]);have ha:=ho.amt;refine⟨ho.num,ho.wood,ho.place,ho.room,ho.owner,ho.cred,⟨by show 0<=h.C.Amount - n;omega,by show h.C.Amount - n<=h.C.Room;omega⟩,ho.age,ho.woods,ho.places,λe=>absurd e hne,ho.fills,λ_=>ho.some<|by omega⟩
theorem NM(h:Xa x=true):(0<=x.Day/\x.Day<=65536)/\(0<=x.Cask/\x.Cask<=1073741824):=by
 simp only[Xa,TO,Yg] at h
 exact⟨h.1.1,h.1.2⟩
theorem fD(h:Xa x=true)(k:x.Kind=0):(0<=x.Other/\x.Other<=7)/\(0<=x.Where/\x.Where<=7)/\(1<=x.Amount/\x.Amount<=1099511627776)/\(0<=x.Person/\x.Person<=1073741824):=by
 simp only[Xa,TO,Yg,k,BEq.rfl,OF] at h
 obtain⟨_,⟨⟨⟨h1,h2⟩,h3⟩,h4⟩⟩:=h;exact⟨h1,h2,h3,h4⟩
theorem Ee(h:Xa x=true):(if x.Kind==0 then Wt x.Other 0 7&&Wt x.Where 0 7&&Wt x.Amount 1 1099511627776&&Wt x.Person 0 1073741824
 else if x.Kind==1||x.Kind==3 then Wt x.Amount 1 1099511627776
 else if x.Kind==2 then Wt x.Other 0 1073741824&&Wt x.Amount 1 1099511627776
 else if x.Kind==4 then Wt x.Where 0 7
 else if x.Kind==5||x.Kind==6 then Wt x.Person 0 1073741824&&Wt x.To 0 1073741824
 else if x.Kind==7 then Wt x.Person 0 1073741824
 else if x.Kind==8 then Wt x.Where 0 7 else false)=true:=((TO _ _).mp h).2
theorem NN(h:Xa x=true)(k:x.Kind=1∨x.Kind=2∨x.Kind=3):1<=x.Amount/\x.Amount<=1099511627776:=by
 have h:=Ee h;rcases k with k | k | k<;>rw[k] at h
 ·exact Yg.1 h
 ·exact Yg.1 ((TO _ _).mp h).2
 ·exact Yg.1 h
theorem hZ(h:Xa x=true)(k:x.Kind=4∨x.Kind=8):0<=x.Where/\x.Where<=7:=by
 have h:=Ee h;rcases k with k | k<;>rw[k] at h
 ·exact Yg.1 h
 ·exact Yg.1 h
theorem hO(h:Xa x=true)(k:x.Kind=5∨x.Kind=6):0<=x.To/\x.To<=1073741824:=by
 have h:=Ee h;rcases k with k | k<;>rw[k] at h
 ·exact Yg.1 ((TO _ _).mp h).2
 ·exact Yg.1 ((TO _ _).mp h).2
theorem kinds(h:Xa x=true):x.Kind=0∨x.Kind=1∨x.Kind=2∨x.Kind=3∨x.Kind=4∨x.Kind=5∨x.Kind=6∨x.Kind=7∨x.Kind=8:=by
 have h:=Ee h;by_cases k0:x.Kind=0
 ·exact .inl k0
 rw[RW<|by simpa using k0] at h
 by_cases k1:x.Kind=1
 ·exact .inr<|.inl k1
 by_cases k3:x.Kind=3
 ·exact .inr<|.inr<|.inr<|.inl k3
 rw[RW<|by simp[k1,k3]] at h
 by_cases k2:x.Kind=2
 ·exact .inr<|.inr<|.inl k2
 rw[RW<|by simpa using k2] at h
 by_cases k4:x.Kind=4
 ·exact .inr<|.inr<|.inr<|.inr<|.inl k4
 rw[RW<|by simpa using k4] at h
 by_cases k5:x.Kind=5
 ·exact .inr<|.inr<|.inr<|.inr<|.inr<|.inl k5
 by_cases k6:x.Kind=6
 ·exact .inr<|.inr<|.inr<|.inr<|.inr<|.inr<|.inl k6
 rw[RW<|by simp[k5,k6]] at h
 by_cases k7:x.Kind=7
 ·exact .inr<|.inr<|.inr<|.inr<|.inr<|.inr<|.inr<|.inl k7
 rw[RW<|by simpa using k7] at h
 by_cases k8:x.Kind=8
 ·exact .inr<|.inr<|.inr<|.inr<|.inr<|.inr<|.inr<|.inr k8
 rw[RW<|by simpa using k8] at h
 cases h
section
variable{last:Int}{m:Nat}{l l' :UV Zg}{x:Ev}{i:Nat}{c:Zg}
theorem zI(ho:Aa last m l)(hl:0<=last)(hv:Xa x=true)(hk:x.Kind=0)(h:LF l x= .inl l'):Aa last (m+1) l' :=by
 unfold LF at h
 split at h
 ·cases h
 ·rename_i hf;split at h
  ·cases h
  ·rename_i hlen;cases h;obtain⟨e1,e2,e3,e4⟩:=fD hv hk;have e0:=(NM hv).2;refine⟨λy hy=> ?_,?_,by simp;omega⟩
   ·rcases ra.1 hy with hy | hy
    ·exact(ho.each y hy).up
    ·simp only[rP] at hy
     subst hy;exact⟨e0,e1,e2,e3,e4,by simp[uB],⟨pn 0,by show(0:Int)<=x.Amount;omega⟩,⟨pn 0,hl⟩,MZ.zero<|pn 0,MZ.zero<|pn 0,λ_=>⟨rfl,rfl,rfl,rfl⟩,⟨List.Pairwise.nil,λ_ h=>by cases h⟩,λh=>by have h' :(0:Int) < 0:=h;omega⟩
   ·rw[List.map_append,List.nodup_append];refine⟨ho.nums,by simp,λa ha b hb=> ?_⟩;simp only[s6,lI,rP] at hb
    obtain⟨y,hy,rfl⟩:=rG.1 ha;subst hb;have hf' :Yb l x.Cask=none:=by simpa using hf
    exact SK hf' y hy
theorem zU(ho:Aa last m l)(hl:0<=last)(hc:l[i]? =some c)(ha:1<=x.Amount)(h:Sp l i c x m= .inl l'):Aa last (m+1) l' :=by
 have hcm:=ho.each c<|s7 hc;unfold Sp at h
 split at h
 ·cases h
 ·rename_i hroom;cases h;refine(ho.up).set hc (qy hcm.up ha (by omega) ⟨pn 0,hl⟩ (MZ.zero<|pn 0) (MZ.zero<|pn 0) ⟨by simp[Sn],λf hf=> ?_⟩<|by simp[Sn]) ?_
  ·simp only[Sn,rP] at hf
   subst hf;omega
  ·unfold W2;split<;>rfl
theorem qw(ho:Aa last m l)(hl:0<=last)(hc:l[i]? =some c)(ha:1<=x.Amount)(h:Sd l i c x= .inl l'):Aa last (m+1) l' :=by
 have hcm:=ho.each c<|s7 hc;unfold Sd at h
 split at h
 ·cases h
 ·rename_i k hfk;split at h
  ·cases h
  ·rename_i o hko;have hom:=ho.each o<|s7 hko;unfold TY at h
   split at h
   ·cases h
   ·rename_i hik;have hik' :i≠k:=λe=>hik (by simp[e]);split at h
    ·cases h
    ·split at h
     ·cases h
     ·split at h
      ·cases h
      ·rename_i hsh hfu;cases h;have hpos:0 < c.C.Amount:=by omega
       have h1:=(ho.up).set hko (qy (s:=c) hom.up ha (by omega) hcm.age hcm.woods hcm.places hcm.up.fills<|hcm.some hpos) (by unfold W2;split<;>rfl);refine h1.set (h:=c) ?_ (EW hcm.up ha (by omega) hl) (by unfold Xj;split<;>rfl);rw[pZ λe=>hik' e.symm];exact hc
theorem yq(ho:Aa last m l)(hl:0<=last)(hc:l[i]? =some c)(ha:1<=x.Amount)(h:BF l i c x= .inl l'):Aa last (m+1) l' :=by
 have hcm:=ho.each c<|s7 hc;unfold BF at h
 split at h
 ·cases h
 ·split at h
  ·cases h
  ·cases h;exact(ho.up).set hc (EW hcm.up ha (by omega) hl) (by unfold Xj;split<;>rfl)
theorem w4(ho:Aa last m l)(hl:0<=last)(hv:Xa x=true)(h0:x.Kind≠0)(hc:l[i]? =some c)(h:Wu l i c x m= .inl l'):Aa last (m+1) l' :=by
 have hcm:=ho.each c<|s7 hc;rcases kinds hv with k | k | k | k | k | k | k | k | k
 ·exact absurd k h0
 ·have h:Sp l i c x m= .inl l' :=by rw[<-h];unfold Wu;rw[k];rfl
  exact zU ho hl hc (NN hv<|.inl k).1 h
 ·have h:Sd l i c x= .inl l' :=by rw[<-h];unfold Wu;rw[k];rfl
  exact qw ho hl hc (NN hv<|.inr<|.inl k).1 h
 ·have h:BF l i c x= .inl l' :=by rw[<-h];unfold Wu;rw[k];rfl
  exact yq ho hl hc (NN hv<|.inr<|.inr k).1 h
 ·have h:El l i c x= .inl l' :=by rw[<-h];unfold Wu;rw[k];rfl
  cases h;exact(ho.up).set hc {hcm.up with place:=hZ hv (.inl k)} rfl
 ·have h:PO l i c x= .inl l' :=by rw[<-h];unfold Wu;rw[k];rfl
  unfold PO at h
  split at h
  ·cases h
  ·split at h
   ·cases h
   ·cases h;exact(ho.up).set hc {hcm.up with owner:=hO hv (.inl k)} rfl
 ·have h:Fm l i c x= .inl l' :=by rw[<-h];unfold Wu;rw[k];rfl
  unfold Fm at h
  split at h
  ·cases h
  ·split at h
   ·cases h
   ·cases h;have:=hO hv<|.inr k;exact(ho.up).set hc {hcm.up with cred:=⟨by show -1<=x.To;omega,this.2⟩} rfl
 ·have h:Pa l i c x= .inl l' :=by rw[<-h];unfold Wu;rw[k];rfl
  unfold Pa at h
  split at h
  ·cases h
  ·cases h;exact(ho.up).set hc {hcm.up with cred:=⟨pn _,by show(-1:Int)<=_;omega⟩} rfl
 ·have h:Pf l i c x= .inl l' :=by rw[<-h];unfold Wu;rw[k];rfl
  unfold Pf at h
  split at h
  ·cases h
  ·cases h;exact(ho.up).set hc {hcm.up with wood:=hZ hv (.inr k)} rfl
theorem yr(ho:Aa last m l)(hl:0<=last)(hv:Xa x=true)(h:FX l x m= .inl l'):Aa last (m+1) l' :=by
 unfold FX at h
 split at h
 ·rename_i hk;exact zI ho hl hv (rh.1 hk) h
 ·rename_i hk;split at h
  ·cases h
  ·split at h
   ·cases h
   ·rename_i c hc;exact w4 ho hl hv (λe=>hk<|by simp[e]) hc h
end
theorem Ah{n:Nat}{s s' :AY}(ho:HT n s)(h:Up n s x= .inl s'):HT (n+1) s'/\Xa x=true/\s.last<=x.Day/\s'.last=x.Day:=by
 unfold Up at h
 split at h
 ·cases h
 ·rename_i hv;have hv:Xa x=true:=by simpa using hv
  split at h
  ·cases h
  ·rename_i hd;split at h
   ·rename_i all hall;cases h;have hb:=(NM hv).1;have h1:=Ta ho.ok (n:=x.Day - s.last) (by omega);have e:s.last+(x.Day - s.last)=x.Day:=by omega
    rw[e] at h1
    exact⟨⟨hb,yr h1 hb.1 hv hall⟩,hv,by omega,rfl⟩
   ·cases h
theorem HT.start:HT 0 ⟨[],0⟩:=⟨⟨pn 0,by decide⟩,⟨λ_ h=>(by cases h),List.nodup_nil,by simp⟩⟩
end
section
open Go.Dec
theorem Sz{n:Int}:∀{l:UV Int} (a:Int),l.Pairwise (·< ·)->(∀f∈l,a<=f/\f < n)->a<=n->(l.length:Int)<=n - a
 | [],a,_,_,h=>by simp;omega
 | x::l,a,h,hb,_=>by
  have h' :=aT.1 h;have hx:=hb x (by simp);have:=Sz (l:=l) (x+1) h'.2 (λf hf=>⟨by have:=h'.1 f hf;omega,(hb f<|bY _ hf).2⟩) (by omega);simp only[s5];omega
def Pn(i:Nat)(f g:Nat->Int):Nat->Int:=λk=>if k < i then Je (f k) (g k) else f k
theorem LC{i:Nat}{f g:Nat->Int}:ZL (Pn i f g) i (Je (f i)<|g i)=Pn (i+1) f g:=by
 funext k;by_cases e:k=i
 ·subst e;rw[WE];unfold Pn;rw[T2<|by omega]
 ·rw[XP e];unfold Pn;by_cases h:k < i
  ·rw[T2 h,T2<|by omega]
  ·rw[RW h,RW<|by omega]
theorem yJ{f g:Nat->Int}:Pn 0 f g=f:=by funext k;unfold Pn;rw[RW<|by omega]
theorem fC{x:Ev}(h:Xa x=true):0<=x.Day/\x.Day<=65536:=(NM h).1
theorem LQ{day:Int}:∀(l:UV Ev) (n:Nat) (s s' :AY) (k:Nat),HT n s->s.last<=day->Bq day l n s=(.inl s',k)->HT k s'/\s'.last<=day/\n<=k/\k<=n+l.length
 | [],n,s,s',k,ho,hd,h=>by
  simp only[Bq,pO,rE] at h
  obtain⟨rfl,rfl⟩:=h;exact⟨ho,hd,If _,by simp⟩
 | x::l,n,s,s',k,ho,hd,h=>by
  simp only[Bq] at h
  by_cases hx:x.Day<=day
  ·rw[T2 hx] at h
   cases hs:Up n s x with
   | inl s1=>
    rw[hs] at h
    obtain⟨h1,_,_,h4⟩:=Ah ho hs;obtain⟨g1,g2,g3,g4⟩:=LQ l (n+1) s1 s' k h1 (by omega) h;exact⟨g1,g2,by omega,by simp;omega⟩
   | inr e=>rw[hs] at h;cases h
  ·rw[RW hx] at h
   simp only[pO,rE] at h
   obtain⟨rfl,rfl⟩:=h;exact⟨ho,hd,If _,by simp⟩
end
section
open Go.Dec
variable{c:QN}{t:Int}{A1:UV QN}{n:Nat}{h:Zg}
abbrev FM:=UV<|UV<|Int×Bool
variable{A3:FM}
def Vz(c:QN)(F:UV Int):Zg:=⟨⟨c.number,c.wood,c.place,c.room,c.owner,c.creditor,c.amount,c.times.age,c.times.woods,c.times.places⟩,F⟩
def FR(A3:FM)(p:H1 Nat)(F:UV Int):Prop:=match p with
 | none=>F=[]
 | some j=>∃l,A3[j]? =some l/\(l.map Prod.fst).Nodup/\∀x,x∈F↔x∈l.map Prod.fst
structure CR(t:Int)(n:Nat)(A3:FM)(c:QN)(h:Zg):Prop where
 since:0<=c.since/\c.since<=t
 ok:Lq c.since n (Vz c h.Fills)
 eq:h=Vw (t - c.since) (Vz c h.Fills)
 fills:FR A3 c.fills h.Fills
structure PR(t:Int)(n:Nat)(all:List Zg)(A1:List QN)(A3:FM)(m:List (Int×Option Nat)):Prop where
 len:A1.length=all.length
 each:∀(k:Nat) (c:QN) (h:Zg),A1[k]? =some c->all[k]? =some h->CR t n A3 c h
 map:m=A1.mapIdx (λk c=>(c.number,some k))
 apart:∀(i j:Nat) (ci cj:QN) (q:Nat),A1[i]? =some ci->A1[j]? =some cj->ci.fills=some q->cj.fills=some q->i=j
theorem CJ{n:Int}:(Vw n h).Fills=h.Fills:=by unfold Vw;split<;>rfl
theorem As:Vw 0 h=h:=by
 unfold Vw;split
 ·have e:∀(f:Nat->Int) (j:Nat),ZL f j (f j)=f:=λf j=>by
   funext k;by_cases e:k=j
   ·subst e;rw[WE]
   ·rw[XP e]
  simp only[Int.add_zero,e]
 ·rfl
theorem CR.number(r:CR t n A3 c h):h.C.Number=c.number:=by rw[r.eq,M7];rfl
theorem CR.shift{t':Int}(r:CR t n A3 c h)(le:t<=t'):CR t' n A3 c (Vw (t' - t) h):=by
 refine⟨⟨r.since.1,by have:=r.since.2;omega⟩,?_,?_,?_⟩
 ·rw[CJ];exact r.ok
 ·rw[CJ]
  conv=>lhs;rw[r.eq]
  rw[kS];congr 1;omega
 ·rw[CJ];exact r.fills
theorem PR.shift{t':Int}{all:UV Zg}{m:UV (Int×H1 Nat)}(r:PR t n all A1 A3 m)(le:t<=t'):PR t' n (all.map<|Vw<|t' - t) A1 A3 m:=by
 refine⟨by simpa using r.len,λk c h hc hh=> ?_,r.map,r.apart⟩;rw[pg] at hh
 cases h0:all[k]? with
 | none=>rw[h0] at hh;cases hh
 | some h1=>
  rw[h0] at hh
  simp only[dO,BY] at hh
  subst hh;exact(r.each k c h1 hc h0).shift le
def W1(t:Int)(c:QN):QN:=if 0 < c.amount then{c with since:=t,times:=⟨c.times.age+(t - c.since),ZL c.times.woods c.wood.toNat<|c.times.woods c.wood.toNat+(t - c.since),ZL c.times.places c.place.toNat<|c.times.places c.place.toNat+(t - c.since)⟩} else{c with since:=t}
theorem OY{F:UV Int}:Vz (W1 t c) F=Vw (t - c.since) (Vz c F):=by
 unfold W1 Vw;by_cases h:0 < c.amount
 ·rw[T2 h,T2<|show 0 < (Vz c F).C.Amount from h];rfl
 ·rw[RW h,RW<|show ¬0 < (Vz c F).C.Amount from h];rfl
theorem W0:(W1 t c).since=t:=by unfold W1;split<;>rfl
theorem PS:(W1 t c).number=c.number:=by unfold W1;split<;>rfl
theorem CD:(W1 t c).fills=c.fills:=by unfold W1;split<;>rfl
theorem CR.rest(r:CR t n A3 c h):CR t n A3 (W1 t c) h:=by
 refine⟨⟨by rw[W0];have:=r.since;omega,by rw[W0];exact pn t⟩,?_,?_,by rw[CD];exact r.fills⟩
 ·rw[OY,W0];have:=Ol r.ok (n:=t - c.since) (by have:=r.since;omega);have e:c.since+(t - c.since)=t:=by omega
  rwa[e] at this
 ·rw[OY,W0,mU,As];exact r.eq
theorem Mt{k:Nat}{F:UV Int}(hc:A1[k]? =some c)(ho:Lq c.since n (Vz c F))(_h0:0<=c.since)(h1:c.since<=t)(ht:t<=1000000):UF A1 (some k) t=some (A1.set k<|W1 t c):=by
 have hk:k < A1.length:=(So.1 hc).1;have hage:=ho.age;have hwood:=ho.wood;have hplace:=ho.place;have ew:Yj 8 c.wood=some c.wood.toNat:=by unfold Yj;rw[T2 (by have:0<=c.wood/\c.wood<=7:=hwood;omega)]
 have ep:Yj 8 c.place=some c.place.toNat:=by unfold Yj;rw[T2 (by have:0<=c.place/\c.place<=7:=hplace;omega)]
 have w1:0<=c.times.woods c.wood.toNat/\c.times.woods c.wood.toNat<=c.times.age:=ho.woods.le _;have p1:0<=c.times.places c.place.toNat/\c.times.places c.place.toNat<=c.times.age:=ho.places.le _;have ha:0<=c.times.age/\c.times.age<=c.since:=hage;unfold UF;simp only[DO,hc,QT];rw[Qq (n:=t - c.since) (by omega)<|by omega];by_cases hp:0 < c.amount
 ·rw[T2<|by simpa using hp];simp only[ew,ep,DO,rT];rw[Qq (n:=c.times.age+(t - c.since)) (by omega) (by omega),Qq (n:=c.times.woods c.wood.toNat+(t - c.since)) (by omega) (by omega),Qq (n:=c.times.places c.place.toNat+(t - c.since)) (by omega)<|by omega];simp only[W1,hp,OF]
 ·rw[RW<|by simpa using hp];simp only[W1,hp,PP]
theorem NA{num:Int}:∀(A1:UV QN) (all:UV Zg) (k0:Nat),A1.length=all.length->(∀(k:Nat) (c:QN) (h:Zg),A1[k]? =some c->all[k]? =some h->h.C.Number=c.number)->
  (Qa (A1.mapIdx λk c=>(c.number,some<|k0+k)) num).getD none=(Yb all num).map (k0+ ·)
 | [],[],_,_,_=>rfl
 | [],_::_,_,h,_=>by simp at h
 | _::_,[],_,h,_=>by simp at h
 | c::A1,h::all,k0,hl,hn=>by
  have h0:=hn 0 c h rfl rfl;rw[List.mapIdx_cons];simp only[Qa,Yb];by_cases e:num=c.number
  ·have e1:(num==c.number)=true:=by simpa using e
   have e2:(h.C.Number==num)=true:=by simp[h0,e]
   simp[e1,e2]
  ·have e1:(num==c.number)=false:=by simpa using e
   have e2:(h.C.Number==num)=false:=by simp[h0];exact λe' =>e e'.symm
   have ih:=NA (num:=num) A1 all (k0+1) (by simpa using hl) (λk c h h1 h2=>hn (k+1) c h (by simpa using h1)<|by simpa using h2);simp only[e1,e2,By,PP];have e3:(fun(i:Nat) (a:QN)=>(a.number,some<|k0+(i+1)))=λk c=>(c.number,some<|k0+1+k):=by funext i a;rw[show k0+(i+1)=k0+1+i by omega]
   rw[e3,ih];cases Yb all num with
   | none=>rfl
   | some j=>simp;omega
theorem PR.get{all:UV Zg}{m:UV (Int×H1 Nat)}(r:PR t n all A1 A3 m)(num:Int):(Qa m num).getD none=Yb all num:=by
 have:=NA (num:=num) A1 all 0 r.len λk c h h1 h2=>(r.each k c h h1 h2).number;rw[r.map];simpa using this
end
section
open Go.Dec
variable{c c':QN}{A1:UV QN}{F:UV Int}{A3:FM}{h:Zg}{t:Int}{n k:Nat}
theorem CR.up(r:CR t n A3 c h):CR t (n+1) A3 c h:=⟨r.since,r.ok.up,r.eq,r.fills⟩
theorem FR.fM{A3':FM}{p:H1 Nat}(r:FR A3 p F)(h:∀q,p=some q->A3'[q]? =A3[q]?):FR A3' p F:=by
 cases p with
 | none=>exact r
 | some q=>obtain⟨l,h1,h2⟩:=r;exact⟨l,by rw[h q rfl];exact h1,h2⟩
theorem mapIdx_set(hc:A1[k]? =some c)(hn:c'.number=c.number):(A1.set k c').mapIdx (λk c=>(c.number,some k))=A1.mapIdx (λk (c:QN)=>(c.number,some k)):=by
 apply rH;intro i;simp only[nT,rU];by_cases e:k=i
 ·subst e;have hlt:=(So.1 hc).1;have hx:=(So.1 hc).2;simp[hlt,hn,hx]
 ·simp[e]
section
variable{t:Int}{n n' :Nat}{all:UV Zg}{A1:UV QN}{A3 A3' :FM}{m:UV (Int×H1 Nat)}{k:Nat}{c c' :QN}{h h' :Zg}
theorem PR.set(r:PR t n all A1 A3 m)(hc:A1[k]? =some c)(hh:all[k]? =some h)(hn' :c'.number=c.number)(hcr:CR t n' A3' c' h')(hother:∀(i:Nat) (ci:QN) (hi:Zg),i≠k->A1[i]? =some ci->all[i]? =some hi->CR t n' A3' ci hi)
  (hap:∀(i:Nat) (ci:QN) (q:Nat),i≠k->A1[i]? =some ci->ci.fills=some q->c'.fills≠some q):PR t n' (all.set k h') (A1.set k c') A3' m:=by
 have hk:=(So.1 hc).1;have hk2:=(So.1 hh).1;refine⟨by simpa using r.len,λi ci hi h1 h2=> ?_,by rw[mapIdx_set hc hn'];exact r.map,λi j ci cj q h1 h2 h3 h4=> ?_⟩
 ·by_cases e:k=i
  ·subst e;rw[pU hk] at h1
   rw[pU hk2] at h2
   cases h1;cases h2;exact hcr
  ·rw[pZ e] at h1 h2
   exact hother i ci hi (λe' =>e e'.symm) h1 h2
 ·by_cases e:k=i
  ·by_cases e2:k=j
   ·rw[<-e,<-e2]
   ·subst e;rw[pU hk] at h1
    rw[pZ e2] at h2
    cases h1;exact absurd h3<|hap j cj q (λe' =>e2 e'.symm) h2 h4
  ·rw[pZ e] at h1
   by_cases e2:k=j
   ·subst e2;rw[pU hk] at h2
    cases h2;exact absurd h4<|hap i ci q (λe' =>e e'.symm) h1 h3
   ·rw[pZ e2] at h2
    exact r.apart i j ci cj q h1 h2 h3 h4
theorem PR.tU(r:PR t n all A1 A3 m)(hc:A1[k]? =some c)(hh:all[k]? =some h)(hn' :c'.number=c.number)(hcr:CR t (n+1) A3 c' h')(hf:c'.fills=c.fills∨c'.fills=none):PR t (n+1) (all.set k h') (A1.set k c') A3 m:=
 r.set hc hh hn' hcr (λi ci hi _ h1 h2=>(r.each i ci hi h1 h2).up) (λi ci q hi h1 h2 h3=>by
  rcases hf with hf | hf
  ·rw[hf] at h3;exact hi<|r.apart i k ci c q h1 hc h2 h3
  ·rw[hf] at h3;cases h3)
theorem PR.rest(r:PR t n all A1 A3 m)(hc:A1[k]? =some c):PR t n all (A1.set k<|W1 t c) A3 m:=by
 have hk:=(So.1 hc).1;have hk2:k < all.length:=by rw[<-r.len];exact hk
 have hh:all[k]? =some all[k]:=Rw hk2
 have:=r.set (n' :=n) (A3' :=A3) (c' :=W1 t c) (h' :=all[k]) hc hh PS (r.each k c _ hc hh).rest (λi ci hi _ h1 h2=>r.each i ci hi h1 h2) λi ci q hi h1 h2 h3=>by
  rw[CD] at h3;exact hi<|r.apart i k ci c q h1 hc h2 h3
 rwa[eA] at this
theorem XU{x20:Qi}{num:Int}(r:PR t n all A1 A3 m)(ht:t<=1000000)(hb:x20.casks=some 0):(Yb all num=none/\Z1 A1 [x20] [m] (some 0) num t=some (.pan ⟨4⟩))∨
  (∃k h c,Yb all num=some k/\all[k]? =some h/\h.C.Number=num/\PR t n all (A1.set k c) A3 m/\(A1.set k c)[k]? =some c/\c.since=t/\h=Vz c h.Fills/\Lq t n h/\Z1 A1 [x20] [m] (some 0) num t=some (.ok (some k,A1.set k c))):=by
 have hget:=r.get num;unfold Z1;simp only[DO,IF,hb,hget];cases hf:Yb all num with
 | none=>
  left;exact⟨rfl,rfl⟩
 | some k=>
  right;obtain⟨h,hh,hnum⟩:=SJ hf;have hk2:=(So.1 hh).1;have hk:k < A1.length:=by rw[r.len];exact hk2
  have hc:A1[k]? =some A1[k]:=Rw hk;have hcr:=r.each k _ h hc hh;have hcr2:=hcr.rest
  have hraw:h=Vz (W1 t A1[k]) h.Fills:=by
   have:=hcr2.eq;rw[W0,mU,As] at this
   exact this
  have hok:Lq t n h:=by
   have:=hcr2.ok;rw[W0,<-hraw] at this
   exact this
  refine⟨k,h,W1 t A1[k],rfl,hh,hnum,r.rest hc,pU hk,W0,hraw,hok,?_⟩;show Qu (ZV true 4) _ _=_;have e1:ZV true 4=some (.ok ()):=rfl;rw[e1];simp only[Qu];rw[Mt hc hcr.ok hcr.since.1 hcr.since.2 ht];rfl
end
def Xb(t:Int)(n:Nat)(r:UV Zg ⊕ Int)(o:H1 (Out Zh<|UV QN×FM×UV (UV<|Int×H1 Nat))):Prop:=match r with
 | .inl all' =>∃A1' A3' m',o=some (.ok (A1',A3',[m']))/\PR t (n+1) all' A1' A3' m'
 | .inr e=>o=some (.pan ⟨e⟩)/\e≠0
section
variable{t:Int}{n:Nat}{all:UV Zg}{A1:UV QN}{A3:FM}{m:UV (Int×H1 Nat)}{b:Qi}{x:Ev}
theorem CR.bZ(h0:0<=t)(hs:c.since=t)(ho:Lq t n (Vz c F))(hf:FR A3 c.fills F):CR t n A3 c (Vz c F):=⟨by omega,by rw[hs];exact ho,by rw[hs,mU,As];rfl,hf⟩
theorem qb(r:PR t n all A1 A3 m)(h0:0<=t)(ht:t<=65536)(hb:b.casks=some 0)(hv:Xa x=true)(hk:x.Kind=4)(hd:x.Day=t):Xb t n (FX all x n) (Yo A1 [b] A3 [m] (some 0) x):=by
 unfold Yo FX;rw[RW (by rw[hk];decide),hd];rcases XU (num:=x.Cask) r (by omega) hb with⟨hf,hm⟩ | ⟨k,h,c,hf,hh,hnum,hr,hc,hs,hraw,hok,hm⟩
 ·rw[hf,hm];exact⟨rfl,by decide⟩
 ·rw[hf,hm];simp only[hh,Qu,DO,hc,QT,rT];have hact:Wu all k h x n=El all k h x:=by unfold Wu;rw[hk];rfl
  rw[hact];refine⟨_,_,_,rfl,?_⟩;have hcr:=hr.each k c h hc hh
  have h2:PR t (n+1) (all.set k<|Vz {c with place:=x.Where} h.Fills) ((A1.set k c).set k {c with place:=x.Where}) A3 m:=hr.tU hc hh rfl (CR.bZ h0 hs (by
   have:=hok.up;rw[hraw] at this
   exact{this with place:=hZ hv (.inl hk)}) hcr.fills)<|.inl rfl
  rw[rT] at h2
  have e:Vz {c with place:=x.Where} h.Fills={h with C:={h.C with Place:=x.Where}}:=by
   conv=>rhs;rw[hraw]
   rfl
  rw[e] at h2
  exact h2
theorem OB{h':Zg}{r:UV Zg ⊕ Int}(hr:PR t n all (A1.set k c) A3 m)(hh:all[k]? =some h)(hc:(A1.set k c)[k]? =some c)(h0:0<=t)(hs:c'.since=t)(hn:c'.number=c.number)(hf:c'.fills=c.fills∨c'.fills=none)(he:h' =Vz c' F)(ho:Lq t (n+1) h')(hfr:FR A3 c'.fills F)(hres:r= .inl (all.set k h')):Xb t n r (some<|.ok (A1.set k c',A3,[m])):=by
 subst hres;subst he;refine⟨_,_,_,rfl,?_⟩;have h2:=hr.tU hc hh hn (CR.bZ h0 hs ho hfr) hf
 rwa[rT] at h2
theorem yw{a:Int}(h: -1<=a):(a==(-1))= !decide (a≥0):=by
 by_cases e:a= -1
 ·subst e;rfl
 ·have h1:(a==(-1))=false:=by simpa using e
  rw[h1,rI<|show a≥0 by omega];rfl
theorem kA(r:PR t n all A1 A3 m)(h0:0<=t)(ht:t<=65536)(hb:b.casks=some 0)(hv:Xa x=true)(hk:x.Kind=5)(hd:x.Day=t):Xb t n (FX all x n) (VU A1 [b] A3 [m] (some 0) x):=by
 unfold VU FX;rw[RW (by rw[hk];decide),hd];rcases XU (num:=x.Cask) r (by omega) hb with⟨hf,hm⟩ | ⟨k,h,c,hf,hh,hnum,hr,hc,hs,hraw,hok,hm⟩
 ·rw[hf,hm];exact⟨rfl,by decide⟩
 ·rw[hf,hm];simp only[hh,Qu,DO,hc,QT,rT];have hact:Wu all k h x n=PO all k h x:=by unfold Wu;rw[hk];rfl
  rw[hact];have hcr:=hr.each k c h hc hh;have ho:h.C.Owner=c.owner:=by rw[hraw];rfl
  have hcd:h.C.Creditor=c.creditor:=by rw[hraw];rfl
  have hcred:=hok.cred;rw[hcd] at hcred
  unfold PO;rw[ho,hcd];by_cases h1:c.owner=x.Person
  ·have e1:(c.owner==x.Person)=true:=by simpa using h1
   have e2:(c.owner != x.Person)=false:=by simpa using h1
   simp only[e1,e2,OF,nE,yw hcred.1];by_cases h2:c.creditor≥0
   ·simp only[h2,pv,wt,OF];exact⟨rfl,by decide⟩
   ·simp only[h2,pw,tO,By,PP];by_cases h3:x.To=c.owner
    ·have e3:(x.To==c.owner)=true:=by simpa using h3
     have e4:(x.To != c.owner)=false:=by simpa using h3
     simp only[e3,e4,OF];exact⟨rfl,by decide⟩
    ·have e3:(x.To==c.owner)=false:=by simpa using h3
     have e4:(x.To != c.owner)=true:=by simpa using h3
     simp only[e3,e4,By,PP];exact OB (h' :={h with C:={h.C with Owner:=x.To}}) (c' :={c with owner:=x.To}) (F:=h.Fills) hr hh hc h0 hs rfl (.inl rfl) (congrArg (λz:Zg=>{z with C:={z.C with Owner:=x.To}}) hraw) {hok.up with owner:=hO hv (.inl hk)} hcr.fills rfl
  ·have e1:(c.owner==x.Person)=false:=by simpa using h1
   have e2:(c.owner != x.Person)=true:=by simpa using h1
   simp only[e1,e2,lL,OF,By,PP];exact⟨rfl,by decide⟩
theorem Ob(r:PR t n all A1 A3 m)(h0:0<=t)(ht:t<=65536)(hb:b.casks=some 0)(hv:Xa x=true)(hk:x.Kind=6)(hd:x.Day=t):Xb t n (FX all x n) (YH A1 [b] A3 [m] (some 0) x):=by
 unfold YH FX;rw[RW (by rw[hk];decide),hd];rcases XU (num:=x.Cask) r (by omega) hb with⟨hf,hm⟩ | ⟨k,h,c,hf,hh,hnum,hr,hc,hs,hraw,hok,hm⟩
 ·rw[hf,hm];exact⟨rfl,by decide⟩
 ·rw[hf,hm];simp only[hh,Qu,DO,hc,QT,rT];have hact:Wu all k h x n=Fm all k h x:=by unfold Wu;rw[hk];rfl
  rw[hact];have hcr:=hr.each k c h hc hh;have ho:h.C.Owner=c.owner:=by rw[hraw];rfl
  have hcd:h.C.Creditor=c.creditor:=by rw[hraw];rfl
  have hcred:=hok.cred;rw[hcd] at hcred
  unfold Fm;rw[ho,hcd];by_cases h1:c.owner=x.Person
  ·have e1:(c.owner==x.Person)=true:=by simpa using h1
   have e2:(c.owner != x.Person)=false:=by simpa using h1
   simp only[e1,e2,By,PP,yw hcred.1];by_cases h2:c.creditor≥0
   ·simp only[h2,pv,wt,OF];exact⟨rfl,by decide⟩
   ·simp only[h2,pw,tO,PP];have:=hO hv<|.inr hk;exact OB (h' :={h with C:={h.C with Creditor:=x.To}}) (c' :={c with creditor:=x.To}) (F:=h.Fills) hr hh hc h0 hs rfl (.inl rfl) (congrArg (λz:Zg=>{z with C:={z.C with Creditor:=x.To}}) hraw) {hok.up with cred:=⟨by show -1<=x.To;omega,this.2⟩} hcr.fills rfl
  ·have e1:(c.owner==x.Person)=false:=by simpa using h1
   have e2:(c.owner != x.Person)=true:=by simpa using h1
   simp only[e1,e2,OF];exact⟨rfl,by decide⟩
theorem kg(r:PR t n all A1 A3 m)(h0:0<=t)(ht:t<=65536)(hb:b.casks=some 0)(_hv:Xa x=true)(hk:x.Kind=7)(hd:x.Day=t):Xb t n (FX all x n) (VW A1 [b] A3 [m] (some 0) x):=by
 unfold VW FX;rw[RW (by rw[hk];decide),hd];rcases XU (num:=x.Cask) r (by omega) hb with⟨hf,hm⟩ | ⟨k,h,c,hf,hh,hnum,hr,hc,hs,hraw,hok,hm⟩
 ·rw[hf,hm];exact⟨rfl,by decide⟩
 ·rw[hf,hm];simp only[hh,Qu,DO,hc,QT,rT];have hact:Wu all k h x n=Pa all k h x:=by unfold Wu;rw[hk];rfl
  rw[hact];have hcr:=hr.each k c h hc hh;have hcd:h.C.Creditor=c.creditor:=by rw[hraw];rfl
  unfold Pa;rw[hcd];by_cases h1:c.creditor=x.Person
  ·have e1:(c.creditor==x.Person)=true:=by simpa using h1
   have e2:(c.creditor != x.Person)=false:=by simpa using h1
   simp only[e1,e2,By,PP];exact OB (h' :={h with C:={h.C with Creditor:= -1}}) (c' :={c with creditor:= -1}) (F:=h.Fills) hr hh hc h0 hs rfl (.inl rfl) (congrArg (λz:Zg=>{z with C:={z.C with Creditor:= -1}}) hraw) {hok.up with cred:=⟨pn _,by show(-1:Int)<=_;omega⟩} hcr.fills rfl
  ·have e1:(c.creditor==x.Person)=false:=by simpa using h1
   have e2:(c.creditor != x.Person)=true:=by simpa using h1
   simp only[e1,e2,OF];exact⟨rfl,by decide⟩
theorem jA(r:PR t n all A1 A3 m)(h0:0<=t)(ht:t<=65536)(hb:b.casks=some 0)(hv:Xa x=true)(hk:x.Kind=8)(hd:x.Day=t):Xb t n (FX all x n) (VY A1 [b] A3 [m] (some 0) x):=by
 unfold VY FX;rw[RW (by rw[hk];decide),hd];rcases XU (num:=x.Cask) r (by omega) hb with⟨hf,hm⟩ | ⟨k,h,c,hf,hh,hnum,hr,hc,hs,hraw,hok,hm⟩
 ·rw[hf,hm];exact⟨rfl,by decide⟩
 ·rw[hf,hm];simp only[hh,Qu,DO,hc,QT,rT];have hact:Wu all k h x n=Pf all k h x:=by unfold Wu;rw[hk];rfl
  rw[hact];have hcr:=hr.each k c h hc hh;have hca:h.C.Amount=c.amount:=by rw[hraw];rfl
  have hamt:=hok.amt;rw[hca] at hamt
  unfold Pf;rw[hca];by_cases h1:c.amount=0
  ·have e1:(c.amount==0)=true:=by simpa using h1
   have e2:¬c.amount > 0:=by omega
   simp only[e1,e2,PP];exact OB (h' :={h with C:={h.C with Wood:=x.Where}}) (c' :={c with wood:=x.Where}) (F:=h.Fills) hr hh hc h0 hs rfl (.inl rfl) (congrArg (λz:Zg=>{z with C:={z.C with Wood:=x.Where}}) hraw) {hok.up with wood:=hZ hv (.inr hk)} hcr.fills rfl
  ·have e1:(c.amount==0)=false:=by simpa using h1
   have e2:c.amount > 0:=by omega
   simp only[e1,e2,OF];exact⟨rfl,by decide⟩
end
end
section
open Go.Dec
variable{c:QN}{n:Int}
def GQ(c:QN)(n:Int):QN:=if c.amount - n==0 then{c with amount:=0,times:=⟨0,zN,zN⟩,fills:=none} else{c with amount:=c.amount - n}
theorem OZ{F:UV Int}:Xj (Vz c F) n=Vz (GQ c n) (Xj (Vz c F) n).Fills:=by
 unfold Xj GQ;by_cases e:(c.amount - n==0)=true
 ·rw[T2 e,T2<|show((Vz c F).C.Amount - n==0)=true from e];rfl
 ·rw[RW e,RW<|show ¬((Vz c F).C.Amount - n==0)=true from e];rfl
theorem NS:(GQ c n).fills=c.fills∨(GQ c n).fills=none:=by
 unfold GQ;split
 ·exact .inr rfl
 ·exact .inl rfl
theorem NR:(GQ c n).since=c.since:=by unfold GQ;split<;>rfl
theorem Pe:(GQ c n).number=c.number:=by unfold GQ;split<;>rfl
theorem zZ{A3:FM}{F:UV Int}(h:FR A3 c.fills F):FR A3 (GQ c n).fills (Xj (Vz c F) n).Fills:=by
 unfold Xj GQ;by_cases e:(c.amount - n==0)=true
 ·rw[T2 e,T2<|show((Vz c F).C.Amount - n==0)=true from e];rfl
 ·rw[RW e,RW<|show ¬((Vz c F).C.Amount - n==0)=true from e];exact h
theorem Gs{A1:UV QN}{k:Nat}(hc:A1[k]? =some c)(h1:0<=c.amount/\c.amount<=1099511627776)(h2:0<=n/\n<=1099511627776):VT A1 (some k) n=some (A1.set k<|GQ c n):=by
 unfold VT;simp only[DO,hc,QT,rT];rw[Qq (n:=c.amount - n) (by omega)<|by omega];unfold GQ;by_cases e:(c.amount - n==0)=true
 ·have e0:c.amount - n=0:=rh.1 e;rw[T2 e,T2 e];simp only[e0]
 ·rw[RW e,RW e]
section
variable{t:Int}{n:Nat}{all:UV Zg}{A1:UV QN}{A3:FM}{m:UV (Int×H1 Nat)}{b:Qi}{x:Ev}
theorem qW(r:PR t n all A1 A3 m)(h0:0<=t)(ht:t<=65536)(hb:b.casks=some 0)(hv:Xa x=true)(hk:x.Kind=3)(hd:x.Day=t):Xb t n (FX all x n) (Yn A1 [b] A3 [m] (some 0) x):=by
 unfold Yn FX;rw[RW (by rw[hk];decide),hd];rcases XU (num:=x.Cask) r (by omega) hb with⟨hf,hm⟩ | ⟨k,h,c,hf,hh,hnum,hr,hc,hs,hraw,hok,hm⟩
 ·rw[hf,hm];exact⟨rfl,by decide⟩
 ·rw[hf,hm];simp only[hh,Qu,DO,hc];have hact:Wu all k h x n=BF all k h x:=by unfold Wu;rw[hk];rfl
  rw[hact];have hcr:=hr.each k c h hc hh;have hca:h.C.Amount=c.amount:=by rw[hraw];rfl
  have hcd:h.C.Creditor=c.creditor:=by rw[hraw];rfl
  have hcred:=hok.cred;have hamt:=hok.amt;have hroom:=hok.room;rw[hca] at hamt
  rw[hcd] at hcred
  have ha:=NN hv<|.inr<|.inr hk;unfold BF;rw[hca,hcd,yw hcred.1];by_cases h1:c.creditor≥0
  ·simp only[h1,pv,wt,OF];exact⟨rfl,by decide⟩
  ·simp only[h1,pw,tO,PP];by_cases h2:c.amount < x.Amount
   ·have e2:decide (c.amount≥x.Amount)=false:=rY (by omega);simp only[h2,e2,OF];exact⟨rfl,by decide⟩
   ·have e2:decide (c.amount≥x.Amount)=true:=rI (by omega);simp only[h2,e2,PP];show Xb t n _ ((VT (A1.set k c) (some k) x.Amount).bind λr_60=>some<|.ok (r_60,A3,[m]));rw[Gs hc (by omega) (by omega),DO,rT];have hls:Xj h x.Amount=Vz (GQ c x.Amount) (Xj (Vz c h.Fills) x.Amount).Fills:=by rw[<-OZ,<-hraw]
    exact OB (h' :=Xj h x.Amount) (c' :=GQ c x.Amount) hr hh hc h0 (by rw[NR];exact hs) Pe NS hls (EW hok.up ha.1 (by omega) h0) (zZ hcr.fills) rfl
theorem R9{num:Int}{v:H1 Nat}:∀(A1:UV QN) (k0:Nat),(∀c∈A1,c.number≠num)->Qw (A1.mapIdx λk c=>(c.number,some<|k0+k)) num v=A1.mapIdx (λk c=>(c.number,some<|k0+k))++[(num,v)]
 | [],_,_=>rfl
 | c::A1,k0,h=>by
  rw[List.mapIdx_cons];have e1:(num==c.number)=false:=by simpa using(λe=>h c (by simp) e.symm)
  have e3:(fun(i:Nat) (a:QN)=>(a.number,some<|k0+(i+1)))=λk c=>(c.number,some<|k0+1+k):=by funext i a;rw[show k0+(i+1)=k0+1+i by omega]
  simp only[Qw,e1,By,PP,e3,rS];rw[R9 A1 (k0+1) λc hc=>h c<|bY _ hc]
def wV(x:Ev):QN:=⟨x.Cask,x.Other,x.Where,x.Amount,x.Person, -1,0,x.Day,⟨0,zN,zN⟩,none⟩
theorem qd(r:PR t n all A1 A3 m)(ho:Aa t n all)(h0:0<=t)(hb:b.casks=some 0)(hv:Xa x=true)(hk:x.Kind=0)(hd:x.Day=t):Xb t n (FX all x n) (Yp A1 [b] A3 [m] (some 0) x):=by
 have hmk:=λl' h=>zI (l' :=l') ho h0 hv hk h;have hml:m.length=all.length:=by rw[r.map,eN,r.len]
 unfold Yp FX;rw[T2 (by rw[hk];rfl)];simp only[DO,IF,hb,r.get];unfold LF at hmk ⊢
 cases hf:Yb all x.Cask with
 | some k=>
  simp only[nj,OF];exact⟨rfl,by decide⟩
 | none=>
  rw[hf] at hmk
  simp only[nI,By,PP] at hmk ⊢
  by_cases hfull:256<=all.length
  ·have e:decide ((m.length:Int) < 256)=false:=rY (by omega);simp only[hfull,e,OF];exact⟨rfl,by decide⟩
  ·have e:decide ((m.length:Int) < 256)=true:=rI (by omega);simp only[hfull,e,PP] at hmk ⊢
   have hnew:=hmk _ rfl;have hokn:Lq t (n+1) (uB x):=hnew.each _ (by simp);refine⟨A1++[wV x],A3,Qw m x.Cask<|some A1.length,?_,?_⟩
   ·rfl
   ·refine⟨by simp[r.len],λk c h hc hh=> ?_,?_,λi j ci cj q h1 h2 h3 h4=> ?_⟩
    ·by_cases e:k < A1.length
     ·rw[pW e] at hc
      rw[pW (by rw[<-r.len];exact e)] at hh
      exact(r.each k c h hc hh).up
     ·have hk1:=(So.1 hc).1;have ek:k=A1.length:=by simp at hk1;omega
      rw[ek,py<|If _] at hc
      rw[ek,r.len,py<|If _] at hh
      simp only[lx,IF,BY] at hc hh
      subst hc;subst hh;exact CR.bZ (c:=wV x) (F:=[]) h0 hd hokn rfl
    ·rw[r.map]
     have h1:∀c∈A1,c.number≠x.Cask:=λc hc=>by
      obtain⟨k,hk⟩:=List.getElem?_of_mem hc;have hk1:=(So.1 hk).1;have hk2:all[k]? =some (all[k]'(by rw[<-r.len];exact hk1)):=Rw _;have:=SK hf _<|s7 hk2;rw[(r.each k c _ hk hk2).number] at this
      exact this
     have h2:=R9 (num:=x.Cask) (v:=some A1.length) A1 0 h1;simp only[rC] at h2
     rw[h2];apply rH;intro i;simp only[nT,List.getElem?_append,eN];by_cases e:i < A1.length
     ·simp[e]
     ·simp only[e,PP];by_cases e2:i=A1.length
      ·subst e2;simp[wV]
      ·have:∃d,i - A1.length=d+1:=⟨i - A1.length - 1,by omega⟩;obtain⟨d,hd'⟩:=this;rw[hd'];simp
    ·by_cases e:i < A1.length
     ·rw[pW e] at h1
      by_cases e2:j < A1.length
      ·rw[pW e2] at h2
       exact r.apart i j ci cj q h1 h2 h3 h4
      ·have hj1:=(So.1 h2).1;have ek:j=A1.length:=by simp at hj1;omega
       rw[ek,py<|If _] at h2
       simp only[lx,IF,BY] at h2
       subst h2;cases h4
     ·have hj1:=(So.1 h1).1;have ek:i=A1.length:=by simp at hj1;omega
      rw[ek,py<|If _] at h1
      simp only[lx,IF,BY] at h1
      subst h1;cases h3
end
end
section
open Go.Dec
variable{x:Int}
section
variable{V:Type}
theorem R7{k:Int}{v:V}:∀{l:UV (Int×V)},x∈(Qw l k v).map Prod.fst↔x=k∨x∈l.map Prod.fst
 | []=>by simp[Qw]
 | y::l=>by
  simp only[Qw];by_cases e:k=y.1
  ·have e1:(k==y.1)=true:=by simpa using e
   rw[T2 e1];simp[e]
  ·have e1:(k==y.1)=false:=by simpa using e
   rw[e1];simp only[By,PP,s6,y1,R7 (l:=l)];constructor
   ·rintro(h | h | h)
    ·exact .inr<|.inl h
    ·exact .inl h
    ·exact .inr<|.inr h
   ·rintro(h | h | h)
    ·exact .inr<|.inl h
    ·exact .inl h
    ·exact .inr<|.inr h
def GR(a l:UV (Int×V)):UV (Int×V):=l.foldl (λa x=>Qw a x.1 x.2) a
theorem NX:∀{l a:UV (Int×V)},(a.map Prod.fst).Nodup->((GR a l).map Prod.fst).Nodup
 | [],_,h=>h
 | x::l,a,h=>NX (l:=l) (a:=Qw a x.1 x.2)<|JM h
theorem Ou{x:Int}:∀{l a:UV (Int×V)},x∈(GR a l).map Prod.fst↔x∈a.map Prod.fst∨x∈l.map Prod.fst
 | [],a=>by simp[GR]
 | y::l,a=>by
  have:=Ou (x:=x) (l:=l) (a:=Qw a y.1 y.2);have e:GR a (y::l)=GR (Qw a y.1 y.2) l:=rfl;rw[e,this,R7];simp only[s6,y1];constructor
  ·rintro((h | h) | h)
   ·exact .inr<|.inl h
   ·exact .inl h
   ·exact .inr<|.inr h
  ·rintro(h | h | h)
   ·exact .inl<|.inr h
   ·exact .inl<|.inl h
   ·exact .inr h
theorem Lb:∀{l a a' :UV (Int×V)},a'.Perm a->(a.map Prod.fst).Nodup->(GR a' l).Perm (GR a l)
 | [],_,_,h,_=>h
 | _x::l,_a,_a',h,hn=>Lb (l:=l) (Hn h hn)<|JM hn
theorem Ov{a:UV (Int×V)}{y:Int}{u v:V}(hn:(a.map Prod.fst).Nodup)(h:x≠y):(Qw (Qw a x u) y v).Perm (Qw (Qw a y v) x u):=by
 have h1:(Qw (Qw a x u) y v).Perm ((y,v)::(x,u)::(a.filter λz=> !(x==z.1)).filter (λz=> !(y==z.1))):=by
  refine(Jj<|JM hn).trans<|.cons _ ?_;refine((Jj hn).filter _).trans<|.of_eq ?_;rw[pz,T2<|by simpa using h.symm]
 have h2:(Qw (Qw a y v) x u).Perm ((x,u)::(y,v)::(a.filter λz=> !(y==z.1)).filter (λz=> !(x==z.1))):=by
  refine(Jj<|JM hn).trans<|.cons _ ?_;refine((Jj hn).filter _).trans<|.of_eq ?_;rw[pz,T2<|by simpa using h]
 refine h1.trans<|(List.Perm.swap _ _ _).trans ?_;refine List.Perm.trans (.of_eq ?_) h2.symm;congr 2;rw[ry,ry];exact pe λz _=>ll _ _
theorem ky{l l' :UV (Int×V)}(h:l'.Perm l):∀{a:UV (Int×V)},(a.map Prod.fst).Nodup->(l.map Prod.fst).Nodup->(GR a l').Perm (GR a l):=by
 induction h with
 | nil=>intro a _ _;exact .refl _
 | cons x _ ih=>
  intro a ha hl;simp only[s6,rO] at hl
  exact ih (JM ha) hl.2
 | swap x y l=>
  intro a ha hl;simp only[s6,rO,y1,not_or] at hl
  exact Lb (Ov ha λe=>hl.1.1 e.symm) (JM<|JM ha)
 | trans h1 h2 ih1 ih2=>
  intro a ha hl;exact(ih1 ha<|(h2.map Prod.fst).nodup_iff.2 hl).trans<|ih2 ha hl
end
theorem Tm{q j:Nat}(hq:q≠j):∀(l:UV (Int×Bool)) (s:FM) (lq:UV (Int×Bool)),s[q]? =some lq->Yu (YI (some q) j) l s=some (s.set q<|GR lq l)
 | [],s,lq,h=>by
  have:=CC h;simp only[Yu,GR,List.foldl_nil];rw[<-this]
 | x::l,s,lq,h=>by
  have hlt:=(So.1 h).1
  have e:YI (some q) j x s=some (s.set q<|Qw lq x.1 x.2):=by
   unfold YI xz;simp only[DO,RW hq,h,QT]
  simp only[Yu,e,DO];rw[Tm hq l _ (Qw lq x.1 x.2)<|pU hlt,rT];rfl
theorem kv{A:FM}{q j:Nat}{lq lj:UV (Int×Bool)}(hq:q≠j)(h1:A[q]? =some lq)(h2:A[j]? =some lj)(hn:(lq.map Prod.fst).Nodup)(hn2:(lj.map Prod.fst).Nodup):WK A (some q) (some j)=some (A.set q<|GR lq lj):=by
 unfold WK;simp only[DO,h2]
 have hp:Bf TR (YI (some q) j) lj A=some (A.set q<|GR lq lj):=by
  refine Og (Tm hq lj A lq h1) λl' hl' =>⟨_,Tm hq l' A lq h1,by simp,λi x y hx hy=> ?_⟩;have hlt:=(So.1 h1).1;by_cases e:q=i
  ·subst e;rw[pU hlt] at hx hy
   cases hx;cases hy;exact ky hl' hn hn2
  ·rw[pZ e] at hx hy
   rw[hx] at hy;cases hy;exact .refl _
 rw[hp,DO];have:(A.set q<|GR lq lj)[j]? =some lj:=by rw[pZ hq];exact h2
 rw[<-CC this]
theorem kW(a u:ZF):UM a u=some ⟨Je a.age u.age,Td a.woods u.woods,Td a.places u.places⟩:=by
 obtain⟨t1,ht1,hl1⟩:=HZ (body:=Ye u) (λi (t:ZF)=>((i:Int),t)) (λt=>t) (λi t=>t={a with age:=Je a.age u.age,woods:=Pn i a.woods u.woods}) 8
  (λi t hi ht=>by
   have hw:ZC ((i:Int)+1)=((i+1:Nat):Int):=by rw[Qq (by omega)<|by omega];rfl
   have hm:(Pn i a.woods u.woods) i=a.woods i:=by unfold Pn;rw[RW<|by omega]
   refine⟨_,?_,rfl⟩;unfold Ye;rw[T2 (by simp;omega),Hq hi];simp only[DO,QT,hw,ht,hm];rw[LC])
  (λt ht=>by
   unfold Ye;rw[RW<|by simp]) 8 0 {a with age:=Je a.age u.age} rfl (by rw[yJ])
 obtain⟨t2,ht2,hl2⟩:=HZ (body:=Yd u) (λi (t:ZF)=>((i:Int),t)) (λt=>t) (λi t=>t={a with age:=Je a.age u.age,woods:=Td a.woods u.woods,places:=Pn i a.places u.places}) 8
  (λi t hi ht=>by
   have hw:ZC ((i:Int)+1)=((i+1:Nat):Int):=by rw[Qq (by omega)<|by omega];rfl
   have hm:(Pn i a.places u.places) i=a.places i:=by unfold Pn;rw[RW<|by omega]
   refine⟨_,?_,rfl⟩;unfold Yd;rw[T2 (by simp;omega),Hq hi];simp only[DO,QT,hw,ht,hm];rw[LC])
  (λt ht=>by
   unfold Yd;rw[RW<|by simp]) 8 0 t1 rfl (by rw[ht1,yJ];rfl)
 unfold UM;simp only[QT];have h1:ZW (Ye u) (0,{a with age:=Je a.age u.age})=some t1:=hl1;have h2:ZW (Yd u) (0,t1)=some t2:=hl2;refine ZM h1<|ZM h2 ?_;rw[ht2];rfl
end
section
open Go.Dec
variable{A3:FM}
theorem Mz{A1:UV QN}{k j:Nat}{c:QN}{h so:Zg}{lj:UV (Int×Bool)}{tm:ZF}{n:Int}(hc:A1[k]? =some c)(hraw:h=Vz c h.Fills)(hamt:0<=c.amount/\c.amount<=1099511627776)(hn:0<=n/\n<=1099511627776)(hfr:FR A3 c.fills h.Fills)(hne:0 < c.amount->h.Fills≠[])
  (hj:A3[j]? =some lj) (hjn:(lj.map Prod.fst).Nodup) (hjF:∀x,x∈so.Fills↔x∈lj.map Prod.fst) (hq:c.fills≠some j) (ht:so.C.Age=tm.age/\so.C.Woods=tm.woods/\so.C.Places=tm.places):∃c' A3',YU A1 A3 (some k) tm (some j) n=some (A1.set k c',A3')/\c'.number=c.number/\c'.since=c.since/\W2 h so n=Vz c' (W2 h so n).Fills/\FR A3' c'.fills (W2 h so n).Fills/\
   (∀(q:Nat) lq,A3[q]? =some lq->c.fills≠some q->A3'[q]? =some lq)/\(c'.fills=c.fills∨c'.fills=some A3.length):=by
 have hk:=(So.1 hc).1;have hca:h.C.Amount=c.amount:=by rw[hraw];rfl
 have hw:ZC (c.amount+n)=c.amount+n:=Qq (by omega) (by omega);unfold YU;simp only[DO,hc];by_cases e:(c.amount==0)=true
 ·have e' :(h.C.Amount==0)=true:=by rw[hca];exact e
  refine⟨{c with times:=tm,fills:=some A3.length,amount:=c.amount+n},A3++[lj],?_,rfl,rfl,?_,?_,λq lq h1 _=> ?_,.inr rfl⟩
  ·simp only[e,OF,HC,NZ,hj,DO,QT,rT,pU hk,hw]
  ·unfold W2;rw[T2 e'];rw[hraw];simp only[ht.1,ht.2.1,ht.2.2];rfl
  ·unfold W2;rw[T2 e'];exact⟨lj,by simp,hjn,hjF⟩
  ·have:=(So.1 h1).1;rw[pW this];exact h1
 ·have hpos:0 < c.amount:=by
   have:c.amount≠0:=λe0=>e (by simp[e0]);omega
  have e' :¬(h.C.Amount==0)=true:=by rw[hca];exact e
  cases hf:c.fills with
  | none=>rw[hf] at hfr;exact absurd hfr (hne hpos)
  | some q=>
   rw[hf] at hfr
   obtain⟨lq,hlq,hqn,hqF⟩:=hfr;have hqj:q≠j:=λe0=>hq (by rw[hf,e0]);have hql:=(So.1 hlq).1;refine⟨{c with times:=⟨Je c.times.age tm.age,Td c.times.woods tm.woods,Td c.times.places tm.places⟩,amount:=c.amount+n},A3.set q<|GR lq lj,?_,rfl,rfl,?_,?_,λq' lq' h1 h2=> ?_,.inl hf⟩
   ·simp only[e,PP,By,kW,DO,QT,hf,kv hqj hlq hj hqn hjn,pU hk,rT,hw]
   ·unfold W2;rw[RW e'];have h1:h.C.Age=c.times.age:=by rw[hraw];rfl
    have h2:h.C.Woods=c.times.woods:=by rw[hraw];rfl
    have h3:h.C.Places=c.times.places:=by rw[hraw];rfl
    simp only[ht.1,ht.2.1,ht.2.2,h1,h2,h3]
    conv=>lhs;rw[hraw]
    rfl
   ·unfold W2;rw[RW e'];show FR _ c.fills (OA h.Fills so.Fills);rw[hf];refine⟨GR lq lj,pU hql,NX hqn,λx=> ?_⟩;rw[R6,Ou,hqF,hjF]
   ·rw[pZ λe0=>h2<|by rw[e0]];exact h1
section
variable{t:Int}{n:Nat}{all:UV Zg}{A1:UV QN}{A3:FM}{m:UV (Int×H1 Nat)}{b:Qi}{x:Ev}
theorem ye{q:Nat}{F:UV Int}(h:FR A3 (some q) F):q < A3.length:=by
 obtain⟨l,h1,_⟩:=h;exact(So.1 h1).1
theorem Tp(r:PR t n all A1 A3 m)(ho:Aa t n all)(h0:0<=t)(ht:t<=65536)(hb:b.casks=some 0)(hbe:b.event=n)(hv:Xa x=true)(hk:x.Kind=1)(hd:x.Day=t):Xb t n (FX all x n) (VX A1 [b] A3 [m] (some 0) x):=by
 unfold VX FX;rw[RW (by rw[hk];decide),hd];rcases XU (num:=x.Cask) r (by omega) hb with⟨hf,hm⟩ | ⟨k,h,c,hf,hh,hnum,hr,hc,hs,hraw,hok,hm⟩
 ·rw[hf,hm];exact⟨rfl,by decide⟩
 ·rw[hf,hm];simp only[hh,Qu,DO,hc,QT];have hact:Wu all k h x n=Sp all k h x n:=by unfold Wu;rw[hk];rfl
  rw[hact];have hcr:=hr.each k c h hc hh;have hca:h.C.Amount=c.amount:=by rw[hraw];rfl
  have hcro:h.C.Room=c.room:=by rw[hraw];rfl
  have hamt:=hok.amt;have hroom:=hok.room;rw[hca,hcro] at hamt
  rw[hcro] at hroom
  have ha:=NN hv<|.inl hk;have hw:ZC (c.amount+x.Amount)=c.amount+x.Amount:=Qq (by omega) (by omega);have hokd:=λl' (hl' :Sp all k h x n= .inl l')=>zU ho h0 hh ha.1 hl';unfold Sp at hokd ⊢
  rw[hca,hcro] at hokd ⊢
  rw[hw];by_cases h1:c.amount+x.Amount > c.room
  ·have e:decide (c.amount+x.Amount<=c.room)=false:=rY (by omega);simp only[h1,e,OF];exact⟨rfl,by decide⟩
  ·have e:decide (c.amount+x.Amount<=c.room)=true:=rI (by omega);simp only[h1,PP] at hokd
   simp only[h1,e,PP];have hnew:=hokd _ rfl;have hql:∀q,c.fills=some q->q < A3.length:=λq hq=>ye (by rw[<-hq];exact hcr.fills);have hfr' :FR (A3++[[((n:Int),true)]]) c.fills h.Fills:=hcr.fills.fM λq hq=>pW<|hql q hq
   obtain⟨c',A3',hp,hp1,hp2,hp3,hp4,hp5,hp6⟩:=Mz (A3:=A3++[[((n:Int),true)]]) (j:=A3.length) (lj:=[((n:Int),true)]) (so:=Sn n) (tm:=⟨0,zN,zN⟩) (n:=x.Amount) hc hraw (by omega) (by omega) hfr' (λhp=>by rw[<-hca] at hp;exact hok.some hp)
    (by simp) (by simp) (λy=>by simp[Sn]) (λe=>by have:=hql _ e;omega) ⟨rfl,rfl,rfl⟩
   have hmod:YU (A1.set k c) (A3++[Qw [] b.event true]) (some k) (ZF.mk 0 (λ_=>0) λ_=>0) (some A3.length) x.Amount=some ((A1.set k c).set k c',A3'):=by rw[hbe];exact hp
   have hmem:W2 h (Sn n) x.Amount∈all.set k (W2 h (Sn n) x.Amount):=s7<|pU (So.1 hh).1;have hho:=hnew.each _ hmem
   have hres:Xb t n (.inl<|all.set k<|W2 h (Sn n) x.Amount) (some<|.ok ((A1.set k c).set k c',A3',[m])):=by
    refine⟨_,_,_,rfl,?_⟩;refine hr.set hc hh hp1 ?_ (λi ci hi hne h1 h2=> ?_) λi ci q hne h1 h2 h3=> ?_
    ·rw[hp3];refine CR.bZ h0 (by rw[hp2];exact hs) (by rw[<-hp3];exact hho) ?_;exact hp4
    ·have hci:=(hr.each i ci hi h1 h2).up;refine⟨hci.since,hci.ok,hci.eq,hci.fills.fM λq hq=> ?_⟩;have hq2:=hci.fills;rw[hq] at hq2
     obtain⟨lq,g1,_⟩:=hq2;have hql2:=(So.1 g1).1;rw[g1];exact hp5 q lq (by rw[pW hql2];exact g1) λe=>hne<|hr.apart i k ci c q h1 hc hq e
    ·have hci:=(hr.each i ci _ h1<|Rw (show i < all.length by rw[<-hr.len];exact(So.1 h1).1)).fills;rw[h2] at hci
     have:=ye hci;rcases hp6 with hp6 | hp6
     ·rw[hp6] at h3;exact hne<|hr.apart i k ci c q h1 hc h2 h3
     ·rw[hp6] at h3
      simp only[BY,pV,s5,pS] at h3
      omega
   show Xb t n _ ((YU (A1.set k c) (A3++[Qw [] b.event true]) (some k) (ZF.mk 0 (λ_=>0) λ_=>0) (some A3.length) x.Amount).bind λr_106=>some<|.ok (r_106.1,r_106.2,[m]));rw[hmod,DO];exact hres
theorem kJ(r:PR t n all A1 A3 m)(ho:Aa t n all)(h0:0<=t)(ht:t<=65536)(hb:b.casks=some 0)(hv:Xa x=true)(hk:x.Kind=2)(hd:x.Day=t):Xb t n (FX all x n) (VV A1 [b] A3 [m] (some 0) x):=by
 unfold VV FX;rw[RW (by rw[hk];decide),hd];rcases XU (num:=x.Cask) r (by omega) hb with⟨hf,hm⟩ | ⟨i,h,c,hf,hh,hnum,hr,hc,hs,hraw,hok,hm⟩
 ·rw[hf,hm];exact⟨rfl,by decide⟩
 ·rw[hf,hm];have hact:Wu all i h x n=Sd all i h x:=by unfold Wu;rw[hk];rfl
  simp only[hh,hact];have hokd:=λl' (ha:1<=x.Amount) (hl' :Sd all i h x= .inl l')=>qw ho h0 hh ha hl';have ha:=NN hv<|.inr<|.inl hk;have hokd:=λl' =>hokd l' ha.1;unfold Sd at hokd ⊢
  simp only[Qu];rcases XU (num:=x.Other) hr (by omega) hb with⟨hf2,hm2⟩ | ⟨k,ho2,o,hf2,hho,hnum2,hr2,hoc,hos,horaw,hook,hm2⟩
  ·rw[hf2,hm2];exact⟨rfl,by decide⟩
  ·rw[hf2,hm2];rw[hf2] at hokd
   simp only[hho] at hokd ⊢
   have hil:i < A1.length:=by have:=(So.1 hc).1;simpa using this
   by_cases hik:i=k
   ·
     subst hik;have hc2:((A1.set i c).set i o)[i]? =some o:=hoc;simp only[DO,hc2];have e1:(i != i)=false:=by simp
     have e2:(i==i)=true:=by simp
     unfold TY;simp only[e1,e2,OF];exact⟨rfl,by decide⟩
   · have hc2:((A1.set i c).set k o)[i]? =some c:=by rw[pZ λe=>hik e.symm];exact hc
     simp only[DO,hc2,hoc];have e1:(i != k)=true:=by simpa using hik
     have e2:(i==k)=false:=by simpa using hik
     have hcr:=hr2.each i c h hc2 hh;have hor:=hr2.each k o ho2 hoc hho;have a1:h.C.Owner=c.owner:=by rw[hraw];rfl
     have a2:h.C.Creditor=c.creditor:=by rw[hraw];rfl
     have a3:h.C.Amount=c.amount:=by rw[hraw];rfl
     have b1:ho2.C.Owner=o.owner:=by rw[horaw];rfl
     have b2:ho2.C.Creditor=o.creditor:=by rw[horaw];rfl
     have b3:ho2.C.Amount=o.amount:=by rw[horaw];rfl
     have b4:ho2.C.Room=o.room:=by rw[horaw];rfl
     have camt:=hok.amt;have croom:=hok.room;have ccred:=hok.cred;have oamt:=hook.amt;have oroom:=hook.room;have ocred:=hook.cred;rw[a2] at ccred;rw[b2] at ocred;rw[b3,b4] at oamt;rw[b4] at oroom;rw[a3] at camt
     unfold TY at hokd ⊢
     rw[a1,a2,a3,b1,b2,b3,b4] at hokd ⊢
     simp only[e1,e2,By,PP,yw ccred.1,yw ocred.1] at hokd ⊢
     have n11:ZV false 11=some (.pan ⟨11⟩):=rfl;have n0:∀e,ZV true e=some (.ok ()):=λ_=>rfl;have nf:∀e,ZV false e=some (.pan ⟨e⟩):=λ_=>rfl;by_cases c1:c.owner=o.owner
     ·have f1:(c.owner==o.owner)=true:=by simpa using c1
      have f2:(c.owner != o.owner)=false:=by simpa using c1
      simp only[f1,f2,OF,nE,n0] at hokd ⊢
      by_cases c2:c.creditor≥0
      ·simp only[c2,pv,wt,lL,OF,By,PP,nf,DO];exact⟨rfl,by decide⟩
      ·simp only[c2,pw,tO,nE,OF] at hokd ⊢
       by_cases c3:o.creditor≥0
       ·simp only[c3,pv,wt,OF,nf,DO];exact⟨rfl,by decide⟩
       ·simp only[c3,pw,tO,n0,DO,By,PP] at hokd ⊢
        by_cases c4:c.amount < x.Amount
        ·have g1:decide (c.amount≥x.Amount)=false:=rY (by omega);simp only[c4,g1,OF,nf];exact⟨rfl,by decide⟩
        ·have g1:decide (c.amount≥x.Amount)=true:=rI (by omega);simp only[c4,g1,PP,n0] at hokd ⊢
         have hw:ZC (o.amount+x.Amount)=o.amount+x.Amount:=Qq (by omega) (by omega);rw[hw];by_cases c5:o.amount+x.Amount > o.room
         ·have g2:decide (o.amount+x.Amount<=o.room)=false:=rY (by omega);simp only[c5,g2,OF,nf];exact⟨rfl,by decide⟩
         ·have g2:decide (o.amount+x.Amount<=o.room)=true:=rI (by omega);simp only[c5,g2,PP,n0] at hokd ⊢
          have hnew:=hokd _ rfl;have hcf:=hcr.fills;cases hfc:c.fills with
          | none=>
           rw[hfc] at hcf
           exact absurd hcf (hok.some (by rw[a3];omega))
          | some j=>
           rw[hfc] at hcf
           obtain⟨lj,hj,hjn,hjF⟩:=hcf
           obtain⟨o',A3',hp,hp1,hp2,hp3,hp4,hp5,hp6⟩:=Mz (A3:=A3) (j:=j) (lj:=lj) (so:=h) (tm:=c.times) (n:=x.Amount) hoc horaw (by omega) (by omega) hor.fills λhp=>by rw[<-b3] at hp;exact hook.some hp
            hj hjn hjF (λe=>hik<|hr2.apart i k c o j hc2 hoc hfc e) ⟨by rw[hraw];rfl,by rw[hraw];rfl,by rw[hraw];rfl⟩
           have hc3:(((A1.set i c).set k o).set k o')[i]? =some c:=by rw[pZ λe=>hik e.symm];exact hc2
           rw[hp,DO];simp only;rw[Gs hc3 (by omega) (by omega),DO];have hjl:j < A3.length:=(So.1 hj).1;have hkall:=(So.1 hho).1;have hmem:W2 ho2 h x.Amount∈(all.set k<|W2 ho2 h x.Amount).set i (Xj h x.Amount):=s7 (i:=k) (by rw[pZ hik];exact pU hkall);have hho' :=hnew.each _ hmem;have hlmem:Xj h x.Amount∈(all.set k<|W2 ho2 h x.Amount).set i (Xj h x.Amount):=s7 (i:=i) (pU<|by simpa using(So.1 hh).1);have hlok:=hnew.each _ hlmem
           have hpr:PR t (n+1) (all.set k<|W2 ho2 h x.Amount) (((A1.set i c).set k o).set k o') A3' m:=by
            refine hr2.set hoc hho hp1 ?_ (λi' ci hi hne h1 h2=> ?_) λi' ci q hne h1 h2 h3=> ?_
            ·rw[hp3];refine CR.bZ h0 (by rw[hp2];exact hos) (by rw[<-hp3];exact hho') ?_;exact hp4
            ·have hci:=(hr2.each i' ci hi h1 h2).up;refine⟨hci.since,hci.ok,hci.eq,hci.fills.fM λq hq=> ?_⟩;have hq2:=hci.fills;rw[hq] at hq2
             obtain⟨lq,g1',_⟩:=hq2;rw[g1'];exact hp5 q lq g1' λe=>hne<|hr2.apart i' k ci o q h1 hoc hq e
            ·have hci:=(hr2.each i' ci _ h1<|Rw (show i' < all.length by rw[<-hr2.len];exact(So.1 h1).1)).fills;rw[h2] at hci
             have hlt:=ye hci;rcases hp6 with hp6 | hp6
             ·rw[hp6] at h3;exact hne<|hr2.apart i' k ci o q h1 hoc h2 h3
             ·rw[hp6] at h3
              simp only[BY] at h3
              omega
           refine⟨_,_,_,rfl,?_⟩;have hh3:(all.set k<|W2 ho2 h x.Amount)[i]? =some h:=by rw[pZ λe=>hik e.symm];exact hh
           have hcr3:=hpr.each i c h hc3 hh3;have hls:Xj h x.Amount=Vz (GQ c x.Amount) (Xj (Vz c h.Fills) x.Amount).Fills:=by rw[<-OZ,<-hraw]
           refine hpr.set hc3 hh3 Pe ?_ (λi' ci hi _ h1 h2=>hpr.each i' ci hi h1 h2) λi' ci q hne h1 h2 h3=> ?_
           ·rw[hls];refine CR.bZ h0 (by rw[NR];exact hs) (by rw[<-hls];exact hlok)<|zZ hcr3.fills
           ·rcases NS (c:=c) (n:=x.Amount) with e | e
            ·rw[e] at h3;exact hne<|hpr.apart i' i ci c q h1 hc3 h2 h3
            ·rw[e] at h3;cases h3
     ·have f1:(c.owner==o.owner)=false:=by simpa using c1
      have f2:(c.owner != o.owner)=true:=by simpa using c1
      simp only[f1,f2,OF,lL,By,PP,n0,nf,DO];exact⟨rfl,by decide⟩
end
end
section
open Go.Dec
variable{l:UV Ev}{day:Int}
theorem qp(x:Ev):XD x=some (Xa x):=by
 have e:∀n a b,J9 n a b=Wt n a b:=λ_ _ _=>rfl;unfold XD Uk Uz UN Y9 YF Xa;simp only[e];cases h1:Wt x.Day 0 65536 with
 | false=>simp
 | true=>
  cases h2:Wt x.Cask 0 1073741824 with
  | false=>simp
  | true=>
   simp only[wt,ny,By,PP,rL];by_cases k0:(x.Kind==0)=true
   ·rw[T2 k0,T2 k0]
   ·rw[RW k0,RW k0];by_cases k1:(x.Kind==1)=true
    ·simp[k1]
    ·simp only[pT] at k1
     by_cases k3:(x.Kind==3)=true
     ·simp[k1,k3]
     ·simp only[pT] at k3
      simp only[k1,k3,ny,By,PP,DO];by_cases k2:(x.Kind==2)=true
      ·rw[T2 k2,T2 k2]
      ·rw[RW k2,RW k2];by_cases k4:(x.Kind==4)=true
       ·rw[T2 k4,T2 k4]
       ·rw[RW k4,RW k4];by_cases k5:(x.Kind==5)=true
        ·simp[k5]
        ·simp only[pT] at k5
         by_cases k6:(x.Kind==6)=true
         ·simp[k5,k6]
         ·simp only[pT] at k6
          simp only[k5,k6,ny,By,PP,DO];by_cases k7:(x.Kind==7)=true
          ·rw[T2 k7,T2 k7]
          ·rw[RW k7,RW k7];by_cases k8:(x.Kind==8)=true
           ·rw[T2 k8,T2 k8]
           ·rw[RW k8,RW k8]
abbrev jZ:=((UV QN)×(UV Qi)×FM×(UV<|UV<|Int×(H1 Nat))×(H1 Nat)×Ev)->H1 (Out Zh<|(UV QN)×FM×(UV<|UV<|Int×(H1 Nat)))
theorem AG:∃D:UV (Int×jZ),Gd=some D/\∀(x:Ev),Xa x=true->∃f,Qa D x.Kind=some f/\
  ∀{t:Int} {n:Nat} {all:UV Zg} {A1:UV QN} {A3:FM} {m:UV (Int×H1 Nat)} {b:Qi},PR t n all A1 A3 m->Aa t n all->0<=t->t<=65536->b.casks=some 0->b.event=n->x.Day=t->Xb t n (FX all x n) (f (A1,[b],A3,[m],some 0,x)):=by
 refine⟨_,rfl,λx hv=> ?_⟩;rcases kinds hv with k | k | k | k | k | k | k | k | k<;>rw[k]
 ·exact⟨_,rfl,λr ho h0 ht hb _ hd=>qd r ho h0 hb hv k hd⟩
 ·exact⟨_,rfl,λr ho h0 ht hb hbe hd=>Tp r ho h0 ht hb hbe hv k hd⟩
 ·exact⟨_,rfl,λr ho h0 ht hb _ hd=>kJ r ho h0 ht hb hv k hd⟩
 ·exact⟨_,rfl,λr _ h0 ht hb _ hd=>qW r h0 ht hb hv k hd⟩
 ·exact⟨_,rfl,λr _ h0 ht hb _ hd=>qb r h0 ht hb hv k hd⟩
 ·exact⟨_,rfl,λr _ h0 ht hb _ hd=>kA r h0 ht hb hv k hd⟩
 ·exact⟨_,rfl,λr _ h0 ht hb _ hd=>Ob r h0 ht hb hv k hd⟩
 ·exact⟨_,rfl,λr _ h0 ht hb _ hd=>kg r h0 ht hb hv k hd⟩
 ·exact⟨_,rfl,λr _ h0 ht hb _ hd=>jA r h0 ht hb hv k hd⟩
section
variable{D:UV (Int×jZ)}
def zn(D:UV (Int×jZ)):Prop:=∀(x:Ev),Xa x=true->∃f,Qa D x.Kind=some f/\
 ∀{t:Int} {n:Nat} {all:UV Zg} {A1:UV QN} {A3:FM} {m:UV (Int×H1 Nat)} {b:Qi},PR t n all A1 A3 m->Aa t n all->0<=t->t<=65536->b.casks=some 0->b.event=n->x.Day=t->Xb t n (FX all x n) (f (A1,[b],A3,[m],some 0,x))
theorem zy(hD:zn D){n:Nat}{s:AY}{x:Ev}{A1:UV QN}{A3:FM}{m:UV (Int×H1 Nat)}{b:Qi}(hx:l[n]? =some x)(hn:n<=4096)(ho:HT n s)(hr:PR s.last n s.all A1 A3 m)(hb:b.casks=some 0)(hd:x.Day<=day):match Up n s x with
  | .inl s' =>∃A1' A3' m',YC l day D ((n:Int),s.last,A1,[b],A3,[m])=some (.next (((n+1:Nat):Int),s'.last,A1',[⟨some 0,n⟩],A3',[m']))/\PR s'.last (n+1) s'.all A1' A3' m'
  | .inr e=>YC l day D ((n:Int),s.last,A1,[b],A3,[m])=some (.done<|.inr (⟨e⟩,(n:Int),0,some 0))/\e≠0:=by
 have hnl:n < l.length:=(So.1 hx).1;have hw:ZC ((n:Int)+1)=((n+1:Nat):Int):=by rw[Qq (by omega)<|by omega];rfl
 have h1:decide ((n:Int) < (l.length:Int))=true:=rI (by omega);have nt:∀e,ZV true e=some (.ok ()):=λ_=>rfl;have nf:∀e,ZV false e=some (.pan ⟨e⟩):=λ_=>rfl;unfold YC Up;simp only[h1,OF,KI,hx,DO,hd,pv,qp];cases hv:Xa x with
 | false=>
  simp only[tO,OF,nf,Qu];exact⟨trivial,by decide⟩
 | true=>
  simp only[wt,By,PP,nt,Qu];by_cases hlt:x.Day < s.last
  ·have e:decide (x.Day≥s.last)=false:=rY (by omega);simp only[hlt,e,OF,nf];exact⟨trivial,by decide⟩
  ·have e:decide (x.Day≥s.last)=true:=rI (by omega);simp only[hlt,e,PP,nt];have hday:=fC hv;have hsd:=ho.day;obtain⟨f,hf,hdo⟩:=hD x hv;have hok:=Ta ho.ok (n:=x.Day - s.last) (by omega);have e0:s.last+(x.Day - s.last)=x.Day:=by omega
   rw[e0] at hok
   have hdoes:=hdo (b:=⟨some 0,(n:Int)⟩) (hr.shift (t' :=x.Day)<|by omega) hok hday.1 hday.2 rfl rfl rfl;have hbk:({b with event:=(n:Int)}:Qi)=⟨some 0,n⟩:=by rw[<-hb]
   simp only[IF,DO,QT,ru,hbk,hf];cases hds:FX (s.all.map<|Vw<|x.Day - s.last) x n with
   | inl all' =>
    rw[hds] at hdoes
    obtain⟨A1',A3',m',h2,h3⟩:=hdoes;rw[h2];simp only[hw];exact⟨A1',A3',m',rfl,h3⟩
   | inr er=>
    rw[hds] at hdoes
    obtain⟨h2,h3⟩:=hdoes;rw[h2];exact⟨rfl,h3⟩
theorem Mj{n:Nat}{last:Int}{A1:UV QN}{A2:UV Qi}{A3:FM}{A4:UV (UV<|Int×H1 Nat)}(h:∀x,l[n]? =some x->¬x.Day<=day)(hn:n<=l.length):YC l day D ((n:Int),last,A1,A2,A3,A4)=some (.done<|.inl ((n:Int),A1,A2,A3,A4)):=by
 unfold YC;cases hx:l[n]? with
 | none=>
  have:¬(n:Int) < (l.length:Int):=by
   have:=mG.1 hx;omega
  simp[this]
 | some x=>
  have hnl:n < l.length:=(So.1 hx).1;have h1:decide ((n:Int) < (l.length:Int))=true:=rI (by omega);have h2:decide (x.Day<=day)=false:=rY<|h x hx;simp only[h1,OF,KI,hx,DO,h2,By,PP]
theorem LG(hD:zn D){l:UV Ev}{day:Int}(hl:l.length<=4096):∀(post pre:UV Ev) (s:AY) (A1:UV QN) (A3:FM) (m:UV (Int×H1 Nat)) (b:Qi),l=pre++post->HT pre.length s->PR s.last pre.length s.all A1 A3 m->b.casks=some 0->
  match Bq day post pre.length s with
  | (.inl s',k)=>∃A1' A3' m' b',ZW (YC l day D) ((pre.length:Int),s.last,A1,[b],A3,[m])=some (.inl ((k:Int),A1',[b'],A3',[m']))/\PR s'.last k s'.all A1' A3' m'/\b'.casks=some 0
  | (.inr e,k)=>ZW (YC l day D) ((pre.length:Int),s.last,A1,[b],A3,[m])=some (.inr (⟨e⟩,(k:Int),0,some 0))/\e≠0
 | [],pre,s,A1,A3,m,b,e,ho,hr,hb=>by
  simp only[Bq];refine⟨A1,A3,m,b,?_,hr,hb⟩;rw[ZQ,Mj (λx hx=>by rw[e] at hx;simp at hx) (by rw[e];simp)]
 | x::post,pre,s,A1,A3,m,b,e,ho,hr,hb=>by
  have hx:l[pre.length]? =some x:=Ul e;have hn:pre.length<=4096:=by have:=HE e;omega
  rw[ZQ];by_cases hd:x.Day<=day
  ·have hst:=zy hD hx hn ho hr hb hd;simp only[Bq,hd,OF];cases hs:Up pre.length s x with
   | inl s' =>
    rw[hs] at hst
    obtain⟨A1',A3',m',h1,h2⟩:=hst;rw[h1];have ih:=LG hD (day:=day) hl post (pre++[x]) s' A1' A3' m' ⟨some 0,(pre.length:Int)⟩ (by rw[e];simp) (by simpa using(Ah ho hs).1) (by simpa using h2) rfl;simpa using ih
   | inr er=>
    rw[hs] at hst
    rw[hst.1];exact⟨rfl,hst.2⟩
  ·rw[Mj (λy hy=>by rw[hx] at hy;cases hy;exact hd) (by have:=HE e;omega)];simp only[Bq,hd,PP];exact⟨A1,A3,m,b,rfl,hr,hb⟩
end
end
section
open Go.Dec
section
variable{t day:Int}{n:Nat}{all:UV Zg}{A1:UV QN}{A3:FM}{m:UV (Int×H1 Nat)}
theorem LR(hday:day<=1000000)(hok:∀(k:Nat) (c:QN),A1[k]? =some c->0<=c.since/\c.since<=day/\∃F,Lq c.since n<|Vz c F):∀(L:UV (Int×H1 Nat)) (s:UV QN),(∀e∈L,∃k,e.2=some k/\k < A1.length)->(L.map Prod.snd).Nodup->s.length=A1.length->(∀k,some k∈L.map Prod.snd->s[k]? =A1[k]?)->
  ∃s',Yu (U6 day) L s=some s'/\s'.length=A1.length/\∀i:Nat,s'[i]? =if some i∈L.map Prod.snd then(A1[i]?).map (W1 day) else s[i]?
 | [],s,_,_,hl,_=>⟨s,rfl,hl,λi=>by simp⟩
 | e::L,s,hE,hN,hl,hs=>by
  obtain⟨k,hk,hkl⟩:=hE e<|by simp
  have hN' :some k∉L.map Prod.snd/\(L.map Prod.snd).Nodup:=by
   have:=rO.1 hN;rw[hk] at this;exact this
  have hc:A1[k]? =some A1[k]:=Rw hkl;have hsk:s[k]? =some A1[k]:=by rw[hs k<|by simp[hk]];exact hc
  obtain⟨h0,h1,F,hF⟩:=hok k _ hc
  have hb:U6 day e s=some (s.set k<|W1 day A1[k]):=by
   unfold U6;rw[hk,Mt hsk hF h0 h1 hday];rfl
  obtain⟨s',g1,g2,g3⟩:=LR hday hok L (s.set k<|W1 day A1[k]) (λe' he' =>hE e'<|bY _ he') hN'.2 (by simpa using hl) λk' hk' =>by
   have hne:k≠k' :=λe' =>hN'.1 (by rw[e'];exact hk');rw[pZ hne];exact hs k' (by rw[s6];exact bY _ hk')
  refine⟨s',by simp only[Yu,hb,DO];exact g1,g2,λi=> ?_⟩;rw[g3 i];by_cases hi:some i∈L.map Prod.snd
  ·rw[T2 hi,T2 (by rw[s6];exact bY _ hi)]
  ·rw[RW hi];by_cases e' :k=i
   ·subst e';rw[pU (by rw[hl];exact hkl),T2 (by simp[hk]),hc];rfl
   ·rw[pZ e',RW];rw[s6,y1,hk];rintro(h | h)
    ·exact e'<|by simpa using h.symm
    ·exact hi h
theorem jz(r:PR t n all A1 A3 m)(hd:t<=day)(hday:day<=65536):CH (U6 day) m A1=some (A1.map<|W1 day)/\PR day n (all.map<|Vw<|day - t) (A1.map<|W1 day) A3 m/\∀c∈A1.map (W1 day),c.since=day:=by
 have hlook:∀(k:Nat) (c:QN),A1[k]? =some c->∃h,all[k]? =some h/\CR t n A3 c h:=λk c hc=>by
  have hk:k < all.length:=by rw[<-r.len];exact(So.1 hc).1
  exact⟨all[k],Rw hk,r.each k c _ hc<|Rw hk⟩
 have hsnd:m.map Prod.snd=(List.range A1.length).map some:=by
  rw[r.map];apply rH;intro i;simp only[pg,nT];by_cases h:i < A1.length
  ·simp[h]
  ·simp[h]
 refine⟨Oe λl' hl' => ?_,⟨by simp[r.len],λk c h hc hh=> ?_,?_,λi j ci cj q h1 h2 h3 h4=> ?_⟩,λc hc=> ?_⟩
 ·have hp:=hl'.map Prod.snd
  have hmem:∀o,o∈l'.map Prod.snd↔∃i,i < A1.length/\o=some i:=λo=>by
   rw[hp.mem_iff,hsnd];simp only[rG,rN];exact⟨fun⟨i,h1,h2⟩=>⟨i,h1,h2.symm⟩,fun⟨i,h1,h2⟩=>⟨i,h1,h2.symm⟩⟩
  obtain⟨s',g1,g2,g3⟩:=LR (day:=day) (A1:=A1) (n:=n) (by omega) (λk c hc=>by
   obtain⟨h,_,hcr⟩:=hlook k c hc
   exact⟨hcr.since.1,by have:=hcr.since.2;omega,_,hcr.ok⟩) l' A1 (λe he=>by
    obtain⟨i,h1,h2⟩:=(hmem e.2).1<|pP he;exact⟨i,h2,h1⟩) (hp.nodup_iff.2 (by rw[hsnd];exact List.nodup_range.map _ λa b hab e=>hab<|by simpa using e)) rfl λ_ _=>rfl
  rw[g1];congr 1;apply rH;intro i;rw[g3 i,pg];by_cases h:i < A1.length
  ·rw[T2<|(hmem _).2 ⟨i,h,rfl⟩]
  ·rw[RW (λh' =>by
    obtain⟨i',h1,h2⟩:=(hmem _).1 h';simp only[BY] at h2
    omega),rF<|by omega]
   rfl
 ·rw[pg] at hc hh
  cases h1:A1[k]? with
  | none=>rw[h1] at hc;cases hc
  | some c0=>
   obtain⟨h0,h2,hcr⟩:=hlook k c0 h1;rw[h1] at hc;rw[h2] at hh
   simp only[dO,BY] at hc hh
   subst hc;subst hh;exact(hcr.shift hd).rest
 ·rw[r.map];apply rH;intro i;simp only[nT,pg];cases A1[i]? with
  | none=>rfl
  | some c=>simp[PS]
 ·rw[pg] at h1 h2
  cases g1:A1[i]? with
  | none=>rw[g1] at h1;cases h1
  | some c1=>
   cases g2:A1[j]? with
   | none=>rw[g2] at h2;cases h2
   | some c2=>
    rw[g1] at h1;rw[g2] at h2
    simp only[dO,BY] at h1 h2
    subst h1;subst h2;rw[CD] at h3 h4
    exact r.apart i j c1 c2 q g1 g2 h3 h4
 ·obtain⟨c0,_,rfl⟩:=rG.1 hc;exact W0
end
theorem PR.start:PR 0 0 [] [] [] []:=⟨rfl,λ_ _ _ h=>by simp at h,rfl,λ_ _ _ _ _ h=>by simp at h⟩
def E4(day:Int)(r:(UV Zg ⊕ Int)×Nat)(o:H1 ((H1 Nat)×Int×Int×(UV QN)×(UV Qi)×FM×(UV<|UV<|Int×H1 Nat))):Prop:=match r with
 | (.inl all,k)=>∃A1 b A3 m,o=some (some 0,(k:Int),0,A1,[b],A3,[m])/\b.casks=some 0/\PR day k all A1 A3 m/\(∀c∈A1,c.since=day)/\Aa day k all/\k<=4096/\0<=day/\day<=65536
 | (.inr e,k)=>o=some (none,(k:Int),e,[],[],[],[])/\e≠0
theorem HX(l:UV Ev)(day:Int):E4 day (Yi l day) (XC l day):=by
 obtain⟨D,hD,hOK⟩:=AG;unfold XC Yi;by_cases hl:l.length > 4096
 ·have:decide ((l.length:Int) > 4096)=true:=rI (by omega);simp only[this,hl,OF];exact⟨rfl,by decide⟩
 ·have:decide ((l.length:Int) > 4096)=false:=rY (by omega);simp only[this,hl,PP,By];have e:J9 day 0 65536=Wt day 0 65536:=rfl;rw[e];cases hb:Wt day 0 65536 with
  | false=>exact⟨rfl,by decide⟩
  | true=>
   have hday:=Yg.1 hb;simp only[wt,By,PP,QT,hD,DO,rZ];have hloop:=LG (D:=D) hOK (l:=l) (day:=day) (by omega) l [] ⟨[],0⟩ [] [] [] ⟨some 0,0⟩ rfl HT.start PR.start rfl;unfold Pk;cases hg:Bq day l 0 ⟨[],0⟩ with
   | mk r k=>
    have hg' :Bq day l ([]:UV Ev).length ⟨[],0⟩=(r,k):=hg;rw[hg'] at hloop
    cases r with
    | inl s' =>
     obtain⟨A1',A3',m',b',h1,h2,h3⟩:=hloop;obtain⟨g1,g2,g3,g4⟩:=LQ l 0 ⟨[],0⟩ s' k HT.start (by show(0:Int)<=day;omega) hg;have h1' :ZW (YC l day D) (0,0,[],[⟨some 0,0⟩],[],[[]])=_:=h1;obtain⟨p1,p2,p3⟩:=jz h2 g2 hday.2;have hok:=Ta g1.ok (n:=day - s'.last) (by omega);rw[show s'.last+(day - s'.last)=day by omega] at hok
     refine⟨A1'.map<|W1 day,b',A3',m',?_,h3,p2,p3,hok,by omega,hday.1,hday.2⟩;rw[h1',DO];simp only[IF,DO,h3,p1]
    | inr er=>
     have h1' :ZW (YC l day D) (0,0,[],[⟨some 0,0⟩],[],[[]])=_:=hloop.1;refine⟨?_,hloop.2⟩;rw[h1',DO]
end
section
open Go.Dec
variable{all:UV Zg}
def zC:ZP:=⟨0,0,0,0,0,0,0,0,zN,zN⟩
def GP(all:UV Zg)(num:Int):H1 Zg:=(Yb all num).bind λi=>all[i]?
def B9(l:UV Ev)(num day:Int):ZP×Int:=match(Yi l day).1 with
 | .inr e=>(zC,e)
 | .inl all=>match GP all num with
  | none=>(zC,4)
  | some h=>(h.C,0)
def RZ(l:UV Ev)(num day:Int):UV Int×Int:=match(Yi l day).1 with
 | .inr e=>([],e)
 | .inl all=>match GP all num with
  | none=>([],4)
  | some h=>(h.Fills,0)
theorem C6{l:UV Ev}{day e:Int}{k:Nat}(h:Yi l day=(.inr e,k)):e≠0:=by
 have:=HX l day;rw[h] at this
 exact this.2
theorem CG{l:UV Ev}{day:Int}{k:Nat}(h:Yi l day=(.inl all,k)):Aa day k all/\k<=4096/\0<=day/\day<=65536:=by
 have:=HX l day;rw[h] at this
 obtain⟨_,_,_,_,_,_,_,_,h1,h2,h3,h4⟩:=this;exact⟨h1,h2,h3,h4⟩
theorem CR.now{t:Int}{n:Nat}{A3:FM}{c:QN}{h:Zg}(r:CR t n A3 c h)(hs:c.since=t):h=Vz c h.Fills:=by
 have:=r.eq;rw[hs,mU,As] at this
 exact this
theorem Tn{num:Int}{i:Nat}(h:Yb all num=some i):∃hh,all[i]? =some hh/\GP all num=some hh:=by
 obtain⟨hh,h1,_⟩:=SJ h;exact⟨hh,h1,by simp[GP,h,h1]⟩
theorem PR.look{t:Int}{n:Nat}{A1:UV QN}{A3:FM}{m:UV (Int×H1 Nat)}(r:PR t n all A1 A3 m)(hs:∀c∈A1,c.since=t){i:Nat}{h:Zg}(hh:all[i]? =some h):∃c,A1[i]? =some c/\h=Vz c h.Fills/\FR A3 c.fills h.Fills:=by
 have hi:i < A1.length:=by rw[r.len];exact(So.1 hh).1
 have hc:A1[i]? =some A1[i]:=Rw hi;have hcr:=r.each i _ h hc hh;exact⟨_,hc,hcr.now<|hs _<|lQ _,hcr.fills⟩
theorem uw(l:UV Ev)(num day:Int):DX l num day=some (B9 l num day):=by
 have hp:=HX l day;unfold DX B9;cases hpl:Yi l day with
 | mk r k=>
  rw[hpl] at hp
  cases r with
  | inr e=>
   rw[hp.1,DO];have:(e != 0)=true:=by simpa using hp.2
   simp only[this,OF];rfl
  | inl all=>
   obtain⟨A1,b,A3,m,h1,hb,hr,hs,_⟩:=hp;rw[h1,DO];have e0:((0:Int) != 0)=false:=rfl;simp only[e0,By,PP,DO,IF,hb,hr.get];cases hf:Yb all num with
   | none=>simp[GP,hf];rfl
   | some i=>
    obtain⟨h,hh,hfh⟩:=Tn hf;obtain⟨c,hc,hraw,_⟩:=hr.look hs hh;simp only[rr,By,PP,hfh];unfold Ym;simp only[DO,hc];have:h.C=(Vz c h.Fills).C:=by rw[<-hraw]
    rw[this];rfl
end
section
open Go.Dec
def M9(all:UV Zg):UV Int:=(all.map (·.C.Number)).mergeSort λa b=>decide<|a<=b
def gJ(all:UV Zg):UV Zg:=(M9 all).filterMap<|GP all
theorem M8(all:UV Zg):(M9 all).Perm (all.map (·.C.Number)):=nw _ _
theorem uO{all:UV Zg}{num:Int}(h:num∈all.map (·.C.Number)):∃i hh,Yb all num=some i/\all[i]? =some hh/\GP all num=some hh/\hh.C.Number=num:=by
 cases hf:Yb all num with
 | none=>
  obtain⟨x,hx,e⟩:=rG.1 h;exact absurd e (SK hf x hx)
 | some i=>
  obtain⟨hh,h1,h2⟩:=Tn hf;obtain⟨h',h3,h4⟩:=SJ hf;rw[h1] at h3;cases h3
  exact⟨i,hh,rfl,h1,h2,h4⟩
section
variable{t:Int}{n:Nat}{all:UV Zg}{A1:UV QN}{A3:FM}{m:UV (Int×H1 Nat)}{b:Qi}
theorem uH(r:PR t n all A1 A3 m)(ho:Aa t n all):GO m=some (M9 all):=by
 have hk:m.map Prod.fst=all.map (·.C.Number):=by
  rw[r.map];apply rH;intro i;simp only[pg,nT];by_cases h:i < A1.length
  ·have h2:i < all.length:=by rw[<-r.len];exact h
   rw[Rw h,Rw h2];simp only[dO];rw[(r.each i _ _ (Rw h)<|Rw h2).number]
  ·rw[rF (by omega),rF (by rw[<-r.len];omega)];rfl
 have hl:m.length=all.length:=by rw[<-nu (f:=Prod.fst),hk,nu]
 have hall:m.all (λx=>decide<|-9223372036854775808<=x.1/\x.1<=9223372036854775807)=true:=s8.2 λx hx=>by
  have h1:x.1∈all.map (·.C.Number):=by rw[<-hk];exact pP hx
  obtain⟨h,hh,e⟩:=rG.1 h1;have:=(ho.each h hh).num;simp only[x7];omega
 unfold GO;rw[T2 ⟨hall,by have:=ho.few;omega⟩,hk];rfl
theorem EL(r:PR t n all A1 A3 m)(ho:Aa t n all)(hb:b.casks=some 0):VN [b] [m] (some 0)=some ((M9 all).map<|Yb all):=by
 unfold VN;simp only[DO,IF,hb,uH r ho];congr 1;exact List.map_congr_left λk _=>r.get k
theorem LS(hs:∀c∈A1,c.since=t)(r:PR t n all A1 A3 m):∀(ks:UV Int) (out:UV ZP),(∀k∈ks,k∈all.map (·.C.Number))->out.length+ks.length<=1000000->
  Yu Xn (ks.map<|Yb all) (out,A1)=some (out++(ks.filterMap<|GP all).map (·.C),A1)
 | [],out,_,_=>by simp[Yu]
 | k::ks,out,hk,hl=>by
  obtain⟨i,h,h1,h2,h3,h4⟩:=uO (hk k<|by simp);obtain⟨c,hc,hraw,_⟩:=r.look hs h2
  have hsh:Ym A1 (some i)=some h.C:=by
   unfold Ym;simp only[DO,hc];have:h.C=(Vz c h.Fills).C:=by rw[<-hraw]
   rw[this];rfl
  have hb:Xn (some i) (out,A1)=some (out++[h.C],A1):=by
   unfold Xn;rw[hsh,DO];simp only[s5] at hl
   rw[AS (by simp;omega)];rfl
  simp only[s6,Yu,h1,hb,DO];rw[LS hs r ks (out++[h.C]) (λk' hk' =>hk k'<|bY _ hk') (by simp at hl ⊢;omega)];rw[List.filterMap_cons,h3];simp
end
def TM(l:UV Ev)(day:Int):UV ZP×Int×Int:=match Yi l day with
 | (.inr e,k)=>([],(k:Int),e)
 | (.inl all,k)=>((gJ all).map (·.C),(k:Int),0)
theorem SO(l:UV Ev)(day:Int):Ho l day=some (TM l day):=by
 have hp:=HX l day;unfold Ho TM;cases hpl:Yi l day with
 | mk r k=>
  rw[hpl] at hp
  cases r with
  | inr e=>
   rw[hp.1,DO];have:(e != 0)=true:=by simpa using hp.2
   simp only[this,OF]
  | inl all=>
   obtain⟨A1,b,A3,m,h1,hb,hr,hs,hok,hk,_⟩:=hp;rw[h1,DO];have e0:((0:Int) != 0)=false:=rfl;simp only[e0,By,PP,DO];rw[EL hr hok hb,DO];have hlen:(M9 all).length=all.length:=by rw[(M8 all).length_eq];simp
   rw[LS hs hr (M9 all) [] (λk hk=>(M8 all).mem_iff.1 hk) (by have:=hok.few;simp;omega),DO];rfl
end
section
open Go.Dec
theorem N0{A3:FM}{p:H1 Nat}{F:UV Int}{n:Nat}(h:FR A3 p F)(hF:F.Pairwise (·< ·)/\∀f∈F,0<=f/\f < n)(hn:n<=4096):Vo A3 p=some F:=by
 cases p with
 | none=>have:F=[]:=h;subst this;rfl
 | some j=>
  obtain⟨l,h1,h2,h3⟩:=h;have hFn:F.Nodup:=hF.1.imp λh=>lz h;have hperm:(l.map Prod.fst).Perm F:=(lY h2 hFn).2 λx=>(h3 x).symm;have hlen:l.length=F.length:=by rw[<-hperm.length_eq];simp
  have hfl:=Sz 0 hF.1 (n:=n) hF.2<|by omega
  have hall:l.all (λx=>decide<|-9223372036854775808<=x.1/\x.1<=9223372036854775807)=true:=s8.2 λx hx=>by
   have:=hF.2 x.1<|(h3 x.1).2<|pP hx;simp only[x7];omega
  have hk:GO l=some ((l.map Prod.fst).mergeSort λa b=>decide<|a<=b):=by
   unfold GO;rw[T2 ⟨hall,by omega⟩]
  have e:Vo A3 (some j)=GO l:=by simp[Vo,h1]
  rw[e,hk,qv hperm];congr 1;exact List.mergeSort_of_pairwise<|hF.1.imp λh=>by simpa using Int.le_of_lt h
theorem E3(l:UV Ev)(num day:Int):XE l num day=some (RZ l num day):=by
 have hp:=HX l day;unfold XE RZ;cases hpl:Yi l day with
 | mk r k=>
  rw[hpl] at hp
  cases r with
  | inr e=>
   rw[hp.1,DO];have:(e != 0)=true:=by simpa using hp.2
   simp only[this,OF]
  | inl all=>
   obtain⟨A1,b,A3,m,h1,hb,hr,hs,hok,hk,_⟩:=hp;rw[h1,DO];have e0:((0:Int) != 0)=false:=rfl;simp only[e0,By,PP,DO,IF,hb,hr.get];cases hf:Yb all num with
   | none=>simp[GP,hf]
   | some i=>
    obtain⟨h,hh,hfh⟩:=Tn hf;obtain⟨c,hc,hraw,hfr⟩:=hr.look hs hh;have hho:=hok.each h<|s7 hh;simp only[rr,By,PP,hfh,DO,hc];rw[N0 hfr hho.fills hk];rfl
end
end Go.Proofs.YtijhfeohbhedkaaGreatDoor.Ca
namespace Go.Proofs.YtijhfeohbhedkaaGreatDoor.Ex
section
open Go.Dec
variable{f:QF->Int}{j:Nat}{v a:Int}
structure Acc where
 B:ZR
 Ids:List Int
 Sums:Nat->Int
abbrev Ev:=QM
abbrev Gt:=Qz
variable{r:Gt}
abbrev Bk:=ZR
abbrev zN:Nat->Int:=λ_=>0
def Wt(n a b:Int):Bool:=decide (n≥a)&&decide (n<=b)
def Gc:Int->UV Zy->Bool
 | _,[]=>true
 | last,x::l=>Wt x.From 0 65536&&decide (last < x.From)&&Wt x.Rate 0 1048576&&Gc x.From l
def Ed:UV Zy->Bool
 | x::_=>x.From==0
 | []=>false
def G6(r:Gt):Bool:=Wt r.Rates.length 1 64&&Ed r.Rates&&Wt r.Transit 0 65536&&Wt r.Loss 0 10000&&Wt r.Share 0 1000&&Gc (-1) r.Rates
def Fl(l:UV Zy)(day:Int):Int:=l.foldl (λown x=>if x.From<=day then x.Rate else own) 0
def We(r:Gt)(amount day:Int):Int:=amount*Fl r.Rates day / 1000
def Bn(n:Int):Bool:=Wt n 0 15
def Xa(x:Ev):Bool:=
 Wt x.Day 0 65536&&
 (if x.Kind==0||x.Kind==3||x.Kind==4 then Bn x.Bond&&Wt x.Amount 1 17179869184
  else if x.Kind==1 then Bn x.Bond&&Bn x.To&&Wt x.Id 0 1073741824&&Wt x.Amount 1 17179869184
  else if x.Kind==2 then Bn x.Bond&&Wt x.Id 0 1073741824&&Wt x.Amount 0 17179869184
  else if x.Kind==5 then Bn x.Bond&&Wt x.Amount 0 17179869184
  else if x.Kind==6 then Wt x.Amount 1 72057594037927936 else false)
def ZK(r:Gt)(p:QF):Int:=p.Sent+r.Transit+1
def Yh(f:QF->Int):UV QF->Int
 | []=>0
 | p::l=>f p+Yh f l
def W7(r:Gt)(t d:Int)(s:Acc):Acc:=
 {s with
  B:={s.B with
   Moving:=s.B.Moving.filter λp=>decide<|d < ZK r p,
   Used:=s.B.Used+Yh QF.Amount (s.B.Moving.filter λp=> !decide (d < ZK r p)),
   Due:=s.B.Due+Yh (λp=>We r p.Amount<|ZK r p) (s.B.Moving.filter λp=> !decide (d < ZK r p))},
  Sums:=λi=>if i < 16 then s.Sums i+s.B.Bonds i*(d - t) else s.Sums i}
def Bg(r:Gt)(day lost allowed:Int)(s:Acc):Acc:={s with B:={s.B with Lost:=s.B.Lost+Je lost allowed,Charged:=s.B.Charged+(lost - Je lost allowed),Due:=s.B.Due+We r (lost - Je lost allowed) day}}
def Uf(s:Acc)(x:Ev)(n:Int):Acc:={s with B:={s.B with Bonds:=ZL s.B.Bonds x.Bond.toNat n}}
def Lw(r:Gt)(amount day:Int)(s:Acc):Acc:={s with B:={s.B with Used:=s.B.Used+amount,Due:=s.B.Due+We r amount day}}
def Zp(s:Acc)(x:Ev):Int:=s.B.Bonds x.Bond.toNat
def BA(p:QF):UV QF->UV QF
 | []=>[p]
 | q::l=>if q.Id < p.Id then q::BA p l else p::q::l
def I9(x:Ev):QF:=⟨x.Id,x.Bond,x.To,x.Day,x.Amount⟩
def SN(s:Acc)(x:Ev):Acc ⊕ Int:=if Zp s x+x.Amount > 17179869184 then .inr 12 else .inl {Uf s x (Zp s x+x.Amount) with B:={(Uf s x<|Zp s x+x.Amount).B with Made:=s.B.Made+x.Amount}}
def Ml(s:Acc)(x:Ev):Acc ⊕ Int:=
 if x.Bond==x.To then .inr 11 else if s.Ids.contains x.Id then .inr 5 else if Zp s x < x.Amount then .inr 10
 else .inl {Uf s x (Zp s x - x.Amount) with B:={(Uf s x<|Zp s x - x.Amount).B with Moving:=BA (I9 x) s.B.Moving},Ids:=s.Ids++[x.Id]}
def O4(r:Gt)(s:Acc)(x:Ev)(p:QF):Acc:=
 Bg r x.Day (imax 0<|p.Amount - x.Amount) (p.Amount*r.Loss / 10000)
  {Uf s x (Zp s x+x.Amount) with B:={(Uf s x<|Zp s x+x.Amount).B with Moving:=s.B.Moving.filter λq=> !(q.Id==x.Id),Found:=s.B.Found+imax 0 (x.Amount - p.Amount)}}
def CF(r:Gt)(s:Acc)(x:Ev):Acc ⊕ Int:=
 match s.B.Moving.find? (λq=>q.Id==x.Id) with
 | none=>.inr 4
 | some p=>if p.To != x.Bond then .inr 11 else if Zp s x+x.Amount > 17179869184 then .inr 12 else .inl (O4 r s x p)
def DV(r:Gt)(s:Acc)(x:Ev):Acc ⊕ Int:=if Zp s x < x.Amount then .inr 10 else .inl (Lw r x.Amount x.Day<|Uf s x<|Zp s x - x.Amount)
def SL(s:Acc)(x:Ev):Acc ⊕ Int:=if Zp s x < x.Amount then .inr 10 else .inl {Uf s x (Zp s x - x.Amount) with B:={(Uf s x<|Zp s x - x.Amount).B with Exported:=s.B.Exported+x.Amount}}
def PK(r:Gt)(s:Acc)(x:Ev):Acc:=
 Bg r x.Day (imax 0<|Zp s x - x.Amount) (s.Sums x.Bond.toNat*r.Share / 3650000)
  {Uf s x x.Amount with B:={(Uf s x x.Amount).B with Found:=s.B.Found+imax 0 (x.Amount - Zp s x)},Sums:=ZL s.Sums x.Bond.toNat 0}
def kM(s:Acc)(x:Ev):Acc ⊕ Int:=if x.Amount > s.B.Due - s.B.Paid then .inr 11 else .inl {s with B:={s.B with Paid:=s.B.Paid+x.Amount}}
def FX(r:Gt)(s:Acc)(x:Ev):Acc ⊕ Int:=
 if x.Kind==0 then SN s x else if x.Kind==1 then Ml s x else if x.Kind==2 then CF r s x else if x.Kind==3 then DV r s x
 else if x.Kind==4 then SL s x else if x.Kind==5 then .inl (PK r s x) else if x.Kind==6 then kM s x else .inl s
structure AY where
 acc:Acc
 day:Int
def Up(r:Gt)(s:AY)(x:Ev):AY ⊕ Int:=
 if !Xa x then .inr 1 else if x.Day < s.day then .inr 7
 else match FX r (W7 r s.day x.Day s.acc) x with
  | .inl a=>.inl ⟨a,x.Day⟩
  | .inr e=>.inr e
def Bq(r:Gt)(day:Int):UV Ev->Nat->AY->(AY ⊕ Int)×Nat
 | [],n,s=>(.inl s,n)
 | x::l,n,s=>if x.Day<=day then match Up r s x with
   | .inl s' =>Bq r day l (n+1) s'
   | .inr e=>(.inr e,n)
  else(.inl s,n)
def B6:Acc:=⟨⟨zN,[],0,0,0,0,0,0,0,0⟩,[],zN⟩
def NV:AY:=⟨B6,0⟩
def Pk(r:Gt)(day:Int)(l:UV Ev)(n:Nat)(s:AY):(Acc ⊕ Int)×Nat:=match Bq r day l n s with
 | (.inl s',k)=>(.inl<|W7 r s'.day day s'.acc,k)
 | (.inr e,k)=>(.inr e,k)
def Yi(r:Gt)(l:UV Ev)(day:Int):(Acc ⊕ Int)×Nat:=if !G6 r then(.inr 1,0) else if l.length > 4096 then(.inr 3,0) else if !Wt day 0 65536 then(.inr 2,0) else Pk r day l 0 NV
theorem Yg{n b:Int}:Wt n a b=true↔a<=n/\n<=b:=by simp[Wt]
theorem WE{f:Nat->Int}:ZL f j v j=v:=by simp[ZL]
theorem XP{f:Nat->Int}{k:Nat}(h:k≠j):ZL f j v k=f k:=by
 unfold ZL
 have:Nat.beq k j=false:=by
  cases hb:Nat.beq k j with
  | false=>rfl
  | true=>exact absurd (pM hb) h
 rw[this]
def RM(f:Nat->Int):Nat->Int
 | 0=>0
 | n+1=>RM f n+f n
theorem Ag{f:Nat->Int}:∀{n:Nat},n<=j->RM (ZL f j v) n=RM f n
 | 0,_=>rfl
 | n+1,h=>by simp only[RM];rw[Ag (by omega),XP<|by omega]
theorem Gx{f:Nat->Int}:∀{n:Nat},j < n->RM (ZL f j v) n=RM f n+v - f j
 | n+1,h=>by
  simp only[RM];by_cases e:n=j
  ·subst e;rw[Ag<|If _,WE];omega
  ·rw[Gx (by omega),XP e];omega
theorem OE{f:Nat->Int}:∀{n:Nat},(∀i,i < n->0<=f i)->0<=RM f n
 | 0,_=>pn _
 | n+1,h=>by have:=OE (n:=n) (λi hi=>h i<|by omega);have:=h n (by omega);simp only[RM];omega
theorem Gz:∀{l:UV QF},(∀p∈l,0<=f p)->0<=Yh f l
 | [],_=>pn _
 | p::l,h=>by have:=Gz (l:=l) λq hq=>h q<|bY _ hq;have:=h p<|ph ..;simp only[Yh];omega
theorem Lx{g:QF->Int}:∀{l:UV QF},(∀p∈l,f p<=g p)->Yh f l<=Yh g l
 | [],_=>pn _
 | p::l,h=>by have:=Lx (l:=l) λq hq=>h q<|bY _ hq;have:=h p<|ph ..;simp only[Yh];omega
theorem RR{k:Int}:∀{l:UV QF},Yh (λp=>k*f p) l=k*Yh f l
 | []=>by simp[Yh]
 | p::l=>by simp only[Yh,RR (l:=l),eG]
theorem Gy{f:QF->Int}{c:QF->Bool}:∀{l:UV QF},Yh f (l.filter c)+Yh f (l.filter λp=> !c p)=Yh f l
 | []=>rfl
 | p::l=>by
  have:=Gy (f:=f) (c:=c) (l:=l);cases h:c p<;>simp only[pz,h,wt,tO,OF,By,PP,Yh]<;>omega
theorem DP{l k:UV QF}(h:l.Perm k):Yh f l=Yh f k:=by
 induction h with
 | nil=>rfl
 | cons x _ ih=>simp only[Yh,ih]
 | swap x y l=>simp only[Yh];omega
 | trans _ _ h1 h2=>exact h1.trans h2
structure VM(r:Gt):Prop where
 rates:∀x∈r.Rates,0<=x.From/\x.From<=65536/\0<=x.Rate/\x.Rate<=1048576
 sorted:r.Rates.Pairwise (λx y=>x.From < y.From)
 first:∃x l,r.Rates=x::l/\x.From=0
 len:r.Rates.length<=64
 transit:0<=r.Transit/\r.Transit<=65536
 loss:0<=r.Loss/\r.Loss<=10000
 share:0<=r.Share/\r.Share<=1000
theorem PV:∀{last:Int} {l:UV Zy},Gc last l=true↔(∀x∈l,0<=x.From/\x.From<=65536/\0<=x.Rate/\x.Rate<=1048576)/\l.Pairwise (λx y=>x.From < y.From)/\∀x∈l,last < x.From
 | last,[]=>by simp[Gc]
 | last,x::l=>by
  simp only[Gc,TO,Yg,x7,PV (last:=x.From) (l:=l),aT,List.forall_mem_cons];constructor
  ·rintro⟨⟨⟨h1,h2⟩,h3⟩,h4,h5,h6⟩;exact⟨⟨⟨h1.1,h1.2,h3.1,h3.2⟩,h4⟩,⟨h6,h5⟩,h2,λy hy=>by have:=h6 y hy;omega⟩
  ·rintro⟨⟨⟨h1,h2,h3,h4⟩,h5⟩,⟨h6,h7⟩,h8,_⟩;exact⟨⟨⟨⟨h1,h2⟩,h8⟩,h3,h4⟩,h5,h7,h6⟩
theorem TW:G6 r=true↔VM r:=by
 unfold G6;simp only[TO,Yg,PV];constructor
 ·rintro⟨⟨⟨⟨⟨h1,h2⟩,h3⟩,h4⟩,h5⟩,h6,h7,h8⟩;refine⟨h6,h7,?_,by omega,h3,h4,h5⟩;cases e:r.Rates with
  | nil=>rw[e] at h2;cases h2
  | cons x l=>rw[e] at h2;exact⟨x,l,rfl,by simpa[Ed] using h2⟩
 ·intro h;obtain⟨x,l,e,e0⟩:=h.first;refine⟨⟨⟨⟨⟨⟨?_,?_⟩,?_⟩,h.transit⟩,h.loss⟩,h.share⟩,h.rates,h.sorted,λy hy=> ?_⟩
  ·rw[e];simp;omega
  ·have:=h.len;omega
  ·rw[e];simp[Ed,e0]
  ·have:=(h.rates y hy).1;omega
theorem Oa{l:UV Zy}{day:Int}(h:∀x∈l,0<=x.Rate/\x.Rate<=1048576):0<=Fl l day/\Fl l day<=1048576:=by
 have:∀(l:UV Zy) (a:Int),(∀x∈l,0<=x.Rate/\x.Rate<=1048576)->0<=a/\a<=1048576->0<=l.foldl (λown x=>if x.From<=day then x.Rate else own) a/\l.foldl (λown x=>if x.From<=day then x.Rate else own) a<=1048576:=by
  intro l
  induction l with
  | nil=>intro a _ h;exact h
  | cons x l ih=>
   intro a hl ha;refine ih _ (λy hy=>hl y<|bY _ hy) ?_;have:=hl x<|ph ..;show 0<=(if x.From<=day then x.Rate else a)/\(if x.From<=day then x.Rate else a)<=1048576;split
   ·exact this
   ·exact ha
 exact this l 0 h<|by omega
theorem VM.tZ(h:VM r)(day:Int):0<=Fl r.Rates day/\Fl r.Rates day<=1048576:=Oa λx hx=>⟨(h.rates x hx).2.2.1,(h.rates x hx).2.2.2⟩
theorem VM.bD(h:VM r){d:Int}(ha:0<=a):0<=We r a d/\We r a d<=1049*a:=by
 have h1:=h.tZ d;unfold We;have h2:0<=a*Fl r.Rates d:=ri ha h1.1;have h3:a*Fl r.Rates d<=a*1048576:=rM h1.2 ha;constructor<;>omega
theorem VM.aC(h:VM r){d:Int}(ha:0<=a)(hb:a<=17179869184):0<=a*Fl r.Rates d/\a*Fl r.Rates d<=18014398509481984:=by
 have h1:=h.tZ d;have h3:a*Fl r.Rates d<=a*1048576:=rM h1.2 ha;exact⟨ri ha h1.1,by omega⟩
end
section
open Go.Dec
variable{q p:QF}{l:UV QF}
structure fH(r:Gt)(t:Int)(p:QF):Prop where
 amount:1<=p.Amount/\p.Amount<=17179869184
 id:0<=p.Id/\p.Id<=1073741824
 fro:0<=p.From/\p.From<=15
 tow:0<=p.To/\p.To<=15
 ne:p.From≠p.To
 sent:0<=p.Sent/\p.Sent<=t
 late:t < ZK r p
structure HT(r:Gt)(n:Nat)(t:Int)(s:Acc):Prop where
 bonds:∀i,i < 16->0<=s.B.Bonds i/\s.B.Bonds i<=17179869184
 sums:∀i,i < 16->0<=s.Sums i/\s.Sums i<=t*17179869184
 sorted:s.B.Moving.Pairwise (λp q=>p.Id < q.Id)
 mov:∀p∈s.B.Moving,fH r t p
 known:∀p∈s.B.Moving,p.Id∈s.Ids
 ids:∀i∈s.Ids,0<=i/\i<=1073741824
 mlen:s.B.Moving.length<=n
 ilen:s.Ids.length<=n
 pos:0<=s.B.Made/\0<=s.B.Found/\0<=s.B.Used/\0<=s.B.Exported/\0<=s.B.Lost/\0<=s.B.Charged/\0<=s.B.Paid/\s.B.Paid<=s.B.Due
 made:s.B.Made+s.B.Found<=n*17179869184
 whole:s.B.Used+s.B.Exported+s.B.Lost+s.B.Charged+RM s.B.Bonds 16+Yh QF.Amount s.B.Moving=s.B.Made+s.B.Found
 due:s.B.Due<=1049*(s.B.Used+s.B.Charged)
 out:∀i,16<=i->s.B.Bonds i=0
variable{r:Gt}{n:Nat}{t d:Int}{s:Acc}{x:Ev}{p:QF}
theorem Et(r:Gt):HT r 0 0 B6 where
 bonds:=λi _=>by simp[B6]
 sums:=λi _=>by simp[B6]
 sorted:=List.Pairwise.nil
 mov:=λ_ h=>by cases h
 known:=λ_ h=>by cases h
 ids:=λ_ h=>by cases h
 mlen:=If _
 ilen:=If _
 pos:=by simp[B6]
 made:=by simp[B6]
 whole:=by simp[B6,RM,Yh]
 due:=by simp[B6]
 out:=λi _=>rfl
theorem HT.lim(h:HT r n t s):s.B.Used<=n*17179869184/\s.B.Exported<=n*17179869184/\s.B.Lost<=n*17179869184/\s.B.Charged<=n*17179869184/\s.B.Used+s.B.Charged+Yh QF.Amount s.B.Moving<=n*17179869184/\s.B.Made<=n*17179869184/\s.B.Found<=n*17179869184/\0<=Yh QF.Amount s.B.Moving:=by
 have h1:=h.pos;have h2:=h.made;have h3:=h.whole;have h4:=OE (n:=16) λi hi=>(h.bonds i hi).1;have h5:0<=Yh QF.Amount s.B.Moving:=Gz λp hp=>by have:=(h.mov p hp).amount.1;omega
 refine⟨?_,?_,?_,?_,?_,?_,?_,?_⟩<;>omega
theorem EI(hr:VM r)(h:HT r n t s)(le:t<=d):HT r n d (W7 r t d s) where
 bonds:=h.bonds
 sums:=λi hi=>by
  have h1:=h.sums i hi;have h2:=h.bonds i hi;simp only[W7,hi,OF];have h3:0<=s.B.Bonds i*(d - t):=ri h2.1 (by omega);have h4:s.B.Bonds i*(d - t)<=17179869184*(d - t):=nq h2.2 (by omega);constructor
  ·omega
  ·omega
 sorted:=h.sorted.filter _
 mov:=λp hp=>by
  have h1:=pf.1 hp;have h2:=h.mov p h1.1;exact⟨h2.amount,h2.id,h2.fro,h2.tow,h2.ne,⟨h2.sent.1,by have:=h2.sent.2;omega⟩,by simpa using h1.2⟩
 known:=λp hp=>h.known p (pf.1 hp).1
 ids:=h.ids
 mlen:=rm (mX _ _) h.mlen
 ilen:=h.ilen
 pos:=by
  have h1:=h.pos;have h2:0<=Yh QF.Amount (s.B.Moving.filter λp=> !decide (d < ZK r p)):=Gz λp hp=>by have:=(h.mov p (pf.1 hp).1).amount.1;omega
  have h3:0<=Yh (λp=>We r p.Amount<|ZK r p) (s.B.Moving.filter λp=> !decide (d < ZK r p)):=Gz λp hp=>by have:=(h.mov p (pf.1 hp).1).amount.1;exact(hr.bD<|by omega).1
  simp only[W7];refine⟨?_,?_,?_,?_,?_,?_,?_,?_⟩<;>omega
 made:=h.made
 whole:=by
  have h1:=h.whole;have h2:=Gy (f:=QF.Amount) (c:=λp=>decide<|d < ZK r p) (l:=s.B.Moving);simp only[W7];omega
 due:=by
  have h1:=h.due;have h3:Yh (λp=>We r p.Amount<|ZK r p) (s.B.Moving.filter λp=> !decide (d < ZK r p))<=Yh (λp=>1049*p.Amount) (s.B.Moving.filter λp=> !decide (d < ZK r p)):=Lx λp hp=>by have:=(h.mov p (pf.1 hp).1).amount.1;exact(hr.bD<|by omega).2
  rw[RR] at h3
  simp only[W7];omega
 out:=h.out
theorem kN{u:Int}(h2:u<=d):W7 r u d (W7 r t u s)=W7 r t d s:=by
 have e1:(s.B.Moving.filter λp=>decide<|u < ZK r p).filter (λp=>decide<|d < ZK r p)=s.B.Moving.filter (λp=>decide<|d < ZK r p):=by
  rw[ry];refine pe λp _=> ?_;by_cases h:d < ZK r p
  ·simp[h];omega
  ·simp[h]
 have e2 (f:QF->Int):Yh f (s.B.Moving.filter λp=> !decide (u < ZK r p))+Yh f ((s.B.Moving.filter λp=>decide<|u < ZK r p).filter λp=> !decide (d < ZK r p))=Yh f (s.B.Moving.filter λp=> !decide (d < ZK r p)):=by
  have:=Gy (f:=f) (c:=λp=>decide<|u < ZK r p) (l:=s.B.Moving.filter λp=> !decide (d < ZK r p));rw[ry,ry] at this
  rw[ry,<-this]
  have a1:s.B.Moving.filter (λp=> !decide (u < ZK r p))=s.B.Moving.filter (λp=>(!decide (u < ZK r p))&& !decide (d < ZK r p)):=pe λp _=>by
   by_cases h:u < ZK r p
   ·simp[h]
   ·simp[h];omega
  have a2:s.B.Moving.filter (λp=>(!decide (d < ZK r p))&&decide (u < ZK r p))=s.B.Moving.filter (λp=>decide (u < ZK r p)&& !decide (d < ZK r p)):=pe λp _=>ll _ _;rw[<-a1,a2];omega
 have e3:(λi=>if i < 16 then(if i < 16 then s.Sums i+s.B.Bonds i*(u - t) else s.Sums i)+s.B.Bonds i*(d - u) else(if i < 16 then s.Sums i+s.B.Bonds i*(u - t) else s.Sums i))=(λi=>if i < 16 then s.Sums i+s.B.Bonds i*(d - t) else s.Sums i):=by
  funext i;by_cases h:i < 16
  ·simp only[h,OF];have:s.B.Bonds i*(d - t)=s.B.Bonds i*(u - t)+s.B.Bonds i*(d - u):=by rw[<-eG];congr 1;omega
   omega
  ·simp only[h,PP]
 have e4:=e2 QF.Amount;have e5:=e2 λp=>We r p.Amount<|ZK r p;simp only[W7,e1];rw[e3,lk,e4,lk,e5]
theorem yk(h:Xa x=true):0<=x.Day/\x.Day<=65536:=by
 unfold Xa at h;simp only[TO,Yg] at h;exact h.1
theorem De(h:Xa x=true)(hk:x.Kind=0∨x.Kind=3∨x.Kind=4):(0<=x.Bond/\x.Bond<=15)/\1<=x.Amount/\x.Amount<=17179869184:=by
 unfold Xa at h
 have:(x.Kind==0||x.Kind==3||x.Kind==4)=true:=by rcases hk with e | e | e<;>simp[e]
 rw[this] at h
 simpa[Yg,Bn] using(nD.1 h).2
theorem zW(h:Xa x=true)(hk:x.Kind=1):(0<=x.Bond/\x.Bond<=15)/\(0<=x.To/\x.To<=15)/\(0<=x.Id/\x.Id<=1073741824)/\1<=x.Amount/\x.Amount<=17179869184:=by
 unfold Xa at h
 simp only[hk] at h
 simpa[Yg,Bn,ln] using(nD.1 h).2
theorem NL(h:Xa x=true)(hk:x.Kind=2):(0<=x.Bond/\x.Bond<=15)/\(0<=x.Id/\x.Id<=1073741824)/\0<=x.Amount/\x.Amount<=17179869184:=by
 unfold Xa at h
 simp only[hk] at h
 simpa[Yg,Bn,ln] using(nD.1 h).2
theorem zV(h:Xa x=true)(hk:x.Kind=5):(0<=x.Bond/\x.Bond<=15)/\0<=x.Amount/\x.Amount<=17179869184:=by
 unfold Xa at h
 simp only[hk] at h
 simpa[Yg,Bn,ln] using(nD.1 h).2
theorem yj(h:Xa x=true)(hk:x.Kind=6):1<=x.Amount/\x.Amount<=72057594037927936:=by
 unfold Xa at h
 simp only[hk] at h
 simpa[Yg,Bn,ln] using(nD.1 h).2
theorem IC(h:Xa x=true):x.Kind=0∨x.Kind=1∨x.Kind=2∨x.Kind=3∨x.Kind=4∨x.Kind=5∨x.Kind=6:=by
 unfold Xa at h
 have h2:=(nD.1 h).2;by_cases h0:x.Kind=0
 ·exact .inl h0
 by_cases h1:x.Kind=1
 ·exact .inr<|.inl h1
 by_cases h3:x.Kind=2
 ·exact .inr<|.inr<|.inl h3
 by_cases h4:x.Kind=3
 ·exact .inr<|.inr<|.inr<|.inl h4
 by_cases h5:x.Kind=4
 ·exact .inr<|.inr<|.inr<|.inr<|.inl h5
 by_cases h6:x.Kind=5
 ·exact .inr<|.inr<|.inr<|.inr<|.inr<|.inl h6
 by_cases h7:x.Kind=6
 ·exact .inr<|.inr<|.inr<|.inr<|.inr<|.inr h7
 ·simp[h0,h1,h3,h4,h5,h6,h7] at h2
theorem CP:∀{l:UV QF},(BA q l).Perm (q::l)
 | []=>.refl _
 | y::l=>by
  simp only[BA];split
  ·exact(CP.cons y).trans<|.swap _ _ _
  ·exact .refl _
theorem EX{y:QF}:y∈BA q l↔y=q∨y∈l:=by
 rw[CP.mem_iff,y1]
theorem FD:∀{l:UV QF},l.Pairwise (λp q=>p.Id < q.Id)->(∀p∈l,p.Id≠q.Id)->(BA q l).Pairwise (λp q=>p.Id < q.Id)
 | [],_,_=>by simp[BA]
 | y::l,h,hn=>by
  have hy:=aT.1 h;simp only[BA];split
  ·rename_i hlt;refine aT.2 ⟨λa ha=> ?_,FD hy.2 λp hp=>hn p<|bY _ hp⟩;rcases EX.1 ha with rfl | ha
   ·exact hlt
   ·exact hy.1 a ha
  ·rename_i hlt;have:=hn y<|ph ..;refine aT.2 ⟨λa ha=> ?_,h⟩;rcases y1.1 ha with rfl | ha
   ·omega
   ·have:=hy.1 a ha;omega
theorem uK(h:l.Pairwise (λp q=>p.Id < q.Id))(hp:p∈l)(hq:q∈l)(e:p.Id=q.Id):p=q:=by
 induction l with
 | nil=>cases hp
 | cons y l ih=>
  have hy:=aT.1 h;rcases y1.1 hp with rfl | hp1<;>rcases y1.1 hq with rfl | hq1
  ·rfl
  ·have:=hy.1 q hq1;omega
  ·have:=hy.1 p hp1;omega
  ·exact ih hy.2 hp1 hq1
theorem Oj{i:Int}(h:l.Pairwise (λp q=>p.Id < q.Id))(hf:l.find? (λq=>q.Id==i)=some p):p∈l/\p.Id=i/\l.Perm (p::l.filter (λq=> !(q.Id==i))):=by
 have hm:=re hf;have hi:p.Id=i:=by simpa using List.find?_some hf
 refine⟨hm,hi,?_⟩
 induction l with
 | nil=>cases hm
 | cons y l ih=>
  have hy:=aT.1 h;rw[rk] at hf
  by_cases e:y.Id=i
  ·have:(y.Id==i)=true:=by simpa using e
   rw[this] at hf;simp only[BY] at hf;subst hf
   have:l.filter (λq=> !(q.Id==i))=l:=rX.2 λq hq=>by have:=hy.1 q hq;simp;omega
   rw[pz,this];simp[e]
  ·have e' :(y.Id==i)=false:=by simpa using e
   rw[e'] at hf
   have hm' :=re hf;rw[pz,e'];simp only[tO,OF];exact((ih hy.2 hf hm').cons y).trans<|.swap _ _ _
end
section
open Go.Dec
variable{r:Gt}{n:Nat}{t d:Int}{s s' :Acc}{x:Ev}{p:QF}
theorem Hc{f:Nat->Int}{j:Nat}{v M:Int}(h:∀i,i < 16->0<=f i/\f i<=M)(hv:0<=v/\v<=M):∀i,i < 16->0<=ZL f j v i/\ZL f j v i<=M:=λi hi=>by
 by_cases e:i=j
 ·subst e;rw[WE];exact hv
 ·rw[XP e];exact h i hi
theorem C8{f:Nat->Int}{j:Nat}{v:Int}(h:∀i,16<=i->f i=0)(hj:j < 16):∀i,16<=i->ZL f j v i=0:=λi hi=>by
 rw[XP<|by omega];exact h i hi
theorem Fv(h:0<=x.Bond/\x.Bond<=15):x.Bond.toNat < 16:=by omega
theorem Tl{a b:Int}:(Je a b=a/\a<=b)∨(Je a b=b/\b<=a):=by unfold Je;split<;>omega
theorem Gq{a b:Int}:(imax a b=a/\b<=a)∨(imax a b=b/\a<=b):=by unfold imax;split<;>omega
theorem ko(h:HT r n t s)(hb:0<=x.Bond/\x.Bond<=15)(ha:1<=x.Amount/\x.Amount<=17179869184)(hd:SN s x= .inl s'):HT r (n+1) t s' :=by
 unfold SN at hd
 split at hd
 ·cases hd
 ·rename_i hlim;simp only[rE] at hd
  subst hd;have hj:=Fv hb;have h0:=h.bonds _ hj;have hs:=Gx (f:=s.B.Bonds) (v:=Zp s x+x.Amount) hj;unfold Zp at hlim hs
  have hp:=h.pos;have hm:=h.made;have hw:=h.whole;have hdu:=h.due;have h1:=h.mlen;have h2:=h.ilen
  exact{
   bonds:=Hc h.bonds (by unfold Zp;omega),sums:=h.sums,sorted:=h.sorted,mov:=h.mov,known:=h.known,ids:=h.ids
   mlen:=by show s.B.Moving.length<=_;omega
   ilen:=by show s.Ids.length<=_;omega
   pos:=by simp only[Uf];omega
   made:=by simp only[Uf];omega
   whole:=by simp only[Uf,Zp];omega
   due:=hdu
   out:=C8 h.out hj}
theorem vi(h:HT r n t s)(hb:0<=x.Bond/\x.Bond<=15)(hto:0<=x.To/\x.To<=15)(hid:0<=x.Id/\x.Id<=1073741824)(ha:1<=x.Amount/\x.Amount<=17179869184)(hr:VM r)(hday:x.Day=t)(h0t:0<=t)(hd:Ml s x= .inl s'):HT r (n+1) t s' :=by
 unfold Ml at hd
 split at hd
 ·cases hd
 ·rename_i hne;split at hd
  ·cases hd
  ·rename_i hid';split at hd
   ·cases hd
   ·rename_i hlim;simp only[rE] at hd
    subst hd;have hne' :x.Bond≠x.To:=by simpa using hne
    have hnew:x.Id∉s.Ids:=by simpa using hid'
    have hj:=Fv hb;have h0:=h.bonds _ hj;have hs:=Gx (f:=s.B.Bonds) (v:=Zp s x - x.Amount) hj;unfold Zp at hlim hs
    have hp:=h.pos;have hm:=h.made;have hw:=h.whole;have hdu:=h.due;have h1:=h.mlen;have h2:=h.ilen;have hf:Yh QF.Amount (BA (I9 x) s.B.Moving)=x.Amount+Yh QF.Amount s.B.Moving:=(DP CP).trans rfl;have hl:(BA (I9 x) s.B.Moving).length=s.B.Moving.length+1:=CP.length_eq;have ht:=hr.transit
    exact{
     bonds:=Hc h.bonds (by unfold Zp;omega),sums:=h.sums
     sorted:=FD h.sorted λp hp e=>hnew (by have:=h.known p hp;rw[e] at this;exact this)
     mov:=λp hp=>by
      rcases EX.1 hp with rfl | hp
      ·exact⟨ha,hid,hb,hto,hne',⟨by show 0<=x.Day;omega,by show x.Day<=t;omega⟩,by show t < x.Day+r.Transit+1;omega⟩
      ·exact h.mov p hp
     known:=λp hp=>by
      show p.Id∈s.Ids++[x.Id];rcases EX.1 hp with rfl | hp
      ·simp[I9]
      ·exact eE _<|h.known p hp
     ids:=λi hi=>by
      have hi:i∈s.Ids++[x.Id]:=hi;rcases ra.1 hi with hi | hi
      ·exact h.ids i hi
      ·simp only[rP] at hi;subst hi;exact hid
     mlen:=by simp only;omega
     ilen:=by simp only[pV,nO];omega
     pos:=by simp only[Uf];omega
     made:=by simp only[Uf];omega
     whole:=by simp only[Uf,Zp];omega
     due:=hdu
     out:=C8 h.out hj}
theorem we(h:HT r n t s)(hb:0<=x.Bond/\x.Bond<=15)(ha:0<=x.Amount/\x.Amount<=17179869184)(hr:VM r)(hp:s.B.Moving.find? (λq=>q.Id==x.Id)=some p)(hlim:¬Zp s x+x.Amount > 17179869184):HT r (n+1) t (O4 r s x p):=by
 obtain⟨hmem,hid,hperm⟩:=Oj h.sorted hp;have hpk:=h.mov p hmem;have hj:=Fv hb;have h0:=h.bonds _ hj;have hs:=Gx (f:=s.B.Bonds) (v:=Zp s x+x.Amount) hj;unfold Zp at hlim hs
 have hpo:=h.pos;have hm:=h.made;have hw:=h.whole;have hdu:=h.due;have h1:=h.mlen;have h2:=h.ilen;have hf:Yh QF.Amount s.B.Moving=p.Amount+Yh QF.Amount (s.B.Moving.filter λq=> !(q.Id==x.Id)):=(DP hperm).trans rfl;have hal:0<=p.Amount*r.Loss / 10000:=lW (ri (by have:=hpk.amount;omega) hr.loss.1) (by omega);have e1:=Gq (a:=0) (b:=p.Amount - x.Amount);have e2:=Gq (a:=0) (b:=x.Amount - p.Amount);have e3:=Tl (a:=imax 0<|p.Amount - x.Amount) (b:=p.Amount*r.Loss / 10000);have hpa:=hpk.amount;have hdt:=hr.bD (a:=imax 0 (p.Amount - x.Amount) - Je (imax 0<|p.Amount - x.Amount) (p.Amount*r.Loss / 10000)) (d:=x.Day)<|by omega
 exact{
  bonds:=Hc h.bonds (by unfold Zp;omega),sums:=h.sums
  sorted:=h.sorted.filter _
  mov:=λp hp=>h.mov p (pf.1 hp).1
  known:=λp hp=>h.known p (pf.1 hp).1
  ids:=h.ids
  mlen:=by
   have:=mX (λq:QF=> !(q.Id==x.Id)) s.B.Moving;simp only[O4,Bg,Uf];omega
  ilen:=by show s.Ids.length<=_;omega
  pos:=by simp only[O4,Bg,Uf];omega
  made:=by simp only[O4,Bg,Uf];omega
  whole:=by simp only[O4,Bg,Uf,Zp];omega
  due:=by simp only[O4,Bg,Uf];omega
  out:=C8 h.out hj}
theorem va(h:HT r n t s)(hb:0<=x.Bond/\x.Bond<=15)(ha:0<=x.Amount/\x.Amount<=17179869184)(hr:VM r)(h0t:0<=t):HT r (n+1) t (PK r s x):=by
 have hj:=Fv hb;have h0:=h.bonds _ hj;have hs:=Gx (f:=s.B.Bonds) (v:=x.Amount) hj;have hpo:=h.pos;have hm:=h.made;have hw:=h.whole;have hdu:=h.due;have h1:=h.mlen;have h2:=h.ilen;have hal:0<=s.Sums x.Bond.toNat*r.Share / 3650000:=lW (ri (h.sums _ hj).1 hr.share.1) (by omega);have e1:=Gq (a:=0) (b:=Zp s x - x.Amount);have e2:=Gq (a:=0) (b:=x.Amount - Zp s x);have e3:=Tl (a:=imax 0<|Zp s x - x.Amount) (b:=s.Sums x.Bond.toNat*r.Share / 3650000);have hdt:=hr.bD (a:=imax 0 (Zp s x - x.Amount) - Je (imax 0<|Zp s x - x.Amount) (s.Sums x.Bond.toNat*r.Share / 3650000)) (d:=x.Day) (by omega);have hh:Zp s x=s.B.Bonds x.Bond.toNat:=rfl
 exact{
  bonds:=Hc h.bonds<|by omega
  sums:=Hc h.sums ⟨pn _,ri h0t<|by omega⟩
  sorted:=h.sorted
  mov:=h.mov
  known:=h.known
  ids:=h.ids
  mlen:=by show s.B.Moving.length<=_;omega
  ilen:=by show s.Ids.length<=_;omega
  pos:=by simp only[PK,Bg,Uf];omega
  made:=by simp only[PK,Bg,Uf];omega
  whole:=by simp only[PK,Bg,Uf];omega
  due:=by simp only[PK,Bg,Uf];omega
  out:=C8 h.out hj}
theorem I2(h:HT r n t s)(hb:0<=x.Bond/\x.Bond<=15)(ha:1<=x.Amount/\x.Amount<=17179869184)(hr:VM r)(hd:DV r s x= .inl s'):HT r (n+1) t s' :=by
 unfold DV at hd
 split at hd
 ·cases hd
 ·rename_i hlim;simp only[rE] at hd
  subst hd;have hj:=Fv hb;have h0:=h.bonds _ hj;have hs:=Gx (f:=s.B.Bonds) (v:=Zp s x - x.Amount) hj;unfold Zp at hlim hs
  have hp:=h.pos;have hm:=h.made;have hw:=h.whole;have hdu:=h.due;have h1:=h.mlen;have h2:=h.ilen;have hdt:=hr.bD (a:=x.Amount) (d:=x.Day)<|by omega
  exact{
   bonds:=Hc h.bonds (by unfold Zp;omega),sums:=h.sums,sorted:=h.sorted,mov:=h.mov,known:=h.known,ids:=h.ids
   mlen:=by show s.B.Moving.length<=_;omega
   ilen:=by show s.Ids.length<=_;omega
   pos:=by simp only[Lw,Uf];omega
   made:=by simp only[Lw,Uf];omega
   whole:=by simp only[Lw,Uf,Zp];omega
   due:=by simp only[Lw,Uf];omega
   out:=C8 h.out hj}
theorem ki(h:HT r n t s)(hb:0<=x.Bond/\x.Bond<=15)(ha:1<=x.Amount/\x.Amount<=17179869184)(hd:SL s x= .inl s'):HT r (n+1) t s' :=by
 unfold SL at hd
 split at hd
 ·cases hd
 ·rename_i hlim;simp only[rE] at hd
  subst hd;have hj:=Fv hb;have h0:=h.bonds _ hj;have hs:=Gx (f:=s.B.Bonds) (v:=Zp s x - x.Amount) hj;unfold Zp at hlim hs
  have hp:=h.pos;have hm:=h.made;have hw:=h.whole;have hdu:=h.due;have h1:=h.mlen;have h2:=h.ilen
  exact{
   bonds:=Hc h.bonds (by unfold Zp;omega),sums:=h.sums,sorted:=h.sorted,mov:=h.mov,known:=h.known,ids:=h.ids
   mlen:=by show s.B.Moving.length<=_;omega
   ilen:=by show s.Ids.length<=_;omega
   pos:=by simp only[Uf];omega
   made:=by simp only[Uf];omega
   whole:=by simp only[Uf,Zp];omega
   due:=hdu
   out:=C8 h.out hj}
theorem wQ(h:HT r n t s)(ha:1<=x.Amount)(hd:kM s x= .inl s'):HT r (n+1) t s' :=by
 unfold kM at hd
 split at hd
 ·cases hd
 ·rename_i hlim;simp only[rE] at hd
  subst hd;have hp:=h.pos;have hm:=h.made;have h1:=h.mlen;have h2:=h.ilen
  exact{
   bonds:=h.bonds,sums:=h.sums,sorted:=h.sorted,mov:=h.mov,known:=h.known,ids:=h.ids
   mlen:=by show s.B.Moving.length<=_;omega
   ilen:=by show s.Ids.length<=_;omega
   pos:=by simp only[];omega
   made:=by simp only[];omega
   whole:=h.whole
   due:=h.due
   out:=h.out}
theorem yr(hr:VM r)(h:HT r n t s)(h0t:0<=t)(he:Xa x=true)(hday:x.Day=t)(hd:FX r s x= .inl s'):HT r (n+1) t s' :=by
 unfold FX at hd
 rcases IC he with k | k | k | k | k | k | k<;>simp only[k,rh,Int.reduceEq,OF,PP] at hd
 ·have e:=De he<|.inl k;exact ko h e.1 e.2 hd
 ·have e:=zW he k;exact vi h e.1 e.2.1 e.2.2.1 e.2.2.2 hr hday h0t hd
 ·have e:=NL he k;unfold CF at hd
  split at hd
  ·cases hd
  ·rename_i p hp;split at hd
   ·cases hd
   ·split at hd
    ·cases hd
    ·rename_i hlim;simp only[rE] at hd;subst hd;exact we h e.1 e.2.2 hr hp hlim
 ·have e:=De he<|.inr<|.inl k;exact I2 h e.1 e.2 hr hd
 ·have e:=De he<|.inr<|.inr k;exact ki h e.1 e.2 hd
 ·have e:=zV he k;simp only[rE] at hd;subst hd;exact va h e.1 e.2 hr h0t
 ·have e:=yj he k;exact wQ h e.1 hd
theorem Ah{c c' :AY}(hr:VM r)(h:HT r n c.day c.acc)(_h0:0<=c.day)(hs:Up r c x= .inl c'):HT r (n+1) c'.day c'.acc/\c.day<=c'.day/\c'.day=x.Day/\Xa x=true:=by
 unfold Up at hs
 split at hs
 ·cases hs
 ·rename_i he;split at hs
  ·cases hs
  ·rename_i hlt;split at hs
   ·rename_i a ha;simp only[rE] at hs
    subst hs;have he' :Xa x=true:=by simpa using he
    exact⟨yr hr (EI hr h<|show c.day<=x.Day by omega) (by have:=(yk he').1;exact this) he' rfl ha,by show c.day<=x.Day;omega,rfl,he'⟩
   ·cases hs
end
section
open Go.Dec
variable{r:Gt}{n:Nat}{t d:Int}{s s' :Acc}{x:Ev}{p:QF}
theorem Af{i:Nat}(h:i<=4294967296):ZC ((i:Int)+1)=((i+1:Nat):Int):=by rw[Qq (by omega)<|by omega];rfl
theorem yo(hr:VM r){a:Int}(ha:0<=a)(hb:a<=17179869184)(day:Int):ZC (Int.tdiv (ZC<|a*Fl r.Rates day) 1000)=We r a day:=by
 have h:=hr.aC (d:=day) ha hb;rw[Qq (n:=a*Fl r.Rates day) (by omega) (by omega),rz h.1];unfold We;rw[Qq (by omega)<|by omega]
end
section
open Go.Dec
variable{r:Gt}{n:Nat}{t d:Int}{s s' :Acc}{x:Ev}{p:QF}
theorem RS{f g:QF->Int}:∀{l:UV QF},(∀p∈l,f p=g p)->Yh f l=Yh g l
 | [],_=>rfl
 | p::l,h=>by simp only[Yh];rw[h p<|ph ..,RS (l:=l) λq hq=>h q<|bY _ hq]
def EU(r:Gt)(next:Int)(s:Acc)(pre post:UV QF):Acc:={s with B:={s.B with Moving:=pre++post.filter (λp=> !(ZK r p==next)),Used:=s.B.Used+Yh QF.Amount (post.filter λp=>ZK r p==next),Due:=s.B.Due+Yh (λp=>We r p.Amount next) (post.filter λp=>ZK r p==next)}}
end
section
open Go.Dec
variable{r:Gt}{n:Nat}{t d:Int}{s s' :Acc}{x:Ev}{p:QF}
def kQ(s:Acc):Acc ⊕ Int->Acc×Int
 | .inl a=>(a,0)
 | .inr e=>(s,e)
theorem CQ(h:0<=x.Bond/\x.Bond<=15):Yj 16 x.Bond=some x.Bond.toNat:=by unfold Yj;rw[T2<|by omega]
theorem Xu(h:HT r n t s)(hb:0<=x.Bond/\x.Bond<=15):0<=Zp s x/\Zp s x<=17179869184:=h.bonds _<|Fv hb
end
section
open Go.Dec
variable{day:Int}
variable{r:Gt}{n:Nat}{t d:Int}{s s' :Acc}{x:Ev}{p:QF}
theorem Gr(n a b:Int):ZN n a b=Wt n a b:=by unfold ZN Wt;exact rfl
theorem Tq(n:Int):Kc n=Wt n 0 65536:=by unfold Kc;exact Gr ..
theorem uQ(n:Int):Zi n=Bn n:=by unfold Zi Bn;exact Gr ..
theorem Sv(r:Gt)(hl:r.Rates.length<=1000000):∀(k i:Nat) (last:Int),i+k=r.Rates.length->
  ZW (J1 r) (last,(i:Int))=some (if Gc last (r.Rates.drop i) then .inl () else .inr false)
 | 0,i,last,hi=>by
  have:J1 r (last,(i:Int))=some (.done<|.inl ()):=by unfold J1;rw[RW (by simp;omega)]
  rw[ZQ,pQ (by omega),this];rfl
 | k+1,i,last,hi=>by
  have hil:i < r.Rates.length:=by omega
  have hx:r.Rates[i]? =some r.Rates[i]:=by simp[hil]
  have step:J1 r (last,(i:Int))=some (if Wt r.Rates[i].From 0 65536&&decide (last < r.Rates[i].From)&&Wt r.Rates[i].Rate 0 1048576 then .next (r.Rates[i].From,((i+1:Nat):Int)) else .done (.inr false)):=by
   unfold J1;rw[T2 (by simp;omega)];simp only[KI,hx,DO,Gr,Tq,Af (by omega:i<=4294967296)];by_cases c1:Wt r.Rates[i].From 0 65536=true
   case neg=>simp only[pT] at c1;simp[c1]
   case pos=>
    by_cases c2:Wt r.Rates[i].Rate 0 1048576=true
    case neg=>simp only[pT] at c2;simp[c1,c2]
    case pos=>
     by_cases c3:r.Rates[i].From<=last
     ·have:decide (last < r.Rates[i].From)=false:=by simp;omega
      simp[c1,c2,c3,this]
     ·have:decide (last < r.Rates[i].From)=true:=by simp;omega
      simp[c1,c2,c3,this]
  rw[ZQ,pR hil,step];by_cases hc:(Wt r.Rates[i].From 0 65536&&decide (last < r.Rates[i].From)&&Wt r.Rates[i].Rate 0 1048576)=true
  case neg=>simp only[pT] at hc;simp[Gc,hc]
  case pos=>
   simp only[Gc,hc,OF,rL];exact Sv r hl k (i+1) r.Rates[i].From<|by omega
theorem Su(hl:r.Rates.length<=1000000):Vq r=some (G6 r):=by
 unfold Vq G6;have hloop:=Sv r hl r.Rates.length 0 (-1) (by omega);simp only[pb,mC] at hloop
 simp only[QT,Gr,Tq];refine ZM hloop ?_;by_cases ho:Gc (-1) r.Rates=true
 case neg=>simp only[pT] at ho;simp[ho]
 case pos=>
  simp only[ho,OF,nN];by_cases h1:Wt (r.Rates.length:Int) 1 64=true
  case neg=>simp only[pT] at h1;simp[h1]
  case pos=>
   have hl1:=Yg.1 h1
   obtain⟨y,l,e⟩:∃y l,r.Rates=y::l:=by
    cases hr:r.Rates with
    | nil=>rw[hr] at hl1;simp at hl1
    | cons y l=>exact⟨y,l,rfl⟩
   have hx:Za r.Rates 0=some y:=by
    have:=KI r.Rates 0;rw[e] at this ⊢;exact this
   have hm:Ed r.Rates=(y.From==0):=by rw[e];rfl
   simp only[h1,OF,hx,DO,hm,rL]
theorem D9(x:Ev):WL x=some (Xa x):=by
 unfold WL Xa;simp only[Gr,Tq,uQ,QT]
 have h0:(Wt x.Amount 1 17179869184||x.Amount==0)=Wt x.Amount 0 17179869184:=by
  rw[ng];simp[Wt];omega
 rw[h0];by_cases h1:Wt x.Day 0 65536=true
 case neg=>simp only[pT] at h1;simp[h1]
 case pos=>
  simp only[h1,wt,By,PP,rL];by_cases k0:(x.Kind==0)=true
  ·simp[k0]
  ·simp only[pT] at k0
   by_cases k3:(x.Kind==3)=true
   ·simp[k0,k3]
   ·simp only[pT] at k3
    by_cases k4:(x.Kind==4)=true
    ·simp[k0,k3,k4]
    ·simp only[pT] at k4
     simp only[k0,k3,k4,ny,By,PP,DO];by_cases k1:(x.Kind==1)=true
     ·rw[T2 k1,T2 k1]
     ·rw[RW k1,RW k1];by_cases k2:(x.Kind==2)=true
      ·rw[T2 k2,T2 k2]
      ·rw[RW k2,RW k2];by_cases k5:(x.Kind==5)=true
       ·rw[T2 k5,T2 k5]
       ·rw[RW k5,RW k5];by_cases k6:(x.Kind==6)=true
        ·rw[T2 k6,T2 k6]
        ·rw[RW k6,RW k6]
theorem yY{m:Int}(h0:0<=m)(h1:m<=2000000):ZC (z6 .u64 (IntKind.u64.wrap<|ZC m) 1)=m / 2:=by
 rw[Qq (n:=m) (by omega)<|by omega];have e:IntKind.u64.bits=64:=rfl
 have hw:IntKind.u64.wrap m=m:=by
  simp only[IntKind.wrap,e];simp[IntKind.signed];omega
 rw[hw]
 have hs:z6 .u64 m 1=m / 2:=by
  unfold z6;have:(2:Int)^(min (Int.toNat 1) IntKind.u64.bits)=2:=by decide
  rw[this,Int.fdiv_eq_ediv_of_nonneg _<|by omega]
 rw[hs,Qq (by omega)<|by omega]
def WG(l:UV Zy)(day:Int):Nat:=(l.takeWhile λx=>decide<|x.From<=day).length
theorem DW{day:Int}:∀{l:UV Zy},l.Pairwise (λx y=>x.From < y.From)->WG l day<=l.length/\(∀i x,l[i]? =some x->(x.From<=day↔i < WG l day))
 | [],_=>⟨If _,λi x h=>by simp at h⟩
 | y::l,h=>by
  have hy:=aT.1 h;have ih:=DW (day:=day) hy.2;unfold WG at ih ⊢
  rw[nW];by_cases hc:y.From<=day
  ·simp only[hc,pv,OF,s5];refine⟨by omega,λi x hx=> ?_⟩;cases i with
   | zero=>simp at hx;subst hx;simp[hc]
   | succ i=>
    simp only[px] at hx
    have:=ih.2 i x hx;omega
  ·simp only[hc,pw,By,PP,pS];refine⟨mK _,λi x hx=> ?_⟩;cases i with
   | zero=>simp at hx;subst hx;omega
   | succ i=>
    simp only[px] at hx
    have:=hy.1 x<|s7 hx;omega
theorem Mv:∀{l:UV Zy} (a:Int),l.Pairwise (λx y=>x.From < y.From)->l.foldl (λown x=>if x.From<=day then x.Rate else own) a=if WG l day=0 then a else match l[WG l day - 1]? with | some x=>x.Rate | none=>a
 | [],a,_=>rfl
 | y::l,a,h=>by
  have hy:=aT.1 h;have hsp:=DW (day:=day) h;rw[nv,Mv _ hy.2];have hrl:=(DW (day:=day) hy.2).1;by_cases hc:y.From<=day
  ·have e:WG (y::l) day=WG l day+1:=by unfold WG;rw[nW];simp[hc]
   rw[e];simp only[hc,OF,Nat.add_one_ne_zero,PP,Nat.add_sub_cancel];by_cases h0:WG l day=0
   ·rw[T2 h0,h0];rfl
   ·rw[RW h0];have:WG l day=(WG l day - 1)+1:=by omega
    conv=>rhs;rw[this,px]
    have hlt:WG l day - 1 < l.length:=by omega
    rw[Rw hlt]
  ·have e:WG (y::l) day=0:=by unfold WG;rw[nW];simp[hc]
   have e2:WG l day=0:=by
    cases hl:l with
    | nil=>rfl
    | cons z l' =>
     unfold WG;rw[nW];have:=hy.1 z (by rw[hl];simp);have:¬z.From<=day:=by omega
     simp[this]
   rw[T2 e2,T2 e,RW hc]
theorem OP(hr:VM r):Xf (r.Rates.length:Int) (λx=>YE x r day)=some (WG r.Rates day:Int):=by
 have hsp:=DW (day:=day) hr.sorted;have hlen:=hr.len
 have key:=Ox (body:=Uo λx=>YE x r day) (λs:Int×Int=>0<=s.1/\s.1<=WG r.Rates day/\(WG r.Rates day:Int)<=s.2/\s.2<=r.Rates.length) (λs=>(s.2 - s.1).toNat) (λb=>b=(WG r.Rates day:Int)) λs hs=>by
  obtain⟨i,j⟩:=s;obtain⟨h1,h2,h3,h4⟩:=hs;simp only at h1 h2 h3 h4
  by_cases hc:i < j
  ·left;have hh:=yY (m:=i+j) (by omega) (by omega);have hm0:i<=(i+j) / 2:=by omega
   have hm1:(i+j) / 2 < j:=by omega
   obtain⟨y,hy1,hy2⟩:=uJ (l:=r.Rates) (i:=(i+j) / 2) (by omega) (by omega);have hf:YE ((i+j) / 2) r day=some (decide<|y.From > day):=by unfold YE;rw[hy1];rfl
   have hiff:=hsp.2 _ y hy2;by_cases hg:y.From > day
   ·refine⟨(i,(i+j) / 2),?_,⟨by simp only;omega,by simp only;omega,?_,by simp only;omega⟩,by simp only;omega⟩
    ·unfold Uo;rw[T2<|by simpa using hc];simp only[hh,QT,hf,DO,hg,pv,wt,By,PP]
    ·simp only;omega
   ·refine⟨((i+j) / 2+1,j),?_,⟨by simp only;omega,?_,by simp only;omega,by simp only;omega⟩,by simp only;omega⟩
    ·unfold Uo;rw[T2<|by simpa using hc];simp only[hh,QT,hf,DO,hg,pw,tO,OF];rw[Qq (n:=(i+j) / 2+1) (by omega)<|by omega]
    ·simp only;omega
  ·right;refine⟨i,?_,by omega⟩;unfold Uo;rw[RW<|by simpa using hc]
 obtain⟨b,hb,hq⟩:=key r.Rates.length (0,(r.Rates.length:Int)) (by simp) ⟨by simp,by simp,by simp;exact hsp.1,by simp⟩;unfold Xf;rw[hb,hq];rfl
theorem Tt(hr:VM r){a:Int}(ha:0<=a)(hb:a<=17179869184)(hd:0<=day):Uy r a day=some (We r a day):=by
 have hsp:=DW (day:=day) hr.sorted;have hlen:=hr.len;obtain⟨y,l,e,e0⟩:=hr.first;have h1:0 < WG r.Rates day:=(hsp.2 0 y (by rw[e];rfl)).1 (by omega);have hlt:WG r.Rates day - 1 < r.Rates.length:=by omega
 have hx:r.Rates[WG r.Rates day - 1]? =some r.Rates[WG r.Rates day - 1]:=Rw hlt
 have hrate:Fl r.Rates day=r.Rates[WG r.Rates day - 1].Rate:=by
  unfold Fl;rw[Mv _ hr.sorted,RW (by omega),hx]
 unfold Uy;refine ZM (OP hr) ?_;have hw:ZC ((WG r.Rates day:Int) - 1)=((WG r.Rates day - 1:Nat):Int):=by rw[Qq (by omega)<|by omega];omega
 simp only[QT,hw,KI,hx,DO,<-hrate];rw[yo hr ha hb]
end
section
open Go.Dec
variable{l:UV QF}{i:Int}
variable{r:Gt}{n:Nat}{t d:Int}{s s' :Acc}{x:Ev}{p:QF}
abbrev PM:=UV<|UV<|Int×QF
abbrev KM:=UV<|UV<|Int×Bool
def FC(p:QF):Int×QF:=(p.Id,p)
def Kv(r:Gt)(t:Int)(s:Acc):QD:=⟨r,{s.B with Moving:=[]},some 0,some 0,s.Sums,t⟩
structure PR(r:Gt)(t:Int)(s:Acc)(A1:List QD)(A2:PM)(A3:KM):Prop where
 o:A1=[Kv r t s]
 m:∃m,A2=[m]/\m.Perm (s.B.Moving.map FC)
 k:∃k rest,A3=k::rest/\(k.map Prod.fst).Nodup/\∀i,(Qa k i).getD false=s.Ids.contains i
theorem FB(h:l.Pairwise (λp q=>p.Id < q.Id)):((l.map FC).map Prod.fst).Nodup:=by
 have:(l.map FC).map Prod.fst=l.map QF.Id:=by rw[nx];rfl
 rw[this];rw[List.Nodup,lH];exact h.imp λh=>lz h
theorem zQ:∀{l:UV QF},Qa (l.map FC) i=l.find? (λq=>q.Id==i)
 | []=>rfl
 | q::l=>by
  simp only[s6,FC,Qa,rk];by_cases h:i=q.Id
  ·subst h;simp
  ·have h1:(i==q.Id)=false:=by simpa using h
   have h2:(q.Id==i)=false:=by simpa using Ne.symm h
   simp only[h1,h2,By,PP];exact zQ
theorem O5{m:UV (Int×QF)}(hs:l.Pairwise (λp q=>p.Id < q.Id))(h:m.Perm (l.map FC)):Qa m i=l.find? (λq=>q.Id==i):=by
 rw[Vc h<|FB hs,zQ]
theorem qQ:(l.map FC).filter (λx=> !(i==x.1))=(l.filter λq=> !(q.Id==i)).map FC:=by
 rw[lV];congr 1;refine pe λq _=> ?_;show(!(i==q.Id))= !(q.Id==i);rw[Bool.beq_comm]
theorem yt{m:UV (Int×QF)}(hs:l.Pairwise (λp q=>p.Id < q.Id))(h:m.Perm (l.map FC)):(Jx m i).Perm ((l.filter λq=> !(q.Id==i)).map FC):=by
 have h1:=CM (k:=i) h<|FB hs
 rwa[Wm<|FB hs,qQ] at h1
abbrev xt:=Out Zm<|UV QD×PM×KM
def Xb(r:Gt)(t:Int)(out:Acc ⊕ Int)(q:H1 xt):Prop:=match out with
 | .inl s' =>∃A1 A2 A3,q=some (.ok (A1,A2,A3))/\PR r t s' A1 A2 A3
 | .inr e=>q=some (.pan ⟨e⟩)
theorem CL(e:Int):JE true e=some (.ok ()):=rfl
theorem Tb(e:Int):JE false e=some (.pan ⟨e⟩):=rfl
theorem Uv{ε α β:Type}{e:H1 (Out ε α)}{gp:ε->H1 β}{g:α->H1 β}{x:α}(h:e=some (.ok x)):Qu e gp g=g x:=by rw[h];rfl
theorem Un{ε α β:Type}{e:H1 (Out ε α)}{gp:ε->H1 β}{g:α->H1 β}{x:ε}(h:e=some (.pan x)):Qu e gp g=gp x:=by rw[h];rfl
variable{A1:UV QD}{A2:PM}{A3:KM}
theorem Mq(h:HT r n t s)(hp:PR r t s A1 A2 A3)(hb:0<=x.Bond/\x.Bond<=15)(ha:0<=x.Amount/\x.Amount<=17179869184):YR A1 (some 0) x=if Zp s x+x.Amount > 17179869184 then some (.pan ⟨12⟩) else some (.ok ()):=by
 have hh:=Xu h hb;have e:(Kv r t s).book.Bonds x.Bond.toNat=Zp s x:=rfl;unfold YR;rw[hp.o];simp only[DO,CQ hb,IF];rw[e,Qq (n:=Zp s x+x.Amount) (by omega)<|by omega];by_cases hlim:Zp s x+x.Amount > 17179869184
 ·have e1:decide (Zp s x+x.Amount<=17179869184)=false:=by simp;omega
  rw[e1,T2 hlim];rfl
 ·have e1:decide (Zp s x+x.Amount<=17179869184)=true:=by simp;omega
  rw[e1,RW hlim];rfl
theorem Gs(h:HT r n t s)(hp:PR r t s A1 A2 A3)(hb:0<=x.Bond/\x.Bond<=15)(ha:1<=x.Amount/\x.Amount<=17179869184):Ja A1 (some 0) x=if Zp s x < x.Amount then some (.pan ⟨10⟩) else some (.ok [Kv r t<|Uf s x<|Zp s x - x.Amount]):=by
 have hh:=Xu h hb;have e:(Kv r t s).book.Bonds x.Bond.toNat=Zp s x:=rfl;unfold Ja;rw[hp.o];simp only[DO,CQ hb,IF];rw[e];by_cases hlim:Zp s x < x.Amount
 ·have e1:decide (Zp s x≥x.Amount)=false:=by simp;omega
  rw[e1,T2 hlim];rfl
 ·have e1:decide (Zp s x≥x.Amount)=true:=by simp;omega
  rw[e1,RW hlim,Qq (n:=Zp s x - x.Amount) (by omega)<|by omega];rfl
theorem IL(h:HT r n t s)(hn:n<=4096)(hp:PR r t s A1 A2 A3)(he:Xa x=true)(k:x.Kind=0):Xb r t (SN s x) (Jn A1 A2 A3 (some 0) x):=by
 obtain⟨hb,ha⟩:=De he<|.inl k;have hh:=Xu h hb;have hl:=h.lim;have hpo:=h.pos;have hr:=Mq h hp hb (by omega);unfold Jn SN Xb;by_cases hlim:Zp s x+x.Amount > 17179869184
 ·rw[T2 hlim] at hr ⊢
  rw[Un hr]
 ·rw[RW hlim] at hr ⊢
  rw[Uv hr];refine⟨[Kv r t {Uf s x (Zp s x+x.Amount) with B:={(Uf s x<|Zp s x+x.Amount).B with Made:=s.B.Made+x.Amount}}],A2,A3,?_,rfl,hp.m,hp.k⟩;rw[hp.o];have e:(Kv r t s).book.Bonds x.Bond.toNat=Zp s x:=rfl;have e2:(Kv r t s).book.Made=s.B.Made:=rfl;simp only[DO,CQ hb,IF,QT,e,e2];rw[Qq (n:=Zp s x+x.Amount) (by omega) (by omega),Qq (n:=s.B.Made+x.Amount) (by omega)<|by omega];rfl
theorem kY{k:UV (Int×Bool)}{ids:UV Int}{id:Int}(hn:(k.map Prod.fst).Nodup)(h:∀i,(Qa k i).getD false=ids.contains i)(i:Int):(Qa (Qw k id true) i).getD false=(ids++[id]).contains i:=by
 have hp:=Jj (l:=k) (k:=id) (v:=true) hn;have hnd:(((id,true)::k.filter (λx=> !(id==x.1))).map Prod.fst).Nodup:=(hp.map Prod.fst).nodup_iff.1<|JM hn;rw[Vc hp hnd];simp only[Qa];by_cases e:i=id
 ·subst e;simp
 ·have e1:(i==id)=false:=by simpa using e
  rw[e1];simp only[By,PP]
  have e2:Qa (k.filter λx=> !(id==x.1)) i=Qa k i:=by
   clear hn h hp hnd
   induction k with
   | nil=>rfl
   | cons y k ih=>
    rw[pz];by_cases h1:id=y.1
    ·have h2:(id==y.1)=true:=by simpa using h1
     have h3:(i==y.1)=false:=by simp;intro h;exact e<|h.trans h1.symm
     simp only[h2,wt,By,PP,Qa,h3,ih]
    ·have h2:(id==y.1)=false:=by simpa using h1
     simp only[h2,tO,OF,Qa,ih]
  rw[e2,h];simp[e]
theorem z8(h:HT r n t s)(hp:PR r t s A1 A2 A3)(he:Xa x=true)(k:x.Kind=1):Xb r t (Ml s x) (YQ A1 A2 A3 (some 0) x):=by
 obtain⟨hb,hto,hid,ha⟩:=zW he k;have hh:=Xu h hb;have hdr:=Gs h hp hb ha;obtain⟨m,hm,hmp⟩:=hp.m;obtain⟨kk,rest,hk,hkn,hkg⟩:=hp.k;unfold YQ Ml Xb;by_cases hne:(x.Bond==x.To)=true
 ·have e1:(x.Bond != x.To)=false:=by simp[bne,hne]
  rw[e1,T2 hne,Un<|Tb 11]
 ·have e1:(x.Bond != x.To)=true:=by simp only[bne];simp only[pT] at hne;rw[hne];rfl
  rw[e1,RW hne,Uv<|CL 11];have o1:(A1[0]?)=some (Kv r t s):=by rw[hp.o];rfl
  have k0:(A3[0]?)=some kk:=by rw[hk];rfl
  have kn:(Kv r t s).known=some 0:=rfl;simp only[DO,o1,kn,k0,hkg];by_cases hc:s.Ids.contains x.Id=true
  ·rw[T2 hc,hc];rw[wt,Un<|Tb 5]
  ·have hc' :s.Ids.contains x.Id=false:=by simpa using hc
   rw[RW hc,hc',tO,Uv<|CL 5];by_cases hlim:Zp s x < x.Amount
   ·rw[T2 hlim] at hdr ⊢
    rw[Un hdr]
   ·rw[RW hlim] at hdr ⊢
    rw[Uv hdr];have m0:(A2[0]?)=some m:=by rw[hm];rfl
    have mo:(Kv r t<|Uf s x<|Zp s x - x.Amount).moving=some 0:=rfl;have kn2:(Kv r t<|Uf s x<|Zp s x - x.Amount).known=some 0:=rfl;refine⟨_,_,_,by simp only[IF,DO,kn2,k0,mo,m0,QT];rfl,rfl,⟨Qw m x.Id<|I9 x,by rw[hm];rfl,?_⟩,⟨Qw kk x.Id true,rest,by rw[hk];rfl,JM hkn,kY hkn hkg⟩⟩
    have hnew:∀q∈s.B.Moving,q.Id≠x.Id:=λq hq e=>by
     have:=h.known q hq;rw[e] at this
     rw[<-pT,List.contains_iff_mem] at hc';exact hc' this
    have h1:=Jj (l:=m) (k:=x.Id) (v:=I9 x)<|(hmp.map Prod.fst).nodup_iff.2<|FB h.sorted
    have h2:m.filter (λe=> !(x.Id==e.1))=m:=rX.2 λe he=>by
     obtain⟨q,hq,rfl⟩:=rG.1<|hmp.mem_iff.1 he;have:=hnew q hq;simp[FC];exact eS this
    rw[h2] at h1
    refine h1.trans ?_;refine(hmp.cons _).trans ?_;have h3:=(CP (q:=I9 x) (l:=s.B.Moving)).symm.map FC;exact h3
theorem OM(hr:VM r)(h:HT r n t s)(hn:n<=4096)(h0:0<=t){u:Acc}(hu:u.B.Bonds x.Bond.toNat=0∨u.B.Bonds x.Bond.toNat=Zp s x)(hb:0<=x.Bond/\x.Bond<=15){was is allowed:Int}(hwas:0<=was/\was<=17179869184)(his:0<=is/\is<=17179869184)(hal:0<=allowed/\allowed<=4611686018427387904)
  (hF:u.B.Found=s.B.Found) (hL:u.B.Lost=s.B.Lost) (hC:u.B.Charged=s.B.Charged) (hD:u.B.Due=s.B.Due):Y5 [Kv r t u] (some 0) x.Bond was is allowed=some [Kv r t<|Bg r t (imax 0<|was - is) allowed {Uf u x (u.B.Bonds x.Bond.toNat+is) with B:={(Uf u x<|u.B.Bonds x.Bond.toNat+is).B with Found:=u.B.Found+imax 0 (is - was)}}]:=by
 have hh:=Xu h hb;have hl:=h.lim;have hpo:=h.pos;have hdu:=h.due;have e1:=Gq (a:=0) (b:=was - is);have e2:=Gq (a:=0) (b:=is - was);have e3:=Tl (a:=imax 0<|was - is) (b:=allowed);have hd:=hr.bD (a:=imax 0 (was - is) - Je (imax 0<|was - is) allowed) (d:=t) (by omega);unfold Y5;simp only[DO,CQ hb,IF,QT];rw[Qq (n:=is - was) (by omega) (by omega),Qq (n:=was - is) (by omega) (by omega),Qq (n:=imax 0 (was - is) - Je (imax 0<|was - is) allowed) (by omega)<|by omega];refine ZM (Tt hr (by omega) (by omega) h0) ?_;simp only[Kv,ru];rw[Qq (n:=u.B.Bonds x.Bond.toNat+is) (by omega) (by omega),Qq (n:=u.B.Found+imax 0 (is - was)) (by omega) (by omega),Qq (n:=u.B.Lost+Je (imax 0<|was - is) allowed) (by omega) (by omega),Qq (n:=u.B.Charged+(imax 0 (was - is) - Je (imax 0<|was - is) allowed)) (by omega) (by omega),Qq (n:=u.B.Due+We r (imax 0 (was - is) - Je (imax 0<|was - is) allowed) t) (by omega)<|by omega];rfl
theorem EC(hr:VM r)(h:HT r n t s)(hn:n<=4096)(h0:0<=t)(hp:PR r t s A1 A2 A3)(he:Xa x=true)(k:x.Kind=2)(hday:x.Day=t):Xb r t (CF r s x) (JV A1 A2 A3 (some 0) x):=by
 obtain⟨hb,hid,ha⟩:=NL he k;have hh:=Xu h hb;have hro:=Mq h hp hb ha;obtain⟨m,hm,hmp⟩:=hp.m;have o1:(A1[0]?)=some (Kv r t s):=by rw[hp.o];rfl
 have m0:(A2[0]?)=some m:=by rw[hm];rfl
 have mo:(Kv r t s).moving=some 0:=rfl;unfold JV CF Xb;simp only[DO,o1,mo,m0,QT,O5 h.sorted hmp];cases hq:s.B.Moving.find? (λq=>q.Id==x.Id) with
 | none=>rfl
 | some p=>
  obtain⟨hmem,hpid,_⟩:=Oj h.sorted hq;have hpk:=h.mov p hmem;have hpa:=hpk.amount;simp only[nj,nU];rw[Uv<|CL 4];by_cases hto:(p.To != x.Bond)=true
  ·have e1:(p.To==x.Bond)=false:=by simpa[bne] using hto
   rw[e1,Un<|Tb 11,T2 hto]
  ·have e1:(p.To==x.Bond)=true:=by simpa[bne] using hto
   rw[e1,Uv<|CL 11,RW hto];by_cases hlim:Zp s x+x.Amount > 17179869184
   ·rw[T2 hlim] at hro ⊢
    rw[Un hro]
   ·rw[RW hlim] at hro ⊢
    rw[Uv hro];have hlo:=hr.loss;have hal0:0<=p.Amount*r.Loss:=ri (by omega) hlo.1;have hal1:p.Amount*r.Loss<=17179869184*10000:=mD hpa.2 hlo.2 hlo.1 (by omega);have hru:(Kv r t s).rules.Loss=r.Loss:=rfl;have hset:=OM (x:=x) hr h hn h0 (u:=s) (.inr rfl) hb (was:=p.Amount) (is:=x.Amount) (allowed:=p.Amount*r.Loss / 10000) (by omega) ha (by omega) rfl rfl rfl rfl;simp only[hru];rw[Qq (n:=p.Amount*r.Loss) (by omega) (by omega),rz hal0,Qq (n:=p.Amount*r.Loss / 10000) (by omega)<|by omega];refine⟨_,_,_,ZM (by rw[hp.o];exact hset) rfl,?_,⟨Jx m x.Id,by rw[hm];rfl,yt h.sorted hmp⟩,hp.k⟩;unfold O4;rw[hday];rfl
theorem E9(hr:VM r){u:Acc}{a day:Int}(ha:0<=a/\a<=17179869184)(hd:0<=day)(hU:0<=u.B.Used/\u.B.Used<=4611686018427387904)(hD:0<=u.B.Due/\u.B.Due<=4611686018427387904):Y2 [Kv r t u] (some 0) a day=some [Kv r t<|Lw r a day u]:=by
 have hdu:=hr.bD (a:=a) (d:=day) (by omega);unfold Y2;simp only[DO,IF,QT];refine ZM (Tt hr ha.1 ha.2 hd) ?_;simp only[Kv,ru];rw[Qq (n:=u.B.Used+a) (by omega) (by omega),Qq (n:=u.B.Due+We r a day) (by omega)<|by omega];rfl
theorem L9(hr:VM r)(h:HT r n t s)(hn:n<=4096)(hp:PR r t s A1 A2 A3)(he:Xa x=true)(k:x.Kind=3):Xb r t (DV r s x) (JU A1 A2 A3 (some 0) x):=by
 obtain⟨hb,ha⟩:=De he<|.inr<|.inl k;have hdr:=Gs h hp hb ha;have hl:=h.lim;have hpo:=h.pos;have hdu:=h.due;unfold JU DV Xb;by_cases hlim:Zp s x < x.Amount
 ·rw[T2 hlim] at hdr ⊢
  rw[Un hdr]
 ·rw[RW hlim] at hdr ⊢
  rw[Uv hdr];exact⟨_,_,_,ZM (E9 hr (by omega) (yk he).1 ⟨by show 0<=s.B.Used;omega,by show s.B.Used<=_;omega⟩ ⟨by show 0<=s.B.Due;omega,by show s.B.Due<=_;omega⟩) rfl,rfl,hp.m,hp.k⟩
theorem IB(h:HT r n t s)(hn:n<=4096)(hp:PR r t s A1 A2 A3)(he:Xa x=true)(k:x.Kind=4):Xb r t (SL s x) (Jm A1 A2 A3 (some 0) x):=by
 obtain⟨hb,ha⟩:=De he<|.inr<|.inr k;have hdr:=Gs h hp hb ha;have hl:=h.lim;have hpo:=h.pos;unfold Jm SL Xb;by_cases hlim:Zp s x < x.Amount
 ·rw[T2 hlim] at hdr ⊢
  rw[Un hdr]
 ·rw[RW hlim] at hdr ⊢
  rw[Uv hdr];have e:(Kv r t<|Uf s x<|Zp s x - x.Amount).book.Exported=s.B.Exported:=rfl;refine⟨[Kv r t {Uf s x (Zp s x - x.Amount) with B:={(Uf s x<|Zp s x - x.Amount).B with Exported:=s.B.Exported+x.Amount}}],A2,A3,?_,rfl,hp.m,hp.k⟩;simp only[DO,IF,QT,e];rw[Qq (n:=s.B.Exported+x.Amount) (by omega)<|by omega];rfl
theorem zw(hr:VM r)(h:HT r n t s)(hn:n<=4096)(h0:0<=t)(ht:t<=65536)(hp:PR r t s A1 A2 A3)(he:Xa x=true)(k:x.Kind=5)(hday:x.Day=t):Xb r t (.inl<|PK r s x) (YO A1 A2 A3 (some 0) x):=by
 obtain⟨hb,ha⟩:=zV he k;have hh:=Xu h hb;have hsu:=h.sums _<|Fv hb;have hsh:=hr.share;have hal0:0<=s.Sums x.Bond.toNat*r.Share:=ri hsu.1 hsh.1;have hal1:s.Sums x.Bond.toNat*r.Share<=65536*17179869184*1000:=mD (by omega) hsh.2 hsh.1 (by omega);have e1:(Kv r t s).sums x.Bond.toNat=s.Sums x.Bond.toNat:=rfl;have e2:(Kv r t s).rules.Share=r.Share:=rfl;have e3:(Kv r t s).book.Bonds x.Bond.toNat=Zp s x:=rfl;have hset:=OM (x:=x) hr h hn h0 (u:={Uf s x 0 with Sums:=ZL s.Sums x.Bond.toNat 0}) (.inl WE) hb (was:=Zp s x) (is:=x.Amount) (allowed:=s.Sums x.Bond.toNat*r.Share / 3650000) hh ha (by omega) rfl rfl rfl rfl;unfold YO Xb;rw[hp.o];simp only[DO,CQ hb,IF,QT,e1,e2,e3,ru];rw[Qq (n:=s.Sums x.Bond.toNat*r.Share) (by omega) (by omega),rz hal0,Qq (n:=s.Sums x.Bond.toNat*r.Share / 3650000) (by omega)<|by omega];refine⟨_,_,_,ZM hset rfl,?_,hp.m,hp.k⟩
 have e4:ZL (ZL s.B.Bonds x.Bond.toNat 0) x.Bond.toNat (ZL s.B.Bonds x.Bond.toNat 0 x.Bond.toNat+x.Amount)=ZL s.B.Bonds x.Bond.toNat x.Amount:=by
  funext i;by_cases e:i=x.Bond.toNat
  ·subst e;rw[WE,WE,WE];omega
  ·rw[XP e,XP e,XP e]
 unfold PK;rw[hday];simp only[Uf,e4]
theorem yB(h:HT r n t s)(hn:n<=4096)(hp:PR r t s A1 A2 A3)(he:Xa x=true)(k:x.Kind=6):Xb r t (kM s x) (Y6 A1 A2 A3 (some 0) x):=by
 have ha:=yj he k;have hl:=h.lim;have hpo:=h.pos;have hdu:=h.due;have e1:(Kv r t s).book.Due=s.B.Due:=rfl;have e2:(Kv r t s).book.Paid=s.B.Paid:=rfl;unfold Y6 kM Xb;rw[hp.o];simp only[DO,IF,QT,e1,e2];rw[Qq (n:=s.B.Due - s.B.Paid) (by omega)<|by omega];by_cases hlim:x.Amount > s.B.Due - s.B.Paid
 ·have e3:decide (x.Amount<=s.B.Due - s.B.Paid)=false:=by simp;omega
  rw[e3,T2 hlim,Un<|Tb 11]
 ·have e3:decide (x.Amount<=s.B.Due - s.B.Paid)=true:=by simp;omega
  rw[e3,RW hlim,Uv<|CL 11,Qq (n:=s.B.Paid+x.Amount) (by omega)<|by omega];exact⟨_,_,_,rfl,rfl,hp.m,hp.k⟩
end
section
open Go.Dec
variable{l:UV (Int×QF)}
variable{r:Gt}{n:Nat}{t d day:Int}{s u:Acc}{x:Ev}{p:QF}{A1:UV QD}{A2:PM}{A3:KM}
def H4(r:Gt)(d:Int)(s:Acc):Acc:={s with B:=(W7 r 0 d s).B}
structure xP(r:Gt)(u:Acc):Prop where
 sorted:u.B.Moving.Pairwise (λp q=>p.Id < q.Id)
 mov:∀p∈u.B.Moving,(1<=p.Amount/\p.Amount<=17179869184)/\0<=p.Sent/\p.Sent<=65536
 used:0<=u.B.Used/\u.B.Used+Yh QF.Amount u.B.Moving<=4611686018427387904
 due:0<=u.B.Due/\u.B.Due+1049*Yh QF.Amount u.B.Moving<=4611686018427387904
theorem HT.pI(h:HT r n t s)(hn:n<=4096)(ht:t<=65536):xP r s where
 sorted:=h.sorted
 mov:=λp hp=>⟨(h.mov p hp).amount,(h.mov p hp).sent.1,by have:=(h.mov p hp).sent.2;omega⟩
 used:=by have:=h.lim;have:=h.pos;omega
 due:=by have:=h.lim;have:=h.pos;have:=h.due;omega
theorem yR(hr:VM r)(h:0<=p.Sent/\p.Sent<=65536):ZC (ZC (p.Sent+r.Transit)+1)=ZK r p:=by
 have:=hr.transit;rw[Qq (n:=p.Sent+r.Transit) (by omega) (by omega),Qq (by omega)<|by omega];rfl
theorem Ti(hr:VM r)(h:0<=p.Sent/\p.Sent<=65536):YT [Kv r t u] (some 0) p=some (ZK r p):=by
 unfold YT;simp only[DO,IF,Kv];rw[yR hr h]
def XW(r:Gt)(day:Int)(D:UV (Int×Bool))(l:UV (Int×QF)):UV (Int×Bool):=l.foldl (λD e=>if ZK r e.2<=day then Qw D (ZK r e.2) true else D) D
theorem mem_set{D:UV (Int×Bool)}{k:Int}(hn:(D.map Prod.fst).Nodup)(ht:∀y∈D,y.2=true)(y:Int×Bool):y∈Qw D k true↔y=(k,true)∨y∈D:=by
 rw[(Jj hn).mem_iff,y1,pf];constructor
 ·rintro(h | ⟨h,_⟩)
  ·exact .inl h
  ·exact .inr h
 ·rintro(h | h)
  ·exact .inl h
  ·by_cases e:k=y.1
   ·left;have:=ht y h;rw[e,<-this]
   ·exact .inr ⟨h,by simpa using e⟩
theorem Ha:∀{l:UV (Int×QF)} {D:UV (Int×Bool)},(D.map Prod.fst).Nodup->(∀y∈D,y.2=true)->
  ((XW r day D l).map Prod.fst).Nodup/\(XW r day D l).length<=D.length+l.length/\∀y,y∈XW r day D l↔y∈D∨∃e∈l,ZK r e.2<=day/\y=(ZK r e.2,true)
 | [],D,hn,ht=>⟨hn,by simp[XW],λy=>by simp[XW]⟩
 | e::l,D,hn,ht=>by
  unfold XW;rw[nv];by_cases hc:ZK r e.2<=day
  ·rw[T2 hc]
   have ht2:∀y∈Qw D (ZK r e.2) true,y.2=true:=λy hy=>by
    rcases(mem_set hn ht y).1 hy with rfl | hy
    ·rfl
    ·exact ht y hy
   have hlen:(Qw D (ZK r e.2) true).length<=D.length+1:=by
    have:=(Jj (k:=ZK r e.2) (v:=true) hn).length_eq;have h2:=mX (λx:Int×Bool=> !(ZK r e.2==x.1)) D;simp only[s5] at this;omega
   obtain⟨h1,h2,h3⟩:=Ha (l:=l) (JM (k:=ZK r e.2) (v:=true) hn) ht2;refine⟨h1,by simp only[s5];unfold XW at h2;omega,λy=> ?_⟩;rw[show(List.foldl (λD e=>if ZK r e.2<=day then Qw D (ZK r e.2) true else D) (Qw D (ZK r e.2) true) l)=XW r day (Qw D (ZK r e.2) true) l from rfl,h3,mem_set hn ht];simp only[y1,exists_eq_or_imp];constructor
   ·rintro((h | h) | h)
    ·exact .inr<|.inl ⟨hc,h⟩
    ·exact .inl h
    ·exact .inr<|.inr h
   ·rintro(h | (h | h))
    ·exact .inl<|.inr h
    ·exact .inl<|.inl h.2
    ·exact .inr h
  ·rw[RW hc];obtain⟨h1,h2,h3⟩:=Ha (l:=l) hn ht;refine⟨h1,by simp only[s5];unfold XW at h2;omega,λy=> ?_⟩;rw[show(List.foldl (λD e=>if ZK r e.2<=day then Qw D (ZK r e.2) true else D) D l)=XW r day D l from rfl,h3];simp only[y1,exists_eq_or_imp];constructor
   ·rintro(h | h)
    ·exact .inl h
    ·exact .inr<|.inr h
   ·rintro(h | (h | h))
    ·exact .inl h
    ·exact absurd h.1 hc
    ·exact .inr h
theorem kq{l':UV (Int×QF)}(hp:l'.Perm l):(XW r day [] l').Perm (XW r day [] l):=by
 have a:=Ha (r:=r) (day:=day) (l:=l') (D:=[]) (by simp) (by simp);have b:=Ha (r:=r) (day:=day) (l:=l) (D:=[]) (by simp)<|by simp
 have nd:∀{L:UV (Int×Bool)},(L.map Prod.fst).Nodup->L.Nodup:=fun{L} h=>by
  rw[List.Nodup,lH] at h
  exact h.imp λh e=>h<|by rw[e]
 refine(lY (nd a.1)<|nd b.1).2 λy=> ?_;rw[a.2.2,b.2.2];constructor
 ·rintro(h | ⟨e,he,h⟩)
  ·exact .inl h
  ·exact .inr ⟨e,hp.mem_iff.1 he,h⟩
 ·rintro(h | ⟨e,he,h⟩)
  ·exact .inl h
  ·exact .inr ⟨e,hp.mem_iff.2 he,h⟩
theorem ju{α:Type}{A:UV α}{x y:α}:List.set (A++[x]) A.length y=A++[y]:=by simp
theorem Tv(hr:VM r):∀{l:UV (Int×QF)} {D:UV (Int×Bool)},(∀e∈l,0<=e.2.Sent/\e.2.Sent<=65536)->
  Yu (Z8 [Kv r t u] A3 (some 0) day) l (A3++[D])=some (A3++[XW r day D l])
 | [],D,_=>rfl
 | e::l,D,h=>by
  have he:=h e<|ph ..
  have step:Z8 [Kv r t u] A3 (some 0) day e (A3++[D])=some (A3++[if ZK r e.2<=day then Qw D (ZK r e.2) true else D]):=by
   unfold Z8;rw[Ti hr he];simp only[DO];by_cases hc:ZK r e.2<=day
   ·have hg:(A3++[D])[A3.length]? =some D:=by simp
    simp only[hc,pv,OF,hg,DO,QT,ju]
   ·simp only[hc,pw,By,PP,DO]
  simp only[Yu,step,DO];exact Tv hr λq hq=>h q<|bY _ hq
theorem qY(hr:VM r)(h:∀e∈l,0<=e.2.Sent/\e.2.Sent<=65536):Bf TR (Z8 [Kv r t u] A3 (some 0) day) l (A3++[[]])=some (A3++[XW r day [] l]):=by
 refine Og (Tv hr h) λl' hl' =>⟨_,Tv hr λe he=>h e<|hl'.mem_iff.1 he,by simp,λi x y hx hy=> ?_⟩;by_cases hi:i < A3.length
 ·rw[pW hi] at hx hy
  rw[hx] at hy;simp only[BY] at hy;subst hy;exact .refl _
 ·rw[py<|by omega] at hx hy
  cases hk:i - A3.length with
  | zero=>
   rw[hk] at hx hy
   simp only[IF,BY] at hx hy
   subst hx;subst hy;exact kq hl'
  | succ k=>rw[hk] at hx;simp at hx
def u5(r:Gt)(day:Int)(l:UV (Int×QF)):UV Int:=((XW r day [] l).map Prod.fst).mergeSort λa b=>decide<|a<=b
theorem kX:(u5 r day l).Pairwise (·< ·):=by
 have hn:=(Ha (r:=r) (day:=day) (l:=l) (D:=[]) (by simp)<|by simp).1;have h1:(u5 r day l).Pairwise (λa b=>decide (a<=b)=true):=lr (λa b c h1 h2=>by simp only[x7] at*;omega) (λa b=>by simp only[rD,x7];omega) _;have h2:(u5 r day l).Nodup:=(nw _ _).nodup_iff.2 hn;exact(h1.and h2).imp λh=>by have:=h.1;have:=h.2;simp only[x7] at*;omega
theorem yU:d∈u5 r day l↔d<=day/\∃e∈l,ZK r e.2=d:=by
 unfold u5;rw[(nw _ _).mem_iff,rG];have h:=(Ha (r:=r) (day:=day) (l:=l) (D:=[]) (by simp)<|by simp).2.2;constructor
 ·rintro⟨y,hy,rfl⟩;rcases(h y).1 hy with hy | ⟨e,he,hl,rfl⟩
  ·cases hy
  ·exact⟨hl,e,he,rfl⟩
 ·rintro⟨hd,e,he,rfl⟩;exact⟨(ZK r e.2,true),(h _).2<|.inr ⟨e,he,hd,rfl⟩,rfl⟩
theorem uG(hr:VM r)(hA1:A1=[Kv r t u]){m:UV (Int×QF)}(hA2:A2=[m])(hm:m.length<=4096)(hs:∀e∈m,0<=e.2.Sent/\e.2.Sent<=65536):Yf A1 A2 A3 (some 0) day=some ((A1,A2,A3++[XW r day [] m]),u5 r day m):=by
 subst hA1;subst hA2;have hsp:=Ha (r:=r) (day:=day) (l:=m) (D:=[]) (by simp) (by simp);have ht:=hr.transit
 have hk:Vo (A3++[XW r day [] m]) (some A3.length)=some (u5 r day m):=by
  have hg:(A3++[XW r day [] m])[A3.length]? =some (XW r day [] m):=by simp
  simp only[Vo,hg,DO,GO];rw[T2]
  ·rfl
  ·refine⟨s8.2 λy hy=> ?_,by have:=hsp.2.1;simp at this;omega⟩;rcases(hsp.2.2 y).1 hy with hy | ⟨e,he,hl,rfl⟩
   ·cases hy
   ·have:=hs e he;simp only[x7];unfold ZK;omega
 unfold Yf;simp only[DO,IF,Kv];have h1:=qY (t:=t) (u:=u) (A3:=A3) (day:=day) hr hs;simp only[Kv] at h1
 rw[h1];simp only[DO,hk]
theorem xP.book(hr:VM r)(h:xP r u):xP r (H4 r d u) where
 sorted:=h.sorted.filter _
 mov:=λp hp=>h.mov p (pf.1 hp).1
 used:=by
  have h1:=h.used;have h2:=Gy (f:=QF.Amount) (c:=λp=>decide<|d < ZK r p) (l:=u.B.Moving);have h3:0<=Yh QF.Amount (u.B.Moving.filter λp=> !decide (d < ZK r p)):=Gz λp hp=>by have:=(h.mov p (pf.1 hp).1).1.1;omega
  simp only[H4,W7];omega
 due:=by
  have h1:=h.due;have h2:=Gy (f:=QF.Amount) (c:=λp=>decide<|d < ZK r p) (l:=u.B.Moving);have h3:0<=Yh (λp=>We r p.Amount<|ZK r p) (u.B.Moving.filter λp=> !decide (d < ZK r p)):=Gz λp hp=>by have:=(h.mov p (pf.1 hp).1).1.1;exact(hr.bD<|by omega).1
  have h4:Yh (λp=>We r p.Amount<|ZK r p) (u.B.Moving.filter λp=> !decide (d < ZK r p))<=Yh (λp=>1049*p.Amount) (u.B.Moving.filter λp=> !decide (d < ZK r p)):=Lx λp hp=>by have:=(h.mov p (pf.1 hp).1).1.1;exact(hr.bD<|by omega).2
  rw[RR] at h4
  simp only[H4,W7];omega
theorem jF{d0:Int}(h:d0<=d):H4 r d (H4 r d0 s)=H4 r d s:=by
 have e:=kN (r:=r) (s:=s) (t:=0) (u:=d0) (d:=d) h;have h1:(W7 r 0 d<|H4 r d0 s).B=(W7 r d0 d<|W7 r 0 d0 s).B:=rfl;unfold H4 at h1 ⊢
 simp only[h1,e]
theorem jE(h:∀p∈s.B.Moving,d < ZK r p):H4 r d s=s:=by
 have e1:s.B.Moving.filter (λp=>decide<|d < ZK r p)=s.B.Moving:=rX.2 λp hp=>by simpa using h p hp
 have e2:s.B.Moving.filter (λp=> !decide (d < ZK r p))=[]:=nk.2 λp hp=>by simpa using h p hp
 simp only[H4,W7,e1,e2,Yh,Int.add_zero]
theorem qG(h:∀p∈s.B.Moving,d<=ZK r p):EU r d s [] s.B.Moving=H4 r d s:=by
 have e1:s.B.Moving.filter (λp=> !(ZK r p==d))=s.B.Moving.filter (λp=>decide<|d < ZK r p):=pe λp hp=>by
  have:=h p hp;by_cases e:ZK r p=d
  ·simp[e]
  ·have e2:d < ZK r p:=by omega
   simp[e,e2]
 have e2:s.B.Moving.filter (λp=>ZK r p==d)=s.B.Moving.filter (λp=> !decide (d < ZK r p)):=pe λp hp=>by
  have:=h p hp;by_cases e:ZK r p=d
  ·simp[e]
  ·have e2:d < ZK r p:=by omega
   simp[e,e2]
 have e3:Yh (λp=>We r p.Amount d) (s.B.Moving.filter λp=> !decide (d < ZK r p))=Yh (λp=>We r p.Amount<|ZK r p) (s.B.Moving.filter λp=> !decide (d < ZK r p)):=RS λp hp=>by
  have h1:=pf.1 hp;have h2:=h p h1.1;have h3:¬d < ZK r p:=by simpa using h1.2
  have:ZK r p=d:=by omega
  rw[this]
 simp only[EU,H4,W7,rZ,e1,e2,e3]
def RF(r:Gt)(d:Int)(u:Acc)(l:UV QF):Acc:={u with B:={u.B with Used:=u.B.Used+Yh QF.Amount (l.filter λp=>ZK r p==d),Due:=u.B.Due+Yh (λp=>We r p.Amount d) (l.filter λp=>ZK r p==d)}}
def CY(r:Gt)(d:Int)(M l:UV (Int×QF)):UV (Int×QF):=l.foldl (λM e=>if ZK r e.2==d then Jx M e.1 else M) M
theorem Tj(hr:VM r)(hd:0<=d):∀{l:UV (Int×QF)} {u:Acc} {M:UV (Int×QF)},(∀e∈l,(1<=e.2.Amount/\e.2.Amount<=17179869184)/\0<=e.2.Sent/\e.2.Sent<=65536)->
  0<=u.B.Used->u.B.Used+Yh QF.Amount (l.map Prod.snd)<=4611686018427387904->0<=u.B.Due->u.B.Due+1049*Yh QF.Amount (l.map Prod.snd)<=4611686018427387904->
  Yu (KD (some 0) d 0 0) l ([Kv r t u],[M])=some ([Kv r t<|RF r d u<|l.map Prod.snd],[CY r d M l])
 | [],u,M,_,_,_,_,_=>by simp[Yu,RF,CY,Yh]
 | e::l,u,M,h,u0,u1,d0,d1=>by
  have he:=h e<|ph ..
  have hs:=Gz (f:=QF.Amount) (l:=l.map Prod.snd) λq hq=>by
   obtain⟨y,hy,rfl⟩:=rG.1 hq;have:=(h y<|bY _ hy).1.1;omega
  simp only[s6,Yh] at u1 d1
  have hdu:=hr.bD (a:=e.2.Amount) (d:=d) (by omega);by_cases hc:ZK r e.2=d
  ·have hb:(ZK r e.2==d)=true:=by simpa using hc
   have step:KD (some 0) d 0 0 e ([Kv r t u],[M])=some ([Kv r t<|Lw r e.2.Amount d u],[Jx M e.1]):=by
    unfold KD;simp only[];rw[Ti hr he.2];have hmo:(Kv r t u).moving=some 0:=rfl;simp only[DO,hb,OF,IF,hmo,gA,QT,ru];rw[E9 hr (by omega) hd (by omega)<|by omega];rfl
   simp only[Yu,step,DO];have ih:=Tj hr hd (l:=l) (u:=Lw r e.2.Amount d u) (M:=Jx M e.1) (λq hq=>h q<|bY _ hq) (by show 0<=u.B.Used+e.2.Amount;omega) (by show u.B.Used+e.2.Amount+_<=_;omega) (by show 0<=u.B.Due+We r e.2.Amount d;omega) (by show u.B.Due+We r e.2.Amount d+_<=_;omega);rw[ih];simp only[RF,Lw,CY,s6,pz,hb,OF,Yh,nv,lk]
  ·have hb:(ZK r e.2==d)=false:=by simpa using hc
   have step:KD (some 0) d 0 0 e ([Kv r t u],[M])=some ([Kv r t u],[M]):=by
    unfold KD;simp only[];rw[Ti hr he.2];simp only[DO,hb,By,PP]
   simp only[Yu,step,DO];have ih:=Tj hr hd (l:=l) (u:=u) (M:=M) (λq hq=>h q<|bY _ hq) u0 (by omega) d0 (by omega);rw[ih];simp only[RF,CY,s6,pz,hb,By,PP,nv]
theorem DA:∀{l M:UV (Int×QF)},(M.map Prod.fst).Nodup->CY r d M l=M.filter (λe=> !(l.any λy=>ZK r y.2==d&&y.1==e.1))
 | [],M,_=>by
  have:M.filter (λe=> !(([]:UV (Int×QF)).any λy=>ZK r y.2==d&&y.1==e.1))=M:=rX.2 λ_ _=>rfl;rw[this];rfl
 | y::l,M,hn=>by
  unfold CY;rw[nv];by_cases hc:(ZK r y.2==d)=true
  ·rw[T2 hc];have:=DA (l:=l) (M:=Jx M y.1)<|D4 hn;unfold CY at this
   rw[this,Wm hn,ry];refine pe λe _=> ?_;simp only[lg,hc,rL,eH,ll]
  ·simp only[pT] at hc
   rw[RW<|by simp[hc]];have:=DA (l:=l) (M:=M) hn;unfold CY at this
   rw[this];refine pe λe _=> ?_;simp only[lg,hc,nm,nE]
theorem yT(hr:VM r)(hd:0<=d)(h:xP r u){m:UV (Int×QF)}(hm:m.Perm (u.B.Moving.map FC)):CH (KD (some 0) d 0 0) m ([Kv r t u],[m])=some ([Kv r t<|EU r d u [] u.B.Moving],[m.filter λe=> !(ZK r e.2==d)]):=by
 have hn:(m.map Prod.fst).Nodup:=(hm.map Prod.fst).nodup_iff.2<|FB h.sorted;refine Oe λl' hl' => ?_
 have hsnd:(l'.map Prod.snd).Perm u.B.Moving:=by
  have h1:=(hl'.trans hm).map Prod.snd;have h2:(u.B.Moving.map FC).map Prod.snd=u.B.Moving:=by rw[nx];exact List.map_id _
  rwa[h2] at h1
 have hs:=DP (f:=QF.Amount) hsnd;have hall:∀e∈l',(1<=e.2.Amount/\e.2.Amount<=17179869184)/\0<=e.2.Sent/\e.2.Sent<=65536:=λe he=>h.mov e.2<|hsnd.mem_iff.1<|pP he;rw[Tj hr hd hall h.used.1 (by rw[hs];exact h.used.2) h.due.1 (by rw[hs];exact h.due.2),DA hn]
 have e1:m.filter (λe=> !(l'.any λy=>ZK r y.2==d&&y.1==e.1))=m.filter (λe=> !(ZK r e.2==d)):=pe λe he=>by
  congr 1;rw[ng,rA];simp only[TO,rh];constructor
  ·rintro⟨y,hy,h1,h2⟩;have:=NH hn (hl'.mem_iff.1 hy) he h2;rw[<-this];exact h1
  ·intro h1;exact⟨e,hl'.mem_iff.2 he,h1,rfl⟩
 rw[e1];have e2:Yh QF.Amount ((l'.map Prod.snd).filter λp=>ZK r p==d)=Yh QF.Amount (u.B.Moving.filter λp=>ZK r p==d):=DP<|hsnd.filter _;have e3:Yh (λp=>We r p.Amount d) ((l'.map Prod.snd).filter λp=>ZK r p==d)=Yh (λp=>We r p.Amount d) (u.B.Moving.filter λp=>ZK r p==d):=DP<|hsnd.filter _;simp only[RF,EU,Kv,e2,e3]
theorem NG(hr:VM r)(h0:0<=day){R:KM}:∀{ks:UV Int} {u:Acc} {m:UV (Int×QF)},ks.Pairwise (·< ·)->(∀d∈ks,0<=d/\d<=day)->xP r u->(∀p∈u.B.Moving,ZK r p<=day->ZK r p∈ks)->m.Perm (u.B.Moving.map FC)->
  ∃m',Yu (Yx<|some 0) ks ([Kv r t u],[m],R)=some ([Kv r t<|H4 r day u],[m'],R)/\m'.Perm ((H4 r day u).B.Moving.map FC)
 | [],u,m,_,_,h,hk,hm=>by
  have e:=jE (r:=r) (d:=day) (s:=u) λp hp=>by
   have:=hk p hp;simp only[lP,imp_false] at this;omega
  rw[e];exact⟨m,rfl,hm⟩
 | d::ks,u,m,hs,hd,h,hk,hm=>by
  have hs' :=aT.1 hs;have hdd:=hd d<|ph ..
  have hge:∀p∈u.B.Moving,d<=ZK r p:=λp hp=>by
   by_cases hc:ZK r p<=day
   ·rcases y1.1 (hk p hp hc) with e | e
    ·omega
    ·have:=hs'.1 _ e;omega
   ·omega
  have hpm:=yT (t:=t) hr hdd.1 h hm;rw[qG hge] at hpm
  have hmo:(Kv r t u).moving=some 0:=rfl
  have step:Yx (some 0) d ([Kv r t u],[m],R)=some ([Kv r t<|H4 r d u],[m.filter λe=> !(ZK r e.2==d)],R):=by
   unfold Yx;simp only[DO,IF,hmo,hpm]
  have hm2:(m.filter λe=> !(ZK r e.2==d)).Perm ((H4 r d u).B.Moving.map FC):=by
   refine(hm.filter _).trans<|.of_eq ?_;rw[lV];show(u.B.Moving.filter λp=> !(ZK r p==d)).map FC=(u.B.Moving.filter λp=>decide<|d < ZK r p).map FC;congr 1;refine pe λp hp=> ?_;have:=hge p hp;by_cases e:ZK r p=d
   ·simp[e]
   ·have e2:d < ZK r p:=by omega
    simp[e,e2]
  obtain⟨m',g1,g2⟩:=NG hr h0 (R:=R) hs'.2 (λq hq=>hd q<|bY _ hq) (h.book hr (d:=d)) (λp hp hl=>by
   have hp' :=pf.1 hp;rcases y1.1 (hk p hp'.1 hl) with e | e
   ·have:=hp'.2;simp only[x7] at this;omega
   ·exact e) hm2
  rw[jF hdd.2] at g1 g2
  exact⟨m',by simp only[Yu,step,DO];exact g1,g2⟩
theorem zx(h:HT r n t s)(hday:t<=day)(h0:0<=t)(hd:day<=65536)(hu:u.B.Bonds=s.B.Bonds)(hu2:u.Sums=s.Sums):ZW (K6 day 0<|Kv r t u) (0,[Kv r t u])=some [Kv r t {u with Sums:=λi=>if i < 16 then s.Sums i+s.B.Bonds i*(day - t) else s.Sums i}]:=by
 obtain⟨f,hf,hloop⟩:=HZ (body:=K6 day 0<|Kv r t u) (λi (f:Nat->Int)=>((i:Int),[Kv r t {u with Sums:=f}])) (λf=>[Kv r t {u with Sums:=f}]) (λi f=>f=λk=>if k < i then s.Sums k+s.B.Bonds k*(day - t) else s.Sums k) 16
  (λi f hi hf=>by
   have e:Yj 16 ((i:Nat):Int)=some i:=Hq hi;have h1:=h.sums i hi;have h2:=h.bonds i hi;have hfi:f i=s.Sums i:=by rw[hf];simp
   have hm0:0<=s.B.Bonds i*(day - t):=ri h2.1 (by omega);have hm1:s.B.Bonds i*(day - t)<=17179869184*(day - t):=nq h2.2 (by omega);have eb:(Kv r t u).book.Bonds i=s.B.Bonds i:=by show u.B.Bonds i=_;rw[hu]
   have ed:(Kv r t {u with Sums:=f}).day=t:=rfl;have es:(Kv r t {u with Sums:=f}).sums i=s.Sums i:=hfi;refine⟨ZL f i<|s.Sums i+s.B.Bonds i*(day - t),?_,?_⟩
   ·unfold K6;rw[T2 (by simp;omega)];simp only[e,DO,QT,eb,IF,ed,es,ru,Af (by omega:i<=4294967296)];rw[Qq (n:=day - t) (by omega) (by omega),Qq (n:=s.B.Bonds i*(day - t)) (by omega) (by omega),Qq (n:=s.Sums i+s.B.Bonds i*(day - t)) (by omega)<|by omega];rfl
   ·funext k;by_cases hk:k=i
    ·subst hk;rw[WE,T2<|by omega]
    ·rw[XP hk,hf];by_cases hlt:k < i
     ·simp only[hlt,OF];rw[T2<|by omega]
     ·simp only[hlt,PP];rw[RW<|by omega])
  (λf hf=>by unfold K6;rw[RW<|by simp]) 16 0 u.Sums rfl (by rw[hu2];funext k;simp)
 have h0' :ZW (K6 day 0<|Kv r t u) (0,[Kv r t u])=some [Kv r t {u with Sums:=f}]:=hloop;rw[h0',hf]
theorem M1(hr:VM r)(h:HT r n t s)(hn:n<=4096)(h0:0<=t)(hday:t<=day)(hd:day<=65536)(hp:PR r t s A1 A2 A3):∃A1' A2' A3',YS A1 A2 A3 (some 0) day=some (A1',A2',A3')/\PR r day (W7 r t day s) A1' A2' A3' :=by
 obtain⟨m,hm,hmp⟩:=hp.m;obtain⟨kk,rest,hk,hkn,hkg⟩:=hp.k;have hu:=h.pI hn<|by omega
 have hmem:∀e∈m,e.2∈s.B.Moving:=λe he=>by
  obtain⟨q,hq,rfl⟩:=rG.1<|hmp.mem_iff.1 he;exact hq
 have hL:=uG (A3:=A3) (day:=day) hr hp.o hm (by have:=hmp.length_eq;have:=h.mlen;simp at*;omega) λe he=>(hu.mov e.2<|hmem e he).2
 obtain⟨m',hlo,hm'⟩:=NG (t:=t) hr (by omega:0<=day) (R:=A3++[XW r day [] m]) (ks:=u5 r day m) (u:=s) (m:=m) kX (λd hd=>by
   obtain⟨h1,e,he,h2⟩:=yU.1 hd;have:=(hu.mov e.2<|hmem e he).2;have:=hr.transit;unfold ZK at h2;omega) hu (λp hp hl=>yU.2 ⟨hl,FC p,hmp.mem_iff.2<|pP hp,rfl⟩) hmp
 have hsu:=zx h hday h0 hd (u:=H4 r day s) rfl rfl;unfold YS;rw[DO];refine⟨[Kv r day<|W7 r t day s],[m'],A3++[XW r day [] m],ZM hL (ZM (by rw[hp.o,hm];exact hlo) ?_),rfl,⟨m',rfl,hm'⟩,⟨kk,rest++[XW r day [] m],by rw[hk];rfl,hkn,hkg⟩⟩;simp only[DO,IF];refine ZM hsu ?_;simp only[DO,IF,QT,ru];rfl
end
section
open Go.Dec
variable{r:Gt}{n:Nat}{t d:Int}{s s' :Acc}{x:Ev}{p:QF}
abbrev gu:Bk:=ZR.mk (λ_=>0) ([]) 0 0 0 0 0 0 0 0
def wT:(Acc ⊕ Int)×Nat->Bk×Int×Int
 | (.inl a,k)=>(a.B,(k:Int),0)
 | (.inr e,k)=>(gu,(k:Int),e)
theorem wi{e:Int}(h:FX r s x= .inr e):e=4∨e=5∨e=10∨e=11∨e=12:=by
 unfold FX SN Ml CF DV SL kM at h
 repeat' split at h
 all_goals first | (cases h;done) | (simp only[rB] at h;subst h;simp)
theorem js{c:AY}{e:Int}(h:Up r c x= .inr e):e=1∨e=7∨e=4∨e=5∨e=10∨e=11∨e=12:=by
 unfold Up at h
 split at h
 ·simp only[rB] at h;omega
 ·split at h
  ·simp only[rB] at h;omega
  ·split at h
   ·cases h
   ·rename_i e' he;simp only[rB] at h
    subst h;have:=wi he;omega
theorem LQ(hr:VM r){day:Int}:∀{l:UV Ev} {n:Nat} {c c' :AY} {k:Nat},HT r n c.day c.acc->0<=c.day->c.day<=day->Bq r day l n c=(.inl c',k)->HT r k c'.day c'.acc/\0<=c'.day/\c'.day<=day/\n<=k/\k<=n+l.length
 | [],n,c,c',k,h,h0,h1,hg=>by
  simp only[Bq,pO,rE] at hg
  obtain⟨rfl,rfl⟩:=hg;exact⟨h,h0,h1,If _,by simp⟩
 | x::l,n,c,c',k,h,h0,h1,hg=>by
  rw[Bq] at hg
  split at hg
  ·rename_i hx;split at hg
   ·rename_i c1 hs;obtain⟨g1,g2,g3,_⟩:=Ah hr h h0 hs;obtain⟨a1,a2,a3,a4,a5⟩:=LQ hr g1 (by omega) (by omega) hg;exact⟨a1,a2,a3,by omega,by simp only[s5];omega⟩
   ·simp only[pO,reduceCtorEq,false_and] at hg
  ·simp only[pO,rE] at hg
   obtain⟨rfl,rfl⟩:=hg;exact⟨h,h0,h1,If _,by simp⟩
def EK:(AY ⊕ Int)×Nat->(Int×Int×Acc) ⊕ (Bk×Int×Int)
 | (.inl c,k)=>.inl (c.day,(k:Int),c.acc)
 | (.inr e,k)=>.inr (gu,(k:Int),e)
end
section
open Go.Dec
variable{l:UV Ev}
variable{r:Gt}{n:Nat}{t d day:Int}{s:Acc}{x:Ev}{p:QF}{A1:UV QD}{A2:PM}{A3:KM}
abbrev jZ:=(UV QD×PM×KM×Ev)->H1 xt
theorem AG:∃D:Nat->jZ,UY (some 0)=some D/\∀(x:Ev),Xa x=true->∃j,Yj 7 x.Kind=some j/\
  ∀{r:Gt} {n:Nat} {t:Int} {s:Acc} {A1:UV QD} {A2:PM} {A3:KM},VM r->HT r n t s->n<=4096->0<=t->t<=65536->PR r t s A1 A2 A3->x.Day=t->Xb r t (FX r s x) (D j (A1,A2,A3,x)):=by
 refine⟨_,rfl,λx he=> ?_⟩;have ix:∀{k:Nat},k < 7->x.Kind=(k:Int)->Yj 7 x.Kind=some k:=λhk e=>by rw[e];exact Hq hk
 rcases IC he with k | k | k | k | k | k | k
 ·refine⟨0,ix (by omega) k,λhr h hn h0 ht hp hday=> ?_⟩;have:=IL h hn hp he k;unfold FX;rw[k];exact this
 ·refine⟨1,ix (by omega) k,λhr h hn h0 ht hp hday=> ?_⟩;have:=z8 h hp he k;unfold FX;rw[k];exact this
 ·refine⟨2,ix (by omega) k,λhr h hn h0 ht hp hday=> ?_⟩;have:=EC hr h hn h0 hp he k hday;unfold FX;rw[k];exact this
 ·refine⟨3,ix (by omega) k,λhr h hn h0 ht hp hday=> ?_⟩;have:=L9 hr h hn hp he k;unfold FX;rw[k];exact this
 ·refine⟨4,ix (by omega) k,λhr h hn h0 ht hp hday=> ?_⟩;have:=IB h hn hp he k;unfold FX;rw[k];exact this
 ·refine⟨5,ix (by omega) k,λhr h hn h0 ht hp hday=> ?_⟩;have:=zw hr h hn h0 ht hp he k hday;unfold FX;rw[k];exact this
 ·refine⟨6,ix (by omega) k,λhr h hn h0 ht hp hday=> ?_⟩;have:=yB h hn hp he k;unfold FX;rw[k];exact this
def xv(r:Gt)(out:(AY ⊕ Int)×Nat)(q:H1 ((Int×UV QD×PM×KM) ⊕ (Zm×Int×Int×H1 Nat))):Prop:=match out with
 | (.inl c,k)=>∃A1 A2 A3,q=some (.inl ((k:Int),A1,A2,A3))/\PR r c.day c.acc A1 A2 A3
 | (.inr e,k)=>q=some (.inr (⟨e⟩,(k:Int),0,some 0))
theorem Rs(hr:VM r)(hd:day<=65536)(hl:l.length<=4096){D:Nat->jZ}(hD:∀(x:Ev),Xa x=true->∃j,Yj 7 x.Kind=some j/\
  ∀{r:Gt} {n:Nat} {t:Int} {s:Acc} {A1:UV QD} {A2:PM} {A3:KM},VM r->HT r n t s->n<=4096->0<=t->t<=65536->PR r t s A1 A2 A3->x.Day=t->Xb r t (FX r s x) (D j (A1,A2,A3,x)))
  {r33:H1 Nat×UV QD×PM×KM} (h33:r33.1=some 0):∀(post:UV Ev) (n:Nat) (c:AY) (A1:UV QD) (A2:PM) (A3:KM),l.drop n=post->n<=l.length->HT r n c.day c.acc->0<=c.day->c.day<=day->PR r c.day c.acc A1 A2 A3->
  xv r (Bq r day post n c) (ZW (Z3 l day r33 D) ((n:Int),A1,A2,A3))
 | [],n,c,A1,A2,A3,hp,hn,h,h0,h1,hP=>by
  have e:n=l.length:=by have:=List.drop_eq_nil_iff.1 hp;omega
  have:Z3 l day r33 D ((n:Int),A1,A2,A3)=some (.done<|.inl ((n:Int),A1,A2,A3)):=by
   unfold Z3;rw[RW<|by simp[e]];rfl
  rw[ZQ,this];exact⟨A1,A2,A3,rfl,hP⟩
 | x::post,n,c,A1,A2,A3,hp,hn,h,h0,h1,hP=>by
  have hlt:n < l.length:=by
   rcases pN n l.length with h | h
   ·exact h
   ·rw[pQ h] at hp;cases hp
  have hx:l[n]? =some x:=by rw[<-lU,hp];rfl
  have hp' :l.drop (n+1)=post:=by rw[<-List.tail_drop,hp];rfl
  have o1:(A1[0]?)=some (Kv r c.day c.acc):=by rw[hP.o];rfl
  have od:(Kv r c.day c.acc).day=c.day:=rfl;rw[Bq];by_cases hle:x.Day<=day
  ·rw[T2 hle];by_cases he:Xa x=true
   ·by_cases hlt2:x.Day < c.day
    ·have:Z3 l day r33 D ((n:Int),A1,A2,A3)=some (.done<|.inr (⟨7⟩,(n:Int),0,some 0)):=by
      unfold Z3;rw[T2 (by simp;omega)];simp only[KI,hx,DO,hle,pv,OF,D9,he];rw[Uv<|CL 1,h33];have e1:decide (x.Day≥c.day)=false:=by simp;omega
      simp only[DO,o1,od,e1];rw[Un<|Tb 7]
     have hs:Up r c x= .inr 7:=by unfold Up;simp only[he,wt,By,PP,hlt2,OF]
     rw[ZQ,this,hs];rfl
    ·obtain⟨B1,B2,B3,hpass,hPR⟩:=M1 hr h (by omega) h0 (show c.day<=x.Day by omega) (by omega) hP;obtain⟨j,hj,hdo⟩:=hD x he;have hpk:=EI hr h (show c.day<=x.Day by omega);have hdo:=hdo hr hpk (by omega) (by omega) (by omega) hPR rfl
     have hb:Z3 l day r33 D ((n:Int),A1,A2,A3)=Qu (D j (B1,B2,B3,x)) (λq136=>some<|.done<|.inr (q136,(n:Int),0,some 0)) λr_130=>some (.next (((n+1:Nat):Int),r_130.1,r_130.2.1,r_130.2.2)):=by
      unfold Z3;rw[T2 (by simp;omega)];simp only[KI,hx,DO,hle,pv,OF,D9,he];rw[Uv<|CL 1,h33];have e1:decide (x.Day≥c.day)=true:=by simp;omega
      simp only[DO,o1,od,e1];rw[Uv<|CL 7,hpass];simp only[DO,hj,QT,Af (by omega:n<=4294967296)]
     have hs:Up r c x=match FX r (W7 r c.day x.Day c.acc) x with | .inl a=>.inl ⟨a,x.Day⟩ | .inr e=>.inr e:=by unfold Up;simp only[he,wt,By,PP,hlt2]<;>rfl
     unfold Xb at hdo
     cases hq:FX r (W7 r c.day x.Day c.acc) x with
     | inl a=>
      rw[hq] at hdo
      obtain⟨C1,C2,C3,hC,hPC⟩:=hdo;rw[Uv hC] at hb
      rw[hq] at hs
      have hs:Up r c x= .inl ⟨a,x.Day⟩:=hs;obtain⟨g1,g2,g3,_⟩:=Ah hr h h0 hs;rw[ZQ,hb,hs];exact Rs hr hd hl hD h33 post (n+1) ⟨a,x.Day⟩ C1 C2 C3 hp' hlt g1 (by omega) hle hPC
     | inr e=>
      rw[hq] at hdo
      rw[Un hdo] at hb
      rw[hq] at hs
      have hs:Up r c x= .inr e:=hs;rw[ZQ,hb,hs];rfl
   ·simp only[pT] at he
    have:Z3 l day r33 D ((n:Int),A1,A2,A3)=some (.done<|.inr (⟨1⟩,(n:Int),0,some 0)):=by
     unfold Z3;rw[T2 (by simp;omega)];simp only[KI,hx,DO,hle,pv,OF,D9,he];rw[Un<|Tb 1,h33]
    have hs:Up r c x= .inr 1:=by unfold Up;simp only[he,tO,OF]
    rw[ZQ,this,hs];rfl
  ·have:Z3 l day r33 D ((n:Int),A1,A2,A3)=some (.done<|.inl ((n:Int),A1,A2,A3)):=by
    unfold Z3;rw[T2 (by simp;omega)];simp only[KI,hx,DO,hle,pw,By,PP]
   rw[ZQ,this,RW hle];exact⟨A1,A2,A3,rfl,hP⟩
def E4(r:Gt)(day:Int)(out:(Acc ⊕ Int)×Nat)(q:H1 (H1 Nat×Int×Int×UV QD×PM×KM)):Prop:=match out with
 | (.inl a,k)=>∃A1 A2 A3,q=some (some 0,(k:Int),0,A1,A2,A3)/\PR r day a A1 A2 A3
 | (.inr e,k)=>q=some (none,(k:Int),e,[],[],[])
theorem fB(r:Gt):PR r 0 B6 [Kv r 0 B6] [[]] [[]]:=⟨rfl,⟨[],rfl,by simp[B6]⟩,⟨[],[],rfl,by simp,λi=>by simp[Qa,B6]⟩⟩
theorem HX(hlr:r.Rates.length<=1000000)(hl:l.length<=4096∨4096 < l.length):E4 r day (Yi r l day) (Wn r l day):=by
 unfold Wn Yi;rw[Su hlr,DO];by_cases h1:G6 r=true
 ·simp only[h1,wt,By,PP];by_cases h2:l.length > 4096
  ·have e2:decide ((l.length:Int) > 4096)=true:=by simp;omega
   rw[T2 h2,T2 e2];rfl
  ·have e2:¬decide ((l.length:Int) > 4096)=true:=by simp;omega
   rw[RW h2,RW e2];by_cases h3:Wt day 0 65536=true
   ·simp only[Tq,h3,wt,By,PP];have hr:=TW.1 h1;have hd:=Yg.1 h3;obtain⟨D,hD,hDD⟩:=AG;have hno:WT [] [] [] r=some (some 0,[Kv r 0 B6],[[]],[[]]):=rfl;have hloop:=Rs hr hd.2 (by omega:l.length<=4096) hDD (r33:=(some 0,[Kv r 0 B6],[[]],[[]])) rfl l 0 NV _ _ _ (mC ..) (mK _) (Et r) (by simp[NV]) (by simp[NV];omega)<|fB r;rw[hno,DO,hD,DO];unfold xv at hloop
    unfold Pk;cases hg:Bq r day l 0 NV with
    | mk q k=>
     rw[hg] at hloop
     cases q with
     | inr e=>
      have hloop:ZW (Z3 l day (some 0,[Kv r 0 B6],[[]],[[]]) D) (0,[Kv r 0 B6],[[]],[[]])=_:=hloop;rw[hloop];rfl
     | inl c=>
      obtain⟨A1,A2,A3,hq,hP⟩:=hloop;have hq:ZW (Z3 l day (some 0,[Kv r 0 B6],[[]],[[]]) D) (0,[Kv r 0 B6],[[]],[[]])=_:=hq;obtain⟨a1,a2,a3,a4,a5⟩:=LQ hr (Et r) (by simp[NV]) (by simp[NV];omega) hg;obtain⟨B1,B2,B3,hpass,hPR⟩:=M1 hr a1 (by omega) a2 a3 hd.2 hP;rw[hq,DO];exact⟨B1,B2,B3,ZM hpass rfl,hPR⟩
   ·simp only[pT] at h3
    simp only[Tq,h3,tO,OF];rfl
 ·simp only[pT] at h1
  simp only[h1,tO,OF];rfl
theorem CG{a:Acc}{k:Nat}(h:Yi r l day=(.inl a,k)):VM r/\HT r k day a/\(0<=day/\day<=65536)/\k<=l.length:=by
 unfold Yi at h
 split at h
 ·simp at h
 ·rename_i h1;split at h
  ·simp at h
  ·split at h
   ·simp at h
   ·rename_i h3;have hr:=TW.1 (by simpa using h1:G6 r=true);have hd:=Yg.1 (by simpa using h3:Wt day 0 65536=true);unfold Pk at h
    split at h
    ·rename_i c k' hg;simp only[pO,rE] at h
     obtain⟨rfl,rfl⟩:=h;obtain⟨a1,a2,a3,a4,a5⟩:=LQ hr (Et r) (by simp[NV]) (by simp[NV];omega) hg;exact⟨hr,EI hr a1 a3,hd,by omega⟩
    ·simp at h
theorem ya:∀{n:Nat} {c:AY} {e:Int} {k:Nat},Bq r day l n c=(.inr e,k)->(e=1∨e=7∨e=4∨e=5∨e=10∨e=11∨e=12)/\n<=k/\k < n+l.length:=by
 induction l with
 | nil=>intro n c e k h;simp[Bq] at h
 | cons x l ih=>
  intro n c e k h;rw[Bq] at h
  split at h
  ·split at h
   ·have:=ih h;simp only[s5];exact⟨this.1,by omega,by omega⟩
   ·rename_i e' hs;simp only[pO,rB] at h
    obtain⟨rfl,rfl⟩:=h;simp only[s5];exact⟨js hs,by omega,by omega⟩
  ·simp at h
theorem C6{e:Int}{k:Nat}(h:Yi r l day=(.inr e,k)):e≠0:=by
 unfold Yi at h
 split at h
 ·simp at h;omega
 ·split at h
  ·simp at h;omega
  ·split at h
   ·simp at h;omega
   ·unfold Pk at h
    split at h
    ·simp at h
    ·rename_i e' k' hg;simp only[pO,rB] at h
     obtain⟨rfl,rfl⟩:=h;have:=ya hg;omega
end
section
open Go.Dec
variable{l:UV QF}
variable{r:Gt}{n:Nat}{t d day:Int}{s a:Acc}{x:Ev}{p:QF}{l:UV Ev}
theorem Dy:∀{a b:UV Int},a.Pairwise (·< ·)->b.Pairwise (·< ·)->(∀x,x∈a↔x∈b)->a=b
 | [],[],_,_,_=>rfl
 | [],y::b,_,_,h=>by have:=(h y).2 (by simp);simp at this
 | x::a,[],_,_,h=>by have:=(h x).1 (by simp);simp at this
 | x::a,y::b,ha,hb,h=>by
  have ha' :=aT.1 ha;have hb' :=aT.1 hb
  have exy:x=y:=by
   have h1:=(h x).1 (by simp);have h2:=(h y).2 (by simp);rcases y1.1 h1 with e | h1
   ·exact e
   ·rcases y1.1 h2 with e | h2
    ·exact e.symm
    ·have:=hb'.1 x h1;have:=ha'.1 y h2;omega
  subst exy;congr 1;refine Dy ha'.2 hb'.2 λz=> ?_;constructor
  ·intro hz;have:=(h z).1<|bY _ hz;rcases y1.1 this with rfl | this
   ·have:=ha'.1 z hz;omega
   ·exact this
  ·intro hz;have:=(h z).2<|bY _ hz;rcases y1.1 this with rfl | this
   ·have:=hb'.1 z hz;omega
   ·exact this
theorem O2{l:UV QF}(h:l.Pairwise (λp q=>p.Id < q.Id)):(l.map QF.Id).Pairwise (·< ·):=lH.2 h
theorem yW{m:UV (Int×QF)}{l:UV QF}(hs:l.Pairwise (λp q=>p.Id < q.Id))(hm:m.Perm (l.map FC))(hr:∀p∈l,0<=p.Id/\p.Id<=1073741824)(hl:l.length<=1000000):GO m=some (l.map QF.Id):=by
 have hmp:(m.map Prod.fst).Perm (l.map QF.Id):=by
  have:=hm.map Prod.fst;have e:(l.map FC).map Prod.fst=l.map QF.Id:=by rw[nx];rfl
  rwa[e] at this
 unfold GO;rw[T2]
 ·congr 1;have h1:((m.map Prod.fst).mergeSort λa b=>decide<|a<=b).Pairwise (λa b=>decide (a<=b)=true):=lr (λa b c h1 h2=>by simp only[x7] at*;omega) (λa b=>by simp only[rD,x7];omega) _;have hp:=(nw (m.map Prod.fst) λa b=>decide<|a<=b).trans hmp;have hnd:(l.map QF.Id).Nodup:=(O2 hs).imp λh=>lz h;have h2:((m.map Prod.fst).mergeSort λa b=>decide<|a<=b).Nodup:=hp.nodup_iff.2 hnd;exact Dy ((h1.and h2).imp λh=>by have:=h.1;have:=h.2;simp only[x7] at*;omega) (O2 hs) λx=>hp.mem_iff
 ·refine⟨s8.2 λy hy=> ?_,by have:=hm.length_eq;simp at this;omega⟩;obtain⟨q,hq,rfl⟩:=rG.1<|hm.mem_iff.1 hy;have:=hr q hq;exact rI<|show -9223372036854775808<=q.Id/\q.Id<=9223372036854775807 by omega
theorem yf{l:UV QF}(hs:l.Pairwise (λp q=>p.Id < q.Id))(hp:p∈l):l.find? (λq=>q.Id==p.Id)=some p:=by
 cases h:l.find? (λq=>q.Id==p.Id) with
 | none=>have:=List.find?_eq_none.1 h p hp;simp at this
 | some q=>
  have hq:=re h;have e:q.Id=p.Id:=by simpa using List.find?_some h
  rw[uK hs hq hp e]
theorem jY{amount:Int}(hlr:r.Rates.length<=1000000):Xh r amount day=some (if !G6 r then(0,1) else if !Wt amount 0 17179869184|| !Wt day 0 65536 then(0,2) else(We r amount day,0)):=by
 unfold Xh;rw[Su hlr,DO];simp only[Gr,Tq];by_cases h1:G6 r=true
 ·simp only[h1,wt,By,PP];by_cases h2:(!Wt amount 0 17179869184|| !Wt day 0 65536)=true
  ·rw[T2 h2,T2 h2]
  ·rw[RW h2,RW h2];simp only[rD,po,not_or,Bool.not_eq_false] at h2
   have ha:=Yg.1 h2.1;have hd:=Yg.1 h2.2;exact ZM (Tt (TW.1 h1) ha.1 ha.2 hd.1) rfl
 ·simp only[pT] at h1
  simp only[h1,tO,OF]
theorem M0{k:Nat}(h:Yi r l day=(.inl a,k)):l.length<=4096:=by
 rcases pN 4096 l.length with h1 | h1
 ·unfold Yi at h
  split at h
  ·simp at h
  ·simp at h
 ·exact h1
theorem Oo{A1:UV QD}{m:UV (Int×QF)}{k e:Int}{o:H1 Nat}{A3:KM}(hs:a.B.Moving.Pairwise (λp q=>p.Id < q.Id))(hm:m.Perm (a.B.Moving.map FC))(hl:a.B.Moving.length<=1000000):ZW (Vy (o,k,e,A1,[m],A3) (Kv r day a)<|a.B.Moving.map QF.Id) (0,(Kv r day a).book)=some a.B:=by
 obtain⟨b,hb,hloop⟩:=X0 (body:=Vy (o,k,e,A1,[m],A3) (Kv r day a)<|a.B.Moving.map QF.Id) (λi (b:Bk)=>((i:Int),b)) (λb=>b) (λpre b=>b={a.B with Moving:=pre}) a.B.Moving
  (λpre q post b hl' hb=>by
   have hil:pre.length < a.B.Moving.length:=by rw[hl'];simp
   have hx:(a.B.Moving.map QF.Id)[pre.length]? =some q.Id:=by rw[hl'];simp
   have hmo:(Kv r day a).moving=some 0:=rfl;have hq:Qa m q.Id=some q:=by rw[O5 hs hm];exact yf hs (by rw[hl'];simp)
   refine⟨{a.B with Moving:=pre++[q]},?_,rfl⟩;subst hb;unfold Vy;rw[T2 (by simp;omega)];simp only[KI,hx,DO,hmo,IF,hq,nU];refine ZM (AS (by simp;omega)) ?_;simp only[QT,Af (by omega:pre.length<=4294967296)])
  (λb hb=>by
   unfold Vy;rw[RW<|by simp]) a.B.Moving [] {a.B with Moving:=[]} rfl rfl
 have h0:ZW (Vy (o,k,e,A1,[m],A3) (Kv r day a)<|a.B.Moving.map QF.Id) (0,(Kv r day a).book)=some b:=hloop;rw[h0,hb]
theorem SO(hlr:r.Rates.length<=1000000)(hl:l.length<=4096∨4096 < l.length):Wo r l day=some (wT<|Yi r l day):=by
 have hp:=HX (day:=day) hlr hl;unfold E4 at hp
 unfold Wo;cases h:Yi r l day with
 | mk q k=>
  rw[h] at hp
  cases q with
  | inr e=>
   have he:=C6 h;have hp:Wn r l day=some (none,(k:Int),e,[],[],[]):=hp;have hne:(e != 0)=true:=by simpa using he
   rw[hp];simp only[DO,hne,OF,wT]
  | inl a=>
   obtain⟨A1,A2,A3,hq,hP⟩:=hp;obtain⟨hr,hok,hd,hk⟩:=CG h;obtain⟨m,hm,hmp⟩:=hP.m;have hml:a.B.Moving.length<=1000000:=by have:=M0 h;have:=hok.mlen;omega
   have ho:A1[0]? =some (Kv r day a):=by rw[hP.o];rfl
   have hks:Vo A2 (some 0)=some (a.B.Moving.map QF.Id):=by
    rw[hm];simp only[Vo,IF,DO];exact yW hok.sorted hmp (λp hp=>(hok.mov p hp).id) hml
   rw[hq];simp only[DO,nR,By,PP,ho];have hno:wU (Kv r day a).book.Moving=some ():=rfl;have hmo:(Kv r day a).moving=some 0:=rfl;rw[hno,DO,hmo,hks,DO,hm];exact ZM (Oo hok.sorted hmp hml) rfl
end
section
open Go.Dec
variable{r:Gt}{n:Nat}{t d day:Int}{s a:Acc}{x:Ev}{p:QF}{l:UV Ev}
theorem uV{k:Nat}{b:Acc}(h:HT r k d b)(hk:k<=4096):(0<=b.B.Due/\b.B.Due<=4611686018427387904)/\0<=b.B.Paid/\b.B.Paid<=b.B.Due:=by
 have:=h.pos;have:=h.due;have:=h.lim;omega
end
end Go.Proofs.YtijhfeohbhedkaaGreatDoor.Ex
namespace Go.Proofs.YtijhfeohbhedkaaGreatDoor.Bo
section
open Go.Dec
variable{s:UV QB}{x:QB}
def P3(x:QB)(n:Int):Prop:=x.Lo<=n/\n<=x.Hi
def mem(s:UV QB)(n:Int):Prop:=∃y∈s,P3 y n
structure Wv(s:List QB):Prop where
 ok:∀y∈s,0<=y.Lo/\y.Lo<=y.Hi/\y.Hi<=1099511627776
 apart:s.Pairwise λa b=>a.Hi+1 < b.Lo
theorem SA(n:Int):¬mem [] n:=by simp[mem]
theorem mem_cons(y:QB)(s:UV QB)(n:Int):mem (y::s) n↔P3 y n∨mem s n:=by simp[mem]
theorem mem_append(s t:UV QB)(n:Int):mem (s++t) n↔mem s n∨mem t n:=by
 simp only[mem,ra];constructor
 ·rintro⟨y,h | h,k⟩
  ·exact .inl ⟨y,h,k⟩
  ·exact .inr ⟨y,h,k⟩
 ·rintro(⟨y,h,k⟩ | ⟨y,h,k⟩)
  ·exact⟨y,.inl h,k⟩
  ·exact⟨y,.inr h,k⟩
theorem Wv.nil:Wv []:=⟨by simp,by simp⟩
theorem Wv.tail{y:QB}(h:Wv (y::s)):Wv s:=⟨λz hz=>h.ok z (by simp[hz]),(aT.1 h.apart).2⟩
theorem Wv.cF{y:QB}(h:Wv s)(hy:0<=y.Lo/\y.Lo<=y.Hi/\y.Hi<=1099511627776)(hs:∀z∈s,y.Hi+1 < z.Lo):Wv (y::s):=by
 refine⟨λz hz=> ?_,aT.2 ⟨hs,h.apart⟩⟩;rcases y1.1 hz with rfl | hz
 ·exact hy
 ·exact h.ok z hz
theorem Wv.append{t:UV QB}(h:Wv s)(k:Wv t)(hst:∀a∈s,∀b∈t,a.Hi+1 < b.Lo):Wv (s++t):=by
 refine⟨λz hz=> ?_,ma.2 ⟨h.apart,k.apart,hst⟩⟩;rcases ra.1 hz with hz | hz
 ·exact h.ok z hz
 ·exact k.ok z hz
theorem Wv.split{t:UV QB}(h:Wv (s++t)):Wv s/\Wv t/\∀a∈s,∀b∈t,a.Hi+1 < b.Lo:=by
 have:=ma.1 h.apart;exact⟨⟨λz hz=>h.ok z (by simp[hz]),this.1⟩,⟨λz hz=>h.ok z (by simp[hz]),this.2.1⟩,this.2.2⟩
theorem Bh(s:UV QB)(f:QB->Bool)(hl:s.length<=1000000):JT s (λx=>some<|f x)=some (match s.findIdx? f with | some i=>(i:Int) | none=> -1):=by
 unfold JT
 have key:=DY (body:=Jv s λx=>some<|f x) (fun(_:Unit) i=>(i:Int)) (λ_ i x=>if f x then some (.done<|.inr (i:Int)) else some (.next ())) (λ_=>.inl ()) s
  (λt i x hx=>by
   have hi:=Zr hx;unfold Jv;simp only[KI,hx,DO];rw[Qq (by omega)<|by omega];simp only[show(decide<|(i:Int) < (s.length:Int))=true by simpa using hi,OF];cases f x<;>simp[UI.cG])
  (λt=>by unfold Jv;simp) ()
 simp only[pb] at key
 rw[key]
 have gen:∀(l:UV QB) (i:Nat),P5 (fun(_:Unit) i x=>if f x then some (.done<|.inr (i:Int)) else some (.next ())) (λ_=>(.inl ():Unit ⊕ Int)) l i ()=some (match l.findIdx? f with | some k=>.inr ((i+k:Nat):Int) | none=>.inl ()):=by
  intro l
  induction l with
  | nil=>intro i;simp[P5]
  | cons x l ih=>
   intro i;simp only[P5,List.findIdx?_cons];cases hf:f x with
   | true=>simp
   | false=>
    simp only[By,PP];rw[ih];cases l.findIdx? f with
    | none=>simp
    | some k=>simp;omega
 rw[gen];cases s.findIdx? f<;>simp
theorem A9(s:UV QB)(f:QB->Bool)(hl:s.length<=1000000):Kr s (λx=>some<|f x)=some (s.any f):=by
 unfold Kr;rw[Bh s f hl];simp only[DO,BY];cases h:s.findIdx? f with
 | none=>
  rw[lb] at h
  simp only[show ¬((-1:Int)≥0) by omega,pw]
  symm;simpa using h
 | some i=>
  rw[mv] at h
  obtain⟨hi,hf,_⟩:=h;simp only[mA,show(0:Int)<=(i:Int) by omega,pv]
  symm;rw[rA];exact⟨_,lQ hi,hf⟩
theorem Oi(hl:s.length<=1000000)(hn:Wv s)(hx:x.Lo<=x.Hi):∃b,YV s x=some b/\(b=true↔∃n,P3 x n/\mem s n):=by
 refine⟨_,by unfold YV;rw[A9 s _ hl];rfl,?_⟩;rw[rA];simp only[Jt,TO,x7,mem,P3];constructor
 ·rintro⟨y,hy,h1,h2⟩;have:=hn.ok y hy;by_cases h:x.Lo<=y.Lo
  ·exact⟨y.Lo,by omega,y,hy,by omega⟩
  ·exact⟨x.Lo,by omega,y,hy,by omega⟩
 ·rintro⟨n,hn',y,hy,h⟩;exact⟨y,hy,by omega,by omega⟩
theorem NW(hn:Wv s)(hx:x.Lo<=x.Hi):(∃y∈s,y.Lo<=x.Lo/\x.Hi<=y.Hi)↔∀n,P3 x n->mem s n:=by
 constructor
 ·rintro⟨y,hy,h1,h2⟩ n hn';exact⟨y,hy,by simp only[P3] at hn' ⊢;omega⟩
 ·intro h;obtain⟨y,hy,hm⟩:=h x.Lo ⟨by omega,hx⟩;refine⟨y,hy,hm.1,?_⟩;apply r7;intro hc;simp only[P3] at hm h
  obtain⟨z,hz,hm2⟩:=h (y.Hi+1) ⟨by omega,by omega⟩;simp only[P3] at hm2
  have hpw:=hn.apart;rw[mF] at hpw
  obtain⟨i,hi,ei⟩:=rW hy;obtain⟨j,hj,ej⟩:=rW hz;have oy:=hn.ok y hy;have oz:=hn.ok z hz;rcases my i j with h' | h' | h'
  ·have:=hpw i j hi hj h';rw[ei,ej] at this;omega
  ·subst h';rw[ei] at ej;subst ej;omega
  ·have:=hpw j i hj hi h';rw[ei,ej] at this;omega
theorem ku(hl:s.length<=1000000)(hn:Wv s)(hx:x.Lo<=x.Hi):∃b,VH s x=some b/\(b=true↔∀n,P3 x n->mem s n):=by
 refine⟨_,by unfold VH;rw[A9 s _ hl];rfl,?_⟩;rw[rA,<-NW hn hx];simp only[YW,TO,x7]
end
end Go.Proofs.YtijhfeohbhedkaaGreatDoor.Bo
end
